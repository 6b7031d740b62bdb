/- The abstract semantics and the model: codes,functions. Own text. -/
import Derived.Test.YtkdjbefmiiibpaaGreatDoorAbsSound2
set_option linter.unusedVariables false
set_option linter.unusedSimpArgs false
namespace Go.Abs
open Go
def exOf:Ex→Exit
 | .normal=>.normal
 | .exit id=>.exit id
 | .ret=>.ret
theorem ZB {p:Nat→Prop} (h:∃ n,p n):∃ n,p n∧∀ m,p m→n≤m:=by
 obtain⟨n,hn⟩:=h
 induction n using Nat.strongRecOn with
 | _ n ih=>
  by_cases hm:∃ m,m<n∧p m
  ·obtain⟨m,h1,h2⟩:=hm
   exact ih m h1 h2
  ·exact⟨n,hn,fun m hpm=>by
    rcases Nat.lt_or_ge m n with h | h
    ·exact absurd ⟨m,h,hpm⟩ hm
    ·exact h⟩
open Classical in
noncomputable def Zox (p:Nat→Prop):Nat:=if h:∃ n,p n then (ZB h).choose else 0
theorem ZlN {p:Nat→Prop} (h:∃ n,p n):p (Zox p)∧∀ m,p m→Zox p≤m:=by
 unfold Zox
 rw[dif_pos h]
 exact(ZB h).choose_spec
theorem Zzu {P:Program} {c:Code} {Q:Exit→Act→World→Prop} (J:Nat→Act→World→Prop) (round:∀ n a w,J n a w→c.wp P (Exit.then (fun a' w'=>∃ m,m<n∧J m a' w') Q) a w) {n:Nat} {a:Act} {w:World} (h0:J n a w) :
  (Code.loop c).wp P Q a w:=by
 refine wp_loop (fun a w=>∃ n,J n a w) (fun a w=>Zox fun n=>J n a w) ⟨n,h0⟩ fun a w hI=>?_
 refine wp_mono (round _ a w (ZlN hI).1) fun e a' w' he=>?_
 cases e with
 | normal=>
  obtain⟨m,hm,hJ⟩:=he
  exact⟨⟨m,hJ⟩,Nat.lt_of_le_of_lt ((ZlN ⟨m,hJ⟩).2 m hJ) hm⟩
 | _=>exact he
section
variable {P:Program} {nt:Nat} {F A:Nat→Prop} {Γ0:Gh}
def Wp (P:Program) (C:Orc) (M:Zt) (nt:Nat):Prop:=
 ∀ (F A:Nat→Prop) (Γ0:Gh) (ops:Array Oper) (os:List CO) (nx m:Nat) (sl:Sl) (hp:Hp) (r:Sl×Hp) (I:Nat→Prop) (Γ:Gh) (a:Act) (w:World) (Q:Exit→Act→World→Prop) (id:Nat),
  Q6 (ZnD P nt ops.toList) ops.toList=some os→ZpC ops os=true→JV C M nx 0 false os sl hp=some r→Zah os r.1 (Zed ops os)=true→Sim nt F A I Γ (Zbz nx) sl hp a w→ZhC Γ0 Γ hp →
  (∀ a' w',ZbA nt F A Γ0 I w { sl:=r.1,hp:=r.2,nx:=nx+64*ops.size,m:=m } a' w'→Q .normal a' w')→(Code.region id ops true).wp P Q a w
theorem ZA6 {C:Orc} {M:Zt} {N:Nat}:∀ (c:Ze) (st st' : St) (e:Ex),ZL C M N c st=some (e,st')→st'.m=st.m:=by
 intro c
 induction c with
 | skip=>intro st st' e h;simp only[ZL] at h;cases h;rfl
 | region n d ops=>
  intro st st' e h
  cases d<;>(simp only[ZL,ZlH] at h;obtain⟨r,_,h⟩:=Za h;cases h;rfl)
 | seq x y ihx ihy=>
  intro st st' e h
  simp only[ZL] at h
  cases hx:ZL C M N x st with
  | none=>rw[hx] at h;cases h
  | some q=>
   obtain⟨e1,st1⟩:=q
   rw[hx] at h
   have h1:=ihx _ _ _ hx
   cases e1<;>simp only[andThen] at h
   ·rw[ihy _ _ _ h,h1]
   ·cases h;exact h1
   ·cases h;exact h1
 | cond c x y ihx ihy=>
  intro st st' e h
  simp only[ZL] at h
  unfold ZiK at h
  split at h
  ·split at h
   ·exact ihx _ _ _ h
   ·exact ihy _ _ _ h
  ·cases h
 | block id c ih=>
  intro st st' e h
  simp only[ZL] at h
  cases hx:ZL C M N c st with
  | none=>rw[hx] at h;cases h
  | some q=>
   obtain⟨e1,st1⟩:=q
   rw[hx] at h
   have h1:=ih _ _ _ hx
   unfold Zh9 at h
   split at h
   ·rename_i j st2 hq
    cases hq
    split at h<;>(cases h;exact h1)
   ·cases h;exact h1
 | loop c ih=>
  intro st st' e h
  simp only[ZL] at h
  have key:∀ (K:List Nat) (n:Nat) (st:St),JW (ZL C M N c) K n st=some (e,st')→st'.m=st.m:=by
   intro K n
   induction n with
   | zero=>intro st h;simp only[JW] at h;cases h
   | succ n ihn=>
    intro st h
    simp only[JW] at h
    cases hx:ZL C M N c (JG K st) with
    | none=>rw[hx] at h;cases h
    | some q=>
     obtain⟨e1,st1⟩:=q
     rw[hx] at h
     have h1:=ih _ _ _ hx
     cases e1 with
     | normal=>simp only at h;rw[ihn _ h,h1];rfl
     | exit id=>simp only at h;cases h;exact h1
     | ret=>simp only at h;cases h;exact h1
  exact key _ N st h
 | exit id=>intro st st' e h;simp only[ZL] at h;cases h;rfl
 | ret=>intro st st' e h;simp only[ZL] at h;cases h;rfl
 | stuck=>intro st st' e h;simp only[ZL] at h;cases h
 | link id i j c ih=>
  intro st st' e h
  simp only[ZL] at h
  obtain⟨st1,h1,h⟩:=Za h
  rw[ih _ _ _ h]
  unfold ZfG at h1
  obtain⟨n,_,h1⟩:=Za h1
  split at h1
  ·obtain⟨o,_,h1⟩:=Za h1
   cases h1;rfl
  ·cases h1
 | melt c ih=>
  intro st st' e h
  simp only[ZL] at h
  rw[ih _ _ _ h];rfl
 | keep K c ih=>
  intro st st' e h
  simp only[ZL] at h
  cases hx:ZL C M N c st with
  | none=>rw[hx] at h;cases h
  | some q=>
   obtain⟨e1,st1⟩:=q
   rw[hx] at h
   simp only[ZnF] at h
   cases h
   show st1.m=st.m
   exact ih _ _ _ hx
theorem ZC7 (K:List Nat) (sl:Sl) (t:Nat):gs (only K sl) t=if K.contains t then gs sl t else .junk:=by
 simp only[gs,ZlM]
 split<;>rfl
theorem Sim.only {I:Nat→Prop} {Γ:Gh} {U:Nat→Prop} {sl:Sl} {hp:Hp} {a:Act} {w:World} (h:Sim nt F A I Γ U sl hp a w) (K:List Nat):Sim nt F A I Γ U (only K sl) hp a w where
 nt:=h.nt
 dfr:=h.dfr
 slots:=fun t=>by
  rw[ZC7]
  split
  ·exact h.slots t
  ·exact trivial
 objs:=h.objs
 inj:=h.inj
 bound:=h.bound
 fresh:=h.fresh
 own:=h.own
 names:=h.names
 glob:=h.glob
theorem ZbA.only {I:Nat→Prop} {w:World} {st' : St} {a' : Act} {w' : World} (h:ZbA nt F A Γ0 I w st' a' w') (K:List Nat):ZbA nt F A Γ0 I w { st' with sl:=only K st'.sl } a' w':=by
 obtain⟨I',Γ',h1,h2,h3,h4,h5⟩:=h
 exact⟨I',Γ',h1,h2,h3,h4,h5.only K⟩
section
variable (P nt)
theorem ZaJ:∀ {c:Code} {cc:Ze},JH P nt c=some cc→match cc with
  | .skip=>c=.skip
  | .region n d os=>∃ id ops draw,c=.region id ops draw
  | .seq u v=>∃ x y,c=.seq x y∧JH P nt x=some u∧JH P nt y=some v
  | .cond co u v=>∃ o x y,c=.cond o x y∧Qd o=some co∧JH P nt x=some u∧JH P nt y=some v
  | .block id u=>∃ x,c=.block id x∧JH P nt x=some u
  | .loop u=>∃ x,c=.loop x∧JH P nt x=some u
  | .exit id=>c=.exit id
  | .ret=>c=.ret
  | .keep _ _=>False
  | .link _ _ _ _=>False
  | .melt _=>False
  | .stuck=>True:=by
 intro c cc h
 cases c<;>simp only[JH] at h
 case skip=>cases h;rfl
 case region id ops draw=>
  obtain⟨os,_,h⟩:=Za h
  split at h
  ·split at h
   ·cases h;exact⟨_,_,_,rfl⟩
   ·cases h;trivial
  ·cases h;exact⟨_,_,_,rfl⟩
 case seq x y=>
  obtain⟨u,h1,h⟩:=Za h
  obtain⟨v,h2,h⟩:=Za h
  cases h;exact⟨x,y,rfl,h1,h2⟩
 case cond o x y=>
  obtain⟨co,h0,h⟩:=Za h
  obtain⟨u,h1,h⟩:=Za h
  obtain⟨v,h2,h⟩:=Za h
  cases h;exact⟨o,x,y,rfl,h0,h1,h2⟩
 case block id x=>
  obtain⟨u,h1,h⟩:=Za h
  cases h;exact⟨x,rfl,h1⟩
 case loop x=>
  obtain⟨u,h1,h⟩:=Za h
  cases h;exact⟨x,rfl,h1⟩
 case exit id=>cases h;rfl
 case ret=>cases h;rfl
 all_goals (cases h;trivial)
end
theorem Sim.link {I:Nat→Prop} {Γ:Gh} {st st' : St} {a:Act} {w:World} (h:Sim nt F A I Γ (Zbz st.nx) st.sl st.hp a w) (hc:ZhC Γ0 Γ st.hp) {id:Nat} {i:Opd} {j:Nat} (hl:ZfG id i j st=some st') :
  ∃ Γ',Sim nt F A I Γ' (Zbz st'.nx) st'.sl st'.hp a w∧ZhC Γ0 Γ' st'.hp∧st'.m=st.m:=by
 unfold ZfG at hl
 obtain⟨n,_,hl⟩:=Za hl
 split at hl
 ·obtain⟨o,h1,hl⟩:=Za hl
  cases hl
  unfold Zx7 at h1
  split at h1
  ·rename_i sz ns xs lk ho
   obtain⟨ys,h2,h1⟩:=Za h1
   cases h1
   obtain⟨ad,m,c,hg,hd,_⟩:=h.objs id _ ho
   obtain⟨x,hx,h2⟩:=Za h2
   have hxy:x.cells[j]?=some (.sl ys):=by
    split at h2
    ·rename_i ys' hy;cases h2;exact hy
    ·cases h2
   obtain⟨g,vs,rfl,hv1,hv2,hv3⟩:=ZdN hd hx
   obtain⟨v,hv,hn⟩:=hv3.get j _ hxy
   obtain⟨a',c',rfl,hro,_⟩:=hn
   have hcell:=hv2 j _ hv
   have hj:j<sz:=by rw[← hv1];exact(List.getElem?_eq_some_iff.1 hv).1
   have hi:n.toNat<xs.length:=(List.getElem?_eq_some_iff.1 hx).1
   have hnx:Γ st.nx=none:=h.names st.nx (by simp[Zbz])
   have hk:=Wq (.row a' ys.length c' ns) hnx
   have hidn:id≠st.nx:=fun e=>by subst e;rw[hnx] at hg;cases hg
   have mem:∀ k o,lkp (ins st.hp id (.deep sz ns xs (some (st.nx,n.toNat,j)))) k=some o→(k=id∧o=.deep sz ns xs (some (st.nx,n.toNat,j)))∨(k≠id∧lkp st.hp k=some o):=by
    intro k o hk
    rw[Qy] at hk
    split at hk
    ·rename_i e;cases hk;exact .inl ⟨e.symm,rfl⟩
    ·rename_i e;exact .inr ⟨fun h=>e h.symm,hk⟩
   have hgo:∀ k o,lkp st.hp k=some o→upd Γ st.nx (.row a' ys.length c' ns) k=Γ k:=fun k o hl=>Qv _ _ fun e=>by
    subst e
    exact absurd (h.id_in hl) (by simp[Zbz])
   have bk:∀ k o b,lkp (ins st.hp id (.deep sz ns xs (some (st.nx,n.toNat,j)))) k=some o→Blk (upd Γ st.nx (.row a' ys.length c' ns)) w k o b→∃ o',lkp st.hp k=some o'∧Blk Γ w k o' b:=by
    intro k o b hk hb
    rcases mem k o hk with ⟨rfl,rfl⟩ | ⟨_,hk⟩
    ·refine⟨_,ho,?_⟩
     rcases hb with hb | ⟨g,p,h5,h6⟩ | hb
     ·rw[hgo _ _ ho] at hb;exact .inl hb
     ·rw[hgo _ _ ho] at h5;exact .inr (.inl ⟨g,p,h5,h6⟩)
     ·exact hb.elim
    ·exact⟨o,hk,hb.back (hgo k o hk) fun _ _=>rfl⟩
   refine⟨upd Γ st.nx (.row a' ys.length c' ns),?_,?_,rfl⟩
   ·refine { nt:=h.nt,dfr:=h.dfr,slots:=fun t=>(h.slots t).mono hk (Z3.refl I w),objs:=?_,inj:=?_,bound:=h.bound,fresh:=h.fresh,own:=h.own,names:=?_,glob:=h.glob }
    ·intro k o hk'
     rcases mem k o hk' with ⟨rfl,rfl⟩ | ⟨_,hk'⟩
     ·exact⟨_,m,c,hk _ _ hg,hd,g,a',ys.length,c',ns,rfl,ZR _ _ _,hi,hj,hcell⟩
     ·exact(h.objs k o hk').mono hk (Z3.refl I w) fun b _=>⟨rfl,fun h=>h⟩
    ·intro k k' o o' b h1 h2 hb1 hb2
     obtain⟨o1,q1,q2⟩:=bk k o b h1 hb1
     obtain⟨o2,q3,q4⟩:=bk k' o' b h2 hb2
     exact h.inj k k' o1 o2 b q1 q3 q2 q4
    ·intro k hk'
     rw[Qv _ _ (fun e=>hk' (by subst e;simp[Zbz]))]
     exact h.names k (fun hu=>hk' (by simp[Zbz] at hu ⊢;omega))
   ·intro k b hk'
    obtain⟨h3,cs,h4⟩:=hc k b hk'
    refine⟨hk _ _ h3,cs,?_⟩
    show lkp (ins st.hp id _) k=_
    rw[Qy,if_neg (fun e=>by subst e;rw[ho] at h4;cases h4)]
    exact h4
  ·cases h1
 ·cases hl
theorem Sim.melt {I:Nat→Prop} {Γ:Gh} {U:Nat→Prop} {sl:Sl} {hp:Hp} {a:Act} {w:World} (h:Sim nt F A I Γ U sl hp a w) :
  Sim nt F A (fun b=>I b∨∃ id o,lkp hp id=some o∧Y9 Γ w id o b) Γ U sl (ZjZ Zd7 hp) a w:=by
 have hkeep:Z3 I (fun b=>I b∨∃ id o,lkp hp id=some o∧Y9 Γ w id o b) w w:=⟨fun _ h=>.inl h,fun _ _=>rfl⟩
 have mem:∀ k o,lkp (ZjZ Zd7 hp) k=some o→∃ o0,lkp hp k=some o0∧o=Zd7 o0:=by
  intro k o hk
  rw[Zei] at hk
  cases hl:lkp hp k with
  | none=>rw[hl] at hk;cases hk
  | some o0=>rw[hl] at hk;simp only[Option.map_some,Option.some.injEq] at hk;exact⟨o0,rfl,hk.symm⟩
 have bk:∀ k o0 b,Blk Γ w k (Zd7 o0) b→Blk Γ w k o0 b:=by
  intro k o0 b hb
  cases o0 with
  | box cs=>exact hb
  | row sz xs ex fz=>exact hb
  | deep sz ns xs lk=>exact .inl hb.row
 refine { nt:=h.nt,dfr:=h.dfr,slots:=fun t=>(h.slots t).mono (XA.refl Γ) hkeep,objs:=?_,inj:=?_,bound:=?_,fresh:=h.fresh,own:=h.own,names:=h.names,glob:=h.glob.mono hkeep }
 ·intro k o hk
  obtain⟨o0,hl,rfl⟩:=mem k o hk
  have ho:=h.objs k o0 hl
  have plain:(∀ b,¬Y9 Γ w k o0 b)→W1 Γ w (fun b=>I b∨∃ id o,lkp hp id=some o∧Y9 Γ w id o b) F A k o0:=fun hn=>ho.mono (XA.refl Γ) hkeep fun b hb=>⟨rfl,fun hi=>by
   rcases hi with hi | ⟨id,o',hl',hi⟩
   ·exact hi
   ·have:=h.inj k id o0 o' b hl hl' hb (.inr (.inl hi))
    subst this
    rw[hl] at hl';cases hl'
    exact absurd hi (hn b)⟩
  cases o0 with
  | box cs=>exact plain fun b hb=>hb
  | row sz xs ex fz=>exact plain fun b hb=>hb
  | deep sz ns xs lk=>
   obtain⟨ad,n,c,h1,hd,_⟩:=ho
   have hd':=hd
   obtain⟨h2,h3⟩:=hd
   refine⟨ad,n,c,h1,h2,?_⟩
   rcases h3 with h3 | ⟨g,cur,e,rfl,hc,hw,h4,h5,h6,hpos,h8,hFg,hel,hdis,hne⟩
   ·exact .inl h3
   ·have hbg:ZG (Γ k)=some g:=by rw[h1];simp[ZG,Nat.ne_of_gt hc]
    refine .inr ⟨g,cur,e,rfl,hc,hw,h4,h5,h6,hpos,?_,hFg,?_⟩
    ·simp only[Bool.false_eq_true,if_false]
     rintro (hi | ⟨id,o',hl',hi⟩)
     ·exact h8 hi
     ·have:=h.inj k id _ o' g hl hl' (.inl hbg) (.inr (.inl hi))
      subst this
      rw[hl] at hl';cases hl'
      obtain⟨g2,p,hg2,hp2,hn2⟩:=hi
      rw[hbg] at hg2;cases hg2
      exact hne p (by rw[h2];exact hp2) hn2
    ·simp only[if_true]
     exact ZpM hd' (fun b hb ha=>⟨.inl hb,ha⟩) fun p b hp hn=>
      have hi:Y9 Γ w k (.deep sz ns xs lk) b:=⟨g,p,hbg,hp,hn⟩
      ⟨.inr ⟨k,_,hl,hi⟩,h.own b (Zkf (h.objs k _ hl) (.inr (.inl hi)))⟩
 ·intro i j o o' b hi hj hbi hbj
  obtain⟨o0,hl,rfl⟩:=mem i o hi
  obtain⟨o1,hl',rfl⟩:=mem j o' hj
  exact h.inj i j o0 o1 b hl hl' (bk i o0 b hbi) (bk j o1 b hbj)
 ·rintro b (hb | ⟨id,o,hl,hi⟩)
  ·exact h.bound b hb
  ·exact h.blk_lt hl (.inr (.inl hi))
theorem ZhD {C:Orc} {M:Zt} (hC:QD P C) (hB:Wo C) (hD:Wp P C M nt) {N:Nat}:∀ (cc:Ze) (c:Code) {st st' : St} {ex:Ex},JH P nt c=some (VQ cc)→ZL C M N cc st=some (ex,st') →
  ∀ {I:Nat→Prop} {Γ:Gh} {a:Act} {w:World} {Q:Exit→Act→World→Prop},Sim nt F A I Γ (Zbz st.nx) st.sl st.hp a w→ZhC Γ0 Γ st.hp→(∀ k,st.m≤k→Γ0 k=none) →
  (∀ a' w',ZbA nt F A Γ0 I w st' a' w'→Q (exOf ex) a' w')→c.wp P Q a w:=by
 intro cc
 induction cc with
 | skip=>
  intro c st st' ex hcc hv I Γ a w Q hS hc hm hQ
  obtain rfl:=ZaJ P nt hcc
  simp only[ZL] at hv;cases hv
  exact wp_skip (hQ _ _ (ZbA.refl hS hc))
 | region n d os0=>
  intro c st st' ex hcc hv I Γ a w Q hS hc hm hQ
  obtain⟨id,ops,draw,rfl⟩:=ZaJ P nt hcc
  simp only[VQ,JH] at hcc
  obtain⟨os,h1,hcc⟩:=Za hcc
  cases draw with
  | false=>
   simp only[Bool.false_eq_true,if_false,Option.some.injEq,Ze.region.injEq] at hcc
   obtain⟨rfl,rfl,rfl⟩:=hcc
   simp only[Zw1] at h1
   simp only[ZL,ZlH] at hv
   obtain⟨r,h2,hv⟩:=Za hv
   cases hv
   refine wp_region ?_
   have:=Zw2 (m:=st.m) (Γ0:=Γ0) (F:=F) (A:=A) (Q:=Q) hC hB os0 0 (Nat.zero_le _) (by simpa using h1) h2 (by simpa using hS) hc (fun a' w' hp=>hQ a' w' (by simpa using hp))
   rw[List.range_eq_range']
   simpa using this
  | true=>
   simp only[if_true] at hcc
   split at hcc
   ·rename_i hdraw
    simp only[Option.some.injEq,Ze.region.injEq] at hcc
    obtain⟨rfl,rfl,hos⟩:=hcc
    simp only[Zw1] at hos
    subst hos
    simp only[ZL,ZlH] at hv
    obtain⟨r,h2,hv⟩:=Za hv
    cases hv
    unfold ZpE at h2
    obtain⟨r',h3,h2⟩:=Za h2
    split at h2
    ·rename_i hseen
     cases h2
     exact hD F A Γ0 ops _ st.nx st.m st.sl st.hp r I Γ a w Q id h1 hdraw h3 hseen hS hc (fun a' w' hp=>hQ a' w' (by simpa using hp))
    ·cases h2
   ·cases hcc
 | seq cx cy ihx ihy=>
  intro c st st' ex hcc hv I Γ a w Q hS hc hm hQ
  obtain⟨x,y,rfl,h1,h2⟩:=ZaJ P nt hcc
  simp only[ZL] at hv
  cases hx:ZL C M N cx st with
  | none=>rw[hx] at hv;cases hv
  | some q=>
   obtain⟨e1,st1⟩:=q
   rw[hx] at hv
   refine wp_seq (ihx x h1 hx hS hc hm fun a1 w1 hp=>?_)
   have hm1:=ZA6 _ _ _ _ hx
   cases e1 with
   | normal=>
    simp only[andThen] at hv
    obtain⟨I1,Γ1,b1,b2,b3,b4,b5⟩:=hp
    exact ihy y h2 hv b5 b1 (by rw[hm1];exact hm) fun a2 w2 hp2=>hQ a2 w2 (hp2.step b2 b3 b4)
   | exit id=>simp only[andThen] at hv;cases hv;exact hQ a1 w1 hp
   | ret=>simp only[andThen] at hv;cases hv;exact hQ a1 w1 hp
 | cond co cx cy ihx ihy=>
  intro c st st' ex hcc hv I Γ a w Q hS hc hm hQ
  obtain⟨o,x,y,rfl,h0,h1,h2⟩:=ZaJ P nt hcc
  simp only[ZL] at hv
  have hr:=hS.slOK.ev h0
  unfold ZiK at hv
  split at hv
  ·rename_i t ht
   rw[ht] at hr
   have hb:=Zgu hr
   cases t with
   | true=>simp only[if_true] at hv;exact wp_cond_true hb (ihx x h1 hv hS hc hm hQ)
   | false=>simp only[Bool.false_eq_true,if_false] at hv;exact wp_cond_false hb (ihy y h2 hv hS hc hm hQ)
  ·cases hv
 | block id cx ih=>
  intro c st st' ex hcc hv I Γ a w Q hS hc hm hQ
  obtain⟨x,rfl,h1⟩:=ZaJ P nt hcc
  simp only[ZL] at hv
  cases hx:ZL C M N cx st with
  | none=>rw[hx] at hv;cases hv
  | some q=>
   obtain⟨e1,st1⟩:=q
   rw[hx] at hv
   refine wp_block (ih x h1 hx hS hc hm fun a1 w1 hp=>?_)
   cases e1 with
   | normal=>simp only[Zh9] at hv;cases hv;exact hQ a1 w1 hp
   | exit j=>
    simp only[Zh9] at hv
    simp only[exOf,Exit.inBlock]
    split at hv
    ·rename_i hj
     cases hv
     rw[if_pos hj]
     exact hQ a1 w1 hp
    ·rename_i hj
     cases hv
     rw[if_neg hj]
     exact hQ a1 w1 hp
   | ret=>simp only[Zh9] at hv;cases hv;exact hQ a1 w1 hp
 | loop cx ih=>
  intro c st st' ex hcc hv I Γ a w Q hS hc hm hQ
  obtain⟨x,rfl,h1⟩:=ZaJ P nt hcc
  simp only[ZL] at hv
  generalize ZkI st.sl=K at hv
  refine Zzu (fun n a1 w1=>∃ st1 I1 Γ1,JW (ZL C M N cx) K n st1=some (ex,st')∧st1.m=st.m∧Sim nt F A I1 Γ1 (Zbz st1.nx) st1.sl st1.hp a1 w1∧ZhC Γ0 Γ1 st1.hp∧Z3 I I1 w w1∧(∀ b,I1 b→I b∨F b)∧Fr F w w1)
   ?_ (n:=N) ⟨st,I,Γ,hv,rfl,hS,hc,Z3.refl I w,fun _ h=>.inl h,Fr.refl F w⟩
  rintro n a1 w1 ⟨st1,I1,Γ1,j1,j2,j3,j4,j5,j6,j7⟩
  cases n with
  | zero=>simp only[JW] at j1;cases j1
  | succ n=>
   simp only[JW] at j1
   obtain⟨Γ2,k1,k2⟩:=Zzt j3 j4 (by rw[j2];exact hm) K
   cases hx:ZL C M N cx (JG K st1) with
   | none=>rw[hx] at j1;cases j1
   | some q=>
    obtain⟨e1,st2⟩:=q
    rw[hx] at j1
    have hm2:st2.m=st1.m:=(ZA6 _ _ _ _ hx).trans rfl
    refine ih x h1 hx k1 k2 (by show ∀ k,st1.m≤k→Γ0 k=none;rw[j2];exact hm) fun a2 w2 hp=>?_
    obtain⟨I3,Γ3,b1,b2,b3,b4,b5⟩:=hp
    have hsub:∀ b,I3 b→I b∨F b:=fun b hb=>by
     rcases b3 b hb with h | h
     ·exact j6 b h
     ·exact .inr h
    cases e1 with
    | normal=>exact⟨n,Nat.lt_succ_self n,st2,I3,Γ3,j1,by rw[hm2,j2],b5,b1,j5.trans b2,hsub,j7.trans b4⟩
    | exit id=>
     simp only at j1
     cases j1
     exact hQ a2 w2 ⟨I3,Γ3,b1,j5.trans b2,hsub,j7.trans b4,b5⟩
    | ret=>
     simp only at j1
     cases j1
     exact hQ a2 w2 ⟨I3,Γ3,b1,j5.trans b2,hsub,j7.trans b4,b5⟩
 | exit id=>
  intro c st st' ex hcc hv I Γ a w Q hS hc hm hQ
  obtain rfl:=ZaJ P nt hcc
  simp only[ZL] at hv;cases hv
  exact wp_exit (hQ _ _ (ZbA.refl hS hc))
 | ret=>
  intro c st st' ex hcc hv I Γ a w Q hS hc hm hQ
  obtain rfl:=ZaJ P nt hcc
  simp only[ZL] at hv;cases hv
  exact wp_ret (hQ _ _ (ZbA.refl hS hc))
 | stuck=>
  intro c st st' ex hcc hv I Γ a w Q hS hc hm hQ
  simp only[ZL] at hv;cases hv
 | link id i j cx ih=>
  intro c st st' ex hcc hv I Γ a w Q hS hc hm hQ
  simp only[ZL] at hv
  obtain⟨st1,h1,hv⟩:=Za hv
  obtain⟨Γ1,k1,k2,k3⟩:=hS.link hc h1
  exact ih c hcc hv k1 k2 (by rw[k3];exact hm) hQ
 | melt cx ih=>
  intro c st st' ex hcc hv I Γ a w Q hS hc hm hQ
  simp only[ZL] at hv
  have hS':=hS.melt
  refine ih c hcc hv hS' ?_ hm fun a1 w1 hp=>hQ a1 w1 (hp.step ⟨fun b hb=>.inl hb,fun _ _=>rfl⟩ ?_ (Fr.refl F w))
  ·intro k b hk
   obtain⟨h3,cs,h4⟩:=hc k b hk
   refine⟨h3,cs,?_⟩
   show lkp (ZjZ Zd7 st.hp) k=_
   rw[Zei,h4];rfl
  ·rintro b (hb | ⟨id,o,hl,hi⟩)
   ·exact .inl hb
   ·exact .inr (Zkf (hS.objs id o hl) (.inr (.inl hi)))
 | keep K cx ih=>
  intro c st st' ex hcc hv I Γ a w Q hS hc hm hQ
  simp only[ZL] at hv
  cases hx:ZL C M N cx st with
  | none=>rw[hx] at hv;cases hv
  | some q=>
   obtain⟨e1,st1⟩:=q
   rw[hx] at hv
   simp only[ZnF] at hv
   cases hv
   exact ih c hcc hx hS hc hm fun a1 w1 hp=>hQ a1 w1 (hp.only K)
end
end Go.Abs
