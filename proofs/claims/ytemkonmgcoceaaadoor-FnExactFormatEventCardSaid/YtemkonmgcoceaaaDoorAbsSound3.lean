/- The abstract semantics and the model: codes,functions. Own text. -/
import Derived.Test.YtemkonmgcoceaaaDoorAbsSound2
set_option linter.unusedVariables false
set_option linter.unusedSimpArgs false
namespace Go.Abs
open Go
def exOf:Ex→Exit
 | .normal=>.normal
 | .exit id=>.exit id
 | .ret=>.ret
theorem Xo {p:Nat→Prop} (h:∃ n,p n):∃ n,p n∧∀ m,p m→n≤m:=by
 obtain⟨n,hn⟩:=h
 induction n using Nat.strongRecOn with
 | _ n ih=>
  by_cases hm:∃ m,m<n∧p m
  ·obtain⟨m,h1,h2⟩:=hm
   exact ih m h1 h2
  ·exact⟨n,hn,fun m hpm=>by
    rcases Nat.lt_or_ge m n with h | h
    ·exact absurd ⟨m,h,hpm⟩ hm
    ·exact h⟩
open Classical in
noncomputable def ZfP (p:Nat→Prop):Nat:=if h:∃ n,p n then (Xo h).choose else 0
theorem ZdY {p:Nat→Prop} (h:∃ n,p n):p (ZfP p)∧∀ m,p m→ZfP p≤m:=by
 unfold ZfP
 rw[dif_pos h]
 exact(Xo h).choose_spec
theorem Zos {P:Program} {c:Code} {Q:Exit→Act→World→Prop} (J:Nat→Act→World→Prop) (round:∀ n a w,J n a w→c.wp P (Exit.then (fun a' w'=>∃ m,m<n∧J m a' w') Q) a w) {n:Nat} {a:Act} {w:World} (h0:J n a w) :
  (Code.loop c).wp P Q a w:=by
 refine wp_loop (fun a w=>∃ n,J n a w) (fun a w=>ZfP fun n=>J n a w) ⟨n,h0⟩ fun a w hI=>?_
 refine wp_mono (round _ a w (ZdY hI).1) fun e a' w' he=>?_
 cases e with
 | normal=>
  obtain⟨m,hm,hJ⟩:=he
  exact⟨⟨m,hJ⟩,Nat.lt_of_le_of_lt ((ZdY ⟨m,hJ⟩).2 m hJ) hm⟩
 | _=>exact he
section
variable {P:Program} {nt:Nat} {F A:Nat→Prop} {Γ0:Gh}
def Ym (P:Program) (C:Orc) (M:Zj) (nt:Nat):Prop:=
 ∀ (F A:Nat→Prop) (Γ0:Gh) (ops:Array Oper) (os:List CO) (nx m:Nat) (sl:Sl) (hp:Hp) (r:Sl×Hp) (I:Nat→Prop) (Γ:Gh) (a:Act) (w:World) (Q:Exit→Act→World→Prop) (id:Nat),
  Qh (Zfk P nt ops.toList) ops.toList=some os→Zg9 ops os=true→Va C M nx 0 false os sl hp=some r→Vi os r.1 (UW ops os)=true→Sim nt F A I Γ (V6 nx) sl hp a w→ZaR Γ0 Γ hp →
  (∀ a' w',V8 nt F A Γ0 I w { sl:=r.1,hp:=r.2,nx:=nx+64*ops.size,m:=m } a' w'→Q .normal a' w')→(Code.region id ops true).wp P Q a w
theorem ZpF {C:Orc} {M:Zj} {N:Nat}:∀ (c:Zp) (st st' : St) (e:Ex),Zw C M N c st=some (e,st')→st'.m=st.m:=by
 intro c
 induction c with
 | skip=>intro st st' e h;simp only[Zw] at h;cases h;rfl
 | region n d ops=>
  intro st st' e h
  cases d<;>(simp only[Zw,ZdS] at h;obtain⟨r,_,h⟩:=Za h;cases h;rfl)
 | seq x y ihx ihy=>
  intro st st' e h
  simp only[Zw] at h
  cases hx:Zw C M N x st with
  | none=>rw[hx] at h;cases h
  | some q=>
   obtain⟨e1,st1⟩:=q
   rw[hx] at h
   have h1:=ihx _ _ _ hx
   cases e1<;>simp only[andThen] at h
   ·rw[ihy _ _ _ h,h1]
   ·cases h;exact h1
   ·cases h;exact h1
 | cond c x y ihx ihy=>
  intro st st' e h
  simp only[Zw] at h
  unfold ZbA at h
  split at h
  ·split at h
   ·exact ihx _ _ _ h
   ·exact ihy _ _ _ h
  ·cases h
 | block id c ih=>
  intro st st' e h
  simp only[Zw] at h
  cases hx:Zw C M N c st with
  | none=>rw[hx] at h;cases h
  | some q=>
   obtain⟨e1,st1⟩:=q
   rw[hx] at h
   have h1:=ih _ _ _ hx
   unfold Za3 at h
   split at h
   ·rename_i j st2 hq
    cases hq
    split at h<;>(cases h;exact h1)
   ·cases h;exact h1
 | loop c ih=>
  intro st st' e h
  simp only[Zw] at h
  have key:∀ (K:List Nat) (n:Nat) (st:St),Vb (Zw C M N c) K n st=some (e,st')→st'.m=st.m:=by
   intro K n
   induction n with
   | zero=>intro st h;simp only[Vb] at h;cases h
   | succ n ihn=>
    intro st h
    simp only[Vb] at h
    cases hx:Zw C M N c (Y0 K st) with
    | none=>rw[hx] at h;cases h
    | some q=>
     obtain⟨e1,st1⟩:=q
     rw[hx] at h
     have h1:=ih _ _ _ hx
     cases e1 with
     | normal=>simp only at h;rw[ihn _ h,h1];rfl
     | exit id=>simp only at h;cases h;exact h1
     | ret=>simp only at h;cases h;exact h1
  exact key _ N st h
 | exit id=>intro st st' e h;simp only[Zw] at h;cases h;rfl
 | ret=>intro st st' e h;simp only[Zw] at h;cases h;rfl
 | stuck=>intro st st' e h;simp only[Zw] at h;cases h
 | link id i j c ih=>
  intro st st' e h
  simp only[Zw] at h
  obtain⟨st1,h1,h⟩:=Za h
  rw[ih _ _ _ h]
  unfold JB at h1
  obtain⟨n,_,h1⟩:=Za h1
  split at h1
  ·obtain⟨o,_,h1⟩:=Za h1
   cases h1;rfl
  ·cases h1
 | melt c ih=>
  intro st st' e h
  simp only[Zw] at h
  rw[ih _ _ _ h];rfl
 | keep K c ih=>
  intro st st' e h
  simp only[Zw] at h
  cases hx:Zw C M N c st with
  | none=>rw[hx] at h;cases h
  | some q=>
   obtain⟨e1,st1⟩:=q
   rw[hx] at h
   simp only[Zfn] at h
   cases h
   show st1.m=st.m
   exact ih _ _ _ hx
theorem ZqH (K:List Nat) (sl:Sl) (t:Nat):gs (only K sl) t=if K.contains t then gs sl t else .junk:=by
 simp only[gs,ZdX]
 split<;>rfl
theorem Sim.only {I:Nat→Prop} {Γ:Gh} {U:Nat→Prop} {sl:Sl} {hp:Hp} {a:Act} {w:World} (h:Sim nt F A I Γ U sl hp a w) (K:List Nat):Sim nt F A I Γ U (only K sl) hp a w where
 nt:=h.nt
 dfr:=h.dfr
 slots:=fun t=>by
  rw[ZqH]
  split
  ·exact h.slots t
  ·exact trivial
 objs:=h.objs
 inj:=h.inj
 bound:=h.bound
 fresh:=h.fresh
 own:=h.own
 names:=h.names
 glob:=h.glob
theorem V8.only {I:Nat→Prop} {w:World} {st' : St} {a' : Act} {w' : World} (h:V8 nt F A Γ0 I w st' a' w') (K:List Nat):V8 nt F A Γ0 I w { st' with sl:=only K st'.sl } a' w':=by
 obtain⟨I',Γ',h1,h2,h3,h4,h5⟩:=h
 exact⟨I',Γ',h1,h2,h3,h4,h5.only K⟩
section
variable (P nt)
theorem VC:∀ {c:Code} {cc:Zp},Y1 P nt c=some cc→match cc with
  | .skip=>c=.skip
  | .region n d os=>∃ id ops draw,c=.region id ops draw
  | .seq u v=>∃ x y,c=.seq x y∧Y1 P nt x=some u∧Y1 P nt y=some v
  | .cond co u v=>∃ o x y,c=.cond o x y∧ZL o=some co∧Y1 P nt x=some u∧Y1 P nt y=some v
  | .block id u=>∃ x,c=.block id x∧Y1 P nt x=some u
  | .loop u=>∃ x,c=.loop x∧Y1 P nt x=some u
  | .exit id=>c=.exit id
  | .ret=>c=.ret
  | .keep _ _=>False
  | .link _ _ _ _=>False
  | .melt _=>False
  | .stuck=>True:=by
 intro c cc h
 cases c<;>simp only[Y1] at h
 case skip=>cases h;rfl
 case region id ops draw=>
  obtain⟨os,_,h⟩:=Za h
  split at h
  ·split at h
   ·cases h;exact⟨_,_,_,rfl⟩
   ·cases h;trivial
  ·cases h;exact⟨_,_,_,rfl⟩
 case seq x y=>
  obtain⟨u,h1,h⟩:=Za h
  obtain⟨v,h2,h⟩:=Za h
  cases h;exact⟨x,y,rfl,h1,h2⟩
 case cond o x y=>
  obtain⟨co,h0,h⟩:=Za h
  obtain⟨u,h1,h⟩:=Za h
  obtain⟨v,h2,h⟩:=Za h
  cases h;exact⟨o,x,y,rfl,h0,h1,h2⟩
 case block id x=>
  obtain⟨u,h1,h⟩:=Za h
  cases h;exact⟨x,rfl,h1⟩
 case loop x=>
  obtain⟨u,h1,h⟩:=Za h
  cases h;exact⟨x,rfl,h1⟩
 case exit id=>cases h;rfl
 case ret=>cases h;rfl
 all_goals (cases h;trivial)
end
theorem Sim.link {I:Nat→Prop} {Γ:Gh} {st st' : St} {a:Act} {w:World} (h:Sim nt F A I Γ (V6 st.nx) st.sl st.hp a w) (hc:ZaR Γ0 Γ st.hp) {id:Nat} {i:Opd} {j:Nat} (hl:JB id i j st=some st') :
  ∃ Γ',Sim nt F A I Γ' (V6 st'.nx) st'.sl st'.hp a w∧ZaR Γ0 Γ' st'.hp∧st'.m=st.m:=by
 unfold JB at hl
 obtain⟨n,_,hl⟩:=Za hl
 split at hl
 ·obtain⟨o,h1,hl⟩:=Za hl
  cases hl
  unfold Znk at h1
  split at h1
  ·rename_i sz ns xs lk ho
   obtain⟨ys,h2,h1⟩:=Za h1
   cases h1
   obtain⟨ad,m,c,hg,hd,_⟩:=h.objs id _ ho
   obtain⟨x,hx,h2⟩:=Za h2
   have hxy:x.cells[j]?=some (.sl ys):=by
    split at h2
    ·rename_i ys' hy;cases h2;exact hy
    ·cases h2
   obtain⟨g,vs,rfl,hv1,hv2,hv3⟩:=Uo hd hx
   obtain⟨v,hv,hn⟩:=hv3.get j _ hxy
   obtain⟨a',c',rfl,hro,_⟩:=hn
   have hcell:=hv2 j _ hv
   have hj:j<sz:=by rw[← hv1];exact(List.getElem?_eq_some_iff.1 hv).1
   have hi:n.toNat<xs.length:=(List.getElem?_eq_some_iff.1 hx).1
   have hnx:Γ st.nx=none:=h.names st.nx (by simp[V6])
   have hk:=XZ (.row a' ys.length c' ns) hnx
   have hidn:id≠st.nx:=fun e=>by subst e;rw[hnx] at hg;cases hg
   have mem:∀ k o,lkp (ins st.hp id (.deep sz ns xs (some (st.nx,n.toNat,j)))) k=some o→(k=id∧o=.deep sz ns xs (some (st.nx,n.toNat,j)))∨(k≠id∧lkp st.hp k=some o):=by
    intro k o hk
    rw[ZZ] at hk
    split at hk
    ·rename_i e;cases hk;exact .inl ⟨e.symm,rfl⟩
    ·rename_i e;exact .inr ⟨fun h=>e h.symm,hk⟩
   have hgo:∀ k o,lkp st.hp k=some o→upd Γ st.nx (.row a' ys.length c' ns) k=Γ k:=fun k o hl=>ZY _ _ fun e=>by
    subst e
    exact absurd (h.id_in hl) (by simp[V6])
   have bk:∀ k o b,lkp (ins st.hp id (.deep sz ns xs (some (st.nx,n.toNat,j)))) k=some o→Blk (upd Γ st.nx (.row a' ys.length c' ns)) w k o b→∃ o',lkp st.hp k=some o'∧Blk Γ w k o' b:=by
    intro k o b hk hb
    rcases mem k o hk with ⟨rfl,rfl⟩ | ⟨_,hk⟩
    ·refine⟨_,ho,?_⟩
     rcases hb with hb | ⟨g,p,h5,h6⟩ | hb
     ·rw[hgo _ _ ho] at hb;exact .inl hb
     ·rw[hgo _ _ ho] at h5;exact .inr (.inl ⟨g,p,h5,h6⟩)
     ·exact hb.elim
    ·exact⟨o,hk,hb.back (hgo k o hk) fun _ _=>rfl⟩
   refine⟨upd Γ st.nx (.row a' ys.length c' ns),?_,?_,rfl⟩
   ·refine { nt:=h.nt,dfr:=h.dfr,slots:=fun t=>(h.slots t).mono hk (ZF.refl I w),objs:=?_,inj:=?_,bound:=h.bound,fresh:=h.fresh,own:=h.own,names:=?_,glob:=h.glob }
    ·intro k o hk'
     rcases mem k o hk' with ⟨rfl,rfl⟩ | ⟨_,hk'⟩
     ·exact⟨_,m,c,hk _ _ hg,hd,g,a',ys.length,c',ns,rfl,ZA _ _ _,hi,hj,hcell⟩
     ·exact(h.objs k o hk').mono hk (ZF.refl I w) fun b _=>⟨rfl,fun h=>h⟩
    ·intro k k' o o' b h1 h2 hb1 hb2
     obtain⟨o1,q1,q2⟩:=bk k o b h1 hb1
     obtain⟨o2,q3,q4⟩:=bk k' o' b h2 hb2
     exact h.inj k k' o1 o2 b q1 q3 q2 q4
    ·intro k hk'
     rw[ZY _ _ (fun e=>hk' (by subst e;simp[V6]))]
     exact h.names k (fun hu=>hk' (by simp[V6] at hu ⊢;omega))
   ·intro k b hk'
    obtain⟨h3,cs,h4⟩:=hc k b hk'
    refine⟨hk _ _ h3,cs,?_⟩
    show lkp (ins st.hp id _) k=_
    rw[ZZ,if_neg (fun e=>by subst e;rw[ho] at h4;cases h4)]
    exact h4
  ·cases h1
 ·cases hl
theorem Sim.melt {I:Nat→Prop} {Γ:Gh} {U:Nat→Prop} {sl:Sl} {hp:Hp} {a:Act} {w:World} (h:Sim nt F A I Γ U sl hp a w) :
  Sim nt F A (fun b=>I b∨∃ id o,lkp hp id=some o∧Xf Γ w id o b) Γ U sl (Zca US hp) a w:=by
 have hkeep:ZF I (fun b=>I b∨∃ id o,lkp hp id=some o∧Xf Γ w id o b) w w:=⟨fun _ h=>.inl h,fun _ _=>rfl⟩
 have mem:∀ k o,lkp (Zca US hp) k=some o→∃ o0,lkp hp k=some o0∧o=US o0:=by
  intro k o hk
  rw[U2] at hk
  cases hl:lkp hp k with
  | none=>rw[hl] at hk;cases hk
  | some o0=>rw[hl] at hk;simp only[Option.map_some,Option.some.injEq] at hk;exact⟨o0,rfl,hk.symm⟩
 have bk:∀ k o0 b,Blk Γ w k (US o0) b→Blk Γ w k o0 b:=by
  intro k o0 b hb
  cases o0 with
  | box cs=>exact hb
  | row sz xs ex fz=>exact hb
  | deep sz ns xs lk=>exact .inl hb.row
 refine { nt:=h.nt,dfr:=h.dfr,slots:=fun t=>(h.slots t).mono (QE.refl Γ) hkeep,objs:=?_,inj:=?_,bound:=?_,fresh:=h.fresh,own:=h.own,names:=h.names,glob:=h.glob.mono hkeep }
 ·intro k o hk
  obtain⟨o0,hl,rfl⟩:=mem k o hk
  have ho:=h.objs k o0 hl
  have plain:(∀ b,¬Xf Γ w k o0 b)→Yg Γ w (fun b=>I b∨∃ id o,lkp hp id=some o∧Xf Γ w id o b) F A k o0:=fun hn=>ho.mono (QE.refl Γ) hkeep fun b hb=>⟨rfl,fun hi=>by
   rcases hi with hi | ⟨id,o',hl',hi⟩
   ·exact hi
   ·have:=h.inj k id o0 o' b hl hl' hb (.inr (.inl hi))
    subst this
    rw[hl] at hl';cases hl'
    exact absurd hi (hn b)⟩
  cases o0 with
  | box cs=>exact plain fun b hb=>hb
  | row sz xs ex fz=>exact plain fun b hb=>hb
  | deep sz ns xs lk=>
   obtain⟨ad,n,c,h1,hd,_⟩:=ho
   have hd':=hd
   obtain⟨h2,h3⟩:=hd
   refine⟨ad,n,c,h1,h2,?_⟩
   rcases h3 with h3 | ⟨g,cur,e,rfl,hc,hw,h4,h5,h6,hpos,h8,hFg,hel,hdis,hne⟩
   ·exact .inl h3
   ·have hbg:Zq (Γ k)=some g:=by rw[h1];simp[Zq,Nat.ne_of_gt hc]
    refine .inr ⟨g,cur,e,rfl,hc,hw,h4,h5,h6,hpos,?_,hFg,?_⟩
    ·simp only[Bool.false_eq_true,if_false]
     rintro (hi | ⟨id,o',hl',hi⟩)
     ·exact h8 hi
     ·have:=h.inj k id _ o' g hl hl' (.inl hbg) (.inr (.inl hi))
      subst this
      rw[hl] at hl';cases hl'
      obtain⟨g2,p,hg2,hp2,hn2⟩:=hi
      rw[hbg] at hg2;cases hg2
      exact hne p (by rw[h2];exact hp2) hn2
    ·simp only[if_true]
     exact Zhj hd' (fun b hb ha=>⟨.inl hb,ha⟩) fun p b hp hn=>
      have hi:Xf Γ w k (.deep sz ns xs lk) b:=⟨g,p,hbg,hp,hn⟩
      ⟨.inr ⟨k,_,hl,hi⟩,h.own b (Zcv (h.objs k _ hl) (.inr (.inl hi)))⟩
 ·intro i j o o' b hi hj hbi hbj
  obtain⟨o0,hl,rfl⟩:=mem i o hi
  obtain⟨o1,hl',rfl⟩:=mem j o' hj
  exact h.inj i j o0 o1 b hl hl' (bk i o0 b hbi) (bk j o1 b hbj)
 ·rintro b (hb | ⟨id,o,hl,hi⟩)
  ·exact h.bound b hb
  ·exact h.blk_lt hl (.inr (.inl hi))
theorem ZaS {C:Orc} {M:Zj} (hC:Z6 P C) (hB:Yb C) (hD:Ym P C M nt) {N:Nat}:∀ (cc:Zp) (c:Code) {st st' : St} {ex:Ex},Y1 P nt c=some (XF cc)→Zw C M N cc st=some (ex,st') →
  ∀ {I:Nat→Prop} {Γ:Gh} {a:Act} {w:World} {Q:Exit→Act→World→Prop},Sim nt F A I Γ (V6 st.nx) st.sl st.hp a w→ZaR Γ0 Γ st.hp→(∀ k,st.m≤k→Γ0 k=none) →
  (∀ a' w',V8 nt F A Γ0 I w st' a' w'→Q (exOf ex) a' w')→c.wp P Q a w:=by
 intro cc
 induction cc with
 | skip=>
  intro c st st' ex hcc hv I Γ a w Q hS hc hm hQ
  obtain rfl:=VC P nt hcc
  simp only[Zw] at hv;cases hv
  exact wp_skip (hQ _ _ (V8.refl hS hc))
 | region n d os0=>
  intro c st st' ex hcc hv I Γ a w Q hS hc hm hQ
  obtain⟨id,ops,draw,rfl⟩:=VC P nt hcc
  simp only[XF,Y1] at hcc
  obtain⟨os,h1,hcc⟩:=Za hcc
  cases draw with
  | false=>
   simp only[Bool.false_eq_true,if_false,Option.some.injEq,Zp.region.injEq] at hcc
   obtain⟨rfl,rfl,rfl⟩:=hcc
   simp only[ZmH] at h1
   simp only[Zw,ZdS] at hv
   obtain⟨r,h2,hv⟩:=Za hv
   cases hv
   refine wp_region ?_
   have:=ZmI (m:=st.m) (Γ0:=Γ0) (F:=F) (A:=A) (Q:=Q) hC hB os0 0 (Nat.zero_le _) (by simpa using h1) h2 (by simpa using hS) hc (fun a' w' hp=>hQ a' w' (by simpa using hp))
   rw[List.range_eq_range']
   simpa using this
  | true=>
   simp only[if_true] at hcc
   split at hcc
   ·rename_i hdraw
    simp only[Option.some.injEq,Zp.region.injEq] at hcc
    obtain⟨rfl,rfl,hos⟩:=hcc
    simp only[ZmH] at hos
    subst hos
    simp only[Zw,ZdS] at hv
    obtain⟨r,h2,hv⟩:=Za hv
    cases hv
    unfold Zhb at h2
    obtain⟨r',h3,h2⟩:=Za h2
    split at h2
    ·rename_i hseen
     cases h2
     exact hD F A Γ0 ops _ st.nx st.m st.sl st.hp r I Γ a w Q id h1 hdraw h3 hseen hS hc (fun a' w' hp=>hQ a' w' (by simpa using hp))
    ·cases h2
   ·cases hcc
 | seq cx cy ihx ihy=>
  intro c st st' ex hcc hv I Γ a w Q hS hc hm hQ
  obtain⟨x,y,rfl,h1,h2⟩:=VC P nt hcc
  simp only[Zw] at hv
  cases hx:Zw C M N cx st with
  | none=>rw[hx] at hv;cases hv
  | some q=>
   obtain⟨e1,st1⟩:=q
   rw[hx] at hv
   refine wp_seq (ihx x h1 hx hS hc hm fun a1 w1 hp=>?_)
   have hm1:=ZpF _ _ _ _ hx
   cases e1 with
   | normal=>
    simp only[andThen] at hv
    obtain⟨I1,Γ1,b1,b2,b3,b4,b5⟩:=hp
    exact ihy y h2 hv b5 b1 (by rw[hm1];exact hm) fun a2 w2 hp2=>hQ a2 w2 (hp2.step b2 b3 b4)
   | exit id=>simp only[andThen] at hv;cases hv;exact hQ a1 w1 hp
   | ret=>simp only[andThen] at hv;cases hv;exact hQ a1 w1 hp
 | cond co cx cy ihx ihy=>
  intro c st st' ex hcc hv I Γ a w Q hS hc hm hQ
  obtain⟨o,x,y,rfl,h0,h1,h2⟩:=VC P nt hcc
  simp only[Zw] at hv
  have hr:=hS.slOK.ev h0
  unfold ZbA at hv
  split at hv
  ·rename_i t ht
   rw[ht] at hr
   have hb:=J0 hr
   cases t with
   | true=>simp only[if_true] at hv;exact wp_cond_true hb (ihx x h1 hv hS hc hm hQ)
   | false=>simp only[Bool.false_eq_true,if_false] at hv;exact wp_cond_false hb (ihy y h2 hv hS hc hm hQ)
  ·cases hv
 | block id cx ih=>
  intro c st st' ex hcc hv I Γ a w Q hS hc hm hQ
  obtain⟨x,rfl,h1⟩:=VC P nt hcc
  simp only[Zw] at hv
  cases hx:Zw C M N cx st with
  | none=>rw[hx] at hv;cases hv
  | some q=>
   obtain⟨e1,st1⟩:=q
   rw[hx] at hv
   refine wp_block (ih x h1 hx hS hc hm fun a1 w1 hp=>?_)
   cases e1 with
   | normal=>simp only[Za3] at hv;cases hv;exact hQ a1 w1 hp
   | exit j=>
    simp only[Za3] at hv
    simp only[exOf,Exit.inBlock]
    split at hv
    ·rename_i hj
     cases hv
     rw[if_pos hj]
     exact hQ a1 w1 hp
    ·rename_i hj
     cases hv
     rw[if_neg hj]
     exact hQ a1 w1 hp
   | ret=>simp only[Za3] at hv;cases hv;exact hQ a1 w1 hp
 | loop cx ih=>
  intro c st st' ex hcc hv I Γ a w Q hS hc hm hQ
  obtain⟨x,rfl,h1⟩:=VC P nt hcc
  simp only[Zw] at hv
  generalize ZcX st.sl=K at hv
  refine Zos (fun n a1 w1=>∃ st1 I1 Γ1,Vb (Zw C M N cx) K n st1=some (ex,st')∧st1.m=st.m∧Sim nt F A I1 Γ1 (V6 st1.nx) st1.sl st1.hp a1 w1∧ZaR Γ0 Γ1 st1.hp∧ZF I I1 w w1∧(∀ b,I1 b→I b∨F b)∧Fr F w w1)
   ?_ (n:=N) ⟨st,I,Γ,hv,rfl,hS,hc,ZF.refl I w,fun _ h=>.inl h,Fr.refl F w⟩
  rintro n a1 w1 ⟨st1,I1,Γ1,j1,j2,j3,j4,j5,j6,j7⟩
  cases n with
  | zero=>simp only[Vb] at j1;cases j1
  | succ n=>
   simp only[Vb] at j1
   obtain⟨Γ2,k1,k2⟩:=Zor j3 j4 (by rw[j2];exact hm) K
   cases hx:Zw C M N cx (Y0 K st1) with
   | none=>rw[hx] at j1;cases j1
   | some q=>
    obtain⟨e1,st2⟩:=q
    rw[hx] at j1
    have hm2:st2.m=st1.m:=(ZpF _ _ _ _ hx).trans rfl
    refine ih x h1 hx k1 k2 (by show ∀ k,st1.m≤k→Γ0 k=none;rw[j2];exact hm) fun a2 w2 hp=>?_
    obtain⟨I3,Γ3,b1,b2,b3,b4,b5⟩:=hp
    have hsub:∀ b,I3 b→I b∨F b:=fun b hb=>by
     rcases b3 b hb with h | h
     ·exact j6 b h
     ·exact .inr h
    cases e1 with
    | normal=>exact⟨n,Nat.lt_succ_self n,st2,I3,Γ3,j1,by rw[hm2,j2],b5,b1,j5.trans b2,hsub,j7.trans b4⟩
    | exit id=>
     simp only at j1
     cases j1
     exact hQ a2 w2 ⟨I3,Γ3,b1,j5.trans b2,hsub,j7.trans b4,b5⟩
    | ret=>
     simp only at j1
     cases j1
     exact hQ a2 w2 ⟨I3,Γ3,b1,j5.trans b2,hsub,j7.trans b4,b5⟩
 | exit id=>
  intro c st st' ex hcc hv I Γ a w Q hS hc hm hQ
  obtain rfl:=VC P nt hcc
  simp only[Zw] at hv;cases hv
  exact wp_exit (hQ _ _ (V8.refl hS hc))
 | ret=>
  intro c st st' ex hcc hv I Γ a w Q hS hc hm hQ
  obtain rfl:=VC P nt hcc
  simp only[Zw] at hv;cases hv
  exact wp_ret (hQ _ _ (V8.refl hS hc))
 | stuck=>
  intro c st st' ex hcc hv I Γ a w Q hS hc hm hQ
  simp only[Zw] at hv;cases hv
 | link id i j cx ih=>
  intro c st st' ex hcc hv I Γ a w Q hS hc hm hQ
  simp only[Zw] at hv
  obtain⟨st1,h1,hv⟩:=Za hv
  obtain⟨Γ1,k1,k2,k3⟩:=hS.link hc h1
  exact ih c hcc hv k1 k2 (by rw[k3];exact hm) hQ
 | melt cx ih=>
  intro c st st' ex hcc hv I Γ a w Q hS hc hm hQ
  simp only[Zw] at hv
  have hS':=hS.melt
  refine ih c hcc hv hS' ?_ hm fun a1 w1 hp=>hQ a1 w1 (hp.step ⟨fun b hb=>.inl hb,fun _ _=>rfl⟩ ?_ (Fr.refl F w))
  ·intro k b hk
   obtain⟨h3,cs,h4⟩:=hc k b hk
   refine⟨h3,cs,?_⟩
   show lkp (Zca US st.hp) k=_
   rw[U2,h4];rfl
  ·rintro b (hb | ⟨id,o,hl,hi⟩)
   ·exact .inl hb
   ·exact .inr (Zcv (hS.objs id o hl) (.inr (.inl hi)))
 | keep K cx ih=>
  intro c st st' ex hcc hv I Γ a w Q hS hc hm hQ
  simp only[Zw] at hv
  cases hx:Zw C M N cx st with
  | none=>rw[hx] at hv;cases hv
  | some q=>
   obtain⟨e1,st1⟩:=q
   rw[hx] at hv
   simp only[Zfn] at hv
   cases hv
   exact ih c hcc hx hS hc hm fun a1 w1 hp=>hQ a1 w1 (hp.only K)
end
end Go.Abs
