/- Own text. -/
import Derived.Test.YtcefneehgbiebaaGreatDoorAbsSound2
set_option linter.unusedVariables false
set_option linter.unusedSimpArgs false
namespace Go.Abs
open Go
def exOf:Ex→Exit
 | .normal=>.normal
 | .exit id=>.exit id
 | .ret=>.ret
theorem Zi {p:Nat→Prop} (h:∃ n,p n):∃ n,p n∧∀ m,p m→n≤m:=by
 obtain⟨n,hn⟩:=h
 induction n using Nat.strongRecOn with
 | _ n ih=>
  by_cases hm:∃ m,m<n∧p m
  ·obtain⟨m,h1,h2⟩:=hm;exact ih m h1 h2
  ·exact⟨n,hn,fun m aa=>by
    rcases KZ m n with h | h
    ·exact absurd ⟨m,h,aa⟩ hm
    ·exact h⟩
open Classical in
noncomputable def Zoi (p:Nat→Prop):Nat:=if h:∃ n,p n then (Zi h).choose else 0
theorem Zks {p:Nat→Prop} (h:∃ n,p n):p (Zoi p)∧∀ m,p m→Zoi p≤m:=by
 unfold Zoi;rw[dif_pos h];exact(Zi h).choose_spec
theorem Zz4 {P:Program} {c:Code} {Q:Exit→Act→World→Prop} (J:Nat→Act→World→Prop) (aa:∀ n a w,J n a w→c.wp P (Exit.then (fun a' w'=>∃ m,m<n∧J m a' w') Q) a w) {n:Nat} {a:Act} {w:World} (h0:J n a w) :
  (Code.loop c).wp P Q a w:=by
 refine wp_loop (fun a w=>∃ n,J n a w) (fun a w=>Zoi fun n=>J n a w) ⟨n,h0⟩ fun a w hI=>?_;refine wp_mono (aa _ a w (Zks hI).1) fun e a' w' he=>?_;cases e with
 | normal=>
  obtain⟨m,hm,hJ⟩:=he;exact⟨⟨m,hJ⟩,Nat.lt_of_le_of_lt ((Zks ⟨m,hJ⟩).2 m hJ) hm⟩
 | _=>exact he
section
variable {P:Program} {nt:Nat} {F A:Nat→Prop} {Γ0:Gh}
def Uk (P:Program) (C:Orc) (M:Zp) (nt:Nat):Prop:=
 ∀ (F A:Nat→Prop) (Γ0:Gh) (ops:Array Oper) (os:List CO) (nx m:Nat) (sl:Sl) (hp:Hp) (r:Sl×Hp) (I:Nat→Prop) (Γ:Gh) (a:Act) (w:World) (Q:Exit→Act→World→Prop) (id:Nat),
  QG (ZmK P nt ops.toList) ops.toList=some os→Zpk ops os=true→UX C M nx 0 false os sl hp=some r→Jq os r.1 (Zdg ops os)=true→Sim nt F A I Γ (ZaX nx) sl hp a w→Zf0 Γ0 Γ hp →
  (∀ a' w',Za1 nt F A Γ0 I w { sl:=r.1,hp:=r.2,nx:=nx+64*ops.size,m:=m } a' w'→Q .normal a' w')→(Code.region id ops true).wp P Q a w
theorem ZBk {C:Orc} {M:Zp} {N:Nat}:∀ (c:ZZ) (st aa : St) (e:Ex),ZG C M N c st=some (e,aa)→aa.m=st.m:=by
 intro c
 induction c with
 | skip=>intro st aa e h;simp only[ZG] at h;cases h;rfl
 | region n d ops=>
  intro st aa e h;cases d<;>(simp only[ZG,Zkm] at h;obtain⟨r,_,h⟩:=Za h;cases h;rfl)
 | seq x y ihx ihy=>
  intro st aa e h;simp only[ZG] at h;cases hx:ZG C M N x st with
  | none=>rw[hx] at h;cases h
  | some q=>
   obtain⟨e1,st1⟩:=q;rw[hx] at h;have h1:=ihx _ _ _ hx;cases e1<;>simp only[andThen] at h
   ·rw[ihy _ _ _ h,h1]
   ·cases h;exact h1
   ·cases h;exact h1
 | cond c x y ihx ihy=>
  intro st aa e h;simp only[ZG] at h;unfold Zhh at h;split at h
  ·split at h
   ·exact ihx _ _ _ h
   ·exact ihy _ _ _ h
  ·cases h
 | block id c ih=>
  intro st aa e h;simp only[ZG] at h;cases hx:ZG C M N c st with
  | none=>rw[hx] at h;cases h
  | some q=>
   obtain⟨e1,st1⟩:=q;rw[hx] at h;have h1:=ih _ _ _ hx;unfold ZgG at h;split at h
   ·rename_i j ad hq;cases hq;split at h<;>(cases h;exact h1)
   ·cases h;exact h1
 | loop c ih=>
  intro st aa e h;simp only[ZG] at h;have ab:∀ (K:List Nat) (n:Nat) (st:St),UY (ZG C M N c) K n st=some (e,aa)→aa.m=st.m:=by
   intro K n
   induction n with
   | zero=>intro st h;simp only[UY] at h;cases h
   | succ n ihn=>
    intro st h;simp only[UY] at h;cases hx:ZG C M N c (WM K st) with
    | none=>rw[hx] at h;cases h
    | some q=>
     obtain⟨e1,st1⟩:=q;rw[hx] at h;have h1:=ih _ _ _ hx;cases e1 with
     | normal=>simp only at h;rw[ihn _ h,h1];rfl
     | exit id=>simp only at h;cases h;exact h1
     | ret=>simp only at h;cases h;exact h1
  exact ab _ N st h
 | exit id=>intro st aa e h;simp only[ZG] at h;cases h;rfl
 | ret=>intro st aa e h;simp only[ZG] at h;cases h;rfl
 | stuck=>intro st aa e h;simp only[ZG] at h;cases h
 | link id i j c ih=>
  intro st aa e h;simp only[ZG] at h;obtain⟨st1,h1,h⟩:=Za h;rw[ih _ _ _ h];unfold Zep at h1;obtain⟨n,_,h1⟩:=Za h1;split at h1
  ·obtain⟨o,_,h1⟩:=Za h1;cases h1;rfl
  ·cases h1
 | melt c ih=>
  intro st aa e h;simp only[ZG] at h;rw[ih _ _ _ h];rfl
 | keep K c ih=>
  intro st aa e h;simp only[ZG] at h;cases hx:ZG C M N c st with
  | none=>rw[hx] at h;cases h
  | some q=>
   obtain⟨e1,st1⟩:=q;rw[hx] at h;simp only[ZmM] at h;cases h;show st1.m=st.m;exact ih _ _ _ hx
theorem ZCB (K:List Nat) (sl:Sl) (t:Nat):gs (only K sl) t=if K.contains t then gs sl t else .junk:=by
 simp only[gs,Zkr];split<;>rfl
theorem Sim.only {I:Nat→Prop} {Γ:Gh} {U:Nat→Prop} {sl:Sl} {hp:Hp} {a:Act} {w:World} (h:Sim nt F A I Γ U sl hp a w) (K:List Nat):Sim nt F A I Γ U (only K sl) hp a w where
 nt:=h.nt
 dfr:=h.dfr
 slots:=fun t=>by
  rw[ZCB];split
  ·exact h.slots t
  ·exact trivial
 objs:=h.objs
 inj:=h.inj
 bound:=h.bound
 fresh:=h.fresh
 own:=h.own
 names:=h.names
 glob:=h.glob
theorem Za1.only {I:Nat→Prop} {w:World} {aa : St} {a' : Act} {w' : World} (h:Za1 nt F A Γ0 I w aa a' w') (K:List Nat):Za1 nt F A Γ0 I w { aa with sl:=only K aa.sl } a' w':=by
 obtain⟨I',Γ',h1,h2,h3,h4,h5⟩:=h;exact⟨I',Γ',h1,h2,h3,h4,h5.only K⟩
section
variable (P nt)
theorem JM:∀ {c:Code} {cc:ZZ},UJ P nt c=some cc→match cc with
  | .skip=>c=.skip
  | .region n d os=>∃ id ops draw,c=.region id ops draw
  | .seq u v=>∃ x y,c=.seq x y∧UJ P nt x=some u∧UJ P nt y=some v
  | .cond co u v=>∃ o x y,c=.cond o x y∧Z5 o=some co∧UJ P nt x=some u∧UJ P nt y=some v
  | .block id u=>∃ x,c=.block id x∧UJ P nt x=some u
  | .loop u=>∃ x,c=.loop x∧UJ P nt x=some u
  | .exit id=>c=.exit id
  | .ret=>c=.ret
  | .keep _ _=>False
  | .link _ _ _ _=>False
  | .melt _=>False
  | .stuck=>True:=by
 intro c cc h;cases c<;>simp only[UJ] at h
 case skip=>cases h;rfl
 case region id ops draw=>
  obtain⟨os,_,h⟩:=Za h;split at h
  ·split at h
   ·cases h;exact⟨_,_,_,rfl⟩
   ·cases h;trivial
  ·cases h;exact⟨_,_,_,rfl⟩
 case seq x y=>
  obtain⟨u,h1,h⟩:=Za h;obtain⟨v,h2,h⟩:=Za h;cases h;exact⟨x,y,rfl,h1,h2⟩
 case cond o x y=>
  obtain⟨co,h0,h⟩:=Za h;obtain⟨u,h1,h⟩:=Za h;obtain⟨v,h2,h⟩:=Za h;cases h;exact⟨o,x,y,rfl,h0,h1,h2⟩
 case block id x=>
  obtain⟨u,h1,h⟩:=Za h;cases h;exact⟨x,rfl,h1⟩
 case loop x=>
  obtain⟨u,h1,h⟩:=Za h;cases h;exact⟨x,rfl,h1⟩
 case exit id=>cases h;rfl
 case ret=>cases h;rfl
 all_goals (cases h;trivial)
end
theorem Sim.link {I:Nat→Prop} {Γ:Gh} {st ab : St} {a:Act} {w:World} (h:Sim nt F A I Γ (ZaX st.nx) st.sl st.hp a w) (hc:Zf0 Γ0 Γ st.hp) {id:Nat} {i:Opd} {j:Nat} (hl:Zep id i j st=some ab) :
  ∃ Γ',Sim nt F A I Γ' (ZaX ab.nx) ab.sl ab.hp a w∧Zf0 Γ0 Γ' ab.hp∧ab.m=st.m:=by
 unfold Zep at hl;obtain⟨n,_,hl⟩:=Za hl;split at hl
 ·obtain⟨o,h1,hl⟩:=Za hl;cases hl;unfold ZyO at h1;split at h1
  ·rename_i sz ns xs lk ho;obtain⟨ys,h2,h1⟩:=Za h1;cases h1;obtain⟨ad,m,c,hg,hd,_⟩:=h.objs id _ ho;obtain⟨x,hx,h2⟩:=Za h2;have ai:x.cells[j]?=some (.sl ys):=by
    split at h2
    ·rename_i ap hy;cases h2;exact hy
    ·cases h2
   obtain⟨g,vs,rfl,aj,ak,al⟩:=ZcP hd hx;obtain⟨v,hv,hn⟩:=al.get j _ ai;obtain⟨a',c',rfl,aq,_⟩:=hn;have ae:=ak j _ hv;have hj:j<sz:=by rw[← aj];exact(Kb.1 hv).1
   have hi:n.toNat<xs.length:=(Kb.1 hx).1;have ag:Γ st.nx=none:=h.names st.nx (by simp[ZaX]);have hk:=Vn (.row a' ys.length c' ns) ag;have am:id≠st.nx:=fun e=>by subst e;rw[ag] at hg;cases hg
   have ah:∀ k o,lkp (ins st.hp id (.deep sz ns xs (some (st.nx,n.toNat,j)))) k=some o→(k=id∧o=.deep sz ns xs (some (st.nx,n.toNat,j)))∨(k≠id∧lkp st.hp k=some o):=by
    intro k o hk;rw[Qm] at hk;split at hk
    ·rename_i e;cases hk;exact .inl ⟨e.symm,rfl⟩
    ·rename_i e;exact .inr ⟨fun h=>e h.symm,hk⟩
   have af:∀ k o,lkp st.hp k=some o→upd Γ st.nx (.row a' ys.length c' ns) k=Γ k:=fun k o hl=>Qj _ _ fun e=>by
    subst e;exact absurd (h.id_in hl) (by simp[ZaX])
   have bk:∀ k o b,lkp (ins st.hp id (.deep sz ns xs (some (st.nx,n.toNat,j)))) k=some o→Blk (upd Γ st.nx (.row a' ys.length c' ns)) w k o b→∃ o',lkp st.hp k=some o'∧Blk Γ w k o' b:=by
    intro k o b hk hb;rcases ah k o hk with ⟨rfl,rfl⟩ | ⟨_,hk⟩
    ·refine⟨_,ho,?_⟩;rcases hb with hb | ⟨g,p,h5,h6⟩ | hb
     ·rw[af _ _ ho] at hb;exact .inl hb
     ·rw[af _ _ ho] at h5;exact .inr (.inl ⟨g,p,h5,h6⟩)
     ·exact hb.elim
    ·exact⟨o,hk,hb.back (af k o hk) fun _ _=>rfl⟩
   refine⟨upd Γ st.nx (.row a' ys.length c' ns),?_,?_,rfl⟩
   ·refine { nt:=h.nt,dfr:=h.dfr,slots:=fun t=>(h.slots t).mono hk (ZR.refl I w),objs:=?_,inj:=?_,bound:=h.bound,fresh:=h.fresh,own:=h.own,names:=?_,glob:=h.glob }
    ·intro k o aa;rcases ah k o aa with ⟨rfl,rfl⟩ | ⟨_,aa⟩
     ·exact⟨_,m,c,hk _ _ hg,hd,g,a',ys.length,c',ns,rfl,ZK _ _ _,hi,hj,ae⟩
     ·exact(h.objs k o aa).mono hk (ZR.refl I w) fun b _=>⟨rfl,fun h=>h⟩
    ·intro k k' o o' b h1 h2 an ao;obtain⟨o1,q1,q2⟩:=bk k o b h1 an;obtain⟨o2,q3,q4⟩:=bk k' o' b h2 ao;exact h.inj k k' o1 o2 b q1 q3 q2 q4
    ·intro k aa;rw[Qj _ _ (fun e=>aa (by subst e;simp[ZaX]))];exact h.names k (fun hu=>aa (by simp[ZaX] at hu ⊢;omega))
   ·intro k b aa;obtain⟨h3,cs,h4⟩:=hc k b aa;refine⟨hk _ _ h3,cs,?_⟩;show lkp (ins st.hp id _) k=_;rw[Qm,Ke (fun e=>by subst e;rw[ho] at h4;cases h4)];exact h4
  ·cases h1
 ·cases hl
theorem Sim.melt {I:Nat→Prop} {Γ:Gh} {U:Nat→Prop} {sl:Sl} {hp:Hp} {a:Act} {w:World} (h:Sim nt F A I Γ U sl hp a w) :
  Sim nt F A (fun b=>I b∨∃ id o,lkp hp id=some o∧Ye Γ w id o b) Γ U sl (Ziv Zda hp) a w:=by
 have aa:ZR I (fun b=>I b∨∃ id o,lkp hp id=some o∧Ye Γ w id o b) w w:=⟨fun _ h=>.inl h,fun _ _=>rfl⟩
 have ae:∀ k o,lkp (Ziv Zda hp) k=some o→∃ o0,lkp hp k=some o0∧o=Zda o0:=by
  intro k o hk;rw[Zdl] at hk;cases hl:lkp hp k with
  | none=>rw[hl] at hk;cases hk
  | some o0=>rw[hl] at hk;simp only[KI,Option.some.injEq] at hk;exact⟨o0,rfl,hk.symm⟩
 have bk:∀ k o0 b,Blk Γ w k (Zda o0) b→Blk Γ w k o0 b:=by
  intro k o0 b hb;cases o0 with
  | box cs=>exact hb
  | row sz xs ex fz=>exact hb
  | deep sz ns xs lk=>exact .inl hb.row
 refine { nt:=h.nt,dfr:=h.dfr,slots:=fun t=>(h.slots t).mono (Q9.refl Γ) aa,objs:=?_,inj:=?_,bound:=?_,fresh:=h.fresh,own:=h.own,names:=h.names,glob:=h.glob.mono aa }
 ·intro k o hk;obtain⟨o0,hl,rfl⟩:=ae k o hk;have ho:=h.objs k o0 hl;have plain:(∀ b,¬Ye Γ w k o0 b)→Wa Γ w (fun b=>I b∨∃ id o,lkp hp id=some o∧Ye Γ w id o b) F A k o0:=fun hn=>ho.mono (Q9.refl Γ) aa fun b hb=>⟨rfl,fun hi=>by
   rcases hi with hi | ⟨id,o',ab,hi⟩
   ·exact hi
   ·have:=h.inj k id o0 o' b hl ab hb (.inr (.inl hi));subst this;rw[hl] at ab;cases ab;exact absurd hi (hn b)⟩
  cases o0 with
  | box cs=>exact plain fun b hb=>hb
  | row sz xs ex fz=>exact plain fun b hb=>hb
  | deep sz ns xs lk=>
   obtain⟨ad,n,c,h1,hd,_⟩:=ho;have ai:=hd;obtain⟨h2,h3⟩:=hd;refine⟨ad,n,c,h1,h2,?_⟩;rcases h3 with h3 | ⟨g,cur,e,rfl,hc,hw,h4,h5,h6,af,h8,aj,aq,ak,al⟩
   ·exact .inl h3
   ·have ag:ZB (Γ k)=some g:=by rw[h1];simp[ZB,KG hc]
    refine .inr ⟨g,cur,e,rfl,hc,hw,h4,h5,h6,af,?_,aj,?_⟩
    ·simp only[Ka,Kq]
     rintro (hi | ⟨id,o',ab,hi⟩)
     ·exact h8 hi
     ·have:=h.inj k id _ o' g hl ab (.inl ag) (.inr (.inl hi));subst this;rw[hl] at ab;cases ab;obtain⟨g2,p,ah,am,an⟩:=hi;rw[ag] at ah;cases ah;exact al p (by rw[h2];exact am) an
    ·simp only[Km];exact Zpu ai (fun b hb ha=>⟨.inl hb,ha⟩) fun p b hp hn=>
      have hi:Ye Γ w k (.deep sz ns xs lk) b:=⟨g,p,ag,hp,hn⟩
      ⟨.inr ⟨k,_,hl,hi⟩,h.own b (ZiP (h.objs k _ hl) (.inr (.inl hi)))⟩
 ·intro i j o o' b hi hj ao ap;obtain⟨o0,hl,rfl⟩:=ae i o hi;obtain⟨o1,ab,rfl⟩:=ae j o' hj;exact h.inj i j o0 o1 b hl ab (bk i o0 b ao) (bk j o1 b ap)
 ·rintro b (hb | ⟨id,o,hl,hi⟩)
  ·exact h.bound b hb
  ·exact h.blk_lt hl (.inr (.inl hi))
theorem Zf1 {C:Orc} {M:Zp} (hC:QL P C) (hB:WC C) (hD:Uk P C M nt) {N:Nat}:∀ (cc:ZZ) (c:Code) {st ab : St} {ex:Ex},UJ P nt c=some (YR cc)→ZG C M N cc st=some (ex,ab) →
  ∀ {I:Nat→Prop} {Γ:Gh} {a:Act} {w:World} {Q:Exit→Act→World→Prop},Sim nt F A I Γ (ZaX st.nx) st.sl st.hp a w→Zf0 Γ0 Γ st.hp→(∀ k,st.m≤k→Γ0 k=none) →
  (∀ a' w',Za1 nt F A Γ0 I w ab a' w'→Q (exOf ex) a' w')→c.wp P Q a w:=by
 intro cc
 induction cc with
 | skip=>
  intro c st ab ex aa hv I Γ a w Q hS hc hm hQ;obtain rfl:=JM P nt aa;simp only[ZG] at hv;cases hv;exact wp_skip (hQ _ _ (Za1.refl hS hc))
 | region n d os0=>
  intro c st ab ex aa hv I Γ a w Q hS hc hm hQ;obtain⟨id,ops,draw,rfl⟩:=JM P nt aa;simp only[YR,UJ] at aa;obtain⟨os,h1,aa⟩:=Za aa;cases draw with
  | false=>
   simp only[Ka,Kq,Option.some.injEq,ZZ.region.injEq] at aa;obtain⟨rfl,rfl,rfl⟩:=aa;simp only[ZxS] at h1;simp only[ZG,Zkm] at hv;obtain⟨r,h2,hv⟩:=Za hv;cases hv;refine wp_region ?_;have:=ZxT (m:=st.m) (Γ0:=Γ0) (F:=F) (A:=A) (Q:=Q) hC hB os0 0 (LR _) (by simpa using h1) h2 (by simpa using hS) hc (fun a' w' hp=>hQ a' w' (by simpa using hp));rw[List.range_eq_range'];simpa using this
  | true=>
   simp only[Km] at aa;split at aa
   ·rename_i ae;simp only[Option.some.injEq,ZZ.region.injEq] at aa;obtain⟨rfl,rfl,ag⟩:=aa;simp only[ZxS] at ag;subst ag;simp only[ZG,Zkm] at hv;obtain⟨r,h2,hv⟩:=Za hv;cases hv;unfold Zpm at h2;obtain⟨r',h3,h2⟩:=Za h2;split at h2
    ·rename_i af;cases h2;exact hD F A Γ0 ops _ st.nx st.m st.sl st.hp r I Γ a w Q id h1 ae h3 af hS hc (fun a' w' hp=>hQ a' w' (by simpa using hp))
    ·cases h2
   ·cases aa
 | seq cx cy ihx ihy=>
  intro c st ab ex aa hv I Γ a w Q hS hc hm hQ;obtain⟨x,y,rfl,h1,h2⟩:=JM P nt aa;simp only[ZG] at hv;cases hx:ZG C M N cx st with
  | none=>rw[hx] at hv;cases hv
  | some q=>
   obtain⟨e1,st1⟩:=q;rw[hx] at hv;refine wp_seq (ihx x h1 hx hS hc hm fun a1 w1 hp=>?_);have ai:=ZBk _ _ _ _ hx;cases e1 with
   | normal=>
    simp only[andThen] at hv;obtain⟨I1,Γ1,b1,b2,b3,b4,b5⟩:=hp;exact ihy y h2 hv b5 b1 (by rw[ai];exact hm) fun a2 w2 aj=>hQ a2 w2 (aj.step b2 b3 b4)
   | exit id=>simp only[andThen] at hv;cases hv;exact hQ a1 w1 hp
   | ret=>simp only[andThen] at hv;cases hv;exact hQ a1 w1 hp
 | cond co cx cy ihx ihy=>
  intro c st ab ex aa hv I Γ a w Q hS hc hm hQ;obtain⟨o,x,y,rfl,h0,h1,h2⟩:=JM P nt aa;simp only[ZG] at hv;have hr:=hS.slOK.ev h0;unfold Zhh at hv;split at hv
  ·rename_i t ht;rw[ht] at hr;have hb:=ZeZ hr;cases t with
   | true=>simp only[Km] at hv;exact wp_cond_true hb (ihx x h1 hv hS hc hm hQ)
   | false=>simp only[Ka,Kq] at hv;exact wp_cond_false hb (ihy y h2 hv hS hc hm hQ)
  ·cases hv
 | block id cx ih=>
  intro c st ab ex aa hv I Γ a w Q hS hc hm hQ;obtain⟨x,rfl,h1⟩:=JM P nt aa;simp only[ZG] at hv;cases hx:ZG C M N cx st with
  | none=>rw[hx] at hv;cases hv
  | some q=>
   obtain⟨e1,st1⟩:=q;rw[hx] at hv;refine wp_block (ih x h1 hx hS hc hm fun a1 w1 hp=>?_);cases e1 with
   | normal=>simp only[ZgG] at hv;cases hv;exact hQ a1 w1 hp
   | exit j=>
    simp only[ZgG] at hv;simp only[exOf,Exit.inBlock];split at hv
    ·rename_i hj;cases hv;rw[Kh hj];exact hQ a1 w1 hp
    ·rename_i hj;cases hv;rw[Ke hj];exact hQ a1 w1 hp
   | ret=>simp only[ZgG] at hv;cases hv;exact hQ a1 w1 hp
 | loop cx ih=>
  intro c st ab ex aa hv I Γ a w Q hS hc hm hQ;obtain⟨x,rfl,h1⟩:=JM P nt aa;simp only[ZG] at hv;generalize Zjm st.sl=K at hv;refine Zz4 (fun n a1 w1=>∃ st1 I1 Γ1,UY (ZG C M N cx) K n st1=some (ex,ab)∧st1.m=st.m∧Sim nt F A I1 Γ1 (ZaX st1.nx) st1.sl st1.hp a1 w1∧Zf0 Γ0 Γ1 st1.hp∧ZR I I1 w w1∧(∀ b,I1 b→I b∨F b)∧Fr F w w1)
   ?_ (n:=N) ⟨st,I,Γ,hv,rfl,hS,hc,ZR.refl I w,fun _ h=>.inl h,Fr.refl F w⟩
  rintro n a1 w1 ⟨st1,I1,Γ1,j1,j2,j3,j4,j5,j6,j7⟩
  cases n with
  | zero=>simp only[UY] at j1;cases j1
  | succ n=>
   simp only[UY] at j1;obtain⟨Γ2,k1,k2⟩:=Zz3 j3 j4 (by rw[j2];exact hm) K;cases hx:ZG C M N cx (WM K st1) with
   | none=>rw[hx] at j1;cases j1
   | some q=>
    obtain⟨e1,ah⟩:=q;rw[hx] at j1;have ak:ah.m=st1.m:=(ZBk _ _ _ _ hx).trans rfl;refine ih x h1 hx k1 k2 (by show ∀ k,st1.m≤k→Γ0 k=none;rw[j2];exact hm) fun a2 w2 hp=>?_;obtain⟨I3,Γ3,b1,b2,b3,b4,b5⟩:=hp;have ad:∀ b,I3 b→I b∨F b:=fun b hb=>by
     rcases b3 b hb with h | h
     ·exact j6 b h
     ·exact .inr h
    cases e1 with
    | normal=>exact⟨n,Nat.lt_succ_self n,ah,I3,Γ3,j1,by rw[ak,j2],b5,b1,j5.trans b2,ad,j7.trans b4⟩
    | exit id=>
     simp only at j1;cases j1;exact hQ a2 w2 ⟨I3,Γ3,b1,j5.trans b2,ad,j7.trans b4,b5⟩
    | ret=>
     simp only at j1;cases j1;exact hQ a2 w2 ⟨I3,Γ3,b1,j5.trans b2,ad,j7.trans b4,b5⟩
 | exit id=>
  intro c st ab ex aa hv I Γ a w Q hS hc hm hQ;obtain rfl:=JM P nt aa;simp only[ZG] at hv;cases hv;exact wp_exit (hQ _ _ (Za1.refl hS hc))
 | ret=>
  intro c st ab ex aa hv I Γ a w Q hS hc hm hQ;obtain rfl:=JM P nt aa;simp only[ZG] at hv;cases hv;exact wp_ret (hQ _ _ (Za1.refl hS hc))
 | stuck=>
  intro c st ab ex aa hv I Γ a w Q hS hc hm hQ;simp only[ZG] at hv;cases hv
 | link id i j cx ih=>
  intro c st ab ex aa hv I Γ a w Q hS hc hm hQ;simp only[ZG] at hv;obtain⟨st1,h1,hv⟩:=Za hv;obtain⟨Γ1,k1,k2,k3⟩:=hS.link hc h1;exact ih c aa hv k1 k2 (by rw[k3];exact hm) hQ
 | melt cx ih=>
  intro c st ab ex aa hv I Γ a w Q hS hc hm hQ;simp only[ZG] at hv;have al:=hS.melt;refine ih c aa hv al ?_ hm fun a1 w1 hp=>hQ a1 w1 (hp.step ⟨fun b hb=>.inl hb,fun _ _=>rfl⟩ ?_ (Fr.refl F w))
  ·intro k b hk;obtain⟨h3,cs,h4⟩:=hc k b hk;refine⟨h3,cs,?_⟩;show lkp (Ziv Zda st.hp) k=_;rw[Zdl,h4];rfl
  ·rintro b (hb | ⟨id,o,hl,hi⟩)
   ·exact .inl hb
   ·exact .inr (ZiP (hS.objs id o hl) (.inr (.inl hi)))
 | keep K cx ih=>
  intro c st ab ex aa hv I Γ a w Q hS hc hm hQ;simp only[ZG] at hv;cases hx:ZG C M N cx st with
  | none=>rw[hx] at hv;cases hv
  | some q=>
   obtain⟨e1,st1⟩:=q;rw[hx] at hv;simp only[ZmM] at hv;cases hv;exact ih c aa hx hS hc hm fun a1 w1 hp=>hQ a1 w1 (hp.only K)
end
end Go.Abs
