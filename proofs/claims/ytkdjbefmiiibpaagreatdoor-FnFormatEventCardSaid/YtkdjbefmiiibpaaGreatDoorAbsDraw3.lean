/- The abstract semantics: operations done in any order come to the same. Own text. -/
import Derived.Test.YtkdjbefmiiibpaaGreatDoorAbsDraw
import Derived.Test.YtkdjbefmiiibpaaGreatDoorAbsSound3
set_option linter.unusedVariables false
set_option linter.unusedSimpArgs false
namespace Go.Abs
open Go
section
variable {U:Nat→Prop} {hp hp' : Hp}
def ZhW (U:Nat→Prop) (x:AV):Prop:=InU U x∧∀ f caps,x=.clo f caps→∀ c∈caps,InU U c
theorem ZfR {sl:Sl}:∀ {xs:List Opd} {v:AV},v∈evL sl xs→∃ x∈xs,v=evO sl x
 | [],v,h=>by simp[evL] at h
 | x :: xs,v,h=>by
  simp only[evL] at h
  rcases List.mem_cons.1 h with rfl | h
  ·exact⟨x,by simp,rfl⟩
  ·obtain⟨y,h1,h2⟩:=ZfR h
   exact⟨y,List.mem_cons_of_mem _ h1,h2⟩
theorem Zam (h:XF U hp hp') (C:Orc) (M:Zo) {sl:Sl} (base:Nat) {c:COp} (hx:∀ x∈ZN c,ZhW U (evO sl x)):vop C M sl hp base c=vop C M sl hp' base c:=by
 cases c<;>simp only[ZN] at hx<;>simp only[vop]
 case buildSl s xs=>
  cases hv:evL sl xs with
  | nil=>rfl
  | cons v vs=>
   simp only[buildSl]
   rw[Zgz h]
   intro y hy
   rw[← hv] at hy
   obtain⟨z,h1,rfl⟩:=ZfR hy
   exact(hx z h1).1
 case load g s a=>rw[ZrL h (hx a (by simp)).1]
 case store slc s a x=>rw[Zqi h (hx a (by simp)).1 _ _ _ _ (ZrP (hx x (by simp)).1)]
 case slice s x lo hi=>rw[Zqf h (hx x (by simp)).1]
 case slice0 x hi mx=>unfold slice0;rw[ZgX h (hx x (by simp)).1]
 case slice3 s x lo hi mx=>unfold slice3;rw[ZgX h (hx x (by simp)).1]
 case clear s z x=>rw[Zqg h (hx x (by simp)).1]
 case iaS s x i=>
  congr 1
  funext n
  simp only[Zfn]
  rw[Zi0 h (hx x (by simp)).1]
 case len x=>rw[ZgX h (hx x (by simp)).1]
 case append s b str flat x y=>
  simp only[Zqy]
  rw[ZrN h (hx x (by simp)).1 (hx y (by simp)).1]
 case appDp s b f x y=>exact Zto h (hx x (by simp)).1 (hx y (by simp)).1 s b base
 case buildDp s n xs=>
  refine Zn9 h fun y hy=>?_
  obtain⟨z,h1,rfl⟩:=ZfR hy
  exact(hx z h1).1
 case call f as=>
  have hf:=hx f (by simp)
  cases he:evO sl f<;>simp only[Zcg]
  rename_i g caps
  refine ZrQ h C (M g) base g fun y hy=>?_
  rcases List.mem_append.1 hy with hy | hy
  ·obtain⟨z,h1,rfl⟩:=ZfR hy
   exact(hx z (by simp[h1])).1
  ·exact hf.2 g caps he y hy
theorem ZoK {Γ:Gh} {w:World} {I:Nat→Prop} {x:AV} {v:Value} (h:Vt Γ w I x v):∀ id∈Zm x,∃ r,Γ id=some r:=by
 intro id hid
 cases x<;>simp only[Zm,List.mem_singleton,List.not_mem_nil,List.mem_cons,or_false] at hid
 case ptr i off=>subst hid;obtain⟨b,h1,_⟩:=h;exact⟨_,h1⟩
 case prow i sz k off=>subst hid;obtain⟨b,n,c,h1,_⟩:=h;exact⟨_,h1⟩
 case own i=>subst hid;obtain⟨a,n,c,sz,h1,_⟩:=h;exact⟨_,h1⟩
 case ownv i off n=>subst hid;obtain⟨a0,m,c,sz,a,h1,_⟩:=h;exact⟨_,h1⟩
 case bnil i e=>subst hid;obtain⟨b,h1,_⟩:=h;exact⟨_,h1⟩
 case sub i nm=>obtain⟨h0,a,n,c,sz,h1,_⟩:=h;rcases hid with rfl | rfl;exact h0;exact⟨_,h1⟩
theorem Zi1 {Γ:Gh} {w:World} {I:Nat→Prop}:∀ {xs:List AV} {vs:List Value},Zu (Vt Γ w I) xs vs→∀ id∈xs.flatMap Zm,∃ r,Γ id=some r
 | [],[],_,id,hid=>by simp at hid
 | [],_ :: _,h,_,_=>h.elim
 | _ :: _,[],h,_,_=>h.elim
 | x :: xs,v :: vs,h,id,hid=>by
  simp only[List.flatMap_cons,List.mem_append] at hid
  rcases hid with hid | hid
  ·exact ZoK h.1 id hid
  ·exact Zi1 h.2 id hid
theorem Zi2 {Γ:Gh} {w:World} {I:Nat→Prop} {x:AV} {v:Value} (h:J0 Γ w I x v):∀ id∈ZG x,∃ r,Γ id=some r:=by
 intro id hid
 by_cases hs:x.small=true
 ·rw[(YY hs (fun k=>k) []).2.2.2.2.2] at hid
  rw[(Um hs v).2.1] at h
  exact ZoK h id hid
 ·cases x with
  | agg cs=>obtain⟨us,_,h2⟩:=h;exact Zi1 h2 id hid
  | clo f cs=>obtain⟨us,_,h2⟩:=h;exact Zi1 h2 id hid
  | tup cs=>exact h.elim
  | d x=>simp[ZG,Zm] at hid
  | _=>exact absurd rfl hs
theorem ZvG {Γ:Gh} {w:World} {I:Nat→Prop} {x:AV} {v:Value} (h:X4 Γ w I x v):∀ id∈ZG x,∃ r,Γ id=some r:=Zi2 h.rep2
theorem Zl1 {Γ:Gh} {w:World} {I:Nat→Prop}:∀ {xs:List AV} {vs:List Value},Zu (J0 Γ w I) xs vs→∀ id∈xs.flatMap ZG,∃ r,Γ id=some r
 | [],[],_,id,hid=>by simp at hid
 | [],_ :: _,h,_,_=>h.elim
 | _ :: _,[],h,_,_=>h.elim
 | x :: xs,v :: vs,h,id,hid=>by
  simp only[List.flatMap_cons,List.mem_append] at hid
  rcases hid with hid | hid
  ·exact Zi2 h.1 id hid
  ·exact Zl1 h.2 id hid
theorem ZrR {Γ:Gh} {w:World} {I:Nat→Prop} {x:AV} {v:Value} (h:Rep Γ w I x v):∀ id∈ZF x,∃ r,Γ id=some r:=by
 intro id hid
 by_cases ht:∃ vs,x=.tup vs
 ·obtain⟨vs,rfl⟩:=ht
  obtain⟨us,_,h2⟩:=h
  exact Zl1 h2 id hid
 ·have e:Rep Γ w I x v=J0 Γ w I x v:=by cases x<;>first | rfl | exact absurd ⟨_,rfl⟩ ht
  rw[e] at h
  refine Zi2 h id ?_
  cases x<;>first | exact hid | exact absurd ⟨_,rfl⟩ ht
theorem Zl2 {Γ:Gh} {w:World} {I:Nat→Prop}:∀ {xs:List AV} {vs:List Value},Zu (X4 Γ w I) xs vs→∀ id∈xs.flatMap ZG,∃ r,Γ id=some r
 | [],[],_,id,hid=>by simp at hid
 | [],_ :: _,h,_,_=>h.elim
 | _ :: _,[],h,_,_=>h.elim
 | x :: xs,v :: vs,h,id,hid=>by
  simp only[List.flatMap_cons,List.mem_append] at hid
  rcases hid with hid | hid
  ·exact ZvG h.1 id hid
  ·exact Zl2 h.2 id hid
theorem ZxD {Γ:Gh} {w:World} {I:Nat→Prop} {x:AV} {v:Value} (hn:∀ id,¬U id→Γ id=none) (h:Rep Γ w I x v):ZhW U x:=by
 have key:∀ id,(∃ r,Γ id=some r)→U id:=fun id ⟨r,hr⟩=>Classical.byContradiction fun hu=>by rw[hn id hu] at hr;cases hr
 refine⟨fun id hid=>key id (ZrR h id hid),fun f caps hx c hc=>?_⟩
 subst hx
 obtain⟨us,_,h2⟩:=h
 obtain⟨i,hi⟩:=List.getElem?_of_mem hc
 obtain⟨u,_,h3⟩:=h2.get i c hi
 exact fun id hid=>key id (ZrR h3.rep2.rep id hid)
end
section
variable {P:Program} {nt:Nat} {F A I:Nat→Prop} {Γ:Gh} {U:Nat→Prop} {sl:Sl} {hp:Hp} {a:Act} {w:World}
theorem Sim.good (h:Sim nt F A I Γ U sl hp a w) (t:Nat):ZhW U (gs sl t):=ZxD h.names (h.slots t)
theorem Sim.agree (h:Sim nt F A I Γ U sl hp a w) {hp' : Hp} (hs:∀ id,U id→lkp hp id=lkp hp' id):XF U hp hp':=by
 refine⟨hs,fun id o hu hl i hi=>?_⟩
 have ho:=h.objs id o hl
 cases o with
 | box cs=>
  obtain⟨b,cur,e,_,_,_,_,h5,_⟩:=ho
  obtain⟨r,hr⟩:=Zl2 h5 i hi
  exact Classical.byContradiction fun hu=>by rw[h.names i hu] at hr;cases hr
 | row sz xs ex fz=>simp[ZaS] at hi
 | deep sz ns xs lk=>simp[ZaS] at hi
theorem Oper.wp_ex {o:Oper} {a:Act} {w:World} {K:Act→World→Prop} (h:o.wp P a w K (fun _ _ _=>False)):∃ a' w',K a' w':=by
 unfold Oper.wp at h
 generalize (execOp a.eval o).run P w=r at h
 cases r with
 | ok n w' =>
  cases n<;>simp only[Oper.upon] at h
  case value v=>exact⟨_,_,h⟩
  case skip=>exact⟨_,_,h⟩
  case defer d=>exact⟨_,_,h⟩
  case enter f args=>
   obtain⟨e,w'',fr,he,_⟩:=h []
   cases e with
   | returned v=>exact⟨_,_,he⟩
   | panicked c=>exact he.elim
   | outgrown=>obtain⟨a,w,hf⟩:=he;exact hf.elim
  case row row args=>
   obtain⟨v,w'',he,_⟩:=h default []
   exact⟨_,_,he⟩
 | halt x w'=>cases x<;>simp only[Oper.upon] at h
end
end Go.Abs
set_option linter.unusedVariables false
set_option linter.unusedSimpArgs false
namespace Go.Abs
open Go
def X9 (s s' : Sl×Hp):Prop:=(∀ t,gs s.1 t=gs s'.1 t)∧∀ id,lkp s.2 id=lkp s'.2 id
theorem X9.refl (s:Sl×Hp):X9 s s:=⟨fun _=>rfl,fun _=>rfl⟩
theorem X9.symm {s s' : Sl×Hp} (h:X9 s s'):X9 s' s:=⟨fun t=>(h.1 t).symm,fun id=>(h.2 id).symm⟩
theorem X9.trans {a b c:Sl×Hp} (h:X9 a b) (k:X9 b c):X9 a c:=⟨fun t=>(h.1 t).trans (k.1 t),fun id=>(h.2 id).trans (k.2 id)⟩
theorem Zbv:∀ (l:Hp) {hp hp' : Hp},(∀ id,lkp hp id=lkp hp' id)→∀ id,lkp (Zf hp l) id=lkp (Zf hp' l) id
 | [],_,_,h=>h
 | (k,o) :: r,hp,hp',h=>by
  simp only[Zf]
  exact Zbv r fun id=>by rw[Qs,Qs,h id]
theorem ZhX:∀ (l:List Nat) {hp hp' : Hp},(∀ id,lkp hp id=lkp hp' id)→∀ id,lkp (Qz hp l) id=lkp (Qz hp' l) id
 | [],_,_,h=>h
 | d :: r,hp,hp',h=>by
  simp only[Qz]
  exact ZhX r fun id=>by rw[Zf5,Zf5,h id]
theorem ZxE (ce:Zb) (dst:Option Nat) {s s' : Sl×Hp} (h:X9 s s'):X9 (ce.on dst s.1 s.2) (ce.on dst s'.1 s'.2):=by
 refine⟨fun t=>?_,fun id=>?_⟩
 ·show gs (Zs (XA ce.gone s.1) dst ce.eff.val) t=gs (Zs (XA ce.gone s'.1) dst ce.eff.val) t
  rw[QI,QI,Q2,Q2,h.1 t]
 ·exact Zbv _ (Zbv _ (ZhX _ fun id=>by rw[Qi,Qi,VC,VC,h.2 id])) id
noncomputable def ZT (C:Orc) (M:Zo) (nx i:Nat) (t:Bool) (o:CO) (s:Sl×Hp):Option (Sl×Hp):=
 bnd (Z9 s.1 o.guard) fun b=>if b then Y1 (nx+64*i) o.dst s.1 s.2 (Wz C M nx i t o.op s.1 s.2) else some (Zs s.1 o.dst (.tup []),s.2)
noncomputable def ZJ (C:Orc) (M:Zo) (os:List CO) (nx i:Nat) (s:Sl×Hp):Option (Sl×Hp):=bnd os[i]? fun o=>ZT C M nx i (Z5 os i) o s
noncomputable def Zd9 (C:Orc) (M:Zo) (os:List CO) (nx:Nat):List Nat→Sl×Hp→Option (Sl×Hp)
 | [],s=>some s
 | i :: l,s=>bnd (ZJ C M os nx i s) (Zd9 C M os nx l)
theorem ZgY (C:Orc) (M:Zo) (os:List CO) (nx:Nat):∀ (rest:List CO) (i:Nat) (t:Bool) (sl:Sl) (hp:Hp),os.drop i=rest →
  UQ C M nx i t rest sl hp=Zd9 C M os nx (List.range' i rest.length) (sl,hp)
 | [],i,t,sl,hp,_=>rfl
 | o :: rest,i,t,sl,hp,hd=>by
  have h1:os[i]?=some o:=by
   have:(os.drop i)[0]?=some o:=by rw[hd];rfl
   rw[List.getElem?_drop] at this;simpa using this
  have h2:os.drop (i+1)=rest:=by rw[← List.drop_drop,hd];rfl
  have h4:CO.starts o=Z5 os i:=by simp only[Z5,h1]
  simp only[UQ,List.length_cons,List.range'_succ,Zd9,ZJ,h1,Ze,ZT,h4]
  cases hw:Z9 sl o.guard with
  | none=>rfl
  | some b=>
   cases b with
   | true=>
    simp only[Ze,if_true]
    cases hs:Y1 (nx+64*i) o.dst sl hp (Wz C M nx i (Z5 os i) o.op sl hp) with
    | none=>rfl
    | some r=>
     simp only[Ze]
     exact ZgY C M os nx rest (i+1) t r.1 r.2 h2
   | false=>
    simp only[Ze,Bool.false_eq_true,if_false]
    exact ZgY C M os nx rest (i+1) t _ _ h2
theorem Ztr {hp hp' : Hp} (h:∀ id,lkp hp id=lkp hp' id):XF (fun _=>True) hp hp':=⟨fun id _=>h id,fun _ _ _ _ _ _=>trivial⟩
theorem ZvH (C:Orc) (M:Zo) {s s' : Sl×Hp} (h:X9 s s') (base:Nat) (c:COp):vop C M s.1 s.2 base c=vop C M s'.1 s'.2 base c:=by
 have h1:∀ x:Opd,evO s.1 x=evO s'.1 x:=fun x=>by cases x<;>simp only[evO];exact h.1 _
 rw[XE C M s.2 base (sl:=s.1) (sl':=s'.1) fun x _=>h1 x]
 exact Zam (Ztr h.2) C M base fun x _=>⟨fun _ _=>trivial,fun _ _ _ _ _ _ _=>trivial⟩
theorem ZrS {s s' : Sl×Hp} (h:X9 s s') (g:Option (Nat×Bool)):Z9 s.1 g=Z9 s'.1 g:=by
 cases g with
 | none=>rfl
 | some q=>simp only[Z9,h.1]
theorem ZrT {C:Orc} {M:Zo} {os:List CO} {nx i:Nat} {s s' r:Sl×Hp} (h:X9 s s') (hr:ZJ C M os nx i s=some r):∃ r',ZJ C M os nx i s'=some r'∧X9 r r':=by
 unfold ZJ at hr ⊢
 obtain⟨o,h1,hr⟩:=Za hr
 rw[h1,Ze]
 unfold ZT at hr ⊢
 obtain⟨b,h2,hr⟩:=Za hr
 rw[← ZrS h,h2,Ze]
 cases b with
 | true=>
  simp only[if_true] at hr ⊢
  obtain⟨ce,h3,h4,rfl⟩:=Xf hr
  have h5:Wz C M nx i (Z5 os i) o.op s'.1 s'.2=some ce:=by
   rw[← h3];unfold Wz;rw[ZvH C M h]
  refine⟨ce.on o.dst s'.1 s'.2,?_,ZxE ce o.dst h⟩
  unfold Y1
  rw[h5,Ze,if_pos h4]
 | false=>
  simp only[Bool.false_eq_true,if_false] at hr ⊢
  cases hr
  refine⟨_,rfl,fun t=>?_,h.2⟩
  show gs (Zs s.1 o.dst (.tup [])) t=gs (Zs s'.1 o.dst (.tup [])) t
  rw[QI,QI,h.1 t]
theorem Zl3 {C:Orc} {M:Zo} {os:List CO} {nx:Nat}:∀ {l:List Nat} {s s' r:Sl×Hp},X9 s s'→Zd9 C M os nx l s=some r→∃ r',Zd9 C M os nx l s'=some r'∧X9 r r'
 | [],s,s',r,h,hr=>by simp only[Zd9] at hr ⊢;cases hr;exact⟨s',rfl,h⟩
 | i :: l,s,s',r,h,hr=>by
  simp only[Zd9] at hr ⊢
  obtain⟨s1,h1,hr⟩:=Za hr
  obtain⟨s1',h2,h3⟩:=ZrT h h1
  rw[h2,Ze]
  exact Zl3 h3 hr
theorem QN {sl:Sl} {d:Option Nat} {v:AV} {o:CO} (h:Q0 d (looks o)=true):Z9 (Zs sl d v) o.guard=Z9 sl o.guard:=by
 cases hg:o.guard with
 | none=>rfl
 | some q=>
  simp only[Z9]
  rw[QI,if_neg]
  intro e
  rw[e] at h
  simp[Q0,looks,hg,ZmL] at h
theorem WT {sl:Sl} {d:Option Nat} {v:AV} {o:CO} (h:Q0 d (looks o)=true):∀ x∈ZN o.op,evO (Zs sl d v) x=evO sl x:=by
 intro x hx
 cases x with
 | t n=>
  simp only[evO]
  rw[QI,if_neg]
  intro e
  rw[e] at h
  simp only[Q0,looks,Bool.not_eq_true',List.contains_eq_mem,decide_eq_false_iff_not] at h
  exact h (List.mem_append.2 (.inl (List.mem_flatMap.2 ⟨_,hx,by simp[Za7]⟩)))
 | _=>rfl
theorem ZgZ {C:Orc} {M:Zo} {nx i:Nat} {o:CO} {s s' : Sl×Hp} (h:ZT C M nx i false o s=some s') :
  ∃ v adds,s'=(Zs s.1 o.dst v,Zf s.2 adds)∧(∀ k x,(k,x)∈adds→nx+64*i≤k∧k<nx+64*i+64) ∧
   ∀ s'' : Sl×Hp,Z9 s''.1 o.guard=Z9 s.1 o.guard→vop C M s''.1 s''.2 (nx+64*i) o.op=vop C M s.1 s.2 (nx+64*i) o.op→ZT C M nx i false o s''=some (Zs s''.1 o.dst v,Zf s''.2 adds):=by
 unfold ZT at h
 obtain⟨b,hw,h⟩:=Za h
 cases b with
 | true=>
  simp only[if_true] at h
  obtain⟨ce,h1,h2,rfl⟩:=Xf h
  unfold Wz at h1
  simp only[Bool.false_eq_true,if_false] at h1
  have h1':=h1
  unfold Zco at h1
  obtain⟨c,h3,h1⟩:=Za h1
  unfold Zeq at h1
  split at h1
  ·rename_i e1 e2 e3 e4
   cases h1
   have hon:∀ s:Sl×Hp,ce.on o.dst s.1 s.2=(Zs s.1 o.dst ce.eff.val,Zf s.2 ce.eff.adds):=by
    intro s
    unfold Zb.on Eff.on
    rw[e1,e2,e3,e4]
    rfl
   refine⟨ce.eff.val,ce.eff.adds,hon s,Uq h2,fun s'' g1 g2=>?_⟩
   unfold ZT
   rw[g1,hw,Ze]
   simp only[if_true]
   unfold Y1 Wz
   simp only[Bool.false_eq_true,if_false]
   rw[g2,h1',Ze,if_pos h2,hon]
  ·cases h1
 | false=>
  simp only[Bool.false_eq_true,if_false] at h
  cases h
  refine⟨.tup [],[],rfl,fun k x hk=>by simp at hk,fun s'' g1 g2=>?_⟩
  unfold ZT
  rw[g1,hw,Ze]
  rfl
theorem JU {U:Nat→Prop} {a:AV} (h:Vg (.v a)=true):ZhW U a:=by
 simp only[Vg,Bool.and_eq_true,List.isEmpty_iff,Bool.not_eq_true'] at h
 refine⟨fun id hid=>by rw[h.1] at hid;simp at hid,fun f caps hx=>?_⟩
 subst hx
 simp[Zoy] at h
section
variable {P:Program} {nt:Nat}
def ZgB (nt:Nat) (s:Sl×Hp) (U:Nat→Prop):Prop:=∃ F A I Γ a w,Sim nt F A I Γ U s.1 s.2 a w
theorem WU {U:Nat→Prop} {base:Nat} (hf:XH U base) {adds:Hp} (ha:∀ k x,(k,x)∈adds→base≤k∧k<base+64) (hp:Hp):∀ id,U id→lkp hp id=lkp (Zf hp adds) id:=by
 intro id hu
 rw[Zz]
 intro o ho
 obtain⟨h1,h2⟩:=ha id o ho
 exact hf id h1 h2 hu
theorem UM {sl:Sl} {d e:Option Nat} (h:Zas d e=true) (u v:AV) (t:Nat):gs (Zs (Zs sl d u) e v) t=gs (Zs (Zs sl e v) d u) t:=by
 simp only[QI]
 by_cases h1:e=some t
 ·by_cases h2:d=some t
  ·rw[h1,h2] at h;simp[Zas] at h
  ·simp[h1,h2]
 ·simp[h1]
theorem ZxF {adds adds' : Hp} {b b' : Nat} (ha:∀ k x,(k,x)∈adds→b≤k∧k<b+64) (ha' : ∀ k x,(k,x)∈adds'→b'≤k∧k<b'+64) (hd:b+64≤b'∨b'+64≤b) (hp:Hp) (id:Nat) :
  lkp (Zf (Zf hp adds) adds') id=lkp (Zf (Zf hp adds') adds) id:=by
 have key:∀ (l:Hp) (hp hp' : Hp),(∀ o,(id,o)∉l)→lkp (Zf hp l) id=lkp hp id:=fun l hp _ h=>Zz l hp id h
 by_cases h1:∃ o,(id,o)∈adds
 ·have h2:∀ o,(id,o)∉adds':=fun o ho=>by
   obtain⟨o',ho'⟩:=h1
   have:=ha id o' ho'
   have:=ha' id o ho
   omega
  rw[Zz adds' _ id h2]
  have key:∀ (l:Hp) (hp hp' : Hp),lkp hp id=lkp hp' id→lkp (Zf hp l) id=lkp (Zf hp' l) id:=by
   intro l
   induction l with
   | nil=>intro hp hp' h;exact h
   | cons q r ih=>
    intro hp hp' h
    obtain⟨k,x⟩:=q
    simp only[Zf]
    exact ih _ _ (by rw[Qs,Qs,h])
  exact key adds _ _ (Zz adds' hp id h2).symm
 ·have h2:∀ o,(id,o)∉adds:=fun o ho=>h1 ⟨o,ho⟩
  rw[Zz adds _ id h2]
  have key:∀ (l:Hp) (hp hp' : Hp),lkp hp id=lkp hp' id→lkp (Zf hp l) id=lkp (Zf hp' l) id:=by
   intro l
   induction l with
   | nil=>intro hp hp' h;exact h
   | cons q r ih=>
    intro hp hp' h
    obtain⟨k,x⟩:=q
    simp only[Zf]
    exact ih _ _ (by rw[Qs,Qs,h])
  exact key adds' _ _ (Zz adds hp id h2)
theorem Zl4 {C:Orc} {M:Zo} {os:List CO} {nx i j:Nat} {oi oj:CO} (hoi:os[i]?=some oi) (hoj:os[j]?=some oj) (hqj:Z5 os j=false) (hij:i≠j) (hap:XW oj oi=true)
  (hops:∀ (k:Nat) (o:CO),os[k]?=some o→∀ x∈ZN o.op,Vg x=true) {s s1 s2:Sl×Hp} {U:Nat→Prop} (hs:ZgB nt s U) (hfi:XH U (nx+64*i)) (hfj:XH U (nx+64*j))
  (h1:ZJ C M os nx j s=some s1) (h2:ZT C M nx i false oi s1=some s2):∃ t1,ZT C M nx i false oi s=some t1∧∃ t2,ZJ C M os nx j t1=some t2∧X9 t2 s2:=by
 obtain⟨F,A,I,Γ,a,w,hsim⟩:=hs
 simp only[XW,Bool.and_eq_true] at hap
 obtain⟨⟨ap1,ap2⟩,ap3⟩:=hap
 have good:∀ (k:Nat) (o:CO),os[k]?=some o→∀ x∈ZN o.op,ZhW U (evO s.1 x):=by
  intro k o ho x hx
  cases x with
  | t n=>exact hsim.good n
  | v y=>exact JU (hops k o ho _ hx)
  | f n=>exact⟨fun id hid=>by simp[evO,ZF,ZG] at hid,fun f caps h c hc=>by cases h;simp at hc⟩
 simp only[ZJ,hoj,Ze,hqj] at h1
 obtain⟨vj,aj,rfl,hj1,hj2⟩:=ZgZ h1
 obtain⟨vi,ai,rfl,hi1,hi2⟩:=ZgZ h2
 dsimp only at hi2
 have e1:ZT C M nx i false oi s=some (Zs s.1 oi.dst vi,Zf s.2 ai):=by
  refine hi2 s (QN ap1).symm ?_
  rw[XE C M (Zf s.2 aj) (nx+64*i) (WT (o:=oi) ap1)]
  exact Zam (hsim.agree (WU hfj hj1 s.2)) C M _ (good i oi hoi)
 refine⟨_,e1,?_⟩
 have e2:ZT C M nx j false oj (Zs s.1 oi.dst vi,Zf s.2 ai)=some (Zs (Zs s.1 oi.dst vi) oj.dst vj,Zf (Zf s.2 ai) aj):=by
  refine hj2 (Zs s.1 oi.dst vi,Zf s.2 ai) (QN ap3) ?_
  rw[XE C M (Zf s.2 ai) (nx+64*j) (WT (o:=oj) ap3)]
  exact(Zam (hsim.agree (WU hfi hi1 s.2)) C M _ (good j oj hoj)).symm
 refine⟨_,by simp only[ZJ,hoj,Ze,hqj];exact e2,fun t=>?_,fun id=>?_⟩
 ·exact(UM ap2 vj vi t).symm
 ·refine ZxF hi1 hj1 ?_ s.2 id
  rcases Nat.lt_or_gt_of_ne hij with h | h
  ·left;omega
  ·right;omega
theorem ZvI {C:Orc} {M:Zo} {os:List CO} {nx i j:Nat} {oi oj:CO} (hoi:os[i]?=some oi) (hoj:os[j]?=some oj) (hqi:Z5 os i=false) (hqj:Z5 os j=false) (hij:i≠j) (hap:XW oj oi=true)
  (hops:∀ (k:Nat) (o:CO),os[k]?=some o→∀ x∈ZN o.op,Vg x=true) {s s1 s2:Sl×Hp} {U:Nat→Prop} (hs:ZgB nt s U) (hfi:XH U (nx+64*i)) (hfj:XH U (nx+64*j))
  (h1:ZJ C M os nx j s=some s1) (h2:ZJ C M os nx i s1=some s2):∃ t1,ZJ C M os nx i s=some t1∧∃ t2,ZJ C M os nx j t1=some t2∧X9 t2 s2:=by
 have e:∀ s:Sl×Hp,ZJ C M os nx i s=ZT C M nx i false oi s:=fun s=>by simp only[ZJ,hoi,Ze,hqi]
 rw[e] at h2
 simp only[e]
 exact Zl4 hoi hoj hqj hij hap hops hs hfi hfj h1 h2
end
end Go.Abs
