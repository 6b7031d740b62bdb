/- The abstract semantics: operations done in any order come to the same. Own text. -/
import Derived.Test.YtemkonmgcoceaaaDoorAbsDraw
import Derived.Test.YtemkonmgcoceaaaDoorAbsSound3
set_option linter.unusedVariables false
set_option linter.unusedSimpArgs false
namespace Go.Abs
open Go
section
variable {U:Nat→Prop} {hp hp' : Hp}
def Zdu (U:Nat→Prop) (x:AV):Prop:=InU U x∧∀ f caps,x=.clo f caps→∀ c∈caps,InU U c
theorem ZbQ {sl:Sl}:∀ {xs:List Opd} {v:AV},v∈evL sl xs→∃ x∈xs,v=evO sl x
 | [],v,h=>by simp[evL] at h
 | x :: xs,v,h=>by
  simp only[evL] at h
  rcases List.mem_cons.1 h with rfl | h
  ·exact⟨x,by simp,rfl⟩
  ·obtain⟨y,h1,h2⟩:=ZbQ h
   exact⟨y,List.mem_cons_of_mem _ h1,h2⟩
theorem Wj (h:QN U hp hp') (C:Orc) (M:Zj) {sl:Sl} (base:Nat) {c:COp} (hx:∀ x∈ZB c,Zdu U (evO sl x)):vop C M sl hp base c=vop C M sl hp' base c:=by
 cases c<;>simp only[ZB] at hx<;>simp only[vop]
 case buildSl s xs=>
  cases hv:evL sl xs with
  | nil=>rfl
  | cons v vs=>
   simp only[buildSl]
   rw[Zcm h]
   intro y hy
   rw[← hv] at hy
   obtain⟨z,h1,rfl⟩:=ZbQ hy
   exact(hx z h1).1
 case load g s a=>rw[Zkt h (hx a (by simp)).1]
 case store slc s a x=>rw[Zjm h (hx a (by simp)).1 _ _ _ _ (Zkx (hx x (by simp)).1)]
 case slice s x lo hi=>rw[Zjj h (hx x (by simp)).1]
 case slice0 x hi mx=>unfold slice0;rw[ZcG h (hx x (by simp)).1]
 case slice3 s x lo hi mx=>unfold slice3;rw[ZcG h (hx x (by simp)).1]
 case clear s z x=>rw[Zjk h (hx x (by simp)).1]
 case iaS s x i=>
  congr 1
  funext n
  simp only[Zbw]
  rw[Zej h (hx x (by simp)).1]
 case len x=>rw[ZcG h (hx x (by simp)).1]
 case append s b str flat x y=>
  simp only[ZjC]
  rw[Zkv h (hx x (by simp)).1 (hx y (by simp)).1]
 case appDp s b f x y=>exact ZlV h (hx x (by simp)).1 (hx y (by simp)).1 s b base
 case buildDp s n xs=>
  refine ZhP h fun y hy=>?_
  obtain⟨z,h1,rfl⟩:=ZbQ hy
  exact(hx z h1).1
 case call f as=>
  have hf:=hx f (by simp)
  cases he:evO sl f<;>simp only[UT]
  rename_i g caps
  refine Zky h C (M g) base g fun y hy=>?_
  rcases List.mem_append.1 hy with hy | hy
  ·obtain⟨z,h1,rfl⟩:=ZbQ hy
   exact(hx z (by simp[h1])).1
  ·exact hf.2 g caps he y hy
theorem Zij {Γ:Gh} {w:World} {I:Nat→Prop} {x:AV} {v:Value} (h:XV Γ w I x v):∀ id∈Zf x,∃ r,Γ id=some r:=by
 intro id hid
 cases x<;>simp only[Zf,List.mem_singleton,List.not_mem_nil,List.mem_cons,or_false] at hid
 case ptr i off=>subst hid;obtain⟨b,h1,_⟩:=h;exact⟨_,h1⟩
 case prow i sz k off=>subst hid;obtain⟨b,n,c,h1,_⟩:=h;exact⟨_,h1⟩
 case own i=>subst hid;obtain⟨a,n,c,sz,h1,_⟩:=h;exact⟨_,h1⟩
 case ownv i off n=>subst hid;obtain⟨a0,m,c,sz,a,h1,_⟩:=h;exact⟨_,h1⟩
 case bnil i e=>subst hid;obtain⟨b,h1,_⟩:=h;exact⟨_,h1⟩
 case sub i nm=>obtain⟨h0,a,n,c,sz,h1,_⟩:=h;rcases hid with rfl | rfl;exact h0;exact⟨_,h1⟩
theorem Zek {Γ:Gh} {w:World} {I:Nat→Prop}:∀ {xs:List AV} {vs:List Value},Zm (XV Γ w I) xs vs→∀ id∈xs.flatMap Zf,∃ r,Γ id=some r
 | [],[],_,id,hid=>by simp at hid
 | [],_ :: _,h,_,_=>h.elim
 | _ :: _,[],h,_,_=>h.elim
 | x :: xs,v :: vs,h,id,hid=>by
  simp only[List.flatMap_cons,List.mem_append] at hid
  rcases hid with hid | hid
  ·exact Zij h.1 id hid
  ·exact Zek h.2 id hid
theorem Zel {Γ:Gh} {w:World} {I:Nat→Prop} {x:AV} {v:Value} (h:VZ Γ w I x v):∀ id∈Zu x,∃ r,Γ id=some r:=by
 intro id hid
 by_cases hs:x.small=true
 ·rw[(XB hs (fun k=>k) []).2.2.2.2.2] at hid
  rw[(YT hs v).2.1] at h
  exact Zij h id hid
 ·cases x with
  | agg cs=>obtain⟨us,_,h2⟩:=h;exact Zek h2 id hid
  | clo f cs=>obtain⟨us,_,h2⟩:=h;exact Zek h2 id hid
  | tup cs=>exact h.elim
  | d x=>simp[Zu,Zf] at hid
  | _=>exact absurd rfl hs
theorem ZnO {Γ:Gh} {w:World} {I:Nat→Prop} {x:AV} {v:Value} (h:Q0 Γ w I x v):∀ id∈Zu x,∃ r,Γ id=some r:=Zel h.rep2
theorem Zgr {Γ:Gh} {w:World} {I:Nat→Prop}:∀ {xs:List AV} {vs:List Value},Zm (VZ Γ w I) xs vs→∀ id∈xs.flatMap Zu,∃ r,Γ id=some r
 | [],[],_,id,hid=>by simp at hid
 | [],_ :: _,h,_,_=>h.elim
 | _ :: _,[],h,_,_=>h.elim
 | x :: xs,v :: vs,h,id,hid=>by
  simp only[List.flatMap_cons,List.mem_append] at hid
  rcases hid with hid | hid
  ·exact Zel h.1 id hid
  ·exact Zgr h.2 id hid
theorem Zkz {Γ:Gh} {w:World} {I:Nat→Prop} {x:AV} {v:Value} (h:Rep Γ w I x v):∀ id∈Zs x,∃ r,Γ id=some r:=by
 intro id hid
 by_cases ht:∃ vs,x=.tup vs
 ·obtain⟨vs,rfl⟩:=ht
  obtain⟨us,_,h2⟩:=h
  exact Zgr h2 id hid
 ·have e:Rep Γ w I x v=VZ Γ w I x v:=by cases x<;>first | rfl | exact absurd ⟨_,rfl⟩ ht
  rw[e] at h
  refine Zel h id ?_
  cases x<;>first | exact hid | exact absurd ⟨_,rfl⟩ ht
theorem Zgs {Γ:Gh} {w:World} {I:Nat→Prop}:∀ {xs:List AV} {vs:List Value},Zm (Q0 Γ w I) xs vs→∀ id∈xs.flatMap Zu,∃ r,Γ id=some r
 | [],[],_,id,hid=>by simp at hid
 | [],_ :: _,h,_,_=>h.elim
 | _ :: _,[],h,_,_=>h.elim
 | x :: xs,v :: vs,h,id,hid=>by
  simp only[List.flatMap_cons,List.mem_append] at hid
  rcases hid with hid | hid
  ·exact ZnO h.1 id hid
  ·exact Zgs h.2 id hid
theorem Zo7 {Γ:Gh} {w:World} {I:Nat→Prop} {x:AV} {v:Value} (hn:∀ id,¬U id→Γ id=none) (h:Rep Γ w I x v):Zdu U x:=by
 have key:∀ id,(∃ r,Γ id=some r)→U id:=fun id ⟨r,hr⟩=>Classical.byContradiction fun hu=>by rw[hn id hu] at hr;cases hr
 refine⟨fun id hid=>key id (Zkz h id hid),fun f caps hx c hc=>?_⟩
 subst hx
 obtain⟨us,_,h2⟩:=h
 obtain⟨i,hi⟩:=List.getElem?_of_mem hc
 obtain⟨u,_,h3⟩:=h2.get i c hi
 exact fun id hid=>key id (Zkz h3.rep2.rep id hid)
end
section
variable {P:Program} {nt:Nat} {F A I:Nat→Prop} {Γ:Gh} {U:Nat→Prop} {sl:Sl} {hp:Hp} {a:Act} {w:World}
theorem Sim.good (h:Sim nt F A I Γ U sl hp a w) (t:Nat):Zdu U (gs sl t):=Zo7 h.names (h.slots t)
theorem Sim.agree (h:Sim nt F A I Γ U sl hp a w) {hp' : Hp} (hs:∀ id,U id→lkp hp id=lkp hp' id):QN U hp hp':=by
 refine⟨hs,fun id o hu hl i hi=>?_⟩
 have ho:=h.objs id o hl
 cases o with
 | box cs=>
  obtain⟨b,cur,e,_,_,_,_,h5,_⟩:=ho
  obtain⟨r,hr⟩:=Zgs h5 i hi
  exact Classical.byContradiction fun hu=>by rw[h.names i hu] at hr;cases hr
 | row sz xs ex fz=>simp[WJ] at hi
 | deep sz ns xs lk=>simp[WJ] at hi
theorem Oper.wp_ex {o:Oper} {a:Act} {w:World} {K:Act→World→Prop} (h:o.wp P a w K (fun _ _ _=>False)):∃ a' w',K a' w':=by
 unfold Oper.wp at h
 generalize (execOp a.eval o).run P w=r at h
 cases r with
 | ok n w' =>
  cases n<;>simp only[Oper.upon] at h
  case value v=>exact⟨_,_,h⟩
  case skip=>exact⟨_,_,h⟩
  case defer d=>exact⟨_,_,h⟩
  case enter f args=>
   obtain⟨e,w'',fr,he,_⟩:=h []
   cases e with
   | returned v=>exact⟨_,_,he⟩
   | panicked c=>exact he.elim
   | outgrown=>obtain⟨a,w,hf⟩:=he;exact hf.elim
  case row row args=>
   obtain⟨v,w'',he,_⟩:=h default []
   exact⟨_,_,he⟩
 | halt x w'=>cases x<;>simp only[Oper.upon] at h
end
end Go.Abs
set_option linter.unusedVariables false
set_option linter.unusedSimpArgs false
namespace Go.Abs
open Go
def Q3 (s s' : Sl×Hp):Prop:=(∀ t,gs s.1 t=gs s'.1 t)∧∀ id,lkp s.2 id=lkp s'.2 id
theorem Q3.refl (s:Sl×Hp):Q3 s s:=⟨fun _=>rfl,fun _=>rfl⟩
theorem Q3.symm {s s' : Sl×Hp} (h:Q3 s s'):Q3 s' s:=⟨fun t=>(h.1 t).symm,fun id=>(h.2 id).symm⟩
theorem Q3.trans {a b c:Sl×Hp} (h:Q3 a b) (k:Q3 b c):Q3 a c:=⟨fun t=>(h.1 t).trans (k.1 t),fun id=>(h.2 id).trans (k.2 id)⟩
theorem Ua:∀ (l:Hp) {hp hp' : Hp},(∀ id,lkp hp id=lkp hp' id)→∀ id,lkp (Zc hp l) id=lkp (Zc hp' l) id
 | [],_,_,h=>h
 | (k,o) :: r,hp,hp',h=>by
  simp only[Zc]
  exact Ua r fun id=>by rw[ZZ,ZZ,h id]
theorem Zdv:∀ (l:List Nat) {hp hp' : Hp},(∀ id,lkp hp id=lkp hp' id)→∀ id,lkp (Z4 hp l) id=lkp (Z4 hp' l) id
 | [],_,_,h=>h
 | d :: r,hp,hp',h=>by
  simp only[Z4]
  exact Zdv r fun id=>by rw[Zb2,Zb2,h id]
theorem Zo8 (ce:Zb) (dst:Option Nat) {s s' : Sl×Hp} (h:Q3 s s'):Q3 (ce.on dst s.1 s.2) (ce.on dst s'.1 s'.2):=by
 refine⟨fun t=>?_,fun id=>?_⟩
 ·show gs (Zl (QJ ce.gone s.1) dst ce.eff.val) t=gs (Zl (QJ ce.gone s'.1) dst ce.eff.val) t
  rw[Qa,Qa,Qo,Qo,h.1 t]
 ·exact Ua _ (Ua _ (Zdv _ fun id=>by rw[ZO,ZO,X0,X0,h.2 id])) id
noncomputable def ZE (C:Orc) (M:Zj) (nx i:Nat) (t:Bool) (o:CO) (s:Sl×Hp):Option (Sl×Hp):=
 bnd (ZM s.1 o.guard) fun b=>if b then XE (nx+64*i) o.dst s.1 s.2 (Yw C M nx i t o.op s.1 s.2) else some (Zl s.1 o.dst (.tup []),s.2)
noncomputable def Zy (C:Orc) (M:Zj) (os:List CO) (nx i:Nat) (s:Sl×Hp):Option (Sl×Hp):=bnd os[i]? fun o=>ZE C M nx i (ZI os i) o s
noncomputable def Zav (C:Orc) (M:Zj) (os:List CO) (nx:Nat):List Nat→Sl×Hp→Option (Sl×Hp)
 | [],s=>some s
 | i :: l,s=>bnd (Zy C M os nx i s) (Zav C M os nx l)
theorem ZcH (C:Orc) (M:Zj) (os:List CO) (nx:Nat):∀ (rest:List CO) (i:Nat) (t:Bool) (sl:Sl) (hp:Hp),os.drop i=rest →
  Va C M nx i t rest sl hp=Zav C M os nx (List.range' i rest.length) (sl,hp)
 | [],i,t,sl,hp,_=>rfl
 | o :: rest,i,t,sl,hp,hd=>by
  have h1:os[i]?=some o:=by
   have:(os.drop i)[0]?=some o:=by rw[hd];rfl
   rw[List.getElem?_drop] at this;simpa using this
  have h2:os.drop (i+1)=rest:=by rw[← List.drop_drop,hd];rfl
  have h4:CO.starts o=ZI os i:=by simp only[ZI,h1]
  simp only[Va,List.length_cons,List.range'_succ,Zav,Zy,h1,Zd,ZE,h4]
  cases hw:ZM sl o.guard with
  | none=>rfl
  | some b=>
   cases b with
   | true=>
    simp only[Zd,if_true]
    cases hs:XE (nx+64*i) o.dst sl hp (Yw C M nx i (ZI os i) o.op sl hp) with
    | none=>rfl
    | some r=>
     simp only[Zd]
     exact ZcH C M os nx rest (i+1) t r.1 r.2 h2
   | false=>
    simp only[Zd,Bool.false_eq_true,if_false]
    exact ZcH C M os nx rest (i+1) t _ _ h2
theorem ZlY {hp hp' : Hp} (h:∀ id,lkp hp id=lkp hp' id):QN (fun _=>True) hp hp':=⟨fun id _=>h id,fun _ _ _ _ _ _=>trivial⟩
theorem ZnP (C:Orc) (M:Zj) {s s' : Sl×Hp} (h:Q3 s s') (base:Nat) (c:COp):vop C M s.1 s.2 base c=vop C M s'.1 s'.2 base c:=by
 have h1:∀ x:Opd,evO s.1 x=evO s'.1 x:=fun x=>by cases x<;>simp only[evO];exact h.1 _
 rw[QM C M s.2 base (sl:=s.1) (sl':=s'.1) fun x _=>h1 x]
 exact Wj (ZlY h.2) C M base fun x _=>⟨fun _ _=>trivial,fun _ _ _ _ _ _ _=>trivial⟩
theorem ZkA {s s' : Sl×Hp} (h:Q3 s s') (g:Option (Nat×Bool)):ZM s.1 g=ZM s'.1 g:=by
 cases g with
 | none=>rfl
 | some q=>simp only[ZM,h.1]
theorem ZkB {C:Orc} {M:Zj} {os:List CO} {nx i:Nat} {s s' r:Sl×Hp} (h:Q3 s s') (hr:Zy C M os nx i s=some r):∃ r',Zy C M os nx i s'=some r'∧Q3 r r':=by
 unfold Zy at hr ⊢
 obtain⟨o,h1,hr⟩:=Za hr
 rw[h1,Zd]
 unfold ZE at hr ⊢
 obtain⟨b,h2,hr⟩:=Za hr
 rw[← ZkA h,h2,Zd]
 cases b with
 | true=>
  simp only[if_true] at hr ⊢
  obtain⟨ce,h3,h4,rfl⟩:=QB hr
  have h5:Yw C M nx i (ZI os i) o.op s'.1 s'.2=some ce:=by
   rw[← h3];unfold Yw;rw[ZnP C M h]
  refine⟨ce.on o.dst s'.1 s'.2,?_,Zo8 ce o.dst h⟩
  unfold XE
  rw[h5,Zd,if_pos h4]
 | false=>
  simp only[Bool.false_eq_true,if_false] at hr ⊢
  cases hr
  refine⟨_,rfl,fun t=>?_,h.2⟩
  show gs (Zl s.1 o.dst (.tup [])) t=gs (Zl s'.1 o.dst (.tup [])) t
  rw[Qa,Qa,h.1 t]
theorem Zgt {C:Orc} {M:Zj} {os:List CO} {nx:Nat}:∀ {l:List Nat} {s s' r:Sl×Hp},Q3 s s'→Zav C M os nx l s=some r→∃ r',Zav C M os nx l s'=some r'∧Q3 r r'
 | [],s,s',r,h,hr=>by simp only[Zav] at hr ⊢;cases hr;exact⟨s',rfl,h⟩
 | i :: l,s,s',r,h,hr=>by
  simp only[Zav] at hr ⊢
  obtain⟨s1,h1,hr⟩:=Za hr
  obtain⟨s1',h2,h3⟩:=ZkB h h1
  rw[h2,Zd]
  exact Zgt h3 hr
theorem Qc {sl:Sl} {d:Option Nat} {v:AV} {o:CO} (h:Qk d (looks o)=true):ZM (Zl sl d v) o.guard=ZM sl o.guard:=by
 cases hg:o.guard with
 | none=>rfl
 | some q=>
  simp only[ZM]
  rw[Qa,if_neg]
  intro e
  rw[e] at h
  simp[Qk,looks,hg,Zg7] at h
theorem YE {sl:Sl} {d:Option Nat} {v:AV} {o:CO} (h:Qk d (looks o)=true):∀ x∈ZB o.op,evO (Zl sl d v) x=evO sl x:=by
 intro x hx
 cases x with
 | t n=>
  simp only[evO]
  rw[Qa,if_neg]
  intro e
  rw[e] at h
  simp only[Qk,looks,Bool.not_eq_true',List.contains_eq_mem,decide_eq_false_iff_not] at h
  exact h (List.mem_append.2 (.inl (List.mem_flatMap.2 ⟨_,hx,by simp[WS]⟩)))
 | _=>rfl
theorem ZcI {C:Orc} {M:Zj} {nx i:Nat} {o:CO} {s s' : Sl×Hp} (h:ZE C M nx i false o s=some s') :
  ∃ v adds,s'=(Zl s.1 o.dst v,Zc s.2 adds)∧(∀ k x,(k,x)∈adds→nx+64*i≤k∧k<nx+64*i+64) ∧
   ∀ s'' : Sl×Hp,ZM s''.1 o.guard=ZM s.1 o.guard→vop C M s''.1 s''.2 (nx+64*i) o.op=vop C M s.1 s.2 (nx+64*i) o.op→ZE C M nx i false o s''=some (Zl s''.1 o.dst v,Zc s''.2 adds):=by
 unfold ZE at h
 obtain⟨b,hw,h⟩:=Za h
 cases b with
 | true=>
  simp only[if_true] at h
  obtain⟨ce,h1,h2,rfl⟩:=QB h
  unfold Yw at h1
  simp only[Bool.false_eq_true,if_false] at h1
  have h1':=h1
  unfold UZ at h1
  obtain⟨c,h3,h1⟩:=Za h1
  unfold ZaN at h1
  split at h1
  ·rename_i e1 e2 e3 e4
   cases h1
   have hon:∀ s:Sl×Hp,ce.on o.dst s.1 s.2=(Zl s.1 o.dst ce.eff.val,Zc s.2 ce.eff.adds):=by
    intro s
    unfold Zb.on Eff.on
    rw[e1,e2,e3,e4]
    rfl
   refine⟨ce.eff.val,ce.eff.adds,hon s,YV h2,fun s'' g1 g2=>?_⟩
   unfold ZE
   rw[g1,hw,Zd]
   simp only[if_true]
   unfold XE Yw
   simp only[Bool.false_eq_true,if_false]
   rw[g2,h1',Zd,if_pos h2,hon]
  ·cases h1
 | false=>
  simp only[Bool.false_eq_true,if_false] at h
  cases h
  refine⟨.tup [],[],rfl,fun k x hk=>by simp at hk,fun s'' g1 g2=>?_⟩
  unfold ZE
  rw[g1,hw,Zd]
  rfl
theorem VR {U:Nat→Prop} {a:AV} (h:XN (.v a)=true):Zdu U a:=by
 simp only[XN,Bool.and_eq_true,List.isEmpty_iff,Bool.not_eq_true'] at h
 refine⟨fun id hid=>by rw[h.1] at hid;simp at hid,fun f caps hx=>?_⟩
 subst hx
 simp[Zh8] at h
section
variable {P:Program} {nt:Nat}
def Zco (nt:Nat) (s:Sl×Hp) (U:Nat→Prop):Prop:=∃ F A I Γ a w,Sim nt F A I Γ U s.1 s.2 a w
theorem YF {U:Nat→Prop} {base:Nat} (hf:QO U base) {adds:Hp} (ha:∀ k x,(k,x)∈adds→base≤k∧k<base+64) (hp:Hp):∀ id,U id→lkp hp id=lkp (Zc hp adds) id:=by
 intro id hu
 rw[Zn]
 intro o ho
 obtain⟨h1,h2⟩:=ha id o ho
 exact hf id h1 h2 hu
theorem Y6 {sl:Sl} {d e:Option Nat} (h:Wq d e=true) (u v:AV) (t:Nat):gs (Zl (Zl sl d u) e v) t=gs (Zl (Zl sl e v) d u) t:=by
 simp only[Qa]
 by_cases h1:e=some t
 ·by_cases h2:d=some t
  ·rw[h1,h2] at h;simp[Wq] at h
  ·simp[h1,h2]
 ·simp[h1]
theorem Zo9 {adds adds' : Hp} {b b' : Nat} (ha:∀ k x,(k,x)∈adds→b≤k∧k<b+64) (ha' : ∀ k x,(k,x)∈adds'→b'≤k∧k<b'+64) (hd:b+64≤b'∨b'+64≤b) (hp:Hp) (id:Nat) :
  lkp (Zc (Zc hp adds) adds') id=lkp (Zc (Zc hp adds') adds) id:=by
 have key:∀ (l:Hp) (hp hp' : Hp),(∀ o,(id,o)∉l)→lkp (Zc hp l) id=lkp hp id:=fun l hp _ h=>Zn l hp id h
 by_cases h1:∃ o,(id,o)∈adds
 ·have h2:∀ o,(id,o)∉adds':=fun o ho=>by
   obtain⟨o',ho'⟩:=h1
   have:=ha id o' ho'
   have:=ha' id o ho
   omega
  rw[Zn adds' _ id h2]
  have key:∀ (l:Hp) (hp hp' : Hp),lkp hp id=lkp hp' id→lkp (Zc hp l) id=lkp (Zc hp' l) id:=by
   intro l
   induction l with
   | nil=>intro hp hp' h;exact h
   | cons q r ih=>
    intro hp hp' h
    obtain⟨k,x⟩:=q
    simp only[Zc]
    exact ih _ _ (by rw[ZZ,ZZ,h])
  exact key adds _ _ (Zn adds' hp id h2).symm
 ·have h2:∀ o,(id,o)∉adds:=fun o ho=>h1 ⟨o,ho⟩
  rw[Zn adds _ id h2]
  have key:∀ (l:Hp) (hp hp' : Hp),lkp hp id=lkp hp' id→lkp (Zc hp l) id=lkp (Zc hp' l) id:=by
   intro l
   induction l with
   | nil=>intro hp hp' h;exact h
   | cons q r ih=>
    intro hp hp' h
    obtain⟨k,x⟩:=q
    simp only[Zc]
    exact ih _ _ (by rw[ZZ,ZZ,h])
  exact key adds' _ _ (Zn adds hp id h2)
theorem Zgu {C:Orc} {M:Zj} {os:List CO} {nx i j:Nat} {oi oj:CO} (hoi:os[i]?=some oi) (hoj:os[j]?=some oj) (hqj:ZI os j=false) (hij:i≠j) (hap:QV oj oi=true)
  (hops:∀ (k:Nat) (o:CO),os[k]?=some o→∀ x∈ZB o.op,XN x=true) {s s1 s2:Sl×Hp} {U:Nat→Prop} (hs:Zco nt s U) (hfi:QO U (nx+64*i)) (hfj:QO U (nx+64*j))
  (h1:Zy C M os nx j s=some s1) (h2:ZE C M nx i false oi s1=some s2):∃ t1,ZE C M nx i false oi s=some t1∧∃ t2,Zy C M os nx j t1=some t2∧Q3 t2 s2:=by
 obtain⟨F,A,I,Γ,a,w,hsim⟩:=hs
 simp only[QV,Bool.and_eq_true] at hap
 obtain⟨⟨ap1,ap2⟩,ap3⟩:=hap
 have good:∀ (k:Nat) (o:CO),os[k]?=some o→∀ x∈ZB o.op,Zdu U (evO s.1 x):=by
  intro k o ho x hx
  cases x with
  | t n=>exact hsim.good n
  | v y=>exact VR (hops k o ho _ hx)
  | f n=>exact⟨fun id hid=>by simp[evO,Zs,Zu] at hid,fun f caps h c hc=>by cases h;simp at hc⟩
 simp only[Zy,hoj,Zd,hqj] at h1
 obtain⟨vj,aj,rfl,hj1,hj2⟩:=ZcI h1
 obtain⟨vi,ai,rfl,hi1,hi2⟩:=ZcI h2
 dsimp only at hi2
 have e1:ZE C M nx i false oi s=some (Zl s.1 oi.dst vi,Zc s.2 ai):=by
  refine hi2 s (Qc ap1).symm ?_
  rw[QM C M (Zc s.2 aj) (nx+64*i) (YE (o:=oi) ap1)]
  exact Wj (hsim.agree (YF hfj hj1 s.2)) C M _ (good i oi hoi)
 refine⟨_,e1,?_⟩
 have e2:ZE C M nx j false oj (Zl s.1 oi.dst vi,Zc s.2 ai)=some (Zl (Zl s.1 oi.dst vi) oj.dst vj,Zc (Zc s.2 ai) aj):=by
  refine hj2 (Zl s.1 oi.dst vi,Zc s.2 ai) (Qc ap3) ?_
  rw[QM C M (Zc s.2 ai) (nx+64*j) (YE (o:=oj) ap3)]
  exact(Wj (hsim.agree (YF hfi hi1 s.2)) C M _ (good j oj hoj)).symm
 refine⟨_,by simp only[Zy,hoj,Zd,hqj];exact e2,fun t=>?_,fun id=>?_⟩
 ·exact(Y6 ap2 vj vi t).symm
 ·refine Zo9 hi1 hj1 ?_ s.2 id
  rcases Nat.lt_or_gt_of_ne hij with h | h
  ·left;omega
  ·right;omega
theorem ZnQ {C:Orc} {M:Zj} {os:List CO} {nx i j:Nat} {oi oj:CO} (hoi:os[i]?=some oi) (hoj:os[j]?=some oj) (hqi:ZI os i=false) (hqj:ZI os j=false) (hij:i≠j) (hap:QV oj oi=true)
  (hops:∀ (k:Nat) (o:CO),os[k]?=some o→∀ x∈ZB o.op,XN x=true) {s s1 s2:Sl×Hp} {U:Nat→Prop} (hs:Zco nt s U) (hfi:QO U (nx+64*i)) (hfj:QO U (nx+64*j))
  (h1:Zy C M os nx j s=some s1) (h2:Zy C M os nx i s1=some s2):∃ t1,Zy C M os nx i s=some t1∧∃ t2,Zy C M os nx j t1=some t2∧Q3 t2 s2:=by
 have e:∀ s:Sl×Hp,Zy C M os nx i s=ZE C M nx i false oi s:=fun s=>by simp only[Zy,hoi,Zd,hqi]
 rw[e] at h2
 simp only[e]
 exact Zgu hoi hoj hqj hij hap hops hs hfi hfj h1 h2
end
end Go.Abs
