/- The abstract semantics: operations that may be done in any order. Own text. -/
import Derived.Test.YtpobhkoombldlaaGreatAbsDraw
import Derived.Test.YtpobhkoombldlaaGreatAbsSound3
set_option linter.unusedVariables false
set_option linter.unusedSimpArgs false
namespace Go.Abs
open Go
section
variable {U:Nat→Prop} {hp hp' : Hp}
def Zlj (U:Nat→Prop) (x:AV):Prop:=InU U x∧∀ f caps,x=.clo f caps→∀ c∈caps,InU U c
theorem ZiV {sl:Sl}:∀ {xs:List Opd} {v:AV},v∈evL sl xs→∃ x∈xs,v=evO sl x
 | [],v,h=>by simp[evL] at h
 | x :: xs,v,h=>by
  simp only[evL] at h
  rcases List.mem_cons.1 h with rfl | h
  ·exact⟨x,by simp,rfl⟩
  ·obtain⟨y,h1,h2⟩:=ZiV h
   exact⟨y,List.mem_cons_of_mem _ h1,h2⟩
theorem ZbO (h:X5 U hp hp') (C:Orc) (M:Zu) {sl:Sl} (base:Nat) {c:COp} (hx:∀ x∈ZT c,Zlj U (evO sl x)):vop C M sl hp base c=vop C M sl hp' base c:=by
 cases c<;>simp only[ZT] at hx<;>simp only[vop]
 case buildSl s xs=>
  cases hv:evL sl xs with
  | nil=>rfl
  | cons v vs=>
   simp only[buildSl]
   rw[Zjs h]
   intro y hy
   rw[← hv] at hy
   obtain⟨z,h1,rfl⟩:=ZiV hy
   exact(hx z h1).1
 case load g s a=>rw[ZuY h (hx a (by simp)).1]
 case store slc s a x=>rw[ZtC h (hx a (by simp)).1 _ _ _ _ (Zu2 (hx x (by simp)).1)]
 case slice s x lo hi=>rw[Ztz h (hx x (by simp)).1]
 case slice0 x hi mx=>unfold slice0;rw[Zkz h (hx x (by simp)).1]
 case slice3 s x lo hi mx=>unfold slice3;rw[Zkz h (hx x (by simp)).1]
 case clear s z x=>rw[ZtA h (hx x (by simp)).1]
 case iaS s x i=>
  congr 1
  funext n
  simp only[ZhB]
  rw[ZmE h (hx x (by simp)).1]
 case len x=>rw[Zkz h (hx x (by simp)).1]
 case append s b str flat x y=>
  simp only[ZtS]
  rw[Zu0 h (hx x (by simp)).1 (hx y (by simp)).1]
 case appDp s b f x y=>exact ZwE h (hx x (by simp)).1 (hx y (by simp)).1 s b base
 case buildDp s n xs=>
  refine Zrv h fun y hy=>?_
  obtain⟨z,h1,rfl⟩:=ZiV hy
  exact(hx z h1).1
 case call f as=>
  have hf:=hx f (by simp)
  cases he:evO sl f<;>simp only[Zd0]
  rename_i g caps
  refine Zu3 h C (M g) base g fun y hy=>?_
  rcases List.mem_append.1 hy with hy | hy
  ·obtain⟨z,h1,rfl⟩:=ZiV hy
   exact(hx z (by simp[h1])).1
  ·exact hf.2 g caps he y hy
theorem Zsv {Γ:Gh} {w:World} {I:Nat→Prop} {x:AV} {v:Value} (h:Wn Γ w I x v):∀ id∈Zq x,∃ r,Γ id=some r:=by
 intro id hid
 cases x<;>simp only[Zq,List.mem_singleton,List.not_mem_nil,List.mem_cons,or_false] at hid
 case ptr i off=>subst hid;obtain⟨b,h1,_⟩:=h;exact⟨_,h1⟩
 case prow i sz k off=>subst hid;obtain⟨b,n,c,h1,_⟩:=h;exact⟨_,h1⟩
 case own i=>subst hid;obtain⟨a,n,c,sz,h1,_⟩:=h;exact⟨_,h1⟩
 case ownv i off n=>subst hid;obtain⟨a0,m,c,sz,a,h1,_⟩:=h;exact⟨_,h1⟩
 case sub i nm=>obtain⟨h0,a,n,c,sz,h1,_⟩:=h;rcases hid with rfl | rfl;exact h0;exact⟨_,h1⟩
theorem ZmF {Γ:Gh} {w:World} {I:Nat→Prop}:∀ {xs:List AV} {vs:List Value},ZB (Wn Γ w I) xs vs→∀ id∈xs.flatMap Zq,∃ r,Γ id=some r
 | [],[],_,id,hid=>by simp at hid
 | [],_ :: _,h,_,_=>h.elim
 | _ :: _,[],h,_,_=>h.elim
 | x :: xs,v :: vs,h,id,hid=>by
  simp only[List.flatMap_cons,List.mem_append] at hid
  rcases hid with hid | hid
  ·exact Zsv h.1 id hid
  ·exact ZmF h.2 id hid
theorem ZmG {Γ:Gh} {w:World} {I:Nat→Prop} {x:AV} {v:Value} (h:Za1 Γ w I x v):∀ id∈ZK x,∃ r,Γ id=some r:=by
 intro id hid
 by_cases hs:x.small=true
 ·rw[(Vv hs (fun k=>k) []).2.2.2.2.2] at hid
  rw[(Jh hs v).2.1] at h
  exact Zsv h id hid
 ·cases x with
  | agg cs=>obtain⟨us,_,h2⟩:=h;exact ZmF h2 id hid
  | clo f cs=>obtain⟨us,_,h2⟩:=h;exact ZmF h2 id hid
  | tup cs=>exact h.elim
  | d x=>simp[ZK,Zq] at hid
  | _=>exact absurd rfl hs
theorem ZyA {Γ:Gh} {w:World} {I:Nat→Prop} {x:AV} {v:Value} (h:Vm Γ w I x v):∀ id∈ZK x,∃ r,Γ id=some r:=ZmG h.rep2
theorem Zpe {Γ:Gh} {w:World} {I:Nat→Prop}:∀ {xs:List AV} {vs:List Value},ZB (Za1 Γ w I) xs vs→∀ id∈xs.flatMap ZK,∃ r,Γ id=some r
 | [],[],_,id,hid=>by simp at hid
 | [],_ :: _,h,_,_=>h.elim
 | _ :: _,[],h,_,_=>h.elim
 | x :: xs,v :: vs,h,id,hid=>by
  simp only[List.flatMap_cons,List.mem_append] at hid
  rcases hid with hid | hid
  ·exact ZmG h.1 id hid
  ·exact Zpe h.2 id hid
theorem Zu4 {Γ:Gh} {w:World} {I:Nat→Prop} {x:AV} {v:Value} (h:Rep Γ w I x v):∀ id∈ZJ x,∃ r,Γ id=some r:=by
 intro id hid
 by_cases ht:∃ vs,x=.tup vs
 ·obtain⟨vs,rfl⟩:=ht
  obtain⟨us,_,h2⟩:=h
  exact Zpe h2 id hid
 ·have e:Rep Γ w I x v=Za1 Γ w I x v:=by cases x<;>first | rfl | exact absurd ⟨_,rfl⟩ ht
  rw[e] at h
  refine ZmG h id ?_
  cases x<;>first | exact hid | exact absurd ⟨_,rfl⟩ ht
theorem Zpf {Γ:Gh} {w:World} {I:Nat→Prop}:∀ {xs:List AV} {vs:List Value},ZB (Vm Γ w I) xs vs→∀ id∈xs.flatMap ZK,∃ r,Γ id=some r
 | [],[],_,id,hid=>by simp at hid
 | [],_ :: _,h,_,_=>h.elim
 | _ :: _,[],h,_,_=>h.elim
 | x :: xs,v :: vs,h,id,hid=>by
  simp only[List.flatMap_cons,List.mem_append] at hid
  rcases hid with hid | hid
  ·exact ZyA h.1 id hid
  ·exact Zpf h.2 id hid
theorem ZzT {Γ:Gh} {w:World} {I:Nat→Prop} {x:AV} {v:Value} (hn:∀ id,¬U id→Γ id=none) (h:Rep Γ w I x v):Zlj U x:=by
 have key:∀ id,(∃ r,Γ id=some r)→U id:=fun id ⟨r,hr⟩=>Classical.byContradiction fun hu=>by rw[hn id hu] at hr;cases hr
 refine⟨fun id hid=>key id (Zu4 h id hid),fun f caps hx c hc=>?_⟩
 subst hx
 obtain⟨us,_,h2⟩:=h
 obtain⟨i,hi⟩:=List.getElem?_of_mem hc
 obtain⟨u,_,h3⟩:=h2.get i c hi
 exact fun id hid=>key id (Zu4 h3.rep2.rep id hid)
end
section
variable {P:Program} {nt:Nat} {F A I:Nat→Prop} {Γ:Gh} {U:Nat→Prop} {sl:Sl} {hp:Hp} {a:Act} {w:World}
theorem Sim.good (h:Sim nt F A I Γ U sl hp a w) (t:Nat):Zlj U (gs sl t):=ZzT h.names (h.slots t)
theorem Sim.agree (h:Sim nt F A I Γ U sl hp a w) {hp' : Hp} (hs:∀ id,U id→lkp hp id=lkp hp' id):X5 U hp hp':=by
 refine⟨hs,fun id o hu hl i hi=>?_⟩
 have ho:=h.objs id o hl
 cases o with
 | box cs=>
  obtain⟨b,cur,e,_,_,_,_,h5⟩:=ho
  obtain⟨r,hr⟩:=Zpf h5 i hi
  exact Classical.byContradiction fun hu=>by rw[h.names i hu] at hr;cases hr
 | row sz xs ex fz=>simp[Zcv] at hi
 | deep sz ns xs lk=>simp[Zcv] at hi
theorem Oper.wp_ex {o:Oper} {a:Act} {w:World} {K:Act→World→Prop} (h:o.wp P a w K (fun _ _ _=>False)):∃ a' w',K a' w':=by
 unfold Oper.wp at h
 generalize (execOp a.eval o).run P w=r at h
 cases r with
 | ok n w' =>
  cases n<;>simp only[Oper.upon] at h
  case value v=>exact⟨_,_,h⟩
  case skip=>exact⟨_,_,h⟩
  case defer d=>exact⟨_,_,h⟩
  case enter f args=>
   obtain⟨e,w'',fr,he,_⟩:=h []
   cases e with
   | returned v=>exact⟨_,_,he⟩
   | panicked c=>exact he.elim
   | outgrown=>obtain⟨a,w,hf⟩:=he;exact hf.elim
  case row row args=>
   obtain⟨v,w'',he,_⟩:=h default []
   exact⟨_,_,he⟩
 | halt x w'=>cases x<;>simp only[Oper.upon] at h
end
end Go.Abs
