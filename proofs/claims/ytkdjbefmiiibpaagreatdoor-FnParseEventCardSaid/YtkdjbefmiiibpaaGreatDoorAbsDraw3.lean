/- The abstract semantics: operations done in any order come to the same. Own text. -/
import Derived.Test.YtkdjbefmiiibpaaGreatDoorAbsDraw
import Derived.Test.YtkdjbefmiiibpaaGreatDoorAbsSound3
set_option linter.unusedVariables false
set_option linter.unusedSimpArgs false
namespace Go.Abs
open Go
section
variable {U:Nat→Prop} {hp hp' : Hp}
def Zli (U:Nat→Prop) (x:AV):Prop:=InU U x∧∀ f caps,x=.clo f caps→∀ c∈caps,InU U c
theorem Zju {sl:Sl}:∀ {xs:List Opd} {v:AV},v∈evL sl xs→∃ x∈xs,v=evO sl x
 | [],v,h=>by simp[evL] at h
 | x :: xs,v,h=>by
  simp only[evL] at h
  rcases List.mem_cons.1 h with rfl | h
  ·exact⟨x,by simp,rfl⟩
  ·obtain⟨y,h1,h2⟩:=Zju h
   exact⟨y,List.mem_cons_of_mem _ h1,h2⟩
theorem ZbF (h:X9 U hp hp') (C:Orc) (M:Zt) {sl:Sl} (base:Nat) {c:COp} (hx:∀ x∈ZT c,Zli U (evO sl x)):vop C M sl hp base c=vop C M sl hp' base c:=by
 cases c<;>simp only[ZT] at hx<;>simp only[vop]
 case buildSl s xs=>
  cases hv:evL sl xs with
  | nil=>rfl
  | cons v vs=>
   simp only[buildSl]
   rw[Zj6 h]
   intro y hy
   rw[← hv] at hy
   obtain⟨z,h1,rfl⟩:=Zju hy
   exact(hx z h1).1
 case load g s a=>rw[Zuk h (hx a (by simp)).1]
 case store slc s a x=>rw[ZsX h (hx a (by simp)).1 _ _ _ _ (Zuo (hx x (by simp)).1)]
 case slice s x lo hi=>rw[ZsU h (hx x (by simp)).1]
 case slice0 x hi mx=>unfold slice0;rw[Zku h (hx x (by simp)).1]
 case slice3 s x lo hi mx=>unfold slice3;rw[Zku h (hx x (by simp)).1]
 case clear s z x=>rw[ZsV h (hx x (by simp)).1]
 case iaS s x i=>
  congr 1
  funext n
  simp only[ZiD]
  rw[Zms h (hx x (by simp)).1]
 case len x=>rw[Zku h (hx x (by simp)).1]
 case append s b str flat x y=>
  simp only[Ztb]
  rw[Zum h (hx x (by simp)).1 (hx y (by simp)).1]
 case appDp s b f x y=>exact Zwf h (hx x (by simp)).1 (hx y (by simp)).1 s b base
 case buildDp s n xs=>
  refine ZqP h fun y hy=>?_
  obtain⟨z,h1,rfl⟩:=Zju hy
  exact(hx z h1).1
 case call f as=>
  have hf:=hx f (by simp)
  cases he:evO sl f<;>simp only[Zd8]
  rename_i g caps
  refine Zup h C (M g) base g fun y hy=>?_
  rcases List.mem_append.1 hy with hy | hy
  ·obtain⟨z,h1,rfl⟩:=Zju hy
   exact(hx z (by simp[h1])).1
  ·exact hf.2 g caps he y hy
theorem ZrM {Γ:Gh} {w:World} {I:Nat→Prop} {x:AV} {v:Value} (h:Wk Γ w I x v):∀ id∈Zp x,∃ r,Γ id=some r:=by
 intro id hid
 cases x<;>simp only[Zp,List.mem_singleton,List.not_mem_nil,List.mem_cons,or_false] at hid
 case ptr i off=>subst hid;obtain⟨b,h1,_⟩:=h;exact⟨_,h1⟩
 case prow i sz k off=>subst hid;obtain⟨b,n,c,h1,_⟩:=h;exact⟨_,h1⟩
 case own i=>subst hid;obtain⟨a,n,c,sz,h1,_⟩:=h;exact⟨_,h1⟩
 case ownv i off n=>subst hid;obtain⟨a0,m,c,sz,a,h1,_⟩:=h;exact⟨_,h1⟩
 case bnil i e=>subst hid;obtain⟨b,h1,_⟩:=h;exact⟨_,h1⟩
 case sub i nm=>obtain⟨h0,a,n,c,sz,h1,_⟩:=h;rcases hid with rfl | rfl;exact h0;exact⟨_,h1⟩
theorem Zmt {Γ:Gh} {w:World} {I:Nat→Prop}:∀ {xs:List AV} {vs:List Value},Zz (Wk Γ w I) xs vs→∀ id∈xs.flatMap Zp,∃ r,Γ id=some r
 | [],[],_,id,hid=>by simp at hid
 | [],_ :: _,h,_,_=>h.elim
 | _ :: _,[],h,_,_=>h.elim
 | x :: xs,v :: vs,h,id,hid=>by
  simp only[List.flatMap_cons,List.mem_append] at hid
  rcases hid with hid | hid
  ·exact ZrM h.1 id hid
  ·exact Zmt h.2 id hid
theorem Zmu {Γ:Gh} {w:World} {I:Nat→Prop} {x:AV} {v:Value} (h:Za2 Γ w I x v):∀ id∈ZJ x,∃ r,Γ id=some r:=by
 intro id hid
 by_cases hs:x.small=true
 ·rw[(VK hs (fun k=>k) []).2.2.2.2.2] at hid
  rw[(Jc hs v).2.1] at h
  exact ZrM h id hid
 ·cases x with
  | agg cs=>obtain⟨us,_,h2⟩:=h;exact Zmt h2 id hid
  | clo f cs=>obtain⟨us,_,h2⟩:=h;exact Zmt h2 id hid
  | tup cs=>exact h.elim
  | d x=>simp[ZJ,Zp] at hid
  | _=>exact absurd rfl hs
theorem ZyS {Γ:Gh} {w:World} {I:Nat→Prop} {x:AV} {v:Value} (h:YA Γ w I x v):∀ id∈ZJ x,∃ r,Γ id=some r:=Zmu h.rep2
theorem ZoS {Γ:Gh} {w:World} {I:Nat→Prop}:∀ {xs:List AV} {vs:List Value},Zz (Za2 Γ w I) xs vs→∀ id∈xs.flatMap ZJ,∃ r,Γ id=some r
 | [],[],_,id,hid=>by simp at hid
 | [],_ :: _,h,_,_=>h.elim
 | _ :: _,[],h,_,_=>h.elim
 | x :: xs,v :: vs,h,id,hid=>by
  simp only[List.flatMap_cons,List.mem_append] at hid
  rcases hid with hid | hid
  ·exact Zmu h.1 id hid
  ·exact ZoS h.2 id hid
theorem Zuq {Γ:Gh} {w:World} {I:Nat→Prop} {x:AV} {v:Value} (h:Rep Γ w I x v):∀ id∈ZI x,∃ r,Γ id=some r:=by
 intro id hid
 by_cases ht:∃ vs,x=.tup vs
 ·obtain⟨vs,rfl⟩:=ht
  obtain⟨us,_,h2⟩:=h
  exact ZoS h2 id hid
 ·have e:Rep Γ w I x v=Za2 Γ w I x v:=by cases x<;>first | rfl | exact absurd ⟨_,rfl⟩ ht
  rw[e] at h
  refine Zmu h id ?_
  cases x<;>first | exact hid | exact absurd ⟨_,rfl⟩ ht
theorem ZoT {Γ:Gh} {w:World} {I:Nat→Prop}:∀ {xs:List AV} {vs:List Value},Zz (YA Γ w I) xs vs→∀ id∈xs.flatMap ZJ,∃ r,Γ id=some r
 | [],[],_,id,hid=>by simp at hid
 | [],_ :: _,h,_,_=>h.elim
 | _ :: _,[],h,_,_=>h.elim
 | x :: xs,v :: vs,h,id,hid=>by
  simp only[List.flatMap_cons,List.mem_append] at hid
  rcases hid with hid | hid
  ·exact ZyS h.1 id hid
  ·exact ZoT h.2 id hid
theorem ZAB {Γ:Gh} {w:World} {I:Nat→Prop} {x:AV} {v:Value} (hn:∀ id,¬U id→Γ id=none) (h:Rep Γ w I x v):Zli U x:=by
 have key:∀ id,(∃ r,Γ id=some r)→U id:=fun id ⟨r,hr⟩=>Classical.byContradiction fun hu=>by rw[hn id hu] at hr;cases hr
 refine⟨fun id hid=>key id (Zuq h id hid),fun f caps hx c hc=>?_⟩
 subst hx
 obtain⟨us,_,h2⟩:=h
 obtain⟨i,hi⟩:=List.getElem?_of_mem hc
 obtain⟨u,_,h3⟩:=h2.get i c hi
 exact fun id hid=>key id (Zuq h3.rep2.rep id hid)
end
section
variable {P:Program} {nt:Nat} {F A I:Nat→Prop} {Γ:Gh} {U:Nat→Prop} {sl:Sl} {hp:Hp} {a:Act} {w:World}
theorem Sim.good (h:Sim nt F A I Γ U sl hp a w) (t:Nat):Zli U (gs sl t):=ZAB h.names (h.slots t)
theorem Sim.agree (h:Sim nt F A I Γ U sl hp a w) {hp' : Hp} (hs:∀ id,U id→lkp hp id=lkp hp' id):X9 U hp hp':=by
 refine⟨hs,fun id o hu hl i hi=>?_⟩
 have ho:=h.objs id o hl
 cases o with
 | box cs=>
  obtain⟨b,cur,e,_,_,_,_,h5,_⟩:=ho
  obtain⟨r,hr⟩:=ZoT h5 i hi
  exact Classical.byContradiction fun hu=>by rw[h.names i hu] at hr;cases hr
 | row sz xs ex fz=>simp[Zcq] at hi
 | deep sz ns xs lk=>simp[Zcq] at hi
theorem Oper.wp_ex {o:Oper} {a:Act} {w:World} {K:Act→World→Prop} (h:o.wp P a w K (fun _ _ _=>False)):∃ a' w',K a' w':=by
 unfold Oper.wp at h
 generalize (execOp a.eval o).run P w=r at h
 cases r with
 | ok n w' =>
  cases n<;>simp only[Oper.upon] at h
  case value v=>exact⟨_,_,h⟩
  case skip=>exact⟨_,_,h⟩
  case defer d=>exact⟨_,_,h⟩
  case enter f args=>
   obtain⟨e,w'',fr,he,_⟩:=h []
   cases e with
   | returned v=>exact⟨_,_,he⟩
   | panicked c=>exact he.elim
   | outgrown=>obtain⟨a,w,hf⟩:=he;exact hf.elim
  case row row args=>
   obtain⟨v,w'',he,_⟩:=h default []
   exact⟨_,_,he⟩
 | halt x w'=>cases x<;>simp only[Oper.upon] at h
end
end Go.Abs
set_option linter.unusedVariables false
set_option linter.unusedSimpArgs false
namespace Go.Abs
open Go
def YO (s s' : Sl×Hp):Prop:=(∀ t,gs s.1 t=gs s'.1 t)∧∀ id,lkp s.2 id=lkp s'.2 id
theorem YO.refl (s:Sl×Hp):YO s s:=⟨fun _=>rfl,fun _=>rfl⟩
theorem YO.symm {s s' : Sl×Hp} (h:YO s s'):YO s' s:=⟨fun t=>(h.1 t).symm,fun id=>(h.2 id).symm⟩
theorem YO.trans {a b c:Sl×Hp} (h:YO a b) (k:YO b c):YO a c:=⟨fun t=>(h.1 t).trans (k.1 t),fun id=>(h.2 id).trans (k.2 id)⟩
theorem Zdv:∀ (l:Hp) {hp hp' : Hp},(∀ id,lkp hp id=lkp hp' id)→∀ id,lkp (Zg hp l) id=lkp (Zg hp' l) id
 | [],_,_,h=>h
 | (k,o) :: r,hp,hp',h=>by
  simp only[Zg]
  exact Zdv r fun id=>by rw[Qy,Qy,h id]
theorem Zlj:∀ (l:List Nat) {hp hp' : Hp},(∀ id,lkp hp id=lkp hp' id)→∀ id,lkp (QH hp l) id=lkp (QH hp' l) id
 | [],_,_,h=>h
 | d :: r,hp,hp',h=>by
  simp only[QH]
  exact Zlj r fun id=>by rw[ZjI,ZjI,h id]
theorem ZAC (ce:Zc) (dst:Option Nat) {s s' : Sl×Hp} (h:YO s s'):YO (ce.on dst s.1 s.2) (ce.on dst s'.1 s'.2):=by
 refine⟨fun t=>?_,fun id=>?_⟩
 ·show gs (Zw (XP ce.gone s.1) dst ce.eff.val) t=gs (Zw (XP ce.gone s'.1) dst ce.eff.val) t
  rw[QU,QU,Xj,Xj,h.1 t]
 ·exact Zdv _ (Zdv _ (Zlj _ fun id=>by rw[Qm,Qm,WD,WD,h.2 id])) id
noncomputable def ZZ (C:Orc) (M:Zt) (nx i:Nat) (t:Bool) (o:CO) (s:Sl×Hp):Option (Sl×Hp):=
 bnd (Qe s.1 o.guard) fun b=>if b then VO (nx+64*i) o.dst s.1 s.2 (UE C M nx i t o.op s.1 s.2) else some (Zw s.1 o.dst (.tup []),s.2)
noncomputable def ZN (C:Orc) (M:Zt) (os:List CO) (nx i:Nat) (s:Sl×Hp):Option (Sl×Hp):=bnd os[i]? fun o=>ZZ C M nx i (Qb os i) o s
noncomputable def Zhe (C:Orc) (M:Zt) (os:List CO) (nx:Nat):List Nat→Sl×Hp→Option (Sl×Hp)
 | [],s=>some s
 | i :: l,s=>bnd (ZN C M os nx i s) (Zhe C M os nx l)
theorem Zkv (C:Orc) (M:Zt) (os:List CO) (nx:Nat):∀ (rest:List CO) (i:Nat) (t:Bool) (sl:Sl) (hp:Hp),os.drop i=rest →
  JV C M nx i t rest sl hp=Zhe C M os nx (List.range' i rest.length) (sl,hp)
 | [],i,t,sl,hp,_=>rfl
 | o :: rest,i,t,sl,hp,hd=>by
  have h1:os[i]?=some o:=by
   have:(os.drop i)[0]?=some o:=by rw[hd];rfl
   rw[List.getElem?_drop] at this;simpa using this
  have h2:os.drop (i+1)=rest:=by rw[← List.drop_drop,hd];rfl
  have h4:CO.starts o=Qb os i:=by simp only[Qb,h1]
  simp only[JV,List.length_cons,List.range'_succ,Zhe,ZN,h1,Zf,ZZ,h4]
  cases hw:Qe sl o.guard with
  | none=>rfl
  | some b=>
   cases b with
   | true=>
    simp only[Zf,if_true]
    cases hs:VO (nx+64*i) o.dst sl hp (UE C M nx i (Qb os i) o.op sl hp) with
    | none=>rfl
    | some r=>
     simp only[Zf]
     exact Zkv C M os nx rest (i+1) t r.1 r.2 h2
   | false=>
    simp only[Zf,Bool.false_eq_true,if_false]
    exact Zkv C M os nx rest (i+1) t _ _ h2
theorem Zwi {hp hp' : Hp} (h:∀ id,lkp hp id=lkp hp' id):X9 (fun _=>True) hp hp':=⟨fun id _=>h id,fun _ _ _ _ _ _=>trivial⟩
theorem ZyT (C:Orc) (M:Zt) {s s' : Sl×Hp} (h:YO s s') (base:Nat) (c:COp):vop C M s.1 s.2 base c=vop C M s'.1 s'.2 base c:=by
 have h1:∀ x:Opd,evO s.1 x=evO s'.1 x:=fun x=>by cases x<;>simp only[evO];exact h.1 _
 rw[X7 C M s.2 base (sl:=s.1) (sl':=s'.1) fun x _=>h1 x]
 exact ZbF (Zwi h.2) C M base fun x _=>⟨fun _ _=>trivial,fun _ _ _ _ _ _ _=>trivial⟩
theorem Zur {s s' : Sl×Hp} (h:YO s s') (g:Option (Nat×Bool)):Qe s.1 g=Qe s'.1 g:=by
 cases g with
 | none=>rfl
 | some q=>simp only[Qe,h.1]
theorem Zus {C:Orc} {M:Zt} {os:List CO} {nx i:Nat} {s s' r:Sl×Hp} (h:YO s s') (hr:ZN C M os nx i s=some r):∃ r',ZN C M os nx i s'=some r'∧YO r r':=by
 unfold ZN at hr ⊢
 obtain⟨o,h1,hr⟩:=Za hr
 rw[h1,Zf]
 unfold ZZ at hr ⊢
 obtain⟨b,h2,hr⟩:=Za hr
 rw[← Zur h,h2,Zf]
 cases b with
 | true=>
  simp only[if_true] at hr ⊢
  obtain⟨ce,h3,h4,rfl⟩:=Xv hr
  have h5:UE C M nx i (Qb os i) o.op s'.1 s'.2=some ce:=by
   rw[← h3];unfold UE;rw[ZyT C M h]
  refine⟨ce.on o.dst s'.1 s'.2,?_,ZAC ce o.dst h⟩
  unfold VO
  rw[h5,Zf,if_pos h4]
 | false=>
  simp only[Bool.false_eq_true,if_false] at hr ⊢
  cases hr
  refine⟨_,rfl,fun t=>?_,h.2⟩
  show gs (Zw s.1 o.dst (.tup [])) t=gs (Zw s'.1 o.dst (.tup [])) t
  rw[QU,QU,h.1 t]
theorem ZoU {C:Orc} {M:Zt} {os:List CO} {nx:Nat}:∀ {l:List Nat} {s s' r:Sl×Hp},YO s s'→Zhe C M os nx l s=some r→∃ r',Zhe C M os nx l s'=some r'∧YO r r'
 | [],s,s',r,h,hr=>by simp only[Zhe] at hr ⊢;cases hr;exact⟨s',rfl,h⟩
 | i :: l,s,s',r,h,hr=>by
  simp only[Zhe] at hr ⊢
  obtain⟨s1,h1,hr⟩:=Za hr
  obtain⟨s1',h2,h3⟩:=Zus h h1
  rw[h2,Zf]
  exact ZoU h3 hr
theorem QV {sl:Sl} {d:Option Nat} {v:AV} {o:CO} (h:Xe d (looks o)=true):Qe (Zw sl d v) o.guard=Qe sl o.guard:=by
 cases hg:o.guard with
 | none=>rfl
 | some q=>
  simp only[Qe]
  rw[QU,if_neg]
  intro e
  rw[e] at h
  simp[Xe,looks,hg,ZpA] at h
theorem UH {sl:Sl} {d:Option Nat} {v:AV} {o:CO} (h:Xe d (looks o)=true):∀ x∈ZT o.op,evO (Zw sl d v) x=evO sl x:=by
 intro x hx
 cases x with
 | t n=>
  simp only[evO]
  rw[QU,if_neg]
  intro e
  rw[e] at h
  simp only[Xe,looks,Bool.not_eq_true',List.contains_eq_mem,decide_eq_false_iff_not] at h
  exact h (List.mem_append.2 (.inl (List.mem_flatMap.2 ⟨_,hx,by simp[ZcO]⟩)))
 | _=>rfl
theorem Zkw {C:Orc} {M:Zt} {nx i:Nat} {o:CO} {s s' : Sl×Hp} (h:ZZ C M nx i false o s=some s') :
  ∃ v adds,s'=(Zw s.1 o.dst v,Zg s.2 adds)∧(∀ k x,(k,x)∈adds→nx+64*i≤k∧k<nx+64*i+64) ∧
   ∀ s'' : Sl×Hp,Qe s''.1 o.guard=Qe s.1 o.guard→vop C M s''.1 s''.2 (nx+64*i) o.op=vop C M s.1 s.2 (nx+64*i) o.op→ZZ C M nx i false o s''=some (Zw s''.1 o.dst v,Zg s''.2 adds):=by
 unfold ZZ at h
 obtain⟨b,hw,h⟩:=Za h
 cases b with
 | true=>
  simp only[if_true] at h
  obtain⟨ce,h1,h2,rfl⟩:=Xv h
  unfold UE at h1
  simp only[Bool.false_eq_true,if_false] at h1
  have h1':=h1
  unfold Zeg at h1
  obtain⟨c,h3,h1⟩:=Za h1
  unfold Zhy at h1
  split at h1
  ·rename_i e1 e2 e3 e4
   cases h1
   have hon:∀ s:Sl×Hp,ce.on o.dst s.1 s.2=(Zw s.1 o.dst ce.eff.val,Zg s.2 ce.eff.adds):=by
    intro s
    unfold Zc.on Eff.on
    rw[e1,e2,e3,e4]
    rfl
   refine⟨ce.eff.val,ce.eff.adds,hon s,Jf h2,fun s'' g1 g2=>?_⟩
   unfold ZZ
   rw[g1,hw,Zf]
   simp only[if_true]
   unfold VO UE
   simp only[Bool.false_eq_true,if_false]
   rw[g2,h1',Zf,if_pos h2,hon]
  ·cases h1
 | false=>
  simp only[Bool.false_eq_true,if_false] at h
  cases h
  refine⟨.tup [],[],rfl,fun k x hk=>by simp at hk,fun s'' g1 g2=>?_⟩
  unfold ZZ
  rw[g1,hw,Zf]
  rfl
theorem ZaW {U:Nat→Prop} {a:AV} (h:Wh (.v a)=true):Zli U a:=by
 simp only[Wh,Bool.and_eq_true,List.isEmpty_iff,Bool.not_eq_true'] at h
 refine⟨fun id hid=>by rw[h.1] at hid;simp at hid,fun f caps hx=>?_⟩
 subst hx
 simp[ZrA] at h
section
variable {P:Program} {nt:Nat}
def Zj8 (nt:Nat) (s:Sl×Hp) (U:Nat→Prop):Prop:=∃ F A I Γ a w,Sim nt F A I Γ U s.1 s.2 a w
theorem UI {U:Nat→Prop} {base:Nat} (hf:Yd U base) {adds:Hp} (ha:∀ k x,(k,x)∈adds→base≤k∧k<base+64) (hp:Hp):∀ id,U id→lkp hp id=lkp (Zg hp adds) id:=by
 intro id hu
 rw[ZD]
 intro o ho
 obtain⟨h1,h2⟩:=ha id o ho
 exact hf id h1 h2 hu
theorem JR {sl:Sl} {d e:Option Nat} (h:ZbM d e=true) (u v:AV) (t:Nat):gs (Zw (Zw sl d u) e v) t=gs (Zw (Zw sl e v) d u) t:=by
 simp only[QU]
 by_cases h1:e=some t
 ·by_cases h2:d=some t
  ·rw[h1,h2] at h;simp[ZbM] at h
  ·simp[h1,h2]
 ·simp[h1]
theorem ZAD {adds adds' : Hp} {b b' : Nat} (ha:∀ k x,(k,x)∈adds→b≤k∧k<b+64) (ha' : ∀ k x,(k,x)∈adds'→b'≤k∧k<b'+64) (hd:b+64≤b'∨b'+64≤b) (hp:Hp) (id:Nat) :
  lkp (Zg (Zg hp adds) adds') id=lkp (Zg (Zg hp adds') adds) id:=by
 have key:∀ (l:Hp) (hp hp' : Hp),(∀ o,(id,o)∉l)→lkp (Zg hp l) id=lkp hp id:=fun l hp _ h=>ZD l hp id h
 by_cases h1:∃ o,(id,o)∈adds
 ·have h2:∀ o,(id,o)∉adds':=fun o ho=>by
   obtain⟨o',ho'⟩:=h1
   have:=ha id o' ho'
   have:=ha' id o ho
   omega
  rw[ZD adds' _ id h2]
  have key:∀ (l:Hp) (hp hp' : Hp),lkp hp id=lkp hp' id→lkp (Zg hp l) id=lkp (Zg hp' l) id:=by
   intro l
   induction l with
   | nil=>intro hp hp' h;exact h
   | cons q r ih=>
    intro hp hp' h
    obtain⟨k,x⟩:=q
    simp only[Zg]
    exact ih _ _ (by rw[Qy,Qy,h])
  exact key adds _ _ (ZD adds' hp id h2).symm
 ·have h2:∀ o,(id,o)∉adds:=fun o ho=>h1 ⟨o,ho⟩
  rw[ZD adds _ id h2]
  have key:∀ (l:Hp) (hp hp' : Hp),lkp hp id=lkp hp' id→lkp (Zg hp l) id=lkp (Zg hp' l) id:=by
   intro l
   induction l with
   | nil=>intro hp hp' h;exact h
   | cons q r ih=>
    intro hp hp' h
    obtain⟨k,x⟩:=q
    simp only[Zg]
    exact ih _ _ (by rw[Qy,Qy,h])
  exact key adds' _ _ (ZD adds hp id h2)
theorem ZoV {C:Orc} {M:Zt} {os:List CO} {nx i j:Nat} {oi oj:CO} (hoi:os[i]?=some oi) (hoj:os[j]?=some oj) (hqj:Qb os j=false) (hij:i≠j) (hap:Yr oj oi=true)
  (hops:∀ (k:Nat) (o:CO),os[k]?=some o→∀ x∈ZT o.op,Wh x=true) {s s1 s2:Sl×Hp} {U:Nat→Prop} (hs:Zj8 nt s U) (hfi:Yd U (nx+64*i)) (hfj:Yd U (nx+64*j))
  (h1:ZN C M os nx j s=some s1) (h2:ZZ C M nx i false oi s1=some s2):∃ t1,ZZ C M nx i false oi s=some t1∧∃ t2,ZN C M os nx j t1=some t2∧YO t2 s2:=by
 obtain⟨F,A,I,Γ,a,w,hsim⟩:=hs
 simp only[Yr,Bool.and_eq_true] at hap
 obtain⟨⟨ap1,ap2⟩,ap3⟩:=hap
 have good:∀ (k:Nat) (o:CO),os[k]?=some o→∀ x∈ZT o.op,Zli U (evO s.1 x):=by
  intro k o ho x hx
  cases x with
  | t n=>exact hsim.good n
  | v y=>exact ZaW (hops k o ho _ hx)
  | f n=>exact⟨fun id hid=>by simp[evO,ZI,ZJ] at hid,fun f caps h c hc=>by cases h;simp at hc⟩
 simp only[ZN,hoj,Zf,hqj] at h1
 obtain⟨vj,aj,rfl,hj1,hj2⟩:=Zkw h1
 obtain⟨vi,ai,rfl,hi1,hi2⟩:=Zkw h2
 dsimp only at hi2
 have e1:ZZ C M nx i false oi s=some (Zw s.1 oi.dst vi,Zg s.2 ai):=by
  refine hi2 s (QV ap1).symm ?_
  rw[X7 C M (Zg s.2 aj) (nx+64*i) (UH (o:=oi) ap1)]
  exact ZbF (hsim.agree (UI hfj hj1 s.2)) C M _ (good i oi hoi)
 refine⟨_,e1,?_⟩
 have e2:ZZ C M nx j false oj (Zw s.1 oi.dst vi,Zg s.2 ai)=some (Zw (Zw s.1 oi.dst vi) oj.dst vj,Zg (Zg s.2 ai) aj):=by
  refine hj2 (Zw s.1 oi.dst vi,Zg s.2 ai) (QV ap3) ?_
  rw[X7 C M (Zg s.2 ai) (nx+64*j) (UH (o:=oj) ap3)]
  exact(ZbF (hsim.agree (UI hfi hi1 s.2)) C M _ (good j oj hoj)).symm
 refine⟨_,by simp only[ZN,hoj,Zf,hqj];exact e2,fun t=>?_,fun id=>?_⟩
 ·exact(JR ap2 vj vi t).symm
 ·refine ZAD hi1 hj1 ?_ s.2 id
  rcases Nat.lt_or_gt_of_ne hij with h | h
  ·left;omega
  ·right;omega
theorem ZyU {C:Orc} {M:Zt} {os:List CO} {nx i j:Nat} {oi oj:CO} (hoi:os[i]?=some oi) (hoj:os[j]?=some oj) (hqi:Qb os i=false) (hqj:Qb os j=false) (hij:i≠j) (hap:Yr oj oi=true)
  (hops:∀ (k:Nat) (o:CO),os[k]?=some o→∀ x∈ZT o.op,Wh x=true) {s s1 s2:Sl×Hp} {U:Nat→Prop} (hs:Zj8 nt s U) (hfi:Yd U (nx+64*i)) (hfj:Yd U (nx+64*j))
  (h1:ZN C M os nx j s=some s1) (h2:ZN C M os nx i s1=some s2):∃ t1,ZN C M os nx i s=some t1∧∃ t2,ZN C M os nx j t1=some t2∧YO t2 s2:=by
 have e:∀ s:Sl×Hp,ZN C M os nx i s=ZZ C M nx i false oi s:=fun s=>by simp only[ZN,hoi,Zf,hqi]
 rw[e] at h2
 simp only[e]
 exact ZoV hoi hoj hqj hij hap hops hs hfi hfj h1 h2
end
end Go.Abs
