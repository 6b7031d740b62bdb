/- Own text. -/
import Derived.Test.YtefabmohhbhlfaaAbsDraw
import Derived.Test.YtefabmohhbhlfaaAbsSound3
set_option linter.unusedVariables false
set_option linter.unusedSimpArgs false
namespace Go.Abs
open Go
section
variable {U:Nat→Prop} {hp hp' : Hp}
def Zda (U:Nat→Prop) (x:AV):Prop:=InU U x∧∀ f caps,x=.clo f caps→∀ c∈caps,InU U c
theorem ZbR {sl:Sl}:∀ {xs:List Opd} {v:AV},v∈evL sl xs→∃ x∈xs,v=evO sl x
 | [],v,h=>by simp[evL] at h
 | x :: xs,v,h=>by
  simp only[evL] at h;rcases Kf.1 h with rfl | h
  ·exact⟨x,by simp,rfl⟩
  ·obtain⟨y,h1,h2⟩:=ZbR h;exact⟨y,Kt _ h1,h2⟩
theorem Wx (h:QD U hp hp') (C:Orc) (M:Zg) {sl:Sl} (base:Nat) {c:COp} (hx:∀ x∈Zt c,Zda U (evO sl x)):vop C M sl hp base c=vop C M sl hp' base c:=by
 cases c<;>simp only[Zt] at hx<;>simp only[vop]
 case buildSl s xs=>
  cases hv:evL sl xs with
  | nil=>rfl
  | cons v vs=>
   simp only[buildSl];rw[Zck h];intro y hy;rw[← hv] at hy;obtain⟨z,h1,rfl⟩:=ZbR hy;exact(hx z h1).1
 case load g s a=>rw[Zlx h (hx a (by simp)).1]
 case store slc s a x=>rw[Zks h (hx a (by simp)).1 _ _ _ _ (Zgv (hx x (by simp)).1)]
 case slice s x lo hi=>rw[Zko h (hx x (by simp)).1]
 case slice0 x hi mx=>unfold slice0;rw[ZcF h (hx x (by simp)).1]
 case slice3 s x lo hi mx=>unfold slice3;rw[ZcF h (hx x (by simp)).1]
 case clear s z x=>rw[Zkp h (hx x (by simp)).1]
 case iaS s x i=>
  congr 1
  funext n
  simp only[Zcv];rw[Zej h (hx x (by simp)).1]
 case len x=>rw[ZcF h (hx x (by simp)).1]
 case append s b str flat x y=>
  simp only[Zl5];rw[Zc8 h (hx x (by simp)).1,Zc8 h (hx y (by simp)).1];generalize QY hp' (evO sl x)=mx;generalize QY hp' (evO sl y)=my;cases mx with
  | nil=>simp only[JD];rw[Zcj h (hx x (by simp)).1 (hx y (by simp)).1]
  | cons i r=>
   cases my with
   | nil=>simp only[JD];rw[Zcj h (hx x (by simp)).1 (hx y (by simp)).1]
   | cons j t=>simp only[JD];rw[Zgu h (hx x (by simp)).1 (hx y (by simp)).1]
 case appT s b f x y=>exact Zgu h (hx x (by simp)).1 (hx y (by simp)).1 s b base
 case buildT s n xs=>
  refine Zkr h fun y hy=>?_;obtain⟨z,h1,rfl⟩:=ZbR hy;exact(hx z h1).1
 case call f as=>
  have hf:=hx f (by simp);cases he:evO sl f<;>simp only[JE]
  rename_i g aa;refine ZlB h C (M g) base g fun y hy=>?_;rcases Kd.1 hy with hy | hy
  ·obtain⟨z,h1,rfl⟩:=ZbR hy;exact(hx z (by simp[h1])).1
  ·exact hf.2 g aa he y hy
theorem Zjm {Γ:Gh} {w:World} {I:Nat→Prop} {x:AV} {v:Value} (h:XA Γ w I x v):∀ id∈Zf x,∃ r,Γ id=some r:=by
 intro id aa;cases x<;>simp only[Zf,Kv,Lh,Kf,or_false] at aa
 case ptr i off=>subst aa;obtain⟨b,h1,_⟩:=h;exact⟨_,h1⟩
 case prow i sz k off=>subst aa;obtain⟨b,o,n,c,h1,_⟩:=h;exact⟨_,h1⟩
 case own i=>subst aa;obtain⟨a,n,c,sz,h1,_⟩:=h;exact⟨_,h1⟩
 case ownv i off n=>subst aa;obtain⟨a0,m,c,sz,a,h1,_⟩:=h;exact⟨_,h1⟩
 case bnil i e=>subst aa;obtain⟨b,h1,_⟩:=h;exact⟨_,h1⟩
theorem Zek {Γ:Gh} {w:World} {I:Nat→Prop}:∀ {xs:List AV} {vs:List Value},Zq (XA Γ w I) xs vs→∀ id∈xs.flatMap Zf,∃ r,Γ id=some r
 | [],[],_,id,aa=>by simp at aa
 | [],_ :: _,h,_,_=>h.elim
 | _ :: _,[],h,_,_=>h.elim
 | x :: xs,v :: vs,h,id,aa=>by
  simp only[KD,Kd] at aa;rcases aa with aa | aa
  ·exact Zjm h.1 id aa
  ·exact Zek h.2 id aa
theorem Zel {Γ:Gh} {w:World} {I:Nat→Prop} {x:AV} {v:Value} (h:Wa Γ w I x v):∀ id∈Zr x,∃ r,Γ id=some r:=by
 intro id aa;by_cases hs:x.small=true
 ·rw[(Xo hs (fun k=>k) []).2.2.2.2.2] at aa;rw[(Y3 hs v).2.1] at h;exact Zjm h id aa
 ·cases x with
  | agg cs=>obtain⟨us,_,h2⟩:=h;exact Zek h2 id aa
  | clo f cs=>obtain⟨us,_,h2⟩:=h;exact Zek h2 id aa
  | tup cs=>exact h.elim
  | d x=>simp[Zr,Zf] at aa
  | _=>exact absurd rfl hs
theorem Zo9 {Γ:Gh} {w:World} {I:Nat→Prop} {x:AV} {v:Value} (h:QT Γ w I x v):∀ id∈Zr x,∃ r,Γ id=some r:=Zel h.rep2
theorem ZgA {Γ:Gh} {w:World} {I:Nat→Prop}:∀ {xs:List AV} {vs:List Value},Zq (Wa Γ w I) xs vs→∀ id∈xs.flatMap Zr,∃ r,Γ id=some r
 | [],[],_,id,aa=>by simp at aa
 | [],_ :: _,h,_,_=>h.elim
 | _ :: _,[],h,_,_=>h.elim
 | x :: xs,v :: vs,h,id,aa=>by
  simp only[KD,Kd] at aa;rcases aa with aa | aa
  ·exact Zel h.1 id aa
  ·exact ZgA h.2 id aa
theorem ZlC {Γ:Gh} {w:World} {I:Nat→Prop} {x:AV} {v:Value} (h:Rep Γ w I x v):∀ id∈Zo x,∃ r,Γ id=some r:=by
 intro id aa;by_cases ht:∃ vs,x=.tup vs
 ·obtain⟨vs,rfl⟩:=ht;obtain⟨us,_,h2⟩:=h;exact ZgA h2 id aa
 ·have e:Rep Γ w I x v=Wa Γ w I x v:=by cases x<;>first | rfl | exact absurd ⟨_,rfl⟩ ht
  rw[e] at h;refine Zel h id ?_;cases x<;>first | exact aa | exact absurd ⟨_,rfl⟩ ht
theorem ZgB {Γ:Gh} {w:World} {I:Nat→Prop}:∀ {xs:List AV} {vs:List Value},Zq (QT Γ w I) xs vs→∀ id∈xs.flatMap Zr,∃ r,Γ id=some r
 | [],[],_,id,aa=>by simp at aa
 | [],_ :: _,h,_,_=>h.elim
 | _ :: _,[],h,_,_=>h.elim
 | x :: xs,v :: vs,h,id,aa=>by
  simp only[KD,Kd] at aa;rcases aa with aa | aa
  ·exact Zo9 h.1 id aa
  ·exact ZgB h.2 id aa
theorem Zqo {Γ:Gh} {w:World} {I:Nat→Prop} {x:AV} {v:Value} (hn:∀ id,¬U id→Γ id=none) (h:Rep Γ w I x v):Zda U x:=by
 have ab:∀ id,(∃ r,Γ id=some r)→U id:=fun id ⟨r,hr⟩=>Classical.byContradiction fun hu=>by rw[hn id hu] at hr;cases hr
 refine⟨fun id aa=>ab id (ZlC h id aa),fun f ad hx c hc=>?_⟩;subst hx;obtain⟨us,_,h2⟩:=h;obtain⟨i,hi⟩:=LL hc;obtain⟨u,_,h3⟩:=h2.get i c hi;exact fun id aa=>ab id (ZlC h3.rep2.rep id aa)
end
section
variable {P:Program} {nt:Nat} {F A I:Nat→Prop} {Γ:Gh} {U:Nat→Prop} {sl:Sl} {hp:Hp} {a:Act} {w:World}
theorem Sim.good (h:Sim nt F A I Γ U sl hp a w) (t:Nat):Zda U (gs sl t):=Zqo h.names (h.slots t)
theorem Sim.agree (h:Sim nt F A I Γ U sl hp a w) {hp' : Hp} (hs:∀ id,U id→lkp hp id=lkp hp' id):QD U hp hp':=by
 refine⟨hs,fun id o hu hl i hi=>?_⟩;have ho:=h.objs id o hl;cases o with
 | box cs=>
  obtain⟨b,cur,e,_,_,_,_,h5,_⟩:=ho;obtain⟨r,hr⟩:=ZgB h5 i hi;exact Classical.byContradiction fun hu=>by rw[h.names i hu] at hr;cases hr
 | row sz xs ex fz=>simp[VV] at hi
 | gone=>simp[VV] at hi
 | tree sz ns xs lk=>simp[VV] at hi
theorem Oper.wp_ex {o:Oper} {a:Act} {w:World} {K:Act→World→Prop} (h:o.wp P a w K (fun _ _ _=>False)):∃ a' w',K a' w':=by
 unfold Oper.wp at h;generalize (execOp a.eval o).run P w=r at h;cases r with
 | ok n w' =>
  cases n<;>simp only[Oper.upon] at h
  case value v=>exact⟨_,_,h⟩
  case skip=>exact⟨_,_,h⟩
  case defer d=>exact⟨_,_,h⟩
  case enter f args=>
   obtain⟨e,aa,fr,he,_⟩:=h [];cases e with
   | returned v=>exact⟨_,_,he⟩
   | panicked c=>exact he.elim
   | outgrown=>obtain⟨a,w,hf⟩:=he;exact hf.elim
  case row row args=>
   obtain⟨v,aa,he,_⟩:=h default [];exact⟨_,_,he⟩
 | halt x w'=>cases x<;>simp only[Oper.upon] at h
end
end Go.Abs
set_option linter.unusedVariables false
set_option linter.unusedSimpArgs false
namespace Go.Abs
open Go
def QV (s s' : Sl×Hp):Prop:=(∀ t,gs s.1 t=gs s'.1 t)∧∀ id,lkp s.2 id=lkp s'.2 id
theorem QV.refl (s:Sl×Hp):QV s s:=⟨fun _=>rfl,fun _=>rfl⟩
theorem QV.symm {s s' : Sl×Hp} (h:QV s s'):QV s' s:=⟨fun t=>(h.1 t).symm,fun id=>(h.2 id).symm⟩
theorem QV.trans {a b c:Sl×Hp} (h:QV a b) (k:QV b c):QV a c:=⟨fun t=>(h.1 t).trans (k.1 t),fun id=>(h.2 id).trans (k.2 id)⟩
theorem Un:∀ (l:Hp) {hp hp' : Hp},(∀ id,lkp hp id=lkp hp' id)→∀ id,lkp (Zd hp l) id=lkp (Zd hp' l) id
 | [],_,_,h=>h
 | (k,o) :: r,hp,hp',h=>by
  simp only[Zd];exact Un r fun id=>by rw[ZW,ZW,h id]
theorem Zdb:∀ (l:List Nat) {hp hp' : Hp},(∀ id,lkp hp id=lkp hp' id)→∀ id,lkp (ZP hp l) id=lkp (ZP hp' l) id
 | [],_,_,h=>h
 | d :: r,hp,hp',h=>by
  simp only[ZP];exact Zdb r fun id=>by rw[ZaL,ZaL,h id]
theorem Zqp (ce:Zb) (dst:Option Nat) {s s' : Sl×Hp} (h:QV s s'):QV (ce.on dst s.1 s.2) (ce.on dst s'.1 s'.2):=by
 refine⟨fun t=>?_,fun id=>?_⟩
 ·show gs (Zi (Qy ce.gone s.1) dst ce.eff.val) t=gs (Zi (Qy ce.gone s'.1) dst ce.eff.val) t;rw[Z9,Z9,Qj,Qj,h.1 t]
 ·exact Un _ (Un _ (Zdb _ fun id=>by rw[ZU,ZU,YD,YD,h.2 id])) id
noncomputable def ZA (C:Orc) (M:Zg) (nx i:Nat) (t:Bool) (o:CO) (s:Sl×Hp):Option (Sl×Hp):=
 bnd (ZL s.1 o.guard) fun b=>if b then Xu (nx+64*i) o.dst s.1 s.2 (YB C M nx i t o.op s.1 s.2) else some (Zi s.1 o.dst (.tup []),s.2)
noncomputable def Zv (C:Orc) (M:Zg) (os:List CO) (nx i:Nat) (s:Sl×Hp):Option (Sl×Hp):=bnd os[i]? fun o=>ZA C M nx i (ZI os i) o s
noncomputable def Zai (C:Orc) (M:Zg) (os:List CO) (nx:Nat):List Nat→Sl×Hp→Option (Sl×Hp)
 | [],s=>some s
 | i :: l,s=>bnd (Zv C M os nx i s) (Zai C M os nx l)
theorem ZcG (C:Orc) (M:Zg) (os:List CO) (nx:Nat):∀ (aa:List CO) (i:Nat) (t:Bool) (sl:Sl) (hp:Hp),os.drop i=aa →
  VJ C M nx i t aa sl hp=Zai C M os nx (List.range' i aa.length) (sl,hp)
 | [],i,t,sl,hp,_=>rfl
 | o :: aa,i,t,sl,hp,hd=>by
  have h1:os[i]?=some o:=by
   have:(os.drop i)[0]?=some o:=by rw[hd];rfl
   rw[KY] at this;simpa using this
  have h2:os.drop (i+1)=aa:=by rw[← Ly,hd];rfl
  have h4:CO.starts o=ZI os i:=by simp only[ZI,h1]
  simp only[VJ,Kg,List.range'_succ,Zai,Zv,h1,Zc,ZA,h4];cases hw:ZL sl o.guard with
  | none=>rfl
  | some b=>
   cases b with
   | true=>
    simp only[Zc,Kk];cases hs:Xu (nx+64*i) o.dst sl hp (YB C M nx i (ZI os i) o.op sl hp) with
    | none=>rfl
    | some r=>
     simp only[Zc];exact ZcG C M os nx aa (i+1) t r.1 r.2 h2
   | false=>
    simp only[Zc,Ka,Ki];exact ZcG C M os nx aa (i+1) t _ _ h2
theorem Zm3 {hp hp' : Hp} (h:∀ id,lkp hp id=lkp hp' id):QD (fun _=>True) hp hp':=⟨fun id _=>h id,fun _ _ _ _ _ _=>trivial⟩
theorem Zpa (C:Orc) (M:Zg) {s s' : Sl×Hp} (h:QV s s') (base:Nat) (c:COp):vop C M s.1 s.2 base c=vop C M s'.1 s'.2 base c:=by
 have h1:∀ x:Opd,evO s.1 x=evO s'.1 x:=fun x=>by cases x<;>simp only[evO];exact h.1 _
 rw[QA C M s.2 base (sl:=s.1) (sl':=s'.1) fun x _=>h1 x];exact Wx (Zm3 h.2) C M base fun x _=>⟨fun _ _=>trivial,fun _ _ _ _ _ _ _=>trivial⟩
theorem ZlD {s s' : Sl×Hp} (h:QV s s') (g:Option (Nat×Bool)):ZL s.1 g=ZL s'.1 g:=by
 cases g with
 | none=>rfl
 | some q=>simp only[ZL,h.1]
theorem ZlE {C:Orc} {M:Zg} {os:List CO} {nx i:Nat} {s s' r:Sl×Hp} (h:QV s s') (hr:Zv C M os nx i s=some r):∃ r',Zv C M os nx i s'=some r'∧QV r r':=by
 unfold Zv at hr ⊢;obtain⟨o,h1,hr⟩:=Za hr;rw[h1,Zc];unfold ZA at hr ⊢;obtain⟨b,h2,hr⟩:=Za hr;rw[← ZlD h,h2,Zc];cases b with
 | true=>
  simp only[Kk] at hr ⊢;obtain⟨ce,h3,h4,rfl⟩:=QI hr;have h5:YB C M nx i (ZI os i) o.op s'.1 s'.2=some ce:=by
   rw[← h3];unfold YB;rw[Zpa C M h]
  refine⟨ce.on o.dst s'.1 s'.2,?_,Zqp ce o.dst h⟩;unfold Xu;rw[h5,Zc,Ko h4]
 | false=>
  simp only[Ka,Ki] at hr ⊢;cases hr;refine⟨_,rfl,fun t=>?_,h.2⟩;show gs (Zi s.1 o.dst (.tup [])) t=gs (Zi s'.1 o.dst (.tup [])) t;rw[Z9,Z9,h.1 t]
theorem ZgC {C:Orc} {M:Zg} {os:List CO} {nx:Nat}:∀ {l:List Nat} {s s' r:Sl×Hp},QV s s'→Zai C M os nx l s=some r→∃ r',Zai C M os nx l s'=some r'∧QV r r'
 | [],s,s',r,h,hr=>by simp only[Zai] at hr ⊢;cases hr;exact⟨s',rfl,h⟩
 | i :: l,s,s',r,h,hr=>by
  simp only[Zai] at hr ⊢;obtain⟨s1,h1,hr⟩:=Za hr;obtain⟨aa,h2,h3⟩:=ZlE h h1;rw[h2,Zc];exact ZgC h3 hr
theorem Qc {sl:Sl} {d:Option Nat} {v:AV} {o:CO} (h:Qi d (XG o)=true):ZL (Zi sl d v) o.guard=ZL sl o.guard:=by
 cases hg:o.guard with
 | none=>rfl
 | some q=>
  simp only[ZL];rw[Z9,Kn];intro e;rw[e] at h;simp[Qi,XG,hg,Zhk] at h
theorem YF {sl:Sl} {d:Option Nat} {v:AV} {o:CO} (h:Qi d (XG o)=true):∀ x∈Zt o.op,evO (Zi sl d v) x=evO sl x:=by
 intro x hx;cases x with
 | t n=>
  simp only[evO];rw[Z9,Kn];intro e;rw[e] at h;simp only[Qi,XG,KO,KM,K0] at h;exact h (Kd.2 (.inl (Ks.2 ⟨_,hx,by simp[Ue]⟩)))
 | _=>rfl
theorem ZcH {C:Orc} {M:Zg} {nx i:Nat} {o:CO} {s s' : Sl×Hp} (h:ZA C M nx i false o s=some s') :
  ∃ v adds,s'=(Zi s.1 o.dst v,Zd s.2 adds)∧(∀ k x,(k,x)∈adds→nx+64*i≤k∧k<nx+64*i+64) ∧
   ∀ aa : Sl×Hp,ZL aa.1 o.guard=ZL s.1 o.guard→vop C M aa.1 aa.2 (nx+64*i) o.op=vop C M s.1 s.2 (nx+64*i) o.op→ZA C M nx i false o aa=some (Zi aa.1 o.dst v,Zd aa.2 adds):=by
 unfold ZA at h;obtain⟨b,hw,h⟩:=Za h;cases b with
 | true=>
  simp only[Kk] at h;obtain⟨ce,h1,h2,rfl⟩:=QI h;unfold YB at h1;simp only[Ka,Ki] at h1;have ad:=h1;unfold UW at h1;obtain⟨c,h3,h1⟩:=Za h1;unfold ZaC at h1;split at h1
  ·rename_i e1 e2 e3 e4;cases h1;have ab:∀ s:Sl×Hp,ce.on o.dst s.1 s.2=(Zi s.1 o.dst ce.eff.val,Zd s.2 ce.eff.adds):=by
    intro s;unfold Zb.on Eff.on;rw[e1,e2,e3,e4];rfl
   refine⟨ce.eff.val,ce.eff.adds,ab s,VL h2,fun aa g1 g2=>?_⟩;unfold ZA;rw[g1,hw,Zc];simp only[Kk];unfold Xu YB;simp only[Ka,Ki];rw[g2,ad,Zc,Ko h2,ab]
  ·cases h1
 | false=>
  simp only[Ka,Ki] at h;cases h;refine⟨.tup [],[],rfl,fun k x hk=>by simp at hk,fun aa g1 g2=>?_⟩;unfold ZA;rw[g1,hw,Zc];rfl
theorem V0 {U:Nat→Prop} {a:AV} (h:XI (.v a)=true):Zda U a:=by
 simp only[XI,Kb,List.isEmpty_iff,KO] at h;refine⟨fun id aa=>by rw[h.1] at aa;simp at aa,fun f ab hx=>?_⟩;subst hx;simp[Zjd] at h
section
variable {P:Program} {nt:Nat}
def Zcm (nt:Nat) (s:Sl×Hp) (U:Nat→Prop):Prop:=∃ F A I Γ a w,Sim nt F A I Γ U s.1 s.2 a w
theorem YG {U:Nat→Prop} {base:Nat} (hf:Qx U base) {adds:Hp} (ha:∀ k x,(k,x)∈adds→base≤k∧k<base+64) (hp:Hp):∀ id,U id→lkp hp id=lkp (Zd hp adds) id:=by
 intro id hu;rw[Zs];intro o ho;obtain⟨h1,h2⟩:=ha id o ho;exact hf id h1 h2 hu
theorem Vh {sl:Sl} {d e:Option Nat} (h:WE d e=true) (u v:AV) (t:Nat):gs (Zi (Zi sl d u) e v) t=gs (Zi (Zi sl e v) d u) t:=by
 simp only[Z9];by_cases h1:e=some t
 ·by_cases h2:d=some t
  ·rw[h1,h2] at h;simp[WE] at h
  ·simp[h1,h2]
 ·simp[h1]
theorem Zqq {adds aa : Hp} {b b' : Nat} (ha:∀ k x,(k,x)∈adds→b≤k∧k<b+64) (ad : ∀ k x,(k,x)∈aa→b'≤k∧k<b'+64) (hd:b+64≤b'∨b'+64≤b) (hp:Hp) (id:Nat) :
  lkp (Zd (Zd hp adds) aa) id=lkp (Zd (Zd hp aa) adds) id:=by
 have ab:∀ (l:Hp) (hp hp' : Hp),(∀ o,(id,o)∉l)→lkp (Zd hp l) id=lkp hp id:=fun l hp _ h=>Zs l hp id h;by_cases h1:∃ o,(id,o)∈adds
 ·have h2:∀ o,(id,o)∉aa:=fun o ho=>by
   obtain⟨o',ae⟩:=h1;have:=ha id o' ae;have:=ad id o ho;omega
  rw[Zs aa _ id h2];have ab:∀ (l:Hp) (hp hp' : Hp),lkp hp id=lkp hp' id→lkp (Zd hp l) id=lkp (Zd hp' l) id:=by
   intro l
   induction l with
   | nil=>intro hp hp' h;exact h
   | cons q r ih=>
    intro hp hp' h;obtain⟨k,x⟩:=q;simp only[Zd];exact ih _ _ (by rw[ZW,ZW,h])
  exact ab adds _ _ (Zs aa hp id h2).symm
 ·have h2:∀ o,(id,o)∉adds:=fun o ho=>h1 ⟨o,ho⟩;rw[Zs adds _ id h2];have ab:∀ (l:Hp) (hp hp' : Hp),lkp hp id=lkp hp' id→lkp (Zd hp l) id=lkp (Zd hp' l) id:=by
   intro l
   induction l with
   | nil=>intro hp hp' h;exact h
   | cons q r ih=>
    intro hp hp' h;obtain⟨k,x⟩:=q;simp only[Zd];exact ih _ _ (by rw[ZW,ZW,h])
  exact ab aa _ _ (Zs adds hp id h2)
theorem ZgD {C:Orc} {M:Zg} {os:List CO} {nx i j:Nat} {oi oj:CO} (an:os[i]?=some oi) (ab:os[j]?=some oj) (ae:ZI os j=false) (ao:i≠j) (af:QL oj oi=true)
  (ad:∀ (k:Nat) (o:CO),os[k]?=some o→∀ x∈Zt o.op,XI x=true) {s s1 s2:Sl×Hp} {U:Nat→Prop} (hs:Zcm nt s U) (ap:Qx U (nx+64*i)) (aq:Qx U (nx+64*j))
  (h1:Zv C M os nx j s=some s1) (h2:ZA C M nx i false oi s1=some s2):∃ t1,ZA C M nx i false oi s=some t1∧∃ t2,Zv C M os nx j t1=some t2∧QV t2 s2:=by
 obtain⟨F,A,I,Γ,a,w,aa⟩:=hs;simp only[QL,Kb] at af;obtain⟨⟨ag,ar⟩,ah⟩:=af;have good:∀ (k:Nat) (o:CO),os[k]?=some o→∀ x∈Zt o.op,Zda U (evO s.1 x):=by
  intro k o ho x hx;cases x with
  | t n=>exact aa.good n
  | v y=>exact V0 (ad k o ho _ hx)
  | f n=>exact⟨fun id au=>by simp[evO,Zo,Zr] at au,fun f av h c hc=>by cases h;simp at hc⟩
 simp only[Zv,ab,Zc,ae] at h1;obtain⟨vj,aj,rfl,ak,aw⟩:=ZcH h1;obtain⟨vi,ai,rfl,al,am⟩:=ZcH h2;dsimp only at am;have e1:ZA C M nx i false oi s=some (Zi s.1 oi.dst vi,Zd s.2 ai):=by
  refine am s (Qc ag).symm ?_;rw[QA C M (Zd s.2 aj) (nx+64*i) (YF (o:=oi) ag)];exact Wx (aa.agree (YG aq ak s.2)) C M _ (good i oi an)
 refine⟨_,e1,?_⟩;have e2:ZA C M nx j false oj (Zi s.1 oi.dst vi,Zd s.2 ai)=some (Zi (Zi s.1 oi.dst vi) oj.dst vj,Zd (Zd s.2 ai) aj):=by
  refine aw (Zi s.1 oi.dst vi,Zd s.2 ai) (Qc ah) ?_;rw[QA C M (Zd s.2 ai) (nx+64*j) (YF (o:=oj) ah)];exact(Wx (aa.agree (YG ap al s.2)) C M _ (good j oj ab)).symm
 refine⟨_,by simp only[Zv,ab,Zc,ae];exact e2,fun t=>?_,fun id=>?_⟩
 ·exact(Vh ar vj vi t).symm
 ·refine Zqq al ak ?_ s.2 id;rcases LG ao with h | h
  ·left;omega
  ·right;omega
theorem Zpb {C:Orc} {M:Zg} {os:List CO} {nx i j:Nat} {oi oj:CO} (ab:os[i]?=some oi) (ad:os[j]?=some oj) (ae:ZI os i=false) (af:ZI os j=false) (ag:i≠j) (ah:QL oj oi=true)
  (aa:∀ (k:Nat) (o:CO),os[k]?=some o→∀ x∈Zt o.op,XI x=true) {s s1 s2:Sl×Hp} {U:Nat→Prop} (hs:Zcm nt s U) (ai:Qx U (nx+64*i)) (aj:Qx U (nx+64*j))
  (h1:Zv C M os nx j s=some s1) (h2:Zv C M os nx i s1=some s2):∃ t1,Zv C M os nx i s=some t1∧∃ t2,Zv C M os nx j t1=some t2∧QV t2 s2:=by
 have e:∀ s:Sl×Hp,Zv C M os nx i s=ZA C M nx i false oi s:=fun s=>by simp only[Zv,ab,Zc,ae]
 rw[e] at h2;simp only[e];exact ZgD ab ad af ag ah aa hs ai aj h1 h2
end
end Go.Abs
