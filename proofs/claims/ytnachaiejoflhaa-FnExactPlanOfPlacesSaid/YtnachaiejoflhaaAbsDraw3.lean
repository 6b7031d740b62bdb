/- Own text. -/
import Derived.Test.YtnachaiejoflhaaAbsDraw
import Derived.Test.YtnachaiejoflhaaAbsSound3
set_option linter.unusedVariables false
set_option linter.unusedSimpArgs false
namespace Go.Abs
open Go
section
variable {U:Nat→Prop} {hp hp' : Hp}
def ZcF (U:Nat→Prop) (x:AV):Prop:=InU U x∧∀ f caps,x=.clo f caps→∀ c∈caps,InU U c
theorem Zba {sl:Sl}:∀ {xs:List Opd} {v:AV},v∈evL sl xs→∃ x∈xs,v=evO sl x
 | [],v,h=>by simp[evL] at h
 | x :: xs,v,h=>by
  simp only[evL] at h;rcases Kf.1 h with rfl | h
  ·exact⟨x,by simp,rfl⟩
  ·obtain⟨y,h1,h2⟩:=Zba h;exact⟨y,Kn _ h1,h2⟩
theorem VL (h:QA U hp hp') (C:Orc) (M:Zf) {sl:Sl} (base:Nat) {c:COp} (hx:∀ x∈Zq c,ZcF U (evO sl x)):vop C M sl hp base c=vop C M sl hp' base c:=by
 cases c<;>simp only[Zq] at hx<;>simp only[vop]
 case buildSl s xs=>
  cases hv:evL sl xs with
  | nil=>rfl
  | cons v vs=>
   simp only[buildSl];rw[ZbC h];intro y hy;rw[← hv] at hy;obtain⟨z,h1,rfl⟩:=Zba hy;exact(hx z h1).1
 case load g s a=>rw[Zko h (hx a (by simp)).1]
 case store slc s a x=>rw[Zjd h (hx a (by simp)).1 _ _ _ _ (Zfz (hx x (by simp)).1)]
 case slice s x lo hi=>rw[Zi9 h (hx x (by simp)).1]
 case slice0 x hi mx=>unfold slice0;rw[Zb1 h (hx x (by simp)).1]
 case slice3 s x lo hi mx=>unfold slice3;rw[Zb1 h (hx x (by simp)).1]
 case clear s z x=>rw[Zja h (hx x (by simp)).1]
 case iaS s x i=>
  congr 1
  funext n
  simp only[ZbN];rw[Zdy h (hx x (by simp)).1]
 case len x=>rw[Zb1 h (hx x (by simp)).1]
 case append s b str flat x y=>
  simp only[ZkW];rw[ZcD h (hx x (by simp)).1,ZcD h (hx y (by simp)).1,Zhq h (hx x (by simp)).1 (hx y (by simp)).1]
 case appT s b f x y=>exact ZlQ h (hx x (by simp)).1 (hx y (by simp)).1 s b base
 case buildT s n xs=>
  refine Zjc h fun y hy=>?_;obtain⟨z,h1,rfl⟩:=Zba hy;exact(hx z h1).1
 case call f as=>
  have hf:=hx f (by simp);cases he:evO sl f<;>simp only[UP]
  rename_i g aa;refine Zks h C (M g) base g fun y hy=>?_;rcases Kc.1 hy with hy | hy
  ·obtain⟨z,h1,rfl⟩:=Zba hy;exact(hx z (by simp[h1])).1
  ·exact hf.2 g aa he y hy
theorem Zh8 {Γ:Gh} {w:World} {I:Nat→Prop} {x:AV} {v:Value} (h:Xo Γ w I x v):∀ id∈Ze x,∃ r,Γ id=some r:=by
 intro id aa;cases x<;>simp only[Ze,KW,LK,Kf,or_false] at aa
 case ptr i off=>subst aa;obtain⟨b,h1,_⟩:=h;exact⟨_,h1⟩
 case prow i sz k off=>subst aa;obtain⟨b,n,c,h1,_⟩:=h;exact⟨_,h1⟩
 case own i=>subst aa;obtain⟨a,n,c,sz,h1,_⟩:=h;exact⟨_,h1⟩
 case ownv i off n=>subst aa;obtain⟨a0,m,c,sz,a,h1,_⟩:=h;exact⟨_,h1⟩
 case bnil i e=>subst aa;obtain⟨b,h1,_⟩:=h;exact⟨_,h1⟩
theorem Zdz {Γ:Gh} {w:World} {I:Nat→Prop}:∀ {xs:List AV} {vs:List Value},Zm (Xo Γ w I) xs vs→∀ id∈xs.flatMap Ze,∃ r,Γ id=some r
 | [],[],_,id,aa=>by simp at aa
 | [],_ :: _,h,_,_=>h.elim
 | _ :: _,[],h,_,_=>h.elim
 | x :: xs,v :: vs,h,id,aa=>by
  simp only[Kt,Kc] at aa;rcases aa with aa | aa
  ·exact Zh8 h.1 id aa
  ·exact Zdz h.2 id aa
theorem ZdA {Γ:Gh} {w:World} {I:Nat→Prop} {x:AV} {v:Value} (h:Vp Γ w I x v):∀ id∈Zn x,∃ r,Γ id=some r:=by
 intro id aa;by_cases hs:x.small=true
 ·rw[(Xa hs (fun k=>k) []).2.2.2.2.2] at aa;rw[(Ys hs v).2.1] at h;exact Zh8 h id aa
 ·cases x with
  | agg cs=>obtain⟨us,_,h2⟩:=h;exact Zdz h2 id aa
  | clo f cs=>obtain⟨us,_,h2⟩:=h;exact Zdz h2 id aa
  | tup cs=>exact h.elim
  | d x=>simp[Zn,Ze] at aa
  | _=>exact absurd rfl hs
theorem ZnM {Γ:Gh} {w:World} {I:Nat→Prop} {x:AV} {v:Value} (h:QO Γ w I x v):∀ id∈Zn x,∃ r,Γ id=some r:=ZdA h.rep2
theorem ZfE {Γ:Gh} {w:World} {I:Nat→Prop}:∀ {xs:List AV} {vs:List Value},Zm (Vp Γ w I) xs vs→∀ id∈xs.flatMap Zn,∃ r,Γ id=some r
 | [],[],_,id,aa=>by simp at aa
 | [],_ :: _,h,_,_=>h.elim
 | _ :: _,[],h,_,_=>h.elim
 | x :: xs,v :: vs,h,id,aa=>by
  simp only[Kt,Kc] at aa;rcases aa with aa | aa
  ·exact ZdA h.1 id aa
  ·exact ZfE h.2 id aa
theorem Zkt {Γ:Gh} {w:World} {I:Nat→Prop} {x:AV} {v:Value} (h:Rep Γ w I x v):∀ id∈Zl x,∃ r,Γ id=some r:=by
 intro id aa;by_cases ht:∃ vs,x=.tup vs
 ·obtain⟨vs,rfl⟩:=ht;obtain⟨us,_,h2⟩:=h;exact ZfE h2 id aa
 ·have e:Rep Γ w I x v=Vp Γ w I x v:=by cases x<;>first | rfl | exact absurd ⟨_,rfl⟩ ht
  rw[e] at h;refine ZdA h id ?_;cases x<;>first | exact aa | exact absurd ⟨_,rfl⟩ ht
theorem ZfF {Γ:Gh} {w:World} {I:Nat→Prop}:∀ {xs:List AV} {vs:List Value},Zm (QO Γ w I) xs vs→∀ id∈xs.flatMap Zn,∃ r,Γ id=some r
 | [],[],_,id,aa=>by simp at aa
 | [],_ :: _,h,_,_=>h.elim
 | _ :: _,[],h,_,_=>h.elim
 | x :: xs,v :: vs,h,id,aa=>by
  simp only[Kt,Kc] at aa;rcases aa with aa | aa
  ·exact ZnM h.1 id aa
  ·exact ZfF h.2 id aa
theorem Zo3 {Γ:Gh} {w:World} {I:Nat→Prop} {x:AV} {v:Value} (hn:∀ id,¬U id→Γ id=none) (h:Rep Γ w I x v):ZcF U x:=by
 have ab:∀ id,(∃ r,Γ id=some r)→U id:=fun id ⟨r,hr⟩=>Classical.byContradiction fun hu=>by rw[hn id hu] at hr;cases hr
 refine⟨fun id aa=>ab id (Zkt h id aa),fun f ad hx c hc=>?_⟩;subst hx;obtain⟨us,_,h2⟩:=h;obtain⟨i,hi⟩:=Lt hc;obtain⟨u,_,h3⟩:=h2.get i c hi;exact fun id aa=>ab id (Zkt h3.rep2.rep id aa)
end
section
variable {P:Program} {nt:Nat} {F A I:Nat→Prop} {Γ:Gh} {U:Nat→Prop} {sl:Sl} {hp:Hp} {a:Act} {w:World}
theorem Sim.good (h:Sim nt F A I Γ U sl hp a w) (t:Nat):ZcF U (gs sl t):=Zo3 h.names (h.slots t)
theorem Sim.agree (h:Sim nt F A I Γ U sl hp a w) {hp' : Hp} (hs:∀ id,U id→lkp hp id=lkp hp' id):QA U hp hp':=by
 refine⟨hs,fun id o hu hl i hi=>?_⟩;have ho:=h.objs id o hl;cases o with
 | box cs=>
  obtain⟨b,cur,e,_,_,_,_,h5,_⟩:=ho;obtain⟨r,hr⟩:=ZfF h5 i hi;exact Classical.byContradiction fun hu=>by rw[h.names i hu] at hr;cases hr
 | row sz xs ex fz=>simp[Ve] at hi
 | gone=>simp[Ve] at hi
 | tree sz ns xs lk=>simp[Ve] at hi
theorem Oper.wp_ex {o:Oper} {a:Act} {w:World} {K:Act→World→Prop} (h:o.wp P a w K (fun _ _ _=>False)):∃ a' w',K a' w':=by
 unfold Oper.wp at h;generalize (execOp a.eval o).run P w=r at h;cases r with
 | ok n w' =>
  cases n<;>simp only[Oper.upon] at h
  case value v=>exact⟨_,_,h⟩
  case skip=>exact⟨_,_,h⟩
  case defer d=>exact⟨_,_,h⟩
  case enter f args=>
   obtain⟨e,aa,fr,he,_⟩:=h [];cases e with
   | returned v=>exact⟨_,_,he⟩
   | panicked c=>exact he.elim
   | outgrown=>obtain⟨a,w,hf⟩:=he;exact hf.elim
  case row row args=>
   obtain⟨v,aa,he,_⟩:=h default [];exact⟨_,_,he⟩
 | halt x w'=>cases x<;>simp only[Oper.upon] at h
end
end Go.Abs
set_option linter.unusedVariables false
set_option linter.unusedSimpArgs false
namespace Go.Abs
open Go
def QQ (s s' : Sl×Hp):Prop:=(∀ t,gs s.1 t=gs s'.1 t)∧∀ id,lkp s.2 id=lkp s'.2 id
theorem QQ.refl (s:Sl×Hp):QQ s s:=⟨fun _=>rfl,fun _=>rfl⟩
theorem QQ.symm {s s' : Sl×Hp} (h:QQ s s'):QQ s' s:=⟨fun t=>(h.1 t).symm,fun id=>(h.2 id).symm⟩
theorem QQ.trans {a b c:Sl×Hp} (h:QQ a b) (k:QQ b c):QQ a c:=⟨fun t=>(h.1 t).trans (k.1 t),fun id=>(h.2 id).trans (k.2 id)⟩
theorem WA:∀ (l:Hp) {hp hp' : Hp},(∀ id,lkp hp id=lkp hp' id)→∀ id,lkp (Zd hp l) id=lkp (Zd hp' l) id
 | [],_,_,h=>h
 | (k,o) :: r,hp,hp',h=>by
  simp only[Zd];exact WA r fun id=>by rw[ZZ,ZZ,h id]
theorem ZcG:∀ (l:List Nat) {hp hp' : Hp},(∀ id,lkp hp id=lkp hp' id)→∀ id,lkp (ZN hp l) id=lkp (ZN hp' l) id
 | [],_,_,h=>h
 | d :: r,hp,hp',h=>by
  simp only[ZN];exact ZcG r fun id=>by rw[JY,JY,h id]
theorem Zo4 (ce:Zb) (dst:Option Nat) {s s' : Sl×Hp} (h:QQ s s'):QQ (ce.on dst s.1 s.2) (ce.on dst s'.1 s'.2):=by
 refine⟨fun t=>?_,fun id=>?_⟩
 ·show gs (Zh (Qv ce.gone s.1) dst ce.eff.val) t=gs (Zh (Qv ce.gone s'.1) dst ce.eff.val) t;rw[Z2,Z2,Qg,Qg,h.1 t]
 ·exact WA _ (WA _ (ZcG _ fun id=>by rw[ZL,ZL,X7,X7,h.2 id])) id
noncomputable def Zu (C:Orc) (M:Zf) (nx i:Nat) (t:Bool) (o:CO) (s:Sl×Hp):Option (Sl×Hp):=
 bnd (ZD s.1 o.guard) fun b=>if b then Xd (nx+64*i) o.dst s.1 s.2 (X4 C M nx i t o.op s.1 s.2) else some (Zh s.1 o.dst (.tup []),s.2)
noncomputable def Zr (C:Orc) (M:Zf) (os:List CO) (nx i:Nat) (s:Sl×Hp):Option (Sl×Hp):=bnd os[i]? fun o=>Zu C M nx i (Zz os i) o s
noncomputable def Jx (C:Orc) (M:Zf) (os:List CO) (nx:Nat):List Nat→Sl×Hp→Option (Sl×Hp)
 | [],s=>some s
 | i :: l,s=>bnd (Zr C M os nx i s) (Jx C M os nx l)
theorem Zb2 (C:Orc) (M:Zf) (os:List CO) (nx:Nat):∀ (aa:List CO) (i:Nat) (t:Bool) (sl:Sl) (hp:Hp),os.drop i=aa →
  VF C M nx i t aa sl hp=Jx C M os nx (List.range' i aa.length) (sl,hp)
 | [],i,t,sl,hp,_=>rfl
 | o :: aa,i,t,sl,hp,hd=>by
  have h1:os[i]?=some o:=by
   have:(os.drop i)[0]?=some o:=by rw[hd];rfl
   rw[KM] at this;simpa using this
  have h2:os.drop (i+1)=aa:=by rw[← LR,hd];rfl
  have h4:CO.starts o=Zz os i:=by simp only[Zz,h1]
  simp only[VF,KC,List.range'_succ,Jx,Zr,h1,Zc,Zu,h4];cases hw:ZD sl o.guard with
  | none=>rfl
  | some b=>
   cases b with
   | true=>
    simp only[Zc,Kh];cases hs:Xd (nx+64*i) o.dst sl hp (X4 C M nx i (Zz os i) o.op sl hp) with
    | none=>rfl
    | some r=>
     simp only[Zc];exact Zb2 C M os nx aa (i+1) t r.1 r.2 h2
   | false=>
    simp only[Zc,Ka,Kg];exact Zb2 C M os nx aa (i+1) t _ _ h2
theorem ZlT {hp hp' : Hp} (h:∀ id,lkp hp id=lkp hp' id):QA (fun _=>True) hp hp':=⟨fun id _=>h id,fun _ _ _ _ _ _=>trivial⟩
theorem ZnN (C:Orc) (M:Zf) {s s' : Sl×Hp} (h:QQ s s') (base:Nat) (c:COp):vop C M s.1 s.2 base c=vop C M s'.1 s'.2 base c:=by
 have h1:∀ x:Opd,evO s.1 x=evO s'.1 x:=fun x=>by cases x<;>simp only[evO];exact h.1 _
 rw[Qx C M s.2 base (sl:=s.1) (sl':=s'.1) fun x _=>h1 x];exact VL (ZlT h.2) C M base fun x _=>⟨fun _ _=>trivial,fun _ _ _ _ _ _ _=>trivial⟩
theorem Zku {s s' : Sl×Hp} (h:QQ s s') (g:Option (Nat×Bool)):ZD s.1 g=ZD s'.1 g:=by
 cases g with
 | none=>rfl
 | some q=>simp only[ZD,h.1]
theorem Zkv {C:Orc} {M:Zf} {os:List CO} {nx i:Nat} {s s' r:Sl×Hp} (h:QQ s s') (hr:Zr C M os nx i s=some r):∃ r',Zr C M os nx i s'=some r'∧QQ r r':=by
 unfold Zr at hr ⊢;obtain⟨o,h1,hr⟩:=Za hr;rw[h1,Zc];unfold Zu at hr ⊢;obtain⟨b,h2,hr⟩:=Za hr;rw[← Zku h,h2,Zc];cases b with
 | true=>
  simp only[Kh] at hr ⊢;obtain⟨ce,h3,h4,rfl⟩:=QF hr;have h5:X4 C M nx i (Zz os i) o.op s'.1 s'.2=some ce:=by
   rw[← h3];unfold X4;rw[ZnN C M h]
  refine⟨ce.on o.dst s'.1 s'.2,?_,Zo4 ce o.dst h⟩;unfold Xd;rw[h5,Zc,Ko h4]
 | false=>
  simp only[Ka,Kg] at hr ⊢;cases hr;refine⟨_,rfl,fun t=>?_,h.2⟩;show gs (Zh s.1 o.dst (.tup [])) t=gs (Zh s'.1 o.dst (.tup [])) t;rw[Z2,Z2,h.1 t]
theorem ZfG {C:Orc} {M:Zf} {os:List CO} {nx:Nat}:∀ {l:List Nat} {s s' r:Sl×Hp},QQ s s'→Jx C M os nx l s=some r→∃ r',Jx C M os nx l s'=some r'∧QQ r r'
 | [],s,s',r,h,hr=>by simp only[Jx] at hr ⊢;cases hr;exact⟨s',rfl,h⟩
 | i :: l,s,s',r,h,hr=>by
  simp only[Jx] at hr ⊢;obtain⟨s1,h1,hr⟩:=Za hr;obtain⟨aa,h2,h3⟩:=Zkv h h1;rw[h2,Zc];exact ZfG h3 hr
theorem Z5 {sl:Sl} {d:Option Nat} {v:AV} {o:CO} (h:Qe d (Xn o)=true):ZD (Zh sl d v) o.guard=ZD sl o.guard:=by
 cases hg:o.guard with
 | none=>rfl
 | some q=>
  simp only[ZD];rw[Z2,Kk];intro e;rw[e] at h;simp[Qe,Xn,hg,Zgo] at h
theorem X9 {sl:Sl} {d:Option Nat} {v:AV} {o:CO} (h:Qe d (Xn o)=true):∀ x∈Zq o.op,evO (Zh sl d v) x=evO sl x:=by
 intro x hx;cases x with
 | t n=>
  simp only[evO];rw[Z2,Kk];intro e;rw[e] at h;simp only[Qe,Xn,KI,KD,KN] at h;exact h (Kc.2 (.inl (Kl.2 ⟨_,hx,by simp[Wr]⟩)))
 | _=>rfl
theorem Zb3 {C:Orc} {M:Zf} {nx i:Nat} {o:CO} {s s' : Sl×Hp} (h:Zu C M nx i false o s=some s') :
  ∃ v adds,s'=(Zh s.1 o.dst v,Zd s.2 adds)∧(∀ k x,(k,x)∈adds→nx+64*i≤k∧k<nx+64*i+64) ∧
   ∀ aa : Sl×Hp,ZD aa.1 o.guard=ZD s.1 o.guard→vop C M aa.1 aa.2 (nx+64*i) o.op=vop C M s.1 s.2 (nx+64*i) o.op→Zu C M nx i false o aa=some (Zh aa.1 o.dst v,Zd aa.2 adds):=by
 unfold Zu at h;obtain⟨b,hw,h⟩:=Za h;cases b with
 | true=>
  simp only[Kh] at h;obtain⟨ce,h1,h2,rfl⟩:=QF h;unfold X4 at h1;simp only[Ka,Kg] at h1;have ad:=h1;unfold Uc at h1;obtain⟨c,h3,h1⟩:=Za h1;unfold JS at h1;split at h1
  ·rename_i e1 e2 e3 e4;cases h1;have ab:∀ s:Sl×Hp,ce.on o.dst s.1 s.2=(Zh s.1 o.dst ce.eff.val,Zd s.2 ce.eff.adds):=by
    intro s;unfold Zb.on Eff.on;rw[e1,e2,e3,e4];rfl
   refine⟨ce.eff.val,ce.eff.adds,ab s,Y8 h2,fun aa g1 g2=>?_⟩;unfold Zu;rw[g1,hw,Zc];simp only[Kh];unfold Xd X4;simp only[Ka,Kg];rw[g2,ad,Zc,Ko h2,ab]
  ·cases h1
 | false=>
  simp only[Ka,Kg] at h;cases h;refine⟨.tup [],[],rfl,fun k x hk=>by simp at hk,fun aa g1 g2=>?_⟩;unfold Zu;rw[g1,hw,Zc];rfl
theorem Vh {U:Nat→Prop} {a:AV} (h:Xq (.v a)=true):ZcF U a:=by
 simp only[Xq,Kb,List.isEmpty_iff,KI] at h;refine⟨fun id aa=>by rw[h.1] at aa;simp at aa,fun f ab hx=>?_⟩;subst hx;simp[Zh0] at h
section
variable {P:Program} {nt:Nat}
def ZbE (nt:Nat) (s:Sl×Hp) (U:Nat→Prop):Prop:=∃ F A I Γ a w,Sim nt F A I Γ U s.1 s.2 a w
theorem Ya {U:Nat→Prop} {base:Nat} (hf:Qz U base) {adds:Hp} (ha:∀ k x,(k,x)∈adds→base≤k∧k<base+64) (hp:Hp):∀ id,U id→lkp hp id=lkp (Zd hp adds) id:=by
 intro id hu;rw[Zp];intro o ho;obtain⟨h1,h2⟩:=ha id o ho;exact hf id h1 h2 hu
theorem YG {sl:Sl} {d e:Option Nat} (h:VS d e=true) (u v:AV) (t:Nat):gs (Zh (Zh sl d u) e v) t=gs (Zh (Zh sl e v) d u) t:=by
 simp only[Z2];by_cases h1:e=some t
 ·by_cases h2:d=some t
  ·rw[h1,h2] at h;simp[VS] at h
  ·simp[h1,h2]
 ·simp[h1]
theorem Zo5 {adds aa : Hp} {b b' : Nat} (ha:∀ k x,(k,x)∈adds→b≤k∧k<b+64) (ad : ∀ k x,(k,x)∈aa→b'≤k∧k<b'+64) (hd:b+64≤b'∨b'+64≤b) (hp:Hp) (id:Nat) :
  lkp (Zd (Zd hp adds) aa) id=lkp (Zd (Zd hp aa) adds) id:=by
 have ab:∀ (l:Hp) (hp hp' : Hp),(∀ o,(id,o)∉l)→lkp (Zd hp l) id=lkp hp id:=fun l hp _ h=>Zp l hp id h;by_cases h1:∃ o,(id,o)∈adds
 ·have h2:∀ o,(id,o)∉aa:=fun o ho=>by
   obtain⟨o',ae⟩:=h1;have:=ha id o' ae;have:=ad id o ho;omega
  rw[Zp aa _ id h2];have ab:∀ (l:Hp) (hp hp' : Hp),lkp hp id=lkp hp' id→lkp (Zd hp l) id=lkp (Zd hp' l) id:=by
   intro l
   induction l with
   | nil=>intro hp hp' h;exact h
   | cons q r ih=>
    intro hp hp' h;obtain⟨k,x⟩:=q;simp only[Zd];exact ih _ _ (by rw[ZZ,ZZ,h])
  exact ab adds _ _ (Zp aa hp id h2).symm
 ·have h2:∀ o,(id,o)∉adds:=fun o ho=>h1 ⟨o,ho⟩;rw[Zp adds _ id h2];have ab:∀ (l:Hp) (hp hp' : Hp),lkp hp id=lkp hp' id→lkp (Zd hp l) id=lkp (Zd hp' l) id:=by
   intro l
   induction l with
   | nil=>intro hp hp' h;exact h
   | cons q r ih=>
    intro hp hp' h;obtain⟨k,x⟩:=q;simp only[Zd];exact ih _ _ (by rw[ZZ,ZZ,h])
  exact ab aa _ _ (Zp adds hp id h2)
theorem ZfH {C:Orc} {M:Zf} {os:List CO} {nx i j:Nat} {oi oj:CO} (an:os[i]?=some oi) (ab:os[j]?=some oj) (ae:Zz os j=false) (ao:i≠j) (af:QI oj oi=true)
  (ad:∀ (k:Nat) (o:CO),os[k]?=some o→∀ x∈Zq o.op,Xq x=true) {s s1 s2:Sl×Hp} {U:Nat→Prop} (hs:ZbE nt s U) (ap:Qz U (nx+64*i)) (aq:Qz U (nx+64*j))
  (h1:Zr C M os nx j s=some s1) (h2:Zu C M nx i false oi s1=some s2):∃ t1,Zu C M nx i false oi s=some t1∧∃ t2,Zr C M os nx j t1=some t2∧QQ t2 s2:=by
 obtain⟨F,A,I,Γ,a,w,aa⟩:=hs;simp only[QI,Kb] at af;obtain⟨⟨ag,ar⟩,ah⟩:=af;have good:∀ (k:Nat) (o:CO),os[k]?=some o→∀ x∈Zq o.op,ZcF U (evO s.1 x):=by
  intro k o ho x hx;cases x with
  | t n=>exact aa.good n
  | v y=>exact Vh (ad k o ho _ hx)
  | f n=>exact⟨fun id au=>by simp[evO,Zl,Zn] at au,fun f av h c hc=>by cases h;simp at hc⟩
 simp only[Zr,ab,Zc,ae] at h1;obtain⟨vj,aj,rfl,ak,aw⟩:=Zb3 h1;obtain⟨vi,ai,rfl,al,am⟩:=Zb3 h2;dsimp only at am;have e1:Zu C M nx i false oi s=some (Zh s.1 oi.dst vi,Zd s.2 ai):=by
  refine am s (Z5 ag).symm ?_;rw[Qx C M (Zd s.2 aj) (nx+64*i) (X9 (o:=oi) ag)];exact VL (aa.agree (Ya aq ak s.2)) C M _ (good i oi an)
 refine⟨_,e1,?_⟩;have e2:Zu C M nx j false oj (Zh s.1 oi.dst vi,Zd s.2 ai)=some (Zh (Zh s.1 oi.dst vi) oj.dst vj,Zd (Zd s.2 ai) aj):=by
  refine aw (Zh s.1 oi.dst vi,Zd s.2 ai) (Z5 ah) ?_;rw[Qx C M (Zd s.2 ai) (nx+64*j) (X9 (o:=oj) ah)];exact(VL (aa.agree (Ya ap al s.2)) C M _ (good j oj ab)).symm
 refine⟨_,by simp only[Zr,ab,Zc,ae];exact e2,fun t=>?_,fun id=>?_⟩
 ·exact(YG ar vj vi t).symm
 ·refine Zo5 al ak ?_ s.2 id;rcases Lq ao with h | h
  ·left;omega
  ·right;omega
theorem ZnO {C:Orc} {M:Zf} {os:List CO} {nx i j:Nat} {oi oj:CO} (ab:os[i]?=some oi) (ad:os[j]?=some oj) (ae:Zz os i=false) (af:Zz os j=false) (ag:i≠j) (ah:QI oj oi=true)
  (aa:∀ (k:Nat) (o:CO),os[k]?=some o→∀ x∈Zq o.op,Xq x=true) {s s1 s2:Sl×Hp} {U:Nat→Prop} (hs:ZbE nt s U) (ai:Qz U (nx+64*i)) (aj:Qz U (nx+64*j))
  (h1:Zr C M os nx j s=some s1) (h2:Zr C M os nx i s1=some s2):∃ t1,Zr C M os nx i s=some t1∧∃ t2,Zr C M os nx j t1=some t2∧QQ t2 s2:=by
 have e:∀ s:Sl×Hp,Zr C M os nx i s=Zu C M nx i false oi s:=fun s=>by simp only[Zr,ab,Zc,ae]
 rw[e] at h2;simp only[e];exact ZfH ab ad af ag ah aa hs ai aj h1 h2
end
end Go.Abs
