/- Own text. -/
import Derived.Test.YtighjmleicikhaaAbsDraw
import Derived.Test.YtighjmleicikhaaAbsSound3
set_option linter.unusedVariables false
set_option linter.unusedSimpArgs false
namespace Go.Abs
open Go
section
variable {U:Nat→Prop} {hp hp' : Hp}
def Zbs (U:Nat→Prop) (x:AV):Prop:=InU U x∧∀ f caps,x=.clo f caps→∀ c∈caps,InU U c
theorem J7 {sl:Sl}:∀ {xs:List Opd} {v:AV},v∈evL sl xs→∃ x∈xs,v=evO sl x
 | [],v,h=>by simp[evL] at h
 | x :: xs,v,h=>by
  simp only[evL] at h;rcases Ke.1 h with rfl | h
  ·exact⟨x,by simp,rfl⟩
  ·obtain⟨y,h1,h2⟩:=J7 h;exact⟨y,Km _ h1,h2⟩
theorem Vi (h:Qm U hp hp') (C:Orc) (M:Zf) {sl:Sl} (base:Nat) {c:COp} (hx:∀ x∈Zo c,Zbs U (evO sl x)):vop C M sl hp base c=vop C M sl hp' base c:=by
 cases c<;>simp only[Zo] at hx<;>simp only[vop]
 case buildSl s xs=>
  cases hv:evL sl xs with
  | nil=>rfl
  | cons v vs=>
   simp only[buildSl];rw[ZaB h];intro y hy;rw[← hv] at hy;obtain⟨z,h1,rfl⟩:=J7 hy;exact(hx z h1).1
 case load g s a=>rw[Zh3 h (hx a (by simp)).1]
 case store slc s a x=>rw[Zg1 h (hx a (by simp)).1 _ _ _ _ (Zd1 (hx x (by simp)).1)]
 case slice s x lo hi=>rw[ZgX h (hx x (by simp)).1]
 case slice0 x hi mx=>unfold slice0;rw[ZaU h (hx x (by simp)).1]
 case slice3 s x lo hi mx=>unfold slice3;rw[ZaU h (hx x (by simp)).1]
 case clear s z x=>rw[ZgY h (hx x (by simp)).1]
 case iaS s x i=>
  congr 1
  funext n
  simp only[ZaL];rw[Zce h (hx x (by simp)).1]
 case len x=>rw[ZaU h (hx x (by simp)).1]
 case append s b str flat x y=>
  simp only[ZiB];rw[Zbq h (hx x (by simp)).1,Zbq h (hx y (by simp)).1];generalize QI hp' (evO sl x)=mx;generalize QI hp' (evO sl y)=my;cases mx with
  | nil=>simp only[W7];rw[Zaz h (hx x (by simp)).1 (hx y (by simp)).1]
  | cons i r=>
   cases my with
   | nil=>simp only[W7];rw[Zaz h (hx x (by simp)).1 (hx y (by simp)).1]
   | cons j t=>simp only[W7];rw[Zd0 h (hx x (by simp)).1 (hx y (by simp)).1]
 case appT s b f x y=>exact Zd0 h (hx x (by simp)).1 (hx y (by simp)).1 s b base
 case buildT s n xs=>
  refine Zg0 h fun y hy=>?_;obtain⟨z,h1,rfl⟩:=J7 hy;exact(hx z h1).1
 case call f as=>
  have hf:=hx f (by simp);cases he:evO sl f<;>simp only[W8]
  rename_i g aa;refine Zh7 h C (M g) base g fun y hy=>?_;rcases Kd.1 hy with hy | hy
  ·obtain⟨z,h1,rfl⟩:=J7 hy;exact(hx z (by simp[h1])).1
  ·exact hf.2 g aa he y hy
theorem Zf4 {Γ:Gh} {w:World} {I:Nat→Prop} {x:AV} {v:Value} (h:Xc Γ w I x v):∀ id∈Ze x,∃ r,Γ id=some r:=by
 intro id aa;cases x<;>simp only[Ze,KV,LN,Ke,or_false] at aa
 case ptr i off=>subst aa;obtain⟨b,h1,_⟩:=h;exact⟨_,h1⟩
 case prow i sz k off=>subst aa;obtain⟨b,o,n,c,h1,_⟩:=h;exact⟨_,h1⟩
 case own i=>subst aa;obtain⟨a,n,c,sz,h1,_⟩:=h;exact⟨_,h1⟩
 case ownv i off n=>subst aa;obtain⟨a0,m,c,sz,a,h1,_⟩:=h;exact⟨_,h1⟩
 case bnil i e=>subst aa;obtain⟨b,h1,_⟩:=h;exact⟨_,h1⟩
theorem Zcf {Γ:Gh} {w:World} {I:Nat→Prop}:∀ {xs:List AV} {vs:List Value},Zl (Xc Γ w I) xs vs→∀ id∈xs.flatMap Ze,∃ r,Γ id=some r
 | [],[],_,id,aa=>by simp at aa
 | [],_ :: _,h,_,_=>h.elim
 | _ :: _,[],h,_,_=>h.elim
 | x :: xs,v :: vs,h,id,aa=>by
  simp only[Kz,Kd] at aa;rcases aa with aa | aa
  ·exact Zf4 h.1 id aa
  ·exact Zcf h.2 id aa
theorem Zcg {Γ:Gh} {w:World} {I:Nat→Prop} {x:AV} {v:Value} (h:Y1 Γ w I x v):∀ id∈Zm x,∃ r,Γ id=some r:=by
 intro id aa;by_cases hs:x.small=true
 ·rw[(Q1 hs (fun k=>k) []).2.2.2.2.2] at aa;rw[(X9 hs v).2.1] at h;exact Zf4 h id aa
 ·cases x with
  | agg cs=>obtain⟨us,_,h2⟩:=h;exact Zcf h2 id aa
  | clo f cs=>obtain⟨us,_,h2⟩:=h;exact Zcf h2 id aa
  | tup cs=>exact h.elim
  | d x=>simp[Zm,Ze] at aa
  | _=>exact absurd rfl hs
theorem Zlb {Γ:Gh} {w:World} {I:Nat→Prop} {x:AV} {v:Value} (h:QB Γ w I x v):∀ id∈Zm x,∃ r,Γ id=some r:=Zcg h.rep2
theorem Zd6 {Γ:Gh} {w:World} {I:Nat→Prop}:∀ {xs:List AV} {vs:List Value},Zl (Y1 Γ w I) xs vs→∀ id∈xs.flatMap Zm,∃ r,Γ id=some r
 | [],[],_,id,aa=>by simp at aa
 | [],_ :: _,h,_,_=>h.elim
 | _ :: _,[],h,_,_=>h.elim
 | x :: xs,v :: vs,h,id,aa=>by
  simp only[Kz,Kd] at aa;rcases aa with aa | aa
  ·exact Zcg h.1 id aa
  ·exact Zd6 h.2 id aa
theorem Zh8 {Γ:Gh} {w:World} {I:Nat→Prop} {x:AV} {v:Value} (h:Rep Γ w I x v):∀ id∈Zj x,∃ r,Γ id=some r:=by
 intro id aa;by_cases ht:∃ vs,x=.tup vs
 ·obtain⟨vs,rfl⟩:=ht;obtain⟨us,_,h2⟩:=h;exact Zd6 h2 id aa
 ·have e:Rep Γ w I x v=Y1 Γ w I x v:=by cases x<;>first | rfl | exact absurd ⟨_,rfl⟩ ht
  rw[e] at h;refine Zcg h id ?_;cases x<;>first | exact aa | exact absurd ⟨_,rfl⟩ ht
theorem Zd7 {Γ:Gh} {w:World} {I:Nat→Prop}:∀ {xs:List AV} {vs:List Value},Zl (QB Γ w I) xs vs→∀ id∈xs.flatMap Zm,∃ r,Γ id=some r
 | [],[],_,id,aa=>by simp at aa
 | [],_ :: _,h,_,_=>h.elim
 | _ :: _,[],h,_,_=>h.elim
 | x :: xs,v :: vs,h,id,aa=>by
  simp only[Kz,Kd] at aa;rcases aa with aa | aa
  ·exact Zlb h.1 id aa
  ·exact Zd7 h.2 id aa
theorem Zmp {Γ:Gh} {w:World} {I:Nat→Prop} {x:AV} {v:Value} (hn:∀ id,¬U id→Γ id=none) (h:Rep Γ w I x v):Zbs U x:=by
 have ab:∀ id,(∃ r,Γ id=some r)→U id:=fun id ⟨r,hr⟩=>Classical.byContradiction fun hu=>by rw[hn id hu] at hr;cases hr
 refine⟨fun id aa=>ab id (Zh8 h id aa),fun f ad hx c hc=>?_⟩;subst hx;obtain⟨us,_,h2⟩:=h;obtain⟨i,hi⟩:=KZ hc;obtain⟨u,_,h3⟩:=h2.get i c hi;exact fun id aa=>ab id (Zh8 h3.rep2.rep id aa)
end
section
variable {P:Program} {nt:Nat} {F A I:Nat→Prop} {Γ:Gh} {U:Nat→Prop} {sl:Sl} {hp:Hp} {a:Act} {w:World}
theorem Sim.good (h:Sim nt F A I Γ U sl hp a w) (t:Nat):Zbs U (gs sl t):=Zmp h.names (h.slots t)
theorem Sim.agree (h:Sim nt F A I Γ U sl hp a w) {hp' : Hp} (hs:∀ id,U id→lkp hp id=lkp hp' id):Qm U hp hp':=by
 refine⟨hs,fun id o hu hl i hi=>?_⟩;have ho:=h.objs id o hl;cases o with
 | box cs=>
  obtain⟨b,cur,e,_,_,_,_,h5,_⟩:=ho;obtain⟨r,hr⟩:=Zd7 h5 i hi;exact Classical.byContradiction fun hu=>by rw[h.names i hu] at hr;cases hr
 | row sz xs ex fz=>simp[YQ] at hi
 | gone=>simp[YQ] at hi
 | tree sz ns xs lk=>simp[YQ] at hi
theorem Oper.wp_ex {o:Oper} {a:Act} {w:World} {K:Act→World→Prop} (h:o.wp P a w K (fun _ _ _=>False)):∃ a' w',K a' w':=by
 unfold Oper.wp at h;generalize (execOp a.eval o).run P w=r at h;cases r with
 | ok n w' =>
  cases n<;>simp only[Oper.upon] at h
  case value v=>exact⟨_,_,h⟩
  case skip=>exact⟨_,_,h⟩
  case defer d=>exact⟨_,_,h⟩
  case enter f args=>
   obtain⟨e,aa,fr,he,_⟩:=h [];cases e with
   | returned v=>exact⟨_,_,he⟩
   | panicked c=>exact he.elim
   | outgrown=>obtain⟨a,w,hf⟩:=he;exact hf.elim
  case row row args=>
   obtain⟨v,aa,he,_⟩:=h default [];exact⟨_,_,he⟩
 | halt x w'=>cases x<;>simp only[Oper.upon] at h
end
end Go.Abs
set_option linter.unusedVariables false
set_option linter.unusedSimpArgs false
namespace Go.Abs
open Go
def QD (s s' : Sl×Hp):Prop:=(∀ t,gs s.1 t=gs s'.1 t)∧∀ id,lkp s.2 id=lkp s'.2 id
theorem QD.refl (s:Sl×Hp):QD s s:=⟨fun _=>rfl,fun _=>rfl⟩
theorem QD.symm {s s' : Sl×Hp} (h:QD s s'):QD s' s:=⟨fun t=>(h.1 t).symm,fun id=>(h.2 id).symm⟩
theorem QD.trans {a b c:Sl×Hp} (h:QD a b) (k:QD b c):QD a c:=⟨fun t=>(h.1 t).trans (k.1 t),fun id=>(h.2 id).trans (k.2 id)⟩
theorem V5:∀ (l:Hp) {hp hp' : Hp},(∀ id,lkp hp id=lkp hp' id)→∀ id,lkp (Zd hp l) id=lkp (Zd hp' l) id
 | [],_,_,h=>h
 | (k,o) :: r,hp,hp',h=>by
  simp only[Zd];exact V5 r fun id=>by rw[ZV,ZV,h id]
theorem Zbt:∀ (l:List Nat) {hp hp' : Hp},(∀ id,lkp hp id=lkp hp' id)→∀ id,lkp (ZI hp l) id=lkp (ZI hp' l) id
 | [],_,_,h=>h
 | d :: r,hp,hp',h=>by
  simp only[ZI];exact Zbt r fun id=>by rw[U6,U6,h id]
theorem Zmq (ce:Zb) (dst:Option Nat) {s s' : Sl×Hp} (h:QD s s'):QD (ce.on dst s.1 s.2) (ce.on dst s'.1 s'.2):=by
 refine⟨fun t=>?_,fun id=>?_⟩
 ·show gs (Zh (Qj ce.gone s.1) dst ce.eff.val) t=gs (Zh (Qj ce.gone s'.1) dst ce.eff.val) t;rw[ZX,ZX,Z8,Z8,h.1 t]
 ·exact V5 _ (V5 _ (Zbt _ fun id=>by rw[ZL,ZL,XR,XR,h.2 id])) id
noncomputable def Zt (C:Orc) (M:Zf) (nx i:Nat) (t:Bool) (o:CO) (s:Sl×Hp):Option (Sl×Hp):=
 bnd (ZC s.1 o.guard) fun b=>if b then Q3 (nx+64*i) o.dst s.1 s.2 (XO C M nx i t o.op s.1 s.2) else some (Zh s.1 o.dst (.tup []),s.2)
noncomputable def Zp (C:Orc) (M:Zf) (os:List CO) (nx i:Nat) (s:Sl×Hp):Option (Sl×Hp):=bnd os[i]? fun o=>Zt C M nx i (Zz os i) o s
noncomputable def UG (C:Orc) (M:Zf) (os:List CO) (nx:Nat):List Nat→Sl×Hp→Option (Sl×Hp)
 | [],s=>some s
 | i :: l,s=>bnd (Zp C M os nx i s) (UG C M os nx l)
theorem ZaV (C:Orc) (M:Zf) (os:List CO) (nx:Nat):∀ (aa:List CO) (i:Nat) (t:Bool) (sl:Sl) (hp:Hp),os.drop i=aa →
  Vf C M nx i t aa sl hp=UG C M os nx (List.range' i aa.length) (sl,hp)
 | [],i,t,sl,hp,_=>rfl
 | o :: aa,i,t,sl,hp,hd=>by
  have h1:os[i]?=some o:=by
   have:(os.drop i)[0]?=some o:=by rw[hd];rfl
   rw[K1] at this;simpa using this
  have h2:os.drop (i+1)=aa:=by rw[← List.drop_drop,hd];rfl
  have h4:CO.starts o=Zz os i:=by simp only[Zz,h1]
  simp only[Vf,Kv,List.range'_succ,UG,Zp,h1,Zc,Zt,h4];cases hw:ZC sl o.guard with
  | none=>rfl
  | some b=>
   cases b with
   | true=>
    simp only[Zc,Ki];cases hs:Q3 (nx+64*i) o.dst sl hp (XO C M nx i (Zz os i) o.op sl hp) with
    | none=>rfl
    | some r=>
     simp only[Zc];exact ZaV C M os nx aa (i+1) t r.1 r.2 h2
   | false=>
    simp only[Zc,Ka,Kh];exact ZaV C M os nx aa (i+1) t _ _ h2
theorem Zjh {hp hp' : Hp} (h:∀ id,lkp hp id=lkp hp' id):Qm (fun _=>True) hp hp':=⟨fun id _=>h id,fun _ _ _ _ _ _=>trivial⟩
theorem Zlc (C:Orc) (M:Zf) {s s' : Sl×Hp} (h:QD s s') (base:Nat) (c:COp):vop C M s.1 s.2 base c=vop C M s'.1 s'.2 base c:=by
 have h1:∀ x:Opd,evO s.1 x=evO s'.1 x:=fun x=>by cases x<;>simp only[evO];exact h.1 _
 rw[Qk C M s.2 base (sl:=s.1) (sl':=s'.1) fun x _=>h1 x];exact Vi (Zjh h.2) C M base fun x _=>⟨fun _ _=>trivial,fun _ _ _ _ _ _ _=>trivial⟩
theorem Zh9 {s s' : Sl×Hp} (h:QD s s') (g:Option (Nat×Bool)):ZC s.1 g=ZC s'.1 g:=by
 cases g with
 | none=>rfl
 | some q=>simp only[ZC,h.1]
theorem Zia {C:Orc} {M:Zf} {os:List CO} {nx i:Nat} {s s' r:Sl×Hp} (h:QD s s') (hr:Zp C M os nx i s=some r):∃ r',Zp C M os nx i s'=some r'∧QD r r':=by
 unfold Zp at hr ⊢;obtain⟨o,h1,hr⟩:=Za hr;rw[h1,Zc];unfold Zt at hr ⊢;obtain⟨b,h2,hr⟩:=Za hr;rw[← Zh9 h,h2,Zc];cases b with
 | true=>
  simp only[Ki] at hr ⊢;obtain⟨ce,h3,h4,rfl⟩:=Qu hr;have h5:XO C M nx i (Zz os i) o.op s'.1 s'.2=some ce:=by
   rw[← h3];unfold XO;rw[Zlc C M h]
  refine⟨ce.on o.dst s'.1 s'.2,?_,Zmq ce o.dst h⟩;unfold Q3;rw[h5,Zc,Kw h4]
 | false=>
  simp only[Ka,Kh] at hr ⊢;cases hr;refine⟨_,rfl,fun t=>?_,h.2⟩;show gs (Zh s.1 o.dst (.tup [])) t=gs (Zh s'.1 o.dst (.tup [])) t;rw[ZX,ZX,h.1 t]
theorem Zd8 {C:Orc} {M:Zf} {os:List CO} {nx:Nat}:∀ {l:List Nat} {s s' r:Sl×Hp},QD s s'→UG C M os nx l s=some r→∃ r',UG C M os nx l s'=some r'∧QD r r'
 | [],s,s',r,h,hr=>by simp only[UG] at hr ⊢;cases hr;exact⟨s',rfl,h⟩
 | i :: l,s,s',r,h,hr=>by
  simp only[UG] at hr ⊢;obtain⟨s1,h1,hr⟩:=Za hr;obtain⟨aa,h2,h3⟩:=Zia h h1;rw[h2,Zc];exact Zd8 h3 hr
theorem ZZ {sl:Sl} {d:Option Nat} {v:AV} {o:CO} (h:Z6 d (Xb o)=true):ZC (Zh sl d v) o.guard=ZC sl o.guard:=by
 cases hg:o.guard with
 | none=>rfl
 | some q=>
  simp only[ZC];rw[ZX,Kn];intro e;rw[e] at h;simp[Z6,Xb,hg,ZeT] at h
theorem XT {sl:Sl} {d:Option Nat} {v:AV} {o:CO} (h:Z6 d (Xb o)=true):∀ x∈Zo o.op,evO (Zh sl d v) x=evO sl x:=by
 intro x hx;cases x with
 | t n=>
  simp only[evO];rw[ZX,Kn];intro e;rw[e] at h;simp only[Z6,Xb,KJ,KG,KP] at h;exact h (Kd.2 (.inl (Kk.2 ⟨_,hx,by simp[VU]⟩)))
 | _=>rfl
theorem ZaW {C:Orc} {M:Zf} {nx i:Nat} {o:CO} {s s' : Sl×Hp} (h:Zt C M nx i false o s=some s') :
  ∃ v adds,s'=(Zh s.1 o.dst v,Zd s.2 adds)∧(∀ k x,(k,x)∈adds→nx+64*i≤k∧k<nx+64*i+64) ∧
   ∀ aa : Sl×Hp,ZC aa.1 o.guard=ZC s.1 o.guard→vop C M aa.1 aa.2 (nx+64*i) o.op=vop C M s.1 s.2 (nx+64*i) o.op→Zt C M nx i false o aa=some (Zh aa.1 o.dst v,Zd aa.2 adds):=by
 unfold Zt at h;obtain⟨b,hw,h⟩:=Za h;cases b with
 | true=>
  simp only[Ki] at h;obtain⟨ce,h1,h2,rfl⟩:=Qu h;unfold XO at h1;simp only[Ka,Kh] at h1;have ad:=h1;unfold Wz at h1;obtain⟨c,h3,h1⟩:=Za h1;unfold U0 at h1;split at h1
  ·rename_i e1 e2 e3 e4;cases h1;have ab:∀ s:Sl×Hp,ce.on o.dst s.1 s.2=(Zh s.1 o.dst ce.eff.val,Zd s.2 ce.eff.adds):=by
    intro s;unfold Zb.on Eff.on;rw[e1,e2,e3,e4];rfl
   refine⟨ce.eff.val,ce.eff.adds,ab s,YK h2,fun aa g1 g2=>?_⟩;unfold Zt;rw[g1,hw,Zc];simp only[Ki];unfold Q3 XO;simp only[Ka,Kh];rw[g2,ad,Zc,Kw h2,ab]
  ·cases h1
 | false=>
  simp only[Ka,Kh] at h;cases h;refine⟨.tup [],[],rfl,fun k x hk=>by simp at hk,fun aa g1 g2=>?_⟩;unfold Zt;rw[g1,hw,Zc];rfl
theorem YT {U:Nat→Prop} {a:AV} (h:Xd (.v a)=true):Zbs U a:=by
 simp only[Xd,Kc,List.isEmpty_iff,KJ] at h;refine⟨fun id aa=>by rw[h.1] at aa;simp at aa,fun f ab hx=>?_⟩;subst hx;simp[ZfW] at h
section
variable {P:Program} {nt:Nat}
def ZaD (nt:Nat) (s:Sl×Hp) (U:Nat→Prop):Prop:=∃ F A I Γ a w,Sim nt F A I Γ U s.1 s.2 a w
theorem XU {U:Nat→Prop} {base:Nat} (hf:Qi U base) {adds:Hp} (ha:∀ k x,(k,x)∈adds→base≤k∧k<base+64) (hp:Hp):∀ id,U id→lkp hp id=lkp (Zd hp adds) id:=by
 intro id hu;rw[Zn];intro o ho;obtain⟨h1,h2⟩:=ha id o ho;exact hf id h1 h2 hu
theorem Yn {sl:Sl} {d e:Option Nat} (h:Vo d e=true) (u v:AV) (t:Nat):gs (Zh (Zh sl d u) e v) t=gs (Zh (Zh sl e v) d u) t:=by
 simp only[ZX];by_cases h1:e=some t
 ·by_cases h2:d=some t
  ·rw[h1,h2] at h;simp[Vo] at h
  ·simp[h1,h2]
 ·simp[h1]
theorem Zmr {adds aa : Hp} {b b' : Nat} (ha:∀ k x,(k,x)∈adds→b≤k∧k<b+64) (ad : ∀ k x,(k,x)∈aa→b'≤k∧k<b'+64) (hd:b+64≤b'∨b'+64≤b) (hp:Hp) (id:Nat) :
  lkp (Zd (Zd hp adds) aa) id=lkp (Zd (Zd hp aa) adds) id:=by
 have ab:∀ (l:Hp) (hp hp' : Hp),(∀ o,(id,o)∉l)→lkp (Zd hp l) id=lkp hp id:=fun l hp _ h=>Zn l hp id h;by_cases h1:∃ o,(id,o)∈adds
 ·have h2:∀ o,(id,o)∉aa:=fun o ho=>by
   obtain⟨o',ae⟩:=h1;have:=ha id o' ae;have:=ad id o ho;omega
  rw[Zn aa _ id h2];have ab:∀ (l:Hp) (hp hp' : Hp),lkp hp id=lkp hp' id→lkp (Zd hp l) id=lkp (Zd hp' l) id:=by
   intro l
   induction l with
   | nil=>intro hp hp' h;exact h
   | cons q r ih=>
    intro hp hp' h;obtain⟨k,x⟩:=q;simp only[Zd];exact ih _ _ (by rw[ZV,ZV,h])
  exact ab adds _ _ (Zn aa hp id h2).symm
 ·have h2:∀ o,(id,o)∉adds:=fun o ho=>h1 ⟨o,ho⟩;rw[Zn adds _ id h2];have ab:∀ (l:Hp) (hp hp' : Hp),lkp hp id=lkp hp' id→lkp (Zd hp l) id=lkp (Zd hp' l) id:=by
   intro l
   induction l with
   | nil=>intro hp hp' h;exact h
   | cons q r ih=>
    intro hp hp' h;obtain⟨k,x⟩:=q;simp only[Zd];exact ih _ _ (by rw[ZV,ZV,h])
  exact ab aa _ _ (Zn adds hp id h2)
theorem Zd9 {C:Orc} {M:Zf} {os:List CO} {nx i j:Nat} {oi oj:CO} (an:os[i]?=some oi) (ab:os[j]?=some oj) (ae:Zz os j=false) (ao:i≠j) (af:Qw oj oi=true)
  (ad:∀ (k:Nat) (o:CO),os[k]?=some o→∀ x∈Zo o.op,Xd x=true) {s s1 s2:Sl×Hp} {U:Nat→Prop} (hs:ZaD nt s U) (ap:Qi U (nx+64*i)) (aq:Qi U (nx+64*j))
  (h1:Zp C M os nx j s=some s1) (h2:Zt C M nx i false oi s1=some s2):∃ t1,Zt C M nx i false oi s=some t1∧∃ t2,Zp C M os nx j t1=some t2∧QD t2 s2:=by
 obtain⟨F,A,I,Γ,a,w,aa⟩:=hs;simp only[Qw,Kc] at af;obtain⟨⟨ag,ar⟩,ah⟩:=af;have good:∀ (k:Nat) (o:CO),os[k]?=some o→∀ x∈Zo o.op,Zbs U (evO s.1 x):=by
  intro k o ho x hx;cases x with
  | t n=>exact aa.good n
  | v y=>exact YT (ad k o ho _ hx)
  | f n=>exact⟨fun id au=>by simp[evO,Zj,Zm] at au,fun f av h c hc=>by cases h;simp at hc⟩
 simp only[Zp,ab,Zc,ae] at h1;obtain⟨vj,aj,rfl,ak,aw⟩:=ZaW h1;obtain⟨vi,ai,rfl,al,am⟩:=ZaW h2;dsimp only at am;have e1:Zt C M nx i false oi s=some (Zh s.1 oi.dst vi,Zd s.2 ai):=by
  refine am s (ZZ ag).symm ?_;rw[Qk C M (Zd s.2 aj) (nx+64*i) (XT (o:=oi) ag)];exact Vi (aa.agree (XU aq ak s.2)) C M _ (good i oi an)
 refine⟨_,e1,?_⟩;have e2:Zt C M nx j false oj (Zh s.1 oi.dst vi,Zd s.2 ai)=some (Zh (Zh s.1 oi.dst vi) oj.dst vj,Zd (Zd s.2 ai) aj):=by
  refine aw (Zh s.1 oi.dst vi,Zd s.2 ai) (ZZ ah) ?_;rw[Qk C M (Zd s.2 ai) (nx+64*j) (XT (o:=oj) ah)];exact(Vi (aa.agree (XU ap al s.2)) C M _ (good j oj ab)).symm
 refine⟨_,by simp only[Zp,ab,Zc,ae];exact e2,fun t=>?_,fun id=>?_⟩
 ·exact(Yn ar vj vi t).symm
 ·refine Zmr al ak ?_ s.2 id;rcases Lv ao with h | h
  ·left;omega
  ·right;omega
theorem Zld {C:Orc} {M:Zf} {os:List CO} {nx i j:Nat} {oi oj:CO} (ab:os[i]?=some oi) (ad:os[j]?=some oj) (ae:Zz os i=false) (af:Zz os j=false) (ag:i≠j) (ah:Qw oj oi=true)
  (aa:∀ (k:Nat) (o:CO),os[k]?=some o→∀ x∈Zo o.op,Xd x=true) {s s1 s2:Sl×Hp} {U:Nat→Prop} (hs:ZaD nt s U) (ai:Qi U (nx+64*i)) (aj:Qi U (nx+64*j))
  (h1:Zp C M os nx j s=some s1) (h2:Zp C M os nx i s1=some s2):∃ t1,Zp C M os nx i s=some t1∧∃ t2,Zp C M os nx j t1=some t2∧QD t2 s2:=by
 have e:∀ s:Sl×Hp,Zp C M os nx i s=Zt C M nx i false oi s:=fun s=>by simp only[Zp,ab,Zc,ae]
 rw[e] at h2;simp only[e];exact Zd9 ab ad af ag ah aa hs ai aj h1 h2
end
end Go.Abs
