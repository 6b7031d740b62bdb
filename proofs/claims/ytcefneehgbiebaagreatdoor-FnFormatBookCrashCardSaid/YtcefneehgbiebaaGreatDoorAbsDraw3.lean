/- Own text. -/
import Derived.Test.YtcefneehgbiebaaGreatDoorAbsDraw
import Derived.Test.YtcefneehgbiebaaGreatDoorAbsSound3
set_option linter.unusedVariables false
set_option linter.unusedSimpArgs false
namespace Go.Abs
open Go
section
variable {U:Nat→Prop} {hp hp' : Hp}
def ZmN (U:Nat→Prop) (x:AV):Prop:=InU U x∧∀ f caps,x=.clo f caps→∀ c∈caps,InU U c
theorem ZjJ {sl:Sl}:∀ {xs:List Opd} {v:AV},v∈evL sl xs→∃ x∈xs,v=evO sl x
 | [],v,h=>by simp[evL] at h
 | x :: xs,v,h=>by
  simp only[evL] at h;rcases Ke.1 h with rfl | h
  ·exact⟨x,by simp,rfl⟩
  ·obtain⟨y,h1,h2⟩:=ZjJ h;exact⟨y,KB _ h1,h2⟩
theorem Zbj (h:Xn U hp hp') (C:Orc) (M:Zp) {sl:Sl} (base:Nat) {c:COp} (hx:∀ x∈ZM c,ZmN U (evO sl x)):vop C M sl hp base c=vop C M sl hp' base c:=by
 cases c<;>simp only[ZM] at hx<;>simp only[vop]
 case buildSl s xs=>
  cases hv:evL sl xs with
  | nil=>rfl
  | cons v vs=>
   simp only[buildSl];rw[Zk4 h];intro y hy;rw[← hv] at hy;obtain⟨z,h1,rfl⟩:=ZjJ hy;exact(hx z h1).1
 case load g s a=>rw[Zv2 h (hx a (by simp)).1]
 case store slc s a x=>rw[ZuG h (hx a (by simp)).1 _ _ _ _ (Zv6 (hx x (by simp)).1)]
 case slice s x lo hi=>rw[ZuD h (hx x (by simp)).1]
 case slice0 x hi mx=>unfold slice0;rw[Zlx h (hx x (by simp)).1]
 case slice3 s x lo hi mx=>unfold slice3;rw[Zlx h (hx x (by simp)).1]
 case clear s z x=>rw[ZuE h (hx x (by simp)).1]
 case iaS s x i=>
  congr 1
  funext n
  simp only[Zjj];rw[Zn3 h (hx x (by simp)).1]
 case len x=>rw[Zlx h (hx x (by simp)).1]
 case append s b str flat x y=>
  simp only[ZuV];rw[Zv4 h (hx x (by simp)).1 (hx y (by simp)).1]
 case appDp s b f x y=>exact ZxA h (hx x (by simp)).1 (hx y (by simp)).1 s b base
 case buildDp s n xs=>
  refine ZsN h fun y hy=>?_;obtain⟨z,h1,rfl⟩:=ZjJ hy;exact(hx z h1).1
 case call f as=>
  have hf:=hx f (by simp);cases he:evO sl f<;>simp only[ZdQ]
  rename_i g aa;refine Zv7 h C (M g) base g fun y hy=>?_;rcases Kg.1 hy with hy | hy
  ·obtain⟨z,h1,rfl⟩:=ZjJ hy;exact(hx z (by simp[h1])).1
  ·exact hf.2 g aa he y hy
theorem Ztz {Γ:Gh} {w:World} {I:Nat→Prop} {x:AV} {v:Value} (h:VI Γ w I x v):∀ id∈Zn x,∃ r,Γ id=some r:=by
 intro id aa;cases x<;>simp only[Zn,KA,Ku,Ke,or_false] at aa
 case ptr i off=>subst aa;obtain⟨b,h1,_⟩:=h;exact⟨_,h1⟩
 case prow i sz k off=>subst aa;obtain⟨b,n,c,h1,_⟩:=h;exact⟨_,h1⟩
 case own i=>subst aa;obtain⟨a,n,c,sz,h1,_⟩:=h;exact⟨_,h1⟩
 case ownv i off n=>subst aa;obtain⟨a0,m,c,sz,a,h1,_⟩:=h;exact⟨_,h1⟩
 case bnil i e=>subst aa;obtain⟨b,h1,_⟩:=h;exact⟨_,h1⟩
 case sub i nm=>obtain⟨h0,a,n,c,sz,h1,_⟩:=h;rcases aa with rfl | rfl;exact h0;exact⟨_,h1⟩
theorem Zn4 {Γ:Gh} {w:World} {I:Nat→Prop}:∀ {xs:List AV} {vs:List Value},Zu (VI Γ w I) xs vs→∀ id∈xs.flatMap Zn,∃ r,Γ id=some r
 | [],[],_,id,aa=>by simp at aa
 | [],_ :: _,h,_,_=>h.elim
 | _ :: _,[],h,_,_=>h.elim
 | x :: xs,v :: vs,h,id,aa=>by
  simp only[KK,Kg] at aa;rcases aa with aa | aa
  ·exact Ztz h.1 id aa
  ·exact Zn4 h.2 id aa
theorem Zn5 {Γ:Gh} {w:World} {I:Nat→Prop} {x:AV} {v:Value} (h:ZaU Γ w I x v):∀ id∈ZD x,∃ r,Γ id=some r:=by
 intro id aa;by_cases hs:x.small=true
 ·rw[(YY hs (fun k=>k) []).2.2.2.2.2] at aa;rw[(UJ hs v).2.1] at h;exact Ztz h id aa
 ·cases x with
  | agg cs=>obtain⟨us,_,h2⟩:=h;exact Zn4 h2 id aa
  | clo f cs=>obtain⟨us,_,h2⟩:=h;exact Zn4 h2 id aa
  | tup cs=>exact h.elim
  | d x=>simp[ZD,Zn] at aa
  | _=>exact absurd rfl hs
theorem ZzJ {Γ:Gh} {w:World} {I:Nat→Prop} {x:AV} {v:Value} (h:XZ Γ w I x v):∀ id∈ZD x,∃ r,Γ id=some r:=Zn5 h.rep2
theorem Zq9 {Γ:Gh} {w:World} {I:Nat→Prop}:∀ {xs:List AV} {vs:List Value},Zu (ZaU Γ w I) xs vs→∀ id∈xs.flatMap ZD,∃ r,Γ id=some r
 | [],[],_,id,aa=>by simp at aa
 | [],_ :: _,h,_,_=>h.elim
 | _ :: _,[],h,_,_=>h.elim
 | x :: xs,v :: vs,h,id,aa=>by
  simp only[KK,Kg] at aa;rcases aa with aa | aa
  ·exact Zn5 h.1 id aa
  ·exact Zq9 h.2 id aa
theorem Zv8 {Γ:Gh} {w:World} {I:Nat→Prop} {x:AV} {v:Value} (h:Rep Γ w I x v):∀ id∈ZC x,∃ r,Γ id=some r:=by
 intro id aa;by_cases ht:∃ vs,x=.tup vs
 ·obtain⟨vs,rfl⟩:=ht;obtain⟨us,_,h2⟩:=h;exact Zq9 h2 id aa
 ·have e:Rep Γ w I x v=ZaU Γ w I x v:=by cases x<;>first | rfl | exact absurd ⟨_,rfl⟩ ht
  rw[e] at h;refine Zn5 h id ?_;cases x<;>first | exact aa | exact absurd ⟨_,rfl⟩ ht
theorem Zra {Γ:Gh} {w:World} {I:Nat→Prop}:∀ {xs:List AV} {vs:List Value},Zu (XZ Γ w I) xs vs→∀ id∈xs.flatMap ZD,∃ r,Γ id=some r
 | [],[],_,id,aa=>by simp at aa
 | [],_ :: _,h,_,_=>h.elim
 | _ :: _,[],h,_,_=>h.elim
 | x :: xs,v :: vs,h,id,aa=>by
  simp only[KK,Kg] at aa;rcases aa with aa | aa
  ·exact ZzJ h.1 id aa
  ·exact Zra h.2 id aa
theorem ZBa {Γ:Gh} {w:World} {I:Nat→Prop} {x:AV} {v:Value} (hn:∀ id,¬U id→Γ id=none) (h:Rep Γ w I x v):ZmN U x:=by
 have ab:∀ id,(∃ r,Γ id=some r)→U id:=fun id ⟨r,hr⟩=>Classical.byContradiction fun hu=>by rw[hn id hu] at hr;cases hr
 refine⟨fun id aa=>ab id (Zv8 h id aa),fun f ad hx c hc=>?_⟩;subst hx;obtain⟨us,_,h2⟩:=h;obtain⟨i,hi⟩:=K0 hc;obtain⟨u,_,h3⟩:=h2.get i c hi;exact fun id aa=>ab id (Zv8 h3.rep2.rep id aa)
end
section
variable {P:Program} {nt:Nat} {F A I:Nat→Prop} {Γ:Gh} {U:Nat→Prop} {sl:Sl} {hp:Hp} {a:Act} {w:World}
theorem Sim.good (h:Sim nt F A I Γ U sl hp a w) (t:Nat):ZmN U (gs sl t):=ZBa h.names (h.slots t)
theorem Sim.agree (h:Sim nt F A I Γ U sl hp a w) {hp' : Hp} (hs:∀ id,U id→lkp hp id=lkp hp' id):Xn U hp hp':=by
 refine⟨hs,fun id o hu hl i hi=>?_⟩;have ho:=h.objs id o hl;cases o with
 | box cs=>
  obtain⟨b,cur,e,_,_,_,_,h5,_⟩:=ho;obtain⟨r,hr⟩:=Zra h5 i hi;exact Classical.byContradiction fun hu=>by rw[h.names i hu] at hr;cases hr
 | row sz xs ex fz=>simp[ZbY] at hi
 | deep sz ns xs lk=>simp[ZbY] at hi
theorem Oper.wp_ex {o:Oper} {a:Act} {w:World} {K:Act→World→Prop} (h:o.wp P a w K (fun _ _ _=>False)):∃ a' w',K a' w':=by
 unfold Oper.wp at h;generalize (execOp a.eval o).run P w=r at h;cases r with
 | ok n w' =>
  cases n<;>simp only[Oper.upon] at h
  case value v=>exact⟨_,_,h⟩
  case skip=>exact⟨_,_,h⟩
  case defer d=>exact⟨_,_,h⟩
  case enter f args=>
   obtain⟨e,aa,fr,he,_⟩:=h [];cases e with
   | returned v=>exact⟨_,_,he⟩
   | panicked c=>exact he.elim
   | outgrown=>obtain⟨a,w,hf⟩:=he;exact hf.elim
  case row row args=>
   obtain⟨v,aa,he,_⟩:=h default [];exact⟨_,_,he⟩
 | halt x w'=>cases x<;>simp only[Oper.upon] at h
end
end Go.Abs
set_option linter.unusedVariables false
set_option linter.unusedSimpArgs false
namespace Go.Abs
open Go
def X5 (s s' : Sl×Hp):Prop:=(∀ t,gs s.1 t=gs s'.1 t)∧∀ id,lkp s.2 id=lkp s'.2 id
theorem X5.refl (s:Sl×Hp):X5 s s:=⟨fun _=>rfl,fun _=>rfl⟩
theorem X5.symm {s s' : Sl×Hp} (h:X5 s s'):X5 s' s:=⟨fun t=>(h.1 t).symm,fun id=>(h.2 id).symm⟩
theorem X5.trans {a b c:Sl×Hp} (h:X5 a b) (k:X5 b c):X5 a c:=⟨fun t=>(h.1 t).trans (k.1 t),fun id=>(h.2 id).trans (k.2 id)⟩
theorem ZcL:∀ (l:Hp) {hp hp' : Hp},(∀ id,lkp hp id=lkp hp' id)→∀ id,lkp (Zh hp l) id=lkp (Zh hp' l) id
 | [],_,_,h=>h
 | (k,o) :: r,hp,hp',h=>by
  simp only[Zh];exact ZcL r fun id=>by rw[Qo,Qo,h id]
theorem ZmO:∀ (l:List Nat) {hp hp' : Hp},(∀ id,lkp hp id=lkp hp' id)→∀ id,lkp (Qu hp l) id=lkp (Qu hp' l) id
 | [],_,_,h=>h
 | d :: r,hp,hp',h=>by
  simp only[Qu];exact ZmO r fun id=>by rw[ZjZ,ZjZ,h id]
theorem ZBb (ce:Zd) (dst:Option Nat) {s s' : Sl×Hp} (h:X5 s s'):X5 (ce.on dst s.1 s.2) (ce.on dst s'.1 s'.2):=by
 refine⟨fun t=>?_,fun id=>?_⟩
 ·show gs (Zt (Xi ce.gone s.1) dst ce.eff.val) t=gs (Zt (Xi ce.gone s'.1) dst ce.eff.val) t;rw[QB,QB,QX,QX,h.1 t]
 ·exact ZcL _ (ZcL _ (ZmO _ fun id=>by rw[Qe,Qe,VS,VS,h.2 id])) id
noncomputable def ZR (C:Orc) (M:Zp) (nx i:Nat) (t:Bool) (o:CO) (s:Sl×Hp):Option (Sl×Hp):=
 bnd (Z7 s.1 o.guard) fun b=>if b then Y3 (nx+64*i) o.dst s.1 s.2 (WY C M nx i t o.op s.1 s.2) else some (Zt s.1 o.dst (.tup []),s.2)
noncomputable def ZJ (C:Orc) (M:Zp) (os:List CO) (nx i:Nat) (s:Sl×Hp):Option (Sl×Hp):=bnd os[i]? fun o=>ZR C M nx i (Z1 os i) o s
noncomputable def runL (C:Orc) (M:Zp) (os:List CO) (nx:Nat):List Nat→Sl×Hp→Option (Sl×Hp)
 | [],s=>some s
 | i :: l,s=>bnd (ZJ C M os nx i s) (runL C M os nx l)
theorem Zly (C:Orc) (M:Zp) (os:List CO) (nx:Nat):∀ (aa:List CO) (i:Nat) (t:Bool) (sl:Sl) (hp:Hp),os.drop i=aa →
  Jr C M nx i t aa sl hp=runL C M os nx (List.range' i aa.length) (sl,hp)
 | [],i,t,sl,hp,_=>rfl
 | o :: aa,i,t,sl,hp,hd=>by
  have h1:os[i]?=some o:=by
   have:(os.drop i)[0]?=some o:=by rw[hd];rfl
   rw[Ll] at this;simpa using this
  have h2:os.drop (i+1)=aa:=by rw[← List.drop_drop,hd];rfl
  have h4:CO.starts o=Z1 os i:=by simp only[Z1,h1]
  simp only[Jr,Ko,List.range'_succ,runL,ZJ,h1,Zg,ZR,h4];cases hw:Z7 sl o.guard with
  | none=>rfl
  | some b=>
   cases b with
   | true=>
    simp only[Zg,Km];cases hs:Y3 (nx+64*i) o.dst sl hp (WY C M nx i (Z1 os i) o.op sl hp) with
    | none=>rfl
    | some r=>
     simp only[Zg];exact Zly C M os nx aa (i+1) t r.1 r.2 h2
   | false=>
    simp only[Zg,Ka,Kq];exact Zly C M os nx aa (i+1) t _ _ h2
theorem ZxD {hp hp' : Hp} (h:∀ id,lkp hp id=lkp hp' id):Xn (fun _=>True) hp hp':=⟨fun id _=>h id,fun _ _ _ _ _ _=>trivial⟩
theorem ZzK (C:Orc) (M:Zp) {s s' : Sl×Hp} (h:X5 s s') (base:Nat) (c:COp):vop C M s.1 s.2 base c=vop C M s'.1 s'.2 base c:=by
 have h1:∀ x:Opd,evO s.1 x=evO s'.1 x:=fun x=>by cases x<;>simp only[evO];exact h.1 _
 rw[Xk C M s.2 base (sl:=s.1) (sl':=s'.1) fun x _=>h1 x];exact Zbj (ZxD h.2) C M base fun x _=>⟨fun _ _=>trivial,fun _ _ _ _ _ _ _=>trivial⟩
theorem Zv9 {s s' : Sl×Hp} (h:X5 s s') (g:Option (Nat×Bool)):Z7 s.1 g=Z7 s'.1 g:=by
 cases g with
 | none=>rfl
 | some q=>simp only[Z7,h.1]
theorem Zwa {C:Orc} {M:Zp} {os:List CO} {nx i:Nat} {s s' r:Sl×Hp} (h:X5 s s') (hr:ZJ C M os nx i s=some r):∃ r',ZJ C M os nx i s'=some r'∧X5 r r':=by
 unfold ZJ at hr ⊢;obtain⟨o,h1,hr⟩:=Za hr;rw[h1,Zg];unfold ZR at hr ⊢;obtain⟨b,h2,hr⟩:=Za hr;rw[← Zv9 h,h2,Zg];cases b with
 | true=>
  simp only[Km] at hr ⊢;obtain⟨ce,h3,h4,rfl⟩:=Q8 hr;have h5:WY C M nx i (Z1 os i) o.op s'.1 s'.2=some ce:=by
   rw[← h3];unfold WY;rw[ZzK C M h]
  refine⟨ce.on o.dst s'.1 s'.2,?_,ZBb ce o.dst h⟩;unfold Y3;rw[h5,Zg,Kh h4]
 | false=>
  simp only[Ka,Kq] at hr ⊢;cases hr;refine⟨_,rfl,fun t=>?_,h.2⟩;show gs (Zt s.1 o.dst (.tup [])) t=gs (Zt s'.1 o.dst (.tup [])) t;rw[QB,QB,h.1 t]
theorem Zrb {C:Orc} {M:Zp} {os:List CO} {nx:Nat}:∀ {l:List Nat} {s s' r:Sl×Hp},X5 s s'→runL C M os nx l s=some r→∃ r',runL C M os nx l s'=some r'∧X5 r r'
 | [],s,s',r,h,hr=>by simp only[runL] at hr ⊢;cases hr;exact⟨s',rfl,h⟩
 | i :: l,s,s',r,h,hr=>by
  simp only[runL] at hr ⊢;obtain⟨s1,h1,hr⟩:=Za hr;obtain⟨aa,h2,h3⟩:=Zwa h h1;rw[h2,Zg];exact Zrb h3 hr
theorem QE {sl:Sl} {d:Option Nat} {v:AV} {o:CO} (h:QV d (looks o)=true):Z7 (Zt sl d v) o.guard=Z7 sl o.guard:=by
 cases hg:o.guard with
 | none=>rfl
 | some q=>
  simp only[Z7];rw[QB,Kd];intro e;rw[e] at h;simp[QV,looks,hg,ZrR] at h
theorem Uj {sl:Sl} {d:Option Nat} {v:AV} {o:CO} (h:QV d (looks o)=true):∀ x∈ZM o.op,evO (Zt sl d v) x=evO sl x:=by
 intro x hx;cases x with
 | t n=>
  simp only[evO];rw[QB,Kd];intro e;rw[e] at h;simp only[QV,looks,K1,KV,K4] at h;exact h (Kg.2 (.inl (Ky.2 ⟨_,hx,by simp[Zcj]⟩)))
 | _=>rfl
theorem Zlz {C:Orc} {M:Zp} {nx i:Nat} {o:CO} {s s' : Sl×Hp} (h:ZR C M nx i false o s=some s') :
  ∃ v adds,s'=(Zt s.1 o.dst v,Zh s.2 adds)∧(∀ k x,(k,x)∈adds→nx+64*i≤k∧k<nx+64*i+64) ∧
   ∀ aa : Sl×Hp,Z7 aa.1 o.guard=Z7 s.1 o.guard→vop C M aa.1 aa.2 (nx+64*i) o.op=vop C M s.1 s.2 (nx+64*i) o.op→ZR C M nx i false o aa=some (Zt aa.1 o.dst v,Zh aa.2 adds):=by
 unfold ZR at h;obtain⟨b,hw,h⟩:=Za h;cases b with
 | true=>
  simp only[Km] at h;obtain⟨ce,h1,h2,rfl⟩:=Q8 h;unfold WY at h1;simp only[Ka,Kq] at h1;have ad:=h1;unfold ZdY at h1;obtain⟨c,h3,h1⟩:=Za h1;unfold Zg6 at h1;split at h1
  ·rename_i e1 e2 e3 e4;cases h1;have ab:∀ s:Sl×Hp,ce.on o.dst s.1 s.2=(Zt s.1 o.dst ce.eff.val,Zh s.2 ce.eff.adds):=by
    intro s;unfold Zd.on Eff.on;rw[e1,e2,e3,e4];rfl
   refine⟨ce.eff.val,ce.eff.adds,ab s,UN h2,fun aa g1 g2=>?_⟩;unfold ZR;rw[g1,hw,Zg];simp only[Km];unfold Y3 WY;simp only[Ka,Kq];rw[g2,ad,Zg,Kh h2,ab]
  ·cases h1
 | false=>
  simp only[Ka,Kq] at h;cases h;refine⟨.tup [],[],rfl,fun k x hk=>by simp at hk,fun aa g1 g2=>?_⟩;unfold ZR;rw[g1,hw,Zg];rfl
theorem ZaM {U:Nat→Prop} {a:AV} (h:Vm (.v a)=true):ZmN U a:=by
 simp only[Vm,Kf,List.isEmpty_iff,K1] at h;refine⟨fun id aa=>by rw[h.1] at aa;simp at aa,fun f ab hx=>?_⟩;subst hx;simp[Ztm] at h
section
variable {P:Program} {nt:Nat}
def Zk6 (nt:Nat) (s:Sl×Hp) (U:Nat→Prop):Prop:=∃ F A I Γ a w,Sim nt F A I Γ U s.1 s.2 a w
theorem Uk {U:Nat→Prop} {base:Nat} (hf:Xp U base) {adds:Hp} (ha:∀ k x,(k,x)∈adds→base≤k∧k<base+64) (hp:Hp):∀ id,U id→lkp hp id=lkp (Zh hp adds) id:=by
 intro id hu;rw[Zy];intro o ho;obtain⟨h1,h2⟩:=ha id o ho;exact hf id h1 h2 hu
theorem Jm {sl:Sl} {d e:Option Nat} (h:Zbp d e=true) (u v:AV) (t:Nat):gs (Zt (Zt sl d u) e v) t=gs (Zt (Zt sl e v) d u) t:=by
 simp only[QB];by_cases h1:e=some t
 ·by_cases h2:d=some t
  ·rw[h1,h2] at h;simp[Zbp] at h
  ·simp[h1,h2]
 ·simp[h1]
theorem ZBc {adds aa : Hp} {b b' : Nat} (ha:∀ k x,(k,x)∈adds→b≤k∧k<b+64) (ad : ∀ k x,(k,x)∈aa→b'≤k∧k<b'+64) (hd:b+64≤b'∨b'+64≤b) (hp:Hp) (id:Nat) :
  lkp (Zh (Zh hp adds) aa) id=lkp (Zh (Zh hp aa) adds) id:=by
 have ab:∀ (l:Hp) (hp hp' : Hp),(∀ o,(id,o)∉l)→lkp (Zh hp l) id=lkp hp id:=fun l hp _ h=>Zy l hp id h;by_cases h1:∃ o,(id,o)∈adds
 ·have h2:∀ o,(id,o)∉aa:=fun o ho=>by
   obtain⟨o',ae⟩:=h1;have:=ha id o' ae;have:=ad id o ho;omega
  rw[Zy aa _ id h2];have ab:∀ (l:Hp) (hp hp' : Hp),lkp hp id=lkp hp' id→lkp (Zh hp l) id=lkp (Zh hp' l) id:=by
   intro l
   induction l with
   | nil=>intro hp hp' h;exact h
   | cons q r ih=>
    intro hp hp' h;obtain⟨k,x⟩:=q;simp only[Zh];exact ih _ _ (by rw[Qo,Qo,h])
  exact ab adds _ _ (Zy aa hp id h2).symm
 ·have h2:∀ o,(id,o)∉adds:=fun o ho=>h1 ⟨o,ho⟩;rw[Zy adds _ id h2];have ab:∀ (l:Hp) (hp hp' : Hp),lkp hp id=lkp hp' id→lkp (Zh hp l) id=lkp (Zh hp' l) id:=by
   intro l
   induction l with
   | nil=>intro hp hp' h;exact h
   | cons q r ih=>
    intro hp hp' h;obtain⟨k,x⟩:=q;simp only[Zh];exact ih _ _ (by rw[Qo,Qo,h])
  exact ab aa _ _ (Zy adds hp id h2)
theorem Zrc {C:Orc} {M:Zp} {os:List CO} {nx i j:Nat} {oi oj:CO} (an:os[i]?=some oi) (ab:os[j]?=some oj) (ae:Z1 os j=false) (ao:i≠j) (af:XM oj oi=true)
  (ad:∀ (k:Nat) (o:CO),os[k]?=some o→∀ x∈ZM o.op,Vm x=true) {s s1 s2:Sl×Hp} {U:Nat→Prop} (hs:Zk6 nt s U) (ap:Xp U (nx+64*i)) (aq:Xp U (nx+64*j))
  (h1:ZJ C M os nx j s=some s1) (h2:ZR C M nx i false oi s1=some s2):∃ t1,ZR C M nx i false oi s=some t1∧∃ t2,ZJ C M os nx j t1=some t2∧X5 t2 s2:=by
 obtain⟨F,A,I,Γ,a,w,aa⟩:=hs;simp only[XM,Kf] at af;obtain⟨⟨ag,ar⟩,ah⟩:=af;have good:∀ (k:Nat) (o:CO),os[k]?=some o→∀ x∈ZM o.op,ZmN U (evO s.1 x):=by
  intro k o ho x hx;cases x with
  | t n=>exact aa.good n
  | v y=>exact ZaM (ad k o ho _ hx)
  | f n=>exact⟨fun id au=>by simp[evO,ZC,ZD] at au,fun f av h c hc=>by cases h;simp at hc⟩
 simp only[ZJ,ab,Zg,ae] at h1;obtain⟨vj,aj,rfl,ak,aw⟩:=Zlz h1;obtain⟨vi,ai,rfl,al,am⟩:=Zlz h2;dsimp only at am;have e1:ZR C M nx i false oi s=some (Zt s.1 oi.dst vi,Zh s.2 ai):=by
  refine am s (QE ag).symm ?_;rw[Xk C M (Zh s.2 aj) (nx+64*i) (Uj (o:=oi) ag)];exact Zbj (aa.agree (Uk aq ak s.2)) C M _ (good i oi an)
 refine⟨_,e1,?_⟩;have e2:ZR C M nx j false oj (Zt s.1 oi.dst vi,Zh s.2 ai)=some (Zt (Zt s.1 oi.dst vi) oj.dst vj,Zh (Zh s.2 ai) aj):=by
  refine aw (Zt s.1 oi.dst vi,Zh s.2 ai) (QE ah) ?_;rw[Xk C M (Zh s.2 ai) (nx+64*j) (Uj (o:=oj) ah)];exact(Zbj (aa.agree (Uk ap al s.2)) C M _ (good j oj ab)).symm
 refine⟨_,by simp only[ZJ,ab,Zg,ae];exact e2,fun t=>?_,fun id=>?_⟩
 ·exact(Jm ar vj vi t).symm
 ·refine ZBc al ak ?_ s.2 id;rcases LC ao with h | h
  ·left;omega
  ·right;omega
theorem ZzL {C:Orc} {M:Zp} {os:List CO} {nx i j:Nat} {oi oj:CO} (ab:os[i]?=some oi) (ad:os[j]?=some oj) (ae:Z1 os i=false) (af:Z1 os j=false) (ag:i≠j) (ah:XM oj oi=true)
  (aa:∀ (k:Nat) (o:CO),os[k]?=some o→∀ x∈ZM o.op,Vm x=true) {s s1 s2:Sl×Hp} {U:Nat→Prop} (hs:Zk6 nt s U) (ai:Xp U (nx+64*i)) (aj:Xp U (nx+64*j))
  (h1:ZJ C M os nx j s=some s1) (h2:ZJ C M os nx i s1=some s2):∃ t1,ZJ C M os nx i s=some t1∧∃ t2,ZJ C M os nx j t1=some t2∧X5 t2 s2:=by
 have e:∀ s:Sl×Hp,ZJ C M os nx i s=ZR C M nx i false oi s:=fun s=>by simp only[ZJ,ab,Zg,ae]
 rw[e] at h2;simp only[e];exact Zrc ab ad af ag ah aa hs ai aj h1 h2
end
end Go.Abs
