/- Own text. -/
import Derived.Test.YtcefneehgbiebaaGreatDoorAbsDraw
import Derived.Test.YtcefneehgbiebaaGreatDoorAbsSound3
set_option linter.unusedVariables false
set_option linter.unusedSimpArgs false
namespace Go.Abs
open Go
section
variable {U:Nat→Prop} {hp hp' : Hp}
def Zjj (U:Nat→Prop) (x:AV):Prop:=InU U x∧∀ f caps,x=.clo f caps→∀ c∈caps,InU U c
theorem Zhs {sl:Sl}:∀ {xs:List Opd} {v:AV},v∈evL sl xs→∃ x∈xs,v=evO sl x
 | [],v,h=>by simp[evL] at h
 | x :: xs,v,h=>by
  simp only[evL] at h;rcases Kf.1 h with rfl | h
  ·exact⟨x,by simp,rfl⟩
  ·obtain⟨y,h1,h2⟩:=Zhs h;exact⟨y,Kz _ h1,h2⟩
theorem Zay (h:Xh U hp hp') (C:Orc) (M:Zn) {sl:Sl} (base:Nat) {c:COp} (hx:∀ x∈ZI c,Zjj U (evO sl x)):vop C M sl hp base c=vop C M sl hp' base c:=by
 cases c<;>simp only[ZI] at hx<;>simp only[vop]
 case buildSl s xs=>
  cases hv:evL sl xs with
  | nil=>rfl
  | cons v vs=>
   simp only[buildSl];rw[Zh5 h];intro y hy;rw[← hv] at hy;obtain⟨z,h1,rfl⟩:=Zhs hy;exact(hx z h1).1
 case load g s a=>rw[Zud h (hx a (by simp)).1]
 case store slc s a x=>rw[ZsM h (hx a (by simp)).1 _ _ _ _ (Zuh (hx x (by simp)).1)]
 case slice s x lo hi=>rw[ZsJ h (hx x (by simp)).1]
 case slice0 x hi mx=>unfold slice0;rw[Ziv h (hx x (by simp)).1]
 case slice3 s x lo hi mx=>unfold slice3;rw[Ziv h (hx x (by simp)).1]
 case clear s z x=>rw[ZsK h (hx x (by simp)).1]
 case iaS s x i=>
  congr 1
  funext n
  simp only[ZgD];rw[Zky h (hx x (by simp)).1]
 case len x=>rw[Ziv h (hx x (by simp)).1]
 case append s b str flat x y=>
  simp only[Zs2];rw[Zuf h (hx x (by simp)).1 (hx y (by simp)).1]
 case appDp s b f x y=>exact ZvV h (hx x (by simp)).1 (hx y (by simp)).1 s b base
 case buildDp s n xs=>
  refine Zp9 h fun y hy=>?_;obtain⟨z,h1,rfl⟩:=Zhs hy;exact(hx z h1).1
 case call f as=>
  have hf:=hx f (by simp);cases he:evO sl f<;>simp only[ZcB]
  rename_i g aa;refine Zui h C (M g) base g fun y hy=>?_;rcases Kg.1 hy with hy | hy
  ·obtain⟨z,h1,rfl⟩:=Zhs hy;exact(hx z (by simp[h1])).1
  ·exact hf.2 g aa he y hy
theorem Zry {Γ:Gh} {w:World} {I:Nat→Prop} {x:AV} {v:Value} (h:Y9 Γ w I x v):∀ id∈Zm x,∃ r,Γ id=some r:=by
 intro id aa;cases x<;>simp only[Zm,KA,Ky,Kf,or_false] at aa
 case ptr i off=>subst aa;obtain⟨b,h1,_⟩:=h;exact⟨_,h1⟩
 case prow i sz k off=>subst aa;obtain⟨b,n,c,h1,_⟩:=h;exact⟨_,h1⟩
 case own i=>subst aa;obtain⟨a,n,c,sz,h1,_⟩:=h;exact⟨_,h1⟩
 case ownv i off n=>subst aa;obtain⟨a0,m,c,sz,a,h1,_⟩:=h;exact⟨_,h1⟩
 case bnil i e=>subst aa;obtain⟨b,h1,_⟩:=h;exact⟨_,h1⟩
 case sub i nm=>obtain⟨h0,a,n,c,sz,h1,_⟩:=h;rcases aa with rfl | rfl;exact h0;exact⟨_,h1⟩
theorem Zkz {Γ:Gh} {w:World} {I:Nat→Prop}:∀ {xs:List AV} {vs:List Value},Zt (Y9 Γ w I) xs vs→∀ id∈xs.flatMap Zm,∃ r,Γ id=some r
 | [],[],_,id,aa=>by simp at aa
 | [],_ :: _,h,_,_=>h.elim
 | _ :: _,[],h,_,_=>h.elim
 | x :: xs,v :: vs,h,id,aa=>by
  simp only[KG,Kg] at aa;rcases aa with aa | aa
  ·exact Zry h.1 id aa
  ·exact Zkz h.2 id aa
theorem ZkA {Γ:Gh} {w:World} {I:Nat→Prop} {x:AV} {v:Value} (h:JI Γ w I x v):∀ id∈ZC x,∃ r,Γ id=some r:=by
 intro id aa;by_cases hs:x.small=true
 ·rw[(YD hs (fun k=>k) []).2.2.2.2.2] at aa;rw[(W0 hs v).2.1] at h;exact Zry h id aa
 ·cases x with
  | agg cs=>obtain⟨us,_,h2⟩:=h;exact Zkz h2 id aa
  | clo f cs=>obtain⟨us,_,h2⟩:=h;exact Zkz h2 id aa
  | tup cs=>exact h.elim
  | d x=>simp[ZC,Zm] at aa
  | _=>exact absurd rfl hs
theorem Zx7 {Γ:Gh} {w:World} {I:Nat→Prop} {x:AV} {v:Value} (h:XJ Γ w I x v):∀ id∈ZC x,∃ r,Γ id=some r:=ZkA h.rep2
theorem ZnJ {Γ:Gh} {w:World} {I:Nat→Prop}:∀ {xs:List AV} {vs:List Value},Zt (JI Γ w I) xs vs→∀ id∈xs.flatMap ZC,∃ r,Γ id=some r
 | [],[],_,id,aa=>by simp at aa
 | [],_ :: _,h,_,_=>h.elim
 | _ :: _,[],h,_,_=>h.elim
 | x :: xs,v :: vs,h,id,aa=>by
  simp only[KG,Kg] at aa;rcases aa with aa | aa
  ·exact ZkA h.1 id aa
  ·exact ZnJ h.2 id aa
theorem Zuj {Γ:Gh} {w:World} {I:Nat→Prop} {x:AV} {v:Value} (h:Rep Γ w I x v):∀ id∈ZB x,∃ r,Γ id=some r:=by
 intro id aa;by_cases ht:∃ vs,x=.tup vs
 ·obtain⟨vs,rfl⟩:=ht;obtain⟨us,_,h2⟩:=h;exact ZnJ h2 id aa
 ·have e:Rep Γ w I x v=JI Γ w I x v:=by cases x<;>first | rfl | exact absurd ⟨_,rfl⟩ ht
  rw[e] at h;refine ZkA h id ?_;cases x<;>first | exact aa | exact absurd ⟨_,rfl⟩ ht
theorem ZnK {Γ:Gh} {w:World} {I:Nat→Prop}:∀ {xs:List AV} {vs:List Value},Zt (XJ Γ w I) xs vs→∀ id∈xs.flatMap ZC,∃ r,Γ id=some r
 | [],[],_,id,aa=>by simp at aa
 | [],_ :: _,h,_,_=>h.elim
 | _ :: _,[],h,_,_=>h.elim
 | x :: xs,v :: vs,h,id,aa=>by
  simp only[KG,Kg] at aa;rcases aa with aa | aa
  ·exact Zx7 h.1 id aa
  ·exact ZnK h.2 id aa
theorem Zzu {Γ:Gh} {w:World} {I:Nat→Prop} {x:AV} {v:Value} (hn:∀ id,¬U id→Γ id=none) (h:Rep Γ w I x v):Zjj U x:=by
 have ab:∀ id,(∃ r,Γ id=some r)→U id:=fun id ⟨r,hr⟩=>Classical.byContradiction fun hu=>by rw[hn id hu] at hr;cases hr
 refine⟨fun id aa=>ab id (Zuj h id aa),fun f ad hx c hc=>?_⟩;subst hx;obtain⟨us,_,h2⟩:=h;obtain⟨i,hi⟩:=KV hc;obtain⟨u,_,h3⟩:=h2.get i c hi;exact fun id aa=>ab id (Zuj h3.rep2.rep id aa)
end
section
variable {P:Program} {nt:Nat} {F A I:Nat→Prop} {Γ:Gh} {U:Nat→Prop} {sl:Sl} {hp:Hp} {a:Act} {w:World}
theorem Sim.good (h:Sim nt F A I Γ U sl hp a w) (t:Nat):Zjj U (gs sl t):=Zzu h.names (h.slots t)
theorem Sim.agree (h:Sim nt F A I Γ U sl hp a w) {hp' : Hp} (hs:∀ id,U id→lkp hp id=lkp hp' id):Xh U hp hp':=by
 refine⟨hs,fun id o hu hl i hi=>?_⟩;have ho:=h.objs id o hl;cases o with
 | box cs=>
  obtain⟨b,cur,e,_,_,_,_,h5,_⟩:=ho;obtain⟨r,hr⟩:=ZnK h5 i hi;exact Classical.byContradiction fun hu=>by rw[h.names i hu] at hr;cases hr
 | row sz xs ex fz=>simp[Zbe] at hi
 | deep sz ns xs lk=>simp[Zbe] at hi
theorem Oper.wp_ex {o:Oper} {a:Act} {w:World} {K:Act→World→Prop} (h:o.wp P a w K (fun _ _ _=>False)):∃ a' w',K a' w':=by
 unfold Oper.wp at h;generalize (execOp a.eval o).run P w=r at h;cases r with
 | ok n w' =>
  cases n<;>simp only[Oper.upon] at h
  case value v=>exact⟨_,_,h⟩
  case skip=>exact⟨_,_,h⟩
  case defer d=>exact⟨_,_,h⟩
  case enter f args=>
   obtain⟨e,aa,fr,he,_⟩:=h [];cases e with
   | returned v=>exact⟨_,_,he⟩
   | panicked c=>exact he.elim
   | outgrown=>obtain⟨a,w,hf⟩:=he;exact hf.elim
  case row row args=>
   obtain⟨v,aa,he,_⟩:=h default [];exact⟨_,_,he⟩
 | halt x w'=>cases x<;>simp only[Oper.upon] at h
end
end Go.Abs
set_option linter.unusedVariables false
set_option linter.unusedSimpArgs false
namespace Go.Abs
open Go
def XW (s s' : Sl×Hp):Prop:=(∀ t,gs s.1 t=gs s'.1 t)∧∀ id,lkp s.2 id=lkp s'.2 id
theorem XW.refl (s:Sl×Hp):XW s s:=⟨fun _=>rfl,fun _=>rfl⟩
theorem XW.symm {s s' : Sl×Hp} (h:XW s s'):XW s' s:=⟨fun t=>(h.1 t).symm,fun id=>(h.2 id).symm⟩
theorem XW.trans {a b c:Sl×Hp} (h:XW a b) (k:XW b c):XW a c:=⟨fun t=>(h.1 t).trans (k.1 t),fun id=>(h.2 id).trans (k.2 id)⟩
theorem ZbX:∀ (l:Hp) {hp hp' : Hp},(∀ id,lkp hp id=lkp hp' id)→∀ id,lkp (Zh hp l) id=lkp (Zh hp' l) id
 | [],_,_,h=>h
 | (k,o) :: r,hp,hp',h=>by
  simp only[Zh];exact ZbX r fun id=>by rw[Qh,Qh,h id]
theorem Zjk:∀ (l:List Nat) {hp hp' : Hp},(∀ id,lkp hp id=lkp hp' id)→∀ id,lkp (Qm hp l) id=lkp (Qm hp' l) id
 | [],_,_,h=>h
 | d :: r,hp,hp',h=>by
  simp only[Qm];exact Zjk r fun id=>by rw[ZhI,ZhI,h id]
theorem Zzv (ce:Zd) (dst:Option Nat) {s s' : Sl×Hp} (h:XW s s'):XW (ce.on dst s.1 s.2) (ce.on dst s'.1 s'.2):=by
 refine⟨fun t=>?_,fun id=>?_⟩
 ·show gs (Zp (Xa ce.gone s.1) dst ce.eff.val) t=gs (Zp (Xa ce.gone s'.1) dst ce.eff.val) t;rw[Qw,Qw,QQ,QQ,h.1 t]
 ·exact ZbX _ (ZbX _ (Zjk _ fun id=>by rw[Z8,Z8,Vv,Vv,h.2 id])) id
noncomputable def ZM (C:Orc) (M:Zn) (nx i:Nat) (t:Bool) (o:CO) (s:Sl×Hp):Option (Sl×Hp):=
 bnd (Z3 s.1 o.guard) fun b=>if b then YH (nx+64*i) o.dst s.1 s.2 (WA C M nx i t o.op s.1 s.2) else some (Zp s.1 o.dst (.tup []),s.2)
noncomputable def ZG (C:Orc) (M:Zn) (os:List CO) (nx i:Nat) (s:Sl×Hp):Option (Sl×Hp):=bnd os[i]? fun o=>ZM C M nx i (ZZ os i) o s
noncomputable def Ze6 (C:Orc) (M:Zn) (os:List CO) (nx:Nat):List Nat→Sl×Hp→Option (Sl×Hp)
 | [],s=>some s
 | i :: l,s=>bnd (ZG C M os nx i s) (Ze6 C M os nx l)
theorem Ziw (C:Orc) (M:Zn) (os:List CO) (nx:Nat):∀ (aa:List CO) (i:Nat) (t:Bool) (sl:Sl) (hp:Hp),os.drop i=aa →
  UB C M nx i t aa sl hp=Ze6 C M os nx (List.range' i aa.length) (sl,hp)
 | [],i,t,sl,hp,_=>rfl
 | o :: aa,i,t,sl,hp,hd=>by
  have h1:os[i]?=some o:=by
   have:(os.drop i)[0]?=some o:=by rw[hd];rfl
   rw[Lf] at this;simpa using this
  have h2:os.drop (i+1)=aa:=by rw[← List.drop_drop,hd];rfl
  have h4:CO.starts o=ZZ os i:=by simp only[ZZ,h1]
  simp only[UB,Ks,List.range'_succ,Ze6,ZG,h1,Zg,ZM,h4];cases hw:Z3 sl o.guard with
  | none=>rfl
  | some b=>
   cases b with
   | true=>
    simp only[Zg,Km];cases hs:YH (nx+64*i) o.dst sl hp (WA C M nx i (ZZ os i) o.op sl hp) with
    | none=>rfl
    | some r=>
     simp only[Zg];exact Ziw C M os nx aa (i+1) t r.1 r.2 h2
   | false=>
    simp only[Zg,Ka,Ko];exact Ziw C M os nx aa (i+1) t _ _ h2
theorem ZvY {hp hp' : Hp} (h:∀ id,lkp hp id=lkp hp' id):Xh (fun _=>True) hp hp':=⟨fun id _=>h id,fun _ _ _ _ _ _=>trivial⟩
theorem Zx8 (C:Orc) (M:Zn) {s s' : Sl×Hp} (h:XW s s') (base:Nat) (c:COp):vop C M s.1 s.2 base c=vop C M s'.1 s'.2 base c:=by
 have h1:∀ x:Opd,evO s.1 x=evO s'.1 x:=fun x=>by cases x<;>simp only[evO];exact h.1 _
 rw[Xg C M s.2 base (sl:=s.1) (sl':=s'.1) fun x _=>h1 x];exact Zay (ZvY h.2) C M base fun x _=>⟨fun _ _=>trivial,fun _ _ _ _ _ _ _=>trivial⟩
theorem Zuk {s s' : Sl×Hp} (h:XW s s') (g:Option (Nat×Bool)):Z3 s.1 g=Z3 s'.1 g:=by
 cases g with
 | none=>rfl
 | some q=>simp only[Z3,h.1]
theorem Zul {C:Orc} {M:Zn} {os:List CO} {nx i:Nat} {s s' r:Sl×Hp} (h:XW s s') (hr:ZG C M os nx i s=some r):∃ r',ZG C M os nx i s'=some r'∧XW r r':=by
 unfold ZG at hr ⊢;obtain⟨o,h1,hr⟩:=Za hr;rw[h1,Zg];unfold ZM at hr ⊢;obtain⟨b,h2,hr⟩:=Za hr;rw[← Zuk h,h2,Zg];cases b with
 | true=>
  simp only[Km] at hr ⊢;obtain⟨ce,h3,h4,rfl⟩:=Q3 hr;have h5:WA C M nx i (ZZ os i) o.op s'.1 s'.2=some ce:=by
   rw[← h3];unfold WA;rw[Zx8 C M h]
  refine⟨ce.on o.dst s'.1 s'.2,?_,Zzv ce o.dst h⟩;unfold YH;rw[h5,Zg,Ki h4]
 | false=>
  simp only[Ka,Ko] at hr ⊢;cases hr;refine⟨_,rfl,fun t=>?_,h.2⟩;show gs (Zp s.1 o.dst (.tup [])) t=gs (Zp s'.1 o.dst (.tup [])) t;rw[Qw,Qw,h.1 t]
theorem ZnL {C:Orc} {M:Zn} {os:List CO} {nx:Nat}:∀ {l:List Nat} {s s' r:Sl×Hp},XW s s'→Ze6 C M os nx l s=some r→∃ r',Ze6 C M os nx l s'=some r'∧XW r r'
 | [],s,s',r,h,hr=>by simp only[Ze6] at hr ⊢;cases hr;exact⟨s',rfl,h⟩
 | i :: l,s,s',r,h,hr=>by
  simp only[Ze6] at hr ⊢;obtain⟨s1,h1,hr⟩:=Za hr;obtain⟨aa,h2,h3⟩:=Zul h h1;rw[h2,Zg];exact ZnL h3 hr
theorem Qx {sl:Sl} {d:Option Nat} {v:AV} {o:CO} (h:QN d (looks o)=true):Z3 (Zp sl d v) o.guard=Z3 sl o.guard:=by
 cases hg:o.guard with
 | none=>rfl
 | some q=>
  simp only[Z3];rw[Qw,Kd];intro e;rw[e] at h;simp[QN,looks,hg,Zor] at h
theorem WD {sl:Sl} {d:Option Nat} {v:AV} {o:CO} (h:QN d (looks o)=true):∀ x∈ZI o.op,evO (Zp sl d v) x=evO sl x:=by
 intro x hx;cases x with
 | t n=>
  simp only[evO];rw[Qw,Kd];intro e;rw[e] at h;simp only[QN,looks,KW,KQ,KY] at h;exact h (Kg.2 (.inl (Kv.2 ⟨_,hx,by simp[Zbz]⟩)))
 | _=>rfl
theorem Zix {C:Orc} {M:Zn} {nx i:Nat} {o:CO} {s s' : Sl×Hp} (h:ZM C M nx i false o s=some s') :
  ∃ v adds,s'=(Zp s.1 o.dst v,Zh s.2 adds)∧(∀ k x,(k,x)∈adds→nx+64*i≤k∧k<nx+64*i+64) ∧
   ∀ aa : Sl×Hp,Z3 aa.1 o.guard=Z3 s.1 o.guard→vop C M aa.1 aa.2 (nx+64*i) o.op=vop C M s.1 s.2 (nx+64*i) o.op→ZM C M nx i false o aa=some (Zp aa.1 o.dst v,Zh aa.2 adds):=by
 unfold ZM at h;obtain⟨b,hw,h⟩:=Za h;cases b with
 | true=>
  simp only[Km] at h;obtain⟨ce,h1,h2,rfl⟩:=Q3 h;unfold WA at h1;simp only[Ka,Ko] at h1;have ad:=h1;unfold ZcJ at h1;obtain⟨c,h3,h1⟩:=Za h1;unfold Zfm at h1;split at h1
  ·rename_i e1 e2 e3 e4;cases h1;have ab:∀ s:Sl×Hp,ce.on o.dst s.1 s.2=(Zp s.1 o.dst ce.eff.val,Zh s.2 ce.eff.adds):=by
    intro s;unfold Zd.on Eff.on;rw[e1,e2,e3,e4];rfl
   refine⟨ce.eff.val,ce.eff.adds,ab s,W3 h2,fun aa g1 g2=>?_⟩;unfold ZM;rw[g1,hw,Zg];simp only[Km];unfold YH WA;simp only[Ka,Ko];rw[g2,ad,Zg,Ki h2,ab]
  ·cases h1
 | false=>
  simp only[Ka,Ko] at h;cases h;refine⟨.tup [],[],rfl,fun k x hk=>by simp at hk,fun aa g1 g2=>?_⟩;unfold ZM;rw[g1,hw,Zg];rfl
theorem Jz {U:Nat→Prop} {a:AV} (h:Y5 (.v a)=true):Zjj U a:=by
 simp only[Y5,Ke,List.isEmpty_iff,KW] at h;refine⟨fun id aa=>by rw[h.1] at aa;simp at aa,fun f ab hx=>?_⟩;subst hx;simp[Zrm] at h
section
variable {P:Program} {nt:Nat}
def Zh7 (nt:Nat) (s:Sl×Hp) (U:Nat→Prop):Prop:=∃ F A I Γ a w,Sim nt F A I Γ U s.1 s.2 a w
theorem WE {U:Nat→Prop} {base:Nat} (hf:Xk U base) {adds:Hp} (ha:∀ k x,(k,x)∈adds→base≤k∧k<base+64) (hp:Hp):∀ id,U id→lkp hp id=lkp (Zh hp adds) id:=by
 intro id hu;rw[Zv];intro o ho;obtain⟨h1,h2⟩:=ha id o ho;exact hf id h1 h2 hu
theorem Uw {sl:Sl} {d e:Option Nat} (h:ZaF d e=true) (u v:AV) (t:Nat):gs (Zp (Zp sl d u) e v) t=gs (Zp (Zp sl e v) d u) t:=by
 simp only[Qw];by_cases h1:e=some t
 ·by_cases h2:d=some t
  ·rw[h1,h2] at h;simp[ZaF] at h
  ·simp[h1,h2]
 ·simp[h1]
theorem Zzw {adds aa : Hp} {b b' : Nat} (ha:∀ k x,(k,x)∈adds→b≤k∧k<b+64) (ad : ∀ k x,(k,x)∈aa→b'≤k∧k<b'+64) (hd:b+64≤b'∨b'+64≤b) (hp:Hp) (id:Nat) :
  lkp (Zh (Zh hp adds) aa) id=lkp (Zh (Zh hp aa) adds) id:=by
 have ab:∀ (l:Hp) (hp hp' : Hp),(∀ o,(id,o)∉l)→lkp (Zh hp l) id=lkp hp id:=fun l hp _ h=>Zv l hp id h;by_cases h1:∃ o,(id,o)∈adds
 ·have h2:∀ o,(id,o)∉aa:=fun o ho=>by
   obtain⟨o',ae⟩:=h1;have:=ha id o' ae;have:=ad id o ho;omega
  rw[Zv aa _ id h2];have ab:∀ (l:Hp) (hp hp' : Hp),lkp hp id=lkp hp' id→lkp (Zh hp l) id=lkp (Zh hp' l) id:=by
   intro l
   induction l with
   | nil=>intro hp hp' h;exact h
   | cons q r ih=>
    intro hp hp' h;obtain⟨k,x⟩:=q;simp only[Zh];exact ih _ _ (by rw[Qh,Qh,h])
  exact ab adds _ _ (Zv aa hp id h2).symm
 ·have h2:∀ o,(id,o)∉adds:=fun o ho=>h1 ⟨o,ho⟩;rw[Zv adds _ id h2];have ab:∀ (l:Hp) (hp hp' : Hp),lkp hp id=lkp hp' id→lkp (Zh hp l) id=lkp (Zh hp' l) id:=by
   intro l
   induction l with
   | nil=>intro hp hp' h;exact h
   | cons q r ih=>
    intro hp hp' h;obtain⟨k,x⟩:=q;simp only[Zh];exact ih _ _ (by rw[Qh,Qh,h])
  exact ab aa _ _ (Zv adds hp id h2)
theorem ZnM {C:Orc} {M:Zn} {os:List CO} {nx i j:Nat} {oi oj:CO} (an:os[i]?=some oi) (ab:os[j]?=some oj) (ae:ZZ os j=false) (ao:i≠j) (af:Xz oj oi=true)
  (ad:∀ (k:Nat) (o:CO),os[k]?=some o→∀ x∈ZI o.op,Y5 x=true) {s s1 s2:Sl×Hp} {U:Nat→Prop} (hs:Zh7 nt s U) (ap:Xk U (nx+64*i)) (aq:Xk U (nx+64*j))
  (h1:ZG C M os nx j s=some s1) (h2:ZM C M nx i false oi s1=some s2):∃ t1,ZM C M nx i false oi s=some t1∧∃ t2,ZG C M os nx j t1=some t2∧XW t2 s2:=by
 obtain⟨F,A,I,Γ,a,w,aa⟩:=hs;simp only[Xz,Ke] at af;obtain⟨⟨ag,ar⟩,ah⟩:=af;have good:∀ (k:Nat) (o:CO),os[k]?=some o→∀ x∈ZI o.op,Zjj U (evO s.1 x):=by
  intro k o ho x hx;cases x with
  | t n=>exact aa.good n
  | v y=>exact Jz (ad k o ho _ hx)
  | f n=>exact⟨fun id au=>by simp[evO,ZB,ZC] at au,fun f av h c hc=>by cases h;simp at hc⟩
 simp only[ZG,ab,Zg,ae] at h1;obtain⟨vj,aj,rfl,ak,aw⟩:=Zix h1;obtain⟨vi,ai,rfl,al,am⟩:=Zix h2;dsimp only at am;have e1:ZM C M nx i false oi s=some (Zp s.1 oi.dst vi,Zh s.2 ai):=by
  refine am s (Qx ag).symm ?_;rw[Xg C M (Zh s.2 aj) (nx+64*i) (WD (o:=oi) ag)];exact Zay (aa.agree (WE aq ak s.2)) C M _ (good i oi an)
 refine⟨_,e1,?_⟩;have e2:ZM C M nx j false oj (Zp s.1 oi.dst vi,Zh s.2 ai)=some (Zp (Zp s.1 oi.dst vi) oj.dst vj,Zh (Zh s.2 ai) aj):=by
  refine aw (Zp s.1 oi.dst vi,Zh s.2 ai) (Qx ah) ?_;rw[Xg C M (Zh s.2 ai) (nx+64*j) (WD (o:=oj) ah)];exact(Zay (aa.agree (WE ap al s.2)) C M _ (good j oj ab)).symm
 refine⟨_,by simp only[ZG,ab,Zg,ae];exact e2,fun t=>?_,fun id=>?_⟩
 ·exact(Uw ar vj vi t).symm
 ·refine Zzw al ak ?_ s.2 id;rcases Lw ao with h | h
  ·left;omega
  ·right;omega
theorem Zx9 {C:Orc} {M:Zn} {os:List CO} {nx i j:Nat} {oi oj:CO} (ab:os[i]?=some oi) (ad:os[j]?=some oj) (ae:ZZ os i=false) (af:ZZ os j=false) (ag:i≠j) (ah:Xz oj oi=true)
  (aa:∀ (k:Nat) (o:CO),os[k]?=some o→∀ x∈ZI o.op,Y5 x=true) {s s1 s2:Sl×Hp} {U:Nat→Prop} (hs:Zh7 nt s U) (ai:Xk U (nx+64*i)) (aj:Xk U (nx+64*j))
  (h1:ZG C M os nx j s=some s1) (h2:ZG C M os nx i s1=some s2):∃ t1,ZG C M os nx i s=some t1∧∃ t2,ZG C M os nx j t1=some t2∧XW t2 s2:=by
 have e:∀ s:Sl×Hp,ZG C M os nx i s=ZM C M nx i false oi s:=fun s=>by simp only[ZG,ab,Zg,ae]
 rw[e] at h2;simp only[e];exact ZnM ab ad af ag ah aa hs ai aj h1 h2
end
end Go.Abs
