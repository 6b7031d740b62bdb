/- Own text. -/
import Derived.Test.YtighjmleicikhaaAbsDraw
import Derived.Test.YtighjmleicikhaaAbsSound3
set_option linter.unusedVariables false
set_option linter.unusedSimpArgs false
namespace Go.Abs
open Go
section
variable {U:Nat→Prop} {hp hp' : Hp}
def Zdl (U:Nat→Prop) (x:AV):Prop:=InU U x∧∀ f caps,x=.clo f caps→∀ c∈caps,InU U c
theorem ZbR {sl:Sl}:∀ {xs:List Opd} {v:AV},v∈evL sl xs→∃ x∈xs,v=evO sl x
 | [],v,h=>by simp[evL] at h
 | x :: xs,v,h=>by
  simp only[evL] at h;rcases Ke.1 h with rfl | h
  ·exact⟨x,by simp,rfl⟩
  ·obtain⟨y,h1,h2⟩:=ZbR h;exact⟨y,Ko _ h1,h2⟩
theorem WM (h:QH U hp hp') (C:Orc) (M:Zg) {sl:Sl} (base:Nat) {c:COp} (hx:∀ x∈Zu c,Zdl U (evO sl x)):vop C M sl hp base c=vop C M sl hp' base c:=by
 cases c<;>simp only[Zu] at hx<;>simp only[vop]
 case buildSl s xs=>
  cases hv:evL sl xs with
  | nil=>rfl
  | cons v vs=>
   simp only[buildSl];rw[Zco h];intro y hy;rw[← hv] at hy;obtain⟨z,h1,rfl⟩:=ZbR hy;exact(hx z h1).1
 case load g s a=>rw[Zkw h (hx a (by simp)).1]
 case store slc s a x=>rw[Zju h (hx a (by simp)).1 _ _ _ _ (Zf3 (hx x (by simp)).1)]
 case slice s x lo hi=>rw[Zjq h (hx x (by simp)).1]
 case slice0 x hi mx=>unfold slice0;rw[ZcK h (hx x (by simp)).1]
 case slice3 s x lo hi mx=>unfold slice3;rw[ZcK h (hx x (by simp)).1]
 case clear s z x=>rw[Zjr h (hx x (by simp)).1]
 case iaS s x i=>
  congr 1
  funext n
  simp only[Zcz];rw[Zec h (hx x (by simp)).1]
 case len x=>rw[ZcK h (hx x (by simp)).1]
 case append s b str flat x y=>
  simp only[Zk3];rw[Zdj h (hx x (by simp)).1,Zdj h (hx y (by simp)).1];generalize Q8 hp' (evO sl x)=mx;generalize Q8 hp' (evO sl y)=my;cases mx with
  | nil=>simp only[JK];rw[Zcm h (hx x (by simp)).1 (hx y (by simp)).1]
  | cons i r=>
   cases my with
   | nil=>simp only[JK];rw[Zcm h (hx x (by simp)).1 (hx y (by simp)).1]
   | cons j t=>simp only[JK];rw[Zf2 h (hx x (by simp)).1 (hx y (by simp)).1]
 case appT s b f x y=>exact Zf2 h (hx x (by simp)).1 (hx y (by simp)).1 s b base
 case buildT s n xs=>
  refine Zjt h fun y hy=>?_;obtain⟨z,h1,rfl⟩:=ZbR hy;exact(hx z h1).1
 case call f as=>
  have hf:=hx f (by simp);cases he:evO sl f<;>simp only[JL]
  rename_i g aa;refine ZkA h C (M g) base g fun y hy=>?_;rcases Kd.1 hy with hy | hy
  ·obtain⟨z,h1,rfl⟩:=ZbR hy;exact(hx z (by simp[h1])).1
  ·exact hf.2 g aa he y hy
theorem Ziw {Γ:Gh} {w:World} {I:Nat→Prop} {x:AV} {v:Value} (h:XQ Γ w I x v):∀ id∈Zf x,∃ r,Γ id=some r:=by
 intro id aa;cases x<;>simp only[Zf,KI,Lo,Ke,or_false] at aa
 case ptr i off=>subst aa;obtain⟨b,h1,_⟩:=h;exact⟨_,h1⟩
 case prow i sz k off=>subst aa;obtain⟨b,o,n,c,h1,_⟩:=h;exact⟨_,h1⟩
 case own i=>subst aa;obtain⟨a,n,c,sz,h1,_⟩:=h;exact⟨_,h1⟩
 case ownv i off n=>subst aa;obtain⟨a0,m,c,sz,a,h1,_⟩:=h;exact⟨_,h1⟩
 case bnil i e=>subst aa;obtain⟨b,h1,_⟩:=h;exact⟨_,h1⟩
theorem Zed {Γ:Gh} {w:World} {I:Nat→Prop}:∀ {xs:List AV} {vs:List Value},Zr (XQ Γ w I) xs vs→∀ id∈xs.flatMap Zf,∃ r,Γ id=some r
 | [],[],_,id,aa=>by simp at aa
 | [],_ :: _,h,_,_=>h.elim
 | _ :: _,[],h,_,_=>h.elim
 | x :: xs,v :: vs,h,id,aa=>by
  simp only[KB,Kd] at aa;rcases aa with aa | aa
  ·exact Ziw h.1 id aa
  ·exact Zed h.2 id aa
theorem Zee {Γ:Gh} {w:World} {I:Nat→Prop} {x:AV} {v:Value} (h:Wk Γ w I x v):∀ id∈Zp x,∃ r,Γ id=some r:=by
 intro id aa;by_cases hs:x.small=true
 ·rw[(XA hs (fun k=>k) []).2.2.2.2.2] at aa;rw[(Y4 hs v).2.1] at h;exact Ziw h id aa
 ·cases x with
  | agg cs=>obtain⟨us,_,h2⟩:=h;exact Zed h2 id aa
  | clo f cs=>obtain⟨us,_,h2⟩:=h;exact Zed h2 id aa
  | tup cs=>exact h.elim
  | d x=>simp[Zp,Zf] at aa
  | _=>exact absurd rfl hs
theorem ZnK {Γ:Gh} {w:World} {I:Nat→Prop} {x:AV} {v:Value} (h:Q1 Γ w I x v):∀ id∈Zp x,∃ r,Γ id=some r:=Zee h.rep2
theorem Zf8 {Γ:Gh} {w:World} {I:Nat→Prop}:∀ {xs:List AV} {vs:List Value},Zr (Wk Γ w I) xs vs→∀ id∈xs.flatMap Zp,∃ r,Γ id=some r
 | [],[],_,id,aa=>by simp at aa
 | [],_ :: _,h,_,_=>h.elim
 | _ :: _,[],h,_,_=>h.elim
 | x :: xs,v :: vs,h,id,aa=>by
  simp only[KB,Kd] at aa;rcases aa with aa | aa
  ·exact Zee h.1 id aa
  ·exact Zf8 h.2 id aa
theorem ZkB {Γ:Gh} {w:World} {I:Nat→Prop} {x:AV} {v:Value} (h:Rep Γ w I x v):∀ id∈Zo x,∃ r,Γ id=some r:=by
 intro id aa;by_cases ht:∃ vs,x=.tup vs
 ·obtain⟨vs,rfl⟩:=ht;obtain⟨us,_,h2⟩:=h;exact Zf8 h2 id aa
 ·have e:Rep Γ w I x v=Wk Γ w I x v:=by cases x<;>first | rfl | exact absurd ⟨_,rfl⟩ ht
  rw[e] at h;refine Zee h id ?_;cases x<;>first | exact aa | exact absurd ⟨_,rfl⟩ ht
theorem Zf9 {Γ:Gh} {w:World} {I:Nat→Prop}:∀ {xs:List AV} {vs:List Value},Zr (Q1 Γ w I) xs vs→∀ id∈xs.flatMap Zp,∃ r,Γ id=some r
 | [],[],_,id,aa=>by simp at aa
 | [],_ :: _,h,_,_=>h.elim
 | _ :: _,[],h,_,_=>h.elim
 | x :: xs,v :: vs,h,id,aa=>by
  simp only[KB,Kd] at aa;rcases aa with aa | aa
  ·exact ZnK h.1 id aa
  ·exact Zf9 h.2 id aa
theorem ZoU {Γ:Gh} {w:World} {I:Nat→Prop} {x:AV} {v:Value} (hn:∀ id,¬U id→Γ id=none) (h:Rep Γ w I x v):Zdl U x:=by
 have ab:∀ id,(∃ r,Γ id=some r)→U id:=fun id ⟨r,hr⟩=>Classical.byContradiction fun hu=>by rw[hn id hu] at hr;cases hr
 refine⟨fun id aa=>ab id (ZkB h id aa),fun f ad hx c hc=>?_⟩;subst hx;obtain⟨us,_,h2⟩:=h;obtain⟨i,hi⟩:=Lq hc;obtain⟨u,_,h3⟩:=h2.get i c hi;exact fun id aa=>ab id (ZkB h3.rep2.rep id aa)
end
section
variable {P:Program} {nt:Nat} {F A I:Nat→Prop} {Γ:Gh} {U:Nat→Prop} {sl:Sl} {hp:Hp} {a:Act} {w:World}
theorem Sim.good (h:Sim nt F A I Γ U sl hp a w) (t:Nat):Zdl U (gs sl t):=ZoU h.names (h.slots t)
theorem Sim.agree (h:Sim nt F A I Γ U sl hp a w) {hp' : Hp} (hs:∀ id,U id→lkp hp id=lkp hp' id):QH U hp hp':=by
 refine⟨hs,fun id o hu hl i hi=>?_⟩;have ho:=h.objs id o hl;cases o with
 | box cs=>
  obtain⟨b,cur,e,_,_,_,_,h5,_⟩:=ho;obtain⟨r,hr⟩:=Zf9 h5 i hi;exact Classical.byContradiction fun hu=>by rw[h.names i hu] at hr;cases hr
 | row sz xs ex fz=>simp[V8] at hi
 | gone=>simp[V8] at hi
 | tree sz ns xs lk=>simp[V8] at hi
theorem Oper.wp_ex {o:Oper} {a:Act} {w:World} {K:Act→World→Prop} (h:o.wp P a w K (fun _ _ _=>False)):∃ a' w',K a' w':=by
 unfold Oper.wp at h;generalize (execOp a.eval o).run P w=r at h;cases r with
 | ok n w' =>
  cases n<;>simp only[Oper.upon] at h
  case value v=>exact⟨_,_,h⟩
  case skip=>exact⟨_,_,h⟩
  case defer d=>exact⟨_,_,h⟩
  case enter f args=>
   obtain⟨e,aa,fr,he,_⟩:=h [];cases e with
   | returned v=>exact⟨_,_,he⟩
   | panicked c=>exact he.elim
   | outgrown=>obtain⟨a,w,hf⟩:=he;exact hf.elim
  case row row args=>
   obtain⟨v,aa,he,_⟩:=h default [];exact⟨_,_,he⟩
 | halt x w'=>cases x<;>simp only[Oper.upon] at h
end
end Go.Abs
set_option linter.unusedVariables false
set_option linter.unusedSimpArgs false
namespace Go.Abs
open Go
def Q2 (s s' : Sl×Hp):Prop:=(∀ t,gs s.1 t=gs s'.1 t)∧∀ id,lkp s.2 id=lkp s'.2 id
theorem Q2.refl (s:Sl×Hp):Q2 s s:=⟨fun _=>rfl,fun _=>rfl⟩
theorem Q2.symm {s s' : Sl×Hp} (h:Q2 s s'):Q2 s' s:=⟨fun t=>(h.1 t).symm,fun id=>(h.2 id).symm⟩
theorem Q2.trans {a b c:Sl×Hp} (h:Q2 a b) (k:Q2 b c):Q2 a c:=⟨fun t=>(h.1 t).trans (k.1 t),fun id=>(h.2 id).trans (k.2 id)⟩
theorem Us:∀ (l:Hp) {hp hp' : Hp},(∀ id,lkp hp id=lkp hp' id)→∀ id,lkp (Zd hp l) id=lkp (Zd hp' l) id
 | [],_,_,h=>h
 | (k,o) :: r,hp,hp',h=>by
  simp only[Zd];exact Us r fun id=>by rw[Z7,Z7,h id]
theorem Zdm:∀ (l:List Nat) {hp hp' : Hp},(∀ id,lkp hp id=lkp hp' id)→∀ id,lkp (ZN hp l) id=lkp (ZN hp' l) id
 | [],_,_,h=>h
 | d :: r,hp,hp',h=>by
  simp only[ZN];exact Zdm r fun id=>by rw[ZaL,ZaL,h id]
theorem ZoV (ce:Zb) (dst:Option Nat) {s s' : Sl×Hp} (h:Q2 s s'):Q2 (ce.on dst s.1 s.2) (ce.on dst s'.1 s'.2):=by
 refine⟨fun t=>?_,fun id=>?_⟩
 ·show gs (Zk (QC ce.gone s.1) dst ce.eff.val) t=gs (Zk (QC ce.gone s'.1) dst ce.eff.val) t;rw[Qa,Qa,Ql,Ql,h.1 t]
 ·exact Us _ (Us _ (Zdm _ fun id=>by rw[ZR,ZR,YF,YF,h.2 id])) id
noncomputable def Zz (C:Orc) (M:Zg) (nx i:Nat) (t:Bool) (o:CO) (s:Sl×Hp):Option (Sl×Hp):=
 bnd (ZJ s.1 o.guard) fun b=>if b then XC (nx+64*i) o.dst s.1 s.2 (YD C M nx i t o.op s.1 s.2) else some (Zk s.1 o.dst (.tup []),s.2)
noncomputable def Zv (C:Orc) (M:Zg) (os:List CO) (nx i:Nat) (s:Sl×Hp):Option (Sl×Hp):=bnd os[i]? fun o=>Zz C M nx i (ZG os i) o s
noncomputable def Zal (C:Orc) (M:Zg) (os:List CO) (nx:Nat):List Nat→Sl×Hp→Option (Sl×Hp)
 | [],s=>some s
 | i :: l,s=>bnd (Zv C M os nx i s) (Zal C M os nx l)
theorem ZcL (C:Orc) (M:Zg) (os:List CO) (nx:Nat):∀ (aa:List CO) (i:Nat) (t:Bool) (sl:Sl) (hp:Hp),os.drop i=aa →
  WJ C M nx i t aa sl hp=Zal C M os nx (List.range' i aa.length) (sl,hp)
 | [],i,t,sl,hp,_=>rfl
 | o :: aa,i,t,sl,hp,hd=>by
  have h1:os[i]?=some o:=by
   have:(os.drop i)[0]?=some o:=by rw[hd];rfl
   rw[KZ] at this;simpa using this
  have h2:os.drop (i+1)=aa:=by rw[← List.drop_drop,hd];rfl
  have h4:CO.starts o=ZG os i:=by simp only[ZG,h1]
  simp only[WJ,Ki,List.range'_succ,Zal,Zv,h1,Zc,Zz,h4];cases hw:ZJ sl o.guard with
  | none=>rfl
  | some b=>
   cases b with
   | true=>
    simp only[Zc,Kh];cases hs:XC (nx+64*i) o.dst sl hp (YD C M nx i (ZG os i) o.op sl hp) with
    | none=>rfl
    | some r=>
     simp only[Zc];exact ZcL C M os nx aa (i+1) t r.1 r.2 h2
   | false=>
    simp only[Zc,Ka,Kf];exact ZcL C M os nx aa (i+1) t _ _ h2
theorem ZlT {hp hp' : Hp} (h:∀ id,lkp hp id=lkp hp' id):QH (fun _=>True) hp hp':=⟨fun id _=>h id,fun _ _ _ _ _ _=>trivial⟩
theorem ZnL (C:Orc) (M:Zg) {s s' : Sl×Hp} (h:Q2 s s') (base:Nat) (c:COp):vop C M s.1 s.2 base c=vop C M s'.1 s'.2 base c:=by
 have h1:∀ x:Opd,evO s.1 x=evO s'.1 x:=fun x=>by cases x<;>simp only[evO];exact h.1 _
 rw[QE C M s.2 base (sl:=s.1) (sl':=s'.1) fun x _=>h1 x];exact WM (ZlT h.2) C M base fun x _=>⟨fun _ _=>trivial,fun _ _ _ _ _ _ _=>trivial⟩
theorem ZkC {s s' : Sl×Hp} (h:Q2 s s') (g:Option (Nat×Bool)):ZJ s.1 g=ZJ s'.1 g:=by
 cases g with
 | none=>rfl
 | some q=>simp only[ZJ,h.1]
theorem ZkD {C:Orc} {M:Zg} {os:List CO} {nx i:Nat} {s s' r:Sl×Hp} (h:Q2 s s') (hr:Zv C M os nx i s=some r):∃ r',Zv C M os nx i s'=some r'∧Q2 r r':=by
 unfold Zv at hr ⊢;obtain⟨o,h1,hr⟩:=Za hr;rw[h1,Zc];unfold Zz at hr ⊢;obtain⟨b,h2,hr⟩:=Za hr;rw[← ZkC h,h2,Zc];cases b with
 | true=>
  simp only[Kh] at hr ⊢;obtain⟨ce,h3,h4,rfl⟩:=QO hr;have h5:YD C M nx i (ZG os i) o.op s'.1 s'.2=some ce:=by
   rw[← h3];unfold YD;rw[ZnL C M h]
  refine⟨ce.on o.dst s'.1 s'.2,?_,ZoV ce o.dst h⟩;unfold XC;rw[h5,Zc,Kv h4]
 | false=>
  simp only[Ka,Kf] at hr ⊢;cases hr;refine⟨_,rfl,fun t=>?_,h.2⟩;show gs (Zk s.1 o.dst (.tup [])) t=gs (Zk s'.1 o.dst (.tup [])) t;rw[Qa,Qa,h.1 t]
theorem Zga {C:Orc} {M:Zg} {os:List CO} {nx:Nat}:∀ {l:List Nat} {s s' r:Sl×Hp},Q2 s s'→Zal C M os nx l s=some r→∃ r',Zal C M os nx l s'=some r'∧Q2 r r'
 | [],s,s',r,h,hr=>by simp only[Zal] at hr ⊢;cases hr;exact⟨s',rfl,h⟩
 | i :: l,s,s',r,h,hr=>by
  simp only[Zal] at hr ⊢;obtain⟨s1,h1,hr⟩:=Za hr;obtain⟨aa,h2,h3⟩:=ZkD h h1;rw[h2,Zc];exact Zga h3 hr
theorem Qc {sl:Sl} {d:Option Nat} {v:AV} {o:CO} (h:Qj d (XP o)=true):ZJ (Zk sl d v) o.guard=ZJ sl o.guard:=by
 cases hg:o.guard with
 | none=>rfl
 | some q=>
  simp only[ZJ];rw[Qa,Kp];intro e;rw[e] at h;simp[Qj,XP,hg,ZgT] at h
theorem YH {sl:Sl} {d:Option Nat} {v:AV} {o:CO} (h:Qj d (XP o)=true):∀ x∈Zu o.op,evO (Zk sl d v) x=evO sl x:=by
 intro x hx;cases x with
 | t n=>
  simp only[evO];rw[Qa,Kp];intro e;rw[e] at h;simp only[Qj,XP,KF,KK,KC] at h;exact h (Kd.2 (.inl (Kn.2 ⟨_,hx,by simp[Ui]⟩)))
 | _=>rfl
theorem ZcM {C:Orc} {M:Zg} {nx i:Nat} {o:CO} {s s' : Sl×Hp} (h:Zz C M nx i false o s=some s') :
  ∃ v adds,s'=(Zk s.1 o.dst v,Zd s.2 adds)∧(∀ k x,(k,x)∈adds→nx+64*i≤k∧k<nx+64*i+64) ∧
   ∀ aa : Sl×Hp,ZJ aa.1 o.guard=ZJ s.1 o.guard→vop C M aa.1 aa.2 (nx+64*i) o.op=vop C M s.1 s.2 (nx+64*i) o.op→Zz C M nx i false o aa=some (Zk aa.1 o.dst v,Zd aa.2 adds):=by
 unfold Zz at h;obtain⟨b,hw,h⟩:=Za h;cases b with
 | true=>
  simp only[Kh] at h;obtain⟨ce,h1,h2,rfl⟩:=QO h;unfold YD at h1;simp only[Ka,Kf] at h1;have ad:=h1;unfold U5 at h1;obtain⟨c,h3,h1⟩:=Za h1;unfold ZaF at h1;split at h1
  ·rename_i e1 e2 e3 e4;cases h1;have ab:∀ s:Sl×Hp,ce.on o.dst s.1 s.2=(Zk s.1 o.dst ce.eff.val,Zd s.2 ce.eff.adds):=by
    intro s;unfold Zb.on Eff.on;rw[e1,e2,e3,e4];rfl
   refine⟨ce.eff.val,ce.eff.adds,ab s,VZ h2,fun aa g1 g2=>?_⟩;unfold Zz;rw[g1,hw,Zc];simp only[Kh];unfold XC YD;simp only[Ka,Kf];rw[g2,ad,Zc,Kv h2,ab]
  ·cases h1
 | false=>
  simp only[Ka,Kf] at h;cases h;refine⟨.tup [],[],rfl,fun k x hk=>by simp at hk,fun aa g1 g2=>?_⟩;unfold Zz;rw[g1,hw,Zc];rfl
theorem Wc {U:Nat→Prop} {a:AV} (h:XR (.v a)=true):Zdl U a:=by
 simp only[XR,Kb,List.isEmpty_iff,KF] at h;refine⟨fun id aa=>by rw[h.1] at aa;simp at aa,fun f ab hx=>?_⟩;subst hx;simp[Zin] at h
section
variable {P:Program} {nt:Nat}
def Zcq (nt:Nat) (s:Sl×Hp) (U:Nat→Prop):Prop:=∃ F A I Γ a w,Sim nt F A I Γ U s.1 s.2 a w
theorem YI {U:Nat→Prop} {base:Nat} (hf:QB U base) {adds:Hp} (ha:∀ k x,(k,x)∈adds→base≤k∧k<base+64) (hp:Hp):∀ id,U id→lkp hp id=lkp (Zd hp adds) id:=by
 intro id hu;rw[Zs];intro o ho;obtain⟨h1,h2⟩:=ha id o ho;exact hf id h1 h2 hu
theorem Vn {sl:Sl} {d e:Option Nat} (h:WS d e=true) (u v:AV) (t:Nat):gs (Zk (Zk sl d u) e v) t=gs (Zk (Zk sl e v) d u) t:=by
 simp only[Qa];by_cases h1:e=some t
 ·by_cases h2:d=some t
  ·rw[h1,h2] at h;simp[WS] at h
  ·simp[h1,h2]
 ·simp[h1]
theorem ZoW {adds aa : Hp} {b b' : Nat} (ha:∀ k x,(k,x)∈adds→b≤k∧k<b+64) (ad : ∀ k x,(k,x)∈aa→b'≤k∧k<b'+64) (hd:b+64≤b'∨b'+64≤b) (hp:Hp) (id:Nat) :
  lkp (Zd (Zd hp adds) aa) id=lkp (Zd (Zd hp aa) adds) id:=by
 have ab:∀ (l:Hp) (hp hp' : Hp),(∀ o,(id,o)∉l)→lkp (Zd hp l) id=lkp hp id:=fun l hp _ h=>Zs l hp id h;by_cases h1:∃ o,(id,o)∈adds
 ·have h2:∀ o,(id,o)∉aa:=fun o ho=>by
   obtain⟨o',ae⟩:=h1;have:=ha id o' ae;have:=ad id o ho;omega
  rw[Zs aa _ id h2];have ab:∀ (l:Hp) (hp hp' : Hp),lkp hp id=lkp hp' id→lkp (Zd hp l) id=lkp (Zd hp' l) id:=by
   intro l
   induction l with
   | nil=>intro hp hp' h;exact h
   | cons q r ih=>
    intro hp hp' h;obtain⟨k,x⟩:=q;simp only[Zd];exact ih _ _ (by rw[Z7,Z7,h])
  exact ab adds _ _ (Zs aa hp id h2).symm
 ·have h2:∀ o,(id,o)∉adds:=fun o ho=>h1 ⟨o,ho⟩;rw[Zs adds _ id h2];have ab:∀ (l:Hp) (hp hp' : Hp),lkp hp id=lkp hp' id→lkp (Zd hp l) id=lkp (Zd hp' l) id:=by
   intro l
   induction l with
   | nil=>intro hp hp' h;exact h
   | cons q r ih=>
    intro hp hp' h;obtain⟨k,x⟩:=q;simp only[Zd];exact ih _ _ (by rw[Z7,Z7,h])
  exact ab aa _ _ (Zs adds hp id h2)
theorem Zgb {C:Orc} {M:Zg} {os:List CO} {nx i j:Nat} {oi oj:CO} (an:os[i]?=some oi) (ab:os[j]?=some oj) (ae:ZG os j=false) (ao:i≠j) (af:QS oj oi=true)
  (ad:∀ (k:Nat) (o:CO),os[k]?=some o→∀ x∈Zu o.op,XR x=true) {s s1 s2:Sl×Hp} {U:Nat→Prop} (hs:Zcq nt s U) (ap:QB U (nx+64*i)) (aq:QB U (nx+64*j))
  (h1:Zv C M os nx j s=some s1) (h2:Zz C M nx i false oi s1=some s2):∃ t1,Zz C M nx i false oi s=some t1∧∃ t2,Zv C M os nx j t1=some t2∧Q2 t2 s2:=by
 obtain⟨F,A,I,Γ,a,w,aa⟩:=hs;simp only[QS,Kb] at af;obtain⟨⟨ag,ar⟩,ah⟩:=af;have good:∀ (k:Nat) (o:CO),os[k]?=some o→∀ x∈Zu o.op,Zdl U (evO s.1 x):=by
  intro k o ho x hx;cases x with
  | t n=>exact aa.good n
  | v y=>exact Wc (ad k o ho _ hx)
  | f n=>exact⟨fun id au=>by simp[evO,Zo,Zp] at au,fun f av h c hc=>by cases h;simp at hc⟩
 simp only[Zv,ab,Zc,ae] at h1;obtain⟨vj,aj,rfl,ak,aw⟩:=ZcM h1;obtain⟨vi,ai,rfl,al,am⟩:=ZcM h2;dsimp only at am;have e1:Zz C M nx i false oi s=some (Zk s.1 oi.dst vi,Zd s.2 ai):=by
  refine am s (Qc ag).symm ?_;rw[QE C M (Zd s.2 aj) (nx+64*i) (YH (o:=oi) ag)];exact WM (aa.agree (YI aq ak s.2)) C M _ (good i oi an)
 refine⟨_,e1,?_⟩;have e2:Zz C M nx j false oj (Zk s.1 oi.dst vi,Zd s.2 ai)=some (Zk (Zk s.1 oi.dst vi) oj.dst vj,Zd (Zd s.2 ai) aj):=by
  refine aw (Zk s.1 oi.dst vi,Zd s.2 ai) (Qc ah) ?_;rw[QE C M (Zd s.2 ai) (nx+64*j) (YH (o:=oj) ah)];exact(WM (aa.agree (YI ap al s.2)) C M _ (good j oj ab)).symm
 refine⟨_,by simp only[Zv,ab,Zc,ae];exact e2,fun t=>?_,fun id=>?_⟩
 ·exact(Vn ar vj vi t).symm
 ·refine ZoW al ak ?_ s.2 id;rcases Lw ao with h | h
  ·left;omega
  ·right;omega
theorem ZnM {C:Orc} {M:Zg} {os:List CO} {nx i j:Nat} {oi oj:CO} (ab:os[i]?=some oi) (ad:os[j]?=some oj) (ae:ZG os i=false) (af:ZG os j=false) (ag:i≠j) (ah:QS oj oi=true)
  (aa:∀ (k:Nat) (o:CO),os[k]?=some o→∀ x∈Zu o.op,XR x=true) {s s1 s2:Sl×Hp} {U:Nat→Prop} (hs:Zcq nt s U) (ai:QB U (nx+64*i)) (aj:QB U (nx+64*j))
  (h1:Zv C M os nx j s=some s1) (h2:Zv C M os nx i s1=some s2):∃ t1,Zv C M os nx i s=some t1∧∃ t2,Zv C M os nx j t1=some t2∧Q2 t2 s2:=by
 have e:∀ s:Sl×Hp,Zv C M os nx i s=Zz C M nx i false oi s:=fun s=>by simp only[Zv,ab,Zc,ae]
 rw[e] at h2;simp only[e];exact Zgb ab ad af ag ah aa hs ai aj h1 h2
end
end Go.Abs
