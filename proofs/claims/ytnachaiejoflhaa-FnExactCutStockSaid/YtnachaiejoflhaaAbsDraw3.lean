/- Own text. -/
import Derived.Test.YtnachaiejoflhaaAbsDraw
import Derived.Test.YtnachaiejoflhaaAbsSound3
set_option linter.unusedVariables false
set_option linter.unusedSimpArgs false
namespace Go.Abs
open Go
section
variable {U:Nat→Prop} {hp hp' : Hp}
def Zez (U:Nat→Prop) (x:AV):Prop:=InU U x∧∀ f caps,x=.clo f caps→∀ c∈caps,InU U c
theorem ZcV {sl:Sl}:∀ {xs:List Opd} {v:AV},v∈evL sl xs→∃ x∈xs,v=evO sl x
 | [],v,h=>by simp[evL] at h
 | x :: xs,v,h=>by
  simp only[evL] at h;rcases Kf.1 h with rfl | h
  ·exact⟨x,by simp,rfl⟩
  ·obtain⟨y,h1,h2⟩:=ZcV h;exact⟨y,Km _ h1,h2⟩
theorem WI (h:QE U hp hp') (C:Orc) (M:Zj) {sl:Sl} (base:Nat) {c:COp} (hx:∀ x∈Zv c,Zez U (evO sl x)):vop C M sl hp base c=vop C M sl hp' base c:=by
 cases c<;>simp only[Zv] at hx<;>simp only[vop]
 case buildSl s xs=>
  cases hv:evL sl xs with
  | nil=>rfl
  | cons v vs=>
   simp only[buildSl];rw[Zdt h];intro y hy;rw[← hv] at hy;obtain⟨z,h1,rfl⟩:=ZcV hy;exact(hx z h1).1
 case load g s a=>rw[ZmJ h (hx a (by simp)).1]
 case store slc s a x=>rw[Zlr h (hx a (by simp)).1 _ _ _ _ (Zht (hx x (by simp)).1)]
 case slice s x lo hi=>rw[Zln h (hx x (by simp)).1]
 case slice0 x hi mx=>unfold slice0;rw[ZdS h (hx x (by simp)).1]
 case slice3 s x lo hi mx=>unfold slice3;rw[ZdS h (hx x (by simp)).1]
 case clear s z x=>rw[Zlo h (hx x (by simp)).1]
 case iaS s x i=>
  congr 1
  funext n
  simp only[ZdE];rw[Zfq h (hx x (by simp)).1]
 case len x=>rw[ZdS h (hx x (by simp)).1]
 case append s b str flat x y=>
  simp only[Zng];rw[Zex h (hx x (by simp)).1,Zex h (hx y (by simp)).1];generalize Q0 hp' (evO sl x)=mx;generalize Q0 hp' (evO sl y)=my;cases mx with
  | nil=>simp only[J3];rw[Zdr h (hx x (by simp)).1 (hx y (by simp)).1]
  | cons i r=>
   cases my with
   | nil=>simp only[J3];rw[Zdr h (hx x (by simp)).1 (hx y (by simp)).1]
   | cons j t=>simp only[J3];rw[Zhs h (hx x (by simp)).1 (hx y (by simp)).1]
 case appT s b f x y=>exact Zhs h (hx x (by simp)).1 (hx y (by simp)).1 s b base
 case buildT s n xs=>
  refine Zlq h fun y hy=>?_;obtain⟨z,h1,rfl⟩:=ZcV hy;exact(hx z h1).1
 case call f as=>
  have hf:=hx f (by simp);cases he:evO sl f<;>simp only[J4]
  rename_i g aa;refine ZmN h C (M g) base g fun y hy=>?_;rcases Kd.1 hy with hy | hy
  ·obtain⟨z,h1,rfl⟩:=ZcV hy;exact(hx z (by simp[h1])).1
  ·exact hf.2 g aa he y hy
theorem Zkr {Γ:Gh} {w:World} {I:Nat→Prop} {x:AV} {v:Value} (h:XB Γ w I x v):∀ id∈Zi x,∃ r,Γ id=some r:=by
 intro id aa;cases x<;>simp only[Zi,KU,LJ,Kf,or_false] at aa
 case ptr i off=>subst aa;obtain⟨b,h1,_⟩:=h;exact⟨_,h1⟩
 case prow i sz k off=>subst aa;obtain⟨b,n,c,h1,_⟩:=h;exact⟨_,h1⟩
 case own i=>subst aa;obtain⟨a,n,c,sz,h1,_⟩:=h;exact⟨_,h1⟩
 case ownv i off n=>subst aa;obtain⟨a0,m,c,sz,a,h1,_⟩:=h;exact⟨_,h1⟩
 case bnil i e=>subst aa;obtain⟨b,h1,_⟩:=h;exact⟨_,h1⟩
theorem Zfr {Γ:Gh} {w:World} {I:Nat→Prop}:∀ {xs:List AV} {vs:List Value},Zp (XB Γ w I) xs vs→∀ id∈xs.flatMap Zi,∃ r,Γ id=some r
 | [],[],_,id,aa=>by simp at aa
 | [],_ :: _,h,_,_=>h.elim
 | _ :: _,[],h,_,_=>h.elim
 | x :: xs,v :: vs,h,id,aa=>by
  simp only[Kv,Kd] at aa;rcases aa with aa | aa
  ·exact Zkr h.1 id aa
  ·exact Zfr h.2 id aa
theorem Zfs {Γ:Gh} {w:World} {I:Nat→Prop} {x:AV} {v:Value} (h:V9 Γ w I x v):∀ id∈Zs x,∃ r,Γ id=some r:=by
 intro id aa;by_cases hs:x.small=true
 ·rw[(Xm hs (fun k=>k) []).2.2.2.2.2] at aa;rw[(YU hs v).2.1] at h;exact Zkr h id aa
 ·cases x with
  | agg cs=>obtain⟨us,_,h2⟩:=h;exact Zfr h2 id aa
  | clo f cs=>obtain⟨us,_,h2⟩:=h;exact Zfr h2 id aa
  | tup cs=>exact h.elim
  | d x=>simp[Zs,Zi] at aa
  | _=>exact absurd rfl hs
theorem Zqo {Γ:Gh} {w:World} {I:Nat→Prop} {x:AV} {v:Value} (h:QV Γ w I x v):∀ id∈Zs x,∃ r,Γ id=some r:=Zfs h.rep2
theorem Zhy {Γ:Gh} {w:World} {I:Nat→Prop}:∀ {xs:List AV} {vs:List Value},Zp (V9 Γ w I) xs vs→∀ id∈xs.flatMap Zs,∃ r,Γ id=some r
 | [],[],_,id,aa=>by simp at aa
 | [],_ :: _,h,_,_=>h.elim
 | _ :: _,[],h,_,_=>h.elim
 | x :: xs,v :: vs,h,id,aa=>by
  simp only[Kv,Kd] at aa;rcases aa with aa | aa
  ·exact Zfs h.1 id aa
  ·exact Zhy h.2 id aa
theorem ZmO {Γ:Gh} {w:World} {I:Nat→Prop} {x:AV} {v:Value} (h:Rep Γ w I x v):∀ id∈Zo x,∃ r,Γ id=some r:=by
 intro id aa;by_cases ht:∃ vs,x=.tup vs
 ·obtain⟨vs,rfl⟩:=ht;obtain⟨us,_,h2⟩:=h;exact Zhy h2 id aa
 ·have e:Rep Γ w I x v=V9 Γ w I x v:=by cases x<;>first | rfl | exact absurd ⟨_,rfl⟩ ht
  rw[e] at h;refine Zfs h id ?_;cases x<;>first | exact aa | exact absurd ⟨_,rfl⟩ ht
theorem Zhz {Γ:Gh} {w:World} {I:Nat→Prop}:∀ {xs:List AV} {vs:List Value},Zp (QV Γ w I) xs vs→∀ id∈xs.flatMap Zs,∃ r,Γ id=some r
 | [],[],_,id,aa=>by simp at aa
 | [],_ :: _,h,_,_=>h.elim
 | _ :: _,[],h,_,_=>h.elim
 | x :: xs,v :: vs,h,id,aa=>by
  simp only[Kv,Kd] at aa;rcases aa with aa | aa
  ·exact Zqo h.1 id aa
  ·exact Zhz h.2 id aa
theorem ZrA {Γ:Gh} {w:World} {I:Nat→Prop} {x:AV} {v:Value} (hn:∀ id,¬U id→Γ id=none) (h:Rep Γ w I x v):Zez U x:=by
 have ab:∀ id,(∃ r,Γ id=some r)→U id:=fun id ⟨r,hr⟩=>Classical.byContradiction fun hu=>by rw[hn id hu] at hr;cases hr
 refine⟨fun id aa=>ab id (ZmO h id aa),fun f ad hx c hc=>?_⟩;subst hx;obtain⟨us,_,h2⟩:=h;obtain⟨i,hi⟩:=K7 hc;obtain⟨u,_,h3⟩:=h2.get i c hi;exact fun id aa=>ab id (ZmO h3.rep2.rep id aa)
end
section
variable {P:Program} {nt:Nat} {F A I:Nat→Prop} {Γ:Gh} {U:Nat→Prop} {sl:Sl} {hp:Hp} {a:Act} {w:World}
theorem Sim.good (h:Sim nt F A I Γ U sl hp a w) (t:Nat):Zez U (gs sl t):=ZrA h.names (h.slots t)
theorem Sim.agree (h:Sim nt F A I Γ U sl hp a w) {hp' : Hp} (hs:∀ id,U id→lkp hp id=lkp hp' id):QE U hp hp':=by
 refine⟨hs,fun id o hu hl i hi=>?_⟩;have ho:=h.objs id o hl;cases o with
 | box cs=>
  obtain⟨b,cur,e,_,_,_,_,h5,_⟩:=ho;obtain⟨r,hr⟩:=Zhz h5 i hi;exact Classical.byContradiction fun hu=>by rw[h.names i hu] at hr;cases hr
 | row sz xs ex fz=>simp[VX] at hi
 | gone=>simp[VX] at hi
 | tree sz ns xs lk=>simp[VX] at hi
theorem Oper.wp_ex {o:Oper} {a:Act} {w:World} {K:Act→World→Prop} (h:o.wp P a w K (fun _ _ _=>False)):∃ a' w',K a' w':=by
 unfold Oper.wp at h;generalize (execOp a.eval o).run P w=r at h;cases r with
 | ok n w' =>
  cases n<;>simp only[Oper.upon] at h
  case value v=>exact⟨_,_,h⟩
  case skip=>exact⟨_,_,h⟩
  case defer d=>exact⟨_,_,h⟩
  case enter f args=>
   obtain⟨e,aa,fr,he,_⟩:=h [];cases e with
   | returned v=>exact⟨_,_,he⟩
   | panicked c=>exact he.elim
   | outgrown=>obtain⟨a,w,hf⟩:=he;exact hf.elim
  case row row args=>
   obtain⟨v,aa,he,_⟩:=h default [];exact⟨_,_,he⟩
 | halt x w'=>cases x<;>simp only[Oper.upon] at h
end
end Go.Abs
set_option linter.unusedVariables false
set_option linter.unusedSimpArgs false
namespace Go.Abs
open Go
def QX (s s' : Sl×Hp):Prop:=(∀ t,gs s.1 t=gs s'.1 t)∧∀ id,lkp s.2 id=lkp s'.2 id
theorem QX.refl (s:Sl×Hp):QX s s:=⟨fun _=>rfl,fun _=>rfl⟩
theorem QX.symm {s s' : Sl×Hp} (h:QX s s'):QX s' s:=⟨fun t=>(h.1 t).symm,fun id=>(h.2 id).symm⟩
theorem QX.trans {a b c:Sl×Hp} (h:QX a b) (k:QX b c):QX a c:=⟨fun t=>(h.1 t).trans (k.1 t),fun id=>(h.2 id).trans (k.2 id)⟩
theorem Uz:∀ (l:Hp) {hp hp' : Hp},(∀ id,lkp hp id=lkp hp' id)→∀ id,lkp (Zd hp l) id=lkp (Zd hp' l) id
 | [],_,_,h=>h
 | (k,o) :: r,hp,hp',h=>by
  simp only[Zd];exact Uz r fun id=>by rw[Z7,Z7,h id]
theorem ZeA:∀ (l:List Nat) {hp hp' : Hp},(∀ id,lkp hp id=lkp hp' id)→∀ id,lkp (ZV hp l) id=lkp (ZV hp' l) id
 | [],_,_,h=>h
 | d :: r,hp,hp',h=>by
  simp only[ZV];exact ZeA r fun id=>by rw[Zbh,Zbh,h id]
theorem ZrB (ce:Zb) (dst:Option Nat) {s s' : Sl×Hp} (h:QX s s'):QX (ce.on dst s.1 s.2) (ce.on dst s'.1 s'.2):=by
 refine⟨fun t=>?_,fun id=>?_⟩
 ·show gs (Zl (QA ce.gone s.1) dst ce.eff.val) t=gs (Zl (QA ce.gone s'.1) dst ce.eff.val) t;rw[Z8,Z8,Qp,Qp,h.1 t]
 ·exact Uz _ (Uz _ (ZeA _ fun id=>by rw[ZU,ZU,Yw,Yw,h.2 id])) id
noncomputable def ZD (C:Orc) (M:Zj) (nx i:Nat) (t:Bool) (o:CO) (s:Sl×Hp):Option (Sl×Hp):=
 bnd (ZM s.1 o.guard) fun b=>if b then Xq (nx+64*i) o.dst s.1 s.2 (Yt C M nx i t o.op s.1 s.2) else some (Zl s.1 o.dst (.tup []),s.2)
noncomputable def Zw (C:Orc) (M:Zj) (os:List CO) (nx i:Nat) (s:Sl×Hp):Option (Sl×Hp):=bnd os[i]? fun o=>ZD C M nx i (ZK os i) o s
noncomputable def ZaR (C:Orc) (M:Zj) (os:List CO) (nx:Nat):List Nat→Sl×Hp→Option (Sl×Hp)
 | [],s=>some s
 | i :: l,s=>bnd (Zw C M os nx i s) (ZaR C M os nx l)
theorem ZdT (C:Orc) (M:Zj) (os:List CO) (nx:Nat):∀ (aa:List CO) (i:Nat) (t:Bool) (sl:Sl) (hp:Hp),os.drop i=aa →
  WE C M nx i t aa sl hp=ZaR C M os nx (List.range' i aa.length) (sl,hp)
 | [],i,t,sl,hp,_=>rfl
 | o :: aa,i,t,sl,hp,hd=>by
  have h1:os[i]?=some o:=by
   have:(os.drop i)[0]?=some o:=by rw[hd];rfl
   rw[KK] at this;simpa using this
  have h2:os.drop (i+1)=aa:=by rw[← LP,hd];rfl
  have h4:CO.starts o=ZK os i:=by simp only[ZK,h1]
  simp only[WE,Kp,List.range'_succ,ZaR,Zw,h1,Zc,ZD,h4];cases hw:ZM sl o.guard with
  | none=>rfl
  | some b=>
   cases b with
   | true=>
    simp only[Zc,Kj];cases hs:Xq (nx+64*i) o.dst sl hp (Yt C M nx i (ZK os i) o.op sl hp) with
    | none=>rfl
    | some r=>
     simp only[Zc];exact ZdT C M os nx aa (i+1) t r.1 r.2 h2
   | false=>
    simp only[Zc,Ka,Ki];exact ZdT C M os nx aa (i+1) t _ _ h2
theorem Zow {hp hp' : Hp} (h:∀ id,lkp hp id=lkp hp' id):QE (fun _=>True) hp hp':=⟨fun id _=>h id,fun _ _ _ _ _ _=>trivial⟩
theorem Zqp (C:Orc) (M:Zj) {s s' : Sl×Hp} (h:QX s s') (base:Nat) (c:COp):vop C M s.1 s.2 base c=vop C M s'.1 s'.2 base c:=by
 have h1:∀ x:Opd,evO s.1 x=evO s'.1 x:=fun x=>by cases x<;>simp only[evO];exact h.1 _
 rw[QB C M s.2 base (sl:=s.1) (sl':=s'.1) fun x _=>h1 x];exact WI (Zow h.2) C M base fun x _=>⟨fun _ _=>trivial,fun _ _ _ _ _ _ _=>trivial⟩
theorem ZmP {s s' : Sl×Hp} (h:QX s s') (g:Option (Nat×Bool)):ZM s.1 g=ZM s'.1 g:=by
 cases g with
 | none=>rfl
 | some q=>simp only[ZM,h.1]
theorem ZmQ {C:Orc} {M:Zj} {os:List CO} {nx i:Nat} {s s' r:Sl×Hp} (h:QX s s') (hr:Zw C M os nx i s=some r):∃ r',Zw C M os nx i s'=some r'∧QX r r':=by
 unfold Zw at hr ⊢;obtain⟨o,h1,hr⟩:=Za hr;rw[h1,Zc];unfold ZD at hr ⊢;obtain⟨b,h2,hr⟩:=Za hr;rw[← ZmP h,h2,Zc];cases b with
 | true=>
  simp only[Kj] at hr ⊢;obtain⟨ce,h3,h4,rfl⟩:=QK hr;have h5:Yt C M nx i (ZK os i) o.op s'.1 s'.2=some ce:=by
   rw[← h3];unfold Yt;rw[Zqp C M h]
  refine⟨ce.on o.dst s'.1 s'.2,?_,ZrB ce o.dst h⟩;unfold Xq;rw[h5,Zc,Kt h4]
 | false=>
  simp only[Ka,Ki] at hr ⊢;cases hr;refine⟨_,rfl,fun t=>?_,h.2⟩;show gs (Zl s.1 o.dst (.tup [])) t=gs (Zl s'.1 o.dst (.tup [])) t;rw[Z8,Z8,h.1 t]
theorem ZhA {C:Orc} {M:Zj} {os:List CO} {nx:Nat}:∀ {l:List Nat} {s s' r:Sl×Hp},QX s s'→ZaR C M os nx l s=some r→∃ r',ZaR C M os nx l s'=some r'∧QX r r'
 | [],s,s',r,h,hr=>by simp only[ZaR] at hr ⊢;cases hr;exact⟨s',rfl,h⟩
 | i :: l,s,s',r,h,hr=>by
  simp only[ZaR] at hr ⊢;obtain⟨s1,h1,hr⟩:=Za hr;obtain⟨aa,h2,h3⟩:=ZmQ h h1;rw[h2,Zc];exact ZhA h3 hr
theorem Qc {sl:Sl} {d:Option Nat} {v:AV} {o:CO} (h:Qn d (XA o)=true):ZM (Zl sl d v) o.guard=ZM sl o.guard:=by
 cases hg:o.guard with
 | none=>rfl
 | some q=>
  simp only[ZM];rw[Z8,Kn];intro e;rw[e] at h;simp[Qn,XA,hg,Zii] at h
theorem Yy {sl:Sl} {d:Option Nat} {v:AV} {o:CO} (h:Qn d (XA o)=true):∀ x∈Zv o.op,evO (Zl sl d v) x=evO sl x:=by
 intro x hx;cases x with
 | t n=>
  simp only[evO];rw[Z8,Kn];intro e;rw[e] at h;simp only[Qn,XA,KH,KC,KL] at h;exact h (Kd.2 (.inl (Kk.2 ⟨_,hx,by simp[Up]⟩)))
 | _=>rfl
theorem ZdU {C:Orc} {M:Zj} {nx i:Nat} {o:CO} {s s' : Sl×Hp} (h:ZD C M nx i false o s=some s') :
  ∃ v adds,s'=(Zl s.1 o.dst v,Zd s.2 adds)∧(∀ k x,(k,x)∈adds→nx+64*i≤k∧k<nx+64*i+64) ∧
   ∀ aa : Sl×Hp,ZM aa.1 o.guard=ZM s.1 o.guard→vop C M aa.1 aa.2 (nx+64*i) o.op=vop C M s.1 s.2 (nx+64*i) o.op→ZD C M nx i false o aa=some (Zl aa.1 o.dst v,Zd aa.2 adds):=by
 unfold ZD at h;obtain⟨b,hw,h⟩:=Za h;cases b with
 | true=>
  simp only[Kj] at h;obtain⟨ce,h1,h2,rfl⟩:=QK h;unfold Yt at h1;simp only[Ka,Ki] at h1;have ad:=h1;unfold Je at h1;obtain⟨c,h3,h1⟩:=Za h1;unfold Zbb at h1;split at h1
  ·rename_i e1 e2 e3 e4;cases h1;have ab:∀ s:Sl×Hp,ce.on o.dst s.1 s.2=(Zl s.1 o.dst ce.eff.val,Zd s.2 ce.eff.adds):=by
    intro s;unfold Zb.on Eff.on;rw[e1,e2,e3,e4];rfl
   refine⟨ce.eff.val,ce.eff.adds,ab s,VO h2,fun aa g1 g2=>?_⟩;unfold ZD;rw[g1,hw,Zc];simp only[Kj];unfold Xq Yt;simp only[Ka,Ki];rw[g2,ad,Zc,Kt h2,ab]
  ·cases h1
 | false=>
  simp only[Ka,Ki] at h;cases h;refine⟨.tup [],[],rfl,fun k x hk=>by simp at hk,fun aa g1 g2=>?_⟩;unfold ZD;rw[g1,hw,Zc];rfl
theorem V0 {U:Nat→Prop} {a:AV} (h:XC (.v a)=true):Zez U a:=by
 simp only[XC,Kb,List.isEmpty_iff,KH] at h;refine⟨fun id aa=>by rw[h.1] at aa;simp at aa,fun f ab hx=>?_⟩;subst hx;simp[Zki] at h
section
variable {P:Program} {nt:Nat}
def Zdv (nt:Nat) (s:Sl×Hp) (U:Nat→Prop):Prop:=∃ F A I Γ a w,Sim nt F A I Γ U s.1 s.2 a w
theorem Yz {U:Nat→Prop} {base:Nat} (hf:QD U base) {adds:Hp} (ha:∀ k x,(k,x)∈adds→base≤k∧k<base+64) (hp:Hp):∀ id,U id→lkp hp id=lkp (Zd hp adds) id:=by
 intro id hu;rw[Zu];intro o ho;obtain⟨h1,h2⟩:=ha id o ho;exact hf id h1 h2 hu
theorem Va {sl:Sl} {d e:Option Nat} (h:WP d e=true) (u v:AV) (t:Nat):gs (Zl (Zl sl d u) e v) t=gs (Zl (Zl sl e v) d u) t:=by
 simp only[Z8];by_cases h1:e=some t
 ·by_cases h2:d=some t
  ·rw[h1,h2] at h;simp[WP] at h
  ·simp[h1,h2]
 ·simp[h1]
theorem ZrC {adds aa : Hp} {b b' : Nat} (ha:∀ k x,(k,x)∈adds→b≤k∧k<b+64) (ad : ∀ k x,(k,x)∈aa→b'≤k∧k<b'+64) (hd:b+64≤b'∨b'+64≤b) (hp:Hp) (id:Nat) :
  lkp (Zd (Zd hp adds) aa) id=lkp (Zd (Zd hp aa) adds) id:=by
 have ab:∀ (l:Hp) (hp hp' : Hp),(∀ o,(id,o)∉l)→lkp (Zd hp l) id=lkp hp id:=fun l hp _ h=>Zu l hp id h;by_cases h1:∃ o,(id,o)∈adds
 ·have h2:∀ o,(id,o)∉aa:=fun o ho=>by
   obtain⟨o',ae⟩:=h1;have:=ha id o' ae;have:=ad id o ho;omega
  rw[Zu aa _ id h2];have ab:∀ (l:Hp) (hp hp' : Hp),lkp hp id=lkp hp' id→lkp (Zd hp l) id=lkp (Zd hp' l) id:=by
   intro l
   induction l with
   | nil=>intro hp hp' h;exact h
   | cons q r ih=>
    intro hp hp' h;obtain⟨k,x⟩:=q;simp only[Zd];exact ih _ _ (by rw[Z7,Z7,h])
  exact ab adds _ _ (Zu aa hp id h2).symm
 ·have h2:∀ o,(id,o)∉adds:=fun o ho=>h1 ⟨o,ho⟩;rw[Zu adds _ id h2];have ab:∀ (l:Hp) (hp hp' : Hp),lkp hp id=lkp hp' id→lkp (Zd hp l) id=lkp (Zd hp' l) id:=by
   intro l
   induction l with
   | nil=>intro hp hp' h;exact h
   | cons q r ih=>
    intro hp hp' h;obtain⟨k,x⟩:=q;simp only[Zd];exact ih _ _ (by rw[Z7,Z7,h])
  exact ab aa _ _ (Zu adds hp id h2)
theorem ZhB {C:Orc} {M:Zj} {os:List CO} {nx i j:Nat} {oi oj:CO} (an:os[i]?=some oi) (ab:os[j]?=some oj) (ae:ZK os j=false) (ao:i≠j) (af:QN oj oi=true)
  (ad:∀ (k:Nat) (o:CO),os[k]?=some o→∀ x∈Zv o.op,XC x=true) {s s1 s2:Sl×Hp} {U:Nat→Prop} (hs:Zdv nt s U) (ap:QD U (nx+64*i)) (aq:QD U (nx+64*j))
  (h1:Zw C M os nx j s=some s1) (h2:ZD C M nx i false oi s1=some s2):∃ t1,ZD C M nx i false oi s=some t1∧∃ t2,Zw C M os nx j t1=some t2∧QX t2 s2:=by
 obtain⟨F,A,I,Γ,a,w,aa⟩:=hs;simp only[QN,Kb] at af;obtain⟨⟨ag,ar⟩,ah⟩:=af;have good:∀ (k:Nat) (o:CO),os[k]?=some o→∀ x∈Zv o.op,Zez U (evO s.1 x):=by
  intro k o ho x hx;cases x with
  | t n=>exact aa.good n
  | v y=>exact V0 (ad k o ho _ hx)
  | f n=>exact⟨fun id au=>by simp[evO,Zo,Zs] at au,fun f av h c hc=>by cases h;simp at hc⟩
 simp only[Zw,ab,Zc,ae] at h1;obtain⟨vj,aj,rfl,ak,aw⟩:=ZdU h1;obtain⟨vi,ai,rfl,al,am⟩:=ZdU h2;dsimp only at am;have e1:ZD C M nx i false oi s=some (Zl s.1 oi.dst vi,Zd s.2 ai):=by
  refine am s (Qc ag).symm ?_;rw[QB C M (Zd s.2 aj) (nx+64*i) (Yy (o:=oi) ag)];exact WI (aa.agree (Yz aq ak s.2)) C M _ (good i oi an)
 refine⟨_,e1,?_⟩;have e2:ZD C M nx j false oj (Zl s.1 oi.dst vi,Zd s.2 ai)=some (Zl (Zl s.1 oi.dst vi) oj.dst vj,Zd (Zd s.2 ai) aj):=by
  refine aw (Zl s.1 oi.dst vi,Zd s.2 ai) (Qc ah) ?_;rw[QB C M (Zd s.2 ai) (nx+64*j) (Yy (o:=oj) ah)];exact(WI (aa.agree (Yz ap al s.2)) C M _ (good j oj ab)).symm
 refine⟨_,by simp only[Zw,ab,Zc,ae];exact e2,fun t=>?_,fun id=>?_⟩
 ·exact(Va ar vj vi t).symm
 ·refine ZrC al ak ?_ s.2 id;rcases Lk ao with h | h
  ·left;omega
  ·right;omega
theorem Zqq {C:Orc} {M:Zj} {os:List CO} {nx i j:Nat} {oi oj:CO} (ab:os[i]?=some oi) (ad:os[j]?=some oj) (ae:ZK os i=false) (af:ZK os j=false) (ag:i≠j) (ah:QN oj oi=true)
  (aa:∀ (k:Nat) (o:CO),os[k]?=some o→∀ x∈Zv o.op,XC x=true) {s s1 s2:Sl×Hp} {U:Nat→Prop} (hs:Zdv nt s U) (ai:QD U (nx+64*i)) (aj:QD U (nx+64*j))
  (h1:Zw C M os nx j s=some s1) (h2:Zw C M os nx i s1=some s2):∃ t1,Zw C M os nx i s=some t1∧∃ t2,Zw C M os nx j t1=some t2∧QX t2 s2:=by
 have e:∀ s:Sl×Hp,Zw C M os nx i s=ZD C M nx i false oi s:=fun s=>by simp only[Zw,ab,Zc,ae]
 rw[e] at h2;simp only[e];exact ZhB ab ad af ag ah aa hs ai aj h1 h2
end
end Go.Abs
