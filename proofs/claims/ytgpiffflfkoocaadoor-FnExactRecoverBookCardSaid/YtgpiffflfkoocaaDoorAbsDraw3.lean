/- Own text. -/
import Derived.Test.YtgpiffflfkoocaaDoorAbsDraw
import Derived.Test.YtgpiffflfkoocaaDoorAbsSound3
set_option linter.unusedVariables false
set_option linter.unusedSimpArgs false
namespace Go.Abs
open Go
section
variable {U:Nat→Prop} {hp hp' : Hp}
def Zeg (U:Nat→Prop) (x:AV):Prop:=InU U x∧∀ f caps,x=.clo f caps→∀ c∈caps,InU U c
theorem Zcs {sl:Sl}:∀ {xs:List Opd} {v:AV},v∈evL sl xs→∃ x∈xs,v=evO sl x
 | [],v,h=>by simp[evL] at h
 | x :: xs,v,h=>by
  simp only[evL] at h;rcases Ke.1 h with rfl | h
  ·exact⟨x,by simp,rfl⟩
  ·obtain⟨y,h1,h2⟩:=Zcs h;exact⟨y,Kr _ h1,h2⟩
theorem WE (h:QR U hp hp') (C:Orc) (M:Zh) {sl:Sl} (base:Nat) {c:COp} (hx:∀ x∈Zr c,Zeg U (evO sl x)):vop C M sl hp base c=vop C M sl hp' base c:=by
 cases c<;>simp only[Zr] at hx<;>simp only[vop]
 case buildSl s xs=>
  cases hv:evL sl xs with
  | nil=>rfl
  | cons v vs=>
   simp only[buildSl];rw[ZcY h];intro y hy;rw[← hv] at hy;obtain⟨z,h1,rfl⟩:=Zcs hy;exact(hx z h1).1
 case load g s a=>rw[Zmz h (hx a (by simp)).1]
 case store slc s a x=>rw[Zlk h (hx a (by simp)).1 _ _ _ _ (ZhW (hx x (by simp)).1)]
 case slice s x lo hi=>rw[Zlg h (hx x (by simp)).1]
 case slice0 x hi mx=>unfold slice0;rw[Zdy h (hx x (by simp)).1]
 case slice3 s x lo hi mx=>unfold slice3;rw[Zdy h (hx x (by simp)).1]
 case clear s z x=>rw[Zlh h (hx x (by simp)).1]
 case iaS s x i=>
  congr 1
  funext n
  simp only[Zc8];rw[Zfn h (hx x (by simp)).1]
 case len x=>rw[Zdy h (hx x (by simp)).1]
 case append s b str flat x y=>
  simp only[Zm7];rw[Zee h (hx x (by simp)).1,Zee h (hx y (by simp)).1];generalize Xe hp' (evO sl x)=mx;generalize Xe hp' (evO sl y)=my;cases mx with
  | nil=>simp only[JU];rw[ZcW h (hx x (by simp)).1 (hx y (by simp)).1]
  | cons i r=>
   cases my with
   | nil=>simp only[JU];rw[ZcW h (hx x (by simp)).1 (hx y (by simp)).1]
   | cons j t=>simp only[JU];rw[ZhV h (hx x (by simp)).1 (hx y (by simp)).1]
 case appT s b f x y=>exact ZhV h (hx x (by simp)).1 (hx y (by simp)).1 s b base
 case buildT s n xs=>
  refine Zlj h fun y hy=>?_;obtain⟨z,h1,rfl⟩:=Zcs hy;exact(hx z h1).1
 case call f as=>
  have hf:=hx f (by simp);cases he:evO sl f<;>simp only[JV]
  rename_i g aa;refine ZmD h C (M g) base g fun y hy=>?_;rcases Kd.1 hy with hy | hy
  ·obtain⟨z,h1,rfl⟩:=Zcs hy;exact(hx z (by simp[h1])).1
  ·exact hf.2 g aa he y hy
theorem Zj6 {Γ:Gh} {w:World} {I:Nat→Prop} {x:AV} {v:Value} (h:XY Γ w I x v):∀ id∈Zg x,∃ r,Γ id=some r:=by
 intro id aa;cases x<;>simp only[Zg,Kz,KI,Ke,or_false] at aa
 case ptr i off=>subst aa;obtain⟨b,h1,_⟩:=h;exact⟨_,h1⟩
 case prow i sz k off=>subst aa;obtain⟨b,n,c,h1,_⟩:=h;exact⟨_,h1⟩
 case own i=>subst aa;obtain⟨a,n,c,sz,h1,_⟩:=h;exact⟨_,h1⟩
 case ownv i off n=>subst aa;obtain⟨a0,m,c,sz,a,h1,_⟩:=h;exact⟨_,h1⟩
 case bnil i e=>subst aa;obtain⟨b,h1,_⟩:=h;exact⟨_,h1⟩
theorem Zfo {Γ:Gh} {w:World} {I:Nat→Prop}:∀ {xs:List AV} {vs:List Value},Zm (XY Γ w I) xs vs→∀ id∈xs.flatMap Zg,∃ r,Γ id=some r
 | [],[],_,id,aa=>by simp at aa
 | [],_ :: _,h,_,_=>h.elim
 | _ :: _,[],h,_,_=>h.elim
 | x :: xs,v :: vs,h,id,aa=>by
  simp only[Kw,Kd] at aa;rcases aa with aa | aa
  ·exact Zj6 h.1 id aa
  ·exact Zfo h.2 id aa
theorem Zfp {Γ:Gh} {w:World} {I:Nat→Prop} {x:AV} {v:Value} (h:Wp Γ w I x v):∀ id∈Zo x,∃ r,Γ id=some r:=by
 intro id aa;by_cases hs:x.small=true
 ·rw[(XQ hs (fun k=>k) []).2.2.2.2.2] at aa;rw[(Vf hs v).2.1] at h;exact Zj6 h id aa
 ·cases x with
  | agg cs=>obtain⟨us,_,h2⟩:=h;exact Zfo h2 id aa
  | clo f cs=>obtain⟨us,_,h2⟩:=h;exact Zfo h2 id aa
  | tup cs=>exact h.elim
  | d x=>simp[Zo,Zg] at aa
  | _=>exact absurd rfl hs
theorem Zp4 {Γ:Gh} {w:World} {I:Nat→Prop} {x:AV} {v:Value} (h:Q3 Γ w I x v):∀ id∈Zo x,∃ r,Γ id=some r:=Zfp h.rep2
theorem Zh1 {Γ:Gh} {w:World} {I:Nat→Prop}:∀ {xs:List AV} {vs:List Value},Zm (Wp Γ w I) xs vs→∀ id∈xs.flatMap Zo,∃ r,Γ id=some r
 | [],[],_,id,aa=>by simp at aa
 | [],_ :: _,h,_,_=>h.elim
 | _ :: _,[],h,_,_=>h.elim
 | x :: xs,v :: vs,h,id,aa=>by
  simp only[Kw,Kd] at aa;rcases aa with aa | aa
  ·exact Zfp h.1 id aa
  ·exact Zh1 h.2 id aa
theorem ZmE {Γ:Gh} {w:World} {I:Nat→Prop} {x:AV} {v:Value} (h:Rep Γ w I x v):∀ id∈Zl x,∃ r,Γ id=some r:=by
 intro id aa;by_cases ht:∃ vs,x=.tup vs
 ·obtain⟨vs,rfl⟩:=ht;obtain⟨us,_,h2⟩:=h;exact Zh1 h2 id aa
 ·have e:Rep Γ w I x v=Wp Γ w I x v:=by cases x<;>first | rfl | exact absurd ⟨_,rfl⟩ ht
  rw[e] at h;refine Zfp h id ?_;cases x<;>first | exact aa | exact absurd ⟨_,rfl⟩ ht
theorem Zh2 {Γ:Gh} {w:World} {I:Nat→Prop}:∀ {xs:List AV} {vs:List Value},Zm (Q3 Γ w I) xs vs→∀ id∈xs.flatMap Zo,∃ r,Γ id=some r
 | [],[],_,id,aa=>by simp at aa
 | [],_ :: _,h,_,_=>h.elim
 | _ :: _,[],h,_,_=>h.elim
 | x :: xs,v :: vs,h,id,aa=>by
  simp only[Kw,Kd] at aa;rcases aa with aa | aa
  ·exact Zp4 h.1 id aa
  ·exact Zh2 h.2 id aa
theorem ZrH {Γ:Gh} {w:World} {I:Nat→Prop} {x:AV} {v:Value} (hn:∀ id,¬U id→Γ id=none) (h:Rep Γ w I x v):Zeg U x:=by
 have ab:∀ id,(∃ r,Γ id=some r)→U id:=fun id ⟨r,hr⟩=>Classical.byContradiction fun hu=>by rw[hn id hu] at hr;cases hr
 refine⟨fun id aa=>ab id (ZmE h id aa),fun f ad hx c hc=>?_⟩;subst hx;obtain⟨us,_,h2⟩:=h;obtain⟨i,hi⟩:=LJ hc;obtain⟨u,_,h3⟩:=h2.get i c hi;exact fun id aa=>ab id (ZmE h3.rep2.rep id aa)
end
section
variable {P:Program} {nt:Nat} {F A I:Nat→Prop} {Γ:Gh} {U:Nat→Prop} {sl:Sl} {hp:Hp} {a:Act} {w:World}
theorem Sim.good (h:Sim nt F A I Γ U sl hp a w) (t:Nat):Zeg U (gs sl t):=ZrH h.names (h.slots t)
theorem Sim.agree (h:Sim nt F A I Γ U sl hp a w) {hp' : Hp} (hs:∀ id,U id→lkp hp id=lkp hp' id):QR U hp hp':=by
 refine⟨hs,fun id o hu hl i hi=>?_⟩;have ho:=h.objs id o hl;cases o with
 | box cs=>
  obtain⟨b,cur,e,_,_,_,_,h5,_⟩:=ho;obtain⟨r,hr⟩:=Zh2 h5 i hi;exact Classical.byContradiction fun hu=>by rw[h.names i hu] at hr;cases hr
 | row sz xs ex fz=>simp[Wf] at hi
 | gone=>simp[Wf] at hi
 | tree sz ns xs lk=>simp[Wf] at hi
theorem Oper.wp_ex {o:Oper} {a:Act} {w:World} {K:Act→World→Prop} (h:o.wp P a w K (fun _ _ _=>False)):∃ a' w',K a' w':=by
 unfold Oper.wp at h;generalize (execOp a.eval o).run P w=r at h;cases r with
 | ok n w' =>
  cases n<;>simp only[Oper.upon] at h
  case value v=>exact⟨_,_,h⟩
  case skip=>exact⟨_,_,h⟩
  case defer d=>exact⟨_,_,h⟩
  case enter f args=>
   obtain⟨e,aa,fr,he,_⟩:=h [];cases e with
   | returned v=>exact⟨_,_,he⟩
   | panicked c=>exact he.elim
   | outgrown=>obtain⟨a,w,hf⟩:=he;exact hf.elim
  case row row args=>
   obtain⟨v,aa,he,_⟩:=h default [];exact⟨_,_,he⟩
 | halt x w'=>cases x<;>simp only[Oper.upon] at h
end
end Go.Abs
set_option linter.unusedVariables false
set_option linter.unusedSimpArgs false
namespace Go.Abs
open Go
def Xa (s s' : Sl×Hp):Prop:=(∀ t,gs s.1 t=gs s'.1 t)∧∀ id,lkp s.2 id=lkp s'.2 id
theorem Xa.refl (s:Sl×Hp):Xa s s:=⟨fun _=>rfl,fun _=>rfl⟩
theorem Xa.symm {s s' : Sl×Hp} (h:Xa s s'):Xa s' s:=⟨fun t=>(h.1 t).symm,fun id=>(h.2 id).symm⟩
theorem Xa.trans {a b c:Sl×Hp} (h:Xa a b) (k:Xa b c):Xa a c:=⟨fun t=>(h.1 t).trans (k.1 t),fun id=>(h.2 id).trans (k.2 id)⟩
theorem Uw:∀ (l:Hp) {hp hp' : Hp},(∀ id,lkp hp id=lkp hp' id)→∀ id,lkp (Zd hp l) id=lkp (Zd hp' l) id
 | [],_,_,h=>h
 | (k,o) :: r,hp,hp',h=>by
  simp only[Zd];exact Uw r fun id=>by rw[Qa,Qa,h id]
theorem Zeh:∀ (l:List Nat) {hp hp' : Hp},(∀ id,lkp hp id=lkp hp' id)→∀ id,lkp (ZW hp l) id=lkp (ZW hp' l) id
 | [],_,_,h=>h
 | d :: r,hp,hp',h=>by
  simp only[ZW];exact Zeh r fun id=>by rw[Zbe,Zbe,h id]
theorem ZrI (ce:Zb) (dst:Option Nat) {s s' : Sl×Hp} (h:Xa s s'):Xa (ce.on dst s.1 s.2) (ce.on dst s'.1 s'.2):=by
 refine⟨fun t=>?_,fun id=>?_⟩
 ·show gs (Zi (QN ce.gone s.1) dst ce.eff.val) t=gs (Zi (QN ce.gone s'.1) dst ce.eff.val) t;rw[Qb,Qb,Qt,Qt,h.1 t]
 ·exact Uw _ (Uw _ (Zeh _ fun id=>by rw[ZV,ZV,YW,YW,h.2 id])) id
noncomputable def Zy (C:Orc) (M:Zh) (nx i:Nat) (t:Bool) (o:CO) (s:Sl×Hp):Option (Sl×Hp):=
 bnd (ZK s.1 o.guard) fun b=>if b then XS (nx+64*i) o.dst s.1 s.2 (YM C M nx i t o.op s.1 s.2) else some (Zi s.1 o.dst (.tup []),s.2)
noncomputable def Zs (C:Orc) (M:Zh) (os:List CO) (nx i:Nat) (s:Sl×Hp):Option (Sl×Hp):=bnd os[i]? fun o=>Zy C M nx i (ZI os i) o s
noncomputable def ZaN (C:Orc) (M:Zh) (os:List CO) (nx:Nat):List Nat→Sl×Hp→Option (Sl×Hp)
 | [],s=>some s
 | i :: l,s=>bnd (Zs C M os nx i s) (ZaN C M os nx l)
theorem Zdz (C:Orc) (M:Zh) (os:List CO) (nx:Nat):∀ (aa:List CO) (i:Nat) (t:Bool) (sl:Sl) (hp:Hp),os.drop i=aa →
  Wy C M nx i t aa sl hp=ZaN C M os nx (List.range' i aa.length) (sl,hp)
 | [],i,t,sl,hp,_=>rfl
 | o :: aa,i,t,sl,hp,hd=>by
  have h1:os[i]?=some o:=by
   have:(os.drop i)[0]?=some o:=by rw[hd];rfl
   rw[KM] at this;simpa using this
  have h2:os.drop (i+1)=aa:=by rw[← L1,hd];rfl
  have h4:CO.starts o=ZI os i:=by simp only[ZI,h1]
  simp only[Wy,Km,List.range'_succ,ZaN,Zs,h1,Zc,Zy,h4];cases hw:ZK sl o.guard with
  | none=>rfl
  | some b=>
   cases b with
   | true=>
    simp only[Zc,Kl];cases hs:XS (nx+64*i) o.dst sl hp (YM C M nx i (ZI os i) o.op sl hp) with
    | none=>rfl
    | some r=>
     simp only[Zc];exact Zdz C M os nx aa (i+1) t r.1 r.2 h2
   | false=>
    simp only[Zc,Ka,Kn];exact Zdz C M os nx aa (i+1) t _ _ h2
theorem ZnY {hp hp' : Hp} (h:∀ id,lkp hp id=lkp hp' id):QR (fun _=>True) hp hp':=⟨fun id _=>h id,fun _ _ _ _ _ _=>trivial⟩
theorem Zp5 (C:Orc) (M:Zh) {s s' : Sl×Hp} (h:Xa s s') (base:Nat) (c:COp):vop C M s.1 s.2 base c=vop C M s'.1 s'.2 base c:=by
 have h1:∀ x:Opd,evO s.1 x=evO s'.1 x:=fun x=>by cases x<;>simp only[evO];exact h.1 _
 rw[QO C M s.2 base (sl:=s.1) (sl':=s'.1) fun x _=>h1 x];exact WE (ZnY h.2) C M base fun x _=>⟨fun _ _=>trivial,fun _ _ _ _ _ _ _=>trivial⟩
theorem ZmF {s s' : Sl×Hp} (h:Xa s s') (g:Option (Nat×Bool)):ZK s.1 g=ZK s'.1 g:=by
 cases g with
 | none=>rfl
 | some q=>simp only[ZK,h.1]
theorem ZmG {C:Orc} {M:Zh} {os:List CO} {nx i:Nat} {s s' r:Sl×Hp} (h:Xa s s') (hr:Zs C M os nx i s=some r):∃ r',Zs C M os nx i s'=some r'∧Xa r r':=by
 unfold Zs at hr ⊢;obtain⟨o,h1,hr⟩:=Za hr;rw[h1,Zc];unfold Zy at hr ⊢;obtain⟨b,h2,hr⟩:=Za hr;rw[← ZmF h,h2,Zc];cases b with
 | true=>
  simp only[Kl] at hr ⊢;obtain⟨ce,h3,h4,rfl⟩:=Q0 hr;have h5:YM C M nx i (ZI os i) o.op s'.1 s'.2=some ce:=by
   rw[← h3];unfold YM;rw[Zp5 C M h]
  refine⟨ce.on o.dst s'.1 s'.2,?_,ZrI ce o.dst h⟩;unfold XS;rw[h5,Zc,Ko h4]
 | false=>
  simp only[Ka,Kn] at hr ⊢;cases hr;refine⟨_,rfl,fun t=>?_,h.2⟩;show gs (Zi s.1 o.dst (.tup [])) t=gs (Zi s'.1 o.dst (.tup [])) t;rw[Qb,Qb,h.1 t]
theorem Zh3 {C:Orc} {M:Zh} {os:List CO} {nx:Nat}:∀ {l:List Nat} {s s' r:Sl×Hp},Xa s s'→ZaN C M os nx l s=some r→∃ r',ZaN C M os nx l s'=some r'∧Xa r r'
 | [],s,s',r,h,hr=>by simp only[ZaN] at hr ⊢;cases hr;exact⟨s',rfl,h⟩
 | i :: l,s,s',r,h,hr=>by
  simp only[ZaN] at hr ⊢;obtain⟨s1,h1,hr⟩:=Za hr;obtain⟨aa,h2,h3⟩:=ZmG h h1;rw[h2,Zc];exact Zh3 h3 hr
theorem Qg {sl:Sl} {d:Option Nat} {v:AV} {o:CO} (h:Qr d (looks o)=true):ZK (Zi sl d v) o.guard=ZK sl o.guard:=by
 cases hg:o.guard with
 | none=>rfl
 | some q=>
  simp only[ZK];rw[Qb,Kf];intro e;rw[e] at h;simp[Qr,looks,hg,ZiM] at h
theorem YY {sl:Sl} {d:Option Nat} {v:AV} {o:CO} (h:Qr d (looks o)=true):∀ x∈Zr o.op,evO (Zi sl d v) x=evO sl x:=by
 intro x hx;cases x with
 | t n=>
  simp only[evO];rw[Qb,Kf];intro e;rw[e] at h;simp only[Qr,looks,KR,KK,KV] at h;exact h (Kd.2 (.inl (Kq.2 ⟨_,hx,by simp[Ui]⟩)))
 | _=>rfl
theorem ZdA {C:Orc} {M:Zh} {nx i:Nat} {o:CO} {s s' : Sl×Hp} (h:Zy C M nx i false o s=some s') :
  ∃ v adds,s'=(Zi s.1 o.dst v,Zd s.2 adds)∧(∀ k x,(k,x)∈adds→nx+64*i≤k∧k<nx+64*i+64) ∧
   ∀ aa : Sl×Hp,ZK aa.1 o.guard=ZK s.1 o.guard→vop C M aa.1 aa.2 (nx+64*i) o.op=vop C M s.1 s.2 (nx+64*i) o.op→Zy C M nx i false o aa=some (Zi aa.1 o.dst v,Zd aa.2 adds):=by
 unfold Zy at h;obtain⟨b,hw,h⟩:=Za h;cases b with
 | true=>
  simp only[Kl] at h;obtain⟨ce,h1,h2,rfl⟩:=Q0 h;unfold YM at h1;simp only[Ka,Kn] at h1;have ad:=h1;unfold Jn at h1;obtain⟨c,h3,h1⟩:=Za h1;unfold Za8 at h1;split at h1
  ·rename_i e1 e2 e3 e4;cases h1;have ab:∀ s:Sl×Hp,ce.on o.dst s.1 s.2=(Zi s.1 o.dst ce.eff.val,Zd s.2 ce.eff.adds):=by
    intro s;unfold Zb.on Eff.on;rw[e1,e2,e3,e4];rfl
   refine⟨ce.eff.val,ce.eff.adds,ab s,V5 h2,fun aa g1 g2=>?_⟩;unfold Zy;rw[g1,hw,Zc];simp only[Kl];unfold XS YM;simp only[Ka,Kn];rw[g2,ad,Zc,Ko h2,ab]
  ·cases h1
 | false=>
  simp only[Ka,Kn] at h;cases h;refine⟨.tup [],[],rfl,fun k x hk=>by simp at hk,fun aa g1 g2=>?_⟩;unfold Zy;rw[g1,hw,Zc];rfl
theorem Wh {U:Nat→Prop} {a:AV} (h:X0 (.v a)=true):Zeg U a:=by
 simp only[X0,Kc,List.isEmpty_iff,KR] at h;refine⟨fun id aa=>by rw[h.1] at aa;simp at aa,fun f ab hx=>?_⟩;subst hx;simp[ZjV] at h
section
variable {P:Program} {nt:Nat}
def Zc0 (nt:Nat) (s:Sl×Hp) (U:Nat→Prop):Prop:=∃ F A I Γ a w,Sim nt F A I Γ U s.1 s.2 a w
theorem YZ {U:Nat→Prop} {base:Nat} (hf:QQ U base) {adds:Hp} (ha:∀ k x,(k,x)∈adds→base≤k∧k<base+64) (hp:Hp):∀ id,U id→lkp hp id=lkp (Zd hp adds) id:=by
 intro id hu;rw[Zq];intro o ho;obtain⟨h1,h2⟩:=ha id o ho;exact hf id h1 h2 hu
theorem Vy {sl:Sl} {d e:Option Nat} (h:WK d e=true) (u v:AV) (t:Nat):gs (Zi (Zi sl d u) e v) t=gs (Zi (Zi sl e v) d u) t:=by
 simp only[Qb];by_cases h1:e=some t
 ·by_cases h2:d=some t
  ·rw[h1,h2] at h;simp[WK] at h
  ·simp[h1,h2]
 ·simp[h1]
theorem ZrJ {adds aa : Hp} {b b' : Nat} (ha:∀ k x,(k,x)∈adds→b≤k∧k<b+64) (ad : ∀ k x,(k,x)∈aa→b'≤k∧k<b'+64) (hd:b+64≤b'∨b'+64≤b) (hp:Hp) (id:Nat) :
  lkp (Zd (Zd hp adds) aa) id=lkp (Zd (Zd hp aa) adds) id:=by
 have ab:∀ (l:Hp) (hp hp' : Hp),(∀ o,(id,o)∉l)→lkp (Zd hp l) id=lkp hp id:=fun l hp _ h=>Zq l hp id h;by_cases h1:∃ o,(id,o)∈adds
 ·have h2:∀ o,(id,o)∉aa:=fun o ho=>by
   obtain⟨o',ae⟩:=h1;have:=ha id o' ae;have:=ad id o ho;omega
  rw[Zq aa _ id h2];have ab:∀ (l:Hp) (hp hp' : Hp),lkp hp id=lkp hp' id→lkp (Zd hp l) id=lkp (Zd hp' l) id:=by
   intro l
   induction l with
   | nil=>intro hp hp' h;exact h
   | cons q r ih=>
    intro hp hp' h;obtain⟨k,x⟩:=q;simp only[Zd];exact ih _ _ (by rw[Qa,Qa,h])
  exact ab adds _ _ (Zq aa hp id h2).symm
 ·have h2:∀ o,(id,o)∉adds:=fun o ho=>h1 ⟨o,ho⟩;rw[Zq adds _ id h2];have ab:∀ (l:Hp) (hp hp' : Hp),lkp hp id=lkp hp' id→lkp (Zd hp l) id=lkp (Zd hp' l) id:=by
   intro l
   induction l with
   | nil=>intro hp hp' h;exact h
   | cons q r ih=>
    intro hp hp' h;obtain⟨k,x⟩:=q;simp only[Zd];exact ih _ _ (by rw[Qa,Qa,h])
  exact ab aa _ _ (Zq adds hp id h2)
theorem Zh4 {C:Orc} {M:Zh} {os:List CO} {nx i j:Nat} {oi oj:CO} (an:os[i]?=some oi) (ab:os[j]?=some oj) (ae:ZI os j=false) (ao:i≠j) (af:Q4 oj oi=true)
  (ad:∀ (k:Nat) (o:CO),os[k]?=some o→∀ x∈Zr o.op,X0 x=true) {s s1 s2:Sl×Hp} {U:Nat→Prop} (hs:Zc0 nt s U) (ap:QQ U (nx+64*i)) (aq:QQ U (nx+64*j))
  (h1:Zs C M os nx j s=some s1) (h2:Zy C M nx i false oi s1=some s2):∃ t1,Zy C M nx i false oi s=some t1∧∃ t2,Zs C M os nx j t1=some t2∧Xa t2 s2:=by
 obtain⟨F,A,I,Γ,a,w,aa⟩:=hs;simp only[Q4,Kc] at af;obtain⟨⟨ag,ar⟩,ah⟩:=af;have good:∀ (k:Nat) (o:CO),os[k]?=some o→∀ x∈Zr o.op,Zeg U (evO s.1 x):=by
  intro k o ho x hx;cases x with
  | t n=>exact aa.good n
  | v y=>exact Wh (ad k o ho _ hx)
  | f n=>exact⟨fun id au=>by simp[evO,Zl,Zo] at au,fun f av h c hc=>by cases h;simp at hc⟩
 simp only[Zs,ab,Zc,ae] at h1;obtain⟨vj,aj,rfl,ak,aw⟩:=ZdA h1;obtain⟨vi,ai,rfl,al,am⟩:=ZdA h2;dsimp only at am;have e1:Zy C M nx i false oi s=some (Zi s.1 oi.dst vi,Zd s.2 ai):=by
  refine am s (Qg ag).symm ?_;rw[QO C M (Zd s.2 aj) (nx+64*i) (YY (o:=oi) ag)];exact WE (aa.agree (YZ aq ak s.2)) C M _ (good i oi an)
 refine⟨_,e1,?_⟩;have e2:Zy C M nx j false oj (Zi s.1 oi.dst vi,Zd s.2 ai)=some (Zi (Zi s.1 oi.dst vi) oj.dst vj,Zd (Zd s.2 ai) aj):=by
  refine aw (Zi s.1 oi.dst vi,Zd s.2 ai) (Qg ah) ?_;rw[QO C M (Zd s.2 ai) (nx+64*j) (YY (o:=oj) ah)];exact(WE (aa.agree (YZ ap al s.2)) C M _ (good j oj ab)).symm
 refine⟨_,by simp only[Zs,ab,Zc,ae];exact e2,fun t=>?_,fun id=>?_⟩
 ·exact(Vy ar vj vi t).symm
 ·refine ZrJ al ak ?_ s.2 id;rcases LB ao with h | h
  ·left;omega
  ·right;omega
theorem Zp6 {C:Orc} {M:Zh} {os:List CO} {nx i j:Nat} {oi oj:CO} (ab:os[i]?=some oi) (ad:os[j]?=some oj) (ae:ZI os i=false) (af:ZI os j=false) (ag:i≠j) (ah:Q4 oj oi=true)
  (aa:∀ (k:Nat) (o:CO),os[k]?=some o→∀ x∈Zr o.op,X0 x=true) {s s1 s2:Sl×Hp} {U:Nat→Prop} (hs:Zc0 nt s U) (ai:QQ U (nx+64*i)) (aj:QQ U (nx+64*j))
  (h1:Zs C M os nx j s=some s1) (h2:Zs C M os nx i s1=some s2):∃ t1,Zs C M os nx i s=some t1∧∃ t2,Zs C M os nx j t1=some t2∧Xa t2 s2:=by
 have e:∀ s:Sl×Hp,Zs C M os nx i s=Zy C M nx i false oi s:=fun s=>by simp only[Zs,ab,Zc,ae]
 rw[e] at h2;simp only[e];exact Zh4 ab ad af ag ah aa hs ai aj h1 h2
end
end Go.Abs
