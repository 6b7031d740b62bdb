/- Own text. -/
import Derived.Test.YtnachaiejoflhaaAbsDraw
import Derived.Test.YtnachaiejoflhaaAbsSound3
set_option linter.unusedVariables false
set_option linter.unusedSimpArgs false
namespace Go.Abs
open Go
section
variable {U:Nat→Prop} {hp hp' : Hp}
def ZcS (U:Nat→Prop) (x:AV):Prop:=InU U x∧∀ f caps,x=.clo f caps→∀ c∈caps,InU U c
theorem Zbj {sl:Sl}:∀ {xs:List Opd} {v:AV},v∈evL sl xs→∃ x∈xs,v=evO sl x
 | [],v,h=>by simp[evL] at h
 | x :: xs,v,h=>by
  simp only[evL] at h;rcases Ke.1 h with rfl | h
  ·exact⟨x,by simp,rfl⟩
  ·obtain⟨y,h1,h2⟩:=Zbj h;exact⟨y,Km _ h1,h2⟩
theorem VO (h:Qw U hp hp') (C:Orc) (M:Zf) {sl:Sl} (base:Nat) {c:COp} (hx:∀ x∈Zq c,ZcS U (evO sl x)):vop C M sl hp base c=vop C M sl hp' base c:=by
 cases c<;>simp only[Zq] at hx<;>simp only[vop]
 case buildSl s xs=>
  cases hv:evL sl xs with
  | nil=>rfl
  | cons v vs=>
   simp only[buildSl];rw[ZbO h];intro y hy;rw[← hv] at hy;obtain⟨z,h1,rfl⟩:=Zbj hy;exact(hx z h1).1
 case load g s a=>rw[ZkX h (hx a (by simp)).1]
 case store slc s a x=>rw[ZjE h (hx a (by simp)).1 _ _ _ _ (Zgd (hx x (by simp)).1)]
 case slice s x lo hi=>rw[ZjA h (hx x (by simp)).1]
 case slice0 x hi mx=>unfold slice0;rw[Zck h (hx x (by simp)).1]
 case slice3 s x lo hi mx=>unfold slice3;rw[Zck h (hx x (by simp)).1]
 case clear s z x=>rw[ZjB h (hx x (by simp)).1]
 case iaS s x i=>
  congr 1
  funext n
  simp only[ZbY];rw[ZdL h (hx x (by simp)).1]
 case len x=>rw[Zck h (hx x (by simp)).1]
 case append s b str flat x y=>
  simp only[Zlu];rw[ZcQ h (hx x (by simp)).1,ZcQ h (hx y (by simp)).1,ZhX h (hx x (by simp)).1 (hx y (by simp)).1]
 case appT s b f x y=>exact Zma h (hx x (by simp)).1 (hx y (by simp)).1 s b base
 case buildT s n xs=>
  refine ZjD h fun y hy=>?_;obtain⟨z,h1,rfl⟩:=Zbj hy;exact(hx z h1).1
 case call f as=>
  have hf:=hx f (by simp);cases he:evO sl f<;>simp only[U3]
  rename_i g aa;refine Zk1 h C (M g) base g fun y hy=>?_;rcases Kd.1 hy with hy | hy
  ·obtain⟨z,h1,rfl⟩:=Zbj hy;exact(hx z (by simp[h1])).1
  ·exact hf.2 g aa he y hy
theorem Zim {Γ:Gh} {w:World} {I:Nat→Prop} {x:AV} {v:Value} (h:Xc Γ w I x v):∀ id∈Ze x,∃ r,Γ id=some r:=by
 intro id aa;cases x<;>simp only[Ze,KQ,LC,Ke,or_false] at aa
 case ptr i off=>subst aa;obtain⟨b,h1,_⟩:=h;exact⟨_,h1⟩
 case prow i sz k off=>subst aa;obtain⟨b,n,c,h1,_⟩:=h;exact⟨_,h1⟩
 case own i=>subst aa;obtain⟨a,n,c,sz,h1,_⟩:=h;exact⟨_,h1⟩
 case ownv i off n=>subst aa;obtain⟨a0,m,c,sz,a,h1,_⟩:=h;exact⟨_,h1⟩
 case bnil i e=>subst aa;obtain⟨b,h1,_⟩:=h;exact⟨_,h1⟩
theorem ZdM {Γ:Gh} {w:World} {I:Nat→Prop}:∀ {xs:List AV} {vs:List Value},Zm (Xc Γ w I) xs vs→∀ id∈xs.flatMap Ze,∃ r,Γ id=some r
 | [],[],_,id,aa=>by simp at aa
 | [],_ :: _,h,_,_=>h.elim
 | _ :: _,[],h,_,_=>h.elim
 | x :: xs,v :: vs,h,id,aa=>by
  simp only[Kq,Kd] at aa;rcases aa with aa | aa
  ·exact Zim h.1 id aa
  ·exact ZdM h.2 id aa
theorem ZdN {Γ:Gh} {w:World} {I:Nat→Prop} {x:AV} {v:Value} (h:Vt Γ w I x v):∀ id∈Zn x,∃ r,Γ id=some r:=by
 intro id aa;by_cases hs:x.small=true
 ·rw[(Q3 hs (fun k=>k) []).2.2.2.2.2] at aa;rw[(Ye hs v).2.1] at h;exact Zim h id aa
 ·cases x with
  | agg cs=>obtain⟨us,_,h2⟩:=h;exact ZdM h2 id aa
  | clo f cs=>obtain⟨us,_,h2⟩:=h;exact ZdM h2 id aa
  | tup cs=>exact h.elim
  | d x=>simp[Zn,Ze] at aa
  | _=>exact absurd rfl hs
theorem ZnX {Γ:Gh} {w:World} {I:Nat→Prop} {x:AV} {v:Value} (h:QJ Γ w I x v):∀ id∈Zn x,∃ r,Γ id=some r:=ZdN h.rep2
theorem Zgi {Γ:Gh} {w:World} {I:Nat→Prop}:∀ {xs:List AV} {vs:List Value},Zm (Vt Γ w I) xs vs→∀ id∈xs.flatMap Zn,∃ r,Γ id=some r
 | [],[],_,id,aa=>by simp at aa
 | [],_ :: _,h,_,_=>h.elim
 | _ :: _,[],h,_,_=>h.elim
 | x :: xs,v :: vs,h,id,aa=>by
  simp only[Kq,Kd] at aa;rcases aa with aa | aa
  ·exact ZdN h.1 id aa
  ·exact Zgi h.2 id aa
theorem Zk2 {Γ:Gh} {w:World} {I:Nat→Prop} {x:AV} {v:Value} (h:Rep Γ w I x v):∀ id∈Zl x,∃ r,Γ id=some r:=by
 intro id aa;by_cases ht:∃ vs,x=.tup vs
 ·obtain⟨vs,rfl⟩:=ht;obtain⟨us,_,h2⟩:=h;exact Zgi h2 id aa
 ·have e:Rep Γ w I x v=Vt Γ w I x v:=by cases x<;>first | rfl | exact absurd ⟨_,rfl⟩ ht
  rw[e] at h;refine ZdN h id ?_;cases x<;>first | exact aa | exact absurd ⟨_,rfl⟩ ht
theorem Zgj {Γ:Gh} {w:World} {I:Nat→Prop}:∀ {xs:List AV} {vs:List Value},Zm (QJ Γ w I) xs vs→∀ id∈xs.flatMap Zn,∃ r,Γ id=some r
 | [],[],_,id,aa=>by simp at aa
 | [],_ :: _,h,_,_=>h.elim
 | _ :: _,[],h,_,_=>h.elim
 | x :: xs,v :: vs,h,id,aa=>by
  simp only[Kq,Kd] at aa;rcases aa with aa | aa
  ·exact ZnX h.1 id aa
  ·exact Zgj h.2 id aa
theorem Zpq {Γ:Gh} {w:World} {I:Nat→Prop} {x:AV} {v:Value} (hn:∀ id,¬U id→Γ id=none) (h:Rep Γ w I x v):ZcS U x:=by
 have ab:∀ id,(∃ r,Γ id=some r)→U id:=fun id ⟨r,hr⟩=>Classical.byContradiction fun hu=>by rw[hn id hu] at hr;cases hr
 refine⟨fun id aa=>ab id (Zk2 h id aa),fun f ad hx c hc=>?_⟩;subst hx;obtain⟨us,_,h2⟩:=h;obtain⟨i,hi⟩:=Lh hc;obtain⟨u,_,h3⟩:=h2.get i c hi;exact fun id aa=>ab id (Zk2 h3.rep2.rep id aa)
end
section
variable {P:Program} {nt:Nat} {F A I:Nat→Prop} {Γ:Gh} {U:Nat→Prop} {sl:Sl} {hp:Hp} {a:Act} {w:World}
theorem Sim.good (h:Sim nt F A I Γ U sl hp a w) (t:Nat):ZcS U (gs sl t):=Zpq h.names (h.slots t)
theorem Sim.agree (h:Sim nt F A I Γ U sl hp a w) {hp' : Hp} (hs:∀ id,U id→lkp hp id=lkp hp' id):Qw U hp hp':=by
 refine⟨hs,fun id o hu hl i hi=>?_⟩;have ho:=h.objs id o hl;cases o with
 | box cs=>
  obtain⟨b,cur,e,_,_,_,_,h5,_⟩:=ho;obtain⟨r,hr⟩:=Zgj h5 i hi;exact Classical.byContradiction fun hu=>by rw[h.names i hu] at hr;cases hr
 | row sz xs ex fz=>simp[Vh] at hi
 | gone=>simp[Vh] at hi
 | tree sz ns xs lk=>simp[Vh] at hi
theorem Oper.wp_ex {o:Oper} {a:Act} {w:World} {K:Act→World→Prop} (h:o.wp P a w K (fun _ _ _=>False)):∃ a' w',K a' w':=by
 unfold Oper.wp at h;generalize (execOp a.eval o).run P w=r at h;cases r with
 | ok n w' =>
  cases n<;>simp only[Oper.upon] at h
  case value v=>exact⟨_,_,h⟩
  case skip=>exact⟨_,_,h⟩
  case defer d=>exact⟨_,_,h⟩
  case enter f args=>
   obtain⟨e,aa,fr,he,_⟩:=h [];cases e with
   | returned v=>exact⟨_,_,he⟩
   | panicked c=>exact he.elim
   | outgrown=>obtain⟨a,w,hf⟩:=he;exact hf.elim
  case row row args=>
   obtain⟨v,aa,he,_⟩:=h default [];exact⟨_,_,he⟩
 | halt x w'=>cases x<;>simp only[Oper.upon] at h
end
end Go.Abs
set_option linter.unusedVariables false
set_option linter.unusedSimpArgs false
namespace Go.Abs
open Go
def QL (s s' : Sl×Hp):Prop:=(∀ t,gs s.1 t=gs s'.1 t)∧∀ id,lkp s.2 id=lkp s'.2 id
theorem QL.refl (s:Sl×Hp):QL s s:=⟨fun _=>rfl,fun _=>rfl⟩
theorem QL.symm {s s' : Sl×Hp} (h:QL s s'):QL s' s:=⟨fun t=>(h.1 t).symm,fun id=>(h.2 id).symm⟩
theorem QL.trans {a b c:Sl×Hp} (h:QL a b) (k:QL b c):QL a c:=⟨fun t=>(h.1 t).trans (k.1 t),fun id=>(h.2 id).trans (k.2 id)⟩
theorem WD:∀ (l:Hp) {hp hp' : Hp},(∀ id,lkp hp id=lkp hp' id)→∀ id,lkp (Zd hp l) id=lkp (Zd hp' l) id
 | [],_,_,h=>h
 | (k,o) :: r,hp,hp',h=>by
  simp only[Zd];exact WD r fun id=>by rw[Z1,Z1,h id]
theorem ZcT:∀ (l:List Nat) {hp hp' : Hp},(∀ id,lkp hp id=lkp hp' id)→∀ id,lkp (ZP hp l) id=lkp (ZP hp' l) id
 | [],_,_,h=>h
 | d :: r,hp,hp',h=>by
  simp only[ZP];exact ZcT r fun id=>by rw[Zag,Zag,h id]
theorem Zpr (ce:Zb) (dst:Option Nat) {s s' : Sl×Hp} (h:QL s s'):QL (ce.on dst s.1 s.2) (ce.on dst s'.1 s'.2):=by
 refine⟨fun t=>?_,fun id=>?_⟩
 ·show gs (Zi (Qs ce.gone s.1) dst ce.eff.val) t=gs (Zi (Qs ce.gone s'.1) dst ce.eff.val) t;rw[Z3,Z3,Qh,Qh,h.1 t]
 ·exact WD _ (WD _ (ZcT _ fun id=>by rw[ZO,ZO,XX,XX,h.2 id])) id
noncomputable def Zv (C:Orc) (M:Zf) (nx i:Nat) (t:Bool) (o:CO) (s:Sl×Hp):Option (Sl×Hp):=
 bnd (ZF s.1 o.guard) fun b=>if b then Q5 (nx+64*i) o.dst s.1 s.2 (XP C M nx i t o.op s.1 s.2) else some (Zi s.1 o.dst (.tup []),s.2)
noncomputable def Zr (C:Orc) (M:Zf) (os:List CO) (nx i:Nat) (s:Sl×Hp):Option (Sl×Hp):=bnd os[i]? fun o=>Zv C M nx i (ZD os i) o s
noncomputable def JP (C:Orc) (M:Zf) (os:List CO) (nx:Nat):List Nat→Sl×Hp→Option (Sl×Hp)
 | [],s=>some s
 | i :: l,s=>bnd (Zr C M os nx i s) (JP C M os nx l)
theorem Zcl (C:Orc) (M:Zf) (os:List CO) (nx:Nat):∀ (aa:List CO) (i:Nat) (t:Bool) (sl:Sl) (hp:Hp),os.drop i=aa →
  VC C M nx i t aa sl hp=JP C M os nx (List.range' i aa.length) (sl,hp)
 | [],i,t,sl,hp,_=>rfl
 | o :: aa,i,t,sl,hp,hd=>by
  have h1:os[i]?=some o:=by
   have:(os.drop i)[0]?=some o:=by rw[hd];rfl
   rw[KL] at this;simpa using this
  have h2:os.drop (i+1)=aa:=by rw[← LP,hd];rfl
  have h4:CO.starts o=ZD os i:=by simp only[ZD,h1]
  simp only[VC,KD,List.range'_succ,JP,Zr,h1,Zc,Zv,h4];cases hw:ZF sl o.guard with
  | none=>rfl
  | some b=>
   cases b with
   | true=>
    simp only[Zc,Ki];cases hs:Q5 (nx+64*i) o.dst sl hp (XP C M nx i (ZD os i) o.op sl hp) with
    | none=>rfl
    | some r=>
     simp only[Zc];exact Zcl C M os nx aa (i+1) t r.1 r.2 h2
   | false=>
    simp only[Zc,Ka,Kh];exact Zcl C M os nx aa (i+1) t _ _ h2
theorem Zmd {hp hp' : Hp} (h:∀ id,lkp hp id=lkp hp' id):Qw (fun _=>True) hp hp':=⟨fun id _=>h id,fun _ _ _ _ _ _=>trivial⟩
theorem ZnY (C:Orc) (M:Zf) {s s' : Sl×Hp} (h:QL s s') (base:Nat) (c:COp):vop C M s.1 s.2 base c=vop C M s'.1 s'.2 base c:=by
 have h1:∀ x:Opd,evO s.1 x=evO s'.1 x:=fun x=>by cases x<;>simp only[evO];exact h.1 _
 rw[Qt C M s.2 base (sl:=s.1) (sl':=s'.1) fun x _=>h1 x];exact VO (Zmd h.2) C M base fun x _=>⟨fun _ _=>trivial,fun _ _ _ _ _ _ _=>trivial⟩
theorem Zk3 {s s' : Sl×Hp} (h:QL s s') (g:Option (Nat×Bool)):ZF s.1 g=ZF s'.1 g:=by
 cases g with
 | none=>rfl
 | some q=>simp only[ZF,h.1]
theorem Zk4 {C:Orc} {M:Zf} {os:List CO} {nx i:Nat} {s s' r:Sl×Hp} (h:QL s s') (hr:Zr C M os nx i s=some r):∃ r',Zr C M os nx i s'=some r'∧QL r r':=by
 unfold Zr at hr ⊢;obtain⟨o,h1,hr⟩:=Za hr;rw[h1,Zc];unfold Zv at hr ⊢;obtain⟨b,h2,hr⟩:=Za hr;rw[← Zk3 h,h2,Zc];cases b with
 | true=>
  simp only[Ki] at hr ⊢;obtain⟨ce,h3,h4,rfl⟩:=QD hr;have h5:XP C M nx i (ZD os i) o.op s'.1 s'.2=some ce:=by
   rw[← h3];unfold XP;rw[ZnY C M h]
  refine⟨ce.on o.dst s'.1 s'.2,?_,Zpr ce o.dst h⟩;unfold Q5;rw[h5,Zc,Kw h4]
 | false=>
  simp only[Ka,Kh] at hr ⊢;cases hr;refine⟨_,rfl,fun t=>?_,h.2⟩;show gs (Zi s.1 o.dst (.tup [])) t=gs (Zi s'.1 o.dst (.tup [])) t;rw[Z3,Z3,h.1 t]
theorem Zgk {C:Orc} {M:Zf} {os:List CO} {nx:Nat}:∀ {l:List Nat} {s s' r:Sl×Hp},QL s s'→JP C M os nx l s=some r→∃ r',JP C M os nx l s'=some r'∧QL r r'
 | [],s,s',r,h,hr=>by simp only[JP] at hr ⊢;cases hr;exact⟨s',rfl,h⟩
 | i :: l,s,s',r,h,hr=>by
  simp only[JP] at hr ⊢;obtain⟨s1,h1,hr⟩:=Za hr;obtain⟨aa,h2,h3⟩:=Zk4 h h1;rw[h2,Zc];exact Zgk h3 hr
theorem Z7 {sl:Sl} {d:Option Nat} {v:AV} {o:CO} (h:Qg d (Xb o)=true):ZF (Zi sl d v) o.guard=ZF sl o.guard:=by
 cases hg:o.guard with
 | none=>rfl
 | some q=>
  simp only[ZF];rw[Z3,Ko];intro e;rw[e] at h;simp[Qg,Xb,hg,Zg2] at h
theorem XZ {sl:Sl} {d:Option Nat} {v:AV} {o:CO} (h:Qg d (Xb o)=true):∀ x∈Zq o.op,evO (Zi sl d v) x=evO sl x:=by
 intro x hx;cases x with
 | t n=>
  simp only[evO];rw[Z3,Ko];intro e;rw[e] at h;simp only[Qg,Xb,KF,KA,KM] at h;exact h (Kd.2 (.inl (Kj.2 ⟨_,hx,by simp[Ws]⟩)))
 | _=>rfl
theorem Zcm {C:Orc} {M:Zf} {nx i:Nat} {o:CO} {s s' : Sl×Hp} (h:Zv C M nx i false o s=some s') :
  ∃ v adds,s'=(Zi s.1 o.dst v,Zd s.2 adds)∧(∀ k x,(k,x)∈adds→nx+64*i≤k∧k<nx+64*i+64) ∧
   ∀ aa : Sl×Hp,ZF aa.1 o.guard=ZF s.1 o.guard→vop C M aa.1 aa.2 (nx+64*i) o.op=vop C M s.1 s.2 (nx+64*i) o.op→Zv C M nx i false o aa=some (Zi aa.1 o.dst v,Zd aa.2 adds):=by
 unfold Zv at h;obtain⟨b,hw,h⟩:=Za h;cases b with
 | true=>
  simp only[Ki] at h;obtain⟨ce,h1,h2,rfl⟩:=QD h;unfold XP at h1;simp only[Ka,Kh] at h1;have ad:=h1;unfold Uo at h1;obtain⟨c,h3,h1⟩:=Za h1;unfold Zaa at h1;split at h1
  ·rename_i e1 e2 e3 e4;cases h1;have ab:∀ s:Sl×Hp,ce.on o.dst s.1 s.2=(Zi s.1 o.dst ce.eff.val,Zd s.2 ce.eff.adds):=by
    intro s;unfold Zb.on Eff.on;rw[e1,e2,e3,e4];rfl
   refine⟨ce.eff.val,ce.eff.adds,ab s,Y2 h2,fun aa g1 g2=>?_⟩;unfold Zv;rw[g1,hw,Zc];simp only[Ki];unfold Q5 XP;simp only[Ka,Kh];rw[g2,ad,Zc,Kw h2,ab]
  ·cases h1
 | false=>
  simp only[Ka,Kh] at h;cases h;refine⟨.tup [],[],rfl,fun k x hk=>by simp at hk,fun aa g1 g2=>?_⟩;unfold Zv;rw[g1,hw,Zc];rfl
theorem Vk {U:Nat→Prop} {a:AV} (h:Xd (.v a)=true):ZcS U a:=by
 simp only[Xd,Kb,List.isEmpty_iff,KF] at h;refine⟨fun id aa=>by rw[h.1] at aa;simp at aa,fun f ab hx=>?_⟩;subst hx;simp[Zie] at h
section
variable {P:Program} {nt:Nat}
def ZbQ (nt:Nat) (s:Sl×Hp) (U:Nat→Prop):Prop:=∃ F A I Γ a w,Sim nt F A I Γ U s.1 s.2 a w
theorem X0 {U:Nat→Prop} {base:Nat} (hf:Qv U base) {adds:Hp} (ha:∀ k x,(k,x)∈adds→base≤k∧k<base+64) (hp:Hp):∀ id,U id→lkp hp id=lkp (Zd hp adds) id:=by
 intro id hu;rw[Zp];intro o ho;obtain⟨h1,h2⟩:=ha id o ho;exact hf id h1 h2 hu
theorem YB {sl:Sl} {d e:Option Nat} (h:VX d e=true) (u v:AV) (t:Nat):gs (Zi (Zi sl d u) e v) t=gs (Zi (Zi sl e v) d u) t:=by
 simp only[Z3];by_cases h1:e=some t
 ·by_cases h2:d=some t
  ·rw[h1,h2] at h;simp[VX] at h
  ·simp[h1,h2]
 ·simp[h1]
theorem Zps {adds aa : Hp} {b b' : Nat} (ha:∀ k x,(k,x)∈adds→b≤k∧k<b+64) (ad : ∀ k x,(k,x)∈aa→b'≤k∧k<b'+64) (hd:b+64≤b'∨b'+64≤b) (hp:Hp) (id:Nat) :
  lkp (Zd (Zd hp adds) aa) id=lkp (Zd (Zd hp aa) adds) id:=by
 have ab:∀ (l:Hp) (hp hp' : Hp),(∀ o,(id,o)∉l)→lkp (Zd hp l) id=lkp hp id:=fun l hp _ h=>Zp l hp id h;by_cases h1:∃ o,(id,o)∈adds
 ·have h2:∀ o,(id,o)∉aa:=fun o ho=>by
   obtain⟨o',ae⟩:=h1;have:=ha id o' ae;have:=ad id o ho;omega
  rw[Zp aa _ id h2];have ab:∀ (l:Hp) (hp hp' : Hp),lkp hp id=lkp hp' id→lkp (Zd hp l) id=lkp (Zd hp' l) id:=by
   intro l
   induction l with
   | nil=>intro hp hp' h;exact h
   | cons q r ih=>
    intro hp hp' h;obtain⟨k,x⟩:=q;simp only[Zd];exact ih _ _ (by rw[Z1,Z1,h])
  exact ab adds _ _ (Zp aa hp id h2).symm
 ·have h2:∀ o,(id,o)∉adds:=fun o ho=>h1 ⟨o,ho⟩;rw[Zp adds _ id h2];have ab:∀ (l:Hp) (hp hp' : Hp),lkp hp id=lkp hp' id→lkp (Zd hp l) id=lkp (Zd hp' l) id:=by
   intro l
   induction l with
   | nil=>intro hp hp' h;exact h
   | cons q r ih=>
    intro hp hp' h;obtain⟨k,x⟩:=q;simp only[Zd];exact ih _ _ (by rw[Z1,Z1,h])
  exact ab aa _ _ (Zp adds hp id h2)
theorem Zgl {C:Orc} {M:Zf} {os:List CO} {nx i j:Nat} {oi oj:CO} (an:os[i]?=some oi) (ab:os[j]?=some oj) (ae:ZD os j=false) (ao:i≠j) (af:QG oj oi=true)
  (ad:∀ (k:Nat) (o:CO),os[k]?=some o→∀ x∈Zq o.op,Xd x=true) {s s1 s2:Sl×Hp} {U:Nat→Prop} (hs:ZbQ nt s U) (ap:Qv U (nx+64*i)) (aq:Qv U (nx+64*j))
  (h1:Zr C M os nx j s=some s1) (h2:Zv C M nx i false oi s1=some s2):∃ t1,Zv C M nx i false oi s=some t1∧∃ t2,Zr C M os nx j t1=some t2∧QL t2 s2:=by
 obtain⟨F,A,I,Γ,a,w,aa⟩:=hs;simp only[QG,Kb] at af;obtain⟨⟨ag,ar⟩,ah⟩:=af;have good:∀ (k:Nat) (o:CO),os[k]?=some o→∀ x∈Zq o.op,ZcS U (evO s.1 x):=by
  intro k o ho x hx;cases x with
  | t n=>exact aa.good n
  | v y=>exact Vk (ad k o ho _ hx)
  | f n=>exact⟨fun id au=>by simp[evO,Zl,Zn] at au,fun f av h c hc=>by cases h;simp at hc⟩
 simp only[Zr,ab,Zc,ae] at h1;obtain⟨vj,aj,rfl,ak,aw⟩:=Zcm h1;obtain⟨vi,ai,rfl,al,am⟩:=Zcm h2;dsimp only at am;have e1:Zv C M nx i false oi s=some (Zi s.1 oi.dst vi,Zd s.2 ai):=by
  refine am s (Z7 ag).symm ?_;rw[Qt C M (Zd s.2 aj) (nx+64*i) (XZ (o:=oi) ag)];exact VO (aa.agree (X0 aq ak s.2)) C M _ (good i oi an)
 refine⟨_,e1,?_⟩;have e2:Zv C M nx j false oj (Zi s.1 oi.dst vi,Zd s.2 ai)=some (Zi (Zi s.1 oi.dst vi) oj.dst vj,Zd (Zd s.2 ai) aj):=by
  refine aw (Zi s.1 oi.dst vi,Zd s.2 ai) (Z7 ah) ?_;rw[Qt C M (Zd s.2 ai) (nx+64*j) (XZ (o:=oj) ah)];exact(VO (aa.agree (X0 ap al s.2)) C M _ (good j oj ab)).symm
 refine⟨_,by simp only[Zr,ab,Zc,ae];exact e2,fun t=>?_,fun id=>?_⟩
 ·exact(YB ar vj vi t).symm
 ·refine Zps al ak ?_ s.2 id;rcases Lf ao with h | h
  ·left;omega
  ·right;omega
theorem ZnZ {C:Orc} {M:Zf} {os:List CO} {nx i j:Nat} {oi oj:CO} (ab:os[i]?=some oi) (ad:os[j]?=some oj) (ae:ZD os i=false) (af:ZD os j=false) (ag:i≠j) (ah:QG oj oi=true)
  (aa:∀ (k:Nat) (o:CO),os[k]?=some o→∀ x∈Zq o.op,Xd x=true) {s s1 s2:Sl×Hp} {U:Nat→Prop} (hs:ZbQ nt s U) (ai:Qv U (nx+64*i)) (aj:Qv U (nx+64*j))
  (h1:Zr C M os nx j s=some s1) (h2:Zr C M os nx i s1=some s2):∃ t1,Zr C M os nx i s=some t1∧∃ t2,Zr C M os nx j t1=some t2∧QL t2 s2:=by
 have e:∀ s:Sl×Hp,Zr C M os nx i s=Zv C M nx i false oi s:=fun s=>by simp only[Zr,ab,Zc,ae]
 rw[e] at h2;simp only[e];exact Zgl ab ad af ag ah aa hs ai aj h1 h2
end
end Go.Abs
