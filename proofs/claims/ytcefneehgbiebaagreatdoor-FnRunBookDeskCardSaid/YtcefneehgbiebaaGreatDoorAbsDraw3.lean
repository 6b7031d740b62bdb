/- Own text. -/
import Derived.Test.YtcefneehgbiebaaGreatDoorAbsDraw
import Derived.Test.YtcefneehgbiebaaGreatDoorAbsSound3
set_option linter.unusedVariables false
set_option linter.unusedSimpArgs false
namespace Go.Abs
open Go
section
variable {U:Nat→Prop} {hp hp' : Hp}
def Zj0 (U:Nat→Prop) (x:AV):Prop:=InU U x∧∀ f caps,x=.clo f caps→∀ c∈caps,InU U c
theorem Zh1 {sl:Sl}:∀ {xs:List Opd} {v:AV},v∈evL sl xs→∃ x∈xs,v=evO sl x
 | [],v,h=>by simp[evL] at h
 | x :: xs,v,h=>by
  simp only[evL] at h;rcases Kd.1 h with rfl | h
  ·exact⟨x,by simp,rfl⟩
  ·obtain⟨y,h1,h2⟩:=Zh1 h;exact⟨y,KA _ h1,h2⟩
theorem Za4 (h:Xm U hp hp') (C:Orc) (M:Zp) {sl:Sl} (base:Nat) {c:COp} (hx:∀ x∈ZL c,Zj0 U (evO sl x)):vop C M sl hp base c=vop C M sl hp' base c:=by
 cases c<;>simp only[ZL] at hx<;>simp only[vop]
 case buildSl s xs=>
  cases hv:evL sl xs with
  | nil=>rfl
  | cons v vs=>
   simp only[buildSl];rw[ZiF h];intro y hy;rw[← hv] at hy;obtain⟨z,h1,rfl⟩:=Zh1 hy;exact(hx z h1).1
 case load g s a=>rw[Zvi h (hx a (by simp)).1]
 case store slc s a x=>rw[ZtR h (hx a (by simp)).1 _ _ _ _ (Zvm (hx x (by simp)).1)]
 case slice s x lo hi=>rw[ZtO h (hx x (by simp)).1]
 case slice0 x hi mx=>unfold slice0;rw[Zi7 h (hx x (by simp)).1]
 case slice3 s x lo hi mx=>unfold slice3;rw[Zi7 h (hx x (by simp)).1]
 case clear s z x=>rw[ZtP h (hx x (by simp)).1]
 case iaS s x i=>
  congr 1
  funext n
  simp only[Zhb];rw[Zle h (hx x (by simp)).1]
 case len x=>rw[Zi7 h (hx x (by simp)).1]
 case append s b str flat x y=>
  simp only[Zt7];rw[Zvk h (hx x (by simp)).1 (hx y (by simp)).1]
 case appDp s b f x y=>exact Zw8 h (hx x (by simp)).1 (hx y (by simp)).1 s b base
 case buildDp s n xs=>
  refine Zq7 h fun y hy=>?_;obtain⟨z,h1,rfl⟩:=Zh1 hy;exact(hx z h1).1
 case call f as=>
  have hf:=hx f (by simp);cases he:evO sl f<;>simp only[Zdb]
  rename_i g aa;refine Zvn h C (M g) base g fun y hy=>?_;rcases Kg.1 hy with hy | hy
  ·obtain⟨z,h1,rfl⟩:=Zh1 hy;exact(hx z (by simp[h1])).1
  ·exact hf.2 g aa he y hy
theorem Zsz {Γ:Gh} {w:World} {I:Nat→Prop} {x:AV} {v:Value} (h:Vj Γ w I x v):∀ id∈Zn x,∃ r,Γ id=some r:=by
 intro id aa;cases x<;>simp only[Zn,KC,Ku,Kd,or_false] at aa
 case ptr i off=>subst aa;obtain⟨b,h1,_⟩:=h;exact⟨_,h1⟩
 case prow i sz k off=>subst aa;obtain⟨b,n,c,h1,_⟩:=h;exact⟨_,h1⟩
 case own i=>subst aa;obtain⟨a,n,c,sz,h1,_⟩:=h;exact⟨_,h1⟩
 case ownv i off n=>subst aa;obtain⟨a0,m,c,sz,a,h1,_⟩:=h;exact⟨_,h1⟩
 case bnil i e=>subst aa;obtain⟨b,h1,_⟩:=h;exact⟨_,h1⟩
 case sub i nm=>obtain⟨h0,a,n,c,sz,h1,_⟩:=h;rcases aa with rfl | rfl;exact h0;exact⟨_,h1⟩
theorem Zlf {Γ:Gh} {w:World} {I:Nat→Prop}:∀ {xs:List AV} {vs:List Value},Zu (Vj Γ w I) xs vs→∀ id∈xs.flatMap Zn,∃ r,Γ id=some r
 | [],[],_,id,aa=>by simp at aa
 | [],_ :: _,h,_,_=>h.elim
 | _ :: _,[],h,_,_=>h.elim
 | x :: xs,v :: vs,h,id,aa=>by
  simp only[KJ,Kg] at aa;rcases aa with aa | aa
  ·exact Zsz h.1 id aa
  ·exact Zlf h.2 id aa
theorem Zlg {Γ:Gh} {w:World} {I:Nat→Prop} {x:AV} {v:Value} (h:Zac Γ w I x v):∀ id∈ZE x,∃ r,Γ id=some r:=by
 intro id aa;by_cases hs:x.small=true
 ·rw[(YM hs (fun k=>k) []).2.2.2.2.2] at aa;rw[(Uh hs v).2.1] at h;exact Zsz h id aa
 ·cases x with
  | agg cs=>obtain⟨us,_,h2⟩:=h;exact Zlf h2 id aa
  | clo f cs=>obtain⟨us,_,h2⟩:=h;exact Zlf h2 id aa
  | tup cs=>exact h.elim
  | d x=>simp[ZE,Zn] at aa
  | _=>exact absurd rfl hs
theorem Zzp {Γ:Gh} {w:World} {I:Nat→Prop} {x:AV} {v:Value} (h:XO Γ w I x v):∀ id∈ZE x,∃ r,Γ id=some r:=Zlg h.rep2
theorem ZoA {Γ:Gh} {w:World} {I:Nat→Prop}:∀ {xs:List AV} {vs:List Value},Zu (Zac Γ w I) xs vs→∀ id∈xs.flatMap ZE,∃ r,Γ id=some r
 | [],[],_,id,aa=>by simp at aa
 | [],_ :: _,h,_,_=>h.elim
 | _ :: _,[],h,_,_=>h.elim
 | x :: xs,v :: vs,h,id,aa=>by
  simp only[KJ,Kg] at aa;rcases aa with aa | aa
  ·exact Zlg h.1 id aa
  ·exact ZoA h.2 id aa
theorem Zvo {Γ:Gh} {w:World} {I:Nat→Prop} {x:AV} {v:Value} (h:Rep Γ w I x v):∀ id∈ZD x,∃ r,Γ id=some r:=by
 intro id aa;by_cases ht:∃ vs,x=.tup vs
 ·obtain⟨vs,rfl⟩:=ht;obtain⟨us,_,h2⟩:=h;exact ZoA h2 id aa
 ·have e:Rep Γ w I x v=Zac Γ w I x v:=by cases x<;>first | rfl | exact absurd ⟨_,rfl⟩ ht
  rw[e] at h;refine Zlg h id ?_;cases x<;>first | exact aa | exact absurd ⟨_,rfl⟩ ht
theorem ZoB {Γ:Gh} {w:World} {I:Nat→Prop}:∀ {xs:List AV} {vs:List Value},Zu (XO Γ w I) xs vs→∀ id∈xs.flatMap ZE,∃ r,Γ id=some r
 | [],[],_,id,aa=>by simp at aa
 | [],_ :: _,h,_,_=>h.elim
 | _ :: _,[],h,_,_=>h.elim
 | x :: xs,v :: vs,h,id,aa=>by
  simp only[KJ,Kg] at aa;rcases aa with aa | aa
  ·exact Zzp h.1 id aa
  ·exact ZoB h.2 id aa
theorem ZAQ {Γ:Gh} {w:World} {I:Nat→Prop} {x:AV} {v:Value} (hn:∀ id,¬U id→Γ id=none) (h:Rep Γ w I x v):Zj0 U x:=by
 have ab:∀ id,(∃ r,Γ id=some r)→U id:=fun id ⟨r,hr⟩=>Classical.byContradiction fun hu=>by rw[hn id hu] at hr;cases hr
 refine⟨fun id aa=>ab id (Zvo h id aa),fun f ad hx c hc=>?_⟩;subst hx;obtain⟨us,_,h2⟩:=h;obtain⟨i,hi⟩:=K3 hc;obtain⟨u,_,h3⟩:=h2.get i c hi;exact fun id aa=>ab id (Zvo h3.rep2.rep id aa)
end
section
variable {P:Program} {nt:Nat} {F A I:Nat→Prop} {Γ:Gh} {U:Nat→Prop} {sl:Sl} {hp:Hp} {a:Act} {w:World}
theorem Sim.good (h:Sim nt F A I Γ U sl hp a w) (t:Nat):Zj0 U (gs sl t):=ZAQ h.names (h.slots t)
theorem Sim.agree (h:Sim nt F A I Γ U sl hp a w) {hp' : Hp} (hs:∀ id,U id→lkp hp id=lkp hp' id):Xm U hp hp':=by
 refine⟨hs,fun id o hu hl i hi=>?_⟩;have ho:=h.objs id o hl;cases o with
 | box cs=>
  obtain⟨b,cur,e,_,_,_,_,h5,_⟩:=ho;obtain⟨r,hr⟩:=ZoB h5 i hi;exact Classical.byContradiction fun hu=>by rw[h.names i hu] at hr;cases hr
 | row sz xs ex fz=>simp[ZbH] at hi
 | deep sz ns xs lk=>simp[ZbH] at hi
theorem Oper.wp_ex {o:Oper} {a:Act} {w:World} {K:Act→World→Prop} (h:o.wp P a w K (fun _ _ _=>False)):∃ a' w',K a' w':=by
 unfold Oper.wp at h;generalize (execOp a.eval o).run P w=r at h;cases r with
 | ok n w' =>
  cases n<;>simp only[Oper.upon] at h
  case value v=>exact⟨_,_,h⟩
  case skip=>exact⟨_,_,h⟩
  case defer d=>exact⟨_,_,h⟩
  case enter f args=>
   obtain⟨e,aa,fr,he,_⟩:=h [];cases e with
   | returned v=>exact⟨_,_,he⟩
   | panicked c=>exact he.elim
   | outgrown=>obtain⟨a,w,hf⟩:=he;exact hf.elim
  case row row args=>
   obtain⟨v,aa,he,_⟩:=h default [];exact⟨_,_,he⟩
 | halt x w'=>cases x<;>simp only[Oper.upon] at h
end
end Go.Abs
set_option linter.unusedVariables false
set_option linter.unusedSimpArgs false
namespace Go.Abs
open Go
def X0 (s s' : Sl×Hp):Prop:=(∀ t,gs s.1 t=gs s'.1 t)∧∀ id,lkp s.2 id=lkp s'.2 id
theorem X0.refl (s:Sl×Hp):X0 s s:=⟨fun _=>rfl,fun _=>rfl⟩
theorem X0.symm {s s' : Sl×Hp} (h:X0 s s'):X0 s' s:=⟨fun t=>(h.1 t).symm,fun id=>(h.2 id).symm⟩
theorem X0.trans {a b c:Sl×Hp} (h:X0 a b) (k:X0 b c):X0 a c:=⟨fun t=>(h.1 t).trans (k.1 t),fun id=>(h.2 id).trans (k.2 id)⟩
theorem Zcu:∀ (l:Hp) {hp hp' : Hp},(∀ id,lkp hp id=lkp hp' id)→∀ id,lkp (Zh hp l) id=lkp (Zh hp' l) id
 | [],_,_,h=>h
 | (k,o) :: r,hp,hp',h=>by
  simp only[Zh];exact Zcu r fun id=>by rw[Qm,Qm,h id]
theorem Zj1:∀ (l:List Nat) {hp hp' : Hp},(∀ id,lkp hp id=lkp hp' id)→∀ id,lkp (Qs hp l) id=lkp (Qs hp' l) id
 | [],_,_,h=>h
 | d :: r,hp,hp',h=>by
  simp only[Qs];exact Zj1 r fun id=>by rw[Zii,Zii,h id]
theorem ZAR (ce:Zd) (dst:Option Nat) {s s' : Sl×Hp} (h:X0 s s'):X0 (ce.on dst s.1 s.2) (ce.on dst s'.1 s'.2):=by
 refine⟨fun t=>?_,fun id=>?_⟩
 ·show gs (Zt (Xe ce.gone s.1) dst ce.eff.val) t=gs (Zt (Xe ce.gone s'.1) dst ce.eff.val) t;rw[Qz,Qz,QX,QX,h.1 t]
 ·exact Zcu _ (Zcu _ (Zj1 _ fun id=>by rw[Qd,Qd,VI,VI,h.2 id])) id
noncomputable def ZO (C:Orc) (M:Zp) (nx i:Nat) (t:Bool) (o:CO) (s:Sl×Hp):Option (Sl×Hp):=
 bnd (Z6 s.1 o.guard) fun b=>if b then YQ (nx+64*i) o.dst s.1 s.2 (WR C M nx i t o.op s.1 s.2) else some (Zt s.1 o.dst (.tup []),s.2)
noncomputable def ZJ (C:Orc) (M:Zp) (os:List CO) (nx i:Nat) (s:Sl×Hp):Option (Sl×Hp):=bnd os[i]? fun o=>ZO C M nx i (Z0 os i) o s
noncomputable def runL (C:Orc) (M:Zp) (os:List CO) (nx:Nat):List Nat→Sl×Hp→Option (Sl×Hp)
 | [],s=>some s
 | i :: l,s=>bnd (ZJ C M os nx i s) (runL C M os nx l)
theorem Zi8 (C:Orc) (M:Zp) (os:List CO) (nx:Nat):∀ (aa:List CO) (i:Nat) (t:Bool) (sl:Sl) (hp:Hp),os.drop i=aa →
  UX C M nx i t aa sl hp=runL C M os nx (List.range' i aa.length) (sl,hp)
 | [],i,t,sl,hp,_=>rfl
 | o :: aa,i,t,sl,hp,hd=>by
  have h1:os[i]?=some o:=by
   have:(os.drop i)[0]?=some o:=by rw[hd];rfl
   rw[Ll] at this;simpa using this
  have h2:os.drop (i+1)=aa:=by rw[← List.drop_drop,hd];rfl
  have h4:CO.starts o=Z0 os i:=by simp only[Z0,h1]
  simp only[UX,Kp,List.range'_succ,runL,ZJ,h1,Zg,ZO,h4];cases hw:Z6 sl o.guard with
  | none=>rfl
  | some b=>
   cases b with
   | true=>
    simp only[Zg,Km];cases hs:YQ (nx+64*i) o.dst sl hp (WR C M nx i (Z0 os i) o.op sl hp) with
    | none=>rfl
    | some r=>
     simp only[Zg];exact Zi8 C M os nx aa (i+1) t r.1 r.2 h2
   | false=>
    simp only[Zg,Ka,Kq];exact Zi8 C M os nx aa (i+1) t _ _ h2
theorem Zxb {hp hp' : Hp} (h:∀ id,lkp hp id=lkp hp' id):Xm (fun _=>True) hp hp':=⟨fun id _=>h id,fun _ _ _ _ _ _=>trivial⟩
theorem Zzq (C:Orc) (M:Zp) {s s' : Sl×Hp} (h:X0 s s') (base:Nat) (c:COp):vop C M s.1 s.2 base c=vop C M s'.1 s'.2 base c:=by
 have h1:∀ x:Opd,evO s.1 x=evO s'.1 x:=fun x=>by cases x<;>simp only[evO];exact h.1 _
 rw[Xl C M s.2 base (sl:=s.1) (sl':=s'.1) fun x _=>h1 x];exact Za4 (Zxb h.2) C M base fun x _=>⟨fun _ _=>trivial,fun _ _ _ _ _ _ _=>trivial⟩
theorem Zvp {s s' : Sl×Hp} (h:X0 s s') (g:Option (Nat×Bool)):Z6 s.1 g=Z6 s'.1 g:=by
 cases g with
 | none=>rfl
 | some q=>simp only[Z6,h.1]
theorem Zvq {C:Orc} {M:Zp} {os:List CO} {nx i:Nat} {s s' r:Sl×Hp} (h:X0 s s') (hr:ZJ C M os nx i s=some r):∃ r',ZJ C M os nx i s'=some r'∧X0 r r':=by
 unfold ZJ at hr ⊢;obtain⟨o,h1,hr⟩:=Za hr;rw[h1,Zg];unfold ZO at hr ⊢;obtain⟨b,h2,hr⟩:=Za hr;rw[← Zvp h,h2,Zg];cases b with
 | true=>
  simp only[Km] at hr ⊢;obtain⟨ce,h3,h4,rfl⟩:=Q7 hr;have h5:WR C M nx i (Z0 os i) o.op s'.1 s'.2=some ce:=by
   rw[← h3];unfold WR;rw[Zzq C M h]
  refine⟨ce.on o.dst s'.1 s'.2,?_,ZAR ce o.dst h⟩;unfold YQ;rw[h5,Zg,Kh h4]
 | false=>
  simp only[Ka,Kq] at hr ⊢;cases hr;refine⟨_,rfl,fun t=>?_,h.2⟩;show gs (Zt s.1 o.dst (.tup [])) t=gs (Zt s'.1 o.dst (.tup [])) t;rw[Qz,Qz,h.1 t]
theorem ZoC {C:Orc} {M:Zp} {os:List CO} {nx:Nat}:∀ {l:List Nat} {s s' r:Sl×Hp},X0 s s'→runL C M os nx l s=some r→∃ r',runL C M os nx l s'=some r'∧X0 r r'
 | [],s,s',r,h,hr=>by simp only[runL] at hr ⊢;cases hr;exact⟨s',rfl,h⟩
 | i :: l,s,s',r,h,hr=>by
  simp only[runL] at hr ⊢;obtain⟨s1,h1,hr⟩:=Za hr;obtain⟨aa,h2,h3⟩:=Zvq h h1;rw[h2,Zg];exact ZoC h3 hr
theorem QA {sl:Sl} {d:Option Nat} {v:AV} {o:CO} (h:QQ d (looks o)=true):Z6 (Zt sl d v) o.guard=Z6 sl o.guard:=by
 cases hg:o.guard with
 | none=>rfl
 | some q=>
  simp only[Z6];rw[Qz,Ke];intro e;rw[e] at h;simp[QQ,looks,hg,Zpi] at h
theorem WU {sl:Sl} {d:Option Nat} {v:AV} {o:CO} (h:QQ d (looks o)=true):∀ x∈ZL o.op,evO (Zt sl d v) x=evO sl x:=by
 intro x hx;cases x with
 | t n=>
  simp only[evO];rw[Qz,Ke];intro e;rw[e] at h;simp only[QQ,looks,K4,KU,K6] at h;exact h (Kg.2 (.inl (Ky.2 ⟨_,hx,by simp[Zb3]⟩)))
 | _=>rfl
theorem Zi9 {C:Orc} {M:Zp} {nx i:Nat} {o:CO} {s s' : Sl×Hp} (h:ZO C M nx i false o s=some s') :
  ∃ v adds,s'=(Zt s.1 o.dst v,Zh s.2 adds)∧(∀ k x,(k,x)∈adds→nx+64*i≤k∧k<nx+64*i+64) ∧
   ∀ aa : Sl×Hp,Z6 aa.1 o.guard=Z6 s.1 o.guard→vop C M aa.1 aa.2 (nx+64*i) o.op=vop C M s.1 s.2 (nx+64*i) o.op→ZO C M nx i false o aa=some (Zt aa.1 o.dst v,Zh aa.2 adds):=by
 unfold ZO at h;obtain⟨b,hw,h⟩:=Za h;cases b with
 | true=>
  simp only[Km] at h;obtain⟨ce,h1,h2,rfl⟩:=Q7 h;unfold WR at h1;simp only[Ka,Kq] at h1;have ad:=h1;unfold Zdj at h1;obtain⟨c,h3,h1⟩:=Za h1;unfold ZfW at h1;split at h1
  ·rename_i e1 e2 e3 e4;cases h1;have ab:∀ s:Sl×Hp,ce.on o.dst s.1 s.2=(Zt s.1 o.dst ce.eff.val,Zh s.2 ce.eff.adds):=by
    intro s;unfold Zd.on Eff.on;rw[e1,e2,e3,e4];rfl
   refine⟨ce.eff.val,ce.eff.adds,ab s,Ul h2,fun aa g1 g2=>?_⟩;unfold ZO;rw[g1,hw,Zg];simp only[Km];unfold YQ WR;simp only[Ka,Kq];rw[g2,ad,Zg,Kh h2,ab]
  ·cases h1
 | false=>
  simp only[Ka,Kq] at h;cases h;refine⟨.tup [],[],rfl,fun k x hk=>by simp at hk,fun aa g1 g2=>?_⟩;unfold ZO;rw[g1,hw,Zg];rfl
theorem J4 {U:Nat→Prop} {a:AV} (h:Vf (.v a)=true):Zj0 U a:=by
 simp only[Vf,Kf,List.isEmpty_iff,K4] at h;refine⟨fun id aa=>by rw[h.1] at aa;simp at aa,fun f ab hx=>?_⟩;subst hx;simp[Zsn] at h
section
variable {P:Program} {nt:Nat}
def ZiH (nt:Nat) (s:Sl×Hp) (U:Nat→Prop):Prop:=∃ F A I Γ a w,Sim nt F A I Γ U s.1 s.2 a w
theorem WV {U:Nat→Prop} {base:Nat} (hf:Xp U base) {adds:Hp} (ha:∀ k x,(k,x)∈adds→base≤k∧k<base+64) (hp:Hp):∀ id,U id→lkp hp id=lkp (Zh hp adds) id:=by
 intro id hu;rw[Zy];intro o ho;obtain⟨h1,h2⟩:=ha id o ho;exact hf id h1 h2 hu
theorem US {sl:Sl} {d e:Option Nat} (h:Zba d e=true) (u v:AV) (t:Nat):gs (Zt (Zt sl d u) e v) t=gs (Zt (Zt sl e v) d u) t:=by
 simp only[Qz];by_cases h1:e=some t
 ·by_cases h2:d=some t
  ·rw[h1,h2] at h;simp[Zba] at h
  ·simp[h1,h2]
 ·simp[h1]
theorem ZAS {adds aa : Hp} {b b' : Nat} (ha:∀ k x,(k,x)∈adds→b≤k∧k<b+64) (ad : ∀ k x,(k,x)∈aa→b'≤k∧k<b'+64) (hd:b+64≤b'∨b'+64≤b) (hp:Hp) (id:Nat) :
  lkp (Zh (Zh hp adds) aa) id=lkp (Zh (Zh hp aa) adds) id:=by
 have ab:∀ (l:Hp) (hp hp' : Hp),(∀ o,(id,o)∉l)→lkp (Zh hp l) id=lkp hp id:=fun l hp _ h=>Zy l hp id h;by_cases h1:∃ o,(id,o)∈adds
 ·have h2:∀ o,(id,o)∉aa:=fun o ho=>by
   obtain⟨o',ae⟩:=h1;have:=ha id o' ae;have:=ad id o ho;omega
  rw[Zy aa _ id h2];have ab:∀ (l:Hp) (hp hp' : Hp),lkp hp id=lkp hp' id→lkp (Zh hp l) id=lkp (Zh hp' l) id:=by
   intro l
   induction l with
   | nil=>intro hp hp' h;exact h
   | cons q r ih=>
    intro hp hp' h;obtain⟨k,x⟩:=q;simp only[Zh];exact ih _ _ (by rw[Qm,Qm,h])
  exact ab adds _ _ (Zy aa hp id h2).symm
 ·have h2:∀ o,(id,o)∉adds:=fun o ho=>h1 ⟨o,ho⟩;rw[Zy adds _ id h2];have ab:∀ (l:Hp) (hp hp' : Hp),lkp hp id=lkp hp' id→lkp (Zh hp l) id=lkp (Zh hp' l) id:=by
   intro l
   induction l with
   | nil=>intro hp hp' h;exact h
   | cons q r ih=>
    intro hp hp' h;obtain⟨k,x⟩:=q;simp only[Zh];exact ih _ _ (by rw[Qm,Qm,h])
  exact ab aa _ _ (Zy adds hp id h2)
theorem ZoD {C:Orc} {M:Zp} {os:List CO} {nx i j:Nat} {oi oj:CO} (an:os[i]?=some oi) (ab:os[j]?=some oj) (ae:Z0 os j=false) (ao:i≠j) (af:XF oj oi=true)
  (ad:∀ (k:Nat) (o:CO),os[k]?=some o→∀ x∈ZL o.op,Vf x=true) {s s1 s2:Sl×Hp} {U:Nat→Prop} (hs:ZiH nt s U) (ap:Xp U (nx+64*i)) (aq:Xp U (nx+64*j))
  (h1:ZJ C M os nx j s=some s1) (h2:ZO C M nx i false oi s1=some s2):∃ t1,ZO C M nx i false oi s=some t1∧∃ t2,ZJ C M os nx j t1=some t2∧X0 t2 s2:=by
 obtain⟨F,A,I,Γ,a,w,aa⟩:=hs;simp only[XF,Kf] at af;obtain⟨⟨ag,ar⟩,ah⟩:=af;have good:∀ (k:Nat) (o:CO),os[k]?=some o→∀ x∈ZL o.op,Zj0 U (evO s.1 x):=by
  intro k o ho x hx;cases x with
  | t n=>exact aa.good n
  | v y=>exact J4 (ad k o ho _ hx)
  | f n=>exact⟨fun id au=>by simp[evO,ZD,ZE] at au,fun f av h c hc=>by cases h;simp at hc⟩
 simp only[ZJ,ab,Zg,ae] at h1;obtain⟨vj,aj,rfl,ak,aw⟩:=Zi9 h1;obtain⟨vi,ai,rfl,al,am⟩:=Zi9 h2;dsimp only at am;have e1:ZO C M nx i false oi s=some (Zt s.1 oi.dst vi,Zh s.2 ai):=by
  refine am s (QA ag).symm ?_;rw[Xl C M (Zh s.2 aj) (nx+64*i) (WU (o:=oi) ag)];exact Za4 (aa.agree (WV aq ak s.2)) C M _ (good i oi an)
 refine⟨_,e1,?_⟩;have e2:ZO C M nx j false oj (Zt s.1 oi.dst vi,Zh s.2 ai)=some (Zt (Zt s.1 oi.dst vi) oj.dst vj,Zh (Zh s.2 ai) aj):=by
  refine aw (Zt s.1 oi.dst vi,Zh s.2 ai) (QA ah) ?_;rw[Xl C M (Zh s.2 ai) (nx+64*j) (WU (o:=oj) ah)];exact(Za4 (aa.agree (WV ap al s.2)) C M _ (good j oj ab)).symm
 refine⟨_,by simp only[ZJ,ab,Zg,ae];exact e2,fun t=>?_,fun id=>?_⟩
 ·exact(US ar vj vi t).symm
 ·refine ZAS al ak ?_ s.2 id;rcases LD ao with h | h
  ·left;omega
  ·right;omega
theorem Zzr {C:Orc} {M:Zp} {os:List CO} {nx i j:Nat} {oi oj:CO} (ab:os[i]?=some oi) (ad:os[j]?=some oj) (ae:Z0 os i=false) (af:Z0 os j=false) (ag:i≠j) (ah:XF oj oi=true)
  (aa:∀ (k:Nat) (o:CO),os[k]?=some o→∀ x∈ZL o.op,Vf x=true) {s s1 s2:Sl×Hp} {U:Nat→Prop} (hs:ZiH nt s U) (ai:Xp U (nx+64*i)) (aj:Xp U (nx+64*j))
  (h1:ZJ C M os nx j s=some s1) (h2:ZJ C M os nx i s1=some s2):∃ t1,ZJ C M os nx i s=some t1∧∃ t2,ZJ C M os nx j t1=some t2∧X0 t2 s2:=by
 have e:∀ s:Sl×Hp,ZJ C M os nx i s=ZO C M nx i false oi s:=fun s=>by simp only[ZJ,ab,Zg,ae]
 rw[e] at h2;simp only[e];exact ZoD ab ad af ag ah aa hs ai aj h1 h2
end
end Go.Abs
