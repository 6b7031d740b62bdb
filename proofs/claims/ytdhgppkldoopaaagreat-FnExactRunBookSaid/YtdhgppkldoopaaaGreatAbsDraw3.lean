/- Own text. -/
import Derived.Test.YtdhgppkldoopaaaGreatAbsDraw
import Derived.Test.YtdhgppkldoopaaaGreatAbsSound3
set_option linter.unusedVariables false
set_option linter.unusedSimpArgs false
namespace Go.Abs
open Go
section
variable {U:Nat→Prop} {hp hp' : Hp}
def ZkD (U:Nat→Prop) (x:AV):Prop:=InU U x∧∀ f caps,x=.clo f caps→∀ c∈caps,InU U c
theorem Zhk {sl:Sl}:∀ {xs:List Opd} {v:AV},v∈evL sl xs→∃ x∈xs,v=evO sl x
 | [],v,h=>by simp[evL] at h
 | x :: xs,v,h=>by
  simp only[evL] at h;rcases Kf.1 h with rfl | h
  ·exact⟨x,by simp,rfl⟩
  ·obtain⟨y,h1,h2⟩:=Zhk h;exact⟨y,Kr _ h1,h2⟩
theorem JU (h:Q1 U hp hp') (C:Orc) (M:Zm) {sl:Sl} (base:Nat) {c:COp} (hx:∀ x∈ZE c,ZkD U (evO sl x)):vop C M sl hp base c=vop C M sl hp' base c:=by
 cases c<;>simp only[ZE] at hx<;>simp only[vop]
 case buildSl s xs=>
  cases hv:evL sl xs with
  | nil=>rfl
  | cons v vs=>
   simp only[buildSl];rw[ZiF h];intro y hy;rw[← hv] at hy;obtain⟨z,h1,rfl⟩:=Zhk hy;exact(hx z h1).1
 case load g s a=>rw[ZtQ h (hx a (by simp)).1]
 case store slc s a x=>rw[Zsw h (hx a (by simp)).1 _ _ _ _ (ZoY (hx x (by simp)).1)]
 case slice s x lo hi=>rw[Zss h (hx x (by simp)).1]
 case slice0 x hi mx=>unfold slice0;rw[Zjl h (hx x (by simp)).1]
 case slice3 s x lo hi mx=>unfold slice3;rw[Zjl h (hx x (by simp)).1]
 case clear s z x=>rw[Zst h (hx x (by simp)).1]
 case iaS s x i=>
  congr 1
  funext n
  simp only[ZiP];rw[ZlJ h (hx x (by simp)).1]
 case len x=>rw[Zjl h (hx x (by simp)).1]
 case append s b str flat x y=>
  simp only[Zuo];rw[ZkB h (hx x (by simp)).1,ZkB h (hx y (by simp)).1];generalize XG hp' (evO sl x)=mx;generalize XG hp' (evO sl y)=my;cases mx with
  | nil=>simp only[Zda];rw[ZiD h (hx x (by simp)).1 (hx y (by simp)).1]
  | cons i r=>
   cases my with
   | nil=>simp only[Zda];rw[ZiD h (hx x (by simp)).1 (hx y (by simp)).1]
   | cons j t=>simp only[Zda];rw[ZoX h (hx x (by simp)).1 (hx y (by simp)).1]
 case appT s b f x y=>exact ZoX h (hx x (by simp)).1 (hx y (by simp)).1 s b base
 case buildT s n xs=>
  refine Zsv h fun y hy=>?_;obtain⟨z,h1,rfl⟩:=Zhk hy;exact(hx z h1).1
 case call f as=>
  have hf:=hx f (by simp);cases he:evO sl f<;>simp only[Zdb]
  rename_i g aa;refine ZtU h C (M g) base g fun y hy=>?_;rcases Ke.1 hy with hy | hy
  ·obtain⟨z,h1,rfl⟩:=Zhk hy;exact(hx z (by simp[h1])).1
  ·exact hf.2 g aa he y hy
theorem Zrg {Γ:Gh} {w:World} {I:Nat→Prop} {x:AV} {v:Value} (h:YB Γ w I x v):∀ id∈Zl x,∃ r,Γ id=some r:=by
 intro id aa;cases x<;>simp only[Zl,KL,LV,Kf,or_false] at aa
 case ptr i off=>subst aa;obtain⟨b,h1,_⟩:=h;exact⟨_,h1⟩
 case prow i sz k off=>subst aa;obtain⟨b,n,c,h1,_⟩:=h;exact⟨_,h1⟩
 case own i=>subst aa;obtain⟨a,n,c,sz,h1,_⟩:=h;exact⟨_,h1⟩
 case ownv i off n=>subst aa;obtain⟨a0,m,c,sz,a,h1,_⟩:=h;exact⟨_,h1⟩
 case bnil i e=>subst aa;obtain⟨b,h1,_⟩:=h;exact⟨_,h1⟩
theorem ZlK {Γ:Gh} {w:World} {I:Nat→Prop}:∀ {xs:List AV} {vs:List Value},Zy (YB Γ w I) xs vs→∀ id∈xs.flatMap Zl,∃ r,Γ id=some r
 | [],[],_,id,aa=>by simp at aa
 | [],_ :: _,h,_,_=>h.elim
 | _ :: _,[],h,_,_=>h.elim
 | x :: xs,v :: vs,h,id,aa=>by
  simp only[KA,Ke] at aa;rcases aa with aa | aa
  ·exact Zrg h.1 id aa
  ·exact ZlK h.2 id aa
theorem ZlL {Γ:Gh} {w:World} {I:Nat→Prop} {x:AV} {v:Value} (h:Jv Γ w I x v):∀ id∈Zz x,∃ r,Γ id=some r:=by
 intro id aa;by_cases hs:x.small=true
 ·rw[(Yg hs (fun k=>k) []).2.2.2.2.2] at aa;rw[(WA hs v).2.1] at h;exact Zrg h id aa
 ·cases x with
  | agg cs=>obtain⟨us,_,h2⟩:=h;exact ZlK h2 id aa
  | clo f cs=>obtain⟨us,_,h2⟩:=h;exact ZlK h2 id aa
  | tup cs=>exact h.elim
  | d x=>simp[Zz,Zl] at aa
  | _=>exact absurd rfl hs
theorem ZwY {Γ:Gh} {w:World} {I:Nat→Prop} {x:AV} {v:Value} (h:Xx Γ w I x v):∀ id∈Zz x,∃ r,Γ id=some r:=ZlL h.rep2
theorem Zo3 {Γ:Gh} {w:World} {I:Nat→Prop}:∀ {xs:List AV} {vs:List Value},Zy (Jv Γ w I) xs vs→∀ id∈xs.flatMap Zz,∃ r,Γ id=some r
 | [],[],_,id,aa=>by simp at aa
 | [],_ :: _,h,_,_=>h.elim
 | _ :: _,[],h,_,_=>h.elim
 | x :: xs,v :: vs,h,id,aa=>by
  simp only[KA,Ke] at aa;rcases aa with aa | aa
  ·exact ZlL h.1 id aa
  ·exact Zo3 h.2 id aa
theorem ZtV {Γ:Gh} {w:World} {I:Nat→Prop} {x:AV} {v:Value} (h:Rep Γ w I x v):∀ id∈Zx x,∃ r,Γ id=some r:=by
 intro id aa;by_cases ht:∃ vs,x=.tup vs
 ·obtain⟨vs,rfl⟩:=ht;obtain⟨us,_,h2⟩:=h;exact Zo3 h2 id aa
 ·have e:Rep Γ w I x v=Jv Γ w I x v:=by cases x<;>first | rfl | exact absurd ⟨_,rfl⟩ ht
  rw[e] at h;refine ZlL h id ?_;cases x<;>first | exact aa | exact absurd ⟨_,rfl⟩ ht
theorem Zo4 {Γ:Gh} {w:World} {I:Nat→Prop}:∀ {xs:List AV} {vs:List Value},Zy (Xx Γ w I) xs vs→∀ id∈xs.flatMap Zz,∃ r,Γ id=some r
 | [],[],_,id,aa=>by simp at aa
 | [],_ :: _,h,_,_=>h.elim
 | _ :: _,[],h,_,_=>h.elim
 | x :: xs,v :: vs,h,id,aa=>by
  simp only[KA,Ke] at aa;rcases aa with aa | aa
  ·exact ZwY h.1 id aa
  ·exact Zo4 h.2 id aa
theorem ZyF {Γ:Gh} {w:World} {I:Nat→Prop} {x:AV} {v:Value} (hn:∀ id,¬U id→Γ id=none) (h:Rep Γ w I x v):ZkD U x:=by
 have ab:∀ id,(∃ r,Γ id=some r)→U id:=fun id ⟨r,hr⟩=>Classical.byContradiction fun hu=>by rw[hn id hu] at hr;cases hr
 refine⟨fun id aa=>ab id (ZtV h id aa),fun f ad hx c hc=>?_⟩;subst hx;obtain⟨us,_,h2⟩:=h;obtain⟨i,hi⟩:=Lw hc;obtain⟨u,_,h3⟩:=h2.get i c hi;exact fun id aa=>ab id (ZtV h3.rep2.rep id aa)
end
section
variable {P:Program} {nt:Nat} {F A I:Nat→Prop} {Γ:Gh} {U:Nat→Prop} {sl:Sl} {hp:Hp} {a:Act} {w:World}
theorem Sim.good (h:Sim nt F A I Γ U sl hp a w) (t:Nat):ZkD U (gs sl t):=ZyF h.names (h.slots t)
theorem Sim.agree (h:Sim nt F A I Γ U sl hp a w) {hp' : Hp} (hs:∀ id,U id→lkp hp id=lkp hp' id):Q1 U hp hp':=by
 refine⟨hs,fun id o hu hl i hi=>?_⟩;have ho:=h.objs id o hl;cases o with
 | box cs=>
  obtain⟨b,cur,e,_,_,_,_,h5,_⟩:=ho;obtain⟨r,hr⟩:=Zo4 h5 i hi;exact Classical.byContradiction fun hu=>by rw[h.names i hu] at hr;cases hr
 | row sz xs ex fz=>simp[Ji] at hi
 | gone=>simp[Ji] at hi
 | tree sz ns xs lk=>simp[Ji] at hi
theorem Oper.wp_ex {o:Oper} {a:Act} {w:World} {K:Act→World→Prop} (h:o.wp P a w K (fun _ _ _=>False)):∃ a' w',K a' w':=by
 unfold Oper.wp at h;generalize (execOp a.eval o).run P w=r at h;cases r with
 | ok n w' =>
  cases n<;>simp only[Oper.upon] at h
  case value v=>exact⟨_,_,h⟩
  case skip=>exact⟨_,_,h⟩
  case defer d=>exact⟨_,_,h⟩
  case enter f args=>
   obtain⟨e,aa,fr,he,_⟩:=h [];cases e with
   | returned v=>exact⟨_,_,he⟩
   | panicked c=>exact he.elim
   | outgrown=>obtain⟨a,w,hf⟩:=he;exact hf.elim
  case row row args=>
   obtain⟨v,aa,he,_⟩:=h default [];exact⟨_,_,he⟩
 | halt x w'=>cases x<;>simp only[Oper.upon] at h
end
end Go.Abs
set_option linter.unusedVariables false
set_option linter.unusedSimpArgs false
namespace Go.Abs
open Go
def XB (s s' : Sl×Hp):Prop:=(∀ t,gs s.1 t=gs s'.1 t)∧∀ id,lkp s.2 id=lkp s'.2 id
theorem XB.refl (s:Sl×Hp):XB s s:=⟨fun _=>rfl,fun _=>rfl⟩
theorem XB.symm {s s' : Sl×Hp} (h:XB s s'):XB s' s:=⟨fun t=>(h.1 t).symm,fun id=>(h.2 id).symm⟩
theorem XB.trans {a b c:Sl×Hp} (h:XB a b) (k:XB b c):XB a c:=⟨fun t=>(h.1 t).trans (k.1 t),fun id=>(h.2 id).trans (k.2 id)⟩
theorem ZaY:∀ (l:Hp) {hp hp' : Hp},(∀ id,lkp hp id=lkp hp' id)→∀ id,lkp (Zh hp l) id=lkp (Zh hp' l) id
 | [],_,_,h=>h
 | (k,o) :: r,hp,hp',h=>by
  simp only[Zh];exact ZaY r fun id=>by rw[Qn,Qn,h id]
theorem ZkE:∀ (l:List Nat) {hp hp' : Hp},(∀ id,lkp hp id=lkp hp' id)→∀ id,lkp (Qc hp l) id=lkp (Qc hp' l) id
 | [],_,_,h=>h
 | d :: r,hp,hp',h=>by
  simp only[Qc];exact ZkE r fun id=>by rw[Ze3,Ze3,h id]
theorem ZyG (ce:Ze) (dst:Option Nat) {s s' : Sl×Hp} (h:XB s s'):XB (ce.on dst s.1 s.2) (ce.on dst s'.1 s'.2):=by
 refine⟨fun t=>?_,fun id=>?_⟩
 ·show gs (Zp (QW ce.gone s.1) dst ce.eff.val) t=gs (Zp (QW ce.gone s'.1) dst ce.eff.val) t;rw[Qp,Qp,QH,QH,h.1 t]
 ·exact ZaY _ (ZaY _ (ZkE _ fun id=>by rw[Qb,Qb,V8,V8,h.2 id])) id
noncomputable def ZO (C:Orc) (M:Zm) (nx i:Nat) (t:Bool) (o:CO) (s:Sl×Hp):Option (Sl×Hp):=
 bnd (ZY s.1 o.guard) fun b=>if b then Yk (nx+64*i) o.dst s.1 s.2 (VN C M nx i t o.op s.1 s.2) else some (Zp s.1 o.dst (.tup []),s.2)
noncomputable def ZF (C:Orc) (M:Zm) (os:List CO) (nx i:Nat) (s:Sl×Hp):Option (Sl×Hp):=bnd os[i]? fun o=>ZO C M nx i (ZU os i) o s
noncomputable def runL (C:Orc) (M:Zm) (os:List CO) (nx:Nat):List Nat→Sl×Hp→Option (Sl×Hp)
 | [],s=>some s
 | i :: l,s=>bnd (ZF C M os nx i s) (runL C M os nx l)
theorem Zjm (C:Orc) (M:Zm) (os:List CO) (nx:Nat):∀ (aa:List CO) (i:Nat) (t:Bool) (sl:Sl) (hp:Hp),os.drop i=aa →
  JH C M nx i t aa sl hp=runL C M os nx (List.range' i aa.length) (sl,hp)
 | [],i,t,sl,hp,_=>rfl
 | o :: aa,i,t,sl,hp,hd=>by
  have h1:os[i]?=some o:=by
   have:(os.drop i)[0]?=some o:=by rw[hd];rfl
   rw[KR] at this;simpa using this
  have h2:os.drop (i+1)=aa:=by rw[← Kao,hd];rfl
  have h4:CO.starts o=ZU os i:=by simp only[ZU,h1]
  simp only[JH,Ks,List.range'_succ,runL,ZF,h1,Zg,ZO,h4];cases hw:ZY sl o.guard with
  | none=>rfl
  | some b=>
   cases b with
   | true=>
    simp only[Zg,Kn];cases hs:Yk (nx+64*i) o.dst sl hp (VN C M nx i (ZU os i) o.op sl hp) with
    | none=>rfl
    | some r=>
     simp only[Zg];exact Zjm C M os nx aa (i+1) t r.1 r.2 h2
   | false=>
    simp only[Zg,Kc,Ko];exact Zjm C M os nx aa (i+1) t _ _ h2
theorem Zvd {hp hp' : Hp} (h:∀ id,lkp hp id=lkp hp' id):Q1 (fun _=>True) hp hp':=⟨fun id _=>h id,fun _ _ _ _ _ _=>trivial⟩
theorem ZwZ (C:Orc) (M:Zm) {s s' : Sl×Hp} (h:XB s s') (base:Nat) (c:COp):vop C M s.1 s.2 base c=vop C M s'.1 s'.2 base c:=by
 have h1:∀ x:Opd,evO s.1 x=evO s'.1 x:=fun x=>by cases x<;>simp only[evO];exact h.1 _
 rw[QX C M s.2 base (sl:=s.1) (sl':=s'.1) fun x _=>h1 x];exact JU (Zvd h.2) C M base fun x _=>⟨fun _ _=>trivial,fun _ _ _ _ _ _ _=>trivial⟩
theorem ZtW {s s' : Sl×Hp} (h:XB s s') (g:Option (Nat×Bool)):ZY s.1 g=ZY s'.1 g:=by
 cases g with
 | none=>rfl
 | some q=>simp only[ZY,h.1]
theorem ZtX {C:Orc} {M:Zm} {os:List CO} {nx i:Nat} {s s' r:Sl×Hp} (h:XB s s') (hr:ZF C M os nx i s=some r):∃ r',ZF C M os nx i s'=some r'∧XB r r':=by
 unfold ZF at hr ⊢;obtain⟨o,h1,hr⟩:=Za hr;rw[h1,Zg];unfold ZO at hr ⊢;obtain⟨b,h2,hr⟩:=Za hr;rw[← ZtW h,h2,Zg];cases b with
 | true=>
  simp only[Kn] at hr ⊢;obtain⟨ce,h3,h4,rfl⟩:=Xe hr;have h5:VN C M nx i (ZU os i) o.op s'.1 s'.2=some ce:=by
   rw[← h3];unfold VN;rw[ZwZ C M h]
  refine⟨ce.on o.dst s'.1 s'.2,?_,ZyG ce o.dst h⟩;unfold Yk;rw[h5,Zg,Kl h4]
 | false=>
  simp only[Kc,Ko] at hr ⊢;cases hr;refine⟨_,rfl,fun t=>?_,h.2⟩;show gs (Zp s.1 o.dst (.tup [])) t=gs (Zp s'.1 o.dst (.tup [])) t;rw[Qp,Qp,h.1 t]
theorem Zo5 {C:Orc} {M:Zm} {os:List CO} {nx:Nat}:∀ {l:List Nat} {s s' r:Sl×Hp},XB s s'→runL C M os nx l s=some r→∃ r',runL C M os nx l s'=some r'∧XB r r'
 | [],s,s',r,h,hr=>by simp only[runL] at hr ⊢;cases hr;exact⟨s',rfl,h⟩
 | i :: l,s,s',r,h,hr=>by
  simp only[runL] at hr ⊢;obtain⟨s1,h1,hr⟩:=Za hr;obtain⟨aa,h2,h3⟩:=ZtX h h1;rw[h2,Zg];exact Zo5 h3 hr
theorem Qs {sl:Sl} {d:Option Nat} {v:AV} {o:CO} (h:QE d (YA o)=true):ZY (Zp sl d v) o.guard=ZY sl o.guard:=by
 cases hg:o.guard with
 | none=>rfl
 | some q=>
  simp only[ZY];rw[Qp,Kj];intro e;rw[e] at h;simp[QE,YA,hg,ZpL] at h
theorem Wa {sl:Sl} {d:Option Nat} {v:AV} {o:CO} (h:QE d (YA o)=true):∀ x∈ZE o.op,evO (Zp sl d v) x=evO sl x:=by
 intro x hx;cases x with
 | t n=>
  simp only[evO];rw[Qp,Kj];intro e;rw[e] at h;simp only[QE,YA,KO,KI,KT] at h;exact h (Ke.2 (.inl (Kq.2 ⟨_,hx,by simp[ZaI]⟩)))
 | _=>rfl
theorem Zjn {C:Orc} {M:Zm} {nx i:Nat} {o:CO} {s s' : Sl×Hp} (h:ZO C M nx i false o s=some s') :
  ∃ v adds,s'=(Zp s.1 o.dst v,Zh s.2 adds)∧(∀ k x,(k,x)∈adds→nx+64*i≤k∧k<nx+64*i+64) ∧
   ∀ aa : Sl×Hp,ZY aa.1 o.guard=ZY s.1 o.guard→vop C M aa.1 aa.2 (nx+64*i) o.op=vop C M s.1 s.2 (nx+64*i) o.op→ZO C M nx i false o aa=some (Zp aa.1 o.dst v,Zh aa.2 adds):=by
 unfold ZO at h;obtain⟨b,hw,h⟩:=Za h;cases b with
 | true=>
  simp only[Kn] at h;obtain⟨ce,h1,h2,rfl⟩:=Xe h;unfold VN at h1;simp only[Kc,Ko] at h1;have ad:=h1;unfold Zb7 at h1;obtain⟨c,h3,h1⟩:=Za h1;unfold ZeW at h1;split at h1
  ·rename_i e1 e2 e3 e4;cases h1;have ab:∀ s:Sl×Hp,ce.on o.dst s.1 s.2=(Zp s.1 o.dst ce.eff.val,Zh s.2 ce.eff.adds):=by
    intro s;unfold Ze.on Eff.on;rw[e1,e2,e3,e4];rfl
   refine⟨ce.eff.val,ce.eff.adds,ab s,UB h2,fun aa g1 g2=>?_⟩;unfold ZO;rw[g1,hw,Zg];simp only[Kn];unfold Yk VN;simp only[Kc,Ko];rw[g2,ad,Zg,Kl h2,ab]
  ·cases h1
 | false=>
  simp only[Kc,Ko] at h;cases h;refine⟨.tup [],[],rfl,fun k x hk=>by simp at hk,fun aa g1 g2=>?_⟩;unfold ZO;rw[g1,hw,Zg];rfl
theorem Jl {U:Nat→Prop} {a:AV} (h:YD (.v a)=true):ZkD U a:=by
 simp only[YD,Kd,List.isEmpty_iff,KO] at h;refine⟨fun id aa=>by rw[h.1] at aa;simp at aa,fun f ab hx=>?_⟩;subst hx;simp[Zq6] at h
section
variable {P:Program} {nt:Nat}
def ZiH (nt:Nat) (s:Sl×Hp) (U:Nat→Prop):Prop:=∃ F A I Γ a w,Sim nt F A I Γ U s.1 s.2 a w
theorem Wb {U:Nat→Prop} {base:Nat} (hf:QZ U base) {adds:Hp} (ha:∀ k x,(k,x)∈adds→base≤k∧k<base+64) (hp:Hp):∀ id,U id→lkp hp id=lkp (Zh hp adds) id:=by
 intro id hu;rw[ZC];intro o ho;obtain⟨h1,h2⟩:=ha id o ho;exact hf id h1 h2 hu
theorem W0 {sl:Sl} {d e:Option Nat} (h:J1 d e=true) (u v:AV) (t:Nat):gs (Zp (Zp sl d u) e v) t=gs (Zp (Zp sl e v) d u) t:=by
 simp only[Qp];by_cases h1:e=some t
 ·by_cases h2:d=some t
  ·rw[h1,h2] at h;simp[J1] at h
  ·simp[h1,h2]
 ·simp[h1]
theorem ZyH {adds aa : Hp} {b b' : Nat} (ha:∀ k x,(k,x)∈adds→b≤k∧k<b+64) (ad : ∀ k x,(k,x)∈aa→b'≤k∧k<b'+64) (hd:b+64≤b'∨b'+64≤b) (hp:Hp) (id:Nat) :
  lkp (Zh (Zh hp adds) aa) id=lkp (Zh (Zh hp aa) adds) id:=by
 have ab:∀ (l:Hp) (hp hp' : Hp),(∀ o,(id,o)∉l)→lkp (Zh hp l) id=lkp hp id:=fun l hp _ h=>ZC l hp id h;by_cases h1:∃ o,(id,o)∈adds
 ·have h2:∀ o,(id,o)∉aa:=fun o ho=>by
   obtain⟨o',ae⟩:=h1;have:=ha id o' ae;have:=ad id o ho;omega
  rw[ZC aa _ id h2];have ab:∀ (l:Hp) (hp hp' : Hp),lkp hp id=lkp hp' id→lkp (Zh hp l) id=lkp (Zh hp' l) id:=by
   intro l
   induction l with
   | nil=>intro hp hp' h;exact h
   | cons q r ih=>
    intro hp hp' h;obtain⟨k,x⟩:=q;simp only[Zh];exact ih _ _ (by rw[Qn,Qn,h])
  exact ab adds _ _ (ZC aa hp id h2).symm
 ·have h2:∀ o,(id,o)∉adds:=fun o ho=>h1 ⟨o,ho⟩;rw[ZC adds _ id h2];have ab:∀ (l:Hp) (hp hp' : Hp),lkp hp id=lkp hp' id→lkp (Zh hp l) id=lkp (Zh hp' l) id:=by
   intro l
   induction l with
   | nil=>intro hp hp' h;exact h
   | cons q r ih=>
    intro hp hp' h;obtain⟨k,x⟩:=q;simp only[Zh];exact ih _ _ (by rw[Qn,Qn,h])
  exact ab aa _ _ (ZC adds hp id h2)
theorem Zo6 {C:Orc} {M:Zm} {os:List CO} {nx i j:Nat} {oi oj:CO} (an:os[i]?=some oi) (ab:os[j]?=some oj) (ae:ZU os j=false) (ao:i≠j) (af:Xo oj oi=true)
  (ad:∀ (k:Nat) (o:CO),os[k]?=some o→∀ x∈ZE o.op,YD x=true) {s s1 s2:Sl×Hp} {U:Nat→Prop} (hs:ZiH nt s U) (ap:QZ U (nx+64*i)) (aq:QZ U (nx+64*j))
  (h1:ZF C M os nx j s=some s1) (h2:ZO C M nx i false oi s1=some s2):∃ t1,ZO C M nx i false oi s=some t1∧∃ t2,ZF C M os nx j t1=some t2∧XB t2 s2:=by
 obtain⟨F,A,I,Γ,a,w,aa⟩:=hs;simp only[Xo,Kd] at af;obtain⟨⟨ag,ar⟩,ah⟩:=af;have good:∀ (k:Nat) (o:CO),os[k]?=some o→∀ x∈ZE o.op,ZkD U (evO s.1 x):=by
  intro k o ho x hx;cases x with
  | t n=>exact aa.good n
  | v y=>exact Jl (ad k o ho _ hx)
  | f n=>exact⟨fun id au=>by simp[evO,Zx,Zz] at au,fun f av h c hc=>by cases h;simp at hc⟩
 simp only[ZF,ab,Zg,ae] at h1;obtain⟨vj,aj,rfl,ak,aw⟩:=Zjn h1;obtain⟨vi,ai,rfl,al,am⟩:=Zjn h2;dsimp only at am;have e1:ZO C M nx i false oi s=some (Zp s.1 oi.dst vi,Zh s.2 ai):=by
  refine am s (Qs ag).symm ?_;rw[QX C M (Zh s.2 aj) (nx+64*i) (Wa (o:=oi) ag)];exact JU (aa.agree (Wb aq ak s.2)) C M _ (good i oi an)
 refine⟨_,e1,?_⟩;have e2:ZO C M nx j false oj (Zp s.1 oi.dst vi,Zh s.2 ai)=some (Zp (Zp s.1 oi.dst vi) oj.dst vj,Zh (Zh s.2 ai) aj):=by
  refine aw (Zp s.1 oi.dst vi,Zh s.2 ai) (Qs ah) ?_;rw[QX C M (Zh s.2 ai) (nx+64*j) (Wa (o:=oj) ah)];exact(JU (aa.agree (Wb ap al s.2)) C M _ (good j oj ab)).symm
 refine⟨_,by simp only[ZF,ab,Zg,ae];exact e2,fun t=>?_,fun id=>?_⟩
 ·exact(W0 ar vj vi t).symm
 ·refine ZyH al ak ?_ s.2 id;rcases LI ao with h | h
  ·left;omega
  ·right;omega
theorem Zw0 {C:Orc} {M:Zm} {os:List CO} {nx i j:Nat} {oi oj:CO} (ab:os[i]?=some oi) (ad:os[j]?=some oj) (ae:ZU os i=false) (af:ZU os j=false) (ag:i≠j) (ah:Xo oj oi=true)
  (aa:∀ (k:Nat) (o:CO),os[k]?=some o→∀ x∈ZE o.op,YD x=true) {s s1 s2:Sl×Hp} {U:Nat→Prop} (hs:ZiH nt s U) (ai:QZ U (nx+64*i)) (aj:QZ U (nx+64*j))
  (h1:ZF C M os nx j s=some s1) (h2:ZF C M os nx i s1=some s2):∃ t1,ZF C M os nx i s=some t1∧∃ t2,ZF C M os nx j t1=some t2∧XB t2 s2:=by
 have e:∀ s:Sl×Hp,ZF C M os nx i s=ZO C M nx i false oi s:=fun s=>by simp only[ZF,ab,Zg,ae]
 rw[e] at h2;simp only[e];exact Zo6 ab ad af ag ah aa hs ai aj h1 h2
end
end Go.Abs
