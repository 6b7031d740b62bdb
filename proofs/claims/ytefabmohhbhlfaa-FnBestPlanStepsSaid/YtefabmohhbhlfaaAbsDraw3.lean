/- Own text. -/
import Derived.Test.YtefabmohhbhlfaaAbsDraw
import Derived.Test.YtefabmohhbhlfaaAbsSound3
set_option linter.unusedVariables false
set_option linter.unusedSimpArgs false
namespace Go.Abs
open Go
section
variable {U:Nat→Prop} {hp hp' : Hp}
def Ze0 (U:Nat→Prop) (x:AV):Prop:=InU U x∧∀ f caps,x=.clo f caps→∀ c∈caps,InU U c
theorem Zda {sl:Sl}:∀ {xs:List Opd} {v:AV},v∈evL sl xs→∃ x∈xs,v=evO sl x
 | [],v,h=>by simp[evL] at h
 | x :: xs,v,h=>by
  simp only[evL] at h;rcases Ke.1 h with rfl | h
  ·exact⟨x,by simp,rfl⟩
  ·obtain⟨y,h1,h2⟩:=Zda h;exact⟨y,Ks _ h1,h2⟩
theorem Um (h:QQ U hp hp') (C:Orc) (M:Zf) {sl:Sl} (base:Nat) {c:COp} (hx:∀ x∈Zv c,Ze0 U (evO sl x)):vop C M sl hp base c=vop C M sl hp' base c:=by
 cases c<;>simp only[Zv] at hx<;>simp only[vop]
 case buildSl s xs=>
  cases hv:evL sl xs with
  | nil=>rfl
  | cons v vs=>
   simp only[buildSl];rw[ZdL h];intro y hy;rw[← hv] at hy;obtain⟨z,h1,rfl⟩:=Zda hy;exact(hx z h1).1
 case load g s a=>rw[Zno h (hx a (by simp)).1]
 case store slc s a x=>rw[Zmh h (hx a (by simp)).1 _ _ _ _ (ZiR (hx x (by simp)).1)]
 case slice s x lo hi=>rw[Zmd h (hx x (by simp)).1]
 case slice0 x hi mx=>unfold slice0;rw[Zeb h (hx x (by simp)).1]
 case slice3 s x lo hi mx=>unfold slice3;rw[Zeb h (hx x (by simp)).1]
 case clear s z x=>rw[Zme h (hx x (by simp)).1]
 case iaS s x i=>
  congr 1
  funext n
  simp only[ZdW];rw[Zf2 h (hx x (by simp)).1]
 case len x=>rw[Zeb h (hx x (by simp)).1]
 case append s b str flat x y=>
  simp only[ZnW];rw[ZeY h (hx x (by simp)).1,ZeY h (hx y (by simp)).1];generalize Xi hp' (evO sl x)=mx;generalize Xi hp' (evO sl y)=my;cases mx with
  | nil=>simp only[ZaJ];rw[ZdK h (hx x (by simp)).1 (hx y (by simp)).1]
  | cons i r=>
   cases my with
   | nil=>simp only[ZaJ];rw[ZdK h (hx x (by simp)).1 (hx y (by simp)).1]
   | cons j t=>simp only[ZaJ];rw[ZiQ h (hx x (by simp)).1 (hx y (by simp)).1]
 case appT s b f x y=>exact ZiQ h (hx x (by simp)).1 (hx y (by simp)).1 s b base
 case buildT s n xs=>
  refine Zmg h fun y hy=>?_;obtain⟨z,h1,rfl⟩:=Zda hy;exact(hx z h1).1
 case call f as=>
  have hf:=hx f (by simp);cases he:evO sl f<;>simp only[ZaK]
  rename_i g aa;refine Zns h C (M g) base g fun y hy=>?_;rcases Kc.1 hy with hy | hy
  ·obtain⟨z,h1,rfl⟩:=Zda hy;exact(hx z (by simp[h1])).1
  ·exact hf.2 g aa he y hy
theorem Zk5 {Γ:Gh} {w:World} {I:Nat→Prop} {x:AV} {v:Value} (h:XX Γ w I x v):∀ id∈Ze x,∃ r,Γ id=some r:=by
 intro id aa;cases x<;>simp only[Ze,KA,LB,Ke,or_false] at aa
 case ptr i off=>subst aa;obtain⟨b,h1,_⟩:=h;exact⟨_,h1⟩
 case prow i sz k off=>subst aa;obtain⟨b,o,n,c,h1,_⟩:=h;exact⟨_,h1⟩
 case own i=>subst aa;obtain⟨a,n,c,sz,h1,_⟩:=h;exact⟨_,h1⟩
 case ownv i off n=>subst aa;obtain⟨a0,m,c,sz,a,h1,_⟩:=h;exact⟨_,h1⟩
 case bnil i e=>subst aa;obtain⟨b,h1,_⟩:=h;exact⟨_,h1⟩
theorem Zf3 {Γ:Gh} {w:World} {I:Nat→Prop}:∀ {xs:List AV} {vs:List Value},Zr (XX Γ w I) xs vs→∀ id∈xs.flatMap Ze,∃ r,Γ id=some r
 | [],[],_,id,aa=>by simp at aa
 | [],_ :: _,h,_,_=>h.elim
 | _ :: _,[],h,_,_=>h.elim
 | x :: xs,v :: vs,h,id,aa=>by
  simp only[KG,Kc] at aa;rcases aa with aa | aa
  ·exact Zk5 h.1 id aa
  ·exact Zf3 h.2 id aa
theorem Zf4 {Γ:Gh} {w:World} {I:Nat→Prop} {x:AV} {v:Value} (h:W2 Γ w I x v):∀ id∈Zp x,∃ r,Γ id=some r:=by
 intro id aa;by_cases hs:x.small=true
 ·rw[(XN hs (fun k=>k) []).2.2.2.2.2] at aa;rw[(VH hs v).2.1] at h;exact Zk5 h id aa
 ·cases x with
  | agg cs=>obtain⟨us,_,h2⟩:=h;exact Zf3 h2 id aa
  | clo f cs=>obtain⟨us,_,h2⟩:=h;exact Zf3 h2 id aa
  | tup cs=>exact h.elim
  | d x=>simp[Zp,Ze] at aa
  | _=>exact absurd rfl hs
theorem Zq3 {Γ:Gh} {w:World} {I:Nat→Prop} {x:AV} {v:Value} (h:Xd Γ w I x v):∀ id∈Zp x,∃ r,Γ id=some r:=Zf4 h.rep2
theorem ZiW {Γ:Gh} {w:World} {I:Nat→Prop}:∀ {xs:List AV} {vs:List Value},Zr (W2 Γ w I) xs vs→∀ id∈xs.flatMap Zp,∃ r,Γ id=some r
 | [],[],_,id,aa=>by simp at aa
 | [],_ :: _,h,_,_=>h.elim
 | _ :: _,[],h,_,_=>h.elim
 | x :: xs,v :: vs,h,id,aa=>by
  simp only[KG,Kc] at aa;rcases aa with aa | aa
  ·exact Zf4 h.1 id aa
  ·exact ZiW h.2 id aa
theorem Znt {Γ:Gh} {w:World} {I:Nat→Prop} {x:AV} {v:Value} (h:Rep Γ w I x v):∀ id∈Zo x,∃ r,Γ id=some r:=by
 intro id aa;by_cases ht:∃ vs,x=.tup vs
 ·obtain⟨vs,rfl⟩:=ht;obtain⟨us,_,h2⟩:=h;exact ZiW h2 id aa
 ·have e:Rep Γ w I x v=W2 Γ w I x v:=by cases x<;>first | rfl | exact absurd ⟨_,rfl⟩ ht
  rw[e] at h;refine Zf4 h id ?_;cases x<;>first | exact aa | exact absurd ⟨_,rfl⟩ ht
theorem ZiX {Γ:Gh} {w:World} {I:Nat→Prop}:∀ {xs:List AV} {vs:List Value},Zr (Xd Γ w I) xs vs→∀ id∈xs.flatMap Zp,∃ r,Γ id=some r
 | [],[],_,id,aa=>by simp at aa
 | [],_ :: _,h,_,_=>h.elim
 | _ :: _,[],h,_,_=>h.elim
 | x :: xs,v :: vs,h,id,aa=>by
  simp only[KG,Kc] at aa;rcases aa with aa | aa
  ·exact Zq3 h.1 id aa
  ·exact ZiX h.2 id aa
theorem Zsy {Γ:Gh} {w:World} {I:Nat→Prop} {x:AV} {v:Value} (hn:∀ id,¬U id→Γ id=none) (h:Rep Γ w I x v):Ze0 U x:=by
 have ab:∀ id,(∃ r,Γ id=some r)→U id:=fun id ⟨r,hr⟩=>Classical.byContradiction fun hu=>by rw[hn id hu] at hr;cases hr
 refine⟨fun id aa=>ab id (Znt h id aa),fun f ad hx c hc=>?_⟩;subst hx;obtain⟨us,_,h2⟩:=h;obtain⟨i,hi⟩:=LQ hc;obtain⟨u,_,h3⟩:=h2.get i c hi;exact fun id aa=>ab id (Znt h3.rep2.rep id aa)
end
section
variable {P:Program} {nt:Nat} {F A I:Nat→Prop} {Γ:Gh} {U:Nat→Prop} {sl:Sl} {hp:Hp} {a:Act} {w:World}
theorem Sim.good (h:Sim nt F A I Γ U sl hp a w) (t:Nat):Ze0 U (gs sl t):=Zsy h.names (h.slots t)
theorem Sim.agree (h:Sim nt F A I Γ U sl hp a w) {hp' : Hp} (hs:∀ id,U id→lkp hp id=lkp hp' id):QQ U hp hp':=by
 refine⟨hs,fun id o hu hl i hi=>?_⟩;have ho:=h.objs id o hl;cases o with
 | box cs=>
  obtain⟨b,cur,e,_,_,_,_,h5,_⟩:=ho;obtain⟨r,hr⟩:=ZiX h5 i hi;exact Classical.byContradiction fun hu=>by rw[h.names i hu] at hr;cases hr
 | row sz xs ex fz=>simp[WP] at hi
 | gone=>simp[WP] at hi
 | tree sz ns xs lk=>simp[WP] at hi
theorem Oper.wp_ex {o:Oper} {a:Act} {w:World} {K:Act→World→Prop} (h:o.wp P a w K (fun _ _ _=>False)):∃ a' w',K a' w':=by
 unfold Oper.wp at h;generalize (execOp a.eval o).run P w=r at h;cases r with
 | ok n w' =>
  cases n<;>simp only[Oper.upon] at h
  case value v=>exact⟨_,_,h⟩
  case skip=>exact⟨_,_,h⟩
  case defer d=>exact⟨_,_,h⟩
  case enter f args=>
   obtain⟨e,aa,fr,he,_⟩:=h [];cases e with
   | returned v=>exact⟨_,_,he⟩
   | panicked c=>exact he.elim
   | outgrown=>obtain⟨a,w,hf⟩:=he;exact hf.elim
  case row row args=>
   obtain⟨v,aa,he,_⟩:=h default [];exact⟨_,_,he⟩
 | halt x w'=>cases x<;>simp only[Oper.upon] at h
end
end Go.Abs
set_option linter.unusedVariables false
set_option linter.unusedSimpArgs false
namespace Go.Abs
open Go
def Xf (s s' : Sl×Hp):Prop:=(∀ t,gs s.1 t=gs s'.1 t)∧∀ id,lkp s.2 id=lkp s'.2 id
theorem Xf.refl (s:Sl×Hp):Xf s s:=⟨fun _=>rfl,fun _=>rfl⟩
theorem Xf.symm {s s' : Sl×Hp} (h:Xf s s'):Xf s' s:=⟨fun t=>(h.1 t).symm,fun id=>(h.2 id).symm⟩
theorem Xf.trans {a b c:Sl×Hp} (h:Xf a b) (k:Xf b c):Xf a c:=⟨fun t=>(h.1 t).trans (k.1 t),fun id=>(h.2 id).trans (k.2 id)⟩
theorem Je:∀ (l:Hp) {hp hp' : Hp},(∀ id,lkp hp id=lkp hp' id)→∀ id,lkp (Zd hp l) id=lkp (Zd hp' l) id
 | [],_,_,h=>h
 | (k,o) :: r,hp,hp',h=>by
  simp only[Zd];exact Je r fun id=>by rw[Z4,Z4,h id]
theorem Ze1:∀ (l:List Nat) {hp hp' : Hp},(∀ id,lkp hp id=lkp hp' id)→∀ id,lkp (ZU hp l) id=lkp (ZU hp' l) id
 | [],_,_,h=>h
 | d :: r,hp,hp',h=>by
  simp only[ZU];exact Ze1 r fun id=>by rw[Zb3,Zb3,h id]
theorem Zsz (ce:Zb) (dst:Option Nat) {s s' : Sl×Hp} (h:Xf s s'):Xf (ce.on dst s.1 s.2) (ce.on dst s'.1 s'.2):=by
 refine⟨fun t=>?_,fun id=>?_⟩
 ·show gs (Zk (QK ce.gone s.1) dst ce.eff.val) t=gs (Zk (QK ce.gone s'.1) dst ce.eff.val) t;rw[Qh,Qh,Qs,Qs,h.1 t]
 ·exact Je _ (Je _ (Ze1 _ fun id=>by rw[ZX,ZX,Vf,Vf,h.2 id])) id
noncomputable def ZD (C:Orc) (M:Zf) (nx i:Nat) (t:Bool) (o:CO) (s:Sl×Hp):Option (Sl×Hp):=
 bnd (ZR s.1 o.guard) fun b=>if b then XQ (nx+64*i) o.dst s.1 s.2 (Y4 C M nx i t o.op s.1 s.2) else some (Zk s.1 o.dst (.tup []),s.2)
noncomputable def Zx (C:Orc) (M:Zf) (os:List CO) (nx i:Nat) (s:Sl×Hp):Option (Sl×Hp):=bnd os[i]? fun o=>ZD C M nx i (ZM os i) o s
noncomputable def Zbz (C:Orc) (M:Zf) (os:List CO) (nx:Nat):List Nat→Sl×Hp→Option (Sl×Hp)
 | [],s=>some s
 | i :: l,s=>bnd (Zx C M os nx i s) (Zbz C M os nx l)
theorem Zec (C:Orc) (M:Zf) (os:List CO) (nx:Nat):∀ (aa:List CO) (i:Nat) (t:Bool) (sl:Sl) (hp:Hp),os.drop i=aa →
  Wt C M nx i t aa sl hp=Zbz C M os nx (List.range' i aa.length) (sl,hp)
 | [],i,t,sl,hp,_=>rfl
 | o :: aa,i,t,sl,hp,hd=>by
  have h1:os[i]?=some o:=by
   have:(os.drop i)[0]?=some o:=by rw[hd];rfl
   rw[Ld] at this;simpa using this
  have h2:os.drop (i+1)=aa:=by rw[← List.drop_drop,hd];rfl
  have h4:CO.starts o=ZM os i:=by simp only[ZM,h1]
  simp only[Wt,Ki,List.range'_succ,Zbz,Zx,h1,Zc,ZD,h4];cases hw:ZR sl o.guard with
  | none=>rfl
  | some b=>
   cases b with
   | true=>
    simp only[Zc,Kg];cases hs:XQ (nx+64*i) o.dst sl hp (Y4 C M nx i (ZM os i) o.op sl hp) with
    | none=>rfl
    | some r=>
     simp only[Zc];exact Zec C M os nx aa (i+1) t r.1 r.2 h2
   | false=>
    simp only[Zc,Ka,Kf];exact Zec C M os nx aa (i+1) t _ _ h2
theorem ZoQ {hp hp' : Hp} (h:∀ id,lkp hp id=lkp hp' id):QQ (fun _=>True) hp hp':=⟨fun id _=>h id,fun _ _ _ _ _ _=>trivial⟩
theorem Zq4 (C:Orc) (M:Zf) {s s' : Sl×Hp} (h:Xf s s') (base:Nat) (c:COp):vop C M s.1 s.2 base c=vop C M s'.1 s'.2 base c:=by
 have h1:∀ x:Opd,evO s.1 x=evO s'.1 x:=fun x=>by cases x<;>simp only[evO];exact h.1 _
 rw[QM C M s.2 base (sl:=s.1) (sl':=s'.1) fun x _=>h1 x];exact Um (ZoQ h.2) C M base fun x _=>⟨fun _ _=>trivial,fun _ _ _ _ _ _ _=>trivial⟩
theorem Znu {s s' : Sl×Hp} (h:Xf s s') (g:Option (Nat×Bool)):ZR s.1 g=ZR s'.1 g:=by
 cases g with
 | none=>rfl
 | some q=>simp only[ZR,h.1]
theorem Znv {C:Orc} {M:Zf} {os:List CO} {nx i:Nat} {s s' r:Sl×Hp} (h:Xf s s') (hr:Zx C M os nx i s=some r):∃ r',Zx C M os nx i s'=some r'∧Xf r r':=by
 unfold Zx at hr ⊢;obtain⟨o,h1,hr⟩:=Za hr;rw[h1,Zc];unfold ZD at hr ⊢;obtain⟨b,h2,hr⟩:=Za hr;rw[← Znu h,h2,Zc];cases b with
 | true=>
  simp only[Kg] at hr ⊢;obtain⟨ce,h3,h4,rfl⟩:=Q1 hr;have h5:Y4 C M nx i (ZM os i) o.op s'.1 s'.2=some ce:=by
   rw[← h3];unfold Y4;rw[Zq4 C M h]
  refine⟨ce.on o.dst s'.1 s'.2,?_,Zsz ce o.dst h⟩;unfold XQ;rw[h5,Zc,Km h4]
 | false=>
  simp only[Ka,Kf] at hr ⊢;cases hr;refine⟨_,rfl,fun t=>?_,h.2⟩;show gs (Zk s.1 o.dst (.tup [])) t=gs (Zk s'.1 o.dst (.tup [])) t;rw[Qh,Qh,h.1 t]
theorem ZiY {C:Orc} {M:Zf} {os:List CO} {nx:Nat}:∀ {l:List Nat} {s s' r:Sl×Hp},Xf s s'→Zbz C M os nx l s=some r→∃ r',Zbz C M os nx l s'=some r'∧Xf r r'
 | [],s,s',r,h,hr=>by simp only[Zbz] at hr ⊢;cases hr;exact⟨s',rfl,h⟩
 | i :: l,s,s',r,h,hr=>by
  simp only[Zbz] at hr ⊢;obtain⟨s1,h1,hr⟩:=Za hr;obtain⟨aa,h2,h3⟩:=Znv h h1;rw[h2,Zc];exact ZiY h3 hr
theorem Qj {sl:Sl} {d:Option Nat} {v:AV} {o:CO} (h:Qr d (X0 o)=true):ZR (Zk sl d v) o.guard=ZR sl o.guard:=by
 cases hg:o.guard with
 | none=>rfl
 | some q=>
  simp only[ZR];rw[Qh,Kl];intro e;rw[e] at h;simp[Qr,X0,hg,ZjF] at h
theorem Vh {sl:Sl} {d:Option Nat} {v:AV} {o:CO} (h:Qr d (X0 o)=true):∀ x∈Zv o.op,evO (Zk sl d v) x=evO sl x:=by
 intro x hx;cases x with
 | t n=>
  simp only[evO];rw[Qh,Kl];intro e;rw[e] at h;simp only[Qr,X0,KH,KP,KL] at h;exact h (Kc.2 (.inl (Kr.2 ⟨_,hx,by simp[U1]⟩)))
 | _=>rfl
theorem Zed {C:Orc} {M:Zf} {nx i:Nat} {o:CO} {s s' : Sl×Hp} (h:ZD C M nx i false o s=some s') :
  ∃ v adds,s'=(Zk s.1 o.dst v,Zd s.2 adds)∧(∀ k x,(k,x)∈adds→nx+64*i≤k∧k<nx+64*i+64) ∧
   ∀ aa : Sl×Hp,ZR aa.1 o.guard=ZR s.1 o.guard→vop C M aa.1 aa.2 (nx+64*i) o.op=vop C M s.1 s.2 (nx+64*i) o.op→ZD C M nx i false o aa=some (Zk aa.1 o.dst v,Zd aa.2 adds):=by
 unfold ZD at h;obtain⟨b,hw,h⟩:=Za h;cases b with
 | true=>
  simp only[Kg] at h;obtain⟨ce,h1,h2,rfl⟩:=Q1 h;unfold Y4 at h1;simp only[Ka,Kf] at h1;have ad:=h1;unfold JZ at h1;obtain⟨c,h3,h1⟩:=Za h1;unfold ZbU at h1;split at h1
  ·rename_i e1 e2 e3 e4;cases h1;have ab:∀ s:Sl×Hp,ce.on o.dst s.1 s.2=(Zk s.1 o.dst ce.eff.val,Zd s.2 ce.eff.adds):=by
    intro s;unfold Zb.on Eff.on;rw[e1,e2,e3,e4];rfl
   refine⟨ce.eff.val,ce.eff.adds,ab s,Wv h2,fun aa g1 g2=>?_⟩;unfold ZD;rw[g1,hw,Zc];simp only[Kg];unfold XQ Y4;simp only[Ka,Kf];rw[g2,ad,Zc,Km h2,ab]
  ·cases h1
 | false=>
  simp only[Ka,Kf] at h;cases h;refine⟨.tup [],[],rfl,fun k x hk=>by simp at hk,fun aa g1 g2=>?_⟩;unfold ZD;rw[g1,hw,Zc];rfl
theorem WT {U:Nat→Prop} {a:AV} (h:X3 (.v a)=true):Ze0 U a:=by
 simp only[X3,Kb,List.isEmpty_iff,KH] at h;refine⟨fun id aa=>by rw[h.1] at aa;simp at aa,fun f ab hx=>?_⟩;subst hx;simp[ZkW] at h
section
variable {P:Program} {nt:Nat}
def ZdN (nt:Nat) (s:Sl×Hp) (U:Nat→Prop):Prop:=∃ F A I Γ a w,Sim nt F A I Γ U s.1 s.2 a w
theorem Vi {U:Nat→Prop} {base:Nat} (hf:QJ U base) {adds:Hp} (ha:∀ k x,(k,x)∈adds→base≤k∧k<base+64) (hp:Hp):∀ id,U id→lkp hp id=lkp (Zd hp adds) id:=by
 intro id hu;rw[Zs];intro o ho;obtain⟨h1,h2⟩:=ha id o ho;exact hf id h1 h2 hu
theorem V9 {sl:Sl} {d e:Option Nat} (h:Ut d e=true) (u v:AV) (t:Nat):gs (Zk (Zk sl d u) e v) t=gs (Zk (Zk sl e v) d u) t:=by
 simp only[Qh];by_cases h1:e=some t
 ·by_cases h2:d=some t
  ·rw[h1,h2] at h;simp[Ut] at h
  ·simp[h1,h2]
 ·simp[h1]
theorem ZsA {adds aa : Hp} {b b' : Nat} (ha:∀ k x,(k,x)∈adds→b≤k∧k<b+64) (ad : ∀ k x,(k,x)∈aa→b'≤k∧k<b'+64) (hd:b+64≤b'∨b'+64≤b) (hp:Hp) (id:Nat) :
  lkp (Zd (Zd hp adds) aa) id=lkp (Zd (Zd hp aa) adds) id:=by
 have ab:∀ (l:Hp) (hp hp' : Hp),(∀ o,(id,o)∉l)→lkp (Zd hp l) id=lkp hp id:=fun l hp _ h=>Zs l hp id h;by_cases h1:∃ o,(id,o)∈adds
 ·have h2:∀ o,(id,o)∉aa:=fun o ho=>by
   obtain⟨o',ae⟩:=h1;have:=ha id o' ae;have:=ad id o ho;omega
  rw[Zs aa _ id h2];have ab:∀ (l:Hp) (hp hp' : Hp),lkp hp id=lkp hp' id→lkp (Zd hp l) id=lkp (Zd hp' l) id:=by
   intro l
   induction l with
   | nil=>intro hp hp' h;exact h
   | cons q r ih=>
    intro hp hp' h;obtain⟨k,x⟩:=q;simp only[Zd];exact ih _ _ (by rw[Z4,Z4,h])
  exact ab adds _ _ (Zs aa hp id h2).symm
 ·have h2:∀ o,(id,o)∉adds:=fun o ho=>h1 ⟨o,ho⟩;rw[Zs adds _ id h2];have ab:∀ (l:Hp) (hp hp' : Hp),lkp hp id=lkp hp' id→lkp (Zd hp l) id=lkp (Zd hp' l) id:=by
   intro l
   induction l with
   | nil=>intro hp hp' h;exact h
   | cons q r ih=>
    intro hp hp' h;obtain⟨k,x⟩:=q;simp only[Zd];exact ih _ _ (by rw[Z4,Z4,h])
  exact ab aa _ _ (Zs adds hp id h2)
theorem ZiZ {C:Orc} {M:Zf} {os:List CO} {nx i j:Nat} {oi oj:CO} (an:os[i]?=some oi) (ab:os[j]?=some oj) (ae:ZM os j=false) (ao:i≠j) (af:Q7 oj oi=true)
  (ad:∀ (k:Nat) (o:CO),os[k]?=some o→∀ x∈Zv o.op,X3 x=true) {s s1 s2:Sl×Hp} {U:Nat→Prop} (hs:ZdN nt s U) (ap:QJ U (nx+64*i)) (aq:QJ U (nx+64*j))
  (h1:Zx C M os nx j s=some s1) (h2:ZD C M nx i false oi s1=some s2):∃ t1,ZD C M nx i false oi s=some t1∧∃ t2,Zx C M os nx j t1=some t2∧Xf t2 s2:=by
 obtain⟨F,A,I,Γ,a,w,aa⟩:=hs;simp only[Q7,Kb] at af;obtain⟨⟨ag,ar⟩,ah⟩:=af;have good:∀ (k:Nat) (o:CO),os[k]?=some o→∀ x∈Zv o.op,Ze0 U (evO s.1 x):=by
  intro k o ho x hx;cases x with
  | t n=>exact aa.good n
  | v y=>exact WT (ad k o ho _ hx)
  | f n=>exact⟨fun id au=>by simp[evO,Zo,Zp] at au,fun f av h c hc=>by cases h;simp at hc⟩
 simp only[Zx,ab,Zc,ae] at h1;obtain⟨vj,aj,rfl,ak,aw⟩:=Zed h1;obtain⟨vi,ai,rfl,al,am⟩:=Zed h2;dsimp only at am;have e1:ZD C M nx i false oi s=some (Zk s.1 oi.dst vi,Zd s.2 ai):=by
  refine am s (Qj ag).symm ?_;rw[QM C M (Zd s.2 aj) (nx+64*i) (Vh (o:=oi) ag)];exact Um (aa.agree (Vi aq ak s.2)) C M _ (good i oi an)
 refine⟨_,e1,?_⟩;have e2:ZD C M nx j false oj (Zk s.1 oi.dst vi,Zd s.2 ai)=some (Zk (Zk s.1 oi.dst vi) oj.dst vj,Zd (Zd s.2 ai) aj):=by
  refine aw (Zk s.1 oi.dst vi,Zd s.2 ai) (Qj ah) ?_;rw[QM C M (Zd s.2 ai) (nx+64*j) (Vh (o:=oj) ah)];exact(Um (aa.agree (Vi ap al s.2)) C M _ (good j oj ab)).symm
 refine⟨_,by simp only[Zx,ab,Zc,ae];exact e2,fun t=>?_,fun id=>?_⟩
 ·exact(V9 ar vj vi t).symm
 ·refine ZsA al ak ?_ s.2 id;rcases LJ ao with h | h
  ·left;omega
  ·right;omega
theorem Zq5 {C:Orc} {M:Zf} {os:List CO} {nx i j:Nat} {oi oj:CO} (ab:os[i]?=some oi) (ad:os[j]?=some oj) (ae:ZM os i=false) (af:ZM os j=false) (ag:i≠j) (ah:Q7 oj oi=true)
  (aa:∀ (k:Nat) (o:CO),os[k]?=some o→∀ x∈Zv o.op,X3 x=true) {s s1 s2:Sl×Hp} {U:Nat→Prop} (hs:ZdN nt s U) (ai:QJ U (nx+64*i)) (aj:QJ U (nx+64*j))
  (h1:Zx C M os nx j s=some s1) (h2:Zx C M os nx i s1=some s2):∃ t1,Zx C M os nx i s=some t1∧∃ t2,Zx C M os nx j t1=some t2∧Xf t2 s2:=by
 have e:∀ s:Sl×Hp,Zx C M os nx i s=ZD C M nx i false oi s:=fun s=>by simp only[Zx,ab,Zc,ae]
 rw[e] at h2;simp only[e];exact ZiZ ab ad af ag ah aa hs ai aj h1 h2
end
end Go.Abs
