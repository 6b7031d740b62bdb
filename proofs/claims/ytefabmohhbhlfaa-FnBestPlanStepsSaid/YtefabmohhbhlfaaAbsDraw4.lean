/- Own text. -/
import Derived.Test.YtefabmohhbhlfaaAbsDrawD
set_option linter.unusedVariables false
set_option linter.unusedSimpArgs false
namespace Go.Abs
open Go
section
variable {P:Program} {nt:Nat}
theorem Ze2 {α β:Type} {f:α→Option β}:∀ {l:List α} {r:List β},Qi f l=some r→∀ (i:Nat) (x:α),l[i]?=some x→∃ y,r[i]?=some y∧f x=some y
 | [],r,h,i,x,hx=>by simp at hx
 | a :: l,r,h,i,x,hx=>by
  simp only[Qi] at h;obtain⟨y,h1,h⟩:=Za h;obtain⟨ys,h2,h⟩:=Za h;cases h;cases i with
  | zero=>simp at hx;subst hx;exact⟨y,by simp,h1⟩
  | succ i=>simp at hx;obtain⟨z,h3,h4⟩:=Ze2 h2 i x hx;exact⟨z,by simpa using h3,h4⟩
theorem Zah {α β:Type} {f:α→Option β}:∀ {l:List α} {r:List β},Qi f l=some r→r.length=l.length
 | [],r,h=>by simp only[Qi] at h;cases h;rfl
 | a :: l,r,h=>by
  simp only[Qi] at h;obtain⟨y,h1,h⟩:=Za h;obtain⟨ys,h2,h⟩:=Za h;cases h;simp[Zah h2]
theorem ZoR {C:Orc} {M:Zf} (hC:Qo P C) {ops:Array Oper} {os:List CO} (ad:Qi (Zg3 P nt ops.toList) ops.toList=some os) {nx i:Nat} {s s' : Sl×Hp} {U:Nat→Prop} (hs:ZdN nt s U) (hf:QJ U (nx+64*i))
  (h:Zx C M os nx i s=some s'):ZdN nt s' (W3 U (nx+64*i)):=by
 obtain⟨F,A,I,Γ,a,w,aa⟩:=hs;unfold Zx at h;obtain⟨co,ae,h⟩:=Za h;have ag:i<ops.toList.length:=by rw[← Zah ad];exact(Kd.1 ae).1
 obtain⟨am,h1,h2⟩:=Ze2 ad i ops.toList[i] (KE ag);rw[ae] at h1;cases h1;obtain⟨hg,ah,ab,af⟩:=Zb0 h2;unfold ZD at h;obtain⟨b,hw,h⟩:=Za h;cases b with
 | true=>
  simp only[Kg] at h;obtain⟨ce,ai,aj,rfl⟩:=Q1 h;have ak:=ZoL hC aa ah hf ab aj (Zbd ai) (fun a' w'=>∃ F A I Γ a w,Sim nt F A I Γ (W3 U (nx+64*i)) (ce.on co.dst s.1 s.2).1 (ce.on co.dst s.1 s.2).2 a w) (fun _ _ _=>False) fun u w' hp=>by
   obtain⟨I1,Γ1,b1,b2,b3,b4,b5⟩:=hp;rw[← af] at b5;exact⟨F,A,I1,Γ1,_,_,b5⟩
  obtain⟨_,_,al⟩:=Oper.wp_ex ak;exact al
 | false=>
  simp only[Ka,Kf] at h;cases h;obtain⟨I1,Γ1,b1,b2,b3,b4,b5⟩:=aa.pure (U':=W3 U (nx+64*i)) (v:=.tup []) (u:=undef) (dst:=co.dst) (fun id hu=>.inl hu) Zgr (by rw[af];exact ab);exact⟨F,A,I1,Γ1,_,_,b5⟩
theorem Zk6 {U:Nat→Prop} {nx i j:Nat} (aa:i≠j) (h:QJ U (nx+64*i)):QJ (W3 U (nx+64*j)) (nx+64*i):=by
 intro id h1 h2 hu;rcases hu with hu | hu
 ·exact h id h1 h2 hu
 ·rcases LJ aa with h3 | h3<;>omega
theorem Zt5 {id:Nat} {v:AV} (h:JX id v=true):okV v=true:=by
 cases v with
 | tup vs=>cases vs with
  | nil=>rfl
  | cons x r=>cases h
 | _=>first | rfl | cases h
def okW (v:AV):Bool:=okV v
theorem ZhF {v:AV} (h:okV v=true):okW v=true:=h
theorem ZsB {g:List Nat} {v:AV} (h:okW (kill g v)=true):kill g v=v:=JG h
theorem Zt6 {C:Orc} {M:Zf} {os:List CO} {nx q n:Nat} {s r:Sl×Hp} (h:Zx C M os nx q s=some r) (hd:Qr (Ws os q) [n]=true) (hk:okW (gs r.1 n)=true):gs s.1 n=gs r.1 n:=by
 unfold Zx at h;obtain⟨o,ho,h⟩:=Za h;have aa:o.dst≠some n:=by
  intro e;simp[Ws,ho,e,Qr] at hd
 unfold ZD at h;obtain⟨b,_,h⟩:=Za h;cases b with
 | true=>
  simp only[Kg] at h;obtain⟨ce,_,_,rfl⟩:=Q1 h;have e1:gs (ce.on o.dst s.1 s.2).1 n=kill ce.gone (gs s.1 n):=by
   show gs (Zk (QK ce.gone s.1) o.dst ce.eff.val) n=_;rw[Qh,Kl aa,Qs]
  rw[e1] at hk ⊢;exact(ZsB hk).symm
 | false=>
  simp only[Ka,Kf] at h;cases h;show gs s.1 n=gs (Zk s.1 o.dst (.tup [])) n;rw[Qh,Kl aa]
theorem Zmi {C:Orc} {M:Zf} {os:List CO} {nx n:Nat}:∀ {l:List Nat} {s r:Sl×Hp},Zbz C M os nx l s=some r→(∀ q∈l,Qr (Ws os q) [n]=true)→okW (gs r.1 n)=true→gs s.1 n=gs r.1 n
 | [],s,r,h,_,_=>by simp only[Zbz] at h;cases h;rfl
 | i :: l,s,r,h,hd,hk=>by
  simp only[Zbz] at h;obtain⟨s1,h1,h⟩:=Za h;have h2:=Zmi h (fun q hq=>hd q (by simp[hq])) hk;rw[← h2] at hk ⊢;exact Zt6 h1 (hd i (by simp)) hk
theorem ZsC {C:Orc} {M:Zf} {os:List CO} {nx n:Nat} {l:List Nat} {s r:Sl×Hp} (h:Zbz C M os nx l s=some r) (hd:∀ q∈l,Qr (Ws os q) [n]=true) (hk:okV (gs r.1 n)=true):gs s.1 n=gs r.1 n:=Zmi h hd (ZhF hk)
theorem ZoS {C:Orc} {M:Zf} {sl:Sl} {hp:Hp} {base:Nat} {c:COp} {ce:Zb} (hc:Zpl c=true) (h:vop C M sl hp base c=some ce):JZ (vop C M sl hp base c)=some ce:=by
 rw[h];have aa:ce.gone=[]∧ce.eff.sets=[]∧ce.eff.dels=[]∧ce.eff.frz=[]:=by
  have o1:∀ {v:AV},Qf v=some ce→ce.gone=[]∧ce.eff.sets=[]∧ce.eff.dels=[]∧ce.eff.frz=[]:=fun h=>by cases h;exact⟨rfl,rfl,rfl,rfl⟩
  have o2:∀ {v:Option AV},Y3 v=some ce→ce.gone=[]∧ce.eff.sets=[]∧ce.eff.dels=[]∧ce.eff.frz=[]:=fun h=>by obtain⟨v,_,h⟩:=Za h;exact o1 h
  cases c<;>simp only[Zpl,Ka] at hc<;>simp only[vop] at h
  case stuck=>cases h
  case move x=>exact o1 h
  case assign s x=>
   unfold ZbI at h;split at h
   ·obtain⟨s,_,h⟩:=Za h;cases h;exact⟨rfl,rfl,rfl,rfl⟩
   ·exact o1 h
  case pick c a b=>
   unfold ZcD at h;split at h
   ·split at h<;>exact o1 h
   ·cases h
  case alloc slc cs=>
   unfold ZcF Zjp at h;split at h
   ·split at h<;>first | (cases h;done) | (cases h;exact⟨rfl,rfl,rfl,rfl⟩)
   ·split at h<;>(cases h;exact⟨rfl,rfl,rfl,rfl⟩)
  case box x=>
   unfold Zrw at h;split at h
   ·cases h;exact⟨rfl,rfl,rfl,rfl⟩
   ·cases h
  case build zs ps=>obtain⟨cs,_,h⟩:=Za h;exact o1 h
  case load g s a=>exact o2 h
  case nilCheck x=>unfold Uq at h;split at h<;>first | exact o1 h | cases h
  case bin op eq x y=>
   unfold Zei at h;split at h
   ·split at h
    ·exact o2 h
    ·cases h
   ·exact o2 h
  case un op x=>exact o2 h
  case eqA neg n x y=>
   unfold Zmy at h;split at h
   ·obtain⟨r,_,h⟩:=Za h;exact o1 h
   ·cases h
  case convI k x=>unfold Go.Abs.convI at h;split at h<;>first | exact o1 h | cases h
  case convS x=>unfold Go.Abs.convS at h;split at h<;>first | exact o1 h | cases h
  case fn f cs=>exact o2 h
  case make s b z l c=>
   obtain⟨l,_,h⟩:=Za h;obtain⟨c,_,h⟩:=Za h;unfold Zlp at h;split at h
   ·cases h;exact⟨rfl,rfl,rfl,rfl⟩
   ·cases h
  case slice s x lo hi=>exact o2 h
  case sliceS x lo hi=>exact o2 h
  case slice0 x hi mx=>exact o2 h
  case slice3 s x lo hi mx=>exact o2 h
  case shift off x=>unfold Vl at h;split at h<;>first | exact o1 h | cases h
  case part g s off x=>exact o2 h
  case iaS s x i=>
   obtain⟨n,_,h⟩:=Za h;unfold ZdW at h;split at h
   ·exact o2 h
   ·cases h
  case iaA len s x i=>
   obtain⟨n,_,h⟩:=Za h;unfold Zjs at h;split at h
   ·unfold Vl at h;split at h<;>first | exact o1 h | cases h
   ·cases h
  case ixS x i=>
   obtain⟨n,_,h⟩:=Za h;unfold Zo7 at h;split at h
   ·unfold ZnU at h;split at h
    ·obtain⟨b,_,h⟩:=Za h;exact o1 h
    ·cases h
   ·cases h
  case ixA g s len x i=>
   obtain⟨n,_,h⟩:=Za h;unfold Zrx at h;split at h
   ·exact o2 h
   ·cases h
  case nth i x=>unfold ZnV at h;split at h<;>first | exact o2 h | cases h
  case len x=>obtain⟨n,_,h⟩:=Za h;exact o1 h
  case lenS x=>obtain⟨n,_,h⟩:=Za h;exact o1 h
  case min x y=>unfold Zg0 at h;split at h<;>first | (split at h<;>first | exact o1 h | cases h) | cases h
  case max x y=>unfold Zg1 at h;split at h<;>first | (split at h<;>first | exact o1 h | cases h) | cases h
 simp only[JZ,Zc,aa.1,aa.2.1,aa.2.2.1,aa.2.2.2,ZbU]
theorem Zq6 {C:Orc} {M:Zf} {nx i:Nat} {o:CO} (hc:Zpl o.op=true) (s:Sl×Hp):ZD C M nx i true o s=ZD C M nx i false o s:=by
 unfold ZD;have:Y4 C M nx i true o.op s.1 s.2=Y4 C M nx i false o.op s.1 s.2:=by
  unfold Y4;simp only[Kg,Ka,Kf];cases h:vop C M s.1 s.2 (nx+64*i) o.op with
  | none=>rfl
  | some ce=>rw[← h,ZoS hc h,h]
 rw[this]
theorem vop_read {C:Orc} {M:Zf} {sl:Sl} {hp hp' : Hp} {base:Nat} {c:COp} (hc:W4 c=true) (h:∀ x∈Zv c,∀ k∈Zo (evO sl x),lkp hp k=lkp hp' k):vop C M sl hp base c=vop C M sl hp' base c:=by
 have len:∀ v:AV,(∀ k∈Zo v,lkp hp k=lkp hp' k)→ZaE hp v=ZaE hp' v:=fun v hv=>by
  cases v<;>simp only[ZaE]
  case d x=>cases x<;>rfl
  case own id=>rw[hv id (by simp[Zo,Zp,Ze])]
 cases c<;>simp only[W4,Ka] at hc<;>simp only[Zv] at h<;>simp only[vop]
 case load g s a=>
  have:=h a (by simp);cases hv:evO sl a<;>rw[hv] at this<;>simp only[Wa]
  case ptr id off=>rw[this id (by simp[Zo,Zp,Ze])]
  case prow id sz i off=>rw[this id (by simp[Zo,Zp,Ze])]
 case slice s x lo hi=>
  have:=h x (by simp);cases hv:evO sl x<;>rw[hv] at this<;>simp only[YP]
  case d x=>cases x<;>rfl
  case own id=>rw[this id (by simp[Zo,Zp,Ze])]
  case ownv id off n=>rw[this id (by simp[Zo,Zp,Ze])]
 case slice0 x hi mx=>
  unfold slice0;rw[len _ (h x (by simp))]
 case iaS s x i=>
  congr 1
  funext n
  simp only[ZdW];have:=h x (by simp);cases hv:evO sl x<;>rw[hv] at this<;>simp only[Qk]
  case d x=>cases x<;>rfl
  case own id=>rw[this id (by simp[Zo,Zp,Ze])]
  case ownv id off n=>rw[this id (by simp[Zo,Zp,Ze])]
 case len x=>rw[len _ (h x (by simp))]
theorem Zk7 {A B:Hp} (hd:∀ k x y,(k,x)∈A→(k,y)∈B→False) (hp:Hp) (id:Nat):lkp (Zd (Zd hp A) B) id=lkp (Zd (Zd hp B) A) id:=by
 have aa:∀ (l:Hp) (hp hp' : Hp),lkp hp id=lkp hp' id→lkp (Zd hp l) id=lkp (Zd hp' l) id:=by
  intro l
  induction l with
  | nil=>intro hp hp' h;exact h
  | cons q r ih=>
   intro hp hp' h;obtain⟨k,x⟩:=q;simp only[Zd];exact ih _ _ (by rw[Z4,Z4,h])
 by_cases h1:∃ o,(id,o)∈A
 ·have h2:∀ o,(id,o)∉B:=fun o ho=>by
   obtain⟨o',ab⟩:=h1;exact hd id o' o ab ho
  rw[Zs B _ id h2];exact aa A _ _ (Zs B hp id h2).symm
 ·have h2:∀ o,(id,o)∉A:=fun o ho=>h1 ⟨o,ho⟩;rw[Zs A _ id h2];exact aa B _ _ (Zs A hp id h2)
theorem Znw {hp:Hp} {v:AV} {q:D×Bool×List Nat} (h:U7 hp v=some q):∀ i∈q.2.2,i∈Ze v:=by
 intro i hi;cases v<;>simp only[U7] at h<;>first | (cases h;simp at hi;done) | (cases h;done) | skip
 obtain⟨p,_,h⟩:=Za h;cases h;simpa [Ze] using hi
theorem ZgJ {hp:Hp}:∀ {vs:List AV} {q:List D×Bool×List Nat},YS hp vs=some q→∀ i∈q.2.2,i∈vs.flatMap Ze
 | [],q,h,i,hi=>by simp only[YS] at h;cases h;simp at hi
 | v :: vs,q,h,i,hi=>by
  simp only[YS] at h;obtain⟨q1,h1,h⟩:=Za h;obtain⟨q2,h2,h⟩:=Za h;split at h
  ·cases h;rcases Kc.1 hi with hi | hi
   ·exact Kr.2 ⟨v,by simp,Znw h1 i hi⟩
   ·obtain⟨c,hc,aa⟩:=Kr.1 (ZgJ h2 i hi);exact Kr.2 ⟨c,by simp[hc],aa⟩
  ·cases h
theorem Znx {hp:Hp} {n:Nat} {v:AV} {q:D×List Nat} (h:Zcy hp n v=some q):∀ i∈q.2,i∈Ze v:=by
 unfold Zcy at h;split at h
 ·split at h
  ·cases h;simp
  ·cases h
 ·cases h;simp
 ·unfold Zdi at h;split at h
  ·split at h
   ·cases h;simp[Ze]
   ·cases h
  ·split at h
   ·cases h;simp[Ze]
   ·cases h
  ·cases h
 ·cases h
theorem ZgK {hp:Hp} {n:Nat}:∀ {vs:List AV} {q:List D×List Nat},YW hp n vs=some q→∀ i∈q.2,i∈vs.flatMap Ze
 | [],q,h,i,hi=>by simp only[YW] at h;cases h;simp at hi
 | v :: vs,q,h,i,hi=>by
  simp only[YW] at h;obtain⟨q1,h1,h⟩:=Za h;obtain⟨q2,h2,h⟩:=Za h;split at h
  ·cases h;rcases Kc.1 hi with hi | hi
   ·exact Kr.2 ⟨v,by simp,Znx h1 i hi⟩
   ·obtain⟨c,hc,aa⟩:=Kr.1 (ZgK h2 i hi);exact Kr.2 ⟨c,by simp[hc],aa⟩
  ·cases h
theorem Zq7 {hp:Hp} {slc:List (Option Nat)} {s base:Nat} {vs:List AV} {x:AV} {e:Eff} (h:U0 hp slc s base vs x=some e):∃ id o,YA x=some id∧e.val=.junk∧e.sets=[(id,o)]∧(∀ k∈e.dels,k∈vs.flatMap Ze∧∃ a b c d,x=.prow a b c d)∧∀ i∈e.frz,i∈vs.flatMap Ze:=by
 cases x<;>simp only[U0] at h<;>first | cases h | skip
 case ptr id off=>
  unfold Zcx at h;split at h
  ·split at h
   ·split at h<;>(cases h;exact⟨id,_,rfl,rfl,rfl,fun i hi=>by simp at hi,fun i hi=>by simp at hi⟩)
   ·cases h
  ·cases h
 case prow id sz i off=>
  unfold JN at h;split at h
  ·split at h
   ·obtain⟨x,_,h⟩:=Za h;obtain⟨q,hq,h⟩:=Za h;unfold Zdh at h;split at h
    ·cases h;exact⟨id,_,rfl,rfl,rfl,fun i hi=>by simp at hi,ZgJ hq⟩
    ·cases h
   ·cases h
  ·split at h
   ·obtain⟨x,_,h⟩:=Za h;obtain⟨q,hq,h⟩:=Za h;unfold Zdj at h;split at h
    ·cases h;exact⟨id,_,rfl,rfl,rfl,fun k hk=>⟨ZgK hq k hk,_,_,_,_,rfl⟩,fun i hi=>by simp at hi⟩
    ·cases h
   ·cases h
  ·cases h
def FzEq (o o' : Option Zg):Prop:=∃ b:Bool,o'=o.map fun x=>if b then Yl x else x
theorem FzEq.seen {o o' : Option Zg} (h:FzEq o o'):JH [] o o':=by
 obtain⟨b,rfl⟩:=h;have hk:∀ x:Zg,QU [] x=x:=fun x=>by
  cases x with
  | box cs=>simp only[QU];congr 1;rw[Kx (g:=id) (fun a _=>Za1 a),LA]
  | row _ _ _ _=>rfl
  | gone=>rfl
  | tree _ _ _ l=>rcases l with _ | ⟨_ | _,_⟩<;>simp[QU,Ve]
 have:=ZnF (g:=[]) (b:=b) o;have e:(o.map (QU []))=o:=by cases o<;>simp[hk]
 rw[e] at this;exact this
theorem vop_fz {C:Orc} {M:Zf} {sl:Sl} {hp hp' : Hp} {base:Nat} {c:COp} (hc:W4 c=true) (h:∀ x∈Zv c,∀ k∈Zo (evO sl x),FzEq (lkp hp k) (lkp hp' k)):vop C M sl hp' base c=vop C M sl hp base c:=by
 have hs:∀ x∈Zv c,Ze6 [] hp hp' (evO sl x):=fun x hx k hk=>(h x hx k hk).seen;cases c<;>simp only[W4,Ka] at hc<;>simp only[Zv] at h hs<;>simp only[vop]
 case load g s a=>
  have h1:=h a (by simp);have h2:=hs a (by simp);cases hv:evO sl a<;>rw[hv] at h1 h2<;>simp only[Wa]
  case ptr id off=>
   obtain⟨b,e⟩:=h1 id (by simp[Zo,Zp,Ze]);rw[e];cases lkp hp id with
   | none=>rfl
   | some o=>cases o<;>cases b<;>rfl
  case prow id sz i off=>
   obtain⟨b,e⟩:=h1 id (by simp[Zo,Zp,Ze]);rw[e];cases lkp hp id with
   | none=>rfl
   | some o=>cases o<;>cases b<;>rfl
 case slice s x lo hi=>rw[Zcs (hs x (by simp))]
 case slice0 x hi mx=>unfold slice0;rw[Za4 (hs x (by simp))]
 case iaS s x i=>
  congr 1
  funext n
  simp only[ZdW];rw[UZ (hs x (by simp))]
 case len x=>rw[Za4 (hs x (by simp))]
def Ze3 (sl:Sl) (a:COp):COp→Bool
 | .store _ _ x y=>ZbS sl a (YA (evO sl x))&&YQ sl a (evO sl x) (evO sl y)
 | .append _ _ _ flat x y=>W5 sl a (evO sl x)&&(flat || seenSrc sl a (evO sl y))
 | _=>false
def LooseS (s:Sl) (a b:COp):Prop:=ZjE b=true∧(Vm a=true∨(W4 a=true∧Ze3 s a b=true))
theorem Zcq {sl:Sl} {id:Nat}:∀ {xs:List Opd},Qx sl id xs=true→∀ x∈xs,JX id (evO sl x)=true
 | [],_,x,hx=>by simp at hx
 | y :: ys,h,x,hx=>by
  simp only[Qx,Kb] at h;rcases Ke.1 hx with rfl | hx
  ·exact h.1
  ·exact Zcq h.2 x hx
theorem ZgL {sl:Sl} {xs:List Opd}:∀ {ks:List Nat},Xo sl xs ks=true→∀ k∈ks,Qx sl k xs=true
 | [],_,k,hk=>by simp at hk
 | j :: r,h,k,hk=>by
  simp only[Xo,Kb] at h;rcases Ke.1 hk with rfl | hk
  ·exact h.1
  ·exact ZgL h.2 k hk
theorem ZgM {sl:Sl} {a:COp} {b1 b2 b3 b4:Nat} {v:AV} (h:YQ sl a (.prow b1 b2 b3 b4) v=true):(∃ d,v=.d d)∨(okV v=true∧Xo sl (Zv a) (Zo v)=true):=by
 cases v<;>first | exact .inl ⟨_,rfl⟩ | (simp only[YQ,Kb] at h;exact .inr h)
theorem Zq8 {sl:Sl} {a:COp} {b1 b2 b3 b4:Nat} {v:AV} (h:okV v=true∧Xo sl (Zv a) (Zo v)=true):YQ sl a (.prow b1 b2 b3 b4) v=true:=by
 cases v<;>first | rfl | (simp only[YQ,Kb];exact h)
theorem Zmj {sl:Sl} {a:COp} {x v:AV} (hx:∀ a b c d,x≠.prow a b c d):YQ sl a x v=true:=by
 cases x<;>first | rfl | exact absurd rfl (hx _ _ _ _)
theorem Zi0 {sl sl' : Sl} {xs:List Opd} (h:∀ k,Qx sl k xs=true→Qx sl' k xs=true):∀ {ks:List Nat},Xo sl xs ks=true→Xo sl' xs ks=true
 | [],_=>rfl
 | j :: r,hh=>by
  simp only[Xo,Kb] at hh ⊢;exact⟨h j hh.1,Zi0 h hh.2⟩
theorem Zi1 {id:Nat} {v:AV} (h:JX id v=true):id∉Zo v:=by
 cases v with
 | tup vs=>cases vs with
  | nil=>simp[Zo]
  | cons x r=>cases h
 | _=>simp[JX,Zo,Zp,Ze] at h ⊢ <;> exact fun e=>h e.symm
theorem ZoT {hp:Hp} {sz by_ base:Nat} {str flat:Bool} {x y:AV} {e:Eff} (h:WY hp sz by_ str flat base x y=some e):e.sets=[]∧e.frz=[]∧((x=.nil∧e.dels=[])∨∃ id,e.dels=[id]∧(x=.own id∨∃ o n,x=.ownv id o n)):=by
 unfold WY at h;obtain⟨q,_,h⟩:=Za h;split at h
 ·cases x<;>simp only[ZdV] at h<;>first | (cases h;done) | skip
  ·split at h
   ·cases h;exact⟨rfl,rfl,.inl ⟨rfl,rfl⟩⟩
   ·cases h
  ·split at h
   ·cases h
   ·unfold Zjo at h;split at h
    ·split at h
     ·cases h;exact⟨rfl,rfl,.inr ⟨_,rfl,.inl rfl⟩⟩
     ·cases h
    ·cases h
  ·split at h
   ·split at h
    ·cases h
    ·unfold Zfc at h;split at h
     ·split at h
      ·cases h;exact⟨rfl,rfl,.inr ⟨_,rfl,.inr ⟨_,_,rfl⟩⟩⟩
      ·cases h
     ·cases h
   ·split at h
    ·unfold Zfb at h;split at h
     ·split at h
      ·cases h;exact⟨rfl,rfl,.inr ⟨_,rfl,.inr ⟨_,_,rfl⟩⟩⟩
      ·cases h
     ·cases h
    ·unfold Zfa at h;split at h
     ·split at h
      ·cases h;exact⟨rfl,rfl,.inr ⟨_,rfl,.inr ⟨_,_,rfl⟩⟩⟩
      ·cases h
     ·cases h
 ·cases h
theorem Zi2 {hp:Hp} {x:AV} {k:Nat} (h:k∈Xi hp x):x=.own k:=by
 unfold Xi at h;split at h
 ·split at h
  ·simp at h;subst h;rfl
  ·simp at h
 ·simp at h
theorem Zny {hp:Hp} {sz by_ base:Nat} {str flat:Bool} {x y:AV} {e:Eff}:∀ {ms:List Nat},(∀ k∈ms,x=.own k∨y=.own k)→Yo hp sz by_ str flat base x y ms=some e→e.frz=[] ∧
  e.sets=[]∧∀ k∈e.dels,(x=.own k∨∃ o n,x=.ownv k o n)∨(flat=false∧y=.own k):=by
 have plain:∀ {hp' : Hp} {e:Eff},WY hp' sz by_ str flat base x y=some e→e.sets=[]∧e.frz=[]∧∀ k∈e.dels,x=.own k∨∃ o n,x=.ownv k o n:=by
  intro hp' e h;obtain⟨g1,g2,g3⟩:=ZoT h;refine⟨g1,g2,fun k hk=>?_⟩;rcases g3 with ⟨_,g3⟩ | ⟨id,g3,g4⟩
  ·rw[g3] at hk;simp at hk
  ·rw[g3] at hk;simp at hk;subst hk;exact g4
 intro ms hm h;cases ms with
 | nil=>
  simp only[Yo] at h;obtain⟨g1,g2,g3⟩:=plain h;exact⟨g2,g1,fun k hk=>.inl (g3 k hk)⟩
 | cons i r=>
  simp only[Yo] at h;split at h
  ·cases h
  ·rename_i aa;obtain⟨e0,h1,h⟩:=Za h;cases h;obtain⟨g1,g2,g3⟩:=plain h1;refine⟨g2,g1,fun k hk=>?_⟩;rcases Kc.1 hk with hk | hk
   ·exact .inl (g3 k hk)
   ·rcases hm k hk with hk | hk
    ·exact .inl (.inl hk)
    ·exact .inr ⟨by simpa using aa,hk⟩
theorem ZsD {hp:Hp} {sz by_ base:Nat} {x y:AV} {ce:Zb} (h:appT hp sz by_ base x y=some ce):ce.gone=[]∧ce.eff.frz=[]∧ce.eff.sets=[]∧∀ k∈ce.eff.dels,x=.own k∨y=.own k:=by
 unfold appT at h;obtain⟨e,h1,h⟩:=Za h;cases h;obtain⟨q,h2,h1⟩:=Za h1;have hy:y=.own q.1:=by
  unfold Zak at h2;split at h2
  ·obtain⟨q2,_,h2⟩:=Za h2;cases h2;rfl
  ·cases h2
 split at h1
 ·cases x<;>simp only[Jj] at h1<;>first | (cases h1;done) | skip
  ·split at h1
   ·cases h1;exact⟨rfl,rfl,rfl,fun k hk=>by simp at hk;subst hk;exact .inr hy⟩
   ·cases h1
  ·obtain⟨q3,_,h1⟩:=Za h1;split at h1
   ·cases h1;refine⟨rfl,rfl,rfl,fun k hk=>?_⟩;simp at hk;rcases hk with rfl | rfl
    ·exact .inl rfl
    ·exact .inr hy
   ·cases h1
 ·cases h1
theorem Znz {hp:Hp} {sz by_ base:Nat} {str flat:Bool} {x y:AV} {ce:Zb} (h:ZnW hp sz by_ str flat base x y=some ce):ce.gone=[]∧ce.eff.frz=[] ∧
  ce.eff.sets=[]∧∀ k∈ce.eff.dels,(x=.own k∨∃ o n,x=.ownv k o n)∨(flat=false∧y=.own k):=by
 have kx:∀ k∈Xi hp x,x=.own k∨y=.own k:=fun k hk=>.inl (Zi2 hk);have ky:∀ k∈Xi hp y,x=.own k∨y=.own k:=fun k hk=>.inr (Zi2 hk);have melt:∀ {ms:List Nat},(∀ k∈ms,x=.own k∨y=.own k)→Zb8 (Yo hp sz by_ str flat base x y ms)=some ce→ce.gone=[]∧ce.eff.frz=[] ∧
   ce.eff.sets=[]∧∀ k∈ce.eff.dels,(x=.own k∨∃ o n,x=.ownv k o n)∨(flat=false∧y=.own k):=by
  intro ms hm h;obtain⟨e,h1,h⟩:=Za h;cases h;exact⟨rfl,Zny hm h1⟩
 unfold ZnW at h;generalize Xi hp x=mx at h kx;generalize Xi hp y=my at h ky;cases mx with
 | nil=>exact melt ky h
 | cons i r=>
  cases my with
  | nil=>exact melt kx h
  | cons j t=>
   simp only[ZaJ] at h;split at h
   ·cases h
   ·rename_i hc;obtain⟨g1,g2,g3,g4⟩:=ZsD h;have hf:flat=false:=by cases flat<;>simp_all
    exact⟨g1,g2,g3,fun k hk=>(g4 k hk).elim (fun e=>.inl (.inl e)) fun e=>.inr ⟨hf,e⟩⟩
theorem Zi3 {ds:List Nat} {l:Hp} {k:Nat} (h:k∈ds):lkp (ZU l ds) k=none:=by
 cases hl:lkp (ZU l ds) k with
 | none=>rfl
 | some o=>exact absurd h (Vq ds l k o hl).2
theorem Zt7 {C:Orc} {M:Zf} {sl:Sl} {hp:Hp} {base:Nat} {c:COp} {ce:Zb} (hc:ZjE c=true) (h:vop C M sl hp base c=some ce) :
  ce.gone=[]∧(∀ k,k∈ce.eff.dels∨(∃ o,(k,o)∈ce.eff.sets)→(∃ x∈Zv c,k∈Zo (evO sl x))∧∀ a,Ze3 sl a c=true→Qx sl k (Zv a)=true)∧∀ k∈ce.eff.frz,∃ x∈Zv c,k∈Zo (evO sl x):=by
 cases c<;>first | (cases hc;done) | skip
 case store slc sz x y=>
  simp only[vop,Zb8] at h;obtain⟨e,h7,h⟩:=Za h;cases h;obtain⟨id,o,ht,g1,g2,g3,g4⟩:=Zq7 h7;refine⟨rfl,fun k hk=>?_,fun k hk=>⟨y,by simp[Zv],ZiR (U:=fun k=>k∈Zo (evO sl y)) (fun _ h=>h) k (g4 k hk)⟩⟩;rcases hk with hk | ⟨o',hk⟩
  ·obtain⟨k1,b1,b2,b3,b4,k2⟩:=g3 k hk;have k3:=ZiR (U:=fun k=>k∈Zo (evO sl y)) (fun _ h=>h) k k1;refine⟨⟨y,by simp[Zv],k3⟩,fun a ha=>?_⟩;simp only[Ze3,Kb,k2] at ha;rcases ZgM ha.2 with ⟨d,hv⟩ | hv
   ·rw[hv] at k3;simp[Zo,Zp,Ze] at k3
   ·exact ZgL hv.2 k k3
  ·simp only[g2,KA,Prod.mk.injEq] at hk;have aa:=hk.1;subst aa;refine⟨⟨x,by simp[Zv],?_⟩,fun a ha=>?_⟩
   ·cases hv:evO sl x<;>rw[hv] at ht<;>simp only[YA] at ht<;>cases ht<;>simp[Zo,Zp,Ze]
   ·simp only[Ze3,Kb,ht,ZbS] at ha;exact ha.1
 case append sz by_ str flat x y=>
  simp only[vop] at h;obtain⟨g0,g2,g1,g3⟩:=Znz h;refine⟨g0,fun k hk=>?_,fun k hk=>by simp only[g2,LB] at hk⟩;have ab:k∈ce.eff.dels:=by
   rcases hk with hk | ⟨o',hk⟩
   ·exact hk
   ·simp only[g1,LB] at hk
  rcases g3 k ab with g4 | ⟨g4,g5⟩
  ·refine⟨⟨x,by simp[Zv],?_⟩,fun a ha=>?_⟩
   ·rcases g4 with g4 | ⟨o,n,g4⟩<;>rw[g4]<;>simp[Zo,Zp,Ze]
   ·simp only[Ze3,Kb] at ha;rcases g4 with g4 | ⟨o,n,g4⟩<;>rw[g4] at ha<;>exact ha.1
  ·refine⟨⟨y,by simp[Zv],by rw[g5];simp[Zo,Zp,Ze]⟩,fun a ha=>?_⟩;simp only[Ze3,Kb,g4,Bool.false_or] at ha;rw[g5] at ha;exact ha.2
theorem ZoU {C:Orc} {M:Zf} {os:List CO} {nx i j:Nat} {oi oj:CO} (ae:os[i]?=some oi) (ak:os[j]?=some oj) (ar:ZM os i=true) (am:ZM os j=false) (a3:i≠j) (au:Q7 oj oi=true)
  (an:∀ (k:Nat) (o:CO),os[k]?=some o→∀ x∈Zv o.op,X3 x=true) {s s1 s2:Sl×Hp} {U:Nat→Prop} (hs:ZdN nt s U) (a4:QJ U (nx+64*i)) (av:QJ U (nx+64*j)) (hl:LooseS s.1 oj.op oi.op)
  (h1:Zx C M os nx j s=some s1) (h2:Zx C M os nx i s1=some s2):∃ t1,Zx C M os nx i s=some t1∧∃ t2,Zx C M os nx j t1=some t2∧Xf t2 s2:=by
 obtain⟨F,A,I,Γ,a,w,ag⟩:=hs;simp only[Q7,Kb] at au;obtain⟨⟨aw,ax⟩,al⟩:=au;have good:∀ (k:Nat) (o:CO),os[k]?=some o→∀ x∈Zv o.op,Ze0 U (evO s.1 x):=by
  intro k o ho x hx;cases x with
  | t n=>exact ag.good n
  | v y=>exact WT (an k o ho _ hx)
  | f n=>exact⟨fun id a5=>by simp[evO,Zo,Zp] at a5,fun f a6 h c hc=>by cases h;simp at hc⟩
 simp only[Zx,ak,Zc,am] at h1;simp only[Zx,ae,Zc,ar] at h2;obtain⟨vj,aj,rfl,ao,ay⟩:=Zed h1;obtain⟨a7,hl⟩:=hl;unfold ZD at h2;obtain⟨b,hw,h2⟩:=Za h2;have az : ZR s.1 oi.guard=some b:=by rw[← hw];exact(Qj aw).symm
 cases b with
 | false=>
  simp only[Ka,Kf] at h2;cases h2;refine⟨(Zk s.1 oi.dst (.tup []),s.2),by simp only[Zx,ae,Zc,ZD,az,Ka,Kf],?_⟩;have e2:=ay (Zk s.1 oi.dst (.tup []),s.2) (Qj al) (QM C M s.2 (nx+64*j) (Vh (o:=oj) al));exact⟨(Zk (Zk s.1 oi.dst (.tup [])) oj.dst vj,Zd s.2 aj),by simp only[Zx,ak,Zc,am];exact e2,fun t=>(V9 ax vj (.tup []) t).symm,fun id=>rfl⟩
 | true=>
  simp only[Kg] at h2;obtain⟨ce,h3,h4,rfl⟩:=Q1 h2;have a0 : vop C M s.1 s.2 (nx+64*i) oi.op=some ce:=by
   have h5:=Zbd h3;rw[← h5,QM C M (Zd s.2 aj) (nx+64*i) (Vh (o:=oi) aw)];exact Um (ag.agree (Vi av ao s.2)) C M _ (good i oi ae)
  have aa:=Wv h4;obtain⟨k1,k2,k3⟩:=Zt7 a7 a0;obtain⟨e,gn⟩:=ce;simp only at k1 k2 k3;subst k1;have ap:∀ k∈e.frz,U k:=fun k hk=>by
   obtain⟨x,hx,hk⟩:=k3 k hk;exact(good i oi ae x hx).1 k hk
  have ah:∀ k,k∈e.dels∨(∃ o,(k,o)∈e.sets)→U k:=fun k hk=>by
   obtain⟨⟨x,hx,hk⟩,_⟩:=k2 k hk;exact(good i oi ae x hx).1 k hk
  have ai:∀ s:Sl×Hp,Zb.on { eff:=e,gone:=[] } oi.dst s.1 s.2=(Zk s.1 oi.dst e.val,Zd (Zd (ZU (Z8 e.frz s.2) e.dels) e.sets) e.adds):=by
   intro s;rfl
  refine⟨Zb.on { eff:=e,gone:=[] } oi.dst s.1 s.2,?_,?_⟩
  ·simp only[Zx,ae,Zc,ZD,az,Kg,XQ,ar,Y4];rw[a0,Zc,Km h4]
  ·have ab:∀ k,U k→¬(k∈e.dels∨∃ o,(k,o)∈e.sets)→FzEq (lkp s.2 k) (lkp (Zd (Zd (ZU (Z8 e.frz s.2) e.dels) e.sets) e.adds) k):=by
    intro k hk aq;rw[not_or] at aq;rw[← Vi a4 aa _ k hk,Zs _ _ k (fun o ho=>aq.2 ⟨o,ho⟩),Wb _ _ k aq.1,ZX];exact⟨_,rfl⟩
   have e2:ZD C M nx j false oj (Zb.on { eff:=e,gone:=[] } oi.dst s.1 s.2)=some (Zk (Zb.on { eff:=e,gone:=[] } oi.dst s.1 s.2).1 oj.dst vj,Zd (Zb.on { eff:=e,gone:=[] } oi.dst s.1 s.2).2 aj):=by
    rw[ai];refine ay (Zk s.1 oi.dst e.val,Zd (Zd (ZU (Z8 e.frz s.2) e.dels) e.sets) e.adds) (Qj al) ?_;rw[QM C M _ (nx+64*j) (Vh (o:=oj) al)];rcases hl with hl | ⟨a8,a9⟩
    ·exact Ze7 hl
    ·refine vop_fz a8 fun z hz k hk=>?_;refine ab k ((good j oj ak z hz).1 k hk) fun hp=>?_;exact Zi1 (Zcq ((k2 k hp).2 _ a9) z hz) hk
   refine⟨_,by simp only[Zx,ak,Zc,am];exact e2,fun t=>?_,fun k=>?_⟩
   ·rw[ai,ai (Zk s.1 oj.dst vj,Zd s.2 aj)];exact(V9 ax vj e.val t).symm
   ·rw[ai,ai (Zk s.1 oj.dst vj,Zd s.2 aj)];show lkp (Zd (Zd (Zd (ZU (Z8 e.frz s.2) e.dels) e.sets) e.adds) aj) k=lkp (Zd (Zd (ZU (Z8 e.frz (Zd s.2 aj)) e.dels) e.sets) e.adds) k;have a1:∀ (B:Hp) (hp hp' : Hp),(∀ k,lkp hp k=lkp hp' k)→∀ k,lkp (Zd hp B) k=lkp (Zd hp' B) k:=fun B hp hp' h=>Je B h;have ad:∀ k,U k→∀ o',(k,o')∉aj:=fun k hk o' af=>by
     have:=ao k o' af;exact av k this.1 this.2 hk
    rw[Zk7 (A:=e.adds) (B:=aj) (fun k x y hx hy=>by
     have:=aa k x hx;have:=ao k y hy;rcases LJ a3 with h | h<;>omega)]
    refine a1 e.adds _ _ (fun k=>?_) k;rw[Zk7 (A:=e.sets) (B:=aj) (fun k x y hx hy=>ad k (ah k (.inr ⟨x,hx⟩)) y hy) (ZU (Z8 e.frz s.2) e.dels) k];refine a1 e.sets _ _ (fun k=>?_) k;by_cases hd:k∈e.dels
    ·rw[Zs aj _ k (ad k (ah k (.inl hd))),Zi3 hd,Zi3 hd]
    ·rw[Wb _ _ k hd];rw[ZX];by_cases hk:∃ o',(k,o')∈aj
     ·obtain⟨o',af⟩:=hk;rw[JJ (hp':=s.2) ⟨o',af⟩];have a':k∉e.frz:=fun hf=>ad k (ap k hf) o' af;cases lkp (Zd s.2 aj) k<;>simp[a']
     ·have a2 : ∀ o',(k,o')∉aj:=fun o' af=>hk ⟨o',af⟩;rw[Zs aj _ k a2,Zs aj _ k a2,Wb _ _ k hd,ZX]
theorem Zq9 {C:Orc} {M:Zf} {os:List CO} {nx i j:Nat} {oi oj:CO} (ab:os[i]?=some oi) (ad:os[j]?=some oj) (ae:Zpl oi.op=true) (af:ZM os j=false) (ag:i≠j) (ah:Q7 oj oi=true)
  (aa:∀ (k:Nat) (o:CO),os[k]?=some o→∀ x∈Zv o.op,X3 x=true) {s s1 s2:Sl×Hp} {U:Nat→Prop} (hs:ZdN nt s U) (ai:QJ U (nx+64*i)) (aj:QJ U (nx+64*j))
  (h1:Zx C M os nx j s=some s1) (h2:Zx C M os nx i s1=some s2):∃ t1,Zx C M os nx i s=some t1∧∃ t2,Zx C M os nx j t1=some t2∧Xf t2 s2:=by
 have e:∀ s:Sl×Hp,Zx C M os nx i s=ZD C M nx i false oi s:=fun s=>by
  simp only[Zx,ab,Zc];cases ZM os i
  ·rfl
  ·exact Zq6 ae s
 rw[e] at h2;simp only[e];exact ZiZ ab ad af ag ah aa hs ai aj h1 h2
theorem Zmk {hp:Hp} {base s:Nat} {vs:List AV} {ce:Zb} (h:buildSl hp base s vs=some ce):ce.gone=[]:=by
 cases vs with
 | nil=>simp only[buildSl,Qf] at h;first | (cases h;rfl) | (split at h<;>first | (cases h;rfl) | cases h)
 | cons v r=>
  simp only[buildSl] at h;obtain⟨q,_,h⟩:=Za h;unfold rowV at h;split at h
  ·cases h;rfl
  ·cases h
theorem ZnA {C:Orc} {M:Zf} {sl:Sl} {hp:Hp} {base:Nat} {c:COp} {ce:Zb} (hc:ZbQ c=true) (h:vop C M sl hp base c=some ce):ce.gone=[]:=by
 cases c<;>first | (cases hc;done) | skip
 ·simp only[vop] at h;exact Zmk h
 ·simp only[vop] at h;exact(Znz h).1
theorem Zra {C:Orc} {M:Zf} {nx j:Nat} {oj:CO} {s s1:Sl×Hp} (hm:Yd oj.op=true) (h:ZD C M nx j false oj s=some s1) :
  ∃ v,s1=(Zk s.1 oj.dst v,s.2)∧∀ aa : Sl×Hp,ZR aa.1 oj.guard=ZR s.1 oj.guard→(∀ x∈Zv oj.op,evO aa.1 x=evO s.1 x)→ZD C M nx j false oj aa=some (Zk aa.1 oj.dst v,aa.2):=by
 obtain⟨x,hx⟩:∃ x,oj.op=.move x:=by
  cases ho:oj.op<;>rw[ho] at hm<;>first | (cases hm;done) | exact⟨_,rfl⟩
 unfold ZD at h ⊢;obtain⟨b,hw,h⟩:=Za h;cases b with
 | true=>
  simp only[Kg,hx,Y4,Ka,Kf,vop] at h;refine⟨evO s.1 x,?_,fun aa g1 g2=>?_⟩
  ·cases h;rfl
  ·rw[g1,hw,Zc];have e:=g2 x (by rw[hx];simp[Zv]);simp only[Kg,hx,Y4,Ka,Kf,vop,e];rfl
 | false=>
  simp only[Ka,Kf] at h;cases h;refine⟨.tup [],rfl,fun aa g1 g2=>?_⟩;rw[g1,hw,Zc];rfl
theorem Zrb {C:Orc} {M:Zf} {os:List CO} {nx i j:Nat} {oi oj:CO} (ad:os[i]?=some oi) (ae:os[j]?=some oj) (af:ZM os j=false) (ah:Q7 oj oi=true)
  {s s1 s2:Sl×Hp} (hm:Yd oj.op=true) (hg:ZbQ oi.op=true)
  (h1:Zx C M os nx j s=some s1) (h2:Zx C M os nx i s1=some s2):∃ t1,Zx C M os nx i s=some t1∧∃ t2,Zx C M os nx j t1=some t2∧Xf t2 s2:=by
 simp only[Q7,Kb] at ah;obtain⟨⟨ai,aj⟩,ab⟩:=ah;simp only[Zx,ae,Zc,af] at h1;simp only[Zx,ad,Zc] at h2;obtain⟨vj,rfl,ak⟩:=Zra hm h1;unfold ZD at h2;obtain⟨b,hw,h2⟩:=Za h2;have al : ZR s.1 oi.guard=some b:=by rw[← hw];exact(Qj ai).symm
 cases b with
 | false=>
  simp only[Ka,Kf] at h2;cases h2;refine⟨(Zk s.1 oi.dst (.tup []),s.2),by simp only[Zx,ad,Zc,ZD,al,Ka,Kf],?_⟩;exact⟨(Zk (Zk s.1 oi.dst (.tup [])) oj.dst vj,s.2),by simp only[Zx,ae,Zc,af];exact ak (Zk s.1 oi.dst (.tup []),s.2) (Qj ab) (Vh (o:=oj) ab),fun t=>(V9 aj vj (.tup []) t).symm,fun id=>rfl⟩
 | true=>
  simp only[Kg] at h2;obtain⟨ce,h3,h4,rfl⟩:=Q1 h2;have aa:=ZnA hg (Zbd h3);have am : Y4 C M nx i (ZM os i) oi.op s.1 s.2=some ce:=by
   rw[← h3];unfold Y4;rw[QM C M s.2 (nx+64*i) (Vh (o:=oi) ai)]
  have ag:∀ (sl:Sl) (hp:Hp),ce.on oi.dst sl hp=(Zk sl oi.dst ce.eff.val,ce.eff.on hp):=by
   intro sl hp;unfold Zb.on;rw[aa];rfl
  refine⟨ce.on oi.dst s.1 s.2,?_,?_⟩
  ·simp only[Zx,ad,Zc,ZD,al,Kg,XQ];rw[am,Zc,Km h4]
  ·rw[ag];refine⟨(Zk (Zk s.1 oi.dst ce.eff.val) oj.dst vj,ce.eff.on s.2),by simp only[Zx,ae,Zc,af];exact ak (Zk s.1 oi.dst ce.eff.val,ce.eff.on s.2) (Qj ab) (Vh (o:=oj) ab),fun t=>?_,fun k=>?_⟩
   ·rw[ag];exact(V9 aj vj ce.eff.val t).symm
   ·rw[ag]
theorem awayV_ptr {sl:Sl} {xs:List Opd} {v:AV} (h:JY sl xs v=true) {k off:Nat} (e:v=.ptr k off):∀ z∈xs,k∉Zo (evO sl z):=by
 subst e;exact fun z hz=>Zi1 (Zcq h z hz)
structure Zi4 (r:Sl) (oX oY:CO):Prop where
 opd:∀ x∈Zv oX.op,okV (evO r x)=true
 dst:∀ t,oX.dst=some t→okV (gs r t)=true
 arg:∀ y∈Zgi oY.op,okV (evO r y)=true
 away:∀ y∈Zgi oY.op,∀ k off,evO r y=.ptr k off→∀ z∈Zv oX.op,k∉Zo (evO r z)
theorem Zml {sl:Sl}:∀ {xs:List Opd},okL sl xs=true→∀ x∈xs,okV (evO sl x)=true
 | [],_,x,hx=>by simp at hx
 | y :: ys,h,x,hx=>by
  simp only[okL,Kb] at h;rcases Ke.1 hx with rfl | hx
  ·exact h.1
  ·exact Zml h.2 x hx
theorem Zk8 {sl:Sl} {xs:List Opd}:∀ {ys:List Opd},ZcH sl xs ys=true→∀ y∈ys,JY sl xs (evO sl y)=true
 | [],_,x,hx=>by simp at hx
 | y :: ys,h,x,hx=>by
  simp only[ZcH,Kb] at h;rcases Ke.1 hx with rfl | hx
  ·exact h.1
  ·exact Zk8 h.2 x hx
theorem ZnB {r:Sl} {oX oY:CO} (hm:Yd oX.op=false) (hc:UG oY.op=true) (h:Wk r oX.dst oX.op oY.op=true):Zi4 r oX oY:=by
 obtain⟨f,as,ho⟩:∃ f as,oY.op=.call (.f f) as:=by
  cases ho:oY.op<;>rw[ho] at hc<;>first | (cases hc;done) | skip
  rename_i f as;cases f<;>first | (cases hc;done) | exact⟨_,_,rfl⟩
 rw[ho] at h;have h' : (okL r (Zv oX.op)&&(okD r oX.dst&&(okL r as&&ZcH r (Zv oX.op) as)))=true:=by
  cases hx:oX.op<;>rw[hx] at h hm<;>first | (cases hm;done) | exact h
 simp only[Kb] at h';obtain⟨h1,h2,h3,h4⟩:=h';refine⟨Zml h1,fun t ht=>?_,?_,?_⟩
 ·rw[ht] at h2;exact h2
 ·rw[ho];exact Zml h3
 ·rw[ho];intro y hy k off e;exact awayV_ptr (Zk8 h4 y hy) e
theorem Zi4.move {r r' : Sl} {oX oY:CO} (h:Zi4 r oX oY) (h1:∀ n∈(Zv oX.op).flatMap U1,okV (gs r n)=true→gs r' n=gs r n) (h2:∀ n,oX.dst=some n→okV (gs r n)=true→gs r' n=gs r n)
  (h3:∀ n∈(Zgi oY.op).flatMap U1,okV (gs r n)=true→gs r' n=gs r n):Zi4 r' oX oY:=by
 have e1:∀ x∈Zv oX.op,evO r' x=evO r x:=fun x hx=>by
  have ho:=h.opd x hx;cases x with
  | t n=>exact h1 n (Kr.2 ⟨_,hx,by simp[U1]⟩) ho
  | _=>rfl
 have e3:∀ x∈Zgi oY.op,evO r' x=evO r x:=fun x hx=>by
  have ho:=h.arg x hx;cases x with
  | t n=>exact h3 n (Kr.2 ⟨_,hx,by simp[U1]⟩) ho
  | _=>rfl
 refine⟨fun x hx=>by rw[e1 x hx];exact h.opd x hx,fun t ht=>by rw[h2 t ht (h.dst t ht)];exact h.dst t ht,fun x hx=>by rw[e3 x hx];exact h.arg x hx,fun y hy k off e z hz=>?_⟩;rw[e3 y hy] at e;rw[e1 z hz];exact h.away y hy k off e z hz
theorem Zi5 {C:Orc} {M:Zf} (hM:∀ f,M f 99=false) {os:List CO} {nx x y:Nat} {oX oY:CO} (ay:os[x]?=some oX) (a1:os[y]?=some oY) (a2:x≠y) (ak:Qr oY.dst (X0 oX)=true) (aw:Qr oX.dst (X0 oY)=true)
  (ad:Qr oX.dst (X0 oX)=true) (al:Qr oY.dst (X0 oY)=true)
  (ar:∀ (k:Nat) (o:CO),os[k]?=some o→∀ x∈Zv o.op,X3 x=true) {s:Sl×Hp} {r:Sl} {U:Nat→Prop} (hs:ZdN nt s U) (a3:QJ U (nx+64*x)) (a4:QJ U (nx+64*y))
  (ae:UG oY.op=true) {ce:Zb} (a5:vop C M s.1 s.2 (nx+64*y) oY.op=some ce) (a6:QA (nx+64*y) (nx+64*y+64) ce.eff.adds=true)
  (am:∀ n,oX.dst≠some n→oY.dst≠some n→gs r n=kill ce.gone (gs s.1 n)) (aa:Zi4 r oX oY) :
  ce.eff.dels=[]∧(∀ z∈Zv oX.op,evO (ce.on oY.dst s.1 s.2).1 z=evO s.1 z)∧(∀ z∈Zv oX.op,∀ id∈Zo (evO s.1 z),id∉ce.gone)∧(∀ z∈Zv oX.op,Ze6 ce.gone s.2 (ce.on oY.dst s.1 s.2).2 (evO s.1 z)) ∧
  (∀ k,nx+64*x≤k→k<nx+64*x+64→(∀ o',(k,o')∉ce.eff.sets)∧(∀ o',(k,o')∉ce.eff.adds)∧k∉ce.eff.frz∧k∉ce.gone):=by
 obtain⟨F,A,I,Γ,a,w,au⟩:=hs;have good:∀ (k:Nat) (o:CO),os[k]?=some o→∀ x∈Zv o.op,Ze0 U (evO s.1 x):=by
  intro k o ho x hx;cases x with
  | t n=>exact au.good n
  | v y=>exact WT (ar k o ho _ hx)
  | f n=>exact⟨fun id av=>by simp[evO,Zo,Zp] at av,fun f a7 h c hc=>by cases h;simp at hc⟩
 obtain⟨f,as,ho⟩:∃ f as,oY.op=.call (.f f) as:=by
  cases ho:oY.op<;>rw[ho] at ae<;>first | (cases ae;done) | skip
  rename_i f as;cases f<;>first | (cases ae;done) | exact⟨_,_,rfl⟩
 have an:=a5;rw[ho] at an;simp only[vop,evO,ZaK,K6] at an;obtain⟨k1,k2,k3,k4⟩:=Zrl an (hM _);have ab:∀ n,(Opd.t n)∈Zv oX.op→n∈X0 oX:=fun n hn=>Kc.2 (.inl (Kr.2 ⟨_,hn,by simp[U1]⟩));have ai:∀ n,(Opd.t n)∈as→n∈X0 oY:=fun n hn=>Kc.2 (.inl (Kr.2 ⟨.t n,by rw[ho];simp[Zv,hn],by simp[U1]⟩));have ne:∀ {d:Option Nat} {l:List Nat} {n:Nat},Qr d l=true→n∈l→d≠some n:=fun {d l n} h hn e=>by
  rw[e] at h;simp only[Qr,KH,KP,KL] at h;exact h hn
 have ax:∀ z∈Zv oX.op,evO r z=evO s.1 z∧∀ id∈Zo (evO s.1 z),id∉ce.gone:=by
  intro z hz;have af:=aa.opd z hz;cases z with
  | t n=>
   have e:=am n (ne ad (ab n hz)) (ne ak (ab n hz));simp only[evO] at af ⊢;rw[e] at af ⊢;have:=JG af;exact⟨this,ZsF this⟩
  | v c=>
   have:=ar x oX ay _ hz;simp only[X3,Kb,List.isEmpty_iff] at this;exact⟨rfl,fun id av=>by simp only[evO] at av;rw[this.1] at av;simp at av⟩
  | f n=>simp only[evO,okV,okC] at af;cases af
 have az:∀ z∈as,evO r z=evO s.1 z:=by
  intro z hz;have af:=aa.arg z (by rw[ho];exact hz);cases z with
  | t n=>
   have e:=am n (ne aw (ai n hz)) (ne al (ai n hz));simp only[evO] at af ⊢;rw[e] at af ⊢;exact JG af
  | _=>rfl
 have a0:∀ id,(∃ o,lkp s.2 id=some o)→U id:=fun id ⟨o,h⟩=>au.id_in h;have uX:∀ k,nx+64*x≤k→k<nx+64*x+64→¬U k:=fun k h1 h2=>a3 k h1 h2;have aj:=Wv a6;have ag:∀ z∈Zv oX.op,∀ k∈Zo (evO s.1 z),∀ o',(k,o')∉ce.eff.sets:=by
  intro z hz k hk o' ao;rcases (k4 k o' ao).2 with h | ⟨v,hv,ap⟩
  ·exact(ax z hz).2 k hk h
  ·obtain⟨y',aq,rfl⟩:=Zda hv;have ah:=aa.arg y' (by rw[ho];exact aq);rw[az y' aq] at ah;cases hp:evO s.1 y' with
   | ptr a b=>
    rw[hp] at ap;simp only[Ud,KA] at ap;subst ap;have:=aa.away y' (by rw[ho];exact aq) k b (by rw[az y' aq,hp]) z hz;rw[(ax z hz).1] at this;exact this hk
   | clo g cs=>rw[hp] at ah;simp only[okV,okC] at ah;cases ah
   | _=>rw[hp] at ap;simp[Ud] at ap
 refine⟨k1,fun z hz=>?_,fun z hz=>(ax z hz).2,fun z hz k hk=>?_,fun k g1 g2=>⟨fun o' ao=>?_,fun o' ao=>?_,fun hf=>?_,fun hg=>?_⟩⟩
 ·cases z with
  | t n=>
   show gs (Zk (QK ce.gone s.1) oY.dst ce.eff.val) n=gs s.1 n;rw[Qh,Kl (ne ak (ab n hz)),Qs];have e:=am n (ne ad (ab n hz)) (ne ak (ab n hz));have:=aa.opd _ hz;simp only[evO] at this;rw[e] at this;exact JG this
  | _=>rfl
 ·have a8:U k:=(good x oX ay z hz).1 k hk;show JH ce.gone (lkp s.2 k) (lkp (ce.eff.on (Y0 ce.gone s.2)) k);unfold Eff.on;rw[k1];simp only[ZU];rw[Zs,Zs,ZX,Vf]
  ·exact ZnF _
  ·exact ag z hz k hk
  ·intro o' ao;obtain⟨h1,h2⟩:=aj k o' ao;exact a4 k h1 h2 a8
 ·exact uX k g1 g2 (a0 k (k4 k o' ao).1)
 ·have:=aj k o' ao;rcases LJ a2 with h | h<;>omega
 ·obtain⟨v,hv,ap⟩:=k2 k hf;obtain⟨y',aq,rfl⟩:=Zda hv;exact uX k g1 g2 ((good y oY a1 y' (by rw[ho];simp[Zv,aq])).1 k ap)
 ·exact uX k g1 g2 (a0 k (k3 k hg))
theorem ZoV {C:Orc} {M:Zf} (hM:∀ f,M f 99=false) {os:List CO} {nx i j:Nat} {oi oj:CO} (ah:os[i]?=some oi) (av:os[j]?=some oj) (az:ZM os j=false) (a0:i≠j) (aw:Q7 oj oi=true)
  (ad:Qr oj.dst (X0 oj)=true) (ae:Qr oi.dst (X0 oi)=true)
  (ai:∀ (k:Nat) (o:CO),os[k]?=some o→∀ x∈Zv o.op,X3 x=true) {s s1 s2:Sl×Hp} {U:Nat→Prop} (hs:ZdN nt s U) (a1:QJ U (nx+64*i)) (ap:QJ U (nx+64*j))
  (aj:UG oi.op=true) (a2:ZjG oj.op=true) (aa:Zi4 s2.1 oj oi) {t:Nat} (ht:oj.dst=some t)
  (h1:Zx C M os nx j s=some s1) (h2:Zx C M os nx i s1=some s2):∃ t1,Zx C M os nx i s=some t1∧∃ t2,Zx C M os nx j t1=some t2∧Xf t2 s2:=by
 have a3:=hs;obtain⟨F,A,I,Γ,a,w,af⟩:=a3;simp only[Q7,Kb] at aw;obtain⟨⟨am,an⟩,ao⟩:=aw;have good:∀ (k:Nat) (o:CO),os[k]?=some o→∀ x∈Zv o.op,Ze0 U (evO s.1 x):=by
  intro k o ho x hx;cases x with
  | t n=>exact af.good n
  | v y=>exact WT (ai k o ho _ hx)
  | f n=>exact⟨fun id a4=>by simp[evO,Zo,Zp] at a4,fun f a5 h c hc=>by cases h;simp at hc⟩
 have ab:∀ s:Sl×Hp,Zx C M os nx j s=ZD C M nx j false oj s:=fun s=>by simp only[Zx,av,Zc,az]
 rw[ab] at h1;simp only[Zx,ah,Zc] at h2;obtain⟨v,ax,a6,aq,hX⟩:∃ v ax,s1=(Zk s.1 oj.dst v,Zd s.2 ax)∧(∀ k x,(k,x)∈ax→nx+64*j≤k∧k<nx+64*j+64) ∧
   ((ZR s.1 oj.guard=some false∧v=.tup []∧ax=[])∨(ZR s.1 oj.guard=some true∧∃ ce,Zf7 ce∧vop C M s.1 s.2 (nx+64*j) oj.op=some ce∧QA (nx+64*j) (nx+64*j+64) ce.eff.adds=true∧v=ce.eff.val∧ax=ce.eff.adds)):=by
  rcases Zo4 h1 with ⟨g1,g2⟩ | ⟨g1,ce,g2,g3,g4,g5⟩
  ·exact⟨.tup [],[],g2,fun k x h=>by simp at h,.inl ⟨g1,rfl,rfl⟩⟩
  ·exact⟨ce.eff.val,ce.eff.adds,g5,Wv g4,.inr ⟨g1,ce,g2,g3,g4,rfl,rfl⟩⟩
 subst a6;unfold ZD at h2;obtain⟨b,hw,h2⟩:=Za h2;have ay : ZR s.1 oi.guard=some b:=by rw[← hw];exact(Qj am).symm
 cases b with
 | false=>
  simp only[Ka,Kf] at h2;cases h2;refine⟨(Zk s.1 oi.dst (.tup []),s.2),by simp only[Zx,ah,Zc];exact XO ay,?_⟩;refine⟨(Zk (Zk s.1 oi.dst (.tup [])) oj.dst v,Zd s.2 ax),?_,fun t=>(V9 an v (.tup []) t).symm,fun id=>rfl⟩;rw[ab];have ak:ZR (Zk s.1 oi.dst (.tup [])) oj.guard=ZR s.1 oj.guard:=Qj ao;rcases hX with ⟨g1,rfl,rfl⟩ | ⟨g1,ce,g2,g3,g4,rfl,rfl⟩
  ·exact XO (s:=(Zk s.1 oi.dst (.tup []),s.2)) (ak.trans g1)
  ·refine Zdd (s:=(Zk s.1 oi.dst (.tup []),s.2)) (ak.trans g1) g2 ?_ g4;rw[← g3];exact QM C M s.2 (nx+64*j) (Vh (o:=oj) ao)
 | true=>
  simp only[Kg] at h2;obtain⟨ce,h3,h4,rfl⟩:=Q1 h2;have a7:vop C M s.1 s.2 (nx+64*i) oi.op=some ce:=by
   have h5:=Zbd h3;rw[← h5,QM C M (Zd s.2 ax) (nx+64*i) (Vh (o:=oi) am)];exact Um (af.agree (Vi ap aq s.2)) C M _ (good i oi ah)
  have a8 : Y4 C M nx i (ZM os i) oi.op s.1 s.2=some ce:=by
   rw[← h3];unfold Y4;rw[QM C M (Zd s.2 ax) (nx+64*i) (Vh (o:=oi) am),Um (af.agree (Vi ap aq s.2)) C M _ (good i oi ah)]
  have ar:∀ n,oj.dst≠some n→oi.dst≠some n→gs (ce.on oi.dst (Zk s.1 oj.dst v) (Zd s.2 ax)).1 n=kill ce.gone (gs s.1 n):=fun n e1 e2=>by
   show gs (Zk (QK ce.gone (Zk s.1 oj.dst v)) oi.dst ce.eff.val) n=_;rw[Qh,Kl e2,Qs,Qh,Kl e1]
  obtain⟨c1,c2,c3,c4,c5⟩:=Zi5 (nt:=nt) hM av ah (Ne.symm a0) ao am ad ae ai hs ap a1 aj a7 h4 ar aa;have e0:gs (ce.on oi.dst (Zk s.1 oj.dst v) (Zd s.2 ax)).1 t=kill ce.gone v:=by
   show gs (Zk (QK ce.gone (Zk s.1 oj.dst v)) oi.dst ce.eff.val) t=_;rw[Qh,Kl,Qs,Qh,Km ht];intro e;rw[ht,e] at an;simp[Ut] at an
  have ag:kill ce.gone v=v:=by
   have h5:=aa.dst t ht;rw[e0] at h5;exact JG h5
  have au:okV v=true:=by
   have h5:=aa.dst t ht;rw[e0,ag] at h5;exact h5
  refine⟨ce.on oi.dst s.1 s.2,?_,?_⟩
  ·simp only[Zx,ah,Zc,ZD,ay,Kg,XQ];rw[a8,Zc,Km h4]
  ·have ak:ZR (ce.on oi.dst s.1 s.2).1 oj.guard=ZR s.1 oj.guard:=by
    show ZR (Zk (QK ce.gone s.1) oi.dst ce.eff.val) oj.guard=_;rw[Qj ao];exact Zde fun q _=>Qs _ _ _
   have al:(∀ k o,(k,o)∈ax→QU ce.gone o=o)∧ZD C M nx j false oj (ce.on oi.dst s.1 s.2)=some (Zk (ce.on oi.dst s.1 s.2).1 oj.dst v,Zd (ce.on oi.dst s.1 s.2).2 ax):=by
    rcases hX with ⟨g1,rfl,rfl⟩ | ⟨g1,cx,g2,g3,g4,rfl,rfl⟩
    ·exact⟨fun k o h=>by simp at h,XO (ak.trans g1)⟩
    ·obtain⟨e1,e2⟩:=Zrj a2 c2 c4 (fun k h6 h7=>(c5 k h6 h7).2.2.2) g3 g4 g2.frz au ag;exact⟨e2,Zdd (ak.trans g1) g2 e1 g4⟩
   obtain⟨e3,e4⟩:=al;refine⟨_,by rw[ab];exact e4,?_⟩;exact Zqa (ce:=ce) (dX:=oj.dst) (dY:=oi.dst) (v:=v) (ax:=ax) (s:=s) an c1 (fun k o ho=>by
    obtain⟨h6,h7⟩:=aq k o ho;obtain⟨m1,m2,m3,_⟩:=c5 k h6 h7;exact⟨m1,m2,m3⟩) e3 ag
theorem ZnC {C:Orc} {M:Zf} (hM:∀ f,M f 99=false) {os:List CO} {nx i j:Nat} {oi oj:CO} (ar:os[i]?=some oi) (ag:os[j]?=some oj) (ay:ZM os i=false) (az:i≠j) (au:Q7 oj oi=true)
  (ad:Qr oi.dst (X0 oi)=true) (ae:Qr oj.dst (X0 oj)=true)
  (ah:∀ (k:Nat) (o:CO),os[k]?=some o→∀ x∈Zv o.op,X3 x=true) {s s1 s2:Sl×Hp} {U:Nat→Prop} (hs:ZdN nt s U) (av:QJ U (nx+64*i)) (a0:QJ U (nx+64*j))
  (ai:UG oj.op=true) (a1:Zfo oi.op=true) (ab:Zi4 s2.1 oi oj) {t:Nat} (ht:oi.dst=some t)
  (h1:Zx C M os nx j s=some s1) (h2:Zx C M os nx i s1=some s2):∃ t1,Zx C M os nx i s=some t1∧∃ t2,Zx C M os nx j t1=some t2∧Xf t2 s2:=by
 have a2:=hs;obtain⟨F,A,I,Γ,a,w,aj⟩:=a2;simp only[Q7,Kb] at au;obtain⟨⟨an,ao⟩,ak⟩:=au;have af : Ut oi.dst oj.dst=true:=by
  cases hd:oi.dst<;>cases he:oj.dst<;>rw[hd,he] at ao<;>first | rfl | (simp only[Ut,bne_iff_ne,ne_eq] at ao ⊢;exact fun e=>ao e.symm)
 have good:∀ (k:Nat) (o:CO),os[k]?=some o→∀ x∈Zv o.op,Ze0 U (evO s.1 x):=by
  intro k o ho x hx;cases x with
  | t n=>exact aj.good n
  | v y=>exact WT (ah k o ho _ hx)
  | f n=>exact⟨fun id a3=>by simp[evO,Zo,Zp] at a3,fun f a4 h c hc=>by cases h;simp at hc⟩
 have aa:∀ s:Sl×Hp,Zx C M os nx i s=ZD C M nx i false oi s:=fun s=>by simp only[Zx,ar,Zc,ay]
 rw[aa] at h2;simp only[Zx,ag,Zc] at h1;unfold ZD at h1;obtain⟨b,hw,h1⟩:=Za h1;cases b with
 | false=>
  simp only[Ka,Kf] at h1;cases h1;have al:ZR (Zk s.1 oj.dst (.tup [])) oi.guard=ZR s.1 oi.guard:=Qj an;rcases Zo4 h2 with ⟨g1,g2⟩ | ⟨g1,ce,g2,g3,g4,g5⟩
  ·subst g2;refine⟨(Zk s.1 oi.dst (.tup []),s.2),by rw[aa];exact XO (al.symm.trans g1),(Zk (Zk s.1 oi.dst (.tup [])) oj.dst (.tup []),s.2),?_,fun t=>V9 af _ _ t,fun id=>rfl⟩;simp only[Zx,ag,Zc];exact XO (s:=(Zk s.1 oi.dst (.tup []),s.2)) ((Qj ak).trans hw)
  ·subst g5;refine⟨(Zk s.1 oi.dst ce.eff.val,Zd s.2 ce.eff.adds),?_,(Zk (Zk s.1 oi.dst ce.eff.val) oj.dst (.tup []),Zd s.2 ce.eff.adds),?_,fun t=>V9 af _ _ t,fun id=>rfl⟩
   ·rw[aa];refine Zdd (al.symm.trans g1) g2 ?_ g4;rw[← g3];exact(QM C M s.2 (nx+64*i) (Vh (o:=oi) an)).symm
   ·simp only[Zx,ag,Zc];exact XO (s:=(Zk s.1 oi.dst ce.eff.val,Zd s.2 ce.eff.adds)) ((Qj ak).trans hw)
 | true=>
  simp only[Kg] at h1;obtain⟨ce,h3,h4,rfl⟩:=Q1 h1;have a5:vop C M s.1 s.2 (nx+64*j) oj.op=some ce:=Zbd h3;have al:ZR (ce.on oj.dst s.1 s.2).1 oi.guard=ZR s.1 oi.guard:=by
   show ZR (Zk (QK ce.gone s.1) oj.dst ce.eff.val) oi.guard=_;rw[Qj an];exact Zde fun q _=>Qs _ _ _
  obtain⟨v,ax,a6,aw,hX⟩:∃ v ax,s2=(Zk (ce.on oj.dst s.1 s.2).1 oi.dst v,Zd (ce.on oj.dst s.1 s.2).2 ax)∧(∀ k x,(k,x)∈ax→nx+64*i≤k∧k<nx+64*i+64) ∧
    ((ZR s.1 oi.guard=some false∧v=.tup []∧ax=[])∨(ZR s.1 oi.guard=some true∧∃ cx,Zf7 cx∧vop C M (ce.on oj.dst s.1 s.2).1 (ce.on oj.dst s.1 s.2).2 (nx+64*i) oi.op=some cx∧QA (nx+64*i) (nx+64*i+64) cx.eff.adds=true∧v=cx.eff.val∧ax=cx.eff.adds)):=by
   rcases Zo4 h2 with ⟨g1,g2⟩ | ⟨g1,cx,g2,g3,g4,g5⟩
   ·exact⟨.tup [],[],g2,fun k x h=>by simp at h,.inl ⟨al.symm.trans g1,rfl,rfl⟩⟩
   ·exact⟨cx.eff.val,cx.eff.adds,g5,Wv g4,.inr ⟨al.symm.trans g1,cx,g2,g3,g4,rfl,rfl⟩⟩
  subst a6;have ap:∀ n,oi.dst≠some n→oj.dst≠some n→gs (Zk (ce.on oj.dst s.1 s.2).1 oi.dst v) n=kill ce.gone (gs s.1 n):=fun n e1 e2=>by
   rw[Qh,Kl e1];show gs (Zk (QK ce.gone s.1) oj.dst ce.eff.val) n=_;rw[Qh,Kl e2,Qs]
  obtain⟨c1,c2,c3,c4,c5⟩:=Zi5 (nt:=nt) hM ar ag az an ak ad ae ah hs av a0 ai a5 h4 ap ab;have aq:okV v=true:=by
   have h5:=ab.dst t ht;simp only[Qh,Km ht] at h5;exact h5
  have am:kill ce.gone v=v∧(∀ k o,(k,o)∈ax→QU ce.gone o=o)∧ZD C M nx i false oi s=some (Zk s.1 oi.dst v,Zd s.2 ax):=by
   rcases hX with ⟨g1,rfl,rfl⟩ | ⟨g1,cx,g2,g3,g4,rfl,rfl⟩
   ·exact⟨rfl,fun k o h=>by simp at h,XO g1⟩
   ·obtain⟨e1,e2,e3⟩:=Zo3 a1 c2 c4 c3 (fun k h6 h7=>(c5 k h6 h7).2.2.2) g3 g4 g2.frz aq;exact⟨e2,e3,Zdd g1 g2 e1 g4⟩
  obtain⟨hk,e3,e4⟩:=am;refine⟨(Zk s.1 oi.dst v,Zd s.2 ax),by rw[aa];exact e4,ce.on oj.dst (Zk s.1 oi.dst v) (Zd s.2 ax),?_,?_⟩
  ·simp only[Zx,ag,Zc,ZD];have a7:ZR (Zk s.1 oi.dst v) oj.guard=some true:=(Qj ak).trans hw;simp only[a7,Zc,Kg,XQ];have:Y4 C M nx j (ZM os j) oj.op (Zk s.1 oi.dst v) (Zd s.2 ax)=some ce:=by
    rw[← h3];unfold Y4;rw[QM C M (Zd s.2 ax) (nx+64*j) (Vh (o:=oj) ak),← Um (aj.agree (Vi av aw s.2)) C M _ (good j oj ag)]
   rw[this,Zc,Km h4]
  ·exact(Zqa (ce:=ce) (dX:=oi.dst) (dY:=oj.dst) (v:=v) (ax:=ax) (s:=s) af c1 (fun k o ho=>by
    obtain⟨h6,h7⟩:=aw k o ho;obtain⟨m1,m2,m3,_⟩:=c5 k h6 h7;exact⟨m1,m2,m3⟩) e3 hk).symm
theorem ZbA {C:Orc} {M:Zf} {nx j:Nat} {oj:CO} {x:Opd} (hx:oj.op=.move x) {s:Sl×Hp} {b:Bool} (hw:ZR s.1 oj.guard=some b) :
  ZD C M nx j false oj s=some (Zk s.1 oj.dst (if b then evO s.1 x else .tup []),s.2):=by
 unfold ZD;rw[hw,Zc];cases b
 ·rfl
 ·simp only[Kg,hx,Y4,Ka,Kf,vop];rfl
theorem ZoW {C:Orc} {M:Zf} {os:List CO} {nx i j:Nat} {oi oj:CO} (af:os[i]?=some oi) (am:os[j]?=some oj) (an:ZM os j=false) (ai:Q7 oj oi=true)
  (ao:∀ (k:Nat) (o:CO),os[k]?=some o→∀ x∈Zv o.op,X3 x=true)
  {s s1 s2:Sl×Hp} (hm:Yd oj.op=true) {t:Nat} (ht:oj.dst=some t) (aj:okV (gs s2.1 t)=true)
  (h1:Zx C M os nx j s=some s1) (h2:Zx C M os nx i s1=some s2):∃ t1,Zx C M os nx i s=some t1∧∃ t2,Zx C M os nx j t1=some t2∧Xf t2 s2:=by
 obtain⟨x,hx⟩:∃ x,oj.op=.move x:=by
  cases ho:oj.op<;>rw[ho] at hm<;>first | (cases hm;done) | exact⟨_,rfl⟩
 simp only[Q7,Kb] at ai;obtain⟨⟨ak,ad⟩,ab⟩:=ai;have aa:∀ s:Sl×Hp,Zx C M os nx j s=ZD C M nx j false oj s:=fun s=>by simp only[Zx,am,Zc,an]
 rw[aa] at h1;obtain⟨bj,ag⟩:∃ bj,ZR s.1 oj.guard=some bj:=by
  unfold ZD at h1;obtain⟨b,hw,_⟩:=Za h1;exact⟨b,hw⟩
 rw[ZbA hx ag] at h1;have h1:=(Option.some.inj h1).symm;subst h1;simp only[Zx,af,Zc] at h2;unfold ZD at h2;obtain⟨b,hw,h2⟩:=Za h2;have al : ZR s.1 oi.guard=some b:=by rw[← hw];exact(Qj ak).symm
 have ap:oi.dst≠some t:=fun e=>by rw[ht,e] at ad;simp[Ut] at ad
 have ae:∀ n,x=.t n→oi.dst≠some n:=fun n e h=>by
  rw[h] at ab;simp only[Qr,KH,KP,KL] at ab;exact ab (Kc.2 (.inl (by rw[hx,e];simp[Zv,U1])))
 cases b with
 | false=>
  simp only[Ka,Kf] at h2;cases h2;refine⟨(Zk s.1 oi.dst (.tup []),s.2),by simp only[Zx,af,Zc];exact XO al,?_⟩;refine⟨_,by rw[aa];exact ZbA (s:=(Zk s.1 oi.dst (.tup []),s.2)) hx ((Qj ab).trans ag),?_⟩;have:evO (Zk s.1 oi.dst (.tup [])) x=evO s.1 x:=Vh (o:=oj) ab x (by rw[hx];simp[Zv]);simp only[this];exact⟨fun t=>(V9 ad _ _ t).symm,fun id=>rfl⟩
 | true=>
  simp only[Kg] at h2;obtain⟨ce,h3,h4,rfl⟩:=Q1 h2;have aq : Y4 C M nx i (ZM os i) oi.op s.1 s.2=some ce:=by
   rw[← h3];unfold Y4;rw[QM C M s.2 (nx+64*i) (Vh (o:=oi) ak)]
  refine⟨ce.on oi.dst s.1 s.2,by simp only[Zx,af,Zc,ZD,al,Kg,XQ];rw[aq,Zc,Km h4],?_⟩;have ah:ZR (ce.on oi.dst s.1 s.2).1 oj.guard=some bj:=by
   show ZR (Zk (QK ce.gone s.1) oi.dst ce.eff.val) oj.guard=_;rw[Qj ab,← ag];exact Zde fun q _=>Qs _ _ _
  refine⟨_,by rw[aa];exact ZbA hx ah,?_⟩;have e0:gs (ce.on oi.dst (Zk s.1 oj.dst (if bj then evO s.1 x else .tup [])) s.2).1 t=kill ce.gone (if bj then evO s.1 x else .tup []):=by
   show gs (Zk (QK ce.gone (Zk s.1 oj.dst _)) oi.dst ce.eff.val) t=_;rw[Qh,Kl ap,Qs,Qh,Km ht]
  rw[e0] at aj;have hk:=JG aj;have ev:(if bj then evO (ce.on oi.dst s.1 s.2).1 x else .tup [])=(if bj then evO s.1 x else .tup []):=by
   cases bj with
   | false=>rfl
   | true=>
    simp only[Kg] at hk ⊢;cases x with
    | t n=>
     show gs (Zk (QK ce.gone s.1) oi.dst ce.eff.val) n=gs s.1 n;rw[Qh,Kl (ae n rfl),Qs];exact hk
    | _=>rfl
  rw[ev];refine⟨fun q=>?_,fun id=>rfl⟩;show gs (Zk (Zk (QK ce.gone s.1) oi.dst ce.eff.val) oj.dst _) q=gs (Zk (QK ce.gone (Zk s.1 oj.dst _)) oi.dst ce.eff.val) q;simp only[Qh,Qs];by_cases hq:oj.dst=some q
  ·have:¬oi.dst=some q:=fun e=>by rw[hq,e] at ad;simp[Ut] at ad
   simp only[hq,Kg,this,Kf];exact hk.symm
  ·simp[hq]
theorem ZoX {C:Orc} {M:Zf} {os:List CO} {nx i j:Nat} {oi oj:CO} (am:os[i]?=some oi) (ag:os[j]?=some oj) (ar:ZM os i=false) (an:Q7 oj oi=true)
  (ah:∀ (k:Nat) (o:CO),os[k]?=some o→∀ x∈Zv o.op,X3 x=true)
  {s s1 s2:Sl×Hp} (hm:Yd oi.op=true) {t:Nat} (ht:oi.dst=some t) (ai:okV (gs s2.1 t)=true)
  (h1:Zx C M os nx j s=some s1) (h2:Zx C M os nx i s1=some s2):∃ t1,Zx C M os nx i s=some t1∧∃ t2,Zx C M os nx j t1=some t2∧Xf t2 s2:=by
 obtain⟨x,hx⟩:∃ x,oi.op=.move x:=by
  cases ho:oi.op<;>rw[ho] at hm<;>first | (cases hm;done) | exact⟨_,rfl⟩
 simp only[Q7,Kb] at an;obtain⟨⟨ad,aj⟩,ak⟩:=an;have aa:∀ s:Sl×Hp,Zx C M os nx i s=ZD C M nx i false oi s:=fun s=>by simp only[Zx,am,Zc,ar]
 rw[aa] at h2;simp only[Zx,ag,Zc] at h1;unfold ZD at h1;obtain⟨b,hw,h1⟩:=Za h1;have af:∀ n,x=.t n→oj.dst≠some n:=fun n e h=>by
  rw[h] at ad;simp only[Qr,KH,KP,KL] at ad;exact ad (Kc.2 (.inl (by rw[hx,e];simp[Zv,U1])))
 have ao:∀ (bi:Bool) (e:evO s1.1 x=evO s.1 x∨bi=false) (g1:ZR s.1 oi.guard=some bi) (g2:ZR s1.1 oi.guard=some bi),s2=(Zk s1.1 oi.dst (if bi then evO s.1 x else .tup []),s1.2):=by
  intro bi e g1 g2;rw[ZbA hx g2] at h2;rw[← Option.some.inj h2];rcases e with e | e
  ·rw[e]
  ·rw[e];rfl
 cases b with
 | false=>
  simp only[Ka,Kf] at h1;cases h1;have ae:ZR (Zk s.1 oj.dst (.tup [])) oi.guard=ZR s.1 oi.guard:=Qj ad;obtain⟨bi,ab⟩:∃ bi,ZR s.1 oi.guard=some bi:=by
   unfold ZD at h2;obtain⟨b,hw,_⟩:=Za h2;exact⟨b,ae.symm.trans hw⟩
  have e:evO (Zk s.1 oj.dst (.tup [])) x=evO s.1 x:=Vh (o:=oi) ad x (by rw[hx];simp[Zv]);have h5:=ao bi (.inl e) ab (ae.trans ab);subst h5;refine⟨_,by rw[aa];exact ZbA hx ab,(Zk (Zk s.1 oi.dst (if bi then evO s.1 x else .tup [])) oj.dst (.tup []),s.2),?_,fun t=>?_,fun id=>rfl⟩
  ·simp only[Zx,ag,Zc];exact XO (s:=(Zk s.1 oi.dst (if bi then evO s.1 x else .tup []),s.2)) ((Qj ak).trans hw)
  ·exact(V9 aj _ _ t).symm
 | true=>
  simp only[Kg] at h1;obtain⟨ce,h3,h4,rfl⟩:=Q1 h1;have ae:ZR (ce.on oj.dst s.1 s.2).1 oi.guard=ZR s.1 oi.guard:=by
   show ZR (Zk (QK ce.gone s.1) oj.dst ce.eff.val) oi.guard=_;rw[Qj ad];exact Zde fun q _=>Qs _ _ _
  obtain⟨bi,ab⟩:∃ bi,ZR s.1 oi.guard=some bi:=by
   unfold ZD at h2;obtain⟨b,hw,_⟩:=Za h2;exact⟨b,ae.symm.trans hw⟩
  have ap:=h2;rw[ZbA hx (ae.trans ab)] at ap;have h6:=Option.some.inj ap;have hv:okV (if bi then evO (ce.on oj.dst s.1 s.2).1 x else .tup [])=true:=by
   rw[← h6] at ai;simp only[Qh,Km ht] at ai;exact ai
  have aq:kill ce.gone (if bi then evO s.1 x else .tup [])=(if bi then evO s.1 x else .tup [])∧(evO (ce.on oj.dst s.1 s.2).1 x=evO s.1 x∨bi=false):=by
   cases bi with
   | false=>exact⟨rfl,.inr rfl⟩
   | true=>
    simp only[Kg] at hv ⊢;cases x with
    | t n=>
     have e:evO (ce.on oj.dst s.1 s.2).1 (.t n)=kill ce.gone (gs s.1 n):=by
      show gs (Zk (QK ce.gone s.1) oj.dst ce.eff.val) n=_;rw[Qh,Kl (af n rfl),Qs]
     rw[e] at hv ⊢;have:=JG hv;exact⟨this,.inl this⟩
    | v c=>
     have hc:=ah i oi am (.v c) (by rw[hx];simp[Zv]);simp only[X3,Kb,List.isEmpty_iff] at hc;exact⟨Zp8 hv fun id al=>by simp only[evO] at al;rw[hc.1] at al;simp at al,.inl rfl⟩
    | f n=>simp only[evO,okV,okC] at hv;cases hv
  have h5:=ao bi aq.2 ab (ae.trans ab);subst h5;refine⟨_,by rw[aa];exact ZbA hx ab,ce.on oj.dst (Zk s.1 oi.dst (if bi then evO s.1 x else .tup [])) s.2,?_,fun q=>?_,fun id=>rfl⟩
  ·simp only[Zx,ag,Zc,ZD];have au:ZR (Zk s.1 oi.dst (if bi then evO s.1 x else .tup [])) oj.guard=some true:=(Qj ak).trans hw;simp only[au,Zc,Kg,XQ];have:Y4 C M nx j (ZM os j) oj.op (Zk s.1 oi.dst (if bi then evO s.1 x else .tup [])) s.2=some ce:=by
    rw[← h3];unfold Y4;rw[QM C M s.2 (nx+64*j) (Vh (o:=oj) ak)]
   rw[this,Zc,Km h4]
  ·show gs (Zk (QK ce.gone (Zk s.1 oi.dst _)) oj.dst ce.eff.val) q=gs (Zk (Zk (QK ce.gone s.1) oj.dst ce.eff.val) oi.dst _) q;simp only[Qh,Qs];by_cases hq:oi.dst=some q
   ·have:¬oj.dst=some q:=fun e=>by rw[hq,e] at aj;simp[Ut] at aj
    simp only[hq,Kg,this,Kf];exact aq.1
   ·simp[hq]
theorem Zp6 {C:Orc} {M:Zf} (hM:∀ f,M f 99=false) (hC:Qo P C) {ops:Array Oper} {os:List CO} (a9:Qi (Zg3 P nt ops.toList) ops.toList=some os) {nx i:Nat} {ks:List Nat} {oi:CO} (ab:os[i]?=some oi)
  (ad:∀ (k:Nat) (o:CO),os[k]?=some o→∀ x∈Zv o.op,X3 x=true) :
  ∀ (js:List Nat) {s r:Sl×Hp} {U:Nat→Prop},ZdN nt s U→QJ U (nx+64*i)→(∀ j∈js,QJ U (nx+64*j))→(js++i :: ks).Pairwise (· < ·) →
   (∀ j∈js,∃ oj,os[j]?=some oj∧Q7 oj oi=true∧((ZM os j=false∧(ZM os i=true→Zpl oi.op=true∨(ZjE oi.op=true∧(Vm oj.op=true∨(W4 oj.op=true∧U3 os j=true∧U3 os i=true∧Ze3 r.1 oj.op oi.op=true)))∨(Yd oj.op=true∧ZbQ oi.op=true)∨(Yd oj.op=true∧ZhA os j=true∧okD r.1 oj.dst=true) ∨
    (Yd oj.op=false∧UG oi.op=true∧ZjG oj.op=true∧U3 os j=true∧U3 os i=true∧ZhA os j=true∧Wk r.1 oj.dst oj.op oi.op=true))) ∨
    (ZM os j=true∧ZM os i=false∧Yd oi.op=true∧ZhA os i=true∧okD r.1 oi.dst=true) ∨
    (ZM os j=true∧ZM os i=false∧Yd oi.op=false∧UG oj.op=true∧Zfo oi.op=true∧U3 os j=true∧U3 os i=true∧ZhA os i=true∧Wk r.1 oi.dst oi.op oj.op=true))) →
   (∀ j∈js++i :: ks,j<os.length)→Zbz C M os nx (js++i :: ks) s=some r →
   ∃ s',Zx C M os nx i s=some s'∧∃ r',Zbz C M os nx (js++ks) s'=some r'∧Xf r' r
 | [],s,r,U,_,_,_,_,_,_,h=>by
  simp only[Lz,Zbz] at h ⊢;obtain⟨s',h1,h⟩:=Za h;exact⟨s',h1,r,h,Xf.refl r⟩
 | j :: js,s,r,U,hs,hfi,hfj,hsort,hj,hlt,h=>by
  have a1:=h;simp only[KN,Zbz] at h;obtain⟨s1,h1,h⟩:=Za h;have a8:=hsort;simp only[KN,LI] at hsort;have bk:j<i:=hsort.1 i (by simp);have a0:i≠j:=by omega
  have a':=ZoR hC a9 hs (hfj j (by simp)) h1;have ba:∀ k∈js,k≠j:=fun k hk e=>by
   have:=hsort.1 k (by simp[hk]);omega
  obtain⟨s2,h2,r2,h3,h4⟩:=Zp6 hM hC a9 ab ad js a' (Zk6 a0 hfi) (fun k hk=>Zk6 (ba k hk) (hfj k (by simp[hk]))) hsort.2 (fun k hk=>hj k (by simp[hk])) (fun k hk=>hlt k (by simp only[KN,Ke];exact .inr hk)) h;obtain⟨oj,ae,au,a2⟩:=hj j (by simp);have aa:∀ {k q n:Nat} {o:CO},U3 os k=true→os[k]?=some o→k≤q→q<os.length→n∈X0 o→Qr (Ws os q) [n]=true:=by
   intro k q n o am ho bl hq hn;have:=KO.1 am q (Li.2 hq);simp only[ZmJ,ho,K5,Kj] at this;rcases this with h | h
   ·omega
   ·cases hd:Ws os q with
    | none=>rfl
    | some d=>
     rw[hd] at h;simp only[Qr,KH,KP,KL] at h ⊢;intro e;simp at e;exact h (e ▸ hn)
  have af:∀ {k:Nat} {o:CO},U3 os k=true→os[k]?=some o→Qr o.dst (X0 o)=true:=by
   intro k o am ho;have hk:k<os.length:=(Kd.1 ho).1;have:=KO.1 am k (Li.2 hk);simp only[ZmJ,Ws,ho,K5,Kj] at this;rcases this with h | h
   ·omega
   ·exact h
  have ag:∀ {k q t:Nat} {o:CO},ZhA os k=true→os[k]?=some o→o.dst=some t→q≠k→q<os.length→Qr (Ws os q) [t]=true:=by
   intro k q t o hl ho ht bb hq;simp only[ZhA,Kb] at hl;have:=KO.1 hl.2 q (Li.2 hq);simp only[K5,beq_iff_eq,Ws,ho,ht] at this;rcases this with h | h
   ·exact absurd h bb
   ·simp only[Ws];cases a3:os[q]? with
    | none=>rfl
    | some oq=>
     rw[a3] at h;simp only at h ⊢;cases hd:oq.dst with
     | none=>rfl
     | some d=>
      rw[hd] at h;simp only[Ut,bne_iff_ne,ne_eq] at h;simp only[Qr,KH,KP,KL,KA];exact h
  have ah:∀ {k:Nat} {o:CO},ZhA os k=true→os[k]?=some o→∃ t,o.dst=some t:=by
   intro k o hl ho;simp only[ZhA,Ws,ho,Kb] at hl;cases hd:o.dst with
   | none=>rw[hd] at hl;cases hl.1
   | some t=>exact⟨t,rfl⟩
  have av:∀ n,(∀ q∈js++ks,Qr (Ws os q) [n]=true)→okV (gs r.1 n)=true→gs s2.1 n=gs r.1 n:=by
   intro n hn ho;rw[← h4.1 n] at ho ⊢;exact ZsC h3 hn ho
  have ak:∀ q∈js++ks,q≠i∧j<q∧q<os.length:=by
   intro q hq;refine⟨?_,?_,hlt q ?_⟩
   ·rcases Kc.1 hq with hq | hq
    ·have:=(Lb.1 hsort.2).2.2 q hq i (by simp);omega
    ·have:=(LI.1 (Lb.1 hsort.2).2.1).1 q hq;omega
   ·rcases Kc.1 hq with hq | hq
    ·exact hsort.1 q (by simp[hq])
    ·exact hsort.1 q (by simp[hq])
   ·rcases Kc.1 hq with hq | hq<;>simp[hq]
  have an:U3 os j=true→∀ n∈X0 oj,∀ q∈js++ks,Qr (Ws os q) [n]=true:=fun am n hn q hq=>by
   obtain⟨_,h6,h7⟩:=ak q hq;exact aa am ae (by omega) h7 hn
  have ao:U3 os i=true→∀ n∈X0 oi,∀ q∈js++ks,Qr (Ws os q) [n]=true:=fun am n hn q hq=>by
   obtain⟨_,h6,h7⟩:=ak q hq;rcases Kc.1 hq with hq | hq
   ·obtain⟨oq,a3,ap,_⟩:=hj q (by simp[hq]);simp only[Q7,Kb] at ap;have h5:=ap.1.1;simp only[Ws,a3];cases hd:oq.dst with
    | none=>rfl
    | some d=>
     rw[hd] at h5;simp only[Qr,KH,KP,KL] at h5 ⊢;intro e;simp at e;exact h5 (e ▸ hn)
   ·have:=(LI.1 (Lb.1 hsort.2).2.1).1 q hq;exact aa am ab (by omega) h7 hn
  have ai:∀ {o:CO} {n:Nat},n∈(Zv o.op).flatMap U1→n∈X0 o:=fun h=>Kc.2 (.inl h);have aj:∀ {o:CO} {n:Nat},n∈(Zgi o.op).flatMap U1→n∈X0 o:=fun {o n} h=>by
   refine Kc.2 (.inl ?_);cases ho:o.op<;>rw[ho] at h<;>simp only[Zgi,List.flatMap_nil,LB] at h
   simp only[Zv,KG,Kc];exact .inr h
  have a4:∃ t1,Zx C M os nx i s=some t1∧∃ t2,Zx C M os nx j t1=some t2∧Xf t2 s2:=by
   rcases a2 with ⟨aw,ay⟩ | ⟨aw,az,k1,k5,k6⟩ | ⟨aw,az,k0,k1,k2,k3,k4,k5,k6⟩
   case inr.inl=>
    obtain⟨t,ht⟩:=ah k5 ab;refine ZoX ab ae az au ad k1 ht ?_ h1 h2;rw[ht] at k6;simp only[okD] at k6;rw[av t (fun q hq=>?_) k6]
    ·exact k6
    ·obtain⟨h5,_,h7⟩:=ak q hq;exact ag k5 ab ht h5 h7
   case inr.inr=>
    obtain⟨t,ht⟩:=ah k5 ab;refine ZnC hM ab ae az a0 au (af k4 ab) (af k3 ae) ad hs hfi (hfj j (by simp)) k1 k2 ?_ ht h1 h2;refine(ZnB k0 k1 k6).move (fun n hn=>av n (ao k4 n (ai hn))) (fun n hn=>av n fun q hq=>?_) (fun n hn=>av n (an k3 n (aj hn)));obtain⟨h5,_,h7⟩:=ak q hq;exact ag k5 ab hn h5 h7
   cases az:ZM os i with
   | false=>exact Zq5 ab ae az aw a0 au ad hs hfi (hfj j (by simp)) h1 h2
   | true=>
    rcases ay az with hc | ⟨am,hl⟩ | ⟨bc,bd⟩ | ⟨k1,k5,k6⟩ | ⟨k0,k1,k2,k3,k4,k5,k6⟩
    case inr.inr.inr.inl=>
     obtain⟨t,ht⟩:=ah k5 ae;refine ZoW ab ae aw au ad k1 ht ?_ h1 h2;rw[ht] at k6;simp only[okD] at k6;rw[av t (fun q hq=>?_) k6]
     ·exact k6
     ·obtain⟨_,h6,h7⟩:=ak q hq;exact ag k5 ae ht (by omega) h7
    case inr.inr.inr.inr=>
     obtain⟨t,ht⟩:=ah k5 ae;refine ZoV hM ab ae aw a0 au (af k3 ae) (af k4 ab) ad hs hfi (hfj j (by simp)) k1 k2 ?_ ht h1 h2;refine(ZnB k0 k1 k6).move (fun n hn=>av n (an k3 n (ai hn))) (fun n hn=>av n fun q hq=>?_) (fun n hn=>av n (ao k4 n (aj hn)));obtain⟨_,h6,h7⟩:=ak q hq;exact ag k5 ae hn (by omega) h7
    ·exact Zq9 ab ae hc aw a0 au ad hs hfi (hfj j (by simp)) h1 h2
    ·refine ZoU ab ae az aw a0 au ad hs hfi (hfj j (by simp)) ⟨am,?_⟩ h1 h2;rcases hl with hl | ⟨be,bf,bg,al⟩
     ·exact .inl hl
     ·refine .inr ⟨be,?_⟩;have a5:∀ x∈Zv oi.op,okW (evO r.1 x)=true→evO s.1 x=evO r.1 x:=by
       intro x hx ax;cases x with
       | v a=>rfl
       | f n=>rfl
       | t n=>
        simp only[evO] at ax ⊢;have hn:n∈X0 oi:=by
         rw[X0];exact Kc.2 (.inl (Kr.2 ⟨.t n,hx,KA.2 rfl⟩))
        refine Zmi a1 (fun q hq=>?_) ax;rcases Kc.1 hq with hq | hq
        ·obtain⟨oq,a3,ap,_⟩:=hj q hq;simp only[Q7,Kb] at ap;have h5:=ap.1.1;simp only[Ws,a3];cases hd:oq.dst with
         | none=>rfl
         | some d=>
          rw[hd] at h5;simp only[Qr,KH,KP,KL] at h5 ⊢;intro e;simp at e;exact h5 (e ▸ hn)
        ·refine aa bg ab ?_ (hlt q (Kc.2 (.inr hq))) hn;rcases Ke.1 hq with rfl | hq
         ·omega
         ·have:=Lb.1 hsort.2;have:=(LI.1 this.2.1).1 q hq;omega
      have a7:∀ id,Qx r.1 id (Zv oj.op)=true→Qx s.1 id (Zv oj.op)=true:=by
       intro id bh;have bi:∀ xs:List Opd,(∀ z∈xs,z∈Zv oj.op)→Qx r.1 id xs=true→Qx s.1 id xs=true:=by
        intro xs
        induction xs with
        | nil=>intro _ _;rfl
        | cons z zs ihz=>
         intro a6 hz;simp only[Qx,Kb] at hz ⊢;refine⟨?_,ihz (fun z' bj=>a6 z' (by simp[bj])) hz.2⟩;cases z with
         | v a=>exact hz.1
         | f n=>exact hz.1
         | t n=>
          simp only[evO] at hz ⊢;have hn:n∈X0 oj:=by
           rw[X0];exact Kc.2 (.inl (Kr.2 ⟨.t n,a6 (.t n) (K8 ..),KA.2 rfl⟩))
          rw[ZsC a1 (fun q hq=>?_) (Zt5 hz.1)]
          ·exact hz.1
          ·refine aa bf ae ?_ (hlt q hq) hn;rcases Kc.1 hq with hq | hq
           ·rcases Ke.1 hq with rfl | hq
            ·omega
            ·have:=hsort.1 q (by simp[hq]);omega
           ·have:=hsort.1 q (by simp only[Kc];exact .inr hq);omega
       exact bi _ (fun _ h=>h) bh
      cases ho:oi.op<;>rw[ho] at am al<;>first | (cases am;done) | skip
      case store slc sz x y=>
       simp only[Ze3,Kb] at al ⊢;obtain⟨al,ar⟩:=al;have ax:okV (evO r.1 x)=true:=by
        cases ht:YA (evO r.1 x) with
        | none=>rw[ht] at al;simp[ZbS] at al
        | some id=>cases hv:evO r.1 x<;>rw[hv] at ht<;>simp only[YA] at ht<;>first | (cases ht;done) | rfl
       rw[a5 x (by rw[ho];simp[Zv]) (ZhF ax)];constructor
       ·cases ht:YA (evO r.1 x) with
        | none=>rw[ht] at al;simp[ZbS] at al
        | some id=>rw[ht] at al;exact a7 id al
       ·by_cases hp:∃ b1 b2 b3 b4,evO r.1 x=.prow b1 b2 b3 b4
        ·obtain⟨b1,b2,b3,b4,hp⟩:=hp;rw[hp] at ar ⊢;rcases ZgM ar with ⟨d,hv⟩ | hv
         ·rw[a5 y (by rw[ho];simp[Zv]) (by rw[hv];rfl),hv];rfl
         ·rw[a5 y (by rw[ho];simp[Zv]) (ZhF hv.1)];exact Zq8 ⟨hv.1,Zi0 a7 hv.2⟩
        ·exact Zmj fun b1 b2 b3 b4 e=>hp ⟨b1,b2,b3,b4,e⟩
      case append sz by_ str flat x y=>
       simp only[Ze3,Kb,K5] at al ⊢;obtain⟨ar,aq⟩:=al;constructor
       ·have ax:okW (evO r.1 x)=true:=by
         cases hv:evO r.1 x<;>rw[hv] at ar<;>first | rfl | (cases ar;done) | skip
         case tup vs=>cases vs<;>first | rfl | cases ar
        rw[a5 x (by rw[ho];simp[Zv]) ax];cases hv:evO r.1 x<;>rw[hv] at ar<;>first | (cases ar;done) | exact a7 _ ar | skip
        ·rfl
        case tup vs=>cases vs<;>first | rfl | cases ar
       ·rcases aq with aq | aq
        ·exact .inl aq
        ·right
         have ax:okW (evO r.1 y)=true:=by
          unfold seenSrc at aq;split at aq
          ·rename_i k hk;rw[hk];rfl
          ·exact ZhF aq
         rw[a5 y (by rw[ho];simp[Zv]) ax];unfold seenSrc at aq ⊢;split at aq
         ·exact a7 _ aq
         ·exact aq
    ·exact Zrb ab ae aw au bc bd h1 h2
  obtain⟨t1,g1,t2,g2,g3⟩:=a4;obtain⟨r3,g4,g5⟩:=ZiY g3.symm h3;refine⟨t1,g1,r3,?_,g5.symm.trans h4⟩;simp only[KN,Zbz,g2,Zc];exact g4
def rem (n:Nat) (listed:Array Bool):List Nat:=(List.range n).filter fun i=>!listed.getD i true
theorem Zdb {n:Nat} {aa:Array Bool} {i:Nat}:i∈rem n aa↔i<n∧aa.getD i true=false:=by
 simp[rem]
theorem Zi6 (n:Nat) (aa:Array Bool):(rem n aa).Pairwise (· < ·):=List.Pairwise.filter _ List.pairwise_lt_range
theorem Zt8 {n:Nat} {aa:Array Bool} (ad:aa.size=n) (i:Nat):rem n (aa.setIfInBounds i true)=(rem n aa).filter fun j=>j != i:=by
 simp only[rem,L0];refine List.filter_congr fun j hj=>?_;have ae:j<n:=Li.1 hj;by_cases ab:i=j
 ·subst ab;simp[ad,ae]
 ·simp[Array.getElem?_setIfInBounds_ne ab,Ne.symm ab]
def Zk9 (nx:Nat) (listed:Array Bool) (id:Nat):Prop:=id<nx∨∃ k,listed.getD k false=true∧nx+64*k≤id∧id<nx+64*k+64
theorem Wf {l:Array Bool} {k:Nat} (h:l.getD k false=true):k<l.size∧l.getD k true=true:=by
 rcases KX k l.size with h1 | h1
 ·refine⟨h1,?_⟩;simp[h1] at h ⊢;exact h
 ·simp[Array.getElem?_eq_none h1] at h
theorem Zi7 {nx i:Nat} {aa:Array Bool} (h:aa.getD i true=false):QJ (Zk9 nx aa) (nx+64*i):=by
 intro id h1 h2 hu;rcases hu with hu | ⟨k,hk,h3,h4⟩
 ·omega
 ·have ab:k≠i:=fun e=>by subst e;rw[(Wf hk).2] at h;cases h
  rcases LJ ab with h5 | h5<;>omega
theorem Zi8 {nx i:Nat} {aa:Array Bool} (hi:i<aa.size):∀ id,W3 (Zk9 nx aa) (nx+64*i) id→Zk9 nx (aa.setIfInBounds i true) id:=by
 rintro id ((h | ⟨k,hk,h1⟩) | h)
 ·exact .inl h
 ·exact .inr ⟨k,getD_set_true hk,h1⟩
 ·exact .inr ⟨i,by simp[hi],h.1,h.2⟩
end
end Go.Abs
