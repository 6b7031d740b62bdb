/- Own text. -/
import Derived.Test.YtighjmleicikhaaAbsDrawD
set_option linter.unusedVariables false
set_option linter.unusedSimpArgs false
namespace Go.Abs
open Go
section
variable {P:Program} {nt:Nat}
theorem ZgI {α β:Type} {f:α→Option β}:∀ {l:List α} {r:List β},Z6 f l=some r→∀ (i:Nat) (x:α),l[i]?=some x→∃ y,r[i]?=some y∧f x=some y
 | [],r,h,i,x,hx=>by simp at hx
 | a :: l,r,h,i,x,hx=>by
  simp only[Z6] at h;obtain⟨y,h1,h⟩:=Za h;obtain⟨ys,h2,h⟩:=Za h;cases h;cases i with
  | zero=>simp at hx;subst hx;exact⟨y,by simp,h1⟩
  | succ i=>simp at hx;obtain⟨z,h3,h4⟩:=ZgI h2 i x hx;exact⟨z,by simpa using h3,h4⟩
theorem U3 {α β:Type} {f:α→Option β}:∀ {l:List α} {r:List β},Z6 f l=some r→r.length=l.length
 | [],r,h=>by simp only[Z6] at h;cases h;rfl
 | a :: l,r,h=>by
  simp only[Z6] at h;obtain⟨y,h1,h⟩:=Za h;obtain⟨ys,h2,h⟩:=Za h;cases h;simp[U3 h2]
theorem ZmI {C:Orc} {M:Zg} (hC:Z7 P C) {ops:Array Oper} {os:List CO} (ad:Z6 (Zfe P nt ops.toList) ops.toList=some os) {nx i:Nat} {s s' : Sl×Hp} {U:Nat→Prop} (hs:Zch nt s U) (hf:QD U (nx+64*i))
  (h:Zs C M os nx i s=some s'):Zch nt s' (V0 U (nx+64*i)):=by
 obtain⟨F,A,I,Γ,a,w,aa⟩:=hs;unfold Zs at h;obtain⟨co,ae,h⟩:=Za h;have ag:i<ops.toList.length:=by rw[← U3 ad];exact(Kc.1 ae).1
 obtain⟨am,h1,h2⟩:=ZgI ad i ops.toList[i] (Km ag);rw[ae] at h1;cases h1;obtain⟨hg,ah,ab,af⟩:=Zc4 h2;unfold Zy at h;obtain⟨b,hw,h⟩:=Za h;cases b with
 | true=>
  simp only[Kh] at h;obtain⟨ce,ai,aj,rfl⟩:=QO h;have ak:=ZmC hC aa ah hf ab aj (JQ ai) (fun a' w'=>∃ F A I Γ a w,Sim nt F A I Γ (V0 U (nx+64*i)) (ce.on co.dst s.1 s.2).1 (ce.on co.dst s.1 s.2).2 a w) (fun _ _ _=>False) fun u w' hp=>by
   obtain⟨I1,Γ1,b1,b2,b3,b4,b5⟩:=hp;rw[← af] at b5;exact⟨F,A,I1,Γ1,_,_,b5⟩
  obtain⟨_,_,al⟩:=Oper.wp_ex ak;exact al
 | false=>
  simp only[Ka,Kg] at h;cases h;obtain⟨I1,Γ1,b1,b2,b3,b4,b5⟩:=aa.pure (U':=V0 U (nx+64*i)) (v:=.tup []) (u:=undef) (dst:=co.dst) (fun id hu=>.inl hu) ZeH (by rw[af];exact ab);exact⟨F,A,I1,Γ1,_,_,b5⟩
theorem ZiG {U:Nat→Prop} {nx i j:Nat} (aa:i≠j) (h:QD U (nx+64*i)):QD (V0 U (nx+64*j)) (nx+64*i):=by
 intro id h1 h2 hu;rcases hu with hu | hu
 ·exact h id h1 h2 hu
 ·rcases Lk aa with h3 | h3<;>omega
theorem ZrG {id:Nat} {v:AV} (h:UM id v=true):okV v=true:=by
 cases v with
 | tup vs=>cases vs with
  | nil=>rfl
  | cons x r=>cases h
 | _=>first | rfl | cases h
def okW (v:AV):Bool:=okV v
theorem ZfE {v:AV} (h:okV v=true):okW v=true:=h
theorem Zp6 {g:List Nat} {v:AV} (h:okW (kill g v)=true):kill g v=v:=Uu h
theorem ZrH {C:Orc} {M:Zg} {os:List CO} {nx q n:Nat} {s r:Sl×Hp} (h:Zs C M os nx q s=some r) (hd:Qk (Vs os q) [n]=true) (hk:okW (gs r.1 n)=true):gs s.1 n=gs r.1 n:=by
 unfold Zs at h;obtain⟨o,ho,h⟩:=Za h;have aa:o.dst≠some n:=by
  intro e;simp[Vs,ho,e,Qk] at hd
 unfold Zy at h;obtain⟨b,_,h⟩:=Za h;cases b with
 | true=>
  simp only[Kh] at h;obtain⟨ce,_,_,rfl⟩:=QO h;have e1:gs (ce.on o.dst s.1 s.2).1 n=kill ce.gone (gs s.1 n):=by
   show gs (Zi (Qz ce.gone s.1) o.dst ce.eff.val) n=_;rw[Z4,Kp aa,Ql]
  rw[e1] at hk ⊢;exact(Zp6 hk).symm
 | false=>
  simp only[Ka,Kg] at h;cases h;show gs s.1 n=gs (Zi s.1 o.dst (.tup [])) n;rw[Z4,Kp aa]
theorem Zj2 {C:Orc} {M:Zg} {os:List CO} {nx n:Nat}:∀ {l:List Nat} {s r:Sl×Hp},Zab C M os nx l s=some r→(∀ q∈l,Qk (Vs os q) [n]=true)→okW (gs r.1 n)=true→gs s.1 n=gs r.1 n
 | [],s,r,h,_,_=>by simp only[Zab] at h;cases h;rfl
 | i :: l,s,r,h,hd,hk=>by
  simp only[Zab] at h;obtain⟨s1,h1,h⟩:=Za h;have h2:=Zj2 h (fun q hq=>hd q (by simp[hq])) hk;rw[← h2] at hk ⊢;exact ZrH h1 (hd i (by simp)) hk
theorem Zp7 {C:Orc} {M:Zg} {os:List CO} {nx n:Nat} {l:List Nat} {s r:Sl×Hp} (h:Zab C M os nx l s=some r) (hd:∀ q∈l,Qk (Vs os q) [n]=true) (hk:okV (gs r.1 n)=true):gs s.1 n=gs r.1 n:=Zj2 h hd (ZfE hk)
theorem ZmJ {C:Orc} {M:Zg} {sl:Sl} {hp:Hp} {base:Nat} {c:COp} {ce:Zb} (hc:Znb c=true) (h:vop C M sl hp base c=some ce):UO (vop C M sl hp base c)=some ce:=by
 rw[h];have aa:ce.gone=[]∧ce.eff.sets=[]∧ce.eff.dels=[]∧ce.eff.frz=[]:=by
  have o1:∀ {v:AV},Qo v=some ce→ce.gone=[]∧ce.eff.sets=[]∧ce.eff.dels=[]∧ce.eff.frz=[]:=fun h=>by cases h;exact⟨rfl,rfl,rfl,rfl⟩
  have o2:∀ {v:Option AV},X2 v=some ce→ce.gone=[]∧ce.eff.sets=[]∧ce.eff.dels=[]∧ce.eff.frz=[]:=fun h=>by obtain⟨v,_,h⟩:=Za h;exact o1 h
  cases c<;>simp only[Znb,Ka] at hc<;>simp only[vop] at h
  case stuck=>cases h
  case move x=>exact o1 h
  case assign s x=>
   unfold Zak at h;split at h
   ·obtain⟨s,_,h⟩:=Za h;cases h;exact⟨rfl,rfl,rfl,rfl⟩
   ·exact o1 h
  case pick c a b=>
   unfold Zbj at h;split at h
   ·split at h<;>exact o1 h
   ·cases h
  case alloc slc cs=>
   unfold Zbk Zg7 at h;split at h
   ·split at h<;>first | (cases h;done) | (cases h;exact⟨rfl,rfl,rfl,rfl⟩)
   ·split at h<;>(cases h;exact⟨rfl,rfl,rfl,rfl⟩)
  case box x=>
   unfold Zo3 at h;split at h
   ·cases h;exact⟨rfl,rfl,rfl,rfl⟩
   ·cases h
  case build zs ps=>obtain⟨cs,_,h⟩:=Za h;exact o1 h
  case load g s a=>exact o2 h
  case nilCheck x=>unfold Wf at h;split at h<;>first | exact o1 h | cases h
  case bin op eq x y=>
   unfold Zg9 at h;split at h
   ·split at h
    ·exact o2 h
    ·cases h
   ·exact o2 h
  case un op x=>exact o2 h
  case eqA neg n x y=>
   unfold Zkl at h;split at h
   ·obtain⟨r,_,h⟩:=Za h;exact o1 h
   ·cases h
  case convI k x=>unfold Go.Abs.convI at h;split at h<;>first | exact o1 h | cases h
  case convS x=>unfold Go.Abs.convS at h;split at h<;>first | exact o1 h | cases h
  case fn f cs=>exact o2 h
  case make s b z l c=>
   obtain⟨l,_,h⟩:=Za h;obtain⟨c,_,h⟩:=Za h;unfold ZiX at h;split at h
   ·cases h;exact⟨rfl,rfl,rfl,rfl⟩
   ·cases h
  case slice s x lo hi=>exact o2 h
  case sliceS x lo hi=>exact o2 h
  case slice0 x hi mx=>exact o2 h
  case slice3 s x lo hi mx=>exact o2 h
  case shift off x=>unfold Yx at h;split at h<;>first | exact o1 h | cases h
  case part g s off x=>exact o2 h
  case iaS s x i=>
   obtain⟨n,_,h⟩:=Za h;unfold Zcq at h;split at h
   ·exact o2 h
   ·cases h
  case iaA len s x i=>
   obtain⟨n,_,h⟩:=Za h;unfold Zhb at h;split at h
   ·unfold Yx at h;split at h<;>first | exact o1 h | cases h
   ·cases h
  case ixS x i=>
   obtain⟨n,_,h⟩:=Za h;unfold Zm1 at h;split at h
   ·unfold ZlO at h;split at h
    ·obtain⟨b,_,h⟩:=Za h;exact o1 h
    ·cases h
   ·cases h
  case ixA g s len x i=>
   obtain⟨n,_,h⟩:=Za h;unfold Zo5 at h;split at h
   ·exact o2 h
   ·cases h
  case nth i x=>unfold ZlP at h;split at h<;>first | exact o2 h | cases h
  case len x=>obtain⟨n,_,h⟩:=Za h;exact o1 h
  case lenS x=>obtain⟨n,_,h⟩:=Za h;exact o1 h
  case min x y=>unfold Zfb at h;split at h<;>first | (split at h<;>first | exact o1 h | cases h) | cases h
  case max x y=>unfold Zfc at h;split at h<;>first | (split at h<;>first | exact o1 h | cases h) | cases h
 simp only[UO,Zc,aa.1,aa.2.1,aa.2.2.1,aa.2.2.2,Zav]
theorem ZoD {C:Orc} {M:Zg} {nx i:Nat} {o:CO} (hc:Znb o.op=true) (s:Sl×Hp):Zy C M nx i true o s=Zy C M nx i false o s:=by
 unfold Zy;have:Yf C M nx i true o.op s.1 s.2=Yf C M nx i false o.op s.1 s.2:=by
  unfold Yf;simp only[Kh,Ka,Kg];cases h:vop C M s.1 s.2 (nx+64*i) o.op with
  | none=>rfl
  | some ce=>rw[← h,ZmJ hc h,h]
 rw[this]
theorem vop_read {C:Orc} {M:Zg} {sl:Sl} {hp hp' : Hp} {base:Nat} {c:COp} (hc:VU c=true) (h:∀ x∈Zr c,∀ k∈Zm (evO sl x),lkp hp k=lkp hp' k):vop C M sl hp base c=vop C M sl hp' base c:=by
 have len:∀ v:AV,(∀ k∈Zm v,lkp hp k=lkp hp' k)→Jl hp v=Jl hp' v:=fun v hv=>by
  cases v<;>simp only[Jl]
  case d x=>cases x<;>rfl
  case own id=>rw[hv id (by simp[Zm,Zo,Zf])]
 cases c<;>simp only[VU,Ka] at hc<;>simp only[Zr] at h<;>simp only[vop]
 case load g s a=>
  have:=h a (by simp);cases hv:evO sl a<;>rw[hv] at this<;>simp only[Y7]
  case ptr id off=>rw[this id (by simp[Zm,Zo,Zf])]
  case prow id sz i off=>rw[this id (by simp[Zm,Zo,Zf])]
 case slice s x lo hi=>
  have:=h x (by simp);cases hv:evO sl x<;>rw[hv] at this<;>simp only[X1]
  case d x=>cases x<;>rfl
  case own id=>rw[this id (by simp[Zm,Zo,Zf])]
  case ownv id off n=>rw[this id (by simp[Zm,Zo,Zf])]
 case slice0 x hi mx=>
  unfold slice0;rw[len _ (h x (by simp))]
 case iaS s x i=>
  congr 1
  funext n
  simp only[Zcq];have:=h x (by simp);cases hv:evO sl x<;>rw[hv] at this<;>simp only[Z9]
  case d x=>cases x<;>rfl
  case own id=>rw[this id (by simp[Zm,Zo,Zf])]
  case ownv id off n=>rw[this id (by simp[Zm,Zo,Zf])]
 case len x=>rw[len _ (h x (by simp))]
theorem ZiH {A B:Hp} (hd:∀ k x y,(k,x)∈A→(k,y)∈B→False) (hp:Hp) (id:Nat):lkp (Zd (Zd hp A) B) id=lkp (Zd (Zd hp B) A) id:=by
 have aa:∀ (l:Hp) (hp hp' : Hp),lkp hp id=lkp hp' id→lkp (Zd hp l) id=lkp (Zd hp' l) id:=by
  intro l
  induction l with
  | nil=>intro hp hp' h;exact h
  | cons q r ih=>
   intro hp hp' h;obtain⟨k,x⟩:=q;simp only[Zd];exact ih _ _ (by rw[Z2,Z2,h])
 by_cases h1:∃ o,(id,o)∈A
 ·have h2:∀ o,(id,o)∉B:=fun o ho=>by
   obtain⟨o',ab⟩:=h1;exact hd id o' o ab ho
  rw[Zq B _ id h2];exact aa A _ _ (Zq B hp id h2).symm
 ·have h2:∀ o,(id,o)∉A:=fun o ho=>h1 ⟨o,ho⟩;rw[Zq A _ id h2];exact aa B _ _ (Zq A hp id h2)
theorem Zlr {hp:Hp} {v:AV} {q:D×Bool×List Nat} (h:WV hp v=some q):∀ i∈q.2.2,i∈Zf v:=by
 intro i hi;cases v<;>simp only[WV] at h<;>first | (cases h;simp at hi;done) | (cases h;done) | skip
 obtain⟨p,_,h⟩:=Za h;cases h;simpa [Zf] using hi
theorem ZeV {hp:Hp}:∀ {vs:List AV} {q:List D×Bool×List Nat},X6 hp vs=some q→∀ i∈q.2.2,i∈vs.flatMap Zf
 | [],q,h,i,hi=>by simp only[X6] at h;cases h;simp at hi
 | v :: vs,q,h,i,hi=>by
  simp only[X6] at h;obtain⟨q1,h1,h⟩:=Za h;obtain⟨q2,h2,h⟩:=Za h;split at h
  ·cases h;rcases Kd.1 hi with hi | hi
   ·exact Kl.2 ⟨v,by simp,Zlr h1 i hi⟩
   ·obtain⟨c,hc,aa⟩:=Kl.1 (ZeV h2 i hi);exact Kl.2 ⟨c,by simp[hc],aa⟩
  ·cases h
theorem Zls {hp:Hp} {n:Nat} {v:AV} {q:D×List Nat} (h:Zbe hp n v=some q):∀ i∈q.2,i∈Zf v:=by
 unfold Zbe at h;split at h
 ·split at h
  ·cases h;simp
  ·cases h
 ·cases h;simp
 ·unfold ZbQ at h;split at h
  ·split at h
   ·cases h;simp[Zf]
   ·cases h
  ·split at h
   ·cases h;simp[Zf]
   ·cases h
  ·cases h
 ·cases h
theorem ZeW {hp:Hp} {n:Nat}:∀ {vs:List AV} {q:List D×List Nat},Yv hp n vs=some q→∀ i∈q.2,i∈vs.flatMap Zf
 | [],q,h,i,hi=>by simp only[Yv] at h;cases h;simp at hi
 | v :: vs,q,h,i,hi=>by
  simp only[Yv] at h;obtain⟨q1,h1,h⟩:=Za h;obtain⟨q2,h2,h⟩:=Za h;split at h
  ·cases h;rcases Kd.1 hi with hi | hi
   ·exact Kl.2 ⟨v,by simp,Zls h1 i hi⟩
   ·obtain⟨c,hc,aa⟩:=Kl.1 (ZeW h2 i hi);exact Kl.2 ⟨c,by simp[hc],aa⟩
  ·cases h
theorem ZoE {hp:Hp} {slc:List (Option Nat)} {s base:Nat} {vs:List AV} {x:AV} {e:Eff} (h:WQ hp slc s base vs x=some e):∃ id o,XT x=some id∧e.val=.junk∧e.sets=[(id,o)]∧(∀ k∈e.dels,k∈vs.flatMap Zf∧∃ a b c d,x=.prow a b c d)∧∀ i∈e.frz,i∈vs.flatMap Zf:=by
 cases x<;>simp only[WQ] at h<;>first | cases h | skip
 case ptr id off=>
  unfold Zbd at h;split at h
  ·split at h
   ·split at h<;>(cases h;exact⟨id,_,rfl,rfl,rfl,fun i hi=>by simp at hi,fun i hi=>by simp at hi⟩)
   ·cases h
  ·cases h
 case prow id sz i off=>
  unfold UB at h;split at h
  ·split at h
   ·obtain⟨x,_,h⟩:=Za h;obtain⟨q,hq,h⟩:=Za h;unfold ZbP at h;split at h
    ·cases h;exact⟨id,_,rfl,rfl,rfl,fun i hi=>by simp at hi,ZeV hq⟩
    ·cases h
   ·cases h
  ·split at h
   ·obtain⟨x,_,h⟩:=Za h;obtain⟨q,hq,h⟩:=Za h;unfold ZbR at h;split at h
    ·cases h;exact⟨id,_,rfl,rfl,rfl,fun k hk=>⟨ZeW hq k hk,_,_,_,_,rfl⟩,fun i hi=>by simp at hi⟩
    ·cases h
   ·cases h
  ·cases h
def FzEq (o o' : Option Zh):Prop:=∃ b:Bool,o'=o.map fun x=>if b then XL x else x
theorem FzEq.seen {o o' : Option Zh} (h:FzEq o o'):Uv [] o o':=by
 obtain⟨b,rfl⟩:=h;have hk:∀ x:Zh,QJ [] x=x:=fun x=>by
  cases x with
  | box cs=>simp only[QJ];congr 1;rw[Kv (g:=id) (fun a _=>JE a),Ld]
  | row _ _ _ _=>rfl
  | gone=>rfl
  | tree _ _ _ l=>rcases l with _ | ⟨_ | _,_⟩<;>simp[QJ,Yp]
 have:=ZlA (g:=[]) (b:=b) o;have e:(o.map (QJ []))=o:=by cases o<;>simp[hk]
 rw[e] at this;exact this
theorem vop_fz {C:Orc} {M:Zg} {sl:Sl} {hp hp' : Hp} {base:Nat} {c:COp} (hc:VU c=true) (h:∀ x∈Zr c,∀ k∈Zm (evO sl x),FzEq (lkp hp k) (lkp hp' k)):vop C M sl hp' base c=vop C M sl hp base c:=by
 have hs:∀ x∈Zr c,Zdu [] hp hp' (evO sl x):=fun x hx k hk=>(h x hx k hk).seen;cases c<;>simp only[VU,Ka] at hc<;>simp only[Zr] at h hs<;>simp only[vop]
 case load g s a=>
  have h1:=h a (by simp);have h2:=hs a (by simp);cases hv:evO sl a<;>rw[hv] at h1 h2<;>simp only[Y7]
  case ptr id off=>
   obtain⟨b,e⟩:=h1 id (by simp[Zm,Zo,Zf]);rw[e];cases lkp hp id with
   | none=>rfl
   | some o=>cases o<;>cases b<;>rfl
  case prow id sz i off=>
   obtain⟨b,e⟩:=h1 id (by simp[Zm,Zo,Zf]);rw[e];cases lkp hp id with
   | none=>rfl
   | some o=>cases o<;>cases b<;>rfl
 case slice s x lo hi=>rw[Za7 (hs x (by simp))]
 case slice0 x hi mx=>unfold slice0;rw[JH (hs x (by simp))]
 case iaS s x i=>
  congr 1
  funext n
  simp only[Zcq];rw[WP (hs x (by simp))]
 case len x=>rw[JH (hs x (by simp))]
def Zdr (sl:Sl) (a:COp):COp→Bool
 | .store _ _ x y=>Zau sl a (XT (evO sl x))&&X4 sl a (evO sl x) (evO sl y)
 | .append _ _ _ flat x y=>VV sl a (evO sl x)&&(flat || seenSrc sl a (evO sl y))
 | _=>false
def LooseS (s:Sl) (a b:COp):Prop:=Zhn b=true∧(Yy a=true∨(VU a=true∧Zdr s a b=true))
theorem Za5 {sl:Sl} {id:Nat}:∀ {xs:List Opd},Qq sl id xs=true→∀ x∈xs,UM id (evO sl x)=true
 | [],_,x,hx=>by simp at hx
 | y :: ys,h,x,hx=>by
  simp only[Qq,Kb] at h;rcases Ke.1 hx with rfl | hx
  ·exact h.1
  ·exact Za5 h.2 x hx
theorem ZeX {sl:Sl} {xs:List Opd}:∀ {ks:List Nat},Xb sl xs ks=true→∀ k∈ks,Qq sl k xs=true
 | [],_,k,hk=>by simp at hk
 | j :: r,h,k,hk=>by
  simp only[Xb,Kb] at h;rcases Ke.1 hk with rfl | hk
  ·exact h.1
  ·exact ZeX h.2 k hk
theorem ZeY {sl:Sl} {a:COp} {b1 b2 b3 b4:Nat} {v:AV} (h:X4 sl a (.prow b1 b2 b3 b4) v=true):(∃ d,v=.d d)∨(okV v=true∧Xb sl (Zr a) (Zm v)=true):=by
 cases v<;>first | exact .inl ⟨_,rfl⟩ | (simp only[X4,Kb] at h;exact .inr h)
theorem ZoF {sl:Sl} {a:COp} {b1 b2 b3 b4:Nat} {v:AV} (h:okV v=true∧Xb sl (Zr a) (Zm v)=true):X4 sl a (.prow b1 b2 b3 b4) v=true:=by
 cases v<;>first | rfl | (simp only[X4,Kb];exact h)
theorem Zj3 {sl:Sl} {a:COp} {x v:AV} (hx:∀ a b c d,x≠.prow a b c d):X4 sl a x v=true:=by
 cases x<;>first | rfl | exact absurd rfl (hx _ _ _ _)
theorem ZgJ {sl sl' : Sl} {xs:List Opd} (h:∀ k,Qq sl k xs=true→Qq sl' k xs=true):∀ {ks:List Nat},Xb sl xs ks=true→Xb sl' xs ks=true
 | [],_=>rfl
 | j :: r,hh=>by
  simp only[Xb,Kb] at hh ⊢;exact⟨h j hh.1,ZgJ h hh.2⟩
theorem ZgK {id:Nat} {v:AV} (h:UM id v=true):id∉Zm v:=by
 cases v with
 | tup vs=>cases vs with
  | nil=>simp[Zm]
  | cons x r=>cases h
 | _=>simp[UM,Zm,Zo,Zf] at h ⊢ <;> exact fun e=>h e.symm
theorem ZmK {hp:Hp} {sz by_ base:Nat} {str flat:Bool} {x y:AV} {e:Eff} (h:VQ hp sz by_ str flat base x y=some e):e.sets=[]∧e.frz=[]∧((x=.nil∧e.dels=[])∨∃ id,e.dels=[id]∧(x=.own id∨∃ o n,x=.ownv id o n)):=by
 unfold VQ at h;obtain⟨q,_,h⟩:=Za h;split at h
 ·cases x<;>simp only[Zcp] at h<;>first | (cases h;done) | skip
  ·split at h
   ·cases h;exact⟨rfl,rfl,.inl ⟨rfl,rfl⟩⟩
   ·cases h
  ·split at h
   ·cases h
   ·unfold Zg6 at h;split at h
    ·split at h
     ·cases h;exact⟨rfl,rfl,.inr ⟨_,rfl,.inl rfl⟩⟩
     ·cases h
    ·cases h
  ·split at h
   ·cases h
   ·split at h
    ·unfold ZdA at h;split at h
     ·split at h
      ·cases h;exact⟨rfl,rfl,.inr ⟨_,rfl,.inr ⟨_,_,rfl⟩⟩⟩
      ·cases h
     ·cases h
    ·unfold Zdz at h;split at h
     ·split at h
      ·cases h;exact⟨rfl,rfl,.inr ⟨_,rfl,.inr ⟨_,_,rfl⟩⟩⟩
      ·cases h
     ·cases h
 ·cases h
theorem ZgL {hp:Hp} {x:AV} {k:Nat} (h:k∈Q4 hp x):x=.own k:=by
 unfold Q4 at h;split at h
 ·split at h
  ·simp at h;subst h;rfl
  ·simp at h
 ·simp at h
theorem Zlt {hp:Hp} {sz by_ base:Nat} {str flat:Bool} {x y:AV} {e:Eff}:∀ {ms:List Nat},(∀ k∈ms,x=.own k∨y=.own k)→XN hp sz by_ str flat base x y ms=some e→e.frz=[] ∧
  e.sets=[]∧∀ k∈e.dels,(x=.own k∨∃ o n,x=.ownv k o n)∨(flat=false∧y=.own k):=by
 have plain:∀ {hp' : Hp} {e:Eff},VQ hp' sz by_ str flat base x y=some e→e.sets=[]∧e.frz=[]∧∀ k∈e.dels,x=.own k∨∃ o n,x=.ownv k o n:=by
  intro hp' e h;obtain⟨g1,g2,g3⟩:=ZmK h;refine⟨g1,g2,fun k hk=>?_⟩;rcases g3 with ⟨_,g3⟩ | ⟨id,g3,g4⟩
  ·rw[g3] at hk;simp at hk
  ·rw[g3] at hk;simp at hk;subst hk;exact g4
 intro ms hm h;cases ms with
 | nil=>
  simp only[XN] at h;obtain⟨g1,g2,g3⟩:=plain h;exact⟨g2,g1,fun k hk=>.inl (g3 k hk)⟩
 | cons i r=>
  simp only[XN] at h;split at h
  ·cases h
  ·rename_i aa;obtain⟨e0,h1,h⟩:=Za h;cases h;obtain⟨g1,g2,g3⟩:=plain h1;refine⟨g2,g1,fun k hk=>?_⟩;rcases Kd.1 hk with hk | hk
   ·exact .inl (g3 k hk)
   ·rcases hm k hk with hk | hk
    ·exact .inl (.inl hk)
    ·exact .inr ⟨by simpa using aa,hk⟩
theorem Zp8 {hp:Hp} {sz by_ base:Nat} {x y:AV} {ce:Zb} (h:appT hp sz by_ base x y=some ce):ce.gone=[]∧ce.eff.frz=[]∧ce.eff.sets=[]∧∀ k∈ce.eff.dels,x=.own k∨y=.own k:=by
 unfold appT at h;obtain⟨e,h1,h⟩:=Za h;cases h;obtain⟨q,h2,h1⟩:=Za h1;have hy:y=.own q.1:=by
  unfold U6 at h2;split at h2
  ·obtain⟨q2,_,h2⟩:=Za h2;cases h2;rfl
  ·cases h2
 split at h1
 ·cases x<;>simp only[W8] at h1<;>first | (cases h1;done) | skip
  ·split at h1
   ·cases h1;exact⟨rfl,rfl,rfl,fun k hk=>by simp at hk;subst hk;exact .inr hy⟩
   ·cases h1
  ·obtain⟨q3,_,h1⟩:=Za h1;split at h1
   ·cases h1;refine⟨rfl,rfl,rfl,fun k hk=>?_⟩;simp at hk;rcases hk with rfl | rfl
    ·exact .inl rfl
    ·exact .inr hy
   ·cases h1
 ·cases h1
theorem Zlu {hp:Hp} {sz by_ base:Nat} {str flat:Bool} {x y:AV} {ce:Zb} (h:ZlQ hp sz by_ str flat base x y=some ce):ce.gone=[]∧ce.eff.frz=[] ∧
  ce.eff.sets=[]∧∀ k∈ce.eff.dels,(x=.own k∨∃ o n,x=.ownv k o n)∨(flat=false∧y=.own k):=by
 have kx:∀ k∈Q4 hp x,x=.own k∨y=.own k:=fun k hk=>.inl (ZgL hk);have ky:∀ k∈Q4 hp y,x=.own k∨y=.own k:=fun k hk=>.inr (ZgL hk);have melt:∀ {ms:List Nat},(∀ k∈ms,x=.own k∨y=.own k)→ZaH (XN hp sz by_ str flat base x y ms)=some ce→ce.gone=[]∧ce.eff.frz=[] ∧
   ce.eff.sets=[]∧∀ k∈ce.eff.dels,(x=.own k∨∃ o n,x=.ownv k o n)∨(flat=false∧y=.own k):=by
  intro ms hm h;obtain⟨e,h1,h⟩:=Za h;cases h;exact⟨rfl,Zlt hm h1⟩
 unfold ZlQ at h;generalize Q4 hp x=mx at h kx;generalize Q4 hp y=my at h ky;cases mx with
 | nil=>exact melt ky h
 | cons i r=>
  cases my with
  | nil=>exact melt kx h
  | cons j t=>
   simp only[Jq] at h;split at h
   ·cases h
   ·rename_i hc;obtain⟨g1,g2,g3,g4⟩:=Zp8 h;have hf:flat=false:=by cases flat<;>simp_all
    exact⟨g1,g2,g3,fun k hk=>(g4 k hk).elim (fun e=>.inl (.inl e)) fun e=>.inr ⟨hf,e⟩⟩
theorem ZgM {ds:List Nat} {l:Hp} {k:Nat} (h:k∈ds):lkp (ZO l ds) k=none:=by
 cases hl:lkp (ZO l ds) k with
 | none=>rfl
 | some o=>exact absurd h (Vk ds l k o hl).2
theorem ZrI {C:Orc} {M:Zg} {sl:Sl} {hp:Hp} {base:Nat} {c:COp} {ce:Zb} (hc:Zhn c=true) (h:vop C M sl hp base c=some ce) :
  ce.gone=[]∧(∀ k,k∈ce.eff.dels∨(∃ o,(k,o)∈ce.eff.sets)→(∃ x∈Zr c,k∈Zm (evO sl x))∧∀ a,Zdr sl a c=true→Qq sl k (Zr a)=true)∧∀ k∈ce.eff.frz,∃ x∈Zr c,k∈Zm (evO sl x):=by
 cases c<;>first | (cases hc;done) | skip
 case store slc sz x y=>
  simp only[vop,ZaH] at h;obtain⟨e,h7,h⟩:=Za h;cases h;obtain⟨id,o,ht,g1,g2,g3,g4⟩:=ZoE h7;refine⟨rfl,fun k hk=>?_,fun k hk=>⟨y,by simp[Zr],Zgz (U:=fun k=>k∈Zm (evO sl y)) (fun _ h=>h) k (g4 k hk)⟩⟩;rcases hk with hk | ⟨o',hk⟩
  ·obtain⟨k1,b1,b2,b3,b4,k2⟩:=g3 k hk;have k3:=Zgz (U:=fun k=>k∈Zm (evO sl y)) (fun _ h=>h) k k1;refine⟨⟨y,by simp[Zr],k3⟩,fun a ha=>?_⟩;simp only[Zdr,Kb,k2] at ha;rcases ZeY ha.2 with ⟨d,hv⟩ | hv
   ·rw[hv] at k3;simp[Zm,Zo,Zf] at k3
   ·exact ZeX hv.2 k k3
  ·simp only[g2,KG,Prod.mk.injEq] at hk;have aa:=hk.1;subst aa;refine⟨⟨x,by simp[Zr],?_⟩,fun a ha=>?_⟩
   ·cases hv:evO sl x<;>rw[hv] at ht<;>simp only[XT] at ht<;>cases ht<;>simp[Zm,Zo,Zf]
   ·simp only[Zdr,Kb,ht,Zau] at ha;exact ha.1
 case append sz by_ str flat x y=>
  simp only[vop] at h;obtain⟨g0,g2,g1,g3⟩:=Zlu h;refine⟨g0,fun k hk=>?_,fun k hk=>by simp only[g2,LG] at hk⟩;have ab:k∈ce.eff.dels:=by
   rcases hk with hk | ⟨o',hk⟩
   ·exact hk
   ·simp only[g1,LG] at hk
  rcases g3 k ab with g4 | ⟨g4,g5⟩
  ·refine⟨⟨x,by simp[Zr],?_⟩,fun a ha=>?_⟩
   ·rcases g4 with g4 | ⟨o,n,g4⟩<;>rw[g4]<;>simp[Zm,Zo,Zf]
   ·simp only[Zdr,Kb] at ha;rcases g4 with g4 | ⟨o,n,g4⟩<;>rw[g4] at ha<;>exact ha.1
  ·refine⟨⟨y,by simp[Zr],by rw[g5];simp[Zm,Zo,Zf]⟩,fun a ha=>?_⟩;simp only[Zdr,Kb,g4,Bool.false_or] at ha;rw[g5] at ha;exact ha.2
theorem ZmL {C:Orc} {M:Zg} {os:List CO} {nx i j:Nat} {oi oj:CO} (ae:os[i]?=some oi) (ak:os[j]?=some oj) (ar:ZD os i=true) (am:ZD os j=false) (a3:i≠j) (au:QW oj oi=true)
  (an:∀ (k:Nat) (o:CO),os[k]?=some o→∀ x∈Zr o.op,Xz x=true) {s s1 s2:Sl×Hp} {U:Nat→Prop} (hs:Zch nt s U) (a4:QD U (nx+64*i)) (av:QD U (nx+64*j)) (hl:LooseS s.1 oj.op oi.op)
  (h1:Zs C M os nx j s=some s1) (h2:Zs C M os nx i s1=some s2):∃ t1,Zs C M os nx i s=some t1∧∃ t2,Zs C M os nx j t1=some t2∧Q0 t2 s2:=by
 obtain⟨F,A,I,Γ,a,w,ag⟩:=hs;simp only[QW,Kb] at au;obtain⟨⟨aw,ax⟩,al⟩:=au;have good:∀ (k:Nat) (o:CO),os[k]?=some o→∀ x∈Zr o.op,Zdp U (evO s.1 x):=by
  intro k o ho x hx;cases x with
  | t n=>exact ag.good n
  | v y=>exact VK (an k o ho _ hx)
  | f n=>exact⟨fun id a5=>by simp[evO,Zm,Zo] at a5,fun f a6 h c hc=>by cases h;simp at hc⟩
 simp only[Zs,ak,Zc,am] at h1;simp only[Zs,ae,Zc,ar] at h2;obtain⟨vj,aj,rfl,ao,ay⟩:=ZcQ h1;obtain⟨a7,hl⟩:=hl;unfold Zy at h2;obtain⟨b,hw,h2⟩:=Za h2;have az : ZG s.1 oi.guard=some b:=by rw[← hw];exact(Z8 aw).symm
 cases b with
 | false=>
  simp only[Ka,Kg] at h2;cases h2;refine⟨(Zi s.1 oi.dst (.tup []),s.2),by simp only[Zs,ae,Zc,Zy,az,Ka,Kg],?_⟩;have e2:=ay (Zi s.1 oi.dst (.tup []),s.2) (Z8 al) (QB C M s.2 (nx+64*j) (Ys (o:=oj) al));exact⟨(Zi (Zi s.1 oi.dst (.tup [])) oj.dst vj,Zd s.2 aj),by simp only[Zs,ak,Zc,am];exact e2,fun t=>(Y5 ax vj (.tup []) t).symm,fun id=>rfl⟩
 | true=>
  simp only[Kh] at h2;obtain⟨ce,h3,h4,rfl⟩:=QO h2;have a0 : vop C M s.1 s.2 (nx+64*i) oi.op=some ce:=by
   have h5:=JQ h3;rw[← h5,QB C M (Zd s.2 aj) (nx+64*i) (Ys (o:=oi) aw)];exact Wa (ag.agree (Yt av ao s.2)) C M _ (good i oi ae)
  have aa:=Vv h4;obtain⟨k1,k2,k3⟩:=ZrI a7 a0;obtain⟨e,gn⟩:=ce;simp only at k1 k2 k3;subst k1;have ap:∀ k∈e.frz,U k:=fun k hk=>by
   obtain⟨x,hx,hk⟩:=k3 k hk;exact(good i oi ae x hx).1 k hk
  have ah:∀ k,k∈e.dels∨(∃ o,(k,o)∈e.sets)→U k:=fun k hk=>by
   obtain⟨⟨x,hx,hk⟩,_⟩:=k2 k hk;exact(good i oi ae x hx).1 k hk
  have ai:∀ s:Sl×Hp,Zb.on { eff:=e,gone:=[] } oi.dst s.1 s.2=(Zi s.1 oi.dst e.val,Zd (Zd (ZO (ZW e.frz s.2) e.dels) e.sets) e.adds):=by
   intro s;rfl
  refine⟨Zb.on { eff:=e,gone:=[] } oi.dst s.1 s.2,?_,?_⟩
  ·simp only[Zs,ae,Zc,Zy,az,Kh,Xq,ar,Yf];rw[a0,Zc,Ku h4]
  ·have ab:∀ k,U k→¬(k∈e.dels∨∃ o,(k,o)∈e.sets)→FzEq (lkp s.2 k) (lkp (Zd (Zd (ZO (ZW e.frz s.2) e.dels) e.sets) e.adds) k):=by
    intro k hk aq;rw[not_or] at aq;rw[← Yt a4 aa _ k hk,Zq _ _ k (fun o ho=>aq.2 ⟨o,ho⟩),Y8 _ _ k aq.1,ZN];exact⟨_,rfl⟩
   have e2:Zy C M nx j false oj (Zb.on { eff:=e,gone:=[] } oi.dst s.1 s.2)=some (Zi (Zb.on { eff:=e,gone:=[] } oi.dst s.1 s.2).1 oj.dst vj,Zd (Zb.on { eff:=e,gone:=[] } oi.dst s.1 s.2).2 aj):=by
    rw[ai];refine ay (Zi s.1 oi.dst e.val,Zd (Zd (ZO (ZW e.frz s.2) e.dels) e.sets) e.adds) (Z8 al) ?_;rw[QB C M _ (nx+64*j) (Ys (o:=oj) al)];rcases hl with hl | ⟨a8,a9⟩
    ·exact Zdv hl
    ·refine vop_fz a8 fun z hz k hk=>?_;refine ab k ((good j oj ak z hz).1 k hk) fun hp=>?_;exact ZgK (Za5 ((k2 k hp).2 _ a9) z hz) hk
   refine⟨_,by simp only[Zs,ak,Zc,am];exact e2,fun t=>?_,fun k=>?_⟩
   ·rw[ai,ai (Zi s.1 oj.dst vj,Zd s.2 aj)];exact(Y5 ax vj e.val t).symm
   ·rw[ai,ai (Zi s.1 oj.dst vj,Zd s.2 aj)];show lkp (Zd (Zd (Zd (ZO (ZW e.frz s.2) e.dels) e.sets) e.adds) aj) k=lkp (Zd (Zd (ZO (ZW e.frz (Zd s.2 aj)) e.dels) e.sets) e.adds) k;have a1:∀ (B:Hp) (hp hp' : Hp),(∀ k,lkp hp k=lkp hp' k)→∀ k,lkp (Zd hp B) k=lkp (Zd hp' B) k:=fun B hp hp' h=>W2 B h;have ad:∀ k,U k→∀ o',(k,o')∉aj:=fun k hk o' af=>by
     have:=ao k o' af;exact av k this.1 this.2 hk
    rw[ZiH (A:=e.adds) (B:=aj) (fun k x y hx hy=>by
     have:=aa k x hx;have:=ao k y hy;rcases Lk a3 with h | h<;>omega)]
    refine a1 e.adds _ _ (fun k=>?_) k;rw[ZiH (A:=e.sets) (B:=aj) (fun k x y hx hy=>ad k (ah k (.inr ⟨x,hx⟩)) y hy) (ZO (ZW e.frz s.2) e.dels) k];refine a1 e.sets _ _ (fun k=>?_) k;by_cases hd:k∈e.dels
    ·rw[Zq aj _ k (ad k (ah k (.inl hd))),ZgM hd,ZgM hd]
    ·rw[Y8 _ _ k hd];rw[ZN];by_cases hk:∃ o',(k,o')∈aj
     ·obtain⟨o',af⟩:=hk;rw[Ux (hp':=s.2) ⟨o',af⟩];have a':k∉e.frz:=fun hf=>ad k (ap k hf) o' af;cases lkp (Zd s.2 aj) k<;>simp[a']
     ·have a2 : ∀ o',(k,o')∉aj:=fun o' af=>hk ⟨o',af⟩;rw[Zq aj _ k a2,Zq aj _ k a2,Y8 _ _ k hd,ZN]
theorem ZoG {C:Orc} {M:Zg} {os:List CO} {nx i j:Nat} {oi oj:CO} (ab:os[i]?=some oi) (ad:os[j]?=some oj) (ae:Znb oi.op=true) (af:ZD os j=false) (ag:i≠j) (ah:QW oj oi=true)
  (aa:∀ (k:Nat) (o:CO),os[k]?=some o→∀ x∈Zr o.op,Xz x=true) {s s1 s2:Sl×Hp} {U:Nat→Prop} (hs:Zch nt s U) (ai:QD U (nx+64*i)) (aj:QD U (nx+64*j))
  (h1:Zs C M os nx j s=some s1) (h2:Zs C M os nx i s1=some s2):∃ t1,Zs C M os nx i s=some t1∧∃ t2,Zs C M os nx j t1=some t2∧Q0 t2 s2:=by
 have e:∀ s:Sl×Hp,Zs C M os nx i s=Zy C M nx i false oi s:=fun s=>by
  simp only[Zs,ab,Zc];cases ZD os i
  ·rfl
  ·exact ZoD ae s
 rw[e] at h2;simp only[e];exact ZgH ab ad af ag ah aa hs ai aj h1 h2
theorem Zj4 {hp:Hp} {base s:Nat} {vs:List AV} {ce:Zb} (h:buildSl hp base s vs=some ce):ce.gone=[]:=by
 cases vs with
 | nil=>simp only[buildSl,Qo] at h;first | (cases h;rfl) | (split at h<;>first | (cases h;rfl) | cases h)
 | cons v r=>
  simp only[buildSl] at h;obtain⟨q,_,h⟩:=Za h;unfold Zo4 at h;split at h
  ·cases h;rfl
  ·cases h
theorem Zlv {C:Orc} {M:Zg} {sl:Sl} {hp:Hp} {base:Nat} {c:COp} {ce:Zb} (hc:Zas c=true) (h:vop C M sl hp base c=some ce):ce.gone=[]:=by
 cases c<;>first | (cases hc;done) | skip
 ·simp only[vop] at h;exact Zj4 h
 ·simp only[vop] at h;exact(Zlu h).1
theorem ZoH {C:Orc} {M:Zg} {nx j:Nat} {oj:CO} {s s1:Sl×Hp} (hm:XD oj.op=true) (h:Zy C M nx j false oj s=some s1) :
  ∃ v,s1=(Zi s.1 oj.dst v,s.2)∧∀ aa : Sl×Hp,ZG aa.1 oj.guard=ZG s.1 oj.guard→(∀ x∈Zr oj.op,evO aa.1 x=evO s.1 x)→Zy C M nx j false oj aa=some (Zi aa.1 oj.dst v,aa.2):=by
 obtain⟨x,hx⟩:∃ x,oj.op=.move x:=by
  cases ho:oj.op<;>rw[ho] at hm<;>first | (cases hm;done) | exact⟨_,rfl⟩
 unfold Zy at h ⊢;obtain⟨b,hw,h⟩:=Za h;cases b with
 | true=>
  simp only[Kh,hx,Yf,Ka,Kg,vop] at h;refine⟨evO s.1 x,?_,fun aa g1 g2=>?_⟩
  ·cases h;rfl
  ·rw[g1,hw,Zc];have e:=g2 x (by rw[hx];simp[Zr]);simp only[Kh,hx,Yf,Ka,Kg,vop,e];rfl
 | false=>
  simp only[Ka,Kg] at h;cases h;refine⟨.tup [],rfl,fun aa g1 g2=>?_⟩;rw[g1,hw,Zc];rfl
theorem ZoI {C:Orc} {M:Zg} {os:List CO} {nx i j:Nat} {oi oj:CO} (ad:os[i]?=some oi) (ae:os[j]?=some oj) (af:ZD os j=false) (ah:QW oj oi=true)
  {s s1 s2:Sl×Hp} (hm:XD oj.op=true) (hg:Zas oi.op=true)
  (h1:Zs C M os nx j s=some s1) (h2:Zs C M os nx i s1=some s2):∃ t1,Zs C M os nx i s=some t1∧∃ t2,Zs C M os nx j t1=some t2∧Q0 t2 s2:=by
 simp only[QW,Kb] at ah;obtain⟨⟨ai,aj⟩,ab⟩:=ah;simp only[Zs,ae,Zc,af] at h1;simp only[Zs,ad,Zc] at h2;obtain⟨vj,rfl,ak⟩:=ZoH hm h1;unfold Zy at h2;obtain⟨b,hw,h2⟩:=Za h2;have al : ZG s.1 oi.guard=some b:=by rw[← hw];exact(Z8 ai).symm
 cases b with
 | false=>
  simp only[Ka,Kg] at h2;cases h2;refine⟨(Zi s.1 oi.dst (.tup []),s.2),by simp only[Zs,ad,Zc,Zy,al,Ka,Kg],?_⟩;exact⟨(Zi (Zi s.1 oi.dst (.tup [])) oj.dst vj,s.2),by simp only[Zs,ae,Zc,af];exact ak (Zi s.1 oi.dst (.tup []),s.2) (Z8 ab) (Ys (o:=oj) ab),fun t=>(Y5 aj vj (.tup []) t).symm,fun id=>rfl⟩
 | true=>
  simp only[Kh] at h2;obtain⟨ce,h3,h4,rfl⟩:=QO h2;have aa:=Zlv hg (JQ h3);have am : Yf C M nx i (ZD os i) oi.op s.1 s.2=some ce:=by
   rw[← h3];unfold Yf;rw[QB C M s.2 (nx+64*i) (Ys (o:=oi) ai)]
  have ag:∀ (sl:Sl) (hp:Hp),ce.on oi.dst sl hp=(Zi sl oi.dst ce.eff.val,ce.eff.on hp):=by
   intro sl hp;unfold Zb.on;rw[aa];rfl
  refine⟨ce.on oi.dst s.1 s.2,?_,?_⟩
  ·simp only[Zs,ad,Zc,Zy,al,Kh,Xq];rw[am,Zc,Ku h4]
  ·rw[ag];refine⟨(Zi (Zi s.1 oi.dst ce.eff.val) oj.dst vj,ce.eff.on s.2),by simp only[Zs,ae,Zc,af];exact ak (Zi s.1 oi.dst ce.eff.val,ce.eff.on s.2) (Z8 ab) (Ys (o:=oj) ab),fun t=>?_,fun k=>?_⟩
   ·rw[ag];exact(Y5 aj vj ce.eff.val t).symm
   ·rw[ag]
theorem awayV_ptr {sl:Sl} {xs:List Opd} {v:AV} (h:UN sl xs v=true) {k off:Nat} (e:v=.ptr k off):∀ z∈xs,k∉Zm (evO sl z):=by
 subst e;exact fun z hz=>ZgK (Za5 h z hz)
structure ZgN (r:Sl) (oX oY:CO):Prop where
 opd:∀ x∈Zr oX.op,okV (evO r x)=true
 dst:∀ t,oX.dst=some t→okV (gs r t)=true
 arg:∀ y∈Zez oY.op,okV (evO r y)=true
 away:∀ y∈Zez oY.op,∀ k off,evO r y=.ptr k off→∀ z∈Zr oX.op,k∉Zm (evO r z)
theorem Zj5 {sl:Sl}:∀ {xs:List Opd},okL sl xs=true→∀ x∈xs,okV (evO sl x)=true
 | [],_,x,hx=>by simp at hx
 | y :: ys,h,x,hx=>by
  simp only[okL,Kb] at h;rcases Ke.1 hx with rfl | hx
  ·exact h.1
  ·exact Zj5 h.2 x hx
theorem ZiI {sl:Sl} {xs:List Opd}:∀ {ys:List Opd},Zbl sl xs ys=true→∀ y∈ys,UN sl xs (evO sl y)=true
 | [],_,x,hx=>by simp at hx
 | y :: ys,h,x,hx=>by
  simp only[Zbl,Kb] at h;rcases Ke.1 hx with rfl | hx
  ·exact h.1
  ·exact ZiI h.2 x hx
theorem Zlw {r:Sl} {oX oY:CO} (hm:XD oX.op=false) (hc:Wv oY.op=true) (h:Vj r oX.dst oX.op oY.op=true):ZgN r oX oY:=by
 obtain⟨f,as,ho⟩:∃ f as,oY.op=.call (.f f) as:=by
  cases ho:oY.op<;>rw[ho] at hc<;>first | (cases hc;done) | skip
  rename_i f as;cases f<;>first | (cases hc;done) | exact⟨_,_,rfl⟩
 rw[ho] at h;have h' : (okL r (Zr oX.op)&&(okD r oX.dst&&(okL r as&&Zbl r (Zr oX.op) as)))=true:=by
  cases hx:oX.op<;>rw[hx] at h hm<;>first | (cases hm;done) | exact h
 simp only[Kb] at h';obtain⟨h1,h2,h3,h4⟩:=h';refine⟨Zj5 h1,fun t ht=>?_,?_,?_⟩
 ·rw[ht] at h2;exact h2
 ·rw[ho];exact Zj5 h3
 ·rw[ho];intro y hy k off e;exact awayV_ptr (ZiI h4 y hy) e
theorem ZgN.move {r r' : Sl} {oX oY:CO} (h:ZgN r oX oY) (h1:∀ n∈(Zr oX.op).flatMap WR,okV (gs r n)=true→gs r' n=gs r n) (h2:∀ n,oX.dst=some n→okV (gs r n)=true→gs r' n=gs r n)
  (h3:∀ n∈(Zez oY.op).flatMap WR,okV (gs r n)=true→gs r' n=gs r n):ZgN r' oX oY:=by
 have e1:∀ x∈Zr oX.op,evO r' x=evO r x:=fun x hx=>by
  have ho:=h.opd x hx;cases x with
  | t n=>exact h1 n (Kl.2 ⟨_,hx,by simp[WR]⟩) ho
  | _=>rfl
 have e3:∀ x∈Zez oY.op,evO r' x=evO r x:=fun x hx=>by
  have ho:=h.arg x hx;cases x with
  | t n=>exact h3 n (Kl.2 ⟨_,hx,by simp[WR]⟩) ho
  | _=>rfl
 refine⟨fun x hx=>by rw[e1 x hx];exact h.opd x hx,fun t ht=>by rw[h2 t ht (h.dst t ht)];exact h.dst t ht,fun x hx=>by rw[e3 x hx];exact h.arg x hx,fun y hy k off e z hz=>?_⟩;rw[e3 y hy] at e;rw[e1 z hz];exact h.away y hy k off e z hz
theorem ZgO {C:Orc} {M:Zg} (hM:∀ f,M f 99=false) {os:List CO} {nx x y:Nat} {oX oY:CO} (ay:os[x]?=some oX) (a1:os[y]?=some oY) (a2:x≠y) (ak:Qk oY.dst (Xx oX)=true) (aw:Qk oX.dst (Xx oY)=true)
  (ad:Qk oX.dst (Xx oX)=true) (al:Qk oY.dst (Xx oY)=true)
  (ar:∀ (k:Nat) (o:CO),os[k]?=some o→∀ x∈Zr o.op,Xz x=true) {s:Sl×Hp} {r:Sl} {U:Nat→Prop} (hs:Zch nt s U) (a3:QD U (nx+64*x)) (a4:QD U (nx+64*y))
  (ae:Wv oY.op=true) {ce:Zb} (a5:vop C M s.1 s.2 (nx+64*y) oY.op=some ce) (a6:Qu (nx+64*y) (nx+64*y+64) ce.eff.adds=true)
  (am:∀ n,oX.dst≠some n→oY.dst≠some n→gs r n=kill ce.gone (gs s.1 n)) (aa:ZgN r oX oY) :
  ce.eff.dels=[]∧(∀ z∈Zr oX.op,evO (ce.on oY.dst s.1 s.2).1 z=evO s.1 z)∧(∀ z∈Zr oX.op,∀ id∈Zm (evO s.1 z),id∉ce.gone)∧(∀ z∈Zr oX.op,Zdu ce.gone s.2 (ce.on oY.dst s.1 s.2).2 (evO s.1 z)) ∧
  (∀ k,nx+64*x≤k→k<nx+64*x+64→(∀ o',(k,o')∉ce.eff.sets)∧(∀ o',(k,o')∉ce.eff.adds)∧k∉ce.eff.frz∧k∉ce.gone):=by
 obtain⟨F,A,I,Γ,a,w,au⟩:=hs;have good:∀ (k:Nat) (o:CO),os[k]?=some o→∀ x∈Zr o.op,Zdp U (evO s.1 x):=by
  intro k o ho x hx;cases x with
  | t n=>exact au.good n
  | v y=>exact VK (ar k o ho _ hx)
  | f n=>exact⟨fun id av=>by simp[evO,Zm,Zo] at av,fun f a7 h c hc=>by cases h;simp at hc⟩
 obtain⟨f,as,ho⟩:∃ f as,oY.op=.call (.f f) as:=by
  cases ho:oY.op<;>rw[ho] at ae<;>first | (cases ae;done) | skip
  rename_i f as;cases f<;>first | (cases ae;done) | exact⟨_,_,rfl⟩
 have an:=a5;rw[ho] at an;simp only[vop,evO,Jr,Lu] at an;obtain⟨k1,k2,k3,k4⟩:=ZoS an (hM _);have ab:∀ n,(Opd.t n)∈Zr oX.op→n∈Xx oX:=fun n hn=>Kd.2 (.inl (Kl.2 ⟨_,hn,by simp[WR]⟩));have ai:∀ n,(Opd.t n)∈as→n∈Xx oY:=fun n hn=>Kd.2 (.inl (Kl.2 ⟨.t n,by rw[ho];simp[Zr,hn],by simp[WR]⟩));have ne:∀ {d:Option Nat} {l:List Nat} {n:Nat},Qk d l=true→n∈l→d≠some n:=fun {d l n} h hn e=>by
  rw[e] at h;simp only[Qk,KF,KD,KH] at h;exact h hn
 have ax:∀ z∈Zr oX.op,evO r z=evO s.1 z∧∀ id∈Zm (evO s.1 z),id∉ce.gone:=by
  intro z hz;have af:=aa.opd z hz;cases z with
  | t n=>
   have e:=am n (ne ad (ab n hz)) (ne ak (ab n hz));simp only[evO] at af ⊢;rw[e] at af ⊢;have:=Uu af;exact⟨this,Zqa this⟩
  | v c=>
   have:=ar x oX ay _ hz;simp only[Xz,Kb,List.isEmpty_iff] at this;exact⟨rfl,fun id av=>by simp only[evO] at av;rw[this.1] at av;simp at av⟩
  | f n=>simp only[evO,okV,okC] at af;cases af
 have az:∀ z∈as,evO r z=evO s.1 z:=by
  intro z hz;have af:=aa.arg z (by rw[ho];exact hz);cases z with
  | t n=>
   have e:=am n (ne aw (ai n hz)) (ne al (ai n hz));simp only[evO] at af ⊢;rw[e] at af ⊢;exact Uu af
  | _=>rfl
 have a0:∀ id,(∃ o,lkp s.2 id=some o)→U id:=fun id ⟨o,h⟩=>au.id_in h;have uX:∀ k,nx+64*x≤k→k<nx+64*x+64→¬U k:=fun k h1 h2=>a3 k h1 h2;have aj:=Vv a6;have ag:∀ z∈Zr oX.op,∀ k∈Zm (evO s.1 z),∀ o',(k,o')∉ce.eff.sets:=by
  intro z hz k hk o' ao;rcases (k4 k o' ao).2 with h | ⟨v,hv,ap⟩
  ·exact(ax z hz).2 k hk h
  ·obtain⟨y',aq,rfl⟩:=ZbJ hv;have ah:=aa.arg y' (by rw[ho];exact aq);rw[az y' aq] at ah;cases hp:evO s.1 y' with
   | ptr a b=>
    rw[hp] at ap;simp only[V2,KG] at ap;subst ap;have:=aa.away y' (by rw[ho];exact aq) k b (by rw[az y' aq,hp]) z hz;rw[(ax z hz).1] at this;exact this hk
   | clo g cs=>rw[hp] at ah;simp only[okV,okC] at ah;cases ah
   | _=>rw[hp] at ap;simp[V2] at ap
 refine⟨k1,fun z hz=>?_,fun z hz=>(ax z hz).2,fun z hz k hk=>?_,fun k g1 g2=>⟨fun o' ao=>?_,fun o' ao=>?_,fun hf=>?_,fun hg=>?_⟩⟩
 ·cases z with
  | t n=>
   show gs (Zi (Qz ce.gone s.1) oY.dst ce.eff.val) n=gs s.1 n;rw[Z4,Kp (ne ak (ab n hz)),Ql];have e:=am n (ne ad (ab n hz)) (ne ak (ab n hz));have:=aa.opd _ hz;simp only[evO] at this;rw[e] at this;exact Uu this
  | _=>rfl
 ·have a8:U k:=(good x oX ay z hz).1 k hk;show Uv ce.gone (lkp s.2 k) (lkp (ce.eff.on (Yd ce.gone s.2)) k);unfold Eff.on;rw[k1];simp only[ZO];rw[Zq,Zq,ZN,Yq]
  ·exact ZlA _
  ·exact ag z hz k hk
  ·intro o' ao;obtain⟨h1,h2⟩:=aj k o' ao;exact a4 k h1 h2 a8
 ·exact uX k g1 g2 (a0 k (k4 k o' ao).1)
 ·have:=aj k o' ao;rcases Lk a2 with h | h<;>omega
 ·obtain⟨v,hv,ap⟩:=k2 k hf;obtain⟨y',aq,rfl⟩:=ZbJ hv;exact uX k g1 g2 ((good y oY a1 y' (by rw[ho];simp[Zr,aq])).1 k ap)
 ·exact uX k g1 g2 (a0 k (k3 k hg))
theorem ZmM {C:Orc} {M:Zg} (hM:∀ f,M f 99=false) {os:List CO} {nx i j:Nat} {oi oj:CO} (ah:os[i]?=some oi) (av:os[j]?=some oj) (az:ZD os j=false) (a0:i≠j) (aw:QW oj oi=true)
  (ad:Qk oj.dst (Xx oj)=true) (ae:Qk oi.dst (Xx oi)=true)
  (ai:∀ (k:Nat) (o:CO),os[k]?=some o→∀ x∈Zr o.op,Xz x=true) {s s1 s2:Sl×Hp} {U:Nat→Prop} (hs:Zch nt s U) (a1:QD U (nx+64*i)) (ap:QD U (nx+64*j))
  (aj:Wv oi.op=true) (a2:Zhp oj.op=true) (aa:ZgN s2.1 oj oi) {t:Nat} (ht:oj.dst=some t)
  (h1:Zs C M os nx j s=some s1) (h2:Zs C M os nx i s1=some s2):∃ t1,Zs C M os nx i s=some t1∧∃ t2,Zs C M os nx j t1=some t2∧Q0 t2 s2:=by
 have a3:=hs;obtain⟨F,A,I,Γ,a,w,af⟩:=a3;simp only[QW,Kb] at aw;obtain⟨⟨am,an⟩,ao⟩:=aw;have good:∀ (k:Nat) (o:CO),os[k]?=some o→∀ x∈Zr o.op,Zdp U (evO s.1 x):=by
  intro k o ho x hx;cases x with
  | t n=>exact af.good n
  | v y=>exact VK (ai k o ho _ hx)
  | f n=>exact⟨fun id a4=>by simp[evO,Zm,Zo] at a4,fun f a5 h c hc=>by cases h;simp at hc⟩
 have ab:∀ s:Sl×Hp,Zs C M os nx j s=Zy C M nx j false oj s:=fun s=>by simp only[Zs,av,Zc,az]
 rw[ab] at h1;simp only[Zs,ah,Zc] at h2;obtain⟨v,ax,a6,aq,hX⟩:∃ v ax,s1=(Zi s.1 oj.dst v,Zd s.2 ax)∧(∀ k x,(k,x)∈ax→nx+64*j≤k∧k<nx+64*j+64) ∧
   ((ZG s.1 oj.guard=some false∧v=.tup []∧ax=[])∨(ZG s.1 oj.guard=some true∧∃ ce,Zep ce∧vop C M s.1 s.2 (nx+64*j) oj.op=some ce∧Qu (nx+64*j) (nx+64*j+64) ce.eff.adds=true∧v=ce.eff.val∧ax=ce.eff.adds)):=by
  rcases ZmV h1 with ⟨g1,g2⟩ | ⟨g1,ce,g2,g3,g4,g5⟩
  ·exact⟨.tup [],[],g2,fun k x h=>by simp at h,.inl ⟨g1,rfl,rfl⟩⟩
  ·exact⟨ce.eff.val,ce.eff.adds,g5,Vv g4,.inr ⟨g1,ce,g2,g3,g4,rfl,rfl⟩⟩
 subst a6;unfold Zy at h2;obtain⟨b,hw,h2⟩:=Za h2;have ay : ZG s.1 oi.guard=some b:=by rw[← hw];exact(Z8 am).symm
 cases b with
 | false=>
  simp only[Ka,Kg] at h2;cases h2;refine⟨(Zi s.1 oi.dst (.tup []),s.2),by simp only[Zs,ah,Zc];exact Xp ay,?_⟩;refine⟨(Zi (Zi s.1 oi.dst (.tup [])) oj.dst v,Zd s.2 ax),?_,fun t=>(Y5 an v (.tup []) t).symm,fun id=>rfl⟩;rw[ab];have ak:ZG (Zi s.1 oi.dst (.tup [])) oj.guard=ZG s.1 oj.guard:=Z8 ao;rcases hX with ⟨g1,rfl,rfl⟩ | ⟨g1,ce,g2,g3,g4,rfl,rfl⟩
  ·exact Xp (s:=(Zi s.1 oi.dst (.tup []),s.2)) (ak.trans g1)
  ·refine ZbL (s:=(Zi s.1 oi.dst (.tup []),s.2)) (ak.trans g1) g2 ?_ g4;rw[← g3];exact QB C M s.2 (nx+64*j) (Ys (o:=oj) ao)
 | true=>
  simp only[Kh] at h2;obtain⟨ce,h3,h4,rfl⟩:=QO h2;have a7:vop C M s.1 s.2 (nx+64*i) oi.op=some ce:=by
   have h5:=JQ h3;rw[← h5,QB C M (Zd s.2 ax) (nx+64*i) (Ys (o:=oi) am)];exact Wa (af.agree (Yt ap aq s.2)) C M _ (good i oi ah)
  have a8 : Yf C M nx i (ZD os i) oi.op s.1 s.2=some ce:=by
   rw[← h3];unfold Yf;rw[QB C M (Zd s.2 ax) (nx+64*i) (Ys (o:=oi) am),Wa (af.agree (Yt ap aq s.2)) C M _ (good i oi ah)]
  have ar:∀ n,oj.dst≠some n→oi.dst≠some n→gs (ce.on oi.dst (Zi s.1 oj.dst v) (Zd s.2 ax)).1 n=kill ce.gone (gs s.1 n):=fun n e1 e2=>by
   show gs (Zi (Qz ce.gone (Zi s.1 oj.dst v)) oi.dst ce.eff.val) n=_;rw[Z4,Kp e2,Ql,Z4,Kp e1]
  obtain⟨c1,c2,c3,c4,c5⟩:=ZgO (nt:=nt) hM av ah (Ne.symm a0) ao am ad ae ai hs ap a1 aj a7 h4 ar aa;have e0:gs (ce.on oi.dst (Zi s.1 oj.dst v) (Zd s.2 ax)).1 t=kill ce.gone v:=by
   show gs (Zi (Qz ce.gone (Zi s.1 oj.dst v)) oi.dst ce.eff.val) t=_;rw[Z4,Kp,Ql,Z4,Ku ht];intro e;rw[ht,e] at an;simp[Wk] at an
  have ag:kill ce.gone v=v:=by
   have h5:=aa.dst t ht;rw[e0] at h5;exact Uu h5
  have au:okV v=true:=by
   have h5:=aa.dst t ht;rw[e0,ag] at h5;exact h5
  refine⟨ce.on oi.dst s.1 s.2,?_,?_⟩
  ·simp only[Zs,ah,Zc,Zy,ay,Kh,Xq];rw[a8,Zc,Ku h4]
  ·have ak:ZG (ce.on oi.dst s.1 s.2).1 oj.guard=ZG s.1 oj.guard:=by
    show ZG (Zi (Qz ce.gone s.1) oi.dst ce.eff.val) oj.guard=_;rw[Z8 ao];exact ZbM fun q _=>Ql _ _ _
   have al:(∀ k o,(k,o)∈ax→QJ ce.gone o=o)∧Zy C M nx j false oj (ce.on oi.dst s.1 s.2)=some (Zi (ce.on oi.dst s.1 s.2).1 oj.dst v,Zd (ce.on oi.dst s.1 s.2).2 ax):=by
    rcases hX with ⟨g1,rfl,rfl⟩ | ⟨g1,cx,g2,g3,g4,rfl,rfl⟩
    ·exact⟨fun k o h=>by simp at h,Xp (ak.trans g1)⟩
    ·obtain⟨e1,e2⟩:=ZoQ a2 c2 c4 (fun k h6 h7=>(c5 k h6 h7).2.2.2) g3 g4 g2.frz au ag;exact⟨e2,ZbL (ak.trans g1) g2 e1 g4⟩
   obtain⟨e3,e4⟩:=al;refine⟨_,by rw[ab];exact e4,?_⟩;exact ZnR (ce:=ce) (dX:=oj.dst) (dY:=oi.dst) (v:=v) (ax:=ax) (s:=s) an c1 (fun k o ho=>by
    obtain⟨h6,h7⟩:=aq k o ho;obtain⟨m1,m2,m3,_⟩:=c5 k h6 h7;exact⟨m1,m2,m3⟩) e3 ag
theorem Zlx {C:Orc} {M:Zg} (hM:∀ f,M f 99=false) {os:List CO} {nx i j:Nat} {oi oj:CO} (ar:os[i]?=some oi) (ag:os[j]?=some oj) (ay:ZD os i=false) (az:i≠j) (au:QW oj oi=true)
  (ad:Qk oi.dst (Xx oi)=true) (ae:Qk oj.dst (Xx oj)=true)
  (ah:∀ (k:Nat) (o:CO),os[k]?=some o→∀ x∈Zr o.op,Xz x=true) {s s1 s2:Sl×Hp} {U:Nat→Prop} (hs:Zch nt s U) (av:QD U (nx+64*i)) (a0:QD U (nx+64*j))
  (ai:Wv oj.op=true) (a1:ZdL oi.op=true) (ab:ZgN s2.1 oi oj) {t:Nat} (ht:oi.dst=some t)
  (h1:Zs C M os nx j s=some s1) (h2:Zs C M os nx i s1=some s2):∃ t1,Zs C M os nx i s=some t1∧∃ t2,Zs C M os nx j t1=some t2∧Q0 t2 s2:=by
 have a2:=hs;obtain⟨F,A,I,Γ,a,w,aj⟩:=a2;simp only[QW,Kb] at au;obtain⟨⟨an,ao⟩,ak⟩:=au;have af : Wk oi.dst oj.dst=true:=by
  cases hd:oi.dst<;>cases he:oj.dst<;>rw[hd,he] at ao<;>first | rfl | (simp only[Wk,bne_iff_ne,ne_eq] at ao ⊢;exact fun e=>ao e.symm)
 have good:∀ (k:Nat) (o:CO),os[k]?=some o→∀ x∈Zr o.op,Zdp U (evO s.1 x):=by
  intro k o ho x hx;cases x with
  | t n=>exact aj.good n
  | v y=>exact VK (ah k o ho _ hx)
  | f n=>exact⟨fun id a3=>by simp[evO,Zm,Zo] at a3,fun f a4 h c hc=>by cases h;simp at hc⟩
 have aa:∀ s:Sl×Hp,Zs C M os nx i s=Zy C M nx i false oi s:=fun s=>by simp only[Zs,ar,Zc,ay]
 rw[aa] at h2;simp only[Zs,ag,Zc] at h1;unfold Zy at h1;obtain⟨b,hw,h1⟩:=Za h1;cases b with
 | false=>
  simp only[Ka,Kg] at h1;cases h1;have al:ZG (Zi s.1 oj.dst (.tup [])) oi.guard=ZG s.1 oi.guard:=Z8 an;rcases ZmV h2 with ⟨g1,g2⟩ | ⟨g1,ce,g2,g3,g4,g5⟩
  ·subst g2;refine⟨(Zi s.1 oi.dst (.tup []),s.2),by rw[aa];exact Xp (al.symm.trans g1),(Zi (Zi s.1 oi.dst (.tup [])) oj.dst (.tup []),s.2),?_,fun t=>Y5 af _ _ t,fun id=>rfl⟩;simp only[Zs,ag,Zc];exact Xp (s:=(Zi s.1 oi.dst (.tup []),s.2)) ((Z8 ak).trans hw)
  ·subst g5;refine⟨(Zi s.1 oi.dst ce.eff.val,Zd s.2 ce.eff.adds),?_,(Zi (Zi s.1 oi.dst ce.eff.val) oj.dst (.tup []),Zd s.2 ce.eff.adds),?_,fun t=>Y5 af _ _ t,fun id=>rfl⟩
   ·rw[aa];refine ZbL (al.symm.trans g1) g2 ?_ g4;rw[← g3];exact(QB C M s.2 (nx+64*i) (Ys (o:=oi) an)).symm
   ·simp only[Zs,ag,Zc];exact Xp (s:=(Zi s.1 oi.dst ce.eff.val,Zd s.2 ce.eff.adds)) ((Z8 ak).trans hw)
 | true=>
  simp only[Kh] at h1;obtain⟨ce,h3,h4,rfl⟩:=QO h1;have a5:vop C M s.1 s.2 (nx+64*j) oj.op=some ce:=JQ h3;have al:ZG (ce.on oj.dst s.1 s.2).1 oi.guard=ZG s.1 oi.guard:=by
   show ZG (Zi (Qz ce.gone s.1) oj.dst ce.eff.val) oi.guard=_;rw[Z8 an];exact ZbM fun q _=>Ql _ _ _
  obtain⟨v,ax,a6,aw,hX⟩:∃ v ax,s2=(Zi (ce.on oj.dst s.1 s.2).1 oi.dst v,Zd (ce.on oj.dst s.1 s.2).2 ax)∧(∀ k x,(k,x)∈ax→nx+64*i≤k∧k<nx+64*i+64) ∧
    ((ZG s.1 oi.guard=some false∧v=.tup []∧ax=[])∨(ZG s.1 oi.guard=some true∧∃ cx,Zep cx∧vop C M (ce.on oj.dst s.1 s.2).1 (ce.on oj.dst s.1 s.2).2 (nx+64*i) oi.op=some cx∧Qu (nx+64*i) (nx+64*i+64) cx.eff.adds=true∧v=cx.eff.val∧ax=cx.eff.adds)):=by
   rcases ZmV h2 with ⟨g1,g2⟩ | ⟨g1,cx,g2,g3,g4,g5⟩
   ·exact⟨.tup [],[],g2,fun k x h=>by simp at h,.inl ⟨al.symm.trans g1,rfl,rfl⟩⟩
   ·exact⟨cx.eff.val,cx.eff.adds,g5,Vv g4,.inr ⟨al.symm.trans g1,cx,g2,g3,g4,rfl,rfl⟩⟩
  subst a6;have ap:∀ n,oi.dst≠some n→oj.dst≠some n→gs (Zi (ce.on oj.dst s.1 s.2).1 oi.dst v) n=kill ce.gone (gs s.1 n):=fun n e1 e2=>by
   rw[Z4,Kp e1];show gs (Zi (Qz ce.gone s.1) oj.dst ce.eff.val) n=_;rw[Z4,Kp e2,Ql]
  obtain⟨c1,c2,c3,c4,c5⟩:=ZgO (nt:=nt) hM ar ag az an ak ad ae ah hs av a0 ai a5 h4 ap ab;have aq:okV v=true:=by
   have h5:=ab.dst t ht;simp only[Z4,Ku ht] at h5;exact h5
  have am:kill ce.gone v=v∧(∀ k o,(k,o)∈ax→QJ ce.gone o=o)∧Zy C M nx i false oi s=some (Zi s.1 oi.dst v,Zd s.2 ax):=by
   rcases hX with ⟨g1,rfl,rfl⟩ | ⟨g1,cx,g2,g3,g4,rfl,rfl⟩
   ·exact⟨rfl,fun k o h=>by simp at h,Xp g1⟩
   ·obtain⟨e1,e2,e3⟩:=ZmU a1 c2 c4 c3 (fun k h6 h7=>(c5 k h6 h7).2.2.2) g3 g4 g2.frz aq;exact⟨e2,e3,ZbL g1 g2 e1 g4⟩
  obtain⟨hk,e3,e4⟩:=am;refine⟨(Zi s.1 oi.dst v,Zd s.2 ax),by rw[aa];exact e4,ce.on oj.dst (Zi s.1 oi.dst v) (Zd s.2 ax),?_,?_⟩
  ·simp only[Zs,ag,Zc,Zy];have a7:ZG (Zi s.1 oi.dst v) oj.guard=some true:=(Z8 ak).trans hw;simp only[a7,Zc,Kh,Xq];have:Yf C M nx j (ZD os j) oj.op (Zi s.1 oi.dst v) (Zd s.2 ax)=some ce:=by
    rw[← h3];unfold Yf;rw[QB C M (Zd s.2 ax) (nx+64*j) (Ys (o:=oj) ak),← Wa (aj.agree (Yt av aw s.2)) C M _ (good j oj ag)]
   rw[this,Zc,Ku h4]
  ·exact(ZnR (ce:=ce) (dX:=oi.dst) (dY:=oj.dst) (v:=v) (ax:=ax) (s:=s) af c1 (fun k o ho=>by
    obtain⟨h6,h7⟩:=aw k o ho;obtain⟨m1,m2,m3,_⟩:=c5 k h6 h7;exact⟨m1,m2,m3⟩) e3 hk).symm
theorem Zac {C:Orc} {M:Zg} {nx j:Nat} {oj:CO} {x:Opd} (hx:oj.op=.move x) {s:Sl×Hp} {b:Bool} (hw:ZG s.1 oj.guard=some b) :
  Zy C M nx j false oj s=some (Zi s.1 oj.dst (if b then evO s.1 x else .tup []),s.2):=by
 unfold Zy;rw[hw,Zc];cases b
 ·rfl
 ·simp only[Kh,hx,Yf,Ka,Kg,vop];rfl
theorem ZmN {C:Orc} {M:Zg} {os:List CO} {nx i j:Nat} {oi oj:CO} (af:os[i]?=some oi) (am:os[j]?=some oj) (an:ZD os j=false) (ai:QW oj oi=true)
  (ao:∀ (k:Nat) (o:CO),os[k]?=some o→∀ x∈Zr o.op,Xz x=true)
  {s s1 s2:Sl×Hp} (hm:XD oj.op=true) {t:Nat} (ht:oj.dst=some t) (aj:okV (gs s2.1 t)=true)
  (h1:Zs C M os nx j s=some s1) (h2:Zs C M os nx i s1=some s2):∃ t1,Zs C M os nx i s=some t1∧∃ t2,Zs C M os nx j t1=some t2∧Q0 t2 s2:=by
 obtain⟨x,hx⟩:∃ x,oj.op=.move x:=by
  cases ho:oj.op<;>rw[ho] at hm<;>first | (cases hm;done) | exact⟨_,rfl⟩
 simp only[QW,Kb] at ai;obtain⟨⟨ak,ad⟩,ab⟩:=ai;have aa:∀ s:Sl×Hp,Zs C M os nx j s=Zy C M nx j false oj s:=fun s=>by simp only[Zs,am,Zc,an]
 rw[aa] at h1;obtain⟨bj,ag⟩:∃ bj,ZG s.1 oj.guard=some bj:=by
  unfold Zy at h1;obtain⟨b,hw,_⟩:=Za h1;exact⟨b,hw⟩
 rw[Zac hx ag] at h1;have h1:=(Option.some.inj h1).symm;subst h1;simp only[Zs,af,Zc] at h2;unfold Zy at h2;obtain⟨b,hw,h2⟩:=Za h2;have al : ZG s.1 oi.guard=some b:=by rw[← hw];exact(Z8 ak).symm
 have ap:oi.dst≠some t:=fun e=>by rw[ht,e] at ad;simp[Wk] at ad
 have ae:∀ n,x=.t n→oi.dst≠some n:=fun n e h=>by
  rw[h] at ab;simp only[Qk,KF,KD,KH] at ab;exact ab (Kd.2 (.inl (by rw[hx,e];simp[Zr,WR])))
 cases b with
 | false=>
  simp only[Ka,Kg] at h2;cases h2;refine⟨(Zi s.1 oi.dst (.tup []),s.2),by simp only[Zs,af,Zc];exact Xp al,?_⟩;refine⟨_,by rw[aa];exact Zac (s:=(Zi s.1 oi.dst (.tup []),s.2)) hx ((Z8 ab).trans ag),?_⟩;have:evO (Zi s.1 oi.dst (.tup [])) x=evO s.1 x:=Ys (o:=oj) ab x (by rw[hx];simp[Zr]);simp only[this];exact⟨fun t=>(Y5 ad _ _ t).symm,fun id=>rfl⟩
 | true=>
  simp only[Kh] at h2;obtain⟨ce,h3,h4,rfl⟩:=QO h2;have aq : Yf C M nx i (ZD os i) oi.op s.1 s.2=some ce:=by
   rw[← h3];unfold Yf;rw[QB C M s.2 (nx+64*i) (Ys (o:=oi) ak)]
  refine⟨ce.on oi.dst s.1 s.2,by simp only[Zs,af,Zc,Zy,al,Kh,Xq];rw[aq,Zc,Ku h4],?_⟩;have ah:ZG (ce.on oi.dst s.1 s.2).1 oj.guard=some bj:=by
   show ZG (Zi (Qz ce.gone s.1) oi.dst ce.eff.val) oj.guard=_;rw[Z8 ab,← ag];exact ZbM fun q _=>Ql _ _ _
  refine⟨_,by rw[aa];exact Zac hx ah,?_⟩;have e0:gs (ce.on oi.dst (Zi s.1 oj.dst (if bj then evO s.1 x else .tup [])) s.2).1 t=kill ce.gone (if bj then evO s.1 x else .tup []):=by
   show gs (Zi (Qz ce.gone (Zi s.1 oj.dst _)) oi.dst ce.eff.val) t=_;rw[Z4,Kp ap,Ql,Z4,Ku ht]
  rw[e0] at aj;have hk:=Uu aj;have ev:(if bj then evO (ce.on oi.dst s.1 s.2).1 x else .tup [])=(if bj then evO s.1 x else .tup []):=by
   cases bj with
   | false=>rfl
   | true=>
    simp only[Kh] at hk ⊢;cases x with
    | t n=>
     show gs (Zi (Qz ce.gone s.1) oi.dst ce.eff.val) n=gs s.1 n;rw[Z4,Kp (ae n rfl),Ql];exact hk
    | _=>rfl
  rw[ev];refine⟨fun q=>?_,fun id=>rfl⟩;show gs (Zi (Zi (Qz ce.gone s.1) oi.dst ce.eff.val) oj.dst _) q=gs (Zi (Qz ce.gone (Zi s.1 oj.dst _)) oi.dst ce.eff.val) q;simp only[Z4,Ql];by_cases hq:oj.dst=some q
  ·have:¬oi.dst=some q:=fun e=>by rw[hq,e] at ad;simp[Wk] at ad
   simp only[hq,Kh,this,Kg];exact hk.symm
  ·simp[hq]
theorem ZmO {C:Orc} {M:Zg} {os:List CO} {nx i j:Nat} {oi oj:CO} (am:os[i]?=some oi) (ag:os[j]?=some oj) (ar:ZD os i=false) (an:QW oj oi=true)
  (ah:∀ (k:Nat) (o:CO),os[k]?=some o→∀ x∈Zr o.op,Xz x=true)
  {s s1 s2:Sl×Hp} (hm:XD oi.op=true) {t:Nat} (ht:oi.dst=some t) (ai:okV (gs s2.1 t)=true)
  (h1:Zs C M os nx j s=some s1) (h2:Zs C M os nx i s1=some s2):∃ t1,Zs C M os nx i s=some t1∧∃ t2,Zs C M os nx j t1=some t2∧Q0 t2 s2:=by
 obtain⟨x,hx⟩:∃ x,oi.op=.move x:=by
  cases ho:oi.op<;>rw[ho] at hm<;>first | (cases hm;done) | exact⟨_,rfl⟩
 simp only[QW,Kb] at an;obtain⟨⟨ad,aj⟩,ak⟩:=an;have aa:∀ s:Sl×Hp,Zs C M os nx i s=Zy C M nx i false oi s:=fun s=>by simp only[Zs,am,Zc,ar]
 rw[aa] at h2;simp only[Zs,ag,Zc] at h1;unfold Zy at h1;obtain⟨b,hw,h1⟩:=Za h1;have af:∀ n,x=.t n→oj.dst≠some n:=fun n e h=>by
  rw[h] at ad;simp only[Qk,KF,KD,KH] at ad;exact ad (Kd.2 (.inl (by rw[hx,e];simp[Zr,WR])))
 have ao:∀ (bi:Bool) (e:evO s1.1 x=evO s.1 x∨bi=false) (g1:ZG s.1 oi.guard=some bi) (g2:ZG s1.1 oi.guard=some bi),s2=(Zi s1.1 oi.dst (if bi then evO s.1 x else .tup []),s1.2):=by
  intro bi e g1 g2;rw[Zac hx g2] at h2;rw[← Option.some.inj h2];rcases e with e | e
  ·rw[e]
  ·rw[e];rfl
 cases b with
 | false=>
  simp only[Ka,Kg] at h1;cases h1;have ae:ZG (Zi s.1 oj.dst (.tup [])) oi.guard=ZG s.1 oi.guard:=Z8 ad;obtain⟨bi,ab⟩:∃ bi,ZG s.1 oi.guard=some bi:=by
   unfold Zy at h2;obtain⟨b,hw,_⟩:=Za h2;exact⟨b,ae.symm.trans hw⟩
  have e:evO (Zi s.1 oj.dst (.tup [])) x=evO s.1 x:=Ys (o:=oi) ad x (by rw[hx];simp[Zr]);have h5:=ao bi (.inl e) ab (ae.trans ab);subst h5;refine⟨_,by rw[aa];exact Zac hx ab,(Zi (Zi s.1 oi.dst (if bi then evO s.1 x else .tup [])) oj.dst (.tup []),s.2),?_,fun t=>?_,fun id=>rfl⟩
  ·simp only[Zs,ag,Zc];exact Xp (s:=(Zi s.1 oi.dst (if bi then evO s.1 x else .tup []),s.2)) ((Z8 ak).trans hw)
  ·exact(Y5 aj _ _ t).symm
 | true=>
  simp only[Kh] at h1;obtain⟨ce,h3,h4,rfl⟩:=QO h1;have ae:ZG (ce.on oj.dst s.1 s.2).1 oi.guard=ZG s.1 oi.guard:=by
   show ZG (Zi (Qz ce.gone s.1) oj.dst ce.eff.val) oi.guard=_;rw[Z8 ad];exact ZbM fun q _=>Ql _ _ _
  obtain⟨bi,ab⟩:∃ bi,ZG s.1 oi.guard=some bi:=by
   unfold Zy at h2;obtain⟨b,hw,_⟩:=Za h2;exact⟨b,ae.symm.trans hw⟩
  have ap:=h2;rw[Zac hx (ae.trans ab)] at ap;have h6:=Option.some.inj ap;have hv:okV (if bi then evO (ce.on oj.dst s.1 s.2).1 x else .tup [])=true:=by
   rw[← h6] at ai;simp only[Z4,Ku ht] at ai;exact ai
  have aq:kill ce.gone (if bi then evO s.1 x else .tup [])=(if bi then evO s.1 x else .tup [])∧(evO (ce.on oj.dst s.1 s.2).1 x=evO s.1 x∨bi=false):=by
   cases bi with
   | false=>exact⟨rfl,.inr rfl⟩
   | true=>
    simp only[Kh] at hv ⊢;cases x with
    | t n=>
     have e:evO (ce.on oj.dst s.1 s.2).1 (.t n)=kill ce.gone (gs s.1 n):=by
      show gs (Zi (Qz ce.gone s.1) oj.dst ce.eff.val) n=_;rw[Z4,Kp (af n rfl),Ql]
     rw[e] at hv ⊢;have:=Uu hv;exact⟨this,.inl this⟩
    | v c=>
     have hc:=ah i oi am (.v c) (by rw[hx];simp[Zr]);simp only[Xz,Kb,List.isEmpty_iff] at hc;exact⟨ZnP hv fun id al=>by simp only[evO] at al;rw[hc.1] at al;simp at al,.inl rfl⟩
    | f n=>simp only[evO,okV,okC] at hv;cases hv
  have h5:=ao bi aq.2 ab (ae.trans ab);subst h5;refine⟨_,by rw[aa];exact Zac hx ab,ce.on oj.dst (Zi s.1 oi.dst (if bi then evO s.1 x else .tup [])) s.2,?_,fun q=>?_,fun id=>rfl⟩
  ·simp only[Zs,ag,Zc,Zy];have au:ZG (Zi s.1 oi.dst (if bi then evO s.1 x else .tup [])) oj.guard=some true:=(Z8 ak).trans hw;simp only[au,Zc,Kh,Xq];have:Yf C M nx j (ZD os j) oj.op (Zi s.1 oi.dst (if bi then evO s.1 x else .tup [])) s.2=some ce:=by
    rw[← h3];unfold Yf;rw[QB C M s.2 (nx+64*j) (Ys (o:=oj) ak)]
   rw[this,Zc,Ku h4]
  ·show gs (Zi (Qz ce.gone (Zi s.1 oi.dst _)) oj.dst ce.eff.val) q=gs (Zi (Zi (Qz ce.gone s.1) oj.dst ce.eff.val) oi.dst _) q;simp only[Z4,Ql];by_cases hq:oi.dst=some q
   ·have:¬oj.dst=some q:=fun e=>by rw[hq,e] at aj;simp[Wk] at aj
    simp only[hq,Kh,this,Kg];exact aq.1
   ·simp[hq]
theorem ZnN {C:Orc} {M:Zg} (hM:∀ f,M f 99=false) (hC:Z7 P C) {ops:Array Oper} {os:List CO} (a9:Z6 (Zfe P nt ops.toList) ops.toList=some os) {nx i:Nat} {ks:List Nat} {oi:CO} (ab:os[i]?=some oi)
  (ad:∀ (k:Nat) (o:CO),os[k]?=some o→∀ x∈Zr o.op,Xz x=true) :
  ∀ (js:List Nat) {s r:Sl×Hp} {U:Nat→Prop},Zch nt s U→QD U (nx+64*i)→(∀ j∈js,QD U (nx+64*j))→(js++i :: ks).Pairwise (· < ·) →
   (∀ j∈js,∃ oj,os[j]?=some oj∧QW oj oi=true∧((ZD os j=false∧(ZD os i=true→Znb oi.op=true∨(Zhn oi.op=true∧(Yy oj.op=true∨(VU oj.op=true∧WS os j=true∧WS os i=true∧Zdr r.1 oj.op oi.op=true)))∨(XD oj.op=true∧Zas oi.op=true)∨(XD oj.op=true∧Zfy os j=true∧okD r.1 oj.dst=true) ∨
    (XD oj.op=false∧Wv oi.op=true∧Zhp oj.op=true∧WS os j=true∧WS os i=true∧Zfy os j=true∧Vj r.1 oj.dst oj.op oi.op=true))) ∨
    (ZD os j=true∧ZD os i=false∧XD oi.op=true∧Zfy os i=true∧okD r.1 oi.dst=true) ∨
    (ZD os j=true∧ZD os i=false∧XD oi.op=false∧Wv oj.op=true∧ZdL oi.op=true∧WS os j=true∧WS os i=true∧Zfy os i=true∧Vj r.1 oi.dst oi.op oj.op=true))) →
   (∀ j∈js++i :: ks,j<os.length)→Zab C M os nx (js++i :: ks) s=some r →
   ∃ s',Zs C M os nx i s=some s'∧∃ r',Zab C M os nx (js++ks) s'=some r'∧Q0 r' r
 | [],s,r,U,_,_,_,_,_,_,h=>by
  simp only[Lv,Zab] at h ⊢;obtain⟨s',h1,h⟩:=Za h;exact⟨s',h1,r,h,Q0.refl r⟩
 | j :: js,s,r,U,hs,hfi,hfj,hsort,hj,hlt,h=>by
  have a1:=h;simp only[KL,Zab] at h;obtain⟨s1,h1,h⟩:=Za h;have a8:=hsort;simp only[KL,Lr] at hsort;have bk:j<i:=hsort.1 i (by simp);have a0:i≠j:=by omega
  have a':=ZmI hC a9 hs (hfj j (by simp)) h1;have ba:∀ k∈js,k≠j:=fun k hk e=>by
   have:=hsort.1 k (by simp[hk]);omega
  obtain⟨s2,h2,r2,h3,h4⟩:=ZnN hM hC a9 ab ad js a' (ZiG a0 hfi) (fun k hk=>ZiG (ba k hk) (hfj k (by simp[hk]))) hsort.2 (fun k hk=>hj k (by simp[hk])) (fun k hk=>hlt k (by simp only[KL,Ke];exact .inr hk)) h;obtain⟨oj,ae,au,a2⟩:=hj j (by simp);have aa:∀ {k q n:Nat} {o:CO},WS os k=true→os[k]?=some o→k≤q→q<os.length→n∈Xx o→Qk (Vs os q) [n]=true:=by
   intro k q n o am ho bl hq hn;have:=Kx.1 am q (K6.2 hq);simp only[Zkv,ho,K1,Kj] at this;rcases this with h | h
   ·omega
   ·cases hd:Vs os q with
    | none=>rfl
    | some d=>
     rw[hd] at h;simp only[Qk,KF,KD,KH] at h ⊢;intro e;simp at e;exact h (e ▸ hn)
  have af:∀ {k:Nat} {o:CO},WS os k=true→os[k]?=some o→Qk o.dst (Xx o)=true:=by
   intro k o am ho;have hk:k<os.length:=(Kc.1 ho).1;have:=Kx.1 am k (K6.2 hk);simp only[Zkv,Vs,ho,K1,Kj] at this;rcases this with h | h
   ·omega
   ·exact h
  have ag:∀ {k q t:Nat} {o:CO},Zfy os k=true→os[k]?=some o→o.dst=some t→q≠k→q<os.length→Qk (Vs os q) [t]=true:=by
   intro k q t o hl ho ht bb hq;simp only[Zfy,Kb] at hl;have:=Kx.1 hl.2 q (K6.2 hq);simp only[K1,beq_iff_eq,Vs,ho,ht] at this;rcases this with h | h
   ·exact absurd h bb
   ·simp only[Vs];cases a3:os[q]? with
    | none=>rfl
    | some oq=>
     rw[a3] at h;simp only at h ⊢;cases hd:oq.dst with
     | none=>rfl
     | some d=>
      rw[hd] at h;simp only[Wk,bne_iff_ne,ne_eq] at h;simp only[Qk,KF,KD,KH,KG];exact h
  have ah:∀ {k:Nat} {o:CO},Zfy os k=true→os[k]?=some o→∃ t,o.dst=some t:=by
   intro k o hl ho;simp only[Zfy,Vs,ho,Kb] at hl;cases hd:o.dst with
   | none=>rw[hd] at hl;cases hl.1
   | some t=>exact⟨t,rfl⟩
  have av:∀ n,(∀ q∈js++ks,Qk (Vs os q) [n]=true)→okV (gs r.1 n)=true→gs s2.1 n=gs r.1 n:=by
   intro n hn ho;rw[← h4.1 n] at ho ⊢;exact Zp7 h3 hn ho
  have ak:∀ q∈js++ks,q≠i∧j<q∧q<os.length:=by
   intro q hq;refine⟨?_,?_,hlt q ?_⟩
   ·rcases Kd.1 hq with hq | hq
    ·have:=(Lf.1 hsort.2).2.2 q hq i (by simp);omega
    ·have:=(Lr.1 (Lf.1 hsort.2).2.1).1 q hq;omega
   ·rcases Kd.1 hq with hq | hq
    ·exact hsort.1 q (by simp[hq])
    ·exact hsort.1 q (by simp[hq])
   ·rcases Kd.1 hq with hq | hq<;>simp[hq]
  have an:WS os j=true→∀ n∈Xx oj,∀ q∈js++ks,Qk (Vs os q) [n]=true:=fun am n hn q hq=>by
   obtain⟨_,h6,h7⟩:=ak q hq;exact aa am ae (by omega) h7 hn
  have ao:WS os i=true→∀ n∈Xx oi,∀ q∈js++ks,Qk (Vs os q) [n]=true:=fun am n hn q hq=>by
   obtain⟨_,h6,h7⟩:=ak q hq;rcases Kd.1 hq with hq | hq
   ·obtain⟨oq,a3,ap,_⟩:=hj q (by simp[hq]);simp only[QW,Kb] at ap;have h5:=ap.1.1;simp only[Vs,a3];cases hd:oq.dst with
    | none=>rfl
    | some d=>
     rw[hd] at h5;simp only[Qk,KF,KD,KH] at h5 ⊢;intro e;simp at e;exact h5 (e ▸ hn)
   ·have:=(Lr.1 (Lf.1 hsort.2).2.1).1 q hq;exact aa am ab (by omega) h7 hn
  have ai:∀ {o:CO} {n:Nat},n∈(Zr o.op).flatMap WR→n∈Xx o:=fun h=>Kd.2 (.inl h);have aj:∀ {o:CO} {n:Nat},n∈(Zez o.op).flatMap WR→n∈Xx o:=fun {o n} h=>by
   refine Kd.2 (.inl ?_);cases ho:o.op<;>rw[ho] at h<;>simp only[Zez,List.flatMap_nil,LG] at h
   simp only[Zr,Kw,Kd];exact .inr h
  have a4:∃ t1,Zs C M os nx i s=some t1∧∃ t2,Zs C M os nx j t1=some t2∧Q0 t2 s2:=by
   rcases a2 with ⟨aw,ay⟩ | ⟨aw,az,k1,k5,k6⟩ | ⟨aw,az,k0,k1,k2,k3,k4,k5,k6⟩
   case inr.inl=>
    obtain⟨t,ht⟩:=ah k5 ab;refine ZmO ab ae az au ad k1 ht ?_ h1 h2;rw[ht] at k6;simp only[okD] at k6;rw[av t (fun q hq=>?_) k6]
    ·exact k6
    ·obtain⟨h5,_,h7⟩:=ak q hq;exact ag k5 ab ht h5 h7
   case inr.inr=>
    obtain⟨t,ht⟩:=ah k5 ab;refine Zlx hM ab ae az a0 au (af k4 ab) (af k3 ae) ad hs hfi (hfj j (by simp)) k1 k2 ?_ ht h1 h2;refine(Zlw k0 k1 k6).move (fun n hn=>av n (ao k4 n (ai hn))) (fun n hn=>av n fun q hq=>?_) (fun n hn=>av n (an k3 n (aj hn)));obtain⟨h5,_,h7⟩:=ak q hq;exact ag k5 ab hn h5 h7
   cases az:ZD os i with
   | false=>exact ZoC ab ae az aw a0 au ad hs hfi (hfj j (by simp)) h1 h2
   | true=>
    rcases ay az with hc | ⟨am,hl⟩ | ⟨bc,bd⟩ | ⟨k1,k5,k6⟩ | ⟨k0,k1,k2,k3,k4,k5,k6⟩
    case inr.inr.inr.inl=>
     obtain⟨t,ht⟩:=ah k5 ae;refine ZmN ab ae aw au ad k1 ht ?_ h1 h2;rw[ht] at k6;simp only[okD] at k6;rw[av t (fun q hq=>?_) k6]
     ·exact k6
     ·obtain⟨_,h6,h7⟩:=ak q hq;exact ag k5 ae ht (by omega) h7
    case inr.inr.inr.inr=>
     obtain⟨t,ht⟩:=ah k5 ae;refine ZmM hM ab ae aw a0 au (af k3 ae) (af k4 ab) ad hs hfi (hfj j (by simp)) k1 k2 ?_ ht h1 h2;refine(Zlw k0 k1 k6).move (fun n hn=>av n (an k3 n (ai hn))) (fun n hn=>av n fun q hq=>?_) (fun n hn=>av n (ao k4 n (aj hn)));obtain⟨_,h6,h7⟩:=ak q hq;exact ag k5 ae hn (by omega) h7
    ·exact ZoG ab ae hc aw a0 au ad hs hfi (hfj j (by simp)) h1 h2
    ·refine ZmL ab ae az aw a0 au ad hs hfi (hfj j (by simp)) ⟨am,?_⟩ h1 h2;rcases hl with hl | ⟨be,bf,bg,al⟩
     ·exact .inl hl
     ·refine .inr ⟨be,?_⟩;have a5:∀ x∈Zr oi.op,okW (evO r.1 x)=true→evO s.1 x=evO r.1 x:=by
       intro x hx ax;cases x with
       | v a=>rfl
       | f n=>rfl
       | t n=>
        simp only[evO] at ax ⊢;have hn:n∈Xx oi:=by
         rw[Xx];exact Kd.2 (.inl (Kl.2 ⟨.t n,hx,KG.2 rfl⟩))
        refine Zj2 a1 (fun q hq=>?_) ax;rcases Kd.1 hq with hq | hq
        ·obtain⟨oq,a3,ap,_⟩:=hj q hq;simp only[QW,Kb] at ap;have h5:=ap.1.1;simp only[Vs,a3];cases hd:oq.dst with
         | none=>rfl
         | some d=>
          rw[hd] at h5;simp only[Qk,KF,KD,KH] at h5 ⊢;intro e;simp at e;exact h5 (e ▸ hn)
        ·refine aa bg ab ?_ (hlt q (Kd.2 (.inr hq))) hn;rcases Ke.1 hq with rfl | hq
         ·omega
         ·have:=Lf.1 hsort.2;have:=(Lr.1 this.2.1).1 q hq;omega
      have a7:∀ id,Qq r.1 id (Zr oj.op)=true→Qq s.1 id (Zr oj.op)=true:=by
       intro id bh;have bi:∀ xs:List Opd,(∀ z∈xs,z∈Zr oj.op)→Qq r.1 id xs=true→Qq s.1 id xs=true:=by
        intro xs
        induction xs with
        | nil=>intro _ _;rfl
        | cons z zs ihz=>
         intro a6 hz;simp only[Qq,Kb] at hz ⊢;refine⟨?_,ihz (fun z' bj=>a6 z' (by simp[bj])) hz.2⟩;cases z with
         | v a=>exact hz.1
         | f n=>exact hz.1
         | t n=>
          simp only[evO] at hz ⊢;have hn:n∈Xx oj:=by
           rw[Xx];exact Kd.2 (.inl (Kl.2 ⟨.t n,a6 (.t n) (KW ..),KG.2 rfl⟩))
          rw[Zp7 a1 (fun q hq=>?_) (ZrG hz.1)]
          ·exact hz.1
          ·refine aa bf ae ?_ (hlt q hq) hn;rcases Kd.1 hq with hq | hq
           ·rcases Ke.1 hq with rfl | hq
            ·omega
            ·have:=hsort.1 q (by simp[hq]);omega
           ·have:=hsort.1 q (by simp only[Kd];exact .inr hq);omega
       exact bi _ (fun _ h=>h) bh
      cases ho:oi.op<;>rw[ho] at am al<;>first | (cases am;done) | skip
      case store slc sz x y=>
       simp only[Zdr,Kb] at al ⊢;obtain⟨al,ar⟩:=al;have ax:okV (evO r.1 x)=true:=by
        cases ht:XT (evO r.1 x) with
        | none=>rw[ht] at al;simp[Zau] at al
        | some id=>cases hv:evO r.1 x<;>rw[hv] at ht<;>simp only[XT] at ht<;>first | (cases ht;done) | rfl
       rw[a5 x (by rw[ho];simp[Zr]) (ZfE ax)];constructor
       ·cases ht:XT (evO r.1 x) with
        | none=>rw[ht] at al;simp[Zau] at al
        | some id=>rw[ht] at al;exact a7 id al
       ·by_cases hp:∃ b1 b2 b3 b4,evO r.1 x=.prow b1 b2 b3 b4
        ·obtain⟨b1,b2,b3,b4,hp⟩:=hp;rw[hp] at ar ⊢;rcases ZeY ar with ⟨d,hv⟩ | hv
         ·rw[a5 y (by rw[ho];simp[Zr]) (by rw[hv];rfl),hv];rfl
         ·rw[a5 y (by rw[ho];simp[Zr]) (ZfE hv.1)];exact ZoF ⟨hv.1,ZgJ a7 hv.2⟩
        ·exact Zj3 fun b1 b2 b3 b4 e=>hp ⟨b1,b2,b3,b4,e⟩
      case append sz by_ str flat x y=>
       simp only[Zdr,Kb,K1] at al ⊢;obtain⟨ar,aq⟩:=al;constructor
       ·have ax:okW (evO r.1 x)=true:=by
         cases hv:evO r.1 x<;>rw[hv] at ar<;>first | rfl | (cases ar;done) | skip
         case tup vs=>cases vs<;>first | rfl | cases ar
        rw[a5 x (by rw[ho];simp[Zr]) ax];cases hv:evO r.1 x<;>rw[hv] at ar<;>first | (cases ar;done) | exact a7 _ ar | skip
        ·rfl
        case tup vs=>cases vs<;>first | rfl | cases ar
       ·rcases aq with aq | aq
        ·exact .inl aq
        ·right
         have ax:okW (evO r.1 y)=true:=by
          unfold seenSrc at aq;split at aq
          ·rename_i k hk;rw[hk];rfl
          ·exact ZfE aq
         rw[a5 y (by rw[ho];simp[Zr]) ax];unfold seenSrc at aq ⊢;split at aq
         ·exact a7 _ aq
         ·exact aq
    ·exact ZoI ab ae aw au bc bd h1 h2
  obtain⟨t1,g1,t2,g2,g3⟩:=a4;obtain⟨r3,g4,g5⟩:=ZgG g3.symm h3;refine⟨t1,g1,r3,?_,g5.symm.trans h4⟩;simp only[KL,Zab,g2,Zc];exact g4
def rem (n:Nat) (listed:Array Bool):List Nat:=(List.range n).filter fun i=>!listed.getD i true
theorem ZbK {n:Nat} {aa:Array Bool} {i:Nat}:i∈rem n aa↔i<n∧aa.getD i true=false:=by
 simp[rem]
theorem ZgP (n:Nat) (aa:Array Bool):(rem n aa).Pairwise (· < ·):=List.Pairwise.filter _ List.pairwise_lt_range
theorem ZrJ {n:Nat} {aa:Array Bool} (ad:aa.size=n) (i:Nat):rem n (aa.setIfInBounds i true)=(rem n aa).filter fun j=>j != i:=by
 simp only[rem,List.filter_filter];refine List.filter_congr fun j hj=>?_;have ae:j<n:=K6.1 hj;by_cases ab:i=j
 ·subst ab;simp[ad,ae]
 ·simp[Array.getElem?_setIfInBounds_ne ab,Ne.symm ab]
def ZiJ (nx:Nat) (listed:Array Bool) (id:Nat):Prop:=id<nx∨∃ k,listed.getD k false=true∧nx+64*k≤id∧id<nx+64*k+64
theorem Vb {l:Array Bool} {k:Nat} (h:l.getD k false=true):k<l.size∧l.getD k true=true:=by
 rcases KK k l.size with h1 | h1
 ·refine⟨h1,?_⟩;simp[h1] at h ⊢;exact h
 ·simp[Array.getElem?_eq_none h1] at h
theorem ZgQ {nx i:Nat} {aa:Array Bool} (h:aa.getD i true=false):QD (ZiJ nx aa) (nx+64*i):=by
 intro id h1 h2 hu;rcases hu with hu | ⟨k,hk,h3,h4⟩
 ·omega
 ·have ab:k≠i:=fun e=>by subst e;rw[(Vb hk).2] at h;cases h
  rcases Lk ab with h5 | h5<;>omega
theorem ZgR {nx i:Nat} {aa:Array Bool} (hi:i<aa.size):∀ id,V0 (ZiJ nx aa) (nx+64*i) id→ZiJ nx (aa.setIfInBounds i true) id:=by
 rintro id ((h | ⟨k,hk,h1⟩) | h)
 ·exact .inl h
 ·exact .inr ⟨k,getD_set_true hk,h1⟩
 ·exact .inr ⟨i,by simp[hi],h.1,h.2⟩
end
end Go.Abs
