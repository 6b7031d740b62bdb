/- Own text. -/
import Derived.Test.YtnachaiejoflhaaAbsDrawD
set_option linter.unusedVariables false
set_option linter.unusedSimpArgs false
namespace Go.Abs
open Go
section
variable {P:Program} {nt:Nat}
theorem ZhC {α β:Type} {f:α→Option β}:∀ {l:List α} {r:List β},Qa f l=some r→∀ (i:Nat) (x:α),l[i]?=some x→∃ y,r[i]?=some y∧f x=some y
 | [],r,h,i,x,hx=>by simp at hx
 | a :: l,r,h,i,x,hx=>by
  simp only[Qa] at h;obtain⟨y,h1,h⟩:=Za h;obtain⟨ys,h2,h⟩:=Za h;cases h;cases i with
  | zero=>simp at hx;subst hx;exact⟨y,by simp,h1⟩
  | succ i=>simp at hx;obtain⟨z,h3,h4⟩:=ZhC h2 i x hx;exact⟨z,by simpa using h3,h4⟩
theorem JG {α β:Type} {f:α→Option β}:∀ {l:List α} {r:List β},Qa f l=some r→r.length=l.length
 | [],r,h=>by simp only[Qa] at h;cases h;rfl
 | a :: l,r,h=>by
  simp only[Qa] at h;obtain⟨y,h1,h⟩:=Za h;obtain⟨ys,h2,h⟩:=Za h;cases h;simp[JG h2]
theorem Zox {C:Orc} {M:Zj} (hC:Qb P C) {ops:Array Oper} {os:List CO} (ad:Qa (Zgz P nt ops.toList) ops.toList=some os) {nx i:Nat} {s s' : Sl×Hp} {U:Nat→Prop} (hs:Zdv nt s U) (hf:QD U (nx+64*i))
  (h:Zw C M os nx i s=some s'):Zdv nt s' (WA U (nx+64*i)):=by
 obtain⟨F,A,I,Γ,a,w,aa⟩:=hs;unfold Zw at h;obtain⟨co,ae,h⟩:=Za h;have ag:i<ops.toList.length:=by rw[← JG ad];exact(Kc.1 ae).1
 obtain⟨am,h1,h2⟩:=ZhC ad i ops.toList[i] (Kl ag);rw[ae] at h1;cases h1;obtain⟨hg,ah,ab,af⟩:=Zd8 h2;unfold ZD at h;obtain⟨b,hw,h⟩:=Za h;cases b with
 | true=>
  simp only[Kj] at h;obtain⟨ce,ai,aj,rfl⟩:=QK h;have ak:=Zor hC aa ah hf ab aj (ZaF ai) (fun a' w'=>∃ F A I Γ a w,Sim nt F A I Γ (WA U (nx+64*i)) (ce.on co.dst s.1 s.2).1 (ce.on co.dst s.1 s.2).2 a w) (fun _ _ _=>False) fun u w' hp=>by
   obtain⟨I1,Γ1,b1,b2,b3,b4,b5⟩:=hp;rw[← af] at b5;exact⟨F,A,I1,Γ1,_,_,b5⟩
  obtain⟨_,_,al⟩:=Oper.wp_ex ak;exact al
 | false=>
  simp only[Ka,Ki] at h;cases h;obtain⟨I1,Γ1,b1,b2,b3,b4,b5⟩:=aa.pure (U':=WA U (nx+64*i)) (v:=.tup []) (u:=undef) (dst:=co.dst) (fun id hu=>.inl hu) ZfQ (by rw[af];exact ab);exact⟨F,A,I1,Γ1,_,_,b5⟩
theorem Zks {U:Nat→Prop} {nx i j:Nat} (aa:i≠j) (h:QD U (nx+64*i)):QD (WA U (nx+64*j)) (nx+64*i):=by
 intro id h1 h2 hu;rcases hu with hu | hu
 ·exact h id h1 h2 hu
 ·rcases Lk aa with h3 | h3<;>omega
theorem Zs9 {id:Nat} {v:AV} (h:Jc id v=true):okV v=true:=by
 cases v with
 | tup vs=>cases vs with
  | nil=>rfl
  | cons x r=>cases h
 | _=>first | rfl | cases h
def okW (v:AV):Bool:=okV v
theorem Zg6 {v:AV} (h:okV v=true):okW v=true:=h
theorem ZrD {g:List Nat} {v:AV} (h:okW (kill g v)=true):kill g v=v:=UR h
theorem Zta {C:Orc} {M:Zj} {os:List CO} {nx q n:Nat} {s r:Sl×Hp} (h:Zw C M os nx q s=some r) (hd:Qn (VL os q) [n]=true) (hk:okW (gs r.1 n)=true):gs s.1 n=gs r.1 n:=by
 unfold Zw at h;obtain⟨o,ho,h⟩:=Za h;have aa:o.dst≠some n:=by
  intro e;simp[VL,ho,e,Qn] at hd
 unfold ZD at h;obtain⟨b,_,h⟩:=Za h;cases b with
 | true=>
  simp only[Kj] at h;obtain⟨ce,_,_,rfl⟩:=QK h;have e1:gs (ce.on o.dst s.1 s.2).1 n=kill ce.gone (gs s.1 n):=by
   show gs (Zl (QA ce.gone s.1) o.dst ce.eff.val) n=_;rw[Z8,Kn aa,Qp]
  rw[e1] at hk ⊢;exact(ZrD hk).symm
 | false=>
  simp only[Ka,Ki] at h;cases h;show gs s.1 n=gs (Zl s.1 o.dst (.tup [])) n;rw[Z8,Kn aa]
theorem Zls {C:Orc} {M:Zj} {os:List CO} {nx n:Nat}:∀ {l:List Nat} {s r:Sl×Hp},ZaR C M os nx l s=some r→(∀ q∈l,Qn (VL os q) [n]=true)→okW (gs r.1 n)=true→gs s.1 n=gs r.1 n
 | [],s,r,h,_,_=>by simp only[ZaR] at h;cases h;rfl
 | i :: l,s,r,h,hd,hk=>by
  simp only[ZaR] at h;obtain⟨s1,h1,h⟩:=Za h;have h2:=Zls h (fun q hq=>hd q (by simp[hq])) hk;rw[← h2] at hk ⊢;exact Zta h1 (hd i (by simp)) hk
theorem ZrE {C:Orc} {M:Zj} {os:List CO} {nx n:Nat} {l:List Nat} {s r:Sl×Hp} (h:ZaR C M os nx l s=some r) (hd:∀ q∈l,Qn (VL os q) [n]=true) (hk:okV (gs r.1 n)=true):gs s.1 n=gs r.1 n:=Zls h hd (Zg6 hk)
theorem Zoy {C:Orc} {M:Zj} {sl:Sl} {hp:Hp} {base:Nat} {c:COp} {ce:Zb} (hc:Zo0 c=true) (h:vop C M sl hp base c=some ce):Je (vop C M sl hp base c)=some ce:=by
 rw[h];have aa:ce.gone=[]∧ce.eff.sets=[]∧ce.eff.dels=[]∧ce.eff.frz=[]:=by
  have o1:∀ {v:AV},Qr v=some ce→ce.gone=[]∧ce.eff.sets=[]∧ce.eff.dels=[]∧ce.eff.frz=[]:=fun h=>by cases h;exact⟨rfl,rfl,rfl,rfl⟩
  have o2:∀ {v:Option AV},Yg v=some ce→ce.gone=[]∧ce.eff.sets=[]∧ce.eff.dels=[]∧ce.eff.frz=[]:=fun h=>by obtain⟨v,_,h⟩:=Za h;exact o1 h
  cases c<;>simp only[Zo0,Ka] at hc<;>simp only[vop] at h
  case stuck=>cases h
  case move x=>exact o1 h
  case assign s x=>
   unfold Za0 at h;split at h
   ·obtain⟨s,_,h⟩:=Za h;cases h;exact⟨rfl,rfl,rfl,rfl⟩
   ·exact o1 h
  case pick c a b=>
   unfold Zce at h;split at h
   ·split at h<;>exact o1 h
   ·cases h
  case alloc slc cs=>
   unfold Zcf Zh2 at h;split at h
   ·split at h<;>first | (cases h;done) | (cases h;exact⟨rfl,rfl,rfl,rfl⟩)
   ·split at h<;>(cases h;exact⟨rfl,rfl,rfl,rfl⟩)
  case box x=>
   unfold ZqR at h;split at h
   ·cases h;exact⟨rfl,rfl,rfl,rfl⟩
   ·cases h
  case build zs ps=>obtain⟨cs,_,h⟩:=Za h;exact o1 h
  case load g s a=>exact o2 h
  case nilCheck x=>unfold WM at h;split at h<;>first | exact o1 h | cases h
  case bin op eq x y=>
   unfold Zh4 at h;split at h
   ·split at h
    ·exact o2 h
    ·cases h
   ·exact o2 h
  case un op x=>exact o2 h
  case eqA neg n x y=>
   unfold ZlL at h;split at h
   ·obtain⟨r,_,h⟩:=Za h;exact o1 h
   ·cases h
  case convI k x=>unfold Go.Abs.convI at h;split at h<;>first | exact o1 h | cases h
  case convS x=>unfold Go.Abs.convS at h;split at h<;>first | exact o1 h | cases h
  case fn f cs=>exact o2 h
  case make s b z l c=>
   obtain⟨l,_,h⟩:=Za h;obtain⟨c,_,h⟩:=Za h;unfold ZkJ at h;split at h
   ·cases h;exact⟨rfl,rfl,rfl,rfl⟩
   ·cases h
  case slice s x lo hi=>exact o2 h
  case sliceS x lo hi=>exact o2 h
  case slice0 x hi mx=>exact o2 h
  case slice3 s x lo hi mx=>exact o2 h
  case shift off x=>unfold YD at h;split at h<;>first | exact o1 h | cases h
  case part g s off x=>exact o2 h
  case iaS s x i=>
   obtain⟨n,_,h⟩:=Za h;unfold ZdE at h;split at h
   ·exact o2 h
   ·cases h
  case iaA len s x i=>
   obtain⟨n,_,h⟩:=Za h;unfold Zh6 at h;split at h
   ·unfold YD at h;split at h<;>first | exact o1 h | cases h
   ·cases h
  case ixS x i=>
   obtain⟨n,_,h⟩:=Za h;unfold ZoQ at h;split at h
   ·unfold Zne at h;split at h
    ·obtain⟨b,_,h⟩:=Za h;exact o1 h
    ·cases h
   ·cases h
  case ixA g s len x i=>
   obtain⟨n,_,h⟩:=Za h;unfold ZqT at h;split at h
   ·exact o2 h
   ·cases h
  case nth i x=>unfold Znf at h;split at h<;>first | exact o2 h | cases h
  case len x=>obtain⟨n,_,h⟩:=Za h;exact o1 h
  case lenS x=>obtain⟨n,_,h⟩:=Za h;exact o1 h
  case min x y=>unfold Zgw at h;split at h<;>first | (split at h<;>first | exact o1 h | cases h) | cases h
  case max x y=>unfold Zgx at h;split at h<;>first | (split at h<;>first | exact o1 h | cases h) | cases h
 simp only[Je,Zc,aa.1,aa.2.1,aa.2.2.1,aa.2.2.2,Zbb]
theorem Zqr {C:Orc} {M:Zj} {nx i:Nat} {o:CO} (hc:Zo0 o.op=true) (s:Sl×Hp):ZD C M nx i true o s=ZD C M nx i false o s:=by
 unfold ZD;have:Yt C M nx i true o.op s.1 s.2=Yt C M nx i false o.op s.1 s.2:=by
  unfold Yt;simp only[Kj,Ka,Ki];cases h:vop C M s.1 s.2 (nx+64*i) o.op with
  | none=>rfl
  | some ce=>rw[← h,Zoy hc h,h]
 rw[this]
theorem vop_read {C:Orc} {M:Zj} {sl:Sl} {hp hp' : Hp} {base:Nat} {c:COp} (hc:Wa c=true) (h:∀ x∈Zv c,∀ k∈Zo (evO sl x),lkp hp k=lkp hp' k):vop C M sl hp base c=vop C M sl hp' base c:=by
 have len:∀ v:AV,(∀ k∈Zo v,lkp hp k=lkp hp' k)→JX hp v=JX hp' v:=fun v hv=>by
  cases v<;>simp only[JX]
  case d x=>cases x<;>rfl
  case own id=>rw[hv id (by simp[Zo,Zs,Zi])]
 cases c<;>simp only[Wa,Ka] at hc<;>simp only[Zv] at h<;>simp only[vop]
 case load g s a=>
  have:=h a (by simp);cases hv:evO sl a<;>rw[hv] at this<;>simp only[Vc]
  case ptr id off=>rw[this id (by simp[Zo,Zs,Zi])]
  case prow id sz i off=>rw[this id (by simp[Zo,Zs,Zi])]
 case slice s x lo hi=>
  have:=h x (by simp);cases hv:evO sl x<;>rw[hv] at this<;>simp only[Yf]
  case d x=>cases x<;>rfl
  case own id=>rw[this id (by simp[Zo,Zs,Zi])]
  case ownv id off n=>rw[this id (by simp[Zo,Zs,Zi])]
 case slice0 x hi mx=>
  unfold slice0;rw[len _ (h x (by simp))]
 case iaS s x i=>
  congr 1
  funext n
  simp only[ZdE];have:=h x (by simp);cases hv:evO sl x<;>rw[hv] at this<;>simp only[Qd]
  case d x=>cases x<;>rfl
  case own id=>rw[this id (by simp[Zo,Zs,Zi])]
  case ownv id off n=>rw[this id (by simp[Zo,Zs,Zi])]
 case len x=>rw[len _ (h x (by simp))]
theorem Zkt {A B:Hp} (hd:∀ k x y,(k,x)∈A→(k,y)∈B→False) (hp:Hp) (id:Nat):lkp (Zd (Zd hp A) B) id=lkp (Zd (Zd hp B) A) id:=by
 have aa:∀ (l:Hp) (hp hp' : Hp),lkp hp id=lkp hp' id→lkp (Zd hp l) id=lkp (Zd hp' l) id:=by
  intro l
  induction l with
  | nil=>intro hp hp' h;exact h
  | cons q r ih=>
   intro hp hp' h;obtain⟨k,x⟩:=q;simp only[Zd];exact ih _ _ (by rw[Z7,Z7,h])
 by_cases h1:∃ o,(id,o)∈A
 ·have h2:∀ o,(id,o)∉B:=fun o ho=>by
   obtain⟨o',ab⟩:=h1;exact hd id o' o ab ho
  rw[Zu B _ id h2];exact aa A _ _ (Zu B hp id h2).symm
 ·have h2:∀ o,(id,o)∉A:=fun o ho=>h1 ⟨o,ho⟩;rw[Zu A _ id h2];exact aa B _ _ (Zu A hp id h2)
theorem ZmR {hp:Hp} {v:AV} {q:D×Bool×List Nat} (h:Uw hp v=some q):∀ i∈q.2.2,i∈Zi v:=by
 intro i hi;cases v<;>simp only[Uw] at h<;>first | (cases h;simp at hi;done) | (cases h;done) | skip
 obtain⟨p,_,h⟩:=Za h;cases h;simpa [Zi] using hi
theorem Zgg {hp:Hp}:∀ {vs:List AV} {q:List D×Bool×List Nat},Yi hp vs=some q→∀ i∈q.2.2,i∈vs.flatMap Zi
 | [],q,h,i,hi=>by simp only[Yi] at h;cases h;simp at hi
 | v :: vs,q,h,i,hi=>by
  simp only[Yi] at h;obtain⟨q1,h1,h⟩:=Za h;obtain⟨q2,h2,h⟩:=Za h;split at h
  ·cases h;rcases Kd.1 hi with hi | hi
   ·exact Kk.2 ⟨v,by simp,ZmR h1 i hi⟩
   ·obtain⟨c,hc,aa⟩:=Kk.1 (Zgg h2 i hi);exact Kk.2 ⟨c,by simp[hc],aa⟩
  ·cases h
theorem ZmS {hp:Hp} {n:Nat} {v:AV} {q:D×List Nat} (h:Zb9 hp n v=some q):∀ i∈q.2,i∈Zi v:=by
 unfold Zb9 at h;split at h
 ·split at h
  ·cases h;simp
  ·cases h
 ·cases h;simp
 ·unfold Zc2 at h;split at h
  ·split at h
   ·cases h;simp[Zi]
   ·cases h
  ·split at h
   ·cases h;simp[Zi]
   ·cases h
  ·cases h
 ·cases h
theorem Zgh {hp:Hp} {n:Nat}:∀ {vs:List AV} {q:List D×List Nat},YB hp n vs=some q→∀ i∈q.2,i∈vs.flatMap Zi
 | [],q,h,i,hi=>by simp only[YB] at h;cases h;simp at hi
 | v :: vs,q,h,i,hi=>by
  simp only[YB] at h;obtain⟨q1,h1,h⟩:=Za h;obtain⟨q2,h2,h⟩:=Za h;split at h
  ·cases h;rcases Kd.1 hi with hi | hi
   ·exact Kk.2 ⟨v,by simp,ZmS h1 i hi⟩
   ·obtain⟨c,hc,aa⟩:=Kk.1 (Zgh h2 i hi);exact Kk.2 ⟨c,by simp[hc],aa⟩
  ·cases h
theorem Zqs {hp:Hp} {slc:List (Option Nat)} {s base:Nat} {vs:List AV} {x:AV} {e:Eff} (h:Uo hp slc s base vs x=some e):∃ id o,X1 x=some id∧e.val=.junk∧e.sets=[(id,o)]∧(∀ k∈e.dels,k∈vs.flatMap Zi∧∃ a b c d,x=.prow a b c d)∧∀ i∈e.frz,i∈vs.flatMap Zi:=by
 cases x<;>simp only[Uo] at h<;>first | cases h | skip
 case ptr id off=>
  unfold Zb8 at h;split at h
  ·split at h
   ·split at h<;>(cases h;exact⟨id,_,rfl,rfl,rfl,fun i hi=>by simp at hi,fun i hi=>by simp at hi⟩)
   ·cases h
  ·cases h
 case prow id sz i off=>
  unfold UX at h;split at h
  ·split at h
   ·obtain⟨x,_,h⟩:=Za h;obtain⟨q,hq,h⟩:=Za h;unfold Zc1 at h;split at h
    ·cases h;exact⟨id,_,rfl,rfl,rfl,fun i hi=>by simp at hi,Zgg hq⟩
    ·cases h
   ·cases h
  ·split at h
   ·obtain⟨x,_,h⟩:=Za h;obtain⟨q,hq,h⟩:=Za h;unfold Zc3 at h;split at h
    ·cases h;exact⟨id,_,rfl,rfl,rfl,fun k hk=>⟨Zgh hq k hk,_,_,_,_,rfl⟩,fun i hi=>by simp at hi⟩
    ·cases h
   ·cases h
  ·cases h
def FzEq (o o' : Option Zk):Prop:=∃ b:Bool,o'=o.map fun x=>if b then XM x else x
theorem FzEq.seen {o o' : Option Zk} (h:FzEq o o'):US [] o o':=by
 obtain⟨b,rfl⟩:=h;have hk:∀ x:Zk,QH [] x=x:=fun x=>by
  cases x with
  | box cs=>simp only[QH];congr 1;rw[KB (g:=id) (fun a _=>Zar a),Lb]
  | row _ _ _ _=>rfl
  | gone=>rfl
  | tree _ _ _ l=>rcases l with _ | ⟨_ | _,_⟩<;>simp[QH,Yv]
 have:=Zm0 (g:=[]) (b:=b) o;have e:(o.map (QH []))=o:=by cases o<;>simp[hk]
 rw[e] at this;exact this
theorem vop_fz {C:Orc} {M:Zj} {sl:Sl} {hp hp' : Hp} {base:Nat} {c:COp} (hc:Wa c=true) (h:∀ x∈Zv c,∀ k∈Zo (evO sl x),FzEq (lkp hp k) (lkp hp' k)):vop C M sl hp' base c=vop C M sl hp base c:=by
 have hs:∀ x∈Zv c,ZeE [] hp hp' (evO sl x):=fun x hx k hk=>(h x hx k hk).seen;cases c<;>simp only[Wa,Ka] at hc<;>simp only[Zv] at h hs<;>simp only[vop]
 case load g s a=>
  have h1:=h a (by simp);have h2:=hs a (by simp);cases hv:evO sl a<;>rw[hv] at h1 h2<;>simp only[Vc]
  case ptr id off=>
   obtain⟨b,e⟩:=h1 id (by simp[Zo,Zs,Zi]);rw[e];cases lkp hp id with
   | none=>rfl
   | some o=>cases o<;>cases b<;>rfl
  case prow id sz i off=>
   obtain⟨b,e⟩:=h1 id (by simp[Zo,Zs,Zi]);rw[e];cases lkp hp id with
   | none=>rfl
   | some o=>cases o<;>cases b<;>rfl
 case slice s x lo hi=>rw[Zb1 (hs x (by simp))]
 case slice0 x hi mx=>unfold slice0;rw[Zau (hs x (by simp))]
 case iaS s x i=>
  congr 1
  funext n
  simp only[ZdE];rw[Un (hs x (by simp))]
 case len x=>rw[Zau (hs x (by simp))]
def ZeB (sl:Sl) (a:COp):COp→Bool
 | .store _ _ x y=>Zba sl a (X1 (evO sl x))&&Yh sl a (evO sl x) (evO sl y)
 | .append _ _ _ flat x y=>Wb sl a (evO sl x)&&(flat || seenSrc sl a (evO sl y))
 | _=>false
def LooseS (s:Sl) (a b:COp):Prop:=Zih b=true∧(YE a=true∨(Wa a=true∧ZeB s a b=true))
theorem ZbZ {sl:Sl} {id:Nat}:∀ {xs:List Opd},Qt sl id xs=true→∀ x∈xs,Jc id (evO sl x)=true
 | [],_,x,hx=>by simp at hx
 | y :: ys,h,x,hx=>by
  simp only[Qt,Kb] at h;rcases Kf.1 hx with rfl | hx
  ·exact h.1
  ·exact ZbZ h.2 x hx
theorem Zgi {sl:Sl} {xs:List Opd}:∀ {ks:List Nat},Q5 sl xs ks=true→∀ k∈ks,Qt sl k xs=true
 | [],_,k,hk=>by simp at hk
 | j :: r,h,k,hk=>by
  simp only[Q5,Kb] at h;rcases Kf.1 hk with rfl | hk
  ·exact h.1
  ·exact Zgi h.2 k hk
theorem Zgj {sl:Sl} {a:COp} {b1 b2 b3 b4:Nat} {v:AV} (h:Yh sl a (.prow b1 b2 b3 b4) v=true):(∃ d,v=.d d)∨(okV v=true∧Q5 sl (Zv a) (Zo v)=true):=by
 cases v<;>first | exact .inl ⟨_,rfl⟩ | (simp only[Yh,Kb] at h;exact .inr h)
theorem Zqt {sl:Sl} {a:COp} {b1 b2 b3 b4:Nat} {v:AV} (h:okV v=true∧Q5 sl (Zv a) (Zo v)=true):Yh sl a (.prow b1 b2 b3 b4) v=true:=by
 cases v<;>first | rfl | (simp only[Yh,Kb];exact h)
theorem Zlt {sl:Sl} {a:COp} {x v:AV} (hx:∀ a b c d,x≠.prow a b c d):Yh sl a x v=true:=by
 cases x<;>first | rfl | exact absurd rfl (hx _ _ _ _)
theorem ZhD {sl sl' : Sl} {xs:List Opd} (h:∀ k,Qt sl k xs=true→Qt sl' k xs=true):∀ {ks:List Nat},Q5 sl xs ks=true→Q5 sl' xs ks=true
 | [],_=>rfl
 | j :: r,hh=>by
  simp only[Q5,Kb] at hh ⊢;exact⟨h j hh.1,ZhD h hh.2⟩
theorem ZhE {id:Nat} {v:AV} (h:Jc id v=true):id∉Zo v:=by
 cases v with
 | tup vs=>cases vs with
  | nil=>simp[Zo]
  | cons x r=>cases h
 | _=>simp[Jc,Zo,Zs,Zi] at h ⊢ <;> exact fun e=>h e.symm
theorem Zoz {hp:Hp} {sz by_ base:Nat} {str flat:Bool} {x y:AV} {e:Eff} (h:V6 hp sz by_ str flat base x y=some e):e.sets=[]∧e.frz=[]∧((x=.nil∧e.dels=[])∨∃ id,e.dels=[id]∧(x=.own id∨∃ o n,x=.ownv id o n)):=by
 unfold V6 at h;obtain⟨q,_,h⟩:=Za h;split at h
 ·cases x<;>simp only[ZdD] at h<;>first | (cases h;done) | skip
  ·split at h
   ·cases h;exact⟨rfl,rfl,.inl ⟨rfl,rfl⟩⟩
   ·cases h
  ·split at h
   ·cases h
   ·unfold Zh1 at h;split at h
    ·split at h
     ·cases h;exact⟨rfl,rfl,.inr ⟨_,rfl,.inl rfl⟩⟩
     ·cases h
    ·cases h
  ·split at h
   ·cases h
   ·split at h
    ·unfold ZeK at h;split at h
     ·split at h
      ·cases h;exact⟨rfl,rfl,.inr ⟨_,rfl,.inr ⟨_,_,rfl⟩⟩⟩
      ·cases h
     ·cases h
    ·unfold ZeJ at h;split at h
     ·split at h
      ·cases h;exact⟨rfl,rfl,.inr ⟨_,rfl,.inr ⟨_,_,rfl⟩⟩⟩
      ·cases h
     ·cases h
 ·cases h
theorem ZhF {hp:Hp} {x:AV} {k:Nat} (h:k∈Q0 hp x):x=.own k:=by
 unfold Q0 at h;split at h
 ·split at h
  ·simp at h;subst h;rfl
  ·simp at h
 ·simp at h
theorem ZmT {hp:Hp} {sz by_ base:Nat} {str flat:Bool} {x y:AV} {e:Eff}:∀ {ms:List Nat},(∀ k∈ms,x=.own k∨y=.own k)→XO hp sz by_ str flat base x y ms=some e→e.frz=[] ∧
  e.sets=[]∧∀ k∈e.dels,(x=.own k∨∃ o n,x=.ownv k o n)∨(flat=false∧y=.own k):=by
 have plain:∀ {hp' : Hp} {e:Eff},V6 hp' sz by_ str flat base x y=some e→e.sets=[]∧e.frz=[]∧∀ k∈e.dels,x=.own k∨∃ o n,x=.ownv k o n:=by
  intro hp' e h;obtain⟨g1,g2,g3⟩:=Zoz h;refine⟨g1,g2,fun k hk=>?_⟩;rcases g3 with ⟨_,g3⟩ | ⟨id,g3,g4⟩
  ·rw[g3] at hk;simp at hk
  ·rw[g3] at hk;simp at hk;subst hk;exact g4
 intro ms hm h;cases ms with
 | nil=>
  simp only[XO] at h;obtain⟨g1,g2,g3⟩:=plain h;exact⟨g2,g1,fun k hk=>.inl (g3 k hk)⟩
 | cons i r=>
  simp only[XO] at h;split at h
  ·cases h
  ·rename_i aa;obtain⟨e0,h1,h⟩:=Za h;cases h;obtain⟨g1,g2,g3⟩:=plain h1;refine⟨g2,g1,fun k hk=>?_⟩;rcases Kd.1 hk with hk | hk
   ·exact .inl (g3 k hk)
   ·rcases hm k hk with hk | hk
    ·exact .inl (.inl hk)
    ·exact .inr ⟨by simpa using aa,hk⟩
theorem ZrF {hp:Hp} {sz by_ base:Nat} {x y:AV} {ce:Zb} (h:appT hp sz by_ base x y=some ce):ce.gone=[]∧ce.eff.frz=[]∧ce.eff.sets=[]∧∀ k∈ce.eff.dels,x=.own k∨y=.own k:=by
 unfold appT at h;obtain⟨e,h1,h⟩:=Za h;cases h;obtain⟨q,h2,h1⟩:=Za h1;have hy:y=.own q.1:=by
  unfold JK at h2;split at h2
  ·obtain⟨q2,_,h2⟩:=Za h2;cases h2;rfl
  ·cases h2
 split at h1
 ·cases x<;>simp only[UE] at h1<;>first | (cases h1;done) | skip
  ·split at h1
   ·cases h1;exact⟨rfl,rfl,rfl,fun k hk=>by simp at hk;subst hk;exact .inr hy⟩
   ·cases h1
  ·obtain⟨q3,_,h1⟩:=Za h1;split at h1
   ·cases h1;refine⟨rfl,rfl,rfl,fun k hk=>?_⟩;simp at hk;rcases hk with rfl | rfl
    ·exact .inl rfl
    ·exact .inr hy
   ·cases h1
 ·cases h1
theorem ZmU {hp:Hp} {sz by_ base:Nat} {str flat:Bool} {x y:AV} {ce:Zb} (h:Zng hp sz by_ str flat base x y=some ce):ce.gone=[]∧ce.eff.frz=[] ∧
  ce.eff.sets=[]∧∀ k∈ce.eff.dels,(x=.own k∨∃ o n,x=.ownv k o n)∨(flat=false∧y=.own k):=by
 have kx:∀ k∈Q0 hp x,x=.own k∨y=.own k:=fun k hk=>.inl (ZhF hk);have ky:∀ k∈Q0 hp y,x=.own k∨y=.own k:=fun k hk=>.inr (ZhF hk);have melt:∀ {ms:List Nat},(∀ k∈ms,x=.own k∨y=.own k)→ZbQ (XO hp sz by_ str flat base x y ms)=some ce→ce.gone=[]∧ce.eff.frz=[] ∧
   ce.eff.sets=[]∧∀ k∈ce.eff.dels,(x=.own k∨∃ o n,x=.ownv k o n)∨(flat=false∧y=.own k):=by
  intro ms hm h;obtain⟨e,h1,h⟩:=Za h;cases h;exact⟨rfl,ZmT hm h1⟩
 unfold Zng at h;generalize Q0 hp x=mx at h kx;generalize Q0 hp y=my at h ky;cases mx with
 | nil=>exact melt ky h
 | cons i r=>
  cases my with
  | nil=>exact melt kx h
  | cons j t=>
   simp only[J3] at h;split at h
   ·cases h
   ·rename_i hc;obtain⟨g1,g2,g3,g4⟩:=ZrF h;have hf:flat=false:=by cases flat<;>simp_all
    exact⟨g1,g2,g3,fun k hk=>(g4 k hk).elim (fun e=>.inl (.inl e)) fun e=>.inr ⟨hf,e⟩⟩
theorem ZhG {ds:List Nat} {l:Hp} {k:Nat} (h:k∈ds):lkp (ZV l ds) k=none:=by
 cases hl:lkp (ZV l ds) k with
 | none=>rfl
 | some o=>exact absurd h (VE ds l k o hl).2
theorem Ztb {C:Orc} {M:Zj} {sl:Sl} {hp:Hp} {base:Nat} {c:COp} {ce:Zb} (hc:Zih c=true) (h:vop C M sl hp base c=some ce) :
  ce.gone=[]∧(∀ k,k∈ce.eff.dels∨(∃ o,(k,o)∈ce.eff.sets)→(∃ x∈Zv c,k∈Zo (evO sl x))∧∀ a,ZeB sl a c=true→Qt sl k (Zv a)=true)∧∀ k∈ce.eff.frz,∃ x∈Zv c,k∈Zo (evO sl x):=by
 cases c<;>first | (cases hc;done) | skip
 case store slc sz x y=>
  simp only[vop,ZbQ] at h;obtain⟨e,h7,h⟩:=Za h;cases h;obtain⟨id,o,ht,g1,g2,g3,g4⟩:=Zqs h7;refine⟨rfl,fun k hk=>?_,fun k hk=>⟨y,by simp[Zv],Zht (U:=fun k=>k∈Zo (evO sl y)) (fun _ h=>h) k (g4 k hk)⟩⟩;rcases hk with hk | ⟨o',hk⟩
  ·obtain⟨k1,b1,b2,b3,b4,k2⟩:=g3 k hk;have k3:=Zht (U:=fun k=>k∈Zo (evO sl y)) (fun _ h=>h) k k1;refine⟨⟨y,by simp[Zv],k3⟩,fun a ha=>?_⟩;simp only[ZeB,Kb,k2] at ha;rcases Zgj ha.2 with ⟨d,hv⟩ | hv
   ·rw[hv] at k3;simp[Zo,Zs,Zi] at k3
   ·exact Zgi hv.2 k k3
  ·simp only[g2,KU,Prod.mk.injEq] at hk;have aa:=hk.1;subst aa;refine⟨⟨x,by simp[Zv],?_⟩,fun a ha=>?_⟩
   ·cases hv:evO sl x<;>rw[hv] at ht<;>simp only[X1] at ht<;>cases ht<;>simp[Zo,Zs,Zi]
   ·simp only[ZeB,Kb,ht,Zba] at ha;exact ha.1
 case append sz by_ str flat x y=>
  simp only[vop] at h;obtain⟨g0,g2,g1,g3⟩:=ZmU h;refine⟨g0,fun k hk=>?_,fun k hk=>by simp only[g2,LJ] at hk⟩;have ab:k∈ce.eff.dels:=by
   rcases hk with hk | ⟨o',hk⟩
   ·exact hk
   ·simp only[g1,LJ] at hk
  rcases g3 k ab with g4 | ⟨g4,g5⟩
  ·refine⟨⟨x,by simp[Zv],?_⟩,fun a ha=>?_⟩
   ·rcases g4 with g4 | ⟨o,n,g4⟩<;>rw[g4]<;>simp[Zo,Zs,Zi]
   ·simp only[ZeB,Kb] at ha;rcases g4 with g4 | ⟨o,n,g4⟩<;>rw[g4] at ha<;>exact ha.1
  ·refine⟨⟨y,by simp[Zv],by rw[g5];simp[Zo,Zs,Zi]⟩,fun a ha=>?_⟩;simp only[ZeB,Kb,g4,Bool.false_or] at ha;rw[g5] at ha;exact ha.2
theorem ZoA {C:Orc} {M:Zj} {os:List CO} {nx i j:Nat} {oi oj:CO} (ae:os[i]?=some oi) (ak:os[j]?=some oj) (ar:ZK os i=true) (am:ZK os j=false) (a3:i≠j) (au:QN oj oi=true)
  (an:∀ (k:Nat) (o:CO),os[k]?=some o→∀ x∈Zv o.op,XC x=true) {s s1 s2:Sl×Hp} {U:Nat→Prop} (hs:Zdv nt s U) (a4:QD U (nx+64*i)) (av:QD U (nx+64*j)) (hl:LooseS s.1 oj.op oi.op)
  (h1:Zw C M os nx j s=some s1) (h2:Zw C M os nx i s1=some s2):∃ t1,Zw C M os nx i s=some t1∧∃ t2,Zw C M os nx j t1=some t2∧QX t2 s2:=by
 obtain⟨F,A,I,Γ,a,w,ag⟩:=hs;simp only[QN,Kb] at au;obtain⟨⟨aw,ax⟩,al⟩:=au;have good:∀ (k:Nat) (o:CO),os[k]?=some o→∀ x∈Zv o.op,Zez U (evO s.1 x):=by
  intro k o ho x hx;cases x with
  | t n=>exact ag.good n
  | v y=>exact V0 (an k o ho _ hx)
  | f n=>exact⟨fun id a5=>by simp[evO,Zo,Zs] at a5,fun f a6 h c hc=>by cases h;simp at hc⟩
 simp only[Zw,ak,Zc,am] at h1;simp only[Zw,ae,Zc,ar] at h2;obtain⟨vj,aj,rfl,ao,ay⟩:=ZdU h1;obtain⟨a7,hl⟩:=hl;unfold ZD at h2;obtain⟨b,hw,h2⟩:=Za h2;have az : ZM s.1 oi.guard=some b:=by rw[← hw];exact(Qc aw).symm
 cases b with
 | false=>
  simp only[Ka,Ki] at h2;cases h2;refine⟨(Zl s.1 oi.dst (.tup []),s.2),by simp only[Zw,ae,Zc,ZD,az,Ka,Ki],?_⟩;have e2:=ay (Zl s.1 oi.dst (.tup []),s.2) (Qc al) (QB C M s.2 (nx+64*j) (Yy (o:=oj) al));exact⟨(Zl (Zl s.1 oi.dst (.tup [])) oj.dst vj,Zd s.2 aj),by simp only[Zw,ak,Zc,am];exact e2,fun t=>(Va ax vj (.tup []) t).symm,fun id=>rfl⟩
 | true=>
  simp only[Kj] at h2;obtain⟨ce,h3,h4,rfl⟩:=QK h2;have a0 : vop C M s.1 s.2 (nx+64*i) oi.op=some ce:=by
   have h5:=ZaF h3;rw[← h5,QB C M (Zd s.2 aj) (nx+64*i) (Yy (o:=oi) aw)];exact WI (ag.agree (Yz av ao s.2)) C M _ (good i oi ae)
  have aa:=VO h4;obtain⟨k1,k2,k3⟩:=Ztb a7 a0;obtain⟨e,gn⟩:=ce;simp only at k1 k2 k3;subst k1;have ap:∀ k∈e.frz,U k:=fun k hk=>by
   obtain⟨x,hx,hk⟩:=k3 k hk;exact(good i oi ae x hx).1 k hk
  have ah:∀ k,k∈e.dels∨(∃ o,(k,o)∈e.sets)→U k:=fun k hk=>by
   obtain⟨⟨x,hx,hk⟩,_⟩:=k2 k hk;exact(good i oi ae x hx).1 k hk
  have ai:∀ s:Sl×Hp,Zb.on { eff:=e,gone:=[] } oi.dst s.1 s.2=(Zl s.1 oi.dst e.val,Zd (Zd (ZV (Z1 e.frz s.2) e.dels) e.sets) e.adds):=by
   intro s;rfl
  refine⟨Zb.on { eff:=e,gone:=[] } oi.dst s.1 s.2,?_,?_⟩
  ·simp only[Zw,ae,Zc,ZD,az,Kj,Xq,ar,Yt];rw[a0,Zc,Kt h4]
  ·have ab:∀ k,U k→¬(k∈e.dels∨∃ o,(k,o)∈e.sets)→FzEq (lkp s.2 k) (lkp (Zd (Zd (ZV (Z1 e.frz s.2) e.dels) e.sets) e.adds) k):=by
    intro k hk aq;rw[not_or] at aq;rw[← Yz a4 aa _ k hk,Zu _ _ k (fun o ho=>aq.2 ⟨o,ho⟩),Ve _ _ k aq.1,ZU];exact⟨_,rfl⟩
   have e2:ZD C M nx j false oj (Zb.on { eff:=e,gone:=[] } oi.dst s.1 s.2)=some (Zl (Zb.on { eff:=e,gone:=[] } oi.dst s.1 s.2).1 oj.dst vj,Zd (Zb.on { eff:=e,gone:=[] } oi.dst s.1 s.2).2 aj):=by
    rw[ai];refine ay (Zl s.1 oi.dst e.val,Zd (Zd (ZV (Z1 e.frz s.2) e.dels) e.sets) e.adds) (Qc al) ?_;rw[QB C M _ (nx+64*j) (Yy (o:=oj) al)];rcases hl with hl | ⟨a8,a9⟩
    ·exact ZeF hl
    ·refine vop_fz a8 fun z hz k hk=>?_;refine ab k ((good j oj ak z hz).1 k hk) fun hp=>?_;exact ZhE (ZbZ ((k2 k hp).2 _ a9) z hz) hk
   refine⟨_,by simp only[Zw,ak,Zc,am];exact e2,fun t=>?_,fun k=>?_⟩
   ·rw[ai,ai (Zl s.1 oj.dst vj,Zd s.2 aj)];exact(Va ax vj e.val t).symm
   ·rw[ai,ai (Zl s.1 oj.dst vj,Zd s.2 aj)];show lkp (Zd (Zd (Zd (ZV (Z1 e.frz s.2) e.dels) e.sets) e.adds) aj) k=lkp (Zd (Zd (ZV (Z1 e.frz (Zd s.2 aj)) e.dels) e.sets) e.adds) k;have a1:∀ (B:Hp) (hp hp' : Hp),(∀ k,lkp hp k=lkp hp' k)→∀ k,lkp (Zd hp B) k=lkp (Zd hp' B) k:=fun B hp hp' h=>Uz B h;have ad:∀ k,U k→∀ o',(k,o')∉aj:=fun k hk o' af=>by
     have:=ao k o' af;exact av k this.1 this.2 hk
    rw[Zkt (A:=e.adds) (B:=aj) (fun k x y hx hy=>by
     have:=aa k x hx;have:=ao k y hy;rcases Lk a3 with h | h<;>omega)]
    refine a1 e.adds _ _ (fun k=>?_) k;rw[Zkt (A:=e.sets) (B:=aj) (fun k x y hx hy=>ad k (ah k (.inr ⟨x,hx⟩)) y hy) (ZV (Z1 e.frz s.2) e.dels) k];refine a1 e.sets _ _ (fun k=>?_) k;by_cases hd:k∈e.dels
    ·rw[Zu aj _ k (ad k (ah k (.inl hd))),ZhG hd,ZhG hd]
    ·rw[Ve _ _ k hd];rw[ZU];by_cases hk:∃ o',(k,o')∈aj
     ·obtain⟨o',af⟩:=hk;rw[UU (hp':=s.2) ⟨o',af⟩];have a':k∉e.frz:=fun hf=>ad k (ap k hf) o' af;cases lkp (Zd s.2 aj) k<;>simp[a']
     ·have a2 : ∀ o',(k,o')∉aj:=fun o' af=>hk ⟨o',af⟩;rw[Zu aj _ k a2,Zu aj _ k a2,Ve _ _ k hd,ZU]
theorem Zqu {C:Orc} {M:Zj} {os:List CO} {nx i j:Nat} {oi oj:CO} (ab:os[i]?=some oi) (ad:os[j]?=some oj) (ae:Zo0 oi.op=true) (af:ZK os j=false) (ag:i≠j) (ah:QN oj oi=true)
  (aa:∀ (k:Nat) (o:CO),os[k]?=some o→∀ x∈Zv o.op,XC x=true) {s s1 s2:Sl×Hp} {U:Nat→Prop} (hs:Zdv nt s U) (ai:QD U (nx+64*i)) (aj:QD U (nx+64*j))
  (h1:Zw C M os nx j s=some s1) (h2:Zw C M os nx i s1=some s2):∃ t1,Zw C M os nx i s=some t1∧∃ t2,Zw C M os nx j t1=some t2∧QX t2 s2:=by
 have e:∀ s:Sl×Hp,Zw C M os nx i s=ZD C M nx i false oi s:=fun s=>by
  simp only[Zw,ab,Zc];cases ZK os i
  ·rfl
  ·exact Zqr ae s
 rw[e] at h2;simp only[e];exact ZhB ab ad af ag ah aa hs ai aj h1 h2
theorem Zlu {hp:Hp} {base s:Nat} {vs:List AV} {ce:Zb} (h:buildSl hp base s vs=some ce):ce.gone=[]:=by
 cases vs with
 | nil=>simp only[buildSl,Qr] at h;first | (cases h;rfl) | (split at h<;>first | (cases h;rfl) | cases h)
 | cons v r=>
  simp only[buildSl] at h;obtain⟨q,_,h⟩:=Za h;unfold ZqS at h;split at h
  ·cases h;rfl
  ·cases h
theorem ZmV {C:Orc} {M:Zj} {sl:Sl} {hp:Hp} {base:Nat} {c:COp} {ce:Zb} (hc:Za8 c=true) (h:vop C M sl hp base c=some ce):ce.gone=[]:=by
 cases c<;>first | (cases hc;done) | skip
 ·simp only[vop] at h;exact Zlu h
 ·simp only[vop] at h;exact(ZmU h).1
theorem Zqv {C:Orc} {M:Zj} {nx j:Nat} {oj:CO} {s s1:Sl×Hp} (hm:XD oj.op=true) (h:ZD C M nx j false oj s=some s1) :
  ∃ v,s1=(Zl s.1 oj.dst v,s.2)∧∀ aa : Sl×Hp,ZM aa.1 oj.guard=ZM s.1 oj.guard→(∀ x∈Zv oj.op,evO aa.1 x=evO s.1 x)→ZD C M nx j false oj aa=some (Zl aa.1 oj.dst v,aa.2):=by
 obtain⟨x,hx⟩:∃ x,oj.op=.move x:=by
  cases ho:oj.op<;>rw[ho] at hm<;>first | (cases hm;done) | exact⟨_,rfl⟩
 unfold ZD at h ⊢;obtain⟨b,hw,h⟩:=Za h;cases b with
 | true=>
  simp only[Kj,hx,Yt,Ka,Ki,vop] at h;refine⟨evO s.1 x,?_,fun aa g1 g2=>?_⟩
  ·cases h;rfl
  ·rw[g1,hw,Zc];have e:=g2 x (by rw[hx];simp[Zv]);simp only[Kj,hx,Yt,Ka,Ki,vop,e];rfl
 | false=>
  simp only[Ka,Ki] at h;cases h;refine⟨.tup [],rfl,fun aa g1 g2=>?_⟩;rw[g1,hw,Zc];rfl
theorem Zqw {C:Orc} {M:Zj} {os:List CO} {nx i j:Nat} {oi oj:CO} (ad:os[i]?=some oi) (ae:os[j]?=some oj) (af:ZK os j=false) (ah:QN oj oi=true)
  {s s1 s2:Sl×Hp} (hm:XD oj.op=true) (hg:Za8 oi.op=true)
  (h1:Zw C M os nx j s=some s1) (h2:Zw C M os nx i s1=some s2):∃ t1,Zw C M os nx i s=some t1∧∃ t2,Zw C M os nx j t1=some t2∧QX t2 s2:=by
 simp only[QN,Kb] at ah;obtain⟨⟨ai,aj⟩,ab⟩:=ah;simp only[Zw,ae,Zc,af] at h1;simp only[Zw,ad,Zc] at h2;obtain⟨vj,rfl,ak⟩:=Zqv hm h1;unfold ZD at h2;obtain⟨b,hw,h2⟩:=Za h2;have al : ZM s.1 oi.guard=some b:=by rw[← hw];exact(Qc ai).symm
 cases b with
 | false=>
  simp only[Ka,Ki] at h2;cases h2;refine⟨(Zl s.1 oi.dst (.tup []),s.2),by simp only[Zw,ad,Zc,ZD,al,Ka,Ki],?_⟩;exact⟨(Zl (Zl s.1 oi.dst (.tup [])) oj.dst vj,s.2),by simp only[Zw,ae,Zc,af];exact ak (Zl s.1 oi.dst (.tup []),s.2) (Qc ab) (Yy (o:=oj) ab),fun t=>(Va aj vj (.tup []) t).symm,fun id=>rfl⟩
 | true=>
  simp only[Kj] at h2;obtain⟨ce,h3,h4,rfl⟩:=QK h2;have aa:=ZmV hg (ZaF h3);have am : Yt C M nx i (ZK os i) oi.op s.1 s.2=some ce:=by
   rw[← h3];unfold Yt;rw[QB C M s.2 (nx+64*i) (Yy (o:=oi) ai)]
  have ag:∀ (sl:Sl) (hp:Hp),ce.on oi.dst sl hp=(Zl sl oi.dst ce.eff.val,ce.eff.on hp):=by
   intro sl hp;unfold Zb.on;rw[aa];rfl
  refine⟨ce.on oi.dst s.1 s.2,?_,?_⟩
  ·simp only[Zw,ad,Zc,ZD,al,Kj,Xq];rw[am,Zc,Kt h4]
  ·rw[ag];refine⟨(Zl (Zl s.1 oi.dst ce.eff.val) oj.dst vj,ce.eff.on s.2),by simp only[Zw,ae,Zc,af];exact ak (Zl s.1 oi.dst ce.eff.val,ce.eff.on s.2) (Qc ab) (Yy (o:=oj) ab),fun t=>?_,fun k=>?_⟩
   ·rw[ag];exact(Va aj vj ce.eff.val t).symm
   ·rw[ag]
theorem awayV_ptr {sl:Sl} {xs:List Opd} {v:AV} (h:Jd sl xs v=true) {k off:Nat} (e:v=.ptr k off):∀ z∈xs,k∉Zo (evO sl z):=by
 subst e;exact fun z hz=>ZhE (ZbZ h z hz)
structure ZhH (r:Sl) (oX oY:CO):Prop where
 opd:∀ x∈Zv oX.op,okV (evO r x)=true
 dst:∀ t,oX.dst=some t→okV (gs r t)=true
 arg:∀ y∈ZfI oY.op,okV (evO r y)=true
 away:∀ y∈ZfI oY.op,∀ k off,evO r y=.ptr k off→∀ z∈Zv oX.op,k∉Zo (evO r z)
theorem Zlv {sl:Sl}:∀ {xs:List Opd},okL sl xs=true→∀ x∈xs,okV (evO sl x)=true
 | [],_,x,hx=>by simp at hx
 | y :: ys,h,x,hx=>by
  simp only[okL,Kb] at h;rcases Kf.1 hx with rfl | hx
  ·exact h.1
  ·exact Zlv h.2 x hx
theorem Zku {sl:Sl} {xs:List Opd}:∀ {ys:List Opd},Zci sl xs ys=true→∀ y∈ys,Jd sl xs (evO sl y)=true
 | [],_,x,hx=>by simp at hx
 | y :: ys,h,x,hx=>by
  simp only[Zci,Kb] at h;rcases Kf.1 hx with rfl | hx
  ·exact h.1
  ·exact Zku h.2 x hx
theorem ZmW {r:Sl} {oX oY:CO} (hm:XD oX.op=false) (hc:W0 oY.op=true) (h:VD r oX.dst oX.op oY.op=true):ZhH r oX oY:=by
 obtain⟨f,as,ho⟩:∃ f as,oY.op=.call (.f f) as:=by
  cases ho:oY.op<;>rw[ho] at hc<;>first | (cases hc;done) | skip
  rename_i f as;cases f<;>first | (cases hc;done) | exact⟨_,_,rfl⟩
 rw[ho] at h;have h' : (okL r (Zv oX.op)&&(okD r oX.dst&&(okL r as&&Zci r (Zv oX.op) as)))=true:=by
  cases hx:oX.op<;>rw[hx] at h hm<;>first | (cases hm;done) | exact h
 simp only[Kb] at h';obtain⟨h1,h2,h3,h4⟩:=h';refine⟨Zlv h1,fun t ht=>?_,?_,?_⟩
 ·rw[ht] at h2;exact h2
 ·rw[ho];exact Zlv h3
 ·rw[ho];intro y hy k off e;exact awayV_ptr (Zku h4 y hy) e
theorem ZhH.move {r r' : Sl} {oX oY:CO} (h:ZhH r oX oY) (h1:∀ n∈(Zv oX.op).flatMap Up,okV (gs r n)=true→gs r' n=gs r n) (h2:∀ n,oX.dst=some n→okV (gs r n)=true→gs r' n=gs r n)
  (h3:∀ n∈(ZfI oY.op).flatMap Up,okV (gs r n)=true→gs r' n=gs r n):ZhH r' oX oY:=by
 have e1:∀ x∈Zv oX.op,evO r' x=evO r x:=fun x hx=>by
  have ho:=h.opd x hx;cases x with
  | t n=>exact h1 n (Kk.2 ⟨_,hx,by simp[Up]⟩) ho
  | _=>rfl
 have e3:∀ x∈ZfI oY.op,evO r' x=evO r x:=fun x hx=>by
  have ho:=h.arg x hx;cases x with
  | t n=>exact h3 n (Kk.2 ⟨_,hx,by simp[Up]⟩) ho
  | _=>rfl
 refine⟨fun x hx=>by rw[e1 x hx];exact h.opd x hx,fun t ht=>by rw[h2 t ht (h.dst t ht)];exact h.dst t ht,fun x hx=>by rw[e3 x hx];exact h.arg x hx,fun y hy k off e z hz=>?_⟩;rw[e3 y hy] at e;rw[e1 z hz];exact h.away y hy k off e z hz
theorem ZhI {C:Orc} {M:Zj} (hM:∀ f,M f 99=false) {os:List CO} {nx x y:Nat} {oX oY:CO} (ay:os[x]?=some oX) (a1:os[y]?=some oY) (a2:x≠y) (ak:Qn oY.dst (XA oX)=true) (aw:Qn oX.dst (XA oY)=true)
  (ad:Qn oX.dst (XA oX)=true) (al:Qn oY.dst (XA oY)=true)
  (ar:∀ (k:Nat) (o:CO),os[k]?=some o→∀ x∈Zv o.op,XC x=true) {s:Sl×Hp} {r:Sl} {U:Nat→Prop} (hs:Zdv nt s U) (a3:QD U (nx+64*x)) (a4:QD U (nx+64*y))
  (ae:W0 oY.op=true) {ce:Zb} (a5:vop C M s.1 s.2 (nx+64*y) oY.op=some ce) (a6:Qx (nx+64*y) (nx+64*y+64) ce.eff.adds=true)
  (am:∀ n,oX.dst≠some n→oY.dst≠some n→gs r n=kill ce.gone (gs s.1 n)) (aa:ZhH r oX oY) :
  ce.eff.dels=[]∧(∀ z∈Zv oX.op,evO (ce.on oY.dst s.1 s.2).1 z=evO s.1 z)∧(∀ z∈Zv oX.op,∀ id∈Zo (evO s.1 z),id∉ce.gone)∧(∀ z∈Zv oX.op,ZeE ce.gone s.2 (ce.on oY.dst s.1 s.2).2 (evO s.1 z)) ∧
  (∀ k,nx+64*x≤k→k<nx+64*x+64→(∀ o',(k,o')∉ce.eff.sets)∧(∀ o',(k,o')∉ce.eff.adds)∧k∉ce.eff.frz∧k∉ce.gone):=by
 obtain⟨F,A,I,Γ,a,w,au⟩:=hs;have good:∀ (k:Nat) (o:CO),os[k]?=some o→∀ x∈Zv o.op,Zez U (evO s.1 x):=by
  intro k o ho x hx;cases x with
  | t n=>exact au.good n
  | v y=>exact V0 (ar k o ho _ hx)
  | f n=>exact⟨fun id av=>by simp[evO,Zo,Zs] at av,fun f a7 h c hc=>by cases h;simp at hc⟩
 obtain⟨f,as,ho⟩:∃ f as,oY.op=.call (.f f) as:=by
  cases ho:oY.op<;>rw[ho] at ae<;>first | (cases ae;done) | skip
  rename_i f as;cases f<;>first | (cases ae;done) | exact⟨_,_,rfl⟩
 have an:=a5;rw[ho] at an;simp only[vop,evO,J4,List.append_nil] at an;obtain⟨k1,k2,k3,k4⟩:=ZqG an (hM _);have ab:∀ n,(Opd.t n)∈Zv oX.op→n∈XA oX:=fun n hn=>Kd.2 (.inl (Kk.2 ⟨_,hn,by simp[Up]⟩));have ai:∀ n,(Opd.t n)∈as→n∈XA oY:=fun n hn=>Kd.2 (.inl (Kk.2 ⟨.t n,by rw[ho];simp[Zv,hn],by simp[Up]⟩));have ne:∀ {d:Option Nat} {l:List Nat} {n:Nat},Qn d l=true→n∈l→d≠some n:=fun {d l n} h hn e=>by
  rw[e] at h;simp only[Qn,KH,KC,KL] at h;exact h hn
 have ax:∀ z∈Zv oX.op,evO r z=evO s.1 z∧∀ id∈Zo (evO s.1 z),id∉ce.gone:=by
  intro z hz;have af:=aa.opd z hz;cases z with
  | t n=>
   have e:=am n (ne ad (ab n hz)) (ne ak (ab n hz));simp only[evO] at af ⊢;rw[e] at af ⊢;have:=UR af;exact⟨this,ZrH this⟩
  | v c=>
   have:=ar x oX ay _ hz;simp only[XC,Kb,List.isEmpty_iff] at this;exact⟨rfl,fun id av=>by simp only[evO] at av;rw[this.1] at av;simp at av⟩
  | f n=>simp only[evO,okV,okC] at af;cases af
 have az:∀ z∈as,evO r z=evO s.1 z:=by
  intro z hz;have af:=aa.arg z (by rw[ho];exact hz);cases z with
  | t n=>
   have e:=am n (ne aw (ai n hz)) (ne al (ai n hz));simp only[evO] at af ⊢;rw[e] at af ⊢;exact UR af
  | _=>rfl
 have a0:∀ id,(∃ o,lkp s.2 id=some o)→U id:=fun id ⟨o,h⟩=>au.id_in h;have uX:∀ k,nx+64*x≤k→k<nx+64*x+64→¬U k:=fun k h1 h2=>a3 k h1 h2;have aj:=VO a6;have ag:∀ z∈Zv oX.op,∀ k∈Zo (evO s.1 z),∀ o',(k,o')∉ce.eff.sets:=by
  intro z hz k hk o' ao;rcases (k4 k o' ao).2 with h | ⟨v,hv,ap⟩
  ·exact(ax z hz).2 k hk h
  ·obtain⟨y',aq,rfl⟩:=ZcV hv;have ah:=aa.arg y' (by rw[ho];exact aq);rw[az y' aq] at ah;cases hp:evO s.1 y' with
   | ptr a b=>
    rw[hp] at ap;simp only[WC,KU] at ap;subst ap;have:=aa.away y' (by rw[ho];exact aq) k b (by rw[az y' aq,hp]) z hz;rw[(ax z hz).1] at this;exact this hk
   | clo g cs=>rw[hp] at ah;simp only[okV,okC] at ah;cases ah
   | _=>rw[hp] at ap;simp[WC] at ap
 refine⟨k1,fun z hz=>?_,fun z hz=>(ax z hz).2,fun z hz k hk=>?_,fun k g1 g2=>⟨fun o' ao=>?_,fun o' ao=>?_,fun hf=>?_,fun hg=>?_⟩⟩
 ·cases z with
  | t n=>
   show gs (Zl (QA ce.gone s.1) oY.dst ce.eff.val) n=gs s.1 n;rw[Z8,Kn (ne ak (ab n hz)),Qp];have e:=am n (ne ad (ab n hz)) (ne ak (ab n hz));have:=aa.opd _ hz;simp only[evO] at this;rw[e] at this;exact UR this
  | _=>rfl
 ·have a8:U k:=(good x oX ay z hz).1 k hk;show US ce.gone (lkp s.2 k) (lkp (ce.eff.on (Yq ce.gone s.2)) k);unfold Eff.on;rw[k1];simp only[ZV];rw[Zu,Zu,ZU,Yw]
  ·exact Zm0 _
  ·exact ag z hz k hk
  ·intro o' ao;obtain⟨h1,h2⟩:=aj k o' ao;exact a4 k h1 h2 a8
 ·exact uX k g1 g2 (a0 k (k4 k o' ao).1)
 ·have:=aj k o' ao;rcases Lk a2 with h | h<;>omega
 ·obtain⟨v,hv,ap⟩:=k2 k hf;obtain⟨y',aq,rfl⟩:=ZcV hv;exact uX k g1 g2 ((good y oY a1 y' (by rw[ho];simp[Zv,aq])).1 k ap)
 ·exact uX k g1 g2 (a0 k (k3 k hg))
theorem ZoB {C:Orc} {M:Zj} (hM:∀ f,M f 99=false) {os:List CO} {nx i j:Nat} {oi oj:CO} (ah:os[i]?=some oi) (av:os[j]?=some oj) (az:ZK os j=false) (a0:i≠j) (aw:QN oj oi=true)
  (ad:Qn oj.dst (XA oj)=true) (ae:Qn oi.dst (XA oi)=true)
  (ai:∀ (k:Nat) (o:CO),os[k]?=some o→∀ x∈Zv o.op,XC x=true) {s s1 s2:Sl×Hp} {U:Nat→Prop} (hs:Zdv nt s U) (a1:QD U (nx+64*i)) (ap:QD U (nx+64*j))
  (aj:W0 oi.op=true) (a2:Zij oj.op=true) (aa:ZhH s2.1 oj oi) {t:Nat} (ht:oj.dst=some t)
  (h1:Zw C M os nx j s=some s1) (h2:Zw C M os nx i s1=some s2):∃ t1,Zw C M os nx i s=some t1∧∃ t2,Zw C M os nx j t1=some t2∧QX t2 s2:=by
 have a3:=hs;obtain⟨F,A,I,Γ,a,w,af⟩:=a3;simp only[QN,Kb] at aw;obtain⟨⟨am,an⟩,ao⟩:=aw;have good:∀ (k:Nat) (o:CO),os[k]?=some o→∀ x∈Zv o.op,Zez U (evO s.1 x):=by
  intro k o ho x hx;cases x with
  | t n=>exact af.good n
  | v y=>exact V0 (ai k o ho _ hx)
  | f n=>exact⟨fun id a4=>by simp[evO,Zo,Zs] at a4,fun f a5 h c hc=>by cases h;simp at hc⟩
 have ab:∀ s:Sl×Hp,Zw C M os nx j s=ZD C M nx j false oj s:=fun s=>by simp only[Zw,av,Zc,az]
 rw[ab] at h1;simp only[Zw,ah,Zc] at h2;obtain⟨v,ax,a6,aq,hX⟩:∃ v ax,s1=(Zl s.1 oj.dst v,Zd s.2 ax)∧(∀ k x,(k,x)∈ax→nx+64*j≤k∧k<nx+64*j+64) ∧
   ((ZM s.1 oj.guard=some false∧v=.tup []∧ax=[])∨(ZM s.1 oj.guard=some true∧∃ ce,Zfv ce∧vop C M s.1 s.2 (nx+64*j) oj.op=some ce∧Qx (nx+64*j) (nx+64*j+64) ce.eff.adds=true∧v=ce.eff.val∧ax=ce.eff.adds)):=by
  rcases ZoK h1 with ⟨g1,g2⟩ | ⟨g1,ce,g2,g3,g4,g5⟩
  ·exact⟨.tup [],[],g2,fun k x h=>by simp at h,.inl ⟨g1,rfl,rfl⟩⟩
  ·exact⟨ce.eff.val,ce.eff.adds,g5,VO g4,.inr ⟨g1,ce,g2,g3,g4,rfl,rfl⟩⟩
 subst a6;unfold ZD at h2;obtain⟨b,hw,h2⟩:=Za h2;have ay : ZM s.1 oi.guard=some b:=by rw[← hw];exact(Qc am).symm
 cases b with
 | false=>
  simp only[Ka,Ki] at h2;cases h2;refine⟨(Zl s.1 oi.dst (.tup []),s.2),by simp only[Zw,ah,Zc];exact Xn ay,?_⟩;refine⟨(Zl (Zl s.1 oi.dst (.tup [])) oj.dst v,Zd s.2 ax),?_,fun t=>(Va an v (.tup []) t).symm,fun id=>rfl⟩;rw[ab];have ak:ZM (Zl s.1 oi.dst (.tup [])) oj.guard=ZM s.1 oj.guard:=Qc ao;rcases hX with ⟨g1,rfl,rfl⟩ | ⟨g1,ce,g2,g3,g4,rfl,rfl⟩
  ·exact Xn (s:=(Zl s.1 oi.dst (.tup []),s.2)) (ak.trans g1)
  ·refine ZcX (s:=(Zl s.1 oi.dst (.tup []),s.2)) (ak.trans g1) g2 ?_ g4;rw[← g3];exact QB C M s.2 (nx+64*j) (Yy (o:=oj) ao)
 | true=>
  simp only[Kj] at h2;obtain⟨ce,h3,h4,rfl⟩:=QK h2;have a7:vop C M s.1 s.2 (nx+64*i) oi.op=some ce:=by
   have h5:=ZaF h3;rw[← h5,QB C M (Zd s.2 ax) (nx+64*i) (Yy (o:=oi) am)];exact WI (af.agree (Yz ap aq s.2)) C M _ (good i oi ah)
  have a8 : Yt C M nx i (ZK os i) oi.op s.1 s.2=some ce:=by
   rw[← h3];unfold Yt;rw[QB C M (Zd s.2 ax) (nx+64*i) (Yy (o:=oi) am),WI (af.agree (Yz ap aq s.2)) C M _ (good i oi ah)]
  have ar:∀ n,oj.dst≠some n→oi.dst≠some n→gs (ce.on oi.dst (Zl s.1 oj.dst v) (Zd s.2 ax)).1 n=kill ce.gone (gs s.1 n):=fun n e1 e2=>by
   show gs (Zl (QA ce.gone (Zl s.1 oj.dst v)) oi.dst ce.eff.val) n=_;rw[Z8,Kn e2,Qp,Z8,Kn e1]
  obtain⟨c1,c2,c3,c4,c5⟩:=ZhI (nt:=nt) hM av ah (Ne.symm a0) ao am ad ae ai hs ap a1 aj a7 h4 ar aa;have e0:gs (ce.on oi.dst (Zl s.1 oj.dst v) (Zd s.2 ax)).1 t=kill ce.gone v:=by
   show gs (Zl (QA ce.gone (Zl s.1 oj.dst v)) oi.dst ce.eff.val) t=_;rw[Z8,Kn,Qp,Z8,Kt ht];intro e;rw[ht,e] at an;simp[WP] at an
  have ag:kill ce.gone v=v:=by
   have h5:=aa.dst t ht;rw[e0] at h5;exact UR h5
  have au:okV v=true:=by
   have h5:=aa.dst t ht;rw[e0,ag] at h5;exact h5
  refine⟨ce.on oi.dst s.1 s.2,?_,?_⟩
  ·simp only[Zw,ah,Zc,ZD,ay,Kj,Xq];rw[a8,Zc,Kt h4]
  ·have ak:ZM (ce.on oi.dst s.1 s.2).1 oj.guard=ZM s.1 oj.guard:=by
    show ZM (Zl (QA ce.gone s.1) oi.dst ce.eff.val) oj.guard=_;rw[Qc ao];exact ZcY fun q _=>Qp _ _ _
   have al:(∀ k o,(k,o)∈ax→QH ce.gone o=o)∧ZD C M nx j false oj (ce.on oi.dst s.1 s.2)=some (Zl (ce.on oi.dst s.1 s.2).1 oj.dst v,Zd (ce.on oi.dst s.1 s.2).2 ax):=by
    rcases hX with ⟨g1,rfl,rfl⟩ | ⟨g1,cx,g2,g3,g4,rfl,rfl⟩
    ·exact⟨fun k o h=>by simp at h,Xn (ak.trans g1)⟩
    ·obtain⟨e1,e2⟩:=ZqE a2 c2 c4 (fun k h6 h7=>(c5 k h6 h7).2.2.2) g3 g4 g2.frz au ag;exact⟨e2,ZcX (ak.trans g1) g2 e1 g4⟩
   obtain⟨e3,e4⟩:=al;refine⟨_,by rw[ab];exact e4,?_⟩;exact ZpL (ce:=ce) (dX:=oj.dst) (dY:=oi.dst) (v:=v) (ax:=ax) (s:=s) an c1 (fun k o ho=>by
    obtain⟨h6,h7⟩:=aq k o ho;obtain⟨m1,m2,m3,_⟩:=c5 k h6 h7;exact⟨m1,m2,m3⟩) e3 ag
theorem ZmX {C:Orc} {M:Zj} (hM:∀ f,M f 99=false) {os:List CO} {nx i j:Nat} {oi oj:CO} (ar:os[i]?=some oi) (ag:os[j]?=some oj) (ay:ZK os i=false) (az:i≠j) (au:QN oj oi=true)
  (ad:Qn oi.dst (XA oi)=true) (ae:Qn oj.dst (XA oj)=true)
  (ah:∀ (k:Nat) (o:CO),os[k]?=some o→∀ x∈Zv o.op,XC x=true) {s s1 s2:Sl×Hp} {U:Nat→Prop} (hs:Zdv nt s U) (av:QD U (nx+64*i)) (a0:QD U (nx+64*j))
  (ai:W0 oj.op=true) (a1:ZeV oi.op=true) (ab:ZhH s2.1 oi oj) {t:Nat} (ht:oi.dst=some t)
  (h1:Zw C M os nx j s=some s1) (h2:Zw C M os nx i s1=some s2):∃ t1,Zw C M os nx i s=some t1∧∃ t2,Zw C M os nx j t1=some t2∧QX t2 s2:=by
 have a2:=hs;obtain⟨F,A,I,Γ,a,w,aj⟩:=a2;simp only[QN,Kb] at au;obtain⟨⟨an,ao⟩,ak⟩:=au;have af : WP oi.dst oj.dst=true:=by
  cases hd:oi.dst<;>cases he:oj.dst<;>rw[hd,he] at ao<;>first | rfl | (simp only[WP,bne_iff_ne,ne_eq] at ao ⊢;exact fun e=>ao e.symm)
 have good:∀ (k:Nat) (o:CO),os[k]?=some o→∀ x∈Zv o.op,Zez U (evO s.1 x):=by
  intro k o ho x hx;cases x with
  | t n=>exact aj.good n
  | v y=>exact V0 (ah k o ho _ hx)
  | f n=>exact⟨fun id a3=>by simp[evO,Zo,Zs] at a3,fun f a4 h c hc=>by cases h;simp at hc⟩
 have aa:∀ s:Sl×Hp,Zw C M os nx i s=ZD C M nx i false oi s:=fun s=>by simp only[Zw,ar,Zc,ay]
 rw[aa] at h2;simp only[Zw,ag,Zc] at h1;unfold ZD at h1;obtain⟨b,hw,h1⟩:=Za h1;cases b with
 | false=>
  simp only[Ka,Ki] at h1;cases h1;have al:ZM (Zl s.1 oj.dst (.tup [])) oi.guard=ZM s.1 oi.guard:=Qc an;rcases ZoK h2 with ⟨g1,g2⟩ | ⟨g1,ce,g2,g3,g4,g5⟩
  ·subst g2;refine⟨(Zl s.1 oi.dst (.tup []),s.2),by rw[aa];exact Xn (al.symm.trans g1),(Zl (Zl s.1 oi.dst (.tup [])) oj.dst (.tup []),s.2),?_,fun t=>Va af _ _ t,fun id=>rfl⟩;simp only[Zw,ag,Zc];exact Xn (s:=(Zl s.1 oi.dst (.tup []),s.2)) ((Qc ak).trans hw)
  ·subst g5;refine⟨(Zl s.1 oi.dst ce.eff.val,Zd s.2 ce.eff.adds),?_,(Zl (Zl s.1 oi.dst ce.eff.val) oj.dst (.tup []),Zd s.2 ce.eff.adds),?_,fun t=>Va af _ _ t,fun id=>rfl⟩
   ·rw[aa];refine ZcX (al.symm.trans g1) g2 ?_ g4;rw[← g3];exact(QB C M s.2 (nx+64*i) (Yy (o:=oi) an)).symm
   ·simp only[Zw,ag,Zc];exact Xn (s:=(Zl s.1 oi.dst ce.eff.val,Zd s.2 ce.eff.adds)) ((Qc ak).trans hw)
 | true=>
  simp only[Kj] at h1;obtain⟨ce,h3,h4,rfl⟩:=QK h1;have a5:vop C M s.1 s.2 (nx+64*j) oj.op=some ce:=ZaF h3;have al:ZM (ce.on oj.dst s.1 s.2).1 oi.guard=ZM s.1 oi.guard:=by
   show ZM (Zl (QA ce.gone s.1) oj.dst ce.eff.val) oi.guard=_;rw[Qc an];exact ZcY fun q _=>Qp _ _ _
  obtain⟨v,ax,a6,aw,hX⟩:∃ v ax,s2=(Zl (ce.on oj.dst s.1 s.2).1 oi.dst v,Zd (ce.on oj.dst s.1 s.2).2 ax)∧(∀ k x,(k,x)∈ax→nx+64*i≤k∧k<nx+64*i+64) ∧
    ((ZM s.1 oi.guard=some false∧v=.tup []∧ax=[])∨(ZM s.1 oi.guard=some true∧∃ cx,Zfv cx∧vop C M (ce.on oj.dst s.1 s.2).1 (ce.on oj.dst s.1 s.2).2 (nx+64*i) oi.op=some cx∧Qx (nx+64*i) (nx+64*i+64) cx.eff.adds=true∧v=cx.eff.val∧ax=cx.eff.adds)):=by
   rcases ZoK h2 with ⟨g1,g2⟩ | ⟨g1,cx,g2,g3,g4,g5⟩
   ·exact⟨.tup [],[],g2,fun k x h=>by simp at h,.inl ⟨al.symm.trans g1,rfl,rfl⟩⟩
   ·exact⟨cx.eff.val,cx.eff.adds,g5,VO g4,.inr ⟨al.symm.trans g1,cx,g2,g3,g4,rfl,rfl⟩⟩
  subst a6;have ap:∀ n,oi.dst≠some n→oj.dst≠some n→gs (Zl (ce.on oj.dst s.1 s.2).1 oi.dst v) n=kill ce.gone (gs s.1 n):=fun n e1 e2=>by
   rw[Z8,Kn e1];show gs (Zl (QA ce.gone s.1) oj.dst ce.eff.val) n=_;rw[Z8,Kn e2,Qp]
  obtain⟨c1,c2,c3,c4,c5⟩:=ZhI (nt:=nt) hM ar ag az an ak ad ae ah hs av a0 ai a5 h4 ap ab;have aq:okV v=true:=by
   have h5:=ab.dst t ht;simp only[Z8,Kt ht] at h5;exact h5
  have am:kill ce.gone v=v∧(∀ k o,(k,o)∈ax→QH ce.gone o=o)∧ZD C M nx i false oi s=some (Zl s.1 oi.dst v,Zd s.2 ax):=by
   rcases hX with ⟨g1,rfl,rfl⟩ | ⟨g1,cx,g2,g3,g4,rfl,rfl⟩
   ·exact⟨rfl,fun k o h=>by simp at h,Xn g1⟩
   ·obtain⟨e1,e2,e3⟩:=ZoJ a1 c2 c4 c3 (fun k h6 h7=>(c5 k h6 h7).2.2.2) g3 g4 g2.frz aq;exact⟨e2,e3,ZcX g1 g2 e1 g4⟩
  obtain⟨hk,e3,e4⟩:=am;refine⟨(Zl s.1 oi.dst v,Zd s.2 ax),by rw[aa];exact e4,ce.on oj.dst (Zl s.1 oi.dst v) (Zd s.2 ax),?_,?_⟩
  ·simp only[Zw,ag,Zc,ZD];have a7:ZM (Zl s.1 oi.dst v) oj.guard=some true:=(Qc ak).trans hw;simp only[a7,Zc,Kj,Xq];have:Yt C M nx j (ZK os j) oj.op (Zl s.1 oi.dst v) (Zd s.2 ax)=some ce:=by
    rw[← h3];unfold Yt;rw[QB C M (Zd s.2 ax) (nx+64*j) (Yy (o:=oj) ak),← WI (aj.agree (Yz av aw s.2)) C M _ (good j oj ag)]
   rw[this,Zc,Kt h4]
  ·exact(ZpL (ce:=ce) (dX:=oi.dst) (dY:=oj.dst) (v:=v) (ax:=ax) (s:=s) af c1 (fun k o ho=>by
    obtain⟨h6,h7⟩:=aw k o ho;obtain⟨m1,m2,m3,_⟩:=c5 k h6 h7;exact⟨m1,m2,m3⟩) e3 hk).symm
theorem ZaS {C:Orc} {M:Zj} {nx j:Nat} {oj:CO} {x:Opd} (hx:oj.op=.move x) {s:Sl×Hp} {b:Bool} (hw:ZM s.1 oj.guard=some b) :
  ZD C M nx j false oj s=some (Zl s.1 oj.dst (if b then evO s.1 x else .tup []),s.2):=by
 unfold ZD;rw[hw,Zc];cases b
 ·rfl
 ·simp only[Kj,hx,Yt,Ka,Ki,vop];rfl
theorem ZoC {C:Orc} {M:Zj} {os:List CO} {nx i j:Nat} {oi oj:CO} (af:os[i]?=some oi) (am:os[j]?=some oj) (an:ZK os j=false) (ai:QN oj oi=true)
  (ao:∀ (k:Nat) (o:CO),os[k]?=some o→∀ x∈Zv o.op,XC x=true)
  {s s1 s2:Sl×Hp} (hm:XD oj.op=true) {t:Nat} (ht:oj.dst=some t) (aj:okV (gs s2.1 t)=true)
  (h1:Zw C M os nx j s=some s1) (h2:Zw C M os nx i s1=some s2):∃ t1,Zw C M os nx i s=some t1∧∃ t2,Zw C M os nx j t1=some t2∧QX t2 s2:=by
 obtain⟨x,hx⟩:∃ x,oj.op=.move x:=by
  cases ho:oj.op<;>rw[ho] at hm<;>first | (cases hm;done) | exact⟨_,rfl⟩
 simp only[QN,Kb] at ai;obtain⟨⟨ak,ad⟩,ab⟩:=ai;have aa:∀ s:Sl×Hp,Zw C M os nx j s=ZD C M nx j false oj s:=fun s=>by simp only[Zw,am,Zc,an]
 rw[aa] at h1;obtain⟨bj,ag⟩:∃ bj,ZM s.1 oj.guard=some bj:=by
  unfold ZD at h1;obtain⟨b,hw,_⟩:=Za h1;exact⟨b,hw⟩
 rw[ZaS hx ag] at h1;have h1:=(Option.some.inj h1).symm;subst h1;simp only[Zw,af,Zc] at h2;unfold ZD at h2;obtain⟨b,hw,h2⟩:=Za h2;have al : ZM s.1 oi.guard=some b:=by rw[← hw];exact(Qc ak).symm
 have ap:oi.dst≠some t:=fun e=>by rw[ht,e] at ad;simp[WP] at ad
 have ae:∀ n,x=.t n→oi.dst≠some n:=fun n e h=>by
  rw[h] at ab;simp only[Qn,KH,KC,KL] at ab;exact ab (Kd.2 (.inl (by rw[hx,e];simp[Zv,Up])))
 cases b with
 | false=>
  simp only[Ka,Ki] at h2;cases h2;refine⟨(Zl s.1 oi.dst (.tup []),s.2),by simp only[Zw,af,Zc];exact Xn al,?_⟩;refine⟨_,by rw[aa];exact ZaS (s:=(Zl s.1 oi.dst (.tup []),s.2)) hx ((Qc ab).trans ag),?_⟩;have:evO (Zl s.1 oi.dst (.tup [])) x=evO s.1 x:=Yy (o:=oj) ab x (by rw[hx];simp[Zv]);simp only[this];exact⟨fun t=>(Va ad _ _ t).symm,fun id=>rfl⟩
 | true=>
  simp only[Kj] at h2;obtain⟨ce,h3,h4,rfl⟩:=QK h2;have aq : Yt C M nx i (ZK os i) oi.op s.1 s.2=some ce:=by
   rw[← h3];unfold Yt;rw[QB C M s.2 (nx+64*i) (Yy (o:=oi) ak)]
  refine⟨ce.on oi.dst s.1 s.2,by simp only[Zw,af,Zc,ZD,al,Kj,Xq];rw[aq,Zc,Kt h4],?_⟩;have ah:ZM (ce.on oi.dst s.1 s.2).1 oj.guard=some bj:=by
   show ZM (Zl (QA ce.gone s.1) oi.dst ce.eff.val) oj.guard=_;rw[Qc ab,← ag];exact ZcY fun q _=>Qp _ _ _
  refine⟨_,by rw[aa];exact ZaS hx ah,?_⟩;have e0:gs (ce.on oi.dst (Zl s.1 oj.dst (if bj then evO s.1 x else .tup [])) s.2).1 t=kill ce.gone (if bj then evO s.1 x else .tup []):=by
   show gs (Zl (QA ce.gone (Zl s.1 oj.dst _)) oi.dst ce.eff.val) t=_;rw[Z8,Kn ap,Qp,Z8,Kt ht]
  rw[e0] at aj;have hk:=UR aj;have ev:(if bj then evO (ce.on oi.dst s.1 s.2).1 x else .tup [])=(if bj then evO s.1 x else .tup []):=by
   cases bj with
   | false=>rfl
   | true=>
    simp only[Kj] at hk ⊢;cases x with
    | t n=>
     show gs (Zl (QA ce.gone s.1) oi.dst ce.eff.val) n=gs s.1 n;rw[Z8,Kn (ae n rfl),Qp];exact hk
    | _=>rfl
  rw[ev];refine⟨fun q=>?_,fun id=>rfl⟩;show gs (Zl (Zl (QA ce.gone s.1) oi.dst ce.eff.val) oj.dst _) q=gs (Zl (QA ce.gone (Zl s.1 oj.dst _)) oi.dst ce.eff.val) q;simp only[Z8,Qp];by_cases hq:oj.dst=some q
  ·have:¬oi.dst=some q:=fun e=>by rw[hq,e] at ad;simp[WP] at ad
   simp only[hq,Kj,this,Ki];exact hk.symm
  ·simp[hq]
theorem ZoD {C:Orc} {M:Zj} {os:List CO} {nx i j:Nat} {oi oj:CO} (am:os[i]?=some oi) (ag:os[j]?=some oj) (ar:ZK os i=false) (an:QN oj oi=true)
  (ah:∀ (k:Nat) (o:CO),os[k]?=some o→∀ x∈Zv o.op,XC x=true)
  {s s1 s2:Sl×Hp} (hm:XD oi.op=true) {t:Nat} (ht:oi.dst=some t) (ai:okV (gs s2.1 t)=true)
  (h1:Zw C M os nx j s=some s1) (h2:Zw C M os nx i s1=some s2):∃ t1,Zw C M os nx i s=some t1∧∃ t2,Zw C M os nx j t1=some t2∧QX t2 s2:=by
 obtain⟨x,hx⟩:∃ x,oi.op=.move x:=by
  cases ho:oi.op<;>rw[ho] at hm<;>first | (cases hm;done) | exact⟨_,rfl⟩
 simp only[QN,Kb] at an;obtain⟨⟨ad,aj⟩,ak⟩:=an;have aa:∀ s:Sl×Hp,Zw C M os nx i s=ZD C M nx i false oi s:=fun s=>by simp only[Zw,am,Zc,ar]
 rw[aa] at h2;simp only[Zw,ag,Zc] at h1;unfold ZD at h1;obtain⟨b,hw,h1⟩:=Za h1;have af:∀ n,x=.t n→oj.dst≠some n:=fun n e h=>by
  rw[h] at ad;simp only[Qn,KH,KC,KL] at ad;exact ad (Kd.2 (.inl (by rw[hx,e];simp[Zv,Up])))
 have ao:∀ (bi:Bool) (e:evO s1.1 x=evO s.1 x∨bi=false) (g1:ZM s.1 oi.guard=some bi) (g2:ZM s1.1 oi.guard=some bi),s2=(Zl s1.1 oi.dst (if bi then evO s.1 x else .tup []),s1.2):=by
  intro bi e g1 g2;rw[ZaS hx g2] at h2;rw[← Option.some.inj h2];rcases e with e | e
  ·rw[e]
  ·rw[e];rfl
 cases b with
 | false=>
  simp only[Ka,Ki] at h1;cases h1;have ae:ZM (Zl s.1 oj.dst (.tup [])) oi.guard=ZM s.1 oi.guard:=Qc ad;obtain⟨bi,ab⟩:∃ bi,ZM s.1 oi.guard=some bi:=by
   unfold ZD at h2;obtain⟨b,hw,_⟩:=Za h2;exact⟨b,ae.symm.trans hw⟩
  have e:evO (Zl s.1 oj.dst (.tup [])) x=evO s.1 x:=Yy (o:=oi) ad x (by rw[hx];simp[Zv]);have h5:=ao bi (.inl e) ab (ae.trans ab);subst h5;refine⟨_,by rw[aa];exact ZaS hx ab,(Zl (Zl s.1 oi.dst (if bi then evO s.1 x else .tup [])) oj.dst (.tup []),s.2),?_,fun t=>?_,fun id=>rfl⟩
  ·simp only[Zw,ag,Zc];exact Xn (s:=(Zl s.1 oi.dst (if bi then evO s.1 x else .tup []),s.2)) ((Qc ak).trans hw)
  ·exact(Va aj _ _ t).symm
 | true=>
  simp only[Kj] at h1;obtain⟨ce,h3,h4,rfl⟩:=QK h1;have ae:ZM (ce.on oj.dst s.1 s.2).1 oi.guard=ZM s.1 oi.guard:=by
   show ZM (Zl (QA ce.gone s.1) oj.dst ce.eff.val) oi.guard=_;rw[Qc ad];exact ZcY fun q _=>Qp _ _ _
  obtain⟨bi,ab⟩:∃ bi,ZM s.1 oi.guard=some bi:=by
   unfold ZD at h2;obtain⟨b,hw,_⟩:=Za h2;exact⟨b,ae.symm.trans hw⟩
  have ap:=h2;rw[ZaS hx (ae.trans ab)] at ap;have h6:=Option.some.inj ap;have hv:okV (if bi then evO (ce.on oj.dst s.1 s.2).1 x else .tup [])=true:=by
   rw[← h6] at ai;simp only[Z8,Kt ht] at ai;exact ai
  have aq:kill ce.gone (if bi then evO s.1 x else .tup [])=(if bi then evO s.1 x else .tup [])∧(evO (ce.on oj.dst s.1 s.2).1 x=evO s.1 x∨bi=false):=by
   cases bi with
   | false=>exact⟨rfl,.inr rfl⟩
   | true=>
    simp only[Kj] at hv ⊢;cases x with
    | t n=>
     have e:evO (ce.on oj.dst s.1 s.2).1 (.t n)=kill ce.gone (gs s.1 n):=by
      show gs (Zl (QA ce.gone s.1) oj.dst ce.eff.val) n=_;rw[Z8,Kn (af n rfl),Qp]
     rw[e] at hv ⊢;have:=UR hv;exact⟨this,.inl this⟩
    | v c=>
     have hc:=ah i oi am (.v c) (by rw[hx];simp[Zv]);simp only[XC,Kb,List.isEmpty_iff] at hc;exact⟨ZpJ hv fun id al=>by simp only[evO] at al;rw[hc.1] at al;simp at al,.inl rfl⟩
    | f n=>simp only[evO,okV,okC] at hv;cases hv
  have h5:=ao bi aq.2 ab (ae.trans ab);subst h5;refine⟨_,by rw[aa];exact ZaS hx ab,ce.on oj.dst (Zl s.1 oi.dst (if bi then evO s.1 x else .tup [])) s.2,?_,fun q=>?_,fun id=>rfl⟩
  ·simp only[Zw,ag,Zc,ZD];have au:ZM (Zl s.1 oi.dst (if bi then evO s.1 x else .tup [])) oj.guard=some true:=(Qc ak).trans hw;simp only[au,Zc,Kj,Xq];have:Yt C M nx j (ZK os j) oj.op (Zl s.1 oi.dst (if bi then evO s.1 x else .tup [])) s.2=some ce:=by
    rw[← h3];unfold Yt;rw[QB C M s.2 (nx+64*j) (Yy (o:=oj) ak)]
   rw[this,Zc,Kt h4]
  ·show gs (Zl (QA ce.gone (Zl s.1 oi.dst _)) oj.dst ce.eff.val) q=gs (Zl (Zl (QA ce.gone s.1) oj.dst ce.eff.val) oi.dst _) q;simp only[Z8,Qp];by_cases hq:oi.dst=some q
   ·have:¬oj.dst=some q:=fun e=>by rw[hq,e] at aj;simp[WP] at aj
    simp only[hq,Kj,this,Ki];exact aq.1
   ·simp[hq]
theorem ZpH {C:Orc} {M:Zj} (hM:∀ f,M f 99=false) (hC:Qb P C) {ops:Array Oper} {os:List CO} (a9:Qa (Zgz P nt ops.toList) ops.toList=some os) {nx i:Nat} {ks:List Nat} {oi:CO} (ab:os[i]?=some oi)
  (ad:∀ (k:Nat) (o:CO),os[k]?=some o→∀ x∈Zv o.op,XC x=true) :
  ∀ (js:List Nat) {s r:Sl×Hp} {U:Nat→Prop},Zdv nt s U→QD U (nx+64*i)→(∀ j∈js,QD U (nx+64*j))→(js++i :: ks).Pairwise (· < ·) →
   (∀ j∈js,∃ oj,os[j]?=some oj∧QN oj oi=true∧((ZK os j=false∧(ZK os i=true→Zo0 oi.op=true∨(Zih oi.op=true∧(YE oj.op=true∨(Wa oj.op=true∧Uq os j=true∧Uq os i=true∧ZeB r.1 oj.op oi.op=true)))∨(XD oj.op=true∧Za8 oi.op=true)∨(XD oj.op=true∧ZgN os j=true∧okD r.1 oj.dst=true) ∨
    (XD oj.op=false∧W0 oi.op=true∧Zij oj.op=true∧Uq os j=true∧Uq os i=true∧ZgN os j=true∧VD r.1 oj.dst oj.op oi.op=true))) ∨
    (ZK os j=true∧ZK os i=false∧XD oi.op=true∧ZgN os i=true∧okD r.1 oi.dst=true) ∨
    (ZK os j=true∧ZK os i=false∧XD oi.op=false∧W0 oj.op=true∧ZeV oi.op=true∧Uq os j=true∧Uq os i=true∧ZgN os i=true∧VD r.1 oi.dst oi.op oj.op=true))) →
   (∀ j∈js++i :: ks,j<os.length)→ZaR C M os nx (js++i :: ks) s=some r →
   ∃ s',Zw C M os nx i s=some s'∧∃ r',ZaR C M os nx (js++ks) s'=some r'∧QX r' r
 | [],s,r,U,_,_,_,_,_,_,h=>by
  simp only[Lu,ZaR] at h ⊢;obtain⟨s',h1,h⟩:=Za h;exact⟨s',h1,r,h,QX.refl r⟩
 | j :: js,s,r,U,hs,hfi,hfj,hsort,hj,hlt,h=>by
  have a1:=h;simp only[KI,ZaR] at h;obtain⟨s1,h1,h⟩:=Za h;have a8:=hsort;simp only[KI,Ls] at hsort;have bk:j<i:=hsort.1 i (by simp);have a0:i≠j:=by omega
  have a':=Zox hC a9 hs (hfj j (by simp)) h1;have ba:∀ k∈js,k≠j:=fun k hk e=>by
   have:=hsort.1 k (by simp[hk]);omega
  obtain⟨s2,h2,r2,h3,h4⟩:=ZpH hM hC a9 ab ad js a' (Zks a0 hfi) (fun k hk=>Zks (ba k hk) (hfj k (by simp[hk]))) hsort.2 (fun k hk=>hj k (by simp[hk])) (fun k hk=>hlt k (by simp only[KI,Kf];exact .inr hk)) h;obtain⟨oj,ae,au,a2⟩:=hj j (by simp);have aa:∀ {k q n:Nat} {o:CO},Uq os k=true→os[k]?=some o→k≤q→q<os.length→n∈XA o→Qn (VL os q) [n]=true:=by
   intro k q n o am ho bl hq hn;have:=Kw.1 am q (K3.2 hq);simp only[ZlT,ho,Lc,Ko] at this;rcases this with h | h
   ·omega
   ·cases hd:VL os q with
    | none=>rfl
    | some d=>
     rw[hd] at h;simp only[Qn,KH,KC,KL] at h ⊢;intro e;simp at e;exact h (e ▸ hn)
  have af:∀ {k:Nat} {o:CO},Uq os k=true→os[k]?=some o→Qn o.dst (XA o)=true:=by
   intro k o am ho;have hk:k<os.length:=(Kc.1 ho).1;have:=Kw.1 am k (K3.2 hk);simp only[ZlT,VL,ho,Lc,Ko] at this;rcases this with h | h
   ·omega
   ·exact h
  have ag:∀ {k q t:Nat} {o:CO},ZgN os k=true→os[k]?=some o→o.dst=some t→q≠k→q<os.length→Qn (VL os q) [t]=true:=by
   intro k q t o hl ho ht bb hq;simp only[ZgN,Kb] at hl;have:=Kw.1 hl.2 q (K3.2 hq);simp only[Lc,beq_iff_eq,VL,ho,ht] at this;rcases this with h | h
   ·exact absurd h bb
   ·simp only[VL];cases a3:os[q]? with
    | none=>rfl
    | some oq=>
     rw[a3] at h;simp only at h ⊢;cases hd:oq.dst with
     | none=>rfl
     | some d=>
      rw[hd] at h;simp only[WP,bne_iff_ne,ne_eq] at h;simp only[Qn,KH,KC,KL,KU];exact h
  have ah:∀ {k:Nat} {o:CO},ZgN os k=true→os[k]?=some o→∃ t,o.dst=some t:=by
   intro k o hl ho;simp only[ZgN,VL,ho,Kb] at hl;cases hd:o.dst with
   | none=>rw[hd] at hl;cases hl.1
   | some t=>exact⟨t,rfl⟩
  have av:∀ n,(∀ q∈js++ks,Qn (VL os q) [n]=true)→okV (gs r.1 n)=true→gs s2.1 n=gs r.1 n:=by
   intro n hn ho;rw[← h4.1 n] at ho ⊢;exact ZrE h3 hn ho
  have ak:∀ q∈js++ks,q≠i∧j<q∧q<os.length:=by
   intro q hq;refine⟨?_,?_,hlt q ?_⟩
   ·rcases Kd.1 hq with hq | hq
    ·have:=(Lm.1 hsort.2).2.2 q hq i (by simp);omega
    ·have:=(Ls.1 (Lm.1 hsort.2).2.1).1 q hq;omega
   ·rcases Kd.1 hq with hq | hq
    ·exact hsort.1 q (by simp[hq])
    ·exact hsort.1 q (by simp[hq])
   ·rcases Kd.1 hq with hq | hq<;>simp[hq]
  have an:Uq os j=true→∀ n∈XA oj,∀ q∈js++ks,Qn (VL os q) [n]=true:=fun am n hn q hq=>by
   obtain⟨_,h6,h7⟩:=ak q hq;exact aa am ae (by omega) h7 hn
  have ao:Uq os i=true→∀ n∈XA oi,∀ q∈js++ks,Qn (VL os q) [n]=true:=fun am n hn q hq=>by
   obtain⟨_,h6,h7⟩:=ak q hq;rcases Kd.1 hq with hq | hq
   ·obtain⟨oq,a3,ap,_⟩:=hj q (by simp[hq]);simp only[QN,Kb] at ap;have h5:=ap.1.1;simp only[VL,a3];cases hd:oq.dst with
    | none=>rfl
    | some d=>
     rw[hd] at h5;simp only[Qn,KH,KC,KL] at h5 ⊢;intro e;simp at e;exact h5 (e ▸ hn)
   ·have:=(Ls.1 (Lm.1 hsort.2).2.1).1 q hq;exact aa am ab (by omega) h7 hn
  have ai:∀ {o:CO} {n:Nat},n∈(Zv o.op).flatMap Up→n∈XA o:=fun h=>Kd.2 (.inl h);have aj:∀ {o:CO} {n:Nat},n∈(ZfI o.op).flatMap Up→n∈XA o:=fun {o n} h=>by
   refine Kd.2 (.inl ?_);cases ho:o.op<;>rw[ho] at h<;>simp only[ZfI,List.flatMap_nil,LJ] at h
   simp only[Zv,Kv,Kd];exact .inr h
  have a4:∃ t1,Zw C M os nx i s=some t1∧∃ t2,Zw C M os nx j t1=some t2∧QX t2 s2:=by
   rcases a2 with ⟨aw,ay⟩ | ⟨aw,az,k1,k5,k6⟩ | ⟨aw,az,k0,k1,k2,k3,k4,k5,k6⟩
   case inr.inl=>
    obtain⟨t,ht⟩:=ah k5 ab;refine ZoD ab ae az au ad k1 ht ?_ h1 h2;rw[ht] at k6;simp only[okD] at k6;rw[av t (fun q hq=>?_) k6]
    ·exact k6
    ·obtain⟨h5,_,h7⟩:=ak q hq;exact ag k5 ab ht h5 h7
   case inr.inr=>
    obtain⟨t,ht⟩:=ah k5 ab;refine ZmX hM ab ae az a0 au (af k4 ab) (af k3 ae) ad hs hfi (hfj j (by simp)) k1 k2 ?_ ht h1 h2;refine(ZmW k0 k1 k6).move (fun n hn=>av n (ao k4 n (ai hn))) (fun n hn=>av n fun q hq=>?_) (fun n hn=>av n (an k3 n (aj hn)));obtain⟨h5,_,h7⟩:=ak q hq;exact ag k5 ab hn h5 h7
   cases az:ZK os i with
   | false=>exact Zqq ab ae az aw a0 au ad hs hfi (hfj j (by simp)) h1 h2
   | true=>
    rcases ay az with hc | ⟨am,hl⟩ | ⟨bc,bd⟩ | ⟨k1,k5,k6⟩ | ⟨k0,k1,k2,k3,k4,k5,k6⟩
    case inr.inr.inr.inl=>
     obtain⟨t,ht⟩:=ah k5 ae;refine ZoC ab ae aw au ad k1 ht ?_ h1 h2;rw[ht] at k6;simp only[okD] at k6;rw[av t (fun q hq=>?_) k6]
     ·exact k6
     ·obtain⟨_,h6,h7⟩:=ak q hq;exact ag k5 ae ht (by omega) h7
    case inr.inr.inr.inr=>
     obtain⟨t,ht⟩:=ah k5 ae;refine ZoB hM ab ae aw a0 au (af k3 ae) (af k4 ab) ad hs hfi (hfj j (by simp)) k1 k2 ?_ ht h1 h2;refine(ZmW k0 k1 k6).move (fun n hn=>av n (an k3 n (ai hn))) (fun n hn=>av n fun q hq=>?_) (fun n hn=>av n (ao k4 n (aj hn)));obtain⟨_,h6,h7⟩:=ak q hq;exact ag k5 ae hn (by omega) h7
    ·exact Zqu ab ae hc aw a0 au ad hs hfi (hfj j (by simp)) h1 h2
    ·refine ZoA ab ae az aw a0 au ad hs hfi (hfj j (by simp)) ⟨am,?_⟩ h1 h2;rcases hl with hl | ⟨be,bf,bg,al⟩
     ·exact .inl hl
     ·refine .inr ⟨be,?_⟩;have a5:∀ x∈Zv oi.op,okW (evO r.1 x)=true→evO s.1 x=evO r.1 x:=by
       intro x hx ax;cases x with
       | v a=>rfl
       | f n=>rfl
       | t n=>
        simp only[evO] at ax ⊢;have hn:n∈XA oi:=by
         rw[XA];exact Kd.2 (.inl (Kk.2 ⟨.t n,hx,KU.2 rfl⟩))
        refine Zls a1 (fun q hq=>?_) ax;rcases Kd.1 hq with hq | hq
        ·obtain⟨oq,a3,ap,_⟩:=hj q hq;simp only[QN,Kb] at ap;have h5:=ap.1.1;simp only[VL,a3];cases hd:oq.dst with
         | none=>rfl
         | some d=>
          rw[hd] at h5;simp only[Qn,KH,KC,KL] at h5 ⊢;intro e;simp at e;exact h5 (e ▸ hn)
        ·refine aa bg ab ?_ (hlt q (Kd.2 (.inr hq))) hn;rcases Kf.1 hq with rfl | hq
         ·omega
         ·have:=Lm.1 hsort.2;have:=(Ls.1 this.2.1).1 q hq;omega
      have a7:∀ id,Qt r.1 id (Zv oj.op)=true→Qt s.1 id (Zv oj.op)=true:=by
       intro id bh;have bi:∀ xs:List Opd,(∀ z∈xs,z∈Zv oj.op)→Qt r.1 id xs=true→Qt s.1 id xs=true:=by
        intro xs
        induction xs with
        | nil=>intro _ _;rfl
        | cons z zs ihz=>
         intro a6 hz;simp only[Qt,Kb] at hz ⊢;refine⟨?_,ihz (fun z' bj=>a6 z' (by simp[bj])) hz.2⟩;cases z with
         | v a=>exact hz.1
         | f n=>exact hz.1
         | t n=>
          simp only[evO] at hz ⊢;have hn:n∈XA oj:=by
           rw[XA];exact Kd.2 (.inl (Kk.2 ⟨.t n,a6 (.t n) (KT ..),KU.2 rfl⟩))
          rw[ZrE a1 (fun q hq=>?_) (Zs9 hz.1)]
          ·exact hz.1
          ·refine aa bf ae ?_ (hlt q hq) hn;rcases Kd.1 hq with hq | hq
           ·rcases Kf.1 hq with rfl | hq
            ·omega
            ·have:=hsort.1 q (by simp[hq]);omega
           ·have:=hsort.1 q (by simp only[Kd];exact .inr hq);omega
       exact bi _ (fun _ h=>h) bh
      cases ho:oi.op<;>rw[ho] at am al<;>first | (cases am;done) | skip
      case store slc sz x y=>
       simp only[ZeB,Kb] at al ⊢;obtain⟨al,ar⟩:=al;have ax:okV (evO r.1 x)=true:=by
        cases ht:X1 (evO r.1 x) with
        | none=>rw[ht] at al;simp[Zba] at al
        | some id=>cases hv:evO r.1 x<;>rw[hv] at ht<;>simp only[X1] at ht<;>first | (cases ht;done) | rfl
       rw[a5 x (by rw[ho];simp[Zv]) (Zg6 ax)];constructor
       ·cases ht:X1 (evO r.1 x) with
        | none=>rw[ht] at al;simp[Zba] at al
        | some id=>rw[ht] at al;exact a7 id al
       ·by_cases hp:∃ b1 b2 b3 b4,evO r.1 x=.prow b1 b2 b3 b4
        ·obtain⟨b1,b2,b3,b4,hp⟩:=hp;rw[hp] at ar ⊢;rcases Zgj ar with ⟨d,hv⟩ | hv
         ·rw[a5 y (by rw[ho];simp[Zv]) (by rw[hv];rfl),hv];rfl
         ·rw[a5 y (by rw[ho];simp[Zv]) (Zg6 hv.1)];exact Zqt ⟨hv.1,ZhD a7 hv.2⟩
        ·exact Zlt fun b1 b2 b3 b4 e=>hp ⟨b1,b2,b3,b4,e⟩
      case append sz by_ str flat x y=>
       simp only[ZeB,Kb,Lc] at al ⊢;obtain⟨ar,aq⟩:=al;constructor
       ·have ax:okW (evO r.1 x)=true:=by
         cases hv:evO r.1 x<;>rw[hv] at ar<;>first | rfl | (cases ar;done) | skip
         case tup vs=>cases vs<;>first | rfl | cases ar
        rw[a5 x (by rw[ho];simp[Zv]) ax];cases hv:evO r.1 x<;>rw[hv] at ar<;>first | (cases ar;done) | exact a7 _ ar | skip
        ·rfl
        case tup vs=>cases vs<;>first | rfl | cases ar
       ·rcases aq with aq | aq
        ·exact .inl aq
        ·right
         have ax:okW (evO r.1 y)=true:=by
          unfold seenSrc at aq;split at aq
          ·rename_i k hk;rw[hk];rfl
          ·exact Zg6 aq
         rw[a5 y (by rw[ho];simp[Zv]) ax];unfold seenSrc at aq ⊢;split at aq
         ·exact a7 _ aq
         ·exact aq
    ·exact Zqw ab ae aw au bc bd h1 h2
  obtain⟨t1,g1,t2,g2,g3⟩:=a4;obtain⟨r3,g4,g5⟩:=ZhA g3.symm h3;refine⟨t1,g1,r3,?_,g5.symm.trans h4⟩;simp only[KI,ZaR,g2,Zc];exact g4
def rem (n:Nat) (listed:Array Bool):List Nat:=(List.range n).filter fun i=>!listed.getD i true
theorem ZcW {n:Nat} {aa:Array Bool} {i:Nat}:i∈rem n aa↔i<n∧aa.getD i true=false:=by
 simp[rem]
theorem ZhJ (n:Nat) (aa:Array Bool):(rem n aa).Pairwise (· < ·):=List.Pairwise.filter _ List.pairwise_lt_range
theorem Ztc {n:Nat} {aa:Array Bool} (ad:aa.size=n) (i:Nat):rem n (aa.setIfInBounds i true)=(rem n aa).filter fun j=>j != i:=by
 simp only[rem,List.filter_filter];refine List.filter_congr fun j hj=>?_;have ae:j<n:=K3.1 hj;by_cases ab:i=j
 ·subst ab;simp[ad,ae]
 ·simp[Array.getElem?_setIfInBounds_ne ab,Ne.symm ab]
def Zkv (nx:Nat) (listed:Array Bool) (id:Nat):Prop:=id<nx∨∃ k,listed.getD k false=true∧nx+64*k≤id∧id<nx+64*k+64
theorem Vu {l:Array Bool} {k:Nat} (h:l.getD k false=true):k<l.size∧l.getD k true=true:=by
 rcases KG k l.size with h1 | h1
 ·refine⟨h1,?_⟩;simp[h1] at h ⊢;exact h
 ·simp[Array.getElem?_eq_none h1] at h
theorem ZhK {nx i:Nat} {aa:Array Bool} (h:aa.getD i true=false):QD (Zkv nx aa) (nx+64*i):=by
 intro id h1 h2 hu;rcases hu with hu | ⟨k,hk,h3,h4⟩
 ·omega
 ·have ab:k≠i:=fun e=>by subst e;rw[(Vu hk).2] at h;cases h
  rcases Lk ab with h5 | h5<;>omega
theorem ZhL {nx i:Nat} {aa:Array Bool} (hi:i<aa.size):∀ id,WA (Zkv nx aa) (nx+64*i) id→Zkv nx (aa.setIfInBounds i true) id:=by
 rintro id ((h | ⟨k,hk,h1⟩) | h)
 ·exact .inl h
 ·exact .inr ⟨k,getD_set_true hk,h1⟩
 ·exact .inr ⟨i,by simp[hi],h.1,h.2⟩
end
end Go.Abs
