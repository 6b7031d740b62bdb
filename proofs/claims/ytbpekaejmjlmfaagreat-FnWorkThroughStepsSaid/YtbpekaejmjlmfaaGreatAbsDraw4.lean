/- Own text. -/
import Derived.Test.YtbpekaejmjlmfaaGreatAbsDrawD
set_option linter.unusedVariables false
set_option linter.unusedSimpArgs false
namespace Go.Abs
open Go
section
variable {P:Program} {nt:Nat}
theorem Zqo {α β:Type} {f:α→Option β}:∀ {l:List α} {r:List β},QH f l=some r→∀ (i:Nat) (x:α),l[i]?=some x→∃ y,r[i]?=some y∧f x=some y
 | [],r,h,i,x,hx=>by simp at hx
 | a :: l,r,h,i,x,hx=>by
  simp only[QH] at h;obtain⟨y,h1,h⟩:=Za h;obtain⟨ys,h2,h⟩:=Za h;cases h;cases i with
  | zero=>simp at hx;subst hx;exact⟨y,by simp,h1⟩
  | succ i=>simp at hx;obtain⟨z,h3,h4⟩:=Zqo h2 i x hx;exact⟨z,by simpa using h3,h4⟩
theorem Zee {α β:Type} {f:α→Option β}:∀ {l:List α} {r:List β},QH f l=some r→r.length=l.length
 | [],r,h=>by simp only[QH] at h;cases h;rfl
 | a :: l,r,h=>by
  simp only[QH] at h;obtain⟨y,h1,h⟩:=Za h;obtain⟨ys,h2,h⟩:=Za h;cases h;simp[Zee h2]
theorem Zx0 {C:Orc} {M:Zp} (hC:QP P C) {ops:Array Oper} {os:List CO} (ad:QH (Zm8 P nt ops.toList) ops.toList=some os) {nx i:Nat} {s s' : Sl×Hp} {U:Nat→Prop} (hs:Zjf nt s U) (hf:Xk U (nx+64*i))
  (h:ZJ C M os nx i s=some s'):Zjf nt s' (ZaS U (nx+64*i)):=by
 obtain⟨F,A,I,Γ,a,w,aa⟩:=hs;unfold ZJ at h;obtain⟨co,ae,h⟩:=Za h;have ag:i<ops.toList.length:=by rw[← Zee ad];exact(Kc.1 ae).1
 obtain⟨am,h1,h2⟩:=Zqo ad i ops.toList[i] (KL ag);rw[ae] at h1;cases h1;obtain⟨hg,ah,ab,af⟩:=Zj2 h2;unfold ZS at h;obtain⟨b,hw,h⟩:=Za h;cases b with
 | true=>
  simp only[Kk] at h;obtain⟨ce,ai,aj,rfl⟩:=XB h;have ak:=ZxU hC aa ah hf ab aj (Zfw ai) (fun a' w'=>∃ F A I Γ a w,Sim nt F A I Γ (ZaS U (nx+64*i)) (ce.on co.dst s.1 s.2).1 (ce.on co.dst s.1 s.2).2 a w) (fun _ _ _=>False) fun u w' hp=>by
   obtain⟨I1,Γ1,b1,b2,b3,b4,b5⟩:=hp;rw[← af] at b5;exact⟨F,A,I1,Γ1,_,_,b5⟩
  obtain⟨_,_,al⟩:=Oper.wp_ex ak;exact al
 | false=>
  simp only[Ka,Kj] at h;cases h;obtain⟨I1,Γ1,b1,b2,b3,b4,b5⟩:=aa.pure (U':=ZaS U (nx+64*i)) (v:=.tup []) (u:=undef) (dst:=co.dst) (fun id hu=>.inl hu) Zmu (by rw[af];exact ab);exact⟨F,A,I1,Γ1,_,_,b5⟩
theorem Zti {U:Nat→Prop} {nx i j:Nat} (aa:i≠j) (h:Xk U (nx+64*i)):Xk (ZaS U (nx+64*j)) (nx+64*i):=by
 intro id h1 h2 hu;rcases hu with hu | hu
 ·exact h id h1 h2 hu
 ·rcases LV aa with h3 | h3<;>omega
theorem ZCT {id:Nat} {v:AV} (h:ZdP id v=true):okV v=true:=by
 cases v with
 | tup vs=>cases vs with
  | nil=>rfl
  | cons x r=>cases h
 | _=>first | rfl | cases h
def okW (v:AV):Bool:=okV v
theorem Zos {v:AV} (h:okV v=true):okW v=true:=h
theorem ZBx {g:List Nat} {v:AV} (h:okW (kill g v)=true):kill g v=v:=Zdw h
theorem ZCU {C:Orc} {M:Zp} {os:List CO} {nx q n:Nat} {s r:Sl×Hp} (h:ZJ C M os nx q s=some r) (hd:QS (J1 os q) [n]=true) (hk:okW (gs r.1 n)=true):gs s.1 n=gs r.1 n:=by
 unfold ZJ at h;obtain⟨o,ho,h⟩:=Za h;have aa:o.dst≠some n:=by
  intro e;simp[J1,ho,e,QS] at hd
 unfold ZS at h;obtain⟨b,_,h⟩:=Za h;cases b with
 | true=>
  simp only[Kk] at h;obtain⟨ce,_,_,rfl⟩:=XB h;have e1:gs (ce.on o.dst s.1 s.2).1 n=kill ce.gone (gs s.1 n):=by
   show gs (Zt (Xl ce.gone s.1) o.dst ce.eff.val) n=_;rw[QG,Ki aa,QU]
  rw[e1] at hk ⊢;exact(ZBx hk).symm
 | false=>
  simp only[Ka,Kj] at h;cases h;show gs s.1 n=gs (Zt s.1 o.dst (.tup [])) n;rw[QG,Ki aa]
theorem ZuN {C:Orc} {M:Zp} {os:List CO} {nx n:Nat}:∀ {l:List Nat} {s r:Sl×Hp},Zgh C M os nx l s=some r→(∀ q∈l,QS (J1 os q) [n]=true)→okW (gs r.1 n)=true→gs s.1 n=gs r.1 n
 | [],s,r,h,_,_=>by simp only[Zgh] at h;cases h;rfl
 | i :: l,s,r,h,hd,hk=>by
  simp only[Zgh] at h;obtain⟨s1,h1,h⟩:=Za h;have h2:=ZuN h (fun q hq=>hd q (by simp[hq])) hk;rw[← h2] at hk ⊢;exact ZCU h1 (hd i (by simp)) hk
theorem ZBy {C:Orc} {M:Zp} {os:List CO} {nx n:Nat} {l:List Nat} {s r:Sl×Hp} (h:Zgh C M os nx l s=some r) (hd:∀ q∈l,QS (J1 os q) [n]=true) (hk:okV (gs r.1 n)=true):gs s.1 n=gs r.1 n:=ZuN h hd (Zos hk)
theorem Zx1 {C:Orc} {M:Zp} {sl:Sl} {hp:Hp} {base:Nat} {c:COp} {ce:Zf} (hc:Zys c=true) (h:vop C M sl hp base c=some ce):ZdR (vop C M sl hp base c)=some ce:=by
 rw[h];have aa:ce.gone=[]∧ce.eff.sets=[]∧ce.eff.dels=[]∧ce.eff.frz=[]:=by
  have o1:∀ {v:AV},QD v=some ce→ce.gone=[]∧ce.eff.sets=[]∧ce.eff.dels=[]∧ce.eff.frz=[]:=fun h=>by cases h;exact⟨rfl,rfl,rfl,rfl⟩
  have o2:∀ {v:Option AV},WP v=some ce→ce.gone=[]∧ce.eff.sets=[]∧ce.eff.dels=[]∧ce.eff.frz=[]:=fun h=>by obtain⟨v,_,h⟩:=Za h;exact o1 h
  cases c<;>simp only[Zys,Ka] at hc<;>simp only[vop] at h
  case stuck=>cases h
  case move x=>exact o1 h
  case assign s x=>
   unfold Zgr at h;split at h
   ·obtain⟨s,_,h⟩:=Za h;cases h;exact⟨rfl,rfl,rfl,rfl⟩
   ·exact o1 h
  case pick c a b=>
   unfold ZhS at h;split at h
   ·split at h<;>exact o1 h
   ·cases h
  case alloc slc cs=>
   unfold ZhT ZqL at h;split at h
   ·split at h<;>first | (cases h;done) | (cases h;exact⟨rfl,rfl,rfl,rfl⟩)
   ·split at h<;>(cases h;exact⟨rfl,rfl,rfl,rfl⟩)
  case box x=>
   unfold ZAy at h;split at h
   ·cases h;exact⟨rfl,rfl,rfl,rfl⟩
   ·cases h
  case build zs ps=>obtain⟨cs,_,h⟩:=Za h;exact o1 h
  case load g s a=>exact o2 h
  case nilCheck x=>unfold Zbt at h;split at h<;>first | exact o1 h | cases h
  case bin op eq x y=>
   unfold ZjT at h;split at h
   ·split at h
    ·exact o2 h
    ·cases h
   ·exact o2 h
  case un op x=>exact o2 h
  case eqA neg n x y=>
   unfold Zu3 at h;split at h
   ·obtain⟨r,_,h⟩:=Za h;exact o1 h
   ·cases h
  case convI k x=>unfold Go.Abs.convI at h;split at h<;>first | exact o1 h | cases h
  case convS x=>unfold Go.Abs.convS at h;split at h<;>first | exact o1 h | cases h
  case fn f cs=>exact o2 h
  case make s b z l c=>
   obtain⟨l,_,h⟩:=Za h;obtain⟨c,_,h⟩:=Za h;unfold ZtA at h;split at h
   ·cases h;exact⟨rfl,rfl,rfl,rfl⟩
   ·cases h
  case slice s x lo hi=>exact o2 h
  case sliceS x lo hi=>exact o2 h
  case slice0 x hi mx=>exact o2 h
  case slice3 s x lo hi mx=>exact o2 h
  case shift off x=>unfold Uk at h;split at h<;>first | exact o1 h | cases h
  case part g s off x=>exact o2 h
  case iaS s x i=>
   obtain⟨n,_,h⟩:=Za h;unfold Zjm at h;split at h
   ·exact o2 h
   ·cases h
  case iaA len s x i=>
   obtain⟨n,_,h⟩:=Za h;unfold ZqO at h;split at h
   ·unfold Uk at h;split at h<;>first | exact o1 h | cases h
   ·cases h
  case ixS x i=>
   obtain⟨n,_,h⟩:=Za h;unfold Zyg at h;split at h
   ·unfold ZwQ at h;split at h
    ·obtain⟨b,_,h⟩:=Za h;exact o1 h
    ·cases h
   ·cases h
  case ixA g s len x i=>
   obtain⟨n,_,h⟩:=Za h;unfold ZAA at h;split at h
   ·exact o2 h
   ·cases h
  case nth i x=>unfold ZwR at h;split at h<;>first | exact o2 h | cases h
  case len x=>obtain⟨n,_,h⟩:=Za h;exact o1 h
  case lenS x=>obtain⟨n,_,h⟩:=Za h;exact o1 h
  case min x y=>unfold Zm5 at h;split at h<;>first | (split at h<;>first | exact o1 h | cases h) | cases h
  case max x y=>unfold Zm6 at h;split at h<;>first | (split at h<;>first | exact o1 h | cases h) | cases h
 simp only[ZdR,Zg,aa.1,aa.2.1,aa.2.2.1,aa.2.2.2,ZgB]
theorem Zz7 {C:Orc} {M:Zp} {nx i:Nat} {o:CO} (hc:Zys o.op=true) (s:Sl×Hp):ZS C M nx i true o s=ZS C M nx i false o s:=by
 unfold ZS;have:WQ C M nx i true o.op s.1 s.2=WQ C M nx i false o.op s.1 s.2:=by
  unfold WQ;simp only[Kk,Ka,Kj];cases h:vop C M s.1 s.2 (nx+64*i) o.op with
  | none=>rfl
  | some ce=>rw[← h,Zx1 hc h,h]
 rw[this]
theorem vop_read {C:Orc} {M:Zp} {sl:Sl} {hp hp' : Hp} {base:Nat} {c:COp} (hc:Za2 c=true) (h:∀ x∈ZH c,∀ k∈Zy (evO sl x),lkp hp k=lkp hp' k):vop C M sl hp base c=vop C M sl hp' base c:=by
 have len:∀ v:AV,(∀ k∈Zy v,lkp hp k=lkp hp' k)→ZeT hp v=ZeT hp' v:=fun v hv=>by
  cases v<;>simp only[ZeT]
  case d x=>cases x<;>rfl
  case own id=>rw[hv id (by simp[Zy,ZA,Zo])]
 cases c<;>simp only[Za2,Ka] at hc<;>simp only[ZH] at h<;>simp only[vop]
 case load g s a=>
  have:=h a (by simp);cases hv:evO sl a<;>rw[hv] at this<;>simp only[Jr]
  case ptr id off=>rw[this id (by simp[Zy,ZA,Zo])]
  case prow id sz i off=>rw[this id (by simp[Zy,ZA,Zo])]
 case slice s x lo hi=>
  have:=h x (by simp);cases hv:evO sl x<;>rw[hv] at this<;>simp only[WC]
  case d x=>cases x<;>rfl
  case own id=>rw[this id (by simp[Zy,ZA,Zo])]
  case ownv id off n=>rw[this id (by simp[Zy,ZA,Zo])]
 case slice0 x hi mx=>
  unfold slice0;rw[len _ (h x (by simp))]
 case iaS s x i=>
  congr 1
  funext n
  simp only[Zjm];have:=h x (by simp);cases hv:evO sl x<;>rw[hv] at this<;>simp only[QJ]
  case d x=>cases x<;>rfl
  case own id=>rw[this id (by simp[Zy,ZA,Zo])]
  case ownv id off n=>rw[this id (by simp[Zy,ZA,Zo])]
 case len x=>rw[len _ (h x (by simp))]
theorem Ztj {A B:Hp} (hd:∀ k x y,(k,x)∈A→(k,y)∈B→False) (hp:Hp) (id:Nat):lkp (Zi (Zi hp A) B) id=lkp (Zi (Zi hp B) A) id:=by
 have aa:∀ (l:Hp) (hp hp' : Hp),lkp hp id=lkp hp' id→lkp (Zi hp l) id=lkp (Zi hp' l) id:=by
  intro l
  induction l with
  | nil=>intro hp hp' h;exact h
  | cons q r ih=>
   intro hp hp' h;obtain⟨k,x⟩:=q;simp only[Zi];exact ih _ _ (by rw[Qz,Qz,h])
 by_cases h1:∃ o,(id,o)∈A
 ·have h2:∀ o,(id,o)∉B:=fun o ho=>by
   obtain⟨o',ab⟩:=h1;exact hd id o' o ab ho
  rw[ZG B _ id h2];exact aa A _ _ (ZG B hp id h2).symm
 ·have h2:∀ o,(id,o)∉A:=fun o ho=>h1 ⟨o,ho⟩;rw[ZG A _ id h2];exact aa B _ _ (ZG A hp id h2)
theorem Zwr {hp:Hp} {v:AV} {q:D×Bool×List Nat} (h:Zcl hp v=some q):∀ i∈q.2.2,i∈Zo v:=by
 intro i hi;cases v<;>simp only[Zcl] at h<;>first | (cases h;simp at hi;done) | (cases h;done) | skip
 obtain⟨p,_,h⟩:=Za h;cases h;simpa [Zo] using hi
theorem ZmP {hp:Hp}:∀ {vs:List AV} {q:List D×Bool×List Nat},WG hp vs=some q→∀ i∈q.2.2,i∈vs.flatMap Zo
 | [],q,h,i,hi=>by simp only[WG] at h;cases h;simp at hi
 | v :: vs,q,h,i,hi=>by
  simp only[WG] at h;obtain⟨q1,h1,h⟩:=Za h;obtain⟨q2,h2,h⟩:=Za h;split at h
  ·cases h;rcases Kf.1 hi with hi | hi
   ·exact Kx.2 ⟨v,by simp,Zwr h1 i hi⟩
   ·obtain⟨c,hc,aa⟩:=Kx.1 (ZmP h2 i hi);exact Kx.2 ⟨c,by simp[hc],aa⟩
  ·cases h
theorem Zws {hp:Hp} {n:Nat} {v:AV} {q:D×List Nat} (h:ZhN hp n v=some q):∀ i∈q.2,i∈Zo v:=by
 unfold ZhN at h;split at h
 ·split at h
  ·cases h;simp
  ·cases h
 ·cases h;simp
 ·unfold ZiC at h;split at h
  ·split at h
   ·cases h;simp[Zo]
   ·cases h
  ·split at h
   ·cases h;simp[Zo]
   ·cases h
  ·cases h
 ·cases h
theorem ZmQ {hp:Hp} {n:Nat}:∀ {vs:List AV} {q:List D×List Nat},Ui hp n vs=some q→∀ i∈q.2,i∈vs.flatMap Zo
 | [],q,h,i,hi=>by simp only[Ui] at h;cases h;simp at hi
 | v :: vs,q,h,i,hi=>by
  simp only[Ui] at h;obtain⟨q1,h1,h⟩:=Za h;obtain⟨q2,h2,h⟩:=Za h;split at h
  ·cases h;rcases Kf.1 hi with hi | hi
   ·exact Kx.2 ⟨v,by simp,Zws h1 i hi⟩
   ·obtain⟨c,hc,aa⟩:=Kx.1 (ZmQ h2 i hi);exact Kx.2 ⟨c,by simp[hc],aa⟩
  ·cases h
theorem Zz8 {hp:Hp} {slc:List (Option Nat)} {s base:Nat} {vs:List AV} {x:AV} {e:Eff} (h:Zcf hp slc s base vs x=some e):∃ id o,Wg x=some id∧e.val=.junk∧e.sets=[(id,o)]∧(∀ k∈e.dels,k∈vs.flatMap Zo∧∃ a b c d,x=.prow a b c d)∧∀ i∈e.frz,i∈vs.flatMap Zo:=by
 cases x<;>simp only[Zcf] at h<;>first | cases h | skip
 case ptr id off=>
  unfold ZhM at h;split at h
  ·split at h
   ·split at h<;>(cases h;exact⟨id,_,rfl,rfl,rfl,fun i hi=>by simp at hi,fun i hi=>by simp at hi⟩)
   ·cases h
  ·cases h
 case prow id sz i off=>
  unfold ZdC at h;split at h
  ·split at h
   ·obtain⟨x,_,h⟩:=Za h;obtain⟨q,hq,h⟩:=Za h;unfold ZiB at h;split at h
    ·cases h;exact⟨id,_,rfl,rfl,rfl,fun i hi=>by simp at hi,ZmP hq⟩
    ·cases h
   ·cases h
  ·split at h
   ·obtain⟨x,_,h⟩:=Za h;obtain⟨q,hq,h⟩:=Za h;unfold ZiD at h;split at h
    ·cases h;exact⟨id,_,rfl,rfl,rfl,fun k hk=>⟨ZmQ hq k hk,_,_,_,_,rfl⟩,fun i hi=>by simp at hi⟩
    ·cases h
   ·cases h
  ·cases h
def FzEq (o o' : Option Zn):Prop:=∃ b:Bool,o'=o.map fun x=>if b then V0 x else x
theorem FzEq.seen {o o' : Option Zn} (h:FzEq o o'):Zdx [] o o':=by
 obtain⟨b,rfl⟩:=h;have hk:∀ x:Zn,Xt [] x=x:=fun x=>by
  cases x with
  | box cs=>simp only[Xt];congr 1;rw[KM (g:=id) (fun a _=>Zfj a),LK]
  | row _ _ _ _=>rfl
  | gone=>rfl
  | tree _ _ _ l=>rcases l with _ | ⟨_ | _,_⟩<;>simp[Xt,Ub]
 have:=ZwA (g:=[]) (b:=b) o;have e:(o.map (Xt []))=o:=by cases o<;>simp[hk]
 rw[e] at this;exact this
theorem vop_fz {C:Orc} {M:Zp} {sl:Sl} {hp hp' : Hp} {base:Nat} {c:COp} (hc:Za2 c=true) (h:∀ x∈ZH c,∀ k∈Zy (evO sl x),FzEq (lkp hp k) (lkp hp' k)):vop C M sl hp' base c=vop C M sl hp base c:=by
 have hs:∀ x∈ZH c,ZkP [] hp hp' (evO sl x):=fun x hx k hk=>(h x hx k hk).seen;cases c<;>simp only[Za2,Ka] at hc<;>simp only[ZH] at h hs<;>simp only[vop]
 case load g s a=>
  have h1:=h a (by simp);have h2:=hs a (by simp);cases hv:evO sl a<;>rw[hv] at h1 h2<;>simp only[Jr]
  case ptr id off=>
   obtain⟨b,e⟩:=h1 id (by simp[Zy,ZA,Zo]);rw[e];cases lkp hp id with
   | none=>rfl
   | some o=>cases o<;>cases b<;>rfl
  case prow id sz i off=>
   obtain⟨b,e⟩:=h1 id (by simp[Zy,ZA,Zo]);rw[e];cases lkp hp id with
   | none=>rfl
   | some o=>cases o<;>cases b<;>rfl
 case slice s x lo hi=>rw[ZhG (hs x (by simp))]
 case slice0 x hi mx=>unfold slice0;rw[Zfm (hs x (by simp))]
 case iaS s x i=>
  congr 1
  funext n
  simp only[Zjm];rw[Zce (hs x (by simp))]
 case len x=>rw[Zfm (hs x (by simp))]
def ZkM (sl:Sl) (a:COp):COp→Bool
 | .store _ _ x y=>ZgA sl a (Wg (evO sl x))&&WE sl a (evO sl x) (evO sl y)
 | .append _ _ _ flat x y=>Za3 sl a (evO sl x)&&(flat || seenSrc sl a (evO sl y))
 | _=>false
def LooseS (s:Sl) (a b:COp):Prop:=Zq3 b=true∧(Ul a=true∨(Za2 a=true∧ZkM s a b=true))
theorem ZhE {sl:Sl} {id:Nat}:∀ {xs:List Opd},QZ sl id xs=true→∀ x∈xs,ZdP id (evO sl x)=true
 | [],_,x,hx=>by simp at hx
 | y :: ys,h,x,hx=>by
  simp only[QZ,Kd] at h;rcases Kg.1 hx with rfl | hx
  ·exact h.1
  ·exact ZhE h.2 x hx
theorem ZmR {sl:Sl} {xs:List Opd}:∀ {ks:List Nat},Yj sl xs ks=true→∀ k∈ks,QZ sl k xs=true
 | [],_,k,hk=>by simp at hk
 | j :: r,h,k,hk=>by
  simp only[Yj,Kd] at h;rcases Kg.1 hk with rfl | hk
  ·exact h.1
  ·exact ZmR h.2 k hk
theorem ZmS {sl:Sl} {a:COp} {b1 b2 b3 b4:Nat} {v:AV} (h:WE sl a (.prow b1 b2 b3 b4) v=true):(∃ d,v=.d d)∨(okV v=true∧Yj sl (ZH a) (Zy v)=true):=by
 cases v<;>first | exact .inl ⟨_,rfl⟩ | (simp only[WE,Kd] at h;exact .inr h)
theorem Zz9 {sl:Sl} {a:COp} {b1 b2 b3 b4:Nat} {v:AV} (h:okV v=true∧Yj sl (ZH a) (Zy v)=true):WE sl a (.prow b1 b2 b3 b4) v=true:=by
 cases v<;>first | rfl | (simp only[WE,Kd];exact h)
theorem ZuO {sl:Sl} {a:COp} {x v:AV} (hx:∀ a b c d,x≠.prow a b c d):WE sl a x v=true:=by
 cases x<;>first | rfl | exact absurd rfl (hx _ _ _ _)
theorem Zqp {sl sl' : Sl} {xs:List Opd} (h:∀ k,QZ sl k xs=true→QZ sl' k xs=true):∀ {ks:List Nat},Yj sl xs ks=true→Yj sl' xs ks=true
 | [],_=>rfl
 | j :: r,hh=>by
  simp only[Yj,Kd] at hh ⊢;exact⟨h j hh.1,Zqp h hh.2⟩
theorem Zqq {id:Nat} {v:AV} (h:ZdP id v=true):id∉Zy v:=by
 cases v with
 | tup vs=>cases vs with
  | nil=>simp[Zy]
  | cons x r=>cases h
 | _=>simp[ZdP,Zy,ZA,Zo] at h ⊢ <;> exact fun e=>h e.symm
theorem Zx2 {hp:Hp} {sz by_ base:Nat} {str flat:Bool} {x y:AV} {e:Eff} (h:ZaY hp sz by_ str flat base x y=some e):e.sets=[]∧e.frz=[]∧((x=.nil∧e.dels=[])∨∃ id,e.dels=[id]∧(x=.own id∨∃ o n,x=.ownv id o n)):=by
 unfold ZaY at h;obtain⟨q,_,h⟩:=Za h;split at h
 ·cases x<;>simp only[Zjl] at h<;>first | (cases h;done) | skip
  ·split at h
   ·cases h;exact⟨rfl,rfl,.inl ⟨rfl,rfl⟩⟩
   ·cases h
  ·split at h
   ·cases h
   ·unfold ZqK at h;split at h
    ·split at h
     ·cases h;exact⟨rfl,rfl,.inr ⟨_,rfl,.inl rfl⟩⟩
     ·cases h
    ·cases h
  ·split at h
   ·split at h
    ·cases h
    ·unfold ZkZ at h;split at h
     ·split at h
      ·cases h;exact⟨rfl,rfl,.inr ⟨_,rfl,.inr ⟨_,_,rfl⟩⟩⟩
      ·cases h
     ·cases h
   ·split at h
    ·unfold ZkY at h;split at h
     ·split at h
      ·cases h;exact⟨rfl,rfl,.inr ⟨_,rfl,.inr ⟨_,_,rfl⟩⟩⟩
      ·cases h
     ·cases h
    ·unfold ZkX at h;split at h
     ·split at h
      ·cases h;exact⟨rfl,rfl,.inr ⟨_,rfl,.inr ⟨_,_,rfl⟩⟩⟩
      ·cases h
     ·cases h
 ·cases h
theorem Zqr {hp:Hp} {x:AV} {k:Nat} (h:k∈Ya hp x):x=.own k:=by
 unfold Ya at h;split at h
 ·split at h
  ·simp at h;subst h;rfl
  ·simp at h
 ·simp at h
theorem Zwt {hp:Hp} {sz by_ base:Nat} {str flat:Bool} {x y:AV} {e:Eff}:∀ {ms:List Nat},(∀ k∈ms,x=.own k∨y=.own k)→V3 hp sz by_ str flat base x y ms=some e→e.frz=[] ∧
  e.sets=[]∧∀ k∈e.dels,(x=.own k∨∃ o n,x=.ownv k o n)∨(flat=false∧y=.own k):=by
 have plain:∀ {hp' : Hp} {e:Eff},ZaY hp' sz by_ str flat base x y=some e→e.sets=[]∧e.frz=[]∧∀ k∈e.dels,x=.own k∨∃ o n,x=.ownv k o n:=by
  intro hp' e h;obtain⟨g1,g2,g3⟩:=Zx2 h;refine⟨g1,g2,fun k hk=>?_⟩;rcases g3 with ⟨_,g3⟩ | ⟨id,g3,g4⟩
  ·rw[g3] at hk;simp at hk
  ·rw[g3] at hk;simp at hk;subst hk;exact g4
 intro ms hm h;cases ms with
 | nil=>
  simp only[V3] at h;obtain⟨g1,g2,g3⟩:=plain h;exact⟨g2,g1,fun k hk=>.inl (g3 k hk)⟩
 | cons i r=>
  simp only[V3] at h;split at h
  ·cases h
  ·rename_i aa;obtain⟨e0,h1,h⟩:=Za h;cases h;obtain⟨g1,g2,g3⟩:=plain h1;refine⟨g2,g1,fun k hk=>?_⟩;rcases Kf.1 hk with hk | hk
   ·exact .inl (g3 k hk)
   ·rcases hm k hk with hk | hk
    ·exact .inl (.inl hk)
    ·exact .inr ⟨by simpa using aa,hk⟩
theorem ZBz {hp:Hp} {sz by_ base:Nat} {x y:AV} {ce:Zf} (h:appT hp sz by_ base x y=some ce):ce.gone=[]∧ce.eff.frz=[]∧ce.eff.sets=[]∧∀ k∈ce.eff.dels,x=.own k∨y=.own k:=by
 unfold appT at h;obtain⟨e,h1,h⟩:=Za h;cases h;obtain⟨q,h2,h1⟩:=Za h1;have hy:y=.own q.1:=by
  unfold Zei at h2;split at h2
  ·obtain⟨q2,_,h2⟩:=Za h2;cases h2;rfl
  ·cases h2
 split at h1
 ·cases x<;>simp only[ZcB] at h1<;>first | (cases h1;done) | skip
  ·split at h1
   ·cases h1;exact⟨rfl,rfl,rfl,fun k hk=>by simp at hk;subst hk;exact .inr hy⟩
   ·cases h1
  ·obtain⟨q3,_,h1⟩:=Za h1;split at h1
   ·cases h1;refine⟨rfl,rfl,rfl,fun k hk=>?_⟩;simp at hk;rcases hk with rfl | rfl
    ·exact .inl rfl
    ·exact .inr hy
   ·cases h1
 ·cases h1
theorem Zwu {hp:Hp} {sz by_ base:Nat} {str flat:Bool} {x y:AV} {ce:Zf} (h:ZwS hp sz by_ str flat base x y=some ce):ce.gone=[]∧ce.eff.frz=[] ∧
  ce.eff.sets=[]∧∀ k∈ce.eff.dels,(x=.own k∨∃ o n,x=.ownv k o n)∨(flat=false∧y=.own k):=by
 have kx:∀ k∈Ya hp x,x=.own k∨y=.own k:=fun k hk=>.inl (Zqr hk);have ky:∀ k∈Ya hp y,x=.own k∨y=.own k:=fun k hk=>.inr (Zqr hk);have melt:∀ {ms:List Nat},(∀ k∈ms,x=.own k∨y=.own k)→Zg0 (V3 hp sz by_ str flat base x y ms)=some ce→ce.gone=[]∧ce.eff.frz=[] ∧
   ce.eff.sets=[]∧∀ k∈ce.eff.dels,(x=.own k∨∃ o n,x=.ownv k o n)∨(flat=false∧y=.own k):=by
  intro ms hm h;obtain⟨e,h1,h⟩:=Za h;cases h;exact⟨rfl,Zwt hm h1⟩
 unfold ZwS at h;generalize Ya hp x=mx at h kx;generalize Ya hp y=my at h ky;cases mx with
 | nil=>exact melt ky h
 | cons i r=>
  cases my with
  | nil=>exact melt kx h
  | cons j t=>
   simp only[ZeX] at h;split at h
   ·cases h
   ·rename_i hc;obtain⟨g1,g2,g3,g4⟩:=ZBz h;have hf:flat=false:=by cases flat<;>simp_all
    exact⟨g1,g2,g3,fun k hk=>(g4 k hk).elim (fun e=>.inl (.inl e)) fun e=>.inr ⟨hf,e⟩⟩
theorem Zqs {ds:List Nat} {l:Hp} {k:Nat} (h:k∈ds):lkp (Qe l ds) k=none:=by
 cases hl:lkp (Qe l ds) k with
 | none=>rfl
 | some o=>exact absurd h (Uo ds l k o hl).2
theorem ZCV {C:Orc} {M:Zp} {sl:Sl} {hp:Hp} {base:Nat} {c:COp} {ce:Zf} (hc:Zq3 c=true) (h:vop C M sl hp base c=some ce) :
  ce.gone=[]∧(∀ k,k∈ce.eff.dels∨(∃ o,(k,o)∈ce.eff.sets)→(∃ x∈ZH c,k∈Zy (evO sl x))∧∀ a,ZkM sl a c=true→QZ sl k (ZH a)=true)∧∀ k∈ce.eff.frz,∃ x∈ZH c,k∈Zy (evO sl x):=by
 cases c<;>first | (cases hc;done) | skip
 case store slc sz x y=>
  simp only[vop,Zg0] at h;obtain⟨e,h7,h⟩:=Za h;cases h;obtain⟨id,o,ht,g1,g2,g3,g4⟩:=Zz8 h7;refine⟨rfl,fun k hk=>?_,fun k hk=>⟨y,by simp[ZH],Zqf (U:=fun k=>k∈Zy (evO sl y)) (fun _ h=>h) k (g4 k hk)⟩⟩;rcases hk with hk | ⟨o',hk⟩
  ·obtain⟨k1,b1,b2,b3,b4,k2⟩:=g3 k hk;have k3:=Zqf (U:=fun k=>k∈Zy (evO sl y)) (fun _ h=>h) k k1;refine⟨⟨y,by simp[ZH],k3⟩,fun a ha=>?_⟩;simp only[ZkM,Kd,k2] at ha;rcases ZmS ha.2 with ⟨d,hv⟩ | hv
   ·rw[hv] at k3;simp[Zy,ZA,Zo] at k3
   ·exact ZmR hv.2 k k3
  ·simp only[g2,KH,Prod.mk.injEq] at hk;have aa:=hk.1;subst aa;refine⟨⟨x,by simp[ZH],?_⟩,fun a ha=>?_⟩
   ·cases hv:evO sl x<;>rw[hv] at ht<;>simp only[Wg] at ht<;>cases ht<;>simp[Zy,ZA,Zo]
   ·simp only[ZkM,Kd,ht,ZgA] at ha;exact ha.1
 case append sz by_ str flat x y=>
  simp only[vop] at h;obtain⟨g0,g2,g1,g3⟩:=Zwu h;refine⟨g0,fun k hk=>?_,fun k hk=>by simp only[g2,Ln] at hk⟩;have ab:k∈ce.eff.dels:=by
   rcases hk with hk | ⟨o',hk⟩
   ·exact hk
   ·simp only[g1,Ln] at hk
  rcases g3 k ab with g4 | ⟨g4,g5⟩
  ·refine⟨⟨x,by simp[ZH],?_⟩,fun a ha=>?_⟩
   ·rcases g4 with g4 | ⟨o,n,g4⟩<;>rw[g4]<;>simp[Zy,ZA,Zo]
   ·simp only[ZkM,Kd] at ha;rcases g4 with g4 | ⟨o,n,g4⟩<;>rw[g4] at ha<;>exact ha.1
  ·refine⟨⟨y,by simp[ZH],by rw[g5];simp[Zy,ZA,Zo]⟩,fun a ha=>?_⟩;simp only[ZkM,Kd,g4,Lv] at ha;rw[g5] at ha;exact ha.2
theorem Zx3 {C:Orc} {M:Zp} {os:List CO} {nx i j:Nat} {oi oj:CO} (ae:os[i]?=some oi) (ak:os[j]?=some oj) (ar:Z1 os i=true) (am:Z1 os j=false) (a3:i≠j) (au:XQ oj oi=true)
  (an:∀ (k:Nat) (o:CO),os[k]?=some o→∀ x∈ZH o.op,Vk x=true) {s s1 s2:Sl×Hp} {U:Nat→Prop} (hs:Zjf nt s U) (a4:Xk U (nx+64*i)) (av:Xk U (nx+64*j)) (hl:LooseS s.1 oj.op oi.op)
  (h1:ZJ C M os nx j s=some s1) (h2:ZJ C M os nx i s1=some s2):∃ t1,ZJ C M os nx i s=some t1∧∃ t2,ZJ C M os nx j t1=some t2∧X4 t2 s2:=by
 obtain⟨F,A,I,Γ,a,w,ag⟩:=hs;simp only[XQ,Kd] at au;obtain⟨⟨aw,ax⟩,al⟩:=au;have good:∀ (k:Nat) (o:CO),os[k]?=some o→∀ x∈ZH o.op,ZkK U (evO s.1 x):=by
  intro k o ho x hx;cases x with
  | t n=>exact ag.good n
  | v y=>exact ZaP (an k o ho _ hx)
  | f n=>exact⟨fun id a5=>by simp[evO,Zy,ZA] at a5,fun f a6 h c hc=>by cases h;simp at hc⟩
 simp only[ZJ,ak,Zg,am] at h1;simp only[ZJ,ae,Zg,ar] at h2;obtain⟨vj,aj,rfl,ao,ay⟩:=ZjO h1;obtain⟨a7,hl⟩:=hl;unfold ZS at h2;obtain⟨b,hw,h2⟩:=Za h2;have az : Z6 s.1 oi.guard=some b:=by rw[← hw];exact(QI aw).symm
 cases b with
 | false=>
  simp only[Ka,Kj] at h2;cases h2;refine⟨(Zt s.1 oi.dst (.tup []),s.2),by simp only[ZJ,ae,Zg,ZS,az,Ka,Kj],?_⟩;have e2:=ay (Zt s.1 oi.dst (.tup []),s.2) (QI al) (Xm C M s.2 (nx+64*j) (Ue (o:=oj) al));exact⟨(Zt (Zt s.1 oi.dst (.tup [])) oj.dst vj,Zi s.2 aj),by simp only[ZJ,ak,Zg,am];exact e2,fun t=>(Jq ax vj (.tup []) t).symm,fun id=>rfl⟩
 | true=>
  simp only[Kk] at h2;obtain⟨ce,h3,h4,rfl⟩:=XB h2;have a0 : vop C M s.1 s.2 (nx+64*i) oi.op=some ce:=by
   have h5:=Zfw h3;rw[← h5,Xm C M (Zi s.2 aj) (nx+64*i) (Ue (o:=oi) aw)];exact Zbp (ag.agree (Uf av ao s.2)) C M _ (good i oi ae)
  have aa:=J4 h4;obtain⟨k1,k2,k3⟩:=ZCV a7 a0;obtain⟨e,gn⟩:=ce;simp only at k1 k2 k3;subst k1;have ap:∀ k∈e.frz,U k:=fun k hk=>by
   obtain⟨x,hx,hk⟩:=k3 k hk;exact(good i oi ae x hx).1 k hk
  have ah:∀ k,k∈e.dels∨(∃ o,(k,o)∈e.sets)→U k:=fun k hk=>by
   obtain⟨⟨x,hx,hk⟩,_⟩:=k2 k hk;exact(good i oi ae x hx).1 k hk
  have ai:∀ s:Sl×Hp,Zf.on { eff:=e,gone:=[] } oi.dst s.1 s.2=(Zt s.1 oi.dst e.val,Zi (Zi (Qe (Qr e.frz s.2) e.dels) e.sets) e.adds):=by
   intro s;rfl
  refine⟨Zf.on { eff:=e,gone:=[] } oi.dst s.1 s.2,?_,?_⟩
  ·simp only[ZJ,ae,Zg,ZS,az,Kk,YZ,ar,WQ];rw[a0,Zg,Kl h4]
  ·have ab:∀ k,U k→¬(k∈e.dels∨∃ o,(k,o)∈e.sets)→FzEq (lkp s.2 k) (lkp (Zi (Zi (Qe (Qr e.frz s.2) e.dels) e.sets) e.adds) k):=by
    intro k hk aq;rw[not_or] at aq;rw[← Uf a4 aa _ k hk,ZG _ _ k (fun o ho=>aq.2 ⟨o,ho⟩),Ju _ _ k aq.1,Qi];exact⟨_,rfl⟩
   have e2:ZS C M nx j false oj (Zf.on { eff:=e,gone:=[] } oi.dst s.1 s.2)=some (Zt (Zf.on { eff:=e,gone:=[] } oi.dst s.1 s.2).1 oj.dst vj,Zi (Zf.on { eff:=e,gone:=[] } oi.dst s.1 s.2).2 aj):=by
    rw[ai];refine ay (Zt s.1 oi.dst e.val,Zi (Zi (Qe (Qr e.frz s.2) e.dels) e.sets) e.adds) (QI al) ?_;rw[Xm C M _ (nx+64*j) (Ue (o:=oj) al)];rcases hl with hl | ⟨a8,a9⟩
    ·exact ZkQ hl
    ·refine vop_fz a8 fun z hz k hk=>?_;refine ab k ((good j oj ak z hz).1 k hk) fun hp=>?_;exact Zqq (ZhE ((k2 k hp).2 _ a9) z hz) hk
   refine⟨_,by simp only[ZJ,ak,Zg,am];exact e2,fun t=>?_,fun k=>?_⟩
   ·rw[ai,ai (Zt s.1 oj.dst vj,Zi s.2 aj)];exact(Jq ax vj e.val t).symm
   ·rw[ai,ai (Zt s.1 oj.dst vj,Zi s.2 aj)];show lkp (Zi (Zi (Zi (Qe (Qr e.frz s.2) e.dels) e.sets) e.adds) aj) k=lkp (Zi (Zi (Qe (Qr e.frz (Zi s.2 aj)) e.dels) e.sets) e.adds) k;have a1:∀ (B:Hp) (hp hp' : Hp),(∀ k,lkp hp k=lkp hp' k)→∀ k,lkp (Zi hp B) k=lkp (Zi hp' B) k:=fun B hp hp' h=>Zcx B h;have ad:∀ k,U k→∀ o',(k,o')∉aj:=fun k hk o' af=>by
     have:=ao k o' af;exact av k this.1 this.2 hk
    rw[Ztj (A:=e.adds) (B:=aj) (fun k x y hx hy=>by
     have:=aa k x hx;have:=ao k y hy;rcases LV a3 with h | h<;>omega)]
    refine a1 e.adds _ _ (fun k=>?_) k;rw[Ztj (A:=e.sets) (B:=aj) (fun k x y hx hy=>ad k (ah k (.inr ⟨x,hx⟩)) y hy) (Qe (Qr e.frz s.2) e.dels) k];refine a1 e.sets _ _ (fun k=>?_) k;by_cases hd:k∈e.dels
    ·rw[ZG aj _ k (ad k (ah k (.inl hd))),Zqs hd,Zqs hd]
    ·rw[Ju _ _ k hd];rw[Qi];by_cases hk:∃ o',(k,o')∈aj
     ·obtain⟨o',af⟩:=hk;rw[Zdz (hp':=s.2) ⟨o',af⟩];have a':k∉e.frz:=fun hf=>ad k (ap k hf) o' af;cases lkp (Zi s.2 aj) k<;>simp[a']
     ·have a2 : ∀ o',(k,o')∉aj:=fun o' af=>hk ⟨o',af⟩;rw[ZG aj _ k a2,ZG aj _ k a2,Ju _ _ k hd,Qi]
theorem ZAa {C:Orc} {M:Zp} {os:List CO} {nx i j:Nat} {oi oj:CO} (ab:os[i]?=some oi) (ad:os[j]?=some oj) (ae:Zys oi.op=true) (af:Z1 os j=false) (ag:i≠j) (ah:XQ oj oi=true)
  (aa:∀ (k:Nat) (o:CO),os[k]?=some o→∀ x∈ZH o.op,Vk x=true) {s s1 s2:Sl×Hp} {U:Nat→Prop} (hs:Zjf nt s U) (ai:Xk U (nx+64*i)) (aj:Xk U (nx+64*j))
  (h1:ZJ C M os nx j s=some s1) (h2:ZJ C M os nx i s1=some s2):∃ t1,ZJ C M os nx i s=some t1∧∃ t2,ZJ C M os nx j t1=some t2∧X4 t2 s2:=by
 have e:∀ s:Sl×Hp,ZJ C M os nx i s=ZS C M nx i false oi s:=fun s=>by
  simp only[ZJ,ab,Zg];cases Z1 os i
  ·rfl
  ·exact Zz7 ae s
 rw[e] at h2;simp only[e];exact Zqn ab ad af ag ah aa hs ai aj h1 h2
theorem ZuP {hp:Hp} {base s:Nat} {vs:List AV} {ce:Zf} (h:buildSl hp base s vs=some ce):ce.gone=[]:=by
 cases vs with
 | nil=>simp only[buildSl,QD] at h;first | (cases h;rfl) | (split at h<;>first | (cases h;rfl) | cases h)
 | cons v r=>
  simp only[buildSl] at h;obtain⟨q,_,h⟩:=Za h;unfold ZAz at h;split at h
  ·cases h;rfl
  ·cases h
theorem Zwv {C:Orc} {M:Zp} {sl:Sl} {hp:Hp} {base:Nat} {c:COp} {ce:Zf} (hc:Zgy c=true) (h:vop C M sl hp base c=some ce):ce.gone=[]:=by
 cases c<;>first | (cases hc;done) | skip
 ·simp only[vop] at h;exact ZuP h
 ·simp only[vop] at h;exact(Zwu h).1
theorem ZAb {C:Orc} {M:Zp} {nx j:Nat} {oj:CO} {s s1:Sl×Hp} (hm:VF oj.op=true) (h:ZS C M nx j false oj s=some s1) :
  ∃ v,s1=(Zt s.1 oj.dst v,s.2)∧∀ aa : Sl×Hp,Z6 aa.1 oj.guard=Z6 s.1 oj.guard→(∀ x∈ZH oj.op,evO aa.1 x=evO s.1 x)→ZS C M nx j false oj aa=some (Zt aa.1 oj.dst v,aa.2):=by
 obtain⟨x,hx⟩:∃ x,oj.op=.move x:=by
  cases ho:oj.op<;>rw[ho] at hm<;>first | (cases hm;done) | exact⟨_,rfl⟩
 unfold ZS at h ⊢;obtain⟨b,hw,h⟩:=Za h;cases b with
 | true=>
  simp only[Kk,hx,WQ,Ka,Kj,vop] at h;refine⟨evO s.1 x,?_,fun aa g1 g2=>?_⟩
  ·cases h;rfl
  ·rw[g1,hw,Zg];have e:=g2 x (by rw[hx];simp[ZH]);simp only[Kk,hx,WQ,Ka,Kj,vop,e];rfl
 | false=>
  simp only[Ka,Kj] at h;cases h;refine⟨.tup [],rfl,fun aa g1 g2=>?_⟩;rw[g1,hw,Zg];rfl
theorem ZAc {C:Orc} {M:Zp} {os:List CO} {nx i j:Nat} {oi oj:CO} (ad:os[i]?=some oi) (ae:os[j]?=some oj) (af:Z1 os j=false) (ah:XQ oj oi=true)
  {s s1 s2:Sl×Hp} (hm:VF oj.op=true) (hg:Zgy oi.op=true)
  (h1:ZJ C M os nx j s=some s1) (h2:ZJ C M os nx i s1=some s2):∃ t1,ZJ C M os nx i s=some t1∧∃ t2,ZJ C M os nx j t1=some t2∧X4 t2 s2:=by
 simp only[XQ,Kd] at ah;obtain⟨⟨ai,aj⟩,ab⟩:=ah;simp only[ZJ,ae,Zg,af] at h1;simp only[ZJ,ad,Zg] at h2;obtain⟨vj,rfl,ak⟩:=ZAb hm h1;unfold ZS at h2;obtain⟨b,hw,h2⟩:=Za h2;have al : Z6 s.1 oi.guard=some b:=by rw[← hw];exact(QI ai).symm
 cases b with
 | false=>
  simp only[Ka,Kj] at h2;cases h2;refine⟨(Zt s.1 oi.dst (.tup []),s.2),by simp only[ZJ,ad,Zg,ZS,al,Ka,Kj],?_⟩;exact⟨(Zt (Zt s.1 oi.dst (.tup [])) oj.dst vj,s.2),by simp only[ZJ,ae,Zg,af];exact ak (Zt s.1 oi.dst (.tup []),s.2) (QI ab) (Ue (o:=oj) ab),fun t=>(Jq aj vj (.tup []) t).symm,fun id=>rfl⟩
 | true=>
  simp only[Kk] at h2;obtain⟨ce,h3,h4,rfl⟩:=XB h2;have aa:=Zwv hg (Zfw h3);have am : WQ C M nx i (Z1 os i) oi.op s.1 s.2=some ce:=by
   rw[← h3];unfold WQ;rw[Xm C M s.2 (nx+64*i) (Ue (o:=oi) ai)]
  have ag:∀ (sl:Sl) (hp:Hp),ce.on oi.dst sl hp=(Zt sl oi.dst ce.eff.val,ce.eff.on hp):=by
   intro sl hp;unfold Zf.on;rw[aa];rfl
  refine⟨ce.on oi.dst s.1 s.2,?_,?_⟩
  ·simp only[ZJ,ad,Zg,ZS,al,Kk,YZ];rw[am,Zg,Kl h4]
  ·rw[ag];refine⟨(Zt (Zt s.1 oi.dst ce.eff.val) oj.dst vj,ce.eff.on s.2),by simp only[ZJ,ae,Zg,af];exact ak (Zt s.1 oi.dst ce.eff.val,ce.eff.on s.2) (QI ab) (Ue (o:=oj) ab),fun t=>?_,fun k=>?_⟩
   ·rw[ag];exact(Jq aj vj ce.eff.val t).symm
   ·rw[ag]
theorem awayV_ptr {sl:Sl} {xs:List Opd} {v:AV} (h:ZdQ sl xs v=true) {k off:Nat} (e:v=.ptr k off):∀ z∈xs,k∉Zy (evO sl z):=by
 subst e;exact fun z hz=>Zqq (ZhE h z hz)
structure Zqt (r:Sl) (oX oY:CO):Prop where
 opd:∀ x∈ZH oX.op,okV (evO r x)=true
 dst:∀ t,oX.dst=some t→okV (gs r t)=true
 arg:∀ y∈Zmm oY.op,okV (evO r y)=true
 away:∀ y∈Zmm oY.op,∀ k off,evO r y=.ptr k off→∀ z∈ZH oX.op,k∉Zy (evO r z)
theorem ZuQ {sl:Sl}:∀ {xs:List Opd},okL sl xs=true→∀ x∈xs,okV (evO sl x)=true
 | [],_,x,hx=>by simp at hx
 | y :: ys,h,x,hx=>by
  simp only[okL,Kd] at h;rcases Kg.1 hx with rfl | hx
  ·exact h.1
  ·exact ZuQ h.2 x hx
theorem Ztk {sl:Sl} {xs:List Opd}:∀ {ys:List Opd},ZhW sl xs ys=true→∀ y∈ys,ZdQ sl xs (evO sl y)=true
 | [],_,x,hx=>by simp at hx
 | y :: ys,h,x,hx=>by
  simp only[ZhW,Kd] at h;rcases Kg.1 hx with rfl | hx
  ·exact h.1
  ·exact Ztk h.2 x hx
theorem Zww {r:Sl} {oX oY:CO} (hm:VF oX.op=false) (hc:ZbL oY.op=true) (h:JP r oX.dst oX.op oY.op=true):Zqt r oX oY:=by
 obtain⟨f,as,ho⟩:∃ f as,oY.op=.call (.f f) as:=by
  cases ho:oY.op<;>rw[ho] at hc<;>first | (cases hc;done) | skip
  rename_i f as;cases f<;>first | (cases hc;done) | exact⟨_,_,rfl⟩
 rw[ho] at h;have h' : (okL r (ZH oX.op)&&(okD r oX.dst&&(okL r as&&ZhW r (ZH oX.op) as)))=true:=by
  cases hx:oX.op<;>rw[hx] at h hm<;>first | (cases hm;done) | exact h
 simp only[Kd] at h';obtain⟨h1,h2,h3,h4⟩:=h';refine⟨ZuQ h1,fun t ht=>?_,?_,?_⟩
 ·rw[ht] at h2;exact h2
 ·rw[ho];exact ZuQ h3
 ·rw[ho];intro y hy k off e;exact awayV_ptr (Ztk h4 y hy) e
theorem Zqt.move {r r' : Sl} {oX oY:CO} (h:Zqt r oX oY) (h1:∀ n∈(ZH oX.op).flatMap Zcg,okV (gs r n)=true→gs r' n=gs r n) (h2:∀ n,oX.dst=some n→okV (gs r n)=true→gs r' n=gs r n)
  (h3:∀ n∈(Zmm oY.op).flatMap Zcg,okV (gs r n)=true→gs r' n=gs r n):Zqt r' oX oY:=by
 have e1:∀ x∈ZH oX.op,evO r' x=evO r x:=fun x hx=>by
  have ho:=h.opd x hx;cases x with
  | t n=>exact h1 n (Kx.2 ⟨_,hx,by simp[Zcg]⟩) ho
  | _=>rfl
 have e3:∀ x∈Zmm oY.op,evO r' x=evO r x:=fun x hx=>by
  have ho:=h.arg x hx;cases x with
  | t n=>exact h3 n (Kx.2 ⟨_,hx,by simp[Zcg]⟩) ho
  | _=>rfl
 refine⟨fun x hx=>by rw[e1 x hx];exact h.opd x hx,fun t ht=>by rw[h2 t ht (h.dst t ht)];exact h.dst t ht,fun x hx=>by rw[e3 x hx];exact h.arg x hx,fun y hy k off e z hz=>?_⟩;rw[e3 y hy] at e;rw[e1 z hz];exact h.away y hy k off e z hz
theorem Zqu {C:Orc} {M:Zp} (hM:∀ f,M f 99=false) {os:List CO} {nx x y:Nat} {oX oY:CO} (ay:os[x]?=some oX) (a1:os[y]?=some oY) (a2:x≠y) (ak:QS oY.dst (VE oX)=true) (aw:QS oX.dst (VE oY)=true)
  (ad:QS oX.dst (VE oX)=true) (al:QS oY.dst (VE oY)=true)
  (ar:∀ (k:Nat) (o:CO),os[k]?=some o→∀ x∈ZH o.op,Vk x=true) {s:Sl×Hp} {r:Sl} {U:Nat→Prop} (hs:Zjf nt s U) (a3:Xk U (nx+64*x)) (a4:Xk U (nx+64*y))
  (ae:ZbL oY.op=true) {ce:Zf} (a5:vop C M s.1 s.2 (nx+64*y) oY.op=some ce) (a6:Q5 (nx+64*y) (nx+64*y+64) ce.eff.adds=true)
  (am:∀ n,oX.dst≠some n→oY.dst≠some n→gs r n=kill ce.gone (gs s.1 n)) (aa:Zqt r oX oY) :
  ce.eff.dels=[]∧(∀ z∈ZH oX.op,evO (ce.on oY.dst s.1 s.2).1 z=evO s.1 z)∧(∀ z∈ZH oX.op,∀ id∈Zy (evO s.1 z),id∉ce.gone)∧(∀ z∈ZH oX.op,ZkP ce.gone s.2 (ce.on oY.dst s.1 s.2).2 (evO s.1 z)) ∧
  (∀ k,nx+64*x≤k→k<nx+64*x+64→(∀ o',(k,o')∉ce.eff.sets)∧(∀ o',(k,o')∉ce.eff.adds)∧k∉ce.eff.frz∧k∉ce.gone):=by
 obtain⟨F,A,I,Γ,a,w,au⟩:=hs;have good:∀ (k:Nat) (o:CO),os[k]?=some o→∀ x∈ZH o.op,ZkK U (evO s.1 x):=by
  intro k o ho x hx;cases x with
  | t n=>exact au.good n
  | v y=>exact ZaP (ar k o ho _ hx)
  | f n=>exact⟨fun id av=>by simp[evO,Zy,ZA] at av,fun f a7 h c hc=>by cases h;simp at hc⟩
 obtain⟨f,as,ho⟩:∃ f as,oY.op=.call (.f f) as:=by
  cases ho:oY.op<;>rw[ho] at ae<;>first | (cases ae;done) | skip
  rename_i f as;cases f<;>first | (cases ae;done) | exact⟨_,_,rfl⟩
 have an:=a5;rw[ho] at an;simp only[vop,evO,ZeY,KJ] at an;obtain⟨k1,k2,k3,k4⟩:=ZAm an (hM _);have ab:∀ n,(Opd.t n)∈ZH oX.op→n∈VE oX:=fun n hn=>Kf.2 (.inl (Kx.2 ⟨_,hn,by simp[Zcg]⟩));have ai:∀ n,(Opd.t n)∈as→n∈VE oY:=fun n hn=>Kf.2 (.inl (Kx.2 ⟨.t n,by rw[ho];simp[ZH,hn],by simp[Zcg]⟩));have ne:∀ {d:Option Nat} {l:List Nat} {n:Nat},QS d l=true→n∈l→d≠some n:=fun {d l n} h hn e=>by
  rw[e] at h;simp only[QS,KS,K0,KT] at h;exact h hn
 have ax:∀ z∈ZH oX.op,evO r z=evO s.1 z∧∀ id∈Zy (evO s.1 z),id∉ce.gone:=by
  intro z hz;have af:=aa.opd z hz;cases z with
  | t n=>
   have e:=am n (ne ad (ab n hz)) (ne ak (ab n hz));simp only[evO] at af ⊢;rw[e] at af ⊢;have:=Zdw af;exact⟨this,ZBB this⟩
  | v c=>
   have:=ar x oX ay _ hz;simp only[Vk,Kd,List.isEmpty_iff] at this;exact⟨rfl,fun id av=>by simp only[evO] at av;rw[this.1] at av;simp at av⟩
  | f n=>simp only[evO,okV,okC] at af;cases af
 have az:∀ z∈as,evO r z=evO s.1 z:=by
  intro z hz;have af:=aa.arg z (by rw[ho];exact hz);cases z with
  | t n=>
   have e:=am n (ne aw (ai n hz)) (ne al (ai n hz));simp only[evO] at af ⊢;rw[e] at af ⊢;exact Zdw af
  | _=>rfl
 have a0:∀ id,(∃ o,lkp s.2 id=some o)→U id:=fun id ⟨o,h⟩=>au.id_in h;have uX:∀ k,nx+64*x≤k→k<nx+64*x+64→¬U k:=fun k h1 h2=>a3 k h1 h2;have aj:=J4 a6;have ag:∀ z∈ZH oX.op,∀ k∈Zy (evO s.1 z),∀ o',(k,o')∉ce.eff.sets:=by
  intro z hz k hk o' ao;rcases (k4 k o' ao).2 with h | ⟨v,hv,ap⟩
  ·exact(ax z hz).2 k hk h
  ·obtain⟨y',aq,rfl⟩:=Zit hv;have ah:=aa.arg y' (by rw[ho];exact aq);rw[az y' aq] at ah;cases hp:evO s.1 y' with
   | ptr a b=>
    rw[hp] at ap;simp only[Zbc,KH] at ap;subst ap;have:=aa.away y' (by rw[ho];exact aq) k b (by rw[az y' aq,hp]) z hz;rw[(ax z hz).1] at this;exact this hk
   | clo g cs=>rw[hp] at ah;simp only[okV,okC] at ah;cases ah
   | _=>rw[hp] at ap;simp[Zbc] at ap
 refine⟨k1,fun z hz=>?_,fun z hz=>(ax z hz).2,fun z hz k hk=>?_,fun k g1 g2=>⟨fun o' ao=>?_,fun o' ao=>?_,fun hf=>?_,fun hg=>?_⟩⟩
 ·cases z with
  | t n=>
   show gs (Zt (Xl ce.gone s.1) oY.dst ce.eff.val) n=gs s.1 n;rw[QG,Ki (ne ak (ab n hz)),QU];have e:=am n (ne ad (ab n hz)) (ne ak (ab n hz));have:=aa.opd _ hz;simp only[evO] at this;rw[e] at this;exact Zdw this
  | _=>rfl
 ·have a8:U k:=(good x oX ay z hz).1 k hk;show Zdx ce.gone (lkp s.2 k) (lkp (ce.eff.on (WN ce.gone s.2)) k);unfold Eff.on;rw[k1];simp only[Qe];rw[ZG,ZG,Qi,Uc]
  ·exact ZwA _
  ·exact ag z hz k hk
  ·intro o' ao;obtain⟨h1,h2⟩:=aj k o' ao;exact a4 k h1 h2 a8
 ·exact uX k g1 g2 (a0 k (k4 k o' ao).1)
 ·have:=aj k o' ao;rcases LV a2 with h | h<;>omega
 ·obtain⟨v,hv,ap⟩:=k2 k hf;obtain⟨y',aq,rfl⟩:=Zit hv;exact uX k g1 g2 ((good y oY a1 y' (by rw[ho];simp[ZH,aq])).1 k ap)
 ·exact uX k g1 g2 (a0 k (k3 k hg))
theorem Zx4 {C:Orc} {M:Zp} (hM:∀ f,M f 99=false) {os:List CO} {nx i j:Nat} {oi oj:CO} (ah:os[i]?=some oi) (av:os[j]?=some oj) (az:Z1 os j=false) (a0:i≠j) (aw:XQ oj oi=true)
  (ad:QS oj.dst (VE oj)=true) (ae:QS oi.dst (VE oi)=true)
  (ai:∀ (k:Nat) (o:CO),os[k]?=some o→∀ x∈ZH o.op,Vk x=true) {s s1 s2:Sl×Hp} {U:Nat→Prop} (hs:Zjf nt s U) (a1:Xk U (nx+64*i)) (ap:Xk U (nx+64*j))
  (aj:ZbL oi.op=true) (a2:Zq5 oj.op=true) (aa:Zqt s2.1 oj oi) {t:Nat} (ht:oj.dst=some t)
  (h1:ZJ C M os nx j s=some s1) (h2:ZJ C M os nx i s1=some s2):∃ t1,ZJ C M os nx i s=some t1∧∃ t2,ZJ C M os nx j t1=some t2∧X4 t2 s2:=by
 have a3:=hs;obtain⟨F,A,I,Γ,a,w,af⟩:=a3;simp only[XQ,Kd] at aw;obtain⟨⟨am,an⟩,ao⟩:=aw;have good:∀ (k:Nat) (o:CO),os[k]?=some o→∀ x∈ZH o.op,ZkK U (evO s.1 x):=by
  intro k o ho x hx;cases x with
  | t n=>exact af.good n
  | v y=>exact ZaP (ai k o ho _ hx)
  | f n=>exact⟨fun id a4=>by simp[evO,Zy,ZA] at a4,fun f a5 h c hc=>by cases h;simp at hc⟩
 have ab:∀ s:Sl×Hp,ZJ C M os nx j s=ZS C M nx j false oj s:=fun s=>by simp only[ZJ,av,Zg,az]
 rw[ab] at h1;simp only[ZJ,ah,Zg] at h2;obtain⟨v,ax,a6,aq,hX⟩:∃ v ax,s1=(Zt s.1 oj.dst v,Zi s.2 ax)∧(∀ k x,(k,x)∈ax→nx+64*j≤k∧k<nx+64*j+64) ∧
   ((Z6 s.1 oj.guard=some false∧v=.tup []∧ax=[])∨(Z6 s.1 oj.guard=some true∧∃ ce,Zl9 ce∧vop C M s.1 s.2 (nx+64*j) oj.op=some ce∧Q5 (nx+64*j) (nx+64*j+64) ce.eff.adds=true∧v=ce.eff.val∧ax=ce.eff.adds)):=by
  rcases Zyd h1 with ⟨g1,g2⟩ | ⟨g1,ce,g2,g3,g4,g5⟩
  ·exact⟨.tup [],[],g2,fun k x h=>by simp at h,.inl ⟨g1,rfl,rfl⟩⟩
  ·exact⟨ce.eff.val,ce.eff.adds,g5,J4 g4,.inr ⟨g1,ce,g2,g3,g4,rfl,rfl⟩⟩
 subst a6;unfold ZS at h2;obtain⟨b,hw,h2⟩:=Za h2;have ay : Z6 s.1 oi.guard=some b:=by rw[← hw];exact(QI am).symm
 cases b with
 | false=>
  simp only[Ka,Kj] at h2;cases h2;refine⟨(Zt s.1 oi.dst (.tup []),s.2),by simp only[ZJ,ah,Zg];exact YX ay,?_⟩;refine⟨(Zt (Zt s.1 oi.dst (.tup [])) oj.dst v,Zi s.2 ax),?_,fun t=>(Jq an v (.tup []) t).symm,fun id=>rfl⟩;rw[ab];have ak:Z6 (Zt s.1 oi.dst (.tup [])) oj.guard=Z6 s.1 oj.guard:=QI ao;rcases hX with ⟨g1,rfl,rfl⟩ | ⟨g1,ce,g2,g3,g4,rfl,rfl⟩
  ·exact YX (s:=(Zt s.1 oi.dst (.tup []),s.2)) (ak.trans g1)
  ·refine Ziv (s:=(Zt s.1 oi.dst (.tup []),s.2)) (ak.trans g1) g2 ?_ g4;rw[← g3];exact Xm C M s.2 (nx+64*j) (Ue (o:=oj) ao)
 | true=>
  simp only[Kk] at h2;obtain⟨ce,h3,h4,rfl⟩:=XB h2;have a7:vop C M s.1 s.2 (nx+64*i) oi.op=some ce:=by
   have h5:=Zfw h3;rw[← h5,Xm C M (Zi s.2 ax) (nx+64*i) (Ue (o:=oi) am)];exact Zbp (af.agree (Uf ap aq s.2)) C M _ (good i oi ah)
  have a8 : WQ C M nx i (Z1 os i) oi.op s.1 s.2=some ce:=by
   rw[← h3];unfold WQ;rw[Xm C M (Zi s.2 ax) (nx+64*i) (Ue (o:=oi) am),Zbp (af.agree (Uf ap aq s.2)) C M _ (good i oi ah)]
  have ar:∀ n,oj.dst≠some n→oi.dst≠some n→gs (ce.on oi.dst (Zt s.1 oj.dst v) (Zi s.2 ax)).1 n=kill ce.gone (gs s.1 n):=fun n e1 e2=>by
   show gs (Zt (Xl ce.gone (Zt s.1 oj.dst v)) oi.dst ce.eff.val) n=_;rw[QG,Ki e2,QU,QG,Ki e1]
  obtain⟨c1,c2,c3,c4,c5⟩:=Zqu (nt:=nt) hM av ah (Ne.symm a0) ao am ad ae ai hs ap a1 aj a7 h4 ar aa;have e0:gs (ce.on oi.dst (Zt s.1 oj.dst v) (Zi s.2 ax)).1 t=kill ce.gone v:=by
   show gs (Zt (Xl ce.gone (Zt s.1 oj.dst v)) oi.dst ce.eff.val) t=_;rw[QG,Ki,QU,QG,Kl ht];intro e;rw[ht,e] at an;simp[Zbv] at an
  have ag:kill ce.gone v=v:=by
   have h5:=aa.dst t ht;rw[e0] at h5;exact Zdw h5
  have au:okV v=true:=by
   have h5:=aa.dst t ht;rw[e0,ag] at h5;exact h5
  refine⟨ce.on oi.dst s.1 s.2,?_,?_⟩
  ·simp only[ZJ,ah,Zg,ZS,ay,Kk,YZ];rw[a8,Zg,Kl h4]
  ·have ak:Z6 (ce.on oi.dst s.1 s.2).1 oj.guard=Z6 s.1 oj.guard:=by
    show Z6 (Zt (Xl ce.gone s.1) oi.dst ce.eff.val) oj.guard=_;rw[QI ao];exact Ziw fun q _=>QU _ _ _
   have al:(∀ k o,(k,o)∈ax→Xt ce.gone o=o)∧ZS C M nx j false oj (ce.on oi.dst s.1 s.2)=some (Zt (ce.on oi.dst s.1 s.2).1 oj.dst v,Zi (ce.on oi.dst s.1 s.2).2 ax):=by
    rcases hX with ⟨g1,rfl,rfl⟩ | ⟨g1,cx,g2,g3,g4,rfl,rfl⟩
    ·exact⟨fun k o h=>by simp at h,YX (ak.trans g1)⟩
    ·obtain⟨e1,e2⟩:=ZAk a2 c2 c4 (fun k h6 h7=>(c5 k h6 h7).2.2.2) g3 g4 g2.frz au ag;exact⟨e2,Ziv (ak.trans g1) g2 e1 g4⟩
   obtain⟨e3,e4⟩:=al;refine⟨_,by rw[ab];exact e4,?_⟩;exact Zzf (ce:=ce) (dX:=oj.dst) (dY:=oi.dst) (v:=v) (ax:=ax) (s:=s) an c1 (fun k o ho=>by
    obtain⟨h6,h7⟩:=aq k o ho;obtain⟨m1,m2,m3,_⟩:=c5 k h6 h7;exact⟨m1,m2,m3⟩) e3 ag
theorem Zwx {C:Orc} {M:Zp} (hM:∀ f,M f 99=false) {os:List CO} {nx i j:Nat} {oi oj:CO} (ar:os[i]?=some oi) (ag:os[j]?=some oj) (ay:Z1 os i=false) (az:i≠j) (au:XQ oj oi=true)
  (ad:QS oi.dst (VE oi)=true) (ae:QS oj.dst (VE oj)=true)
  (ah:∀ (k:Nat) (o:CO),os[k]?=some o→∀ x∈ZH o.op,Vk x=true) {s s1 s2:Sl×Hp} {U:Nat→Prop} (hs:Zjf nt s U) (av:Xk U (nx+64*i)) (a0:Xk U (nx+64*j))
  (ai:ZbL oj.op=true) (a1:Zk6 oi.op=true) (ab:Zqt s2.1 oi oj) {t:Nat} (ht:oi.dst=some t)
  (h1:ZJ C M os nx j s=some s1) (h2:ZJ C M os nx i s1=some s2):∃ t1,ZJ C M os nx i s=some t1∧∃ t2,ZJ C M os nx j t1=some t2∧X4 t2 s2:=by
 have a2:=hs;obtain⟨F,A,I,Γ,a,w,aj⟩:=a2;simp only[XQ,Kd] at au;obtain⟨⟨an,ao⟩,ak⟩:=au;have af : Zbv oi.dst oj.dst=true:=by
  cases hd:oi.dst<;>cases he:oj.dst<;>rw[hd,he] at ao<;>first | rfl | (simp only[Zbv,bne_iff_ne,ne_eq] at ao ⊢;exact fun e=>ao e.symm)
 have good:∀ (k:Nat) (o:CO),os[k]?=some o→∀ x∈ZH o.op,ZkK U (evO s.1 x):=by
  intro k o ho x hx;cases x with
  | t n=>exact aj.good n
  | v y=>exact ZaP (ah k o ho _ hx)
  | f n=>exact⟨fun id a3=>by simp[evO,Zy,ZA] at a3,fun f a4 h c hc=>by cases h;simp at hc⟩
 have aa:∀ s:Sl×Hp,ZJ C M os nx i s=ZS C M nx i false oi s:=fun s=>by simp only[ZJ,ar,Zg,ay]
 rw[aa] at h2;simp only[ZJ,ag,Zg] at h1;unfold ZS at h1;obtain⟨b,hw,h1⟩:=Za h1;cases b with
 | false=>
  simp only[Ka,Kj] at h1;cases h1;have al:Z6 (Zt s.1 oj.dst (.tup [])) oi.guard=Z6 s.1 oi.guard:=QI an;rcases Zyd h2 with ⟨g1,g2⟩ | ⟨g1,ce,g2,g3,g4,g5⟩
  ·subst g2;refine⟨(Zt s.1 oi.dst (.tup []),s.2),by rw[aa];exact YX (al.symm.trans g1),(Zt (Zt s.1 oi.dst (.tup [])) oj.dst (.tup []),s.2),?_,fun t=>Jq af _ _ t,fun id=>rfl⟩;simp only[ZJ,ag,Zg];exact YX (s:=(Zt s.1 oi.dst (.tup []),s.2)) ((QI ak).trans hw)
  ·subst g5;refine⟨(Zt s.1 oi.dst ce.eff.val,Zi s.2 ce.eff.adds),?_,(Zt (Zt s.1 oi.dst ce.eff.val) oj.dst (.tup []),Zi s.2 ce.eff.adds),?_,fun t=>Jq af _ _ t,fun id=>rfl⟩
   ·rw[aa];refine Ziv (al.symm.trans g1) g2 ?_ g4;rw[← g3];exact(Xm C M s.2 (nx+64*i) (Ue (o:=oi) an)).symm
   ·simp only[ZJ,ag,Zg];exact YX (s:=(Zt s.1 oi.dst ce.eff.val,Zi s.2 ce.eff.adds)) ((QI ak).trans hw)
 | true=>
  simp only[Kk] at h1;obtain⟨ce,h3,h4,rfl⟩:=XB h1;have a5:vop C M s.1 s.2 (nx+64*j) oj.op=some ce:=Zfw h3;have al:Z6 (ce.on oj.dst s.1 s.2).1 oi.guard=Z6 s.1 oi.guard:=by
   show Z6 (Zt (Xl ce.gone s.1) oj.dst ce.eff.val) oi.guard=_;rw[QI an];exact Ziw fun q _=>QU _ _ _
  obtain⟨v,ax,a6,aw,hX⟩:∃ v ax,s2=(Zt (ce.on oj.dst s.1 s.2).1 oi.dst v,Zi (ce.on oj.dst s.1 s.2).2 ax)∧(∀ k x,(k,x)∈ax→nx+64*i≤k∧k<nx+64*i+64) ∧
    ((Z6 s.1 oi.guard=some false∧v=.tup []∧ax=[])∨(Z6 s.1 oi.guard=some true∧∃ cx,Zl9 cx∧vop C M (ce.on oj.dst s.1 s.2).1 (ce.on oj.dst s.1 s.2).2 (nx+64*i) oi.op=some cx∧Q5 (nx+64*i) (nx+64*i+64) cx.eff.adds=true∧v=cx.eff.val∧ax=cx.eff.adds)):=by
   rcases Zyd h2 with ⟨g1,g2⟩ | ⟨g1,cx,g2,g3,g4,g5⟩
   ·exact⟨.tup [],[],g2,fun k x h=>by simp at h,.inl ⟨al.symm.trans g1,rfl,rfl⟩⟩
   ·exact⟨cx.eff.val,cx.eff.adds,g5,J4 g4,.inr ⟨al.symm.trans g1,cx,g2,g3,g4,rfl,rfl⟩⟩
  subst a6;have ap:∀ n,oi.dst≠some n→oj.dst≠some n→gs (Zt (ce.on oj.dst s.1 s.2).1 oi.dst v) n=kill ce.gone (gs s.1 n):=fun n e1 e2=>by
   rw[QG,Ki e1];show gs (Zt (Xl ce.gone s.1) oj.dst ce.eff.val) n=_;rw[QG,Ki e2,QU]
  obtain⟨c1,c2,c3,c4,c5⟩:=Zqu (nt:=nt) hM ar ag az an ak ad ae ah hs av a0 ai a5 h4 ap ab;have aq:okV v=true:=by
   have h5:=ab.dst t ht;simp only[QG,Kl ht] at h5;exact h5
  have am:kill ce.gone v=v∧(∀ k o,(k,o)∈ax→Xt ce.gone o=o)∧ZS C M nx i false oi s=some (Zt s.1 oi.dst v,Zi s.2 ax):=by
   rcases hX with ⟨g1,rfl,rfl⟩ | ⟨g1,cx,g2,g3,g4,rfl,rfl⟩
   ·exact⟨rfl,fun k o h=>by simp at h,YX g1⟩
   ·obtain⟨e1,e2,e3⟩:=Zyc a1 c2 c4 c3 (fun k h6 h7=>(c5 k h6 h7).2.2.2) g3 g4 g2.frz aq;exact⟨e2,e3,Ziv g1 g2 e1 g4⟩
  obtain⟨hk,e3,e4⟩:=am;refine⟨(Zt s.1 oi.dst v,Zi s.2 ax),by rw[aa];exact e4,ce.on oj.dst (Zt s.1 oi.dst v) (Zi s.2 ax),?_,?_⟩
  ·simp only[ZJ,ag,Zg,ZS];have a7:Z6 (Zt s.1 oi.dst v) oj.guard=some true:=(QI ak).trans hw;simp only[a7,Zg,Kk,YZ];have:WQ C M nx j (Z1 os j) oj.op (Zt s.1 oi.dst v) (Zi s.2 ax)=some ce:=by
    rw[← h3];unfold WQ;rw[Xm C M (Zi s.2 ax) (nx+64*j) (Ue (o:=oj) ak),← Zbp (aj.agree (Uf av aw s.2)) C M _ (good j oj ag)]
   rw[this,Zg,Kl h4]
  ·exact(Zzf (ce:=ce) (dX:=oi.dst) (dY:=oj.dst) (v:=v) (ax:=ax) (s:=s) af c1 (fun k o ho=>by
    obtain⟨h6,h7⟩:=aw k o ho;obtain⟨m1,m2,m3,_⟩:=c5 k h6 h7;exact⟨m1,m2,m3⟩) e3 hk).symm
theorem Zgi {C:Orc} {M:Zp} {nx j:Nat} {oj:CO} {x:Opd} (hx:oj.op=.move x) {s:Sl×Hp} {b:Bool} (hw:Z6 s.1 oj.guard=some b) :
  ZS C M nx j false oj s=some (Zt s.1 oj.dst (if b then evO s.1 x else .tup []),s.2):=by
 unfold ZS;rw[hw,Zg];cases b
 ·rfl
 ·simp only[Kk,hx,WQ,Ka,Kj,vop];rfl
theorem Zx5 {C:Orc} {M:Zp} {os:List CO} {nx i j:Nat} {oi oj:CO} (af:os[i]?=some oi) (am:os[j]?=some oj) (an:Z1 os j=false) (ai:XQ oj oi=true)
  (ao:∀ (k:Nat) (o:CO),os[k]?=some o→∀ x∈ZH o.op,Vk x=true)
  {s s1 s2:Sl×Hp} (hm:VF oj.op=true) {t:Nat} (ht:oj.dst=some t) (aj:okV (gs s2.1 t)=true)
  (h1:ZJ C M os nx j s=some s1) (h2:ZJ C M os nx i s1=some s2):∃ t1,ZJ C M os nx i s=some t1∧∃ t2,ZJ C M os nx j t1=some t2∧X4 t2 s2:=by
 obtain⟨x,hx⟩:∃ x,oj.op=.move x:=by
  cases ho:oj.op<;>rw[ho] at hm<;>first | (cases hm;done) | exact⟨_,rfl⟩
 simp only[XQ,Kd] at ai;obtain⟨⟨ak,ad⟩,ab⟩:=ai;have aa:∀ s:Sl×Hp,ZJ C M os nx j s=ZS C M nx j false oj s:=fun s=>by simp only[ZJ,am,Zg,an]
 rw[aa] at h1;obtain⟨bj,ag⟩:∃ bj,Z6 s.1 oj.guard=some bj:=by
  unfold ZS at h1;obtain⟨b,hw,_⟩:=Za h1;exact⟨b,hw⟩
 rw[Zgi hx ag] at h1;have h1:=(Option.some.inj h1).symm;subst h1;simp only[ZJ,af,Zg] at h2;unfold ZS at h2;obtain⟨b,hw,h2⟩:=Za h2;have al : Z6 s.1 oi.guard=some b:=by rw[← hw];exact(QI ak).symm
 have ap:oi.dst≠some t:=fun e=>by rw[ht,e] at ad;simp[Zbv] at ad
 have ae:∀ n,x=.t n→oi.dst≠some n:=fun n e h=>by
  rw[h] at ab;simp only[QS,KS,K0,KT] at ab;exact ab (Kf.2 (.inl (by rw[hx,e];simp[ZH,Zcg])))
 cases b with
 | false=>
  simp only[Ka,Kj] at h2;cases h2;refine⟨(Zt s.1 oi.dst (.tup []),s.2),by simp only[ZJ,af,Zg];exact YX al,?_⟩;refine⟨_,by rw[aa];exact Zgi (s:=(Zt s.1 oi.dst (.tup []),s.2)) hx ((QI ab).trans ag),?_⟩;have:evO (Zt s.1 oi.dst (.tup [])) x=evO s.1 x:=Ue (o:=oj) ab x (by rw[hx];simp[ZH]);simp only[this];exact⟨fun t=>(Jq ad _ _ t).symm,fun id=>rfl⟩
 | true=>
  simp only[Kk] at h2;obtain⟨ce,h3,h4,rfl⟩:=XB h2;have aq : WQ C M nx i (Z1 os i) oi.op s.1 s.2=some ce:=by
   rw[← h3];unfold WQ;rw[Xm C M s.2 (nx+64*i) (Ue (o:=oi) ak)]
  refine⟨ce.on oi.dst s.1 s.2,by simp only[ZJ,af,Zg,ZS,al,Kk,YZ];rw[aq,Zg,Kl h4],?_⟩;have ah:Z6 (ce.on oi.dst s.1 s.2).1 oj.guard=some bj:=by
   show Z6 (Zt (Xl ce.gone s.1) oi.dst ce.eff.val) oj.guard=_;rw[QI ab,← ag];exact Ziw fun q _=>QU _ _ _
  refine⟨_,by rw[aa];exact Zgi hx ah,?_⟩;have e0:gs (ce.on oi.dst (Zt s.1 oj.dst (if bj then evO s.1 x else .tup [])) s.2).1 t=kill ce.gone (if bj then evO s.1 x else .tup []):=by
   show gs (Zt (Xl ce.gone (Zt s.1 oj.dst _)) oi.dst ce.eff.val) t=_;rw[QG,Ki ap,QU,QG,Kl ht]
  rw[e0] at aj;have hk:=Zdw aj;have ev:(if bj then evO (ce.on oi.dst s.1 s.2).1 x else .tup [])=(if bj then evO s.1 x else .tup []):=by
   cases bj with
   | false=>rfl
   | true=>
    simp only[Kk] at hk ⊢;cases x with
    | t n=>
     show gs (Zt (Xl ce.gone s.1) oi.dst ce.eff.val) n=gs s.1 n;rw[QG,Ki (ae n rfl),QU];exact hk
    | _=>rfl
  rw[ev];refine⟨fun q=>?_,fun id=>rfl⟩;show gs (Zt (Zt (Xl ce.gone s.1) oi.dst ce.eff.val) oj.dst _) q=gs (Zt (Xl ce.gone (Zt s.1 oj.dst _)) oi.dst ce.eff.val) q;simp only[QG,QU];by_cases hq:oj.dst=some q
  ·have:¬oi.dst=some q:=fun e=>by rw[hq,e] at ad;simp[Zbv] at ad
   simp only[hq,Kk,this,Kj];exact hk.symm
  ·simp[hq]
theorem Zx6 {C:Orc} {M:Zp} {os:List CO} {nx i j:Nat} {oi oj:CO} (am:os[i]?=some oi) (ag:os[j]?=some oj) (ar:Z1 os i=false) (an:XQ oj oi=true)
  (ah:∀ (k:Nat) (o:CO),os[k]?=some o→∀ x∈ZH o.op,Vk x=true)
  {s s1 s2:Sl×Hp} (hm:VF oi.op=true) {t:Nat} (ht:oi.dst=some t) (ai:okV (gs s2.1 t)=true)
  (h1:ZJ C M os nx j s=some s1) (h2:ZJ C M os nx i s1=some s2):∃ t1,ZJ C M os nx i s=some t1∧∃ t2,ZJ C M os nx j t1=some t2∧X4 t2 s2:=by
 obtain⟨x,hx⟩:∃ x,oi.op=.move x:=by
  cases ho:oi.op<;>rw[ho] at hm<;>first | (cases hm;done) | exact⟨_,rfl⟩
 simp only[XQ,Kd] at an;obtain⟨⟨ad,aj⟩,ak⟩:=an;have aa:∀ s:Sl×Hp,ZJ C M os nx i s=ZS C M nx i false oi s:=fun s=>by simp only[ZJ,am,Zg,ar]
 rw[aa] at h2;simp only[ZJ,ag,Zg] at h1;unfold ZS at h1;obtain⟨b,hw,h1⟩:=Za h1;have af:∀ n,x=.t n→oj.dst≠some n:=fun n e h=>by
  rw[h] at ad;simp only[QS,KS,K0,KT] at ad;exact ad (Kf.2 (.inl (by rw[hx,e];simp[ZH,Zcg])))
 have ao:∀ (bi:Bool) (e:evO s1.1 x=evO s.1 x∨bi=false) (g1:Z6 s.1 oi.guard=some bi) (g2:Z6 s1.1 oi.guard=some bi),s2=(Zt s1.1 oi.dst (if bi then evO s.1 x else .tup []),s1.2):=by
  intro bi e g1 g2;rw[Zgi hx g2] at h2;rw[← Option.some.inj h2];rcases e with e | e
  ·rw[e]
  ·rw[e];rfl
 cases b with
 | false=>
  simp only[Ka,Kj] at h1;cases h1;have ae:Z6 (Zt s.1 oj.dst (.tup [])) oi.guard=Z6 s.1 oi.guard:=QI ad;obtain⟨bi,ab⟩:∃ bi,Z6 s.1 oi.guard=some bi:=by
   unfold ZS at h2;obtain⟨b,hw,_⟩:=Za h2;exact⟨b,ae.symm.trans hw⟩
  have e:evO (Zt s.1 oj.dst (.tup [])) x=evO s.1 x:=Ue (o:=oi) ad x (by rw[hx];simp[ZH]);have h5:=ao bi (.inl e) ab (ae.trans ab);subst h5;refine⟨_,by rw[aa];exact Zgi hx ab,(Zt (Zt s.1 oi.dst (if bi then evO s.1 x else .tup [])) oj.dst (.tup []),s.2),?_,fun t=>?_,fun id=>rfl⟩
  ·simp only[ZJ,ag,Zg];exact YX (s:=(Zt s.1 oi.dst (if bi then evO s.1 x else .tup []),s.2)) ((QI ak).trans hw)
  ·exact(Jq aj _ _ t).symm
 | true=>
  simp only[Kk] at h1;obtain⟨ce,h3,h4,rfl⟩:=XB h1;have ae:Z6 (ce.on oj.dst s.1 s.2).1 oi.guard=Z6 s.1 oi.guard:=by
   show Z6 (Zt (Xl ce.gone s.1) oj.dst ce.eff.val) oi.guard=_;rw[QI ad];exact Ziw fun q _=>QU _ _ _
  obtain⟨bi,ab⟩:∃ bi,Z6 s.1 oi.guard=some bi:=by
   unfold ZS at h2;obtain⟨b,hw,_⟩:=Za h2;exact⟨b,ae.symm.trans hw⟩
  have ap:=h2;rw[Zgi hx (ae.trans ab)] at ap;have h6:=Option.some.inj ap;have hv:okV (if bi then evO (ce.on oj.dst s.1 s.2).1 x else .tup [])=true:=by
   rw[← h6] at ai;simp only[QG,Kl ht] at ai;exact ai
  have aq:kill ce.gone (if bi then evO s.1 x else .tup [])=(if bi then evO s.1 x else .tup [])∧(evO (ce.on oj.dst s.1 s.2).1 x=evO s.1 x∨bi=false):=by
   cases bi with
   | false=>exact⟨rfl,.inr rfl⟩
   | true=>
    simp only[Kk] at hv ⊢;cases x with
    | t n=>
     have e:evO (ce.on oj.dst s.1 s.2).1 (.t n)=kill ce.gone (gs s.1 n):=by
      show gs (Zt (Xl ce.gone s.1) oj.dst ce.eff.val) n=_;rw[QG,Ki (af n rfl),QU]
     rw[e] at hv ⊢;have:=Zdw hv;exact⟨this,.inl this⟩
    | v c=>
     have hc:=ah i oi am (.v c) (by rw[hx];simp[ZH]);simp only[Vk,Kd,List.isEmpty_iff] at hc;exact⟨Zzd hv fun id al=>by simp only[evO] at al;rw[hc.1] at al;simp at al,.inl rfl⟩
    | f n=>simp only[evO,okV,okC] at hv;cases hv
  have h5:=ao bi aq.2 ab (ae.trans ab);subst h5;refine⟨_,by rw[aa];exact Zgi hx ab,ce.on oj.dst (Zt s.1 oi.dst (if bi then evO s.1 x else .tup [])) s.2,?_,fun q=>?_,fun id=>rfl⟩
  ·simp only[ZJ,ag,Zg,ZS];have au:Z6 (Zt s.1 oi.dst (if bi then evO s.1 x else .tup [])) oj.guard=some true:=(QI ak).trans hw;simp only[au,Zg,Kk,YZ];have:WQ C M nx j (Z1 os j) oj.op (Zt s.1 oi.dst (if bi then evO s.1 x else .tup [])) s.2=some ce:=by
    rw[← h3];unfold WQ;rw[Xm C M s.2 (nx+64*j) (Ue (o:=oj) ak)]
   rw[this,Zg,Kl h4]
  ·show gs (Zt (Xl ce.gone (Zt s.1 oi.dst _)) oj.dst ce.eff.val) q=gs (Zt (Zt (Xl ce.gone s.1) oj.dst ce.eff.val) oi.dst _) q;simp only[QG,QU];by_cases hq:oi.dst=some q
   ·have:¬oj.dst=some q:=fun e=>by rw[hq,e] at aj;simp[Zbv] at aj
    simp only[hq,Kk,this,Kj];exact aq.1
   ·simp[hq]
theorem Zzb {C:Orc} {M:Zp} (hM:∀ f,M f 99=false) (hC:QP P C) {ops:Array Oper} {os:List CO} (a9:QH (Zm8 P nt ops.toList) ops.toList=some os) {nx i:Nat} {ks:List Nat} {oi:CO} (ab:os[i]?=some oi)
  (ad:∀ (k:Nat) (o:CO),os[k]?=some o→∀ x∈ZH o.op,Vk x=true) :
  ∀ (js:List Nat) {s r:Sl×Hp} {U:Nat→Prop},Zjf nt s U→Xk U (nx+64*i)→(∀ j∈js,Xk U (nx+64*j))→(js++i :: ks).Pairwise (· < ·) →
   (∀ j∈js,∃ oj,os[j]?=some oj∧XQ oj oi=true∧((Z1 os j=false∧(Z1 os i=true→Zys oi.op=true∨(Zq3 oi.op=true∧(Ul oj.op=true∨(Za2 oj.op=true∧Zch os j=true∧Zch os i=true∧ZkM r.1 oj.op oi.op=true)))∨(VF oj.op=true∧Zgy oi.op=true)∨(VF oj.op=true∧Zok os j=true∧okD r.1 oj.dst=true) ∨
    (VF oj.op=false∧ZbL oi.op=true∧Zq5 oj.op=true∧Zch os j=true∧Zch os i=true∧Zok os j=true∧JP r.1 oj.dst oj.op oi.op=true))) ∨
    (Z1 os j=true∧Z1 os i=false∧VF oi.op=true∧Zok os i=true∧okD r.1 oi.dst=true) ∨
    (Z1 os j=true∧Z1 os i=false∧VF oi.op=false∧ZbL oj.op=true∧Zk6 oi.op=true∧Zch os j=true∧Zch os i=true∧Zok os i=true∧JP r.1 oi.dst oi.op oj.op=true))) →
   (∀ j∈js++i :: ks,j<os.length)→Zgh C M os nx (js++i :: ks) s=some r →
   ∃ s',ZJ C M os nx i s=some s'∧∃ r',Zgh C M os nx (js++ks) s'=some r'∧X4 r' r
 | [],s,r,U,_,_,_,_,_,_,h=>by
  simp only[Lx,Zgh] at h ⊢;obtain⟨s',h1,h⟩:=Za h;exact⟨s',h1,r,h,X4.refl r⟩
 | j :: js,s,r,U,hs,hfi,hfj,hsort,hj,hlt,h=>by
  have a1:=h;simp only[KK,Zgh] at h;obtain⟨s1,h1,h⟩:=Za h;have a8:=hsort;simp only[KK,LS] at hsort;have bk:j<i:=hsort.1 i (by simp);have a0:i≠j:=by omega
  have a':=Zx0 hC a9 hs (hfj j (by simp)) h1;have ba:∀ k∈js,k≠j:=fun k hk e=>by
   have:=hsort.1 k (by simp[hk]);omega
  obtain⟨s2,h2,r2,h3,h4⟩:=Zzb hM hC a9 ab ad js a' (Zti a0 hfi) (fun k hk=>Zti (ba k hk) (hfj k (by simp[hk]))) hsort.2 (fun k hk=>hj k (by simp[hk])) (fun k hk=>hlt k (by simp only[KK,Kg];exact .inr hk)) h;obtain⟨oj,ae,au,a2⟩:=hj j (by simp);have aa:∀ {k q n:Nat} {o:CO},Zch os k=true→os[k]?=some o→k≤q→q<os.length→n∈VE o→QS (J1 os q) [n]=true:=by
   intro k q n o am ho bl hq hn;have:=KZ.1 am q (Lw.2 hq);simp only[Zvb,ho,Lj,Kr] at this;rcases this with h | h
   ·omega
   ·cases hd:J1 os q with
    | none=>rfl
    | some d=>
     rw[hd] at h;simp only[QS,KS,K0,KT] at h ⊢;intro e;simp at e;exact h (e ▸ hn)
  have af:∀ {k:Nat} {o:CO},Zch os k=true→os[k]?=some o→QS o.dst (VE o)=true:=by
   intro k o am ho;have hk:k<os.length:=(Kc.1 ho).1;have:=KZ.1 am k (Lw.2 hk);simp only[Zvb,J1,ho,Lj,Kr] at this;rcases this with h | h
   ·omega
   ·exact h
  have ag:∀ {k q t:Nat} {o:CO},Zok os k=true→os[k]?=some o→o.dst=some t→q≠k→q<os.length→QS (J1 os q) [t]=true:=by
   intro k q t o hl ho ht bb hq;simp only[Zok,Kd] at hl;have:=KZ.1 hl.2 q (Lw.2 hq);simp only[Lj,beq_iff_eq,J1,ho,ht] at this;rcases this with h | h
   ·exact absurd h bb
   ·simp only[J1];cases a3:os[q]? with
    | none=>rfl
    | some oq=>
     rw[a3] at h;simp only at h ⊢;cases hd:oq.dst with
     | none=>rfl
     | some d=>
      rw[hd] at h;simp only[Zbv,bne_iff_ne,ne_eq] at h;simp only[QS,KS,K0,KT,KH];exact h
  have ah:∀ {k:Nat} {o:CO},Zok os k=true→os[k]?=some o→∃ t,o.dst=some t:=by
   intro k o hl ho;simp only[Zok,J1,ho,Kd] at hl;cases hd:o.dst with
   | none=>rw[hd] at hl;cases hl.1
   | some t=>exact⟨t,rfl⟩
  have av:∀ n,(∀ q∈js++ks,QS (J1 os q) [n]=true)→okV (gs r.1 n)=true→gs s2.1 n=gs r.1 n:=by
   intro n hn ho;rw[← h4.1 n] at ho ⊢;exact ZBy h3 hn ho
  have ak:∀ q∈js++ks,q≠i∧j<q∧q<os.length:=by
   intro q hq;refine⟨?_,?_,hlt q ?_⟩
   ·rcases Kf.1 hq with hq | hq
    ·have:=(LA.1 hsort.2).2.2 q hq i (by simp);omega
    ·have:=(LS.1 (LA.1 hsort.2).2.1).1 q hq;omega
   ·rcases Kf.1 hq with hq | hq
    ·exact hsort.1 q (by simp[hq])
    ·exact hsort.1 q (by simp[hq])
   ·rcases Kf.1 hq with hq | hq<;>simp[hq]
  have an:Zch os j=true→∀ n∈VE oj,∀ q∈js++ks,QS (J1 os q) [n]=true:=fun am n hn q hq=>by
   obtain⟨_,h6,h7⟩:=ak q hq;exact aa am ae (by omega) h7 hn
  have ao:Zch os i=true→∀ n∈VE oi,∀ q∈js++ks,QS (J1 os q) [n]=true:=fun am n hn q hq=>by
   obtain⟨_,h6,h7⟩:=ak q hq;rcases Kf.1 hq with hq | hq
   ·obtain⟨oq,a3,ap,_⟩:=hj q (by simp[hq]);simp only[XQ,Kd] at ap;have h5:=ap.1.1;simp only[J1,a3];cases hd:oq.dst with
    | none=>rfl
    | some d=>
     rw[hd] at h5;simp only[QS,KS,K0,KT] at h5 ⊢;intro e;simp at e;exact h5 (e ▸ hn)
   ·have:=(LS.1 (LA.1 hsort.2).2.1).1 q hq;exact aa am ab (by omega) h7 hn
  have ai:∀ {o:CO} {n:Nat},n∈(ZH o.op).flatMap Zcg→n∈VE o:=fun h=>Kf.2 (.inl h);have aj:∀ {o:CO} {n:Nat},n∈(Zmm o.op).flatMap Zcg→n∈VE o:=fun {o n} h=>by
   refine Kf.2 (.inl ?_);cases ho:o.op<;>rw[ho] at h<;>simp only[Zmm,List.flatMap_nil,Ln] at h
   simp only[ZH,KO,Kf];exact .inr h
  have a4:∃ t1,ZJ C M os nx i s=some t1∧∃ t2,ZJ C M os nx j t1=some t2∧X4 t2 s2:=by
   rcases a2 with ⟨aw,ay⟩ | ⟨aw,az,k1,k5,k6⟩ | ⟨aw,az,k0,k1,k2,k3,k4,k5,k6⟩
   case inr.inl=>
    obtain⟨t,ht⟩:=ah k5 ab;refine Zx6 ab ae az au ad k1 ht ?_ h1 h2;rw[ht] at k6;simp only[okD] at k6;rw[av t (fun q hq=>?_) k6]
    ·exact k6
    ·obtain⟨h5,_,h7⟩:=ak q hq;exact ag k5 ab ht h5 h7
   case inr.inr=>
    obtain⟨t,ht⟩:=ah k5 ab;refine Zwx hM ab ae az a0 au (af k4 ab) (af k3 ae) ad hs hfi (hfj j (by simp)) k1 k2 ?_ ht h1 h2;refine(Zww k0 k1 k6).move (fun n hn=>av n (ao k4 n (ai hn))) (fun n hn=>av n fun q hq=>?_) (fun n hn=>av n (an k3 n (aj hn)));obtain⟨h5,_,h7⟩:=ak q hq;exact ag k5 ab hn h5 h7
   cases az:Z1 os i with
   | false=>exact Zz6 ab ae az aw a0 au ad hs hfi (hfj j (by simp)) h1 h2
   | true=>
    rcases ay az with hc | ⟨am,hl⟩ | ⟨bc,bd⟩ | ⟨k1,k5,k6⟩ | ⟨k0,k1,k2,k3,k4,k5,k6⟩
    case inr.inr.inr.inl=>
     obtain⟨t,ht⟩:=ah k5 ae;refine Zx5 ab ae aw au ad k1 ht ?_ h1 h2;rw[ht] at k6;simp only[okD] at k6;rw[av t (fun q hq=>?_) k6]
     ·exact k6
     ·obtain⟨_,h6,h7⟩:=ak q hq;exact ag k5 ae ht (by omega) h7
    case inr.inr.inr.inr=>
     obtain⟨t,ht⟩:=ah k5 ae;refine Zx4 hM ab ae aw a0 au (af k3 ae) (af k4 ab) ad hs hfi (hfj j (by simp)) k1 k2 ?_ ht h1 h2;refine(Zww k0 k1 k6).move (fun n hn=>av n (an k3 n (ai hn))) (fun n hn=>av n fun q hq=>?_) (fun n hn=>av n (ao k4 n (aj hn)));obtain⟨_,h6,h7⟩:=ak q hq;exact ag k5 ae hn (by omega) h7
    ·exact ZAa ab ae hc aw a0 au ad hs hfi (hfj j (by simp)) h1 h2
    ·refine Zx3 ab ae az aw a0 au ad hs hfi (hfj j (by simp)) ⟨am,?_⟩ h1 h2;rcases hl with hl | ⟨be,bf,bg,al⟩
     ·exact .inl hl
     ·refine .inr ⟨be,?_⟩;have a5:∀ x∈ZH oi.op,okW (evO r.1 x)=true→evO s.1 x=evO r.1 x:=by
       intro x hx ax;cases x with
       | v a=>rfl
       | f n=>rfl
       | t n=>
        simp only[evO] at ax ⊢;have hn:n∈VE oi:=by
         rw[VE];exact Kf.2 (.inl (Kx.2 ⟨.t n,hx,KH.2 rfl⟩))
        refine ZuN a1 (fun q hq=>?_) ax;rcases Kf.1 hq with hq | hq
        ·obtain⟨oq,a3,ap,_⟩:=hj q hq;simp only[XQ,Kd] at ap;have h5:=ap.1.1;simp only[J1,a3];cases hd:oq.dst with
         | none=>rfl
         | some d=>
          rw[hd] at h5;simp only[QS,KS,K0,KT] at h5 ⊢;intro e;simp at e;exact h5 (e ▸ hn)
        ·refine aa bg ab ?_ (hlt q (Kf.2 (.inr hq))) hn;rcases Kg.1 hq with rfl | hq
         ·omega
         ·have:=LA.1 hsort.2;have:=(LS.1 this.2.1).1 q hq;omega
      have a7:∀ id,QZ r.1 id (ZH oj.op)=true→QZ s.1 id (ZH oj.op)=true:=by
       intro id bh;have bi:∀ xs:List Opd,(∀ z∈xs,z∈ZH oj.op)→QZ r.1 id xs=true→QZ s.1 id xs=true:=by
        intro xs
        induction xs with
        | nil=>intro _ _;rfl
        | cons z zs ihz=>
         intro a6 hz;simp only[QZ,Kd] at hz ⊢;refine⟨?_,ihz (fun z' bj=>a6 z' (by simp[bj])) hz.2⟩;cases z with
         | v a=>exact hz.1
         | f n=>exact hz.1
         | t n=>
          simp only[evO] at hz ⊢;have hn:n∈VE oj:=by
           rw[VE];exact Kf.2 (.inl (Kx.2 ⟨.t n,a6 (.t n) (Ll ..),KH.2 rfl⟩))
          rw[ZBy a1 (fun q hq=>?_) (ZCT hz.1)]
          ·exact hz.1
          ·refine aa bf ae ?_ (hlt q hq) hn;rcases Kf.1 hq with hq | hq
           ·rcases Kg.1 hq with rfl | hq
            ·omega
            ·have:=hsort.1 q (by simp[hq]);omega
           ·have:=hsort.1 q (by simp only[Kf];exact .inr hq);omega
       exact bi _ (fun _ h=>h) bh
      cases ho:oi.op<;>rw[ho] at am al<;>first | (cases am;done) | skip
      case store slc sz x y=>
       simp only[ZkM,Kd] at al ⊢;obtain⟨al,ar⟩:=al;have ax:okV (evO r.1 x)=true:=by
        cases ht:Wg (evO r.1 x) with
        | none=>rw[ht] at al;simp[ZgA] at al
        | some id=>cases hv:evO r.1 x<;>rw[hv] at ht<;>simp only[Wg] at ht<;>first | (cases ht;done) | rfl
       rw[a5 x (by rw[ho];simp[ZH]) (Zos ax)];constructor
       ·cases ht:Wg (evO r.1 x) with
        | none=>rw[ht] at al;simp[ZgA] at al
        | some id=>rw[ht] at al;exact a7 id al
       ·by_cases hp:∃ b1 b2 b3 b4,evO r.1 x=.prow b1 b2 b3 b4
        ·obtain⟨b1,b2,b3,b4,hp⟩:=hp;rw[hp] at ar ⊢;rcases ZmS ar with ⟨d,hv⟩ | hv
         ·rw[a5 y (by rw[ho];simp[ZH]) (by rw[hv];rfl),hv];rfl
         ·rw[a5 y (by rw[ho];simp[ZH]) (Zos hv.1)];exact Zz9 ⟨hv.1,Zqp a7 hv.2⟩
        ·exact ZuO fun b1 b2 b3 b4 e=>hp ⟨b1,b2,b3,b4,e⟩
      case append sz by_ str flat x y=>
       simp only[ZkM,Kd,Lj] at al ⊢;obtain⟨ar,aq⟩:=al;constructor
       ·have ax:okW (evO r.1 x)=true:=by
         cases hv:evO r.1 x<;>rw[hv] at ar<;>first | rfl | (cases ar;done) | skip
         case tup vs=>cases vs<;>first | rfl | cases ar
        rw[a5 x (by rw[ho];simp[ZH]) ax];cases hv:evO r.1 x<;>rw[hv] at ar<;>first | (cases ar;done) | exact a7 _ ar | skip
        ·rfl
        case tup vs=>cases vs<;>first | rfl | cases ar
       ·rcases aq with aq | aq
        ·exact .inl aq
        ·right
         have ax:okW (evO r.1 y)=true:=by
          unfold seenSrc at aq;split at aq
          ·rename_i k hk;rw[hk];rfl
          ·exact Zos aq
         rw[a5 y (by rw[ho];simp[ZH]) ax];unfold seenSrc at aq ⊢;split at aq
         ·exact a7 _ aq
         ·exact aq
    ·exact ZAc ab ae aw au bc bd h1 h2
  obtain⟨t1,g1,t2,g2,g3⟩:=a4;obtain⟨r3,g4,g5⟩:=Zqm g3.symm h3;refine⟨t1,g1,r3,?_,g5.symm.trans h4⟩;simp only[KK,Zgh,g2,Zg];exact g4
def rem (n:Nat) (listed:Array Bool):List Nat:=(List.range n).filter fun i=>!listed.getD i true
theorem Ziu {n:Nat} {aa:Array Bool} {i:Nat}:i∈rem n aa↔i<n∧aa.getD i true=false:=by
 simp[rem]
theorem Zqv (n:Nat) (aa:Array Bool):(rem n aa).Pairwise (· < ·):=List.Pairwise.filter _ List.pairwise_lt_range
theorem ZCW {n:Nat} {aa:Array Bool} (ad:aa.size=n) (i:Nat):rem n (aa.setIfInBounds i true)=(rem n aa).filter fun j=>j != i:=by
 simp only[rem,List.filter_filter];refine List.filter_congr fun j hj=>?_;have ae:j<n:=Lw.1 hj;by_cases ab:i=j
 ·subst ab;simp[ad,ae]
 ·simp[Array.getElem?_setIfInBounds_ne ab,Ne.symm ab]
def Ztl (nx:Nat) (listed:Array Bool) (id:Nat):Prop:=id<nx∨∃ k,listed.getD k false=true∧nx+64*k≤id∧id<nx+64*k+64
theorem JD {l:Array Bool} {k:Nat} (h:l.getD k false=true):k<l.size∧l.getD k true=true:=by
 rcases K9 k l.size with h1 | h1
 ·refine⟨h1,?_⟩;simp[h1] at h ⊢;exact h
 ·simp[Array.getElem?_eq_none h1] at h
theorem Zqw {nx i:Nat} {aa:Array Bool} (h:aa.getD i true=false):Xk (Ztl nx aa) (nx+64*i):=by
 intro id h1 h2 hu;rcases hu with hu | ⟨k,hk,h3,h4⟩
 ·omega
 ·have ab:k≠i:=fun e=>by subst e;rw[(JD hk).2] at h;cases h
  rcases LV ab with h5 | h5<;>omega
theorem Zqx {nx i:Nat} {aa:Array Bool} (hi:i<aa.size):∀ id,ZaS (Ztl nx aa) (nx+64*i) id→Ztl nx (aa.setIfInBounds i true) id:=by
 rintro id ((h | ⟨k,hk,h1⟩) | h)
 ·exact .inl h
 ·exact .inr ⟨k,getD_set_true hk,h1⟩
 ·exact .inr ⟨i,by simp[hi],h.1,h.2⟩
end
end Go.Abs
