/- Own text. -/
import Derived.Test.YtnachaiejoflhaaAbsDrawD
set_option linter.unusedVariables false
set_option linter.unusedSimpArgs false
namespace Go.Abs
open Go
section
variable {P:Program} {nt:Nat}
theorem ZfI {α β:Type} {f:α→Option β}:∀ {l:List α} {r:List β},Z3 f l=some r→∀ (i:Nat) (x:α),l[i]?=some x→∃ y,r[i]?=some y∧f x=some y
 | [],r,h,i,x,hx=>by simp at hx
 | a :: l,r,h,i,x,hx=>by
  simp only[Z3] at h;obtain⟨y,h1,h⟩:=Za h;obtain⟨ys,h2,h⟩:=Za h;cases h;cases i with
  | zero=>simp at hx;subst hx;exact⟨y,by simp,h1⟩
  | succ i=>simp at hx;obtain⟨z,h3,h4⟩:=ZfI h2 i x hx;exact⟨z,by simpa using h3,h4⟩
theorem Uw {α β:Type} {f:α→Option β}:∀ {l:List α} {r:List β},Z3 f l=some r→r.length=l.length
 | [],r,h=>by simp only[Z3] at h;cases h;rfl
 | a :: l,r,h=>by
  simp only[Z3] at h;obtain⟨y,h1,h⟩:=Za h;obtain⟨ys,h2,h⟩:=Za h;cases h;simp[Uw h2]
theorem ZlU {C:Orc} {M:Zf} (hC:Z4 P C) {ops:Array Oper} {os:List CO} (ad:Z3 (ZeC P nt ops.toList) ops.toList=some os) {nx i:Nat} {s s' : Sl×Hp} {U:Nat→Prop} (hs:ZbE nt s U) (hf:Qz U (nx+64*i))
  (h:Zr C M os nx i s=some s'):ZbE nt s' (VC U (nx+64*i)):=by
 obtain⟨F,A,I,Γ,a,w,aa⟩:=hs;unfold Zr at h;obtain⟨co,ae,h⟩:=Za h;have ag:i<ops.toList.length:=by rw[← Uw ad];exact(Kd.1 ae).1
 obtain⟨am,h1,h2⟩:=ZfI ad i ops.toList[i] (Km ag);rw[ae] at h1;cases h1;obtain⟨hg,ah,ab,af⟩:=Zci h2;unfold Zu at h;obtain⟨b,hw,h⟩:=Za h;cases b with
 | true=>
  simp only[Kh] at h;obtain⟨ce,ai,aj,rfl⟩:=QF h;have ak:=ZlO hC aa ah hf ab aj (Jf ai) (fun a' w'=>∃ F A I Γ a w,Sim nt F A I Γ (VC U (nx+64*i)) (ce.on co.dst s.1 s.2).1 (ce.on co.dst s.1 s.2).2 a w) (fun _ _ _=>False) fun u w' hp=>by
   obtain⟨I1,Γ1,b1,b2,b3,b4,b5⟩:=hp;rw[← af] at b5;exact⟨F,A,I1,Γ1,_,_,b5⟩
  obtain⟨_,_,al⟩:=Oper.wp_ex ak;exact al
 | false=>
  simp only[Ka,Kg] at h;cases h;obtain⟨I1,Γ1,b1,b2,b3,b4,b5⟩:=aa.pure (U':=VC U (nx+64*i)) (v:=.tup []) (u:=undef) (dst:=co.dst) (fun id hu=>.inl hu) ZdV (by rw[af];exact ab);exact⟨F,A,I1,Γ1,_,_,b5⟩
theorem Zh9 {U:Nat→Prop} {nx i j:Nat} (aa:i≠j) (h:Qz U (nx+64*i)):Qz (VC U (nx+64*j)) (nx+64*i):=by
 intro id h1 h2 hu;rcases hu with hu | hu
 ·exact h id h1 h2 hu
 ·rcases Lq aa with h3 | h3<;>omega
theorem Zqx {id:Nat} {v:AV} (h:Ua id v=true):okV v=true:=by
 cases v with
 | tup vs=>cases vs with
  | nil=>rfl
  | cons x r=>cases h
 | _=>first | rfl | cases h
def okW (v:AV):Bool:=okV v
theorem Zfb {v:AV} (h:okV v=true):okW v=true:=h
theorem Zo6 {g:List Nat} {v:AV} (h:okW (kill g v)=true):kill g v=v:=WR h
theorem Zqy {C:Orc} {M:Zf} {os:List CO} {nx q n:Nat} {s r:Sl×Hp} (h:Zr C M os nx q s=some r) (hd:Qe (Y5 os q) [n]=true) (hk:okW (gs r.1 n)=true):gs s.1 n=gs r.1 n:=by
 unfold Zr at h;obtain⟨o,ho,h⟩:=Za h;have aa:o.dst≠some n:=by
  intro e;simp[Y5,ho,e,Qe] at hd
 unfold Zu at h;obtain⟨b,_,h⟩:=Za h;cases b with
 | true=>
  simp only[Kh] at h;obtain⟨ce,_,_,rfl⟩:=QF h;have e1:gs (ce.on o.dst s.1 s.2).1 n=kill ce.gone (gs s.1 n):=by
   show gs (Zh (Qv ce.gone s.1) o.dst ce.eff.val) n=_;rw[Z2,Kk aa,Qg]
  rw[e1] at hk ⊢;exact(Zo6 hk).symm
 | false=>
  simp only[Ka,Kg] at h;cases h;show gs s.1 n=gs (Zh s.1 o.dst (.tup [])) n;rw[Z2,Kk aa]
theorem Zje {C:Orc} {M:Zf} {os:List CO} {nx n:Nat}:∀ {l:List Nat} {s r:Sl×Hp},Jx C M os nx l s=some r→(∀ q∈l,Qe (Y5 os q) [n]=true)→okW (gs r.1 n)=true→gs s.1 n=gs r.1 n
 | [],s,r,h,_,_=>by simp only[Jx] at h;cases h;rfl
 | i :: l,s,r,h,hd,hk=>by
  simp only[Jx] at h;obtain⟨s1,h1,h⟩:=Za h;have h2:=Zje h (fun q hq=>hd q (by simp[hq])) hk;rw[← h2] at hk ⊢;exact Zqy h1 (hd i (by simp)) hk
theorem Zo7 {C:Orc} {M:Zf} {os:List CO} {nx n:Nat} {l:List Nat} {s r:Sl×Hp} (h:Jx C M os nx l s=some r) (hd:∀ q∈l,Qe (Y5 os q) [n]=true) (hk:okV (gs r.1 n)=true):gs s.1 n=gs r.1 n:=Zje h hd (Zfb hk)
theorem ZlV {C:Orc} {M:Zf} {sl:Sl} {hp:Hp} {base:Nat} {c:COp} {ce:Zb} (hc:Zmm c=true) (h:vop C M sl hp base c=some ce):Uc (vop C M sl hp base c)=some ce:=by
 rw[h];have aa:ce.gone=[]∧ce.eff.sets=[]∧ce.eff.dels=[]∧ce.eff.frz=[]:=by
  have o1:∀ {v:AV},Qf v=some ce→ce.gone=[]∧ce.eff.sets=[]∧ce.eff.dels=[]∧ce.eff.frz=[]:=fun h=>by cases h;exact⟨rfl,rfl,rfl,rfl⟩
  have o2:∀ {v:Option AV},XT v=some ce→ce.gone=[]∧ce.eff.sets=[]∧ce.eff.dels=[]∧ce.eff.frz=[]:=fun h=>by obtain⟨v,_,h⟩:=Za h;exact o1 h
  cases c<;>simp only[Zmm,Ka] at hc<;>simp only[vop] at h
  case stuck=>cases h
  case move x=>exact o1 h
  case assign s x=>
   unfold JG at h;split at h
   ·obtain⟨s,_,h⟩:=Za h;cases h;exact⟨rfl,rfl,rfl,rfl⟩
   ·exact o1 h
  case pick c a b=>
   unfold ZaF at h;split at h
   ·split at h<;>exact o1 h
   ·cases h
  case alloc slc cs=>
   unfold ZaG Zf8 at h;split at h
   ·split at h<;>first | (cases h;done) | (cases h;exact⟨rfl,rfl,rfl,rfl⟩)
   ·split at h<;>(cases h;exact⟨rfl,rfl,rfl,rfl⟩)
  case box x=>
   unfold Zof at h;split at h
   ·cases h;exact⟨rfl,rfl,rfl,rfl⟩
   ·cases h
  case build zs ps=>obtain⟨cs,_,h⟩:=Za h;exact o1 h
  case load g s a=>exact o2 h
  case nilCheck x=>unfold VQ at h;split at h<;>first | exact o1 h | cases h
  case bin op eq x y=>
   unfold ZeR at h;split at h
   ·split at h
    ·exact o2 h
    ·cases h
   ·exact o2 h
  case un op x=>exact o2 h
  case eqA neg n x y=>
   unfold Zjx at h;split at h
   ·obtain⟨r,_,h⟩:=Za h;exact o1 h
   ·cases h
  case convI k x=>unfold Go.Abs.convI at h;split at h<;>first | exact o1 h | cases h
  case convS x=>unfold Go.Abs.convS at h;split at h<;>first | exact o1 h | cases h
  case fn f cs=>exact o2 h
  case make s b z l c=>
   obtain⟨l,_,h⟩:=Za h;obtain⟨c,_,h⟩:=Za h;unfold Zir at h;split at h
   ·cases h;exact⟨rfl,rfl,rfl,rfl⟩
   ·cases h
  case slice s x lo hi=>exact o2 h
  case sliceS x lo hi=>exact o2 h
  case slice0 x hi mx=>exact o2 h
  case slice3 s x lo hi mx=>exact o2 h
  case shift off x=>unfold Ye at h;split at h<;>first | exact o1 h | cases h
  case part g s off x=>exact o2 h
  case iaS s x i=>
   obtain⟨n,_,h⟩:=Za h;unfold ZbN at h;split at h
   ·exact o2 h
   ·cases h
  case iaA len s x i=>
   obtain⟨n,_,h⟩:=Za h;unfold Zgb at h;split at h
   ·unfold Ye at h;split at h<;>first | exact o1 h | cases h
   ·cases h
  case ixS x i=>
   obtain⟨n,_,h⟩:=Za h;unfold Zme at h;split at h
   ·unfold ZkU at h;split at h
    ·obtain⟨b,_,h⟩:=Za h;exact o1 h
    ·cases h
   ·cases h
  case ixA g s len x i=>
   obtain⟨n,_,h⟩:=Za h;unfold Zoh at h;split at h
   ·exact o2 h
   ·cases h
  case nth i x=>unfold ZkV at h;split at h<;>first | exact o2 h | cases h
  case len x=>obtain⟨n,_,h⟩:=Za h;exact o1 h
  case lenS x=>obtain⟨n,_,h⟩:=Za h;exact o1 h
  case min x y=>unfold Zez at h;split at h<;>first | (split at h<;>first | exact o1 h | cases h) | cases h
  case max x y=>unfold ZeA at h;split at h<;>first | (split at h<;>first | exact o1 h | cases h) | cases h
 simp only[Uc,Zc,aa.1,aa.2.1,aa.2.2.1,aa.2.2.2,JS]
theorem ZnP {C:Orc} {M:Zf} {nx i:Nat} {o:CO} (hc:Zmm o.op=true) (s:Sl×Hp):Zu C M nx i true o s=Zu C M nx i false o s:=by
 unfold Zu;have:X4 C M nx i true o.op s.1 s.2=X4 C M nx i false o.op s.1 s.2:=by
  unfold X4;simp only[Kh,Ka,Kg];cases h:vop C M s.1 s.2 (nx+64*i) o.op with
  | none=>rfl
  | some ce=>rw[← h,ZlV hc h,h]
 rw[this]
theorem vop_read {C:Orc} {M:Zf} {sl:Sl} {hp hp' : Hp} {base:Nat} {c:COp} (hc:Vq c=true) (h:∀ x∈Zq c,∀ k∈Zl (evO sl x),lkp hp k=lkp hp' k):vop C M sl hp base c=vop C M sl hp' base c:=by
 have len:∀ v:AV,(∀ k∈Zl v,lkp hp k=lkp hp' k)→UK hp v=UK hp' v:=fun v hv=>by
  cases v<;>simp only[UK]
  case d x=>cases x<;>rfl
  case own id=>rw[hv id (by simp[Zl,Zn,Ze])]
 cases c<;>simp only[Vq,Ka] at hc<;>simp only[Zq] at h<;>simp only[vop]
 case load g s a=>
  have:=h a (by simp);cases hv:evO sl a<;>rw[hv] at this<;>simp only[YI]
  case ptr id off=>rw[this id (by simp[Zl,Zn,Ze])]
  case prow id sz i off=>rw[this id (by simp[Zl,Zn,Ze])]
 case slice s x lo hi=>
  have:=h x (by simp);cases hv:evO sl x<;>rw[hv] at this<;>simp only[XS]
  case d x=>cases x<;>rfl
  case own id=>rw[this id (by simp[Zl,Zn,Ze])]
  case ownv id off n=>rw[this id (by simp[Zl,Zn,Ze])]
 case slice0 x hi mx=>
  unfold slice0;rw[len _ (h x (by simp))]
 case iaS s x i=>
  congr 1
  funext n
  simp only[ZbN];have:=h x (by simp);cases hv:evO sl x<;>rw[hv] at this<;>simp only[Z6]
  case d x=>cases x<;>rfl
  case own id=>rw[this id (by simp[Zl,Zn,Ze])]
  case ownv id off n=>rw[this id (by simp[Zl,Zn,Ze])]
 case len x=>rw[len _ (h x (by simp))]
theorem Zia {A B:Hp} (hd:∀ k x y,(k,x)∈A→(k,y)∈B→False) (hp:Hp) (id:Nat):lkp (Zd (Zd hp A) B) id=lkp (Zd (Zd hp B) A) id:=by
 have aa:∀ (l:Hp) (hp hp' : Hp),lkp hp id=lkp hp' id→lkp (Zd hp l) id=lkp (Zd hp' l) id:=by
  intro l
  induction l with
  | nil=>intro hp hp' h;exact h
  | cons q r ih=>
   intro hp hp' h;obtain⟨k,x⟩:=q;simp only[Zd];exact ih _ _ (by rw[ZZ,ZZ,h])
 by_cases h1:∃ o,(id,o)∈A
 ·have h2:∀ o,(id,o)∉B:=fun o ho=>by
   obtain⟨o',ab⟩:=h1;exact hd id o' o ab ho
  rw[Zp B _ id h2];exact aa A _ _ (Zp B hp id h2).symm
 ·have h2:∀ o,(id,o)∉A:=fun o ho=>h1 ⟨o,ho⟩;rw[Zp A _ id h2];exact aa B _ _ (Zp A hp id h2)
theorem Zkw {hp:Hp} {v:AV} {q:D×Bool×List Nat} (h:Ww hp v=some q):∀ i∈q.2.2,i∈Ze v:=by
 intro i hi;cases v<;>simp only[Ww] at h<;>first | (cases h;simp at hi;done) | (cases h;done) | skip
 obtain⟨p,_,h⟩:=Za h;cases h;simpa [Ze] using hi
theorem Zej {hp:Hp}:∀ {vs:List AV} {q:List D×Bool×List Nat},XW hp vs=some q→∀ i∈q.2.2,i∈vs.flatMap Ze
 | [],q,h,i,hi=>by simp only[XW] at h;cases h;simp at hi
 | v :: vs,q,h,i,hi=>by
  simp only[XW] at h;obtain⟨q1,h1,h⟩:=Za h;obtain⟨q2,h2,h⟩:=Za h;split at h
  ·cases h;rcases Kc.1 hi with hi | hi
   ·exact Kl.2 ⟨v,by simp,Zkw h1 i hi⟩
   ·obtain⟨c,hc,aa⟩:=Kl.1 (Zej h2 i hi);exact Kl.2 ⟨c,by simp[hc],aa⟩
  ·cases h
theorem Zkx {hp:Hp} {n:Nat} {v:AV} {q:D×List Nat} (h:ZaA hp n v=some q):∀ i∈q.2,i∈Ze v:=by
 unfold ZaA at h;split at h
 ·split at h
  ·cases h;simp
  ·cases h
 ·cases h;simp
 ·unfold Zbh at h;split at h
  ·split at h
   ·cases h;simp[Ze]
   ·cases h
  ·split at h
   ·cases h;simp[Ze]
   ·cases h
  ·cases h
 ·cases h
theorem Zek {hp:Hp} {n:Nat}:∀ {vs:List AV} {q:List D×List Nat},Yc hp n vs=some q→∀ i∈q.2,i∈vs.flatMap Ze
 | [],q,h,i,hi=>by simp only[Yc] at h;cases h;simp at hi
 | v :: vs,q,h,i,hi=>by
  simp only[Yc] at h;obtain⟨q1,h1,h⟩:=Za h;obtain⟨q2,h2,h⟩:=Za h;split at h
  ·cases h;rcases Kc.1 hi with hi | hi
   ·exact Kl.2 ⟨v,by simp,Zkx h1 i hi⟩
   ·obtain⟨c,hc,aa⟩:=Kl.1 (Zek h2 i hi);exact Kl.2 ⟨c,by simp[hc],aa⟩
  ·cases h
theorem ZnQ {hp:Hp} {slc:List (Option Nat)} {s base:Nat} {vs:List AV} {x:AV} {e:Eff} (h:Wq hp slc s base vs x=some e):∃ id o,XJ x=some id∧e.val=.junk∧e.sets=[(id,o)]∧(∀ k∈e.dels,k∈vs.flatMap Ze∧∃ a b c d,x=.prow a b c d)∧∀ i∈e.frz,i∈vs.flatMap Ze:=by
 cases x<;>simp only[Wq] at h<;>first | cases h | skip
 case ptr id off=>
  unfold Zaz at h;split at h
  ·split at h
   ·split at h<;>(cases h;exact⟨id,_,rfl,rfl,rfl,fun i hi=>by simp at hi,fun i hi=>by simp at hi⟩)
   ·cases h
  ·cases h
 case prow id sz i off=>
  unfold WZ at h;split at h
  ·split at h
   ·obtain⟨x,_,h⟩:=Za h;obtain⟨q,hq,h⟩:=Za h;unfold Zbg at h;split at h
    ·cases h;exact⟨id,_,rfl,rfl,rfl,fun i hi=>by simp at hi,Zej hq⟩
    ·cases h
   ·cases h
  ·split at h
   ·obtain⟨x,_,h⟩:=Za h;obtain⟨q,hq,h⟩:=Za h;unfold Zbi at h;split at h
    ·cases h;exact⟨id,_,rfl,rfl,rfl,fun k hk=>⟨Zek hq k hk,_,_,_,_,rfl⟩,fun i hi=>by simp at hi⟩
    ·cases h
   ·cases h
  ·cases h
def FzEq (o o' : Option Zg):Prop:=∃ b:Bool,o'=o.map fun x=>if b then XC x else x
theorem FzEq.seen {o o' : Option Zg} (h:FzEq o o'):WS [] o o':=by
 obtain⟨b,rfl⟩:=h;have hk:∀ x:Zg,QC [] x=x:=fun x=>by
  cases x with
  | box cs=>simp only[QC];congr 1;rw[KB (g:=id) (fun a _=>U4 a),Lk]
  | row _ _ _ _=>rfl
  | gone=>rfl
  | tree _ _ _ l=>rcases l with _ | ⟨_ | _,_⟩<;>simp[QC,X6]
 have:=ZkD (g:=[]) (b:=b) o;have e:(o.map (QC []))=o:=by cases o<;>simp[hk]
 rw[e] at this;exact this
theorem vop_fz {C:Orc} {M:Zf} {sl:Sl} {hp hp' : Hp} {base:Nat} {c:COp} (hc:Vq c=true) (h:∀ x∈Zq c,∀ k∈Zl (evO sl x),FzEq (lkp hp k) (lkp hp' k)):vop C M sl hp' base c=vop C M sl hp base c:=by
 have hs:∀ x∈Zq c,ZcK [] hp hp' (evO sl x):=fun x hx k hk=>(h x hx k hk).seen;cases c<;>simp only[Vq,Ka] at hc<;>simp only[Zq] at h hs<;>simp only[vop]
 case load g s a=>
  have h1:=h a (by simp);have h2:=hs a (by simp);cases hv:evO sl a<;>rw[hv] at h1 h2<;>simp only[YI]
  case ptr id off=>
   obtain⟨b,e⟩:=h1 id (by simp[Zl,Zn,Ze]);rw[e];cases lkp hp id with
   | none=>rfl
   | some o=>cases o<;>cases b<;>rfl
  case prow id sz i off=>
   obtain⟨b,e⟩:=h1 id (by simp[Zl,Zn,Ze]);rw[e];cases lkp hp id with
   | none=>rfl
   | some o=>cases o<;>cases b<;>rfl
 case slice s x lo hi=>rw[Zau (hs x (by simp))]
 case slice0 x hi mx=>unfold slice0;rw[U7 (hs x (by simp))]
 case iaS s x i=>
  congr 1
  funext n
  simp only[ZbN];rw[Wp (hs x (by simp))]
 case len x=>rw[U7 (hs x (by simp))]
def ZcH (sl:Sl) (a:COp):COp→Bool
 | .store _ _ x y=>JR sl a (XJ (evO sl x))&&XU sl a (evO sl x) (evO sl y)
 | .append _ _ _ flat x y=>Vr sl a (evO sl x)&&(flat || seenSrc sl a (evO sl y))
 | _=>false
def LooseS (s:Sl) (a b:COp):Prop:=Zgn b=true∧(Yg a=true∨(Vq a=true∧ZcH s a b=true))
theorem Zas {sl:Sl} {id:Nat}:∀ {xs:List Opd},Qj sl id xs=true→∀ x∈xs,Ua id (evO sl x)=true
 | [],_,x,hx=>by simp at hx
 | y :: ys,h,x,hx=>by
  simp only[Qj,Kb] at h;rcases Kf.1 hx with rfl | hx
  ·exact h.1
  ·exact Zas h.2 x hx
theorem Zel {sl:Sl} {xs:List Opd}:∀ {ks:List Nat},QX sl xs ks=true→∀ k∈ks,Qj sl k xs=true
 | [],_,k,hk=>by simp at hk
 | j :: r,h,k,hk=>by
  simp only[QX,Kb] at h;rcases Kf.1 hk with rfl | hk
  ·exact h.1
  ·exact Zel h.2 k hk
theorem Zem {sl:Sl} {a:COp} {b1 b2 b3 b4:Nat} {v:AV} (h:XU sl a (.prow b1 b2 b3 b4) v=true):(∃ d,v=.d d)∨(okV v=true∧QX sl (Zq a) (Zl v)=true):=by
 cases v<;>first | exact .inl ⟨_,rfl⟩ | (simp only[XU,Kb] at h;exact .inr h)
theorem ZnR {sl:Sl} {a:COp} {b1 b2 b3 b4:Nat} {v:AV} (h:okV v=true∧QX sl (Zq a) (Zl v)=true):XU sl a (.prow b1 b2 b3 b4) v=true:=by
 cases v<;>first | rfl | (simp only[XU,Kb];exact h)
theorem Zjf {sl:Sl} {a:COp} {x v:AV} (hx:∀ a b c d,x≠.prow a b c d):XU sl a x v=true:=by
 cases x<;>first | rfl | exact absurd rfl (hx _ _ _ _)
theorem ZfJ {sl sl' : Sl} {xs:List Opd} (h:∀ k,Qj sl k xs=true→Qj sl' k xs=true):∀ {ks:List Nat},QX sl xs ks=true→QX sl' xs ks=true
 | [],_=>rfl
 | j :: r,hh=>by
  simp only[QX,Kb] at hh ⊢;exact⟨h j hh.1,ZfJ h hh.2⟩
theorem ZfK {id:Nat} {v:AV} (h:Ua id v=true):id∉Zl v:=by
 cases v with
 | tup vs=>cases vs with
  | nil=>simp[Zl]
  | cons x r=>cases h
 | _=>simp[Ua,Zl,Zn,Ze] at h ⊢ <;> exact fun e=>h e.symm
theorem ZlW {hp:Hp} {sz by_ base:Nat} {str flat:Bool} {x y:AV} {e:Eff} (h:Vm hp sz by_ str flat base x y=some e):e.sets=[]∧e.frz=[]∧((x=.nil∧e.dels=[])∨∃ id,e.dels=[id]∧(x=.own id∨∃ o n,x=.ownv id o n)):=by
 unfold Vm at h;obtain⟨q,_,h⟩:=Za h;split at h
 ·cases x<;>simp only[ZbM] at h<;>first | (cases h;done) | skip
  ·split at h
   ·cases h;exact⟨rfl,rfl,.inl ⟨rfl,rfl⟩⟩
   ·cases h
  ·split at h
   ·cases h
   ·unfold Zf7 at h;split at h
    ·split at h
     ·cases h;exact⟨rfl,rfl,.inr ⟨_,rfl,.inl rfl⟩⟩
     ·cases h
    ·cases h
  ·split at h
   ·cases h
   ·split at h
    ·unfold ZcR at h;split at h
     ·split at h
      ·cases h;exact⟨rfl,rfl,.inr ⟨_,rfl,.inr ⟨_,_,rfl⟩⟩⟩
      ·cases h
     ·cases h
    ·unfold ZcQ at h;split at h
     ·split at h
      ·cases h;exact⟨rfl,rfl,.inr ⟨_,rfl,.inr ⟨_,_,rfl⟩⟩⟩
      ·cases h
     ·cases h
 ·cases h
theorem ZfL {hp:Hp} {x:AV} {k:Nat} (h:k∈XE hp x):x=.own k:=by
 unfold XE at h;split at h
 ·split at h
  ·simp at h;subst h;rfl
  ·simp at h
 ·simp at h
theorem Zo8 {hp:Hp} {sz by_ base:Nat} {str flat:Bool} {x y:AV} {e:Eff} (h:Yt hp sz by_ str flat base x y (XE hp x++XE hp y)=some e):e.frz=[] ∧
  e.sets=[]∧∀ k∈e.dels,(x=.own k∨∃ o n,x=.ownv k o n)∨(flat=false∧y=.own k):=by
 have plain:∀ {hp' : Hp} {e:Eff},Vm hp' sz by_ str flat base x y=some e→e.sets=[]∧e.frz=[]∧∀ k∈e.dels,x=.own k∨∃ o n,x=.ownv k o n:=by
  intro hp' e h;obtain⟨g1,g2,g3⟩:=ZlW h;refine⟨g1,g2,fun k hk=>?_⟩;rcases g3 with ⟨_,g3⟩ | ⟨id,g3,g4⟩
  ·rw[g3] at hk;simp at hk
  ·rw[g3] at hk;simp at hk;subst hk;exact g4
 generalize hm:XE hp x++XE hp y=ms at h;cases ms with
 | nil=>
  simp only[Yt] at h;obtain⟨g1,g2,g3⟩:=plain h;exact⟨g2,g1,fun k hk=>.inl (g3 k hk)⟩
 | cons i r=>
  simp only[Yt] at h;split at h
  ·cases h
  ·rename_i aa;obtain⟨e0,h1,h⟩:=Za h;cases h;obtain⟨g1,g2,g3⟩:=plain h1;refine⟨g2,g1,fun k hk=>?_⟩;rcases Kc.1 hk with hk | hk
   ·exact .inl (g3 k hk)
   ·rw[← hm] at hk;rcases Kc.1 hk with hk | hk
    ·exact .inl (.inl (ZfL hk))
    ·exact .inr ⟨by simpa using aa,ZfL hk⟩
theorem ZfM {ds:List Nat} {l:Hp} {k:Nat} (h:k∈ds):lkp (ZN l ds) k=none:=by
 cases hl:lkp (ZN l ds) k with
 | none=>rfl
 | some o=>exact absurd h (YY ds l k o hl).2
theorem Zqz {C:Orc} {M:Zf} {sl:Sl} {hp:Hp} {base:Nat} {c:COp} {ce:Zb} (hc:Zgn c=true) (h:vop C M sl hp base c=some ce) :
  ce.gone=[]∧(∀ k,k∈ce.eff.dels∨(∃ o,(k,o)∈ce.eff.sets)→(∃ x∈Zq c,k∈Zl (evO sl x))∧∀ a,ZcH sl a c=true→Qj sl k (Zq a)=true)∧∀ k∈ce.eff.frz,∃ x∈Zq c,k∈Zl (evO sl x):=by
 cases c<;>first | (cases hc;done) | skip
 case store slc sz x y=>
  simp only[vop,Zak] at h;obtain⟨e,h7,h⟩:=Za h;cases h;obtain⟨id,o,ht,g1,g2,g3,g4⟩:=ZnQ h7;refine⟨rfl,fun k hk=>?_,fun k hk=>⟨y,by simp[Zq],Zfz (U:=fun k=>k∈Zl (evO sl y)) (fun _ h=>h) k (g4 k hk)⟩⟩;rcases hk with hk | ⟨o',hk⟩
  ·obtain⟨k1,b1,b2,b3,b4,k2⟩:=g3 k hk;have k3:=Zfz (U:=fun k=>k∈Zl (evO sl y)) (fun _ h=>h) k k1;refine⟨⟨y,by simp[Zq],k3⟩,fun a ha=>?_⟩;simp only[ZcH,Kb,k2] at ha;rcases Zem ha.2 with ⟨d,hv⟩ | hv
   ·rw[hv] at k3;simp[Zl,Zn,Ze] at k3
   ·exact Zel hv.2 k k3
  ·simp only[g2,KW,Prod.mk.injEq] at hk;have aa:=hk.1;subst aa;refine⟨⟨x,by simp[Zq],?_⟩,fun a ha=>?_⟩
   ·cases hv:evO sl x<;>rw[hv] at ht<;>simp only[XJ] at ht<;>cases ht<;>simp[Zl,Zn,Ze]
   ·simp only[ZcH,Kb,ht,JR] at ha;exact ha.1
 case append sz by_ str flat x y=>
  simp only[vop,ZkW,Zak] at h;obtain⟨e,h7,h⟩:=Za h;cases h;obtain⟨g2,g1,g3⟩:=Zo8 h7;refine⟨rfl,fun k hk=>?_,fun k hk=>by simp only[g2,LK] at hk⟩;have ab:k∈e.dels:=by
   rcases hk with hk | ⟨o',hk⟩
   ·exact hk
   ·simp only[g1,LK] at hk
  rcases g3 k ab with g4 | ⟨g4,g5⟩
  ·refine⟨⟨x,by simp[Zq],?_⟩,fun a ha=>?_⟩
   ·rcases g4 with g4 | ⟨o,n,g4⟩<;>rw[g4]<;>simp[Zl,Zn,Ze]
   ·simp only[ZcH,Kb] at ha;rcases g4 with g4 | ⟨o,n,g4⟩<;>rw[g4] at ha<;>exact ha.1
  ·refine⟨⟨y,by simp[Zq],by rw[g5];simp[Zl,Zn,Ze]⟩,fun a ha=>?_⟩;simp only[ZcH,Kb,g4,Bool.false_or] at ha;rw[g5] at ha;exact ha.2
theorem ZlX {C:Orc} {M:Zf} {os:List CO} {nx i j:Nat} {oi oj:CO} (ae:os[i]?=some oi) (ak:os[j]?=some oj) (ar:Zz os i=true) (am:Zz os j=false) (a3:i≠j) (au:QI oj oi=true)
  (an:∀ (k:Nat) (o:CO),os[k]?=some o→∀ x∈Zq o.op,Xq x=true) {s s1 s2:Sl×Hp} {U:Nat→Prop} (hs:ZbE nt s U) (a4:Qz U (nx+64*i)) (av:Qz U (nx+64*j)) (hl:LooseS s.1 oj.op oi.op)
  (h1:Zr C M os nx j s=some s1) (h2:Zr C M os nx i s1=some s2):∃ t1,Zr C M os nx i s=some t1∧∃ t2,Zr C M os nx j t1=some t2∧QQ t2 s2:=by
 obtain⟨F,A,I,Γ,a,w,ag⟩:=hs;simp only[QI,Kb] at au;obtain⟨⟨aw,ax⟩,al⟩:=au;have good:∀ (k:Nat) (o:CO),os[k]?=some o→∀ x∈Zq o.op,ZcF U (evO s.1 x):=by
  intro k o ho x hx;cases x with
  | t n=>exact ag.good n
  | v y=>exact Vh (an k o ho _ hx)
  | f n=>exact⟨fun id a5=>by simp[evO,Zl,Zn] at a5,fun f a6 h c hc=>by cases h;simp at hc⟩
 simp only[Zr,ak,Zc,am] at h1;simp only[Zr,ae,Zc,ar] at h2;obtain⟨vj,aj,rfl,ao,ay⟩:=Zb3 h1;obtain⟨a7,hl⟩:=hl;unfold Zu at h2;obtain⟨b,hw,h2⟩:=Za h2;have az : ZD s.1 oi.guard=some b:=by rw[← hw];exact(Z5 aw).symm
 cases b with
 | false=>
  simp only[Ka,Kg] at h2;cases h2;refine⟨(Zh s.1 oi.dst (.tup []),s.2),by simp only[Zr,ae,Zc,Zu,az,Ka,Kg],?_⟩;have e2:=ay (Zh s.1 oi.dst (.tup []),s.2) (Z5 al) (Qx C M s.2 (nx+64*j) (X9 (o:=oj) al));exact⟨(Zh (Zh s.1 oi.dst (.tup [])) oj.dst vj,Zd s.2 aj),by simp only[Zr,ak,Zc,am];exact e2,fun t=>(YG ax vj (.tup []) t).symm,fun id=>rfl⟩
 | true=>
  simp only[Kh] at h2;obtain⟨ce,h3,h4,rfl⟩:=QF h2;have a0 : vop C M s.1 s.2 (nx+64*i) oi.op=some ce:=by
   have h5:=Jf h3;rw[← h5,Qx C M (Zd s.2 aj) (nx+64*i) (X9 (o:=oi) aw)];exact VL (ag.agree (Ya av ao s.2)) C M _ (good i oi ae)
  have aa:=Y8 h4;obtain⟨k1,k2,k3⟩:=Zqz a7 a0;obtain⟨e,gn⟩:=ce;simp only at k1 k2 k3;subst k1;have ap:∀ k∈e.frz,U k:=fun k hk=>by
   obtain⟨x,hx,hk⟩:=k3 k hk;exact(good i oi ae x hx).1 k hk
  have ah:∀ k,k∈e.dels∨(∃ o,(k,o)∈e.sets)→U k:=fun k hk=>by
   obtain⟨⟨x,hx,hk⟩,_⟩:=k2 k hk;exact(good i oi ae x hx).1 k hk
  have ai:∀ s:Sl×Hp,Zb.on { eff:=e,gone:=[] } oi.dst s.1 s.2=(Zh s.1 oi.dst e.val,Zd (Zd (ZN (ZQ e.frz s.2) e.dels) e.sets) e.adds):=by
   intro s;rfl
  refine⟨Zb.on { eff:=e,gone:=[] } oi.dst s.1 s.2,?_,?_⟩
  ·simp only[Zr,ae,Zc,Zu,az,Kh,Xd,ar,X4];rw[a0,Zc,Ko h4]
  ·have ab:∀ k,U k→¬(k∈e.dels∨∃ o,(k,o)∈e.sets)→FzEq (lkp s.2 k) (lkp (Zd (Zd (ZN (ZQ e.frz s.2) e.dels) e.sets) e.adds) k):=by
    intro k hk aq;rw[not_or] at aq;rw[← Ya a4 aa _ k hk,Zp _ _ k (fun o ho=>aq.2 ⟨o,ho⟩),YJ _ _ k aq.1,ZL];exact⟨_,rfl⟩
   have e2:Zu C M nx j false oj (Zb.on { eff:=e,gone:=[] } oi.dst s.1 s.2)=some (Zh (Zb.on { eff:=e,gone:=[] } oi.dst s.1 s.2).1 oj.dst vj,Zd (Zb.on { eff:=e,gone:=[] } oi.dst s.1 s.2).2 aj):=by
    rw[ai];refine ay (Zh s.1 oi.dst e.val,Zd (Zd (ZN (ZQ e.frz s.2) e.dels) e.sets) e.adds) (Z5 al) ?_;rw[Qx C M _ (nx+64*j) (X9 (o:=oj) al)];rcases hl with hl | ⟨a8,a9⟩
    ·exact ZcL hl
    ·refine vop_fz a8 fun z hz k hk=>?_;refine ab k ((good j oj ak z hz).1 k hk) fun hp=>?_;exact ZfK (Zas ((k2 k hp).2 _ a9) z hz) hk
   refine⟨_,by simp only[Zr,ak,Zc,am];exact e2,fun t=>?_,fun k=>?_⟩
   ·rw[ai,ai (Zh s.1 oj.dst vj,Zd s.2 aj)];exact(YG ax vj e.val t).symm
   ·rw[ai,ai (Zh s.1 oj.dst vj,Zd s.2 aj)];show lkp (Zd (Zd (Zd (ZN (ZQ e.frz s.2) e.dels) e.sets) e.adds) aj) k=lkp (Zd (Zd (ZN (ZQ e.frz (Zd s.2 aj)) e.dels) e.sets) e.adds) k;have a1:∀ (B:Hp) (hp hp' : Hp),(∀ k,lkp hp k=lkp hp' k)→∀ k,lkp (Zd hp B) k=lkp (Zd hp' B) k:=fun B hp hp' h=>WA B h;have ad:∀ k,U k→∀ o',(k,o')∉aj:=fun k hk o' af=>by
     have:=ao k o' af;exact av k this.1 this.2 hk
    rw[Zia (A:=e.adds) (B:=aj) (fun k x y hx hy=>by
     have:=aa k x hx;have:=ao k y hy;rcases Lq a3 with h | h<;>omega)]
    refine a1 e.adds _ _ (fun k=>?_) k;rw[Zia (A:=e.sets) (B:=aj) (fun k x y hx hy=>ad k (ah k (.inr ⟨x,hx⟩)) y hy) (ZN (ZQ e.frz s.2) e.dels) k];refine a1 e.sets _ _ (fun k=>?_) k;by_cases hd:k∈e.dels
    ·rw[Zp aj _ k (ad k (ah k (.inl hd))),ZfM hd,ZfM hd]
    ·rw[YJ _ _ k hd];rw[ZL];by_cases hk:∃ o',(k,o')∈aj
     ·obtain⟨o',af⟩:=hk;rw[WU (hp':=s.2) ⟨o',af⟩];have a':k∉e.frz:=fun hf=>ad k (ap k hf) o' af;cases lkp (Zd s.2 aj) k<;>simp[a']
     ·have a2 : ∀ o',(k,o')∉aj:=fun o' af=>hk ⟨o',af⟩;rw[Zp aj _ k a2,Zp aj _ k a2,YJ _ _ k hd,ZL]
theorem ZnS {C:Orc} {M:Zf} {os:List CO} {nx i j:Nat} {oi oj:CO} (ab:os[i]?=some oi) (ad:os[j]?=some oj) (ae:Zmm oi.op=true) (af:Zz os j=false) (ag:i≠j) (ah:QI oj oi=true)
  (aa:∀ (k:Nat) (o:CO),os[k]?=some o→∀ x∈Zq o.op,Xq x=true) {s s1 s2:Sl×Hp} {U:Nat→Prop} (hs:ZbE nt s U) (ai:Qz U (nx+64*i)) (aj:Qz U (nx+64*j))
  (h1:Zr C M os nx j s=some s1) (h2:Zr C M os nx i s1=some s2):∃ t1,Zr C M os nx i s=some t1∧∃ t2,Zr C M os nx j t1=some t2∧QQ t2 s2:=by
 have e:∀ s:Sl×Hp,Zr C M os nx i s=Zu C M nx i false oi s:=fun s=>by
  simp only[Zr,ab,Zc];cases Zz os i
  ·rfl
  ·exact ZnP ae s
 rw[e] at h2;simp only[e];exact ZfH ab ad af ag ah aa hs ai aj h1 h2
theorem Zjg {hp:Hp} {base s:Nat} {vs:List AV} {ce:Zb} (h:buildSl hp base s vs=some ce):ce.gone=[]:=by
 cases vs with
 | nil=>simp only[buildSl,Qf] at h;first | (cases h;rfl) | (split at h<;>first | (cases h;rfl) | cases h)
 | cons v r=>
  simp only[buildSl] at h;obtain⟨q,_,h⟩:=Za h;unfold Zog at h;split at h
  ·cases h;rfl
  ·cases h
theorem Zky {C:Orc} {M:Zf} {sl:Sl} {hp:Hp} {base:Nat} {c:COp} {ce:Zb} (hc:JP c=true) (h:vop C M sl hp base c=some ce):ce.gone=[]:=by
 cases c<;>first | (cases hc;done) | skip
 ·simp only[vop] at h;exact Zjg h
 ·simp only[vop,ZkW,Zak] at h;obtain⟨e,_,h⟩:=Za h;cases h;rfl
theorem ZnT {C:Orc} {M:Zf} {nx j:Nat} {oj:CO} {s s1:Sl×Hp} (hm:Xu oj.op=true) (h:Zu C M nx j false oj s=some s1) :
  ∃ v,s1=(Zh s.1 oj.dst v,s.2)∧∀ aa : Sl×Hp,ZD aa.1 oj.guard=ZD s.1 oj.guard→(∀ x∈Zq oj.op,evO aa.1 x=evO s.1 x)→Zu C M nx j false oj aa=some (Zh aa.1 oj.dst v,aa.2):=by
 obtain⟨x,hx⟩:∃ x,oj.op=.move x:=by
  cases ho:oj.op<;>rw[ho] at hm<;>first | (cases hm;done) | exact⟨_,rfl⟩
 unfold Zu at h ⊢;obtain⟨b,hw,h⟩:=Za h;cases b with
 | true=>
  simp only[Kh,hx,X4,Ka,Kg,vop] at h;refine⟨evO s.1 x,?_,fun aa g1 g2=>?_⟩
  ·cases h;rfl
  ·rw[g1,hw,Zc];have e:=g2 x (by rw[hx];simp[Zq]);simp only[Kh,hx,X4,Ka,Kg,vop,e];rfl
 | false=>
  simp only[Ka,Kg] at h;cases h;refine⟨.tup [],rfl,fun aa g1 g2=>?_⟩;rw[g1,hw,Zc];rfl
theorem ZnU {C:Orc} {M:Zf} {os:List CO} {nx i j:Nat} {oi oj:CO} (ad:os[i]?=some oi) (ae:os[j]?=some oj) (af:Zz os j=false) (ah:QI oj oi=true)
  {s s1 s2:Sl×Hp} (hm:Xu oj.op=true) (hg:JP oi.op=true)
  (h1:Zr C M os nx j s=some s1) (h2:Zr C M os nx i s1=some s2):∃ t1,Zr C M os nx i s=some t1∧∃ t2,Zr C M os nx j t1=some t2∧QQ t2 s2:=by
 simp only[QI,Kb] at ah;obtain⟨⟨ai,aj⟩,ab⟩:=ah;simp only[Zr,ae,Zc,af] at h1;simp only[Zr,ad,Zc] at h2;obtain⟨vj,rfl,ak⟩:=ZnT hm h1;unfold Zu at h2;obtain⟨b,hw,h2⟩:=Za h2;have al : ZD s.1 oi.guard=some b:=by rw[← hw];exact(Z5 ai).symm
 cases b with
 | false=>
  simp only[Ka,Kg] at h2;cases h2;refine⟨(Zh s.1 oi.dst (.tup []),s.2),by simp only[Zr,ad,Zc,Zu,al,Ka,Kg],?_⟩;exact⟨(Zh (Zh s.1 oi.dst (.tup [])) oj.dst vj,s.2),by simp only[Zr,ae,Zc,af];exact ak (Zh s.1 oi.dst (.tup []),s.2) (Z5 ab) (X9 (o:=oj) ab),fun t=>(YG aj vj (.tup []) t).symm,fun id=>rfl⟩
 | true=>
  simp only[Kh] at h2;obtain⟨ce,h3,h4,rfl⟩:=QF h2;have aa:=Zky hg (Jf h3);have am : X4 C M nx i (Zz os i) oi.op s.1 s.2=some ce:=by
   rw[← h3];unfold X4;rw[Qx C M s.2 (nx+64*i) (X9 (o:=oi) ai)]
  have ag:∀ (sl:Sl) (hp:Hp),ce.on oi.dst sl hp=(Zh sl oi.dst ce.eff.val,ce.eff.on hp):=by
   intro sl hp;unfold Zb.on;rw[aa];rfl
  refine⟨ce.on oi.dst s.1 s.2,?_,?_⟩
  ·simp only[Zr,ad,Zc,Zu,al,Kh,Xd];rw[am,Zc,Ko h4]
  ·rw[ag];refine⟨(Zh (Zh s.1 oi.dst ce.eff.val) oj.dst vj,ce.eff.on s.2),by simp only[Zr,ae,Zc,af];exact ak (Zh s.1 oi.dst ce.eff.val,ce.eff.on s.2) (Z5 ab) (X9 (o:=oj) ab),fun t=>?_,fun k=>?_⟩
   ·rw[ag];exact(YG aj vj ce.eff.val t).symm
   ·rw[ag]
theorem awayV_ptr {sl:Sl} {xs:List Opd} {v:AV} (h:Ub sl xs v=true) {k off:Nat} (e:v=.ptr k off):∀ z∈xs,k∉Zl (evO sl z):=by
 subst e;exact fun z hz=>ZfK (Zas h z hz)
structure ZfN (r:Sl) (oX oY:CO):Prop where
 opd:∀ x∈Zq oX.op,okV (evO r x)=true
 dst:∀ t,oX.dst=some t→okV (gs r t)=true
 arg:∀ y∈ZdN oY.op,okV (evO r y)=true
 away:∀ y∈ZdN oY.op,∀ k off,evO r y=.ptr k off→∀ z∈Zq oX.op,k∉Zl (evO r z)
theorem Zjh {sl:Sl}:∀ {xs:List Opd},okL sl xs=true→∀ x∈xs,okV (evO sl x)=true
 | [],_,x,hx=>by simp at hx
 | y :: ys,h,x,hx=>by
  simp only[okL,Kb] at h;rcases Kf.1 hx with rfl | hx
  ·exact h.1
  ·exact Zjh h.2 x hx
theorem Zib {sl:Sl} {xs:List Opd}:∀ {ys:List Opd},ZaH sl xs ys=true→∀ y∈ys,Ub sl xs (evO sl y)=true
 | [],_,x,hx=>by simp at hx
 | y :: ys,h,x,hx=>by
  simp only[ZaH,Kb] at h;rcases Kf.1 hx with rfl | hx
  ·exact h.1
  ·exact Zib h.2 x hx
theorem Zkz {r:Sl} {oX oY:CO} (hm:Xu oX.op=false) (hc:V4 oY.op=true) (h:YX r oX.dst oX.op oY.op=true):ZfN r oX oY:=by
 obtain⟨f,as,ho⟩:∃ f as,oY.op=.call (.f f) as:=by
  cases ho:oY.op<;>rw[ho] at hc<;>first | (cases hc;done) | skip
  rename_i f as;cases f<;>first | (cases hc;done) | exact⟨_,_,rfl⟩
 rw[ho] at h;have h' : (okL r (Zq oX.op)&&(okD r oX.dst&&(okL r as&&ZaH r (Zq oX.op) as)))=true:=by
  cases hx:oX.op<;>rw[hx] at h hm<;>first | (cases hm;done) | exact h
 simp only[Kb] at h';obtain⟨h1,h2,h3,h4⟩:=h';refine⟨Zjh h1,fun t ht=>?_,?_,?_⟩
 ·rw[ht] at h2;exact h2
 ·rw[ho];exact Zjh h3
 ·rw[ho];intro y hy k off e;exact awayV_ptr (Zib h4 y hy) e
theorem ZfN.move {r r' : Sl} {oX oY:CO} (h:ZfN r oX oY) (h1:∀ n∈(Zq oX.op).flatMap Wr,okV (gs r n)=true→gs r' n=gs r n) (h2:∀ n,oX.dst=some n→okV (gs r n)=true→gs r' n=gs r n)
  (h3:∀ n∈(ZdN oY.op).flatMap Wr,okV (gs r n)=true→gs r' n=gs r n):ZfN r' oX oY:=by
 have e1:∀ x∈Zq oX.op,evO r' x=evO r x:=fun x hx=>by
  have ho:=h.opd x hx;cases x with
  | t n=>exact h1 n (Kl.2 ⟨_,hx,by simp[Wr]⟩) ho
  | _=>rfl
 have e3:∀ x∈ZdN oY.op,evO r' x=evO r x:=fun x hx=>by
  have ho:=h.arg x hx;cases x with
  | t n=>exact h3 n (Kl.2 ⟨_,hx,by simp[Wr]⟩) ho
  | _=>rfl
 refine⟨fun x hx=>by rw[e1 x hx];exact h.opd x hx,fun t ht=>by rw[h2 t ht (h.dst t ht)];exact h.dst t ht,fun x hx=>by rw[e3 x hx];exact h.arg x hx,fun y hy k off e z hz=>?_⟩;rw[e3 y hy] at e;rw[e1 z hz];exact h.away y hy k off e z hz
theorem ZfO {C:Orc} {M:Zf} (hM:∀ f,M f 99=false) {os:List CO} {nx x y:Nat} {oX oY:CO} (ay:os[x]?=some oX) (a1:os[y]?=some oY) (a2:x≠y) (ak:Qe oY.dst (Xn oX)=true) (aw:Qe oX.dst (Xn oY)=true)
  (ad:Qe oX.dst (Xn oX)=true) (al:Qe oY.dst (Xn oY)=true)
  (ar:∀ (k:Nat) (o:CO),os[k]?=some o→∀ x∈Zq o.op,Xq x=true) {s:Sl×Hp} {r:Sl} {U:Nat→Prop} (hs:ZbE nt s U) (a3:Qz U (nx+64*x)) (a4:Qz U (nx+64*y))
  (ae:V4 oY.op=true) {ce:Zb} (a5:vop C M s.1 s.2 (nx+64*y) oY.op=some ce) (a6:Qn (nx+64*y) (nx+64*y+64) ce.eff.adds=true)
  (am:∀ n,oX.dst≠some n→oY.dst≠some n→gs r n=kill ce.gone (gs s.1 n)) (aa:ZfN r oX oY) :
  ce.eff.dels=[]∧(∀ z∈Zq oX.op,evO (ce.on oY.dst s.1 s.2).1 z=evO s.1 z)∧(∀ z∈Zq oX.op,∀ id∈Zl (evO s.1 z),id∉ce.gone)∧(∀ z∈Zq oX.op,ZcK ce.gone s.2 (ce.on oY.dst s.1 s.2).2 (evO s.1 z)) ∧
  (∀ k,nx+64*x≤k→k<nx+64*x+64→(∀ o',(k,o')∉ce.eff.sets)∧(∀ o',(k,o')∉ce.eff.adds)∧k∉ce.eff.frz∧k∉ce.gone):=by
 obtain⟨F,A,I,Γ,a,w,au⟩:=hs;have good:∀ (k:Nat) (o:CO),os[k]?=some o→∀ x∈Zq o.op,ZcF U (evO s.1 x):=by
  intro k o ho x hx;cases x with
  | t n=>exact au.good n
  | v y=>exact Vh (ar k o ho _ hx)
  | f n=>exact⟨fun id av=>by simp[evO,Zl,Zn] at av,fun f a7 h c hc=>by cases h;simp at hc⟩
 obtain⟨f,as,ho⟩:∃ f as,oY.op=.call (.f f) as:=by
  cases ho:oY.op<;>rw[ho] at ae<;>first | (cases ae;done) | skip
  rename_i f as;cases f<;>first | (cases ae;done) | exact⟨_,_,rfl⟩
 have an:=a5;rw[ho] at an;simp only[vop,evO,UP,KY] at an;obtain⟨k1,k2,k3,k4⟩:=Zn4 an (hM _);have ab:∀ n,(Opd.t n)∈Zq oX.op→n∈Xn oX:=fun n hn=>Kc.2 (.inl (Kl.2 ⟨_,hn,by simp[Wr]⟩));have ai:∀ n,(Opd.t n)∈as→n∈Xn oY:=fun n hn=>Kc.2 (.inl (Kl.2 ⟨.t n,by rw[ho];simp[Zq,hn],by simp[Wr]⟩));have ne:∀ {d:Option Nat} {l:List Nat} {n:Nat},Qe d l=true→n∈l→d≠some n:=fun {d l n} h hn e=>by
  rw[e] at h;simp only[Qe,KI,KD,KN] at h;exact h hn
 have ax:∀ z∈Zq oX.op,evO r z=evO s.1 z∧∀ id∈Zl (evO s.1 z),id∉ce.gone:=by
  intro z hz;have af:=aa.opd z hz;cases z with
  | t n=>
   have e:=am n (ne ad (ab n hz)) (ne ak (ab n hz));simp only[evO] at af ⊢;rw[e] at af ⊢;have:=WR af;exact⟨this,Zpa this⟩
  | v c=>
   have:=ar x oX ay _ hz;simp only[Xq,Kb,List.isEmpty_iff] at this;exact⟨rfl,fun id av=>by simp only[evO] at av;rw[this.1] at av;simp at av⟩
  | f n=>simp only[evO,okV,okC] at af;cases af
 have az:∀ z∈as,evO r z=evO s.1 z:=by
  intro z hz;have af:=aa.arg z (by rw[ho];exact hz);cases z with
  | t n=>
   have e:=am n (ne aw (ai n hz)) (ne al (ai n hz));simp only[evO] at af ⊢;rw[e] at af ⊢;exact WR af
  | _=>rfl
 have a0:∀ id,(∃ o,lkp s.2 id=some o)→U id:=fun id ⟨o,h⟩=>au.id_in h;have uX:∀ k,nx+64*x≤k→k<nx+64*x+64→¬U k:=fun k h1 h2=>a3 k h1 h2;have aj:=Y8 a6;have ag:∀ z∈Zq oX.op,∀ k∈Zl (evO s.1 z),∀ o',(k,o')∉ce.eff.sets:=by
  intro z hz k hk o' ao;rcases (k4 k o' ao).2 with h | ⟨v,hv,ap⟩
  ·exact(ax z hz).2 k hk h
  ·obtain⟨y',aq,rfl⟩:=Zba hv;have ah:=aa.arg y' (by rw[ho];exact aq);rw[az y' aq] at ah;cases hp:evO s.1 y' with
   | ptr a b=>
    rw[hp] at ap;simp only[VE,KW] at ap;subst ap;have:=aa.away y' (by rw[ho];exact aq) k b (by rw[az y' aq,hp]) z hz;rw[(ax z hz).1] at this;exact this hk
   | clo g cs=>rw[hp] at ah;simp only[okV,okC] at ah;cases ah
   | _=>rw[hp] at ap;simp[VE] at ap
 refine⟨k1,fun z hz=>?_,fun z hz=>(ax z hz).2,fun z hz k hk=>?_,fun k g1 g2=>⟨fun o' ao=>?_,fun o' ao=>?_,fun hf=>?_,fun hg=>?_⟩⟩
 ·cases z with
  | t n=>
   show gs (Zh (Qv ce.gone s.1) oY.dst ce.eff.val) n=gs s.1 n;rw[Z2,Kk (ne ak (ab n hz)),Qg];have e:=am n (ne ad (ab n hz)) (ne ak (ab n hz));have:=aa.opd _ hz;simp only[evO] at this;rw[e] at this;exact WR this
  | _=>rfl
 ·have a8:U k:=(good x oX ay z hz).1 k hk;show WS ce.gone (lkp s.2 k) (lkp (ce.eff.on (X2 ce.gone s.2)) k);unfold Eff.on;rw[k1];simp only[ZN];rw[Zp,Zp,ZL,X7]
  ·exact ZkD _
  ·exact ag z hz k hk
  ·intro o' ao;obtain⟨h1,h2⟩:=aj k o' ao;exact a4 k h1 h2 a8
 ·exact uX k g1 g2 (a0 k (k4 k o' ao).1)
 ·have:=aj k o' ao;rcases Lq a2 with h | h<;>omega
 ·obtain⟨v,hv,ap⟩:=k2 k hf;obtain⟨y',aq,rfl⟩:=Zba hv;exact uX k g1 g2 ((good y oY a1 y' (by rw[ho];simp[Zq,aq])).1 k ap)
 ·exact uX k g1 g2 (a0 k (k3 k hg))
theorem ZlY {C:Orc} {M:Zf} (hM:∀ f,M f 99=false) {os:List CO} {nx i j:Nat} {oi oj:CO} (ah:os[i]?=some oi) (av:os[j]?=some oj) (az:Zz os j=false) (a0:i≠j) (aw:QI oj oi=true)
  (ad:Qe oj.dst (Xn oj)=true) (ae:Qe oi.dst (Xn oi)=true)
  (ai:∀ (k:Nat) (o:CO),os[k]?=some o→∀ x∈Zq o.op,Xq x=true) {s s1 s2:Sl×Hp} {U:Nat→Prop} (hs:ZbE nt s U) (a1:Qz U (nx+64*i)) (ap:Qz U (nx+64*j))
  (aj:V4 oi.op=true) (a2:Zgp oj.op=true) (aa:ZfN s2.1 oj oi) {t:Nat} (ht:oj.dst=some t)
  (h1:Zr C M os nx j s=some s1) (h2:Zr C M os nx i s1=some s2):∃ t1,Zr C M os nx i s=some t1∧∃ t2,Zr C M os nx j t1=some t2∧QQ t2 s2:=by
 have a3:=hs;obtain⟨F,A,I,Γ,a,w,af⟩:=a3;simp only[QI,Kb] at aw;obtain⟨⟨am,an⟩,ao⟩:=aw;have good:∀ (k:Nat) (o:CO),os[k]?=some o→∀ x∈Zq o.op,ZcF U (evO s.1 x):=by
  intro k o ho x hx;cases x with
  | t n=>exact af.good n
  | v y=>exact Vh (ai k o ho _ hx)
  | f n=>exact⟨fun id a4=>by simp[evO,Zl,Zn] at a4,fun f a5 h c hc=>by cases h;simp at hc⟩
 have ab:∀ s:Sl×Hp,Zr C M os nx j s=Zu C M nx j false oj s:=fun s=>by simp only[Zr,av,Zc,az]
 rw[ab] at h1;simp only[Zr,ah,Zc] at h2;obtain⟨v,ax,a6,aq,hX⟩:∃ v ax,s1=(Zh s.1 oj.dst v,Zd s.2 ax)∧(∀ k x,(k,x)∈ax→nx+64*j≤k∧k<nx+64*j+64) ∧
   ((ZD s.1 oj.guard=some false∧v=.tup []∧ax=[])∨(ZD s.1 oj.guard=some true∧∃ ce,ZdD ce∧vop C M s.1 s.2 (nx+64*j) oj.op=some ce∧Qn (nx+64*j) (nx+64*j+64) ce.eff.adds=true∧v=ce.eff.val∧ax=ce.eff.adds)):=by
  rcases Zl7 h1 with ⟨g1,g2⟩ | ⟨g1,ce,g2,g3,g4,g5⟩
  ·exact⟨.tup [],[],g2,fun k x h=>by simp at h,.inl ⟨g1,rfl,rfl⟩⟩
  ·exact⟨ce.eff.val,ce.eff.adds,g5,Y8 g4,.inr ⟨g1,ce,g2,g3,g4,rfl,rfl⟩⟩
 subst a6;unfold Zu at h2;obtain⟨b,hw,h2⟩:=Za h2;have ay : ZD s.1 oi.guard=some b:=by rw[← hw];exact(Z5 am).symm
 cases b with
 | false=>
  simp only[Ka,Kg] at h2;cases h2;refine⟨(Zh s.1 oi.dst (.tup []),s.2),by simp only[Zr,ah,Zc];exact Xb ay,?_⟩;refine⟨(Zh (Zh s.1 oi.dst (.tup [])) oj.dst v,Zd s.2 ax),?_,fun t=>(YG an v (.tup []) t).symm,fun id=>rfl⟩;rw[ab];have ak:ZD (Zh s.1 oi.dst (.tup [])) oj.guard=ZD s.1 oj.guard:=Z5 ao;rcases hX with ⟨g1,rfl,rfl⟩ | ⟨g1,ce,g2,g3,g4,rfl,rfl⟩
  ·exact Xb (s:=(Zh s.1 oi.dst (.tup []),s.2)) (ak.trans g1)
  ·refine Zbc (s:=(Zh s.1 oi.dst (.tup []),s.2)) (ak.trans g1) g2 ?_ g4;rw[← g3];exact Qx C M s.2 (nx+64*j) (X9 (o:=oj) ao)
 | true=>
  simp only[Kh] at h2;obtain⟨ce,h3,h4,rfl⟩:=QF h2;have a7:vop C M s.1 s.2 (nx+64*i) oi.op=some ce:=by
   have h5:=Jf h3;rw[← h5,Qx C M (Zd s.2 ax) (nx+64*i) (X9 (o:=oi) am)];exact VL (af.agree (Ya ap aq s.2)) C M _ (good i oi ah)
  have a8 : X4 C M nx i (Zz os i) oi.op s.1 s.2=some ce:=by
   rw[← h3];unfold X4;rw[Qx C M (Zd s.2 ax) (nx+64*i) (X9 (o:=oi) am),VL (af.agree (Ya ap aq s.2)) C M _ (good i oi ah)]
  have ar:∀ n,oj.dst≠some n→oi.dst≠some n→gs (ce.on oi.dst (Zh s.1 oj.dst v) (Zd s.2 ax)).1 n=kill ce.gone (gs s.1 n):=fun n e1 e2=>by
   show gs (Zh (Qv ce.gone (Zh s.1 oj.dst v)) oi.dst ce.eff.val) n=_;rw[Z2,Kk e2,Qg,Z2,Kk e1]
  obtain⟨c1,c2,c3,c4,c5⟩:=ZfO (nt:=nt) hM av ah (Ne.symm a0) ao am ad ae ai hs ap a1 aj a7 h4 ar aa;have e0:gs (ce.on oi.dst (Zh s.1 oj.dst v) (Zd s.2 ax)).1 t=kill ce.gone v:=by
   show gs (Zh (Qv ce.gone (Zh s.1 oj.dst v)) oi.dst ce.eff.val) t=_;rw[Z2,Kk,Qg,Z2,Ko ht];intro e;rw[ht,e] at an;simp[VS] at an
  have ag:kill ce.gone v=v:=by
   have h5:=aa.dst t ht;rw[e0] at h5;exact WR h5
  have au:okV v=true:=by
   have h5:=aa.dst t ht;rw[e0,ag] at h5;exact h5
  refine⟨ce.on oi.dst s.1 s.2,?_,?_⟩
  ·simp only[Zr,ah,Zc,Zu,ay,Kh,Xd];rw[a8,Zc,Ko h4]
  ·have ak:ZD (ce.on oi.dst s.1 s.2).1 oj.guard=ZD s.1 oj.guard:=by
    show ZD (Zh (Qv ce.gone s.1) oi.dst ce.eff.val) oj.guard=_;rw[Z5 ao];exact Zbd fun q _=>Qg _ _ _
   have al:(∀ k o,(k,o)∈ax→QC ce.gone o=o)∧Zu C M nx j false oj (ce.on oi.dst s.1 s.2)=some (Zh (ce.on oi.dst s.1 s.2).1 oj.dst v,Zd (ce.on oi.dst s.1 s.2).2 ax):=by
    rcases hX with ⟨g1,rfl,rfl⟩ | ⟨g1,cx,g2,g3,g4,rfl,rfl⟩
    ·exact⟨fun k o h=>by simp at h,Xb (ak.trans g1)⟩
    ·obtain⟨e1,e2⟩:=Zn2 a2 c2 c4 (fun k h6 h7=>(c5 k h6 h7).2.2.2) g3 g4 g2.frz au ag;exact⟨e2,Zbc (ak.trans g1) g2 e1 g4⟩
   obtain⟨e3,e4⟩:=al;refine⟨_,by rw[ab];exact e4,?_⟩;exact Zm8 (ce:=ce) (dX:=oj.dst) (dY:=oi.dst) (v:=v) (ax:=ax) (s:=s) an c1 (fun k o ho=>by
    obtain⟨h6,h7⟩:=aq k o ho;obtain⟨m1,m2,m3,_⟩:=c5 k h6 h7;exact⟨m1,m2,m3⟩) e3 ag
theorem ZkA {C:Orc} {M:Zf} (hM:∀ f,M f 99=false) {os:List CO} {nx i j:Nat} {oi oj:CO} (ar:os[i]?=some oi) (ag:os[j]?=some oj) (ay:Zz os i=false) (az:i≠j) (au:QI oj oi=true)
  (ad:Qe oi.dst (Xn oi)=true) (ae:Qe oj.dst (Xn oj)=true)
  (ah:∀ (k:Nat) (o:CO),os[k]?=some o→∀ x∈Zq o.op,Xq x=true) {s s1 s2:Sl×Hp} {U:Nat→Prop} (hs:ZbE nt s U) (av:Qz U (nx+64*i)) (a0:Qz U (nx+64*j))
  (ai:V4 oj.op=true) (a1:Zc2 oi.op=true) (ab:ZfN s2.1 oi oj) {t:Nat} (ht:oi.dst=some t)
  (h1:Zr C M os nx j s=some s1) (h2:Zr C M os nx i s1=some s2):∃ t1,Zr C M os nx i s=some t1∧∃ t2,Zr C M os nx j t1=some t2∧QQ t2 s2:=by
 have a2:=hs;obtain⟨F,A,I,Γ,a,w,aj⟩:=a2;simp only[QI,Kb] at au;obtain⟨⟨an,ao⟩,ak⟩:=au;have af : VS oi.dst oj.dst=true:=by
  cases hd:oi.dst<;>cases he:oj.dst<;>rw[hd,he] at ao<;>first | rfl | (simp only[VS,bne_iff_ne,ne_eq] at ao ⊢;exact fun e=>ao e.symm)
 have good:∀ (k:Nat) (o:CO),os[k]?=some o→∀ x∈Zq o.op,ZcF U (evO s.1 x):=by
  intro k o ho x hx;cases x with
  | t n=>exact aj.good n
  | v y=>exact Vh (ah k o ho _ hx)
  | f n=>exact⟨fun id a3=>by simp[evO,Zl,Zn] at a3,fun f a4 h c hc=>by cases h;simp at hc⟩
 have aa:∀ s:Sl×Hp,Zr C M os nx i s=Zu C M nx i false oi s:=fun s=>by simp only[Zr,ar,Zc,ay]
 rw[aa] at h2;simp only[Zr,ag,Zc] at h1;unfold Zu at h1;obtain⟨b,hw,h1⟩:=Za h1;cases b with
 | false=>
  simp only[Ka,Kg] at h1;cases h1;have al:ZD (Zh s.1 oj.dst (.tup [])) oi.guard=ZD s.1 oi.guard:=Z5 an;rcases Zl7 h2 with ⟨g1,g2⟩ | ⟨g1,ce,g2,g3,g4,g5⟩
  ·subst g2;refine⟨(Zh s.1 oi.dst (.tup []),s.2),by rw[aa];exact Xb (al.symm.trans g1),(Zh (Zh s.1 oi.dst (.tup [])) oj.dst (.tup []),s.2),?_,fun t=>YG af _ _ t,fun id=>rfl⟩;simp only[Zr,ag,Zc];exact Xb (s:=(Zh s.1 oi.dst (.tup []),s.2)) ((Z5 ak).trans hw)
  ·subst g5;refine⟨(Zh s.1 oi.dst ce.eff.val,Zd s.2 ce.eff.adds),?_,(Zh (Zh s.1 oi.dst ce.eff.val) oj.dst (.tup []),Zd s.2 ce.eff.adds),?_,fun t=>YG af _ _ t,fun id=>rfl⟩
   ·rw[aa];refine Zbc (al.symm.trans g1) g2 ?_ g4;rw[← g3];exact(Qx C M s.2 (nx+64*i) (X9 (o:=oi) an)).symm
   ·simp only[Zr,ag,Zc];exact Xb (s:=(Zh s.1 oi.dst ce.eff.val,Zd s.2 ce.eff.adds)) ((Z5 ak).trans hw)
 | true=>
  simp only[Kh] at h1;obtain⟨ce,h3,h4,rfl⟩:=QF h1;have a5:vop C M s.1 s.2 (nx+64*j) oj.op=some ce:=Jf h3;have al:ZD (ce.on oj.dst s.1 s.2).1 oi.guard=ZD s.1 oi.guard:=by
   show ZD (Zh (Qv ce.gone s.1) oj.dst ce.eff.val) oi.guard=_;rw[Z5 an];exact Zbd fun q _=>Qg _ _ _
  obtain⟨v,ax,a6,aw,hX⟩:∃ v ax,s2=(Zh (ce.on oj.dst s.1 s.2).1 oi.dst v,Zd (ce.on oj.dst s.1 s.2).2 ax)∧(∀ k x,(k,x)∈ax→nx+64*i≤k∧k<nx+64*i+64) ∧
    ((ZD s.1 oi.guard=some false∧v=.tup []∧ax=[])∨(ZD s.1 oi.guard=some true∧∃ cx,ZdD cx∧vop C M (ce.on oj.dst s.1 s.2).1 (ce.on oj.dst s.1 s.2).2 (nx+64*i) oi.op=some cx∧Qn (nx+64*i) (nx+64*i+64) cx.eff.adds=true∧v=cx.eff.val∧ax=cx.eff.adds)):=by
   rcases Zl7 h2 with ⟨g1,g2⟩ | ⟨g1,cx,g2,g3,g4,g5⟩
   ·exact⟨.tup [],[],g2,fun k x h=>by simp at h,.inl ⟨al.symm.trans g1,rfl,rfl⟩⟩
   ·exact⟨cx.eff.val,cx.eff.adds,g5,Y8 g4,.inr ⟨al.symm.trans g1,cx,g2,g3,g4,rfl,rfl⟩⟩
  subst a6;have ap:∀ n,oi.dst≠some n→oj.dst≠some n→gs (Zh (ce.on oj.dst s.1 s.2).1 oi.dst v) n=kill ce.gone (gs s.1 n):=fun n e1 e2=>by
   rw[Z2,Kk e1];show gs (Zh (Qv ce.gone s.1) oj.dst ce.eff.val) n=_;rw[Z2,Kk e2,Qg]
  obtain⟨c1,c2,c3,c4,c5⟩:=ZfO (nt:=nt) hM ar ag az an ak ad ae ah hs av a0 ai a5 h4 ap ab;have aq:okV v=true:=by
   have h5:=ab.dst t ht;simp only[Z2,Ko ht] at h5;exact h5
  have am:kill ce.gone v=v∧(∀ k o,(k,o)∈ax→QC ce.gone o=o)∧Zu C M nx i false oi s=some (Zh s.1 oi.dst v,Zd s.2 ax):=by
   rcases hX with ⟨g1,rfl,rfl⟩ | ⟨g1,cx,g2,g3,g4,rfl,rfl⟩
   ·exact⟨rfl,fun k o h=>by simp at h,Xb g1⟩
   ·obtain⟨e1,e2,e3⟩:=Zl6 a1 c2 c4 c3 (fun k h6 h7=>(c5 k h6 h7).2.2.2) g3 g4 g2.frz aq;exact⟨e2,e3,Zbc g1 g2 e1 g4⟩
  obtain⟨hk,e3,e4⟩:=am;refine⟨(Zh s.1 oi.dst v,Zd s.2 ax),by rw[aa];exact e4,ce.on oj.dst (Zh s.1 oi.dst v) (Zd s.2 ax),?_,?_⟩
  ·simp only[Zr,ag,Zc,Zu];have a7:ZD (Zh s.1 oi.dst v) oj.guard=some true:=(Z5 ak).trans hw;simp only[a7,Zc,Kh,Xd];have:X4 C M nx j (Zz os j) oj.op (Zh s.1 oi.dst v) (Zd s.2 ax)=some ce:=by
    rw[← h3];unfold X4;rw[Qx C M (Zd s.2 ax) (nx+64*j) (X9 (o:=oj) ak),← VL (aj.agree (Ya av aw s.2)) C M _ (good j oj ag)]
   rw[this,Zc,Ko h4]
  ·exact(Zm8 (ce:=ce) (dX:=oi.dst) (dY:=oj.dst) (v:=v) (ax:=ax) (s:=s) af c1 (fun k o ho=>by
    obtain⟨h6,h7⟩:=aw k o ho;obtain⟨m1,m2,m3,_⟩:=c5 k h6 h7;exact⟨m1,m2,m3⟩) e3 hk).symm
theorem Jy {C:Orc} {M:Zf} {nx j:Nat} {oj:CO} {x:Opd} (hx:oj.op=.move x) {s:Sl×Hp} {b:Bool} (hw:ZD s.1 oj.guard=some b) :
  Zu C M nx j false oj s=some (Zh s.1 oj.dst (if b then evO s.1 x else .tup []),s.2):=by
 unfold Zu;rw[hw,Zc];cases b
 ·rfl
 ·simp only[Kh,hx,X4,Ka,Kg,vop];rfl
theorem ZlZ {C:Orc} {M:Zf} {os:List CO} {nx i j:Nat} {oi oj:CO} (af:os[i]?=some oi) (am:os[j]?=some oj) (an:Zz os j=false) (ai:QI oj oi=true)
  (ao:∀ (k:Nat) (o:CO),os[k]?=some o→∀ x∈Zq o.op,Xq x=true)
  {s s1 s2:Sl×Hp} (hm:Xu oj.op=true) {t:Nat} (ht:oj.dst=some t) (aj:okV (gs s2.1 t)=true)
  (h1:Zr C M os nx j s=some s1) (h2:Zr C M os nx i s1=some s2):∃ t1,Zr C M os nx i s=some t1∧∃ t2,Zr C M os nx j t1=some t2∧QQ t2 s2:=by
 obtain⟨x,hx⟩:∃ x,oj.op=.move x:=by
  cases ho:oj.op<;>rw[ho] at hm<;>first | (cases hm;done) | exact⟨_,rfl⟩
 simp only[QI,Kb] at ai;obtain⟨⟨ak,ad⟩,ab⟩:=ai;have aa:∀ s:Sl×Hp,Zr C M os nx j s=Zu C M nx j false oj s:=fun s=>by simp only[Zr,am,Zc,an]
 rw[aa] at h1;obtain⟨bj,ag⟩:∃ bj,ZD s.1 oj.guard=some bj:=by
  unfold Zu at h1;obtain⟨b,hw,_⟩:=Za h1;exact⟨b,hw⟩
 rw[Jy hx ag] at h1;have h1:=(Option.some.inj h1).symm;subst h1;simp only[Zr,af,Zc] at h2;unfold Zu at h2;obtain⟨b,hw,h2⟩:=Za h2;have al : ZD s.1 oi.guard=some b:=by rw[← hw];exact(Z5 ak).symm
 have ap:oi.dst≠some t:=fun e=>by rw[ht,e] at ad;simp[VS] at ad
 have ae:∀ n,x=.t n→oi.dst≠some n:=fun n e h=>by
  rw[h] at ab;simp only[Qe,KI,KD,KN] at ab;exact ab (Kc.2 (.inl (by rw[hx,e];simp[Zq,Wr])))
 cases b with
 | false=>
  simp only[Ka,Kg] at h2;cases h2;refine⟨(Zh s.1 oi.dst (.tup []),s.2),by simp only[Zr,af,Zc];exact Xb al,?_⟩;refine⟨_,by rw[aa];exact Jy (s:=(Zh s.1 oi.dst (.tup []),s.2)) hx ((Z5 ab).trans ag),?_⟩;have:evO (Zh s.1 oi.dst (.tup [])) x=evO s.1 x:=X9 (o:=oj) ab x (by rw[hx];simp[Zq]);simp only[this];exact⟨fun t=>(YG ad _ _ t).symm,fun id=>rfl⟩
 | true=>
  simp only[Kh] at h2;obtain⟨ce,h3,h4,rfl⟩:=QF h2;have aq : X4 C M nx i (Zz os i) oi.op s.1 s.2=some ce:=by
   rw[← h3];unfold X4;rw[Qx C M s.2 (nx+64*i) (X9 (o:=oi) ak)]
  refine⟨ce.on oi.dst s.1 s.2,by simp only[Zr,af,Zc,Zu,al,Kh,Xd];rw[aq,Zc,Ko h4],?_⟩;have ah:ZD (ce.on oi.dst s.1 s.2).1 oj.guard=some bj:=by
   show ZD (Zh (Qv ce.gone s.1) oi.dst ce.eff.val) oj.guard=_;rw[Z5 ab,← ag];exact Zbd fun q _=>Qg _ _ _
  refine⟨_,by rw[aa];exact Jy hx ah,?_⟩;have e0:gs (ce.on oi.dst (Zh s.1 oj.dst (if bj then evO s.1 x else .tup [])) s.2).1 t=kill ce.gone (if bj then evO s.1 x else .tup []):=by
   show gs (Zh (Qv ce.gone (Zh s.1 oj.dst _)) oi.dst ce.eff.val) t=_;rw[Z2,Kk ap,Qg,Z2,Ko ht]
  rw[e0] at aj;have hk:=WR aj;have ev:(if bj then evO (ce.on oi.dst s.1 s.2).1 x else .tup [])=(if bj then evO s.1 x else .tup []):=by
   cases bj with
   | false=>rfl
   | true=>
    simp only[Kh] at hk ⊢;cases x with
    | t n=>
     show gs (Zh (Qv ce.gone s.1) oi.dst ce.eff.val) n=gs s.1 n;rw[Z2,Kk (ae n rfl),Qg];exact hk
    | _=>rfl
  rw[ev];refine⟨fun q=>?_,fun id=>rfl⟩;show gs (Zh (Zh (Qv ce.gone s.1) oi.dst ce.eff.val) oj.dst _) q=gs (Zh (Qv ce.gone (Zh s.1 oj.dst _)) oi.dst ce.eff.val) q;simp only[Z2,Qg];by_cases hq:oj.dst=some q
  ·have:¬oi.dst=some q:=fun e=>by rw[hq,e] at ad;simp[VS] at ad
   simp only[hq,Kh,this,Kg];exact hk.symm
  ·simp[hq]
theorem Zl0 {C:Orc} {M:Zf} {os:List CO} {nx i j:Nat} {oi oj:CO} (am:os[i]?=some oi) (ag:os[j]?=some oj) (ar:Zz os i=false) (an:QI oj oi=true)
  (ah:∀ (k:Nat) (o:CO),os[k]?=some o→∀ x∈Zq o.op,Xq x=true)
  {s s1 s2:Sl×Hp} (hm:Xu oi.op=true) {t:Nat} (ht:oi.dst=some t) (ai:okV (gs s2.1 t)=true)
  (h1:Zr C M os nx j s=some s1) (h2:Zr C M os nx i s1=some s2):∃ t1,Zr C M os nx i s=some t1∧∃ t2,Zr C M os nx j t1=some t2∧QQ t2 s2:=by
 obtain⟨x,hx⟩:∃ x,oi.op=.move x:=by
  cases ho:oi.op<;>rw[ho] at hm<;>first | (cases hm;done) | exact⟨_,rfl⟩
 simp only[QI,Kb] at an;obtain⟨⟨ad,aj⟩,ak⟩:=an;have aa:∀ s:Sl×Hp,Zr C M os nx i s=Zu C M nx i false oi s:=fun s=>by simp only[Zr,am,Zc,ar]
 rw[aa] at h2;simp only[Zr,ag,Zc] at h1;unfold Zu at h1;obtain⟨b,hw,h1⟩:=Za h1;have af:∀ n,x=.t n→oj.dst≠some n:=fun n e h=>by
  rw[h] at ad;simp only[Qe,KI,KD,KN] at ad;exact ad (Kc.2 (.inl (by rw[hx,e];simp[Zq,Wr])))
 have ao:∀ (bi:Bool) (e:evO s1.1 x=evO s.1 x∨bi=false) (g1:ZD s.1 oi.guard=some bi) (g2:ZD s1.1 oi.guard=some bi),s2=(Zh s1.1 oi.dst (if bi then evO s.1 x else .tup []),s1.2):=by
  intro bi e g1 g2;rw[Jy hx g2] at h2;rw[← Option.some.inj h2];rcases e with e | e
  ·rw[e]
  ·rw[e];rfl
 cases b with
 | false=>
  simp only[Ka,Kg] at h1;cases h1;have ae:ZD (Zh s.1 oj.dst (.tup [])) oi.guard=ZD s.1 oi.guard:=Z5 ad;obtain⟨bi,ab⟩:∃ bi,ZD s.1 oi.guard=some bi:=by
   unfold Zu at h2;obtain⟨b,hw,_⟩:=Za h2;exact⟨b,ae.symm.trans hw⟩
  have e:evO (Zh s.1 oj.dst (.tup [])) x=evO s.1 x:=X9 (o:=oi) ad x (by rw[hx];simp[Zq]);have h5:=ao bi (.inl e) ab (ae.trans ab);subst h5;refine⟨_,by rw[aa];exact Jy hx ab,(Zh (Zh s.1 oi.dst (if bi then evO s.1 x else .tup [])) oj.dst (.tup []),s.2),?_,fun t=>?_,fun id=>rfl⟩
  ·simp only[Zr,ag,Zc];exact Xb (s:=(Zh s.1 oi.dst (if bi then evO s.1 x else .tup []),s.2)) ((Z5 ak).trans hw)
  ·exact(YG aj _ _ t).symm
 | true=>
  simp only[Kh] at h1;obtain⟨ce,h3,h4,rfl⟩:=QF h1;have ae:ZD (ce.on oj.dst s.1 s.2).1 oi.guard=ZD s.1 oi.guard:=by
   show ZD (Zh (Qv ce.gone s.1) oj.dst ce.eff.val) oi.guard=_;rw[Z5 ad];exact Zbd fun q _=>Qg _ _ _
  obtain⟨bi,ab⟩:∃ bi,ZD s.1 oi.guard=some bi:=by
   unfold Zu at h2;obtain⟨b,hw,_⟩:=Za h2;exact⟨b,ae.symm.trans hw⟩
  have ap:=h2;rw[Jy hx (ae.trans ab)] at ap;have h6:=Option.some.inj ap;have hv:okV (if bi then evO (ce.on oj.dst s.1 s.2).1 x else .tup [])=true:=by
   rw[← h6] at ai;simp only[Z2,Ko ht] at ai;exact ai
  have aq:kill ce.gone (if bi then evO s.1 x else .tup [])=(if bi then evO s.1 x else .tup [])∧(evO (ce.on oj.dst s.1 s.2).1 x=evO s.1 x∨bi=false):=by
   cases bi with
   | false=>exact⟨rfl,.inr rfl⟩
   | true=>
    simp only[Kh] at hv ⊢;cases x with
    | t n=>
     have e:evO (ce.on oj.dst s.1 s.2).1 (.t n)=kill ce.gone (gs s.1 n):=by
      show gs (Zh (Qv ce.gone s.1) oj.dst ce.eff.val) n=_;rw[Z2,Kk (af n rfl),Qg]
     rw[e] at hv ⊢;have:=WR hv;exact⟨this,.inl this⟩
    | v c=>
     have hc:=ah i oi am (.v c) (by rw[hx];simp[Zq]);simp only[Xq,Kb,List.isEmpty_iff] at hc;exact⟨Zm6 hv fun id al=>by simp only[evO] at al;rw[hc.1] at al;simp at al,.inl rfl⟩
    | f n=>simp only[evO,okV,okC] at hv;cases hv
  have h5:=ao bi aq.2 ab (ae.trans ab);subst h5;refine⟨_,by rw[aa];exact Jy hx ab,ce.on oj.dst (Zh s.1 oi.dst (if bi then evO s.1 x else .tup [])) s.2,?_,fun q=>?_,fun id=>rfl⟩
  ·simp only[Zr,ag,Zc,Zu];have au:ZD (Zh s.1 oi.dst (if bi then evO s.1 x else .tup [])) oj.guard=some true:=(Z5 ak).trans hw;simp only[au,Zc,Kh,Xd];have:X4 C M nx j (Zz os j) oj.op (Zh s.1 oi.dst (if bi then evO s.1 x else .tup [])) s.2=some ce:=by
    rw[← h3];unfold X4;rw[Qx C M s.2 (nx+64*j) (X9 (o:=oj) ak)]
   rw[this,Zc,Ko h4]
  ·show gs (Zh (Qv ce.gone (Zh s.1 oi.dst _)) oj.dst ce.eff.val) q=gs (Zh (Zh (Qv ce.gone s.1) oj.dst ce.eff.val) oi.dst _) q;simp only[Z2,Qg];by_cases hq:oi.dst=some q
   ·have:¬oj.dst=some q:=fun e=>by rw[hq,e] at aj;simp[VS] at aj
    simp only[hq,Kh,this,Kg];exact aq.1
   ·simp[hq]
theorem Zm4 {C:Orc} {M:Zf} (hM:∀ f,M f 99=false) (hC:Z4 P C) {ops:Array Oper} {os:List CO} (a9:Z3 (ZeC P nt ops.toList) ops.toList=some os) {nx i:Nat} {ks:List Nat} {oi:CO} (ab:os[i]?=some oi)
  (ad:∀ (k:Nat) (o:CO),os[k]?=some o→∀ x∈Zq o.op,Xq x=true) :
  ∀ (js:List Nat) {s r:Sl×Hp} {U:Nat→Prop},ZbE nt s U→Qz U (nx+64*i)→(∀ j∈js,Qz U (nx+64*j))→(js++i :: ks).Pairwise (· < ·) →
   (∀ j∈js,∃ oj,os[j]?=some oj∧QI oj oi=true∧((Zz os j=false∧(Zz os i=true→Zmm oi.op=true∨(Zgn oi.op=true∧(Yg oj.op=true∨(Vq oj.op=true∧Ws os j=true∧Ws os i=true∧ZcH r.1 oj.op oi.op=true)))∨(Xu oj.op=true∧JP oi.op=true)∨(Xu oj.op=true∧ZeT os j=true∧okD r.1 oj.dst=true) ∨
    (Xu oj.op=false∧V4 oi.op=true∧Zgp oj.op=true∧Ws os j=true∧Ws os i=true∧ZeT os j=true∧YX r.1 oj.dst oj.op oi.op=true))) ∨
    (Zz os j=true∧Zz os i=false∧Xu oi.op=true∧ZeT os i=true∧okD r.1 oi.dst=true) ∨
    (Zz os j=true∧Zz os i=false∧Xu oi.op=false∧V4 oj.op=true∧Zc2 oi.op=true∧Ws os j=true∧Ws os i=true∧ZeT os i=true∧YX r.1 oi.dst oi.op oj.op=true))) →
   (∀ j∈js++i :: ks,j<os.length)→Jx C M os nx (js++i :: ks) s=some r →
   ∃ s',Zr C M os nx i s=some s'∧∃ r',Jx C M os nx (js++ks) s'=some r'∧QQ r' r
 | [],s,r,U,_,_,_,_,_,_,h=>by
  simp only[LB,Jx] at h ⊢;obtain⟨s',h1,h⟩:=Za h;exact⟨s',h1,r,h,QQ.refl r⟩
 | j :: js,s,r,U,hs,hfi,hfj,hsort,hj,hlt,h=>by
  have a1:=h;simp only[KL,Jx] at h;obtain⟨s1,h1,h⟩:=Za h;have a8:=hsort;simp only[KL,Lr] at hsort;have bk:j<i:=hsort.1 i (by simp);have a0:i≠j:=by omega
  have a':=ZlU hC a9 hs (hfj j (by simp)) h1;have ba:∀ k∈js,k≠j:=fun k hk e=>by
   have:=hsort.1 k (by simp[hk]);omega
  obtain⟨s2,h2,r2,h3,h4⟩:=Zm4 hM hC a9 ab ad js a' (Zh9 a0 hfi) (fun k hk=>Zh9 (ba k hk) (hfj k (by simp[hk]))) hsort.2 (fun k hk=>hj k (by simp[hk])) (fun k hk=>hlt k (by simp only[KL,Kf];exact .inr hk)) h;obtain⟨oj,ae,au,a2⟩:=hj j (by simp);have aa:∀ {k q n:Nat} {o:CO},Ws os k=true→os[k]?=some o→k≤q→q<os.length→n∈Xn o→Qe (Y5 os q) [n]=true:=by
   intro k q n o am ho bl hq hn;have:=Ku.1 am q (Ld.2 hq);simp only[ZjG,ho,Lf,Kr] at this;rcases this with h | h
   ·omega
   ·cases hd:Y5 os q with
    | none=>rfl
    | some d=>
     rw[hd] at h;simp only[Qe,KI,KD,KN] at h ⊢;intro e;simp at e;exact h (e ▸ hn)
  have af:∀ {k:Nat} {o:CO},Ws os k=true→os[k]?=some o→Qe o.dst (Xn o)=true:=by
   intro k o am ho;have hk:k<os.length:=(Kd.1 ho).1;have:=Ku.1 am k (Ld.2 hk);simp only[ZjG,Y5,ho,Lf,Kr] at this;rcases this with h | h
   ·omega
   ·exact h
  have ag:∀ {k q t:Nat} {o:CO},ZeT os k=true→os[k]?=some o→o.dst=some t→q≠k→q<os.length→Qe (Y5 os q) [t]=true:=by
   intro k q t o hl ho ht bb hq;simp only[ZeT,Kb] at hl;have:=Ku.1 hl.2 q (Ld.2 hq);simp only[Lf,beq_iff_eq,Y5,ho,ht] at this;rcases this with h | h
   ·exact absurd h bb
   ·simp only[Y5];cases a3:os[q]? with
    | none=>rfl
    | some oq=>
     rw[a3] at h;simp only at h ⊢;cases hd:oq.dst with
     | none=>rfl
     | some d=>
      rw[hd] at h;simp only[VS,bne_iff_ne,ne_eq] at h;simp only[Qe,KI,KD,KN,KW];exact h
  have ah:∀ {k:Nat} {o:CO},ZeT os k=true→os[k]?=some o→∃ t,o.dst=some t:=by
   intro k o hl ho;simp only[ZeT,Y5,ho,Kb] at hl;cases hd:o.dst with
   | none=>rw[hd] at hl;cases hl.1
   | some t=>exact⟨t,rfl⟩
  have av:∀ n,(∀ q∈js++ks,Qe (Y5 os q) [n]=true)→okV (gs r.1 n)=true→gs s2.1 n=gs r.1 n:=by
   intro n hn ho;rw[← h4.1 n] at ho ⊢;exact Zo7 h3 hn ho
  have ak:∀ q∈js++ks,q≠i∧j<q∧q<os.length:=by
   intro q hq;refine⟨?_,?_,hlt q ?_⟩
   ·rcases Kc.1 hq with hq | hq
    ·have:=(Lm.1 hsort.2).2.2 q hq i (by simp);omega
    ·have:=(Lr.1 (Lm.1 hsort.2).2.1).1 q hq;omega
   ·rcases Kc.1 hq with hq | hq
    ·exact hsort.1 q (by simp[hq])
    ·exact hsort.1 q (by simp[hq])
   ·rcases Kc.1 hq with hq | hq<;>simp[hq]
  have an:Ws os j=true→∀ n∈Xn oj,∀ q∈js++ks,Qe (Y5 os q) [n]=true:=fun am n hn q hq=>by
   obtain⟨_,h6,h7⟩:=ak q hq;exact aa am ae (by omega) h7 hn
  have ao:Ws os i=true→∀ n∈Xn oi,∀ q∈js++ks,Qe (Y5 os q) [n]=true:=fun am n hn q hq=>by
   obtain⟨_,h6,h7⟩:=ak q hq;rcases Kc.1 hq with hq | hq
   ·obtain⟨oq,a3,ap,_⟩:=hj q (by simp[hq]);simp only[QI,Kb] at ap;have h5:=ap.1.1;simp only[Y5,a3];cases hd:oq.dst with
    | none=>rfl
    | some d=>
     rw[hd] at h5;simp only[Qe,KI,KD,KN] at h5 ⊢;intro e;simp at e;exact h5 (e ▸ hn)
   ·have:=(Lr.1 (Lm.1 hsort.2).2.1).1 q hq;exact aa am ab (by omega) h7 hn
  have ai:∀ {o:CO} {n:Nat},n∈(Zq o.op).flatMap Wr→n∈Xn o:=fun h=>Kc.2 (.inl h);have aj:∀ {o:CO} {n:Nat},n∈(ZdN o.op).flatMap Wr→n∈Xn o:=fun {o n} h=>by
   refine Kc.2 (.inl ?_);cases ho:o.op<;>rw[ho] at h<;>simp only[ZdN,List.flatMap_nil,LK] at h
   simp only[Zq,Kt,Kc];exact .inr h
  have a4:∃ t1,Zr C M os nx i s=some t1∧∃ t2,Zr C M os nx j t1=some t2∧QQ t2 s2:=by
   rcases a2 with ⟨aw,ay⟩ | ⟨aw,az,k1,k5,k6⟩ | ⟨aw,az,k0,k1,k2,k3,k4,k5,k6⟩
   case inr.inl=>
    obtain⟨t,ht⟩:=ah k5 ab;refine Zl0 ab ae az au ad k1 ht ?_ h1 h2;rw[ht] at k6;simp only[okD] at k6;rw[av t (fun q hq=>?_) k6]
    ·exact k6
    ·obtain⟨h5,_,h7⟩:=ak q hq;exact ag k5 ab ht h5 h7
   case inr.inr=>
    obtain⟨t,ht⟩:=ah k5 ab;refine ZkA hM ab ae az a0 au (af k4 ab) (af k3 ae) ad hs hfi (hfj j (by simp)) k1 k2 ?_ ht h1 h2;refine(Zkz k0 k1 k6).move (fun n hn=>av n (ao k4 n (ai hn))) (fun n hn=>av n fun q hq=>?_) (fun n hn=>av n (an k3 n (aj hn)));obtain⟨h5,_,h7⟩:=ak q hq;exact ag k5 ab hn h5 h7
   cases az:Zz os i with
   | false=>exact ZnO ab ae az aw a0 au ad hs hfi (hfj j (by simp)) h1 h2
   | true=>
    rcases ay az with hc | ⟨am,hl⟩ | ⟨bc,bd⟩ | ⟨k1,k5,k6⟩ | ⟨k0,k1,k2,k3,k4,k5,k6⟩
    case inr.inr.inr.inl=>
     obtain⟨t,ht⟩:=ah k5 ae;refine ZlZ ab ae aw au ad k1 ht ?_ h1 h2;rw[ht] at k6;simp only[okD] at k6;rw[av t (fun q hq=>?_) k6]
     ·exact k6
     ·obtain⟨_,h6,h7⟩:=ak q hq;exact ag k5 ae ht (by omega) h7
    case inr.inr.inr.inr=>
     obtain⟨t,ht⟩:=ah k5 ae;refine ZlY hM ab ae aw a0 au (af k3 ae) (af k4 ab) ad hs hfi (hfj j (by simp)) k1 k2 ?_ ht h1 h2;refine(Zkz k0 k1 k6).move (fun n hn=>av n (an k3 n (ai hn))) (fun n hn=>av n fun q hq=>?_) (fun n hn=>av n (ao k4 n (aj hn)));obtain⟨_,h6,h7⟩:=ak q hq;exact ag k5 ae hn (by omega) h7
    ·exact ZnS ab ae hc aw a0 au ad hs hfi (hfj j (by simp)) h1 h2
    ·refine ZlX ab ae az aw a0 au ad hs hfi (hfj j (by simp)) ⟨am,?_⟩ h1 h2;rcases hl with hl | ⟨be,bf,bg,al⟩
     ·exact .inl hl
     ·refine .inr ⟨be,?_⟩;have a5:∀ x∈Zq oi.op,okW (evO r.1 x)=true→evO s.1 x=evO r.1 x:=by
       intro x hx ax;cases x with
       | v a=>rfl
       | f n=>rfl
       | t n=>
        simp only[evO] at ax ⊢;have hn:n∈Xn oi:=by
         rw[Xn];exact Kc.2 (.inl (Kl.2 ⟨.t n,hx,KW.2 rfl⟩))
        refine Zje a1 (fun q hq=>?_) ax;rcases Kc.1 hq with hq | hq
        ·obtain⟨oq,a3,ap,_⟩:=hj q hq;simp only[QI,Kb] at ap;have h5:=ap.1.1;simp only[Y5,a3];cases hd:oq.dst with
         | none=>rfl
         | some d=>
          rw[hd] at h5;simp only[Qe,KI,KD,KN] at h5 ⊢;intro e;simp at e;exact h5 (e ▸ hn)
        ·refine aa bg ab ?_ (hlt q (Kc.2 (.inr hq))) hn;rcases Kf.1 hq with rfl | hq
         ·omega
         ·have:=Lm.1 hsort.2;have:=(Lr.1 this.2.1).1 q hq;omega
      have a7:∀ id,Qj r.1 id (Zq oj.op)=true→Qj s.1 id (Zq oj.op)=true:=by
       intro id bh;have bi:∀ xs:List Opd,(∀ z∈xs,z∈Zq oj.op)→Qj r.1 id xs=true→Qj s.1 id xs=true:=by
        intro xs
        induction xs with
        | nil=>intro _ _;rfl
        | cons z zs ihz=>
         intro a6 hz;simp only[Qj,Kb] at hz ⊢;refine⟨?_,ihz (fun z' bj=>a6 z' (by simp[bj])) hz.2⟩;cases z with
         | v a=>exact hz.1
         | f n=>exact hz.1
         | t n=>
          simp only[evO] at hz ⊢;have hn:n∈Xn oj:=by
           rw[Xn];exact Kc.2 (.inl (Kl.2 ⟨.t n,a6 (.t n) (KV ..),KW.2 rfl⟩))
          rw[Zo7 a1 (fun q hq=>?_) (Zqx hz.1)]
          ·exact hz.1
          ·refine aa bf ae ?_ (hlt q hq) hn;rcases Kc.1 hq with hq | hq
           ·rcases Kf.1 hq with rfl | hq
            ·omega
            ·have:=hsort.1 q (by simp[hq]);omega
           ·have:=hsort.1 q (by simp only[Kc];exact .inr hq);omega
       exact bi _ (fun _ h=>h) bh
      cases ho:oi.op<;>rw[ho] at am al<;>first | (cases am;done) | skip
      case store slc sz x y=>
       simp only[ZcH,Kb] at al ⊢;obtain⟨al,ar⟩:=al;have ax:okV (evO r.1 x)=true:=by
        cases ht:XJ (evO r.1 x) with
        | none=>rw[ht] at al;simp[JR] at al
        | some id=>cases hv:evO r.1 x<;>rw[hv] at ht<;>simp only[XJ] at ht<;>first | (cases ht;done) | rfl
       rw[a5 x (by rw[ho];simp[Zq]) (Zfb ax)];constructor
       ·cases ht:XJ (evO r.1 x) with
        | none=>rw[ht] at al;simp[JR] at al
        | some id=>rw[ht] at al;exact a7 id al
       ·by_cases hp:∃ b1 b2 b3 b4,evO r.1 x=.prow b1 b2 b3 b4
        ·obtain⟨b1,b2,b3,b4,hp⟩:=hp;rw[hp] at ar ⊢;rcases Zem ar with ⟨d,hv⟩ | hv
         ·rw[a5 y (by rw[ho];simp[Zq]) (by rw[hv];rfl),hv];rfl
         ·rw[a5 y (by rw[ho];simp[Zq]) (Zfb hv.1)];exact ZnR ⟨hv.1,ZfJ a7 hv.2⟩
        ·exact Zjf fun b1 b2 b3 b4 e=>hp ⟨b1,b2,b3,b4,e⟩
      case append sz by_ str flat x y=>
       simp only[ZcH,Kb,Lf] at al ⊢;obtain⟨ar,aq⟩:=al;constructor
       ·have ax:okW (evO r.1 x)=true:=by
         cases hv:evO r.1 x<;>rw[hv] at ar<;>first | rfl | (cases ar;done) | skip
         case tup vs=>cases vs<;>first | rfl | cases ar
        rw[a5 x (by rw[ho];simp[Zq]) ax];cases hv:evO r.1 x<;>rw[hv] at ar<;>first | (cases ar;done) | exact a7 _ ar | skip
        ·rfl
        case tup vs=>cases vs<;>first | rfl | cases ar
       ·rcases aq with aq | aq
        ·exact .inl aq
        ·right
         have ax:okW (evO r.1 y)=true:=by
          unfold seenSrc at aq;split at aq
          ·rename_i k hk;rw[hk];rfl
          ·exact Zfb aq
         rw[a5 y (by rw[ho];simp[Zq]) ax];unfold seenSrc at aq ⊢;split at aq
         ·exact a7 _ aq
         ·exact aq
    ·exact ZnU ab ae aw au bc bd h1 h2
  obtain⟨t1,g1,t2,g2,g3⟩:=a4;obtain⟨r3,g4,g5⟩:=ZfG g3.symm h3;refine⟨t1,g1,r3,?_,g5.symm.trans h4⟩;simp only[KL,Jx,g2,Zc];exact g4
def rem (n:Nat) (listed:Array Bool):List Nat:=(List.range n).filter fun i=>!listed.getD i true
theorem Zbb {n:Nat} {aa:Array Bool} {i:Nat}:i∈rem n aa↔i<n∧aa.getD i true=false:=by
 simp[rem]
theorem ZfP (n:Nat) (aa:Array Bool):(rem n aa).Pairwise (· < ·):=List.Pairwise.filter _ List.pairwise_lt_range
theorem ZqA {n:Nat} {aa:Array Bool} (ad:aa.size=n) (i:Nat):rem n (aa.setIfInBounds i true)=(rem n aa).filter fun j=>j != i:=by
 simp only[rem,List.filter_filter];refine List.filter_congr fun j hj=>?_;have ae:j<n:=Ld.1 hj;by_cases ab:i=j
 ·subst ab;simp[ad,ae]
 ·simp[Array.getElem?_setIfInBounds_ne ab,Ne.symm ab]
def Zic (nx:Nat) (listed:Array Bool) (id:Nat):Prop:=id<nx∨∃ k,listed.getD k false=true∧nx+64*k≤id∧id<nx+64*k+64
theorem YS {l:Array Bool} {k:Nat} (h:l.getD k false=true):k<l.size∧l.getD k true=true:=by
 rcases KK k l.size with h1 | h1
 ·refine⟨h1,?_⟩;simp[h1] at h ⊢;exact h
 ·simp[Array.getElem?_eq_none h1] at h
theorem ZfQ {nx i:Nat} {aa:Array Bool} (h:aa.getD i true=false):Qz (Zic nx aa) (nx+64*i):=by
 intro id h1 h2 hu;rcases hu with hu | ⟨k,hk,h3,h4⟩
 ·omega
 ·have ab:k≠i:=fun e=>by subst e;rw[(YS hk).2] at h;cases h
  rcases Lq ab with h5 | h5<;>omega
theorem ZfR {nx i:Nat} {aa:Array Bool} (hi:i<aa.size):∀ id,VC (Zic nx aa) (nx+64*i) id→Zic nx (aa.setIfInBounds i true) id:=by
 rintro id ((h | ⟨k,hk,h1⟩) | h)
 ·exact .inl h
 ·exact .inr ⟨k,getD_set_true hk,h1⟩
 ·exact .inr ⟨i,by simp[hi],h.1,h.2⟩
end
end Go.Abs
