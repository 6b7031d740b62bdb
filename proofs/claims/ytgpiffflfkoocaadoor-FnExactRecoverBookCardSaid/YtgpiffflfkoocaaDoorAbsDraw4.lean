/- Own text. -/
import Derived.Test.YtgpiffflfkoocaaDoorAbsDrawD
set_option linter.unusedVariables false
set_option linter.unusedSimpArgs false
namespace Go.Abs
open Go
section
variable {P:Program} {nt:Nat}
theorem Zh5 {α β:Type} {f:α→Option β}:∀ {l:List α} {r:List β},Qe f l=some r→∀ (i:Nat) (x:α),l[i]?=some x→∃ y,r[i]?=some y∧f x=some y
 | [],r,h,i,x,hx=>by simp at hx
 | a :: l,r,h,i,x,hx=>by
  simp only[Qe] at h;obtain⟨y,h1,h⟩:=Za h;obtain⟨ys,h2,h⟩:=Za h;cases h;cases i with
  | zero=>simp at hx;subst hx;exact⟨y,by simp,h1⟩
  | succ i=>simp at hx;obtain⟨z,h3,h4⟩:=Zh5 h2 i x hx;exact⟨z,by simpa using h3,h4⟩
theorem JB {α β:Type} {f:α→Option β}:∀ {l:List α} {r:List β},Qe f l=some r→r.length=l.length
 | [],r,h=>by simp only[Qe] at h;cases h;rfl
 | a :: l,r,h=>by
  simp only[Qe] at h;obtain⟨y,h1,h⟩:=Za h;obtain⟨ys,h2,h⟩:=Za h;cases h;simp[JB h2]
theorem ZnZ {C:Orc} {M:Zh} (hC:Qf P C) {ops:Array Oper} {os:List CO} (ad:Qe (Zgs P nt ops.toList) ops.toList=some os) {nx i:Nat} {s s' : Sl×Hp} {U:Nat→Prop} (hs:Zc0 nt s U) (hf:QQ U (nx+64*i))
  (h:Zs C M os nx i s=some s'):Zc0 nt s' (Wv U (nx+64*i)):=by
 obtain⟨F,A,I,Γ,a,w,aa⟩:=hs;unfold Zs at h;obtain⟨co,ae,h⟩:=Za h;have ag:i<ops.toList.length:=by rw[← JB ad];exact(Kb.1 ae).1
 obtain⟨am,h1,h2⟩:=Zh5 ad i ops.toList[i] (Kj ag);rw[ae] at h1;cases h1;obtain⟨hg,ah,ab,af⟩:=ZdP h2;unfold Zy at h;obtain⟨b,hw,h⟩:=Za h;cases b with
 | true=>
  simp only[Kl] at h;obtain⟨ce,ai,aj,rfl⟩:=Q0 h;have ak:=ZnT hC aa ah hf ab aj (Zaw ai) (fun a' w'=>∃ F A I Γ a w,Sim nt F A I Γ (Wv U (nx+64*i)) (ce.on co.dst s.1 s.2).1 (ce.on co.dst s.1 s.2).2 a w) (fun _ _ _=>False) fun u w' hp=>by
   obtain⟨I1,Γ1,b1,b2,b3,b4,b5⟩:=hp;rw[← af] at b5;exact⟨F,A,I1,Γ1,_,_,b5⟩
  obtain⟨_,_,al⟩:=Oper.wp_ex ak;exact al
 | false=>
  simp only[Ka,Kn] at h;cases h;obtain⟨I1,Γ1,b1,b2,b3,b4,b5⟩:=aa.pure (U':=Wv U (nx+64*i)) (v:=.tup []) (u:=undef) (dst:=co.dst) (fun id hu=>.inl hu) ZfN (by rw[af];exact ab);exact⟨F,A,I1,Γ1,_,_,b5⟩
theorem Zj7 {U:Nat→Prop} {nx i j:Nat} (aa:i≠j) (h:QQ U (nx+64*i)):QQ (Wv U (nx+64*j)) (nx+64*i):=by
 intro id h1 h2 hu;rcases hu with hu | hu
 ·exact h id h1 h2 hu
 ·rcases LB aa with h3 | h3<;>omega
theorem ZsP {id:Nat} {v:AV} (h:Jl id v=true):okV v=true:=by
 cases v with
 | tup vs=>cases vs with
  | nil=>rfl
  | cons x r=>cases h
 | _=>first | rfl | cases h
def okW (v:AV):Bool:=okV v
theorem Zg5 {v:AV} (h:okV v=true):okW v=true:=h
theorem ZrK {g:List Nat} {v:AV} (h:okW (kill g v)=true):kill g v=v:=U3 h
theorem ZsQ {C:Orc} {M:Zh} {os:List CO} {nx q n:Nat} {s r:Sl×Hp} (h:Zs C M os nx q s=some r) (hd:Qr (V2 os q) [n]=true) (hk:okW (gs r.1 n)=true):gs s.1 n=gs r.1 n:=by
 unfold Zs at h;obtain⟨o,ho,h⟩:=Za h;have aa:o.dst≠some n:=by
  intro e;simp[V2,ho,e,Qr] at hd
 unfold Zy at h;obtain⟨b,_,h⟩:=Za h;cases b with
 | true=>
  simp only[Kl] at h;obtain⟨ce,_,_,rfl⟩:=Q0 h;have e1:gs (ce.on o.dst s.1 s.2).1 n=kill ce.gone (gs s.1 n):=by
   show gs (Zi (QN ce.gone s.1) o.dst ce.eff.val) n=_;rw[Qb,Kf aa,Qt]
  rw[e1] at hk ⊢;exact(ZrK hk).symm
 | false=>
  simp only[Ka,Kn] at h;cases h;show gs s.1 n=gs (Zi s.1 o.dst (.tup [])) n;rw[Qb,Kf aa]
theorem Zll {C:Orc} {M:Zh} {os:List CO} {nx n:Nat}:∀ {l:List Nat} {s r:Sl×Hp},ZaN C M os nx l s=some r→(∀ q∈l,Qr (V2 os q) [n]=true)→okW (gs r.1 n)=true→gs s.1 n=gs r.1 n
 | [],s,r,h,_,_=>by simp only[ZaN] at h;cases h;rfl
 | i :: l,s,r,h,hd,hk=>by
  simp only[ZaN] at h;obtain⟨s1,h1,h⟩:=Za h;have h2:=Zll h (fun q hq=>hd q (by simp[hq])) hk;rw[← h2] at hk ⊢;exact ZsQ h1 (hd i (by simp)) hk
theorem ZrL {C:Orc} {M:Zh} {os:List CO} {nx n:Nat} {l:List Nat} {s r:Sl×Hp} (h:ZaN C M os nx l s=some r) (hd:∀ q∈l,Qr (V2 os q) [n]=true) (hk:okV (gs r.1 n)=true):gs s.1 n=gs r.1 n:=Zll h hd (Zg5 hk)
theorem Zn0 {C:Orc} {M:Zh} {sl:Sl} {hp:Hp} {base:Nat} {c:COp} {ce:Zb} (hc:Zor c=true) (h:vop C M sl hp base c=some ce):Jn (vop C M sl hp base c)=some ce:=by
 rw[h];have aa:ce.gone=[]∧ce.eff.sets=[]∧ce.eff.dels=[]∧ce.eff.frz=[]:=by
  have o1:∀ {v:AV},Qw v=some ce→ce.gone=[]∧ce.eff.sets=[]∧ce.eff.dels=[]∧ce.eff.frz=[]:=fun h=>by cases h;exact⟨rfl,rfl,rfl,rfl⟩
  have o2:∀ {v:Option AV},YA v=some ce→ce.gone=[]∧ce.eff.sets=[]∧ce.eff.dels=[]∧ce.eff.frz=[]:=fun h=>by obtain⟨v,_,h⟩:=Za h;exact o1 h
  cases c<;>simp only[Zor,Ka] at hc<;>simp only[vop] at h
  case stuck=>cases h
  case move x=>exact o1 h
  case assign s x=>
   unfold ZaW at h;split at h
   ·obtain⟨s,_,h⟩:=Za h;cases h;exact⟨rfl,rfl,rfl,rfl⟩
   ·exact o1 h
  case pick c a b=>
   unfold ZbZ at h;split at h
   ·split at h<;>exact o1 h
   ·cases h
  case alloc slc cs=>
   unfold Zb0 Zis at h;split at h
   ·split at h<;>first | (cases h;done) | (cases h;exact⟨rfl,rfl,rfl,rfl⟩)
   ·split at h<;>(cases h;exact⟨rfl,rfl,rfl,rfl⟩)
  case box x=>
   unfold Zqw at h;split at h
   ·cases h;exact⟨rfl,rfl,rfl,rfl⟩
   ·cases h
  case build zs ps=>obtain⟨cs,_,h⟩:=Za h;exact o1 h
  case load g s a=>exact o2 h
  case nilCheck x=>unfold WI at h;split at h<;>first | exact o1 h | cases h
  case bin op eq x y=>
   unfold Ziu at h;split at h
   ·split at h
    ·exact o2 h
    ·cases h
   ·exact o2 h
  case un op x=>exact o2 h
  case eqA neg n x y=>
   unfold ZlD at h;split at h
   ·obtain⟨r,_,h⟩:=Za h;exact o1 h
   ·cases h
  case convI k x=>unfold Go.Abs.convI at h;split at h<;>first | exact o1 h | cases h
  case convS x=>unfold Go.Abs.convS at h;split at h<;>first | exact o1 h | cases h
  case fn f cs=>exact o2 h
  case make s b z l c=>
   obtain⟨l,_,h⟩:=Za h;obtain⟨c,_,h⟩:=Za h;unfold Zko at h;split at h
   ·cases h;exact⟨rfl,rfl,rfl,rfl⟩
   ·cases h
  case slice s x lo hi=>exact o2 h
  case sliceS x lo hi=>exact o2 h
  case slice0 x hi mx=>exact o2 h
  case slice3 s x lo hi mx=>exact o2 h
  case shift off x=>unfold Y3 at h;split at h<;>first | exact o1 h | cases h
  case part g s off x=>exact o2 h
  case iaS s x i=>
   obtain⟨n,_,h⟩:=Za h;unfold Zc8 at h;split at h
   ·exact o2 h
   ·cases h
  case iaA len s x i=>
   obtain⟨n,_,h⟩:=Za h;unfold Ziw at h;split at h
   ·unfold Y3 at h;split at h<;>first | exact o1 h | cases h
   ·cases h
  case ixS x i=>
   obtain⟨n,_,h⟩:=Za h;unfold Zoe at h;split at h
   ·unfold Zm5 at h;split at h
    ·obtain⟨b,_,h⟩:=Za h;exact o1 h
    ·cases h
   ·cases h
  case ixA g s len x i=>
   obtain⟨n,_,h⟩:=Za h;unfold Zqy at h;split at h
   ·exact o2 h
   ·cases h
  case nth i x=>unfold Zm6 at h;split at h<;>first | exact o2 h | cases h
  case len x=>obtain⟨n,_,h⟩:=Za h;exact o1 h
  case lenS x=>obtain⟨n,_,h⟩:=Za h;exact o1 h
  case min x y=>unfold Zgp at h;split at h<;>first | (split at h<;>first | exact o1 h | cases h) | cases h
  case max x y=>unfold Zgq at h;split at h<;>first | (split at h<;>first | exact o1 h | cases h) | cases h
 simp only[Jn,Zc,aa.1,aa.2.1,aa.2.2.1,aa.2.2.2,Za8]
theorem Zp7 {C:Orc} {M:Zh} {nx i:Nat} {o:CO} (hc:Zor o.op=true) (s:Sl×Hp):Zy C M nx i true o s=Zy C M nx i false o s:=by
 unfold Zy;have:YM C M nx i true o.op s.1 s.2=YM C M nx i false o.op s.1 s.2:=by
  unfold YM;simp only[Kl,Ka,Kn];cases h:vop C M s.1 s.2 (nx+64*i) o.op with
  | none=>rfl
  | some ce=>rw[← h,Zn0 hc h,h]
 rw[this]
theorem vop_read {C:Orc} {M:Zh} {sl:Sl} {hp hp' : Hp} {base:Nat} {c:COp} (hc:Wq c=true) (h:∀ x∈Zr c,∀ k∈Zl (evO sl x),lkp hp k=lkp hp' k):vop C M sl hp base c=vop C M sl hp' base c:=by
 have len:∀ v:AV,(∀ k∈Zl v,lkp hp k=lkp hp' k)→JQ hp v=JQ hp' v:=fun v hv=>by
  cases v<;>simp only[JQ]
  case d x=>cases x<;>rfl
  case own id=>rw[hv id (by simp[Zl,Zo,Zg])]
 cases c<;>simp only[Wq,Ka] at hc<;>simp only[Zr] at h<;>simp only[vop]
 case load g s a=>
  have:=h a (by simp);cases hv:evO sl a<;>rw[hv] at this<;>simp only[VA]
  case ptr id off=>rw[this id (by simp[Zl,Zo,Zg])]
  case prow id sz i off=>rw[this id (by simp[Zl,Zo,Zg])]
 case slice s x lo hi=>
  have:=h x (by simp);cases hv:evO sl x<;>rw[hv] at this<;>simp only[Yz]
  case d x=>cases x<;>rfl
  case own id=>rw[this id (by simp[Zl,Zo,Zg])]
  case ownv id off n=>rw[this id (by simp[Zl,Zo,Zg])]
 case slice0 x hi mx=>
  unfold slice0;rw[len _ (h x (by simp))]
 case iaS s x i=>
  congr 1
  funext n
  simp only[Zc8];have:=h x (by simp);cases hv:evO sl x<;>rw[hv] at this<;>simp only[Qh]
  case d x=>cases x<;>rfl
  case own id=>rw[this id (by simp[Zl,Zo,Zg])]
  case ownv id off n=>rw[this id (by simp[Zl,Zo,Zg])]
 case len x=>rw[len _ (h x (by simp))]
theorem Zj8 {A B:Hp} (hd:∀ k x y,(k,x)∈A→(k,y)∈B→False) (hp:Hp) (id:Nat):lkp (Zd (Zd hp A) B) id=lkp (Zd (Zd hp B) A) id:=by
 have aa:∀ (l:Hp) (hp hp' : Hp),lkp hp id=lkp hp' id→lkp (Zd hp l) id=lkp (Zd hp' l) id:=by
  intro l
  induction l with
  | nil=>intro hp hp' h;exact h
  | cons q r ih=>
   intro hp hp' h;obtain⟨k,x⟩:=q;simp only[Zd];exact ih _ _ (by rw[Qa,Qa,h])
 by_cases h1:∃ o,(id,o)∈A
 ·have h2:∀ o,(id,o)∉B:=fun o ho=>by
   obtain⟨o',ab⟩:=h1;exact hd id o' o ab ho
  rw[Zq B _ id h2];exact aa A _ _ (Zq B hp id h2).symm
 ·have h2:∀ o,(id,o)∉A:=fun o ho=>h1 ⟨o,ho⟩;rw[Zq A _ id h2];exact aa B _ _ (Zq A hp id h2)
theorem ZmH {hp:Hp} {v:AV} {q:D×Bool×List Nat} (h:Um hp v=some q):∀ i∈q.2.2,i∈Zg v:=by
 intro i hi;cases v<;>simp only[Um] at h<;>first | (cases h;simp at hi;done) | (cases h;done) | skip
 obtain⟨p,_,h⟩:=Za h;cases h;simpa [Zg] using hi
theorem Zf9 {hp:Hp}:∀ {vs:List AV} {q:List D×Bool×List Nat},YE hp vs=some q→∀ i∈q.2.2,i∈vs.flatMap Zg
 | [],q,h,i,hi=>by simp only[YE] at h;cases h;simp at hi
 | v :: vs,q,h,i,hi=>by
  simp only[YE] at h;obtain⟨q1,h1,h⟩:=Za h;obtain⟨q2,h2,h⟩:=Za h;split at h
  ·cases h;rcases Kd.1 hi with hi | hi
   ·exact Kq.2 ⟨v,by simp,ZmH h1 i hi⟩
   ·obtain⟨c,hc,aa⟩:=Kq.1 (Zf9 h2 i hi);exact Kq.2 ⟨c,by simp[hc],aa⟩
  ·cases h
theorem ZmI {hp:Hp} {n:Nat} {v:AV} {q:D×List Nat} (h:ZbU hp n v=some q):∀ i∈q.2,i∈Zg v:=by
 unfold ZbU at h;split at h
 ·split at h
  ·cases h;simp
  ·cases h
 ·cases h;simp
 ·unfold Zcz at h;split at h
  ·split at h
   ·cases h;simp[Zg]
   ·cases h
  ·split at h
   ·cases h;simp[Zg]
   ·cases h
  ·cases h
 ·cases h
theorem Zga {hp:Hp} {n:Nat}:∀ {vs:List AV} {q:List D×List Nat},Y1 hp n vs=some q→∀ i∈q.2,i∈vs.flatMap Zg
 | [],q,h,i,hi=>by simp only[Y1] at h;cases h;simp at hi
 | v :: vs,q,h,i,hi=>by
  simp only[Y1] at h;obtain⟨q1,h1,h⟩:=Za h;obtain⟨q2,h2,h⟩:=Za h;split at h
  ·cases h;rcases Kd.1 hi with hi | hi
   ·exact Kq.2 ⟨v,by simp,ZmI h1 i hi⟩
   ·obtain⟨c,hc,aa⟩:=Kq.1 (Zga h2 i hi);exact Kq.2 ⟨c,by simp[hc],aa⟩
  ·cases h
theorem Zp8 {hp:Hp} {slc:List (Option Nat)} {s base:Nat} {vs:List AV} {x:AV} {e:Eff} (h:Uh hp slc s base vs x=some e):∃ id o,Ys x=some id∧e.val=.junk∧e.sets=[(id,o)]∧(∀ k∈e.dels,k∈vs.flatMap Zg∧∃ a b c d,x=.prow a b c d)∧∀ i∈e.frz,i∈vs.flatMap Zg:=by
 cases x<;>simp only[Uh] at h<;>first | cases h | skip
 case ptr id off=>
  unfold ZbT at h;split at h
  ·split at h
   ·split at h<;>(cases h;exact⟨id,_,rfl,rfl,rfl,fun i hi=>by simp at hi,fun i hi=>by simp at hi⟩)
   ·cases h
  ·cases h
 case prow id sz i off=>
  unfold Ja at h;split at h
  ·split at h
   ·obtain⟨x,_,h⟩:=Za h;obtain⟨q,hq,h⟩:=Za h;unfold Zcy at h;split at h
    ·cases h;exact⟨id,_,rfl,rfl,rfl,fun i hi=>by simp at hi,Zf9 hq⟩
    ·cases h
   ·cases h
  ·split at h
   ·obtain⟨x,_,h⟩:=Za h;obtain⟨q,hq,h⟩:=Za h;unfold ZcA at h;split at h
    ·cases h;exact⟨id,_,rfl,rfl,rfl,fun k hk=>⟨Zga hq k hk,_,_,_,_,rfl⟩,fun i hi=>by simp at hi⟩
    ·cases h
   ·cases h
  ·cases h
def FzEq (o o' : Option Zf):Prop:=∃ b:Bool,o'=o.map fun x=>if b then Yh x else x
theorem FzEq.seen {o o' : Option Zf} (h:FzEq o o'):U4 [] o o':=by
 obtain⟨b,rfl⟩:=h;have hk:∀ x:Zf,QU [] x=x:=fun x=>by
  cases x with
  | box cs=>simp only[QU];congr 1;rw[KJ (g:=id) (fun a _=>Zaj a),Lu]
  | row _ _ _ _=>rfl
  | gone=>rfl
  | tree _ _ _ l=>rcases l with _ | ⟨_ | _,_⟩<;>simp[QU,YV]
 have:=ZmQ (g:=[]) (b:=b) o;have e:(o.map (QU []))=o:=by cases o<;>simp[hk]
 rw[e] at this;exact this
theorem vop_fz {C:Orc} {M:Zh} {sl:Sl} {hp hp' : Hp} {base:Nat} {c:COp} (hc:Wq c=true) (h:∀ x∈Zr c,∀ k∈Zl (evO sl x),FzEq (lkp hp k) (lkp hp' k)):vop C M sl hp' base c=vop C M sl hp base c:=by
 have hs:∀ x∈Zr c,Zel [] hp hp' (evO sl x):=fun x hx k hk=>(h x hx k hk).seen;cases c<;>simp only[Wq,Ka] at hc<;>simp only[Zr] at h hs<;>simp only[vop]
 case load g s a=>
  have h1:=h a (by simp);have h2:=hs a (by simp);cases hv:evO sl a<;>rw[hv] at h1 h2<;>simp only[VA]
  case ptr id off=>
   obtain⟨b,e⟩:=h1 id (by simp[Zl,Zo,Zg]);rw[e];cases lkp hp id with
   | none=>rfl
   | some o=>cases o<;>cases b<;>rfl
  case prow id sz i off=>
   obtain⟨b,e⟩:=h1 id (by simp[Zl,Zo,Zg]);rw[e];cases lkp hp id with
   | none=>rfl
   | some o=>cases o<;>cases b<;>rfl
 case slice s x lo hi=>rw[ZbO (hs x (by simp))]
 case slice0 x hi mx=>unfold slice0;rw[Zam (hs x (by simp))]
 case iaS s x i=>
  congr 1
  funext n
  simp only[Zc8];rw[Ug (hs x (by simp))]
 case len x=>rw[Zam (hs x (by simp))]
def Zei (sl:Sl) (a:COp):COp→Bool
 | .store _ _ x y=>Za7 sl a (Ys (evO sl x))&&YB sl a (evO sl x) (evO sl y)
 | .append _ _ _ flat x y=>Wr sl a (evO sl x)&&(flat || seenSrc sl a (evO sl y))
 | _=>false
def LooseS (s:Sl) (a b:COp):Prop:=ZiL b=true∧(Y4 a=true∨(Wq a=true∧Zei s a b=true))
theorem ZbM {sl:Sl} {id:Nat}:∀ {xs:List Opd},Qy sl id xs=true→∀ x∈xs,Jl id (evO sl x)=true
 | [],_,x,hx=>by simp at hx
 | y :: ys,h,x,hx=>by
  simp only[Qy,Kc] at h;rcases Ke.1 hx with rfl | hx
  ·exact h.1
  ·exact ZbM h.2 x hx
theorem Zgb {sl:Sl} {xs:List Opd}:∀ {ks:List Nat},Xm sl xs ks=true→∀ k∈ks,Qy sl k xs=true
 | [],_,k,hk=>by simp at hk
 | j :: r,h,k,hk=>by
  simp only[Xm,Kc] at h;rcases Ke.1 hk with rfl | hk
  ·exact h.1
  ·exact Zgb h.2 k hk
theorem Zgc {sl:Sl} {a:COp} {b1 b2 b3 b4:Nat} {v:AV} (h:YB sl a (.prow b1 b2 b3 b4) v=true):(∃ d,v=.d d)∨(okV v=true∧Xm sl (Zr a) (Zl v)=true):=by
 cases v<;>first | exact .inl ⟨_,rfl⟩ | (simp only[YB,Kc] at h;exact .inr h)
theorem Zp9 {sl:Sl} {a:COp} {b1 b2 b3 b4:Nat} {v:AV} (h:okV v=true∧Xm sl (Zr a) (Zl v)=true):YB sl a (.prow b1 b2 b3 b4) v=true:=by
 cases v<;>first | rfl | (simp only[YB,Kc];exact h)
theorem Zlm {sl:Sl} {a:COp} {x v:AV} (hx:∀ a b c d,x≠.prow a b c d):YB sl a x v=true:=by
 cases x<;>first | rfl | exact absurd rfl (hx _ _ _ _)
theorem Zh6 {sl sl' : Sl} {xs:List Opd} (h:∀ k,Qy sl k xs=true→Qy sl' k xs=true):∀ {ks:List Nat},Xm sl xs ks=true→Xm sl' xs ks=true
 | [],_=>rfl
 | j :: r,hh=>by
  simp only[Xm,Kc] at hh ⊢;exact⟨h j hh.1,Zh6 h hh.2⟩
theorem Zh7 {id:Nat} {v:AV} (h:Jl id v=true):id∉Zl v:=by
 cases v with
 | tup vs=>cases vs with
  | nil=>simp[Zl]
  | cons x r=>cases h
 | _=>simp[Jl,Zl,Zo,Zg] at h ⊢ <;> exact fun e=>h e.symm
theorem Zn1 {hp:Hp} {sz by_ base:Nat} {str flat:Bool} {x y:AV} {e:Eff} (h:Wm hp sz by_ str flat base x y=some e):e.sets=[]∧e.frz=[]∧((x=.nil∧e.dels=[])∨∃ id,e.dels=[id]∧(x=.own id∨∃ o n,x=.ownv id o n)):=by
 unfold Wm at h;obtain⟨q,_,h⟩:=Za h;split at h
 ·cases x<;>simp only[Zc7] at h<;>first | (cases h;done) | skip
  ·split at h
   ·cases h;exact⟨rfl,rfl,.inl ⟨rfl,rfl⟩⟩
   ·cases h
  ·split at h
   ·cases h
   ·unfold Zir at h;split at h
    ·split at h
     ·cases h;exact⟨rfl,rfl,.inr ⟨_,rfl,.inl rfl⟩⟩
     ·cases h
    ·cases h
  ·split at h
   ·cases h
   ·split at h
    ·unfold Zes at h;split at h
     ·split at h
      ·cases h;exact⟨rfl,rfl,.inr ⟨_,rfl,.inr ⟨_,_,rfl⟩⟩⟩
      ·cases h
     ·cases h
    ·unfold Zer at h;split at h
     ·split at h
      ·cases h;exact⟨rfl,rfl,.inr ⟨_,rfl,.inr ⟨_,_,rfl⟩⟩⟩
      ·cases h
     ·cases h
 ·cases h
theorem Zh8 {hp:Hp} {x:AV} {k:Nat} (h:k∈Xe hp x):x=.own k:=by
 unfold Xe at h;split at h
 ·split at h
  ·simp at h;subst h;rfl
  ·simp at h
 ·simp at h
theorem ZmJ {hp:Hp} {sz by_ base:Nat} {str flat:Bool} {x y:AV} {e:Eff}:∀ {ms:List Nat},(∀ k∈ms,x=.own k∨y=.own k)→Yk hp sz by_ str flat base x y ms=some e→e.frz=[] ∧
  e.sets=[]∧∀ k∈e.dels,(x=.own k∨∃ o n,x=.ownv k o n)∨(flat=false∧y=.own k):=by
 have plain:∀ {hp' : Hp} {e:Eff},Wm hp' sz by_ str flat base x y=some e→e.sets=[]∧e.frz=[]∧∀ k∈e.dels,x=.own k∨∃ o n,x=.ownv k o n:=by
  intro hp' e h;obtain⟨g1,g2,g3⟩:=Zn1 h;refine⟨g1,g2,fun k hk=>?_⟩;rcases g3 with ⟨_,g3⟩ | ⟨id,g3,g4⟩
  ·rw[g3] at hk;simp at hk
  ·rw[g3] at hk;simp at hk;subst hk;exact g4
 intro ms hm h;cases ms with
 | nil=>
  simp only[Yk] at h;obtain⟨g1,g2,g3⟩:=plain h;exact⟨g2,g1,fun k hk=>.inl (g3 k hk)⟩
 | cons i r=>
  simp only[Yk] at h;split at h
  ·cases h
  ·rename_i aa;obtain⟨e0,h1,h⟩:=Za h;cases h;obtain⟨g1,g2,g3⟩:=plain h1;refine⟨g2,g1,fun k hk=>?_⟩;rcases Kd.1 hk with hk | hk
   ·exact .inl (g3 k hk)
   ·rcases hm k hk with hk | hk
    ·exact .inl (.inl hk)
    ·exact .inr ⟨by simpa using aa,hk⟩
theorem ZrM {hp:Hp} {sz by_ base:Nat} {x y:AV} {ce:Zb} (h:appT hp sz by_ base x y=some ce):ce.gone=[]∧ce.eff.frz=[]∧ce.eff.sets=[]∧∀ k∈ce.eff.dels,x=.own k∨y=.own k:=by
 unfold appT at h;obtain⟨e,h1,h⟩:=Za h;cases h;obtain⟨q,h2,h1⟩:=Za h1;have hy:y=.own q.1:=by
  unfold JE at h2;split at h2
  ·obtain⟨q2,_,h2⟩:=Za h2;cases h2;rfl
  ·cases h2
 split at h1
 ·cases x<;>simp only[UD] at h1<;>first | (cases h1;done) | skip
  ·split at h1
   ·cases h1;exact⟨rfl,rfl,rfl,fun k hk=>by simp at hk;subst hk;exact .inr hy⟩
   ·cases h1
  ·obtain⟨q3,_,h1⟩:=Za h1;split at h1
   ·cases h1;refine⟨rfl,rfl,rfl,fun k hk=>?_⟩;simp at hk;rcases hk with rfl | rfl
    ·exact .inl rfl
    ·exact .inr hy
   ·cases h1
 ·cases h1
theorem ZmK {hp:Hp} {sz by_ base:Nat} {str flat:Bool} {x y:AV} {ce:Zb} (h:Zm7 hp sz by_ str flat base x y=some ce):ce.gone=[]∧ce.eff.frz=[] ∧
  ce.eff.sets=[]∧∀ k∈ce.eff.dels,(x=.own k∨∃ o n,x=.ownv k o n)∨(flat=false∧y=.own k):=by
 have kx:∀ k∈Xe hp x,x=.own k∨y=.own k:=fun k hk=>.inl (Zh8 hk);have ky:∀ k∈Xe hp y,x=.own k∨y=.own k:=fun k hk=>.inr (Zh8 hk);have melt:∀ {ms:List Nat},(∀ k∈ms,x=.own k∨y=.own k)→Zbl (Yk hp sz by_ str flat base x y ms)=some ce→ce.gone=[]∧ce.eff.frz=[] ∧
   ce.eff.sets=[]∧∀ k∈ce.eff.dels,(x=.own k∨∃ o n,x=.ownv k o n)∨(flat=false∧y=.own k):=by
  intro ms hm h;obtain⟨e,h1,h⟩:=Za h;cases h;exact⟨rfl,ZmJ hm h1⟩
 unfold Zm7 at h;generalize Xe hp x=mx at h kx;generalize Xe hp y=my at h ky;cases mx with
 | nil=>exact melt ky h
 | cons i r=>
  cases my with
  | nil=>exact melt kx h
  | cons j t=>
   simp only[JU] at h;split at h
   ·cases h
   ·rename_i hc;obtain⟨g1,g2,g3,g4⟩:=ZrM h;have hf:flat=false:=by cases flat<;>simp_all
    exact⟨g1,g2,g3,fun k hk=>(g4 k hk).elim (fun e=>.inl (.inl e)) fun e=>.inr ⟨hf,e⟩⟩
theorem Zh9 {ds:List Nat} {l:Hp} {k:Nat} (h:k∈ds):lkp (ZW l ds) k=none:=by
 cases hl:lkp (ZW l ds) k with
 | none=>rfl
 | some o=>exact absurd h (VT ds l k o hl).2
theorem ZsR {C:Orc} {M:Zh} {sl:Sl} {hp:Hp} {base:Nat} {c:COp} {ce:Zb} (hc:ZiL c=true) (h:vop C M sl hp base c=some ce) :
  ce.gone=[]∧(∀ k,k∈ce.eff.dels∨(∃ o,(k,o)∈ce.eff.sets)→(∃ x∈Zr c,k∈Zl (evO sl x))∧∀ a,Zei sl a c=true→Qy sl k (Zr a)=true)∧∀ k∈ce.eff.frz,∃ x∈Zr c,k∈Zl (evO sl x):=by
 cases c<;>first | (cases hc;done) | skip
 case store slc sz x y=>
  simp only[vop,Zbl] at h;obtain⟨e,h7,h⟩:=Za h;cases h;obtain⟨id,o,ht,g1,g2,g3,g4⟩:=Zp8 h7;refine⟨rfl,fun k hk=>?_,fun k hk=>⟨y,by simp[Zr],ZhW (U:=fun k=>k∈Zl (evO sl y)) (fun _ h=>h) k (g4 k hk)⟩⟩;rcases hk with hk | ⟨o',hk⟩
  ·obtain⟨k1,b1,b2,b3,b4,k2⟩:=g3 k hk;have k3:=ZhW (U:=fun k=>k∈Zl (evO sl y)) (fun _ h=>h) k k1;refine⟨⟨y,by simp[Zr],k3⟩,fun a ha=>?_⟩;simp only[Zei,Kc,k2] at ha;rcases Zgc ha.2 with ⟨d,hv⟩ | hv
   ·rw[hv] at k3;simp[Zl,Zo,Zg] at k3
   ·exact Zgb hv.2 k k3
  ·simp only[g2,Kz,Prod.mk.injEq] at hk;have aa:=hk.1;subst aa;refine⟨⟨x,by simp[Zr],?_⟩,fun a ha=>?_⟩
   ·cases hv:evO sl x<;>rw[hv] at ht<;>simp only[Ys] at ht<;>cases ht<;>simp[Zl,Zo,Zg]
   ·simp only[Zei,Kc,ht,Za7] at ha;exact ha.1
 case append sz by_ str flat x y=>
  simp only[vop] at h;obtain⟨g0,g2,g1,g3⟩:=ZmK h;refine⟨g0,fun k hk=>?_,fun k hk=>by simp only[g2,KI] at hk⟩;have ab:k∈ce.eff.dels:=by
   rcases hk with hk | ⟨o',hk⟩
   ·exact hk
   ·simp only[g1,KI] at hk
  rcases g3 k ab with g4 | ⟨g4,g5⟩
  ·refine⟨⟨x,by simp[Zr],?_⟩,fun a ha=>?_⟩
   ·rcases g4 with g4 | ⟨o,n,g4⟩<;>rw[g4]<;>simp[Zl,Zo,Zg]
   ·simp only[Zei,Kc] at ha;rcases g4 with g4 | ⟨o,n,g4⟩<;>rw[g4] at ha<;>exact ha.1
  ·refine⟨⟨y,by simp[Zr],by rw[g5];simp[Zl,Zo,Zg]⟩,fun a ha=>?_⟩;simp only[Zei,Kc,g4,Bool.false_or] at ha;rw[g5] at ha;exact ha.2
theorem Zn2 {C:Orc} {M:Zh} {os:List CO} {nx i j:Nat} {oi oj:CO} (ae:os[i]?=some oi) (ak:os[j]?=some oj) (ar:ZI os i=true) (am:ZI os j=false) (a3:i≠j) (au:Q4 oj oi=true)
  (an:∀ (k:Nat) (o:CO),os[k]?=some o→∀ x∈Zr o.op,X0 x=true) {s s1 s2:Sl×Hp} {U:Nat→Prop} (hs:Zc0 nt s U) (a4:QQ U (nx+64*i)) (av:QQ U (nx+64*j)) (hl:LooseS s.1 oj.op oi.op)
  (h1:Zs C M os nx j s=some s1) (h2:Zs C M os nx i s1=some s2):∃ t1,Zs C M os nx i s=some t1∧∃ t2,Zs C M os nx j t1=some t2∧Xa t2 s2:=by
 obtain⟨F,A,I,Γ,a,w,ag⟩:=hs;simp only[Q4,Kc] at au;obtain⟨⟨aw,ax⟩,al⟩:=au;have good:∀ (k:Nat) (o:CO),os[k]?=some o→∀ x∈Zr o.op,Zeg U (evO s.1 x):=by
  intro k o ho x hx;cases x with
  | t n=>exact ag.good n
  | v y=>exact Wh (an k o ho _ hx)
  | f n=>exact⟨fun id a5=>by simp[evO,Zl,Zo] at a5,fun f a6 h c hc=>by cases h;simp at hc⟩
 simp only[Zs,ak,Zc,am] at h1;simp only[Zs,ae,Zc,ar] at h2;obtain⟨vj,aj,rfl,ao,ay⟩:=ZdA h1;obtain⟨a7,hl⟩:=hl;unfold Zy at h2;obtain⟨b,hw,h2⟩:=Za h2;have az : ZK s.1 oi.guard=some b:=by rw[← hw];exact(Qg aw).symm
 cases b with
 | false=>
  simp only[Ka,Kn] at h2;cases h2;refine⟨(Zi s.1 oi.dst (.tup []),s.2),by simp only[Zs,ae,Zc,Zy,az,Ka,Kn],?_⟩;have e2:=ay (Zi s.1 oi.dst (.tup []),s.2) (Qg al) (QO C M s.2 (nx+64*j) (YY (o:=oj) al));exact⟨(Zi (Zi s.1 oi.dst (.tup [])) oj.dst vj,Zd s.2 aj),by simp only[Zs,ak,Zc,am];exact e2,fun t=>(Vy ax vj (.tup []) t).symm,fun id=>rfl⟩
 | true=>
  simp only[Kl] at h2;obtain⟨ce,h3,h4,rfl⟩:=Q0 h2;have a0 : vop C M s.1 s.2 (nx+64*i) oi.op=some ce:=by
   have h5:=Zaw h3;rw[← h5,QO C M (Zd s.2 aj) (nx+64*i) (YY (o:=oi) aw)];exact WE (ag.agree (YZ av ao s.2)) C M _ (good i oi ae)
  have aa:=V5 h4;obtain⟨k1,k2,k3⟩:=ZsR a7 a0;obtain⟨e,gn⟩:=ce;simp only at k1 k2 k3;subst k1;have ap:∀ k∈e.frz,U k:=fun k hk=>by
   obtain⟨x,hx,hk⟩:=k3 k hk;exact(good i oi ae x hx).1 k hk
  have ah:∀ k,k∈e.dels∨(∃ o,(k,o)∈e.sets)→U k:=fun k hk=>by
   obtain⟨⟨x,hx,hk⟩,_⟩:=k2 k hk;exact(good i oi ae x hx).1 k hk
  have ai:∀ s:Sl×Hp,Zb.on { eff:=e,gone:=[] } oi.dst s.1 s.2=(Zi s.1 oi.dst e.val,Zd (Zd (ZW (Z0 e.frz s.2) e.dels) e.sets) e.adds):=by
   intro s;rfl
  refine⟨Zb.on { eff:=e,gone:=[] } oi.dst s.1 s.2,?_,?_⟩
  ·simp only[Zs,ae,Zc,Zy,az,Kl,XS,ar,YM];rw[a0,Zc,Ko h4]
  ·have ab:∀ k,U k→¬(k∈e.dels∨∃ o,(k,o)∈e.sets)→FzEq (lkp s.2 k) (lkp (Zd (Zd (ZW (Z0 e.frz s.2) e.dels) e.sets) e.adds) k):=by
    intro k hk aq;rw[not_or] at aq;rw[← YZ a4 aa _ k hk,Zq _ _ k (fun o ho=>aq.2 ⟨o,ho⟩),VC _ _ k aq.1,ZV];exact⟨_,rfl⟩
   have e2:Zy C M nx j false oj (Zb.on { eff:=e,gone:=[] } oi.dst s.1 s.2)=some (Zi (Zb.on { eff:=e,gone:=[] } oi.dst s.1 s.2).1 oj.dst vj,Zd (Zb.on { eff:=e,gone:=[] } oi.dst s.1 s.2).2 aj):=by
    rw[ai];refine ay (Zi s.1 oi.dst e.val,Zd (Zd (ZW (Z0 e.frz s.2) e.dels) e.sets) e.adds) (Qg al) ?_;rw[QO C M _ (nx+64*j) (YY (o:=oj) al)];rcases hl with hl | ⟨a8,a9⟩
    ·exact Zem hl
    ·refine vop_fz a8 fun z hz k hk=>?_;refine ab k ((good j oj ak z hz).1 k hk) fun hp=>?_;exact Zh7 (ZbM ((k2 k hp).2 _ a9) z hz) hk
   refine⟨_,by simp only[Zs,ak,Zc,am];exact e2,fun t=>?_,fun k=>?_⟩
   ·rw[ai,ai (Zi s.1 oj.dst vj,Zd s.2 aj)];exact(Vy ax vj e.val t).symm
   ·rw[ai,ai (Zi s.1 oj.dst vj,Zd s.2 aj)];show lkp (Zd (Zd (Zd (ZW (Z0 e.frz s.2) e.dels) e.sets) e.adds) aj) k=lkp (Zd (Zd (ZW (Z0 e.frz (Zd s.2 aj)) e.dels) e.sets) e.adds) k;have a1:∀ (B:Hp) (hp hp' : Hp),(∀ k,lkp hp k=lkp hp' k)→∀ k,lkp (Zd hp B) k=lkp (Zd hp' B) k:=fun B hp hp' h=>Uw B h;have ad:∀ k,U k→∀ o',(k,o')∉aj:=fun k hk o' af=>by
     have:=ao k o' af;exact av k this.1 this.2 hk
    rw[Zj8 (A:=e.adds) (B:=aj) (fun k x y hx hy=>by
     have:=aa k x hx;have:=ao k y hy;rcases LB a3 with h | h<;>omega)]
    refine a1 e.adds _ _ (fun k=>?_) k;rw[Zj8 (A:=e.sets) (B:=aj) (fun k x y hx hy=>ad k (ah k (.inr ⟨x,hx⟩)) y hy) (ZW (Z0 e.frz s.2) e.dels) k];refine a1 e.sets _ _ (fun k=>?_) k;by_cases hd:k∈e.dels
    ·rw[Zq aj _ k (ad k (ah k (.inl hd))),Zh9 hd,Zh9 hd]
    ·rw[VC _ _ k hd];rw[ZV];by_cases hk:∃ o',(k,o')∈aj
     ·obtain⟨o',af⟩:=hk;rw[U6 (hp':=s.2) ⟨o',af⟩];have a':k∉e.frz:=fun hf=>ad k (ap k hf) o' af;cases lkp (Zd s.2 aj) k<;>simp[a']
     ·have a2 : ∀ o',(k,o')∉aj:=fun o' af=>hk ⟨o',af⟩;rw[Zq aj _ k a2,Zq aj _ k a2,VC _ _ k hd,ZV]
theorem Zqa {C:Orc} {M:Zh} {os:List CO} {nx i j:Nat} {oi oj:CO} (ab:os[i]?=some oi) (ad:os[j]?=some oj) (ae:Zor oi.op=true) (af:ZI os j=false) (ag:i≠j) (ah:Q4 oj oi=true)
  (aa:∀ (k:Nat) (o:CO),os[k]?=some o→∀ x∈Zr o.op,X0 x=true) {s s1 s2:Sl×Hp} {U:Nat→Prop} (hs:Zc0 nt s U) (ai:QQ U (nx+64*i)) (aj:QQ U (nx+64*j))
  (h1:Zs C M os nx j s=some s1) (h2:Zs C M os nx i s1=some s2):∃ t1,Zs C M os nx i s=some t1∧∃ t2,Zs C M os nx j t1=some t2∧Xa t2 s2:=by
 have e:∀ s:Sl×Hp,Zs C M os nx i s=Zy C M nx i false oi s:=fun s=>by
  simp only[Zs,ab,Zc];cases ZI os i
  ·rfl
  ·exact Zp7 ae s
 rw[e] at h2;simp only[e];exact Zh4 ab ad af ag ah aa hs ai aj h1 h2
theorem Zln {hp:Hp} {base s:Nat} {vs:List AV} {ce:Zb} (h:buildSl hp base s vs=some ce):ce.gone=[]:=by
 cases vs with
 | nil=>simp only[buildSl,Qw] at h;first | (cases h;rfl) | (split at h<;>first | (cases h;rfl) | cases h)
 | cons v r=>
  simp only[buildSl] at h;obtain⟨q,_,h⟩:=Za h;unfold Zqx at h;split at h
  ·cases h;rfl
  ·cases h
theorem ZmL {C:Orc} {M:Zh} {sl:Sl} {hp:Hp} {base:Nat} {c:COp} {ce:Zb} (hc:Za5 c=true) (h:vop C M sl hp base c=some ce):ce.gone=[]:=by
 cases c<;>first | (cases hc;done) | skip
 ·simp only[vop] at h;exact Zln h
 ·simp only[vop] at h;exact(ZmK h).1
theorem Zqb {C:Orc} {M:Zh} {nx j:Nat} {oj:CO} {s s1:Sl×Hp} (hm:X8 oj.op=true) (h:Zy C M nx j false oj s=some s1) :
  ∃ v,s1=(Zi s.1 oj.dst v,s.2)∧∀ aa : Sl×Hp,ZK aa.1 oj.guard=ZK s.1 oj.guard→(∀ x∈Zr oj.op,evO aa.1 x=evO s.1 x)→Zy C M nx j false oj aa=some (Zi aa.1 oj.dst v,aa.2):=by
 obtain⟨x,hx⟩:∃ x,oj.op=.move x:=by
  cases ho:oj.op<;>rw[ho] at hm<;>first | (cases hm;done) | exact⟨_,rfl⟩
 unfold Zy at h ⊢;obtain⟨b,hw,h⟩:=Za h;cases b with
 | true=>
  simp only[Kl,hx,YM,Ka,Kn,vop] at h;refine⟨evO s.1 x,?_,fun aa g1 g2=>?_⟩
  ·cases h;rfl
  ·rw[g1,hw,Zc];have e:=g2 x (by rw[hx];simp[Zr]);simp only[Kl,hx,YM,Ka,Kn,vop,e];rfl
 | false=>
  simp only[Ka,Kn] at h;cases h;refine⟨.tup [],rfl,fun aa g1 g2=>?_⟩;rw[g1,hw,Zc];rfl
theorem Zqc {C:Orc} {M:Zh} {os:List CO} {nx i j:Nat} {oi oj:CO} (ad:os[i]?=some oi) (ae:os[j]?=some oj) (af:ZI os j=false) (ah:Q4 oj oi=true)
  {s s1 s2:Sl×Hp} (hm:X8 oj.op=true) (hg:Za5 oi.op=true)
  (h1:Zs C M os nx j s=some s1) (h2:Zs C M os nx i s1=some s2):∃ t1,Zs C M os nx i s=some t1∧∃ t2,Zs C M os nx j t1=some t2∧Xa t2 s2:=by
 simp only[Q4,Kc] at ah;obtain⟨⟨ai,aj⟩,ab⟩:=ah;simp only[Zs,ae,Zc,af] at h1;simp only[Zs,ad,Zc] at h2;obtain⟨vj,rfl,ak⟩:=Zqb hm h1;unfold Zy at h2;obtain⟨b,hw,h2⟩:=Za h2;have al : ZK s.1 oi.guard=some b:=by rw[← hw];exact(Qg ai).symm
 cases b with
 | false=>
  simp only[Ka,Kn] at h2;cases h2;refine⟨(Zi s.1 oi.dst (.tup []),s.2),by simp only[Zs,ad,Zc,Zy,al,Ka,Kn],?_⟩;exact⟨(Zi (Zi s.1 oi.dst (.tup [])) oj.dst vj,s.2),by simp only[Zs,ae,Zc,af];exact ak (Zi s.1 oi.dst (.tup []),s.2) (Qg ab) (YY (o:=oj) ab),fun t=>(Vy aj vj (.tup []) t).symm,fun id=>rfl⟩
 | true=>
  simp only[Kl] at h2;obtain⟨ce,h3,h4,rfl⟩:=Q0 h2;have aa:=ZmL hg (Zaw h3);have am : YM C M nx i (ZI os i) oi.op s.1 s.2=some ce:=by
   rw[← h3];unfold YM;rw[QO C M s.2 (nx+64*i) (YY (o:=oi) ai)]
  have ag:∀ (sl:Sl) (hp:Hp),ce.on oi.dst sl hp=(Zi sl oi.dst ce.eff.val,ce.eff.on hp):=by
   intro sl hp;unfold Zb.on;rw[aa];rfl
  refine⟨ce.on oi.dst s.1 s.2,?_,?_⟩
  ·simp only[Zs,ad,Zc,Zy,al,Kl,XS];rw[am,Zc,Ko h4]
  ·rw[ag];refine⟨(Zi (Zi s.1 oi.dst ce.eff.val) oj.dst vj,ce.eff.on s.2),by simp only[Zs,ae,Zc,af];exact ak (Zi s.1 oi.dst ce.eff.val,ce.eff.on s.2) (Qg ab) (YY (o:=oj) ab),fun t=>?_,fun k=>?_⟩
   ·rw[ag];exact(Vy aj vj ce.eff.val t).symm
   ·rw[ag]
theorem awayV_ptr {sl:Sl} {xs:List Opd} {v:AV} (h:Jm sl xs v=true) {k off:Nat} (e:v=.ptr k off):∀ z∈xs,k∉Zl (evO sl z):=by
 subst e;exact fun z hz=>Zh7 (ZbM h z hz)
structure Zia (r:Sl) (oX oY:CO):Prop where
 opd:∀ x∈Zr oX.op,okV (evO r x)=true
 dst:∀ t,oX.dst=some t→okV (gs r t)=true
 arg:∀ y∈ZfF oY.op,okV (evO r y)=true
 away:∀ y∈ZfF oY.op,∀ k off,evO r y=.ptr k off→∀ z∈Zr oX.op,k∉Zl (evO r z)
theorem Zlo {sl:Sl}:∀ {xs:List Opd},okL sl xs=true→∀ x∈xs,okV (evO sl x)=true
 | [],_,x,hx=>by simp at hx
 | y :: ys,h,x,hx=>by
  simp only[okL,Kc] at h;rcases Ke.1 hx with rfl | hx
  ·exact h.1
  ·exact Zlo h.2 x hx
theorem Zj9 {sl:Sl} {xs:List Opd}:∀ {ys:List Opd},Zb2 sl xs ys=true→∀ y∈ys,Jm sl xs (evO sl y)=true
 | [],_,x,hx=>by simp at hx
 | y :: ys,h,x,hx=>by
  simp only[Zb2,Kc] at h;rcases Ke.1 hx with rfl | hx
  ·exact h.1
  ·exact Zj9 h.2 x hx
theorem ZmM {r:Sl} {oX oY:CO} (hm:X8 oX.op=false) (hc:WU oY.op=true) (h:VS r oX.dst oX.op oY.op=true):Zia r oX oY:=by
 obtain⟨f,as,ho⟩:∃ f as,oY.op=.call (.f f) as:=by
  cases ho:oY.op<;>rw[ho] at hc<;>first | (cases hc;done) | skip
  rename_i f as;cases f<;>first | (cases hc;done) | exact⟨_,_,rfl⟩
 rw[ho] at h;have h' : (okL r (Zr oX.op)&&(okD r oX.dst&&(okL r as&&Zb2 r (Zr oX.op) as)))=true:=by
  cases hx:oX.op<;>rw[hx] at h hm<;>first | (cases hm;done) | exact h
 simp only[Kc] at h';obtain⟨h1,h2,h3,h4⟩:=h';refine⟨Zlo h1,fun t ht=>?_,?_,?_⟩
 ·rw[ht] at h2;exact h2
 ·rw[ho];exact Zlo h3
 ·rw[ho];intro y hy k off e;exact awayV_ptr (Zj9 h4 y hy) e
theorem Zia.move {r r' : Sl} {oX oY:CO} (h:Zia r oX oY) (h1:∀ n∈(Zr oX.op).flatMap Ui,okV (gs r n)=true→gs r' n=gs r n) (h2:∀ n,oX.dst=some n→okV (gs r n)=true→gs r' n=gs r n)
  (h3:∀ n∈(ZfF oY.op).flatMap Ui,okV (gs r n)=true→gs r' n=gs r n):Zia r' oX oY:=by
 have e1:∀ x∈Zr oX.op,evO r' x=evO r x:=fun x hx=>by
  have ho:=h.opd x hx;cases x with
  | t n=>exact h1 n (Kq.2 ⟨_,hx,by simp[Ui]⟩) ho
  | _=>rfl
 have e3:∀ x∈ZfF oY.op,evO r' x=evO r x:=fun x hx=>by
  have ho:=h.arg x hx;cases x with
  | t n=>exact h3 n (Kq.2 ⟨_,hx,by simp[Ui]⟩) ho
  | _=>rfl
 refine⟨fun x hx=>by rw[e1 x hx];exact h.opd x hx,fun t ht=>by rw[h2 t ht (h.dst t ht)];exact h.dst t ht,fun x hx=>by rw[e3 x hx];exact h.arg x hx,fun y hy k off e z hz=>?_⟩;rw[e3 y hy] at e;rw[e1 z hz];exact h.away y hy k off e z hz
theorem Zib {C:Orc} {M:Zh} (hM:∀ f,M f 99=false) {os:List CO} {nx x y:Nat} {oX oY:CO} (ay:os[x]?=some oX) (a1:os[y]?=some oY) (a2:x≠y) (ak:Qr oY.dst (looks oX)=true) (aw:Qr oX.dst (looks oY)=true)
  (ad:Qr oX.dst (looks oX)=true) (al:Qr oY.dst (looks oY)=true)
  (ar:∀ (k:Nat) (o:CO),os[k]?=some o→∀ x∈Zr o.op,X0 x=true) {s:Sl×Hp} {r:Sl} {U:Nat→Prop} (hs:Zc0 nt s U) (a3:QQ U (nx+64*x)) (a4:QQ U (nx+64*y))
  (ae:WU oY.op=true) {ce:Zb} (a5:vop C M s.1 s.2 (nx+64*y) oY.op=some ce) (a6:QD (nx+64*y) (nx+64*y+64) ce.eff.adds=true)
  (am:∀ n,oX.dst≠some n→oY.dst≠some n→gs r n=kill ce.gone (gs s.1 n)) (aa:Zia r oX oY) :
  ce.eff.dels=[]∧(∀ z∈Zr oX.op,evO (ce.on oY.dst s.1 s.2).1 z=evO s.1 z)∧(∀ z∈Zr oX.op,∀ id∈Zl (evO s.1 z),id∉ce.gone)∧(∀ z∈Zr oX.op,Zel ce.gone s.2 (ce.on oY.dst s.1 s.2).2 (evO s.1 z)) ∧
  (∀ k,nx+64*x≤k→k<nx+64*x+64→(∀ o',(k,o')∉ce.eff.sets)∧(∀ o',(k,o')∉ce.eff.adds)∧k∉ce.eff.frz∧k∉ce.gone):=by
 obtain⟨F,A,I,Γ,a,w,au⟩:=hs;have good:∀ (k:Nat) (o:CO),os[k]?=some o→∀ x∈Zr o.op,Zeg U (evO s.1 x):=by
  intro k o ho x hx;cases x with
  | t n=>exact au.good n
  | v y=>exact Wh (ar k o ho _ hx)
  | f n=>exact⟨fun id av=>by simp[evO,Zl,Zo] at av,fun f a7 h c hc=>by cases h;simp at hc⟩
 obtain⟨f,as,ho⟩:∃ f as,oY.op=.call (.f f) as:=by
  cases ho:oY.op<;>rw[ho] at ae<;>first | (cases ae;done) | skip
  rename_i f as;cases f<;>first | (cases ae;done) | exact⟨_,_,rfl⟩
 have an:=a5;rw[ho] at an;simp only[vop,evO,JV,KU] at an;obtain⟨k1,k2,k3,k4⟩:=Zqm an (hM _);have ab:∀ n,(Opd.t n)∈Zr oX.op→n∈looks oX:=fun n hn=>Kd.2 (.inl (Kq.2 ⟨_,hn,by simp[Ui]⟩));have ai:∀ n,(Opd.t n)∈as→n∈looks oY:=fun n hn=>Kd.2 (.inl (Kq.2 ⟨.t n,by rw[ho];simp[Zr,hn],by simp[Ui]⟩));have ne:∀ {d:Option Nat} {l:List Nat} {n:Nat},Qr d l=true→n∈l→d≠some n:=fun {d l n} h hn e=>by
  rw[e] at h;simp only[Qr,KR,KK,KV] at h;exact h hn
 have ax:∀ z∈Zr oX.op,evO r z=evO s.1 z∧∀ id∈Zl (evO s.1 z),id∉ce.gone:=by
  intro z hz;have af:=aa.opd z hz;cases z with
  | t n=>
   have e:=am n (ne ad (ab n hz)) (ne ak (ab n hz));simp only[evO] at af ⊢;rw[e] at af ⊢;have:=U3 af;exact⟨this,ZrO this⟩
  | v c=>
   have:=ar x oX ay _ hz;simp only[X0,Kc,List.isEmpty_iff] at this;exact⟨rfl,fun id av=>by simp only[evO] at av;rw[this.1] at av;simp at av⟩
  | f n=>simp only[evO,okV,okC] at af;cases af
 have az:∀ z∈as,evO r z=evO s.1 z:=by
  intro z hz;have af:=aa.arg z (by rw[ho];exact hz);cases z with
  | t n=>
   have e:=am n (ne aw (ai n hz)) (ne al (ai n hz));simp only[evO] at af ⊢;rw[e] at af ⊢;exact U3 af
  | _=>rfl
 have a0:∀ id,(∃ o,lkp s.2 id=some o)→U id:=fun id ⟨o,h⟩=>au.id_in h;have uX:∀ k,nx+64*x≤k→k<nx+64*x+64→¬U k:=fun k h1 h2=>a3 k h1 h2;have aj:=V5 a6;have ag:∀ z∈Zr oX.op,∀ k∈Zl (evO s.1 z),∀ o',(k,o')∉ce.eff.sets:=by
  intro z hz k hk o' ao;rcases (k4 k o' ao).2 with h | ⟨v,hv,ap⟩
  ·exact(ax z hz).2 k hk h
  ·obtain⟨y',aq,rfl⟩:=Zcs hv;have ah:=aa.arg y' (by rw[ho];exact aq);rw[az y' aq] at ah;cases hp:evO s.1 y' with
   | ptr a b=>
    rw[hp] at ap;simp only[Wx,Kz] at ap;subst ap;have:=aa.away y' (by rw[ho];exact aq) k b (by rw[az y' aq,hp]) z hz;rw[(ax z hz).1] at this;exact this hk
   | clo g cs=>rw[hp] at ah;simp only[okV,okC] at ah;cases ah
   | _=>rw[hp] at ap;simp[Wx] at ap
 refine⟨k1,fun z hz=>?_,fun z hz=>(ax z hz).2,fun z hz k hk=>?_,fun k g1 g2=>⟨fun o' ao=>?_,fun o' ao=>?_,fun hf=>?_,fun hg=>?_⟩⟩
 ·cases z with
  | t n=>
   show gs (Zi (QN ce.gone s.1) oY.dst ce.eff.val) n=gs s.1 n;rw[Qb,Kf (ne ak (ab n hz)),Qt];have e:=am n (ne ad (ab n hz)) (ne ak (ab n hz));have:=aa.opd _ hz;simp only[evO] at this;rw[e] at this;exact U3 this
  | _=>rfl
 ·have a8:U k:=(good x oX ay z hz).1 k hk;show U4 ce.gone (lkp s.2 k) (lkp (ce.eff.on (YK ce.gone s.2)) k);unfold Eff.on;rw[k1];simp only[ZW];rw[Zq,Zq,ZV,YW]
  ·exact ZmQ _
  ·exact ag z hz k hk
  ·intro o' ao;obtain⟨h1,h2⟩:=aj k o' ao;exact a4 k h1 h2 a8
 ·exact uX k g1 g2 (a0 k (k4 k o' ao).1)
 ·have:=aj k o' ao;rcases LB a2 with h | h<;>omega
 ·obtain⟨v,hv,ap⟩:=k2 k hf;obtain⟨y',aq,rfl⟩:=Zcs hv;exact uX k g1 g2 ((good y oY a1 y' (by rw[ho];simp[Zr,aq])).1 k ap)
 ·exact uX k g1 g2 (a0 k (k3 k hg))
theorem Zn3 {C:Orc} {M:Zh} (hM:∀ f,M f 99=false) {os:List CO} {nx i j:Nat} {oi oj:CO} (ah:os[i]?=some oi) (av:os[j]?=some oj) (az:ZI os j=false) (a0:i≠j) (aw:Q4 oj oi=true)
  (ad:Qr oj.dst (looks oj)=true) (ae:Qr oi.dst (looks oi)=true)
  (ai:∀ (k:Nat) (o:CO),os[k]?=some o→∀ x∈Zr o.op,X0 x=true) {s s1 s2:Sl×Hp} {U:Nat→Prop} (hs:Zc0 nt s U) (a1:QQ U (nx+64*i)) (ap:QQ U (nx+64*j))
  (aj:WU oi.op=true) (a2:ZiN oj.op=true) (aa:Zia s2.1 oj oi) {t:Nat} (ht:oj.dst=some t)
  (h1:Zs C M os nx j s=some s1) (h2:Zs C M os nx i s1=some s2):∃ t1,Zs C M os nx i s=some t1∧∃ t2,Zs C M os nx j t1=some t2∧Xa t2 s2:=by
 have a3:=hs;obtain⟨F,A,I,Γ,a,w,af⟩:=a3;simp only[Q4,Kc] at aw;obtain⟨⟨am,an⟩,ao⟩:=aw;have good:∀ (k:Nat) (o:CO),os[k]?=some o→∀ x∈Zr o.op,Zeg U (evO s.1 x):=by
  intro k o ho x hx;cases x with
  | t n=>exact af.good n
  | v y=>exact Wh (ai k o ho _ hx)
  | f n=>exact⟨fun id a4=>by simp[evO,Zl,Zo] at a4,fun f a5 h c hc=>by cases h;simp at hc⟩
 have ab:∀ s:Sl×Hp,Zs C M os nx j s=Zy C M nx j false oj s:=fun s=>by simp only[Zs,av,Zc,az]
 rw[ab] at h1;simp only[Zs,ah,Zc] at h2;obtain⟨v,ax,a6,aq,hX⟩:∃ v ax,s1=(Zi s.1 oj.dst v,Zd s.2 ax)∧(∀ k x,(k,x)∈ax→nx+64*j≤k∧k<nx+64*j+64) ∧
   ((ZK s.1 oj.guard=some false∧v=.tup []∧ax=[])∨(ZK s.1 oj.guard=some true∧∃ ce,Zfs ce∧vop C M s.1 s.2 (nx+64*j) oj.op=some ce∧QD (nx+64*j) (nx+64*j+64) ce.eff.adds=true∧v=ce.eff.val∧ax=ce.eff.adds)):=by
  rcases Zoc h1 with ⟨g1,g2⟩ | ⟨g1,ce,g2,g3,g4,g5⟩
  ·exact⟨.tup [],[],g2,fun k x h=>by simp at h,.inl ⟨g1,rfl,rfl⟩⟩
  ·exact⟨ce.eff.val,ce.eff.adds,g5,V5 g4,.inr ⟨g1,ce,g2,g3,g4,rfl,rfl⟩⟩
 subst a6;unfold Zy at h2;obtain⟨b,hw,h2⟩:=Za h2;have ay : ZK s.1 oi.guard=some b:=by rw[← hw];exact(Qg am).symm
 cases b with
 | false=>
  simp only[Ka,Kn] at h2;cases h2;refine⟨(Zi s.1 oi.dst (.tup []),s.2),by simp only[Zs,ah,Zc];exact XR ay,?_⟩;refine⟨(Zi (Zi s.1 oi.dst (.tup [])) oj.dst v,Zd s.2 ax),?_,fun t=>(Vy an v (.tup []) t).symm,fun id=>rfl⟩;rw[ab];have ak:ZK (Zi s.1 oi.dst (.tup [])) oj.guard=ZK s.1 oj.guard:=Qg ao;rcases hX with ⟨g1,rfl,rfl⟩ | ⟨g1,ce,g2,g3,g4,rfl,rfl⟩
  ·exact XR (s:=(Zi s.1 oi.dst (.tup []),s.2)) (ak.trans g1)
  ·refine Zcu (s:=(Zi s.1 oi.dst (.tup []),s.2)) (ak.trans g1) g2 ?_ g4;rw[← g3];exact QO C M s.2 (nx+64*j) (YY (o:=oj) ao)
 | true=>
  simp only[Kl] at h2;obtain⟨ce,h3,h4,rfl⟩:=Q0 h2;have a7:vop C M s.1 s.2 (nx+64*i) oi.op=some ce:=by
   have h5:=Zaw h3;rw[← h5,QO C M (Zd s.2 ax) (nx+64*i) (YY (o:=oi) am)];exact WE (af.agree (YZ ap aq s.2)) C M _ (good i oi ah)
  have a8 : YM C M nx i (ZI os i) oi.op s.1 s.2=some ce:=by
   rw[← h3];unfold YM;rw[QO C M (Zd s.2 ax) (nx+64*i) (YY (o:=oi) am),WE (af.agree (YZ ap aq s.2)) C M _ (good i oi ah)]
  have ar:∀ n,oj.dst≠some n→oi.dst≠some n→gs (ce.on oi.dst (Zi s.1 oj.dst v) (Zd s.2 ax)).1 n=kill ce.gone (gs s.1 n):=fun n e1 e2=>by
   show gs (Zi (QN ce.gone (Zi s.1 oj.dst v)) oi.dst ce.eff.val) n=_;rw[Qb,Kf e2,Qt,Qb,Kf e1]
  obtain⟨c1,c2,c3,c4,c5⟩:=Zib (nt:=nt) hM av ah (Ne.symm a0) ao am ad ae ai hs ap a1 aj a7 h4 ar aa;have e0:gs (ce.on oi.dst (Zi s.1 oj.dst v) (Zd s.2 ax)).1 t=kill ce.gone v:=by
   show gs (Zi (QN ce.gone (Zi s.1 oj.dst v)) oi.dst ce.eff.val) t=_;rw[Qb,Kf,Qt,Qb,Ko ht];intro e;rw[ht,e] at an;simp[WK] at an
  have ag:kill ce.gone v=v:=by
   have h5:=aa.dst t ht;rw[e0] at h5;exact U3 h5
  have au:okV v=true:=by
   have h5:=aa.dst t ht;rw[e0,ag] at h5;exact h5
  refine⟨ce.on oi.dst s.1 s.2,?_,?_⟩
  ·simp only[Zs,ah,Zc,Zy,ay,Kl,XS];rw[a8,Zc,Ko h4]
  ·have ak:ZK (ce.on oi.dst s.1 s.2).1 oj.guard=ZK s.1 oj.guard:=by
    show ZK (Zi (QN ce.gone s.1) oi.dst ce.eff.val) oj.guard=_;rw[Qg ao];exact Zcv fun q _=>Qt _ _ _
   have al:(∀ k o,(k,o)∈ax→QU ce.gone o=o)∧Zy C M nx j false oj (ce.on oi.dst s.1 s.2)=some (Zi (ce.on oi.dst s.1 s.2).1 oj.dst v,Zd (ce.on oi.dst s.1 s.2).2 ax):=by
    rcases hX with ⟨g1,rfl,rfl⟩ | ⟨g1,cx,g2,g3,g4,rfl,rfl⟩
    ·exact⟨fun k o h=>by simp at h,XR (ak.trans g1)⟩
    ·obtain⟨e1,e2⟩:=Zqk a2 c2 c4 (fun k h6 h7=>(c5 k h6 h7).2.2.2) g3 g4 g2.frz au ag;exact⟨e2,Zcu (ak.trans g1) g2 e1 g4⟩
   obtain⟨e3,e4⟩:=al;refine⟨_,by rw[ab];exact e4,?_⟩;exact Zpe (ce:=ce) (dX:=oj.dst) (dY:=oi.dst) (v:=v) (ax:=ax) (s:=s) an c1 (fun k o ho=>by
    obtain⟨h6,h7⟩:=aq k o ho;obtain⟨m1,m2,m3,_⟩:=c5 k h6 h7;exact⟨m1,m2,m3⟩) e3 ag
theorem ZmN {C:Orc} {M:Zh} (hM:∀ f,M f 99=false) {os:List CO} {nx i j:Nat} {oi oj:CO} (ar:os[i]?=some oi) (ag:os[j]?=some oj) (ay:ZI os i=false) (az:i≠j) (au:Q4 oj oi=true)
  (ad:Qr oi.dst (looks oi)=true) (ae:Qr oj.dst (looks oj)=true)
  (ah:∀ (k:Nat) (o:CO),os[k]?=some o→∀ x∈Zr o.op,X0 x=true) {s s1 s2:Sl×Hp} {U:Nat→Prop} (hs:Zc0 nt s U) (av:QQ U (nx+64*i)) (a0:QQ U (nx+64*j))
  (ai:WU oj.op=true) (a1:ZeD oi.op=true) (ab:Zia s2.1 oi oj) {t:Nat} (ht:oi.dst=some t)
  (h1:Zs C M os nx j s=some s1) (h2:Zs C M os nx i s1=some s2):∃ t1,Zs C M os nx i s=some t1∧∃ t2,Zs C M os nx j t1=some t2∧Xa t2 s2:=by
 have a2:=hs;obtain⟨F,A,I,Γ,a,w,aj⟩:=a2;simp only[Q4,Kc] at au;obtain⟨⟨an,ao⟩,ak⟩:=au;have af : WK oi.dst oj.dst=true:=by
  cases hd:oi.dst<;>cases he:oj.dst<;>rw[hd,he] at ao<;>first | rfl | (simp only[WK,bne_iff_ne,ne_eq] at ao ⊢;exact fun e=>ao e.symm)
 have good:∀ (k:Nat) (o:CO),os[k]?=some o→∀ x∈Zr o.op,Zeg U (evO s.1 x):=by
  intro k o ho x hx;cases x with
  | t n=>exact aj.good n
  | v y=>exact Wh (ah k o ho _ hx)
  | f n=>exact⟨fun id a3=>by simp[evO,Zl,Zo] at a3,fun f a4 h c hc=>by cases h;simp at hc⟩
 have aa:∀ s:Sl×Hp,Zs C M os nx i s=Zy C M nx i false oi s:=fun s=>by simp only[Zs,ar,Zc,ay]
 rw[aa] at h2;simp only[Zs,ag,Zc] at h1;unfold Zy at h1;obtain⟨b,hw,h1⟩:=Za h1;cases b with
 | false=>
  simp only[Ka,Kn] at h1;cases h1;have al:ZK (Zi s.1 oj.dst (.tup [])) oi.guard=ZK s.1 oi.guard:=Qg an;rcases Zoc h2 with ⟨g1,g2⟩ | ⟨g1,ce,g2,g3,g4,g5⟩
  ·subst g2;refine⟨(Zi s.1 oi.dst (.tup []),s.2),by rw[aa];exact XR (al.symm.trans g1),(Zi (Zi s.1 oi.dst (.tup [])) oj.dst (.tup []),s.2),?_,fun t=>Vy af _ _ t,fun id=>rfl⟩;simp only[Zs,ag,Zc];exact XR (s:=(Zi s.1 oi.dst (.tup []),s.2)) ((Qg ak).trans hw)
  ·subst g5;refine⟨(Zi s.1 oi.dst ce.eff.val,Zd s.2 ce.eff.adds),?_,(Zi (Zi s.1 oi.dst ce.eff.val) oj.dst (.tup []),Zd s.2 ce.eff.adds),?_,fun t=>Vy af _ _ t,fun id=>rfl⟩
   ·rw[aa];refine Zcu (al.symm.trans g1) g2 ?_ g4;rw[← g3];exact(QO C M s.2 (nx+64*i) (YY (o:=oi) an)).symm
   ·simp only[Zs,ag,Zc];exact XR (s:=(Zi s.1 oi.dst ce.eff.val,Zd s.2 ce.eff.adds)) ((Qg ak).trans hw)
 | true=>
  simp only[Kl] at h1;obtain⟨ce,h3,h4,rfl⟩:=Q0 h1;have a5:vop C M s.1 s.2 (nx+64*j) oj.op=some ce:=Zaw h3;have al:ZK (ce.on oj.dst s.1 s.2).1 oi.guard=ZK s.1 oi.guard:=by
   show ZK (Zi (QN ce.gone s.1) oj.dst ce.eff.val) oi.guard=_;rw[Qg an];exact Zcv fun q _=>Qt _ _ _
  obtain⟨v,ax,a6,aw,hX⟩:∃ v ax,s2=(Zi (ce.on oj.dst s.1 s.2).1 oi.dst v,Zd (ce.on oj.dst s.1 s.2).2 ax)∧(∀ k x,(k,x)∈ax→nx+64*i≤k∧k<nx+64*i+64) ∧
    ((ZK s.1 oi.guard=some false∧v=.tup []∧ax=[])∨(ZK s.1 oi.guard=some true∧∃ cx,Zfs cx∧vop C M (ce.on oj.dst s.1 s.2).1 (ce.on oj.dst s.1 s.2).2 (nx+64*i) oi.op=some cx∧QD (nx+64*i) (nx+64*i+64) cx.eff.adds=true∧v=cx.eff.val∧ax=cx.eff.adds)):=by
   rcases Zoc h2 with ⟨g1,g2⟩ | ⟨g1,cx,g2,g3,g4,g5⟩
   ·exact⟨.tup [],[],g2,fun k x h=>by simp at h,.inl ⟨al.symm.trans g1,rfl,rfl⟩⟩
   ·exact⟨cx.eff.val,cx.eff.adds,g5,V5 g4,.inr ⟨al.symm.trans g1,cx,g2,g3,g4,rfl,rfl⟩⟩
  subst a6;have ap:∀ n,oi.dst≠some n→oj.dst≠some n→gs (Zi (ce.on oj.dst s.1 s.2).1 oi.dst v) n=kill ce.gone (gs s.1 n):=fun n e1 e2=>by
   rw[Qb,Kf e1];show gs (Zi (QN ce.gone s.1) oj.dst ce.eff.val) n=_;rw[Qb,Kf e2,Qt]
  obtain⟨c1,c2,c3,c4,c5⟩:=Zib (nt:=nt) hM ar ag az an ak ad ae ah hs av a0 ai a5 h4 ap ab;have aq:okV v=true:=by
   have h5:=ab.dst t ht;simp only[Qb,Ko ht] at h5;exact h5
  have am:kill ce.gone v=v∧(∀ k o,(k,o)∈ax→QU ce.gone o=o)∧Zy C M nx i false oi s=some (Zi s.1 oi.dst v,Zd s.2 ax):=by
   rcases hX with ⟨g1,rfl,rfl⟩ | ⟨g1,cx,g2,g3,g4,rfl,rfl⟩
   ·exact⟨rfl,fun k o h=>by simp at h,XR g1⟩
   ·obtain⟨e1,e2,e3⟩:=Zob a1 c2 c4 c3 (fun k h6 h7=>(c5 k h6 h7).2.2.2) g3 g4 g2.frz aq;exact⟨e2,e3,Zcu g1 g2 e1 g4⟩
  obtain⟨hk,e3,e4⟩:=am;refine⟨(Zi s.1 oi.dst v,Zd s.2 ax),by rw[aa];exact e4,ce.on oj.dst (Zi s.1 oi.dst v) (Zd s.2 ax),?_,?_⟩
  ·simp only[Zs,ag,Zc,Zy];have a7:ZK (Zi s.1 oi.dst v) oj.guard=some true:=(Qg ak).trans hw;simp only[a7,Zc,Kl,XS];have:YM C M nx j (ZI os j) oj.op (Zi s.1 oi.dst v) (Zd s.2 ax)=some ce:=by
    rw[← h3];unfold YM;rw[QO C M (Zd s.2 ax) (nx+64*j) (YY (o:=oj) ak),← WE (aj.agree (YZ av aw s.2)) C M _ (good j oj ag)]
   rw[this,Zc,Ko h4]
  ·exact(Zpe (ce:=ce) (dX:=oi.dst) (dY:=oj.dst) (v:=v) (ax:=ax) (s:=s) af c1 (fun k o ho=>by
    obtain⟨h6,h7⟩:=aw k o ho;obtain⟨m1,m2,m3,_⟩:=c5 k h6 h7;exact⟨m1,m2,m3⟩) e3 hk).symm
theorem ZaO {C:Orc} {M:Zh} {nx j:Nat} {oj:CO} {x:Opd} (hx:oj.op=.move x) {s:Sl×Hp} {b:Bool} (hw:ZK s.1 oj.guard=some b) :
  Zy C M nx j false oj s=some (Zi s.1 oj.dst (if b then evO s.1 x else .tup []),s.2):=by
 unfold Zy;rw[hw,Zc];cases b
 ·rfl
 ·simp only[Kl,hx,YM,Ka,Kn,vop];rfl
theorem Zn4 {C:Orc} {M:Zh} {os:List CO} {nx i j:Nat} {oi oj:CO} (af:os[i]?=some oi) (am:os[j]?=some oj) (an:ZI os j=false) (ai:Q4 oj oi=true)
  (ao:∀ (k:Nat) (o:CO),os[k]?=some o→∀ x∈Zr o.op,X0 x=true)
  {s s1 s2:Sl×Hp} (hm:X8 oj.op=true) {t:Nat} (ht:oj.dst=some t) (aj:okV (gs s2.1 t)=true)
  (h1:Zs C M os nx j s=some s1) (h2:Zs C M os nx i s1=some s2):∃ t1,Zs C M os nx i s=some t1∧∃ t2,Zs C M os nx j t1=some t2∧Xa t2 s2:=by
 obtain⟨x,hx⟩:∃ x,oj.op=.move x:=by
  cases ho:oj.op<;>rw[ho] at hm<;>first | (cases hm;done) | exact⟨_,rfl⟩
 simp only[Q4,Kc] at ai;obtain⟨⟨ak,ad⟩,ab⟩:=ai;have aa:∀ s:Sl×Hp,Zs C M os nx j s=Zy C M nx j false oj s:=fun s=>by simp only[Zs,am,Zc,an]
 rw[aa] at h1;obtain⟨bj,ag⟩:∃ bj,ZK s.1 oj.guard=some bj:=by
  unfold Zy at h1;obtain⟨b,hw,_⟩:=Za h1;exact⟨b,hw⟩
 rw[ZaO hx ag] at h1;have h1:=(Option.some.inj h1).symm;subst h1;simp only[Zs,af,Zc] at h2;unfold Zy at h2;obtain⟨b,hw,h2⟩:=Za h2;have al : ZK s.1 oi.guard=some b:=by rw[← hw];exact(Qg ak).symm
 have ap:oi.dst≠some t:=fun e=>by rw[ht,e] at ad;simp[WK] at ad
 have ae:∀ n,x=.t n→oi.dst≠some n:=fun n e h=>by
  rw[h] at ab;simp only[Qr,KR,KK,KV] at ab;exact ab (Kd.2 (.inl (by rw[hx,e];simp[Zr,Ui])))
 cases b with
 | false=>
  simp only[Ka,Kn] at h2;cases h2;refine⟨(Zi s.1 oi.dst (.tup []),s.2),by simp only[Zs,af,Zc];exact XR al,?_⟩;refine⟨_,by rw[aa];exact ZaO (s:=(Zi s.1 oi.dst (.tup []),s.2)) hx ((Qg ab).trans ag),?_⟩;have:evO (Zi s.1 oi.dst (.tup [])) x=evO s.1 x:=YY (o:=oj) ab x (by rw[hx];simp[Zr]);simp only[this];exact⟨fun t=>(Vy ad _ _ t).symm,fun id=>rfl⟩
 | true=>
  simp only[Kl] at h2;obtain⟨ce,h3,h4,rfl⟩:=Q0 h2;have aq : YM C M nx i (ZI os i) oi.op s.1 s.2=some ce:=by
   rw[← h3];unfold YM;rw[QO C M s.2 (nx+64*i) (YY (o:=oi) ak)]
  refine⟨ce.on oi.dst s.1 s.2,by simp only[Zs,af,Zc,Zy,al,Kl,XS];rw[aq,Zc,Ko h4],?_⟩;have ah:ZK (ce.on oi.dst s.1 s.2).1 oj.guard=some bj:=by
   show ZK (Zi (QN ce.gone s.1) oi.dst ce.eff.val) oj.guard=_;rw[Qg ab,← ag];exact Zcv fun q _=>Qt _ _ _
  refine⟨_,by rw[aa];exact ZaO hx ah,?_⟩;have e0:gs (ce.on oi.dst (Zi s.1 oj.dst (if bj then evO s.1 x else .tup [])) s.2).1 t=kill ce.gone (if bj then evO s.1 x else .tup []):=by
   show gs (Zi (QN ce.gone (Zi s.1 oj.dst _)) oi.dst ce.eff.val) t=_;rw[Qb,Kf ap,Qt,Qb,Ko ht]
  rw[e0] at aj;have hk:=U3 aj;have ev:(if bj then evO (ce.on oi.dst s.1 s.2).1 x else .tup [])=(if bj then evO s.1 x else .tup []):=by
   cases bj with
   | false=>rfl
   | true=>
    simp only[Kl] at hk ⊢;cases x with
    | t n=>
     show gs (Zi (QN ce.gone s.1) oi.dst ce.eff.val) n=gs s.1 n;rw[Qb,Kf (ae n rfl),Qt];exact hk
    | _=>rfl
  rw[ev];refine⟨fun q=>?_,fun id=>rfl⟩;show gs (Zi (Zi (QN ce.gone s.1) oi.dst ce.eff.val) oj.dst _) q=gs (Zi (QN ce.gone (Zi s.1 oj.dst _)) oi.dst ce.eff.val) q;simp only[Qb,Qt];by_cases hq:oj.dst=some q
  ·have:¬oi.dst=some q:=fun e=>by rw[hq,e] at ad;simp[WK] at ad
   simp only[hq,Kl,this,Kn];exact hk.symm
  ·simp[hq]
theorem Zn5 {C:Orc} {M:Zh} {os:List CO} {nx i j:Nat} {oi oj:CO} (am:os[i]?=some oi) (ag:os[j]?=some oj) (ar:ZI os i=false) (an:Q4 oj oi=true)
  (ah:∀ (k:Nat) (o:CO),os[k]?=some o→∀ x∈Zr o.op,X0 x=true)
  {s s1 s2:Sl×Hp} (hm:X8 oi.op=true) {t:Nat} (ht:oi.dst=some t) (ai:okV (gs s2.1 t)=true)
  (h1:Zs C M os nx j s=some s1) (h2:Zs C M os nx i s1=some s2):∃ t1,Zs C M os nx i s=some t1∧∃ t2,Zs C M os nx j t1=some t2∧Xa t2 s2:=by
 obtain⟨x,hx⟩:∃ x,oi.op=.move x:=by
  cases ho:oi.op<;>rw[ho] at hm<;>first | (cases hm;done) | exact⟨_,rfl⟩
 simp only[Q4,Kc] at an;obtain⟨⟨ad,aj⟩,ak⟩:=an;have aa:∀ s:Sl×Hp,Zs C M os nx i s=Zy C M nx i false oi s:=fun s=>by simp only[Zs,am,Zc,ar]
 rw[aa] at h2;simp only[Zs,ag,Zc] at h1;unfold Zy at h1;obtain⟨b,hw,h1⟩:=Za h1;have af:∀ n,x=.t n→oj.dst≠some n:=fun n e h=>by
  rw[h] at ad;simp only[Qr,KR,KK,KV] at ad;exact ad (Kd.2 (.inl (by rw[hx,e];simp[Zr,Ui])))
 have ao:∀ (bi:Bool) (e:evO s1.1 x=evO s.1 x∨bi=false) (g1:ZK s.1 oi.guard=some bi) (g2:ZK s1.1 oi.guard=some bi),s2=(Zi s1.1 oi.dst (if bi then evO s.1 x else .tup []),s1.2):=by
  intro bi e g1 g2;rw[ZaO hx g2] at h2;rw[← Option.some.inj h2];rcases e with e | e
  ·rw[e]
  ·rw[e];rfl
 cases b with
 | false=>
  simp only[Ka,Kn] at h1;cases h1;have ae:ZK (Zi s.1 oj.dst (.tup [])) oi.guard=ZK s.1 oi.guard:=Qg ad;obtain⟨bi,ab⟩:∃ bi,ZK s.1 oi.guard=some bi:=by
   unfold Zy at h2;obtain⟨b,hw,_⟩:=Za h2;exact⟨b,ae.symm.trans hw⟩
  have e:evO (Zi s.1 oj.dst (.tup [])) x=evO s.1 x:=YY (o:=oi) ad x (by rw[hx];simp[Zr]);have h5:=ao bi (.inl e) ab (ae.trans ab);subst h5;refine⟨_,by rw[aa];exact ZaO hx ab,(Zi (Zi s.1 oi.dst (if bi then evO s.1 x else .tup [])) oj.dst (.tup []),s.2),?_,fun t=>?_,fun id=>rfl⟩
  ·simp only[Zs,ag,Zc];exact XR (s:=(Zi s.1 oi.dst (if bi then evO s.1 x else .tup []),s.2)) ((Qg ak).trans hw)
  ·exact(Vy aj _ _ t).symm
 | true=>
  simp only[Kl] at h1;obtain⟨ce,h3,h4,rfl⟩:=Q0 h1;have ae:ZK (ce.on oj.dst s.1 s.2).1 oi.guard=ZK s.1 oi.guard:=by
   show ZK (Zi (QN ce.gone s.1) oj.dst ce.eff.val) oi.guard=_;rw[Qg ad];exact Zcv fun q _=>Qt _ _ _
  obtain⟨bi,ab⟩:∃ bi,ZK s.1 oi.guard=some bi:=by
   unfold Zy at h2;obtain⟨b,hw,_⟩:=Za h2;exact⟨b,ae.symm.trans hw⟩
  have ap:=h2;rw[ZaO hx (ae.trans ab)] at ap;have h6:=Option.some.inj ap;have hv:okV (if bi then evO (ce.on oj.dst s.1 s.2).1 x else .tup [])=true:=by
   rw[← h6] at ai;simp only[Qb,Ko ht] at ai;exact ai
  have aq:kill ce.gone (if bi then evO s.1 x else .tup [])=(if bi then evO s.1 x else .tup [])∧(evO (ce.on oj.dst s.1 s.2).1 x=evO s.1 x∨bi=false):=by
   cases bi with
   | false=>exact⟨rfl,.inr rfl⟩
   | true=>
    simp only[Kl] at hv ⊢;cases x with
    | t n=>
     have e:evO (ce.on oj.dst s.1 s.2).1 (.t n)=kill ce.gone (gs s.1 n):=by
      show gs (Zi (QN ce.gone s.1) oj.dst ce.eff.val) n=_;rw[Qb,Kf (af n rfl),Qt]
     rw[e] at hv ⊢;have:=U3 hv;exact⟨this,.inl this⟩
    | v c=>
     have hc:=ah i oi am (.v c) (by rw[hx];simp[Zr]);simp only[X0,Kc,List.isEmpty_iff] at hc;exact⟨Zpc hv fun id al=>by simp only[evO] at al;rw[hc.1] at al;simp at al,.inl rfl⟩
    | f n=>simp only[evO,okV,okC] at hv;cases hv
  have h5:=ao bi aq.2 ab (ae.trans ab);subst h5;refine⟨_,by rw[aa];exact ZaO hx ab,ce.on oj.dst (Zi s.1 oi.dst (if bi then evO s.1 x else .tup [])) s.2,?_,fun q=>?_,fun id=>rfl⟩
  ·simp only[Zs,ag,Zc,Zy];have au:ZK (Zi s.1 oi.dst (if bi then evO s.1 x else .tup [])) oj.guard=some true:=(Qg ak).trans hw;simp only[au,Zc,Kl,XS];have:YM C M nx j (ZI os j) oj.op (Zi s.1 oi.dst (if bi then evO s.1 x else .tup [])) s.2=some ce:=by
    rw[← h3];unfold YM;rw[QO C M s.2 (nx+64*j) (YY (o:=oj) ak)]
   rw[this,Zc,Ko h4]
  ·show gs (Zi (QN ce.gone (Zi s.1 oi.dst _)) oj.dst ce.eff.val) q=gs (Zi (Zi (QN ce.gone s.1) oj.dst ce.eff.val) oi.dst _) q;simp only[Qb,Qt];by_cases hq:oi.dst=some q
   ·have:¬oj.dst=some q:=fun e=>by rw[hq,e] at aj;simp[WK] at aj
    simp only[hq,Kl,this,Kn];exact aq.1
   ·simp[hq]
theorem Zpa {C:Orc} {M:Zh} (hM:∀ f,M f 99=false) (hC:Qf P C) {ops:Array Oper} {os:List CO} (a9:Qe (Zgs P nt ops.toList) ops.toList=some os) {nx i:Nat} {ks:List Nat} {oi:CO} (ab:os[i]?=some oi)
  (ad:∀ (k:Nat) (o:CO),os[k]?=some o→∀ x∈Zr o.op,X0 x=true) :
  ∀ (js:List Nat) {s r:Sl×Hp} {U:Nat→Prop},Zc0 nt s U→QQ U (nx+64*i)→(∀ j∈js,QQ U (nx+64*j))→(js++i :: ks).Pairwise (· < ·) →
   (∀ j∈js,∃ oj,os[j]?=some oj∧Q4 oj oi=true∧((ZI os j=false∧(ZI os i=true→Zor oi.op=true∨(ZiL oi.op=true∧(Y4 oj.op=true∨(Wq oj.op=true∧Uj os j=true∧Uj os i=true∧Zei r.1 oj.op oi.op=true)))∨(X8 oj.op=true∧Za5 oi.op=true)∨(X8 oj.op=true∧ZgX os j=true∧okD r.1 oj.dst=true) ∨
    (X8 oj.op=false∧WU oi.op=true∧ZiN oj.op=true∧Uj os j=true∧Uj os i=true∧ZgX os j=true∧VS r.1 oj.dst oj.op oi.op=true))) ∨
    (ZI os j=true∧ZI os i=false∧X8 oi.op=true∧ZgX os i=true∧okD r.1 oi.dst=true) ∨
    (ZI os j=true∧ZI os i=false∧X8 oi.op=false∧WU oj.op=true∧ZeD oi.op=true∧Uj os j=true∧Uj os i=true∧ZgX os i=true∧VS r.1 oi.dst oi.op oj.op=true))) →
   (∀ j∈js++i :: ks,j<os.length)→ZaN C M os nx (js++i :: ks) s=some r →
   ∃ s',Zs C M os nx i s=some s'∧∃ r',ZaN C M os nx (js++ks) s'=some r'∧Xa r' r
 | [],s,r,U,_,_,_,_,_,_,h=>by
  simp only[Lt,ZaN] at h ⊢;obtain⟨s',h1,h⟩:=Za h;exact⟨s',h1,r,h,Xa.refl r⟩
 | j :: js,s,r,U,hs,hfi,hfj,hsort,hj,hlt,h=>by
  have a1:=h;simp only[Kv,ZaN] at h;obtain⟨s1,h1,h⟩:=Za h;have a8:=hsort;simp only[Kv,LR] at hsort;have bk:j<i:=hsort.1 i (by simp);have a0:i≠j:=by omega
  have a':=ZnZ hC a9 hs (hfj j (by simp)) h1;have ba:∀ k∈js,k≠j:=fun k hk e=>by
   have:=hsort.1 k (by simp[hk]);omega
  obtain⟨s2,h2,r2,h3,h4⟩:=Zpa hM hC a9 ab ad js a' (Zj7 a0 hfi) (fun k hk=>Zj7 (ba k hk) (hfj k (by simp[hk]))) hsort.2 (fun k hk=>hj k (by simp[hk])) (fun k hk=>hlt k (by simp only[Kv,Ke];exact .inr hk)) h;obtain⟨oj,ae,au,a2⟩:=hj j (by simp);have aa:∀ {k q n:Nat} {o:CO},Uj os k=true→os[k]?=some o→k≤q→q<os.length→n∈looks o→Qr (V2 os q) [n]=true:=by
   intro k q n o am ho bl hq hn;have:=Kx.1 am q (Lo.2 hq);simp only[ZlN,ho,Lv,Kk] at this;rcases this with h | h
   ·omega
   ·cases hd:V2 os q with
    | none=>rfl
    | some d=>
     rw[hd] at h;simp only[Qr,KR,KK,KV] at h ⊢;intro e;simp at e;exact h (e ▸ hn)
  have af:∀ {k:Nat} {o:CO},Uj os k=true→os[k]?=some o→Qr o.dst (looks o)=true:=by
   intro k o am ho;have hk:k<os.length:=(Kb.1 ho).1;have:=Kx.1 am k (Lo.2 hk);simp only[ZlN,V2,ho,Lv,Kk] at this;rcases this with h | h
   ·omega
   ·exact h
  have ag:∀ {k q t:Nat} {o:CO},ZgX os k=true→os[k]?=some o→o.dst=some t→q≠k→q<os.length→Qr (V2 os q) [t]=true:=by
   intro k q t o hl ho ht bb hq;simp only[ZgX,Kc] at hl;have:=Kx.1 hl.2 q (Lo.2 hq);simp only[Lv,beq_iff_eq,V2,ho,ht] at this;rcases this with h | h
   ·exact absurd h bb
   ·simp only[V2];cases a3:os[q]? with
    | none=>rfl
    | some oq=>
     rw[a3] at h;simp only at h ⊢;cases hd:oq.dst with
     | none=>rfl
     | some d=>
      rw[hd] at h;simp only[WK,bne_iff_ne,ne_eq] at h;simp only[Qr,KR,KK,KV,Kz];exact h
  have ah:∀ {k:Nat} {o:CO},ZgX os k=true→os[k]?=some o→∃ t,o.dst=some t:=by
   intro k o hl ho;simp only[ZgX,V2,ho,Kc] at hl;cases hd:o.dst with
   | none=>rw[hd] at hl;cases hl.1
   | some t=>exact⟨t,rfl⟩
  have av:∀ n,(∀ q∈js++ks,Qr (V2 os q) [n]=true)→okV (gs r.1 n)=true→gs s2.1 n=gs r.1 n:=by
   intro n hn ho;rw[← h4.1 n] at ho ⊢;exact ZrL h3 hn ho
  have ak:∀ q∈js++ks,q≠i∧j<q∧q<os.length:=by
   intro q hq;refine⟨?_,?_,hlt q ?_⟩
   ·rcases Kd.1 hq with hq | hq
    ·have:=(LK.1 hsort.2).2.2 q hq i (by simp);omega
    ·have:=(LR.1 (LK.1 hsort.2).2.1).1 q hq;omega
   ·rcases Kd.1 hq with hq | hq
    ·exact hsort.1 q (by simp[hq])
    ·exact hsort.1 q (by simp[hq])
   ·rcases Kd.1 hq with hq | hq<;>simp[hq]
  have an:Uj os j=true→∀ n∈looks oj,∀ q∈js++ks,Qr (V2 os q) [n]=true:=fun am n hn q hq=>by
   obtain⟨_,h6,h7⟩:=ak q hq;exact aa am ae (by omega) h7 hn
  have ao:Uj os i=true→∀ n∈looks oi,∀ q∈js++ks,Qr (V2 os q) [n]=true:=fun am n hn q hq=>by
   obtain⟨_,h6,h7⟩:=ak q hq;rcases Kd.1 hq with hq | hq
   ·obtain⟨oq,a3,ap,_⟩:=hj q (by simp[hq]);simp only[Q4,Kc] at ap;have h5:=ap.1.1;simp only[V2,a3];cases hd:oq.dst with
    | none=>rfl
    | some d=>
     rw[hd] at h5;simp only[Qr,KR,KK,KV] at h5 ⊢;intro e;simp at e;exact h5 (e ▸ hn)
   ·have:=(LR.1 (LK.1 hsort.2).2.1).1 q hq;exact aa am ab (by omega) h7 hn
  have ai:∀ {o:CO} {n:Nat},n∈(Zr o.op).flatMap Ui→n∈looks o:=fun h=>Kd.2 (.inl h);have aj:∀ {o:CO} {n:Nat},n∈(ZfF o.op).flatMap Ui→n∈looks o:=fun {o n} h=>by
   refine Kd.2 (.inl ?_);cases ho:o.op<;>rw[ho] at h<;>simp only[ZfF,List.flatMap_nil,KI] at h
   simp only[Zr,Kw,Kd];exact .inr h
  have a4:∃ t1,Zs C M os nx i s=some t1∧∃ t2,Zs C M os nx j t1=some t2∧Xa t2 s2:=by
   rcases a2 with ⟨aw,ay⟩ | ⟨aw,az,k1,k5,k6⟩ | ⟨aw,az,k0,k1,k2,k3,k4,k5,k6⟩
   case inr.inl=>
    obtain⟨t,ht⟩:=ah k5 ab;refine Zn5 ab ae az au ad k1 ht ?_ h1 h2;rw[ht] at k6;simp only[okD] at k6;rw[av t (fun q hq=>?_) k6]
    ·exact k6
    ·obtain⟨h5,_,h7⟩:=ak q hq;exact ag k5 ab ht h5 h7
   case inr.inr=>
    obtain⟨t,ht⟩:=ah k5 ab;refine ZmN hM ab ae az a0 au (af k4 ab) (af k3 ae) ad hs hfi (hfj j (by simp)) k1 k2 ?_ ht h1 h2;refine(ZmM k0 k1 k6).move (fun n hn=>av n (ao k4 n (ai hn))) (fun n hn=>av n fun q hq=>?_) (fun n hn=>av n (an k3 n (aj hn)));obtain⟨h5,_,h7⟩:=ak q hq;exact ag k5 ab hn h5 h7
   cases az:ZI os i with
   | false=>exact Zp6 ab ae az aw a0 au ad hs hfi (hfj j (by simp)) h1 h2
   | true=>
    rcases ay az with hc | ⟨am,hl⟩ | ⟨bc,bd⟩ | ⟨k1,k5,k6⟩ | ⟨k0,k1,k2,k3,k4,k5,k6⟩
    case inr.inr.inr.inl=>
     obtain⟨t,ht⟩:=ah k5 ae;refine Zn4 ab ae aw au ad k1 ht ?_ h1 h2;rw[ht] at k6;simp only[okD] at k6;rw[av t (fun q hq=>?_) k6]
     ·exact k6
     ·obtain⟨_,h6,h7⟩:=ak q hq;exact ag k5 ae ht (by omega) h7
    case inr.inr.inr.inr=>
     obtain⟨t,ht⟩:=ah k5 ae;refine Zn3 hM ab ae aw a0 au (af k3 ae) (af k4 ab) ad hs hfi (hfj j (by simp)) k1 k2 ?_ ht h1 h2;refine(ZmM k0 k1 k6).move (fun n hn=>av n (an k3 n (ai hn))) (fun n hn=>av n fun q hq=>?_) (fun n hn=>av n (ao k4 n (aj hn)));obtain⟨_,h6,h7⟩:=ak q hq;exact ag k5 ae hn (by omega) h7
    ·exact Zqa ab ae hc aw a0 au ad hs hfi (hfj j (by simp)) h1 h2
    ·refine Zn2 ab ae az aw a0 au ad hs hfi (hfj j (by simp)) ⟨am,?_⟩ h1 h2;rcases hl with hl | ⟨be,bf,bg,al⟩
     ·exact .inl hl
     ·refine .inr ⟨be,?_⟩;have a5:∀ x∈Zr oi.op,okW (evO r.1 x)=true→evO s.1 x=evO r.1 x:=by
       intro x hx ax;cases x with
       | v a=>rfl
       | f n=>rfl
       | t n=>
        simp only[evO] at ax ⊢;have hn:n∈looks oi:=by
         rw[looks];exact Kd.2 (.inl (Kq.2 ⟨.t n,hx,Kz.2 rfl⟩))
        refine Zll a1 (fun q hq=>?_) ax;rcases Kd.1 hq with hq | hq
        ·obtain⟨oq,a3,ap,_⟩:=hj q hq;simp only[Q4,Kc] at ap;have h5:=ap.1.1;simp only[V2,a3];cases hd:oq.dst with
         | none=>rfl
         | some d=>
          rw[hd] at h5;simp only[Qr,KR,KK,KV] at h5 ⊢;intro e;simp at e;exact h5 (e ▸ hn)
        ·refine aa bg ab ?_ (hlt q (Kd.2 (.inr hq))) hn;rcases Ke.1 hq with rfl | hq
         ·omega
         ·have:=LK.1 hsort.2;have:=(LR.1 this.2.1).1 q hq;omega
      have a7:∀ id,Qy r.1 id (Zr oj.op)=true→Qy s.1 id (Zr oj.op)=true:=by
       intro id bh;have bi:∀ xs:List Opd,(∀ z∈xs,z∈Zr oj.op)→Qy r.1 id xs=true→Qy s.1 id xs=true:=by
        intro xs
        induction xs with
        | nil=>intro _ _;rfl
        | cons z zs ihz=>
         intro a6 hz;simp only[Qy,Kc] at hz ⊢;refine⟨?_,ihz (fun z' bj=>a6 z' (by simp[bj])) hz.2⟩;cases z with
         | v a=>exact hz.1
         | f n=>exact hz.1
         | t n=>
          simp only[evO] at hz ⊢;have hn:n∈looks oj:=by
           rw[looks];exact Kd.2 (.inl (Kq.2 ⟨.t n,a6 (.t n) (KX ..),Kz.2 rfl⟩))
          rw[ZrL a1 (fun q hq=>?_) (ZsP hz.1)]
          ·exact hz.1
          ·refine aa bf ae ?_ (hlt q hq) hn;rcases Kd.1 hq with hq | hq
           ·rcases Ke.1 hq with rfl | hq
            ·omega
            ·have:=hsort.1 q (by simp[hq]);omega
           ·have:=hsort.1 q (by simp only[Kd];exact .inr hq);omega
       exact bi _ (fun _ h=>h) bh
      cases ho:oi.op<;>rw[ho] at am al<;>first | (cases am;done) | skip
      case store slc sz x y=>
       simp only[Zei,Kc] at al ⊢;obtain⟨al,ar⟩:=al;have ax:okV (evO r.1 x)=true:=by
        cases ht:Ys (evO r.1 x) with
        | none=>rw[ht] at al;simp[Za7] at al
        | some id=>cases hv:evO r.1 x<;>rw[hv] at ht<;>simp only[Ys] at ht<;>first | (cases ht;done) | rfl
       rw[a5 x (by rw[ho];simp[Zr]) (Zg5 ax)];constructor
       ·cases ht:Ys (evO r.1 x) with
        | none=>rw[ht] at al;simp[Za7] at al
        | some id=>rw[ht] at al;exact a7 id al
       ·by_cases hp:∃ b1 b2 b3 b4,evO r.1 x=.prow b1 b2 b3 b4
        ·obtain⟨b1,b2,b3,b4,hp⟩:=hp;rw[hp] at ar ⊢;rcases Zgc ar with ⟨d,hv⟩ | hv
         ·rw[a5 y (by rw[ho];simp[Zr]) (by rw[hv];rfl),hv];rfl
         ·rw[a5 y (by rw[ho];simp[Zr]) (Zg5 hv.1)];exact Zp9 ⟨hv.1,Zh6 a7 hv.2⟩
        ·exact Zlm fun b1 b2 b3 b4 e=>hp ⟨b1,b2,b3,b4,e⟩
      case append sz by_ str flat x y=>
       simp only[Zei,Kc,Lv] at al ⊢;obtain⟨ar,aq⟩:=al;constructor
       ·have ax:okW (evO r.1 x)=true:=by
         cases hv:evO r.1 x<;>rw[hv] at ar<;>first | rfl | (cases ar;done) | skip
         case tup vs=>cases vs<;>first | rfl | cases ar
        rw[a5 x (by rw[ho];simp[Zr]) ax];cases hv:evO r.1 x<;>rw[hv] at ar<;>first | (cases ar;done) | exact a7 _ ar | skip
        ·rfl
        case tup vs=>cases vs<;>first | rfl | cases ar
       ·rcases aq with aq | aq
        ·exact .inl aq
        ·right
         have ax:okW (evO r.1 y)=true:=by
          unfold seenSrc at aq;split at aq
          ·rename_i k hk;rw[hk];rfl
          ·exact Zg5 aq
         rw[a5 y (by rw[ho];simp[Zr]) ax];unfold seenSrc at aq ⊢;split at aq
         ·exact a7 _ aq
         ·exact aq
    ·exact Zqc ab ae aw au bc bd h1 h2
  obtain⟨t1,g1,t2,g2,g3⟩:=a4;obtain⟨r3,g4,g5⟩:=Zh3 g3.symm h3;refine⟨t1,g1,r3,?_,g5.symm.trans h4⟩;simp only[Kv,ZaN,g2,Zc];exact g4
def rem (n:Nat) (listed:Array Bool):List Nat:=(List.range n).filter fun i=>!listed.getD i true
theorem Zct {n:Nat} {aa:Array Bool} {i:Nat}:i∈rem n aa↔i<n∧aa.getD i true=false:=by
 simp[rem]
theorem Zic (n:Nat) (aa:Array Bool):(rem n aa).Pairwise (· < ·):=List.Pairwise.filter _ List.pairwise_lt_range
theorem ZsS {n:Nat} {aa:Array Bool} (ad:aa.size=n) (i:Nat):rem n (aa.setIfInBounds i true)=(rem n aa).filter fun j=>j != i:=by
 simp only[rem,List.filter_filter];refine List.filter_congr fun j hj=>?_;have ae:j<n:=Lo.1 hj;by_cases ab:i=j
 ·subst ab;simp[ad,ae]
 ·simp[Array.getElem?_setIfInBounds_ne ab,Ne.symm ab]
def Zka (nx:Nat) (listed:Array Bool) (id:Nat):Prop:=id<nx∨∃ k,listed.getD k false=true∧nx+64*k≤id∧id<nx+64*k+64
theorem VG {l:Array Bool} {k:Nat} (h:l.getD k false=true):k<l.size∧l.getD k true=true:=by
 rcases KQ k l.size with h1 | h1
 ·refine⟨h1,?_⟩;simp[h1] at h ⊢;exact h
 ·simp[Array.getElem?_eq_none h1] at h
theorem Zid {nx i:Nat} {aa:Array Bool} (h:aa.getD i true=false):QQ (Zka nx aa) (nx+64*i):=by
 intro id h1 h2 hu;rcases hu with hu | ⟨k,hk,h3,h4⟩
 ·omega
 ·have ab:k≠i:=fun e=>by subst e;rw[(VG hk).2] at h;cases h
  rcases LB ab with h5 | h5<;>omega
theorem Zie {nx i:Nat} {aa:Array Bool} (hi:i<aa.size):∀ id,Wv (Zka nx aa) (nx+64*i) id→Zka nx (aa.setIfInBounds i true) id:=by
 rintro id ((h | ⟨k,hk,h1⟩) | h)
 ·exact .inl h
 ·exact .inr ⟨k,getD_set_true hk,h1⟩
 ·exact .inr ⟨i,by simp[hi],h.1,h.2⟩
end
end Go.Abs
