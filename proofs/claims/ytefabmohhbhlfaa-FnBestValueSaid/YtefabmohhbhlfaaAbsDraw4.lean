/- Own text. -/
import Derived.Test.YtefabmohhbhlfaaAbsDrawD
set_option linter.unusedVariables false
set_option linter.unusedSimpArgs false
namespace Go.Abs
open Go
section
variable {P:Program} {nt:Nat}
theorem ZcF {α β:Type} {f:α→Option β}:∀ {l:List α} {r:List β},Z7 f l=some r→∀ (i:Nat) (x:α),l[i]?=some x→∃ y,r[i]?=some y∧f x=some y
 | [],r,h,i,x,hx=>by simp at hx
 | a :: l,r,h,i,x,hx=>by
  simp only[Z7] at h;obtain⟨y,h1,h⟩:=Za h;obtain⟨ys,h2,h⟩:=Za h;cases h;cases i with
  | zero=>simp at hx;subst hx;exact⟨y,by simp,h1⟩
  | succ i=>simp at hx;obtain⟨z,h3,h4⟩:=ZcF h2 i x hx;exact⟨z,by simpa using h3,h4⟩
theorem UK {α β:Type} {f:α→Option β}:∀ {l:List α} {r:List β},Z7 f l=some r→r.length=l.length
 | [],r,h=>by simp only[Z7] at h;cases h;rfl
 | a :: l,r,h=>by
  simp only[Z7] at h;obtain⟨y,h1,h⟩:=Za h;obtain⟨ys,h2,h⟩:=Za h;cases h;simp[UK h2]
theorem ZlH {C:Orc} {M:Zg} (hC:Qc P C) {ops:Array Oper} {os:List CO} (ad:Z7 (ZeJ P nt ops.toList) ops.toList=some os) {nx i:Nat} {s s' : Sl×Hp} {U:Nat→Prop} (hs:ZbK nt s U) (hf:Qw U (nx+64*i))
  (h:Zv C M os nx i s=some s'):ZbK nt s' (VI U (nx+64*i)):=by
 obtain⟨F,A,I,Γ,a,w,aa⟩:=hs;unfold Zv at h;obtain⟨co,ae,h⟩:=Za h;have ag:i<ops.toList.length:=by rw[← UK ad];exact(Kd.1 ae).1
 obtain⟨am,h1,h2⟩:=ZcF ad i ops.toList[i] (Kx ag);rw[ae] at h1;cases h1;obtain⟨hg,ah,ab,af⟩:=J8 h2;unfold ZA at h;obtain⟨b,hw,h⟩:=Za h;cases b with
 | true=>
  simp only[Kl] at h;obtain⟨ce,ai,aj,rfl⟩:=QG h;have ak:=ZlB hC aa ah hf ab aj (Jv ai) (fun a' w'=>∃ F A I Γ a w,Sim nt F A I Γ (VI U (nx+64*i)) (ce.on co.dst s.1 s.2).1 (ce.on co.dst s.1 s.2).2 a w) (fun _ _ _=>False) fun u w' hp=>by
   obtain⟨I1,Γ1,b1,b2,b3,b4,b5⟩:=hp;rw[← af] at b5;exact⟨F,A,I1,Γ1,_,_,b5⟩
  obtain⟨_,_,al⟩:=Oper.wp_ex ak;exact al
 | false=>
  simp only[Ka,Kj] at h;cases h;obtain⟨I1,Γ1,b1,b2,b3,b4,b5⟩:=aa.pure (U':=VI U (nx+64*i)) (v:=.tup []) (u:=undef) (dst:=co.dst) (fun id hu=>.inl hu) Zd3 (by rw[af];exact ab);exact⟨F,A,I1,Γ1,_,_,b5⟩
theorem Ziq {U:Nat→Prop} {nx i j:Nat} (aa:i≠j) (h:Qw U (nx+64*i)):Qw (VI U (nx+64*j)) (nx+64*i):=by
 intro id h1 h2 hu;rcases hu with hu | hu
 ·exact h id h1 h2 hu
 ·rcases LB aa with h3 | h3<;>omega
theorem Zqb {id:Nat} {v:AV} (h:Ul id v=true):okV v=true:=by
 cases v with
 | tup vs=>cases vs with
  | nil=>rfl
  | cons x r=>cases h
 | _=>first | rfl | cases h
def okW (v:AV):Bool:=okV v
theorem Zfg {v:AV} (h:okV v=true):okW v=true:=h
theorem ZoM {g:List Nat} {v:AV} (h:okW (kill g v)=true):kill g v=v:=W6 h
theorem Zqc {C:Orc} {M:Zg} {os:List CO} {nx q n:Nat} {s r:Sl×Hp} (h:Zv C M os nx q s=some r) (hd:Qd (Vj os q) [n]=true) (hk:okW (gs r.1 n)=true):gs s.1 n=gs r.1 n:=by
 unfold Zv at h;obtain⟨o,ho,h⟩:=Za h;have aa:o.dst≠some n:=by
  intro e;simp[Vj,ho,e,Qd] at hd
 unfold ZA at h;obtain⟨b,_,h⟩:=Za h;cases b with
 | true=>
  simp only[Kl] at h;obtain⟨ce,_,_,rfl⟩:=QG h;have e1:gs (ce.on o.dst s.1 s.2).1 n=kill ce.gone (gs s.1 n):=by
   show gs (Zi (Qx ce.gone s.1) o.dst ce.eff.val) n=_;rw[Z5,Kp aa,Qe]
  rw[e1] at hk ⊢;exact(ZoM hk).symm
 | false=>
  simp only[Ka,Kj] at h;cases h;show gs s.1 n=gs (Zi s.1 o.dst (.tup [])) n;rw[Z5,Kp aa]
theorem Zjw {C:Orc} {M:Zg} {os:List CO} {nx n:Nat}:∀ {l:List Nat} {s r:Sl×Hp},JH C M os nx l s=some r→(∀ q∈l,Qd (Vj os q) [n]=true)→okW (gs r.1 n)=true→gs s.1 n=gs r.1 n
 | [],s,r,h,_,_=>by simp only[JH] at h;cases h;rfl
 | i :: l,s,r,h,hd,hk=>by
  simp only[JH] at h;obtain⟨s1,h1,h⟩:=Za h;have h2:=Zjw h (fun q hq=>hd q (by simp[hq])) hk;rw[← h2] at hk ⊢;exact Zqc h1 (hd i (by simp)) hk
theorem ZoN {C:Orc} {M:Zg} {os:List CO} {nx n:Nat} {l:List Nat} {s r:Sl×Hp} (h:JH C M os nx l s=some r) (hd:∀ q∈l,Qd (Vj os q) [n]=true) (hk:okV (gs r.1 n)=true):gs s.1 n=gs r.1 n:=Zjw h hd (Zfg hk)
theorem ZlI {C:Orc} {M:Zg} {sl:Sl} {hp:Hp} {base:Nat} {c:COp} {ce:Zb} (hc:Zma c=true) (h:vop C M sl hp base c=some ce):Un (vop C M sl hp base c)=some ce:=by
 rw[h];have aa:ce.gone=[]∧ce.eff.sets=[]∧ce.eff.dels=[]∧ce.eff.frz=[]:=by
  have o1:∀ {v:AV},Qg v=some ce→ce.gone=[]∧ce.eff.sets=[]∧ce.eff.dels=[]∧ce.eff.frz=[]:=fun h=>by cases h;exact⟨rfl,rfl,rfl,rfl⟩
  have o2:∀ {v:Option AV},Yj v=some ce→ce.gone=[]∧ce.eff.sets=[]∧ce.eff.dels=[]∧ce.eff.frz=[]:=fun h=>by obtain⟨v,_,h⟩:=Za h;exact o1 h
  cases c<;>simp only[Zma,Ka] at hc<;>simp only[vop] at h
  case stuck=>cases h
  case move x=>exact o1 h
  case assign s x=>
   unfold JQ at h;split at h
   ·obtain⟨s,_,h⟩:=Za h;cases h;exact⟨rfl,rfl,rfl,rfl⟩
   ·exact o1 h
  case pick c a b=>
   unfold ZaH at h;split at h
   ·split at h<;>exact o1 h
   ·cases h
  case alloc slc cs=>
   unfold ZaI Zgd at h;split at h
   ·split at h<;>first | (cases h;done) | (cases h;exact⟨rfl,rfl,rfl,rfl⟩)
   ·split at h<;>(cases h;exact⟨rfl,rfl,rfl,rfl⟩)
  case box x=>
   unfold ZnZ at h;split at h
   ·cases h;exact⟨rfl,rfl,rfl,rfl⟩
   ·cases h
  case build zs ps=>obtain⟨cs,_,h⟩:=Za h;exact o1 h
  case load g s a=>exact o2 h
  case nilCheck x=>unfold Wc at h;split at h<;>first | exact o1 h | cases h
  case bin op eq x y=>
   unfold ZhX at h;split at h
   ·split at h
    ·exact o2 h
    ·cases h
   ·exact o2 h
  case un op x=>exact o2 h
  case eqA neg n x y=>
   unfold ZjM at h;split at h
   ·obtain⟨r,_,h⟩:=Za h;exact o1 h
   ·cases h
  case convI k x=>unfold Go.Abs.convI at h;split at h<;>first | exact o1 h | cases h
  case convS x=>unfold Go.Abs.convS at h;split at h<;>first | exact o1 h | cases h
  case fn f cs=>exact o2 h
  case make s b z l c=>
   obtain⟨l,_,h⟩:=Za h;obtain⟨c,_,h⟩:=Za h;unfold ZiI at h;split at h
   ·cases h;exact⟨rfl,rfl,rfl,rfl⟩
   ·cases h
  case slice s x lo hi=>exact o2 h
  case sliceS x lo hi=>exact o2 h
  case slice0 x hi mx=>exact o2 h
  case slice3 s x lo hi mx=>exact o2 h
  case shift off x=>unfold Ys at h;split at h<;>first | exact o1 h | cases h
  case part g s off x=>exact o2 h
  case iaS s x i=>
   obtain⟨n,_,h⟩:=Za h;unfold ZbT at h;split at h
   ·exact o2 h
   ·cases h
  case iaA len s x i=>
   obtain⟨n,_,h⟩:=Za h;unfold Zgg at h;split at h
   ·unfold Ys at h;split at h<;>first | exact o1 h | cases h
   ·cases h
  case ixS x i=>
   obtain⟨n,_,h⟩:=Za h;unfold ZlW at h;split at h
   ·unfold ZkV at h;split at h
    ·obtain⟨b,_,h⟩:=Za h;exact o1 h
    ·cases h
   ·cases h
  case ixA g s len x i=>
   obtain⟨n,_,h⟩:=Za h;unfold Zn0 at h;split at h
   ·exact o2 h
   ·cases h
  case nth i x=>unfold ZkW at h;split at h<;>first | exact o2 h | cases h
  case len x=>obtain⟨n,_,h⟩:=Za h;exact o1 h
  case lenS x=>obtain⟨n,_,h⟩:=Za h;exact o1 h
  case min x y=>unfold ZeG at h;split at h<;>first | (split at h<;>first | exact o1 h | cases h) | cases h
  case max x y=>unfold ZeH at h;split at h<;>first | (split at h<;>first | exact o1 h | cases h) | cases h
 simp only[Un,Zc,aa.1,aa.2.1,aa.2.2.1,aa.2.2.2,J2]
theorem Znz {C:Orc} {M:Zg} {nx i:Nat} {o:CO} (hc:Zma o.op=true) (s:Sl×Hp):ZA C M nx i true o s=ZA C M nx i false o s:=by
 unfold ZA;have:Yk C M nx i true o.op s.1 s.2=Yk C M nx i false o.op s.1 s.2:=by
  unfold Yk;simp only[Kl,Ka,Kj];cases h:vop C M s.1 s.2 (nx+64*i) o.op with
  | none=>rfl
  | some ce=>rw[← h,ZlI hc h,h]
 rw[this]
theorem vop_read {C:Orc} {M:Zg} {sl:Sl} {hp hp' : Hp} {base:Nat} {c:COp} (hc:VJ c=true) (h:∀ x∈Zr c,∀ k∈Zm (evO sl x),lkp hp k=lkp hp' k):vop C M sl hp base c=vop C M sl hp' base c:=by
 have len:∀ v:AV,(∀ k∈Zm v,lkp hp k=lkp hp' k)→UV hp v=UV hp' v:=fun v hv=>by
  cases v<;>simp only[UV]
  case d x=>cases x<;>rfl
  case own id=>rw[hv id (by simp[Zm,Zn,Zf])]
 cases c<;>simp only[VJ,Ka] at hc<;>simp only[Zr] at h<;>simp only[vop]
 case load g s a=>
  have:=h a (by simp);cases hv:evO sl a<;>rw[hv] at this<;>simp only[YV]
  case ptr id off=>rw[this id (by simp[Zm,Zn,Zf])]
  case prow id sz i off=>rw[this id (by simp[Zm,Zn,Zf])]
 case slice s x lo hi=>
  have:=h x (by simp);cases hv:evO sl x<;>rw[hv] at this<;>simp only[X4]
  case d x=>cases x<;>rfl
  case own id=>rw[this id (by simp[Zm,Zn,Zf])]
  case ownv id off n=>rw[this id (by simp[Zm,Zn,Zf])]
 case slice0 x hi mx=>
  unfold slice0;rw[len _ (h x (by simp))]
 case iaS s x i=>
  congr 1
  funext n
  simp only[ZbT];have:=h x (by simp);cases hv:evO sl x<;>rw[hv] at this<;>simp only[Z9]
  case d x=>cases x<;>rfl
  case own id=>rw[this id (by simp[Zm,Zn,Zf])]
  case ownv id off n=>rw[this id (by simp[Zm,Zn,Zf])]
 case len x=>rw[len _ (h x (by simp))]
theorem Zir {A B:Hp} (hd:∀ k x y,(k,x)∈A→(k,y)∈B→False) (hp:Hp) (id:Nat):lkp (Zd (Zd hp A) B) id=lkp (Zd (Zd hp B) A) id:=by
 have aa:∀ (l:Hp) (hp hp' : Hp),lkp hp id=lkp hp' id→lkp (Zd hp l) id=lkp (Zd hp' l) id:=by
  intro l
  induction l with
  | nil=>intro hp hp' h;exact h
  | cons q r ih=>
   intro hp hp' h;obtain⟨k,x⟩:=q;simp only[Zd];exact ih _ _ (by rw[ZS,ZS,h])
 by_cases h1:∃ o,(id,o)∈A
 ·have h2:∀ o,(id,o)∉B:=fun o ho=>by
   obtain⟨o',ab⟩:=h1;exact hd id o' o ab ho
  rw[Zq B _ id h2];exact aa A _ _ (Zq B hp id h2).symm
 ·have h2:∀ o,(id,o)∉A:=fun o ho=>h1 ⟨o,ho⟩;rw[Zq A _ id h2];exact aa B _ _ (Zq A hp id h2)
theorem Zkx {hp:Hp} {v:AV} {q:D×Bool×List Nat} (h:WP hp v=some q):∀ i∈q.2.2,i∈Zf v:=by
 intro i hi;cases v<;>simp only[WP] at h<;>first | (cases h;simp at hi;done) | (cases h;done) | skip
 obtain⟨p,_,h⟩:=Za h;cases h;simpa [Zf] using hi
theorem Zep {hp:Hp}:∀ {vs:List AV} {q:List D×Bool×List Nat},X7 hp vs=some q→∀ i∈q.2.2,i∈vs.flatMap Zf
 | [],q,h,i,hi=>by simp only[X7] at h;cases h;simp at hi
 | v :: vs,q,h,i,hi=>by
  simp only[X7] at h;obtain⟨q1,h1,h⟩:=Za h;obtain⟨q2,h2,h⟩:=Za h;split at h
  ·cases h;rcases Kc.1 hi with hi | hi
   ·exact Kr.2 ⟨v,by simp,Zkx h1 i hi⟩
   ·obtain⟨c,hc,aa⟩:=Kr.1 (Zep h2 i hi);exact Kr.2 ⟨c,by simp[hc],aa⟩
  ·cases h
theorem Zky {hp:Hp} {n:Nat} {v:AV} {q:D×List Nat} (h:ZaC hp n v=some q):∀ i∈q.2,i∈Zf v:=by
 unfold ZaC at h;split at h
 ·split at h
  ·cases h;simp
  ·cases h
 ·cases h;simp
 ·unfold Zbl at h;split at h
  ·split at h
   ·cases h;simp[Zf]
   ·cases h
  ·split at h
   ·cases h;simp[Zf]
   ·cases h
  ·cases h
 ·cases h
theorem Zeq {hp:Hp} {n:Nat}:∀ {vs:List AV} {q:List D×List Nat},Yc hp n vs=some q→∀ i∈q.2,i∈vs.flatMap Zf
 | [],q,h,i,hi=>by simp only[Yc] at h;cases h;simp at hi
 | v :: vs,q,h,i,hi=>by
  simp only[Yc] at h;obtain⟨q1,h1,h⟩:=Za h;obtain⟨q2,h2,h⟩:=Za h;split at h
  ·cases h;rcases Kc.1 hi with hi | hi
   ·exact Kr.2 ⟨v,by simp,Zky h1 i hi⟩
   ·obtain⟨c,hc,aa⟩:=Kr.1 (Zeq h2 i hi);exact Kr.2 ⟨c,by simp[hc],aa⟩
  ·cases h
theorem ZnA {hp:Hp} {slc:List (Option Nat)} {s base:Nat} {vs:List AV} {x:AV} {e:Eff} (h:WH hp slc s base vs x=some e):∃ id o,XP x=some id∧e.val=.junk∧e.sets=[(id,o)]∧(∀ k∈e.dels,k∈vs.flatMap Zf∧∃ a b c d,x=.prow a b c d)∧∀ i∈e.frz,i∈vs.flatMap Zf:=by
 cases x<;>simp only[WH] at h<;>first | cases h | skip
 case ptr id off=>
  unfold ZaB at h;split at h
  ·split at h
   ·split at h<;>(cases h;exact⟨id,_,rfl,rfl,rfl,fun i hi=>by simp at hi,fun i hi=>by simp at hi⟩)
   ·cases h
  ·cases h
 case prow id sz i off=>
  unfold Ub at h;split at h
  ·split at h
   ·obtain⟨x,_,h⟩:=Za h;obtain⟨q,hq,h⟩:=Za h;unfold Zbk at h;split at h
    ·cases h;exact⟨id,_,rfl,rfl,rfl,fun i hi=>by simp at hi,Zep hq⟩
    ·cases h
   ·cases h
  ·split at h
   ·obtain⟨x,_,h⟩:=Za h;obtain⟨q,hq,h⟩:=Za h;unfold Zbm at h;split at h
    ·cases h;exact⟨id,_,rfl,rfl,rfl,fun k hk=>⟨Zeq hq k hk,_,_,_,_,rfl⟩,fun i hi=>by simp at hi⟩
    ·cases h
   ·cases h
  ·cases h
def FzEq (o o' : Option Zh):Prop:=∃ b:Bool,o'=o.map fun x=>if b then XD x else x
theorem FzEq.seen {o o' : Option Zh} (h:FzEq o o'):WQ [] o o':=by
 obtain⟨b,rfl⟩:=h;have hk:∀ x:Zh,QD [] x=x:=fun x=>by
  cases x with
  | box cs=>simp only[QD];congr 1;rw[Kw (g:=id) (fun a _=>Ji a),Lm]
  | row _ _ _ _=>rfl
  | gone=>rfl
  | tree _ _ _ l=>rcases l with _ | ⟨_ | _,_⟩<;>simp[QD,Yl]
 have:=ZkG (g:=[]) (b:=b) o;have e:(o.map (QD []))=o:=by cases o<;>simp[hk]
 rw[e] at this;exact this
theorem vop_fz {C:Orc} {M:Zg} {sl:Sl} {hp hp' : Hp} {base:Nat} {c:COp} (hc:VJ c=true) (h:∀ x∈Zr c,∀ k∈Zm (evO sl x),FzEq (lkp hp k) (lkp hp' k)):vop C M sl hp' base c=vop C M sl hp base c:=by
 have hs:∀ x∈Zr c,ZcJ [] hp hp' (evO sl x):=fun x hx k hk=>(h x hx k hk).seen;cases c<;>simp only[VJ,Ka] at hc<;>simp only[Zr] at h hs<;>simp only[vop]
 case load g s a=>
  have h1:=h a (by simp);have h2:=hs a (by simp);cases hv:evO sl a<;>rw[hv] at h1 h2<;>simp only[YV]
  case ptr id off=>
   obtain⟨b,e⟩:=h1 id (by simp[Zm,Zn,Zf]);rw[e];cases lkp hp id with
   | none=>rfl
   | some o=>cases o<;>cases b<;>rfl
  case prow id sz i off=>
   obtain⟨b,e⟩:=h1 id (by simp[Zm,Zn,Zf]);rw[e];cases lkp hp id with
   | none=>rfl
   | some o=>cases o<;>cases b<;>rfl
 case slice s x lo hi=>rw[Zau (hs x (by simp))]
 case slice0 x hi mx=>unfold slice0;rw[Jl (hs x (by simp))]
 case iaS s x i=>
  congr 1
  funext n
  simp only[ZbT];rw[WG (hs x (by simp))]
 case len x=>rw[Jl (hs x (by simp))]
def ZcG (sl:Sl) (a:COp):COp→Bool
 | .store _ _ x y=>J0 sl a (XP (evO sl x))&&X6 sl a (evO sl x) (evO sl y)
 | .append _ _ _ flat x y=>VK sl a (evO sl x)&&(flat || seenSrc sl a (evO sl y))
 | _=>false
def LooseS (s:Sl) (a b:COp):Prop:=Zgt b=true∧(Yt a=true∨(VJ a=true∧ZcG s a b=true))
theorem Zas {sl:Sl} {id:Nat}:∀ {xs:List Opd},Qk sl id xs=true→∀ x∈xs,Ul id (evO sl x)=true
 | [],_,x,hx=>by simp at hx
 | y :: ys,h,x,hx=>by
  simp only[Qk,Kb] at h;rcases Ke.1 hx with rfl | hx
  ·exact h.1
  ·exact Zas h.2 x hx
theorem Zer {sl:Sl} {xs:List Opd}:∀ {ks:List Nat},QX sl xs ks=true→∀ k∈ks,Qk sl k xs=true
 | [],_,k,hk=>by simp at hk
 | j :: r,h,k,hk=>by
  simp only[QX,Kb] at h;rcases Ke.1 hk with rfl | hk
  ·exact h.1
  ·exact Zer h.2 k hk
theorem Zes {sl:Sl} {a:COp} {b1 b2 b3 b4:Nat} {v:AV} (h:X6 sl a (.prow b1 b2 b3 b4) v=true):(∃ d,v=.d d)∨(okV v=true∧QX sl (Zr a) (Zm v)=true):=by
 cases v<;>first | exact .inl ⟨_,rfl⟩ | (simp only[X6,Kb] at h;exact .inr h)
theorem ZnB {sl:Sl} {a:COp} {b1 b2 b3 b4:Nat} {v:AV} (h:okV v=true∧QX sl (Zr a) (Zm v)=true):X6 sl a (.prow b1 b2 b3 b4) v=true:=by
 cases v<;>first | rfl | (simp only[X6,Kb];exact h)
theorem Zjx {sl:Sl} {a:COp} {x v:AV} (hx:∀ a b c d,x≠.prow a b c d):X6 sl a x v=true:=by
 cases x<;>first | rfl | exact absurd rfl (hx _ _ _ _)
theorem ZfP {sl sl' : Sl} {xs:List Opd} (h:∀ k,Qk sl k xs=true→Qk sl' k xs=true):∀ {ks:List Nat},QX sl xs ks=true→QX sl' xs ks=true
 | [],_=>rfl
 | j :: r,hh=>by
  simp only[QX,Kb] at hh ⊢;exact⟨h j hh.1,ZfP h hh.2⟩
theorem ZfQ {id:Nat} {v:AV} (h:Ul id v=true):id∉Zm v:=by
 cases v with
 | tup vs=>cases vs with
  | nil=>simp[Zm]
  | cons x r=>cases h
 | _=>simp[Ul,Zm,Zn,Zf] at h ⊢ <;> exact fun e=>h e.symm
theorem ZlJ {hp:Hp} {sz by_ base:Nat} {str flat:Bool} {x y:AV} {e:Eff} (h:VE hp sz by_ str flat base x y=some e):e.sets=[]∧e.frz=[]∧((x=.nil∧e.dels=[])∨∃ id,e.dels=[id]∧(x=.own id∨∃ o n,x=.ownv id o n)):=by
 unfold VE at h;obtain⟨q,_,h⟩:=Za h;split at h
 ·cases x<;>simp only[ZbS] at h<;>first | (cases h;done) | skip
  ·split at h
   ·cases h;exact⟨rfl,rfl,.inl ⟨rfl,rfl⟩⟩
   ·cases h
  ·split at h
   ·cases h
   ·unfold Zgc at h;split at h
    ·split at h
     ·cases h;exact⟨rfl,rfl,.inr ⟨_,rfl,.inl rfl⟩⟩
     ·cases h
    ·cases h
  ·split at h
   ·split at h
    ·cases h
    ·unfold ZcP at h;split at h
     ·split at h
      ·cases h;exact⟨rfl,rfl,.inr ⟨_,rfl,.inr ⟨_,_,rfl⟩⟩⟩
      ·cases h
     ·cases h
   ·split at h
    ·unfold ZcO at h;split at h
     ·split at h
      ·cases h;exact⟨rfl,rfl,.inr ⟨_,rfl,.inr ⟨_,_,rfl⟩⟩⟩
      ·cases h
     ·cases h
    ·unfold ZcN at h;split at h
     ·split at h
      ·cases h;exact⟨rfl,rfl,.inr ⟨_,rfl,.inr ⟨_,_,rfl⟩⟩⟩
      ·cases h
     ·cases h
 ·cases h
theorem ZfR {hp:Hp} {x:AV} {k:Nat} (h:k∈QU hp x):x=.own k:=by
 unfold QU at h;split at h
 ·split at h
  ·simp at h;subst h;rfl
  ·simp at h
 ·simp at h
theorem Zkz {hp:Hp} {sz by_ base:Nat} {str flat:Bool} {x y:AV} {e:Eff}:∀ {ms:List Nat},(∀ k∈ms,x=.own k∨y=.own k)→XG hp sz by_ str flat base x y ms=some e→e.frz=[] ∧
  e.sets=[]∧∀ k∈e.dels,(x=.own k∨∃ o n,x=.ownv k o n)∨(flat=false∧y=.own k):=by
 have plain:∀ {hp' : Hp} {e:Eff},VE hp' sz by_ str flat base x y=some e→e.sets=[]∧e.frz=[]∧∀ k∈e.dels,x=.own k∨∃ o n,x=.ownv k o n:=by
  intro hp' e h;obtain⟨g1,g2,g3⟩:=ZlJ h;refine⟨g1,g2,fun k hk=>?_⟩;rcases g3 with ⟨_,g3⟩ | ⟨id,g3,g4⟩
  ·rw[g3] at hk;simp at hk
  ·rw[g3] at hk;simp at hk;subst hk;exact g4
 intro ms hm h;cases ms with
 | nil=>
  simp only[XG] at h;obtain⟨g1,g2,g3⟩:=plain h;exact⟨g2,g1,fun k hk=>.inl (g3 k hk)⟩
 | cons i r=>
  simp only[XG] at h;split at h
  ·cases h
  ·rename_i aa;obtain⟨e0,h1,h⟩:=Za h;cases h;obtain⟨g1,g2,g3⟩:=plain h1;refine⟨g2,g1,fun k hk=>?_⟩;rcases Kc.1 hk with hk | hk
   ·exact .inl (g3 k hk)
   ·rcases hm k hk with hk | hk
    ·exact .inl (.inl hk)
    ·exact .inr ⟨by simpa using aa,hk⟩
theorem ZoO {hp:Hp} {sz by_ base:Nat} {x y:AV} {ce:Zb} (h:appT hp sz by_ base x y=some ce):ce.gone=[]∧ce.eff.frz=[]∧ce.eff.sets=[]∧∀ k∈ce.eff.dels,x=.own k∨y=.own k:=by
 unfold appT at h;obtain⟨e,h1,h⟩:=Za h;cases h;obtain⟨q,h2,h1⟩:=Za h1;have hy:y=.own q.1:=by
  unfold UN at h2;split at h2
  ·obtain⟨q2,_,h2⟩:=Za h2;cases h2;rfl
  ·cases h2
 split at h1
 ·cases x<;>simp only[WY] at h1<;>first | (cases h1;done) | skip
  ·split at h1
   ·cases h1;exact⟨rfl,rfl,rfl,fun k hk=>by simp at hk;subst hk;exact .inr hy⟩
   ·cases h1
  ·obtain⟨q3,_,h1⟩:=Za h1;split at h1
   ·cases h1;refine⟨rfl,rfl,rfl,fun k hk=>?_⟩;simp at hk;rcases hk with rfl | rfl
    ·exact .inl rfl
    ·exact .inr hy
   ·cases h1
 ·cases h1
theorem ZkA {hp:Hp} {sz by_ base:Nat} {str flat:Bool} {x y:AV} {ce:Zb} (h:ZkX hp sz by_ str flat base x y=some ce):ce.gone=[]∧ce.eff.frz=[] ∧
  ce.eff.sets=[]∧∀ k∈ce.eff.dels,(x=.own k∨∃ o n,x=.ownv k o n)∨(flat=false∧y=.own k):=by
 have kx:∀ k∈QU hp x,x=.own k∨y=.own k:=fun k hk=>.inl (ZfR hk);have ky:∀ k∈QU hp y,x=.own k∨y=.own k:=fun k hk=>.inr (ZfR hk);have melt:∀ {ms:List Nat},(∀ k∈ms,x=.own k∨y=.own k)→Zam (XG hp sz by_ str flat base x y ms)=some ce→ce.gone=[]∧ce.eff.frz=[] ∧
   ce.eff.sets=[]∧∀ k∈ce.eff.dels,(x=.own k∨∃ o n,x=.ownv k o n)∨(flat=false∧y=.own k):=by
  intro ms hm h;obtain⟨e,h1,h⟩:=Za h;cases h;exact⟨rfl,Zkz hm h1⟩
 unfold ZkX at h;generalize QU hp x=mx at h kx;generalize QU hp y=my at h ky;cases mx with
 | nil=>exact melt ky h
 | cons i r=>
  cases my with
  | nil=>exact melt kx h
  | cons j t=>
   simp only[UZ] at h;split at h
   ·cases h
   ·rename_i hc;obtain⟨g1,g2,g3,g4⟩:=ZoO h;have hf:flat=false:=by cases flat<;>simp_all
    exact⟨g1,g2,g3,fun k hk=>(g4 k hk).elim (fun e=>.inl (.inl e)) fun e=>.inr ⟨hf,e⟩⟩
theorem ZfS {ds:List Nat} {l:Hp} {k:Nat} (h:k∈ds):lkp (ZN l ds) k=none:=by
 cases hl:lkp (ZN l ds) k with
 | none=>rfl
 | some o=>exact absurd h (Yx ds l k o hl).2
theorem Zqd {C:Orc} {M:Zg} {sl:Sl} {hp:Hp} {base:Nat} {c:COp} {ce:Zb} (hc:Zgt c=true) (h:vop C M sl hp base c=some ce) :
  ce.gone=[]∧(∀ k,k∈ce.eff.dels∨(∃ o,(k,o)∈ce.eff.sets)→(∃ x∈Zr c,k∈Zm (evO sl x))∧∀ a,ZcG sl a c=true→Qk sl k (Zr a)=true)∧∀ k∈ce.eff.frz,∃ x∈Zr c,k∈Zm (evO sl x):=by
 cases c<;>first | (cases hc;done) | skip
 case store slc sz x y=>
  simp only[vop,Zam] at h;obtain⟨e,h7,h⟩:=Za h;cases h;obtain⟨id,o,ht,g1,g2,g3,g4⟩:=ZnA h7;refine⟨rfl,fun k hk=>?_,fun k hk=>⟨y,by simp[Zr],ZfG (U:=fun k=>k∈Zm (evO sl y)) (fun _ h=>h) k (g4 k hk)⟩⟩;rcases hk with hk | ⟨o',hk⟩
  ·obtain⟨k1,b1,b2,b3,b4,k2⟩:=g3 k hk;have k3:=ZfG (U:=fun k=>k∈Zm (evO sl y)) (fun _ h=>h) k k1;refine⟨⟨y,by simp[Zr],k3⟩,fun a ha=>?_⟩;simp only[ZcG,Kb,k2] at ha;rcases Zes ha.2 with ⟨d,hv⟩ | hv
   ·rw[hv] at k3;simp[Zm,Zn,Zf] at k3
   ·exact Zer hv.2 k k3
  ·simp only[g2,KC,Prod.mk.injEq] at hk;have aa:=hk.1;subst aa;refine⟨⟨x,by simp[Zr],?_⟩,fun a ha=>?_⟩
   ·cases hv:evO sl x<;>rw[hv] at ht<;>simp only[XP] at ht<;>cases ht<;>simp[Zm,Zn,Zf]
   ·simp only[ZcG,Kb,ht,J0] at ha;exact ha.1
 case append sz by_ str flat x y=>
  simp only[vop] at h;obtain⟨g0,g2,g1,g3⟩:=ZkA h;refine⟨g0,fun k hk=>?_,fun k hk=>by simp only[g2,LA] at hk⟩;have ab:k∈ce.eff.dels:=by
   rcases hk with hk | ⟨o',hk⟩
   ·exact hk
   ·simp only[g1,LA] at hk
  rcases g3 k ab with g4 | ⟨g4,g5⟩
  ·refine⟨⟨x,by simp[Zr],?_⟩,fun a ha=>?_⟩
   ·rcases g4 with g4 | ⟨o,n,g4⟩<;>rw[g4]<;>simp[Zm,Zn,Zf]
   ·simp only[ZcG,Kb] at ha;rcases g4 with g4 | ⟨o,n,g4⟩<;>rw[g4] at ha<;>exact ha.1
  ·refine⟨⟨y,by simp[Zr],by rw[g5];simp[Zm,Zn,Zf]⟩,fun a ha=>?_⟩;simp only[ZcG,Kb,g4,Bool.false_or] at ha;rw[g5] at ha;exact ha.2
theorem ZlK {C:Orc} {M:Zg} {os:List CO} {nx i j:Nat} {oi oj:CO} (ae:os[i]?=some oi) (ak:os[j]?=some oj) (ar:ZH os i=true) (am:ZH os j=false) (a3:i≠j) (au:QJ oj oi=true)
  (an:∀ (k:Nat) (o:CO),os[k]?=some o→∀ x∈Zr o.op,Xq x=true) {s s1 s2:Sl×Hp} {U:Nat→Prop} (hs:ZbK nt s U) (a4:Qw U (nx+64*i)) (av:Qw U (nx+64*j)) (hl:LooseS s.1 oj.op oi.op)
  (h1:Zv C M os nx j s=some s1) (h2:Zv C M os nx i s1=some s2):∃ t1,Zv C M os nx i s=some t1∧∃ t2,Zv C M os nx j t1=some t2∧QQ t2 s2:=by
 obtain⟨F,A,I,Γ,a,w,ag⟩:=hs;simp only[QJ,Kb] at au;obtain⟨⟨aw,ax⟩,al⟩:=au;have good:∀ (k:Nat) (o:CO),os[k]?=some o→∀ x∈Zr o.op,ZcD U (evO s.1 x):=by
  intro k o ho x hx;cases x with
  | t n=>exact ag.good n
  | v y=>exact Vy (an k o ho _ hx)
  | f n=>exact⟨fun id a5=>by simp[evO,Zm,Zn] at a5,fun f a6 h c hc=>by cases h;simp at hc⟩
 simp only[Zv,ak,Zc,am] at h1;simp only[Zv,ae,Zc,ar] at h2;obtain⟨vj,aj,rfl,ao,ay⟩:=Zb6 h1;obtain⟨a7,hl⟩:=hl;unfold ZA at h2;obtain⟨b,hw,h2⟩:=Za h2;have az : ZK s.1 oi.guard=some b:=by rw[← hw];exact(Z8 aw).symm
 cases b with
 | false=>
  simp only[Ka,Kj] at h2;cases h2;refine⟨(Zi s.1 oi.dst (.tup []),s.2),by simp only[Zv,ae,Zc,ZA,az,Ka,Kj],?_⟩;have e2:=ay (Zi s.1 oi.dst (.tup []),s.2) (Z8 al) (Qy C M s.2 (nx+64*j) (Yo (o:=oj) al));exact⟨(Zi (Zi s.1 oi.dst (.tup [])) oj.dst vj,Zd s.2 aj),by simp only[Zv,ak,Zc,am];exact e2,fun t=>(YU ax vj (.tup []) t).symm,fun id=>rfl⟩
 | true=>
  simp only[Kl] at h2;obtain⟨ce,h3,h4,rfl⟩:=QG h2;have a0 : vop C M s.1 s.2 (nx+64*i) oi.op=some ce:=by
   have h5:=Jv h3;rw[← h5,Qy C M (Zd s.2 aj) (nx+64*i) (Yo (o:=oi) aw)];exact V7 (ag.agree (Yp av ao s.2)) C M _ (good i oi ae)
  have aa:=Vm h4;obtain⟨k1,k2,k3⟩:=Zqd a7 a0;obtain⟨e,gn⟩:=ce;simp only at k1 k2 k3;subst k1;have ap:∀ k∈e.frz,U k:=fun k hk=>by
   obtain⟨x,hx,hk⟩:=k3 k hk;exact(good i oi ae x hx).1 k hk
  have ah:∀ k,k∈e.dels∨(∃ o,(k,o)∈e.sets)→U k:=fun k hk=>by
   obtain⟨⟨x,hx,hk⟩,_⟩:=k2 k hk;exact(good i oi ae x hx).1 k hk
  have ai:∀ s:Sl×Hp,Zb.on { eff:=e,gone:=[] } oi.dst s.1 s.2=(Zi s.1 oi.dst e.val,Zd (Zd (ZN (ZW e.frz s.2) e.dels) e.sets) e.adds):=by
   intro s;rfl
  refine⟨Zb.on { eff:=e,gone:=[] } oi.dst s.1 s.2,?_,?_⟩
  ·simp only[Zv,ae,Zc,ZA,az,Kl,Xf,ar,Yk];rw[a0,Zc,Kt h4]
  ·have ab:∀ k,U k→¬(k∈e.dels∨∃ o,(k,o)∈e.sets)→FzEq (lkp s.2 k) (lkp (Zd (Zd (ZN (ZW e.frz s.2) e.dels) e.sets) e.adds) k):=by
    intro k hk aq;rw[not_or] at aq;rw[← Yp a4 aa _ k hk,Zq _ _ k (fun o ho=>aq.2 ⟨o,ho⟩),YW _ _ k aq.1,ZQ];exact⟨_,rfl⟩
   have e2:ZA C M nx j false oj (Zb.on { eff:=e,gone:=[] } oi.dst s.1 s.2)=some (Zi (Zb.on { eff:=e,gone:=[] } oi.dst s.1 s.2).1 oj.dst vj,Zd (Zb.on { eff:=e,gone:=[] } oi.dst s.1 s.2).2 aj):=by
    rw[ai];refine ay (Zi s.1 oi.dst e.val,Zd (Zd (ZN (ZW e.frz s.2) e.dels) e.sets) e.adds) (Z8 al) ?_;rw[Qy C M _ (nx+64*j) (Yo (o:=oj) al)];rcases hl with hl | ⟨a8,a9⟩
    ·exact ZcK hl
    ·refine vop_fz a8 fun z hz k hk=>?_;refine ab k ((good j oj ak z hz).1 k hk) fun hp=>?_;exact ZfQ (Zas ((k2 k hp).2 _ a9) z hz) hk
   refine⟨_,by simp only[Zv,ak,Zc,am];exact e2,fun t=>?_,fun k=>?_⟩
   ·rw[ai,ai (Zi s.1 oj.dst vj,Zd s.2 aj)];exact(YU ax vj e.val t).symm
   ·rw[ai,ai (Zi s.1 oj.dst vj,Zd s.2 aj)];show lkp (Zd (Zd (Zd (ZN (ZW e.frz s.2) e.dels) e.sets) e.adds) aj) k=lkp (Zd (Zd (ZN (ZW e.frz (Zd s.2 aj)) e.dels) e.sets) e.adds) k;have a1:∀ (B:Hp) (hp hp' : Hp),(∀ k,lkp hp k=lkp hp' k)→∀ k,lkp (Zd hp B) k=lkp (Zd hp' B) k:=fun B hp hp' h=>WT B h;have ad:∀ k,U k→∀ o',(k,o')∉aj:=fun k hk o' af=>by
     have:=ao k o' af;exact av k this.1 this.2 hk
    rw[Zir (A:=e.adds) (B:=aj) (fun k x y hx hy=>by
     have:=aa k x hx;have:=ao k y hy;rcases LB a3 with h | h<;>omega)]
    refine a1 e.adds _ _ (fun k=>?_) k;rw[Zir (A:=e.sets) (B:=aj) (fun k x y hx hy=>ad k (ah k (.inr ⟨x,hx⟩)) y hy) (ZN (ZW e.frz s.2) e.dels) k];refine a1 e.sets _ _ (fun k=>?_) k;by_cases hd:k∈e.dels
    ·rw[Zq aj _ k (ad k (ah k (.inl hd))),ZfS hd,ZfS hd]
    ·rw[YW _ _ k hd];rw[ZQ];by_cases hk:∃ o',(k,o')∈aj
     ·obtain⟨o',af⟩:=hk;rw[W7 (hp':=s.2) ⟨o',af⟩];have a':k∉e.frz:=fun hf=>ad k (ap k hf) o' af;cases lkp (Zd s.2 aj) k<;>simp[a']
     ·have a2 : ∀ o',(k,o')∉aj:=fun o' af=>hk ⟨o',af⟩;rw[Zq aj _ k a2,Zq aj _ k a2,YW _ _ k hd,ZQ]
theorem ZnC {C:Orc} {M:Zg} {os:List CO} {nx i j:Nat} {oi oj:CO} (ab:os[i]?=some oi) (ad:os[j]?=some oj) (ae:Zma oi.op=true) (af:ZH os j=false) (ag:i≠j) (ah:QJ oj oi=true)
  (aa:∀ (k:Nat) (o:CO),os[k]?=some o→∀ x∈Zr o.op,Xq x=true) {s s1 s2:Sl×Hp} {U:Nat→Prop} (hs:ZbK nt s U) (ai:Qw U (nx+64*i)) (aj:Qw U (nx+64*j))
  (h1:Zv C M os nx j s=some s1) (h2:Zv C M os nx i s1=some s2):∃ t1,Zv C M os nx i s=some t1∧∃ t2,Zv C M os nx j t1=some t2∧QQ t2 s2:=by
 have e:∀ s:Sl×Hp,Zv C M os nx i s=ZA C M nx i false oi s:=fun s=>by
  simp only[Zv,ab,Zc];cases ZH os i
  ·rfl
  ·exact Znz ae s
 rw[e] at h2;simp only[e];exact ZfO ab ad af ag ah aa hs ai aj h1 h2
theorem Zjy {hp:Hp} {base s:Nat} {vs:List AV} {ce:Zb} (h:buildSl hp base s vs=some ce):ce.gone=[]:=by
 cases vs with
 | nil=>simp only[buildSl,Qg] at h;first | (cases h;rfl) | (split at h<;>first | (cases h;rfl) | cases h)
 | cons v r=>
  simp only[buildSl] at h;obtain⟨q,_,h⟩:=Za h;unfold rowV at h;split at h
  ·cases h;rfl
  ·cases h
theorem ZkB {C:Orc} {M:Zg} {sl:Sl} {hp:Hp} {base:Nat} {c:COp} {ce:Zb} (hc:JY c=true) (h:vop C M sl hp base c=some ce):ce.gone=[]:=by
 cases c<;>first | (cases hc;done) | skip
 ·simp only[vop] at h;exact Zjy h
 ·simp only[vop] at h;exact(ZkA h).1
theorem ZnD {C:Orc} {M:Zg} {nx j:Nat} {oj:CO} {s s1:Sl×Hp} (hm:Xv oj.op=true) (h:ZA C M nx j false oj s=some s1) :
  ∃ v,s1=(Zi s.1 oj.dst v,s.2)∧∀ aa : Sl×Hp,ZK aa.1 oj.guard=ZK s.1 oj.guard→(∀ x∈Zr oj.op,evO aa.1 x=evO s.1 x)→ZA C M nx j false oj aa=some (Zi aa.1 oj.dst v,aa.2):=by
 obtain⟨x,hx⟩:∃ x,oj.op=.move x:=by
  cases ho:oj.op<;>rw[ho] at hm<;>first | (cases hm;done) | exact⟨_,rfl⟩
 unfold ZA at h ⊢;obtain⟨b,hw,h⟩:=Za h;cases b with
 | true=>
  simp only[Kl,hx,Yk,Ka,Kj,vop] at h;refine⟨evO s.1 x,?_,fun aa g1 g2=>?_⟩
  ·cases h;rfl
  ·rw[g1,hw,Zc];have e:=g2 x (by rw[hx];simp[Zr]);simp only[Kl,hx,Yk,Ka,Kj,vop,e];rfl
 | false=>
  simp only[Ka,Kj] at h;cases h;refine⟨.tup [],rfl,fun aa g1 g2=>?_⟩;rw[g1,hw,Zc];rfl
theorem ZnE {C:Orc} {M:Zg} {os:List CO} {nx i j:Nat} {oi oj:CO} (ad:os[i]?=some oi) (ae:os[j]?=some oj) (af:ZH os j=false) (ah:QJ oj oi=true)
  {s s1 s2:Sl×Hp} (hm:Xv oj.op=true) (hg:JY oi.op=true)
  (h1:Zv C M os nx j s=some s1) (h2:Zv C M os nx i s1=some s2):∃ t1,Zv C M os nx i s=some t1∧∃ t2,Zv C M os nx j t1=some t2∧QQ t2 s2:=by
 simp only[QJ,Kb] at ah;obtain⟨⟨ai,aj⟩,ab⟩:=ah;simp only[Zv,ae,Zc,af] at h1;simp only[Zv,ad,Zc] at h2;obtain⟨vj,rfl,ak⟩:=ZnD hm h1;unfold ZA at h2;obtain⟨b,hw,h2⟩:=Za h2;have al : ZK s.1 oi.guard=some b:=by rw[← hw];exact(Z8 ai).symm
 cases b with
 | false=>
  simp only[Ka,Kj] at h2;cases h2;refine⟨(Zi s.1 oi.dst (.tup []),s.2),by simp only[Zv,ad,Zc,ZA,al,Ka,Kj],?_⟩;exact⟨(Zi (Zi s.1 oi.dst (.tup [])) oj.dst vj,s.2),by simp only[Zv,ae,Zc,af];exact ak (Zi s.1 oi.dst (.tup []),s.2) (Z8 ab) (Yo (o:=oj) ab),fun t=>(YU aj vj (.tup []) t).symm,fun id=>rfl⟩
 | true=>
  simp only[Kl] at h2;obtain⟨ce,h3,h4,rfl⟩:=QG h2;have aa:=ZkB hg (Jv h3);have am : Yk C M nx i (ZH os i) oi.op s.1 s.2=some ce:=by
   rw[← h3];unfold Yk;rw[Qy C M s.2 (nx+64*i) (Yo (o:=oi) ai)]
  have ag:∀ (sl:Sl) (hp:Hp),ce.on oi.dst sl hp=(Zi sl oi.dst ce.eff.val,ce.eff.on hp):=by
   intro sl hp;unfold Zb.on;rw[aa];rfl
  refine⟨ce.on oi.dst s.1 s.2,?_,?_⟩
  ·simp only[Zv,ad,Zc,ZA,al,Kl,Xf];rw[am,Zc,Kt h4]
  ·rw[ag];refine⟨(Zi (Zi s.1 oi.dst ce.eff.val) oj.dst vj,ce.eff.on s.2),by simp only[Zv,ae,Zc,af];exact ak (Zi s.1 oi.dst ce.eff.val,ce.eff.on s.2) (Z8 ab) (Yo (o:=oj) ab),fun t=>?_,fun k=>?_⟩
   ·rw[ag];exact(YU aj vj ce.eff.val t).symm
   ·rw[ag]
theorem awayV_ptr {sl:Sl} {xs:List Opd} {v:AV} (h:Um sl xs v=true) {k off:Nat} (e:v=.ptr k off):∀ z∈xs,k∉Zm (evO sl z):=by
 subst e;exact fun z hz=>ZfQ (Zas h z hz)
structure ZfT (r:Sl) (oX oY:CO):Prop where
 opd:∀ x∈Zr oX.op,okV (evO r x)=true
 dst:∀ t,oX.dst=some t→okV (gs r t)=true
 arg:∀ y∈ZdU oY.op,okV (evO r y)=true
 away:∀ y∈ZdU oY.op,∀ k off,evO r y=.ptr k off→∀ z∈Zr oX.op,k∉Zm (evO r z)
theorem Zjz {sl:Sl}:∀ {xs:List Opd},okL sl xs=true→∀ x∈xs,okV (evO sl x)=true
 | [],_,x,hx=>by simp at hx
 | y :: ys,h,x,hx=>by
  simp only[okL,Kb] at h;rcases Ke.1 hx with rfl | hx
  ·exact h.1
  ·exact Zjz h.2 x hx
theorem Zis {sl:Sl} {xs:List Opd}:∀ {ys:List Opd},ZaL sl xs ys=true→∀ y∈ys,Um sl xs (evO sl y)=true
 | [],_,x,hx=>by simp at hx
 | y :: ys,h,x,hx=>by
  simp only[ZaL,Kb] at h;rcases Ke.1 hx with rfl | hx
  ·exact h.1
  ·exact Zis h.2 x hx
theorem ZkC {r:Sl} {oX oY:CO} (hm:Xv oX.op=false) (hc:Wq oY.op=true) (h:Vd r oX.dst oX.op oY.op=true):ZfT r oX oY:=by
 obtain⟨f,as,ho⟩:∃ f as,oY.op=.call (.f f) as:=by
  cases ho:oY.op<;>rw[ho] at hc<;>first | (cases hc;done) | skip
  rename_i f as;cases f<;>first | (cases hc;done) | exact⟨_,_,rfl⟩
 rw[ho] at h;have h' : (okL r (Zr oX.op)&&(okD r oX.dst&&(okL r as&&ZaL r (Zr oX.op) as)))=true:=by
  cases hx:oX.op<;>rw[hx] at h hm<;>first | (cases hm;done) | exact h
 simp only[Kb] at h';obtain⟨h1,h2,h3,h4⟩:=h';refine⟨Zjz h1,fun t ht=>?_,?_,?_⟩
 ·rw[ht] at h2;exact h2
 ·rw[ho];exact Zjz h3
 ·rw[ho];intro y hy k off e;exact awayV_ptr (Zis h4 y hy) e
theorem ZfT.move {r r' : Sl} {oX oY:CO} (h:ZfT r oX oY) (h1:∀ n∈(Zr oX.op).flatMap WI,okV (gs r n)=true→gs r' n=gs r n) (h2:∀ n,oX.dst=some n→okV (gs r n)=true→gs r' n=gs r n)
  (h3:∀ n∈(ZdU oY.op).flatMap WI,okV (gs r n)=true→gs r' n=gs r n):ZfT r' oX oY:=by
 have e1:∀ x∈Zr oX.op,evO r' x=evO r x:=fun x hx=>by
  have ho:=h.opd x hx;cases x with
  | t n=>exact h1 n (Kr.2 ⟨_,hx,by simp[WI]⟩) ho
  | _=>rfl
 have e3:∀ x∈ZdU oY.op,evO r' x=evO r x:=fun x hx=>by
  have ho:=h.arg x hx;cases x with
  | t n=>exact h3 n (Kr.2 ⟨_,hx,by simp[WI]⟩) ho
  | _=>rfl
 refine⟨fun x hx=>by rw[e1 x hx];exact h.opd x hx,fun t ht=>by rw[h2 t ht (h.dst t ht)];exact h.dst t ht,fun x hx=>by rw[e3 x hx];exact h.arg x hx,fun y hy k off e z hz=>?_⟩;rw[e3 y hy] at e;rw[e1 z hz];exact h.away y hy k off e z hz
theorem ZfU {C:Orc} {M:Zg} (hM:∀ f,M f 99=false) {os:List CO} {nx x y:Nat} {oX oY:CO} (ay:os[x]?=some oX) (a1:os[y]?=some oY) (a2:x≠y) (ak:Qd oY.dst (Xp oX)=true) (aw:Qd oX.dst (Xp oY)=true)
  (ad:Qd oX.dst (Xp oX)=true) (al:Qd oY.dst (Xp oY)=true)
  (ar:∀ (k:Nat) (o:CO),os[k]?=some o→∀ x∈Zr o.op,Xq x=true) {s:Sl×Hp} {r:Sl} {U:Nat→Prop} (hs:ZbK nt s U) (a3:Qw U (nx+64*x)) (a4:Qw U (nx+64*y))
  (ae:Wq oY.op=true) {ce:Zb} (a5:vop C M s.1 s.2 (nx+64*y) oY.op=some ce) (a6:Qn (nx+64*y) (nx+64*y+64) ce.eff.adds=true)
  (am:∀ n,oX.dst≠some n→oY.dst≠some n→gs r n=kill ce.gone (gs s.1 n)) (aa:ZfT r oX oY) :
  ce.eff.dels=[]∧(∀ z∈Zr oX.op,evO (ce.on oY.dst s.1 s.2).1 z=evO s.1 z)∧(∀ z∈Zr oX.op,∀ id∈Zm (evO s.1 z),id∉ce.gone)∧(∀ z∈Zr oX.op,ZcJ ce.gone s.2 (ce.on oY.dst s.1 s.2).2 (evO s.1 z)) ∧
  (∀ k,nx+64*x≤k→k<nx+64*x+64→(∀ o',(k,o')∉ce.eff.sets)∧(∀ o',(k,o')∉ce.eff.adds)∧k∉ce.eff.frz∧k∉ce.gone):=by
 obtain⟨F,A,I,Γ,a,w,au⟩:=hs;have good:∀ (k:Nat) (o:CO),os[k]?=some o→∀ x∈Zr o.op,ZcD U (evO s.1 x):=by
  intro k o ho x hx;cases x with
  | t n=>exact au.good n
  | v y=>exact Vy (ar k o ho _ hx)
  | f n=>exact⟨fun id av=>by simp[evO,Zm,Zn] at av,fun f a7 h c hc=>by cases h;simp at hc⟩
 obtain⟨f,as,ho⟩:∃ f as,oY.op=.call (.f f) as:=by
  cases ho:oY.op<;>rw[ho] at ae<;>first | (cases ae;done) | skip
  rename_i f as;cases f<;>first | (cases ae;done) | exact⟨_,_,rfl⟩
 have an:=a5;rw[ho] at an;simp only[vop,evO,U0,LG] at an;obtain⟨k1,k2,k3,k4⟩:=ZnO an (hM _);have ab:∀ n,(Opd.t n)∈Zr oX.op→n∈Xp oX:=fun n hn=>Kc.2 (.inl (Kr.2 ⟨_,hn,by simp[WI]⟩));have ai:∀ n,(Opd.t n)∈as→n∈Xp oY:=fun n hn=>Kc.2 (.inl (Kr.2 ⟨.t n,by rw[ho];simp[Zr,hn],by simp[WI]⟩));have ne:∀ {d:Option Nat} {l:List Nat} {n:Nat},Qd d l=true→n∈l→d≠some n:=fun {d l n} h hn e=>by
  rw[e] at h;simp only[Qd,KI,KF,KT] at h;exact h hn
 have ax:∀ z∈Zr oX.op,evO r z=evO s.1 z∧∀ id∈Zm (evO s.1 z),id∉ce.gone:=by
  intro z hz;have af:=aa.opd z hz;cases z with
  | t n=>
   have e:=am n (ne ad (ab n hz)) (ne ak (ab n hz));simp only[evO] at af ⊢;rw[e] at af ⊢;have:=W6 af;exact⟨this,ZoQ this⟩
  | v c=>
   have:=ar x oX ay _ hz;simp only[Xq,Kb,List.isEmpty_iff] at this;exact⟨rfl,fun id av=>by simp only[evO] at av;rw[this.1] at av;simp at av⟩
  | f n=>simp only[evO,okV,okC] at af;cases af
 have az:∀ z∈as,evO r z=evO s.1 z:=by
  intro z hz;have af:=aa.arg z (by rw[ho];exact hz);cases z with
  | t n=>
   have e:=am n (ne aw (ai n hz)) (ne al (ai n hz));simp only[evO] at af ⊢;rw[e] at af ⊢;exact W6 af
  | _=>rfl
 have a0:∀ id,(∃ o,lkp s.2 id=some o)→U id:=fun id ⟨o,h⟩=>au.id_in h;have uX:∀ k,nx+64*x≤k→k<nx+64*x+64→¬U k:=fun k h1 h2=>a3 k h1 h2;have aj:=Vm a6;have ag:∀ z∈Zr oX.op,∀ k∈Zm (evO s.1 z),∀ o',(k,o')∉ce.eff.sets:=by
  intro z hz k hk o' ao;rcases (k4 k o' ao).2 with h | ⟨v,hv,ap⟩
  ·exact(ax z hz).2 k hk h
  ·obtain⟨y',aq,rfl⟩:=Zbd hv;have ah:=aa.arg y' (by rw[ho];exact aq);rw[az y' aq] at ah;cases hp:evO s.1 y' with
   | ptr a b=>
    rw[hp] at ap;simp only[V5,KC] at ap;subst ap;have:=aa.away y' (by rw[ho];exact aq) k b (by rw[az y' aq,hp]) z hz;rw[(ax z hz).1] at this;exact this hk
   | clo g cs=>rw[hp] at ah;simp only[okV,okC] at ah;cases ah
   | _=>rw[hp] at ap;simp[V5] at ap
 refine⟨k1,fun z hz=>?_,fun z hz=>(ax z hz).2,fun z hz k hk=>?_,fun k g1 g2=>⟨fun o' ao=>?_,fun o' ao=>?_,fun hf=>?_,fun hg=>?_⟩⟩
 ·cases z with
  | t n=>
   show gs (Zi (Qx ce.gone s.1) oY.dst ce.eff.val) n=gs s.1 n;rw[Z5,Kp (ne ak (ab n hz)),Qe];have e:=am n (ne ad (ab n hz)) (ne ak (ab n hz));have:=aa.opd _ hz;simp only[evO] at this;rw[e] at this;exact W6 this
  | _=>rfl
 ·have a8:U k:=(good x oX ay z hz).1 k hk;show WQ ce.gone (lkp s.2 k) (lkp (ce.eff.on (Yg ce.gone s.2)) k);unfold Eff.on;rw[k1];simp only[ZN];rw[Zq,Zq,ZQ,Ym]
  ·exact ZkG _
  ·exact ag z hz k hk
  ·intro o' ao;obtain⟨h1,h2⟩:=aj k o' ao;exact a4 k h1 h2 a8
 ·exact uX k g1 g2 (a0 k (k4 k o' ao).1)
 ·have:=aj k o' ao;rcases LB a2 with h | h<;>omega
 ·obtain⟨v,hv,ap⟩:=k2 k hf;obtain⟨y',aq,rfl⟩:=Zbd hv;exact uX k g1 g2 ((good y oY a1 y' (by rw[ho];simp[Zr,aq])).1 k ap)
 ·exact uX k g1 g2 (a0 k (k3 k hg))
theorem ZlL {C:Orc} {M:Zg} (hM:∀ f,M f 99=false) {os:List CO} {nx i j:Nat} {oi oj:CO} (ah:os[i]?=some oi) (av:os[j]?=some oj) (az:ZH os j=false) (a0:i≠j) (aw:QJ oj oi=true)
  (ad:Qd oj.dst (Xp oj)=true) (ae:Qd oi.dst (Xp oi)=true)
  (ai:∀ (k:Nat) (o:CO),os[k]?=some o→∀ x∈Zr o.op,Xq x=true) {s s1 s2:Sl×Hp} {U:Nat→Prop} (hs:ZbK nt s U) (a1:Qw U (nx+64*i)) (ap:Qw U (nx+64*j))
  (aj:Wq oi.op=true) (a2:Zgv oj.op=true) (aa:ZfT s2.1 oj oi) {t:Nat} (ht:oj.dst=some t)
  (h1:Zv C M os nx j s=some s1) (h2:Zv C M os nx i s1=some s2):∃ t1,Zv C M os nx i s=some t1∧∃ t2,Zv C M os nx j t1=some t2∧QQ t2 s2:=by
 have a3:=hs;obtain⟨F,A,I,Γ,a,w,af⟩:=a3;simp only[QJ,Kb] at aw;obtain⟨⟨am,an⟩,ao⟩:=aw;have good:∀ (k:Nat) (o:CO),os[k]?=some o→∀ x∈Zr o.op,ZcD U (evO s.1 x):=by
  intro k o ho x hx;cases x with
  | t n=>exact af.good n
  | v y=>exact Vy (ai k o ho _ hx)
  | f n=>exact⟨fun id a4=>by simp[evO,Zm,Zn] at a4,fun f a5 h c hc=>by cases h;simp at hc⟩
 have ab:∀ s:Sl×Hp,Zv C M os nx j s=ZA C M nx j false oj s:=fun s=>by simp only[Zv,av,Zc,az]
 rw[ab] at h1;simp only[Zv,ah,Zc] at h2;obtain⟨v,ax,a6,aq,hX⟩:∃ v ax,s1=(Zi s.1 oj.dst v,Zd s.2 ax)∧(∀ k x,(k,x)∈ax→nx+64*j≤k∧k<nx+64*j+64) ∧
   ((ZK s.1 oj.guard=some false∧v=.tup []∧ax=[])∨(ZK s.1 oj.guard=some true∧∃ ce,ZdI ce∧vop C M s.1 s.2 (nx+64*j) oj.op=some ce∧Qn (nx+64*j) (nx+64*j+64) ce.eff.adds=true∧v=ce.eff.val∧ax=ce.eff.adds)):=by
  rcases ZlT h1 with ⟨g1,g2⟩ | ⟨g1,ce,g2,g3,g4,g5⟩
  ·exact⟨.tup [],[],g2,fun k x h=>by simp at h,.inl ⟨g1,rfl,rfl⟩⟩
  ·exact⟨ce.eff.val,ce.eff.adds,g5,Vm g4,.inr ⟨g1,ce,g2,g3,g4,rfl,rfl⟩⟩
 subst a6;unfold ZA at h2;obtain⟨b,hw,h2⟩:=Za h2;have ay : ZK s.1 oi.guard=some b:=by rw[← hw];exact(Z8 am).symm
 cases b with
 | false=>
  simp only[Ka,Kj] at h2;cases h2;refine⟨(Zi s.1 oi.dst (.tup []),s.2),by simp only[Zv,ah,Zc];exact Xe ay,?_⟩;refine⟨(Zi (Zi s.1 oi.dst (.tup [])) oj.dst v,Zd s.2 ax),?_,fun t=>(YU an v (.tup []) t).symm,fun id=>rfl⟩;rw[ab];have ak:ZK (Zi s.1 oi.dst (.tup [])) oj.guard=ZK s.1 oj.guard:=Z8 ao;rcases hX with ⟨g1,rfl,rfl⟩ | ⟨g1,ce,g2,g3,g4,rfl,rfl⟩
  ·exact Xe (s:=(Zi s.1 oi.dst (.tup []),s.2)) (ak.trans g1)
  ·refine Zbg (s:=(Zi s.1 oi.dst (.tup []),s.2)) (ak.trans g1) g2 ?_ g4;rw[← g3];exact Qy C M s.2 (nx+64*j) (Yo (o:=oj) ao)
 | true=>
  simp only[Kl] at h2;obtain⟨ce,h3,h4,rfl⟩:=QG h2;have a7:vop C M s.1 s.2 (nx+64*i) oi.op=some ce:=by
   have h5:=Jv h3;rw[← h5,Qy C M (Zd s.2 ax) (nx+64*i) (Yo (o:=oi) am)];exact V7 (af.agree (Yp ap aq s.2)) C M _ (good i oi ah)
  have a8 : Yk C M nx i (ZH os i) oi.op s.1 s.2=some ce:=by
   rw[← h3];unfold Yk;rw[Qy C M (Zd s.2 ax) (nx+64*i) (Yo (o:=oi) am),V7 (af.agree (Yp ap aq s.2)) C M _ (good i oi ah)]
  have ar:∀ n,oj.dst≠some n→oi.dst≠some n→gs (ce.on oi.dst (Zi s.1 oj.dst v) (Zd s.2 ax)).1 n=kill ce.gone (gs s.1 n):=fun n e1 e2=>by
   show gs (Zi (Qx ce.gone (Zi s.1 oj.dst v)) oi.dst ce.eff.val) n=_;rw[Z5,Kp e2,Qe,Z5,Kp e1]
  obtain⟨c1,c2,c3,c4,c5⟩:=ZfU (nt:=nt) hM av ah (Ne.symm a0) ao am ad ae ai hs ap a1 aj a7 h4 ar aa;have e0:gs (ce.on oi.dst (Zi s.1 oj.dst v) (Zd s.2 ax)).1 t=kill ce.gone v:=by
   show gs (Zi (Qx ce.gone (Zi s.1 oj.dst v)) oi.dst ce.eff.val) t=_;rw[Z5,Kp,Qe,Z5,Kt ht];intro e;rw[ht,e] at an;simp[Wf] at an
  have ag:kill ce.gone v=v:=by
   have h5:=aa.dst t ht;rw[e0] at h5;exact W6 h5
  have au:okV v=true:=by
   have h5:=aa.dst t ht;rw[e0,ag] at h5;exact h5
  refine⟨ce.on oi.dst s.1 s.2,?_,?_⟩
  ·simp only[Zv,ah,Zc,ZA,ay,Kl,Xf];rw[a8,Zc,Kt h4]
  ·have ak:ZK (ce.on oi.dst s.1 s.2).1 oj.guard=ZK s.1 oj.guard:=by
    show ZK (Zi (Qx ce.gone s.1) oi.dst ce.eff.val) oj.guard=_;rw[Z8 ao];exact Zbh fun q _=>Qe _ _ _
   have al:(∀ k o,(k,o)∈ax→QD ce.gone o=o)∧ZA C M nx j false oj (ce.on oi.dst s.1 s.2)=some (Zi (ce.on oi.dst s.1 s.2).1 oj.dst v,Zd (ce.on oi.dst s.1 s.2).2 ax):=by
    rcases hX with ⟨g1,rfl,rfl⟩ | ⟨g1,cx,g2,g3,g4,rfl,rfl⟩
    ·exact⟨fun k o h=>by simp at h,Xe (ak.trans g1)⟩
    ·obtain⟨e1,e2⟩:=ZnM a2 c2 c4 (fun k h6 h7=>(c5 k h6 h7).2.2.2) g3 g4 g2.frz au ag;exact⟨e2,Zbg (ak.trans g1) g2 e1 g4⟩
   obtain⟨e3,e4⟩:=al;refine⟨_,by rw[ab];exact e4,?_⟩;exact ZmO (ce:=ce) (dX:=oj.dst) (dY:=oi.dst) (v:=v) (ax:=ax) (s:=s) an c1 (fun k o ho=>by
    obtain⟨h6,h7⟩:=aq k o ho;obtain⟨m1,m2,m3,_⟩:=c5 k h6 h7;exact⟨m1,m2,m3⟩) e3 ag
theorem ZkD {C:Orc} {M:Zg} (hM:∀ f,M f 99=false) {os:List CO} {nx i j:Nat} {oi oj:CO} (ar:os[i]?=some oi) (ag:os[j]?=some oj) (ay:ZH os i=false) (az:i≠j) (au:QJ oj oi=true)
  (ad:Qd oi.dst (Xp oi)=true) (ae:Qd oj.dst (Xp oj)=true)
  (ah:∀ (k:Nat) (o:CO),os[k]?=some o→∀ x∈Zr o.op,Xq x=true) {s s1 s2:Sl×Hp} {U:Nat→Prop} (hs:ZbK nt s U) (av:Qw U (nx+64*i)) (a0:Qw U (nx+64*j))
  (ai:Wq oj.op=true) (a1:Zc2 oi.op=true) (ab:ZfT s2.1 oi oj) {t:Nat} (ht:oi.dst=some t)
  (h1:Zv C M os nx j s=some s1) (h2:Zv C M os nx i s1=some s2):∃ t1,Zv C M os nx i s=some t1∧∃ t2,Zv C M os nx j t1=some t2∧QQ t2 s2:=by
 have a2:=hs;obtain⟨F,A,I,Γ,a,w,aj⟩:=a2;simp only[QJ,Kb] at au;obtain⟨⟨an,ao⟩,ak⟩:=au;have af : Wf oi.dst oj.dst=true:=by
  cases hd:oi.dst<;>cases he:oj.dst<;>rw[hd,he] at ao<;>first | rfl | (simp only[Wf,bne_iff_ne,ne_eq] at ao ⊢;exact fun e=>ao e.symm)
 have good:∀ (k:Nat) (o:CO),os[k]?=some o→∀ x∈Zr o.op,ZcD U (evO s.1 x):=by
  intro k o ho x hx;cases x with
  | t n=>exact aj.good n
  | v y=>exact Vy (ah k o ho _ hx)
  | f n=>exact⟨fun id a3=>by simp[evO,Zm,Zn] at a3,fun f a4 h c hc=>by cases h;simp at hc⟩
 have aa:∀ s:Sl×Hp,Zv C M os nx i s=ZA C M nx i false oi s:=fun s=>by simp only[Zv,ar,Zc,ay]
 rw[aa] at h2;simp only[Zv,ag,Zc] at h1;unfold ZA at h1;obtain⟨b,hw,h1⟩:=Za h1;cases b with
 | false=>
  simp only[Ka,Kj] at h1;cases h1;have al:ZK (Zi s.1 oj.dst (.tup [])) oi.guard=ZK s.1 oi.guard:=Z8 an;rcases ZlT h2 with ⟨g1,g2⟩ | ⟨g1,ce,g2,g3,g4,g5⟩
  ·subst g2;refine⟨(Zi s.1 oi.dst (.tup []),s.2),by rw[aa];exact Xe (al.symm.trans g1),(Zi (Zi s.1 oi.dst (.tup [])) oj.dst (.tup []),s.2),?_,fun t=>YU af _ _ t,fun id=>rfl⟩;simp only[Zv,ag,Zc];exact Xe (s:=(Zi s.1 oi.dst (.tup []),s.2)) ((Z8 ak).trans hw)
  ·subst g5;refine⟨(Zi s.1 oi.dst ce.eff.val,Zd s.2 ce.eff.adds),?_,(Zi (Zi s.1 oi.dst ce.eff.val) oj.dst (.tup []),Zd s.2 ce.eff.adds),?_,fun t=>YU af _ _ t,fun id=>rfl⟩
   ·rw[aa];refine Zbg (al.symm.trans g1) g2 ?_ g4;rw[← g3];exact(Qy C M s.2 (nx+64*i) (Yo (o:=oi) an)).symm
   ·simp only[Zv,ag,Zc];exact Xe (s:=(Zi s.1 oi.dst ce.eff.val,Zd s.2 ce.eff.adds)) ((Z8 ak).trans hw)
 | true=>
  simp only[Kl] at h1;obtain⟨ce,h3,h4,rfl⟩:=QG h1;have a5:vop C M s.1 s.2 (nx+64*j) oj.op=some ce:=Jv h3;have al:ZK (ce.on oj.dst s.1 s.2).1 oi.guard=ZK s.1 oi.guard:=by
   show ZK (Zi (Qx ce.gone s.1) oj.dst ce.eff.val) oi.guard=_;rw[Z8 an];exact Zbh fun q _=>Qe _ _ _
  obtain⟨v,ax,a6,aw,hX⟩:∃ v ax,s2=(Zi (ce.on oj.dst s.1 s.2).1 oi.dst v,Zd (ce.on oj.dst s.1 s.2).2 ax)∧(∀ k x,(k,x)∈ax→nx+64*i≤k∧k<nx+64*i+64) ∧
    ((ZK s.1 oi.guard=some false∧v=.tup []∧ax=[])∨(ZK s.1 oi.guard=some true∧∃ cx,ZdI cx∧vop C M (ce.on oj.dst s.1 s.2).1 (ce.on oj.dst s.1 s.2).2 (nx+64*i) oi.op=some cx∧Qn (nx+64*i) (nx+64*i+64) cx.eff.adds=true∧v=cx.eff.val∧ax=cx.eff.adds)):=by
   rcases ZlT h2 with ⟨g1,g2⟩ | ⟨g1,cx,g2,g3,g4,g5⟩
   ·exact⟨.tup [],[],g2,fun k x h=>by simp at h,.inl ⟨al.symm.trans g1,rfl,rfl⟩⟩
   ·exact⟨cx.eff.val,cx.eff.adds,g5,Vm g4,.inr ⟨al.symm.trans g1,cx,g2,g3,g4,rfl,rfl⟩⟩
  subst a6;have ap:∀ n,oi.dst≠some n→oj.dst≠some n→gs (Zi (ce.on oj.dst s.1 s.2).1 oi.dst v) n=kill ce.gone (gs s.1 n):=fun n e1 e2=>by
   rw[Z5,Kp e1];show gs (Zi (Qx ce.gone s.1) oj.dst ce.eff.val) n=_;rw[Z5,Kp e2,Qe]
  obtain⟨c1,c2,c3,c4,c5⟩:=ZfU (nt:=nt) hM ar ag az an ak ad ae ah hs av a0 ai a5 h4 ap ab;have aq:okV v=true:=by
   have h5:=ab.dst t ht;simp only[Z5,Kt ht] at h5;exact h5
  have am:kill ce.gone v=v∧(∀ k o,(k,o)∈ax→QD ce.gone o=o)∧ZA C M nx i false oi s=some (Zi s.1 oi.dst v,Zd s.2 ax):=by
   rcases hX with ⟨g1,rfl,rfl⟩ | ⟨g1,cx,g2,g3,g4,rfl,rfl⟩
   ·exact⟨rfl,fun k o h=>by simp at h,Xe g1⟩
   ·obtain⟨e1,e2,e3⟩:=ZlS a1 c2 c4 c3 (fun k h6 h7=>(c5 k h6 h7).2.2.2) g3 g4 g2.frz aq;exact⟨e2,e3,Zbg g1 g2 e1 g4⟩
  obtain⟨hk,e3,e4⟩:=am;refine⟨(Zi s.1 oi.dst v,Zd s.2 ax),by rw[aa];exact e4,ce.on oj.dst (Zi s.1 oi.dst v) (Zd s.2 ax),?_,?_⟩
  ·simp only[Zv,ag,Zc,ZA];have a7:ZK (Zi s.1 oi.dst v) oj.guard=some true:=(Z8 ak).trans hw;simp only[a7,Zc,Kl,Xf];have:Yk C M nx j (ZH os j) oj.op (Zi s.1 oi.dst v) (Zd s.2 ax)=some ce:=by
    rw[← h3];unfold Yk;rw[Qy C M (Zd s.2 ax) (nx+64*j) (Yo (o:=oj) ak),← V7 (aj.agree (Yp av aw s.2)) C M _ (good j oj ag)]
   rw[this,Zc,Kt h4]
  ·exact(ZmO (ce:=ce) (dX:=oi.dst) (dY:=oj.dst) (v:=v) (ax:=ax) (s:=s) af c1 (fun k o ho=>by
    obtain⟨h6,h7⟩:=aw k o ho;obtain⟨m1,m2,m3,_⟩:=c5 k h6 h7;exact⟨m1,m2,m3⟩) e3 hk).symm
theorem JI {C:Orc} {M:Zg} {nx j:Nat} {oj:CO} {x:Opd} (hx:oj.op=.move x) {s:Sl×Hp} {b:Bool} (hw:ZK s.1 oj.guard=some b) :
  ZA C M nx j false oj s=some (Zi s.1 oj.dst (if b then evO s.1 x else .tup []),s.2):=by
 unfold ZA;rw[hw,Zc];cases b
 ·rfl
 ·simp only[Kl,hx,Yk,Ka,Kj,vop];rfl
theorem ZlM {C:Orc} {M:Zg} {os:List CO} {nx i j:Nat} {oi oj:CO} (af:os[i]?=some oi) (am:os[j]?=some oj) (an:ZH os j=false) (ai:QJ oj oi=true)
  (ao:∀ (k:Nat) (o:CO),os[k]?=some o→∀ x∈Zr o.op,Xq x=true)
  {s s1 s2:Sl×Hp} (hm:Xv oj.op=true) {t:Nat} (ht:oj.dst=some t) (aj:okV (gs s2.1 t)=true)
  (h1:Zv C M os nx j s=some s1) (h2:Zv C M os nx i s1=some s2):∃ t1,Zv C M os nx i s=some t1∧∃ t2,Zv C M os nx j t1=some t2∧QQ t2 s2:=by
 obtain⟨x,hx⟩:∃ x,oj.op=.move x:=by
  cases ho:oj.op<;>rw[ho] at hm<;>first | (cases hm;done) | exact⟨_,rfl⟩
 simp only[QJ,Kb] at ai;obtain⟨⟨ak,ad⟩,ab⟩:=ai;have aa:∀ s:Sl×Hp,Zv C M os nx j s=ZA C M nx j false oj s:=fun s=>by simp only[Zv,am,Zc,an]
 rw[aa] at h1;obtain⟨bj,ag⟩:∃ bj,ZK s.1 oj.guard=some bj:=by
  unfold ZA at h1;obtain⟨b,hw,_⟩:=Za h1;exact⟨b,hw⟩
 rw[JI hx ag] at h1;have h1:=(Option.some.inj h1).symm;subst h1;simp only[Zv,af,Zc] at h2;unfold ZA at h2;obtain⟨b,hw,h2⟩:=Za h2;have al : ZK s.1 oi.guard=some b:=by rw[← hw];exact(Z8 ak).symm
 have ap:oi.dst≠some t:=fun e=>by rw[ht,e] at ad;simp[Wf] at ad
 have ae:∀ n,x=.t n→oi.dst≠some n:=fun n e h=>by
  rw[h] at ab;simp only[Qd,KI,KF,KT] at ab;exact ab (Kc.2 (.inl (by rw[hx,e];simp[Zr,WI])))
 cases b with
 | false=>
  simp only[Ka,Kj] at h2;cases h2;refine⟨(Zi s.1 oi.dst (.tup []),s.2),by simp only[Zv,af,Zc];exact Xe al,?_⟩;refine⟨_,by rw[aa];exact JI (s:=(Zi s.1 oi.dst (.tup []),s.2)) hx ((Z8 ab).trans ag),?_⟩;have:evO (Zi s.1 oi.dst (.tup [])) x=evO s.1 x:=Yo (o:=oj) ab x (by rw[hx];simp[Zr]);simp only[this];exact⟨fun t=>(YU ad _ _ t).symm,fun id=>rfl⟩
 | true=>
  simp only[Kl] at h2;obtain⟨ce,h3,h4,rfl⟩:=QG h2;have aq : Yk C M nx i (ZH os i) oi.op s.1 s.2=some ce:=by
   rw[← h3];unfold Yk;rw[Qy C M s.2 (nx+64*i) (Yo (o:=oi) ak)]
  refine⟨ce.on oi.dst s.1 s.2,by simp only[Zv,af,Zc,ZA,al,Kl,Xf];rw[aq,Zc,Kt h4],?_⟩;have ah:ZK (ce.on oi.dst s.1 s.2).1 oj.guard=some bj:=by
   show ZK (Zi (Qx ce.gone s.1) oi.dst ce.eff.val) oj.guard=_;rw[Z8 ab,← ag];exact Zbh fun q _=>Qe _ _ _
  refine⟨_,by rw[aa];exact JI hx ah,?_⟩;have e0:gs (ce.on oi.dst (Zi s.1 oj.dst (if bj then evO s.1 x else .tup [])) s.2).1 t=kill ce.gone (if bj then evO s.1 x else .tup []):=by
   show gs (Zi (Qx ce.gone (Zi s.1 oj.dst _)) oi.dst ce.eff.val) t=_;rw[Z5,Kp ap,Qe,Z5,Kt ht]
  rw[e0] at aj;have hk:=W6 aj;have ev:(if bj then evO (ce.on oi.dst s.1 s.2).1 x else .tup [])=(if bj then evO s.1 x else .tup []):=by
   cases bj with
   | false=>rfl
   | true=>
    simp only[Kl] at hk ⊢;cases x with
    | t n=>
     show gs (Zi (Qx ce.gone s.1) oi.dst ce.eff.val) n=gs s.1 n;rw[Z5,Kp (ae n rfl),Qe];exact hk
    | _=>rfl
  rw[ev];refine⟨fun q=>?_,fun id=>rfl⟩;show gs (Zi (Zi (Qx ce.gone s.1) oi.dst ce.eff.val) oj.dst _) q=gs (Zi (Qx ce.gone (Zi s.1 oj.dst _)) oi.dst ce.eff.val) q;simp only[Z5,Qe];by_cases hq:oj.dst=some q
  ·have:¬oi.dst=some q:=fun e=>by rw[hq,e] at ad;simp[Wf] at ad
   simp only[hq,Kl,this,Kj];exact hk.symm
  ·simp[hq]
theorem ZlN {C:Orc} {M:Zg} {os:List CO} {nx i j:Nat} {oi oj:CO} (am:os[i]?=some oi) (ag:os[j]?=some oj) (ar:ZH os i=false) (an:QJ oj oi=true)
  (ah:∀ (k:Nat) (o:CO),os[k]?=some o→∀ x∈Zr o.op,Xq x=true)
  {s s1 s2:Sl×Hp} (hm:Xv oi.op=true) {t:Nat} (ht:oi.dst=some t) (ai:okV (gs s2.1 t)=true)
  (h1:Zv C M os nx j s=some s1) (h2:Zv C M os nx i s1=some s2):∃ t1,Zv C M os nx i s=some t1∧∃ t2,Zv C M os nx j t1=some t2∧QQ t2 s2:=by
 obtain⟨x,hx⟩:∃ x,oi.op=.move x:=by
  cases ho:oi.op<;>rw[ho] at hm<;>first | (cases hm;done) | exact⟨_,rfl⟩
 simp only[QJ,Kb] at an;obtain⟨⟨ad,aj⟩,ak⟩:=an;have aa:∀ s:Sl×Hp,Zv C M os nx i s=ZA C M nx i false oi s:=fun s=>by simp only[Zv,am,Zc,ar]
 rw[aa] at h2;simp only[Zv,ag,Zc] at h1;unfold ZA at h1;obtain⟨b,hw,h1⟩:=Za h1;have af:∀ n,x=.t n→oj.dst≠some n:=fun n e h=>by
  rw[h] at ad;simp only[Qd,KI,KF,KT] at ad;exact ad (Kc.2 (.inl (by rw[hx,e];simp[Zr,WI])))
 have ao:∀ (bi:Bool) (e:evO s1.1 x=evO s.1 x∨bi=false) (g1:ZK s.1 oi.guard=some bi) (g2:ZK s1.1 oi.guard=some bi),s2=(Zi s1.1 oi.dst (if bi then evO s.1 x else .tup []),s1.2):=by
  intro bi e g1 g2;rw[JI hx g2] at h2;rw[← Option.some.inj h2];rcases e with e | e
  ·rw[e]
  ·rw[e];rfl
 cases b with
 | false=>
  simp only[Ka,Kj] at h1;cases h1;have ae:ZK (Zi s.1 oj.dst (.tup [])) oi.guard=ZK s.1 oi.guard:=Z8 ad;obtain⟨bi,ab⟩:∃ bi,ZK s.1 oi.guard=some bi:=by
   unfold ZA at h2;obtain⟨b,hw,_⟩:=Za h2;exact⟨b,ae.symm.trans hw⟩
  have e:evO (Zi s.1 oj.dst (.tup [])) x=evO s.1 x:=Yo (o:=oi) ad x (by rw[hx];simp[Zr]);have h5:=ao bi (.inl e) ab (ae.trans ab);subst h5;refine⟨_,by rw[aa];exact JI hx ab,(Zi (Zi s.1 oi.dst (if bi then evO s.1 x else .tup [])) oj.dst (.tup []),s.2),?_,fun t=>?_,fun id=>rfl⟩
  ·simp only[Zv,ag,Zc];exact Xe (s:=(Zi s.1 oi.dst (if bi then evO s.1 x else .tup []),s.2)) ((Z8 ak).trans hw)
  ·exact(YU aj _ _ t).symm
 | true=>
  simp only[Kl] at h1;obtain⟨ce,h3,h4,rfl⟩:=QG h1;have ae:ZK (ce.on oj.dst s.1 s.2).1 oi.guard=ZK s.1 oi.guard:=by
   show ZK (Zi (Qx ce.gone s.1) oj.dst ce.eff.val) oi.guard=_;rw[Z8 ad];exact Zbh fun q _=>Qe _ _ _
  obtain⟨bi,ab⟩:∃ bi,ZK s.1 oi.guard=some bi:=by
   unfold ZA at h2;obtain⟨b,hw,_⟩:=Za h2;exact⟨b,ae.symm.trans hw⟩
  have ap:=h2;rw[JI hx (ae.trans ab)] at ap;have h6:=Option.some.inj ap;have hv:okV (if bi then evO (ce.on oj.dst s.1 s.2).1 x else .tup [])=true:=by
   rw[← h6] at ai;simp only[Z5,Kt ht] at ai;exact ai
  have aq:kill ce.gone (if bi then evO s.1 x else .tup [])=(if bi then evO s.1 x else .tup [])∧(evO (ce.on oj.dst s.1 s.2).1 x=evO s.1 x∨bi=false):=by
   cases bi with
   | false=>exact⟨rfl,.inr rfl⟩
   | true=>
    simp only[Kl] at hv ⊢;cases x with
    | t n=>
     have e:evO (ce.on oj.dst s.1 s.2).1 (.t n)=kill ce.gone (gs s.1 n):=by
      show gs (Zi (Qx ce.gone s.1) oj.dst ce.eff.val) n=_;rw[Z5,Kp (af n rfl),Qe]
     rw[e] at hv ⊢;have:=W6 hv;exact⟨this,.inl this⟩
    | v c=>
     have hc:=ah i oi am (.v c) (by rw[hx];simp[Zr]);simp only[Xq,Kb,List.isEmpty_iff] at hc;exact⟨ZmM hv fun id al=>by simp only[evO] at al;rw[hc.1] at al;simp at al,.inl rfl⟩
    | f n=>simp only[evO,okV,okC] at hv;cases hv
  have h5:=ao bi aq.2 ab (ae.trans ab);subst h5;refine⟨_,by rw[aa];exact JI hx ab,ce.on oj.dst (Zi s.1 oi.dst (if bi then evO s.1 x else .tup [])) s.2,?_,fun q=>?_,fun id=>rfl⟩
  ·simp only[Zv,ag,Zc,ZA];have au:ZK (Zi s.1 oi.dst (if bi then evO s.1 x else .tup [])) oj.guard=some true:=(Z8 ak).trans hw;simp only[au,Zc,Kl,Xf];have:Yk C M nx j (ZH os j) oj.op (Zi s.1 oi.dst (if bi then evO s.1 x else .tup [])) s.2=some ce:=by
    rw[← h3];unfold Yk;rw[Qy C M s.2 (nx+64*j) (Yo (o:=oj) ak)]
   rw[this,Zc,Kt h4]
  ·show gs (Zi (Qx ce.gone (Zi s.1 oi.dst _)) oj.dst ce.eff.val) q=gs (Zi (Zi (Qx ce.gone s.1) oj.dst ce.eff.val) oi.dst _) q;simp only[Z5,Qe];by_cases hq:oi.dst=some q
   ·have:¬oj.dst=some q:=fun e=>by rw[hq,e] at aj;simp[Wf] at aj
    simp only[hq,Kl,this,Kj];exact aq.1
   ·simp[hq]
theorem ZmK {C:Orc} {M:Zg} (hM:∀ f,M f 99=false) (hC:Qc P C) {ops:Array Oper} {os:List CO} (a9:Z7 (ZeJ P nt ops.toList) ops.toList=some os) {nx i:Nat} {ks:List Nat} {oi:CO} (ab:os[i]?=some oi)
  (ad:∀ (k:Nat) (o:CO),os[k]?=some o→∀ x∈Zr o.op,Xq x=true) :
  ∀ (js:List Nat) {s r:Sl×Hp} {U:Nat→Prop},ZbK nt s U→Qw U (nx+64*i)→(∀ j∈js,Qw U (nx+64*j))→(js++i :: ks).Pairwise (· < ·) →
   (∀ j∈js,∃ oj,os[j]?=some oj∧QJ oj oi=true∧((ZH os j=false∧(ZH os i=true→Zma oi.op=true∨(Zgt oi.op=true∧(Yt oj.op=true∨(VJ oj.op=true∧WJ os j=true∧WJ os i=true∧ZcG r.1 oj.op oi.op=true)))∨(Xv oj.op=true∧JY oi.op=true)∨(Xv oj.op=true∧ZeZ os j=true∧okD r.1 oj.dst=true) ∨
    (Xv oj.op=false∧Wq oi.op=true∧Zgv oj.op=true∧WJ os j=true∧WJ os i=true∧ZeZ os j=true∧Vd r.1 oj.dst oj.op oi.op=true))) ∨
    (ZH os j=true∧ZH os i=false∧Xv oi.op=true∧ZeZ os i=true∧okD r.1 oi.dst=true) ∨
    (ZH os j=true∧ZH os i=false∧Xv oi.op=false∧Wq oj.op=true∧Zc2 oi.op=true∧WJ os j=true∧WJ os i=true∧ZeZ os i=true∧Vd r.1 oi.dst oi.op oj.op=true))) →
   (∀ j∈js++i :: ks,j<os.length)→JH C M os nx (js++i :: ks) s=some r →
   ∃ s',Zv C M os nx i s=some s'∧∃ r',JH C M os nx (js++ks) s'=some r'∧QQ r' r
 | [],s,r,U,_,_,_,_,_,_,h=>by
  simp only[Lr,JH] at h ⊢;obtain⟨s',h1,h⟩:=Za h;exact⟨s',h1,r,h,QQ.refl r⟩
 | j :: js,s,r,U,hs,hfi,hfj,hsort,hj,hlt,h=>by
  have a1:=h;simp only[KU,JH] at h;obtain⟨s1,h1,h⟩:=Za h;have a8:=hsort;simp only[KU,LR] at hsort;have bk:j<i:=hsort.1 i (by simp);have a0:i≠j:=by omega
  have a':=ZlH hC a9 hs (hfj j (by simp)) h1;have ba:∀ k∈js,k≠j:=fun k hk e=>by
   have:=hsort.1 k (by simp[hk]);omega
  obtain⟨s2,h2,r2,h3,h4⟩:=ZmK hM hC a9 ab ad js a' (Ziq a0 hfi) (fun k hk=>Ziq (ba k hk) (hfj k (by simp[hk]))) hsort.2 (fun k hk=>hj k (by simp[hk])) (fun k hk=>hlt k (by simp only[KU,Ke];exact .inr hk)) h;obtain⟨oj,ae,au,a2⟩:=hj j (by simp);have aa:∀ {k q n:Nat} {o:CO},WJ os k=true→os[k]?=some o→k≤q→q<os.length→n∈Xp o→Qd (Vj os q) [n]=true:=by
   intro k q n o am ho bl hq hn;have:=KE.1 am q (K7.2 hq);simp only[ZjW,ho,Ld,Kq] at this;rcases this with h | h
   ·omega
   ·cases hd:Vj os q with
    | none=>rfl
    | some d=>
     rw[hd] at h;simp only[Qd,KI,KF,KT] at h ⊢;intro e;simp at e;exact h (e ▸ hn)
  have af:∀ {k:Nat} {o:CO},WJ os k=true→os[k]?=some o→Qd o.dst (Xp o)=true:=by
   intro k o am ho;have hk:k<os.length:=(Kd.1 ho).1;have:=KE.1 am k (K7.2 hk);simp only[ZjW,Vj,ho,Ld,Kq] at this;rcases this with h | h
   ·omega
   ·exact h
  have ag:∀ {k q t:Nat} {o:CO},ZeZ os k=true→os[k]?=some o→o.dst=some t→q≠k→q<os.length→Qd (Vj os q) [t]=true:=by
   intro k q t o hl ho ht bb hq;simp only[ZeZ,Kb] at hl;have:=KE.1 hl.2 q (K7.2 hq);simp only[Ld,beq_iff_eq,Vj,ho,ht] at this;rcases this with h | h
   ·exact absurd h bb
   ·simp only[Vj];cases a3:os[q]? with
    | none=>rfl
    | some oq=>
     rw[a3] at h;simp only at h ⊢;cases hd:oq.dst with
     | none=>rfl
     | some d=>
      rw[hd] at h;simp only[Wf,bne_iff_ne,ne_eq] at h;simp only[Qd,KI,KF,KT,KC];exact h
  have ah:∀ {k:Nat} {o:CO},ZeZ os k=true→os[k]?=some o→∃ t,o.dst=some t:=by
   intro k o hl ho;simp only[ZeZ,Vj,ho,Kb] at hl;cases hd:o.dst with
   | none=>rw[hd] at hl;cases hl.1
   | some t=>exact⟨t,rfl⟩
  have av:∀ n,(∀ q∈js++ks,Qd (Vj os q) [n]=true)→okV (gs r.1 n)=true→gs s2.1 n=gs r.1 n:=by
   intro n hn ho;rw[← h4.1 n] at ho ⊢;exact ZoN h3 hn ho
  have ak:∀ q∈js++ks,q≠i∧j<q∧q<os.length:=by
   intro q hq;refine⟨?_,?_,hlt q ?_⟩
   ·rcases Kc.1 hq with hq | hq
    ·have:=(LL.1 hsort.2).2.2 q hq i (by simp);omega
    ·have:=(LR.1 (LL.1 hsort.2).2.1).1 q hq;omega
   ·rcases Kc.1 hq with hq | hq
    ·exact hsort.1 q (by simp[hq])
    ·exact hsort.1 q (by simp[hq])
   ·rcases Kc.1 hq with hq | hq<;>simp[hq]
  have an:WJ os j=true→∀ n∈Xp oj,∀ q∈js++ks,Qd (Vj os q) [n]=true:=fun am n hn q hq=>by
   obtain⟨_,h6,h7⟩:=ak q hq;exact aa am ae (by omega) h7 hn
  have ao:WJ os i=true→∀ n∈Xp oi,∀ q∈js++ks,Qd (Vj os q) [n]=true:=fun am n hn q hq=>by
   obtain⟨_,h6,h7⟩:=ak q hq;rcases Kc.1 hq with hq | hq
   ·obtain⟨oq,a3,ap,_⟩:=hj q (by simp[hq]);simp only[QJ,Kb] at ap;have h5:=ap.1.1;simp only[Vj,a3];cases hd:oq.dst with
    | none=>rfl
    | some d=>
     rw[hd] at h5;simp only[Qd,KI,KF,KT] at h5 ⊢;intro e;simp at e;exact h5 (e ▸ hn)
   ·have:=(LR.1 (LL.1 hsort.2).2.1).1 q hq;exact aa am ab (by omega) h7 hn
  have ai:∀ {o:CO} {n:Nat},n∈(Zr o.op).flatMap WI→n∈Xp o:=fun h=>Kc.2 (.inl h);have aj:∀ {o:CO} {n:Nat},n∈(ZdU o.op).flatMap WI→n∈Xp o:=fun {o n} h=>by
   refine Kc.2 (.inl ?_);cases ho:o.op<;>rw[ho] at h<;>simp only[ZdU,List.flatMap_nil,LA] at h
   simp only[Zr,Kz,Kc];exact .inr h
  have a4:∃ t1,Zv C M os nx i s=some t1∧∃ t2,Zv C M os nx j t1=some t2∧QQ t2 s2:=by
   rcases a2 with ⟨aw,ay⟩ | ⟨aw,az,k1,k5,k6⟩ | ⟨aw,az,k0,k1,k2,k3,k4,k5,k6⟩
   case inr.inl=>
    obtain⟨t,ht⟩:=ah k5 ab;refine ZlN ab ae az au ad k1 ht ?_ h1 h2;rw[ht] at k6;simp only[okD] at k6;rw[av t (fun q hq=>?_) k6]
    ·exact k6
    ·obtain⟨h5,_,h7⟩:=ak q hq;exact ag k5 ab ht h5 h7
   case inr.inr=>
    obtain⟨t,ht⟩:=ah k5 ab;refine ZkD hM ab ae az a0 au (af k4 ab) (af k3 ae) ad hs hfi (hfj j (by simp)) k1 k2 ?_ ht h1 h2;refine(ZkC k0 k1 k6).move (fun n hn=>av n (ao k4 n (ai hn))) (fun n hn=>av n fun q hq=>?_) (fun n hn=>av n (an k3 n (aj hn)));obtain⟨h5,_,h7⟩:=ak q hq;exact ag k5 ab hn h5 h7
   cases az:ZH os i with
   | false=>exact Zny ab ae az aw a0 au ad hs hfi (hfj j (by simp)) h1 h2
   | true=>
    rcases ay az with hc | ⟨am,hl⟩ | ⟨bc,bd⟩ | ⟨k1,k5,k6⟩ | ⟨k0,k1,k2,k3,k4,k5,k6⟩
    case inr.inr.inr.inl=>
     obtain⟨t,ht⟩:=ah k5 ae;refine ZlM ab ae aw au ad k1 ht ?_ h1 h2;rw[ht] at k6;simp only[okD] at k6;rw[av t (fun q hq=>?_) k6]
     ·exact k6
     ·obtain⟨_,h6,h7⟩:=ak q hq;exact ag k5 ae ht (by omega) h7
    case inr.inr.inr.inr=>
     obtain⟨t,ht⟩:=ah k5 ae;refine ZlL hM ab ae aw a0 au (af k3 ae) (af k4 ab) ad hs hfi (hfj j (by simp)) k1 k2 ?_ ht h1 h2;refine(ZkC k0 k1 k6).move (fun n hn=>av n (an k3 n (ai hn))) (fun n hn=>av n fun q hq=>?_) (fun n hn=>av n (ao k4 n (aj hn)));obtain⟨_,h6,h7⟩:=ak q hq;exact ag k5 ae hn (by omega) h7
    ·exact ZnC ab ae hc aw a0 au ad hs hfi (hfj j (by simp)) h1 h2
    ·refine ZlK ab ae az aw a0 au ad hs hfi (hfj j (by simp)) ⟨am,?_⟩ h1 h2;rcases hl with hl | ⟨be,bf,bg,al⟩
     ·exact .inl hl
     ·refine .inr ⟨be,?_⟩;have a5:∀ x∈Zr oi.op,okW (evO r.1 x)=true→evO s.1 x=evO r.1 x:=by
       intro x hx ax;cases x with
       | v a=>rfl
       | f n=>rfl
       | t n=>
        simp only[evO] at ax ⊢;have hn:n∈Xp oi:=by
         rw[Xp];exact Kc.2 (.inl (Kr.2 ⟨.t n,hx,KC.2 rfl⟩))
        refine Zjw a1 (fun q hq=>?_) ax;rcases Kc.1 hq with hq | hq
        ·obtain⟨oq,a3,ap,_⟩:=hj q hq;simp only[QJ,Kb] at ap;have h5:=ap.1.1;simp only[Vj,a3];cases hd:oq.dst with
         | none=>rfl
         | some d=>
          rw[hd] at h5;simp only[Qd,KI,KF,KT] at h5 ⊢;intro e;simp at e;exact h5 (e ▸ hn)
        ·refine aa bg ab ?_ (hlt q (Kc.2 (.inr hq))) hn;rcases Ke.1 hq with rfl | hq
         ·omega
         ·have:=LL.1 hsort.2;have:=(LR.1 this.2.1).1 q hq;omega
      have a7:∀ id,Qk r.1 id (Zr oj.op)=true→Qk s.1 id (Zr oj.op)=true:=by
       intro id bh;have bi:∀ xs:List Opd,(∀ z∈xs,z∈Zr oj.op)→Qk r.1 id xs=true→Qk s.1 id xs=true:=by
        intro xs
        induction xs with
        | nil=>intro _ _;rfl
        | cons z zs ihz=>
         intro a6 hz;simp only[Qk,Kb] at hz ⊢;refine⟨?_,ihz (fun z' bj=>a6 z' (by simp[bj])) hz.2⟩;cases z with
         | v a=>exact hz.1
         | f n=>exact hz.1
         | t n=>
          simp only[evO] at hz ⊢;have hn:n∈Xp oj:=by
           rw[Xp];exact Kc.2 (.inl (Kr.2 ⟨.t n,a6 (.t n) (K1 ..),KC.2 rfl⟩))
          rw[ZoN a1 (fun q hq=>?_) (Zqb hz.1)]
          ·exact hz.1
          ·refine aa bf ae ?_ (hlt q hq) hn;rcases Kc.1 hq with hq | hq
           ·rcases Ke.1 hq with rfl | hq
            ·omega
            ·have:=hsort.1 q (by simp[hq]);omega
           ·have:=hsort.1 q (by simp only[Kc];exact .inr hq);omega
       exact bi _ (fun _ h=>h) bh
      cases ho:oi.op<;>rw[ho] at am al<;>first | (cases am;done) | skip
      case store slc sz x y=>
       simp only[ZcG,Kb] at al ⊢;obtain⟨al,ar⟩:=al;have ax:okV (evO r.1 x)=true:=by
        cases ht:XP (evO r.1 x) with
        | none=>rw[ht] at al;simp[J0] at al
        | some id=>cases hv:evO r.1 x<;>rw[hv] at ht<;>simp only[XP] at ht<;>first | (cases ht;done) | rfl
       rw[a5 x (by rw[ho];simp[Zr]) (Zfg ax)];constructor
       ·cases ht:XP (evO r.1 x) with
        | none=>rw[ht] at al;simp[J0] at al
        | some id=>rw[ht] at al;exact a7 id al
       ·by_cases hp:∃ b1 b2 b3 b4,evO r.1 x=.prow b1 b2 b3 b4
        ·obtain⟨b1,b2,b3,b4,hp⟩:=hp;rw[hp] at ar ⊢;rcases Zes ar with ⟨d,hv⟩ | hv
         ·rw[a5 y (by rw[ho];simp[Zr]) (by rw[hv];rfl),hv];rfl
         ·rw[a5 y (by rw[ho];simp[Zr]) (Zfg hv.1)];exact ZnB ⟨hv.1,ZfP a7 hv.2⟩
        ·exact Zjx fun b1 b2 b3 b4 e=>hp ⟨b1,b2,b3,b4,e⟩
      case append sz by_ str flat x y=>
       simp only[ZcG,Kb,Ld] at al ⊢;obtain⟨ar,aq⟩:=al;constructor
       ·have ax:okW (evO r.1 x)=true:=by
         cases hv:evO r.1 x<;>rw[hv] at ar<;>first | rfl | (cases ar;done) | skip
         case tup vs=>cases vs<;>first | rfl | cases ar
        rw[a5 x (by rw[ho];simp[Zr]) ax];cases hv:evO r.1 x<;>rw[hv] at ar<;>first | (cases ar;done) | exact a7 _ ar | skip
        ·rfl
        case tup vs=>cases vs<;>first | rfl | cases ar
       ·rcases aq with aq | aq
        ·exact .inl aq
        ·right
         have ax:okW (evO r.1 y)=true:=by
          unfold seenSrc at aq;split at aq
          ·rename_i k hk;rw[hk];rfl
          ·exact Zfg aq
         rw[a5 y (by rw[ho];simp[Zr]) ax];unfold seenSrc at aq ⊢;split at aq
         ·exact a7 _ aq
         ·exact aq
    ·exact ZnE ab ae aw au bc bd h1 h2
  obtain⟨t1,g1,t2,g2,g3⟩:=a4;obtain⟨r3,g4,g5⟩:=ZfN g3.symm h3;refine⟨t1,g1,r3,?_,g5.symm.trans h4⟩;simp only[KU,JH,g2,Zc];exact g4
def rem (n:Nat) (listed:Array Bool):List Nat:=(List.range n).filter fun i=>!listed.getD i true
theorem Zbe {n:Nat} {aa:Array Bool} {i:Nat}:i∈rem n aa↔i<n∧aa.getD i true=false:=by
 simp[rem]
theorem ZfV (n:Nat) (aa:Array Bool):(rem n aa).Pairwise (· < ·):=List.Pairwise.filter _ List.pairwise_lt_range
theorem Zqe {n:Nat} {aa:Array Bool} (ad:aa.size=n) (i:Nat):rem n (aa.setIfInBounds i true)=(rem n aa).filter fun j=>j != i:=by
 simp only[rem,List.filter_filter];refine List.filter_congr fun j hj=>?_;have ae:j<n:=K7.1 hj;by_cases ab:i=j
 ·subst ab;simp[ad,ae]
 ·simp[Array.getElem?_setIfInBounds_ne ab,Ne.symm ab]
def Zit (nx:Nat) (listed:Array Bool) (id:Nat):Prop:=id<nx∨∃ k,listed.getD k false=true∧nx+64*k≤id∧id<nx+64*k+64
theorem Y8 {l:Array Bool} {k:Nat} (h:l.getD k false=true):k<l.size∧l.getD k true=true:=by
 rcases KO k l.size with h1 | h1
 ·refine⟨h1,?_⟩;simp[h1] at h ⊢;exact h
 ·simp[Array.getElem?_eq_none h1] at h
theorem ZfW {nx i:Nat} {aa:Array Bool} (h:aa.getD i true=false):Qw (Zit nx aa) (nx+64*i):=by
 intro id h1 h2 hu;rcases hu with hu | ⟨k,hk,h3,h4⟩
 ·omega
 ·have ab:k≠i:=fun e=>by subst e;rw[(Y8 hk).2] at h;cases h
  rcases LB ab with h5 | h5<;>omega
theorem ZfX {nx i:Nat} {aa:Array Bool} (hi:i<aa.size):∀ id,VI (Zit nx aa) (nx+64*i) id→Zit nx (aa.setIfInBounds i true) id:=by
 rintro id ((h | ⟨k,hk,h1⟩) | h)
 ·exact .inl h
 ·exact .inr ⟨k,getD_set_true hk,h1⟩
 ·exact .inr ⟨i,by simp[hi],h.1,h.2⟩
end
end Go.Abs
