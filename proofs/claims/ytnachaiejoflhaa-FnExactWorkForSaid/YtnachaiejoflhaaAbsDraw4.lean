/- Own text. -/
import Derived.Test.YtnachaiejoflhaaAbsDrawD
set_option linter.unusedVariables false
set_option linter.unusedSimpArgs false
namespace Go.Abs
open Go
section
variable {P:Program} {nt:Nat}
theorem Zgm {α β:Type} {f:α→Option β}:∀ {l:List α} {r:List β},Z5 f l=some r→∀ (i:Nat) (x:α),l[i]?=some x→∃ y,r[i]?=some y∧f x=some y
 | [],r,h,i,x,hx=>by simp at hx
 | a :: l,r,h,i,x,hx=>by
  simp only[Z5] at h;obtain⟨y,h1,h⟩:=Za h;obtain⟨ys,h2,h⟩:=Za h;cases h;cases i with
  | zero=>simp at hx;subst hx;exact⟨y,by simp,h1⟩
  | succ i=>simp at hx;obtain⟨z,h3,h4⟩:=Zgm h2 i x hx;exact⟨z,by simpa using h3,h4⟩
theorem UC {α β:Type} {f:α→Option β}:∀ {l:List α} {r:List β},Z5 f l=some r→r.length=l.length
 | [],r,h=>by simp only[Z5] at h;cases h;rfl
 | a :: l,r,h=>by
  simp only[Z5] at h;obtain⟨y,h1,h⟩:=Za h;obtain⟨ys,h2,h⟩:=Za h;cases h;simp[UC h2]
theorem Zme {C:Orc} {M:Zf} (hC:Z6 P C) {ops:Array Oper} {os:List CO} (ad:Z5 (ZeI P nt ops.toList) ops.toList=some os) {nx i:Nat} {s s' : Sl×Hp} {U:Nat→Prop} (hs:ZbQ nt s U) (hf:Qv U (nx+64*i))
  (h:Zr C M os nx i s=some s'):ZbQ nt s' (Vy U (nx+64*i)):=by
 obtain⟨F,A,I,Γ,a,w,aa⟩:=hs;unfold Zr at h;obtain⟨co,ae,h⟩:=Za h;have ag:i<ops.toList.length:=by rw[← UC ad];exact(Kc.1 ae).1
 obtain⟨am,h1,h2⟩:=Zgm ad i ops.toList[i] (Kl ag);rw[ae] at h1;cases h1;obtain⟨hg,ah,ab,af⟩:=ZcB h2;unfold Zv at h;obtain⟨b,hw,h⟩:=Za h;cases b with
 | true=>
  simp only[Ki] at h;obtain⟨ce,ai,aj,rfl⟩:=QD h;have ak:=Zl8 hC aa ah hf ab aj (Jp ai) (fun a' w'=>∃ F A I Γ a w,Sim nt F A I Γ (Vy U (nx+64*i)) (ce.on co.dst s.1 s.2).1 (ce.on co.dst s.1 s.2).2 a w) (fun _ _ _=>False) fun u w' hp=>by
   obtain⟨I1,Γ1,b1,b2,b3,b4,b5⟩:=hp;rw[← af] at b5;exact⟨F,A,I1,Γ1,_,_,b5⟩
  obtain⟨_,_,al⟩:=Oper.wp_ex ak;exact al
 | false=>
  simp only[Ka,Kh] at h;cases h;obtain⟨I1,Γ1,b1,b2,b3,b4,b5⟩:=aa.pure (U':=Vy U (nx+64*i)) (v:=.tup []) (u:=undef) (dst:=co.dst) (fun id hu=>.inl hu) Zd8 (by rw[af];exact ab);exact⟨F,A,I1,Γ1,_,_,b5⟩
theorem Zin {U:Nat→Prop} {nx i j:Nat} (aa:i≠j) (h:Qv U (nx+64*i)):Qv (Vy U (nx+64*j)) (nx+64*i):=by
 intro id h1 h2 hu;rcases hu with hu | hu
 ·exact h id h1 h2 hu
 ·rcases Lf aa with h3 | h3<;>omega
theorem ZqJ {id:Nat} {v:AV} (h:Um id v=true):okV v=true:=by
 cases v with
 | tup vs=>cases vs with
  | nil=>rfl
  | cons x r=>cases h
 | _=>first | rfl | cases h
def okW (v:AV):Bool:=okV v
theorem Zfe {v:AV} (h:okV v=true):okW v=true:=h
theorem Zpt {g:List Nat} {v:AV} (h:okW (kill g v)=true):kill g v=v:=W5 h
theorem ZqK {C:Orc} {M:Zf} {os:List CO} {nx q n:Nat} {s r:Sl×Hp} (h:Zr C M os nx q s=some r) (hd:Qg (YZ os q) [n]=true) (hk:okW (gs r.1 n)=true):gs s.1 n=gs r.1 n:=by
 unfold Zr at h;obtain⟨o,ho,h⟩:=Za h;have aa:o.dst≠some n:=by
  intro e;simp[YZ,ho,e,Qg] at hd
 unfold Zv at h;obtain⟨b,_,h⟩:=Za h;cases b with
 | true=>
  simp only[Ki] at h;obtain⟨ce,_,_,rfl⟩:=QD h;have e1:gs (ce.on o.dst s.1 s.2).1 n=kill ce.gone (gs s.1 n):=by
   show gs (Zi (Qs ce.gone s.1) o.dst ce.eff.val) n=_;rw[Z3,Ko aa,Qh]
  rw[e1] at hk ⊢;exact(Zpt hk).symm
 | false=>
  simp only[Ka,Kh] at h;cases h;show gs s.1 n=gs (Zi s.1 o.dst (.tup [])) n;rw[Z3,Ko aa]
theorem ZjF {C:Orc} {M:Zf} {os:List CO} {nx n:Nat}:∀ {l:List Nat} {s r:Sl×Hp},JP C M os nx l s=some r→(∀ q∈l,Qg (YZ os q) [n]=true)→okW (gs r.1 n)=true→gs s.1 n=gs r.1 n
 | [],s,r,h,_,_=>by simp only[JP] at h;cases h;rfl
 | i :: l,s,r,h,hd,hk=>by
  simp only[JP] at h;obtain⟨s1,h1,h⟩:=Za h;have h2:=ZjF h (fun q hq=>hd q (by simp[hq])) hk;rw[← h2] at hk ⊢;exact ZqK h1 (hd i (by simp)) hk
theorem Zpu {C:Orc} {M:Zf} {os:List CO} {nx n:Nat} {l:List Nat} {s r:Sl×Hp} (h:JP C M os nx l s=some r) (hd:∀ q∈l,Qg (YZ os q) [n]=true) (hk:okV (gs r.1 n)=true):gs s.1 n=gs r.1 n:=ZjF h hd (Zfe hk)
theorem Zmf {C:Orc} {M:Zf} {sl:Sl} {hp:Hp} {base:Nat} {c:COp} {ce:Zb} (hc:ZmG c=true) (h:vop C M sl hp base c=some ce):Uo (vop C M sl hp base c)=some ce:=by
 rw[h];have aa:ce.gone=[]∧ce.eff.sets=[]∧ce.eff.dels=[]∧ce.eff.frz=[]:=by
  have o1:∀ {v:AV},Qj v=some ce→ce.gone=[]∧ce.eff.sets=[]∧ce.eff.dels=[]∧ce.eff.frz=[]:=fun h=>by cases h;exact⟨rfl,rfl,rfl,rfl⟩
  have o2:∀ {v:Option AV},XF v=some ce→ce.gone=[]∧ce.eff.sets=[]∧ce.eff.dels=[]∧ce.eff.frz=[]:=fun h=>by obtain⟨v,_,h⟩:=Za h;exact o1 h
  cases c<;>simp only[ZmG,Ka] at hc<;>simp only[vop] at h
  case stuck=>cases h
  case move x=>exact o1 h
  case assign s x=>
   unfold JY at h;split at h
   ·obtain⟨s,_,h⟩:=Za h;cases h;exact⟨rfl,rfl,rfl,rfl⟩
   ·exact o1 h
  case pick c a b=>
   unfold ZaW at h;split at h
   ·split at h<;>exact o1 h
   ·cases h
  case alloc slc cs=>
   unfold ZaX ZgM at h;split at h
   ·split at h<;>first | (cases h;done) | (cases h;exact⟨rfl,rfl,rfl,rfl⟩)
   ·split at h<;>(cases h;exact⟨rfl,rfl,rfl,rfl⟩)
  case box x=>
   unfold Zoq at h;split at h
   ·cases h;exact⟨rfl,rfl,rfl,rfl⟩
   ·cases h
  case build zs ps=>obtain⟨cs,_,h⟩:=Za h;exact o1 h
  case load g s a=>exact o2 h
  case nilCheck x=>unfold VU at h;split at h<;>first | exact o1 h | cases h
  case bin op eq x y=>
   unfold ZgO at h;split at h
   ·split at h
    ·exact o2 h
    ·cases h
   ·exact o2 h
  case un op x=>exact o2 h
  case eqA neg n x y=>
   unfold ZjX at h;split at h
   ·obtain⟨r,_,h⟩:=Za h;exact o1 h
   ·cases h
  case convI k x=>unfold Go.Abs.convI at h;split at h<;>first | exact o1 h | cases h
  case convS x=>unfold Go.Abs.convS at h;split at h<;>first | exact o1 h | cases h
  case fn f cs=>exact o2 h
  case make s b z l c=>
   obtain⟨l,_,h⟩:=Za h;obtain⟨c,_,h⟩:=Za h;unfold ZiG at h;split at h
   ·cases h;exact⟨rfl,rfl,rfl,rfl⟩
   ·cases h
  case slice s x lo hi=>exact o2 h
  case sliceS x lo hi=>exact o2 h
  case slice0 x hi mx=>exact o2 h
  case slice3 s x lo hi mx=>exact o2 h
  case shift off x=>unfold X4 at h;split at h<;>first | exact o1 h | cases h
  case part g s off x=>exact o2 h
  case iaS s x i=>
   obtain⟨n,_,h⟩:=Za h;unfold ZbY at h;split at h
   ·exact o2 h
   ·cases h
  case iaA len s x i=>
   obtain⟨n,_,h⟩:=Za h;unfold ZgQ at h;split at h
   ·unfold X4 at h;split at h<;>first | exact o1 h | cases h
   ·cases h
  case ixS x i=>
   obtain⟨n,_,h⟩:=Za h;unfold Zmy at h;split at h
   ·unfold Zls at h;split at h
    ·obtain⟨b,_,h⟩:=Za h;exact o1 h
    ·cases h
   ·cases h
  case ixA g s len x i=>
   obtain⟨n,_,h⟩:=Za h;unfold Zos at h;split at h
   ·exact o2 h
   ·cases h
  case nth i x=>unfold Zlt at h;split at h<;>first | exact o2 h | cases h
  case len x=>obtain⟨n,_,h⟩:=Za h;exact o1 h
  case lenS x=>obtain⟨n,_,h⟩:=Za h;exact o1 h
  case min x y=>unfold ZeF at h;split at h<;>first | (split at h<;>first | exact o1 h | cases h) | cases h
  case max x y=>unfold ZeG at h;split at h<;>first | (split at h<;>first | exact o1 h | cases h) | cases h
 simp only[Uo,Zc,aa.1,aa.2.1,aa.2.2.1,aa.2.2.2,Zaa]
theorem Zn0 {C:Orc} {M:Zf} {nx i:Nat} {o:CO} (hc:ZmG o.op=true) (s:Sl×Hp):Zv C M nx i true o s=Zv C M nx i false o s:=by
 unfold Zv;have:XP C M nx i true o.op s.1 s.2=XP C M nx i false o.op s.1 s.2:=by
  unfold XP;simp only[Ki,Ka,Kh];cases h:vop C M s.1 s.2 (nx+64*i) o.op with
  | none=>rfl
  | some ce=>rw[← h,Zmf hc h,h]
 rw[this]
theorem vop_read {C:Orc} {M:Zf} {sl:Sl} {hp hp' : Hp} {base:Nat} {c:COp} (hc:Vu c=true) (h:∀ x∈Zq c,∀ k∈Zl (evO sl x),lkp hp k=lkp hp' k):vop C M sl hp base c=vop C M sl hp' base c:=by
 have len:∀ v:AV,(∀ k∈Zl v,lkp hp k=lkp hp' k)→UY hp v=UY hp' v:=fun v hv=>by
  cases v<;>simp only[UY]
  case d x=>cases x<;>rfl
  case own id=>rw[hv id (by simp[Zl,Zn,Ze])]
 cases c<;>simp only[Vu,Ka] at hc<;>simp only[Zq] at h<;>simp only[vop]
 case load g s a=>
  have:=h a (by simp);cases hv:evO sl a<;>rw[hv] at this<;>simp only[YD]
  case ptr id off=>rw[this id (by simp[Zl,Zn,Ze])]
  case prow id sz i off=>rw[this id (by simp[Zl,Zn,Ze])]
 case slice s x lo hi=>
  have:=h x (by simp);cases hv:evO sl x<;>rw[hv] at this<;>simp only[XE]
  case d x=>cases x<;>rfl
  case own id=>rw[this id (by simp[Zl,Zn,Ze])]
  case ownv id off n=>rw[this id (by simp[Zl,Zn,Ze])]
 case slice0 x hi mx=>
  unfold slice0;rw[len _ (h x (by simp))]
 case iaS s x i=>
  congr 1
  funext n
  simp only[ZbY];have:=h x (by simp);cases hv:evO sl x<;>rw[hv] at this<;>simp only[Z8]
  case d x=>cases x<;>rfl
  case own id=>rw[this id (by simp[Zl,Zn,Ze])]
  case ownv id off n=>rw[this id (by simp[Zl,Zn,Ze])]
 case len x=>rw[len _ (h x (by simp))]
theorem Zio {A B:Hp} (hd:∀ k x y,(k,x)∈A→(k,y)∈B→False) (hp:Hp) (id:Nat):lkp (Zd (Zd hp A) B) id=lkp (Zd (Zd hp B) A) id:=by
 have aa:∀ (l:Hp) (hp hp' : Hp),lkp hp id=lkp hp' id→lkp (Zd hp l) id=lkp (Zd hp' l) id:=by
  intro l
  induction l with
  | nil=>intro hp hp' h;exact h
  | cons q r ih=>
   intro hp hp' h;obtain⟨k,x⟩:=q;simp only[Zd];exact ih _ _ (by rw[Z1,Z1,h])
 by_cases h1:∃ o,(id,o)∈A
 ·have h2:∀ o,(id,o)∉B:=fun o ho=>by
   obtain⟨o',ab⟩:=h1;exact hd id o' o ab ho
  rw[Zp B _ id h2];exact aa A _ _ (Zp B hp id h2).symm
 ·have h2:∀ o,(id,o)∉A:=fun o ho=>h1 ⟨o,ho⟩;rw[Zp A _ id h2];exact aa B _ _ (Zp A hp id h2)
theorem Zk5 {hp:Hp} {v:AV} {q:D×Bool×List Nat} (h:Wx hp v=some q):∀ i∈q.2.2,i∈Ze v:=by
 intro i hi;cases v<;>simp only[Wx] at h<;>first | (cases h;simp at hi;done) | (cases h;done) | skip
 obtain⟨p,_,h⟩:=Za h;cases h;simpa [Ze] using hi
theorem Zep {hp:Hp}:∀ {vs:List AV} {q:List D×Bool×List Nat},XH hp vs=some q→∀ i∈q.2.2,i∈vs.flatMap Ze
 | [],q,h,i,hi=>by simp only[XH] at h;cases h;simp at hi
 | v :: vs,q,h,i,hi=>by
  simp only[XH] at h;obtain⟨q1,h1,h⟩:=Za h;obtain⟨q2,h2,h⟩:=Za h;split at h
  ·cases h;rcases Kd.1 hi with hi | hi
   ·exact Kj.2 ⟨v,by simp,Zk5 h1 i hi⟩
   ·obtain⟨c,hc,aa⟩:=Kj.1 (Zep h2 i hi);exact Kj.2 ⟨c,by simp[hc],aa⟩
  ·cases h
theorem Zk6 {hp:Hp} {n:Nat} {v:AV} {q:D×List Nat} (h:ZaR hp n v=some q):∀ i∈q.2,i∈Ze v:=by
 unfold ZaR at h;split at h
 ·split at h
  ·cases h;simp
  ·cases h
 ·cases h;simp
 ·unfold Zbq at h;split at h
  ·split at h
   ·cases h;simp[Ze]
   ·cases h
  ·split at h
   ·cases h;simp[Ze]
   ·cases h
  ·cases h
 ·cases h
theorem Zeq {hp:Hp} {n:Nat}:∀ {vs:List AV} {q:List D×List Nat},X2 hp n vs=some q→∀ i∈q.2,i∈vs.flatMap Ze
 | [],q,h,i,hi=>by simp only[X2] at h;cases h;simp at hi
 | v :: vs,q,h,i,hi=>by
  simp only[X2] at h;obtain⟨q1,h1,h⟩:=Za h;obtain⟨q2,h2,h⟩:=Za h;split at h
  ·cases h;rcases Kd.1 hi with hi | hi
   ·exact Kj.2 ⟨v,by simp,Zk6 h1 i hi⟩
   ·obtain⟨c,hc,aa⟩:=Kj.1 (Zeq h2 i hi);exact Kj.2 ⟨c,by simp[hc],aa⟩
  ·cases h
theorem Zn1 {hp:Hp} {slc:List (Option Nat)} {s base:Nat} {vs:List AV} {x:AV} {e:Eff} (h:Wr hp slc s base vs x=some e):∃ id o,Xy x=some id∧e.val=.junk∧e.sets=[(id,o)]∧(∀ k∈e.dels,k∈vs.flatMap Ze∧∃ a b c d,x=.prow a b c d)∧∀ i∈e.frz,i∈vs.flatMap Ze:=by
 cases x<;>simp only[Wr] at h<;>first | cases h | skip
 case ptr id off=>
  unfold ZaQ at h;split at h
  ·split at h
   ·split at h<;>(cases h;exact⟨id,_,rfl,rfl,rfl,fun i hi=>by simp at hi,fun i hi=>by simp at hi⟩)
   ·cases h
  ·cases h
 case prow id sz i off=>
  unfold Ub at h;split at h
  ·split at h
   ·obtain⟨x,_,h⟩:=Za h;obtain⟨q,hq,h⟩:=Za h;unfold Zbp at h;split at h
    ·cases h;exact⟨id,_,rfl,rfl,rfl,fun i hi=>by simp at hi,Zep hq⟩
    ·cases h
   ·cases h
  ·split at h
   ·obtain⟨x,_,h⟩:=Za h;obtain⟨q,hq,h⟩:=Za h;unfold Zbr at h;split at h
    ·cases h;exact⟨id,_,rfl,rfl,rfl,fun k hk=>⟨Zeq hq k hk,_,_,_,_,rfl⟩,fun i hi=>by simp at hi⟩
    ·cases h
   ·cases h
  ·cases h
def FzEq (o o' : Option Zh):Prop:=∃ b:Bool,o'=o.map fun x=>if b then Xq x else x
theorem FzEq.seen {o o' : Option Zh} (h:FzEq o o'):W6 [] o o':=by
 obtain⟨b,rfl⟩:=h;have hk:∀ x:Zh,QA [] x=x:=fun x=>by
  cases x with
  | box cs=>simp only[QA];congr 1;rw[Kz (g:=id) (fun a _=>Jd a),K9]
  | row _ _ _ _=>rfl
  | gone=>rfl
  | tree _ _ _ l=>rcases l with _ | ⟨_ | _,_⟩<;>simp[QA,XW]
 have:=Zlc (g:=[]) (b:=b) o;have e:(o.map (QA []))=o:=by cases o<;>simp[hk]
 rw[e] at this;exact this
theorem vop_fz {C:Orc} {M:Zf} {sl:Sl} {hp hp' : Hp} {base:Nat} {c:COp} (hc:Vu c=true) (h:∀ x∈Zq c,∀ k∈Zl (evO sl x),FzEq (lkp hp k) (lkp hp' k)):vop C M sl hp' base c=vop C M sl hp base c:=by
 have hs:∀ x∈Zq c,ZcX [] hp hp' (evO sl x):=fun x hx k hk=>(h x hx k hk).seen;cases c<;>simp only[Vu,Ka] at hc<;>simp only[Zq] at h hs<;>simp only[vop]
 case load g s a=>
  have h1:=h a (by simp);have h2:=hs a (by simp);cases hv:evO sl a<;>rw[hv] at h1 h2<;>simp only[YD]
  case ptr id off=>
   obtain⟨b,e⟩:=h1 id (by simp[Zl,Zn,Ze]);rw[e];cases lkp hp id with
   | none=>rfl
   | some o=>cases o<;>cases b<;>rfl
  case prow id sz i off=>
   obtain⟨b,e⟩:=h1 id (by simp[Zl,Zn,Ze]);rw[e];cases lkp hp id with
   | none=>rfl
   | some o=>cases o<;>cases b<;>rfl
 case slice s x lo hi=>rw[ZaL (hs x (by simp))]
 case slice0 x hi mx=>unfold slice0;rw[Jg (hs x (by simp))]
 case iaS s x i=>
  congr 1
  funext n
  simp only[ZbY];rw[Wq (hs x (by simp))]
 case len x=>rw[Jg (hs x (by simp))]
def ZcU (sl:Sl) (a:COp):COp→Bool
 | .store _ _ x y=>J9 sl a (Xy (evO sl x))&&XG sl a (evO sl x) (evO sl y)
 | .append _ _ _ flat x y=>Vv sl a (evO sl x)&&(flat || seenSrc sl a (evO sl y))
 | _=>false
def LooseS (s:Sl) (a b:COp):Prop:=Zg1 b=true∧(X6 a=true∨(Vu a=true∧ZcU s a b=true))
theorem ZaJ {sl:Sl} {id:Nat}:∀ {xs:List Opd},Ql sl id xs=true→∀ x∈xs,Um id (evO sl x)=true
 | [],_,x,hx=>by simp at hx
 | y :: ys,h,x,hx=>by
  simp only[Ql,Kb] at h;rcases Ke.1 hx with rfl | hx
  ·exact h.1
  ·exact ZaJ h.2 x hx
theorem Zer {sl:Sl} {xs:List Opd}:∀ {ks:List Nat},QQ sl xs ks=true→∀ k∈ks,Ql sl k xs=true
 | [],_,k,hk=>by simp at hk
 | j :: r,h,k,hk=>by
  simp only[QQ,Kb] at h;rcases Ke.1 hk with rfl | hk
  ·exact h.1
  ·exact Zer h.2 k hk
theorem Zes {sl:Sl} {a:COp} {b1 b2 b3 b4:Nat} {v:AV} (h:XG sl a (.prow b1 b2 b3 b4) v=true):(∃ d,v=.d d)∨(okV v=true∧QQ sl (Zq a) (Zl v)=true):=by
 cases v<;>first | exact .inl ⟨_,rfl⟩ | (simp only[XG,Kb] at h;exact .inr h)
theorem Zn2 {sl:Sl} {a:COp} {b1 b2 b3 b4:Nat} {v:AV} (h:okV v=true∧QQ sl (Zq a) (Zl v)=true):XG sl a (.prow b1 b2 b3 b4) v=true:=by
 cases v<;>first | rfl | (simp only[XG,Kb];exact h)
theorem ZjG {sl:Sl} {a:COp} {x v:AV} (hx:∀ a b c d,x≠.prow a b c d):XG sl a x v=true:=by
 cases x<;>first | rfl | exact absurd rfl (hx _ _ _ _)
theorem Zgn {sl sl' : Sl} {xs:List Opd} (h:∀ k,Ql sl k xs=true→Ql sl' k xs=true):∀ {ks:List Nat},QQ sl xs ks=true→QQ sl' xs ks=true
 | [],_=>rfl
 | j :: r,hh=>by
  simp only[QQ,Kb] at hh ⊢;exact⟨h j hh.1,Zgn h hh.2⟩
theorem Zgo {id:Nat} {v:AV} (h:Um id v=true):id∉Zl v:=by
 cases v with
 | tup vs=>cases vs with
  | nil=>simp[Zl]
  | cons x r=>cases h
 | _=>simp[Um,Zl,Zn,Ze] at h ⊢ <;> exact fun e=>h e.symm
theorem Zmg {hp:Hp} {sz by_ base:Nat} {str flat:Bool} {x y:AV} {e:Eff} (h:Vq hp sz by_ str flat base x y=some e):e.sets=[]∧e.frz=[]∧((x=.nil∧e.dels=[])∨∃ id,e.dels=[id]∧(x=.own id∨∃ o n,x=.ownv id o n)):=by
 unfold Vq at h;obtain⟨q,_,h⟩:=Za h;split at h
 ·cases x<;>simp only[ZbX] at h<;>first | (cases h;done) | skip
  ·split at h
   ·cases h;exact⟨rfl,rfl,.inl ⟨rfl,rfl⟩⟩
   ·cases h
  ·split at h
   ·cases h
   ·unfold ZgL at h;split at h
    ·split at h
     ·cases h;exact⟨rfl,rfl,.inr ⟨_,rfl,.inl rfl⟩⟩
     ·cases h
    ·cases h
  ·split at h
   ·cases h
   ·split at h
    ·unfold Zc3 at h;split at h
     ·split at h
      ·cases h;exact⟨rfl,rfl,.inr ⟨_,rfl,.inr ⟨_,_,rfl⟩⟩⟩
      ·cases h
     ·cases h
    ·unfold Zc2 at h;split at h
     ·split at h
      ·cases h;exact⟨rfl,rfl,.inr ⟨_,rfl,.inr ⟨_,_,rfl⟩⟩⟩
      ·cases h
     ·cases h
 ·cases h
theorem Zgp {hp:Hp} {x:AV} {k:Nat} (h:k∈Xt hp x):x=.own k:=by
 unfold Xt at h;split at h
 ·split at h
  ·simp at h;subst h;rfl
  ·simp at h
 ·simp at h
theorem Zpv {hp:Hp} {sz by_ base:Nat} {str flat:Bool} {x y:AV} {e:Eff} (h:Yf hp sz by_ str flat base x y (Xt hp x++Xt hp y)=some e):e.frz=[] ∧
  e.sets=[]∧∀ k∈e.dels,(x=.own k∨∃ o n,x=.ownv k o n)∨(flat=false∧y=.own k):=by
 have plain:∀ {hp' : Hp} {e:Eff},Vq hp' sz by_ str flat base x y=some e→e.sets=[]∧e.frz=[]∧∀ k∈e.dels,x=.own k∨∃ o n,x=.ownv k o n:=by
  intro hp' e h;obtain⟨g1,g2,g3⟩:=Zmg h;refine⟨g1,g2,fun k hk=>?_⟩;rcases g3 with ⟨_,g3⟩ | ⟨id,g3,g4⟩
  ·rw[g3] at hk;simp at hk
  ·rw[g3] at hk;simp at hk;subst hk;exact g4
 generalize hm:Xt hp x++Xt hp y=ms at h;cases ms with
 | nil=>
  simp only[Yf] at h;obtain⟨g1,g2,g3⟩:=plain h;exact⟨g2,g1,fun k hk=>.inl (g3 k hk)⟩
 | cons i r=>
  simp only[Yf] at h;split at h
  ·cases h
  ·rename_i aa;obtain⟨e0,h1,h⟩:=Za h;cases h;obtain⟨g1,g2,g3⟩:=plain h1;refine⟨g2,g1,fun k hk=>?_⟩;rcases Kd.1 hk with hk | hk
   ·exact .inl (g3 k hk)
   ·rw[← hm] at hk;rcases Kd.1 hk with hk | hk
    ·exact .inl (.inl (Zgp hk))
    ·exact .inr ⟨by simpa using aa,Zgp hk⟩
theorem Zgq {ds:List Nat} {l:Hp} {k:Nat} (h:k∈ds):lkp (ZP l ds) k=none:=by
 cases hl:lkp (ZP l ds) k with
 | none=>rfl
 | some o=>exact absurd h (YO ds l k o hl).2
theorem ZqL {C:Orc} {M:Zf} {sl:Sl} {hp:Hp} {base:Nat} {c:COp} {ce:Zb} (hc:Zg1 c=true) (h:vop C M sl hp base c=some ce) :
  ce.gone=[]∧(∀ k,k∈ce.eff.dels∨(∃ o,(k,o)∈ce.eff.sets)→(∃ x∈Zq c,k∈Zl (evO sl x))∧∀ a,ZcU sl a c=true→Ql sl k (Zq a)=true)∧∀ k∈ce.eff.frz,∃ x∈Zq c,k∈Zl (evO sl x):=by
 cases c<;>first | (cases hc;done) | skip
 case store slc sz x y=>
  simp only[vop,Zaq] at h;obtain⟨e,h7,h⟩:=Za h;cases h;obtain⟨id,o,ht,g1,g2,g3,g4⟩:=Zn1 h7;refine⟨rfl,fun k hk=>?_,fun k hk=>⟨y,by simp[Zq],Zgd (U:=fun k=>k∈Zl (evO sl y)) (fun _ h=>h) k (g4 k hk)⟩⟩;rcases hk with hk | ⟨o',hk⟩
  ·obtain⟨k1,b1,b2,b3,b4,k2⟩:=g3 k hk;have k3:=Zgd (U:=fun k=>k∈Zl (evO sl y)) (fun _ h=>h) k k1;refine⟨⟨y,by simp[Zq],k3⟩,fun a ha=>?_⟩;simp only[ZcU,Kb,k2] at ha;rcases Zes ha.2 with ⟨d,hv⟩ | hv
   ·rw[hv] at k3;simp[Zl,Zn,Ze] at k3
   ·exact Zer hv.2 k k3
  ·simp only[g2,KQ,Prod.mk.injEq] at hk;have aa:=hk.1;subst aa;refine⟨⟨x,by simp[Zq],?_⟩,fun a ha=>?_⟩
   ·cases hv:evO sl x<;>rw[hv] at ht<;>simp only[Xy] at ht<;>cases ht<;>simp[Zl,Zn,Ze]
   ·simp only[ZcU,Kb,ht,J9] at ha;exact ha.1
 case append sz by_ str flat x y=>
  simp only[vop,Zlu,Zaq] at h;obtain⟨e,h7,h⟩:=Za h;cases h;obtain⟨g2,g1,g3⟩:=Zpv h7;refine⟨rfl,fun k hk=>?_,fun k hk=>by simp only[g2,LC] at hk⟩;have ab:k∈e.dels:=by
   rcases hk with hk | ⟨o',hk⟩
   ·exact hk
   ·simp only[g1,LC] at hk
  rcases g3 k ab with g4 | ⟨g4,g5⟩
  ·refine⟨⟨x,by simp[Zq],?_⟩,fun a ha=>?_⟩
   ·rcases g4 with g4 | ⟨o,n,g4⟩<;>rw[g4]<;>simp[Zl,Zn,Ze]
   ·simp only[ZcU,Kb] at ha;rcases g4 with g4 | ⟨o,n,g4⟩<;>rw[g4] at ha<;>exact ha.1
  ·refine⟨⟨y,by simp[Zq],by rw[g5];simp[Zl,Zn,Ze]⟩,fun a ha=>?_⟩;simp only[ZcU,Kb,g4,Bool.false_or] at ha;rw[g5] at ha;exact ha.2
theorem Zmh {C:Orc} {M:Zf} {os:List CO} {nx i j:Nat} {oi oj:CO} (ae:os[i]?=some oi) (ak:os[j]?=some oj) (ar:ZD os i=true) (am:ZD os j=false) (a3:i≠j) (au:QG oj oi=true)
  (an:∀ (k:Nat) (o:CO),os[k]?=some o→∀ x∈Zq o.op,Xd x=true) {s s1 s2:Sl×Hp} {U:Nat→Prop} (hs:ZbQ nt s U) (a4:Qv U (nx+64*i)) (av:Qv U (nx+64*j)) (hl:LooseS s.1 oj.op oi.op)
  (h1:Zr C M os nx j s=some s1) (h2:Zr C M os nx i s1=some s2):∃ t1,Zr C M os nx i s=some t1∧∃ t2,Zr C M os nx j t1=some t2∧QL t2 s2:=by
 obtain⟨F,A,I,Γ,a,w,ag⟩:=hs;simp only[QG,Kb] at au;obtain⟨⟨aw,ax⟩,al⟩:=au;have good:∀ (k:Nat) (o:CO),os[k]?=some o→∀ x∈Zq o.op,ZcS U (evO s.1 x):=by
  intro k o ho x hx;cases x with
  | t n=>exact ag.good n
  | v y=>exact Vk (an k o ho _ hx)
  | f n=>exact⟨fun id a5=>by simp[evO,Zl,Zn] at a5,fun f a6 h c hc=>by cases h;simp at hc⟩
 simp only[Zr,ak,Zc,am] at h1;simp only[Zr,ae,Zc,ar] at h2;obtain⟨vj,aj,rfl,ao,ay⟩:=Zcm h1;obtain⟨a7,hl⟩:=hl;unfold Zv at h2;obtain⟨b,hw,h2⟩:=Za h2;have az : ZF s.1 oi.guard=some b:=by rw[← hw];exact(Z7 aw).symm
 cases b with
 | false=>
  simp only[Ka,Kh] at h2;cases h2;refine⟨(Zi s.1 oi.dst (.tup []),s.2),by simp only[Zr,ae,Zc,Zv,az,Ka,Kh],?_⟩;have e2:=ay (Zi s.1 oi.dst (.tup []),s.2) (Z7 al) (Qt C M s.2 (nx+64*j) (XZ (o:=oj) al));exact⟨(Zi (Zi s.1 oi.dst (.tup [])) oj.dst vj,Zd s.2 aj),by simp only[Zr,ak,Zc,am];exact e2,fun t=>(YB ax vj (.tup []) t).symm,fun id=>rfl⟩
 | true=>
  simp only[Ki] at h2;obtain⟨ce,h3,h4,rfl⟩:=QD h2;have a0 : vop C M s.1 s.2 (nx+64*i) oi.op=some ce:=by
   have h5:=Jp h3;rw[← h5,Qt C M (Zd s.2 aj) (nx+64*i) (XZ (o:=oi) aw)];exact VO (ag.agree (X0 av ao s.2)) C M _ (good i oi ae)
  have aa:=Y2 h4;obtain⟨k1,k2,k3⟩:=ZqL a7 a0;obtain⟨e,gn⟩:=ce;simp only at k1 k2 k3;subst k1;have ap:∀ k∈e.frz,U k:=fun k hk=>by
   obtain⟨x,hx,hk⟩:=k3 k hk;exact(good i oi ae x hx).1 k hk
  have ah:∀ k,k∈e.dels∨(∃ o,(k,o)∈e.sets)→U k:=fun k hk=>by
   obtain⟨⟨x,hx,hk⟩,_⟩:=k2 k hk;exact(good i oi ae x hx).1 k hk
  have ai:∀ s:Sl×Hp,Zb.on { eff:=e,gone:=[] } oi.dst s.1 s.2=(Zi s.1 oi.dst e.val,Zd (Zd (ZP (ZU e.frz s.2) e.dels) e.sets) e.adds):=by
   intro s;rfl
  refine⟨Zb.on { eff:=e,gone:=[] } oi.dst s.1 s.2,?_,?_⟩
  ·simp only[Zr,ae,Zc,Zv,az,Ki,Q5,ar,XP];rw[a0,Zc,Kw h4]
  ·have ab:∀ k,U k→¬(k∈e.dels∨∃ o,(k,o)∈e.sets)→FzEq (lkp s.2 k) (lkp (Zd (Zd (ZP (ZU e.frz s.2) e.dels) e.sets) e.adds) k):=by
    intro k hk aq;rw[not_or] at aq;rw[← X0 a4 aa _ k hk,Zp _ _ k (fun o ho=>aq.2 ⟨o,ho⟩),YE _ _ k aq.1,ZO];exact⟨_,rfl⟩
   have e2:Zv C M nx j false oj (Zb.on { eff:=e,gone:=[] } oi.dst s.1 s.2)=some (Zi (Zb.on { eff:=e,gone:=[] } oi.dst s.1 s.2).1 oj.dst vj,Zd (Zb.on { eff:=e,gone:=[] } oi.dst s.1 s.2).2 aj):=by
    rw[ai];refine ay (Zi s.1 oi.dst e.val,Zd (Zd (ZP (ZU e.frz s.2) e.dels) e.sets) e.adds) (Z7 al) ?_;rw[Qt C M _ (nx+64*j) (XZ (o:=oj) al)];rcases hl with hl | ⟨a8,a9⟩
    ·exact ZcY hl
    ·refine vop_fz a8 fun z hz k hk=>?_;refine ab k ((good j oj ak z hz).1 k hk) fun hp=>?_;exact Zgo (ZaJ ((k2 k hp).2 _ a9) z hz) hk
   refine⟨_,by simp only[Zr,ak,Zc,am];exact e2,fun t=>?_,fun k=>?_⟩
   ·rw[ai,ai (Zi s.1 oj.dst vj,Zd s.2 aj)];exact(YB ax vj e.val t).symm
   ·rw[ai,ai (Zi s.1 oj.dst vj,Zd s.2 aj)];show lkp (Zd (Zd (Zd (ZP (ZU e.frz s.2) e.dels) e.sets) e.adds) aj) k=lkp (Zd (Zd (ZP (ZU e.frz (Zd s.2 aj)) e.dels) e.sets) e.adds) k;have a1:∀ (B:Hp) (hp hp' : Hp),(∀ k,lkp hp k=lkp hp' k)→∀ k,lkp (Zd hp B) k=lkp (Zd hp' B) k:=fun B hp hp' h=>WD B h;have ad:∀ k,U k→∀ o',(k,o')∉aj:=fun k hk o' af=>by
     have:=ao k o' af;exact av k this.1 this.2 hk
    rw[Zio (A:=e.adds) (B:=aj) (fun k x y hx hy=>by
     have:=aa k x hx;have:=ao k y hy;rcases Lf a3 with h | h<;>omega)]
    refine a1 e.adds _ _ (fun k=>?_) k;rw[Zio (A:=e.sets) (B:=aj) (fun k x y hx hy=>ad k (ah k (.inr ⟨x,hx⟩)) y hy) (ZP (ZU e.frz s.2) e.dels) k];refine a1 e.sets _ _ (fun k=>?_) k;by_cases hd:k∈e.dels
    ·rw[Zp aj _ k (ad k (ah k (.inl hd))),Zgq hd,Zgq hd]
    ·rw[YE _ _ k hd];rw[ZO];by_cases hk:∃ o',(k,o')∈aj
     ·obtain⟨o',af⟩:=hk;rw[W8 (hp':=s.2) ⟨o',af⟩];have a':k∉e.frz:=fun hf=>ad k (ap k hf) o' af;cases lkp (Zd s.2 aj) k<;>simp[a']
     ·have a2 : ∀ o',(k,o')∉aj:=fun o' af=>hk ⟨o',af⟩;rw[Zp aj _ k a2,Zp aj _ k a2,YE _ _ k hd,ZO]
theorem Zn3 {C:Orc} {M:Zf} {os:List CO} {nx i j:Nat} {oi oj:CO} (ab:os[i]?=some oi) (ad:os[j]?=some oj) (ae:ZmG oi.op=true) (af:ZD os j=false) (ag:i≠j) (ah:QG oj oi=true)
  (aa:∀ (k:Nat) (o:CO),os[k]?=some o→∀ x∈Zq o.op,Xd x=true) {s s1 s2:Sl×Hp} {U:Nat→Prop} (hs:ZbQ nt s U) (ai:Qv U (nx+64*i)) (aj:Qv U (nx+64*j))
  (h1:Zr C M os nx j s=some s1) (h2:Zr C M os nx i s1=some s2):∃ t1,Zr C M os nx i s=some t1∧∃ t2,Zr C M os nx j t1=some t2∧QL t2 s2:=by
 have e:∀ s:Sl×Hp,Zr C M os nx i s=Zv C M nx i false oi s:=fun s=>by
  simp only[Zr,ab,Zc];cases ZD os i
  ·rfl
  ·exact Zn0 ae s
 rw[e] at h2;simp only[e];exact Zgl ab ad af ag ah aa hs ai aj h1 h2
theorem ZjH {hp:Hp} {base s:Nat} {vs:List AV} {ce:Zb} (h:buildSl hp base s vs=some ce):ce.gone=[]:=by
 cases vs with
 | nil=>simp only[buildSl,Qj] at h;first | (cases h;rfl) | (split at h<;>first | (cases h;rfl) | cases h)
 | cons v r=>
  simp only[buildSl] at h;obtain⟨q,_,h⟩:=Za h;unfold Zor at h;split at h
  ·cases h;rfl
  ·cases h
theorem Zk7 {C:Orc} {M:Zf} {sl:Sl} {hp:Hp} {base:Nat} {c:COp} {ce:Zb} (hc:J7 c=true) (h:vop C M sl hp base c=some ce):ce.gone=[]:=by
 cases c<;>first | (cases hc;done) | skip
 ·simp only[vop] at h;exact ZjH h
 ·simp only[vop,Zlu,Zaq] at h;obtain⟨e,_,h⟩:=Za h;cases h;rfl
theorem Zn4 {C:Orc} {M:Zf} {nx j:Nat} {oj:CO} {s s1:Sl×Hp} (hm:Xi oj.op=true) (h:Zv C M nx j false oj s=some s1) :
  ∃ v,s1=(Zi s.1 oj.dst v,s.2)∧∀ aa : Sl×Hp,ZF aa.1 oj.guard=ZF s.1 oj.guard→(∀ x∈Zq oj.op,evO aa.1 x=evO s.1 x)→Zv C M nx j false oj aa=some (Zi aa.1 oj.dst v,aa.2):=by
 obtain⟨x,hx⟩:∃ x,oj.op=.move x:=by
  cases ho:oj.op<;>rw[ho] at hm<;>first | (cases hm;done) | exact⟨_,rfl⟩
 unfold Zv at h ⊢;obtain⟨b,hw,h⟩:=Za h;cases b with
 | true=>
  simp only[Ki,hx,XP,Ka,Kh,vop] at h;refine⟨evO s.1 x,?_,fun aa g1 g2=>?_⟩
  ·cases h;rfl
  ·rw[g1,hw,Zc];have e:=g2 x (by rw[hx];simp[Zq]);simp only[Ki,hx,XP,Ka,Kh,vop,e];rfl
 | false=>
  simp only[Ka,Kh] at h;cases h;refine⟨.tup [],rfl,fun aa g1 g2=>?_⟩;rw[g1,hw,Zc];rfl
theorem Zn5 {C:Orc} {M:Zf} {os:List CO} {nx i j:Nat} {oi oj:CO} (ad:os[i]?=some oi) (ae:os[j]?=some oj) (af:ZD os j=false) (ah:QG oj oi=true)
  {s s1 s2:Sl×Hp} (hm:Xi oj.op=true) (hg:J7 oi.op=true)
  (h1:Zr C M os nx j s=some s1) (h2:Zr C M os nx i s1=some s2):∃ t1,Zr C M os nx i s=some t1∧∃ t2,Zr C M os nx j t1=some t2∧QL t2 s2:=by
 simp only[QG,Kb] at ah;obtain⟨⟨ai,aj⟩,ab⟩:=ah;simp only[Zr,ae,Zc,af] at h1;simp only[Zr,ad,Zc] at h2;obtain⟨vj,rfl,ak⟩:=Zn4 hm h1;unfold Zv at h2;obtain⟨b,hw,h2⟩:=Za h2;have al : ZF s.1 oi.guard=some b:=by rw[← hw];exact(Z7 ai).symm
 cases b with
 | false=>
  simp only[Ka,Kh] at h2;cases h2;refine⟨(Zi s.1 oi.dst (.tup []),s.2),by simp only[Zr,ad,Zc,Zv,al,Ka,Kh],?_⟩;exact⟨(Zi (Zi s.1 oi.dst (.tup [])) oj.dst vj,s.2),by simp only[Zr,ae,Zc,af];exact ak (Zi s.1 oi.dst (.tup []),s.2) (Z7 ab) (XZ (o:=oj) ab),fun t=>(YB aj vj (.tup []) t).symm,fun id=>rfl⟩
 | true=>
  simp only[Ki] at h2;obtain⟨ce,h3,h4,rfl⟩:=QD h2;have aa:=Zk7 hg (Jp h3);have am : XP C M nx i (ZD os i) oi.op s.1 s.2=some ce:=by
   rw[← h3];unfold XP;rw[Qt C M s.2 (nx+64*i) (XZ (o:=oi) ai)]
  have ag:∀ (sl:Sl) (hp:Hp),ce.on oi.dst sl hp=(Zi sl oi.dst ce.eff.val,ce.eff.on hp):=by
   intro sl hp;unfold Zb.on;rw[aa];rfl
  refine⟨ce.on oi.dst s.1 s.2,?_,?_⟩
  ·simp only[Zr,ad,Zc,Zv,al,Ki,Q5];rw[am,Zc,Kw h4]
  ·rw[ag];refine⟨(Zi (Zi s.1 oi.dst ce.eff.val) oj.dst vj,ce.eff.on s.2),by simp only[Zr,ae,Zc,af];exact ak (Zi s.1 oi.dst ce.eff.val,ce.eff.on s.2) (Z7 ab) (XZ (o:=oj) ab),fun t=>?_,fun k=>?_⟩
   ·rw[ag];exact(YB aj vj ce.eff.val t).symm
   ·rw[ag]
theorem awayV_ptr {sl:Sl} {xs:List Opd} {v:AV} (h:Un sl xs v=true) {k off:Nat} (e:v=.ptr k off):∀ z∈xs,k∉Zl (evO sl z):=by
 subst e;exact fun z hz=>Zgo (ZaJ h z hz)
structure Zgr (r:Sl) (oX oY:CO):Prop where
 opd:∀ x∈Zq oX.op,okV (evO r x)=true
 dst:∀ t,oX.dst=some t→okV (gs r t)=true
 arg:∀ y∈Zd0 oY.op,okV (evO r y)=true
 away:∀ y∈Zd0 oY.op,∀ k off,evO r y=.ptr k off→∀ z∈Zq oX.op,k∉Zl (evO r z)
theorem ZjI {sl:Sl}:∀ {xs:List Opd},okL sl xs=true→∀ x∈xs,okV (evO sl x)=true
 | [],_,x,hx=>by simp at hx
 | y :: ys,h,x,hx=>by
  simp only[okL,Kb] at h;rcases Ke.1 hx with rfl | hx
  ·exact h.1
  ·exact ZjI h.2 x hx
theorem Zip {sl:Sl} {xs:List Opd}:∀ {ys:List Opd},ZaY sl xs ys=true→∀ y∈ys,Un sl xs (evO sl y)=true
 | [],_,x,hx=>by simp at hx
 | y :: ys,h,x,hx=>by
  simp only[ZaY,Kb] at h;rcases Ke.1 hx with rfl | hx
  ·exact h.1
  ·exact Zip h.2 x hx
theorem Zk8 {r:Sl} {oX oY:CO} (hm:Xi oX.op=false) (hc:V8 oY.op=true) (h:YN r oX.dst oX.op oY.op=true):Zgr r oX oY:=by
 obtain⟨f,as,ho⟩:∃ f as,oY.op=.call (.f f) as:=by
  cases ho:oY.op<;>rw[ho] at hc<;>first | (cases hc;done) | skip
  rename_i f as;cases f<;>first | (cases hc;done) | exact⟨_,_,rfl⟩
 rw[ho] at h;have h' : (okL r (Zq oX.op)&&(okD r oX.dst&&(okL r as&&ZaY r (Zq oX.op) as)))=true:=by
  cases hx:oX.op<;>rw[hx] at h hm<;>first | (cases hm;done) | exact h
 simp only[Kb] at h';obtain⟨h1,h2,h3,h4⟩:=h';refine⟨ZjI h1,fun t ht=>?_,?_,?_⟩
 ·rw[ht] at h2;exact h2
 ·rw[ho];exact ZjI h3
 ·rw[ho];intro y hy k off e;exact awayV_ptr (Zip h4 y hy) e
theorem Zgr.move {r r' : Sl} {oX oY:CO} (h:Zgr r oX oY) (h1:∀ n∈(Zq oX.op).flatMap Ws,okV (gs r n)=true→gs r' n=gs r n) (h2:∀ n,oX.dst=some n→okV (gs r n)=true→gs r' n=gs r n)
  (h3:∀ n∈(Zd0 oY.op).flatMap Ws,okV (gs r n)=true→gs r' n=gs r n):Zgr r' oX oY:=by
 have e1:∀ x∈Zq oX.op,evO r' x=evO r x:=fun x hx=>by
  have ho:=h.opd x hx;cases x with
  | t n=>exact h1 n (Kj.2 ⟨_,hx,by simp[Ws]⟩) ho
  | _=>rfl
 have e3:∀ x∈Zd0 oY.op,evO r' x=evO r x:=fun x hx=>by
  have ho:=h.arg x hx;cases x with
  | t n=>exact h3 n (Kj.2 ⟨_,hx,by simp[Ws]⟩) ho
  | _=>rfl
 refine⟨fun x hx=>by rw[e1 x hx];exact h.opd x hx,fun t ht=>by rw[h2 t ht (h.dst t ht)];exact h.dst t ht,fun x hx=>by rw[e3 x hx];exact h.arg x hx,fun y hy k off e z hz=>?_⟩;rw[e3 y hy] at e;rw[e1 z hz];exact h.away y hy k off e z hz
theorem Zgs {C:Orc} {M:Zf} (hM:∀ f,M f 99=false) {os:List CO} {nx x y:Nat} {oX oY:CO} (ay:os[x]?=some oX) (a1:os[y]?=some oY) (a2:x≠y) (ak:Qg oY.dst (Xb oX)=true) (aw:Qg oX.dst (Xb oY)=true)
  (ad:Qg oX.dst (Xb oX)=true) (al:Qg oY.dst (Xb oY)=true)
  (ar:∀ (k:Nat) (o:CO),os[k]?=some o→∀ x∈Zq o.op,Xd x=true) {s:Sl×Hp} {r:Sl} {U:Nat→Prop} (hs:ZbQ nt s U) (a3:Qv U (nx+64*x)) (a4:Qv U (nx+64*y))
  (ae:V8 oY.op=true) {ce:Zb} (a5:vop C M s.1 s.2 (nx+64*y) oY.op=some ce) (a6:Qp (nx+64*y) (nx+64*y+64) ce.eff.adds=true)
  (am:∀ n,oX.dst≠some n→oY.dst≠some n→gs r n=kill ce.gone (gs s.1 n)) (aa:Zgr r oX oY) :
  ce.eff.dels=[]∧(∀ z∈Zq oX.op,evO (ce.on oY.dst s.1 s.2).1 z=evO s.1 z)∧(∀ z∈Zq oX.op,∀ id∈Zl (evO s.1 z),id∉ce.gone)∧(∀ z∈Zq oX.op,ZcX ce.gone s.2 (ce.on oY.dst s.1 s.2).2 (evO s.1 z)) ∧
  (∀ k,nx+64*x≤k→k<nx+64*x+64→(∀ o',(k,o')∉ce.eff.sets)∧(∀ o',(k,o')∉ce.eff.adds)∧k∉ce.eff.frz∧k∉ce.gone):=by
 obtain⟨F,A,I,Γ,a,w,au⟩:=hs;have good:∀ (k:Nat) (o:CO),os[k]?=some o→∀ x∈Zq o.op,ZcS U (evO s.1 x):=by
  intro k o ho x hx;cases x with
  | t n=>exact au.good n
  | v y=>exact Vk (ar k o ho _ hx)
  | f n=>exact⟨fun id av=>by simp[evO,Zl,Zn] at av,fun f a7 h c hc=>by cases h;simp at hc⟩
 obtain⟨f,as,ho⟩:∃ f as,oY.op=.call (.f f) as:=by
  cases ho:oY.op<;>rw[ho] at ae<;>first | (cases ae;done) | skip
  rename_i f as;cases f<;>first | (cases ae;done) | exact⟨_,_,rfl⟩
 have an:=a5;rw[ho] at an;simp only[vop,evO,U3,List.append_nil] at an;obtain⟨k1,k2,k3,k4⟩:=Zof an (hM _);have ab:∀ n,(Opd.t n)∈Zq oX.op→n∈Xb oX:=fun n hn=>Kd.2 (.inl (Kj.2 ⟨_,hn,by simp[Ws]⟩));have ai:∀ n,(Opd.t n)∈as→n∈Xb oY:=fun n hn=>Kd.2 (.inl (Kj.2 ⟨.t n,by rw[ho];simp[Zq,hn],by simp[Ws]⟩));have ne:∀ {d:Option Nat} {l:List Nat} {n:Nat},Qg d l=true→n∈l→d≠some n:=fun {d l n} h hn e=>by
  rw[e] at h;simp only[Qg,KF,KA,KM] at h;exact h hn
 have ax:∀ z∈Zq oX.op,evO r z=evO s.1 z∧∀ id∈Zl (evO s.1 z),id∉ce.gone:=by
  intro z hz;have af:=aa.opd z hz;cases z with
  | t n=>
   have e:=am n (ne ad (ab n hz)) (ne ak (ab n hz));simp only[evO] at af ⊢;rw[e] at af ⊢;have:=W5 af;exact⟨this,Zpx this⟩
  | v c=>
   have:=ar x oX ay _ hz;simp only[Xd,Kb,List.isEmpty_iff] at this;exact⟨rfl,fun id av=>by simp only[evO] at av;rw[this.1] at av;simp at av⟩
  | f n=>simp only[evO,okV,okC] at af;cases af
 have az:∀ z∈as,evO r z=evO s.1 z:=by
  intro z hz;have af:=aa.arg z (by rw[ho];exact hz);cases z with
  | t n=>
   have e:=am n (ne aw (ai n hz)) (ne al (ai n hz));simp only[evO] at af ⊢;rw[e] at af ⊢;exact W5 af
  | _=>rfl
 have a0:∀ id,(∃ o,lkp s.2 id=some o)→U id:=fun id ⟨o,h⟩=>au.id_in h;have uX:∀ k,nx+64*x≤k→k<nx+64*x+64→¬U k:=fun k h1 h2=>a3 k h1 h2;have aj:=Y2 a6;have ag:∀ z∈Zq oX.op,∀ k∈Zl (evO s.1 z),∀ o',(k,o')∉ce.eff.sets:=by
  intro z hz k hk o' ao;rcases (k4 k o' ao).2 with h | ⟨v,hv,ap⟩
  ·exact(ax z hz).2 k hk h
  ·obtain⟨y',aq,rfl⟩:=Zbj hv;have ah:=aa.arg y' (by rw[ho];exact aq);rw[az y' aq] at ah;cases hp:evO s.1 y' with
   | ptr a b=>
    rw[hp] at ap;simp only[VA,KQ] at ap;subst ap;have:=aa.away y' (by rw[ho];exact aq) k b (by rw[az y' aq,hp]) z hz;rw[(ax z hz).1] at this;exact this hk
   | clo g cs=>rw[hp] at ah;simp only[okV,okC] at ah;cases ah
   | _=>rw[hp] at ap;simp[VA] at ap
 refine⟨k1,fun z hz=>?_,fun z hz=>(ax z hz).2,fun z hz k hk=>?_,fun k g1 g2=>⟨fun o' ao=>?_,fun o' ao=>?_,fun hf=>?_,fun hg=>?_⟩⟩
 ·cases z with
  | t n=>
   show gs (Zi (Qs ce.gone s.1) oY.dst ce.eff.val) n=gs s.1 n;rw[Z3,Ko (ne ak (ab n hz)),Qh];have e:=am n (ne ad (ab n hz)) (ne ak (ab n hz));have:=aa.opd _ hz;simp only[evO] at this;rw[e] at this;exact W5 this
  | _=>rfl
 ·have a8:U k:=(good x oX ay z hz).1 k hk;show W6 ce.gone (lkp s.2 k) (lkp (ce.eff.on (XN ce.gone s.2)) k);unfold Eff.on;rw[k1];simp only[ZP];rw[Zp,Zp,ZO,XX]
  ·exact Zlc _
  ·exact ag z hz k hk
  ·intro o' ao;obtain⟨h1,h2⟩:=aj k o' ao;exact a4 k h1 h2 a8
 ·exact uX k g1 g2 (a0 k (k4 k o' ao).1)
 ·have:=aj k o' ao;rcases Lf a2 with h | h<;>omega
 ·obtain⟨v,hv,ap⟩:=k2 k hf;obtain⟨y',aq,rfl⟩:=Zbj hv;exact uX k g1 g2 ((good y oY a1 y' (by rw[ho];simp[Zq,aq])).1 k ap)
 ·exact uX k g1 g2 (a0 k (k3 k hg))
theorem Zmi {C:Orc} {M:Zf} (hM:∀ f,M f 99=false) {os:List CO} {nx i j:Nat} {oi oj:CO} (ah:os[i]?=some oi) (av:os[j]?=some oj) (az:ZD os j=false) (a0:i≠j) (aw:QG oj oi=true)
  (ad:Qg oj.dst (Xb oj)=true) (ae:Qg oi.dst (Xb oi)=true)
  (ai:∀ (k:Nat) (o:CO),os[k]?=some o→∀ x∈Zq o.op,Xd x=true) {s s1 s2:Sl×Hp} {U:Nat→Prop} (hs:ZbQ nt s U) (a1:Qv U (nx+64*i)) (ap:Qv U (nx+64*j))
  (aj:V8 oi.op=true) (a2:Zg3 oj.op=true) (aa:Zgr s2.1 oj oi) {t:Nat} (ht:oj.dst=some t)
  (h1:Zr C M os nx j s=some s1) (h2:Zr C M os nx i s1=some s2):∃ t1,Zr C M os nx i s=some t1∧∃ t2,Zr C M os nx j t1=some t2∧QL t2 s2:=by
 have a3:=hs;obtain⟨F,A,I,Γ,a,w,af⟩:=a3;simp only[QG,Kb] at aw;obtain⟨⟨am,an⟩,ao⟩:=aw;have good:∀ (k:Nat) (o:CO),os[k]?=some o→∀ x∈Zq o.op,ZcS U (evO s.1 x):=by
  intro k o ho x hx;cases x with
  | t n=>exact af.good n
  | v y=>exact Vk (ai k o ho _ hx)
  | f n=>exact⟨fun id a4=>by simp[evO,Zl,Zn] at a4,fun f a5 h c hc=>by cases h;simp at hc⟩
 have ab:∀ s:Sl×Hp,Zr C M os nx j s=Zv C M nx j false oj s:=fun s=>by simp only[Zr,av,Zc,az]
 rw[ab] at h1;simp only[Zr,ah,Zc] at h2;obtain⟨v,ax,a6,aq,hX⟩:∃ v ax,s1=(Zi s.1 oj.dst v,Zd s.2 ax)∧(∀ k x,(k,x)∈ax→nx+64*j≤k∧k<nx+64*j+64) ∧
   ((ZF s.1 oj.guard=some false∧v=.tup []∧ax=[])∨(ZF s.1 oj.guard=some true∧∃ ce,ZdQ ce∧vop C M s.1 s.2 (nx+64*j) oj.op=some ce∧Qp (nx+64*j) (nx+64*j+64) ce.eff.adds=true∧v=ce.eff.val∧ax=ce.eff.adds)):=by
  rcases Zmr h1 with ⟨g1,g2⟩ | ⟨g1,ce,g2,g3,g4,g5⟩
  ·exact⟨.tup [],[],g2,fun k x h=>by simp at h,.inl ⟨g1,rfl,rfl⟩⟩
  ·exact⟨ce.eff.val,ce.eff.adds,g5,Y2 g4,.inr ⟨g1,ce,g2,g3,g4,rfl,rfl⟩⟩
 subst a6;unfold Zv at h2;obtain⟨b,hw,h2⟩:=Za h2;have ay : ZF s.1 oi.guard=some b:=by rw[← hw];exact(Z7 am).symm
 cases b with
 | false=>
  simp only[Ka,Kh] at h2;cases h2;refine⟨(Zi s.1 oi.dst (.tup []),s.2),by simp only[Zr,ah,Zc];exact Q4 ay,?_⟩;refine⟨(Zi (Zi s.1 oi.dst (.tup [])) oj.dst v,Zd s.2 ax),?_,fun t=>(YB an v (.tup []) t).symm,fun id=>rfl⟩;rw[ab];have ak:ZF (Zi s.1 oi.dst (.tup [])) oj.guard=ZF s.1 oj.guard:=Z7 ao;rcases hX with ⟨g1,rfl,rfl⟩ | ⟨g1,ce,g2,g3,g4,rfl,rfl⟩
  ·exact Q4 (s:=(Zi s.1 oi.dst (.tup []),s.2)) (ak.trans g1)
  ·refine Zbl (s:=(Zi s.1 oi.dst (.tup []),s.2)) (ak.trans g1) g2 ?_ g4;rw[← g3];exact Qt C M s.2 (nx+64*j) (XZ (o:=oj) ao)
 | true=>
  simp only[Ki] at h2;obtain⟨ce,h3,h4,rfl⟩:=QD h2;have a7:vop C M s.1 s.2 (nx+64*i) oi.op=some ce:=by
   have h5:=Jp h3;rw[← h5,Qt C M (Zd s.2 ax) (nx+64*i) (XZ (o:=oi) am)];exact VO (af.agree (X0 ap aq s.2)) C M _ (good i oi ah)
  have a8 : XP C M nx i (ZD os i) oi.op s.1 s.2=some ce:=by
   rw[← h3];unfold XP;rw[Qt C M (Zd s.2 ax) (nx+64*i) (XZ (o:=oi) am),VO (af.agree (X0 ap aq s.2)) C M _ (good i oi ah)]
  have ar:∀ n,oj.dst≠some n→oi.dst≠some n→gs (ce.on oi.dst (Zi s.1 oj.dst v) (Zd s.2 ax)).1 n=kill ce.gone (gs s.1 n):=fun n e1 e2=>by
   show gs (Zi (Qs ce.gone (Zi s.1 oj.dst v)) oi.dst ce.eff.val) n=_;rw[Z3,Ko e2,Qh,Z3,Ko e1]
  obtain⟨c1,c2,c3,c4,c5⟩:=Zgs (nt:=nt) hM av ah (Ne.symm a0) ao am ad ae ai hs ap a1 aj a7 h4 ar aa;have e0:gs (ce.on oi.dst (Zi s.1 oj.dst v) (Zd s.2 ax)).1 t=kill ce.gone v:=by
   show gs (Zi (Qs ce.gone (Zi s.1 oj.dst v)) oi.dst ce.eff.val) t=_;rw[Z3,Ko,Qh,Z3,Kw ht];intro e;rw[ht,e] at an;simp[VX] at an
  have ag:kill ce.gone v=v:=by
   have h5:=aa.dst t ht;rw[e0] at h5;exact W5 h5
  have au:okV v=true:=by
   have h5:=aa.dst t ht;rw[e0,ag] at h5;exact h5
  refine⟨ce.on oi.dst s.1 s.2,?_,?_⟩
  ·simp only[Zr,ah,Zc,Zv,ay,Ki,Q5];rw[a8,Zc,Kw h4]
  ·have ak:ZF (ce.on oi.dst s.1 s.2).1 oj.guard=ZF s.1 oj.guard:=by
    show ZF (Zi (Qs ce.gone s.1) oi.dst ce.eff.val) oj.guard=_;rw[Z7 ao];exact Zbm fun q _=>Qh _ _ _
   have al:(∀ k o,(k,o)∈ax→QA ce.gone o=o)∧Zv C M nx j false oj (ce.on oi.dst s.1 s.2)=some (Zi (ce.on oi.dst s.1 s.2).1 oj.dst v,Zd (ce.on oi.dst s.1 s.2).2 ax):=by
    rcases hX with ⟨g1,rfl,rfl⟩ | ⟨g1,cx,g2,g3,g4,rfl,rfl⟩
    ·exact⟨fun k o h=>by simp at h,Q4 (ak.trans g1)⟩
    ·obtain⟨e1,e2⟩:=Zod a2 c2 c4 (fun k h6 h7=>(c5 k h6 h7).2.2.2) g3 g4 g2.frz au ag;exact⟨e2,Zbl (ak.trans g1) g2 e1 g4⟩
   obtain⟨e3,e4⟩:=al;refine⟨_,by rw[ab];exact e4,?_⟩;exact Zni (ce:=ce) (dX:=oj.dst) (dY:=oi.dst) (v:=v) (ax:=ax) (s:=s) an c1 (fun k o ho=>by
    obtain⟨h6,h7⟩:=aq k o ho;obtain⟨m1,m2,m3,_⟩:=c5 k h6 h7;exact⟨m1,m2,m3⟩) e3 ag
theorem Zk9 {C:Orc} {M:Zf} (hM:∀ f,M f 99=false) {os:List CO} {nx i j:Nat} {oi oj:CO} (ar:os[i]?=some oi) (ag:os[j]?=some oj) (ay:ZD os i=false) (az:i≠j) (au:QG oj oi=true)
  (ad:Qg oi.dst (Xb oi)=true) (ae:Qg oj.dst (Xb oj)=true)
  (ah:∀ (k:Nat) (o:CO),os[k]?=some o→∀ x∈Zq o.op,Xd x=true) {s s1 s2:Sl×Hp} {U:Nat→Prop} (hs:ZbQ nt s U) (av:Qv U (nx+64*i)) (a0:Qv U (nx+64*j))
  (ai:V8 oj.op=true) (a1:Zde oi.op=true) (ab:Zgr s2.1 oi oj) {t:Nat} (ht:oi.dst=some t)
  (h1:Zr C M os nx j s=some s1) (h2:Zr C M os nx i s1=some s2):∃ t1,Zr C M os nx i s=some t1∧∃ t2,Zr C M os nx j t1=some t2∧QL t2 s2:=by
 have a2:=hs;obtain⟨F,A,I,Γ,a,w,aj⟩:=a2;simp only[QG,Kb] at au;obtain⟨⟨an,ao⟩,ak⟩:=au;have af : VX oi.dst oj.dst=true:=by
  cases hd:oi.dst<;>cases he:oj.dst<;>rw[hd,he] at ao<;>first | rfl | (simp only[VX,bne_iff_ne,ne_eq] at ao ⊢;exact fun e=>ao e.symm)
 have good:∀ (k:Nat) (o:CO),os[k]?=some o→∀ x∈Zq o.op,ZcS U (evO s.1 x):=by
  intro k o ho x hx;cases x with
  | t n=>exact aj.good n
  | v y=>exact Vk (ah k o ho _ hx)
  | f n=>exact⟨fun id a3=>by simp[evO,Zl,Zn] at a3,fun f a4 h c hc=>by cases h;simp at hc⟩
 have aa:∀ s:Sl×Hp,Zr C M os nx i s=Zv C M nx i false oi s:=fun s=>by simp only[Zr,ar,Zc,ay]
 rw[aa] at h2;simp only[Zr,ag,Zc] at h1;unfold Zv at h1;obtain⟨b,hw,h1⟩:=Za h1;cases b with
 | false=>
  simp only[Ka,Kh] at h1;cases h1;have al:ZF (Zi s.1 oj.dst (.tup [])) oi.guard=ZF s.1 oi.guard:=Z7 an;rcases Zmr h2 with ⟨g1,g2⟩ | ⟨g1,ce,g2,g3,g4,g5⟩
  ·subst g2;refine⟨(Zi s.1 oi.dst (.tup []),s.2),by rw[aa];exact Q4 (al.symm.trans g1),(Zi (Zi s.1 oi.dst (.tup [])) oj.dst (.tup []),s.2),?_,fun t=>YB af _ _ t,fun id=>rfl⟩;simp only[Zr,ag,Zc];exact Q4 (s:=(Zi s.1 oi.dst (.tup []),s.2)) ((Z7 ak).trans hw)
  ·subst g5;refine⟨(Zi s.1 oi.dst ce.eff.val,Zd s.2 ce.eff.adds),?_,(Zi (Zi s.1 oi.dst ce.eff.val) oj.dst (.tup []),Zd s.2 ce.eff.adds),?_,fun t=>YB af _ _ t,fun id=>rfl⟩
   ·rw[aa];refine Zbl (al.symm.trans g1) g2 ?_ g4;rw[← g3];exact(Qt C M s.2 (nx+64*i) (XZ (o:=oi) an)).symm
   ·simp only[Zr,ag,Zc];exact Q4 (s:=(Zi s.1 oi.dst ce.eff.val,Zd s.2 ce.eff.adds)) ((Z7 ak).trans hw)
 | true=>
  simp only[Ki] at h1;obtain⟨ce,h3,h4,rfl⟩:=QD h1;have a5:vop C M s.1 s.2 (nx+64*j) oj.op=some ce:=Jp h3;have al:ZF (ce.on oj.dst s.1 s.2).1 oi.guard=ZF s.1 oi.guard:=by
   show ZF (Zi (Qs ce.gone s.1) oj.dst ce.eff.val) oi.guard=_;rw[Z7 an];exact Zbm fun q _=>Qh _ _ _
  obtain⟨v,ax,a6,aw,hX⟩:∃ v ax,s2=(Zi (ce.on oj.dst s.1 s.2).1 oi.dst v,Zd (ce.on oj.dst s.1 s.2).2 ax)∧(∀ k x,(k,x)∈ax→nx+64*i≤k∧k<nx+64*i+64) ∧
    ((ZF s.1 oi.guard=some false∧v=.tup []∧ax=[])∨(ZF s.1 oi.guard=some true∧∃ cx,ZdQ cx∧vop C M (ce.on oj.dst s.1 s.2).1 (ce.on oj.dst s.1 s.2).2 (nx+64*i) oi.op=some cx∧Qp (nx+64*i) (nx+64*i+64) cx.eff.adds=true∧v=cx.eff.val∧ax=cx.eff.adds)):=by
   rcases Zmr h2 with ⟨g1,g2⟩ | ⟨g1,cx,g2,g3,g4,g5⟩
   ·exact⟨.tup [],[],g2,fun k x h=>by simp at h,.inl ⟨al.symm.trans g1,rfl,rfl⟩⟩
   ·exact⟨cx.eff.val,cx.eff.adds,g5,Y2 g4,.inr ⟨al.symm.trans g1,cx,g2,g3,g4,rfl,rfl⟩⟩
  subst a6;have ap:∀ n,oi.dst≠some n→oj.dst≠some n→gs (Zi (ce.on oj.dst s.1 s.2).1 oi.dst v) n=kill ce.gone (gs s.1 n):=fun n e1 e2=>by
   rw[Z3,Ko e1];show gs (Zi (Qs ce.gone s.1) oj.dst ce.eff.val) n=_;rw[Z3,Ko e2,Qh]
  obtain⟨c1,c2,c3,c4,c5⟩:=Zgs (nt:=nt) hM ar ag az an ak ad ae ah hs av a0 ai a5 h4 ap ab;have aq:okV v=true:=by
   have h5:=ab.dst t ht;simp only[Z3,Kw ht] at h5;exact h5
  have am:kill ce.gone v=v∧(∀ k o,(k,o)∈ax→QA ce.gone o=o)∧Zv C M nx i false oi s=some (Zi s.1 oi.dst v,Zd s.2 ax):=by
   rcases hX with ⟨g1,rfl,rfl⟩ | ⟨g1,cx,g2,g3,g4,rfl,rfl⟩
   ·exact⟨rfl,fun k o h=>by simp at h,Q4 g1⟩
   ·obtain⟨e1,e2,e3⟩:=Zmq a1 c2 c4 c3 (fun k h6 h7=>(c5 k h6 h7).2.2.2) g3 g4 g2.frz aq;exact⟨e2,e3,Zbl g1 g2 e1 g4⟩
  obtain⟨hk,e3,e4⟩:=am;refine⟨(Zi s.1 oi.dst v,Zd s.2 ax),by rw[aa];exact e4,ce.on oj.dst (Zi s.1 oi.dst v) (Zd s.2 ax),?_,?_⟩
  ·simp only[Zr,ag,Zc,Zv];have a7:ZF (Zi s.1 oi.dst v) oj.guard=some true:=(Z7 ak).trans hw;simp only[a7,Zc,Ki,Q5];have:XP C M nx j (ZD os j) oj.op (Zi s.1 oi.dst v) (Zd s.2 ax)=some ce:=by
    rw[← h3];unfold XP;rw[Qt C M (Zd s.2 ax) (nx+64*j) (XZ (o:=oj) ak),← VO (aj.agree (X0 av aw s.2)) C M _ (good j oj ag)]
   rw[this,Zc,Kw h4]
  ·exact(Zni (ce:=ce) (dX:=oi.dst) (dY:=oj.dst) (v:=v) (ax:=ax) (s:=s) af c1 (fun k o ho=>by
    obtain⟨h6,h7⟩:=aw k o ho;obtain⟨m1,m2,m3,_⟩:=c5 k h6 h7;exact⟨m1,m2,m3⟩) e3 hk).symm
theorem JQ {C:Orc} {M:Zf} {nx j:Nat} {oj:CO} {x:Opd} (hx:oj.op=.move x) {s:Sl×Hp} {b:Bool} (hw:ZF s.1 oj.guard=some b) :
  Zv C M nx j false oj s=some (Zi s.1 oj.dst (if b then evO s.1 x else .tup []),s.2):=by
 unfold Zv;rw[hw,Zc];cases b
 ·rfl
 ·simp only[Ki,hx,XP,Ka,Kh,vop];rfl
theorem Zmj {C:Orc} {M:Zf} {os:List CO} {nx i j:Nat} {oi oj:CO} (af:os[i]?=some oi) (am:os[j]?=some oj) (an:ZD os j=false) (ai:QG oj oi=true)
  (ao:∀ (k:Nat) (o:CO),os[k]?=some o→∀ x∈Zq o.op,Xd x=true)
  {s s1 s2:Sl×Hp} (hm:Xi oj.op=true) {t:Nat} (ht:oj.dst=some t) (aj:okV (gs s2.1 t)=true)
  (h1:Zr C M os nx j s=some s1) (h2:Zr C M os nx i s1=some s2):∃ t1,Zr C M os nx i s=some t1∧∃ t2,Zr C M os nx j t1=some t2∧QL t2 s2:=by
 obtain⟨x,hx⟩:∃ x,oj.op=.move x:=by
  cases ho:oj.op<;>rw[ho] at hm<;>first | (cases hm;done) | exact⟨_,rfl⟩
 simp only[QG,Kb] at ai;obtain⟨⟨ak,ad⟩,ab⟩:=ai;have aa:∀ s:Sl×Hp,Zr C M os nx j s=Zv C M nx j false oj s:=fun s=>by simp only[Zr,am,Zc,an]
 rw[aa] at h1;obtain⟨bj,ag⟩:∃ bj,ZF s.1 oj.guard=some bj:=by
  unfold Zv at h1;obtain⟨b,hw,_⟩:=Za h1;exact⟨b,hw⟩
 rw[JQ hx ag] at h1;have h1:=(Option.some.inj h1).symm;subst h1;simp only[Zr,af,Zc] at h2;unfold Zv at h2;obtain⟨b,hw,h2⟩:=Za h2;have al : ZF s.1 oi.guard=some b:=by rw[← hw];exact(Z7 ak).symm
 have ap:oi.dst≠some t:=fun e=>by rw[ht,e] at ad;simp[VX] at ad
 have ae:∀ n,x=.t n→oi.dst≠some n:=fun n e h=>by
  rw[h] at ab;simp only[Qg,KF,KA,KM] at ab;exact ab (Kd.2 (.inl (by rw[hx,e];simp[Zq,Ws])))
 cases b with
 | false=>
  simp only[Ka,Kh] at h2;cases h2;refine⟨(Zi s.1 oi.dst (.tup []),s.2),by simp only[Zr,af,Zc];exact Q4 al,?_⟩;refine⟨_,by rw[aa];exact JQ (s:=(Zi s.1 oi.dst (.tup []),s.2)) hx ((Z7 ab).trans ag),?_⟩;have:evO (Zi s.1 oi.dst (.tup [])) x=evO s.1 x:=XZ (o:=oj) ab x (by rw[hx];simp[Zq]);simp only[this];exact⟨fun t=>(YB ad _ _ t).symm,fun id=>rfl⟩
 | true=>
  simp only[Ki] at h2;obtain⟨ce,h3,h4,rfl⟩:=QD h2;have aq : XP C M nx i (ZD os i) oi.op s.1 s.2=some ce:=by
   rw[← h3];unfold XP;rw[Qt C M s.2 (nx+64*i) (XZ (o:=oi) ak)]
  refine⟨ce.on oi.dst s.1 s.2,by simp only[Zr,af,Zc,Zv,al,Ki,Q5];rw[aq,Zc,Kw h4],?_⟩;have ah:ZF (ce.on oi.dst s.1 s.2).1 oj.guard=some bj:=by
   show ZF (Zi (Qs ce.gone s.1) oi.dst ce.eff.val) oj.guard=_;rw[Z7 ab,← ag];exact Zbm fun q _=>Qh _ _ _
  refine⟨_,by rw[aa];exact JQ hx ah,?_⟩;have e0:gs (ce.on oi.dst (Zi s.1 oj.dst (if bj then evO s.1 x else .tup [])) s.2).1 t=kill ce.gone (if bj then evO s.1 x else .tup []):=by
   show gs (Zi (Qs ce.gone (Zi s.1 oj.dst _)) oi.dst ce.eff.val) t=_;rw[Z3,Ko ap,Qh,Z3,Kw ht]
  rw[e0] at aj;have hk:=W5 aj;have ev:(if bj then evO (ce.on oi.dst s.1 s.2).1 x else .tup [])=(if bj then evO s.1 x else .tup []):=by
   cases bj with
   | false=>rfl
   | true=>
    simp only[Ki] at hk ⊢;cases x with
    | t n=>
     show gs (Zi (Qs ce.gone s.1) oi.dst ce.eff.val) n=gs s.1 n;rw[Z3,Ko (ae n rfl),Qh];exact hk
    | _=>rfl
  rw[ev];refine⟨fun q=>?_,fun id=>rfl⟩;show gs (Zi (Zi (Qs ce.gone s.1) oi.dst ce.eff.val) oj.dst _) q=gs (Zi (Qs ce.gone (Zi s.1 oj.dst _)) oi.dst ce.eff.val) q;simp only[Z3,Qh];by_cases hq:oj.dst=some q
  ·have:¬oi.dst=some q:=fun e=>by rw[hq,e] at ad;simp[VX] at ad
   simp only[hq,Ki,this,Kh];exact hk.symm
  ·simp[hq]
theorem Zmk {C:Orc} {M:Zf} {os:List CO} {nx i j:Nat} {oi oj:CO} (am:os[i]?=some oi) (ag:os[j]?=some oj) (ar:ZD os i=false) (an:QG oj oi=true)
  (ah:∀ (k:Nat) (o:CO),os[k]?=some o→∀ x∈Zq o.op,Xd x=true)
  {s s1 s2:Sl×Hp} (hm:Xi oi.op=true) {t:Nat} (ht:oi.dst=some t) (ai:okV (gs s2.1 t)=true)
  (h1:Zr C M os nx j s=some s1) (h2:Zr C M os nx i s1=some s2):∃ t1,Zr C M os nx i s=some t1∧∃ t2,Zr C M os nx j t1=some t2∧QL t2 s2:=by
 obtain⟨x,hx⟩:∃ x,oi.op=.move x:=by
  cases ho:oi.op<;>rw[ho] at hm<;>first | (cases hm;done) | exact⟨_,rfl⟩
 simp only[QG,Kb] at an;obtain⟨⟨ad,aj⟩,ak⟩:=an;have aa:∀ s:Sl×Hp,Zr C M os nx i s=Zv C M nx i false oi s:=fun s=>by simp only[Zr,am,Zc,ar]
 rw[aa] at h2;simp only[Zr,ag,Zc] at h1;unfold Zv at h1;obtain⟨b,hw,h1⟩:=Za h1;have af:∀ n,x=.t n→oj.dst≠some n:=fun n e h=>by
  rw[h] at ad;simp only[Qg,KF,KA,KM] at ad;exact ad (Kd.2 (.inl (by rw[hx,e];simp[Zq,Ws])))
 have ao:∀ (bi:Bool) (e:evO s1.1 x=evO s.1 x∨bi=false) (g1:ZF s.1 oi.guard=some bi) (g2:ZF s1.1 oi.guard=some bi),s2=(Zi s1.1 oi.dst (if bi then evO s.1 x else .tup []),s1.2):=by
  intro bi e g1 g2;rw[JQ hx g2] at h2;rw[← Option.some.inj h2];rcases e with e | e
  ·rw[e]
  ·rw[e];rfl
 cases b with
 | false=>
  simp only[Ka,Kh] at h1;cases h1;have ae:ZF (Zi s.1 oj.dst (.tup [])) oi.guard=ZF s.1 oi.guard:=Z7 ad;obtain⟨bi,ab⟩:∃ bi,ZF s.1 oi.guard=some bi:=by
   unfold Zv at h2;obtain⟨b,hw,_⟩:=Za h2;exact⟨b,ae.symm.trans hw⟩
  have e:evO (Zi s.1 oj.dst (.tup [])) x=evO s.1 x:=XZ (o:=oi) ad x (by rw[hx];simp[Zq]);have h5:=ao bi (.inl e) ab (ae.trans ab);subst h5;refine⟨_,by rw[aa];exact JQ hx ab,(Zi (Zi s.1 oi.dst (if bi then evO s.1 x else .tup [])) oj.dst (.tup []),s.2),?_,fun t=>?_,fun id=>rfl⟩
  ·simp only[Zr,ag,Zc];exact Q4 (s:=(Zi s.1 oi.dst (if bi then evO s.1 x else .tup []),s.2)) ((Z7 ak).trans hw)
  ·exact(YB aj _ _ t).symm
 | true=>
  simp only[Ki] at h1;obtain⟨ce,h3,h4,rfl⟩:=QD h1;have ae:ZF (ce.on oj.dst s.1 s.2).1 oi.guard=ZF s.1 oi.guard:=by
   show ZF (Zi (Qs ce.gone s.1) oj.dst ce.eff.val) oi.guard=_;rw[Z7 ad];exact Zbm fun q _=>Qh _ _ _
  obtain⟨bi,ab⟩:∃ bi,ZF s.1 oi.guard=some bi:=by
   unfold Zv at h2;obtain⟨b,hw,_⟩:=Za h2;exact⟨b,ae.symm.trans hw⟩
  have ap:=h2;rw[JQ hx (ae.trans ab)] at ap;have h6:=Option.some.inj ap;have hv:okV (if bi then evO (ce.on oj.dst s.1 s.2).1 x else .tup [])=true:=by
   rw[← h6] at ai;simp only[Z3,Kw ht] at ai;exact ai
  have aq:kill ce.gone (if bi then evO s.1 x else .tup [])=(if bi then evO s.1 x else .tup [])∧(evO (ce.on oj.dst s.1 s.2).1 x=evO s.1 x∨bi=false):=by
   cases bi with
   | false=>exact⟨rfl,.inr rfl⟩
   | true=>
    simp only[Ki] at hv ⊢;cases x with
    | t n=>
     have e:evO (ce.on oj.dst s.1 s.2).1 (.t n)=kill ce.gone (gs s.1 n):=by
      show gs (Zi (Qs ce.gone s.1) oj.dst ce.eff.val) n=_;rw[Z3,Ko (af n rfl),Qh]
     rw[e] at hv ⊢;have:=W5 hv;exact⟨this,.inl this⟩
    | v c=>
     have hc:=ah i oi am (.v c) (by rw[hx];simp[Zq]);simp only[Xd,Kb,List.isEmpty_iff] at hc;exact⟨Zng hv fun id al=>by simp only[evO] at al;rw[hc.1] at al;simp at al,.inl rfl⟩
    | f n=>simp only[evO,okV,okC] at hv;cases hv
  have h5:=ao bi aq.2 ab (ae.trans ab);subst h5;refine⟨_,by rw[aa];exact JQ hx ab,ce.on oj.dst (Zi s.1 oi.dst (if bi then evO s.1 x else .tup [])) s.2,?_,fun q=>?_,fun id=>rfl⟩
  ·simp only[Zr,ag,Zc,Zv];have au:ZF (Zi s.1 oi.dst (if bi then evO s.1 x else .tup [])) oj.guard=some true:=(Z7 ak).trans hw;simp only[au,Zc,Ki,Q5];have:XP C M nx j (ZD os j) oj.op (Zi s.1 oi.dst (if bi then evO s.1 x else .tup [])) s.2=some ce:=by
    rw[← h3];unfold XP;rw[Qt C M s.2 (nx+64*j) (XZ (o:=oj) ak)]
   rw[this,Zc,Kw h4]
  ·show gs (Zi (Qs ce.gone (Zi s.1 oi.dst _)) oj.dst ce.eff.val) q=gs (Zi (Zi (Qs ce.gone s.1) oj.dst ce.eff.val) oi.dst _) q;simp only[Z3,Qh];by_cases hq:oi.dst=some q
   ·have:¬oj.dst=some q:=fun e=>by rw[hq,e] at aj;simp[VX] at aj
    simp only[hq,Ki,this,Kh];exact aq.1
   ·simp[hq]
theorem Zne {C:Orc} {M:Zf} (hM:∀ f,M f 99=false) (hC:Z6 P C) {ops:Array Oper} {os:List CO} (a9:Z5 (ZeI P nt ops.toList) ops.toList=some os) {nx i:Nat} {ks:List Nat} {oi:CO} (ab:os[i]?=some oi)
  (ad:∀ (k:Nat) (o:CO),os[k]?=some o→∀ x∈Zq o.op,Xd x=true) :
  ∀ (js:List Nat) {s r:Sl×Hp} {U:Nat→Prop},ZbQ nt s U→Qv U (nx+64*i)→(∀ j∈js,Qv U (nx+64*j))→(js++i :: ks).Pairwise (· < ·) →
   (∀ j∈js,∃ oj,os[j]?=some oj∧QG oj oi=true∧((ZD os j=false∧(ZD os i=true→ZmG oi.op=true∨(Zg1 oi.op=true∧(X6 oj.op=true∨(Vu oj.op=true∧Wt os j=true∧Wt os i=true∧ZcU r.1 oj.op oi.op=true)))∨(Xi oj.op=true∧J7 oi.op=true)∨(Xi oj.op=true∧Ze9 os j=true∧okD r.1 oj.dst=true) ∨
    (Xi oj.op=false∧V8 oi.op=true∧Zg3 oj.op=true∧Wt os j=true∧Wt os i=true∧Ze9 os j=true∧YN r.1 oj.dst oj.op oi.op=true))) ∨
    (ZD os j=true∧ZD os i=false∧Xi oi.op=true∧Ze9 os i=true∧okD r.1 oi.dst=true) ∨
    (ZD os j=true∧ZD os i=false∧Xi oi.op=false∧V8 oj.op=true∧Zde oi.op=true∧Wt os j=true∧Wt os i=true∧Ze9 os i=true∧YN r.1 oi.dst oi.op oj.op=true))) →
   (∀ j∈js++i :: ks,j<os.length)→JP C M os nx (js++i :: ks) s=some r →
   ∃ s',Zr C M os nx i s=some s'∧∃ r',JP C M os nx (js++ks) s'=some r'∧QL r' r
 | [],s,r,U,_,_,_,_,_,_,h=>by
  simp only[Ls,JP] at h ⊢;obtain⟨s',h1,h⟩:=Za h;exact⟨s',h1,r,h,QL.refl r⟩
 | j :: js,s,r,U,hs,hfi,hfj,hsort,hj,hlt,h=>by
  have a1:=h;simp only[Ky,JP] at h;obtain⟨s1,h1,h⟩:=Za h;have a8:=hsort;simp only[Ky,Lp] at hsort;have bk:j<i:=hsort.1 i (by simp);have a0:i≠j:=by omega
  have a':=Zme hC a9 hs (hfj j (by simp)) h1;have ba:∀ k∈js,k≠j:=fun k hk e=>by
   have:=hsort.1 k (by simp[hk]);omega
  obtain⟨s2,h2,r2,h3,h4⟩:=Zne hM hC a9 ab ad js a' (Zin a0 hfi) (fun k hk=>Zin (ba k hk) (hfj k (by simp[hk]))) hsort.2 (fun k hk=>hj k (by simp[hk])) (fun k hk=>hlt k (by simp only[Ky,Ke];exact .inr hk)) h;obtain⟨oj,ae,au,a2⟩:=hj j (by simp);have aa:∀ {k q n:Nat} {o:CO},Wt os k=true→os[k]?=some o→k≤q→q<os.length→n∈Xb o→Qg (YZ os q) [n]=true:=by
   intro k q n o am ho bl hq hn;have:=Kr.1 am q (K4.2 hq);simp only[Zj7,ho,La,Kt] at this;rcases this with h | h
   ·omega
   ·cases hd:YZ os q with
    | none=>rfl
    | some d=>
     rw[hd] at h;simp only[Qg,KF,KA,KM] at h ⊢;intro e;simp at e;exact h (e ▸ hn)
  have af:∀ {k:Nat} {o:CO},Wt os k=true→os[k]?=some o→Qg o.dst (Xb o)=true:=by
   intro k o am ho;have hk:k<os.length:=(Kc.1 ho).1;have:=Kr.1 am k (K4.2 hk);simp only[Zj7,YZ,ho,La,Kt] at this;rcases this with h | h
   ·omega
   ·exact h
  have ag:∀ {k q t:Nat} {o:CO},Ze9 os k=true→os[k]?=some o→o.dst=some t→q≠k→q<os.length→Qg (YZ os q) [t]=true:=by
   intro k q t o hl ho ht bb hq;simp only[Ze9,Kb] at hl;have:=Kr.1 hl.2 q (K4.2 hq);simp only[La,beq_iff_eq,YZ,ho,ht] at this;rcases this with h | h
   ·exact absurd h bb
   ·simp only[YZ];cases a3:os[q]? with
    | none=>rfl
    | some oq=>
     rw[a3] at h;simp only at h ⊢;cases hd:oq.dst with
     | none=>rfl
     | some d=>
      rw[hd] at h;simp only[VX,bne_iff_ne,ne_eq] at h;simp only[Qg,KF,KA,KM,KQ];exact h
  have ah:∀ {k:Nat} {o:CO},Ze9 os k=true→os[k]?=some o→∃ t,o.dst=some t:=by
   intro k o hl ho;simp only[Ze9,YZ,ho,Kb] at hl;cases hd:o.dst with
   | none=>rw[hd] at hl;cases hl.1
   | some t=>exact⟨t,rfl⟩
  have av:∀ n,(∀ q∈js++ks,Qg (YZ os q) [n]=true)→okV (gs r.1 n)=true→gs s2.1 n=gs r.1 n:=by
   intro n hn ho;rw[← h4.1 n] at ho ⊢;exact Zpu h3 hn ho
  have ak:∀ q∈js++ks,q≠i∧j<q∧q<os.length:=by
   intro q hq;refine⟨?_,?_,hlt q ?_⟩
   ·rcases Kd.1 hq with hq | hq
    ·have:=(Li.1 hsort.2).2.2 q hq i (by simp);omega
    ·have:=(Lp.1 (Li.1 hsort.2).2.1).1 q hq;omega
   ·rcases Kd.1 hq with hq | hq
    ·exact hsort.1 q (by simp[hq])
    ·exact hsort.1 q (by simp[hq])
   ·rcases Kd.1 hq with hq | hq<;>simp[hq]
  have an:Wt os j=true→∀ n∈Xb oj,∀ q∈js++ks,Qg (YZ os q) [n]=true:=fun am n hn q hq=>by
   obtain⟨_,h6,h7⟩:=ak q hq;exact aa am ae (by omega) h7 hn
  have ao:Wt os i=true→∀ n∈Xb oi,∀ q∈js++ks,Qg (YZ os q) [n]=true:=fun am n hn q hq=>by
   obtain⟨_,h6,h7⟩:=ak q hq;rcases Kd.1 hq with hq | hq
   ·obtain⟨oq,a3,ap,_⟩:=hj q (by simp[hq]);simp only[QG,Kb] at ap;have h5:=ap.1.1;simp only[YZ,a3];cases hd:oq.dst with
    | none=>rfl
    | some d=>
     rw[hd] at h5;simp only[Qg,KF,KA,KM] at h5 ⊢;intro e;simp at e;exact h5 (e ▸ hn)
   ·have:=(Lp.1 (Li.1 hsort.2).2.1).1 q hq;exact aa am ab (by omega) h7 hn
  have ai:∀ {o:CO} {n:Nat},n∈(Zq o.op).flatMap Ws→n∈Xb o:=fun h=>Kd.2 (.inl h);have aj:∀ {o:CO} {n:Nat},n∈(Zd0 o.op).flatMap Ws→n∈Xb o:=fun {o n} h=>by
   refine Kd.2 (.inl ?_);cases ho:o.op<;>rw[ho] at h<;>simp only[Zd0,List.flatMap_nil,LC] at h
   simp only[Zq,Kq,Kd];exact .inr h
  have a4:∃ t1,Zr C M os nx i s=some t1∧∃ t2,Zr C M os nx j t1=some t2∧QL t2 s2:=by
   rcases a2 with ⟨aw,ay⟩ | ⟨aw,az,k1,k5,k6⟩ | ⟨aw,az,k0,k1,k2,k3,k4,k5,k6⟩
   case inr.inl=>
    obtain⟨t,ht⟩:=ah k5 ab;refine Zmk ab ae az au ad k1 ht ?_ h1 h2;rw[ht] at k6;simp only[okD] at k6;rw[av t (fun q hq=>?_) k6]
    ·exact k6
    ·obtain⟨h5,_,h7⟩:=ak q hq;exact ag k5 ab ht h5 h7
   case inr.inr=>
    obtain⟨t,ht⟩:=ah k5 ab;refine Zk9 hM ab ae az a0 au (af k4 ab) (af k3 ae) ad hs hfi (hfj j (by simp)) k1 k2 ?_ ht h1 h2;refine(Zk8 k0 k1 k6).move (fun n hn=>av n (ao k4 n (ai hn))) (fun n hn=>av n fun q hq=>?_) (fun n hn=>av n (an k3 n (aj hn)));obtain⟨h5,_,h7⟩:=ak q hq;exact ag k5 ab hn h5 h7
   cases az:ZD os i with
   | false=>exact ZnZ ab ae az aw a0 au ad hs hfi (hfj j (by simp)) h1 h2
   | true=>
    rcases ay az with hc | ⟨am,hl⟩ | ⟨bc,bd⟩ | ⟨k1,k5,k6⟩ | ⟨k0,k1,k2,k3,k4,k5,k6⟩
    case inr.inr.inr.inl=>
     obtain⟨t,ht⟩:=ah k5 ae;refine Zmj ab ae aw au ad k1 ht ?_ h1 h2;rw[ht] at k6;simp only[okD] at k6;rw[av t (fun q hq=>?_) k6]
     ·exact k6
     ·obtain⟨_,h6,h7⟩:=ak q hq;exact ag k5 ae ht (by omega) h7
    case inr.inr.inr.inr=>
     obtain⟨t,ht⟩:=ah k5 ae;refine Zmi hM ab ae aw a0 au (af k3 ae) (af k4 ab) ad hs hfi (hfj j (by simp)) k1 k2 ?_ ht h1 h2;refine(Zk8 k0 k1 k6).move (fun n hn=>av n (an k3 n (ai hn))) (fun n hn=>av n fun q hq=>?_) (fun n hn=>av n (ao k4 n (aj hn)));obtain⟨_,h6,h7⟩:=ak q hq;exact ag k5 ae hn (by omega) h7
    ·exact Zn3 ab ae hc aw a0 au ad hs hfi (hfj j (by simp)) h1 h2
    ·refine Zmh ab ae az aw a0 au ad hs hfi (hfj j (by simp)) ⟨am,?_⟩ h1 h2;rcases hl with hl | ⟨be,bf,bg,al⟩
     ·exact .inl hl
     ·refine .inr ⟨be,?_⟩;have a5:∀ x∈Zq oi.op,okW (evO r.1 x)=true→evO s.1 x=evO r.1 x:=by
       intro x hx ax;cases x with
       | v a=>rfl
       | f n=>rfl
       | t n=>
        simp only[evO] at ax ⊢;have hn:n∈Xb oi:=by
         rw[Xb];exact Kd.2 (.inl (Kj.2 ⟨.t n,hx,KQ.2 rfl⟩))
        refine ZjF a1 (fun q hq=>?_) ax;rcases Kd.1 hq with hq | hq
        ·obtain⟨oq,a3,ap,_⟩:=hj q hq;simp only[QG,Kb] at ap;have h5:=ap.1.1;simp only[YZ,a3];cases hd:oq.dst with
         | none=>rfl
         | some d=>
          rw[hd] at h5;simp only[Qg,KF,KA,KM] at h5 ⊢;intro e;simp at e;exact h5 (e ▸ hn)
        ·refine aa bg ab ?_ (hlt q (Kd.2 (.inr hq))) hn;rcases Ke.1 hq with rfl | hq
         ·omega
         ·have:=Li.1 hsort.2;have:=(Lp.1 this.2.1).1 q hq;omega
      have a7:∀ id,Ql r.1 id (Zq oj.op)=true→Ql s.1 id (Zq oj.op)=true:=by
       intro id bh;have bi:∀ xs:List Opd,(∀ z∈xs,z∈Zq oj.op)→Ql r.1 id xs=true→Ql s.1 id xs=true:=by
        intro xs
        induction xs with
        | nil=>intro _ _;rfl
        | cons z zs ihz=>
         intro a6 hz;simp only[Ql,Kb] at hz ⊢;refine⟨?_,ihz (fun z' bj=>a6 z' (by simp[bj])) hz.2⟩;cases z with
         | v a=>exact hz.1
         | f n=>exact hz.1
         | t n=>
          simp only[evO] at hz ⊢;have hn:n∈Xb oj:=by
           rw[Xb];exact Kd.2 (.inl (Kj.2 ⟨.t n,a6 (.t n) (KU ..),KQ.2 rfl⟩))
          rw[Zpu a1 (fun q hq=>?_) (ZqJ hz.1)]
          ·exact hz.1
          ·refine aa bf ae ?_ (hlt q hq) hn;rcases Kd.1 hq with hq | hq
           ·rcases Ke.1 hq with rfl | hq
            ·omega
            ·have:=hsort.1 q (by simp[hq]);omega
           ·have:=hsort.1 q (by simp only[Kd];exact .inr hq);omega
       exact bi _ (fun _ h=>h) bh
      cases ho:oi.op<;>rw[ho] at am al<;>first | (cases am;done) | skip
      case store slc sz x y=>
       simp only[ZcU,Kb] at al ⊢;obtain⟨al,ar⟩:=al;have ax:okV (evO r.1 x)=true:=by
        cases ht:Xy (evO r.1 x) with
        | none=>rw[ht] at al;simp[J9] at al
        | some id=>cases hv:evO r.1 x<;>rw[hv] at ht<;>simp only[Xy] at ht<;>first | (cases ht;done) | rfl
       rw[a5 x (by rw[ho];simp[Zq]) (Zfe ax)];constructor
       ·cases ht:Xy (evO r.1 x) with
        | none=>rw[ht] at al;simp[J9] at al
        | some id=>rw[ht] at al;exact a7 id al
       ·by_cases hp:∃ b1 b2 b3 b4,evO r.1 x=.prow b1 b2 b3 b4
        ·obtain⟨b1,b2,b3,b4,hp⟩:=hp;rw[hp] at ar ⊢;rcases Zes ar with ⟨d,hv⟩ | hv
         ·rw[a5 y (by rw[ho];simp[Zq]) (by rw[hv];rfl),hv];rfl
         ·rw[a5 y (by rw[ho];simp[Zq]) (Zfe hv.1)];exact Zn2 ⟨hv.1,Zgn a7 hv.2⟩
        ·exact ZjG fun b1 b2 b3 b4 e=>hp ⟨b1,b2,b3,b4,e⟩
      case append sz by_ str flat x y=>
       simp only[ZcU,Kb,La] at al ⊢;obtain⟨ar,aq⟩:=al;constructor
       ·have ax:okW (evO r.1 x)=true:=by
         cases hv:evO r.1 x<;>rw[hv] at ar<;>first | rfl | (cases ar;done) | skip
         case tup vs=>cases vs<;>first | rfl | cases ar
        rw[a5 x (by rw[ho];simp[Zq]) ax];cases hv:evO r.1 x<;>rw[hv] at ar<;>first | (cases ar;done) | exact a7 _ ar | skip
        ·rfl
        case tup vs=>cases vs<;>first | rfl | cases ar
       ·rcases aq with aq | aq
        ·exact .inl aq
        ·right
         have ax:okW (evO r.1 y)=true:=by
          unfold seenSrc at aq;split at aq
          ·rename_i k hk;rw[hk];rfl
          ·exact Zfe aq
         rw[a5 y (by rw[ho];simp[Zq]) ax];unfold seenSrc at aq ⊢;split at aq
         ·exact a7 _ aq
         ·exact aq
    ·exact Zn5 ab ae aw au bc bd h1 h2
  obtain⟨t1,g1,t2,g2,g3⟩:=a4;obtain⟨r3,g4,g5⟩:=Zgk g3.symm h3;refine⟨t1,g1,r3,?_,g5.symm.trans h4⟩;simp only[Ky,JP,g2,Zc];exact g4
def rem (n:Nat) (listed:Array Bool):List Nat:=(List.range n).filter fun i=>!listed.getD i true
theorem Zbk {n:Nat} {aa:Array Bool} {i:Nat}:i∈rem n aa↔i<n∧aa.getD i true=false:=by
 simp[rem]
theorem Zgt (n:Nat) (aa:Array Bool):(rem n aa).Pairwise (· < ·):=List.Pairwise.filter _ List.pairwise_lt_range
theorem ZqM {n:Nat} {aa:Array Bool} (ad:aa.size=n) (i:Nat):rem n (aa.setIfInBounds i true)=(rem n aa).filter fun j=>j != i:=by
 simp only[rem,List.filter_filter];refine List.filter_congr fun j hj=>?_;have ae:j<n:=K4.1 hj;by_cases ab:i=j
 ·subst ab;simp[ad,ae]
 ·simp[Array.getElem?_setIfInBounds_ne ab,Ne.symm ab]
def Ziq (nx:Nat) (listed:Array Bool) (id:Nat):Prop:=id<nx∨∃ k,listed.getD k false=true∧nx+64*k≤id∧id<nx+64*k+64
theorem YG {l:Array Bool} {k:Nat} (h:l.getD k false=true):k<l.size∧l.getD k true=true:=by
 rcases KJ k l.size with h1 | h1
 ·refine⟨h1,?_⟩;simp[h1] at h ⊢;exact h
 ·simp[Array.getElem?_eq_none h1] at h
theorem Zgu {nx i:Nat} {aa:Array Bool} (h:aa.getD i true=false):Qv (Ziq nx aa) (nx+64*i):=by
 intro id h1 h2 hu;rcases hu with hu | ⟨k,hk,h3,h4⟩
 ·omega
 ·have ab:k≠i:=fun e=>by subst e;rw[(YG hk).2] at h;cases h
  rcases Lf ab with h5 | h5<;>omega
theorem Zgv {nx i:Nat} {aa:Array Bool} (hi:i<aa.size):∀ id,Vy (Ziq nx aa) (nx+64*i) id→Ziq nx (aa.setIfInBounds i true) id:=by
 rintro id ((h | ⟨k,hk,h1⟩) | h)
 ·exact .inl h
 ·exact .inr ⟨k,getD_set_true hk,h1⟩
 ·exact .inr ⟨i,by simp[hi],h.1,h.2⟩
end
end Go.Abs
