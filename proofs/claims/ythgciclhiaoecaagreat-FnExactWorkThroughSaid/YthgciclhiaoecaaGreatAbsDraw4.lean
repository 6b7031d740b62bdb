/- Own text. -/
import Derived.Test.YthgciclhiaoecaaGreatAbsDrawD
set_option linter.unusedVariables false
set_option linter.unusedSimpArgs false
namespace Go.Abs
open Go
section
variable {P:Program} {nt:Nat}
theorem Zq4 {α β:Type} {f:α→Option β}:∀ {l:List α} {r:List β},Qy f l=some r→∀ (i:Nat) (x:α),l[i]?=some x→∃ y,r[i]?=some y∧f x=some y
 | [],r,h,i,x,hx=>by simp at hx
 | a :: l,r,h,i,x,hx=>by
  simp only[Qy] at h;obtain⟨y,h1,h⟩:=Za h;obtain⟨ys,h2,h⟩:=Za h;cases h;cases i with
  | zero=>simp at hx;subst hx;exact⟨y,by simp,h1⟩
  | succ i=>simp at hx;obtain⟨z,h3,h4⟩:=Zq4 h2 i x hx;exact⟨z,by simpa using h3,h4⟩
theorem Zdt {α β:Type} {f:α→Option β}:∀ {l:List α} {r:List β},Qy f l=some r→r.length=l.length
 | [],r,h=>by simp only[Qy] at h;cases h;rfl
 | a :: l,r,h=>by
  simp only[Qy] at h;obtain⟨y,h1,h⟩:=Za h;obtain⟨ys,h2,h⟩:=Za h;cases h;simp[Zdt h2]
theorem Zxt {C:Orc} {M:Zm} (hC:Qi P C) {ops:Array Oper} {os:List CO} (ad:Qy (ZoM P nt ops.toList) ops.toList=some os) {nx i:Nat} {s s' : Sl×Hp} {U:Nat→Prop} (hs:Zj4 nt s U) (hf:Xd U (nx+64*i))
  (h:ZE C M os nx i s=some s'):Zj4 nt s' (Zab U (nx+64*i)):=by
 obtain⟨F,A,I,Γ,a,w,aa⟩:=hs;unfold ZE at h;obtain⟨co,ae,h⟩:=Za h;have ag:i<ops.toList.length:=by rw[← Zdt ad];exact(Kc.1 ae).1
 obtain⟨am,h1,h2⟩:=Zq4 ad i ops.toList[i] (Kw ag);rw[ae] at h1;cases h1;obtain⟨hg,ah,ab,af⟩:=ZkY h2;unfold ZM at h;obtain⟨b,hw,h⟩:=Za h;cases b with
 | true=>
  simp only[Km] at h;obtain⟨ce,ai,aj,rfl⟩:=Xo h;have ak:=Zxo hC aa ah hf ab aj (ZeO ai) (fun a' w'=>∃ F A I Γ a w,Sim nt F A I Γ (Zab U (nx+64*i)) (ce.on co.dst s.1 s.2).1 (ce.on co.dst s.1 s.2).2 a w) (fun _ _ _=>False) fun u w' hp=>by
   obtain⟨I1,Γ1,b1,b2,b3,b4,b5⟩:=hp;rw[← af] at b5;exact⟨F,A,I1,Γ1,_,_,b5⟩
  obtain⟨_,_,al⟩:=Oper.wp_ex ak;exact al
 | false=>
  simp only[Ka,Kk] at h;cases h;obtain⟨I1,Γ1,b1,b2,b3,b4,b5⟩:=aa.pure (U':=Zab U (nx+64*i)) (v:=.tup []) (u:=undef) (dst:=co.dst) (fun id hu=>.inl hu) ZnL (by rw[af];exact ab);exact⟨F,A,I1,Γ1,_,_,b5⟩
theorem Ztq {U:Nat→Prop} {nx i j:Nat} (aa:i≠j) (h:Xd U (nx+64*i)):Xd (Zab U (nx+64*j)) (nx+64*i):=by
 intro id h1 h2 hu;rcases hu with hu | hu
 ·exact h id h1 h2 hu
 ·rcases LZ aa with h3 | h3<;>omega
theorem ZCq {id:Nat} {v:AV} (h:Zc2 id v=true):okV v=true:=by
 cases v with
 | tup vs=>cases vs with
  | nil=>rfl
  | cons x r=>cases h
 | _=>first | rfl | cases h
def okW (v:AV):Bool:=okV v
theorem Zpw {v:AV} (h:okV v=true):okW v=true:=h
theorem ZA9 {g:List Nat} {v:AV} (h:okW (kill g v)=true):kill g v=v:=ZcG h
theorem ZCr {C:Orc} {M:Zm} {os:List CO} {nx q n:Nat} {s r:Sl×Hp} (h:ZE C M os nx q s=some r) (hd:QN (U3 os q) [n]=true) (hk:okW (gs r.1 n)=true):gs s.1 n=gs r.1 n:=by
 unfold ZE at h;obtain⟨o,ho,h⟩:=Za h;have aa:o.dst≠some n:=by
  intro e;simp[U3,ho,e,QN] at hd
 unfold ZM at h;obtain⟨b,_,h⟩:=Za h;cases b with
 | true=>
  simp only[Km] at h;obtain⟨ce,_,_,rfl⟩:=Xo h;have e1:gs (ce.on o.dst s.1 s.2).1 n=kill ce.gone (gs s.1 n):=by
   show gs (Zr (Xa ce.gone s.1) o.dst ce.eff.val) n=_;rw[Qx,Kg aa,QO]
  rw[e1] at hk ⊢;exact(ZA9 hk).symm
 | false=>
  simp only[Ka,Kk] at h;cases h;show gs s.1 n=gs (Zr s.1 o.dst (.tup [])) n;rw[Qx,Kg aa]
theorem ZuD {C:Orc} {M:Zm} {os:List CO} {nx n:Nat}:∀ {l:List Nat} {s r:Sl×Hp},Zfw C M os nx l s=some r→(∀ q∈l,QN (U3 os q) [n]=true)→okW (gs r.1 n)=true→gs s.1 n=gs r.1 n
 | [],s,r,h,_,_=>by simp only[Zfw] at h;cases h;rfl
 | i :: l,s,r,h,hd,hk=>by
  simp only[Zfw] at h;obtain⟨s1,h1,h⟩:=Za h;have h2:=ZuD h (fun q hq=>hd q (by simp[hq])) hk;rw[← h2] at hk ⊢;exact ZCr h1 (hd i (by simp)) hk
theorem ZBa {C:Orc} {M:Zm} {os:List CO} {nx n:Nat} {l:List Nat} {s r:Sl×Hp} (h:Zfw C M os nx l s=some r) (hd:∀ q∈l,QN (U3 os q) [n]=true) (hk:okV (gs r.1 n)=true):gs s.1 n=gs r.1 n:=ZuD h hd (Zpw hk)
theorem Zxu {C:Orc} {M:Zm} {sl:Sl} {hp:Hp} {base:Nat} {c:COp} {ce:Zf} (hc:ZxV c=true) (h:vop C M sl hp base c=some ce):Zc4 (vop C M sl hp base c)=some ce:=by
 rw[h];have aa:ce.gone=[]∧ce.eff.sets=[]∧ce.eff.dels=[]∧ce.eff.frz=[]:=by
  have o1:∀ {v:AV},QJ v=some ce→ce.gone=[]∧ce.eff.sets=[]∧ce.eff.dels=[]∧ce.eff.frz=[]:=fun h=>by cases h;exact⟨rfl,rfl,rfl,rfl⟩
  have o2:∀ {v:Option AV},VY v=some ce→ce.gone=[]∧ce.eff.sets=[]∧ce.eff.dels=[]∧ce.eff.frz=[]:=fun h=>by obtain⟨v,_,h⟩:=Za h;exact o1 h
  cases c<;>simp only[ZxV,Ka] at hc<;>simp only[vop] at h
  case stuck=>cases h
  case move x=>exact o1 h
  case assign s x=>
   unfold ZfG at h;split at h
   ·obtain⟨s,_,h⟩:=Za h;cases h;exact⟨rfl,rfl,rfl,rfl⟩
   ·exact o1 h
  case pick c a b=>
   unfold Zh4 at h;split at h
   ·split at h<;>exact o1 h
   ·cases h
  case alloc slc cs=>
   unfold Zh5 Zrp at h;split at h
   ·split at h<;>first | (cases h;done) | (cases h;exact⟨rfl,rfl,rfl,rfl⟩)
   ·split at h<;>(cases h;exact⟨rfl,rfl,rfl,rfl⟩)
  case box x=>
   unfold ZzP at h;split at h
   ·cases h;exact⟨rfl,rfl,rfl,rfl⟩
   ·cases h
  case build zs ps=>obtain⟨cs,_,h⟩:=Za h;exact o1 h
  case load g s a=>exact o2 h
  case nilCheck x=>unfold ZaB at h;split at h<;>first | exact o1 h | cases h
  case bin op eq x y=>
   unfold Znu at h;split at h
   ·split at h
    ·exact o2 h
    ·cases h
   ·exact o2 h
  case un op x=>exact o2 h
  case eqA neg n x y=>
   unfold ZuT at h;split at h
   ·obtain⟨r,_,h⟩:=Za h;exact o1 h
   ·cases h
  case convI k x=>unfold Go.Abs.convI at h;split at h<;>first | exact o1 h | cases h
  case convS x=>unfold Go.Abs.convS at h;split at h<;>first | exact o1 h | cases h
  case fn f cs=>exact o2 h
  case make s b z l c=>
   obtain⟨l,_,h⟩:=Za h;obtain⟨c,_,h⟩:=Za h;unfold ZtI at h;split at h
   ·cases h;exact⟨rfl,rfl,rfl,rfl⟩
   ·cases h
  case slice s x lo hi=>exact o2 h
  case sliceS x lo hi=>exact o2 h
  case slice0 x hi mx=>exact o2 h
  case slice3 s x lo hi mx=>exact o2 h
  case shift off x=>unfold WB at h;split at h<;>first | exact o1 h | cases h
  case part g s off x=>exact o2 h
  case iaS s x i=>
   obtain⟨n,_,h⟩:=Za h;unfold Zkb at h;split at h
   ·exact o2 h
   ·cases h
  case iaA len s x i=>
   obtain⟨n,_,h⟩:=Za h;unfold Zrs at h;split at h
   ·unfold WB at h;split at h<;>first | exact o1 h | cases h
   ·cases h
  case ixS x i=>
   obtain⟨n,_,h⟩:=Za h;unfold ZxJ at h;split at h
   ·unfold Zwx at h;split at h
    ·obtain⟨b,_,h⟩:=Za h;exact o1 h
    ·cases h
   ·cases h
  case ixA g s len x i=>
   obtain⟨n,_,h⟩:=Za h;unfold ZzR at h;split at h
   ·exact o2 h
   ·cases h
  case nth i x=>unfold Zwy at h;split at h<;>first | exact o2 h | cases h
  case len x=>obtain⟨n,_,h⟩:=Za h;exact o1 h
  case lenS x=>obtain⟨n,_,h⟩:=Za h;exact o1 h
  case min x y=>unfold ZoJ at h;split at h<;>first | (split at h<;>first | exact o1 h | cases h) | cases h
  case max x y=>unfold ZoK at h;split at h<;>first | (split at h<;>first | exact o1 h | cases h) | cases h
 simp only[Zc4,Zg,aa.1,aa.2.1,aa.2.2.1,aa.2.2.2,ZfQ]
theorem Zzq {C:Orc} {M:Zm} {nx i:Nat} {o:CO} (hc:ZxV o.op=true) (s:Sl×Hp):ZM C M nx i true o s=ZM C M nx i false o s:=by
 unfold ZM;have:V9 C M nx i true o.op s.1 s.2=V9 C M nx i false o.op s.1 s.2:=by
  unfold V9;simp only[Km,Ka,Kk];cases h:vop C M s.1 s.2 (nx+64*i) o.op with
  | none=>rfl
  | some ce=>rw[← h,Zxu hc h,h]
 rw[this]
theorem vop_read {C:Orc} {M:Zm} {sl:Sl} {hp hp' : Hp} {base:Nat} {c:COp} (hc:J5 c=true) (h:∀ x∈ZD c,∀ k∈Zw (evO sl x),lkp hp k=lkp hp' k):vop C M sl hp base c=vop C M sl hp' base c:=by
 have len:∀ v:AV,(∀ k∈Zw v,lkp hp k=lkp hp' k)→Zd6 hp v=Zd6 hp' v:=fun v hv=>by
  cases v<;>simp only[Zd6]
  case d x=>cases x<;>rfl
  case own id=>rw[hv id (by simp[Zw,Zy,Zl])]
 cases c<;>simp only[J5,Ka] at hc<;>simp only[ZD] at h<;>simp only[vop]
 case load g s a=>
  have:=h a (by simp);cases hv:evO sl a<;>rw[hv] at this<;>simp only[Uu]
  case ptr id off=>rw[this id (by simp[Zw,Zy,Zl])]
  case prow id sz i off=>rw[this id (by simp[Zw,Zy,Zl])]
 case slice s x lo hi=>
  have:=h x (by simp);cases hv:evO sl x<;>rw[hv] at this<;>simp only[VX]
  case d x=>cases x<;>rfl
  case own id=>rw[this id (by simp[Zw,Zy,Zl])]
  case ownv id off n=>rw[this id (by simp[Zw,Zy,Zl])]
 case slice0 x hi mx=>
  unfold slice0;rw[len _ (h x (by simp))]
 case iaS s x i=>
  congr 1
  funext n
  simp only[Zkb];have:=h x (by simp);cases hv:evO sl x<;>rw[hv] at this<;>simp only[QB]
  case d x=>cases x<;>rfl
  case own id=>rw[this id (by simp[Zw,Zy,Zl])]
  case ownv id off n=>rw[this id (by simp[Zw,Zy,Zl])]
 case len x=>rw[len _ (h x (by simp))]
theorem Ztr {A B:Hp} (hd:∀ k x y,(k,x)∈A→(k,y)∈B→False) (hp:Hp) (id:Nat):lkp (Zi (Zi hp A) B) id=lkp (Zi (Zi hp B) A) id:=by
 have aa:∀ (l:Hp) (hp hp' : Hp),lkp hp id=lkp hp' id→lkp (Zi hp l) id=lkp (Zi hp' l) id:=by
  intro l
  induction l with
  | nil=>intro hp hp' h;exact h
  | cons q r ih=>
   intro hp hp' h;obtain⟨k,x⟩:=q;simp only[Zi];exact ih _ _ (by rw[Qu,Qu,h])
 by_cases h1:∃ o,(id,o)∈A
 ·have h2:∀ o,(id,o)∉B:=fun o ho=>by
   obtain⟨o',ab⟩:=h1;exact hd id o' o ab ho
  rw[ZC B _ id h2];exact aa A _ _ (ZC B hp id h2).symm
 ·have h2:∀ o,(id,o)∉A:=fun o ho=>h1 ⟨o,ho⟩;rw[ZC A _ id h2];exact aa B _ _ (ZC A hp id h2)
theorem Zv8 {hp:Hp} {v:AV} {q:D×Bool×List Nat} (h:Zby hp v=some q):∀ i∈q.2.2,i∈Zl v:=by
 intro i hi;cases v<;>simp only[Zby] at h<;>first | (cases h;simp at hi;done) | (cases h;done) | skip
 obtain⟨p,_,h⟩:=Za h;cases h;simpa [Zl] using hi
theorem Zot {hp:Hp}:∀ {vs:List AV} {q:List D×Bool×List Nat},V1 hp vs=some q→∀ i∈q.2.2,i∈vs.flatMap Zl
 | [],q,h,i,hi=>by simp only[V1] at h;cases h;simp at hi
 | v :: vs,q,h,i,hi=>by
  simp only[V1] at h;obtain⟨q1,h1,h⟩:=Za h;obtain⟨q2,h2,h⟩:=Za h;split at h
  ·cases h;rcases Ke.1 hi with hi | hi
   ·exact Ku.2 ⟨v,by simp,Zv8 h1 i hi⟩
   ·obtain⟨c,hc,aa⟩:=Ku.1 (Zot h2 i hi);exact Ku.2 ⟨c,by simp[hc],aa⟩
  ·cases h
theorem Zv9 {hp:Hp} {n:Nat} {v:AV} {q:D×List Nat} (h:ZhZ hp n v=some q):∀ i∈q.2,i∈Zl v:=by
 unfold ZhZ at h;split at h
 ·split at h
  ·cases h;simp
  ·cases h
 ·cases h;simp
 ·unfold ZiM at h;split at h
  ·split at h
   ·cases h;simp[Zl]
   ·cases h
  ·split at h
   ·cases h;simp[Zl]
   ·cases h
  ·cases h
 ·cases h
theorem Zou {hp:Hp} {n:Nat}:∀ {vs:List AV} {q:List D×List Nat},Wz hp n vs=some q→∀ i∈q.2,i∈vs.flatMap Zl
 | [],q,h,i,hi=>by simp only[Wz] at h;cases h;simp at hi
 | v :: vs,q,h,i,hi=>by
  simp only[Wz] at h;obtain⟨q1,h1,h⟩:=Za h;obtain⟨q2,h2,h⟩:=Za h;split at h
  ·cases h;rcases Ke.1 hi with hi | hi
   ·exact Ku.2 ⟨v,by simp,Zv9 h1 i hi⟩
   ·obtain⟨c,hc,aa⟩:=Ku.1 (Zou h2 i hi);exact Ku.2 ⟨c,by simp[hc],aa⟩
  ·cases h
theorem Zzr {hp:Hp} {slc:List (Option Nat)} {s base:Nat} {vs:List AV} {x:AV} {e:Eff} (h:Zbr hp slc s base vs x=some e):∃ id o,VE x=some id∧e.val=.junk∧e.sets=[(id,o)]∧(∀ k∈e.dels,k∈vs.flatMap Zl∧∃ a b c d,x=.prow a b c d)∧∀ i∈e.frz,i∈vs.flatMap Zl:=by
 cases x<;>simp only[Zbr] at h<;>first | cases h | skip
 case ptr id off=>
  unfold ZhY at h;split at h
  ·split at h
   ·split at h<;>(cases h;exact⟨id,_,rfl,rfl,rfl,fun i hi=>by simp at hi,fun i hi=>by simp at hi⟩)
   ·cases h
  ·cases h
 case prow id sz i off=>
  unfold ZcP at h;split at h
  ·split at h
   ·obtain⟨x,_,h⟩:=Za h;obtain⟨q,hq,h⟩:=Za h;unfold ZiL at h;split at h
    ·cases h;exact⟨id,_,rfl,rfl,rfl,fun i hi=>by simp at hi,Zot hq⟩
    ·cases h
   ·cases h
  ·split at h
   ·obtain⟨x,_,h⟩:=Za h;obtain⟨q,hq,h⟩:=Za h;unfold ZiN at h;split at h
    ·cases h;exact⟨id,_,rfl,rfl,rfl,fun k hk=>⟨Zou hq k hk,_,_,_,_,rfl⟩,fun i hi=>by simp at hi⟩
    ·cases h
   ·cases h
  ·cases h
def FzEq (o o' : Option Zn):Prop:=∃ b:Bool,o'=o.map fun x=>if b then Vt x else x
theorem FzEq.seen {o o' : Option Zn} (h:FzEq o o'):ZcH [] o o':=by
 obtain⟨b,rfl⟩:=h;have hk:∀ x:Zn,Xh [] x=x:=fun x=>by
  cases x with
  | box cs=>simp only[Xh];congr 1;rw[KR (g:=id) (fun a _=>Zez a),LJ]
  | row _ _ _ _=>rfl
  | gone=>rfl
  | tree _ _ _ l=>rcases l with _ | ⟨_ | _,_⟩<;>simp[Xh,Wt]
 have:=Zwh (g:=[]) (b:=b) o;have e:(o.map (Xh []))=o:=by cases o<;>simp[hk]
 rw[e] at this;exact this
theorem vop_fz {C:Orc} {M:Zm} {sl:Sl} {hp hp' : Hp} {base:Nat} {c:COp} (hc:J5 c=true) (h:∀ x∈ZD c,∀ k∈Zw (evO sl x),FzEq (lkp hp k) (lkp hp' k)):vop C M sl hp' base c=vop C M sl hp base c:=by
 have hs:∀ x∈ZD c,Zma [] hp hp' (evO sl x):=fun x hx k hk=>(h x hx k hk).seen;cases c<;>simp only[J5,Ka] at hc<;>simp only[ZD] at h hs<;>simp only[vop]
 case load g s a=>
  have h1:=h a (by simp);have h2:=hs a (by simp);cases hv:evO sl a<;>rw[hv] at h1 h2<;>simp only[Uu]
  case ptr id off=>
   obtain⟨b,e⟩:=h1 id (by simp[Zw,Zy,Zl]);rw[e];cases lkp hp id with
   | none=>rfl
   | some o=>cases o<;>cases b<;>rfl
  case prow id sz i off=>
   obtain⟨b,e⟩:=h1 id (by simp[Zw,Zy,Zl]);rw[e];cases lkp hp id with
   | none=>rfl
   | some o=>cases o<;>cases b<;>rfl
 case slice s x lo hi=>rw[ZhT (hs x (by simp))]
 case slice0 x hi mx=>unfold slice0;rw[ZeC (hs x (by simp))]
 case iaS s x i=>
  congr 1
  funext n
  simp only[Zkb];rw[Zbq (hs x (by simp))]
 case len x=>rw[ZeC (hs x (by simp))]
def Zl6 (sl:Sl) (a:COp):COp→Bool
 | .store _ _ x y=>ZfP sl a (VE (evO sl x))&&VZ sl a (evO sl x) (evO sl y)
 | .append _ _ _ flat x y=>J6 sl a (evO sl x)&&(flat || seenSrc sl a (evO sl y))
 | _=>false
def LooseS (s:Sl) (a b:COp):Prop:=ZrF b=true∧(WC a=true∨(J5 a=true∧Zl6 s a b=true))
theorem ZhR {sl:Sl} {id:Nat}:∀ {xs:List Opd},QS sl id xs=true→∀ x∈xs,Zc2 id (evO sl x)=true
 | [],_,x,hx=>by simp at hx
 | y :: ys,h,x,hx=>by
  simp only[QS,Kd] at h;rcases Kf.1 hx with rfl | hx
  ·exact h.1
  ·exact ZhR h.2 x hx
theorem Zov {sl:Sl} {xs:List Opd}:∀ {ks:List Nat},X0 sl xs ks=true→∀ k∈ks,QS sl k xs=true
 | [],_,k,hk=>by simp at hk
 | j :: r,h,k,hk=>by
  simp only[X0,Kd] at h;rcases Kf.1 hk with rfl | hk
  ·exact h.1
  ·exact Zov h.2 k hk
theorem Zow {sl:Sl} {a:COp} {b1 b2 b3 b4:Nat} {v:AV} (h:VZ sl a (.prow b1 b2 b3 b4) v=true):(∃ d,v=.d d)∨(okV v=true∧X0 sl (ZD a) (Zw v)=true):=by
 cases v<;>first | exact .inl ⟨_,rfl⟩ | (simp only[VZ,Kd] at h;exact .inr h)
theorem Zzs {sl:Sl} {a:COp} {b1 b2 b3 b4:Nat} {v:AV} (h:okV v=true∧X0 sl (ZD a) (Zw v)=true):VZ sl a (.prow b1 b2 b3 b4) v=true:=by
 cases v<;>first | rfl | (simp only[VZ,Kd];exact h)
theorem ZuE {sl:Sl} {a:COp} {x v:AV} (hx:∀ a b c d,x≠.prow a b c d):VZ sl a x v=true:=by
 cases x<;>first | rfl | exact absurd rfl (hx _ _ _ _)
theorem Zq5 {sl sl' : Sl} {xs:List Opd} (h:∀ k,QS sl k xs=true→QS sl' k xs=true):∀ {ks:List Nat},X0 sl xs ks=true→X0 sl' xs ks=true
 | [],_=>rfl
 | j :: r,hh=>by
  simp only[X0,Kd] at hh ⊢;exact⟨h j hh.1,Zq5 h hh.2⟩
theorem Zq6 {id:Nat} {v:AV} (h:Zc2 id v=true):id∉Zw v:=by
 cases v with
 | tup vs=>cases vs with
  | nil=>simp[Zw]
  | cons x r=>cases h
 | _=>simp[Zc2,Zw,Zy,Zl] at h ⊢ <;> exact fun e=>h e.symm
theorem Zxv {hp:Hp} {sz by_ base:Nat} {str flat:Bool} {x y:AV} {e:Eff} (h:J0 hp sz by_ str flat base x y=some e):e.sets=[]∧e.frz=[]∧((x=.nil∧e.dels=[])∨∃ id,e.dels=[id]∧(x=.own id∨∃ o n,x=.ownv id o n)):=by
 unfold J0 at h;obtain⟨q,_,h⟩:=Za h;split at h
 ·cases x<;>simp only[Zka] at h<;>first | (cases h;done) | skip
  ·split at h
   ·cases h;exact⟨rfl,rfl,.inl ⟨rfl,rfl⟩⟩
   ·cases h
  ·split at h
   ·cases h
   ·unfold Zro at h;split at h
    ·split at h
     ·cases h;exact⟨rfl,rfl,.inr ⟨_,rfl,.inl rfl⟩⟩
     ·cases h
    ·cases h
  ·split at h
   ·cases h
   ·split at h
    ·unfold Zmi at h;split at h
     ·split at h
      ·cases h;exact⟨rfl,rfl,.inr ⟨_,rfl,.inr ⟨_,_,rfl⟩⟩⟩
      ·cases h
     ·cases h
    ·unfold Zmh at h;split at h
     ·split at h
      ·cases h;exact⟨rfl,rfl,.inr ⟨_,rfl,.inr ⟨_,_,rfl⟩⟩⟩
      ·cases h
     ·cases h
 ·cases h
theorem Zq7 {hp:Hp} {x:AV} {k:Nat} (h:k∈XR hp x):x=.own k:=by
 unfold XR at h;split at h
 ·split at h
  ·simp at h;subst h;rfl
  ·simp at h
 ·simp at h
theorem Zwa {hp:Hp} {sz by_ base:Nat} {str flat:Bool} {x y:AV} {e:Eff}:∀ {ms:List Nat},(∀ k∈ms,x=.own k∨y=.own k)→Vw hp sz by_ str flat base x y ms=some e→e.frz=[] ∧
  e.sets=[]∧∀ k∈e.dels,(x=.own k∨∃ o n,x=.ownv k o n)∨(flat=false∧y=.own k):=by
 have plain:∀ {hp' : Hp} {e:Eff},J0 hp' sz by_ str flat base x y=some e→e.sets=[]∧e.frz=[]∧∀ k∈e.dels,x=.own k∨∃ o n,x=.ownv k o n:=by
  intro hp' e h;obtain⟨g1,g2,g3⟩:=Zxv h;refine⟨g1,g2,fun k hk=>?_⟩;rcases g3 with ⟨_,g3⟩ | ⟨id,g3,g4⟩
  ·rw[g3] at hk;simp at hk
  ·rw[g3] at hk;simp at hk;subst hk;exact g4
 intro ms hm h;cases ms with
 | nil=>
  simp only[Vw] at h;obtain⟨g1,g2,g3⟩:=plain h;exact⟨g2,g1,fun k hk=>.inl (g3 k hk)⟩
 | cons i r=>
  simp only[Vw] at h;split at h
  ·cases h
  ·rename_i aa;obtain⟨e0,h1,h⟩:=Za h;cases h;obtain⟨g1,g2,g3⟩:=plain h1;refine⟨g2,g1,fun k hk=>?_⟩;rcases Ke.1 hk with hk | hk
   ·exact .inl (g3 k hk)
   ·rcases hm k hk with hk | hk
    ·exact .inl (.inl hk)
    ·exact .inr ⟨by simpa using aa,hk⟩
theorem ZBb {hp:Hp} {sz by_ base:Nat} {x y:AV} {ce:Zf} (h:appT hp sz by_ base x y=some ce):ce.gone=[]∧ce.eff.frz=[]∧ce.eff.sets=[]∧∀ k∈ce.eff.dels,x=.own k∨y=.own k:=by
 unfold appT at h;obtain⟨e,h1,h⟩:=Za h;cases h;obtain⟨q,h2,h1⟩:=Za h1;have hy:y=.own q.1:=by
  unfold Zdx at h2;split at h2
  ·obtain⟨q2,_,h2⟩:=Za h2;cases h2;rfl
  ·cases h2
 split at h1
 ·cases x<;>simp only[ZbN] at h1<;>first | (cases h1;done) | skip
  ·split at h1
   ·cases h1;exact⟨rfl,rfl,rfl,fun k hk=>by simp at hk;subst hk;exact .inr hy⟩
   ·cases h1
  ·obtain⟨q3,_,h1⟩:=Za h1;split at h1
   ·cases h1;refine⟨rfl,rfl,rfl,fun k hk=>?_⟩;simp at hk;rcases hk with rfl | rfl
    ·exact .inl rfl
    ·exact .inr hy
   ·cases h1
 ·cases h1
theorem Zwb {hp:Hp} {sz by_ base:Nat} {str flat:Bool} {x y:AV} {ce:Zf} (h:Zwz hp sz by_ str flat base x y=some ce):ce.gone=[]∧ce.eff.frz=[] ∧
  ce.eff.sets=[]∧∀ k∈ce.eff.dels,(x=.own k∨∃ o n,x=.ownv k o n)∨(flat=false∧y=.own k):=by
 have kx:∀ k∈XR hp x,x=.own k∨y=.own k:=fun k hk=>.inl (Zq7 hk);have ky:∀ k∈XR hp y,x=.own k∨y=.own k:=fun k hk=>.inr (Zq7 hk);have melt:∀ {ms:List Nat},(∀ k∈ms,x=.own k∨y=.own k)→ZgE (Vw hp sz by_ str flat base x y ms)=some ce→ce.gone=[]∧ce.eff.frz=[] ∧
   ce.eff.sets=[]∧∀ k∈ce.eff.dels,(x=.own k∨∃ o n,x=.ownv k o n)∨(flat=false∧y=.own k):=by
  intro ms hm h;obtain⟨e,h1,h⟩:=Za h;cases h;exact⟨rfl,Zwa hm h1⟩
 unfold Zwz at h;generalize XR hp x=mx at h kx;generalize XR hp y=my at h ky;cases mx with
 | nil=>exact melt ky h
 | cons i r=>
  cases my with
  | nil=>exact melt kx h
  | cons j t=>
   simp only[Zeb] at h;split at h
   ·cases h
   ·rename_i hc;obtain⟨g1,g2,g3,g4⟩:=ZBb h;have hf:flat=false:=by cases flat<;>simp_all
    exact⟨g1,g2,g3,fun k hk=>(g4 k hk).elim (fun e=>.inl (.inl e)) fun e=>.inr ⟨hf,e⟩⟩
theorem Zq8 {ds:List Nat} {l:Hp} {k:Nat} (h:k∈ds):lkp (Qf l ds) k=none:=by
 cases hl:lkp (Qf l ds) k with
 | none=>rfl
 | some o=>exact absurd h (UN ds l k o hl).2
theorem ZCs {C:Orc} {M:Zm} {sl:Sl} {hp:Hp} {base:Nat} {c:COp} {ce:Zf} (hc:ZrF c=true) (h:vop C M sl hp base c=some ce) :
  ce.gone=[]∧(∀ k,k∈ce.eff.dels∨(∃ o,(k,o)∈ce.eff.sets)→(∃ x∈ZD c,k∈Zw (evO sl x))∧∀ a,Zl6 sl a c=true→QS sl k (ZD a)=true)∧∀ k∈ce.eff.frz,∃ x∈ZD c,k∈Zw (evO sl x):=by
 cases c<;>first | (cases hc;done) | skip
 case store slc sz x y=>
  simp only[vop,ZgE] at h;obtain⟨e,h7,h⟩:=Za h;cases h;obtain⟨id,o,ht,g1,g2,g3,g4⟩:=Zzr h7;refine⟨rfl,fun k hk=>?_,fun k hk=>⟨y,by simp[ZD],ZqV (U:=fun k=>k∈Zw (evO sl y)) (fun _ h=>h) k (g4 k hk)⟩⟩;rcases hk with hk | ⟨o',hk⟩
  ·obtain⟨k1,b1,b2,b3,b4,k2⟩:=g3 k hk;have k3:=ZqV (U:=fun k=>k∈Zw (evO sl y)) (fun _ h=>h) k k1;refine⟨⟨y,by simp[ZD],k3⟩,fun a ha=>?_⟩;simp only[Zl6,Kd,k2] at ha;rcases Zow ha.2 with ⟨d,hv⟩ | hv
   ·rw[hv] at k3;simp[Zw,Zy,Zl] at k3
   ·exact Zov hv.2 k k3
  ·simp only[g2,KP,Prod.mk.injEq] at hk;have aa:=hk.1;subst aa;refine⟨⟨x,by simp[ZD],?_⟩,fun a ha=>?_⟩
   ·cases hv:evO sl x<;>rw[hv] at ht<;>simp only[VE] at ht<;>cases ht<;>simp[Zw,Zy,Zl]
   ·simp only[Zl6,Kd,ht,ZfP] at ha;exact ha.1
 case append sz by_ str flat x y=>
  simp only[vop] at h;obtain⟨g0,g2,g1,g3⟩:=Zwb h;refine⟨g0,fun k hk=>?_,fun k hk=>by simp only[g2,L9] at hk⟩;have ab:k∈ce.eff.dels:=by
   rcases hk with hk | ⟨o',hk⟩
   ·exact hk
   ·simp only[g1,L9] at hk
  rcases g3 k ab with g4 | ⟨g4,g5⟩
  ·refine⟨⟨x,by simp[ZD],?_⟩,fun a ha=>?_⟩
   ·rcases g4 with g4 | ⟨o,n,g4⟩<;>rw[g4]<;>simp[Zw,Zy,Zl]
   ·simp only[Zl6,Kd] at ha;rcases g4 with g4 | ⟨o,n,g4⟩<;>rw[g4] at ha<;>exact ha.1
  ·refine⟨⟨y,by simp[ZD],by rw[g5];simp[Zw,Zy,Zl]⟩,fun a ha=>?_⟩;simp only[Zl6,Kd,g4,LN] at ha;rw[g5] at ha;exact ha.2
theorem Zxw {C:Orc} {M:Zm} {os:List CO} {nx i j:Nat} {oi oj:CO} (ae:os[i]?=some oi) (ak:os[j]?=some oj) (ar:ZV os i=true) (am:ZV os j=false) (a3:i≠j) (au:XB oj oi=true)
  (an:∀ (k:Nat) (o:CO),os[k]?=some o→∀ x∈ZD o.op,YT x=true) {s s1 s2:Sl×Hp} {U:Nat→Prop} (hs:Zj4 nt s U) (a4:Xd U (nx+64*i)) (av:Xd U (nx+64*j)) (hl:LooseS s.1 oj.op oi.op)
  (h1:ZE C M os nx j s=some s1) (h2:ZE C M os nx i s1=some s2):∃ t1,ZE C M os nx i s=some t1∧∃ t2,ZE C M os nx j t1=some t2∧XK t2 s2:=by
 obtain⟨F,A,I,Γ,a,w,ag⟩:=hs;simp only[XB,Kd] at au;obtain⟨⟨aw,ax⟩,al⟩:=au;have good:∀ (k:Nat) (o:CO),os[k]?=some o→∀ x∈ZD o.op,Zl4 U (evO s.1 x):=by
  intro k o ho x hx;cases x with
  | t n=>exact ag.good n
  | v y=>exact JU (an k o ho _ hx)
  | f n=>exact⟨fun id a5=>by simp[evO,Zw,Zy] at a5,fun f a6 h c hc=>by cases h;simp at hc⟩
 simp only[ZE,ak,Zg,am] at h1;simp only[ZE,ae,Zg,ar] at h2;obtain⟨vj,aj,rfl,ao,ay⟩:=ZkJ h1;obtain⟨a7,hl⟩:=hl;unfold ZM at h2;obtain⟨b,hw,h2⟩:=Za h2;have az : ZY s.1 oi.guard=some b:=by rw[← hw];exact(Qz aw).symm
 cases b with
 | false=>
  simp only[Ka,Kk] at h2;cases h2;refine⟨(Zr s.1 oi.dst (.tup []),s.2),by simp only[ZE,ae,Zg,ZM,az,Ka,Kk],?_⟩;have e2:=ay (Zr s.1 oi.dst (.tup []),s.2) (Qz al) (Xb C M s.2 (nx+64*j) (Ww (o:=oj) al));exact⟨(Zr (Zr s.1 oi.dst (.tup [])) oj.dst vj,Zi s.2 aj),by simp only[ZE,ak,Zg,am];exact e2,fun t=>(Us ax vj (.tup []) t).symm,fun id=>rfl⟩
 | true=>
  simp only[Km] at h2;obtain⟨ce,h3,h4,rfl⟩:=Xo h2;have a0 : vop C M s.1 s.2 (nx+64*i) oi.op=some ce:=by
   have h5:=ZeO h3;rw[← h5,Xb C M (Zi s.2 aj) (nx+64*i) (Ww (o:=oi) aw)];exact Zax (ag.agree (Wx av ao s.2)) C M _ (good i oi ae)
  have aa:=U6 h4;obtain⟨k1,k2,k3⟩:=ZCs a7 a0;obtain⟨e,gn⟩:=ce;simp only at k1 k2 k3;subst k1;have ap:∀ k∈e.frz,U k:=fun k hk=>by
   obtain⟨x,hx,hk⟩:=k3 k hk;exact(good i oi ae x hx).1 k hk
  have ah:∀ k,k∈e.dels∨(∃ o,(k,o)∈e.sets)→U k:=fun k hk=>by
   obtain⟨⟨x,hx,hk⟩,_⟩:=k2 k hk;exact(good i oi ae x hx).1 k hk
  have ai:∀ s:Sl×Hp,Zf.on { eff:=e,gone:=[] } oi.dst s.1 s.2=(Zr s.1 oi.dst e.val,Zi (Zi (Qf (Qk e.frz s.2) e.dels) e.sets) e.adds):=by
   intro s;rfl
  refine⟨Zf.on { eff:=e,gone:=[] } oi.dst s.1 s.2,?_,?_⟩
  ·simp only[ZE,ae,Zg,ZM,az,Km,YD,ar,V9];rw[a0,Zg,Kj h4]
  ·have ab:∀ k,U k→¬(k∈e.dels∨∃ o,(k,o)∈e.sets)→FzEq (lkp s.2 k) (lkp (Zi (Zi (Qf (Qk e.frz s.2) e.dels) e.sets) e.adds) k):=by
    intro k hk aq;rw[not_or] at aq;rw[← Wx a4 aa _ k hk,ZC _ _ k (fun o ho=>aq.2 ⟨o,ho⟩),Ux _ _ k aq.1,Qe];exact⟨_,rfl⟩
   have e2:ZM C M nx j false oj (Zf.on { eff:=e,gone:=[] } oi.dst s.1 s.2)=some (Zr (Zf.on { eff:=e,gone:=[] } oi.dst s.1 s.2).1 oj.dst vj,Zi (Zf.on { eff:=e,gone:=[] } oi.dst s.1 s.2).2 aj):=by
    rw[ai];refine ay (Zr s.1 oi.dst e.val,Zi (Zi (Qf (Qk e.frz s.2) e.dels) e.sets) e.adds) (Qz al) ?_;rw[Xb C M _ (nx+64*j) (Ww (o:=oj) al)];rcases hl with hl | ⟨a8,a9⟩
    ·exact Zmb hl
    ·refine vop_fz a8 fun z hz k hk=>?_;refine ab k ((good j oj ak z hz).1 k hk) fun hp=>?_;exact Zq6 (ZhR ((k2 k hp).2 _ a9) z hz) hk
   refine⟨_,by simp only[ZE,ak,Zg,am];exact e2,fun t=>?_,fun k=>?_⟩
   ·rw[ai,ai (Zr s.1 oj.dst vj,Zi s.2 aj)];exact(Us ax vj e.val t).symm
   ·rw[ai,ai (Zr s.1 oj.dst vj,Zi s.2 aj)];show lkp (Zi (Zi (Zi (Qf (Qk e.frz s.2) e.dels) e.sets) e.adds) aj) k=lkp (Zi (Zi (Qf (Qk e.frz (Zi s.2 aj)) e.dels) e.sets) e.adds) k;have a1:∀ (B:Hp) (hp hp' : Hp),(∀ k,lkp hp k=lkp hp' k)→∀ k,lkp (Zi hp B) k=lkp (Zi hp' B) k:=fun B hp hp' h=>ZbJ B h;have ad:∀ k,U k→∀ o',(k,o')∉aj:=fun k hk o' af=>by
     have:=ao k o' af;exact av k this.1 this.2 hk
    rw[Ztr (A:=e.adds) (B:=aj) (fun k x y hx hy=>by
     have:=aa k x hx;have:=ao k y hy;rcases LZ a3 with h | h<;>omega)]
    refine a1 e.adds _ _ (fun k=>?_) k;rw[Ztr (A:=e.sets) (B:=aj) (fun k x y hx hy=>ad k (ah k (.inr ⟨x,hx⟩)) y hy) (Qf (Qk e.frz s.2) e.dels) k];refine a1 e.sets _ _ (fun k=>?_) k;by_cases hd:k∈e.dels
    ·rw[ZC aj _ k (ad k (ah k (.inl hd))),Zq8 hd,Zq8 hd]
    ·rw[Ux _ _ k hd];rw[Qe];by_cases hk:∃ o',(k,o')∈aj
     ·obtain⟨o',af⟩:=hk;rw[ZcJ (hp':=s.2) ⟨o',af⟩];have a':k∉e.frz:=fun hf=>ad k (ap k hf) o' af;cases lkp (Zi s.2 aj) k<;>simp[a']
     ·have a2 : ∀ o',(k,o')∉aj:=fun o' af=>hk ⟨o',af⟩;rw[ZC aj _ k a2,ZC aj _ k a2,Ux _ _ k hd,Qe]
theorem Zzt {C:Orc} {M:Zm} {os:List CO} {nx i j:Nat} {oi oj:CO} (ab:os[i]?=some oi) (ad:os[j]?=some oj) (ae:ZxV oi.op=true) (af:ZV os j=false) (ag:i≠j) (ah:XB oj oi=true)
  (aa:∀ (k:Nat) (o:CO),os[k]?=some o→∀ x∈ZD o.op,YT x=true) {s s1 s2:Sl×Hp} {U:Nat→Prop} (hs:Zj4 nt s U) (ai:Xd U (nx+64*i)) (aj:Xd U (nx+64*j))
  (h1:ZE C M os nx j s=some s1) (h2:ZE C M os nx i s1=some s2):∃ t1,ZE C M os nx i s=some t1∧∃ t2,ZE C M os nx j t1=some t2∧XK t2 s2:=by
 have e:∀ s:Sl×Hp,ZE C M os nx i s=ZM C M nx i false oi s:=fun s=>by
  simp only[ZE,ab,Zg];cases ZV os i
  ·rfl
  ·exact Zzq ae s
 rw[e] at h2;simp only[e];exact Zq3 ab ad af ag ah aa hs ai aj h1 h2
theorem ZuF {hp:Hp} {base s:Nat} {vs:List AV} {ce:Zf} (h:buildSl hp base s vs=some ce):ce.gone=[]:=by
 cases vs with
 | nil=>simp only[buildSl,QJ] at h;first | (cases h;rfl) | (split at h<;>first | (cases h;rfl) | cases h)
 | cons v r=>
  simp only[buildSl] at h;obtain⟨q,_,h⟩:=Za h;unfold ZzQ at h;split at h
  ·cases h;rfl
  ·cases h
theorem Zwc {C:Orc} {M:Zm} {sl:Sl} {hp:Hp} {base:Nat} {c:COp} {ce:Zf} (hc:ZfN c=true) (h:vop C M sl hp base c=some ce):ce.gone=[]:=by
 cases c<;>first | (cases hc;done) | skip
 ·simp only[vop] at h;exact ZuF h
 ·simp only[vop] at h;exact(Zwb h).1
theorem Zzu {C:Orc} {M:Zm} {nx j:Nat} {oj:CO} {s s1:Sl×Hp} (hm:Y7 oj.op=true) (h:ZM C M nx j false oj s=some s1) :
  ∃ v,s1=(Zr s.1 oj.dst v,s.2)∧∀ aa : Sl×Hp,ZY aa.1 oj.guard=ZY s.1 oj.guard→(∀ x∈ZD oj.op,evO aa.1 x=evO s.1 x)→ZM C M nx j false oj aa=some (Zr aa.1 oj.dst v,aa.2):=by
 obtain⟨x,hx⟩:∃ x,oj.op=.move x:=by
  cases ho:oj.op<;>rw[ho] at hm<;>first | (cases hm;done) | exact⟨_,rfl⟩
 unfold ZM at h ⊢;obtain⟨b,hw,h⟩:=Za h;cases b with
 | true=>
  simp only[Km,hx,V9,Ka,Kk,vop] at h;refine⟨evO s.1 x,?_,fun aa g1 g2=>?_⟩
  ·cases h;rfl
  ·rw[g1,hw,Zg];have e:=g2 x (by rw[hx];simp[ZD]);simp only[Km,hx,V9,Ka,Kk,vop,e];rfl
 | false=>
  simp only[Ka,Kk] at h;cases h;refine⟨.tup [],rfl,fun aa g1 g2=>?_⟩;rw[g1,hw,Zg];rfl
theorem Zzv {C:Orc} {M:Zm} {os:List CO} {nx i j:Nat} {oi oj:CO} (ad:os[i]?=some oi) (ae:os[j]?=some oj) (af:ZV os j=false) (ah:XB oj oi=true)
  {s s1 s2:Sl×Hp} (hm:Y7 oj.op=true) (hg:ZfN oi.op=true)
  (h1:ZE C M os nx j s=some s1) (h2:ZE C M os nx i s1=some s2):∃ t1,ZE C M os nx i s=some t1∧∃ t2,ZE C M os nx j t1=some t2∧XK t2 s2:=by
 simp only[XB,Kd] at ah;obtain⟨⟨ai,aj⟩,ab⟩:=ah;simp only[ZE,ae,Zg,af] at h1;simp only[ZE,ad,Zg] at h2;obtain⟨vj,rfl,ak⟩:=Zzu hm h1;unfold ZM at h2;obtain⟨b,hw,h2⟩:=Za h2;have al : ZY s.1 oi.guard=some b:=by rw[← hw];exact(Qz ai).symm
 cases b with
 | false=>
  simp only[Ka,Kk] at h2;cases h2;refine⟨(Zr s.1 oi.dst (.tup []),s.2),by simp only[ZE,ad,Zg,ZM,al,Ka,Kk],?_⟩;exact⟨(Zr (Zr s.1 oi.dst (.tup [])) oj.dst vj,s.2),by simp only[ZE,ae,Zg,af];exact ak (Zr s.1 oi.dst (.tup []),s.2) (Qz ab) (Ww (o:=oj) ab),fun t=>(Us aj vj (.tup []) t).symm,fun id=>rfl⟩
 | true=>
  simp only[Km] at h2;obtain⟨ce,h3,h4,rfl⟩:=Xo h2;have aa:=Zwc hg (ZeO h3);have am : V9 C M nx i (ZV os i) oi.op s.1 s.2=some ce:=by
   rw[← h3];unfold V9;rw[Xb C M s.2 (nx+64*i) (Ww (o:=oi) ai)]
  have ag:∀ (sl:Sl) (hp:Hp),ce.on oi.dst sl hp=(Zr sl oi.dst ce.eff.val,ce.eff.on hp):=by
   intro sl hp;unfold Zf.on;rw[aa];rfl
  refine⟨ce.on oi.dst s.1 s.2,?_,?_⟩
  ·simp only[ZE,ad,Zg,ZM,al,Km,YD];rw[am,Zg,Kj h4]
  ·rw[ag];refine⟨(Zr (Zr s.1 oi.dst ce.eff.val) oj.dst vj,ce.eff.on s.2),by simp only[ZE,ae,Zg,af];exact ak (Zr s.1 oi.dst ce.eff.val,ce.eff.on s.2) (Qz ab) (Ww (o:=oj) ab),fun t=>?_,fun k=>?_⟩
   ·rw[ag];exact(Us aj vj ce.eff.val t).symm
   ·rw[ag]
theorem awayV_ptr {sl:Sl} {xs:List Opd} {v:AV} (h:Zc3 sl xs v=true) {k off:Nat} (e:v=.ptr k off):∀ z∈xs,k∉Zw (evO sl z):=by
 subst e;exact fun z hz=>Zq6 (ZhR h z hz)
structure Zq9 (r:Sl) (oX oY:CO):Prop where
 opd:∀ x∈ZD oX.op,okV (evO r x)=true
 dst:∀ t,oX.dst=some t→okV (gs r t)=true
 arg:∀ y∈ZnD oY.op,okV (evO r y)=true
 away:∀ y∈ZnD oY.op,∀ k off,evO r y=.ptr k off→∀ z∈ZD oX.op,k∉Zw (evO r z)
theorem ZuG {sl:Sl}:∀ {xs:List Opd},okL sl xs=true→∀ x∈xs,okV (evO sl x)=true
 | [],_,x,hx=>by simp at hx
 | y :: ys,h,x,hx=>by
  simp only[okL,Kd] at h;rcases Kf.1 hx with rfl | hx
  ·exact h.1
  ·exact ZuG h.2 x hx
theorem Zts {sl:Sl} {xs:List Opd}:∀ {ys:List Opd},Zh7 sl xs ys=true→∀ y∈ys,Zc3 sl xs (evO sl y)=true
 | [],_,x,hx=>by simp at hx
 | y :: ys,h,x,hx=>by
  simp only[Zh7,Kd] at h;rcases Kf.1 hx with rfl | hx
  ·exact h.1
  ·exact Zts h.2 x hx
theorem Zwd {r:Sl} {oX oY:CO} (hm:Y7 oX.op=false) (hc:ZaY oY.op=true) (h:UM r oX.dst oX.op oY.op=true):Zq9 r oX oY:=by
 obtain⟨f,as,ho⟩:∃ f as,oY.op=.call (.f f) as:=by
  cases ho:oY.op<;>rw[ho] at hc<;>first | (cases hc;done) | skip
  rename_i f as;cases f<;>first | (cases hc;done) | exact⟨_,_,rfl⟩
 rw[ho] at h;have h' : (okL r (ZD oX.op)&&(okD r oX.dst&&(okL r as&&Zh7 r (ZD oX.op) as)))=true:=by
  cases hx:oX.op<;>rw[hx] at h hm<;>first | (cases hm;done) | exact h
 simp only[Kd] at h';obtain⟨h1,h2,h3,h4⟩:=h';refine⟨ZuG h1,fun t ht=>?_,?_,?_⟩
 ·rw[ht] at h2;exact h2
 ·rw[ho];exact ZuG h3
 ·rw[ho];intro y hy k off e;exact awayV_ptr (Zts h4 y hy) e
theorem Zq9.move {r r' : Sl} {oX oY:CO} (h:Zq9 r oX oY) (h1:∀ n∈(ZD oX.op).flatMap Zbs,okV (gs r n)=true→gs r' n=gs r n) (h2:∀ n,oX.dst=some n→okV (gs r n)=true→gs r' n=gs r n)
  (h3:∀ n∈(ZnD oY.op).flatMap Zbs,okV (gs r n)=true→gs r' n=gs r n):Zq9 r' oX oY:=by
 have e1:∀ x∈ZD oX.op,evO r' x=evO r x:=fun x hx=>by
  have ho:=h.opd x hx;cases x with
  | t n=>exact h1 n (Ku.2 ⟨_,hx,by simp[Zbs]⟩) ho
  | _=>rfl
 have e3:∀ x∈ZnD oY.op,evO r' x=evO r x:=fun x hx=>by
  have ho:=h.arg x hx;cases x with
  | t n=>exact h3 n (Ku.2 ⟨_,hx,by simp[Zbs]⟩) ho
  | _=>rfl
 refine⟨fun x hx=>by rw[e1 x hx];exact h.opd x hx,fun t ht=>by rw[h2 t ht (h.dst t ht)];exact h.dst t ht,fun x hx=>by rw[e3 x hx];exact h.arg x hx,fun y hy k off e z hz=>?_⟩;rw[e3 y hy] at e;rw[e1 z hz];exact h.away y hy k off e z hz
theorem Zra {C:Orc} {M:Zm} (hM:∀ f,M f 99=false) {os:List CO} {nx x y:Nat} {oX oY:CO} (ay:os[x]?=some oX) (a1:os[y]?=some oY) (a2:x≠y) (ak:QN oY.dst (Y6 oX)=true) (aw:QN oX.dst (Y6 oY)=true)
  (ad:QN oX.dst (Y6 oX)=true) (al:QN oY.dst (Y6 oY)=true)
  (ar:∀ (k:Nat) (o:CO),os[k]?=some o→∀ x∈ZD o.op,YT x=true) {s:Sl×Hp} {r:Sl} {U:Nat→Prop} (hs:Zj4 nt s U) (a3:Xd U (nx+64*x)) (a4:Xd U (nx+64*y))
  (ae:ZaY oY.op=true) {ce:Zf} (a5:vop C M s.1 s.2 (nx+64*y) oY.op=some ce) (a6:QW (nx+64*y) (nx+64*y+64) ce.eff.adds=true)
  (am:∀ n,oX.dst≠some n→oY.dst≠some n→gs r n=kill ce.gone (gs s.1 n)) (aa:Zq9 r oX oY) :
  ce.eff.dels=[]∧(∀ z∈ZD oX.op,evO (ce.on oY.dst s.1 s.2).1 z=evO s.1 z)∧(∀ z∈ZD oX.op,∀ id∈Zw (evO s.1 z),id∉ce.gone)∧(∀ z∈ZD oX.op,Zma ce.gone s.2 (ce.on oY.dst s.1 s.2).2 (evO s.1 z)) ∧
  (∀ k,nx+64*x≤k→k<nx+64*x+64→(∀ o',(k,o')∉ce.eff.sets)∧(∀ o',(k,o')∉ce.eff.adds)∧k∉ce.eff.frz∧k∉ce.gone):=by
 obtain⟨F,A,I,Γ,a,w,au⟩:=hs;have good:∀ (k:Nat) (o:CO),os[k]?=some o→∀ x∈ZD o.op,Zl4 U (evO s.1 x):=by
  intro k o ho x hx;cases x with
  | t n=>exact au.good n
  | v y=>exact JU (ar k o ho _ hx)
  | f n=>exact⟨fun id av=>by simp[evO,Zw,Zy] at av,fun f a7 h c hc=>by cases h;simp at hc⟩
 obtain⟨f,as,ho⟩:∃ f as,oY.op=.call (.f f) as:=by
  cases ho:oY.op<;>rw[ho] at ae<;>first | (cases ae;done) | skip
  rename_i f as;cases f<;>first | (cases ae;done) | exact⟨_,_,rfl⟩
 have an:=a5;rw[ho] at an;simp only[vop,evO,Zec,KE] at an;obtain⟨k1,k2,k3,k4⟩:=ZzF an (hM _);have ab:∀ n,(Opd.t n)∈ZD oX.op→n∈Y6 oX:=fun n hn=>Ke.2 (.inl (Ku.2 ⟨_,hn,by simp[Zbs]⟩));have ai:∀ n,(Opd.t n)∈as→n∈Y6 oY:=fun n hn=>Ke.2 (.inl (Ku.2 ⟨.t n,by rw[ho];simp[ZD,hn],by simp[Zbs]⟩));have ne:∀ {d:Option Nat} {l:List Nat} {n:Nat},QN d l=true→n∈l→d≠some n:=fun {d l n} h hn e=>by
  rw[e] at h;simp only[QN,La,KS,Lf] at h;exact h hn
 have ax:∀ z∈ZD oX.op,evO r z=evO s.1 z∧∀ id∈Zw (evO s.1 z),id∉ce.gone:=by
  intro z hz;have af:=aa.opd z hz;cases z with
  | t n=>
   have e:=am n (ne ad (ab n hz)) (ne ak (ab n hz));simp only[evO] at af ⊢;rw[e] at af ⊢;have:=ZcG af;exact⟨this,ZBd this⟩
  | v c=>
   have:=ar x oX ay _ hz;simp only[YT,Kd,List.isEmpty_iff] at this;exact⟨rfl,fun id av=>by simp only[evO] at av;rw[this.1] at av;simp at av⟩
  | f n=>simp only[evO,okV,okC] at af;cases af
 have az:∀ z∈as,evO r z=evO s.1 z:=by
  intro z hz;have af:=aa.arg z (by rw[ho];exact hz);cases z with
  | t n=>
   have e:=am n (ne aw (ai n hz)) (ne al (ai n hz));simp only[evO] at af ⊢;rw[e] at af ⊢;exact ZcG af
  | _=>rfl
 have a0:∀ id,(∃ o,lkp s.2 id=some o)→U id:=fun id ⟨o,h⟩=>au.id_in h;have uX:∀ k,nx+64*x≤k→k<nx+64*x+64→¬U k:=fun k h1 h2=>a3 k h1 h2;have aj:=U6 a6;have ag:∀ z∈ZD oX.op,∀ k∈Zw (evO s.1 z),∀ o',(k,o')∉ce.eff.sets:=by
  intro z hz k hk o' ao;rcases (k4 k o' ao).2 with h | ⟨v,hv,ap⟩
  ·exact(ax z hz).2 k hk h
  ·obtain⟨y',aq,rfl⟩:=ZiD hv;have ah:=aa.arg y' (by rw[ho];exact aq);rw[az y' aq] at ah;cases hp:evO s.1 y' with
   | ptr a b=>
    rw[hp] at ap;simp only[Zag,KP] at ap;subst ap;have:=aa.away y' (by rw[ho];exact aq) k b (by rw[az y' aq,hp]) z hz;rw[(ax z hz).1] at this;exact this hk
   | clo g cs=>rw[hp] at ah;simp only[okV,okC] at ah;cases ah
   | _=>rw[hp] at ap;simp[Zag] at ap
 refine⟨k1,fun z hz=>?_,fun z hz=>(ax z hz).2,fun z hz k hk=>?_,fun k g1 g2=>⟨fun o' ao=>?_,fun o' ao=>?_,fun hf=>?_,fun hg=>?_⟩⟩
 ·cases z with
  | t n=>
   show gs (Zr (Xa ce.gone s.1) oY.dst ce.eff.val) n=gs s.1 n;rw[Qx,Kg (ne ak (ab n hz)),QO];have e:=am n (ne ad (ab n hz)) (ne ak (ab n hz));have:=aa.opd _ hz;simp only[evO] at this;rw[e] at this;exact ZcG this
  | _=>rfl
 ·have a8:U k:=(good x oX ay z hz).1 k hk;show ZcH ce.gone (lkp s.2 k) (lkp (ce.eff.on (V7 ce.gone s.2)) k);unfold Eff.on;rw[k1];simp only[Qf];rw[ZC,ZC,Qe,Wu]
  ·exact Zwh _
  ·exact ag z hz k hk
  ·intro o' ao;obtain⟨h1,h2⟩:=aj k o' ao;exact a4 k h1 h2 a8
 ·exact uX k g1 g2 (a0 k (k4 k o' ao).1)
 ·have:=aj k o' ao;rcases LZ a2 with h | h<;>omega
 ·obtain⟨v,hv,ap⟩:=k2 k hf;obtain⟨y',aq,rfl⟩:=ZiD hv;exact uX k g1 g2 ((good y oY a1 y' (by rw[ho];simp[ZD,aq])).1 k ap)
 ·exact uX k g1 g2 (a0 k (k3 k hg))
theorem Zxx {C:Orc} {M:Zm} (hM:∀ f,M f 99=false) {os:List CO} {nx i j:Nat} {oi oj:CO} (ah:os[i]?=some oi) (av:os[j]?=some oj) (az:ZV os j=false) (a0:i≠j) (aw:XB oj oi=true)
  (ad:QN oj.dst (Y6 oj)=true) (ae:QN oi.dst (Y6 oi)=true)
  (ai:∀ (k:Nat) (o:CO),os[k]?=some o→∀ x∈ZD o.op,YT x=true) {s s1 s2:Sl×Hp} {U:Nat→Prop} (hs:Zj4 nt s U) (a1:Xd U (nx+64*i)) (ap:Xd U (nx+64*j))
  (aj:ZaY oi.op=true) (a2:ZrH oj.op=true) (aa:Zq9 s2.1 oj oi) {t:Nat} (ht:oj.dst=some t)
  (h1:ZE C M os nx j s=some s1) (h2:ZE C M os nx i s1=some s2):∃ t1,ZE C M os nx i s=some t1∧∃ t2,ZE C M os nx j t1=some t2∧XK t2 s2:=by
 have a3:=hs;obtain⟨F,A,I,Γ,a,w,af⟩:=a3;simp only[XB,Kd] at aw;obtain⟨⟨am,an⟩,ao⟩:=aw;have good:∀ (k:Nat) (o:CO),os[k]?=some o→∀ x∈ZD o.op,Zl4 U (evO s.1 x):=by
  intro k o ho x hx;cases x with
  | t n=>exact af.good n
  | v y=>exact JU (ai k o ho _ hx)
  | f n=>exact⟨fun id a4=>by simp[evO,Zw,Zy] at a4,fun f a5 h c hc=>by cases h;simp at hc⟩
 have ab:∀ s:Sl×Hp,ZE C M os nx j s=ZM C M nx j false oj s:=fun s=>by simp only[ZE,av,Zg,az]
 rw[ab] at h1;simp only[ZE,ah,Zg] at h2;obtain⟨v,ax,a6,aq,hX⟩:∃ v ax,s1=(Zr s.1 oj.dst v,Zi s.2 ax)∧(∀ k x,(k,x)∈ax→nx+64*j≤k∧k<nx+64*j+64) ∧
   ((ZY s.1 oj.guard=some false∧v=.tup []∧ax=[])∨(ZY s.1 oj.guard=some true∧∃ ce,Zno ce∧vop C M s.1 s.2 (nx+64*j) oj.op=some ce∧QW (nx+64*j) (nx+64*j+64) ce.eff.adds=true∧v=ce.eff.val∧ax=ce.eff.adds)):=by
  rcases ZxG h1 with ⟨g1,g2⟩ | ⟨g1,ce,g2,g3,g4,g5⟩
  ·exact⟨.tup [],[],g2,fun k x h=>by simp at h,.inl ⟨g1,rfl,rfl⟩⟩
  ·exact⟨ce.eff.val,ce.eff.adds,g5,U6 g4,.inr ⟨g1,ce,g2,g3,g4,rfl,rfl⟩⟩
 subst a6;unfold ZM at h2;obtain⟨b,hw,h2⟩:=Za h2;have ay : ZY s.1 oi.guard=some b:=by rw[← hw];exact(Qz am).symm
 cases b with
 | false=>
  simp only[Ka,Kk] at h2;cases h2;refine⟨(Zr s.1 oi.dst (.tup []),s.2),by simp only[ZE,ah,Zg];exact YA ay,?_⟩;refine⟨(Zr (Zr s.1 oi.dst (.tup [])) oj.dst v,Zi s.2 ax),?_,fun t=>(Us an v (.tup []) t).symm,fun id=>rfl⟩;rw[ab];have ak:ZY (Zr s.1 oi.dst (.tup [])) oj.guard=ZY s.1 oj.guard:=Qz ao;rcases hX with ⟨g1,rfl,rfl⟩ | ⟨g1,ce,g2,g3,g4,rfl,rfl⟩
  ·exact YA (s:=(Zr s.1 oi.dst (.tup []),s.2)) (ak.trans g1)
  ·refine ZiF (s:=(Zr s.1 oi.dst (.tup []),s.2)) (ak.trans g1) g2 ?_ g4;rw[← g3];exact Xb C M s.2 (nx+64*j) (Ww (o:=oj) ao)
 | true=>
  simp only[Km] at h2;obtain⟨ce,h3,h4,rfl⟩:=Xo h2;have a7:vop C M s.1 s.2 (nx+64*i) oi.op=some ce:=by
   have h5:=ZeO h3;rw[← h5,Xb C M (Zi s.2 ax) (nx+64*i) (Ww (o:=oi) am)];exact Zax (af.agree (Wx ap aq s.2)) C M _ (good i oi ah)
  have a8 : V9 C M nx i (ZV os i) oi.op s.1 s.2=some ce:=by
   rw[← h3];unfold V9;rw[Xb C M (Zi s.2 ax) (nx+64*i) (Ww (o:=oi) am),Zax (af.agree (Wx ap aq s.2)) C M _ (good i oi ah)]
  have ar:∀ n,oj.dst≠some n→oi.dst≠some n→gs (ce.on oi.dst (Zr s.1 oj.dst v) (Zi s.2 ax)).1 n=kill ce.gone (gs s.1 n):=fun n e1 e2=>by
   show gs (Zr (Xa ce.gone (Zr s.1 oj.dst v)) oi.dst ce.eff.val) n=_;rw[Qx,Kg e2,QO,Qx,Kg e1]
  obtain⟨c1,c2,c3,c4,c5⟩:=Zra (nt:=nt) hM av ah (Ne.symm a0) ao am ad ae ai hs ap a1 aj a7 h4 ar aa;have e0:gs (ce.on oi.dst (Zr s.1 oj.dst v) (Zi s.2 ax)).1 t=kill ce.gone v:=by
   show gs (Zr (Xa ce.gone (Zr s.1 oj.dst v)) oi.dst ce.eff.val) t=_;rw[Qx,Kg,QO,Qx,Kj ht];intro e;rw[ht,e] at an;simp[ZaD] at an
  have ag:kill ce.gone v=v:=by
   have h5:=aa.dst t ht;rw[e0] at h5;exact ZcG h5
  have au:okV v=true:=by
   have h5:=aa.dst t ht;rw[e0,ag] at h5;exact h5
  refine⟨ce.on oi.dst s.1 s.2,?_,?_⟩
  ·simp only[ZE,ah,Zg,ZM,ay,Km,YD];rw[a8,Zg,Kj h4]
  ·have ak:ZY (ce.on oi.dst s.1 s.2).1 oj.guard=ZY s.1 oj.guard:=by
    show ZY (Zr (Xa ce.gone s.1) oi.dst ce.eff.val) oj.guard=_;rw[Qz ao];exact ZiG fun q _=>QO _ _ _
   have al:(∀ k o,(k,o)∈ax→Xh ce.gone o=o)∧ZM C M nx j false oj (ce.on oi.dst s.1 s.2)=some (Zr (ce.on oi.dst s.1 s.2).1 oj.dst v,Zi (ce.on oi.dst s.1 s.2).2 ax):=by
    rcases hX with ⟨g1,rfl,rfl⟩ | ⟨g1,cx,g2,g3,g4,rfl,rfl⟩
    ·exact⟨fun k o h=>by simp at h,YA (ak.trans g1)⟩
    ·obtain⟨e1,e2⟩:=ZzD a2 c2 c4 (fun k h6 h7=>(c5 k h6 h7).2.2.2) g3 g4 g2.frz au ag;exact⟨e2,ZiF (ak.trans g1) g2 e1 g4⟩
   obtain⟨e3,e4⟩:=al;refine⟨_,by rw[ab];exact e4,?_⟩;exact ZyG (ce:=ce) (dX:=oj.dst) (dY:=oi.dst) (v:=v) (ax:=ax) (s:=s) an c1 (fun k o ho=>by
    obtain⟨h6,h7⟩:=aq k o ho;obtain⟨m1,m2,m3,_⟩:=c5 k h6 h7;exact⟨m1,m2,m3⟩) e3 ag
theorem Zwe {C:Orc} {M:Zm} (hM:∀ f,M f 99=false) {os:List CO} {nx i j:Nat} {oi oj:CO} (ar:os[i]?=some oi) (ag:os[j]?=some oj) (ay:ZV os i=false) (az:i≠j) (au:XB oj oi=true)
  (ad:QN oi.dst (Y6 oi)=true) (ae:QN oj.dst (Y6 oj)=true)
  (ah:∀ (k:Nat) (o:CO),os[k]?=some o→∀ x∈ZD o.op,YT x=true) {s s1 s2:Sl×Hp} {U:Nat→Prop} (hs:Zj4 nt s U) (av:Xd U (nx+64*i)) (a0:Xd U (nx+64*j))
  (ai:ZaY oj.op=true) (a1:Zmq oi.op=true) (ab:Zq9 s2.1 oi oj) {t:Nat} (ht:oi.dst=some t)
  (h1:ZE C M os nx j s=some s1) (h2:ZE C M os nx i s1=some s2):∃ t1,ZE C M os nx i s=some t1∧∃ t2,ZE C M os nx j t1=some t2∧XK t2 s2:=by
 have a2:=hs;obtain⟨F,A,I,Γ,a,w,aj⟩:=a2;simp only[XB,Kd] at au;obtain⟨⟨an,ao⟩,ak⟩:=au;have af : ZaD oi.dst oj.dst=true:=by
  cases hd:oi.dst<;>cases he:oj.dst<;>rw[hd,he] at ao<;>first | rfl | (simp only[ZaD,bne_iff_ne,ne_eq] at ao ⊢;exact fun e=>ao e.symm)
 have good:∀ (k:Nat) (o:CO),os[k]?=some o→∀ x∈ZD o.op,Zl4 U (evO s.1 x):=by
  intro k o ho x hx;cases x with
  | t n=>exact aj.good n
  | v y=>exact JU (ah k o ho _ hx)
  | f n=>exact⟨fun id a3=>by simp[evO,Zw,Zy] at a3,fun f a4 h c hc=>by cases h;simp at hc⟩
 have aa:∀ s:Sl×Hp,ZE C M os nx i s=ZM C M nx i false oi s:=fun s=>by simp only[ZE,ar,Zg,ay]
 rw[aa] at h2;simp only[ZE,ag,Zg] at h1;unfold ZM at h1;obtain⟨b,hw,h1⟩:=Za h1;cases b with
 | false=>
  simp only[Ka,Kk] at h1;cases h1;have al:ZY (Zr s.1 oj.dst (.tup [])) oi.guard=ZY s.1 oi.guard:=Qz an;rcases ZxG h2 with ⟨g1,g2⟩ | ⟨g1,ce,g2,g3,g4,g5⟩
  ·subst g2;refine⟨(Zr s.1 oi.dst (.tup []),s.2),by rw[aa];exact YA (al.symm.trans g1),(Zr (Zr s.1 oi.dst (.tup [])) oj.dst (.tup []),s.2),?_,fun t=>Us af _ _ t,fun id=>rfl⟩;simp only[ZE,ag,Zg];exact YA (s:=(Zr s.1 oi.dst (.tup []),s.2)) ((Qz ak).trans hw)
  ·subst g5;refine⟨(Zr s.1 oi.dst ce.eff.val,Zi s.2 ce.eff.adds),?_,(Zr (Zr s.1 oi.dst ce.eff.val) oj.dst (.tup []),Zi s.2 ce.eff.adds),?_,fun t=>Us af _ _ t,fun id=>rfl⟩
   ·rw[aa];refine ZiF (al.symm.trans g1) g2 ?_ g4;rw[← g3];exact(Xb C M s.2 (nx+64*i) (Ww (o:=oi) an)).symm
   ·simp only[ZE,ag,Zg];exact YA (s:=(Zr s.1 oi.dst ce.eff.val,Zi s.2 ce.eff.adds)) ((Qz ak).trans hw)
 | true=>
  simp only[Km] at h1;obtain⟨ce,h3,h4,rfl⟩:=Xo h1;have a5:vop C M s.1 s.2 (nx+64*j) oj.op=some ce:=ZeO h3;have al:ZY (ce.on oj.dst s.1 s.2).1 oi.guard=ZY s.1 oi.guard:=by
   show ZY (Zr (Xa ce.gone s.1) oj.dst ce.eff.val) oi.guard=_;rw[Qz an];exact ZiG fun q _=>QO _ _ _
  obtain⟨v,ax,a6,aw,hX⟩:∃ v ax,s2=(Zr (ce.on oj.dst s.1 s.2).1 oi.dst v,Zi (ce.on oj.dst s.1 s.2).2 ax)∧(∀ k x,(k,x)∈ax→nx+64*i≤k∧k<nx+64*i+64) ∧
    ((ZY s.1 oi.guard=some false∧v=.tup []∧ax=[])∨(ZY s.1 oi.guard=some true∧∃ cx,Zno cx∧vop C M (ce.on oj.dst s.1 s.2).1 (ce.on oj.dst s.1 s.2).2 (nx+64*i) oi.op=some cx∧QW (nx+64*i) (nx+64*i+64) cx.eff.adds=true∧v=cx.eff.val∧ax=cx.eff.adds)):=by
   rcases ZxG h2 with ⟨g1,g2⟩ | ⟨g1,cx,g2,g3,g4,g5⟩
   ·exact⟨.tup [],[],g2,fun k x h=>by simp at h,.inl ⟨al.symm.trans g1,rfl,rfl⟩⟩
   ·exact⟨cx.eff.val,cx.eff.adds,g5,U6 g4,.inr ⟨al.symm.trans g1,cx,g2,g3,g4,rfl,rfl⟩⟩
  subst a6;have ap:∀ n,oi.dst≠some n→oj.dst≠some n→gs (Zr (ce.on oj.dst s.1 s.2).1 oi.dst v) n=kill ce.gone (gs s.1 n):=fun n e1 e2=>by
   rw[Qx,Kg e1];show gs (Zr (Xa ce.gone s.1) oj.dst ce.eff.val) n=_;rw[Qx,Kg e2,QO]
  obtain⟨c1,c2,c3,c4,c5⟩:=Zra (nt:=nt) hM ar ag az an ak ad ae ah hs av a0 ai a5 h4 ap ab;have aq:okV v=true:=by
   have h5:=ab.dst t ht;simp only[Qx,Kj ht] at h5;exact h5
  have am:kill ce.gone v=v∧(∀ k o,(k,o)∈ax→Xh ce.gone o=o)∧ZM C M nx i false oi s=some (Zr s.1 oi.dst v,Zi s.2 ax):=by
   rcases hX with ⟨g1,rfl,rfl⟩ | ⟨g1,cx,g2,g3,g4,rfl,rfl⟩
   ·exact⟨rfl,fun k o h=>by simp at h,YA g1⟩
   ·obtain⟨e1,e2,e3⟩:=ZxF a1 c2 c4 c3 (fun k h6 h7=>(c5 k h6 h7).2.2.2) g3 g4 g2.frz aq;exact⟨e2,e3,ZiF g1 g2 e1 g4⟩
  obtain⟨hk,e3,e4⟩:=am;refine⟨(Zr s.1 oi.dst v,Zi s.2 ax),by rw[aa];exact e4,ce.on oj.dst (Zr s.1 oi.dst v) (Zi s.2 ax),?_,?_⟩
  ·simp only[ZE,ag,Zg,ZM];have a7:ZY (Zr s.1 oi.dst v) oj.guard=some true:=(Qz ak).trans hw;simp only[a7,Zg,Km,YD];have:V9 C M nx j (ZV os j) oj.op (Zr s.1 oi.dst v) (Zi s.2 ax)=some ce:=by
    rw[← h3];unfold V9;rw[Xb C M (Zi s.2 ax) (nx+64*j) (Ww (o:=oj) ak),← Zax (aj.agree (Wx av aw s.2)) C M _ (good j oj ag)]
   rw[this,Zg,Kj h4]
  ·exact(ZyG (ce:=ce) (dX:=oi.dst) (dY:=oj.dst) (v:=v) (ax:=ax) (s:=s) af c1 (fun k o ho=>by
    obtain⟨h6,h7⟩:=aw k o ho;obtain⟨m1,m2,m3,_⟩:=c5 k h6 h7;exact⟨m1,m2,m3⟩) e3 hk).symm
theorem Zfx {C:Orc} {M:Zm} {nx j:Nat} {oj:CO} {x:Opd} (hx:oj.op=.move x) {s:Sl×Hp} {b:Bool} (hw:ZY s.1 oj.guard=some b) :
  ZM C M nx j false oj s=some (Zr s.1 oj.dst (if b then evO s.1 x else .tup []),s.2):=by
 unfold ZM;rw[hw,Zg];cases b
 ·rfl
 ·simp only[Km,hx,V9,Ka,Kk,vop];rfl
theorem Zxy {C:Orc} {M:Zm} {os:List CO} {nx i j:Nat} {oi oj:CO} (af:os[i]?=some oi) (am:os[j]?=some oj) (an:ZV os j=false) (ai:XB oj oi=true)
  (ao:∀ (k:Nat) (o:CO),os[k]?=some o→∀ x∈ZD o.op,YT x=true)
  {s s1 s2:Sl×Hp} (hm:Y7 oj.op=true) {t:Nat} (ht:oj.dst=some t) (aj:okV (gs s2.1 t)=true)
  (h1:ZE C M os nx j s=some s1) (h2:ZE C M os nx i s1=some s2):∃ t1,ZE C M os nx i s=some t1∧∃ t2,ZE C M os nx j t1=some t2∧XK t2 s2:=by
 obtain⟨x,hx⟩:∃ x,oj.op=.move x:=by
  cases ho:oj.op<;>rw[ho] at hm<;>first | (cases hm;done) | exact⟨_,rfl⟩
 simp only[XB,Kd] at ai;obtain⟨⟨ak,ad⟩,ab⟩:=ai;have aa:∀ s:Sl×Hp,ZE C M os nx j s=ZM C M nx j false oj s:=fun s=>by simp only[ZE,am,Zg,an]
 rw[aa] at h1;obtain⟨bj,ag⟩:∃ bj,ZY s.1 oj.guard=some bj:=by
  unfold ZM at h1;obtain⟨b,hw,_⟩:=Za h1;exact⟨b,hw⟩
 rw[Zfx hx ag] at h1;have h1:=(Option.some.inj h1).symm;subst h1;simp only[ZE,af,Zg] at h2;unfold ZM at h2;obtain⟨b,hw,h2⟩:=Za h2;have al : ZY s.1 oi.guard=some b:=by rw[← hw];exact(Qz ak).symm
 have ap:oi.dst≠some t:=fun e=>by rw[ht,e] at ad;simp[ZaD] at ad
 have ae:∀ n,x=.t n→oi.dst≠some n:=fun n e h=>by
  rw[h] at ab;simp only[QN,La,KS,Lf] at ab;exact ab (Ke.2 (.inl (by rw[hx,e];simp[ZD,Zbs])))
 cases b with
 | false=>
  simp only[Ka,Kk] at h2;cases h2;refine⟨(Zr s.1 oi.dst (.tup []),s.2),by simp only[ZE,af,Zg];exact YA al,?_⟩;refine⟨_,by rw[aa];exact Zfx (s:=(Zr s.1 oi.dst (.tup []),s.2)) hx ((Qz ab).trans ag),?_⟩;have:evO (Zr s.1 oi.dst (.tup [])) x=evO s.1 x:=Ww (o:=oj) ab x (by rw[hx];simp[ZD]);simp only[this];exact⟨fun t=>(Us ad _ _ t).symm,fun id=>rfl⟩
 | true=>
  simp only[Km] at h2;obtain⟨ce,h3,h4,rfl⟩:=Xo h2;have aq : V9 C M nx i (ZV os i) oi.op s.1 s.2=some ce:=by
   rw[← h3];unfold V9;rw[Xb C M s.2 (nx+64*i) (Ww (o:=oi) ak)]
  refine⟨ce.on oi.dst s.1 s.2,by simp only[ZE,af,Zg,ZM,al,Km,YD];rw[aq,Zg,Kj h4],?_⟩;have ah:ZY (ce.on oi.dst s.1 s.2).1 oj.guard=some bj:=by
   show ZY (Zr (Xa ce.gone s.1) oi.dst ce.eff.val) oj.guard=_;rw[Qz ab,← ag];exact ZiG fun q _=>QO _ _ _
  refine⟨_,by rw[aa];exact Zfx hx ah,?_⟩;have e0:gs (ce.on oi.dst (Zr s.1 oj.dst (if bj then evO s.1 x else .tup [])) s.2).1 t=kill ce.gone (if bj then evO s.1 x else .tup []):=by
   show gs (Zr (Xa ce.gone (Zr s.1 oj.dst _)) oi.dst ce.eff.val) t=_;rw[Qx,Kg ap,QO,Qx,Kj ht]
  rw[e0] at aj;have hk:=ZcG aj;have ev:(if bj then evO (ce.on oi.dst s.1 s.2).1 x else .tup [])=(if bj then evO s.1 x else .tup []):=by
   cases bj with
   | false=>rfl
   | true=>
    simp only[Km] at hk ⊢;cases x with
    | t n=>
     show gs (Zr (Xa ce.gone s.1) oi.dst ce.eff.val) n=gs s.1 n;rw[Qx,Kg (ae n rfl),QO];exact hk
    | _=>rfl
  rw[ev];refine⟨fun q=>?_,fun id=>rfl⟩;show gs (Zr (Zr (Xa ce.gone s.1) oi.dst ce.eff.val) oj.dst _) q=gs (Zr (Xa ce.gone (Zr s.1 oj.dst _)) oi.dst ce.eff.val) q;simp only[Qx,QO];by_cases hq:oj.dst=some q
  ·have:¬oi.dst=some q:=fun e=>by rw[hq,e] at ad;simp[ZaD] at ad
   simp only[hq,Km,this,Kk];exact hk.symm
  ·simp[hq]
theorem Zxz {C:Orc} {M:Zm} {os:List CO} {nx i j:Nat} {oi oj:CO} (am:os[i]?=some oi) (ag:os[j]?=some oj) (ar:ZV os i=false) (an:XB oj oi=true)
  (ah:∀ (k:Nat) (o:CO),os[k]?=some o→∀ x∈ZD o.op,YT x=true)
  {s s1 s2:Sl×Hp} (hm:Y7 oi.op=true) {t:Nat} (ht:oi.dst=some t) (ai:okV (gs s2.1 t)=true)
  (h1:ZE C M os nx j s=some s1) (h2:ZE C M os nx i s1=some s2):∃ t1,ZE C M os nx i s=some t1∧∃ t2,ZE C M os nx j t1=some t2∧XK t2 s2:=by
 obtain⟨x,hx⟩:∃ x,oi.op=.move x:=by
  cases ho:oi.op<;>rw[ho] at hm<;>first | (cases hm;done) | exact⟨_,rfl⟩
 simp only[XB,Kd] at an;obtain⟨⟨ad,aj⟩,ak⟩:=an;have aa:∀ s:Sl×Hp,ZE C M os nx i s=ZM C M nx i false oi s:=fun s=>by simp only[ZE,am,Zg,ar]
 rw[aa] at h2;simp only[ZE,ag,Zg] at h1;unfold ZM at h1;obtain⟨b,hw,h1⟩:=Za h1;have af:∀ n,x=.t n→oj.dst≠some n:=fun n e h=>by
  rw[h] at ad;simp only[QN,La,KS,Lf] at ad;exact ad (Ke.2 (.inl (by rw[hx,e];simp[ZD,Zbs])))
 have ao:∀ (bi:Bool) (e:evO s1.1 x=evO s.1 x∨bi=false) (g1:ZY s.1 oi.guard=some bi) (g2:ZY s1.1 oi.guard=some bi),s2=(Zr s1.1 oi.dst (if bi then evO s.1 x else .tup []),s1.2):=by
  intro bi e g1 g2;rw[Zfx hx g2] at h2;rw[← Option.some.inj h2];rcases e with e | e
  ·rw[e]
  ·rw[e];rfl
 cases b with
 | false=>
  simp only[Ka,Kk] at h1;cases h1;have ae:ZY (Zr s.1 oj.dst (.tup [])) oi.guard=ZY s.1 oi.guard:=Qz ad;obtain⟨bi,ab⟩:∃ bi,ZY s.1 oi.guard=some bi:=by
   unfold ZM at h2;obtain⟨b,hw,_⟩:=Za h2;exact⟨b,ae.symm.trans hw⟩
  have e:evO (Zr s.1 oj.dst (.tup [])) x=evO s.1 x:=Ww (o:=oi) ad x (by rw[hx];simp[ZD]);have h5:=ao bi (.inl e) ab (ae.trans ab);subst h5;refine⟨_,by rw[aa];exact Zfx hx ab,(Zr (Zr s.1 oi.dst (if bi then evO s.1 x else .tup [])) oj.dst (.tup []),s.2),?_,fun t=>?_,fun id=>rfl⟩
  ·simp only[ZE,ag,Zg];exact YA (s:=(Zr s.1 oi.dst (if bi then evO s.1 x else .tup []),s.2)) ((Qz ak).trans hw)
  ·exact(Us aj _ _ t).symm
 | true=>
  simp only[Km] at h1;obtain⟨ce,h3,h4,rfl⟩:=Xo h1;have ae:ZY (ce.on oj.dst s.1 s.2).1 oi.guard=ZY s.1 oi.guard:=by
   show ZY (Zr (Xa ce.gone s.1) oj.dst ce.eff.val) oi.guard=_;rw[Qz ad];exact ZiG fun q _=>QO _ _ _
  obtain⟨bi,ab⟩:∃ bi,ZY s.1 oi.guard=some bi:=by
   unfold ZM at h2;obtain⟨b,hw,_⟩:=Za h2;exact⟨b,ae.symm.trans hw⟩
  have ap:=h2;rw[Zfx hx (ae.trans ab)] at ap;have h6:=Option.some.inj ap;have hv:okV (if bi then evO (ce.on oj.dst s.1 s.2).1 x else .tup [])=true:=by
   rw[← h6] at ai;simp only[Qx,Kj ht] at ai;exact ai
  have aq:kill ce.gone (if bi then evO s.1 x else .tup [])=(if bi then evO s.1 x else .tup [])∧(evO (ce.on oj.dst s.1 s.2).1 x=evO s.1 x∨bi=false):=by
   cases bi with
   | false=>exact⟨rfl,.inr rfl⟩
   | true=>
    simp only[Km] at hv ⊢;cases x with
    | t n=>
     have e:evO (ce.on oj.dst s.1 s.2).1 (.t n)=kill ce.gone (gs s.1 n):=by
      show gs (Zr (Xa ce.gone s.1) oj.dst ce.eff.val) n=_;rw[Qx,Kg (af n rfl),QO]
     rw[e] at hv ⊢;have:=ZcG hv;exact⟨this,.inl this⟩
    | v c=>
     have hc:=ah i oi am (.v c) (by rw[hx];simp[ZD]);simp only[YT,Kd,List.isEmpty_iff] at hc;exact⟨ZyE hv fun id al=>by simp only[evO] at al;rw[hc.1] at al;simp at al,.inl rfl⟩
    | f n=>simp only[evO,okV,okC] at hv;cases hv
  have h5:=ao bi aq.2 ab (ae.trans ab);subst h5;refine⟨_,by rw[aa];exact Zfx hx ab,ce.on oj.dst (Zr s.1 oi.dst (if bi then evO s.1 x else .tup [])) s.2,?_,fun q=>?_,fun id=>rfl⟩
  ·simp only[ZE,ag,Zg,ZM];have au:ZY (Zr s.1 oi.dst (if bi then evO s.1 x else .tup [])) oj.guard=some true:=(Qz ak).trans hw;simp only[au,Zg,Km,YD];have:V9 C M nx j (ZV os j) oj.op (Zr s.1 oi.dst (if bi then evO s.1 x else .tup [])) s.2=some ce:=by
    rw[← h3];unfold V9;rw[Xb C M s.2 (nx+64*j) (Ww (o:=oj) ak)]
   rw[this,Zg,Kj h4]
  ·show gs (Zr (Xa ce.gone (Zr s.1 oi.dst _)) oj.dst ce.eff.val) q=gs (Zr (Zr (Xa ce.gone s.1) oj.dst ce.eff.val) oi.dst _) q;simp only[Qx,QO];by_cases hq:oi.dst=some q
   ·have:¬oj.dst=some q:=fun e=>by rw[hq,e] at aj;simp[ZaD] at aj
    simp only[hq,Km,this,Kk];exact aq.1
   ·simp[hq]
theorem ZyC {C:Orc} {M:Zm} (hM:∀ f,M f 99=false) (hC:Qi P C) {ops:Array Oper} {os:List CO} (a9:Qy (ZoM P nt ops.toList) ops.toList=some os) {nx i:Nat} {ks:List Nat} {oi:CO} (ab:os[i]?=some oi)
  (ad:∀ (k:Nat) (o:CO),os[k]?=some o→∀ x∈ZD o.op,YT x=true) :
  ∀ (js:List Nat) {s r:Sl×Hp} {U:Nat→Prop},Zj4 nt s U→Xd U (nx+64*i)→(∀ j∈js,Xd U (nx+64*j))→(js++i :: ks).Pairwise (· < ·) →
   (∀ j∈js,∃ oj,os[j]?=some oj∧XB oj oi=true∧((ZV os j=false∧(ZV os i=true→ZxV oi.op=true∨(ZrF oi.op=true∧(WC oj.op=true∨(J5 oj.op=true∧Zbt os j=true∧Zbt os i=true∧Zl6 r.1 oj.op oi.op=true)))∨(Y7 oj.op=true∧ZfN oi.op=true)∨(Y7 oj.op=true∧Zpp os j=true∧okD r.1 oj.dst=true) ∨
    (Y7 oj.op=false∧ZaY oi.op=true∧ZrH oj.op=true∧Zbt os j=true∧Zbt os i=true∧Zpp os j=true∧UM r.1 oj.dst oj.op oi.op=true))) ∨
    (ZV os j=true∧ZV os i=false∧Y7 oi.op=true∧Zpp os i=true∧okD r.1 oi.dst=true) ∨
    (ZV os j=true∧ZV os i=false∧Y7 oi.op=false∧ZaY oj.op=true∧Zmq oi.op=true∧Zbt os j=true∧Zbt os i=true∧Zpp os i=true∧UM r.1 oi.dst oi.op oj.op=true))) →
   (∀ j∈js++i :: ks,j<os.length)→Zfw C M os nx (js++i :: ks) s=some r →
   ∃ s',ZE C M os nx i s=some s'∧∃ r',Zfw C M os nx (js++ks) s'=some r'∧XK r' r
 | [],s,r,U,_,_,_,_,_,_,h=>by
  simp only[LS,Zfw] at h ⊢;obtain⟨s',h1,h⟩:=Za h;exact⟨s',h1,r,h,XK.refl r⟩
 | j :: js,s,r,U,hs,hfi,hfj,hsort,hj,hlt,h=>by
  have a1:=h;simp only[KJ,Zfw] at h;obtain⟨s1,h1,h⟩:=Za h;have a8:=hsort;simp only[KJ,LX] at hsort;have bk:j<i:=hsort.1 i (by simp);have a0:i≠j:=by omega
  have a':=Zxt hC a9 hs (hfj j (by simp)) h1;have ba:∀ k∈js,k≠j:=fun k hk e=>by
   have:=hsort.1 k (by simp[hk]);omega
  obtain⟨s2,h2,r2,h3,h4⟩:=ZyC hM hC a9 ab ad js a' (Ztq a0 hfi) (fun k hk=>Ztq (ba k hk) (hfj k (by simp[hk]))) hsort.2 (fun k hk=>hj k (by simp[hk])) (fun k hk=>hlt k (by simp only[KJ,Kf];exact .inr hk)) h;obtain⟨oj,ae,au,a2⟩:=hj j (by simp);have aa:∀ {k q n:Nat} {o:CO},Zbt os k=true→os[k]?=some o→k≤q→q<os.length→n∈Y6 o→QN (U3 os q) [n]=true:=by
   intro k q n o am ho bl hq hn;have:=KG.1 am q (Lz.2 hq);simp only[Zu1,ho,LA,Kt] at this;rcases this with h | h
   ·omega
   ·cases hd:U3 os q with
    | none=>rfl
    | some d=>
     rw[hd] at h;simp only[QN,La,KS,Lf] at h ⊢;intro e;simp at e;exact h (e ▸ hn)
  have af:∀ {k:Nat} {o:CO},Zbt os k=true→os[k]?=some o→QN o.dst (Y6 o)=true:=by
   intro k o am ho;have hk:k<os.length:=(Kc.1 ho).1;have:=KG.1 am k (Lz.2 hk);simp only[Zu1,U3,ho,LA,Kt] at this;rcases this with h | h
   ·omega
   ·exact h
  have ag:∀ {k q t:Nat} {o:CO},Zpp os k=true→os[k]?=some o→o.dst=some t→q≠k→q<os.length→QN (U3 os q) [t]=true:=by
   intro k q t o hl ho ht bb hq;simp only[Zpp,Kd] at hl;have:=KG.1 hl.2 q (Lz.2 hq);simp only[LA,beq_iff_eq,U3,ho,ht] at this;rcases this with h | h
   ·exact absurd h bb
   ·simp only[U3];cases a3:os[q]? with
    | none=>rfl
    | some oq=>
     rw[a3] at h;simp only at h ⊢;cases hd:oq.dst with
     | none=>rfl
     | some d=>
      rw[hd] at h;simp only[ZaD,bne_iff_ne,ne_eq] at h;simp only[QN,La,KS,Lf,KP];exact h
  have ah:∀ {k:Nat} {o:CO},Zpp os k=true→os[k]?=some o→∃ t,o.dst=some t:=by
   intro k o hl ho;simp only[Zpp,U3,ho,Kd] at hl;cases hd:o.dst with
   | none=>rw[hd] at hl;cases hl.1
   | some t=>exact⟨t,rfl⟩
  have av:∀ n,(∀ q∈js++ks,QN (U3 os q) [n]=true)→okV (gs r.1 n)=true→gs s2.1 n=gs r.1 n:=by
   intro n hn ho;rw[← h4.1 n] at ho ⊢;exact ZBa h3 hn ho
  have ak:∀ q∈js++ks,q≠i∧j<q∧q<os.length:=by
   intro q hq;refine⟨?_,?_,hlt q ?_⟩
   ·rcases Ke.1 hq with hq | hq
    ·have:=(LP.1 hsort.2).2.2 q hq i (by simp);omega
    ·have:=(LX.1 (LP.1 hsort.2).2.1).1 q hq;omega
   ·rcases Ke.1 hq with hq | hq
    ·exact hsort.1 q (by simp[hq])
    ·exact hsort.1 q (by simp[hq])
   ·rcases Ke.1 hq with hq | hq<;>simp[hq]
  have an:Zbt os j=true→∀ n∈Y6 oj,∀ q∈js++ks,QN (U3 os q) [n]=true:=fun am n hn q hq=>by
   obtain⟨_,h6,h7⟩:=ak q hq;exact aa am ae (by omega) h7 hn
  have ao:Zbt os i=true→∀ n∈Y6 oi,∀ q∈js++ks,QN (U3 os q) [n]=true:=fun am n hn q hq=>by
   obtain⟨_,h6,h7⟩:=ak q hq;rcases Ke.1 hq with hq | hq
   ·obtain⟨oq,a3,ap,_⟩:=hj q (by simp[hq]);simp only[XB,Kd] at ap;have h5:=ap.1.1;simp only[U3,a3];cases hd:oq.dst with
    | none=>rfl
    | some d=>
     rw[hd] at h5;simp only[QN,La,KS,Lf] at h5 ⊢;intro e;simp at e;exact h5 (e ▸ hn)
   ·have:=(LX.1 (LP.1 hsort.2).2.1).1 q hq;exact aa am ab (by omega) h7 hn
  have ai:∀ {o:CO} {n:Nat},n∈(ZD o.op).flatMap Zbs→n∈Y6 o:=fun h=>Ke.2 (.inl h);have aj:∀ {o:CO} {n:Nat},n∈(ZnD o.op).flatMap Zbs→n∈Y6 o:=fun {o n} h=>by
   refine Ke.2 (.inl ?_);cases ho:o.op<;>rw[ho] at h<;>simp only[ZnD,List.flatMap_nil,L9] at h
   simp only[ZD,KF,Ke];exact .inr h
  have a4:∃ t1,ZE C M os nx i s=some t1∧∃ t2,ZE C M os nx j t1=some t2∧XK t2 s2:=by
   rcases a2 with ⟨aw,ay⟩ | ⟨aw,az,k1,k5,k6⟩ | ⟨aw,az,k0,k1,k2,k3,k4,k5,k6⟩
   case inr.inl=>
    obtain⟨t,ht⟩:=ah k5 ab;refine Zxz ab ae az au ad k1 ht ?_ h1 h2;rw[ht] at k6;simp only[okD] at k6;rw[av t (fun q hq=>?_) k6]
    ·exact k6
    ·obtain⟨h5,_,h7⟩:=ak q hq;exact ag k5 ab ht h5 h7
   case inr.inr=>
    obtain⟨t,ht⟩:=ah k5 ab;refine Zwe hM ab ae az a0 au (af k4 ab) (af k3 ae) ad hs hfi (hfj j (by simp)) k1 k2 ?_ ht h1 h2;refine(Zwd k0 k1 k6).move (fun n hn=>av n (ao k4 n (ai hn))) (fun n hn=>av n fun q hq=>?_) (fun n hn=>av n (an k3 n (aj hn)));obtain⟨h5,_,h7⟩:=ak q hq;exact ag k5 ab hn h5 h7
   cases az:ZV os i with
   | false=>exact Zzp ab ae az aw a0 au ad hs hfi (hfj j (by simp)) h1 h2
   | true=>
    rcases ay az with hc | ⟨am,hl⟩ | ⟨bc,bd⟩ | ⟨k1,k5,k6⟩ | ⟨k0,k1,k2,k3,k4,k5,k6⟩
    case inr.inr.inr.inl=>
     obtain⟨t,ht⟩:=ah k5 ae;refine Zxy ab ae aw au ad k1 ht ?_ h1 h2;rw[ht] at k6;simp only[okD] at k6;rw[av t (fun q hq=>?_) k6]
     ·exact k6
     ·obtain⟨_,h6,h7⟩:=ak q hq;exact ag k5 ae ht (by omega) h7
    case inr.inr.inr.inr=>
     obtain⟨t,ht⟩:=ah k5 ae;refine Zxx hM ab ae aw a0 au (af k3 ae) (af k4 ab) ad hs hfi (hfj j (by simp)) k1 k2 ?_ ht h1 h2;refine(Zwd k0 k1 k6).move (fun n hn=>av n (an k3 n (ai hn))) (fun n hn=>av n fun q hq=>?_) (fun n hn=>av n (ao k4 n (aj hn)));obtain⟨_,h6,h7⟩:=ak q hq;exact ag k5 ae hn (by omega) h7
    ·exact Zzt ab ae hc aw a0 au ad hs hfi (hfj j (by simp)) h1 h2
    ·refine Zxw ab ae az aw a0 au ad hs hfi (hfj j (by simp)) ⟨am,?_⟩ h1 h2;rcases hl with hl | ⟨be,bf,bg,al⟩
     ·exact .inl hl
     ·refine .inr ⟨be,?_⟩;have a5:∀ x∈ZD oi.op,okW (evO r.1 x)=true→evO s.1 x=evO r.1 x:=by
       intro x hx ax;cases x with
       | v a=>rfl
       | f n=>rfl
       | t n=>
        simp only[evO] at ax ⊢;have hn:n∈Y6 oi:=by
         rw[Y6];exact Ke.2 (.inl (Ku.2 ⟨.t n,hx,KP.2 rfl⟩))
        refine ZuD a1 (fun q hq=>?_) ax;rcases Ke.1 hq with hq | hq
        ·obtain⟨oq,a3,ap,_⟩:=hj q hq;simp only[XB,Kd] at ap;have h5:=ap.1.1;simp only[U3,a3];cases hd:oq.dst with
         | none=>rfl
         | some d=>
          rw[hd] at h5;simp only[QN,La,KS,Lf] at h5 ⊢;intro e;simp at e;exact h5 (e ▸ hn)
        ·refine aa bg ab ?_ (hlt q (Ke.2 (.inr hq))) hn;rcases Kf.1 hq with rfl | hq
         ·omega
         ·have:=LP.1 hsort.2;have:=(LX.1 this.2.1).1 q hq;omega
      have a7:∀ id,QS r.1 id (ZD oj.op)=true→QS s.1 id (ZD oj.op)=true:=by
       intro id bh;have bi:∀ xs:List Opd,(∀ z∈xs,z∈ZD oj.op)→QS r.1 id xs=true→QS s.1 id xs=true:=by
        intro xs
        induction xs with
        | nil=>intro _ _;rfl
        | cons z zs ihz=>
         intro a6 hz;simp only[QS,Kd] at hz ⊢;refine⟨?_,ihz (fun z' bj=>a6 z' (by simp[bj])) hz.2⟩;cases z with
         | v a=>exact hz.1
         | f n=>exact hz.1
         | t n=>
          simp only[evO] at hz ⊢;have hn:n∈Y6 oj:=by
           rw[Y6];exact Ke.2 (.inl (Ku.2 ⟨.t n,a6 (.t n) (Lp ..),KP.2 rfl⟩))
          rw[ZBa a1 (fun q hq=>?_) (ZCq hz.1)]
          ·exact hz.1
          ·refine aa bf ae ?_ (hlt q hq) hn;rcases Ke.1 hq with hq | hq
           ·rcases Kf.1 hq with rfl | hq
            ·omega
            ·have:=hsort.1 q (by simp[hq]);omega
           ·have:=hsort.1 q (by simp only[Ke];exact .inr hq);omega
       exact bi _ (fun _ h=>h) bh
      cases ho:oi.op<;>rw[ho] at am al<;>first | (cases am;done) | skip
      case store slc sz x y=>
       simp only[Zl6,Kd] at al ⊢;obtain⟨al,ar⟩:=al;have ax:okV (evO r.1 x)=true:=by
        cases ht:VE (evO r.1 x) with
        | none=>rw[ht] at al;simp[ZfP] at al
        | some id=>cases hv:evO r.1 x<;>rw[hv] at ht<;>simp only[VE] at ht<;>first | (cases ht;done) | rfl
       rw[a5 x (by rw[ho];simp[ZD]) (Zpw ax)];constructor
       ·cases ht:VE (evO r.1 x) with
        | none=>rw[ht] at al;simp[ZfP] at al
        | some id=>rw[ht] at al;exact a7 id al
       ·by_cases hp:∃ b1 b2 b3 b4,evO r.1 x=.prow b1 b2 b3 b4
        ·obtain⟨b1,b2,b3,b4,hp⟩:=hp;rw[hp] at ar ⊢;rcases Zow ar with ⟨d,hv⟩ | hv
         ·rw[a5 y (by rw[ho];simp[ZD]) (by rw[hv];rfl),hv];rfl
         ·rw[a5 y (by rw[ho];simp[ZD]) (Zpw hv.1)];exact Zzs ⟨hv.1,Zq5 a7 hv.2⟩
        ·exact ZuE fun b1 b2 b3 b4 e=>hp ⟨b1,b2,b3,b4,e⟩
      case append sz by_ str flat x y=>
       simp only[Zl6,Kd,LA] at al ⊢;obtain⟨ar,aq⟩:=al;constructor
       ·have ax:okW (evO r.1 x)=true:=by
         cases hv:evO r.1 x<;>rw[hv] at ar<;>first | rfl | (cases ar;done) | skip
         case tup vs=>cases vs<;>first | rfl | cases ar
        rw[a5 x (by rw[ho];simp[ZD]) ax];cases hv:evO r.1 x<;>rw[hv] at ar<;>first | (cases ar;done) | exact a7 _ ar | skip
        ·rfl
        case tup vs=>cases vs<;>first | rfl | cases ar
       ·rcases aq with aq | aq
        ·exact .inl aq
        ·right
         have ax:okW (evO r.1 y)=true:=by
          unfold seenSrc at aq;split at aq
          ·rename_i k hk;rw[hk];rfl
          ·exact Zpw aq
         rw[a5 y (by rw[ho];simp[ZD]) ax];unfold seenSrc at aq ⊢;split at aq
         ·exact a7 _ aq
         ·exact aq
    ·exact Zzv ab ae aw au bc bd h1 h2
  obtain⟨t1,g1,t2,g2,g3⟩:=a4;obtain⟨r3,g4,g5⟩:=Zq2 g3.symm h3;refine⟨t1,g1,r3,?_,g5.symm.trans h4⟩;simp only[KJ,Zfw,g2,Zg];exact g4
def rem (n:Nat) (listed:Array Bool):List Nat:=(List.range n).filter fun i=>!listed.getD i true
theorem ZiE {n:Nat} {aa:Array Bool} {i:Nat}:i∈rem n aa↔i<n∧aa.getD i true=false:=by
 simp[rem]
theorem Zrb (n:Nat) (aa:Array Bool):(rem n aa).Pairwise (· < ·):=List.Pairwise.filter _ List.pairwise_lt_range
theorem ZCt {n:Nat} {aa:Array Bool} (ad:aa.size=n) (i:Nat):rem n (aa.setIfInBounds i true)=(rem n aa).filter fun j=>j != i:=by
 simp only[rem,List.filter_filter];refine List.filter_congr fun j hj=>?_;have ae:j<n:=Lz.1 hj;by_cases ab:i=j
 ·subst ab;simp[ad,ae]
 ·simp[Array.getElem?_setIfInBounds_ne ab,Ne.symm ab]
def Ztt (nx:Nat) (listed:Array Bool) (id:Nat):Prop:=id<nx∨∃ k,listed.getD k false=true∧nx+64*k≤id∧id<nx+64*k+64
theorem UE {l:Array Bool} {k:Nat} (h:l.getD k false=true):k<l.size∧l.getD k true=true:=by
 rcases KY k l.size with h1 | h1
 ·refine⟨h1,?_⟩;simp[h1] at h ⊢;exact h
 ·simp[Array.getElem?_eq_none h1] at h
theorem Zrc {nx i:Nat} {aa:Array Bool} (h:aa.getD i true=false):Xd (Ztt nx aa) (nx+64*i):=by
 intro id h1 h2 hu;rcases hu with hu | ⟨k,hk,h3,h4⟩
 ·omega
 ·have ab:k≠i:=fun e=>by subst e;rw[(UE hk).2] at h;cases h
  rcases LZ ab with h5 | h5<;>omega
theorem Zrd {nx i:Nat} {aa:Array Bool} (hi:i<aa.size):∀ id,Zab (Ztt nx aa) (nx+64*i) id→Ztt nx (aa.setIfInBounds i true) id:=by
 rintro id ((h | ⟨k,hk,h1⟩) | h)
 ·exact .inl h
 ·exact .inr ⟨k,getD_set_true hk,h1⟩
 ·exact .inr ⟨i,by simp[hi],h.1,h.2⟩
end
end Go.Abs
