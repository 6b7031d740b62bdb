/- Own text. -/
import Derived.Test.YtefabmohhbhlfaaAbsDrawD
set_option linter.unusedVariables false
set_option linter.unusedSimpArgs false
namespace Go.Abs
open Go
section
variable {P:Program} {nt:Nat}
theorem Zdc {α β:Type} {f:α→Option β}:∀ {l:List α} {r:List β},Qb f l=some r→∀ (i:Nat) (x:α),l[i]?=some x→∃ y,r[i]?=some y∧f x=some y
 | [],r,h,i,x,hx=>by simp at hx
 | a :: l,r,h,i,x,hx=>by
  simp only[Qb] at h;obtain⟨y,h1,h⟩:=Za h;obtain⟨ys,h2,h⟩:=Za h;cases h;cases i with
  | zero=>simp at hx;subst hx;exact⟨y,by simp,h1⟩
  | succ i=>simp at hx;obtain⟨z,h3,h4⟩:=Zdc h2 i x hx;exact⟨z,by simpa using h3,h4⟩
theorem Jm {α β:Type} {f:α→Option β}:∀ {l:List α} {r:List β},Qb f l=some r→r.length=l.length
 | [],r,h=>by simp only[Qb] at h;cases h;rfl
 | a :: l,r,h=>by
  simp only[Qb] at h;obtain⟨y,h1,h⟩:=Za h;obtain⟨ys,h2,h⟩:=Za h;cases h;simp[Jm h2]
theorem Zm4 {C:Orc} {M:Zg} (hC:Qh P C) {ops:Array Oper} {os:List CO} (ad:Qb (Zfq P nt ops.toList) ops.toList=some os) {nx i:Nat} {s s' : Sl×Hp} {U:Nat→Prop} (hs:Zcm nt s U) (hf:Qx U (nx+64*i))
  (h:Zv C M os nx i s=some s'):Zcm nt s' (Wb U (nx+64*i)):=by
 obtain⟨F,A,I,Γ,a,w,aa⟩:=hs;unfold Zv at h;obtain⟨co,ae,h⟩:=Za h;have ag:i<ops.toList.length:=by rw[← Jm ad];exact(Kc.1 ae).1
 obtain⟨am,h1,h2⟩:=Zdc ad i ops.toList[i] (Kz ag);rw[ae] at h1;cases h1;obtain⟨hg,ah,ab,af⟩:=ZaI h2;unfold ZA at h;obtain⟨b,hw,h⟩:=Za h;cases b with
 | true=>
  simp only[Kk] at h;obtain⟨ce,ai,aj,rfl⟩:=QI h;have ak:=ZmY hC aa ah hf ab aj (J4 ai) (fun a' w'=>∃ F A I Γ a w,Sim nt F A I Γ (Wb U (nx+64*i)) (ce.on co.dst s.1 s.2).1 (ce.on co.dst s.1 s.2).2 a w) (fun _ _ _=>False) fun u w' hp=>by
   obtain⟨I1,Γ1,b1,b2,b3,b4,b5⟩:=hp;rw[← af] at b5;exact⟨F,A,I1,Γ1,_,_,b5⟩
  obtain⟨_,_,al⟩:=Oper.wp_ex ak;exact al
 | false=>
  simp only[Ka,Ki] at h;cases h;obtain⟨I1,Γ1,b1,b2,b3,b4,b5⟩:=aa.pure (U':=Wb U (nx+64*i)) (v:=.tup []) (u:=undef) (dst:=co.dst) (fun id hu=>.inl hu) ZeL (by rw[af];exact ab);exact⟨F,A,I1,Γ1,_,_,b5⟩
theorem Zjn {U:Nat→Prop} {nx i j:Nat} (aa:i≠j) (h:Qx U (nx+64*i)):Qx (Wb U (nx+64*j)) (nx+64*i):=by
 intro id h1 h2 hu;rcases hu with hu | hu
 ·exact h id h1 h2 hu
 ·rcases LG aa with h3 | h3<;>omega
theorem ZrJ {id:Nat} {v:AV} (h:UU id v=true):okV v=true:=by
 cases v with
 | tup vs=>cases vs with
  | nil=>rfl
  | cons x r=>cases h
 | _=>first | rfl | cases h
def okW (v:AV):Bool:=okV v
theorem Zf6 {v:AV} (h:okV v=true):okW v=true:=h
theorem Zqr {g:List Nat} {v:AV} (h:okW (kill g v)=true):kill g v=v:=UE h
theorem ZrK {C:Orc} {M:Zg} {os:List CO} {nx q n:Nat} {s r:Sl×Hp} (h:Zv C M os nx q s=some r) (hd:Qi (VI os q) [n]=true) (hk:okW (gs r.1 n)=true):gs s.1 n=gs r.1 n:=by
 unfold Zv at h;obtain⟨o,ho,h⟩:=Za h;have aa:o.dst≠some n:=by
  intro e;simp[VI,ho,e,Qi] at hd
 unfold ZA at h;obtain⟨b,_,h⟩:=Za h;cases b with
 | true=>
  simp only[Kk] at h;obtain⟨ce,_,_,rfl⟩:=QI h;have e1:gs (ce.on o.dst s.1 s.2).1 n=kill ce.gone (gs s.1 n):=by
   show gs (Zi (Qy ce.gone s.1) o.dst ce.eff.val) n=_;rw[Z9,Kn aa,Qj]
  rw[e1] at hk ⊢;exact(Zqr hk).symm
 | false=>
  simp only[Ka,Ki] at h;cases h;show gs s.1 n=gs (Zi s.1 o.dst (.tup [])) n;rw[Z9,Kn aa]
theorem Zkt {C:Orc} {M:Zg} {os:List CO} {nx n:Nat}:∀ {l:List Nat} {s r:Sl×Hp},Zai C M os nx l s=some r→(∀ q∈l,Qi (VI os q) [n]=true)→okW (gs r.1 n)=true→gs s.1 n=gs r.1 n
 | [],s,r,h,_,_=>by simp only[Zai] at h;cases h;rfl
 | i :: l,s,r,h,hd,hk=>by
  simp only[Zai] at h;obtain⟨s1,h1,h⟩:=Za h;have h2:=Zkt h (fun q hq=>hd q (by simp[hq])) hk;rw[← h2] at hk ⊢;exact ZrK h1 (hd i (by simp)) hk
theorem Zqs {C:Orc} {M:Zg} {os:List CO} {nx n:Nat} {l:List Nat} {s r:Sl×Hp} (h:Zai C M os nx l s=some r) (hd:∀ q∈l,Qi (VI os q) [n]=true) (hk:okV (gs r.1 n)=true):gs s.1 n=gs r.1 n:=Zkt h hd (Zf6 hk)
theorem Zm5 {C:Orc} {M:Zg} {sl:Sl} {hp:Hp} {base:Nat} {c:COp} {ce:Zb} (hc:Znx c=true) (h:vop C M sl hp base c=some ce):UW (vop C M sl hp base c)=some ce:=by
 rw[h];have aa:ce.gone=[]∧ce.eff.sets=[]∧ce.eff.dels=[]∧ce.eff.frz=[]:=by
  have o1:∀ {v:AV},Qe v=some ce→ce.gone=[]∧ce.eff.sets=[]∧ce.eff.dels=[]∧ce.eff.frz=[]:=fun h=>by cases h;exact⟨rfl,rfl,rfl,rfl⟩
  have o2:∀ {v:Option AV},YA v=some ce→ce.gone=[]∧ce.eff.sets=[]∧ce.eff.dels=[]∧ce.eff.frz=[]:=fun h=>by obtain⟨v,_,h⟩:=Za h;exact o1 h
  cases c<;>simp only[Znx,Ka] at hc<;>simp only[vop] at h
  case stuck=>cases h
  case move x=>exact o1 h
  case assign s x=>
   unfold Zar at h;split at h
   ·obtain⟨s,_,h⟩:=Za h;cases h;exact⟨rfl,rfl,rfl,rfl⟩
   ·exact o1 h
  case pick c a b=>
   unfold Zbl at h;split at h
   ·split at h<;>exact o1 h
   ·cases h
  case alloc slc cs=>
   unfold Zbm Zg3 at h;split at h
   ·split at h<;>first | (cases h;done) | (cases h;exact⟨rfl,rfl,rfl,rfl⟩)
   ·split at h<;>(cases h;exact⟨rfl,rfl,rfl,rfl⟩)
  case box x=>
   unfold ZpC at h;split at h
   ·cases h;exact⟨rfl,rfl,rfl,rfl⟩
   ·cases h
  case build zs ps=>obtain⟨cs,_,h⟩:=Za h;exact o1 h
  case load g s a=>exact o2 h
  case nilCheck x=>unfold WB at h;split at h<;>first | exact o1 h | cases h
  case bin op eq x y=>
   unfold Zet at h;split at h
   ·split at h
    ·exact o2 h
    ·cases h
   ·exact o2 h
  case un op x=>exact o2 h
  case eqA neg n x y=>
   unfold ZkJ at h;split at h
   ·obtain⟨r,_,h⟩:=Za h;exact o1 h
   ·cases h
  case convI k x=>unfold Go.Abs.convI at h;split at h<;>first | exact o1 h | cases h
  case convS x=>unfold Go.Abs.convS at h;split at h<;>first | exact o1 h | cases h
  case fn f cs=>exact o2 h
  case make s b z l c=>
   obtain⟨l,_,h⟩:=Za h;obtain⟨c,_,h⟩:=Za h;unfold ZjG at h;split at h
   ·cases h;exact⟨rfl,rfl,rfl,rfl⟩
   ·cases h
  case slice s x lo hi=>exact o2 h
  case sliceS x lo hi=>exact o2 h
  case slice0 x hi mx=>exact o2 h
  case slice3 s x lo hi mx=>exact o2 h
  case shift off x=>unfold YJ at h;split at h<;>first | exact o1 h | cases h
  case part g s off x=>exact o2 h
  case iaS s x i=>
   obtain⟨n,_,h⟩:=Za h;unfold Zcv at h;split at h
   ·exact o2 h
   ·cases h
  case iaA len s x i=>
   obtain⟨n,_,h⟩:=Za h;unfold Zg6 at h;split at h
   ·unfold YJ at h;split at h<;>first | exact o1 h | cases h
   ·cases h
  case ixS x i=>
   obtain⟨n,_,h⟩:=Za h;unfold Znj at h;split at h
   ·unfold Zl3 at h;split at h
    ·obtain⟨b,_,h⟩:=Za h;exact o1 h
    ·cases h
   ·cases h
  case ixA g s len x i=>
   obtain⟨n,_,h⟩:=Za h;unfold ZpE at h;split at h
   ·exact o2 h
   ·cases h
  case nth i x=>unfold Zl4 at h;split at h<;>first | exact o2 h | cases h
  case len x=>obtain⟨n,_,h⟩:=Za h;exact o1 h
  case lenS x=>obtain⟨n,_,h⟩:=Za h;exact o1 h
  case min x y=>unfold Zfn at h;split at h<;>first | (split at h<;>first | exact o1 h | cases h) | cases h
  case max x y=>unfold Zfo at h;split at h<;>first | (split at h<;>first | exact o1 h | cases h) | cases h
 simp only[UW,Zc,aa.1,aa.2.1,aa.2.2.1,aa.2.2.2,ZaC]
theorem Zpc {C:Orc} {M:Zg} {nx i:Nat} {o:CO} (hc:Znx o.op=true) (s:Sl×Hp):ZA C M nx i true o s=ZA C M nx i false o s:=by
 unfold ZA;have:YB C M nx i true o.op s.1 s.2=YB C M nx i false o.op s.1 s.2:=by
  unfold YB;simp only[Kk,Ka,Ki];cases h:vop C M s.1 s.2 (nx+64*i) o.op with
  | none=>rfl
  | some ce=>rw[← h,Zm5 hc h,h]
 rw[this]
theorem vop_read {C:Orc} {M:Zg} {sl:Sl} {hp hp' : Hp} {base:Nat} {c:COp} (hc:Wc c=true) (h:∀ x∈Zt c,∀ k∈Zo (evO sl x),lkp hp k=lkp hp' k):vop C M sl hp base c=vop C M sl hp' base c:=by
 have len:∀ v:AV,(∀ k∈Zo v,lkp hp k=lkp hp' k)→Jz hp v=Jz hp' v:=fun v hv=>by
  cases v<;>simp only[Jz]
  case d x=>cases x<;>rfl
  case own id=>rw[hv id (by simp[Zo,Zr,Zf])]
 cases c<;>simp only[Wc,Ka] at hc<;>simp only[Zt] at h<;>simp only[vop]
 case load g s a=>
  have:=h a (by simp);cases hv:evO sl a<;>rw[hv] at this<;>simp only[Vj]
  case ptr id off=>rw[this id (by simp[Zo,Zr,Zf])]
  case prow id sz i off=>rw[this id (by simp[Zo,Zr,Zf])]
 case slice s x lo hi=>
  have:=h x (by simp);cases hv:evO sl x<;>rw[hv] at this<;>simp only[Yl]
  case d x=>cases x<;>rfl
  case own id=>rw[this id (by simp[Zo,Zr,Zf])]
  case ownv id off n=>rw[this id (by simp[Zo,Zr,Zf])]
 case slice0 x hi mx=>
  unfold slice0;rw[len _ (h x (by simp))]
 case iaS s x i=>
  congr 1
  funext n
  simp only[Zcv];have:=h x (by simp);cases hv:evO sl x<;>rw[hv] at this<;>simp only[Qd]
  case d x=>cases x<;>rfl
  case own id=>rw[this id (by simp[Zo,Zr,Zf])]
  case ownv id off n=>rw[this id (by simp[Zo,Zr,Zf])]
 case len x=>rw[len _ (h x (by simp))]
theorem Zjo {A B:Hp} (hd:∀ k x y,(k,x)∈A→(k,y)∈B→False) (hp:Hp) (id:Nat):lkp (Zd (Zd hp A) B) id=lkp (Zd (Zd hp B) A) id:=by
 have aa:∀ (l:Hp) (hp hp' : Hp),lkp hp id=lkp hp' id→lkp (Zd hp l) id=lkp (Zd hp' l) id:=by
  intro l
  induction l with
  | nil=>intro hp hp' h;exact h
  | cons q r ih=>
   intro hp hp' h;obtain⟨k,x⟩:=q;simp only[Zd];exact ih _ _ (by rw[ZW,ZW,h])
 by_cases h1:∃ o,(id,o)∈A
 ·have h2:∀ o,(id,o)∉B:=fun o ho=>by
   obtain⟨o',ab⟩:=h1;exact hd id o' o ab ho
  rw[Zs B _ id h2];exact aa A _ _ (Zs B hp id h2).symm
 ·have h2:∀ o,(id,o)∉A:=fun o ho=>h1 ⟨o,ho⟩;rw[Zs A _ id h2];exact aa B _ _ (Zs A hp id h2)
theorem ZlF {hp:Hp} {v:AV} {q:D×Bool×List Nat} (h:Uj hp v=some q):∀ i∈q.2.2,i∈Zf v:=by
 intro i hi;cases v<;>simp only[Uj] at h<;>first | (cases h;simp at hi;done) | (cases h;done) | skip
 obtain⟨p,_,h⟩:=Za h;cases h;simpa [Zf] using hi
theorem Ze6 {hp:Hp}:∀ {vs:List AV} {q:List D×Bool×List Nat},Yo hp vs=some q→∀ i∈q.2.2,i∈vs.flatMap Zf
 | [],q,h,i,hi=>by simp only[Yo] at h;cases h;simp at hi
 | v :: vs,q,h,i,hi=>by
  simp only[Yo] at h;obtain⟨q1,h1,h⟩:=Za h;obtain⟨q2,h2,h⟩:=Za h;split at h
  ·cases h;rcases Kd.1 hi with hi | hi
   ·exact Ks.2 ⟨v,by simp,ZlF h1 i hi⟩
   ·obtain⟨c,hc,aa⟩:=Ks.1 (Ze6 h2 i hi);exact Ks.2 ⟨c,by simp[hc],aa⟩
  ·cases h
theorem ZlG {hp:Hp} {n:Nat} {v:AV} {q:D×List Nat} (h:Zbg hp n v=some q):∀ i∈q.2,i∈Zf v:=by
 unfold Zbg at h;split at h
 ·split at h
  ·cases h;simp
  ·cases h
 ·cases h;simp
 ·unfold ZbZ at h;split at h
  ·split at h
   ·cases h;simp[Zf]
   ·cases h
  ·split at h
   ·cases h;simp[Zf]
   ·cases h
  ·cases h
 ·cases h
theorem Ze7 {hp:Hp} {n:Nat}:∀ {vs:List AV} {q:List D×List Nat},Yt hp n vs=some q→∀ i∈q.2,i∈vs.flatMap Zf
 | [],q,h,i,hi=>by simp only[Yt] at h;cases h;simp at hi
 | v :: vs,q,h,i,hi=>by
  simp only[Yt] at h;obtain⟨q1,h1,h⟩:=Za h;obtain⟨q2,h2,h⟩:=Za h;split at h
  ·cases h;rcases Kd.1 hi with hi | hi
   ·exact Ks.2 ⟨v,by simp,ZlG h1 i hi⟩
   ·obtain⟨c,hc,aa⟩:=Ks.1 (Ze7 h2 i hi);exact Ks.2 ⟨c,by simp[hc],aa⟩
  ·cases h
theorem Zpd {hp:Hp} {slc:List (Option Nat)} {s base:Nat} {vs:List AV} {x:AV} {e:Eff} (h:Ud hp slc s base vs x=some e):∃ id o,X8 x=some id∧e.val=.junk∧e.sets=[(id,o)]∧(∀ k∈e.dels,k∈vs.flatMap Zf∧∃ a b c d,x=.prow a b c d)∧∀ i∈e.frz,i∈vs.flatMap Zf:=by
 cases x<;>simp only[Ud] at h<;>first | cases h | skip
 case ptr id off=>
  unfold Zbf at h;split at h
  ·split at h
   ·split at h<;>(cases h;exact⟨id,_,rfl,rfl,rfl,fun i hi=>by simp at hi,fun i hi=>by simp at hi⟩)
   ·cases h
  ·cases h
 case prow id sz i off=>
  unfold UK at h;split at h
  ·split at h
   ·obtain⟨x,_,h⟩:=Za h;obtain⟨q,hq,h⟩:=Za h;unfold ZbY at h;split at h
    ·cases h;exact⟨id,_,rfl,rfl,rfl,fun i hi=>by simp at hi,Ze6 hq⟩
    ·cases h
   ·cases h
  ·split at h
   ·obtain⟨x,_,h⟩:=Za h;obtain⟨q,hq,h⟩:=Za h;unfold Zb0 at h;split at h
    ·cases h;exact⟨id,_,rfl,rfl,rfl,fun k hk=>⟨Ze7 hq k hk,_,_,_,_,rfl⟩,fun i hi=>by simp at hi⟩
    ·cases h
   ·cases h
  ·cases h
def FzEq (o o' : Option Zh):Prop:=∃ b:Bool,o'=o.map fun x=>if b then XW x else x
theorem FzEq.seen {o o' : Option Zh} (h:FzEq o o'):Uk [] o o':=by
 obtain⟨b,rfl⟩:=h;have hk:∀ x:Zh,QF [] x=x:=fun x=>by
  cases x with
  | box cs=>simp only[QF];congr 1;rw[KJ (g:=id) (fun a _=>JT a),Lw]
  | row _ _ _ _=>rfl
  | gone=>rfl
  | tree _ _ _ l=>rcases l with _ | ⟨_ | _,_⟩<;>simp[QF,YC]
 have:=ZlO (g:=[]) (b:=b) o;have e:(o.map (QF []))=o:=by cases o<;>simp[hk]
 rw[e] at this;exact this
theorem vop_fz {C:Orc} {M:Zg} {sl:Sl} {hp hp' : Hp} {base:Nat} {c:COp} (hc:Wc c=true) (h:∀ x∈Zt c,∀ k∈Zo (evO sl x),FzEq (lkp hp k) (lkp hp' k)):vop C M sl hp' base c=vop C M sl hp base c:=by
 have hs:∀ x∈Zt c,Zdg [] hp hp' (evO sl x):=fun x hx k hk=>(h x hx k hk).seen;cases c<;>simp only[Wc,Ka] at hc<;>simp only[Zt] at h hs<;>simp only[vop]
 case load g s a=>
  have h1:=h a (by simp);have h2:=hs a (by simp);cases hv:evO sl a<;>rw[hv] at h1 h2<;>simp only[Vj]
  case ptr id off=>
   obtain⟨b,e⟩:=h1 id (by simp[Zo,Zr,Zf]);rw[e];cases lkp hp id with
   | none=>rfl
   | some o=>cases o<;>cases b<;>rfl
  case prow id sz i off=>
   obtain⟨b,e⟩:=h1 id (by simp[Zo,Zr,Zf]);rw[e];cases lkp hp id with
   | none=>rfl
   | some o=>cases o<;>cases b<;>rfl
 case slice s x lo hi=>rw[Zba (hs x (by simp))]
 case slice0 x hi mx=>unfold slice0;rw[JW (hs x (by simp))]
 case iaS s x i=>
  congr 1
  funext n
  simp only[Zcv];rw[Uc (hs x (by simp))]
 case len x=>rw[JW (hs x (by simp))]
def Zdd (sl:Sl) (a:COp):COp→Bool
 | .store _ _ x y=>ZaA sl a (X8 (evO sl x))&&Ym sl a (evO sl x) (evO sl y)
 | .append _ _ _ flat x y=>Wd sl a (evO sl x)&&(flat || seenSrc sl a (evO sl y))
 | _=>false
def LooseS (s:Sl) (a b:COp):Prop:=Zhj b=true∧(YK a=true∨(Wc a=true∧Zdd s a b=true))
theorem Za8 {sl:Sl} {id:Nat}:∀ {xs:List Opd},Qo sl id xs=true→∀ x∈xs,UU id (evO sl x)=true
 | [],_,x,hx=>by simp at hx
 | y :: ys,h,x,hx=>by
  simp only[Qo,Kb] at h;rcases Kf.1 hx with rfl | hx
  ·exact h.1
  ·exact Za8 h.2 x hx
theorem Ze8 {sl:Sl} {xs:List Opd}:∀ {ks:List Nat},Q3 sl xs ks=true→∀ k∈ks,Qo sl k xs=true
 | [],_,k,hk=>by simp at hk
 | j :: r,h,k,hk=>by
  simp only[Q3,Kb] at h;rcases Kf.1 hk with rfl | hk
  ·exact h.1
  ·exact Ze8 h.2 k hk
theorem Ze9 {sl:Sl} {a:COp} {b1 b2 b3 b4:Nat} {v:AV} (h:Ym sl a (.prow b1 b2 b3 b4) v=true):(∃ d,v=.d d)∨(okV v=true∧Q3 sl (Zt a) (Zo v)=true):=by
 cases v<;>first | exact .inl ⟨_,rfl⟩ | (simp only[Ym,Kb] at h;exact .inr h)
theorem Zpe {sl:Sl} {a:COp} {b1 b2 b3 b4:Nat} {v:AV} (h:okV v=true∧Q3 sl (Zt a) (Zo v)=true):Ym sl a (.prow b1 b2 b3 b4) v=true:=by
 cases v<;>first | rfl | (simp only[Ym,Kb];exact h)
theorem Zku {sl:Sl} {a:COp} {x v:AV} (hx:∀ a b c d,x≠.prow a b c d):Ym sl a x v=true:=by
 cases x<;>first | rfl | exact absurd rfl (hx _ _ _ _)
theorem ZgE {sl sl' : Sl} {xs:List Opd} (h:∀ k,Qo sl k xs=true→Qo sl' k xs=true):∀ {ks:List Nat},Q3 sl xs ks=true→Q3 sl' xs ks=true
 | [],_=>rfl
 | j :: r,hh=>by
  simp only[Q3,Kb] at hh ⊢;exact⟨h j hh.1,ZgE h hh.2⟩
theorem ZgF {id:Nat} {v:AV} (h:UU id v=true):id∉Zo v:=by
 cases v with
 | tup vs=>cases vs with
  | nil=>simp[Zo]
  | cons x r=>cases h
 | _=>simp[UU,Zo,Zr,Zf] at h ⊢ <;> exact fun e=>h e.symm
theorem Zm6 {hp:Hp} {sz by_ base:Nat} {str flat:Bool} {x y:AV} {e:Eff} (h:V6 hp sz by_ str flat base x y=some e):e.sets=[]∧e.frz=[]∧((x=.nil∧e.dels=[])∨∃ id,e.dels=[id]∧(x=.own id∨∃ o n,x=.ownv id o n)):=by
 unfold V6 at h;obtain⟨q,_,h⟩:=Za h;split at h
 ·cases x<;>simp only[Zcu] at h<;>first | (cases h;done) | skip
  ·split at h
   ·cases h;exact⟨rfl,rfl,.inl ⟨rfl,rfl⟩⟩
   ·cases h
  ·split at h
   ·cases h
   ·unfold Zg2 at h;split at h
    ·split at h
     ·cases h;exact⟨rfl,rfl,.inr ⟨_,rfl,.inl rfl⟩⟩
     ·cases h
    ·cases h
  ·split at h
   ·split at h
    ·cases h
    ·unfold Zdm at h;split at h
     ·split at h
      ·cases h;exact⟨rfl,rfl,.inr ⟨_,rfl,.inr ⟨_,_,rfl⟩⟩⟩
      ·cases h
     ·cases h
   ·split at h
    ·unfold Zdl at h;split at h
     ·split at h
      ·cases h;exact⟨rfl,rfl,.inr ⟨_,rfl,.inr ⟨_,_,rfl⟩⟩⟩
      ·cases h
     ·cases h
    ·unfold Zdk at h;split at h
     ·split at h
      ·cases h;exact⟨rfl,rfl,.inr ⟨_,rfl,.inr ⟨_,_,rfl⟩⟩⟩
      ·cases h
     ·cases h
 ·cases h
theorem ZgG {hp:Hp} {x:AV} {k:Nat} (h:k∈QY hp x):x=.own k:=by
 unfold QY at h;split at h
 ·split at h
  ·simp at h;subst h;rfl
  ·simp at h
 ·simp at h
theorem ZlH {hp:Hp} {sz by_ base:Nat} {str flat:Bool} {x y:AV} {e:Eff}:∀ {ms:List Nat},(∀ k∈ms,x=.own k∨y=.own k)→XZ hp sz by_ str flat base x y ms=some e→e.frz=[] ∧
  e.sets=[]∧∀ k∈e.dels,(x=.own k∨∃ o n,x=.ownv k o n)∨(flat=false∧y=.own k):=by
 have plain:∀ {hp' : Hp} {e:Eff},V6 hp' sz by_ str flat base x y=some e→e.sets=[]∧e.frz=[]∧∀ k∈e.dels,x=.own k∨∃ o n,x=.ownv k o n:=by
  intro hp' e h;obtain⟨g1,g2,g3⟩:=Zm6 h;refine⟨g1,g2,fun k hk=>?_⟩;rcases g3 with ⟨_,g3⟩ | ⟨id,g3,g4⟩
  ·rw[g3] at hk;simp at hk
  ·rw[g3] at hk;simp at hk;subst hk;exact g4
 intro ms hm h;cases ms with
 | nil=>
  simp only[XZ] at h;obtain⟨g1,g2,g3⟩:=plain h;exact⟨g2,g1,fun k hk=>.inl (g3 k hk)⟩
 | cons i r=>
  simp only[XZ] at h;split at h
  ·cases h
  ·rename_i aa;obtain⟨e0,h1,h⟩:=Za h;cases h;obtain⟨g1,g2,g3⟩:=plain h1;refine⟨g2,g1,fun k hk=>?_⟩;rcases Kd.1 hk with hk | hk
   ·exact .inl (g3 k hk)
   ·rcases hm k hk with hk | hk
    ·exact .inl (.inl hk)
    ·exact .inr ⟨by simpa using aa,hk⟩
theorem Zqt {hp:Hp} {sz by_ base:Nat} {x y:AV} {ce:Zb} (h:appT hp sz by_ base x y=some ce):ce.gone=[]∧ce.eff.frz=[]∧ce.eff.sets=[]∧∀ k∈ce.eff.dels,x=.own k∨y=.own k:=by
 unfold appT at h;obtain⟨e,h1,h⟩:=Za h;cases h;obtain⟨q,h2,h1⟩:=Za h1;have hy:y=.own q.1:=by
  unfold Jp at h2;split at h2
  ·obtain⟨q2,_,h2⟩:=Za h2;cases h2;rfl
  ·cases h2
 split at h1
 ·cases x<;>simp only[Us] at h1<;>first | (cases h1;done) | skip
  ·split at h1
   ·cases h1;exact⟨rfl,rfl,rfl,fun k hk=>by simp at hk;subst hk;exact .inr hy⟩
   ·cases h1
  ·obtain⟨q3,_,h1⟩:=Za h1;split at h1
   ·cases h1;refine⟨rfl,rfl,rfl,fun k hk=>?_⟩;simp at hk;rcases hk with rfl | rfl
    ·exact .inl rfl
    ·exact .inr hy
   ·cases h1
 ·cases h1
theorem ZlI {hp:Hp} {sz by_ base:Nat} {str flat:Bool} {x y:AV} {ce:Zb} (h:Zl5 hp sz by_ str flat base x y=some ce):ce.gone=[]∧ce.eff.frz=[] ∧
  ce.eff.sets=[]∧∀ k∈ce.eff.dels,(x=.own k∨∃ o n,x=.ownv k o n)∨(flat=false∧y=.own k):=by
 have kx:∀ k∈QY hp x,x=.own k∨y=.own k:=fun k hk=>.inl (ZgG hk);have ky:∀ k∈QY hp y,x=.own k∨y=.own k:=fun k hk=>.inr (ZgG hk);have melt:∀ {ms:List Nat},(∀ k∈ms,x=.own k∨y=.own k)→Za2 (XZ hp sz by_ str flat base x y ms)=some ce→ce.gone=[]∧ce.eff.frz=[] ∧
   ce.eff.sets=[]∧∀ k∈ce.eff.dels,(x=.own k∨∃ o n,x=.ownv k o n)∨(flat=false∧y=.own k):=by
  intro ms hm h;obtain⟨e,h1,h⟩:=Za h;cases h;exact⟨rfl,ZlH hm h1⟩
 unfold Zl5 at h;generalize QY hp x=mx at h kx;generalize QY hp y=my at h ky;cases mx with
 | nil=>exact melt ky h
 | cons i r=>
  cases my with
  | nil=>exact melt kx h
  | cons j t=>
   simp only[JD] at h;split at h
   ·cases h
   ·rename_i hc;obtain⟨g1,g2,g3,g4⟩:=Zqt h;have hf:flat=false:=by cases flat<;>simp_all
    exact⟨g1,g2,g3,fun k hk=>(g4 k hk).elim (fun e=>.inl (.inl e)) fun e=>.inr ⟨hf,e⟩⟩
theorem ZgH {ds:List Nat} {l:Hp} {k:Nat} (h:k∈ds):lkp (ZP l ds) k=none:=by
 cases hl:lkp (ZP l ds) k with
 | none=>rfl
 | some o=>exact absurd h (YO ds l k o hl).2
theorem ZrL {C:Orc} {M:Zg} {sl:Sl} {hp:Hp} {base:Nat} {c:COp} {ce:Zb} (hc:Zhj c=true) (h:vop C M sl hp base c=some ce) :
  ce.gone=[]∧(∀ k,k∈ce.eff.dels∨(∃ o,(k,o)∈ce.eff.sets)→(∃ x∈Zt c,k∈Zo (evO sl x))∧∀ a,Zdd sl a c=true→Qo sl k (Zt a)=true)∧∀ k∈ce.eff.frz,∃ x∈Zt c,k∈Zo (evO sl x):=by
 cases c<;>first | (cases hc;done) | skip
 case store slc sz x y=>
  simp only[vop,Za2] at h;obtain⟨e,h7,h⟩:=Za h;cases h;obtain⟨id,o,ht,g1,g2,g3,g4⟩:=Zpd h7;refine⟨rfl,fun k hk=>?_,fun k hk=>⟨y,by simp[Zt],Zgv (U:=fun k=>k∈Zo (evO sl y)) (fun _ h=>h) k (g4 k hk)⟩⟩;rcases hk with hk | ⟨o',hk⟩
  ·obtain⟨k1,b1,b2,b3,b4,k2⟩:=g3 k hk;have k3:=Zgv (U:=fun k=>k∈Zo (evO sl y)) (fun _ h=>h) k k1;refine⟨⟨y,by simp[Zt],k3⟩,fun a ha=>?_⟩;simp only[Zdd,Kb,k2] at ha;rcases Ze9 ha.2 with ⟨d,hv⟩ | hv
   ·rw[hv] at k3;simp[Zo,Zr,Zf] at k3
   ·exact Ze8 hv.2 k k3
  ·simp only[g2,Kv,Prod.mk.injEq] at hk;have aa:=hk.1;subst aa;refine⟨⟨x,by simp[Zt],?_⟩,fun a ha=>?_⟩
   ·cases hv:evO sl x<;>rw[hv] at ht<;>simp only[X8] at ht<;>cases ht<;>simp[Zo,Zr,Zf]
   ·simp only[Zdd,Kb,ht,ZaA] at ha;exact ha.1
 case append sz by_ str flat x y=>
  simp only[vop] at h;obtain⟨g0,g2,g1,g3⟩:=ZlI h;refine⟨g0,fun k hk=>?_,fun k hk=>by simp only[g2,Lh] at hk⟩;have ab:k∈ce.eff.dels:=by
   rcases hk with hk | ⟨o',hk⟩
   ·exact hk
   ·simp only[g1,Lh] at hk
  rcases g3 k ab with g4 | ⟨g4,g5⟩
  ·refine⟨⟨x,by simp[Zt],?_⟩,fun a ha=>?_⟩
   ·rcases g4 with g4 | ⟨o,n,g4⟩<;>rw[g4]<;>simp[Zo,Zr,Zf]
   ·simp only[Zdd,Kb] at ha;rcases g4 with g4 | ⟨o,n,g4⟩<;>rw[g4] at ha<;>exact ha.1
  ·refine⟨⟨y,by simp[Zt],by rw[g5];simp[Zo,Zr,Zf]⟩,fun a ha=>?_⟩;simp only[Zdd,Kb,g4,Bool.false_or] at ha;rw[g5] at ha;exact ha.2
theorem Zm7 {C:Orc} {M:Zg} {os:List CO} {nx i j:Nat} {oi oj:CO} (ae:os[i]?=some oi) (ak:os[j]?=some oj) (ar:ZI os i=true) (am:ZI os j=false) (a3:i≠j) (au:QL oj oi=true)
  (an:∀ (k:Nat) (o:CO),os[k]?=some o→∀ x∈Zt o.op,XI x=true) {s s1 s2:Sl×Hp} {U:Nat→Prop} (hs:Zcm nt s U) (a4:Qx U (nx+64*i)) (av:Qx U (nx+64*j)) (hl:LooseS s.1 oj.op oi.op)
  (h1:Zv C M os nx j s=some s1) (h2:Zv C M os nx i s1=some s2):∃ t1,Zv C M os nx i s=some t1∧∃ t2,Zv C M os nx j t1=some t2∧QV t2 s2:=by
 obtain⟨F,A,I,Γ,a,w,ag⟩:=hs;simp only[QL,Kb] at au;obtain⟨⟨aw,ax⟩,al⟩:=au;have good:∀ (k:Nat) (o:CO),os[k]?=some o→∀ x∈Zt o.op,Zda U (evO s.1 x):=by
  intro k o ho x hx;cases x with
  | t n=>exact ag.good n
  | v y=>exact V0 (an k o ho _ hx)
  | f n=>exact⟨fun id a5=>by simp[evO,Zo,Zr] at a5,fun f a6 h c hc=>by cases h;simp at hc⟩
 simp only[Zv,ak,Zc,am] at h1;simp only[Zv,ae,Zc,ar] at h2;obtain⟨vj,aj,rfl,ao,ay⟩:=ZcH h1;obtain⟨a7,hl⟩:=hl;unfold ZA at h2;obtain⟨b,hw,h2⟩:=Za h2;have az : ZL s.1 oi.guard=some b:=by rw[← hw];exact(Qc aw).symm
 cases b with
 | false=>
  simp only[Ka,Ki] at h2;cases h2;refine⟨(Zi s.1 oi.dst (.tup []),s.2),by simp only[Zv,ae,Zc,ZA,az,Ka,Ki],?_⟩;have e2:=ay (Zi s.1 oi.dst (.tup []),s.2) (Qc al) (QA C M s.2 (nx+64*j) (YF (o:=oj) al));exact⟨(Zi (Zi s.1 oi.dst (.tup [])) oj.dst vj,Zd s.2 aj),by simp only[Zv,ak,Zc,am];exact e2,fun t=>(Vh ax vj (.tup []) t).symm,fun id=>rfl⟩
 | true=>
  simp only[Kk] at h2;obtain⟨ce,h3,h4,rfl⟩:=QI h2;have a0 : vop C M s.1 s.2 (nx+64*i) oi.op=some ce:=by
   have h5:=J4 h3;rw[← h5,QA C M (Zd s.2 aj) (nx+64*i) (YF (o:=oi) aw)];exact Wx (ag.agree (YG av ao s.2)) C M _ (good i oi ae)
  have aa:=VL h4;obtain⟨k1,k2,k3⟩:=ZrL a7 a0;obtain⟨e,gn⟩:=ce;simp only at k1 k2 k3;subst k1;have ap:∀ k∈e.frz,U k:=fun k hk=>by
   obtain⟨x,hx,hk⟩:=k3 k hk;exact(good i oi ae x hx).1 k hk
  have ah:∀ k,k∈e.dels∨(∃ o,(k,o)∈e.sets)→U k:=fun k hk=>by
   obtain⟨⟨x,hx,hk⟩,_⟩:=k2 k hk;exact(good i oi ae x hx).1 k hk
  have ai:∀ s:Sl×Hp,Zb.on { eff:=e,gone:=[] } oi.dst s.1 s.2=(Zi s.1 oi.dst e.val,Zd (Zd (ZP (Z2 e.frz s.2) e.dels) e.sets) e.adds):=by
   intro s;rfl
  refine⟨Zb.on { eff:=e,gone:=[] } oi.dst s.1 s.2,?_,?_⟩
  ·simp only[Zv,ae,Zc,ZA,az,Kk,Xu,ar,YB];rw[a0,Zc,Ko h4]
  ·have ab:∀ k,U k→¬(k∈e.dels∨∃ o,(k,o)∈e.sets)→FzEq (lkp s.2 k) (lkp (Zd (Zd (ZP (Z2 e.frz s.2) e.dels) e.sets) e.adds) k):=by
    intro k hk aq;rw[not_or] at aq;rw[← YG a4 aa _ k hk,Zs _ _ k (fun o ho=>aq.2 ⟨o,ho⟩),Vk _ _ k aq.1,ZU];exact⟨_,rfl⟩
   have e2:ZA C M nx j false oj (Zb.on { eff:=e,gone:=[] } oi.dst s.1 s.2)=some (Zi (Zb.on { eff:=e,gone:=[] } oi.dst s.1 s.2).1 oj.dst vj,Zd (Zb.on { eff:=e,gone:=[] } oi.dst s.1 s.2).2 aj):=by
    rw[ai];refine ay (Zi s.1 oi.dst e.val,Zd (Zd (ZP (Z2 e.frz s.2) e.dels) e.sets) e.adds) (Qc al) ?_;rw[QA C M _ (nx+64*j) (YF (o:=oj) al)];rcases hl with hl | ⟨a8,a9⟩
    ·exact Zdh hl
    ·refine vop_fz a8 fun z hz k hk=>?_;refine ab k ((good j oj ak z hz).1 k hk) fun hp=>?_;exact ZgF (Za8 ((k2 k hp).2 _ a9) z hz) hk
   refine⟨_,by simp only[Zv,ak,Zc,am];exact e2,fun t=>?_,fun k=>?_⟩
   ·rw[ai,ai (Zi s.1 oj.dst vj,Zd s.2 aj)];exact(Vh ax vj e.val t).symm
   ·rw[ai,ai (Zi s.1 oj.dst vj,Zd s.2 aj)];show lkp (Zd (Zd (Zd (ZP (Z2 e.frz s.2) e.dels) e.sets) e.adds) aj) k=lkp (Zd (Zd (ZP (Z2 e.frz (Zd s.2 aj)) e.dels) e.sets) e.adds) k;have a1:∀ (B:Hp) (hp hp' : Hp),(∀ k,lkp hp k=lkp hp' k)→∀ k,lkp (Zd hp B) k=lkp (Zd hp' B) k:=fun B hp hp' h=>Un B h;have ad:∀ k,U k→∀ o',(k,o')∉aj:=fun k hk o' af=>by
     have:=ao k o' af;exact av k this.1 this.2 hk
    rw[Zjo (A:=e.adds) (B:=aj) (fun k x y hx hy=>by
     have:=aa k x hx;have:=ao k y hy;rcases LG a3 with h | h<;>omega)]
    refine a1 e.adds _ _ (fun k=>?_) k;rw[Zjo (A:=e.sets) (B:=aj) (fun k x y hx hy=>ad k (ah k (.inr ⟨x,hx⟩)) y hy) (ZP (Z2 e.frz s.2) e.dels) k];refine a1 e.sets _ _ (fun k=>?_) k;by_cases hd:k∈e.dels
    ·rw[Zs aj _ k (ad k (ah k (.inl hd))),ZgH hd,ZgH hd]
    ·rw[Vk _ _ k hd];rw[ZU];by_cases hk:∃ o',(k,o')∈aj
     ·obtain⟨o',af⟩:=hk;rw[UF (hp':=s.2) ⟨o',af⟩];have a':k∉e.frz:=fun hf=>ad k (ap k hf) o' af;cases lkp (Zd s.2 aj) k<;>simp[a']
     ·have a2 : ∀ o',(k,o')∉aj:=fun o' af=>hk ⟨o',af⟩;rw[Zs aj _ k a2,Zs aj _ k a2,Vk _ _ k hd,ZU]
theorem Zpf {C:Orc} {M:Zg} {os:List CO} {nx i j:Nat} {oi oj:CO} (ab:os[i]?=some oi) (ad:os[j]?=some oj) (ae:Znx oi.op=true) (af:ZI os j=false) (ag:i≠j) (ah:QL oj oi=true)
  (aa:∀ (k:Nat) (o:CO),os[k]?=some o→∀ x∈Zt o.op,XI x=true) {s s1 s2:Sl×Hp} {U:Nat→Prop} (hs:Zcm nt s U) (ai:Qx U (nx+64*i)) (aj:Qx U (nx+64*j))
  (h1:Zv C M os nx j s=some s1) (h2:Zv C M os nx i s1=some s2):∃ t1,Zv C M os nx i s=some t1∧∃ t2,Zv C M os nx j t1=some t2∧QV t2 s2:=by
 have e:∀ s:Sl×Hp,Zv C M os nx i s=ZA C M nx i false oi s:=fun s=>by
  simp only[Zv,ab,Zc];cases ZI os i
  ·rfl
  ·exact Zpc ae s
 rw[e] at h2;simp only[e];exact ZgD ab ad af ag ah aa hs ai aj h1 h2
theorem Zkv {hp:Hp} {base s:Nat} {vs:List AV} {ce:Zb} (h:buildSl hp base s vs=some ce):ce.gone=[]:=by
 cases vs with
 | nil=>simp only[buildSl,Qe] at h;first | (cases h;rfl) | (split at h<;>first | (cases h;rfl) | cases h)
 | cons v r=>
  simp only[buildSl] at h;obtain⟨q,_,h⟩:=Za h;unfold ZpD at h;split at h
  ·cases h;rfl
  ·cases h
theorem ZlJ {C:Orc} {M:Zg} {sl:Sl} {hp:Hp} {base:Nat} {c:COp} {ce:Zb} (hc:Zay c=true) (h:vop C M sl hp base c=some ce):ce.gone=[]:=by
 cases c<;>first | (cases hc;done) | skip
 ·simp only[vop] at h;exact Zkv h
 ·simp only[vop] at h;exact(ZlI h).1
theorem Zpg {C:Orc} {M:Zg} {nx j:Nat} {oj:CO} {s s1:Sl×Hp} (hm:XL oj.op=true) (h:ZA C M nx j false oj s=some s1) :
  ∃ v,s1=(Zi s.1 oj.dst v,s.2)∧∀ aa : Sl×Hp,ZL aa.1 oj.guard=ZL s.1 oj.guard→(∀ x∈Zt oj.op,evO aa.1 x=evO s.1 x)→ZA C M nx j false oj aa=some (Zi aa.1 oj.dst v,aa.2):=by
 obtain⟨x,hx⟩:∃ x,oj.op=.move x:=by
  cases ho:oj.op<;>rw[ho] at hm<;>first | (cases hm;done) | exact⟨_,rfl⟩
 unfold ZA at h ⊢;obtain⟨b,hw,h⟩:=Za h;cases b with
 | true=>
  simp only[Kk,hx,YB,Ka,Ki,vop] at h;refine⟨evO s.1 x,?_,fun aa g1 g2=>?_⟩
  ·cases h;rfl
  ·rw[g1,hw,Zc];have e:=g2 x (by rw[hx];simp[Zt]);simp only[Kk,hx,YB,Ka,Ki,vop,e];rfl
 | false=>
  simp only[Ka,Ki] at h;cases h;refine⟨.tup [],rfl,fun aa g1 g2=>?_⟩;rw[g1,hw,Zc];rfl
theorem Zph {C:Orc} {M:Zg} {os:List CO} {nx i j:Nat} {oi oj:CO} (ad:os[i]?=some oi) (ae:os[j]?=some oj) (af:ZI os j=false) (ah:QL oj oi=true)
  {s s1 s2:Sl×Hp} (hm:XL oj.op=true) (hg:Zay oi.op=true)
  (h1:Zv C M os nx j s=some s1) (h2:Zv C M os nx i s1=some s2):∃ t1,Zv C M os nx i s=some t1∧∃ t2,Zv C M os nx j t1=some t2∧QV t2 s2:=by
 simp only[QL,Kb] at ah;obtain⟨⟨ai,aj⟩,ab⟩:=ah;simp only[Zv,ae,Zc,af] at h1;simp only[Zv,ad,Zc] at h2;obtain⟨vj,rfl,ak⟩:=Zpg hm h1;unfold ZA at h2;obtain⟨b,hw,h2⟩:=Za h2;have al : ZL s.1 oi.guard=some b:=by rw[← hw];exact(Qc ai).symm
 cases b with
 | false=>
  simp only[Ka,Ki] at h2;cases h2;refine⟨(Zi s.1 oi.dst (.tup []),s.2),by simp only[Zv,ad,Zc,ZA,al,Ka,Ki],?_⟩;exact⟨(Zi (Zi s.1 oi.dst (.tup [])) oj.dst vj,s.2),by simp only[Zv,ae,Zc,af];exact ak (Zi s.1 oi.dst (.tup []),s.2) (Qc ab) (YF (o:=oj) ab),fun t=>(Vh aj vj (.tup []) t).symm,fun id=>rfl⟩
 | true=>
  simp only[Kk] at h2;obtain⟨ce,h3,h4,rfl⟩:=QI h2;have aa:=ZlJ hg (J4 h3);have am : YB C M nx i (ZI os i) oi.op s.1 s.2=some ce:=by
   rw[← h3];unfold YB;rw[QA C M s.2 (nx+64*i) (YF (o:=oi) ai)]
  have ag:∀ (sl:Sl) (hp:Hp),ce.on oi.dst sl hp=(Zi sl oi.dst ce.eff.val,ce.eff.on hp):=by
   intro sl hp;unfold Zb.on;rw[aa];rfl
  refine⟨ce.on oi.dst s.1 s.2,?_,?_⟩
  ·simp only[Zv,ad,Zc,ZA,al,Kk,Xu];rw[am,Zc,Ko h4]
  ·rw[ag];refine⟨(Zi (Zi s.1 oi.dst ce.eff.val) oj.dst vj,ce.eff.on s.2),by simp only[Zv,ae,Zc,af];exact ak (Zi s.1 oi.dst ce.eff.val,ce.eff.on s.2) (Qc ab) (YF (o:=oj) ab),fun t=>?_,fun k=>?_⟩
   ·rw[ag];exact(Vh aj vj ce.eff.val t).symm
   ·rw[ag]
theorem awayV_ptr {sl:Sl} {xs:List Opd} {v:AV} (h:UV sl xs v=true) {k off:Nat} (e:v=.ptr k off):∀ z∈xs,k∉Zo (evO sl z):=by
 subst e;exact fun z hz=>ZgF (Za8 h z hz)
structure ZgI (r:Sl) (oX oY:CO):Prop where
 opd:∀ x∈Zt oX.op,okV (evO r x)=true
 dst:∀ t,oX.dst=some t→okV (gs r t)=true
 arg:∀ y∈ZeC oY.op,okV (evO r y)=true
 away:∀ y∈ZeC oY.op,∀ k off,evO r y=.ptr k off→∀ z∈Zt oX.op,k∉Zo (evO r z)
theorem Zkw {sl:Sl}:∀ {xs:List Opd},okL sl xs=true→∀ x∈xs,okV (evO sl x)=true
 | [],_,x,hx=>by simp at hx
 | y :: ys,h,x,hx=>by
  simp only[okL,Kb] at h;rcases Kf.1 hx with rfl | hx
  ·exact h.1
  ·exact Zkw h.2 x hx
theorem Zjp {sl:Sl} {xs:List Opd}:∀ {ys:List Opd},Zbo sl xs ys=true→∀ y∈ys,UV sl xs (evO sl y)=true
 | [],_,x,hx=>by simp at hx
 | y :: ys,h,x,hx=>by
  simp only[Zbo,Kb] at h;rcases Kf.1 hx with rfl | hx
  ·exact h.1
  ·exact Zjp h.2 x hx
theorem ZlK {r:Sl} {oX oY:CO} (hm:XL oX.op=false) (hc:WS oY.op=true) (h:VA r oX.dst oX.op oY.op=true):ZgI r oX oY:=by
 obtain⟨f,as,ho⟩:∃ f as,oY.op=.call (.f f) as:=by
  cases ho:oY.op<;>rw[ho] at hc<;>first | (cases hc;done) | skip
  rename_i f as;cases f<;>first | (cases hc;done) | exact⟨_,_,rfl⟩
 rw[ho] at h;have h' : (okL r (Zt oX.op)&&(okD r oX.dst&&(okL r as&&Zbo r (Zt oX.op) as)))=true:=by
  cases hx:oX.op<;>rw[hx] at h hm<;>first | (cases hm;done) | exact h
 simp only[Kb] at h';obtain⟨h1,h2,h3,h4⟩:=h';refine⟨Zkw h1,fun t ht=>?_,?_,?_⟩
 ·rw[ht] at h2;exact h2
 ·rw[ho];exact Zkw h3
 ·rw[ho];intro y hy k off e;exact awayV_ptr (Zjp h4 y hy) e
theorem ZgI.move {r r' : Sl} {oX oY:CO} (h:ZgI r oX oY) (h1:∀ n∈(Zt oX.op).flatMap Ue,okV (gs r n)=true→gs r' n=gs r n) (h2:∀ n,oX.dst=some n→okV (gs r n)=true→gs r' n=gs r n)
  (h3:∀ n∈(ZeC oY.op).flatMap Ue,okV (gs r n)=true→gs r' n=gs r n):ZgI r' oX oY:=by
 have e1:∀ x∈Zt oX.op,evO r' x=evO r x:=fun x hx=>by
  have ho:=h.opd x hx;cases x with
  | t n=>exact h1 n (Ks.2 ⟨_,hx,by simp[Ue]⟩) ho
  | _=>rfl
 have e3:∀ x∈ZeC oY.op,evO r' x=evO r x:=fun x hx=>by
  have ho:=h.arg x hx;cases x with
  | t n=>exact h3 n (Ks.2 ⟨_,hx,by simp[Ue]⟩) ho
  | _=>rfl
 refine⟨fun x hx=>by rw[e1 x hx];exact h.opd x hx,fun t ht=>by rw[h2 t ht (h.dst t ht)];exact h.dst t ht,fun x hx=>by rw[e3 x hx];exact h.arg x hx,fun y hy k off e z hz=>?_⟩;rw[e3 y hy] at e;rw[e1 z hz];exact h.away y hy k off e z hz
theorem ZgJ {C:Orc} {M:Zg} (hM:∀ f,M f 99=false) {os:List CO} {nx x y:Nat} {oX oY:CO} (ay:os[x]?=some oX) (a1:os[y]?=some oY) (a2:x≠y) (ak:Qi oY.dst (XG oX)=true) (aw:Qi oX.dst (XG oY)=true)
  (ad:Qi oX.dst (XG oX)=true) (al:Qi oY.dst (XG oY)=true)
  (ar:∀ (k:Nat) (o:CO),os[k]?=some o→∀ x∈Zt o.op,XI x=true) {s:Sl×Hp} {r:Sl} {U:Nat→Prop} (hs:Zcm nt s U) (a3:Qx U (nx+64*x)) (a4:Qx U (nx+64*y))
  (ae:WS oY.op=true) {ce:Zb} (a5:vop C M s.1 s.2 (nx+64*y) oY.op=some ce) (a6:Qr (nx+64*y) (nx+64*y+64) ce.eff.adds=true)
  (am:∀ n,oX.dst≠some n→oY.dst≠some n→gs r n=kill ce.gone (gs s.1 n)) (aa:ZgI r oX oY) :
  ce.eff.dels=[]∧(∀ z∈Zt oX.op,evO (ce.on oY.dst s.1 s.2).1 z=evO s.1 z)∧(∀ z∈Zt oX.op,∀ id∈Zo (evO s.1 z),id∉ce.gone)∧(∀ z∈Zt oX.op,Zdg ce.gone s.2 (ce.on oY.dst s.1 s.2).2 (evO s.1 z)) ∧
  (∀ k,nx+64*x≤k→k<nx+64*x+64→(∀ o',(k,o')∉ce.eff.sets)∧(∀ o',(k,o')∉ce.eff.adds)∧k∉ce.eff.frz∧k∉ce.gone):=by
 obtain⟨F,A,I,Γ,a,w,au⟩:=hs;have good:∀ (k:Nat) (o:CO),os[k]?=some o→∀ x∈Zt o.op,Zda U (evO s.1 x):=by
  intro k o ho x hx;cases x with
  | t n=>exact au.good n
  | v y=>exact V0 (ar k o ho _ hx)
  | f n=>exact⟨fun id av=>by simp[evO,Zo,Zr] at av,fun f a7 h c hc=>by cases h;simp at hc⟩
 obtain⟨f,as,ho⟩:∃ f as,oY.op=.call (.f f) as:=by
  cases ho:oY.op<;>rw[ho] at ae<;>first | (cases ae;done) | skip
  rename_i f as;cases f<;>first | (cases ae;done) | exact⟨_,_,rfl⟩
 have an:=a5;rw[ho] at an;simp only[vop,evO,JE,Lf] at an;obtain⟨k1,k2,k3,k4⟩:=Zpr an (hM _);have ab:∀ n,(Opd.t n)∈Zt oX.op→n∈XG oX:=fun n hn=>Kd.2 (.inl (Ks.2 ⟨_,hn,by simp[Ue]⟩));have ai:∀ n,(Opd.t n)∈as→n∈XG oY:=fun n hn=>Kd.2 (.inl (Ks.2 ⟨.t n,by rw[ho];simp[Zt,hn],by simp[Ue]⟩));have ne:∀ {d:Option Nat} {l:List Nat} {n:Nat},Qi d l=true→n∈l→d≠some n:=fun {d l n} h hn e=>by
  rw[e] at h;simp only[Qi,KO,KM,K0] at h;exact h hn
 have ax:∀ z∈Zt oX.op,evO r z=evO s.1 z∧∀ id∈Zo (evO s.1 z),id∉ce.gone:=by
  intro z hz;have af:=aa.opd z hz;cases z with
  | t n=>
   have e:=am n (ne ad (ab n hz)) (ne ak (ab n hz));simp only[evO] at af ⊢;rw[e] at af ⊢;have:=UE af;exact⟨this,Zqv this⟩
  | v c=>
   have:=ar x oX ay _ hz;simp only[XI,Kb,List.isEmpty_iff] at this;exact⟨rfl,fun id av=>by simp only[evO] at av;rw[this.1] at av;simp at av⟩
  | f n=>simp only[evO,okV,okC] at af;cases af
 have az:∀ z∈as,evO r z=evO s.1 z:=by
  intro z hz;have af:=aa.arg z (by rw[ho];exact hz);cases z with
  | t n=>
   have e:=am n (ne aw (ai n hz)) (ne al (ai n hz));simp only[evO] at af ⊢;rw[e] at af ⊢;exact UE af
  | _=>rfl
 have a0:∀ id,(∃ o,lkp s.2 id=some o)→U id:=fun id ⟨o,h⟩=>au.id_in h;have uX:∀ k,nx+64*x≤k→k<nx+64*x+64→¬U k:=fun k h1 h2=>a3 k h1 h2;have aj:=VL a6;have ag:∀ z∈Zt oX.op,∀ k∈Zo (evO s.1 z),∀ o',(k,o')∉ce.eff.sets:=by
  intro z hz k hk o' ao;rcases (k4 k o' ao).2 with h | ⟨v,hv,ap⟩
  ·exact(ax z hz).2 k hk h
  ·obtain⟨y',aq,rfl⟩:=ZbR hv;have ah:=aa.arg y' (by rw[ho];exact aq);rw[az y' aq] at ah;cases hp:evO s.1 y' with
   | ptr a b=>
    rw[hp] at ap;simp only[Wu,Kv] at ap;subst ap;have:=aa.away y' (by rw[ho];exact aq) k b (by rw[az y' aq,hp]) z hz;rw[(ax z hz).1] at this;exact this hk
   | clo g cs=>rw[hp] at ah;simp only[okV,okC] at ah;cases ah
   | _=>rw[hp] at ap;simp[Wu] at ap
 refine⟨k1,fun z hz=>?_,fun z hz=>(ax z hz).2,fun z hz k hk=>?_,fun k g1 g2=>⟨fun o' ao=>?_,fun o' ao=>?_,fun hf=>?_,fun hg=>?_⟩⟩
 ·cases z with
  | t n=>
   show gs (Zi (Qy ce.gone s.1) oY.dst ce.eff.val) n=gs s.1 n;rw[Z9,Kn (ne ak (ab n hz)),Qj];have e:=am n (ne ad (ab n hz)) (ne ak (ab n hz));have:=aa.opd _ hz;simp only[evO] at this;rw[e] at this;exact UE this
  | _=>rfl
 ·have a8:U k:=(good x oX ay z hz).1 k hk;show Uk ce.gone (lkp s.2 k) (lkp (ce.eff.on (Yx ce.gone s.2)) k);unfold Eff.on;rw[k1];simp only[ZP];rw[Zs,Zs,ZU,YD]
  ·exact ZlO _
  ·exact ag z hz k hk
  ·intro o' ao;obtain⟨h1,h2⟩:=aj k o' ao;exact a4 k h1 h2 a8
 ·exact uX k g1 g2 (a0 k (k4 k o' ao).1)
 ·have:=aj k o' ao;rcases LG a2 with h | h<;>omega
 ·obtain⟨v,hv,ap⟩:=k2 k hf;obtain⟨y',aq,rfl⟩:=ZbR hv;exact uX k g1 g2 ((good y oY a1 y' (by rw[ho];simp[Zt,aq])).1 k ap)
 ·exact uX k g1 g2 (a0 k (k3 k hg))
theorem Zm8 {C:Orc} {M:Zg} (hM:∀ f,M f 99=false) {os:List CO} {nx i j:Nat} {oi oj:CO} (ah:os[i]?=some oi) (av:os[j]?=some oj) (az:ZI os j=false) (a0:i≠j) (aw:QL oj oi=true)
  (ad:Qi oj.dst (XG oj)=true) (ae:Qi oi.dst (XG oi)=true)
  (ai:∀ (k:Nat) (o:CO),os[k]?=some o→∀ x∈Zt o.op,XI x=true) {s s1 s2:Sl×Hp} {U:Nat→Prop} (hs:Zcm nt s U) (a1:Qx U (nx+64*i)) (ap:Qx U (nx+64*j))
  (aj:WS oi.op=true) (a2:Zhl oj.op=true) (aa:ZgI s2.1 oj oi) {t:Nat} (ht:oj.dst=some t)
  (h1:Zv C M os nx j s=some s1) (h2:Zv C M os nx i s1=some s2):∃ t1,Zv C M os nx i s=some t1∧∃ t2,Zv C M os nx j t1=some t2∧QV t2 s2:=by
 have a3:=hs;obtain⟨F,A,I,Γ,a,w,af⟩:=a3;simp only[QL,Kb] at aw;obtain⟨⟨am,an⟩,ao⟩:=aw;have good:∀ (k:Nat) (o:CO),os[k]?=some o→∀ x∈Zt o.op,Zda U (evO s.1 x):=by
  intro k o ho x hx;cases x with
  | t n=>exact af.good n
  | v y=>exact V0 (ai k o ho _ hx)
  | f n=>exact⟨fun id a4=>by simp[evO,Zo,Zr] at a4,fun f a5 h c hc=>by cases h;simp at hc⟩
 have ab:∀ s:Sl×Hp,Zv C M os nx j s=ZA C M nx j false oj s:=fun s=>by simp only[Zv,av,Zc,az]
 rw[ab] at h1;simp only[Zv,ah,Zc] at h2;obtain⟨v,ax,a6,aq,hX⟩:∃ v ax,s1=(Zi s.1 oj.dst v,Zd s.2 ax)∧(∀ k x,(k,x)∈ax→nx+64*j≤k∧k<nx+64*j+64) ∧
   ((ZL s.1 oj.guard=some false∧v=.tup []∧ax=[])∨(ZL s.1 oj.guard=some true∧∃ ce,Zeo ce∧vop C M s.1 s.2 (nx+64*j) oj.op=some ce∧Qr (nx+64*j) (nx+64*j+64) ce.eff.adds=true∧v=ce.eff.val∧ax=ce.eff.adds)):=by
  rcases Zng h1 with ⟨g1,g2⟩ | ⟨g1,ce,g2,g3,g4,g5⟩
  ·exact⟨.tup [],[],g2,fun k x h=>by simp at h,.inl ⟨g1,rfl,rfl⟩⟩
  ·exact⟨ce.eff.val,ce.eff.adds,g5,VL g4,.inr ⟨g1,ce,g2,g3,g4,rfl,rfl⟩⟩
 subst a6;unfold ZA at h2;obtain⟨b,hw,h2⟩:=Za h2;have ay : ZL s.1 oi.guard=some b:=by rw[← hw];exact(Qc am).symm
 cases b with
 | false=>
  simp only[Ka,Ki] at h2;cases h2;refine⟨(Zi s.1 oi.dst (.tup []),s.2),by simp only[Zv,ah,Zc];exact Xp ay,?_⟩;refine⟨(Zi (Zi s.1 oi.dst (.tup [])) oj.dst v,Zd s.2 ax),?_,fun t=>(Vh an v (.tup []) t).symm,fun id=>rfl⟩;rw[ab];have ak:ZL (Zi s.1 oi.dst (.tup [])) oj.guard=ZL s.1 oj.guard:=Qc ao;rcases hX with ⟨g1,rfl,rfl⟩ | ⟨g1,ce,g2,g3,g4,rfl,rfl⟩
  ·exact Xp (s:=(Zi s.1 oi.dst (.tup []),s.2)) (ak.trans g1)
  ·refine ZbU (s:=(Zi s.1 oi.dst (.tup []),s.2)) (ak.trans g1) g2 ?_ g4;rw[← g3];exact QA C M s.2 (nx+64*j) (YF (o:=oj) ao)
 | true=>
  simp only[Kk] at h2;obtain⟨ce,h3,h4,rfl⟩:=QI h2;have a7:vop C M s.1 s.2 (nx+64*i) oi.op=some ce:=by
   have h5:=J4 h3;rw[← h5,QA C M (Zd s.2 ax) (nx+64*i) (YF (o:=oi) am)];exact Wx (af.agree (YG ap aq s.2)) C M _ (good i oi ah)
  have a8 : YB C M nx i (ZI os i) oi.op s.1 s.2=some ce:=by
   rw[← h3];unfold YB;rw[QA C M (Zd s.2 ax) (nx+64*i) (YF (o:=oi) am),Wx (af.agree (YG ap aq s.2)) C M _ (good i oi ah)]
  have ar:∀ n,oj.dst≠some n→oi.dst≠some n→gs (ce.on oi.dst (Zi s.1 oj.dst v) (Zd s.2 ax)).1 n=kill ce.gone (gs s.1 n):=fun n e1 e2=>by
   show gs (Zi (Qy ce.gone (Zi s.1 oj.dst v)) oi.dst ce.eff.val) n=_;rw[Z9,Kn e2,Qj,Z9,Kn e1]
  obtain⟨c1,c2,c3,c4,c5⟩:=ZgJ (nt:=nt) hM av ah (Ne.symm a0) ao am ad ae ai hs ap a1 aj a7 h4 ar aa;have e0:gs (ce.on oi.dst (Zi s.1 oj.dst v) (Zd s.2 ax)).1 t=kill ce.gone v:=by
   show gs (Zi (Qy ce.gone (Zi s.1 oj.dst v)) oi.dst ce.eff.val) t=_;rw[Z9,Kn,Qj,Z9,Ko ht];intro e;rw[ht,e] at an;simp[WE] at an
  have ag:kill ce.gone v=v:=by
   have h5:=aa.dst t ht;rw[e0] at h5;exact UE h5
  have au:okV v=true:=by
   have h5:=aa.dst t ht;rw[e0,ag] at h5;exact h5
  refine⟨ce.on oi.dst s.1 s.2,?_,?_⟩
  ·simp only[Zv,ah,Zc,ZA,ay,Kk,Xu];rw[a8,Zc,Ko h4]
  ·have ak:ZL (ce.on oi.dst s.1 s.2).1 oj.guard=ZL s.1 oj.guard:=by
    show ZL (Zi (Qy ce.gone s.1) oi.dst ce.eff.val) oj.guard=_;rw[Qc ao];exact ZbV fun q _=>Qj _ _ _
   have al:(∀ k o,(k,o)∈ax→QF ce.gone o=o)∧ZA C M nx j false oj (ce.on oi.dst s.1 s.2)=some (Zi (ce.on oi.dst s.1 s.2).1 oj.dst v,Zd (ce.on oi.dst s.1 s.2).2 ax):=by
    rcases hX with ⟨g1,rfl,rfl⟩ | ⟨g1,cx,g2,g3,g4,rfl,rfl⟩
    ·exact⟨fun k o h=>by simp at h,Xp (ak.trans g1)⟩
    ·obtain⟨e1,e2⟩:=Zpp a2 c2 c4 (fun k h6 h7=>(c5 k h6 h7).2.2.2) g3 g4 g2.frz au ag;exact⟨e2,ZbU (ak.trans g1) g2 e1 g4⟩
   obtain⟨e3,e4⟩:=al;refine⟨_,by rw[ab];exact e4,?_⟩;exact Zon (ce:=ce) (dX:=oj.dst) (dY:=oi.dst) (v:=v) (ax:=ax) (s:=s) an c1 (fun k o ho=>by
    obtain⟨h6,h7⟩:=aq k o ho;obtain⟨m1,m2,m3,_⟩:=c5 k h6 h7;exact⟨m1,m2,m3⟩) e3 ag
theorem ZlL {C:Orc} {M:Zg} (hM:∀ f,M f 99=false) {os:List CO} {nx i j:Nat} {oi oj:CO} (ar:os[i]?=some oi) (ag:os[j]?=some oj) (ay:ZI os i=false) (az:i≠j) (au:QL oj oi=true)
  (ad:Qi oi.dst (XG oi)=true) (ae:Qi oj.dst (XG oj)=true)
  (ah:∀ (k:Nat) (o:CO),os[k]?=some o→∀ x∈Zt o.op,XI x=true) {s s1 s2:Sl×Hp} {U:Nat→Prop} (hs:Zcm nt s U) (av:Qx U (nx+64*i)) (a0:Qx U (nx+64*j))
  (ai:WS oj.op=true) (a1:Zdz oi.op=true) (ab:ZgI s2.1 oi oj) {t:Nat} (ht:oi.dst=some t)
  (h1:Zv C M os nx j s=some s1) (h2:Zv C M os nx i s1=some s2):∃ t1,Zv C M os nx i s=some t1∧∃ t2,Zv C M os nx j t1=some t2∧QV t2 s2:=by
 have a2:=hs;obtain⟨F,A,I,Γ,a,w,aj⟩:=a2;simp only[QL,Kb] at au;obtain⟨⟨an,ao⟩,ak⟩:=au;have af : WE oi.dst oj.dst=true:=by
  cases hd:oi.dst<;>cases he:oj.dst<;>rw[hd,he] at ao<;>first | rfl | (simp only[WE,bne_iff_ne,ne_eq] at ao ⊢;exact fun e=>ao e.symm)
 have good:∀ (k:Nat) (o:CO),os[k]?=some o→∀ x∈Zt o.op,Zda U (evO s.1 x):=by
  intro k o ho x hx;cases x with
  | t n=>exact aj.good n
  | v y=>exact V0 (ah k o ho _ hx)
  | f n=>exact⟨fun id a3=>by simp[evO,Zo,Zr] at a3,fun f a4 h c hc=>by cases h;simp at hc⟩
 have aa:∀ s:Sl×Hp,Zv C M os nx i s=ZA C M nx i false oi s:=fun s=>by simp only[Zv,ar,Zc,ay]
 rw[aa] at h2;simp only[Zv,ag,Zc] at h1;unfold ZA at h1;obtain⟨b,hw,h1⟩:=Za h1;cases b with
 | false=>
  simp only[Ka,Ki] at h1;cases h1;have al:ZL (Zi s.1 oj.dst (.tup [])) oi.guard=ZL s.1 oi.guard:=Qc an;rcases Zng h2 with ⟨g1,g2⟩ | ⟨g1,ce,g2,g3,g4,g5⟩
  ·subst g2;refine⟨(Zi s.1 oi.dst (.tup []),s.2),by rw[aa];exact Xp (al.symm.trans g1),(Zi (Zi s.1 oi.dst (.tup [])) oj.dst (.tup []),s.2),?_,fun t=>Vh af _ _ t,fun id=>rfl⟩;simp only[Zv,ag,Zc];exact Xp (s:=(Zi s.1 oi.dst (.tup []),s.2)) ((Qc ak).trans hw)
  ·subst g5;refine⟨(Zi s.1 oi.dst ce.eff.val,Zd s.2 ce.eff.adds),?_,(Zi (Zi s.1 oi.dst ce.eff.val) oj.dst (.tup []),Zd s.2 ce.eff.adds),?_,fun t=>Vh af _ _ t,fun id=>rfl⟩
   ·rw[aa];refine ZbU (al.symm.trans g1) g2 ?_ g4;rw[← g3];exact(QA C M s.2 (nx+64*i) (YF (o:=oi) an)).symm
   ·simp only[Zv,ag,Zc];exact Xp (s:=(Zi s.1 oi.dst ce.eff.val,Zd s.2 ce.eff.adds)) ((Qc ak).trans hw)
 | true=>
  simp only[Kk] at h1;obtain⟨ce,h3,h4,rfl⟩:=QI h1;have a5:vop C M s.1 s.2 (nx+64*j) oj.op=some ce:=J4 h3;have al:ZL (ce.on oj.dst s.1 s.2).1 oi.guard=ZL s.1 oi.guard:=by
   show ZL (Zi (Qy ce.gone s.1) oj.dst ce.eff.val) oi.guard=_;rw[Qc an];exact ZbV fun q _=>Qj _ _ _
  obtain⟨v,ax,a6,aw,hX⟩:∃ v ax,s2=(Zi (ce.on oj.dst s.1 s.2).1 oi.dst v,Zd (ce.on oj.dst s.1 s.2).2 ax)∧(∀ k x,(k,x)∈ax→nx+64*i≤k∧k<nx+64*i+64) ∧
    ((ZL s.1 oi.guard=some false∧v=.tup []∧ax=[])∨(ZL s.1 oi.guard=some true∧∃ cx,Zeo cx∧vop C M (ce.on oj.dst s.1 s.2).1 (ce.on oj.dst s.1 s.2).2 (nx+64*i) oi.op=some cx∧Qr (nx+64*i) (nx+64*i+64) cx.eff.adds=true∧v=cx.eff.val∧ax=cx.eff.adds)):=by
   rcases Zng h2 with ⟨g1,g2⟩ | ⟨g1,cx,g2,g3,g4,g5⟩
   ·exact⟨.tup [],[],g2,fun k x h=>by simp at h,.inl ⟨al.symm.trans g1,rfl,rfl⟩⟩
   ·exact⟨cx.eff.val,cx.eff.adds,g5,VL g4,.inr ⟨al.symm.trans g1,cx,g2,g3,g4,rfl,rfl⟩⟩
  subst a6;have ap:∀ n,oi.dst≠some n→oj.dst≠some n→gs (Zi (ce.on oj.dst s.1 s.2).1 oi.dst v) n=kill ce.gone (gs s.1 n):=fun n e1 e2=>by
   rw[Z9,Kn e1];show gs (Zi (Qy ce.gone s.1) oj.dst ce.eff.val) n=_;rw[Z9,Kn e2,Qj]
  obtain⟨c1,c2,c3,c4,c5⟩:=ZgJ (nt:=nt) hM ar ag az an ak ad ae ah hs av a0 ai a5 h4 ap ab;have aq:okV v=true:=by
   have h5:=ab.dst t ht;simp only[Z9,Ko ht] at h5;exact h5
  have am:kill ce.gone v=v∧(∀ k o,(k,o)∈ax→QF ce.gone o=o)∧ZA C M nx i false oi s=some (Zi s.1 oi.dst v,Zd s.2 ax):=by
   rcases hX with ⟨g1,rfl,rfl⟩ | ⟨g1,cx,g2,g3,g4,rfl,rfl⟩
   ·exact⟨rfl,fun k o h=>by simp at h,Xp g1⟩
   ·obtain⟨e1,e2,e3⟩:=Znf a1 c2 c4 c3 (fun k h6 h7=>(c5 k h6 h7).2.2.2) g3 g4 g2.frz aq;exact⟨e2,e3,ZbU g1 g2 e1 g4⟩
  obtain⟨hk,e3,e4⟩:=am;refine⟨(Zi s.1 oi.dst v,Zd s.2 ax),by rw[aa];exact e4,ce.on oj.dst (Zi s.1 oi.dst v) (Zd s.2 ax),?_,?_⟩
  ·simp only[Zv,ag,Zc,ZA];have a7:ZL (Zi s.1 oi.dst v) oj.guard=some true:=(Qc ak).trans hw;simp only[a7,Zc,Kk,Xu];have:YB C M nx j (ZI os j) oj.op (Zi s.1 oi.dst v) (Zd s.2 ax)=some ce:=by
    rw[← h3];unfold YB;rw[QA C M (Zd s.2 ax) (nx+64*j) (YF (o:=oj) ak),← Wx (aj.agree (YG av aw s.2)) C M _ (good j oj ag)]
   rw[this,Zc,Ko h4]
  ·exact(Zon (ce:=ce) (dX:=oi.dst) (dY:=oj.dst) (v:=v) (ax:=ax) (s:=s) af c1 (fun k o ho=>by
    obtain⟨h6,h7⟩:=aw k o ho;obtain⟨m1,m2,m3,_⟩:=c5 k h6 h7;exact⟨m1,m2,m3⟩) e3 hk).symm
theorem Zaj {C:Orc} {M:Zg} {nx j:Nat} {oj:CO} {x:Opd} (hx:oj.op=.move x) {s:Sl×Hp} {b:Bool} (hw:ZL s.1 oj.guard=some b) :
  ZA C M nx j false oj s=some (Zi s.1 oj.dst (if b then evO s.1 x else .tup []),s.2):=by
 unfold ZA;rw[hw,Zc];cases b
 ·rfl
 ·simp only[Kk,hx,YB,Ka,Ki,vop];rfl
theorem Zm9 {C:Orc} {M:Zg} {os:List CO} {nx i j:Nat} {oi oj:CO} (af:os[i]?=some oi) (am:os[j]?=some oj) (an:ZI os j=false) (ai:QL oj oi=true)
  (ao:∀ (k:Nat) (o:CO),os[k]?=some o→∀ x∈Zt o.op,XI x=true)
  {s s1 s2:Sl×Hp} (hm:XL oj.op=true) {t:Nat} (ht:oj.dst=some t) (aj:okV (gs s2.1 t)=true)
  (h1:Zv C M os nx j s=some s1) (h2:Zv C M os nx i s1=some s2):∃ t1,Zv C M os nx i s=some t1∧∃ t2,Zv C M os nx j t1=some t2∧QV t2 s2:=by
 obtain⟨x,hx⟩:∃ x,oj.op=.move x:=by
  cases ho:oj.op<;>rw[ho] at hm<;>first | (cases hm;done) | exact⟨_,rfl⟩
 simp only[QL,Kb] at ai;obtain⟨⟨ak,ad⟩,ab⟩:=ai;have aa:∀ s:Sl×Hp,Zv C M os nx j s=ZA C M nx j false oj s:=fun s=>by simp only[Zv,am,Zc,an]
 rw[aa] at h1;obtain⟨bj,ag⟩:∃ bj,ZL s.1 oj.guard=some bj:=by
  unfold ZA at h1;obtain⟨b,hw,_⟩:=Za h1;exact⟨b,hw⟩
 rw[Zaj hx ag] at h1;have h1:=(Option.some.inj h1).symm;subst h1;simp only[Zv,af,Zc] at h2;unfold ZA at h2;obtain⟨b,hw,h2⟩:=Za h2;have al : ZL s.1 oi.guard=some b:=by rw[← hw];exact(Qc ak).symm
 have ap:oi.dst≠some t:=fun e=>by rw[ht,e] at ad;simp[WE] at ad
 have ae:∀ n,x=.t n→oi.dst≠some n:=fun n e h=>by
  rw[h] at ab;simp only[Qi,KO,KM,K0] at ab;exact ab (Kd.2 (.inl (by rw[hx,e];simp[Zt,Ue])))
 cases b with
 | false=>
  simp only[Ka,Ki] at h2;cases h2;refine⟨(Zi s.1 oi.dst (.tup []),s.2),by simp only[Zv,af,Zc];exact Xp al,?_⟩;refine⟨_,by rw[aa];exact Zaj (s:=(Zi s.1 oi.dst (.tup []),s.2)) hx ((Qc ab).trans ag),?_⟩;have:evO (Zi s.1 oi.dst (.tup [])) x=evO s.1 x:=YF (o:=oj) ab x (by rw[hx];simp[Zt]);simp only[this];exact⟨fun t=>(Vh ad _ _ t).symm,fun id=>rfl⟩
 | true=>
  simp only[Kk] at h2;obtain⟨ce,h3,h4,rfl⟩:=QI h2;have aq : YB C M nx i (ZI os i) oi.op s.1 s.2=some ce:=by
   rw[← h3];unfold YB;rw[QA C M s.2 (nx+64*i) (YF (o:=oi) ak)]
  refine⟨ce.on oi.dst s.1 s.2,by simp only[Zv,af,Zc,ZA,al,Kk,Xu];rw[aq,Zc,Ko h4],?_⟩;have ah:ZL (ce.on oi.dst s.1 s.2).1 oj.guard=some bj:=by
   show ZL (Zi (Qy ce.gone s.1) oi.dst ce.eff.val) oj.guard=_;rw[Qc ab,← ag];exact ZbV fun q _=>Qj _ _ _
  refine⟨_,by rw[aa];exact Zaj hx ah,?_⟩;have e0:gs (ce.on oi.dst (Zi s.1 oj.dst (if bj then evO s.1 x else .tup [])) s.2).1 t=kill ce.gone (if bj then evO s.1 x else .tup []):=by
   show gs (Zi (Qy ce.gone (Zi s.1 oj.dst _)) oi.dst ce.eff.val) t=_;rw[Z9,Kn ap,Qj,Z9,Ko ht]
  rw[e0] at aj;have hk:=UE aj;have ev:(if bj then evO (ce.on oi.dst s.1 s.2).1 x else .tup [])=(if bj then evO s.1 x else .tup []):=by
   cases bj with
   | false=>rfl
   | true=>
    simp only[Kk] at hk ⊢;cases x with
    | t n=>
     show gs (Zi (Qy ce.gone s.1) oi.dst ce.eff.val) n=gs s.1 n;rw[Z9,Kn (ae n rfl),Qj];exact hk
    | _=>rfl
  rw[ev];refine⟨fun q=>?_,fun id=>rfl⟩;show gs (Zi (Zi (Qy ce.gone s.1) oi.dst ce.eff.val) oj.dst _) q=gs (Zi (Qy ce.gone (Zi s.1 oj.dst _)) oi.dst ce.eff.val) q;simp only[Z9,Qj];by_cases hq:oj.dst=some q
  ·have:¬oi.dst=some q:=fun e=>by rw[hq,e] at ad;simp[WE] at ad
   simp only[hq,Kk,this,Ki];exact hk.symm
  ·simp[hq]
theorem Zna {C:Orc} {M:Zg} {os:List CO} {nx i j:Nat} {oi oj:CO} (am:os[i]?=some oi) (ag:os[j]?=some oj) (ar:ZI os i=false) (an:QL oj oi=true)
  (ah:∀ (k:Nat) (o:CO),os[k]?=some o→∀ x∈Zt o.op,XI x=true)
  {s s1 s2:Sl×Hp} (hm:XL oi.op=true) {t:Nat} (ht:oi.dst=some t) (ai:okV (gs s2.1 t)=true)
  (h1:Zv C M os nx j s=some s1) (h2:Zv C M os nx i s1=some s2):∃ t1,Zv C M os nx i s=some t1∧∃ t2,Zv C M os nx j t1=some t2∧QV t2 s2:=by
 obtain⟨x,hx⟩:∃ x,oi.op=.move x:=by
  cases ho:oi.op<;>rw[ho] at hm<;>first | (cases hm;done) | exact⟨_,rfl⟩
 simp only[QL,Kb] at an;obtain⟨⟨ad,aj⟩,ak⟩:=an;have aa:∀ s:Sl×Hp,Zv C M os nx i s=ZA C M nx i false oi s:=fun s=>by simp only[Zv,am,Zc,ar]
 rw[aa] at h2;simp only[Zv,ag,Zc] at h1;unfold ZA at h1;obtain⟨b,hw,h1⟩:=Za h1;have af:∀ n,x=.t n→oj.dst≠some n:=fun n e h=>by
  rw[h] at ad;simp only[Qi,KO,KM,K0] at ad;exact ad (Kd.2 (.inl (by rw[hx,e];simp[Zt,Ue])))
 have ao:∀ (bi:Bool) (e:evO s1.1 x=evO s.1 x∨bi=false) (g1:ZL s.1 oi.guard=some bi) (g2:ZL s1.1 oi.guard=some bi),s2=(Zi s1.1 oi.dst (if bi then evO s.1 x else .tup []),s1.2):=by
  intro bi e g1 g2;rw[Zaj hx g2] at h2;rw[← Option.some.inj h2];rcases e with e | e
  ·rw[e]
  ·rw[e];rfl
 cases b with
 | false=>
  simp only[Ka,Ki] at h1;cases h1;have ae:ZL (Zi s.1 oj.dst (.tup [])) oi.guard=ZL s.1 oi.guard:=Qc ad;obtain⟨bi,ab⟩:∃ bi,ZL s.1 oi.guard=some bi:=by
   unfold ZA at h2;obtain⟨b,hw,_⟩:=Za h2;exact⟨b,ae.symm.trans hw⟩
  have e:evO (Zi s.1 oj.dst (.tup [])) x=evO s.1 x:=YF (o:=oi) ad x (by rw[hx];simp[Zt]);have h5:=ao bi (.inl e) ab (ae.trans ab);subst h5;refine⟨_,by rw[aa];exact Zaj hx ab,(Zi (Zi s.1 oi.dst (if bi then evO s.1 x else .tup [])) oj.dst (.tup []),s.2),?_,fun t=>?_,fun id=>rfl⟩
  ·simp only[Zv,ag,Zc];exact Xp (s:=(Zi s.1 oi.dst (if bi then evO s.1 x else .tup []),s.2)) ((Qc ak).trans hw)
  ·exact(Vh aj _ _ t).symm
 | true=>
  simp only[Kk] at h1;obtain⟨ce,h3,h4,rfl⟩:=QI h1;have ae:ZL (ce.on oj.dst s.1 s.2).1 oi.guard=ZL s.1 oi.guard:=by
   show ZL (Zi (Qy ce.gone s.1) oj.dst ce.eff.val) oi.guard=_;rw[Qc ad];exact ZbV fun q _=>Qj _ _ _
  obtain⟨bi,ab⟩:∃ bi,ZL s.1 oi.guard=some bi:=by
   unfold ZA at h2;obtain⟨b,hw,_⟩:=Za h2;exact⟨b,ae.symm.trans hw⟩
  have ap:=h2;rw[Zaj hx (ae.trans ab)] at ap;have h6:=Option.some.inj ap;have hv:okV (if bi then evO (ce.on oj.dst s.1 s.2).1 x else .tup [])=true:=by
   rw[← h6] at ai;simp only[Z9,Ko ht] at ai;exact ai
  have aq:kill ce.gone (if bi then evO s.1 x else .tup [])=(if bi then evO s.1 x else .tup [])∧(evO (ce.on oj.dst s.1 s.2).1 x=evO s.1 x∨bi=false):=by
   cases bi with
   | false=>exact⟨rfl,.inr rfl⟩
   | true=>
    simp only[Kk] at hv ⊢;cases x with
    | t n=>
     have e:evO (ce.on oj.dst s.1 s.2).1 (.t n)=kill ce.gone (gs s.1 n):=by
      show gs (Zi (Qy ce.gone s.1) oj.dst ce.eff.val) n=_;rw[Z9,Kn (af n rfl),Qj]
     rw[e] at hv ⊢;have:=UE hv;exact⟨this,.inl this⟩
    | v c=>
     have hc:=ah i oi am (.v c) (by rw[hx];simp[Zt]);simp only[XI,Kb,List.isEmpty_iff] at hc;exact⟨Zol hv fun id al=>by simp only[evO] at al;rw[hc.1] at al;simp at al,.inl rfl⟩
    | f n=>simp only[evO,okV,okC] at hv;cases hv
  have h5:=ao bi aq.2 ab (ae.trans ab);subst h5;refine⟨_,by rw[aa];exact Zaj hx ab,ce.on oj.dst (Zi s.1 oi.dst (if bi then evO s.1 x else .tup [])) s.2,?_,fun q=>?_,fun id=>rfl⟩
  ·simp only[Zv,ag,Zc,ZA];have au:ZL (Zi s.1 oi.dst (if bi then evO s.1 x else .tup [])) oj.guard=some true:=(Qc ak).trans hw;simp only[au,Zc,Kk,Xu];have:YB C M nx j (ZI os j) oj.op (Zi s.1 oi.dst (if bi then evO s.1 x else .tup [])) s.2=some ce:=by
    rw[← h3];unfold YB;rw[QA C M s.2 (nx+64*j) (YF (o:=oj) ak)]
   rw[this,Zc,Ko h4]
  ·show gs (Zi (Qy ce.gone (Zi s.1 oi.dst _)) oj.dst ce.eff.val) q=gs (Zi (Zi (Qy ce.gone s.1) oj.dst ce.eff.val) oi.dst _) q;simp only[Z9,Qj];by_cases hq:oi.dst=some q
   ·have:¬oj.dst=some q:=fun e=>by rw[hq,e] at aj;simp[WE] at aj
    simp only[hq,Kk,this,Ki];exact aq.1
   ·simp[hq]
theorem Zoj {C:Orc} {M:Zg} (hM:∀ f,M f 99=false) (hC:Qh P C) {ops:Array Oper} {os:List CO} (a9:Qb (Zfq P nt ops.toList) ops.toList=some os) {nx i:Nat} {ks:List Nat} {oi:CO} (ab:os[i]?=some oi)
  (ad:∀ (k:Nat) (o:CO),os[k]?=some o→∀ x∈Zt o.op,XI x=true) :
  ∀ (js:List Nat) {s r:Sl×Hp} {U:Nat→Prop},Zcm nt s U→Qx U (nx+64*i)→(∀ j∈js,Qx U (nx+64*j))→(js++i :: ks).Pairwise (· < ·) →
   (∀ j∈js,∃ oj,os[j]?=some oj∧QL oj oi=true∧((ZI os j=false∧(ZI os i=true→Znx oi.op=true∨(Zhj oi.op=true∧(YK oj.op=true∨(Wc oj.op=true∧Uf os j=true∧Uf os i=true∧Zdd r.1 oj.op oi.op=true)))∨(XL oj.op=true∧Zay oi.op=true)∨(XL oj.op=true∧ZfJ os j=true∧okD r.1 oj.dst=true) ∨
    (XL oj.op=false∧WS oi.op=true∧Zhl oj.op=true∧Uf os j=true∧Uf os i=true∧ZfJ os j=true∧VA r.1 oj.dst oj.op oi.op=true))) ∨
    (ZI os j=true∧ZI os i=false∧XL oi.op=true∧ZfJ os i=true∧okD r.1 oi.dst=true) ∨
    (ZI os j=true∧ZI os i=false∧XL oi.op=false∧WS oj.op=true∧Zdz oi.op=true∧Uf os j=true∧Uf os i=true∧ZfJ os i=true∧VA r.1 oi.dst oi.op oj.op=true))) →
   (∀ j∈js++i :: ks,j<os.length)→Zai C M os nx (js++i :: ks) s=some r →
   ∃ s',Zv C M os nx i s=some s'∧∃ r',Zai C M os nx (js++ks) s'=some r'∧QV r' r
 | [],s,r,U,_,_,_,_,_,_,h=>by
  simp only[K4,Zai] at h ⊢;obtain⟨s',h1,h⟩:=Za h;exact⟨s',h1,r,h,QV.refl r⟩
 | j :: js,s,r,U,hs,hfi,hfj,hsort,hj,hlt,h=>by
  have a1:=h;simp only[KL,Zai] at h;obtain⟨s1,h1,h⟩:=Za h;have a8:=hsort;simp only[KL,K7] at hsort;have bk:j<i:=hsort.1 i (by simp);have a0:i≠j:=by omega
  have a':=Zm4 hC a9 hs (hfj j (by simp)) h1;have ba:∀ k∈js,k≠j:=fun k hk e=>by
   have:=hsort.1 k (by simp[hk]);omega
  obtain⟨s2,h2,r2,h3,h4⟩:=Zoj hM hC a9 ab ad js a' (Zjn a0 hfi) (fun k hk=>Zjn (ba k hk) (hfj k (by simp[hk]))) hsort.2 (fun k hk=>hj k (by simp[hk])) (fun k hk=>hlt k (by simp only[KL,Kf];exact .inr hk)) h;obtain⟨oj,ae,au,a2⟩:=hj j (by simp);have aa:∀ {k q n:Nat} {o:CO},Uf os k=true→os[k]?=some o→k≤q→q<os.length→n∈XG o→Qi (VI os q) [n]=true:=by
   intro k q n o am ho bl hq hn;have:=KK.1 am q (Ln.2 hq);simp only[ZkT,ho,Lg,Kl] at this;rcases this with h | h
   ·omega
   ·cases hd:VI os q with
    | none=>rfl
    | some d=>
     rw[hd] at h;simp only[Qi,KO,KM,K0] at h ⊢;intro e;simp at e;exact h (e ▸ hn)
  have af:∀ {k:Nat} {o:CO},Uf os k=true→os[k]?=some o→Qi o.dst (XG o)=true:=by
   intro k o am ho;have hk:k<os.length:=(Kc.1 ho).1;have:=KK.1 am k (Ln.2 hk);simp only[ZkT,VI,ho,Lg,Kl] at this;rcases this with h | h
   ·omega
   ·exact h
  have ag:∀ {k q t:Nat} {o:CO},ZfJ os k=true→os[k]?=some o→o.dst=some t→q≠k→q<os.length→Qi (VI os q) [t]=true:=by
   intro k q t o hl ho ht bb hq;simp only[ZfJ,Kb] at hl;have:=KK.1 hl.2 q (Ln.2 hq);simp only[Lg,beq_iff_eq,VI,ho,ht] at this;rcases this with h | h
   ·exact absurd h bb
   ·simp only[VI];cases a3:os[q]? with
    | none=>rfl
    | some oq=>
     rw[a3] at h;simp only at h ⊢;cases hd:oq.dst with
     | none=>rfl
     | some d=>
      rw[hd] at h;simp only[WE,bne_iff_ne,ne_eq] at h;simp only[Qi,KO,KM,K0,Kv];exact h
  have ah:∀ {k:Nat} {o:CO},ZfJ os k=true→os[k]?=some o→∃ t,o.dst=some t:=by
   intro k o hl ho;simp only[ZfJ,VI,ho,Kb] at hl;cases hd:o.dst with
   | none=>rw[hd] at hl;cases hl.1
   | some t=>exact⟨t,rfl⟩
  have av:∀ n,(∀ q∈js++ks,Qi (VI os q) [n]=true)→okV (gs r.1 n)=true→gs s2.1 n=gs r.1 n:=by
   intro n hn ho;rw[← h4.1 n] at ho ⊢;exact Zqs h3 hn ho
  have ak:∀ q∈js++ks,q≠i∧j<q∧q<os.length:=by
   intro q hq;refine⟨?_,?_,hlt q ?_⟩
   ·rcases Kd.1 hq with hq | hq
    ·have:=(K5.1 hsort.2).2.2 q hq i (by simp);omega
    ·have:=(K7.1 (K5.1 hsort.2).2.1).1 q hq;omega
   ·rcases Kd.1 hq with hq | hq
    ·exact hsort.1 q (by simp[hq])
    ·exact hsort.1 q (by simp[hq])
   ·rcases Kd.1 hq with hq | hq<;>simp[hq]
  have an:Uf os j=true→∀ n∈XG oj,∀ q∈js++ks,Qi (VI os q) [n]=true:=fun am n hn q hq=>by
   obtain⟨_,h6,h7⟩:=ak q hq;exact aa am ae (by omega) h7 hn
  have ao:Uf os i=true→∀ n∈XG oi,∀ q∈js++ks,Qi (VI os q) [n]=true:=fun am n hn q hq=>by
   obtain⟨_,h6,h7⟩:=ak q hq;rcases Kd.1 hq with hq | hq
   ·obtain⟨oq,a3,ap,_⟩:=hj q (by simp[hq]);simp only[QL,Kb] at ap;have h5:=ap.1.1;simp only[VI,a3];cases hd:oq.dst with
    | none=>rfl
    | some d=>
     rw[hd] at h5;simp only[Qi,KO,KM,K0] at h5 ⊢;intro e;simp at e;exact h5 (e ▸ hn)
   ·have:=(K7.1 (K5.1 hsort.2).2.1).1 q hq;exact aa am ab (by omega) h7 hn
  have ai:∀ {o:CO} {n:Nat},n∈(Zt o.op).flatMap Ue→n∈XG o:=fun h=>Kd.2 (.inl h);have aj:∀ {o:CO} {n:Nat},n∈(ZeC o.op).flatMap Ue→n∈XG o:=fun {o n} h=>by
   refine Kd.2 (.inl ?_);cases ho:o.op<;>rw[ho] at h<;>simp only[ZeC,List.flatMap_nil,Lh] at h
   simp only[Zt,KD,Kd];exact .inr h
  have a4:∃ t1,Zv C M os nx i s=some t1∧∃ t2,Zv C M os nx j t1=some t2∧QV t2 s2:=by
   rcases a2 with ⟨aw,ay⟩ | ⟨aw,az,k1,k5,k6⟩ | ⟨aw,az,k0,k1,k2,k3,k4,k5,k6⟩
   case inr.inl=>
    obtain⟨t,ht⟩:=ah k5 ab;refine Zna ab ae az au ad k1 ht ?_ h1 h2;rw[ht] at k6;simp only[okD] at k6;rw[av t (fun q hq=>?_) k6]
    ·exact k6
    ·obtain⟨h5,_,h7⟩:=ak q hq;exact ag k5 ab ht h5 h7
   case inr.inr=>
    obtain⟨t,ht⟩:=ah k5 ab;refine ZlL hM ab ae az a0 au (af k4 ab) (af k3 ae) ad hs hfi (hfj j (by simp)) k1 k2 ?_ ht h1 h2;refine(ZlK k0 k1 k6).move (fun n hn=>av n (ao k4 n (ai hn))) (fun n hn=>av n fun q hq=>?_) (fun n hn=>av n (an k3 n (aj hn)));obtain⟨h5,_,h7⟩:=ak q hq;exact ag k5 ab hn h5 h7
   cases az:ZI os i with
   | false=>exact Zpb ab ae az aw a0 au ad hs hfi (hfj j (by simp)) h1 h2
   | true=>
    rcases ay az with hc | ⟨am,hl⟩ | ⟨bc,bd⟩ | ⟨k1,k5,k6⟩ | ⟨k0,k1,k2,k3,k4,k5,k6⟩
    case inr.inr.inr.inl=>
     obtain⟨t,ht⟩:=ah k5 ae;refine Zm9 ab ae aw au ad k1 ht ?_ h1 h2;rw[ht] at k6;simp only[okD] at k6;rw[av t (fun q hq=>?_) k6]
     ·exact k6
     ·obtain⟨_,h6,h7⟩:=ak q hq;exact ag k5 ae ht (by omega) h7
    case inr.inr.inr.inr=>
     obtain⟨t,ht⟩:=ah k5 ae;refine Zm8 hM ab ae aw a0 au (af k3 ae) (af k4 ab) ad hs hfi (hfj j (by simp)) k1 k2 ?_ ht h1 h2;refine(ZlK k0 k1 k6).move (fun n hn=>av n (an k3 n (ai hn))) (fun n hn=>av n fun q hq=>?_) (fun n hn=>av n (ao k4 n (aj hn)));obtain⟨_,h6,h7⟩:=ak q hq;exact ag k5 ae hn (by omega) h7
    ·exact Zpf ab ae hc aw a0 au ad hs hfi (hfj j (by simp)) h1 h2
    ·refine Zm7 ab ae az aw a0 au ad hs hfi (hfj j (by simp)) ⟨am,?_⟩ h1 h2;rcases hl with hl | ⟨be,bf,bg,al⟩
     ·exact .inl hl
     ·refine .inr ⟨be,?_⟩;have a5:∀ x∈Zt oi.op,okW (evO r.1 x)=true→evO s.1 x=evO r.1 x:=by
       intro x hx ax;cases x with
       | v a=>rfl
       | f n=>rfl
       | t n=>
        simp only[evO] at ax ⊢;have hn:n∈XG oi:=by
         rw[XG];exact Kd.2 (.inl (Ks.2 ⟨.t n,hx,Kv.2 rfl⟩))
        refine Zkt a1 (fun q hq=>?_) ax;rcases Kd.1 hq with hq | hq
        ·obtain⟨oq,a3,ap,_⟩:=hj q hq;simp only[QL,Kb] at ap;have h5:=ap.1.1;simp only[VI,a3];cases hd:oq.dst with
         | none=>rfl
         | some d=>
          rw[hd] at h5;simp only[Qi,KO,KM,K0] at h5 ⊢;intro e;simp at e;exact h5 (e ▸ hn)
        ·refine aa bg ab ?_ (hlt q (Kd.2 (.inr hq))) hn;rcases Kf.1 hq with rfl | hq
         ·omega
         ·have:=K5.1 hsort.2;have:=(K7.1 this.2.1).1 q hq;omega
      have a7:∀ id,Qo r.1 id (Zt oj.op)=true→Qo s.1 id (Zt oj.op)=true:=by
       intro id bh;have bi:∀ xs:List Opd,(∀ z∈xs,z∈Zt oj.op)→Qo r.1 id xs=true→Qo s.1 id xs=true:=by
        intro xs
        induction xs with
        | nil=>intro _ _;rfl
        | cons z zs ihz=>
         intro a6 hz;simp only[Qo,Kb] at hz ⊢;refine⟨?_,ihz (fun z' bj=>a6 z' (by simp[bj])) hz.2⟩;cases z with
         | v a=>exact hz.1
         | f n=>exact hz.1
         | t n=>
          simp only[evO] at hz ⊢;have hn:n∈XG oj:=by
           rw[XG];exact Kd.2 (.inl (Ks.2 ⟨.t n,a6 (.t n) (K9 ..),Kv.2 rfl⟩))
          rw[Zqs a1 (fun q hq=>?_) (ZrJ hz.1)]
          ·exact hz.1
          ·refine aa bf ae ?_ (hlt q hq) hn;rcases Kd.1 hq with hq | hq
           ·rcases Kf.1 hq with rfl | hq
            ·omega
            ·have:=hsort.1 q (by simp[hq]);omega
           ·have:=hsort.1 q (by simp only[Kd];exact .inr hq);omega
       exact bi _ (fun _ h=>h) bh
      cases ho:oi.op<;>rw[ho] at am al<;>first | (cases am;done) | skip
      case store slc sz x y=>
       simp only[Zdd,Kb] at al ⊢;obtain⟨al,ar⟩:=al;have ax:okV (evO r.1 x)=true:=by
        cases ht:X8 (evO r.1 x) with
        | none=>rw[ht] at al;simp[ZaA] at al
        | some id=>cases hv:evO r.1 x<;>rw[hv] at ht<;>simp only[X8] at ht<;>first | (cases ht;done) | rfl
       rw[a5 x (by rw[ho];simp[Zt]) (Zf6 ax)];constructor
       ·cases ht:X8 (evO r.1 x) with
        | none=>rw[ht] at al;simp[ZaA] at al
        | some id=>rw[ht] at al;exact a7 id al
       ·by_cases hp:∃ b1 b2 b3 b4,evO r.1 x=.prow b1 b2 b3 b4
        ·obtain⟨b1,b2,b3,b4,hp⟩:=hp;rw[hp] at ar ⊢;rcases Ze9 ar with ⟨d,hv⟩ | hv
         ·rw[a5 y (by rw[ho];simp[Zt]) (by rw[hv];rfl),hv];rfl
         ·rw[a5 y (by rw[ho];simp[Zt]) (Zf6 hv.1)];exact Zpe ⟨hv.1,ZgE a7 hv.2⟩
        ·exact Zku fun b1 b2 b3 b4 e=>hp ⟨b1,b2,b3,b4,e⟩
      case append sz by_ str flat x y=>
       simp only[Zdd,Kb,Lg] at al ⊢;obtain⟨ar,aq⟩:=al;constructor
       ·have ax:okW (evO r.1 x)=true:=by
         cases hv:evO r.1 x<;>rw[hv] at ar<;>first | rfl | (cases ar;done) | skip
         case tup vs=>cases vs<;>first | rfl | cases ar
        rw[a5 x (by rw[ho];simp[Zt]) ax];cases hv:evO r.1 x<;>rw[hv] at ar<;>first | (cases ar;done) | exact a7 _ ar | skip
        ·rfl
        case tup vs=>cases vs<;>first | rfl | cases ar
       ·rcases aq with aq | aq
        ·exact .inl aq
        ·right
         have ax:okW (evO r.1 y)=true:=by
          unfold seenSrc at aq;split at aq
          ·rename_i k hk;rw[hk];rfl
          ·exact Zf6 aq
         rw[a5 y (by rw[ho];simp[Zt]) ax];unfold seenSrc at aq ⊢;split at aq
         ·exact a7 _ aq
         ·exact aq
    ·exact Zph ab ae aw au bc bd h1 h2
  obtain⟨t1,g1,t2,g2,g3⟩:=a4;obtain⟨r3,g4,g5⟩:=ZgC g3.symm h3;refine⟨t1,g1,r3,?_,g5.symm.trans h4⟩;simp only[KL,Zai,g2,Zc];exact g4
def rem (n:Nat) (listed:Array Bool):List Nat:=(List.range n).filter fun i=>!listed.getD i true
theorem ZbS {n:Nat} {aa:Array Bool} {i:Nat}:i∈rem n aa↔i<n∧aa.getD i true=false:=by
 simp[rem]
theorem ZgK (n:Nat) (aa:Array Bool):(rem n aa).Pairwise (· < ·):=List.Pairwise.filter _ List.pairwise_lt_range
theorem ZrM {n:Nat} {aa:Array Bool} (ad:aa.size=n) (i:Nat):rem n (aa.setIfInBounds i true)=(rem n aa).filter fun j=>j != i:=by
 simp only[rem,LX];refine List.filter_congr fun j hj=>?_;have ae:j<n:=Ln.1 hj;by_cases ab:i=j
 ·subst ab;simp[ad,ae]
 ·simp[Array.getElem?_setIfInBounds_ne ab,Ne.symm ab]
def Zjq (nx:Nat) (listed:Array Bool) (id:Nat):Prop:=id<nx∨∃ k,listed.getD k false=true∧nx+64*k≤id∧id<nx+64*k+64
theorem Vx {l:Array Bool} {k:Nat} (h:l.getD k false=true):k<l.size∧l.getD k true=true:=by
 rcases KZ k l.size with h1 | h1
 ·refine⟨h1,?_⟩;simp[h1] at h ⊢;exact h
 ·simp[Array.getElem?_eq_none h1] at h
theorem ZgL {nx i:Nat} {aa:Array Bool} (h:aa.getD i true=false):Qx (Zjq nx aa) (nx+64*i):=by
 intro id h1 h2 hu;rcases hu with hu | ⟨k,hk,h3,h4⟩
 ·omega
 ·have ab:k≠i:=fun e=>by subst e;rw[(Vx hk).2] at h;cases h
  rcases LG ab with h5 | h5<;>omega
theorem ZgM {nx i:Nat} {aa:Array Bool} (hi:i<aa.size):∀ id,Wb (Zjq nx aa) (nx+64*i) id→Zjq nx (aa.setIfInBounds i true) id:=by
 rintro id ((h | ⟨k,hk,h1⟩) | h)
 ·exact .inl h
 ·exact .inr ⟨k,getD_set_true hk,h1⟩
 ·exact .inr ⟨i,by simp[hi],h.1,h.2⟩
end
end Go.Abs
