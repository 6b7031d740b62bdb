import Derived.Test.YtfnegoimdljanaaGreatDoorAbsDrawD
set_option linter.all false
namespace Go.Abs
open Go
section
variable {P:Program} {nt:Nat}
theorem Zlv {α β:Type} {f:α→Option β}:∀ {l:List α} {r:List β},QJ f l=some r→∀ (i:Nat) (x:α),l[i]?=some x→∃ y,r[i]?=some y∧f x=some y
 | [],r,h,i,x,hx=>by simp at hx
 | a :: l,r,h,i,x,hx=>by
  simp only[QJ] at h;obtain⟨y,h1,h⟩:=Za h;obtain⟨ys,h2,h⟩:=Za h;cases h;cases i with
  | zero=>simp at hx;subst hx;exact⟨y,by simp,h1⟩
  | succ i=>simp at hx;obtain⟨z,h3,h4⟩:=Zlv h2 i x hx;exact⟨z,by simpa using h3,h4⟩
theorem Zdm {α β:Type} {f:α→Option β}:∀ {l:List α} {r:List β},QJ f l=some r→r.length=l.length
 | [],r,h=>by simp only[QJ] at h;cases h;rfl
 | a :: l,r,h=>by
  simp only[QJ] at h;obtain⟨y,h1,h⟩:=Za h;obtain⟨ys,h2,h⟩:=Za h;cases h;simp[Zdm h2]
theorem ZyN {C:Orc} {M:Zr} (hC:Qy P C) {ops:Array Oper} {os:List CO} (ad:QJ (ZoT P nt ops.toList) ops.toList=some os) {nx i:Nat} {s s' : Sl×Hp} {U:Nat→Prop} (hs:ZjP nt s U) (hf:Xl U (nx+64*i))
  (h:ZH C M os nx i s=some s'):ZjP nt s' (U8 U (nx+64*i)):=by
 obtain⟨F,A,I,Γ,a,w,aa⟩:=hs;unfold ZH at h;obtain⟨co,ae,h⟩:=Za h;have ag:i<ops.toList.length:=by rw[← Zdm ad];exact(Kc.1 ae).1
 obtain⟨am,h1,h2⟩:=Zlv ad i ops.toList[i] (Kw ag);rw[ae] at h1;cases h1;obtain⟨hg,ah,ab,af⟩:=ZfV h2;unfold ZO at h;obtain⟨b,hw,h⟩:=Za h;cases b with
 | true=>
  simp only[Km] at h;obtain⟨ce,ai,aj,rfl⟩:=XF h;have ak:=ZyK hC aa ah hf ab aj (ZeQ ai) (fun a' w'=>∃ F A I Γ a w,Sim nt F A I Γ (U8 U (nx+64*i)) (ce.on co.dst s.1 s.2).1 (ce.on co.dst s.1 s.2).2 a w) (fun _ _ _=>False) fun u w' hp=>by
   obtain⟨I1,Γ1,b1,b2,b3,b4,b5⟩:=hp;rw[← af] at b5;exact⟨F,A,I1,Γ1,_,_,b5⟩
  obtain⟨_,_,al⟩:=Oper.wp_ex ak;exact al
 | false=>
  simp only[Ka,Kn] at h;cases h;obtain⟨I1,Γ1,b1,b2,b3,b4,b5⟩:=aa.pure (U':=U8 U (nx+64*i)) (v:=.tup []) (u:=undef) (dst:=co.dst) (fun id hu=>.inl hu) ZnI (by rw[af];exact ab);exact⟨F,A,I1,Γ1,_,_,b5⟩
theorem Zt3 {U:Nat→Prop} {nx i j:Nat} (aa:i≠j) (h:Xl U (nx+64*i)):Xl (U8 U (nx+64*j)) (nx+64*i):=by
 intro id h1 h2 hu;rcases hu with hu | hu
 ·exact h id h1 h2 hu
 ·rcases L5 aa with h3 | h3<;>omega
theorem ZEj {id:Nat} {v:AV} (h:Zcg id v=true):okV v=true:=by
 cases v with
 | tup vs=>cases vs with
  | nil=>rfl
  | cons x r=>cases h
 | _=>first | rfl | cases h
def okW (v:AV):Bool:=okV v
theorem Zp7 {v:AV} (h:okV v=true):okW v=true:=h
theorem ZCS {g:List Nat} {v:AV} (h:okW (kill g v)=true):kill g v=v:=ZbZ h
theorem ZEk {C:Orc} {M:Zr} {os:List CO} {nx q n:Nat} {s r:Sl×Hp} (h:ZH C M os nx q s=some r) (hd:QT (UU os q) [n]=true) (hk:okW (gs r.1 n)=true):gs s.1 n=gs r.1 n:=by
 unfold ZH at h;obtain⟨o,ho,h⟩:=Za h;have aa:o.dst≠some n:=by
  intro e;simp[UU,ho,e,QT] at hd
 unfold ZO at h;obtain⟨b,_,h⟩:=Za h;cases b with
 | true=>
  simp only[Km] at h;obtain⟨ce,_,_,rfl⟩:=XF h;have e1:gs (ce.on o.dst s.1 s.2).1 n=kill ce.gone (gs s.1 n):=by
   show gs (Zs (Xn ce.gone s.1) o.dst ce.eff.val) n=_;rw[QG,Kd aa,QW]
  rw[e1] at hk ⊢;exact(ZCS hk).symm
 | false=>
  simp only[Ka,Kn] at h;cases h;show gs s.1 n=gs (Zs s.1 o.dst (.tup [])) n;rw[QG,Kd aa]
theorem Zvy {C:Orc} {M:Zr} {os:List CO} {nx n:Nat}:∀ {l:List Nat} {s r:Sl×Hp},runL C M os nx l s=some r→(∀ q∈l,QT (UU os q) [n]=true)→okW (gs r.1 n)=true→gs s.1 n=gs r.1 n
 | [],s,r,h,_,_=>by simp only[runL] at h;cases h;rfl
 | i :: l,s,r,h,hd,hk=>by
  simp only[runL] at h;obtain⟨s1,h1,h⟩:=Za h;have h2:=Zvy h (fun q hq=>hd q (by simp[hq])) hk;rw[← h2] at hk ⊢;exact ZEk h1 (hd i (by simp)) hk
theorem ZCT {C:Orc} {M:Zr} {os:List CO} {nx n:Nat} {l:List Nat} {s r:Sl×Hp} (h:runL C M os nx l s=some r) (hd:∀ q∈l,QT (UU os q) [n]=true) (hk:okV (gs r.1 n)=true):gs s.1 n=gs r.1 n:=Zvy h hd (Zp7 hk)
theorem ZyO {C:Orc} {M:Zr} {sl:Sl} {hp:Hp} {base:Nat} {c:COp} {ce:Zf} (hc:Zza c=true) (h:vop C M sl hp base c=some ce):Zci (vop C M sl hp base c)=some ce:=by
 rw[h];have aa:ce.gone=[]∧ce.eff.sets=[]∧ce.eff.dels=[]∧ce.eff.frz=[]:=by
  have o1:∀ {v:AV},QR v=some ce→ce.gone=[]∧ce.eff.sets=[]∧ce.eff.dels=[]∧ce.eff.frz=[]:=fun h=>by cases h;exact⟨rfl,rfl,rfl,rfl⟩
  have o2:∀ {v:Option AV},Wd v=some ce→ce.gone=[]∧ce.eff.sets=[]∧ce.eff.dels=[]∧ce.eff.frz=[]:=fun h=>by obtain⟨v,_,h⟩:=Za h;exact o1 h
  cases c<;>simp only[Zza,Ka] at hc<;>simp only[vop] at h
  case stuck=>cases h
  case move x=>exact o1 h
  case assign s x=>
   unfold ZfH at h;split at h
   ·obtain⟨s,_,h⟩:=Za h;cases h;exact⟨rfl,rfl,rfl,rfl⟩
   ·exact o1 h
  case pick c a b=>
   unfold ZhI at h;split at h
   ·split at h<;>exact o1 h
   ·cases h
  case alloc slc cs=>
   unfold ZhJ Zrb at h;split at h
   ·split at h<;>first | (cases h;done) | (cases h;exact⟨rfl,rfl,rfl,rfl⟩)
   ·split at h<;>(cases h;exact⟨rfl,rfl,rfl,rfl⟩)
  case box x=>
   unfold ZBO at h;split at h
   ·cases h;exact⟨rfl,rfl,rfl,rfl⟩
   ·cases h
  case build zs ps=>obtain⟨cs,_,h⟩:=Za h;exact o1 h
  case load g s a=>exact o2 h
  case nilCheck x=>unfold Zaa at h;split at h<;>first | exact o1 h | cases h
  case bin op eq x y=>
   unfold Zpu at h;split at h
   ·split at h
    ·exact o2 h
    ·cases h
   ·exact o2 h
  case un op x=>exact o2 h
  case eqA neg n x y=>
   unfold ZvR at h;split at h
   ·obtain⟨r,_,h⟩:=Za h;exact o1 h
   ·cases h
  case convI k x=>unfold Go.Abs.convI at h;split at h<;>first | exact o1 h | cases h
  case convS x=>unfold Go.Abs.convS at h;split at h<;>first | exact o1 h | cases h
  case fn f cs=>exact o2 h
  case make s b z l c=>
   obtain⟨l,_,h⟩:=Za h;obtain⟨c,_,h⟩:=Za h;unfold Zuv at h;split at h
   ·cases h;exact⟨rfl,rfl,rfl,rfl⟩
   ·cases h
  case slice s x lo hi=>exact o2 h
  case sliceS x lo hi=>exact o2 h
  case slice0 x hi mx=>exact o2 h
  case slice3 s x lo hi mx=>exact o2 h
  case shift off x=>unfold Wo at h;split at h<;>first | exact o1 h | cases h
  case part g s off x=>exact o2 h
  case iaS s x i=>
   obtain⟨n,_,h⟩:=Za h;unfold ZjX at h;split at h
   ·exact o2 h
   ·cases h
  case iaA len s x i=>
   obtain⟨n,_,h⟩:=Za h;unfold Zre at h;split at h
   ·unfold Wo at h;split at h<;>first | exact o1 h | cases h
   ·cases h
  case ixS x i=>
   obtain⟨n,_,h⟩:=Za h;unfold Zy7 at h;split at h
   ·unfold Zxj at h;split at h
    ·obtain⟨b,_,h⟩:=Za h;exact o1 h
    ·cases h
   ·cases h
  case ixA g s len x i=>
   obtain⟨n,_,h⟩:=Za h;unfold ZBQ at h;split at h
   ·exact o2 h
   ·cases h
  case nth i x=>unfold Zxk at h;split at h<;>first | exact o2 h | cases h
  case len x=>obtain⟨n,_,h⟩:=Za h;exact o1 h
  case lenS x=>obtain⟨n,_,h⟩:=Za h;exact o1 h
  case min x y=>unfold ZoQ at h;split at h<;>first | (split at h<;>first | exact o1 h | cases h) | cases h
  case max x y=>unfold ZoR at h;split at h<;>first | (split at h<;>first | exact o1 h | cases h) | cases h
 simp only[Zci,Zh,aa.1,aa.2.1,aa.2.2.1,aa.2.2.2,ZfP]
theorem ZBl {C:Orc} {M:Zr} {nx i:Nat} {o:CO} (hc:Zza o.op=true) (s:Sl×Hp):ZO C M nx i true o s=ZO C M nx i false o s:=by
 unfold ZO;have:We C M nx i true o.op s.1 s.2=We C M nx i false o.op s.1 s.2:=by
  unfold We;simp only[Km,Ka,Kn];cases h:vop C M s.1 s.2 (nx+64*i) o.op with
  | none=>rfl
  | some ce=>rw[← h,ZyO hc h,h]
 rw[this]
theorem Zt4 {A B:Hp} (hd:∀ k x y,(k,x)∈A→(k,y)∈B→False) (hp:Hp) (id:Nat):lkp (Zi (Zi hp A) B) id=lkp (Zi (Zi hp B) A) id:=by
 have aa:∀ (l:Hp) (hp hp' : Hp),lkp hp id=lkp hp' id→lkp (Zi hp l) id=lkp (Zi hp' l) id:=by
  intro l
  induction l with
  | nil=>intro hp hp' h;exact h
  | cons q r ih=>
   intro hp hp' h;obtain⟨k,x⟩:=q;simp only[Zi];exact ih _ _ (by rw[Qn,Qn,h])
 by_cases h1:∃ o,(id,o)∈A
 ·have h2:∀ o,(id,o)∉B:=fun o ho=>by
   obtain⟨o',ab⟩:=h1;exact hd id o' o ab ho
  rw[ZD B _ id h2];exact aa A _ _ (ZD B hp id h2).symm
 ·have h2:∀ o,(id,o)∉A:=fun o ho=>h1 ⟨o,ho⟩;rw[ZD A _ id h2];exact aa B _ _ (ZD A hp id h2)
theorem ZwK {hp:Hp} {v:AV} {q:D×Bool×List Nat} (h:Zbn hp v=some q):∀ i∈q.2.2,i∈Zq v:=by
 intro i hi;cases v<;>simp only[Zbn] at h<;>first | (cases h;simp at hi;done) | (cases h;done) | skip
 obtain⟨p,_,h⟩:=Za h;cases h;simpa [Zq] using hi
theorem Zox {hp:Hp}:∀ {vs:List AV} {q:List D×Bool×List Nat},V3 hp vs=some q→∀ i∈q.2.2,i∈vs.flatMap Zq
 | [],q,h,i,hi=>by simp only[V3] at h;cases h;simp at hi
 | v :: vs,q,h,i,hi=>by
  simp only[V3] at h;obtain⟨q1,h1,h⟩:=Za h;obtain⟨q2,h2,h⟩:=Za h;split at h
  ·cases h;rcases Kj.1 hi with hi | hi
   ·exact KC.2 ⟨v,by simp,ZwK h1 i hi⟩
   ·obtain⟨c,hc,aa⟩:=KC.1 (Zox h2 i hi);exact KC.2 ⟨c,by simp[hc],aa⟩
  ·cases h
theorem ZwL {hp:Hp} {n:Nat} {v:AV} {q:D×List Nat} (h:ZhD hp n v=some q):∀ i∈q.2,i∈Zq v:=by
 unfold ZhD at h;split at h
 ·split at h
  ·cases h;simp
  ·cases h
 ·cases h;simp
 ·unfold Zje at h;split at h
  ·split at h
   ·cases h;simp[Zq]
   ·cases h
  ·split at h
   ·cases h;simp[Zq]
   ·cases h
  ·cases h
 ·cases h
theorem Zoy {hp:Hp} {n:Nat}:∀ {vs:List AV} {q:List D×List Nat},V4 hp n vs=some q→∀ i∈q.2,i∈vs.flatMap Zq
 | [],q,h,i,hi=>by simp only[V4] at h;cases h;simp at hi
 | v :: vs,q,h,i,hi=>by
  simp only[V4] at h;obtain⟨q1,h1,h⟩:=Za h;obtain⟨q2,h2,h⟩:=Za h;split at h
  ·cases h;rcases Kj.1 hi with hi | hi
   ·exact KC.2 ⟨v,by simp,ZwL h1 i hi⟩
   ·obtain⟨c,hc,aa⟩:=KC.1 (Zoy h2 i hi);exact KC.2 ⟨c,by simp[hc],aa⟩
  ·cases h
theorem ZBm {hp:Hp} {slc:List (Option Nat)} {s base:Nat} {vs:List AV} {x:AV} {e:Eff} (h:ZaY hp slc s base vs x=some e):∃ id o,VH x=some id∧e.val=.junk∧e.sets=[(id,o)]∧(∀ k∈e.dels,k∈vs.flatMap Zq∧∃ a b c d,x=.prow a b c d)∧∀ i∈e.frz,i∈vs.flatMap Zq:=by
 cases x<;>simp only[ZaY] at h<;>first | cases h | skip
 case ptr id off=>
  unfold ZhC at h;split at h
  ·split at h
   ·split at h<;>(cases h;exact⟨id,_,rfl,rfl,rfl,fun i hi=>by simp at hi,fun i hi=>by simp at hi⟩)
   ·cases h
  ·cases h
 case prow id sz i off=>
  unfold Zb7 at h;split at h
  ·split at h
   ·obtain⟨x,_,h⟩:=Za h;obtain⟨q,hq,h⟩:=Za h;unfold Zjd at h;split at h
    ·cases h;exact⟨id,_,rfl,rfl,rfl,fun i hi=>by simp at hi,Zox hq⟩
    ·cases h
   ·cases h
  ·split at h
   ·obtain⟨x,_,h⟩:=Za h;obtain⟨q,hq,h⟩:=Za h;unfold Zjf at h;split at h
    ·cases h;exact⟨id,_,rfl,rfl,rfl,fun k hk=>⟨Zoy hq k hk,_,_,_,_,rfl⟩,fun i hi=>by simp at hi⟩
    ·cases h
   ·cases h
  ·cases h
def FzEq (o o' : Option Zm):Prop:=∃ b:Bool,o'=o.map fun x=>if b then Vr x else x
theorem FzEq.seen {o o' : Option Zm} (h:FzEq o o'):Zbk [] o o':=by
 obtain⟨b,rfl⟩:=h;have hk:∀ x:Zm,XE [] x=x:=fun x=>by
  cases x with
  | box cs=>simp only[XE];congr 1;rw[K3 (g:=id) (fun a _=>ZeO a),LL]
  | row _ _ _ _=>rfl
  | gone=>rfl
  | tree _ _ _ l=>rcases l with _ | ⟨_ | _,_⟩<;>simp[XE,Wm]
 have:=Zw2 (g:=[]) (b:=b) o;have e:(o.map (XE []))=o:=by cases o<;>simp[hk]
 rw[e] at this;exact this
theorem vop_fz {C:Orc} {M:Zr} {sl:Sl} {hp hp' : Hp} {base:Nat} {c:COp} (hc:Jj c=true) (h:∀ x∈ZF c,∀ k∈Zy (evO sl x),FzEq (lkp hp k) (lkp hp' k)):vop C M sl hp' base c=vop C M sl hp base c:=by
 have hs:∀ x∈ZF c,ZlE [] hp hp' (evO sl x):=fun x hx k hk=>(h x hx k hk).seen;cases c<;>simp only[Jj,Ka] at hc<;>simp only[ZF] at h hs<;>simp only[vop]
 case load g s a=>
  have h1:=h a (by simp);have h2:=hs a (by simp);cases hv:evO sl a<;>rw[hv] at h1 h2<;>simp only[Ue]
  case ptr id off=>
   obtain⟨b,e⟩:=h1 id (by simp[Zy,ZC,Zq]);rw[e];cases lkp hp id with
   | none=>rfl
   | some o=>cases o<;>cases b<;>rfl
  case prow id sz i off=>
   obtain⟨b,e⟩:=h1 id (by simp[Zy,ZC,Zq]);rw[e];cases lkp hp id with
   | none=>rfl
   | some o=>cases o<;>cases b<;>rfl
 case slice s x lo hi=>rw[Zhv (hs x (by simp))]
 case slice0 x hi mx=>unfold slice0;rw[ZeS (hs x (by simp))]
 case iaS s x i=>
  congr 1
  funext n
  simp only[ZjX];rw[ZaX (hs x (by simp))]
 case len x=>rw[ZeS (hs x (by simp))]
def Zlw (sl:Sl) (a:COp):COp→Bool
 | .store _ _ x y=>ZfN sl a (VH (evO sl x))&&VZ sl a (evO sl x) (evO sl y)
 | .append _ _ _ flat x y=>Jk sl a (evO sl x)&&(flat || seenSrc sl a (evO sl y))
 | _=>false
def LooseS (s:Sl) (a b:COp):Prop:=Zri b=true∧(Wp a=true∨(Jj a=true∧Zlw s a b=true))
theorem Zhr {sl:Sl} {id:Nat}:∀ {xs:List Opd},Q3 sl id xs=true→∀ x∈xs,Zcg id (evO sl x)=true
 | [],_,x,hx=>by simp at hx
 | y :: ys,h,x,hx=>by
  simp only[Q3,Kf] at h;rcases Ke.1 hx with rfl | hx
  ·exact h.1
  ·exact Zhr h.2 x hx
theorem Zoz {sl:Sl} {xs:List Opd}:∀ {ks:List Nat},Yd sl xs ks=true→∀ k∈ks,Q3 sl k xs=true
 | [],_,k,hk=>by simp at hk
 | j :: r,h,k,hk=>by
  simp only[Yd,Kf] at h;rcases Ke.1 hk with rfl | hk
  ·exact h.1
  ·exact Zoz h.2 k hk
theorem ZoA {sl:Sl} {a:COp} {b1 b2 b3 b4:Nat} {v:AV} (h:VZ sl a (.prow b1 b2 b3 b4) v=true):(∃ d,v=.d d)∨(okV v=true∧Yd sl (ZF a) (Zy v)=true):=by
 cases v<;>first | exact .inl ⟨_,rfl⟩ | (simp only[VZ,Kf] at h;exact .inr h)
theorem ZBn {sl:Sl} {a:COp} {b1 b2 b3 b4:Nat} {v:AV} (h:okV v=true∧Yd sl (ZF a) (Zy v)=true):VZ sl a (.prow b1 b2 b3 b4) v=true:=by
 cases v<;>first | rfl | (simp only[VZ,Kf];exact h)
theorem Zvz {sl:Sl} {a:COp} {x v:AV} (hx:∀ a b c d,x≠.prow a b c d):VZ sl a x v=true:=by
 cases x<;>first | rfl | exact absurd rfl (hx _ _ _ _)
theorem Zqz {sl sl' : Sl} {xs:List Opd} (h:∀ k,Q3 sl k xs=true→Q3 sl' k xs=true):∀ {ks:List Nat},Yd sl xs ks=true→Yd sl' xs ks=true
 | [],_=>rfl
 | j :: r,hh=>by
  simp only[Yd,Kf] at hh ⊢;exact⟨h j hh.1,Zqz h hh.2⟩
theorem ZqA {id:Nat} {v:AV} (h:Zcg id v=true):id∉Zy v:=by
 cases v with
 | tup vs=>cases vs with
  | nil=>simp[Zy]
  | cons x r=>cases h
 | _=>simp[Zcg,Zy,ZC,Zq] at h ⊢ <;> exact fun e=>h e.symm
theorem ZyP {hp:Hp} {sz by_ base:Nat} {str flat:Bool} {x y:AV} {e:Eff} (h:Jg hp sz by_ str flat base x y=some e):e.sets=[]∧e.frz=[]∧((x=.nil∧e.dels=[])∨∃ id,e.dels=[id]∧(x=.own id∨∃ o n,x=.ownv id o n)):=by
 unfold Jg at h;obtain⟨q,_,h⟩:=Za h;split at h
 ·cases x<;>simp only[ZjW] at h<;>first | (cases h;done) | skip
  ·split at h
   ·cases h;exact⟨rfl,rfl,.inl ⟨rfl,rfl⟩⟩
   ·cases h
  ·split at h
   ·cases h
   ·unfold Zra at h;split at h
    ·split at h
     ·cases h;exact⟨rfl,rfl,.inr ⟨_,rfl,.inl rfl⟩⟩
     ·cases h
    ·cases h
  ·split at h
   ·split at h
    ·cases h
    ·unfold ZlP at h;split at h
     ·split at h
      ·cases h;exact⟨rfl,rfl,.inr ⟨_,rfl,.inr ⟨_,_,rfl⟩⟩⟩
      ·cases h
     ·cases h
   ·split at h
    ·unfold ZlO at h;split at h
     ·split at h
      ·cases h;exact⟨rfl,rfl,.inr ⟨_,rfl,.inr ⟨_,_,rfl⟩⟩⟩
      ·cases h
     ·cases h
    ·unfold ZlN at h;split at h
     ·split at h
      ·cases h;exact⟨rfl,rfl,.inr ⟨_,rfl,.inr ⟨_,_,rfl⟩⟩⟩
      ·cases h
     ·cases h
 ·cases h
theorem ZqB {hp:Hp} {x:AV} {k:Nat} (h:k∈X7 hp x):x=.own k:=by
 unfold X7 at h;split at h
 ·split at h
  ·simp at h;subst h;rfl
  ·simp at h
 ·simp at h
theorem ZwM {hp:Hp} {sz by_ base:Nat} {str flat:Bool} {x y:AV} {e:Eff}:∀ {ms:List Nat},(∀ k∈ms,x=.own k∨y=.own k)→Vu hp sz by_ str flat base x y ms=some e→e.frz=[] ∧
  e.sets=[]∧∀ k∈e.dels,(x=.own k∨∃ o n,x=.ownv k o n)∨(flat=false∧y=.own k):=by
 have plain:∀ {hp' : Hp} {e:Eff},Jg hp' sz by_ str flat base x y=some e→e.sets=[]∧e.frz=[]∧∀ k∈e.dels,x=.own k∨∃ o n,x=.ownv k o n:=by
  intro hp' e h;obtain⟨g1,g2,g3⟩:=ZyP h;refine⟨g1,g2,fun k hk=>?_⟩;rcases g3 with ⟨_,g3⟩ | ⟨id,g3,g4⟩
  ·rw[g3] at hk;simp at hk
  ·rw[g3] at hk;simp at hk;subst hk;exact g4
 intro ms hm h;cases ms with
 | nil=>
  simp only[Vu] at h;obtain⟨g1,g2,g3⟩:=plain h;exact⟨g2,g1,fun k hk=>.inl (g3 k hk)⟩
 | cons i r=>
  simp only[Vu] at h;split at h
  ·cases h
  ·rename_i aa;obtain⟨e0,h1,h⟩:=Za h;cases h;obtain⟨g1,g2,g3⟩:=plain h1;refine⟨g2,g1,fun k hk=>?_⟩;rcases Kj.1 hk with hk | hk
   ·exact .inl (g3 k hk)
   ·rcases hm k hk with hk | hk
    ·exact .inl (.inl hk)
    ·exact .inr ⟨by simpa using aa,hk⟩
theorem ZCU {hp:Hp} {sz by_ base:Nat} {x y:AV} {ce:Zf} (h:appT hp sz by_ base x y=some ce):ce.gone=[]∧ce.eff.frz=[]∧ce.eff.sets=[]∧∀ k∈ce.eff.dels,x=.own k∨y=.own k:=by
 unfold appT at h;obtain⟨e,h1,h⟩:=Za h;cases h;obtain⟨q,h2,h1⟩:=Za h1;have hy:y=.own q.1:=by
  unfold Zds at h2;split at h2
  ·obtain⟨q2,_,h2⟩:=Za h2;cases h2;rfl
  ·cases h2
 split at h1
 ·cases x<;>simp only[Zbv] at h1<;>first | (cases h1;done) | skip
  ·split at h1
   ·cases h1;exact⟨rfl,rfl,rfl,fun k hk=>by simp at hk;subst hk;exact .inr hy⟩
   ·cases h1
  ·obtain⟨q3,_,h1⟩:=Za h1;split at h1
   ·cases h1;refine⟨rfl,rfl,rfl,fun k hk=>?_⟩;simp at hk;rcases hk with rfl | rfl
    ·exact .inl rfl
    ·exact .inr hy
   ·cases h1
 ·cases h1
theorem ZwN {hp:Hp} {sz by_ base:Nat} {str flat:Bool} {x y:AV} {ce:Zf} (h:Zxl hp sz by_ str flat base x y=some ce):ce.gone=[]∧ce.eff.frz=[] ∧
  ce.eff.sets=[]∧∀ k∈ce.eff.dels,(x=.own k∨∃ o n,x=.ownv k o n)∨(flat=false∧y=.own k):=by
 have kx:∀ k∈X7 hp x,x=.own k∨y=.own k:=fun k hk=>.inl (ZqB hk);have ky:∀ k∈X7 hp y,x=.own k∨y=.own k:=fun k hk=>.inr (ZqB hk);have melt:∀ {ms:List Nat},(∀ k∈ms,x=.own k∨y=.own k)→Zhk (Vu hp sz by_ str flat base x y ms)=some ce→ce.gone=[]∧ce.eff.frz=[] ∧
   ce.eff.sets=[]∧∀ k∈ce.eff.dels,(x=.own k∨∃ o n,x=.ownv k o n)∨(flat=false∧y=.own k):=by
  intro ms hm h;obtain⟨e,h1,h⟩:=Za h;cases h;exact⟨rfl,ZwM hm h1⟩
 unfold Zxl at h;generalize X7 hp x=mx at h kx;generalize X7 hp y=my at h ky;cases mx with
 | nil=>exact melt ky h
 | cons i r=>
  cases my with
  | nil=>exact melt kx h
  | cons j t=>
   simp only[ZdT] at h;split at h
   ·cases h
   ·rename_i hc;obtain⟨g1,g2,g3,g4⟩:=ZCU h;have hf:flat=false:=by cases flat<;>simp_all
    exact⟨g1,g2,g3,fun k hk=>(g4 k hk).elim (fun e=>.inl (.inl e)) fun e=>.inr ⟨hf,e⟩⟩
theorem ZqC {ds:List Nat} {l:Hp} {k:Nat} (h:k∈ds):lkp (Qe l ds) k=none:=by
 cases hl:lkp (Qe l ds) k with
 | none=>rfl
 | some o=>exact absurd h (Ws ds l k o hl).2
theorem ZEl {C:Orc} {M:Zr} {sl:Sl} {hp:Hp} {base:Nat} {c:COp} {ce:Zf} (hc:Zri c=true) (h:vop C M sl hp base c=some ce) :
  ce.gone=[]∧(∀ k,k∈ce.eff.dels∨(∃ o,(k,o)∈ce.eff.sets)→(∃ x∈ZF c,k∈Zy (evO sl x))∧∀ a,Zlw sl a c=true→Q3 sl k (ZF a)=true)∧∀ k∈ce.eff.frz,∃ x∈ZF c,k∈Zy (evO sl x):=by
 cases c<;>first | (cases hc;done) | skip
 case store slc sz x y=>
  simp only[vop,Zhk] at h;obtain⟨e,h7,h⟩:=Za h;cases h;obtain⟨id,o,ht,g1,g2,g3,g4⟩:=ZBm h7;refine⟨rfl,fun k hk=>?_,fun k hk=>⟨y,by simp[ZF],ZqJ (U:=fun k=>k∈Zy (evO sl y)) (fun _ h=>h) k (g4 k hk)⟩⟩;rcases hk with hk | ⟨o',hk⟩
  ·obtain⟨k1,b1,b2,b3,b4,k2⟩:=g3 k hk;have k3:=ZqJ (U:=fun k=>k∈Zy (evO sl y)) (fun _ h=>h) k k1;refine⟨⟨y,by simp[ZF],k3⟩,fun a ha=>?_⟩;simp only[Zlw,Kf,k2] at ha;rcases ZoA ha.2 with ⟨d,hv⟩ | hv
   ·rw[hv] at k3;simp[Zy,ZC,Zq] at k3
   ·exact Zoz hv.2 k k3
  ·simp only[g2,KD,Prod.mk.injEq] at hk;have aa:=hk.1;subst aa;refine⟨⟨x,by simp[ZF],?_⟩,fun a ha=>?_⟩
   ·cases hv:evO sl x<;>rw[hv] at ht<;>simp only[VH] at ht<;>cases ht<;>simp[Zy,ZC,Zq]
   ·simp only[Zlw,Kf,ht,ZfN] at ha;exact ha.1
 case append sz by_ str flat x y=>
  simp only[vop] at h;obtain⟨g0,g2,g1,g3⟩:=ZwN h;refine⟨g0,fun k hk=>?_,fun k hk=>by simp only[g2,Kx] at hk⟩;have ab:k∈ce.eff.dels:=by
   rcases hk with hk | ⟨o',hk⟩
   ·exact hk
   ·simp only[g1,Kx] at hk
  rcases g3 k ab with g4 | ⟨g4,g5⟩
  ·refine⟨⟨x,by simp[ZF],?_⟩,fun a ha=>?_⟩
   ·rcases g4 with g4 | ⟨o,n,g4⟩<;>rw[g4]<;>simp[Zy,ZC,Zq]
   ·simp only[Zlw,Kf] at ha;rcases g4 with g4 | ⟨o,n,g4⟩<;>rw[g4] at ha<;>exact ha.1
  ·refine⟨⟨y,by simp[ZF],by rw[g5];simp[Zy,ZC,Zq]⟩,fun a ha=>?_⟩;simp only[Zlw,Kf,g4,LU] at ha;rw[g5] at ha;exact ha.2
theorem ZyQ {C:Orc} {M:Zr} {os:List CO} {nx i j:Nat} {oi oj:CO} (ae:os[i]?=some oi) (ak:os[j]?=some oj) (ar:ZX os i=true) (am:ZX os j=false) (a3:i≠j) (au:XL oj oi=true)
  (an:∀ (k:Nat) (o:CO),os[k]?=some o→∀ x∈ZF o.op,Y6 x=true) {s s1 s2:Sl×Hp} {U:Nat→Prop} (hs:ZjP nt s U) (a4:Xl U (nx+64*i)) (av:Xl U (nx+64*j)) (hl:LooseS s.1 oj.op oi.op)
  (h1:ZH C M os nx j s=some s1) (h2:ZH C M os nx i s1=some s2):∃ t1,ZH C M os nx i s=some t1∧∃ t2,ZH C M os nx j t1=some t2∧X0 t2 s2:=by
 obtain⟨F,A,I,Γ,a,w,ag⟩:=hs;simp only[XL,Kf] at au;obtain⟨⟨aw,ax⟩,al⟩:=au;have good:∀ (k:Nat) (o:CO),os[k]?=some o→∀ x∈ZF o.op,ZlA U (evO s.1 x):=by
  intro k o ho x hx;cases x with
  | t n=>exact ag.good n
  | v y=>exact U5 (an k o ho _ hx)
  | f n=>exact⟨fun id a5=>by simp[evO,Zy,ZC] at a5,fun f a6 h c hc=>by cases h;simp at hc⟩
 simp only[ZH,ak,Zh,am] at h1;simp only[ZH,ae,Zh,ar] at h2;obtain⟨vj,aj,rfl,ao,ay⟩:=ZkG h1;obtain⟨a7,hl⟩:=hl;unfold ZO at h2;obtain⟨b,hw,h2⟩:=Za h2;have az : Z2 s.1 oi.guard=some b:=by rw[← hw];exact(QH aw).symm
 cases b with
 | false=>
  simp only[Ka,Kn] at h2;cases h2;refine⟨(Zs s.1 oi.dst (.tup []),s.2),by simp only[ZH,ae,Zh,ZO,az,Ka,Kn],?_⟩;have e2:=ay (Zs s.1 oi.dst (.tup []),s.2) (QH al) (Xw C M s.2 (nx+64*j) (Wj (o:=oj) al));exact⟨(Zs (Zs s.1 oi.dst (.tup [])) oj.dst vj,Zi s.2 aj),by simp only[ZH,ak,Zh,am];exact e2,fun t=>(Uc ax vj (.tup []) t).symm,fun id=>rfl⟩
 | true=>
  simp only[Km] at h2;obtain⟨ce,h3,h4,rfl⟩:=XF h2;have a0 : vop C M s.1 s.2 (nx+64*i) oi.op=some ce:=by
   have h5:=ZeQ h3;rw[← h5,Xw C M (Zi s.2 aj) (nx+64*i) (Wj (o:=oi) aw)];exact J5 (ag.agree (Wk av ao s.2)) C M _ (good i oi ae)
  have aa:=UX h4;obtain⟨k1,k2,k3⟩:=ZEl a7 a0;obtain⟨e,gn⟩:=ce;simp only at k1 k2 k3;subst k1;have ap:∀ k∈e.frz,U k:=fun k hk=>by
   obtain⟨x,hx,hk⟩:=k3 k hk;exact(good i oi ae x hx).1 k hk
  have ah:∀ k,k∈e.dels∨(∃ o,(k,o)∈e.sets)→U k:=fun k hk=>by
   obtain⟨⟨x,hx,hk⟩,_⟩:=k2 k hk;exact(good i oi ae x hx).1 k hk
  have ai:∀ s:Sl×Hp,Zf.on { eff:=e,gone:=[] } oi.dst s.1 s.2=(Zs s.1 oi.dst e.val,Zi (Zi (Qe (Qq e.frz s.2) e.dels) e.sets) e.adds):=by
   intro s;rfl
  refine⟨Zf.on { eff:=e,gone:=[] } oi.dst s.1 s.2,?_,?_⟩
  ·simp only[ZH,ae,Zh,ZO,az,Km,YM,ar,We];rw[a0,Zh,Kg h4]
  ·have ab:∀ k,U k→¬(k∈e.dels∨∃ o,(k,o)∈e.sets)→FzEq (lkp s.2 k) (lkp (Zi (Zi (Qe (Qq e.frz s.2) e.dels) e.sets) e.adds) k):=by
    intro k hk aq;rw[not_or] at aq;rw[← Wk a4 aa _ k hk,ZD _ _ k (fun o ho=>aq.2 ⟨o,ho⟩),Ub _ _ k aq.1,Ql];exact⟨_,rfl⟩
   have e2:ZO C M nx j false oj (Zf.on { eff:=e,gone:=[] } oi.dst s.1 s.2)=some (Zs (Zf.on { eff:=e,gone:=[] } oi.dst s.1 s.2).1 oj.dst vj,Zi (Zf.on { eff:=e,gone:=[] } oi.dst s.1 s.2).2 aj):=by
    rw[ai];refine ay (Zs s.1 oi.dst e.val,Zi (Zi (Qe (Qq e.frz s.2) e.dels) e.sets) e.adds) (QH al) ?_;rw[Xw C M _ (nx+64*j) (Wj (o:=oj) al)];rcases hl with hl | ⟨a8,a9⟩
    ·exact ZlF hl
    ·refine vop_fz a8 fun z hz k hk=>?_;refine ab k ((good j oj ak z hz).1 k hk) fun hp=>?_;exact ZqA (Zhr ((k2 k hp).2 _ a9) z hz) hk
   refine⟨_,by simp only[ZH,ak,Zh,am];exact e2,fun t=>?_,fun k=>?_⟩
   ·rw[ai,ai (Zs s.1 oj.dst vj,Zi s.2 aj)];exact(Uc ax vj e.val t).symm
   ·rw[ai,ai (Zs s.1 oj.dst vj,Zi s.2 aj)];show lkp (Zi (Zi (Zi (Qe (Qq e.frz s.2) e.dels) e.sets) e.adds) aj) k=lkp (Zi (Zi (Qe (Qq e.frz (Zi s.2 aj)) e.dels) e.sets) e.adds) k;have a1:∀ (B:Hp) (hp hp' : Hp),(∀ k,lkp hp k=lkp hp' k)→∀ k,lkp (Zi hp B) k=lkp (Zi hp' B) k:=fun B hp hp' h=>Zbr B h;have ad:∀ k,U k→∀ o',(k,o')∉aj:=fun k hk o' af=>by
     have:=ao k o' af;exact av k this.1 this.2 hk
    rw[Zt4 (A:=e.adds) (B:=aj) (fun k x y hx hy=>by
     have:=aa k x hx;have:=ao k y hy;rcases L5 a3 with h | h<;>omega)]
    refine a1 e.adds _ _ (fun k=>?_) k;rw[Zt4 (A:=e.sets) (B:=aj) (fun k x y hx hy=>ad k (ah k (.inr ⟨x,hx⟩)) y hy) (Qe (Qq e.frz s.2) e.dels) k];refine a1 e.sets _ _ (fun k=>?_) k;by_cases hd:k∈e.dels
    ·rw[ZD aj _ k (ad k (ah k (.inl hd))),ZqC hd,ZqC hd]
    ·rw[Ub _ _ k hd];rw[Ql];by_cases hk:∃ o',(k,o')∈aj
     ·obtain⟨o',af⟩:=hk;rw[Zb0 (hp':=s.2) ⟨o',af⟩];have a':k∉e.frz:=fun hf=>ad k (ap k hf) o' af;cases lkp (Zi s.2 aj) k<;>simp[a']
     ·have a2 : ∀ o',(k,o')∉aj:=fun o' af=>hk ⟨o',af⟩;rw[ZD aj _ k a2,ZD aj _ k a2,Ub _ _ k hd,Ql]
theorem ZBo {C:Orc} {M:Zr} {os:List CO} {nx i j:Nat} {oi oj:CO} (ab:os[i]?=some oi) (ad:os[j]?=some oj) (ae:Zza oi.op=true) (af:ZX os j=false) (ag:i≠j) (ah:XL oj oi=true)
  (aa:∀ (k:Nat) (o:CO),os[k]?=some o→∀ x∈ZF o.op,Y6 x=true) {s s1 s2:Sl×Hp} {U:Nat→Prop} (hs:ZjP nt s U) (ai:Xl U (nx+64*i)) (aj:Xl U (nx+64*j))
  (h1:ZH C M os nx j s=some s1) (h2:ZH C M os nx i s1=some s2):∃ t1,ZH C M os nx i s=some t1∧∃ t2,ZH C M os nx j t1=some t2∧X0 t2 s2:=by
 have e:∀ s:Sl×Hp,ZH C M os nx i s=ZO C M nx i false oi s:=fun s=>by
  simp only[ZH,ab,Zh];cases ZX os i
  ·rfl
  ·exact ZBl ae s
 rw[e] at h2;simp only[e];exact ZqR ab ad af ag ah aa hs ai aj h1 h2
theorem ZvA {hp:Hp} {base s:Nat} {vs:List AV} {ce:Zf} (h:buildSl hp base s vs=some ce):ce.gone=[]:=by
 cases vs with
 | nil=>simp only[buildSl,QR] at h;first | (cases h;rfl) | (split at h<;>first | (cases h;rfl) | cases h)
 | cons v r=>
  simp only[buildSl] at h;obtain⟨q,_,h⟩:=Za h;unfold ZBP at h;split at h
  ·cases h;rfl
  ·cases h
theorem ZwO {C:Orc} {M:Zr} {sl:Sl} {hp:Hp} {base:Nat} {c:COp} {ce:Zf} (hc:ZfL c=true) (h:vop C M sl hp base c=some ce):ce.gone=[]:=by
 cases c<;>first | (cases hc;done) | skip
 ·simp only[vop] at h;exact ZvA h
 ·simp only[vop] at h;exact(ZwN h).1
theorem ZBp {C:Orc} {M:Zr} {nx j:Nat} {oj:CO} {s s1:Sl×Hp} (hm:Y8 oj.op=true) (h:ZO C M nx j false oj s=some s1) :
  ∃ v,s1=(Zs s.1 oj.dst v,s.2)∧∀ aa : Sl×Hp,Z2 aa.1 oj.guard=Z2 s.1 oj.guard→(∀ x∈ZF oj.op,evO aa.1 x=evO s.1 x)→ZO C M nx j false oj aa=some (Zs aa.1 oj.dst v,aa.2):=by
 obtain⟨x,hx⟩:∃ x,oj.op=.move x:=by
  cases ho:oj.op<;>rw[ho] at hm<;>first | (cases hm;done) | exact⟨_,rfl⟩
 unfold ZO at h ⊢;obtain⟨b,hw,h⟩:=Za h;cases b with
 | true=>
  simp only[Km,hx,We,Ka,Kn,vop] at h;refine⟨evO s.1 x,?_,fun aa g1 g2=>?_⟩
  ·cases h;rfl
  ·rw[g1,hw,Zh];have e:=g2 x (by rw[hx];simp[ZF]);simp only[Km,hx,We,Ka,Kn,vop,e];rfl
 | false=>
  simp only[Ka,Kn] at h;cases h;refine⟨.tup [],rfl,fun aa g1 g2=>?_⟩;rw[g1,hw,Zh];rfl
theorem ZBq {C:Orc} {M:Zr} {os:List CO} {nx i j:Nat} {oi oj:CO} (ad:os[i]?=some oi) (ae:os[j]?=some oj) (af:ZX os j=false) (ah:XL oj oi=true)
  {s s1 s2:Sl×Hp} (hm:Y8 oj.op=true) (hg:ZfL oi.op=true)
  (h1:ZH C M os nx j s=some s1) (h2:ZH C M os nx i s1=some s2):∃ t1,ZH C M os nx i s=some t1∧∃ t2,ZH C M os nx j t1=some t2∧X0 t2 s2:=by
 simp only[XL,Kf] at ah;obtain⟨⟨ai,aj⟩,ab⟩:=ah;simp only[ZH,ae,Zh,af] at h1;simp only[ZH,ad,Zh] at h2;obtain⟨vj,rfl,ak⟩:=ZBp hm h1;unfold ZO at h2;obtain⟨b,hw,h2⟩:=Za h2;have al : Z2 s.1 oi.guard=some b:=by rw[← hw];exact(QH ai).symm
 cases b with
 | false=>
  simp only[Ka,Kn] at h2;cases h2;refine⟨(Zs s.1 oi.dst (.tup []),s.2),by simp only[ZH,ad,Zh,ZO,al,Ka,Kn],?_⟩;exact⟨(Zs (Zs s.1 oi.dst (.tup [])) oj.dst vj,s.2),by simp only[ZH,ae,Zh,af];exact ak (Zs s.1 oi.dst (.tup []),s.2) (QH ab) (Wj (o:=oj) ab),fun t=>(Uc aj vj (.tup []) t).symm,fun id=>rfl⟩
 | true=>
  simp only[Km] at h2;obtain⟨ce,h3,h4,rfl⟩:=XF h2;have aa:=ZwO hg (ZeQ h3);have am : We C M nx i (ZX os i) oi.op s.1 s.2=some ce:=by
   rw[← h3];unfold We;rw[Xw C M s.2 (nx+64*i) (Wj (o:=oi) ai)]
  have ag:∀ (sl:Sl) (hp:Hp),ce.on oi.dst sl hp=(Zs sl oi.dst ce.eff.val,ce.eff.on hp):=by
   intro sl hp;unfold Zf.on;rw[aa];rfl
  refine⟨ce.on oi.dst s.1 s.2,?_,?_⟩
  ·simp only[ZH,ad,Zh,ZO,al,Km,YM];rw[am,Zh,Kg h4]
  ·rw[ag];refine⟨(Zs (Zs s.1 oi.dst ce.eff.val) oj.dst vj,ce.eff.on s.2),by simp only[ZH,ae,Zh,af];exact ak (Zs s.1 oi.dst ce.eff.val,ce.eff.on s.2) (QH ab) (Wj (o:=oj) ab),fun t=>?_,fun k=>?_⟩
   ·rw[ag];exact(Uc aj vj ce.eff.val t).symm
   ·rw[ag]
theorem awayV_ptr {sl:Sl} {xs:List Opd} {v:AV} (h:Zch sl xs v=true) {k off:Nat} (e:v=.ptr k off):∀ z∈xs,k∉Zy (evO sl z):=by
 subst e;exact fun z hz=>ZqA (Zhr h z hz)
structure ZqD (r:Sl) (oX oY:CO):Prop where
 opd:∀ x∈ZF oX.op,okV (evO r x)=true
 dst:∀ t,oX.dst=some t→okV (gs r t)=true
 arg:∀ y∈ZnA oY.op,okV (evO r y)=true
 away:∀ y∈ZnA oY.op,∀ k off,evO r y=.ptr k off→∀ z∈ZF oX.op,k∉Zy (evO r z)
theorem ZvB {sl:Sl}:∀ {xs:List Opd},okL sl xs=true→∀ x∈xs,okV (evO sl x)=true
 | [],_,x,hx=>by simp at hx
 | y :: ys,h,x,hx=>by
  simp only[okL,Kf] at h;rcases Ke.1 hx with rfl | hx
  ·exact h.1
  ·exact ZvB h.2 x hx
theorem Zt5 {sl:Sl} {xs:List Opd}:∀ {ys:List Opd},ZhL sl xs ys=true→∀ y∈ys,Zch sl xs (evO sl y)=true
 | [],_,x,hx=>by simp at hx
 | y :: ys,h,x,hx=>by
  simp only[ZhL,Kf] at h;rcases Ke.1 hx with rfl | hx
  ·exact h.1
  ·exact Zt5 h.2 x hx
theorem ZwP {r:Sl} {oX oY:CO} (hm:Y8 oX.op=false) (hc:Zau oY.op=true) (h:UK r oX.dst oX.op oY.op=true):ZqD r oX oY:=by
 obtain⟨f,as1,ho⟩:∃ f as1,oY.op=.call (.f f) as1:=by
  cases ho:oY.op<;>rw[ho] at hc<;>first | (cases hc;done) | skip
  rename_i f as1;cases f<;>first | (cases hc;done) | exact⟨_,_,rfl⟩
 rw[ho] at h;have h' : (okL r (ZF oX.op)&&(okD r oX.dst&&(okL r as1&&ZhL r (ZF oX.op) as1)))=true:=by
  cases hx:oX.op<;>rw[hx] at h hm<;>first | (cases hm;done) | exact h
 simp only[Kf] at h';obtain⟨h1,h2,h3,h4⟩:=h';refine⟨ZvB h1,fun t ht=>?_,?_,?_⟩
 ·rw[ht] at h2;exact h2
 ·rw[ho];exact ZvB h3
 ·rw[ho];intro y hy k off e;exact awayV_ptr (Zt5 h4 y hy) e
theorem ZqD.move {r r' : Sl} {oX oY:CO} (h:ZqD r oX oY) (h1:∀ n∈(ZF oX.op).flatMap W6,okV (gs r n)=true→gs r' n=gs r n) (h2:∀ n,oX.dst=some n→okV (gs r n)=true→gs r' n=gs r n)
  (h3:∀ n∈(ZnA oY.op).flatMap W6,okV (gs r n)=true→gs r' n=gs r n):ZqD r' oX oY:=by
 have e1:∀ x∈ZF oX.op,evO r' x=evO r x:=fun x hx=>by
  have ho:=h.opd x hx;cases x with
  | t n=>exact h1 n (KC.2 ⟨_,hx,by simp[W6]⟩) ho
  | _=>rfl
 have e3:∀ x∈ZnA oY.op,evO r' x=evO r x:=fun x hx=>by
  have ho:=h.arg x hx;cases x with
  | t n=>exact h3 n (KC.2 ⟨_,hx,by simp[W6]⟩) ho
  | _=>rfl
 refine⟨fun x hx=>by rw[e1 x hx];exact h.opd x hx,fun t ht=>by rw[h2 t ht (h.dst t ht)];exact h.dst t ht,fun x hx=>by rw[e3 x hx];exact h.arg x hx,fun y hy k off e z hz=>?_⟩;rw[e3 y hy] at e;rw[e1 z hz];exact h.away y hy k off e z hz
theorem ZqE {C:Orc} {M:Zr} (hM:∀ f,M f 99=false) {os:List CO} {nx x y:Nat} {oX oY:CO} (ay:os[x]?=some oX) (a1:os[y]?=some oY) (a2:x≠y) (ak:QT oY.dst (looks oX)=true) (aw:QT oX.dst (looks oY)=true)
  (ad:QT oX.dst (looks oX)=true) (al:QT oY.dst (looks oY)=true)
  (ar:∀ (k:Nat) (o:CO),os[k]?=some o→∀ x∈ZF o.op,Y6 x=true) {s:Sl×Hp} {r:Sl} {U:Nat→Prop} (hs:ZjP nt s U) (a3:Xl U (nx+64*x)) (a4:Xl U (nx+64*y))
  (ae:Zau oY.op=true) {ce:Zf} (a5:vop C M s.1 s.2 (nx+64*y) oY.op=some ce) (a6:Q9 (nx+64*y) (nx+64*y+64) ce.eff.adds=true)
  (am:∀ n,oX.dst≠some n→oY.dst≠some n→gs r n=kill ce.gone (gs s.1 n)) (aa:ZqD r oX oY) :
  ce.eff.dels=[]∧(∀ z∈ZF oX.op,evO (ce.on oY.dst s.1 s.2).1 z=evO s.1 z)∧(∀ z∈ZF oX.op,∀ id∈Zy (evO s.1 z),id∉ce.gone)∧(∀ z∈ZF oX.op,ZlE ce.gone s.2 (ce.on oY.dst s.1 s.2).2 (evO s.1 z)) ∧
  (∀ k,nx+64*x≤k→k<nx+64*x+64→(∀ o',(k,o')∉ce.eff.sets)∧(∀ o',(k,o')∉ce.eff.adds)∧k∉ce.eff.frz∧k∉ce.gone):=by
 obtain⟨F,A,I,Γ,a,w,au⟩:=hs;have good:∀ (k:Nat) (o:CO),os[k]?=some o→∀ x∈ZF o.op,ZlA U (evO s.1 x):=by
  intro k o ho x hx;cases x with
  | t n=>exact au.good n
  | v y=>exact U5 (ar k o ho _ hx)
  | f n=>exact⟨fun id av=>by simp[evO,Zy,ZC] at av,fun f a7 h c hc=>by cases h;simp at hc⟩
 obtain⟨f,as1,ho⟩:∃ f as1,oY.op=.call (.f f) as1:=by
  cases ho:oY.op<;>rw[ho] at ae<;>first | (cases ae;done) | skip
  rename_i f as1;cases f<;>first | (cases ae;done) | exact⟨_,_,rfl⟩
 have an:=a5;rw[ho] at an;simp only[vop,evO,ZdU,KE] at an;obtain⟨k1,k2,k3,k4⟩:=ZBE an (hM _);have ab:∀ n,(Opd.t n)∈ZF oX.op→n∈looks oX:=fun n hn=>Kj.2 (.inl (KC.2 ⟨_,hn,by simp[W6]⟩));have ai:∀ n,(Opd.t n)∈as1→n∈looks oY:=fun n hn=>Kj.2 (.inl (KC.2 ⟨.t n,by rw[ho];simp[ZF,hn],by simp[W6]⟩));have ne:∀ {d:Option Nat} {l:List Nat} {n:Nat},QT d l=true→n∈l→d≠some n:=fun {d l n} h hn e=>by
  rw[e] at h;simp only[QT,K9,K5,Ln] at h;exact h hn
 have ax:∀ z∈ZF oX.op,evO r z=evO s.1 z∧∀ id∈Zy (evO s.1 z),id∉ce.gone:=by
  intro z hz;have af:=aa.opd z hz;cases z with
  | t n=>
   have e:=am n (ne ad (ab n hz)) (ne ak (ab n hz));simp only[evO] at af ⊢;rw[e] at af ⊢;have:=ZbZ af;exact⟨this,ZC0 this⟩
  | v c=>
   have:=ar x oX ay _ hz;simp only[Y6,Kf,List.isEmpty_iff] at this;exact⟨rfl,fun id av=>by simp only[evO] at av;rw[this.1] at av;simp at av⟩
  | f n=>simp only[evO,okV,okC] at af;cases af
 have az:∀ z∈as1,evO r z=evO s.1 z:=by
  intro z hz;have af:=aa.arg z (by rw[ho];exact hz);cases z with
  | t n=>
   have e:=am n (ne aw (ai n hz)) (ne al (ai n hz));simp only[evO] at af ⊢;rw[e] at af ⊢;exact ZbZ af
  | _=>rfl
 have a0:∀ id,(∃ o,lkp s.2 id=some o)→U id:=fun id ⟨o,h⟩=>au.id_in h;have uX:∀ k,nx+64*x≤k→k<nx+64*x+64→¬U k:=fun k h1 h2=>a3 k h1 h2;have aj:=UX a6;have ag:∀ z∈ZF oX.op,∀ k∈Zy (evO s.1 z),∀ o',(k,o')∉ce.eff.sets:=by
  intro z hz k hk o' ao;rcases (k4 k o' ao).2 with h | ⟨v,hv,ap⟩
  ·exact(ax z hz).2 k hk h
  ·obtain⟨y',aq,rfl⟩:=Zi6 hv;have ah:=aa.arg y' (by rw[ho];exact aq);rw[az y' aq] at ah;cases hp:evO s.1 y' with
   | ptr a b=>
    rw[hp] at ap;simp only[J1,KD] at ap;subst ap;have:=aa.away y' (by rw[ho];exact aq) k b (by rw[az y' aq,hp]) z hz;rw[(ax z hz).1] at this;exact this hk
   | clo g cs=>rw[hp] at ah;simp only[okV,okC] at ah;cases ah
   | _=>rw[hp] at ap;simp[J1] at ap
 refine⟨k1,fun z hz=>?_,fun z hz=>(ax z hz).2,fun z hz k hk=>?_,fun k g1 g2=>⟨fun o' ao=>?_,fun o' ao=>?_,fun hf=>?_,fun hg=>?_⟩⟩
 ·cases z with
  | t n=>
   show gs (Zs (Xn ce.gone s.1) oY.dst ce.eff.val) n=gs s.1 n;rw[QG,Kd (ne ak (ab n hz)),QW];have e:=am n (ne ad (ab n hz)) (ne ak (ab n hz));have:=aa.opd _ hz;simp only[evO] at this;rw[e] at this;exact ZbZ this
  | _=>rfl
 ·have a8:U k:=(good x oX ay z hz).1 k hk;show Zbk ce.gone (lkp s.2 k) (lkp (ce.eff.on (V8 ce.gone s.2)) k);unfold Eff.on;rw[k1];simp only[Qe];rw[ZD,ZD,Ql,Wh]
  ·exact Zw2 _
  ·exact ag z hz k hk
  ·intro o' ao;obtain⟨h1,h2⟩:=aj k o' ao;exact a4 k h1 h2 a8
 ·exact uX k g1 g2 (a0 k (k4 k o' ao).1)
 ·have:=aj k o' ao;rcases L5 a2 with h | h<;>omega
 ·obtain⟨v,hv,ap⟩:=k2 k hf;obtain⟨y',aq,rfl⟩:=Zi6 hv;exact uX k g1 g2 ((good y oY a1 y' (by rw[ho];simp[ZF,aq])).1 k ap)
 ·exact uX k g1 g2 (a0 k (k3 k hg))
theorem ZyR {C:Orc} {M:Zr} (hM:∀ f,M f 99=false) {os:List CO} {nx i j:Nat} {oi oj:CO} (ah:os[i]?=some oi) (av:os[j]?=some oj) (az:ZX os j=false) (a0:i≠j) (aw:XL oj oi=true)
  (ad:QT oj.dst (looks oj)=true) (ae:QT oi.dst (looks oi)=true)
  (ai:∀ (k:Nat) (o:CO),os[k]?=some o→∀ x∈ZF o.op,Y6 x=true) {s s1 s2:Sl×Hp} {U:Nat→Prop} (hs:ZjP nt s U) (a1:Xl U (nx+64*i)) (ap:Xl U (nx+64*j))
  (aj:Zau oi.op=true) (a2:Zrk oj.op=true) (aa:ZqD s2.1 oj oi) {t:Nat} (ht:oj.dst=some t)
  (h1:ZH C M os nx j s=some s1) (h2:ZH C M os nx i s1=some s2):∃ t1,ZH C M os nx i s=some t1∧∃ t2,ZH C M os nx j t1=some t2∧X0 t2 s2:=by
 have a3:=hs;obtain⟨F,A,I,Γ,a,w,af⟩:=a3;simp only[XL,Kf] at aw;obtain⟨⟨am,an⟩,ao⟩:=aw;have good:∀ (k:Nat) (o:CO),os[k]?=some o→∀ x∈ZF o.op,ZlA U (evO s.1 x):=by
  intro k o ho x hx;cases x with
  | t n=>exact af.good n
  | v y=>exact U5 (ai k o ho _ hx)
  | f n=>exact⟨fun id a4=>by simp[evO,Zy,ZC] at a4,fun f a5 h c hc=>by cases h;simp at hc⟩
 have ab:∀ s:Sl×Hp,ZH C M os nx j s=ZO C M nx j false oj s:=fun s=>by simp only[ZH,av,Zh,az]
 rw[ab] at h1;simp only[ZH,ah,Zh] at h2;obtain⟨v,ax,a6,aq,hX⟩:∃ v ax,s1=(Zs s.1 oj.dst v,Zi s.2 ax)∧(∀ k x,(k,x)∈ax→nx+64*j≤k∧k<nx+64*j+64) ∧
   ((Z2 s.1 oj.guard=some false∧v=.tup []∧ax=[])∨(Z2 s.1 oj.guard=some true∧∃ ce,Znr ce∧vop C M s.1 s.2 (nx+64*j) oj.op=some ce∧Q9 (nx+64*j) (nx+64*j+64) ce.eff.adds=true∧v=ce.eff.val∧ax=ce.eff.adds)):=by
  rcases Zy3 h1 with ⟨g1,g2⟩ | ⟨g1,ce,g2,g3,g4,g5⟩
  ·exact⟨.tup [],[],g2,fun k x h=>by simp at h,.inl ⟨g1,rfl,rfl⟩⟩
  ·exact⟨ce.eff.val,ce.eff.adds,g5,UX g4,.inr ⟨g1,ce,g2,g3,g4,rfl,rfl⟩⟩
 subst a6;unfold ZO at h2;obtain⟨b,hw,h2⟩:=Za h2;have ay : Z2 s.1 oi.guard=some b:=by rw[← hw];exact(QH am).symm
 cases b with
 | false=>
  simp only[Ka,Kn] at h2;cases h2;refine⟨(Zs s.1 oi.dst (.tup []),s.2),by simp only[ZH,ah,Zh];exact YL ay,?_⟩;refine⟨(Zs (Zs s.1 oi.dst (.tup [])) oj.dst v,Zi s.2 ax),?_,fun t=>(Uc an v (.tup []) t).symm,fun id=>rfl⟩;rw[ab];have ak:Z2 (Zs s.1 oi.dst (.tup [])) oj.guard=Z2 s.1 oj.guard:=QH ao;rcases hX with ⟨g1,rfl,rfl⟩ | ⟨g1,ce,g2,g3,g4,rfl,rfl⟩
  ·exact YL (s:=(Zs s.1 oi.dst (.tup []),s.2)) (ak.trans g1)
  ·refine Zi7 (s:=(Zs s.1 oi.dst (.tup []),s.2)) (ak.trans g1) g2 ?_ g4;rw[← g3];exact Xw C M s.2 (nx+64*j) (Wj (o:=oj) ao)
 | true=>
  simp only[Km] at h2;obtain⟨ce,h3,h4,rfl⟩:=XF h2;have a7:vop C M s.1 s.2 (nx+64*i) oi.op=some ce:=by
   have h5:=ZeQ h3;rw[← h5,Xw C M (Zi s.2 ax) (nx+64*i) (Wj (o:=oi) am)];exact J5 (af.agree (Wk ap aq s.2)) C M _ (good i oi ah)
  have a8 : We C M nx i (ZX os i) oi.op s.1 s.2=some ce:=by
   rw[← h3];unfold We;rw[Xw C M (Zi s.2 ax) (nx+64*i) (Wj (o:=oi) am),J5 (af.agree (Wk ap aq s.2)) C M _ (good i oi ah)]
  have ar:∀ n,oj.dst≠some n→oi.dst≠some n→gs (ce.on oi.dst (Zs s.1 oj.dst v) (Zi s.2 ax)).1 n=kill ce.gone (gs s.1 n):=fun n e1 e2=>by
   show gs (Zs (Xn ce.gone (Zs s.1 oj.dst v)) oi.dst ce.eff.val) n=_;rw[QG,Kd e2,QW,QG,Kd e1]
  obtain⟨c1,c2,c3,c4,c5⟩:=ZqE (nt:=nt) hM av ah (Ne.symm a0) ao am ad ae ai hs ap a1 aj a7 h4 ar aa;have e0:gs (ce.on oi.dst (Zs s.1 oj.dst v) (Zi s.2 ax)).1 t=kill ce.gone v:=by
   show gs (Zs (Xn ce.gone (Zs s.1 oj.dst v)) oi.dst ce.eff.val) t=_;rw[QG,Kd,QW,QG,Kg ht];intro e;rw[ht,e] at an;simp[Zac] at an
  have ag:kill ce.gone v=v:=by
   have h5:=aa.dst t ht;rw[e0] at h5;exact ZbZ h5
  have au:okV v=true:=by
   have h5:=aa.dst t ht;rw[e0,ag] at h5;exact h5
  refine⟨ce.on oi.dst s.1 s.2,?_,?_⟩
  ·simp only[ZH,ah,Zh,ZO,ay,Km,YM];rw[a8,Zh,Kg h4]
  ·have ak:Z2 (ce.on oi.dst s.1 s.2).1 oj.guard=Z2 s.1 oj.guard:=by
    show Z2 (Zs (Xn ce.gone s.1) oi.dst ce.eff.val) oj.guard=_;rw[QH ao];exact Zi8 fun q _=>QW _ _ _
   have al:(∀ k o,(k,o)∈ax→XE ce.gone o=o)∧ZO C M nx j false oj (ce.on oi.dst s.1 s.2)=some (Zs (ce.on oi.dst s.1 s.2).1 oj.dst v,Zi (ce.on oi.dst s.1 s.2).2 ax):=by
    rcases hX with ⟨g1,rfl,rfl⟩ | ⟨g1,cx,g2,g3,g4,rfl,rfl⟩
    ·exact⟨fun k o h=>by simp at h,YL (ak.trans g1)⟩
    ·obtain⟨e1,e2⟩:=ZBC a2 c2 c4 (fun k h6 h7=>(c5 k h6 h7).2.2.2) g3 g4 g2.frz au ag;exact⟨e2,Zi7 (ak.trans g1) g2 e1 g4⟩
   obtain⟨e3,e4⟩:=al;refine⟨_,by rw[ab];exact e4,?_⟩;exact ZAw (ce:=ce) (dX:=oj.dst) (dY:=oi.dst) (v:=v) (ax:=ax) (s:=s) an c1 (fun k o ho=>by
    obtain⟨h6,h7⟩:=aq k o ho;obtain⟨m1,m2,m3,_⟩:=c5 k h6 h7;exact⟨m1,m2,m3⟩) e3 ag
theorem ZwQ {C:Orc} {M:Zr} (hM:∀ f,M f 99=false) {os:List CO} {nx i j:Nat} {oi oj:CO} (ar:os[i]?=some oi) (ag:os[j]?=some oj) (ay:ZX os i=false) (az:i≠j) (au:XL oj oi=true)
  (ad:QT oi.dst (looks oi)=true) (ae:QT oj.dst (looks oj)=true)
  (ah:∀ (k:Nat) (o:CO),os[k]?=some o→∀ x∈ZF o.op,Y6 x=true) {s s1 s2:Sl×Hp} {U:Nat→Prop} (hs:ZjP nt s U) (av:Xl U (nx+64*i)) (a0:Xl U (nx+64*j))
  (ai:Zau oj.op=true) (a1:ZlW oi.op=true) (ab:ZqD s2.1 oi oj) {t:Nat} (ht:oi.dst=some t)
  (h1:ZH C M os nx j s=some s1) (h2:ZH C M os nx i s1=some s2):∃ t1,ZH C M os nx i s=some t1∧∃ t2,ZH C M os nx j t1=some t2∧X0 t2 s2:=by
 have a2:=hs;obtain⟨F,A,I,Γ,a,w,aj⟩:=a2;simp only[XL,Kf] at au;obtain⟨⟨an,ao⟩,ak⟩:=au;have af : Zac oi.dst oj.dst=true:=by
  cases hd:oi.dst<;>cases he:oj.dst<;>rw[hd,he] at ao<;>first | rfl | (simp only[Zac,bne_iff_ne,ne_eq] at ao ⊢;exact fun e=>ao e.symm)
 have good:∀ (k:Nat) (o:CO),os[k]?=some o→∀ x∈ZF o.op,ZlA U (evO s.1 x):=by
  intro k o ho x hx;cases x with
  | t n=>exact aj.good n
  | v y=>exact U5 (ah k o ho _ hx)
  | f n=>exact⟨fun id a3=>by simp[evO,Zy,ZC] at a3,fun f a4 h c hc=>by cases h;simp at hc⟩
 have aa:∀ s:Sl×Hp,ZH C M os nx i s=ZO C M nx i false oi s:=fun s=>by simp only[ZH,ar,Zh,ay]
 rw[aa] at h2;simp only[ZH,ag,Zh] at h1;unfold ZO at h1;obtain⟨b,hw,h1⟩:=Za h1;cases b with
 | false=>
  simp only[Ka,Kn] at h1;cases h1;have al:Z2 (Zs s.1 oj.dst (.tup [])) oi.guard=Z2 s.1 oi.guard:=QH an;rcases Zy3 h2 with ⟨g1,g2⟩ | ⟨g1,ce,g2,g3,g4,g5⟩
  ·subst g2;refine⟨(Zs s.1 oi.dst (.tup []),s.2),by rw[aa];exact YL (al.symm.trans g1),(Zs (Zs s.1 oi.dst (.tup [])) oj.dst (.tup []),s.2),?_,fun t=>Uc af _ _ t,fun id=>rfl⟩;simp only[ZH,ag,Zh];exact YL (s:=(Zs s.1 oi.dst (.tup []),s.2)) ((QH ak).trans hw)
  ·subst g5;refine⟨(Zs s.1 oi.dst ce.eff.val,Zi s.2 ce.eff.adds),?_,(Zs (Zs s.1 oi.dst ce.eff.val) oj.dst (.tup []),Zi s.2 ce.eff.adds),?_,fun t=>Uc af _ _ t,fun id=>rfl⟩
   ·rw[aa];refine Zi7 (al.symm.trans g1) g2 ?_ g4;rw[← g3];exact(Xw C M s.2 (nx+64*i) (Wj (o:=oi) an)).symm
   ·simp only[ZH,ag,Zh];exact YL (s:=(Zs s.1 oi.dst ce.eff.val,Zi s.2 ce.eff.adds)) ((QH ak).trans hw)
 | true=>
  simp only[Km] at h1;obtain⟨ce,h3,h4,rfl⟩:=XF h1;have a5:vop C M s.1 s.2 (nx+64*j) oj.op=some ce:=ZeQ h3;have al:Z2 (ce.on oj.dst s.1 s.2).1 oi.guard=Z2 s.1 oi.guard:=by
   show Z2 (Zs (Xn ce.gone s.1) oj.dst ce.eff.val) oi.guard=_;rw[QH an];exact Zi8 fun q _=>QW _ _ _
  obtain⟨v,ax,a6,aw,hX⟩:∃ v ax,s2=(Zs (ce.on oj.dst s.1 s.2).1 oi.dst v,Zi (ce.on oj.dst s.1 s.2).2 ax)∧(∀ k x,(k,x)∈ax→nx+64*i≤k∧k<nx+64*i+64) ∧
    ((Z2 s.1 oi.guard=some false∧v=.tup []∧ax=[])∨(Z2 s.1 oi.guard=some true∧∃ cx,Znr cx∧vop C M (ce.on oj.dst s.1 s.2).1 (ce.on oj.dst s.1 s.2).2 (nx+64*i) oi.op=some cx∧Q9 (nx+64*i) (nx+64*i+64) cx.eff.adds=true∧v=cx.eff.val∧ax=cx.eff.adds)):=by
   rcases Zy3 h2 with ⟨g1,g2⟩ | ⟨g1,cx,g2,g3,g4,g5⟩
   ·exact⟨.tup [],[],g2,fun k x h=>by simp at h,.inl ⟨al.symm.trans g1,rfl,rfl⟩⟩
   ·exact⟨cx.eff.val,cx.eff.adds,g5,UX g4,.inr ⟨al.symm.trans g1,cx,g2,g3,g4,rfl,rfl⟩⟩
  subst a6;have ap:∀ n,oi.dst≠some n→oj.dst≠some n→gs (Zs (ce.on oj.dst s.1 s.2).1 oi.dst v) n=kill ce.gone (gs s.1 n):=fun n e1 e2=>by
   rw[QG,Kd e1];show gs (Zs (Xn ce.gone s.1) oj.dst ce.eff.val) n=_;rw[QG,Kd e2,QW]
  obtain⟨c1,c2,c3,c4,c5⟩:=ZqE (nt:=nt) hM ar ag az an ak ad ae ah hs av a0 ai a5 h4 ap ab;have aq:okV v=true:=by
   have h5:=ab.dst t ht;simp only[QG,Kg ht] at h5;exact h5
  have am:kill ce.gone v=v∧(∀ k o,(k,o)∈ax→XE ce.gone o=o)∧ZO C M nx i false oi s=some (Zs s.1 oi.dst v,Zi s.2 ax):=by
   rcases hX with ⟨g1,rfl,rfl⟩ | ⟨g1,cx,g2,g3,g4,rfl,rfl⟩
   ·exact⟨rfl,fun k o h=>by simp at h,YL g1⟩
   ·obtain⟨e1,e2,e3⟩:=Zy2 a1 c2 c4 c3 (fun k h6 h7=>(c5 k h6 h7).2.2.2) g3 g4 g2.frz aq;exact⟨e2,e3,Zi7 g1 g2 e1 g4⟩
  obtain⟨hk,e3,e4⟩:=am;refine⟨(Zs s.1 oi.dst v,Zi s.2 ax),by rw[aa];exact e4,ce.on oj.dst (Zs s.1 oi.dst v) (Zi s.2 ax),?_,?_⟩
  ·simp only[ZH,ag,Zh,ZO];have a7:Z2 (Zs s.1 oi.dst v) oj.guard=some true:=(QH ak).trans hw;simp only[a7,Zh,Km,YM];have:We C M nx j (ZX os j) oj.op (Zs s.1 oi.dst v) (Zi s.2 ax)=some ce:=by
    rw[← h3];unfold We;rw[Xw C M (Zi s.2 ax) (nx+64*j) (Wj (o:=oj) ak),← J5 (aj.agree (Wk av aw s.2)) C M _ (good j oj ag)]
   rw[this,Zh,Kg h4]
  ·exact(ZAw (ce:=ce) (dX:=oi.dst) (dY:=oj.dst) (v:=v) (ax:=ax) (s:=s) af c1 (fun k o ho=>by
    obtain⟨h6,h7⟩:=aw k o ho;obtain⟨m1,m2,m3,_⟩:=c5 k h6 h7;exact⟨m1,m2,m3⟩) e3 hk).symm
theorem Zfs {C:Orc} {M:Zr} {nx j:Nat} {oj:CO} {x:Opd} (hx:oj.op=.move x) {s:Sl×Hp} {b:Bool} (hw:Z2 s.1 oj.guard=some b) :
  ZO C M nx j false oj s=some (Zs s.1 oj.dst (if b then evO s.1 x else .tup []),s.2):=by
 unfold ZO;rw[hw,Zh];cases b
 ·rfl
 ·simp only[Km,hx,We,Ka,Kn,vop];rfl
theorem ZyS {C:Orc} {M:Zr} {os:List CO} {nx i j:Nat} {oi oj:CO} (af:os[i]?=some oi) (am:os[j]?=some oj) (an:ZX os j=false) (ai:XL oj oi=true)
  (ao:∀ (k:Nat) (o:CO),os[k]?=some o→∀ x∈ZF o.op,Y6 x=true)
  {s s1 s2:Sl×Hp} (hm:Y8 oj.op=true) {t:Nat} (ht:oj.dst=some t) (aj:okV (gs s2.1 t)=true)
  (h1:ZH C M os nx j s=some s1) (h2:ZH C M os nx i s1=some s2):∃ t1,ZH C M os nx i s=some t1∧∃ t2,ZH C M os nx j t1=some t2∧X0 t2 s2:=by
 obtain⟨x,hx⟩:∃ x,oj.op=.move x:=by
  cases ho:oj.op<;>rw[ho] at hm<;>first | (cases hm;done) | exact⟨_,rfl⟩
 simp only[XL,Kf] at ai;obtain⟨⟨ak,ad⟩,ab⟩:=ai;have aa:∀ s:Sl×Hp,ZH C M os nx j s=ZO C M nx j false oj s:=fun s=>by simp only[ZH,am,Zh,an]
 rw[aa] at h1;obtain⟨bj,ag⟩:∃ bj,Z2 s.1 oj.guard=some bj:=by
  unfold ZO at h1;obtain⟨b,hw,_⟩:=Za h1;exact⟨b,hw⟩
 rw[Zfs hx ag] at h1;have h1:=(Option.some.inj h1).symm;subst h1;simp only[ZH,af,Zh] at h2;unfold ZO at h2;obtain⟨b,hw,h2⟩:=Za h2;have al : Z2 s.1 oi.guard=some b:=by rw[← hw];exact(QH ak).symm
 have ap:oi.dst≠some t:=fun e=>by rw[ht,e] at ad;simp[Zac] at ad
 have ae:∀ n,x=.t n→oi.dst≠some n:=fun n e h=>by
  rw[h] at ab;simp only[QT,K9,K5,Ln] at ab;exact ab (Kj.2 (.inl (by rw[hx,e];simp[ZF,W6])))
 cases b with
 | false=>
  simp only[Ka,Kn] at h2;cases h2;refine⟨(Zs s.1 oi.dst (.tup []),s.2),by simp only[ZH,af,Zh];exact YL al,?_⟩;refine⟨_,by rw[aa];exact Zfs (s:=(Zs s.1 oi.dst (.tup []),s.2)) hx ((QH ab).trans ag),?_⟩;have:evO (Zs s.1 oi.dst (.tup [])) x=evO s.1 x:=Wj (o:=oj) ab x (by rw[hx];simp[ZF]);simp only[this];exact⟨fun t=>(Uc ad _ _ t).symm,fun id=>rfl⟩
 | true=>
  simp only[Km] at h2;obtain⟨ce,h3,h4,rfl⟩:=XF h2;have aq : We C M nx i (ZX os i) oi.op s.1 s.2=some ce:=by
   rw[← h3];unfold We;rw[Xw C M s.2 (nx+64*i) (Wj (o:=oi) ak)]
  refine⟨ce.on oi.dst s.1 s.2,by simp only[ZH,af,Zh,ZO,al,Km,YM];rw[aq,Zh,Kg h4],?_⟩;have ah:Z2 (ce.on oi.dst s.1 s.2).1 oj.guard=some bj:=by
   show Z2 (Zs (Xn ce.gone s.1) oi.dst ce.eff.val) oj.guard=_;rw[QH ab,← ag];exact Zi8 fun q _=>QW _ _ _
  refine⟨_,by rw[aa];exact Zfs hx ah,?_⟩;have e0:gs (ce.on oi.dst (Zs s.1 oj.dst (if bj then evO s.1 x else .tup [])) s.2).1 t=kill ce.gone (if bj then evO s.1 x else .tup []):=by
   show gs (Zs (Xn ce.gone (Zs s.1 oj.dst _)) oi.dst ce.eff.val) t=_;rw[QG,Kd ap,QW,QG,Kg ht]
  rw[e0] at aj;have hk:=ZbZ aj;have ev:(if bj then evO (ce.on oi.dst s.1 s.2).1 x else .tup [])=(if bj then evO s.1 x else .tup []):=by
   cases bj with
   | false=>rfl
   | true=>
    simp only[Km] at hk ⊢;cases x with
    | t n=>
     show gs (Zs (Xn ce.gone s.1) oi.dst ce.eff.val) n=gs s.1 n;rw[QG,Kd (ae n rfl),QW];exact hk
    | _=>rfl
  rw[ev];refine⟨fun q=>?_,fun id=>rfl⟩;show gs (Zs (Zs (Xn ce.gone s.1) oi.dst ce.eff.val) oj.dst _) q=gs (Zs (Xn ce.gone (Zs s.1 oj.dst _)) oi.dst ce.eff.val) q;simp only[QG,QW];by_cases hq:oj.dst=some q
  ·have:¬oi.dst=some q:=fun e=>by rw[hq,e] at ad;simp[Zac] at ad
   simp only[hq,Km,this,Kn];exact hk.symm
  ·simp[hq]
theorem ZyT {C:Orc} {M:Zr} {os:List CO} {nx i j:Nat} {oi oj:CO} (am:os[i]?=some oi) (ag:os[j]?=some oj) (ar:ZX os i=false) (an:XL oj oi=true)
  (ah:∀ (k:Nat) (o:CO),os[k]?=some o→∀ x∈ZF o.op,Y6 x=true)
  {s s1 s2:Sl×Hp} (hm:Y8 oi.op=true) {t:Nat} (ht:oi.dst=some t) (ai:okV (gs s2.1 t)=true)
  (h1:ZH C M os nx j s=some s1) (h2:ZH C M os nx i s1=some s2):∃ t1,ZH C M os nx i s=some t1∧∃ t2,ZH C M os nx j t1=some t2∧X0 t2 s2:=by
 obtain⟨x,hx⟩:∃ x,oi.op=.move x:=by
  cases ho:oi.op<;>rw[ho] at hm<;>first | (cases hm;done) | exact⟨_,rfl⟩
 simp only[XL,Kf] at an;obtain⟨⟨ad,aj⟩,ak⟩:=an;have aa:∀ s:Sl×Hp,ZH C M os nx i s=ZO C M nx i false oi s:=fun s=>by simp only[ZH,am,Zh,ar]
 rw[aa] at h2;simp only[ZH,ag,Zh] at h1;unfold ZO at h1;obtain⟨b,hw,h1⟩:=Za h1;have af:∀ n,x=.t n→oj.dst≠some n:=fun n e h=>by
  rw[h] at ad;simp only[QT,K9,K5,Ln] at ad;exact ad (Kj.2 (.inl (by rw[hx,e];simp[ZF,W6])))
 have ao:∀ (bi:Bool) (e:evO s1.1 x=evO s.1 x∨bi=false) (g1:Z2 s.1 oi.guard=some bi) (g2:Z2 s1.1 oi.guard=some bi),s2=(Zs s1.1 oi.dst (if bi then evO s.1 x else .tup []),s1.2):=by
  intro bi e g1 g2;rw[Zfs hx g2] at h2;rw[← Option.some.inj h2];rcases e with e | e
  ·rw[e]
  ·rw[e];rfl
 cases b with
 | false=>
  simp only[Ka,Kn] at h1;cases h1;have ae:Z2 (Zs s.1 oj.dst (.tup [])) oi.guard=Z2 s.1 oi.guard:=QH ad;obtain⟨bi,ab⟩:∃ bi,Z2 s.1 oi.guard=some bi:=by
   unfold ZO at h2;obtain⟨b,hw,_⟩:=Za h2;exact⟨b,ae.symm.trans hw⟩
  have e:evO (Zs s.1 oj.dst (.tup [])) x=evO s.1 x:=Wj (o:=oi) ad x (by rw[hx];simp[ZF]);have h5:=ao bi (.inl e) ab (ae.trans ab);subst h5;refine⟨_,by rw[aa];exact Zfs hx ab,(Zs (Zs s.1 oi.dst (if bi then evO s.1 x else .tup [])) oj.dst (.tup []),s.2),?_,fun t=>?_,fun id=>rfl⟩
  ·simp only[ZH,ag,Zh];exact YL (s:=(Zs s.1 oi.dst (if bi then evO s.1 x else .tup []),s.2)) ((QH ak).trans hw)
  ·exact(Uc aj _ _ t).symm
 | true=>
  simp only[Km] at h1;obtain⟨ce,h3,h4,rfl⟩:=XF h1;have ae:Z2 (ce.on oj.dst s.1 s.2).1 oi.guard=Z2 s.1 oi.guard:=by
   show Z2 (Zs (Xn ce.gone s.1) oj.dst ce.eff.val) oi.guard=_;rw[QH ad];exact Zi8 fun q _=>QW _ _ _
  obtain⟨bi,ab⟩:∃ bi,Z2 s.1 oi.guard=some bi:=by
   unfold ZO at h2;obtain⟨b,hw,_⟩:=Za h2;exact⟨b,ae.symm.trans hw⟩
  have ap:=h2;rw[Zfs hx (ae.trans ab)] at ap;have h6:=Option.some.inj ap;have hv:okV (if bi then evO (ce.on oj.dst s.1 s.2).1 x else .tup [])=true:=by
   rw[← h6] at ai;simp only[QG,Kg ht] at ai;exact ai
  have aq:kill ce.gone (if bi then evO s.1 x else .tup [])=(if bi then evO s.1 x else .tup [])∧(evO (ce.on oj.dst s.1 s.2).1 x=evO s.1 x∨bi=false):=by
   cases bi with
   | false=>exact⟨rfl,.inr rfl⟩
   | true=>
    simp only[Km] at hv ⊢;cases x with
    | t n=>
     have e:evO (ce.on oj.dst s.1 s.2).1 (.t n)=kill ce.gone (gs s.1 n):=by
      show gs (Zs (Xn ce.gone s.1) oj.dst ce.eff.val) n=_;rw[QG,Kd (af n rfl),QW]
     rw[e] at hv ⊢;have:=ZbZ hv;exact⟨this,.inl this⟩
    | v c=>
     have hc:=ah i oi am (.v c) (by rw[hx];simp[ZF]);simp only[Y6,Kf,List.isEmpty_iff] at hc;exact⟨ZAu hv fun id al=>by simp only[evO] at al;rw[hc.1] at al;simp at al,.inl rfl⟩
    | f n=>simp only[evO,okV,okC] at hv;cases hv
  have h5:=ao bi aq.2 ab (ae.trans ab);subst h5;refine⟨_,by rw[aa];exact Zfs hx ab,ce.on oj.dst (Zs s.1 oi.dst (if bi then evO s.1 x else .tup [])) s.2,?_,fun q=>?_,fun id=>rfl⟩
  ·simp only[ZH,ag,Zh,ZO];have au:Z2 (Zs s.1 oi.dst (if bi then evO s.1 x else .tup [])) oj.guard=some true:=(QH ak).trans hw;simp only[au,Zh,Km,YM];have:We C M nx j (ZX os j) oj.op (Zs s.1 oi.dst (if bi then evO s.1 x else .tup [])) s.2=some ce:=by
    rw[← h3];unfold We;rw[Xw C M s.2 (nx+64*j) (Wj (o:=oj) ak)]
   rw[this,Zh,Kg h4]
  ·show gs (Zs (Xn ce.gone (Zs s.1 oi.dst _)) oj.dst ce.eff.val) q=gs (Zs (Zs (Xn ce.gone s.1) oj.dst ce.eff.val) oi.dst _) q;simp only[QG,QW];by_cases hq:oi.dst=some q
   ·have:¬oj.dst=some q:=fun e=>by rw[hq,e] at aj;simp[Zac] at aj
    simp only[hq,Km,this,Kn];exact aq.1
   ·simp[hq]
theorem ZAq {C:Orc} {M:Zr} (hM:∀ f,M f 99=false) (hC:Qy P C) {ops:Array Oper} {os:List CO} (a9:QJ (ZoT P nt ops.toList) ops.toList=some os) {nx i:Nat} {ks:List Nat} {oi:CO} (ab:os[i]?=some oi)
  (ad:∀ (k:Nat) (o:CO),os[k]?=some o→∀ x∈ZF o.op,Y6 x=true) :
  ∀ (js:List Nat) {s r:Sl×Hp} {U:Nat→Prop},ZjP nt s U→Xl U (nx+64*i)→(∀ j∈js,Xl U (nx+64*j))→(js++i :: ks).Pairwise (· < ·) →
   (∀ j∈js,∃ oj,os[j]?=some oj∧XL oj oi=true∧((ZX os j=false∧(ZX os i=true→Zza oi.op=true∨(Zri oi.op=true∧(Wp oj.op=true∨(Jj oj.op=true∧ZaZ os j=true∧ZaZ os i=true∧Zlw r.1 oj.op oi.op=true)))∨(Y8 oj.op=true∧ZfL oi.op=true)∨(Y8 oj.op=true∧Zpv os j=true∧okD r.1 oj.dst=true) ∨
    (Y8 oj.op=false∧Zau oi.op=true∧Zrk oj.op=true∧ZaZ os j=true∧ZaZ os i=true∧Zpv os j=true∧UK r.1 oj.dst oj.op oi.op=true))) ∨
    (ZX os j=true∧ZX os i=false∧Y8 oi.op=true∧Zpv os i=true∧okD r.1 oi.dst=true) ∨
    (ZX os j=true∧ZX os i=false∧Y8 oi.op=false∧Zau oj.op=true∧ZlW oi.op=true∧ZaZ os j=true∧ZaZ os i=true∧Zpv os i=true∧UK r.1 oi.dst oi.op oj.op=true))) →
   (∀ j∈js++i :: ks,j<os.length)→runL C M os nx (js++i :: ks) s=some r →
   ∃ s',ZH C M os nx i s=some s'∧∃ r',runL C M os nx (js++ks) s'=some r'∧X0 r' r
 | [],s,r,U,_,_,_,_,_,_,h=>by
  simp only[K6,runL] at h ⊢;obtain⟨s',h1,h⟩:=Za h;exact⟨s',h1,r,h,X0.refl r⟩
 | j :: js,s,r,U,hs,hfi,hfj,hsort,hj,hlt,h=>by
  have a1:=h;simp only[KF,runL] at h;obtain⟨s1,h1,h⟩:=Za h;have a8:=hsort;simp only[KF,L6] at hsort;have bk:j<i:=hsort.1 i (by simp);have a0:i≠j:=o_
  have a':=ZyN hC a9 hs (hfj j (by simp)) h1;have ba:∀ k∈js,k≠j:=fun k hk e=>by
   have:=hsort.1 k (by simp[hk]);omega
  obtain⟨s2,h2,r2,h3,h4⟩:=ZAq hM hC a9 ab ad js a' (Zt3 a0 hfi) (fun k hk=>Zt3 (ba k hk) (hfj k (by simp[hk]))) hsort.2 (fun k hk=>hj k (by simp[hk])) (fun k hk=>hlt k (by simp only[KF,Ke];exact .inr hk)) h;obtain⟨oj,ae,au,a2⟩:=hj j (by simp);have aa:∀ {k q n:Nat} {o:CO},ZaZ os k=true→os[k]?=some o→k≤q→q<os.length→n∈looks o→QT (UU os q) [n]=true:=by
   intro k q n o am ho bl hq hn;have:=K4.1 am q (LB.2 hq);simp only[ZvU,ho,Lx,Ko] at this;rcases this with h | h
   ·omega
   ·cases hd:UU os q with
    | none=>rfl
    | some d=>
     rw[hd] at h;simp only[QT,K9,K5,Ln] at h ⊢;intro e;simp at e;exact h (e ▸ hn)
  have af:∀ {k:Nat} {o:CO},ZaZ os k=true→os[k]?=some o→QT o.dst (looks o)=true:=by
   intro k o am ho;have hk:k<os.length:=(Kc.1 ho).1;have:=K4.1 am k (LB.2 hk);simp only[ZvU,UU,ho,Lx,Ko] at this;rcases this with h | h
   ·omega
   ·exact h
  have ag:∀ {k q t:Nat} {o:CO},Zpv os k=true→os[k]?=some o→o.dst=some t→q≠k→q<os.length→QT (UU os q) [t]=true:=by
   intro k q t o hl ho ht bb hq;simp only[Zpv,Kf] at hl;have:=K4.1 hl.2 q (LB.2 hq);simp only[Lx,beq_iff_eq,UU,ho,ht] at this;rcases this with h | h
   ·exact absurd h bb
   ·simp only[UU];cases a3:os[q]? with
    | none=>rfl
    | some oq=>
     rw[a3] at h;simp only at h ⊢;cases hd:oq.dst with
     | none=>rfl
     | some d=>
      rw[hd] at h;simp only[Zac,bne_iff_ne,ne_eq] at h;simp only[QT,K9,K5,Ln,KD];exact h
  have ah:∀ {k:Nat} {o:CO},Zpv os k=true→os[k]?=some o→∃ t,o.dst=some t:=by
   intro k o hl ho;simp only[Zpv,UU,ho,Kf] at hl;cases hd:o.dst with
   | none=>rw[hd] at hl;cases hl.1
   | some t=>exact⟨t,rfl⟩
  have av:∀ n,(∀ q∈js++ks,QT (UU os q) [n]=true)→okV (gs r.1 n)=true→gs s2.1 n=gs r.1 n:=by
   intro n hn ho;rw[← h4.1 n] at ho ⊢;exact ZCT h3 hn ho
  have ak:∀ q∈js++ks,q≠i∧j<q∧q<os.length:=by
   intro q hq;refine⟨?_,?_,hlt q ?_⟩
   ·rcases Kj.1 hq with hq | hq
    ·have:=(LV.1 hsort.2).2.2 q hq i (by simp);omega
    ·have:=(L6.1 (LV.1 hsort.2).2.1).1 q hq;omega
   ·rcases Kj.1 hq with hq | hq
    ·exact hsort.1 q (by simp[hq])
    ·exact hsort.1 q (by simp[hq])
   ·rcases Kj.1 hq with hq | hq<;>simp[hq]
  have an:ZaZ os j=true→∀ n∈looks oj,∀ q∈js++ks,QT (UU os q) [n]=true:=fun am n hn q hq=>by
   obtain⟨_,h6,h7⟩:=ak q hq;exact aa am ae o_ h7 hn
  have ao:ZaZ os i=true→∀ n∈looks oi,∀ q∈js++ks,QT (UU os q) [n]=true:=fun am n hn q hq=>by
   obtain⟨_,h6,h7⟩:=ak q hq;rcases Kj.1 hq with hq | hq
   ·obtain⟨oq,a3,ap,_⟩:=hj q (by simp[hq]);simp only[XL,Kf] at ap;have h5:=ap.1.1;simp only[UU,a3];cases hd:oq.dst with
    | none=>rfl
    | some d=>
     rw[hd] at h5;simp only[QT,K9,K5,Ln] at h5 ⊢;intro e;simp at e;exact h5 (e ▸ hn)
   ·have:=(L6.1 (LV.1 hsort.2).2.1).1 q hq;exact aa am ab o_ h7 hn
  have ai:∀ {o:CO} {n:Nat},n∈(ZF o.op).flatMap W6→n∈looks o:=fun h=>Kj.2 (.inl h);have aj:∀ {o:CO} {n:Nat},n∈(ZnA o.op).flatMap W6→n∈looks o:=fun {o n} h=>by
   refine Kj.2 (.inl ?_);cases ho:o.op<;>rw[ho] at h<;>simp only[ZnA,List.flatMap_nil,Kx] at h
   simp only[ZF,KT,Kj];exact .inr h
  have a4:∃ t1,ZH C M os nx i s=some t1∧∃ t2,ZH C M os nx j t1=some t2∧X0 t2 s2:=by
   rcases a2 with ⟨aw,ay⟩ | ⟨aw,az,k1,k5,k6⟩ | ⟨aw,az,k0,k1,k2,k3,k4,k5,k6⟩
   case inr.inl=>
    obtain⟨t,ht⟩:=ah k5 ab;refine ZyT ab ae az au ad k1 ht ?_ h1 h2;rw[ht] at k6;simp only[okD] at k6;rw[av t (fun q hq=>?_) k6]
    ·exact k6
    ·obtain⟨h5,_,h7⟩:=ak q hq;exact ag k5 ab ht h5 h7
   case inr.inr=>
    obtain⟨t,ht⟩:=ah k5 ab;refine ZwQ hM ab ae az a0 au (af k4 ab) (af k3 ae) ad hs hfi (hfj j (by simp)) k1 k2 ?_ ht h1 h2;refine(ZwP k0 k1 k6).move (fun n hn=>av n (ao k4 n (ai hn))) (fun n hn=>av n fun q hq=>?_) (fun n hn=>av n (an k3 n (aj hn)));obtain⟨h5,_,h7⟩:=ak q hq;exact ag k5 ab hn h5 h7
   cases az:ZX os i with
   | false=>exact ZBw ab ae az aw a0 au ad hs hfi (hfj j (by simp)) h1 h2
   | true=>
    rcases ay az with hc | ⟨am,hl⟩ | ⟨bc,bd⟩ | ⟨k1,k5,k6⟩ | ⟨k0,k1,k2,k3,k4,k5,k6⟩
    case inr.inr.inr.inl=>
     obtain⟨t,ht⟩:=ah k5 ae;refine ZyS ab ae aw au ad k1 ht ?_ h1 h2;rw[ht] at k6;simp only[okD] at k6;rw[av t (fun q hq=>?_) k6]
     ·exact k6
     ·obtain⟨_,h6,h7⟩:=ak q hq;exact ag k5 ae ht o_ h7
    case inr.inr.inr.inr=>
     obtain⟨t,ht⟩:=ah k5 ae;refine ZyR hM ab ae aw a0 au (af k3 ae) (af k4 ab) ad hs hfi (hfj j (by simp)) k1 k2 ?_ ht h1 h2;refine(ZwP k0 k1 k6).move (fun n hn=>av n (an k3 n (ai hn))) (fun n hn=>av n fun q hq=>?_) (fun n hn=>av n (ao k4 n (aj hn)));obtain⟨_,h6,h7⟩:=ak q hq;exact ag k5 ae hn o_ h7
    ·exact ZBo ab ae hc aw a0 au ad hs hfi (hfj j (by simp)) h1 h2
    ·refine ZyQ ab ae az aw a0 au ad hs hfi (hfj j (by simp)) ⟨am,?_⟩ h1 h2;rcases hl with hl | ⟨be,bf,bg,al⟩
     ·exact .inl hl
     ·refine .inr ⟨be,?_⟩;have a5:∀ x∈ZF oi.op,okW (evO r.1 x)=true→evO s.1 x=evO r.1 x:=by
       intro x hx ax;cases x with
       | v a=>rfl
       | f n=>rfl
       | t n=>
        simp only[evO] at ax ⊢;have hn:n∈looks oi:=by
         rw[looks];exact Kj.2 (.inl (KC.2 ⟨.t n,hx,KD.2 rfl⟩))
        refine Zvy a1 (fun q hq=>?_) ax;rcases Kj.1 hq with hq | hq
        ·obtain⟨oq,a3,ap,_⟩:=hj q hq;simp only[XL,Kf] at ap;have h5:=ap.1.1;simp only[UU,a3];cases hd:oq.dst with
         | none=>rfl
         | some d=>
          rw[hd] at h5;simp only[QT,K9,K5,Ln] at h5 ⊢;intro e;simp at e;exact h5 (e ▸ hn)
        ·refine aa bg ab ?_ (hlt q (Kj.2 (.inr hq))) hn;rcases Ke.1 hq with rfl | hq
         ·omega
         ·have:=LV.1 hsort.2;have:=(L6.1 this.2.1).1 q hq;omega
      have a7:∀ id,Q3 r.1 id (ZF oj.op)=true→Q3 s.1 id (ZF oj.op)=true:=by
       intro id bh;have bi:∀ xs:List Opd,(∀ z∈xs,z∈ZF oj.op)→Q3 r.1 id xs=true→Q3 s.1 id xs=true:=by
        intro xs
        induction xs with
        | nil=>intro _ _;rfl
        | cons z zs ihz=>
         intro a6 hz;simp only[Q3,Kf] at hz ⊢;refine⟨?_,ihz (fun z' bj=>a6 z' (by simp[bj])) hz.2⟩;cases z with
         | v a=>exact hz.1
         | f n=>exact hz.1
         | t n=>
          simp only[evO] at hz ⊢;have hn:n∈looks oj:=by
           rw[looks];exact Kj.2 (.inl (KC.2 ⟨.t n,a6 (.t n) (Lm ..),KD.2 rfl⟩))
          rw[ZCT a1 (fun q hq=>?_) (ZEj hz.1)]
          ·exact hz.1
          ·refine aa bf ae ?_ (hlt q hq) hn;rcases Kj.1 hq with hq | hq
           ·rcases Ke.1 hq with rfl | hq
            ·omega
            ·have:=hsort.1 q (by simp[hq]);omega
           ·have:=hsort.1 q (by simp only[Kj];exact .inr hq);omega
       exact bi _ (fun _ h=>h) bh
      cases ho:oi.op<;>rw[ho] at am al<;>first | (cases am;done) | skip
      case store slc sz x y=>
       simp only[Zlw,Kf] at al ⊢;obtain⟨al,ar⟩:=al;have ax:okV (evO r.1 x)=true:=by
        cases ht:VH (evO r.1 x) with
        | none=>rw[ht] at al;simp[ZfN] at al
        | some id=>cases hv:evO r.1 x<;>rw[hv] at ht<;>simp only[VH] at ht<;>first | (cases ht;done) | rfl
       rw[a5 x (by rw[ho];simp[ZF]) (Zp7 ax)];constructor
       ·cases ht:VH (evO r.1 x) with
        | none=>rw[ht] at al;simp[ZfN] at al
        | some id=>rw[ht] at al;exact a7 id al
       ·by_cases hp:∃ b1 b2 b3 b4,evO r.1 x=.prow b1 b2 b3 b4
        ·obtain⟨b1,b2,b3,b4,hp⟩:=hp;rw[hp] at ar ⊢;rcases ZoA ar with ⟨d,hv⟩ | hv
         ·rw[a5 y (by rw[ho];simp[ZF]) (by rw[hv];rfl),hv];rfl
         ·rw[a5 y (by rw[ho];simp[ZF]) (Zp7 hv.1)];exact ZBn ⟨hv.1,Zqz a7 hv.2⟩
        ·exact Zvz fun b1 b2 b3 b4 e=>hp ⟨b1,b2,b3,b4,e⟩
      case append sz by_ str flat x y=>
       simp only[Zlw,Kf,Lx] at al ⊢;obtain⟨ar,aq⟩:=al;constructor
       ·have ax:okW (evO r.1 x)=true:=by
         cases hv:evO r.1 x<;>rw[hv] at ar<;>first | rfl | (cases ar;done) | skip
         case tup vs=>cases vs<;>first | rfl | cases ar
        rw[a5 x (by rw[ho];simp[ZF]) ax];cases hv:evO r.1 x<;>rw[hv] at ar<;>first | (cases ar;done) | exact a7 _ ar | skip
        ·rfl
        case tup vs=>cases vs<;>first | rfl | cases ar
       ·rcases aq with aq | aq
        ·exact .inl aq
        ·right
         have ax:okW (evO r.1 y)=true:=by
          unfold seenSrc at aq;split at aq
          ·rename_i k hk;rw[hk];rfl
          ·exact Zp7 aq
         rw[a5 y (by rw[ho];simp[ZF]) ax];unfold seenSrc at aq ⊢;split at aq
         ·exact a7 _ aq
         ·exact aq
    ·exact ZBq ab ae aw au bc bd h1 h2
  obtain⟨t1,g1,t2,g2,g3⟩:=a4;obtain⟨r3,g4,g5⟩:=ZqQ g3.symm h3;refine⟨t1,g1,r3,?_,g5.symm.trans h4⟩;simp only[KF,runL,g2,Zh];exact g4
def rem (n:Nat) (listed:Array Bool):List Nat:=(List.range n).filter fun i=>!listed.getD i true
theorem Zi3 {n:Nat} {aa:Array Bool} {i:Nat}:i∈rem n aa↔i<n∧aa.getD i true=false:=by
 simp[rem]
theorem ZqF (n:Nat) (aa:Array Bool):(rem n aa).Pairwise (· < ·):=List.Pairwise.filter _ List.pairwise_lt_range
theorem ZEm {n:Nat} {aa:Array Bool} (ad:aa.size=n) (i:Nat):rem n (aa.setIfInBounds i true)=(rem n aa).filter fun j=>j != i:=by
 simp only[rem,List.filter_filter];refine List.filter_congr fun j hj=>?_;have ae:j<n:=LB.1 hj;by_cases ab:i=j
 ·subst ab;simp[ad,ae]
 ·simp[Array.getElem?_setIfInBounds_ne ab,Ne.symm ab]
def Zt6 (nx:Nat) (listed:Array Bool) (id:Nat):Prop:=id<nx∨∃ k,listed.getD k false=true∧nx+64*k≤id∧id<nx+64*k+64
theorem Ut {l:Array Bool} {k:Nat} (h:l.getD k false=true):k<l.size∧l.getD k true=true:=by
 rcases K7 k l.size with h1 | h1
 ·refine⟨h1,?_⟩;simp[h1] at h ⊢;exact h
 ·simp[Array.getElem?_eq_none h1] at h
theorem ZqG {nx i:Nat} {aa:Array Bool} (h:aa.getD i true=false):Xl (Zt6 nx aa) (nx+64*i):=by
 intro id h1 h2 hu;rcases hu with hu | ⟨k,hk,h3,h4⟩
 ·omega
 ·have ab:k≠i:=fun e=>by subst e;rw[(Ut hk).2] at h;cases h
  rcases L5 ab with h5 | h5<;>omega
theorem ZqH {nx i:Nat} {aa:Array Bool} (hi:i<aa.size):∀ id,U8 (Zt6 nx aa) (nx+64*i) id→Zt6 nx (aa.setIfInBounds i true) id:=by
 rintro id ((h | ⟨k,hk,h1⟩) | h)
 ·exact .inl h
 ·exact .inr ⟨k,getD_set_true hk,h1⟩
 ·exact .inr ⟨i,by simp[hi],h.1,h.2⟩
end
end Go.Abs
