import Derived.Test.YtfnegoimdljanaaGreatDoorAbsDrawD
set_option linter.unusedSimpArgs false
set_option linter.unusedVariables false
namespace Go.Abs
open Go
section
variable {P:Program} {nt:Nat}
theorem Zkn {α β:Type} {f:α→Option β}:∀ {l:List α} {r:List β},QF f l=some r→∀ (i:Nat) (x:α),l[i]?=some x→∃ y,r[i]?=some y∧f x=some y
 | [],r,h,i,x,hx=>by simp at hx
 | a :: l,r,h,i,x,hx=>by
  simp only[QF] at h;obtain⟨y,h1,h⟩:=Za h;obtain⟨ys,h2,h⟩:=Za h;cases h;cases i with
  | zero=>simp at hx;subst hx;exact⟨y,by simp,h1⟩
  | succ i=>simp at hx;obtain⟨z,h3,h4⟩:=Zkn h2 i x hx;exact⟨z,by simpa using h3,h4⟩
theorem ZcU {α β:Type} {f:α→Option β}:∀ {l:List α} {r:List β},QF f l=some r→r.length=l.length
 | [],r,h=>by simp only[QF] at h;cases h;rfl
 | a :: l,r,h=>by
  simp only[QF] at h;obtain⟨y,h1,h⟩:=Za h;obtain⟨ys,h2,h⟩:=Za h;cases h;simp[ZcU h2]
theorem Zw3 {C:Orc} {M:Zq} (hC:QJ P C) {ops:Array Oper} {os:List CO} (ad:QF (ZnG P nt ops.toList) ops.toList=some os) {nx i:Nat} {s s' : Sl×Hp} {U:Nat→Prop} (hs:ZiN nt s U) (hf:Xa U (nx+64*i))
  (h:ZH C M os nx i s=some s'):ZiN nt s' (UE U (nx+64*i)):=by
 obtain⟨F,A,I,Γ,a,w,aa⟩:=hs;unfold ZH at h;obtain⟨co,ae,h⟩:=Za h;have ag:i<ops.toList.length:=by rw[← ZcU ad];exact(Kc.1 ae).1
 obtain⟨am,h1,h2⟩:=Zkn ad i ops.toList[i] (KK ag);rw[ae] at h1;cases h1;obtain⟨hg,ah,ab,af⟩:=Zfa h2;unfold ZN at h;obtain⟨b,hw,h⟩:=Za h;cases b with
 | true=>
  simp only[Kl] at h;obtain⟨ce,ai,aj,rfl⟩:=Xr h;have ak:=ZwX hC aa ah hf ab aj (Zef ai) (fun a' w'=>∃ F A I Γ a w,Sim nt F A I Γ (UE U (nx+64*i)) (ce.on co.dst s.1 s.2).1 (ce.on co.dst s.1 s.2).2 a w) (fun _ _ _=>False) fun u w' hp=>by
   obtain⟨I1,Γ1,b1,b2,b3,b4,b5⟩:=hp;rw[← af] at b5;exact⟨F,A,I1,Γ1,_,_,b5⟩
  obtain⟨_,_,al⟩:=Oper.wp_ex ak;exact al
 | false=>
  simp only[Ka,Km] at h;cases h;obtain⟨I1,Γ1,b1,b2,b3,b4,b5⟩:=aa.pure (U':=UE U (nx+64*i)) (v:=.tup []) (u:=undef) (dst:=co.dst) (fun id hu=>.inl hu) Zmt (by rw[af];exact ab);exact⟨F,A,I1,Γ1,_,_,b5⟩
theorem Zsw {U:Nat→Prop} {nx i j:Nat} (aa:i≠j) (h:Xa U (nx+64*i)):Xa (UE U (nx+64*j)) (nx+64*i):=by
 intro id h1 h2 hu;rcases hu with hu | hu
 ·exact h id h1 h2 hu
 ·rcases LX aa with h3 | h3<;>omega
theorem ZCo {id:Nat} {v:AV} (h:ZbP id v=true):okV v=true:=by
 cases v with
 | tup vs=>cases vs with
  | nil=>rfl
  | cons x r=>cases h
 | _=>first | rfl | cases h
def okW (v:AV):Bool:=okV v
theorem ZoR {v:AV} (h:okV v=true):okW v=true:=h
theorem ZAT {g:List Nat} {v:AV} (h:okW (kill g v)=true):kill g v=v:=Zbz h
theorem ZCp {C:Orc} {M:Zq} {os:List CO} {nx q n:Nat} {s r:Sl×Hp} (h:ZH C M os nx q s=some r) (hd:QL (Ur os q) [n]=true) (hk:okW (gs r.1 n)=true):gs s.1 n=gs r.1 n:=by
 unfold ZH at h;obtain⟨o,ho,h⟩:=Za h;have aa:o.dst≠some n:=by
  intro e;simp[Ur,ho,e,QL] at hd
 unfold ZN at h;obtain⟨b,_,h⟩:=Za h;cases b with
 | true=>
  simp only[Kl] at h;obtain⟨ce,_,_,rfl⟩:=Xr h;have e1:gs (ce.on o.dst s.1 s.2).1 n=kill ce.gone (gs s.1 n):=by
   show gs (Zs (Xc ce.gone s.1) o.dst ce.eff.val) n=_;rw[QC,Ke aa,QN]
  rw[e1] at hk ⊢;exact(ZAT hk).symm
 | false=>
  simp only[Ka,Km] at h;cases h;show gs s.1 n=gs (Zs s.1 o.dst (.tup [])) n;rw[QC,Ke aa]
theorem Zt6 {C:Orc} {M:Zq} {os:List CO} {nx n:Nat}:∀ {l:List Nat} {s r:Sl×Hp},runL C M os nx l s=some r→(∀ q∈l,QL (Ur os q) [n]=true)→okW (gs r.1 n)=true→gs s.1 n=gs r.1 n
 | [],s,r,h,_,_=>by simp only[runL] at h;cases h;rfl
 | i :: l,s,r,h,hd,hk=>by
  simp only[runL] at h;obtain⟨s1,h1,h⟩:=Za h;have h2:=Zt6 h (fun q hq=>hd q (by simp[hq])) hk;rw[← h2] at hk ⊢;exact ZCp h1 (hd i (by simp)) hk
theorem ZAU {C:Orc} {M:Zq} {os:List CO} {nx n:Nat} {l:List Nat} {s r:Sl×Hp} (h:runL C M os nx l s=some r) (hd:∀ q∈l,QL (Ur os q) [n]=true) (hk:okV (gs r.1 n)=true):gs s.1 n=gs r.1 n:=Zt6 h hd (ZoR hk)
theorem Zw4 {C:Orc} {M:Zq} {sl:Sl} {hp:Hp} {base:Nat} {c:COp} {ce:Ze} (hc:Zxn c=true) (h:vop C M sl hp base c=some ce):ZbR (vop C M sl hp base c)=some ce:=by
 rw[h];have aa:ce.gone=[]∧ce.eff.sets=[]∧ce.eff.dels=[]∧ce.eff.frz=[]:=by
  have o1:∀ {v:AV},Qp v=some ce→ce.gone=[]∧ce.eff.sets=[]∧ce.eff.dels=[]∧ce.eff.frz=[]:=fun h=>by cases h;exact⟨rfl,rfl,rfl,rfl⟩
  have o2:∀ {v:Option AV},VO v=some ce→ce.gone=[]∧ce.eff.sets=[]∧ce.eff.dels=[]∧ce.eff.frz=[]:=fun h=>by obtain⟨v,_,h⟩:=Za h;exact o1 h
  cases c<;>simp only[Zxn,Ka] at hc<;>simp only[vop] at h
  case stuck=>cases h
  case move x=>exact o1 h
  case assign s x=>
   unfold ZeW at h;split at h
   ·obtain⟨s,_,h⟩:=Za h;cases h;exact⟨rfl,rfl,rfl,rfl⟩
   ·exact o1 h
  case pick c a b=>
   unfold ZgO at h;split at h
   ·split at h<;>exact o1 h
   ·cases h
  case alloc slc cs=>
   unfold ZgP ZpR at h;split at h
   ·split at h<;>first | (cases h;done) | (cases h;exact⟨rfl,rfl,rfl,rfl⟩)
   ·split at h<;>(cases h;exact⟨rfl,rfl,rfl,rfl⟩)
  case box x=>
   unfold ZzQ at h;split at h
   ·cases h;exact⟨rfl,rfl,rfl,rfl⟩
   ·cases h
  case build zs ps=>obtain⟨cs,_,h⟩:=Za h;exact o1 h
  case load g s a=>exact o2 h
  case nilCheck x=>unfold JH at h;split at h<;>first | exact o1 h | cases h
  case bin op eq x y=>
   unfold ZgQ at h;split at h
   ·split at h
    ·exact o2 h
    ·cases h
   ·exact o2 h
  case un op x=>exact o2 h
  case eqA neg n x y=>
   unfold Zum at h;split at h
   ·obtain⟨r,_,h⟩:=Za h;exact o1 h
   ·cases h
  case convI k x=>unfold Go.Abs.convI at h;split at h<;>first | exact o1 h | cases h
  case convS x=>unfold Go.Abs.convS at h;split at h<;>first | exact o1 h | cases h
  case fn f cs=>exact o2 h
  case make s b z l c=>
   obtain⟨l,_,h⟩:=Za h;obtain⟨c,_,h⟩:=Za h;unfold ZsS at h;split at h
   ·cases h;exact⟨rfl,rfl,rfl,rfl⟩
   ·cases h
  case slice s x lo hi=>exact o2 h
  case sliceS x lo hi=>exact o2 h
  case slice0 x hi mx=>exact o2 h
  case slice3 s x lo hi mx=>exact o2 h
  case shift off x=>unfold V0 at h;split at h<;>first | exact o1 h | cases h
  case part g s off x=>exact o2 h
  case iaS s x i=>
   obtain⟨n,_,h⟩:=Za h;unfold ZiV at h;split at h
   ·exact o2 h
   ·cases h
  case iaA len s x i=>
   obtain⟨n,_,h⟩:=Za h;unfold ZpU at h;split at h
   ·unfold V0 at h;split at h<;>first | exact o1 h | cases h
   ·cases h
  case ixS x i=>
   obtain⟨n,_,h⟩:=Za h;unfold Zxk at h;split at h
   ·unfold ZvJ at h;split at h
    ·obtain⟨b,_,h⟩:=Za h;exact o1 h
    ·cases h
   ·cases h
  case ixA g s len x i=>
   obtain⟨n,_,h⟩:=Za h;unfold ZzS at h;split at h
   ·exact o2 h
   ·cases h
  case nth i x=>unfold ZvK at h;split at h<;>first | exact o2 h | cases h
  case len x=>obtain⟨n,_,h⟩:=Za h;exact o1 h
  case lenS x=>obtain⟨n,_,h⟩:=Za h;exact o1 h
  case min x y=>unfold ZnD at h;split at h<;>first | (split at h<;>first | exact o1 h | cases h) | cases h
  case max x y=>unfold ZnE at h;split at h<;>first | (split at h<;>first | exact o1 h | cases h) | cases h
 simp only[ZbR,Zg,aa.1,aa.2.1,aa.2.2.1,aa.2.2.2,Ze4]
theorem Zzp {C:Orc} {M:Zq} {nx i:Nat} {o:CO} (hc:Zxn o.op=true) (s:Sl×Hp):ZN C M nx i true o s=ZN C M nx i false o s:=by
 unfold ZN;have:VQ C M nx i true o.op s.1 s.2=VQ C M nx i false o.op s.1 s.2:=by
  unfold VQ;simp only[Kl,Ka,Km];cases h:vop C M s.1 s.2 (nx+64*i) o.op with
  | none=>rfl
  | some ce=>rw[← h,Zw4 hc h,h]
 rw[this]
theorem Zsx {A B:Hp} (hd:∀ k x y,(k,x)∈A→(k,y)∈B→False) (hp:Hp) (id:Nat):lkp (Zi (Zi hp A) B) id=lkp (Zi (Zi hp B) A) id:=by
 have aa:∀ (l:Hp) (hp hp' : Hp),lkp hp id=lkp hp' id→lkp (Zi hp l) id=lkp (Zi hp' l) id:=by
  intro l
  induction l with
  | nil=>intro hp hp' h;exact h
  | cons q r ih=>
   intro hp hp' h;obtain⟨k,x⟩:=q;simp only[Zi];exact ih _ _ (by rw[Qg,Qg,h])
 by_cases h1:∃ o,(id,o)∈A
 ·have h2:∀ o,(id,o)∉B:=fun o ho=>by
   obtain⟨o',ab⟩:=h1;exact hd id o' o ab ho
  rw[ZD B _ id h2];exact aa A _ _ (ZD B hp id h2).symm
 ·have h2:∀ o,(id,o)∉A:=fun o ho=>h1 ⟨o,ho⟩;rw[ZD A _ id h2];exact aa B _ _ (ZD A hp id h2)
theorem Zvi {hp:Hp} {v:AV} {q:D×Bool×List Nat} (h:ZaV hp v=some q):∀ i∈q.2.2,i∈Zn v:=by
 intro i hi;cases v<;>simp only[ZaV] at h<;>first | (cases h;simp at hi;done) | (cases h;done) | skip
 obtain⟨p,_,h⟩:=Za h;cases h;simpa [Zn] using hi
theorem Znl {hp:Hp}:∀ {vs:List AV} {q:List D×Bool×List Nat},VG hp vs=some q→∀ i∈q.2.2,i∈vs.flatMap Zn
 | [],q,h,i,hi=>by simp only[VG] at h;cases h;simp at hi
 | v :: vs,q,h,i,hi=>by
  simp only[VG] at h;obtain⟨q1,h1,h⟩:=Za h;obtain⟨q2,h2,h⟩:=Za h;split at h
  ·cases h;rcases Kh.1 hi with hi | hi
   ·exact Kz.2 ⟨v,by simp,Zvi h1 i hi⟩
   ·obtain⟨c,hc,aa⟩:=Kz.1 (Znl h2 i hi);exact Kz.2 ⟨c,by simp[hc],aa⟩
  ·cases h
theorem Zvj {hp:Hp} {n:Nat} {v:AV} {q:D×List Nat} (h:ZgJ hp n v=some q):∀ i∈q.2,i∈Zn v:=by
 unfold ZgJ at h;split at h
 ·split at h
  ·cases h;simp
  ·cases h
 ·cases h;simp
 ·unfold Zig at h;split at h
  ·split at h
   ·cases h;simp[Zn]
   ·cases h
  ·split at h
   ·cases h;simp[Zn]
   ·cases h
  ·cases h
 ·cases h
theorem Znm {hp:Hp} {n:Nat}:∀ {vs:List AV} {q:List D×List Nat},VH hp n vs=some q→∀ i∈q.2,i∈vs.flatMap Zn
 | [],q,h,i,hi=>by simp only[VH] at h;cases h;simp at hi
 | v :: vs,q,h,i,hi=>by
  simp only[VH] at h;obtain⟨q1,h1,h⟩:=Za h;obtain⟨q2,h2,h⟩:=Za h;split at h
  ·cases h;rcases Kh.1 hi with hi | hi
   ·exact Kz.2 ⟨v,by simp,Zvj h1 i hi⟩
   ·obtain⟨c,hc,aa⟩:=Kz.1 (Znm h2 i hi);exact Kz.2 ⟨c,by simp[hc],aa⟩
  ·cases h
theorem Zzq {hp:Hp} {slc:List (Option Nat)} {s base:Nat} {vs:List AV} {x:AV} {e:Eff} (h:Zaz hp slc s base vs x=some e):∃ id o,Vh x=some id∧e.val=.junk∧e.sets=[(id,o)]∧(∀ k∈e.dels,k∈vs.flatMap Zn∧∃ a b c d,x=.prow a b c d)∧∀ i∈e.frz,i∈vs.flatMap Zn:=by
 cases x<;>simp only[Zaz] at h<;>first | cases h | skip
 case ptr id off=>
  unfold ZgI at h;split at h
  ·split at h
   ·split at h<;>(cases h;exact⟨id,_,rfl,rfl,rfl,fun i hi=>by simp at hi,fun i hi=>by simp at hi⟩)
   ·cases h
  ·cases h
 case prow id sz i off=>
  unfold ZbG at h;split at h
  ·split at h
   ·obtain⟨x,_,h⟩:=Za h;obtain⟨q,hq,h⟩:=Za h;unfold Zif at h;split at h
    ·cases h;exact⟨id,_,rfl,rfl,rfl,fun i hi=>by simp at hi,Znl hq⟩
    ·cases h
   ·cases h
  ·split at h
   ·obtain⟨x,_,h⟩:=Za h;obtain⟨q,hq,h⟩:=Za h;unfold Zih at h;split at h
    ·cases h;exact⟨id,_,rfl,rfl,rfl,fun k hk=>⟨Znm hq k hk,_,_,_,_,rfl⟩,fun i hi=>by simp at hi⟩
    ·cases h
   ·cases h
  ·cases h
def FzEq (o o' : Option Zk):Prop:=∃ b:Bool,o'=o.map fun x=>if b then Y5 x else x
theorem FzEq.seen {o o' : Option Zk} (h:FzEq o o'):ZaR [] o o':=by
 obtain⟨b,rfl⟩:=h;have hk:∀ x:Zk,Xp [] x=x:=fun x=>by
  cases x with
  | box cs=>simp only[Xp];congr 1;rw[KV (g:=id) (fun a _=>Zed a),LH]
  | row _ _ _ _=>rfl
  | gone=>rfl
  | tree _ _ _ l=>rcases l with _ | ⟨_ | _,_⟩<;>simp[Xp,VY]
 have:=Zvs (g:=[]) (b:=b) o;have e:(o.map (Xp []))=o:=by cases o<;>simp[hk]
 rw[e] at this;exact this
theorem vop_fz {C:Orc} {M:Zq} {sl:Sl} {hp hp' : Hp} {base:Nat} {c:COp} (hc:UR c=true) (h:∀ x∈ZF c,∀ k∈Zx (evO sl x),FzEq (lkp hp k) (lkp hp' k)):vop C M sl hp' base c=vop C M sl hp base c:=by
 have hs:∀ x∈ZF c,Zkr [] hp hp' (evO sl x):=fun x hx k hk=>(h x hx k hk).seen;cases c<;>simp only[UR,Ka] at hc<;>simp only[ZF] at h hs<;>simp only[vop]
 case load g s a=>
  have h1:=h a (by simp);have h2:=hs a (by simp);cases hv:evO sl a<;>rw[hv] at h1 h2<;>simp only[WJ]
  case ptr id off=>
   obtain⟨b,e⟩:=h1 id (by simp[Zx,ZA,Zn]);rw[e];cases lkp hp id with
   | none=>rfl
   | some o=>cases o<;>cases b<;>rfl
  case prow id sz i off=>
   obtain⟨b,e⟩:=h1 id (by simp[Zx,ZA,Zn]);rw[e];cases lkp hp id with
   | none=>rfl
   | some o=>cases o<;>cases b<;>rfl
 case slice s x lo hi=>rw[ZgC (hs x (by simp))]
 case slice0 x hi mx=>unfold slice0;rw[Zeh (hs x (by simp))]
 case iaS s x i=>
  congr 1
  funext n
  simp only[ZiV];rw[Zay (hs x (by simp))]
 case len x=>rw[Zeh (hs x (by simp))]
def Zko (sl:Sl) (a:COp):COp→Bool
 | .store _ _ x y=>Ze2 sl a (Vh (evO sl x))&&Vz sl a (evO sl x) (evO sl y)
 | .append _ _ _ flat x y=>US sl a (evO sl x)&&(flat || seenSrc sl a (evO sl y))
 | _=>false
def LooseS (s:Sl) (a b:COp):Prop:=ZpY b=true∧(V1 a=true∨(UR a=true∧Zko s a b=true))
theorem Zgz {sl:Sl} {id:Nat}:∀ {xs:List Opd},QS sl id xs=true→∀ x∈xs,ZbP id (evO sl x)=true
 | [],_,x,hx=>by simp at hx
 | y :: ys,h,x,hx=>by
  simp only[QS,Kf] at h;rcases Kd.1 hx with rfl | hx
  ·exact h.1
  ·exact Zgz h.2 x hx
theorem Znn {sl:Sl} {xs:List Opd}:∀ {ks:List Nat},XU sl xs ks=true→∀ k∈ks,QS sl k xs=true
 | [],_,k,hk=>by simp at hk
 | j :: r,h,k,hk=>by
  simp only[XU,Kf] at h;rcases Kd.1 hk with rfl | hk
  ·exact h.1
  ·exact Znn h.2 k hk
theorem Zno {sl:Sl} {a:COp} {b1 b2 b3 b4:Nat} {v:AV} (h:Vz sl a (.prow b1 b2 b3 b4) v=true):(∃ d,v=.d d)∨(okV v=true∧XU sl (ZF a) (Zx v)=true):=by
 cases v<;>first | exact .inl ⟨_,rfl⟩ | (simp only[Vz,Kf] at h;exact .inr h)
theorem Zzr {sl:Sl} {a:COp} {b1 b2 b3 b4:Nat} {v:AV} (h:okV v=true∧XU sl (ZF a) (Zx v)=true):Vz sl a (.prow b1 b2 b3 b4) v=true:=by
 cases v<;>first | rfl | (simp only[Vz,Kf];exact h)
theorem Zt7 {sl:Sl} {a:COp} {x v:AV} (hx:∀ a b c d,x≠.prow a b c d):Vz sl a x v=true:=by
 cases x<;>first | rfl | exact absurd rfl (hx _ _ _ _)
theorem Zpp {sl sl' : Sl} {xs:List Opd} (h:∀ k,QS sl k xs=true→QS sl' k xs=true):∀ {ks:List Nat},XU sl xs ks=true→XU sl' xs ks=true
 | [],_=>rfl
 | j :: r,hh=>by
  simp only[XU,Kf] at hh ⊢;exact⟨h j hh.1,Zpp h hh.2⟩
theorem Zpq {id:Nat} {v:AV} (h:ZbP id v=true):id∉Zx v:=by
 cases v with
 | tup vs=>cases vs with
  | nil=>simp[Zx]
  | cons x r=>cases h
 | _=>simp[ZbP,Zx,ZA,Zn] at h ⊢ <;> exact fun e=>h e.symm
theorem Zw5 {hp:Hp} {sz by_ base:Nat} {str flat:Bool} {x y:AV} {e:Eff} (h:UO hp sz by_ str flat base x y=some e):e.sets=[]∧e.frz=[]∧((x=.nil∧e.dels=[])∨∃ id,e.dels=[id]∧(x=.own id∨∃ o n,x=.ownv id o n)):=by
 unfold UO at h;obtain⟨q,_,h⟩:=Za h;split at h
 ·cases x<;>simp only[ZiU] at h<;>first | (cases h;done) | skip
  ·split at h
   ·cases h;exact⟨rfl,rfl,.inl ⟨rfl,rfl⟩⟩
   ·cases h
  ·split at h
   ·cases h
   ·unfold ZpQ at h;split at h
    ·split at h
     ·cases h;exact⟨rfl,rfl,.inr ⟨_,rfl,.inl rfl⟩⟩
     ·cases h
    ·cases h
  ·split at h
   ·split at h
    ·cases h
    ·unfold ZkD at h;split at h
     ·split at h
      ·cases h;exact⟨rfl,rfl,.inr ⟨_,rfl,.inr ⟨_,_,rfl⟩⟩⟩
      ·cases h
     ·cases h
   ·split at h
    ·unfold ZkC at h;split at h
     ·split at h
      ·cases h;exact⟨rfl,rfl,.inr ⟨_,rfl,.inr ⟨_,_,rfl⟩⟩⟩
      ·cases h
     ·cases h
    ·unfold ZkB at h;split at h
     ·split at h
      ·cases h;exact⟨rfl,rfl,.inr ⟨_,rfl,.inr ⟨_,_,rfl⟩⟩⟩
      ·cases h
     ·cases h
 ·cases h
theorem Zpr {hp:Hp} {x:AV} {k:Nat} (h:k∈XO hp x):x=.own k:=by
 unfold XO at h;split at h
 ·split at h
  ·simp at h;subst h;rfl
  ·simp at h
 ·simp at h
theorem Zvk {hp:Hp} {sz by_ base:Nat} {str flat:Bool} {x y:AV} {e:Eff}:∀ {ms:List Nat},(∀ k∈ms,x=.own k∨y=.own k)→Y8 hp sz by_ str flat base x y ms=some e→e.frz=[] ∧
  e.sets=[]∧∀ k∈e.dels,(x=.own k∨∃ o n,x=.ownv k o n)∨(flat=false∧y=.own k):=by
 have plain:∀ {hp' : Hp} {e:Eff},UO hp' sz by_ str flat base x y=some e→e.sets=[]∧e.frz=[]∧∀ k∈e.dels,x=.own k∨∃ o n,x=.ownv k o n:=by
  intro hp' e h;obtain⟨g1,g2,g3⟩:=Zw5 h;refine⟨g1,g2,fun k hk=>?_⟩;rcases g3 with ⟨_,g3⟩ | ⟨id,g3,g4⟩
  ·rw[g3] at hk;simp at hk
  ·rw[g3] at hk;simp at hk;subst hk;exact g4
 intro ms hm h;cases ms with
 | nil=>
  simp only[Y8] at h;obtain⟨g1,g2,g3⟩:=plain h;exact⟨g2,g1,fun k hk=>.inl (g3 k hk)⟩
 | cons i r=>
  simp only[Y8] at h;split at h
  ·cases h
  ·rename_i aa;obtain⟨e0,h1,h⟩:=Za h;cases h;obtain⟨g1,g2,g3⟩:=plain h1;refine⟨g2,g1,fun k hk=>?_⟩;rcases Kh.1 hk with hk | hk
   ·exact .inl (g3 k hk)
   ·rcases hm k hk with hk | hk
    ·exact .inl (.inl hk)
    ·exact .inr ⟨by simpa using aa,hk⟩
theorem ZAV {hp:Hp} {sz by_ base:Nat} {x y:AV} {ce:Ze} (h:appT hp sz by_ base x y=some ce):ce.gone=[]∧ce.eff.frz=[]∧ce.eff.sets=[]∧∀ k∈ce.eff.dels,x=.own k∨y=.own k:=by
 unfold appT at h;obtain⟨e,h1,h⟩:=Za h;cases h;obtain⟨q,h2,h1⟩:=Za h1;have hy:y=.own q.1:=by
  unfold ZcY at h2;split at h2
  ·obtain⟨q2,_,h2⟩:=Za h2;cases h2;rfl
  ·cases h2
 split at h1
 ·cases x<;>simp only[Za4] at h1<;>first | (cases h1;done) | skip
  ·split at h1
   ·cases h1;exact⟨rfl,rfl,rfl,fun k hk=>by simp at hk;subst hk;exact .inr hy⟩
   ·cases h1
  ·obtain⟨q3,_,h1⟩:=Za h1;split at h1
   ·cases h1;refine⟨rfl,rfl,rfl,fun k hk=>?_⟩;simp at hk;rcases hk with rfl | rfl
    ·exact .inl rfl
    ·exact .inr hy
   ·cases h1
 ·cases h1
theorem Zvl {hp:Hp} {sz by_ base:Nat} {str flat:Bool} {x y:AV} {ce:Ze} (h:ZvL hp sz by_ str flat base x y=some ce):ce.gone=[]∧ce.eff.frz=[] ∧
  ce.eff.sets=[]∧∀ k∈ce.eff.dels,(x=.own k∨∃ o n,x=.ownv k o n)∨(flat=false∧y=.own k):=by
 have kx:∀ k∈XO hp x,x=.own k∨y=.own k:=fun k hk=>.inl (Zpr hk);have ky:∀ k∈XO hp y,x=.own k∨y=.own k:=fun k hk=>.inr (Zpr hk);have melt:∀ {ms:List Nat},(∀ k∈ms,x=.own k∨y=.own k)→Zgr (Y8 hp sz by_ str flat base x y ms)=some ce→ce.gone=[]∧ce.eff.frz=[] ∧
   ce.eff.sets=[]∧∀ k∈ce.eff.dels,(x=.own k∨∃ o n,x=.ownv k o n)∨(flat=false∧y=.own k):=by
  intro ms hm h;obtain⟨e,h1,h⟩:=Za h;cases h;exact⟨rfl,Zvk hm h1⟩
 unfold ZvL at h;generalize XO hp x=mx at h kx;generalize XO hp y=my at h ky;cases mx with
 | nil=>exact melt ky h
 | cons i r=>
  cases my with
  | nil=>exact melt kx h
  | cons j t=>
   simp only[Zdt] at h;split at h
   ·cases h
   ·rename_i hc;obtain⟨g1,g2,g3,g4⟩:=ZAV h;have hf:flat=false:=by cases flat<;>simp_all
    exact⟨g1,g2,g3,fun k hk=>(g4 k hk).elim (fun e=>.inl (.inl e)) fun e=>.inr ⟨hf,e⟩⟩
theorem Zps {ds:List Nat} {l:Hp} {k:Nat} (h:k∈ds):lkp (Z6 l ds) k=none:=by
 cases hl:lkp (Z6 l ds) k with
 | none=>rfl
 | some o=>exact absurd h (V4 ds l k o hl).2
theorem ZCq {C:Orc} {M:Zq} {sl:Sl} {hp:Hp} {base:Nat} {c:COp} {ce:Ze} (hc:ZpY c=true) (h:vop C M sl hp base c=some ce) :
  ce.gone=[]∧(∀ k,k∈ce.eff.dels∨(∃ o,(k,o)∈ce.eff.sets)→(∃ x∈ZF c,k∈Zx (evO sl x))∧∀ a,Zko sl a c=true→QS sl k (ZF a)=true)∧∀ k∈ce.eff.frz,∃ x∈ZF c,k∈Zx (evO sl x):=by
 cases c<;>first | (cases hc;done) | skip
 case store slc sz x y=>
  simp only[vop,Zgr] at h;obtain⟨e,h7,h⟩:=Za h;cases h;obtain⟨id,o,ht,g1,g2,g3,g4⟩:=Zzq h7;refine⟨rfl,fun k hk=>?_,fun k hk=>⟨y,by simp[ZF],Zpg (U:=fun k=>k∈Zx (evO sl y)) (fun _ h=>h) k (g4 k hk)⟩⟩;rcases hk with hk | ⟨o',hk⟩
  ·obtain⟨k1,b1,b2,b3,b4,k2⟩:=g3 k hk;have k3:=Zpg (U:=fun k=>k∈Zx (evO sl y)) (fun _ h=>h) k k1;refine⟨⟨y,by simp[ZF],k3⟩,fun a ha=>?_⟩;simp only[Zko,Kf,k2] at ha;rcases Zno ha.2 with ⟨d,hv⟩ | hv
   ·rw[hv] at k3;simp[Zx,ZA,Zn] at k3
   ·exact Znn hv.2 k k3
  ·simp only[g2,KG,Prod.mk.injEq] at hk;have aa:=hk.1;subst aa;refine⟨⟨x,by simp[ZF],?_⟩,fun a ha=>?_⟩
   ·cases hv:evO sl x<;>rw[hv] at ht<;>simp only[Vh] at ht<;>cases ht<;>simp[Zx,ZA,Zn]
   ·simp only[Zko,Kf,ht,Ze2] at ha;exact ha.1
 case append sz by_ str flat x y=>
  simp only[vop] at h;obtain⟨g0,g2,g1,g3⟩:=Zvl h;refine⟨g0,fun k hk=>?_,fun k hk=>by simp only[g2,KC] at hk⟩;have ab:k∈ce.eff.dels:=by
   rcases hk with hk | ⟨o',hk⟩
   ·exact hk
   ·simp only[g1,KC] at hk
  rcases g3 k ab with g4 | ⟨g4,g5⟩
  ·refine⟨⟨x,by simp[ZF],?_⟩,fun a ha=>?_⟩
   ·rcases g4 with g4 | ⟨o,n,g4⟩<;>rw[g4]<;>simp[Zx,ZA,Zn]
   ·simp only[Zko,Kf] at ha;rcases g4 with g4 | ⟨o,n,g4⟩<;>rw[g4] at ha<;>exact ha.1
  ·refine⟨⟨y,by simp[ZF],by rw[g5];simp[Zx,ZA,Zn]⟩,fun a ha=>?_⟩;simp only[Zko,Kf,g4,LN] at ha;rw[g5] at ha;exact ha.2
theorem Zw6 {C:Orc} {M:Zq} {os:List CO} {nx i j:Nat} {oi oj:CO} (ae:os[i]?=some oi) (ak:os[j]?=some oj) (ar:ZV os i=true) (am:ZV os j=false) (a3:i≠j) (au:Xx oj oi=true)
  (an:∀ (k:Nat) (o:CO),os[k]?=some o→∀ x∈ZF o.op,YI x=true) {s s1 s2:Sl×Hp} {U:Nat→Prop} (hs:ZiN nt s U) (a4:Xa U (nx+64*i)) (av:Xa U (nx+64*j)) (hl:LooseS s.1 oj.op oi.op)
  (h1:ZH C M os nx j s=some s1) (h2:ZH C M os nx i s1=some s2):∃ t1,ZH C M os nx i s=some t1∧∃ t2,ZH C M os nx j t1=some t2∧XJ t2 s2:=by
 obtain⟨F,A,I,Γ,a,w,ag⟩:=hs;simp only[Xx,Kf] at au;obtain⟨⟨aw,ax⟩,al⟩:=au;have good:∀ (k:Nat) (o:CO),os[k]?=some o→∀ x∈ZF o.op,Zkl U (evO s.1 x):=by
  intro k o ho x hx;cases x with
  | t n=>exact ag.good n
  | v y=>exact UB (an k o ho _ hx)
  | f n=>exact⟨fun id a5=>by simp[evO,Zx,ZA] at a5,fun f a6 h c hc=>by cases h;simp at hc⟩
 simp only[ZH,ak,Zg,am] at h1;simp only[ZH,ae,Zg,ar] at h2;obtain⟨vj,aj,rfl,ao,ay⟩:=ZjA h1;obtain⟨a7,hl⟩:=hl;unfold ZN at h2;obtain⟨b,hw,h2⟩:=Za h2;have az : ZZ s.1 oi.guard=some b:=by rw[← hw];exact(QD aw).symm
 cases b with
 | false=>
  simp only[Ka,Km] at h2;cases h2;refine⟨(Zs s.1 oi.dst (.tup []),s.2),by simp only[ZH,ae,Zg,ZN,az,Ka,Km],?_⟩;have e2:=ay (Zs s.1 oi.dst (.tup []),s.2) (QD al) (Xi C M s.2 (nx+64*j) (VU (o:=oj) al));exact⟨(Zs (Zs s.1 oi.dst (.tup [])) oj.dst vj,Zi s.2 aj),by simp only[ZH,ak,Zg,am];exact e2,fun t=>(WH ax vj (.tup []) t).symm,fun id=>rfl⟩
 | true=>
  simp only[Kl] at h2;obtain⟨ce,h3,h4,rfl⟩:=Xr h2;have a0 : vop C M s.1 s.2 (nx+64*i) oi.op=some ce:=by
   have h5:=Zef h3;rw[← h5,Xi C M (Zi s.2 aj) (nx+64*i) (VU (o:=oi) aw)];exact JC (ag.agree (VV av ao s.2)) C M _ (good i oi ae)
  have aa:=Uu h4;obtain⟨k1,k2,k3⟩:=ZCq a7 a0;obtain⟨e,gn⟩:=ce;simp only at k1 k2 k3;subst k1;have ap:∀ k∈e.frz,U k:=fun k hk=>by
   obtain⟨x,hx,hk⟩:=k3 k hk;exact(good i oi ae x hx).1 k hk
  have ah:∀ k,k∈e.dels∨(∃ o,(k,o)∈e.sets)→U k:=fun k hk=>by
   obtain⟨⟨x,hx,hk⟩,_⟩:=k2 k hk;exact(good i oi ae x hx).1 k hk
  have ai:∀ s:Sl×Hp,Ze.on { eff:=e,gone:=[] } oi.dst s.1 s.2=(Zs s.1 oi.dst e.val,Zi (Zi (Z6 (Qm e.frz s.2) e.dels) e.sets) e.adds):=by
   intro s;rfl
  refine⟨Ze.on { eff:=e,gone:=[] } oi.dst s.1 s.2,?_,?_⟩
  ·simp only[ZH,ae,Zg,ZN,az,Kl,Ys,ar,VQ];rw[a0,Zg,Kj h4]
  ·have ab:∀ k,U k→¬(k∈e.dels∨∃ o,(k,o)∈e.sets)→FzEq (lkp s.2 k) (lkp (Zi (Zi (Z6 (Qm e.frz s.2) e.dels) e.sets) e.adds) k):=by
    intro k hk aq;rw[not_or] at aq;rw[← VV a4 aa _ k hk,ZD _ _ k (fun o ho=>aq.2 ⟨o,ho⟩),WK _ _ k aq.1,Qc];exact⟨_,rfl⟩
   have e2:ZN C M nx j false oj (Ze.on { eff:=e,gone:=[] } oi.dst s.1 s.2)=some (Zs (Ze.on { eff:=e,gone:=[] } oi.dst s.1 s.2).1 oj.dst vj,Zi (Ze.on { eff:=e,gone:=[] } oi.dst s.1 s.2).2 aj):=by
    rw[ai];refine ay (Zs s.1 oi.dst e.val,Zi (Zi (Z6 (Qm e.frz s.2) e.dels) e.sets) e.adds) (QD al) ?_;rw[Xi C M _ (nx+64*j) (VU (o:=oj) al)];rcases hl with hl | ⟨a8,a9⟩
    ·exact Zks hl
    ·refine vop_fz a8 fun z hz k hk=>?_;refine ab k ((good j oj ak z hz).1 k hk) fun hp=>?_;exact Zpq (Zgz ((k2 k hp).2 _ a9) z hz) hk
   refine⟨_,by simp only[ZH,ak,Zg,am];exact e2,fun t=>?_,fun k=>?_⟩
   ·rw[ai,ai (Zs s.1 oj.dst vj,Zi s.2 aj)];exact(WH ax vj e.val t).symm
   ·rw[ai,ai (Zs s.1 oj.dst vj,Zi s.2 aj)];show lkp (Zi (Zi (Zi (Z6 (Qm e.frz s.2) e.dels) e.sets) e.adds) aj) k=lkp (Zi (Zi (Z6 (Qm e.frz (Zi s.2 aj)) e.dels) e.sets) e.adds) k;have a1:∀ (B:Hp) (hp hp' : Hp),(∀ k,lkp hp k=lkp hp' k)→∀ k,lkp (Zi hp B) k=lkp (Zi hp' B) k:=fun B hp hp' h=>Za0 B h;have ad:∀ k,U k→∀ o',(k,o')∉aj:=fun k hk o' af=>by
     have:=ao k o' af;exact av k this.1 this.2 hk
    rw[Zsx (A:=e.adds) (B:=aj) (fun k x y hx hy=>by
     have:=aa k x hx;have:=ao k y hy;rcases LX a3 with h | h<;>omega)]
    refine a1 e.adds _ _ (fun k=>?_) k;rw[Zsx (A:=e.sets) (B:=aj) (fun k x y hx hy=>ad k (ah k (.inr ⟨x,hx⟩)) y hy) (Z6 (Qm e.frz s.2) e.dels) k];refine a1 e.sets _ _ (fun k=>?_) k;by_cases hd:k∈e.dels
    ·rw[ZD aj _ k (ad k (ah k (.inl hd))),Zps hd,Zps hd]
    ·rw[WK _ _ k hd];rw[Qc];by_cases hk:∃ o',(k,o')∈aj
     ·obtain⟨o',af⟩:=hk;rw[ZbA (hp':=s.2) ⟨o',af⟩];have a':k∉e.frz:=fun hf=>ad k (ap k hf) o' af;cases lkp (Zi s.2 aj) k<;>simp[a']
     ·have a2 : ∀ o',(k,o')∉aj:=fun o' af=>hk ⟨o',af⟩;rw[ZD aj _ k a2,ZD aj _ k a2,WK _ _ k hd,Qc]
theorem Zzs {C:Orc} {M:Zq} {os:List CO} {nx i j:Nat} {oi oj:CO} (ab:os[i]?=some oi) (ad:os[j]?=some oj) (ae:Zxn oi.op=true) (af:ZV os j=false) (ag:i≠j) (ah:Xx oj oi=true)
  (aa:∀ (k:Nat) (o:CO),os[k]?=some o→∀ x∈ZF o.op,YI x=true) {s s1 s2:Sl×Hp} {U:Nat→Prop} (hs:ZiN nt s U) (ai:Xa U (nx+64*i)) (aj:Xa U (nx+64*j))
  (h1:ZH C M os nx j s=some s1) (h2:ZH C M os nx i s1=some s2):∃ t1,ZH C M os nx i s=some t1∧∃ t2,ZH C M os nx j t1=some t2∧XJ t2 s2:=by
 have e:∀ s:Sl×Hp,ZH C M os nx i s=ZN C M nx i false oi s:=fun s=>by
  simp only[ZH,ab,Zg];cases ZV os i
  ·rfl
  ·exact Zzp ae s
 rw[e] at h2;simp only[e];exact Zpo ab ad af ag ah aa hs ai aj h1 h2
theorem Zt8 {hp:Hp} {base s:Nat} {vs:List AV} {ce:Ze} (h:buildSl hp base s vs=some ce):ce.gone=[]:=by
 cases vs with
 | nil=>simp only[buildSl,Qp] at h;first | (cases h;rfl) | (split at h<;>first | (cases h;rfl) | cases h)
 | cons v r=>
  simp only[buildSl] at h;obtain⟨q,_,h⟩:=Za h;unfold ZzR at h;split at h
  ·cases h;rfl
  ·cases h
theorem Zvm {C:Orc} {M:Zq} {sl:Sl} {hp:Hp} {base:Nat} {c:COp} {ce:Ze} (hc:Ze0 c=true) (h:vop C M sl hp base c=some ce):ce.gone=[]:=by
 cases c<;>first | (cases hc;done) | skip
 ·simp only[vop] at h;exact Zt8 h
 ·simp only[vop] at h;exact(Zvl h).1
theorem Zzt {C:Orc} {M:Zq} {nx j:Nat} {oj:CO} {s s1:Sl×Hp} (hm:YM oj.op=true) (h:ZN C M nx j false oj s=some s1) :
  ∃ v,s1=(Zs s.1 oj.dst v,s.2)∧∀ aa : Sl×Hp,ZZ aa.1 oj.guard=ZZ s.1 oj.guard→(∀ x∈ZF oj.op,evO aa.1 x=evO s.1 x)→ZN C M nx j false oj aa=some (Zs aa.1 oj.dst v,aa.2):=by
 obtain⟨x,hx⟩:∃ x,oj.op=.move x:=by
  cases ho:oj.op<;>rw[ho] at hm<;>first | (cases hm;done) | exact⟨_,rfl⟩
 unfold ZN at h ⊢;obtain⟨b,hw,h⟩:=Za h;cases b with
 | true=>
  simp only[Kl,hx,VQ,Ka,Km,vop] at h;refine⟨evO s.1 x,?_,fun aa g1 g2=>?_⟩
  ·cases h;rfl
  ·rw[g1,hw,Zg];have e:=g2 x (by rw[hx];simp[ZF]);simp only[Kl,hx,VQ,Ka,Km,vop,e];rfl
 | false=>
  simp only[Ka,Km] at h;cases h;refine⟨.tup [],rfl,fun aa g1 g2=>?_⟩;rw[g1,hw,Zg];rfl
theorem Zzu {C:Orc} {M:Zq} {os:List CO} {nx i j:Nat} {oi oj:CO} (ad:os[i]?=some oi) (ae:os[j]?=some oj) (af:ZV os j=false) (ah:Xx oj oi=true)
  {s s1 s2:Sl×Hp} (hm:YM oj.op=true) (hg:Ze0 oi.op=true)
  (h1:ZH C M os nx j s=some s1) (h2:ZH C M os nx i s1=some s2):∃ t1,ZH C M os nx i s=some t1∧∃ t2,ZH C M os nx j t1=some t2∧XJ t2 s2:=by
 simp only[Xx,Kf] at ah;obtain⟨⟨ai,aj⟩,ab⟩:=ah;simp only[ZH,ae,Zg,af] at h1;simp only[ZH,ad,Zg] at h2;obtain⟨vj,rfl,ak⟩:=Zzt hm h1;unfold ZN at h2;obtain⟨b,hw,h2⟩:=Za h2;have al : ZZ s.1 oi.guard=some b:=by rw[← hw];exact(QD ai).symm
 cases b with
 | false=>
  simp only[Ka,Km] at h2;cases h2;refine⟨(Zs s.1 oi.dst (.tup []),s.2),by simp only[ZH,ad,Zg,ZN,al,Ka,Km],?_⟩;exact⟨(Zs (Zs s.1 oi.dst (.tup [])) oj.dst vj,s.2),by simp only[ZH,ae,Zg,af];exact ak (Zs s.1 oi.dst (.tup []),s.2) (QD ab) (VU (o:=oj) ab),fun t=>(WH aj vj (.tup []) t).symm,fun id=>rfl⟩
 | true=>
  simp only[Kl] at h2;obtain⟨ce,h3,h4,rfl⟩:=Xr h2;have aa:=Zvm hg (Zef h3);have am : VQ C M nx i (ZV os i) oi.op s.1 s.2=some ce:=by
   rw[← h3];unfold VQ;rw[Xi C M s.2 (nx+64*i) (VU (o:=oi) ai)]
  have ag:∀ (sl:Sl) (hp:Hp),ce.on oi.dst sl hp=(Zs sl oi.dst ce.eff.val,ce.eff.on hp):=by
   intro sl hp;unfold Ze.on;rw[aa];rfl
  refine⟨ce.on oi.dst s.1 s.2,?_,?_⟩
  ·simp only[ZH,ad,Zg,ZN,al,Kl,Ys];rw[am,Zg,Kj h4]
  ·rw[ag];refine⟨(Zs (Zs s.1 oi.dst ce.eff.val) oj.dst vj,ce.eff.on s.2),by simp only[ZH,ae,Zg,af];exact ak (Zs s.1 oi.dst ce.eff.val,ce.eff.on s.2) (QD ab) (VU (o:=oj) ab),fun t=>?_,fun k=>?_⟩
   ·rw[ag];exact(WH aj vj ce.eff.val t).symm
   ·rw[ag]
theorem awayV_ptr {sl:Sl} {xs:List Opd} {v:AV} (h:ZbQ sl xs v=true) {k off:Nat} (e:v=.ptr k off):∀ z∈xs,k∉Zx (evO sl z):=by
 subst e;exact fun z hz=>Zpq (Zgz h z hz)
structure Zpt (r:Sl) (oX oY:CO):Prop where
 opd:∀ x∈ZF oX.op,okV (evO r x)=true
 dst:∀ t,oX.dst=some t→okV (gs r t)=true
 arg:∀ y∈Zml oY.op,okV (evO r y)=true
 away:∀ y∈Zml oY.op,∀ k off,evO r y=.ptr k off→∀ z∈ZF oX.op,k∉Zx (evO r z)
theorem Zt9 {sl:Sl}:∀ {xs:List Opd},okL sl xs=true→∀ x∈xs,okV (evO sl x)=true
 | [],_,x,hx=>by simp at hx
 | y :: ys,h,x,hx=>by
  simp only[okL,Kf] at h;rcases Kd.1 hx with rfl | hx
  ·exact h.1
  ·exact Zt9 h.2 x hx
theorem Zsy {sl:Sl} {xs:List Opd}:∀ {ys:List Opd},ZgS sl xs ys=true→∀ y∈ys,ZbQ sl xs (evO sl y)=true
 | [],_,x,hx=>by simp at hx
 | y :: ys,h,x,hx=>by
  simp only[ZgS,Kf] at h;rcases Kd.1 hx with rfl | hx
  ·exact h.1
  ·exact Zsy h.2 x hx
theorem Zvn {r:Sl} {oX oY:CO} (hm:YM oX.op=false) (hc:J4 oY.op=true) (h:Ug r oX.dst oX.op oY.op=true):Zpt r oX oY:=by
 obtain⟨f,as1,ho⟩:∃ f as1,oY.op=.call (.f f) as1:=by
  cases ho:oY.op<;>rw[ho] at hc<;>first | (cases hc;done) | skip
  rename_i f as1;cases f<;>first | (cases hc;done) | exact⟨_,_,rfl⟩
 rw[ho] at h;have h' : (okL r (ZF oX.op)&&(okD r oX.dst&&(okL r as1&&ZgS r (ZF oX.op) as1)))=true:=by
  cases hx:oX.op<;>rw[hx] at h hm<;>first | (cases hm;done) | exact h
 simp only[Kf] at h';obtain⟨h1,h2,h3,h4⟩:=h';refine⟨Zt9 h1,fun t ht=>?_,?_,?_⟩
 ·rw[ht] at h2;exact h2
 ·rw[ho];exact Zt9 h3
 ·rw[ho];intro y hy k off e;exact awayV_ptr (Zsy h4 y hy) e
theorem Zpt.move {r r' : Sl} {oX oY:CO} (h:Zpt r oX oY) (h1:∀ n∈(ZF oX.op).flatMap WD,okV (gs r n)=true→gs r' n=gs r n) (h2:∀ n,oX.dst=some n→okV (gs r n)=true→gs r' n=gs r n)
  (h3:∀ n∈(Zml oY.op).flatMap WD,okV (gs r n)=true→gs r' n=gs r n):Zpt r' oX oY:=by
 have e1:∀ x∈ZF oX.op,evO r' x=evO r x:=fun x hx=>by
  have ho:=h.opd x hx;cases x with
  | t n=>exact h1 n (Kz.2 ⟨_,hx,by simp[WD]⟩) ho
  | _=>rfl
 have e3:∀ x∈Zml oY.op,evO r' x=evO r x:=fun x hx=>by
  have ho:=h.arg x hx;cases x with
  | t n=>exact h3 n (Kz.2 ⟨_,hx,by simp[WD]⟩) ho
  | _=>rfl
 refine⟨fun x hx=>by rw[e1 x hx];exact h.opd x hx,fun t ht=>by rw[h2 t ht (h.dst t ht)];exact h.dst t ht,fun x hx=>by rw[e3 x hx];exact h.arg x hx,fun y hy k off e z hz=>?_⟩;rw[e3 y hy] at e;rw[e1 z hz];exact h.away y hy k off e z hz
theorem Zpu {C:Orc} {M:Zq} (hM:∀ f,M f 99=false) {os:List CO} {nx x y:Nat} {oX oY:CO} (ay:os[x]?=some oX) (a1:os[y]?=some oY) (a2:x≠y) (ak:QL oY.dst (looks oX)=true) (aw:QL oX.dst (looks oY)=true)
  (ad:QL oX.dst (looks oX)=true) (al:QL oY.dst (looks oY)=true)
  (ar:∀ (k:Nat) (o:CO),os[k]?=some o→∀ x∈ZF o.op,YI x=true) {s:Sl×Hp} {r:Sl} {U:Nat→Prop} (hs:ZiN nt s U) (a3:Xa U (nx+64*x)) (a4:Xa U (nx+64*y))
  (ae:J4 oY.op=true) {ce:Ze} (a5:vop C M s.1 s.2 (nx+64*y) oY.op=some ce) (a6:QX (nx+64*y) (nx+64*y+64) ce.eff.adds=true)
  (am:∀ n,oX.dst≠some n→oY.dst≠some n→gs r n=kill ce.gone (gs s.1 n)) (aa:Zpt r oX oY) :
  ce.eff.dels=[]∧(∀ z∈ZF oX.op,evO (ce.on oY.dst s.1 s.2).1 z=evO s.1 z)∧(∀ z∈ZF oX.op,∀ id∈Zx (evO s.1 z),id∉ce.gone)∧(∀ z∈ZF oX.op,Zkr ce.gone s.2 (ce.on oY.dst s.1 s.2).2 (evO s.1 z)) ∧
  (∀ k,nx+64*x≤k→k<nx+64*x+64→(∀ o',(k,o')∉ce.eff.sets)∧(∀ o',(k,o')∉ce.eff.adds)∧k∉ce.eff.frz∧k∉ce.gone):=by
 obtain⟨F,A,I,Γ,a,w,au⟩:=hs;have good:∀ (k:Nat) (o:CO),os[k]?=some o→∀ x∈ZF o.op,Zkl U (evO s.1 x):=by
  intro k o ho x hx;cases x with
  | t n=>exact au.good n
  | v y=>exact UB (ar k o ho _ hx)
  | f n=>exact⟨fun id av=>by simp[evO,Zx,ZA] at av,fun f a7 h c hc=>by cases h;simp at hc⟩
 obtain⟨f,as1,ho⟩:∃ f as1,oY.op=.call (.f f) as1:=by
  cases ho:oY.op<;>rw[ho] at ae<;>first | (cases ae;done) | skip
  rename_i f as1;cases f<;>first | (cases ae;done) | exact⟨_,_,rfl⟩
 have an:=a5;rw[ho] at an;simp only[vop,evO,Zdu,KD] at an;obtain⟨k1,k2,k3,k4⟩:=ZzE an (hM _);have ab:∀ n,(Opd.t n)∈ZF oX.op→n∈looks oX:=fun n hn=>Kh.2 (.inl (Kz.2 ⟨_,hn,by simp[WD]⟩));have ai:∀ n,(Opd.t n)∈as1→n∈looks oY:=fun n hn=>Kh.2 (.inl (Kz.2 ⟨.t n,by rw[ho];simp[ZF,hn],by simp[WD]⟩));have ne:∀ {d:Option Nat} {l:List Nat} {n:Nat},QL d l=true→n∈l→d≠some n:=fun {d l n} h hn e=>by
  rw[e] at h;simp only[QL,K0,KX,Li] at h;exact h hn
 have ax:∀ z∈ZF oX.op,evO r z=evO s.1 z∧∀ id∈Zx (evO s.1 z),id∉ce.gone:=by
  intro z hz;have af:=aa.opd z hz;cases z with
  | t n=>
   have e:=am n (ne ad (ab n hz)) (ne ak (ab n hz));simp only[evO] at af ⊢;rw[e] at af ⊢;have:=Zbz af;exact⟨this,ZAX this⟩
  | v c=>
   have:=ar x oX ay _ hz;simp only[YI,Kf,List.isEmpty_iff] at this;exact⟨rfl,fun id av=>by simp only[evO] at av;rw[this.1] at av;simp at av⟩
  | f n=>simp only[evO,okV,okC] at af;cases af
 have az:∀ z∈as1,evO r z=evO s.1 z:=by
  intro z hz;have af:=aa.arg z (by rw[ho];exact hz);cases z with
  | t n=>
   have e:=am n (ne aw (ai n hz)) (ne al (ai n hz));simp only[evO] at af ⊢;rw[e] at af ⊢;exact Zbz af
  | _=>rfl
 have a0:∀ id,(∃ o,lkp s.2 id=some o)→U id:=fun id ⟨o,h⟩=>au.id_in h;have uX:∀ k,nx+64*x≤k→k<nx+64*x+64→¬U k:=fun k h1 h2=>a3 k h1 h2;have aj:=Uu a6;have ag:∀ z∈ZF oX.op,∀ k∈Zx (evO s.1 z),∀ o',(k,o')∉ce.eff.sets:=by
  intro z hz k hk o' ao;rcases (k4 k o' ao).2 with h | ⟨v,hv,ap⟩
  ·exact(ax z hz).2 k hk h
  ·obtain⟨y',aq,rfl⟩:=Zh5 hv;have ah:=aa.arg y' (by rw[ho];exact aq);rw[az y' aq] at ah;cases hp:evO s.1 y' with
   | ptr a b=>
    rw[hp] at ap;simp only[Jy,KG] at ap;subst ap;have:=aa.away y' (by rw[ho];exact aq) k b (by rw[az y' aq,hp]) z hz;rw[(ax z hz).1] at this;exact this hk
   | clo g cs=>rw[hp] at ah;simp only[okV,okC] at ah;cases ah
   | _=>rw[hp] at ap;simp[Jy] at ap
 refine⟨k1,fun z hz=>?_,fun z hz=>(ax z hz).2,fun z hz k hk=>?_,fun k g1 g2=>⟨fun o' ao=>?_,fun o' ao=>?_,fun hf=>?_,fun hg=>?_⟩⟩
 ·cases z with
  | t n=>
   show gs (Zs (Xc ce.gone s.1) oY.dst ce.eff.val) n=gs s.1 n;rw[QC,Ke (ne ak (ab n hz)),QN];have e:=am n (ne ad (ab n hz)) (ne ak (ab n hz));have:=aa.opd _ hz;simp only[evO] at this;rw[e] at this;exact Zbz this
  | _=>rfl
 ·have a8:U k:=(good x oX ay z hz).1 k hk;show ZaR ce.gone (lkp s.2 k) (lkp (ce.eff.on (VL ce.gone s.2)) k);unfold Eff.on;rw[k1];simp only[Z6];rw[ZD,ZD,Qc,VS]
  ·exact Zvs _
  ·exact ag z hz k hk
  ·intro o' ao;obtain⟨h1,h2⟩:=aj k o' ao;exact a4 k h1 h2 a8
 ·exact uX k g1 g2 (a0 k (k4 k o' ao).1)
 ·have:=aj k o' ao;rcases LX a2 with h | h<;>omega
 ·obtain⟨v,hv,ap⟩:=k2 k hf;obtain⟨y',aq,rfl⟩:=Zh5 hv;exact uX k g1 g2 ((good y oY a1 y' (by rw[ho];simp[ZF,aq])).1 k ap)
 ·exact uX k g1 g2 (a0 k (k3 k hg))
theorem Zw7 {C:Orc} {M:Zq} (hM:∀ f,M f 99=false) {os:List CO} {nx i j:Nat} {oi oj:CO} (ah:os[i]?=some oi) (av:os[j]?=some oj) (az:ZV os j=false) (a0:i≠j) (aw:Xx oj oi=true)
  (ad:QL oj.dst (looks oj)=true) (ae:QL oi.dst (looks oi)=true)
  (ai:∀ (k:Nat) (o:CO),os[k]?=some o→∀ x∈ZF o.op,YI x=true) {s s1 s2:Sl×Hp} {U:Nat→Prop} (hs:ZiN nt s U) (a1:Xa U (nx+64*i)) (ap:Xa U (nx+64*j))
  (aj:J4 oi.op=true) (a2:Zp0 oj.op=true) (aa:Zpt s2.1 oj oi) {t:Nat} (ht:oj.dst=some t)
  (h1:ZH C M os nx j s=some s1) (h2:ZH C M os nx i s1=some s2):∃ t1,ZH C M os nx i s=some t1∧∃ t2,ZH C M os nx j t1=some t2∧XJ t2 s2:=by
 have a3:=hs;obtain⟨F,A,I,Γ,a,w,af⟩:=a3;simp only[Xx,Kf] at aw;obtain⟨⟨am,an⟩,ao⟩:=aw;have good:∀ (k:Nat) (o:CO),os[k]?=some o→∀ x∈ZF o.op,Zkl U (evO s.1 x):=by
  intro k o ho x hx;cases x with
  | t n=>exact af.good n
  | v y=>exact UB (ai k o ho _ hx)
  | f n=>exact⟨fun id a4=>by simp[evO,Zx,ZA] at a4,fun f a5 h c hc=>by cases h;simp at hc⟩
 have ab:∀ s:Sl×Hp,ZH C M os nx j s=ZN C M nx j false oj s:=fun s=>by simp only[ZH,av,Zg,az]
 rw[ab] at h1;simp only[ZH,ah,Zg] at h2;obtain⟨v,ax,a6,aq,hX⟩:∃ v ax,s1=(Zs s.1 oj.dst v,Zi s.2 ax)∧(∀ k x,(k,x)∈ax→nx+64*j≤k∧k<nx+64*j+64) ∧
   ((ZZ s.1 oj.guard=some false∧v=.tup []∧ax=[])∨(ZZ s.1 oj.guard=some true∧∃ ce,Zmc ce∧vop C M s.1 s.2 (nx+64*j) oj.op=some ce∧QX (nx+64*j) (nx+64*j+64) ce.eff.adds=true∧v=ce.eff.val∧ax=ce.eff.adds)):=by
  rcases Zxg h1 with ⟨g1,g2⟩ | ⟨g1,ce,g2,g3,g4,g5⟩
  ·exact⟨.tup [],[],g2,fun k x h=>by simp at h,.inl ⟨g1,rfl,rfl⟩⟩
  ·exact⟨ce.eff.val,ce.eff.adds,g5,Uu g4,.inr ⟨g1,ce,g2,g3,g4,rfl,rfl⟩⟩
 subst a6;unfold ZN at h2;obtain⟨b,hw,h2⟩:=Za h2;have ay : ZZ s.1 oi.guard=some b:=by rw[← hw];exact(QD am).symm
 cases b with
 | false=>
  simp only[Ka,Km] at h2;cases h2;refine⟨(Zs s.1 oi.dst (.tup []),s.2),by simp only[ZH,ah,Zg];exact Yr ay,?_⟩;refine⟨(Zs (Zs s.1 oi.dst (.tup [])) oj.dst v,Zi s.2 ax),?_,fun t=>(WH an v (.tup []) t).symm,fun id=>rfl⟩;rw[ab];have ak:ZZ (Zs s.1 oi.dst (.tup [])) oj.guard=ZZ s.1 oj.guard:=QD ao;rcases hX with ⟨g1,rfl,rfl⟩ | ⟨g1,ce,g2,g3,g4,rfl,rfl⟩
  ·exact Yr (s:=(Zs s.1 oi.dst (.tup []),s.2)) (ak.trans g1)
  ·refine Zh9 (s:=(Zs s.1 oi.dst (.tup []),s.2)) (ak.trans g1) g2 ?_ g4;rw[← g3];exact Xi C M s.2 (nx+64*j) (VU (o:=oj) ao)
 | true=>
  simp only[Kl] at h2;obtain⟨ce,h3,h4,rfl⟩:=Xr h2;have a7:vop C M s.1 s.2 (nx+64*i) oi.op=some ce:=by
   have h5:=Zef h3;rw[← h5,Xi C M (Zi s.2 ax) (nx+64*i) (VU (o:=oi) am)];exact JC (af.agree (VV ap aq s.2)) C M _ (good i oi ah)
  have a8 : VQ C M nx i (ZV os i) oi.op s.1 s.2=some ce:=by
   rw[← h3];unfold VQ;rw[Xi C M (Zi s.2 ax) (nx+64*i) (VU (o:=oi) am),JC (af.agree (VV ap aq s.2)) C M _ (good i oi ah)]
  have ar:∀ n,oj.dst≠some n→oi.dst≠some n→gs (ce.on oi.dst (Zs s.1 oj.dst v) (Zi s.2 ax)).1 n=kill ce.gone (gs s.1 n):=fun n e1 e2=>by
   show gs (Zs (Xc ce.gone (Zs s.1 oj.dst v)) oi.dst ce.eff.val) n=_;rw[QC,Ke e2,QN,QC,Ke e1]
  obtain⟨c1,c2,c3,c4,c5⟩:=Zpu (nt:=nt) hM av ah (Ne.symm a0) ao am ad ae ai hs ap a1 aj a7 h4 ar aa;have e0:gs (ce.on oi.dst (Zs s.1 oj.dst v) (Zi s.2 ax)).1 t=kill ce.gone v:=by
   show gs (Zs (Xc ce.gone (Zs s.1 oj.dst v)) oi.dst ce.eff.val) t=_;rw[QC,Ke,QN,QC,Kj ht];intro e;rw[ht,e] at an;simp[JJ] at an
  have ag:kill ce.gone v=v:=by
   have h5:=aa.dst t ht;rw[e0] at h5;exact Zbz h5
  have au:okV v=true:=by
   have h5:=aa.dst t ht;rw[e0,ag] at h5;exact h5
  refine⟨ce.on oi.dst s.1 s.2,?_,?_⟩
  ·simp only[ZH,ah,Zg,ZN,ay,Kl,Ys];rw[a8,Zg,Kj h4]
  ·have ak:ZZ (ce.on oi.dst s.1 s.2).1 oj.guard=ZZ s.1 oj.guard:=by
    show ZZ (Zs (Xc ce.gone s.1) oi.dst ce.eff.val) oj.guard=_;rw[QD ao];exact Zia fun q _=>QN _ _ _
   have al:(∀ k o,(k,o)∈ax→Xp ce.gone o=o)∧ZN C M nx j false oj (ce.on oi.dst s.1 s.2)=some (Zs (ce.on oi.dst s.1 s.2).1 oj.dst v,Zi (ce.on oi.dst s.1 s.2).2 ax):=by
    rcases hX with ⟨g1,rfl,rfl⟩ | ⟨g1,cx,g2,g3,g4,rfl,rfl⟩
    ·exact⟨fun k o h=>by simp at h,Yr (ak.trans g1)⟩
    ·obtain⟨e1,e2⟩:=ZzC a2 c2 c4 (fun k h6 h7=>(c5 k h6 h7).2.2.2) g3 g4 g2.frz au ag;exact⟨e2,Zh9 (ak.trans g1) g2 e1 g4⟩
   obtain⟨e3,e4⟩:=al;refine⟨_,by rw[ab];exact e4,?_⟩;exact ZyB (ce:=ce) (dX:=oj.dst) (dY:=oi.dst) (v:=v) (ax:=ax) (s:=s) an c1 (fun k o ho=>by
    obtain⟨h6,h7⟩:=aq k o ho;obtain⟨m1,m2,m3,_⟩:=c5 k h6 h7;exact⟨m1,m2,m3⟩) e3 ag
theorem Zvo {C:Orc} {M:Zq} (hM:∀ f,M f 99=false) {os:List CO} {nx i j:Nat} {oi oj:CO} (ar:os[i]?=some oi) (ag:os[j]?=some oj) (ay:ZV os i=false) (az:i≠j) (au:Xx oj oi=true)
  (ad:QL oi.dst (looks oi)=true) (ae:QL oj.dst (looks oj)=true)
  (ah:∀ (k:Nat) (o:CO),os[k]?=some o→∀ x∈ZF o.op,YI x=true) {s s1 s2:Sl×Hp} {U:Nat→Prop} (hs:ZiN nt s U) (av:Xa U (nx+64*i)) (a0:Xa U (nx+64*j))
  (ai:J4 oj.op=true) (a1:ZkJ oi.op=true) (ab:Zpt s2.1 oi oj) {t:Nat} (ht:oi.dst=some t)
  (h1:ZH C M os nx j s=some s1) (h2:ZH C M os nx i s1=some s2):∃ t1,ZH C M os nx i s=some t1∧∃ t2,ZH C M os nx j t1=some t2∧XJ t2 s2:=by
 have a2:=hs;obtain⟨F,A,I,Γ,a,w,aj⟩:=a2;simp only[Xx,Kf] at au;obtain⟨⟨an,ao⟩,ak⟩:=au;have af : JJ oi.dst oj.dst=true:=by
  cases hd:oi.dst<;>cases he:oj.dst<;>rw[hd,he] at ao<;>first | rfl | (simp only[JJ,bne_iff_ne,ne_eq] at ao ⊢;exact fun e=>ao e.symm)
 have good:∀ (k:Nat) (o:CO),os[k]?=some o→∀ x∈ZF o.op,Zkl U (evO s.1 x):=by
  intro k o ho x hx;cases x with
  | t n=>exact aj.good n
  | v y=>exact UB (ah k o ho _ hx)
  | f n=>exact⟨fun id a3=>by simp[evO,Zx,ZA] at a3,fun f a4 h c hc=>by cases h;simp at hc⟩
 have aa:∀ s:Sl×Hp,ZH C M os nx i s=ZN C M nx i false oi s:=fun s=>by simp only[ZH,ar,Zg,ay]
 rw[aa] at h2;simp only[ZH,ag,Zg] at h1;unfold ZN at h1;obtain⟨b,hw,h1⟩:=Za h1;cases b with
 | false=>
  simp only[Ka,Km] at h1;cases h1;have al:ZZ (Zs s.1 oj.dst (.tup [])) oi.guard=ZZ s.1 oi.guard:=QD an;rcases Zxg h2 with ⟨g1,g2⟩ | ⟨g1,ce,g2,g3,g4,g5⟩
  ·subst g2;refine⟨(Zs s.1 oi.dst (.tup []),s.2),by rw[aa];exact Yr (al.symm.trans g1),(Zs (Zs s.1 oi.dst (.tup [])) oj.dst (.tup []),s.2),?_,fun t=>WH af _ _ t,fun id=>rfl⟩;simp only[ZH,ag,Zg];exact Yr (s:=(Zs s.1 oi.dst (.tup []),s.2)) ((QD ak).trans hw)
  ·subst g5;refine⟨(Zs s.1 oi.dst ce.eff.val,Zi s.2 ce.eff.adds),?_,(Zs (Zs s.1 oi.dst ce.eff.val) oj.dst (.tup []),Zi s.2 ce.eff.adds),?_,fun t=>WH af _ _ t,fun id=>rfl⟩
   ·rw[aa];refine Zh9 (al.symm.trans g1) g2 ?_ g4;rw[← g3];exact(Xi C M s.2 (nx+64*i) (VU (o:=oi) an)).symm
   ·simp only[ZH,ag,Zg];exact Yr (s:=(Zs s.1 oi.dst ce.eff.val,Zi s.2 ce.eff.adds)) ((QD ak).trans hw)
 | true=>
  simp only[Kl] at h1;obtain⟨ce,h3,h4,rfl⟩:=Xr h1;have a5:vop C M s.1 s.2 (nx+64*j) oj.op=some ce:=Zef h3;have al:ZZ (ce.on oj.dst s.1 s.2).1 oi.guard=ZZ s.1 oi.guard:=by
   show ZZ (Zs (Xc ce.gone s.1) oj.dst ce.eff.val) oi.guard=_;rw[QD an];exact Zia fun q _=>QN _ _ _
  obtain⟨v,ax,a6,aw,hX⟩:∃ v ax,s2=(Zs (ce.on oj.dst s.1 s.2).1 oi.dst v,Zi (ce.on oj.dst s.1 s.2).2 ax)∧(∀ k x,(k,x)∈ax→nx+64*i≤k∧k<nx+64*i+64) ∧
    ((ZZ s.1 oi.guard=some false∧v=.tup []∧ax=[])∨(ZZ s.1 oi.guard=some true∧∃ cx,Zmc cx∧vop C M (ce.on oj.dst s.1 s.2).1 (ce.on oj.dst s.1 s.2).2 (nx+64*i) oi.op=some cx∧QX (nx+64*i) (nx+64*i+64) cx.eff.adds=true∧v=cx.eff.val∧ax=cx.eff.adds)):=by
   rcases Zxg h2 with ⟨g1,g2⟩ | ⟨g1,cx,g2,g3,g4,g5⟩
   ·exact⟨.tup [],[],g2,fun k x h=>by simp at h,.inl ⟨al.symm.trans g1,rfl,rfl⟩⟩
   ·exact⟨cx.eff.val,cx.eff.adds,g5,Uu g4,.inr ⟨al.symm.trans g1,cx,g2,g3,g4,rfl,rfl⟩⟩
  subst a6;have ap:∀ n,oi.dst≠some n→oj.dst≠some n→gs (Zs (ce.on oj.dst s.1 s.2).1 oi.dst v) n=kill ce.gone (gs s.1 n):=fun n e1 e2=>by
   rw[QC,Ke e1];show gs (Zs (Xc ce.gone s.1) oj.dst ce.eff.val) n=_;rw[QC,Ke e2,QN]
  obtain⟨c1,c2,c3,c4,c5⟩:=Zpu (nt:=nt) hM ar ag az an ak ad ae ah hs av a0 ai a5 h4 ap ab;have aq:okV v=true:=by
   have h5:=ab.dst t ht;simp only[QC,Kj ht] at h5;exact h5
  have am:kill ce.gone v=v∧(∀ k o,(k,o)∈ax→Xp ce.gone o=o)∧ZN C M nx i false oi s=some (Zs s.1 oi.dst v,Zi s.2 ax):=by
   rcases hX with ⟨g1,rfl,rfl⟩ | ⟨g1,cx,g2,g3,g4,rfl,rfl⟩
   ·exact⟨rfl,fun k o h=>by simp at h,Yr g1⟩
   ·obtain⟨e1,e2,e3⟩:=Zxf a1 c2 c4 c3 (fun k h6 h7=>(c5 k h6 h7).2.2.2) g3 g4 g2.frz aq;exact⟨e2,e3,Zh9 g1 g2 e1 g4⟩
  obtain⟨hk,e3,e4⟩:=am;refine⟨(Zs s.1 oi.dst v,Zi s.2 ax),by rw[aa];exact e4,ce.on oj.dst (Zs s.1 oi.dst v) (Zi s.2 ax),?_,?_⟩
  ·simp only[ZH,ag,Zg,ZN];have a7:ZZ (Zs s.1 oi.dst v) oj.guard=some true:=(QD ak).trans hw;simp only[a7,Zg,Kl,Ys];have:VQ C M nx j (ZV os j) oj.op (Zs s.1 oi.dst v) (Zi s.2 ax)=some ce:=by
    rw[← h3];unfold VQ;rw[Xi C M (Zi s.2 ax) (nx+64*j) (VU (o:=oj) ak),← JC (aj.agree (VV av aw s.2)) C M _ (good j oj ag)]
   rw[this,Zg,Kj h4]
  ·exact(ZyB (ce:=ce) (dX:=oi.dst) (dY:=oj.dst) (v:=v) (ax:=ax) (s:=s) af c1 (fun k o ho=>by
    obtain⟨h6,h7⟩:=aw k o ho;obtain⟨m1,m2,m3,_⟩:=c5 k h6 h7;exact⟨m1,m2,m3⟩) e3 hk).symm
theorem ZeJ {C:Orc} {M:Zq} {nx j:Nat} {oj:CO} {x:Opd} (hx:oj.op=.move x) {s:Sl×Hp} {b:Bool} (hw:ZZ s.1 oj.guard=some b) :
  ZN C M nx j false oj s=some (Zs s.1 oj.dst (if b then evO s.1 x else .tup []),s.2):=by
 unfold ZN;rw[hw,Zg];cases b
 ·rfl
 ·simp only[Kl,hx,VQ,Ka,Km,vop];rfl
theorem Zw8 {C:Orc} {M:Zq} {os:List CO} {nx i j:Nat} {oi oj:CO} (af:os[i]?=some oi) (am:os[j]?=some oj) (an:ZV os j=false) (ai:Xx oj oi=true)
  (ao:∀ (k:Nat) (o:CO),os[k]?=some o→∀ x∈ZF o.op,YI x=true)
  {s s1 s2:Sl×Hp} (hm:YM oj.op=true) {t:Nat} (ht:oj.dst=some t) (aj:okV (gs s2.1 t)=true)
  (h1:ZH C M os nx j s=some s1) (h2:ZH C M os nx i s1=some s2):∃ t1,ZH C M os nx i s=some t1∧∃ t2,ZH C M os nx j t1=some t2∧XJ t2 s2:=by
 obtain⟨x,hx⟩:∃ x,oj.op=.move x:=by
  cases ho:oj.op<;>rw[ho] at hm<;>first | (cases hm;done) | exact⟨_,rfl⟩
 simp only[Xx,Kf] at ai;obtain⟨⟨ak,ad⟩,ab⟩:=ai;have aa:∀ s:Sl×Hp,ZH C M os nx j s=ZN C M nx j false oj s:=fun s=>by simp only[ZH,am,Zg,an]
 rw[aa] at h1;obtain⟨bj,ag⟩:∃ bj,ZZ s.1 oj.guard=some bj:=by
  unfold ZN at h1;obtain⟨b,hw,_⟩:=Za h1;exact⟨b,hw⟩
 rw[ZeJ hx ag] at h1;have h1:=(Option.some.inj h1).symm;subst h1;simp only[ZH,af,Zg] at h2;unfold ZN at h2;obtain⟨b,hw,h2⟩:=Za h2;have al : ZZ s.1 oi.guard=some b:=by rw[← hw];exact(QD ak).symm
 have ap:oi.dst≠some t:=fun e=>by rw[ht,e] at ad;simp[JJ] at ad
 have ae:∀ n,x=.t n→oi.dst≠some n:=fun n e h=>by
  rw[h] at ab;simp only[QL,K0,KX,Li] at ab;exact ab (Kh.2 (.inl (by rw[hx,e];simp[ZF,WD])))
 cases b with
 | false=>
  simp only[Ka,Km] at h2;cases h2;refine⟨(Zs s.1 oi.dst (.tup []),s.2),by simp only[ZH,af,Zg];exact Yr al,?_⟩;refine⟨_,by rw[aa];exact ZeJ (s:=(Zs s.1 oi.dst (.tup []),s.2)) hx ((QD ab).trans ag),?_⟩;have:evO (Zs s.1 oi.dst (.tup [])) x=evO s.1 x:=VU (o:=oj) ab x (by rw[hx];simp[ZF]);simp only[this];exact⟨fun t=>(WH ad _ _ t).symm,fun id=>rfl⟩
 | true=>
  simp only[Kl] at h2;obtain⟨ce,h3,h4,rfl⟩:=Xr h2;have aq : VQ C M nx i (ZV os i) oi.op s.1 s.2=some ce:=by
   rw[← h3];unfold VQ;rw[Xi C M s.2 (nx+64*i) (VU (o:=oi) ak)]
  refine⟨ce.on oi.dst s.1 s.2,by simp only[ZH,af,Zg,ZN,al,Kl,Ys];rw[aq,Zg,Kj h4],?_⟩;have ah:ZZ (ce.on oi.dst s.1 s.2).1 oj.guard=some bj:=by
   show ZZ (Zs (Xc ce.gone s.1) oi.dst ce.eff.val) oj.guard=_;rw[QD ab,← ag];exact Zia fun q _=>QN _ _ _
  refine⟨_,by rw[aa];exact ZeJ hx ah,?_⟩;have e0:gs (ce.on oi.dst (Zs s.1 oj.dst (if bj then evO s.1 x else .tup [])) s.2).1 t=kill ce.gone (if bj then evO s.1 x else .tup []):=by
   show gs (Zs (Xc ce.gone (Zs s.1 oj.dst _)) oi.dst ce.eff.val) t=_;rw[QC,Ke ap,QN,QC,Kj ht]
  rw[e0] at aj;have hk:=Zbz aj;have ev:(if bj then evO (ce.on oi.dst s.1 s.2).1 x else .tup [])=(if bj then evO s.1 x else .tup []):=by
   cases bj with
   | false=>rfl
   | true=>
    simp only[Kl] at hk ⊢;cases x with
    | t n=>
     show gs (Zs (Xc ce.gone s.1) oi.dst ce.eff.val) n=gs s.1 n;rw[QC,Ke (ae n rfl),QN];exact hk
    | _=>rfl
  rw[ev];refine⟨fun q=>?_,fun id=>rfl⟩;show gs (Zs (Zs (Xc ce.gone s.1) oi.dst ce.eff.val) oj.dst _) q=gs (Zs (Xc ce.gone (Zs s.1 oj.dst _)) oi.dst ce.eff.val) q;simp only[QC,QN];by_cases hq:oj.dst=some q
  ·have:¬oi.dst=some q:=fun e=>by rw[hq,e] at ad;simp[JJ] at ad
   simp only[hq,Kl,this,Km];exact hk.symm
  ·simp[hq]
theorem Zw9 {C:Orc} {M:Zq} {os:List CO} {nx i j:Nat} {oi oj:CO} (am:os[i]?=some oi) (ag:os[j]?=some oj) (ar:ZV os i=false) (an:Xx oj oi=true)
  (ah:∀ (k:Nat) (o:CO),os[k]?=some o→∀ x∈ZF o.op,YI x=true)
  {s s1 s2:Sl×Hp} (hm:YM oi.op=true) {t:Nat} (ht:oi.dst=some t) (ai:okV (gs s2.1 t)=true)
  (h1:ZH C M os nx j s=some s1) (h2:ZH C M os nx i s1=some s2):∃ t1,ZH C M os nx i s=some t1∧∃ t2,ZH C M os nx j t1=some t2∧XJ t2 s2:=by
 obtain⟨x,hx⟩:∃ x,oi.op=.move x:=by
  cases ho:oi.op<;>rw[ho] at hm<;>first | (cases hm;done) | exact⟨_,rfl⟩
 simp only[Xx,Kf] at an;obtain⟨⟨ad,aj⟩,ak⟩:=an;have aa:∀ s:Sl×Hp,ZH C M os nx i s=ZN C M nx i false oi s:=fun s=>by simp only[ZH,am,Zg,ar]
 rw[aa] at h2;simp only[ZH,ag,Zg] at h1;unfold ZN at h1;obtain⟨b,hw,h1⟩:=Za h1;have af:∀ n,x=.t n→oj.dst≠some n:=fun n e h=>by
  rw[h] at ad;simp only[QL,K0,KX,Li] at ad;exact ad (Kh.2 (.inl (by rw[hx,e];simp[ZF,WD])))
 have ao:∀ (bi:Bool) (e:evO s1.1 x=evO s.1 x∨bi=false) (g1:ZZ s.1 oi.guard=some bi) (g2:ZZ s1.1 oi.guard=some bi),s2=(Zs s1.1 oi.dst (if bi then evO s.1 x else .tup []),s1.2):=by
  intro bi e g1 g2;rw[ZeJ hx g2] at h2;rw[← Option.some.inj h2];rcases e with e | e
  ·rw[e]
  ·rw[e];rfl
 cases b with
 | false=>
  simp only[Ka,Km] at h1;cases h1;have ae:ZZ (Zs s.1 oj.dst (.tup [])) oi.guard=ZZ s.1 oi.guard:=QD ad;obtain⟨bi,ab⟩:∃ bi,ZZ s.1 oi.guard=some bi:=by
   unfold ZN at h2;obtain⟨b,hw,_⟩:=Za h2;exact⟨b,ae.symm.trans hw⟩
  have e:evO (Zs s.1 oj.dst (.tup [])) x=evO s.1 x:=VU (o:=oi) ad x (by rw[hx];simp[ZF]);have h5:=ao bi (.inl e) ab (ae.trans ab);subst h5;refine⟨_,by rw[aa];exact ZeJ hx ab,(Zs (Zs s.1 oi.dst (if bi then evO s.1 x else .tup [])) oj.dst (.tup []),s.2),?_,fun t=>?_,fun id=>rfl⟩
  ·simp only[ZH,ag,Zg];exact Yr (s:=(Zs s.1 oi.dst (if bi then evO s.1 x else .tup []),s.2)) ((QD ak).trans hw)
  ·exact(WH aj _ _ t).symm
 | true=>
  simp only[Kl] at h1;obtain⟨ce,h3,h4,rfl⟩:=Xr h1;have ae:ZZ (ce.on oj.dst s.1 s.2).1 oi.guard=ZZ s.1 oi.guard:=by
   show ZZ (Zs (Xc ce.gone s.1) oj.dst ce.eff.val) oi.guard=_;rw[QD ad];exact Zia fun q _=>QN _ _ _
  obtain⟨bi,ab⟩:∃ bi,ZZ s.1 oi.guard=some bi:=by
   unfold ZN at h2;obtain⟨b,hw,_⟩:=Za h2;exact⟨b,ae.symm.trans hw⟩
  have ap:=h2;rw[ZeJ hx (ae.trans ab)] at ap;have h6:=Option.some.inj ap;have hv:okV (if bi then evO (ce.on oj.dst s.1 s.2).1 x else .tup [])=true:=by
   rw[← h6] at ai;simp only[QC,Kj ht] at ai;exact ai
  have aq:kill ce.gone (if bi then evO s.1 x else .tup [])=(if bi then evO s.1 x else .tup [])∧(evO (ce.on oj.dst s.1 s.2).1 x=evO s.1 x∨bi=false):=by
   cases bi with
   | false=>exact⟨rfl,.inr rfl⟩
   | true=>
    simp only[Kl] at hv ⊢;cases x with
    | t n=>
     have e:evO (ce.on oj.dst s.1 s.2).1 (.t n)=kill ce.gone (gs s.1 n):=by
      show gs (Zs (Xc ce.gone s.1) oj.dst ce.eff.val) n=_;rw[QC,Ke (af n rfl),QN]
     rw[e] at hv ⊢;have:=Zbz hv;exact⟨this,.inl this⟩
    | v c=>
     have hc:=ah i oi am (.v c) (by rw[hx];simp[ZF]);simp only[YI,Kf,List.isEmpty_iff] at hc;exact⟨Zyz hv fun id al=>by simp only[evO] at al;rw[hc.1] at al;simp at al,.inl rfl⟩
    | f n=>simp only[evO,okV,okC] at hv;cases hv
  have h5:=ao bi aq.2 ab (ae.trans ab);subst h5;refine⟨_,by rw[aa];exact ZeJ hx ab,ce.on oj.dst (Zs s.1 oi.dst (if bi then evO s.1 x else .tup [])) s.2,?_,fun q=>?_,fun id=>rfl⟩
  ·simp only[ZH,ag,Zg,ZN];have au:ZZ (Zs s.1 oi.dst (if bi then evO s.1 x else .tup [])) oj.guard=some true:=(QD ak).trans hw;simp only[au,Zg,Kl,Ys];have:VQ C M nx j (ZV os j) oj.op (Zs s.1 oi.dst (if bi then evO s.1 x else .tup [])) s.2=some ce:=by
    rw[← h3];unfold VQ;rw[Xi C M s.2 (nx+64*j) (VU (o:=oj) ak)]
   rw[this,Zg,Kj h4]
  ·show gs (Zs (Xc ce.gone (Zs s.1 oi.dst _)) oj.dst ce.eff.val) q=gs (Zs (Zs (Xc ce.gone s.1) oj.dst ce.eff.val) oi.dst _) q;simp only[QC,QN];by_cases hq:oi.dst=some q
   ·have:¬oj.dst=some q:=fun e=>by rw[hq,e] at aj;simp[JJ] at aj
    simp only[hq,Kl,this,Km];exact aq.1
   ·simp[hq]
theorem Zyw {C:Orc} {M:Zq} (hM:∀ f,M f 99=false) (hC:QJ P C) {ops:Array Oper} {os:List CO} (a9:QF (ZnG P nt ops.toList) ops.toList=some os) {nx i:Nat} {ks:List Nat} {oi:CO} (ab:os[i]?=some oi)
  (ad:∀ (k:Nat) (o:CO),os[k]?=some o→∀ x∈ZF o.op,YI x=true) :
  ∀ (js:List Nat) {s r:Sl×Hp} {U:Nat→Prop},ZiN nt s U→Xa U (nx+64*i)→(∀ j∈js,Xa U (nx+64*j))→(js++i :: ks).Pairwise (· < ·) →
   (∀ j∈js,∃ oj,os[j]?=some oj∧Xx oj oi=true∧((ZV os j=false∧(ZV os i=true→Zxn oi.op=true∨(ZpY oi.op=true∧(V1 oj.op=true∨(UR oj.op=true∧ZaA os j=true∧ZaA os i=true∧Zko r.1 oj.op oi.op=true)))∨(YM oj.op=true∧Ze0 oi.op=true)∨(YM oj.op=true∧Zoe os j=true∧okD r.1 oj.dst=true) ∨
    (YM oj.op=false∧J4 oi.op=true∧Zp0 oj.op=true∧ZaA os j=true∧ZaA os i=true∧Zoe os j=true∧Ug r.1 oj.dst oj.op oi.op=true))) ∨
    (ZV os j=true∧ZV os i=false∧YM oi.op=true∧Zoe os i=true∧okD r.1 oi.dst=true) ∨
    (ZV os j=true∧ZV os i=false∧YM oi.op=false∧J4 oj.op=true∧ZkJ oi.op=true∧ZaA os j=true∧ZaA os i=true∧Zoe os i=true∧Ug r.1 oi.dst oi.op oj.op=true))) →
   (∀ j∈js++i :: ks,j<os.length)→runL C M os nx (js++i :: ks) s=some r →
   ∃ s',ZH C M os nx i s=some s'∧∃ r',runL C M os nx (js++ks) s'=some r'∧XJ r' r
 | [],s,r,U,_,_,_,_,_,_,h=>by
  simp only[Lm,runL] at h ⊢;obtain⟨s',h1,h⟩:=Za h;exact⟨s',h1,r,h,XJ.refl r⟩
 | j :: js,s,r,U,hs,hfi,hfj,hsort,hj,hlt,h=>by
  have a1:=h;simp only[KA,runL] at h;obtain⟨s1,h1,h⟩:=Za h;have a8:=hsort;simp only[KA,LY] at hsort;have bk:j<i:=hsort.1 i (by simp);have a0:i≠j:=o_
  have a':=Zw3 hC a9 hs (hfj j (by simp)) h1;have ba:∀ k∈js,k≠j:=fun k hk e=>by
   have:=hsort.1 k (by simp[hk]);omega
  obtain⟨s2,h2,r2,h3,h4⟩:=Zyw hM hC a9 ab ad js a' (Zsw a0 hfi) (fun k hk=>Zsw (ba k hk) (hfj k (by simp[hk]))) hsort.2 (fun k hk=>hj k (by simp[hk])) (fun k hk=>hlt k (by simp only[KA,Kd];exact .inr hk)) h;obtain⟨oj,ae,au,a2⟩:=hj j (by simp);have aa:∀ {k q n:Nat} {o:CO},ZaA os k=true→os[k]?=some o→k≤q→q<os.length→n∈looks o→QL (Ur os q) [n]=true:=by
   intro k q n o am ho bl hq hn;have:=KW.1 am q (Lx.2 hq);simp only[Zup,ho,Lt,Ko] at this;rcases this with h | h
   ·omega
   ·cases hd:Ur os q with
    | none=>rfl
    | some d=>
     rw[hd] at h;simp only[QL,K0,KX,Li] at h ⊢;intro e;simp at e;exact h (e ▸ hn)
  have af:∀ {k:Nat} {o:CO},ZaA os k=true→os[k]?=some o→QL o.dst (looks o)=true:=by
   intro k o am ho;have hk:k<os.length:=(Kc.1 ho).1;have:=KW.1 am k (Lx.2 hk);simp only[Zup,Ur,ho,Lt,Ko] at this;rcases this with h | h
   ·omega
   ·exact h
  have ag:∀ {k q t:Nat} {o:CO},Zoe os k=true→os[k]?=some o→o.dst=some t→q≠k→q<os.length→QL (Ur os q) [t]=true:=by
   intro k q t o hl ho ht bb hq;simp only[Zoe,Kf] at hl;have:=KW.1 hl.2 q (Lx.2 hq);simp only[Lt,beq_iff_eq,Ur,ho,ht] at this;rcases this with h | h
   ·exact absurd h bb
   ·simp only[Ur];cases a3:os[q]? with
    | none=>rfl
    | some oq=>
     rw[a3] at h;simp only at h ⊢;cases hd:oq.dst with
     | none=>rfl
     | some d=>
      rw[hd] at h;simp only[JJ,bne_iff_ne,ne_eq] at h;simp only[QL,K0,KX,Li,KG];exact h
  have ah:∀ {k:Nat} {o:CO},Zoe os k=true→os[k]?=some o→∃ t,o.dst=some t:=by
   intro k o hl ho;simp only[Zoe,Ur,ho,Kf] at hl;cases hd:o.dst with
   | none=>rw[hd] at hl;cases hl.1
   | some t=>exact⟨t,rfl⟩
  have av:∀ n,(∀ q∈js++ks,QL (Ur os q) [n]=true)→okV (gs r.1 n)=true→gs s2.1 n=gs r.1 n:=by
   intro n hn ho;rw[← h4.1 n] at ho ⊢;exact ZAU h3 hn ho
  have ak:∀ q∈js++ks,q≠i∧j<q∧q<os.length:=by
   intro q hq;refine⟨?_,?_,hlt q ?_⟩
   ·rcases Kh.1 hq with hq | hq
    ·have:=(LP.1 hsort.2).2.2 q hq i (by simp);omega
    ·have:=(LY.1 (LP.1 hsort.2).2.1).1 q hq;omega
   ·rcases Kh.1 hq with hq | hq
    ·exact hsort.1 q (by simp[hq])
    ·exact hsort.1 q (by simp[hq])
   ·rcases Kh.1 hq with hq | hq<;>simp[hq]
  have an:ZaA os j=true→∀ n∈looks oj,∀ q∈js++ks,QL (Ur os q) [n]=true:=fun am n hn q hq=>by
   obtain⟨_,h6,h7⟩:=ak q hq;exact aa am ae o_ h7 hn
  have ao:ZaA os i=true→∀ n∈looks oi,∀ q∈js++ks,QL (Ur os q) [n]=true:=fun am n hn q hq=>by
   obtain⟨_,h6,h7⟩:=ak q hq;rcases Kh.1 hq with hq | hq
   ·obtain⟨oq,a3,ap,_⟩:=hj q (by simp[hq]);simp only[Xx,Kf] at ap;have h5:=ap.1.1;simp only[Ur,a3];cases hd:oq.dst with
    | none=>rfl
    | some d=>
     rw[hd] at h5;simp only[QL,K0,KX,Li] at h5 ⊢;intro e;simp at e;exact h5 (e ▸ hn)
   ·have:=(LY.1 (LP.1 hsort.2).2.1).1 q hq;exact aa am ab o_ h7 hn
  have ai:∀ {o:CO} {n:Nat},n∈(ZF o.op).flatMap WD→n∈looks o:=fun h=>Kh.2 (.inl h);have aj:∀ {o:CO} {n:Nat},n∈(Zml o.op).flatMap WD→n∈looks o:=fun {o n} h=>by
   refine Kh.2 (.inl ?_);cases ho:o.op<;>rw[ho] at h<;>simp only[Zml,List.flatMap_nil,KC] at h
   simp only[ZF,KQ,Kh];exact .inr h
  have a4:∃ t1,ZH C M os nx i s=some t1∧∃ t2,ZH C M os nx j t1=some t2∧XJ t2 s2:=by
   rcases a2 with ⟨aw,ay⟩ | ⟨aw,az,k1,k5,k6⟩ | ⟨aw,az,k0,k1,k2,k3,k4,k5,k6⟩
   case inr.inl=>
    obtain⟨t,ht⟩:=ah k5 ab;refine Zw9 ab ae az au ad k1 ht ?_ h1 h2;rw[ht] at k6;simp only[okD] at k6;rw[av t (fun q hq=>?_) k6]
    ·exact k6
    ·obtain⟨h5,_,h7⟩:=ak q hq;exact ag k5 ab ht h5 h7
   case inr.inr=>
    obtain⟨t,ht⟩:=ah k5 ab;refine Zvo hM ab ae az a0 au (af k4 ab) (af k3 ae) ad hs hfi (hfj j (by simp)) k1 k2 ?_ ht h1 h2;refine(Zvn k0 k1 k6).move (fun n hn=>av n (ao k4 n (ai hn))) (fun n hn=>av n fun q hq=>?_) (fun n hn=>av n (an k3 n (aj hn)));obtain⟨h5,_,h7⟩:=ak q hq;exact ag k5 ab hn h5 h7
   cases az:ZV os i with
   | false=>exact Zzo ab ae az aw a0 au ad hs hfi (hfj j (by simp)) h1 h2
   | true=>
    rcases ay az with hc | ⟨am,hl⟩ | ⟨bc,bd⟩ | ⟨k1,k5,k6⟩ | ⟨k0,k1,k2,k3,k4,k5,k6⟩
    case inr.inr.inr.inl=>
     obtain⟨t,ht⟩:=ah k5 ae;refine Zw8 ab ae aw au ad k1 ht ?_ h1 h2;rw[ht] at k6;simp only[okD] at k6;rw[av t (fun q hq=>?_) k6]
     ·exact k6
     ·obtain⟨_,h6,h7⟩:=ak q hq;exact ag k5 ae ht o_ h7
    case inr.inr.inr.inr=>
     obtain⟨t,ht⟩:=ah k5 ae;refine Zw7 hM ab ae aw a0 au (af k3 ae) (af k4 ab) ad hs hfi (hfj j (by simp)) k1 k2 ?_ ht h1 h2;refine(Zvn k0 k1 k6).move (fun n hn=>av n (an k3 n (ai hn))) (fun n hn=>av n fun q hq=>?_) (fun n hn=>av n (ao k4 n (aj hn)));obtain⟨_,h6,h7⟩:=ak q hq;exact ag k5 ae hn o_ h7
    ·exact Zzs ab ae hc aw a0 au ad hs hfi (hfj j (by simp)) h1 h2
    ·refine Zw6 ab ae az aw a0 au ad hs hfi (hfj j (by simp)) ⟨am,?_⟩ h1 h2;rcases hl with hl | ⟨be,bf,bg,al⟩
     ·exact .inl hl
     ·refine .inr ⟨be,?_⟩;have a5:∀ x∈ZF oi.op,okW (evO r.1 x)=true→evO s.1 x=evO r.1 x:=by
       intro x hx ax;cases x with
       | v a=>rfl
       | f n=>rfl
       | t n=>
        simp only[evO] at ax ⊢;have hn:n∈looks oi:=by
         rw[looks];exact Kh.2 (.inl (Kz.2 ⟨.t n,hx,KG.2 rfl⟩))
        refine Zt6 a1 (fun q hq=>?_) ax;rcases Kh.1 hq with hq | hq
        ·obtain⟨oq,a3,ap,_⟩:=hj q hq;simp only[Xx,Kf] at ap;have h5:=ap.1.1;simp only[Ur,a3];cases hd:oq.dst with
         | none=>rfl
         | some d=>
          rw[hd] at h5;simp only[QL,K0,KX,Li] at h5 ⊢;intro e;simp at e;exact h5 (e ▸ hn)
        ·refine aa bg ab ?_ (hlt q (Kh.2 (.inr hq))) hn;rcases Kd.1 hq with rfl | hq
         ·omega
         ·have:=LP.1 hsort.2;have:=(LY.1 this.2.1).1 q hq;omega
      have a7:∀ id,QS r.1 id (ZF oj.op)=true→QS s.1 id (ZF oj.op)=true:=by
       intro id bh;have bi:∀ xs:List Opd,(∀ z∈xs,z∈ZF oj.op)→QS r.1 id xs=true→QS s.1 id xs=true:=by
        intro xs
        induction xs with
        | nil=>intro _ _;rfl
        | cons z zs ihz=>
         intro a6 hz;simp only[QS,Kf] at hz ⊢;refine⟨?_,ihz (fun z' bj=>a6 z' (by simp[bj])) hz.2⟩;cases z with
         | v a=>exact hz.1
         | f n=>exact hz.1
         | t n=>
          simp only[evO] at hz ⊢;have hn:n∈looks oj:=by
           rw[looks];exact Kh.2 (.inl (Kz.2 ⟨.t n,a6 (.t n) (Lh ..),KG.2 rfl⟩))
          rw[ZAU a1 (fun q hq=>?_) (ZCo hz.1)]
          ·exact hz.1
          ·refine aa bf ae ?_ (hlt q hq) hn;rcases Kh.1 hq with hq | hq
           ·rcases Kd.1 hq with rfl | hq
            ·omega
            ·have:=hsort.1 q (by simp[hq]);omega
           ·have:=hsort.1 q (by simp only[Kh];exact .inr hq);omega
       exact bi _ (fun _ h=>h) bh
      cases ho:oi.op<;>rw[ho] at am al<;>first | (cases am;done) | skip
      case store slc sz x y=>
       simp only[Zko,Kf] at al ⊢;obtain⟨al,ar⟩:=al;have ax:okV (evO r.1 x)=true:=by
        cases ht:Vh (evO r.1 x) with
        | none=>rw[ht] at al;simp[Ze2] at al
        | some id=>cases hv:evO r.1 x<;>rw[hv] at ht<;>simp only[Vh] at ht<;>first | (cases ht;done) | rfl
       rw[a5 x (by rw[ho];simp[ZF]) (ZoR ax)];constructor
       ·cases ht:Vh (evO r.1 x) with
        | none=>rw[ht] at al;simp[Ze2] at al
        | some id=>rw[ht] at al;exact a7 id al
       ·by_cases hp:∃ b1 b2 b3 b4,evO r.1 x=.prow b1 b2 b3 b4
        ·obtain⟨b1,b2,b3,b4,hp⟩:=hp;rw[hp] at ar ⊢;rcases Zno ar with ⟨d,hv⟩ | hv
         ·rw[a5 y (by rw[ho];simp[ZF]) (by rw[hv];rfl),hv];rfl
         ·rw[a5 y (by rw[ho];simp[ZF]) (ZoR hv.1)];exact Zzr ⟨hv.1,Zpp a7 hv.2⟩
        ·exact Zt7 fun b1 b2 b3 b4 e=>hp ⟨b1,b2,b3,b4,e⟩
      case append sz by_ str flat x y=>
       simp only[Zko,Kf,Lt] at al ⊢;obtain⟨ar,aq⟩:=al;constructor
       ·have ax:okW (evO r.1 x)=true:=by
         cases hv:evO r.1 x<;>rw[hv] at ar<;>first | rfl | (cases ar;done) | skip
         case tup vs=>cases vs<;>first | rfl | cases ar
        rw[a5 x (by rw[ho];simp[ZF]) ax];cases hv:evO r.1 x<;>rw[hv] at ar<;>first | (cases ar;done) | exact a7 _ ar | skip
        ·rfl
        case tup vs=>cases vs<;>first | rfl | cases ar
       ·rcases aq with aq | aq
        ·exact .inl aq
        ·right
         have ax:okW (evO r.1 y)=true:=by
          unfold seenSrc at aq;split at aq
          ·rename_i k hk;rw[hk];rfl
          ·exact ZoR aq
         rw[a5 y (by rw[ho];simp[ZF]) ax];unfold seenSrc at aq ⊢;split at aq
         ·exact a7 _ aq
         ·exact aq
    ·exact Zzu ab ae aw au bc bd h1 h2
  obtain⟨t1,g1,t2,g2,g3⟩:=a4;obtain⟨r3,g4,g5⟩:=Zpn g3.symm h3;refine⟨t1,g1,r3,?_,g5.symm.trans h4⟩;simp only[KA,runL,g2,Zg];exact g4
def rem (n:Nat) (listed:Array Bool):List Nat:=(List.range n).filter fun i=>!listed.getD i true
theorem Zh6 {n:Nat} {aa:Array Bool} {i:Nat}:i∈rem n aa↔i<n∧aa.getD i true=false:=by
 simp[rem]
theorem Zpv (n:Nat) (aa:Array Bool):(rem n aa).Pairwise (· < ·):=List.Pairwise.filter _ List.pairwise_lt_range
theorem ZCr {n:Nat} {aa:Array Bool} (ad:aa.size=n) (i:Nat):rem n (aa.setIfInBounds i true)=(rem n aa).filter fun j=>j != i:=by
 simp only[rem,List.filter_filter];refine List.filter_congr fun j hj=>?_;have ae:j<n:=Lx.1 hj;by_cases ab:i=j
 ·subst ab;simp[ad,ae]
 ·simp[Array.getElem?_setIfInBounds_ne ab,Ne.symm ab]
def Zsz (nx:Nat) (listed:Array Bool) (id:Nat):Prop:=id<nx∨∃ k,listed.getD k false=true∧nx+64*k≤id∧id<nx+64*k+64
theorem W0 {l:Array Bool} {k:Nat} (h:l.getD k false=true):k<l.size∧l.getD k true=true:=by
 rcases K7 k l.size with h1 | h1
 ·refine⟨h1,?_⟩;simp[h1] at h ⊢;exact h
 ·simp[Array.getElem?_eq_none h1] at h
theorem Zpw {nx i:Nat} {aa:Array Bool} (h:aa.getD i true=false):Xa (Zsz nx aa) (nx+64*i):=by
 intro id h1 h2 hu;rcases hu with hu | ⟨k,hk,h3,h4⟩
 ·omega
 ·have ab:k≠i:=fun e=>by subst e;rw[(W0 hk).2] at h;cases h
  rcases LX ab with h5 | h5<;>omega
theorem Zpx {nx i:Nat} {aa:Array Bool} (hi:i<aa.size):∀ id,UE (Zsz nx aa) (nx+64*i) id→Zsz nx (aa.setIfInBounds i true) id:=by
 rintro id ((h | ⟨k,hk,h1⟩) | h)
 ·exact .inl h
 ·exact .inr ⟨k,getD_set_true hk,h1⟩
 ·exact .inr ⟨i,by simp[hi],h.1,h.2⟩
end
end Go.Abs
