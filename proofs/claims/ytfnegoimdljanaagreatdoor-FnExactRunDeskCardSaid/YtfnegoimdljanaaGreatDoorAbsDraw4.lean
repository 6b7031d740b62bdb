/- Own text. -/
import Derived.Test.YtfnegoimdljanaaGreatDoorAbsDrawD
set_option linter.unusedVariables false
set_option linter.unusedSimpArgs false
namespace Go.Abs
open Go
section
variable {P:Program} {nt:Nat}
theorem ZmJ {α β:Type} {f:α→Option β}:∀ {l:List α} {r:List β},QJ f l=some r→∀ (i:Nat) (x:α),l[i]?=some x→∃ y,r[i]?=some y∧f x=some y
 | [],r,h,i,x,hx=>by simp at hx
 | a :: l,r,h,i,x,hx=>by
  simp only[QJ] at h;obtain⟨y,h1,h⟩:=Za h;obtain⟨ys,h2,h⟩:=Za h;cases h;cases i with
  | zero=>simp at hx;subst hx;exact⟨y,by simp,h1⟩
  | succ i=>simp at hx;obtain⟨z,h3,h4⟩:=ZmJ h2 i x hx;exact⟨z,by simpa using h3,h4⟩
theorem Zfi {α β:Type} {f:α→Option β}:∀ {l:List α} {r:List β},QJ f l=some r→r.length=l.length
 | [],r,h=>by simp only[QJ] at h;cases h;rfl
 | a :: l,r,h=>by
  simp only[QJ] at h;obtain⟨y,h1,h⟩:=Za h;obtain⟨ys,h2,h⟩:=Za h;cases h;simp[Zfi h2]
theorem ZBM {C:Orc} {M:Zs} (hC:QG P C) {ops:Array Oper} {os:List CO} (ad:QJ (Zpu P nt ops.toList) ops.toList=some os) {nx i:Nat} {s s' : Sl×Hp} {U:Nat→Prop} (hs:ZkT nt s U) (hf:Xy U (nx+64*i))
  (h:ZI C M os nx i s=some s'):ZkT nt s' (Zai U (nx+64*i)):=by
 obtain⟨F,A,I,Γ,a,w,aa⟩:=hs;unfold ZI at h;obtain⟨co,ae,h⟩:=Za h;have ag:i<ops.toList.length:=by rw[← Zfi ad];exact(Kb.1 ae).1
 obtain⟨am,h1,h2⟩:=ZmJ ad i ops.toList[i] (Kv ag);rw[ae] at h1;cases h1;obtain⟨hg,ah,ab,af⟩:=Zh2 h2;unfold ZP at h;obtain⟨b,hw,h⟩:=Za h;cases b with
 | true=>
  simp only[Km] at h;obtain⟨ce,ai,aj,rfl⟩:=XK h;have ak:=ZBH hC aa ah hf ab aj (Zgy ai) (fun a' w'=>∃ F A I Γ a w,Sim nt F A I Γ (Zai U (nx+64*i)) (ce.on co.dst s.1 s.2).1 (ce.on co.dst s.1 s.2).2 a w) (fun _ _ _=>False) fun u w' hp=>by
   obtain⟨I1,Γ1,b1,b2,b3,b4,b5⟩:=hp;rw[← af] at b5;exact⟨F,A,I1,Γ1,_,_,b5⟩
  obtain⟨_,_,al⟩:=Oper.wp_ex ak;exact al
 | false=>
  simp only[Ka,Kn] at h;cases h;obtain⟨I1,Γ1,b1,b2,b3,b4,b5⟩:=aa.pure (U':=Zai U (nx+64*i)) (v:=.tup []) (u:=undef) (dst:=co.dst) (fun id hu=>.inl hu) ZoF (by rw[af];exact ab);exact⟨F,A,I1,Γ1,_,_,b5⟩
theorem Zwn {U:Nat→Prop} {nx i j:Nat} (aa:i≠j) (h:Xy U (nx+64*i)):Xy (Zai U (nx+64*j)) (nx+64*i):=by
 intro id h1 h2 hu;rcases hu with hu | hu
 ·exact h id h1 h2 hu
 ·rcases L4 aa with h3 | h3<;>omega
theorem ZG2 {id:Nat} {v:AV} (h:Zey id v=true):okV v=true:=by
 cases v with
 | tup vs=>cases vs with
  | nil=>rfl
  | cons x r=>cases h
 | _=>first | rfl | cases h
def okW (v:AV):Bool:=okV v
theorem ZqS {v:AV} (h:okV v=true):okW v=true:=h
theorem ZFM {g:List Nat} {v:AV} (h:okW (kill g v)=true):kill g v=v:=Zeh h
theorem ZG3 {C:Orc} {M:Zs} {os:List CO} {nx q n:Nat} {s r:Sl×Hp} (h:ZI C M os nx q s=some r) (hd:QY (Jp os q) [n]=true) (hk:okW (gs r.1 n)=true):gs s.1 n=gs r.1 n:=by
 unfold ZI at h;obtain⟨o,ho,h⟩:=Za h;have aa:o.dst≠some n:=by
  intro e;simp[Jp,ho,e,QY] at hd
 unfold ZP at h;obtain⟨b,_,h⟩:=Za h;cases b with
 | true=>
  simp only[Km] at h;obtain⟨ce,_,_,rfl⟩:=XK h;have e1:gs (ce.on o.dst s.1 s.2).1 n=kill ce.gone (gs s.1 n):=by
   show gs (Zt (XA ce.gone s.1) o.dst ce.eff.val) n=_;rw[QE,Kd aa,Q1]
  rw[e1] at hk ⊢;exact(ZFM hk).symm
 | false=>
  simp only[Ka,Kn] at h;cases h;show gs s.1 n=gs (Zt s.1 o.dst (.tup [])) n;rw[QE,Kd aa]
theorem Zyb {C:Orc} {M:Zs} {os:List CO} {nx n:Nat}:∀ {l:List Nat} {s r:Sl×Hp},runL C M os nx l s=some r→(∀ q∈l,QY (Jp os q) [n]=true)→okW (gs r.1 n)=true→gs s.1 n=gs r.1 n
 | [],s,r,h,_,_=>by simp only[runL] at h;cases h;rfl
 | i :: l,s,r,h,hd,hk=>by
  simp only[runL] at h;obtain⟨s1,h1,h⟩:=Za h;have h2:=Zyb h (fun q hq=>hd q (by simp[hq])) hk;rw[← h2] at hk ⊢;exact ZG3 h1 (hd i (by simp)) hk
theorem ZFN {C:Orc} {M:Zs} {os:List CO} {nx n:Nat} {l:List Nat} {s r:Sl×Hp} (h:runL C M os nx l s=some r) (hd:∀ q∈l,QY (Jp os q) [n]=true) (hk:okV (gs r.1 n)=true):gs s.1 n=gs r.1 n:=Zyb h hd (ZqS hk)
theorem ZBN {C:Orc} {M:Zs} {sl:Sl} {hp:Hp} {base:Nat} {c:COp} {ce:Zf} (hc:ZB6 c=true) (h:vop C M sl hp base c=some ce):ZeA (vop C M sl hp base c)=some ce:=by
 rw[h];have aa:ce.gone=[]∧ce.eff.sets=[]∧ce.eff.dels=[]∧ce.eff.frz=[]:=by
  have o1:∀ {v:AV},QV v=some ce→ce.gone=[]∧ce.eff.sets=[]∧ce.eff.dels=[]∧ce.eff.frz=[]:=fun h=>by cases h;exact⟨rfl,rfl,rfl,rfl⟩
  have o2:∀ {v:Option AV},WA v=some ce→ce.gone=[]∧ce.eff.sets=[]∧ce.eff.dels=[]∧ce.eff.frz=[]:=fun h=>by obtain⟨v,_,h⟩:=Za h;exact o1 h
  cases c<;>simp only[ZB6,Ka] at hc<;>simp only[vop] at h
  case stuck=>cases h
  case move x=>exact o1 h
  case assign s x=>
   unfold ZhO at h;split at h
   ·obtain⟨s,_,h⟩:=Za h;cases h;exact⟨rfl,rfl,rfl,rfl⟩
   ·exact o1 h
  case pick c a b=>
   unfold Zjn at h;split at h
   ·split at h<;>exact o1 h
   ·cases h
  case alloc slc cs=>
   unfold Zjo Ztx at h;split at h
   ·split at h<;>first | (cases h;done) | (cases h;exact⟨rfl,rfl,rfl,rfl⟩)
   ·split at h<;>(cases h;exact⟨rfl,rfl,rfl,rfl⟩)
  case box x=>
   unfold ZEx at h;split at h
   ·cases h;exact⟨rfl,rfl,rfl,rfl⟩
   ·cases h
  case build zs ps=>obtain⟨cs,_,h⟩:=Za h;exact o1 h
  case load g s a=>exact o2 h
  case nilCheck x=>unfold ZaY at h;split at h<;>first | exact o1 h | cases h
  case bin op eq x y=>
   unfold ZqH at h;split at h
   ·split at h
    ·exact o2 h
    ·cases h
   ·exact o2 h
  case un op x=>exact o2 h
  case eqA neg n x y=>
   unfold Zyq at h;split at h
   ·obtain⟨r,_,h⟩:=Za h;exact o1 h
   ·cases h
  case convI k x=>unfold Go.Abs.convI at h;split at h<;>first | exact o1 h | cases h
  case convS x=>unfold Go.Abs.convS at h;split at h<;>first | exact o1 h | cases h
  case fn f cs=>exact o2 h
  case make s b z l c=>
   obtain⟨l,_,h⟩:=Za h;obtain⟨c,_,h⟩:=Za h;unfold ZwJ at h;split at h
   ·cases h;exact⟨rfl,rfl,rfl,rfl⟩
   ·cases h
  case slice s x lo hi=>exact o2 h
  case sliceS x lo hi=>exact o2 h
  case slice0 x hi mx=>exact o2 h
  case slice3 s x lo hi mx=>exact o2 h
  case shift off x=>unfold W4 at h;split at h<;>first | exact o1 h | cases h
  case part g s off x=>exact o2 h
  case iaS s x i=>
   obtain⟨n,_,h⟩:=Za h;unfold Zk1 at h;split at h
   ·exact o2 h
   ·cases h
  case iaA len s x i=>
   obtain⟨n,_,h⟩:=Za h;unfold ZtA at h;split at h
   ·unfold W4 at h;split at h<;>first | exact o1 h | cases h
   ·cases h
  case ixS x i=>
   obtain⟨n,_,h⟩:=Za h;unfold ZB3 at h;split at h
   ·unfold ZAy at h;split at h
    ·obtain⟨b,_,h⟩:=Za h;exact o1 h
    ·cases h
   ·cases h
  case ixA g s len x i=>
   obtain⟨n,_,h⟩:=Za h;unfold ZEz at h;split at h
   ·exact o2 h
   ·cases h
  case nth i x=>unfold ZAz at h;split at h<;>first | exact o2 h | cases h
  case len x=>obtain⟨n,_,h⟩:=Za h;exact o1 h
  case lenS x=>obtain⟨n,_,h⟩:=Za h;exact o1 h
  case min x y=>unfold Zpr at h;split at h<;>first | (split at h<;>first | exact o1 h | cases h) | cases h
  case max x y=>unfold Zps at h;split at h<;>first | (split at h<;>first | exact o1 h | cases h) | cases h
 simp only[ZeA,Zh,aa.1,aa.2.1,aa.2.2.1,aa.2.2.2,ZhW]
theorem ZD8 {C:Orc} {M:Zs} {nx i:Nat} {o:CO} (hc:ZB6 o.op=true) (s:Sl×Hp):ZP C M nx i true o s=ZP C M nx i false o s:=by
 unfold ZP;have:WB C M nx i true o.op s.1 s.2=WB C M nx i false o.op s.1 s.2:=by
  unfold WB;simp only[Km,Ka,Kn];cases h:vop C M s.1 s.2 (nx+64*i) o.op with
  | none=>rfl
  | some ce=>rw[← h,ZBN hc h,h]
 rw[this]
theorem Zwo {A B:Hp} (hd:∀ k x y,(k,x)∈A→(k,y)∈B→False) (hp:Hp) (id:Nat):lkp (Zi (Zi hp A) B) id=lkp (Zi (Zi hp B) A) id:=by
 have aa:∀ (l:Hp) (hp hp' : Hp),lkp hp id=lkp hp' id→lkp (Zi hp l) id=lkp (Zi hp' l) id:=by
  intro l
  induction l with
  | nil=>intro hp hp' h;exact h
  | cons q r ih=>
   intro hp hp' h;obtain⟨k,x⟩:=q;simp only[Zi];exact ih _ _ (by rw[Qm,Qm,h])
 by_cases h1:∃ o,(id,o)∈A
 ·have h2:∀ o,(id,o)∉B:=fun o ho=>by
   obtain⟨o',ab⟩:=h1;exact hd id o' o ab ho
  rw[ZD B _ id h2];exact aa A _ _ (ZD B hp id h2).symm
 ·have h2:∀ o,(id,o)∉A:=fun o ho=>h1 ⟨o,ho⟩;rw[ZD A _ id h2];exact aa B _ _ (ZD A hp id h2)
theorem Zz7 {hp:Hp} {v:AV} {q:D×Bool×List Nat} (h:ZcB hp v=some q):∀ i∈q.2.2,i∈Zo v:=by
 intro i hi;cases v<;>simp only[ZcB] at h<;>first | (cases h;simp at hi;done) | (cases h;done) | skip
 obtain⟨p,_,h⟩:=Za h;cases h;simpa [Zo] using hi
theorem Zo9 {hp:Hp}:∀ {vs:List AV} {q:List D×Bool×List Nat},Ws hp vs=some q→∀ i∈q.2.2,i∈vs.flatMap Zo
 | [],q,h,i,hi=>by simp only[Ws] at h;cases h;simp at hi
 | v :: vs,q,h,i,hi=>by
  simp only[Ws] at h;obtain⟨q1,h1,h⟩:=Za h;obtain⟨q2,h2,h⟩:=Za h;split at h
  ·cases h;rcases Ki.1 hi with hi | hi
   ·exact KA.2 ⟨v,by simp,Zz7 h1 i hi⟩
   ·obtain⟨c,hc,aa⟩:=KA.1 (Zo9 h2 i hi);exact KA.2 ⟨c,by simp[hc],aa⟩
  ·cases h
theorem Zz8 {hp:Hp} {n:Nat} {v:AV} {q:D×List Nat} (h:Zji hp n v=some q):∀ i∈q.2,i∈Zo v:=by
 unfold Zji at h;split at h
 ·split at h
  ·cases h;simp
  ·cases h
 ·cases h;simp
 ·unfold Zke at h;split at h
  ·split at h
   ·cases h;simp[Zo]
   ·cases h
  ·split at h
   ·cases h;simp[Zo]
   ·cases h
  ·cases h
 ·cases h
theorem Zpa {hp:Hp} {n:Nat}:∀ {vs:List AV} {q:List D×List Nat},Wt hp n vs=some q→∀ i∈q.2,i∈vs.flatMap Zo
 | [],q,h,i,hi=>by simp only[Wt] at h;cases h;simp at hi
 | v :: vs,q,h,i,hi=>by
  simp only[Wt] at h;obtain⟨q1,h1,h⟩:=Za h;obtain⟨q2,h2,h⟩:=Za h;split at h
  ·cases h;rcases Ki.1 hi with hi | hi
   ·exact KA.2 ⟨v,by simp,Zz8 h1 i hi⟩
   ·obtain⟨c,hc,aa⟩:=KA.1 (Zpa h2 i hi);exact KA.2 ⟨c,by simp[hc],aa⟩
  ·cases h
theorem ZD9 {hp:Hp} {slc:List (Option Nat)} {s base:Nat} {vs:List AV} {x:AV} {e:Eff} (h:Zcr hp slc s base vs x=some e):∃ id o,V1 x=some id∧e.val=.junk∧e.sets=[(id,o)]∧(∀ k∈e.dels,k∈vs.flatMap Zo∧∃ a b c d,x=.prow a b c d)∧∀ i∈e.frz,i∈vs.flatMap Zo:=by
 cases x<;>simp only[Zcr] at h<;>first | cases h | skip
 case ptr id off=>
  unfold Zjh at h;split at h
  ·split at h
   ·split at h<;>(cases h;exact⟨id,_,rfl,rfl,rfl,fun i hi=>by simp at hi,fun i hi=>by simp at hi⟩)
   ·cases h
  ·cases h
 case prow id sz i off=>
  unfold Zep at h;split at h
  ·split at h
   ·obtain⟨x,_,h⟩:=Za h;obtain⟨q,hq,h⟩:=Za h;unfold Zkd at h;split at h
    ·cases h;exact⟨id,_,rfl,rfl,rfl,fun i hi=>by simp at hi,Zo9 hq⟩
    ·cases h
   ·cases h
  ·split at h
   ·obtain⟨x,_,h⟩:=Za h;obtain⟨q,hq,h⟩:=Za h;unfold Zkf at h;split at h
    ·cases h;exact⟨id,_,rfl,rfl,rfl,fun k hk=>⟨Zpa hq k hk,_,_,_,_,rfl⟩,fun i hi=>by simp at hi⟩
    ·cases h
   ·cases h
  ·cases h
def FzEq (o o' : Option Zm):Prop:=∃ b:Bool,o'=o.map fun x=>if b then VM x else x
theorem FzEq.seen {o o' : Option Zm} (h:FzEq o o'):Zcy [] o o':=by
 obtain⟨b,rfl⟩:=h;have hk:∀ x:Zm,XG [] x=x:=fun x=>by
  cases x with
  | box cs=>simp only[XG];congr 1;rw[K5 (g:=id) (fun a _=>Zgw a),LK]
  | row _ _ _ _=>rfl
  | gone=>rfl
  | tree _ _ _ l=>rcases l with _ | ⟨_ | _,_⟩<;>simp[XG,W2]
 have:=ZAh (g:=[]) (b:=b) o;have e:(o.map (XG []))=o:=by cases o<;>simp[hk]
 rw[e] at this;exact this
theorem vop_fz {C:Orc} {M:Zs} {sl:Sl} {hp hp' : Hp} {base:Nat} {c:COp} (hc:Zas c=true) (h:∀ x∈ZF c,∀ k∈Zz (evO sl x),FzEq (lkp hp k) (lkp hp' k)):vop C M sl hp' base c=vop C M sl hp base c:=by
 have hs:∀ x∈ZF c,ZmN [] hp hp' (evO sl x):=fun x hx k hk=>(h x hx k hk).seen;cases c<;>simp only[Zas,Ka] at hc<;>simp only[ZF] at h hs<;>simp only[vop]
 case load g s a=>
  have h1:=h a (by simp);have h2:=hs a (by simp);cases hv:evO sl a<;>rw[hv] at h1 h2<;>simp only[UO]
  case ptr id off=>
   obtain⟨b,e⟩:=h1 id (by simp[Zz,ZC,Zo]);rw[e];cases lkp hp id with
   | none=>rfl
   | some o=>cases o<;>cases b<;>rfl
  case prow id sz i off=>
   obtain⟨b,e⟩:=h1 id (by simp[Zz,ZC,Zo]);rw[e];cases lkp hp id with
   | none=>rfl
   | some o=>cases o<;>cases b<;>rfl
 case slice s x lo hi=>rw[Zja (hs x (by simp))]
 case slice0 x hi mx=>unfold slice0;rw[ZgA (hs x (by simp))]
 case iaS s x i=>
  congr 1
  funext n
  simp only[Zk1];rw[Zcq (hs x (by simp))]
 case len x=>rw[ZgA (hs x (by simp))]
def ZmK (sl:Sl) (a:COp):COp→Bool
 | .store _ _ x y=>ZhU sl a (V1 (evO sl x))&&Wk sl a (evO sl x) (evO sl y)
 | .append _ _ _ flat x y=>Zat sl a (evO sl x)&&(flat || seenSrc sl a (evO sl y))
 | _=>false
def LooseS (s:Sl) (a b:COp):Prop:=ZtF b=true∧(W5 a=true∨(Zas a=true∧ZmK s a b=true))
theorem Zi7 {sl:Sl} {id:Nat}:∀ {xs:List Opd},Xc sl id xs=true→∀ x∈xs,Zey id (evO sl x)=true
 | [],_,x,hx=>by simp at hx
 | y :: ys,h,x,hx=>by
  simp only[Xc,Kf] at h;rcases Ke.1 hx with rfl | hx
  ·exact h.1
  ·exact Zi7 h.2 x hx
theorem Zpb {sl:Sl} {xs:List Opd}:∀ {ks:List Nat},Ym sl xs ks=true→∀ k∈ks,Xc sl k xs=true
 | [],_,k,hk=>by simp at hk
 | j :: r,h,k,hk=>by
  simp only[Ym,Kf] at h;rcases Ke.1 hk with rfl | hk
  ·exact h.1
  ·exact Zpb h.2 k hk
theorem Zpc {sl:Sl} {a:COp} {b1 b2 b3 b4:Nat} {v:AV} (h:Wk sl a (.prow b1 b2 b3 b4) v=true):(∃ d,v=.d d)∨(okV v=true∧Ym sl (ZF a) (Zz v)=true):=by
 cases v<;>first | exact .inl ⟨_,rfl⟩ | (simp only[Wk,Kf] at h;exact .inr h)
theorem ZEa {sl:Sl} {a:COp} {b1 b2 b3 b4:Nat} {v:AV} (h:okV v=true∧Ym sl (ZF a) (Zz v)=true):Wk sl a (.prow b1 b2 b3 b4) v=true:=by
 cases v<;>first | rfl | (simp only[Wk,Kf];exact h)
theorem Zyc {sl:Sl} {a:COp} {x v:AV} (hx:∀ a b c d,x≠.prow a b c d):Wk sl a x v=true:=by
 cases x<;>first | rfl | exact absurd rfl (hx _ _ _ _)
theorem Zs6 {sl sl' : Sl} {xs:List Opd} (h:∀ k,Xc sl k xs=true→Xc sl' k xs=true):∀ {ks:List Nat},Ym sl xs ks=true→Ym sl' xs ks=true
 | [],_=>rfl
 | j :: r,hh=>by
  simp only[Ym,Kf] at hh ⊢;exact⟨h j hh.1,Zs6 h hh.2⟩
theorem Zs7 {id:Nat} {v:AV} (h:Zey id v=true):id∉Zz v:=by
 cases v with
 | tup vs=>cases vs with
  | nil=>simp[Zz]
  | cons x r=>cases h
 | _=>simp[Zey,Zz,ZC,Zo] at h ⊢ <;> exact fun e=>h e.symm
theorem ZBO {hp:Hp} {sz by_ base:Nat} {str flat:Bool} {x y:AV} {e:Eff} (h:Zap hp sz by_ str flat base x y=some e):e.sets=[]∧e.frz=[]∧((x=.nil∧e.dels=[])∨∃ id,e.dels=[id]∧(x=.own id∨∃ o n,x=.ownv id o n)):=by
 unfold Zap at h;obtain⟨q,_,h⟩:=Za h;split at h
 ·cases x<;>simp only[Zk0] at h<;>first | (cases h;done) | skip
  ·split at h
   ·cases h;exact⟨rfl,rfl,.inl ⟨rfl,rfl⟩⟩
   ·cases h
  ·split at h
   ·cases h
   ·unfold Ztw at h;split at h
    ·split at h
     ·cases h;exact⟨rfl,rfl,.inr ⟨_,rfl,.inl rfl⟩⟩
     ·cases h
    ·cases h
  ·split at h
   ·split at h
    ·cases h
    ·unfold ZmY at h;split at h
     ·split at h
      ·cases h;exact⟨rfl,rfl,.inr ⟨_,rfl,.inr ⟨_,_,rfl⟩⟩⟩
      ·cases h
     ·cases h
   ·split at h
    ·unfold ZmX at h;split at h
     ·split at h
      ·cases h;exact⟨rfl,rfl,.inr ⟨_,rfl,.inr ⟨_,_,rfl⟩⟩⟩
      ·cases h
     ·cases h
    ·unfold ZmW at h;split at h
     ·split at h
      ·cases h;exact⟨rfl,rfl,.inr ⟨_,rfl,.inr ⟨_,_,rfl⟩⟩⟩
      ·cases h
     ·cases h
 ·cases h
theorem Zs8 {hp:Hp} {x:AV} {k:Nat} (h:k∈Ye hp x):x=.own k:=by
 unfold Ye at h;split at h
 ·split at h
  ·simp at h;subst h;rfl
  ·simp at h
 ·simp at h
theorem Zz9 {hp:Hp} {sz by_ base:Nat} {str flat:Bool} {x y:AV} {e:Eff}:∀ {ms:List Nat},(∀ k∈ms,x=.own k∨y=.own k)→VQ hp sz by_ str flat base x y ms=some e→e.frz=[] ∧
  e.sets=[]∧∀ k∈e.dels,(x=.own k∨∃ o n,x=.ownv k o n)∨(flat=false∧y=.own k):=by
 have plain:∀ {hp' : Hp} {e:Eff},Zap hp' sz by_ str flat base x y=some e→e.sets=[]∧e.frz=[]∧∀ k∈e.dels,x=.own k∨∃ o n,x=.ownv k o n:=by
  intro hp' e h;obtain⟨g1,g2,g3⟩:=ZBO h;refine⟨g1,g2,fun k hk=>?_⟩;rcases g3 with ⟨_,g3⟩ | ⟨id,g3,g4⟩
  ·rw[g3] at hk;simp at hk
  ·rw[g3] at hk;simp at hk;subst hk;exact g4
 intro ms hm h;cases ms with
 | nil=>
  simp only[VQ] at h;obtain⟨g1,g2,g3⟩:=plain h;exact⟨g2,g1,fun k hk=>.inl (g3 k hk)⟩
 | cons i r=>
  simp only[VQ] at h;split at h
  ·cases h
  ·rename_i aa;obtain⟨e0,h1,h⟩:=Za h;cases h;obtain⟨g1,g2,g3⟩:=plain h1;refine⟨g2,g1,fun k hk=>?_⟩;rcases Ki.1 hk with hk | hk
   ·exact .inl (g3 k hk)
   ·rcases hm k hk with hk | hk
    ·exact .inl (.inl hk)
    ·exact .inr ⟨by simpa using aa,hk⟩
theorem ZFO {hp:Hp} {sz by_ base:Nat} {x y:AV} {ce:Zf} (h:appT hp sz by_ base x y=some ce):ce.gone=[]∧ce.eff.frz=[]∧ce.eff.sets=[]∧∀ k∈ce.eff.dels,x=.own k∨y=.own k:=by
 unfold appT at h;obtain⟨e,h1,h⟩:=Za h;cases h;obtain⟨q,h2,h1⟩:=Za h1;have hy:y=.own q.1:=by
  unfold Zfm at h2;split at h2
  ·obtain⟨q2,_,h2⟩:=Za h2;cases h2;rfl
  ·cases h2
 split at h1
 ·cases x<;>simp only[Zdt] at h1<;>first | (cases h1;done) | skip
  ·split at h1
   ·cases h1;exact⟨rfl,rfl,rfl,fun k hk=>by simp at hk;subst hk;exact .inr hy⟩
   ·cases h1
  ·obtain⟨q3,_,h1⟩:=Za h1;split at h1
   ·cases h1;refine⟨rfl,rfl,rfl,fun k hk=>?_⟩;simp at hk;rcases hk with rfl | rfl
    ·exact .inl rfl
    ·exact .inr hy
   ·cases h1
 ·cases h1
theorem ZAa {hp:Hp} {sz by_ base:Nat} {str flat:Bool} {x y:AV} {ce:Zf} (h:ZAA hp sz by_ str flat base x y=some ce):ce.gone=[]∧ce.eff.frz=[] ∧
  ce.eff.sets=[]∧∀ k∈ce.eff.dels,(x=.own k∨∃ o n,x=.ownv k o n)∨(flat=false∧y=.own k):=by
 have kx:∀ k∈Ye hp x,x=.own k∨y=.own k:=fun k hk=>.inl (Zs8 hk);have ky:∀ k∈Ye hp y,x=.own k∨y=.own k:=fun k hk=>.inr (Zs8 hk);have melt:∀ {ms:List Nat},(∀ k∈ms,x=.own k∨y=.own k)→Zin (VQ hp sz by_ str flat base x y ms)=some ce→ce.gone=[]∧ce.eff.frz=[] ∧
   ce.eff.sets=[]∧∀ k∈ce.eff.dels,(x=.own k∨∃ o n,x=.ownv k o n)∨(flat=false∧y=.own k):=by
  intro ms hm h;obtain⟨e,h1,h⟩:=Za h;cases h;exact⟨rfl,Zz9 hm h1⟩
 unfold ZAA at h;generalize Ye hp x=mx at h kx;generalize Ye hp y=my at h ky;cases mx with
 | nil=>exact melt ky h
 | cons i r=>
  cases my with
  | nil=>exact melt kx h
  | cons j t=>
   simp only[Zf3] at h;split at h
   ·cases h
   ·rename_i hc;obtain⟨g1,g2,g3,g4⟩:=ZFO h;have hf:flat=false:=by cases flat<;>simp_all
    exact⟨g1,g2,g3,fun k hk=>(g4 k hk).elim (fun e=>.inl (.inl e)) fun e=>.inr ⟨hf,e⟩⟩
theorem Zs9 {ds:List Nat} {l:Hp} {k:Nat} (h:k∈ds):lkp (Qc l ds) k=none:=by
 cases hl:lkp (Qc l ds) k with
 | none=>rfl
 | some o=>exact absurd h (W8 ds l k o hl).2
theorem ZG4 {C:Orc} {M:Zs} {sl:Sl} {hp:Hp} {base:Nat} {c:COp} {ce:Zf} (hc:ZtF c=true) (h:vop C M sl hp base c=some ce) :
  ce.gone=[]∧(∀ k,k∈ce.eff.dels∨(∃ o,(k,o)∈ce.eff.sets)→(∃ x∈ZF c,k∈Zz (evO sl x))∧∀ a,ZmK sl a c=true→Xc sl k (ZF a)=true)∧∀ k∈ce.eff.frz,∃ x∈ZF c,k∈Zz (evO sl x):=by
 cases c<;>first | (cases hc;done) | skip
 case store slc sz x y=>
  simp only[vop,Zin] at h;obtain⟨e,h7,h⟩:=Za h;cases h;obtain⟨id,o,ht,g1,g2,g3,g4⟩:=ZD9 h7;refine⟨rfl,fun k hk=>?_,fun k hk=>⟨y,by simp[ZF],ZsX (U:=fun k=>k∈Zz (evO sl y)) (fun _ h=>h) k (g4 k hk)⟩⟩;rcases hk with hk | ⟨o',hk⟩
  ·obtain⟨k1,b1,b2,b3,b4,k2⟩:=g3 k hk;have k3:=ZsX (U:=fun k=>k∈Zz (evO sl y)) (fun _ h=>h) k k1;refine⟨⟨y,by simp[ZF],k3⟩,fun a ha=>?_⟩;simp only[ZmK,Kf,k2] at ha;rcases Zpc ha.2 with ⟨d,hv⟩ | hv
   ·rw[hv] at k3;simp[Zz,ZC,Zo] at k3
   ·exact Zpb hv.2 k k3
  ·simp only[g2,KE,Prod.mk.injEq] at hk;have aa:=hk.1;subst aa;refine⟨⟨x,by simp[ZF],?_⟩,fun a ha=>?_⟩
   ·cases hv:evO sl x<;>rw[hv] at ht<;>simp only[V1] at ht<;>cases ht<;>simp[Zz,ZC,Zo]
   ·simp only[ZmK,Kf,ht,ZhU] at ha;exact ha.1
 case append sz by_ str flat x y=>
  simp only[vop] at h;obtain⟨g0,g2,g1,g3⟩:=ZAa h;refine⟨g0,fun k hk=>?_,fun k hk=>by simp only[g2,KL] at hk⟩;have ab:k∈ce.eff.dels:=by
   rcases hk with hk | ⟨o',hk⟩
   ·exact hk
   ·simp only[g1,KL] at hk
  rcases g3 k ab with g4 | ⟨g4,g5⟩
  ·refine⟨⟨x,by simp[ZF],?_⟩,fun a ha=>?_⟩
   ·rcases g4 with g4 | ⟨o,n,g4⟩<;>rw[g4]<;>simp[Zz,ZC,Zo]
   ·simp only[ZmK,Kf] at ha;rcases g4 with g4 | ⟨o,n,g4⟩<;>rw[g4] at ha<;>exact ha.1
  ·refine⟨⟨y,by simp[ZF],by rw[g5];simp[Zz,ZC,Zo]⟩,fun a ha=>?_⟩;simp only[ZmK,Kf,g4,LR] at ha;rw[g5] at ha;exact ha.2
theorem ZBP {C:Orc} {M:Zs} {os:List CO} {nx i j:Nat} {oi oj:CO} (ae:os[i]?=some oi) (ak:os[j]?=some oj) (ar:ZX os i=true) (am:ZX os j=false) (a3:i≠j) (au:XT oj oi=true)
  (an:∀ (k:Nat) (o:CO),os[k]?=some o→∀ x∈ZF o.op,Vd x=true) {s s1 s2:Sl×Hp} {U:Nat→Prop} (hs:ZkT nt s U) (a4:Xy U (nx+64*i)) (av:Xy U (nx+64*j)) (hl:LooseS s.1 oj.op oi.op)
  (h1:ZI C M os nx j s=some s1) (h2:ZI C M os nx i s1=some s2):∃ t1,ZI C M os nx i s=some t1∧∃ t2,ZI C M os nx j t1=some t2∧X8 t2 s2:=by
 obtain⟨F,A,I,Γ,a,w,ag⟩:=hs;simp only[XT,Kf] at au;obtain⟨⟨aw,ax⟩,al⟩:=au;have good:∀ (k:Nat) (o:CO),os[k]?=some o→∀ x∈ZF o.op,ZmH U (evO s.1 x):=by
  intro k o ho x hx;cases x with
  | t n=>exact ag.good n
  | v y=>exact Zaf (an k o ho _ hx)
  | f n=>exact⟨fun id a5=>by simp[evO,Zz,ZC] at a5,fun f a6 h c hc=>by cases h;simp at hc⟩
 simp only[ZI,ak,Zh,am] at h1;simp only[ZI,ae,Zh,ar] at h2;obtain⟨vj,aj,rfl,ao,ay⟩:=ZlD h1;obtain⟨a7,hl⟩:=hl;unfold ZP at h2;obtain⟨b,hw,h2⟩:=Za h2;have az : Z3 s.1 oi.guard=some b:=by rw[← hw];exact(QH aw).symm
 cases b with
 | false=>
  simp only[Ka,Kn] at h2;cases h2;refine⟨(Zt s.1 oi.dst (.tup []),s.2),by simp only[ZI,ae,Zh,ZP,az,Ka,Kn],?_⟩;have e2:=ay (Zt s.1 oi.dst (.tup []),s.2) (QH al) (XB C M s.2 (nx+64*j) (WZ (o:=oj) al));exact⟨(Zt (Zt s.1 oi.dst (.tup [])) oj.dst vj,Zi s.2 aj),by simp only[ZI,ak,Zh,am];exact e2,fun t=>(UN ax vj (.tup []) t).symm,fun id=>rfl⟩
 | true=>
  simp only[Km] at h2;obtain⟨ce,h3,h4,rfl⟩:=XK h2;have a0 : vop C M s.1 s.2 (nx+64*i) oi.op=some ce:=by
   have h5:=Zgy h3;rw[← h5,XB C M (Zi s.2 aj) (nx+64*i) (WZ (o:=oi) aw)];exact ZaS (ag.agree (W0 av ao s.2)) C M _ (good i oi ae)
  have aa:=Js h4;obtain⟨k1,k2,k3⟩:=ZG4 a7 a0;obtain⟨e,gn⟩:=ce;simp only at k1 k2 k3;subst k1;have ap:∀ k∈e.frz,U k:=fun k hk=>by
   obtain⟨x,hx,hk⟩:=k3 k hk;exact(good i oi ae x hx).1 k hk
  have ah:∀ k,k∈e.dels∨(∃ o,(k,o)∈e.sets)→U k:=fun k hk=>by
   obtain⟨⟨x,hx,hk⟩,_⟩:=k2 k hk;exact(good i oi ae x hx).1 k hk
  have ai:∀ s:Sl×Hp,Zf.on { eff:=e,gone:=[] } oi.dst s.1 s.2=(Zt s.1 oi.dst e.val,Zi (Zi (Qc (Qq e.frz s.2) e.dels) e.sets) e.adds):=by
   intro s;rfl
  refine⟨Zf.on { eff:=e,gone:=[] } oi.dst s.1 s.2,?_,?_⟩
  ·simp only[ZI,ae,Zh,ZP,az,Km,YZ,ar,WB];rw[a0,Zh,Kg h4]
  ·have ab:∀ k,U k→¬(k∈e.dels∨∃ o,(k,o)∈e.sets)→FzEq (lkp s.2 k) (lkp (Zi (Zi (Qc (Qq e.frz s.2) e.dels) e.sets) e.adds) k):=by
    intro k hk aq;rw[not_or] at aq;rw[← W0 a4 aa _ k hk,ZD _ _ k (fun o ho=>aq.2 ⟨o,ho⟩),UP _ _ k aq.1,Qi];exact⟨_,rfl⟩
   have e2:ZP C M nx j false oj (Zf.on { eff:=e,gone:=[] } oi.dst s.1 s.2)=some (Zt (Zf.on { eff:=e,gone:=[] } oi.dst s.1 s.2).1 oj.dst vj,Zi (Zf.on { eff:=e,gone:=[] } oi.dst s.1 s.2).2 aj):=by
    rw[ai];refine ay (Zt s.1 oi.dst e.val,Zi (Zi (Qc (Qq e.frz s.2) e.dels) e.sets) e.adds) (QH al) ?_;rw[XB C M _ (nx+64*j) (WZ (o:=oj) al)];rcases hl with hl | ⟨a8,a9⟩
    ·exact ZmO hl
    ·refine vop_fz a8 fun z hz k hk=>?_;refine ab k ((good j oj ak z hz).1 k hk) fun hp=>?_;exact Zs7 (Zi7 ((k2 k hp).2 _ a9) z hz) hk
   refine⟨_,by simp only[ZI,ak,Zh,am];exact e2,fun t=>?_,fun k=>?_⟩
   ·rw[ai,ai (Zt s.1 oj.dst vj,Zi s.2 aj)];exact(UN ax vj e.val t).symm
   ·rw[ai,ai (Zt s.1 oj.dst vj,Zi s.2 aj)];show lkp (Zi (Zi (Zi (Qc (Qq e.frz s.2) e.dels) e.sets) e.adds) aj) k=lkp (Zi (Zi (Qc (Qq e.frz (Zi s.2 aj)) e.dels) e.sets) e.adds) k;have a1:∀ (B:Hp) (hp hp' : Hp),(∀ k,lkp hp k=lkp hp' k)→∀ k,lkp (Zi hp B) k=lkp (Zi hp' B) k:=fun B hp hp' h=>Zdp B h;have ad:∀ k,U k→∀ o',(k,o')∉aj:=fun k hk o' af=>by
     have:=ao k o' af;exact av k this.1 this.2 hk
    rw[Zwo (A:=e.adds) (B:=aj) (fun k x y hx hy=>by
     have:=aa k x hx;have:=ao k y hy;rcases L4 a3 with h | h<;>omega)]
    refine a1 e.adds _ _ (fun k=>?_) k;rw[Zwo (A:=e.sets) (B:=aj) (fun k x y hx hy=>ad k (ah k (.inr ⟨x,hx⟩)) y hy) (Qc (Qq e.frz s.2) e.dels) k];refine a1 e.sets _ _ (fun k=>?_) k;by_cases hd:k∈e.dels
    ·rw[ZD aj _ k (ad k (ah k (.inl hd))),Zs9 hd,Zs9 hd]
    ·rw[UP _ _ k hd];rw[Qi];by_cases hk:∃ o',(k,o')∈aj
     ·obtain⟨o',af⟩:=hk;rw[Zei (hp':=s.2) ⟨o',af⟩];have a':k∉e.frz:=fun hf=>ad k (ap k hf) o' af;cases lkp (Zi s.2 aj) k<;>simp[a']
     ·have a2 : ∀ o',(k,o')∉aj:=fun o' af=>hk ⟨o',af⟩;rw[ZD aj _ k a2,ZD aj _ k a2,UP _ _ k hd,Qi]
theorem ZEb {C:Orc} {M:Zs} {os:List CO} {nx i j:Nat} {oi oj:CO} (ab:os[i]?=some oi) (ad:os[j]?=some oj) (ae:ZB6 oi.op=true) (af:ZX os j=false) (ag:i≠j) (ah:XT oj oi=true)
  (aa:∀ (k:Nat) (o:CO),os[k]?=some o→∀ x∈ZF o.op,Vd x=true) {s s1 s2:Sl×Hp} {U:Nat→Prop} (hs:ZkT nt s U) (ai:Xy U (nx+64*i)) (aj:Xy U (nx+64*j))
  (h1:ZI C M os nx j s=some s1) (h2:ZI C M os nx i s1=some s2):∃ t1,ZI C M os nx i s=some t1∧∃ t2,ZI C M os nx j t1=some t2∧X8 t2 s2:=by
 have e:∀ s:Sl×Hp,ZI C M os nx i s=ZP C M nx i false oi s:=fun s=>by
  simp only[ZI,ab,Zh];cases ZX os i
  ·rfl
  ·exact ZD8 ae s
 rw[e] at h2;simp only[e];exact Zs5 ab ad af ag ah aa hs ai aj h1 h2
theorem Zyd {hp:Hp} {base s:Nat} {vs:List AV} {ce:Zf} (h:buildSl hp base s vs=some ce):ce.gone=[]:=by
 cases vs with
 | nil=>simp only[buildSl,QV] at h;first | (cases h;rfl) | (split at h<;>first | (cases h;rfl) | cases h)
 | cons v r=>
  simp only[buildSl] at h;obtain⟨q,_,h⟩:=Za h;unfold ZEy at h;split at h
  ·cases h;rfl
  ·cases h
theorem ZAb {C:Orc} {M:Zs} {sl:Sl} {hp:Hp} {base:Nat} {c:COp} {ce:Zf} (hc:ZhS c=true) (h:vop C M sl hp base c=some ce):ce.gone=[]:=by
 cases c<;>first | (cases hc;done) | skip
 ·simp only[vop] at h;exact Zyd h
 ·simp only[vop] at h;exact(ZAa h).1
theorem ZEc {C:Orc} {M:Zs} {nx j:Nat} {oj:CO} {s s1:Sl×Hp} (hm:Vs oj.op=true) (h:ZP C M nx j false oj s=some s1) :
  ∃ v,s1=(Zt s.1 oj.dst v,s.2)∧∀ aa : Sl×Hp,Z3 aa.1 oj.guard=Z3 s.1 oj.guard→(∀ x∈ZF oj.op,evO aa.1 x=evO s.1 x)→ZP C M nx j false oj aa=some (Zt aa.1 oj.dst v,aa.2):=by
 obtain⟨x,hx⟩:∃ x,oj.op=.move x:=by
  cases ho:oj.op<;>rw[ho] at hm<;>first | (cases hm;done) | exact⟨_,rfl⟩
 unfold ZP at h ⊢;obtain⟨b,hw,h⟩:=Za h;cases b with
 | true=>
  simp only[Km,hx,WB,Ka,Kn,vop] at h;refine⟨evO s.1 x,?_,fun aa g1 g2=>?_⟩
  ·cases h;rfl
  ·rw[g1,hw,Zh];have e:=g2 x (by rw[hx];simp[ZF]);simp only[Km,hx,WB,Ka,Kn,vop,e];rfl
 | false=>
  simp only[Ka,Kn] at h;cases h;refine⟨.tup [],rfl,fun aa g1 g2=>?_⟩;rw[g1,hw,Zh];rfl
theorem ZEd {C:Orc} {M:Zs} {os:List CO} {nx i j:Nat} {oi oj:CO} (ad:os[i]?=some oi) (ae:os[j]?=some oj) (af:ZX os j=false) (ah:XT oj oi=true)
  {s s1 s2:Sl×Hp} (hm:Vs oj.op=true) (hg:ZhS oi.op=true)
  (h1:ZI C M os nx j s=some s1) (h2:ZI C M os nx i s1=some s2):∃ t1,ZI C M os nx i s=some t1∧∃ t2,ZI C M os nx j t1=some t2∧X8 t2 s2:=by
 simp only[XT,Kf] at ah;obtain⟨⟨ai,aj⟩,ab⟩:=ah;simp only[ZI,ae,Zh,af] at h1;simp only[ZI,ad,Zh] at h2;obtain⟨vj,rfl,ak⟩:=ZEc hm h1;unfold ZP at h2;obtain⟨b,hw,h2⟩:=Za h2;have al : Z3 s.1 oi.guard=some b:=by rw[← hw];exact(QH ai).symm
 cases b with
 | false=>
  simp only[Ka,Kn] at h2;cases h2;refine⟨(Zt s.1 oi.dst (.tup []),s.2),by simp only[ZI,ad,Zh,ZP,al,Ka,Kn],?_⟩;exact⟨(Zt (Zt s.1 oi.dst (.tup [])) oj.dst vj,s.2),by simp only[ZI,ae,Zh,af];exact ak (Zt s.1 oi.dst (.tup []),s.2) (QH ab) (WZ (o:=oj) ab),fun t=>(UN aj vj (.tup []) t).symm,fun id=>rfl⟩
 | true=>
  simp only[Km] at h2;obtain⟨ce,h3,h4,rfl⟩:=XK h2;have aa:=ZAb hg (Zgy h3);have am : WB C M nx i (ZX os i) oi.op s.1 s.2=some ce:=by
   rw[← h3];unfold WB;rw[XB C M s.2 (nx+64*i) (WZ (o:=oi) ai)]
  have ag:∀ (sl:Sl) (hp:Hp),ce.on oi.dst sl hp=(Zt sl oi.dst ce.eff.val,ce.eff.on hp):=by
   intro sl hp;unfold Zf.on;rw[aa];rfl
  refine⟨ce.on oi.dst s.1 s.2,?_,?_⟩
  ·simp only[ZI,ad,Zh,ZP,al,Km,YZ];rw[am,Zh,Kg h4]
  ·rw[ag];refine⟨(Zt (Zt s.1 oi.dst ce.eff.val) oj.dst vj,ce.eff.on s.2),by simp only[ZI,ae,Zh,af];exact ak (Zt s.1 oi.dst ce.eff.val,ce.eff.on s.2) (QH ab) (WZ (o:=oj) ab),fun t=>?_,fun k=>?_⟩
   ·rw[ag];exact(UN aj vj ce.eff.val t).symm
   ·rw[ag]
theorem awayV_ptr {sl:Sl} {xs:List Opd} {v:AV} (h:Zez sl xs v=true) {k off:Nat} (e:v=.ptr k off):∀ z∈xs,k∉Zz (evO sl z):=by
 subst e;exact fun z hz=>Zs7 (Zi7 h z hz)
structure Zta (r:Sl) (oX oY:CO):Prop where
 opd:∀ x∈ZF oX.op,okV (evO r x)=true
 dst:∀ t,oX.dst=some t→okV (gs r t)=true
 arg:∀ y∈Zox oY.op,okV (evO r y)=true
 away:∀ y∈Zox oY.op,∀ k off,evO r y=.ptr k off→∀ z∈ZF oX.op,k∉Zz (evO r z)
theorem Zye {sl:Sl}:∀ {xs:List Opd},okL sl xs=true→∀ x∈xs,okV (evO sl x)=true
 | [],_,x,hx=>by simp at hx
 | y :: ys,h,x,hx=>by
  simp only[okL,Kf] at h;rcases Ke.1 hx with rfl | hx
  ·exact h.1
  ·exact Zye h.2 x hx
theorem Zwp {sl:Sl} {xs:List Opd}:∀ {ys:List Opd},Zjq sl xs ys=true→∀ y∈ys,Zez sl xs (evO sl y)=true
 | [],_,x,hx=>by simp at hx
 | y :: ys,h,x,hx=>by
  simp only[Zjq,Kf] at h;rcases Ke.1 hx with rfl | hx
  ·exact h.1
  ·exact Zwp h.2 x hx
theorem ZAc {r:Sl} {oX oY:CO} (hm:Vs oX.op=false) (hc:ZbQ oY.op=true) (h:Jh r oX.dst oX.op oY.op=true):Zta r oX oY:=by
 obtain⟨f,as1,ho⟩:∃ f as1,oY.op=.call (.f f) as1:=by
  cases ho:oY.op<;>rw[ho] at hc<;>first | (cases hc;done) | skip
  rename_i f as1;cases f<;>first | (cases hc;done) | exact⟨_,_,rfl⟩
 rw[ho] at h;have h' : (okL r (ZF oX.op)&&(okD r oX.dst&&(okL r as1&&Zjq r (ZF oX.op) as1)))=true:=by
  cases hx:oX.op<;>rw[hx] at h hm<;>first | (cases hm;done) | exact h
 simp only[Kf] at h';obtain⟨h1,h2,h3,h4⟩:=h';refine⟨Zye h1,fun t ht=>?_,?_,?_⟩
 ·rw[ht] at h2;exact h2
 ·rw[ho];exact Zye h3
 ·rw[ho];intro y hy k off e;exact awayV_ptr (Zwp h4 y hy) e
theorem Zta.move {r r' : Sl} {oX oY:CO} (h:Zta r oX oY) (h1:∀ n∈(ZF oX.op).flatMap Uz,okV (gs r n)=true→gs r' n=gs r n) (h2:∀ n,oX.dst=some n→okV (gs r n)=true→gs r' n=gs r n)
  (h3:∀ n∈(Zox oY.op).flatMap Uz,okV (gs r n)=true→gs r' n=gs r n):Zta r' oX oY:=by
 have e1:∀ x∈ZF oX.op,evO r' x=evO r x:=fun x hx=>by
  have ho:=h.opd x hx;cases x with
  | t n=>exact h1 n (KA.2 ⟨_,hx,by simp[Uz]⟩) ho
  | _=>rfl
 have e3:∀ x∈Zox oY.op,evO r' x=evO r x:=fun x hx=>by
  have ho:=h.arg x hx;cases x with
  | t n=>exact h3 n (KA.2 ⟨_,hx,by simp[Uz]⟩) ho
  | _=>rfl
 refine⟨fun x hx=>by rw[e1 x hx];exact h.opd x hx,fun t ht=>by rw[h2 t ht (h.dst t ht)];exact h.dst t ht,fun x hx=>by rw[e3 x hx];exact h.arg x hx,fun y hy k off e z hz=>?_⟩;rw[e3 y hy] at e;rw[e1 z hz];exact h.away y hy k off e z hz
theorem Ztb {C:Orc} {M:Zs} (hM:∀ f,M f 99=false) {os:List CO} {nx x y:Nat} {oX oY:CO} (ay:os[x]?=some oX) (a1:os[y]?=some oY) (a2:x≠y) (ak:QY oY.dst (looks oX)=true) (aw:QY oX.dst (looks oY)=true)
  (ad:QY oX.dst (looks oX)=true) (al:QY oY.dst (looks oY)=true)
  (ar:∀ (k:Nat) (o:CO),os[k]?=some o→∀ x∈ZF o.op,Vd x=true) {s:Sl×Hp} {r:Sl} {U:Nat→Prop} (hs:ZkT nt s U) (a3:Xy U (nx+64*x)) (a4:Xy U (nx+64*y))
  (ae:ZbQ oY.op=true) {ce:Zf} (a5:vop C M s.1 s.2 (nx+64*y) oY.op=some ce) (a6:Xf (nx+64*y) (nx+64*y+64) ce.eff.adds=true)
  (am:∀ n,oX.dst≠some n→oY.dst≠some n→gs r n=kill ce.gone (gs s.1 n)) (aa:Zta r oX oY) :
  ce.eff.dels=[]∧(∀ z∈ZF oX.op,evO (ce.on oY.dst s.1 s.2).1 z=evO s.1 z)∧(∀ z∈ZF oX.op,∀ id∈Zz (evO s.1 z),id∉ce.gone)∧(∀ z∈ZF oX.op,ZmN ce.gone s.2 (ce.on oY.dst s.1 s.2).2 (evO s.1 z)) ∧
  (∀ k,nx+64*x≤k→k<nx+64*x+64→(∀ o',(k,o')∉ce.eff.sets)∧(∀ o',(k,o')∉ce.eff.adds)∧k∉ce.eff.frz∧k∉ce.gone):=by
 obtain⟨F,A,I,Γ,a,w,au⟩:=hs;have good:∀ (k:Nat) (o:CO),os[k]?=some o→∀ x∈ZF o.op,ZmH U (evO s.1 x):=by
  intro k o ho x hx;cases x with
  | t n=>exact au.good n
  | v y=>exact Zaf (ar k o ho _ hx)
  | f n=>exact⟨fun id av=>by simp[evO,Zz,ZC] at av,fun f a7 h c hc=>by cases h;simp at hc⟩
 obtain⟨f,as1,ho⟩:∃ f as1,oY.op=.call (.f f) as1:=by
  cases ho:oY.op<;>rw[ho] at ae<;>first | (cases ae;done) | skip
  rename_i f as1;cases f<;>first | (cases ae;done) | exact⟨_,_,rfl⟩
 have an:=a5;rw[ho] at an;simp only[vop,evO,Zf4,KF] at an;obtain⟨k1,k2,k3,k4⟩:=ZEn an (hM _);have ab:∀ n,(Opd.t n)∈ZF oX.op→n∈looks oX:=fun n hn=>Ki.2 (.inl (KA.2 ⟨_,hn,by simp[Uz]⟩));have ai:∀ n,(Opd.t n)∈as1→n∈looks oY:=fun n hn=>Ki.2 (.inl (KA.2 ⟨.t n,by rw[ho];simp[ZF,hn],by simp[Uz]⟩));have ne:∀ {d:Option Nat} {l:List Nat} {n:Nat},QY d l=true→n∈l→d≠some n:=fun {d l n} h hn e=>by
  rw[e] at h;simp only[QY,K9,K6,Ln] at h;exact h hn
 have ax:∀ z∈ZF oX.op,evO r z=evO s.1 z∧∀ id∈Zz (evO s.1 z),id∉ce.gone:=by
  intro z hz;have af:=aa.opd z hz;cases z with
  | t n=>
   have e:=am n (ne ad (ab n hz)) (ne ak (ab n hz));simp only[evO] at af ⊢;rw[e] at af ⊢;have:=Zeh af;exact⟨this,ZFQ this⟩
  | v c=>
   have:=ar x oX ay _ hz;simp only[Vd,Kf,List.isEmpty_iff] at this;exact⟨rfl,fun id av=>by simp only[evO] at av;rw[this.1] at av;simp at av⟩
  | f n=>simp only[evO,okV,okC] at af;cases af
 have az:∀ z∈as1,evO r z=evO s.1 z:=by
  intro z hz;have af:=aa.arg z (by rw[ho];exact hz);cases z with
  | t n=>
   have e:=am n (ne aw (ai n hz)) (ne al (ai n hz));simp only[evO] at af ⊢;rw[e] at af ⊢;exact Zeh af
  | _=>rfl
 have a0:∀ id,(∃ o,lkp s.2 id=some o)→U id:=fun id ⟨o,h⟩=>au.id_in h;have uX:∀ k,nx+64*x≤k→k<nx+64*x+64→¬U k:=fun k h1 h2=>a3 k h1 h2;have aj:=Js a6;have ag:∀ z∈ZF oX.op,∀ k∈Zz (evO s.1 z),∀ o',(k,o')∉ce.eff.sets:=by
  intro z hz k hk o' ao;rcases (k4 k o' ao).2 with h | ⟨v,hv,ap⟩
  ·exact(ax z hz).2 k hk h
  ·obtain⟨y',aq,rfl⟩:=Zj3 hv;have ah:=aa.arg y' (by rw[ho];exact aq);rw[az y' aq] at ah;cases hp:evO s.1 y' with
   | ptr a b=>
    rw[hp] at ap;simp only[ZaE,KE] at ap;subst ap;have:=aa.away y' (by rw[ho];exact aq) k b (by rw[az y' aq,hp]) z hz;rw[(ax z hz).1] at this;exact this hk
   | clo g cs=>rw[hp] at ah;simp only[okV,okC] at ah;cases ah
   | _=>rw[hp] at ap;simp[ZaE] at ap
 refine⟨k1,fun z hz=>?_,fun z hz=>(ax z hz).2,fun z hz k hk=>?_,fun k g1 g2=>⟨fun o' ao=>?_,fun o' ao=>?_,fun hf=>?_,fun hg=>?_⟩⟩
 ·cases z with
  | t n=>
   show gs (Zt (XA ce.gone s.1) oY.dst ce.eff.val) n=gs s.1 n;rw[QE,Kd (ne ak (ab n hz)),Q1];have e:=am n (ne ad (ab n hz)) (ne ak (ab n hz));have:=aa.opd _ hz;simp only[evO] at this;rw[e] at this;exact Zeh this
  | _=>rfl
 ·have a8:U k:=(good x oX ay z hz).1 k hk;show Zcy ce.gone (lkp s.2 k) (lkp (ce.eff.on (Wx ce.gone s.2)) k);unfold Eff.on;rw[k1];simp only[Qc];rw[ZD,ZD,Qi,WX]
  ·exact ZAh _
  ·exact ag z hz k hk
  ·intro o' ao;obtain⟨h1,h2⟩:=aj k o' ao;exact a4 k h1 h2 a8
 ·exact uX k g1 g2 (a0 k (k4 k o' ao).1)
 ·have:=aj k o' ao;rcases L4 a2 with h | h<;>omega
 ·obtain⟨v,hv,ap⟩:=k2 k hf;obtain⟨y',aq,rfl⟩:=Zj3 hv;exact uX k g1 g2 ((good y oY a1 y' (by rw[ho];simp[ZF,aq])).1 k ap)
 ·exact uX k g1 g2 (a0 k (k3 k hg))
theorem ZBQ {C:Orc} {M:Zs} (hM:∀ f,M f 99=false) {os:List CO} {nx i j:Nat} {oi oj:CO} (ah:os[i]?=some oi) (av:os[j]?=some oj) (az:ZX os j=false) (a0:i≠j) (aw:XT oj oi=true)
  (ad:QY oj.dst (looks oj)=true) (ae:QY oi.dst (looks oi)=true)
  (ai:∀ (k:Nat) (o:CO),os[k]?=some o→∀ x∈ZF o.op,Vd x=true) {s s1 s2:Sl×Hp} {U:Nat→Prop} (hs:ZkT nt s U) (a1:Xy U (nx+64*i)) (ap:Xy U (nx+64*j))
  (aj:ZbQ oi.op=true) (a2:ZtH oj.op=true) (aa:Zta s2.1 oj oi) {t:Nat} (ht:oj.dst=some t)
  (h1:ZI C M os nx j s=some s1) (h2:ZI C M os nx i s1=some s2):∃ t1,ZI C M os nx i s=some t1∧∃ t2,ZI C M os nx j t1=some t2∧X8 t2 s2:=by
 have a3:=hs;obtain⟨F,A,I,Γ,a,w,af⟩:=a3;simp only[XT,Kf] at aw;obtain⟨⟨am,an⟩,ao⟩:=aw;have good:∀ (k:Nat) (o:CO),os[k]?=some o→∀ x∈ZF o.op,ZmH U (evO s.1 x):=by
  intro k o ho x hx;cases x with
  | t n=>exact af.good n
  | v y=>exact Zaf (ai k o ho _ hx)
  | f n=>exact⟨fun id a4=>by simp[evO,Zz,ZC] at a4,fun f a5 h c hc=>by cases h;simp at hc⟩
 have ab:∀ s:Sl×Hp,ZI C M os nx j s=ZP C M nx j false oj s:=fun s=>by simp only[ZI,av,Zh,az]
 rw[ab] at h1;simp only[ZI,ah,Zh] at h2;obtain⟨v,ax,a6,aq,hX⟩:∃ v ax,s1=(Zt s.1 oj.dst v,Zi s.2 ax)∧(∀ k x,(k,x)∈ax→nx+64*j≤k∧k<nx+64*j+64) ∧
   ((Z3 s.1 oj.guard=some false∧v=.tup []∧ax=[])∨(Z3 s.1 oj.guard=some true∧∃ ce,Zoo ce∧vop C M s.1 s.2 (nx+64*j) oj.op=some ce∧Xf (nx+64*j) (nx+64*j+64) ce.eff.adds=true∧v=ce.eff.val∧ax=ce.eff.adds)):=by
  rcases ZBZ h1 with ⟨g1,g2⟩ | ⟨g1,ce,g2,g3,g4,g5⟩
  ·exact⟨.tup [],[],g2,fun k x h=>by simp at h,.inl ⟨g1,rfl,rfl⟩⟩
  ·exact⟨ce.eff.val,ce.eff.adds,g5,Js g4,.inr ⟨g1,ce,g2,g3,g4,rfl,rfl⟩⟩
 subst a6;unfold ZP at h2;obtain⟨b,hw,h2⟩:=Za h2;have ay : Z3 s.1 oi.guard=some b:=by rw[← hw];exact(QH am).symm
 cases b with
 | false=>
  simp only[Ka,Kn] at h2;cases h2;refine⟨(Zt s.1 oi.dst (.tup []),s.2),by simp only[ZI,ah,Zh];exact YY ay,?_⟩;refine⟨(Zt (Zt s.1 oi.dst (.tup [])) oj.dst v,Zi s.2 ax),?_,fun t=>(UN an v (.tup []) t).symm,fun id=>rfl⟩;rw[ab];have ak:Z3 (Zt s.1 oi.dst (.tup [])) oj.guard=Z3 s.1 oj.guard:=QH ao;rcases hX with ⟨g1,rfl,rfl⟩ | ⟨g1,ce,g2,g3,g4,rfl,rfl⟩
  ·exact YY (s:=(Zt s.1 oi.dst (.tup []),s.2)) (ak.trans g1)
  ·refine Zj7 (s:=(Zt s.1 oi.dst (.tup []),s.2)) (ak.trans g1) g2 ?_ g4;rw[← g3];exact XB C M s.2 (nx+64*j) (WZ (o:=oj) ao)
 | true=>
  simp only[Km] at h2;obtain⟨ce,h3,h4,rfl⟩:=XK h2;have a7:vop C M s.1 s.2 (nx+64*i) oi.op=some ce:=by
   have h5:=Zgy h3;rw[← h5,XB C M (Zi s.2 ax) (nx+64*i) (WZ (o:=oi) am)];exact ZaS (af.agree (W0 ap aq s.2)) C M _ (good i oi ah)
  have a8 : WB C M nx i (ZX os i) oi.op s.1 s.2=some ce:=by
   rw[← h3];unfold WB;rw[XB C M (Zi s.2 ax) (nx+64*i) (WZ (o:=oi) am),ZaS (af.agree (W0 ap aq s.2)) C M _ (good i oi ah)]
  have ar:∀ n,oj.dst≠some n→oi.dst≠some n→gs (ce.on oi.dst (Zt s.1 oj.dst v) (Zi s.2 ax)).1 n=kill ce.gone (gs s.1 n):=fun n e1 e2=>by
   show gs (Zt (XA ce.gone (Zt s.1 oj.dst v)) oi.dst ce.eff.val) n=_;rw[QE,Kd e2,Q1,QE,Kd e1]
  obtain⟨c1,c2,c3,c4,c5⟩:=Ztb (nt:=nt) hM av ah (Ne.symm a0) ao am ad ae ai hs ap a1 aj a7 h4 ar aa;have e0:gs (ce.on oi.dst (Zt s.1 oj.dst v) (Zi s.2 ax)).1 t=kill ce.gone v:=by
   show gs (Zt (XA ce.gone (Zt s.1 oj.dst v)) oi.dst ce.eff.val) t=_;rw[QE,Kd,Q1,QE,Kg ht];intro e;rw[ht,e] at an;simp[Za0] at an
  have ag:kill ce.gone v=v:=by
   have h5:=aa.dst t ht;rw[e0] at h5;exact Zeh h5
  have au:okV v=true:=by
   have h5:=aa.dst t ht;rw[e0,ag] at h5;exact h5
  refine⟨ce.on oi.dst s.1 s.2,?_,?_⟩
  ·simp only[ZI,ah,Zh,ZP,ay,Km,YZ];rw[a8,Zh,Kg h4]
  ·have ak:Z3 (ce.on oi.dst s.1 s.2).1 oj.guard=Z3 s.1 oj.guard:=by
    show Z3 (Zt (XA ce.gone s.1) oi.dst ce.eff.val) oj.guard=_;rw[QH ao];exact Zj8 fun q _=>Q1 _ _ _
   have al:(∀ k o,(k,o)∈ax→XG ce.gone o=o)∧ZP C M nx j false oj (ce.on oi.dst s.1 s.2)=some (Zt (ce.on oi.dst s.1 s.2).1 oj.dst v,Zi (ce.on oi.dst s.1 s.2).2 ax):=by
    rcases hX with ⟨g1,rfl,rfl⟩ | ⟨g1,cx,g2,g3,g4,rfl,rfl⟩
    ·exact⟨fun k o h=>by simp at h,YY (ak.trans g1)⟩
    ·obtain⟨e1,e2⟩:=ZEl a2 c2 c4 (fun k h6 h7=>(c5 k h6 h7).2.2.2) g3 g4 g2.frz au ag;exact⟨e2,Zj7 (ak.trans g1) g2 e1 g4⟩
   obtain⟨e3,e4⟩:=al;refine⟨_,by rw[ab];exact e4,?_⟩;exact ZC8 (ce:=ce) (dX:=oj.dst) (dY:=oi.dst) (v:=v) (ax:=ax) (s:=s) an c1 (fun k o ho=>by
    obtain⟨h6,h7⟩:=aq k o ho;obtain⟨m1,m2,m3,_⟩:=c5 k h6 h7;exact⟨m1,m2,m3⟩) e3 ag
theorem ZAd {C:Orc} {M:Zs} (hM:∀ f,M f 99=false) {os:List CO} {nx i j:Nat} {oi oj:CO} (ar:os[i]?=some oi) (ag:os[j]?=some oj) (ay:ZX os i=false) (az:i≠j) (au:XT oj oi=true)
  (ad:QY oi.dst (looks oi)=true) (ae:QY oj.dst (looks oj)=true)
  (ah:∀ (k:Nat) (o:CO),os[k]?=some o→∀ x∈ZF o.op,Vd x=true) {s s1 s2:Sl×Hp} {U:Nat→Prop} (hs:ZkT nt s U) (av:Xy U (nx+64*i)) (a0:Xy U (nx+64*j))
  (ai:ZbQ oj.op=true) (a1:Zm4 oi.op=true) (ab:Zta s2.1 oi oj) {t:Nat} (ht:oi.dst=some t)
  (h1:ZI C M os nx j s=some s1) (h2:ZI C M os nx i s1=some s2):∃ t1,ZI C M os nx i s=some t1∧∃ t2,ZI C M os nx j t1=some t2∧X8 t2 s2:=by
 have a2:=hs;obtain⟨F,A,I,Γ,a,w,aj⟩:=a2;simp only[XT,Kf] at au;obtain⟨⟨an,ao⟩,ak⟩:=au;have af : Za0 oi.dst oj.dst=true:=by
  cases hd:oi.dst<;>cases he:oj.dst<;>rw[hd,he] at ao<;>first | rfl | (simp only[Za0,bne_iff_ne,ne_eq] at ao ⊢;exact fun e=>ao e.symm)
 have good:∀ (k:Nat) (o:CO),os[k]?=some o→∀ x∈ZF o.op,ZmH U (evO s.1 x):=by
  intro k o ho x hx;cases x with
  | t n=>exact aj.good n
  | v y=>exact Zaf (ah k o ho _ hx)
  | f n=>exact⟨fun id a3=>by simp[evO,Zz,ZC] at a3,fun f a4 h c hc=>by cases h;simp at hc⟩
 have aa:∀ s:Sl×Hp,ZI C M os nx i s=ZP C M nx i false oi s:=fun s=>by simp only[ZI,ar,Zh,ay]
 rw[aa] at h2;simp only[ZI,ag,Zh] at h1;unfold ZP at h1;obtain⟨b,hw,h1⟩:=Za h1;cases b with
 | false=>
  simp only[Ka,Kn] at h1;cases h1;have al:Z3 (Zt s.1 oj.dst (.tup [])) oi.guard=Z3 s.1 oi.guard:=QH an;rcases ZBZ h2 with ⟨g1,g2⟩ | ⟨g1,ce,g2,g3,g4,g5⟩
  ·subst g2;refine⟨(Zt s.1 oi.dst (.tup []),s.2),by rw[aa];exact YY (al.symm.trans g1),(Zt (Zt s.1 oi.dst (.tup [])) oj.dst (.tup []),s.2),?_,fun t=>UN af _ _ t,fun id=>rfl⟩;simp only[ZI,ag,Zh];exact YY (s:=(Zt s.1 oi.dst (.tup []),s.2)) ((QH ak).trans hw)
  ·subst g5;refine⟨(Zt s.1 oi.dst ce.eff.val,Zi s.2 ce.eff.adds),?_,(Zt (Zt s.1 oi.dst ce.eff.val) oj.dst (.tup []),Zi s.2 ce.eff.adds),?_,fun t=>UN af _ _ t,fun id=>rfl⟩
   ·rw[aa];refine Zj7 (al.symm.trans g1) g2 ?_ g4;rw[← g3];exact(XB C M s.2 (nx+64*i) (WZ (o:=oi) an)).symm
   ·simp only[ZI,ag,Zh];exact YY (s:=(Zt s.1 oi.dst ce.eff.val,Zi s.2 ce.eff.adds)) ((QH ak).trans hw)
 | true=>
  simp only[Km] at h1;obtain⟨ce,h3,h4,rfl⟩:=XK h1;have a5:vop C M s.1 s.2 (nx+64*j) oj.op=some ce:=Zgy h3;have al:Z3 (ce.on oj.dst s.1 s.2).1 oi.guard=Z3 s.1 oi.guard:=by
   show Z3 (Zt (XA ce.gone s.1) oj.dst ce.eff.val) oi.guard=_;rw[QH an];exact Zj8 fun q _=>Q1 _ _ _
  obtain⟨v,ax,a6,aw,hX⟩:∃ v ax,s2=(Zt (ce.on oj.dst s.1 s.2).1 oi.dst v,Zi (ce.on oj.dst s.1 s.2).2 ax)∧(∀ k x,(k,x)∈ax→nx+64*i≤k∧k<nx+64*i+64) ∧
    ((Z3 s.1 oi.guard=some false∧v=.tup []∧ax=[])∨(Z3 s.1 oi.guard=some true∧∃ cx,Zoo cx∧vop C M (ce.on oj.dst s.1 s.2).1 (ce.on oj.dst s.1 s.2).2 (nx+64*i) oi.op=some cx∧Xf (nx+64*i) (nx+64*i+64) cx.eff.adds=true∧v=cx.eff.val∧ax=cx.eff.adds)):=by
   rcases ZBZ h2 with ⟨g1,g2⟩ | ⟨g1,cx,g2,g3,g4,g5⟩
   ·exact⟨.tup [],[],g2,fun k x h=>by simp at h,.inl ⟨al.symm.trans g1,rfl,rfl⟩⟩
   ·exact⟨cx.eff.val,cx.eff.adds,g5,Js g4,.inr ⟨al.symm.trans g1,cx,g2,g3,g4,rfl,rfl⟩⟩
  subst a6;have ap:∀ n,oi.dst≠some n→oj.dst≠some n→gs (Zt (ce.on oj.dst s.1 s.2).1 oi.dst v) n=kill ce.gone (gs s.1 n):=fun n e1 e2=>by
   rw[QE,Kd e1];show gs (Zt (XA ce.gone s.1) oj.dst ce.eff.val) n=_;rw[QE,Kd e2,Q1]
  obtain⟨c1,c2,c3,c4,c5⟩:=Ztb (nt:=nt) hM ar ag az an ak ad ae ah hs av a0 ai a5 h4 ap ab;have aq:okV v=true:=by
   have h5:=ab.dst t ht;simp only[QE,Kg ht] at h5;exact h5
  have am:kill ce.gone v=v∧(∀ k o,(k,o)∈ax→XG ce.gone o=o)∧ZP C M nx i false oi s=some (Zt s.1 oi.dst v,Zi s.2 ax):=by
   rcases hX with ⟨g1,rfl,rfl⟩ | ⟨g1,cx,g2,g3,g4,rfl,rfl⟩
   ·exact⟨rfl,fun k o h=>by simp at h,YY g1⟩
   ·obtain⟨e1,e2,e3⟩:=ZBY a1 c2 c4 c3 (fun k h6 h7=>(c5 k h6 h7).2.2.2) g3 g4 g2.frz aq;exact⟨e2,e3,Zj7 g1 g2 e1 g4⟩
  obtain⟨hk,e3,e4⟩:=am;refine⟨(Zt s.1 oi.dst v,Zi s.2 ax),by rw[aa];exact e4,ce.on oj.dst (Zt s.1 oi.dst v) (Zi s.2 ax),?_,?_⟩
  ·simp only[ZI,ag,Zh,ZP];have a7:Z3 (Zt s.1 oi.dst v) oj.guard=some true:=(QH ak).trans hw;simp only[a7,Zh,Km,YZ];have:WB C M nx j (ZX os j) oj.op (Zt s.1 oi.dst v) (Zi s.2 ax)=some ce:=by
    rw[← h3];unfold WB;rw[XB C M (Zi s.2 ax) (nx+64*j) (WZ (o:=oj) ak),← ZaS (aj.agree (W0 av aw s.2)) C M _ (good j oj ag)]
   rw[this,Zh,Kg h4]
  ·exact(ZC8 (ce:=ce) (dX:=oi.dst) (dY:=oj.dst) (v:=v) (ax:=ax) (s:=s) af c1 (fun k o ho=>by
    obtain⟨h6,h7⟩:=aw k o ho;obtain⟨m1,m2,m3,_⟩:=c5 k h6 h7;exact⟨m1,m2,m3⟩) e3 hk).symm
theorem ZhB {C:Orc} {M:Zs} {nx j:Nat} {oj:CO} {x:Opd} (hx:oj.op=.move x) {s:Sl×Hp} {b:Bool} (hw:Z3 s.1 oj.guard=some b) :
  ZP C M nx j false oj s=some (Zt s.1 oj.dst (if b then evO s.1 x else .tup []),s.2):=by
 unfold ZP;rw[hw,Zh];cases b
 ·rfl
 ·simp only[Km,hx,WB,Ka,Kn,vop];rfl
theorem ZBR {C:Orc} {M:Zs} {os:List CO} {nx i j:Nat} {oi oj:CO} (af:os[i]?=some oi) (am:os[j]?=some oj) (an:ZX os j=false) (ai:XT oj oi=true)
  (ao:∀ (k:Nat) (o:CO),os[k]?=some o→∀ x∈ZF o.op,Vd x=true)
  {s s1 s2:Sl×Hp} (hm:Vs oj.op=true) {t:Nat} (ht:oj.dst=some t) (aj:okV (gs s2.1 t)=true)
  (h1:ZI C M os nx j s=some s1) (h2:ZI C M os nx i s1=some s2):∃ t1,ZI C M os nx i s=some t1∧∃ t2,ZI C M os nx j t1=some t2∧X8 t2 s2:=by
 obtain⟨x,hx⟩:∃ x,oj.op=.move x:=by
  cases ho:oj.op<;>rw[ho] at hm<;>first | (cases hm;done) | exact⟨_,rfl⟩
 simp only[XT,Kf] at ai;obtain⟨⟨ak,ad⟩,ab⟩:=ai;have aa:∀ s:Sl×Hp,ZI C M os nx j s=ZP C M nx j false oj s:=fun s=>by simp only[ZI,am,Zh,an]
 rw[aa] at h1;obtain⟨bj,ag⟩:∃ bj,Z3 s.1 oj.guard=some bj:=by
  unfold ZP at h1;obtain⟨b,hw,_⟩:=Za h1;exact⟨b,hw⟩
 rw[ZhB hx ag] at h1;have h1:=(Option.some.inj h1).symm;subst h1;simp only[ZI,af,Zh] at h2;unfold ZP at h2;obtain⟨b,hw,h2⟩:=Za h2;have al : Z3 s.1 oi.guard=some b:=by rw[← hw];exact(QH ak).symm
 have ap:oi.dst≠some t:=fun e=>by rw[ht,e] at ad;simp[Za0] at ad
 have ae:∀ n,x=.t n→oi.dst≠some n:=fun n e h=>by
  rw[h] at ab;simp only[QY,K9,K6,Ln] at ab;exact ab (Ki.2 (.inl (by rw[hx,e];simp[ZF,Uz])))
 cases b with
 | false=>
  simp only[Ka,Kn] at h2;cases h2;refine⟨(Zt s.1 oi.dst (.tup []),s.2),by simp only[ZI,af,Zh];exact YY al,?_⟩;refine⟨_,by rw[aa];exact ZhB (s:=(Zt s.1 oi.dst (.tup []),s.2)) hx ((QH ab).trans ag),?_⟩;have:evO (Zt s.1 oi.dst (.tup [])) x=evO s.1 x:=WZ (o:=oj) ab x (by rw[hx];simp[ZF]);simp only[this];exact⟨fun t=>(UN ad _ _ t).symm,fun id=>rfl⟩
 | true=>
  simp only[Km] at h2;obtain⟨ce,h3,h4,rfl⟩:=XK h2;have aq : WB C M nx i (ZX os i) oi.op s.1 s.2=some ce:=by
   rw[← h3];unfold WB;rw[XB C M s.2 (nx+64*i) (WZ (o:=oi) ak)]
  refine⟨ce.on oi.dst s.1 s.2,by simp only[ZI,af,Zh,ZP,al,Km,YZ];rw[aq,Zh,Kg h4],?_⟩;have ah:Z3 (ce.on oi.dst s.1 s.2).1 oj.guard=some bj:=by
   show Z3 (Zt (XA ce.gone s.1) oi.dst ce.eff.val) oj.guard=_;rw[QH ab,← ag];exact Zj8 fun q _=>Q1 _ _ _
  refine⟨_,by rw[aa];exact ZhB hx ah,?_⟩;have e0:gs (ce.on oi.dst (Zt s.1 oj.dst (if bj then evO s.1 x else .tup [])) s.2).1 t=kill ce.gone (if bj then evO s.1 x else .tup []):=by
   show gs (Zt (XA ce.gone (Zt s.1 oj.dst _)) oi.dst ce.eff.val) t=_;rw[QE,Kd ap,Q1,QE,Kg ht]
  rw[e0] at aj;have hk:=Zeh aj;have ev:(if bj then evO (ce.on oi.dst s.1 s.2).1 x else .tup [])=(if bj then evO s.1 x else .tup []):=by
   cases bj with
   | false=>rfl
   | true=>
    simp only[Km] at hk ⊢;cases x with
    | t n=>
     show gs (Zt (XA ce.gone s.1) oi.dst ce.eff.val) n=gs s.1 n;rw[QE,Kd (ae n rfl),Q1];exact hk
    | _=>rfl
  rw[ev];refine⟨fun q=>?_,fun id=>rfl⟩;show gs (Zt (Zt (XA ce.gone s.1) oi.dst ce.eff.val) oj.dst _) q=gs (Zt (XA ce.gone (Zt s.1 oj.dst _)) oi.dst ce.eff.val) q;simp only[QE,Q1];by_cases hq:oj.dst=some q
  ·have:¬oi.dst=some q:=fun e=>by rw[hq,e] at ad;simp[Za0] at ad
   simp only[hq,Km,this,Kn];exact hk.symm
  ·simp[hq]
theorem ZBS {C:Orc} {M:Zs} {os:List CO} {nx i j:Nat} {oi oj:CO} (am:os[i]?=some oi) (ag:os[j]?=some oj) (ar:ZX os i=false) (an:XT oj oi=true)
  (ah:∀ (k:Nat) (o:CO),os[k]?=some o→∀ x∈ZF o.op,Vd x=true)
  {s s1 s2:Sl×Hp} (hm:Vs oi.op=true) {t:Nat} (ht:oi.dst=some t) (ai:okV (gs s2.1 t)=true)
  (h1:ZI C M os nx j s=some s1) (h2:ZI C M os nx i s1=some s2):∃ t1,ZI C M os nx i s=some t1∧∃ t2,ZI C M os nx j t1=some t2∧X8 t2 s2:=by
 obtain⟨x,hx⟩:∃ x,oi.op=.move x:=by
  cases ho:oi.op<;>rw[ho] at hm<;>first | (cases hm;done) | exact⟨_,rfl⟩
 simp only[XT,Kf] at an;obtain⟨⟨ad,aj⟩,ak⟩:=an;have aa:∀ s:Sl×Hp,ZI C M os nx i s=ZP C M nx i false oi s:=fun s=>by simp only[ZI,am,Zh,ar]
 rw[aa] at h2;simp only[ZI,ag,Zh] at h1;unfold ZP at h1;obtain⟨b,hw,h1⟩:=Za h1;have af:∀ n,x=.t n→oj.dst≠some n:=fun n e h=>by
  rw[h] at ad;simp only[QY,K9,K6,Ln] at ad;exact ad (Ki.2 (.inl (by rw[hx,e];simp[ZF,Uz])))
 have ao:∀ (bi:Bool) (e:evO s1.1 x=evO s.1 x∨bi=false) (g1:Z3 s.1 oi.guard=some bi) (g2:Z3 s1.1 oi.guard=some bi),s2=(Zt s1.1 oi.dst (if bi then evO s.1 x else .tup []),s1.2):=by
  intro bi e g1 g2;rw[ZhB hx g2] at h2;rw[← Option.some.inj h2];rcases e with e | e
  ·rw[e]
  ·rw[e];rfl
 cases b with
 | false=>
  simp only[Ka,Kn] at h1;cases h1;have ae:Z3 (Zt s.1 oj.dst (.tup [])) oi.guard=Z3 s.1 oi.guard:=QH ad;obtain⟨bi,ab⟩:∃ bi,Z3 s.1 oi.guard=some bi:=by
   unfold ZP at h2;obtain⟨b,hw,_⟩:=Za h2;exact⟨b,ae.symm.trans hw⟩
  have e:evO (Zt s.1 oj.dst (.tup [])) x=evO s.1 x:=WZ (o:=oi) ad x (by rw[hx];simp[ZF]);have h5:=ao bi (.inl e) ab (ae.trans ab);subst h5;refine⟨_,by rw[aa];exact ZhB hx ab,(Zt (Zt s.1 oi.dst (if bi then evO s.1 x else .tup [])) oj.dst (.tup []),s.2),?_,fun t=>?_,fun id=>rfl⟩
  ·simp only[ZI,ag,Zh];exact YY (s:=(Zt s.1 oi.dst (if bi then evO s.1 x else .tup []),s.2)) ((QH ak).trans hw)
  ·exact(UN aj _ _ t).symm
 | true=>
  simp only[Km] at h1;obtain⟨ce,h3,h4,rfl⟩:=XK h1;have ae:Z3 (ce.on oj.dst s.1 s.2).1 oi.guard=Z3 s.1 oi.guard:=by
   show Z3 (Zt (XA ce.gone s.1) oj.dst ce.eff.val) oi.guard=_;rw[QH ad];exact Zj8 fun q _=>Q1 _ _ _
  obtain⟨bi,ab⟩:∃ bi,Z3 s.1 oi.guard=some bi:=by
   unfold ZP at h2;obtain⟨b,hw,_⟩:=Za h2;exact⟨b,ae.symm.trans hw⟩
  have ap:=h2;rw[ZhB hx (ae.trans ab)] at ap;have h6:=Option.some.inj ap;have hv:okV (if bi then evO (ce.on oj.dst s.1 s.2).1 x else .tup [])=true:=by
   rw[← h6] at ai;simp only[QE,Kg ht] at ai;exact ai
  have aq:kill ce.gone (if bi then evO s.1 x else .tup [])=(if bi then evO s.1 x else .tup [])∧(evO (ce.on oj.dst s.1 s.2).1 x=evO s.1 x∨bi=false):=by
   cases bi with
   | false=>exact⟨rfl,.inr rfl⟩
   | true=>
    simp only[Km] at hv ⊢;cases x with
    | t n=>
     have e:evO (ce.on oj.dst s.1 s.2).1 (.t n)=kill ce.gone (gs s.1 n):=by
      show gs (Zt (XA ce.gone s.1) oj.dst ce.eff.val) n=_;rw[QE,Kd (af n rfl),Q1]
     rw[e] at hv ⊢;have:=Zeh hv;exact⟨this,.inl this⟩
    | v c=>
     have hc:=ah i oi am (.v c) (by rw[hx];simp[ZF]);simp only[Vd,Kf,List.isEmpty_iff] at hc;exact⟨ZC6 hv fun id al=>by simp only[evO] at al;rw[hc.1] at al;simp at al,.inl rfl⟩
    | f n=>simp only[evO,okV,okC] at hv;cases hv
  have h5:=ao bi aq.2 ab (ae.trans ab);subst h5;refine⟨_,by rw[aa];exact ZhB hx ab,ce.on oj.dst (Zt s.1 oi.dst (if bi then evO s.1 x else .tup [])) s.2,?_,fun q=>?_,fun id=>rfl⟩
  ·simp only[ZI,ag,Zh,ZP];have au:Z3 (Zt s.1 oi.dst (if bi then evO s.1 x else .tup [])) oj.guard=some true:=(QH ak).trans hw;simp only[au,Zh,Km,YZ];have:WB C M nx j (ZX os j) oj.op (Zt s.1 oi.dst (if bi then evO s.1 x else .tup [])) s.2=some ce:=by
    rw[← h3];unfold WB;rw[XB C M s.2 (nx+64*j) (WZ (o:=oj) ak)]
   rw[this,Zh,Kg h4]
  ·show gs (Zt (XA ce.gone (Zt s.1 oi.dst _)) oj.dst ce.eff.val) q=gs (Zt (Zt (XA ce.gone s.1) oj.dst ce.eff.val) oi.dst _) q;simp only[QE,Q1];by_cases hq:oi.dst=some q
   ·have:¬oj.dst=some q:=fun e=>by rw[hq,e] at aj;simp[Za0] at aj
    simp only[hq,Km,this,Kn];exact aq.1
   ·simp[hq]
theorem ZC3 {C:Orc} {M:Zs} (hM:∀ f,M f 99=false) (hC:QG P C) {ops:Array Oper} {os:List CO} (a9:QJ (Zpu P nt ops.toList) ops.toList=some os) {nx i:Nat} {ks:List Nat} {oi:CO} (ab:os[i]?=some oi)
  (ad:∀ (k:Nat) (o:CO),os[k]?=some o→∀ x∈ZF o.op,Vd x=true) :
  ∀ (js:List Nat) {s r:Sl×Hp} {U:Nat→Prop},ZkT nt s U→Xy U (nx+64*i)→(∀ j∈js,Xy U (nx+64*j))→(js++i :: ks).Pairwise (· < ·) →
   (∀ j∈js,∃ oj,os[j]?=some oj∧XT oj oi=true∧((ZX os j=false∧(ZX os i=true→ZB6 oi.op=true∨(ZtF oi.op=true∧(W5 oj.op=true∨(Zas oj.op=true∧Zcs os j=true∧Zcs os i=true∧ZmK r.1 oj.op oi.op=true)))∨(Vs oj.op=true∧ZhS oi.op=true)∨(Vs oj.op=true∧ZqI os j=true∧okD r.1 oj.dst=true) ∨
    (Vs oj.op=false∧ZbQ oi.op=true∧ZtH oj.op=true∧Zcs os j=true∧Zcs os i=true∧ZqI os j=true∧Jh r.1 oj.dst oj.op oi.op=true))) ∨
    (ZX os j=true∧ZX os i=false∧Vs oi.op=true∧ZqI os i=true∧okD r.1 oi.dst=true) ∨
    (ZX os j=true∧ZX os i=false∧Vs oi.op=false∧ZbQ oj.op=true∧Zm4 oi.op=true∧Zcs os j=true∧Zcs os i=true∧ZqI os i=true∧Jh r.1 oi.dst oi.op oj.op=true))) →
   (∀ j∈js++i :: ks,j<os.length)→runL C M os nx (js++i :: ks) s=some r →
   ∃ s',ZI C M os nx i s=some s'∧∃ r',runL C M os nx (js++ks) s'=some r'∧X8 r' r
 | [],s,r,U,_,_,_,_,_,_,h=>by
  simp only[Ll,runL] at h ⊢;obtain⟨s',h1,h⟩:=Za h;exact⟨s',h1,r,h,X8.refl r⟩
 | j :: js,s,r,U,hs,hfi,hfj,hsort,hj,hlt,h=>by
  have a1:=h;simp only[KD,runL] at h;obtain⟨s1,h1,h⟩:=Za h;have a8:=hsort;simp only[KD,L0] at hsort;have bk:j<i:=hsort.1 i (by simp);have a0:i≠j:=by omega
  have a':=ZBM hC a9 hs (hfj j (by simp)) h1;have ba:∀ k∈js,k≠j:=fun k hk e=>by
   have:=hsort.1 k (by simp[hk]);omega
  obtain⟨s2,h2,r2,h3,h4⟩:=ZC3 hM hC a9 ab ad js a' (Zwn a0 hfi) (fun k hk=>Zwn (ba k hk) (hfj k (by simp[hk]))) hsort.2 (fun k hk=>hj k (by simp[hk])) (fun k hk=>hlt k (by simp only[KD,Ke];exact .inr hk)) h;obtain⟨oj,ae,au,a2⟩:=hj j (by simp);have aa:∀ {k q n:Nat} {o:CO},Zcs os k=true→os[k]?=some o→k≤q→q<os.length→n∈looks o→QY (Jp os q) [n]=true:=by
   intro k q n o am ho bl hq hn;have:=KU.1 am q (LA.2 hq);simp only[Zyt,ho,Lx,Ko] at this;rcases this with h | h
   ·omega
   ·cases hd:Jp os q with
    | none=>rfl
    | some d=>
     rw[hd] at h;simp only[QY,K9,K6,Ln] at h ⊢;intro e;simp at e;exact h (e ▸ hn)
  have af:∀ {k:Nat} {o:CO},Zcs os k=true→os[k]?=some o→QY o.dst (looks o)=true:=by
   intro k o am ho;have hk:k<os.length:=(Kb.1 ho).1;have:=KU.1 am k (LA.2 hk);simp only[Zyt,Jp,ho,Lx,Ko] at this;rcases this with h | h
   ·omega
   ·exact h
  have ag:∀ {k q t:Nat} {o:CO},ZqI os k=true→os[k]?=some o→o.dst=some t→q≠k→q<os.length→QY (Jp os q) [t]=true:=by
   intro k q t o hl ho ht bb hq;simp only[ZqI,Kf] at hl;have:=KU.1 hl.2 q (LA.2 hq);simp only[Lx,beq_iff_eq,Jp,ho,ht] at this;rcases this with h | h
   ·exact absurd h bb
   ·simp only[Jp];cases a3:os[q]? with
    | none=>rfl
    | some oq=>
     rw[a3] at h;simp only at h ⊢;cases hd:oq.dst with
     | none=>rfl
     | some d=>
      rw[hd] at h;simp only[Za0,bne_iff_ne,ne_eq] at h;simp only[QY,K9,K6,Ln,KE];exact h
  have ah:∀ {k:Nat} {o:CO},ZqI os k=true→os[k]?=some o→∃ t,o.dst=some t:=by
   intro k o hl ho;simp only[ZqI,Jp,ho,Kf] at hl;cases hd:o.dst with
   | none=>rw[hd] at hl;cases hl.1
   | some t=>exact⟨t,rfl⟩
  have av:∀ n,(∀ q∈js++ks,QY (Jp os q) [n]=true)→okV (gs r.1 n)=true→gs s2.1 n=gs r.1 n:=by
   intro n hn ho;rw[← h4.1 n] at ho ⊢;exact ZFN h3 hn ho
  have ak:∀ q∈js++ks,q≠i∧j<q∧q<os.length:=by
   intro q hq;refine⟨?_,?_,hlt q ?_⟩
   ·rcases Ki.1 hq with hq | hq
    ·have:=(LS.1 hsort.2).2.2 q hq i (by simp);omega
    ·have:=(L0.1 (LS.1 hsort.2).2.1).1 q hq;omega
   ·rcases Ki.1 hq with hq | hq
    ·exact hsort.1 q (by simp[hq])
    ·exact hsort.1 q (by simp[hq])
   ·rcases Ki.1 hq with hq | hq<;>simp[hq]
  have an:Zcs os j=true→∀ n∈looks oj,∀ q∈js++ks,QY (Jp os q) [n]=true:=fun am n hn q hq=>by
   obtain⟨_,h6,h7⟩:=ak q hq;exact aa am ae (by omega) h7 hn
  have ao:Zcs os i=true→∀ n∈looks oi,∀ q∈js++ks,QY (Jp os q) [n]=true:=fun am n hn q hq=>by
   obtain⟨_,h6,h7⟩:=ak q hq;rcases Ki.1 hq with hq | hq
   ·obtain⟨oq,a3,ap,_⟩:=hj q (by simp[hq]);simp only[XT,Kf] at ap;have h5:=ap.1.1;simp only[Jp,a3];cases hd:oq.dst with
    | none=>rfl
    | some d=>
     rw[hd] at h5;simp only[QY,K9,K6,Ln] at h5 ⊢;intro e;simp at e;exact h5 (e ▸ hn)
   ·have:=(L0.1 (LS.1 hsort.2).2.1).1 q hq;exact aa am ab (by omega) h7 hn
  have ai:∀ {o:CO} {n:Nat},n∈(ZF o.op).flatMap Uz→n∈looks o:=fun h=>Ki.2 (.inl h);have aj:∀ {o:CO} {n:Nat},n∈(Zox o.op).flatMap Uz→n∈looks o:=fun {o n} h=>by
   refine Ki.2 (.inl ?_);cases ho:o.op<;>rw[ho] at h<;>simp only[Zox,List.flatMap_nil,KL] at h
   simp only[ZF,KS,Ki];exact .inr h
  have a4:∃ t1,ZI C M os nx i s=some t1∧∃ t2,ZI C M os nx j t1=some t2∧X8 t2 s2:=by
   rcases a2 with ⟨aw,ay⟩ | ⟨aw,az,k1,k5,k6⟩ | ⟨aw,az,k0,k1,k2,k3,k4,k5,k6⟩
   case inr.inl=>
    obtain⟨t,ht⟩:=ah k5 ab;refine ZBS ab ae az au ad k1 ht ?_ h1 h2;rw[ht] at k6;simp only[okD] at k6;rw[av t (fun q hq=>?_) k6]
    ·exact k6
    ·obtain⟨h5,_,h7⟩:=ak q hq;exact ag k5 ab ht h5 h7
   case inr.inr=>
    obtain⟨t,ht⟩:=ah k5 ab;refine ZAd hM ab ae az a0 au (af k4 ab) (af k3 ae) ad hs hfi (hfj j (by simp)) k1 k2 ?_ ht h1 h2;refine(ZAc k0 k1 k6).move (fun n hn=>av n (ao k4 n (ai hn))) (fun n hn=>av n fun q hq=>?_) (fun n hn=>av n (an k3 n (aj hn)));obtain⟨h5,_,h7⟩:=ak q hq;exact ag k5 ab hn h5 h7
   cases az:ZX os i with
   | false=>exact ZD7 ab ae az aw a0 au ad hs hfi (hfj j (by simp)) h1 h2
   | true=>
    rcases ay az with hc | ⟨am,hl⟩ | ⟨bc,bd⟩ | ⟨k1,k5,k6⟩ | ⟨k0,k1,k2,k3,k4,k5,k6⟩
    case inr.inr.inr.inl=>
     obtain⟨t,ht⟩:=ah k5 ae;refine ZBR ab ae aw au ad k1 ht ?_ h1 h2;rw[ht] at k6;simp only[okD] at k6;rw[av t (fun q hq=>?_) k6]
     ·exact k6
     ·obtain⟨_,h6,h7⟩:=ak q hq;exact ag k5 ae ht (by omega) h7
    case inr.inr.inr.inr=>
     obtain⟨t,ht⟩:=ah k5 ae;refine ZBQ hM ab ae aw a0 au (af k3 ae) (af k4 ab) ad hs hfi (hfj j (by simp)) k1 k2 ?_ ht h1 h2;refine(ZAc k0 k1 k6).move (fun n hn=>av n (an k3 n (ai hn))) (fun n hn=>av n fun q hq=>?_) (fun n hn=>av n (ao k4 n (aj hn)));obtain⟨_,h6,h7⟩:=ak q hq;exact ag k5 ae hn (by omega) h7
    ·exact ZEb ab ae hc aw a0 au ad hs hfi (hfj j (by simp)) h1 h2
    ·refine ZBP ab ae az aw a0 au ad hs hfi (hfj j (by simp)) ⟨am,?_⟩ h1 h2;rcases hl with hl | ⟨be,bf,bg,al⟩
     ·exact .inl hl
     ·refine .inr ⟨be,?_⟩;have a5:∀ x∈ZF oi.op,okW (evO r.1 x)=true→evO s.1 x=evO r.1 x:=by
       intro x hx ax;cases x with
       | v a=>rfl
       | f n=>rfl
       | t n=>
        simp only[evO] at ax ⊢;have hn:n∈looks oi:=by
         rw[looks];exact Ki.2 (.inl (KA.2 ⟨.t n,hx,KE.2 rfl⟩))
        refine Zyb a1 (fun q hq=>?_) ax;rcases Ki.1 hq with hq | hq
        ·obtain⟨oq,a3,ap,_⟩:=hj q hq;simp only[XT,Kf] at ap;have h5:=ap.1.1;simp only[Jp,a3];cases hd:oq.dst with
         | none=>rfl
         | some d=>
          rw[hd] at h5;simp only[QY,K9,K6,Ln] at h5 ⊢;intro e;simp at e;exact h5 (e ▸ hn)
        ·refine aa bg ab ?_ (hlt q (Ki.2 (.inr hq))) hn;rcases Ke.1 hq with rfl | hq
         ·omega
         ·have:=LS.1 hsort.2;have:=(L0.1 this.2.1).1 q hq;omega
      have a7:∀ id,Xc r.1 id (ZF oj.op)=true→Xc s.1 id (ZF oj.op)=true:=by
       intro id bh;have bi:∀ xs:List Opd,(∀ z∈xs,z∈ZF oj.op)→Xc r.1 id xs=true→Xc s.1 id xs=true:=by
        intro xs
        induction xs with
        | nil=>intro _ _;rfl
        | cons z zs ihz=>
         intro a6 hz;simp only[Xc,Kf] at hz ⊢;refine⟨?_,ihz (fun z' bj=>a6 z' (by simp[bj])) hz.2⟩;cases z with
         | v a=>exact hz.1
         | f n=>exact hz.1
         | t n=>
          simp only[evO] at hz ⊢;have hn:n∈looks oj:=by
           rw[looks];exact Ki.2 (.inl (KA.2 ⟨.t n,a6 (.t n) (Lm ..),KE.2 rfl⟩))
          rw[ZFN a1 (fun q hq=>?_) (ZG2 hz.1)]
          ·exact hz.1
          ·refine aa bf ae ?_ (hlt q hq) hn;rcases Ki.1 hq with hq | hq
           ·rcases Ke.1 hq with rfl | hq
            ·omega
            ·have:=hsort.1 q (by simp[hq]);omega
           ·have:=hsort.1 q (by simp only[Ki];exact .inr hq);omega
       exact bi _ (fun _ h=>h) bh
      cases ho:oi.op<;>rw[ho] at am al<;>first | (cases am;done) | skip
      case store slc sz x y=>
       simp only[ZmK,Kf] at al ⊢;obtain⟨al,ar⟩:=al;have ax:okV (evO r.1 x)=true:=by
        cases ht:V1 (evO r.1 x) with
        | none=>rw[ht] at al;simp[ZhU] at al
        | some id=>cases hv:evO r.1 x<;>rw[hv] at ht<;>simp only[V1] at ht<;>first | (cases ht;done) | rfl
       rw[a5 x (by rw[ho];simp[ZF]) (ZqS ax)];constructor
       ·cases ht:V1 (evO r.1 x) with
        | none=>rw[ht] at al;simp[ZhU] at al
        | some id=>rw[ht] at al;exact a7 id al
       ·by_cases hp:∃ b1 b2 b3 b4,evO r.1 x=.prow b1 b2 b3 b4
        ·obtain⟨b1,b2,b3,b4,hp⟩:=hp;rw[hp] at ar ⊢;rcases Zpc ar with ⟨d,hv⟩ | hv
         ·rw[a5 y (by rw[ho];simp[ZF]) (by rw[hv];rfl),hv];rfl
         ·rw[a5 y (by rw[ho];simp[ZF]) (ZqS hv.1)];exact ZEa ⟨hv.1,Zs6 a7 hv.2⟩
        ·exact Zyc fun b1 b2 b3 b4 e=>hp ⟨b1,b2,b3,b4,e⟩
      case append sz by_ str flat x y=>
       simp only[ZmK,Kf,Lx] at al ⊢;obtain⟨ar,aq⟩:=al;constructor
       ·have ax:okW (evO r.1 x)=true:=by
         cases hv:evO r.1 x<;>rw[hv] at ar<;>first | rfl | (cases ar;done) | skip
         case tup vs=>cases vs<;>first | rfl | cases ar
        rw[a5 x (by rw[ho];simp[ZF]) ax];cases hv:evO r.1 x<;>rw[hv] at ar<;>first | (cases ar;done) | exact a7 _ ar | skip
        ·rfl
        case tup vs=>cases vs<;>first | rfl | cases ar
       ·rcases aq with aq | aq
        ·exact .inl aq
        ·right
         have ax:okW (evO r.1 y)=true:=by
          unfold seenSrc at aq;split at aq
          ·rename_i k hk;rw[hk];rfl
          ·exact ZqS aq
         rw[a5 y (by rw[ho];simp[ZF]) ax];unfold seenSrc at aq ⊢;split at aq
         ·exact a7 _ aq
         ·exact aq
    ·exact ZEd ab ae aw au bc bd h1 h2
  obtain⟨t1,g1,t2,g2,g3⟩:=a4;obtain⟨r3,g4,g5⟩:=Zs4 g3.symm h3;refine⟨t1,g1,r3,?_,g5.symm.trans h4⟩;simp only[KD,runL,g2,Zh];exact g4
def rem (n:Nat) (listed:Array Bool):List Nat:=(List.range n).filter fun i=>!listed.getD i true
theorem Zj4 {n:Nat} {aa:Array Bool} {i:Nat}:i∈rem n aa↔i<n∧aa.getD i true=false:=by
 simp[rem]
theorem Ztc (n:Nat) (aa:Array Bool):(rem n aa).Pairwise (· < ·):=List.Pairwise.filter _ List.pairwise_lt_range
theorem ZG5 {n:Nat} {aa:Array Bool} (ad:aa.size=n) (i:Nat):rem n (aa.setIfInBounds i true)=(rem n aa).filter fun j=>j != i:=by
 simp only[rem,List.filter_filter];refine List.filter_congr fun j hj=>?_;have ae:j<n:=LA.1 hj;by_cases ab:i=j
 ·subst ab;simp[ad,ae]
 ·simp[Array.getElem?_setIfInBounds_ne ab,Ne.symm ab]
def Zwq (nx:Nat) (listed:Array Bool) (id:Nat):Prop:=id<nx∨∃ k,listed.getD k false=true∧nx+64*k≤id∧id<nx+64*k+64
theorem U7 {l:Array Bool} {k:Nat} (h:l.getD k false=true):k<l.size∧l.getD k true=true:=by
 rcases K3 k l.size with h1 | h1
 ·refine⟨h1,?_⟩;simp[h1] at h ⊢;exact h
 ·simp[Array.getElem?_eq_none h1] at h
theorem Ztd {nx i:Nat} {aa:Array Bool} (h:aa.getD i true=false):Xy (Zwq nx aa) (nx+64*i):=by
 intro id h1 h2 hu;rcases hu with hu | ⟨k,hk,h3,h4⟩
 ·omega
 ·have ab:k≠i:=fun e=>by subst e;rw[(U7 hk).2] at h;cases h
  rcases L4 ab with h5 | h5<;>omega
theorem Zte {nx i:Nat} {aa:Array Bool} (hi:i<aa.size):∀ id,Zai (Zwq nx aa) (nx+64*i) id→Zwq nx (aa.setIfInBounds i true) id:=by
 rintro id ((h | ⟨k,hk,h1⟩) | h)
 ·exact .inl h
 ·exact .inr ⟨k,getD_set_true hk,h1⟩
 ·exact .inr ⟨i,by simp[hi],h.1,h.2⟩
end
end Go.Abs
