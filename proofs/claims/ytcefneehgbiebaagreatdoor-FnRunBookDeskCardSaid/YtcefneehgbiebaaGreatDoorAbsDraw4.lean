/- Own text. -/
import Derived.Test.YtcefneehgbiebaaGreatDoorAbsDrawD
set_option linter.unusedVariables false
set_option linter.unusedSimpArgs false
namespace Go.Abs
open Go
section
variable {P:Program} {nt:Nat}
theorem ZoE {α β:Type} {f:α→Option β}:∀ {l:List α} {r:List β},QG f l=some r→∀ (i:Nat) (x:α),l[i]?=some x→∃ y,r[i]?=some y∧f x=some y
 | [],r,h,i,x,hx=>by simp at hx
 | a :: l,r,h,i,x,hx=>by
  simp only[QG] at h;obtain⟨y,h1,h⟩:=Za h;obtain⟨ys,h2,h⟩:=Za h;cases h;cases i with
  | zero=>simp at hx;subst hx;exact⟨y,by simp,h1⟩
  | succ i=>simp at hx;obtain⟨z,h3,h4⟩:=ZoE h2 i x hx;exact⟨z,by simpa using h3,h4⟩
theorem ZdV {α β:Type} {f:α→Option β}:∀ {l:List α} {r:List β},QG f l=some r→r.length=l.length
 | [],r,h=>by simp only[QG] at h;cases h;rfl
 | a :: l,r,h=>by
  simp only[QG] at h;obtain⟨y,h1,h⟩:=Za h;obtain⟨ys,h2,h⟩:=Za h;cases h;simp[ZdV h2]
theorem Zxc {C:Orc} {M:Zp} (hC:QL P C) {ops:Array Oper} {os:List CO} (ad:QG (ZmK P nt ops.toList) ops.toList=some os) {nx i:Nat} {s s' : Sl×Hp} {U:Nat→Prop} (hs:ZiH nt s U) (hf:Xp U (nx+64*i))
  (h:ZJ C M os nx i s=some s'):ZiH nt s' (Zad U (nx+64*i)):=by
 obtain⟨F,A,I,Γ,a,w,aa⟩:=hs;unfold ZJ at h;obtain⟨co,ae,h⟩:=Za h;have ag:i<ops.toList.length:=by rw[← ZdV ad];exact(Kb.1 ae).1
 obtain⟨am,h1,h2⟩:=ZoE ad i ops.toList[i] (Kn ag);rw[ae] at h1;cases h1;obtain⟨hg,ah,ab,af⟩:=Zjr h2;unfold ZO at h;obtain⟨b,hw,h⟩:=Za h;cases b with
 | true=>
  simp only[Km] at h;obtain⟨ce,ai,aj,rfl⟩:=Q7 h;have ak:=Zw1 hC aa ah hf ab aj (ZbL ai) (fun a' w'=>∃ F A I Γ a w,Sim nt F A I Γ (Zad U (nx+64*i)) (ce.on co.dst s.1 s.2).1 (ce.on co.dst s.1 s.2).2 a w) (fun _ _ _=>False) fun u w' hp=>by
   obtain⟨I1,Γ1,b1,b2,b3,b4,b5⟩:=hp;rw[← af] at b5;exact⟨F,A,I1,Γ1,_,_,b5⟩
  obtain⟨_,_,al⟩:=Oper.wp_ex ak;exact al
 | false=>
  simp only[Ka,Kq] at h;cases h;obtain⟨I1,Γ1,b1,b2,b3,b4,b5⟩:=aa.pure (U':=Zad U (nx+64*i)) (v:=.tup []) (u:=undef) (dst:=co.dst) (fun id hu=>.inl hu) ZlB (by rw[af];exact ab);exact⟨F,A,I1,Γ1,_,_,b5⟩
theorem ZsA {U:Nat→Prop} {nx i j:Nat} (aa:i≠j) (h:Xp U (nx+64*i)):Xp (Zad U (nx+64*j)) (nx+64*i):=by
 intro id h1 h2 hu;rcases hu with hu | hu
 ·exact h id h1 h2 hu
 ·rcases LD aa with h3 | h3<;>omega
theorem ZCd {id:Nat} {v:AV} (h:Zdh id v=true):okV v=true:=by
 cases v with
 | tup vs=>cases vs with
  | nil=>rfl
  | cons x r=>cases h
 | _=>first | rfl | cases h
def okW:AV→Bool
 | .sub _ _=>true
 | v=>okV v
theorem ZtS {v:AV} (h:okV v=true):okW v=true:=by cases v<;>first | exact h | rfl
theorem ZAT {g:List Nat} {v:AV} (h:okW (kill g v)=true):kill g v=v:=by
 cases v with
 | sub a b=>
  simp only[kill,ZV,Qf] at h ⊢;split at h
  ·cases h
  ·rename_i hn;rw[Ke hn]
 | _=>
  refine ZcY ?_;revert h;generalize hk:kill g _=u;cases u<;>first | exact fun h=>h | skip
  intro _;simp only[kill,ZV,Qf] at hk
  first | (cases hk;done) | (split at hk<;>cases hk)
theorem ZCe {C:Orc} {M:Zp} {os:List CO} {nx q n:Nat} {s r:Sl×Hp} (h:ZJ C M os nx q s=some r) (hd:QQ (JL os q) [n]=true) (hk:okW (gs r.1 n)=true):gs s.1 n=gs r.1 n:=by
 unfold ZJ at h;obtain⟨o,ho,h⟩:=Za h;have aa:o.dst≠some n:=by
  intro e;simp[JL,ho,e,QQ] at hd
 unfold ZO at h;obtain⟨b,_,h⟩:=Za h;cases b with
 | true=>
  simp only[Km] at h;obtain⟨ce,_,_,rfl⟩:=Q7 h;have e1:gs (ce.on o.dst s.1 s.2).1 n=kill ce.gone (gs s.1 n):=by
   show gs (Zt (Xe ce.gone s.1) o.dst ce.eff.val) n=_;rw[Qz,Ke aa,QX]
  rw[e1] at hk ⊢;exact(ZAT hk).symm
 | false=>
  simp only[Ka,Kq] at h;cases h;show gs s.1 n=gs (Zt s.1 o.dst (.tup [])) n;rw[Qz,Ke aa]
theorem ZtT {C:Orc} {M:Zp} {os:List CO} {nx n:Nat}:∀ {l:List Nat} {s r:Sl×Hp},runL C M os nx l s=some r→(∀ q∈l,QQ (JL os q) [n]=true)→okW (gs r.1 n)=true→gs s.1 n=gs r.1 n
 | [],s,r,h,_,_=>by simp only[runL] at h;cases h;rfl
 | i :: l,s,r,h,hd,hk=>by
  simp only[runL] at h;obtain⟨s1,h1,h⟩:=Za h;have h2:=ZtT h (fun q hq=>hd q (by simp[hq])) hk;rw[← h2] at hk ⊢;exact ZCe h1 (hd i (by simp)) hk
theorem ZAU {C:Orc} {M:Zp} {os:List CO} {nx n:Nat} {l:List Nat} {s r:Sl×Hp} (h:runL C M os nx l s=some r) (hd:∀ q∈l,QQ (JL os q) [n]=true) (hk:okV (gs r.1 n)=true):gs s.1 n=gs r.1 n:=ZtT h hd (ZtS hk)
theorem Zxd {C:Orc} {M:Zp} {sl:Sl} {hp:Hp} {base:Nat} {c:COp} {ce:Zd} (hc:ZxF c=true) (h:vop C M sl hp base c=some ce):Zdj (vop C M sl hp base c)=some ce:=by
 rw[h];have aa:ce.gone=[]∧ce.eff.sets=[]∧ce.eff.dels=[]∧ce.eff.frz=[]:=by
  have o1:∀ {v:AV},QN v=some ce→ce.gone=[]∧ce.eff.sets=[]∧ce.eff.dels=[]∧ce.eff.frz=[]:=fun h=>by cases h;exact⟨rfl,rfl,rfl,rfl⟩
  have o2:∀ {v:Option AV},WB v=some ce→ce.gone=[]∧ce.eff.sets=[]∧ce.eff.dels=[]∧ce.eff.frz=[]:=fun h=>by obtain⟨v,_,h⟩:=Za h;exact o1 h
  cases c<;>simp only[ZxF,Ka] at hc<;>simp only[vop] at h
  case stuck=>cases h
  case move x=>exact o1 h
  case assign s x=>
   unfold ZdZ at h;split at h
   ·obtain⟨s,_,h⟩:=Za h;cases h;exact⟨rfl,rfl,rfl,rfl⟩
   ·exact o1 h
  case pick c a b=>
   unfold ZgF at h;split at h
   ·split at h<;>exact o1 h
   ·cases h
  case alloc slc cs=>
   unfold ZfM Zln at h;split at h
   ·split at h<;>first | (cases h;done) | (cases h;exact⟨rfl,rfl,rfl,rfl⟩)
   ·split at h<;>(cases h;exact⟨rfl,rfl,rfl,rfl⟩)
  case box x=>
   unfold Zxr at h;split at h
   ·cases h;exact⟨rfl,rfl,rfl,rfl⟩
   ·cases h
  case build zs ps=>obtain⟨cs,_,h⟩:=Za h;exact o1 h
  case load g s a=>exact o2 h
  case nilCheck x=>unfold J9 at h;split at h<;>first | exact o1 h | cases h
  case bin op eq x y=>
   unfold Zm7 at h;split at h
   ·split at h
    ·exact o2 h
    ·cases h
   ·exact o2 h
  case un op x=>exact o2 h
  case eqA neg n x y=>
   unfold Zrd at h;split at h
   ·obtain⟨r,_,h⟩:=Za h;exact o1 h
   ·cases h
  case convI k x=>unfold Go.Abs.convI at h;split at h<;>first | exact o1 h | cases h
  case convS x=>unfold Go.Abs.convS at h;split at h<;>first | exact o1 h | cases h
  case fn f cs=>exact o2 h
  case make s b z l c=>
   obtain⟨l,_,h⟩:=Za h;obtain⟨c,_,h⟩:=Za h;unfold Zo1 at h;split at h
   ·cases h;exact⟨rfl,rfl,rfl,rfl⟩
   ·cases h
  case slice s x lo hi=>exact o2 h
  case sliceS x lo hi=>exact o2 h
  case slice0 x hi mx=>exact o2 h
  case slice3 s x lo hi mx=>exact o2 h
  case shift off x=>unfold VR at h;split at h<;>first | exact o1 h | cases h
  case part g s off x=>exact o2 h
  case iaS s x i=>
   obtain⟨n,_,h⟩:=Za h;unfold Zhb at h;split at h
   ·exact o2 h
   ·cases h
  case iaA len s x i=>
   obtain⟨n,_,h⟩:=Za h;unfold ZmI at h;split at h
   ·unfold VR at h;split at h<;>first | exact o1 h | cases h
   ·cases h
  case ixS x i=>
   obtain⟨n,_,h⟩:=Za h;unfold ZvN at h;split at h
   ·unfold ZsR at h;split at h
    ·obtain⟨b,_,h⟩:=Za h;exact o1 h
    ·cases h
   ·cases h
  case ixA g s len x i=>
   obtain⟨n,_,h⟩:=Za h;unfold Zxt at h;split at h
   ·exact o2 h
   ·cases h
  case nth i x=>unfold Zt6 at h;split at h<;>first | exact o2 h | cases h
  case len x=>obtain⟨n,_,h⟩:=Za h;exact o1 h
  case lenS x=>obtain⟨n,_,h⟩:=Za h;exact o1 h
  case min x y=>unfold Zkd at h;split at h<;>first | (split at h<;>first | exact o1 h | cases h) | cases h
  case max x y=>unfold Zke at h;split at h<;>first | (split at h<;>first | exact o1 h | cases h) | cases h
 simp only[Zdj,Zg,aa.1,aa.2.1,aa.2.2.1,aa.2.2.2,ZfW]
theorem Zzs {C:Orc} {M:Zp} {nx i:Nat} {o:CO} (hc:ZxF o.op=true) (s:Sl×Hp):ZO C M nx i true o s=ZO C M nx i false o s:=by
 unfold ZO;have:WR C M nx i true o.op s.1 s.2=WR C M nx i false o.op s.1 s.2:=by
  unfold WR;simp only[Km,Ka,Kq];cases h:vop C M s.1 s.2 (nx+64*i) o.op with
  | none=>rfl
  | some ce=>rw[← h,Zxd hc h,h]
 rw[this]
theorem vop_read {C:Orc} {M:Zp} {sl:Sl} {hp hp' : Hp} {base:Nat} {c:COp} (hc:Zae c=true) (h:∀ x∈ZL c,∀ k∈ZD (evO sl x),lkp hp k=lkp hp' k):vop C M sl hp base c=vop C M sl hp' base c:=by
 have len:∀ v:AV,(∀ k∈ZD v,lkp hp k=lkp hp' k)→Zef hp v=Zef hp' v:=fun v hv=>by
  cases v<;>simp only[Zef]
  case d x=>cases x<;>rfl
  case own id=>rw[hv id (by simp[ZD,ZE,Zn])]
 cases c<;>simp only[Zae,Ka] at hc<;>simp only[ZL] at h<;>simp only[vop]
 case load g s a=>
  have:=h a (by simp);cases hv:evO sl a<;>rw[hv] at this<;>simp only[UV]
  case ptr id off=>rw[this id (by simp[ZD,ZE,Zn])]
  case prow id sz i off=>rw[this id (by simp[ZD,ZE,Zn])]
 case slice s x lo hi=>
  have:=h x (by simp);cases hv:evO sl x<;>rw[hv] at this<;>simp only[WA]
  case d x=>cases x<;>rfl
  case own id=>rw[this id (by simp[ZD,ZE,Zn])]
  case ownv id off n=>rw[this id (by simp[ZD,ZE,Zn])]
 case slice0 x hi mx=>
  unfold slice0;rw[len _ (h x (by simp))]
 case iaS s x i=>
  congr 1
  funext n
  simp only[Zhb];have:=h x (by simp);cases hv:evO sl x<;>rw[hv] at this<;>simp only[QB]
  case d x=>cases x<;>rfl
  case own id=>rw[this id (by simp[ZD,ZE,Zn])]
  case ownv id off n=>rw[this id (by simp[ZD,ZE,Zn])]
 case len x=>rw[len _ (h x (by simp))]
theorem ZsB {A B:Hp} (hd:∀ k x y,(k,x)∈A→(k,y)∈B→False) (hp:Hp) (id:Nat):lkp (Zh (Zh hp A) B) id=lkp (Zh (Zh hp B) A) id:=by
 have aa:∀ (l:Hp) (hp hp' : Hp),lkp hp id=lkp hp' id→lkp (Zh hp l) id=lkp (Zh hp' l) id:=by
  intro l
  induction l with
  | nil=>intro hp hp' h;exact h
  | cons q r ih=>
   intro hp hp' h;obtain⟨k,x⟩:=q;simp only[Zh];exact ih _ _ (by rw[Qm,Qm,h])
 by_cases h1:∃ o,(id,o)∈A
 ·have h2:∀ o,(id,o)∉B:=fun o ho=>by
   obtain⟨o',ab⟩:=h1;exact hd id o' o ab ho
  rw[Zy B _ id h2];exact aa A _ _ (Zy B hp id h2).symm
 ·have h2:∀ o,(id,o)∉A:=fun o ho=>h1 ⟨o,ho⟩;rw[Zy A _ id h2];exact aa B _ _ (Zy A hp id h2)
theorem Zvr {hp:Hp} {v:AV} {q:D×Bool×List Nat} (h:Zcl hp v=some q):∀ i∈q.2.2,i∈Zn v:=by
 intro i hi;cases v<;>simp only[Zcl] at h<;>first | (cases h;simp at hi;done) | (cases h;done) | skip
 obtain⟨p,_,h⟩:=Za h;cases h;simpa [Zn] using hi
theorem Zmv {hp:Hp}:∀ {vs:List AV} {q:List D×Bool×List Nat},WF hp vs=some q→∀ i∈q.2.2,i∈vs.flatMap Zn
 | [],q,h,i,hi=>by simp only[WF] at h;cases h;simp at hi
 | v :: vs,q,h,i,hi=>by
  simp only[WF] at h;obtain⟨q1,h1,h⟩:=Za h;obtain⟨q2,h2,h⟩:=Za h;split at h
  ·cases h;rcases Kg.1 hi with hi | hi
   ·exact Ky.2 ⟨v,by simp,Zvr h1 i hi⟩
   ·obtain⟨c,hc,aa⟩:=Ky.1 (Zmv h2 i hi);exact Ky.2 ⟨c,by simp[hc],aa⟩
  ·cases h
theorem Zzt {hp:Hp} {slc:List (Option Nat)} {s base:Nat} {vs:List AV} {x:AV} {e:Eff} (h:Za7 hp slc s base vs x=some e):∃ id o,Wc x=some id∧e.val=.junk∧e.sets=[(id,o)]∧e.dels=[]∧∀ i∈e.frz,i∈vs.flatMap Zn:=by
 cases x<;>simp only[Za7] at h<;>first | cases h | skip
 case ptr id off=>
  unfold Ze2 at h;split at h
  ·split at h
   ·split at h<;>(cases h;exact⟨id,_,rfl,rfl,rfl,rfl,fun i hi=>by simp at hi⟩)
   ·cases h
  ·cases h
 case prow id sz i off=>
  unfold Zc3 at h;split at h
  ·split at h
   ·obtain⟨x,_,h⟩:=Za h;obtain⟨q,hq,h⟩:=Za h;unfold Ze3 at h;split at h
    ·cases h;exact⟨id,_,rfl,rfl,rfl,rfl,Zmv hq⟩
    ·cases h
   ·cases h
  ·cases h
def FzEq (o o' : Option Zm):Prop:=∃ b:Bool,o'=o.map fun x=>if b then VQ x else x
theorem FzEq.seen {o o' : Option Zm} (h:FzEq o o'):ZcZ [] o o':=by
 obtain⟨b,rfl⟩:=h;have hk:∀ x:Zm,XZ [] x=x:=fun x=>by
  cases x with
  | box cs=>simp only[XZ];congr 1;rw[KS (g:=id) (fun a _=>ZeT a),Lu]
  | row _ _ _ _=>rfl
  | deep _ _ _ l=>cases l<;>simp[XZ,ZgT]
 have:=Zvx (g:=[]) (b:=b) o;have e:(o.map (XZ []))=o:=by cases o<;>simp[hk]
 rw[e] at this;exact this
theorem vop_fz {C:Orc} {M:Zp} {sl:Sl} {hp hp' : Hp} {base:Nat} {c:COp} (hc:Zae c=true) (h:∀ x∈ZL c,∀ k∈ZD (evO sl x),FzEq (lkp hp k) (lkp hp' k)):vop C M sl hp' base c=vop C M sl hp base c:=by
 have hs:∀ x∈ZL c,Zj5 [] hp hp' (evO sl x):=fun x hx k hk=>(h x hx k hk).seen;cases c<;>simp only[Zae,Ka] at hc<;>simp only[ZL] at h hs<;>simp only[vop]
 case load g s a=>
  have h1:=h a (by simp);have h2:=hs a (by simp);cases hv:evO sl a<;>rw[hv] at h1 h2<;>simp only[UV]
  case ptr id off=>
   obtain⟨b,e⟩:=h1 id (by simp[ZD,ZE,Zn]);rw[e];cases lkp hp id with
   | none=>rfl
   | some o=>cases o<;>cases b<;>rfl
  case prow id sz i off=>
   obtain⟨b,e⟩:=h1 id (by simp[ZD,ZE,Zn]);rw[e];cases lkp hp id with
   | none=>rfl
   | some o=>cases o<;>cases b<;>rfl
 case slice s x lo hi=>rw[Zg1 (hs x (by simp))]
 case slice0 x hi mx=>unfold slice0;rw[ZeX (hs x (by simp))]
 case iaS s x i=>
  congr 1
  funext n
  simp only[Zhb];rw[Zb1 (hs x (by simp))]
 case len x=>rw[ZeX (hs x (by simp))]
def Zj2 (sl:Sl) (a:COp):COp→Bool
 | .store _ _ x _=>ZfV sl a (Wc (evO sl x))
 | .append _ _ _ flat x y=>Jp sl a (evO sl x)&&(flat || seenSrc sl a (evO sl y))
 | _=>false
def LooseS (s:Sl) (a b:COp):Prop:=Zph b=true∧(WX a=true∨(Zae a=true∧Zj2 s a b=true))
theorem ZgZ {sl:Sl} {id:Nat}:∀ {xs:List Opd},Xr sl id xs=true→∀ x∈xs,Zdh id (evO sl x)=true
 | [],_,x,hx=>by simp at hx
 | y :: ys,h,x,hx=>by
  simp only[Xr,Kf] at h;rcases Kd.1 hx with rfl | hx
  ·exact h.1
  ·exact ZgZ h.2 x hx
theorem ZoF {id:Nat} {v:AV} (h:Zdh id v=true):id∉ZD v:=by
 cases v with
 | tup vs=>cases vs with
  | nil=>simp[ZD]
  | cons x r=>cases h
 | _=>simp[Zdh,ZD,ZE,Zn] at h ⊢ <;> exact fun e=>h e.symm
theorem Zxe {hp:Hp} {sz by_ base:Nat} {str flat:Bool} {x y:AV} {e:Eff} (h:Ui hp sz by_ str flat base x y=some e):e.sets=[]∧e.frz=[]∧((x=.nil∧e.dels=[])∨∃ id,e.dels=[id]∧(x=.own id∨∃ o n,x=.ownv id o n)):=by
 unfold Ui at h;obtain⟨q,_,h⟩:=Za h;split at h
 ·cases x<;>simp only[Zg8] at h<;>first | (cases h;done) | skip
  ·split at h
   ·cases h;exact⟨rfl,rfl,.inl ⟨rfl,rfl⟩⟩
   ·cases h
  ·split at h
   ·cases h
   ·unfold Zlm at h;split at h
    ·split at h
     ·cases h;exact⟨rfl,rfl,.inr ⟨_,rfl,.inl rfl⟩⟩
     ·cases h
    ·cases h
  ·split at h
   ·cases h
   ·split at h
    ·unfold Zh9 at h;split at h
     ·split at h
      ·cases h;exact⟨rfl,rfl,.inr ⟨_,rfl,.inr ⟨_,_,rfl⟩⟩⟩
      ·cases h
     ·cases h
    ·unfold Zh8 at h;split at h
     ·split at h
      ·cases h;exact⟨rfl,rfl,.inr ⟨_,rfl,.inr ⟨_,_,rfl⟩⟩⟩
      ·cases h
     ·cases h
 ·cases h
theorem ZoG {hp:Hp} {x:AV} {k:Nat} (h:k∈YC hp x):x=.own k:=by
 unfold YC at h;split at h
 ·split at h
  ·simp at h;subst h;rfl
  ·simp at h
 ·simp at h
theorem ZAV {hp:Hp} {sz by_ base:Nat} {str flat:Bool} {x y:AV} {e:Eff} (h:Ze6 hp sz by_ str flat base y x=some e):e.frz=[] ∧
  ((e.sets=[]∧∀ k∈e.dels,(x=.own k∨∃ o n,x=.ownv k o n)∨(flat=false∧y=.own k))∨∃ id nm o,x=.sub id nm∧e.dels=[]∧e.sets=[(id,o)]):=by
 unfold Ze6 at h;split at h
 ·split at h
  ·cases h
  ·obtain⟨q,_,h⟩:=Za h;split at h
   ·cases h
   ·unfold Zjg at h;split at h
    ·obtain⟨fl,_,h⟩:=Za h;split at h
     ·cases h;exact⟨rfl,.inr ⟨_,_,_,rfl,rfl,rfl⟩⟩
     ·cases h
    ·cases h
 ·have plain:∀ {hp' : Hp} {e:Eff},Ui hp' sz by_ str flat base x y=some e→e.sets=[]∧e.frz=[]∧∀ k∈e.dels,x=.own k∨∃ o n,x=.ownv k o n:=by
   intro hp' e h;obtain⟨g1,g2,g3⟩:=Zxe h;refine⟨g1,g2,fun k hk=>?_⟩;rcases g3 with ⟨_,g3⟩ | ⟨id,g3,g4⟩
   ·rw[g3] at hk;simp at hk
   ·rw[g3] at hk;simp at hk;subst hk;exact g4
  generalize hm:YC hp x++YC hp y=ms at h;cases ms with
  | nil=>
   simp only[VS] at h;obtain⟨g1,g2,g3⟩:=plain h;exact⟨g2,.inl ⟨g1,fun k hk=>.inl (g3 k hk)⟩⟩
  | cons i r=>
   simp only[VS] at h;split at h
   ·cases h
   ·rename_i aa;obtain⟨e0,h1,h⟩:=Za h;cases h;obtain⟨g1,g2,g3⟩:=plain h1;refine⟨g2,.inl ⟨g1,fun k hk=>?_⟩⟩;rcases Kg.1 hk with hk | hk
    ·exact .inl (g3 k hk)
    ·rw[← hm] at hk;rcases Kg.1 hk with hk | hk
     ·exact .inl (.inl (ZoG hk))
     ·exact .inr ⟨by simpa using aa,ZoG hk⟩
theorem ZoH {ds:List Nat} {l:Hp} {k:Nat} (h:k∈ds):lkp (Qs l ds) k=none:=by
 cases hl:lkp (Qs l ds) k with
 | none=>rfl
 | some o=>exact absurd h (Zbb ds l k o hl).2
theorem ZCf {C:Orc} {M:Zp} {sl:Sl} {hp:Hp} {base:Nat} {c:COp} {ce:Zd} (hc:Zph c=true) (h:vop C M sl hp base c=some ce) :
  ce.gone=[]∧(∀ k,k∈ce.eff.dels∨(∃ o,(k,o)∈ce.eff.sets)→(∃ x∈ZL c,k∈ZD (evO sl x))∧∀ a,Zj2 sl a c=true→Xr sl k (ZL a)=true)∧∀ k∈ce.eff.frz,∃ x∈ZL c,k∈ZD (evO sl x):=by
 cases c<;>first | (cases hc;done) | skip
 case store slc sz x y=>
  simp only[vop,ZgO] at h;obtain⟨e,h7,h⟩:=Za h;cases h;obtain⟨id,o,ht,g1,g2,g3,g4⟩:=Zzt h7;refine⟨rfl,fun k hk=>?_,fun k hk=>⟨y,by simp[ZL],Zvm (U:=fun k=>k∈ZD (evO sl y)) (fun _ h=>h) k (g4 k hk)⟩⟩;have ab:k=id:=by
   rcases hk with hk | ⟨o',hk⟩
   ·simp only[g3,Ku] at hk
   ·simp only[g2,KC,Prod.mk.injEq] at hk;exact hk.1
  subst ab;refine⟨⟨x,by simp[ZL],?_⟩,fun a ha=>?_⟩
  ·cases hv:evO sl x<;>rw[hv] at ht<;>simp only[Wc] at ht<;>cases ht<;>simp[ZD,ZE,Zn]
  ·simp only[Zj2,ht,ZfV] at ha;exact ha
 case append sz by_ str flat x y=>
  simp only[vop,Zt7,ZgO] at h;obtain⟨e,h7,h⟩:=Za h;cases h;obtain⟨g2,g3⟩:=ZAV h7;refine⟨rfl,fun k hk=>?_,fun k hk=>by simp only[g2,Ku] at hk⟩;rcases g3 with ⟨g1,g3⟩ | ⟨id,nm,o,g4,g3,g1⟩
  ·have aa:k∈e.dels:=by
    rcases hk with hk | ⟨o',hk⟩
    ·exact hk
    ·simp only[g1,Ku] at hk
   rcases g3 k aa with g4 | ⟨g4,g5⟩
   ·refine⟨⟨x,by simp[ZL],?_⟩,fun a ha=>?_⟩
    ·rcases g4 with g4 | ⟨o,n,g4⟩<;>rw[g4]<;>simp[ZD,ZE,Zn]
    ·simp only[Zj2,Kf] at ha;rcases g4 with g4 | ⟨o,n,g4⟩<;>rw[g4] at ha<;>exact ha.1
   ·refine⟨⟨y,by simp[ZL],by rw[g5];simp[ZD,ZE,Zn]⟩,fun a ha=>?_⟩;simp only[Zj2,Kf,g4,Bool.false_or] at ha;rw[g5] at ha;exact ha.2
  ·have aa:k=id:=by
    rcases hk with hk | ⟨o',hk⟩
    ·simp only[g3,Ku] at hk
    ·simp only[g1,KC,Prod.mk.injEq] at hk;exact hk.1
   subst aa;refine⟨⟨x,by simp[ZL],by rw[g4];simp[ZD,ZE,Zn]⟩,fun a ha=>?_⟩;simp only[Zj2,Kf] at ha;rw[g4] at ha;exact ha.1
theorem Zxf {C:Orc} {M:Zp} {os:List CO} {nx i j:Nat} {oi oj:CO} (ae:os[i]?=some oi) (ak:os[j]?=some oj) (ar:Z0 os i=true) (am:Z0 os j=false) (a3:i≠j) (au:XF oj oi=true)
  (an:∀ (k:Nat) (o:CO),os[k]?=some o→∀ x∈ZL o.op,Vf x=true) {s s1 s2:Sl×Hp} {U:Nat→Prop} (hs:ZiH nt s U) (a4:Xp U (nx+64*i)) (av:Xp U (nx+64*j)) (hl:LooseS s.1 oj.op oi.op)
  (h1:ZJ C M os nx j s=some s1) (h2:ZJ C M os nx i s1=some s2):∃ t1,ZJ C M os nx i s=some t1∧∃ t2,ZJ C M os nx j t1=some t2∧X0 t2 s2:=by
 obtain⟨F,A,I,Γ,a,w,ag⟩:=hs;simp only[XF,Kf] at au;obtain⟨⟨aw,ax⟩,al⟩:=au;have good:∀ (k:Nat) (o:CO),os[k]?=some o→∀ x∈ZL o.op,Zj0 U (evO s.1 x):=by
  intro k o ho x hx;cases x with
  | t n=>exact ag.good n
  | v y=>exact J4 (an k o ho _ hx)
  | f n=>exact⟨fun id a5=>by simp[evO,ZD,ZE] at a5,fun f a6 h c hc=>by cases h;simp at hc⟩
 simp only[ZJ,ak,Zg,am] at h1;simp only[ZJ,ae,Zg,ar] at h2;obtain⟨vj,aj,rfl,ao,ay⟩:=Zi9 h1;obtain⟨a7,hl⟩:=hl;unfold ZO at h2;obtain⟨b,hw,h2⟩:=Za h2;have az : Z6 s.1 oi.guard=some b:=by rw[← hw];exact(QA aw).symm
 cases b with
 | false=>
  simp only[Ka,Kq] at h2;cases h2;refine⟨(Zt s.1 oi.dst (.tup []),s.2),by simp only[ZJ,ae,Zg,ZO,az,Ka,Kq],?_⟩;have e2:=ay (Zt s.1 oi.dst (.tup []),s.2) (QA al) (Xl C M s.2 (nx+64*j) (WU (o:=oj) al));exact⟨(Zt (Zt s.1 oi.dst (.tup [])) oj.dst vj,Zh s.2 aj),by simp only[ZJ,ak,Zg,am];exact e2,fun t=>(US ax vj (.tup []) t).symm,fun id=>rfl⟩
 | true=>
  simp only[Km] at h2;obtain⟨ce,h3,h4,rfl⟩:=Q7 h2;have a0 : vop C M s.1 s.2 (nx+64*i) oi.op=some ce:=by
   have h5:=ZbL h3;rw[← h5,Xl C M (Zh s.2 aj) (nx+64*i) (WU (o:=oi) aw)];exact Za4 (ag.agree (WV av ao s.2)) C M _ (good i oi ae)
  have aa:=Ul h4;obtain⟨k1,k2,k3⟩:=ZCf a7 a0;obtain⟨e,gn⟩:=ce;simp only at k1 k2 k3;subst k1;have ap:∀ k∈e.frz,U k:=fun k hk=>by
   obtain⟨x,hx,hk⟩:=k3 k hk;exact(good i oi ae x hx).1 k hk
  have ah:∀ k,k∈e.dels∨(∃ o,(k,o)∈e.sets)→U k:=fun k hk=>by
   obtain⟨⟨x,hx,hk⟩,_⟩:=k2 k hk;exact(good i oi ae x hx).1 k hk
  have ai:∀ s:Sl×Hp,Zd.on { eff:=e,gone:=[] } oi.dst s.1 s.2=(Zt s.1 oi.dst e.val,Zh (Zh (Qs (Qi e.frz s.2) e.dels) e.sets) e.adds):=by
   intro s;rfl
  refine⟨Zd.on { eff:=e,gone:=[] } oi.dst s.1 s.2,?_,?_⟩
  ·simp only[ZJ,ae,Zg,ZO,az,Km,YQ,ar,WR];rw[a0,Zg,Kh h4]
  ·have ab:∀ k,U k→¬(k∈e.dels∨∃ o,(k,o)∈e.sets)→FzEq (lkp s.2 k) (lkp (Zh (Zh (Qs (Qi e.frz s.2) e.dels) e.sets) e.adds) k):=by
    intro k hk aq;rw[not_or] at aq;rw[← WV a4 aa _ k hk,Zy _ _ k (fun o ho=>aq.2 ⟨o,ho⟩),Wj _ _ k aq.1,Qd];exact⟨_,rfl⟩
   have e2:ZO C M nx j false oj (Zd.on { eff:=e,gone:=[] } oi.dst s.1 s.2)=some (Zt (Zd.on { eff:=e,gone:=[] } oi.dst s.1 s.2).1 oj.dst vj,Zh (Zd.on { eff:=e,gone:=[] } oi.dst s.1 s.2).2 aj):=by
    rw[ai];refine ay (Zt s.1 oi.dst e.val,Zh (Zh (Qs (Qi e.frz s.2) e.dels) e.sets) e.adds) (QA al) ?_;rw[Xl C M _ (nx+64*j) (WU (o:=oj) al)];rcases hl with hl | ⟨a8,a9⟩
    ·exact Zj6 hl
    ·refine vop_fz a8 fun z hz k hk=>?_;refine ab k ((good j oj ak z hz).1 k hk) fun hp=>?_;exact ZoF (ZgZ ((k2 k hp).2 _ a9) z hz) hk
   refine⟨_,by simp only[ZJ,ak,Zg,am];exact e2,fun t=>?_,fun k=>?_⟩
   ·rw[ai,ai (Zt s.1 oj.dst vj,Zh s.2 aj)];exact(US ax vj e.val t).symm
   ·rw[ai,ai (Zt s.1 oj.dst vj,Zh s.2 aj)];show lkp (Zh (Zh (Zh (Qs (Qi e.frz s.2) e.dels) e.sets) e.adds) aj) k=lkp (Zh (Zh (Qs (Qi e.frz (Zh s.2 aj)) e.dels) e.sets) e.adds) k;have a1:∀ (B:Hp) (hp hp' : Hp),(∀ k,lkp hp k=lkp hp' k)→∀ k,lkp (Zh hp B) k=lkp (Zh hp' B) k:=fun B hp hp' h=>Zcu B h;have ad:∀ k,U k→∀ o',(k,o')∉aj:=fun k hk o' af=>by
     have:=ao k o' af;exact av k this.1 this.2 hk
    rw[ZsB (A:=e.adds) (B:=aj) (fun k x y hx hy=>by
     have:=aa k x hx;have:=ao k y hy;rcases LD a3 with h | h<;>omega)]
    refine a1 e.adds _ _ (fun k=>?_) k;rw[ZsB (A:=e.sets) (B:=aj) (fun k x y hx hy=>ad k (ah k (.inr ⟨x,hx⟩)) y hy) (Qs (Qi e.frz s.2) e.dels) k];refine a1 e.sets _ _ (fun k=>?_) k;by_cases hd:k∈e.dels
    ·rw[Zy aj _ k (ad k (ah k (.inl hd))),ZoH hd,ZoH hd]
    ·rw[Wj _ _ k hd];rw[Qd];by_cases hk:∃ o',(k,o')∈aj
     ·obtain⟨o',af⟩:=hk;rw[Zc1 (hp':=s.2) ⟨o',af⟩];have a':k∉e.frz:=fun hf=>ad k (ap k hf) o' af;cases lkp (Zh s.2 aj) k<;>simp[a']
     ·have a2 : ∀ o',(k,o')∉aj:=fun o' af=>hk ⟨o',af⟩;rw[Zy aj _ k a2,Zy aj _ k a2,Wj _ _ k hd,Qd]
theorem Zzu {C:Orc} {M:Zp} {os:List CO} {nx i j:Nat} {oi oj:CO} (ab:os[i]?=some oi) (ad:os[j]?=some oj) (ae:ZxF oi.op=true) (af:Z0 os j=false) (ag:i≠j) (ah:XF oj oi=true)
  (aa:∀ (k:Nat) (o:CO),os[k]?=some o→∀ x∈ZL o.op,Vf x=true) {s s1 s2:Sl×Hp} {U:Nat→Prop} (hs:ZiH nt s U) (ai:Xp U (nx+64*i)) (aj:Xp U (nx+64*j))
  (h1:ZJ C M os nx j s=some s1) (h2:ZJ C M os nx i s1=some s2):∃ t1,ZJ C M os nx i s=some t1∧∃ t2,ZJ C M os nx j t1=some t2∧X0 t2 s2:=by
 have e:∀ s:Sl×Hp,ZJ C M os nx i s=ZO C M nx i false oi s:=fun s=>by
  simp only[ZJ,ab,Zg];cases Z0 os i
  ·rfl
  ·exact Zzs ae s
 rw[e] at h2;simp only[e];exact ZoD ab ad af ag ah aa hs ai aj h1 h2
theorem ZtU {hp:Hp} {base s:Nat} {vs:List AV} {ce:Zd} (h:buildSl hp base s vs=some ce):ce.gone=[]:=by
 cases vs with
 | nil=>simp only[buildSl,QN] at h;first | (cases h;rfl) | (split at h<;>first | (cases h;rfl) | cases h)
 | cons v r=>
  simp only[buildSl] at h;obtain⟨q,_,h⟩:=Za h;unfold Zxs at h;split at h
  ·cases h;rfl
  ·cases h
theorem Zvs {C:Orc} {M:Zp} {sl:Sl} {hp:Hp} {base:Nat} {c:COp} {ce:Zd} (hc:ZfT c=true) (h:vop C M sl hp base c=some ce):ce.gone=[]:=by
 cases c<;>first | (cases hc;done) | skip
 ·simp only[vop] at h;exact ZtU h
 ·simp only[vop,Zt7,ZgO] at h;obtain⟨e,_,h⟩:=Za h;cases h;rfl
theorem Zzv {C:Orc} {M:Zp} {nx j:Nat} {oj:CO} {s s1:Sl×Hp} (hm:Vk oj.op=true) (h:ZO C M nx j false oj s=some s1) :
  ∃ v,s1=(Zt s.1 oj.dst v,s.2)∧∀ aa : Sl×Hp,Z6 aa.1 oj.guard=Z6 s.1 oj.guard→(∀ x∈ZL oj.op,evO aa.1 x=evO s.1 x)→ZO C M nx j false oj aa=some (Zt aa.1 oj.dst v,aa.2):=by
 obtain⟨x,hx⟩:∃ x,oj.op=.move x:=by
  cases ho:oj.op<;>rw[ho] at hm<;>first | (cases hm;done) | exact⟨_,rfl⟩
 unfold ZO at h ⊢;obtain⟨b,hw,h⟩:=Za h;cases b with
 | true=>
  simp only[Km,hx,WR,Ka,Kq,vop] at h;refine⟨evO s.1 x,?_,fun aa g1 g2=>?_⟩
  ·cases h;rfl
  ·rw[g1,hw,Zg];have e:=g2 x (by rw[hx];simp[ZL]);simp only[Km,hx,WR,Ka,Kq,vop,e];rfl
 | false=>
  simp only[Ka,Kq] at h;cases h;refine⟨.tup [],rfl,fun aa g1 g2=>?_⟩;rw[g1,hw,Zg];rfl
theorem Zzw {C:Orc} {M:Zp} {os:List CO} {nx i j:Nat} {oi oj:CO} (ad:os[i]?=some oi) (ae:os[j]?=some oj) (af:Z0 os j=false) (ah:XF oj oi=true)
  {s s1 s2:Sl×Hp} (hm:Vk oj.op=true) (hg:ZfT oi.op=true)
  (h1:ZJ C M os nx j s=some s1) (h2:ZJ C M os nx i s1=some s2):∃ t1,ZJ C M os nx i s=some t1∧∃ t2,ZJ C M os nx j t1=some t2∧X0 t2 s2:=by
 simp only[XF,Kf] at ah;obtain⟨⟨ai,aj⟩,ab⟩:=ah;simp only[ZJ,ae,Zg,af] at h1;simp only[ZJ,ad,Zg] at h2;obtain⟨vj,rfl,ak⟩:=Zzv hm h1;unfold ZO at h2;obtain⟨b,hw,h2⟩:=Za h2;have al : Z6 s.1 oi.guard=some b:=by rw[← hw];exact(QA ai).symm
 cases b with
 | false=>
  simp only[Ka,Kq] at h2;cases h2;refine⟨(Zt s.1 oi.dst (.tup []),s.2),by simp only[ZJ,ad,Zg,ZO,al,Ka,Kq],?_⟩;exact⟨(Zt (Zt s.1 oi.dst (.tup [])) oj.dst vj,s.2),by simp only[ZJ,ae,Zg,af];exact ak (Zt s.1 oi.dst (.tup []),s.2) (QA ab) (WU (o:=oj) ab),fun t=>(US aj vj (.tup []) t).symm,fun id=>rfl⟩
 | true=>
  simp only[Km] at h2;obtain⟨ce,h3,h4,rfl⟩:=Q7 h2;have aa:=Zvs hg (ZbL h3);have am : WR C M nx i (Z0 os i) oi.op s.1 s.2=some ce:=by
   rw[← h3];unfold WR;rw[Xl C M s.2 (nx+64*i) (WU (o:=oi) ai)]
  have ag:∀ (sl:Sl) (hp:Hp),ce.on oi.dst sl hp=(Zt sl oi.dst ce.eff.val,ce.eff.on hp):=by
   intro sl hp;unfold Zd.on;rw[aa];rfl
  refine⟨ce.on oi.dst s.1 s.2,?_,?_⟩
  ·simp only[ZJ,ad,Zg,ZO,al,Km,YQ];rw[am,Zg,Kh h4]
  ·rw[ag];refine⟨(Zt (Zt s.1 oi.dst ce.eff.val) oj.dst vj,ce.eff.on s.2),by simp only[ZJ,ae,Zg,af];exact ak (Zt s.1 oi.dst ce.eff.val,ce.eff.on s.2) (QA ab) (WU (o:=oj) ab),fun t=>?_,fun k=>?_⟩
   ·rw[ag];exact(US aj vj ce.eff.val t).symm
   ·rw[ag]
theorem awayV_ptr {sl:Sl} {xs:List Opd} {v:AV} (h:Zdi sl xs v=true) {k off:Nat} (e:v=.ptr k off):∀ z∈xs,k∉ZD (evO sl z):=by
 subst e;exact fun z hz=>ZoF (ZgZ h z hz)
structure ZoI (r:Sl) (oX oY:CO):Prop where
 opd:∀ x∈ZL oX.op,okV (evO r x)=true
 dst:∀ t,oX.dst=some t→okV (gs r t)=true
 arg:∀ y∈Zlu oY.op,okV (evO r y)=true
 away:∀ y∈Zlu oY.op,∀ k off,evO r y=.ptr k off→∀ z∈ZL oX.op,k∉ZD (evO r z)
theorem ZtV {sl:Sl}:∀ {xs:List Opd},okL sl xs=true→∀ x∈xs,okV (evO sl x)=true
 | [],_,x,hx=>by simp at hx
 | y :: ys,h,x,hx=>by
  simp only[okL,Kf] at h;rcases Kd.1 hx with rfl | hx
  ·exact h.1
  ·exact ZtV h.2 x hx
theorem ZsC {sl:Sl} {xs:List Opd}:∀ {ys:List Opd},Zhe sl xs ys=true→∀ y∈ys,Zdi sl xs (evO sl y)=true
 | [],_,x,hx=>by simp at hx
 | y :: ys,h,x,hx=>by
  simp only[Zhe,Kf] at h;rcases Kd.1 hx with rfl | hx
  ·exact h.1
  ·exact ZsC h.2 x hx
theorem Zvt {r:Sl} {oX oY:CO} (hm:Vk oX.op=false) (hc:Zby oY.op=true) (h:JB r oX.dst oX.op oY.op=true):ZoI r oX oY:=by
 obtain⟨f,as,ho⟩:∃ f as,oY.op=.call (.f f) as:=by
  cases ho:oY.op<;>rw[ho] at hc<;>first | (cases hc;done) | skip
  rename_i f as;cases f<;>first | (cases hc;done) | exact⟨_,_,rfl⟩
 rw[ho] at h;have h' : (okL r (ZL oX.op)&&(okD r oX.dst&&(okL r as&&Zhe r (ZL oX.op) as)))=true:=by
  cases hx:oX.op<;>rw[hx] at h hm<;>first | (cases hm;done) | exact h
 simp only[Kf] at h';obtain⟨h1,h2,h3,h4⟩:=h';refine⟨ZtV h1,fun t ht=>?_,?_,?_⟩
 ·rw[ht] at h2;exact h2
 ·rw[ho];exact ZtV h3
 ·rw[ho];intro y hy k off e;exact awayV_ptr (ZsC h4 y hy) e
theorem ZoI.move {r r' : Sl} {oX oY:CO} (h:ZoI r oX oY) (h1:∀ n∈(ZL oX.op).flatMap Zb3,okV (gs r n)=true→gs r' n=gs r n) (h2:∀ n,oX.dst=some n→okV (gs r n)=true→gs r' n=gs r n)
  (h3:∀ n∈(Zlu oY.op).flatMap Zb3,okV (gs r n)=true→gs r' n=gs r n):ZoI r' oX oY:=by
 have e1:∀ x∈ZL oX.op,evO r' x=evO r x:=fun x hx=>by
  have ho:=h.opd x hx;cases x with
  | t n=>exact h1 n (Ky.2 ⟨_,hx,by simp[Zb3]⟩) ho
  | _=>rfl
 have e3:∀ x∈Zlu oY.op,evO r' x=evO r x:=fun x hx=>by
  have ho:=h.arg x hx;cases x with
  | t n=>exact h3 n (Ky.2 ⟨_,hx,by simp[Zb3]⟩) ho
  | _=>rfl
 refine⟨fun x hx=>by rw[e1 x hx];exact h.opd x hx,fun t ht=>by rw[h2 t ht (h.dst t ht)];exact h.dst t ht,fun x hx=>by rw[e3 x hx];exact h.arg x hx,fun y hy k off e z hz=>?_⟩;rw[e3 y hy] at e;rw[e1 z hz];exact h.away y hy k off e z hz
theorem ZoJ {C:Orc} {M:Zp} {os:List CO} {nx x y:Nat} {oX oY:CO} (ay:os[x]?=some oX) (a1:os[y]?=some oY) (a2:x≠y) (ak:QQ oY.dst (looks oX)=true) (aw:QQ oX.dst (looks oY)=true)
  (ad:QQ oX.dst (looks oX)=true) (al:QQ oY.dst (looks oY)=true)
  (ar:∀ (k:Nat) (o:CO),os[k]?=some o→∀ x∈ZL o.op,Vf x=true) {s:Sl×Hp} {r:Sl} {U:Nat→Prop} (hs:ZiH nt s U) (a3:Xp U (nx+64*x)) (a4:Xp U (nx+64*y))
  (ae:Zby oY.op=true) {ce:Zd} (a5:vop C M s.1 s.2 (nx+64*y) oY.op=some ce) (a6:QZ (nx+64*y) (nx+64*y+64) ce.eff.adds=true)
  (am:∀ n,oX.dst≠some n→oY.dst≠some n→gs r n=kill ce.gone (gs s.1 n)) (aa:ZoI r oX oY) :
  ce.eff.dels=[]∧(∀ z∈ZL oX.op,evO (ce.on oY.dst s.1 s.2).1 z=evO s.1 z)∧(∀ z∈ZL oX.op,∀ id∈ZD (evO s.1 z),id∉ce.gone)∧(∀ z∈ZL oX.op,Zj5 ce.gone s.2 (ce.on oY.dst s.1 s.2).2 (evO s.1 z)) ∧
  (∀ k,nx+64*x≤k→k<nx+64*x+64→(∀ o',(k,o')∉ce.eff.sets)∧(∀ o',(k,o')∉ce.eff.adds)∧k∉ce.eff.frz∧k∉ce.gone):=by
 obtain⟨F,A,I,Γ,a,w,au⟩:=hs;have good:∀ (k:Nat) (o:CO),os[k]?=some o→∀ x∈ZL o.op,Zj0 U (evO s.1 x):=by
  intro k o ho x hx;cases x with
  | t n=>exact au.good n
  | v y=>exact J4 (ar k o ho _ hx)
  | f n=>exact⟨fun id av=>by simp[evO,ZD,ZE] at av,fun f a7 h c hc=>by cases h;simp at hc⟩
 obtain⟨f,as,ho⟩:∃ f as,oY.op=.call (.f f) as:=by
  cases ho:oY.op<;>rw[ho] at ae<;>first | (cases ae;done) | skip
  rename_i f as;cases f<;>first | (cases ae;done) | exact⟨_,_,rfl⟩
 have an:=a5;rw[ho] at an;simp only[vop,evO,Zdb,KY] at an;obtain⟨k1,k2,k3,k4⟩:=ZzH an;have ab:∀ n,(Opd.t n)∈ZL oX.op→n∈looks oX:=fun n hn=>Kg.2 (.inl (Ky.2 ⟨_,hn,by simp[Zb3]⟩));have ai:∀ n,(Opd.t n)∈as→n∈looks oY:=fun n hn=>Kg.2 (.inl (Ky.2 ⟨.t n,by rw[ho];simp[ZL,hn],by simp[Zb3]⟩));have ne:∀ {d:Option Nat} {l:List Nat} {n:Nat},QQ d l=true→n∈l→d≠some n:=fun {d l n} h hn e=>by
  rw[e] at h;simp only[QQ,K4,KU,K6] at h;exact h hn
 have ax:∀ z∈ZL oX.op,evO r z=evO s.1 z∧∀ id∈ZD (evO s.1 z),id∉ce.gone:=by
  intro z hz;have af:=aa.opd z hz;cases z with
  | t n=>
   have e:=am n (ne ad (ab n hz)) (ne ak (ab n hz));simp only[evO] at af ⊢;rw[e] at af ⊢;have:=ZcY af;exact⟨this,ZAX this⟩
  | v c=>
   have:=ar x oX ay _ hz;simp only[Vf,Kf,List.isEmpty_iff] at this;exact⟨rfl,fun id av=>by simp only[evO] at av;rw[this.1] at av;simp at av⟩
  | f n=>simp only[evO,okV,okC] at af;cases af
 have az:∀ z∈as,evO r z=evO s.1 z:=by
  intro z hz;have af:=aa.arg z (by rw[ho];exact hz);cases z with
  | t n=>
   have e:=am n (ne aw (ai n hz)) (ne al (ai n hz));simp only[evO] at af ⊢;rw[e] at af ⊢;exact ZcY af
  | _=>rfl
 have a0:∀ id,(∃ o,lkp s.2 id=some o)→U id:=fun id ⟨o,h⟩=>au.id_in h;have uX:∀ k,nx+64*x≤k→k<nx+64*x+64→¬U k:=fun k h1 h2=>a3 k h1 h2;have aj:=Ul a6;have ag:∀ z∈ZL oX.op,∀ k∈ZD (evO s.1 z),∀ o',(k,o')∉ce.eff.sets:=by
  intro z hz k hk o' ao;rcases (k4 k o' ao).2 with h | ⟨v,hv,ap⟩
  ·exact(ax z hz).2 k hk h
  ·obtain⟨y',aq,rfl⟩:=Zh1 hv;have ah:=aa.arg y' (by rw[ho];exact aq);rw[az y' aq] at ah;cases hp:evO s.1 y' with
   | ptr a b=>
    rw[hp] at ap;simp only[ZbK,KC] at ap;subst ap;have:=aa.away y' (by rw[ho];exact aq) k b (by rw[az y' aq,hp]) z hz;rw[(ax z hz).1] at this;exact this hk
   | clo g cs=>rw[hp] at ah;simp only[okV,okC] at ah;cases ah
   | _=>rw[hp] at ap;simp[ZbK] at ap
 refine⟨k1,fun z hz=>?_,fun z hz=>(ax z hz).2,fun z hz k hk=>?_,fun k g1 g2=>⟨fun o' ao=>?_,fun o' ao=>?_,fun hf=>?_,fun hg=>?_⟩⟩
 ·cases z with
  | t n=>
   show gs (Zt (Xe ce.gone s.1) oY.dst ce.eff.val) n=gs s.1 n;rw[Qz,Ke (ne ak (ab n hz)),QX];have e:=am n (ne ad (ab n hz)) (ne ak (ab n hz));have:=aa.opd _ hz;simp only[evO] at this;rw[e] at this;exact ZcY this
  | _=>rfl
 ·have a8:U k:=(good x oX ay z hz).1 k hk;show ZcZ ce.gone (lkp s.2 k) (lkp (ce.eff.on (Ve ce.gone s.2)) k);unfold Eff.on;rw[k1];simp only[Qs];rw[Zy,Zy,Qd,VI]
  ·exact Zvx _
  ·exact ag z hz k hk
  ·intro o' ao;obtain⟨h1,h2⟩:=aj k o' ao;exact a4 k h1 h2 a8
 ·exact uX k g1 g2 (a0 k (k4 k o' ao).1)
 ·have:=aj k o' ao;rcases LD a2 with h | h<;>omega
 ·obtain⟨v,hv,ap⟩:=k2 k hf;obtain⟨y',aq,rfl⟩:=Zh1 hv;exact uX k g1 g2 ((good y oY a1 y' (by rw[ho];simp[ZL,aq])).1 k ap)
 ·exact uX k g1 g2 (a0 k (k3 k hg))
theorem Zxg {C:Orc} {M:Zp} {os:List CO} {nx i j:Nat} {oi oj:CO} (ah:os[i]?=some oi) (av:os[j]?=some oj) (az:Z0 os j=false) (a0:i≠j) (aw:XF oj oi=true)
  (ad:QQ oj.dst (looks oj)=true) (ae:QQ oi.dst (looks oi)=true)
  (ai:∀ (k:Nat) (o:CO),os[k]?=some o→∀ x∈ZL o.op,Vf x=true) {s s1 s2:Sl×Hp} {U:Nat→Prop} (hs:ZiH nt s U) (a1:Xp U (nx+64*i)) (ap:Xp U (nx+64*j))
  (aj:Zby oi.op=true) (a2:Zpj oj.op=true) (aa:ZoI s2.1 oj oi) {t:Nat} (ht:oj.dst=some t)
  (h1:ZJ C M os nx j s=some s1) (h2:ZJ C M os nx i s1=some s2):∃ t1,ZJ C M os nx i s=some t1∧∃ t2,ZJ C M os nx j t1=some t2∧X0 t2 s2:=by
 have a3:=hs;obtain⟨F,A,I,Γ,a,w,af⟩:=a3;simp only[XF,Kf] at aw;obtain⟨⟨am,an⟩,ao⟩:=aw;have good:∀ (k:Nat) (o:CO),os[k]?=some o→∀ x∈ZL o.op,Zj0 U (evO s.1 x):=by
  intro k o ho x hx;cases x with
  | t n=>exact af.good n
  | v y=>exact J4 (ai k o ho _ hx)
  | f n=>exact⟨fun id a4=>by simp[evO,ZD,ZE] at a4,fun f a5 h c hc=>by cases h;simp at hc⟩
 have ab:∀ s:Sl×Hp,ZJ C M os nx j s=ZO C M nx j false oj s:=fun s=>by simp only[ZJ,av,Zg,az]
 rw[ab] at h1;simp only[ZJ,ah,Zg] at h2;obtain⟨v,ax,a6,aq,hX⟩:∃ v ax,s1=(Zt s.1 oj.dst v,Zh s.2 ax)∧(∀ k x,(k,x)∈ax→nx+64*j≤k∧k<nx+64*j+64) ∧
   ((Z6 s.1 oj.guard=some false∧v=.tup []∧ax=[])∨(Z6 s.1 oj.guard=some true∧∃ ce,Zlj ce∧vop C M s.1 s.2 (nx+64*j) oj.op=some ce∧QZ (nx+64*j) (nx+64*j+64) ce.eff.adds=true∧v=ce.eff.val∧ax=ce.eff.adds)):=by
  rcases Zxp h1 with ⟨g1,g2⟩ | ⟨g1,ce,g2,g3,g4,g5⟩
  ·exact⟨.tup [],[],g2,fun k x h=>by simp at h,.inl ⟨g1,rfl,rfl⟩⟩
  ·exact⟨ce.eff.val,ce.eff.adds,g5,Ul g4,.inr ⟨g1,ce,g2,g3,g4,rfl,rfl⟩⟩
 subst a6;unfold ZO at h2;obtain⟨b,hw,h2⟩:=Za h2;have ay : Z6 s.1 oi.guard=some b:=by rw[← hw];exact(QA am).symm
 cases b with
 | false=>
  simp only[Ka,Kq] at h2;cases h2;refine⟨(Zt s.1 oi.dst (.tup []),s.2),by simp only[ZJ,ah,Zg];exact YN ay,?_⟩;refine⟨(Zt (Zt s.1 oi.dst (.tup [])) oj.dst v,Zh s.2 ax),?_,fun t=>(US an v (.tup []) t).symm,fun id=>rfl⟩;rw[ab];have ak:Z6 (Zt s.1 oi.dst (.tup [])) oj.guard=Z6 s.1 oj.guard:=QA ao;rcases hX with ⟨g1,rfl,rfl⟩ | ⟨g1,ce,g2,g3,g4,rfl,rfl⟩
  ·exact YN (s:=(Zt s.1 oi.dst (.tup []),s.2)) (ak.trans g1)
  ·refine Zh3 (s:=(Zt s.1 oi.dst (.tup []),s.2)) (ak.trans g1) g2 ?_ g4;rw[← g3];exact Xl C M s.2 (nx+64*j) (WU (o:=oj) ao)
 | true=>
  simp only[Km] at h2;obtain⟨ce,h3,h4,rfl⟩:=Q7 h2;have a7:vop C M s.1 s.2 (nx+64*i) oi.op=some ce:=by
   have h5:=ZbL h3;rw[← h5,Xl C M (Zh s.2 ax) (nx+64*i) (WU (o:=oi) am)];exact Za4 (af.agree (WV ap aq s.2)) C M _ (good i oi ah)
  have a8 : WR C M nx i (Z0 os i) oi.op s.1 s.2=some ce:=by
   rw[← h3];unfold WR;rw[Xl C M (Zh s.2 ax) (nx+64*i) (WU (o:=oi) am),Za4 (af.agree (WV ap aq s.2)) C M _ (good i oi ah)]
  have ar:∀ n,oj.dst≠some n→oi.dst≠some n→gs (ce.on oi.dst (Zt s.1 oj.dst v) (Zh s.2 ax)).1 n=kill ce.gone (gs s.1 n):=fun n e1 e2=>by
   show gs (Zt (Xe ce.gone (Zt s.1 oj.dst v)) oi.dst ce.eff.val) n=_;rw[Qz,Ke e2,QX,Qz,Ke e1]
  obtain⟨c1,c2,c3,c4,c5⟩:=ZoJ (nt:=nt) av ah (Ne.symm a0) ao am ad ae ai hs ap a1 aj a7 h4 ar aa;have e0:gs (ce.on oi.dst (Zt s.1 oj.dst v) (Zh s.2 ax)).1 t=kill ce.gone v:=by
   show gs (Zt (Xe ce.gone (Zt s.1 oj.dst v)) oi.dst ce.eff.val) t=_;rw[Qz,Ke,QX,Qz,Kh ht];intro e;rw[ht,e] at an;simp[Zba] at an
  have ag:kill ce.gone v=v:=by
   have h5:=aa.dst t ht;rw[e0] at h5;exact ZcY h5
  have au:okV v=true:=by
   have h5:=aa.dst t ht;rw[e0,ag] at h5;exact h5
  refine⟨ce.on oi.dst s.1 s.2,?_,?_⟩
  ·simp only[ZJ,ah,Zg,ZO,ay,Km,YQ];rw[a8,Zg,Kh h4]
  ·have ak:Z6 (ce.on oi.dst s.1 s.2).1 oj.guard=Z6 s.1 oj.guard:=by
    show Z6 (Zt (Xe ce.gone s.1) oi.dst ce.eff.val) oj.guard=_;rw[QA ao];exact Zh4 fun q _=>QX _ _ _
   have al:(∀ k o,(k,o)∈ax→XZ ce.gone o=o)∧ZO C M nx j false oj (ce.on oi.dst s.1 s.2)=some (Zt (ce.on oi.dst s.1 s.2).1 oj.dst v,Zh (ce.on oi.dst s.1 s.2).2 ax):=by
    rcases hX with ⟨g1,rfl,rfl⟩ | ⟨g1,cx,g2,g3,g4,rfl,rfl⟩
    ·exact⟨fun k o h=>by simp at h,YN (ak.trans g1)⟩
    ·obtain⟨e1,e2⟩:=ZzF a2 c2 c4 (fun k h6 h7=>(c5 k h6 h7).2.2.2) g3 g4 g2.frz au ag;exact⟨e2,Zh3 (ak.trans g1) g2 e1 g4⟩
   obtain⟨e3,e4⟩:=al;refine⟨_,by rw[ab];exact e4,?_⟩;exact ZyD (ce:=ce) (dX:=oj.dst) (dY:=oi.dst) (v:=v) (ax:=ax) (s:=s) an c1 (fun k o ho=>by
    obtain⟨h6,h7⟩:=aq k o ho;obtain⟨m1,m2,m3,_⟩:=c5 k h6 h7;exact⟨m1,m2,m3⟩) e3 ag
theorem Zvu {C:Orc} {M:Zp} {os:List CO} {nx i j:Nat} {oi oj:CO} (ar:os[i]?=some oi) (ag:os[j]?=some oj) (ay:Z0 os i=false) (az:i≠j) (au:XF oj oi=true)
  (ad:QQ oi.dst (looks oi)=true) (ae:QQ oj.dst (looks oj)=true)
  (ah:∀ (k:Nat) (o:CO),os[k]?=some o→∀ x∈ZL o.op,Vf x=true) {s s1 s2:Sl×Hp} {U:Nat→Prop} (hs:ZiH nt s U) (av:Xp U (nx+64*i)) (a0:Xp U (nx+64*j))
  (ai:Zby oj.op=true) (a1:Zkj oi.op=true) (ab:ZoI s2.1 oi oj) {t:Nat} (ht:oi.dst=some t)
  (h1:ZJ C M os nx j s=some s1) (h2:ZJ C M os nx i s1=some s2):∃ t1,ZJ C M os nx i s=some t1∧∃ t2,ZJ C M os nx j t1=some t2∧X0 t2 s2:=by
 have a2:=hs;obtain⟨F,A,I,Γ,a,w,aj⟩:=a2;simp only[XF,Kf] at au;obtain⟨⟨an,ao⟩,ak⟩:=au;have af : Zba oi.dst oj.dst=true:=by
  cases hd:oi.dst<;>cases he:oj.dst<;>rw[hd,he] at ao<;>first | rfl | (simp only[Zba,bne_iff_ne,ne_eq] at ao ⊢;exact fun e=>ao e.symm)
 have good:∀ (k:Nat) (o:CO),os[k]?=some o→∀ x∈ZL o.op,Zj0 U (evO s.1 x):=by
  intro k o ho x hx;cases x with
  | t n=>exact aj.good n
  | v y=>exact J4 (ah k o ho _ hx)
  | f n=>exact⟨fun id a3=>by simp[evO,ZD,ZE] at a3,fun f a4 h c hc=>by cases h;simp at hc⟩
 have aa:∀ s:Sl×Hp,ZJ C M os nx i s=ZO C M nx i false oi s:=fun s=>by simp only[ZJ,ar,Zg,ay]
 rw[aa] at h2;simp only[ZJ,ag,Zg] at h1;unfold ZO at h1;obtain⟨b,hw,h1⟩:=Za h1;cases b with
 | false=>
  simp only[Ka,Kq] at h1;cases h1;have al:Z6 (Zt s.1 oj.dst (.tup [])) oi.guard=Z6 s.1 oi.guard:=QA an;rcases Zxp h2 with ⟨g1,g2⟩ | ⟨g1,ce,g2,g3,g4,g5⟩
  ·subst g2;refine⟨(Zt s.1 oi.dst (.tup []),s.2),by rw[aa];exact YN (al.symm.trans g1),(Zt (Zt s.1 oi.dst (.tup [])) oj.dst (.tup []),s.2),?_,fun t=>US af _ _ t,fun id=>rfl⟩;simp only[ZJ,ag,Zg];exact YN (s:=(Zt s.1 oi.dst (.tup []),s.2)) ((QA ak).trans hw)
  ·subst g5;refine⟨(Zt s.1 oi.dst ce.eff.val,Zh s.2 ce.eff.adds),?_,(Zt (Zt s.1 oi.dst ce.eff.val) oj.dst (.tup []),Zh s.2 ce.eff.adds),?_,fun t=>US af _ _ t,fun id=>rfl⟩
   ·rw[aa];refine Zh3 (al.symm.trans g1) g2 ?_ g4;rw[← g3];exact(Xl C M s.2 (nx+64*i) (WU (o:=oi) an)).symm
   ·simp only[ZJ,ag,Zg];exact YN (s:=(Zt s.1 oi.dst ce.eff.val,Zh s.2 ce.eff.adds)) ((QA ak).trans hw)
 | true=>
  simp only[Km] at h1;obtain⟨ce,h3,h4,rfl⟩:=Q7 h1;have a5:vop C M s.1 s.2 (nx+64*j) oj.op=some ce:=ZbL h3;have al:Z6 (ce.on oj.dst s.1 s.2).1 oi.guard=Z6 s.1 oi.guard:=by
   show Z6 (Zt (Xe ce.gone s.1) oj.dst ce.eff.val) oi.guard=_;rw[QA an];exact Zh4 fun q _=>QX _ _ _
  obtain⟨v,ax,a6,aw,hX⟩:∃ v ax,s2=(Zt (ce.on oj.dst s.1 s.2).1 oi.dst v,Zh (ce.on oj.dst s.1 s.2).2 ax)∧(∀ k x,(k,x)∈ax→nx+64*i≤k∧k<nx+64*i+64) ∧
    ((Z6 s.1 oi.guard=some false∧v=.tup []∧ax=[])∨(Z6 s.1 oi.guard=some true∧∃ cx,Zlj cx∧vop C M (ce.on oj.dst s.1 s.2).1 (ce.on oj.dst s.1 s.2).2 (nx+64*i) oi.op=some cx∧QZ (nx+64*i) (nx+64*i+64) cx.eff.adds=true∧v=cx.eff.val∧ax=cx.eff.adds)):=by
   rcases Zxp h2 with ⟨g1,g2⟩ | ⟨g1,cx,g2,g3,g4,g5⟩
   ·exact⟨.tup [],[],g2,fun k x h=>by simp at h,.inl ⟨al.symm.trans g1,rfl,rfl⟩⟩
   ·exact⟨cx.eff.val,cx.eff.adds,g5,Ul g4,.inr ⟨al.symm.trans g1,cx,g2,g3,g4,rfl,rfl⟩⟩
  subst a6;have ap:∀ n,oi.dst≠some n→oj.dst≠some n→gs (Zt (ce.on oj.dst s.1 s.2).1 oi.dst v) n=kill ce.gone (gs s.1 n):=fun n e1 e2=>by
   rw[Qz,Ke e1];show gs (Zt (Xe ce.gone s.1) oj.dst ce.eff.val) n=_;rw[Qz,Ke e2,QX]
  obtain⟨c1,c2,c3,c4,c5⟩:=ZoJ (nt:=nt) ar ag az an ak ad ae ah hs av a0 ai a5 h4 ap ab;have aq:okV v=true:=by
   have h5:=ab.dst t ht;simp only[Qz,Kh ht] at h5;exact h5
  have am:kill ce.gone v=v∧(∀ k o,(k,o)∈ax→XZ ce.gone o=o)∧ZO C M nx i false oi s=some (Zt s.1 oi.dst v,Zh s.2 ax):=by
   rcases hX with ⟨g1,rfl,rfl⟩ | ⟨g1,cx,g2,g3,g4,rfl,rfl⟩
   ·exact⟨rfl,fun k o h=>by simp at h,YN g1⟩
   ·obtain⟨e1,e2,e3⟩:=Zxo a1 c2 c4 c3 (fun k h6 h7=>(c5 k h6 h7).2.2.2) g3 g4 g2.frz aq;exact⟨e2,e3,Zh3 g1 g2 e1 g4⟩
  obtain⟨hk,e3,e4⟩:=am;refine⟨(Zt s.1 oi.dst v,Zh s.2 ax),by rw[aa];exact e4,ce.on oj.dst (Zt s.1 oi.dst v) (Zh s.2 ax),?_,?_⟩
  ·simp only[ZJ,ag,Zg,ZO];have a7:Z6 (Zt s.1 oi.dst v) oj.guard=some true:=(QA ak).trans hw;simp only[a7,Zg,Km,YQ];have:WR C M nx j (Z0 os j) oj.op (Zt s.1 oi.dst v) (Zh s.2 ax)=some ce:=by
    rw[← h3];unfold WR;rw[Xl C M (Zh s.2 ax) (nx+64*j) (WU (o:=oj) ak),← Za4 (aj.agree (WV av aw s.2)) C M _ (good j oj ag)]
   rw[this,Zg,Kh h4]
  ·exact(ZyD (ce:=ce) (dX:=oi.dst) (dY:=oj.dst) (v:=v) (ax:=ax) (s:=s) af c1 (fun k o ho=>by
    obtain⟨h6,h7⟩:=aw k o ho;obtain⟨m1,m2,m3,_⟩:=c5 k h6 h7;exact⟨m1,m2,m3⟩) e3 hk).symm
theorem ZfI {C:Orc} {M:Zp} {nx j:Nat} {oj:CO} {x:Opd} (hx:oj.op=.move x) {s:Sl×Hp} {b:Bool} (hw:Z6 s.1 oj.guard=some b) :
  ZO C M nx j false oj s=some (Zt s.1 oj.dst (if b then evO s.1 x else .tup []),s.2):=by
 unfold ZO;rw[hw,Zg];cases b
 ·rfl
 ·simp only[Km,hx,WR,Ka,Kq,vop];rfl
theorem Zxh {C:Orc} {M:Zp} {os:List CO} {nx i j:Nat} {oi oj:CO} (af:os[i]?=some oi) (am:os[j]?=some oj) (an:Z0 os j=false) (ai:XF oj oi=true)
  (ao:∀ (k:Nat) (o:CO),os[k]?=some o→∀ x∈ZL o.op,Vf x=true)
  {s s1 s2:Sl×Hp} (hm:Vk oj.op=true) {t:Nat} (ht:oj.dst=some t) (aj:okV (gs s2.1 t)=true)
  (h1:ZJ C M os nx j s=some s1) (h2:ZJ C M os nx i s1=some s2):∃ t1,ZJ C M os nx i s=some t1∧∃ t2,ZJ C M os nx j t1=some t2∧X0 t2 s2:=by
 obtain⟨x,hx⟩:∃ x,oj.op=.move x:=by
  cases ho:oj.op<;>rw[ho] at hm<;>first | (cases hm;done) | exact⟨_,rfl⟩
 simp only[XF,Kf] at ai;obtain⟨⟨ak,ad⟩,ab⟩:=ai;have aa:∀ s:Sl×Hp,ZJ C M os nx j s=ZO C M nx j false oj s:=fun s=>by simp only[ZJ,am,Zg,an]
 rw[aa] at h1;obtain⟨bj,ag⟩:∃ bj,Z6 s.1 oj.guard=some bj:=by
  unfold ZO at h1;obtain⟨b,hw,_⟩:=Za h1;exact⟨b,hw⟩
 rw[ZfI hx ag] at h1;have h1:=(Option.some.inj h1).symm;subst h1;simp only[ZJ,af,Zg] at h2;unfold ZO at h2;obtain⟨b,hw,h2⟩:=Za h2;have al : Z6 s.1 oi.guard=some b:=by rw[← hw];exact(QA ak).symm
 have ap:oi.dst≠some t:=fun e=>by rw[ht,e] at ad;simp[Zba] at ad
 have ae:∀ n,x=.t n→oi.dst≠some n:=fun n e h=>by
  rw[h] at ab;simp only[QQ,K4,KU,K6] at ab;exact ab (Kg.2 (.inl (by rw[hx,e];simp[ZL,Zb3])))
 cases b with
 | false=>
  simp only[Ka,Kq] at h2;cases h2;refine⟨(Zt s.1 oi.dst (.tup []),s.2),by simp only[ZJ,af,Zg];exact YN al,?_⟩;refine⟨_,by rw[aa];exact ZfI (s:=(Zt s.1 oi.dst (.tup []),s.2)) hx ((QA ab).trans ag),?_⟩;have:evO (Zt s.1 oi.dst (.tup [])) x=evO s.1 x:=WU (o:=oj) ab x (by rw[hx];simp[ZL]);simp only[this];exact⟨fun t=>(US ad _ _ t).symm,fun id=>rfl⟩
 | true=>
  simp only[Km] at h2;obtain⟨ce,h3,h4,rfl⟩:=Q7 h2;have aq : WR C M nx i (Z0 os i) oi.op s.1 s.2=some ce:=by
   rw[← h3];unfold WR;rw[Xl C M s.2 (nx+64*i) (WU (o:=oi) ak)]
  refine⟨ce.on oi.dst s.1 s.2,by simp only[ZJ,af,Zg,ZO,al,Km,YQ];rw[aq,Zg,Kh h4],?_⟩;have ah:Z6 (ce.on oi.dst s.1 s.2).1 oj.guard=some bj:=by
   show Z6 (Zt (Xe ce.gone s.1) oi.dst ce.eff.val) oj.guard=_;rw[QA ab,← ag];exact Zh4 fun q _=>QX _ _ _
  refine⟨_,by rw[aa];exact ZfI hx ah,?_⟩;have e0:gs (ce.on oi.dst (Zt s.1 oj.dst (if bj then evO s.1 x else .tup [])) s.2).1 t=kill ce.gone (if bj then evO s.1 x else .tup []):=by
   show gs (Zt (Xe ce.gone (Zt s.1 oj.dst _)) oi.dst ce.eff.val) t=_;rw[Qz,Ke ap,QX,Qz,Kh ht]
  rw[e0] at aj;have hk:=ZcY aj;have ev:(if bj then evO (ce.on oi.dst s.1 s.2).1 x else .tup [])=(if bj then evO s.1 x else .tup []):=by
   cases bj with
   | false=>rfl
   | true=>
    simp only[Km] at hk ⊢;cases x with
    | t n=>
     show gs (Zt (Xe ce.gone s.1) oi.dst ce.eff.val) n=gs s.1 n;rw[Qz,Ke (ae n rfl),QX];exact hk
    | _=>rfl
  rw[ev];refine⟨fun q=>?_,fun id=>rfl⟩;show gs (Zt (Zt (Xe ce.gone s.1) oi.dst ce.eff.val) oj.dst _) q=gs (Zt (Xe ce.gone (Zt s.1 oj.dst _)) oi.dst ce.eff.val) q;simp only[Qz,QX];by_cases hq:oj.dst=some q
  ·have:¬oi.dst=some q:=fun e=>by rw[hq,e] at ad;simp[Zba] at ad
   simp only[hq,Km,this,Kq];exact hk.symm
  ·simp[hq]
theorem Zxi {C:Orc} {M:Zp} {os:List CO} {nx i j:Nat} {oi oj:CO} (am:os[i]?=some oi) (ag:os[j]?=some oj) (ar:Z0 os i=false) (an:XF oj oi=true)
  (ah:∀ (k:Nat) (o:CO),os[k]?=some o→∀ x∈ZL o.op,Vf x=true)
  {s s1 s2:Sl×Hp} (hm:Vk oi.op=true) {t:Nat} (ht:oi.dst=some t) (ai:okV (gs s2.1 t)=true)
  (h1:ZJ C M os nx j s=some s1) (h2:ZJ C M os nx i s1=some s2):∃ t1,ZJ C M os nx i s=some t1∧∃ t2,ZJ C M os nx j t1=some t2∧X0 t2 s2:=by
 obtain⟨x,hx⟩:∃ x,oi.op=.move x:=by
  cases ho:oi.op<;>rw[ho] at hm<;>first | (cases hm;done) | exact⟨_,rfl⟩
 simp only[XF,Kf] at an;obtain⟨⟨ad,aj⟩,ak⟩:=an;have aa:∀ s:Sl×Hp,ZJ C M os nx i s=ZO C M nx i false oi s:=fun s=>by simp only[ZJ,am,Zg,ar]
 rw[aa] at h2;simp only[ZJ,ag,Zg] at h1;unfold ZO at h1;obtain⟨b,hw,h1⟩:=Za h1;have af:∀ n,x=.t n→oj.dst≠some n:=fun n e h=>by
  rw[h] at ad;simp only[QQ,K4,KU,K6] at ad;exact ad (Kg.2 (.inl (by rw[hx,e];simp[ZL,Zb3])))
 have ao:∀ (bi:Bool) (e:evO s1.1 x=evO s.1 x∨bi=false) (g1:Z6 s.1 oi.guard=some bi) (g2:Z6 s1.1 oi.guard=some bi),s2=(Zt s1.1 oi.dst (if bi then evO s.1 x else .tup []),s1.2):=by
  intro bi e g1 g2;rw[ZfI hx g2] at h2;rw[← Option.some.inj h2];rcases e with e | e
  ·rw[e]
  ·rw[e];rfl
 cases b with
 | false=>
  simp only[Ka,Kq] at h1;cases h1;have ae:Z6 (Zt s.1 oj.dst (.tup [])) oi.guard=Z6 s.1 oi.guard:=QA ad;obtain⟨bi,ab⟩:∃ bi,Z6 s.1 oi.guard=some bi:=by
   unfold ZO at h2;obtain⟨b,hw,_⟩:=Za h2;exact⟨b,ae.symm.trans hw⟩
  have e:evO (Zt s.1 oj.dst (.tup [])) x=evO s.1 x:=WU (o:=oi) ad x (by rw[hx];simp[ZL]);have h5:=ao bi (.inl e) ab (ae.trans ab);subst h5;refine⟨_,by rw[aa];exact ZfI hx ab,(Zt (Zt s.1 oi.dst (if bi then evO s.1 x else .tup [])) oj.dst (.tup []),s.2),?_,fun t=>?_,fun id=>rfl⟩
  ·simp only[ZJ,ag,Zg];exact YN (s:=(Zt s.1 oi.dst (if bi then evO s.1 x else .tup []),s.2)) ((QA ak).trans hw)
  ·exact(US aj _ _ t).symm
 | true=>
  simp only[Km] at h1;obtain⟨ce,h3,h4,rfl⟩:=Q7 h1;have ae:Z6 (ce.on oj.dst s.1 s.2).1 oi.guard=Z6 s.1 oi.guard:=by
   show Z6 (Zt (Xe ce.gone s.1) oj.dst ce.eff.val) oi.guard=_;rw[QA ad];exact Zh4 fun q _=>QX _ _ _
  obtain⟨bi,ab⟩:∃ bi,Z6 s.1 oi.guard=some bi:=by
   unfold ZO at h2;obtain⟨b,hw,_⟩:=Za h2;exact⟨b,ae.symm.trans hw⟩
  have ap:=h2;rw[ZfI hx (ae.trans ab)] at ap;have h6:=Option.some.inj ap;have hv:okV (if bi then evO (ce.on oj.dst s.1 s.2).1 x else .tup [])=true:=by
   rw[← h6] at ai;simp only[Qz,Kh ht] at ai;exact ai
  have aq:kill ce.gone (if bi then evO s.1 x else .tup [])=(if bi then evO s.1 x else .tup [])∧(evO (ce.on oj.dst s.1 s.2).1 x=evO s.1 x∨bi=false):=by
   cases bi with
   | false=>exact⟨rfl,.inr rfl⟩
   | true=>
    simp only[Km] at hv ⊢;cases x with
    | t n=>
     have e:evO (ce.on oj.dst s.1 s.2).1 (.t n)=kill ce.gone (gs s.1 n):=by
      show gs (Zt (Xe ce.gone s.1) oj.dst ce.eff.val) n=_;rw[Qz,Ke (af n rfl),QX]
     rw[e] at hv ⊢;have:=ZcY hv;exact⟨this,.inl this⟩
    | v c=>
     have hc:=ah i oi am (.v c) (by rw[hx];simp[ZL]);simp only[Vf,Kf,List.isEmpty_iff] at hc;exact⟨ZyB hv fun id al=>by simp only[evO] at al;rw[hc.1] at al;simp at al,.inl rfl⟩
    | f n=>simp only[evO,okV,okC] at hv;cases hv
  have h5:=ao bi aq.2 ab (ae.trans ab);subst h5;refine⟨_,by rw[aa];exact ZfI hx ab,ce.on oj.dst (Zt s.1 oi.dst (if bi then evO s.1 x else .tup [])) s.2,?_,fun q=>?_,fun id=>rfl⟩
  ·simp only[ZJ,ag,Zg,ZO];have au:Z6 (Zt s.1 oi.dst (if bi then evO s.1 x else .tup [])) oj.guard=some true:=(QA ak).trans hw;simp only[au,Zg,Km,YQ];have:WR C M nx j (Z0 os j) oj.op (Zt s.1 oi.dst (if bi then evO s.1 x else .tup [])) s.2=some ce:=by
    rw[← h3];unfold WR;rw[Xl C M s.2 (nx+64*j) (WU (o:=oj) ak)]
   rw[this,Zg,Kh h4]
  ·show gs (Zt (Xe ce.gone (Zt s.1 oi.dst _)) oj.dst ce.eff.val) q=gs (Zt (Zt (Xe ce.gone s.1) oj.dst ce.eff.val) oi.dst _) q;simp only[Qz,QX];by_cases hq:oi.dst=some q
   ·have:¬oj.dst=some q:=fun e=>by rw[hq,e] at aj;simp[Zba] at aj
    simp only[hq,Km,this,Kq];exact aq.1
   ·simp[hq]
theorem Zyz {C:Orc} {M:Zp} (hC:QL P C) {ops:Array Oper} {os:List CO} (a9:QG (ZmK P nt ops.toList) ops.toList=some os) {nx i:Nat} {ks:List Nat} {oi:CO} (ab:os[i]?=some oi)
  (ad:∀ (k:Nat) (o:CO),os[k]?=some o→∀ x∈ZL o.op,Vf x=true) :
  ∀ (js:List Nat) {s r:Sl×Hp} {U:Nat→Prop},ZiH nt s U→Xp U (nx+64*i)→(∀ j∈js,Xp U (nx+64*j))→(js++i :: ks).Pairwise (· < ·) →
   (∀ j∈js,∃ oj,os[j]?=some oj∧XF oj oi=true∧((Z0 os j=false∧(Z0 os i=true→ZxF oi.op=true∨(Zph oi.op=true∧(WX oj.op=true∨(Zae oj.op=true∧Zb4 os j=true∧Zb4 os i=true∧Zj2 r.1 oj.op oi.op=true)))∨(Vk oj.op=true∧ZfT oi.op=true)∨(Vk oj.op=true∧Zm9 os j=true∧okD r.1 oj.dst=true) ∨
    (Vk oj.op=false∧Zby oi.op=true∧Zpj oj.op=true∧Zb4 os j=true∧Zb4 os i=true∧Zm9 os j=true∧JB r.1 oj.dst oj.op oi.op=true))) ∨
    (Z0 os j=true∧Z0 os i=false∧Vk oi.op=true∧Zm9 os i=true∧okD r.1 oi.dst=true) ∨
    (Z0 os j=true∧Z0 os i=false∧Vk oi.op=false∧Zby oj.op=true∧Zkj oi.op=true∧Zb4 os j=true∧Zb4 os i=true∧Zm9 os i=true∧JB r.1 oi.dst oi.op oj.op=true))) →
   (∀ j∈js++i :: ks,j<os.length)→runL C M os nx (js++i :: ks) s=some r →
   ∃ s',ZJ C M os nx i s=some s'∧∃ r',runL C M os nx (js++ks) s'=some r'∧X0 r' r
 | [],s,r,U,_,_,_,_,_,_,h=>by
  simp only[Le,runL] at h ⊢;obtain⟨s',h1,h⟩:=Za h;exact⟨s',h1,r,h,X0.refl r⟩
 | j :: js,s,r,U,hs,hfi,hfj,hsort,hj,hlt,h=>by
  have a1:=h;simp only[Kv,runL] at h;obtain⟨s1,h1,h⟩:=Za h;have a6:=hsort;simp only[Kv,LS] at hsort;have bk:j<i:=hsort.1 i (by simp);have a0:i≠j:=by omega
  have a':=Zxc hC a9 hs (hfj j (by simp)) h1;have ba:∀ k∈js,k≠j:=fun k hk e=>by
   have:=hsort.1 k (by simp[hk]);omega
  obtain⟨s2,h2,r2,h3,h4⟩:=Zyz hC a9 ab ad js a' (ZsA a0 hfi) (fun k hk=>ZsA (ba k hk) (hfj k (by simp[hk]))) hsort.2 (fun k hk=>hj k (by simp[hk])) (fun k hk=>hlt k (by simp only[Kv,Kd];exact .inr hk)) h;obtain⟨oj,ae,ar,a2⟩:=hj j (by simp);have aa:∀ {k q n:Nat} {o:CO},Zb4 os k=true→os[k]?=some o→k≤q→q<os.length→n∈looks o→QQ (JL os q) [n]=true:=by
   intro k q n o al ho bl hq hn;have:=KT.1 al q (Lj.2 hq);simp only[Zuh,ho,Lk,Ko] at this;rcases this with h | h
   ·omega
   ·cases hd:JL os q with
    | none=>rfl
    | some d=>
     rw[hd] at h;simp only[QQ,K4,KU,K6] at h ⊢;intro e;simp at e;exact h (e ▸ hn)
  have af:∀ {k:Nat} {o:CO},Zb4 os k=true→os[k]?=some o→QQ o.dst (looks o)=true:=by
   intro k o al ho;have hk:k<os.length:=(Kb.1 ho).1;have:=KT.1 al k (Lj.2 hk);simp only[Zuh,JL,ho,Lk,Ko] at this;rcases this with h | h
   ·omega
   ·exact h
  have ag:∀ {k q t:Nat} {o:CO},Zm9 os k=true→os[k]?=some o→o.dst=some t→q≠k→q<os.length→QQ (JL os q) [t]=true:=by
   intro k q t o hl ho ht bb hq;simp only[Zm9,Kf] at hl;have:=KT.1 hl.2 q (Lj.2 hq);simp only[Lk,beq_iff_eq,JL,ho,ht] at this;rcases this with h | h
   ·exact absurd h bb
   ·simp only[JL];cases a3:os[q]? with
    | none=>rfl
    | some oq=>
     rw[a3] at h;simp only at h ⊢;cases hd:oq.dst with
     | none=>rfl
     | some d=>
      rw[hd] at h;simp only[Zba,bne_iff_ne,ne_eq] at h;simp only[QQ,K4,KU,K6,KC];exact h
  have ah:∀ {k:Nat} {o:CO},Zm9 os k=true→os[k]?=some o→∃ t,o.dst=some t:=by
   intro k o hl ho;simp only[Zm9,JL,ho,Kf] at hl;cases hd:o.dst with
   | none=>rw[hd] at hl;cases hl.1
   | some t=>exact⟨t,rfl⟩
  have au:∀ n,(∀ q∈js++ks,QQ (JL os q) [n]=true)→okV (gs r.1 n)=true→gs s2.1 n=gs r.1 n:=by
   intro n hn ho;rw[← h4.1 n] at ho ⊢;exact ZAU h3 hn ho
  have ak:∀ q∈js++ks,q≠i∧j<q∧q<os.length:=by
   intro q hq;refine⟨?_,?_,hlt q ?_⟩
   ·rcases Kg.1 hq with hq | hq
    ·have:=(LI.1 hsort.2).2.2 q hq i (by simp);omega
    ·have:=(LS.1 (LI.1 hsort.2).2.1).1 q hq;omega
   ·rcases Kg.1 hq with hq | hq
    ·exact hsort.1 q (by simp[hq])
    ·exact hsort.1 q (by simp[hq])
   ·rcases Kg.1 hq with hq | hq<;>simp[hq]
  have am:Zb4 os j=true→∀ n∈looks oj,∀ q∈js++ks,QQ (JL os q) [n]=true:=fun al n hn q hq=>by
   obtain⟨_,h6,h7⟩:=ak q hq;exact aa al ae (by omega) h7 hn
  have an:Zb4 os i=true→∀ n∈looks oi,∀ q∈js++ks,QQ (JL os q) [n]=true:=fun al n hn q hq=>by
   obtain⟨_,h6,h7⟩:=ak q hq;rcases Kg.1 hq with hq | hq
   ·obtain⟨oq,a3,ao,_⟩:=hj q (by simp[hq]);simp only[XF,Kf] at ao;have h5:=ao.1.1;simp only[JL,a3];cases hd:oq.dst with
    | none=>rfl
    | some d=>
     rw[hd] at h5;simp only[QQ,K4,KU,K6] at h5 ⊢;intro e;simp at e;exact h5 (e ▸ hn)
   ·have:=(LS.1 (LI.1 hsort.2).2.1).1 q hq;exact aa al ab (by omega) h7 hn
  have ai:∀ {o:CO} {n:Nat},n∈(ZL o.op).flatMap Zb3→n∈looks o:=fun h=>Kg.2 (.inl h);have aj:∀ {o:CO} {n:Nat},n∈(Zlu o.op).flatMap Zb3→n∈looks o:=fun {o n} h=>by
   refine Kg.2 (.inl ?_);cases ho:o.op<;>rw[ho] at h<;>simp only[Zlu,List.flatMap_nil,Ku] at h
   simp only[ZL,KJ,Kg];exact .inr h
  have a4:∃ t1,ZJ C M os nx i s=some t1∧∃ t2,ZJ C M os nx j t1=some t2∧X0 t2 s2:=by
   rcases a2 with ⟨av,ax⟩ | ⟨av,ay,k1,k5,k6⟩ | ⟨av,ay,k0,k1,k2,k3,k4,k5,k6⟩
   case inr.inl=>
    obtain⟨t,ht⟩:=ah k5 ab;refine Zxi ab ae ay ar ad k1 ht ?_ h1 h2;rw[ht] at k6;simp only[okD] at k6;rw[au t (fun q hq=>?_) k6]
    ·exact k6
    ·obtain⟨h5,_,h7⟩:=ak q hq;exact ag k5 ab ht h5 h7
   case inr.inr=>
    obtain⟨t,ht⟩:=ah k5 ab;refine Zvu ab ae ay a0 ar (af k4 ab) (af k3 ae) ad hs hfi (hfj j (by simp)) k1 k2 ?_ ht h1 h2;refine(Zvt k0 k1 k6).move (fun n hn=>au n (an k4 n (ai hn))) (fun n hn=>au n fun q hq=>?_) (fun n hn=>au n (am k3 n (aj hn)));obtain⟨h5,_,h7⟩:=ak q hq;exact ag k5 ab hn h5 h7
   cases ay:Z0 os i with
   | false=>exact Zzr ab ae ay av a0 ar ad hs hfi (hfj j (by simp)) h1 h2
   | true=>
    rcases ax ay with hc | ⟨al,hl⟩ | ⟨bc,bd⟩ | ⟨k1,k5,k6⟩ | ⟨k0,k1,k2,k3,k4,k5,k6⟩
    case inr.inr.inr.inl=>
     obtain⟨t,ht⟩:=ah k5 ae;refine Zxh ab ae av ar ad k1 ht ?_ h1 h2;rw[ht] at k6;simp only[okD] at k6;rw[au t (fun q hq=>?_) k6]
     ·exact k6
     ·obtain⟨_,h6,h7⟩:=ak q hq;exact ag k5 ae ht (by omega) h7
    case inr.inr.inr.inr=>
     obtain⟨t,ht⟩:=ah k5 ae;refine Zxg ab ae av a0 ar (af k3 ae) (af k4 ab) ad hs hfi (hfj j (by simp)) k1 k2 ?_ ht h1 h2;refine(Zvt k0 k1 k6).move (fun n hn=>au n (am k3 n (ai hn))) (fun n hn=>au n fun q hq=>?_) (fun n hn=>au n (an k4 n (aj hn)));obtain⟨_,h6,h7⟩:=ak q hq;exact ag k5 ae hn (by omega) h7
    ·exact Zzu ab ae hc av a0 ar ad hs hfi (hfj j (by simp)) h1 h2
    ·refine Zxf ab ae ay av a0 ar ad hs hfi (hfj j (by simp)) ⟨al,?_⟩ h1 h2;rcases hl with hl | ⟨be,bf,bg,aq⟩
     ·exact .inl hl
     ·refine .inr ⟨be,?_⟩;have a7:∀ x∈ZL oi.op,okW (evO r.1 x)=true→evO s.1 x=evO r.1 x:=by
       intro x hx aw;cases x with
       | v a=>rfl
       | f n=>rfl
       | t n=>
        simp only[evO] at aw ⊢;have hn:n∈looks oi:=by
         rw[looks];exact Kg.2 (.inl (Ky.2 ⟨.t n,hx,KC.2 rfl⟩))
        refine ZtT a1 (fun q hq=>?_) aw;rcases Kg.1 hq with hq | hq
        ·obtain⟨oq,a3,ao,_⟩:=hj q hq;simp only[XF,Kf] at ao;have h5:=ao.1.1;simp only[JL,a3];cases hd:oq.dst with
         | none=>rfl
         | some d=>
          rw[hd] at h5;simp only[QQ,K4,KU,K6] at h5 ⊢;intro e;simp at e;exact h5 (e ▸ hn)
        ·refine aa bg ab ?_ (hlt q (Kg.2 (.inr hq))) hn;rcases Kd.1 hq with rfl | hq
         ·omega
         ·have:=LI.1 hsort.2;have:=(LS.1 this.2.1).1 q hq;omega
      have a8:∀ id,Xr r.1 id (ZL oj.op)=true→Xr s.1 id (ZL oj.op)=true:=by
       intro id bh;have bi:∀ xs:List Opd,(∀ z∈xs,z∈ZL oj.op)→Xr r.1 id xs=true→Xr s.1 id xs=true:=by
        intro xs
        induction xs with
        | nil=>intro _ _;rfl
        | cons z zs ihz=>
         intro a5 hz;simp only[Xr,Kf] at hz ⊢;refine⟨?_,ihz (fun z' bj=>a5 z' (by simp[bj])) hz.2⟩;cases z with
         | v a=>exact hz.1
         | f n=>exact hz.1
         | t n=>
          simp only[evO] at hz ⊢;have hn:n∈looks oj:=by
           rw[looks];exact Kg.2 (.inl (Ky.2 ⟨.t n,a5 (.t n) (K5 ..),KC.2 rfl⟩))
          rw[ZAU a1 (fun q hq=>?_) (ZCd hz.1)]
          ·exact hz.1
          ·refine aa bf ae ?_ (hlt q hq) hn;rcases Kg.1 hq with hq | hq
           ·rcases Kd.1 hq with rfl | hq
            ·omega
            ·have:=hsort.1 q (by simp[hq]);omega
           ·have:=hsort.1 q (by simp only[Kg];exact .inr hq);omega
       exact bi _ (fun _ h=>h) bh
      cases ho:oi.op<;>rw[ho] at al aq<;>first | (cases al;done) | skip
      case store slc sz x y=>
       simp only[Zj2] at aq ⊢;have aw:okV (evO r.1 x)=true:=by
        cases ht:Wc (evO r.1 x) with
        | none=>rw[ht] at aq;simp[ZfV] at aq
        | some id=>cases hv:evO r.1 x<;>rw[hv] at ht<;>simp only[Wc] at ht<;>first | (cases ht;done) | rfl
       rw[a7 x (by rw[ho];simp[ZL]) (ZtS aw)];cases ht:Wc (evO r.1 x) with
       | none=>rw[ht] at aq;simp[ZfV] at aq
       | some id=>rw[ht] at aq;exact a8 id aq
      case append sz by_ str flat x y=>
       simp only[Zj2,Kf,Lk] at aq ⊢;obtain⟨az,ap⟩:=aq;constructor
       ·have aw:okW (evO r.1 x)=true:=by
         cases hv:evO r.1 x<;>rw[hv] at az<;>first | rfl | (cases az;done) | skip
         case tup vs=>cases vs<;>first | rfl | cases az
        rw[a7 x (by rw[ho];simp[ZL]) aw];cases hv:evO r.1 x<;>rw[hv] at az<;>first | (cases az;done) | exact a8 _ az | skip
        ·rfl
        case tup vs=>cases vs<;>first | rfl | cases az
       ·rcases ap with ap | ap
        ·exact .inl ap
        ·right
         have aw:okW (evO r.1 y)=true:=by
          unfold seenSrc at ap;split at ap
          ·rename_i k hk;rw[hk];rfl
          ·exact ZtS ap
         rw[a7 y (by rw[ho];simp[ZL]) aw];unfold seenSrc at ap ⊢;split at ap
         ·exact a8 _ ap
         ·exact ap
    ·exact Zzw ab ae av ar bc bd h1 h2
  obtain⟨t1,g1,t2,g2,g3⟩:=a4;obtain⟨r3,g4,g5⟩:=ZoC g3.symm h3;refine⟨t1,g1,r3,?_,g5.symm.trans h4⟩;simp only[Kv,runL,g2,Zg];exact g4
def rem (n:Nat) (listed:Array Bool):List Nat:=(List.range n).filter fun i=>!listed.getD i true
theorem Zh2 {n:Nat} {aa:Array Bool} {i:Nat}:i∈rem n aa↔i<n∧aa.getD i true=false:=by
 simp[rem]
theorem ZoK (n:Nat) (aa:Array Bool):(rem n aa).Pairwise (· < ·):=List.Pairwise.filter _ List.pairwise_lt_range
theorem ZCg {n:Nat} {aa:Array Bool} (ad:aa.size=n) (i:Nat):rem n (aa.setIfInBounds i true)=(rem n aa).filter fun j=>j != i:=by
 simp only[rem,List.filter_filter];refine List.filter_congr fun j hj=>?_;have ae:j<n:=Lj.1 hj;by_cases ab:i=j
 ·subst ab;simp[ad,ae]
 ·simp[Array.getElem?_setIfInBounds_ne ab,Ne.symm ab]
def ZsD (nx:Nat) (listed:Array Bool) (id:Nat):Prop:=id<nx∨∃ k,listed.getD k false=true∧nx+64*k≤id∧id<nx+64*k+64
theorem Jm {l:Array Bool} {k:Nat} (h:l.getD k false=true):k<l.size∧l.getD k true=true:=by
 rcases KZ k l.size with h1 | h1
 ·refine⟨h1,?_⟩;simp[h1] at h ⊢;exact h
 ·simp[Array.getElem?_eq_none h1] at h
theorem ZoL {nx i:Nat} {aa:Array Bool} (h:aa.getD i true=false):Xp (ZsD nx aa) (nx+64*i):=by
 intro id h1 h2 hu;rcases hu with hu | ⟨k,hk,h3,h4⟩
 ·omega
 ·have ab:k≠i:=fun e=>by subst e;rw[(Jm hk).2] at h;cases h
  rcases LD ab with h5 | h5<;>omega
theorem ZoM {nx i:Nat} {aa:Array Bool} (hi:i<aa.size):∀ id,Zad (ZsD nx aa) (nx+64*i) id→ZsD nx (aa.setIfInBounds i true) id:=by
 rintro id ((h | ⟨k,hk,h1⟩) | h)
 ·exact .inl h
 ·exact .inr ⟨k,getD_set_true hk,h1⟩
 ·exact .inr ⟨i,by simp[hi],h.1,h.2⟩
end
end Go.Abs
