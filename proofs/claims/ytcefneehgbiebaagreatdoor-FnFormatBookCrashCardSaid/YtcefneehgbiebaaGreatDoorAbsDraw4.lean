/- Own text. -/
import Derived.Test.YtcefneehgbiebaaGreatDoorAbsDrawD
set_option linter.unusedVariables false
set_option linter.unusedSimpArgs false
namespace Go.Abs
open Go
section
variable {P:Program} {nt:Nat}
theorem Zrd {α β:Type} {f:α→Option β}:∀ {l:List α} {r:List β},QM f l=some r→∀ (i:Nat) (x:α),l[i]?=some x→∃ y,r[i]?=some y∧f x=some y
 | [],r,h,i,x,hx=>by simp at hx
 | a :: l,r,h,i,x,hx=>by
  simp only[QM] at h;obtain⟨y,h1,h⟩:=Za h;obtain⟨ys,h2,h⟩:=Za h;cases h;cases i with
  | zero=>simp at hx;subst hx;exact⟨y,by simp,h1⟩
  | succ i=>simp at hx;obtain⟨z,h3,h4⟩:=Zrd h2 i x hx;exact⟨z,by simpa using h3,h4⟩
theorem Zei {α β:Type} {f:α→Option β}:∀ {l:List α} {r:List β},QM f l=some r→r.length=l.length
 | [],r,h=>by simp only[QM] at h;cases h;rfl
 | a :: l,r,h=>by
  simp only[QM] at h;obtain⟨y,h1,h⟩:=Za h;obtain⟨ys,h2,h⟩:=Za h;cases h;simp[Zei h2]
theorem ZxE {C:Orc} {M:Zp} (hC:Qz P C) {ops:Array Oper} {os:List CO} (ad:QM (Zpa P nt ops.toList) ops.toList=some os) {nx i:Nat} {s s' : Sl×Hp} {U:Nat→Prop} (hs:Zk6 nt s U) (hf:Xp U (nx+64*i))
  (h:ZJ C M os nx i s=some s'):Zk6 nt s' (ZaV U (nx+64*i)):=by
 obtain⟨F,A,I,Γ,a,w,aa⟩:=hs;unfold ZJ at h;obtain⟨co,ae,h⟩:=Za h;have ag:i<ops.toList.length:=by rw[← Zei ad];exact(Kb.1 ae).1
 obtain⟨am,h1,h2⟩:=Zrd ad i ops.toList[i] (Ks ag);rw[ae] at h1;cases h1;obtain⟨hg,ah,ab,af⟩:=ZlS h2;unfold ZR at h;obtain⟨b,hw,h⟩:=Za h;cases b with
 | true=>
  simp only[Km] at h;obtain⟨ce,ai,aj,rfl⟩:=Q8 h;have ak:=Zxt hC aa ah hf ab aj (Zb2 ai) (fun a' w'=>∃ F A I Γ a w,Sim nt F A I Γ (ZaV U (nx+64*i)) (ce.on co.dst s.1 s.2).1 (ce.on co.dst s.1 s.2).2 a w) (fun _ _ _=>False) fun u w' hp=>by
   obtain⟨I1,Γ1,b1,b2,b3,b4,b5⟩:=hp;rw[← af] at b5;exact⟨F,A,I1,Γ1,_,_,b5⟩
  obtain⟨_,_,al⟩:=Oper.wp_ex ak;exact al
 | false=>
  simp only[Ka,Kq] at h;cases h;obtain⟨I1,Γ1,b1,b2,b3,b4,b5⟩:=aa.pure (U':=ZaV U (nx+64*i)) (v:=.tup []) (u:=undef) (dst:=co.dst) (fun id hu=>.inl hu) Zoq (by rw[af];exact ab);exact⟨F,A,I1,Γ1,_,_,b5⟩
theorem ZtA {U:Nat→Prop} {nx i j:Nat} (aa:i≠j) (h:Xp U (nx+64*i)):Xp (ZaV U (nx+64*j)) (nx+64*i):=by
 intro id h1 h2 hu;rcases hu with hu | hu
 ·exact h id h1 h2 hu
 ·rcases LC aa with h3 | h3<;>omega
theorem ZCi {id:Nat} {v:AV} (h:ZdW id v=true):okV v=true:=by
 cases v with
 | tup vs=>cases vs with
  | nil=>rfl
  | cons x r=>cases h
 | _=>first | rfl | cases h
def okW:AV→Bool
 | .sub _ _=>true
 | v=>okV v
theorem ZuH {v:AV} (h:okV v=true):okW v=true:=by cases v<;>first | exact h | rfl
theorem ZBd {g:List Nat} {v:AV} (h:okW (kill g v)=true):kill g v=v:=by
 cases v with
 | sub a b=>
  simp only[kill,ZX,Qg] at h ⊢;split at h
  ·cases h
  ·rename_i hn;rw[Kd hn]
 | _=>
  refine ZdC ?_;revert h;generalize hk:kill g _=u;cases u<;>first | exact fun h=>h | skip
  intro _;simp only[kill,ZX,Qg] at hk
  first | (cases hk;done) | (split at hk<;>cases hk)
theorem ZCj {C:Orc} {M:Zp} {os:List CO} {nx q n:Nat} {s r:Sl×Hp} (h:ZJ C M os nx q s=some r) (hd:QV (J0 os q) [n]=true) (hk:okW (gs r.1 n)=true):gs s.1 n=gs r.1 n:=by
 unfold ZJ at h;obtain⟨o,ho,h⟩:=Za h;have aa:o.dst≠some n:=by
  intro e;simp[J0,ho,e,QV] at hd
 unfold ZR at h;obtain⟨b,_,h⟩:=Za h;cases b with
 | true=>
  simp only[Km] at h;obtain⟨ce,_,_,rfl⟩:=Q8 h;have e1:gs (ce.on o.dst s.1 s.2).1 n=kill ce.gone (gs s.1 n):=by
   show gs (Zt (Xi ce.gone s.1) o.dst ce.eff.val) n=_;rw[QB,Kd aa,QX]
  rw[e1] at hk ⊢;exact(ZBd hk).symm
 | false=>
  simp only[Ka,Kq] at h;cases h;show gs s.1 n=gs (Zt s.1 o.dst (.tup [])) n;rw[QB,Kd aa]
theorem ZuI {C:Orc} {M:Zp} {os:List CO} {nx n:Nat}:∀ {l:List Nat} {s r:Sl×Hp},runL C M os nx l s=some r→(∀ q∈l,QV (J0 os q) [n]=true)→okW (gs r.1 n)=true→gs s.1 n=gs r.1 n
 | [],s,r,h,_,_=>by simp only[runL] at h;cases h;rfl
 | i :: l,s,r,h,hd,hk=>by
  simp only[runL] at h;obtain⟨s1,h1,h⟩:=Za h;have h2:=ZuI h (fun q hq=>hd q (by simp[hq])) hk;rw[← h2] at hk ⊢;exact ZCj h1 (hd i (by simp)) hk
theorem ZBe {C:Orc} {M:Zp} {os:List CO} {nx n:Nat} {l:List Nat} {s r:Sl×Hp} (h:runL C M os nx l s=some r) (hd:∀ q∈l,QV (J0 os q) [n]=true) (hk:okV (gs r.1 n)=true):gs s.1 n=gs r.1 n:=ZuI h hd (ZuH hk)
theorem ZxF {C:Orc} {M:Zp} {sl:Sl} {hp:Hp} {base:Nat} {c:COp} {ce:Zd} (hc:Zx7 c=true) (h:vop C M sl hp base c=some ce):ZdY (vop C M sl hp base c)=some ce:=by
 rw[h];have aa:ce.gone=[]∧ce.eff.sets=[]∧ce.eff.dels=[]∧ce.eff.frz=[]:=by
  have o1:∀ {v:AV},QR v=some ce→ce.gone=[]∧ce.eff.sets=[]∧ce.eff.dels=[]∧ce.eff.frz=[]:=fun h=>by cases h;exact⟨rfl,rfl,rfl,rfl⟩
  have o2:∀ {v:Option AV},Wa v=some ce→ce.gone=[]∧ce.eff.sets=[]∧ce.eff.dels=[]∧ce.eff.frz=[]:=fun h=>by obtain⟨v,_,h⟩:=Za h;exact o1 h
  cases c<;>simp only[Zx7,Ka] at hc<;>simp only[vop] at h
  case stuck=>cases h
  case move x=>exact o1 h
  case assign s x=>
   unfold Zel at h;split at h
   ·obtain⟨s,_,h⟩:=Za h;cases h;exact⟨rfl,rfl,rfl,rfl⟩
   ·exact o1 h
  case pick c a b=>
   unfold ZhU at h;split at h
   ·split at h<;>exact o1 h
   ·cases h
  case alloc slc cs=>
   unfold ZgW Zoc at h;split at h
   ·split at h<;>first | (cases h;done) | (cases h;exact⟨rfl,rfl,rfl,rfl⟩)
   ·split at h<;>(cases h;exact⟨rfl,rfl,rfl,rfl⟩)
  case box x=>
   unfold ZxT at h;split at h
   ·cases h;exact⟨rfl,rfl,rfl,rfl⟩
   ·cases h
  case build zs ps=>obtain⟨cs,_,h⟩:=Za h;exact o1 h
  case load g s a=>exact o2 h
  case nilCheck x=>unfold ZaR at h;split at h<;>first | exact o1 h | cases h
  case bin op eq x y=>
   unfold Zm1 at h;split at h
   ·split at h
    ·exact o2 h
    ·cases h
   ·exact o2 h
  case un op x=>exact o2 h
  case eqA neg n x y=>
   unfold ZsT at h;split at h
   ·obtain⟨r,_,h⟩:=Za h;exact o1 h
   ·cases h
  case convI k x=>unfold Go.Abs.convI at h;split at h<;>first | exact o1 h | cases h
  case convS x=>unfold Go.Abs.convS at h;split at h<;>first | exact o1 h | cases h
  case fn f cs=>exact o2 h
  case make s b z l c=>
   obtain⟨l,_,h⟩:=Za h;obtain⟨c,_,h⟩:=Za h;unfold Zrz at h;split at h
   ·cases h;exact⟨rfl,rfl,rfl,rfl⟩
   ·cases h
  case slice s x lo hi=>exact o2 h
  case sliceS x lo hi=>exact o2 h
  case slice0 x hi mx=>exact o2 h
  case slice3 s x lo hi mx=>exact o2 h
  case shift off x=>unfold Wb at h;split at h<;>first | exact o1 h | cases h
  case part g s off x=>exact o2 h
  case iaS s x i=>
   obtain⟨n,_,h⟩:=Za h;unfold Zjj at h;split at h
   ·exact o2 h
   ·cases h
  case iaA len s x i=>
   obtain⟨n,_,h⟩:=Za h;unfold Zo8 at h;split at h
   ·unfold Wb at h;split at h<;>first | exact o1 h | cases h
   ·cases h
  case ixS x i=>
   obtain⟨n,_,h⟩:=Za h;unfold Zwx at h;split at h
   ·unfold ZtT at h;split at h
    ·obtain⟨b,_,h⟩:=Za h;exact o1 h
    ·cases h
   ·cases h
  case ixA g s len x i=>
   obtain⟨n,_,h⟩:=Za h;unfold ZxV at h;split at h
   ·exact o2 h
   ·cases h
  case nth i x=>unfold ZuU at h;split at h<;>first | exact o2 h | cases h
  case len x=>obtain⟨n,_,h⟩:=Za h;exact o1 h
  case lenS x=>obtain⟨n,_,h⟩:=Za h;exact o1 h
  case min x y=>unfold Zm3 at h;split at h<;>first | (split at h<;>first | exact o1 h | cases h) | cases h
  case max x y=>unfold Zm4 at h;split at h<;>first | (split at h<;>first | exact o1 h | cases h) | cases h
 simp only[ZdY,Zg,aa.1,aa.2.1,aa.2.2.1,aa.2.2.2,Zg6]
theorem ZzM {C:Orc} {M:Zp} {nx i:Nat} {o:CO} (hc:Zx7 o.op=true) (s:Sl×Hp):ZR C M nx i true o s=ZR C M nx i false o s:=by
 unfold ZR;have:WY C M nx i true o.op s.1 s.2=WY C M nx i false o.op s.1 s.2:=by
  unfold WY;simp only[Km,Ka,Kq];cases h:vop C M s.1 s.2 (nx+64*i) o.op with
  | none=>rfl
  | some ce=>rw[← h,ZxF hc h,h]
 rw[this]
theorem vop_read {C:Orc} {M:Zp} {sl:Sl} {hp hp' : Hp} {base:Nat} {c:COp} (hc:ZaW c=true) (h:∀ x∈ZM c,∀ k∈ZC (evO sl x),lkp hp k=lkp hp' k):vop C M sl hp base c=vop C M sl hp' base c:=by
 have len:∀ v:AV,(∀ k∈ZC v,lkp hp k=lkp hp' k)→ZeT hp v=ZeT hp' v:=fun v hv=>by
  cases v<;>simp only[ZeT]
  case d x=>cases x<;>rfl
  case own id=>rw[hv id (by simp[ZC,ZD,Zn])]
 cases c<;>simp only[ZaW,Ka] at hc<;>simp only[ZM] at h<;>simp only[vop]
 case load g s a=>
  have:=h a (by simp);cases hv:evO sl a<;>rw[hv] at this<;>simp only[Jp]
  case ptr id off=>rw[this id (by simp[ZC,ZD,Zn])]
  case prow id sz i off=>rw[this id (by simp[ZC,ZD,Zn])]
 case slice s x lo hi=>
  have:=h x (by simp);cases hv:evO sl x<;>rw[hv] at this<;>simp only[WL]
  case d x=>cases x<;>rfl
  case own id=>rw[this id (by simp[ZC,ZD,Zn])]
  case ownv id off n=>rw[this id (by simp[ZC,ZD,Zn])]
 case slice0 x hi mx=>
  unfold slice0;rw[len _ (h x (by simp))]
 case iaS s x i=>
  congr 1
  funext n
  simp only[Zjj];have:=h x (by simp);cases hv:evO sl x<;>rw[hv] at this<;>simp only[QF]
  case d x=>cases x<;>rfl
  case own id=>rw[this id (by simp[ZC,ZD,Zn])]
  case ownv id off n=>rw[this id (by simp[ZC,ZD,Zn])]
 case len x=>rw[len _ (h x (by simp))]
theorem ZtB {A B:Hp} (hd:∀ k x y,(k,x)∈A→(k,y)∈B→False) (hp:Hp) (id:Nat):lkp (Zh (Zh hp A) B) id=lkp (Zh (Zh hp B) A) id:=by
 have aa:∀ (l:Hp) (hp hp' : Hp),lkp hp id=lkp hp' id→lkp (Zh hp l) id=lkp (Zh hp' l) id:=by
  intro l
  induction l with
  | nil=>intro hp hp' h;exact h
  | cons q r ih=>
   intro hp hp' h;obtain⟨k,x⟩:=q;simp only[Zh];exact ih _ _ (by rw[Qo,Qo,h])
 by_cases h1:∃ o,(id,o)∈A
 ·have h2:∀ o,(id,o)∉B:=fun o ho=>by
   obtain⟨o',ab⟩:=h1;exact hd id o' o ab ho
  rw[Zy B _ id h2];exact aa A _ _ (Zy B hp id h2).symm
 ·have h2:∀ o,(id,o)∉A:=fun o ho=>h1 ⟨o,ho⟩;rw[Zy A _ id h2];exact aa B _ _ (Zy A hp id h2)
theorem Zwb {hp:Hp} {v:AV} {q:D×Bool×List Nat} (h:Zcw hp v=some q):∀ i∈q.2.2,i∈Zn v:=by
 intro i hi;cases v<;>simp only[Zcw] at h<;>first | (cases h;simp at hi;done) | (cases h;done) | skip
 obtain⟨p,_,h⟩:=Za h;cases h;simpa [Zn] using hi
theorem ZoV {hp:Hp}:∀ {vs:List AV} {q:List D×Bool×List Nat},WP hp vs=some q→∀ i∈q.2.2,i∈vs.flatMap Zn
 | [],q,h,i,hi=>by simp only[WP] at h;cases h;simp at hi
 | v :: vs,q,h,i,hi=>by
  simp only[WP] at h;obtain⟨q1,h1,h⟩:=Za h;obtain⟨q2,h2,h⟩:=Za h;split at h
  ·cases h;rcases Kg.1 hi with hi | hi
   ·exact Ky.2 ⟨v,by simp,Zwb h1 i hi⟩
   ·obtain⟨c,hc,aa⟩:=Ky.1 (ZoV h2 i hi);exact Ky.2 ⟨c,by simp[hc],aa⟩
  ·cases h
theorem ZzN {hp:Hp} {slc:List (Option Nat)} {s base:Nat} {vs:List AV} {x:AV} {e:Eff} (h:Zbm hp slc s base vs x=some e):∃ id o,Wo x=some id∧e.val=.junk∧e.sets=[(id,o)]∧e.dels=[]∧∀ i∈e.frz,i∈vs.flatMap Zn:=by
 cases x<;>simp only[Zbm] at h<;>first | cases h | skip
 case ptr id off=>
  unfold ZfK at h;split at h
  ·split at h
   ·split at h<;>(cases h;exact⟨id,_,rfl,rfl,rfl,rfl,fun i hi=>by simp at hi⟩)
   ·cases h
  ·cases h
 case prow id sz i off=>
  unfold ZdI at h;split at h
  ·split at h
   ·obtain⟨x,_,h⟩:=Za h;obtain⟨q,hq,h⟩:=Za h;unfold ZfL at h;split at h
    ·cases h;exact⟨id,_,rfl,rfl,rfl,rfl,ZoV hq⟩
    ·cases h
   ·cases h
  ·cases h
def FzEq (o o' : Option Zm):Prop:=∃ b:Bool,o'=o.map fun x=>if b then V9 x else x
theorem FzEq.seen {o o' : Option Zm} (h:FzEq o o'):ZdD [] o o':=by
 obtain⟨b,rfl⟩:=h;have hk:∀ x:Zm,X4 [] x=x:=fun x=>by
  cases x with
  | box cs=>simp only[X4];congr 1;rw[KS (g:=id) (fun a _=>ZfB a),Lu]
  | row _ _ _ _=>rfl
  | deep _ _ _ l=>cases l<;>simp[X4,Zi1]
 have:=Zwh (g:=[]) (b:=b) o;have e:(o.map (X4 []))=o:=by cases o<;>simp[hk]
 rw[e] at this;exact this
theorem vop_fz {C:Orc} {M:Zp} {sl:Sl} {hp hp' : Hp} {base:Nat} {c:COp} (hc:ZaW c=true) (h:∀ x∈ZM c,∀ k∈ZC (evO sl x),FzEq (lkp hp k) (lkp hp' k)):vop C M sl hp' base c=vop C M sl hp base c:=by
 have hs:∀ x∈ZM c,ZmT [] hp hp' (evO sl x):=fun x hx k hk=>(h x hx k hk).seen;cases c<;>simp only[ZaW,Ka] at hc<;>simp only[ZM] at h hs<;>simp only[vop]
 case load g s a=>
  have h1:=h a (by simp);have h2:=hs a (by simp);cases hv:evO sl a<;>rw[hv] at h1 h2<;>simp only[Jp]
  case ptr id off=>
   obtain⟨b,e⟩:=h1 id (by simp[ZC,ZD,Zn]);rw[e];cases lkp hp id with
   | none=>rfl
   | some o=>cases o<;>cases b<;>rfl
  case prow id sz i off=>
   obtain⟨b,e⟩:=h1 id (by simp[ZC,ZD,Zn]);rw[e];cases lkp hp id with
   | none=>rfl
   | some o=>cases o<;>cases b<;>rfl
 case slice s x lo hi=>rw[Zi9 (hs x (by simp))]
 case slice0 x hi mx=>unfold slice0;rw[ZfF (hs x (by simp))]
 case iaS s x i=>
  congr 1
  funext n
  simp only[Zjj];rw[Zch (hs x (by simp))]
 case len x=>rw[ZfF (hs x (by simp))]
def ZmP (sl:Sl) (a:COp):COp→Bool
 | .store _ _ x _=>Zg5 sl a (Wo (evO sl x))
 | .append _ _ _ flat x y=>JD sl a (evO sl x)&&(flat || seenSrc sl a (evO sl y))
 | _=>false
def LooseS (s:Sl) (a b:COp):Prop:=ZrQ b=true∧(Um a=true∨(ZaW a=true∧ZmP s a b=true))
theorem Zi7 {sl:Sl} {id:Nat}:∀ {xs:List Opd},Xr sl id xs=true→∀ x∈xs,ZdW id (evO sl x)=true
 | [],_,x,hx=>by simp at hx
 | y :: ys,h,x,hx=>by
  simp only[Xr,Kf] at h;rcases Ke.1 hx with rfl | hx
  ·exact h.1
  ·exact Zi7 h.2 x hx
theorem Zre {id:Nat} {v:AV} (h:ZdW id v=true):id∉ZC v:=by
 cases v with
 | tup vs=>cases vs with
  | nil=>simp[ZC]
  | cons x r=>cases h
 | _=>simp[ZdW,ZC,ZD,Zn] at h ⊢ <;> exact fun e=>h e.symm
theorem ZxG {hp:Hp} {sz by_ base:Nat} {str flat:Bool} {x y:AV} {e:Eff} (h:UK hp sz by_ str flat base x y=some e):e.sets=[]∧e.frz=[]∧((x=.nil∧e.dels=[])∨∃ id,e.dels=[id]∧(x=.own id∨∃ o n,x=.ownv id o n)):=by
 unfold UK at h;obtain⟨q,_,h⟩:=Za h;split at h
 ·cases x<;>simp only[Zjg] at h<;>first | (cases h;done) | skip
  ·split at h
   ·cases h;exact⟨rfl,rfl,.inl ⟨rfl,rfl⟩⟩
   ·cases h
  ·split at h
   ·cases h
   ·unfold Zob at h;split at h
    ·split at h
     ·cases h;exact⟨rfl,rfl,.inr ⟨_,rfl,.inl rfl⟩⟩
     ·cases h
    ·cases h
  ·split at h
   ·cases h
   ·split at h
    ·unfold ZjQ at h;split at h
     ·split at h
      ·cases h;exact⟨rfl,rfl,.inr ⟨_,rfl,.inr ⟨_,_,rfl⟩⟩⟩
      ·cases h
     ·cases h
    ·unfold ZjP at h;split at h
     ·split at h
      ·cases h;exact⟨rfl,rfl,.inr ⟨_,rfl,.inr ⟨_,_,rfl⟩⟩⟩
      ·cases h
     ·cases h
 ·cases h
theorem Zrf {hp:Hp} {x:AV} {k:Nat} (h:k∈YJ hp x):x=.own k:=by
 unfold YJ at h;split at h
 ·split at h
  ·simp at h;subst h;rfl
  ·simp at h
 ·simp at h
theorem ZBf {hp:Hp} {sz by_ base:Nat} {str flat:Bool} {x y:AV} {e:Eff} (h:ZfO hp sz by_ str flat base y x=some e):e.frz=[] ∧
  ((e.sets=[]∧∀ k∈e.dels,(x=.own k∨∃ o n,x=.ownv k o n)∨(flat=false∧y=.own k))∨∃ id nm o,x=.sub id nm∧e.dels=[]∧e.sets=[(id,o)]):=by
 unfold ZfO at h;split at h
 ·split at h
  ·cases h
  ·obtain⟨q,_,h⟩:=Za h;split at h
   ·cases h
   ·unfold ZlH at h;split at h
    ·obtain⟨fl,_,h⟩:=Za h;split at h
     ·cases h;exact⟨rfl,.inr ⟨_,_,_,rfl,rfl,rfl⟩⟩
     ·cases h
    ·cases h
 ·have plain:∀ {hp' : Hp} {e:Eff},UK hp' sz by_ str flat base x y=some e→e.sets=[]∧e.frz=[]∧∀ k∈e.dels,x=.own k∨∃ o n,x=.ownv k o n:=by
   intro hp' e h;obtain⟨g1,g2,g3⟩:=ZxG h;refine⟨g1,g2,fun k hk=>?_⟩;rcases g3 with ⟨_,g3⟩ | ⟨id,g3,g4⟩
   ·rw[g3] at hk;simp at hk
   ·rw[g3] at hk;simp at hk;subst hk;exact g4
  generalize hm:YJ hp x++YJ hp y=ms at h;cases ms with
  | nil=>
   simp only[Wc] at h;obtain⟨g1,g2,g3⟩:=plain h;exact⟨g2,.inl ⟨g1,fun k hk=>.inl (g3 k hk)⟩⟩
  | cons i r=>
   simp only[Wc] at h;split at h
   ·cases h
   ·rename_i aa;obtain⟨e0,h1,h⟩:=Za h;cases h;obtain⟨g1,g2,g3⟩:=plain h1;refine⟨g2,.inl ⟨g1,fun k hk=>?_⟩⟩;rcases Kg.1 hk with hk | hk
    ·exact .inl (g3 k hk)
    ·rw[← hm] at hk;rcases Kg.1 hk with hk | hk
     ·exact .inl (.inl (Zrf hk))
     ·exact .inr ⟨by simpa using aa,Zrf hk⟩
theorem Zrg {ds:List Nat} {l:Hp} {k:Nat} (h:k∈ds):lkp (Qu l ds) k=none:=by
 cases hl:lkp (Qu l ds) k with
 | none=>rfl
 | some o=>exact absurd h (Zbq ds l k o hl).2
theorem ZCk {C:Orc} {M:Zp} {sl:Sl} {hp:Hp} {base:Nat} {c:COp} {ce:Zd} (hc:ZrQ c=true) (h:vop C M sl hp base c=some ce) :
  ce.gone=[]∧(∀ k,k∈ce.eff.dels∨(∃ o,(k,o)∈ce.eff.sets)→(∃ x∈ZM c,k∈ZC (evO sl x))∧∀ a,ZmP sl a c=true→Xr sl k (ZM a)=true)∧∀ k∈ce.eff.frz,∃ x∈ZM c,k∈ZC (evO sl x):=by
 cases c<;>first | (cases hc;done) | skip
 case store slc sz x y=>
  simp only[vop,ZhZ] at h;obtain⟨e,h7,h⟩:=Za h;cases h;obtain⟨id,o,ht,g1,g2,g3,g4⟩:=ZzN h7;refine⟨rfl,fun k hk=>?_,fun k hk=>⟨y,by simp[ZM],Zv6 (U:=fun k=>k∈ZC (evO sl y)) (fun _ h=>h) k (g4 k hk)⟩⟩;have ab:k=id:=by
   rcases hk with hk | ⟨o',hk⟩
   ·simp only[g3,Ku] at hk
   ·simp only[g2,KA,Prod.mk.injEq] at hk;exact hk.1
  subst ab;refine⟨⟨x,by simp[ZM],?_⟩,fun a ha=>?_⟩
  ·cases hv:evO sl x<;>rw[hv] at ht<;>simp only[Wo] at ht<;>cases ht<;>simp[ZC,ZD,Zn]
  ·simp only[ZmP,ht,Zg5] at ha;exact ha
 case append sz by_ str flat x y=>
  simp only[vop,ZuV,ZhZ] at h;obtain⟨e,h7,h⟩:=Za h;cases h;obtain⟨g2,g3⟩:=ZBf h7;refine⟨rfl,fun k hk=>?_,fun k hk=>by simp only[g2,Ku] at hk⟩;rcases g3 with ⟨g1,g3⟩ | ⟨id,nm,o,g4,g3,g1⟩
  ·have aa:k∈e.dels:=by
    rcases hk with hk | ⟨o',hk⟩
    ·exact hk
    ·simp only[g1,Ku] at hk
   rcases g3 k aa with g4 | ⟨g4,g5⟩
   ·refine⟨⟨x,by simp[ZM],?_⟩,fun a ha=>?_⟩
    ·rcases g4 with g4 | ⟨o,n,g4⟩<;>rw[g4]<;>simp[ZC,ZD,Zn]
    ·simp only[ZmP,Kf] at ha;rcases g4 with g4 | ⟨o,n,g4⟩<;>rw[g4] at ha<;>exact ha.1
   ·refine⟨⟨y,by simp[ZM],by rw[g5];simp[ZC,ZD,Zn]⟩,fun a ha=>?_⟩;simp only[ZmP,Kf,g4,Bool.false_or] at ha;rw[g5] at ha;exact ha.2
  ·have aa:k=id:=by
    rcases hk with hk | ⟨o',hk⟩
    ·simp only[g3,Ku] at hk
    ·simp only[g1,KA,Prod.mk.injEq] at hk;exact hk.1
   subst aa;refine⟨⟨x,by simp[ZM],by rw[g4];simp[ZC,ZD,Zn]⟩,fun a ha=>?_⟩;simp only[ZmP,Kf] at ha;rw[g4] at ha;exact ha.1
theorem ZxH {C:Orc} {M:Zp} {os:List CO} {nx i j:Nat} {oi oj:CO} (ae:os[i]?=some oi) (ak:os[j]?=some oj) (ar:Z1 os i=true) (am:Z1 os j=false) (a3:i≠j) (au:XM oj oi=true)
  (an:∀ (k:Nat) (o:CO),os[k]?=some o→∀ x∈ZM o.op,Vm x=true) {s s1 s2:Sl×Hp} {U:Nat→Prop} (hs:Zk6 nt s U) (a4:Xp U (nx+64*i)) (av:Xp U (nx+64*j)) (hl:LooseS s.1 oj.op oi.op)
  (h1:ZJ C M os nx j s=some s1) (h2:ZJ C M os nx i s1=some s2):∃ t1,ZJ C M os nx i s=some t1∧∃ t2,ZJ C M os nx j t1=some t2∧X5 t2 s2:=by
 obtain⟨F,A,I,Γ,a,w,ag⟩:=hs;simp only[XM,Kf] at au;obtain⟨⟨aw,ax⟩,al⟩:=au;have good:∀ (k:Nat) (o:CO),os[k]?=some o→∀ x∈ZM o.op,ZmN U (evO s.1 x):=by
  intro k o ho x hx;cases x with
  | t n=>exact ag.good n
  | v y=>exact ZaM (an k o ho _ hx)
  | f n=>exact⟨fun id a5=>by simp[evO,ZC,ZD] at a5,fun f a6 h c hc=>by cases h;simp at hc⟩
 simp only[ZJ,ak,Zg,am] at h1;simp only[ZJ,ae,Zg,ar] at h2;obtain⟨vj,aj,rfl,ao,ay⟩:=Zlz h1;obtain⟨a7,hl⟩:=hl;unfold ZR at h2;obtain⟨b,hw,h2⟩:=Za h2;have az : Z7 s.1 oi.guard=some b:=by rw[← hw];exact(QE aw).symm
 cases b with
 | false=>
  simp only[Ka,Kq] at h2;cases h2;refine⟨(Zt s.1 oi.dst (.tup []),s.2),by simp only[ZJ,ae,Zg,ZR,az,Ka,Kq],?_⟩;have e2:=ay (Zt s.1 oi.dst (.tup []),s.2) (QE al) (Xk C M s.2 (nx+64*j) (Uj (o:=oj) al));exact⟨(Zt (Zt s.1 oi.dst (.tup [])) oj.dst vj,Zh s.2 aj),by simp only[ZJ,ak,Zg,am];exact e2,fun t=>(Jm ax vj (.tup []) t).symm,fun id=>rfl⟩
 | true=>
  simp only[Km] at h2;obtain⟨ce,h3,h4,rfl⟩:=Q8 h2;have a0 : vop C M s.1 s.2 (nx+64*i) oi.op=some ce:=by
   have h5:=Zb2 h3;rw[← h5,Xk C M (Zh s.2 aj) (nx+64*i) (Uj (o:=oi) aw)];exact Zbj (ag.agree (Uk av ao s.2)) C M _ (good i oi ae)
  have aa:=UN h4;obtain⟨k1,k2,k3⟩:=ZCk a7 a0;obtain⟨e,gn⟩:=ce;simp only at k1 k2 k3;subst k1;have ap:∀ k∈e.frz,U k:=fun k hk=>by
   obtain⟨x,hx,hk⟩:=k3 k hk;exact(good i oi ae x hx).1 k hk
  have ah:∀ k,k∈e.dels∨(∃ o,(k,o)∈e.sets)→U k:=fun k hk=>by
   obtain⟨⟨x,hx,hk⟩,_⟩:=k2 k hk;exact(good i oi ae x hx).1 k hk
  have ai:∀ s:Sl×Hp,Zd.on { eff:=e,gone:=[] } oi.dst s.1 s.2=(Zt s.1 oi.dst e.val,Zh (Zh (Qu (Ql e.frz s.2) e.dels) e.sets) e.adds):=by
   intro s;rfl
  refine⟨Zd.on { eff:=e,gone:=[] } oi.dst s.1 s.2,?_,?_⟩
  ·simp only[ZJ,ae,Zg,ZR,az,Km,Y3,ar,WY];rw[a0,Zg,Kh h4]
  ·have ab:∀ k,U k→¬(k∈e.dels∨∃ o,(k,o)∈e.sets)→FzEq (lkp s.2 k) (lkp (Zh (Zh (Qu (Ql e.frz s.2) e.dels) e.sets) e.adds) k):=by
    intro k hk aq;rw[not_or] at aq;rw[← Uk a4 aa _ k hk,Zy _ _ k (fun o ho=>aq.2 ⟨o,ho⟩),WF _ _ k aq.1,Qe];exact⟨_,rfl⟩
   have e2:ZR C M nx j false oj (Zd.on { eff:=e,gone:=[] } oi.dst s.1 s.2)=some (Zt (Zd.on { eff:=e,gone:=[] } oi.dst s.1 s.2).1 oj.dst vj,Zh (Zd.on { eff:=e,gone:=[] } oi.dst s.1 s.2).2 aj):=by
    rw[ai];refine ay (Zt s.1 oi.dst e.val,Zh (Zh (Qu (Ql e.frz s.2) e.dels) e.sets) e.adds) (QE al) ?_;rw[Xk C M _ (nx+64*j) (Uj (o:=oj) al)];rcases hl with hl | ⟨a8,a9⟩
    ·exact ZmU hl
    ·refine vop_fz a8 fun z hz k hk=>?_;refine ab k ((good j oj ak z hz).1 k hk) fun hp=>?_;exact Zre (Zi7 ((k2 k hp).2 _ a9) z hz) hk
   refine⟨_,by simp only[ZJ,ak,Zg,am];exact e2,fun t=>?_,fun k=>?_⟩
   ·rw[ai,ai (Zt s.1 oj.dst vj,Zh s.2 aj)];exact(Jm ax vj e.val t).symm
   ·rw[ai,ai (Zt s.1 oj.dst vj,Zh s.2 aj)];show lkp (Zh (Zh (Zh (Qu (Ql e.frz s.2) e.dels) e.sets) e.adds) aj) k=lkp (Zh (Zh (Qu (Ql e.frz (Zh s.2 aj)) e.dels) e.sets) e.adds) k;have a1:∀ (B:Hp) (hp hp' : Hp),(∀ k,lkp hp k=lkp hp' k)→∀ k,lkp (Zh hp B) k=lkp (Zh hp' B) k:=fun B hp hp' h=>ZcL B h;have ad:∀ k,U k→∀ o',(k,o')∉aj:=fun k hk o' af=>by
     have:=ao k o' af;exact av k this.1 this.2 hk
    rw[ZtB (A:=e.adds) (B:=aj) (fun k x y hx hy=>by
     have:=aa k x hx;have:=ao k y hy;rcases LC a3 with h | h<;>omega)]
    refine a1 e.adds _ _ (fun k=>?_) k;rw[ZtB (A:=e.sets) (B:=aj) (fun k x y hx hy=>ad k (ah k (.inr ⟨x,hx⟩)) y hy) (Qu (Ql e.frz s.2) e.dels) k];refine a1 e.sets _ _ (fun k=>?_) k;by_cases hd:k∈e.dels
    ·rw[Zy aj _ k (ad k (ah k (.inl hd))),Zrg hd,Zrg hd]
    ·rw[WF _ _ k hd];rw[Qe];by_cases hk:∃ o',(k,o')∈aj
     ·obtain⟨o',af⟩:=hk;rw[ZdF (hp':=s.2) ⟨o',af⟩];have a':k∉e.frz:=fun hf=>ad k (ap k hf) o' af;cases lkp (Zh s.2 aj) k<;>simp[a']
     ·have a2 : ∀ o',(k,o')∉aj:=fun o' af=>hk ⟨o',af⟩;rw[Zy aj _ k a2,Zy aj _ k a2,WF _ _ k hd,Qe]
theorem ZzO {C:Orc} {M:Zp} {os:List CO} {nx i j:Nat} {oi oj:CO} (ab:os[i]?=some oi) (ad:os[j]?=some oj) (ae:Zx7 oi.op=true) (af:Z1 os j=false) (ag:i≠j) (ah:XM oj oi=true)
  (aa:∀ (k:Nat) (o:CO),os[k]?=some o→∀ x∈ZM o.op,Vm x=true) {s s1 s2:Sl×Hp} {U:Nat→Prop} (hs:Zk6 nt s U) (ai:Xp U (nx+64*i)) (aj:Xp U (nx+64*j))
  (h1:ZJ C M os nx j s=some s1) (h2:ZJ C M os nx i s1=some s2):∃ t1,ZJ C M os nx i s=some t1∧∃ t2,ZJ C M os nx j t1=some t2∧X5 t2 s2:=by
 have e:∀ s:Sl×Hp,ZJ C M os nx i s=ZR C M nx i false oi s:=fun s=>by
  simp only[ZJ,ab,Zg];cases Z1 os i
  ·rfl
  ·exact ZzM ae s
 rw[e] at h2;simp only[e];exact Zrc ab ad af ag ah aa hs ai aj h1 h2
theorem ZuJ {hp:Hp} {base s:Nat} {vs:List AV} {ce:Zd} (h:buildSl hp base s vs=some ce):ce.gone=[]:=by
 cases vs with
 | nil=>simp only[buildSl,QR] at h;first | (cases h;rfl) | (split at h<;>first | (cases h;rfl) | cases h)
 | cons v r=>
  simp only[buildSl] at h;obtain⟨q,_,h⟩:=Za h;unfold ZxU at h;split at h
  ·cases h;rfl
  ·cases h
theorem Zwc {C:Orc} {M:Zp} {sl:Sl} {hp:Hp} {base:Nat} {c:COp} {ce:Zd} (hc:Zg3 c=true) (h:vop C M sl hp base c=some ce):ce.gone=[]:=by
 cases c<;>first | (cases hc;done) | skip
 ·simp only[vop] at h;exact ZuJ h
 ·simp only[vop,ZuV,ZhZ] at h;obtain⟨e,_,h⟩:=Za h;cases h;rfl
theorem ZzP {C:Orc} {M:Zp} {nx j:Nat} {oj:CO} {s s1:Sl×Hp} (hm:VJ oj.op=true) (h:ZR C M nx j false oj s=some s1) :
  ∃ v,s1=(Zt s.1 oj.dst v,s.2)∧∀ aa : Sl×Hp,Z7 aa.1 oj.guard=Z7 s.1 oj.guard→(∀ x∈ZM oj.op,evO aa.1 x=evO s.1 x)→ZR C M nx j false oj aa=some (Zt aa.1 oj.dst v,aa.2):=by
 obtain⟨x,hx⟩:∃ x,oj.op=.move x:=by
  cases ho:oj.op<;>rw[ho] at hm<;>first | (cases hm;done) | exact⟨_,rfl⟩
 unfold ZR at h ⊢;obtain⟨b,hw,h⟩:=Za h;cases b with
 | true=>
  simp only[Km,hx,WY,Ka,Kq,vop] at h;refine⟨evO s.1 x,?_,fun aa g1 g2=>?_⟩
  ·cases h;rfl
  ·rw[g1,hw,Zg];have e:=g2 x (by rw[hx];simp[ZM]);simp only[Km,hx,WY,Ka,Kq,vop,e];rfl
 | false=>
  simp only[Ka,Kq] at h;cases h;refine⟨.tup [],rfl,fun aa g1 g2=>?_⟩;rw[g1,hw,Zg];rfl
theorem ZzQ {C:Orc} {M:Zp} {os:List CO} {nx i j:Nat} {oi oj:CO} (ad:os[i]?=some oi) (ae:os[j]?=some oj) (af:Z1 os j=false) (ah:XM oj oi=true)
  {s s1 s2:Sl×Hp} (hm:VJ oj.op=true) (hg:Zg3 oi.op=true)
  (h1:ZJ C M os nx j s=some s1) (h2:ZJ C M os nx i s1=some s2):∃ t1,ZJ C M os nx i s=some t1∧∃ t2,ZJ C M os nx j t1=some t2∧X5 t2 s2:=by
 simp only[XM,Kf] at ah;obtain⟨⟨ai,aj⟩,ab⟩:=ah;simp only[ZJ,ae,Zg,af] at h1;simp only[ZJ,ad,Zg] at h2;obtain⟨vj,rfl,ak⟩:=ZzP hm h1;unfold ZR at h2;obtain⟨b,hw,h2⟩:=Za h2;have al : Z7 s.1 oi.guard=some b:=by rw[← hw];exact(QE ai).symm
 cases b with
 | false=>
  simp only[Ka,Kq] at h2;cases h2;refine⟨(Zt s.1 oi.dst (.tup []),s.2),by simp only[ZJ,ad,Zg,ZR,al,Ka,Kq],?_⟩;exact⟨(Zt (Zt s.1 oi.dst (.tup [])) oj.dst vj,s.2),by simp only[ZJ,ae,Zg,af];exact ak (Zt s.1 oi.dst (.tup []),s.2) (QE ab) (Uj (o:=oj) ab),fun t=>(Jm aj vj (.tup []) t).symm,fun id=>rfl⟩
 | true=>
  simp only[Km] at h2;obtain⟨ce,h3,h4,rfl⟩:=Q8 h2;have aa:=Zwc hg (Zb2 h3);have am : WY C M nx i (Z1 os i) oi.op s.1 s.2=some ce:=by
   rw[← h3];unfold WY;rw[Xk C M s.2 (nx+64*i) (Uj (o:=oi) ai)]
  have ag:∀ (sl:Sl) (hp:Hp),ce.on oi.dst sl hp=(Zt sl oi.dst ce.eff.val,ce.eff.on hp):=by
   intro sl hp;unfold Zd.on;rw[aa];rfl
  refine⟨ce.on oi.dst s.1 s.2,?_,?_⟩
  ·simp only[ZJ,ad,Zg,ZR,al,Km,Y3];rw[am,Zg,Kh h4]
  ·rw[ag];refine⟨(Zt (Zt s.1 oi.dst ce.eff.val) oj.dst vj,ce.eff.on s.2),by simp only[ZJ,ae,Zg,af];exact ak (Zt s.1 oi.dst ce.eff.val,ce.eff.on s.2) (QE ab) (Uj (o:=oj) ab),fun t=>?_,fun k=>?_⟩
   ·rw[ag];exact(Jm aj vj ce.eff.val t).symm
   ·rw[ag]
theorem awayV_ptr {sl:Sl} {xs:List Opd} {v:AV} (h:ZdX sl xs v=true) {k off:Nat} (e:v=.ptr k off):∀ z∈xs,k∉ZC (evO sl z):=by
 subst e;exact fun z hz=>Zre (Zi7 h z hz)
structure Zrh (r:Sl) (oX oY:CO):Prop where
 opd:∀ x∈ZM oX.op,okV (evO r x)=true
 dst:∀ t,oX.dst=some t→okV (gs r t)=true
 arg:∀ y∈Zoj oY.op,okV (evO r y)=true
 away:∀ y∈Zoj oY.op,∀ k off,evO r y=.ptr k off→∀ z∈ZM oX.op,k∉ZC (evO r z)
theorem ZuK {sl:Sl}:∀ {xs:List Opd},okL sl xs=true→∀ x∈xs,okV (evO sl x)=true
 | [],_,x,hx=>by simp at hx
 | y :: ys,h,x,hx=>by
  simp only[okL,Kf] at h;rcases Ke.1 hx with rfl | hx
  ·exact h.1
  ·exact ZuK h.2 x hx
theorem ZtC {sl:Sl} {xs:List Opd}:∀ {ys:List Opd},Zjn sl xs ys=true→∀ y∈ys,ZdX sl xs (evO sl y)=true
 | [],_,x,hx=>by simp at hx
 | y :: ys,h,x,hx=>by
  simp only[Zjn,Kf] at h;rcases Ke.1 hx with rfl | hx
  ·exact h.1
  ·exact ZtC h.2 x hx
theorem Zwd {r:Sl} {oX oY:CO} (hm:VJ oX.op=false) (hc:ZbJ oY.op=true) (h:JP r oX.dst oX.op oY.op=true):Zrh r oX oY:=by
 obtain⟨f,as,ho⟩:∃ f as,oY.op=.call (.f f) as:=by
  cases ho:oY.op<;>rw[ho] at hc<;>first | (cases hc;done) | skip
  rename_i f as;cases f<;>first | (cases hc;done) | exact⟨_,_,rfl⟩
 rw[ho] at h;have h' : (okL r (ZM oX.op)&&(okD r oX.dst&&(okL r as&&Zjn r (ZM oX.op) as)))=true:=by
  cases hx:oX.op<;>rw[hx] at h hm<;>first | (cases hm;done) | exact h
 simp only[Kf] at h';obtain⟨h1,h2,h3,h4⟩:=h';refine⟨ZuK h1,fun t ht=>?_,?_,?_⟩
 ·rw[ht] at h2;exact h2
 ·rw[ho];exact ZuK h3
 ·rw[ho];intro y hy k off e;exact awayV_ptr (ZtC h4 y hy) e
theorem Zrh.move {r r' : Sl} {oX oY:CO} (h:Zrh r oX oY) (h1:∀ n∈(ZM oX.op).flatMap Zcj,okV (gs r n)=true→gs r' n=gs r n) (h2:∀ n,oX.dst=some n→okV (gs r n)=true→gs r' n=gs r n)
  (h3:∀ n∈(Zoj oY.op).flatMap Zcj,okV (gs r n)=true→gs r' n=gs r n):Zrh r' oX oY:=by
 have e1:∀ x∈ZM oX.op,evO r' x=evO r x:=fun x hx=>by
  have ho:=h.opd x hx;cases x with
  | t n=>exact h1 n (Ky.2 ⟨_,hx,by simp[Zcj]⟩) ho
  | _=>rfl
 have e3:∀ x∈Zoj oY.op,evO r' x=evO r x:=fun x hx=>by
  have ho:=h.arg x hx;cases x with
  | t n=>exact h3 n (Ky.2 ⟨_,hx,by simp[Zcj]⟩) ho
  | _=>rfl
 refine⟨fun x hx=>by rw[e1 x hx];exact h.opd x hx,fun t ht=>by rw[h2 t ht (h.dst t ht)];exact h.dst t ht,fun x hx=>by rw[e3 x hx];exact h.arg x hx,fun y hy k off e z hz=>?_⟩;rw[e3 y hy] at e;rw[e1 z hz];exact h.away y hy k off e z hz
theorem Zri {C:Orc} {M:Zp} {os:List CO} {nx x y:Nat} {oX oY:CO} (ay:os[x]?=some oX) (a1:os[y]?=some oY) (a2:x≠y) (ak:QV oY.dst (looks oX)=true) (aw:QV oX.dst (looks oY)=true)
  (ad:QV oX.dst (looks oX)=true) (al:QV oY.dst (looks oY)=true)
  (ar:∀ (k:Nat) (o:CO),os[k]?=some o→∀ x∈ZM o.op,Vm x=true) {s:Sl×Hp} {r:Sl} {U:Nat→Prop} (hs:Zk6 nt s U) (a3:Xp U (nx+64*x)) (a4:Xp U (nx+64*y))
  (ae:ZbJ oY.op=true) {ce:Zd} (a5:vop C M s.1 s.2 (nx+64*y) oY.op=some ce) (a6:Q0 (nx+64*y) (nx+64*y+64) ce.eff.adds=true)
  (am:∀ n,oX.dst≠some n→oY.dst≠some n→gs r n=kill ce.gone (gs s.1 n)) (aa:Zrh r oX oY) :
  ce.eff.dels=[]∧(∀ z∈ZM oX.op,evO (ce.on oY.dst s.1 s.2).1 z=evO s.1 z)∧(∀ z∈ZM oX.op,∀ id∈ZC (evO s.1 z),id∉ce.gone)∧(∀ z∈ZM oX.op,ZmT ce.gone s.2 (ce.on oY.dst s.1 s.2).2 (evO s.1 z)) ∧
  (∀ k,nx+64*x≤k→k<nx+64*x+64→(∀ o',(k,o')∉ce.eff.sets)∧(∀ o',(k,o')∉ce.eff.adds)∧k∉ce.eff.frz∧k∉ce.gone):=by
 obtain⟨F,A,I,Γ,a,w,au⟩:=hs;have good:∀ (k:Nat) (o:CO),os[k]?=some o→∀ x∈ZM o.op,ZmN U (evO s.1 x):=by
  intro k o ho x hx;cases x with
  | t n=>exact au.good n
  | v y=>exact ZaM (ar k o ho _ hx)
  | f n=>exact⟨fun id av=>by simp[evO,ZC,ZD] at av,fun f a7 h c hc=>by cases h;simp at hc⟩
 obtain⟨f,as,ho⟩:∃ f as,oY.op=.call (.f f) as:=by
  cases ho:oY.op<;>rw[ho] at ae<;>first | (cases ae;done) | skip
  rename_i f as;cases f<;>first | (cases ae;done) | exact⟨_,_,rfl⟩
 have an:=a5;rw[ho] at an;simp only[vop,evO,ZdQ,KU] at an;obtain⟨k1,k2,k3,k4⟩:=Zz1 an;have ab:∀ n,(Opd.t n)∈ZM oX.op→n∈looks oX:=fun n hn=>Kg.2 (.inl (Ky.2 ⟨_,hn,by simp[Zcj]⟩));have ai:∀ n,(Opd.t n)∈as→n∈looks oY:=fun n hn=>Kg.2 (.inl (Ky.2 ⟨.t n,by rw[ho];simp[ZM,hn],by simp[Zcj]⟩));have ne:∀ {d:Option Nat} {l:List Nat} {n:Nat},QV d l=true→n∈l→d≠some n:=fun {d l n} h hn e=>by
  rw[e] at h;simp only[QV,K1,KV,K4] at h;exact h hn
 have ax:∀ z∈ZM oX.op,evO r z=evO s.1 z∧∀ id∈ZC (evO s.1 z),id∉ce.gone:=by
  intro z hz;have af:=aa.opd z hz;cases z with
  | t n=>
   have e:=am n (ne ad (ab n hz)) (ne ak (ab n hz));simp only[evO] at af ⊢;rw[e] at af ⊢;have:=ZdC af;exact⟨this,ZBh this⟩
  | v c=>
   have:=ar x oX ay _ hz;simp only[Vm,Kf,List.isEmpty_iff] at this;exact⟨rfl,fun id av=>by simp only[evO] at av;rw[this.1] at av;simp at av⟩
  | f n=>simp only[evO,okV,okC] at af;cases af
 have az:∀ z∈as,evO r z=evO s.1 z:=by
  intro z hz;have af:=aa.arg z (by rw[ho];exact hz);cases z with
  | t n=>
   have e:=am n (ne aw (ai n hz)) (ne al (ai n hz));simp only[evO] at af ⊢;rw[e] at af ⊢;exact ZdC af
  | _=>rfl
 have a0:∀ id,(∃ o,lkp s.2 id=some o)→U id:=fun id ⟨o,h⟩=>au.id_in h;have uX:∀ k,nx+64*x≤k→k<nx+64*x+64→¬U k:=fun k h1 h2=>a3 k h1 h2;have aj:=UN a6;have ag:∀ z∈ZM oX.op,∀ k∈ZC (evO s.1 z),∀ o',(k,o')∉ce.eff.sets:=by
  intro z hz k hk o' ao;rcases (k4 k o' ao).2 with h | ⟨v,hv,ap⟩
  ·exact(ax z hz).2 k hk h
  ·obtain⟨y',aq,rfl⟩:=ZjJ hv;have ah:=aa.arg y' (by rw[ho];exact aq);rw[az y' aq] at ah;cases hp:evO s.1 y' with
   | ptr a b=>
    rw[hp] at ap;simp only[Zb1,KA] at ap;subst ap;have:=aa.away y' (by rw[ho];exact aq) k b (by rw[az y' aq,hp]) z hz;rw[(ax z hz).1] at this;exact this hk
   | clo g cs=>rw[hp] at ah;simp only[okV,okC] at ah;cases ah
   | _=>rw[hp] at ap;simp[Zb1] at ap
 refine⟨k1,fun z hz=>?_,fun z hz=>(ax z hz).2,fun z hz k hk=>?_,fun k g1 g2=>⟨fun o' ao=>?_,fun o' ao=>?_,fun hf=>?_,fun hg=>?_⟩⟩
 ·cases z with
  | t n=>
   show gs (Zt (Xi ce.gone s.1) oY.dst ce.eff.val) n=gs s.1 n;rw[QB,Kd (ne ak (ab n hz)),QX];have e:=am n (ne ad (ab n hz)) (ne ak (ab n hz));have:=aa.opd _ hz;simp only[evO] at this;rw[e] at this;exact ZdC this
  | _=>rfl
 ·have a8:U k:=(good x oX ay z hz).1 k hk;show ZdD ce.gone (lkp s.2 k) (lkp (ce.eff.on (Vl ce.gone s.2)) k);unfold Eff.on;rw[k1];simp only[Qu];rw[Zy,Zy,Qe,VS]
  ·exact Zwh _
  ·exact ag z hz k hk
  ·intro o' ao;obtain⟨h1,h2⟩:=aj k o' ao;exact a4 k h1 h2 a8
 ·exact uX k g1 g2 (a0 k (k4 k o' ao).1)
 ·have:=aj k o' ao;rcases LC a2 with h | h<;>omega
 ·obtain⟨v,hv,ap⟩:=k2 k hf;obtain⟨y',aq,rfl⟩:=ZjJ hv;exact uX k g1 g2 ((good y oY a1 y' (by rw[ho];simp[ZM,aq])).1 k ap)
 ·exact uX k g1 g2 (a0 k (k3 k hg))
theorem ZxI {C:Orc} {M:Zp} {os:List CO} {nx i j:Nat} {oi oj:CO} (ah:os[i]?=some oi) (av:os[j]?=some oj) (az:Z1 os j=false) (a0:i≠j) (aw:XM oj oi=true)
  (ad:QV oj.dst (looks oj)=true) (ae:QV oi.dst (looks oi)=true)
  (ai:∀ (k:Nat) (o:CO),os[k]?=some o→∀ x∈ZM o.op,Vm x=true) {s s1 s2:Sl×Hp} {U:Nat→Prop} (hs:Zk6 nt s U) (a1:Xp U (nx+64*i)) (ap:Xp U (nx+64*j))
  (aj:ZbJ oi.op=true) (a2:ZrS oj.op=true) (aa:Zrh s2.1 oj oi) {t:Nat} (ht:oj.dst=some t)
  (h1:ZJ C M os nx j s=some s1) (h2:ZJ C M os nx i s1=some s2):∃ t1,ZJ C M os nx i s=some t1∧∃ t2,ZJ C M os nx j t1=some t2∧X5 t2 s2:=by
 have a3:=hs;obtain⟨F,A,I,Γ,a,w,af⟩:=a3;simp only[XM,Kf] at aw;obtain⟨⟨am,an⟩,ao⟩:=aw;have good:∀ (k:Nat) (o:CO),os[k]?=some o→∀ x∈ZM o.op,ZmN U (evO s.1 x):=by
  intro k o ho x hx;cases x with
  | t n=>exact af.good n
  | v y=>exact ZaM (ai k o ho _ hx)
  | f n=>exact⟨fun id a4=>by simp[evO,ZC,ZD] at a4,fun f a5 h c hc=>by cases h;simp at hc⟩
 have ab:∀ s:Sl×Hp,ZJ C M os nx j s=ZR C M nx j false oj s:=fun s=>by simp only[ZJ,av,Zg,az]
 rw[ab] at h1;simp only[ZJ,ah,Zg] at h2;obtain⟨v,ax,a6,aq,hX⟩:∃ v ax,s1=(Zt s.1 oj.dst v,Zh s.2 ax)∧(∀ k x,(k,x)∈ax→nx+64*j≤k∧k<nx+64*j+64) ∧
   ((Z7 s.1 oj.guard=some false∧v=.tup []∧ax=[])∨(Z7 s.1 oj.guard=some true∧∃ ce,Zn8 ce∧vop C M s.1 s.2 (nx+64*j) oj.op=some ce∧Q0 (nx+64*j) (nx+64*j+64) ce.eff.adds=true∧v=ce.eff.val∧ax=ce.eff.adds)):=by
  rcases ZxR h1 with ⟨g1,g2⟩ | ⟨g1,ce,g2,g3,g4,g5⟩
  ·exact⟨.tup [],[],g2,fun k x h=>by simp at h,.inl ⟨g1,rfl,rfl⟩⟩
  ·exact⟨ce.eff.val,ce.eff.adds,g5,UN g4,.inr ⟨g1,ce,g2,g3,g4,rfl,rfl⟩⟩
 subst a6;unfold ZR at h2;obtain⟨b,hw,h2⟩:=Za h2;have ay : Z7 s.1 oi.guard=some b:=by rw[← hw];exact(QE am).symm
 cases b with
 | false=>
  simp only[Ka,Kq] at h2;cases h2;refine⟨(Zt s.1 oi.dst (.tup []),s.2),by simp only[ZJ,ah,Zg];exact YZ ay,?_⟩;refine⟨(Zt (Zt s.1 oi.dst (.tup [])) oj.dst v,Zh s.2 ax),?_,fun t=>(Jm an v (.tup []) t).symm,fun id=>rfl⟩;rw[ab];have ak:Z7 (Zt s.1 oi.dst (.tup [])) oj.guard=Z7 s.1 oj.guard:=QE ao;rcases hX with ⟨g1,rfl,rfl⟩ | ⟨g1,ce,g2,g3,g4,rfl,rfl⟩
  ·exact YZ (s:=(Zt s.1 oi.dst (.tup []),s.2)) (ak.trans g1)
  ·refine ZjL (s:=(Zt s.1 oi.dst (.tup []),s.2)) (ak.trans g1) g2 ?_ g4;rw[← g3];exact Xk C M s.2 (nx+64*j) (Uj (o:=oj) ao)
 | true=>
  simp only[Km] at h2;obtain⟨ce,h3,h4,rfl⟩:=Q8 h2;have a7:vop C M s.1 s.2 (nx+64*i) oi.op=some ce:=by
   have h5:=Zb2 h3;rw[← h5,Xk C M (Zh s.2 ax) (nx+64*i) (Uj (o:=oi) am)];exact Zbj (af.agree (Uk ap aq s.2)) C M _ (good i oi ah)
  have a8 : WY C M nx i (Z1 os i) oi.op s.1 s.2=some ce:=by
   rw[← h3];unfold WY;rw[Xk C M (Zh s.2 ax) (nx+64*i) (Uj (o:=oi) am),Zbj (af.agree (Uk ap aq s.2)) C M _ (good i oi ah)]
  have ar:∀ n,oj.dst≠some n→oi.dst≠some n→gs (ce.on oi.dst (Zt s.1 oj.dst v) (Zh s.2 ax)).1 n=kill ce.gone (gs s.1 n):=fun n e1 e2=>by
   show gs (Zt (Xi ce.gone (Zt s.1 oj.dst v)) oi.dst ce.eff.val) n=_;rw[QB,Kd e2,QX,QB,Kd e1]
  obtain⟨c1,c2,c3,c4,c5⟩:=Zri (nt:=nt) av ah (Ne.symm a0) ao am ad ae ai hs ap a1 aj a7 h4 ar aa;have e0:gs (ce.on oi.dst (Zt s.1 oj.dst v) (Zh s.2 ax)).1 t=kill ce.gone v:=by
   show gs (Zt (Xi ce.gone (Zt s.1 oj.dst v)) oi.dst ce.eff.val) t=_;rw[QB,Kd,QX,QB,Kh ht];intro e;rw[ht,e] at an;simp[Zbp] at an
  have ag:kill ce.gone v=v:=by
   have h5:=aa.dst t ht;rw[e0] at h5;exact ZdC h5
  have au:okV v=true:=by
   have h5:=aa.dst t ht;rw[e0,ag] at h5;exact h5
  refine⟨ce.on oi.dst s.1 s.2,?_,?_⟩
  ·simp only[ZJ,ah,Zg,ZR,ay,Km,Y3];rw[a8,Zg,Kh h4]
  ·have ak:Z7 (ce.on oi.dst s.1 s.2).1 oj.guard=Z7 s.1 oj.guard:=by
    show Z7 (Zt (Xi ce.gone s.1) oi.dst ce.eff.val) oj.guard=_;rw[QE ao];exact ZjM fun q _=>QX _ _ _
   have al:(∀ k o,(k,o)∈ax→X4 ce.gone o=o)∧ZR C M nx j false oj (ce.on oi.dst s.1 s.2)=some (Zt (ce.on oi.dst s.1 s.2).1 oj.dst v,Zh (ce.on oi.dst s.1 s.2).2 ax):=by
    rcases hX with ⟨g1,rfl,rfl⟩ | ⟨g1,cx,g2,g3,g4,rfl,rfl⟩
    ·exact⟨fun k o h=>by simp at h,YZ (ak.trans g1)⟩
    ·obtain⟨e1,e2⟩:=ZzZ a2 c2 c4 (fun k h6 h7=>(c5 k h6 h7).2.2.2) g3 g4 g2.frz au ag;exact⟨e2,ZjL (ak.trans g1) g2 e1 g4⟩
   obtain⟨e3,e4⟩:=al;refine⟨_,by rw[ab];exact e4,?_⟩;exact ZyT (ce:=ce) (dX:=oj.dst) (dY:=oi.dst) (v:=v) (ax:=ax) (s:=s) an c1 (fun k o ho=>by
    obtain⟨h6,h7⟩:=aq k o ho;obtain⟨m1,m2,m3,_⟩:=c5 k h6 h7;exact⟨m1,m2,m3⟩) e3 ag
theorem Zwe {C:Orc} {M:Zp} {os:List CO} {nx i j:Nat} {oi oj:CO} (ar:os[i]?=some oi) (ag:os[j]?=some oj) (ay:Z1 os i=false) (az:i≠j) (au:XM oj oi=true)
  (ad:QV oi.dst (looks oi)=true) (ae:QV oj.dst (looks oj)=true)
  (ah:∀ (k:Nat) (o:CO),os[k]?=some o→∀ x∈ZM o.op,Vm x=true) {s s1 s2:Sl×Hp} {U:Nat→Prop} (hs:Zk6 nt s U) (av:Xp U (nx+64*i)) (a0:Xp U (nx+64*j))
  (ai:ZbJ oj.op=true) (a1:Zm9 oi.op=true) (ab:Zrh s2.1 oi oj) {t:Nat} (ht:oi.dst=some t)
  (h1:ZJ C M os nx j s=some s1) (h2:ZJ C M os nx i s1=some s2):∃ t1,ZJ C M os nx i s=some t1∧∃ t2,ZJ C M os nx j t1=some t2∧X5 t2 s2:=by
 have a2:=hs;obtain⟨F,A,I,Γ,a,w,aj⟩:=a2;simp only[XM,Kf] at au;obtain⟨⟨an,ao⟩,ak⟩:=au;have af : Zbp oi.dst oj.dst=true:=by
  cases hd:oi.dst<;>cases he:oj.dst<;>rw[hd,he] at ao<;>first | rfl | (simp only[Zbp,bne_iff_ne,ne_eq] at ao ⊢;exact fun e=>ao e.symm)
 have good:∀ (k:Nat) (o:CO),os[k]?=some o→∀ x∈ZM o.op,ZmN U (evO s.1 x):=by
  intro k o ho x hx;cases x with
  | t n=>exact aj.good n
  | v y=>exact ZaM (ah k o ho _ hx)
  | f n=>exact⟨fun id a3=>by simp[evO,ZC,ZD] at a3,fun f a4 h c hc=>by cases h;simp at hc⟩
 have aa:∀ s:Sl×Hp,ZJ C M os nx i s=ZR C M nx i false oi s:=fun s=>by simp only[ZJ,ar,Zg,ay]
 rw[aa] at h2;simp only[ZJ,ag,Zg] at h1;unfold ZR at h1;obtain⟨b,hw,h1⟩:=Za h1;cases b with
 | false=>
  simp only[Ka,Kq] at h1;cases h1;have al:Z7 (Zt s.1 oj.dst (.tup [])) oi.guard=Z7 s.1 oi.guard:=QE an;rcases ZxR h2 with ⟨g1,g2⟩ | ⟨g1,ce,g2,g3,g4,g5⟩
  ·subst g2;refine⟨(Zt s.1 oi.dst (.tup []),s.2),by rw[aa];exact YZ (al.symm.trans g1),(Zt (Zt s.1 oi.dst (.tup [])) oj.dst (.tup []),s.2),?_,fun t=>Jm af _ _ t,fun id=>rfl⟩;simp only[ZJ,ag,Zg];exact YZ (s:=(Zt s.1 oi.dst (.tup []),s.2)) ((QE ak).trans hw)
  ·subst g5;refine⟨(Zt s.1 oi.dst ce.eff.val,Zh s.2 ce.eff.adds),?_,(Zt (Zt s.1 oi.dst ce.eff.val) oj.dst (.tup []),Zh s.2 ce.eff.adds),?_,fun t=>Jm af _ _ t,fun id=>rfl⟩
   ·rw[aa];refine ZjL (al.symm.trans g1) g2 ?_ g4;rw[← g3];exact(Xk C M s.2 (nx+64*i) (Uj (o:=oi) an)).symm
   ·simp only[ZJ,ag,Zg];exact YZ (s:=(Zt s.1 oi.dst ce.eff.val,Zh s.2 ce.eff.adds)) ((QE ak).trans hw)
 | true=>
  simp only[Km] at h1;obtain⟨ce,h3,h4,rfl⟩:=Q8 h1;have a5:vop C M s.1 s.2 (nx+64*j) oj.op=some ce:=Zb2 h3;have al:Z7 (ce.on oj.dst s.1 s.2).1 oi.guard=Z7 s.1 oi.guard:=by
   show Z7 (Zt (Xi ce.gone s.1) oj.dst ce.eff.val) oi.guard=_;rw[QE an];exact ZjM fun q _=>QX _ _ _
  obtain⟨v,ax,a6,aw,hX⟩:∃ v ax,s2=(Zt (ce.on oj.dst s.1 s.2).1 oi.dst v,Zh (ce.on oj.dst s.1 s.2).2 ax)∧(∀ k x,(k,x)∈ax→nx+64*i≤k∧k<nx+64*i+64) ∧
    ((Z7 s.1 oi.guard=some false∧v=.tup []∧ax=[])∨(Z7 s.1 oi.guard=some true∧∃ cx,Zn8 cx∧vop C M (ce.on oj.dst s.1 s.2).1 (ce.on oj.dst s.1 s.2).2 (nx+64*i) oi.op=some cx∧Q0 (nx+64*i) (nx+64*i+64) cx.eff.adds=true∧v=cx.eff.val∧ax=cx.eff.adds)):=by
   rcases ZxR h2 with ⟨g1,g2⟩ | ⟨g1,cx,g2,g3,g4,g5⟩
   ·exact⟨.tup [],[],g2,fun k x h=>by simp at h,.inl ⟨al.symm.trans g1,rfl,rfl⟩⟩
   ·exact⟨cx.eff.val,cx.eff.adds,g5,UN g4,.inr ⟨al.symm.trans g1,cx,g2,g3,g4,rfl,rfl⟩⟩
  subst a6;have ap:∀ n,oi.dst≠some n→oj.dst≠some n→gs (Zt (ce.on oj.dst s.1 s.2).1 oi.dst v) n=kill ce.gone (gs s.1 n):=fun n e1 e2=>by
   rw[QB,Kd e1];show gs (Zt (Xi ce.gone s.1) oj.dst ce.eff.val) n=_;rw[QB,Kd e2,QX]
  obtain⟨c1,c2,c3,c4,c5⟩:=Zri (nt:=nt) ar ag az an ak ad ae ah hs av a0 ai a5 h4 ap ab;have aq:okV v=true:=by
   have h5:=ab.dst t ht;simp only[QB,Kh ht] at h5;exact h5
  have am:kill ce.gone v=v∧(∀ k o,(k,o)∈ax→X4 ce.gone o=o)∧ZR C M nx i false oi s=some (Zt s.1 oi.dst v,Zh s.2 ax):=by
   rcases hX with ⟨g1,rfl,rfl⟩ | ⟨g1,cx,g2,g3,g4,rfl,rfl⟩
   ·exact⟨rfl,fun k o h=>by simp at h,YZ g1⟩
   ·obtain⟨e1,e2,e3⟩:=ZxQ a1 c2 c4 c3 (fun k h6 h7=>(c5 k h6 h7).2.2.2) g3 g4 g2.frz aq;exact⟨e2,e3,ZjL g1 g2 e1 g4⟩
  obtain⟨hk,e3,e4⟩:=am;refine⟨(Zt s.1 oi.dst v,Zh s.2 ax),by rw[aa];exact e4,ce.on oj.dst (Zt s.1 oi.dst v) (Zh s.2 ax),?_,?_⟩
  ·simp only[ZJ,ag,Zg,ZR];have a7:Z7 (Zt s.1 oi.dst v) oj.guard=some true:=(QE ak).trans hw;simp only[a7,Zg,Km,Y3];have:WY C M nx j (Z1 os j) oj.op (Zt s.1 oi.dst v) (Zh s.2 ax)=some ce:=by
    rw[← h3];unfold WY;rw[Xk C M (Zh s.2 ax) (nx+64*j) (Uj (o:=oj) ak),← Zbj (aj.agree (Uk av aw s.2)) C M _ (good j oj ag)]
   rw[this,Zg,Kh h4]
  ·exact(ZyT (ce:=ce) (dX:=oi.dst) (dY:=oj.dst) (v:=v) (ax:=ax) (s:=s) af c1 (fun k o ho=>by
    obtain⟨h6,h7⟩:=aw k o ho;obtain⟨m1,m2,m3,_⟩:=c5 k h6 h7;exact⟨m1,m2,m3⟩) e3 hk).symm
theorem ZgR {C:Orc} {M:Zp} {nx j:Nat} {oj:CO} {x:Opd} (hx:oj.op=.move x) {s:Sl×Hp} {b:Bool} (hw:Z7 s.1 oj.guard=some b) :
  ZR C M nx j false oj s=some (Zt s.1 oj.dst (if b then evO s.1 x else .tup []),s.2):=by
 unfold ZR;rw[hw,Zg];cases b
 ·rfl
 ·simp only[Km,hx,WY,Ka,Kq,vop];rfl
theorem ZxJ {C:Orc} {M:Zp} {os:List CO} {nx i j:Nat} {oi oj:CO} (af:os[i]?=some oi) (am:os[j]?=some oj) (an:Z1 os j=false) (ai:XM oj oi=true)
  (ao:∀ (k:Nat) (o:CO),os[k]?=some o→∀ x∈ZM o.op,Vm x=true)
  {s s1 s2:Sl×Hp} (hm:VJ oj.op=true) {t:Nat} (ht:oj.dst=some t) (aj:okV (gs s2.1 t)=true)
  (h1:ZJ C M os nx j s=some s1) (h2:ZJ C M os nx i s1=some s2):∃ t1,ZJ C M os nx i s=some t1∧∃ t2,ZJ C M os nx j t1=some t2∧X5 t2 s2:=by
 obtain⟨x,hx⟩:∃ x,oj.op=.move x:=by
  cases ho:oj.op<;>rw[ho] at hm<;>first | (cases hm;done) | exact⟨_,rfl⟩
 simp only[XM,Kf] at ai;obtain⟨⟨ak,ad⟩,ab⟩:=ai;have aa:∀ s:Sl×Hp,ZJ C M os nx j s=ZR C M nx j false oj s:=fun s=>by simp only[ZJ,am,Zg,an]
 rw[aa] at h1;obtain⟨bj,ag⟩:∃ bj,Z7 s.1 oj.guard=some bj:=by
  unfold ZR at h1;obtain⟨b,hw,_⟩:=Za h1;exact⟨b,hw⟩
 rw[ZgR hx ag] at h1;have h1:=(Option.some.inj h1).symm;subst h1;simp only[ZJ,af,Zg] at h2;unfold ZR at h2;obtain⟨b,hw,h2⟩:=Za h2;have al : Z7 s.1 oi.guard=some b:=by rw[← hw];exact(QE ak).symm
 have ap:oi.dst≠some t:=fun e=>by rw[ht,e] at ad;simp[Zbp] at ad
 have ae:∀ n,x=.t n→oi.dst≠some n:=fun n e h=>by
  rw[h] at ab;simp only[QV,K1,KV,K4] at ab;exact ab (Kg.2 (.inl (by rw[hx,e];simp[ZM,Zcj])))
 cases b with
 | false=>
  simp only[Ka,Kq] at h2;cases h2;refine⟨(Zt s.1 oi.dst (.tup []),s.2),by simp only[ZJ,af,Zg];exact YZ al,?_⟩;refine⟨_,by rw[aa];exact ZgR (s:=(Zt s.1 oi.dst (.tup []),s.2)) hx ((QE ab).trans ag),?_⟩;have:evO (Zt s.1 oi.dst (.tup [])) x=evO s.1 x:=Uj (o:=oj) ab x (by rw[hx];simp[ZM]);simp only[this];exact⟨fun t=>(Jm ad _ _ t).symm,fun id=>rfl⟩
 | true=>
  simp only[Km] at h2;obtain⟨ce,h3,h4,rfl⟩:=Q8 h2;have aq : WY C M nx i (Z1 os i) oi.op s.1 s.2=some ce:=by
   rw[← h3];unfold WY;rw[Xk C M s.2 (nx+64*i) (Uj (o:=oi) ak)]
  refine⟨ce.on oi.dst s.1 s.2,by simp only[ZJ,af,Zg,ZR,al,Km,Y3];rw[aq,Zg,Kh h4],?_⟩;have ah:Z7 (ce.on oi.dst s.1 s.2).1 oj.guard=some bj:=by
   show Z7 (Zt (Xi ce.gone s.1) oi.dst ce.eff.val) oj.guard=_;rw[QE ab,← ag];exact ZjM fun q _=>QX _ _ _
  refine⟨_,by rw[aa];exact ZgR hx ah,?_⟩;have e0:gs (ce.on oi.dst (Zt s.1 oj.dst (if bj then evO s.1 x else .tup [])) s.2).1 t=kill ce.gone (if bj then evO s.1 x else .tup []):=by
   show gs (Zt (Xi ce.gone (Zt s.1 oj.dst _)) oi.dst ce.eff.val) t=_;rw[QB,Kd ap,QX,QB,Kh ht]
  rw[e0] at aj;have hk:=ZdC aj;have ev:(if bj then evO (ce.on oi.dst s.1 s.2).1 x else .tup [])=(if bj then evO s.1 x else .tup []):=by
   cases bj with
   | false=>rfl
   | true=>
    simp only[Km] at hk ⊢;cases x with
    | t n=>
     show gs (Zt (Xi ce.gone s.1) oi.dst ce.eff.val) n=gs s.1 n;rw[QB,Kd (ae n rfl),QX];exact hk
    | _=>rfl
  rw[ev];refine⟨fun q=>?_,fun id=>rfl⟩;show gs (Zt (Zt (Xi ce.gone s.1) oi.dst ce.eff.val) oj.dst _) q=gs (Zt (Xi ce.gone (Zt s.1 oj.dst _)) oi.dst ce.eff.val) q;simp only[QB,QX];by_cases hq:oj.dst=some q
  ·have:¬oi.dst=some q:=fun e=>by rw[hq,e] at ad;simp[Zbp] at ad
   simp only[hq,Km,this,Kq];exact hk.symm
  ·simp[hq]
theorem ZxK {C:Orc} {M:Zp} {os:List CO} {nx i j:Nat} {oi oj:CO} (am:os[i]?=some oi) (ag:os[j]?=some oj) (ar:Z1 os i=false) (an:XM oj oi=true)
  (ah:∀ (k:Nat) (o:CO),os[k]?=some o→∀ x∈ZM o.op,Vm x=true)
  {s s1 s2:Sl×Hp} (hm:VJ oi.op=true) {t:Nat} (ht:oi.dst=some t) (ai:okV (gs s2.1 t)=true)
  (h1:ZJ C M os nx j s=some s1) (h2:ZJ C M os nx i s1=some s2):∃ t1,ZJ C M os nx i s=some t1∧∃ t2,ZJ C M os nx j t1=some t2∧X5 t2 s2:=by
 obtain⟨x,hx⟩:∃ x,oi.op=.move x:=by
  cases ho:oi.op<;>rw[ho] at hm<;>first | (cases hm;done) | exact⟨_,rfl⟩
 simp only[XM,Kf] at an;obtain⟨⟨ad,aj⟩,ak⟩:=an;have aa:∀ s:Sl×Hp,ZJ C M os nx i s=ZR C M nx i false oi s:=fun s=>by simp only[ZJ,am,Zg,ar]
 rw[aa] at h2;simp only[ZJ,ag,Zg] at h1;unfold ZR at h1;obtain⟨b,hw,h1⟩:=Za h1;have af:∀ n,x=.t n→oj.dst≠some n:=fun n e h=>by
  rw[h] at ad;simp only[QV,K1,KV,K4] at ad;exact ad (Kg.2 (.inl (by rw[hx,e];simp[ZM,Zcj])))
 have ao:∀ (bi:Bool) (e:evO s1.1 x=evO s.1 x∨bi=false) (g1:Z7 s.1 oi.guard=some bi) (g2:Z7 s1.1 oi.guard=some bi),s2=(Zt s1.1 oi.dst (if bi then evO s.1 x else .tup []),s1.2):=by
  intro bi e g1 g2;rw[ZgR hx g2] at h2;rw[← Option.some.inj h2];rcases e with e | e
  ·rw[e]
  ·rw[e];rfl
 cases b with
 | false=>
  simp only[Ka,Kq] at h1;cases h1;have ae:Z7 (Zt s.1 oj.dst (.tup [])) oi.guard=Z7 s.1 oi.guard:=QE ad;obtain⟨bi,ab⟩:∃ bi,Z7 s.1 oi.guard=some bi:=by
   unfold ZR at h2;obtain⟨b,hw,_⟩:=Za h2;exact⟨b,ae.symm.trans hw⟩
  have e:evO (Zt s.1 oj.dst (.tup [])) x=evO s.1 x:=Uj (o:=oi) ad x (by rw[hx];simp[ZM]);have h5:=ao bi (.inl e) ab (ae.trans ab);subst h5;refine⟨_,by rw[aa];exact ZgR hx ab,(Zt (Zt s.1 oi.dst (if bi then evO s.1 x else .tup [])) oj.dst (.tup []),s.2),?_,fun t=>?_,fun id=>rfl⟩
  ·simp only[ZJ,ag,Zg];exact YZ (s:=(Zt s.1 oi.dst (if bi then evO s.1 x else .tup []),s.2)) ((QE ak).trans hw)
  ·exact(Jm aj _ _ t).symm
 | true=>
  simp only[Km] at h1;obtain⟨ce,h3,h4,rfl⟩:=Q8 h1;have ae:Z7 (ce.on oj.dst s.1 s.2).1 oi.guard=Z7 s.1 oi.guard:=by
   show Z7 (Zt (Xi ce.gone s.1) oj.dst ce.eff.val) oi.guard=_;rw[QE ad];exact ZjM fun q _=>QX _ _ _
  obtain⟨bi,ab⟩:∃ bi,Z7 s.1 oi.guard=some bi:=by
   unfold ZR at h2;obtain⟨b,hw,_⟩:=Za h2;exact⟨b,ae.symm.trans hw⟩
  have ap:=h2;rw[ZgR hx (ae.trans ab)] at ap;have h6:=Option.some.inj ap;have hv:okV (if bi then evO (ce.on oj.dst s.1 s.2).1 x else .tup [])=true:=by
   rw[← h6] at ai;simp only[QB,Kh ht] at ai;exact ai
  have aq:kill ce.gone (if bi then evO s.1 x else .tup [])=(if bi then evO s.1 x else .tup [])∧(evO (ce.on oj.dst s.1 s.2).1 x=evO s.1 x∨bi=false):=by
   cases bi with
   | false=>exact⟨rfl,.inr rfl⟩
   | true=>
    simp only[Km] at hv ⊢;cases x with
    | t n=>
     have e:evO (ce.on oj.dst s.1 s.2).1 (.t n)=kill ce.gone (gs s.1 n):=by
      show gs (Zt (Xi ce.gone s.1) oj.dst ce.eff.val) n=_;rw[QB,Kd (af n rfl),QX]
     rw[e] at hv ⊢;have:=ZdC hv;exact⟨this,.inl this⟩
    | v c=>
     have hc:=ah i oi am (.v c) (by rw[hx];simp[ZM]);simp only[Vm,Kf,List.isEmpty_iff] at hc;exact⟨ZyR hv fun id al=>by simp only[evO] at al;rw[hc.1] at al;simp at al,.inl rfl⟩
    | f n=>simp only[evO,okV,okC] at hv;cases hv
  have h5:=ao bi aq.2 ab (ae.trans ab);subst h5;refine⟨_,by rw[aa];exact ZgR hx ab,ce.on oj.dst (Zt s.1 oi.dst (if bi then evO s.1 x else .tup [])) s.2,?_,fun q=>?_,fun id=>rfl⟩
  ·simp only[ZJ,ag,Zg,ZR];have au:Z7 (Zt s.1 oi.dst (if bi then evO s.1 x else .tup [])) oj.guard=some true:=(QE ak).trans hw;simp only[au,Zg,Km,Y3];have:WY C M nx j (Z1 os j) oj.op (Zt s.1 oi.dst (if bi then evO s.1 x else .tup [])) s.2=some ce:=by
    rw[← h3];unfold WY;rw[Xk C M s.2 (nx+64*j) (Uj (o:=oj) ak)]
   rw[this,Zg,Kh h4]
  ·show gs (Zt (Xi ce.gone (Zt s.1 oi.dst _)) oj.dst ce.eff.val) q=gs (Zt (Zt (Xi ce.gone s.1) oj.dst ce.eff.val) oi.dst _) q;simp only[QB,QX];by_cases hq:oi.dst=some q
   ·have:¬oj.dst=some q:=fun e=>by rw[hq,e] at aj;simp[Zbp] at aj
    simp only[hq,Km,this,Kq];exact aq.1
   ·simp[hq]
theorem ZyP {C:Orc} {M:Zp} (hC:Qz P C) {ops:Array Oper} {os:List CO} (a9:QM (Zpa P nt ops.toList) ops.toList=some os) {nx i:Nat} {ks:List Nat} {oi:CO} (ab:os[i]?=some oi)
  (ad:∀ (k:Nat) (o:CO),os[k]?=some o→∀ x∈ZM o.op,Vm x=true) :
  ∀ (js:List Nat) {s r:Sl×Hp} {U:Nat→Prop},Zk6 nt s U→Xp U (nx+64*i)→(∀ j∈js,Xp U (nx+64*j))→(js++i :: ks).Pairwise (· < ·) →
   (∀ j∈js,∃ oj,os[j]?=some oj∧XM oj oi=true∧((Z1 os j=false∧(Z1 os i=true→Zx7 oi.op=true∨(ZrQ oi.op=true∧(Um oj.op=true∨(ZaW oj.op=true∧Zck os j=true∧Zck os i=true∧ZmP r.1 oj.op oi.op=true)))∨(VJ oj.op=true∧Zg3 oi.op=true)∨(VJ oj.op=true∧ZpP os j=true∧okD r.1 oj.dst=true) ∨
    (VJ oj.op=false∧ZbJ oi.op=true∧ZrS oj.op=true∧Zck os j=true∧Zck os i=true∧ZpP os j=true∧JP r.1 oj.dst oj.op oi.op=true))) ∨
    (Z1 os j=true∧Z1 os i=false∧VJ oi.op=true∧ZpP os i=true∧okD r.1 oi.dst=true) ∨
    (Z1 os j=true∧Z1 os i=false∧VJ oi.op=false∧ZbJ oj.op=true∧Zm9 oi.op=true∧Zck os j=true∧Zck os i=true∧ZpP os i=true∧JP r.1 oi.dst oi.op oj.op=true))) →
   (∀ j∈js++i :: ks,j<os.length)→runL C M os nx (js++i :: ks) s=some r →
   ∃ s',ZJ C M os nx i s=some s'∧∃ r',runL C M os nx (js++ks) s'=some r'∧X5 r' r
 | [],s,r,U,_,_,_,_,_,_,h=>by
  simp only[Lg,runL] at h ⊢;obtain⟨s',h1,h⟩:=Za h;exact⟨s',h1,r,h,X5.refl r⟩
 | j :: js,s,r,U,hs,hfi,hfj,hsort,hj,hlt,h=>by
  have a1:=h;simp only[Kv,runL] at h;obtain⟨s1,h1,h⟩:=Za h;have a6:=hsort;simp only[Kv,LS] at hsort;have bk:j<i:=hsort.1 i (by simp);have a0:i≠j:=by omega
  have a':=ZxE hC a9 hs (hfj j (by simp)) h1;have ba:∀ k∈js,k≠j:=fun k hk e=>by
   have:=hsort.1 k (by simp[hk]);omega
  obtain⟨s2,h2,r2,h3,h4⟩:=ZyP hC a9 ab ad js a' (ZtA a0 hfi) (fun k hk=>ZtA (ba k hk) (hfj k (by simp[hk]))) hsort.2 (fun k hk=>hj k (by simp[hk])) (fun k hk=>hlt k (by simp only[Kv,Ke];exact .inr hk)) h;obtain⟨oj,ae,ar,a2⟩:=hj j (by simp);have aa:∀ {k q n:Nat} {o:CO},Zck os k=true→os[k]?=some o→k≤q→q<os.length→n∈looks o→QV (J0 os q) [n]=true:=by
   intro k q n o al ho bl hq hn;have:=KT.1 al q (Li.2 hq);simp only[Zu4,ho,Lj,Kn] at this;rcases this with h | h
   ·omega
   ·cases hd:J0 os q with
    | none=>rfl
    | some d=>
     rw[hd] at h;simp only[QV,K1,KV,K4] at h ⊢;intro e;simp at e;exact h (e ▸ hn)
  have af:∀ {k:Nat} {o:CO},Zck os k=true→os[k]?=some o→QV o.dst (looks o)=true:=by
   intro k o al ho;have hk:k<os.length:=(Kb.1 ho).1;have:=KT.1 al k (Li.2 hk);simp only[Zu4,J0,ho,Lj,Kn] at this;rcases this with h | h
   ·omega
   ·exact h
  have ag:∀ {k q t:Nat} {o:CO},ZpP os k=true→os[k]?=some o→o.dst=some t→q≠k→q<os.length→QV (J0 os q) [t]=true:=by
   intro k q t o hl ho ht bb hq;simp only[ZpP,Kf] at hl;have:=KT.1 hl.2 q (Li.2 hq);simp only[Lj,beq_iff_eq,J0,ho,ht] at this;rcases this with h | h
   ·exact absurd h bb
   ·simp only[J0];cases a3:os[q]? with
    | none=>rfl
    | some oq=>
     rw[a3] at h;simp only at h ⊢;cases hd:oq.dst with
     | none=>rfl
     | some d=>
      rw[hd] at h;simp only[Zbp,bne_iff_ne,ne_eq] at h;simp only[QV,K1,KV,K4,KA];exact h
  have ah:∀ {k:Nat} {o:CO},ZpP os k=true→os[k]?=some o→∃ t,o.dst=some t:=by
   intro k o hl ho;simp only[ZpP,J0,ho,Kf] at hl;cases hd:o.dst with
   | none=>rw[hd] at hl;cases hl.1
   | some t=>exact⟨t,rfl⟩
  have au:∀ n,(∀ q∈js++ks,QV (J0 os q) [n]=true)→okV (gs r.1 n)=true→gs s2.1 n=gs r.1 n:=by
   intro n hn ho;rw[← h4.1 n] at ho ⊢;exact ZBe h3 hn ho
  have ak:∀ q∈js++ks,q≠i∧j<q∧q<os.length:=by
   intro q hq;refine⟨?_,?_,hlt q ?_⟩
   ·rcases Kg.1 hq with hq | hq
    ·have:=(LH.1 hsort.2).2.2 q hq i (by simp);omega
    ·have:=(LS.1 (LH.1 hsort.2).2.1).1 q hq;omega
   ·rcases Kg.1 hq with hq | hq
    ·exact hsort.1 q (by simp[hq])
    ·exact hsort.1 q (by simp[hq])
   ·rcases Kg.1 hq with hq | hq<;>simp[hq]
  have am:Zck os j=true→∀ n∈looks oj,∀ q∈js++ks,QV (J0 os q) [n]=true:=fun al n hn q hq=>by
   obtain⟨_,h6,h7⟩:=ak q hq;exact aa al ae (by omega) h7 hn
  have an:Zck os i=true→∀ n∈looks oi,∀ q∈js++ks,QV (J0 os q) [n]=true:=fun al n hn q hq=>by
   obtain⟨_,h6,h7⟩:=ak q hq;rcases Kg.1 hq with hq | hq
   ·obtain⟨oq,a3,ao,_⟩:=hj q (by simp[hq]);simp only[XM,Kf] at ao;have h5:=ao.1.1;simp only[J0,a3];cases hd:oq.dst with
    | none=>rfl
    | some d=>
     rw[hd] at h5;simp only[QV,K1,KV,K4] at h5 ⊢;intro e;simp at e;exact h5 (e ▸ hn)
   ·have:=(LS.1 (LH.1 hsort.2).2.1).1 q hq;exact aa al ab (by omega) h7 hn
  have ai:∀ {o:CO} {n:Nat},n∈(ZM o.op).flatMap Zcj→n∈looks o:=fun h=>Kg.2 (.inl h);have aj:∀ {o:CO} {n:Nat},n∈(Zoj o.op).flatMap Zcj→n∈looks o:=fun {o n} h=>by
   refine Kg.2 (.inl ?_);cases ho:o.op<;>rw[ho] at h<;>simp only[Zoj,List.flatMap_nil,Ku] at h
   simp only[ZM,KK,Kg];exact .inr h
  have a4:∃ t1,ZJ C M os nx i s=some t1∧∃ t2,ZJ C M os nx j t1=some t2∧X5 t2 s2:=by
   rcases a2 with ⟨av,ax⟩ | ⟨av,ay,k1,k5,k6⟩ | ⟨av,ay,k0,k1,k2,k3,k4,k5,k6⟩
   case inr.inl=>
    obtain⟨t,ht⟩:=ah k5 ab;refine ZxK ab ae ay ar ad k1 ht ?_ h1 h2;rw[ht] at k6;simp only[okD] at k6;rw[au t (fun q hq=>?_) k6]
    ·exact k6
    ·obtain⟨h5,_,h7⟩:=ak q hq;exact ag k5 ab ht h5 h7
   case inr.inr=>
    obtain⟨t,ht⟩:=ah k5 ab;refine Zwe ab ae ay a0 ar (af k4 ab) (af k3 ae) ad hs hfi (hfj j (by simp)) k1 k2 ?_ ht h1 h2;refine(Zwd k0 k1 k6).move (fun n hn=>au n (an k4 n (ai hn))) (fun n hn=>au n fun q hq=>?_) (fun n hn=>au n (am k3 n (aj hn)));obtain⟨h5,_,h7⟩:=ak q hq;exact ag k5 ab hn h5 h7
   cases ay:Z1 os i with
   | false=>exact ZzL ab ae ay av a0 ar ad hs hfi (hfj j (by simp)) h1 h2
   | true=>
    rcases ax ay with hc | ⟨al,hl⟩ | ⟨bc,bd⟩ | ⟨k1,k5,k6⟩ | ⟨k0,k1,k2,k3,k4,k5,k6⟩
    case inr.inr.inr.inl=>
     obtain⟨t,ht⟩:=ah k5 ae;refine ZxJ ab ae av ar ad k1 ht ?_ h1 h2;rw[ht] at k6;simp only[okD] at k6;rw[au t (fun q hq=>?_) k6]
     ·exact k6
     ·obtain⟨_,h6,h7⟩:=ak q hq;exact ag k5 ae ht (by omega) h7
    case inr.inr.inr.inr=>
     obtain⟨t,ht⟩:=ah k5 ae;refine ZxI ab ae av a0 ar (af k3 ae) (af k4 ab) ad hs hfi (hfj j (by simp)) k1 k2 ?_ ht h1 h2;refine(Zwd k0 k1 k6).move (fun n hn=>au n (am k3 n (ai hn))) (fun n hn=>au n fun q hq=>?_) (fun n hn=>au n (an k4 n (aj hn)));obtain⟨_,h6,h7⟩:=ak q hq;exact ag k5 ae hn (by omega) h7
    ·exact ZzO ab ae hc av a0 ar ad hs hfi (hfj j (by simp)) h1 h2
    ·refine ZxH ab ae ay av a0 ar ad hs hfi (hfj j (by simp)) ⟨al,?_⟩ h1 h2;rcases hl with hl | ⟨be,bf,bg,aq⟩
     ·exact .inl hl
     ·refine .inr ⟨be,?_⟩;have a7:∀ x∈ZM oi.op,okW (evO r.1 x)=true→evO s.1 x=evO r.1 x:=by
       intro x hx aw;cases x with
       | v a=>rfl
       | f n=>rfl
       | t n=>
        simp only[evO] at aw ⊢;have hn:n∈looks oi:=by
         rw[looks];exact Kg.2 (.inl (Ky.2 ⟨.t n,hx,KA.2 rfl⟩))
        refine ZuI a1 (fun q hq=>?_) aw;rcases Kg.1 hq with hq | hq
        ·obtain⟨oq,a3,ao,_⟩:=hj q hq;simp only[XM,Kf] at ao;have h5:=ao.1.1;simp only[J0,a3];cases hd:oq.dst with
         | none=>rfl
         | some d=>
          rw[hd] at h5;simp only[QV,K1,KV,K4] at h5 ⊢;intro e;simp at e;exact h5 (e ▸ hn)
        ·refine aa bg ab ?_ (hlt q (Kg.2 (.inr hq))) hn;rcases Ke.1 hq with rfl | hq
         ·omega
         ·have:=LH.1 hsort.2;have:=(LS.1 this.2.1).1 q hq;omega
      have a8:∀ id,Xr r.1 id (ZM oj.op)=true→Xr s.1 id (ZM oj.op)=true:=by
       intro id bh;have bi:∀ xs:List Opd,(∀ z∈xs,z∈ZM oj.op)→Xr r.1 id xs=true→Xr s.1 id xs=true:=by
        intro xs
        induction xs with
        | nil=>intro _ _;rfl
        | cons z zs ihz=>
         intro a5 hz;simp only[Xr,Kf] at hz ⊢;refine⟨?_,ihz (fun z' bj=>a5 z' (by simp[bj])) hz.2⟩;cases z with
         | v a=>exact hz.1
         | f n=>exact hz.1
         | t n=>
          simp only[evO] at hz ⊢;have hn:n∈looks oj:=by
           rw[looks];exact Kg.2 (.inl (Ky.2 ⟨.t n,a5 (.t n) (K3 ..),KA.2 rfl⟩))
          rw[ZBe a1 (fun q hq=>?_) (ZCi hz.1)]
          ·exact hz.1
          ·refine aa bf ae ?_ (hlt q hq) hn;rcases Kg.1 hq with hq | hq
           ·rcases Ke.1 hq with rfl | hq
            ·omega
            ·have:=hsort.1 q (by simp[hq]);omega
           ·have:=hsort.1 q (by simp only[Kg];exact .inr hq);omega
       exact bi _ (fun _ h=>h) bh
      cases ho:oi.op<;>rw[ho] at al aq<;>first | (cases al;done) | skip
      case store slc sz x y=>
       simp only[ZmP] at aq ⊢;have aw:okV (evO r.1 x)=true:=by
        cases ht:Wo (evO r.1 x) with
        | none=>rw[ht] at aq;simp[Zg5] at aq
        | some id=>cases hv:evO r.1 x<;>rw[hv] at ht<;>simp only[Wo] at ht<;>first | (cases ht;done) | rfl
       rw[a7 x (by rw[ho];simp[ZM]) (ZuH aw)];cases ht:Wo (evO r.1 x) with
       | none=>rw[ht] at aq;simp[Zg5] at aq
       | some id=>rw[ht] at aq;exact a8 id aq
      case append sz by_ str flat x y=>
       simp only[ZmP,Kf,Lj] at aq ⊢;obtain⟨az,ap⟩:=aq;constructor
       ·have aw:okW (evO r.1 x)=true:=by
         cases hv:evO r.1 x<;>rw[hv] at az<;>first | rfl | (cases az;done) | skip
         case tup vs=>cases vs<;>first | rfl | cases az
        rw[a7 x (by rw[ho];simp[ZM]) aw];cases hv:evO r.1 x<;>rw[hv] at az<;>first | (cases az;done) | exact a8 _ az | skip
        ·rfl
        case tup vs=>cases vs<;>first | rfl | cases az
       ·rcases ap with ap | ap
        ·exact .inl ap
        ·right
         have aw:okW (evO r.1 y)=true:=by
          unfold seenSrc at ap;split at ap
          ·rename_i k hk;rw[hk];rfl
          ·exact ZuH ap
         rw[a7 y (by rw[ho];simp[ZM]) aw];unfold seenSrc at ap ⊢;split at ap
         ·exact a8 _ ap
         ·exact ap
    ·exact ZzQ ab ae av ar bc bd h1 h2
  obtain⟨t1,g1,t2,g2,g3⟩:=a4;obtain⟨r3,g4,g5⟩:=Zrb g3.symm h3;refine⟨t1,g1,r3,?_,g5.symm.trans h4⟩;simp only[Kv,runL,g2,Zg];exact g4
def rem (n:Nat) (listed:Array Bool):List Nat:=(List.range n).filter fun i=>!listed.getD i true
theorem ZjK {n:Nat} {aa:Array Bool} {i:Nat}:i∈rem n aa↔i<n∧aa.getD i true=false:=by
 simp[rem]
theorem Zrj (n:Nat) (aa:Array Bool):(rem n aa).Pairwise (· < ·):=List.Pairwise.filter _ List.pairwise_lt_range
theorem ZCl {n:Nat} {aa:Array Bool} (ad:aa.size=n) (i:Nat):rem n (aa.setIfInBounds i true)=(rem n aa).filter fun j=>j != i:=by
 simp only[rem,List.filter_filter];refine List.filter_congr fun j hj=>?_;have ae:j<n:=Li.1 hj;by_cases ab:i=j
 ·subst ab;simp[ad,ae]
 ·simp[Array.getElem?_setIfInBounds_ne ab,Ne.symm ab]
def ZtD (nx:Nat) (listed:Array Bool) (id:Nat):Prop:=id<nx∨∃ k,listed.getD k false=true∧nx+64*k≤id∧id<nx+64*k+64
theorem JA {l:Array Bool} {k:Nat} (h:l.getD k false=true):k<l.size∧l.getD k true=true:=by
 rcases KZ k l.size with h1 | h1
 ·refine⟨h1,?_⟩;simp[h1] at h ⊢;exact h
 ·simp[Array.getElem?_eq_none h1] at h
theorem Zrk {nx i:Nat} {aa:Array Bool} (h:aa.getD i true=false):Xp (ZtD nx aa) (nx+64*i):=by
 intro id h1 h2 hu;rcases hu with hu | ⟨k,hk,h3,h4⟩
 ·omega
 ·have ab:k≠i:=fun e=>by subst e;rw[(JA hk).2] at h;cases h
  rcases LC ab with h5 | h5<;>omega
theorem Zrl {nx i:Nat} {aa:Array Bool} (hi:i<aa.size):∀ id,ZaV (ZtD nx aa) (nx+64*i) id→ZtD nx (aa.setIfInBounds i true) id:=by
 rintro id ((h | ⟨k,hk,h1⟩) | h)
 ·exact .inl h
 ·exact .inr ⟨k,getD_set_true hk,h1⟩
 ·exact .inr ⟨i,by simp[hi],h.1,h.2⟩
end
end Go.Abs
