/- Own text. -/
import Derived.Test.YtcefneehgbiebaaGreatDoorAbsDrawD
set_option linter.unusedVariables false
set_option linter.unusedSimpArgs false
namespace Go.Abs
open Go
section
variable {P:Program} {nt:Nat}
theorem ZnN {α β:Type} {f:α→Option β}:∀ {l:List α} {r:List β},QF f l=some r→∀ (i:Nat) (x:α),l[i]?=some x→∃ y,r[i]?=some y∧f x=some y
 | [],r,h,i,x,hx=>by simp at hx
 | a :: l,r,h,i,x,hx=>by
  simp only[QF] at h;obtain⟨y,h1,h⟩:=Za h;obtain⟨ys,h2,h⟩:=Za h;cases h;cases i with
  | zero=>simp at hx;subst hx;exact⟨y,by simp,h1⟩
  | succ i=>simp at hx;obtain⟨z,h3,h4⟩:=ZnN h2 i x hx;exact⟨z,by simpa using h3,h4⟩
theorem Zdj {α β:Type} {f:α→Option β}:∀ {l:List α} {r:List β},QF f l=some r→r.length=l.length
 | [],r,h=>by simp only[QF] at h;cases h;rfl
 | a :: l,r,h=>by
  simp only[QF] at h;obtain⟨y,h1,h⟩:=Za h;obtain⟨ys,h2,h⟩:=Za h;cases h;simp[Zdj h2]
theorem ZvZ {C:Orc} {M:Zn} (hC:QK P C) {ops:Array Oper} {os:List CO} (ad:QF (Zl0 P nt ops.toList) ops.toList=some os) {nx i:Nat} {s s' : Sl×Hp} {U:Nat→Prop} (hs:Zh7 nt s U) (hf:Xk U (nx+64*i))
  (h:ZG C M os nx i s=some s'):Zh7 nt s' (JJ U (nx+64*i)):=by
 obtain⟨F,A,I,Γ,a,w,aa⟩:=hs;unfold ZG at h;obtain⟨co,ae,h⟩:=Za h;have ag:i<ops.toList.length:=by rw[← Zdj ad];exact(Kb.1 ae).1
 obtain⟨am,h1,h2⟩:=ZnN ad i ops.toList[i] (Kq ag);rw[ae] at h1;cases h1;obtain⟨hg,ah,ab,af⟩:=ZiP h2;unfold ZM at h;obtain⟨b,hw,h⟩:=Za h;cases b with
 | true=>
  simp only[Km] at h;obtain⟨ce,ai,aj,rfl⟩:=Q3 h;have ak:=ZvO hC aa ah hf ab aj (Zbi ai) (fun a' w'=>∃ F A I Γ a w,Sim nt F A I Γ (JJ U (nx+64*i)) (ce.on co.dst s.1 s.2).1 (ce.on co.dst s.1 s.2).2 a w) (fun _ _ _=>False) fun u w' hp=>by
   obtain⟨I1,Γ1,b1,b2,b3,b4,b5⟩:=hp;rw[← af] at b5;exact⟨F,A,I1,Γ1,_,_,b5⟩
  obtain⟨_,_,al⟩:=Oper.wp_ex ak;exact al
 | false=>
  simp only[Ka,Ko] at h;cases h;obtain⟨I1,Γ1,b1,b2,b3,b4,b5⟩:=aa.pure (U':=JJ U (nx+64*i)) (v:=.tup []) (u:=undef) (dst:=co.dst) (fun id hu=>.inl hu) ZkV (by rw[af];exact ab);exact⟨F,A,I1,Γ1,_,_,b5⟩
theorem Zrz {U:Nat→Prop} {nx i j:Nat} (aa:i≠j) (h:Xk U (nx+64*i)):Xk (JJ U (nx+64*j)) (nx+64*i):=by
 intro id h1 h2 hu;rcases hu with hu | hu
 ·exact h id h1 h2 hu
 ·rcases Lw aa with h3 | h3<;>omega
theorem ZAQ {id:Nat} {v:AV} (h:ZcH id v=true):okV v=true:=by
 cases v with
 | tup vs=>cases vs with
  | nil=>rfl
  | cons x r=>cases h
 | _=>first | rfl | cases h
def okW:AV→Bool
 | .sub _ _=>true
 | v=>okV v
theorem ZsN {v:AV} (h:okV v=true):okW v=true:=by cases v<;>first | exact h | rfl
theorem Zzx {g:List Nat} {v:AV} (h:okW (kill g v)=true):kill g v=v:=by
 cases v with
 | sub a b=>
  simp only[kill,ZT,Qa] at h ⊢;split at h
  ·cases h
  ·rename_i hn;rw[Kd hn]
 | _=>
  refine Zcn ?_;revert h;generalize hk:kill g _=u;cases u<;>first | exact fun h=>h | skip
  intro _;simp only[kill,ZT,Qa] at hk
  first | (cases hk;done) | (split at hk<;>cases hk)
theorem ZAR {C:Orc} {M:Zn} {os:List CO} {nx q n:Nat} {s r:Sl×Hp} (h:ZG C M os nx q s=some r) (hd:QN (Ji os q) [n]=true) (hk:okW (gs r.1 n)=true):gs s.1 n=gs r.1 n:=by
 unfold ZG at h;obtain⟨o,ho,h⟩:=Za h;have aa:o.dst≠some n:=by
  intro e;simp[Ji,ho,e,QN] at hd
 unfold ZM at h;obtain⟨b,_,h⟩:=Za h;cases b with
 | true=>
  simp only[Km] at h;obtain⟨ce,_,_,rfl⟩:=Q3 h;have e1:gs (ce.on o.dst s.1 s.2).1 n=kill ce.gone (gs s.1 n):=by
   show gs (Zp (Xa ce.gone s.1) o.dst ce.eff.val) n=_;rw[Qw,Kd aa,QQ]
  rw[e1] at hk ⊢;exact(Zzx hk).symm
 | false=>
  simp only[Ka,Ko] at h;cases h;show gs s.1 n=gs (Zp s.1 o.dst (.tup [])) n;rw[Qw,Kd aa]
theorem ZsO {C:Orc} {M:Zn} {os:List CO} {nx n:Nat}:∀ {l:List Nat} {s r:Sl×Hp},Ze6 C M os nx l s=some r→(∀ q∈l,QN (Ji os q) [n]=true)→okW (gs r.1 n)=true→gs s.1 n=gs r.1 n
 | [],s,r,h,_,_=>by simp only[Ze6] at h;cases h;rfl
 | i :: l,s,r,h,hd,hk=>by
  simp only[Ze6] at h;obtain⟨s1,h1,h⟩:=Za h;have h2:=ZsO h (fun q hq=>hd q (by simp[hq])) hk;rw[← h2] at hk ⊢;exact ZAR h1 (hd i (by simp)) hk
theorem Zzy {C:Orc} {M:Zn} {os:List CO} {nx n:Nat} {l:List Nat} {s r:Sl×Hp} (h:Ze6 C M os nx l s=some r) (hd:∀ q∈l,QN (Ji os q) [n]=true) (hk:okV (gs r.1 n)=true):gs s.1 n=gs r.1 n:=ZsO h hd (ZsN hk)
theorem Zv0 {C:Orc} {M:Zn} {sl:Sl} {hp:Hp} {base:Nat} {c:COp} {ce:Zd} (hc:Zws c=true) (h:vop C M sl hp base c=some ce):ZcJ (vop C M sl hp base c)=some ce:=by
 rw[h];have aa:ce.gone=[]∧ce.eff.sets=[]∧ce.eff.dels=[]∧ce.eff.frz=[]:=by
  have o1:∀ {v:AV},QM v=some ce→ce.gone=[]∧ce.eff.sets=[]∧ce.eff.dels=[]∧ce.eff.frz=[]:=fun h=>by cases h;exact⟨rfl,rfl,rfl,rfl⟩
  have o2:∀ {v:Option AV},VE v=some ce→ce.gone=[]∧ce.eff.sets=[]∧ce.eff.dels=[]∧ce.eff.frz=[]:=fun h=>by obtain⟨v,_,h⟩:=Za h;exact o1 h
  cases c<;>simp only[Zws,Ka] at hc<;>simp only[vop] at h
  case stuck=>cases h
  case move x=>exact o1 h
  case assign s x=>
   unfold Zdm at h;split at h
   ·obtain⟨s,_,h⟩:=Za h;cases h;exact⟨rfl,rfl,rfl,rfl⟩
   ·exact o1 h
  case pick c a b=>
   unfold Zf3 at h;split at h
   ·split at h<;>exact o1 h
   ·cases h
  case alloc slc cs=>
   unfold Zfc ZkH at h;split at h
   ·split at h<;>first | (cases h;done) | (cases h;exact⟨rfl,rfl,rfl,rfl⟩)
   ·split at h<;>(cases h;exact⟨rfl,rfl,rfl,rfl⟩)
  case box x=>
   unfold Zwe at h;split at h
   ·cases h;exact⟨rfl,rfl,rfl,rfl⟩
   ·cases h
  case build zs ps=>obtain⟨cs,_,h⟩:=Za h;exact o1 h
  case load g s a=>exact o2 h
  case nilCheck x=>unfold JF at h;split at h<;>first | exact o1 h | cases h
  case bin op eq x y=>
   unfold Zjw at h;split at h
   ·split at h
    ·exact o2 h
    ·cases h
   ·exact o2 h
  case un op x=>exact o2 h
  case eqA neg n x y=>
   unfold Zqf at h;split at h
   ·obtain⟨r,_,h⟩:=Za h;exact o1 h
   ·cases h
  case convI k x=>unfold Go.Abs.convI at h;split at h<;>first | exact o1 h | cases h
  case convS x=>unfold Go.Abs.convS at h;split at h<;>first | exact o1 h | cases h
  case fn f cs=>exact o2 h
  case make s b z l c=>
   obtain⟨l,_,h⟩:=Za h;obtain⟨c,_,h⟩:=Za h;unfold Zoa at h;split at h
   ·cases h;exact⟨rfl,rfl,rfl,rfl⟩
   ·cases h
  case slice s x lo hi=>exact o2 h
  case sliceS x lo hi=>exact o2 h
  case slice0 x hi mx=>exact o2 h
  case slice3 s x lo hi mx=>exact o2 h
  case shift off x=>unfold VF at h;split at h<;>first | exact o1 h | cases h
  case part g s off x=>exact o2 h
  case iaS s x i=>
   obtain⟨n,_,h⟩:=Za h;unfold ZgD at h;split at h
   ·exact o2 h
   ·cases h
  case iaA len s x i=>
   obtain⟨n,_,h⟩:=Za h;unfold ZlY at h;split at h
   ·unfold VF at h;split at h<;>first | exact o1 h | cases h
   ·cases h
  case ixS x i=>
   obtain⟨n,_,h⟩:=Za h;unfold ZuI at h;split at h
   ·unfold ZrQ at h;split at h
    ·obtain⟨b,_,h⟩:=Za h;exact o1 h
    ·cases h
   ·cases h
  case ixA g s len x i=>
   obtain⟨n,_,h⟩:=Za h;unfold Zwg at h;split at h
   ·exact o2 h
   ·cases h
  case nth i x=>unfold Zs1 at h;split at h<;>first | exact o2 h | cases h
  case len x=>obtain⟨n,_,h⟩:=Za h;exact o1 h
  case lenS x=>obtain⟨n,_,h⟩:=Za h;exact o1 h
  case min x y=>unfold Zjy at h;split at h<;>first | (split at h<;>first | exact o1 h | cases h) | cases h
  case max x y=>unfold Zjz at h;split at h<;>first | (split at h<;>first | exact o1 h | cases h) | cases h
 simp only[ZcJ,Zg,aa.1,aa.2.1,aa.2.2.1,aa.2.2.2,Zfm]
theorem Zya {C:Orc} {M:Zn} {nx i:Nat} {o:CO} (hc:Zws o.op=true) (s:Sl×Hp):ZM C M nx i true o s=ZM C M nx i false o s:=by
 unfold ZM;have:WA C M nx i true o.op s.1 s.2=WA C M nx i false o.op s.1 s.2:=by
  unfold WA;simp only[Km,Ka,Ko];cases h:vop C M s.1 s.2 (nx+64*i) o.op with
  | none=>rfl
  | some ce=>rw[← h,Zv0 hc h,h]
 rw[this]
theorem vop_read {C:Orc} {M:Zn} {sl:Sl} {hp hp' : Hp} {base:Nat} {c:COp} (hc:JK c=true) (h:∀ x∈ZI c,∀ k∈ZB (evO sl x),lkp hp k=lkp hp' k):vop C M sl hp base c=vop C M sl hp' base c:=by
 have len:∀ v:AV,(∀ k∈ZB v,lkp hp k=lkp hp' k)→ZdC hp v=ZdC hp' v:=fun v hv=>by
  cases v<;>simp only[ZdC]
  case d x=>cases x<;>rfl
  case own id=>rw[hv id (by simp[ZB,ZC,Zm])]
 cases c<;>simp only[JK,Ka] at hc<;>simp only[ZI] at h<;>simp only[vop]
 case load g s a=>
  have:=h a (by simp);cases hv:evO sl a<;>rw[hv] at this<;>simp only[Uz]
  case ptr id off=>rw[this id (by simp[ZB,ZC,Zm])]
  case prow id sz i off=>rw[this id (by simp[ZB,ZC,Zm])]
 case slice s x lo hi=>
  have:=h x (by simp);cases hv:evO sl x<;>rw[hv] at this<;>simp only[Wm]
  case d x=>cases x<;>rfl
  case own id=>rw[this id (by simp[ZB,ZC,Zm])]
  case ownv id off n=>rw[this id (by simp[ZB,ZC,Zm])]
 case slice0 x hi mx=>
  unfold slice0;rw[len _ (h x (by simp))]
 case iaS s x i=>
  congr 1
  funext n
  simp only[ZgD];have:=h x (by simp);cases hv:evO sl x<;>rw[hv] at this<;>simp only[Qy]
  case d x=>cases x<;>rfl
  case own id=>rw[this id (by simp[ZB,ZC,Zm])]
  case ownv id off n=>rw[this id (by simp[ZB,ZC,Zm])]
 case len x=>rw[len _ (h x (by simp))]
theorem ZrA {A B:Hp} (hd:∀ k x y,(k,x)∈A→(k,y)∈B→False) (hp:Hp) (id:Nat):lkp (Zh (Zh hp A) B) id=lkp (Zh (Zh hp B) A) id:=by
 have aa:∀ (l:Hp) (hp hp' : Hp),lkp hp id=lkp hp' id→lkp (Zh hp l) id=lkp (Zh hp' l) id:=by
  intro l
  induction l with
  | nil=>intro hp hp' h;exact h
  | cons q r ih=>
   intro hp hp' h;obtain⟨k,x⟩:=q;simp only[Zh];exact ih _ _ (by rw[Qh,Qh,h])
 by_cases h1:∃ o,(id,o)∈A
 ·have h2:∀ o,(id,o)∉B:=fun o ho=>by
   obtain⟨o',ab⟩:=h1;exact hd id o' o ab ho
  rw[Zv B _ id h2];exact aa A _ _ (Zv B hp id h2).symm
 ·have h2:∀ o,(id,o)∉A:=fun o ho=>h1 ⟨o,ho⟩;rw[Zv A _ id h2];exact aa B _ _ (Zv A hp id h2)
theorem Zum {hp:Hp} {v:AV} {q:D×Bool×List Nat} (h:ZbP hp v=some q):∀ i∈q.2.2,i∈Zm v:=by
 intro i hi;cases v<;>simp only[ZbP] at h<;>first | (cases h;simp at hi;done) | (cases h;done) | skip
 obtain⟨p,_,h⟩:=Za h;cases h;simpa [Zm] using hi
theorem ZlL {hp:Hp}:∀ {vs:List AV} {q:List D×Bool×List Nat},Wp hp vs=some q→∀ i∈q.2.2,i∈vs.flatMap Zm
 | [],q,h,i,hi=>by simp only[Wp] at h;cases h;simp at hi
 | v :: vs,q,h,i,hi=>by
  simp only[Wp] at h;obtain⟨q1,h1,h⟩:=Za h;obtain⟨q2,h2,h⟩:=Za h;split at h
  ·cases h;rcases Kg.1 hi with hi | hi
   ·exact Kv.2 ⟨v,by simp,Zum h1 i hi⟩
   ·obtain⟨c,hc,aa⟩:=Kv.1 (ZlL h2 i hi);exact Kv.2 ⟨c,by simp[hc],aa⟩
  ·cases h
theorem Zyb {hp:Hp} {slc:List (Option Nat)} {s base:Nat} {vs:List AV} {x:AV} {e:Eff} (h:ZaB hp slc s base vs x=some e):∃ id o,V0 x=some id∧e.val=.junk∧e.sets=[(id,o)]∧e.dels=[]∧∀ i∈e.frz,i∈vs.flatMap Zm:=by
 cases x<;>simp only[ZaB] at h<;>first | cases h | skip
 case ptr id off=>
  unfold Zeq at h;split at h
  ·split at h
   ·split at h<;>(cases h;exact⟨id,_,rfl,rfl,rfl,rfl,fun i hi=>by simp at hi⟩)
   ·cases h
  ·cases h
 case prow id sz i off=>
  unfold Zct at h;split at h
  ·split at h
   ·obtain⟨x,_,h⟩:=Za h;obtain⟨q,hq,h⟩:=Za h;unfold Zer at h;split at h
    ·cases h;exact⟨id,_,rfl,rfl,rfl,rfl,ZlL hq⟩
    ·cases h
   ·cases h
  ·cases h
def FzEq (o o' : Option Zl):Prop:=∃ b:Bool,o'=o.map fun x=>if b then VD x else x
theorem FzEq.seen {o o' : Option Zl} (h:FzEq o o'):Zco [] o o':=by
 obtain⟨b,rfl⟩:=h;have hk:∀ x:Zl,XV [] x=x:=fun x=>by
  cases x with
  | box cs=>simp only[XV];congr 1;rw[KO (g:=id) (fun a _=>Zeh a),Lq]
  | row _ _ _ _=>rfl
  | deep _ _ _ l=>cases l<;>simp[XV,Zgl]
 have:=Zus (g:=[]) (b:=b) o;have e:(o.map (XV []))=o:=by cases o<;>simp[hk]
 rw[e] at this;exact this
theorem vop_fz {C:Orc} {M:Zn} {sl:Sl} {hp hp' : Hp} {base:Nat} {c:COp} (hc:JK c=true) (h:∀ x∈ZI c,∀ k∈ZB (evO sl x),FzEq (lkp hp k) (lkp hp' k)):vop C M sl hp' base c=vop C M sl hp base c:=by
 have hs:∀ x∈ZI c,Zjo [] hp hp' (evO sl x):=fun x hx k hk=>(h x hx k hk).seen;cases c<;>simp only[JK,Ka] at hc<;>simp only[ZI] at h hs<;>simp only[vop]
 case load g s a=>
  have h1:=h a (by simp);have h2:=hs a (by simp);cases hv:evO sl a<;>rw[hv] at h1 h2<;>simp only[Uz]
  case ptr id off=>
   obtain⟨b,e⟩:=h1 id (by simp[ZB,ZC,Zm]);rw[e];cases lkp hp id with
   | none=>rfl
   | some o=>cases o<;>cases b<;>rfl
  case prow id sz i off=>
   obtain⟨b,e⟩:=h1 id (by simp[ZB,ZC,Zm]);rw[e];cases lkp hp id with
   | none=>rfl
   | some o=>cases o<;>cases b<;>rfl
 case slice s x lo hi=>rw[Zgt (hs x (by simp))]
 case slice0 x hi mx=>unfold slice0;rw[Zel (hs x (by simp))]
 case iaS s x i=>
  congr 1
  funext n
  simp only[ZgD];rw[Zbx (hs x (by simp))]
 case len x=>rw[Zel (hs x (by simp))]
def Zjl (sl:Sl) (a:COp):COp→Bool
 | .store _ _ x _=>Zfl sl a (V0 (evO sl x))
 | .append _ _ _ flat x y=>UZ sl a (evO sl x)&&(flat || seenSrc sl a (evO sl y))
 | _=>false
def LooseS (s:Sl) (a b:COp):Prop:=Zoq b=true∧(WG a=true∨(JK a=true∧Zjl s a b=true))
theorem Zgr {sl:Sl} {id:Nat}:∀ {xs:List Opd},Xm sl id xs=true→∀ x∈xs,ZcH id (evO sl x)=true
 | [],_,x,hx=>by simp at hx
 | y :: ys,h,x,hx=>by
  simp only[Xm,Ke] at h;rcases Kf.1 hx with rfl | hx
  ·exact h.1
  ·exact Zgr h.2 x hx
theorem ZnO {id:Nat} {v:AV} (h:ZcH id v=true):id∉ZB v:=by
 cases v with
 | tup vs=>cases vs with
  | nil=>simp[ZB]
  | cons x r=>cases h
 | _=>simp[ZcH,ZB,ZC,Zm] at h ⊢ <;> exact fun e=>h e.symm
theorem Zv1 {hp:Hp} {sz by_ base:Nat} {str flat:Bool} {x y:AV} {e:Eff} (h:W1 hp sz by_ str flat base x y=some e):e.sets=[]∧e.frz=[]∧((x=.nil∧e.dels=[])∨∃ id,e.dels=[id]∧(x=.own id∨∃ o n,x=.ownv id o n)):=by
 unfold W1 at h;obtain⟨q,_,h⟩:=Za h;split at h
 ·cases x<;>simp only[ZgA] at h<;>first | (cases h;done) | skip
  ·split at h
   ·cases h;exact⟨rfl,rfl,.inl ⟨rfl,rfl⟩⟩
   ·cases h
  ·split at h
   ·cases h
   ·unfold ZkG at h;split at h
    ·split at h
     ·cases h;exact⟨rfl,rfl,.inr ⟨_,rfl,.inl rfl⟩⟩
     ·cases h
    ·cases h
  ·split at h
   ·cases h
   ·split at h
    ·unfold Zhz at h;split at h
     ·split at h
      ·cases h;exact⟨rfl,rfl,.inr ⟨_,rfl,.inr ⟨_,_,rfl⟩⟩⟩
      ·cases h
     ·cases h
    ·unfold Zhy at h;split at h
     ·split at h
      ·cases h;exact⟨rfl,rfl,.inr ⟨_,rfl,.inr ⟨_,_,rfl⟩⟩⟩
      ·cases h
     ·cases h
 ·cases h
theorem ZnP {hp:Hp} {x:AV} {k:Nat} (h:k∈Yu hp x):x=.own k:=by
 unfold Yu at h;split at h
 ·split at h
  ·simp at h;subst h;rfl
  ·simp at h
 ·simp at h
theorem Zzz {hp:Hp} {sz by_ base:Nat} {str flat:Bool} {x y:AV} {e:Eff} (h:Zeu hp sz by_ str flat base y x=some e):e.frz=[] ∧
  ((e.sets=[]∧∀ k∈e.dels,(x=.own k∨∃ o n,x=.ownv k o n)∨(flat=false∧y=.own k))∨∃ id nm o,x=.sub id nm∧e.dels=[]∧e.sets=[(id,o)]):=by
 unfold Zeu at h;split at h
 ·split at h
  ·cases h
  ·obtain⟨q,_,h⟩:=Za h;split at h
   ·cases h
   ·unfold ZiE at h;split at h
    ·obtain⟨fl,_,h⟩:=Za h;split at h
     ·cases h;exact⟨rfl,.inr ⟨_,_,_,rfl,rfl,rfl⟩⟩
     ·cases h
    ·cases h
 ·have plain:∀ {hp' : Hp} {e:Eff},W1 hp' sz by_ str flat base x y=some e→e.sets=[]∧e.frz=[]∧∀ k∈e.dels,x=.own k∨∃ o n,x=.ownv k o n:=by
   intro hp' e h;obtain⟨g1,g2,g3⟩:=Zv1 h;refine⟨g1,g2,fun k hk=>?_⟩;rcases g3 with ⟨_,g3⟩ | ⟨id,g3,g4⟩
   ·rw[g3] at hk;simp at hk
   ·rw[g3] at hk;simp at hk;subst hk;exact g4
  generalize hm:Yu hp x++Yu hp y=ms at h;cases ms with
  | nil=>
   simp only[VG] at h;obtain⟨g1,g2,g3⟩:=plain h;exact⟨g2,.inl ⟨g1,fun k hk=>.inl (g3 k hk)⟩⟩
  | cons i r=>
   simp only[VG] at h;split at h
   ·cases h
   ·rename_i aa;obtain⟨e0,h1,h⟩:=Za h;cases h;obtain⟨g1,g2,g3⟩:=plain h1;refine⟨g2,.inl ⟨g1,fun k hk=>?_⟩⟩;rcases Kg.1 hk with hk | hk
    ·exact .inl (g3 k hk)
    ·rw[← hm] at hk;rcases Kg.1 hk with hk | hk
     ·exact .inl (.inl (ZnP hk))
     ·exact .inr ⟨by simpa using aa,ZnP hk⟩
theorem ZnQ {ds:List Nat} {l:Hp} {k:Nat} (h:k∈ds):lkp (Qm l ds) k=none:=by
 cases hl:lkp (Qm l ds) k with
 | none=>rfl
 | some o=>exact absurd h (ZaG ds l k o hl).2
theorem ZAS {C:Orc} {M:Zn} {sl:Sl} {hp:Hp} {base:Nat} {c:COp} {ce:Zd} (hc:Zoq c=true) (h:vop C M sl hp base c=some ce) :
  ce.gone=[]∧(∀ k,k∈ce.eff.dels∨(∃ o,(k,o)∈ce.eff.sets)→(∃ x∈ZI c,k∈ZB (evO sl x))∧∀ a,Zjl sl a c=true→Xm sl k (ZI a)=true)∧∀ k∈ce.eff.frz,∃ x∈ZI c,k∈ZB (evO sl x):=by
 cases c<;>first | (cases hc;done) | skip
 case store slc sz x y=>
  simp only[vop,Zgg] at h;obtain⟨e,h7,h⟩:=Za h;cases h;obtain⟨id,o,ht,g1,g2,g3,g4⟩:=Zyb h7;refine⟨rfl,fun k hk=>?_,fun k hk=>⟨y,by simp[ZI],Zuh (U:=fun k=>k∈ZB (evO sl y)) (fun _ h=>h) k (g4 k hk)⟩⟩;have ab:k=id:=by
   rcases hk with hk | ⟨o',hk⟩
   ·simp only[g3,Ky] at hk
   ·simp only[g2,KA,Prod.mk.injEq] at hk;exact hk.1
  subst ab;refine⟨⟨x,by simp[ZI],?_⟩,fun a ha=>?_⟩
  ·cases hv:evO sl x<;>rw[hv] at ht<;>simp only[V0] at ht<;>cases ht<;>simp[ZB,ZC,Zm]
  ·simp only[Zjl,ht,Zfl] at ha;exact ha
 case append sz by_ str flat x y=>
  simp only[vop,Zs2,Zgg] at h;obtain⟨e,h7,h⟩:=Za h;cases h;obtain⟨g2,g3⟩:=Zzz h7;refine⟨rfl,fun k hk=>?_,fun k hk=>by simp only[g2,Ky] at hk⟩;rcases g3 with ⟨g1,g3⟩ | ⟨id,nm,o,g4,g3,g1⟩
  ·have aa:k∈e.dels:=by
    rcases hk with hk | ⟨o',hk⟩
    ·exact hk
    ·simp only[g1,Ky] at hk
   rcases g3 k aa with g4 | ⟨g4,g5⟩
   ·refine⟨⟨x,by simp[ZI],?_⟩,fun a ha=>?_⟩
    ·rcases g4 with g4 | ⟨o,n,g4⟩<;>rw[g4]<;>simp[ZB,ZC,Zm]
    ·simp only[Zjl,Ke] at ha;rcases g4 with g4 | ⟨o,n,g4⟩<;>rw[g4] at ha<;>exact ha.1
   ·refine⟨⟨y,by simp[ZI],by rw[g5];simp[ZB,ZC,Zm]⟩,fun a ha=>?_⟩;simp only[Zjl,Ke,g4,Bool.false_or] at ha;rw[g5] at ha;exact ha.2
  ·have aa:k=id:=by
    rcases hk with hk | ⟨o',hk⟩
    ·simp only[g3,Ky] at hk
    ·simp only[g1,KA,Prod.mk.injEq] at hk;exact hk.1
   subst aa;refine⟨⟨x,by simp[ZI],by rw[g4];simp[ZB,ZC,Zm]⟩,fun a ha=>?_⟩;simp only[Zjl,Ke] at ha;rw[g4] at ha;exact ha.1
theorem Zv2 {C:Orc} {M:Zn} {os:List CO} {nx i j:Nat} {oi oj:CO} (ae:os[i]?=some oi) (ak:os[j]?=some oj) (ar:ZZ os i=true) (am:ZZ os j=false) (a3:i≠j) (au:Xz oj oi=true)
  (an:∀ (k:Nat) (o:CO),os[k]?=some o→∀ x∈ZI o.op,Y5 x=true) {s s1 s2:Sl×Hp} {U:Nat→Prop} (hs:Zh7 nt s U) (a4:Xk U (nx+64*i)) (av:Xk U (nx+64*j)) (hl:LooseS s.1 oj.op oi.op)
  (h1:ZG C M os nx j s=some s1) (h2:ZG C M os nx i s1=some s2):∃ t1,ZG C M os nx i s=some t1∧∃ t2,ZG C M os nx j t1=some t2∧XW t2 s2:=by
 obtain⟨F,A,I,Γ,a,w,ag⟩:=hs;simp only[Xz,Ke] at au;obtain⟨⟨aw,ax⟩,al⟩:=au;have good:∀ (k:Nat) (o:CO),os[k]?=some o→∀ x∈ZI o.op,Zjj U (evO s.1 x):=by
  intro k o ho x hx;cases x with
  | t n=>exact ag.good n
  | v y=>exact Jz (an k o ho _ hx)
  | f n=>exact⟨fun id a5=>by simp[evO,ZB,ZC] at a5,fun f a6 h c hc=>by cases h;simp at hc⟩
 simp only[ZG,ak,Zg,am] at h1;simp only[ZG,ae,Zg,ar] at h2;obtain⟨vj,aj,rfl,ao,ay⟩:=Zix h1;obtain⟨a7,hl⟩:=hl;unfold ZM at h2;obtain⟨b,hw,h2⟩:=Za h2;have az : Z3 s.1 oi.guard=some b:=by rw[← hw];exact(Qx aw).symm
 cases b with
 | false=>
  simp only[Ka,Ko] at h2;cases h2;refine⟨(Zp s.1 oi.dst (.tup []),s.2),by simp only[ZG,ae,Zg,ZM,az,Ka,Ko],?_⟩;have e2:=ay (Zp s.1 oi.dst (.tup []),s.2) (Qx al) (Xg C M s.2 (nx+64*j) (WD (o:=oj) al));exact⟨(Zp (Zp s.1 oi.dst (.tup [])) oj.dst vj,Zh s.2 aj),by simp only[ZG,ak,Zg,am];exact e2,fun t=>(Uw ax vj (.tup []) t).symm,fun id=>rfl⟩
 | true=>
  simp only[Km] at h2;obtain⟨ce,h3,h4,rfl⟩:=Q3 h2;have a0 : vop C M s.1 s.2 (nx+64*i) oi.op=some ce:=by
   have h5:=Zbi h3;rw[← h5,Xg C M (Zh s.2 aj) (nx+64*i) (WD (o:=oi) aw)];exact Zay (ag.agree (WE av ao s.2)) C M _ (good i oi ae)
  have aa:=W3 h4;obtain⟨k1,k2,k3⟩:=ZAS a7 a0;obtain⟨e,gn⟩:=ce;simp only at k1 k2 k3;subst k1;have ap:∀ k∈e.frz,U k:=fun k hk=>by
   obtain⟨x,hx,hk⟩:=k3 k hk;exact(good i oi ae x hx).1 k hk
  have ah:∀ k,k∈e.dels∨(∃ o,(k,o)∈e.sets)→U k:=fun k hk=>by
   obtain⟨⟨x,hx,hk⟩,_⟩:=k2 k hk;exact(good i oi ae x hx).1 k hk
  have ai:∀ s:Sl×Hp,Zd.on { eff:=e,gone:=[] } oi.dst s.1 s.2=(Zp s.1 oi.dst e.val,Zh (Zh (Qm (Qc e.frz s.2) e.dels) e.sets) e.adds):=by
   intro s;rfl
  refine⟨Zd.on { eff:=e,gone:=[] } oi.dst s.1 s.2,?_,?_⟩
  ·simp only[ZG,ae,Zg,ZM,az,Km,YH,ar,WA];rw[a0,Zg,Ki h4]
  ·have ab:∀ k,U k→¬(k∈e.dels∨∃ o,(k,o)∈e.sets)→FzEq (lkp s.2 k) (lkp (Zh (Zh (Qm (Qc e.frz s.2) e.dels) e.sets) e.adds) k):=by
    intro k hk aq;rw[not_or] at aq;rw[← WE a4 aa _ k hk,Zv _ _ k (fun o ho=>aq.2 ⟨o,ho⟩),V5 _ _ k aq.1,Z8];exact⟨_,rfl⟩
   have e2:ZM C M nx j false oj (Zd.on { eff:=e,gone:=[] } oi.dst s.1 s.2)=some (Zp (Zd.on { eff:=e,gone:=[] } oi.dst s.1 s.2).1 oj.dst vj,Zh (Zd.on { eff:=e,gone:=[] } oi.dst s.1 s.2).2 aj):=by
    rw[ai];refine ay (Zp s.1 oi.dst e.val,Zh (Zh (Qm (Qc e.frz s.2) e.dels) e.sets) e.adds) (Qx al) ?_;rw[Xg C M _ (nx+64*j) (WD (o:=oj) al)];rcases hl with hl | ⟨a8,a9⟩
    ·exact Zjp hl
    ·refine vop_fz a8 fun z hz k hk=>?_;refine ab k ((good j oj ak z hz).1 k hk) fun hp=>?_;exact ZnO (Zgr ((k2 k hp).2 _ a9) z hz) hk
   refine⟨_,by simp only[ZG,ak,Zg,am];exact e2,fun t=>?_,fun k=>?_⟩
   ·rw[ai,ai (Zp s.1 oj.dst vj,Zh s.2 aj)];exact(Uw ax vj e.val t).symm
   ·rw[ai,ai (Zp s.1 oj.dst vj,Zh s.2 aj)];show lkp (Zh (Zh (Zh (Qm (Qc e.frz s.2) e.dels) e.sets) e.adds) aj) k=lkp (Zh (Zh (Qm (Qc e.frz (Zh s.2 aj)) e.dels) e.sets) e.adds) k;have a1:∀ (B:Hp) (hp hp' : Hp),(∀ k,lkp hp k=lkp hp' k)→∀ k,lkp (Zh hp B) k=lkp (Zh hp' B) k:=fun B hp hp' h=>ZbX B h;have ad:∀ k,U k→∀ o',(k,o')∉aj:=fun k hk o' af=>by
     have:=ao k o' af;exact av k this.1 this.2 hk
    rw[ZrA (A:=e.adds) (B:=aj) (fun k x y hx hy=>by
     have:=aa k x hx;have:=ao k y hy;rcases Lw a3 with h | h<;>omega)]
    refine a1 e.adds _ _ (fun k=>?_) k;rw[ZrA (A:=e.sets) (B:=aj) (fun k x y hx hy=>ad k (ah k (.inr ⟨x,hx⟩)) y hy) (Qm (Qc e.frz s.2) e.dels) k];refine a1 e.sets _ _ (fun k=>?_) k;by_cases hd:k∈e.dels
    ·rw[Zv aj _ k (ad k (ah k (.inl hd))),ZnQ hd,ZnQ hd]
    ·rw[V5 _ _ k hd];rw[Z8];by_cases hk:∃ o',(k,o')∈aj
     ·obtain⟨o',af⟩:=hk;rw[Zcq (hp':=s.2) ⟨o',af⟩];have a':k∉e.frz:=fun hf=>ad k (ap k hf) o' af;cases lkp (Zh s.2 aj) k<;>simp[a']
     ·have a2 : ∀ o',(k,o')∉aj:=fun o' af=>hk ⟨o',af⟩;rw[Zv aj _ k a2,Zv aj _ k a2,V5 _ _ k hd,Z8]
theorem Zyc {C:Orc} {M:Zn} {os:List CO} {nx i j:Nat} {oi oj:CO} (ab:os[i]?=some oi) (ad:os[j]?=some oj) (ae:Zws oi.op=true) (af:ZZ os j=false) (ag:i≠j) (ah:Xz oj oi=true)
  (aa:∀ (k:Nat) (o:CO),os[k]?=some o→∀ x∈ZI o.op,Y5 x=true) {s s1 s2:Sl×Hp} {U:Nat→Prop} (hs:Zh7 nt s U) (ai:Xk U (nx+64*i)) (aj:Xk U (nx+64*j))
  (h1:ZG C M os nx j s=some s1) (h2:ZG C M os nx i s1=some s2):∃ t1,ZG C M os nx i s=some t1∧∃ t2,ZG C M os nx j t1=some t2∧XW t2 s2:=by
 have e:∀ s:Sl×Hp,ZG C M os nx i s=ZM C M nx i false oi s:=fun s=>by
  simp only[ZG,ab,Zg];cases ZZ os i
  ·rfl
  ·exact Zya ae s
 rw[e] at h2;simp only[e];exact ZnM ab ad af ag ah aa hs ai aj h1 h2
theorem ZsP {hp:Hp} {base s:Nat} {vs:List AV} {ce:Zd} (h:buildSl hp base s vs=some ce):ce.gone=[]:=by
 cases vs with
 | nil=>simp only[buildSl,QM] at h;first | (cases h;rfl) | (split at h<;>first | (cases h;rfl) | cases h)
 | cons v r=>
  simp only[buildSl] at h;obtain⟨q,_,h⟩:=Za h;unfold Zwf at h;split at h
  ·cases h;rfl
  ·cases h
theorem Zun {C:Orc} {M:Zn} {sl:Sl} {hp:Hp} {base:Nat} {c:COp} {ce:Zd} (hc:Zfj c=true) (h:vop C M sl hp base c=some ce):ce.gone=[]:=by
 cases c<;>first | (cases hc;done) | skip
 ·simp only[vop] at h;exact ZsP h
 ·simp only[vop,Zs2,Zgg] at h;obtain⟨e,_,h⟩:=Za h;cases h;rfl
theorem Zyd {C:Orc} {M:Zn} {nx j:Nat} {oj:CO} {s s1:Sl×Hp} (hm:Va oj.op=true) (h:ZM C M nx j false oj s=some s1) :
  ∃ v,s1=(Zp s.1 oj.dst v,s.2)∧∀ aa : Sl×Hp,Z3 aa.1 oj.guard=Z3 s.1 oj.guard→(∀ x∈ZI oj.op,evO aa.1 x=evO s.1 x)→ZM C M nx j false oj aa=some (Zp aa.1 oj.dst v,aa.2):=by
 obtain⟨x,hx⟩:∃ x,oj.op=.move x:=by
  cases ho:oj.op<;>rw[ho] at hm<;>first | (cases hm;done) | exact⟨_,rfl⟩
 unfold ZM at h ⊢;obtain⟨b,hw,h⟩:=Za h;cases b with
 | true=>
  simp only[Km,hx,WA,Ka,Ko,vop] at h;refine⟨evO s.1 x,?_,fun aa g1 g2=>?_⟩
  ·cases h;rfl
  ·rw[g1,hw,Zg];have e:=g2 x (by rw[hx];simp[ZI]);simp only[Km,hx,WA,Ka,Ko,vop,e];rfl
 | false=>
  simp only[Ka,Ko] at h;cases h;refine⟨.tup [],rfl,fun aa g1 g2=>?_⟩;rw[g1,hw,Zg];rfl
theorem Zye {C:Orc} {M:Zn} {os:List CO} {nx i j:Nat} {oi oj:CO} (ad:os[i]?=some oi) (ae:os[j]?=some oj) (af:ZZ os j=false) (ah:Xz oj oi=true)
  {s s1 s2:Sl×Hp} (hm:Va oj.op=true) (hg:Zfj oi.op=true)
  (h1:ZG C M os nx j s=some s1) (h2:ZG C M os nx i s1=some s2):∃ t1,ZG C M os nx i s=some t1∧∃ t2,ZG C M os nx j t1=some t2∧XW t2 s2:=by
 simp only[Xz,Ke] at ah;obtain⟨⟨ai,aj⟩,ab⟩:=ah;simp only[ZG,ae,Zg,af] at h1;simp only[ZG,ad,Zg] at h2;obtain⟨vj,rfl,ak⟩:=Zyd hm h1;unfold ZM at h2;obtain⟨b,hw,h2⟩:=Za h2;have al : Z3 s.1 oi.guard=some b:=by rw[← hw];exact(Qx ai).symm
 cases b with
 | false=>
  simp only[Ka,Ko] at h2;cases h2;refine⟨(Zp s.1 oi.dst (.tup []),s.2),by simp only[ZG,ad,Zg,ZM,al,Ka,Ko],?_⟩;exact⟨(Zp (Zp s.1 oi.dst (.tup [])) oj.dst vj,s.2),by simp only[ZG,ae,Zg,af];exact ak (Zp s.1 oi.dst (.tup []),s.2) (Qx ab) (WD (o:=oj) ab),fun t=>(Uw aj vj (.tup []) t).symm,fun id=>rfl⟩
 | true=>
  simp only[Km] at h2;obtain⟨ce,h3,h4,rfl⟩:=Q3 h2;have aa:=Zun hg (Zbi h3);have am : WA C M nx i (ZZ os i) oi.op s.1 s.2=some ce:=by
   rw[← h3];unfold WA;rw[Xg C M s.2 (nx+64*i) (WD (o:=oi) ai)]
  have ag:∀ (sl:Sl) (hp:Hp),ce.on oi.dst sl hp=(Zp sl oi.dst ce.eff.val,ce.eff.on hp):=by
   intro sl hp;unfold Zd.on;rw[aa];rfl
  refine⟨ce.on oi.dst s.1 s.2,?_,?_⟩
  ·simp only[ZG,ad,Zg,ZM,al,Km,YH];rw[am,Zg,Ki h4]
  ·rw[ag];refine⟨(Zp (Zp s.1 oi.dst ce.eff.val) oj.dst vj,ce.eff.on s.2),by simp only[ZG,ae,Zg,af];exact ak (Zp s.1 oi.dst ce.eff.val,ce.eff.on s.2) (Qx ab) (WD (o:=oj) ab),fun t=>?_,fun k=>?_⟩
   ·rw[ag];exact(Uw aj vj ce.eff.val t).symm
   ·rw[ag]
theorem awayV_ptr {sl:Sl} {xs:List Opd} {v:AV} (h:ZcI sl xs v=true) {k off:Nat} (e:v=.ptr k off):∀ z∈xs,k∉ZB (evO sl z):=by
 subst e;exact fun z hz=>ZnO (Zgr h z hz)
structure ZnR (r:Sl) (oX oY:CO):Prop where
 opd:∀ x∈ZI oX.op,okV (evO r x)=true
 dst:∀ t,oX.dst=some t→okV (gs r t)=true
 arg:∀ y∈ZkO oY.op,okV (evO r y)=true
 away:∀ y∈ZkO oY.op,∀ k off,evO r y=.ptr k off→∀ z∈ZI oX.op,k∉ZB (evO r z)
theorem ZsQ {sl:Sl}:∀ {xs:List Opd},okL sl xs=true→∀ x∈xs,okV (evO sl x)=true
 | [],_,x,hx=>by simp at hx
 | y :: ys,h,x,hx=>by
  simp only[okL,Ke] at h;rcases Kf.1 hx with rfl | hx
  ·exact h.1
  ·exact ZsQ h.2 x hx
theorem ZrB {sl:Sl} {xs:List Opd}:∀ {ys:List Opd},ZgG sl xs ys=true→∀ y∈ys,ZcI sl xs (evO sl y)=true
 | [],_,x,hx=>by simp at hx
 | y :: ys,h,x,hx=>by
  simp only[ZgG,Ke] at h;rcases Kf.1 hx with rfl | hx
  ·exact h.1
  ·exact ZrB h.2 x hx
theorem Zuo {r:Sl} {oX oY:CO} (hm:Va oX.op=false) (hc:Za3 oY.op=true) (h:Ja r oX.dst oX.op oY.op=true):ZnR r oX oY:=by
 obtain⟨f,as,ho⟩:∃ f as,oY.op=.call (.f f) as:=by
  cases ho:oY.op<;>rw[ho] at hc<;>first | (cases hc;done) | skip
  rename_i f as;cases f<;>first | (cases hc;done) | exact⟨_,_,rfl⟩
 rw[ho] at h;have h' : (okL r (ZI oX.op)&&(okD r oX.dst&&(okL r as&&ZgG r (ZI oX.op) as)))=true:=by
  cases hx:oX.op<;>rw[hx] at h hm<;>first | (cases hm;done) | exact h
 simp only[Ke] at h';obtain⟨h1,h2,h3,h4⟩:=h';refine⟨ZsQ h1,fun t ht=>?_,?_,?_⟩
 ·rw[ht] at h2;exact h2
 ·rw[ho];exact ZsQ h3
 ·rw[ho];intro y hy k off e;exact awayV_ptr (ZrB h4 y hy) e
theorem ZnR.move {r r' : Sl} {oX oY:CO} (h:ZnR r oX oY) (h1:∀ n∈(ZI oX.op).flatMap Zbz,okV (gs r n)=true→gs r' n=gs r n) (h2:∀ n,oX.dst=some n→okV (gs r n)=true→gs r' n=gs r n)
  (h3:∀ n∈(ZkO oY.op).flatMap Zbz,okV (gs r n)=true→gs r' n=gs r n):ZnR r' oX oY:=by
 have e1:∀ x∈ZI oX.op,evO r' x=evO r x:=fun x hx=>by
  have ho:=h.opd x hx;cases x with
  | t n=>exact h1 n (Kv.2 ⟨_,hx,by simp[Zbz]⟩) ho
  | _=>rfl
 have e3:∀ x∈ZkO oY.op,evO r' x=evO r x:=fun x hx=>by
  have ho:=h.arg x hx;cases x with
  | t n=>exact h3 n (Kv.2 ⟨_,hx,by simp[Zbz]⟩) ho
  | _=>rfl
 refine⟨fun x hx=>by rw[e1 x hx];exact h.opd x hx,fun t ht=>by rw[h2 t ht (h.dst t ht)];exact h.dst t ht,fun x hx=>by rw[e3 x hx];exact h.arg x hx,fun y hy k off e z hz=>?_⟩;rw[e3 y hy] at e;rw[e1 z hz];exact h.away y hy k off e z hz
theorem ZnS {C:Orc} {M:Zn} {os:List CO} {nx x y:Nat} {oX oY:CO} (ay:os[x]?=some oX) (a1:os[y]?=some oY) (a2:x≠y) (ak:QN oY.dst (looks oX)=true) (aw:QN oX.dst (looks oY)=true)
  (ad:QN oX.dst (looks oX)=true) (al:QN oY.dst (looks oY)=true)
  (ar:∀ (k:Nat) (o:CO),os[k]?=some o→∀ x∈ZI o.op,Y5 x=true) {s:Sl×Hp} {r:Sl} {U:Nat→Prop} (hs:Zh7 nt s U) (a3:Xk U (nx+64*x)) (a4:Xk U (nx+64*y))
  (ae:Za3 oY.op=true) {ce:Zd} (a5:vop C M s.1 s.2 (nx+64*y) oY.op=some ce) (a6:QT (nx+64*y) (nx+64*y+64) ce.eff.adds=true)
  (am:∀ n,oX.dst≠some n→oY.dst≠some n→gs r n=kill ce.gone (gs s.1 n)) (aa:ZnR r oX oY) :
  ce.eff.dels=[]∧(∀ z∈ZI oX.op,evO (ce.on oY.dst s.1 s.2).1 z=evO s.1 z)∧(∀ z∈ZI oX.op,∀ id∈ZB (evO s.1 z),id∉ce.gone)∧(∀ z∈ZI oX.op,Zjo ce.gone s.2 (ce.on oY.dst s.1 s.2).2 (evO s.1 z)) ∧
  (∀ k,nx+64*x≤k→k<nx+64*x+64→(∀ o',(k,o')∉ce.eff.sets)∧(∀ o',(k,o')∉ce.eff.adds)∧k∉ce.eff.frz∧k∉ce.gone):=by
 obtain⟨F,A,I,Γ,a,w,au⟩:=hs;have good:∀ (k:Nat) (o:CO),os[k]?=some o→∀ x∈ZI o.op,Zjj U (evO s.1 x):=by
  intro k o ho x hx;cases x with
  | t n=>exact au.good n
  | v y=>exact Jz (ar k o ho _ hx)
  | f n=>exact⟨fun id av=>by simp[evO,ZB,ZC] at av,fun f a7 h c hc=>by cases h;simp at hc⟩
 obtain⟨f,as,ho⟩:∃ f as,oY.op=.call (.f f) as:=by
  cases ho:oY.op<;>rw[ho] at ae<;>first | (cases ae;done) | skip
  rename_i f as;cases f<;>first | (cases ae;done) | exact⟨_,_,rfl⟩
 have an:=a5;rw[ho] at an;simp only[vop,evO,ZcB,K8] at an;obtain⟨k1,k2,k3,k4⟩:=Zyp an;have ab:∀ n,(Opd.t n)∈ZI oX.op→n∈looks oX:=fun n hn=>Kg.2 (.inl (Kv.2 ⟨_,hn,by simp[Zbz]⟩));have ai:∀ n,(Opd.t n)∈as→n∈looks oY:=fun n hn=>Kg.2 (.inl (Kv.2 ⟨.t n,by rw[ho];simp[ZI,hn],by simp[Zbz]⟩));have ne:∀ {d:Option Nat} {l:List Nat} {n:Nat},QN d l=true→n∈l→d≠some n:=fun {d l n} h hn e=>by
  rw[e] at h;simp only[QN,KW,KQ,KY] at h;exact h hn
 have ax:∀ z∈ZI oX.op,evO r z=evO s.1 z∧∀ id∈ZB (evO s.1 z),id∉ce.gone:=by
  intro z hz;have af:=aa.opd z hz;cases z with
  | t n=>
   have e:=am n (ne ad (ab n hz)) (ne ak (ab n hz));simp only[evO] at af ⊢;rw[e] at af ⊢;have:=Zcn af;exact⟨this,ZzB this⟩
  | v c=>
   have:=ar x oX ay _ hz;simp only[Y5,Ke,List.isEmpty_iff] at this;exact⟨rfl,fun id av=>by simp only[evO] at av;rw[this.1] at av;simp at av⟩
  | f n=>simp only[evO,okV,okC] at af;cases af
 have az:∀ z∈as,evO r z=evO s.1 z:=by
  intro z hz;have af:=aa.arg z (by rw[ho];exact hz);cases z with
  | t n=>
   have e:=am n (ne aw (ai n hz)) (ne al (ai n hz));simp only[evO] at af ⊢;rw[e] at af ⊢;exact Zcn af
  | _=>rfl
 have a0:∀ id,(∃ o,lkp s.2 id=some o)→U id:=fun id ⟨o,h⟩=>au.id_in h;have uX:∀ k,nx+64*x≤k→k<nx+64*x+64→¬U k:=fun k h1 h2=>a3 k h1 h2;have aj:=W3 a6;have ag:∀ z∈ZI oX.op,∀ k∈ZB (evO s.1 z),∀ o',(k,o')∉ce.eff.sets:=by
  intro z hz k hk o' ao;rcases (k4 k o' ao).2 with h | ⟨v,hv,ap⟩
  ·exact(ax z hz).2 k hk h
  ·obtain⟨y',aq,rfl⟩:=Zhs hv;have ah:=aa.arg y' (by rw[ho];exact aq);rw[az y' aq] at ah;cases hp:evO s.1 y' with
   | ptr a b=>
    rw[hp] at ap;simp only[Zbh,KA] at ap;subst ap;have:=aa.away y' (by rw[ho];exact aq) k b (by rw[az y' aq,hp]) z hz;rw[(ax z hz).1] at this;exact this hk
   | clo g cs=>rw[hp] at ah;simp only[okV,okC] at ah;cases ah
   | _=>rw[hp] at ap;simp[Zbh] at ap
 refine⟨k1,fun z hz=>?_,fun z hz=>(ax z hz).2,fun z hz k hk=>?_,fun k g1 g2=>⟨fun o' ao=>?_,fun o' ao=>?_,fun hf=>?_,fun hg=>?_⟩⟩
 ·cases z with
  | t n=>
   show gs (Zp (Xa ce.gone s.1) oY.dst ce.eff.val) n=gs s.1 n;rw[Qw,Kd (ne ak (ab n hz)),QQ];have e:=am n (ne ad (ab n hz)) (ne ak (ab n hz));have:=aa.opd _ hz;simp only[evO] at this;rw[e] at this;exact Zcn this
  | _=>rfl
 ·have a8:U k:=(good x oX ay z hz).1 k hk;show Zco ce.gone (lkp s.2 k) (lkp (ce.eff.on (Y4 ce.gone s.2)) k);unfold Eff.on;rw[k1];simp only[Qm];rw[Zv,Zv,Z8,Vv]
  ·exact Zus _
  ·exact ag z hz k hk
  ·intro o' ao;obtain⟨h1,h2⟩:=aj k o' ao;exact a4 k h1 h2 a8
 ·exact uX k g1 g2 (a0 k (k4 k o' ao).1)
 ·have:=aj k o' ao;rcases Lw a2 with h | h<;>omega
 ·obtain⟨v,hv,ap⟩:=k2 k hf;obtain⟨y',aq,rfl⟩:=Zhs hv;exact uX k g1 g2 ((good y oY a1 y' (by rw[ho];simp[ZI,aq])).1 k ap)
 ·exact uX k g1 g2 (a0 k (k3 k hg))
theorem Zv3 {C:Orc} {M:Zn} {os:List CO} {nx i j:Nat} {oi oj:CO} (ah:os[i]?=some oi) (av:os[j]?=some oj) (az:ZZ os j=false) (a0:i≠j) (aw:Xz oj oi=true)
  (ad:QN oj.dst (looks oj)=true) (ae:QN oi.dst (looks oi)=true)
  (ai:∀ (k:Nat) (o:CO),os[k]?=some o→∀ x∈ZI o.op,Y5 x=true) {s s1 s2:Sl×Hp} {U:Nat→Prop} (hs:Zh7 nt s U) (a1:Xk U (nx+64*i)) (ap:Xk U (nx+64*j))
  (aj:Za3 oi.op=true) (a2:Zos oj.op=true) (aa:ZnR s2.1 oj oi) {t:Nat} (ht:oj.dst=some t)
  (h1:ZG C M os nx j s=some s1) (h2:ZG C M os nx i s1=some s2):∃ t1,ZG C M os nx i s=some t1∧∃ t2,ZG C M os nx j t1=some t2∧XW t2 s2:=by
 have a3:=hs;obtain⟨F,A,I,Γ,a,w,af⟩:=a3;simp only[Xz,Ke] at aw;obtain⟨⟨am,an⟩,ao⟩:=aw;have good:∀ (k:Nat) (o:CO),os[k]?=some o→∀ x∈ZI o.op,Zjj U (evO s.1 x):=by
  intro k o ho x hx;cases x with
  | t n=>exact af.good n
  | v y=>exact Jz (ai k o ho _ hx)
  | f n=>exact⟨fun id a4=>by simp[evO,ZB,ZC] at a4,fun f a5 h c hc=>by cases h;simp at hc⟩
 have ab:∀ s:Sl×Hp,ZG C M os nx j s=ZM C M nx j false oj s:=fun s=>by simp only[ZG,av,Zg,az]
 rw[ab] at h1;simp only[ZG,ah,Zg] at h2;obtain⟨v,ax,a6,aq,hX⟩:∃ v ax,s1=(Zp s.1 oj.dst v,Zh s.2 ax)∧(∀ k x,(k,x)∈ax→nx+64*j≤k∧k<nx+64*j+64) ∧
   ((Z3 s.1 oj.guard=some false∧v=.tup []∧ax=[])∨(Z3 s.1 oj.guard=some true∧∃ ce,ZkD ce∧vop C M s.1 s.2 (nx+64*j) oj.op=some ce∧QT (nx+64*j) (nx+64*j+64) ce.eff.adds=true∧v=ce.eff.val∧ax=ce.eff.adds)):=by
  rcases Zwc h1 with ⟨g1,g2⟩ | ⟨g1,ce,g2,g3,g4,g5⟩
  ·exact⟨.tup [],[],g2,fun k x h=>by simp at h,.inl ⟨g1,rfl,rfl⟩⟩
  ·exact⟨ce.eff.val,ce.eff.adds,g5,W3 g4,.inr ⟨g1,ce,g2,g3,g4,rfl,rfl⟩⟩
 subst a6;unfold ZM at h2;obtain⟨b,hw,h2⟩:=Za h2;have ay : Z3 s.1 oi.guard=some b:=by rw[← hw];exact(Qx am).symm
 cases b with
 | false=>
  simp only[Ka,Ko] at h2;cases h2;refine⟨(Zp s.1 oi.dst (.tup []),s.2),by simp only[ZG,ah,Zg];exact YE ay,?_⟩;refine⟨(Zp (Zp s.1 oi.dst (.tup [])) oj.dst v,Zh s.2 ax),?_,fun t=>(Uw an v (.tup []) t).symm,fun id=>rfl⟩;rw[ab];have ak:Z3 (Zp s.1 oi.dst (.tup [])) oj.guard=Z3 s.1 oj.guard:=Qx ao;rcases hX with ⟨g1,rfl,rfl⟩ | ⟨g1,ce,g2,g3,g4,rfl,rfl⟩
  ·exact YE (s:=(Zp s.1 oi.dst (.tup []),s.2)) (ak.trans g1)
  ·refine Zhu (s:=(Zp s.1 oi.dst (.tup []),s.2)) (ak.trans g1) g2 ?_ g4;rw[← g3];exact Xg C M s.2 (nx+64*j) (WD (o:=oj) ao)
 | true=>
  simp only[Km] at h2;obtain⟨ce,h3,h4,rfl⟩:=Q3 h2;have a7:vop C M s.1 s.2 (nx+64*i) oi.op=some ce:=by
   have h5:=Zbi h3;rw[← h5,Xg C M (Zh s.2 ax) (nx+64*i) (WD (o:=oi) am)];exact Zay (af.agree (WE ap aq s.2)) C M _ (good i oi ah)
  have a8 : WA C M nx i (ZZ os i) oi.op s.1 s.2=some ce:=by
   rw[← h3];unfold WA;rw[Xg C M (Zh s.2 ax) (nx+64*i) (WD (o:=oi) am),Zay (af.agree (WE ap aq s.2)) C M _ (good i oi ah)]
  have ar:∀ n,oj.dst≠some n→oi.dst≠some n→gs (ce.on oi.dst (Zp s.1 oj.dst v) (Zh s.2 ax)).1 n=kill ce.gone (gs s.1 n):=fun n e1 e2=>by
   show gs (Zp (Xa ce.gone (Zp s.1 oj.dst v)) oi.dst ce.eff.val) n=_;rw[Qw,Kd e2,QQ,Qw,Kd e1]
  obtain⟨c1,c2,c3,c4,c5⟩:=ZnS (nt:=nt) av ah (Ne.symm a0) ao am ad ae ai hs ap a1 aj a7 h4 ar aa;have e0:gs (ce.on oi.dst (Zp s.1 oj.dst v) (Zh s.2 ax)).1 t=kill ce.gone v:=by
   show gs (Zp (Xa ce.gone (Zp s.1 oj.dst v)) oi.dst ce.eff.val) t=_;rw[Qw,Kd,QQ,Qw,Ki ht];intro e;rw[ht,e] at an;simp[ZaF] at an
  have ag:kill ce.gone v=v:=by
   have h5:=aa.dst t ht;rw[e0] at h5;exact Zcn h5
  have au:okV v=true:=by
   have h5:=aa.dst t ht;rw[e0,ag] at h5;exact h5
  refine⟨ce.on oi.dst s.1 s.2,?_,?_⟩
  ·simp only[ZG,ah,Zg,ZM,ay,Km,YH];rw[a8,Zg,Ki h4]
  ·have ak:Z3 (ce.on oi.dst s.1 s.2).1 oj.guard=Z3 s.1 oj.guard:=by
    show Z3 (Zp (Xa ce.gone s.1) oi.dst ce.eff.val) oj.guard=_;rw[Qx ao];exact Zhv fun q _=>QQ _ _ _
   have al:(∀ k o,(k,o)∈ax→XV ce.gone o=o)∧ZM C M nx j false oj (ce.on oi.dst s.1 s.2)=some (Zp (ce.on oi.dst s.1 s.2).1 oj.dst v,Zh (ce.on oi.dst s.1 s.2).2 ax):=by
    rcases hX with ⟨g1,rfl,rfl⟩ | ⟨g1,cx,g2,g3,g4,rfl,rfl⟩
    ·exact⟨fun k o h=>by simp at h,YE (ak.trans g1)⟩
    ·obtain⟨e1,e2⟩:=Zyn a2 c2 c4 (fun k h6 h7=>(c5 k h6 h7).2.2.2) g3 g4 g2.frz au ag;exact⟨e2,Zhu (ak.trans g1) g2 e1 g4⟩
   obtain⟨e3,e4⟩:=al;refine⟨_,by rw[ab];exact e4,?_⟩;exact Zxq (ce:=ce) (dX:=oj.dst) (dY:=oi.dst) (v:=v) (ax:=ax) (s:=s) an c1 (fun k o ho=>by
    obtain⟨h6,h7⟩:=aq k o ho;obtain⟨m1,m2,m3,_⟩:=c5 k h6 h7;exact⟨m1,m2,m3⟩) e3 ag
theorem Zup {C:Orc} {M:Zn} {os:List CO} {nx i j:Nat} {oi oj:CO} (ar:os[i]?=some oi) (ag:os[j]?=some oj) (ay:ZZ os i=false) (az:i≠j) (au:Xz oj oi=true)
  (ad:QN oi.dst (looks oi)=true) (ae:QN oj.dst (looks oj)=true)
  (ah:∀ (k:Nat) (o:CO),os[k]?=some o→∀ x∈ZI o.op,Y5 x=true) {s s1 s2:Sl×Hp} {U:Nat→Prop} (hs:Zh7 nt s U) (av:Xk U (nx+64*i)) (a0:Xk U (nx+64*j))
  (ai:Za3 oj.op=true) (a1:ZjE oi.op=true) (ab:ZnR s2.1 oi oj) {t:Nat} (ht:oi.dst=some t)
  (h1:ZG C M os nx j s=some s1) (h2:ZG C M os nx i s1=some s2):∃ t1,ZG C M os nx i s=some t1∧∃ t2,ZG C M os nx j t1=some t2∧XW t2 s2:=by
 have a2:=hs;obtain⟨F,A,I,Γ,a,w,aj⟩:=a2;simp only[Xz,Ke] at au;obtain⟨⟨an,ao⟩,ak⟩:=au;have af : ZaF oi.dst oj.dst=true:=by
  cases hd:oi.dst<;>cases he:oj.dst<;>rw[hd,he] at ao<;>first | rfl | (simp only[ZaF,bne_iff_ne,ne_eq] at ao ⊢;exact fun e=>ao e.symm)
 have good:∀ (k:Nat) (o:CO),os[k]?=some o→∀ x∈ZI o.op,Zjj U (evO s.1 x):=by
  intro k o ho x hx;cases x with
  | t n=>exact aj.good n
  | v y=>exact Jz (ah k o ho _ hx)
  | f n=>exact⟨fun id a3=>by simp[evO,ZB,ZC] at a3,fun f a4 h c hc=>by cases h;simp at hc⟩
 have aa:∀ s:Sl×Hp,ZG C M os nx i s=ZM C M nx i false oi s:=fun s=>by simp only[ZG,ar,Zg,ay]
 rw[aa] at h2;simp only[ZG,ag,Zg] at h1;unfold ZM at h1;obtain⟨b,hw,h1⟩:=Za h1;cases b with
 | false=>
  simp only[Ka,Ko] at h1;cases h1;have al:Z3 (Zp s.1 oj.dst (.tup [])) oi.guard=Z3 s.1 oi.guard:=Qx an;rcases Zwc h2 with ⟨g1,g2⟩ | ⟨g1,ce,g2,g3,g4,g5⟩
  ·subst g2;refine⟨(Zp s.1 oi.dst (.tup []),s.2),by rw[aa];exact YE (al.symm.trans g1),(Zp (Zp s.1 oi.dst (.tup [])) oj.dst (.tup []),s.2),?_,fun t=>Uw af _ _ t,fun id=>rfl⟩;simp only[ZG,ag,Zg];exact YE (s:=(Zp s.1 oi.dst (.tup []),s.2)) ((Qx ak).trans hw)
  ·subst g5;refine⟨(Zp s.1 oi.dst ce.eff.val,Zh s.2 ce.eff.adds),?_,(Zp (Zp s.1 oi.dst ce.eff.val) oj.dst (.tup []),Zh s.2 ce.eff.adds),?_,fun t=>Uw af _ _ t,fun id=>rfl⟩
   ·rw[aa];refine Zhu (al.symm.trans g1) g2 ?_ g4;rw[← g3];exact(Xg C M s.2 (nx+64*i) (WD (o:=oi) an)).symm
   ·simp only[ZG,ag,Zg];exact YE (s:=(Zp s.1 oi.dst ce.eff.val,Zh s.2 ce.eff.adds)) ((Qx ak).trans hw)
 | true=>
  simp only[Km] at h1;obtain⟨ce,h3,h4,rfl⟩:=Q3 h1;have a5:vop C M s.1 s.2 (nx+64*j) oj.op=some ce:=Zbi h3;have al:Z3 (ce.on oj.dst s.1 s.2).1 oi.guard=Z3 s.1 oi.guard:=by
   show Z3 (Zp (Xa ce.gone s.1) oj.dst ce.eff.val) oi.guard=_;rw[Qx an];exact Zhv fun q _=>QQ _ _ _
  obtain⟨v,ax,a6,aw,hX⟩:∃ v ax,s2=(Zp (ce.on oj.dst s.1 s.2).1 oi.dst v,Zh (ce.on oj.dst s.1 s.2).2 ax)∧(∀ k x,(k,x)∈ax→nx+64*i≤k∧k<nx+64*i+64) ∧
    ((Z3 s.1 oi.guard=some false∧v=.tup []∧ax=[])∨(Z3 s.1 oi.guard=some true∧∃ cx,ZkD cx∧vop C M (ce.on oj.dst s.1 s.2).1 (ce.on oj.dst s.1 s.2).2 (nx+64*i) oi.op=some cx∧QT (nx+64*i) (nx+64*i+64) cx.eff.adds=true∧v=cx.eff.val∧ax=cx.eff.adds)):=by
   rcases Zwc h2 with ⟨g1,g2⟩ | ⟨g1,cx,g2,g3,g4,g5⟩
   ·exact⟨.tup [],[],g2,fun k x h=>by simp at h,.inl ⟨al.symm.trans g1,rfl,rfl⟩⟩
   ·exact⟨cx.eff.val,cx.eff.adds,g5,W3 g4,.inr ⟨al.symm.trans g1,cx,g2,g3,g4,rfl,rfl⟩⟩
  subst a6;have ap:∀ n,oi.dst≠some n→oj.dst≠some n→gs (Zp (ce.on oj.dst s.1 s.2).1 oi.dst v) n=kill ce.gone (gs s.1 n):=fun n e1 e2=>by
   rw[Qw,Kd e1];show gs (Zp (Xa ce.gone s.1) oj.dst ce.eff.val) n=_;rw[Qw,Kd e2,QQ]
  obtain⟨c1,c2,c3,c4,c5⟩:=ZnS (nt:=nt) ar ag az an ak ad ae ah hs av a0 ai a5 h4 ap ab;have aq:okV v=true:=by
   have h5:=ab.dst t ht;simp only[Qw,Ki ht] at h5;exact h5
  have am:kill ce.gone v=v∧(∀ k o,(k,o)∈ax→XV ce.gone o=o)∧ZM C M nx i false oi s=some (Zp s.1 oi.dst v,Zh s.2 ax):=by
   rcases hX with ⟨g1,rfl,rfl⟩ | ⟨g1,cx,g2,g3,g4,rfl,rfl⟩
   ·exact⟨rfl,fun k o h=>by simp at h,YE g1⟩
   ·obtain⟨e1,e2,e3⟩:=Zwb a1 c2 c4 c3 (fun k h6 h7=>(c5 k h6 h7).2.2.2) g3 g4 g2.frz aq;exact⟨e2,e3,Zhu g1 g2 e1 g4⟩
  obtain⟨hk,e3,e4⟩:=am;refine⟨(Zp s.1 oi.dst v,Zh s.2 ax),by rw[aa];exact e4,ce.on oj.dst (Zp s.1 oi.dst v) (Zh s.2 ax),?_,?_⟩
  ·simp only[ZG,ag,Zg,ZM];have a7:Z3 (Zp s.1 oi.dst v) oj.guard=some true:=(Qx ak).trans hw;simp only[a7,Zg,Km,YH];have:WA C M nx j (ZZ os j) oj.op (Zp s.1 oi.dst v) (Zh s.2 ax)=some ce:=by
    rw[← h3];unfold WA;rw[Xg C M (Zh s.2 ax) (nx+64*j) (WD (o:=oj) ak),← Zay (aj.agree (WE av aw s.2)) C M _ (good j oj ag)]
   rw[this,Zg,Ki h4]
  ·exact(Zxq (ce:=ce) (dX:=oi.dst) (dY:=oj.dst) (v:=v) (ax:=ax) (s:=s) af c1 (fun k o ho=>by
    obtain⟨h6,h7⟩:=aw k o ho;obtain⟨m1,m2,m3,_⟩:=c5 k h6 h7;exact⟨m1,m2,m3⟩) e3 hk).symm
theorem Ze7 {C:Orc} {M:Zn} {nx j:Nat} {oj:CO} {x:Opd} (hx:oj.op=.move x) {s:Sl×Hp} {b:Bool} (hw:Z3 s.1 oj.guard=some b) :
  ZM C M nx j false oj s=some (Zp s.1 oj.dst (if b then evO s.1 x else .tup []),s.2):=by
 unfold ZM;rw[hw,Zg];cases b
 ·rfl
 ·simp only[Km,hx,WA,Ka,Ko,vop];rfl
theorem Zv4 {C:Orc} {M:Zn} {os:List CO} {nx i j:Nat} {oi oj:CO} (af:os[i]?=some oi) (am:os[j]?=some oj) (an:ZZ os j=false) (ai:Xz oj oi=true)
  (ao:∀ (k:Nat) (o:CO),os[k]?=some o→∀ x∈ZI o.op,Y5 x=true)
  {s s1 s2:Sl×Hp} (hm:Va oj.op=true) {t:Nat} (ht:oj.dst=some t) (aj:okV (gs s2.1 t)=true)
  (h1:ZG C M os nx j s=some s1) (h2:ZG C M os nx i s1=some s2):∃ t1,ZG C M os nx i s=some t1∧∃ t2,ZG C M os nx j t1=some t2∧XW t2 s2:=by
 obtain⟨x,hx⟩:∃ x,oj.op=.move x:=by
  cases ho:oj.op<;>rw[ho] at hm<;>first | (cases hm;done) | exact⟨_,rfl⟩
 simp only[Xz,Ke] at ai;obtain⟨⟨ak,ad⟩,ab⟩:=ai;have aa:∀ s:Sl×Hp,ZG C M os nx j s=ZM C M nx j false oj s:=fun s=>by simp only[ZG,am,Zg,an]
 rw[aa] at h1;obtain⟨bj,ag⟩:∃ bj,Z3 s.1 oj.guard=some bj:=by
  unfold ZM at h1;obtain⟨b,hw,_⟩:=Za h1;exact⟨b,hw⟩
 rw[Ze7 hx ag] at h1;have h1:=(Option.some.inj h1).symm;subst h1;simp only[ZG,af,Zg] at h2;unfold ZM at h2;obtain⟨b,hw,h2⟩:=Za h2;have al : Z3 s.1 oi.guard=some b:=by rw[← hw];exact(Qx ak).symm
 have ap:oi.dst≠some t:=fun e=>by rw[ht,e] at ad;simp[ZaF] at ad
 have ae:∀ n,x=.t n→oi.dst≠some n:=fun n e h=>by
  rw[h] at ab;simp only[QN,KW,KQ,KY] at ab;exact ab (Kg.2 (.inl (by rw[hx,e];simp[ZI,Zbz])))
 cases b with
 | false=>
  simp only[Ka,Ko] at h2;cases h2;refine⟨(Zp s.1 oi.dst (.tup []),s.2),by simp only[ZG,af,Zg];exact YE al,?_⟩;refine⟨_,by rw[aa];exact Ze7 (s:=(Zp s.1 oi.dst (.tup []),s.2)) hx ((Qx ab).trans ag),?_⟩;have:evO (Zp s.1 oi.dst (.tup [])) x=evO s.1 x:=WD (o:=oj) ab x (by rw[hx];simp[ZI]);simp only[this];exact⟨fun t=>(Uw ad _ _ t).symm,fun id=>rfl⟩
 | true=>
  simp only[Km] at h2;obtain⟨ce,h3,h4,rfl⟩:=Q3 h2;have aq : WA C M nx i (ZZ os i) oi.op s.1 s.2=some ce:=by
   rw[← h3];unfold WA;rw[Xg C M s.2 (nx+64*i) (WD (o:=oi) ak)]
  refine⟨ce.on oi.dst s.1 s.2,by simp only[ZG,af,Zg,ZM,al,Km,YH];rw[aq,Zg,Ki h4],?_⟩;have ah:Z3 (ce.on oi.dst s.1 s.2).1 oj.guard=some bj:=by
   show Z3 (Zp (Xa ce.gone s.1) oi.dst ce.eff.val) oj.guard=_;rw[Qx ab,← ag];exact Zhv fun q _=>QQ _ _ _
  refine⟨_,by rw[aa];exact Ze7 hx ah,?_⟩;have e0:gs (ce.on oi.dst (Zp s.1 oj.dst (if bj then evO s.1 x else .tup [])) s.2).1 t=kill ce.gone (if bj then evO s.1 x else .tup []):=by
   show gs (Zp (Xa ce.gone (Zp s.1 oj.dst _)) oi.dst ce.eff.val) t=_;rw[Qw,Kd ap,QQ,Qw,Ki ht]
  rw[e0] at aj;have hk:=Zcn aj;have ev:(if bj then evO (ce.on oi.dst s.1 s.2).1 x else .tup [])=(if bj then evO s.1 x else .tup []):=by
   cases bj with
   | false=>rfl
   | true=>
    simp only[Km] at hk ⊢;cases x with
    | t n=>
     show gs (Zp (Xa ce.gone s.1) oi.dst ce.eff.val) n=gs s.1 n;rw[Qw,Kd (ae n rfl),QQ];exact hk
    | _=>rfl
  rw[ev];refine⟨fun q=>?_,fun id=>rfl⟩;show gs (Zp (Zp (Xa ce.gone s.1) oi.dst ce.eff.val) oj.dst _) q=gs (Zp (Xa ce.gone (Zp s.1 oj.dst _)) oi.dst ce.eff.val) q;simp only[Qw,QQ];by_cases hq:oj.dst=some q
  ·have:¬oi.dst=some q:=fun e=>by rw[hq,e] at ad;simp[ZaF] at ad
   simp only[hq,Km,this,Ko];exact hk.symm
  ·simp[hq]
theorem Zv5 {C:Orc} {M:Zn} {os:List CO} {nx i j:Nat} {oi oj:CO} (am:os[i]?=some oi) (ag:os[j]?=some oj) (ar:ZZ os i=false) (an:Xz oj oi=true)
  (ah:∀ (k:Nat) (o:CO),os[k]?=some o→∀ x∈ZI o.op,Y5 x=true)
  {s s1 s2:Sl×Hp} (hm:Va oi.op=true) {t:Nat} (ht:oi.dst=some t) (ai:okV (gs s2.1 t)=true)
  (h1:ZG C M os nx j s=some s1) (h2:ZG C M os nx i s1=some s2):∃ t1,ZG C M os nx i s=some t1∧∃ t2,ZG C M os nx j t1=some t2∧XW t2 s2:=by
 obtain⟨x,hx⟩:∃ x,oi.op=.move x:=by
  cases ho:oi.op<;>rw[ho] at hm<;>first | (cases hm;done) | exact⟨_,rfl⟩
 simp only[Xz,Ke] at an;obtain⟨⟨ad,aj⟩,ak⟩:=an;have aa:∀ s:Sl×Hp,ZG C M os nx i s=ZM C M nx i false oi s:=fun s=>by simp only[ZG,am,Zg,ar]
 rw[aa] at h2;simp only[ZG,ag,Zg] at h1;unfold ZM at h1;obtain⟨b,hw,h1⟩:=Za h1;have af:∀ n,x=.t n→oj.dst≠some n:=fun n e h=>by
  rw[h] at ad;simp only[QN,KW,KQ,KY] at ad;exact ad (Kg.2 (.inl (by rw[hx,e];simp[ZI,Zbz])))
 have ao:∀ (bi:Bool) (e:evO s1.1 x=evO s.1 x∨bi=false) (g1:Z3 s.1 oi.guard=some bi) (g2:Z3 s1.1 oi.guard=some bi),s2=(Zp s1.1 oi.dst (if bi then evO s.1 x else .tup []),s1.2):=by
  intro bi e g1 g2;rw[Ze7 hx g2] at h2;rw[← Option.some.inj h2];rcases e with e | e
  ·rw[e]
  ·rw[e];rfl
 cases b with
 | false=>
  simp only[Ka,Ko] at h1;cases h1;have ae:Z3 (Zp s.1 oj.dst (.tup [])) oi.guard=Z3 s.1 oi.guard:=Qx ad;obtain⟨bi,ab⟩:∃ bi,Z3 s.1 oi.guard=some bi:=by
   unfold ZM at h2;obtain⟨b,hw,_⟩:=Za h2;exact⟨b,ae.symm.trans hw⟩
  have e:evO (Zp s.1 oj.dst (.tup [])) x=evO s.1 x:=WD (o:=oi) ad x (by rw[hx];simp[ZI]);have h5:=ao bi (.inl e) ab (ae.trans ab);subst h5;refine⟨_,by rw[aa];exact Ze7 hx ab,(Zp (Zp s.1 oi.dst (if bi then evO s.1 x else .tup [])) oj.dst (.tup []),s.2),?_,fun t=>?_,fun id=>rfl⟩
  ·simp only[ZG,ag,Zg];exact YE (s:=(Zp s.1 oi.dst (if bi then evO s.1 x else .tup []),s.2)) ((Qx ak).trans hw)
  ·exact(Uw aj _ _ t).symm
 | true=>
  simp only[Km] at h1;obtain⟨ce,h3,h4,rfl⟩:=Q3 h1;have ae:Z3 (ce.on oj.dst s.1 s.2).1 oi.guard=Z3 s.1 oi.guard:=by
   show Z3 (Zp (Xa ce.gone s.1) oj.dst ce.eff.val) oi.guard=_;rw[Qx ad];exact Zhv fun q _=>QQ _ _ _
  obtain⟨bi,ab⟩:∃ bi,Z3 s.1 oi.guard=some bi:=by
   unfold ZM at h2;obtain⟨b,hw,_⟩:=Za h2;exact⟨b,ae.symm.trans hw⟩
  have ap:=h2;rw[Ze7 hx (ae.trans ab)] at ap;have h6:=Option.some.inj ap;have hv:okV (if bi then evO (ce.on oj.dst s.1 s.2).1 x else .tup [])=true:=by
   rw[← h6] at ai;simp only[Qw,Ki ht] at ai;exact ai
  have aq:kill ce.gone (if bi then evO s.1 x else .tup [])=(if bi then evO s.1 x else .tup [])∧(evO (ce.on oj.dst s.1 s.2).1 x=evO s.1 x∨bi=false):=by
   cases bi with
   | false=>exact⟨rfl,.inr rfl⟩
   | true=>
    simp only[Km] at hv ⊢;cases x with
    | t n=>
     have e:evO (ce.on oj.dst s.1 s.2).1 (.t n)=kill ce.gone (gs s.1 n):=by
      show gs (Zp (Xa ce.gone s.1) oj.dst ce.eff.val) n=_;rw[Qw,Kd (af n rfl),QQ]
     rw[e] at hv ⊢;have:=Zcn hv;exact⟨this,.inl this⟩
    | v c=>
     have hc:=ah i oi am (.v c) (by rw[hx];simp[ZI]);simp only[Y5,Ke,List.isEmpty_iff] at hc;exact⟨Zxo hv fun id al=>by simp only[evO] at al;rw[hc.1] at al;simp at al,.inl rfl⟩
    | f n=>simp only[evO,okV,okC] at hv;cases hv
  have h5:=ao bi aq.2 ab (ae.trans ab);subst h5;refine⟨_,by rw[aa];exact Ze7 hx ab,ce.on oj.dst (Zp s.1 oi.dst (if bi then evO s.1 x else .tup [])) s.2,?_,fun q=>?_,fun id=>rfl⟩
  ·simp only[ZG,ag,Zg,ZM];have au:Z3 (Zp s.1 oi.dst (if bi then evO s.1 x else .tup [])) oj.guard=some true:=(Qx ak).trans hw;simp only[au,Zg,Km,YH];have:WA C M nx j (ZZ os j) oj.op (Zp s.1 oi.dst (if bi then evO s.1 x else .tup [])) s.2=some ce:=by
    rw[← h3];unfold WA;rw[Xg C M s.2 (nx+64*j) (WD (o:=oj) ak)]
   rw[this,Zg,Ki h4]
  ·show gs (Zp (Xa ce.gone (Zp s.1 oi.dst _)) oj.dst ce.eff.val) q=gs (Zp (Zp (Xa ce.gone s.1) oj.dst ce.eff.val) oi.dst _) q;simp only[Qw,QQ];by_cases hq:oi.dst=some q
   ·have:¬oj.dst=some q:=fun e=>by rw[hq,e] at aj;simp[ZaF] at aj
    simp only[hq,Km,this,Ko];exact aq.1
   ·simp[hq]
theorem Zxm {C:Orc} {M:Zn} (hC:QK P C) {ops:Array Oper} {os:List CO} (a9:QF (Zl0 P nt ops.toList) ops.toList=some os) {nx i:Nat} {ks:List Nat} {oi:CO} (ab:os[i]?=some oi)
  (ad:∀ (k:Nat) (o:CO),os[k]?=some o→∀ x∈ZI o.op,Y5 x=true) :
  ∀ (js:List Nat) {s r:Sl×Hp} {U:Nat→Prop},Zh7 nt s U→Xk U (nx+64*i)→(∀ j∈js,Xk U (nx+64*j))→(js++i :: ks).Pairwise (· < ·) →
   (∀ j∈js,∃ oj,os[j]?=some oj∧Xz oj oi=true∧((ZZ os j=false∧(ZZ os i=true→Zws oi.op=true∨(Zoq oi.op=true∧(WG oj.op=true∨(JK oj.op=true∧ZbA os j=true∧ZbA os i=true∧Zjl r.1 oj.op oi.op=true)))∨(Va oj.op=true∧Zfj oi.op=true)∨(Va oj.op=true∧Zml os j=true∧okD r.1 oj.dst=true) ∨
    (Va oj.op=false∧Za3 oi.op=true∧Zos oj.op=true∧ZbA os j=true∧ZbA os i=true∧Zml os j=true∧Ja r.1 oj.dst oj.op oi.op=true))) ∨
    (ZZ os j=true∧ZZ os i=false∧Va oi.op=true∧Zml os i=true∧okD r.1 oi.dst=true) ∨
    (ZZ os j=true∧ZZ os i=false∧Va oi.op=false∧Za3 oj.op=true∧ZjE oi.op=true∧ZbA os j=true∧ZbA os i=true∧Zml os i=true∧Ja r.1 oi.dst oi.op oj.op=true))) →
   (∀ j∈js++i :: ks,j<os.length)→Ze6 C M os nx (js++i :: ks) s=some r →
   ∃ s',ZG C M os nx i s=some s'∧∃ r',Ze6 C M os nx (js++ks) s'=some r'∧XW r' r
 | [],s,r,U,_,_,_,_,_,_,h=>by
  simp only[Lu,Ze6] at h ⊢;obtain⟨s',h1,h⟩:=Za h;exact⟨s',h1,r,h,XW.refl r⟩
 | j :: js,s,r,U,hs,hfi,hfj,hsort,hj,hlt,h=>by
  have a1:=h;simp only[KF,Ze6] at h;obtain⟨s1,h1,h⟩:=Za h;have a6:=hsort;simp only[KF,LK] at hsort;have bk:j<i:=hsort.1 i (by simp);have a0:i≠j:=by omega
  have a':=ZvZ hC a9 hs (hfj j (by simp)) h1;have ba:∀ k∈js,k≠j:=fun k hk e=>by
   have:=hsort.1 k (by simp[hk]);omega
  obtain⟨s2,h2,r2,h3,h4⟩:=Zxm hC a9 ab ad js a' (Zrz a0 hfi) (fun k hk=>Zrz (ba k hk) (hfj k (by simp[hk]))) hsort.2 (fun k hk=>hj k (by simp[hk])) (fun k hk=>hlt k (by simp only[KF,Kf];exact .inr hk)) h;obtain⟨oj,ae,ar,a2⟩:=hj j (by simp);have aa:∀ {k q n:Nat} {o:CO},ZbA os k=true→os[k]?=some o→k≤q→q<os.length→n∈looks o→QN (Ji os q) [n]=true:=by
   intro k q n o al ho bl hq hn;have:=KP.1 al q (Ld.2 hq);simp only[Ztc,ho,Le,Kn] at this;rcases this with h | h
   ·omega
   ·cases hd:Ji os q with
    | none=>rfl
    | some d=>
     rw[hd] at h;simp only[QN,KW,KQ,KY] at h ⊢;intro e;simp at e;exact h (e ▸ hn)
  have af:∀ {k:Nat} {o:CO},ZbA os k=true→os[k]?=some o→QN o.dst (looks o)=true:=by
   intro k o al ho;have hk:k<os.length:=(Kb.1 ho).1;have:=KP.1 al k (Ld.2 hk);simp only[Ztc,Ji,ho,Le,Kn] at this;rcases this with h | h
   ·omega
   ·exact h
  have ag:∀ {k q t:Nat} {o:CO},Zml os k=true→os[k]?=some o→o.dst=some t→q≠k→q<os.length→QN (Ji os q) [t]=true:=by
   intro k q t o hl ho ht bb hq;simp only[Zml,Ke] at hl;have:=KP.1 hl.2 q (Ld.2 hq);simp only[Le,beq_iff_eq,Ji,ho,ht] at this;rcases this with h | h
   ·exact absurd h bb
   ·simp only[Ji];cases a3:os[q]? with
    | none=>rfl
    | some oq=>
     rw[a3] at h;simp only at h ⊢;cases hd:oq.dst with
     | none=>rfl
     | some d=>
      rw[hd] at h;simp only[ZaF,bne_iff_ne,ne_eq] at h;simp only[QN,KW,KQ,KY,KA];exact h
  have ah:∀ {k:Nat} {o:CO},Zml os k=true→os[k]?=some o→∃ t,o.dst=some t:=by
   intro k o hl ho;simp only[Zml,Ji,ho,Ke] at hl;cases hd:o.dst with
   | none=>rw[hd] at hl;cases hl.1
   | some t=>exact⟨t,rfl⟩
  have au:∀ n,(∀ q∈js++ks,QN (Ji os q) [n]=true)→okV (gs r.1 n)=true→gs s2.1 n=gs r.1 n:=by
   intro n hn ho;rw[← h4.1 n] at ho ⊢;exact Zzy h3 hn ho
  have ak:∀ q∈js++ks,q≠i∧j<q∧q<os.length:=by
   intro q hq;refine⟨?_,?_,hlt q ?_⟩
   ·rcases Kg.1 hq with hq | hq
    ·have:=(LB.1 hsort.2).2.2 q hq i (by simp);omega
    ·have:=(LK.1 (LB.1 hsort.2).2.1).1 q hq;omega
   ·rcases Kg.1 hq with hq | hq
    ·exact hsort.1 q (by simp[hq])
    ·exact hsort.1 q (by simp[hq])
   ·rcases Kg.1 hq with hq | hq<;>simp[hq]
  have am:ZbA os j=true→∀ n∈looks oj,∀ q∈js++ks,QN (Ji os q) [n]=true:=fun al n hn q hq=>by
   obtain⟨_,h6,h7⟩:=ak q hq;exact aa al ae (by omega) h7 hn
  have an:ZbA os i=true→∀ n∈looks oi,∀ q∈js++ks,QN (Ji os q) [n]=true:=fun al n hn q hq=>by
   obtain⟨_,h6,h7⟩:=ak q hq;rcases Kg.1 hq with hq | hq
   ·obtain⟨oq,a3,ao,_⟩:=hj q (by simp[hq]);simp only[Xz,Ke] at ao;have h5:=ao.1.1;simp only[Ji,a3];cases hd:oq.dst with
    | none=>rfl
    | some d=>
     rw[hd] at h5;simp only[QN,KW,KQ,KY] at h5 ⊢;intro e;simp at e;exact h5 (e ▸ hn)
   ·have:=(LK.1 (LB.1 hsort.2).2.1).1 q hq;exact aa al ab (by omega) h7 hn
  have ai:∀ {o:CO} {n:Nat},n∈(ZI o.op).flatMap Zbz→n∈looks o:=fun h=>Kg.2 (.inl h);have aj:∀ {o:CO} {n:Nat},n∈(ZkO o.op).flatMap Zbz→n∈looks o:=fun {o n} h=>by
   refine Kg.2 (.inl ?_);cases ho:o.op<;>rw[ho] at h<;>simp only[ZkO,List.flatMap_nil,Ky] at h
   simp only[ZI,KG,Kg];exact .inr h
  have a4:∃ t1,ZG C M os nx i s=some t1∧∃ t2,ZG C M os nx j t1=some t2∧XW t2 s2:=by
   rcases a2 with ⟨av,ax⟩ | ⟨av,ay,k1,k5,k6⟩ | ⟨av,ay,k0,k1,k2,k3,k4,k5,k6⟩
   case inr.inl=>
    obtain⟨t,ht⟩:=ah k5 ab;refine Zv5 ab ae ay ar ad k1 ht ?_ h1 h2;rw[ht] at k6;simp only[okD] at k6;rw[au t (fun q hq=>?_) k6]
    ·exact k6
    ·obtain⟨h5,_,h7⟩:=ak q hq;exact ag k5 ab ht h5 h7
   case inr.inr=>
    obtain⟨t,ht⟩:=ah k5 ab;refine Zup ab ae ay a0 ar (af k4 ab) (af k3 ae) ad hs hfi (hfj j (by simp)) k1 k2 ?_ ht h1 h2;refine(Zuo k0 k1 k6).move (fun n hn=>au n (an k4 n (ai hn))) (fun n hn=>au n fun q hq=>?_) (fun n hn=>au n (am k3 n (aj hn)));obtain⟨h5,_,h7⟩:=ak q hq;exact ag k5 ab hn h5 h7
   cases ay:ZZ os i with
   | false=>exact Zx9 ab ae ay av a0 ar ad hs hfi (hfj j (by simp)) h1 h2
   | true=>
    rcases ax ay with hc | ⟨al,hl⟩ | ⟨bc,bd⟩ | ⟨k1,k5,k6⟩ | ⟨k0,k1,k2,k3,k4,k5,k6⟩
    case inr.inr.inr.inl=>
     obtain⟨t,ht⟩:=ah k5 ae;refine Zv4 ab ae av ar ad k1 ht ?_ h1 h2;rw[ht] at k6;simp only[okD] at k6;rw[au t (fun q hq=>?_) k6]
     ·exact k6
     ·obtain⟨_,h6,h7⟩:=ak q hq;exact ag k5 ae ht (by omega) h7
    case inr.inr.inr.inr=>
     obtain⟨t,ht⟩:=ah k5 ae;refine Zv3 ab ae av a0 ar (af k3 ae) (af k4 ab) ad hs hfi (hfj j (by simp)) k1 k2 ?_ ht h1 h2;refine(Zuo k0 k1 k6).move (fun n hn=>au n (am k3 n (ai hn))) (fun n hn=>au n fun q hq=>?_) (fun n hn=>au n (an k4 n (aj hn)));obtain⟨_,h6,h7⟩:=ak q hq;exact ag k5 ae hn (by omega) h7
    ·exact Zyc ab ae hc av a0 ar ad hs hfi (hfj j (by simp)) h1 h2
    ·refine Zv2 ab ae ay av a0 ar ad hs hfi (hfj j (by simp)) ⟨al,?_⟩ h1 h2;rcases hl with hl | ⟨be,bf,bg,aq⟩
     ·exact .inl hl
     ·refine .inr ⟨be,?_⟩;have a7:∀ x∈ZI oi.op,okW (evO r.1 x)=true→evO s.1 x=evO r.1 x:=by
       intro x hx aw;cases x with
       | v a=>rfl
       | f n=>rfl
       | t n=>
        simp only[evO] at aw ⊢;have hn:n∈looks oi:=by
         rw[looks];exact Kg.2 (.inl (Kv.2 ⟨.t n,hx,KA.2 rfl⟩))
        refine ZsO a1 (fun q hq=>?_) aw;rcases Kg.1 hq with hq | hq
        ·obtain⟨oq,a3,ao,_⟩:=hj q hq;simp only[Xz,Ke] at ao;have h5:=ao.1.1;simp only[Ji,a3];cases hd:oq.dst with
         | none=>rfl
         | some d=>
          rw[hd] at h5;simp only[QN,KW,KQ,KY] at h5 ⊢;intro e;simp at e;exact h5 (e ▸ hn)
        ·refine aa bg ab ?_ (hlt q (Kg.2 (.inr hq))) hn;rcases Kf.1 hq with rfl | hq
         ·omega
         ·have:=LB.1 hsort.2;have:=(LK.1 this.2.1).1 q hq;omega
      have a8:∀ id,Xm r.1 id (ZI oj.op)=true→Xm s.1 id (ZI oj.op)=true:=by
       intro id bh;have bi:∀ xs:List Opd,(∀ z∈xs,z∈ZI oj.op)→Xm r.1 id xs=true→Xm s.1 id xs=true:=by
        intro xs
        induction xs with
        | nil=>intro _ _;rfl
        | cons z zs ihz=>
         intro a5 hz;simp only[Xm,Ke] at hz ⊢;refine⟨?_,ihz (fun z' bj=>a5 z' (by simp[bj])) hz.2⟩;cases z with
         | v a=>exact hz.1
         | f n=>exact hz.1
         | t n=>
          simp only[evO] at hz ⊢;have hn:n∈looks oj:=by
           rw[looks];exact Kg.2 (.inl (Kv.2 ⟨.t n,a5 (.t n) (KX ..),KA.2 rfl⟩))
          rw[Zzy a1 (fun q hq=>?_) (ZAQ hz.1)]
          ·exact hz.1
          ·refine aa bf ae ?_ (hlt q hq) hn;rcases Kg.1 hq with hq | hq
           ·rcases Kf.1 hq with rfl | hq
            ·omega
            ·have:=hsort.1 q (by simp[hq]);omega
           ·have:=hsort.1 q (by simp only[Kg];exact .inr hq);omega
       exact bi _ (fun _ h=>h) bh
      cases ho:oi.op<;>rw[ho] at al aq<;>first | (cases al;done) | skip
      case store slc sz x y=>
       simp only[Zjl] at aq ⊢;have aw:okV (evO r.1 x)=true:=by
        cases ht:V0 (evO r.1 x) with
        | none=>rw[ht] at aq;simp[Zfl] at aq
        | some id=>cases hv:evO r.1 x<;>rw[hv] at ht<;>simp only[V0] at ht<;>first | (cases ht;done) | rfl
       rw[a7 x (by rw[ho];simp[ZI]) (ZsN aw)];cases ht:V0 (evO r.1 x) with
       | none=>rw[ht] at aq;simp[Zfl] at aq
       | some id=>rw[ht] at aq;exact a8 id aq
      case append sz by_ str flat x y=>
       simp only[Zjl,Ke,Le] at aq ⊢;obtain⟨az,ap⟩:=aq;constructor
       ·have aw:okW (evO r.1 x)=true:=by
         cases hv:evO r.1 x<;>rw[hv] at az<;>first | rfl | (cases az;done) | skip
         case tup vs=>cases vs<;>first | rfl | cases az
        rw[a7 x (by rw[ho];simp[ZI]) aw];cases hv:evO r.1 x<;>rw[hv] at az<;>first | (cases az;done) | exact a8 _ az | skip
        ·rfl
        case tup vs=>cases vs<;>first | rfl | cases az
       ·rcases ap with ap | ap
        ·exact .inl ap
        ·right
         have aw:okW (evO r.1 y)=true:=by
          unfold seenSrc at ap;split at ap
          ·rename_i k hk;rw[hk];rfl
          ·exact ZsN ap
         rw[a7 y (by rw[ho];simp[ZI]) aw];unfold seenSrc at ap ⊢;split at ap
         ·exact a8 _ ap
         ·exact ap
    ·exact Zye ab ae av ar bc bd h1 h2
  obtain⟨t1,g1,t2,g2,g3⟩:=a4;obtain⟨r3,g4,g5⟩:=ZnL g3.symm h3;refine⟨t1,g1,r3,?_,g5.symm.trans h4⟩;simp only[KF,Ze6,g2,Zg];exact g4
def rem (n:Nat) (listed:Array Bool):List Nat:=(List.range n).filter fun i=>!listed.getD i true
theorem Zht {n:Nat} {aa:Array Bool} {i:Nat}:i∈rem n aa↔i<n∧aa.getD i true=false:=by
 simp[rem]
theorem ZnT (n:Nat) (aa:Array Bool):(rem n aa).Pairwise (· < ·):=List.Pairwise.filter _ List.pairwise_lt_range
theorem ZAT {n:Nat} {aa:Array Bool} (ad:aa.size=n) (i:Nat):rem n (aa.setIfInBounds i true)=(rem n aa).filter fun j=>j != i:=by
 simp only[rem,List.filter_filter];refine List.filter_congr fun j hj=>?_;have ae:j<n:=Ld.1 hj;by_cases ab:i=j
 ·subst ab;simp[ad,ae]
 ·simp[Array.getElem?_setIfInBounds_ne ab,Ne.symm ab]
def ZrC (nx:Nat) (listed:Array Bool) (id:Nat):Prop:=id<nx∨∃ k,listed.getD k false=true∧nx+64*k≤id∧id<nx+64*k+64
theorem UW {l:Array Bool} {k:Nat} (h:l.getD k false=true):k<l.size∧l.getD k true=true:=by
 rcases KT k l.size with h1 | h1
 ·refine⟨h1,?_⟩;simp[h1] at h ⊢;exact h
 ·simp[Array.getElem?_eq_none h1] at h
theorem ZnU {nx i:Nat} {aa:Array Bool} (h:aa.getD i true=false):Xk (ZrC nx aa) (nx+64*i):=by
 intro id h1 h2 hu;rcases hu with hu | ⟨k,hk,h3,h4⟩
 ·omega
 ·have ab:k≠i:=fun e=>by subst e;rw[(UW hk).2] at h;cases h
  rcases Lw ab with h5 | h5<;>omega
theorem ZnV {nx i:Nat} {aa:Array Bool} (hi:i<aa.size):∀ id,JJ (ZrC nx aa) (nx+64*i) id→ZrC nx (aa.setIfInBounds i true) id:=by
 rintro id ((h | ⟨k,hk,h1⟩) | h)
 ·exact .inl h
 ·exact .inr ⟨k,getD_set_true hk,h1⟩
 ·exact .inr ⟨i,by simp[hi],h.1,h.2⟩
end
end Go.Abs
