/- The abstract semantics: regions that draw. Own text. -/
import Derived.Test.YtkdjbefmiiibpaaGreatDoorAbsDrawD
set_option linter.unusedVariables false
set_option linter.unusedSimpArgs false
namespace Go.Abs
open Go
section
variable {P:Program} {nt:Nat}
theorem ZoW {α β:Type} {f:α→Option β}:∀ {l:List α} {r:List β},Q6 f l=some r→∀ (i:Nat) (x:α),l[i]?=some x→∃ y,r[i]?=some y∧f x=some y
 | [],r,h,i,x,hx=>by simp at hx
 | a :: l,r,h,i,x,hx=>by
  simp only[Q6] at h
  obtain⟨y,h1,h⟩:=Za h
  obtain⟨ys,h2,h⟩:=Za h
  cases h
  cases i with
  | zero=>simp at hx;subst hx;exact⟨y,by simp,h1⟩
  | succ i=>simp at hx;obtain⟨z,h3,h4⟩:=ZoW h2 i x hx;exact⟨z,by simpa using h3,h4⟩
theorem Zfc {α β:Type} {f:α→Option β}:∀ {l:List α} {r:List β},Q6 f l=some r→r.length=l.length
 | [],r,h=>by simp only[Q6] at h;cases h;rfl
 | a :: l,r,h=>by
  simp only[Q6] at h
  obtain⟨y,h1,h⟩:=Za h
  obtain⟨ys,h2,h⟩:=Za h
  cases h
  simp[Zfc h2]
theorem Zwj {C:Orc} {M:Zt} (hC:QD P C) {ops:Array Oper} {os:List CO} (hos:Q6 (ZnD P nt ops.toList) ops.toList=some os) {nx i:Nat} {s s' : Sl×Hp} {U:Nat→Prop} (hs:Zj8 nt s U) (hf:Yd U (nx+64*i))
  (h:ZN C M os nx i s=some s'):Zj8 nt s' (Za3 U (nx+64*i)):=by
 obtain⟨F,A,I,Γ,a,w,hsim⟩:=hs
 unfold ZN at h
 obtain⟨co,hco,h⟩:=Za h
 have hlt:i<ops.toList.length:=by rw[← Zfc hos];exact(List.getElem?_eq_some_iff.1 hco).1
 obtain⟨co',h1,h2⟩:=ZoW hos i ops.toList[i] (List.getElem?_eq_getElem hlt)
 rw[hco] at h1;cases h1
 obtain⟨hg,hop,hdst,hdd⟩:=ZkN h2
 unfold ZZ at h
 obtain⟨b,hw,h⟩:=Za h
 cases b with
 | true=>
  simp only[if_true] at h
  obtain⟨ce,hce,hok,rfl⟩:=Xv h
  have hwp:=Zv7 hC hsim hop hf hdst hok (Zcw hce) (fun a' w'=>∃ F A I Γ a w,Sim nt F A I Γ (Za3 U (nx+64*i)) (ce.on co.dst s.1 s.2).1 (ce.on co.dst s.1 s.2).2 a w) (fun _ _ _=>False) fun u w' hp=>by
   obtain⟨I1,Γ1,b1,b2,b3,b4,b5⟩:=hp
   rw[← hdd] at b5
   exact⟨F,A,I1,Γ1,_,_,b5⟩
  obtain⟨_,_,hex⟩:=Oper.wp_ex hwp
  exact hex
 | false=>
  simp only[Bool.false_eq_true,if_false] at h
  cases h
  obtain⟨I1,Γ1,b1,b2,b3,b4,b5⟩:=hsim.pure (U':=Za3 U (nx+64*i)) (v:=.tup []) (u:=undef) (dst:=co.dst) (fun id hu=>.inl hu) ZmU (by rw[hdd];exact hdst)
  exact⟨F,A,I1,Γ1,_,_,b5⟩
theorem ZrN {U:Nat→Prop} {nx i j:Nat} (hij:i≠j) (h:Yd U (nx+64*i)):Yd (Za3 U (nx+64*j)) (nx+64*i):=by
 intro id h1 h2 hu
 rcases hu with hu | hu
 ·exact h id h1 h2 hu
 ·rcases Nat.lt_or_gt_of_ne hij with h3 | h3<;>omega
theorem ZCJ {id:Nat} {v:AV} (h:Zee id v=true):okV v=true:=by
 cases v with
 | tup vs=>cases vs with
  | nil=>rfl
  | cons x r=>cases h
 | _=>first | rfl | cases h
def okW:AV→Bool
 | .sub _ _=>true
 | v=>okV v
theorem ZsY {v:AV} (h:okV v=true):okW v=true:=by cases v<;>first | exact h | rfl
theorem ZAE {g:List Nat} {v:AV} (h:okW (kill g v)=true):kill g v=v:=by
 cases v with
 | sub a b=>
  simp only[kill,Z6,Qr] at h ⊢
  split at h
  ·cases h
  ·rename_i hn;rw[if_neg hn]
 | _=>
  refine ZdV ?_
  revert h
  generalize hk:kill g _=u
  cases u<;>first | exact fun h=>h | skip
  intro _
  simp only[kill,Z6,Qr] at hk
  first | (cases hk;done) | (split at hk<;>cases hk)
theorem ZCK {C:Orc} {M:Zt} {os:List CO} {nx q n:Nat} {s r:Sl×Hp} (h:ZN C M os nx q s=some r) (hd:Xe (ZaI os q) [n]=true) (hk:okW (gs r.1 n)=true):gs s.1 n=gs r.1 n:=by
 unfold ZN at h
 obtain⟨o,ho,h⟩:=Za h
 have hne:o.dst≠some n:=by
  intro e
  simp[ZaI,ho,e,Xe] at hd
 unfold ZZ at h
 obtain⟨b,_,h⟩:=Za h
 cases b with
 | true=>
  simp only[if_true] at h
  obtain⟨ce,_,_,rfl⟩:=Xv h
  have e1:gs (ce.on o.dst s.1 s.2).1 n=kill ce.gone (gs s.1 n):=by
   show gs (Zw (XP ce.gone s.1) o.dst ce.eff.val) n=_
   rw[QU,if_neg hne,Xj]
  rw[e1] at hk ⊢
  exact(ZAE hk).symm
 | false=>
  simp only[Bool.false_eq_true,if_false] at h
  cases h
  show gs s.1 n=gs (Zw s.1 o.dst (.tup [])) n
  rw[QU,if_neg hne]
theorem ZsZ {C:Orc} {M:Zt} {os:List CO} {nx n:Nat}:∀ {l:List Nat} {s r:Sl×Hp},Zhe C M os nx l s=some r→(∀ q∈l,Xe (ZaI os q) [n]=true)→okW (gs r.1 n)=true→gs s.1 n=gs r.1 n
 | [],s,r,h,_,_=>by simp only[Zhe] at h;cases h;rfl
 | i :: l,s,r,h,hd,hk=>by
  simp only[Zhe] at h
  obtain⟨s1,h1,h⟩:=Za h
  have h2:=ZsZ h (fun q hq=>hd q (by simp[hq])) hk
  rw[← h2] at hk ⊢
  exact ZCK h1 (hd i (by simp)) hk
theorem ZAF {C:Orc} {M:Zt} {os:List CO} {nx n:Nat} {l:List Nat} {s r:Sl×Hp} (h:Zhe C M os nx l s=some r) (hd:∀ q∈l,Xe (ZaI os q) [n]=true) (hk:okV (gs r.1 n)=true):gs s.1 n=gs r.1 n:=ZsZ h hd (ZsY hk)
theorem Zwk {C:Orc} {M:Zt} {sl:Sl} {hp:Hp} {base:Nat} {c:COp} {ce:Zc} (hc:ZwO c=true) (h:vop C M sl hp base c=some ce):Zeg (vop C M sl hp base c)=some ce:=by
 rw[h]
 have key:ce.gone=[]∧ce.eff.sets=[]∧ce.eff.dels=[]∧ce.eff.frz=[]:=by
  have o1:∀ {v:AV},QT v=some ce→ce.gone=[]∧ce.eff.sets=[]∧ce.eff.dels=[]∧ce.eff.frz=[]:=fun h=>by cases h;exact⟨rfl,rfl,rfl,rfl⟩
  have o2:∀ {v:Option AV},WL v=some ce→ce.gone=[]∧ce.eff.sets=[]∧ce.eff.dels=[]∧ce.eff.frz=[]:=fun h=>by obtain⟨v,_,h⟩:=Za h;exact o1 h
  cases c<;>simp only[ZwO,Bool.false_eq_true] at hc<;>simp only[vop] at h
  case stuck=>cases h
  case move x=>exact o1 h
  case assign s x=>
   unfold Zff at h
   split at h
   ·obtain⟨s,_,h⟩:=Za h;cases h;exact⟨rfl,rfl,rfl,rfl⟩
   ·exact o1 h
  case pick c a b=>
   unfold Zh6 at h
   split at h
   ·split at h<;>exact o1 h
   ·cases h
  case alloc slc cs=>
   unfold Zhl ZmD at h
   split at h
   ·split at h<;>first | (cases h;done) | (cases h;exact⟨rfl,rfl,rfl,rfl⟩)
   ·split at h<;>(cases h;exact⟨rfl,rfl,rfl,rfl⟩)
  case box x=>
   unfold Zwz at h
   split at h
   ·cases h;exact⟨rfl,rfl,rfl,rfl⟩
   ·cases h
  case build zs ps=>obtain⟨cs,_,h⟩:=Za h;exact o1 h
  case load g s a=>exact o2 h
  case nilCheck x=>unfold Za1 at h;split at h<;>first | exact o1 h | cases h
  case bin op eq x y=>
   unfold ZiC at h
   split at h
   ·split at h
    ·exact o2 h
    ·cases h
   ·exact o2 h
  case un op x=>exact o2 h
  case eqA neg n x y=>
   unfold ZqU at h
   split at h
   ·obtain⟨r,_,h⟩:=Za h;exact o1 h
   ·cases h
  case convI k x=>unfold Go.Abs.convI at h;split at h<;>first | exact o1 h | cases h
  case convS x=>unfold Go.Abs.convS at h;split at h<;>first | exact o1 h | cases h
  case fn f cs=>exact o2 h
  case make s b z l c=>
   obtain⟨l,_,h⟩:=Za h
   obtain⟨c,_,h⟩:=Za h
   unfold Zpi at h
   split at h
   ·cases h;exact⟨rfl,rfl,rfl,rfl⟩
   ·cases h
  case slice s x lo hi=>exact o2 h
  case sliceS x lo hi=>exact o2 h
  case slice0 x hi mx=>exact o2 h
  case slice3 s x lo hi mx=>exact o2 h
  case shift off x=>unfold WM at h;split at h<;>first | exact o1 h | cases h
  case part g s off x=>exact o2 h
  case iaS s x i=>
   obtain⟨n,_,h⟩:=Za h
   unfold ZiD at h
   split at h
   ·exact o2 h
   ·cases h
  case iaA len s x i=>
   obtain⟨n,_,h⟩:=Za h
   unfold ZnB at h
   split at h
   ·unfold WM at h;split at h<;>first | exact o1 h | cases h
   ·cases h
  case ixS x i=>
   obtain⟨n,_,h⟩:=Za h
   unfold ZuP at h
   split at h
   ·unfold Zr6 at h
    split at h
    ·obtain⟨b,_,h⟩:=Za h;exact o1 h
    ·cases h
   ·cases h
  case ixA g s len x i=>
   obtain⟨n,_,h⟩:=Za h
   unfold ZwB at h
   split at h
   ·exact o2 h
   ·cases h
  case nth i x=>unfold Zta at h;split at h<;>first | exact o2 h | cases h
  case len x=>obtain⟨n,_,h⟩:=Za h;exact o1 h
  case lenS x=>obtain⟨n,_,h⟩:=Za h;exact o1 h
  case min x y=>unfold Zlw at h;split at h<;>first | (split at h<;>first | exact o1 h | cases h) | cases h
  case max x y=>unfold Zlx at h;split at h<;>first | (split at h<;>first | exact o1 h | cases h) | cases h
 simp only[Zeg,Zf,key.1,key.2.1,key.2.2.1,key.2.2.2,Zhy]
theorem ZyV {C:Orc} {M:Zt} {nx i:Nat} {o:CO} (hc:ZwO o.op=true) (s:Sl×Hp):ZZ C M nx i true o s=ZZ C M nx i false o s:=by
 unfold ZZ
 have:UE C M nx i true o.op s.1 s.2=UE C M nx i false o.op s.1 s.2:=by
  unfold UE
  simp only[if_true,Bool.false_eq_true,if_false]
  cases h:vop C M s.1 s.2 (nx+64*i) o.op with
  | none=>rfl
  | some ce=>rw[← h,Zwk hc h,h]
 rw[this]
theorem vop_read {C:Orc} {M:Zt} {sl:Sl} {hp hp' : Hp} {base:Nat} {c:COp} (hc:Za4 c=true) (h:∀ x∈ZT c,∀ k∈ZI (evO sl x),lkp hp k=lkp hp' k):vop C M sl hp base c=vop C M sl hp' base c:=by
 have len:∀ v:AV,(∀ k∈ZI v,lkp hp k=lkp hp' k)→Zfv hp v=Zfv hp' v:=fun v hv=>by
  cases v<;>simp only[Zfv]
  case d x=>cases x<;>rfl
  case own id=>rw[hv id (by simp[ZI,ZJ,Zp])]
 cases c<;>simp only[Za4,Bool.false_eq_true] at hc<;>simp only[ZT] at h<;>simp only[vop]
 case load g s a=>
  have:=h a (by simp)
  cases hv:evO sl a<;>rw[hv] at this<;>simp only[JU]
  case ptr id off=>rw[this id (by simp[ZI,ZJ,Zp])]
  case prow id sz i off=>rw[this id (by simp[ZI,ZJ,Zp])]
 case slice s x lo hi=>
  have:=h x (by simp)
  cases hv:evO sl x<;>rw[hv] at this<;>simp only[Ux]
  case d x=>cases x<;>rfl
  case own id=>rw[this id (by simp[ZI,ZJ,Zp])]
  case ownv id off n=>rw[this id (by simp[ZI,ZJ,Zp])]
 case slice0 x hi mx=>
  unfold slice0
  rw[len _ (h x (by simp))]
 case iaS s x i=>
  congr 1
  funext n
  simp only[ZiD]
  have:=h x (by simp)
  cases hv:evO sl x<;>rw[hv] at this<;>simp only[QW]
  case d x=>cases x<;>rfl
  case own id=>rw[this id (by simp[ZI,ZJ,Zp])]
  case ownv id off n=>rw[this id (by simp[ZI,ZJ,Zp])]
 case len x=>rw[len _ (h x (by simp))]
theorem ZrO {A B:Hp} (hd:∀ k x y,(k,x)∈A→(k,y)∈B→False) (hp:Hp) (id:Nat):lkp (Zg (Zg hp A) B) id=lkp (Zg (Zg hp B) A) id:=by
 have key:∀ (l:Hp) (hp hp' : Hp),lkp hp id=lkp hp' id→lkp (Zg hp l) id=lkp (Zg hp' l) id:=by
  intro l
  induction l with
  | nil=>intro hp hp' h;exact h
  | cons q r ih=>
   intro hp hp' h
   obtain⟨k,x⟩:=q
   simp only[Zg]
   exact ih _ _ (by rw[Qy,Qy,h])
 by_cases h1:∃ o,(id,o)∈A
 ·have h2:∀ o,(id,o)∉B:=fun o ho=>by
   obtain⟨o',ho'⟩:=h1
   exact hd id o' o ho' ho
  rw[ZD B _ id h2]
  exact key A _ _ (ZD B hp id h2).symm
 ·have h2:∀ o,(id,o)∉A:=fun o ho=>h1 ⟨o,ho⟩
  rw[ZD A _ id h2]
  exact key B _ _ (ZD A hp id h2)
theorem Zut {hp:Hp} {v:AV} {q:D×Bool×List Nat} (h:Zdl hp v=some q):∀ i∈q.2.2,i∈Zp v:=by
 intro i hi
 cases v<;>simp only[Zdl] at h<;>first | (cases h;simp at hi;done) | (cases h;done) | skip
 obtain⟨p,_,h⟩:=Za h
 cases h
 simpa [Zp] using hi
theorem Zno {hp:Hp}:∀ {vs:List AV} {q:List D×Bool×List Nat},Uy hp vs=some q→∀ i∈q.2.2,i∈vs.flatMap Zp
 | [],q,h,i,hi=>by simp only[Uy] at h;cases h;simp at hi
 | v :: vs,q,h,i,hi=>by
  simp only[Uy] at h
  obtain⟨q1,h1,h⟩:=Za h
  obtain⟨q2,h2,h⟩:=Za h
  split at h
  ·cases h
   rcases List.mem_append.1 hi with hi | hi
   ·exact List.mem_flatMap.2 ⟨v,by simp,Zut h1 i hi⟩
   ·obtain⟨c,hc,hci⟩:=List.mem_flatMap.1 (Zno h2 i hi)
    exact List.mem_flatMap.2 ⟨c,by simp[hc],hci⟩
  ·cases h
theorem ZyW {hp:Hp} {slc:List (Option Nat)} {s base:Nat} {vs:List AV} {x:AV} {e:Eff} (h:ZbI hp slc s base vs x=some e):∃ id o,W4 x=some id∧e.val=.junk∧e.sets=[(id,o)]∧e.dels=[]∧∀ i∈e.frz,i∈vs.flatMap Zp:=by
 cases x<;>simp only[ZbI] at h<;>first | cases h | skip
 case ptr id off=>
  unfold Zgx at h
  split at h
  ·split at h
   ·split at h<;>(cases h;exact⟨id,_,rfl,rfl,rfl,rfl,fun i hi=>by simp at hi⟩)
   ·cases h
  ·cases h
 case prow id sz i off=>
  unfold Zd0 at h
  split at h
  ·split at h
   ·obtain⟨x,_,h⟩:=Za h
    obtain⟨q,hq,h⟩:=Za h
    unfold Zgy at h
    split at h
    ·cases h;exact⟨id,_,rfl,rfl,rfl,rfl,Zno hq⟩
    ·cases h
   ·cases h
  ·cases h
def FzEq (o o' : Option Zo):Prop:=∃ b:Bool,o'=o.map fun x=>if b then WK x else x
theorem FzEq.seen {o o' : Option Zo} (h:FzEq o o'):ZdW [] o o':=by
 obtain⟨b,rfl⟩:=h
 have hk:∀ x:Zo,YN [] x=x:=fun x=>by
  cases x with
  | box cs=>simp only[YN];congr 1;rw[List.map_congr_left (g:=id) (fun a _=>Zgo a),List.map_id]
  | row _ _ _ _=>rfl
  | deep _ _ _ l=>cases l<;>simp[YN,Zin]
 have:=Zuz (g:=[]) (b:=b) o
 have e:(o.map (YN []))=o:=by cases o<;>simp[hk]
 rw[e] at this
 exact this
theorem vop_fz {C:Orc} {M:Zt} {sl:Sl} {hp hp' : Hp} {base:Nat} {c:COp} (hc:Za4 c=true) (h:∀ x∈ZT c,∀ k∈ZI (evO sl x),FzEq (lkp hp k) (lkp hp' k)):vop C M sl hp' base c=vop C M sl hp base c:=by
 have hs:∀ x∈ZT c,Zln [] hp hp' (evO sl x):=fun x hx k hk=>(h x hx k hk).seen
 cases c<;>simp only[Za4,Bool.false_eq_true] at hc<;>simp only[ZT] at h hs<;>simp only[vop]
 case load g s a=>
  have h1:=h a (by simp)
  have h2:=hs a (by simp)
  cases hv:evO sl a<;>rw[hv] at h1 h2<;>simp only[JU]
  case ptr id off=>
   obtain⟨b,e⟩:=h1 id (by simp[ZI,ZJ,Zp])
   rw[e]
   cases lkp hp id with
   | none=>rfl
   | some o=>cases o<;>cases b<;>rfl
  case prow id sz i off=>
   obtain⟨b,e⟩:=h1 id (by simp[ZI,ZJ,Zp])
   rw[e]
   cases lkp hp id with
   | none=>rfl
   | some o=>cases o<;>cases b<;>rfl
 case slice s x lo hi=>rw[Ziu (hs x (by simp))]
 case slice0 x hi mx=>unfold slice0;rw[Zgs (hs x (by simp))]
 case iaS s x i=>
  congr 1
  funext n
  simp only[ZiD]
  rw[ZcM (hs x (by simp))]
 case len x=>rw[Zgs (hs x (by simp))]
def Zlk (sl:Sl) (a:COp):COp→Bool
 | .store _ _ x _=>Zhx sl a (W4 (evO sl x))
 | .append _ _ _ flat x y=>Zag sl a (evO sl x)&&(flat || seenSrc sl a (evO sl y))
 | _=>false
def LooseS (s:Sl) (a b:COp):Prop:=Zpz b=true∧(UM a=true∨(Za4 a=true∧Zlk s a b=true))
theorem Zis {sl:Sl} {id:Nat}:∀ {xs:List Opd},Ye sl id xs=true→∀ x∈xs,Zee id (evO sl x)=true
 | [],_,x,hx=>by simp at hx
 | y :: ys,h,x,hx=>by
  simp only[Ye,Bool.and_eq_true] at h
  rcases List.mem_cons.1 hx with rfl | hx
  ·exact h.1
  ·exact Zis h.2 x hx
theorem ZoX {id:Nat} {v:AV} (h:Zee id v=true):id∉ZI v:=by
 cases v with
 | tup vs=>cases vs with
  | nil=>simp[ZI]
  | cons x r=>cases h
 | _=>simp[Zee,ZI,ZJ,Zp] at h ⊢ <;> exact fun e=>h e.symm
theorem Zwl {hp:Hp} {sz by_ base:Nat} {str flat:Bool} {x y:AV} {e:Eff} (h:Jd hp sz by_ str flat base x y=some e):e.sets=[]∧e.frz=[]∧((x=.nil∧e.dels=[])∨∃ id,e.dels=[id]∧(x=.own id∨∃ o n,x=.ownv id o n)):=by
 unfold Jd at h
 obtain⟨q,_,h⟩:=Za h
 split at h
 ·cases x<;>simp only[Ziz] at h<;>first | (cases h;done) | skip
  ·split at h
   ·cases h;exact⟨rfl,rfl,.inl ⟨rfl,rfl⟩⟩
   ·cases h
  ·split at h
   ·cases h
   ·unfold ZmC at h
    split at h
    ·split at h
     ·cases h;exact⟨rfl,rfl,.inr ⟨_,rfl,.inl rfl⟩⟩
     ·cases h
    ·cases h
  ·split at h
   ·cases h
   ·split at h
    ·unfold ZjB at h
     split at h
     ·split at h
      ·cases h;exact⟨rfl,rfl,.inr ⟨_,rfl,.inr ⟨_,_,rfl⟩⟩⟩
      ·cases h
     ·cases h
    ·unfold ZjA at h
     split at h
     ·split at h
      ·cases h;exact⟨rfl,rfl,.inr ⟨_,rfl,.inr ⟨_,_,rfl⟩⟩⟩
      ·cases h
     ·cases h
 ·cases h
theorem ZoY {hp:Hp} {x:AV} {k:Nat} (h:k∈VE hp x):x=.own k:=by
 unfold VE at h
 split at h
 ·split at h
  ·simp at h;subst h;rfl
  ·simp at h
 ·simp at h
theorem ZAG {hp:Hp} {sz by_ base:Nat} {str flat:Bool} {x y:AV} {e:Eff} (h:ZgB hp sz by_ str flat base y x=some e):e.frz=[] ∧
  ((e.sets=[]∧∀ k∈e.dels,(x=.own k∨∃ o n,x=.ownv k o n)∨(flat=false∧y=.own k))∨∃ id nm o,x=.sub id nm∧e.dels=[]∧e.sets=[(id,o)]):=by
 unfold ZgB at h
 split at h
 ·split at h
  ·cases h
  ·obtain⟨q,_,h⟩:=Za h
   split at h
   ·cases h
   ·unfold ZkD at h
    split at h
    ·obtain⟨fl,_,h⟩:=Za h
     split at h
     ·cases h;exact⟨rfl,.inr ⟨_,_,_,rfl,rfl,rfl⟩⟩
     ·cases h
    ·cases h
 ·have plain:∀ {hp' : Hp} {e:Eff},Jd hp' sz by_ str flat base x y=some e→e.sets=[]∧e.frz=[]∧∀ k∈e.dels,x=.own k∨∃ o n,x=.ownv k o n:=by
   intro hp' e h
   obtain⟨g1,g2,g3⟩:=Zwl h
   refine⟨g1,g2,fun k hk=>?_⟩
   rcases g3 with ⟨_,g3⟩ | ⟨id,g3,g4⟩
   ·rw[g3] at hk;simp at hk
   ·rw[g3] at hk;simp at hk;subst hk;exact g4
  generalize hm:VE hp x++VE hp y=ms at h
  cases ms with
  | nil=>
   simp only[WN] at h
   obtain⟨g1,g2,g3⟩:=plain h
   exact⟨g2,.inl ⟨g1,fun k hk=>.inl (g3 k hk)⟩⟩
  | cons i r=>
   simp only[WN] at h
   split at h
   ·cases h
   ·rename_i hfl
    obtain⟨e0,h1,h⟩:=Za h
    cases h
    obtain⟨g1,g2,g3⟩:=plain h1
    refine⟨g2,.inl ⟨g1,fun k hk=>?_⟩⟩
    rcases List.mem_append.1 hk with hk | hk
    ·exact .inl (g3 k hk)
    ·rw[← hm] at hk
     rcases List.mem_append.1 hk with hk | hk
     ·exact .inl (.inl (ZoY hk))
     ·exact .inr ⟨by simpa using hfl,ZoY hk⟩
theorem ZoZ {ds:List Nat} {l:Hp} {k:Nat} (h:k∈ds):lkp (QH l ds) k=none:=by
 cases hl:lkp (QH l ds) k with
 | none=>rfl
 | some o=>exact absurd h (ZbN ds l k o hl).2
theorem ZCL {C:Orc} {M:Zt} {sl:Sl} {hp:Hp} {base:Nat} {c:COp} {ce:Zc} (hc:Zpz c=true) (h:vop C M sl hp base c=some ce) :
  ce.gone=[]∧(∀ k,k∈ce.eff.dels∨(∃ o,(k,o)∈ce.eff.sets)→(∃ x∈ZT c,k∈ZI (evO sl x))∧∀ a,Zlk sl a c=true→Ye sl k (ZT a)=true)∧∀ k∈ce.eff.frz,∃ x∈ZT c,k∈ZI (evO sl x):=by
 cases c<;>first | (cases hc;done) | skip
 case store slc sz x y=>
  simp only[vop,Zik] at h
  obtain⟨e,h7,h⟩:=Za h
  cases h
  obtain⟨id,o,ht,g1,g2,g3,g4⟩:=ZyW h7
  refine⟨rfl,fun k hk=>?_,fun k hk=>⟨y,by simp[ZT],Zuo (U:=fun k=>k∈ZI (evO sl y)) (fun _ h=>h) k (g4 k hk)⟩⟩
  have hki:k=id:=by
   rcases hk with hk | ⟨o',hk⟩
   ·simp only[g3,List.not_mem_nil] at hk
   ·simp only[g2,List.mem_singleton,Prod.mk.injEq] at hk
    exact hk.1
  subst hki
  refine⟨⟨x,by simp[ZT],?_⟩,fun a ha=>?_⟩
  ·cases hv:evO sl x<;>rw[hv] at ht<;>simp only[W4] at ht<;>cases ht<;>simp[ZI,ZJ,Zp]
  ·simp only[Zlk,ht,Zhx] at ha
   exact ha
 case append sz by_ str flat x y=>
  simp only[vop,Ztb,Zik] at h
  obtain⟨e,h7,h⟩:=Za h
  cases h
  obtain⟨g2,g3⟩:=ZAG h7
  refine⟨rfl,fun k hk=>?_,fun k hk=>by simp only[g2,List.not_mem_nil] at hk⟩
  rcases g3 with ⟨g1,g3⟩ | ⟨id,nm,o,g4,g3,g1⟩
  ·have hkd:k∈e.dels:=by
    rcases hk with hk | ⟨o',hk⟩
    ·exact hk
    ·simp only[g1,List.not_mem_nil] at hk
   rcases g3 k hkd with g4 | ⟨g4,g5⟩
   ·refine⟨⟨x,by simp[ZT],?_⟩,fun a ha=>?_⟩
    ·rcases g4 with g4 | ⟨o,n,g4⟩<;>rw[g4]<;>simp[ZI,ZJ,Zp]
    ·simp only[Zlk,Bool.and_eq_true] at ha
     rcases g4 with g4 | ⟨o,n,g4⟩<;>rw[g4] at ha<;>exact ha.1
   ·refine⟨⟨y,by simp[ZT],by rw[g5];simp[ZI,ZJ,Zp]⟩,fun a ha=>?_⟩
    simp only[Zlk,Bool.and_eq_true,g4,Bool.false_or] at ha
    rw[g5] at ha
    exact ha.2
  ·have hkd:k=id:=by
    rcases hk with hk | ⟨o',hk⟩
    ·simp only[g3,List.not_mem_nil] at hk
    ·simp only[g1,List.mem_singleton,Prod.mk.injEq] at hk;exact hk.1
   subst hkd
   refine⟨⟨x,by simp[ZT],by rw[g4];simp[ZI,ZJ,Zp]⟩,fun a ha=>?_⟩
   simp only[Zlk,Bool.and_eq_true] at ha
   rw[g4] at ha
   exact ha.1
theorem Zwm {C:Orc} {M:Zt} {os:List CO} {nx i j:Nat} {oi oj:CO} (hoi:os[i]?=some oi) (hoj:os[j]?=some oj) (hti:Qb os i=true) (hqj:Qb os j=false) (hij:i≠j) (hap:Yr oj oi=true)
  (hops:∀ (k:Nat) (o:CO),os[k]?=some o→∀ x∈ZT o.op,Wh x=true) {s s1 s2:Sl×Hp} {U:Nat→Prop} (hs:Zj8 nt s U) (hfi:Yd U (nx+64*i)) (hfj:Yd U (nx+64*j)) (hl:LooseS s.1 oj.op oi.op)
  (h1:ZN C M os nx j s=some s1) (h2:ZN C M os nx i s1=some s2):∃ t1,ZN C M os nx i s=some t1∧∃ t2,ZN C M os nx j t1=some t2∧YO t2 s2:=by
 obtain⟨F,A,I,Γ,a,w,hsim⟩:=hs
 simp only[Yr,Bool.and_eq_true] at hap
 obtain⟨⟨ap1,ap2⟩,ap3⟩:=hap
 have good:∀ (k:Nat) (o:CO),os[k]?=some o→∀ x∈ZT o.op,Zli U (evO s.1 x):=by
  intro k o ho x hx
  cases x with
  | t n=>exact hsim.good n
  | v y=>exact ZaW (hops k o ho _ hx)
  | f n=>exact⟨fun id hid=>by simp[evO,ZI,ZJ] at hid,fun f caps h c hc=>by cases h;simp at hc⟩
 simp only[ZN,hoj,Zf,hqj] at h1
 simp only[ZN,hoi,Zf,hti] at h2
 obtain⟨vj,aj,rfl,hj1,hj2⟩:=Zkw h1
 obtain⟨hst,hl⟩:=hl
 unfold ZZ at h2
 obtain⟨b,hw,h2⟩:=Za h2
 have hw' : Qe s.1 oi.guard=some b:=by rw[← hw];exact(QV ap1).symm
 cases b with
 | false=>
  simp only[Bool.false_eq_true,if_false] at h2
  cases h2
  refine⟨(Zw s.1 oi.dst (.tup []),s.2),by simp only[ZN,hoi,Zf,ZZ,hw',Bool.false_eq_true,if_false],?_⟩
  have e2:=hj2 (Zw s.1 oi.dst (.tup []),s.2) (QV ap3) (X7 C M s.2 (nx+64*j) (UH (o:=oj) ap3))
  exact⟨(Zw (Zw s.1 oi.dst (.tup [])) oj.dst vj,Zg s.2 aj),by simp only[ZN,hoj,Zf,hqj];exact e2,fun t=>(JR ap2 vj (.tup []) t).symm,fun id=>rfl⟩
 | true=>
  simp only[if_true] at h2
  obtain⟨ce,h3,h4,rfl⟩:=Xv h2
  have h3' : vop C M s.1 s.2 (nx+64*i) oi.op=some ce:=by
   have h5:=Zcw h3
   rw[← h5,X7 C M (Zg s.2 aj) (nx+64*i) (UH (o:=oi) ap1)]
   exact ZbF (hsim.agree (UI hfj hj1 s.2)) C M _ (good i oi hoi)
  have hoadds:=Jf h4
  obtain⟨k1,k2,k3⟩:=ZCL hst h3'
  obtain⟨e,gn⟩:=ce
  simp only at k1 k2 k3
  subst k1
  have frzU:∀ k∈e.frz,U k:=fun k hk=>by
   obtain⟨x,hx,hk⟩:=k3 k hk
   exact(good i oi hoi x hx).1 k hk
  have putU:∀ k,k∈e.dels∨(∃ o,(k,o)∈e.sets)→U k:=fun k hk=>by
   obtain⟨⟨x,hx,hk⟩,_⟩:=k2 k hk
   exact(good i oi hoi x hx).1 k hk
  have hon:∀ s:Sl×Hp,Zc.on { eff:=e,gone:=[] } oi.dst s.1 s.2=(Zw s.1 oi.dst e.val,Zg (Zg (QH (Qu e.frz s.2) e.dels) e.sets) e.adds):=by
   intro s
   rfl
  refine⟨Zc.on { eff:=e,gone:=[] } oi.dst s.1 s.2,?_,?_⟩
  ·simp only[ZN,hoi,Zf,ZZ,hw',if_true,VO,hti,UE]
   rw[h3',Zf,if_pos h4]
  ·have hagree:∀ k,U k→¬(k∈e.dels∨∃ o,(k,o)∈e.sets)→FzEq (lkp s.2 k) (lkp (Zg (Zg (QH (Qu e.frz s.2) e.dels) e.sets) e.adds) k):=by
    intro k hk hne
    rw[not_or] at hne
    rw[← UI hfi hoadds _ k hk,ZD _ _ k (fun o ho=>hne.2 ⟨o,ho⟩),Uf _ _ k hne.1,Qm]
    exact⟨_,rfl⟩
   have e2:ZZ C M nx j false oj (Zc.on { eff:=e,gone:=[] } oi.dst s.1 s.2)=some (Zw (Zc.on { eff:=e,gone:=[] } oi.dst s.1 s.2).1 oj.dst vj,Zg (Zc.on { eff:=e,gone:=[] } oi.dst s.1 s.2).2 aj):=by
    rw[hon]
    refine hj2 (Zw s.1 oi.dst e.val,Zg (Zg (QH (Qu e.frz s.2) e.dels) e.sets) e.adds) (QV ap3) ?_
    rw[X7 C M _ (nx+64*j) (UH (o:=oj) ap3)]
    rcases hl with hl | ⟨hl1,hl2⟩
    ·exact Zlo hl
    ·refine vop_fz hl1 fun z hz k hk=>?_
     refine hagree k ((good j oj hoj z hz).1 k hk) fun hp=>?_
     exact ZoX (Zis ((k2 k hp).2 _ hl2) z hz) hk
   refine⟨_,by simp only[ZN,hoj,Zf,hqj];exact e2,fun t=>?_,fun k=>?_⟩
   ·rw[hon,hon (Zw s.1 oj.dst vj,Zg s.2 aj)];exact(JR ap2 vj e.val t).symm
   ·rw[hon,hon (Zw s.1 oj.dst vj,Zg s.2 aj)]
    show lkp (Zg (Zg (Zg (QH (Qu e.frz s.2) e.dels) e.sets) e.adds) aj) k=lkp (Zg (Zg (QH (Qu e.frz (Zg s.2 aj)) e.dels) e.sets) e.adds) k
    have a1:∀ (B:Hp) (hp hp' : Hp),(∀ k,lkp hp k=lkp hp' k)→∀ k,lkp (Zg hp B) k=lkp (Zg hp' B) k:=fun B hp hp' h=>Zdv B h
    have notj:∀ k,U k→∀ o',(k,o')∉aj:=fun k hk o' ho'=>by
     have:=hj1 k o' ho'
     exact hfj k this.1 this.2 hk
    rw[ZrO (A:=e.adds) (B:=aj) (fun k x y hx hy=>by
     have:=hoadds k x hx
     have:=hj1 k y hy
     rcases Nat.lt_or_gt_of_ne hij with h | h<;>omega)]
    refine a1 e.adds _ _ (fun k=>?_) k
    rw[ZrO (A:=e.sets) (B:=aj) (fun k x y hx hy=>notj k (putU k (.inr ⟨x,hx⟩)) y hy) (QH (Qu e.frz s.2) e.dels) k]
    refine a1 e.sets _ _ (fun k=>?_) k
    by_cases hd:k∈e.dels
    ·rw[ZD aj _ k (notj k (putU k (.inl hd))),ZoZ hd,ZoZ hd]
    ·rw[Uf _ _ k hd]
     rw[Qm]
     by_cases hk:∃ o',(k,o')∈aj
     ·obtain⟨o',ho'⟩:=hk
      rw[ZdY (hp':=s.2) ⟨o',ho'⟩]
      have hnf:k∉e.frz:=fun hf=>notj k (frzU k hf) o' ho'
      cases lkp (Zg s.2 aj) k<;>simp[hnf]
     ·have hk' : ∀ o',(k,o')∉aj:=fun o' ho'=>hk ⟨o',ho'⟩
      rw[ZD aj _ k hk',ZD aj _ k hk',Uf _ _ k hd,Qm]
theorem ZyX {C:Orc} {M:Zt} {os:List CO} {nx i j:Nat} {oi oj:CO} (hoi:os[i]?=some oi) (hoj:os[j]?=some oj) (hci:ZwO oi.op=true) (hqj:Qb os j=false) (hij:i≠j) (hap:Yr oj oi=true)
  (hops:∀ (k:Nat) (o:CO),os[k]?=some o→∀ x∈ZT o.op,Wh x=true) {s s1 s2:Sl×Hp} {U:Nat→Prop} (hs:Zj8 nt s U) (hfi:Yd U (nx+64*i)) (hfj:Yd U (nx+64*j))
  (h1:ZN C M os nx j s=some s1) (h2:ZN C M os nx i s1=some s2):∃ t1,ZN C M os nx i s=some t1∧∃ t2,ZN C M os nx j t1=some t2∧YO t2 s2:=by
 have e:∀ s:Sl×Hp,ZN C M os nx i s=ZZ C M nx i false oi s:=fun s=>by
  simp only[ZN,hoi,Zf]
  cases Qb os i
  ·rfl
  ·exact ZyV hci s
 rw[e] at h2
 simp only[e]
 exact ZoV hoi hoj hqj hij hap hops hs hfi hfj h1 h2
theorem Zs0 {hp:Hp} {base s:Nat} {vs:List AV} {ce:Zc} (h:buildSl hp base s vs=some ce):ce.gone=[]:=by
 cases vs with
 | nil=>simp only[buildSl,QT] at h;first | (cases h;rfl) | (split at h<;>first | (cases h;rfl) | cases h)
 | cons v r=>
  simp only[buildSl] at h
  obtain⟨q,_,h⟩:=Za h
  unfold ZwA at h
  split at h
  ·cases h;rfl
  ·cases h
theorem Zuu {C:Orc} {M:Zt} {sl:Sl} {hp:Hp} {base:Nat} {c:COp} {ce:Zc} (hc:Zhv c=true) (h:vop C M sl hp base c=some ce):ce.gone=[]:=by
 cases c<;>first | (cases hc;done) | skip
 ·simp only[vop] at h
  exact Zs0 h
 ·simp only[vop,Ztb,Zik] at h
  obtain⟨e,_,h⟩:=Za h;cases h;rfl
theorem ZyY {C:Orc} {M:Zt} {nx j:Nat} {oj:CO} {s s1:Sl×Hp} (hm:Wl oj.op=true) (h:ZZ C M nx j false oj s=some s1) :
  ∃ v,s1=(Zw s.1 oj.dst v,s.2)∧∀ s'' : Sl×Hp,Qe s''.1 oj.guard=Qe s.1 oj.guard→(∀ x∈ZT oj.op,evO s''.1 x=evO s.1 x)→ZZ C M nx j false oj s''=some (Zw s''.1 oj.dst v,s''.2):=by
 obtain⟨x,hx⟩:∃ x,oj.op=.move x:=by
  cases ho:oj.op<;>rw[ho] at hm<;>first | (cases hm;done) | exact⟨_,rfl⟩
 unfold ZZ at h ⊢
 obtain⟨b,hw,h⟩:=Za h
 cases b with
 | true=>
  simp only[if_true,hx,UE,Bool.false_eq_true,if_false,vop] at h
  refine⟨evO s.1 x,?_,fun s'' g1 g2=>?_⟩
  ·cases h;rfl
  ·rw[g1,hw,Zf]
   have e:=g2 x (by rw[hx];simp[ZT])
   simp only[if_true,hx,UE,Bool.false_eq_true,if_false,vop,e]
   rfl
 | false=>
  simp only[Bool.false_eq_true,if_false] at h
  cases h
  refine⟨.tup [],rfl,fun s'' g1 g2=>?_⟩
  rw[g1,hw,Zf];rfl
theorem ZyZ {C:Orc} {M:Zt} {os:List CO} {nx i j:Nat} {oi oj:CO} (hoi:os[i]?=some oi) (hoj:os[j]?=some oj) (hqj:Qb os j=false) (hap:Yr oj oi=true)
  {s s1 s2:Sl×Hp} (hm:Wl oj.op=true) (hg:Zhv oi.op=true)
  (h1:ZN C M os nx j s=some s1) (h2:ZN C M os nx i s1=some s2):∃ t1,ZN C M os nx i s=some t1∧∃ t2,ZN C M os nx j t1=some t2∧YO t2 s2:=by
 simp only[Yr,Bool.and_eq_true] at hap
 obtain⟨⟨ap1,ap2⟩,ap3⟩:=hap
 simp only[ZN,hoj,Zf,hqj] at h1
 simp only[ZN,hoi,Zf] at h2
 obtain⟨vj,rfl,hj2⟩:=ZyY hm h1
 unfold ZZ at h2
 obtain⟨b,hw,h2⟩:=Za h2
 have hw' : Qe s.1 oi.guard=some b:=by rw[← hw];exact(QV ap1).symm
 cases b with
 | false=>
  simp only[Bool.false_eq_true,if_false] at h2
  cases h2
  refine⟨(Zw s.1 oi.dst (.tup []),s.2),by simp only[ZN,hoi,Zf,ZZ,hw',Bool.false_eq_true,if_false],?_⟩
  exact⟨(Zw (Zw s.1 oi.dst (.tup [])) oj.dst vj,s.2),by simp only[ZN,hoj,Zf,hqj];exact hj2 (Zw s.1 oi.dst (.tup []),s.2) (QV ap3) (UH (o:=oj) ap3),fun t=>(JR ap2 vj (.tup []) t).symm,fun id=>rfl⟩
 | true=>
  simp only[if_true] at h2
  obtain⟨ce,h3,h4,rfl⟩:=Xv h2
  have hgone:=Zuu hg (Zcw h3)
  have h3' : UE C M nx i (Qb os i) oi.op s.1 s.2=some ce:=by
   rw[← h3]
   unfold UE
   rw[X7 C M s.2 (nx+64*i) (UH (o:=oi) ap1)]
  have hon:∀ (sl:Sl) (hp:Hp),ce.on oi.dst sl hp=(Zw sl oi.dst ce.eff.val,ce.eff.on hp):=by
   intro sl hp
   unfold Zc.on
   rw[hgone];rfl
  refine⟨ce.on oi.dst s.1 s.2,?_,?_⟩
  ·simp only[ZN,hoi,Zf,ZZ,hw',if_true,VO]
   rw[h3',Zf,if_pos h4]
  ·rw[hon]
   refine⟨(Zw (Zw s.1 oi.dst ce.eff.val) oj.dst vj,ce.eff.on s.2),by simp only[ZN,hoj,Zf,hqj];exact hj2 (Zw s.1 oi.dst ce.eff.val,ce.eff.on s.2) (QV ap3) (UH (o:=oj) ap3),fun t=>?_,fun k=>?_⟩
   ·rw[hon];exact(JR ap2 vj ce.eff.val t).symm
   ·rw[hon]
theorem awayV_ptr {sl:Sl} {xs:List Opd} {v:AV} (h:Zef sl xs v=true) {k off:Nat} (e:v=.ptr k off):∀ z∈xs,k∉ZI (evO sl z):=by
 subst e
 exact fun z hz=>ZoX (Zis h z hz)
structure Zo0 (r:Sl) (oX oY:CO):Prop where
 opd:∀ x∈ZT oX.op,okV (evO r x)=true
 dst:∀ t,oX.dst=some t→okV (gs r t)=true
 arg:∀ y∈ZmN oY.op,okV (evO r y)=true
 away:∀ y∈ZmN oY.op,∀ k off,evO r y=.ptr k off→∀ z∈ZT oX.op,k∉ZI (evO r z)
theorem Zs1 {sl:Sl}:∀ {xs:List Opd},okL sl xs=true→∀ x∈xs,okV (evO sl x)=true
 | [],_,x,hx=>by simp at hx
 | y :: ys,h,x,hx=>by
  simp only[okL,Bool.and_eq_true] at h
  rcases List.mem_cons.1 hx with rfl | hx
  ·exact h.1
  ·exact Zs1 h.2 x hx
theorem ZrP {sl:Sl} {xs:List Opd}:∀ {ys:List Opd},ZiH sl xs ys=true→∀ y∈ys,Zef sl xs (evO sl y)=true
 | [],_,x,hx=>by simp at hx
 | y :: ys,h,x,hx=>by
  simp only[ZiH,Bool.and_eq_true] at h
  rcases List.mem_cons.1 hx with rfl | hx
  ·exact h.1
  ·exact ZrP h.2 x hx
theorem Zuv {r:Sl} {oX oY:CO} (hm:Wl oX.op=false) (hc:Zcn oY.op=true) (h:Zar r oX.dst oX.op oY.op=true):Zo0 r oX oY:=by
 obtain⟨f,as,ho⟩:∃ f as,oY.op=.call (.f f) as:=by
  cases ho:oY.op<;>rw[ho] at hc<;>first | (cases hc;done) | skip
  rename_i f as
  cases f<;>first | (cases hc;done) | exact⟨_,_,rfl⟩
 rw[ho] at h
 have h' : (okL r (ZT oX.op)&&(okD r oX.dst&&(okL r as&&ZiH r (ZT oX.op) as)))=true:=by
  cases hx:oX.op<;>rw[hx] at h hm<;>first | (cases hm;done) | exact h
 simp only[Bool.and_eq_true] at h'
 obtain⟨h1,h2,h3,h4⟩:=h'
 refine⟨Zs1 h1,fun t ht=>?_,?_,?_⟩
 ·rw[ht] at h2;exact h2
 ·rw[ho];exact Zs1 h3
 ·rw[ho]
  intro y hy k off e
  exact awayV_ptr (ZrP h4 y hy) e
theorem Zo0.move {r r' : Sl} {oX oY:CO} (h:Zo0 r oX oY) (h1:∀ n∈(ZT oX.op).flatMap ZcO,okV (gs r n)=true→gs r' n=gs r n) (h2:∀ n,oX.dst=some n→okV (gs r n)=true→gs r' n=gs r n)
  (h3:∀ n∈(ZmN oY.op).flatMap ZcO,okV (gs r n)=true→gs r' n=gs r n):Zo0 r' oX oY:=by
 have e1:∀ x∈ZT oX.op,evO r' x=evO r x:=fun x hx=>by
  have ho:=h.opd x hx
  cases x with
  | t n=>exact h1 n (List.mem_flatMap.2 ⟨_,hx,by simp[ZcO]⟩) ho
  | _=>rfl
 have e3:∀ x∈ZmN oY.op,evO r' x=evO r x:=fun x hx=>by
  have ho:=h.arg x hx
  cases x with
  | t n=>exact h3 n (List.mem_flatMap.2 ⟨_,hx,by simp[ZcO]⟩) ho
  | _=>rfl
 refine⟨fun x hx=>by rw[e1 x hx];exact h.opd x hx,fun t ht=>by rw[h2 t ht (h.dst t ht)];exact h.dst t ht,fun x hx=>by rw[e3 x hx];exact h.arg x hx,fun y hy k off e z hz=>?_⟩
 rw[e3 y hy] at e
 rw[e1 z hz]
 exact h.away y hy k off e z hz
theorem Zo1 {C:Orc} {M:Zt} {os:List CO} {nx x y:Nat} {oX oY:CO} (hox:os[x]?=some oX) (hoy:os[y]?=some oY) (hij:x≠y) (hap1:Xe oY.dst (looks oX)=true) (hap2:Xe oX.dst (looks oY)=true)
  (hselfX:Xe oX.dst (looks oX)=true) (hselfY:Xe oY.dst (looks oY)=true)
  (hops:∀ (k:Nat) (o:CO),os[k]?=some o→∀ x∈ZT o.op,Wh x=true) {s:Sl×Hp} {r:Sl} {U:Nat→Prop} (hs:Zj8 nt s U) (hfx:Yd U (nx+64*x)) (hfy:Yd U (nx+64*y))
  (hcall:Zcn oY.op=true) {ce:Zc} (hce:vop C M s.1 s.2 (nx+64*y) oY.op=some ce) (hok:Xl (nx+64*y) (nx+64*y+64) ce.eff.adds=true)
  (hrel:∀ n,oX.dst≠some n→oY.dst≠some n→gs r n=kill ce.gone (gs s.1 n)) (hseen:Zo0 r oX oY) :
  ce.eff.dels=[]∧(∀ z∈ZT oX.op,evO (ce.on oY.dst s.1 s.2).1 z=evO s.1 z)∧(∀ z∈ZT oX.op,∀ id∈ZI (evO s.1 z),id∉ce.gone)∧(∀ z∈ZT oX.op,Zln ce.gone s.2 (ce.on oY.dst s.1 s.2).2 (evO s.1 z)) ∧
  (∀ k,nx+64*x≤k→k<nx+64*x+64→(∀ o',(k,o')∉ce.eff.sets)∧(∀ o',(k,o')∉ce.eff.adds)∧k∉ce.eff.frz∧k∉ce.gone):=by
 obtain⟨F,A,I,Γ,a,w,hsim⟩:=hs
 have good:∀ (k:Nat) (o:CO),os[k]?=some o→∀ x∈ZT o.op,Zli U (evO s.1 x):=by
  intro k o ho x hx
  cases x with
  | t n=>exact hsim.good n
  | v y=>exact ZaW (hops k o ho _ hx)
  | f n=>exact⟨fun id hid=>by simp[evO,ZI,ZJ] at hid,fun f caps h c hc=>by cases h;simp at hc⟩
 obtain⟨f,as,ho⟩:∃ f as,oY.op=.call (.f f) as:=by
  cases ho:oY.op<;>rw[ho] at hcall<;>first | (cases hcall;done) | skip
  rename_i f as
  cases f<;>first | (cases hcall;done) | exact⟨_,_,rfl⟩
 have hce':=hce
 rw[ho] at hce'
 simp only[vop,evO,Zd8,List.append_nil] at hce'
 obtain⟨k1,k2,k3,k4⟩:=Zza hce'
 have lookX:∀ n,(Opd.t n)∈ZT oX.op→n∈looks oX:=fun n hn=>List.mem_append.2 (.inl (List.mem_flatMap.2 ⟨_,hn,by simp[ZcO]⟩))
 have lookY:∀ n,(Opd.t n)∈as→n∈looks oY:=fun n hn=>List.mem_append.2 (.inl (List.mem_flatMap.2 ⟨.t n,by rw[ho];simp[ZT,hn],by simp[ZcO]⟩))
 have ne:∀ {d:Option Nat} {l:List Nat} {n:Nat},Xe d l=true→n∈l→d≠some n:=fun {d l n} h hn e=>by
  rw[e] at h
  simp only[Xe,Bool.not_eq_true',List.contains_eq_mem,decide_eq_false_iff_not] at h
  exact h hn
 have evX:∀ z∈ZT oX.op,evO r z=evO s.1 z∧∀ id∈ZI (evO s.1 z),id∉ce.gone:=by
  intro z hz
  have hz':=hseen.opd z hz
  cases z with
  | t n=>
   have e:=hrel n (ne hselfX (lookX n hz)) (ne hap1 (lookX n hz))
   simp only[evO] at hz' ⊢
   rw[e] at hz' ⊢
   have:=ZdV hz'
   exact⟨this,ZAI this⟩
  | v c=>
   have:=hops x oX hox _ hz
   simp only[Wh,Bool.and_eq_true,List.isEmpty_iff] at this
   exact⟨rfl,fun id hid=>by simp only[evO] at hid;rw[this.1] at hid;simp at hid⟩
  | f n=>simp only[evO,okV,okC] at hz';cases hz'
 have evY:∀ z∈as,evO r z=evO s.1 z:=by
  intro z hz
  have hz':=hseen.arg z (by rw[ho];exact hz)
  cases z with
  | t n=>
   have e:=hrel n (ne hap2 (lookY n hz)) (ne hselfY (lookY n hz))
   simp only[evO] at hz' ⊢
   rw[e] at hz' ⊢
   exact ZdV hz'
  | _=>rfl
 have inU:∀ id,(∃ o,lkp s.2 id=some o)→U id:=fun id ⟨o,h⟩=>hsim.id_in h
 have uX:∀ k,nx+64*x≤k→k<nx+64*x+64→¬U k:=fun k h1 h2=>hfx k h1 h2
 have hadds:=Jf hok
 have notSets:∀ z∈ZT oX.op,∀ k∈ZI (evO s.1 z),∀ o',(k,o')∉ce.eff.sets:=by
  intro z hz k hk o' ho'
  rcases (k4 k o' ho').2 with h | ⟨v,hv,hkv⟩
  ·exact(evX z hz).2 k hk h
  ·obtain⟨y',hy',rfl⟩:=Zju hv
   have hok':=hseen.arg y' (by rw[ho];exact hy')
   rw[evY y' hy'] at hok'
   cases hp:evO s.1 y' with
   | ptr a b=>
    rw[hp] at hkv
    simp only[Zct,List.mem_singleton] at hkv
    subst hkv
    have:=hseen.away y' (by rw[ho];exact hy') k b (by rw[evY y' hy',hp]) z hz
    rw[(evX z hz).1] at this
    exact this hk
   | clo g cs=>rw[hp] at hok';simp only[okV,okC] at hok';cases hok'
   | _=>rw[hp] at hkv;simp[Zct] at hkv
 refine⟨k1,fun z hz=>?_,fun z hz=>(evX z hz).2,fun z hz k hk=>?_,fun k g1 g2=>⟨fun o' ho'=>?_,fun o' ho'=>?_,fun hf=>?_,fun hg=>?_⟩⟩
 ·cases z with
  | t n=>
   show gs (Zw (XP ce.gone s.1) oY.dst ce.eff.val) n=gs s.1 n
   rw[QU,if_neg (ne hap1 (lookX n hz)),Xj]
   have e:=hrel n (ne hselfX (lookX n hz)) (ne hap1 (lookX n hz))
   have:=hseen.opd _ hz
   simp only[evO] at this
   rw[e] at this
   exact ZdV this
  | _=>rfl
 ·have hkU:U k:=(good x oX hox z hz).1 k hk
  show ZdW ce.gone (lkp s.2 k) (lkp (ce.eff.on (Wg ce.gone s.2)) k)
  unfold Eff.on
  rw[k1]
  simp only[QH]
  rw[ZD,ZD,Qm,WD]
  ·exact Zuz _
  ·exact notSets z hz k hk
  ·intro o' ho'
   obtain⟨h1,h2⟩:=hadds k o' ho'
   exact hfy k h1 h2 hkU
 ·exact uX k g1 g2 (inU k (k4 k o' ho').1)
 ·have:=hadds k o' ho'
  rcases Nat.lt_or_gt_of_ne hij with h | h<;>omega
 ·obtain⟨v,hv,hkv⟩:=k2 k hf
  obtain⟨y',hy',rfl⟩:=Zju hv
  exact uX k g1 g2 ((good y oY hoy y' (by rw[ho];simp[ZT,hy'])).1 k hkv)
 ·exact uX k g1 g2 (inU k (k3 k hg))
theorem Zwn {C:Orc} {M:Zt} {os:List CO} {nx i j:Nat} {oi oj:CO} (hoi:os[i]?=some oi) (hoj:os[j]?=some oj) (hqj:Qb os j=false) (hij:i≠j) (hap:Yr oj oi=true)
  (hselfX:Xe oj.dst (looks oj)=true) (hselfY:Xe oi.dst (looks oi)=true)
  (hops:∀ (k:Nat) (o:CO),os[k]?=some o→∀ x∈ZT o.op,Wh x=true) {s s1 s2:Sl×Hp} {U:Nat→Prop} (hs:Zj8 nt s U) (hfi:Yd U (nx+64*i)) (hfj:Yd U (nx+64*j))
  (hcall:Zcn oi.op=true) (hah:ZpB oj.op=true) (hseen:Zo0 s2.1 oj oi) {t:Nat} (ht:oj.dst=some t)
  (h1:ZN C M os nx j s=some s1) (h2:ZN C M os nx i s1=some s2):∃ t1,ZN C M os nx i s=some t1∧∃ t2,ZN C M os nx j t1=some t2∧YO t2 s2:=by
 have hs':=hs
 obtain⟨F,A,I,Γ,a,w,hsim⟩:=hs'
 simp only[Yr,Bool.and_eq_true] at hap
 obtain⟨⟨ap1,ap2⟩,ap3⟩:=hap
 have good:∀ (k:Nat) (o:CO),os[k]?=some o→∀ x∈ZT o.op,Zli U (evO s.1 x):=by
  intro k o ho x hx
  cases x with
  | t n=>exact hsim.good n
  | v y=>exact ZaW (hops k o ho _ hx)
  | f n=>exact⟨fun id hid=>by simp[evO,ZI,ZJ] at hid,fun f caps h c hc=>by cases h;simp at hc⟩
 have stepj:∀ s:Sl×Hp,ZN C M os nx j s=ZZ C M nx j false oj s:=fun s=>by simp only[ZN,hoj,Zf,hqj]
 rw[stepj] at h1
 simp only[ZN,hoi,Zf] at h2
 obtain⟨v,ax,hs1,hax,hX⟩:∃ v ax,s1=(Zw s.1 oj.dst v,Zg s.2 ax)∧(∀ k x,(k,x)∈ax→nx+64*j≤k∧k<nx+64*j+64) ∧
   ((Qe s.1 oj.guard=some false∧v=.tup []∧ax=[])∨(Qe s.1 oj.guard=some true∧∃ ce,Zmx ce∧vop C M s.1 s.2 (nx+64*j) oj.op=some ce∧Xl (nx+64*j) (nx+64*j+64) ce.eff.adds=true∧v=ce.eff.val∧ax=ce.eff.adds)):=by
  rcases Zww h1 with ⟨g1,g2⟩ | ⟨g1,ce,g2,g3,g4,g5⟩
  ·exact⟨.tup [],[],g2,fun k x h=>by simp at h,.inl ⟨g1,rfl,rfl⟩⟩
  ·exact⟨ce.eff.val,ce.eff.adds,g5,Jf g4,.inr ⟨g1,ce,g2,g3,g4,rfl,rfl⟩⟩
 subst hs1
 unfold ZZ at h2
 obtain⟨b,hw,h2⟩:=Za h2
 have hw' : Qe s.1 oi.guard=some b:=by rw[← hw];exact(QV ap1).symm
 cases b with
 | false=>
  simp only[Bool.false_eq_true,if_false] at h2
  cases h2
  refine⟨(Zw s.1 oi.dst (.tup []),s.2),by simp only[ZN,hoi,Zf];exact VL hw',?_⟩
  refine⟨(Zw (Zw s.1 oi.dst (.tup [])) oj.dst v,Zg s.2 ax),?_,fun t=>(JR ap2 v (.tup []) t).symm,fun id=>rfl⟩
  rw[stepj]
  have hwj:Qe (Zw s.1 oi.dst (.tup [])) oj.guard=Qe s.1 oj.guard:=QV ap3
  rcases hX with ⟨g1,rfl,rfl⟩ | ⟨g1,ce,g2,g3,g4,rfl,rfl⟩
  ·exact VL (s:=(Zw s.1 oi.dst (.tup []),s.2)) (hwj.trans g1)
  ·refine Zjw (s:=(Zw s.1 oi.dst (.tup []),s.2)) (hwj.trans g1) g2 ?_ g4
   rw[← g3]
   exact X7 C M s.2 (nx+64*j) (UH (o:=oj) ap3)
 | true=>
  simp only[if_true] at h2
  obtain⟨ce,h3,h4,rfl⟩:=Xv h2
  have hv1:vop C M s.1 s.2 (nx+64*i) oi.op=some ce:=by
   have h5:=Zcw h3
   rw[← h5,X7 C M (Zg s.2 ax) (nx+64*i) (UH (o:=oi) ap1)]
   exact ZbF (hsim.agree (UI hfj hax s.2)) C M _ (good i oi hoi)
  have h3' : UE C M nx i (Qb os i) oi.op s.1 s.2=some ce:=by
   rw[← h3]
   unfold UE
   rw[X7 C M (Zg s.2 ax) (nx+64*i) (UH (o:=oi) ap1),ZbF (hsim.agree (UI hfj hax s.2)) C M _ (good i oi hoi)]
  have hrel:∀ n,oj.dst≠some n→oi.dst≠some n→gs (ce.on oi.dst (Zw s.1 oj.dst v) (Zg s.2 ax)).1 n=kill ce.gone (gs s.1 n):=fun n e1 e2=>by
   show gs (Zw (XP ce.gone (Zw s.1 oj.dst v)) oi.dst ce.eff.val) n=_
   rw[QU,if_neg e2,Xj,QU,if_neg e1]
  obtain⟨c1,c2,c3,c4,c5⟩:=Zo1 (nt:=nt) hoj hoi (Ne.symm hij) ap3 ap1 hselfX hselfY hops hs hfj hfi hcall hv1 h4 hrel hseen
  have e0:gs (ce.on oi.dst (Zw s.1 oj.dst v) (Zg s.2 ax)).1 t=kill ce.gone v:=by
   show gs (Zw (XP ce.gone (Zw s.1 oj.dst v)) oi.dst ce.eff.val) t=_
   rw[QU,if_neg,Xj,QU,if_pos ht]
   intro e
   rw[ht,e] at ap2
   simp[ZbM] at ap2
  have hdst:kill ce.gone v=v:=by
   have h5:=hseen.dst t ht
   rw[e0] at h5
   exact ZdV h5
  have hokv:okV v=true:=by
   have h5:=hseen.dst t ht
   rw[e0,hdst] at h5
   exact h5
  refine⟨ce.on oi.dst s.1 s.2,?_,?_⟩
  ·simp only[ZN,hoi,Zf,ZZ,hw',if_true,VO]
   rw[h3',Zf,if_pos h4]
  ·have hwj:Qe (ce.on oi.dst s.1 s.2).1 oj.guard=Qe s.1 oj.guard:=by
    show Qe (Zw (XP ce.gone s.1) oi.dst ce.eff.val) oj.guard=_
    rw[QV ap3]
    exact Zjx fun q _=>Xj _ _ _
   have hcase:(∀ k o,(k,o)∈ax→YN ce.gone o=o)∧ZZ C M nx j false oj (ce.on oi.dst s.1 s.2)=some (Zw (ce.on oi.dst s.1 s.2).1 oj.dst v,Zg (ce.on oi.dst s.1 s.2).2 ax):=by
    rcases hX with ⟨g1,rfl,rfl⟩ | ⟨g1,cx,g2,g3,g4,rfl,rfl⟩
    ·exact⟨fun k o h=>by simp at h,VL (hwj.trans g1)⟩
    ·obtain⟨e1,e2⟩:=Zy8 hah c2 c4 (fun k h6 h7=>(c5 k h6 h7).2.2.2) g3 g4 g2.frz hokv hdst
     exact⟨e2,Zjw (hwj.trans g1) g2 e1 g4⟩
   obtain⟨e3,e4⟩:=hcase
   refine⟨_,by rw[stepj];exact e4,?_⟩
   exact ZxV (ce:=ce) (dX:=oj.dst) (dY:=oi.dst) (v:=v) (ax:=ax) (s:=s) ap2 c1 (fun k o ho=>by
    obtain⟨h6,h7⟩:=hax k o ho
    obtain⟨m1,m2,m3,_⟩:=c5 k h6 h7
    exact⟨m1,m2,m3⟩) e3 hdst
theorem Zuw {C:Orc} {M:Zt} {os:List CO} {nx i j:Nat} {oi oj:CO} (hoi:os[i]?=some oi) (hoj:os[j]?=some oj) (hqi:Qb os i=false) (hij:i≠j) (hap:Yr oj oi=true)
  (hselfX:Xe oi.dst (looks oi)=true) (hselfY:Xe oj.dst (looks oj)=true)
  (hops:∀ (k:Nat) (o:CO),os[k]?=some o→∀ x∈ZT o.op,Wh x=true) {s s1 s2:Sl×Hp} {U:Nat→Prop} (hs:Zj8 nt s U) (hfi:Yd U (nx+64*i)) (hfj:Yd U (nx+64*j))
  (hcall:Zcn oj.op=true) (hbe:ZlE oi.op=true) (hseen:Zo0 s2.1 oi oj) {t:Nat} (ht:oi.dst=some t)
  (h1:ZN C M os nx j s=some s1) (h2:ZN C M os nx i s1=some s2):∃ t1,ZN C M os nx i s=some t1∧∃ t2,ZN C M os nx j t1=some t2∧YO t2 s2:=by
 have hs':=hs
 obtain⟨F,A,I,Γ,a,w,hsim⟩:=hs'
 simp only[Yr,Bool.and_eq_true] at hap
 obtain⟨⟨ap1,ap2⟩,ap3⟩:=hap
 have ap2' : ZbM oi.dst oj.dst=true:=by
  cases hd:oi.dst<;>cases he:oj.dst<;>rw[hd,he] at ap2<;>first | rfl | (simp only[ZbM,bne_iff_ne,ne_eq] at ap2 ⊢;exact fun e=>ap2 e.symm)
 have good:∀ (k:Nat) (o:CO),os[k]?=some o→∀ x∈ZT o.op,Zli U (evO s.1 x):=by
  intro k o ho x hx
  cases x with
  | t n=>exact hsim.good n
  | v y=>exact ZaW (hops k o ho _ hx)
  | f n=>exact⟨fun id hid=>by simp[evO,ZI,ZJ] at hid,fun f caps h c hc=>by cases h;simp at hc⟩
 have stepi:∀ s:Sl×Hp,ZN C M os nx i s=ZZ C M nx i false oi s:=fun s=>by simp only[ZN,hoi,Zf,hqi]
 rw[stepi] at h2
 simp only[ZN,hoj,Zf] at h1
 unfold ZZ at h1
 obtain⟨b,hw,h1⟩:=Za h1
 cases b with
 | false=>
  simp only[Bool.false_eq_true,if_false] at h1
  cases h1
  have hwi:Qe (Zw s.1 oj.dst (.tup [])) oi.guard=Qe s.1 oi.guard:=QV ap1
  rcases Zww h2 with ⟨g1,g2⟩ | ⟨g1,ce,g2,g3,g4,g5⟩
  ·subst g2
   refine⟨(Zw s.1 oi.dst (.tup []),s.2),by rw[stepi];exact VL (hwi.symm.trans g1),(Zw (Zw s.1 oi.dst (.tup [])) oj.dst (.tup []),s.2),?_,fun t=>JR ap2' _ _ t,fun id=>rfl⟩
   simp only[ZN,hoj,Zf]
   exact VL (s:=(Zw s.1 oi.dst (.tup []),s.2)) ((QV ap3).trans hw)
  ·subst g5
   refine⟨(Zw s.1 oi.dst ce.eff.val,Zg s.2 ce.eff.adds),?_,(Zw (Zw s.1 oi.dst ce.eff.val) oj.dst (.tup []),Zg s.2 ce.eff.adds),?_,fun t=>JR ap2' _ _ t,fun id=>rfl⟩
   ·rw[stepi]
    refine Zjw (hwi.symm.trans g1) g2 ?_ g4
    rw[← g3]
    exact(X7 C M s.2 (nx+64*i) (UH (o:=oi) ap1)).symm
   ·simp only[ZN,hoj,Zf]
    exact VL (s:=(Zw s.1 oi.dst ce.eff.val,Zg s.2 ce.eff.adds)) ((QV ap3).trans hw)
 | true=>
  simp only[if_true] at h1
  obtain⟨ce,h3,h4,rfl⟩:=Xv h1
  have hv1:vop C M s.1 s.2 (nx+64*j) oj.op=some ce:=Zcw h3
  have hwi:Qe (ce.on oj.dst s.1 s.2).1 oi.guard=Qe s.1 oi.guard:=by
   show Qe (Zw (XP ce.gone s.1) oj.dst ce.eff.val) oi.guard=_
   rw[QV ap1]
   exact Zjx fun q _=>Xj _ _ _
  obtain⟨v,ax,hs2,hax,hX⟩:∃ v ax,s2=(Zw (ce.on oj.dst s.1 s.2).1 oi.dst v,Zg (ce.on oj.dst s.1 s.2).2 ax)∧(∀ k x,(k,x)∈ax→nx+64*i≤k∧k<nx+64*i+64) ∧
    ((Qe s.1 oi.guard=some false∧v=.tup []∧ax=[])∨(Qe s.1 oi.guard=some true∧∃ cx,Zmx cx∧vop C M (ce.on oj.dst s.1 s.2).1 (ce.on oj.dst s.1 s.2).2 (nx+64*i) oi.op=some cx∧Xl (nx+64*i) (nx+64*i+64) cx.eff.adds=true∧v=cx.eff.val∧ax=cx.eff.adds)):=by
   rcases Zww h2 with ⟨g1,g2⟩ | ⟨g1,cx,g2,g3,g4,g5⟩
   ·exact⟨.tup [],[],g2,fun k x h=>by simp at h,.inl ⟨hwi.symm.trans g1,rfl,rfl⟩⟩
   ·exact⟨cx.eff.val,cx.eff.adds,g5,Jf g4,.inr ⟨hwi.symm.trans g1,cx,g2,g3,g4,rfl,rfl⟩⟩
  subst hs2
  have hrel:∀ n,oi.dst≠some n→oj.dst≠some n→gs (Zw (ce.on oj.dst s.1 s.2).1 oi.dst v) n=kill ce.gone (gs s.1 n):=fun n e1 e2=>by
   rw[QU,if_neg e1]
   show gs (Zw (XP ce.gone s.1) oj.dst ce.eff.val) n=_
   rw[QU,if_neg e2,Xj]
  obtain⟨c1,c2,c3,c4,c5⟩:=Zo1 (nt:=nt) hoi hoj hij ap1 ap3 hselfX hselfY hops hs hfi hfj hcall hv1 h4 hrel hseen
  have hokv:okV v=true:=by
   have h5:=hseen.dst t ht
   simp only[QU,if_pos ht] at h5
   exact h5
  have hcase:kill ce.gone v=v∧(∀ k o,(k,o)∈ax→YN ce.gone o=o)∧ZZ C M nx i false oi s=some (Zw s.1 oi.dst v,Zg s.2 ax):=by
   rcases hX with ⟨g1,rfl,rfl⟩ | ⟨g1,cx,g2,g3,g4,rfl,rfl⟩
   ·exact⟨rfl,fun k o h=>by simp at h,VL g1⟩
   ·obtain⟨e1,e2,e3⟩:=Zwv hbe c2 c4 c3 (fun k h6 h7=>(c5 k h6 h7).2.2.2) g3 g4 g2.frz hokv
    exact⟨e2,e3,Zjw g1 g2 e1 g4⟩
  obtain⟨hk,e3,e4⟩:=hcase
  refine⟨(Zw s.1 oi.dst v,Zg s.2 ax),by rw[stepi];exact e4,ce.on oj.dst (Zw s.1 oi.dst v) (Zg s.2 ax),?_,?_⟩
  ·simp only[ZN,hoj,Zf,ZZ]
   have hwj:Qe (Zw s.1 oi.dst v) oj.guard=some true:=(QV ap3).trans hw
   simp only[hwj,Zf,if_true,VO]
   have:UE C M nx j (Qb os j) oj.op (Zw s.1 oi.dst v) (Zg s.2 ax)=some ce:=by
    rw[← h3]
    unfold UE
    rw[X7 C M (Zg s.2 ax) (nx+64*j) (UH (o:=oj) ap3),← ZbF (hsim.agree (UI hfi hax s.2)) C M _ (good j oj hoj)]
   rw[this,Zf,if_pos h4]
  ·exact(ZxV (ce:=ce) (dX:=oi.dst) (dY:=oj.dst) (v:=v) (ax:=ax) (s:=s) ap2' c1 (fun k o ho=>by
    obtain⟨h6,h7⟩:=hax k o ho
    obtain⟨m1,m2,m3,_⟩:=c5 k h6 h7
    exact⟨m1,m2,m3⟩) e3 hk).symm
theorem Zhf {C:Orc} {M:Zt} {nx j:Nat} {oj:CO} {x:Opd} (hx:oj.op=.move x) {s:Sl×Hp} {b:Bool} (hw:Qe s.1 oj.guard=some b) :
  ZZ C M nx j false oj s=some (Zw s.1 oj.dst (if b then evO s.1 x else .tup []),s.2):=by
 unfold ZZ
 rw[hw,Zf]
 cases b
 ·rfl
 ·simp only[if_true,hx,UE,Bool.false_eq_true,if_false,vop];rfl
theorem Zwo {C:Orc} {M:Zt} {os:List CO} {nx i j:Nat} {oi oj:CO} (hoi:os[i]?=some oi) (hoj:os[j]?=some oj) (hqj:Qb os j=false) (hap:Yr oj oi=true)
  (hops:∀ (k:Nat) (o:CO),os[k]?=some o→∀ x∈ZT o.op,Wh x=true)
  {s s1 s2:Sl×Hp} (hm:Wl oj.op=true) {t:Nat} (ht:oj.dst=some t) (hok:okV (gs s2.1 t)=true)
  (h1:ZN C M os nx j s=some s1) (h2:ZN C M os nx i s1=some s2):∃ t1,ZN C M os nx i s=some t1∧∃ t2,ZN C M os nx j t1=some t2∧YO t2 s2:=by
 obtain⟨x,hx⟩:∃ x,oj.op=.move x:=by
  cases ho:oj.op<;>rw[ho] at hm<;>first | (cases hm;done) | exact⟨_,rfl⟩
 simp only[Yr,Bool.and_eq_true] at hap
 obtain⟨⟨ap1,ap2⟩,ap3⟩:=hap
 have stepj:∀ s:Sl×Hp,ZN C M os nx j s=ZZ C M nx j false oj s:=fun s=>by simp only[ZN,hoj,Zf,hqj]
 rw[stepj] at h1
 obtain⟨bj,hwj⟩:∃ bj,Qe s.1 oj.guard=some bj:=by
  unfold ZZ at h1
  obtain⟨b,hw,_⟩:=Za h1
  exact⟨b,hw⟩
 rw[Zhf hx hwj] at h1
 have h1:=(Option.some.inj h1).symm
 subst h1
 simp only[ZN,hoi,Zf] at h2
 unfold ZZ at h2
 obtain⟨b,hw,h2⟩:=Za h2
 have hw' : Qe s.1 oi.guard=some b:=by rw[← hw];exact(QV ap1).symm
 have nei:oi.dst≠some t:=fun e=>by rw[ht,e] at ap2;simp[ZbM] at ap2
 have lookX:∀ n,x=.t n→oi.dst≠some n:=fun n e h=>by
  rw[h] at ap3
  simp only[Xe,Bool.not_eq_true',List.contains_eq_mem,decide_eq_false_iff_not] at ap3
  exact ap3 (List.mem_append.2 (.inl (by rw[hx,e];simp[ZT,ZcO])))
 cases b with
 | false=>
  simp only[Bool.false_eq_true,if_false] at h2
  cases h2
  refine⟨(Zw s.1 oi.dst (.tup []),s.2),by simp only[ZN,hoi,Zf];exact VL hw',?_⟩
  refine⟨_,by rw[stepj];exact Zhf (s:=(Zw s.1 oi.dst (.tup []),s.2)) hx ((QV ap3).trans hwj),?_⟩
  have:evO (Zw s.1 oi.dst (.tup [])) x=evO s.1 x:=UH (o:=oj) ap3 x (by rw[hx];simp[ZT])
  simp only[this]
  exact⟨fun t=>(JR ap2 _ _ t).symm,fun id=>rfl⟩
 | true=>
  simp only[if_true] at h2
  obtain⟨ce,h3,h4,rfl⟩:=Xv h2
  have h3' : UE C M nx i (Qb os i) oi.op s.1 s.2=some ce:=by
   rw[← h3]
   unfold UE
   rw[X7 C M s.2 (nx+64*i) (UH (o:=oi) ap1)]
  refine⟨ce.on oi.dst s.1 s.2,by simp only[ZN,hoi,Zf,ZZ,hw',if_true,VO];rw[h3',Zf,if_pos h4],?_⟩
  have hwj2:Qe (ce.on oi.dst s.1 s.2).1 oj.guard=some bj:=by
   show Qe (Zw (XP ce.gone s.1) oi.dst ce.eff.val) oj.guard=_
   rw[QV ap3,← hwj]
   exact Zjx fun q _=>Xj _ _ _
  refine⟨_,by rw[stepj];exact Zhf hx hwj2,?_⟩
  have e0:gs (ce.on oi.dst (Zw s.1 oj.dst (if bj then evO s.1 x else .tup [])) s.2).1 t=kill ce.gone (if bj then evO s.1 x else .tup []):=by
   show gs (Zw (XP ce.gone (Zw s.1 oj.dst _)) oi.dst ce.eff.val) t=_
   rw[QU,if_neg nei,Xj,QU,if_pos ht]
  rw[e0] at hok
  have hk:=ZdV hok
  have ev:(if bj then evO (ce.on oi.dst s.1 s.2).1 x else .tup [])=(if bj then evO s.1 x else .tup []):=by
   cases bj with
   | false=>rfl
   | true=>
    simp only[if_true] at hk ⊢
    cases x with
    | t n=>
     show gs (Zw (XP ce.gone s.1) oi.dst ce.eff.val) n=gs s.1 n
     rw[QU,if_neg (lookX n rfl),Xj]
     exact hk
    | _=>rfl
  rw[ev]
  refine⟨fun q=>?_,fun id=>rfl⟩
  show gs (Zw (Zw (XP ce.gone s.1) oi.dst ce.eff.val) oj.dst _) q=gs (Zw (XP ce.gone (Zw s.1 oj.dst _)) oi.dst ce.eff.val) q
  simp only[QU,Xj]
  by_cases hq:oj.dst=some q
  ·have:¬oi.dst=some q:=fun e=>by rw[hq,e] at ap2;simp[ZbM] at ap2
   simp only[hq,if_true,this,if_false]
   exact hk.symm
  ·simp[hq]
theorem Zwp {C:Orc} {M:Zt} {os:List CO} {nx i j:Nat} {oi oj:CO} (hoi:os[i]?=some oi) (hoj:os[j]?=some oj) (hqi:Qb os i=false) (hap:Yr oj oi=true)
  (hops:∀ (k:Nat) (o:CO),os[k]?=some o→∀ x∈ZT o.op,Wh x=true)
  {s s1 s2:Sl×Hp} (hm:Wl oi.op=true) {t:Nat} (ht:oi.dst=some t) (hok:okV (gs s2.1 t)=true)
  (h1:ZN C M os nx j s=some s1) (h2:ZN C M os nx i s1=some s2):∃ t1,ZN C M os nx i s=some t1∧∃ t2,ZN C M os nx j t1=some t2∧YO t2 s2:=by
 obtain⟨x,hx⟩:∃ x,oi.op=.move x:=by
  cases ho:oi.op<;>rw[ho] at hm<;>first | (cases hm;done) | exact⟨_,rfl⟩
 simp only[Yr,Bool.and_eq_true] at hap
 obtain⟨⟨ap1,ap2⟩,ap3⟩:=hap
 have stepi:∀ s:Sl×Hp,ZN C M os nx i s=ZZ C M nx i false oi s:=fun s=>by simp only[ZN,hoi,Zf,hqi]
 rw[stepi] at h2
 simp only[ZN,hoj,Zf] at h1
 unfold ZZ at h1
 obtain⟨b,hw,h1⟩:=Za h1
 have lookX:∀ n,x=.t n→oj.dst≠some n:=fun n e h=>by
  rw[h] at ap1
  simp only[Xe,Bool.not_eq_true',List.contains_eq_mem,decide_eq_false_iff_not] at ap1
  exact ap1 (List.mem_append.2 (.inl (by rw[hx,e];simp[ZT,ZcO])))
 have fin:∀ (bi:Bool) (e:evO s1.1 x=evO s.1 x∨bi=false) (g1:Qe s.1 oi.guard=some bi) (g2:Qe s1.1 oi.guard=some bi),s2=(Zw s1.1 oi.dst (if bi then evO s.1 x else .tup []),s1.2):=by
  intro bi e g1 g2
  rw[Zhf hx g2] at h2
  rw[← Option.some.inj h2]
  rcases e with e | e
  ·rw[e]
  ·rw[e];rfl
 cases b with
 | false=>
  simp only[Bool.false_eq_true,if_false] at h1
  cases h1
  have hwi:Qe (Zw s.1 oj.dst (.tup [])) oi.guard=Qe s.1 oi.guard:=QV ap1
  obtain⟨bi,hbi⟩:∃ bi,Qe s.1 oi.guard=some bi:=by
   unfold ZZ at h2
   obtain⟨b,hw,_⟩:=Za h2
   exact⟨b,hwi.symm.trans hw⟩
  have e:evO (Zw s.1 oj.dst (.tup [])) x=evO s.1 x:=UH (o:=oi) ap1 x (by rw[hx];simp[ZT])
  have h5:=fin bi (.inl e) hbi (hwi.trans hbi)
  subst h5
  refine⟨_,by rw[stepi];exact Zhf hx hbi,(Zw (Zw s.1 oi.dst (if bi then evO s.1 x else .tup [])) oj.dst (.tup []),s.2),?_,fun t=>?_,fun id=>rfl⟩
  ·simp only[ZN,hoj,Zf]
   exact VL (s:=(Zw s.1 oi.dst (if bi then evO s.1 x else .tup []),s.2)) ((QV ap3).trans hw)
  ·exact(JR ap2 _ _ t).symm
 | true=>
  simp only[if_true] at h1
  obtain⟨ce,h3,h4,rfl⟩:=Xv h1
  have hwi:Qe (ce.on oj.dst s.1 s.2).1 oi.guard=Qe s.1 oi.guard:=by
   show Qe (Zw (XP ce.gone s.1) oj.dst ce.eff.val) oi.guard=_
   rw[QV ap1]
   exact Zjx fun q _=>Xj _ _ _
  obtain⟨bi,hbi⟩:∃ bi,Qe s.1 oi.guard=some bi:=by
   unfold ZZ at h2
   obtain⟨b,hw,_⟩:=Za h2
   exact⟨b,hwi.symm.trans hw⟩
  have h2':=h2
  rw[Zhf hx (hwi.trans hbi)] at h2'
  have h6:=Option.some.inj h2'
  have hv:okV (if bi then evO (ce.on oj.dst s.1 s.2).1 x else .tup [])=true:=by
   rw[← h6] at hok
   simp only[QU,if_pos ht] at hok
   exact hok
  have hkv:kill ce.gone (if bi then evO s.1 x else .tup [])=(if bi then evO s.1 x else .tup [])∧(evO (ce.on oj.dst s.1 s.2).1 x=evO s.1 x∨bi=false):=by
   cases bi with
   | false=>exact⟨rfl,.inr rfl⟩
   | true=>
    simp only[if_true] at hv ⊢
    cases x with
    | t n=>
     have e:evO (ce.on oj.dst s.1 s.2).1 (.t n)=kill ce.gone (gs s.1 n):=by
      show gs (Zw (XP ce.gone s.1) oj.dst ce.eff.val) n=_
      rw[QU,if_neg (lookX n rfl),Xj]
     rw[e] at hv ⊢
     have:=ZdV hv
     exact⟨this,.inl this⟩
    | v c=>
     have hc:=hops i oi hoi (.v c) (by rw[hx];simp[ZT])
     simp only[Wh,Bool.and_eq_true,List.isEmpty_iff] at hc
     exact⟨ZxT hv fun id hid=>by simp only[evO] at hid;rw[hc.1] at hid;simp at hid,.inl rfl⟩
    | f n=>simp only[evO,okV,okC] at hv;cases hv
  have h5:=fin bi hkv.2 hbi (hwi.trans hbi)
  subst h5
  refine⟨_,by rw[stepi];exact Zhf hx hbi,ce.on oj.dst (Zw s.1 oi.dst (if bi then evO s.1 x else .tup [])) s.2,?_,fun q=>?_,fun id=>rfl⟩
  ·simp only[ZN,hoj,Zf,ZZ]
   have hwj:Qe (Zw s.1 oi.dst (if bi then evO s.1 x else .tup [])) oj.guard=some true:=(QV ap3).trans hw
   simp only[hwj,Zf,if_true,VO]
   have:UE C M nx j (Qb os j) oj.op (Zw s.1 oi.dst (if bi then evO s.1 x else .tup [])) s.2=some ce:=by
    rw[← h3]
    unfold UE
    rw[X7 C M s.2 (nx+64*j) (UH (o:=oj) ap3)]
   rw[this,Zf,if_pos h4]
  ·show gs (Zw (XP ce.gone (Zw s.1 oi.dst _)) oj.dst ce.eff.val) q=gs (Zw (Zw (XP ce.gone s.1) oj.dst ce.eff.val) oi.dst _) q
   simp only[QU,Xj]
   by_cases hq:oi.dst=some q
   ·have:¬oj.dst=some q:=fun e=>by rw[hq,e] at ap2;simp[ZbM] at ap2
    simp only[hq,if_true,this,if_false]
    exact hkv.1
   ·simp[hq]
theorem ZxR {C:Orc} {M:Zt} (hC:QD P C) {ops:Array Oper} {os:List CO} (hos:Q6 (ZnD P nt ops.toList) ops.toList=some os) {nx i:Nat} {ks:List Nat} {oi:CO} (hoi:os[i]?=some oi)
  (hops:∀ (k:Nat) (o:CO),os[k]?=some o→∀ x∈ZT o.op,Wh x=true) :
  ∀ (js:List Nat) {s r:Sl×Hp} {U:Nat→Prop},Zj8 nt s U→Yd U (nx+64*i)→(∀ j∈js,Yd U (nx+64*j))→(js++i :: ks).Pairwise (· < ·) →
   (∀ j∈js,∃ oj,os[j]?=some oj∧Yr oj oi=true∧((Qb os j=false∧(Qb os i=true→ZwO oi.op=true∨(Zpz oi.op=true∧(UM oj.op=true∨(Za4 oj.op=true∧ZcP os j=true∧ZcP os i=true∧Zlk r.1 oj.op oi.op=true)))∨(Wl oj.op=true∧Zhv oi.op=true)∨(Wl oj.op=true∧Zn2 os j=true∧okD r.1 oj.dst=true) ∨
    (Wl oj.op=false∧Zcn oi.op=true∧ZpB oj.op=true∧ZcP os j=true∧ZcP os i=true∧Zn2 os j=true∧Zar r.1 oj.dst oj.op oi.op=true))) ∨
    (Qb os j=true∧Qb os i=false∧Wl oi.op=true∧Zn2 os i=true∧okD r.1 oi.dst=true) ∨
    (Qb os j=true∧Qb os i=false∧Wl oi.op=false∧Zcn oj.op=true∧ZlE oi.op=true∧ZcP os j=true∧ZcP os i=true∧Zn2 os i=true∧Zar r.1 oi.dst oi.op oj.op=true))) →
   (∀ j∈js++i :: ks,j<os.length)→Zhe C M os nx (js++i :: ks) s=some r →
   ∃ s',ZN C M os nx i s=some s'∧∃ r',Zhe C M os nx (js++ks) s'=some r'∧YO r' r
 | [],s,r,U,_,_,_,_,_,_,h=>by
  simp only[List.nil_append,Zhe] at h ⊢
  obtain⟨s',h1,h⟩:=Za h
  exact⟨s',h1,r,h,YO.refl r⟩
 | j :: js,s,r,U,hs,hfi,hfj,hsort,hj,hlt,h=>by
  have hrun:=h
  simp only[List.cons_append,Zhe] at h
  obtain⟨s1,h1,h⟩:=Za h
  have hsort':=hsort
  simp only[List.cons_append,List.pairwise_cons] at hsort
  have hji:j<i:=hsort.1 i (by simp)
  have hij:i≠j:=by omega
  have hs1:=Zwj hC hos hs (hfj j (by simp)) h1
  have hjn:∀ k∈js,k≠j:=fun k hk e=>by
   have:=hsort.1 k (by simp[hk]);omega
  obtain⟨s2,h2,r2,h3,h4⟩:=ZxR hC hos hoi hops js hs1 (ZrN hij hfi) (fun k hk=>ZrN (hjn k hk) (hfj k (by simp[hk]))) hsort.2 (fun k hk=>hj k (by simp[hk])) (fun k hk=>hlt k (by simp only[List.cons_append,List.mem_cons];exact .inr hk)) h
  obtain⟨oj,hoj,hap,hkind⟩:=hj j (by simp)
  have steadyD:∀ {k q n:Nat} {o:CO},ZcP os k=true→os[k]?=some o→k≤q→q<os.length→n∈looks o→Xe (ZaI os q) [n]=true:=by
   intro k q n o hst ho hkq hq hn
   have:=List.all_eq_true.1 hst q (List.mem_range.2 hq)
   simp only[Ztk,ho,Bool.or_eq_true,decide_eq_true_eq] at this
   rcases this with h | h
   ·omega
   ·cases hd:ZaI os q with
    | none=>rfl
    | some d=>
     rw[hd] at h
     simp only[Xe,Bool.not_eq_true',List.contains_eq_mem,decide_eq_false_iff_not] at h ⊢
     intro e
     simp at e
     exact h (e ▸ hn)
  have selfD:∀ {k:Nat} {o:CO},ZcP os k=true→os[k]?=some o→Xe o.dst (looks o)=true:=by
   intro k o hst ho
   have hk:k<os.length:=(List.getElem?_eq_some_iff.1 ho).1
   have:=List.all_eq_true.1 hst k (List.mem_range.2 hk)
   simp only[Ztk,ZaI,ho,Bool.or_eq_true,decide_eq_true_eq] at this
   rcases this with h | h
   ·omega
   ·exact h
  have loneD:∀ {k q t:Nat} {o:CO},Zn2 os k=true→os[k]?=some o→o.dst=some t→q≠k→q<os.length→Xe (ZaI os q) [t]=true:=by
   intro k q t o hl ho ht hne hq
   simp only[Zn2,Bool.and_eq_true] at hl
   have:=List.all_eq_true.1 hl.2 q (List.mem_range.2 hq)
   simp only[Bool.or_eq_true,beq_iff_eq,ZaI,ho,ht] at this
   rcases this with h | h
   ·exact absurd h hne
   ·simp only[ZaI]
    cases hoq:os[q]? with
    | none=>rfl
    | some oq=>
     rw[hoq] at h
     simp only at h ⊢
     cases hd:oq.dst with
     | none=>rfl
     | some d=>
      rw[hd] at h
      simp only[ZbM,bne_iff_ne,ne_eq] at h
      simp only[Xe,Bool.not_eq_true',List.contains_eq_mem,decide_eq_false_iff_not,List.mem_singleton]
      exact h
  have loneT:∀ {k:Nat} {o:CO},Zn2 os k=true→os[k]?=some o→∃ t,o.dst=some t:=by
   intro k o hl ho
   simp only[Zn2,ZaI,ho,Bool.and_eq_true] at hl
   cases hd:o.dst with
   | none=>rw[hd] at hl;cases hl.1
   | some t=>exact⟨t,rfl⟩
  have fin:∀ n,(∀ q∈js++ks,Xe (ZaI os q) [n]=true)→okV (gs r.1 n)=true→gs s2.1 n=gs r.1 n:=by
   intro n hn ho
   rw[← h4.1 n] at ho ⊢
   exact ZAF h3 hn ho
  have mem1:∀ q∈js++ks,q≠i∧j<q∧q<os.length:=by
   intro q hq
   refine⟨?_,?_,hlt q ?_⟩
   ·rcases List.mem_append.1 hq with hq | hq
    ·have:=(List.pairwise_append.1 hsort.2).2.2 q hq i (by simp);omega
    ·have:=(List.pairwise_cons.1 (List.pairwise_append.1 hsort.2).2.1).1 q hq;omega
   ·rcases List.mem_append.1 hq with hq | hq
    ·exact hsort.1 q (by simp[hq])
    ·exact hsort.1 q (by simp[hq])
   ·rcases List.mem_append.1 hq with hq | hq<;>simp[hq]
  have slotsJ:ZcP os j=true→∀ n∈looks oj,∀ q∈js++ks,Xe (ZaI os q) [n]=true:=fun hst n hn q hq=>by
   obtain⟨_,h6,h7⟩:=mem1 q hq
   exact steadyD hst hoj (by omega) h7 hn
  have slotsI:ZcP os i=true→∀ n∈looks oi,∀ q∈js++ks,Xe (ZaI os q) [n]=true:=fun hst n hn q hq=>by
   obtain⟨_,h6,h7⟩:=mem1 q hq
   rcases List.mem_append.1 hq with hq | hq
   ·obtain⟨oq,hoq,hapq,_⟩:=hj q (by simp[hq])
    simp only[Yr,Bool.and_eq_true] at hapq
    have h5:=hapq.1.1
    simp only[ZaI,hoq]
    cases hd:oq.dst with
    | none=>rfl
    | some d=>
     rw[hd] at h5
     simp only[Xe,Bool.not_eq_true',List.contains_eq_mem,decide_eq_false_iff_not] at h5 ⊢
     intro e
     simp at e
     exact h5 (e ▸ hn)
   ·have:=(List.pairwise_cons.1 (List.pairwise_append.1 hsort.2).2.1).1 q hq
    exact steadyD hst hoi (by omega) h7 hn
  have opdLook:∀ {o:CO} {n:Nat},n∈(ZT o.op).flatMap ZcO→n∈looks o:=fun h=>List.mem_append.2 (.inl h)
  have argLook:∀ {o:CO} {n:Nat},n∈(ZmN o.op).flatMap ZcO→n∈looks o:=fun {o n} h=>by
   refine List.mem_append.2 (.inl ?_)
   cases ho:o.op<;>rw[ho] at h<;>simp only[ZmN,List.flatMap_nil,List.not_mem_nil] at h
   simp only[ZT,List.flatMap_cons,List.mem_append]
   exact .inr h
  have hswap:∃ t1,ZN C M os nx i s=some t1∧∃ t2,ZN C M os nx j t1=some t2∧YO t2 s2:=by
   rcases hkind with ⟨hqj,hloose⟩ | ⟨hqj,hti,k1,k5,k6⟩ | ⟨hqj,hti,k0,k1,k2,k3,k4,k5,k6⟩
   case inr.inl=>
    obtain⟨t,ht⟩:=loneT k5 hoi
    refine Zwp hoi hoj hti hap hops k1 ht ?_ h1 h2
    rw[ht] at k6
    simp only[okD] at k6
    rw[fin t (fun q hq=>?_) k6]
    ·exact k6
    ·obtain⟨h5,_,h7⟩:=mem1 q hq
     exact loneD k5 hoi ht h5 h7
   case inr.inr=>
    obtain⟨t,ht⟩:=loneT k5 hoi
    refine Zuw hoi hoj hti hij hap (selfD k4 hoi) (selfD k3 hoj) hops hs hfi (hfj j (by simp)) k1 k2 ?_ ht h1 h2
    refine(Zuv k0 k1 k6).move (fun n hn=>fin n (slotsI k4 n (opdLook hn))) (fun n hn=>fin n fun q hq=>?_) (fun n hn=>fin n (slotsJ k3 n (argLook hn)))
    obtain⟨h5,_,h7⟩:=mem1 q hq
    exact loneD k5 hoi hn h5 h7
   cases hti:Qb os i with
   | false=>exact ZyU hoi hoj hti hqj hij hap hops hs hfi (hfj j (by simp)) h1 h2
   | true=>
    rcases hloose hti with hc | ⟨hst,hl⟩ | ⟨hmv,hgn⟩ | ⟨k1,k5,k6⟩ | ⟨k0,k1,k2,k3,k4,k5,k6⟩
    case inr.inr.inr.inl=>
     obtain⟨t,ht⟩:=loneT k5 hoj
     refine Zwo hoi hoj hqj hap hops k1 ht ?_ h1 h2
     rw[ht] at k6
     simp only[okD] at k6
     rw[fin t (fun q hq=>?_) k6]
     ·exact k6
     ·obtain⟨_,h6,h7⟩:=mem1 q hq
      exact loneD k5 hoj ht (by omega) h7
    case inr.inr.inr.inr=>
     obtain⟨t,ht⟩:=loneT k5 hoj
     refine Zwn hoi hoj hqj hij hap (selfD k3 hoj) (selfD k4 hoi) hops hs hfi (hfj j (by simp)) k1 k2 ?_ ht h1 h2
     refine(Zuv k0 k1 k6).move (fun n hn=>fin n (slotsJ k3 n (opdLook hn))) (fun n hn=>fin n fun q hq=>?_) (fun n hn=>fin n (slotsI k4 n (argLook hn)))
     obtain⟨_,h6,h7⟩:=mem1 q hq
     exact loneD k5 hoj hn (by omega) h7
    ·exact ZyX hoi hoj hc hqj hij hap hops hs hfi (hfj j (by simp)) h1 h2
    ·refine Zwm hoi hoj hti hqj hij hap hops hs hfi (hfj j (by simp)) ⟨hst,?_⟩ h1 h2
     rcases hl with hl | ⟨hl1,hl2,hl3,hl4⟩
     ·exact .inl hl
     ·refine .inr ⟨hl1,?_⟩
      have evT:∀ x∈ZT oi.op,okW (evO r.1 x)=true→evO s.1 x=evO r.1 x:=by
       intro x hx hok
       cases x with
       | v a=>rfl
       | f n=>rfl
       | t n=>
        simp only[evO] at hok ⊢
        have hn:n∈looks oi:=by
         rw[looks]
         exact List.mem_append.2 (.inl (List.mem_flatMap.2 ⟨.t n,hx,List.mem_singleton.2 rfl⟩))
        refine ZsZ hrun (fun q hq=>?_) hok
        rcases List.mem_append.1 hq with hq | hq
        ·obtain⟨oq,hoq,hapq,_⟩:=hj q hq
         simp only[Yr,Bool.and_eq_true] at hapq
         have h5:=hapq.1.1
         simp only[ZaI,hoq]
         cases hd:oq.dst with
         | none=>rfl
         | some d=>
          rw[hd] at h5
          simp only[Xe,Bool.not_eq_true',List.contains_eq_mem,decide_eq_false_iff_not] at h5 ⊢
          intro e
          simp at e
          exact h5 (e ▸ hn)
        ·refine steadyD hl3 hoi ?_ (hlt q (List.mem_append.2 (.inr hq))) hn
         rcases List.mem_cons.1 hq with rfl | hq
         ·omega
         ·have:=List.pairwise_append.1 hsort.2
          have:=(List.pairwise_cons.1 this.2.1).1 q hq
          omega
      have evJ:∀ id,Ye r.1 id (ZT oj.op)=true→Ye s.1 id (ZT oj.op)=true:=by
       intro id hfa
       have key:∀ xs:List Opd,(∀ z∈xs,z∈ZT oj.op)→Ye r.1 id xs=true→Ye s.1 id xs=true:=by
        intro xs
        induction xs with
        | nil=>intro _ _;rfl
        | cons z zs ihz=>
         intro hsub hz
         simp only[Ye,Bool.and_eq_true] at hz ⊢
         refine⟨?_,ihz (fun z' hz'=>hsub z' (by simp[hz'])) hz.2⟩
         cases z with
         | v a=>exact hz.1
         | f n=>exact hz.1
         | t n=>
          simp only[evO] at hz ⊢
          have hn:n∈looks oj:=by
           rw[looks]
           exact List.mem_append.2 (.inl (List.mem_flatMap.2 ⟨.t n,hsub (.t n) (List.mem_cons_self ..),List.mem_singleton.2 rfl⟩))
          rw[ZAF hrun (fun q hq=>?_) (ZCJ hz.1)]
          ·exact hz.1
          ·refine steadyD hl2 hoj ?_ (hlt q hq) hn
           rcases List.mem_append.1 hq with hq | hq
           ·rcases List.mem_cons.1 hq with rfl | hq
            ·omega
            ·have:=hsort.1 q (by simp[hq]);omega
           ·have:=hsort.1 q (by simp only[List.mem_append];exact .inr hq);omega
       exact key _ (fun _ h=>h) hfa
      cases ho:oi.op<;>rw[ho] at hst hl4<;>first | (cases hst;done) | skip
      case store slc sz x y=>
       simp only[Zlk] at hl4 ⊢
       have hok:okV (evO r.1 x)=true:=by
        cases ht:W4 (evO r.1 x) with
        | none=>rw[ht] at hl4;simp[Zhx] at hl4
        | some id=>cases hv:evO r.1 x<;>rw[hv] at ht<;>simp only[W4] at ht<;>first | (cases ht;done) | rfl
       rw[evT x (by rw[ho];simp[ZT]) (ZsY hok)]
       cases ht:W4 (evO r.1 x) with
       | none=>rw[ht] at hl4;simp[Zhx] at hl4
       | some id=>rw[ht] at hl4;exact evJ id hl4
      case append sz by_ str flat x y=>
       simp only[Zlk,Bool.and_eq_true,Bool.or_eq_true] at hl4 ⊢
       obtain⟨hl5,hl6⟩:=hl4
       constructor
       ·have hok:okW (evO r.1 x)=true:=by
         cases hv:evO r.1 x<;>rw[hv] at hl5<;>first | rfl | (cases hl5;done) | skip
         case tup vs=>cases vs<;>first | rfl | cases hl5
        rw[evT x (by rw[ho];simp[ZT]) hok]
        cases hv:evO r.1 x<;>rw[hv] at hl5<;>first | (cases hl5;done) | exact evJ _ hl5 | skip
        ·rfl
        case tup vs=>cases vs<;>first | rfl | cases hl5
       ·rcases hl6 with hl6 | hl6
        ·exact .inl hl6
        ·right
         have hok:okW (evO r.1 y)=true:=by
          unfold seenSrc at hl6
          split at hl6
          ·rename_i k hk;rw[hk];rfl
          ·exact ZsY hl6
         rw[evT y (by rw[ho];simp[ZT]) hok]
         unfold seenSrc at hl6 ⊢
         split at hl6
         ·exact evJ _ hl6
         ·exact hl6
    ·exact ZyZ hoi hoj hqj hap hmv hgn h1 h2
  obtain⟨t1,g1,t2,g2,g3⟩:=hswap
  obtain⟨r3,g4,g5⟩:=ZoU g3.symm h3
  refine⟨t1,g1,r3,?_,g5.symm.trans h4⟩
  simp only[List.cons_append,Zhe,g2,Zf]
  exact g4
def rem (n:Nat) (listed:Array Bool):List Nat:=(List.range n).filter fun i=>!listed.getD i true
theorem Zjv {n:Nat} {listed:Array Bool} {i:Nat}:i∈rem n listed↔i<n∧listed.getD i true=false:=by
 simp[rem]
theorem Zo2 (n:Nat) (listed:Array Bool):(rem n listed).Pairwise (· < ·):=List.Pairwise.filter _ List.pairwise_lt_range
theorem ZCM {n:Nat} {listed:Array Bool} (hsz:listed.size=n) (i:Nat):rem n (listed.setIfInBounds i true)=(rem n listed).filter fun j=>j != i:=by
 simp only[rem,List.filter_filter]
 refine List.filter_congr fun j hj=>?_
 have hjn:j<n:=List.mem_range.1 hj
 by_cases hji:i=j
 ·subst hji;simp[hsz,hjn]
 ·simp[Array.getElem?_setIfInBounds_ne hji,Ne.symm hji]
def ZrQ (nx:Nat) (listed:Array Bool) (id:Nat):Prop:=id<nx∨∃ k,listed.getD k false=true∧nx+64*k≤id∧id<nx+64*k+64
theorem Zad {l:Array Bool} {k:Nat} (h:l.getD k false=true):k<l.size∧l.getD k true=true:=by
 rcases Nat.lt_or_ge k l.size with h1 | h1
 ·refine⟨h1,?_⟩
  simp[h1] at h ⊢;exact h
 ·simp[Array.getElem?_eq_none h1] at h
theorem Zo3 {nx i:Nat} {listed:Array Bool} (h:listed.getD i true=false):Yd (ZrQ nx listed) (nx+64*i):=by
 intro id h1 h2 hu
 rcases hu with hu | ⟨k,hk,h3,h4⟩
 ·omega
 ·have hki:k≠i:=fun e=>by subst e;rw[(Zad hk).2] at h;cases h
  rcases Nat.lt_or_gt_of_ne hki with h5 | h5<;>omega
theorem Zo4 {nx i:Nat} {listed:Array Bool} (hi:i<listed.size):∀ id,Za3 (ZrQ nx listed) (nx+64*i) id→ZrQ nx (listed.setIfInBounds i true) id:=by
 rintro id ((h | ⟨k,hk,h1⟩) | h)
 ·exact .inl h
 ·exact .inr ⟨k,getD_set_true hk,h1⟩
 ·exact .inr ⟨i,by simp[hi],h.1,h.2⟩
end
end Go.Abs
