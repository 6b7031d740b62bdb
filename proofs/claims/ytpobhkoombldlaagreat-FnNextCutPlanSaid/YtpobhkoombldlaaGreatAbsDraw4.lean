/- The abstract semantics: regions that draw. Own text. -/
import Derived.Test.YtpobhkoombldlaaGreatAbsDrawD
set_option linter.unusedVariables false
set_option linter.unusedSimpArgs false
namespace Go.Abs
open Go
section
variable {P:Program} {nt:Nat}
theorem ZpD {α β:Type} {f:α→Option β}:∀ {l:List α} {r:List β},QV f l=some r→∀ (i:Nat) (x:α),l[i]?=some x→∃ y,r[i]?=some y∧f x=some y
 | [],r,h,i,x,hx=>by simp at hx
 | a :: l,r,h,i,x,hx=>by
  simp only[QV] at h
  obtain⟨y,h1,h⟩:=Za h
  obtain⟨ys,h2,h⟩:=Za h
  cases h
  cases i with
  | zero=>simp at hx;subst hx;exact⟨y,by simp,h1⟩
  | succ i=>simp at hx;obtain⟨z,h3,h4⟩:=ZpD h2 i x hx;exact⟨z,by simpa using h3,h4⟩
theorem ZgP {α β:Type} {f:α→Option β}:∀ {l:List α} {r:List β},QV f l=some r→r.length=l.length
 | [],r,h=>by simp only[QV] at h;cases h;rfl
 | a :: l,r,h=>by
  simp only[QV] at h
  obtain⟨y,h1,h⟩:=Za h
  obtain⟨ys,h2,h⟩:=Za h
  cases h
  simp[ZgP h2]
theorem ZwR {C:Orc} {M:Zu} (hC:Ql P C) {ops:Array Oper} {os:List CO} (hos:QV (Zok P nt ops.toList) ops.toList=some os) {nx i:Nat} {s s' : Sl×Hp} {U:Nat→Prop} (hs:ZkT nt s U) (hf:XZ U (nx+64*i))
  (h:ZN C M os nx i s=some s'):ZkT nt s' (ZbV U (nx+64*i)):=by
 obtain⟨F,A,I,Γ,a,w,hsim⟩:=hs
 unfold ZN at h
 obtain⟨co,hco,h⟩:=Za h
 have hlt:i<ops.toList.length:=by rw[← ZgP hos];exact(List.getElem?_eq_some_iff.1 hco).1
 obtain⟨co',h1,h2⟩:=ZpD hos i ops.toList[i] (List.getElem?_eq_getElem hlt)
 rw[hco] at h1;cases h1
 obtain⟨hg,hop,hdst,hdd⟩:=ZlE h2
 unfold ZV at h
 obtain⟨b,hw,h⟩:=Za h
 cases b with
 | true=>
  simp only[if_true] at h
  obtain⟨ce,hce,hok,rfl⟩:=Xn h
  have hwp:=ZwH hC hsim hop hf hdst hok (ZeB hce) (fun a' w'=>∃ F A I Γ a w,Sim nt F A I Γ (ZbV U (nx+64*i)) (ce.on co.dst s.1 s.2).1 (ce.on co.dst s.1 s.2).2 a w) (fun _ _ _=>False) fun u w' hp=>by
   obtain⟨I1,Γ1,b1,b2,b3,b4,b5⟩:=hp
   rw[← hdd] at b5
   exact⟨F,A,I1,Γ1,_,_,b5⟩
  obtain⟨_,_,hex⟩:=Oper.wp_ex hwp
  exact hex
 | false=>
  simp only[Bool.false_eq_true,if_false] at h
  cases h
  obtain⟨I1,Γ1,b1,b2,b3,b4,b5⟩:=hsim.pure (U':=ZbV U (nx+64*i)) (v:=.tup []) (u:=undef) (dst:=co.dst) (fun id hu=>.inl hu) ZnB (by rw[hdd];exact hdst)
  exact⟨F,A,I1,Γ1,_,_,b5⟩
theorem ZsK {U:Nat→Prop} {nx i j:Nat} (hij:i≠j) (h:XZ U (nx+64*i)):XZ (ZbV U (nx+64*j)) (nx+64*i):=by
 intro id h1 h2 hu
 rcases hu with hu | hu
 ·exact h id h1 h2 hu
 ·rcases Nat.lt_or_gt_of_ne hij with h3 | h3<;>omega
theorem ZBZ {id:Nat} {v:AV} (h:Zgs id v=true):okV v=true:=by
 cases v with
 | tup vs=>cases vs with
  | nil=>rfl
  | cons x r=>cases h
 | _=>first | rfl | cases h
def okW:AV→Bool
 | .sub _ _=>true
 | v=>okV v
theorem ZtP {v:AV} (h:okV v=true):okW v=true:=by cases v<;>first | exact h | rfl
theorem Zz0 {g:List Nat} {v:AV} (h:okW (kill g v)=true):kill g v=v:=by
 cases v with
 | sub a b=>
  simp only[kill,Z7,Qv] at h ⊢
  split at h
  ·cases h
  ·rename_i hn;rw[if_neg hn]
 | _=>
  refine Zf8 ?_
  revert h
  generalize hk:kill g _=u
  cases u<;>first | exact fun h=>h | skip
  intro _
  simp only[kill,Z7,Qv] at hk
  first | (cases hk;done) | (split at hk<;>cases hk)
theorem ZB0 {C:Orc} {M:Zu} {os:List CO} {nx q n:Nat} {s r:Sl×Hp} (h:ZN C M os nx q s=some r) (hd:Q1 (Zbz os q) [n]=true) (hk:okW (gs r.1 n)=true):gs s.1 n=gs r.1 n:=by
 unfold ZN at h
 obtain⟨o,ho,h⟩:=Za h
 have hne:o.dst≠some n:=by
  intro e
  simp[Zbz,ho,e,Q1] at hd
 unfold ZV at h
 obtain⟨b,_,h⟩:=Za h
 cases b with
 | true=>
  simp only[if_true] at h
  obtain⟨ce,_,_,rfl⟩:=Xn h
  have e1:gs (ce.on o.dst s.1 s.2).1 n=kill ce.gone (gs s.1 n):=by
   show gs (Zx (XF ce.gone s.1) o.dst ce.eff.val) n=_
   rw[QN,if_neg hne,Q4]
  rw[e1] at hk ⊢
  exact(Zz0 hk).symm
 | false=>
  simp only[Bool.false_eq_true,if_false] at h
  cases h
  show gs s.1 n=gs (Zx s.1 o.dst (.tup [])) n
  rw[QN,if_neg hne]
theorem ZtQ {C:Orc} {M:Zu} {os:List CO} {nx n:Nat}:∀ {l:List Nat} {s r:Sl×Hp},runL C M os nx l s=some r→(∀ q∈l,Q1 (Zbz os q) [n]=true)→okW (gs r.1 n)=true→gs s.1 n=gs r.1 n
 | [],s,r,h,_,_=>by simp only[runL] at h;cases h;rfl
 | i :: l,s,r,h,hd,hk=>by
  simp only[runL] at h
  obtain⟨s1,h1,h⟩:=Za h
  have h2:=ZtQ h (fun q hq=>hd q (by simp[hq])) hk
  rw[← h2] at hk ⊢
  exact ZB0 h1 (hd i (by simp)) hk
theorem Zz1 {C:Orc} {M:Zu} {os:List CO} {nx n:Nat} {l:List Nat} {s r:Sl×Hp} (h:runL C M os nx l s=some r) (hd:∀ q∈l,Q1 (Zbz os q) [n]=true) (hk:okV (gs r.1 n)=true):gs s.1 n=gs r.1 n:=ZtQ h hd (ZtP hk)
theorem ZwS {C:Orc} {M:Zu} {sl:Sl} {hp:Hp} {base:Nat} {c:COp} {ce:Zf} (hc:Zxm c=true) (h:vop C M sl hp base c=some ce):Zgu (vop C M sl hp base c)=some ce:=by
 rw[h]
 have key:ce.gone=[]∧ce.eff.sets=[]∧ce.eff.dels=[]∧ce.eff.frz=[]:=by
  have o1:∀ {v:AV},Qm v=some ce→ce.gone=[]∧ce.eff.sets=[]∧ce.eff.dels=[]∧ce.eff.frz=[]:=fun h=>by cases h;exact⟨rfl,rfl,rfl,rfl⟩
  have o2:∀ {v:Option AV},UA v=some ce→ce.gone=[]∧ce.eff.sets=[]∧ce.eff.dels=[]∧ce.eff.frz=[]:=fun h=>by obtain⟨v,_,h⟩:=Za h;exact o1 h
  cases c<;>simp only[Zxm,Bool.false_eq_true] at hc<;>simp only[vop] at h
  case stuck=>cases h
  case move x=>exact o1 h
  case assign s x=>
   unfold ZgS at h
   split at h
   ·obtain⟨s,_,h⟩:=Za h;cases h;exact⟨rfl,rfl,rfl,rfl⟩
   ·exact o1 h
  case pick c a b=>
   unfold ZiY at h
   split at h
   ·split at h<;>exact o1 h
   ·cases h
  case alloc slc cs=>
   unfold Zir at h
   split at h<;>(cases h;exact⟨rfl,rfl,rfl,rfl⟩)
  case box x=>
   unfold Zxc at h
   split at h
   ·cases h;exact⟨rfl,rfl,rfl,rfl⟩
   ·cases h
  case build zs ps=>obtain⟨cs,_,h⟩:=Za h;exact o1 h
  case load g s a=>exact o2 h
  case nilCheck x=>unfold ZbR at h;split at h<;>first | exact o1 h | cases h
  case bin op eq x y=>
   unfold Zfn at h
   split at h
   ·split at h
    ·exact o2 h
    ·cases h
   ·exact o2 h
  case un op x=>exact o2 h
  case eqA neg n x y=>
   unfold ZrP at h
   split at h
   ·obtain⟨r,_,h⟩:=Za h;exact o1 h
   ·cases h
  case convI k x=>unfold Go.Abs.convI at h;split at h<;>first | exact o1 h | cases h
  case convS x=>unfold Go.Abs.convS at h;split at h<;>first | exact o1 h | cases h
  case fn f cs=>exact o2 h
  case make s b z l c=>
   obtain⟨l,_,h⟩:=Za h
   obtain⟨c,_,h⟩:=Za h
   unfold Zp1 at h
   split at h
   ·cases h;exact⟨rfl,rfl,rfl,rfl⟩
   ·cases h
  case slice s x lo hi=>exact o2 h
  case sliceS x lo hi=>exact o2 h
  case slice0 x hi mx=>exact o2 h
  case slice3 s x lo hi mx=>exact o2 h
  case shift off x=>unfold WU at h;split at h<;>first | exact o1 h | cases h
  case part g s off x=>exact o2 h
  case iaS s x i=>
   obtain⟨n,_,h⟩:=Za h
   unfold Zjt at h
   split at h
   ·exact o2 h
   ·cases h
  case iaA len s x i=>
   obtain⟨n,_,h⟩:=Za h
   unfold Zoi at h
   split at h
   ·unfold WU at h;split at h<;>first | exact o1 h | cases h
   ·cases h
  case ixS x i=>
   obtain⟨n,_,h⟩:=Za h
   unfold ZvG at h
   split at h
   ·unfold Zs1 at h
    split at h
    ·obtain⟨b,_,h⟩:=Za h;exact o1 h
    ·cases h
   ·cases h
  case ixA g s len x i=>
   obtain⟨n,_,h⟩:=Za h
   unfold Zxe at h
   split at h
   ·exact o2 h
   ·cases h
  case nth i x=>unfold Zt3 at h;split at h<;>first | exact o2 h | cases h
  case len x=>obtain⟨n,_,h⟩:=Za h;exact o1 h
  case lenS x=>obtain⟨n,_,h⟩:=Za h;exact o1 h
  case min x y=>unfold Zmk at h;split at h<;>first | (split at h<;>first | exact o1 h | cases h) | cases h
  case max x y=>unfold Zml at h;split at h<;>first | (split at h<;>first | exact o1 h | cases h) | cases h
 simp only[Zgu,Zj,key.1,key.2.1,key.2.2.1,key.2.2.2,ZiA]
theorem ZyM {C:Orc} {M:Zu} {nx i:Nat} {o:CO} (hc:Zxm o.op=true) (s:Sl×Hp):ZV C M nx i true o s=ZV C M nx i false o s:=by
 unfold ZV
 have:UO C M nx i true o.op s.1 s.2=UO C M nx i false o.op s.1 s.2:=by
  unfold UO
  simp only[if_true,Bool.false_eq_true,if_false]
  cases h:vop C M s.1 s.2 (nx+64*i) o.op with
  | none=>rfl
  | some ce=>rw[← h,ZwS hc h,h]
 rw[this]
theorem vop_read {C:Orc} {M:Zu} {sl:Sl} {hp hp' : Hp} {base:Nat} {c:COp} (hc:ZbW c=true) (h:∀ x∈ZP c,∀ k∈ZH (evO sl x),lkp hp k=lkp hp' k):vop C M sl hp base c=vop C M sl hp' base c:=by
 have len:∀ v:AV,(∀ k∈ZH v,lkp hp k=lkp hp' k)→Zhi hp v=Zhi hp' v:=fun v hv=>by
  cases v<;>simp only[Zhi]
  case d x=>cases x<;>rfl
  case own id=>rw[hv id (by simp[ZH,ZI,Zq])]
 cases c<;>simp only[ZbW,Bool.false_eq_true] at hc<;>simp only[ZP] at h<;>simp only[vop]
 case load g s a=>
  have:=h a (by simp)
  cases hv:evO sl a<;>rw[hv] at this<;>simp only[Zaf]
  case ptr id off=>rw[this id (by simp[ZH,ZI,Zq])]
  case prow id sz i off=>rw[this id (by simp[ZH,ZI,Zq])]
 case slice s x lo hi=>
  have:=h x (by simp)
  cases hv:evO sl x<;>rw[hv] at this<;>simp only[Uz]
  case d x=>cases x<;>rfl
  case own id=>rw[this id (by simp[ZH,ZI,Zq])]
  case ownv id off n=>rw[this id (by simp[ZH,ZI,Zq])]
 case slice0 x hi mx=>
  unfold slice0
  rw[len _ (h x (by simp))]
 case iaS s x i=>
  congr 1
  funext n
  simp only[Zjt]
  have:=h x (by simp)
  cases hv:evO sl x<;>rw[hv] at this<;>simp only[QP]
  case d x=>cases x<;>rfl
  case own id=>rw[this id (by simp[ZH,ZI,Zq])]
  case ownv id off n=>rw[this id (by simp[ZH,ZI,Zq])]
 case len x=>rw[len _ (h x (by simp))]
theorem ZsL {A B:Hp} (hd:∀ k x y,(k,x)∈A→(k,y)∈B→False) (hp:Hp) (id:Nat):lkp (Zi (Zi hp A) B) id=lkp (Zi (Zi hp B) A) id:=by
 have key:∀ (l:Hp) (hp hp' : Hp),lkp hp id=lkp hp' id→lkp (Zi hp l) id=lkp (Zi hp' l) id:=by
  intro l
  induction l with
  | nil=>intro hp hp' h;exact h
  | cons q r ih=>
   intro hp hp' h
   obtain⟨k,x⟩:=q
   simp only[Zi]
   exact ih _ _ (by rw[Qs,Qs,h])
 by_cases h1:∃ o,(id,o)∈A
 ·have h2:∀ o,(id,o)∉B:=fun o ho=>by
   obtain⟨o',ho'⟩:=h1
   exact hd id o' o ho' ho
  rw[ZD B _ id h2]
  exact key A _ _ (ZD B hp id h2).symm
 ·have h2:∀ o,(id,o)∉A:=fun o ho=>h1 ⟨o,ho⟩
  rw[ZD A _ id h2]
  exact key B _ _ (ZD A hp id h2)
theorem Zvi {hp:Hp} {v:AV} {q:D×Bool×List Nat} (h:Zfa hp v=some q):∀ i∈q.2.2,i∈Zq v:=by
 intro i hi
 cases v<;>simp only[Zfa] at h<;>first | (cases h;simp at hi;done) | (cases h;done) | skip
 obtain⟨p,_,h⟩:=Za h
 cases h
 simpa [Zq] using hi
theorem Zn5 {hp:Hp}:∀ {vs:List AV} {q:List D×Bool×List Nat},UD hp vs=some q→∀ i∈q.2.2,i∈vs.flatMap Zq
 | [],q,h,i,hi=>by simp only[UD] at h;cases h;simp at hi
 | v :: vs,q,h,i,hi=>by
  simp only[UD] at h
  obtain⟨q1,h1,h⟩:=Za h
  obtain⟨q2,h2,h⟩:=Za h
  split at h
  ·cases h
   rcases List.mem_append.1 hi with hi | hi
   ·exact List.mem_flatMap.2 ⟨v,by simp,Zvi h1 i hi⟩
   ·obtain⟨c,hc,hci⟩:=List.mem_flatMap.1 (Zn5 h2 i hi)
    exact List.mem_flatMap.2 ⟨c,by simp[hc],hci⟩
  ·cases h
theorem ZyN {hp:Hp} {slc:List (Option Nat)} {s base:Nat} {vs:List AV} {x:AV} {e:Eff} (h:Zdh hp slc s base vs x=some e):∃ id o,Ug x=some id∧e.val=.junk∧e.sets=[(id,o)]∧e.dels=[]∧∀ i∈e.frz,i∈vs.flatMap Zq:=by
 cases x<;>simp only[Zdh] at h<;>first | cases h | skip
 case ptr id off=>
  unfold ZhN at h
  split at h
  ·split at h
   ·split at h<;>(cases h;exact⟨id,_,rfl,rfl,rfl,rfl,fun i hi=>by simp at hi⟩)
   ·cases h
  ·cases h
 case prow id sz i off=>
  unfold Zge at h
  split at h
  ·split at h
   ·obtain⟨x,_,h⟩:=Za h
    obtain⟨q,hq,h⟩:=Za h
    unfold ZhO at h
    split at h
    ·cases h;exact⟨id,_,rfl,rfl,rfl,rfl,Zn5 hq⟩
    ·cases h
   ·cases h
  ·cases h
def FzEq (o o' : Option Zt):Prop:=∃ b:Bool,o'=o.map fun x=>if b then WS x else x
theorem FzEq.seen {o o' : Option Zt} (h:FzEq o o'):Zf9 [] o o':=by
 obtain⟨b,rfl⟩:=h
 have hk:∀ x:Zt,Yw [] x=x:=fun x=>by
  cases x with
  | box cs=>simp only[Yw];congr 1;rw[List.map_congr_left (g:=id) (fun a _=>ZhE a),List.map_id]
  | row _ _ _ _=>rfl
  | deep _ _ _ l=>cases l<;>simp[Yw,Zje]
 have:=Zvo (g:=[]) (b:=b) o
 have e:(o.map (Yw []))=o:=by cases o<;>simp[hk]
 rw[e] at this
 exact this
theorem vop_fz {C:Orc} {M:Zu} {sl:Sl} {hp hp' : Hp} {base:Nat} {c:COp} (hc:ZbW c=true) (h:∀ x∈ZP c,∀ k∈ZH (evO sl x),FzEq (lkp hp k) (lkp hp' k)):vop C M sl hp' base c=vop C M sl hp base c:=by
 have hs:∀ x∈ZP c,Zmc [] hp hp' (evO sl x):=fun x hx k hk=>(h x hx k hk).seen
 cases c<;>simp only[ZbW,Bool.false_eq_true] at hc<;>simp only[ZP] at h hs<;>simp only[vop]
 case load g s a=>
  have h1:=h a (by simp)
  have h2:=hs a (by simp)
  cases hv:evO sl a<;>rw[hv] at h1 h2<;>simp only[Zaf]
  case ptr id off=>
   obtain⟨b,e⟩:=h1 id (by simp[ZH,ZI,Zq])
   rw[e]
   cases lkp hp id with
   | none=>rfl
   | some o=>cases o<;>cases b<;>rfl
  case prow id sz i off=>
   obtain⟨b,e⟩:=h1 id (by simp[ZH,ZI,Zq])
   rw[e]
   cases lkp hp id with
   | none=>rfl
   | some o=>cases o<;>cases b<;>rfl
 case slice s x lo hi=>rw[Zjk (hs x (by simp))]
 case slice0 x hi mx=>unfold slice0;rw[ZhI (hs x (by simp))]
 case iaS s x i=>
  congr 1
  funext n
  simp only[Zjt]
  rw[ZeT (hs x (by simp))]
 case len x=>rw[ZhI (hs x (by simp))]
def Zl9 (sl:Sl) (a:COp):COp→Bool
 | .store _ _ x _=>Ziz sl a (Ug (evO sl x))
 | .append _ _ _ flat x y=>ZaQ sl a (evO sl x)&&(flat || seenSrc sl a (evO sl y))
 | _=>false
def LooseS (s:Sl) (a b:COp):Prop:=Zqf b=true∧(US a=true∨(ZbW a=true∧Zl9 s a b=true))
theorem Zji {sl:Sl} {id:Nat}:∀ {xs:List Opd},X0 sl id xs=true→∀ x∈xs,Zgs id (evO sl x)=true
 | [],_,x,hx=>by simp at hx
 | y :: ys,h,x,hx=>by
  simp only[X0,Bool.and_eq_true] at h
  rcases List.mem_cons.1 hx with rfl | hx
  ·exact h.1
  ·exact Zji h.2 x hx
theorem ZpE {id:Nat} {v:AV} (h:Zgs id v=true):id∉ZH v:=by
 cases v with
 | tup vs=>cases vs with
  | nil=>simp[ZH]
  | cons x r=>cases h
 | _=>simp[Zgs,ZH,ZI,Zq] at h ⊢ <;> exact fun e=>h e.symm
theorem ZwT {hp:Hp} {sz by_ base:Nat} {str flat:Bool} {x y:AV} {e:Eff} (h:Jx hp sz by_ str flat base x y=some e):e.sets=[]∧e.frz=[]∧((x=.nil∧e.dels=[])∨∃ id,e.dels=[id]∧(x=.own id∨∃ o n,x=.ownv id o n)):=by
 unfold Jx at h
 obtain⟨q,_,h⟩:=Za h
 split at h
 ·cases x<;>simp only[Zjq] at h<;>first | (cases h;done) | skip
  ·split at h
   ·cases h;exact⟨rfl,rfl,.inl ⟨rfl,rfl⟩⟩
   ·cases h
  ·split at h
   ·cases h
   ·unfold Znk at h
    split at h
    ·split at h
     ·cases h;exact⟨rfl,rfl,.inr ⟨_,rfl,.inl rfl⟩⟩
     ·cases h
    ·cases h
  ·split at h
   ·cases h
   ·split at h
    ·unfold Zkr at h
     split at h
     ·split at h
      ·cases h;exact⟨rfl,rfl,.inr ⟨_,rfl,.inr ⟨_,_,rfl⟩⟩⟩
      ·cases h
     ·cases h
    ·unfold Zkq at h
     split at h
     ·split at h
      ·cases h;exact⟨rfl,rfl,.inr ⟨_,rfl,.inr ⟨_,_,rfl⟩⟩⟩
      ·cases h
     ·cases h
 ·cases h
theorem ZpF {hp:Hp} {x:AV} {k:Nat} (h:k∈Vs hp x):x=.own k:=by
 unfold Vs at h
 split at h
 ·split at h
  ·simp at h;subst h;rfl
  ·simp at h
 ·simp at h
theorem Zz2 {hp:Hp} {sz by_ base:Nat} {str flat:Bool} {x y:AV} {e:Eff} (h:ZhR hp sz by_ str flat base y x=some e):e.frz=[] ∧
  ((e.sets=[]∧∀ k∈e.dels,(x=.own k∨∃ o n,x=.ownv k o n)∨(flat=false∧y=.own k))∨∃ id nm o,x=.sub id nm∧e.dels=[]∧e.sets=[(id,o)]):=by
 unfold ZhR at h
 split at h
 ·split at h
  ·cases h
  ·obtain⟨q,_,h⟩:=Za h
   split at h
   ·cases h
   ·unfold Zlv at h
    split at h
    ·obtain⟨fl,_,h⟩:=Za h
     split at h
     ·cases h;exact⟨rfl,.inr ⟨_,_,_,rfl,rfl,rfl⟩⟩
     ·cases h
    ·cases h
 ·have plain:∀ {hp' : Hp} {e:Eff},Jx hp' sz by_ str flat base x y=some e→e.sets=[]∧e.frz=[]∧∀ k∈e.dels,x=.own k∨∃ o n,x=.ownv k o n:=by
   intro hp' e h
   obtain⟨g1,g2,g3⟩:=ZwT h
   refine⟨g1,g2,fun k hk=>?_⟩
   rcases g3 with ⟨_,g3⟩ | ⟨id,g3,g4⟩
   ·rw[g3] at hk;simp at hk
   ·rw[g3] at hk;simp at hk;subst hk;exact g4
  generalize hm:Vs hp x++Vs hp y=ms at h
  cases ms with
  | nil=>
   simp only[WV] at h
   obtain⟨g1,g2,g3⟩:=plain h
   exact⟨g2,.inl ⟨g1,fun k hk=>.inl (g3 k hk)⟩⟩
  | cons i r=>
   simp only[WV] at h
   split at h
   ·cases h
   ·rename_i hfl
    obtain⟨e0,h1,h⟩:=Za h
    cases h
    obtain⟨g1,g2,g3⟩:=plain h1
    refine⟨g2,.inl ⟨g1,fun k hk=>?_⟩⟩
    rcases List.mem_append.1 hk with hk | hk
    ·exact .inl (g3 k hk)
    ·rw[← hm] at hk
     rcases List.mem_append.1 hk with hk | hk
     ·exact .inl (.inl (ZpF hk))
     ·exact .inr ⟨by simpa using hfl,ZpF hk⟩
theorem ZpG {ds:List Nat} {l:Hp} {k:Nat} (h:k∈ds):lkp (Qy l ds) k=none:=by
 cases hl:lkp (Qy l ds) k with
 | none=>rfl
 | some o=>exact absurd h (Zdl ds l k o hl).2
theorem ZB1 {C:Orc} {M:Zu} {sl:Sl} {hp:Hp} {base:Nat} {c:COp} {ce:Zf} (hc:Zqf c=true) (h:vop C M sl hp base c=some ce) :
  ce.gone=[]∧(∀ k,k∈ce.eff.dels∨(∃ o,(k,o)∈ce.eff.sets)→(∃ x∈ZP c,k∈ZH (evO sl x))∧∀ a,Zl9 sl a c=true→X0 sl k (ZP a)=true)∧∀ k∈ce.eff.frz,∃ x∈ZP c,k∈ZH (evO sl x):=by
 cases c<;>first | (cases hc;done) | skip
 case store slc sz x y=>
  simp only[vop,Zjb] at h
  obtain⟨e,h7,h⟩:=Za h
  cases h
  obtain⟨id,o,ht,g1,g2,g3,g4⟩:=ZyN h7
  refine⟨rfl,fun k hk=>?_,fun k hk=>⟨y,by simp[ZP],Zvd (U:=fun k=>k∈ZH (evO sl y)) (fun _ h=>h) k (g4 k hk)⟩⟩
  have hki:k=id:=by
   rcases hk with hk | ⟨o',hk⟩
   ·simp only[g3,List.not_mem_nil] at hk
   ·simp only[g2,List.mem_singleton,Prod.mk.injEq] at hk
    exact hk.1
  subst hki
  refine⟨⟨x,by simp[ZP],?_⟩,fun a ha=>?_⟩
  ·cases hv:evO sl x<;>rw[hv] at ht<;>simp only[Ug] at ht<;>cases ht<;>simp[ZH,ZI,Zq]
  ·simp only[Zl9,ht,Ziz] at ha
   exact ha
 case append sz by_ str flat x y=>
  simp only[vop,Zt4,Zjb] at h
  obtain⟨e,h7,h⟩:=Za h
  cases h
  obtain⟨g2,g3⟩:=Zz2 h7
  refine⟨rfl,fun k hk=>?_,fun k hk=>by simp only[g2,List.not_mem_nil] at hk⟩
  rcases g3 with ⟨g1,g3⟩ | ⟨id,nm,o,g4,g3,g1⟩
  ·have hkd:k∈e.dels:=by
    rcases hk with hk | ⟨o',hk⟩
    ·exact hk
    ·simp only[g1,List.not_mem_nil] at hk
   rcases g3 k hkd with g4 | ⟨g4,g5⟩
   ·refine⟨⟨x,by simp[ZP],?_⟩,fun a ha=>?_⟩
    ·rcases g4 with g4 | ⟨o,n,g4⟩<;>rw[g4]<;>simp[ZH,ZI,Zq]
    ·simp only[Zl9,Bool.and_eq_true] at ha
     rcases g4 with g4 | ⟨o,n,g4⟩<;>rw[g4] at ha<;>exact ha.1
   ·refine⟨⟨y,by simp[ZP],by rw[g5];simp[ZH,ZI,Zq]⟩,fun a ha=>?_⟩
    simp only[Zl9,Bool.and_eq_true,g4,Bool.false_or] at ha
    rw[g5] at ha
    exact ha.2
  ·have hkd:k=id:=by
    rcases hk with hk | ⟨o',hk⟩
    ·simp only[g3,List.not_mem_nil] at hk
    ·simp only[g1,List.mem_singleton,Prod.mk.injEq] at hk;exact hk.1
   subst hkd
   refine⟨⟨x,by simp[ZP],by rw[g4];simp[ZH,ZI,Zq]⟩,fun a ha=>?_⟩
   simp only[Zl9,Bool.and_eq_true] at ha
   rw[g4] at ha
   exact ha.1
theorem ZwU {C:Orc} {M:Zu} {os:List CO} {nx i j:Nat} {oi oj:CO} (hoi:os[i]?=some oi) (hoj:os[j]?=some oj) (hti:Z2 os i=true) (hqj:Z2 os j=false) (hij:i≠j) (hap:Yc oj oi=true)
  (hops:∀ (k:Nat) (o:CO),os[k]?=some o→∀ x∈ZP o.op,Wk x=true) {s s1 s2:Sl×Hp} {U:Nat→Prop} (hs:ZkT nt s U) (hfi:XZ U (nx+64*i)) (hfj:XZ U (nx+64*j)) (hl:LooseS s.1 oj.op oi.op)
  (h1:ZN C M os nx j s=some s1) (h2:ZN C M os nx i s1=some s2):∃ t1,ZN C M os nx i s=some t1∧∃ t2,ZN C M os nx j t1=some t2∧Yx t2 s2:=by
 obtain⟨F,A,I,Γ,a,w,hsim⟩:=hs
 simp only[Yc,Bool.and_eq_true] at hap
 obtain⟨⟨ap1,ap2⟩,ap3⟩:=hap
 have good:∀ (k:Nat) (o:CO),os[k]?=some o→∀ x∈ZP o.op,Zl7 U (evO s.1 x):=by
  intro k o ho x hx
  cases x with
  | t n=>exact hsim.good n
  | v y=>exact ZbL (hops k o ho _ hx)
  | f n=>exact⟨fun id hid=>by simp[evO,ZH,ZI] at hid,fun f caps h c hc=>by cases h;simp at hc⟩
 simp only[ZN,hoj,Zj,hqj] at h1
 simp only[ZN,hoi,Zj,hti] at h2
 obtain⟨vj,aj,rfl,hj1,hj2⟩:=Zlo h1
 obtain⟨hst,hl⟩:=hl
 unfold ZV at h2
 obtain⟨b,hw,h2⟩:=Za h2
 have hw' : Qa s.1 oi.guard=some b:=by rw[← hw];exact(QO ap1).symm
 cases b with
 | false=>
  simp only[Bool.false_eq_true,if_false] at h2
  cases h2
  refine⟨(Zx s.1 oi.dst (.tup []),s.2),by simp only[ZN,hoi,Zj,ZV,hw',Bool.false_eq_true,if_false],?_⟩
  have e2:=hj2 (Zx s.1 oi.dst (.tup []),s.2) (QO ap3) (XX C M s.2 (nx+64*j) (UP (o:=oj) ap3))
  exact⟨(Zx (Zx s.1 oi.dst (.tup [])) oj.dst vj,Zi s.2 aj),by simp only[ZN,hoj,Zj,hqj];exact e2,fun t=>(Zac ap2 vj (.tup []) t).symm,fun id=>rfl⟩
 | true=>
  simp only[if_true] at h2
  obtain⟨ce,h3,h4,rfl⟩:=Xn h2
  have h3' : vop C M s.1 s.2 (nx+64*i) oi.op=some ce:=by
   have h5:=ZeB h3
   rw[← h5,XX C M (Zi s.2 aj) (nx+64*i) (UP (o:=oi) ap1)]
   exact Zde (hsim.agree (UQ hfj hj1 s.2)) C M _ (good i oi hoi)
  have hoadds:=Jz h4
  obtain⟨k1,k2,k3⟩:=ZB1 hst h3'
  obtain⟨e,gn⟩:=ce
  simp only at k1 k2 k3
  subst k1
  have frzU:∀ k∈e.frz,U k:=fun k hk=>by
   obtain⟨x,hx,hk⟩:=k3 k hk
   exact(good i oi hoi x hx).1 k hk
  have putU:∀ k,k∈e.dels∨(∃ o,(k,o)∈e.sets)→U k:=fun k hk=>by
   obtain⟨⟨x,hx,hk⟩,_⟩:=k2 k hk
   exact(good i oi hoi x hx).1 k hk
  have hon:∀ s:Sl×Hp,Zf.on { eff:=e,gone:=[] } oi.dst s.1 s.2=(Zx s.1 oi.dst e.val,Zi (Zi (Qy (Qo e.frz s.2) e.dels) e.sets) e.adds):=by
   intro s
   rfl
  refine⟨Zf.on { eff:=e,gone:=[] } oi.dst s.1 s.2,?_,?_⟩
  ·simp only[ZN,hoi,Zj,ZV,hw',if_true,VD,hti,UO]
   rw[h3',Zj,if_pos h4]
  ·have hagree:∀ k,U k→¬(k∈e.dels∨∃ o,(k,o)∈e.sets)→FzEq (lkp s.2 k) (lkp (Zi (Zi (Qy (Qo e.frz s.2) e.dels) e.sets) e.adds) k):=by
    intro k hk hne
    rw[not_or] at hne
    rw[← UQ hfi hoadds _ k hk,ZD _ _ k (fun o ho=>hne.2 ⟨o,ho⟩),Um _ _ k hne.1,Qj]
    exact⟨_,rfl⟩
   have e2:ZV C M nx j false oj (Zf.on { eff:=e,gone:=[] } oi.dst s.1 s.2)=some (Zx (Zf.on { eff:=e,gone:=[] } oi.dst s.1 s.2).1 oj.dst vj,Zi (Zf.on { eff:=e,gone:=[] } oi.dst s.1 s.2).2 aj):=by
    rw[hon]
    refine hj2 (Zx s.1 oi.dst e.val,Zi (Zi (Qy (Qo e.frz s.2) e.dels) e.sets) e.adds) (QO ap3) ?_
    rw[XX C M _ (nx+64*j) (UP (o:=oj) ap3)]
    rcases hl with hl | ⟨hl1,hl2⟩
    ·exact Zmd hl
    ·refine vop_fz hl1 fun z hz k hk=>?_
     refine hagree k ((good j oj hoj z hz).1 k hk) fun hp=>?_
     exact ZpE (Zji ((k2 k hp).2 _ hl2) z hz) hk
   refine⟨_,by simp only[ZN,hoj,Zj,hqj];exact e2,fun t=>?_,fun k=>?_⟩
   ·rw[hon,hon (Zx s.1 oj.dst vj,Zi s.2 aj)];exact(Zac ap2 vj e.val t).symm
   ·rw[hon,hon (Zx s.1 oj.dst vj,Zi s.2 aj)]
    show lkp (Zi (Zi (Zi (Qy (Qo e.frz s.2) e.dels) e.sets) e.adds) aj) k=lkp (Zi (Zi (Qy (Qo e.frz (Zi s.2 aj)) e.dels) e.sets) e.adds) k
    have a1:∀ (B:Hp) (hp hp' : Hp),(∀ k,lkp hp k=lkp hp' k)→∀ k,lkp (Zi hp B) k=lkp (Zi hp' B) k:=fun B hp hp' h=>Zfi B h
    have notj:∀ k,U k→∀ o',(k,o')∉aj:=fun k hk o' ho'=>by
     have:=hj1 k o' ho'
     exact hfj k this.1 this.2 hk
    rw[ZsL (A:=e.adds) (B:=aj) (fun k x y hx hy=>by
     have:=hoadds k x hx
     have:=hj1 k y hy
     rcases Nat.lt_or_gt_of_ne hij with h | h<;>omega)]
    refine a1 e.adds _ _ (fun k=>?_) k
    rw[ZsL (A:=e.sets) (B:=aj) (fun k x y hx hy=>notj k (putU k (.inr ⟨x,hx⟩)) y hy) (Qy (Qo e.frz s.2) e.dels) k]
    refine a1 e.sets _ _ (fun k=>?_) k
    by_cases hd:k∈e.dels
    ·rw[ZD aj _ k (notj k (putU k (.inl hd))),ZpG hd,ZpG hd]
    ·rw[Um _ _ k hd]
     rw[Qj]
     by_cases hk:∃ o',(k,o')∈aj
     ·obtain⟨o',ho'⟩:=hk
      rw[Zgb (hp':=s.2) ⟨o',ho'⟩]
      have hnf:k∉e.frz:=fun hf=>notj k (frzU k hf) o' ho'
      cases lkp (Zi s.2 aj) k<;>simp[hnf]
     ·have hk' : ∀ o',(k,o')∉aj:=fun o' ho'=>hk ⟨o',ho'⟩
      rw[ZD aj _ k hk',ZD aj _ k hk',Um _ _ k hd,Qj]
theorem ZyO {C:Orc} {M:Zu} {os:List CO} {nx i j:Nat} {oi oj:CO} (hoi:os[i]?=some oi) (hoj:os[j]?=some oj) (hci:Zxm oi.op=true) (hqj:Z2 os j=false) (hij:i≠j) (hap:Yc oj oi=true)
  (hops:∀ (k:Nat) (o:CO),os[k]?=some o→∀ x∈ZP o.op,Wk x=true) {s s1 s2:Sl×Hp} {U:Nat→Prop} (hs:ZkT nt s U) (hfi:XZ U (nx+64*i)) (hfj:XZ U (nx+64*j))
  (h1:ZN C M os nx j s=some s1) (h2:ZN C M os nx i s1=some s2):∃ t1,ZN C M os nx i s=some t1∧∃ t2,ZN C M os nx j t1=some t2∧Yx t2 s2:=by
 have e:∀ s:Sl×Hp,ZN C M os nx i s=ZV C M nx i false oi s:=fun s=>by
  simp only[ZN,hoi,Zj]
  cases Z2 os i
  ·rfl
  ·exact ZyM hci s
 rw[e] at h2
 simp only[e]
 exact ZpC hoi hoj hqj hij hap hops hs hfi hfj h1 h2
theorem ZtR {hp:Hp} {base s:Nat} {vs:List AV} {ce:Zf} (h:buildSl hp base s vs=some ce):ce.gone=[]:=by
 cases vs with
 | nil=>simp only[buildSl,Qm] at h;first | (cases h;rfl) | (split at h<;>first | (cases h;rfl) | cases h)
 | cons v r=>
  simp only[buildSl] at h
  obtain⟨q,_,h⟩:=Za h
  unfold Zxd at h
  split at h
  ·cases h;rfl
  ·cases h
theorem Zvj {C:Orc} {M:Zu} {sl:Sl} {hp:Hp} {base:Nat} {c:COp} {ce:Zf} (hc:Zix c=true) (h:vop C M sl hp base c=some ce):ce.gone=[]:=by
 cases c<;>first | (cases hc;done) | skip
 ·simp only[vop] at h
  exact ZtR h
 ·simp only[vop,Zt4,Zjb] at h
  obtain⟨e,_,h⟩:=Za h;cases h;rfl
theorem ZyP {C:Orc} {M:Zu} {nx j:Nat} {oj:CO} {s s1:Sl×Hp} (hm:Wo oj.op=true) (h:ZV C M nx j false oj s=some s1) :
  ∃ v,s1=(Zx s.1 oj.dst v,s.2)∧∀ s'' : Sl×Hp,Qa s''.1 oj.guard=Qa s.1 oj.guard→(∀ x∈ZP oj.op,evO s''.1 x=evO s.1 x)→ZV C M nx j false oj s''=some (Zx s''.1 oj.dst v,s''.2):=by
 obtain⟨x,hx⟩:∃ x,oj.op=.move x:=by
  cases ho:oj.op<;>rw[ho] at hm<;>first | (cases hm;done) | exact⟨_,rfl⟩
 unfold ZV at h ⊢
 obtain⟨b,hw,h⟩:=Za h
 cases b with
 | true=>
  simp only[if_true,hx,UO,Bool.false_eq_true,if_false,vop] at h
  refine⟨evO s.1 x,?_,fun s'' g1 g2=>?_⟩
  ·cases h;rfl
  ·rw[g1,hw,Zj]
   have e:=g2 x (by rw[hx];simp[ZP])
   simp only[if_true,hx,UO,Bool.false_eq_true,if_false,vop,e]
   rfl
 | false=>
  simp only[Bool.false_eq_true,if_false] at h
  cases h
  refine⟨.tup [],rfl,fun s'' g1 g2=>?_⟩
  rw[g1,hw,Zj];rfl
theorem ZyQ {C:Orc} {M:Zu} {os:List CO} {nx i j:Nat} {oi oj:CO} (hoi:os[i]?=some oi) (hoj:os[j]?=some oj) (hqj:Z2 os j=false) (hap:Yc oj oi=true)
  {s s1 s2:Sl×Hp} (hm:Wo oj.op=true) (hg:Zix oi.op=true)
  (h1:ZN C M os nx j s=some s1) (h2:ZN C M os nx i s1=some s2):∃ t1,ZN C M os nx i s=some t1∧∃ t2,ZN C M os nx j t1=some t2∧Yx t2 s2:=by
 simp only[Yc,Bool.and_eq_true] at hap
 obtain⟨⟨ap1,ap2⟩,ap3⟩:=hap
 simp only[ZN,hoj,Zj,hqj] at h1
 simp only[ZN,hoi,Zj] at h2
 obtain⟨vj,rfl,hj2⟩:=ZyP hm h1
 unfold ZV at h2
 obtain⟨b,hw,h2⟩:=Za h2
 have hw' : Qa s.1 oi.guard=some b:=by rw[← hw];exact(QO ap1).symm
 cases b with
 | false=>
  simp only[Bool.false_eq_true,if_false] at h2
  cases h2
  refine⟨(Zx s.1 oi.dst (.tup []),s.2),by simp only[ZN,hoi,Zj,ZV,hw',Bool.false_eq_true,if_false],?_⟩
  exact⟨(Zx (Zx s.1 oi.dst (.tup [])) oj.dst vj,s.2),by simp only[ZN,hoj,Zj,hqj];exact hj2 (Zx s.1 oi.dst (.tup []),s.2) (QO ap3) (UP (o:=oj) ap3),fun t=>(Zac ap2 vj (.tup []) t).symm,fun id=>rfl⟩
 | true=>
  simp only[if_true] at h2
  obtain⟨ce,h3,h4,rfl⟩:=Xn h2
  have hgone:=Zvj hg (ZeB h3)
  have h3' : UO C M nx i (Z2 os i) oi.op s.1 s.2=some ce:=by
   rw[← h3]
   unfold UO
   rw[XX C M s.2 (nx+64*i) (UP (o:=oi) ap1)]
  have hon:∀ (sl:Sl) (hp:Hp),ce.on oi.dst sl hp=(Zx sl oi.dst ce.eff.val,ce.eff.on hp):=by
   intro sl hp
   unfold Zf.on
   rw[hgone];rfl
  refine⟨ce.on oi.dst s.1 s.2,?_,?_⟩
  ·simp only[ZN,hoi,Zj,ZV,hw',if_true,VD]
   rw[h3',Zj,if_pos h4]
  ·rw[hon]
   refine⟨(Zx (Zx s.1 oi.dst ce.eff.val) oj.dst vj,ce.eff.on s.2),by simp only[ZN,hoj,Zj,hqj];exact hj2 (Zx s.1 oi.dst ce.eff.val,ce.eff.on s.2) (QO ap3) (UP (o:=oj) ap3),fun t=>?_,fun k=>?_⟩
   ·rw[hon];exact(Zac ap2 vj ce.eff.val t).symm
   ·rw[hon]
theorem awayV_ptr {sl:Sl} {xs:List Opd} {v:AV} (h:Zgt sl xs v=true) {k off:Nat} (e:v=.ptr k off):∀ z∈xs,k∉ZH (evO sl z):=by
 subst e
 exact fun z hz=>ZpE (Zji h z hz)
structure ZpH (r:Sl) (oX oY:CO):Prop where
 opd:∀ x∈ZP oX.op,okV (evO r x)=true
 dst:∀ t,oX.dst=some t→okV (gs r t)=true
 arg:∀ y∈Znu oY.op,okV (evO r y)=true
 away:∀ y∈Znu oY.op,∀ k off,evO r y=.ptr k off→∀ z∈ZP oX.op,k∉ZH (evO r z)
theorem ZtS {sl:Sl}:∀ {xs:List Opd},okL sl xs=true→∀ x∈xs,okV (evO sl x)=true
 | [],_,x,hx=>by simp at hx
 | y :: ys,h,x,hx=>by
  simp only[okL,Bool.and_eq_true] at h
  rcases List.mem_cons.1 hx with rfl | hx
  ·exact h.1
  ·exact ZtS h.2 x hx
theorem ZsM {sl:Sl} {xs:List Opd}:∀ {ys:List Opd},Zjx sl xs ys=true→∀ y∈ys,Zgt sl xs (evO sl y)=true
 | [],_,x,hx=>by simp at hx
 | y :: ys,h,x,hx=>by
  simp only[Zjx,Bool.and_eq_true] at h
  rcases List.mem_cons.1 hx with rfl | hx
  ·exact h.1
  ·exact ZsM h.2 x hx
theorem Zvk {r:Sl} {oX oY:CO} (hm:Wo oX.op=false) (hc:ZdM oY.op=true) (h:Zbu r oX.dst oX.op oY.op=true):ZpH r oX oY:=by
 obtain⟨f,as,ho⟩:∃ f as,oY.op=.call (.f f) as:=by
  cases ho:oY.op<;>rw[ho] at hc<;>first | (cases hc;done) | skip
  rename_i f as
  cases f<;>first | (cases hc;done) | exact⟨_,_,rfl⟩
 rw[ho] at h
 have h' : (okL r (ZP oX.op)&&(okD r oX.dst&&(okL r as&&Zjx r (ZP oX.op) as)))=true:=by
  cases hx:oX.op<;>rw[hx] at h hm<;>first | (cases hm;done) | exact h
 simp only[Bool.and_eq_true] at h'
 obtain⟨h1,h2,h3,h4⟩:=h'
 refine⟨ZtS h1,fun t ht=>?_,?_,?_⟩
 ·rw[ht] at h2;exact h2
 ·rw[ho];exact ZtS h3
 ·rw[ho]
  intro y hy k off e
  exact awayV_ptr (ZsM h4 y hy) e
theorem ZpH.move {r r' : Sl} {oX oY:CO} (h:ZpH r oX oY) (h1:∀ n∈(ZP oX.op).flatMap ZeV,okV (gs r n)=true→gs r' n=gs r n) (h2:∀ n,oX.dst=some n→okV (gs r n)=true→gs r' n=gs r n)
  (h3:∀ n∈(Znu oY.op).flatMap ZeV,okV (gs r n)=true→gs r' n=gs r n):ZpH r' oX oY:=by
 have e1:∀ x∈ZP oX.op,evO r' x=evO r x:=fun x hx=>by
  have ho:=h.opd x hx
  cases x with
  | t n=>exact h1 n (List.mem_flatMap.2 ⟨_,hx,by simp[ZeV]⟩) ho
  | _=>rfl
 have e3:∀ x∈Znu oY.op,evO r' x=evO r x:=fun x hx=>by
  have ho:=h.arg x hx
  cases x with
  | t n=>exact h3 n (List.mem_flatMap.2 ⟨_,hx,by simp[ZeV]⟩) ho
  | _=>rfl
 refine⟨fun x hx=>by rw[e1 x hx];exact h.opd x hx,fun t ht=>by rw[h2 t ht (h.dst t ht)];exact h.dst t ht,fun x hx=>by rw[e3 x hx];exact h.arg x hx,fun y hy k off e z hz=>?_⟩
 rw[e3 y hy] at e
 rw[e1 z hz]
 exact h.away y hy k off e z hz
theorem ZpI {C:Orc} {M:Zu} {os:List CO} {nx x y:Nat} {oX oY:CO} (hox:os[x]?=some oX) (hoy:os[y]?=some oY) (hij:x≠y) (hap1:Q1 oY.dst (Wh oX)=true) (hap2:Q1 oX.dst (Wh oY)=true)
  (hselfX:Q1 oX.dst (Wh oX)=true) (hselfY:Q1 oY.dst (Wh oY)=true)
  (hops:∀ (k:Nat) (o:CO),os[k]?=some o→∀ x∈ZP o.op,Wk x=true) {s:Sl×Hp} {r:Sl} {U:Nat→Prop} (hs:ZkT nt s U) (hfx:XZ U (nx+64*x)) (hfy:XZ U (nx+64*y))
  (hcall:ZdM oY.op=true) {ce:Zf} (hce:vop C M s.1 s.2 (nx+64*y) oY.op=some ce) (hok:Q7 (nx+64*y) (nx+64*y+64) ce.eff.adds=true)
  (hrel:∀ n,oX.dst≠some n→oY.dst≠some n→gs r n=kill ce.gone (gs s.1 n)) (hseen:ZpH r oX oY) :
  ce.eff.dels=[]∧(∀ z∈ZP oX.op,evO (ce.on oY.dst s.1 s.2).1 z=evO s.1 z)∧(∀ z∈ZP oX.op,∀ id∈ZH (evO s.1 z),id∉ce.gone)∧(∀ z∈ZP oX.op,Zmc ce.gone s.2 (ce.on oY.dst s.1 s.2).2 (evO s.1 z)) ∧
  (∀ k,nx+64*x≤k→k<nx+64*x+64→(∀ o',(k,o')∉ce.eff.sets)∧(∀ o',(k,o')∉ce.eff.adds)∧k∉ce.eff.frz∧k∉ce.gone):=by
 obtain⟨F,A,I,Γ,a,w,hsim⟩:=hs
 have good:∀ (k:Nat) (o:CO),os[k]?=some o→∀ x∈ZP o.op,Zl7 U (evO s.1 x):=by
  intro k o ho x hx
  cases x with
  | t n=>exact hsim.good n
  | v y=>exact ZbL (hops k o ho _ hx)
  | f n=>exact⟨fun id hid=>by simp[evO,ZH,ZI] at hid,fun f caps h c hc=>by cases h;simp at hc⟩
 obtain⟨f,as,ho⟩:∃ f as,oY.op=.call (.f f) as:=by
  cases ho:oY.op<;>rw[ho] at hcall<;>first | (cases hcall;done) | skip
  rename_i f as
  cases f<;>first | (cases hcall;done) | exact⟨_,_,rfl⟩
 have hce':=hce
 rw[ho] at hce'
 simp only[vop,evO,Zgm,List.append_nil] at hce'
 obtain⟨k1,k2,k3,k4⟩:=Zy1 hce'
 have lookX:∀ n,(Opd.t n)∈ZP oX.op→n∈Wh oX:=fun n hn=>List.mem_append.2 (.inl (List.mem_flatMap.2 ⟨_,hn,by simp[ZeV]⟩))
 have lookY:∀ n,(Opd.t n)∈as→n∈Wh oY:=fun n hn=>List.mem_append.2 (.inl (List.mem_flatMap.2 ⟨.t n,by rw[ho];simp[ZP,hn],by simp[ZeV]⟩))
 have ne:∀ {d:Option Nat} {l:List Nat} {n:Nat},Q1 d l=true→n∈l→d≠some n:=fun {d l n} h hn e=>by
  rw[e] at h
  simp only[Q1,Bool.not_eq_true',List.contains_eq_mem,decide_eq_false_iff_not] at h
  exact h hn
 have evX:∀ z∈ZP oX.op,evO r z=evO s.1 z∧∀ id∈ZH (evO s.1 z),id∉ce.gone:=by
  intro z hz
  have hz':=hseen.opd z hz
  cases z with
  | t n=>
   have e:=hrel n (ne hselfX (lookX n hz)) (ne hap1 (lookX n hz))
   simp only[evO] at hz' ⊢
   rw[e] at hz' ⊢
   have:=Zf8 hz'
   exact⟨this,Zz4 this⟩
  | v c=>
   have:=hops x oX hox _ hz
   simp only[Wk,Bool.and_eq_true,List.isEmpty_iff] at this
   exact⟨rfl,fun id hid=>by simp only[evO] at hid;rw[this.1] at hid;simp at hid⟩
  | f n=>simp only[evO,okV,okC] at hz';cases hz'
 have evY:∀ z∈as,evO r z=evO s.1 z:=by
  intro z hz
  have hz':=hseen.arg z (by rw[ho];exact hz)
  cases z with
  | t n=>
   have e:=hrel n (ne hap2 (lookY n hz)) (ne hselfY (lookY n hz))
   simp only[evO] at hz' ⊢
   rw[e] at hz' ⊢
   exact Zf8 hz'
  | _=>rfl
 have inU:∀ id,(∃ o,lkp s.2 id=some o)→U id:=fun id ⟨o,h⟩=>hsim.id_in h
 have uX:∀ k,nx+64*x≤k→k<nx+64*x+64→¬U k:=fun k h1 h2=>hfx k h1 h2
 have hadds:=Jz hok
 have notSets:∀ z∈ZP oX.op,∀ k∈ZH (evO s.1 z),∀ o',(k,o')∉ce.eff.sets:=by
  intro z hz k hk o' ho'
  rcases (k4 k o' ho').2 with h | ⟨v,hv,hkv⟩
  ·exact(evX z hz).2 k hk h
  ·obtain⟨y',hy',rfl⟩:=Zki hv
   have hok':=hseen.arg y' (by rw[ho];exact hy')
   rw[evY y' hy'] at hok'
   cases hp:evO s.1 y' with
   | ptr a b=>
    rw[hp] at hkv
    simp only[Zez,List.mem_singleton] at hkv
    subst hkv
    have:=hseen.away y' (by rw[ho];exact hy') k b (by rw[evY y' hy',hp]) z hz
    rw[(evX z hz).1] at this
    exact this hk
   | clo g cs=>rw[hp] at hok';simp only[okV,okC] at hok';cases hok'
   | _=>rw[hp] at hkv;simp[Zez] at hkv
 refine⟨k1,fun z hz=>?_,fun z hz=>(evX z hz).2,fun z hz k hk=>?_,fun k g1 g2=>⟨fun o' ho'=>?_,fun o' ho'=>?_,fun hf=>?_,fun hg=>?_⟩⟩
 ·cases z with
  | t n=>
   show gs (Zx (XF ce.gone s.1) oY.dst ce.eff.val) n=gs s.1 n
   rw[QN,if_neg (ne hap1 (lookX n hz)),Q4]
   have e:=hrel n (ne hselfX (lookX n hz)) (ne hap1 (lookX n hz))
   have:=hseen.opd _ hz
   simp only[evO] at this
   rw[e] at this
   exact Zf8 this
  | _=>rfl
 ·have hkU:U k:=(good x oX hox z hz).1 k hk
  show Zf9 ce.gone (lkp s.2 k) (lkp (ce.eff.on (Wj ce.gone s.2)) k)
  unfold Eff.on
  rw[k1]
  simp only[Qy]
  rw[ZD,ZD,Qj,WH]
  ·exact Zvo _
  ·exact notSets z hz k hk
  ·intro o' ho'
   obtain⟨h1,h2⟩:=hadds k o' ho'
   exact hfy k h1 h2 hkU
 ·exact uX k g1 g2 (inU k (k4 k o' ho').1)
 ·have:=hadds k o' ho'
  rcases Nat.lt_or_gt_of_ne hij with h | h<;>omega
 ·obtain⟨v,hv,hkv⟩:=k2 k hf
  obtain⟨y',hy',rfl⟩:=Zki hv
  exact uX k g1 g2 ((good y oY hoy y' (by rw[ho];simp[ZP,hy'])).1 k hkv)
 ·exact uX k g1 g2 (inU k (k3 k hg))
theorem ZwV {C:Orc} {M:Zu} {os:List CO} {nx i j:Nat} {oi oj:CO} (hoi:os[i]?=some oi) (hoj:os[j]?=some oj) (hqj:Z2 os j=false) (hij:i≠j) (hap:Yc oj oi=true)
  (hselfX:Q1 oj.dst (Wh oj)=true) (hselfY:Q1 oi.dst (Wh oi)=true)
  (hops:∀ (k:Nat) (o:CO),os[k]?=some o→∀ x∈ZP o.op,Wk x=true) {s s1 s2:Sl×Hp} {U:Nat→Prop} (hs:ZkT nt s U) (hfi:XZ U (nx+64*i)) (hfj:XZ U (nx+64*j))
  (hcall:ZdM oi.op=true) (hah:Zqh oj.op=true) (hseen:ZpH s2.1 oj oi) {t:Nat} (ht:oj.dst=some t)
  (h1:ZN C M os nx j s=some s1) (h2:ZN C M os nx i s1=some s2):∃ t1,ZN C M os nx i s=some t1∧∃ t2,ZN C M os nx j t1=some t2∧Yx t2 s2:=by
 have hs':=hs
 obtain⟨F,A,I,Γ,a,w,hsim⟩:=hs'
 simp only[Yc,Bool.and_eq_true] at hap
 obtain⟨⟨ap1,ap2⟩,ap3⟩:=hap
 have good:∀ (k:Nat) (o:CO),os[k]?=some o→∀ x∈ZP o.op,Zl7 U (evO s.1 x):=by
  intro k o ho x hx
  cases x with
  | t n=>exact hsim.good n
  | v y=>exact ZbL (hops k o ho _ hx)
  | f n=>exact⟨fun id hid=>by simp[evO,ZH,ZI] at hid,fun f caps h c hc=>by cases h;simp at hc⟩
 have stepj:∀ s:Sl×Hp,ZN C M os nx j s=ZV C M nx j false oj s:=fun s=>by simp only[ZN,hoj,Zj,hqj]
 rw[stepj] at h1
 simp only[ZN,hoi,Zj] at h2
 obtain⟨v,ax,hs1,hax,hX⟩:∃ v ax,s1=(Zx s.1 oj.dst v,Zi s.2 ax)∧(∀ k x,(k,x)∈ax→nx+64*j≤k∧k<nx+64*j+64) ∧
   ((Qa s.1 oj.guard=some false∧v=.tup []∧ax=[])∨(Qa s.1 oj.guard=some true∧∃ ce,Znh ce∧vop C M s.1 s.2 (nx+64*j) oj.op=some ce∧Q7 (nx+64*j) (nx+64*j+64) ce.eff.adds=true∧v=ce.eff.val∧ax=ce.eff.adds)):=by
  rcases Zw4 h1 with ⟨g1,g2⟩ | ⟨g1,ce,g2,g3,g4,g5⟩
  ·exact⟨.tup [],[],g2,fun k x h=>by simp at h,.inl ⟨g1,rfl,rfl⟩⟩
  ·exact⟨ce.eff.val,ce.eff.adds,g5,Jz g4,.inr ⟨g1,ce,g2,g3,g4,rfl,rfl⟩⟩
 subst hs1
 unfold ZV at h2
 obtain⟨b,hw,h2⟩:=Za h2
 have hw' : Qa s.1 oi.guard=some b:=by rw[← hw];exact(QO ap1).symm
 cases b with
 | false=>
  simp only[Bool.false_eq_true,if_false] at h2
  cases h2
  refine⟨(Zx s.1 oi.dst (.tup []),s.2),by simp only[ZN,hoi,Zj];exact Vz hw',?_⟩
  refine⟨(Zx (Zx s.1 oi.dst (.tup [])) oj.dst v,Zi s.2 ax),?_,fun t=>(Zac ap2 v (.tup []) t).symm,fun id=>rfl⟩
  rw[stepj]
  have hwj:Qa (Zx s.1 oi.dst (.tup [])) oj.guard=Qa s.1 oj.guard:=QO ap3
  rcases hX with ⟨g1,rfl,rfl⟩ | ⟨g1,ce,g2,g3,g4,rfl,rfl⟩
  ·exact Vz (s:=(Zx s.1 oi.dst (.tup []),s.2)) (hwj.trans g1)
  ·refine Zkk (s:=(Zx s.1 oi.dst (.tup []),s.2)) (hwj.trans g1) g2 ?_ g4
   rw[← g3]
   exact XX C M s.2 (nx+64*j) (UP (o:=oj) ap3)
 | true=>
  simp only[if_true] at h2
  obtain⟨ce,h3,h4,rfl⟩:=Xn h2
  have hv1:vop C M s.1 s.2 (nx+64*i) oi.op=some ce:=by
   have h5:=ZeB h3
   rw[← h5,XX C M (Zi s.2 ax) (nx+64*i) (UP (o:=oi) ap1)]
   exact Zde (hsim.agree (UQ hfj hax s.2)) C M _ (good i oi hoi)
  have h3' : UO C M nx i (Z2 os i) oi.op s.1 s.2=some ce:=by
   rw[← h3]
   unfold UO
   rw[XX C M (Zi s.2 ax) (nx+64*i) (UP (o:=oi) ap1),Zde (hsim.agree (UQ hfj hax s.2)) C M _ (good i oi hoi)]
  have hrel:∀ n,oj.dst≠some n→oi.dst≠some n→gs (ce.on oi.dst (Zx s.1 oj.dst v) (Zi s.2 ax)).1 n=kill ce.gone (gs s.1 n):=fun n e1 e2=>by
   show gs (Zx (XF ce.gone (Zx s.1 oj.dst v)) oi.dst ce.eff.val) n=_
   rw[QN,if_neg e2,Q4,QN,if_neg e1]
  obtain⟨c1,c2,c3,c4,c5⟩:=ZpI (nt:=nt) hoj hoi (Ne.symm hij) ap3 ap1 hselfX hselfY hops hs hfj hfi hcall hv1 h4 hrel hseen
  have e0:gs (ce.on oi.dst (Zx s.1 oj.dst v) (Zi s.2 ax)).1 t=kill ce.gone v:=by
   show gs (Zx (XF ce.gone (Zx s.1 oj.dst v)) oi.dst ce.eff.val) t=_
   rw[QN,if_neg,Q4,QN,if_pos ht]
   intro e
   rw[ht,e] at ap2
   simp[Zdk] at ap2
  have hdst:kill ce.gone v=v:=by
   have h5:=hseen.dst t ht
   rw[e0] at h5
   exact Zf8 h5
  have hokv:okV v=true:=by
   have h5:=hseen.dst t ht
   rw[e0,hdst] at h5
   exact h5
  refine⟨ce.on oi.dst s.1 s.2,?_,?_⟩
  ·simp only[ZN,hoi,Zj,ZV,hw',if_true,VD]
   rw[h3',Zj,if_pos h4]
  ·have hwj:Qa (ce.on oi.dst s.1 s.2).1 oj.guard=Qa s.1 oj.guard:=by
    show Qa (Zx (XF ce.gone s.1) oi.dst ce.eff.val) oj.guard=_
    rw[QO ap3]
    exact Zkl fun q _=>Q4 _ _ _
   have hcase:(∀ k o,(k,o)∈ax→Yw ce.gone o=o)∧ZV C M nx j false oj (ce.on oi.dst s.1 s.2)=some (Zx (ce.on oi.dst s.1 s.2).1 oj.dst v,Zi (ce.on oi.dst s.1 s.2).2 ax):=by
    rcases hX with ⟨g1,rfl,rfl⟩ | ⟨g1,cx,g2,g3,g4,rfl,rfl⟩
    ·exact⟨fun k o h=>by simp at h,Vz (hwj.trans g1)⟩
    ·obtain⟨e1,e2⟩:=ZyZ hah c2 c4 (fun k h6 h7=>(c5 k h6 h7).2.2.2) g3 g4 g2.frz hokv hdst
     exact⟨e2,Zkk (hwj.trans g1) g2 e1 g4⟩
   obtain⟨e3,e4⟩:=hcase
   refine⟨_,by rw[stepj];exact e4,?_⟩
   exact Zyc (ce:=ce) (dX:=oj.dst) (dY:=oi.dst) (v:=v) (ax:=ax) (s:=s) ap2 c1 (fun k o ho=>by
    obtain⟨h6,h7⟩:=hax k o ho
    obtain⟨m1,m2,m3,_⟩:=c5 k h6 h7
    exact⟨m1,m2,m3⟩) e3 hdst
theorem Zvl {C:Orc} {M:Zu} {os:List CO} {nx i j:Nat} {oi oj:CO} (hoi:os[i]?=some oi) (hoj:os[j]?=some oj) (hqi:Z2 os i=false) (hij:i≠j) (hap:Yc oj oi=true)
  (hselfX:Q1 oi.dst (Wh oi)=true) (hselfY:Q1 oj.dst (Wh oj)=true)
  (hops:∀ (k:Nat) (o:CO),os[k]?=some o→∀ x∈ZP o.op,Wk x=true) {s s1 s2:Sl×Hp} {U:Nat→Prop} (hs:ZkT nt s U) (hfi:XZ U (nx+64*i)) (hfj:XZ U (nx+64*j))
  (hcall:ZdM oj.op=true) (hbe:Zms oi.op=true) (hseen:ZpH s2.1 oi oj) {t:Nat} (ht:oi.dst=some t)
  (h1:ZN C M os nx j s=some s1) (h2:ZN C M os nx i s1=some s2):∃ t1,ZN C M os nx i s=some t1∧∃ t2,ZN C M os nx j t1=some t2∧Yx t2 s2:=by
 have hs':=hs
 obtain⟨F,A,I,Γ,a,w,hsim⟩:=hs'
 simp only[Yc,Bool.and_eq_true] at hap
 obtain⟨⟨ap1,ap2⟩,ap3⟩:=hap
 have ap2' : Zdk oi.dst oj.dst=true:=by
  cases hd:oi.dst<;>cases he:oj.dst<;>rw[hd,he] at ap2<;>first | rfl | (simp only[Zdk,bne_iff_ne,ne_eq] at ap2 ⊢;exact fun e=>ap2 e.symm)
 have good:∀ (k:Nat) (o:CO),os[k]?=some o→∀ x∈ZP o.op,Zl7 U (evO s.1 x):=by
  intro k o ho x hx
  cases x with
  | t n=>exact hsim.good n
  | v y=>exact ZbL (hops k o ho _ hx)
  | f n=>exact⟨fun id hid=>by simp[evO,ZH,ZI] at hid,fun f caps h c hc=>by cases h;simp at hc⟩
 have stepi:∀ s:Sl×Hp,ZN C M os nx i s=ZV C M nx i false oi s:=fun s=>by simp only[ZN,hoi,Zj,hqi]
 rw[stepi] at h2
 simp only[ZN,hoj,Zj] at h1
 unfold ZV at h1
 obtain⟨b,hw,h1⟩:=Za h1
 cases b with
 | false=>
  simp only[Bool.false_eq_true,if_false] at h1
  cases h1
  have hwi:Qa (Zx s.1 oj.dst (.tup [])) oi.guard=Qa s.1 oi.guard:=QO ap1
  rcases Zw4 h2 with ⟨g1,g2⟩ | ⟨g1,ce,g2,g3,g4,g5⟩
  ·subst g2
   refine⟨(Zx s.1 oi.dst (.tup []),s.2),by rw[stepi];exact Vz (hwi.symm.trans g1),(Zx (Zx s.1 oi.dst (.tup [])) oj.dst (.tup []),s.2),?_,fun t=>Zac ap2' _ _ t,fun id=>rfl⟩
   simp only[ZN,hoj,Zj]
   exact Vz (s:=(Zx s.1 oi.dst (.tup []),s.2)) ((QO ap3).trans hw)
  ·subst g5
   refine⟨(Zx s.1 oi.dst ce.eff.val,Zi s.2 ce.eff.adds),?_,(Zx (Zx s.1 oi.dst ce.eff.val) oj.dst (.tup []),Zi s.2 ce.eff.adds),?_,fun t=>Zac ap2' _ _ t,fun id=>rfl⟩
   ·rw[stepi]
    refine Zkk (hwi.symm.trans g1) g2 ?_ g4
    rw[← g3]
    exact(XX C M s.2 (nx+64*i) (UP (o:=oi) ap1)).symm
   ·simp only[ZN,hoj,Zj]
    exact Vz (s:=(Zx s.1 oi.dst ce.eff.val,Zi s.2 ce.eff.adds)) ((QO ap3).trans hw)
 | true=>
  simp only[if_true] at h1
  obtain⟨ce,h3,h4,rfl⟩:=Xn h1
  have hv1:vop C M s.1 s.2 (nx+64*j) oj.op=some ce:=ZeB h3
  have hwi:Qa (ce.on oj.dst s.1 s.2).1 oi.guard=Qa s.1 oi.guard:=by
   show Qa (Zx (XF ce.gone s.1) oj.dst ce.eff.val) oi.guard=_
   rw[QO ap1]
   exact Zkl fun q _=>Q4 _ _ _
  obtain⟨v,ax,hs2,hax,hX⟩:∃ v ax,s2=(Zx (ce.on oj.dst s.1 s.2).1 oi.dst v,Zi (ce.on oj.dst s.1 s.2).2 ax)∧(∀ k x,(k,x)∈ax→nx+64*i≤k∧k<nx+64*i+64) ∧
    ((Qa s.1 oi.guard=some false∧v=.tup []∧ax=[])∨(Qa s.1 oi.guard=some true∧∃ cx,Znh cx∧vop C M (ce.on oj.dst s.1 s.2).1 (ce.on oj.dst s.1 s.2).2 (nx+64*i) oi.op=some cx∧Q7 (nx+64*i) (nx+64*i+64) cx.eff.adds=true∧v=cx.eff.val∧ax=cx.eff.adds)):=by
   rcases Zw4 h2 with ⟨g1,g2⟩ | ⟨g1,cx,g2,g3,g4,g5⟩
   ·exact⟨.tup [],[],g2,fun k x h=>by simp at h,.inl ⟨hwi.symm.trans g1,rfl,rfl⟩⟩
   ·exact⟨cx.eff.val,cx.eff.adds,g5,Jz g4,.inr ⟨hwi.symm.trans g1,cx,g2,g3,g4,rfl,rfl⟩⟩
  subst hs2
  have hrel:∀ n,oi.dst≠some n→oj.dst≠some n→gs (Zx (ce.on oj.dst s.1 s.2).1 oi.dst v) n=kill ce.gone (gs s.1 n):=fun n e1 e2=>by
   rw[QN,if_neg e1]
   show gs (Zx (XF ce.gone s.1) oj.dst ce.eff.val) n=_
   rw[QN,if_neg e2,Q4]
  obtain⟨c1,c2,c3,c4,c5⟩:=ZpI (nt:=nt) hoi hoj hij ap1 ap3 hselfX hselfY hops hs hfi hfj hcall hv1 h4 hrel hseen
  have hokv:okV v=true:=by
   have h5:=hseen.dst t ht
   simp only[QN,if_pos ht] at h5
   exact h5
  have hcase:kill ce.gone v=v∧(∀ k o,(k,o)∈ax→Yw ce.gone o=o)∧ZV C M nx i false oi s=some (Zx s.1 oi.dst v,Zi s.2 ax):=by
   rcases hX with ⟨g1,rfl,rfl⟩ | ⟨g1,cx,g2,g3,g4,rfl,rfl⟩
   ·exact⟨rfl,fun k o h=>by simp at h,Vz g1⟩
   ·obtain⟨e1,e2,e3⟩:=Zw3 hbe c2 c4 c3 (fun k h6 h7=>(c5 k h6 h7).2.2.2) g3 g4 g2.frz hokv
    exact⟨e2,e3,Zkk g1 g2 e1 g4⟩
  obtain⟨hk,e3,e4⟩:=hcase
  refine⟨(Zx s.1 oi.dst v,Zi s.2 ax),by rw[stepi];exact e4,ce.on oj.dst (Zx s.1 oi.dst v) (Zi s.2 ax),?_,?_⟩
  ·simp only[ZN,hoj,Zj,ZV]
   have hwj:Qa (Zx s.1 oi.dst v) oj.guard=some true:=(QO ap3).trans hw
   simp only[hwj,Zj,if_true,VD]
   have:UO C M nx j (Z2 os j) oj.op (Zx s.1 oi.dst v) (Zi s.2 ax)=some ce:=by
    rw[← h3]
    unfold UO
    rw[XX C M (Zi s.2 ax) (nx+64*j) (UP (o:=oj) ap3),← Zde (hsim.agree (UQ hfi hax s.2)) C M _ (good j oj hoj)]
   rw[this,Zj,if_pos h4]
  ·exact(Zyc (ce:=ce) (dX:=oi.dst) (dY:=oj.dst) (v:=v) (ax:=ax) (s:=s) ap2' c1 (fun k o ho=>by
    obtain⟨h6,h7⟩:=hax k o ho
    obtain⟨m1,m2,m3,_⟩:=c5 k h6 h7
    exact⟨m1,m2,m3⟩) e3 hk).symm
theorem Zim {C:Orc} {M:Zu} {nx j:Nat} {oj:CO} {x:Opd} (hx:oj.op=.move x) {s:Sl×Hp} {b:Bool} (hw:Qa s.1 oj.guard=some b) :
  ZV C M nx j false oj s=some (Zx s.1 oj.dst (if b then evO s.1 x else .tup []),s.2):=by
 unfold ZV
 rw[hw,Zj]
 cases b
 ·rfl
 ·simp only[if_true,hx,UO,Bool.false_eq_true,if_false,vop];rfl
theorem ZwW {C:Orc} {M:Zu} {os:List CO} {nx i j:Nat} {oi oj:CO} (hoi:os[i]?=some oi) (hoj:os[j]?=some oj) (hqj:Z2 os j=false) (hap:Yc oj oi=true)
  (hops:∀ (k:Nat) (o:CO),os[k]?=some o→∀ x∈ZP o.op,Wk x=true)
  {s s1 s2:Sl×Hp} (hm:Wo oj.op=true) {t:Nat} (ht:oj.dst=some t) (hok:okV (gs s2.1 t)=true)
  (h1:ZN C M os nx j s=some s1) (h2:ZN C M os nx i s1=some s2):∃ t1,ZN C M os nx i s=some t1∧∃ t2,ZN C M os nx j t1=some t2∧Yx t2 s2:=by
 obtain⟨x,hx⟩:∃ x,oj.op=.move x:=by
  cases ho:oj.op<;>rw[ho] at hm<;>first | (cases hm;done) | exact⟨_,rfl⟩
 simp only[Yc,Bool.and_eq_true] at hap
 obtain⟨⟨ap1,ap2⟩,ap3⟩:=hap
 have stepj:∀ s:Sl×Hp,ZN C M os nx j s=ZV C M nx j false oj s:=fun s=>by simp only[ZN,hoj,Zj,hqj]
 rw[stepj] at h1
 obtain⟨bj,hwj⟩:∃ bj,Qa s.1 oj.guard=some bj:=by
  unfold ZV at h1
  obtain⟨b,hw,_⟩:=Za h1
  exact⟨b,hw⟩
 rw[Zim hx hwj] at h1
 have h1:=(Option.some.inj h1).symm
 subst h1
 simp only[ZN,hoi,Zj] at h2
 unfold ZV at h2
 obtain⟨b,hw,h2⟩:=Za h2
 have hw' : Qa s.1 oi.guard=some b:=by rw[← hw];exact(QO ap1).symm
 have nei:oi.dst≠some t:=fun e=>by rw[ht,e] at ap2;simp[Zdk] at ap2
 have lookX:∀ n,x=.t n→oi.dst≠some n:=fun n e h=>by
  rw[h] at ap3
  simp only[Q1,Bool.not_eq_true',List.contains_eq_mem,decide_eq_false_iff_not] at ap3
  exact ap3 (List.mem_append.2 (.inl (by rw[hx,e];simp[ZP,ZeV])))
 cases b with
 | false=>
  simp only[Bool.false_eq_true,if_false] at h2
  cases h2
  refine⟨(Zx s.1 oi.dst (.tup []),s.2),by simp only[ZN,hoi,Zj];exact Vz hw',?_⟩
  refine⟨_,by rw[stepj];exact Zim (s:=(Zx s.1 oi.dst (.tup []),s.2)) hx ((QO ap3).trans hwj),?_⟩
  have:evO (Zx s.1 oi.dst (.tup [])) x=evO s.1 x:=UP (o:=oj) ap3 x (by rw[hx];simp[ZP])
  simp only[this]
  exact⟨fun t=>(Zac ap2 _ _ t).symm,fun id=>rfl⟩
 | true=>
  simp only[if_true] at h2
  obtain⟨ce,h3,h4,rfl⟩:=Xn h2
  have h3' : UO C M nx i (Z2 os i) oi.op s.1 s.2=some ce:=by
   rw[← h3]
   unfold UO
   rw[XX C M s.2 (nx+64*i) (UP (o:=oi) ap1)]
  refine⟨ce.on oi.dst s.1 s.2,by simp only[ZN,hoi,Zj,ZV,hw',if_true,VD];rw[h3',Zj,if_pos h4],?_⟩
  have hwj2:Qa (ce.on oi.dst s.1 s.2).1 oj.guard=some bj:=by
   show Qa (Zx (XF ce.gone s.1) oi.dst ce.eff.val) oj.guard=_
   rw[QO ap3,← hwj]
   exact Zkl fun q _=>Q4 _ _ _
  refine⟨_,by rw[stepj];exact Zim hx hwj2,?_⟩
  have e0:gs (ce.on oi.dst (Zx s.1 oj.dst (if bj then evO s.1 x else .tup [])) s.2).1 t=kill ce.gone (if bj then evO s.1 x else .tup []):=by
   show gs (Zx (XF ce.gone (Zx s.1 oj.dst _)) oi.dst ce.eff.val) t=_
   rw[QN,if_neg nei,Q4,QN,if_pos ht]
  rw[e0] at hok
  have hk:=Zf8 hok
  have ev:(if bj then evO (ce.on oi.dst s.1 s.2).1 x else .tup [])=(if bj then evO s.1 x else .tup []):=by
   cases bj with
   | false=>rfl
   | true=>
    simp only[if_true] at hk ⊢
    cases x with
    | t n=>
     show gs (Zx (XF ce.gone s.1) oi.dst ce.eff.val) n=gs s.1 n
     rw[QN,if_neg (lookX n rfl),Q4]
     exact hk
    | _=>rfl
  rw[ev]
  refine⟨fun q=>?_,fun id=>rfl⟩
  show gs (Zx (Zx (XF ce.gone s.1) oi.dst ce.eff.val) oj.dst _) q=gs (Zx (XF ce.gone (Zx s.1 oj.dst _)) oi.dst ce.eff.val) q
  simp only[QN,Q4]
  by_cases hq:oj.dst=some q
  ·have:¬oi.dst=some q:=fun e=>by rw[hq,e] at ap2;simp[Zdk] at ap2
   simp only[hq,if_true,this,if_false]
   exact hk.symm
  ·simp[hq]
theorem ZwX {C:Orc} {M:Zu} {os:List CO} {nx i j:Nat} {oi oj:CO} (hoi:os[i]?=some oi) (hoj:os[j]?=some oj) (hqi:Z2 os i=false) (hap:Yc oj oi=true)
  (hops:∀ (k:Nat) (o:CO),os[k]?=some o→∀ x∈ZP o.op,Wk x=true)
  {s s1 s2:Sl×Hp} (hm:Wo oi.op=true) {t:Nat} (ht:oi.dst=some t) (hok:okV (gs s2.1 t)=true)
  (h1:ZN C M os nx j s=some s1) (h2:ZN C M os nx i s1=some s2):∃ t1,ZN C M os nx i s=some t1∧∃ t2,ZN C M os nx j t1=some t2∧Yx t2 s2:=by
 obtain⟨x,hx⟩:∃ x,oi.op=.move x:=by
  cases ho:oi.op<;>rw[ho] at hm<;>first | (cases hm;done) | exact⟨_,rfl⟩
 simp only[Yc,Bool.and_eq_true] at hap
 obtain⟨⟨ap1,ap2⟩,ap3⟩:=hap
 have stepi:∀ s:Sl×Hp,ZN C M os nx i s=ZV C M nx i false oi s:=fun s=>by simp only[ZN,hoi,Zj,hqi]
 rw[stepi] at h2
 simp only[ZN,hoj,Zj] at h1
 unfold ZV at h1
 obtain⟨b,hw,h1⟩:=Za h1
 have lookX:∀ n,x=.t n→oj.dst≠some n:=fun n e h=>by
  rw[h] at ap1
  simp only[Q1,Bool.not_eq_true',List.contains_eq_mem,decide_eq_false_iff_not] at ap1
  exact ap1 (List.mem_append.2 (.inl (by rw[hx,e];simp[ZP,ZeV])))
 have fin:∀ (bi:Bool) (e:evO s1.1 x=evO s.1 x∨bi=false) (g1:Qa s.1 oi.guard=some bi) (g2:Qa s1.1 oi.guard=some bi),s2=(Zx s1.1 oi.dst (if bi then evO s.1 x else .tup []),s1.2):=by
  intro bi e g1 g2
  rw[Zim hx g2] at h2
  rw[← Option.some.inj h2]
  rcases e with e | e
  ·rw[e]
  ·rw[e];rfl
 cases b with
 | false=>
  simp only[Bool.false_eq_true,if_false] at h1
  cases h1
  have hwi:Qa (Zx s.1 oj.dst (.tup [])) oi.guard=Qa s.1 oi.guard:=QO ap1
  obtain⟨bi,hbi⟩:∃ bi,Qa s.1 oi.guard=some bi:=by
   unfold ZV at h2
   obtain⟨b,hw,_⟩:=Za h2
   exact⟨b,hwi.symm.trans hw⟩
  have e:evO (Zx s.1 oj.dst (.tup [])) x=evO s.1 x:=UP (o:=oi) ap1 x (by rw[hx];simp[ZP])
  have h5:=fin bi (.inl e) hbi (hwi.trans hbi)
  subst h5
  refine⟨_,by rw[stepi];exact Zim hx hbi,(Zx (Zx s.1 oi.dst (if bi then evO s.1 x else .tup [])) oj.dst (.tup []),s.2),?_,fun t=>?_,fun id=>rfl⟩
  ·simp only[ZN,hoj,Zj]
   exact Vz (s:=(Zx s.1 oi.dst (if bi then evO s.1 x else .tup []),s.2)) ((QO ap3).trans hw)
  ·exact(Zac ap2 _ _ t).symm
 | true=>
  simp only[if_true] at h1
  obtain⟨ce,h3,h4,rfl⟩:=Xn h1
  have hwi:Qa (ce.on oj.dst s.1 s.2).1 oi.guard=Qa s.1 oi.guard:=by
   show Qa (Zx (XF ce.gone s.1) oj.dst ce.eff.val) oi.guard=_
   rw[QO ap1]
   exact Zkl fun q _=>Q4 _ _ _
  obtain⟨bi,hbi⟩:∃ bi,Qa s.1 oi.guard=some bi:=by
   unfold ZV at h2
   obtain⟨b,hw,_⟩:=Za h2
   exact⟨b,hwi.symm.trans hw⟩
  have h2':=h2
  rw[Zim hx (hwi.trans hbi)] at h2'
  have h6:=Option.some.inj h2'
  have hv:okV (if bi then evO (ce.on oj.dst s.1 s.2).1 x else .tup [])=true:=by
   rw[← h6] at hok
   simp only[QN,if_pos ht] at hok
   exact hok
  have hkv:kill ce.gone (if bi then evO s.1 x else .tup [])=(if bi then evO s.1 x else .tup [])∧(evO (ce.on oj.dst s.1 s.2).1 x=evO s.1 x∨bi=false):=by
   cases bi with
   | false=>exact⟨rfl,.inr rfl⟩
   | true=>
    simp only[if_true] at hv ⊢
    cases x with
    | t n=>
     have e:evO (ce.on oj.dst s.1 s.2).1 (.t n)=kill ce.gone (gs s.1 n):=by
      show gs (Zx (XF ce.gone s.1) oj.dst ce.eff.val) n=_
      rw[QN,if_neg (lookX n rfl),Q4]
     rw[e] at hv ⊢
     have:=Zf8 hv
     exact⟨this,.inl this⟩
    | v c=>
     have hc:=hops i oi hoi (.v c) (by rw[hx];simp[ZP])
     simp only[Wk,Bool.and_eq_true,List.isEmpty_iff] at hc
     exact⟨Zya hv fun id hid=>by simp only[evO] at hid;rw[hc.1] at hid;simp at hid,.inl rfl⟩
    | f n=>simp only[evO,okV,okC] at hv;cases hv
  have h5:=fin bi hkv.2 hbi (hwi.trans hbi)
  subst h5
  refine⟨_,by rw[stepi];exact Zim hx hbi,ce.on oj.dst (Zx s.1 oi.dst (if bi then evO s.1 x else .tup [])) s.2,?_,fun q=>?_,fun id=>rfl⟩
  ·simp only[ZN,hoj,Zj,ZV]
   have hwj:Qa (Zx s.1 oi.dst (if bi then evO s.1 x else .tup [])) oj.guard=some true:=(QO ap3).trans hw
   simp only[hwj,Zj,if_true,VD]
   have:UO C M nx j (Z2 os j) oj.op (Zx s.1 oi.dst (if bi then evO s.1 x else .tup [])) s.2=some ce:=by
    rw[← h3]
    unfold UO
    rw[XX C M s.2 (nx+64*j) (UP (o:=oj) ap3)]
   rw[this,Zj,if_pos h4]
  ·show gs (Zx (XF ce.gone (Zx s.1 oi.dst _)) oj.dst ce.eff.val) q=gs (Zx (Zx (XF ce.gone s.1) oj.dst ce.eff.val) oi.dst _) q
   simp only[QN,Q4]
   by_cases hq:oi.dst=some q
   ·have:¬oj.dst=some q:=fun e=>by rw[hq,e] at ap2;simp[Zdk] at ap2
    simp only[hq,if_true,this,if_false]
    exact hkv.1
   ·simp[hq]
theorem Zx8 {C:Orc} {M:Zu} (hC:Ql P C) {ops:Array Oper} {os:List CO} (hos:QV (Zok P nt ops.toList) ops.toList=some os) {nx i:Nat} {ks:List Nat} {oi:CO} (hoi:os[i]?=some oi)
  (hops:∀ (k:Nat) (o:CO),os[k]?=some o→∀ x∈ZP o.op,Wk x=true) :
  ∀ (js:List Nat) {s r:Sl×Hp} {U:Nat→Prop},ZkT nt s U→XZ U (nx+64*i)→(∀ j∈js,XZ U (nx+64*j))→(js++i :: ks).Pairwise (· < ·) →
   (∀ j∈js,∃ oj,os[j]?=some oj∧Yc oj oi=true∧((Z2 os j=false∧(Z2 os i=true→Zxm oi.op=true∨(Zqf oi.op=true∧(US oj.op=true∨(ZbW oj.op=true∧ZeW os j=true∧ZeW os i=true∧Zl9 r.1 oj.op oi.op=true)))∨(Wo oj.op=true∧Zix oi.op=true)∨(Wo oj.op=true∧ZoG os j=true∧okD r.1 oj.dst=true) ∨
    (Wo oj.op=false∧ZdM oi.op=true∧Zqh oj.op=true∧ZeW os j=true∧ZeW os i=true∧ZoG os j=true∧Zbu r.1 oj.dst oj.op oi.op=true))) ∨
    (Z2 os j=true∧Z2 os i=false∧Wo oi.op=true∧ZoG os i=true∧okD r.1 oi.dst=true) ∨
    (Z2 os j=true∧Z2 os i=false∧Wo oi.op=false∧ZdM oj.op=true∧Zms oi.op=true∧ZeW os j=true∧ZeW os i=true∧ZoG os i=true∧Zbu r.1 oi.dst oi.op oj.op=true))) →
   (∀ j∈js++i :: ks,j<os.length)→runL C M os nx (js++i :: ks) s=some r →
   ∃ s',ZN C M os nx i s=some s'∧∃ r',runL C M os nx (js++ks) s'=some r'∧Yx r' r
 | [],s,r,U,_,_,_,_,_,_,h=>by
  simp only[List.nil_append,runL] at h ⊢
  obtain⟨s',h1,h⟩:=Za h
  exact⟨s',h1,r,h,Yx.refl r⟩
 | j :: js,s,r,U,hs,hfi,hfj,hsort,hj,hlt,h=>by
  have hrun:=h
  simp only[List.cons_append,runL] at h
  obtain⟨s1,h1,h⟩:=Za h
  have hsort':=hsort
  simp only[List.cons_append,List.pairwise_cons] at hsort
  have hji:j<i:=hsort.1 i (by simp)
  have hij:i≠j:=by omega
  have hs1:=ZwR hC hos hs (hfj j (by simp)) h1
  have hjn:∀ k∈js,k≠j:=fun k hk e=>by
   have:=hsort.1 k (by simp[hk]);omega
  obtain⟨s2,h2,r2,h3,h4⟩:=Zx8 hC hos hoi hops js hs1 (ZsK hij hfi) (fun k hk=>ZsK (hjn k hk) (hfj k (by simp[hk]))) hsort.2 (fun k hk=>hj k (by simp[hk])) (fun k hk=>hlt k (by simp only[List.cons_append,List.mem_cons];exact .inr hk)) h
  obtain⟨oj,hoj,hap,hkind⟩:=hj j (by simp)
  have steadyD:∀ {k q n:Nat} {o:CO},ZeW os k=true→os[k]?=some o→k≤q→q<os.length→n∈Wh o→Q1 (Zbz os q) [n]=true:=by
   intro k q n o hst ho hkq hq hn
   have:=List.all_eq_true.1 hst q (List.mem_range.2 hq)
   simp only[Zue,ho,Bool.or_eq_true,decide_eq_true_eq] at this
   rcases this with h | h
   ·omega
   ·cases hd:Zbz os q with
    | none=>rfl
    | some d=>
     rw[hd] at h
     simp only[Q1,Bool.not_eq_true',List.contains_eq_mem,decide_eq_false_iff_not] at h ⊢
     intro e
     simp at e
     exact h (e ▸ hn)
  have selfD:∀ {k:Nat} {o:CO},ZeW os k=true→os[k]?=some o→Q1 o.dst (Wh o)=true:=by
   intro k o hst ho
   have hk:k<os.length:=(List.getElem?_eq_some_iff.1 ho).1
   have:=List.all_eq_true.1 hst k (List.mem_range.2 hk)
   simp only[Zue,Zbz,ho,Bool.or_eq_true,decide_eq_true_eq] at this
   rcases this with h | h
   ·omega
   ·exact h
  have loneD:∀ {k q t:Nat} {o:CO},ZoG os k=true→os[k]?=some o→o.dst=some t→q≠k→q<os.length→Q1 (Zbz os q) [t]=true:=by
   intro k q t o hl ho ht hne hq
   simp only[ZoG,Bool.and_eq_true] at hl
   have:=List.all_eq_true.1 hl.2 q (List.mem_range.2 hq)
   simp only[Bool.or_eq_true,beq_iff_eq,Zbz,ho,ht] at this
   rcases this with h | h
   ·exact absurd h hne
   ·simp only[Zbz]
    cases hoq:os[q]? with
    | none=>rfl
    | some oq=>
     rw[hoq] at h
     simp only at h ⊢
     cases hd:oq.dst with
     | none=>rfl
     | some d=>
      rw[hd] at h
      simp only[Zdk,bne_iff_ne,ne_eq] at h
      simp only[Q1,Bool.not_eq_true',List.contains_eq_mem,decide_eq_false_iff_not,List.mem_singleton]
      exact h
  have loneT:∀ {k:Nat} {o:CO},ZoG os k=true→os[k]?=some o→∃ t,o.dst=some t:=by
   intro k o hl ho
   simp only[ZoG,Zbz,ho,Bool.and_eq_true] at hl
   cases hd:o.dst with
   | none=>rw[hd] at hl;cases hl.1
   | some t=>exact⟨t,rfl⟩
  have fin:∀ n,(∀ q∈js++ks,Q1 (Zbz os q) [n]=true)→okV (gs r.1 n)=true→gs s2.1 n=gs r.1 n:=by
   intro n hn ho
   rw[← h4.1 n] at ho ⊢
   exact Zz1 h3 hn ho
  have mem1:∀ q∈js++ks,q≠i∧j<q∧q<os.length:=by
   intro q hq
   refine⟨?_,?_,hlt q ?_⟩
   ·rcases List.mem_append.1 hq with hq | hq
    ·have:=(List.pairwise_append.1 hsort.2).2.2 q hq i (by simp);omega
    ·have:=(List.pairwise_cons.1 (List.pairwise_append.1 hsort.2).2.1).1 q hq;omega
   ·rcases List.mem_append.1 hq with hq | hq
    ·exact hsort.1 q (by simp[hq])
    ·exact hsort.1 q (by simp[hq])
   ·rcases List.mem_append.1 hq with hq | hq<;>simp[hq]
  have slotsJ:ZeW os j=true→∀ n∈Wh oj,∀ q∈js++ks,Q1 (Zbz os q) [n]=true:=fun hst n hn q hq=>by
   obtain⟨_,h6,h7⟩:=mem1 q hq
   exact steadyD hst hoj (by omega) h7 hn
  have slotsI:ZeW os i=true→∀ n∈Wh oi,∀ q∈js++ks,Q1 (Zbz os q) [n]=true:=fun hst n hn q hq=>by
   obtain⟨_,h6,h7⟩:=mem1 q hq
   rcases List.mem_append.1 hq with hq | hq
   ·obtain⟨oq,hoq,hapq,_⟩:=hj q (by simp[hq])
    simp only[Yc,Bool.and_eq_true] at hapq
    have h5:=hapq.1.1
    simp only[Zbz,hoq]
    cases hd:oq.dst with
    | none=>rfl
    | some d=>
     rw[hd] at h5
     simp only[Q1,Bool.not_eq_true',List.contains_eq_mem,decide_eq_false_iff_not] at h5 ⊢
     intro e
     simp at e
     exact h5 (e ▸ hn)
   ·have:=(List.pairwise_cons.1 (List.pairwise_append.1 hsort.2).2.1).1 q hq
    exact steadyD hst hoi (by omega) h7 hn
  have opdLook:∀ {o:CO} {n:Nat},n∈(ZP o.op).flatMap ZeV→n∈Wh o:=fun h=>List.mem_append.2 (.inl h)
  have argLook:∀ {o:CO} {n:Nat},n∈(Znu o.op).flatMap ZeV→n∈Wh o:=fun {o n} h=>by
   refine List.mem_append.2 (.inl ?_)
   cases ho:o.op<;>rw[ho] at h<;>simp only[Znu,List.flatMap_nil,List.not_mem_nil] at h
   simp only[ZP,List.flatMap_cons,List.mem_append]
   exact .inr h
  have hswap:∃ t1,ZN C M os nx i s=some t1∧∃ t2,ZN C M os nx j t1=some t2∧Yx t2 s2:=by
   rcases hkind with ⟨hqj,hloose⟩ | ⟨hqj,hti,k1,k5,k6⟩ | ⟨hqj,hti,k0,k1,k2,k3,k4,k5,k6⟩
   case inr.inl=>
    obtain⟨t,ht⟩:=loneT k5 hoi
    refine ZwX hoi hoj hti hap hops k1 ht ?_ h1 h2
    rw[ht] at k6
    simp only[okD] at k6
    rw[fin t (fun q hq=>?_) k6]
    ·exact k6
    ·obtain⟨h5,_,h7⟩:=mem1 q hq
     exact loneD k5 hoi ht h5 h7
   case inr.inr=>
    obtain⟨t,ht⟩:=loneT k5 hoi
    refine Zvl hoi hoj hti hij hap (selfD k4 hoi) (selfD k3 hoj) hops hs hfi (hfj j (by simp)) k1 k2 ?_ ht h1 h2
    refine(Zvk k0 k1 k6).move (fun n hn=>fin n (slotsI k4 n (opdLook hn))) (fun n hn=>fin n fun q hq=>?_) (fun n hn=>fin n (slotsJ k3 n (argLook hn)))
    obtain⟨h5,_,h7⟩:=mem1 q hq
    exact loneD k5 hoi hn h5 h7
   cases hti:Z2 os i with
   | false=>exact ZyL hoi hoj hti hqj hij hap hops hs hfi (hfj j (by simp)) h1 h2
   | true=>
    rcases hloose hti with hc | ⟨hst,hl⟩ | ⟨hmv,hgn⟩ | ⟨k1,k5,k6⟩ | ⟨k0,k1,k2,k3,k4,k5,k6⟩
    case inr.inr.inr.inl=>
     obtain⟨t,ht⟩:=loneT k5 hoj
     refine ZwW hoi hoj hqj hap hops k1 ht ?_ h1 h2
     rw[ht] at k6
     simp only[okD] at k6
     rw[fin t (fun q hq=>?_) k6]
     ·exact k6
     ·obtain⟨_,h6,h7⟩:=mem1 q hq
      exact loneD k5 hoj ht (by omega) h7
    case inr.inr.inr.inr=>
     obtain⟨t,ht⟩:=loneT k5 hoj
     refine ZwV hoi hoj hqj hij hap (selfD k3 hoj) (selfD k4 hoi) hops hs hfi (hfj j (by simp)) k1 k2 ?_ ht h1 h2
     refine(Zvk k0 k1 k6).move (fun n hn=>fin n (slotsJ k3 n (opdLook hn))) (fun n hn=>fin n fun q hq=>?_) (fun n hn=>fin n (slotsI k4 n (argLook hn)))
     obtain⟨_,h6,h7⟩:=mem1 q hq
     exact loneD k5 hoj hn (by omega) h7
    ·exact ZyO hoi hoj hc hqj hij hap hops hs hfi (hfj j (by simp)) h1 h2
    ·refine ZwU hoi hoj hti hqj hij hap hops hs hfi (hfj j (by simp)) ⟨hst,?_⟩ h1 h2
     rcases hl with hl | ⟨hl1,hl2,hl3,hl4⟩
     ·exact .inl hl
     ·refine .inr ⟨hl1,?_⟩
      have evT:∀ x∈ZP oi.op,okW (evO r.1 x)=true→evO s.1 x=evO r.1 x:=by
       intro x hx hok
       cases x with
       | v a=>rfl
       | f n=>rfl
       | t n=>
        simp only[evO] at hok ⊢
        have hn:n∈Wh oi:=by
         rw[Wh]
         exact List.mem_append.2 (.inl (List.mem_flatMap.2 ⟨.t n,hx,List.mem_singleton.2 rfl⟩))
        refine ZtQ hrun (fun q hq=>?_) hok
        rcases List.mem_append.1 hq with hq | hq
        ·obtain⟨oq,hoq,hapq,_⟩:=hj q hq
         simp only[Yc,Bool.and_eq_true] at hapq
         have h5:=hapq.1.1
         simp only[Zbz,hoq]
         cases hd:oq.dst with
         | none=>rfl
         | some d=>
          rw[hd] at h5
          simp only[Q1,Bool.not_eq_true',List.contains_eq_mem,decide_eq_false_iff_not] at h5 ⊢
          intro e
          simp at e
          exact h5 (e ▸ hn)
        ·refine steadyD hl3 hoi ?_ (hlt q (List.mem_append.2 (.inr hq))) hn
         rcases List.mem_cons.1 hq with rfl | hq
         ·omega
         ·have:=List.pairwise_append.1 hsort.2
          have:=(List.pairwise_cons.1 this.2.1).1 q hq
          omega
      have evJ:∀ id,X0 r.1 id (ZP oj.op)=true→X0 s.1 id (ZP oj.op)=true:=by
       intro id hfa
       have key:∀ xs:List Opd,(∀ z∈xs,z∈ZP oj.op)→X0 r.1 id xs=true→X0 s.1 id xs=true:=by
        intro xs
        induction xs with
        | nil=>intro _ _;rfl
        | cons z zs ihz=>
         intro hsub hz
         simp only[X0,Bool.and_eq_true] at hz ⊢
         refine⟨?_,ihz (fun z' hz'=>hsub z' (by simp[hz'])) hz.2⟩
         cases z with
         | v a=>exact hz.1
         | f n=>exact hz.1
         | t n=>
          simp only[evO] at hz ⊢
          have hn:n∈Wh oj:=by
           rw[Wh]
           exact List.mem_append.2 (.inl (List.mem_flatMap.2 ⟨.t n,hsub (.t n) (List.mem_cons_self ..),List.mem_singleton.2 rfl⟩))
          rw[Zz1 hrun (fun q hq=>?_) (ZBZ hz.1)]
          ·exact hz.1
          ·refine steadyD hl2 hoj ?_ (hlt q hq) hn
           rcases List.mem_append.1 hq with hq | hq
           ·rcases List.mem_cons.1 hq with rfl | hq
            ·omega
            ·have:=hsort.1 q (by simp[hq]);omega
           ·have:=hsort.1 q (by simp only[List.mem_append];exact .inr hq);omega
       exact key _ (fun _ h=>h) hfa
      cases ho:oi.op<;>rw[ho] at hst hl4<;>first | (cases hst;done) | skip
      case store slc sz x y=>
       simp only[Zl9] at hl4 ⊢
       have hok:okV (evO r.1 x)=true:=by
        cases ht:Ug (evO r.1 x) with
        | none=>rw[ht] at hl4;simp[Ziz] at hl4
        | some id=>cases hv:evO r.1 x<;>rw[hv] at ht<;>simp only[Ug] at ht<;>first | (cases ht;done) | rfl
       rw[evT x (by rw[ho];simp[ZP]) (ZtP hok)]
       cases ht:Ug (evO r.1 x) with
       | none=>rw[ht] at hl4;simp[Ziz] at hl4
       | some id=>rw[ht] at hl4;exact evJ id hl4
      case append sz by_ str flat x y=>
       simp only[Zl9,Bool.and_eq_true,Bool.or_eq_true] at hl4 ⊢
       obtain⟨hl5,hl6⟩:=hl4
       constructor
       ·have hok:okW (evO r.1 x)=true:=by
         cases hv:evO r.1 x<;>rw[hv] at hl5<;>first | rfl | (cases hl5;done) | skip
         case tup vs=>cases vs<;>first | rfl | cases hl5
        rw[evT x (by rw[ho];simp[ZP]) hok]
        cases hv:evO r.1 x<;>rw[hv] at hl5<;>first | (cases hl5;done) | exact evJ _ hl5 | skip
        ·rfl
        case tup vs=>cases vs<;>first | rfl | cases hl5
       ·rcases hl6 with hl6 | hl6
        ·exact .inl hl6
        ·right
         have hok:okW (evO r.1 y)=true:=by
          unfold seenSrc at hl6
          split at hl6
          ·rename_i k hk;rw[hk];rfl
          ·exact ZtP hl6
         rw[evT y (by rw[ho];simp[ZP]) hok]
         unfold seenSrc at hl6 ⊢
         split at hl6
         ·exact evJ _ hl6
         ·exact hl6
    ·exact ZyQ hoi hoj hqj hap hmv hgn h1 h2
  obtain⟨t1,g1,t2,g2,g3⟩:=hswap
  obtain⟨r3,g4,g5⟩:=ZpB g3.symm h3
  refine⟨t1,g1,r3,?_,g5.symm.trans h4⟩
  simp only[List.cons_append,runL,g2,Zj]
  exact g4
def rem (n:Nat) (listed:Array Bool):List Nat:=(List.range n).filter fun i=>!listed.getD i true
theorem Zkj {n:Nat} {listed:Array Bool} {i:Nat}:i∈rem n listed↔i<n∧listed.getD i true=false:=by
 simp[rem]
theorem ZpJ (n:Nat) (listed:Array Bool):(rem n listed).Pairwise (· < ·):=List.Pairwise.filter _ List.pairwise_lt_range
theorem ZB2 {n:Nat} {listed:Array Bool} (hsz:listed.size=n) (i:Nat):rem n (listed.setIfInBounds i true)=(rem n listed).filter fun j=>j != i:=by
 simp only[rem,List.filter_filter]
 refine List.filter_congr fun j hj=>?_
 have hjn:j<n:=List.mem_range.1 hj
 by_cases hji:i=j
 ·subst hji;simp[hsz,hjn]
 ·simp[Array.getElem?_setIfInBounds_ne hji,Ne.symm hji]
def ZsN (nx:Nat) (listed:Array Bool) (id:Nat):Prop:=id<nx∨∃ k,listed.getD k false=true∧nx+64*k≤id∧id<nx+64*k+64
theorem ZaN {l:Array Bool} {k:Nat} (h:l.getD k false=true):k<l.size∧l.getD k true=true:=by
 rcases Nat.lt_or_ge k l.size with h1 | h1
 ·refine⟨h1,?_⟩
  simp[h1] at h ⊢;exact h
 ·simp[Array.getElem?_eq_none h1] at h
theorem ZpK {nx i:Nat} {listed:Array Bool} (h:listed.getD i true=false):XZ (ZsN nx listed) (nx+64*i):=by
 intro id h1 h2 hu
 rcases hu with hu | ⟨k,hk,h3,h4⟩
 ·omega
 ·have hki:k≠i:=fun e=>by subst e;rw[(ZaN hk).2] at h;cases h
  rcases Nat.lt_or_gt_of_ne hki with h5 | h5<;>omega
theorem ZpL {nx i:Nat} {listed:Array Bool} (hi:i<listed.size):∀ id,ZbV (ZsN nx listed) (nx+64*i) id→ZsN nx (listed.setIfInBounds i true) id:=by
 rintro id ((h | ⟨k,hk,h1⟩) | h)
 ·exact .inl h
 ·exact .inr ⟨k,getD_set_true hk,h1⟩
 ·exact .inr ⟨i,by simp[hi],h.1,h.2⟩
end
end Go.Abs
