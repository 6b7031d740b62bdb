/- The abstract semantics: regions that draw. Own text. -/
import Derived.Test.YtemkonmgcoceaaaDoorAbsDrawD
set_option linter.unusedVariables false
set_option linter.unusedSimpArgs false
namespace Go.Abs
open Go
section
variable {P:Program} {nt:Nat}
theorem Zgv {α β:Type} {f:α→Option β}:∀ {l:List α} {r:List β},Qh f l=some r→∀ (i:Nat) (x:α),l[i]?=some x→∃ y,r[i]?=some y∧f x=some y
 | [],r,h,i,x,hx=>by simp at hx
 | a :: l,r,h,i,x,hx=>by
  simp only[Qh] at h
  obtain⟨y,h1,h⟩:=Za h
  obtain⟨ys,h2,h⟩:=Za h
  cases h
  cases i with
  | zero=>simp at hx;subst hx;exact⟨y,by simp,h1⟩
  | succ i=>simp at hx;obtain⟨z,h3,h4⟩:=Zgv h2 i x hx;exact⟨z,by simpa using h3,h4⟩
theorem Jb {α β:Type} {f:α→Option β}:∀ {l:List α} {r:List β},Qh f l=some r→r.length=l.length
 | [],r,h=>by simp only[Qh] at h;cases h;rfl
 | a :: l,r,h=>by
  simp only[Qh] at h
  obtain⟨y,h1,h⟩:=Za h
  obtain⟨ys,h2,h⟩:=Za h
  cases h
  simp[Jb h2]
theorem ZlZ {C:Orc} {M:Zj} (hC:Z6 P C) {ops:Array Oper} {os:List CO} (hos:Qh (Zfk P nt ops.toList) ops.toList=some os) {nx i:Nat} {s s' : Sl×Hp} {U:Nat→Prop} (hs:Zco nt s U) (hf:QO U (nx+64*i))
  (h:Zy C M os nx i s=some s'):Zco nt s' (V0 U (nx+64*i)):=by
 obtain⟨F,A,I,Γ,a,w,hsim⟩:=hs
 unfold Zy at h
 obtain⟨co,hco,h⟩:=Za h
 have hlt:i<ops.toList.length:=by rw[← Jb hos];exact(List.getElem?_eq_some_iff.1 hco).1
 obtain⟨co',h1,h2⟩:=Zgv hos i ops.toList[i] (List.getElem?_eq_getElem hlt)
 rw[hco] at h1;cases h1
 obtain⟨hg,hop,hdst,hdd⟩:=Zc2 h2
 unfold ZE at h
 obtain⟨b,hw,h⟩:=Za h
 cases b with
 | true=>
  simp only[if_true] at h
  obtain⟨ce,hce,hok,rfl⟩:=QB h
  have hwp:=ZlO hC hsim hop hf hdst hok (WN hce) (fun a' w'=>∃ F A I Γ a w,Sim nt F A I Γ (V0 U (nx+64*i)) (ce.on co.dst s.1 s.2).1 (ce.on co.dst s.1 s.2).2 a w) (fun _ _ _=>False) fun u w' hp=>by
   obtain⟨I1,Γ1,b1,b2,b3,b4,b5⟩:=hp
   rw[← hdd] at b5
   exact⟨F,A,I1,Γ1,_,_,b5⟩
  obtain⟨_,_,hex⟩:=Oper.wp_ex hwp
  exact hex
 | false=>
  simp only[Bool.false_eq_true,if_false] at h
  cases h
  obtain⟨I1,Γ1,b1,b2,b3,b4,b5⟩:=hsim.pure (U':=V0 U (nx+64*i)) (v:=.tup []) (u:=undef) (dst:=co.dst) (fun id hu=>.inl hu) ZeG (by rw[hdd];exact hdst)
  exact⟨F,A,I1,Γ1,_,_,b5⟩
theorem Zik {U:Nat→Prop} {nx i j:Nat} (hij:i≠j) (h:QO U (nx+64*i)):QO (V0 U (nx+64*j)) (nx+64*i):=by
 intro id h1 h2 hu
 rcases hu with hu | hu
 ·exact h id h1 h2 hu
 ·rcases Nat.lt_or_gt_of_ne hij with h3 | h3<;>omega
theorem Zqh {id:Nat} {v:AV} (h:UX id v=true):okV v=true:=by
 cases v with
 | tup vs=>cases vs with
  | nil=>rfl
  | cons x r=>cases h
 | _=>first | rfl | cases h
def okW:AV→Bool
 | .sub _ _=>true
 | v=>okV v
theorem Zjn {v:AV} (h:okV v=true):okW v=true:=by cases v<;>first | exact h | rfl
theorem Zpa {g:List Nat} {v:AV} (h:okW (kill g v)=true):kill g v=v:=by
 cases v with
 | sub a b=>
  simp only[kill,ZG,ZQ] at h ⊢
  split at h
  ·cases h
  ·rename_i hn;rw[if_neg hn]
 | _=>
  refine UG ?_
  revert h
  generalize hk:kill g _=u
  cases u<;>first | exact fun h=>h | skip
  intro _
  simp only[kill,ZG,ZQ] at hk
  first | (cases hk;done) | (split at hk<;>cases hk)
theorem Zqi {C:Orc} {M:Zj} {os:List CO} {nx q n:Nat} {s r:Sl×Hp} (h:Zy C M os nx q s=some r) (hd:Qk (VA os q) [n]=true) (hk:okW (gs r.1 n)=true):gs s.1 n=gs r.1 n:=by
 unfold Zy at h
 obtain⟨o,ho,h⟩:=Za h
 have hne:o.dst≠some n:=by
  intro e
  simp[VA,ho,e,Qk] at hd
 unfold ZE at h
 obtain⟨b,_,h⟩:=Za h
 cases b with
 | true=>
  simp only[if_true] at h
  obtain⟨ce,_,_,rfl⟩:=QB h
  have e1:gs (ce.on o.dst s.1 s.2).1 n=kill ce.gone (gs s.1 n):=by
   show gs (Zl (QJ ce.gone s.1) o.dst ce.eff.val) n=_
   rw[Qa,if_neg hne,Qo]
  rw[e1] at hk ⊢
  exact(Zpa hk).symm
 | false=>
  simp only[Bool.false_eq_true,if_false] at h
  cases h
  show gs s.1 n=gs (Zl s.1 o.dst (.tup [])) n
  rw[Qa,if_neg hne]
theorem Zjo {C:Orc} {M:Zj} {os:List CO} {nx n:Nat}:∀ {l:List Nat} {s r:Sl×Hp},Zav C M os nx l s=some r→(∀ q∈l,Qk (VA os q) [n]=true)→okW (gs r.1 n)=true→gs s.1 n=gs r.1 n
 | [],s,r,h,_,_=>by simp only[Zav] at h;cases h;rfl
 | i :: l,s,r,h,hd,hk=>by
  simp only[Zav] at h
  obtain⟨s1,h1,h⟩:=Za h
  have h2:=Zjo h (fun q hq=>hd q (by simp[hq])) hk
  rw[← h2] at hk ⊢
  exact Zqi h1 (hd i (by simp)) hk
theorem Zpb {C:Orc} {M:Zj} {os:List CO} {nx n:Nat} {l:List Nat} {s r:Sl×Hp} (h:Zav C M os nx l s=some r) (hd:∀ q∈l,Qk (VA os q) [n]=true) (hk:okV (gs r.1 n)=true):gs s.1 n=gs r.1 n:=Zjo h hd (Zjn hk)
theorem Zl0 {C:Orc} {M:Zj} {sl:Sl} {hp:Hp} {base:Nat} {c:COp} {ce:Zb} (hc:Zmu c=true) (h:vop C M sl hp base c=some ce):UZ (vop C M sl hp base c)=some ce:=by
 rw[h]
 have key:ce.gone=[]∧ce.eff.sets=[]∧ce.eff.dels=[]∧ce.eff.frz=[]:=by
  have o1:∀ {v:AV},Ql v=some ce→ce.gone=[]∧ce.eff.sets=[]∧ce.eff.dels=[]∧ce.eff.frz=[]:=fun h=>by cases h;exact⟨rfl,rfl,rfl,rfl⟩
  have o2:∀ {v:Option AV},Yf v=some ce→ce.gone=[]∧ce.eff.sets=[]∧ce.eff.dels=[]∧ce.eff.frz=[]:=fun h=>by obtain⟨v,_,h⟩:=Za h;exact o1 h
  cases c<;>simp only[Zmu,Bool.false_eq_true] at hc<;>simp only[vop] at h
  case stuck=>cases h
  case move x=>exact o1 h
  case assign s x=>
   unfold Je at h
   split at h
   ·obtain⟨s,_,h⟩:=Za h;cases h;exact⟨rfl,rfl,rfl,rfl⟩
   ·exact o1 h
  case pick c a b=>
   unfold Za2 at h
   split at h
   ·split at h<;>exact o1 h
   ·cases h
  case alloc slc cs=>
   unfold ZaA Zes at h
   split at h
   ·split at h<;>first | (cases h;done) | (cases h;exact⟨rfl,rfl,rfl,rfl⟩)
   ·split at h<;>(cases h;exact⟨rfl,rfl,rfl,rfl⟩)
  case box x=>
   unfold Zmk at h
   split at h
   ·cases h;exact⟨rfl,rfl,rfl,rfl⟩
   ·cases h
  case build zs ps=>obtain⟨cs,_,h⟩:=Za h;exact o1 h
  case load g s a=>exact o2 h
  case nilCheck x=>unfold VY at h;split at h<;>first | exact o1 h | cases h
  case bin op eq x y=>
   unfold ZfB at h
   split at h
   ·split at h
    ·exact o2 h
    ·cases h
   ·exact o2 h
  case un op x=>exact o2 h
  case eqA neg n x y=>
   unfold ZhU at h
   split at h
   ·obtain⟨r,_,h⟩:=Za h;exact o1 h
   ·cases h
  case convI k x=>unfold Go.Abs.convI at h;split at h<;>first | exact o1 h | cases h
  case convS x=>unfold Go.Abs.convS at h;split at h<;>first | exact o1 h | cases h
  case fn f cs=>exact o2 h
  case make s b z l c=>
   obtain⟨l,_,h⟩:=Za h
   obtain⟨c,_,h⟩:=Za h
   unfold ZgT at h
   split at h
   ·cases h;exact⟨rfl,rfl,rfl,rfl⟩
   ·cases h
  case slice s x lo hi=>exact o2 h
  case sliceS x lo hi=>exact o2 h
  case slice0 x hi mx=>exact o2 h
  case slice3 s x lo hi mx=>exact o2 h
  case shift off x=>unfold X9 at h;split at h<;>first | exact o1 h | cases h
  case part g s off x=>exact o2 h
  case iaS s x i=>
   obtain⟨n,_,h⟩:=Za h
   unfold Zbw at h
   split at h
   ·exact o2 h
   ·cases h
  case iaA len s x i=>
   obtain⟨n,_,h⟩:=Za h
   unfold Zfi at h
   split at h
   ·unfold X9 at h;split at h<;>first | exact o1 h | cases h
   ·cases h
  case ixS x i=>
   obtain⟨n,_,h⟩:=Za h
   unfold Zk0 at h
   split at h
   ·unfold ZiC at h
    split at h
    ·obtain⟨b,_,h⟩:=Za h;exact o1 h
    ·cases h
   ·cases h
  case ixA g s len x i=>
   obtain⟨n,_,h⟩:=Za h
   unfold Zmm at h
   split at h
   ·exact o2 h
   ·cases h
  case nth i x=>unfold ZjB at h;split at h<;>first | exact o2 h | cases h
  case len x=>obtain⟨n,_,h⟩:=Za h;exact o1 h
  case lenS x=>obtain⟨n,_,h⟩:=Za h;exact o1 h
  case min x y=>unfold ZdI at h;split at h<;>first | (split at h<;>first | exact o1 h | cases h) | cases h
  case max x y=>unfold ZdJ at h;split at h<;>first | (split at h<;>first | exact o1 h | cases h) | cases h
 simp only[UZ,Zd,key.1,key.2.1,key.2.2.1,key.2.2.2,ZaN]
theorem ZnR {C:Orc} {M:Zj} {nx i:Nat} {o:CO} (hc:Zmu o.op=true) (s:Sl×Hp):ZE C M nx i true o s=ZE C M nx i false o s:=by
 unfold ZE
 have:Yw C M nx i true o.op s.1 s.2=Yw C M nx i false o.op s.1 s.2:=by
  unfold Yw
  simp only[if_true,Bool.false_eq_true,if_false]
  cases h:vop C M s.1 s.2 (nx+64*i) o.op with
  | none=>rfl
  | some ce=>rw[← h,Zl0 hc h,h]
 rw[this]
theorem vop_read {C:Orc} {M:Zj} {sl:Sl} {hp hp' : Hp} {base:Nat} {c:COp} (hc:V1 c=true) (h:∀ x∈ZB c,∀ k∈Zs (evO sl x),lkp hp k=lkp hp' k):vop C M sl hp base c=vop C M sl hp' base c:=by
 have len:∀ v:AV,(∀ k∈Zs v,lkp hp k=lkp hp' k)→Jr hp v=Jr hp' v:=fun v hv=>by
  cases v<;>simp only[Jr]
  case d x=>cases x<;>rfl
  case own id=>rw[hv id (by simp[Zs,Zu,Zf])]
 cases c<;>simp only[V1,Bool.false_eq_true] at hc<;>simp only[ZB] at h<;>simp only[vop]
 case load g s a=>
  have:=h a (by simp)
  cases hv:evO sl a<;>rw[hv] at this<;>simp only[Y9]
  case ptr id off=>rw[this id (by simp[Zs,Zu,Zf])]
  case prow id sz i off=>rw[this id (by simp[Zs,Zu,Zf])]
 case slice s x lo hi=>
  have:=h x (by simp)
  cases hv:evO sl x<;>rw[hv] at this<;>simp only[Yn]
  case d x=>cases x<;>rfl
  case own id=>rw[this id (by simp[Zs,Zu,Zf])]
  case ownv id off n=>rw[this id (by simp[Zs,Zu,Zf])]
 case slice0 x hi mx=>
  unfold slice0
  rw[len _ (h x (by simp))]
 case iaS s x i=>
  congr 1
  funext n
  simp only[Zbw]
  have:=h x (by simp)
  cases hv:evO sl x<;>rw[hv] at this<;>simp only[Qd]
  case d x=>cases x<;>rfl
  case own id=>rw[this id (by simp[Zs,Zu,Zf])]
  case ownv id off n=>rw[this id (by simp[Zs,Zu,Zf])]
 case len x=>rw[len _ (h x (by simp))]
theorem Zil {A B:Hp} (hd:∀ k x y,(k,x)∈A→(k,y)∈B→False) (hp:Hp) (id:Nat):lkp (Zc (Zc hp A) B) id=lkp (Zc (Zc hp B) A) id:=by
 have key:∀ (l:Hp) (hp hp' : Hp),lkp hp id=lkp hp' id→lkp (Zc hp l) id=lkp (Zc hp' l) id:=by
  intro l
  induction l with
  | nil=>intro hp hp' h;exact h
  | cons q r ih=>
   intro hp hp' h
   obtain⟨k,x⟩:=q
   simp only[Zc]
   exact ih _ _ (by rw[ZZ,ZZ,h])
 by_cases h1:∃ o,(id,o)∈A
 ·have h2:∀ o,(id,o)∉B:=fun o ho=>by
   obtain⟨o',ho'⟩:=h1
   exact hd id o' o ho' ho
  rw[Zn B _ id h2]
  exact key A _ _ (Zn B hp id h2).symm
 ·have h2:∀ o,(id,o)∉A:=fun o ho=>h1 ⟨o,ho⟩
  rw[Zn A _ id h2]
  exact key B _ _ (Zn A hp id h2)
theorem ZkC {hp:Hp} {v:AV} {q:D×Bool×List Nat} (h:W2 hp v=some q):∀ i∈q.2.2,i∈Zf v:=by
 intro i hi
 cases v<;>simp only[W2] at h<;>first | (cases h;simp at hi;done) | (cases h;done) | skip
 obtain⟨p,_,h⟩:=Za h
 cases h
 simpa [Zf] using hi
theorem Ze5 {hp:Hp}:∀ {vs:List AV} {q:List D×Bool×List Nat},Yq hp vs=some q→∀ i∈q.2.2,i∈vs.flatMap Zf
 | [],q,h,i,hi=>by simp only[Yq] at h;cases h;simp at hi
 | v :: vs,q,h,i,hi=>by
  simp only[Yq] at h
  obtain⟨q1,h1,h⟩:=Za h
  obtain⟨q2,h2,h⟩:=Za h
  split at h
  ·cases h
   rcases List.mem_append.1 hi with hi | hi
   ·exact List.mem_flatMap.2 ⟨v,by simp,ZkC h1 i hi⟩
   ·obtain⟨c,hc,hci⟩:=List.mem_flatMap.1 (Ze5 h2 i hi)
    exact List.mem_flatMap.2 ⟨c,by simp[hc],hci⟩
  ·cases h
theorem ZnS {hp:Hp} {slc:List (Option Nat)} {s base:Nat} {vs:List AV} {x:AV} {e:Eff} (h:Wm hp slc s base vs x=some e):∃ id o,Yi x=some id∧e.val=.junk∧e.sets=[(id,o)]∧e.dels=[]∧∀ i∈e.frz,i∈vs.flatMap Zf:=by
 cases x<;>simp only[Wm] at h<;>first | cases h | skip
 case ptr id off=>
  unfold J4 at h
  split at h
  ·split at h
   ·split at h<;>(cases h;exact⟨id,_,rfl,rfl,rfl,rfl,fun i hi=>by simp at hi⟩)
   ·cases h
  ·cases h
 case prow id sz i off=>
  unfold UL at h
  split at h
  ·split at h
   ·obtain⟨x,_,h⟩:=Za h
    obtain⟨q,hq,h⟩:=Za h
    unfold J5 at h
    split at h
    ·cases h;exact⟨id,_,rfl,rfl,rfl,rfl,Ze5 hq⟩
    ·cases h
   ·cases h
  ·cases h
def FzEq (o o' : Option Zi):Prop:=∃ b:Bool,o'=o.map fun x=>if b then X8 x else x
theorem FzEq.seen {o o' : Option Zi} (h:FzEq o o'):UH [] o o':=by
 obtain⟨b,rfl⟩:=h
 have hk:∀ x:Zi,Q2 [] x=x:=fun x=>by
  cases x with
  | box cs=>simp only[Q2];congr 1;rw[List.map_congr_left (g:=id) (fun a _=>JU a),List.map_id]
  | row _ _ _ _=>rfl
  | deep _ _ _ l=>cases l<;>simp[Q2,Zbg]
 have:=ZkI (g:=[]) (b:=b) o
 have e:(o.map (Q2 []))=o:=by cases o<;>simp[hk]
 rw[e] at this
 exact this
theorem vop_fz {C:Orc} {M:Zj} {sl:Sl} {hp hp' : Hp} {base:Nat} {c:COp} (hc:V1 c=true) (h:∀ x∈ZB c,∀ k∈Zs (evO sl x),FzEq (lkp hp k) (lkp hp' k)):vop C M sl hp' base c=vop C M sl hp base c:=by
 have hs:∀ x∈ZB c,ZdA [] hp hp' (evO sl x):=fun x hx k hk=>(h x hx k hk).seen
 cases c<;>simp only[V1,Bool.false_eq_true] at hc<;>simp only[ZB] at h hs<;>simp only[vop]
 case load g s a=>
  have h1:=h a (by simp)
  have h2:=hs a (by simp)
  cases hv:evO sl a<;>rw[hv] at h1 h2<;>simp only[Y9]
  case ptr id off=>
   obtain⟨b,e⟩:=h1 id (by simp[Zs,Zu,Zf])
   rw[e]
   cases lkp hp id with
   | none=>rfl
   | some o=>cases o<;>cases b<;>rfl
  case prow id sz i off=>
   obtain⟨b,e⟩:=h1 id (by simp[Zs,Zu,Zf])
   rw[e]
   cases lkp hp id with
   | none=>rfl
   | some o=>cases o<;>cases b<;>rfl
 case slice s x lo hi=>rw[Zbn (hs x (by simp))]
 case slice0 x hi mx=>unfold slice0;rw[JY (hs x (by simp))]
 case iaS s x i=>
  congr 1
  funext n
  simp only[Zbw]
  rw[WQ (hs x (by simp))]
 case len x=>rw[JY (hs x (by simp))]
def Zdw (sl:Sl) (a:COp):COp→Bool
 | .store _ _ x _=>ZaM sl a (Yi (evO sl x))
 | .append _ _ _ flat x y=>Vh sl a (evO sl x)&&(flat || seenSrc sl a (evO sl y))
 | _=>false
def LooseS (s:Sl) (a b:COp):Prop:=Zg6 b=true∧(YH a=true∨(V1 a=true∧Zdw s a b=true))
theorem Zbl {sl:Sl} {id:Nat}:∀ {xs:List Opd},QP sl id xs=true→∀ x∈xs,UX id (evO sl x)=true
 | [],_,x,hx=>by simp at hx
 | y :: ys,h,x,hx=>by
  simp only[QP,Bool.and_eq_true] at h
  rcases List.mem_cons.1 hx with rfl | hx
  ·exact h.1
  ·exact Zbl h.2 x hx
theorem Zgw {id:Nat} {v:AV} (h:UX id v=true):id∉Zs v:=by
 cases v with
 | tup vs=>cases vs with
  | nil=>simp[Zs]
  | cons x r=>cases h
 | _=>simp[UX,Zs,Zu,Zf] at h ⊢ <;> exact fun e=>h e.symm
theorem Zl1 {hp:Hp} {sz by_ base:Nat} {str flat:Bool} {x y:AV} {e:Eff} (h:YU hp sz by_ str flat base x y=some e):e.sets=[]∧e.frz=[]∧((x=.nil∧e.dels=[])∨∃ id,e.dels=[id]∧(x=.own id∨∃ o n,x=.ownv id o n)):=by
 unfold YU at h
 obtain⟨q,_,h⟩:=Za h
 split at h
 ·cases x<;>simp only[Zbt] at h<;>first | (cases h;done) | skip
  ·split at h
   ·cases h;exact⟨rfl,rfl,.inl ⟨rfl,rfl⟩⟩
   ·cases h
  ·split at h
   ·cases h
   ·unfold Zer at h
    split at h
    ·split at h
     ·cases h;exact⟨rfl,rfl,.inr ⟨_,rfl,.inl rfl⟩⟩
     ·cases h
    ·cases h
  ·split at h
   ·cases h
   ·split at h
    ·unfold ZbX at h
     split at h
     ·split at h
      ·cases h;exact⟨rfl,rfl,.inr ⟨_,rfl,.inr ⟨_,_,rfl⟩⟩⟩
      ·cases h
     ·cases h
    ·unfold ZbW at h
     split at h
     ·split at h
      ·cases h;exact⟨rfl,rfl,.inr ⟨_,rfl,.inr ⟨_,_,rfl⟩⟩⟩
      ·cases h
     ·cases h
 ·cases h
theorem Zgx {hp:Hp} {x:AV} {k:Nat} (h:k∈Xt hp x):x=.own k:=by
 unfold Xt at h
 split at h
 ·split at h
  ·simp at h;subst h;rfl
  ·simp at h
 ·simp at h
theorem Zpc {hp:Hp} {sz by_ base:Nat} {str flat:Bool} {x y:AV} {e:Eff} (h:J8 hp sz by_ str flat base y x=some e):e.frz=[] ∧
  ((e.sets=[]∧∀ k∈e.dels,(x=.own k∨∃ o n,x=.ownv k o n)∨(flat=false∧y=.own k))∨∃ id nm o,x=.sub id nm∧e.dels=[]∧e.sets=[(id,o)]):=by
 unfold J8 at h
 split at h
 ·split at h
  ·cases h
  ·obtain⟨q,_,h⟩:=Za h
   split at h
   ·cases h
   ·unfold ZcS at h
    split at h
    ·obtain⟨fl,_,h⟩:=Za h
     split at h
     ·cases h;exact⟨rfl,.inr ⟨_,_,_,rfl,rfl,rfl⟩⟩
     ·cases h
    ·cases h
 ·have plain:∀ {hp' : Hp} {e:Eff},YU hp' sz by_ str flat base x y=some e→e.sets=[]∧e.frz=[]∧∀ k∈e.dels,x=.own k∨∃ o n,x=.ownv k o n:=by
   intro hp' e h
   obtain⟨g1,g2,g3⟩:=Zl1 h
   refine⟨g1,g2,fun k hk=>?_⟩
   rcases g3 with ⟨_,g3⟩ | ⟨id,g3,g4⟩
   ·rw[g3] at hk;simp at hk
   ·rw[g3] at hk;simp at hk;subst hk;exact g4
  generalize hm:Xt hp x++Xt hp y=ms at h
  cases ms with
  | nil=>
   simp only[Ya] at h
   obtain⟨g1,g2,g3⟩:=plain h
   exact⟨g2,.inl ⟨g1,fun k hk=>.inl (g3 k hk)⟩⟩
  | cons i r=>
   simp only[Ya] at h
   split at h
   ·cases h
   ·rename_i hfl
    obtain⟨e0,h1,h⟩:=Za h
    cases h
    obtain⟨g1,g2,g3⟩:=plain h1
    refine⟨g2,.inl ⟨g1,fun k hk=>?_⟩⟩
    rcases List.mem_append.1 hk with hk | hk
    ·exact .inl (g3 k hk)
    ·rw[← hm] at hk
     rcases List.mem_append.1 hk with hk | hk
     ·exact .inl (.inl (Zgx hk))
     ·exact .inr ⟨by simpa using hfl,Zgx hk⟩
theorem Zgy {ds:List Nat} {l:Hp} {k:Nat} (h:k∈ds):lkp (Z4 l ds) k=none:=by
 cases hl:lkp (Z4 l ds) k with
 | none=>rfl
 | some o=>exact absurd h (Wr ds l k o hl).2
theorem Zqj {C:Orc} {M:Zj} {sl:Sl} {hp:Hp} {base:Nat} {c:COp} {ce:Zb} (hc:Zg6 c=true) (h:vop C M sl hp base c=some ce) :
  ce.gone=[]∧(∀ k,k∈ce.eff.dels∨(∃ o,(k,o)∈ce.eff.sets)→(∃ x∈ZB c,k∈Zs (evO sl x))∧∀ a,Zdw sl a c=true→QP sl k (ZB a)=true)∧∀ k∈ce.eff.frz,∃ x∈ZB c,k∈Zs (evO sl x):=by
 cases c<;>first | (cases hc;done) | skip
 case store slc sz x y=>
  simp only[vop,Za4] at h
  obtain⟨e,h7,h⟩:=Za h
  cases h
  obtain⟨id,o,ht,g1,g2,g3,g4⟩:=ZnS h7
  refine⟨rfl,fun k hk=>?_,fun k hk=>⟨y,by simp[ZB],Zkx (U:=fun k=>k∈Zs (evO sl y)) (fun _ h=>h) k (g4 k hk)⟩⟩
  have hki:k=id:=by
   rcases hk with hk | ⟨o',hk⟩
   ·simp only[g3,List.not_mem_nil] at hk
   ·simp only[g2,List.mem_singleton,Prod.mk.injEq] at hk
    exact hk.1
  subst hki
  refine⟨⟨x,by simp[ZB],?_⟩,fun a ha=>?_⟩
  ·cases hv:evO sl x<;>rw[hv] at ht<;>simp only[Yi] at ht<;>cases ht<;>simp[Zs,Zu,Zf]
  ·simp only[Zdw,ht,ZaM] at ha
   exact ha
 case append sz by_ str flat x y=>
  simp only[vop,ZjC,Za4] at h
  obtain⟨e,h7,h⟩:=Za h
  cases h
  obtain⟨g2,g3⟩:=Zpc h7
  refine⟨rfl,fun k hk=>?_,fun k hk=>by simp only[g2,List.not_mem_nil] at hk⟩
  rcases g3 with ⟨g1,g3⟩ | ⟨id,nm,o,g4,g3,g1⟩
  ·have hkd:k∈e.dels:=by
    rcases hk with hk | ⟨o',hk⟩
    ·exact hk
    ·simp only[g1,List.not_mem_nil] at hk
   rcases g3 k hkd with g4 | ⟨g4,g5⟩
   ·refine⟨⟨x,by simp[ZB],?_⟩,fun a ha=>?_⟩
    ·rcases g4 with g4 | ⟨o,n,g4⟩<;>rw[g4]<;>simp[Zs,Zu,Zf]
    ·simp only[Zdw,Bool.and_eq_true] at ha
     rcases g4 with g4 | ⟨o,n,g4⟩<;>rw[g4] at ha<;>exact ha.1
   ·refine⟨⟨y,by simp[ZB],by rw[g5];simp[Zs,Zu,Zf]⟩,fun a ha=>?_⟩
    simp only[Zdw,Bool.and_eq_true,g4,Bool.false_or] at ha
    rw[g5] at ha
    exact ha.2
  ·have hkd:k=id:=by
    rcases hk with hk | ⟨o',hk⟩
    ·simp only[g3,List.not_mem_nil] at hk
    ·simp only[g1,List.mem_singleton,Prod.mk.injEq] at hk;exact hk.1
   subst hkd
   refine⟨⟨x,by simp[ZB],by rw[g4];simp[Zs,Zu,Zf]⟩,fun a ha=>?_⟩
   simp only[Zdw,Bool.and_eq_true] at ha
   rw[g4] at ha
   exact ha.1
theorem Zl2 {C:Orc} {M:Zj} {os:List CO} {nx i j:Nat} {oi oj:CO} (hoi:os[i]?=some oi) (hoj:os[j]?=some oj) (hti:ZI os i=true) (hqj:ZI os j=false) (hij:i≠j) (hap:QV oj oi=true)
  (hops:∀ (k:Nat) (o:CO),os[k]?=some o→∀ x∈ZB o.op,XN x=true) {s s1 s2:Sl×Hp} {U:Nat→Prop} (hs:Zco nt s U) (hfi:QO U (nx+64*i)) (hfj:QO U (nx+64*j)) (hl:LooseS s.1 oj.op oi.op)
  (h1:Zy C M os nx j s=some s1) (h2:Zy C M os nx i s1=some s2):∃ t1,Zy C M os nx i s=some t1∧∃ t2,Zy C M os nx j t1=some t2∧Q3 t2 s2:=by
 obtain⟨F,A,I,Γ,a,w,hsim⟩:=hs
 simp only[QV,Bool.and_eq_true] at hap
 obtain⟨⟨ap1,ap2⟩,ap3⟩:=hap
 have good:∀ (k:Nat) (o:CO),os[k]?=some o→∀ x∈ZB o.op,Zdu U (evO s.1 x):=by
  intro k o ho x hx
  cases x with
  | t n=>exact hsim.good n
  | v y=>exact VR (hops k o ho _ hx)
  | f n=>exact⟨fun id hid=>by simp[evO,Zs,Zu] at hid,fun f caps h c hc=>by cases h;simp at hc⟩
 simp only[Zy,hoj,Zd,hqj] at h1
 simp only[Zy,hoi,Zd,hti] at h2
 obtain⟨vj,aj,rfl,hj1,hj2⟩:=ZcI h1
 obtain⟨hst,hl⟩:=hl
 unfold ZE at h2
 obtain⟨b,hw,h2⟩:=Za h2
 have hw' : ZM s.1 oi.guard=some b:=by rw[← hw];exact(Qc ap1).symm
 cases b with
 | false=>
  simp only[Bool.false_eq_true,if_false] at h2
  cases h2
  refine⟨(Zl s.1 oi.dst (.tup []),s.2),by simp only[Zy,hoi,Zd,ZE,hw',Bool.false_eq_true,if_false],?_⟩
  have e2:=hj2 (Zl s.1 oi.dst (.tup []),s.2) (Qc ap3) (QM C M s.2 (nx+64*j) (YE (o:=oj) ap3))
  exact⟨(Zl (Zl s.1 oi.dst (.tup [])) oj.dst vj,Zc s.2 aj),by simp only[Zy,hoj,Zd,hqj];exact e2,fun t=>(Y6 ap2 vj (.tup []) t).symm,fun id=>rfl⟩
 | true=>
  simp only[if_true] at h2
  obtain⟨ce,h3,h4,rfl⟩:=QB h2
  have h3' : vop C M s.1 s.2 (nx+64*i) oi.op=some ce:=by
   have h5:=WN h3
   rw[← h5,QM C M (Zc s.2 aj) (nx+64*i) (YE (o:=oi) ap1)]
   exact Wj (hsim.agree (YF hfj hj1 s.2)) C M _ (good i oi hoi)
  have hoadds:=YV h4
  obtain⟨k1,k2,k3⟩:=Zqj hst h3'
  obtain⟨e,gn⟩:=ce
  simp only at k1 k2 k3
  subst k1
  have frzU:∀ k∈e.frz,U k:=fun k hk=>by
   obtain⟨x,hx,hk⟩:=k3 k hk
   exact(good i oi hoi x hx).1 k hk
  have putU:∀ k,k∈e.dels∨(∃ o,(k,o)∈e.sets)→U k:=fun k hk=>by
   obtain⟨⟨x,hx,hk⟩,_⟩:=k2 k hk
   exact(good i oi hoi x hx).1 k hk
  have hon:∀ s:Sl×Hp,Zb.on { eff:=e,gone:=[] } oi.dst s.1 s.2=(Zl s.1 oi.dst e.val,Zc (Zc (Z4 (ZX e.frz s.2) e.dels) e.sets) e.adds):=by
   intro s
   rfl
  refine⟨Zb.on { eff:=e,gone:=[] } oi.dst s.1 s.2,?_,?_⟩
  ·simp only[Zy,hoi,Zd,ZE,hw',if_true,XE,hti,Yw]
   rw[h3',Zd,if_pos h4]
  ·have hagree:∀ k,U k→¬(k∈e.dels∨∃ o,(k,o)∈e.sets)→FzEq (lkp s.2 k) (lkp (Zc (Zc (Z4 (ZX e.frz s.2) e.dels) e.sets) e.adds) k):=by
    intro k hk hne
    rw[not_or] at hne
    rw[← YF hfi hoadds _ k hk,Zn _ _ k (fun o ho=>hne.2 ⟨o,ho⟩),Yl _ _ k hne.1,ZO]
    exact⟨_,rfl⟩
   have e2:ZE C M nx j false oj (Zb.on { eff:=e,gone:=[] } oi.dst s.1 s.2)=some (Zl (Zb.on { eff:=e,gone:=[] } oi.dst s.1 s.2).1 oj.dst vj,Zc (Zb.on { eff:=e,gone:=[] } oi.dst s.1 s.2).2 aj):=by
    rw[hon]
    refine hj2 (Zl s.1 oi.dst e.val,Zc (Zc (Z4 (ZX e.frz s.2) e.dels) e.sets) e.adds) (Qc ap3) ?_
    rw[QM C M _ (nx+64*j) (YE (o:=oj) ap3)]
    rcases hl with hl | ⟨hl1,hl2⟩
    ·exact ZdB hl
    ·refine vop_fz hl1 fun z hz k hk=>?_
     refine hagree k ((good j oj hoj z hz).1 k hk) fun hp=>?_
     exact Zgw (Zbl ((k2 k hp).2 _ hl2) z hz) hk
   refine⟨_,by simp only[Zy,hoj,Zd,hqj];exact e2,fun t=>?_,fun k=>?_⟩
   ·rw[hon,hon (Zl s.1 oj.dst vj,Zc s.2 aj)];exact(Y6 ap2 vj e.val t).symm
   ·rw[hon,hon (Zl s.1 oj.dst vj,Zc s.2 aj)]
    show lkp (Zc (Zc (Zc (Z4 (ZX e.frz s.2) e.dels) e.sets) e.adds) aj) k=lkp (Zc (Zc (Z4 (ZX e.frz (Zc s.2 aj)) e.dels) e.sets) e.adds) k
    have a1:∀ (B:Hp) (hp hp' : Hp),(∀ k,lkp hp k=lkp hp' k)→∀ k,lkp (Zc hp B) k=lkp (Zc hp' B) k:=fun B hp hp' h=>Ua B h
    have notj:∀ k,U k→∀ o',(k,o')∉aj:=fun k hk o' ho'=>by
     have:=hj1 k o' ho'
     exact hfj k this.1 this.2 hk
    rw[Zil (A:=e.adds) (B:=aj) (fun k x y hx hy=>by
     have:=hoadds k x hx
     have:=hj1 k y hy
     rcases Nat.lt_or_gt_of_ne hij with h | h<;>omega)]
    refine a1 e.adds _ _ (fun k=>?_) k
    rw[Zil (A:=e.sets) (B:=aj) (fun k x y hx hy=>notj k (putU k (.inr ⟨x,hx⟩)) y hy) (Z4 (ZX e.frz s.2) e.dels) k]
    refine a1 e.sets _ _ (fun k=>?_) k
    by_cases hd:k∈e.dels
    ·rw[Zn aj _ k (notj k (putU k (.inl hd))),Zgy hd,Zgy hd]
    ·rw[Yl _ _ k hd]
     rw[ZO]
     by_cases hk:∃ o',(k,o')∈aj
     ·obtain⟨o',ho'⟩:=hk
      rw[UJ (hp':=s.2) ⟨o',ho'⟩]
      have hnf:k∉e.frz:=fun hf=>notj k (frzU k hf) o' ho'
      cases lkp (Zc s.2 aj) k<;>simp[hnf]
     ·have hk' : ∀ o',(k,o')∉aj:=fun o' ho'=>hk ⟨o',ho'⟩
      rw[Zn aj _ k hk',Zn aj _ k hk',Yl _ _ k hd,ZO]
theorem ZnT {C:Orc} {M:Zj} {os:List CO} {nx i j:Nat} {oi oj:CO} (hoi:os[i]?=some oi) (hoj:os[j]?=some oj) (hci:Zmu oi.op=true) (hqj:ZI os j=false) (hij:i≠j) (hap:QV oj oi=true)
  (hops:∀ (k:Nat) (o:CO),os[k]?=some o→∀ x∈ZB o.op,XN x=true) {s s1 s2:Sl×Hp} {U:Nat→Prop} (hs:Zco nt s U) (hfi:QO U (nx+64*i)) (hfj:QO U (nx+64*j))
  (h1:Zy C M os nx j s=some s1) (h2:Zy C M os nx i s1=some s2):∃ t1,Zy C M os nx i s=some t1∧∃ t2,Zy C M os nx j t1=some t2∧Q3 t2 s2:=by
 have e:∀ s:Sl×Hp,Zy C M os nx i s=ZE C M nx i false oi s:=fun s=>by
  simp only[Zy,hoi,Zd]
  cases ZI os i
  ·rfl
  ·exact ZnR hci s
 rw[e] at h2
 simp only[e]
 exact Zgu hoi hoj hqj hij hap hops hs hfi hfj h1 h2
theorem Zjp {hp:Hp} {base s:Nat} {vs:List AV} {ce:Zb} (h:buildSl hp base s vs=some ce):ce.gone=[]:=by
 cases vs with
 | nil=>simp only[buildSl,Ql] at h;first | (cases h;rfl) | (split at h<;>first | (cases h;rfl) | cases h)
 | cons v r=>
  simp only[buildSl] at h
  obtain⟨q,_,h⟩:=Za h
  unfold Zml at h
  split at h
  ·cases h;rfl
  ·cases h
theorem ZkD {C:Orc} {M:Zj} {sl:Sl} {hp:Hp} {base:Nat} {c:COp} {ce:Zb} (hc:ZaK c=true) (h:vop C M sl hp base c=some ce):ce.gone=[]:=by
 cases c<;>first | (cases hc;done) | skip
 ·simp only[vop] at h
  exact Zjp h
 ·simp only[vop,ZjC,Za4] at h
  obtain⟨e,_,h⟩:=Za h;cases h;rfl
theorem ZnU {C:Orc} {M:Zj} {nx j:Nat} {oj:CO} {s s1:Sl×Hp} (hm:XW oj.op=true) (h:ZE C M nx j false oj s=some s1) :
  ∃ v,s1=(Zl s.1 oj.dst v,s.2)∧∀ s'' : Sl×Hp,ZM s''.1 oj.guard=ZM s.1 oj.guard→(∀ x∈ZB oj.op,evO s''.1 x=evO s.1 x)→ZE C M nx j false oj s''=some (Zl s''.1 oj.dst v,s''.2):=by
 obtain⟨x,hx⟩:∃ x,oj.op=.move x:=by
  cases ho:oj.op<;>rw[ho] at hm<;>first | (cases hm;done) | exact⟨_,rfl⟩
 unfold ZE at h ⊢
 obtain⟨b,hw,h⟩:=Za h
 cases b with
 | true=>
  simp only[if_true,hx,Yw,Bool.false_eq_true,if_false,vop] at h
  refine⟨evO s.1 x,?_,fun s'' g1 g2=>?_⟩
  ·cases h;rfl
  ·rw[g1,hw,Zd]
   have e:=g2 x (by rw[hx];simp[ZB])
   simp only[if_true,hx,Yw,Bool.false_eq_true,if_false,vop,e]
   rfl
 | false=>
  simp only[Bool.false_eq_true,if_false] at h
  cases h
  refine⟨.tup [],rfl,fun s'' g1 g2=>?_⟩
  rw[g1,hw,Zd];rfl
theorem ZnV {C:Orc} {M:Zj} {os:List CO} {nx i j:Nat} {oi oj:CO} (hoi:os[i]?=some oi) (hoj:os[j]?=some oj) (hqj:ZI os j=false) (hap:QV oj oi=true)
  {s s1 s2:Sl×Hp} (hm:XW oj.op=true) (hg:ZaK oi.op=true)
  (h1:Zy C M os nx j s=some s1) (h2:Zy C M os nx i s1=some s2):∃ t1,Zy C M os nx i s=some t1∧∃ t2,Zy C M os nx j t1=some t2∧Q3 t2 s2:=by
 simp only[QV,Bool.and_eq_true] at hap
 obtain⟨⟨ap1,ap2⟩,ap3⟩:=hap
 simp only[Zy,hoj,Zd,hqj] at h1
 simp only[Zy,hoi,Zd] at h2
 obtain⟨vj,rfl,hj2⟩:=ZnU hm h1
 unfold ZE at h2
 obtain⟨b,hw,h2⟩:=Za h2
 have hw' : ZM s.1 oi.guard=some b:=by rw[← hw];exact(Qc ap1).symm
 cases b with
 | false=>
  simp only[Bool.false_eq_true,if_false] at h2
  cases h2
  refine⟨(Zl s.1 oi.dst (.tup []),s.2),by simp only[Zy,hoi,Zd,ZE,hw',Bool.false_eq_true,if_false],?_⟩
  exact⟨(Zl (Zl s.1 oi.dst (.tup [])) oj.dst vj,s.2),by simp only[Zy,hoj,Zd,hqj];exact hj2 (Zl s.1 oi.dst (.tup []),s.2) (Qc ap3) (YE (o:=oj) ap3),fun t=>(Y6 ap2 vj (.tup []) t).symm,fun id=>rfl⟩
 | true=>
  simp only[if_true] at h2
  obtain⟨ce,h3,h4,rfl⟩:=QB h2
  have hgone:=ZkD hg (WN h3)
  have h3' : Yw C M nx i (ZI os i) oi.op s.1 s.2=some ce:=by
   rw[← h3]
   unfold Yw
   rw[QM C M s.2 (nx+64*i) (YE (o:=oi) ap1)]
  have hon:∀ (sl:Sl) (hp:Hp),ce.on oi.dst sl hp=(Zl sl oi.dst ce.eff.val,ce.eff.on hp):=by
   intro sl hp
   unfold Zb.on
   rw[hgone];rfl
  refine⟨ce.on oi.dst s.1 s.2,?_,?_⟩
  ·simp only[Zy,hoi,Zd,ZE,hw',if_true,XE]
   rw[h3',Zd,if_pos h4]
  ·rw[hon]
   refine⟨(Zl (Zl s.1 oi.dst ce.eff.val) oj.dst vj,ce.eff.on s.2),by simp only[Zy,hoj,Zd,hqj];exact hj2 (Zl s.1 oi.dst ce.eff.val,ce.eff.on s.2) (Qc ap3) (YE (o:=oj) ap3),fun t=>?_,fun k=>?_⟩
   ·rw[hon];exact(Y6 ap2 vj ce.eff.val t).symm
   ·rw[hon]
theorem awayV_ptr {sl:Sl} {xs:List Opd} {v:AV} (h:UY sl xs v=true) {k off:Nat} (e:v=.ptr k off):∀ z∈xs,k∉Zs (evO sl z):=by
 subst e
 exact fun z hz=>Zgw (Zbl h z hz)
structure Zgz (r:Sl) (oX oY:CO):Prop where
 opd:∀ x∈ZB oX.op,okV (evO r x)=true
 dst:∀ t,oX.dst=some t→okV (gs r t)=true
 arg:∀ y∈Zez oY.op,okV (evO r y)=true
 away:∀ y∈Zez oY.op,∀ k off,evO r y=.ptr k off→∀ z∈ZB oX.op,k∉Zs (evO r z)
theorem Zjq {sl:Sl}:∀ {xs:List Opd},okL sl xs=true→∀ x∈xs,okV (evO sl x)=true
 | [],_,x,hx=>by simp at hx
 | y :: ys,h,x,hx=>by
  simp only[okL,Bool.and_eq_true] at h
  rcases List.mem_cons.1 hx with rfl | hx
  ·exact h.1
  ·exact Zjq h.2 x hx
theorem Zim {sl:Sl} {xs:List Opd}:∀ {ys:List Opd},Zbx sl xs ys=true→∀ y∈ys,UY sl xs (evO sl y)=true
 | [],_,x,hx=>by simp at hx
 | y :: ys,h,x,hx=>by
  simp only[Zbx,Bool.and_eq_true] at h
  rcases List.mem_cons.1 hx with rfl | hx
  ·exact h.1
  ·exact Zim h.2 x hx
theorem ZkE {r:Sl} {oX oY:CO} (hm:XW oX.op=false) (hc:WB oY.op=true) (h:Vq r oX.dst oX.op oY.op=true):Zgz r oX oY:=by
 obtain⟨f,as,ho⟩:∃ f as,oY.op=.call (.f f) as:=by
  cases ho:oY.op<;>rw[ho] at hc<;>first | (cases hc;done) | skip
  rename_i f as
  cases f<;>first | (cases hc;done) | exact⟨_,_,rfl⟩
 rw[ho] at h
 have h' : (okL r (ZB oX.op)&&(okD r oX.dst&&(okL r as&&Zbx r (ZB oX.op) as)))=true:=by
  cases hx:oX.op<;>rw[hx] at h hm<;>first | (cases hm;done) | exact h
 simp only[Bool.and_eq_true] at h'
 obtain⟨h1,h2,h3,h4⟩:=h'
 refine⟨Zjq h1,fun t ht=>?_,?_,?_⟩
 ·rw[ht] at h2;exact h2
 ·rw[ho];exact Zjq h3
 ·rw[ho]
  intro y hy k off e
  exact awayV_ptr (Zim h4 y hy) e
theorem Zgz.move {r r' : Sl} {oX oY:CO} (h:Zgz r oX oY) (h1:∀ n∈(ZB oX.op).flatMap WS,okV (gs r n)=true→gs r' n=gs r n) (h2:∀ n,oX.dst=some n→okV (gs r n)=true→gs r' n=gs r n)
  (h3:∀ n∈(Zez oY.op).flatMap WS,okV (gs r n)=true→gs r' n=gs r n):Zgz r' oX oY:=by
 have e1:∀ x∈ZB oX.op,evO r' x=evO r x:=fun x hx=>by
  have ho:=h.opd x hx
  cases x with
  | t n=>exact h1 n (List.mem_flatMap.2 ⟨_,hx,by simp[WS]⟩) ho
  | _=>rfl
 have e3:∀ x∈Zez oY.op,evO r' x=evO r x:=fun x hx=>by
  have ho:=h.arg x hx
  cases x with
  | t n=>exact h3 n (List.mem_flatMap.2 ⟨_,hx,by simp[WS]⟩) ho
  | _=>rfl
 refine⟨fun x hx=>by rw[e1 x hx];exact h.opd x hx,fun t ht=>by rw[h2 t ht (h.dst t ht)];exact h.dst t ht,fun x hx=>by rw[e3 x hx];exact h.arg x hx,fun y hy k off e z hz=>?_⟩
 rw[e3 y hy] at e
 rw[e1 z hz]
 exact h.away y hy k off e z hz
theorem ZgA {C:Orc} {M:Zj} {os:List CO} {nx x y:Nat} {oX oY:CO} (hox:os[x]?=some oX) (hoy:os[y]?=some oY) (hij:x≠y) (hap1:Qk oY.dst (looks oX)=true) (hap2:Qk oX.dst (looks oY)=true)
  (hselfX:Qk oX.dst (looks oX)=true) (hselfY:Qk oY.dst (looks oY)=true)
  (hops:∀ (k:Nat) (o:CO),os[k]?=some o→∀ x∈ZB o.op,XN x=true) {s:Sl×Hp} {r:Sl} {U:Nat→Prop} (hs:Zco nt s U) (hfx:QO U (nx+64*x)) (hfy:QO U (nx+64*y))
  (hcall:WB oY.op=true) {ce:Zb} (hce:vop C M s.1 s.2 (nx+64*y) oY.op=some ce) (hok:Qs (nx+64*y) (nx+64*y+64) ce.eff.adds=true)
  (hrel:∀ n,oX.dst≠some n→oY.dst≠some n→gs r n=kill ce.gone (gs s.1 n)) (hseen:Zgz r oX oY) :
  ce.eff.dels=[]∧(∀ z∈ZB oX.op,evO (ce.on oY.dst s.1 s.2).1 z=evO s.1 z)∧(∀ z∈ZB oX.op,∀ id∈Zs (evO s.1 z),id∉ce.gone)∧(∀ z∈ZB oX.op,ZdA ce.gone s.2 (ce.on oY.dst s.1 s.2).2 (evO s.1 z)) ∧
  (∀ k,nx+64*x≤k→k<nx+64*x+64→(∀ o',(k,o')∉ce.eff.sets)∧(∀ o',(k,o')∉ce.eff.adds)∧k∉ce.eff.frz∧k∉ce.gone):=by
 obtain⟨F,A,I,Γ,a,w,hsim⟩:=hs
 have good:∀ (k:Nat) (o:CO),os[k]?=some o→∀ x∈ZB o.op,Zdu U (evO s.1 x):=by
  intro k o ho x hx
  cases x with
  | t n=>exact hsim.good n
  | v y=>exact VR (hops k o ho _ hx)
  | f n=>exact⟨fun id hid=>by simp[evO,Zs,Zu] at hid,fun f caps h c hc=>by cases h;simp at hc⟩
 obtain⟨f,as,ho⟩:∃ f as,oY.op=.call (.f f) as:=by
  cases ho:oY.op<;>rw[ho] at hcall<;>first | (cases hcall;done) | skip
  rename_i f as
  cases f<;>first | (cases hcall;done) | exact⟨_,_,rfl⟩
 have hce':=hce
 rw[ho] at hce'
 simp only[vop,evO,UT,List.append_nil] at hce'
 obtain⟨k1,k2,k3,k4⟩:=Zn6 hce'
 have lookX:∀ n,(Opd.t n)∈ZB oX.op→n∈looks oX:=fun n hn=>List.mem_append.2 (.inl (List.mem_flatMap.2 ⟨_,hn,by simp[WS]⟩))
 have lookY:∀ n,(Opd.t n)∈as→n∈looks oY:=fun n hn=>List.mem_append.2 (.inl (List.mem_flatMap.2 ⟨.t n,by rw[ho];simp[ZB,hn],by simp[WS]⟩))
 have ne:∀ {d:Option Nat} {l:List Nat} {n:Nat},Qk d l=true→n∈l→d≠some n:=fun {d l n} h hn e=>by
  rw[e] at h
  simp only[Qk,Bool.not_eq_true',List.contains_eq_mem,decide_eq_false_iff_not] at h
  exact h hn
 have evX:∀ z∈ZB oX.op,evO r z=evO s.1 z∧∀ id∈Zs (evO s.1 z),id∉ce.gone:=by
  intro z hz
  have hz':=hseen.opd z hz
  cases z with
  | t n=>
   have e:=hrel n (ne hselfX (lookX n hz)) (ne hap1 (lookX n hz))
   simp only[evO] at hz' ⊢
   rw[e] at hz' ⊢
   have:=UG hz'
   exact⟨this,Zpe this⟩
  | v c=>
   have:=hops x oX hox _ hz
   simp only[XN,Bool.and_eq_true,List.isEmpty_iff] at this
   exact⟨rfl,fun id hid=>by simp only[evO] at hid;rw[this.1] at hid;simp at hid⟩
  | f n=>simp only[evO,okV,okC] at hz';cases hz'
 have evY:∀ z∈as,evO r z=evO s.1 z:=by
  intro z hz
  have hz':=hseen.arg z (by rw[ho];exact hz)
  cases z with
  | t n=>
   have e:=hrel n (ne hap2 (lookY n hz)) (ne hselfY (lookY n hz))
   simp only[evO] at hz' ⊢
   rw[e] at hz' ⊢
   exact UG hz'
  | _=>rfl
 have inU:∀ id,(∃ o,lkp s.2 id=some o)→U id:=fun id ⟨o,h⟩=>hsim.id_in h
 have uX:∀ k,nx+64*x≤k→k<nx+64*x+64→¬U k:=fun k h1 h2=>hfx k h1 h2
 have hadds:=YV hok
 have notSets:∀ z∈ZB oX.op,∀ k∈Zs (evO s.1 z),∀ o',(k,o')∉ce.eff.sets:=by
  intro z hz k hk o' ho'
  rcases (k4 k o' ho').2 with h | ⟨v,hv,hkv⟩
  ·exact(evX z hz).2 k hk h
  ·obtain⟨y',hy',rfl⟩:=ZbQ hv
   have hok':=hseen.arg y' (by rw[ho];exact hy')
   rw[evY y' hy'] at hok'
   cases hp:evO s.1 y' with
   | ptr a b=>
    rw[hp] at hkv
    simp only[WM,List.mem_singleton] at hkv
    subst hkv
    have:=hseen.away y' (by rw[ho];exact hy') k b (by rw[evY y' hy',hp]) z hz
    rw[(evX z hz).1] at this
    exact this hk
   | clo g cs=>rw[hp] at hok';simp only[okV,okC] at hok';cases hok'
   | _=>rw[hp] at hkv;simp[WM] at hkv
 refine⟨k1,fun z hz=>?_,fun z hz=>(evX z hz).2,fun z hz k hk=>?_,fun k g1 g2=>⟨fun o' ho'=>?_,fun o' ho'=>?_,fun hf=>?_,fun hg=>?_⟩⟩
 ·cases z with
  | t n=>
   show gs (Zl (QJ ce.gone s.1) oY.dst ce.eff.val) n=gs s.1 n
   rw[Qa,if_neg (ne hap1 (lookX n hz)),Qo]
   have e:=hrel n (ne hselfX (lookX n hz)) (ne hap1 (lookX n hz))
   have:=hseen.opd _ hz
   simp only[evO] at this
   rw[e] at this
   exact UG this
  | _=>rfl
 ·have hkU:U k:=(good x oX hox z hz).1 k hk
  show UH ce.gone (lkp s.2 k) (lkp (ce.eff.on (XM ce.gone s.2)) k)
  unfold Eff.on
  rw[k1]
  simp only[Z4]
  rw[Zn,Zn,ZO,X0]
  ·exact ZkI _
  ·exact notSets z hz k hk
  ·intro o' ho'
   obtain⟨h1,h2⟩:=hadds k o' ho'
   exact hfy k h1 h2 hkU
 ·exact uX k g1 g2 (inU k (k4 k o' ho').1)
 ·have:=hadds k o' ho'
  rcases Nat.lt_or_gt_of_ne hij with h | h<;>omega
 ·obtain⟨v,hv,hkv⟩:=k2 k hf
  obtain⟨y',hy',rfl⟩:=ZbQ hv
  exact uX k g1 g2 ((good y oY hoy y' (by rw[ho];simp[ZB,hy'])).1 k hkv)
 ·exact uX k g1 g2 (inU k (k3 k hg))
theorem Zl3 {C:Orc} {M:Zj} {os:List CO} {nx i j:Nat} {oi oj:CO} (hoi:os[i]?=some oi) (hoj:os[j]?=some oj) (hqj:ZI os j=false) (hij:i≠j) (hap:QV oj oi=true)
  (hselfX:Qk oj.dst (looks oj)=true) (hselfY:Qk oi.dst (looks oi)=true)
  (hops:∀ (k:Nat) (o:CO),os[k]?=some o→∀ x∈ZB o.op,XN x=true) {s s1 s2:Sl×Hp} {U:Nat→Prop} (hs:Zco nt s U) (hfi:QO U (nx+64*i)) (hfj:QO U (nx+64*j))
  (hcall:WB oi.op=true) (hah:Zg8 oj.op=true) (hseen:Zgz s2.1 oj oi) {t:Nat} (ht:oj.dst=some t)
  (h1:Zy C M os nx j s=some s1) (h2:Zy C M os nx i s1=some s2):∃ t1,Zy C M os nx i s=some t1∧∃ t2,Zy C M os nx j t1=some t2∧Q3 t2 s2:=by
 have hs':=hs
 obtain⟨F,A,I,Γ,a,w,hsim⟩:=hs'
 simp only[QV,Bool.and_eq_true] at hap
 obtain⟨⟨ap1,ap2⟩,ap3⟩:=hap
 have good:∀ (k:Nat) (o:CO),os[k]?=some o→∀ x∈ZB o.op,Zdu U (evO s.1 x):=by
  intro k o ho x hx
  cases x with
  | t n=>exact hsim.good n
  | v y=>exact VR (hops k o ho _ hx)
  | f n=>exact⟨fun id hid=>by simp[evO,Zs,Zu] at hid,fun f caps h c hc=>by cases h;simp at hc⟩
 have stepj:∀ s:Sl×Hp,Zy C M os nx j s=ZE C M nx j false oj s:=fun s=>by simp only[Zy,hoj,Zd,hqj]
 rw[stepj] at h1
 simp only[Zy,hoi,Zd] at h2
 obtain⟨v,ax,hs1,hax,hX⟩:∃ v ax,s1=(Zl s.1 oj.dst v,Zc s.2 ax)∧(∀ k x,(k,x)∈ax→nx+64*j≤k∧k<nx+64*j+64) ∧
   ((ZM s.1 oj.guard=some false∧v=.tup []∧ax=[])∨(ZM s.1 oj.guard=some true∧∃ ce,Zeo ce∧vop C M s.1 s.2 (nx+64*j) oj.op=some ce∧Qs (nx+64*j) (nx+64*j+64) ce.eff.adds=true∧v=ce.eff.val∧ax=ce.eff.adds)):=by
  rcases Zmc h1 with ⟨g1,g2⟩ | ⟨g1,ce,g2,g3,g4,g5⟩
  ·exact⟨.tup [],[],g2,fun k x h=>by simp at h,.inl ⟨g1,rfl,rfl⟩⟩
  ·exact⟨ce.eff.val,ce.eff.adds,g5,YV g4,.inr ⟨g1,ce,g2,g3,g4,rfl,rfl⟩⟩
 subst hs1
 unfold ZE at h2
 obtain⟨b,hw,h2⟩:=Za h2
 have hw' : ZM s.1 oi.guard=some b:=by rw[← hw];exact(Qc ap1).symm
 cases b with
 | false=>
  simp only[Bool.false_eq_true,if_false] at h2
  cases h2
  refine⟨(Zl s.1 oi.dst (.tup []),s.2),by simp only[Zy,hoi,Zd];exact XC hw',?_⟩
  refine⟨(Zl (Zl s.1 oi.dst (.tup [])) oj.dst v,Zc s.2 ax),?_,fun t=>(Y6 ap2 v (.tup []) t).symm,fun id=>rfl⟩
  rw[stepj]
  have hwj:ZM (Zl s.1 oi.dst (.tup [])) oj.guard=ZM s.1 oj.guard:=Qc ap3
  rcases hX with ⟨g1,rfl,rfl⟩ | ⟨g1,ce,g2,g3,g4,rfl,rfl⟩
  ·exact XC (s:=(Zl s.1 oi.dst (.tup []),s.2)) (hwj.trans g1)
  ·refine ZbS (s:=(Zl s.1 oi.dst (.tup []),s.2)) (hwj.trans g1) g2 ?_ g4
   rw[← g3]
   exact QM C M s.2 (nx+64*j) (YE (o:=oj) ap3)
 | true=>
  simp only[if_true] at h2
  obtain⟨ce,h3,h4,rfl⟩:=QB h2
  have hv1:vop C M s.1 s.2 (nx+64*i) oi.op=some ce:=by
   have h5:=WN h3
   rw[← h5,QM C M (Zc s.2 ax) (nx+64*i) (YE (o:=oi) ap1)]
   exact Wj (hsim.agree (YF hfj hax s.2)) C M _ (good i oi hoi)
  have h3' : Yw C M nx i (ZI os i) oi.op s.1 s.2=some ce:=by
   rw[← h3]
   unfold Yw
   rw[QM C M (Zc s.2 ax) (nx+64*i) (YE (o:=oi) ap1),Wj (hsim.agree (YF hfj hax s.2)) C M _ (good i oi hoi)]
  have hrel:∀ n,oj.dst≠some n→oi.dst≠some n→gs (ce.on oi.dst (Zl s.1 oj.dst v) (Zc s.2 ax)).1 n=kill ce.gone (gs s.1 n):=fun n e1 e2=>by
   show gs (Zl (QJ ce.gone (Zl s.1 oj.dst v)) oi.dst ce.eff.val) n=_
   rw[Qa,if_neg e2,Qo,Qa,if_neg e1]
  obtain⟨c1,c2,c3,c4,c5⟩:=ZgA (nt:=nt) hoj hoi (Ne.symm hij) ap3 ap1 hselfX hselfY hops hs hfj hfi hcall hv1 h4 hrel hseen
  have e0:gs (ce.on oi.dst (Zl s.1 oj.dst v) (Zc s.2 ax)).1 t=kill ce.gone v:=by
   show gs (Zl (QJ ce.gone (Zl s.1 oj.dst v)) oi.dst ce.eff.val) t=_
   rw[Qa,if_neg,Qo,Qa,if_pos ht]
   intro e
   rw[ht,e] at ap2
   simp[Wq] at ap2
  have hdst:kill ce.gone v=v:=by
   have h5:=hseen.dst t ht
   rw[e0] at h5
   exact UG h5
  have hokv:okV v=true:=by
   have h5:=hseen.dst t ht
   rw[e0,hdst] at h5
   exact h5
  refine⟨ce.on oi.dst s.1 s.2,?_,?_⟩
  ·simp only[Zy,hoi,Zd,ZE,hw',if_true,XE]
   rw[h3',Zd,if_pos h4]
  ·have hwj:ZM (ce.on oi.dst s.1 s.2).1 oj.guard=ZM s.1 oj.guard:=by
    show ZM (Zl (QJ ce.gone s.1) oi.dst ce.eff.val) oj.guard=_
    rw[Qc ap3]
    exact ZbT fun q _=>Qo _ _ _
   have hcase:(∀ k o,(k,o)∈ax→Q2 ce.gone o=o)∧ZE C M nx j false oj (ce.on oi.dst s.1 s.2)=some (Zl (ce.on oi.dst s.1 s.2).1 oj.dst v,Zc (ce.on oi.dst s.1 s.2).2 ax):=by
    rcases hX with ⟨g1,rfl,rfl⟩ | ⟨g1,cx,g2,g3,g4,rfl,rfl⟩
    ·exact⟨fun k o h=>by simp at h,XC (hwj.trans g1)⟩
    ·obtain⟨e1,e2⟩:=Zn4 hah c2 c4 (fun k h6 h7=>(c5 k h6 h7).2.2.2) g3 g4 g2.frz hokv hdst
     exact⟨e2,ZbS (hwj.trans g1) g2 e1 g4⟩
   obtain⟨e3,e4⟩:=hcase
   refine⟨_,by rw[stepj];exact e4,?_⟩
   exact Zm5 (ce:=ce) (dX:=oj.dst) (dY:=oi.dst) (v:=v) (ax:=ax) (s:=s) ap2 c1 (fun k o ho=>by
    obtain⟨h6,h7⟩:=hax k o ho
    obtain⟨m1,m2,m3,_⟩:=c5 k h6 h7
    exact⟨m1,m2,m3⟩) e3 hdst
theorem ZkF {C:Orc} {M:Zj} {os:List CO} {nx i j:Nat} {oi oj:CO} (hoi:os[i]?=some oi) (hoj:os[j]?=some oj) (hqi:ZI os i=false) (hij:i≠j) (hap:QV oj oi=true)
  (hselfX:Qk oi.dst (looks oi)=true) (hselfY:Qk oj.dst (looks oj)=true)
  (hops:∀ (k:Nat) (o:CO),os[k]?=some o→∀ x∈ZB o.op,XN x=true) {s s1 s2:Sl×Hp} {U:Nat→Prop} (hs:Zco nt s U) (hfi:QO U (nx+64*i)) (hfj:QO U (nx+64*j))
  (hcall:WB oj.op=true) (hbe:ZdP oi.op=true) (hseen:Zgz s2.1 oi oj) {t:Nat} (ht:oi.dst=some t)
  (h1:Zy C M os nx j s=some s1) (h2:Zy C M os nx i s1=some s2):∃ t1,Zy C M os nx i s=some t1∧∃ t2,Zy C M os nx j t1=some t2∧Q3 t2 s2:=by
 have hs':=hs
 obtain⟨F,A,I,Γ,a,w,hsim⟩:=hs'
 simp only[QV,Bool.and_eq_true] at hap
 obtain⟨⟨ap1,ap2⟩,ap3⟩:=hap
 have ap2' : Wq oi.dst oj.dst=true:=by
  cases hd:oi.dst<;>cases he:oj.dst<;>rw[hd,he] at ap2<;>first | rfl | (simp only[Wq,bne_iff_ne,ne_eq] at ap2 ⊢;exact fun e=>ap2 e.symm)
 have good:∀ (k:Nat) (o:CO),os[k]?=some o→∀ x∈ZB o.op,Zdu U (evO s.1 x):=by
  intro k o ho x hx
  cases x with
  | t n=>exact hsim.good n
  | v y=>exact VR (hops k o ho _ hx)
  | f n=>exact⟨fun id hid=>by simp[evO,Zs,Zu] at hid,fun f caps h c hc=>by cases h;simp at hc⟩
 have stepi:∀ s:Sl×Hp,Zy C M os nx i s=ZE C M nx i false oi s:=fun s=>by simp only[Zy,hoi,Zd,hqi]
 rw[stepi] at h2
 simp only[Zy,hoj,Zd] at h1
 unfold ZE at h1
 obtain⟨b,hw,h1⟩:=Za h1
 cases b with
 | false=>
  simp only[Bool.false_eq_true,if_false] at h1
  cases h1
  have hwi:ZM (Zl s.1 oj.dst (.tup [])) oi.guard=ZM s.1 oi.guard:=Qc ap1
  rcases Zmc h2 with ⟨g1,g2⟩ | ⟨g1,ce,g2,g3,g4,g5⟩
  ·subst g2
   refine⟨(Zl s.1 oi.dst (.tup []),s.2),by rw[stepi];exact XC (hwi.symm.trans g1),(Zl (Zl s.1 oi.dst (.tup [])) oj.dst (.tup []),s.2),?_,fun t=>Y6 ap2' _ _ t,fun id=>rfl⟩
   simp only[Zy,hoj,Zd]
   exact XC (s:=(Zl s.1 oi.dst (.tup []),s.2)) ((Qc ap3).trans hw)
  ·subst g5
   refine⟨(Zl s.1 oi.dst ce.eff.val,Zc s.2 ce.eff.adds),?_,(Zl (Zl s.1 oi.dst ce.eff.val) oj.dst (.tup []),Zc s.2 ce.eff.adds),?_,fun t=>Y6 ap2' _ _ t,fun id=>rfl⟩
   ·rw[stepi]
    refine ZbS (hwi.symm.trans g1) g2 ?_ g4
    rw[← g3]
    exact(QM C M s.2 (nx+64*i) (YE (o:=oi) ap1)).symm
   ·simp only[Zy,hoj,Zd]
    exact XC (s:=(Zl s.1 oi.dst ce.eff.val,Zc s.2 ce.eff.adds)) ((Qc ap3).trans hw)
 | true=>
  simp only[if_true] at h1
  obtain⟨ce,h3,h4,rfl⟩:=QB h1
  have hv1:vop C M s.1 s.2 (nx+64*j) oj.op=some ce:=WN h3
  have hwi:ZM (ce.on oj.dst s.1 s.2).1 oi.guard=ZM s.1 oi.guard:=by
   show ZM (Zl (QJ ce.gone s.1) oj.dst ce.eff.val) oi.guard=_
   rw[Qc ap1]
   exact ZbT fun q _=>Qo _ _ _
  obtain⟨v,ax,hs2,hax,hX⟩:∃ v ax,s2=(Zl (ce.on oj.dst s.1 s.2).1 oi.dst v,Zc (ce.on oj.dst s.1 s.2).2 ax)∧(∀ k x,(k,x)∈ax→nx+64*i≤k∧k<nx+64*i+64) ∧
    ((ZM s.1 oi.guard=some false∧v=.tup []∧ax=[])∨(ZM s.1 oi.guard=some true∧∃ cx,Zeo cx∧vop C M (ce.on oj.dst s.1 s.2).1 (ce.on oj.dst s.1 s.2).2 (nx+64*i) oi.op=some cx∧Qs (nx+64*i) (nx+64*i+64) cx.eff.adds=true∧v=cx.eff.val∧ax=cx.eff.adds)):=by
   rcases Zmc h2 with ⟨g1,g2⟩ | ⟨g1,cx,g2,g3,g4,g5⟩
   ·exact⟨.tup [],[],g2,fun k x h=>by simp at h,.inl ⟨hwi.symm.trans g1,rfl,rfl⟩⟩
   ·exact⟨cx.eff.val,cx.eff.adds,g5,YV g4,.inr ⟨hwi.symm.trans g1,cx,g2,g3,g4,rfl,rfl⟩⟩
  subst hs2
  have hrel:∀ n,oi.dst≠some n→oj.dst≠some n→gs (Zl (ce.on oj.dst s.1 s.2).1 oi.dst v) n=kill ce.gone (gs s.1 n):=fun n e1 e2=>by
   rw[Qa,if_neg e1]
   show gs (Zl (QJ ce.gone s.1) oj.dst ce.eff.val) n=_
   rw[Qa,if_neg e2,Qo]
  obtain⟨c1,c2,c3,c4,c5⟩:=ZgA (nt:=nt) hoi hoj hij ap1 ap3 hselfX hselfY hops hs hfi hfj hcall hv1 h4 hrel hseen
  have hokv:okV v=true:=by
   have h5:=hseen.dst t ht
   simp only[Qa,if_pos ht] at h5
   exact h5
  have hcase:kill ce.gone v=v∧(∀ k o,(k,o)∈ax→Q2 ce.gone o=o)∧ZE C M nx i false oi s=some (Zl s.1 oi.dst v,Zc s.2 ax):=by
   rcases hX with ⟨g1,rfl,rfl⟩ | ⟨g1,cx,g2,g3,g4,rfl,rfl⟩
   ·exact⟨rfl,fun k o h=>by simp at h,XC g1⟩
   ·obtain⟨e1,e2,e3⟩:=Zmb hbe c2 c4 c3 (fun k h6 h7=>(c5 k h6 h7).2.2.2) g3 g4 g2.frz hokv
    exact⟨e2,e3,ZbS g1 g2 e1 g4⟩
  obtain⟨hk,e3,e4⟩:=hcase
  refine⟨(Zl s.1 oi.dst v,Zc s.2 ax),by rw[stepi];exact e4,ce.on oj.dst (Zl s.1 oi.dst v) (Zc s.2 ax),?_,?_⟩
  ·simp only[Zy,hoj,Zd,ZE]
   have hwj:ZM (Zl s.1 oi.dst v) oj.guard=some true:=(Qc ap3).trans hw
   simp only[hwj,Zd,if_true,XE]
   have:Yw C M nx j (ZI os j) oj.op (Zl s.1 oi.dst v) (Zc s.2 ax)=some ce:=by
    rw[← h3]
    unfold Yw
    rw[QM C M (Zc s.2 ax) (nx+64*j) (YE (o:=oj) ap3),← Wj (hsim.agree (YF hfi hax s.2)) C M _ (good j oj hoj)]
   rw[this,Zd,if_pos h4]
  ·exact(Zm5 (ce:=ce) (dX:=oi.dst) (dY:=oj.dst) (v:=v) (ax:=ax) (s:=s) ap2' c1 (fun k o ho=>by
    obtain⟨h6,h7⟩:=hax k o ho
    obtain⟨m1,m2,m3,_⟩:=c5 k h6 h7
    exact⟨m1,m2,m3⟩) e3 hk).symm
theorem Zaw {C:Orc} {M:Zj} {nx j:Nat} {oj:CO} {x:Opd} (hx:oj.op=.move x) {s:Sl×Hp} {b:Bool} (hw:ZM s.1 oj.guard=some b) :
  ZE C M nx j false oj s=some (Zl s.1 oj.dst (if b then evO s.1 x else .tup []),s.2):=by
 unfold ZE
 rw[hw,Zd]
 cases b
 ·rfl
 ·simp only[if_true,hx,Yw,Bool.false_eq_true,if_false,vop];rfl
theorem Zl4 {C:Orc} {M:Zj} {os:List CO} {nx i j:Nat} {oi oj:CO} (hoi:os[i]?=some oi) (hoj:os[j]?=some oj) (hqj:ZI os j=false) (hap:QV oj oi=true)
  (hops:∀ (k:Nat) (o:CO),os[k]?=some o→∀ x∈ZB o.op,XN x=true)
  {s s1 s2:Sl×Hp} (hm:XW oj.op=true) {t:Nat} (ht:oj.dst=some t) (hok:okV (gs s2.1 t)=true)
  (h1:Zy C M os nx j s=some s1) (h2:Zy C M os nx i s1=some s2):∃ t1,Zy C M os nx i s=some t1∧∃ t2,Zy C M os nx j t1=some t2∧Q3 t2 s2:=by
 obtain⟨x,hx⟩:∃ x,oj.op=.move x:=by
  cases ho:oj.op<;>rw[ho] at hm<;>first | (cases hm;done) | exact⟨_,rfl⟩
 simp only[QV,Bool.and_eq_true] at hap
 obtain⟨⟨ap1,ap2⟩,ap3⟩:=hap
 have stepj:∀ s:Sl×Hp,Zy C M os nx j s=ZE C M nx j false oj s:=fun s=>by simp only[Zy,hoj,Zd,hqj]
 rw[stepj] at h1
 obtain⟨bj,hwj⟩:∃ bj,ZM s.1 oj.guard=some bj:=by
  unfold ZE at h1
  obtain⟨b,hw,_⟩:=Za h1
  exact⟨b,hw⟩
 rw[Zaw hx hwj] at h1
 have h1:=(Option.some.inj h1).symm
 subst h1
 simp only[Zy,hoi,Zd] at h2
 unfold ZE at h2
 obtain⟨b,hw,h2⟩:=Za h2
 have hw' : ZM s.1 oi.guard=some b:=by rw[← hw];exact(Qc ap1).symm
 have nei:oi.dst≠some t:=fun e=>by rw[ht,e] at ap2;simp[Wq] at ap2
 have lookX:∀ n,x=.t n→oi.dst≠some n:=fun n e h=>by
  rw[h] at ap3
  simp only[Qk,Bool.not_eq_true',List.contains_eq_mem,decide_eq_false_iff_not] at ap3
  exact ap3 (List.mem_append.2 (.inl (by rw[hx,e];simp[ZB,WS])))
 cases b with
 | false=>
  simp only[Bool.false_eq_true,if_false] at h2
  cases h2
  refine⟨(Zl s.1 oi.dst (.tup []),s.2),by simp only[Zy,hoi,Zd];exact XC hw',?_⟩
  refine⟨_,by rw[stepj];exact Zaw (s:=(Zl s.1 oi.dst (.tup []),s.2)) hx ((Qc ap3).trans hwj),?_⟩
  have:evO (Zl s.1 oi.dst (.tup [])) x=evO s.1 x:=YE (o:=oj) ap3 x (by rw[hx];simp[ZB])
  simp only[this]
  exact⟨fun t=>(Y6 ap2 _ _ t).symm,fun id=>rfl⟩
 | true=>
  simp only[if_true] at h2
  obtain⟨ce,h3,h4,rfl⟩:=QB h2
  have h3' : Yw C M nx i (ZI os i) oi.op s.1 s.2=some ce:=by
   rw[← h3]
   unfold Yw
   rw[QM C M s.2 (nx+64*i) (YE (o:=oi) ap1)]
  refine⟨ce.on oi.dst s.1 s.2,by simp only[Zy,hoi,Zd,ZE,hw',if_true,XE];rw[h3',Zd,if_pos h4],?_⟩
  have hwj2:ZM (ce.on oi.dst s.1 s.2).1 oj.guard=some bj:=by
   show ZM (Zl (QJ ce.gone s.1) oi.dst ce.eff.val) oj.guard=_
   rw[Qc ap3,← hwj]
   exact ZbT fun q _=>Qo _ _ _
  refine⟨_,by rw[stepj];exact Zaw hx hwj2,?_⟩
  have e0:gs (ce.on oi.dst (Zl s.1 oj.dst (if bj then evO s.1 x else .tup [])) s.2).1 t=kill ce.gone (if bj then evO s.1 x else .tup []):=by
   show gs (Zl (QJ ce.gone (Zl s.1 oj.dst _)) oi.dst ce.eff.val) t=_
   rw[Qa,if_neg nei,Qo,Qa,if_pos ht]
  rw[e0] at hok
  have hk:=UG hok
  have ev:(if bj then evO (ce.on oi.dst s.1 s.2).1 x else .tup [])=(if bj then evO s.1 x else .tup []):=by
   cases bj with
   | false=>rfl
   | true=>
    simp only[if_true] at hk ⊢
    cases x with
    | t n=>
     show gs (Zl (QJ ce.gone s.1) oi.dst ce.eff.val) n=gs s.1 n
     rw[Qa,if_neg (lookX n rfl),Qo]
     exact hk
    | _=>rfl
  rw[ev]
  refine⟨fun q=>?_,fun id=>rfl⟩
  show gs (Zl (Zl (QJ ce.gone s.1) oi.dst ce.eff.val) oj.dst _) q=gs (Zl (QJ ce.gone (Zl s.1 oj.dst _)) oi.dst ce.eff.val) q
  simp only[Qa,Qo]
  by_cases hq:oj.dst=some q
  ·have:¬oi.dst=some q:=fun e=>by rw[hq,e] at ap2;simp[Wq] at ap2
   simp only[hq,if_true,this,if_false]
   exact hk.symm
  ·simp[hq]
theorem Zl5 {C:Orc} {M:Zj} {os:List CO} {nx i j:Nat} {oi oj:CO} (hoi:os[i]?=some oi) (hoj:os[j]?=some oj) (hqi:ZI os i=false) (hap:QV oj oi=true)
  (hops:∀ (k:Nat) (o:CO),os[k]?=some o→∀ x∈ZB o.op,XN x=true)
  {s s1 s2:Sl×Hp} (hm:XW oi.op=true) {t:Nat} (ht:oi.dst=some t) (hok:okV (gs s2.1 t)=true)
  (h1:Zy C M os nx j s=some s1) (h2:Zy C M os nx i s1=some s2):∃ t1,Zy C M os nx i s=some t1∧∃ t2,Zy C M os nx j t1=some t2∧Q3 t2 s2:=by
 obtain⟨x,hx⟩:∃ x,oi.op=.move x:=by
  cases ho:oi.op<;>rw[ho] at hm<;>first | (cases hm;done) | exact⟨_,rfl⟩
 simp only[QV,Bool.and_eq_true] at hap
 obtain⟨⟨ap1,ap2⟩,ap3⟩:=hap
 have stepi:∀ s:Sl×Hp,Zy C M os nx i s=ZE C M nx i false oi s:=fun s=>by simp only[Zy,hoi,Zd,hqi]
 rw[stepi] at h2
 simp only[Zy,hoj,Zd] at h1
 unfold ZE at h1
 obtain⟨b,hw,h1⟩:=Za h1
 have lookX:∀ n,x=.t n→oj.dst≠some n:=fun n e h=>by
  rw[h] at ap1
  simp only[Qk,Bool.not_eq_true',List.contains_eq_mem,decide_eq_false_iff_not] at ap1
  exact ap1 (List.mem_append.2 (.inl (by rw[hx,e];simp[ZB,WS])))
 have fin:∀ (bi:Bool) (e:evO s1.1 x=evO s.1 x∨bi=false) (g1:ZM s.1 oi.guard=some bi) (g2:ZM s1.1 oi.guard=some bi),s2=(Zl s1.1 oi.dst (if bi then evO s.1 x else .tup []),s1.2):=by
  intro bi e g1 g2
  rw[Zaw hx g2] at h2
  rw[← Option.some.inj h2]
  rcases e with e | e
  ·rw[e]
  ·rw[e];rfl
 cases b with
 | false=>
  simp only[Bool.false_eq_true,if_false] at h1
  cases h1
  have hwi:ZM (Zl s.1 oj.dst (.tup [])) oi.guard=ZM s.1 oi.guard:=Qc ap1
  obtain⟨bi,hbi⟩:∃ bi,ZM s.1 oi.guard=some bi:=by
   unfold ZE at h2
   obtain⟨b,hw,_⟩:=Za h2
   exact⟨b,hwi.symm.trans hw⟩
  have e:evO (Zl s.1 oj.dst (.tup [])) x=evO s.1 x:=YE (o:=oi) ap1 x (by rw[hx];simp[ZB])
  have h5:=fin bi (.inl e) hbi (hwi.trans hbi)
  subst h5
  refine⟨_,by rw[stepi];exact Zaw hx hbi,(Zl (Zl s.1 oi.dst (if bi then evO s.1 x else .tup [])) oj.dst (.tup []),s.2),?_,fun t=>?_,fun id=>rfl⟩
  ·simp only[Zy,hoj,Zd]
   exact XC (s:=(Zl s.1 oi.dst (if bi then evO s.1 x else .tup []),s.2)) ((Qc ap3).trans hw)
  ·exact(Y6 ap2 _ _ t).symm
 | true=>
  simp only[if_true] at h1
  obtain⟨ce,h3,h4,rfl⟩:=QB h1
  have hwi:ZM (ce.on oj.dst s.1 s.2).1 oi.guard=ZM s.1 oi.guard:=by
   show ZM (Zl (QJ ce.gone s.1) oj.dst ce.eff.val) oi.guard=_
   rw[Qc ap1]
   exact ZbT fun q _=>Qo _ _ _
  obtain⟨bi,hbi⟩:∃ bi,ZM s.1 oi.guard=some bi:=by
   unfold ZE at h2
   obtain⟨b,hw,_⟩:=Za h2
   exact⟨b,hwi.symm.trans hw⟩
  have h2':=h2
  rw[Zaw hx (hwi.trans hbi)] at h2'
  have h6:=Option.some.inj h2'
  have hv:okV (if bi then evO (ce.on oj.dst s.1 s.2).1 x else .tup [])=true:=by
   rw[← h6] at hok
   simp only[Qa,if_pos ht] at hok
   exact hok
  have hkv:kill ce.gone (if bi then evO s.1 x else .tup [])=(if bi then evO s.1 x else .tup [])∧(evO (ce.on oj.dst s.1 s.2).1 x=evO s.1 x∨bi=false):=by
   cases bi with
   | false=>exact⟨rfl,.inr rfl⟩
   | true=>
    simp only[if_true] at hv ⊢
    cases x with
    | t n=>
     have e:evO (ce.on oj.dst s.1 s.2).1 (.t n)=kill ce.gone (gs s.1 n):=by
      show gs (Zl (QJ ce.gone s.1) oj.dst ce.eff.val) n=_
      rw[Qa,if_neg (lookX n rfl),Qo]
     rw[e] at hv ⊢
     have:=UG hv
     exact⟨this,.inl this⟩
    | v c=>
     have hc:=hops i oi hoi (.v c) (by rw[hx];simp[ZB])
     simp only[XN,Bool.and_eq_true,List.isEmpty_iff] at hc
     exact⟨Zm3 hv fun id hid=>by simp only[evO] at hid;rw[hc.1] at hid;simp at hid,.inl rfl⟩
    | f n=>simp only[evO,okV,okC] at hv;cases hv
  have h5:=fin bi hkv.2 hbi (hwi.trans hbi)
  subst h5
  refine⟨_,by rw[stepi];exact Zaw hx hbi,ce.on oj.dst (Zl s.1 oi.dst (if bi then evO s.1 x else .tup [])) s.2,?_,fun q=>?_,fun id=>rfl⟩
  ·simp only[Zy,hoj,Zd,ZE]
   have hwj:ZM (Zl s.1 oi.dst (if bi then evO s.1 x else .tup [])) oj.guard=some true:=(Qc ap3).trans hw
   simp only[hwj,Zd,if_true,XE]
   have:Yw C M nx j (ZI os j) oj.op (Zl s.1 oi.dst (if bi then evO s.1 x else .tup [])) s.2=some ce:=by
    rw[← h3]
    unfold Yw
    rw[QM C M s.2 (nx+64*j) (YE (o:=oj) ap3)]
   rw[this,Zd,if_pos h4]
  ·show gs (Zl (QJ ce.gone (Zl s.1 oi.dst _)) oj.dst ce.eff.val) q=gs (Zl (Zl (QJ ce.gone s.1) oj.dst ce.eff.val) oi.dst _) q
   simp only[Qa,Qo]
   by_cases hq:oi.dst=some q
   ·have:¬oj.dst=some q:=fun e=>by rw[hq,e] at ap2;simp[Wq] at ap2
    simp only[hq,if_true,this,if_false]
    exact hkv.1
   ·simp[hq]
theorem Zm1 {C:Orc} {M:Zj} (hC:Z6 P C) {ops:Array Oper} {os:List CO} (hos:Qh (Zfk P nt ops.toList) ops.toList=some os) {nx i:Nat} {ks:List Nat} {oi:CO} (hoi:os[i]?=some oi)
  (hops:∀ (k:Nat) (o:CO),os[k]?=some o→∀ x∈ZB o.op,XN x=true) :
  ∀ (js:List Nat) {s r:Sl×Hp} {U:Nat→Prop},Zco nt s U→QO U (nx+64*i)→(∀ j∈js,QO U (nx+64*j))→(js++i :: ks).Pairwise (· < ·) →
   (∀ j∈js,∃ oj,os[j]?=some oj∧QV oj oi=true∧((ZI os j=false∧(ZI os i=true→Zmu oi.op=true∨(Zg6 oi.op=true∧(YH oj.op=true∨(V1 oj.op=true∧WT os j=true∧WT os i=true∧Zdw r.1 oj.op oi.op=true)))∨(XW oj.op=true∧ZaK oi.op=true)∨(XW oj.op=true∧ZfD os j=true∧okD r.1 oj.dst=true) ∨
    (XW oj.op=false∧WB oi.op=true∧Zg8 oj.op=true∧WT os j=true∧WT os i=true∧ZfD os j=true∧Vq r.1 oj.dst oj.op oi.op=true))) ∨
    (ZI os j=true∧ZI os i=false∧XW oi.op=true∧ZfD os i=true∧okD r.1 oi.dst=true) ∨
    (ZI os j=true∧ZI os i=false∧XW oi.op=false∧WB oj.op=true∧ZdP oi.op=true∧WT os j=true∧WT os i=true∧ZfD os i=true∧Vq r.1 oi.dst oi.op oj.op=true))) →
   (∀ j∈js++i :: ks,j<os.length)→Zav C M os nx (js++i :: ks) s=some r →
   ∃ s',Zy C M os nx i s=some s'∧∃ r',Zav C M os nx (js++ks) s'=some r'∧Q3 r' r
 | [],s,r,U,_,_,_,_,_,_,h=>by
  simp only[List.nil_append,Zav] at h ⊢
  obtain⟨s',h1,h⟩:=Za h
  exact⟨s',h1,r,h,Q3.refl r⟩
 | j :: js,s,r,U,hs,hfi,hfj,hsort,hj,hlt,h=>by
  have hrun:=h
  simp only[List.cons_append,Zav] at h
  obtain⟨s1,h1,h⟩:=Za h
  have hsort':=hsort
  simp only[List.cons_append,List.pairwise_cons] at hsort
  have hji:j<i:=hsort.1 i (by simp)
  have hij:i≠j:=by omega
  have hs1:=ZlZ hC hos hs (hfj j (by simp)) h1
  have hjn:∀ k∈js,k≠j:=fun k hk e=>by
   have:=hsort.1 k (by simp[hk]);omega
  obtain⟨s2,h2,r2,h3,h4⟩:=Zm1 hC hos hoi hops js hs1 (Zik hij hfi) (fun k hk=>Zik (hjn k hk) (hfj k (by simp[hk]))) hsort.2 (fun k hk=>hj k (by simp[hk])) (fun k hk=>hlt k (by simp only[List.cons_append,List.mem_cons];exact .inr hk)) h
  obtain⟨oj,hoj,hap,hkind⟩:=hj j (by simp)
  have steadyD:∀ {k q n:Nat} {o:CO},WT os k=true→os[k]?=some o→k≤q→q<os.length→n∈looks o→Qk (VA os q) [n]=true:=by
   intro k q n o hst ho hkq hq hn
   have:=List.all_eq_true.1 hst q (List.mem_range.2 hq)
   simp only[ZjM,ho,Bool.or_eq_true,decide_eq_true_eq] at this
   rcases this with h | h
   ·omega
   ·cases hd:VA os q with
    | none=>rfl
    | some d=>
     rw[hd] at h
     simp only[Qk,Bool.not_eq_true',List.contains_eq_mem,decide_eq_false_iff_not] at h ⊢
     intro e
     simp at e
     exact h (e ▸ hn)
  have selfD:∀ {k:Nat} {o:CO},WT os k=true→os[k]?=some o→Qk o.dst (looks o)=true:=by
   intro k o hst ho
   have hk:k<os.length:=(List.getElem?_eq_some_iff.1 ho).1
   have:=List.all_eq_true.1 hst k (List.mem_range.2 hk)
   simp only[ZjM,VA,ho,Bool.or_eq_true,decide_eq_true_eq] at this
   rcases this with h | h
   ·omega
   ·exact h
  have loneD:∀ {k q t:Nat} {o:CO},ZfD os k=true→os[k]?=some o→o.dst=some t→q≠k→q<os.length→Qk (VA os q) [t]=true:=by
   intro k q t o hl ho ht hne hq
   simp only[ZfD,Bool.and_eq_true] at hl
   have:=List.all_eq_true.1 hl.2 q (List.mem_range.2 hq)
   simp only[Bool.or_eq_true,beq_iff_eq,VA,ho,ht] at this
   rcases this with h | h
   ·exact absurd h hne
   ·simp only[VA]
    cases hoq:os[q]? with
    | none=>rfl
    | some oq=>
     rw[hoq] at h
     simp only at h ⊢
     cases hd:oq.dst with
     | none=>rfl
     | some d=>
      rw[hd] at h
      simp only[Wq,bne_iff_ne,ne_eq] at h
      simp only[Qk,Bool.not_eq_true',List.contains_eq_mem,decide_eq_false_iff_not,List.mem_singleton]
      exact h
  have loneT:∀ {k:Nat} {o:CO},ZfD os k=true→os[k]?=some o→∃ t,o.dst=some t:=by
   intro k o hl ho
   simp only[ZfD,VA,ho,Bool.and_eq_true] at hl
   cases hd:o.dst with
   | none=>rw[hd] at hl;cases hl.1
   | some t=>exact⟨t,rfl⟩
  have fin:∀ n,(∀ q∈js++ks,Qk (VA os q) [n]=true)→okV (gs r.1 n)=true→gs s2.1 n=gs r.1 n:=by
   intro n hn ho
   rw[← h4.1 n] at ho ⊢
   exact Zpb h3 hn ho
  have mem1:∀ q∈js++ks,q≠i∧j<q∧q<os.length:=by
   intro q hq
   refine⟨?_,?_,hlt q ?_⟩
   ·rcases List.mem_append.1 hq with hq | hq
    ·have:=(List.pairwise_append.1 hsort.2).2.2 q hq i (by simp);omega
    ·have:=(List.pairwise_cons.1 (List.pairwise_append.1 hsort.2).2.1).1 q hq;omega
   ·rcases List.mem_append.1 hq with hq | hq
    ·exact hsort.1 q (by simp[hq])
    ·exact hsort.1 q (by simp[hq])
   ·rcases List.mem_append.1 hq with hq | hq<;>simp[hq]
  have slotsJ:WT os j=true→∀ n∈looks oj,∀ q∈js++ks,Qk (VA os q) [n]=true:=fun hst n hn q hq=>by
   obtain⟨_,h6,h7⟩:=mem1 q hq
   exact steadyD hst hoj (by omega) h7 hn
  have slotsI:WT os i=true→∀ n∈looks oi,∀ q∈js++ks,Qk (VA os q) [n]=true:=fun hst n hn q hq=>by
   obtain⟨_,h6,h7⟩:=mem1 q hq
   rcases List.mem_append.1 hq with hq | hq
   ·obtain⟨oq,hoq,hapq,_⟩:=hj q (by simp[hq])
    simp only[QV,Bool.and_eq_true] at hapq
    have h5:=hapq.1.1
    simp only[VA,hoq]
    cases hd:oq.dst with
    | none=>rfl
    | some d=>
     rw[hd] at h5
     simp only[Qk,Bool.not_eq_true',List.contains_eq_mem,decide_eq_false_iff_not] at h5 ⊢
     intro e
     simp at e
     exact h5 (e ▸ hn)
   ·have:=(List.pairwise_cons.1 (List.pairwise_append.1 hsort.2).2.1).1 q hq
    exact steadyD hst hoi (by omega) h7 hn
  have opdLook:∀ {o:CO} {n:Nat},n∈(ZB o.op).flatMap WS→n∈looks o:=fun h=>List.mem_append.2 (.inl h)
  have argLook:∀ {o:CO} {n:Nat},n∈(Zez o.op).flatMap WS→n∈looks o:=fun {o n} h=>by
   refine List.mem_append.2 (.inl ?_)
   cases ho:o.op<;>rw[ho] at h<;>simp only[Zez,List.flatMap_nil,List.not_mem_nil] at h
   simp only[ZB,List.flatMap_cons,List.mem_append]
   exact .inr h
  have hswap:∃ t1,Zy C M os nx i s=some t1∧∃ t2,Zy C M os nx j t1=some t2∧Q3 t2 s2:=by
   rcases hkind with ⟨hqj,hloose⟩ | ⟨hqj,hti,k1,k5,k6⟩ | ⟨hqj,hti,k0,k1,k2,k3,k4,k5,k6⟩
   case inr.inl=>
    obtain⟨t,ht⟩:=loneT k5 hoi
    refine Zl5 hoi hoj hti hap hops k1 ht ?_ h1 h2
    rw[ht] at k6
    simp only[okD] at k6
    rw[fin t (fun q hq=>?_) k6]
    ·exact k6
    ·obtain⟨h5,_,h7⟩:=mem1 q hq
     exact loneD k5 hoi ht h5 h7
   case inr.inr=>
    obtain⟨t,ht⟩:=loneT k5 hoi
    refine ZkF hoi hoj hti hij hap (selfD k4 hoi) (selfD k3 hoj) hops hs hfi (hfj j (by simp)) k1 k2 ?_ ht h1 h2
    refine(ZkE k0 k1 k6).move (fun n hn=>fin n (slotsI k4 n (opdLook hn))) (fun n hn=>fin n fun q hq=>?_) (fun n hn=>fin n (slotsJ k3 n (argLook hn)))
    obtain⟨h5,_,h7⟩:=mem1 q hq
    exact loneD k5 hoi hn h5 h7
   cases hti:ZI os i with
   | false=>exact ZnQ hoi hoj hti hqj hij hap hops hs hfi (hfj j (by simp)) h1 h2
   | true=>
    rcases hloose hti with hc | ⟨hst,hl⟩ | ⟨hmv,hgn⟩ | ⟨k1,k5,k6⟩ | ⟨k0,k1,k2,k3,k4,k5,k6⟩
    case inr.inr.inr.inl=>
     obtain⟨t,ht⟩:=loneT k5 hoj
     refine Zl4 hoi hoj hqj hap hops k1 ht ?_ h1 h2
     rw[ht] at k6
     simp only[okD] at k6
     rw[fin t (fun q hq=>?_) k6]
     ·exact k6
     ·obtain⟨_,h6,h7⟩:=mem1 q hq
      exact loneD k5 hoj ht (by omega) h7
    case inr.inr.inr.inr=>
     obtain⟨t,ht⟩:=loneT k5 hoj
     refine Zl3 hoi hoj hqj hij hap (selfD k3 hoj) (selfD k4 hoi) hops hs hfi (hfj j (by simp)) k1 k2 ?_ ht h1 h2
     refine(ZkE k0 k1 k6).move (fun n hn=>fin n (slotsJ k3 n (opdLook hn))) (fun n hn=>fin n fun q hq=>?_) (fun n hn=>fin n (slotsI k4 n (argLook hn)))
     obtain⟨_,h6,h7⟩:=mem1 q hq
     exact loneD k5 hoj hn (by omega) h7
    ·exact ZnT hoi hoj hc hqj hij hap hops hs hfi (hfj j (by simp)) h1 h2
    ·refine Zl2 hoi hoj hti hqj hij hap hops hs hfi (hfj j (by simp)) ⟨hst,?_⟩ h1 h2
     rcases hl with hl | ⟨hl1,hl2,hl3,hl4⟩
     ·exact .inl hl
     ·refine .inr ⟨hl1,?_⟩
      have evT:∀ x∈ZB oi.op,okW (evO r.1 x)=true→evO s.1 x=evO r.1 x:=by
       intro x hx hok
       cases x with
       | v a=>rfl
       | f n=>rfl
       | t n=>
        simp only[evO] at hok ⊢
        have hn:n∈looks oi:=by
         rw[looks]
         exact List.mem_append.2 (.inl (List.mem_flatMap.2 ⟨.t n,hx,List.mem_singleton.2 rfl⟩))
        refine Zjo hrun (fun q hq=>?_) hok
        rcases List.mem_append.1 hq with hq | hq
        ·obtain⟨oq,hoq,hapq,_⟩:=hj q hq
         simp only[QV,Bool.and_eq_true] at hapq
         have h5:=hapq.1.1
         simp only[VA,hoq]
         cases hd:oq.dst with
         | none=>rfl
         | some d=>
          rw[hd] at h5
          simp only[Qk,Bool.not_eq_true',List.contains_eq_mem,decide_eq_false_iff_not] at h5 ⊢
          intro e
          simp at e
          exact h5 (e ▸ hn)
        ·refine steadyD hl3 hoi ?_ (hlt q (List.mem_append.2 (.inr hq))) hn
         rcases List.mem_cons.1 hq with rfl | hq
         ·omega
         ·have:=List.pairwise_append.1 hsort.2
          have:=(List.pairwise_cons.1 this.2.1).1 q hq
          omega
      have evJ:∀ id,QP r.1 id (ZB oj.op)=true→QP s.1 id (ZB oj.op)=true:=by
       intro id hfa
       have key:∀ xs:List Opd,(∀ z∈xs,z∈ZB oj.op)→QP r.1 id xs=true→QP s.1 id xs=true:=by
        intro xs
        induction xs with
        | nil=>intro _ _;rfl
        | cons z zs ihz=>
         intro hsub hz
         simp only[QP,Bool.and_eq_true] at hz ⊢
         refine⟨?_,ihz (fun z' hz'=>hsub z' (by simp[hz'])) hz.2⟩
         cases z with
         | v a=>exact hz.1
         | f n=>exact hz.1
         | t n=>
          simp only[evO] at hz ⊢
          have hn:n∈looks oj:=by
           rw[looks]
           exact List.mem_append.2 (.inl (List.mem_flatMap.2 ⟨.t n,hsub (.t n) (List.mem_cons_self ..),List.mem_singleton.2 rfl⟩))
          rw[Zpb hrun (fun q hq=>?_) (Zqh hz.1)]
          ·exact hz.1
          ·refine steadyD hl2 hoj ?_ (hlt q hq) hn
           rcases List.mem_append.1 hq with hq | hq
           ·rcases List.mem_cons.1 hq with rfl | hq
            ·omega
            ·have:=hsort.1 q (by simp[hq]);omega
           ·have:=hsort.1 q (by simp only[List.mem_append];exact .inr hq);omega
       exact key _ (fun _ h=>h) hfa
      cases ho:oi.op<;>rw[ho] at hst hl4<;>first | (cases hst;done) | skip
      case store slc sz x y=>
       simp only[Zdw] at hl4 ⊢
       have hok:okV (evO r.1 x)=true:=by
        cases ht:Yi (evO r.1 x) with
        | none=>rw[ht] at hl4;simp[ZaM] at hl4
        | some id=>cases hv:evO r.1 x<;>rw[hv] at ht<;>simp only[Yi] at ht<;>first | (cases ht;done) | rfl
       rw[evT x (by rw[ho];simp[ZB]) (Zjn hok)]
       cases ht:Yi (evO r.1 x) with
       | none=>rw[ht] at hl4;simp[ZaM] at hl4
       | some id=>rw[ht] at hl4;exact evJ id hl4
      case append sz by_ str flat x y=>
       simp only[Zdw,Bool.and_eq_true,Bool.or_eq_true] at hl4 ⊢
       obtain⟨hl5,hl6⟩:=hl4
       constructor
       ·have hok:okW (evO r.1 x)=true:=by
         cases hv:evO r.1 x<;>rw[hv] at hl5<;>first | rfl | (cases hl5;done) | skip
         case tup vs=>cases vs<;>first | rfl | cases hl5
        rw[evT x (by rw[ho];simp[ZB]) hok]
        cases hv:evO r.1 x<;>rw[hv] at hl5<;>first | (cases hl5;done) | exact evJ _ hl5 | skip
        ·rfl
        case tup vs=>cases vs<;>first | rfl | cases hl5
       ·rcases hl6 with hl6 | hl6
        ·exact .inl hl6
        ·right
         have hok:okW (evO r.1 y)=true:=by
          unfold seenSrc at hl6
          split at hl6
          ·rename_i k hk;rw[hk];rfl
          ·exact Zjn hl6
         rw[evT y (by rw[ho];simp[ZB]) hok]
         unfold seenSrc at hl6 ⊢
         split at hl6
         ·exact evJ _ hl6
         ·exact hl6
    ·exact ZnV hoi hoj hqj hap hmv hgn h1 h2
  obtain⟨t1,g1,t2,g2,g3⟩:=hswap
  obtain⟨r3,g4,g5⟩:=Zgt g3.symm h3
  refine⟨t1,g1,r3,?_,g5.symm.trans h4⟩
  simp only[List.cons_append,Zav,g2,Zd]
  exact g4
def rem (n:Nat) (listed:Array Bool):List Nat:=(List.range n).filter fun i=>!listed.getD i true
theorem ZbR {n:Nat} {listed:Array Bool} {i:Nat}:i∈rem n listed↔i<n∧listed.getD i true=false:=by
 simp[rem]
theorem ZgB (n:Nat) (listed:Array Bool):(rem n listed).Pairwise (· < ·):=List.Pairwise.filter _ List.pairwise_lt_range
theorem Zqk {n:Nat} {listed:Array Bool} (hsz:listed.size=n) (i:Nat):rem n (listed.setIfInBounds i true)=(rem n listed).filter fun j=>j != i:=by
 simp only[rem,List.filter_filter]
 refine List.filter_congr fun j hj=>?_
 have hjn:j<n:=List.mem_range.1 hj
 by_cases hji:i=j
 ·subst hji;simp[hsz,hjn]
 ·simp[Array.getElem?_setIfInBounds_ne hji,Ne.symm hji]
def Zin (nx:Nat) (listed:Array Bool) (id:Nat):Prop:=id<nx∨∃ k,listed.getD k false=true∧nx+64*k≤id∧id<nx+64*k+64
theorem Ve {l:Array Bool} {k:Nat} (h:l.getD k false=true):k<l.size∧l.getD k true=true:=by
 rcases Nat.lt_or_ge k l.size with h1 | h1
 ·refine⟨h1,?_⟩
  simp[h1] at h ⊢;exact h
 ·simp[Array.getElem?_eq_none h1] at h
theorem ZgC {nx i:Nat} {listed:Array Bool} (h:listed.getD i true=false):QO (Zin nx listed) (nx+64*i):=by
 intro id h1 h2 hu
 rcases hu with hu | ⟨k,hk,h3,h4⟩
 ·omega
 ·have hki:k≠i:=fun e=>by subst e;rw[(Ve hk).2] at h;cases h
  rcases Nat.lt_or_gt_of_ne hki with h5 | h5<;>omega
theorem ZgD {nx i:Nat} {listed:Array Bool} (hi:i<listed.size):∀ id,V0 (Zin nx listed) (nx+64*i) id→Zin nx (listed.setIfInBounds i true) id:=by
 rintro id ((h | ⟨k,hk,h1⟩) | h)
 ·exact .inl h
 ·exact .inr ⟨k,getD_set_true hk,h1⟩
 ·exact .inr ⟨i,by simp[hi],h.1,h.2⟩
end
end Go.Abs
