/- The abstract semantics: regions that draw. Own text. -/
import Derived.Test.YtpobhkoombldlaaGreatAbsDrawD
set_option linter.unusedVariables false
set_option linter.unusedSimpArgs false
namespace Go.Abs
open Go
section
variable {P:Program} {nt:Nat}
theorem Zpi {α β:Type} {f:α→Option β}:∀ {l:List α} {r:List β},QV f l=some r→∀ (i:Nat) (x:α),l[i]?=some x→∃ y,r[i]?=some y∧f x=some y
 | [],r,h,i,x,hx=>by simp at hx
 | a :: l,r,h,i,x,hx=>by
  simp only[QV] at h
  obtain⟨y,h1,h⟩:=Za h
  obtain⟨ys,h2,h⟩:=Za h
  cases h
  cases i with
  | zero=>simp at hx;subst hx;exact⟨y,by simp,h1⟩
  | succ i=>simp at hx;obtain⟨z,h3,h4⟩:=Zpi h2 i x hx;exact⟨z,by simpa using h3,h4⟩
theorem Zet {α β:Type} {f:α→Option β}:∀ {l:List α} {r:List β},QV f l=some r→r.length=l.length
 | [],r,h=>by simp only[QV] at h;cases h;rfl
 | a :: l,r,h=>by
  simp only[QV] at h
  obtain⟨y,h1,h⟩:=Za h
  obtain⟨ys,h2,h⟩:=Za h
  cases h
  simp[Zet h2]
theorem ZwI {C:Orc} {M:Zu} (hC:QH P C) {ops:Array Oper} {os:List CO} (hos:QV (ZnQ P nt ops.toList) ops.toList=some os) {nx i:Nat} {s s' : Sl×Hp} {U:Nat→Prop} (hs:Zju nt s U) (hf:X8 U (nx+64*i))
  (h:ZP C M os nx i s=some s'):Zju nt s' (Za2 U (nx+64*i)):=by
 obtain⟨F,A,I,Γ,a,w,hsim⟩:=hs
 unfold ZP at h
 obtain⟨co,hco,h⟩:=Za h
 have hlt:i<ops.toList.length:=by rw[← Zet hos];exact(List.getElem?_eq_some_iff.1 hco).1
 obtain⟨co',h1,h2⟩:=Zpi hos i ops.toList[i] (List.getElem?_eq_getElem hlt)
 rw[hco] at h1;cases h1
 obtain⟨hg,hop,hdst,hdd⟩:=ZkS h2
 unfold ZX at h
 obtain⟨b,hw,h⟩:=Za h
 cases b with
 | true=>
  simp only[if_true] at h
  obtain⟨ce,hce,hok,rfl⟩:=Xq h
  have hwp:=Zwy hC hsim hop hf hdst hok (ZcA hce) (fun a' w'=>∃ F A I Γ a w,Sim nt F A I Γ (Za2 U (nx+64*i)) (ce.on co.dst s.1 s.2).1 (ce.on co.dst s.1 s.2).2 a w) (fun _ _ _=>False) fun u w' hp=>by
   obtain⟨I1,Γ1,b1,b2,b3,b4,b5⟩:=hp
   rw[← hdd] at b5
   exact⟨F,A,I1,Γ1,_,_,b5⟩
  obtain⟨_,_,hex⟩:=Oper.wp_ex hwp
  exact hex
 | false=>
  simp only[Bool.false_eq_true,if_false] at h
  cases h
  obtain⟨I1,Γ1,b1,b2,b3,b4,b5⟩:=hsim.pure (U':=Za2 U (nx+64*i)) (v:=.tup []) (u:=undef) (dst:=co.dst) (fun id hu=>.inl hu) Zm4 (by rw[hdd];exact hdst)
  exact⟨F,A,I1,Γ1,_,_,b5⟩
theorem Zsw {U:Nat→Prop} {nx i j:Nat} (hij:i≠j) (h:X8 U (nx+64*i)):X8 (Za2 U (nx+64*j)) (nx+64*i):=by
 intro id h1 h2 hu
 rcases hu with hu | hu
 ·exact h id h1 h2 hu
 ·rcases Nat.lt_or_gt_of_ne hij with h3 | h3<;>omega
theorem ZBX {id:Nat} {v:AV} (h:Zd6 id v=true):okV v=true:=by
 cases v with
 | tup vs=>cases vs with
  | nil=>rfl
  | cons x r=>cases h
 | _=>first | rfl | cases h
def okW:AV→Bool
 | .sub _ _=>true
 | v=>okV v
theorem ZtD {v:AV} (h:okV v=true):okW v=true:=by cases v<;>first | exact h | rfl
theorem ZzW {g:List Nat} {v:AV} (h:okW (kill g v)=true):kill g v=v:=by
 cases v with
 | sub a b=>
  simp only[kill,Z9,Qr] at h ⊢
  split at h
  ·cases h
  ·rename_i hn;rw[if_neg hn]
 | _=>
  refine ZdM ?_
  revert h
  generalize hk:kill g _=u
  cases u<;>first | exact fun h=>h | skip
  intro _
  simp only[kill,Z9,Qr] at hk
  first | (cases hk;done) | (split at hk<;>cases hk)
theorem ZBY {C:Orc} {M:Zu} {os:List CO} {nx q n:Nat} {s r:Sl×Hp} (h:ZP C M os nx q s=some r) (hd:Q1 (ZaI os q) [n]=true) (hk:okW (gs r.1 n)=true):gs s.1 n=gs r.1 n:=by
 unfold ZP at h
 obtain⟨o,ho,h⟩:=Za h
 have hne:o.dst≠some n:=by
  intro e
  simp[ZaI,ho,e,Q1] at hd
 unfold ZX at h
 obtain⟨b,_,h⟩:=Za h
 cases b with
 | true=>
  simp only[if_true] at h
  obtain⟨ce,_,_,rfl⟩:=Xq h
  have e1:gs (ce.on o.dst s.1 s.2).1 n=kill ce.gone (gs s.1 n):=by
   show gs (Zw (XM ce.gone s.1) o.dst ce.eff.val) n=_
   rw[QN,if_neg hne,Q5]
  rw[e1] at hk ⊢
  exact(ZzW hk).symm
 | false=>
  simp only[Bool.false_eq_true,if_false] at h
  cases h
  show gs s.1 n=gs (Zw s.1 o.dst (.tup [])) n
  rw[QN,if_neg hne]
theorem ZtE {C:Orc} {M:Zu} {os:List CO} {nx n:Nat}:∀ {l:List Nat} {s r:Sl×Hp},Zf7 C M os nx l s=some r→(∀ q∈l,Q1 (ZaI os q) [n]=true)→okW (gs r.1 n)=true→gs s.1 n=gs r.1 n
 | [],s,r,h,_,_=>by simp only[Zf7] at h;cases h;rfl
 | i :: l,s,r,h,hd,hk=>by
  simp only[Zf7] at h
  obtain⟨s1,h1,h⟩:=Za h
  have h2:=ZtE h (fun q hq=>hd q (by simp[hq])) hk
  rw[← h2] at hk ⊢
  exact ZBY h1 (hd i (by simp)) hk
theorem ZzX {C:Orc} {M:Zu} {os:List CO} {nx n:Nat} {l:List Nat} {s r:Sl×Hp} (h:Zf7 C M os nx l s=some r) (hd:∀ q∈l,Q1 (ZaI os q) [n]=true) (hk:okV (gs r.1 n)=true):gs s.1 n=gs r.1 n:=ZtE h hd (ZtD hk)
theorem ZwJ {C:Orc} {M:Zu} {sl:Sl} {hp:Hp} {base:Nat} {c:COp} {ce:Zf} (hc:Zxd c=true) (h:vop C M sl hp base c=some ce):Zd8 (vop C M sl hp base c)=some ce:=by
 rw[h]
 have key:ce.gone=[]∧ce.eff.sets=[]∧ce.eff.dels=[]∧ce.eff.frz=[]:=by
  have o1:∀ {v:AV},Qs v=some ce→ce.gone=[]∧ce.eff.sets=[]∧ce.eff.dels=[]∧ce.eff.frz=[]:=fun h=>by cases h;exact⟨rfl,rfl,rfl,rfl⟩
  have o2:∀ {v:Option AV},Ut v=some ce→ce.gone=[]∧ce.eff.sets=[]∧ce.eff.dels=[]∧ce.eff.frz=[]:=fun h=>by obtain⟨v,_,h⟩:=Za h;exact o1 h
  cases c<;>simp only[Zxd,Bool.false_eq_true] at hc<;>simp only[vop] at h
  case stuck=>cases h
  case move x=>exact o1 h
  case assign s x=>
   unfold Zew at h
   split at h
   ·obtain⟨s,_,h⟩:=Za h;cases h;exact⟨rfl,rfl,rfl,rfl⟩
   ·exact o1 h
  case pick c a b=>
   unfold ZgE at h
   split at h
   ·split at h<;>exact o1 h
   ·cases h
  case alloc slc cs=>
   unfold Zgd at h
   split at h<;>(cases h;exact⟨rfl,rfl,rfl,rfl⟩)
  case box x=>
   unfold Zw3 at h
   split at h
   ·cases h;exact⟨rfl,rfl,rfl,rfl⟩
   ·cases h
  case build zs ps=>obtain⟨cs,_,h⟩:=Za h;exact o1 h
  case load g s a=>exact o2 h
  case nilCheck x=>unfold ZaX at h;split at h<;>first | exact o1 h | cases h
  case bin op eq x y=>
   unfold Zfp at h
   split at h
   ·split at h
    ·exact o2 h
    ·cases h
   ·exact o2 h
  case un op x=>exact o2 h
  case eqA neg n x y=>
   unfold ZrA at h
   split at h
   ·obtain⟨r,_,h⟩:=Za h;exact o1 h
   ·cases h
  case convI k x=>unfold Go.Abs.convI at h;split at h<;>first | exact o1 h | cases h
  case convS x=>unfold Go.Abs.convS at h;split at h<;>first | exact o1 h | cases h
  case fn f cs=>exact o2 h
  case make s b z l c=>
   obtain⟨l,_,h⟩:=Za h
   obtain⟨c,_,h⟩:=Za h
   unfold ZpG at h
   split at h
   ·cases h;exact⟨rfl,rfl,rfl,rfl⟩
   ·cases h
  case slice s x lo hi=>exact o2 h
  case sliceS x lo hi=>exact o2 h
  case slice0 x hi mx=>exact o2 h
  case slice3 s x lo hi mx=>exact o2 h
  case shift off x=>unfold WN at h;split at h<;>first | exact o1 h | cases h
  case part g s off x=>exact o2 h
  case iaS s x i=>
   obtain⟨n,_,h⟩:=Za h
   unfold ZhB at h
   split at h
   ·exact o2 h
   ·cases h
  case iaA len s x i=>
   obtain⟨n,_,h⟩:=Za h
   unfold ZnO at h
   split at h
   ·unfold WN at h;split at h<;>first | exact o1 h | cases h
   ·cases h
  case ixS x i=>
   obtain⟨n,_,h⟩:=Za h
   unfold Zvv at h
   split at h
   ·unfold ZsQ at h
    split at h
    ·obtain⟨b,_,h⟩:=Za h;exact o1 h
    ·cases h
   ·cases h
  case ixA g s len x i=>
   obtain⟨n,_,h⟩:=Za h
   unfold Zw5 at h
   split at h
   ·exact o2 h
   ·cases h
  case nth i x=>unfold ZtR at h;split at h<;>first | exact o2 h | cases h
  case len x=>obtain⟨n,_,h⟩:=Za h;exact o1 h
  case lenS x=>obtain⟨n,_,h⟩:=Za h;exact o1 h
  case min x y=>unfold Zlx at h;split at h<;>first | (split at h<;>first | exact o1 h | cases h) | cases h
  case max x y=>unfold Zly at h;split at h<;>first | (split at h<;>first | exact o1 h | cases h) | cases h
 simp only[Zd8,Zj,key.1,key.2.1,key.2.2.1,key.2.2.2,Zgm]
theorem ZyD {C:Orc} {M:Zu} {nx i:Nat} {o:CO} (hc:Zxd o.op=true) (s:Sl×Hp):ZX C M nx i true o s=ZX C M nx i false o s:=by
 unfold ZX
 have:UD C M nx i true o.op s.1 s.2=UD C M nx i false o.op s.1 s.2:=by
  unfold UD
  simp only[if_true,Bool.false_eq_true,if_false]
  cases h:vop C M s.1 s.2 (nx+64*i) o.op with
  | none=>rfl
  | some ce=>rw[← h,ZwJ hc h,h]
 rw[this]
theorem vop_read {C:Orc} {M:Zu} {sl:Sl} {hp hp' : Hp} {base:Nat} {c:COp} (hc:Za3 c=true) (h:∀ x∈ZT c,∀ k∈ZJ (evO sl x),lkp hp k=lkp hp' k):vop C M sl hp base c=vop C M sl hp' base c:=by
 have len:∀ v:AV,(∀ k∈ZJ v,lkp hp k=lkp hp' k)→ZeR hp v=ZeR hp' v:=fun v hv=>by
  cases v<;>simp only[ZeR]
  case d x=>cases x<;>rfl
  case own id=>rw[hv id (by simp[ZJ,ZK,Zq])]
 cases c<;>simp only[Za3,Bool.false_eq_true] at hc<;>simp only[ZT] at h<;>simp only[vop]
 case load g s a=>
  have:=h a (by simp)
  cases hv:evO sl a<;>rw[hv] at this<;>simp only[JU]
  case ptr id off=>rw[this id (by simp[ZJ,ZK,Zq])]
  case prow id sz i off=>rw[this id (by simp[ZJ,ZK,Zq])]
 case slice s x lo hi=>
  have:=h x (by simp)
  cases hv:evO sl x<;>rw[hv] at this<;>simp only[Us]
  case d x=>cases x<;>rfl
  case own id=>rw[this id (by simp[ZJ,ZK,Zq])]
  case ownv id off n=>rw[this id (by simp[ZJ,ZK,Zq])]
 case slice0 x hi mx=>
  unfold slice0
  rw[len _ (h x (by simp))]
 case iaS s x i=>
  congr 1
  funext n
  simp only[ZhB]
  have:=h x (by simp)
  cases hv:evO sl x<;>rw[hv] at this<;>simp only[QQ]
  case d x=>cases x<;>rfl
  case own id=>rw[this id (by simp[ZJ,ZK,Zq])]
  case ownv id off n=>rw[this id (by simp[ZJ,ZK,Zq])]
 case len x=>rw[len _ (h x (by simp))]
theorem Zsx {A B:Hp} (hd:∀ k x y,(k,x)∈A→(k,y)∈B→False) (hp:Hp) (id:Nat):lkp (Zi (Zi hp A) B) id=lkp (Zi (Zi hp B) A) id:=by
 have key:∀ (l:Hp) (hp hp' : Hp),lkp hp id=lkp hp' id→lkp (Zi hp l) id=lkp (Zi hp' l) id:=by
  intro l
  induction l with
  | nil=>intro hp hp' h;exact h
  | cons q r ih=>
   intro hp hp' h
   obtain⟨k,x⟩:=q
   simp only[Zi]
   exact ih _ _ (by rw[Qo,Qo,h])
 by_cases h1:∃ o,(id,o)∈A
 ·have h2:∀ o,(id,o)∉B:=fun o ho=>by
   obtain⟨o',ho'⟩:=h1
   exact hd id o' o ho' ho
  rw[ZC B _ id h2]
  exact key A _ _ (ZC B hp id h2).symm
 ·have h2:∀ o,(id,o)∉A:=fun o ho=>h1 ⟨o,ho⟩
  rw[ZC A _ id h2]
  exact key B _ _ (ZC A hp id h2)
theorem Zu7 {hp:Hp} {v:AV} {q:D×Bool×List Nat} (h:Zdb hp v=some q):∀ i∈q.2.2,i∈Zq v:=by
 intro i hi
 cases v<;>simp only[Zdb] at h<;>first | (cases h;simp at hi;done) | (cases h;done) | skip
 obtain⟨p,_,h⟩:=Za h
 cases h
 simpa [Zq] using hi
theorem ZnB {hp:Hp}:∀ {vs:List AV} {q:List D×Bool×List Nat},Uw hp vs=some q→∀ i∈q.2.2,i∈vs.flatMap Zq
 | [],q,h,i,hi=>by simp only[Uw] at h;cases h;simp at hi
 | v :: vs,q,h,i,hi=>by
  simp only[Uw] at h
  obtain⟨q1,h1,h⟩:=Za h
  obtain⟨q2,h2,h⟩:=Za h
  split at h
  ·cases h
   rcases List.mem_append.1 hi with hi | hi
   ·exact List.mem_flatMap.2 ⟨v,by simp,Zu7 h1 i hi⟩
   ·obtain⟨c,hc,hci⟩:=List.mem_flatMap.1 (ZnB h2 i hi)
    exact List.mem_flatMap.2 ⟨c,by simp[hc],hci⟩
  ·cases h
theorem ZyE {hp:Hp} {slc:List (Option Nat)} {s base:Nat} {vs:List AV} {x:AV} {e:Eff} (h:ZbR hp slc s base vs x=some e):∃ id o,W9 x=some id∧e.val=.junk∧e.sets=[(id,o)]∧e.dels=[]∧∀ i∈e.frz,i∈vs.flatMap Zq:=by
 cases x<;>simp only[ZbR] at h<;>first | cases h | skip
 case ptr id off=>
  unfold Zfl at h
  split at h
  ·split at h
   ·split at h<;>(cases h;exact⟨id,_,rfl,rfl,rfl,rfl,fun i hi=>by simp at hi⟩)
   ·cases h
  ·cases h
 case prow id sz i off=>
  unfold ZdS at h
  split at h
  ·split at h
   ·obtain⟨x,_,h⟩:=Za h
    obtain⟨q,hq,h⟩:=Za h
    unfold Zfm at h
    split at h
    ·cases h;exact⟨id,_,rfl,rfl,rfl,rfl,ZnB hq⟩
    ·cases h
   ·cases h
  ·cases h
def FzEq (o o' : Option Zt):Prop:=∃ b:Bool,o'=o.map fun x=>if b then WM x else x
theorem FzEq.seen {o o' : Option Zt} (h:FzEq o o'):ZdN [] o o':=by
 obtain⟨b,rfl⟩:=h
 have hk:∀ x:Zt,YB [] x=x:=fun x=>by
  cases x with
  | box cs=>simp only[YB];congr 1;rw[List.map_congr_left (g:=id) (fun a _=>Zfc a),List.map_id]
  | row _ _ _ _=>rfl
  | deep _ _ _ l=>cases l<;>simp[YB,Zhn]
 have:=Zvd (g:=[]) (b:=b) o
 have e:(o.map (YB []))=o:=by cases o<;>simp[hk]
 rw[e] at this
 exact this
theorem vop_fz {C:Orc} {M:Zu} {sl:Sl} {hp hp' : Hp} {base:Nat} {c:COp} (hc:Za3 c=true) (h:∀ x∈ZT c,∀ k∈ZJ (evO sl x),FzEq (lkp hp k) (lkp hp' k)):vop C M sl hp' base c=vop C M sl hp base c:=by
 have hs:∀ x∈ZT c,Zlp [] hp hp' (evO sl x):=fun x hx k hk=>(h x hx k hk).seen
 cases c<;>simp only[Za3,Bool.false_eq_true] at hc<;>simp only[ZT] at h hs<;>simp only[vop]
 case load g s a=>
  have h1:=h a (by simp)
  have h2:=hs a (by simp)
  cases hv:evO sl a<;>rw[hv] at h1 h2<;>simp only[JU]
  case ptr id off=>
   obtain⟨b,e⟩:=h1 id (by simp[ZJ,ZK,Zq])
   rw[e]
   cases lkp hp id with
   | none=>rfl
   | some o=>cases o<;>cases b<;>rfl
  case prow id sz i off=>
   obtain⟨b,e⟩:=h1 id (by simp[ZJ,ZK,Zq])
   rw[e]
   cases lkp hp id with
   | none=>rfl
   | some o=>cases o<;>cases b<;>rfl
 case slice s x lo hi=>rw[Zht (hs x (by simp))]
 case slice0 x hi mx=>unfold slice0;rw[Zfg (hs x (by simp))]
 case iaS s x i=>
  congr 1
  funext n
  simp only[ZhB]
  rw[ZcW (hs x (by simp))]
 case len x=>rw[Zfg (hs x (by simp))]
def Zll (sl:Sl) (a:COp):COp→Bool
 | .store _ _ x _=>Zgl sl a (W9 (evO sl x))
 | .append _ _ _ flat x y=>Zap sl a (evO sl x)&&(flat || seenSrc sl a (evO sl y))
 | _=>false
def LooseS (s:Sl) (a b:COp):Prop:=ZpV b=true∧(UH a=true∨(Za3 a=true∧Zll s a b=true))
theorem Zhr {sl:Sl} {id:Nat}:∀ {xs:List Opd},X9 sl id xs=true→∀ x∈xs,Zd6 id (evO sl x)=true
 | [],_,x,hx=>by simp at hx
 | y :: ys,h,x,hx=>by
  simp only[X9,Bool.and_eq_true] at h
  rcases List.mem_cons.1 hx with rfl | hx
  ·exact h.1
  ·exact Zhr h.2 x hx
theorem Zpj {id:Nat} {v:AV} (h:Zd6 id v=true):id∉ZJ v:=by
 cases v with
 | tup vs=>cases vs with
  | nil=>simp[ZJ]
  | cons x r=>cases h
 | _=>simp[Zd6,ZJ,ZK,Zq] at h ⊢ <;> exact fun e=>h e.symm
theorem ZwK {hp:Hp} {sz by_ base:Nat} {str flat:Bool} {x y:AV} {e:Eff} (h:Ji hp sz by_ str flat base x y=some e):e.sets=[]∧e.frz=[]∧((x=.nil∧e.dels=[])∨∃ id,e.dels=[id]∧(x=.own id∨∃ o n,x=.ownv id o n)):=by
 unfold Ji at h
 obtain⟨q,_,h⟩:=Za h
 split at h
 ·cases x<;>simp only[Zhy] at h<;>first | (cases h;done) | skip
  ·split at h
   ·cases h;exact⟨rfl,rfl,.inl ⟨rfl,rfl⟩⟩
   ·cases h
  ·split at h
   ·cases h
   ·unfold ZmM at h
    split at h
    ·split at h
     ·cases h;exact⟨rfl,rfl,.inr ⟨_,rfl,.inl rfl⟩⟩
     ·cases h
    ·cases h
  ·split at h
   ·cases h
   ·split at h
    ·unfold Zi2 at h
     split at h
     ·split at h
      ·cases h;exact⟨rfl,rfl,.inr ⟨_,rfl,.inr ⟨_,_,rfl⟩⟩⟩
      ·cases h
     ·cases h
    ·unfold Zi1 at h
     split at h
     ·split at h
      ·cases h;exact⟨rfl,rfl,.inr ⟨_,rfl,.inr ⟨_,_,rfl⟩⟩⟩
      ·cases h
     ·cases h
 ·cases h
theorem Zpk {hp:Hp} {x:AV} {k:Nat} (h:k∈Vp hp x):x=.own k:=by
 unfold Vp at h
 split at h
 ·split at h
  ·simp at h;subst h;rfl
  ·simp at h
 ·simp at h
theorem ZzY {hp:Hp} {sz by_ base:Nat} {str flat:Bool} {x y:AV} {e:Eff} (h:Zfq hp sz by_ str flat base y x=some e):e.frz=[] ∧
  ((e.sets=[]∧∀ k∈e.dels,(x=.own k∨∃ o n,x=.ownv k o n)∨(flat=false∧y=.own k))∨∃ id nm o,x=.sub id nm∧e.dels=[]∧e.sets=[(id,o)]):=by
 unfold Zfq at h
 split at h
 ·split at h
  ·cases h
  ·obtain⟨q,_,h⟩:=Za h
   split at h
   ·cases h
   ·unfold ZkJ at h
    split at h
    ·obtain⟨fl,_,h⟩:=Za h
     split at h
     ·cases h;exact⟨rfl,.inr ⟨_,_,_,rfl,rfl,rfl⟩⟩
     ·cases h
    ·cases h
 ·have plain:∀ {hp' : Hp} {e:Eff},Ji hp' sz by_ str flat base x y=some e→e.sets=[]∧e.frz=[]∧∀ k∈e.dels,x=.own k∨∃ o n,x=.ownv k o n:=by
   intro hp' e h
   obtain⟨g1,g2,g3⟩:=ZwK h
   refine⟨g1,g2,fun k hk=>?_⟩
   rcases g3 with ⟨_,g3⟩ | ⟨id,g3,g4⟩
   ·rw[g3] at hk;simp at hk
   ·rw[g3] at hk;simp at hk;subst hk;exact g4
  generalize hm:Vp hp x++Vp hp y=ms at h
  cases ms with
  | nil=>
   simp only[WO] at h
   obtain⟨g1,g2,g3⟩:=plain h
   exact⟨g2,.inl ⟨g1,fun k hk=>.inl (g3 k hk)⟩⟩
  | cons i r=>
   simp only[WO] at h
   split at h
   ·cases h
   ·rename_i hfl
    obtain⟨e0,h1,h⟩:=Za h
    cases h
    obtain⟨g1,g2,g3⟩:=plain h1
    refine⟨g2,.inl ⟨g1,fun k hk=>?_⟩⟩
    rcases List.mem_append.1 hk with hk | hk
    ·exact .inl (g3 k hk)
    ·rw[← hm] at hk
     rcases List.mem_append.1 hk with hk | hk
     ·exact .inl (.inl (Zpk hk))
     ·exact .inr ⟨by simpa using hfl,Zpk hk⟩
theorem Zpl {ds:List Nat} {l:Hp} {k:Nat} (h:k∈ds):lkp (Qv l ds) k=none:=by
 cases hl:lkp (Qv l ds) k with
 | none=>rfl
 | some o=>exact absurd h (ZbV ds l k o hl).2
theorem ZBZ {C:Orc} {M:Zu} {sl:Sl} {hp:Hp} {base:Nat} {c:COp} {ce:Zf} (hc:ZpV c=true) (h:vop C M sl hp base c=some ce) :
  ce.gone=[]∧(∀ k,k∈ce.eff.dels∨(∃ o,(k,o)∈ce.eff.sets)→(∃ x∈ZT c,k∈ZJ (evO sl x))∧∀ a,Zll sl a c=true→X9 sl k (ZT a)=true)∧∀ k∈ce.eff.frz,∃ x∈ZT c,k∈ZJ (evO sl x):=by
 cases c<;>first | (cases hc;done) | skip
 case store slc sz x y=>
  simp only[vop,Zhk] at h
  obtain⟨e,h7,h⟩:=Za h
  cases h
  obtain⟨id,o,ht,g1,g2,g3,g4⟩:=ZyE h7
  refine⟨rfl,fun k hk=>?_,fun k hk=>⟨y,by simp[ZT],Zu2 (U:=fun k=>k∈ZJ (evO sl y)) (fun _ h=>h) k (g4 k hk)⟩⟩
  have hki:k=id:=by
   rcases hk with hk | ⟨o',hk⟩
   ·simp only[g3,List.not_mem_nil] at hk
   ·simp only[g2,List.mem_singleton,Prod.mk.injEq] at hk
    exact hk.1
  subst hki
  refine⟨⟨x,by simp[ZT],?_⟩,fun a ha=>?_⟩
  ·cases hv:evO sl x<;>rw[hv] at ht<;>simp only[W9] at ht<;>cases ht<;>simp[ZJ,ZK,Zq]
  ·simp only[Zll,ht,Zgl] at ha
   exact ha
 case append sz by_ str flat x y=>
  simp only[vop,ZtS,Zhk] at h
  obtain⟨e,h7,h⟩:=Za h
  cases h
  obtain⟨g2,g3⟩:=ZzY h7
  refine⟨rfl,fun k hk=>?_,fun k hk=>by simp only[g2,List.not_mem_nil] at hk⟩
  rcases g3 with ⟨g1,g3⟩ | ⟨id,nm,o,g4,g3,g1⟩
  ·have hkd:k∈e.dels:=by
    rcases hk with hk | ⟨o',hk⟩
    ·exact hk
    ·simp only[g1,List.not_mem_nil] at hk
   rcases g3 k hkd with g4 | ⟨g4,g5⟩
   ·refine⟨⟨x,by simp[ZT],?_⟩,fun a ha=>?_⟩
    ·rcases g4 with g4 | ⟨o,n,g4⟩<;>rw[g4]<;>simp[ZJ,ZK,Zq]
    ·simp only[Zll,Bool.and_eq_true] at ha
     rcases g4 with g4 | ⟨o,n,g4⟩<;>rw[g4] at ha<;>exact ha.1
   ·refine⟨⟨y,by simp[ZT],by rw[g5];simp[ZJ,ZK,Zq]⟩,fun a ha=>?_⟩
    simp only[Zll,Bool.and_eq_true,g4,Bool.false_or] at ha
    rw[g5] at ha
    exact ha.2
  ·have hkd:k=id:=by
    rcases hk with hk | ⟨o',hk⟩
    ·simp only[g3,List.not_mem_nil] at hk
    ·simp only[g1,List.mem_singleton,Prod.mk.injEq] at hk;exact hk.1
   subst hkd
   refine⟨⟨x,by simp[ZT],by rw[g4];simp[ZJ,ZK,Zq]⟩,fun a ha=>?_⟩
   simp only[Zll,Bool.and_eq_true] at ha
   rw[g4] at ha
   exact ha.1
theorem ZwL {C:Orc} {M:Zu} {os:List CO} {nx i j:Nat} {oi oj:CO} (hoi:os[i]?=some oi) (hoj:os[j]?=some oj) (hti:Z2 os i=true) (hqj:Z2 os j=false) (hij:i≠j) (hap:Yl oj oi=true)
  (hops:∀ (k:Nat) (o:CO),os[k]?=some o→∀ x∈ZT o.op,Wk x=true) {s s1 s2:Sl×Hp} {U:Nat→Prop} (hs:Zju nt s U) (hfi:X8 U (nx+64*i)) (hfj:X8 U (nx+64*j)) (hl:LooseS s.1 oj.op oi.op)
  (h1:ZP C M os nx j s=some s1) (h2:ZP C M os nx i s1=some s2):∃ t1,ZP C M os nx i s=some t1∧∃ t2,ZP C M os nx j t1=some t2∧YC t2 s2:=by
 obtain⟨F,A,I,Γ,a,w,hsim⟩:=hs
 simp only[Yl,Bool.and_eq_true] at hap
 obtain⟨⟨ap1,ap2⟩,ap3⟩:=hap
 have good:∀ (k:Nat) (o:CO),os[k]?=some o→∀ x∈ZT o.op,Zlj U (evO s.1 x):=by
  intro k o ho x hx
  cases x with
  | t n=>exact hsim.good n
  | v y=>exact ZaS (hops k o ho _ hx)
  | f n=>exact⟨fun id hid=>by simp[evO,ZJ,ZK] at hid,fun f caps h c hc=>by cases h;simp at hc⟩
 simp only[ZP,hoj,Zj,hqj] at h1
 simp only[ZP,hoi,Zj,hti] at h2
 obtain⟨vj,aj,rfl,hj1,hj2⟩:=ZkB h1
 obtain⟨hst,hl⟩:=hl
 unfold ZX at h2
 obtain⟨b,hw,h2⟩:=Za h2
 have hw' : Qc s.1 oi.guard=some b:=by rw[← hw];exact(QO ap1).symm
 cases b with
 | false=>
  simp only[Bool.false_eq_true,if_false] at h2
  cases h2
  refine⟨(Zw s.1 oi.dst (.tup []),s.2),by simp only[ZP,hoi,Zj,ZX,hw',Bool.false_eq_true,if_false],?_⟩
  have e2:=hj2 (Zw s.1 oi.dst (.tup []),s.2) (QO ap3) (X4 C M s.2 (nx+64*j) (UE (o:=oj) ap3))
  exact⟨(Zw (Zw s.1 oi.dst (.tup [])) oj.dst vj,Zi s.2 aj),by simp only[ZP,hoj,Zj,hqj];exact e2,fun t=>(JR ap2 vj (.tup []) t).symm,fun id=>rfl⟩
 | true=>
  simp only[if_true] at h2
  obtain⟨ce,h3,h4,rfl⟩:=Xq h2
  have h3' : vop C M s.1 s.2 (nx+64*i) oi.op=some ce:=by
   have h5:=ZcA h3
   rw[← h5,X4 C M (Zi s.2 aj) (nx+64*i) (UE (o:=oi) ap1)]
   exact ZbO (hsim.agree (UF hfj hj1 s.2)) C M _ (good i oi hoi)
  have hoadds:=Jj h4
  obtain⟨k1,k2,k3⟩:=ZBZ hst h3'
  obtain⟨e,gn⟩:=ce
  simp only at k1 k2 k3
  subst k1
  have frzU:∀ k∈e.frz,U k:=fun k hk=>by
   obtain⟨x,hx,hk⟩:=k3 k hk
   exact(good i oi hoi x hx).1 k hk
  have putU:∀ k,k∈e.dels∨(∃ o,(k,o)∈e.sets)→U k:=fun k hk=>by
   obtain⟨⟨x,hx,hk⟩,_⟩:=k2 k hk
   exact(good i oi hoi x hx).1 k hk
  have hon:∀ s:Sl×Hp,Zf.on { eff:=e,gone:=[] } oi.dst s.1 s.2=(Zw s.1 oi.dst e.val,Zi (Zi (Qv (Ql e.frz s.2) e.dels) e.sets) e.adds):=by
   intro s
   rfl
  refine⟨Zf.on { eff:=e,gone:=[] } oi.dst s.1 s.2,?_,?_⟩
  ·simp only[ZP,hoi,Zj,ZX,hw',if_true,Vz,hti,UD]
   rw[h3',Zj,if_pos h4]
  ·have hagree:∀ k,U k→¬(k∈e.dels∨∃ o,(k,o)∈e.sets)→FzEq (lkp s.2 k) (lkp (Zi (Zi (Qv (Ql e.frz s.2) e.dels) e.sets) e.adds) k):=by
    intro k hk hne
    rw[not_or] at hne
    rw[← UF hfi hoadds _ k hk,ZC _ _ k (fun o ho=>hne.2 ⟨o,ho⟩),Uf _ _ k hne.1,Qj]
    exact⟨_,rfl⟩
   have e2:ZX C M nx j false oj (Zf.on { eff:=e,gone:=[] } oi.dst s.1 s.2)=some (Zw (Zf.on { eff:=e,gone:=[] } oi.dst s.1 s.2).1 oj.dst vj,Zi (Zf.on { eff:=e,gone:=[] } oi.dst s.1 s.2).2 aj):=by
    rw[hon]
    refine hj2 (Zw s.1 oi.dst e.val,Zi (Zi (Qv (Ql e.frz s.2) e.dels) e.sets) e.adds) (QO ap3) ?_
    rw[X4 C M _ (nx+64*j) (UE (o:=oj) ap3)]
    rcases hl with hl | ⟨hl1,hl2⟩
    ·exact Zlq hl
    ·refine vop_fz hl1 fun z hz k hk=>?_
     refine hagree k ((good j oj hoj z hz).1 k hk) fun hp=>?_
     exact Zpj (Zhr ((k2 k hp).2 _ hl2) z hz) hk
   refine⟨_,by simp only[ZP,hoj,Zj,hqj];exact e2,fun t=>?_,fun k=>?_⟩
   ·rw[hon,hon (Zw s.1 oj.dst vj,Zi s.2 aj)];exact(JR ap2 vj e.val t).symm
   ·rw[hon,hon (Zw s.1 oj.dst vj,Zi s.2 aj)]
    show lkp (Zi (Zi (Zi (Qv (Ql e.frz s.2) e.dels) e.sets) e.adds) aj) k=lkp (Zi (Zi (Qv (Ql e.frz (Zi s.2 aj)) e.dels) e.sets) e.adds) k
    have a1:∀ (B:Hp) (hp hp' : Hp),(∀ k,lkp hp k=lkp hp' k)→∀ k,lkp (Zi hp B) k=lkp (Zi hp' B) k:=fun B hp hp' h=>Zdj B h
    have notj:∀ k,U k→∀ o',(k,o')∉aj:=fun k hk o' ho'=>by
     have:=hj1 k o' ho'
     exact hfj k this.1 this.2 hk
    rw[Zsx (A:=e.adds) (B:=aj) (fun k x y hx hy=>by
     have:=hoadds k x hx
     have:=hj1 k y hy
     rcases Nat.lt_or_gt_of_ne hij with h | h<;>omega)]
    refine a1 e.adds _ _ (fun k=>?_) k
    rw[Zsx (A:=e.sets) (B:=aj) (fun k x y hx hy=>notj k (putU k (.inr ⟨x,hx⟩)) y hy) (Qv (Ql e.frz s.2) e.dels) k]
    refine a1 e.sets _ _ (fun k=>?_) k
    by_cases hd:k∈e.dels
    ·rw[ZC aj _ k (notj k (putU k (.inl hd))),Zpl hd,Zpl hd]
    ·rw[Uf _ _ k hd]
     rw[Qj]
     by_cases hk:∃ o',(k,o')∈aj
     ·obtain⟨o',ho'⟩:=hk
      rw[ZdP (hp':=s.2) ⟨o',ho'⟩]
      have hnf:k∉e.frz:=fun hf=>notj k (frzU k hf) o' ho'
      cases lkp (Zi s.2 aj) k<;>simp[hnf]
     ·have hk' : ∀ o',(k,o')∉aj:=fun o' ho'=>hk ⟨o',ho'⟩
      rw[ZC aj _ k hk',ZC aj _ k hk',Uf _ _ k hd,Qj]
theorem ZyF {C:Orc} {M:Zu} {os:List CO} {nx i j:Nat} {oi oj:CO} (hoi:os[i]?=some oi) (hoj:os[j]?=some oj) (hci:Zxd oi.op=true) (hqj:Z2 os j=false) (hij:i≠j) (hap:Yl oj oi=true)
  (hops:∀ (k:Nat) (o:CO),os[k]?=some o→∀ x∈ZT o.op,Wk x=true) {s s1 s2:Sl×Hp} {U:Nat→Prop} (hs:Zju nt s U) (hfi:X8 U (nx+64*i)) (hfj:X8 U (nx+64*j))
  (h1:ZP C M os nx j s=some s1) (h2:ZP C M os nx i s1=some s2):∃ t1,ZP C M os nx i s=some t1∧∃ t2,ZP C M os nx j t1=some t2∧YC t2 s2:=by
 have e:∀ s:Sl×Hp,ZP C M os nx i s=ZX C M nx i false oi s:=fun s=>by
  simp only[ZP,hoi,Zj]
  cases Z2 os i
  ·rfl
  ·exact ZyD hci s
 rw[e] at h2
 simp only[e]
 exact Zph hoi hoj hqj hij hap hops hs hfi hfj h1 h2
theorem ZtF {hp:Hp} {base s:Nat} {vs:List AV} {ce:Zf} (h:buildSl hp base s vs=some ce):ce.gone=[]:=by
 cases vs with
 | nil=>simp only[buildSl,Qs] at h;first | (cases h;rfl) | (split at h<;>first | (cases h;rfl) | cases h)
 | cons v r=>
  simp only[buildSl] at h
  obtain⟨q,_,h⟩:=Za h
  unfold Zw4 at h
  split at h
  ·cases h;rfl
  ·cases h
theorem Zu8 {C:Orc} {M:Zu} {sl:Sl} {hp:Hp} {base:Nat} {c:COp} {ce:Zf} (hc:Zgj c=true) (h:vop C M sl hp base c=some ce):ce.gone=[]:=by
 cases c<;>first | (cases hc;done) | skip
 ·simp only[vop] at h
  exact ZtF h
 ·simp only[vop,ZtS,Zhk] at h
  obtain⟨e,_,h⟩:=Za h;cases h;rfl
theorem ZyG {C:Orc} {M:Zu} {nx j:Nat} {oj:CO} {s s1:Sl×Hp} (hm:Wo oj.op=true) (h:ZX C M nx j false oj s=some s1) :
  ∃ v,s1=(Zw s.1 oj.dst v,s.2)∧∀ s'' : Sl×Hp,Qc s''.1 oj.guard=Qc s.1 oj.guard→(∀ x∈ZT oj.op,evO s''.1 x=evO s.1 x)→ZX C M nx j false oj s''=some (Zw s''.1 oj.dst v,s''.2):=by
 obtain⟨x,hx⟩:∃ x,oj.op=.move x:=by
  cases ho:oj.op<;>rw[ho] at hm<;>first | (cases hm;done) | exact⟨_,rfl⟩
 unfold ZX at h ⊢
 obtain⟨b,hw,h⟩:=Za h
 cases b with
 | true=>
  simp only[if_true,hx,UD,Bool.false_eq_true,if_false,vop] at h
  refine⟨evO s.1 x,?_,fun s'' g1 g2=>?_⟩
  ·cases h;rfl
  ·rw[g1,hw,Zj]
   have e:=g2 x (by rw[hx];simp[ZT])
   simp only[if_true,hx,UD,Bool.false_eq_true,if_false,vop,e]
   rfl
 | false=>
  simp only[Bool.false_eq_true,if_false] at h
  cases h
  refine⟨.tup [],rfl,fun s'' g1 g2=>?_⟩
  rw[g1,hw,Zj];rfl
theorem ZyH {C:Orc} {M:Zu} {os:List CO} {nx i j:Nat} {oi oj:CO} (hoi:os[i]?=some oi) (hoj:os[j]?=some oj) (hqj:Z2 os j=false) (hap:Yl oj oi=true)
  {s s1 s2:Sl×Hp} (hm:Wo oj.op=true) (hg:Zgj oi.op=true)
  (h1:ZP C M os nx j s=some s1) (h2:ZP C M os nx i s1=some s2):∃ t1,ZP C M os nx i s=some t1∧∃ t2,ZP C M os nx j t1=some t2∧YC t2 s2:=by
 simp only[Yl,Bool.and_eq_true] at hap
 obtain⟨⟨ap1,ap2⟩,ap3⟩:=hap
 simp only[ZP,hoj,Zj,hqj] at h1
 simp only[ZP,hoi,Zj] at h2
 obtain⟨vj,rfl,hj2⟩:=ZyG hm h1
 unfold ZX at h2
 obtain⟨b,hw,h2⟩:=Za h2
 have hw' : Qc s.1 oi.guard=some b:=by rw[← hw];exact(QO ap1).symm
 cases b with
 | false=>
  simp only[Bool.false_eq_true,if_false] at h2
  cases h2
  refine⟨(Zw s.1 oi.dst (.tup []),s.2),by simp only[ZP,hoi,Zj,ZX,hw',Bool.false_eq_true,if_false],?_⟩
  exact⟨(Zw (Zw s.1 oi.dst (.tup [])) oj.dst vj,s.2),by simp only[ZP,hoj,Zj,hqj];exact hj2 (Zw s.1 oi.dst (.tup []),s.2) (QO ap3) (UE (o:=oj) ap3),fun t=>(JR ap2 vj (.tup []) t).symm,fun id=>rfl⟩
 | true=>
  simp only[if_true] at h2
  obtain⟨ce,h3,h4,rfl⟩:=Xq h2
  have hgone:=Zu8 hg (ZcA h3)
  have h3' : UD C M nx i (Z2 os i) oi.op s.1 s.2=some ce:=by
   rw[← h3]
   unfold UD
   rw[X4 C M s.2 (nx+64*i) (UE (o:=oi) ap1)]
  have hon:∀ (sl:Sl) (hp:Hp),ce.on oi.dst sl hp=(Zw sl oi.dst ce.eff.val,ce.eff.on hp):=by
   intro sl hp
   unfold Zf.on
   rw[hgone];rfl
  refine⟨ce.on oi.dst s.1 s.2,?_,?_⟩
  ·simp only[ZP,hoi,Zj,ZX,hw',if_true,Vz]
   rw[h3',Zj,if_pos h4]
  ·rw[hon]
   refine⟨(Zw (Zw s.1 oi.dst ce.eff.val) oj.dst vj,ce.eff.on s.2),by simp only[ZP,hoj,Zj,hqj];exact hj2 (Zw s.1 oi.dst ce.eff.val,ce.eff.on s.2) (QO ap3) (UE (o:=oj) ap3),fun t=>?_,fun k=>?_⟩
   ·rw[hon];exact(JR ap2 vj ce.eff.val t).symm
   ·rw[hon]
theorem awayV_ptr {sl:Sl} {xs:List Opd} {v:AV} (h:Zd7 sl xs v=true) {k off:Nat} (e:v=.ptr k off):∀ z∈xs,k∉ZJ (evO sl z):=by
 subst e
 exact fun z hz=>Zpj (Zhr h z hz)
structure Zpm (r:Sl) (oX oY:CO):Prop where
 opd:∀ x∈ZT oX.op,okV (evO r x)=true
 dst:∀ t,oX.dst=some t→okV (gs r t)=true
 arg:∀ y∈ZmX oY.op,okV (evO r y)=true
 away:∀ y∈ZmX oY.op,∀ k off,evO r y=.ptr k off→∀ z∈ZT oX.op,k∉ZJ (evO r z)
theorem ZtG {sl:Sl}:∀ {xs:List Opd},okL sl xs=true→∀ x∈xs,okV (evO sl x)=true
 | [],_,x,hx=>by simp at hx
 | y :: ys,h,x,hx=>by
  simp only[okL,Bool.and_eq_true] at h
  rcases List.mem_cons.1 hx with rfl | hx
  ·exact h.1
  ·exact ZtG h.2 x hx
theorem Zsy {sl:Sl} {xs:List Opd}:∀ {ys:List Opd},ZhF sl xs ys=true→∀ y∈ys,Zd7 sl xs (evO sl y)=true
 | [],_,x,hx=>by simp at hx
 | y :: ys,h,x,hx=>by
  simp only[ZhF,Bool.and_eq_true] at h
  rcases List.mem_cons.1 hx with rfl | hx
  ·exact h.1
  ·exact Zsy h.2 x hx
theorem Zu9 {r:Sl} {oX oY:CO} (hm:Wo oX.op=false) (hc:Zcm oY.op=true) (h:ZaD r oX.dst oX.op oY.op=true):Zpm r oX oY:=by
 obtain⟨f,as,ho⟩:∃ f as,oY.op=.call (.f f) as:=by
  cases ho:oY.op<;>rw[ho] at hc<;>first | (cases hc;done) | skip
  rename_i f as
  cases f<;>first | (cases hc;done) | exact⟨_,_,rfl⟩
 rw[ho] at h
 have h' : (okL r (ZT oX.op)&&(okD r oX.dst&&(okL r as&&ZhF r (ZT oX.op) as)))=true:=by
  cases hx:oX.op<;>rw[hx] at h hm<;>first | (cases hm;done) | exact h
 simp only[Bool.and_eq_true] at h'
 obtain⟨h1,h2,h3,h4⟩:=h'
 refine⟨ZtG h1,fun t ht=>?_,?_,?_⟩
 ·rw[ht] at h2;exact h2
 ·rw[ho];exact ZtG h3
 ·rw[ho]
  intro y hy k off e
  exact awayV_ptr (Zsy h4 y hy) e
theorem Zpm.move {r r' : Sl} {oX oY:CO} (h:Zpm r oX oY) (h1:∀ n∈(ZT oX.op).flatMap ZcY,okV (gs r n)=true→gs r' n=gs r n) (h2:∀ n,oX.dst=some n→okV (gs r n)=true→gs r' n=gs r n)
  (h3:∀ n∈(ZmX oY.op).flatMap ZcY,okV (gs r n)=true→gs r' n=gs r n):Zpm r' oX oY:=by
 have e1:∀ x∈ZT oX.op,evO r' x=evO r x:=fun x hx=>by
  have ho:=h.opd x hx
  cases x with
  | t n=>exact h1 n (List.mem_flatMap.2 ⟨_,hx,by simp[ZcY]⟩) ho
  | _=>rfl
 have e3:∀ x∈ZmX oY.op,evO r' x=evO r x:=fun x hx=>by
  have ho:=h.arg x hx
  cases x with
  | t n=>exact h3 n (List.mem_flatMap.2 ⟨_,hx,by simp[ZcY]⟩) ho
  | _=>rfl
 refine⟨fun x hx=>by rw[e1 x hx];exact h.opd x hx,fun t ht=>by rw[h2 t ht (h.dst t ht)];exact h.dst t ht,fun x hx=>by rw[e3 x hx];exact h.arg x hx,fun y hy k off e z hz=>?_⟩
 rw[e3 y hy] at e
 rw[e1 z hz]
 exact h.away y hy k off e z hz
theorem Zpn {C:Orc} {M:Zu} {os:List CO} {nx x y:Nat} {oX oY:CO} (hox:os[x]?=some oX) (hoy:os[y]?=some oY) (hij:x≠y) (hap1:Q1 oY.dst (Wf oX)=true) (hap2:Q1 oX.dst (Wf oY)=true)
  (hselfX:Q1 oX.dst (Wf oX)=true) (hselfY:Q1 oY.dst (Wf oY)=true)
  (hops:∀ (k:Nat) (o:CO),os[k]?=some o→∀ x∈ZT o.op,Wk x=true) {s:Sl×Hp} {r:Sl} {U:Nat→Prop} (hs:Zju nt s U) (hfx:X8 U (nx+64*x)) (hfy:X8 U (nx+64*y))
  (hcall:Zcm oY.op=true) {ce:Zf} (hce:vop C M s.1 s.2 (nx+64*y) oY.op=some ce) (hok:Q8 (nx+64*y) (nx+64*y+64) ce.eff.adds=true)
  (hrel:∀ n,oX.dst≠some n→oY.dst≠some n→gs r n=kill ce.gone (gs s.1 n)) (hseen:Zpm r oX oY) :
  ce.eff.dels=[]∧(∀ z∈ZT oX.op,evO (ce.on oY.dst s.1 s.2).1 z=evO s.1 z)∧(∀ z∈ZT oX.op,∀ id∈ZJ (evO s.1 z),id∉ce.gone)∧(∀ z∈ZT oX.op,Zlp ce.gone s.2 (ce.on oY.dst s.1 s.2).2 (evO s.1 z)) ∧
  (∀ k,nx+64*x≤k→k<nx+64*x+64→(∀ o',(k,o')∉ce.eff.sets)∧(∀ o',(k,o')∉ce.eff.adds)∧k∉ce.eff.frz∧k∉ce.gone):=by
 obtain⟨F,A,I,Γ,a,w,hsim⟩:=hs
 have good:∀ (k:Nat) (o:CO),os[k]?=some o→∀ x∈ZT o.op,Zlj U (evO s.1 x):=by
  intro k o ho x hx
  cases x with
  | t n=>exact hsim.good n
  | v y=>exact ZaS (hops k o ho _ hx)
  | f n=>exact⟨fun id hid=>by simp[evO,ZJ,ZK] at hid,fun f caps h c hc=>by cases h;simp at hc⟩
 obtain⟨f,as,ho⟩:∃ f as,oY.op=.call (.f f) as:=by
  cases ho:oY.op<;>rw[ho] at hcall<;>first | (cases hcall;done) | skip
  rename_i f as
  cases f<;>first | (cases hcall;done) | exact⟨_,_,rfl⟩
 have hce':=hce
 rw[ho] at hce'
 simp only[vop,evO,Zd0,List.append_nil] at hce'
 obtain⟨k1,k2,k3,k4⟩:=ZyS hce'
 have lookX:∀ n,(Opd.t n)∈ZT oX.op→n∈Wf oX:=fun n hn=>List.mem_append.2 (.inl (List.mem_flatMap.2 ⟨_,hn,by simp[ZcY]⟩))
 have lookY:∀ n,(Opd.t n)∈as→n∈Wf oY:=fun n hn=>List.mem_append.2 (.inl (List.mem_flatMap.2 ⟨.t n,by rw[ho];simp[ZT,hn],by simp[ZcY]⟩))
 have ne:∀ {d:Option Nat} {l:List Nat} {n:Nat},Q1 d l=true→n∈l→d≠some n:=fun {d l n} h hn e=>by
  rw[e] at h
  simp only[Q1,Bool.not_eq_true',List.contains_eq_mem,decide_eq_false_iff_not] at h
  exact h hn
 have evX:∀ z∈ZT oX.op,evO r z=evO s.1 z∧∀ id∈ZJ (evO s.1 z),id∉ce.gone:=by
  intro z hz
  have hz':=hseen.opd z hz
  cases z with
  | t n=>
   have e:=hrel n (ne hselfX (lookX n hz)) (ne hap1 (lookX n hz))
   simp only[evO] at hz' ⊢
   rw[e] at hz' ⊢
   have:=ZdM hz'
   exact⟨this,Zz0 this⟩
  | v c=>
   have:=hops x oX hox _ hz
   simp only[Wk,Bool.and_eq_true,List.isEmpty_iff] at this
   exact⟨rfl,fun id hid=>by simp only[evO] at hid;rw[this.1] at hid;simp at hid⟩
  | f n=>simp only[evO,okV,okC] at hz';cases hz'
 have evY:∀ z∈as,evO r z=evO s.1 z:=by
  intro z hz
  have hz':=hseen.arg z (by rw[ho];exact hz)
  cases z with
  | t n=>
   have e:=hrel n (ne hap2 (lookY n hz)) (ne hselfY (lookY n hz))
   simp only[evO] at hz' ⊢
   rw[e] at hz' ⊢
   exact ZdM hz'
  | _=>rfl
 have inU:∀ id,(∃ o,lkp s.2 id=some o)→U id:=fun id ⟨o,h⟩=>hsim.id_in h
 have uX:∀ k,nx+64*x≤k→k<nx+64*x+64→¬U k:=fun k h1 h2=>hfx k h1 h2
 have hadds:=Jj hok
 have notSets:∀ z∈ZT oX.op,∀ k∈ZJ (evO s.1 z),∀ o',(k,o')∉ce.eff.sets:=by
  intro z hz k hk o' ho'
  rcases (k4 k o' ho').2 with h | ⟨v,hv,hkv⟩
  ·exact(evX z hz).2 k hk h
  ·obtain⟨y',hy',rfl⟩:=ZiV hv
   have hok':=hseen.arg y' (by rw[ho];exact hy')
   rw[evY y' hy'] at hok'
   cases hp:evO s.1 y' with
   | ptr a b=>
    rw[hp] at hkv
    simp only[Zcy,List.mem_singleton] at hkv
    subst hkv
    have:=hseen.away y' (by rw[ho];exact hy') k b (by rw[evY y' hy',hp]) z hz
    rw[(evX z hz).1] at this
    exact this hk
   | clo g cs=>rw[hp] at hok';simp only[okV,okC] at hok';cases hok'
   | _=>rw[hp] at hkv;simp[Zcy] at hkv
 refine⟨k1,fun z hz=>?_,fun z hz=>(evX z hz).2,fun z hz k hk=>?_,fun k g1 g2=>⟨fun o' ho'=>?_,fun o' ho'=>?_,fun hf=>?_,fun hg=>?_⟩⟩
 ·cases z with
  | t n=>
   show gs (Zw (XM ce.gone s.1) oY.dst ce.eff.val) n=gs s.1 n
   rw[QN,if_neg (ne hap1 (lookX n hz)),Q5]
   have e:=hrel n (ne hselfX (lookX n hz)) (ne hap1 (lookX n hz))
   have:=hseen.opd _ hz
   simp only[evO] at this
   rw[e] at this
   exact ZdM this
  | _=>rfl
 ·have hkU:U k:=(good x oX hox z hz).1 k hk
  show ZdN ce.gone (lkp s.2 k) (lkp (ce.eff.on (Wj ce.gone s.2)) k)
  unfold Eff.on
  rw[k1]
  simp only[Qv]
  rw[ZC,ZC,Qj,WE]
  ·exact Zvd _
  ·exact notSets z hz k hk
  ·intro o' ho'
   obtain⟨h1,h2⟩:=hadds k o' ho'
   exact hfy k h1 h2 hkU
 ·exact uX k g1 g2 (inU k (k4 k o' ho').1)
 ·have:=hadds k o' ho'
  rcases Nat.lt_or_gt_of_ne hij with h | h<;>omega
 ·obtain⟨v,hv,hkv⟩:=k2 k hf
  obtain⟨y',hy',rfl⟩:=ZiV hv
  exact uX k g1 g2 ((good y oY hoy y' (by rw[ho];simp[ZT,hy'])).1 k hkv)
 ·exact uX k g1 g2 (inU k (k3 k hg))
theorem ZwM {C:Orc} {M:Zu} {os:List CO} {nx i j:Nat} {oi oj:CO} (hoi:os[i]?=some oi) (hoj:os[j]?=some oj) (hqj:Z2 os j=false) (hij:i≠j) (hap:Yl oj oi=true)
  (hselfX:Q1 oj.dst (Wf oj)=true) (hselfY:Q1 oi.dst (Wf oi)=true)
  (hops:∀ (k:Nat) (o:CO),os[k]?=some o→∀ x∈ZT o.op,Wk x=true) {s s1 s2:Sl×Hp} {U:Nat→Prop} (hs:Zju nt s U) (hfi:X8 U (nx+64*i)) (hfj:X8 U (nx+64*j))
  (hcall:Zcm oi.op=true) (hah:ZpX oj.op=true) (hseen:Zpm s2.1 oj oi) {t:Nat} (ht:oj.dst=some t)
  (h1:ZP C M os nx j s=some s1) (h2:ZP C M os nx i s1=some s2):∃ t1,ZP C M os nx i s=some t1∧∃ t2,ZP C M os nx j t1=some t2∧YC t2 s2:=by
 have hs':=hs
 obtain⟨F,A,I,Γ,a,w,hsim⟩:=hs'
 simp only[Yl,Bool.and_eq_true] at hap
 obtain⟨⟨ap1,ap2⟩,ap3⟩:=hap
 have good:∀ (k:Nat) (o:CO),os[k]?=some o→∀ x∈ZT o.op,Zlj U (evO s.1 x):=by
  intro k o ho x hx
  cases x with
  | t n=>exact hsim.good n
  | v y=>exact ZaS (hops k o ho _ hx)
  | f n=>exact⟨fun id hid=>by simp[evO,ZJ,ZK] at hid,fun f caps h c hc=>by cases h;simp at hc⟩
 have stepj:∀ s:Sl×Hp,ZP C M os nx j s=ZX C M nx j false oj s:=fun s=>by simp only[ZP,hoj,Zj,hqj]
 rw[stepj] at h1
 simp only[ZP,hoi,Zj] at h2
 obtain⟨v,ax,hs1,hax,hX⟩:∃ v ax,s1=(Zw s.1 oj.dst v,Zi s.2 ax)∧(∀ k x,(k,x)∈ax→nx+64*j≤k∧k<nx+64*j+64) ∧
   ((Qc s.1 oj.guard=some false∧v=.tup []∧ax=[])∨(Qc s.1 oj.guard=some true∧∃ ce,ZmJ ce∧vop C M s.1 s.2 (nx+64*j) oj.op=some ce∧Q8 (nx+64*j) (nx+64*j+64) ce.eff.adds=true∧v=ce.eff.val∧ax=ce.eff.adds)):=by
  rcases ZwV h1 with ⟨g1,g2⟩ | ⟨g1,ce,g2,g3,g4,g5⟩
  ·exact⟨.tup [],[],g2,fun k x h=>by simp at h,.inl ⟨g1,rfl,rfl⟩⟩
  ·exact⟨ce.eff.val,ce.eff.adds,g5,Jj g4,.inr ⟨g1,ce,g2,g3,g4,rfl,rfl⟩⟩
 subst hs1
 unfold ZX at h2
 obtain⟨b,hw,h2⟩:=Za h2
 have hw' : Qc s.1 oi.guard=some b:=by rw[← hw];exact(QO ap1).symm
 cases b with
 | false=>
  simp only[Bool.false_eq_true,if_false] at h2
  cases h2
  refine⟨(Zw s.1 oi.dst (.tup []),s.2),by simp only[ZP,hoi,Zj];exact Vw hw',?_⟩
  refine⟨(Zw (Zw s.1 oi.dst (.tup [])) oj.dst v,Zi s.2 ax),?_,fun t=>(JR ap2 v (.tup []) t).symm,fun id=>rfl⟩
  rw[stepj]
  have hwj:Qc (Zw s.1 oi.dst (.tup [])) oj.guard=Qc s.1 oj.guard:=QO ap3
  rcases hX with ⟨g1,rfl,rfl⟩ | ⟨g1,ce,g2,g3,g4,rfl,rfl⟩
  ·exact Vw (s:=(Zw s.1 oi.dst (.tup []),s.2)) (hwj.trans g1)
  ·refine ZiX (s:=(Zw s.1 oi.dst (.tup []),s.2)) (hwj.trans g1) g2 ?_ g4
   rw[← g3]
   exact X4 C M s.2 (nx+64*j) (UE (o:=oj) ap3)
 | true=>
  simp only[if_true] at h2
  obtain⟨ce,h3,h4,rfl⟩:=Xq h2
  have hv1:vop C M s.1 s.2 (nx+64*i) oi.op=some ce:=by
   have h5:=ZcA h3
   rw[← h5,X4 C M (Zi s.2 ax) (nx+64*i) (UE (o:=oi) ap1)]
   exact ZbO (hsim.agree (UF hfj hax s.2)) C M _ (good i oi hoi)
  have h3' : UD C M nx i (Z2 os i) oi.op s.1 s.2=some ce:=by
   rw[← h3]
   unfold UD
   rw[X4 C M (Zi s.2 ax) (nx+64*i) (UE (o:=oi) ap1),ZbO (hsim.agree (UF hfj hax s.2)) C M _ (good i oi hoi)]
  have hrel:∀ n,oj.dst≠some n→oi.dst≠some n→gs (ce.on oi.dst (Zw s.1 oj.dst v) (Zi s.2 ax)).1 n=kill ce.gone (gs s.1 n):=fun n e1 e2=>by
   show gs (Zw (XM ce.gone (Zw s.1 oj.dst v)) oi.dst ce.eff.val) n=_
   rw[QN,if_neg e2,Q5,QN,if_neg e1]
  obtain⟨c1,c2,c3,c4,c5⟩:=Zpn (nt:=nt) hoj hoi (Ne.symm hij) ap3 ap1 hselfX hselfY hops hs hfj hfi hcall hv1 h4 hrel hseen
  have e0:gs (ce.on oi.dst (Zw s.1 oj.dst v) (Zi s.2 ax)).1 t=kill ce.gone v:=by
   show gs (Zw (XM ce.gone (Zw s.1 oj.dst v)) oi.dst ce.eff.val) t=_
   rw[QN,if_neg,Q5,QN,if_pos ht]
   intro e
   rw[ht,e] at ap2
   simp[ZbU] at ap2
  have hdst:kill ce.gone v=v:=by
   have h5:=hseen.dst t ht
   rw[e0] at h5
   exact ZdM h5
  have hokv:okV v=true:=by
   have h5:=hseen.dst t ht
   rw[e0,hdst] at h5
   exact h5
  refine⟨ce.on oi.dst s.1 s.2,?_,?_⟩
  ·simp only[ZP,hoi,Zj,ZX,hw',if_true,Vz]
   rw[h3',Zj,if_pos h4]
  ·have hwj:Qc (ce.on oi.dst s.1 s.2).1 oj.guard=Qc s.1 oj.guard:=by
    show Qc (Zw (XM ce.gone s.1) oi.dst ce.eff.val) oj.guard=_
    rw[QO ap3]
    exact ZiY fun q _=>Q5 _ _ _
   have hcase:(∀ k o,(k,o)∈ax→YB ce.gone o=o)∧ZX C M nx j false oj (ce.on oi.dst s.1 s.2)=some (Zw (ce.on oi.dst s.1 s.2).1 oj.dst v,Zi (ce.on oi.dst s.1 s.2).2 ax):=by
    rcases hX with ⟨g1,rfl,rfl⟩ | ⟨g1,cx,g2,g3,g4,rfl,rfl⟩
    ·exact⟨fun k o h=>by simp at h,Vw (hwj.trans g1)⟩
    ·obtain⟨e1,e2⟩:=ZyQ hah c2 c4 (fun k h6 h7=>(c5 k h6 h7).2.2.2) g3 g4 g2.frz hokv hdst
     exact⟨e2,ZiX (hwj.trans g1) g2 e1 g4⟩
   obtain⟨e3,e4⟩:=hcase
   refine⟨_,by rw[stepj];exact e4,?_⟩
   exact Zx3 (ce:=ce) (dX:=oj.dst) (dY:=oi.dst) (v:=v) (ax:=ax) (s:=s) ap2 c1 (fun k o ho=>by
    obtain⟨h6,h7⟩:=hax k o ho
    obtain⟨m1,m2,m3,_⟩:=c5 k h6 h7
    exact⟨m1,m2,m3⟩) e3 hdst
theorem Zva {C:Orc} {M:Zu} {os:List CO} {nx i j:Nat} {oi oj:CO} (hoi:os[i]?=some oi) (hoj:os[j]?=some oj) (hqi:Z2 os i=false) (hij:i≠j) (hap:Yl oj oi=true)
  (hselfX:Q1 oi.dst (Wf oi)=true) (hselfY:Q1 oj.dst (Wf oj)=true)
  (hops:∀ (k:Nat) (o:CO),os[k]?=some o→∀ x∈ZT o.op,Wk x=true) {s s1 s2:Sl×Hp} {U:Nat→Prop} (hs:Zju nt s U) (hfi:X8 U (nx+64*i)) (hfj:X8 U (nx+64*j))
  (hcall:Zcm oj.op=true) (hbe:ZlD oi.op=true) (hseen:Zpm s2.1 oi oj) {t:Nat} (ht:oi.dst=some t)
  (h1:ZP C M os nx j s=some s1) (h2:ZP C M os nx i s1=some s2):∃ t1,ZP C M os nx i s=some t1∧∃ t2,ZP C M os nx j t1=some t2∧YC t2 s2:=by
 have hs':=hs
 obtain⟨F,A,I,Γ,a,w,hsim⟩:=hs'
 simp only[Yl,Bool.and_eq_true] at hap
 obtain⟨⟨ap1,ap2⟩,ap3⟩:=hap
 have ap2' : ZbU oi.dst oj.dst=true:=by
  cases hd:oi.dst<;>cases he:oj.dst<;>rw[hd,he] at ap2<;>first | rfl | (simp only[ZbU,bne_iff_ne,ne_eq] at ap2 ⊢;exact fun e=>ap2 e.symm)
 have good:∀ (k:Nat) (o:CO),os[k]?=some o→∀ x∈ZT o.op,Zlj U (evO s.1 x):=by
  intro k o ho x hx
  cases x with
  | t n=>exact hsim.good n
  | v y=>exact ZaS (hops k o ho _ hx)
  | f n=>exact⟨fun id hid=>by simp[evO,ZJ,ZK] at hid,fun f caps h c hc=>by cases h;simp at hc⟩
 have stepi:∀ s:Sl×Hp,ZP C M os nx i s=ZX C M nx i false oi s:=fun s=>by simp only[ZP,hoi,Zj,hqi]
 rw[stepi] at h2
 simp only[ZP,hoj,Zj] at h1
 unfold ZX at h1
 obtain⟨b,hw,h1⟩:=Za h1
 cases b with
 | false=>
  simp only[Bool.false_eq_true,if_false] at h1
  cases h1
  have hwi:Qc (Zw s.1 oj.dst (.tup [])) oi.guard=Qc s.1 oi.guard:=QO ap1
  rcases ZwV h2 with ⟨g1,g2⟩ | ⟨g1,ce,g2,g3,g4,g5⟩
  ·subst g2
   refine⟨(Zw s.1 oi.dst (.tup []),s.2),by rw[stepi];exact Vw (hwi.symm.trans g1),(Zw (Zw s.1 oi.dst (.tup [])) oj.dst (.tup []),s.2),?_,fun t=>JR ap2' _ _ t,fun id=>rfl⟩
   simp only[ZP,hoj,Zj]
   exact Vw (s:=(Zw s.1 oi.dst (.tup []),s.2)) ((QO ap3).trans hw)
  ·subst g5
   refine⟨(Zw s.1 oi.dst ce.eff.val,Zi s.2 ce.eff.adds),?_,(Zw (Zw s.1 oi.dst ce.eff.val) oj.dst (.tup []),Zi s.2 ce.eff.adds),?_,fun t=>JR ap2' _ _ t,fun id=>rfl⟩
   ·rw[stepi]
    refine ZiX (hwi.symm.trans g1) g2 ?_ g4
    rw[← g3]
    exact(X4 C M s.2 (nx+64*i) (UE (o:=oi) ap1)).symm
   ·simp only[ZP,hoj,Zj]
    exact Vw (s:=(Zw s.1 oi.dst ce.eff.val,Zi s.2 ce.eff.adds)) ((QO ap3).trans hw)
 | true=>
  simp only[if_true] at h1
  obtain⟨ce,h3,h4,rfl⟩:=Xq h1
  have hv1:vop C M s.1 s.2 (nx+64*j) oj.op=some ce:=ZcA h3
  have hwi:Qc (ce.on oj.dst s.1 s.2).1 oi.guard=Qc s.1 oi.guard:=by
   show Qc (Zw (XM ce.gone s.1) oj.dst ce.eff.val) oi.guard=_
   rw[QO ap1]
   exact ZiY fun q _=>Q5 _ _ _
  obtain⟨v,ax,hs2,hax,hX⟩:∃ v ax,s2=(Zw (ce.on oj.dst s.1 s.2).1 oi.dst v,Zi (ce.on oj.dst s.1 s.2).2 ax)∧(∀ k x,(k,x)∈ax→nx+64*i≤k∧k<nx+64*i+64) ∧
    ((Qc s.1 oi.guard=some false∧v=.tup []∧ax=[])∨(Qc s.1 oi.guard=some true∧∃ cx,ZmJ cx∧vop C M (ce.on oj.dst s.1 s.2).1 (ce.on oj.dst s.1 s.2).2 (nx+64*i) oi.op=some cx∧Q8 (nx+64*i) (nx+64*i+64) cx.eff.adds=true∧v=cx.eff.val∧ax=cx.eff.adds)):=by
   rcases ZwV h2 with ⟨g1,g2⟩ | ⟨g1,cx,g2,g3,g4,g5⟩
   ·exact⟨.tup [],[],g2,fun k x h=>by simp at h,.inl ⟨hwi.symm.trans g1,rfl,rfl⟩⟩
   ·exact⟨cx.eff.val,cx.eff.adds,g5,Jj g4,.inr ⟨hwi.symm.trans g1,cx,g2,g3,g4,rfl,rfl⟩⟩
  subst hs2
  have hrel:∀ n,oi.dst≠some n→oj.dst≠some n→gs (Zw (ce.on oj.dst s.1 s.2).1 oi.dst v) n=kill ce.gone (gs s.1 n):=fun n e1 e2=>by
   rw[QN,if_neg e1]
   show gs (Zw (XM ce.gone s.1) oj.dst ce.eff.val) n=_
   rw[QN,if_neg e2,Q5]
  obtain⟨c1,c2,c3,c4,c5⟩:=Zpn (nt:=nt) hoi hoj hij ap1 ap3 hselfX hselfY hops hs hfi hfj hcall hv1 h4 hrel hseen
  have hokv:okV v=true:=by
   have h5:=hseen.dst t ht
   simp only[QN,if_pos ht] at h5
   exact h5
  have hcase:kill ce.gone v=v∧(∀ k o,(k,o)∈ax→YB ce.gone o=o)∧ZX C M nx i false oi s=some (Zw s.1 oi.dst v,Zi s.2 ax):=by
   rcases hX with ⟨g1,rfl,rfl⟩ | ⟨g1,cx,g2,g3,g4,rfl,rfl⟩
   ·exact⟨rfl,fun k o h=>by simp at h,Vw g1⟩
   ·obtain⟨e1,e2,e3⟩:=ZwU hbe c2 c4 c3 (fun k h6 h7=>(c5 k h6 h7).2.2.2) g3 g4 g2.frz hokv
    exact⟨e2,e3,ZiX g1 g2 e1 g4⟩
  obtain⟨hk,e3,e4⟩:=hcase
  refine⟨(Zw s.1 oi.dst v,Zi s.2 ax),by rw[stepi];exact e4,ce.on oj.dst (Zw s.1 oi.dst v) (Zi s.2 ax),?_,?_⟩
  ·simp only[ZP,hoj,Zj,ZX]
   have hwj:Qc (Zw s.1 oi.dst v) oj.guard=some true:=(QO ap3).trans hw
   simp only[hwj,Zj,if_true,Vz]
   have:UD C M nx j (Z2 os j) oj.op (Zw s.1 oi.dst v) (Zi s.2 ax)=some ce:=by
    rw[← h3]
    unfold UD
    rw[X4 C M (Zi s.2 ax) (nx+64*j) (UE (o:=oj) ap3),← ZbO (hsim.agree (UF hfi hax s.2)) C M _ (good j oj hoj)]
   rw[this,Zj,if_pos h4]
  ·exact(Zx3 (ce:=ce) (dX:=oi.dst) (dY:=oj.dst) (v:=v) (ax:=ax) (s:=s) ap2' c1 (fun k o ho=>by
    obtain⟨h6,h7⟩:=hax k o ho
    obtain⟨m1,m2,m3,_⟩:=c5 k h6 h7
    exact⟨m1,m2,m3⟩) e3 hk).symm
theorem Zf8 {C:Orc} {M:Zu} {nx j:Nat} {oj:CO} {x:Opd} (hx:oj.op=.move x) {s:Sl×Hp} {b:Bool} (hw:Qc s.1 oj.guard=some b) :
  ZX C M nx j false oj s=some (Zw s.1 oj.dst (if b then evO s.1 x else .tup []),s.2):=by
 unfold ZX
 rw[hw,Zj]
 cases b
 ·rfl
 ·simp only[if_true,hx,UD,Bool.false_eq_true,if_false,vop];rfl
theorem ZwN {C:Orc} {M:Zu} {os:List CO} {nx i j:Nat} {oi oj:CO} (hoi:os[i]?=some oi) (hoj:os[j]?=some oj) (hqj:Z2 os j=false) (hap:Yl oj oi=true)
  (hops:∀ (k:Nat) (o:CO),os[k]?=some o→∀ x∈ZT o.op,Wk x=true)
  {s s1 s2:Sl×Hp} (hm:Wo oj.op=true) {t:Nat} (ht:oj.dst=some t) (hok:okV (gs s2.1 t)=true)
  (h1:ZP C M os nx j s=some s1) (h2:ZP C M os nx i s1=some s2):∃ t1,ZP C M os nx i s=some t1∧∃ t2,ZP C M os nx j t1=some t2∧YC t2 s2:=by
 obtain⟨x,hx⟩:∃ x,oj.op=.move x:=by
  cases ho:oj.op<;>rw[ho] at hm<;>first | (cases hm;done) | exact⟨_,rfl⟩
 simp only[Yl,Bool.and_eq_true] at hap
 obtain⟨⟨ap1,ap2⟩,ap3⟩:=hap
 have stepj:∀ s:Sl×Hp,ZP C M os nx j s=ZX C M nx j false oj s:=fun s=>by simp only[ZP,hoj,Zj,hqj]
 rw[stepj] at h1
 obtain⟨bj,hwj⟩:∃ bj,Qc s.1 oj.guard=some bj:=by
  unfold ZX at h1
  obtain⟨b,hw,_⟩:=Za h1
  exact⟨b,hw⟩
 rw[Zf8 hx hwj] at h1
 have h1:=(Option.some.inj h1).symm
 subst h1
 simp only[ZP,hoi,Zj] at h2
 unfold ZX at h2
 obtain⟨b,hw,h2⟩:=Za h2
 have hw' : Qc s.1 oi.guard=some b:=by rw[← hw];exact(QO ap1).symm
 have nei:oi.dst≠some t:=fun e=>by rw[ht,e] at ap2;simp[ZbU] at ap2
 have lookX:∀ n,x=.t n→oi.dst≠some n:=fun n e h=>by
  rw[h] at ap3
  simp only[Q1,Bool.not_eq_true',List.contains_eq_mem,decide_eq_false_iff_not] at ap3
  exact ap3 (List.mem_append.2 (.inl (by rw[hx,e];simp[ZT,ZcY])))
 cases b with
 | false=>
  simp only[Bool.false_eq_true,if_false] at h2
  cases h2
  refine⟨(Zw s.1 oi.dst (.tup []),s.2),by simp only[ZP,hoi,Zj];exact Vw hw',?_⟩
  refine⟨_,by rw[stepj];exact Zf8 (s:=(Zw s.1 oi.dst (.tup []),s.2)) hx ((QO ap3).trans hwj),?_⟩
  have:evO (Zw s.1 oi.dst (.tup [])) x=evO s.1 x:=UE (o:=oj) ap3 x (by rw[hx];simp[ZT])
  simp only[this]
  exact⟨fun t=>(JR ap2 _ _ t).symm,fun id=>rfl⟩
 | true=>
  simp only[if_true] at h2
  obtain⟨ce,h3,h4,rfl⟩:=Xq h2
  have h3' : UD C M nx i (Z2 os i) oi.op s.1 s.2=some ce:=by
   rw[← h3]
   unfold UD
   rw[X4 C M s.2 (nx+64*i) (UE (o:=oi) ap1)]
  refine⟨ce.on oi.dst s.1 s.2,by simp only[ZP,hoi,Zj,ZX,hw',if_true,Vz];rw[h3',Zj,if_pos h4],?_⟩
  have hwj2:Qc (ce.on oi.dst s.1 s.2).1 oj.guard=some bj:=by
   show Qc (Zw (XM ce.gone s.1) oi.dst ce.eff.val) oj.guard=_
   rw[QO ap3,← hwj]
   exact ZiY fun q _=>Q5 _ _ _
  refine⟨_,by rw[stepj];exact Zf8 hx hwj2,?_⟩
  have e0:gs (ce.on oi.dst (Zw s.1 oj.dst (if bj then evO s.1 x else .tup [])) s.2).1 t=kill ce.gone (if bj then evO s.1 x else .tup []):=by
   show gs (Zw (XM ce.gone (Zw s.1 oj.dst _)) oi.dst ce.eff.val) t=_
   rw[QN,if_neg nei,Q5,QN,if_pos ht]
  rw[e0] at hok
  have hk:=ZdM hok
  have ev:(if bj then evO (ce.on oi.dst s.1 s.2).1 x else .tup [])=(if bj then evO s.1 x else .tup []):=by
   cases bj with
   | false=>rfl
   | true=>
    simp only[if_true] at hk ⊢
    cases x with
    | t n=>
     show gs (Zw (XM ce.gone s.1) oi.dst ce.eff.val) n=gs s.1 n
     rw[QN,if_neg (lookX n rfl),Q5]
     exact hk
    | _=>rfl
  rw[ev]
  refine⟨fun q=>?_,fun id=>rfl⟩
  show gs (Zw (Zw (XM ce.gone s.1) oi.dst ce.eff.val) oj.dst _) q=gs (Zw (XM ce.gone (Zw s.1 oj.dst _)) oi.dst ce.eff.val) q
  simp only[QN,Q5]
  by_cases hq:oj.dst=some q
  ·have:¬oi.dst=some q:=fun e=>by rw[hq,e] at ap2;simp[ZbU] at ap2
   simp only[hq,if_true,this,if_false]
   exact hk.symm
  ·simp[hq]
theorem ZwO {C:Orc} {M:Zu} {os:List CO} {nx i j:Nat} {oi oj:CO} (hoi:os[i]?=some oi) (hoj:os[j]?=some oj) (hqi:Z2 os i=false) (hap:Yl oj oi=true)
  (hops:∀ (k:Nat) (o:CO),os[k]?=some o→∀ x∈ZT o.op,Wk x=true)
  {s s1 s2:Sl×Hp} (hm:Wo oi.op=true) {t:Nat} (ht:oi.dst=some t) (hok:okV (gs s2.1 t)=true)
  (h1:ZP C M os nx j s=some s1) (h2:ZP C M os nx i s1=some s2):∃ t1,ZP C M os nx i s=some t1∧∃ t2,ZP C M os nx j t1=some t2∧YC t2 s2:=by
 obtain⟨x,hx⟩:∃ x,oi.op=.move x:=by
  cases ho:oi.op<;>rw[ho] at hm<;>first | (cases hm;done) | exact⟨_,rfl⟩
 simp only[Yl,Bool.and_eq_true] at hap
 obtain⟨⟨ap1,ap2⟩,ap3⟩:=hap
 have stepi:∀ s:Sl×Hp,ZP C M os nx i s=ZX C M nx i false oi s:=fun s=>by simp only[ZP,hoi,Zj,hqi]
 rw[stepi] at h2
 simp only[ZP,hoj,Zj] at h1
 unfold ZX at h1
 obtain⟨b,hw,h1⟩:=Za h1
 have lookX:∀ n,x=.t n→oj.dst≠some n:=fun n e h=>by
  rw[h] at ap1
  simp only[Q1,Bool.not_eq_true',List.contains_eq_mem,decide_eq_false_iff_not] at ap1
  exact ap1 (List.mem_append.2 (.inl (by rw[hx,e];simp[ZT,ZcY])))
 have fin:∀ (bi:Bool) (e:evO s1.1 x=evO s.1 x∨bi=false) (g1:Qc s.1 oi.guard=some bi) (g2:Qc s1.1 oi.guard=some bi),s2=(Zw s1.1 oi.dst (if bi then evO s.1 x else .tup []),s1.2):=by
  intro bi e g1 g2
  rw[Zf8 hx g2] at h2
  rw[← Option.some.inj h2]
  rcases e with e | e
  ·rw[e]
  ·rw[e];rfl
 cases b with
 | false=>
  simp only[Bool.false_eq_true,if_false] at h1
  cases h1
  have hwi:Qc (Zw s.1 oj.dst (.tup [])) oi.guard=Qc s.1 oi.guard:=QO ap1
  obtain⟨bi,hbi⟩:∃ bi,Qc s.1 oi.guard=some bi:=by
   unfold ZX at h2
   obtain⟨b,hw,_⟩:=Za h2
   exact⟨b,hwi.symm.trans hw⟩
  have e:evO (Zw s.1 oj.dst (.tup [])) x=evO s.1 x:=UE (o:=oi) ap1 x (by rw[hx];simp[ZT])
  have h5:=fin bi (.inl e) hbi (hwi.trans hbi)
  subst h5
  refine⟨_,by rw[stepi];exact Zf8 hx hbi,(Zw (Zw s.1 oi.dst (if bi then evO s.1 x else .tup [])) oj.dst (.tup []),s.2),?_,fun t=>?_,fun id=>rfl⟩
  ·simp only[ZP,hoj,Zj]
   exact Vw (s:=(Zw s.1 oi.dst (if bi then evO s.1 x else .tup []),s.2)) ((QO ap3).trans hw)
  ·exact(JR ap2 _ _ t).symm
 | true=>
  simp only[if_true] at h1
  obtain⟨ce,h3,h4,rfl⟩:=Xq h1
  have hwi:Qc (ce.on oj.dst s.1 s.2).1 oi.guard=Qc s.1 oi.guard:=by
   show Qc (Zw (XM ce.gone s.1) oj.dst ce.eff.val) oi.guard=_
   rw[QO ap1]
   exact ZiY fun q _=>Q5 _ _ _
  obtain⟨bi,hbi⟩:∃ bi,Qc s.1 oi.guard=some bi:=by
   unfold ZX at h2
   obtain⟨b,hw,_⟩:=Za h2
   exact⟨b,hwi.symm.trans hw⟩
  have h2':=h2
  rw[Zf8 hx (hwi.trans hbi)] at h2'
  have h6:=Option.some.inj h2'
  have hv:okV (if bi then evO (ce.on oj.dst s.1 s.2).1 x else .tup [])=true:=by
   rw[← h6] at hok
   simp only[QN,if_pos ht] at hok
   exact hok
  have hkv:kill ce.gone (if bi then evO s.1 x else .tup [])=(if bi then evO s.1 x else .tup [])∧(evO (ce.on oj.dst s.1 s.2).1 x=evO s.1 x∨bi=false):=by
   cases bi with
   | false=>exact⟨rfl,.inr rfl⟩
   | true=>
    simp only[if_true] at hv ⊢
    cases x with
    | t n=>
     have e:evO (ce.on oj.dst s.1 s.2).1 (.t n)=kill ce.gone (gs s.1 n):=by
      show gs (Zw (XM ce.gone s.1) oj.dst ce.eff.val) n=_
      rw[QN,if_neg (lookX n rfl),Q5]
     rw[e] at hv ⊢
     have:=ZdM hv
     exact⟨this,.inl this⟩
    | v c=>
     have hc:=hops i oi hoi (.v c) (by rw[hx];simp[ZT])
     simp only[Wk,Bool.and_eq_true,List.isEmpty_iff] at hc
     exact⟨Zx1 hv fun id hid=>by simp only[evO] at hid;rw[hc.1] at hid;simp at hid,.inl rfl⟩
    | f n=>simp only[evO,okV,okC] at hv;cases hv
  have h5:=fin bi hkv.2 hbi (hwi.trans hbi)
  subst h5
  refine⟨_,by rw[stepi];exact Zf8 hx hbi,ce.on oj.dst (Zw s.1 oi.dst (if bi then evO s.1 x else .tup [])) s.2,?_,fun q=>?_,fun id=>rfl⟩
  ·simp only[ZP,hoj,Zj,ZX]
   have hwj:Qc (Zw s.1 oi.dst (if bi then evO s.1 x else .tup [])) oj.guard=some true:=(QO ap3).trans hw
   simp only[hwj,Zj,if_true,Vz]
   have:UD C M nx j (Z2 os j) oj.op (Zw s.1 oi.dst (if bi then evO s.1 x else .tup [])) s.2=some ce:=by
    rw[← h3]
    unfold UD
    rw[X4 C M s.2 (nx+64*j) (UE (o:=oj) ap3)]
   rw[this,Zj,if_pos h4]
  ·show gs (Zw (XM ce.gone (Zw s.1 oi.dst _)) oj.dst ce.eff.val) q=gs (Zw (Zw (XM ce.gone s.1) oj.dst ce.eff.val) oi.dst _) q
   simp only[QN,Q5]
   by_cases hq:oi.dst=some q
   ·have:¬oj.dst=some q:=fun e=>by rw[hq,e] at ap2;simp[ZbU] at ap2
    simp only[hq,if_true,this,if_false]
    exact hkv.1
   ·simp[hq]
theorem ZxZ {C:Orc} {M:Zu} (hC:QH P C) {ops:Array Oper} {os:List CO} (hos:QV (ZnQ P nt ops.toList) ops.toList=some os) {nx i:Nat} {ks:List Nat} {oi:CO} (hoi:os[i]?=some oi)
  (hops:∀ (k:Nat) (o:CO),os[k]?=some o→∀ x∈ZT o.op,Wk x=true) :
  ∀ (js:List Nat) {s r:Sl×Hp} {U:Nat→Prop},Zju nt s U→X8 U (nx+64*i)→(∀ j∈js,X8 U (nx+64*j))→(js++i :: ks).Pairwise (· < ·) →
   (∀ j∈js,∃ oj,os[j]?=some oj∧Yl oj oi=true∧((Z2 os j=false∧(Z2 os i=true→Zxd oi.op=true∨(ZpV oi.op=true∧(UH oj.op=true∨(Za3 oj.op=true∧ZcZ os j=true∧ZcZ os i=true∧Zll r.1 oj.op oi.op=true)))∨(Wo oj.op=true∧Zgj oi.op=true)∨(Wo oj.op=true∧Zoj os j=true∧okD r.1 oj.dst=true) ∨
    (Wo oj.op=false∧Zcm oi.op=true∧ZpX oj.op=true∧ZcZ os j=true∧ZcZ os i=true∧Zoj os j=true∧ZaD r.1 oj.dst oj.op oi.op=true))) ∨
    (Z2 os j=true∧Z2 os i=false∧Wo oi.op=true∧Zoj os i=true∧okD r.1 oi.dst=true) ∨
    (Z2 os j=true∧Z2 os i=false∧Wo oi.op=false∧Zcm oj.op=true∧ZlD oi.op=true∧ZcZ os j=true∧ZcZ os i=true∧Zoj os i=true∧ZaD r.1 oi.dst oi.op oj.op=true))) →
   (∀ j∈js++i :: ks,j<os.length)→Zf7 C M os nx (js++i :: ks) s=some r →
   ∃ s',ZP C M os nx i s=some s'∧∃ r',Zf7 C M os nx (js++ks) s'=some r'∧YC r' r
 | [],s,r,U,_,_,_,_,_,_,h=>by
  simp only[List.nil_append,Zf7] at h ⊢
  obtain⟨s',h1,h⟩:=Za h
  exact⟨s',h1,r,h,YC.refl r⟩
 | j :: js,s,r,U,hs,hfi,hfj,hsort,hj,hlt,h=>by
  have hrun:=h
  simp only[List.cons_append,Zf7] at h
  obtain⟨s1,h1,h⟩:=Za h
  have hsort':=hsort
  simp only[List.cons_append,List.pairwise_cons] at hsort
  have hji:j<i:=hsort.1 i (by simp)
  have hij:i≠j:=by omega
  have hs1:=ZwI hC hos hs (hfj j (by simp)) h1
  have hjn:∀ k∈js,k≠j:=fun k hk e=>by
   have:=hsort.1 k (by simp[hk]);omega
  obtain⟨s2,h2,r2,h3,h4⟩:=ZxZ hC hos hoi hops js hs1 (Zsw hij hfi) (fun k hk=>Zsw (hjn k hk) (hfj k (by simp[hk]))) hsort.2 (fun k hk=>hj k (by simp[hk])) (fun k hk=>hlt k (by simp only[List.cons_append,List.mem_cons];exact .inr hk)) h
  obtain⟨oj,hoj,hap,hkind⟩:=hj j (by simp)
  have steadyD:∀ {k q n:Nat} {o:CO},ZcZ os k=true→os[k]?=some o→k≤q→q<os.length→n∈Wf o→Q1 (ZaI os q) [n]=true:=by
   intro k q n o hst ho hkq hq hn
   have:=List.all_eq_true.1 hst q (List.mem_range.2 hq)
   simp only[Zt2,ho,Bool.or_eq_true,decide_eq_true_eq] at this
   rcases this with h | h
   ·omega
   ·cases hd:ZaI os q with
    | none=>rfl
    | some d=>
     rw[hd] at h
     simp only[Q1,Bool.not_eq_true',List.contains_eq_mem,decide_eq_false_iff_not] at h ⊢
     intro e
     simp at e
     exact h (e ▸ hn)
  have selfD:∀ {k:Nat} {o:CO},ZcZ os k=true→os[k]?=some o→Q1 o.dst (Wf o)=true:=by
   intro k o hst ho
   have hk:k<os.length:=(List.getElem?_eq_some_iff.1 ho).1
   have:=List.all_eq_true.1 hst k (List.mem_range.2 hk)
   simp only[Zt2,ZaI,ho,Bool.or_eq_true,decide_eq_true_eq] at this
   rcases this with h | h
   ·omega
   ·exact h
  have loneD:∀ {k q t:Nat} {o:CO},Zoj os k=true→os[k]?=some o→o.dst=some t→q≠k→q<os.length→Q1 (ZaI os q) [t]=true:=by
   intro k q t o hl ho ht hne hq
   simp only[Zoj,Bool.and_eq_true] at hl
   have:=List.all_eq_true.1 hl.2 q (List.mem_range.2 hq)
   simp only[Bool.or_eq_true,beq_iff_eq,ZaI,ho,ht] at this
   rcases this with h | h
   ·exact absurd h hne
   ·simp only[ZaI]
    cases hoq:os[q]? with
    | none=>rfl
    | some oq=>
     rw[hoq] at h
     simp only at h ⊢
     cases hd:oq.dst with
     | none=>rfl
     | some d=>
      rw[hd] at h
      simp only[ZbU,bne_iff_ne,ne_eq] at h
      simp only[Q1,Bool.not_eq_true',List.contains_eq_mem,decide_eq_false_iff_not,List.mem_singleton]
      exact h
  have loneT:∀ {k:Nat} {o:CO},Zoj os k=true→os[k]?=some o→∃ t,o.dst=some t:=by
   intro k o hl ho
   simp only[Zoj,ZaI,ho,Bool.and_eq_true] at hl
   cases hd:o.dst with
   | none=>rw[hd] at hl;cases hl.1
   | some t=>exact⟨t,rfl⟩
  have fin:∀ n,(∀ q∈js++ks,Q1 (ZaI os q) [n]=true)→okV (gs r.1 n)=true→gs s2.1 n=gs r.1 n:=by
   intro n hn ho
   rw[← h4.1 n] at ho ⊢
   exact ZzX h3 hn ho
  have mem1:∀ q∈js++ks,q≠i∧j<q∧q<os.length:=by
   intro q hq
   refine⟨?_,?_,hlt q ?_⟩
   ·rcases List.mem_append.1 hq with hq | hq
    ·have:=(List.pairwise_append.1 hsort.2).2.2 q hq i (by simp);omega
    ·have:=(List.pairwise_cons.1 (List.pairwise_append.1 hsort.2).2.1).1 q hq;omega
   ·rcases List.mem_append.1 hq with hq | hq
    ·exact hsort.1 q (by simp[hq])
    ·exact hsort.1 q (by simp[hq])
   ·rcases List.mem_append.1 hq with hq | hq<;>simp[hq]
  have slotsJ:ZcZ os j=true→∀ n∈Wf oj,∀ q∈js++ks,Q1 (ZaI os q) [n]=true:=fun hst n hn q hq=>by
   obtain⟨_,h6,h7⟩:=mem1 q hq
   exact steadyD hst hoj (by omega) h7 hn
  have slotsI:ZcZ os i=true→∀ n∈Wf oi,∀ q∈js++ks,Q1 (ZaI os q) [n]=true:=fun hst n hn q hq=>by
   obtain⟨_,h6,h7⟩:=mem1 q hq
   rcases List.mem_append.1 hq with hq | hq
   ·obtain⟨oq,hoq,hapq,_⟩:=hj q (by simp[hq])
    simp only[Yl,Bool.and_eq_true] at hapq
    have h5:=hapq.1.1
    simp only[ZaI,hoq]
    cases hd:oq.dst with
    | none=>rfl
    | some d=>
     rw[hd] at h5
     simp only[Q1,Bool.not_eq_true',List.contains_eq_mem,decide_eq_false_iff_not] at h5 ⊢
     intro e
     simp at e
     exact h5 (e ▸ hn)
   ·have:=(List.pairwise_cons.1 (List.pairwise_append.1 hsort.2).2.1).1 q hq
    exact steadyD hst hoi (by omega) h7 hn
  have opdLook:∀ {o:CO} {n:Nat},n∈(ZT o.op).flatMap ZcY→n∈Wf o:=fun h=>List.mem_append.2 (.inl h)
  have argLook:∀ {o:CO} {n:Nat},n∈(ZmX o.op).flatMap ZcY→n∈Wf o:=fun {o n} h=>by
   refine List.mem_append.2 (.inl ?_)
   cases ho:o.op<;>rw[ho] at h<;>simp only[ZmX,List.flatMap_nil,List.not_mem_nil] at h
   simp only[ZT,List.flatMap_cons,List.mem_append]
   exact .inr h
  have hswap:∃ t1,ZP C M os nx i s=some t1∧∃ t2,ZP C M os nx j t1=some t2∧YC t2 s2:=by
   rcases hkind with ⟨hqj,hloose⟩ | ⟨hqj,hti,k1,k5,k6⟩ | ⟨hqj,hti,k0,k1,k2,k3,k4,k5,k6⟩
   case inr.inl=>
    obtain⟨t,ht⟩:=loneT k5 hoi
    refine ZwO hoi hoj hti hap hops k1 ht ?_ h1 h2
    rw[ht] at k6
    simp only[okD] at k6
    rw[fin t (fun q hq=>?_) k6]
    ·exact k6
    ·obtain⟨h5,_,h7⟩:=mem1 q hq
     exact loneD k5 hoi ht h5 h7
   case inr.inr=>
    obtain⟨t,ht⟩:=loneT k5 hoi
    refine Zva hoi hoj hti hij hap (selfD k4 hoi) (selfD k3 hoj) hops hs hfi (hfj j (by simp)) k1 k2 ?_ ht h1 h2
    refine(Zu9 k0 k1 k6).move (fun n hn=>fin n (slotsI k4 n (opdLook hn))) (fun n hn=>fin n fun q hq=>?_) (fun n hn=>fin n (slotsJ k3 n (argLook hn)))
    obtain⟨h5,_,h7⟩:=mem1 q hq
    exact loneD k5 hoi hn h5 h7
   cases hti:Z2 os i with
   | false=>exact ZyC hoi hoj hti hqj hij hap hops hs hfi (hfj j (by simp)) h1 h2
   | true=>
    rcases hloose hti with hc | ⟨hst,hl⟩ | ⟨hmv,hgn⟩ | ⟨k1,k5,k6⟩ | ⟨k0,k1,k2,k3,k4,k5,k6⟩
    case inr.inr.inr.inl=>
     obtain⟨t,ht⟩:=loneT k5 hoj
     refine ZwN hoi hoj hqj hap hops k1 ht ?_ h1 h2
     rw[ht] at k6
     simp only[okD] at k6
     rw[fin t (fun q hq=>?_) k6]
     ·exact k6
     ·obtain⟨_,h6,h7⟩:=mem1 q hq
      exact loneD k5 hoj ht (by omega) h7
    case inr.inr.inr.inr=>
     obtain⟨t,ht⟩:=loneT k5 hoj
     refine ZwM hoi hoj hqj hij hap (selfD k3 hoj) (selfD k4 hoi) hops hs hfi (hfj j (by simp)) k1 k2 ?_ ht h1 h2
     refine(Zu9 k0 k1 k6).move (fun n hn=>fin n (slotsJ k3 n (opdLook hn))) (fun n hn=>fin n fun q hq=>?_) (fun n hn=>fin n (slotsI k4 n (argLook hn)))
     obtain⟨_,h6,h7⟩:=mem1 q hq
     exact loneD k5 hoj hn (by omega) h7
    ·exact ZyF hoi hoj hc hqj hij hap hops hs hfi (hfj j (by simp)) h1 h2
    ·refine ZwL hoi hoj hti hqj hij hap hops hs hfi (hfj j (by simp)) ⟨hst,?_⟩ h1 h2
     rcases hl with hl | ⟨hl1,hl2,hl3,hl4⟩
     ·exact .inl hl
     ·refine .inr ⟨hl1,?_⟩
      have evT:∀ x∈ZT oi.op,okW (evO r.1 x)=true→evO s.1 x=evO r.1 x:=by
       intro x hx hok
       cases x with
       | v a=>rfl
       | f n=>rfl
       | t n=>
        simp only[evO] at hok ⊢
        have hn:n∈Wf oi:=by
         rw[Wf]
         exact List.mem_append.2 (.inl (List.mem_flatMap.2 ⟨.t n,hx,List.mem_singleton.2 rfl⟩))
        refine ZtE hrun (fun q hq=>?_) hok
        rcases List.mem_append.1 hq with hq | hq
        ·obtain⟨oq,hoq,hapq,_⟩:=hj q hq
         simp only[Yl,Bool.and_eq_true] at hapq
         have h5:=hapq.1.1
         simp only[ZaI,hoq]
         cases hd:oq.dst with
         | none=>rfl
         | some d=>
          rw[hd] at h5
          simp only[Q1,Bool.not_eq_true',List.contains_eq_mem,decide_eq_false_iff_not] at h5 ⊢
          intro e
          simp at e
          exact h5 (e ▸ hn)
        ·refine steadyD hl3 hoi ?_ (hlt q (List.mem_append.2 (.inr hq))) hn
         rcases List.mem_cons.1 hq with rfl | hq
         ·omega
         ·have:=List.pairwise_append.1 hsort.2
          have:=(List.pairwise_cons.1 this.2.1).1 q hq
          omega
      have evJ:∀ id,X9 r.1 id (ZT oj.op)=true→X9 s.1 id (ZT oj.op)=true:=by
       intro id hfa
       have key:∀ xs:List Opd,(∀ z∈xs,z∈ZT oj.op)→X9 r.1 id xs=true→X9 s.1 id xs=true:=by
        intro xs
        induction xs with
        | nil=>intro _ _;rfl
        | cons z zs ihz=>
         intro hsub hz
         simp only[X9,Bool.and_eq_true] at hz ⊢
         refine⟨?_,ihz (fun z' hz'=>hsub z' (by simp[hz'])) hz.2⟩
         cases z with
         | v a=>exact hz.1
         | f n=>exact hz.1
         | t n=>
          simp only[evO] at hz ⊢
          have hn:n∈Wf oj:=by
           rw[Wf]
           exact List.mem_append.2 (.inl (List.mem_flatMap.2 ⟨.t n,hsub (.t n) (List.mem_cons_self ..),List.mem_singleton.2 rfl⟩))
          rw[ZzX hrun (fun q hq=>?_) (ZBX hz.1)]
          ·exact hz.1
          ·refine steadyD hl2 hoj ?_ (hlt q hq) hn
           rcases List.mem_append.1 hq with hq | hq
           ·rcases List.mem_cons.1 hq with rfl | hq
            ·omega
            ·have:=hsort.1 q (by simp[hq]);omega
           ·have:=hsort.1 q (by simp only[List.mem_append];exact .inr hq);omega
       exact key _ (fun _ h=>h) hfa
      cases ho:oi.op<;>rw[ho] at hst hl4<;>first | (cases hst;done) | skip
      case store slc sz x y=>
       simp only[Zll] at hl4 ⊢
       have hok:okV (evO r.1 x)=true:=by
        cases ht:W9 (evO r.1 x) with
        | none=>rw[ht] at hl4;simp[Zgl] at hl4
        | some id=>cases hv:evO r.1 x<;>rw[hv] at ht<;>simp only[W9] at ht<;>first | (cases ht;done) | rfl
       rw[evT x (by rw[ho];simp[ZT]) (ZtD hok)]
       cases ht:W9 (evO r.1 x) with
       | none=>rw[ht] at hl4;simp[Zgl] at hl4
       | some id=>rw[ht] at hl4;exact evJ id hl4
      case append sz by_ str flat x y=>
       simp only[Zll,Bool.and_eq_true,Bool.or_eq_true] at hl4 ⊢
       obtain⟨hl5,hl6⟩:=hl4
       constructor
       ·have hok:okW (evO r.1 x)=true:=by
         cases hv:evO r.1 x<;>rw[hv] at hl5<;>first | rfl | (cases hl5;done) | skip
         case tup vs=>cases vs<;>first | rfl | cases hl5
        rw[evT x (by rw[ho];simp[ZT]) hok]
        cases hv:evO r.1 x<;>rw[hv] at hl5<;>first | (cases hl5;done) | exact evJ _ hl5 | skip
        ·rfl
        case tup vs=>cases vs<;>first | rfl | cases hl5
       ·rcases hl6 with hl6 | hl6
        ·exact .inl hl6
        ·right
         have hok:okW (evO r.1 y)=true:=by
          unfold seenSrc at hl6
          split at hl6
          ·rename_i k hk;rw[hk];rfl
          ·exact ZtD hl6
         rw[evT y (by rw[ho];simp[ZT]) hok]
         unfold seenSrc at hl6 ⊢
         split at hl6
         ·exact evJ _ hl6
         ·exact hl6
    ·exact ZyH hoi hoj hqj hap hmv hgn h1 h2
  obtain⟨t1,g1,t2,g2,g3⟩:=hswap
  obtain⟨r3,g4,g5⟩:=Zpg g3.symm h3
  refine⟨t1,g1,r3,?_,g5.symm.trans h4⟩
  simp only[List.cons_append,Zf7,g2,Zj]
  exact g4
def rem (n:Nat) (listed:Array Bool):List Nat:=(List.range n).filter fun i=>!listed.getD i true
theorem ZiW {n:Nat} {listed:Array Bool} {i:Nat}:i∈rem n listed↔i<n∧listed.getD i true=false:=by
 simp[rem]
theorem Zpo (n:Nat) (listed:Array Bool):(rem n listed).Pairwise (· < ·):=List.Pairwise.filter _ List.pairwise_lt_range
theorem ZB0 {n:Nat} {listed:Array Bool} (hsz:listed.size=n) (i:Nat):rem n (listed.setIfInBounds i true)=(rem n listed).filter fun j=>j != i:=by
 simp only[rem,List.filter_filter]
 refine List.filter_congr fun j hj=>?_
 have hjn:j<n:=List.mem_range.1 hj
 by_cases hji:i=j
 ·subst hji;simp[hsz,hjn]
 ·simp[Array.getElem?_setIfInBounds_ne hji,Ne.symm hji]
def Zsz (nx:Nat) (listed:Array Bool) (id:Nat):Prop:=id<nx∨∃ k,listed.getD k false=true∧nx+64*k≤id∧id<nx+64*k+64
theorem Zam {l:Array Bool} {k:Nat} (h:l.getD k false=true):k<l.size∧l.getD k true=true:=by
 rcases Nat.lt_or_ge k l.size with h1 | h1
 ·refine⟨h1,?_⟩
  simp[h1] at h ⊢;exact h
 ·simp[Array.getElem?_eq_none h1] at h
theorem Zpp {nx i:Nat} {listed:Array Bool} (h:listed.getD i true=false):X8 (Zsz nx listed) (nx+64*i):=by
 intro id h1 h2 hu
 rcases hu with hu | ⟨k,hk,h3,h4⟩
 ·omega
 ·have hki:k≠i:=fun e=>by subst e;rw[(Zam hk).2] at h;cases h
  rcases Nat.lt_or_gt_of_ne hki with h5 | h5<;>omega
theorem Zpq {nx i:Nat} {listed:Array Bool} (hi:i<listed.size):∀ id,Za2 (Zsz nx listed) (nx+64*i) id→Zsz nx (listed.setIfInBounds i true) id:=by
 rintro id ((h | ⟨k,hk,h1⟩) | h)
 ·exact .inl h
 ·exact .inr ⟨k,getD_set_true hk,h1⟩
 ·exact .inr ⟨i,by simp[hi],h.1,h.2⟩
end
end Go.Abs
