/- The abstract semantics and the model: what a call is to do,and arguments. Own text. -/
import Derived.Test.YtkdjbefmiiibpaaGreatDoorAbsCall
set_option linter.unusedVariables false
set_option linter.unusedSimpArgs false
namespace Go.Abs
open Go
structure Pre (F A I:Nat→Prop) (Γ:Gh) (h:List Zo) (as:List AV) (args:List Value) (w:World):Prop where
 args:Zz (Rep Γ w I) as args
 objs:ZbH Γ w I F A (W5 0 h)
 inj:∀ i j o o' b,lkp (W5 0 h) i=some o→lkp (W5 0 h) j=some o'→Blk Γ w i o b→Blk Γ w j o' b→i=j
 bound:∀ b,I b→b<w.heap.size
 fresh:∀ b,w.heap.size≤b→F b
 own:∀ b,F b→A b
 names:∀ id,h.length≤id→Γ id=none
 glob:Zht I w
structure ZyL (F A I:Nat→Prop) (Γ:Gh) (w:World) (hs:List Zo) (res:AV) (I' : Nat→Prop) (Γ' : Gh) (v:Value) (w' : World):Prop where
 boxes:∀ id b,Γ id=some (.box b)→Γ' id=some (.box b)
 keeps:Z3 I I' w w'
 sub:∀ b,I' b→I b∨F b
 fr:Fr F w w'
 res:Rep Γ' w' I' res v
 objs:ZbH Γ' w' I' F A (W5 0 hs)
 inj:∀ i j o o' b,lkp (W5 0 hs) i=some o→lkp (W5 0 hs) j=some o'→Blk Γ' w' i o b→Blk Γ' w' j o' b→i=j
 bound:∀ b,I' b→b<w'.heap.size
 names:∀ id,hs.length≤id→Γ' id=none
def Zio (P:Program) (f:FuncId):Prop:=∃ fn,P.funcs[f]?=some fn∧(fn.name == "runtime.NumGoroutine")=false∧fn.body.isNone=false
def ZoH (P:Program) (f:FuncId) (as:List AV) (h:List Zo) (res:AV) (hs:List Zo):Prop:=
 Zio P f∧∀ (F A I:Nat→Prop) (Γ:Gh) (args:List Value) (w:World),Pre F A I Γ h as args w→Calls P f args.toArray w fun e w'=>∃ v I' Γ',e=.returned v∧ZyL F A I Γ w hs res I' Γ' v w'
def QD (P:Program) (C:Orc):Prop:=∀ f as h res hs,C f as h=some (res,hs)→ZoH P f as h res hs
section
variable {P:Program} {nt:Nat} {U:Nat→Prop} {F A I:Nat→Prop} {Γ:Gh} {sl:Sl} {hp:Hp} {a:Act} {w:World}
def Zub (P:Program) (nt:Nat) (F A I:Nat→Prop) (Γ:Gh) (U:Nat→Prop) (sl:Sl) (hp:Hp) (a:Act) (w:World) (o:Oper) (base:Nat) (ce:Zc):Prop:=
 ∀ (K:Act→World→Prop) (Q:Exit→Act→World→Prop),(∀ u w',JX nt F A I Γ w (Za3 U base) (ce.on o.dst sl hp).1 (ce.on o.dst sl hp).2 (a.put o.dst u) w'→K (a.put o.dst u) w')→o.wp P a w K Q
theorem ZgL.opWp {o:Oper} {base:Nat} {ce:Zc} (h:ZgL P nt F A I Γ U sl hp a w o base ce):Zub P nt F A I Γ U sl hp a w o base ce:=by
 intro K Q hK
 obtain⟨u,w',h1,h2⟩:=h
 exact h1.wp (hK u w' h2)
def ZqL (Γ:Gh) (w:World) (hp:Hp) (I' : Nat→Prop) (ids:List Nat):Prop:=∀ id∈ids,∀ o b,lkp hp id=some o→We (some o)=true→Blk Γ w id o b→I' b
theorem ZqL.sub {I' : Nat→Prop} {ids ids' : List Nat} (h:ZqL Γ w hp I' ids) (hs:∀ id∈ids',id∈ids):ZqL Γ w hp I' ids':=fun id hid=>h id (hs id hid)
theorem Zv5 (h:ZbH Γ w I F A hp) (ids:List Nat):ZqL Γ w hp (ZiP Γ w hp I ids) ids:=by
 intro id hid o b hl hr hb
 cases o with
 | box cs=>cases hr
 | deep sz ns xs lk=>exact .inr ⟨id,hid,_,hl,rfl,hb⟩
 | row sz xs ex fz=>
  cases fz with
  | false=>exact .inr ⟨id,hid,_,hl,rfl,hb⟩
  | true=>
   have hb:=hb.row
   obtain⟨ad,n,c,h1,h2,h3⟩:=h id _ hl
   rw[h1] at hb
   obtain⟨ad',rfl,rfl,hc⟩:=Zsi hb
   rcases h3 with h3 | ⟨g,cur,e,hg,h4,h5,h6,h7,h8,h9,h10,h11⟩
   ·exact absurd h3.2 hc
   ·cases hg;exact .inl (by simpa using h10)
theorem Zuc (h:ZbH Γ w I F A hp) {I' : Nat→Prop} (hI:∀ b,I b→I' b) {id:Nat} (hlent:ZqL Γ w hp I' [id]) {xs:List D} (he:ZaU (lkp hp id)=some xs) :
  ∃ ad n c sz,Γ id=some (.row ad n c sz)∧n=xs.length∧n≤c∧((n=0∧c=0)∨∃ g,ad=some ⟨g,0,none⟩∧I' g∧0<sz∧ZaS w I' g sz xs 0):=by
 unfold ZaU at he
 split at he
 ·rename_i sz xs' ex fz hl
  cases he
  obtain⟨ad,n,c,h1,h2,h3⟩:=h id _ hl
  refine⟨ad,n,c,sz,h1,h2,?_⟩
  rcases h3 with h3 | ⟨g,cur,e,rfl,hc,hw,h4,h5,h6,h7,h8,hF,h9⟩
  ·exact⟨by omega,.inl h3⟩
  ·refine⟨h4,.inr ⟨g,rfl,hlent id (by simp) _ g hl rfl (.inl (by rw[h1];simp[ZG,Nat.ne_of_gt hc])),h7,?_⟩⟩
   cases ex
   ·exact h9.mono' (ZbR hI) rfl
   ·exact h9.mono' ⟨fun b hb=>hI b hb.1,fun _ _=>rfl⟩ rfl
 ·rename_i sz ns xs' lk hl
  cases he
  obtain⟨ad,n,c,h1,hd,_⟩:=h id _ hl
  have hd':=hd
  obtain⟨h2,h3⟩:=hd
  refine⟨ad,n,c,sz,h1,h2,?_⟩
  rcases h3 with h3 | ⟨g,cur,e,rfl,hc,hw,h4,h5,h6,hpos,h8,hFg,hel,hdis,hne⟩
  ·exact⟨by omega,.inl h3⟩
  ·have hbg:ZG (Γ id)=some g:=by rw[h1];simp[ZG,Nat.ne_of_gt hc]
   exact⟨h4,.inr ⟨g,rfl,hlent id (by simp) _ g hl rfl (.inl hbg),hpos,ZpM hd' (fun b hb _=>hI b hb) fun p b hp hn=>hlent id (by simp) _ b hl rfl (.inr (.inl ⟨g,p,hbg,hp,hn⟩))⟩⟩
 ·cases he
theorem ZsR (h:ZbH Γ w I F A hp) {I' : Nat→Prop} (hI:∀ b,I b→I' b) {x:AV} {v:Value} (hx:Rep Γ w I x v) (hlent:ZqL Γ w hp I' (Zdk x)) {d:D} (hd:ZjY hp x=some d):Yq w I' d v:=by
 unfold ZjY at hd
 split at hd
 ·cases hd;exact(Q5.1 hx).mono (ZbR hI)
 ·cases hd;obtain⟨ad,rfl⟩:=hx;exact⟨ad,0,rfl,by simp,.inl rfl⟩
 ·rename_i id
  obtain⟨xs,h1,hd⟩:=Za hd
  cases hd
  obtain⟨ad,n,c,sz,h2,h3,h4,h5⟩:=Zuc h hI hlent h1
  obtain⟨ad',n',c',sz',h6,rfl⟩:=hx
  rw[h2] at h6;cases h6
  refine⟨ad,c,by rw[h3],by omega,?_⟩
  rcases h5 with h5 | ⟨g,rfl,h7,h8,h9⟩
  ·exact .inl (List.eq_nil_of_length_eq_zero (by omega))
  ·exact .inr ⟨g,0,sz,rfl,h7,h8,h9⟩
 ·rename_i id off n
  obtain⟨xs,h1,hd⟩:=Za hd
  cases hd
  obtain⟨ad,m,c,sz,h2,h3,h4,h5⟩:=Zuc h hI hlent h1
  obtain⟨a0,m',c',sz',av,h6,h7,h8,rfl,h9,h10⟩:=hx
  rw[h2] at h6;cases h6
  have hlen:n=((xs.drop off).take n).length:=by simp;omega
  refine⟨av,c-off,by rw[← hlen],by omega,?_⟩
  by_cases hn:n=0
  ·exact .inl (List.eq_nil_of_length_eq_zero (by omega))
  ·rcases h5 with h5 | ⟨g,rfl,h11,h12,h13⟩
   ·omega
   ·rcases h10 with h10 | h10
    ·subst h10
     exact .inr ⟨g,off*sz,sz,by simp[JT],h11,h12,by simpa using ZlR h13 off n⟩
    ·omega
 ·cases hd
theorem ZxK (h:ZbH Γ w I F A hp) {I' : Nat→Prop} (hI:∀ b,I b→I' b):∀ {xs:List AV} {vs:List Value} {ds:List D},Zz (Wk Γ w I) xs vs→ZqL Γ w hp I' (xs.flatMap Zdk)→Q6 (ZjY hp) xs=some ds→ZdT D.one ds=true→Yj w I' ds vs
 | [],[],ds,_,_,hd,_=>by simp only[Q6] at hd;cases hd;simp[Yj]
 | [],_ :: _,_,h,_,_,_=>h.elim
 | _ :: _,[],_,h,_,_,_=>h.elim
 | x :: xs,v :: vs,ds,hr,hl,hd,h1=>by
  simp only[Q6] at hd
  obtain⟨d,h2,hd⟩:=Za hd
  obtain⟨ds',h3,hd⟩:=Za hd
  cases hd
  simp only[ZdT,Bool.and_eq_true] at h1
  refine⟨v,vs,rfl,h1.1,(Yq.one h1.1).1 (ZsR h hI hr.1.rep2.rep (hl.sub fun id hid=>by simp only[List.flatMap_cons,List.mem_append];exact .inl hid) h2),ZxK h hI hr.2 (hl.sub fun id hid=>by simp only[List.flatMap_cons,List.mem_append];exact .inr hid) h3 h1.2⟩
theorem ZAp (h:ZbH Γ w I F A hp) {I' : Nat→Prop} (hI:∀ b,I b→I' b) {x:AV} {v:Value} (hx:Rep Γ w I x v) (hlent:ZqL Γ w hp I' (Zg7 x)) {d:D} (hd:toD hp x=some d):Yq w I' d v:=by
 unfold toD at hd
 split at hd
 ·rename_i cs
  obtain⟨ds,h1,hd⟩:=Za hd
  split at hd
  ·rename_i h2
   cases hd
   obtain⟨vs,rfl,h3⟩:=hx
   exact⟨vs,rfl,ZxK h hI h3 hlent h1 h2⟩
  ·cases hd
 ·rename_i hne
  refine ZsR h hI hx ?_ hd
  cases x<;>first | exact hlent | (exact absurd rfl (hne _))
def ZxL (x y:AV):List Nat:=match y with
 | .d _=>Zg7 x
 | _=>[]
theorem ZCC (h:ZbH Γ w I F A hp) {I' : Nat→Prop} (hI:∀ b,I b→I' b) {m:Bool} {x y:AV} {v:Value} (hx:Rep Γ w I x v) (ha:ZfA hp m x=some y) (hlent:ZqL Γ w hp I' (ZxL x y)):Rep Γ w I' y v:=by
 have keep:Rep Γ w I' x v:=hx.mono (XA.refl Γ) (ZbR hI)
 unfold ZfA at ha
 split at ha
 ·cases ha;exact keep
 ·cases ha;exact keep
 ·cases ha;exact keep
 ·cases ha;exact keep
 ·cases ha;exact keep
 ·rename_i id
  cases m
  ·simp only[Zhk,asD] at ha
   obtain⟨d,h1,ha⟩:=Za ha
   cases ha
   exact Q5.2 (ZsR h hI hx hlent h1)
  ·simp only[Zhk] at ha
   cases ha;exact keep
 ·cases m
  ·simp only[ZiB] at ha
   cases ha
   exact Q5.2 (ZAp h hI hx hlent rfl)
  ·simp only[ZiB] at ha
   cases ha;exact keep
 ·cases ha;exact keep
 ·obtain⟨d,h1,ha⟩:=Za ha
  cases ha
  exact Q5.2 (ZAp h hI hx hlent h1)
theorem Zni (x y:AV) (xs ys:List AV):V1 (x :: xs) (y :: ys)=ZxL x y++V1 xs ys:=by
 cases y<;>simp[V1,ZxL]
theorem ZxM (h:ZbH Γ w I F A hp) {I' : Nat→Prop} (hI:∀ b,I b→I' b) (m:Nat→Bool):∀ {xs ys:List AV} {vs:List Value} (i:Nat),Zz (Rep Γ w I) xs vs→args hp m i xs=some ys→ZqL Γ w hp I' (V1 xs ys)→Zz (Rep Γ w I') ys vs
 | [],ys,[],i,_,ha,_=>by simp only[args] at ha;cases ha;exact trivial
 | [],_,_ :: _,_,h,_,_=>h.elim
 | _ :: _,_,[],_,h,_,_=>h.elim
 | x :: xs,ys,v :: vs,i,hr,ha,hl=>by
  simp only[args] at ha
  obtain⟨y,h1,ha⟩:=Za ha
  obtain⟨ys',h2,ha⟩:=Za ha
  cases ha
  rw[Zni] at hl
  exact⟨ZCC h hI hr.1 h1 (hl.sub fun id hid=>by simp[hid]),ZxM h hI m (i+1) hr.2 h2 (hl.sub fun id hid=>by simp[hid])⟩
def Zhb (ids:List Nat) (Γ:Gh):Gh:=fun k=>match ids[k]? with
 | some id=>Γ id
 | none=>none
theorem UG {ids:List Nat} {k id:Nat} (h:ids[k]?=some id):Zhb ids Γ k=Γ id:=by simp[Zhb,h]
theorem Zip {ids l:List Nat} (h:∀ id∈l,id∈ids):Zcj Γ (Zhb ids Γ) (UA ids) l:=by
 intro id hid r hr
 rw[UG (Zld (h id hid)).2]
 exact hr
theorem Zud {S S' : Nat→Prop} {b sz:Nat} {ys:List D} (hf:ZdT D.flat ys=true) {o:Nat} (h:ZaS w S b sz ys o):ZaS w S' b sz ys o:=by
 rw[YZ] at h ⊢
 intro i x hx
 obtain⟨vs,h1,h2,h3⟩:=h i x hx
 refine⟨vs,h1,h2,?_⟩
 have hx' : x.flat=true:=by
  clear h h1 h2 h3
  induction ys generalizing i with
  | nil=>simp at hx
  | cons y ys ih=>
   simp only[ZdT,Bool.and_eq_true] at hf
   cases i with
   | zero=>simp at hx;subst hx;exact hf.1
   | succ i=>simp at hx;exact ih hf.2 i hx
 have one:∀ {y:D} {v:Value},y.plain=true→Z2 w S y [v]→Z2 w S' y [v]:=by
  intro y v hy hv
  cases y<;>first | (simpa [Z2] using hv) | (simp[D.plain] at hy)
 have all:∀ (ds:List D) (us:List Value),ZdT D.plain ds=true→Yj w S ds us→Yj w S' ds us:=by
  intro ds
  induction ds with
  | nil=>intro us _ h;simpa [Yj] using h
  | cons d ds ih=>
   intro us hp h
   simp only[ZdT,Bool.and_eq_true] at hp
   obtain⟨v,r,h1,h2,h3,h4⟩:=h
   exact⟨v,r,h1,h2,one hp.1 h3,ih r hp.2 h4⟩
 have:=all x.cells vs hx' h3.cells
 exact ZfI (Yf.1 this)
theorem ZgI.give {I' F' A' : Nat→Prop} {ad:Option Addr} {n c sz:Nat} {ys:List D} (h:ZgI w I F A ad n c sz ys true false) (hf:ZdT D.flat ys=true)
  (hb:∀ b,ZG (some (.row ad n c sz))=some b→F b→F' b∧(I' b→I b)):ZgI w I' F' A' ad n c sz ys true false:=by
 obtain⟨h2,h3⟩:=h
 refine⟨h2,?_⟩
 rcases h3 with h3 | ⟨g,cur,e,rfl,hc,hw,h4,h5,h6,h7,h8,hFg,h9⟩
 ·exact .inl h3
 ·obtain⟨h10,h11⟩:=hb g (by simp[ZG,Nat.ne_of_gt hc]) hFg
  exact .inr ⟨g,cur,e,rfl,hc,hw,h4,h5,h6,h7,by simp at h8 ⊢;exact fun hi=>h8 (h11 hi),h10,Zud hf h9⟩
theorem UC.give {I' F' A' : Nat→Prop} {ns:Nat} {y:D} {v:Value} (h:UC w I F A ns y v) (hb:∀ b,VC v=some b→F b→F' b∧(I' b→I b)):UC w I' F' A' ns y v:=by
 cases y with
 | sl ys=>
  obtain⟨a,c,rfl,h2,h3⟩:=h
  refine⟨a,c,rfl,h2.give h3 fun b hb'=>hb b ?_,h3⟩
  cases a with
  | none=>simp[ZG] at hb'
  | some ad=>simpa [VC,ZG] using hb'
 | int k n=>exact⟨h.1,by simpa [Z2] using h.2⟩
 | bool k=>exact⟨h.1,by simpa [Z2] using h.2⟩
 | str k=>exact⟨h.1,by simpa [Z2] using h.2⟩
 | agg cs=>exact absurd h.1 (by simp[D.plain])
theorem Zec.give {I' F' A' : Nat→Prop} {ad:Option Addr} {n c sz ns:Nat} {xs:List D} (h:Zec w I F A ad n c sz ns xs)
  (hown:∀ b,ZG (some (.row ad n c sz))=some b→F b→F' b∧(I' b→I b)) (hin:∀ g p b,ZG (some (.row ad n c sz))=some g→p<xs.length*sz→VN w g p=some b→F b→F' b∧(I' b→I b)):Zec w I' F' A' ad n c sz ns xs:=by
 obtain⟨h2,h3⟩:=h
 refine⟨h2,?_⟩
 rcases h3 with h3 | ⟨g,cur,e,rfl,hc,hw,h4,h5,h6,hpos,h8,hFg,hel,hdis,hne⟩
 ·exact .inl h3
 ·have hbg:ZG (some (.row (some ⟨g,0,none⟩) n c sz))=some g:=by simp[ZG,Nat.ne_of_gt hc]
  obtain⟨h10,h11⟩:=hown g hbg hFg
  refine .inr ⟨g,cur,e,rfl,hc,hw,h4,h5,h6,hpos,fun hi=>h8 (h11 hi),h10,?_,hdis,hne⟩
  intro i x hx
  obtain⟨vs,v1,v2,v3⟩:=hel i x hx
  refine⟨vs,v1,v2,Zz.of_get v3.length fun j y v hy hv=>?_⟩
  obtain⟨v',hv',hn⟩:=v3.get j y hy
  rw[hv] at hv';cases hv'
  refine hn.give fun b hb=>hin g (i*sz+j) b hbg ?_ (ZjJ (v2 j v hv) hb)
  have hi:i<xs.length:=(List.getElem?_eq_some_iff.1 hx).1
  have hj:j<sz:=by rw[← v1];exact(List.getElem?_eq_some_iff.1 hv).1
  have:=Nat.mul_le_mul_right sz (show i+1≤xs.length from hi)
  rw[Nat.add_mul] at this
  omega
theorem Zue {ids:List Nat} {id k:Nat} (hk:ids[k]?=some id) {o:Zo} (ho:W1 Γ w I F A id o) {I' F' A' : Nat→Prop} (hI:∀ b,I b→I' b) (hF:∀ b,Blk Γ w id o b→F' b) (hA:∀ b,I b→A b→A' b)
  (hn:∀ b,Blk Γ w id o b→I' b→I b):W1 (Zhb ids Γ) w I' F' A' k (ZaZ ids o):=by
 cases o with
 | deep sz ns xs lk=>
  obtain⟨ad,n,c,h1,h2,_⟩:=ho
  exact⟨ad,n,c,by rw[UG hk,h1],h2.give (fun b hb _=>have:=Or.inl (h1 ▸ hb);⟨hF b this,hn b this⟩) (fun g p b hg hp hb _=>have:=Or.inr (Or.inl ⟨g,p,h1 ▸ hg,hp,hb⟩);⟨hF b this,hn b this⟩),trivial⟩
 | box cs=>
  obtain⟨b,cur,e,h1,h2,h3,h4,h5,hbf⟩:=ho
  have hb:Blk Γ w id (.box cs) b:=.inl (by rw[h1];rfl)
  refine⟨b,cur,e,by rw[UG hk,h1],h2,fun hi=>h3 (hn b hb hi),hF b hb,?_,((hbf.mono fun x te l u v g hc hv hg=>have hB:=Or.inr (Or.inr (Zw5 h1 h2 hc hv hg));⟨rfl,hn g hB,fun _=>hF g hB⟩).map (Zat _)).map (ZdP _)⟩
  have h6:Zz (YA Γ w I) (cs.map (Z6 ((Zcq (.box cs)).filter fun i=>!ids.contains i))) cur.toList:=h5.map_left fun _ _ h=>Zmp h
  refine Zgn (Zip fun id' hid=>?_) (ZbR hI) h6
  obtain⟨y,hy,hid⟩:=List.mem_flatMap.1 hid
  obtain⟨x,hx,rfl⟩:=List.mem_map.1 hy
  obtain⟨h7,h8⟩:=Zha _ x id' hid
  have h9:id'∈Zcq (.box cs):=List.mem_flatMap.2 ⟨x,hx,h7⟩
  simp only[List.mem_filter,Bool.not_eq_true',List.contains_eq_mem,decide_eq_false_iff_not,not_and,Decidable.not_not] at h8
  exact h8 h9
 | row sz xs ex fz=>
  obtain⟨ad,n,c,h1,h2,h3⟩:=ho
  refine⟨ad,n,c,by rw[UG hk,h1],h2,?_⟩
  rcases h3 with h3 | ⟨g,cur,e,rfl,hc,hw,h4,h5,h6,h7,h8,hFg,h9⟩
  ·exact .inl h3
  ·have hb:Blk Γ w id (.row sz xs ex fz) g:=.inl (by rw[h1];simp[ZG,Nat.ne_of_gt hc])
   refine .inr ⟨g,cur,e,rfl,hc,hw,h4,h5,h6,h7,?_,hF g hb,?_⟩
   ·cases fz
    ·simp at h8 ⊢;exact fun hi=>h8 (hn g hb hi)
    ·simp at h8 ⊢;exact hI g h8
   ·cases ex
    ·exact h9.mono' (ZbR hI) rfl
    ·simp only[if_true] at h9 ⊢
     exact h9.mono' ⟨fun b hb=>⟨hI b hb.1,hA b hb.1 hb.2⟩,fun _ _=>rfl⟩ rfl
end
end Go.Abs
