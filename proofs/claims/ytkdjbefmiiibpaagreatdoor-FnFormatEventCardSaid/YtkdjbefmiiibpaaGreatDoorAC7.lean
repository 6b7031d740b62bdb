/- Contracts of the functions,by the abstract semantics. -/
import Derived.Test.YtkdjbefmiiibpaaGreatDoorACode
import Derived.Test.YtkdjbefmiiibpaaGreatDoorAbsParts
import Derived.Test.YtkdjbefmiiibpaaGreatDoorAC6
namespace Go.Proofs.YtkdjbefmiiibpaaGreatDoor
open Go Go.Abs Go.Abs.E Go.Abs.L
open Nat (reduceMul reduceSub reduceLeDiff reduceEqDiff)
open Int (reduceLE reduceEq reduceToNat reduceNeg)
set_option linter.unusedSimpArgs false
set_option linter.unusedVariables false
set_option maxRecDepth 20000
set_option maxHeartbeats 4000000
def YM:List UInt8:=[115,104,101,101,116]
def Vl:List UInt8:=[102,108,97,119]
def VG:List UInt8:=[111,114,100,101,114]
def ZcM:List UInt8:=[99,117,116]
def VH:List UInt8:=[98,114,101,97,107]
def Wn:List UInt8:=[115,99,114,97,112]
inductive Ev where
 | sheet (l w h:Nat)
 | flaw (l x y w h:Nat)
 | order (n:Zi)
 | cut (l:Nat) (b:BT)
 | brk (n:Zi)
 | scrap (l:Nat)
deriving DecidableEq
def bx0:Box:=⟨0,0,0,0⟩
def ln0:Zi:=⟨⟨0,0,false,0⟩,0⟩
def Ev.ev:Ev→ZC
 | .sheet l w h=>⟨0,l,⟨0,0,w,h⟩,ln0,BT.waste.plan⟩
 | .flaw l x y w h=>⟨1,l,⟨x,y,w,h⟩,ln0,BT.waste.plan⟩
 | .order n=>⟨2,0,bx0,n,BT.waste.plan⟩
 | .cut l b=>⟨3,l,bx0,ln0,b.plan⟩
 | .brk n=>⟨4,0,bx0,n,BT.waste.plan⟩
 | .scrap l=>⟨5,l,bx0,ln0,BT.waste.plan⟩
def Ev.words:Ev→List (List UInt8)
 | .sheet l w h=>[YM,num l,num w,num h]
 | .flaw l x y w h=>[Vl,num l,num x,num y,num w,num h]
 | .order n=>VG :: X6 n
 | .cut l b=>[ZcM,num l,shw b]
 | .brk n=>VH :: X6 n
 | .scrap l=>[Wn,num l]
def Ev.text (v:Ev):List UInt8:=YK 32 v.words
def Zlb (b:BT):Prop:=b.cnt≤255∧VU b=true∧(shw b).length≤1600
instance (b:BT):Decidable (Zlb b):=by unfold Zlb;infer_instance
def Ev.ok:Ev→Prop
 | .sheet l w h=>l≤999999∧w≤999999∧h≤999999
 | .flaw l x y w h=>l≤999999∧x≤999999∧y≤999999∧w≤999999∧h≤999999
 | .order n=>Zk7 n
 | .cut l b=>l≤999999∧Zlb b
 | .brk n=>Zk7 n
 | .scrap l=>l≤999999
def ZpG (s:List UInt8):Option BT:=if s.length≤1600 then ZiE s else none
theorem ZhE {s:List UInt8} {b:BT}:ZpG s=some b↔s=shw b∧Zlb b:=by
 unfold ZpG
 constructor
 ·intro h
  split at h
  ·rename_i hl
   obtain⟨h1,h2,h3⟩:=Zjz.1 h
   exact⟨h1,h2,h3,h1 ▸ hl⟩
  ·cases h
 ·rintro ⟨rfl,h1,h2,h3⟩
  rw[if_pos h3]
  exact Zvl h1 h2
def Za2:List (List UInt8)→Option (List Nat)
 | []=>some []
 | w :: r=>(rd w).bind fun n=>(Za2 r).bind fun l=>some (n :: l)
theorem Ze2:∀ {ws:List (List UInt8)} {ns:List Nat},Za2 ws=some ns→ws=ns.map num∧∀ n∈ns,n≤999999
 | [],ns,h=>by simp[Za2] at h;subst h;simp
 | w :: r,ns,h=>by
  simp only[Za2,Option.bind_eq_some_iff] at h
  obtain⟨n,h1,l,h2,h3⟩:=h
  cases h3
  obtain⟨e1,b1⟩:=Zcs h1
  obtain⟨e2,b2⟩:=Ze2 h2
  refine⟨by rw[e1,e2];rfl,fun x hx=>?_⟩
  rcases List.mem_cons.1 hx with rfl | hx
  ·exact b1
  ·exact b2 x hx
theorem ZdW:∀ {ns:List Nat},(∀ n∈ns,n≤999999)→Za2 (ns.map num)=some ns
 | [],_=>rfl
 | n :: r,h=>by
  have ih:=ZdW (ns:=r) (fun x hx=>h x (List.mem_cons_of_mem _ hx))
  simp only[List.map_cons,Za2,ZeX (h n (List.mem_cons_self ..)),Option.bind_some,ih]
def ZdX (w:List UInt8):List Nat→Option Ev
 | [l]=>if w=Wn then some (.scrap l) else none
 | [l,a,b]=>if w=YM then some (.sheet l a b) else none
 | [l,x,y,a,b]=>if w=Vl then some (.flaw l x y a b) else none
 | _=>none
def Zur:List (List UInt8)→Option Ev
 | [a,p]=>(rd a).bind fun l=>(ZpG p).bind fun b=>some (.cut l b)
 | _=>none
def W1:List (List UInt8)→Option Ev
 | []=>none
 | w :: r=>if w=VG then (ZeK r).bind fun n=>some (.order n) else if w=VH then (ZeK r).bind fun n=>some (.brk n) else if w=ZcM then Zur r else (Za2 r).bind (ZdX w)
theorem ZpH {ws:List (List UInt8)} {v:Ev} (h:W1 ws=some v):ws=v.words∧v.ok:=by
 cases ws with
 | nil=>simp[W1] at h
 | cons w r=>
  simp only[W1] at h
  split at h
  ·rename_i hw
   simp only[Option.bind_eq_some_iff] at h
   obtain⟨n,h1,h2⟩:=h
   cases h2
   obtain⟨e,s⟩:=Zov h1
   exact⟨by rw[hw,e];rfl,s⟩
  ·split at h
   ·rename_i hw
    simp only[Option.bind_eq_some_iff] at h
    obtain⟨n,h1,h2⟩:=h
    cases h2
    obtain⟨e,s⟩:=Zov h1
    exact⟨by rw[hw,e];rfl,s⟩
   ·split at h
    ·rename_i hw
     unfold Zur at h
     split at h
     ·simp only[Option.bind_eq_some_iff] at h
      obtain⟨n,h1,b,h2,h3⟩:=h
      cases h3
      obtain⟨e1,b1⟩:=Zcs h1
      obtain⟨e2,b2⟩:=ZhE.1 h2
      exact⟨by rw[hw,e1,e2];rfl,b1,b2⟩
     ·cases h
    ·simp only[Option.bind_eq_some_iff] at h
     obtain⟨ns,h1,h2⟩:=h
     obtain⟨e1,b1⟩:=Ze2 h1
     unfold ZdX at h2
     split at h2
     ·split at h2
      ·rename_i hw;cases h2
       exact⟨by rw[hw,e1];rfl,b1 _ (by simp)⟩
      ·cases h2
     ·split at h2
      ·rename_i hw;cases h2
       exact⟨by rw[hw,e1];rfl,b1 _ (by simp),b1 _ (by simp),b1 _ (by simp)⟩
      ·cases h2
     ·split at h2
      ·rename_i hw;cases h2
       exact⟨by rw[hw,e1];rfl,b1 _ (by simp),b1 _ (by simp),b1 _ (by simp),b1 _ (by simp),b1 _ (by simp)⟩
      ·cases h2
     ·cases h2
theorem Znr {v:Ev} (h:v.ok):W1 v.words=some v:=by
 have d1:¬YM=VG:=by decide
 have d2:¬YM=VH:=by decide
 have d3:¬YM=ZcM:=by decide
 have d4:¬Vl=VG:=by decide
 have d5:¬Vl=VH:=by decide
 have d6:¬Vl=ZcM:=by decide
 have d7:¬Wn=VG:=by decide
 have d8:¬Wn=VH:=by decide
 have d9:¬Wn=ZcM:=by decide
 have d10:¬ZcM=VG:=by decide
 have d11:¬ZcM=VH:=by decide
 have d12:¬VH=VG:=by decide
 cases v with
 | sheet l w h' =>
  obtain⟨h1,h2,h3⟩:=h
  have e:=ZdW (ns:=[l,w,h']) (by simp;omega)
  simp only[List.map_cons,List.map_nil] at e
  simp only[Ev.words,W1,if_neg d1,if_neg d2,if_neg d3,e,Option.bind_some,ZdX,if_true]
 | flaw l x y w h' =>
  obtain⟨h1,h2,h3,h4,h5⟩:=h
  have e:=ZdW (ns:=[l,x,y,w,h']) (by simp;omega)
  simp only[List.map_cons,List.map_nil] at e
  simp only[Ev.words,W1,if_neg d4,if_neg d5,if_neg d6,e,Option.bind_some,ZdX,if_true]
 | order n=>simp only[Ev.words,W1,if_true,Zk9 (l:=n) h,Option.bind_some]
 | brk n=>simp only[Ev.words,W1,if_neg d12,if_true,Zk9 (l:=n) h,Option.bind_some]
 | cut l b=>
  obtain⟨h1,h2⟩:=h
  simp only[Ev.words,W1,if_neg d10,if_neg d11,if_true,Zur,ZeX h1,ZhE.2 ⟨rfl,h2⟩,Option.bind_some]
 | scrap l=>
  have h1:l≤999999:=h
  have e:=ZdW (ns:=[l]) (by simp;omega)
  simp only[List.map_cons,List.map_nil] at e
  simp only[Ev.words,W1,if_neg d7,if_neg d8,if_neg d9,e,Option.bind_some,ZdX,if_true]
theorem ZpI {c:UInt8} (hd:isD c=false) (h:c≠119∧c≠112∧c≠116∧c≠100∧c≠97∧c≠40∧c≠44∧c≠41):∀ b:BT,c∉shw b
 | .waste=>by simp[shw,h]
 | .pane i t=>by
  simp only[shw,List.mem_cons,not_or]
  exact⟨by cases t<;>simp[h],ZcL hd _⟩
 | .cut d a l r=>by
  simp only[shw,List.mem_cons,List.mem_append,not_or,List.not_mem_nil,not_false_eq_true,and_true]
  exact⟨by cases d<;>simp[h],ZcL hd _,h.2.2.2.2.2.1,ZpI hd h l,h.2.2.2.2.2.2.1,ZpI hd h r,h.2.2.2.2.2.2.2⟩
theorem ZyR (v:Ev):∀ w∈v.words,(32:UInt8)∉w:=by
 intro w hw
 cases v with
 | order n =>
  rcases List.mem_cons.1 hw with rfl | hw
  ·decide
  ·exact Zk8 n w hw
 | brk n =>
  rcases List.mem_cons.1 hw with rfl | hw
  ·decide
  ·exact Zk8 n w hw
 | cut l b=>
  simp only[Ev.words,List.mem_cons,List.not_mem_nil,or_false] at hw
  rcases hw with rfl | rfl | rfl
  ·decide
  ·exact ZcL rfl _
  ·exact ZpI rfl (by decide) b
 | sheet l a b=>
  simp only[Ev.words,List.mem_cons,List.not_mem_nil,or_false] at hw
  rcases hw with rfl | rfl | rfl | rfl<;>first | decide | exact ZcL rfl _
 | flaw l x y a b=>
  simp only[Ev.words,List.mem_cons,List.not_mem_nil,or_false] at hw
  rcases hw with rfl | rfl | rfl | rfl | rfl | rfl<;>first | decide | exact ZcL rfl _
 | scrap l=>
  simp only[Ev.words,List.mem_cons,List.not_mem_nil,or_false] at hw
  rcases hw with rfl | rfl<;>first | decide | exact ZcL rfl _
def rdEv (s:List UInt8):Option Ev:=W1 (Qx 32 s)
theorem ZwW (v:Ev):v.words≠[]:=by cases v<;>simp[Ev.words]
theorem Zvn {s:List UInt8} {v:Ev}:rdEv s=some v↔s=v.text∧v.ok:=by
 unfold rdEv
 constructor
 ·intro h
  obtain⟨h1,h2⟩:=ZpH h
  exact⟨by rw[Ev.text,← h1,Zk4],h2⟩
 ·rintro ⟨rfl,h⟩
  rw[Ev.text,Zk5 (ZwW v) (ZyR v),Znr h]
theorem ZiJ (c:UInt8) (m:Nat):∀ ws:List (List UInt8),(∀ w∈ws,w.length≤m)→(YK c ws).length≤ws.length*(m+1)
 | [],_=>by simp[YK]
 | [x],h=>by have:=h x (by simp);simp[YK];omega
 | x :: y :: r,h=>by
  have ih:=ZiJ c m (y :: r) (fun w hw=>h w (by simp[hw]))
  have hx:=h x (by simp)
  simp only[YK,List.length_append,List.length_cons] at ih ⊢
  rw[Nat.add_mul _ 1]
  omega
theorem ZbU (n:Int) (h:six n):(num n.toNat).length≤6:=YI 5 n.toNat (by have:=h.1;have:=h.2;omega)
theorem W2 (w:List UInt8) (ns:List Int) (hl:ns.length≤10) (h6:∀ n∈ns,six n) (hw:w.length≤10):Zk Xs Ms Xa [.d (.str w),.d (.sl (ns.map YF))] []=some (.d (.str (YK 32 (w :: ns.map fun n=>num n.toNat))),[]):=by
 have hlen:(YK 32 (w :: ns.map fun n=>num n.toNat)).length≤1000:=by
  have:=ZiJ 32 10 (w :: ns.map fun n=>num n.toNat) (by
   intro x hx
   rcases List.mem_cons.1 hx with rfl | hx
   ·exact hw
   ·obtain⟨n,hn,rfl⟩:=List.mem_map.1 hx
    have:=ZbU n (h6 n hn)
    omega)
  simp only[List.length_cons,List.length_map] at this
  omega
 have hj:=ZeB (w :: ns.map fun n=>num n.toNat) 32 (by simp) (by simp;omega) (by omega)
 simp only[List.map_cons] at hj
 refine Zc Xs Ms VV Zkh (by show 2≤_;decide) ?_
 simp +contextual -implicitDefEqProofs (maxSteps:=10^7) only[go_sem,seval,↓gZ,VV]
 refine Qb Xs Ms (st0:=?st0) (α:=Nat) (fun k=>[(12,.d (J (k:Int)))]) (fun k=>[(0,.row 1 ((w :: (ns.take k).map fun n=>num n.toNat).map .str) true false)]) (fun k=>k≤ns.length) (fun k=>ns.length-k) 0 ?hc (by simp) ?h0 ?step
 case hc=>simp +contextual -implicitDefEqProofs (maxSteps:=10^7) only[go_sem,seval,↓gZ]<;>exact rfl
 case h0=>rfl
 case step=>
  intro k hk ih
  by_cases hlt:k<ns.length
  ·obtain⟨x,hx⟩:=Z4 hlt
   have hlt' : (k:Int)<(ns.length:Int):=by omega
   have hw1:=ZD (k:=k) (by omega)
   have hs:=h6 x (List.mem_of_getElem? hx)
   have e1:=Yc x hs.1 (by have:=hs.2;omega)
   have hroom:((ns.take k).length+1+1)*16≤140737488355328∧(ns.take k).length≤140737488355326:=by simp;omega
   have ht:ns.take (k+1)=ns.take k++[x]:=by rw[List.take_add_one,hx];rfl
   simp +contextual -implicitDefEqProofs (maxSteps:=10^7) only[go_sem,seval,↓gZ,hlt',hlt,hx,hw1,e1,hroom,YF]
   refine ih (k+1) _ (by omega) (by omega) ?_
   simp +contextual -implicitDefEqProofs (maxSteps:=10^7) only[go_sem,seval,↓gZ,ht,List.map_append,List.map_cons,List.map_nil,List.cons_append]
  ·have:k=ns.length:=by omega
   subst this
   simp +contextual -implicitDefEqProofs (maxSteps:=10^7) only[go_sem,seval,↓gZ,List.take_length,hj]
def Vm (e:ZC):List Int:=[e.kind,e.label,e.box.X,e.box.Y,e.box.W,e.box.H,e.line.Pane.W,e.line.Pane.H,e.line.Pane.Kind,e.line.Count]
theorem Zns (eK eL eX eY eW eH epW epH:Int) (epT:Bool) (epK eC eo ea ep:Int) (et:Bool) (ek:List Zj):Zk Xs Ms W5 [(.d (.agg [J eK,J eL,J eX,J eY,J eW,J eH,J epW,J epH,.bool epT,J epK,J eC,J eo,J ea,J ep,.bool et,.sl (ek.map Zj.enc)]))] []=some ((.d (.bool (decide (∀ n∈Vm (ZC.mk eK eL (Box.mk eX eY eW eH) (Zi.mk (Pane.mk epW epH epT epK) eC) (Zj.mk eo ea ep et ek)),six n)))),[]):=by
 obtain⟨xs,hxs⟩:∃ xs,xs=Vm (ZC.mk eK eL (Box.mk eX eY eW eH) (Zi.mk (Pane.mk epW epH epT epK) eC) (Zj.mk eo ea ep et ek)):=⟨_,rfl⟩
 have hlen:xs.length=10:=by rw[hxs];rfl
 rw[← hxs]
 refine Zc Xs Ms JB ZpK (by show 1≤_;decide) ?_
 simp +contextual -implicitDefEqProofs (maxSteps:=10^7) only[go_sem,seval,↓gZ,JB]
 have hrow:([J eK,J eL,J eX,J eY,J eW,J eH,J epW,J epH,J epK,J eC]:List D)=xs.map YF:=by rw[hxs];rfl
 rw[hrow]
 refine Qb Xs Ms (st0:=?st0) (α:=Nat) (fun k=>[(38,.d (J (k:Int)))]) (fun _=>[]) (fun k=>k≤10∧∀ n∈xs.take k,six n) (fun k=>10-k) 0 ?hc (by simp) ?h0 ?step
 case hc=>simp +contextual -implicitDefEqProofs (maxSteps:=10^7) only[go_sem,seval,↓gZ]<;>exact rfl
 case h0=>rfl
 case step=>
  intro k ⟨hk,hp⟩ ih
  by_cases hlt:k<xs.length
  ·obtain⟨x,hx⟩:=Z4 hlt
   have hlt' : (k:Int)<10:=by omega
   have hlt10:k<10:=by omega
   have hw1:=ZD (k:=k) (by omega)
   by_cases hs:six x
   ·have n1:¬x<0:=by have:=hs.1;omega
    have n2:¬999999<x:=by have:=hs.2;omega
    simp +contextual -implicitDefEqProofs (maxSteps:=10^7) only[go_sem,seval,↓gZ,hlt',hlt,hlt10,hx,hw1,YF,n1,n2,hlen]
    refine ih (k+1) _ ⟨by omega,?_⟩ (by omega) ?_
    ·intro n hn
     rw[List.take_add_one,hx] at hn
     rcases List.mem_append.1 hn with hn | hn
     ·exact hp n hn
     ·simp only[Option.toList_some,List.mem_singleton] at hn
      rw[hn];exact hs
    ·simp +contextual -implicitDefEqProofs (maxSteps:=10^7) only[go_sem,seval,↓gZ]
   ·have hno:decide (∀ n∈xs,six n)=false:=decide_eq_false fun h=>hs (h x (List.mem_of_getElem? hx))
    rw[hno]
    by_cases n1:x<0
    ·simp +contextual -implicitDefEqProofs (maxSteps:=10^7) only[go_sem,seval,↓gZ,hlt',hlt,hlt10,hx,hw1,YF,n1,hlen]
    ·have n2:999999<x:=by
      rcases Int.lt_or_le 999999 x with h | h
      ·exact h
      ·exact absurd ⟨by omega,h⟩ hs
     simp +contextual -implicitDefEqProofs (maxSteps:=10^7) only[go_sem,seval,↓gZ,hlt',hlt,hlt10,hx,hw1,YF,n1,n2,hlen]
  ·have hke:k=10:=by omega
   subst hke
   have hyes:decide (∀ n∈xs,six n)=true:=by
    refine decide_eq_true fun n hn=>hp n ?_
    rw[List.take_of_length_le (by omega)]
    exact hn
   rw[hyes]
   simp +contextual -implicitDefEqProofs (maxSteps:=10^7) only[go_sem,seval,↓gZ,hlen]
def WD (e:ZC) (b:BT):Option Ev:=
 if e.kind=0 then (if e.box.X=0∧e.box.Y=0 then some (.sheet e.label.toNat e.box.W.toNat e.box.H.toNat) else none)
 else if e.kind=1 then some (.flaw e.label.toNat e.box.X.toNat e.box.Y.toNat e.box.W.toNat e.box.H.toNat)
 else if e.kind=2 then some (.order e.line)
 else if e.kind=3 then some (.cut e.label.toNat b)
 else if e.kind=4 then some (.brk e.line)
 else if e.kind=5 then some (.scrap e.label.toNat)
 else none
def ZaK (e:ZC):Option Ev:=if ∀ n∈Vm e,six n then
  match Xb e.plan with
  | some b=>if Zlb b then WD e b else none
  | none=>none
 else none
def Zvo (e:ZC):List UInt8:=match ZaK e with
 | some v=>v.text
 | none=>[]
theorem Zaf {e:ZC} (h:ZaK e=none):Zvo e=[]:=by unfold Zvo;rw[h]
theorem W3 {e:ZC} {v:Ev} (h:ZaK e=some v):Zvo e=v.text:=by unfold Zvo;rw[h]
theorem ZhF {e:ZC} (h:¬∀ n∈Vm e,six n):ZaK e=none:=by unfold ZaK;rw[if_neg h]
theorem Zde {e:ZC} (h:∀ b,Xb e.plan=some b→¬Zlb b):ZaK e=none:=by
 unfold ZaK
 split
 ·cases hb:Xb e.plan with
  | none=>rfl
  | some b=>simp only;rw[if_neg (h b hb)]
 ·rfl
theorem V9 {e:ZC} {b:BT} (h:∀ n∈Vm e,six n) (hb:Xb e.plan=some b) (hp:Zlb b):ZaK e=WD e b:=by
 unfold ZaK;rw[if_pos h,hb];simp only;rw[if_pos hp]
theorem Zdf (eK eL eX eY eW eH epW epH:Int) (epT:Bool) (epK eC eo ea ep:Int) (et:Bool) (ek:List Zj):Zk Xs Ms Yd [(.d (.agg [J eK,J eL,J eX,J eY,J eW,J eH,J epW,J epH,.bool epT,J epK,J eC,J eo,J ea,J ep,.bool et,.sl (ek.map Zj.enc)]))] []=some (.d (.str (Zvo (ZC.mk eK eL (Box.mk eX eY eW eH) (Zi.mk (Pane.mk epW epH epT epK) eC) (Zj.mk eo ea ep et ek)))),[]):=by
 have e1:=Zkd (.mk eo ea ep et ek)
 rw[Zj.enc_mk] at e1
 have e2:=Zns eK eL eX eY eW eH epW epH epT epK eC eo ea ep et ek
 by_cases hw:∀ n∈Vm (ZC.mk eK eL (Box.mk eX eY eW eH) (Zi.mk (Pane.mk epW epH epT epK) eC) (Zj.mk eo ea ep et ek)),six n
 ·rw[decide_eq_true hw] at e2
  rcases Zs1 (.mk eo ea ep et ek) with hf | ⟨b,hb,hb1,hb2,hf⟩
  ·rw[hf] at e1
   have hno:ZaK (ZC.mk eK eL (Box.mk eX eY eW eH) (Zi.mk (Pane.mk epW epH epT epK) eC) (Zj.mk eo ea ep et ek))=none:=by
    refine Zde fun b hb hp=>?_
    have:=ZiF hb
    rw[hf,if_pos ⟨hp.1,hp.2.1⟩] at this
    cases b<;>cases this
   rw[Zaf hno]
   refine Zc Xs Ms Zp Ql (by show 1≤_;decide) ?_
   simp +contextual -implicitDefEqProofs (maxSteps:=10^7) only[go_sem,seval,↓gZ,Zp,e1,e2]
  ·rw[hf] at e1
   have hnil:(shw b==[])=false:=by cases b<;>rfl
   have htb:Xb (.mk eo ea ep et ek)=some b:=by rw[hb];exact Wm b
   by_cases hl:(shw b).length≤1600
   ·have hl' : ¬(1600:Int)<((shw b).length:Int):=by omega
    have hk:=V9 (e:=(ZC.mk eK eL (Box.mk eX eY eW eH) (Zi.mk (Pane.mk epW epH epT epK) eC) (Zj.mk eo ea ep et ek))) hw htb ⟨hb1,hb2,hl⟩
    simp only[Vm,List.mem_cons,List.not_mem_nil,or_false,forall_eq_or_imp,forall_eq] at hw
    obtain⟨n1,n2,n3,n4,n5,n6,n7,n8,n9,n10⟩:=hw
    simp only[WD] at hk
    by_cases k0:eK=0
    ·rw[if_pos k0] at hk
     by_cases hxy:eX=0∧eY=0
     ·rw[if_pos hxy] at hk
      rw[W3 hk]
      obtain⟨hx,hy⟩:=hxy
      subst k0 hx hy
      have e3:=W2 YM [eL,eW,eH] (by simp) (by simp[n2,n5,n6]) (by decide)
      simp only[List.map_cons,List.map_nil,YF,YM] at e3
      simp only[Ev.text,Ev.words,YM]
      refine Zc Xs Ms Zp Ql (by show 1≤_;decide) ?_
      simp +contextual -implicitDefEqProofs (maxSteps:=10^7) only[go_sem,seval,↓gZ,Zp,e1,e2,hnil,hl',e3]
     ·rw[if_neg hxy] at hk
      rw[Zaf hk]
      by_cases hx:eX=0
      ·have hy:¬eY=0:=fun h=>hxy ⟨hx,h⟩
       subst k0 hx
       refine Zc Xs Ms Zp Ql (by show 1≤_;decide) ?_
       simp +contextual -implicitDefEqProofs (maxSteps:=10^7) only[go_sem,seval,↓gZ,Zp,e1,e2,hnil,hl',hy]
      ·subst k0
       refine Zc Xs Ms Zp Ql (by show 1≤_;decide) ?_
       simp +contextual -implicitDefEqProofs (maxSteps:=10^7) only[go_sem,seval,↓gZ,Zp,e1,e2,hnil,hl',hx]
    rw[if_neg k0] at hk
    by_cases k1:eK=1
    ·rw[if_pos k1] at hk
     rw[W3 hk]
     subst k1
     have e3:=W2 Vl [eL,eX,eY,eW,eH] (by simp) (by simp[n2,n3,n4,n5,n6]) (by decide)
     simp only[List.map_cons,List.map_nil,YF,Vl] at e3
     simp only[Ev.text,Ev.words,Vl]
     refine Zc Xs Ms Zp Ql (by show 1≤_;decide) ?_
     simp +contextual -implicitDefEqProofs (maxSteps:=10^7) only[go_sem,seval,↓gZ,Zp,e1,e2,hnil,hl',e3]
    rw[if_neg k1] at hk
    have hsx:Zk7 ⟨⟨epW,epH,epT,epK⟩,eC⟩:=⟨n10,n7,n8,n9⟩
    have e4:=Znp epW epH epT epK eC hsx
    have hwl:=Zct ⟨⟨epW,epH,epT,epK⟩,eC⟩ hsx
    have bl:6+(Zae ⟨⟨epW,epH,epT,epK⟩,eC⟩).length≤1152921504606846976:=by unfold Zae;omega
    by_cases k2:eK=2
    ·rw[if_pos k2] at hk
     rw[W3 hk]
     subst k2
     have ht:Ev.text (.order ⟨⟨epW,epH,epT,epK⟩,eC⟩)=[111,114,100,101,114,32]++Zae ⟨⟨epW,epH,epT,epK⟩,eC⟩:=rfl
     rw[ht]
     refine Zc Xs Ms Zp Ql (by show 1≤_;decide) ?_
     simp +contextual -implicitDefEqProofs (maxSteps:=10^7) only[go_sem,seval,↓gZ,Zp,e1,e2,hnil,hl',e4,bl]
    rw[if_neg k2] at hk
    by_cases k3:eK=3
    ·rw[if_pos k3] at hk
     rw[W3 hk]
     subst k3
     have e3:=W2 ZcM [eL] (by simp) (by simp[n2]) (by decide)
     simp only[List.map_cons,List.map_nil,YF,ZcM] at e3
     have hnl:=ZbU eL n2
     have ht:Ev.text (.cut eL.toNat b)=YK 32 [[99,117,116],num eL.toNat]++[32]++shw b:=by simp[Ev.text,Ev.words,YK,ZcM]
     have hjl:(YK 32 [[99,117,116],num eL.toNat]).length≤20:=by simp[YK];omega
     rw[ht]
     generalize YK 32 [[99,117,116],num eL.toNat]=jt at *
     have b1:jt.length+1≤1152921504606846976:=by omega
     have b2:jt.length+1+(shw b).length≤1152921504606846976:=by omega
     refine Zc Xs Ms Zp Ql (by show 1≤_;decide) ?_
     simp +contextual -implicitDefEqProofs (maxSteps:=10^7) only[go_sem,seval,↓gZ,Zp,e1,e2,hnil,hl',e3,b1,b2]
    rw[if_neg k3] at hk
    by_cases k4:eK=4
    ·rw[if_pos k4] at hk
     rw[W3 hk]
     subst k4
     have ht:Ev.text (.brk ⟨⟨epW,epH,epT,epK⟩,eC⟩)=[98,114,101,97,107,32]++Zae ⟨⟨epW,epH,epT,epK⟩,eC⟩:=rfl
     rw[ht]
     refine Zc Xs Ms Zp Ql (by show 1≤_;decide) ?_
     simp +contextual -implicitDefEqProofs (maxSteps:=10^7) only[go_sem,seval,↓gZ,Zp,e1,e2,hnil,hl',e4,bl]
    rw[if_neg k4] at hk
    by_cases k5:eK=5
    ·rw[if_pos k5] at hk
     rw[W3 hk]
     subst k5
     have e3:=W2 Wn [eL] (by simp) (by simp[n2]) (by decide)
     simp only[List.map_cons,List.map_nil,YF,Wn] at e3
     simp only[Ev.text,Ev.words,Wn]
     refine Zc Xs Ms Zp Ql (by show 1≤_;decide) ?_
     simp +contextual -implicitDefEqProofs (maxSteps:=10^7) only[go_sem,seval,↓gZ,Zp,e1,e2,hnil,hl',e3]
    ·rw[if_neg k5] at hk
     rw[Zaf hk]
     refine Zc Xs Ms Zp Ql (by show 1≤_;decide) ?_
     simp +contextual -implicitDefEqProofs (maxSteps:=10^7) only[go_sem,seval,↓gZ,Zp,e1,e2,hnil,hl',k0,k1,k2,k3,k4,k5]
   ·have hl' : (1600:Int)<((shw b).length:Int):=by omega
    have hno:ZaK (ZC.mk eK eL (Box.mk eX eY eW eH) (Zi.mk (Pane.mk epW epH epT epK) eC) (Zj.mk eo ea ep et ek))=none:=by
     refine Zde fun b' hb' hp=>?_
     rw[show Xb (ZC.plan (ZC.mk eK eL (Box.mk eX eY eW eH) (Zi.mk (Pane.mk epW epH epT epK) eC) (Zj.mk eo ea ep et ek)))=Xb (.mk eo ea ep et ek) from rfl,htb] at hb'
     cases hb'
     exact hl hp.2.2
    rw[Zaf hno]
    refine Zc Xs Ms Zp Ql (by show 1≤_;decide) ?_
    simp +contextual -implicitDefEqProofs (maxSteps:=10^7) only[go_sem,seval,↓gZ,Zp,e1,e2,hnil,hl']
 ·rw[decide_eq_false hw] at e2
  rw[Zaf (ZhF hw)]
  refine Zc Xs Ms Zp Ql (by show 1≤_;decide) ?_
  simp +contextual -implicitDefEqProofs (maxSteps:=10^7) only[go_sem,seval,↓gZ,Zp,e1,e2]
theorem Zkf:Zk Xs Ms Vo [] []=some (.own 0,[.row 1 [.str YM,.str Vl,.str VG,.str ZcM,.str VH,.str Wn] true false]):=by
 refine Zc Xs Ms WJ Zli (by show 0≤_;decide) ?_
 simp +contextual -implicitDefEqProofs (maxSteps:=10^7) only[go_sem,seval,↓gZ,WJ]
 all_goals rfl
def ZiK (e:ZC):List Int:=[e.label,e.box.X,e.box.Y,e.box.W,e.box.H,e.line.Count,e.line.Pane.W,e.line.Pane.H,e.line.Pane.Kind]
theorem Zvp {e:ZC} (h:¬∀ n∈ZiK e,six n):ZaK e=none:=by
 refine ZhF fun h'=>h fun n hn=>h' n ?_
 simp only[ZiK,Vm,List.mem_cons,List.not_mem_nil,or_false] at hn ⊢
 rcases hn with h | h | h | h | h | h | h | h | h<;>simp[h]
theorem Zvq {e:ZC} (h:∀ n∈ZiK e,six n) (hk:0≤e.kind∧e.kind≤5):∀ n∈Vm e,six n:=by
 intro n hn
 simp only[Vm,List.mem_cons,List.not_mem_nil,or_false] at hn
 rcases hn with rfl | hn
 ·exact⟨hk.1,by omega⟩
 ·refine h n ?_
  simp only[ZiK,List.mem_cons,List.not_mem_nil,or_false]
  rcases hn with h | h | h | h | h | h | h | h | h<;>simp[h]
theorem Zrj {e:ZC} {b:BT} (hk:0≤e.kind∧e.kind≤5) (h0:e.kind=0→e.box.X=0∧e.box.Y=0):(WD e b).isSome=true:=by
 unfold WD
 by_cases k0:e.kind=0
 ·rw[if_pos k0,if_pos (h0 k0)];rfl
 rw[if_neg k0]
 by_cases k1:e.kind=1
 ·rw[if_pos k1];rfl
 rw[if_neg k1]
 by_cases k2:e.kind=2
 ·rw[if_pos k2];rfl
 rw[if_neg k2]
 by_cases k3:e.kind=3
 ·rw[if_pos k3];rfl
 rw[if_neg k3]
 by_cases k4:e.kind=4
 ·rw[if_pos k4];rfl
 rw[if_neg k4,if_pos (by omega)];rfl
theorem Zrk {e:ZC} {b:BT} (hk:¬(0≤e.kind∧e.kind≤5)):WD e b=none:=by
 unfold WD
 rw[if_neg (by omega),if_neg (by omega),if_neg (by omega),if_neg (by omega),if_neg (by omega),if_neg (by omega)]
theorem ZjB {e:ZC} (h:∀ b,WD e b=none):ZaK e=none:=by
 unfold ZaK
 split
 ·split
  ·split
   ·exact h _
   ·rfl
  ·rfl
 ·rfl
theorem Zge (eK eL eX eY eW eH epW epH:Int) (epT:Bool) (epK eC eo ea ep:Int) (et:Bool) (ek:List Zj):Zk Xs Ms XN [(.d (.agg [J eK,J eL,J eX,J eY,J eW,J eH,J epW,J epH,.bool epT,J epK,J eC,J eo,J ea,J ep,.bool et,.sl (ek.map Zj.enc)]))] []=some ((.d (.bool ((ZaK (ZC.mk eK eL (Box.mk eX eY eW eH) (Zi.mk (Pane.mk epW epH epT epK) eC) (Zj.mk eo ea ep et ek))).isSome))),[]):=by
 obtain⟨xs,hxs⟩:∃ xs,xs=ZiK (ZC.mk eK eL (Box.mk eX eY eW eH) (Zi.mk (Pane.mk epW epH epT epK) eC) (Zj.mk eo ea ep et ek)):=⟨_,rfl⟩
 have hlen:xs.length=9:=by rw[hxs];rfl
 refine Zc Xs Ms YB ZgP (by show 1≤_;decide) ?_
 simp +contextual -implicitDefEqProofs (maxSteps:=10^7) only[go_sem,seval,↓gZ,YB]
 have hrow:([J eL,J eX,J eY,J eW,J eH,J eC,J epW,J epH,J epK]:List D)=xs.map YF:=by rw[hxs];rfl
 rw[hrow]
 refine Qb Xs Ms (st0:=?st0) (α:=Nat) (fun k=>[(4,.d (J (k:Int)))]) (fun _=>[]) (fun k=>k≤9∧∀ n∈xs.take k,six n) (fun k=>9-k) 0 ?hc (by simp) ?h0 ?step
 case hc=>simp +contextual -implicitDefEqProofs (maxSteps:=10^7) only[go_sem,seval,↓gZ]<;>exact rfl
 case h0=>rfl
 case step=>
  intro k ⟨hk,hp⟩ ih
  by_cases hlt:k<xs.length
  ·obtain⟨x,hx⟩:=Z4 hlt
   have hlt' : (k:Int)<9:=by omega
   have hlt10:k<9:=by omega
   have hlt2:(k:Int)<(xs.length:Int):=by omega
   have hw1:=ZD (k:=k) (by omega)
   have e1:=Zv x 0 999999
   by_cases hs:six x
   ·rw[decide_eq_true (show 0≤x∧x≤999999 from hs)] at e1
    simp +contextual -implicitDefEqProofs (maxSteps:=10^7) only[go_sem,seval,↓gZ,hlt',hlt,hlt10,hlt2,hx,hw1,YF,e1]
    refine ih (k+1) _ ⟨by omega,?_⟩ (by omega) ?_
    ·intro n hn
     rw[List.take_add_one,hx] at hn
     rcases List.mem_append.1 hn with hn | hn
     ·exact hp n hn
     ·simp only[Option.toList_some,List.mem_singleton] at hn
      rw[hn];exact hs
    ·simp +contextual -implicitDefEqProofs (maxSteps:=10^7) only[go_sem,seval,↓gZ]
   ·rw[decide_eq_false (show ¬(0≤x∧x≤999999) from hs)] at e1
    have hno:ZaK (ZC.mk eK eL (Box.mk eX eY eW eH) (Zi.mk (Pane.mk epW epH epT epK) eC) (Zj.mk eo ea ep et ek))=none:=Zvp fun h=>hs (h x (by rw[← hxs];exact List.mem_of_getElem? hx))
    rw[hno]
    simp +contextual -implicitDefEqProofs (maxSteps:=10^7) only[go_sem,seval,↓gZ,hlt',hlt,hlt10,hlt2,hx,hw1,YF,e1,Option.isSome_none]
  ·have hke:k=9:=by omega
   subst hke
   have hall:∀ n∈ZiK (ZC.mk eK eL (Box.mk eX eY eW eH) (Zi.mk (Pane.mk epW epH epT epK) eC) (Zj.mk eo ea ep et ek)),six n:=by
    intro n hn
    rw[← hxs] at hn
    refine hp n ?_
    rw[List.take_of_length_le (by omega)]
    exact hn
   have hge:¬(9:Int)<(xs.length:Int):=by omega
   have e1:=Zv eK 0 5
   have e2:=Zgn (.mk eo ea ep et ek)
   rw[Zj.enc_mk] at e2
   by_cases hbad:eK=0∧¬(eX=0∧eY=0)
   ·obtain⟨k0,hxy⟩:=hbad
    have hno:ZaK (ZC.mk eK eL (Box.mk eX eY eW eH) (Zi.mk (Pane.mk epW epH epT epK) eC) (Zj.mk eo ea ep et ek))=none:=ZjB fun b=>by unfold WD;rw[if_pos k0,if_neg hxy]
    rw[hno]
    subst k0
    by_cases hX:eX=0
    ·have hY:¬eY=0:=fun h=>hxy ⟨hX,h⟩
     simp +contextual -implicitDefEqProofs (maxSteps:=10^7) only[go_sem,seval,↓gZ,hge,hX,hY,Option.isSome_none]
    ·simp +contextual -implicitDefEqProofs (maxSteps:=10^7) only[go_sem,seval,↓gZ,hge,hX,Option.isSome_none]
   have hok:eK=0→eX=0∧eY=0:=fun h=>Classical.byContradiction fun h'=>hbad ⟨h,h'⟩
   have rest:∀ R:Prop,R→R:=fun _ h=>h
   by_cases hkr:0≤eK∧eK≤5
   ·rw[decide_eq_true hkr] at e1
    have hnums:=Zvq (e:=(ZC.mk eK eL (Box.mk eX eY eW eH) (Zi.mk (Pane.mk epW epH epT epK) eC) (Zj.mk eo ea ep et ek))) hall hkr
    cases hT:Xb (.mk eo ea ep et ek) with
    | none=>
     rw[hT,show ZB 255 none=-1 from rfl] at e2
     have hno:ZaK (ZC.mk eK eL (Box.mk eX eY eW eH) (Zi.mk (Pane.mk epW epH epT epK) eC) (Zj.mk eo ea ep et ek))=none:=Zde fun b hb=>by rw[show Xb (ZC.plan (ZC.mk eK eL (Box.mk eX eY eW eH) (Zi.mk (Pane.mk epW epH epT epK) eC) (Zj.mk eo ea ep et ek)))=Xb (.mk eo ea ep et ek) from rfl,hT] at hb;cases hb
     rw[hno]
     by_cases k0:eK=0
     ·obtain⟨hX,hY⟩:=hok k0
      subst k0 hX hY
      simp +contextual -implicitDefEqProofs (maxSteps:=10^7) only[go_sem,seval,↓gZ,hge,e1,e2,Option.isSome_none]
     ·simp +contextual -implicitDefEqProofs (maxSteps:=10^7) only[go_sem,seval,↓gZ,hge,k0,e1,e2,Option.isSome_none]
    | some b=>
     have hpb:=ZbI hT
     rw[hT] at e2
     by_cases hpl:Zlb b
     ·have hz:0<ZB 255 (some b):=by
       have:=b.cnt_pos
       have:=hpl.1
       rcases XG 255 b with ⟨_,h⟩ | ⟨h,_⟩
       ·rw[h];omega
       ·omega
      have e3:=Jx b
      have e4:=UA b hpl.2.1 (by have:=hpl.1;omega)
      rw[← hpb,Zj.enc_mk] at e3 e4
      rw[hpl.2.1] at e3
      have hl:=hpl.2.2
      have hl' : ((shw b).length:Int)≤1600:=by omega
      have hyes:(ZaK (ZC.mk eK eL (Box.mk eX eY eW eH) (Zi.mk (Pane.mk epW epH epT epK) eC) (Zj.mk eo ea ep et ek))).isSome=true:=by
       rw[V9 hnums hT hpl]
       exact Zrj hkr hok
      rw[hyes]
      by_cases k0:eK=0
      ·obtain⟨hX,hY⟩:=hok k0
       subst k0 hX hY
       simp +contextual -implicitDefEqProofs (maxSteps:=10^7) only[go_sem,seval,↓gZ,hge,e1,e2,hz,e3,e4,hl']
      ·simp +contextual -implicitDefEqProofs (maxSteps:=10^7) only[go_sem,seval,↓gZ,hge,k0,e1,e2,hz,e3,e4,hl']
     ·have hno:ZaK (ZC.mk eK eL (Box.mk eX eY eW eH) (Zi.mk (Pane.mk epW epH epT epK) eC) (Zj.mk eo ea ep et ek))=none:=Zde fun b' hb=>by
       rw[show Xb (ZC.plan (ZC.mk eK eL (Box.mk eX eY eW eH) (Zi.mk (Pane.mk epW epH epT epK) eC) (Zj.mk eo ea ep et ek)))=Xb (.mk eo ea ep et ek) from rfl,hT] at hb
       cases hb;exact hpl
      rw[hno]
      have e3:=Jx b
      rw[← hpb,Zj.enc_mk] at e3
      rcases XG 255 b with ⟨hc,hz⟩ | ⟨hc,hz⟩
      ·rw[hz] at e2
       have hz' : (0:Int)<b.cnt:=by have:=b.cnt_pos;omega
       cases hcb:VU b with
       | false=>
        rw[hcb] at e3
        by_cases k0:eK=0
        ·obtain⟨hX,hY⟩:=hok k0
         subst k0 hX hY
         simp +contextual -implicitDefEqProofs (maxSteps:=10^7) only[go_sem,seval,↓gZ,hge,e1,e2,hz',e3,Option.isSome_none]
        ·simp +contextual -implicitDefEqProofs (maxSteps:=10^7) only[go_sem,seval,↓gZ,hge,k0,e1,e2,hz',e3,Option.isSome_none]
       | true=>
        rw[hcb] at e3
        have e4:=UA b hcb (by omega)
        rw[← hpb,Zj.enc_mk] at e4
        have hl' : ¬((shw b).length:Int)≤1600:=fun h=>hpl ⟨by omega,hcb,by omega⟩
        by_cases k0:eK=0
        ·obtain⟨hX,hY⟩:=hok k0
         subst k0 hX hY
         simp +contextual -implicitDefEqProofs (maxSteps:=10^7) only[go_sem,seval,↓gZ,hge,e1,e2,hz',e3,e4,hl',Option.isSome_none]
        ·simp +contextual -implicitDefEqProofs (maxSteps:=10^7) only[go_sem,seval,↓gZ,hge,k0,e1,e2,hz',e3,e4,hl',Option.isSome_none]
      ·rw[hz] at e2
       by_cases k0:eK=0
       ·obtain⟨hX,hY⟩:=hok k0
        subst k0 hX hY
        simp +contextual -implicitDefEqProofs (maxSteps:=10^7) only[go_sem,seval,↓gZ,hge,e1,e2,Option.isSome_none]
       ·simp +contextual -implicitDefEqProofs (maxSteps:=10^7) only[go_sem,seval,↓gZ,hge,k0,e1,e2,Option.isSome_none]
   ·rw[decide_eq_false hkr] at e1
    have hno:ZaK (ZC.mk eK eL (Box.mk eX eY eW eH) (Zi.mk (Pane.mk epW epH epT epK) eC) (Zj.mk eo ea ep et ek))=none:=ZjB fun b=>Zrk hkr
    rw[hno]
    have k0:¬eK=0:=fun h=>hkr ⟨by omega,by omega⟩
    simp +contextual -implicitDefEqProofs (maxSteps:=10^7) only[go_sem,seval,↓gZ,hge,k0,e1,Option.isSome_none]
theorem Ze3 (n:Int) (h:six n):Zk Xs Ms Z1 [(.d (J n))] []=some (.d (.str (num n.toNat)),[]):=by
 have e:=WB n.toNat (by have:=h.2;have:=h.1;omega)
 rw[Int.toNat_of_nonneg h.1] at e
 exact e
theorem Zlc (eK eL eX eY eW eH epW epH:Int) (epT:Bool) (epK eC eo ea ep:Int) (et:Bool) (ek:List Zj) (v:Ev) (hv:ZaK (ZC.mk eK eL (Box.mk eX eY eW eH) (Zi.mk (Pane.mk epW epH epT epK) eC) (Zj.mk eo ea ep et ek))=some v):Zk Xs Ms Wc [(.d (.agg [J eK,J eL,J eX,J eY,J eW,J eH,J epW,J epH,.bool epT,J epK,J eC,J eo,J ea,J ep,.bool et,.sl (ek.map Zj.enc)]))] []=some (.d (.str v.text),[]):=by
 have hnums:∀ n∈Vm (ZC.mk eK eL (Box.mk eX eY eW eH) (Zi.mk (Pane.mk epW epH epT epK) eC) (Zj.mk eo ea ep et ek)),six n:=Classical.byContradiction fun h=>by rw[ZhF h] at hv;cases hv
 obtain⟨b,hb,hpl⟩:∃ b,Xb (.mk eo ea ep et ek)=some b∧Zlb b:=Classical.byContradiction fun h=>by
  rw[Zde (e:=(ZC.mk eK eL (Box.mk eX eY eW eH) (Zi.mk (Pane.mk epW epH epT epK) eC) (Zj.mk eo ea ep et ek))) fun b hb hp=>h ⟨b,hb,hp⟩] at hv;cases hv
 have hpb:=ZbI hb
 rw[V9 hnums hb hpl] at hv
 have e0:=Zkf
 simp only[Vm,List.mem_cons,List.not_mem_nil,or_false,forall_eq_or_imp,forall_eq] at hnums
 obtain⟨n1,n2,n3,n4,n5,n6,n7,n8,n9,n10⟩:=hnums
 have eL':=Ze3 eL n2
 have eX':=Ze3 eX n3
 have eY':=Ze3 eY n4
 have eW':=Ze3 eW n5
 have eH':=Ze3 eH n6
 have lL:=ZbU eL n2
 have lX:=ZbU eX n3
 have lY:=ZbU eY n4
 have lW:=ZbU eW n5
 have lH:=ZbU eH n6
 have hsx:Zk7 ⟨⟨epW,epH,epT,epK⟩,eC⟩:=⟨n10,n7,n8,n9⟩
 have e4:=Znq epW epH epT epK eC hsx
 have hwl:=Zct ⟨⟨epW,epH,epT,epK⟩,eC⟩ hsx
 have e5:=UA b hpl.2.1 (by have:=hpl.1;omega)
 rw[← hpb,Zj.enc_mk] at e5
 have hpl3:=hpl.2.2
 have hsl:(Zae ⟨⟨epW,epH,epT,epK⟩,eC⟩).length≤40:=hwl
 unfold WD at hv
 simp only at hv
 by_cases k0:eK=0
 ·rw[if_pos k0] at hv
  split at hv
  ·cases hv
   subst k0
   have ht:Ev.text (.sheet eL.toNat eW.toNat eH.toNat)=YM++[32]++num eL.toNat++[32]++num eW.toNat++[32]++num eH.toNat:=by simp[Ev.text,Ev.words,YK]
   rw[ht]
   generalize num eL.toNat=a at *
   generalize num eW.toNat=c at *
   generalize num eH.toNat=d at *
   have hw0:YM.length=5:=rfl
   have b0:YM.length+1≤1152921504606846976:=by omega
   have b1:YM.length+1+a.length≤1152921504606846976:=by omega
   have b2:YM.length+1+a.length+1≤1152921504606846976:=by omega
   have b3:YM.length+1+a.length+1+c.length≤1152921504606846976:=by omega
   have b4:YM.length+1+a.length+1+c.length+1≤1152921504606846976:=by omega
   have b5:YM.length+1+a.length+1+c.length+1+d.length≤1152921504606846976:=by omega
   refine Zc Xs Ms Qg Wa (by show 1≤_;decide) ?_
   simp +contextual -implicitDefEqProofs (maxSteps:=10^7) only[go_sem,seval,↓gZ,Qg,e0,eL',eW',eH',b0,b1,b2,b3,b4,b5]
  ·cases hv
 rw[if_neg k0] at hv
 by_cases k1:eK=1
 ·rw[if_pos k1] at hv
  cases hv
  subst k1
  have ht:Ev.text (.flaw eL.toNat eX.toNat eY.toNat eW.toNat eH.toNat)=Vl++[32]++num eL.toNat++[32]++num eX.toNat++[32]++num eY.toNat++[32]++num eW.toNat++[32]++num eH.toNat:=by simp[Ev.text,Ev.words,YK]
  rw[ht]
  generalize num eL.toNat=a at *
  generalize num eX.toNat=x at *
  generalize num eY.toNat=y at *
  generalize num eW.toNat=c at *
  generalize num eH.toNat=d at *
  have hw0:Vl.length=4:=rfl
  have b0:Vl.length+1≤1152921504606846976:=by omega
  have b1:Vl.length+1+a.length≤1152921504606846976:=by omega
  have b2:Vl.length+1+a.length+1≤1152921504606846976:=by omega
  have b3:Vl.length+1+a.length+1+x.length≤1152921504606846976:=by omega
  have b4:Vl.length+1+a.length+1+x.length+1≤1152921504606846976:=by omega
  have b5:Vl.length+1+a.length+1+x.length+1+y.length≤1152921504606846976:=by omega
  have b6:Vl.length+1+a.length+1+x.length+1+y.length+1≤1152921504606846976:=by omega
  have b7:Vl.length+1+a.length+1+x.length+1+y.length+1+c.length≤1152921504606846976:=by omega
  have b8:Vl.length+1+a.length+1+x.length+1+y.length+1+c.length+1≤1152921504606846976:=by omega
  have b9:Vl.length+1+a.length+1+x.length+1+y.length+1+c.length+1+d.length≤1152921504606846976:=by omega
  refine Zc Xs Ms Qg Wa (by show 1≤_;decide) ?_
  simp +contextual -implicitDefEqProofs (maxSteps:=10^7) only[go_sem,seval,↓gZ,Qg,e0,eL',eX',eY',eW',eH',b0,b1,b2,b3,b4,b5,b6,b7,b8,b9]
 rw[if_neg k1] at hv
 by_cases k2:eK=2
 ·rw[if_pos k2] at hv
  cases hv
  subst k2
  have ht:Ev.text (.order ⟨⟨epW,epH,epT,epK⟩,eC⟩)=VG++[32]++Zae ⟨⟨epW,epH,epT,epK⟩,eC⟩:=rfl
  rw[ht]
  generalize Zae ⟨⟨epW,epH,epT,epK⟩,eC⟩=a at *
  have hw0:VG.length=5:=rfl
  have b0:VG.length+1≤1152921504606846976:=by omega
  have b1:VG.length+1+a.length≤1152921504606846976:=by omega
  refine Zc Xs Ms Qg Wa (by show 1≤_;decide) ?_
  simp +contextual -implicitDefEqProofs (maxSteps:=10^7) only[go_sem,seval,↓gZ,Qg,e0,e4,b0,b1]
 rw[if_neg k2] at hv
 by_cases k3:eK=3
 ·rw[if_pos k3] at hv
  cases hv
  subst k3
  have ht:Ev.text (.cut eL.toNat b)=ZcM++[32]++num eL.toNat++[32]++shw b:=by simp[Ev.text,Ev.words,YK]
  rw[ht]
  generalize num eL.toNat=a at *
  generalize shw b=c at *
  have hw0:ZcM.length=3:=rfl
  have b0:ZcM.length+1≤1152921504606846976:=by omega
  have b1:ZcM.length+1+a.length≤1152921504606846976:=by omega
  have b2:ZcM.length+1+a.length+1≤1152921504606846976:=by omega
  have b3:ZcM.length+1+a.length+1+c.length≤1152921504606846976:=by omega
  refine Zc Xs Ms Qg Wa (by show 1≤_;decide) ?_
  simp +contextual -implicitDefEqProofs (maxSteps:=10^7) only[go_sem,seval,↓gZ,Qg,e0,eL',e5,b0,b1,b2,b3]
 rw[if_neg k3] at hv
 by_cases k4:eK=4
 ·rw[if_pos k4] at hv
  cases hv
  subst k4
  have ht:Ev.text (.brk ⟨⟨epW,epH,epT,epK⟩,eC⟩)=VH++[32]++Zae ⟨⟨epW,epH,epT,epK⟩,eC⟩:=rfl
  rw[ht]
  generalize Zae ⟨⟨epW,epH,epT,epK⟩,eC⟩=a at *
  have hw0:VH.length=5:=rfl
  have b0:VH.length+1≤1152921504606846976:=by omega
  have b1:VH.length+1+a.length≤1152921504606846976:=by omega
  refine Zc Xs Ms Qg Wa (by show 1≤_;decide) ?_
  simp +contextual -implicitDefEqProofs (maxSteps:=10^7) only[go_sem,seval,↓gZ,Qg,e0,e4,b0,b1]
 rw[if_neg k4] at hv
 by_cases k5:eK=5
 ·rw[if_pos k5] at hv
  cases hv
  subst k5
  have ht:Ev.text (.scrap eL.toNat)=Wn++[32]++num eL.toNat:=rfl
  rw[ht]
  generalize num eL.toNat=a at *
  have hw0:Wn.length=5:=rfl
  have b0:Wn.length+1≤1152921504606846976:=by omega
  have b1:Wn.length+1+a.length≤1152921504606846976:=by omega
  refine Zc Xs Ms Qg Wa (by show 1≤_;decide) ?_
  simp +contextual -implicitDefEqProofs (maxSteps:=10^7) only[go_sem,seval,↓gZ,Qg,e0,eL',b0,b1]
 ·rw[if_neg k5] at hv
  cases hv
theorem ZiL (eK eL eX eY eW eH epW epH:Int) (epT:Bool) (epK eC eo ea ep:Int) (et:Bool) (ek:List Zj):Zk Xs Ms Ye [(.d (.agg [J eK,J eL,J eX,J eY,J eW,J eH,J epW,J epH,.bool epT,J epK,J eC,J eo,J ea,J ep,.bool et,.sl (ek.map Zj.enc)]))] []=some (.d (.str (Zvo (ZC.mk eK eL (Box.mk eX eY eW eH) (Zi.mk (Pane.mk epW epH epT epK) eC) (Zj.mk eo ea ep et ek)))),[]):=by
 have e1:=Zge eK eL eX eY eW eH epW epH epT epK eC eo ea ep et ek
 cases hv:ZaK (ZC.mk eK eL (Box.mk eX eY eW eH) (Zi.mk (Pane.mk epW epH epT epK) eC) (Zj.mk eo ea ep et ek)) with
 | none=>
  rw[hv,Option.isSome_none] at e1
  rw[Zaf hv]
  refine Zc Xs Ms Yh ZeC (by show 1≤_;decide) ?_
  simp +contextual -implicitDefEqProofs (maxSteps:=10^7) only[go_sem,seval,↓gZ,Yh,e1]
 | some v=>
  have e2:=Zlc eK eL eX eY eW eH epW epH epT epK eC eo ea ep et ek v hv
  rw[hv,Option.isSome_some] at e1
  rw[W3 hv]
  refine Zc Xs Ms Yh ZeC (by show 1≤_;decide) ?_
  simp +contextual -implicitDefEqProofs (maxSteps:=10^7) only[go_sem,seval,↓gZ,Yh,e1,e2]
def evZ:ZC:=⟨0,0,bx0,ln0,BT.waste.plan⟩
def evM (m:Option Ev):ZC:=match m with
 | some v=>v.ev
 | none=>evZ
def PeR (res:Option (AV×List Zl)) (m:Option Ev):Prop:=∃ (K L X Y W H pW pH:Int) (pT:Bool) (pK C o a q:Int) (t:Bool) (ks:List Zj),
 res=some (.tup [.agg [(.d (J K)),(.d (J L)),(.d (J X)),(.d (J Y)),(.d (J W)),(.d (J H)),(.d (J pW)),(.d (J pH)),(.d (.bool pT)),(.d (J pK)),(.d (J C)),(.d (J o)),(.d (J a)),(.d (J q)),(.d (.bool t)),.own 0],(.d (.bool (m.isSome)))],[.row 5 (ks.map Zj.enc) true false]) ∧
 ZC.mk K L ⟨X,Y,W,H⟩ ⟨⟨pW,pH,pT,pK⟩,C⟩ (.mk o a q t ks)=evM m
theorem ZgM {res:Option (AV×List Zl)} (h:res=some (.tup [.agg [(.d (J 0)),(.d (J 0)),(.d (J 0)),(.d (J 0)),(.d (J 0)),(.d (J 0)),(.d (J 0)),(.d (J 0)),(.d (.bool false)),(.d (J 0)),(.d (J 0)),(.d (J 0)),(.d (J 0)),(.d (J 0)),(.d (.bool false)),.own 0],(.d (.bool false))],[.row 5 [] true false])):PeR res none:=
 ⟨0,0,0,0,0,0,0,0,false,0,0,0,0,0,false,[],h,rfl⟩
def rcM (s:List UInt8):Option Ev:=match XY 32 s with
 | none=>none
 | some i=>(rd (s.take i)).bind fun l=>(Zs0 (s.drop (i+1))).bind fun b=>some (.cut l b)
theorem ZwX:Zs0 []=none:=rfl
theorem ZpJ (s:List UInt8) (hs:s.length≤1000000):PeR (Zk Xs Ms Jg [.d (.str s)] []) (rcM s):=by
 have e1:=Ze1 s 32 hs
 unfold rcM
 cases hi:XY 32 s with
 | none=>
  rw[hi] at e1
  simp only at e1 ⊢
  have e2:=UV s
  obtain⟨o,a,q,t,ks,e3,h3⟩:=Ze0 [] (by simp)
  rw[ZwX] at e3
  simp only[Option.isSome_none] at e3
  refine ZgM ?_
  cases hr:rd s with
  | none=>
   rw[hr] at e2
   simp only[ZdT] at e2
   refine Zc Xs Ms Xg ZaL (by show 1≤_;decide) ?_
   simp +contextual -implicitDefEqProofs (maxSteps:=10^7) only[go_sem,seval,↓gZ,Xg,e1,e2,e3]
  | some v=>
   rw[hr] at e2
   simp only[ZdT] at e2
   refine Zc Xs Ms Xg ZaL (by show 1≤_;decide) ?_
   simp +contextual -implicitDefEqProofs (maxSteps:=10^7) only[go_sem,seval,↓gZ,Xg,e1,e2,e3]
 | some i=>
  rw[hi] at e1
  simp only at e1 ⊢
  have e2:=UV (s.take i)
  obtain⟨o,a,q,t,ks,e3,h3⟩:=Ze0 (s.drop (i+1)) (by simp;omega)
  cases hr:rd (s.take i) with
  | none=>
   rw[hr] at e2
   simp only[ZdT] at e2
   refine ZgM ?_
   refine Zc Xs Ms Xg ZaL (by show 1≤_;decide) ?_
   simp +contextual -implicitDefEqProofs (maxSteps:=10^7) only[go_sem,seval,↓gZ,Xg,e1,e2,e3]
  | some v=>
   rw[hr] at e2
   simp only[ZdT] at e2
   cases hp:Zs0 (s.drop (i+1)) with
   | none=>
    rw[hp] at e3
    simp only[Option.isSome_none] at e3
    refine ZgM ?_
    refine Zc Xs Ms Xg ZaL (by show 1≤_;decide) ?_
    simp +contextual -implicitDefEqProofs (maxSteps:=10^7) only[go_sem,seval,↓gZ,Xg,e1,e2,e3]
   | some b=>
    rw[hp] at e3 h3
    simp only[Option.isSome_some] at e3
    refine⟨3,v,0,0,0,0,0,0,false,0,0,o,a,q,t,ks,?_,?_⟩
    ·refine Zc Xs Ms Xg ZaL (by show 1≤_;decide) ?_
     simp +contextual -implicitDefEqProofs (maxSteps:=10^7) only[go_sem,seval,↓gZ,Xg,e1,e2,e3]
     all_goals rfl
    ·rw[h3];rfl
theorem ZhG (w:List UInt8) (vs:List Nat) (hl:vs.length≤2000000):PeR (Zk Xs Ms Yt [.d (.str w),.d (.sl ((vs.map fun n:Nat=>(n:Int)).map YF))] []) (ZdX w vs):=by
 by_cases h3:w=YM∧vs.length=3
 ·obtain⟨rfl,h⟩:=h3
  obtain⟨a,b,c,rfl⟩:∃ a b c,vs=[a,b,c]:=by
   match vs,h with
   | [a,b,c],_=>exact⟨a,b,c,rfl⟩
  refine⟨0,a,0,0,b,c,0,0,false,0,0,0,0,0,false,[],?_,rfl⟩
  simp only[List.map_cons,List.map_nil,YF,YM]
  refine Zc Xs Ms ZL XL (by show 2≤_;decide) ?_
  simp +contextual -implicitDefEqProofs (maxSteps:=10^7) only[go_sem,seval,↓gZ,ZL]
  all_goals rfl
 by_cases h5:w=Vl∧vs.length=5
 ·obtain⟨rfl,h⟩:=h5
  obtain⟨a,b,c,d,f,rfl⟩:∃ a b c d f,vs=[a,b,c,d,f]:=by
   match vs,h with
   | [a,b,c,d,f],_=>exact⟨a,b,c,d,f,rfl⟩
  refine⟨1,a,b,c,d,f,0,0,false,0,0,0,0,0,false,[],?_,rfl⟩
  have q1:(Vl==[115,104,101,101,116])=false:=rfl
  have q2:(Vl==[102,108,97,119])=true:=rfl
  simp only[List.map_cons,List.map_nil,YF]
  refine Zc Xs Ms ZL XL (by show 2≤_;decide) ?_
  simp +contextual -implicitDefEqProofs (maxSteps:=10^7) only[go_sem,seval,↓gZ,ZL,q1,q2]
  all_goals rfl
 by_cases h1:w=Wn∧vs.length=1
 ·obtain⟨rfl,h⟩:=h1
  obtain⟨a,rfl⟩:∃ a,vs=[a]:=by
   match vs,h with
   | [a],_=>exact⟨a,rfl⟩
  refine⟨5,a,0,0,0,0,0,0,false,0,0,0,0,0,false,[],?_,rfl⟩
  have q1:(Wn==[115,104,101,101,116])=false:=rfl
  have q2:(Wn==[102,108,97,119])=false:=rfl
  have q3:(Wn==[115,99,114,97,112])=true:=rfl
  simp only[List.map_cons,List.map_nil,YF]
  refine Zc Xs Ms ZL XL (by show 2≤_;decide) ?_
  simp +contextual -implicitDefEqProofs (maxSteps:=10^7) only[go_sem,seval,↓gZ,ZL,q1,q2,q3]
  all_goals rfl
 ·have hno:ZdX w vs=none:=by
   unfold ZdX
   split
   ·rw[if_neg (fun e=>h1 ⟨e,rfl⟩)]
   ·rw[if_neg (fun e=>h3 ⟨e,rfl⟩)]
   ·rw[if_neg (fun e=>h5 ⟨e,rfl⟩)]
   ·rfl
  rw[hno]
  refine ZgM ?_
  have p1:(w==[115,104,101,101,116])=true→¬(vs.length:Int)=3:=fun h e=>h3 ⟨by simpa [YM] using h,by omega⟩
  have p2:(w==[102,108,97,119])=true→¬(vs.length:Int)=5:=fun h e=>h5 ⟨by simpa [Vl] using h,by omega⟩
  have p3:(w==[115,99,114,97,112])=true→¬(vs.length:Int)=1:=fun h e=>h1 ⟨by simpa [Wn] using h,by omega⟩
  cases q1:(w==[115,104,101,101,116]) with
  | true=>
   have e:w=YM:=by simpa [YM] using q1
   have q2:(w==[102,108,97,119])=false:=by rw[e];rfl
   have q3:(w==[115,99,114,97,112])=false:=by rw[e];rfl
   have p1:=p1 q1
   refine Zc Xs Ms ZL XL (by show 2≤_;decide) ?_
   simp +contextual -implicitDefEqProofs (maxSteps:=10^7) only[go_sem,seval,↓gZ,ZL,q1,q2,q3,p1,List.length_map]
  | false=>
   cases q2:(w==[102,108,97,119]) with
   | true=>
    have e:w=Vl:=by simpa [Vl] using q2
    have q3:(w==[115,99,114,97,112])=false:=by rw[e];rfl
    have p2:=p2 q2
    refine Zc Xs Ms ZL XL (by show 2≤_;decide) ?_
    simp +contextual -implicitDefEqProofs (maxSteps:=10^7) only[go_sem,seval,↓gZ,ZL,q1,q2,q3,p2,List.length_map]
   | false=>
    cases q3:(w==[115,99,114,97,112]) with
    | true=>
     have p3:=p3 q3
     refine Zc Xs Ms ZL XL (by show 2≤_;decide) ?_
     simp +contextual -implicitDefEqProofs (maxSteps:=10^7) only[go_sem,seval,↓gZ,ZL,q1,q2,q3,p3,List.length_map]
    | false=>
     refine Zc Xs Ms ZL XL (by show 2≤_;decide) ?_
     simp +contextual -implicitDefEqProofs (maxSteps:=10^7) only[go_sem,seval,↓gZ,ZL,q1,q2,q3]
theorem Zld:∀ ws:List (List UInt8),Zbf ws=(Za2 ws).map fun ns=>ns.map fun n:Nat=>(n:Int)
 | []=>rfl
 | w :: r=>by
  simp only[Zbf,Za2,Zld r]
  cases rd w with
  | none=>rfl
  | some v=>cases Za2 r<;>rfl
theorem prsP_some {s : List UInt8} {b : BT} : Zs0 s = some b ↔ s.length ≤ 1600 ∧ s = shw b ∧ b.cnt ≤ 255 ∧ VU b = true := by
  unfold Zs0
  by_cases h : s.length ≤ 1600
  · rw [if_pos h, Zjz]
    exact ⟨fun h' => ⟨h, h'⟩, fun h' => h'.2⟩
  · rw [if_neg h]
    constructor
    · intro h'; cases h'
    · intro h'; exact absurd h'.1 h
theorem Zrl (s:List UInt8):Zur (Qx 32 s)=rcM s:=by
 rw[ZfK]
 unfold rcM
 cases hi:XY 32 s with
 | none=>rfl
 | some i=>
  simp only
  rw[ZfK 32 (s.drop (i+1))]
  cases hj:XY 32 (s.drop (i+1)) with
  | none=>rfl
  | some j=>
   simp only
   have hno:Zs0 (s.drop (i+1))=none:=by
    cases hp:Zs0 (s.drop (i+1)) with
    | none=>rfl
    | some b=>
     obtain⟨_,h2,_⟩:=prsP_some.1 hp
     obtain⟨h3,_⟩:=Zdb hj
     have h4:(32:UInt8)∉shw b:=ZpI rfl (by decide) b
     rw[← h2] at h4
     exact absurd (by rw[h3];simp) h4
   rw[hno]
   have hne:=ZfJ 32 ((s.drop (i+1)).drop (j+1))
   cases hs:Qx 32 ((s.drop (i+1)).drop (j+1)) with
   | nil=>exact absurd hs hne
   | cons x r=>cases rd (s.take i)<;>rfl
def Zle (w rest:List UInt8):Option Ev:=if w=VG then (ZeK (Qx 32 rest)).bind fun n=>some (.order n)
 else if w=VH then (ZeK (Qx 32 rest)).bind fun n=>some (.brk n)
 else if w=ZcM then rcM rest else (Za2 (Qx 32 rest)).bind (ZdX w)
theorem ZwY (s:List UInt8):rdEv s=match XY 32 s with
  | none=>Zle s []
  | some i=>Zle (s.take i) (s.drop (i+1)):=by
 unfold rdEv Zle
 rw[ZfK]
 cases hi:XY 32 s with
 | none=>
  simp only[W1]
  by_cases h1:s=VG
  ·rw[if_pos h1,if_pos h1];rfl
  rw[if_neg h1,if_neg h1]
  by_cases h2:s=VH
  ·rw[if_pos h2,if_pos h2];rfl
  rw[if_neg h2,if_neg h2]
  by_cases h3:s=ZcM
  ·rw[if_pos h3,if_pos h3];rfl
  rw[if_neg h3,if_neg h3]
  rfl
 | some i=>
  simp only[W1,Zrl]
theorem Zkg (s:List UInt8) (hs:s.length≤1000000):PeR (Zk Xs Ms Yw [.d (.str s)] []) (rdEv s):=by
 have e1:=Ze1 s 32 hs
 have main:∀ (w rest:List UInt8) (f:Bool),rest.length≤s.length→Zk Xs Ms Yo [.d (.str s),.d (.str [32])] []=some (.tup [.d (.str w),.d (.str rest),(.d (.bool f))],[])→PeR (Zk Xs Ms Yw [.d (.str s)] []) (Zle w rest):=by
  intro w rest f hr e1
  have e2:=Zno rest (by omega)
  unfold Zle
  by_cases h1:w=VG∨w=VH
  ·rcases h1 with rfl | rfl
   ·rw[if_pos rfl]
    have q1:(VG==[111,114,100,101,114])=true:=rfl
    have q2:(VG==[98,114,101,97,107])=false:=rfl
    cases hl:ZeK (Qx 32 rest) with
    | none=>
     rw[hl] at e2
     simp only[rlV] at e2
     refine ZgM ?_
     refine Zc Xs Ms ZW Yv (by show 1≤_;decide) ?_
     simp +contextual -implicitDefEqProofs (maxSteps:=10^7) only[go_sem,seval,↓gZ,ZW,e1,q1,q2,e2]
    | some l=>
     obtain⟨⟨W,H,T,K⟩,C⟩:=l
     rw[hl] at e2
     simp only[rlV,Zi.enc] at e2
     refine⟨2,0,0,0,0,0,W,H,T,K,C,0,0,0,false,[],?_,rfl⟩
     refine Zc Xs Ms ZW Yv (by show 1≤_;decide) ?_
     simp +contextual -implicitDefEqProofs (maxSteps:=10^7) only[go_sem,seval,↓gZ,ZW,e1,q1,q2,e2]
     all_goals rfl
   ·rw[if_neg (by decide),if_pos rfl]
    have q1:(VH==[111,114,100,101,114])=false:=rfl
    have q2:(VH==[98,114,101,97,107])=true:=rfl
    cases hl:ZeK (Qx 32 rest) with
    | none=>
     rw[hl] at e2
     simp only[rlV] at e2
     refine ZgM ?_
     refine Zc Xs Ms ZW Yv (by show 1≤_;decide) ?_
     simp +contextual -implicitDefEqProofs (maxSteps:=10^7) only[go_sem,seval,↓gZ,ZW,e1,q1,q2,e2]
    | some l=>
     obtain⟨⟨W,H,T,K⟩,C⟩:=l
     rw[hl] at e2
     simp only[rlV,Zi.enc] at e2
     refine⟨4,0,0,0,0,0,W,H,T,K,C,0,0,0,false,[],?_,rfl⟩
     refine Zc Xs Ms ZW Yv (by show 1≤_;decide) ?_
     simp +contextual -implicitDefEqProofs (maxSteps:=10^7) only[go_sem,seval,↓gZ,ZW,e1,q1,q2,e2]
     all_goals rfl
  have n1:¬w=VG:=fun h=>h1 (.inl h)
  have n2:¬w=VH:=fun h=>h1 (.inr h)
  have q1:(w==[111,114,100,101,114])=false:=by simpa [VG] using n1
  have q2:(w==[98,114,101,97,107])=false:=by simpa [VH] using n2
  rw[if_neg n1,if_neg n2]
  by_cases h3:w=ZcM
  ·rw[if_pos h3]
   have q3:(w==[99,117,116])=true:=by rw[h3];rfl
   obtain⟨K,L,X,Y,W,H,pW,pH,pT,pK,C,o,a,q,t,ks,e3,h⟩:=ZpJ rest (by omega)
   refine⟨K,L,X,Y,W,H,pW,pH,pT,pK,C,o,a,q,t,ks,?_,h⟩
   refine Zc Xs Ms ZW Yv (by show 1≤_;decide) ?_
   simp +contextual -implicitDefEqProofs (maxSteps:=10^7) only[go_sem,seval,↓gZ,ZW,e1,q1,q2,q3,e3]
  ·rw[if_neg h3]
   have q3:(w==[99,117,116])=false:=by simpa [ZcM] using h3
   have e3:=Zdc rest 32 (by omega)
   have hc:(Qx 32 rest).length≤1000001:=by rw[ZiG];have:rest.count 32≤rest.length:=List.count_le_length;omega
   generalize Qx 32 rest=ws at e3 hc
   have e4:=Zdd ws (by omega)
   have htk:List.take ws.length (List.map D.str ws)=List.map D.str ws:=List.take_of_length_le (by simp)
   rw[Zld] at e4
   cases hn:Za2 ws with
   | none=>
    rw[hn] at e4
    simp only[Option.map_none,rnV] at e4
    refine ZgM ?_
    refine Zc Xs Ms ZW Yv (by show 1≤_;decide) ?_
    simp +contextual -implicitDefEqProofs (maxSteps:=10^7) only[go_sem,seval,↓gZ,ZW,e1,q1,q2,q3,e3,e4,htk,List.drop_zero]
   | some ns=>
    rw[hn] at e4
    simp only[Option.map_some,rnV] at e4
    have hns:ns.length≤1000001:=by
     have:=(Ze2 hn).1
     rw[this,List.length_map] at hc
     exact hc
    simp only[Option.bind_some]
    obtain⟨K,L,X,Y,W,H,pW,pH,pT,pK,C,o,a,q,t,ks,e5,h⟩:=ZhG w ns (by omega)
    refine⟨K,L,X,Y,W,H,pW,pH,pT,pK,C,o,a,q,t,ks,?_,h⟩
    refine Zc Xs Ms ZW Yv (by show 1≤_;decide) ?_
    simp +contextual -implicitDefEqProofs (maxSteps:=10^7) only[go_sem,seval,↓gZ,ZW,e1,q1,q2,q3,e3,e4,htk,List.drop_zero,e5]
 rw[ZwY]
 cases hi:XY 32 s with
 | none=>
  rw[hi] at e1
  exact main _ _ _ (by simp) e1
 | some i=>
  rw[hi] at e1
  exact main _ _ _ (by simp) e1
theorem ZbV:Zlb .waste:=⟨by decide,rfl,by decide⟩
theorem ZyS {v:Ev} (h:v.ok):ZaK v.ev=some v:=by
 cases v with
 | sheet l w g=>
  obtain⟨h1,h2,h3⟩:=h
  rw[V9 (b:=.waste) (by simp[Vm,Ev.ev,six,ln0];omega) (Wm .waste) ZbV]
  simp[WD,Ev.ev]
 | flaw l x y w g=>
  obtain⟨h1,h2,h3,h4,h5⟩:=h
  rw[V9 (b:=.waste) (by simp[Vm,Ev.ev,six,ln0];omega) (Wm .waste) ZbV]
  simp[WD,Ev.ev]
 | order n=>
  obtain⟨h1,h2,h3,h4⟩:=h
  simp only[six] at h1 h2 h3 h4
  rw[V9 (b:=.waste) (by simp[Vm,Ev.ev,six,bx0];omega) (Wm .waste) ZbV]
  simp[WD,Ev.ev]
 | cut l b=>
  obtain⟨h1,h2⟩:=h
  rw[V9 (b:=b) (by simp[Vm,Ev.ev,six,bx0,ln0];omega) (Wm b) h2]
  simp[WD,Ev.ev]
 | brk n=>
  obtain⟨h1,h2,h3,h4⟩:=h
  simp only[six] at h1 h2 h3 h4
  rw[V9 (b:=.waste) (by simp[Vm,Ev.ev,six,bx0];omega) (Wm .waste) ZbV]
  simp[WD,Ev.ev]
 | scrap l=>
  have h1:l≤999999:=h
  rw[V9 (b:=.waste) (by simp[Vm,Ev.ev,six,bx0,ln0];omega) (Wm .waste) ZbV]
  simp[WD,Ev.ev]
theorem ZyT {e:ZC} {v:Ev} (hv:ZaK e=some v):v.ok∧v.ev.kind=e.kind:=by
 have hnums:∀ n∈Vm e,six n:=Classical.byContradiction fun h=>by rw[ZhF h] at hv;cases hv
 obtain⟨b,hb,hpl⟩:∃ b,Xb e.plan=some b∧Zlb b:=Classical.byContradiction fun h=>by
  rw[Zde (e:=e) fun b hb hp=>h ⟨b,hb,hp⟩] at hv;cases hv
 rw[V9 hnums hb hpl] at hv
 simp only[Vm,List.mem_cons,List.not_mem_nil,or_false,forall_eq_or_imp,forall_eq] at hnums
 obtain⟨n1,n2,n3,n4,n5,n6,n7,n8,n9,n10⟩:=hnums
 have hsx:Zk7 e.line:=⟨n10,n7,n8,n9⟩
 simp only[six] at n2 n3 n4 n5 n6
 unfold WD at hv
 by_cases k0:e.kind=0
 ·rw[if_pos k0] at hv
  split at hv
  ·cases hv
   exact⟨⟨by omega,by omega,by omega⟩,k0.symm⟩
  ·cases hv
 rw[if_neg k0] at hv
 by_cases k1:e.kind=1
 ·rw[if_pos k1] at hv
  cases hv
  exact⟨⟨by omega,by omega,by omega,by omega,by omega⟩,k1.symm⟩
 rw[if_neg k1] at hv
 by_cases k2:e.kind=2
 ·rw[if_pos k2] at hv
  cases hv
  exact⟨hsx,k2.symm⟩
 rw[if_neg k2] at hv
 by_cases k3:e.kind=3
 ·rw[if_pos k3] at hv
  cases hv
  exact⟨⟨by omega,hpl⟩,k3.symm⟩
 rw[if_neg k3] at hv
 by_cases k4:e.kind=4
 ·rw[if_pos k4] at hv
  cases hv
  exact⟨hsx,k4.symm⟩
 rw[if_neg k4] at hv
 by_cases k5:e.kind=5
 ·rw[if_pos k5] at hv
  cases hv
  exact⟨by show e.label.toNat≤999999;omega,k5.symm⟩
 ·rw[if_neg k5] at hv
  cases hv
theorem Zvr {v:Ev} (h:v.ok):v.words.length≤6∧∀ w∈v.words,w.length≤1600:=by
 have nl:∀ n:Nat,n≤999999→(num n).length≤1600:=fun n hn=>by have:=YI 5 n (by omega);omega
 have ln:∀ l:Zi,Zk7 l→(X6 l).length=5∧∀ w∈X6 l,w.length≤1600:=by
  intro l hl
  obtain⟨h1,h2,h3,h4⟩:=hl
  simp only[six] at h1 h2 h3 h4
  refine⟨rfl,fun w hw=>?_⟩
  simp only[X6,List.mem_cons,List.not_mem_nil,or_false] at hw
  rcases hw with rfl | rfl | rfl | rfl | rfl
  ·exact nl _ (by omega)
  ·exact nl _ (by omega)
  ·exact nl _ (by omega)
  ·cases l.Pane.Turns<;>decide
  ·exact nl _ (by omega)
 cases v with
 | sheet l w g=>
  obtain⟨h1,h2,h3⟩:=h
  refine⟨by simp[Ev.words],fun x hx=>?_⟩
  simp only[Ev.words,List.mem_cons,List.not_mem_nil,or_false] at hx
  rcases hx with rfl | rfl | rfl | rfl
  ·decide
  ·exact nl _ h1
  ·exact nl _ h2
  ·exact nl _ h3
 | flaw l a b w g=>
  obtain⟨h1,h2,h3,h4,h5⟩:=h
  refine⟨by simp[Ev.words],fun x hx=>?_⟩
  simp only[Ev.words,List.mem_cons,List.not_mem_nil,or_false] at hx
  rcases hx with rfl | rfl | rfl | rfl | rfl | rfl
  ·decide
  ·exact nl _ h1
  ·exact nl _ h2
  ·exact nl _ h3
  ·exact nl _ h4
  ·exact nl _ h5
 | order n=>
  obtain⟨g1,g2⟩:=ln n h
  refine⟨by simp only[Ev.words,List.length_cons];omega,fun x hx=>?_⟩
  rcases List.mem_cons.1 hx with rfl | hx
  ·decide
  ·exact g2 x hx
 | cut l b=>
  obtain⟨h1,h2⟩:=h
  refine⟨by simp[Ev.words],fun x hx=>?_⟩
  simp only[Ev.words,List.mem_cons,List.not_mem_nil,or_false] at hx
  rcases hx with rfl | rfl | rfl
  ·decide
  ·exact nl _ h1
  ·exact h2.2.2
 | brk n=>
  obtain⟨g1,g2⟩:=ln n h
  refine⟨by simp only[Ev.words,List.length_cons];omega,fun x hx=>?_⟩
  rcases List.mem_cons.1 hx with rfl | hx
  ·decide
  ·exact g2 x hx
 | scrap l=>
  refine⟨by simp[Ev.words],fun x hx=>?_⟩
  simp only[Ev.words,List.mem_cons,List.not_mem_nil,or_false] at hx
  rcases hx with rfl | rfl
  ·decide
  ·exact nl _ h
theorem ZwZ {v:Ev} (h:v.ok):v.text.length≤20000:=by
 obtain⟨h1,h2⟩:=Zvr h
 have h3:=ZiJ 32 1600 v.words h2
 have:v.words.length*1601≤6*1601:=Nat.mul_le_mul_right _ h1
 unfold Ev.text
 omega
theorem ZyU (v:Ev):(v.text==[])=false:=by cases v<;>rfl
theorem Ze4 (code:List UInt8):∃ (K L X Y W H pW pH:Int) (pT:Bool) (pK C o a q:Int) (t:Bool) (ks:List Zj),Zk Xs Ms XD [.d (.sl (code.map Jr))] [] =
  some (.agg [(.d (J K)),(.d (J L)),(.d (J X)),(.d (J Y)),(.d (J W)),(.d (J H)),(.d (J pW)),(.d (J pH)),(.d (.bool pT)),(.d (J pK)),(.d (J C)),(.d (J o)),(.d (J a)),(.d (J q)),(.d (.bool t)),.own 0],[.row 5 (ks.map Zj.enc) true false]):=by
 obtain⟨r,e1,S,O,D,L',C',f,g,h,K,L,X,Y,W,H,pW,pH,pT,pK,C,o,a,q,t,ks,_,_,rfl⟩:=Zgd code
 refine⟨K,L,X,Y,W,H,pW,pH,pT,pK,C,o,a,q,t,ks,?_⟩
 refine Zc Xs Ms Yi Zgf (by show 1≤_;decide) ?_
 simp +contextual -implicitDefEqProofs (maxSteps:=10^7) only[go_sem,seval,↓gZ,Yi,e1]
theorem ZgN (code:List UInt8):Zk Xs Ms YT [.d (.sl (code.map Jr))] []=some ((.d (.bool true)),[]):=by
 by_cases hc:code.length≤1048576
 ·have hc' : ¬(1048576:Int)<(code.length:Int):=by omega
  obtain⟨K,L,X,Y,W,H,pW,pH,pT,pK,C,o,a,q,t,ks,e1⟩:=Ze4 code
  have e2:=Zdf K L X Y W H pW pH pT pK C o a q t ks
  have e3:=ZiL K L X Y W H pW pH pT pK C o a q t ks
  cases hv:ZaK ⟨K,L,⟨X,Y,W,H⟩,⟨⟨pW,pH,pT,pK⟩,C⟩,.mk o a q t ks⟩ with
  | none=>
   rw[Zaf hv] at e2 e3
   refine Zc Xs Ms QH Jy (by show 1≤_;decide) ?_
   simp +contextual -implicitDefEqProofs (maxSteps:=10^7) only[go_sem,seval,↓gZ,QH,hc',e1,e2,e3]
  | some v=>
   rw[W3 hv] at e2 e3
   obtain⟨hok,hk⟩:=ZyT hv
   simp only at hk
   obtain⟨K',L',X',Y',W',H',pW',pH',pT',pK',C',o',a',q',t',ks',e4,h4⟩:=Zkg v.text (by have:=ZwZ hok;omega)
   rw[Zvn.2 ⟨rfl,hok⟩] at e4 h4
   simp only[evM] at h4
   simp only[Option.isSome_some] at e4
   have hk' : K'=K:=by
    have:=congrArg ZC.kind h4
    simp only at this
    omega
   have e5:=Zdf K' L' X' Y' W' H' pW' pH' pT' pK' C' o' a' q' t' ks'
   rw[h4,W3 (ZyS hok)] at e5
   have hne:=ZyU v
   have hself:(v.text==v.text)=true:=by simp
   subst hk'
   generalize v.text=tx at *
   refine Zc Xs Ms QH Jy (by show 1≤_;decide) ?_
   simp +contextual -implicitDefEqProofs (maxSteps:=10^7) only[go_sem,seval,↓gZ,QH,hc',e1,e2,e3,hne,hself,e4,e5]
 ·have hc' : (1048576:Int)<(code.length:Int):=by omega
  refine Zc Xs Ms QH Jy (by show 1≤_;decide) ?_
  simp +contextual -implicitDefEqProofs (maxSteps:=10^7) only[go_sem,seval,↓gZ,QH,hc']
end Go.Proofs.YtkdjbefmiiibpaaGreatDoor
