/- Contracts of the functions,by the abstract semantics. -/
import Derived.Test.YtemkonmgcoceaaaDoorACode
import Derived.Test.YtemkonmgcoceaaaDoorAbsParts
import Derived.Test.YtemkonmgcoceaaaDoorAC2
import Derived.Test.YtemkonmgcoceaaaDoorAbsOkD
namespace Go.Proofs.YtemkonmgcoceaaaDoor
open Go Go.Abs Go.Abs.E Go.Abs.L
open Nat (reduceMul reduceSub reduceLeDiff reduceEqDiff)
open Int (reduceLE reduceEq reduceToNat reduceNeg)
set_option linter.unusedSimpArgs false
set_option linter.unusedVariables false
set_option maxRecDepth 20000
set_option maxHeartbeats 4000000
theorem Zlx (p:Ze):Zlt p=[]∨∃ b,p=b.plan∧b.cnt≤255∧VD b=true∧Zlt p=shw b:=by
 cases h:QC p with
 | none=>exact .inl (ZhY h)
 | some b=>
  rw[Zd6 h]
  by_cases hc:b.cnt≤255∧VD b=true
  ·rw[if_pos hc]
   exact .inr ⟨b,Zab h,hc.1,hc.2,rfl⟩
  ·rw[if_neg hc];exact .inl rfl
def Wb:List UInt8:=[115,104,101,101,116]
def WC:List UInt8:=[102,108,97,119]
def Zd7:List UInt8:=[111,114,100,101,114]
def ZfS:List UInt8:=[99,117,116]
def Zd8:List UInt8:=[98,114,101,97,107]
def Zaj:List UInt8:=[115,99,114,97,112]
inductive Ev where
 | sheet (l w h:Nat)
 | flaw (l x y w h:Nat)
 | order (n:QF)
 | cut (l:Nat) (b:BT)
 | brk (n:QF)
 | scrap (l:Nat)
deriving DecidableEq
def bx0:Box:=⟨0,0,0,0⟩
def ln0:QF:=⟨⟨0,0,false,0⟩,0⟩
def Ev.ev:Ev→Zt
 | .sheet l w h=>⟨0,l,⟨0,0,w,h⟩,ln0,BT.waste.plan⟩
 | .flaw l x y w h=>⟨1,l,⟨x,y,w,h⟩,ln0,BT.waste.plan⟩
 | .order n=>⟨2,0,bx0,n,BT.waste.plan⟩
 | .cut l b=>⟨3,l,bx0,ln0,b.plan⟩
 | .brk n=>⟨4,0,bx0,n,BT.waste.plan⟩
 | .scrap l=>⟨5,l,bx0,ln0,BT.waste.plan⟩
def Ev.words:Ev→List (List UInt8)
 | .sheet l w h=>[Wb,num l,num w,num h]
 | .flaw l x y w h=>[WC,num l,num x,num y,num w,num h]
 | .order n=>Zd7 :: Yp n
 | .cut l b=>[ZfS,num l,shw b]
 | .brk n=>Zd8 :: Yp n
 | .scrap l=>[Zaj,num l]
def Ev.text (v:Ev):List UInt8:=Yo 32 v.words
def Zi2 (b:BT):Prop:=b.cnt≤255∧VD b=true∧(shw b).length≤1600
instance (b:BT):Decidable (Zi2 b):=by unfold Zi2;infer_instance
def Ev.ok:Ev→Prop
 | .sheet l w h=>l≤999999∧w≤999999∧h≤999999
 | .flaw l x y w h=>l≤999999∧x≤999999∧y≤999999∧w≤999999∧h≤999999
 | .order n=>Zi1 n
 | .cut l b=>l≤999999∧Zi2 b
 | .brk n=>Zi1 n
 | .scrap l=>l≤999999
def Ut (l:List Ev):List UInt8:=Za5 Ev.text l
theorem Zd9 (c:UInt8) (m:Nat):∀ ws:List (List UInt8),(∀ w∈ws,w.length≤m)→(Yo c ws).length≤ws.length*(m+1)
 | [],_=>by simp[Yo]
 | [x],h=>by have:=h x (by simp);simp[Yo];omega
 | x :: y :: r,h=>by
  have ih:=Zd9 c m (y :: r) (fun w hw=>h w (by simp[hw]))
  have hx:=h x (by simp)
  simp only[Yo,List.length_append,List.length_cons] at ih ⊢
  rw[Nat.add_mul _ 1]
  omega
theorem Uu (n:Int) (h:six n):(num n.toNat).length≤6:=Xw 5 n.toNat (by have:=h.1;have:=h.2;omega)
theorem YK (w:List UInt8) (ns:List Int) (hl:ns.length≤10) (h6:∀ n∈ns,six n) (hw:w.length≤10):Zv Xs Ms Qv [.d (.str w),.d (.sl (ns.map Ju))] []=some (.d (.str (Yo 32 (w :: ns.map fun n=>num n.toNat))),[]):=by
 have hlen:(Yo 32 (w :: ns.map fun n=>num n.toNat)).length≤1000:=by
  have:=Zd9 32 10 (w :: ns.map fun n=>num n.toNat) (by
   intro x hx
   rcases List.mem_cons.1 hx with rfl | hx
   ·exact hw
   ·obtain⟨n,hn,rfl⟩:=List.mem_map.1 hx
    have:=Uu n (h6 n hn)
    omega)
  simp only[List.length_cons,List.length_map] at this
  omega
 have hj:=ZaU (w :: ns.map fun n=>num n.toNat) 32 (by simp) (by simp;omega) (by omega)
 simp only[List.map_cons] at hj
 refine Zo Xs Ms Yc Zfy (by show 2≤_;decide) ?_
 simp +contextual -implicitDefEqProofs (maxSteps:=10^7) only[go_sem,seval,↓gZ,Yc]
 refine VT Xs Ms (st0:=?st0) (α:=Nat) (fun k=>[(12,.d (J (k:Int)))]) (fun k=>[(0,.row 1 ((w :: (ns.take k).map fun n=>num n.toNat).map .str) true false)]) (fun k=>k≤ns.length) (fun k=>ns.length-k) 0 ?hc (by simp) ?h0 ?step
 case hc=>simp +contextual -implicitDefEqProofs (maxSteps:=10^7) only[go_sem,seval,↓gZ]<;>exact rfl
 case h0=>rfl
 case step=>
  intro k hk ih
  by_cases hlt:k<ns.length
  ·obtain⟨x,hx⟩:=Vo hlt
   have hlt' : (k:Int)<(ns.length:Int):=by omega
   have hw1:=XT (k:=k) (by omega)
   have hs:=h6 x (List.mem_of_getElem? hx)
   have e1:=Q5 x hs.1 (by have:=hs.2;omega)
   have hroom:((ns.take k).length+1+1)*16≤140737488355328∧(ns.take k).length≤140737488355326:=by simp;omega
   have ht:ns.take (k+1)=ns.take k++[x]:=by rw[List.take_add_one,hx];rfl
   simp +contextual -implicitDefEqProofs (maxSteps:=10^7) only[go_sem,seval,↓gZ,hlt',hlt,hx,hw1,e1,hroom,Ju]
   refine ih (k+1) _ (by omega) (by omega) ?_
   simp +contextual -implicitDefEqProofs (maxSteps:=10^7) only[go_sem,seval,↓gZ,ht,List.map_append,List.map_cons,List.map_nil,List.cons_append]
  ·have:k=ns.length:=by omega
   subst this
   simp +contextual -implicitDefEqProofs (maxSteps:=10^7) only[go_sem,seval,↓gZ,List.take_length,hj]
def VG (e:Zt):List Int:=[e.kind,e.label,e.box.X,e.box.Y,e.box.W,e.box.H,e.line.Pane.W,e.line.Pane.H,e.line.Pane.Kind,e.line.Count]
theorem ZhE (eK eL eX eY eW eH epW epH:Int) (epT:Bool) (epK eC eo ea ep:Int) (et:Bool) (ek:List Ze):Zv Xs Ms YN [(.d (.agg [J eK,J eL,J eX,J eY,J eW,J eH,J epW,J epH,.bool epT,J epK,J eC,J eo,J ea,J ep,.bool et,.sl (ek.map Ze.enc)]))] []=some ((.d (.bool (decide (∀ n∈VG (Zt.mk eK eL (Box.mk eX eY eW eH) (QF.mk (Pane.mk epW epH epT epK) eC) (Ze.mk eo ea ep et ek)),six n)))),[]):=by
 obtain⟨xs,hxs⟩:∃ xs,xs=VG (Zt.mk eK eL (Box.mk eX eY eW eH) (QF.mk (Pane.mk epW epH epT epK) eC) (Ze.mk eo ea ep et ek)):=⟨_,rfl⟩
 have hlen:xs.length=10:=by rw[hxs];rfl
 rw[← hxs]
 refine Zo Xs Ms VL Zjb (by show 1≤_;decide) ?_
 simp +contextual -implicitDefEqProofs (maxSteps:=10^7) only[go_sem,seval,↓gZ,VL]
 have hrow:([J eK,J eL,J eX,J eY,J eW,J eH,J epW,J epH,J epK,J eC]:List D)=xs.map Ju:=by rw[hxs];rfl
 rw[hrow]
 refine VT Xs Ms (st0:=?st0) (α:=Nat) (fun k=>[(38,.d (J (k:Int)))]) (fun _=>[]) (fun k=>k≤10∧∀ n∈xs.take k,six n) (fun k=>10-k) 0 ?hc (by simp) ?h0 ?step
 case hc=>simp +contextual -implicitDefEqProofs (maxSteps:=10^7) only[go_sem,seval,↓gZ]<;>exact rfl
 case h0=>rfl
 case step=>
  intro k ⟨hk,hp⟩ ih
  by_cases hlt:k<xs.length
  ·obtain⟨x,hx⟩:=Vo hlt
   have hlt' : (k:Int)<10:=by omega
   have hlt10:k<10:=by omega
   have hw1:=XT (k:=k) (by omega)
   by_cases hs:six x
   ·have n1:¬x<0:=by have:=hs.1;omega
    have n2:¬999999<x:=by have:=hs.2;omega
    simp +contextual -implicitDefEqProofs (maxSteps:=10^7) only[go_sem,seval,↓gZ,hlt',hlt,hlt10,hx,hw1,Ju,n1,n2,hlen]
    refine ih (k+1) _ ⟨by omega,?_⟩ (by omega) ?_
    ·intro n hn
     rw[List.take_add_one,hx] at hn
     rcases List.mem_append.1 hn with hn | hn
     ·exact hp n hn
     ·simp only[Option.toList_some,List.mem_singleton] at hn
      rw[hn];exact hs
    ·simp +contextual -implicitDefEqProofs (maxSteps:=10^7) only[go_sem,seval,↓gZ]
   ·have hno:decide (∀ n∈xs,six n)=false:=decide_eq_false fun h=>hs (h x (List.mem_of_getElem? hx))
    rw[hno]
    by_cases n1:x<0
    ·simp +contextual -implicitDefEqProofs (maxSteps:=10^7) only[go_sem,seval,↓gZ,hlt',hlt,hlt10,hx,hw1,Ju,n1,hlen]
    ·have n2:999999<x:=by
      rcases Int.lt_or_le 999999 x with h | h
      ·exact h
      ·exact absurd ⟨by omega,h⟩ hs
     simp +contextual -implicitDefEqProofs (maxSteps:=10^7) only[go_sem,seval,↓gZ,hlt',hlt,hlt10,hx,hw1,Ju,n1,n2,hlen]
  ·have hke:k=10:=by omega
   subst hke
   have hyes:decide (∀ n∈xs,six n)=true:=by
    refine decide_eq_true fun n hn=>hp n ?_
    rw[List.take_of_length_le (by omega)]
    exact hn
   rw[hyes]
   simp +contextual -implicitDefEqProofs (maxSteps:=10^7) only[go_sem,seval,↓gZ,hlen]
def Uv (e:Zt) (b:BT):Option Ev:=
 if e.kind=0 then (if e.box.X=0∧e.box.Y=0 then some (.sheet e.label.toNat e.box.W.toNat e.box.H.toNat) else none)
 else if e.kind=1 then some (.flaw e.label.toNat e.box.X.toNat e.box.Y.toNat e.box.W.toNat e.box.H.toNat)
 else if e.kind=2 then some (.order e.line)
 else if e.kind=3 then some (.cut e.label.toNat b)
 else if e.kind=4 then some (.brk e.line)
 else if e.kind=5 then some (.scrap e.label.toNat)
 else none
def Y2 (e:Zt):Option Ev:=if ∀ n∈VG e,six n then
  match QC e.plan with
  | some b=>if Zi2 b then Uv e b else none
  | none=>none
 else none
def Zly (e:Zt):List UInt8:=match Y2 e with
 | some v=>v.text
 | none=>[]
theorem Wc {e:Zt} (h:Y2 e=none):Zly e=[]:=by unfold Zly;rw[h]
theorem Vs {e:Zt} {v:Ev} (h:Y2 e=some v):Zly e=v.text:=by unfold Zly;rw[h]
theorem Zc8 {e:Zt} (h:¬∀ n∈VG e,six n):Y2 e=none:=by unfold Y2;rw[if_neg h]
theorem JG {e:Zt} (h:∀ b,QC e.plan=some b→¬Zi2 b):Y2 e=none:=by
 unfold Y2
 split
 ·cases hb:QC e.plan with
  | none=>rfl
  | some b=>simp only;rw[if_neg (h b hb)]
 ·rfl
theorem ZbL {e:Zt} {b:BT} (h:∀ n∈VG e,six n) (hb:QC e.plan=some b) (hp:Zi2 b):Y2 e=Uv e b:=by
 unfold Y2;rw[if_pos h,hb];simp only;rw[if_pos hp]
theorem JH (eK eL eX eY eW eH epW epH:Int) (epT:Bool) (epK eC eo ea ep:Int) (et:Bool) (ek:List Ze):Zv Xs Ms Q6 [(.d (.agg [J eK,J eL,J eX,J eY,J eW,J eH,J epW,J epH,.bool epT,J epK,J eC,J eo,J ea,J ep,.bool et,.sl (ek.map Ze.enc)]))] []=some (.d (.str (Zly (Zt.mk eK eL (Box.mk eX eY eW eH) (QF.mk (Pane.mk epW epH epT epK) eC) (Ze.mk eo ea ep et ek)))),[]):=by
 have e1:=Zft (.mk eo ea ep et ek)
 rw[Ze.enc_mk] at e1
 have e2:=ZhE eK eL eX eY eW eH epW epH epT epK eC eo ea ep et ek
 by_cases hw:∀ n∈VG (Zt.mk eK eL (Box.mk eX eY eW eH) (QF.mk (Pane.mk epW epH epT epK) eC) (Ze.mk eo ea ep et ek)),six n
 ·rw[decide_eq_true hw] at e2
  rcases Zlx (.mk eo ea ep et ek) with hf | ⟨b,hb,hb1,hb2,hf⟩
  ·rw[hf] at e1
   have hno:Y2 (Zt.mk eK eL (Box.mk eX eY eW eH) (QF.mk (Pane.mk epW epH epT epK) eC) (Ze.mk eo ea ep et ek))=none:=by
    refine JG fun b hb hp=>?_
    have:=Zd6 hb
    rw[hf,if_pos ⟨hp.1,hp.2.1⟩] at this
    cases b<;>cases this
   rw[Wc hno]
   refine Zo Xs Ms Zk ZS (by show 1≤_;decide) ?_
   simp +contextual -implicitDefEqProofs (maxSteps:=10^7) only[go_sem,seval,↓gZ,Zk,e1,e2]
  ·rw[hf] at e1
   have hnil:(shw b==[])=false:=by cases b<;>rfl
   have htb:QC (.mk eo ea ep et ek)=some b:=by rw[hb];exact Zew b
   by_cases hl:(shw b).length≤1600
   ·have hl' : ¬(1600:Int)<((shw b).length:Int):=by omega
    have hk:=ZbL (e:=(Zt.mk eK eL (Box.mk eX eY eW eH) (QF.mk (Pane.mk epW epH epT epK) eC) (Ze.mk eo ea ep et ek))) hw htb ⟨hb1,hb2,hl⟩
    simp only[VG,List.mem_cons,List.not_mem_nil,or_false,forall_eq_or_imp,forall_eq] at hw
    obtain⟨n1,n2,n3,n4,n5,n6,n7,n8,n9,n10⟩:=hw
    simp only[Uv] at hk
    by_cases k0:eK=0
    ·rw[if_pos k0] at hk
     by_cases hxy:eX=0∧eY=0
     ·rw[if_pos hxy] at hk
      rw[Vs hk]
      obtain⟨hx,hy⟩:=hxy
      subst k0 hx hy
      have e3:=YK Wb [eL,eW,eH] (by simp) (by simp[n2,n5,n6]) (by decide)
      simp only[List.map_cons,List.map_nil,Ju,Wb] at e3
      simp only[Ev.text,Ev.words,Wb]
      refine Zo Xs Ms Zk ZS (by show 1≤_;decide) ?_
      simp +contextual -implicitDefEqProofs (maxSteps:=10^7) only[go_sem,seval,↓gZ,Zk,e1,e2,hnil,hl',e3]
     ·rw[if_neg hxy] at hk
      rw[Wc hk]
      by_cases hx:eX=0
      ·have hy:¬eY=0:=fun h=>hxy ⟨hx,h⟩
       subst k0 hx
       refine Zo Xs Ms Zk ZS (by show 1≤_;decide) ?_
       simp +contextual -implicitDefEqProofs (maxSteps:=10^7) only[go_sem,seval,↓gZ,Zk,e1,e2,hnil,hl',hy]
      ·subst k0
       refine Zo Xs Ms Zk ZS (by show 1≤_;decide) ?_
       simp +contextual -implicitDefEqProofs (maxSteps:=10^7) only[go_sem,seval,↓gZ,Zk,e1,e2,hnil,hl',hx]
    rw[if_neg k0] at hk
    by_cases k1:eK=1
    ·rw[if_pos k1] at hk
     rw[Vs hk]
     subst k1
     have e3:=YK WC [eL,eX,eY,eW,eH] (by simp) (by simp[n2,n3,n4,n5,n6]) (by decide)
     simp only[List.map_cons,List.map_nil,Ju,WC] at e3
     simp only[Ev.text,Ev.words,WC]
     refine Zo Xs Ms Zk ZS (by show 1≤_;decide) ?_
     simp +contextual -implicitDefEqProofs (maxSteps:=10^7) only[go_sem,seval,↓gZ,Zk,e1,e2,hnil,hl',e3]
    rw[if_neg k1] at hk
    have hsx:Zi1 ⟨⟨epW,epH,epT,epK⟩,eC⟩:=⟨n10,n7,n8,n9⟩
    have e4:=ZhC epW epH epT epK eC hsx
    have hwl:=U5 ⟨⟨epW,epH,epT,epK⟩,eC⟩ hsx
    have bl:6+(Wa ⟨⟨epW,epH,epT,epK⟩,eC⟩).length≤1152921504606846976:=by unfold Wa;omega
    by_cases k2:eK=2
    ·rw[if_pos k2] at hk
     rw[Vs hk]
     subst k2
     have ht:Ev.text (.order ⟨⟨epW,epH,epT,epK⟩,eC⟩)=[111,114,100,101,114,32]++Wa ⟨⟨epW,epH,epT,epK⟩,eC⟩:=rfl
     rw[ht]
     refine Zo Xs Ms Zk ZS (by show 1≤_;decide) ?_
     simp +contextual -implicitDefEqProofs (maxSteps:=10^7) only[go_sem,seval,↓gZ,Zk,e1,e2,hnil,hl',e4,bl]
    rw[if_neg k2] at hk
    by_cases k3:eK=3
    ·rw[if_pos k3] at hk
     rw[Vs hk]
     subst k3
     have e3:=YK ZfS [eL] (by simp) (by simp[n2]) (by decide)
     simp only[List.map_cons,List.map_nil,Ju,ZfS] at e3
     have hnl:=Uu eL n2
     have ht:Ev.text (.cut eL.toNat b)=Yo 32 [[99,117,116],num eL.toNat]++[32]++shw b:=by simp[Ev.text,Ev.words,Yo,ZfS]
     have hjl:(Yo 32 [[99,117,116],num eL.toNat]).length≤20:=by simp[Yo];omega
     rw[ht]
     generalize Yo 32 [[99,117,116],num eL.toNat]=jt at *
     have b1:jt.length+1≤1152921504606846976:=by omega
     have b2:jt.length+1+(shw b).length≤1152921504606846976:=by omega
     refine Zo Xs Ms Zk ZS (by show 1≤_;decide) ?_
     simp +contextual -implicitDefEqProofs (maxSteps:=10^7) only[go_sem,seval,↓gZ,Zk,e1,e2,hnil,hl',e3,b1,b2]
    rw[if_neg k3] at hk
    by_cases k4:eK=4
    ·rw[if_pos k4] at hk
     rw[Vs hk]
     subst k4
     have ht:Ev.text (.brk ⟨⟨epW,epH,epT,epK⟩,eC⟩)=[98,114,101,97,107,32]++Wa ⟨⟨epW,epH,epT,epK⟩,eC⟩:=rfl
     rw[ht]
     refine Zo Xs Ms Zk ZS (by show 1≤_;decide) ?_
     simp +contextual -implicitDefEqProofs (maxSteps:=10^7) only[go_sem,seval,↓gZ,Zk,e1,e2,hnil,hl',e4,bl]
    rw[if_neg k4] at hk
    by_cases k5:eK=5
    ·rw[if_pos k5] at hk
     rw[Vs hk]
     subst k5
     have e3:=YK Zaj [eL] (by simp) (by simp[n2]) (by decide)
     simp only[List.map_cons,List.map_nil,Ju,Zaj] at e3
     simp only[Ev.text,Ev.words,Zaj]
     refine Zo Xs Ms Zk ZS (by show 1≤_;decide) ?_
     simp +contextual -implicitDefEqProofs (maxSteps:=10^7) only[go_sem,seval,↓gZ,Zk,e1,e2,hnil,hl',e3]
    ·rw[if_neg k5] at hk
     rw[Wc hk]
     refine Zo Xs Ms Zk ZS (by show 1≤_;decide) ?_
     simp +contextual -implicitDefEqProofs (maxSteps:=10^7) only[go_sem,seval,↓gZ,Zk,e1,e2,hnil,hl',k0,k1,k2,k3,k4,k5]
   ·have hl' : (1600:Int)<((shw b).length:Int):=by omega
    have hno:Y2 (Zt.mk eK eL (Box.mk eX eY eW eH) (QF.mk (Pane.mk epW epH epT epK) eC) (Ze.mk eo ea ep et ek))=none:=by
     refine JG fun b' hb' hp=>?_
     rw[show QC (Zt.plan (Zt.mk eK eL (Box.mk eX eY eW eH) (QF.mk (Pane.mk epW epH epT epK) eC) (Ze.mk eo ea ep et ek)))=QC (.mk eo ea ep et ek) from rfl,htb] at hb'
     cases hb'
     exact hl hp.2.2
    rw[Wc hno]
    refine Zo Xs Ms Zk ZS (by show 1≤_;decide) ?_
    simp +contextual -implicitDefEqProofs (maxSteps:=10^7) only[go_sem,seval,↓gZ,Zk,e1,e2,hnil,hl']
 ·rw[decide_eq_false hw] at e2
  rw[Wc (Zc8 hw)]
  refine Zo Xs Ms Zk ZS (by show 1≤_;decide) ?_
  simp +contextual -implicitDefEqProofs (maxSteps:=10^7) only[go_sem,seval,↓gZ,Zk,e1,e2]
theorem Zfu:Zv Xs Ms XR [] []=some (.own 0,[.row 1 [.str Wb,.str WC,.str Zd7,.str ZfS,.str Zd8,.str Zaj] true false]):=by
 refine Zo Xs Ms YC ZfZ (by show 0≤_;decide) ?_
 simp +contextual -implicitDefEqProofs (maxSteps:=10^7) only[go_sem,seval,↓gZ,YC]
 all_goals rfl
def Zea (e:Zt):List Int:=[e.label,e.box.X,e.box.Y,e.box.W,e.box.H,e.line.Count,e.line.Pane.W,e.line.Pane.H,e.line.Pane.Kind]
theorem Zny {e:Zt} (h:¬∀ n∈Zea e,six n):Y2 e=none:=by
 refine Zc8 fun h'=>h fun n hn=>h' n ?_
 simp only[Zea,VG,List.mem_cons,List.not_mem_nil,or_false] at hn ⊢
 rcases hn with h | h | h | h | h | h | h | h | h<;>simp[h]
theorem Znz {e:Zt} (h:∀ n∈Zea e,six n) (hk:0≤e.kind∧e.kind≤5):∀ n∈VG e,six n:=by
 intro n hn
 simp only[VG,List.mem_cons,List.not_mem_nil,or_false] at hn
 rcases hn with rfl | hn
 ·exact⟨hk.1,by omega⟩
 ·refine h n ?_
  simp only[Zea,List.mem_cons,List.not_mem_nil,or_false]
  rcases hn with h | h | h | h | h | h | h | h | h<;>simp[h]
theorem Zj3 {e:Zt} {b:BT} (hk:0≤e.kind∧e.kind≤5) (h0:e.kind=0→e.box.X=0∧e.box.Y=0):(Uv e b).isSome=true:=by
 unfold Uv
 by_cases k0:e.kind=0
 ·rw[if_pos k0,if_pos (h0 k0)];rfl
 rw[if_neg k0]
 by_cases k1:e.kind=1
 ·rw[if_pos k1];rfl
 rw[if_neg k1]
 by_cases k2:e.kind=2
 ·rw[if_pos k2];rfl
 rw[if_neg k2]
 by_cases k3:e.kind=3
 ·rw[if_pos k3];rfl
 rw[if_neg k3]
 by_cases k4:e.kind=4
 ·rw[if_pos k4];rfl
 rw[if_neg k4,if_pos (by omega)];rfl
theorem Zj4 {e:Zt} {b:BT} (hk:¬(0≤e.kind∧e.kind≤5)):Uv e b=none:=by
 unfold Uv
 rw[if_neg (by omega),if_neg (by omega),if_neg (by omega),if_neg (by omega),if_neg (by omega),if_neg (by omega)]
theorem ZeL {e:Zt} (h:∀ b,Uv e b=none):Y2 e=none:=by
 unfold Y2
 split
 ·split
  ·split
   ·exact h _
   ·rfl
  ·rfl
 ·rfl
theorem WY (eK eL eX eY eW eH epW epH:Int) (epT:Bool) (epK eC eo ea ep:Int) (et:Bool) (ek:List Ze):Zv Xs Ms Qx [(.d (.agg [J eK,J eL,J eX,J eY,J eW,J eH,J epW,J epH,.bool epT,J epK,J eC,J eo,J ea,J ep,.bool et,.sl (ek.map Ze.enc)]))] []=some ((.d (.bool ((Y2 (Zt.mk eK eL (Box.mk eX eY eW eH) (QF.mk (Pane.mk epW epH epT epK) eC) (Ze.mk eo ea ep et ek))).isSome))),[]):=by
 obtain⟨xs,hxs⟩:∃ xs,xs=Zea (Zt.mk eK eL (Box.mk eX eY eW eH) (QF.mk (Pane.mk epW epH epT epK) eC) (Ze.mk eo ea ep et ek)):=⟨_,rfl⟩
 have hlen:xs.length=9:=by rw[hxs];rfl
 refine Zo Xs Ms Xk Zcz (by show 1≤_;decide) ?_
 simp +contextual -implicitDefEqProofs (maxSteps:=10^7) only[go_sem,seval,↓gZ,Xk]
 have hrow:([J eL,J eX,J eY,J eW,J eH,J eC,J epW,J epH,J epK]:List D)=xs.map Ju:=by rw[hxs];rfl
 rw[hrow]
 refine VT Xs Ms (st0:=?st0) (α:=Nat) (fun k=>[(4,.d (J (k:Int)))]) (fun _=>[]) (fun k=>k≤9∧∀ n∈xs.take k,six n) (fun k=>9-k) 0 ?hc (by simp) ?h0 ?step
 case hc=>simp +contextual -implicitDefEqProofs (maxSteps:=10^7) only[go_sem,seval,↓gZ]<;>exact rfl
 case h0=>rfl
 case step=>
  intro k ⟨hk,hp⟩ ih
  by_cases hlt:k<xs.length
  ·obtain⟨x,hx⟩:=Vo hlt
   have hlt' : (k:Int)<9:=by omega
   have hlt10:k<9:=by omega
   have hlt2:(k:Int)<(xs.length:Int):=by omega
   have hw1:=XT (k:=k) (by omega)
   have e1:=Xv x 0 999999
   by_cases hs:six x
   ·rw[decide_eq_true (show 0≤x∧x≤999999 from hs)] at e1
    simp +contextual -implicitDefEqProofs (maxSteps:=10^7) only[go_sem,seval,↓gZ,hlt',hlt,hlt10,hlt2,hx,hw1,Ju,e1]
    refine ih (k+1) _ ⟨by omega,?_⟩ (by omega) ?_
    ·intro n hn
     rw[List.take_add_one,hx] at hn
     rcases List.mem_append.1 hn with hn | hn
     ·exact hp n hn
     ·simp only[Option.toList_some,List.mem_singleton] at hn
      rw[hn];exact hs
    ·simp +contextual -implicitDefEqProofs (maxSteps:=10^7) only[go_sem,seval,↓gZ]
   ·rw[decide_eq_false (show ¬(0≤x∧x≤999999) from hs)] at e1
    have hno:Y2 (Zt.mk eK eL (Box.mk eX eY eW eH) (QF.mk (Pane.mk epW epH epT epK) eC) (Ze.mk eo ea ep et ek))=none:=Zny fun h=>hs (h x (by rw[← hxs];exact List.mem_of_getElem? hx))
    rw[hno]
    simp +contextual -implicitDefEqProofs (maxSteps:=10^7) only[go_sem,seval,↓gZ,hlt',hlt,hlt10,hlt2,hx,hw1,Ju,e1,Option.isSome_none]
  ·have hke:k=9:=by omega
   subst hke
   have hall:∀ n∈Zea (Zt.mk eK eL (Box.mk eX eY eW eH) (QF.mk (Pane.mk epW epH epT epK) eC) (Ze.mk eo ea ep et ek)),six n:=by
    intro n hn
    rw[← hxs] at hn
    refine hp n ?_
    rw[List.take_of_length_le (by omega)]
    exact hn
   have hge:¬(9:Int)<(xs.length:Int):=by omega
   have e1:=Xv eK 0 5
   have e2:=ZhA (.mk eo ea ep et ek)
   rw[Ze.enc_mk] at e2
   by_cases hbad:eK=0∧¬(eX=0∧eY=0)
   ·obtain⟨k0,hxy⟩:=hbad
    have hno:Y2 (Zt.mk eK eL (Box.mk eX eY eW eH) (QF.mk (Pane.mk epW epH epT epK) eC) (Ze.mk eo ea ep et ek))=none:=ZeL fun b=>by unfold Uv;rw[if_pos k0,if_neg hxy]
    rw[hno]
    subst k0
    by_cases hX:eX=0
    ·have hY:¬eY=0:=fun h=>hxy ⟨hX,h⟩
     simp +contextual -implicitDefEqProofs (maxSteps:=10^7) only[go_sem,seval,↓gZ,hge,hX,hY,Option.isSome_none]
    ·simp +contextual -implicitDefEqProofs (maxSteps:=10^7) only[go_sem,seval,↓gZ,hge,hX,Option.isSome_none]
   have hok:eK=0→eX=0∧eY=0:=fun h=>Classical.byContradiction fun h'=>hbad ⟨h,h'⟩
   have rest:∀ R:Prop,R→R:=fun _ h=>h
   by_cases hkr:0≤eK∧eK≤5
   ·rw[decide_eq_true hkr] at e1
    have hnums:=Znz (e:=(Zt.mk eK eL (Box.mk eX eY eW eH) (QF.mk (Pane.mk epW epH epT epK) eC) (Ze.mk eo ea ep et ek))) hall hkr
    cases hT:QC (.mk eo ea ep et ek) with
    | none=>
     rw[hT,show Zr 255 none=-1 from rfl] at e2
     have hno:Y2 (Zt.mk eK eL (Box.mk eX eY eW eH) (QF.mk (Pane.mk epW epH epT epK) eC) (Ze.mk eo ea ep et ek))=none:=JG fun b hb=>by rw[show QC (Zt.plan (Zt.mk eK eL (Box.mk eX eY eW eH) (QF.mk (Pane.mk epW epH epT epK) eC) (Ze.mk eo ea ep et ek)))=QC (.mk eo ea ep et ek) from rfl,hT] at hb;cases hb
     rw[hno]
     by_cases k0:eK=0
     ·obtain⟨hX,hY⟩:=hok k0
      subst k0 hX hY
      simp +contextual -implicitDefEqProofs (maxSteps:=10^7) only[go_sem,seval,↓gZ,hge,e1,e2,Option.isSome_none]
     ·simp +contextual -implicitDefEqProofs (maxSteps:=10^7) only[go_sem,seval,↓gZ,hge,k0,e1,e2,Option.isSome_none]
    | some b=>
     have hpb:=Zab hT
     rw[hT] at e2
     by_cases hpl:Zi2 b
     ·have hz:0<Zr 255 (some b):=by
       have:=b.cnt_pos
       have:=hpl.1
       rcases Xe 255 b with ⟨_,h⟩ | ⟨h,_⟩
       ·rw[h];omega
       ·omega
      have e3:=VF b
      have e4:=Y4 b hpl.2.1 (by have:=hpl.1;omega)
      rw[← hpb,Ze.enc_mk] at e3 e4
      rw[hpl.2.1] at e3
      have hl:=hpl.2.2
      have hl' : ((shw b).length:Int)≤1600:=by omega
      have hyes:(Y2 (Zt.mk eK eL (Box.mk eX eY eW eH) (QF.mk (Pane.mk epW epH epT epK) eC) (Ze.mk eo ea ep et ek))).isSome=true:=by
       rw[ZbL hnums hT hpl]
       exact Zj3 hkr hok
      rw[hyes]
      by_cases k0:eK=0
      ·obtain⟨hX,hY⟩:=hok k0
       subst k0 hX hY
       simp +contextual -implicitDefEqProofs (maxSteps:=10^7) only[go_sem,seval,↓gZ,hge,e1,e2,hz,e3,e4,hl']
      ·simp +contextual -implicitDefEqProofs (maxSteps:=10^7) only[go_sem,seval,↓gZ,hge,k0,e1,e2,hz,e3,e4,hl']
     ·have hno:Y2 (Zt.mk eK eL (Box.mk eX eY eW eH) (QF.mk (Pane.mk epW epH epT epK) eC) (Ze.mk eo ea ep et ek))=none:=JG fun b' hb=>by
       rw[show QC (Zt.plan (Zt.mk eK eL (Box.mk eX eY eW eH) (QF.mk (Pane.mk epW epH epT epK) eC) (Ze.mk eo ea ep et ek)))=QC (.mk eo ea ep et ek) from rfl,hT] at hb
       cases hb;exact hpl
      rw[hno]
      have e3:=VF b
      rw[← hpb,Ze.enc_mk] at e3
      rcases Xe 255 b with ⟨hc,hz⟩ | ⟨hc,hz⟩
      ·rw[hz] at e2
       have hz' : (0:Int)<b.cnt:=by have:=b.cnt_pos;omega
       cases hcb:VD b with
       | false=>
        rw[hcb] at e3
        by_cases k0:eK=0
        ·obtain⟨hX,hY⟩:=hok k0
         subst k0 hX hY
         simp +contextual -implicitDefEqProofs (maxSteps:=10^7) only[go_sem,seval,↓gZ,hge,e1,e2,hz',e3,Option.isSome_none]
        ·simp +contextual -implicitDefEqProofs (maxSteps:=10^7) only[go_sem,seval,↓gZ,hge,k0,e1,e2,hz',e3,Option.isSome_none]
       | true=>
        rw[hcb] at e3
        have e4:=Y4 b hcb (by omega)
        rw[← hpb,Ze.enc_mk] at e4
        have hl' : ¬((shw b).length:Int)≤1600:=fun h=>hpl ⟨by omega,hcb,by omega⟩
        by_cases k0:eK=0
        ·obtain⟨hX,hY⟩:=hok k0
         subst k0 hX hY
         simp +contextual -implicitDefEqProofs (maxSteps:=10^7) only[go_sem,seval,↓gZ,hge,e1,e2,hz',e3,e4,hl',Option.isSome_none]
        ·simp +contextual -implicitDefEqProofs (maxSteps:=10^7) only[go_sem,seval,↓gZ,hge,k0,e1,e2,hz',e3,e4,hl',Option.isSome_none]
      ·rw[hz] at e2
       by_cases k0:eK=0
       ·obtain⟨hX,hY⟩:=hok k0
        subst k0 hX hY
        simp +contextual -implicitDefEqProofs (maxSteps:=10^7) only[go_sem,seval,↓gZ,hge,e1,e2,Option.isSome_none]
       ·simp +contextual -implicitDefEqProofs (maxSteps:=10^7) only[go_sem,seval,↓gZ,hge,k0,e1,e2,Option.isSome_none]
   ·rw[decide_eq_false hkr] at e1
    have hno:Y2 (Zt.mk eK eL (Box.mk eX eY eW eH) (QF.mk (Pane.mk epW epH epT epK) eC) (Ze.mk eo ea ep et ek))=none:=ZeL fun b=>Zj4 hkr
    rw[hno]
    have k0:¬eK=0:=fun h=>hkr ⟨by omega,by omega⟩
    simp +contextual -implicitDefEqProofs (maxSteps:=10^7) only[go_sem,seval,↓gZ,hge,k0,e1,Option.isSome_none]
theorem Za6 (n:Int) (h:six n):Zv Xs Ms ZH [(.d (J n))] []=some (.d (.str (num n.toNat)),[]):=by
 have e:=Yx n.toNat (by have:=h.2;have:=h.1;omega)
 rw[Int.toNat_of_nonneg h.1] at e
 exact e
theorem Za7 (eK eL eX eY eW eH epW epH:Int) (epT:Bool) (epK eC eo ea ep:Int) (et:Bool) (ek:List Ze) (v:Ev) (hv:Y2 (Zt.mk eK eL (Box.mk eX eY eW eH) (QF.mk (Pane.mk epW epH epT epK) eC) (Ze.mk eo ea ep et ek))=some v):Zv Xs Ms XG [(.d (.agg [J eK,J eL,J eX,J eY,J eW,J eH,J epW,J epH,.bool epT,J epK,J eC,J eo,J ea,J ep,.bool et,.sl (ek.map Ze.enc)]))] []=some (.d (.str v.text),[]):=by
 have hnums:∀ n∈VG (Zt.mk eK eL (Box.mk eX eY eW eH) (QF.mk (Pane.mk epW epH epT epK) eC) (Ze.mk eo ea ep et ek)),six n:=Classical.byContradiction fun h=>by rw[Zc8 h] at hv;cases hv
 obtain⟨b,hb,hpl⟩:∃ b,QC (.mk eo ea ep et ek)=some b∧Zi2 b:=Classical.byContradiction fun h=>by
  rw[JG (e:=(Zt.mk eK eL (Box.mk eX eY eW eH) (QF.mk (Pane.mk epW epH epT epK) eC) (Ze.mk eo ea ep et ek))) fun b hb hp=>h ⟨b,hb,hp⟩] at hv;cases hv
 have hpb:=Zab hb
 rw[ZbL hnums hb hpl] at hv
 have e0:=Zfu
 simp only[VG,List.mem_cons,List.not_mem_nil,or_false,forall_eq_or_imp,forall_eq] at hnums
 obtain⟨n1,n2,n3,n4,n5,n6,n7,n8,n9,n10⟩:=hnums
 have eL':=Za6 eL n2
 have eX':=Za6 eX n3
 have eY':=Za6 eY n4
 have eW':=Za6 eW n5
 have eH':=Za6 eH n6
 have lL:=Uu eL n2
 have lX:=Uu eX n3
 have lY:=Uu eY n4
 have lW:=Uu eW n5
 have lH:=Uu eH n6
 have hsx:Zi1 ⟨⟨epW,epH,epT,epK⟩,eC⟩:=⟨n10,n7,n8,n9⟩
 have e4:=ZhD epW epH epT epK eC hsx
 have hwl:=U5 ⟨⟨epW,epH,epT,epK⟩,eC⟩ hsx
 have e5:=Y4 b hpl.2.1 (by have:=hpl.1;omega)
 rw[← hpb,Ze.enc_mk] at e5
 have hpl3:=hpl.2.2
 have hsl:(Wa ⟨⟨epW,epH,epT,epK⟩,eC⟩).length≤40:=hwl
 unfold Uv at hv
 simp only at hv
 by_cases k0:eK=0
 ·rw[if_pos k0] at hv
  split at hv
  ·cases hv
   subst k0
   have ht:Ev.text (.sheet eL.toNat eW.toNat eH.toNat)=Wb++[32]++num eL.toNat++[32]++num eW.toNat++[32]++num eH.toNat:=by simp[Ev.text,Ev.words,Yo]
   rw[ht]
   generalize num eL.toNat=a at *
   generalize num eW.toNat=c at *
   generalize num eH.toNat=d at *
   have hw0:Wb.length=5:=rfl
   have b0:Wb.length+1≤1152921504606846976:=by omega
   have b1:Wb.length+1+a.length≤1152921504606846976:=by omega
   have b2:Wb.length+1+a.length+1≤1152921504606846976:=by omega
   have b3:Wb.length+1+a.length+1+c.length≤1152921504606846976:=by omega
   have b4:Wb.length+1+a.length+1+c.length+1≤1152921504606846976:=by omega
   have b5:Wb.length+1+a.length+1+c.length+1+d.length≤1152921504606846976:=by omega
   refine Zo Xs Ms ZN Yk (by show 1≤_;decide) ?_
   simp +contextual -implicitDefEqProofs (maxSteps:=10^7) only[go_sem,seval,↓gZ,ZN,e0,eL',eW',eH',b0,b1,b2,b3,b4,b5]
  ·cases hv
 rw[if_neg k0] at hv
 by_cases k1:eK=1
 ·rw[if_pos k1] at hv
  cases hv
  subst k1
  have ht:Ev.text (.flaw eL.toNat eX.toNat eY.toNat eW.toNat eH.toNat)=WC++[32]++num eL.toNat++[32]++num eX.toNat++[32]++num eY.toNat++[32]++num eW.toNat++[32]++num eH.toNat:=by simp[Ev.text,Ev.words,Yo]
  rw[ht]
  generalize num eL.toNat=a at *
  generalize num eX.toNat=x at *
  generalize num eY.toNat=y at *
  generalize num eW.toNat=c at *
  generalize num eH.toNat=d at *
  have hw0:WC.length=4:=rfl
  have b0:WC.length+1≤1152921504606846976:=by omega
  have b1:WC.length+1+a.length≤1152921504606846976:=by omega
  have b2:WC.length+1+a.length+1≤1152921504606846976:=by omega
  have b3:WC.length+1+a.length+1+x.length≤1152921504606846976:=by omega
  have b4:WC.length+1+a.length+1+x.length+1≤1152921504606846976:=by omega
  have b5:WC.length+1+a.length+1+x.length+1+y.length≤1152921504606846976:=by omega
  have b6:WC.length+1+a.length+1+x.length+1+y.length+1≤1152921504606846976:=by omega
  have b7:WC.length+1+a.length+1+x.length+1+y.length+1+c.length≤1152921504606846976:=by omega
  have b8:WC.length+1+a.length+1+x.length+1+y.length+1+c.length+1≤1152921504606846976:=by omega
  have b9:WC.length+1+a.length+1+x.length+1+y.length+1+c.length+1+d.length≤1152921504606846976:=by omega
  refine Zo Xs Ms ZN Yk (by show 1≤_;decide) ?_
  simp +contextual -implicitDefEqProofs (maxSteps:=10^7) only[go_sem,seval,↓gZ,ZN,e0,eL',eX',eY',eW',eH',b0,b1,b2,b3,b4,b5,b6,b7,b8,b9]
 rw[if_neg k1] at hv
 by_cases k2:eK=2
 ·rw[if_pos k2] at hv
  cases hv
  subst k2
  have ht:Ev.text (.order ⟨⟨epW,epH,epT,epK⟩,eC⟩)=Zd7++[32]++Wa ⟨⟨epW,epH,epT,epK⟩,eC⟩:=rfl
  rw[ht]
  generalize Wa ⟨⟨epW,epH,epT,epK⟩,eC⟩=a at *
  have hw0:Zd7.length=5:=rfl
  have b0:Zd7.length+1≤1152921504606846976:=by omega
  have b1:Zd7.length+1+a.length≤1152921504606846976:=by omega
  refine Zo Xs Ms ZN Yk (by show 1≤_;decide) ?_
  simp +contextual -implicitDefEqProofs (maxSteps:=10^7) only[go_sem,seval,↓gZ,ZN,e0,e4,b0,b1]
 rw[if_neg k2] at hv
 by_cases k3:eK=3
 ·rw[if_pos k3] at hv
  cases hv
  subst k3
  have ht:Ev.text (.cut eL.toNat b)=ZfS++[32]++num eL.toNat++[32]++shw b:=by simp[Ev.text,Ev.words,Yo]
  rw[ht]
  generalize num eL.toNat=a at *
  generalize shw b=c at *
  have hw0:ZfS.length=3:=rfl
  have b0:ZfS.length+1≤1152921504606846976:=by omega
  have b1:ZfS.length+1+a.length≤1152921504606846976:=by omega
  have b2:ZfS.length+1+a.length+1≤1152921504606846976:=by omega
  have b3:ZfS.length+1+a.length+1+c.length≤1152921504606846976:=by omega
  refine Zo Xs Ms ZN Yk (by show 1≤_;decide) ?_
  simp +contextual -implicitDefEqProofs (maxSteps:=10^7) only[go_sem,seval,↓gZ,ZN,e0,eL',e5,b0,b1,b2,b3]
 rw[if_neg k3] at hv
 by_cases k4:eK=4
 ·rw[if_pos k4] at hv
  cases hv
  subst k4
  have ht:Ev.text (.brk ⟨⟨epW,epH,epT,epK⟩,eC⟩)=Zd8++[32]++Wa ⟨⟨epW,epH,epT,epK⟩,eC⟩:=rfl
  rw[ht]
  generalize Wa ⟨⟨epW,epH,epT,epK⟩,eC⟩=a at *
  have hw0:Zd8.length=5:=rfl
  have b0:Zd8.length+1≤1152921504606846976:=by omega
  have b1:Zd8.length+1+a.length≤1152921504606846976:=by omega
  refine Zo Xs Ms ZN Yk (by show 1≤_;decide) ?_
  simp +contextual -implicitDefEqProofs (maxSteps:=10^7) only[go_sem,seval,↓gZ,ZN,e0,e4,b0,b1]
 rw[if_neg k4] at hv
 by_cases k5:eK=5
 ·rw[if_pos k5] at hv
  cases hv
  subst k5
  have ht:Ev.text (.scrap eL.toNat)=Zaj++[32]++num eL.toNat:=rfl
  rw[ht]
  generalize num eL.toNat=a at *
  have hw0:Zaj.length=5:=rfl
  have b0:Zaj.length+1≤1152921504606846976:=by omega
  have b1:Zaj.length+1+a.length≤1152921504606846976:=by omega
  refine Zo Xs Ms ZN Yk (by show 1≤_;decide) ?_
  simp +contextual -implicitDefEqProofs (maxSteps:=10^7) only[go_sem,seval,↓gZ,ZN,e0,eL',b0,b1]
 ·rw[if_neg k5] at hv
  cases hv
theorem Zeb (eK eL eX eY eW eH epW epH:Int) (epT:Bool) (epK eC eo ea ep:Int) (et:Bool) (ek:List Ze):Zv Xs Ms Xu [(.d (.agg [J eK,J eL,J eX,J eY,J eW,J eH,J epW,J epH,.bool epT,J epK,J eC,J eo,J ea,J ep,.bool et,.sl (ek.map Ze.enc)]))] []=some (.d (.str (Zly (Zt.mk eK eL (Box.mk eX eY eW eH) (QF.mk (Pane.mk epW epH epT epK) eC) (Ze.mk eo ea ep et ek)))),[]):=by
 have e1:=WY eK eL eX eY eW eH epW epH epT epK eC eo ea ep et ek
 cases hv:Y2 (Zt.mk eK eL (Box.mk eX eY eW eH) (QF.mk (Pane.mk epW epH epT epK) eC) (Ze.mk eo ea ep et ek)) with
 | none=>
  rw[hv,Option.isSome_none] at e1
  rw[Wc hv]
  refine Zo Xs Ms Q7 ZaV (by show 1≤_;decide) ?_
  simp +contextual -implicitDefEqProofs (maxSteps:=10^7) only[go_sem,seval,↓gZ,Q7,e1]
 | some v=>
  have e2:=Za7 eK eL eX eY eW eH epW epH epT epK eC eo ea ep et ek v hv
  rw[hv,Option.isSome_some] at e1
  rw[Vs hv]
  refine Zo Xs Ms Q7 ZaV (by show 1≤_;decide) ?_
  simp +contextual -implicitDefEqProofs (maxSteps:=10^7) only[go_sem,seval,↓gZ,Q7,e1,e2]
theorem Zi3 {e:Zt} {v:Ev} (hv:Y2 e=some v):v.ok∧v.ev.kind=e.kind:=by
 have hnums:∀ n∈VG e,six n:=Classical.byContradiction fun h=>by rw[Zc8 h] at hv;cases hv
 obtain⟨b,hb,hpl⟩:∃ b,QC e.plan=some b∧Zi2 b:=Classical.byContradiction fun h=>by
  rw[JG (e:=e) fun b hb hp=>h ⟨b,hb,hp⟩] at hv;cases hv
 rw[ZbL hnums hb hpl] at hv
 simp only[VG,List.mem_cons,List.not_mem_nil,or_false,forall_eq_or_imp,forall_eq] at hnums
 obtain⟨n1,n2,n3,n4,n5,n6,n7,n8,n9,n10⟩:=hnums
 have hsx:Zi1 e.line:=⟨n10,n7,n8,n9⟩
 simp only[six] at n2 n3 n4 n5 n6
 unfold Uv at hv
 by_cases k0:e.kind=0
 ·rw[if_pos k0] at hv
  split at hv
  ·cases hv
   exact⟨⟨by omega,by omega,by omega⟩,k0.symm⟩
  ·cases hv
 rw[if_neg k0] at hv
 by_cases k1:e.kind=1
 ·rw[if_pos k1] at hv
  cases hv
  exact⟨⟨by omega,by omega,by omega,by omega,by omega⟩,k1.symm⟩
 rw[if_neg k1] at hv
 by_cases k2:e.kind=2
 ·rw[if_pos k2] at hv
  cases hv
  exact⟨hsx,k2.symm⟩
 rw[if_neg k2] at hv
 by_cases k3:e.kind=3
 ·rw[if_pos k3] at hv
  cases hv
  exact⟨⟨by omega,hpl⟩,k3.symm⟩
 rw[if_neg k3] at hv
 by_cases k4:e.kind=4
 ·rw[if_pos k4] at hv
  cases hv
  exact⟨hsx,k4.symm⟩
 rw[if_neg k4] at hv
 by_cases k5:e.kind=5
 ·rw[if_pos k5] at hv
  cases hv
  exact⟨by show e.label.toNat≤999999;omega,k5.symm⟩
 ·rw[if_neg k5] at hv
  cases hv
theorem ZnA {v:Ev} (h:v.ok):v.words.length≤6∧∀ w∈v.words,w.length≤1600:=by
 have nl:∀ n:Nat,n≤999999→(num n).length≤1600:=fun n hn=>by have:=Xw 5 n (by omega);omega
 have ln:∀ l:QF,Zi1 l→(Yp l).length=5∧∀ w∈Yp l,w.length≤1600:=by
  intro l hl
  obtain⟨h1,h2,h3,h4⟩:=hl
  simp only[six] at h1 h2 h3 h4
  refine⟨rfl,fun w hw=>?_⟩
  simp only[Yp,List.mem_cons,List.not_mem_nil,or_false] at hw
  rcases hw with rfl | rfl | rfl | rfl | rfl
  ·exact nl _ (by omega)
  ·exact nl _ (by omega)
  ·exact nl _ (by omega)
  ·cases l.Pane.Turns<;>decide
  ·exact nl _ (by omega)
 cases v with
 | sheet l w g=>
  obtain⟨h1,h2,h3⟩:=h
  refine⟨by simp[Ev.words],fun x hx=>?_⟩
  simp only[Ev.words,List.mem_cons,List.not_mem_nil,or_false] at hx
  rcases hx with rfl | rfl | rfl | rfl
  ·decide
  ·exact nl _ h1
  ·exact nl _ h2
  ·exact nl _ h3
 | flaw l a b w g=>
  obtain⟨h1,h2,h3,h4,h5⟩:=h
  refine⟨by simp[Ev.words],fun x hx=>?_⟩
  simp only[Ev.words,List.mem_cons,List.not_mem_nil,or_false] at hx
  rcases hx with rfl | rfl | rfl | rfl | rfl | rfl
  ·decide
  ·exact nl _ h1
  ·exact nl _ h2
  ·exact nl _ h3
  ·exact nl _ h4
  ·exact nl _ h5
 | order n=>
  obtain⟨g1,g2⟩:=ln n h
  refine⟨by simp only[Ev.words,List.length_cons];omega,fun x hx=>?_⟩
  rcases List.mem_cons.1 hx with rfl | hx
  ·decide
  ·exact g2 x hx
 | cut l b=>
  obtain⟨h1,h2⟩:=h
  refine⟨by simp[Ev.words],fun x hx=>?_⟩
  simp only[Ev.words,List.mem_cons,List.not_mem_nil,or_false] at hx
  rcases hx with rfl | rfl | rfl
  ·decide
  ·exact nl _ h1
  ·exact h2.2.2
 | brk n=>
  obtain⟨g1,g2⟩:=ln n h
  refine⟨by simp only[Ev.words,List.length_cons];omega,fun x hx=>?_⟩
  rcases List.mem_cons.1 hx with rfl | hx
  ·decide
  ·exact g2 x hx
 | scrap l=>
  refine⟨by simp[Ev.words],fun x hx=>?_⟩
  simp only[Ev.words,List.mem_cons,List.not_mem_nil,or_false] at hx
  rcases hx with rfl | rfl
  ·decide
  ·exact nl _ h
theorem ZfT {v:Ev} (h:v.ok):v.text.length≤20000:=by
 obtain⟨h1,h2⟩:=ZnA h
 have h3:=Zd9 32 1600 v.words h2
 have:v.words.length*1601≤6*1601:=Nat.mul_le_mul_right _ h1
 unfold Ev.text
 omega
theorem ZmR (v:Ev):(v.text==[])=false:=by cases v<;>rfl
def WZ:List Zt→Option (List Ev)
 | []=>some []
 | e :: r=>(Y2 e).bind fun v=>(WZ r).bind fun vs=>some (v :: vs)
theorem Zcw (e:Zt):∀ l:List Zt,WZ (l++[e])=(WZ l).bind fun vs=>(Y2 e).bind fun v=>some (vs++[v])
 | []=>by simp only[List.nil_append,WZ];cases Y2 e<;>rfl
 | x :: l=>by
  simp only[List.cons_append,WZ,Zcw e l]
  cases Y2 x with
  | none=>rfl
  | some v=>cases WZ l with
   | none=>rfl
   | some vs=>cases Y2 e<;>rfl
theorem Zcx {e:Zt} (h:Y2 e=none):∀ {l:List Zt},e∈l→WZ l=none
 | x :: l,hm=>by
  rcases List.mem_cons.1 hm with rfl | hm
  ·simp[WZ,h]
  ·simp only[WZ,Zcx h hm]
   cases Y2 x<;>rfl
theorem ZfU:∀ {l:List Zt} {vs:List Ev},WZ l=some vs→vs.length=l.length∧∀ v∈vs,v.ok
 | [],vs,h=>by cases h;simp
 | e :: l,vs,h=>by
  simp only[WZ,Option.bind_eq_some_iff] at h
  obtain⟨v,h1,vs',h2,h3⟩:=h
  cases h3
  obtain⟨g1,g2⟩:=ZfU h2
  refine⟨by simp[g1],fun x hx=>?_⟩
  rcases List.mem_cons.1 hx with rfl | hx
  ·exact(Zi3 h1).1
  ·exact g2 x hx
def Zj5 (l:List Zt):List UInt8:=if l.length≤40 then match WZ l with
 | some vs=>Ut vs
 | none=>[] else []
theorem ZmS {l:List Zt} (h:¬l.length≤40):Zj5 l=[]:=if_neg h
theorem Zh1 {l:List Zt} (h:WZ l=none):Zj5 l=[]:=by unfold Zj5;rw[h];exact ite_self _
theorem Zh2 {l:List Zt} {vs:List Ev} (h:l.length≤40) (hv:WZ l=some vs):Zj5 l=Ut vs:=by unfold Zj5;rw[if_pos h,hv]
theorem Zlz (v:Ev) (l:List Ev):Ut (v :: l)=v.text++10 :: Ut l:=Zj1 ..
theorem ZfV (v:Ev) (l:List Ev):Ut (l++[v])=Ut l++(v.text++[10]):=Zj2 ..
theorem Zec:∀ {l:List Ev},(∀ v∈l,v.ok)→(Ut l).length≤20001*l.length
 | [],_=>by simp[Ut,Za5]
 | v :: l,h=>by
  have ih:=Zec (l:=l) fun x hx=>h x (by simp[hx])
  have:=ZfT (h v (by simp))
  rw[Zlz]
  simp only[List.length_append,List.length_cons]
  omega
theorem ZoF (v:Ev):0<v.text.length:=by
 have:=ZmR v
 cases h:v.text with
 | nil=>rw[h] at this;cases this
 | cons _ _=>simp
theorem Zfv (l:List Zt):Zv Xs Ms XP [(.d (.sl (l.map Zt.enc)))] []=some (.d (.str (Zj5 l)),[]):=by
 by_cases h40:l.length≤40
 ·have h40' : ¬(40:Int)<(l.length:Int):=by omega
  refine Zo Xs Ms Xj Zba (by show 1≤_;decide) ?_
  simp +contextual -implicitDefEqProofs (maxSteps:=10^7) only[go_sem,seval,↓gZ,Xj,h40']
  refine VT Xs Ms (st0:=?st0) (α:=Nat×List Ev) (fun a=>[(12,.d (J (a.1:Int)))]) (fun a=>[(0,.box [.bnil 0 TB,.bbuf 5 (Ut a.2)])]) (fun a=>a.1≤l.length∧WZ (l.take a.1)=some a.2) (fun a=>l.length-a.1) (0,[]) ?hc ⟨by simp,rfl⟩ ?h0 ?step
  case hc=>simp +contextual -implicitDefEqProofs (maxSteps:=10^7) only[go_sem,seval,↓gZ]<;>exact rfl
  case h0=>rfl
  case step=>
   intro⟨k,vs⟩ ⟨hk,hv⟩ ih
   simp only at hk hv ih ⊢
   obtain⟨g1,g2⟩:=ZfU hv
   have hb:=Zec g2
   have hb2:vs.length≤40:=by rw[g1];simp;omega
   by_cases hlt:k<l.length
   ·obtain⟨e,he⟩:=Vo hlt
    have hlt' : (k:Int)<(l.length:Int):=by omega
    have w:=XT (k:=k) (by omega)
    have hem:e∈l:=List.mem_of_getElem? he
    have htk:l.take (k+1)=l.take k++[e]:=by rw[List.take_add_one,he];rfl
    obtain⟨K,L,⟨X,Y,W,H⟩,⟨⟨pW,pH,pT,pK⟩,C⟩,⟨o,a,q,t,ks⟩⟩:=e
    have e1:=JH K L X Y W H pW pH pT pK C o a q t ks
    cases hx:Y2 ⟨K,L,⟨X,Y,W,H⟩,⟨⟨pW,pH,pT,pK⟩,C⟩,.mk o a q t ks⟩ with
    | none=>
     rw[Wc hx] at e1
     rw[Zh1 (Zcx hx hem)]
     simp +contextual -implicitDefEqProofs (maxSteps:=10^7) only[go_sem,seval,↓gZ,hlt',hlt,he,w,e1]
    | some v=>
     rw[Vs hx] at e1
     have hok:=(Zi3 hx).1
     have hne:=ZmR v
     have hpos:=ZoF v
     have htl:=ZfT hok
     have e2:=Q9 (Ut vs) v.text hpos (by omega)
     have e3:=Z1 (Ut vs++v.text) 10 10 rfl (by simp;omega)
     have hbs:=ZfV v vs
     generalize v.text=tx at *
     simp +contextual -implicitDefEqProofs (maxSteps:=10^7) only[go_sem,seval,↓gZ,hlt',hlt,he,w,e1,hne,e2,e3]
     refine ih (k+1,vs++[v]) _ ⟨by simp only;omega,?_⟩ (by simp only;omega) ?_
     ·simp only
      rw[htk,Zcw,hv,hx];rfl
     ·simp +contextual -implicitDefEqProofs (maxSteps:=10^7) only[go_sem,seval,↓gZ,hbs,List.append_assoc]
   ·have:k=l.length:=by omega
    subst this
    rw[List.take_length] at hv
    rw[Zh2 h40 hv]
    have e4:=U4 (Ut vs)
    simp +contextual -implicitDefEqProofs (maxSteps:=10^7) only[go_sem,seval,↓gZ,e4]
 ·have h40' : (40:Int)<(l.length:Int):=by omega
  rw[ZmS h40]
  refine Zo Xs Ms Xj Zba (by show 1≤_;decide) ?_
  simp +contextual -implicitDefEqProofs (maxSteps:=10^7) only[go_sem,seval,↓gZ,Xj,h40']
theorem Zfw (l:List Zt):Zv Xs Ms XO [(.d (.sl (l.map Zt.enc)))] []=some (.d (.str (Zj5 l)),[]):=by
 by_cases h40:l.length≤40
 ·have h40' : ¬(40:Int)<(l.length:Int):=by omega
  refine Zo Xs Ms Xi Za9 (by show 1≤_;decide) ?_
  simp +contextual -implicitDefEqProofs (maxSteps:=10^7) only[go_sem,seval,↓gZ,Xi,h40']
  refine VT Xs Ms (st0:=?st0) (α:=Nat×List Ev) (fun a=>[(4,.d (J (a.1:Int))),(3,.d (.str (Ut a.2)))]) (fun _=>[]) (fun a=>a.1≤l.length∧WZ (l.take a.1)=some a.2) (fun a=>l.length-a.1) (0,[]) ?hc ⟨by simp,rfl⟩ ?h0 ?step
  case hc=>simp +contextual -implicitDefEqProofs (maxSteps:=10^7) only[go_sem,seval,↓gZ]<;>exact rfl
  case h0=>rfl
  case step=>
   intro⟨k,vs⟩ ⟨hk,hv⟩ ih
   simp only at hk hv ih ⊢
   obtain⟨g1,g2⟩:=ZfU hv
   have hb:=Zec g2
   have hb2:vs.length≤40:=by rw[g1];simp;omega
   by_cases hlt:k<l.length
   ·obtain⟨e,he⟩:=Vo hlt
    have hlt' : (k:Int)<(l.length:Int):=by omega
    have w:=XT (k:=k) (by omega)
    have hem:e∈l:=List.mem_of_getElem? he
    have htk:l.take (k+1)=l.take k++[e]:=by rw[List.take_add_one,he];rfl
    obtain⟨K,L,⟨X,Y,W,H⟩,⟨⟨pW,pH,pT,pK⟩,C⟩,⟨o,a,q,t,ks⟩⟩:=e
    have e1:=WY K L X Y W H pW pH pT pK C o a q t ks
    cases hx:Y2 ⟨K,L,⟨X,Y,W,H⟩,⟨⟨pW,pH,pT,pK⟩,C⟩,.mk o a q t ks⟩ with
    | none=>
     rw[hx,Option.isSome_none] at e1
     rw[Zh1 (Zcx hx hem)]
     simp +contextual -implicitDefEqProofs (maxSteps:=10^7) only[go_sem,seval,↓gZ,hlt',hlt,he,w,e1]
    | some v=>
     rw[hx,Option.isSome_some] at e1
     have e2:=Za7 K L X Y W H pW pH pT pK C o a q t ks v hx
     have hok:=(Zi3 hx).1
     have htl:=ZfT hok
     have hbs:=ZfV v vs
     have b1:(Ut vs).length+v.text.length≤1152921504606846976:=by omega
     have b2:(Ut vs).length+v.text.length+1≤1152921504606846976:=by omega
     generalize v.text=tx at *
     simp +contextual -implicitDefEqProofs (maxSteps:=10^7) only[go_sem,seval,↓gZ,hlt',hlt,he,w,e1,e2,b1,b2]
     refine ih (k+1,vs++[v]) _ ⟨by simp only;omega,?_⟩ (by simp only;omega) ?_
     ·simp only
      rw[htk,Zcw,hv,hx];rfl
     ·simp +contextual -implicitDefEqProofs (maxSteps:=10^7) only[go_sem,seval,↓gZ,hbs,List.append_assoc]
   ·have:k=l.length:=by omega
    subst this
    rw[List.take_length] at hv
    rw[Zh2 h40 hv]
    simp +contextual -implicitDefEqProofs (maxSteps:=10^7) only[go_sem,seval,↓gZ]
 ·have h40' : (40:Int)<(l.length:Int):=by omega
  rw[ZmS h40]
  refine Zo Xs Ms Xi Za9 (by show 1≤_;decide) ?_
  simp +contextual -implicitDefEqProofs (maxSteps:=10^7) only[go_sem,seval,↓gZ,Xi,h40']
def szV (left:Int) (n:Nat):Int:=if (n:Int)≤left then left-n else -1
theorem U6 {left:Int} {n:Nat} (h:(n:Int)≤left):szV left n=left-n:=if_pos h
theorem Jl {left:Int} {n:Nat} (h:¬(n:Int)≤left):szV left n=-1:=if_neg h
abbrev nL (ks:List Ze):Nat:=Ze.nodes.nodesL ks
theorem ZlA:∀ ks:List Ze,ks.length≤nL ks
 | []=>Nat.le_refl _
 | .mk o a p t q :: r=>by have:=ZlA r;simp only[nL,Ze.nodes.nodesL,Ze.nodes,List.length_cons] at this ⊢;omega
def YX {α:Type} (f:α→Nat):List α→Nat
 | []=>0
 | x :: r=>f x+YX f r
theorem Zj6 {α:Type} {f:α→Nat} {l:List α} {k:Nat} {x:α} (h:l[k]?=some x):YX f (l.drop k)=f x+YX f (l.drop (k+1)):=by
 obtain⟨h1,h2⟩:=List.getElem?_eq_some_iff.1 h
 rw[List.drop_eq_getElem_cons h1,h2,YX]
theorem Zj7:∀ ks:List Ze,nL ks=ks.length+YX (fun p:Ze=>p.nodes-1) ks
 | []=>rfl
 | .mk o a p t q :: r=>by have:=Zj7 r;simp only[nL,Ze.nodes.nodesL,Ze.nodes,List.length_cons,YX] at this ⊢;omega
theorem Zi4 (ks:List Ze) (hk:ks.length≤maxLen) (ih:∀ k∈ks,∀ left:Int,0≤left→left≤1048576→Zv Xs Ms X3 [.d k.enc,(.d (J left))] []=some ((.d (J (szV left (k.nodes-1)))),[])) (left:Int) (h0:0≤left) (hl:left≤1048576) :
  Zv Xs Ms Vt [(.d (.sl (ks.map Ze.enc))),(.d (J left))] []=some ((.d (J (szV left (nL ks)))),[]):=by
 have hk' : (ks.length:Int)≤9223372036854775807:=by unfold maxLen at hk;omega
 have w:=wi (left-ks.length) (by omega) (by omega)
 have hb:=Zj7 ks
 by_cases hneg:left-(ks.length:Int)<0
 ·rw[Jl (by omega)]
  refine Zo Xs Ms YB ZeO (by show 2≤_;decide) ?_
  simp +contextual -implicitDefEqProofs (maxSteps:=10^7) only[go_sem,seval,↓gZ,YB,w,hneg]
 ·refine Zo Xs Ms YB ZeO (by show 2≤_;decide) ?_
  simp +contextual -implicitDefEqProofs (maxSteps:=10^7) only[go_sem,seval,↓gZ,YB,w,hneg]
  refine VT Xs Ms (st0:=?st0) (α:=Nat×Int) (fun a=>[(5,.d (J (a.1:Int))),(1,.d (J a.2))]) (fun _=>[]) (fun a=>a.1≤ks.length∧0≤a.2∧a.2≤left∧szV left (nL ks)=szV a.2 (YX (fun p:Ze=>p.nodes-1) (ks.drop a.1))) (fun a=>ks.length-a.1) (0,left-ks.length) ?hc ⟨by simp,by simp only;omega,by simp only;omega,by simp only[List.drop_zero];unfold szV;split<;>split<;>omega⟩ ?h0 ?step
  case hc=>simp +contextual -implicitDefEqProofs (maxSteps:=10^7) only[go_sem,seval,↓gZ]<;>exact rfl
  case h0=>rfl
  case step=>
   intro⟨k,m⟩ ⟨hk1,hm0,hml,hp⟩ ih2
   simp only at hk1 hm0 hml hp ih2 ⊢
   by_cases hlt:k<ks.length
   ·obtain⟨x,hx⟩:=Vo hlt
    have hlt' : (k:Int)<(ks.length:Int):=by omega
    have w1:=XT (k:=k) (by omega)
    have e1:=ih x (List.mem_of_getElem? hx) m hm0 (by omega)
    rw[Zj6 hx] at hp
    obtain⟨o,a,q,t,ks'⟩:=x
    rw[Ze.enc_mk] at e1
    generalize (Ze.mk o a q t ks').nodes-1=nx at e1 hp
    by_cases hy:(nx:Int)≤m
    ·rw[U6 hy] at e1
     have hy0:¬m-(nx:Int)<0:=by omega
     simp +contextual -implicitDefEqProofs (maxSteps:=10^7) only[go_sem,seval,↓gZ,hlt',hlt,hx,w1,e1,hy0]
     refine ih2 (k+1,m-nx) _ ⟨by simp only;omega,by simp only;omega,by simp only;omega,?_⟩ (by simp only;omega) ?_
     ·rw[hp];simp only;unfold szV;split<;>split<;>omega
     ·simp +contextual -implicitDefEqProofs (maxSteps:=10^7) only[go_sem,seval,↓gZ]
    ·rw[Jl hy] at e1
     rw[hp,Jl (by omega)]
     simp +contextual -implicitDefEqProofs (maxSteps:=10^7) only[go_sem,seval,↓gZ,hlt',hlt,hx,w1,e1]
   ·have:k=ks.length:=by omega
    subst this
    rw[List.drop_length] at hp
    rw[hp,U6 (by simp only[YX];omega)]
    have hz:m-((YX (fun p:Ze=>p.nodes-1) []:Nat):Int)=m:=by simp[YX]
    rw[hz]
    simp +contextual -implicitDefEqProofs (maxSteps:=10^7) only[go_sem,seval,↓gZ]
theorem Zc9:∀ (n:Nat) (p:Ze),p.nodes≤n→p.ok→∀ left:Int,0≤left→left≤1048576→Zv Xs Ms X3 [.d p.enc,(.d (J left))] []=some ((.d (J (szV left (p.nodes-1)))),[])
 | 0,.mk o a p t ks,hn,_,_,_,_=>by simp[Ze.nodes] at hn
 | n+1,.mk o a p t ks,hn,hok,left,h0,hl=>by
  cases hok with
  | mk _ _ _ hk hks=>
   have e1:=Zi4 ks hk (fun k hkm=>by
    obtain⟨i,hi⟩:=List.mem_iff_getElem?.1 hkm
    exact Zc9 n k (Wp hn hi) (hks k hkm)) left h0 hl
   have hn1:(Ze.mk o a p t ks).nodes-1=nL ks:=by simp only[Ze.nodes,nL];omega
   rw[hn1,Ze.enc_mk]
   by_cases hy:((nL ks:Nat):Int)≤left
   ·rw[U6 hy] at e1 ⊢
    have hy0:¬left-((nL ks:Nat):Int)<0:=by omega
    generalize nL ks=m at *
    refine Zo Xs Ms Vj ZfY (by show 2≤_;decide) ?_
    simp +contextual -implicitDefEqProofs (maxSteps:=10^7) only[go_sem,seval,↓gZ,Vj,e1,hy0]
   ·rw[Jl hy] at e1 ⊢
    refine Zo Xs Ms Vj ZfY (by show 2≤_;decide) ?_
    simp +contextual -implicitDefEqProofs (maxSteps:=10^7) only[go_sem,seval,↓gZ,Vj,e1]
theorem Zj8 (p:Ze) (hok:p.ok) (left:Int) (h0:0≤left) (hl:left≤1048576):Zv Xs Ms X3 [.d p.enc,(.d (J left))] []=some ((.d (J (szV left (p.nodes-1)))),[]):=Zc9 _ p (Nat.le_refl _) hok left h0 hl
theorem Zda (eK eL eX eY eW eH epW epH:Int) (epT:Bool) (epK eC eo ea ep:Int) (et:Bool) (ek:List Ze) (hok:Ze.ok (.mk eo ea ep et ek)) (left:Int) (h0:0≤left) (hl:left≤1048576):Zv Xs Ms Yy [(.d (.agg [J eK,J eL,J eX,J eY,J eW,J eH,J epW,J epH,.bool epT,J epK,J eC,J eo,J ea,J ep,.bool et,.sl (ek.map Ze.enc)])),(.d (J left))] []=some ((.d (J (szV left (nL ek)))),[]):=by
 have e1:=Zj8 _ hok left h0 hl
 have hn1:(Ze.mk eo ea ep et ek).nodes-1=nL ek:=by simp only[Ze.nodes,nL];omega
 rw[Ze.enc_mk,hn1] at e1
 by_cases hy:((nL ek:Nat):Int)≤left
 ·rw[U6 hy] at e1 ⊢
  have hy0:¬left-((nL ek:Nat):Int)<0:=by omega
  generalize nL ek=m at *
  refine Zo Xs Ms YA ZeM (by show 2≤_;decide) ?_
  simp +contextual -implicitDefEqProofs (maxSteps:=10^7) only[go_sem,seval,↓gZ,YA,e1,hy0]
 ·rw[Jl hy] at e1 ⊢
  refine Zo Xs Ms YA ZeM (by show 2≤_;decide) ?_
  simp +contextual -implicitDefEqProofs (maxSteps:=10^7) only[go_sem,seval,↓gZ,YA,e1]
def Zcy (e:Zt):Nat:=e.plan.nodes-1
theorem ZhF (ks:List Zt) (hk:ks.length≤maxLen) (hok:∀ e∈ks,e.plan.ok) (left:Int) (h0:0≤left) (hl:left≤1048576) :
  Zv Xs Ms YL [(.d (.sl (ks.map Zt.enc))),(.d (J left))] []=some ((.d (J (szV left (ks.length+YX Zcy ks)))),[]):=by
 have hk' : (ks.length:Int)≤9223372036854775807:=by unfold maxLen at hk;omega
 have w:=wi (left-ks.length) (by omega) (by omega)
 by_cases hneg:left-(ks.length:Int)<0
 ·rw[Jl (by omega)]
  refine Zo Xs Ms X7 Zde (by show 2≤_;decide) ?_
  simp +contextual -implicitDefEqProofs (maxSteps:=10^7) only[go_sem,seval,↓gZ,X7,w,hneg]
 ·refine Zo Xs Ms X7 Zde (by show 2≤_;decide) ?_
  simp +contextual -implicitDefEqProofs (maxSteps:=10^7) only[go_sem,seval,↓gZ,X7,w,hneg]
  refine VT Xs Ms (st0:=?st0) (α:=Nat×Int) (fun a=>[(5,.d (J (a.1:Int))),(1,.d (J a.2))]) (fun _=>[]) (fun a=>a.1≤ks.length∧0≤a.2∧a.2≤left∧szV left (ks.length+YX Zcy ks)=szV a.2 (YX Zcy (ks.drop a.1))) (fun a=>ks.length-a.1) (0,left-ks.length) ?hc ⟨by simp,by simp only;omega,by simp only;omega,by simp only[List.drop_zero];unfold szV;split<;>split<;>omega⟩ ?h0 ?step
  case hc=>simp +contextual -implicitDefEqProofs (maxSteps:=10^7) only[go_sem,seval,↓gZ]<;>exact rfl
  case h0=>rfl
  case step=>
   intro⟨k,m⟩ ⟨hk1,hm0,hml,hp⟩ ih2
   simp only at hk1 hm0 hml hp ih2 ⊢
   by_cases hlt:k<ks.length
   ·obtain⟨x,hx⟩:=Vo hlt
    have hlt' : (k:Int)<(ks.length:Int):=by omega
    have w1:=XT (k:=k) (by omega)
    have hxo:=hok x (List.mem_of_getElem? hx)
    rw[Zj6 hx] at hp
    obtain⟨K,L,⟨X,Y,W,H⟩,⟨⟨pW,pH,pT,pK⟩,C⟩,⟨o,a,q,t,kk⟩⟩:=x
    have e1:=Zda K L X Y W H pW pH pT pK C o a q t kk hxo m hm0 (by omega)
    have hn1:Zcy ⟨K,L,⟨X,Y,W,H⟩,⟨⟨pW,pH,pT,pK⟩,C⟩,.mk o a q t kk⟩=nL kk:=by simp only[Zcy,Ze.nodes,nL];omega
    rw[hn1] at hp
    generalize nL kk=nx at e1 hp
    by_cases hy:(nx:Int)≤m
    ·rw[U6 hy] at e1
     have hy0:¬m-(nx:Int)<0:=by omega
     simp +contextual -implicitDefEqProofs (maxSteps:=10^7) only[go_sem,seval,↓gZ,hlt',hlt,hx,w1,e1,hy0]
     refine ih2 (k+1,m-nx) _ ⟨by simp only;omega,by simp only;omega,by simp only;omega,?_⟩ (by simp only;omega) ?_
     ·rw[hp];simp only;unfold szV;split<;>split<;>omega
     ·simp +contextual -implicitDefEqProofs (maxSteps:=10^7) only[go_sem,seval,↓gZ]
    ·rw[Jl hy] at e1
     rw[hp,Jl (by omega)]
     simp +contextual -implicitDefEqProofs (maxSteps:=10^7) only[go_sem,seval,↓gZ,hlt',hlt,hx,w1,e1]
   ·have:k=ks.length:=by omega
    subst this
    rw[List.drop_length] at hp
    rw[hp,U6 (by simp only[YX];omega)]
    have hz:m-((YX Zcy []:Nat):Int)=m:=by simp[YX]
    rw[hz]
    simp +contextual -implicitDefEqProofs (maxSteps:=10^7) only[go_sem,seval,↓gZ]
def JI {α:Type} (f:α→D) (z:D) (l:List α) (k:Nat):List D:=(l.take k).map f++List.replicate (l.length-k) z
theorem ZfW {α:Type} (f:α→D) (z:D) (l:List α):JI f z l 0=List.replicate l.length z:=by simp[JI]
theorem Zh3 {α:Type} (f:α→D) (z:D) (l:List α):JI f z l l.length=l.map f:=by simp[JI]
theorem Zh4 {α:Type} (f:α→D) (z:D) {l:List α} {k:Nat} (h:k≤l.length):(JI f z l k).length=l.length:=by simp[JI];omega
theorem Zh5 {α:Type} {f:α→D} {z:D} {l:List α} {k:Nat} {x:α} (h:l[k]?=some x):(JI f z l k).set k (f x)=JI f z l (k+1):=by
 obtain⟨h1,h2⟩:=List.getElem?_eq_some_iff.1 h
 unfold JI
 have hl:((l.take k).map f).length=k:=by simp;omega
 rw[List.set_append_right _ _ (by omega),hl,Nat.sub_self,show l.length-k=(l.length-(k+1))+1 by omega,List.replicate_succ,List.set_cons_zero,List.take_add_one,h,List.map_append,List.append_assoc]
 rfl
theorem Zh6 {α:Type} {f:α→D} {z:D} {l:List α} {k:Nat} (h:k<l.length):(JI f z l k)[k]?=some z:=by
 unfold JI
 have hl:((l.take k).map f).length=k:=by simp;omega
 rw[List.getElem?_append_right (by omega),hl,Nat.sub_self,List.getElem?_replicate,if_pos (by omega)]
def ZfX:D:=.agg [J 0,J 0,J 0,.bool false,.sl []]
theorem Zi5 (ks:List Ze) (hk:ks.length≤1048576) (ih:∀ k∈ks,∀ o a p t ks',k=.mk o a p t ks'→Zv Xs Ms X4 [.d k.enc] []=some (.agg [(.d (J o)),(.d (J a)),(.d (J p)),(.d (.bool t)),.own 0],[.row 5 (ks'.map Ze.enc) true false])) :
  Zv Xs Ms Vu [(.d (.sl (ks.map Ze.enc)))] []=some (.own 0,[.row 5 (ks.map Ze.enc) true false]):=by
 have hm:(ks.length:Int)*56≤140737488355328∧(ks.length:Int)≤140737488355328:=by omega
 refine Zo Xs Ms WH Zkf (by show 1≤_;decide) ?_
 simp +contextual -implicitDefEqProofs (maxSteps:=10^7) only[go_sem,seval,↓gZ,WH,hm,ZR]
 refine VT Xs Ms (st0:=?st0) (α:=Nat) (fun k=>[(4,.d (J (k:Int)))]) (fun k=>[(0,.row 5 (JI Ze.enc ZfX ks k) true false)]) (fun k=>k≤ks.length) (fun k=>ks.length-k) 0 ?hc (by omega) ?h0 ?step
 case hc=>simp +contextual -implicitDefEqProofs (maxSteps:=10^7) only[go_sem,seval,↓gZ]<;>exact rfl
 case h0=>rw[ZfW];rfl
 case step=>
  intro k hk1 ih2
  have hfl:=Zh4 Ze.enc ZfX hk1
  by_cases hlt:k<ks.length
  ·obtain⟨x,hx⟩:=Vo hlt
   have hlt' : (k:Int)<(ks.length:Int):=by omega
   have w1:=XT (k:=k) (by omega)
   have hset:=Zh5 (f:=Ze.enc) (z:=ZfX) hx
   obtain⟨o,a,q,t,ks'⟩:=x
   have e1:=ih _ (List.mem_of_getElem? hx) o a q t ks' rfl
   rw[Ze.enc_mk] at e1 hset
   have z1:=Zh6 (f:=Ze.enc) (z:=ZfX) hlt
   have z2:ZfX.notSl=true:=rfl
   have z3:ZfX.cells.length=5:=rfl
   have z4:U7 ZfX 0 [J o,J a,J q,.bool t,.sl (ks'.map Ze.enc)]=.agg [J o,J a,J q,.bool t,.sl (ks'.map Ze.enc)]:=rfl
   simp +contextual -implicitDefEqProofs (maxSteps:=10^7) only[go_sem,seval,↓gZ,hlt',hlt,hx,w1,e1,hfl,z1,z2,z3,z4,hset]
   refine ih2 (k+1) _ (by omega) (by omega) ?_
   simp +contextual -implicitDefEqProofs (maxSteps:=10^7) only[go_sem,seval,↓gZ,hset]
  ·have:k=ks.length:=by omega
   subst this
   rw[Zh3]
   simp +contextual -implicitDefEqProofs (maxSteps:=10^7) only[go_sem,seval,↓gZ]
theorem Zdb:∀ (n:Nat) (p:Ze),p.nodes≤n→p.nodes≤1048577→∀ o a q t ks,p=.mk o a q t ks→Zv Xs Ms X4 [.d p.enc] []=some (.agg [(.d (J o)),(.d (J a)),(.d (J q)),(.d (.bool t)),.own 0],[.row 5 (ks.map Ze.enc) true false])
 | 0,.mk o a p t ks,hn,_,_,_,_,_,_,_=>by simp[Ze.nodes] at hn
 | n+1,.mk o a p t ks,hn,hb,o',a',q',t',ks',he=>by
  cases he
  have hl:=ZlA ks
  have hb' : nL ks≤1048576:=by simp only[Ze.nodes] at hb;simp only[nL];omega
  have e1:=Zi5 ks (by omega) (fun k hkm o1 a1 p1 t1 ks1 hk1=>by
   obtain⟨i,hi⟩:=List.mem_iff_getElem?.1 hkm
   have:=ZaF hi
   exact Zdb n k (Wp hn hi) (by simp only[nL] at hb';omega) o1 a1 p1 t1 ks1 hk1)
  rw[Ze.enc_mk]
  refine Zo Xs Ms Uy ZlF (by show 1≤_;decide) ?_
  simp +contextual -implicitDefEqProofs (maxSteps:=10^7) only[go_sem,seval,↓gZ,Uy,e1]
theorem Zj9 (o a q:Int) (t:Bool) (ks:List Ze) (h:nL ks≤1048576):Zv Xs Ms X4 [.d (.agg [J o,J a,J q,.bool t,.sl (ks.map Ze.enc)])] []=some (.agg [(.d (J o)),(.d (J a)),(.d (J q)),(.d (.bool t)),.own 0],[.row 5 (ks.map Ze.enc) true false]):=by
 have:=Zdb _ (.mk o a q t ks) (Nat.le_refl _) (by simp only[Ze.nodes,nL] at h ⊢;omega) o a q t ks rfl
 rwa [Ze.enc_mk] at this
theorem ZlB (bX bY bW bH:Int):Zv Xs Ms Ul [(.d (.agg [J bX,J bY,J bW,J bH]))] []=some ((.d (.agg [J bX,J bY,J bW,J bH])),[]):=by
 refine Zo Xs Ms JK ZnB (by show 1≤_;decide) ?_
 simp +contextual -implicitDefEqProofs (maxSteps:=10^7) only[go_sem,seval,↓gZ,JK]
theorem Zka (bW bH:Int) (bT:Bool) (bK:Int):Zv Xs Ms Wf [(.d (.agg [J bW,J bH,.bool bT,J bK]))] []=some ((.d (.agg [J bW,J bH,.bool bT,J bK])),[]):=by
 refine Zo Xs Ms UB ZlI (by show 1≤_;decide) ?_
 simp +contextual -implicitDefEqProofs (maxSteps:=10^7) only[go_sem,seval,↓gZ,UB]
theorem Zkb (bW bH:Int) (bT:Bool) (bK bC:Int):Zv Xs Ms Wd [(.d (.agg [J bW,J bH,.bool bT,J bK,J bC]))] []=some ((.d (.agg [J bW,J bH,.bool bT,J bK,J bC])),[]):=by
 have e1:=Zka bW bH bT bK
 refine Zo Xs Ms Ux ZlE (by show 1≤_;decide) ?_
 simp +contextual -implicitDefEqProofs (maxSteps:=10^7) only[go_sem,seval,↓gZ,Ux,e1]
theorem Zdc (eK eL eX eY eW eH epW epH:Int) (epT:Bool) (epK eC eo ea ep:Int) (et:Bool) (ek:List Ze) (h:nL ek≤1048576):Zv Xs Ms Xx [(.d (.agg [J eK,J eL,J eX,J eY,J eW,J eH,J epW,J epH,.bool epT,J epK,J eC,J eo,J ea,J ep,.bool et,.sl (ek.map Ze.enc)]))] []=some (.agg [(.d (J eK)),(.d (J eL)),(.d (J eX)),(.d (J eY)),(.d (J eW)),(.d (J eH)),(.d (J epW)),(.d (J epH)),(.d (.bool epT)),(.d (J epK)),(.d (J eC)),(.d (J eo)),(.d (J ea)),(.d (J ep)),(.d (.bool et)),.own 0],[.row 5 (ek.map Ze.enc) true false]):=by
 have e1:=ZlB eX eY eW eH
 have e2:=Zkb epW epH epT epK eC
 have e3:=Zj9 eo ea ep et ek h
 refine Zo Xs Ms WE Zkc (by show 1≤_;decide) ?_
 simp +contextual -implicitDefEqProofs (maxSteps:=10^7) only[go_sem,seval,↓gZ,WE,e1,e2,e3]
def ZlC:D:=.agg [J 0,J 0,J 0,J 0,J 0,J 0,J 0,J 0,.bool false,J 0,J 0,J 0,J 0,J 0,.bool false,.sl []]
theorem ZhG (ks:List Zt) (hk:ks.length≤1048576) (hs:∀ e∈ks,Zcy e≤1048576):Zv Xs Ms Xy [(.d (.sl (ks.map Zt.enc)))] []=some (.own 0,[.row 16 (ks.map Zt.enc) true false]):=by
 have hm:(ks.length:Int)*144≤140737488355328∧(ks.length:Int)≤140737488355328:=by omega
 refine Zo Xs Ms VJ Zi9 (by show 1≤_;decide) ?_
 simp +contextual -implicitDefEqProofs (maxSteps:=10^7) only[go_sem,seval,↓gZ,VJ,hm,ZR]
 refine VT Xs Ms (st0:=?st0) (α:=Nat) (fun k=>[(4,.d (J (k:Int)))]) (fun k=>[(0,.row 16 (JI Zt.enc ZlC ks k) true false)]) (fun k=>k≤ks.length) (fun k=>ks.length-k) 0 ?hc (by omega) ?h0 ?step
 case hc=>simp +contextual -implicitDefEqProofs (maxSteps:=10^7) only[go_sem,seval,↓gZ]<;>exact rfl
 case h0=>rw[ZfW];rfl
 case step=>
  intro k hk1 ih2
  have hfl:=Zh4 Zt.enc ZlC hk1
  by_cases hlt:k<ks.length
  ·obtain⟨x,hx⟩:=Vo hlt
   have hlt' : (k:Int)<(ks.length:Int):=by omega
   have w1:=XT (k:=k) (by omega)
   have hset:=Zh5 (f:=Zt.enc) (z:=ZlC) hx
   have hsx:=hs x (List.mem_of_getElem? hx)
   obtain⟨K,L,⟨X,Y,W,H⟩,⟨⟨pW,pH,pT,pK⟩,C⟩,⟨o,a,q,t,kk⟩⟩:=x
   have e1:=Zdc K L X Y W H pW pH pT pK C o a q t kk (by simp only[Zcy,Ze.nodes] at hsx;simp only[nL];omega)
   rw[Zt.enc_mk] at hset
   have z1:=Zh6 (f:=Zt.enc) (z:=ZlC) hlt
   have z2:ZlC.notSl=true:=rfl
   have z3:ZlC.cells.length=16:=rfl
   have z4:U7 ZlC 0 [J K,J L,J X,J Y,J W,J H,J pW,J pH,.bool pT,J pK,J C,J o,J a,J q,.bool t,.sl (kk.map Ze.enc)]=.agg [J K,J L,J X,J Y,J W,J H,J pW,J pH,.bool pT,J pK,J C,J o,J a,J q,.bool t,.sl (kk.map Ze.enc)]:=rfl
   simp +contextual -implicitDefEqProofs (maxSteps:=10^7) only[go_sem,seval,↓gZ,hlt',hlt,hx,w1,e1,hfl,z1,z2,z3,z4,hset]
   refine ih2 (k+1) _ (by omega) (by omega) ?_
   simp +contextual -implicitDefEqProofs (maxSteps:=10^7) only[go_sem,seval,↓gZ,hset]
  ·have:k=ks.length:=by omega
   subst this
   rw[Zh3]
   simp +contextual -implicitDefEqProofs (maxSteps:=10^7) only[go_sem,seval,↓gZ]
theorem Zi6 (bX bY bW bH:Int):Zv Xs Ms Um [(.d (.agg [J bX,J bY,J bW,J bH])),(.d (.agg [J bX,J bY,J bW,J bH]))] []=some ((.d (.bool true)),[]):=by
 refine Zo Xs Ms JL ZnC (by show 2≤_;decide) ?_
 simp +contextual -implicitDefEqProofs (maxSteps:=10^7) only[go_sem,seval,↓gZ,JL]
theorem ZhH (bW bH:Int) (bT:Bool) (bK:Int):Zv Xs Ms Wg [(.d (.agg [J bW,J bH,.bool bT,J bK])),(.d (.agg [J bW,J bH,.bool bT,J bK]))] []=some ((.d (.bool true)),[]):=by
 refine Zo Xs Ms UC ZlJ (by show 2≤_;decide) ?_
 simp +contextual -implicitDefEqProofs (maxSteps:=10^7) only[go_sem,seval,↓gZ,UC,ZhZ,bne_self_eq_false]
theorem ZhI (bW bH:Int) (bT:Bool) (bK bC:Int):Zv Xs Ms We [(.d (.agg [J bW,J bH,.bool bT,J bK,J bC])),(.d (.agg [J bW,J bH,.bool bT,J bK,J bC]))] []=some ((.d (.bool true)),[]):=by
 have e1:=ZhH bW bH bT bK
 refine Zo Xs Ms Uz ZlG (by show 2≤_;decide) ?_
 simp +contextual -implicitDefEqProofs (maxSteps:=10^7) only[go_sem,seval,↓gZ,Uz,e1]
theorem Zi7 (ks:List Ze) (hk:ks.length≤1048576) (ih:∀ k∈ks,Zv Xs Ms X6 [.d k.enc,.d k.enc] []=some ((.d (.bool true)),[])) :
  Zv Xs Ms Vv [(.d (.sl (ks.map Ze.enc))),(.d (.sl (ks.map Ze.enc)))] []=some ((.d (.bool true)),[]):=by
 refine Zo Xs Ms WI Zkg (by show 2≤_;decide) ?_
 simp +contextual -implicitDefEqProofs (maxSteps:=10^7) only[go_sem,seval,↓gZ,WI]
 refine VT Xs Ms (st0:=?st0) (α:=Nat) (fun k=>[(5,.d (J (k:Int)))]) (fun _=>[]) (fun k=>k≤ks.length) (fun k=>ks.length-k) 0 ?hc (by omega) ?h0 ?step
 case hc=>simp +contextual -implicitDefEqProofs (maxSteps:=10^7) only[go_sem,seval,↓gZ]<;>exact rfl
 case h0=>rfl
 case step=>
  intro k hk1 ih2
  by_cases hlt:k<ks.length
  ·obtain⟨x,hx⟩:=Vo hlt
   have hlt' : (k:Int)<(ks.length:Int):=by omega
   have w1:=XT (k:=k) (by omega)
   have e1:=ih x (List.mem_of_getElem? hx)
   obtain⟨o,a,q,t,ks'⟩:=x
   rw[Ze.enc_mk] at e1
   simp +contextual -implicitDefEqProofs (maxSteps:=10^7) only[go_sem,seval,↓gZ,hlt',hlt,hx,w1,e1]
   refine ih2 (k+1) _ (by omega) (by omega) ?_
   simp +contextual -implicitDefEqProofs (maxSteps:=10^7) only[go_sem,seval,↓gZ]
  ·have:k=ks.length:=by omega
   subst this
   simp +contextual -implicitDefEqProofs (maxSteps:=10^7) only[go_sem,seval,↓gZ]
theorem Zdd:∀ (n:Nat) (p:Ze),p.nodes≤n→p.nodes≤1048577→Zv Xs Ms X6 [.d p.enc,.d p.enc] []=some ((.d (.bool true)),[])
 | 0,.mk o a p t ks,hn,_=>by simp[Ze.nodes] at hn
 | n+1,.mk o a p t ks,hn,hb=>by
  have hl:=ZlA ks
  have hb' : nL ks≤1048576:=by simp only[Ze.nodes] at hb;simp only[nL];omega
  have e1:=Zi7 ks (by omega) (fun k hkm=>by
   obtain⟨i,hi⟩:=List.mem_iff_getElem?.1 hkm
   have:=ZaF hi
   exact Zdd n k (Wp hn hi) (by simp only[nL] at hb';omega))
  rw[Ze.enc_mk]
  refine Zo Xs Ms UA ZlH (by show 2≤_;decide) ?_
  simp +contextual -implicitDefEqProofs (maxSteps:=10^7) only[go_sem,seval,↓gZ,UA,e1,ZhZ,bne_self_eq_false]
theorem ZhJ (o a q:Int) (t:Bool) (ks:List Ze) (h:nL ks≤1048576):Zv Xs Ms X6 [.d (.agg [J o,J a,J q,.bool t,.sl (ks.map Ze.enc)]),.d (.agg [J o,J a,J q,.bool t,.sl (ks.map Ze.enc)])] []=some ((.d (.bool true)),[]):=by
 have:=Zdd _ (.mk o a q t ks) (Nat.le_refl _) (by simp only[Ze.nodes,nL] at h ⊢;omega)
 rwa [Ze.enc_mk] at this
theorem Za8 (eK eL eX eY eW eH epW epH:Int) (epT:Bool) (epK eC eo ea ep:Int) (et:Bool) (ek:List Ze) (h:nL ek≤1048576):Zv Xs Ms Yz [(.d (.agg [J eK,J eL,J eX,J eY,J eW,J eH,J epW,J epH,.bool epT,J epK,J eC,J eo,J ea,J ep,.bool et,.sl (ek.map Ze.enc)])),(.d (.agg [J eK,J eL,J eX,J eY,J eW,J eH,J epW,J epH,.bool epT,J epK,J eC,J eo,J ea,J ep,.bool et,.sl (ek.map Ze.enc)]))] []=some ((.d (.bool true)),[]):=by
 have e1:=Zi6 eX eY eW eH
 have e2:=ZhI epW epH epT epK eC
 have e3:=ZhJ eo ea ep et ek h
 refine Zo Xs Ms WF Zkd (by show 2≤_;decide) ?_
 simp +contextual -implicitDefEqProofs (maxSteps:=10^7) only[go_sem,seval,↓gZ,WF,e1,e2,e3]
theorem Zfx (ks:List Zt) (hk:ks.length≤1048576) (hs:∀ e∈ks,Zcy e≤1048576):Zv Xs Ms YM [(.d (.sl (ks.map Zt.enc))),(.d (.sl (ks.map Zt.enc)))] []=some ((.d (.bool true)),[]):=by
 refine Zo Xs Ms VK Zja (by show 2≤_;decide) ?_
 simp +contextual -implicitDefEqProofs (maxSteps:=10^7) only[go_sem,seval,↓gZ,VK]
 refine VT Xs Ms (st0:=?st0) (α:=Nat) (fun k=>[(5,.d (J (k:Int)))]) (fun _=>[]) (fun k=>k≤ks.length) (fun k=>ks.length-k) 0 ?hc (by omega) ?h0 ?step
 case hc=>simp +contextual -implicitDefEqProofs (maxSteps:=10^7) only[go_sem,seval,↓gZ]<;>exact rfl
 case h0=>rfl
 case step=>
  intro k hk1 ih2
  by_cases hlt:k<ks.length
  ·obtain⟨x,hx⟩:=Vo hlt
   have hlt' : (k:Int)<(ks.length:Int):=by omega
   have w1:=XT (k:=k) (by omega)
   have hsx:=hs x (List.mem_of_getElem? hx)
   obtain⟨K,L,⟨X,Y,W,H⟩,⟨⟨pW,pH,pT,pK⟩,C⟩,⟨o,a,q,t,kk⟩⟩:=x
   have e1:=Za8 K L X Y W H pW pH pT pK C o a q t kk (by simp only[Zcy,Ze.nodes] at hsx;simp only[nL];omega)
   simp +contextual -implicitDefEqProofs (maxSteps:=10^7) only[go_sem,seval,↓gZ,hlt',hlt,hx,w1,e1]
   refine ih2 (k+1) _ (by omega) (by omega) ?_
   simp +contextual -implicitDefEqProofs (maxSteps:=10^7) only[go_sem,seval,↓gZ]
  ·have:k=ks.length:=by omega
   subst this
   simp +contextual -implicitDefEqProofs (maxSteps:=10^7) only[go_sem,seval,↓gZ]
theorem JJ (e:Zt) (hp:e.plan.ok):Zv Xs Ms Qg [.d e.enc] []=some ((.d (.bool true)),[]):=by
 obtain⟨K,L,⟨X,Y,W,H⟩,⟨⟨pW,pH,pT,pK⟩,C⟩,⟨o,a,q,t,kk⟩⟩:=e
 simp only at hp
 have e1:=Zda K L X Y W H pW pH pT pK C o a q t kk hp 1048576 (by decide) (by decide)
 rw[Zt.enc_mk]
 by_cases hs:((nL kk:Nat):Int)≤1048576
 ·rw[U6 hs] at e1
  have hs0:¬(1048576:Int)-((nL kk:Nat):Int)<0:=by omega
  have e2:=Zdc K L X Y W H pW pH pT pK C o a q t kk (by omega)
  have e3:=Zeb K L X Y W H pW pH pT pK C o a q t kk
  have e4:=JH K L X Y W H pW pH pT pK C o a q t kk
  have e5:=Za8 K L X Y W H pW pH pT pK C o a q t kk (by omega)
  generalize Zly _=tx at e3 e4
  have hself:(tx != tx)=false:=by simp
  generalize nL kk=m at *
  refine Zo Xs Ms Z3 VH (by show 1≤_;decide) ?_
  simp +contextual -implicitDefEqProofs (maxSteps:=10^7) only[go_sem,seval,↓gZ,Z3,e1,hs0,e2,e3,e4,e5,hself]
 ·rw[Jl hs] at e1
  refine Zo Xs Ms Z3 VH (by show 1≤_;decide) ?_
  simp +contextual -implicitDefEqProofs (maxSteps:=10^7) only[go_sem,seval,↓gZ,Z3,e1]
theorem Zh7 {α:Type} {f:α→Nat}:∀ {l:List α} {x:α},x∈l→f x≤YX f l
 | y :: l,x,h=>by
  rcases List.mem_cons.1 h with rfl | h
  ·simp[YX]
  ·have:=Zh7 (f:=f) h
   simp only[YX];omega
theorem Zak (ks:List Zt) (hk:ks.length≤maxLen) (hp:∀ e∈ks,e.plan.ok):Zv Xs Ms Qn [(.d (.sl (ks.map Zt.enc)))] []=some ((.d (.bool true)),[]):=by
 have e1:=ZhF ks hk hp 1048576 (by decide) (by decide)
 by_cases hs:((ks.length+YX Zcy ks:Nat):Int)≤1048576
 ·rw[U6 hs] at e1
  have hs0:¬(1048576:Int)-((ks.length+YX Zcy ks:Nat):Int)<0:=by omega
  have hsz:∀ e∈ks,Zcy e≤1048576:=fun e he=>by have:=Zh7 (f:=Zcy) he;omega
  have e2:=ZhG ks (by omega) hsz
  have e3:=Zfw ks
  have e4:=Zfv ks
  have e5:=Zfx ks (by omega) hsz
  generalize Zj5 ks=tx at e3 e4
  have hself:(tx != tx)=false:=by simp
  generalize ks.length+YX Zcy ks=m at *
  refine Zo Xs Ms Z7 V7 (by show 1≤_;decide) ?_
  simp +contextual -implicitDefEqProofs (maxSteps:=10^7) only[go_sem,seval,↓gZ,Z7,e1,hs0,e2,e3,e4,e5,hself]
 ·rw[Jl hs] at e1
  refine Zo Xs Ms Z7 V7 (by show 1≤_;decide) ?_
  simp +contextual -implicitDefEqProofs (maxSteps:=10^7) only[go_sem,seval,↓gZ,Z7,e1]
end Go.Proofs.YtemkonmgcoceaaaDoor
