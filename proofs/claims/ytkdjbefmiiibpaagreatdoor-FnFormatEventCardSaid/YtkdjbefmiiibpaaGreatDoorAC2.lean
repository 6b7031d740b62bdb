/- Contracts of the functions,by the abstract semantics. -/
import Derived.Test.YtkdjbefmiiibpaaGreatDoorACode
import Derived.Test.YtkdjbefmiiibpaaGreatDoorAbsParts
import Derived.Test.YtkdjbefmiiibpaaGreatDoorAC1
namespace Go.Proofs.YtkdjbefmiiibpaaGreatDoor
open Go Go.Abs Go.Abs.E Go.Abs.L
open Nat (reduceMul reduceSub reduceLeDiff reduceEqDiff)
open Int (reduceLE reduceEq reduceToNat reduceNeg)
set_option linter.unusedSimpArgs false
set_option linter.unusedVariables false
set_option maxRecDepth 20000
set_option maxHeartbeats 4000000
theorem ZsF (k:Xk) (p:Zj):(WW k p).length≤255:=by
 unfold WW
 split
 ·split
  ·rename_i h
   simp only[Bool.and_eq_true,decide_eq_true_eq] at h
   rw[Zfo];exact h.1.2
  ·simp
 ·simp
theorem Jf (ps:List Pane):∀ (b:BT) (gX gY gW gH:Int),inB (Box.mk gX gY gW gH)→Uo ps b gW gH=true→b.cnt≤1000 →
  Zk Xs Ms YA [.d b.plan.enc,(.d (.agg [J gX,J gY,J gW,J gH]))] []=some (.own 0,[.row 6 ((sp b gX gY gW gH).map Place.enc) true false])
 | .waste,gX,gY,gW,gH,hg,hf,hl=>by
  simp only[BT.plan,Zj.enc_mk,sp]
  refine Zc Xs Ms YD ZdZ (by show 2≤_;decide) ?_
  simp +contextual -implicitDefEqProofs (maxSteps:=10^7) only[go_sem,seval,↓gZ,YD]
  try rfl
 | .pane i t,gX,gY,gW,gH,hg,hf,hl=>by
  simp only[BT.plan,Zj.enc_mk,sp]
  refine Zc Xs Ms YD ZdZ (by show 2≤_;decide) ?_
  simp +contextual -implicitDefEqProofs (maxSteps:=10^7) only[go_sem,seval,↓gZ,YD]
  try rfl
 | .cut d a l r,gX,gY,gW,gH,hg,hf,hl=>by
  simp only[BT.cnt] at hl
  simp only[inB] at hg
  simp only[BT.plan,Zj.enc_mk]
  cases d with
  | true=>
   simp only[Uo,Bool.and_eq_true,decide_eq_true_eq,if_true] at hf
   have w1:=wi (gX+a) (by omega) (by omega)
   have w2:=wi (gW-a) (by omega) (by omega)
   have l1:=Zc0 l gX gY a gH
   have l2:=Zc0 r (gX+a) gY (gW-a) gH
   have e1:=Jf ps l gX gY a gH (by simp only[inB];omega) hf.1.2 (by omega)
   have e2:=Jf ps r (gX+a) gY (gW-a) gH (by simp only[inB];omega) hf.2 (by omega)
   have h1:((sp l gX gY a gH).length+(sp r (gX+a) gY (gW-a) gH).length)*48≤140737488355328∧(sp l gX gY a gH).length+(sp r (gX+a) gY (gW-a) gH).length≤140737488355328:=by omega
   refine Zc Xs Ms YD ZdZ (by show 2≤_;decide) ?_
   simp +contextual -implicitDefEqProofs (maxSteps:=10^7) only[go_sem,seval,↓gZ,YD,Za6,w1,w2,h1,e1,e2]
   simp[sp]
  | false=>
   simp only[Uo,Bool.and_eq_true,decide_eq_true_eq,Bool.false_eq_true,if_false] at hf
   have w1:=wi (gY+a) (by omega) (by omega)
   have w2:=wi (gH-a) (by omega) (by omega)
   have l1:=Zc0 l gX gY gW a
   have l2:=Zc0 r gX (gY+a) gW (gH-a)
   have e1:=Jf ps l gX gY gW a (by simp only[inB];omega) hf.1.2 (by omega)
   have e2:=Jf ps r gX (gY+a) gW (gH-a) (by simp only[inB];omega) hf.2 (by omega)
   have h1:((sp l gX gY gW a).length+(sp r gX (gY+a) gW (gH-a)).length)*48≤140737488355328∧(sp l gX gY gW a).length+(sp r gX (gY+a) gW (gH-a)).length≤140737488355328:=by omega
   refine Zc Xs Ms YD ZdZ (by show 2≤_;decide) ?_
   simp +contextual -implicitDefEqProofs (maxSteps:=10^7) only[go_sem,seval,↓gZ,YD,Za6,w1,w2,h1,e1,e2]
   simp[sp]
theorem Zey (qL qW qH:Int) (qF:List Box) (hl:qF.length<4611686018427387904) (hW:R64 qW) (hH:R64 qH):Zk Xs Ms Yz [(.d (.agg [J qL,J qW,J qH,.sl (qF.map Box.enc)]))] []=some ((.d (.bool (decide (VPc (Zd.mk qL qW qH qF))))),[]):=by
 refine Zc Xs Ms WP Zlp (by show 1≤_;decide) ?_
 simp +contextual -implicitDefEqProofs (maxSteps:=10^7) only[go_sem,seval,↓gZ,WP]
 refine Qb Xs Ms (st0:=?st0) (α:=Nat) (fun k=>[(3,.d (J (k:Int)))]) (fun _=>[]) (fun k=>k≤qF.length∧((∀ f∈qF,Zfp qW qH f)↔∀ f∈qF.drop k,Zfp qW qH f)) (fun k=>qF.length-k) 0 ?hc ⟨by omega,by simp⟩ ?h0 ?step
 case hc=>simp +contextual -implicitDefEqProofs (maxSteps:=10^7) only[go_sem,seval,↓gZ];exact rfl
 case h0=>rfl
 case step=>
  intro k ⟨hk,hp⟩ ih
  by_cases hlt:k<qF.length
  ·obtain⟨x,hx⟩:=Z4 hlt
   rw[ZmB hx] at hp
   have hw:=ZD (k:=k) (by omega)
   obtain⟨X,Y,W,H⟩:=x
   by_cases hv:VB ⟨X,Y,W,H⟩
   ·have hi:=Zm9 X Y W H 0 0 qW qH hv ⟨by omega,by omega⟩ ⟨by omega,by omega⟩ (by simpa using hW) (by simpa using hH)
    simp +contextual -implicitDefEqProofs (maxSteps:=10^7) only[go_sem,seval,↓gZ,hx,hlt,hw,Zgm,hi,hv]
    refine⟨fun h=>ZuP (fun hh=>h ((hp.1 hh.2).1.2)),fun h=>ih (k+1) _ ⟨by omega,?_⟩ (by omega) ?_⟩
    ·rw[hp];exact⟨fun hh=>hh.2,fun hh=>⟨⟨hv,h⟩,hh⟩⟩
    ·simp +contextual -implicitDefEqProofs (maxSteps:=10^7) only[go_sem,seval,↓gZ]
   ·simp +contextual -implicitDefEqProofs (maxSteps:=10^7) only[go_sem,seval,↓gZ,hx,hlt,hw,Zgm,hv]
    exact ZuP (fun hh=>hv ((hp.1 hh.2).1.1))
  ·have:k=qF.length:=by omega
   subst this
   simp +contextual -implicitDefEqProofs (maxSteps:=10^7) only[go_sem,seval,↓gZ,Zv]
   have hv:∀ f∈qF,Zfp qW qH f:=hp.2 (by simp)
   exact Zh4 (by simp only[VPc];exact⟨fun h=>⟨by omega,hv⟩,fun h=>by omega⟩)
theorem Zhq (qL qW qH:Int) (qF:List Box) (bX bY bW bH:Int) (hf:∀ f∈qF,VB f) (hb:VB (Box.mk bX bY bW bH)) (hl:qF.length<4611686018427387904):Zk Xs Ms WG [(.d (.agg [J qL,J qW,J qH,.sl (qF.map Box.enc)])),(.d (.agg [J bX,J bY,J bW,J bH]))] []=some ((.d (.bool (decide (Yb qF (Box.mk bX bY bW bH))))),[]):=by
 refine Zc Xs Ms ZaQ Zrq (by show 2≤_;decide) ?_
 simp +contextual -implicitDefEqProofs (maxSteps:=10^7) only[go_sem,seval,↓gZ,ZaQ]
 refine Qb Xs Ms (st0:=?st0) (α:=Nat) (fun k=>[(5,.d (J (k:Int)))]) (fun _=>[]) (fun k=>k≤qF.length∧(Yb qF (Box.mk bX bY bW bH)↔Yb (qF.drop k) (Box.mk bX bY bW bH))) (fun k=>qF.length-k) 0 ?hc ⟨by omega,by simp⟩ ?h0 ?step
 case hc=>simp +contextual -implicitDefEqProofs (maxSteps:=10^7) only[go_sem,seval,↓gZ];exact rfl
 case h0=>rfl
 case step=>
  intro k ⟨hk,hp⟩ ih
  by_cases hlt:k<qF.length
  ·obtain⟨x,hx⟩:=Z4 hlt
   unfold Yb at hp
   rw[ZmB hx (fun f=>¬ZeD f (Box.mk bX bY bW bH))] at hp
   have hw:=ZD (k:=k) (by omega)
   have hvx:=hf x (List.mem_of_getElem? hx)
   obtain⟨X,Y,W,H⟩:=x
   by_cases hm:ZeD ⟨X,Y,W,H⟩ (Box.mk bX bY bW bH)
   ·simp +contextual -implicitDefEqProofs (maxSteps:=10^7) only[go_sem,seval,↓gZ,hx,hlt,hw,Zhp X Y W H bX bY bW bH hvx hb hm]
    have:¬Yb qF (Box.mk bX bY bW bH):=fun hh=>(hp.1 hh).1 hm
    simp[this]
   ·simp +contextual -implicitDefEqProofs (maxSteps:=10^7) only[go_sem,seval,↓gZ,hx,hlt,hw,Zjt X Y W H bX bY bW bH hvx hb hm]
    refine ih (k+1) _ ⟨by omega,?_⟩ (by omega) ?_
    ·unfold Yb;rw[hp];exact⟨fun hh=>hh.2,fun hh=>⟨hm,hh⟩⟩
    ·simp +contextual -implicitDefEqProofs (maxSteps:=10^7) only[go_sem,seval,↓gZ]
  ·have:k=qF.length:=by omega
   subst this
   simp +contextual -implicitDefEqProofs (maxSteps:=10^7) only[go_sem,seval,↓gZ]
   have:Yb qF (Box.mk bX bY bW bH):=hp.2 (by simp[Yb])
   simp[this]
theorem Zgp (kW kH:Int) (kP:List Pane) (p:Zj) (b:BT) (hp:p=b.plan) (hg:inB ⟨0,0,kW,kH⟩) (hf:Uo kP b kW kH=true) (hl:b.cnt≤1000):Zk Xs Ms VQ [(.d (.agg [J kW,J kH,.sl (kP.map Pane.enc)])),.d p.enc] []=some (.own 0,[.row 6 ((plc b 0 0 kW kH).map Place.enc) true false]):=by
 have e:=Jf kP b 0 0 kW kH hg hf hl
 have hm:=Zjb b 0 0 kW kH (Zf1 hf)
 have hn:=Zc0 b 0 0 kW kH
 rw[← hp] at e
 rw[← hm]
 clear hm
 generalize sp b 0 0 kW kH=S at e hn ⊢
 clear hp hf hg
 obtain⟨o,a,q,t,ks⟩:=p
 rw[Zj.enc_mk] at e ⊢
 refine Zc Xs Ms JN ZpY (by show 2≤_;decide) ?_
 simp +contextual -implicitDefEqProofs (maxSteps:=10^7) only[go_sem,seval,↓gZ,JN,e]
 refine Qb Xs Ms (st0:=?st0) (α:=Nat) (fun i=>[(7,.d (J (i:Int)))]) (fun i=>[(1,.row 6 (((S.take i).filterMap ZcE).map Place.enc) true false)]) (fun i=>i≤S.length) (fun i=>S.length-i) 0 ?hc (by omega) ?h0 ?step
 case hc=>simp +contextual -implicitDefEqProofs (maxSteps:=10^7) only[go_sem,seval,↓gZ];exact rfl
 case h0=>rfl
 case step=>
  intro i hi ih
  by_cases hlt:i<S.length
  ·obtain⟨x,hx⟩:=Z4 hlt
   have hw:=ZD (k:=i) (by omega)
   have hm:=Zid (f:=ZcE) hx
   have hfl:((S.take i).filterMap ZcE).length≤i:=Nat.le_trans (List.length_filterMap_le _ _) (by simp;omega)
   have hr:(((S.take i).filterMap ZcE).length+1)*48≤140737488355328∧((S.take i).filterMap ZcE).length≤140737488355327:=by omega
   obtain⟨q',t',⟨X,Y,W,H⟩⟩:=x
   simp only[ZcE] at hm
   by_cases ho:0≤q'
   ·rw[if_pos ho] at hm
    simp +contextual -implicitDefEqProofs (maxSteps:=10^7) only[go_sem,seval,↓gZ,hx,hlt,hw,ho,hr]
    refine ih (i+1) _ (by omega) (by omega) ?_
    simp +contextual -implicitDefEqProofs (maxSteps:=10^7) only[go_sem,seval,↓gZ,hm]
    first | rfl | (simp;done) | (simp;rfl)
   ·rw[if_neg ho] at hm
    simp +contextual -implicitDefEqProofs (maxSteps:=10^7) only[go_sem,seval,↓gZ,hx,hlt,hw,ho,hr]
    refine ih (i+1) _ (by omega) (by omega) ?_
    simp +contextual -implicitDefEqProofs (maxSteps:=10^7) only[go_sem,seval,↓gZ,hm]
    first | rfl | (simp;done) | (simp;rfl)
  ·have:i=S.length:=by omega
   subst this
   simp +contextual -implicitDefEqProofs (maxSteps:=10^7) only[go_sem,seval,↓gZ]
   simp
theorem Zgq (kW kH:Int) (kP:List Pane) (p:Zj) (b:BT) (hp:p=b.plan) (hg:inB ⟨0,0,kW,kH⟩) (hf:Uo kP b kW kH=true) (hl:b.cnt≤1000):Zk Xs Ms VO [(.d (.agg [J kW,J kH,.sl (kP.map Pane.enc)])),.d p.enc] []=some (.own 0,[.row 4 ((wst b 0 0 kW kH).map Box.enc) true false]):=by
 have e:=Jf kP b 0 0 kW kH hg hf hl
 have hm:=Zjc b 0 0 kW kH (Zf1 hf)
 have hn:=Zc0 b 0 0 kW kH
 rw[← hp] at e
 rw[← hm]
 clear hm
 generalize sp b 0 0 kW kH=S at e hn ⊢
 clear hp hf hg
 obtain⟨o,a,q,t,ks⟩:=p
 rw[Zj.enc_mk] at e ⊢
 refine Zc Xs Ms JM ZpX (by show 2≤_;decide) ?_
 simp +contextual -implicitDefEqProofs (maxSteps:=10^7) only[go_sem,seval,↓gZ,JM,e]
 refine Qb Xs Ms (st0:=?st0) (α:=Nat) (fun i=>[(7,.d (J (i:Int)))]) (fun i=>[(1,.row 4 (((S.take i).filterMap ZcF).map Box.enc) true false)]) (fun i=>i≤S.length) (fun i=>S.length-i) 0 ?hc (by omega) ?h0 ?step
 case hc=>simp +contextual -implicitDefEqProofs (maxSteps:=10^7) only[go_sem,seval,↓gZ];exact rfl
 case h0=>rfl
 case step=>
  intro i hi ih
  by_cases hlt:i<S.length
  ·obtain⟨x,hx⟩:=Z4 hlt
   have hw:=ZD (k:=i) (by omega)
   have hm:=Zid (f:=ZcF) hx
   have hfl:((S.take i).filterMap ZcF).length≤i:=Nat.le_trans (List.length_filterMap_le _ _) (by simp;omega)
   have hr:(((S.take i).filterMap ZcF).length+1)*32≤140737488355328∧((S.take i).filterMap ZcF).length≤140737488355327:=by omega
   obtain⟨q',t',⟨X,Y,W,H⟩⟩:=x
   simp only[ZcF] at hm
   by_cases ho:q' < 0
   ·rw[if_pos ho] at hm
    simp +contextual -implicitDefEqProofs (maxSteps:=10^7) only[go_sem,seval,↓gZ,hx,hlt,hw,ho,hr]
    refine ih (i+1) _ (by omega) (by omega) ?_
    simp +contextual -implicitDefEqProofs (maxSteps:=10^7) only[go_sem,seval,↓gZ,hm]
    first | rfl | (simp;done) | (simp;rfl)
   ·rw[if_neg ho] at hm
    simp +contextual -implicitDefEqProofs (maxSteps:=10^7) only[go_sem,seval,↓gZ,hx,hlt,hw,ho,hr]
    refine ih (i+1) _ (by omega) (by omega) ?_
    simp +contextual -implicitDefEqProofs (maxSteps:=10^7) only[go_sem,seval,↓gZ,hm]
    first | rfl | (simp;done) | (simp;rfl)
  ·have:i=S.length:=by omega
   subst this
   simp +contextual -implicitDefEqProofs (maxSteps:=10^7) only[go_sem,seval,↓gZ]
   simp
theorem Zgr (qL qW qH:Int) (qF:List Box) (kW kH:Int) (kP:List Pane) (p:Zj) (hfl:∀ f∈qF,VB f) (hq6:qF.length≤6) (hl:kP.length<4611686018427387904):Zk Xs Ms Uf [(.d (.agg [J qL,J qW,J qH,.sl (qF.map Box.enc)])),(.d (.agg [J kW,J kH,.sl (kP.map Pane.enc)])),.d p.enc] []=some ((.d (.bool (decide (ZeF (Zd.mk qL qW qH qF) (Xk.mk kW kH kP) p)))),[]):=by
 have ev:=ZeM kW kH kP p hl
 by_cases hv:ZdF (Xk.mk kW kH kP) p=true
 ·by_cases hw:kW=qW
  ·by_cases hh:kH=qH
   ·subst hw;subst hh
    obtain⟨b,hb,hpb,hvw,hcnt,hfit,hpt⟩:=WX hv
    have hvw':=hvw
    simp only[VW] at hvw'
    have ep:=Zgp kW kH kP p b hpb (by simp only[inB];omega) hfit (by omega)
    have hbox:∀ c∈plc b 0 0 kW kH,VB c.Box:=ZqA (p:=p) hvw hfit
    have hlen:(plc b 0 0 kW kH).length≤255:=by
     rw[← ZdD];exact Nat.le_trans (List.length_filterMap_le _ _) (by rw[Zfo];exact hcnt)
    have hgood:ZeF ⟨qL,kW,kH,qF⟩ (Xk.mk kW kH kP) p↔∀ c∈plc b 0 0 kW kH,Yb qF c.Box:=by
     unfold ZeF;rw[hpt,ZdD];exact⟨fun h=>h.2.2.2,fun h=>⟨hv,rfl,rfl,h⟩⟩
    rw[hv] at ev
    generalize plc b 0 0 kW kH=L at ep hbox hlen hgood
    clear hpt hpb hb
    obtain⟨o,a,n,t,ks⟩:=p
    rw[Zj.enc_mk] at ev ep ⊢
    refine Zc Xs Ms Xy Zbs (by show 3≤_;decide) ?_
    simp +contextual -implicitDefEqProofs (maxSteps:=10^7) only[go_sem,seval,↓gZ,Xy,ev,ep]
    refine Qb Xs Ms (st0:=?st0) (α:=Nat) (fun i=>[(8,.d (J (i:Int)))]) (fun _=>[]) (fun i=>i≤L.length∧((∀ c∈L,Yb qF c.Box)↔∀ c∈L.drop i,Yb qF c.Box)) (fun i=>L.length-i) 0 ?hc ⟨by omega,by simp⟩ ?h0 ?step
    case hc=>simp +contextual -implicitDefEqProofs (maxSteps:=10^7) only[go_sem,seval,↓gZ];exact rfl
    case h0=>rfl
    case step=>
     intro i ⟨hi,hp⟩ ih
     by_cases hlt:i<L.length
     ·obtain⟨x,hx⟩:=Z4 hlt
      rw[ZmB hx (fun c=>Yb qF c.Box)] at hp
      have hw:=ZD (k:=i) (by omega)
      have hbx:=hbox x (List.mem_of_getElem? hx)
      obtain⟨q',t',⟨X,Y,W,H⟩⟩:=x
      have em:=Zhq qL kW kH qF X Y W H hfl hbx (by omega)
      simp +contextual -implicitDefEqProofs (maxSteps:=10^7) only[go_sem,seval,↓gZ,hx,hlt,hw,em]
      refine⟨fun h=>ZuP (fun h'=>h ((hp.1 (hgood.1 h')).1)),fun h=>ih (i+1) _ ⟨by omega,?_⟩ (by omega) ?_⟩
      ·rw[hp];exact⟨fun h'=>h'.2,fun h'=>⟨h,h'⟩⟩
      ·simp +contextual -implicitDefEqProofs (maxSteps:=10^7) only[go_sem,seval,↓gZ]
     ·have:i=L.length:=by omega
      subst this
      simp +contextual -implicitDefEqProofs (maxSteps:=10^7) only[go_sem,seval,↓gZ]
      exact fin_t (hgood.2 (hp.2 (by simp)))
   ·subst hw
    have hn:¬ZeF ⟨qL,kW,qH,qF⟩ (Xk.mk kW kH kP) p:=fun h=>hh h.2.2.1
    obtain⟨o,a,n,t,ks⟩:=p
    rw[hv] at ev
    rw[Zj.enc_mk] at ev ⊢
    refine Zc Xs Ms Xy Zbs (by show 3≤_;decide) ?_
    simp +contextual -implicitDefEqProofs (maxSteps:=10^7) only[go_sem,seval,↓gZ,Xy,ev,hh,hn]
  ·have hn:¬ZeF (Zd.mk qL qW qH qF) (Xk.mk kW kH kP) p:=fun h=>hw h.2.1
   obtain⟨o,a,n,t,ks⟩:=p
   rw[hv] at ev
   rw[Zj.enc_mk] at ev ⊢
   refine Zc Xs Ms Xy Zbs (by show 3≤_;decide) ?_
   simp +contextual -implicitDefEqProofs (maxSteps:=10^7) only[go_sem,seval,↓gZ,Xy,ev,hw,hn]
 ·have hv':=(Bool.not_eq_true _).mp hv
  have hn:¬ZeF (Zd.mk qL qW qH qF) (Xk.mk kW kH kP) p:=fun h=>hv h.1
  rw[hv'] at ev
  obtain⟨o,a,n,t,ks⟩:=p
  rw[Zj.enc_mk] at ev ⊢
  refine Zc Xs Ms Xy Zbs (by show 3≤_;decide) ?_
  simp +contextual -implicitDefEqProofs (maxSteps:=10^7) only[go_sem,seval,↓gZ,Xy,ev,hn]
theorem ZqU (qL qW qH:Int) (qF:List Box) (bX bY bW bH:Int) (label:Int) (hf:∀ f∈qF,VB f) (hl:qF.length≤6) (hb:VB (Box.mk bX bY bW bH)) :
  Zk Xs Ms Zaj [(.d (.agg [J qL,J qW,J qH,.sl (qF.map Box.enc)])),(.d (.agg [J bX,J bY,J bW,J bH])),(.d (J label))] []=some (.agg [(.d (J label)),(.d (J bW)),(.d (J bH)),.own 0],[.row 4 ((qF.filterMap (ZaG (Box.mk bX bY bW bH))).map Box.enc) true false]):=by
 refine Zc Xs Ms Zb0 Zs9 (by show 3≤_;decide) ?_
 simp +contextual -implicitDefEqProofs (maxSteps:=10^7) only[go_sem,seval,↓gZ,Zb0]
 refine Qb Xs Ms (st0:=?st0) (α:=Nat) (fun i=>[(8,.d (J (i:Int)))]) (fun i=>[(4,.row 4 (((qF.take i).filterMap (ZaG (Box.mk bX bY bW bH))).map Box.enc) true false)]) (fun i=>i≤qF.length) (fun i=>qF.length-i) 0 ?hc (by omega) ?h0 ?step
 case hc=>simp +contextual -implicitDefEqProofs (maxSteps:=10^7) only[go_sem,seval,↓gZ];exact rfl
 case h0=>rfl
 case step=>
  intro i hk ih
  by_cases hlt:i<qF.length
  ·obtain⟨x,hx⟩:=Z4 hlt
   have hw:=ZD (k:=i) (by omega)
   have hm:=Zid (f:=ZaG (Box.mk bX bY bW bH)) hx
   have hfl:((qF.take i).filterMap (ZaG (Box.mk bX bY bW bH))).length≤i:=Nat.le_trans (List.length_filterMap_le _ _) (by simp;omega)
   have hr:(((qF.take i).filterMap (ZaG (Box.mk bX bY bW bH))).length+1)*32≤140737488355328∧((qF.take i).filterMap (ZaG (Box.mk bX bY bW bH))).length≤140737488355327:=by omega
   have hvx:=hf x (List.mem_of_getElem? hx)
   obtain⟨X,Y,W,H⟩:=x
   have hvx':=hvx
   have hb':=hb
   simp only[VB] at hvx' hb'
   simp only[ZaG] at hm
   by_cases ho:ZeD ⟨X,Y,W,H⟩ (Box.mk bX bY bW bH)
   ·rw[if_pos ho] at hm
    have w1:=wi (max X bX-bX) (by omega) (by omega)
    have w2:=wi (max Y bY-bY) (by omega) (by omega)
    simp +contextual -implicitDefEqProofs (maxSteps:=10^7) only[go_sem,seval,↓gZ,hx,hlt,hw,Zhp X Y W H bX bY bW bH hvx hb ho,hr,Zo2,w1,w2]
    refine ih (i+1) _ (by omega) (by omega) ?_
    simp +contextual -implicitDefEqProofs (maxSteps:=10^7) only[go_sem,seval,↓gZ,hm,ZtT,Zo2]
    first | rfl | (simp;done) | (simp;rfl)
   ·rw[if_neg ho] at hm
    simp +contextual -implicitDefEqProofs (maxSteps:=10^7) only[go_sem,seval,↓gZ,hx,hlt,hw,Zjt X Y W H bX bY bW bH hvx hb ho,hr]
    refine ih (i+1) _ (by omega) (by omega) ?_
    simp +contextual -implicitDefEqProofs (maxSteps:=10^7) only[go_sem,seval,↓gZ,hm]
    first | rfl | (simp;done) | (simp;rfl)
  ·have:i=qF.length:=by omega
   subst this
   simp +contextual -implicitDefEqProofs (maxSteps:=10^7) only[go_sem,seval,↓gZ]
   try simp
theorem ZbL (bX bY bW bH:Int) (Zw:Int):Zk Xs Ms Y8 [(.d (.agg [J bX,J bY,J bW,J bH])),(.d (J Zw))] []=some ((.d (.bool (decide (Zw≤bW∧Zw≤bH)))),[]):=by
 refine Zc Xs Ms UG ZnC (by show 2≤_;decide) ?_
 simp +contextual -implicitDefEqProofs (maxSteps:=10^7) only[go_sem,seval,↓gZ,UG]
theorem Znb (qL qW qH:Int) (qF:List Box) (kW kH:Int) (kP:List Pane) (p:Zj) (Zw label:Int) (hq:VPc (Zd.mk qL qW qH qF)) (hv:ZdF (Xk.mk kW kH kP) p=true) (h1:1≤label) (h2:label≤10000) :
  Zk Xs Ms Ug [(.d (.agg [J qL,J qW,J qH,.sl (qF.map Box.enc)])),(.d (.agg [J kW,J kH,.sl (kP.map Pane.enc)])),.d p.enc,(.d (J Zw)),(.d (J label))] [] =
  some (.own 0,[.row 4 ((Zcj (Zd.mk qL qW qH qF) label (ZaX (Xk.mk kW kH kP) p Zw)).map Zd.enc) true false]):=by
 obtain⟨b,hb,hpb,hvw,hcnt,hfit,hpt⟩:=WX hv
 have hvw':=hvw
 simp only[VW] at hvw'
 have ep:=Zgq kW kH kP p b hpb (by simp only[inB];omega) hfit (by omega)
 have hbox:=Zje hv
 have hlen:((WW (Xk.mk kW kH kP) p).filterMap ZbC).length≤255:=Nat.le_trans (List.length_filterMap_le _ _) (ZsF _ _)
 unfold ZaX
 rw[hpt,ZdE] at hbox hlen ⊢
 have hfl:∀ f∈qF,VB f:=fun f hf=>(hq.2 f hf).1
 have hq6:qF.length≤6:=hq.1.2.2.2.2.2.2
 have hkept:∀ i,((wst b 0 0 kW kH).take i).length≤255:=fun i=>Nat.le_trans (List.length_take_le' _ _) hlen
 generalize wst b 0 0 kW kH=L at ep hbox hlen hkept ⊢
 clear hpt hpb hb hv hfit hvw hvw'
 obtain⟨o,a,n,t,ks⟩:=p
 rw[Zj.enc_mk] at ep ⊢
 refine Zc Xs Ms JL ZpW (by show 5≤_;decide) ?_
 simp +contextual -implicitDefEqProofs (maxSteps:=10^7) only[go_sem,seval,↓gZ,JL,ep]
 refine Qb Xs Ms (st0:=?st0) (α:=Nat) (fun i=>[(13,.d (J (i:Int)))]) (fun i=>[(1,.row 4 ((Zcj (Zd.mk qL qW qH qF) label ((L.take i).filterMap (Zci Zw))).map Zd.enc) true false)]) (fun i=>i≤L.length) (fun i=>L.length-i) 0 ?hc (by omega) ?h0 ?step
 case hc=>simp +contextual -implicitDefEqProofs (maxSteps:=10^7) only[go_sem,seval,↓gZ];exact rfl
 case h0=>rfl
 case step=>
  intro i hi ih
  by_cases hlt:i<L.length
  ·obtain⟨x,hx⟩:=Z4 hlt
   have hw:=ZD (k:=i) (by omega)
   have hm:=Zid (f:=Zci Zw) hx
   have hlk:((L.take i).filterMap (Zci Zw)).length≤255:=Nat.le_trans (List.length_filterMap_le _ _) (hkept i)
   have hl:=Zig (Zd.mk qL qW qH qF) label ((L.take i).filterMap (Zci Zw))
   have hr:(((L.take i).filterMap (Zci Zw)).length+1)*48≤140737488355328∧((L.take i).filterMap (Zci Zw)).length≤140737488355327:=by omega
   have w1:=wi (label+(((L.take i).filterMap (Zci Zw)).length:Int)) (by omega) (by omega)
   have hbx:=hbox x (List.mem_of_getElem? hx)
   have hcc:=fun y=>Zfq (Zd.mk qL qW qH qF) label ((L.take i).filterMap (Zci Zw)) [y]
   obtain⟨X,Y,W,H⟩:=x
   simp only[Zci] at hm
   have hc:=ZqU qL qW qH qF X Y W H (label+(((L.take i).filterMap (Zci Zw)).length:Int)) hfl hq6 hbx
   by_cases ho:Zw≤W∧Zw≤H
   ·rw[if_pos ho] at hm
    simp +contextual -implicitDefEqProofs (maxSteps:=10^7) only[go_sem,seval,↓gZ,hx,hlt,hw,ZbL,ho,hl,w1,hc,hr]
    refine ih (i+1) _ (by omega) (by omega) ?_
    simp +contextual -implicitDefEqProofs (maxSteps:=10^7) only[go_sem,seval,↓gZ,hm,Option.toList,hcc,Zcj,ZtU]
    first | rfl | (simp;done) | (simp;rfl)
   ·rw[if_neg ho] at hm
    simp +contextual -implicitDefEqProofs (maxSteps:=10^7) only[go_sem,seval,↓gZ,hx,hlt,hw,ZbL,ho]
    refine ih (i+1) _ (by omega) (by omega) ?_
    simp +contextual -implicitDefEqProofs (maxSteps:=10^7) only[go_sem,seval,↓gZ,hm]
    first | rfl | (simp;done) | (simp;rfl)
  ·have:i=L.length:=by omega
   subst this
   simp +contextual -implicitDefEqProofs (maxSteps:=10^7) only[go_sem,seval,↓gZ]
   try simp
theorem Zhr (bs:List UInt8) (hb:bs.length≤2000) (p:Nat) (hp:p<900000000) (w h:Int):∃ X Y W H:Int,
  Zk Xs Ms Ji [.ptr 0 0,(.d (J w)),(.d (J h))] [.box [.d (.sl (bs.map Jr)),(.d (J p))]]=some (.d (.agg [J X,J Y,J W,J H]),[.box [.d (.sl (bs.map Jr)),(.d (J ((p+4:Nat))))]]):=by
 have p1:=Qw bs p w hb (by omega)
 generalize Q4 bs p w=a1 at p1
 have p2:=Qw bs (p+1) h hb (by omega)
 generalize Q4 bs (p+1) h=a2 at p2
 have p3:=Qw bs (p+2) (IntKind.i64.wrap (IntKind.i64.wrap (w-IntKind.i64.wrap (1+a1))+1)) hb (by omega)
 generalize Q4 bs (p+2) (IntKind.i64.wrap (IntKind.i64.wrap (w-IntKind.i64.wrap (1+a1))+1))=a3 at p3
 have p4:=Qw bs (p+3) (IntKind.i64.wrap (IntKind.i64.wrap (h-IntKind.i64.wrap (1+a2))+1)) hb (by omega)
 generalize Q4 bs (p+3) (IntKind.i64.wrap (IntKind.i64.wrap (h-IntKind.i64.wrap (1+a2))+1))=a4 at p4
 refine⟨a3,a4,IntKind.i64.wrap (1+a1),IntKind.i64.wrap (1+a2),?_⟩
 refine Zc Xs Ms ZaO Zro (by show 3≤_;decide) ?_
 simp +contextual -implicitDefEqProofs (maxSteps:=10^7) only[go_sem,seval,↓gZ,ZaO,p1,p2,p3,p4]
def WA:List Zd→Int
 | []=>0
 | x :: l=>x.W*x.H+WA l
theorem Zpw (a b:List Zd):WA (a++b)=WA a+WA b:=by
 induction a with
 | nil=>simp[WA]
 | cons c l ih=>simp only[List.cons_append,WA,ih];omega
theorem ZsG {L:List Zd} {i:Nat} {x:Zd} (hx:L[i]?=some x):WA (L.take (i+1))=WA (L.take i)+x.W*x.H:=by
 rw[List.take_add_one,hx,Zpw];simp[WA]
theorem ZqV (q:Zd):∀ (n:Int) (l:List Box) (i:Nat) (x:Zd),(Zcj q n l)[i]?=some x→∃ b,l[i]?=some b∧x=ZtU q b (n+i)
 | n,[],i,x,h=>by simp[Zcj] at h
 | n,b :: l,0,x,h=>by
  simp only[Zcj,List.getElem?_cons_zero,Option.some.injEq] at h
  exact⟨b,rfl,by rw[← h];simp⟩
 | n,b :: l,i+1,x,h=>by
  simp only[Zcj,List.getElem?_cons_succ] at h
  obtain⟨c,h1,h2⟩:=ZqV q (n+1) l i x h
  refine⟨c,by simpa using h1,?_⟩
  rw[h2];congr 1;omega
theorem ZdM:∀ {l:List Zd},(∀ x∈l,1≤x.W∧x.W≤200∧1≤x.H∧x.H≤200)→0≤WA l∧WA l≤40000*l.length
 | [],_=>by simp[WA]
 | x :: l,h=>by
  have h1:=h x (by simp)
  have h2:=ZdM (l:=l) fun y hy=>h y (by simp[hy])
  have h3:0≤x.W*x.H:=Int.mul_nonneg (by omega) (by omega)
  have h4:x.W*x.H≤200*200:=Int.mul_le_mul (by omega) (by omega) (by omega) (by omega)
  simp only[WA,List.length_cons]
  omega
def ZbM:Int→List Zd→Prop
 | _,[]=>True
 | b,x :: l=>VPc x∧b<x.Label∧ZbM x.Label l
instance sortFdec:∀ (b:Int) (l:List Zd),Decidable (ZbM b l)
 | _,[]=>.isTrue trivial
 | b,x :: l=>by unfold ZbM;exact @instDecidableAnd _ _ _ (@instDecidableAnd _ _ _ (sortFdec x.Label l))
def VSt (l:List Zd):Prop:=l.length≤20∧ZbM 0 l
instance (l:List Zd):Decidable (VSt l):=by unfold VSt;infer_instance
theorem ZsH {l:List Zd} {k:Nat} {x:Zd} {b:Int} (hx:l[k]?=some x):ZbM b (l.drop k)↔VPc x∧b<x.Label∧ZbM x.Label (l.drop (k+1)):=by
 obtain⟨h1,h2⟩:=List.getElem?_eq_some_iff.1 hx
 rw[List.drop_eq_getElem_cons h1,h2,ZbM]
theorem Zu6 {l:List Zd} {b:Int}:ZbM b (l.drop l.length):=by simp[ZbM]
def Zhs (l:List Zd):Nat→Int
 | 0=>0
 | j+1=>match l[j]? with
  | some x=>x.Label
  | none=>0
theorem YO (l:List Zd) (hl:l.length<4611686018427387904) (hS:∀ x∈l,x.Flaws.length<4611686018427387904∧R64 x.W∧R64 x.H):Zk Xs Ms QK [(.d (.sl (l.map Zd.enc)))] []=some ((.d (.bool (decide (VSt l)))),[]):=by
 refine Zc Xs Ms WN Zln (by show 1≤_;decide) ?_
 simp +contextual -implicitDefEqProofs (maxSteps:=10^7) only[go_sem,seval,↓gZ,WN]
 refine Qb Xs Ms (st0:=?st0) (α:=Nat) (fun i=>[(3,.d (J (i:Int)))]) (fun _=>[]) (fun i=>i≤l.length∧(ZbM 0 l↔ZbM (Zhs l i) (l.drop i))) (fun i=>l.length-i) 0 ?hc ⟨by simp,by simp[Zhs]⟩ ?h0 ?step
 case hc=>simp +contextual -implicitDefEqProofs (maxSteps:=10^7) only[go_sem,seval,↓gZ]<;>exact rfl
 case h0=>rfl
 case step=>
  intro i ⟨hi,hp⟩ ih
  by_cases hlt:i<l.length
  ·obtain⟨x,hx⟩:=Z4 hlt
   have hw:=ZD (k:=i) (by omega)
   rw[ZsH hx] at hp
   obtain⟨hS1,hS2,hS3⟩:=hS x (List.mem_of_getElem? hx)
   have ev:=Zey x.Label x.W x.H x.Flaws hS1 hS2 hS3
   have hla:Zhs l (i+1)=x.Label:=by simp only[Zhs,hx]
   obtain⟨L,W,H,F⟩:=x
   simp only at hp ev hla
   by_cases hv:VPc ⟨L,W,H,F⟩
   ·rw[decide_eq_true hv] at ev
    have hL:1≤L:=hv.1.1
    cases i with
    | zero=>
     have hlt' : (0:Int)<(l.length:Int):=by omega
     simp +contextual -implicitDefEqProofs (maxSteps:=10^7) only[go_sem,seval,↓gZ,hx,hlt,hlt',hw,ev]
     refine ih 1 _ ⟨by omega,?_⟩ (by omega) ?_
     ·rw[hp,hla];exact⟨fun h=>h.2.2,fun h=>⟨hv,by simp only[Zhs];omega,h⟩⟩
     ·simp +contextual -implicitDefEqProofs (maxSteps:=10^7) only[go_sem,seval,↓gZ]
    | succ j=>
     obtain⟨y,hy⟩:=Z4 (l:=l) (k:=j) (by omega)
     have hlb:Zhs l (j+1)=y.Label:=by simp only[Zhs,hy]
     rw[hlb] at hp
     have hj:IntKind.i64.wrap (((j+1:Nat):Int)-1)=(j:Int):=by rw[Ja (by omega) (by omega)];omega
     have hpos:(0:Int)<((j+1:Nat):Int):=by omega
     have hjl:j<l.length:=by omega
     obtain⟨L',W',H',F'⟩:=y
     simp only at hp
     by_cases hb:L≤L'
     ·have hn:¬VSt l:=fun h=>by have:=(hp.1 h.2).2.1;omega
      simp +contextual -implicitDefEqProofs (maxSteps:=10^7) only[go_sem,seval,↓gZ,hx,hlt,hw,ev,hpos,hj,hjl,hy,hb,hn]
     ·simp +contextual -implicitDefEqProofs (maxSteps:=10^7) only[go_sem,seval,↓gZ,hx,hlt,hw,ev,hpos,hj,hjl,hy,hb]
      refine ih (j+1+1) _ ⟨by omega,?_⟩ (by omega) ?_
      ·rw[hp,hla];exact⟨fun h=>h.2.2,fun h=>⟨hv,by omega,h⟩⟩
      ·simp +contextual -implicitDefEqProofs (maxSteps:=10^7) only[go_sem,seval,↓gZ]
   ·rw[decide_eq_false hv] at ev
    have hn:¬VSt l:=fun h=>hv (hp.1 h.2).1
    simp +contextual -implicitDefEqProofs (maxSteps:=10^7) only[go_sem,seval,↓gZ,hx,hlt,hw,ev,hn]
  ·have:i=l.length:=by omega
   subst this
   have hs:=hp.2 Zu6
   simp +contextual -implicitDefEqProofs (maxSteps:=10^7) only[go_sem,seval,↓gZ]
   exact Zh4 (by simp only[VSt];constructor<;>(intro h;first | exact⟨by omega,hs⟩ | (have:=h.1;omega)))
def Wy:Nat→List Zd→Int→Int
 | _,[],_=>-1
 | k,x :: l,n=>if x.Label=n then (k:Int) else Wy (k+1) l n
theorem Zu7 {l:List Zd} {k:Nat} {x:Zd} {n:Int} (hx:l[k]?=some x):Wy k (l.drop k) n=if x.Label=n then (k:Int) else Wy (k+1) (l.drop (k+1)) n:=by
 obtain⟨h1,h2⟩:=List.getElem?_eq_some_iff.1 hx
 rw[List.drop_eq_getElem_cons h1,h2,Wy]
theorem Yu (l:List Zd) (n:Int) (hl:l.length<4611686018427387904):Zk Xs Ms Xl [(.d (.sl (l.map Zd.enc))),(.d (J n))] []=some ((.d (J (Wy 0 l n))),[]):=by
 refine Zc Xs Ms UC Zny (by show 2≤_;decide) ?_
 simp +contextual -implicitDefEqProofs (maxSteps:=10^7) only[go_sem,seval,↓gZ,UC]
 refine Qb Xs Ms (st0:=?st0) (α:=Nat) (fun k=>[(5,.d (J (k:Int)))]) (fun _=>[]) (fun k=>k≤l.length∧Wy k (l.drop k) n=Wy 0 l n) (fun k=>l.length-k) 0 ?hc ⟨by omega,rfl⟩ ?h0 ?step
 case hc=>simp +contextual -implicitDefEqProofs (maxSteps:=10^7) only[go_sem,seval,↓gZ]<;>exact rfl
 case h0=>rfl
 case step=>
  intro k ⟨hk,hp⟩ ih
  by_cases hlt:k<l.length
  ·obtain⟨x,hx⟩:=Z4 hlt
   rw[Zu7 hx] at hp
   have hw:=ZD (k:=k) (by omega)
   obtain⟨L,W,H,F⟩:=x
   simp only at hp
   by_cases h:L=n
   ·rw[if_pos h] at hp
    simp +contextual -implicitDefEqProofs (maxSteps:=10^7) only[go_sem,seval,↓gZ,hx,hlt,hw,h]
    rw[← hp]
   ·rw[if_neg h] at hp
    simp +contextual -implicitDefEqProofs (maxSteps:=10^7) only[go_sem,seval,↓gZ,hx,hlt,hw,h]
    refine ih (k+1) _ ⟨by omega,hp⟩ (by omega) ?_
    simp +contextual -implicitDefEqProofs (maxSteps:=10^7) only[go_sem,seval,↓gZ]
  ·have:k=l.length:=by omega
   subst this
   simp +contextual -implicitDefEqProofs (maxSteps:=10^7) only[go_sem,seval,↓gZ]
   rw[← hp]
   simp[Wy]
theorem Vi (qL qW qH:Int) (qF:List Box) (hF:qF.length≤1000000):Zk Xs Ms Xm [(.d (.agg [J qL,J qW,J qH,.sl (qF.map Box.enc)]))] []=some (.agg [(.d (J qL)),(.d (J qW)),(.d (J qH)),.own 0],[.row 4 (qF.map Box.enc) true false]):=by
 have hr:qF.length*32≤140737488355328∧qF.length≤140737488355328:=by omega
 refine Zc Xs Ms UD Znz (by show 1≤_;decide) ?_
 simp +contextual -implicitDefEqProofs (maxSteps:=10^7) only[go_sem,seval,↓gZ,UD,hr]
theorem ZsI {α:Type} {l:List α} {i a:Nat} {x:α} (hx:l[i]?=some x) (h:i≠a):(l.take (i+1)).eraseIdx a=(l.take i).eraseIdx a++[x]:=by
 have h1:=(List.getElem?_eq_some_iff.1 hx).1
 have e:l.take (i+1)=l.take i++[x]:=by rw[List.take_add_one,hx];simp
 rw[e]
 have hl:(l.take i).length=i:=by simp;omega
 rcases Nat.lt_or_ge a i with h2 | h2
 ·rw[List.eraseIdx_append_of_lt_length (by omega)]
 ·rw[List.eraseIdx_of_length_le (by simp;omega),List.eraseIdx_of_length_le (by omega)]
theorem ZsJ {α:Type} {l:List α} {i:Nat} {x:α} (hx:l[i]?=some x):(l.take (i+1)).eraseIdx i=(l.take i).eraseIdx i:=by
 have h1:=(List.getElem?_eq_some_iff.1 hx).1
 have e:l.take (i+1)=l.take i++[x]:=by rw[List.take_add_one,hx];simp
 have hl:(l.take i).length=i:=by simp;omega
 rw[e,List.eraseIdx_append_of_length_le (by omega),hl]
 simp
 rw[List.eraseIdx_of_length_le (by omega)]
theorem ZkW {α:Type} (l:List α) (a:Nat):(l.eraseIdx a).length≤l.length:=by
 have:=List.length_eraseIdx_le l a
 omega
theorem ZdN (l:List Zd) (a:Nat) (hl:l.length≤1000000) (hF:∀ x∈l,x.Flaws.length≤1000000):Zk Xs Ms YV [(.d (.sl (l.map Zd.enc))),(.d (J a))] []=some (.own 0,[.row 4 ((l.eraseIdx a).map Zd.enc) true false]):=by
 refine Zc Xs Ms WM ZjD (by show 2≤_;decide) ?_
 simp +contextual -implicitDefEqProofs (maxSteps:=10^7) only[go_sem,seval,↓gZ,WM]
 refine Qb Xs Ms (st0:=?st0) (α:=Nat) (fun i=>[(6,.d (J (i:Int)))]) (fun i=>[(0,.row 4 (((l.take i).eraseIdx a).map Zd.enc) true false)]) (fun i=>i≤l.length) (fun i=>l.length-i) 0 ?hc (by omega) ?h0 ?step
 case hc=>simp +contextual -implicitDefEqProofs (maxSteps:=10^7) only[go_sem,seval,↓gZ]<;>exact rfl
 case h0=>rfl
 case step=>
  intro i hi ih
  by_cases hlt:i<l.length
  ·obtain⟨x,hx⟩:=Z4 hlt
   have hw:=ZD (k:=i) (by omega)
   by_cases hia:i=a
   ·subst hia
    have hm:=ZsJ hx
    simp +contextual -implicitDefEqProofs (maxSteps:=10^7) only[go_sem,seval,↓gZ,hx,hlt,hw]
    refine ih (i+1) _ (by omega) (by omega) ?_
    simp +contextual -implicitDefEqProofs (maxSteps:=10^7) only[go_sem,seval,↓gZ,hm]
   ·have hm:=ZsI hx hia
    have hlk:((l.take i).eraseIdx a).length≤i:=Nat.le_trans (ZkW _ _) (by simp;omega)
    have hr:(((l.take i).eraseIdx a).length+1)*48≤140737488355328∧((l.take i).eraseIdx a).length≤140737488355327:=by omega
    have e:=Vi x.Label x.W x.H x.Flaws (hF x (List.mem_of_getElem? hx))
    obtain⟨L,W,H,F⟩:=x
    simp only at e
    simp +contextual -implicitDefEqProofs (maxSteps:=10^7) only[go_sem,seval,↓gZ,hx,hlt,hw,hia,e,hr]
    refine ih (i+1) _ (by omega) (by omega) ?_
    simp +contextual -implicitDefEqProofs (maxSteps:=10^7) only[go_sem,seval,↓gZ,hm]
    first | rfl | (simp;done) | (simp;rfl)
  ·have:i=l.length:=by omega
   subst this
   simp +contextual -implicitDefEqProofs (maxSteps:=10^7) only[go_sem,seval,↓gZ]
   simp
def Zbd (l:List Zd):Int:=Zhs l l.length
theorem Zoi {l:List Zd} {x:Zd} (hx:l[l.length-1]?=some x):Zbd l=x.Label:=by
 have h:=(List.getElem?_eq_some_iff.1 hx).1
 unfold Zbd
 obtain⟨n,hn⟩:∃ n,l.length=n+1:=⟨l.length-1,by omega⟩
 rw[hn] at hx ⊢
 simp only[Zhs]
 simp only[Nat.add_sub_cancel] at hx
 rw[hx]
theorem ZeN (l:List Zd) (hl:l.length<4611686018427387904):Zk Xs Ms Yq [(.d (.sl (l.map Zd.enc)))] []=some ((.d (J (Zbd l))),[]):=by
 by_cases h0:l.length=0
 ·have e:Zbd l=0:=by unfold Zbd;rw[h0];rfl
  have h0' : (l.length:Int)=0:=by omega
  rw[e]
  refine Zc Xs Ms Va Zgw (by show 1≤_;decide) ?_
  simp +contextual -implicitDefEqProofs (maxSteps:=10^7) only[go_sem,seval,↓gZ,Va,h0']
 ·obtain⟨x,hx⟩:=Z4 (l:=l) (k:=l.length-1) (by omega)
  have e:=Zoi hx
  have hn:¬(l.length:Int)=0:=by omega
  have hw:IntKind.i64.wrap ((l.length:Int)-1)=((l.length-1:Nat):Int):=by rw[Ja (by omega) (by omega)];omega
  have hlt:l.length-1<l.length:=by omega
  obtain⟨L,W,H,F⟩:=x
  simp only at e
  refine Zc Xs Ms Va Zgw (by show 1≤_;decide) ?_
  simp +contextual -implicitDefEqProofs (maxSteps:=10^7) only[go_sem,seval,↓gZ,Va,hn,hw,hx,hlt,e]
theorem ZkX:∀ (l:List Zd) (k:Nat) (n:Int),Wy k l n=-1∨∃ i:Nat,Wy k l n=((k+i:Nat):Int)∧i<l.length
 | [],k,n=>.inl rfl
 | x :: l,k,n=>by
  unfold Wy
  split
  ·exact .inr ⟨0,by simp,by simp⟩
  ·rcases ZkX l (k+1) n with h | ⟨i,h1,h2⟩
   ·exact .inl h
   ·exact .inr ⟨i+1,by rw[h1];congr 1;omega,by simp;omega⟩
theorem XC:∀ {l:List Zd} {b:Int},ZbM b l→∀ x∈l,VPc x
 | [],_,_,x,hx=>by simp at hx
 | y :: l,b,h,x,hx=>by
  rcases List.mem_cons.1 hx with rfl | hx
  ·exact h.1
  ·exact XC h.2.2 x hx
theorem ZfH {l:List Zd} (h:VSt l):l.length≤1000000∧∀ x∈l,x.Flaws.length≤1000000:=by
 refine⟨by have:=h.1;omega,fun x hx=>?_⟩
 have:=(XC h.2 x hx).1.2.2.2.2.2.2
 omega
def PcW (x:Zd):Prop:=x.Flaws.length≤6∧R64 x.W∧R64 x.H
theorem Ziz:∀ {l:List Zd} {b:Int},ZbM b l→∀ (i j:Nat) (x y:Zd),i≤j→l[i]?=some x→l[j]?=some y→x.Label≤y.Label∧b<x.Label
 | [],b,_,i,j,x,y,_,hx,_=>by simp at hx
 | z :: l,b,h,0,0,x,y,_,hx,hy=>by
  simp at hx hy;subst hx;subst hy;exact⟨Int.le_refl _,h.2.1⟩
 | z :: l,b,h,0,j+1,x,y,_,hx,hy=>by
  simp at hx hy;subst hx
  have:=(Ziz h.2.2 j j y y (Nat.le_refl _) hy hy).2
  exact⟨by omega,h.2.1⟩
 | z :: l,b,h,i+1,j+1,x,y,hij,hx,hy=>by
  simp at hx hy
  have:=Ziz h.2.2 i j x y (by omega) hx hy
  have h2:=h.2.1
  exact⟨this.1,by omega⟩
 | z :: l,b,h,i+1,0,x,y,hij,hx,hy=>by omega
theorem ZwF {l:List Zd} (hv:VSt l) (hne:0<l.length):1≤Zbd l∧Zbd l≤9999∧∀ x∈l,x.Label≤Zbd l:=by
 obtain⟨y,hy⟩:=Z4 (l:=l) (k:=l.length-1) (by omega)
 rw[Zoi hy]
 have hyv:=(XC hv.2 y (List.mem_of_getElem? hy)).1
 refine⟨hyv.1,hyv.2.1,fun x hx=>?_⟩
 obtain⟨i,hi⟩:=List.getElem?_of_mem hx
 have:=(List.getElem?_eq_some_iff.1 hi).1
 exact(Ziz hv.2 i (l.length-1) x y (by omega) hi hy).1
def ZsK (l:List Zd) (i:Nat) (x:Zd) (k:Xk) (p:Zj) (Zw:Int):List Zd:=l.eraseIdx i++Zcj x (Zbd l+1) (ZaX k p Zw)
def Zht (l:List Zd) (n:Int) (k:Xk) (p:Zj) (Zw:Int):Option (List Zd):=
 if VSt l∧0≤Wy 0 l n∧1≤Zw∧Zw≤200 then
  match l[(Wy 0 l n).toNat]? with
  | some x=>if ZeF x k p∧VSt (ZsK l (Wy 0 l n).toNat x k p Zw) then some (ZsK l (Wy 0 l n).toNat x k p Zw) else none
  | none=>none
 else none
def Zpx:Option (List Zd)→AV×List Zl
 | some R=>(.tup [.own 0,(.d (.bool true))],[.row 4 (R.map Zd.enc) true false])
 | none=>(.tup [.own 0,(.d (.bool false))],[.row 4 [] true false])
theorem ZkY {l:List Zd} {n:Int} (h:0≤Wy 0 l n):∃ (i:Nat) (x:Zd),Wy 0 l n=(i:Int)∧l[i]?=some x:=by
 rcases ZkX l 0 n with h1 | ⟨i,h1,h2⟩
 ·omega
 ·obtain⟨x,hx⟩:=Z4 h2
  exact⟨i,x,by rw[h1];simp,hx⟩
theorem ZsL {l:List Zd} {i:Nat} {x:Zd} {k:Xk} {p:Zj} {Zw:Int} (hv:VSt l) (hx:l[i]?=some x) (hg:ZeF x k p) :
  (ZsK l i x k p Zw).length≤1000∧∀ y∈ZsK l i x k p Zw,y.Flaws.length<4611686018427387904∧R64 y.W∧R64 y.H:=by
 have hq:=XC hv.2 x (List.mem_of_getElem? hx)
 refine⟨?_,fun y hy=>?_⟩
 ·unfold ZsK
  rw[List.length_append,Zig]
  have:=Zo6 k p Zw
  have:=ZkW l i
  have:=hv.1
  omega
 ·rcases List.mem_append.1 hy with hy | hy
  ·have h:=XC hv.2 y (List.mem_of_mem_eraseIdx hy)
   have h1:=h.1
   exact⟨by omega,⟨by omega,by omega⟩,⟨by omega,by omega⟩⟩
  ·obtain⟨j,hj⟩:=List.getElem?_of_mem hy
   obtain⟨b,hb,rfl⟩:=ZqV x _ _ j y hj
   have hvb:=(ZxY (Zw:=Zw) hg.1 b (List.mem_of_getElem? hb)).1
   simp only[VB] at hvb
   have hfl:=List.length_filterMap_le (ZaG b) x.Flaws
   have hq6:=hq.1.2.2.2.2.2.2
   simp only[ZtU]
   exact⟨by omega,⟨by omega,by omega⟩,⟨by omega,by omega⟩⟩
theorem Znc (l:List Zd) (n:Int) (kW kH:Int) (kP:List Pane) (p:Zj) (Zw:Int) (hl:l.length≤1000) (hS:∀ x∈l,PcW x) (hk:kP.length<4611686018427387904):Zk Xs Ms Ub [(.d (.sl (l.map Zd.enc))),(.d (J n)),(.d (.agg [J kW,J kH,.sl (kP.map Pane.enc)])),.d p.enc,(.d (J Zw))] []=some (Zpx (Zht l n (Xk.mk kW kH kP) p Zw)):=by
 have ev:=YO l (by omega) (fun x hx=>by obtain⟨g1,g2,g3⟩:=hS x hx;exact⟨by omega,g2,g3⟩)
 have ef:=Yu l n (by omega)
 unfold Zht
 by_cases hv:VSt l
 ·rw[decide_eq_true hv] at ev
  by_cases hf:0≤Wy 0 l n
  ·obtain⟨i,x,hi,hx⟩:=ZkY hf
   rw[hi] at ef ⊢
   have hi0:¬(i:Int)<0:=by omega
   have hil:=(List.getElem?_eq_some_iff.1 hx).1
   simp only[Int.toNat_natCast,hx]
   by_cases hr:1≤Zw∧Zw≤200
   ·have hq:=XC hv.2 x (List.mem_of_getElem? hx)
    have hll:=ZwF hv (by omega)
    have ew:=ZdN l i (by omega) (fun x hx=>by have:=(hS x hx).1;omega)
    have el:=ZeN l (by omega)
    have w2:=wi (Zbd l+1) (by omega) (by omega)
    rw[if_pos ⟨hv,by omega,hr⟩]
    by_cases hg:ZeF x (Xk.mk kW kH kP) p
    ·have hcs:=ZsL (Zw:=Zw) hv hx hg
     have evo:=YO (ZsK l i x (Xk.mk kW kH kP) p Zw) (by omega) hcs.2
     have hlen:(l.eraseIdx i).length≤20:=Nat.le_trans (ZkW _ _) hv.1
     have hkl:=Zo6 (Xk.mk kW kH kP) p Zw
     obtain⟨L,W,H,F⟩:=x
     have eg:=Zgr L W H F kW kH kP p (fun f hf=>(hq.2 f hf).1) hq.1.2.2.2.2.2.2 hk
     have er:=Znb L W H F kW kH kP p Zw (Zbd l+1) hq hg.1 (by omega) (by omega)
     rw[decide_eq_true hg] at eg
     have hcl:=Zig ⟨L,W,H,F⟩ (Zbd l+1) (ZaX (Xk.mk kW kH kP) p Zw)
     have hrm:((l.eraseIdx i).length+(ZaX (Xk.mk kW kH kP) p Zw).length)*48≤140737488355328∧(l.eraseIdx i).length+(ZaX (Xk.mk kW kH kP) p Zw).length≤140737488355328:=by omega
     unfold ZsK at evo ⊢
     have hgg:=hg
     clear hg
     by_cases hvo:VSt (l.eraseIdx i++Zcj ⟨L,W,H,F⟩ (Zbd l+1) (ZaX (Xk.mk kW kH kP) p Zw))
     ·rw[decide_eq_true hvo] at evo
      rw[if_pos ⟨hgg,hvo⟩]
      unfold Zpx
      clear hvo hcs hgg
      generalize Zcj ⟨L,W,H,F⟩ (Zbd l+1) (ZaX (Xk.mk kW kH kP) p Zw)=R at er hcl evo ⊢
      generalize (ZaX (Xk.mk kW kH kP) p Zw).length=N at *
      obtain⟨o,a,m,t,ks⟩:=p
      rw[Zj.enc_mk] at er eg ⊢
      refine Zc Xs Ms Qy W4 (by show 5≤_;decide) ?_
      simp +contextual -implicitDefEqProofs (maxSteps:=10^7) only[go_sem,seval,↓gZ,Qy,ev,ef,hi0,Zv,hr,hx,hil,eg,ew,el,w2,er,hcl,hrm,evo]
     ·rw[decide_eq_false hvo] at evo
      rw[if_neg (fun h=>hvo h.2)]
      unfold Zpx
      clear hvo hcs hgg
      generalize Zcj ⟨L,W,H,F⟩ (Zbd l+1) (ZaX (Xk.mk kW kH kP) p Zw)=R at er hcl evo ⊢
      generalize (ZaX (Xk.mk kW kH kP) p Zw).length=N at *
      obtain⟨o,a,m,t,ks⟩:=p
      rw[Zj.enc_mk] at er eg ⊢
      refine Zc Xs Ms Qy W4 (by show 5≤_;decide) ?_
      simp +contextual -implicitDefEqProofs (maxSteps:=10^7) only[go_sem,seval,↓gZ,Qy,ev,ef,hi0,Zv,hr,hx,hil,eg,ew,el,w2,er,hcl,hrm,evo]
    ·rw[if_neg (fun h=>hg h.1)]
     obtain⟨L,W,H,F⟩:=x
     have eg:=Zgr L W H F kW kH kP p (fun f hf=>(hq.2 f hf).1) hq.1.2.2.2.2.2.2 hk
     rw[decide_eq_false hg] at eg
     unfold Zpx
     clear hg
     obtain⟨o,a,m,t,ks⟩:=p
     rw[Zj.enc_mk] at eg ⊢
     refine Zc Xs Ms Qy W4 (by show 5≤_;decide) ?_
     simp +contextual -implicitDefEqProofs (maxSteps:=10^7) only[go_sem,seval,↓gZ,Qy,ev,ef,hi0,Zv,hr,hx,hil,eg]
   ·rw[if_neg (fun h=>hr h.2.2)]
    unfold Zpx
    obtain⟨o,a,m,t,ks⟩:=p
    rw[Zj.enc_mk]
    refine Zc Xs Ms Qy W4 (by show 5≤_;decide) ?_
    simp +contextual -implicitDefEqProofs (maxSteps:=10^7) only[go_sem,seval,↓gZ,Qy,ev,ef,hi0,Zv,hr]
  ·rw[if_neg (fun h=>hf h.2.1)]
   have hf' : Wy 0 l n<0:=by omega
   unfold Zpx
   obtain⟨o,a,m,t,ks⟩:=p
   rw[Zj.enc_mk]
   refine Zc Xs Ms Qy W4 (by show 5≤_;decide) ?_
   simp +contextual -implicitDefEqProofs (maxSteps:=10^7) only[go_sem,seval,↓gZ,Qy,ev,ef,hf']
 ·rw[decide_eq_false hv] at ev
  rw[if_neg (fun h=>hv h.1)]
  unfold Zpx
  obtain⟨o,a,m,t,ks⟩:=p
  rw[Zj.enc_mk]
  refine Zc Xs Ms Qy W4 (by show 5≤_;decide) ?_
  simp +contextual -implicitDefEqProofs (maxSteps:=10^7) only[go_sem,seval,↓gZ,Qy,ev]
end Go.Proofs.YtkdjbefmiiibpaaGreatDoor
