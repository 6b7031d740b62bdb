/- Contracts of the functions,by the abstract semantics. -/
import Derived.Test.YtkdjbefmiiibpaaGreatDoorBCode
import Derived.Test.YtkdjbefmiiibpaaGreatDoorAbsParts
import Derived.Test.YtkdjbefmiiibpaaGreatDoorBC1
namespace Go.Proofs.YtkdjbefmiiibpaaGreatDoor
open Go Go.Abs Go.Abs.E Go.Abs.L
open Nat (reduceMul reduceSub reduceLeDiff reduceEqDiff)
open Int (reduceLE reduceEq reduceToNat reduceNeg)
set_option linter.unusedSimpArgs false
set_option linter.unusedVariables false
set_option maxRecDepth 20000
set_option maxHeartbeats 4000000
theorem Zw9 (k:XJ) (p:Zj):(UK k p).length≤255:=by
 unfold UK
 split
 ·split
  ·rename_i h
   simp only[Bool.and_eq_true,decide_eq_true_eq] at h
   rw[ZiE];exact h.1.2
  ·simp
 ·simp
theorem ZaL (ps:List Pane):∀ (b:BT) (gX gY gW gH:Int),inB (Box.mk gX gY gW gH)→Je ps b gW gH=true→b.cnt≤1000 →
  Zh Xs Ms Vt [.d b.plan.enc,(.d (.agg [J gX,J gY,J gW,J gH]))] []=some (.own 0,[.row 6 ((sp b gX gY gW gH).map Place.enc) true false])
 | .waste,gX,gY,gW,gH,hg,hf,hl=>by
  simp only[BT.plan,Zj.enc_mk,sp]
  refine Zb Xs Ms Vz ZhT (by show 2≤_;decide) ?_
  simp +contextual -implicitDefEqProofs (maxSteps:=10^7) only[go_sem,seval,↓gZ,Vz]
  try rfl
 | .pane i t,gX,gY,gW,gH,hg,hf,hl=>by
  simp only[BT.plan,Zj.enc_mk,sp]
  refine Zb Xs Ms Vz ZhT (by show 2≤_;decide) ?_
  simp +contextual -implicitDefEqProofs (maxSteps:=10^7) only[go_sem,seval,↓gZ,Vz]
  try rfl
 | .cut d a l r,gX,gY,gW,gH,hg,hf,hl=>by
  simp only[BT.cnt] at hl
  simp only[inB] at hg
  simp only[BT.plan,Zj.enc_mk]
  cases d with
  | true=>
   simp only[Je,Bool.and_eq_true,decide_eq_true_eq,if_true] at hf
   have w1:=wi (gX+a) (by omega) (by omega)
   have w2:=wi (gW-a) (by omega) (by omega)
   have l1:=ZfC l gX gY a gH
   have l2:=ZfC r (gX+a) gY (gW-a) gH
   have e1:=ZaL ps l gX gY a gH (by simp only[inB];omega) hf.1.2 (by omega)
   have e2:=ZaL ps r (gX+a) gY (gW-a) gH (by simp only[inB];omega) hf.2 (by omega)
   have h1:((sp l gX gY a gH).length+(sp r (gX+a) gY (gW-a) gH).length)*48≤140737488355328∧(sp l gX gY a gH).length+(sp r (gX+a) gY (gW-a) gH).length≤140737488355328:=by omega
   refine Zb Xs Ms Vz ZhT (by show 2≤_;decide) ?_
   simp +contextual -implicitDefEqProofs (maxSteps:=10^7) only[go_sem,seval,↓gZ,Vz,Zby,w1,w2,h1,e1,e2]
   simp[sp]
  | false=>
   simp only[Je,Bool.and_eq_true,decide_eq_true_eq,Bool.false_eq_true,if_false] at hf
   have w1:=wi (gY+a) (by omega) (by omega)
   have w2:=wi (gH-a) (by omega) (by omega)
   have l1:=ZfC l gX gY gW a
   have l2:=ZfC r gX (gY+a) gW (gH-a)
   have e1:=ZaL ps l gX gY gW a (by simp only[inB];omega) hf.1.2 (by omega)
   have e2:=ZaL ps r gX (gY+a) gW (gH-a) (by simp only[inB];omega) hf.2 (by omega)
   have h1:((sp l gX gY gW a).length+(sp r gX (gY+a) gW (gH-a)).length)*48≤140737488355328∧(sp l gX gY gW a).length+(sp r gX (gY+a) gW (gH-a)).length≤140737488355328:=by omega
   refine Zb Xs Ms Vz ZhT (by show 2≤_;decide) ?_
   simp +contextual -implicitDefEqProofs (maxSteps:=10^7) only[go_sem,seval,↓gZ,Vz,Zby,w1,w2,h1,e1,e2]
   simp[sp]
theorem Zia (qL qW qH:Int) (qF:List Box) (hl:qF.length<4611686018427387904) (hW:R64 qW) (hH:R64 qH):Zh Xs Ms Vs [(.d (.agg [J qL,J qW,J qH,.sl (qF.map Box.enc)]))] []=some ((.d (.bool (decide (VPc (Zd.mk qL qW qH qF))))),[]):=by
 refine Zb Xs Ms U7 ZqI (by show 1≤_;decide) ?_
 simp +contextual -implicitDefEqProofs (maxSteps:=10^7) only[go_sem,seval,↓gZ,U7]
 refine ZQ Xs Ms (st0:=?st0) (α:=Nat) (fun k=>[(3,.d (J (k:Int)))]) (fun _=>[]) (fun k=>k≤qF.length∧((∀ f∈qF,ZiF qW qH f)↔∀ f∈qF.drop k,ZiF qW qH f)) (fun k=>qF.length-k) 0 ?hc ⟨by omega,by simp⟩ ?h0 ?step
 case hc=>simp +contextual -implicitDefEqProofs (maxSteps:=10^7) only[go_sem,seval,↓gZ];exact rfl
 case h0=>rfl
 case step=>
  intro k ⟨hk,hp⟩ ih
  by_cases hlt:k<qF.length
  ·obtain⟨x,hx⟩:=ZU hlt
   rw[Zpp hx] at hp
   have hw:=Zm (k:=k) (by omega)
   obtain⟨X,Y,W,H⟩:=x
   by_cases hv:VB ⟨X,Y,W,H⟩
   ·have hi:=ZqY X Y W H 0 0 qW qH hv ⟨by omega,by omega⟩ ⟨by omega,by omega⟩ (by simpa using hW) (by simpa using hH)
    simp +contextual -implicitDefEqProofs (maxSteps:=10^7) only[go_sem,seval,↓gZ,hx,hlt,hw,Zkg,hi,hv]
    refine⟨fun h=>Zx1 (fun hh=>h ((hp.1 hh.2).1.2)),fun h=>ih (k+1) _ ⟨by omega,?_⟩ (by omega) ?_⟩
    ·rw[hp];exact⟨fun hh=>hh.2,fun hh=>⟨⟨hv,h⟩,hh⟩⟩
    ·simp +contextual -implicitDefEqProofs (maxSteps:=10^7) only[go_sem,seval,↓gZ]
   ·simp +contextual -implicitDefEqProofs (maxSteps:=10^7) only[go_sem,seval,↓gZ,hx,hlt,hw,Zkg,hv]
    exact Zx1 (fun hh=>hv ((hp.1 hh.2).1.1))
  ·have:k=qF.length:=by omega
   subst this
   simp +contextual -implicitDefEqProofs (maxSteps:=10^7) only[go_sem,seval,↓gZ,ZA]
   have hv:∀ f∈qF,ZiF qW qH f:=hp.2 (by simp)
   exact Zlq (by simp only[VPc];exact⟨fun h=>⟨by omega,hv⟩,fun h=>by omega⟩)
theorem ZlW (qL qW qH:Int) (qF:List Box) (bX bY bW bH:Int) (hf:∀ f∈qF,VB f) (hb:VB (Box.mk bX bY bW bH)) (hl:qF.length<4611686018427387904):Zh Xs Ms UV [(.d (.agg [J qL,J qW,J qH,.sl (qF.map Box.enc)])),(.d (.agg [J bX,J bY,J bW,J bH]))] []=some ((.d (.bool (decide (YQ qF (Box.mk bX bY bW bH))))),[]):=by
 refine Zb Xs Ms ZcK ZvZ (by show 2≤_;decide) ?_
 simp +contextual -implicitDefEqProofs (maxSteps:=10^7) only[go_sem,seval,↓gZ,ZcK]
 refine ZQ Xs Ms (st0:=?st0) (α:=Nat) (fun k=>[(5,.d (J (k:Int)))]) (fun _=>[]) (fun k=>k≤qF.length∧(YQ qF (Box.mk bX bY bW bH)↔YQ (qF.drop k) (Box.mk bX bY bW bH))) (fun k=>qF.length-k) 0 ?hc ⟨by omega,by simp⟩ ?h0 ?step
 case hc=>simp +contextual -implicitDefEqProofs (maxSteps:=10^7) only[go_sem,seval,↓gZ];exact rfl
 case h0=>rfl
 case step=>
  intro k ⟨hk,hp⟩ ih
  by_cases hlt:k<qF.length
  ·obtain⟨x,hx⟩:=ZU hlt
   unfold YQ at hp
   rw[Zpp hx (fun f=>¬Zh5 f (Box.mk bX bY bW bH))] at hp
   have hw:=Zm (k:=k) (by omega)
   have hvx:=hf x (List.mem_of_getElem? hx)
   obtain⟨X,Y,W,H⟩:=x
   by_cases hm:Zh5 ⟨X,Y,W,H⟩ (Box.mk bX bY bW bH)
   ·simp +contextual -implicitDefEqProofs (maxSteps:=10^7) only[go_sem,seval,↓gZ,hx,hlt,hw,ZlV X Y W H bX bY bW bH hvx hb hm]
    have:¬YQ qF (Box.mk bX bY bW bH):=fun hh=>(hp.1 hh).1 hm
    simp[this]
   ·simp +contextual -implicitDefEqProofs (maxSteps:=10^7) only[go_sem,seval,↓gZ,hx,hlt,hw,ZnP X Y W H bX bY bW bH hvx hb hm]
    refine ih (k+1) _ ⟨by omega,?_⟩ (by omega) ?_
    ·unfold YQ;rw[hp];exact⟨fun hh=>hh.2,fun hh=>⟨hm,hh⟩⟩
    ·simp +contextual -implicitDefEqProofs (maxSteps:=10^7) only[go_sem,seval,↓gZ]
  ·have:k=qF.length:=by omega
   subst this
   simp +contextual -implicitDefEqProofs (maxSteps:=10^7) only[go_sem,seval,↓gZ]
   have:YQ qF (Box.mk bX bY bW bH):=hp.2 (by simp[YQ])
   simp[this]
theorem Zki (kW kH:Int) (kP:List Pane) (p:Zj) (b:BT) (hp:p=b.plan) (hg:inB ⟨0,0,kW,kH⟩) (hf:Je kP b kW kH=true) (hl:b.cnt≤1000):Zh Xs Ms WW [(.d (.agg [J kW,J kH,.sl (kP.map Pane.enc)])),.d p.enc] []=some (.own 0,[.row 6 ((plc b 0 0 kW kH).map Place.enc) true false]):=by
 have e:=ZaL kP b 0 0 kW kH hg hf hl
 have hm:=ZmF b 0 0 kW kH (ZjE hf)
 have hn:=ZfC b 0 0 kW kH
 rw[← hp] at e
 rw[← hm]
 clear hm
 generalize sp b 0 0 kW kH=S at e hn ⊢
 clear hp hf hg
 obtain⟨o,a,q,t,ks⟩:=p
 rw[Zj.enc_mk] at e ⊢
 refine Zb Xs Ms Zbs Zt4 (by show 2≤_;decide) ?_
 simp +contextual -implicitDefEqProofs (maxSteps:=10^7) only[go_sem,seval,↓gZ,Zbs,e]
 refine ZQ Xs Ms (st0:=?st0) (α:=Nat) (fun i=>[(7,.d (J (i:Int)))]) (fun i=>[(1,.row 6 (((S.take i).filterMap Zfi).map Place.enc) true false)]) (fun i=>i≤S.length) (fun i=>S.length-i) 0 ?hc (by omega) ?h0 ?step
 case hc=>simp +contextual -implicitDefEqProofs (maxSteps:=10^7) only[go_sem,seval,↓gZ];exact rfl
 case h0=>rfl
 case step=>
  intro i hi ih
  by_cases hlt:i<S.length
  ·obtain⟨x,hx⟩:=ZU hlt
   have hw:=Zm (k:=i) (by omega)
   have hm:=Zlz (f:=Zfi) hx
   have hfl:((S.take i).filterMap Zfi).length≤i:=Nat.le_trans (List.length_filterMap_le _ _) (by simp;omega)
   have hr:(((S.take i).filterMap Zfi).length+1)*48≤140737488355328∧((S.take i).filterMap Zfi).length≤140737488355327:=by omega
   obtain⟨q',t',⟨X,Y,W,H⟩⟩:=x
   simp only[Zfi] at hm
   by_cases ho:0≤q'
   ·rw[if_pos ho] at hm
    simp +contextual -implicitDefEqProofs (maxSteps:=10^7) only[go_sem,seval,↓gZ,hx,hlt,hw,ho,hr]
    refine ih (i+1) _ (by omega) (by omega) ?_
    simp +contextual -implicitDefEqProofs (maxSteps:=10^7) only[go_sem,seval,↓gZ,hm]
    first | rfl | (simp;done) | (simp;rfl)
   ·rw[if_neg ho] at hm
    simp +contextual -implicitDefEqProofs (maxSteps:=10^7) only[go_sem,seval,↓gZ,hx,hlt,hw,ho,hr]
    refine ih (i+1) _ (by omega) (by omega) ?_
    simp +contextual -implicitDefEqProofs (maxSteps:=10^7) only[go_sem,seval,↓gZ,hm]
    first | rfl | (simp;done) | (simp;rfl)
  ·have:i=S.length:=by omega
   subst this
   simp +contextual -implicitDefEqProofs (maxSteps:=10^7) only[go_sem,seval,↓gZ]
   simp
theorem Zkj (kW kH:Int) (kP:List Pane) (p:Zj) (b:BT) (hp:p=b.plan) (hg:inB ⟨0,0,kW,kH⟩) (hf:Je kP b kW kH=true) (hl:b.cnt≤1000):Zh Xs Ms WV [(.d (.agg [J kW,J kH,.sl (kP.map Pane.enc)])),.d p.enc] []=some (.own 0,[.row 4 ((wst b 0 0 kW kH).map Box.enc) true false]):=by
 have e:=ZaL kP b 0 0 kW kH hg hf hl
 have hm:=ZmG b 0 0 kW kH (ZjE hf)
 have hn:=ZfC b 0 0 kW kH
 rw[← hp] at e
 rw[← hm]
 clear hm
 generalize sp b 0 0 kW kH=S at e hn ⊢
 clear hp hf hg
 obtain⟨o,a,q,t,ks⟩:=p
 rw[Zj.enc_mk] at e ⊢
 refine Zb Xs Ms Zbr Zt3 (by show 2≤_;decide) ?_
 simp +contextual -implicitDefEqProofs (maxSteps:=10^7) only[go_sem,seval,↓gZ,Zbr,e]
 refine ZQ Xs Ms (st0:=?st0) (α:=Nat) (fun i=>[(7,.d (J (i:Int)))]) (fun i=>[(1,.row 4 (((S.take i).filterMap Zfj).map Box.enc) true false)]) (fun i=>i≤S.length) (fun i=>S.length-i) 0 ?hc (by omega) ?h0 ?step
 case hc=>simp +contextual -implicitDefEqProofs (maxSteps:=10^7) only[go_sem,seval,↓gZ];exact rfl
 case h0=>rfl
 case step=>
  intro i hi ih
  by_cases hlt:i<S.length
  ·obtain⟨x,hx⟩:=ZU hlt
   have hw:=Zm (k:=i) (by omega)
   have hm:=Zlz (f:=Zfj) hx
   have hfl:((S.take i).filterMap Zfj).length≤i:=Nat.le_trans (List.length_filterMap_le _ _) (by simp;omega)
   have hr:(((S.take i).filterMap Zfj).length+1)*32≤140737488355328∧((S.take i).filterMap Zfj).length≤140737488355327:=by omega
   obtain⟨q',t',⟨X,Y,W,H⟩⟩:=x
   simp only[Zfj] at hm
   by_cases ho:q' < 0
   ·rw[if_pos ho] at hm
    simp +contextual -implicitDefEqProofs (maxSteps:=10^7) only[go_sem,seval,↓gZ,hx,hlt,hw,ho,hr]
    refine ih (i+1) _ (by omega) (by omega) ?_
    simp +contextual -implicitDefEqProofs (maxSteps:=10^7) only[go_sem,seval,↓gZ,hm]
    first | rfl | (simp;done) | (simp;rfl)
   ·rw[if_neg ho] at hm
    simp +contextual -implicitDefEqProofs (maxSteps:=10^7) only[go_sem,seval,↓gZ,hx,hlt,hw,ho,hr]
    refine ih (i+1) _ (by omega) (by omega) ?_
    simp +contextual -implicitDefEqProofs (maxSteps:=10^7) only[go_sem,seval,↓gZ,hm]
    first | rfl | (simp;done) | (simp;rfl)
  ·have:i=S.length:=by omega
   subst this
   simp +contextual -implicitDefEqProofs (maxSteps:=10^7) only[go_sem,seval,↓gZ]
   simp
theorem Zkk (qL qW qH:Int) (qF:List Box) (kW kH:Int) (kP:List Pane) (p:Zj) (hfl:∀ f∈qF,VB f) (hq6:qF.length≤6) (hl:kP.length<4611686018427387904):Zh Xs Ms Jy [(.d (.agg [J qL,J qW,J qH,.sl (qF.map Box.enc)])),(.d (.agg [J kW,J kH,.sl (kP.map Pane.enc)])),.d p.enc] []=some ((.d (.bool (decide (Zh7 (Zd.mk qL qW qH qF) (XJ.mk kW kH kP) p)))),[]):=by
 have ev:=ZiW kW kH kP p hl
 by_cases hv:ZgG (XJ.mk kW kH kP) p=true
 ·by_cases hw:kW=qW
  ·by_cases hh:kH=qH
   ·subst hw;subst hh
    obtain⟨b,hb,hpb,hvw,hcnt,hfit,hpt⟩:=UL hv
    have hvw':=hvw
    simp only[VW] at hvw'
    have ep:=Zki kW kH kP p b hpb (by simp only[inB];omega) hfit (by omega)
    have hbox:∀ c∈plc b 0 0 kW kH,VB c.Box:=Ztd (p:=p) hvw hfit
    have hlen:(plc b 0 0 kW kH).length≤255:=by
     rw[← ZgE];exact Nat.le_trans (List.length_filterMap_le _ _) (by rw[ZiE];exact hcnt)
    have hgood:Zh7 ⟨qL,kW,kH,qF⟩ (XJ.mk kW kH kP) p↔∀ c∈plc b 0 0 kW kH,YQ qF c.Box:=by
     unfold Zh7;rw[hpt,ZgE];exact⟨fun h=>h.2.2.2,fun h=>⟨hv,rfl,rfl,h⟩⟩
    rw[hv] at ev
    generalize plc b 0 0 kW kH=L at ep hbox hlen hgood
    clear hpt hpb hb
    obtain⟨o,a,n,t,ks⟩:=p
    rw[Zj.enc_mk] at ev ep ⊢
    refine Zb Xs Ms X5 ZdM (by show 3≤_;decide) ?_
    simp +contextual -implicitDefEqProofs (maxSteps:=10^7) only[go_sem,seval,↓gZ,X5,ev,ep]
    refine ZQ Xs Ms (st0:=?st0) (α:=Nat) (fun i=>[(8,.d (J (i:Int)))]) (fun _=>[]) (fun i=>i≤L.length∧((∀ c∈L,YQ qF c.Box)↔∀ c∈L.drop i,YQ qF c.Box)) (fun i=>L.length-i) 0 ?hc ⟨by omega,by simp⟩ ?h0 ?step
    case hc=>simp +contextual -implicitDefEqProofs (maxSteps:=10^7) only[go_sem,seval,↓gZ];exact rfl
    case h0=>rfl
    case step=>
     intro i ⟨hi,hp⟩ ih
     by_cases hlt:i<L.length
     ·obtain⟨x,hx⟩:=ZU hlt
      rw[Zpp hx (fun c=>YQ qF c.Box)] at hp
      have hw:=Zm (k:=i) (by omega)
      have hbx:=hbox x (List.mem_of_getElem? hx)
      obtain⟨q',t',⟨X,Y,W,H⟩⟩:=x
      have em:=ZlW qL kW kH qF X Y W H hfl hbx (by omega)
      simp +contextual -implicitDefEqProofs (maxSteps:=10^7) only[go_sem,seval,↓gZ,hx,hlt,hw,em]
      refine⟨fun h=>Zx1 (fun h'=>h ((hp.1 (hgood.1 h')).1)),fun h=>ih (i+1) _ ⟨by omega,?_⟩ (by omega) ?_⟩
      ·rw[hp];exact⟨fun h'=>h'.2,fun h'=>⟨h,h'⟩⟩
      ·simp +contextual -implicitDefEqProofs (maxSteps:=10^7) only[go_sem,seval,↓gZ]
     ·have:i=L.length:=by omega
      subst this
      simp +contextual -implicitDefEqProofs (maxSteps:=10^7) only[go_sem,seval,↓gZ]
      exact fin_t (hgood.2 (hp.2 (by simp)))
   ·subst hw
    have hn:¬Zh7 ⟨qL,kW,qH,qF⟩ (XJ.mk kW kH kP) p:=fun h=>hh h.2.2.1
    obtain⟨o,a,n,t,ks⟩:=p
    rw[hv] at ev
    rw[Zj.enc_mk] at ev ⊢
    refine Zb Xs Ms X5 ZdM (by show 3≤_;decide) ?_
    simp +contextual -implicitDefEqProofs (maxSteps:=10^7) only[go_sem,seval,↓gZ,X5,ev,hh,hn]
  ·have hn:¬Zh7 (Zd.mk qL qW qH qF) (XJ.mk kW kH kP) p:=fun h=>hw h.2.1
   obtain⟨o,a,n,t,ks⟩:=p
   rw[hv] at ev
   rw[Zj.enc_mk] at ev ⊢
   refine Zb Xs Ms X5 ZdM (by show 3≤_;decide) ?_
   simp +contextual -implicitDefEqProofs (maxSteps:=10^7) only[go_sem,seval,↓gZ,X5,ev,hw,hn]
 ·have hv':=(Bool.not_eq_true _).mp hv
  have hn:¬Zh7 (Zd.mk qL qW qH qF) (XJ.mk kW kH kP) p:=fun h=>hv h.1
  rw[hv'] at ev
  obtain⟨o,a,n,t,ks⟩:=p
  rw[Zj.enc_mk] at ev ⊢
  refine Zb Xs Ms X5 ZdM (by show 3≤_;decide) ?_
  simp +contextual -implicitDefEqProofs (maxSteps:=10^7) only[go_sem,seval,↓gZ,X5,ev,hn]
theorem Zvf (qL qW qH:Int) (qF:List Box) (bX bY bW bH:Int) (label:Int) (hf:∀ f∈qF,VB f) (hl:qF.length≤6) (hb:VB (Box.mk bX bY bW bH)) :
  Zh Xs Ms Zb7 [(.d (.agg [J qL,J qW,J qH,.sl (qF.map Box.enc)])),(.d (.agg [J bX,J bY,J bW,J bH])),(.d (J label))] []=some (.agg [(.d (J label)),(.d (J bW)),(.d (J bH)),.own 0],[.row 4 ((qF.filterMap (Zcm (Box.mk bX bY bW bH))).map Box.enc) true false]):=by
 refine Zb Xs Ms ZeH ZxH (by show 3≤_;decide) ?_
 simp +contextual -implicitDefEqProofs (maxSteps:=10^7) only[go_sem,seval,↓gZ,ZeH]
 refine ZQ Xs Ms (st0:=?st0) (α:=Nat) (fun i=>[(8,.d (J (i:Int)))]) (fun i=>[(4,.row 4 (((qF.take i).filterMap (Zcm (Box.mk bX bY bW bH))).map Box.enc) true false)]) (fun i=>i≤qF.length) (fun i=>qF.length-i) 0 ?hc (by omega) ?h0 ?step
 case hc=>simp +contextual -implicitDefEqProofs (maxSteps:=10^7) only[go_sem,seval,↓gZ];exact rfl
 case h0=>rfl
 case step=>
  intro i hk ih
  by_cases hlt:i<qF.length
  ·obtain⟨x,hx⟩:=ZU hlt
   have hw:=Zm (k:=i) (by omega)
   have hm:=Zlz (f:=Zcm (Box.mk bX bY bW bH)) hx
   have hfl:((qF.take i).filterMap (Zcm (Box.mk bX bY bW bH))).length≤i:=Nat.le_trans (List.length_filterMap_le _ _) (by simp;omega)
   have hr:(((qF.take i).filterMap (Zcm (Box.mk bX bY bW bH))).length+1)*32≤140737488355328∧((qF.take i).filterMap (Zcm (Box.mk bX bY bW bH))).length≤140737488355327:=by omega
   have hvx:=hf x (List.mem_of_getElem? hx)
   obtain⟨X,Y,W,H⟩:=x
   have hvx':=hvx
   have hb':=hb
   simp only[VB] at hvx' hb'
   simp only[Zcm] at hm
   by_cases ho:Zh5 ⟨X,Y,W,H⟩ (Box.mk bX bY bW bH)
   ·rw[if_pos ho] at hm
    have w1:=wi (max X bX-bX) (by omega) (by omega)
    have w2:=wi (max Y bY-bY) (by omega) (by omega)
    simp +contextual -implicitDefEqProofs (maxSteps:=10^7) only[go_sem,seval,↓gZ,hx,hlt,hw,ZlV X Y W H bX bY bW bH hvx hb ho,hr,Zr4,w1,w2]
    refine ih (i+1) _ (by omega) (by omega) ?_
    simp +contextual -implicitDefEqProofs (maxSteps:=10^7) only[go_sem,seval,↓gZ,hm,ZwG,Zr4]
    first | rfl | (simp;done) | (simp;rfl)
   ·rw[if_neg ho] at hm
    simp +contextual -implicitDefEqProofs (maxSteps:=10^7) only[go_sem,seval,↓gZ,hx,hlt,hw,ZnP X Y W H bX bY bW bH hvx hb ho,hr]
    refine ih (i+1) _ (by omega) (by omega) ?_
    simp +contextual -implicitDefEqProofs (maxSteps:=10^7) only[go_sem,seval,↓gZ,hm]
    first | rfl | (simp;done) | (simp;rfl)
  ·have:i=qF.length:=by omega
   subst this
   simp +contextual -implicitDefEqProofs (maxSteps:=10^7) only[go_sem,seval,↓gZ]
   try simp
theorem Zem (bX bY bW bH:Int) (ZB:Int):Zh Xs Ms Wa [(.d (.agg [J bX,J bY,J bW,J bH])),(.d (J ZB))] []=some ((.d (.bool (decide (ZB≤bW∧ZB≤bH)))),[]):=by
 refine Zb Xs Ms J8 Zrw (by show 2≤_;decide) ?_
 simp +contextual -implicitDefEqProofs (maxSteps:=10^7) only[go_sem,seval,↓gZ,J8]
theorem Zq0 (qL qW qH:Int) (qF:List Box) (kW kH:Int) (kP:List Pane) (p:Zj) (ZB label:Int) (hq:VPc (Zd.mk qL qW qH qF)) (hv:ZgG (XJ.mk kW kH kP) p=true) (h1:1≤label) (h2:label≤10000) :
  Zh Xs Ms Jz [(.d (.agg [J qL,J qW,J qH,.sl (qF.map Box.enc)])),(.d (.agg [J kW,J kH,.sl (kP.map Pane.enc)])),.d p.enc,(.d (J ZB)),(.d (J label))] [] =
  some (.own 0,[.row 4 ((Zeb (Zd.mk qL qW qH qF) label (Zcv (XJ.mk kW kH kP) p ZB)).map Zd.enc) true false]):=by
 obtain⟨b,hb,hpb,hvw,hcnt,hfit,hpt⟩:=UL hv
 have hvw':=hvw
 simp only[VW] at hvw'
 have ep:=Zkj kW kH kP p b hpb (by simp only[inB];omega) hfit (by omega)
 have hbox:=ZmI hv
 have hlen:((UK (XJ.mk kW kH kP) p).filterMap ZdC).length≤255:=Nat.le_trans (List.length_filterMap_le _ _) (Zw9 _ _)
 unfold Zcv
 rw[hpt,ZgF] at hbox hlen ⊢
 have hfl:∀ f∈qF,VB f:=fun f hf=>(hq.2 f hf).1
 have hq6:qF.length≤6:=hq.1.2.2.2.2.2.2
 have hkept:∀ i,((wst b 0 0 kW kH).take i).length≤255:=fun i=>Nat.le_trans (List.length_take_le' _ _) hlen
 generalize wst b 0 0 kW kH=L at ep hbox hlen hkept ⊢
 clear hpt hpb hb hv hfit hvw hvw'
 obtain⟨o,a,n,t,ks⟩:=p
 rw[Zj.enc_mk] at ep ⊢
 refine Zb Xs Ms Zbq Zt2 (by show 5≤_;decide) ?_
 simp +contextual -implicitDefEqProofs (maxSteps:=10^7) only[go_sem,seval,↓gZ,Zbq,ep]
 refine ZQ Xs Ms (st0:=?st0) (α:=Nat) (fun i=>[(13,.d (J (i:Int)))]) (fun i=>[(1,.row 4 ((Zeb (Zd.mk qL qW qH qF) label ((L.take i).filterMap (Zea ZB))).map Zd.enc) true false)]) (fun i=>i≤L.length) (fun i=>L.length-i) 0 ?hc (by omega) ?h0 ?step
 case hc=>simp +contextual -implicitDefEqProofs (maxSteps:=10^7) only[go_sem,seval,↓gZ];exact rfl
 case h0=>rfl
 case step=>
  intro i hi ih
  by_cases hlt:i<L.length
  ·obtain⟨x,hx⟩:=ZU hlt
   have hw:=Zm (k:=i) (by omega)
   have hm:=Zlz (f:=Zea ZB) hx
   have hlk:((L.take i).filterMap (Zea ZB)).length≤255:=Nat.le_trans (List.length_filterMap_le _ _) (hkept i)
   have hl:=ZlC (Zd.mk qL qW qH qF) label ((L.take i).filterMap (Zea ZB))
   have hr:(((L.take i).filterMap (Zea ZB)).length+1)*48≤140737488355328∧((L.take i).filterMap (Zea ZB)).length≤140737488355327:=by omega
   have w1:=wi (label+(((L.take i).filterMap (Zea ZB)).length:Int)) (by omega) (by omega)
   have hbx:=hbox x (List.mem_of_getElem? hx)
   have hcc:=fun y=>ZiG (Zd.mk qL qW qH qF) label ((L.take i).filterMap (Zea ZB)) [y]
   obtain⟨X,Y,W,H⟩:=x
   simp only[Zea] at hm
   have hc:=Zvf qL qW qH qF X Y W H (label+(((L.take i).filterMap (Zea ZB)).length:Int)) hfl hq6 hbx
   by_cases ho:ZB≤W∧ZB≤H
   ·rw[if_pos ho] at hm
    simp +contextual -implicitDefEqProofs (maxSteps:=10^7) only[go_sem,seval,↓gZ,hx,hlt,hw,Zem,ho,hl,w1,hc,hr]
    refine ih (i+1) _ (by omega) (by omega) ?_
    simp +contextual -implicitDefEqProofs (maxSteps:=10^7) only[go_sem,seval,↓gZ,hm,Option.toList,hcc,Zeb,ZwH]
    first | rfl | (simp;done) | (simp;rfl)
   ·rw[if_neg ho] at hm
    simp +contextual -implicitDefEqProofs (maxSteps:=10^7) only[go_sem,seval,↓gZ,hx,hlt,hw,Zem,ho]
    refine ih (i+1) _ (by omega) (by omega) ?_
    simp +contextual -implicitDefEqProofs (maxSteps:=10^7) only[go_sem,seval,↓gZ,hm]
    first | rfl | (simp;done) | (simp;rfl)
  ·have:i=L.length:=by omega
   subst this
   simp +contextual -implicitDefEqProofs (maxSteps:=10^7) only[go_sem,seval,↓gZ]
   try simp
theorem ZlX (bs:List UInt8) (hb:bs.length≤2000) (p:Nat) (hp:p<900000000) (w h:Int):∃ X Y W H:Int,
  Zh Xs Ms ZaO [.ptr 0 0,(.d (J w)),(.d (J h))] [.box [.d (.sl (bs.map VM)),(.d (J p))]]=some (.d (.agg [J X,J Y,J W,J H]),[.box [.d (.sl (bs.map VM)),(.d (J ((p+4:Nat))))]]):=by
 have p1:=Qa bs p w hb (by omega)
 generalize Qq bs p w=a1 at p1
 have p2:=Qa bs (p+1) h hb (by omega)
 generalize Qq bs (p+1) h=a2 at p2
 have p3:=Qa bs (p+2) (IntKind.i64.wrap (IntKind.i64.wrap (w-IntKind.i64.wrap (1+a1))+1)) hb (by omega)
 generalize Qq bs (p+2) (IntKind.i64.wrap (IntKind.i64.wrap (w-IntKind.i64.wrap (1+a1))+1))=a3 at p3
 have p4:=Qa bs (p+3) (IntKind.i64.wrap (IntKind.i64.wrap (h-IntKind.i64.wrap (1+a2))+1)) hb (by omega)
 generalize Qq bs (p+3) (IntKind.i64.wrap (IntKind.i64.wrap (h-IntKind.i64.wrap (1+a2))+1))=a4 at p4
 refine⟨a3,a4,IntKind.i64.wrap (1+a1),IntKind.i64.wrap (1+a2),?_⟩
 refine Zb Xs Ms ZcH ZvV (by show 3≤_;decide) ?_
 simp +contextual -implicitDefEqProofs (maxSteps:=10^7) only[go_sem,seval,↓gZ,ZcH,p1,p2,p3,p4]
def UP:List Zd→Int
 | []=>0
 | x :: l=>x.W*x.H+UP l
theorem ZtD (a b:List Zd):UP (a++b)=UP a+UP b:=by
 induction a with
 | nil=>simp[UP]
 | cons c l ih=>simp only[List.cons_append,UP,ih];omega
theorem Zxa {L:List Zd} {i:Nat} {x:Zd} (hx:L[i]?=some x):UP (L.take (i+1))=UP (L.take i)+x.W*x.H:=by
 rw[List.take_add_one,hx,ZtD];simp[UP]
theorem Zvg (q:Zd):∀ (n:Int) (l:List Box) (i:Nat) (x:Zd),(Zeb q n l)[i]?=some x→∃ b,l[i]?=some b∧x=ZwH q b (n+i)
 | n,[],i,x,h=>by simp[Zeb] at h
 | n,b :: l,0,x,h=>by
  simp only[Zeb,List.getElem?_cons_zero,Option.some.injEq] at h
  exact⟨b,rfl,by rw[← h];simp⟩
 | n,b :: l,i+1,x,h=>by
  simp only[Zeb,List.getElem?_cons_succ] at h
  obtain⟨c,h1,h2⟩:=Zvg q (n+1) l i x h
  refine⟨c,by simpa using h1,?_⟩
  rw[h2];congr 1;omega
theorem ZhF:∀ {l:List Zd},(∀ x∈l,1≤x.W∧x.W≤200∧1≤x.H∧x.H≤200)→0≤UP l∧UP l≤40000*l.length
 | [],_=>by simp[UP]
 | x :: l,h=>by
  have h1:=h x (by simp)
  have h2:=ZhF (l:=l) fun y hy=>h y (by simp[hy])
  have h3:0≤x.W*x.H:=Int.mul_nonneg (by omega) (by omega)
  have h4:x.W*x.H≤200*200:=Int.mul_le_mul (by omega) (by omega) (by omega) (by omega)
  simp only[UP,List.length_cons]
  omega
def Zen:Int→List Zd→Prop
 | _,[]=>True
 | b,x :: l=>VPc x∧b<x.Label∧Zen x.Label l
instance sortFdec:∀ (b:Int) (l:List Zd),Decidable (Zen b l)
 | _,[]=>.isTrue trivial
 | b,x :: l=>by unfold Zen;exact @instDecidableAnd _ _ _ (@instDecidableAnd _ _ _ (sortFdec x.Label l))
def VSt (l:List Zd):Prop:=l.length≤20∧Zen 0 l
instance (l:List Zd):Decidable (VSt l):=by unfold VSt;infer_instance
theorem Zxb {l:List Zd} {k:Nat} {x:Zd} {b:Int} (hx:l[k]?=some x):Zen b (l.drop k)↔VPc x∧b<x.Label∧Zen x.Label (l.drop (k+1)):=by
 obtain⟨h1,h2⟩:=List.getElem?_eq_some_iff.1 hx
 rw[List.drop_eq_getElem_cons h1,h2,Zen]
theorem ZzE {l:List Zd} {b:Int}:Zen b (l.drop l.length):=by simp[Zen]
def ZlY (l:List Zd):Nat→Int
 | 0=>0
 | j+1=>match l[j]? with
  | some x=>x.Label
  | none=>0
theorem VG (l:List Zd) (hl:l.length<4611686018427387904) (hS:∀ x∈l,x.Flaws.length<4611686018427387904∧R64 x.W∧R64 x.H):Zh Xs Ms QY [(.d (.sl (l.map Zd.enc)))] []=some ((.d (.bool (decide (VSt l)))),[]):=by
 refine Zb Xs Ms U5 ZqG (by show 1≤_;decide) ?_
 simp +contextual -implicitDefEqProofs (maxSteps:=10^7) only[go_sem,seval,↓gZ,U5]
 refine ZQ Xs Ms (st0:=?st0) (α:=Nat) (fun i=>[(3,.d (J (i:Int)))]) (fun _=>[]) (fun i=>i≤l.length∧(Zen 0 l↔Zen (ZlY l i) (l.drop i))) (fun i=>l.length-i) 0 ?hc ⟨by simp,by simp[ZlY]⟩ ?h0 ?step
 case hc=>simp +contextual -implicitDefEqProofs (maxSteps:=10^7) only[go_sem,seval,↓gZ]<;>exact rfl
 case h0=>rfl
 case step=>
  intro i ⟨hi,hp⟩ ih
  by_cases hlt:i<l.length
  ·obtain⟨x,hx⟩:=ZU hlt
   have hw:=Zm (k:=i) (by omega)
   rw[Zxb hx] at hp
   obtain⟨hS1,hS2,hS3⟩:=hS x (List.mem_of_getElem? hx)
   have ev:=Zia x.Label x.W x.H x.Flaws hS1 hS2 hS3
   have hla:ZlY l (i+1)=x.Label:=by simp only[ZlY,hx]
   obtain⟨L,W,H,F⟩:=x
   simp only at hp ev hla
   by_cases hv:VPc ⟨L,W,H,F⟩
   ·rw[decide_eq_true hv] at ev
    have hL:1≤L:=hv.1.1
    cases i with
    | zero=>
     have hlt' : (0:Int)<(l.length:Int):=by omega
     simp +contextual -implicitDefEqProofs (maxSteps:=10^7) only[go_sem,seval,↓gZ,hx,hlt,hlt',hw,ev]
     refine ih 1 _ ⟨by omega,?_⟩ (by omega) ?_
     ·rw[hp,hla];exact⟨fun h=>h.2.2,fun h=>⟨hv,by simp only[ZlY];omega,h⟩⟩
     ·simp +contextual -implicitDefEqProofs (maxSteps:=10^7) only[go_sem,seval,↓gZ]
    | succ j=>
     obtain⟨y,hy⟩:=ZU (l:=l) (k:=j) (by omega)
     have hlb:ZlY l (j+1)=y.Label:=by simp only[ZlY,hy]
     rw[hlb] at hp
     have hj:IntKind.i64.wrap (((j+1:Nat):Int)-1)=(j:Int):=by rw[Zap (by omega) (by omega)];omega
     have hpos:(0:Int)<((j+1:Nat):Int):=by omega
     have hjl:j<l.length:=by omega
     obtain⟨L',W',H',F'⟩:=y
     simp only at hp
     by_cases hb:L≤L'
     ·have hn:¬VSt l:=fun h=>by have:=(hp.1 h.2).2.1;omega
      simp +contextual -implicitDefEqProofs (maxSteps:=10^7) only[go_sem,seval,↓gZ,hx,hlt,hw,ev,hpos,hj,hjl,hy,hb,hn]
     ·simp +contextual -implicitDefEqProofs (maxSteps:=10^7) only[go_sem,seval,↓gZ,hx,hlt,hw,ev,hpos,hj,hjl,hy,hb]
      refine ih (j+1+1) _ ⟨by omega,?_⟩ (by omega) ?_
      ·rw[hp,hla];exact⟨fun h=>h.2.2,fun h=>⟨hv,by omega,h⟩⟩
      ·simp +contextual -implicitDefEqProofs (maxSteps:=10^7) only[go_sem,seval,↓gZ]
   ·rw[decide_eq_false hv] at ev
    have hn:¬VSt l:=fun h=>hv (hp.1 h.2).1
    simp +contextual -implicitDefEqProofs (maxSteps:=10^7) only[go_sem,seval,↓gZ,hx,hlt,hw,ev,hn]
  ·have:i=l.length:=by omega
   subst this
   have hs:=hp.2 ZzE
   simp +contextual -implicitDefEqProofs (maxSteps:=10^7) only[go_sem,seval,↓gZ]
   exact Zlq (by simp only[VSt];constructor<;>(intro h;first | exact⟨by omega,hs⟩ | (have:=h.1;omega)))
def UF:Nat→List Zd→Int→Int
 | _,[],_=>-1
 | k,x :: l,n=>if x.Label=n then (k:Int) else UF (k+1) l n
theorem ZzF {l:List Zd} {k:Nat} {x:Zd} {n:Int} (hx:l[k]?=some x):UF k (l.drop k) n=if x.Label=n then (k:Int) else UF (k+1) (l.drop (k+1)) n:=by
 obtain⟨h1,h2⟩:=List.getElem?_eq_some_iff.1 hx
 rw[List.drop_eq_getElem_cons h1,h2,UF]
theorem Vm (l:List Zd) (n:Int) (hl:l.length<4611686018427387904):Zh Xs Ms XK [(.d (.sl (l.map Zd.enc))),(.d (J n))] []=some ((.d (J (UF 0 l n))),[]):=by
 refine Zb Xs Ms J3 Zrr (by show 2≤_;decide) ?_
 simp +contextual -implicitDefEqProofs (maxSteps:=10^7) only[go_sem,seval,↓gZ,J3]
 refine ZQ Xs Ms (st0:=?st0) (α:=Nat) (fun k=>[(5,.d (J (k:Int)))]) (fun _=>[]) (fun k=>k≤l.length∧UF k (l.drop k) n=UF 0 l n) (fun k=>l.length-k) 0 ?hc ⟨by omega,rfl⟩ ?h0 ?step
 case hc=>simp +contextual -implicitDefEqProofs (maxSteps:=10^7) only[go_sem,seval,↓gZ]<;>exact rfl
 case h0=>rfl
 case step=>
  intro k ⟨hk,hp⟩ ih
  by_cases hlt:k<l.length
  ·obtain⟨x,hx⟩:=ZU hlt
   rw[ZzF hx] at hp
   have hw:=Zm (k:=k) (by omega)
   obtain⟨L,W,H,F⟩:=x
   simp only at hp
   by_cases h:L=n
   ·rw[if_pos h] at hp
    simp +contextual -implicitDefEqProofs (maxSteps:=10^7) only[go_sem,seval,↓gZ,hx,hlt,hw,h]
    rw[← hp]
   ·rw[if_neg h] at hp
    simp +contextual -implicitDefEqProofs (maxSteps:=10^7) only[go_sem,seval,↓gZ,hx,hlt,hw,h]
    refine ih (k+1) _ ⟨by omega,hp⟩ (by omega) ?_
    simp +contextual -implicitDefEqProofs (maxSteps:=10^7) only[go_sem,seval,↓gZ]
  ·have:k=l.length:=by omega
   subst this
   simp +contextual -implicitDefEqProofs (maxSteps:=10^7) only[go_sem,seval,↓gZ]
   rw[← hp]
   simp[UF]
theorem Ws (qL qW qH:Int) (qF:List Box) (hF:qF.length≤1000000):Zh Xs Ms XL [(.d (.agg [J qL,J qW,J qH,.sl (qF.map Box.enc)]))] []=some (.agg [(.d (J qL)),(.d (J qW)),(.d (J qH)),.own 0],[.row 4 (qF.map Box.enc) true false]):=by
 have hr:qF.length*32≤140737488355328∧qF.length≤140737488355328:=by omega
 refine Zb Xs Ms J5 Zrt (by show 1≤_;decide) ?_
 simp +contextual -implicitDefEqProofs (maxSteps:=10^7) only[go_sem,seval,↓gZ,J5,hr]
theorem Zxc {α:Type} {l:List α} {i a:Nat} {x:α} (hx:l[i]?=some x) (h:i≠a):(l.take (i+1)).eraseIdx a=(l.take i).eraseIdx a++[x]:=by
 have h1:=(List.getElem?_eq_some_iff.1 hx).1
 have e:l.take (i+1)=l.take i++[x]:=by rw[List.take_add_one,hx];simp
 rw[e]
 have hl:(l.take i).length=i:=by simp;omega
 rcases Nat.lt_or_ge a i with h2 | h2
 ·rw[List.eraseIdx_append_of_lt_length (by omega)]
 ·rw[List.eraseIdx_of_length_le (by simp;omega),List.eraseIdx_of_length_le (by omega)]
theorem Zxd {α:Type} {l:List α} {i:Nat} {x:α} (hx:l[i]?=some x):(l.take (i+1)).eraseIdx i=(l.take i).eraseIdx i:=by
 have h1:=(List.getElem?_eq_some_iff.1 hx).1
 have e:l.take (i+1)=l.take i++[x]:=by rw[List.take_add_one,hx];simp
 have hl:(l.take i).length=i:=by simp;omega
 rw[e,List.eraseIdx_append_of_length_le (by omega),hl]
 simp
 rw[List.eraseIdx_of_length_le (by omega)]
theorem Zp2 {α:Type} (l:List α) (a:Nat):(l.eraseIdx a).length≤l.length:=by
 have:=List.length_eraseIdx_le l a
 omega
theorem ZhG (l:List Zd) (a:Nat) (hl:l.length≤1000000) (hF:∀ x∈l,x.Flaws.length≤1000000):Zh Xs Ms VX [(.d (.sl (l.map Zd.enc))),(.d (J a))] []=some (.own 0,[.row 4 ((l.eraseIdx a).map Zd.enc) true false]):=by
 refine Zb Xs Ms U4 ZnZ (by show 2≤_;decide) ?_
 simp +contextual -implicitDefEqProofs (maxSteps:=10^7) only[go_sem,seval,↓gZ,U4]
 refine ZQ Xs Ms (st0:=?st0) (α:=Nat) (fun i=>[(6,.d (J (i:Int)))]) (fun i=>[(0,.row 4 (((l.take i).eraseIdx a).map Zd.enc) true false)]) (fun i=>i≤l.length) (fun i=>l.length-i) 0 ?hc (by omega) ?h0 ?step
 case hc=>simp +contextual -implicitDefEqProofs (maxSteps:=10^7) only[go_sem,seval,↓gZ]<;>exact rfl
 case h0=>rfl
 case step=>
  intro i hi ih
  by_cases hlt:i<l.length
  ·obtain⟨x,hx⟩:=ZU hlt
   have hw:=Zm (k:=i) (by omega)
   by_cases hia:i=a
   ·subst hia
    have hm:=Zxd hx
    simp +contextual -implicitDefEqProofs (maxSteps:=10^7) only[go_sem,seval,↓gZ,hx,hlt,hw]
    refine ih (i+1) _ (by omega) (by omega) ?_
    simp +contextual -implicitDefEqProofs (maxSteps:=10^7) only[go_sem,seval,↓gZ,hm]
   ·have hm:=Zxc hx hia
    have hlk:((l.take i).eraseIdx a).length≤i:=Nat.le_trans (Zp2 _ _) (by simp;omega)
    have hr:(((l.take i).eraseIdx a).length+1)*48≤140737488355328∧((l.take i).eraseIdx a).length≤140737488355327:=by omega
    have e:=Ws x.Label x.W x.H x.Flaws (hF x (List.mem_of_getElem? hx))
    obtain⟨L,W,H,F⟩:=x
    simp only at e
    simp +contextual -implicitDefEqProofs (maxSteps:=10^7) only[go_sem,seval,↓gZ,hx,hlt,hw,hia,e,hr]
    refine ih (i+1) _ (by omega) (by omega) ?_
    simp +contextual -implicitDefEqProofs (maxSteps:=10^7) only[go_sem,seval,↓gZ,hm]
    first | rfl | (simp;done) | (simp;rfl)
  ·have:i=l.length:=by omega
   subst this
   simp +contextual -implicitDefEqProofs (maxSteps:=10^7) only[go_sem,seval,↓gZ]
   simp
def Zds (l:List Zd):Int:=ZlY l l.length
theorem Zss {l:List Zd} {x:Zd} (hx:l[l.length-1]?=some x):Zds l=x.Label:=by
 have h:=(List.getElem?_eq_some_iff.1 hx).1
 unfold Zds
 obtain⟨n,hn⟩:∃ n,l.length=n+1:=⟨l.length-1,by omega⟩
 rw[hn] at hx ⊢
 simp only[ZlY]
 simp only[Nat.add_sub_cancel] at hx
 rw[hx]
theorem ZiX (l:List Zd) (hl:l.length<4611686018427387904):Zh Xs Ms Vf [(.d (.sl (l.map Zd.enc)))] []=some ((.d (J (Zds l))),[]):=by
 by_cases h0:l.length=0
 ·have e:Zds l=0:=by unfold Zds;rw[h0];rfl
  have h0' : (l.length:Int)=0:=by omega
  rw[e]
  refine Zb Xs Ms Wc Zkp (by show 1≤_;decide) ?_
  simp +contextual -implicitDefEqProofs (maxSteps:=10^7) only[go_sem,seval,↓gZ,Wc,h0']
 ·obtain⟨x,hx⟩:=ZU (l:=l) (k:=l.length-1) (by omega)
  have e:=Zss hx
  have hn:¬(l.length:Int)=0:=by omega
  have hw:IntKind.i64.wrap ((l.length:Int)-1)=((l.length-1:Nat):Int):=by rw[Zap (by omega) (by omega)];omega
  have hlt:l.length-1<l.length:=by omega
  obtain⟨L,W,H,F⟩:=x
  simp only at e
  refine Zb Xs Ms Wc Zkp (by show 1≤_;decide) ?_
  simp +contextual -implicitDefEqProofs (maxSteps:=10^7) only[go_sem,seval,↓gZ,Wc,hn,hw,hx,hlt,e]
theorem Zp3:∀ (l:List Zd) (k:Nat) (n:Int),UF k l n=-1∨∃ i:Nat,UF k l n=((k+i:Nat):Int)∧i<l.length
 | [],k,n=>.inl rfl
 | x :: l,k,n=>by
  unfold UF
  split
  ·exact .inr ⟨0,by simp,by simp⟩
  ·rcases Zp3 l (k+1) n with h | ⟨i,h1,h2⟩
   ·exact .inl h
   ·exact .inr ⟨i+1,by rw[h1];congr 1;omega,by simp;omega⟩
theorem X8:∀ {l:List Zd} {b:Int},Zen b l→∀ x∈l,VPc x
 | [],_,_,x,hx=>by simp at hx
 | y :: l,b,h,x,hx=>by
  rcases List.mem_cons.1 hx with rfl | hx
  ·exact h.1
  ·exact X8 h.2.2 x hx
theorem ZjQ {l:List Zd} (h:VSt l):l.length≤1000000∧∀ x∈l,x.Flaws.length≤1000000:=by
 refine⟨by have:=h.1;omega,fun x hx=>?_⟩
 have:=(X8 h.2 x hx).1.2.2.2.2.2.2
 omega
def PcW (x:Zd):Prop:=x.Flaws.length≤6∧R64 x.W∧R64 x.H
theorem ZmZ:∀ {l:List Zd} {b:Int},Zen b l→∀ (i j:Nat) (x y:Zd),i≤j→l[i]?=some x→l[j]?=some y→x.Label≤y.Label∧b<x.Label
 | [],b,_,i,j,x,y,_,hx,_=>by simp at hx
 | z :: l,b,h,0,0,x,y,_,hx,hy=>by
  simp at hx hy;subst hx;subst hy;exact⟨Int.le_refl _,h.2.1⟩
 | z :: l,b,h,0,j+1,x,y,_,hx,hy=>by
  simp at hx hy;subst hx
  have:=(ZmZ h.2.2 j j y y (Nat.le_refl _) hy hy).2
  exact⟨by omega,h.2.1⟩
 | z :: l,b,h,i+1,j+1,x,y,hij,hx,hy=>by
  simp at hx hy
  have:=ZmZ h.2.2 i j x y (by omega) hx hy
  have h2:=h.2.1
  exact⟨this.1,by omega⟩
 | z :: l,b,h,i+1,0,x,y,hij,hx,hy=>by omega
theorem ZBg {l:List Zd} (hv:VSt l) (hne:0<l.length):1≤Zds l∧Zds l≤9999∧∀ x∈l,x.Label≤Zds l:=by
 obtain⟨y,hy⟩:=ZU (l:=l) (k:=l.length-1) (by omega)
 rw[Zss hy]
 have hyv:=(X8 hv.2 y (List.mem_of_getElem? hy)).1
 refine⟨hyv.1,hyv.2.1,fun x hx=>?_⟩
 obtain⟨i,hi⟩:=List.getElem?_of_mem hx
 have:=(List.getElem?_eq_some_iff.1 hi).1
 exact(ZmZ hv.2 i (l.length-1) x y (by omega) hi hy).1
def Zxe (l:List Zd) (i:Nat) (x:Zd) (k:XJ) (p:Zj) (ZB:Int):List Zd:=l.eraseIdx i++Zeb x (Zds l+1) (Zcv k p ZB)
def ZlZ (l:List Zd) (n:Int) (k:XJ) (p:Zj) (ZB:Int):Option (List Zd):=
 if VSt l∧0≤UF 0 l n∧1≤ZB∧ZB≤200 then
  match l[(UF 0 l n).toNat]? with
  | some x=>if Zh7 x k p∧VSt (Zxe l (UF 0 l n).toNat x k p ZB) then some (Zxe l (UF 0 l n).toNat x k p ZB) else none
  | none=>none
 else none
def ZtE:Option (List Zd)→AV×List Zo
 | some R=>(.tup [.own 0,(.d (.bool true))],[.row 4 (R.map Zd.enc) true false])
 | none=>(.tup [.own 0,(.d (.bool false))],[.row 4 [] true false])
theorem Zp4 {l:List Zd} {n:Int} (h:0≤UF 0 l n):∃ (i:Nat) (x:Zd),UF 0 l n=(i:Int)∧l[i]?=some x:=by
 rcases Zp3 l 0 n with h1 | ⟨i,h1,h2⟩
 ·omega
 ·obtain⟨x,hx⟩:=ZU h2
  exact⟨i,x,by rw[h1];simp,hx⟩
theorem Zxf {l:List Zd} {i:Nat} {x:Zd} {k:XJ} {p:Zj} {ZB:Int} (hv:VSt l) (hx:l[i]?=some x) (hg:Zh7 x k p) :
  (Zxe l i x k p ZB).length≤1000∧∀ y∈Zxe l i x k p ZB,y.Flaws.length<4611686018427387904∧R64 y.W∧R64 y.H:=by
 have hq:=X8 hv.2 x (List.mem_of_getElem? hx)
 refine⟨?_,fun y hy=>?_⟩
 ·unfold Zxe
  rw[List.length_append,ZlC]
  have:=Zr8 k p ZB
  have:=Zp2 l i
  have:=hv.1
  omega
 ·rcases List.mem_append.1 hy with hy | hy
  ·have h:=X8 hv.2 y (List.mem_of_mem_eraseIdx hy)
   have h1:=h.1
   exact⟨by omega,⟨by omega,by omega⟩,⟨by omega,by omega⟩⟩
  ·obtain⟨j,hj⟩:=List.getElem?_of_mem hy
   obtain⟨b,hb,rfl⟩:=Zvg x _ _ j y hj
   have hvb:=(ZAS (ZB:=ZB) hg.1 b (List.mem_of_getElem? hb)).1
   simp only[VB] at hvb
   have hfl:=List.length_filterMap_le (Zcm b) x.Flaws
   have hq6:=hq.1.2.2.2.2.2.2
   simp only[ZwH]
   exact⟨by omega,⟨by omega,by omega⟩,⟨by omega,by omega⟩⟩
theorem Zq1 (l:List Zd) (n:Int) (kW kH:Int) (kP:List Pane) (p:Zj) (ZB:Int) (hl:l.length≤1000) (hS:∀ x∈l,PcW x) (hk:kP.length<4611686018427387904):Zh Xs Ms Ju [(.d (.sl (l.map Zd.enc))),(.d (J n)),(.d (.agg [J kW,J kH,.sl (kP.map Pane.enc)])),.d p.enc,(.d (J ZB))] []=some (ZtE (ZlZ l n (XJ.mk kW kH kP) p ZB)):=by
 have ev:=VG l (by omega) (fun x hx=>by obtain⟨g1,g2,g3⟩:=hS x hx;exact⟨by omega,g2,g3⟩)
 have ef:=Vm l n (by omega)
 unfold ZlZ
 by_cases hv:VSt l
 ·rw[decide_eq_true hv] at ev
  by_cases hf:0≤UF 0 l n
  ·obtain⟨i,x,hi,hx⟩:=Zp4 hf
   rw[hi] at ef ⊢
   have hi0:¬(i:Int)<0:=by omega
   have hil:=(List.getElem?_eq_some_iff.1 hx).1
   simp only[Int.toNat_natCast,hx]
   by_cases hr:1≤ZB∧ZB≤200
   ·have hq:=X8 hv.2 x (List.mem_of_getElem? hx)
    have hll:=ZBg hv (by omega)
    have ew:=ZhG l i (by omega) (fun x hx=>by have:=(hS x hx).1;omega)
    have el:=ZiX l (by omega)
    have w2:=wi (Zds l+1) (by omega) (by omega)
    rw[if_pos ⟨hv,by omega,hr⟩]
    by_cases hg:Zh7 x (XJ.mk kW kH kP) p
    ·have hcs:=Zxf (ZB:=ZB) hv hx hg
     have evo:=VG (Zxe l i x (XJ.mk kW kH kP) p ZB) (by omega) hcs.2
     have hlen:(l.eraseIdx i).length≤20:=Nat.le_trans (Zp2 _ _) hv.1
     have hkl:=Zr8 (XJ.mk kW kH kP) p ZB
     obtain⟨L,W,H,F⟩:=x
     have eg:=Zkk L W H F kW kH kP p (fun f hf=>(hq.2 f hf).1) hq.1.2.2.2.2.2.2 hk
     have er:=Zq0 L W H F kW kH kP p ZB (Zds l+1) hq hg.1 (by omega) (by omega)
     rw[decide_eq_true hg] at eg
     have hcl:=ZlC ⟨L,W,H,F⟩ (Zds l+1) (Zcv (XJ.mk kW kH kP) p ZB)
     have hrm:((l.eraseIdx i).length+(Zcv (XJ.mk kW kH kP) p ZB).length)*48≤140737488355328∧(l.eraseIdx i).length+(Zcv (XJ.mk kW kH kP) p ZB).length≤140737488355328:=by omega
     unfold Zxe at evo ⊢
     have hgg:=hg
     clear hg
     by_cases hvo:VSt (l.eraseIdx i++Zeb ⟨L,W,H,F⟩ (Zds l+1) (Zcv (XJ.mk kW kH kP) p ZB))
     ·rw[decide_eq_true hvo] at evo
      rw[if_pos ⟨hgg,hvo⟩]
      unfold ZtE
      clear hvo hcs hgg
      generalize Zeb ⟨L,W,H,F⟩ (Zds l+1) (Zcv (XJ.mk kW kH kP) p ZB)=R at er hcl evo ⊢
      generalize (Zcv (XJ.mk kW kH kP) p ZB).length=N at *
      obtain⟨o,a,m,t,ks⟩:=p
      rw[Zj.enc_mk] at er eg ⊢
      refine Zb Xs Ms QJ Jm (by show 5≤_;decide) ?_
      simp +contextual -implicitDefEqProofs (maxSteps:=10^7) only[go_sem,seval,↓gZ,QJ,ev,ef,hi0,ZA,hr,hx,hil,eg,ew,el,w2,er,hcl,hrm,evo]
     ·rw[decide_eq_false hvo] at evo
      rw[if_neg (fun h=>hvo h.2)]
      unfold ZtE
      clear hvo hcs hgg
      generalize Zeb ⟨L,W,H,F⟩ (Zds l+1) (Zcv (XJ.mk kW kH kP) p ZB)=R at er hcl evo ⊢
      generalize (Zcv (XJ.mk kW kH kP) p ZB).length=N at *
      obtain⟨o,a,m,t,ks⟩:=p
      rw[Zj.enc_mk] at er eg ⊢
      refine Zb Xs Ms QJ Jm (by show 5≤_;decide) ?_
      simp +contextual -implicitDefEqProofs (maxSteps:=10^7) only[go_sem,seval,↓gZ,QJ,ev,ef,hi0,ZA,hr,hx,hil,eg,ew,el,w2,er,hcl,hrm,evo]
    ·rw[if_neg (fun h=>hg h.1)]
     obtain⟨L,W,H,F⟩:=x
     have eg:=Zkk L W H F kW kH kP p (fun f hf=>(hq.2 f hf).1) hq.1.2.2.2.2.2.2 hk
     rw[decide_eq_false hg] at eg
     unfold ZtE
     clear hg
     obtain⟨o,a,m,t,ks⟩:=p
     rw[Zj.enc_mk] at eg ⊢
     refine Zb Xs Ms QJ Jm (by show 5≤_;decide) ?_
     simp +contextual -implicitDefEqProofs (maxSteps:=10^7) only[go_sem,seval,↓gZ,QJ,ev,ef,hi0,ZA,hr,hx,hil,eg]
   ·rw[if_neg (fun h=>hr h.2.2)]
    unfold ZtE
    obtain⟨o,a,m,t,ks⟩:=p
    rw[Zj.enc_mk]
    refine Zb Xs Ms QJ Jm (by show 5≤_;decide) ?_
    simp +contextual -implicitDefEqProofs (maxSteps:=10^7) only[go_sem,seval,↓gZ,QJ,ev,ef,hi0,ZA,hr]
  ·rw[if_neg (fun h=>hf h.2.1)]
   have hf' : UF 0 l n<0:=by omega
   unfold ZtE
   obtain⟨o,a,m,t,ks⟩:=p
   rw[Zj.enc_mk]
   refine Zb Xs Ms QJ Jm (by show 5≤_;decide) ?_
   simp +contextual -implicitDefEqProofs (maxSteps:=10^7) only[go_sem,seval,↓gZ,QJ,ev,ef,hf']
 ·rw[decide_eq_false hv] at ev
  rw[if_neg (fun h=>hv h.1)]
  unfold ZtE
  obtain⟨o,a,m,t,ks⟩:=p
  rw[Zj.enc_mk]
  refine Zb Xs Ms QJ Jm (by show 5≤_;decide) ?_
  simp +contextual -implicitDefEqProofs (maxSteps:=10^7) only[go_sem,seval,↓gZ,QJ,ev]
end Go.Proofs.YtkdjbefmiiibpaaGreatDoor
