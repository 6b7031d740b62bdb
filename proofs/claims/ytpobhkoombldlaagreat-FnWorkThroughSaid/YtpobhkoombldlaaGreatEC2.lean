/- Contracts of the functions,by the abstract semantics. -/
import Derived.Test.YtpobhkoombldlaaGreatECode
import Derived.Test.YtpobhkoombldlaaGreatAbsParts
import Derived.Test.YtpobhkoombldlaaGreatEC1
namespace Go.Proofs.YtpobhkoombldlaaGreat
open Go Go.Abs Go.Abs.E Go.Abs.L
open Nat (reduceMul reduceSub reduceLeDiff reduceEqDiff)
open Int (reduceLE reduceEq reduceToNat reduceNeg)
set_option linter.unusedSimpArgs false
set_option linter.unusedVariables false
set_option maxRecDepth 20000
set_option maxHeartbeats 4000000
theorem Yw (ps:List Pane):∀ (b:BT) (gX gY gW gH:Int) (xs:List D) (ex:Bool),inB (Box.mk gX gY gW gH)→YM ps b gW gH=true→xs.length+b.cnt≤1000 →
  Zg Xs Ms Qw [.own 0,.d b.plan.enc,(.d (.agg [J gX,J gY,J gW,J gH]))] [.row 9 xs ex false]=some (.own 1,[.row 0 [] true false,.row 9 (xs++(pt b gX gY gW gH).map Part.enc) false false])
 | .waste,gX,gY,gW,gH,xs,ex,hg,hf,hl=>by
  simp only[BT.cnt] at hl
  have h1:(xs.length+1)*88≤140737488355328∧xs.length≤140737488355327:=by omega
  simp only[BT.plan,Zh.enc_mk,pt]
  refine Zd Xs Ms Z5 VG (by show 3≤_;decide) ?_
  simp +contextual -implicitDefEqProofs (maxSteps:=10^7) only[go_sem,seval,↓gZ,Z5,UM,h1]
 | .pane i t,gX,gY,gW,gH,xs,ex,hg,hf,hl=>by
  simp only[BT.cnt] at hl
  have h1:(xs.length+1)*88≤140737488355328∧xs.length≤140737488355327:=by omega
  simp only[BT.plan,Zh.enc_mk,pt]
  refine Zd Xs Ms Z5 VG (by show 3≤_;decide) ?_
  simp +contextual -implicitDefEqProofs (maxSteps:=10^7) only[go_sem,seval,↓gZ,Z5,UM,h1]
 | .cut d a l r,gX,gY,gW,gH,xs,ex,hg,hf,hl=>by
  simp only[BT.cnt] at hl
  have h1:(xs.length+1)*88≤140737488355328∧xs.length≤140737488355327:=by omega
  simp only[inB] at hg
  simp only[BT.plan,Zh.enc_mk]
  cases d with
  | true=>
   simp only[YM,Bool.and_eq_true,decide_eq_true_eq,if_true] at hf
   have e0:=Zc3 2 a 0 false [l.plan.enc,r.plan.enc] gX gY gW gH rfl ⟨by omega,by omega⟩ ⟨by omega,by omega⟩
   have e1:=Yw ps l gX gY a gH (xs++[.agg [J 2,J a,J 0,.bool false,.sl [l.plan.enc,r.plan.enc],J gX,J gY,J gW,J gH]]) false (by simp only[inB];omega) hf.1.2 (by simp only[List.length_append,List.length_cons,List.length_nil];omega)
   have e2:=Yw ps r (gX+a) gY (gW-a) gH (xs++[.agg [J 2,J a,J 0,.bool false,.sl [l.plan.enc,r.plan.enc],J gX,J gY,J gW,J gH]]++(pt l gX gY a gH).map Part.enc) false (by simp only[inB];omega) hf.2 (by simp only[List.length_append,List.length_cons,List.length_nil,List.length_map,ZaY];omega)
   refine Zd Xs Ms Z5 VG (by show 3≤_;decide) ?_
   simp +contextual -implicitDefEqProofs (maxSteps:=10^7) only[go_sem,seval,↓gZ,Z5,UM,h1,QF,e0,e1,e2]
   simp[pt,QF,BT.plan,Part.enc_mk]
  | false=>
   simp only[YM,Bool.and_eq_true,decide_eq_true_eq,Bool.false_eq_true,if_false] at hf
   have e0:=Za9 3 a 0 false [l.plan.enc,r.plan.enc] gX gY gW gH (by decide) ⟨by omega,by omega⟩ ⟨by omega,by omega⟩
   have e1:=Yw ps l gX gY gW a (xs++[.agg [J 3,J a,J 0,.bool false,.sl [l.plan.enc,r.plan.enc],J gX,J gY,J gW,J gH]]) false (by simp only[inB];omega) hf.1.2 (by simp only[List.length_append,List.length_cons,List.length_nil];omega)
   have e2:=Yw ps r gX (gY+a) gW (gH-a) (xs++[.agg [J 3,J a,J 0,.bool false,.sl [l.plan.enc,r.plan.enc],J gX,J gY,J gW,J gH]]++(pt l gX gY gW a).map Part.enc) false (by simp only[inB];omega) hf.2 (by simp only[List.length_append,List.length_cons,List.length_nil,List.length_map,ZaY];omega)
   refine Zd Xs Ms Z5 VG (by show 3≤_;decide) ?_
   simp +contextual -implicitDefEqProofs (maxSteps:=10^7) only[go_sem,seval,↓gZ,Z5,UM,h1,QF,e0,e1,e2]
   simp[pt,QF,BT.plan,Part.enc_mk]
theorem Zql (ps:List Pane):∀ (b:BT) (gX gY gW gH:Int),inB (Box.mk gX gY gW gH)→YM ps b gW gH=true→b.cnt≤1000 →
  Zg Xs Ms Qw [.nil,.d b.plan.enc,(.d (.agg [J gX,J gY,J gW,J gH]))] []=some (.own 0,[.row 9 ((pt b gX gY gW gH).map Part.enc) false false])
 | .waste,gX,gY,gW,gH,hg,hf,hl=>by
  have h1:1*88≤ZZ∧1≤ZZ:=by unfold ZZ;omega
  simp only[BT.plan,Zh.enc_mk,pt]
  refine Zd Xs Ms Z5 VG (by show 3≤_;decide) ?_
  simp +contextual -implicitDefEqProofs (maxSteps:=10^7) only[go_sem,seval,↓gZ,Z5,UM,h1]
 | .pane i t,gX,gY,gW,gH,hg,hf,hl=>by
  have h1:1*88≤ZZ∧1≤ZZ:=by unfold ZZ;omega
  simp only[BT.plan,Zh.enc_mk,pt]
  refine Zd Xs Ms Z5 VG (by show 3≤_;decide) ?_
  simp +contextual -implicitDefEqProofs (maxSteps:=10^7) only[go_sem,seval,↓gZ,Z5,UM,h1]
 | .cut d a l r,gX,gY,gW,gH,hg,hf,hl=>by
  simp only[BT.cnt] at hl
  have h1:1*88≤ZZ∧1≤ZZ:=by unfold ZZ;omega
  simp only[inB] at hg
  simp only[BT.plan,Zh.enc_mk]
  cases d with
  | true=>
   simp only[YM,Bool.and_eq_true,decide_eq_true_eq,if_true] at hf
   have e0:=Zc3 2 a 0 false [l.plan.enc,r.plan.enc] gX gY gW gH rfl ⟨by omega,by omega⟩ ⟨by omega,by omega⟩
   have e1:=Yw ps l gX gY a gH [.agg [J 2,J a,J 0,.bool false,.sl [l.plan.enc,r.plan.enc],J gX,J gY,J gW,J gH]] false (by simp only[inB];omega) hf.1.2 (by simp only[List.length_append,List.length_cons,List.length_nil];omega)
   have e2:=Yw ps r (gX+a) gY (gW-a) gH (.agg [J 2,J a,J 0,.bool false,.sl [l.plan.enc,r.plan.enc],J gX,J gY,J gW,J gH] :: (pt l gX gY a gH).map Part.enc) false (by simp only[inB];omega) hf.2 (by simp only[List.length_append,List.length_cons,List.length_nil,List.length_map,ZaY];omega)
   refine Zd Xs Ms Z5 VG (by show 3≤_;decide) ?_
   simp +contextual -implicitDefEqProofs (maxSteps:=10^7) only[go_sem,seval,↓gZ,Z5,UM,h1,QF,e0,e1,e2]
   simp[pt,QF,BT.plan,Part.enc_mk]
  | false=>
   simp only[YM,Bool.and_eq_true,decide_eq_true_eq,Bool.false_eq_true,if_false] at hf
   have e0:=Za9 3 a 0 false [l.plan.enc,r.plan.enc] gX gY gW gH (by decide) ⟨by omega,by omega⟩ ⟨by omega,by omega⟩
   have e1:=Yw ps l gX gY gW a [.agg [J 3,J a,J 0,.bool false,.sl [l.plan.enc,r.plan.enc],J gX,J gY,J gW,J gH]] false (by simp only[inB];omega) hf.1.2 (by simp only[List.length_append,List.length_cons,List.length_nil];omega)
   have e2:=Yw ps r gX (gY+a) gW (gH-a) (.agg [J 3,J a,J 0,.bool false,.sl [l.plan.enc,r.plan.enc],J gX,J gY,J gW,J gH] :: (pt l gX gY gW a).map Part.enc) false (by simp only[inB];omega) hf.2 (by simp only[List.length_append,List.length_cons,List.length_nil,List.length_map,ZaY];omega)
   refine Zd Xs Ms Z5 VG (by show 3≤_;decide) ?_
   simp +contextual -implicitDefEqProofs (maxSteps:=10^7) only[go_sem,seval,↓gZ,Z5,UM,h1,QF,e0,e1,e2]
   simp[pt,QF,BT.plan,Part.enc_mk]
theorem ZlV (kW kH:Int) (kP:List Pane) (p:Zh):Zg Xs Ms UU [(.d (.agg [J kW,J kH,.sl (kP.map Pane.enc)])),.d p.enc] []=some (.own 0,[.row 9 ((QE (ZD.mk kW kH kP) p).map Part.enc) (!Wm (ZD.mk kW kH kP) p) false]):=by
 have hv:=Zba kW kH kP p
 unfold Wm at hv
 unfold QE Wm
 cases hb:Y1 p with
 | none=>
  rw[hb] at hv
  obtain⟨o,a,q,t,ks⟩:=p
  rw[Zh.enc_mk] at hv ⊢
  refine Zd Xs Ms VT Zie (by show 2≤_;decide) ?_
  simp +contextual -implicitDefEqProofs (maxSteps:=10^7) only[go_sem,seval,↓gZ,VT,hv]
  try rfl
 | some b=>
  have hp:=Zi6 hb
  rw[hb] at hv
  dsimp only at hv ⊢
  by_cases hh:(decide (VW (ZD.mk kW kH kP))&&decide (b.cnt≤255)&&YM kP b kW kH)=true
  ·have hh':=hh
   simp only[Bool.and_eq_true,decide_eq_true_eq] at hh'
   have hw:=hh'.1.1
   simp only[VW] at hw
   have hpt:=Zql kP b 0 0 kW kH (by simp only[inB];omega) hh'.2 (by omega)
   rw[← hp] at hpt
   rw[hh] at hv ⊢
   obtain⟨o,a,q,t,ks⟩:=p
   rw[Zh.enc_mk] at hv hpt ⊢
   refine Zd Xs Ms VT Zie (by show 2≤_;decide) ?_
   simp +contextual -implicitDefEqProofs (maxSteps:=10^7) only[go_sem,seval,↓gZ,VT,Zds,hv,hpt]
   try rfl
  ·have hf:=(Bool.not_eq_true _).mp hh
   rw[hf] at hv ⊢
   obtain⟨o,a,q,t,ks⟩:=p
   rw[Zh.enc_mk] at hv ⊢
   refine Zd Xs Ms VT Zie (by show 2≤_;decide) ?_
   simp +contextual -implicitDefEqProofs (maxSteps:=10^7) only[go_sem,seval,↓gZ,VT,hv]
   try rfl
theorem Zb2 (k:ZD) (p:Zh):(QE k p).length≤255:=by
 unfold QE
 split
 ·split
  ·rename_i h
   simp only[Bool.and_eq_true,decide_eq_true_eq] at h
   rw[ZaY];exact h.1.2
  ·simp
 ·simp
theorem Ze4 (kW kH:Int) (kP:List Pane) (p:Zh):Zg Xs Ms VJ [(.d (.agg [J kW,J kH,.sl (kP.map Pane.enc)])),.d p.enc] []=some (.own 0,[.row 6 (((QE (ZD.mk kW kH kP) p).filterMap Xw).map Place.enc) true false]):=by
 have hv:=ZlV kW kH kP p
 have hn:=Zb2 (ZD.mk kW kH kP) p
 generalize (!Wm (ZD.mk kW kH kP) p)=e at hv
 generalize QE (ZD.mk kW kH kP) p=ps at hv hn ⊢
 obtain⟨o,a,q,t,ks⟩:=p
 rw[Zh.enc_mk] at hv ⊢
 refine Zd Xs Ms Zbl Zuo (by show 2≤_;decide) ?_
 simp +contextual -implicitDefEqProofs (maxSteps:=10^7) only[go_sem,seval,↓gZ,Zbl,hv]
 refine Zr Xs Ms (st0:=?st0) (α:=Nat) (fun k=>[(12,.d (J (k:Int)))]) (fun k=>[(1,.row 6 (((ps.take k).filterMap Xw).map Place.enc) true false)]) (fun k=>k≤ps.length) (fun k=>ps.length-k) 0 ?hc (by omega) ?h0 ?step
 case hc=>simp +contextual -implicitDefEqProofs (maxSteps:=10^7) only[go_sem,seval,↓gZ];exact rfl
 case h0=>rfl
 case step=>
  intro k hk ih
  by_cases hlt:k<ps.length
  ·obtain⟨x,hx⟩:=Zp hlt
   have hw:=Zl (k:=k) (by omega)
   have hm:=Zcl (f:=Xw) hx
   have hfl:((ps.take k).filterMap Xw).length≤k:=Nat.le_trans (List.length_filterMap_le _ _) (by simp;omega)
   have hr:(((ps.take k).filterMap Xw).length+1)*48≤140737488355328∧((ps.take k).filterMap Xw).length≤140737488355327:=by omega
   obtain⟨⟨o',a',q',t',ks'⟩,⟨X,Y,W,H⟩⟩:=x
   simp only[Xw] at hm
   by_cases ho:o'=1
   ·rw[if_pos ho] at hm
    simp +contextual -implicitDefEqProofs (maxSteps:=10^7) only[go_sem,seval,↓gZ,hx,hlt,hw,ho,hr]
    refine ih (k+1) _ (by omega) (by omega) ?_
    simp +contextual -implicitDefEqProofs (maxSteps:=10^7) only[go_sem,seval,↓gZ,hm]
    first | rfl | (simp;done) | (simp;rfl)
   ·rw[if_neg ho] at hm
    simp +contextual -implicitDefEqProofs (maxSteps:=10^7) only[go_sem,seval,↓gZ,hx,hlt,hw,ho,hr]
    refine ih (k+1) _ (by omega) (by omega) ?_
    simp +contextual -implicitDefEqProofs (maxSteps:=10^7) only[go_sem,seval,↓gZ,hm]
    first | rfl | (simp;done) | (simp;rfl)
  ·have:k=ps.length:=by omega
   subst this
   simp +contextual -implicitDefEqProofs (maxSteps:=10^7) only[go_sem,seval,↓gZ]
   simp
theorem ZjE (kW kH:Int) (kP:List Pane) (p:Zh):Zg Xs Ms W0 [(.d (.agg [J kW,J kH,.sl (kP.map Pane.enc)])),.d p.enc] []=some (.own 0,[.row 4 (((QE (ZD.mk kW kH kP) p).filterMap YE).map Box.enc) true false]):=by
 have hv:=ZlV kW kH kP p
 have hn:=Zb2 (ZD.mk kW kH kP) p
 generalize (!Wm (ZD.mk kW kH kP) p)=e at hv
 generalize QE (ZD.mk kW kH kP) p=ps at hv hn ⊢
 obtain⟨o,a,q,t,ks⟩:=p
 rw[Zh.enc_mk] at hv ⊢
 refine Zd Xs Ms Zbz ZuE (by show 2≤_;decide) ?_
 simp +contextual -implicitDefEqProofs (maxSteps:=10^7) only[go_sem,seval,↓gZ,Zbz,hv]
 refine Zr Xs Ms (st0:=?st0) (α:=Nat) (fun k=>[(12,.d (J (k:Int)))]) (fun k=>[(1,.row 4 (((ps.take k).filterMap YE).map Box.enc) true false)]) (fun k=>k≤ps.length) (fun k=>ps.length-k) 0 ?hc (by omega) ?h0 ?step
 case hc=>simp +contextual -implicitDefEqProofs (maxSteps:=10^7) only[go_sem,seval,↓gZ];exact rfl
 case h0=>rfl
 case step=>
  intro k hk ih
  by_cases hlt:k<ps.length
  ·obtain⟨x,hx⟩:=Zp hlt
   have hw:=Zl (k:=k) (by omega)
   have hm:=Zcl (f:=YE) hx
   have hfl:((ps.take k).filterMap YE).length≤k:=Nat.le_trans (List.length_filterMap_le _ _) (by simp;omega)
   have hr:(((ps.take k).filterMap YE).length+1)*32≤140737488355328∧((ps.take k).filterMap YE).length≤140737488355327:=by omega
   obtain⟨⟨o',a',q',t',ks'⟩,⟨X,Y,W,H⟩⟩:=x
   simp only[YE] at hm
   by_cases ho:o'=0
   ·rw[if_pos ho] at hm
    simp +contextual -implicitDefEqProofs (maxSteps:=10^7) only[go_sem,seval,↓gZ,hx,hlt,hw,ho,hr]
    refine ih (k+1) _ (by omega) (by omega) ?_
    simp +contextual -implicitDefEqProofs (maxSteps:=10^7) only[go_sem,seval,↓gZ,hm]
    first | rfl | (simp;done) | (simp;rfl)
   ·rw[if_neg ho] at hm
    simp +contextual -implicitDefEqProofs (maxSteps:=10^7) only[go_sem,seval,↓gZ,hx,hlt,hw,ho,hr]
    refine ih (k+1) _ (by omega) (by omega) ?_
    simp +contextual -implicitDefEqProofs (maxSteps:=10^7) only[go_sem,seval,↓gZ,hm]
    first | rfl | (simp;done) | (simp;rfl)
  ·have:k=ps.length:=by omega
   subst this
   simp +contextual -implicitDefEqProofs (maxSteps:=10^7) only[go_sem,seval,↓gZ]
   simp
theorem ZaK (ps:List Pane):∀ (b:BT) (gX gY gW gH:Int),inB (Box.mk gX gY gW gH)→YM ps b gW gH=true→b.cnt≤1000 →
  Zg Xs Ms Vf [.d b.plan.enc,(.d (.agg [J gX,J gY,J gW,J gH]))] []=some (.own 0,[.row 6 ((sp b gX gY gW gH).map Place.enc) true false])
 | .waste,gX,gY,gW,gH,hg,hf,hl=>by
  simp only[BT.plan,Zh.enc_mk,sp]
  refine Zd Xs Ms Vl ZgC (by show 2≤_;decide) ?_
  simp +contextual -implicitDefEqProofs (maxSteps:=10^7) only[go_sem,seval,↓gZ,Vl]
  try rfl
 | .pane i t,gX,gY,gW,gH,hg,hf,hl=>by
  simp only[BT.plan,Zh.enc_mk,sp]
  refine Zd Xs Ms Vl ZgC (by show 2≤_;decide) ?_
  simp +contextual -implicitDefEqProofs (maxSteps:=10^7) only[go_sem,seval,↓gZ,Vl]
  try rfl
 | .cut d a l r,gX,gY,gW,gH,hg,hf,hl=>by
  simp only[BT.cnt] at hl
  simp only[inB] at hg
  simp only[BT.plan,Zh.enc_mk]
  cases d with
  | true=>
   simp only[YM,Bool.and_eq_true,decide_eq_true_eq,if_true] at hf
   have w1:=wi (gX+a) (by omega) (by omega)
   have w2:=wi (gW-a) (by omega) (by omega)
   have l1:=ZeY l gX gY a gH
   have l2:=ZeY r (gX+a) gY (gW-a) gH
   have e1:=ZaK ps l gX gY a gH (by simp only[inB];omega) hf.1.2 (by omega)
   have e2:=ZaK ps r (gX+a) gY (gW-a) gH (by simp only[inB];omega) hf.2 (by omega)
   have h1:((sp l gX gY a gH).length+(sp r (gX+a) gY (gW-a) gH).length)*48≤140737488355328∧(sp l gX gY a gH).length+(sp r (gX+a) gY (gW-a) gH).length≤140737488355328:=by omega
   refine Zd Xs Ms Vl ZgC (by show 2≤_;decide) ?_
   simp +contextual -implicitDefEqProofs (maxSteps:=10^7) only[go_sem,seval,↓gZ,Vl,QF,w1,w2,h1,e1,e2]
   simp[sp]
  | false=>
   simp only[YM,Bool.and_eq_true,decide_eq_true_eq,Bool.false_eq_true,if_false] at hf
   have w1:=wi (gY+a) (by omega) (by omega)
   have w2:=wi (gH-a) (by omega) (by omega)
   have l1:=ZeY l gX gY gW a
   have l2:=ZeY r gX (gY+a) gW (gH-a)
   have e1:=ZaK ps l gX gY gW a (by simp only[inB];omega) hf.1.2 (by omega)
   have e2:=ZaK ps r gX (gY+a) gW (gH-a) (by simp only[inB];omega) hf.2 (by omega)
   have h1:((sp l gX gY gW a).length+(sp r gX (gY+a) gW (gH-a)).length)*48≤140737488355328∧(sp l gX gY gW a).length+(sp r gX (gY+a) gW (gH-a)).length≤140737488355328:=by omega
   refine Zd Xs Ms Vl ZgC (by show 2≤_;decide) ?_
   simp +contextual -implicitDefEqProofs (maxSteps:=10^7) only[go_sem,seval,↓gZ,Vl,QF,w1,w2,h1,e1,e2]
   simp[sp]
theorem Zcp (qL qW qH:Int) (qF:List Box):Zg Xs Ms VL [(.d (.agg [J qL,J qW,J qH,.sl (qF.map Box.enc)]))] []=some (.d (.agg [J 0,J 0,J qW,J qH]),[]):=by
 refine Zd Xs Ms Zbn Zur (by show 1≤_;decide) ?_
 simp +contextual -implicitDefEqProofs (maxSteps:=10^7) only[go_sem,seval,↓gZ,Zbn]
theorem Xj (qL qW qH:Int) (qF:List Box):Zg Xs Ms Xe [(.d (.agg [J qL,J qW,J qH,.sl (qF.map Box.enc)]))] []=some ((.d (.bool (decide (VPc (Zb.mk qL qW qH qF))))),[]):=by
 refine Zd Xs Ms WB Zq6 (by show 1≤_;decide) ?_
 by_cases h0:(((qL<1∨9999<qL)∨¬VB ⟨0,0,qW,qH⟩)∨(6:Int)<qF.length)
 ·simp +contextual -implicitDefEqProofs (maxSteps:=10^7) only[go_sem,seval,↓gZ,WB,Zcp,YV,h0]
  exact Zhw (by simp only[VPc];simp only[VB] at h0;omega)
 ·simp +contextual -implicitDefEqProofs (maxSteps:=10^7) only[go_sem,seval,↓gZ,WB,Zcp,YV,h0]
  have hb:VB ⟨0,0,qW,qH⟩:=by
   refine Decidable.byContradiction fun h=>h0 (.inl (.inr h))
  refine Zr Xs Ms (st0:=?st0) (α:=Nat) (fun k=>[(28,.d (J (k:Int)))]) (fun _=>[]) (fun k=>k≤qF.length∧((∀ f∈qF,Zd2 qW qH f)↔∀ f∈qF.drop k,Zd2 qW qH f)) (fun k=>qF.length-k) 0 ?hc ⟨by omega,by simp⟩ ?h0 ?step
  case hc=>simp +contextual -implicitDefEqProofs (maxSteps:=10^7) only[go_sem,seval,↓gZ];exact rfl
  case h0=>rfl
  case step=>
   intro k ⟨hk,hp⟩ ih
   by_cases hlt:k<qF.length
   ·obtain⟨x,hx⟩:=Zp hlt
    rw[Zfu hx] at hp
    have hw:=Zl (k:=k) (by simp only[VB] at hb h0;omega)
    obtain⟨X,Y,W,H⟩:=x
    simp +contextual -implicitDefEqProofs (maxSteps:=10^7) only[go_sem,seval,↓gZ,hx,hlt,hw,Zcp,Zcn,hb]
    refine⟨fun h=>Zhw (fun hh=>h ((hp.1 hh.2).1)),fun h=>ih (k+1) _ ⟨by omega,?_⟩ (by omega) ?_⟩
    ·rw[hp];exact⟨fun hh=>hh.2,fun hh=>⟨h,hh⟩⟩
    ·simp +contextual -implicitDefEqProofs (maxSteps:=10^7) only[go_sem,seval,↓gZ]
   ·have:k=qF.length:=by omega
    subst this
    simp +contextual -implicitDefEqProofs (maxSteps:=10^7) only[go_sem,seval,↓gZ]
    have hv:∀ f∈qF,Zd2 qW qH f:=hp.2 (by simp)
    exact Zx9 (by simp only[VPc];simp only[VB] at h0;exact⟨by omega,hv⟩)
theorem ZgG (qL qW qH:Int) (qF:List Box) (hl:qF.length<4611686018427387904) (hW:R64 qW) (hH:R64 qH):Zg Xs Ms Vd [(.d (.agg [J qL,J qW,J qH,.sl (qF.map Box.enc)]))] []=some ((.d (.bool (decide (VPc (Zb.mk qL qW qH qF))))),[]):=by
 refine Zd Xs Ms Jb Zrf (by show 1≤_;decide) ?_
 simp +contextual -implicitDefEqProofs (maxSteps:=10^7) only[go_sem,seval,↓gZ,Jb]
 refine Zr Xs Ms (st0:=?st0) (α:=Nat) (fun k=>[(3,.d (J (k:Int)))]) (fun _=>[]) (fun k=>k≤qF.length∧((∀ f∈qF,Zd2 qW qH f)↔∀ f∈qF.drop k,Zd2 qW qH f)) (fun k=>qF.length-k) 0 ?hc ⟨by omega,by simp⟩ ?h0 ?step
 case hc=>simp +contextual -implicitDefEqProofs (maxSteps:=10^7) only[go_sem,seval,↓gZ];exact rfl
 case h0=>rfl
 case step=>
  intro k ⟨hk,hp⟩ ih
  by_cases hlt:k<qF.length
  ·obtain⟨x,hx⟩:=Zp hlt
   rw[Zfu hx] at hp
   have hw:=Zl (k:=k) (by omega)
   obtain⟨X,Y,W,H⟩:=x
   by_cases hv:VB ⟨X,Y,W,H⟩
   ·have hi:=ZrE X Y W H 0 0 qW qH hv ⟨by omega,by omega⟩ ⟨by omega,by omega⟩ (by simpa using hW) (by simpa using hH)
    simp +contextual -implicitDefEqProofs (maxSteps:=10^7) only[go_sem,seval,↓gZ,hx,hlt,hw,ZjC,hi,hv]
    refine⟨fun h=>Zhw (fun hh=>h ((hp.1 hh.2).1.2)),fun h=>ih (k+1) _ ⟨by omega,?_⟩ (by omega) ?_⟩
    ·rw[hp];exact⟨fun hh=>hh.2,fun hh=>⟨⟨hv,h⟩,hh⟩⟩
    ·simp +contextual -implicitDefEqProofs (maxSteps:=10^7) only[go_sem,seval,↓gZ]
   ·simp +contextual -implicitDefEqProofs (maxSteps:=10^7) only[go_sem,seval,↓gZ,hx,hlt,hw,ZjC,hv]
    exact Zhw (fun hh=>hv ((hp.1 hh.2).1.1))
  ·have:k=qF.length:=by omega
   subst this
   simp +contextual -implicitDefEqProofs (maxSteps:=10^7) only[go_sem,seval,↓gZ,ZQ]
   have hv:∀ f∈qF,Zd2 qW qH f:=hp.2 (by simp)
   exact Zdd (by simp only[VPc];exact⟨fun h=>⟨by omega,hv⟩,fun h=>by omega⟩)
theorem ZhU (fs:List Box) (bX bY bW bH:Int) (hf:∀ f∈fs,VB f) (hb:VB (Box.mk bX bY bW bH)) (hl:fs.length<4611686018427387904):Zg Xs Ms V5 [(.d (.sl (fs.map Box.enc))),(.d (.agg [J bX,J bY,J bW,J bH]))] []=some ((.d (.bool (!decide (Qg fs (Box.mk bX bY bW bH))))),[]):=by
 refine Zd Xs Ms Zab Zr9 (by show 2≤_;decide) ?_
 simp +contextual -implicitDefEqProofs (maxSteps:=10^7) only[go_sem,seval,↓gZ,Zab]
 refine Zr Xs Ms (st0:=?st0) (α:=Nat) (fun k=>[(11,.d (J (k:Int)))]) (fun _=>[]) (fun k=>k≤fs.length∧(Qg fs (Box.mk bX bY bW bH)↔Qg (fs.drop k) (Box.mk bX bY bW bH))) (fun k=>fs.length-k) 0 ?hc ⟨by omega,by simp⟩ ?h0 ?step
 case hc=>simp +contextual -implicitDefEqProofs (maxSteps:=10^7) only[go_sem,seval,↓gZ];exact rfl
 case h0=>rfl
 case step=>
  intro k ⟨hk,hp⟩ ih
  by_cases hlt:k<fs.length
  ·obtain⟨x,hx⟩:=Zp hlt
   have hx':=hx
   unfold Qg at hp
   rw[Zfu hx (fun f=>¬YS f (Box.mk bX bY bW bH))] at hp
   have hw:=Zl (k:=k) (by omega)
   have hvx:=hf x (List.mem_of_getElem? hx)
   obtain⟨X,Y,W,H⟩:=x
   by_cases hm:YS ⟨X,Y,W,H⟩ (Box.mk bX bY bW bH)
   ·simp +contextual -implicitDefEqProofs (maxSteps:=10^7) only[go_sem,seval,↓gZ,hx,hlt,hw,Zdr X Y W H bX bY bW bH hvx hb hm]
    have:¬Qg fs (Box.mk bX bY bW bH):=fun hh=>(hp.1 hh).1 hm
    simp[this]
   ·simp +contextual -implicitDefEqProofs (maxSteps:=10^7) only[go_sem,seval,↓gZ,hx,hlt,hw,ZeG X Y W H bX bY bW bH (fun hh=>hm hh.2.2)]
    refine ih (k+1) _ ⟨by omega,?_⟩ (by omega) ?_
    ·unfold Qg;rw[hp];exact⟨fun hh=>hh.2,fun hh=>⟨hm,hh⟩⟩
    ·simp +contextual -implicitDefEqProofs (maxSteps:=10^7) only[go_sem,seval,↓gZ]
  ·have:k=fs.length:=by omega
   subst this
   simp +contextual -implicitDefEqProofs (maxSteps:=10^7) only[go_sem,seval,↓gZ]
   have:Qg fs (Box.mk bX bY bW bH):=hp.2 (by simp[Qg])
   simp[this]
theorem ZlW (qL qW qH:Int) (qF:List Box) (bX bY bW bH:Int) (hf:∀ f∈qF,VB f) (hb:VB (Box.mk bX bY bW bH)) (hl:qF.length<4611686018427387904):Zg Xs Ms UX [(.d (.agg [J qL,J qW,J qH,.sl (qF.map Box.enc)])),(.d (.agg [J bX,J bY,J bW,J bH]))] []=some ((.d (.bool (decide (Qg qF (Box.mk bX bY bW bH))))),[]):=by
 refine Zd Xs Ms ZcR Zwr (by show 2≤_;decide) ?_
 simp +contextual -implicitDefEqProofs (maxSteps:=10^7) only[go_sem,seval,↓gZ,ZcR]
 refine Zr Xs Ms (st0:=?st0) (α:=Nat) (fun k=>[(5,.d (J (k:Int)))]) (fun _=>[]) (fun k=>k≤qF.length∧(Qg qF (Box.mk bX bY bW bH)↔Qg (qF.drop k) (Box.mk bX bY bW bH))) (fun k=>qF.length-k) 0 ?hc ⟨by omega,by simp⟩ ?h0 ?step
 case hc=>simp +contextual -implicitDefEqProofs (maxSteps:=10^7) only[go_sem,seval,↓gZ];exact rfl
 case h0=>rfl
 case step=>
  intro k ⟨hk,hp⟩ ih
  by_cases hlt:k<qF.length
  ·obtain⟨x,hx⟩:=Zp hlt
   unfold Qg at hp
   rw[Zfu hx (fun f=>¬YS f (Box.mk bX bY bW bH))] at hp
   have hw:=Zl (k:=k) (by omega)
   have hvx:=hf x (List.mem_of_getElem? hx)
   obtain⟨X,Y,W,H⟩:=x
   by_cases hm:YS ⟨X,Y,W,H⟩ (Box.mk bX bY bW bH)
   ·simp +contextual -implicitDefEqProofs (maxSteps:=10^7) only[go_sem,seval,↓gZ,hx,hlt,hw,ZlT X Y W H bX bY bW bH hvx hb hm]
    have:¬Qg qF (Box.mk bX bY bW bH):=fun hh=>(hp.1 hh).1 hm
    simp[this]
   ·simp +contextual -implicitDefEqProofs (maxSteps:=10^7) only[go_sem,seval,↓gZ,hx,hlt,hw,ZnY X Y W H bX bY bW bH hvx hb hm]
    refine ih (k+1) _ ⟨by omega,?_⟩ (by omega) ?_
    ·unfold Qg;rw[hp];exact⟨fun hh=>hh.2,fun hh=>⟨hm,hh⟩⟩
    ·simp +contextual -implicitDefEqProofs (maxSteps:=10^7) only[go_sem,seval,↓gZ]
  ·have:k=qF.length:=by omega
   subst this
   simp +contextual -implicitDefEqProofs (maxSteps:=10^7) only[go_sem,seval,↓gZ]
   have:Qg qF (Box.mk bX bY bW bH):=hp.2 (by simp[Qg])
   simp[this]
theorem ZjF (kW kH:Int) (kP:List Pane) (p:Zh) (b:BT) (hp:p=b.plan) (hg:inB ⟨0,0,kW,kH⟩) (hf:YM kP b kW kH=true) (hl:b.cnt≤1000):Zg Xs Ms W2 [(.d (.agg [J kW,J kH,.sl (kP.map Pane.enc)])),.d p.enc] []=some (.own 0,[.row 6 ((plc b 0 0 kW kH).map Place.enc) true false]):=by
 have e:=ZaK kP b 0 0 kW kH hg hf hl
 have hm:=ZmN b 0 0 kW kH (Zi4 hf)
 have hn:=ZeY b 0 0 kW kH
 rw[← hp] at e
 rw[← hm]
 clear hm
 generalize sp b 0 0 kW kH=S at e hn ⊢
 clear hp hf hg
 obtain⟨o,a,q,t,ks⟩:=p
 rw[Zh.enc_mk] at e ⊢
 refine Zd Xs Ms ZbF ZuK (by show 2≤_;decide) ?_
 simp +contextual -implicitDefEqProofs (maxSteps:=10^7) only[go_sem,seval,↓gZ,ZbF,e]
 refine Zr Xs Ms (st0:=?st0) (α:=Nat) (fun i=>[(7,.d (J (i:Int)))]) (fun i=>[(1,.row 6 (((S.take i).filterMap Zez).map Place.enc) true false)]) (fun i=>i≤S.length) (fun i=>S.length-i) 0 ?hc (by omega) ?h0 ?step
 case hc=>simp +contextual -implicitDefEqProofs (maxSteps:=10^7) only[go_sem,seval,↓gZ];exact rfl
 case h0=>rfl
 case step=>
  intro i hi ih
  by_cases hlt:i<S.length
  ·obtain⟨x,hx⟩:=Zp hlt
   have hw:=Zl (k:=i) (by omega)
   have hm:=Zcl (f:=Zez) hx
   have hfl:((S.take i).filterMap Zez).length≤i:=Nat.le_trans (List.length_filterMap_le _ _) (by simp;omega)
   have hr:(((S.take i).filterMap Zez).length+1)*48≤140737488355328∧((S.take i).filterMap Zez).length≤140737488355327:=by omega
   obtain⟨q',t',⟨X,Y,W,H⟩⟩:=x
   simp only[Zez] at hm
   by_cases ho:0≤q'
   ·rw[if_pos ho] at hm
    simp +contextual -implicitDefEqProofs (maxSteps:=10^7) only[go_sem,seval,↓gZ,hx,hlt,hw,ho,hr]
    refine ih (i+1) _ (by omega) (by omega) ?_
    simp +contextual -implicitDefEqProofs (maxSteps:=10^7) only[go_sem,seval,↓gZ,hm]
    first | rfl | (simp;done) | (simp;rfl)
   ·rw[if_neg ho] at hm
    simp +contextual -implicitDefEqProofs (maxSteps:=10^7) only[go_sem,seval,↓gZ,hx,hlt,hw,ho,hr]
    refine ih (i+1) _ (by omega) (by omega) ?_
    simp +contextual -implicitDefEqProofs (maxSteps:=10^7) only[go_sem,seval,↓gZ,hm]
    first | rfl | (simp;done) | (simp;rfl)
  ·have:i=S.length:=by omega
   subst this
   simp +contextual -implicitDefEqProofs (maxSteps:=10^7) only[go_sem,seval,↓gZ]
   simp
theorem ZjG (kW kH:Int) (kP:List Pane) (p:Zh) (b:BT) (hp:p=b.plan) (hg:inB ⟨0,0,kW,kH⟩) (hf:YM kP b kW kH=true) (hl:b.cnt≤1000):Zg Xs Ms W1 [(.d (.agg [J kW,J kH,.sl (kP.map Pane.enc)])),.d p.enc] []=some (.own 0,[.row 4 ((wst b 0 0 kW kH).map Box.enc) true false]):=by
 have e:=ZaK kP b 0 0 kW kH hg hf hl
 have hm:=ZmO b 0 0 kW kH (Zi4 hf)
 have hn:=ZeY b 0 0 kW kH
 rw[← hp] at e
 rw[← hm]
 clear hm
 generalize sp b 0 0 kW kH=S at e hn ⊢
 clear hp hf hg
 obtain⟨o,a,q,t,ks⟩:=p
 rw[Zh.enc_mk] at e ⊢
 refine Zd Xs Ms ZbE ZuJ (by show 2≤_;decide) ?_
 simp +contextual -implicitDefEqProofs (maxSteps:=10^7) only[go_sem,seval,↓gZ,ZbE,e]
 refine Zr Xs Ms (st0:=?st0) (α:=Nat) (fun i=>[(7,.d (J (i:Int)))]) (fun i=>[(1,.row 4 (((S.take i).filterMap ZeA).map Box.enc) true false)]) (fun i=>i≤S.length) (fun i=>S.length-i) 0 ?hc (by omega) ?h0 ?step
 case hc=>simp +contextual -implicitDefEqProofs (maxSteps:=10^7) only[go_sem,seval,↓gZ];exact rfl
 case h0=>rfl
 case step=>
  intro i hi ih
  by_cases hlt:i<S.length
  ·obtain⟨x,hx⟩:=Zp hlt
   have hw:=Zl (k:=i) (by omega)
   have hm:=Zcl (f:=ZeA) hx
   have hfl:((S.take i).filterMap ZeA).length≤i:=Nat.le_trans (List.length_filterMap_le _ _) (by simp;omega)
   have hr:(((S.take i).filterMap ZeA).length+1)*32≤140737488355328∧((S.take i).filterMap ZeA).length≤140737488355327:=by omega
   obtain⟨q',t',⟨X,Y,W,H⟩⟩:=x
   simp only[ZeA] at hm
   by_cases ho:q' < 0
   ·rw[if_pos ho] at hm
    simp +contextual -implicitDefEqProofs (maxSteps:=10^7) only[go_sem,seval,↓gZ,hx,hlt,hw,ho,hr]
    refine ih (i+1) _ (by omega) (by omega) ?_
    simp +contextual -implicitDefEqProofs (maxSteps:=10^7) only[go_sem,seval,↓gZ,hm]
    first | rfl | (simp;done) | (simp;rfl)
   ·rw[if_neg ho] at hm
    simp +contextual -implicitDefEqProofs (maxSteps:=10^7) only[go_sem,seval,↓gZ,hx,hlt,hw,ho,hr]
    refine ih (i+1) _ (by omega) (by omega) ?_
    simp +contextual -implicitDefEqProofs (maxSteps:=10^7) only[go_sem,seval,↓gZ,hm]
    first | rfl | (simp;done) | (simp;rfl)
  ·have:i=S.length:=by omega
   subst this
   simp +contextual -implicitDefEqProofs (maxSteps:=10^7) only[go_sem,seval,↓gZ]
   simp
theorem ZrH (qL qW qH:Int) (qF:List Box) (kW kH:Int) (kP:List Pane) (p:Zh):Zg Xs Ms Jp [(.d (.agg [J qL,J qW,J qH,.sl (qF.map Box.enc)])),(.d (.agg [J kW,J kH,.sl (kP.map Pane.enc)])),.d p.enc] []=some ((.d (.bool (decide (VPc (Zb.mk qL qW qH qF)∧WG (Zb.mk qL qW qH qF) (ZD.mk kW kH kP) p)))),[]):=by
 have ev:=Zba kW kH kP p
 by_cases hq:VPc (Zb.mk qL qW qH qF)
 ·by_cases hv:Wm (ZD.mk kW kH kP) p=true
  ·by_cases hw:kW=qW
   ·by_cases hh:kH=qH
    ·subst hw;subst hh
     have ep:=Ze4 kW kH kP p
     obtain⟨b,hb,hpb,hvw,hcnt,hfit,hpt⟩:=Xp hv
     have hbox:∀ c∈(QE (ZD.mk kW kH kP) p).filterMap Xw,VB c.Box:=by
      rw[hpt,Vq];exact ZlB (p:=p) hvw hfit
     have hlen:((QE (ZD.mk kW kH kP) p).filterMap Xw).length≤255:=Nat.le_trans (List.length_filterMap_le _ _) (Zb2 _ _)
     have hgood:WG ⟨qL,kW,kH,qF⟩ (ZD.mk kW kH kP) p↔∀ c∈(QE (ZD.mk kW kH kP) p).filterMap Xw,Qg qF c.Box:=by
      unfold WG;exact⟨fun h=>h.2.2.2,fun h=>⟨hv,rfl,rfl,h⟩⟩
     have hfl:∀ f∈qF,VB f:=fun f hf=>(hq.2 f hf).1
     have hq6:qF.length≤6:=hq.1.2.2.2.2.2.2
     rw[hv] at ev
     generalize hL:(QE (ZD.mk kW kH kP) p).filterMap Xw=L at ep hbox hlen hgood
     clear hL hpt hpb hb
     obtain⟨o,a,n,t,ks⟩:=p
     rw[Zh.enc_mk] at ev ep ⊢
     refine Zd Xs Ms QY Zbi (by show 3≤_;decide) ?_
     simp +contextual -implicitDefEqProofs (maxSteps:=10^7) only[go_sem,seval,↓gZ,QY,Xj,hq,ev,ep]
     refine Zr Xs Ms (st0:=?st0) (α:=Nat) (fun i=>[(36,.d (J (i:Int)))]) (fun _=>[]) (fun i=>i≤L.length∧((∀ c∈L,Qg qF c.Box)↔∀ c∈L.drop i,Qg qF c.Box)) (fun i=>L.length-i) 0 ?hc ⟨by omega,by simp⟩ ?h0 ?step
     case hc=>simp +contextual -implicitDefEqProofs (maxSteps:=10^7) only[go_sem,seval,↓gZ];exact rfl
     case h0=>rfl
     case step=>
      intro i ⟨hi,hp⟩ ih
      by_cases hlt:i<L.length
      ·obtain⟨x,hx⟩:=Zp hlt
       rw[Zfu hx (fun c=>Qg qF c.Box)] at hp
       have hw:=Zl (k:=i) (by omega)
       have hbx:=hbox x (List.mem_of_getElem? hx)
       obtain⟨q',t',⟨X,Y,W,H⟩⟩:=x
       have em:=ZhU qF X Y W H hfl hbx (by omega)
       simp +contextual -implicitDefEqProofs (maxSteps:=10^7) only[go_sem,seval,↓gZ,hx,hlt,hw,em]
       refine⟨fun h=>Zhw (fun h'=>h ((hp.1 (hgood.1 h')).1)),fun h=>ih (i+1) _ ⟨by omega,?_⟩ (by omega) ?_⟩
       ·rw[hp];exact⟨fun h'=>h'.2,fun h'=>⟨h,h'⟩⟩
       ·simp +contextual -implicitDefEqProofs (maxSteps:=10^7) only[go_sem,seval,↓gZ]
      ·have:i=L.length:=by omega
       subst this
       simp +contextual -implicitDefEqProofs (maxSteps:=10^7) only[go_sem,seval,↓gZ]
       exact Zx9 (hgood.2 (hp.2 (by simp)))
    ·subst hw
     have hn:¬WG ⟨qL,kW,qH,qF⟩ (ZD.mk kW kH kP) p:=fun h=>hh h.2.2.1
     obtain⟨o,a,n,t,ks⟩:=p
     rw[hv] at ev
     rw[Zh.enc_mk] at ev ⊢
     refine Zd Xs Ms QY Zbi (by show 3≤_;decide) ?_
     simp +contextual -implicitDefEqProofs (maxSteps:=10^7) only[go_sem,seval,↓gZ,QY,Xj,hq,ev,hh,hn]
   ·have hn:¬WG (Zb.mk qL qW qH qF) (ZD.mk kW kH kP) p:=fun h=>hw h.2.1
    obtain⟨o,a,n,t,ks⟩:=p
    rw[hv] at ev
    rw[Zh.enc_mk] at ev ⊢
    refine Zd Xs Ms QY Zbi (by show 3≤_;decide) ?_
    simp +contextual -implicitDefEqProofs (maxSteps:=10^7) only[go_sem,seval,↓gZ,QY,Xj,hq,ev,hw,hn]
  ·have hv':=(Bool.not_eq_true _).mp hv
   have hn:¬WG (Zb.mk qL qW qH qF) (ZD.mk kW kH kP) p:=fun h=>hv h.1
   rw[hv'] at ev
   obtain⟨o,a,n,t,ks⟩:=p
   rw[Zh.enc_mk] at ev ⊢
   refine Zd Xs Ms QY Zbi (by show 3≤_;decide) ?_
   simp +contextual -implicitDefEqProofs (maxSteps:=10^7) only[go_sem,seval,↓gZ,QY,Xj,hq,ev,hn]
 ·obtain⟨o,a,n,t,ks⟩:=p
  rw[Zh.enc_mk] at ev ⊢
  refine Zd Xs Ms QY Zbi (by show 3≤_;decide) ?_
  simp +contextual -implicitDefEqProofs (maxSteps:=10^7) only[go_sem,seval,↓gZ,QY,Xj,hq]
theorem ZjH (qL qW qH:Int) (qF:List Box) (kW kH:Int) (kP:List Pane) (p:Zh) (hfl:∀ f∈qF,VB f) (hq6:qF.length≤6) (hl:kP.length<4611686018427387904):Zg Xs Ms JF [(.d (.agg [J qL,J qW,J qH,.sl (qF.map Box.enc)])),(.d (.agg [J kW,J kH,.sl (kP.map Pane.enc)])),.d p.enc] []=some ((.d (.bool (decide (WG (Zb.mk qL qW qH qF) (ZD.mk kW kH kP) p)))),[]):=by
 have ev:=ZhT kW kH kP p hl
 by_cases hv:Wm (ZD.mk kW kH kP) p=true
 ·by_cases hw:kW=qW
  ·by_cases hh:kH=qH
   ·subst hw;subst hh
    obtain⟨b,hb,hpb,hvw,hcnt,hfit,hpt⟩:=Xp hv
    have hvw':=hvw
    simp only[VW] at hvw'
    have ep:=ZjF kW kH kP p b hpb (by simp only[inB];omega) hfit (by omega)
    have hbox:∀ c∈plc b 0 0 kW kH,VB c.Box:=ZlB (p:=p) hvw hfit
    have hlen:(plc b 0 0 kW kH).length≤255:=by
     rw[← Vq];exact Nat.le_trans (List.length_filterMap_le _ _) (by rw[ZaY];exact hcnt)
    have hgood:WG ⟨qL,kW,kH,qF⟩ (ZD.mk kW kH kP) p↔∀ c∈plc b 0 0 kW kH,Qg qF c.Box:=by
     unfold WG;rw[hpt,Vq];exact⟨fun h=>h.2.2.2,fun h=>⟨hv,rfl,rfl,h⟩⟩
    rw[hv] at ev
    generalize plc b 0 0 kW kH=L at ep hbox hlen hgood
    clear hpt hpb hb
    obtain⟨o,a,n,t,ks⟩:=p
    rw[Zh.enc_mk] at ev ep ⊢
    refine Zd Xs Ms X3 ZdA (by show 3≤_;decide) ?_
    simp +contextual -implicitDefEqProofs (maxSteps:=10^7) only[go_sem,seval,↓gZ,X3,ev,ep]
    refine Zr Xs Ms (st0:=?st0) (α:=Nat) (fun i=>[(8,.d (J (i:Int)))]) (fun _=>[]) (fun i=>i≤L.length∧((∀ c∈L,Qg qF c.Box)↔∀ c∈L.drop i,Qg qF c.Box)) (fun i=>L.length-i) 0 ?hc ⟨by omega,by simp⟩ ?h0 ?step
    case hc=>simp +contextual -implicitDefEqProofs (maxSteps:=10^7) only[go_sem,seval,↓gZ];exact rfl
    case h0=>rfl
    case step=>
     intro i ⟨hi,hp⟩ ih
     by_cases hlt:i<L.length
     ·obtain⟨x,hx⟩:=Zp hlt
      rw[Zfu hx (fun c=>Qg qF c.Box)] at hp
      have hw:=Zl (k:=i) (by omega)
      have hbx:=hbox x (List.mem_of_getElem? hx)
      obtain⟨q',t',⟨X,Y,W,H⟩⟩:=x
      have em:=ZlW qL kW kH qF X Y W H hfl hbx (by omega)
      simp +contextual -implicitDefEqProofs (maxSteps:=10^7) only[go_sem,seval,↓gZ,hx,hlt,hw,em]
      refine⟨fun h=>Zhw (fun h'=>h ((hp.1 (hgood.1 h')).1)),fun h=>ih (i+1) _ ⟨by omega,?_⟩ (by omega) ?_⟩
      ·rw[hp];exact⟨fun h'=>h'.2,fun h'=>⟨h,h'⟩⟩
      ·simp +contextual -implicitDefEqProofs (maxSteps:=10^7) only[go_sem,seval,↓gZ]
     ·have:i=L.length:=by omega
      subst this
      simp +contextual -implicitDefEqProofs (maxSteps:=10^7) only[go_sem,seval,↓gZ]
      exact Zx9 (hgood.2 (hp.2 (by simp)))
   ·subst hw
    have hn:¬WG ⟨qL,kW,qH,qF⟩ (ZD.mk kW kH kP) p:=fun h=>hh h.2.2.1
    obtain⟨o,a,n,t,ks⟩:=p
    rw[hv] at ev
    rw[Zh.enc_mk] at ev ⊢
    refine Zd Xs Ms X3 ZdA (by show 3≤_;decide) ?_
    simp +contextual -implicitDefEqProofs (maxSteps:=10^7) only[go_sem,seval,↓gZ,X3,ev,hh,hn]
  ·have hn:¬WG (Zb.mk qL qW qH qF) (ZD.mk kW kH kP) p:=fun h=>hw h.2.1
   obtain⟨o,a,n,t,ks⟩:=p
   rw[hv] at ev
   rw[Zh.enc_mk] at ev ⊢
   refine Zd Xs Ms X3 ZdA (by show 3≤_;decide) ?_
   simp +contextual -implicitDefEqProofs (maxSteps:=10^7) only[go_sem,seval,↓gZ,X3,ev,hw,hn]
 ·have hv':=(Bool.not_eq_true _).mp hv
  have hn:¬WG (Zb.mk qL qW qH qF) (ZD.mk kW kH kP) p:=fun h=>hv h.1
  rw[hv'] at ev
  obtain⟨o,a,n,t,ks⟩:=p
  rw[Zh.enc_mk] at ev ⊢
  refine Zd Xs Ms X3 ZdA (by show 3≤_;decide) ?_
  simp +contextual -implicitDefEqProofs (maxSteps:=10^7) only[go_sem,seval,↓gZ,X3,ev,hn]
theorem ZvR (qL qW qH:Int) (qF:List Box) (bX bY bW bH:Int) (label:Int) (hq:VPc (Zb.mk qL qW qH qF)) (hb:VB (Box.mk bX bY bW bH)) (hi:QP (Box.mk bX bY bW bH) ⟨0,0,qW,qH⟩) (h1:1≤label) (h2:label≤9999) :
  Zg Xs Ms Zce [(.d (.agg [J qL,J qW,J qH,.sl (qF.map Box.enc)])),(.d (.agg [J bX,J bY,J bW,J bH])),(.d (J label))] []=some (.agg [(.d (J label)),(.d (J bW)),(.d (J bH)),.own 0],[.row 4 ((qF.filterMap (Vx (Box.mk bX bY bW bH))).map Box.enc) true false]):=by
 have hq':=hq.1
 simp only at hq'
 have n1:¬label<1:=by omega
 have n2:¬9999<label:=by omega
 have hvb:VB ⟨0,0,qW,qH⟩:=by simp only[VB];omega
 refine Zd Xs Ms Zem ZxS (by show 3≤_;decide) ?_
 simp +contextual -implicitDefEqProofs (maxSteps:=10^7) only[go_sem,seval,↓gZ,Zem,Xj,Zcp,Zcn,hq,hb,hi,hvb,n1,n2]
 refine Zr Xs Ms (st0:=?st0) (α:=Nat) (fun i=>[(40,.d (J (i:Int)))]) (fun i=>[(3,.row 4 (((qF.take i).filterMap (Vx (Box.mk bX bY bW bH))).map Box.enc) true false)]) (fun i=>i≤qF.length) (fun i=>qF.length-i) 0 ?hc (by omega) ?h0 ?step
 case hc=>simp +contextual -implicitDefEqProofs (maxSteps:=10^7) only[go_sem,seval,↓gZ];exact rfl
 case h0=>rfl
 case step=>
  intro i hk ih
  by_cases hlt:i<qF.length
  ·obtain⟨x,hx⟩:=Zp hlt
   have hw:=Zl (k:=i) (by omega)
   have hm:=Zcl (f:=Vx (Box.mk bX bY bW bH)) hx
   have hfl:((qF.take i).filterMap (Vx (Box.mk bX bY bW bH))).length≤i:=Nat.le_trans (List.length_filterMap_le _ _) (by simp;omega)
   have hr:(((qF.take i).filterMap (Vx (Box.mk bX bY bW bH))).length+1)*32≤140737488355328∧((qF.take i).filterMap (Vx (Box.mk bX bY bW bH))).length≤140737488355327:=by omega
   have hvx:=(hq.2 x (List.mem_of_getElem? hx)).1
   obtain⟨X,Y,W,H⟩:=x
   have hvx':=hvx
   have hb':=hb
   simp only[VB] at hvx' hb'
   simp only[Vx] at hm
   by_cases ho:YS ⟨X,Y,W,H⟩ (Box.mk bX bY bW bH)
   ·rw[if_pos ho] at hm
    have w1:=wi (max X bX-bX) (by omega) (by omega)
    have w2:=wi (max Y bY-bY) (by omega) (by omega)
    simp +contextual -implicitDefEqProofs (maxSteps:=10^7) only[go_sem,seval,↓gZ,hx,hlt,hw,Zdr X Y W H bX bY bW bH hvx hb ho,hr,ZgD,w1,w2]
    refine ih (i+1) _ (by omega) (by omega) ?_
    simp +contextual -implicitDefEqProofs (maxSteps:=10^7) only[go_sem,seval,↓gZ,hm,ZtU,ZgD]
    first | rfl | (simp;done) | (simp;rfl)
   ·rw[if_neg ho] at hm
    simp +contextual -implicitDefEqProofs (maxSteps:=10^7) only[go_sem,seval,↓gZ,hx,hlt,hw,ZeG X Y W H bX bY bW bH (fun hh=>ho hh.2.2),hr]
    refine ih (i+1) _ (by omega) (by omega) ?_
    simp +contextual -implicitDefEqProofs (maxSteps:=10^7) only[go_sem,seval,↓gZ,hm]
    first | rfl | (simp;done) | (simp;rfl)
  ·have:i=qF.length:=by omega
   subst this
   simp +contextual -implicitDefEqProofs (maxSteps:=10^7) only[go_sem,seval,↓gZ]
   try simp
theorem ZvS (qL qW qH:Int) (qF:List Box) (bX bY bW bH:Int) (label:Int) (hf:∀ f∈qF,VB f) (hl:qF.length≤6) (hb:VB (Box.mk bX bY bW bH)) :
  Zg Xs Ms Zcf [(.d (.agg [J qL,J qW,J qH,.sl (qF.map Box.enc)])),(.d (.agg [J bX,J bY,J bW,J bH])),(.d (J label))] []=some (.agg [(.d (J label)),(.d (J bW)),(.d (J bH)),.own 0],[.row 4 ((qF.filterMap (Vx (Box.mk bX bY bW bH))).map Box.enc) true false]):=by
 refine Zd Xs Ms Zen ZxT (by show 3≤_;decide) ?_
 simp +contextual -implicitDefEqProofs (maxSteps:=10^7) only[go_sem,seval,↓gZ,Zen]
 refine Zr Xs Ms (st0:=?st0) (α:=Nat) (fun i=>[(8,.d (J (i:Int)))]) (fun i=>[(4,.row 4 (((qF.take i).filterMap (Vx (Box.mk bX bY bW bH))).map Box.enc) true false)]) (fun i=>i≤qF.length) (fun i=>qF.length-i) 0 ?hc (by omega) ?h0 ?step
 case hc=>simp +contextual -implicitDefEqProofs (maxSteps:=10^7) only[go_sem,seval,↓gZ];exact rfl
 case h0=>rfl
 case step=>
  intro i hk ih
  by_cases hlt:i<qF.length
  ·obtain⟨x,hx⟩:=Zp hlt
   have hw:=Zl (k:=i) (by omega)
   have hm:=Zcl (f:=Vx (Box.mk bX bY bW bH)) hx
   have hfl:((qF.take i).filterMap (Vx (Box.mk bX bY bW bH))).length≤i:=Nat.le_trans (List.length_filterMap_le _ _) (by simp;omega)
   have hr:(((qF.take i).filterMap (Vx (Box.mk bX bY bW bH))).length+1)*32≤140737488355328∧((qF.take i).filterMap (Vx (Box.mk bX bY bW bH))).length≤140737488355327:=by omega
   have hvx:=hf x (List.mem_of_getElem? hx)
   obtain⟨X,Y,W,H⟩:=x
   have hvx':=hvx
   have hb':=hb
   simp only[VB] at hvx' hb'
   simp only[Vx] at hm
   by_cases ho:YS ⟨X,Y,W,H⟩ (Box.mk bX bY bW bH)
   ·rw[if_pos ho] at hm
    have w1:=wi (max X bX-bX) (by omega) (by omega)
    have w2:=wi (max Y bY-bY) (by omega) (by omega)
    simp +contextual -implicitDefEqProofs (maxSteps:=10^7) only[go_sem,seval,↓gZ,hx,hlt,hw,ZlT X Y W H bX bY bW bH hvx hb ho,hr,ZgD,w1,w2]
    refine ih (i+1) _ (by omega) (by omega) ?_
    simp +contextual -implicitDefEqProofs (maxSteps:=10^7) only[go_sem,seval,↓gZ,hm,ZtU,ZgD]
    first | rfl | (simp;done) | (simp;rfl)
   ·rw[if_neg ho] at hm
    simp +contextual -implicitDefEqProofs (maxSteps:=10^7) only[go_sem,seval,↓gZ,hx,hlt,hw,ZnY X Y W H bX bY bW bH hvx hb ho,hr]
    refine ih (i+1) _ (by omega) (by omega) ?_
    simp +contextual -implicitDefEqProofs (maxSteps:=10^7) only[go_sem,seval,↓gZ,hm]
    first | rfl | (simp;done) | (simp;rfl)
  ·have:i=qF.length:=by omega
   subst this
   simp +contextual -implicitDefEqProofs (maxSteps:=10^7) only[go_sem,seval,↓gZ]
   try simp
theorem ZgH (kW kH:Int) (kP:List Pane) (p:Zh) (Zk:Int):Zg Xs Ms Wy [(.d (.agg [J kW,J kH,.sl (kP.map Pane.enc)])),.d p.enc,(.d (J Zk))] []=some (.own 0,[.row 4 ((XB (ZD.mk kW kH kP) p Zk).map Box.enc) true false]):=by
 have hv:=ZjE kW kH kP p
 have hn:((QE (ZD.mk kW kH kP) p).filterMap YE).length≤255:=Nat.le_trans (List.length_filterMap_le _ _) (Zb2 (ZD.mk kW kH kP) p)
 unfold XB
 generalize (QE (ZD.mk kW kH kP) p).filterMap YE=ps at hv hn ⊢
 obtain⟨o,a,q,t,ks⟩:=p
 rw[Zh.enc_mk] at hv ⊢
 refine Zd Xs Ms Je Zrl (by show 3≤_;decide) ?_
 simp +contextual -implicitDefEqProofs (maxSteps:=10^7) only[go_sem,seval,↓gZ,Je,hv]
 refine Zr Xs Ms (st0:=?st0) (α:=Nat) (fun k=>[(14,.d (J (k:Int)))]) (fun k=>[(1,.row 4 (((ps.take k).filterMap (JV Zk)).map Box.enc) true false)]) (fun k=>k≤ps.length) (fun k=>ps.length-k) 0 ?hc (by omega) ?h0 ?step
 case hc=>simp +contextual -implicitDefEqProofs (maxSteps:=10^7) only[go_sem,seval,↓gZ];exact rfl
 case h0=>rfl
 case step=>
  intro k hk ih
  by_cases hlt:k<ps.length
  ·obtain⟨x,hx⟩:=Zp hlt
   have hw:=Zl (k:=k) (by omega)
   have hm:=Zcl (f:=JV Zk) hx
   have hfl:((ps.take k).filterMap (JV Zk)).length≤k:=Nat.le_trans (List.length_filterMap_le _ _) (by simp;omega)
   have hr:(((ps.take k).filterMap (JV Zk)).length+1)*32≤140737488355328∧((ps.take k).filterMap (JV Zk)).length≤140737488355327:=by omega
   obtain⟨X,Y,W,H⟩:=x
   simp only[JV] at hm
   by_cases ho:Zk≤W∧Zk≤H
   ·rw[if_pos ho] at hm
    simp +contextual -implicitDefEqProofs (maxSteps:=10^7) only[go_sem,seval,↓gZ,hx,hlt,hw,ho,hr]
    refine ih (k+1) _ (by omega) (by omega) ?_
    simp +contextual -implicitDefEqProofs (maxSteps:=10^7) only[go_sem,seval,↓gZ,hm]
    first | rfl | (simp;done) | (simp;rfl)
   ·rw[if_neg ho] at hm
    simp +contextual -implicitDefEqProofs (maxSteps:=10^7) only[go_sem,seval,↓gZ,hx,hlt,hw,ho,hr]
    refine ih (k+1) _ (by omega) (by omega) ?_
    simp +contextual -implicitDefEqProofs (maxSteps:=10^7) only[go_sem,seval,↓gZ,hm]
    first | rfl | (simp;done) | (simp;rfl)
  ·have:k=ps.length:=by omega
   subst this
   simp +contextual -implicitDefEqProofs (maxSteps:=10^7) only[go_sem,seval,↓gZ]
   simp
theorem ZlX (qL qW qH:Int) (qF:List Box) (kW kH:Int) (kP:List Pane) (p:Zh) (Zk label:Int) (hq:VPc (Zb.mk qL qW qH qF)) (hv:Wm (ZD.mk kW kH kP) p=true) (hW:kW=qW) (hH:kH=qH) (h1:1≤label) (h2:label≤10000)
  (hk:(XB (ZD.mk kW kH kP) p Zk).length≤10000-label):Zg Xs Ms YI [(.d (.agg [J qL,J qW,J qH,.sl (qF.map Box.enc)])),(.d (.agg [J kW,J kH,.sl (kP.map Pane.enc)])),.d p.enc,(.d (J Zk)),(.d (J label))] [] =
  some (.tup [.own 0,(.d (.bool true))],[.row 4 ((ZaC (Zb.mk qL qW qH qF) label (XB (ZD.mk kW kH kP) p Zk)).map Zb.enc) true false]):=by
 have ek:=ZgH kW kH kP p Zk
 have hin:∀ b∈XB (ZD.mk kW kH kP) p Zk,VB b∧QP b ⟨0,0,qW,qH⟩:=by
  intro b hb
  have:=ZpM (Zk:=Zk) hv b hb
  rw[← hW,← hH];exact this
 have hn:=Zi5 (ZD.mk kW kH kP) p Zk
 generalize XB (ZD.mk kW kH kP) p Zk=L at ek hin hn hk ⊢
 clear hv
 have w0:=wi (10000-label) (by omega) (by omega)
 have n0:¬(10000-label<(L.length:Int)):=by omega
 obtain⟨o,a,n,t,ks⟩:=p
 rw[Zh.enc_mk] at ek ⊢
 refine Zd Xs Ms YJ ZgO (by show 5≤_;decide) ?_
 simp +contextual -implicitDefEqProofs (maxSteps:=10^7) only[go_sem,seval,↓gZ,YJ,ek,w0,n0]
 refine Zr Xs Ms (st0:=?st0) (α:=Nat) (fun i=>[(27,.d (J (i:Int)))]) (fun i=>[(1,.row 4 ((ZaC (Zb.mk qL qW qH qF) label (L.take i)).map Zb.enc) true false)]) (fun i=>i≤L.length) (fun i=>L.length-i) 0 ?hc (by omega) ?h0 ?step
 case hc=>simp +contextual -implicitDefEqProofs (maxSteps:=10^7) only[go_sem,seval,↓gZ];exact rfl
 case h0=>rfl
 case step=>
  intro i hi ih
  by_cases hlt:i<L.length
  ·obtain⟨x,hx⟩:=Zp hlt
   have hw:=Zl (k:=i) (by omega)
   have hm:=Zy3 (Zb.mk qL qW qH qF) label hx
   have hl:(ZaC (Zb.mk qL qW qH qF) label (L.take i)).length=i:=by rw[Zd3];simp;omega
   have hr:(i+1)*48≤140737488355328∧i≤140737488355327:=by omega
   have hx2:=hin x (List.mem_of_getElem? hx)
   have w1:=wi (label+(i:Int)) (by omega) (by omega)
   obtain⟨X,Y,W,H⟩:=x
   have hc:=ZvR qL qW qH qF X Y W H (label+(i:Int)) hq hx2.1 hx2.2 (by omega) (by omega)
   simp +contextual -implicitDefEqProofs (maxSteps:=10^7) only[go_sem,seval,↓gZ,hx,hlt,hw,w1,hc,hl,hr]
   refine ih (i+1) _ (by omega) (by omega) ?_
   simp +contextual -implicitDefEqProofs (maxSteps:=10^7) only[go_sem,seval,↓gZ,hm,ZpL]
   first | rfl | (simp;done) | (simp;rfl)
  ·have:i=L.length:=by omega
   subst this
   simp +contextual -implicitDefEqProofs (maxSteps:=10^7) only[go_sem,seval,↓gZ]
   try simp
theorem Zm8 (qL qW qH:Int) (qF:List Box) (kW kH:Int) (kP:List Pane) (p:Zh) (Zk label:Int) (h1:1≤label) (h2:label≤10000)
  (hk:¬(XB (ZD.mk kW kH kP) p Zk).length≤10000-label):Zg Xs Ms YI [(.d (.agg [J qL,J qW,J qH,.sl (qF.map Box.enc)])),(.d (.agg [J kW,J kH,.sl (kP.map Pane.enc)])),.d p.enc,(.d (J Zk)),(.d (J label))] [] =
  some (.tup [.own 0,(.d (.bool false))],[.row 4 [] true false]):=by
 have ek:=ZgH kW kH kP p Zk
 generalize XB (ZD.mk kW kH kP) p Zk=L at ek hk ⊢
 have w0:=wi (10000-label) (by omega) (by omega)
 have n0:10000-label<(L.length:Int):=by omega
 obtain⟨o,a,n,t,ks⟩:=p
 rw[Zh.enc_mk] at ek ⊢
 refine Zd Xs Ms YJ ZgO (by show 5≤_;decide) ?_
 simp +contextual -implicitDefEqProofs (maxSteps:=10^7) only[go_sem,seval,↓gZ,YJ,ek,w0,n0]
theorem Zee (bX bY bW bH:Int) (Zk:Int):Zg Xs Ms Wb [(.d (.agg [J bX,J bY,J bW,J bH])),(.d (J Zk))] []=some ((.d (.bool (decide (Zk≤bW∧Zk≤bH)))),[]):=by
 refine Zd Xs Ms Zak Zsj (by show 2≤_;decide) ?_
 simp +contextual -implicitDefEqProofs (maxSteps:=10^7) only[go_sem,seval,↓gZ,Zak]
theorem ZlY (bX bY bW bH:Int) (hb:VB (Box.mk bX bY bW bH)):Zg Xs Ms UW [(.d (.agg [J bX,J bY,J bW,J bH]))] []=some ((.d (J (bW*bH))),[]):=by
 have h:=ZaZ hb
 simp only at h
 have w:=wi (bW*bH) (by omega) (by omega)
 refine Zd Xs Ms ZcQ Zwq (by show 1≤_;decide) ?_
 simp +contextual -implicitDefEqProofs (maxSteps:=10^7) only[go_sem,seval,↓gZ,ZcQ,w]
theorem ZrI (kW kH:Int) (kP:List Pane) (p:Zh) (Zk:Int) (hv:Wm (ZD.mk kW kH kP) p=true) (h1:1≤Zk) (h2:Zk≤200):Zg Xs Ms Jy [(.d (.agg [J kW,J kH,.sl (kP.map Pane.enc)])),.d p.enc,(.d (J Zk))] [] =
  some ((.d (J (YK (ZeB (ZD.mk kW kH kP) p Zk)))),[]):=by
 have ev:=Zba kW kH kP p
 rw[hv] at ev
 have ep:=ZjE kW kH kP p
 have hbox:=ZdE hv
 have hlen:((QE (ZD.mk kW kH kP) p).filterMap YE).length≤255:=Nat.le_trans (List.length_filterMap_le _ _) (Zb2 _ _)
 unfold ZeB
 generalize (QE (ZD.mk kW kH kP) p).filterMap YE=L at ep hbox hlen ⊢
 clear hv
 have n1:¬Zk<1:=by omega
 have n2:¬200<Zk:=by omega
 obtain⟨o,a,n,t,ks⟩:=p
 rw[Zh.enc_mk] at ev ep ⊢
 refine Zd Xs Ms Zbv Zuz (by show 3≤_;decide) ?_
 simp +contextual -implicitDefEqProofs (maxSteps:=10^7) only[go_sem,seval,↓gZ,Zbv,ev,ep,n1,n2]
 refine Zr Xs Ms (st0:=?st0) (α:=Nat) (fun i=>[(26,.d (J (i:Int))),(7,.d (J (YK ((L.take i).filterMap (JW Zk)))))]) (fun _=>[]) (fun i=>i≤L.length) (fun i=>L.length-i) 0 ?hc (by omega) ?h0 ?step
 case hc=>simp +contextual -implicitDefEqProofs (maxSteps:=10^7) only[go_sem,seval,↓gZ];exact rfl
 case h0=>rfl
 case step=>
  intro i hi ih
  by_cases hlt:i<L.length
  ·obtain⟨x,hx⟩:=Zp hlt
   have hw:=Zl (k:=i) (by omega)
   have hm:=Zcl (f:=JW Zk) hx
   have hbx:=hbox x (List.mem_of_getElem? hx)
   have ha:=Zfv (l:=(L.take i).filterMap (JW Zk)) (fun c hc=>by
    obtain⟨d,hd,hdc⟩:=List.mem_filterMap.1 hc
    unfold JW at hdc
    split at hdc
    ·cases hdc;exact hbox c (List.mem_of_mem_take hd)
    ·cases hdc)
   have hlk:((L.take i).filterMap (JW Zk)).length≤i:=Nat.le_trans (List.length_filterMap_le _ _) (by simp;omega)
   have hax:=ZaZ hbx
   obtain⟨X,Y,W,H⟩:=x
   simp only at hax
   have w1:=wi (YK ((L.take i).filterMap (JW Zk))+W*H) (by omega) (by omega)
   simp only[JW] at hm
   by_cases ho:W<Zk∨H<Zk
   ·rw[if_pos ho] at hm
    simp +contextual -implicitDefEqProofs (maxSteps:=10^7) only[go_sem,seval,↓gZ,hx,hlt,hw,ho,ZlY X Y W H hbx,w1]
    refine ih (i+1) _ (by omega) (by omega) ?_
    simp +contextual -implicitDefEqProofs (maxSteps:=10^7) only[go_sem,seval,↓gZ,hm,Zdo,Option.toList,YK]
    first | rfl | (simp;done) | (simp;rfl)
   ·rw[if_neg ho] at hm
    simp +contextual -implicitDefEqProofs (maxSteps:=10^7) only[go_sem,seval,↓gZ,hx,hlt,hw,ho]
    refine ih (i+1) _ (by omega) (by omega) ?_
    simp +contextual -implicitDefEqProofs (maxSteps:=10^7) only[go_sem,seval,↓gZ,hm]
    first | rfl | (simp;done) | (simp;rfl)
  ·have:i=L.length:=by omega
   subst this
   simp +contextual -implicitDefEqProofs (maxSteps:=10^7) only[go_sem,seval,↓gZ]
   try simp
theorem ZrJ (qL qW qH:Int) (qF:List Box) (kW kH:Int) (kP:List Pane) (p:Zh) (Zk label:Int) (hq:VPc (Zb.mk qL qW qH qF)) (hv:Wm (ZD.mk kW kH kP) p=true) (h1:1≤label) (h2:label≤10000) :
  Zg Xs Ms JG [(.d (.agg [J qL,J qW,J qH,.sl (qF.map Box.enc)])),(.d (.agg [J kW,J kH,.sl (kP.map Pane.enc)])),.d p.enc,(.d (J Zk)),(.d (J label))] [] =
  some (.own 0,[.row 4 ((ZaC (Zb.mk qL qW qH qF) label (XB (ZD.mk kW kH kP) p Zk)).map Zb.enc) true false]):=by
 obtain⟨b,hb,hpb,hvw,hcnt,hfit,hpt⟩:=Xp hv
 have hvw':=hvw
 simp only[VW] at hvw'
 have ep:=ZjG kW kH kP p b hpb (by simp only[inB];omega) hfit (by omega)
 have hbox:=ZdE hv
 have hlen:((QE (ZD.mk kW kH kP) p).filterMap YE).length≤255:=Nat.le_trans (List.length_filterMap_le _ _) (Zb2 _ _)
 unfold XB
 rw[hpt,Zft] at hbox hlen ⊢
 have hfl:∀ f∈qF,VB f:=fun f hf=>(hq.2 f hf).1
 have hq6:qF.length≤6:=hq.1.2.2.2.2.2.2
 have hkept:∀ i,((wst b 0 0 kW kH).take i).length≤255:=fun i=>Nat.le_trans (List.length_take_le' _ _) hlen
 generalize wst b 0 0 kW kH=L at ep hbox hlen hkept ⊢
 clear hpt hpb hb hv hfit hvw hvw'
 obtain⟨o,a,n,t,ks⟩:=p
 rw[Zh.enc_mk] at ep ⊢
 refine Zd Xs Ms ZbD ZuI (by show 5≤_;decide) ?_
 simp +contextual -implicitDefEqProofs (maxSteps:=10^7) only[go_sem,seval,↓gZ,ZbD,ep]
 refine Zr Xs Ms (st0:=?st0) (α:=Nat) (fun i=>[(13,.d (J (i:Int)))]) (fun i=>[(1,.row 4 ((ZaC (Zb.mk qL qW qH qF) label ((L.take i).filterMap (JV Zk))).map Zb.enc) true false)]) (fun i=>i≤L.length) (fun i=>L.length-i) 0 ?hc (by omega) ?h0 ?step
 case hc=>simp +contextual -implicitDefEqProofs (maxSteps:=10^7) only[go_sem,seval,↓gZ];exact rfl
 case h0=>rfl
 case step=>
  intro i hi ih
  by_cases hlt:i<L.length
  ·obtain⟨x,hx⟩:=Zp hlt
   have hw:=Zl (k:=i) (by omega)
   have hm:=Zcl (f:=JV Zk) hx
   have hlk:((L.take i).filterMap (JV Zk)).length≤255:=Nat.le_trans (List.length_filterMap_le _ _) (hkept i)
   have hl:=Zd3 (Zb.mk qL qW qH qF) label ((L.take i).filterMap (JV Zk))
   have hr:(((L.take i).filterMap (JV Zk)).length+1)*48≤140737488355328∧((L.take i).filterMap (JV Zk)).length≤140737488355327:=by omega
   have w1:=wi (label+(((L.take i).filterMap (JV Zk)).length:Int)) (by omega) (by omega)
   have hbx:=hbox x (List.mem_of_getElem? hx)
   have hcc:=fun y=>ZhD (Zb.mk qL qW qH qF) label ((L.take i).filterMap (JV Zk)) [y]
   obtain⟨X,Y,W,H⟩:=x
   simp only[JV] at hm
   have hc:=ZvS qL qW qH qF X Y W H (label+(((L.take i).filterMap (JV Zk)).length:Int)) hfl hq6 hbx
   by_cases ho:Zk≤W∧Zk≤H
   ·rw[if_pos ho] at hm
    simp +contextual -implicitDefEqProofs (maxSteps:=10^7) only[go_sem,seval,↓gZ,hx,hlt,hw,Zee,ho,hl,w1,hc,hr]
    refine ih (i+1) _ (by omega) (by omega) ?_
    simp +contextual -implicitDefEqProofs (maxSteps:=10^7) only[go_sem,seval,↓gZ,hm,Option.toList,hcc,ZaC,ZpL]
    first | rfl | (simp;done) | (simp;rfl)
   ·rw[if_neg ho] at hm
    simp +contextual -implicitDefEqProofs (maxSteps:=10^7) only[go_sem,seval,↓gZ,hx,hlt,hw,Zee,ho]
    refine ih (i+1) _ (by omega) (by omega) ?_
    simp +contextual -implicitDefEqProofs (maxSteps:=10^7) only[go_sem,seval,↓gZ,hm]
    first | rfl | (simp;done) | (simp;rfl)
  ·have:i=L.length:=by omega
   subst this
   simp +contextual -implicitDefEqProofs (maxSteps:=10^7) only[go_sem,seval,↓gZ]
   try simp
theorem Zoo (a b:List Box) (ha:a.length<4611686018427387904):Zg Xs Ms Ww [(.d (.sl (a.map Box.enc))),(.d (.sl (b.map Box.enc)))] []=some ((.d (.bool (decide (a=b)))),[]):=by
 refine Zd Xs Ms WC Zrg (by show 2≤_;decide) ?_
 by_cases hl:a.length=b.length
 ·simp +contextual -implicitDefEqProofs (maxSteps:=10^7) only[go_sem,seval,↓gZ,WC,hl]
  refine Zr Xs Ms (st0:=?st0) (α:=Nat) (fun k=>[(5,.d (J (k:Int)))]) (fun _=>[]) (fun k=>k≤b.length∧a.take k=b.take k) (fun k=>b.length-k) 0 ?hc ⟨by omega,rfl⟩ ?h0 ?step
  case hc=>simp +contextual -implicitDefEqProofs (maxSteps:=10^7) only[go_sem,seval,↓gZ,hl];exact rfl
  case h0=>rfl
  case step=>
   intro k ⟨hk,hp⟩ ih
   by_cases hlt:k<b.length
   ·obtain⟨x,hx⟩:∃ x,a[k]?=some x:=Zp (by omega)
    obtain⟨y,hy⟩:∃ y,b[k]?=some y:=Zp hlt
    have hw:=Zl (k:=k) (by omega)
    have ht:=Zls hx hy hp
    by_cases he:x=y
    ·subst he
     obtain⟨X,Y,W,H⟩:=x
     simp +contextual -implicitDefEqProofs (maxSteps:=10^7) only[go_sem,seval,↓gZ,hx,hy,hlt,hl,hw]
     refine ih (k+1) _ ⟨by omega,ht.2 rfl⟩ (by omega) ?_
     simp +contextual -implicitDefEqProofs (maxSteps:=10^7) only[go_sem,seval,↓gZ,hl]
    ·have hne:¬a=b:=fun e=>he (ht.1 (by rw[e]))
     obtain⟨X,Y,W,H⟩:=x
     obtain⟨X',Y',W',H'⟩:=y
     simp only[Box.mk.injEq] at he
     simp +contextual -implicitDefEqProofs (maxSteps:=10^7) only[go_sem,seval,↓gZ,hx,hy,hlt,hl,hw,he,hne]
   ·have:a=b:=by
     have h1:=hp
     rw[List.take_of_length_le (by omega),List.take_of_length_le (by omega)] at h1
     exact h1
    simp +contextual -implicitDefEqProofs (maxSteps:=10^7) only[go_sem,seval,↓gZ,hlt,hl,this]
 ·have hne:¬a=b:=fun e=>hl (by rw[e])
  simp +contextual -implicitDefEqProofs (maxSteps:=10^7) only[go_sem,seval,↓gZ,WC,hl,hne]
theorem ZgI (aL aW aH:Int) (aF:List Box) (bL bW bH:Int) (bF:List Box) (hl:aF.length<4611686018427387904):Zg Xs Ms Wu [(.d (.agg [J aL,J aW,J aH,.sl (aF.map Box.enc)])),(.d (.agg [J bL,J bW,J bH,.sl (bF.map Box.enc)]))] []=some ((.d (.bool (decide ((Zb.mk aL aW aH aF)=(Zb.mk bL bW bH bF))))),[]):=by
 refine Zd Xs Ms U6 Zq9 (by show 2≤_;decide) ?_
 simp +contextual -implicitDefEqProofs (maxSteps:=10^7) only[go_sem,seval,↓gZ,U6,Zoo aF bF hl]
 exact Zdd (by simp only[Zb.mk.injEq,and_assoc])
theorem Zop (a b:List Zb) (ha:a.length<4611686018427387904) (hb:∀ x∈a,x.Flaws.length<4611686018427387904):Zg Xs Ms Wt [(.d (.sl (a.map Zb.enc))),(.d (.sl (b.map Zb.enc)))] []=some ((.d (.bool (decide (a=b)))),[]):=by
 refine Zd Xs Ms WA Zq4 (by show 2≤_;decide) ?_
 by_cases hl:a.length=b.length
 ·simp +contextual -implicitDefEqProofs (maxSteps:=10^7) only[go_sem,seval,↓gZ,WA,hl]
  refine Zr Xs Ms (st0:=?st0) (α:=Nat) (fun k=>[(5,.d (J (k:Int)))]) (fun _=>[]) (fun k=>k≤b.length∧a.take k=b.take k) (fun k=>b.length-k) 0 ?hc ⟨by omega,rfl⟩ ?h0 ?step
  case hc=>simp +contextual -implicitDefEqProofs (maxSteps:=10^7) only[go_sem,seval,↓gZ,hl];exact rfl
  case h0=>rfl
  case step=>
   intro k ⟨hk,hp⟩ ih
   by_cases hlt:k<b.length
   ·obtain⟨x,hx⟩:∃ x,a[k]?=some x:=Zp (by omega)
    obtain⟨y,hy⟩:∃ y,b[k]?=some y:=Zp hlt
    have hw:=Zl (k:=k) (by omega)
    have ht:=Zls hx hy hp
    by_cases he:x=y
    ·subst he
     have he:=ZgI x.Label x.W x.H x.Flaws x.Label x.W x.H x.Flaws (hb x (List.mem_of_getElem? hx))
     obtain⟨L,W,H,F⟩:=x
     simp +contextual -implicitDefEqProofs (maxSteps:=10^7) only[go_sem,seval,↓gZ,hx,hy,hlt,hl,hw,he]
     refine ih (k+1) _ ⟨by omega,ht.2 rfl⟩ (by omega) ?_
     simp +contextual -implicitDefEqProofs (maxSteps:=10^7) only[go_sem,seval,↓gZ,hl]
    ·have hne:¬a=b:=fun e=>he (ht.1 (by rw[e]))
     have hq:=ZgI x.Label x.W x.H x.Flaws y.Label y.W y.H y.Flaws (hb x (List.mem_of_getElem? hx))
     obtain⟨L,W,H,F⟩:=x
     obtain⟨L',W',H',F'⟩:=y
     simp +contextual -implicitDefEqProofs (maxSteps:=10^7) only[go_sem,seval,↓gZ,hx,hy,hlt,hl,hw,hq,he,hne]
   ·have:a=b:=by
     have h1:=hp
     rw[List.take_of_length_le (by omega),List.take_of_length_le (by omega)] at h1
     exact h1
    simp +contextual -implicitDefEqProofs (maxSteps:=10^7) only[go_sem,seval,↓gZ,hlt,hl,this]
 ·have hne:¬a=b:=fun e=>hl (by rw[e])
  simp +contextual -implicitDefEqProofs (maxSteps:=10^7) only[go_sem,seval,↓gZ,WA,hl,hne]
theorem ZlZ (bs:List UInt8) (hb:bs.length≤2000) (p:Nat) (hp:p<900000000) (w h:Int):∃ X Y W H:Int,
  Zg Xs Ms ZaM [.ptr 0 0,(.d (J w)),(.d (J h))] [.box [.d (.sl (bs.map ZaP)),(.d (J p))]]=some (.d (.agg [J X,J Y,J W,J H]),[.box [.d (.sl (bs.map ZaP)),(.d (J ((p+4:Nat))))]]):=by
 have p1:=QC bs p w hb (by omega)
 generalize Xr bs p w=a1 at p1
 have p2:=QC bs (p+1) h hb (by omega)
 generalize Xr bs (p+1) h=a2 at p2
 have p3:=QC bs (p+2) (IntKind.i64.wrap (IntKind.i64.wrap (w-IntKind.i64.wrap (1+a1))+1)) hb (by omega)
 generalize Xr bs (p+2) (IntKind.i64.wrap (IntKind.i64.wrap (w-IntKind.i64.wrap (1+a1))+1))=a3 at p3
 have p4:=QC bs (p+3) (IntKind.i64.wrap (IntKind.i64.wrap (h-IntKind.i64.wrap (1+a2))+1)) hb (by omega)
 generalize Xr bs (p+3) (IntKind.i64.wrap (IntKind.i64.wrap (h-IntKind.i64.wrap (1+a2))+1))=a4 at p4
 refine⟨a3,a4,IntKind.i64.wrap (1+a1),IntKind.i64.wrap (1+a2),?_⟩
 refine Zd Xs Ms ZcP Zwo (by show 3≤_;decide) ?_
 simp +contextual -implicitDefEqProofs (maxSteps:=10^7) only[go_sem,seval,↓gZ,ZcP,p1,p2,p3,p4]
def VC:List Zb→Int
 | []=>0
 | x :: l=>x.W*x.H+VC l
theorem Zue (a b:List Zb):VC (a++b)=VC a+VC b:=by
 induction a with
 | nil=>simp[VC]
 | cons c l ih=>simp only[List.cons_append,VC,ih];omega
theorem Zqm {L:List Zb} {i:Nat} {x:Zb} (hx:L[i]?=some x):VC (L.take (i+1))=VC (L.take i)+x.W*x.H:=by
 rw[List.take_add_one,hx,Zue];simp[VC]
theorem ZvT (q:Zb):∀ (n:Int) (l:List Box) (i:Nat) (x:Zb),(ZaC q n l)[i]?=some x→∃ b,l[i]?=some b∧x=ZpL q b (n+i)
 | n,[],i,x,h=>by simp[ZaC] at h
 | n,b :: l,0,x,h=>by
  simp only[ZaC,List.getElem?_cons_zero,Option.some.injEq] at h
  exact⟨b,rfl,by rw[← h];simp⟩
 | n,b :: l,i+1,x,h=>by
  simp only[ZaC,List.getElem?_cons_succ] at h
  obtain⟨c,h1,h2⟩:=ZvT q (n+1) l i x h
  refine⟨c,by simpa using h1,?_⟩
  rw[h2];congr 1;omega
theorem Zdt:∀ {l:List Zb},(∀ x∈l,1≤x.W∧x.W≤200∧1≤x.H∧x.H≤200)→0≤VC l∧VC l≤40000*l.length
 | [],_=>by simp[VC]
 | x :: l,h=>by
  have h1:=h x (by simp)
  have h2:=Zdt (l:=l) fun y hy=>h y (by simp[hy])
  have h3:0≤x.W*x.H:=Int.mul_nonneg (by omega) (by omega)
  have h4:x.W*x.H≤200*200:=Int.mul_le_mul (by omega) (by omega) (by omega) (by omega)
  simp only[VC,List.length_cons]
  omega
def Yk:Int→List Zb→Prop
 | _,[]=>True
 | b,x :: l=>VPc x∧b<x.Label∧Yk x.Label l
instance sortFdec:∀ (b:Int) (l:List Zb),Decidable (Yk b l)
 | _,[]=>.isTrue trivial
 | b,x :: l=>by unfold Yk;exact @instDecidableAnd _ _ _ (@instDecidableAnd _ _ _ (sortFdec x.Label l))
def VSt (l:List Zb):Prop:=l.length≤20∧Yk 0 l
instance (l:List Zb):Decidable (VSt l):=by unfold VSt;infer_instance
theorem Zqn {l:List Zb} {k:Nat} {x:Zb} {b:Int} (hx:l[k]?=some x):Yk b (l.drop k)↔VPc x∧b<x.Label∧Yk x.Label (l.drop (k+1)):=by
 obtain⟨h1,h2⟩:=List.getElem?_eq_some_iff.1 hx
 rw[List.drop_eq_getElem_cons h1,h2,Yk]
theorem Zs8 {l:List Zb} {b:Int}:Yk b (l.drop l.length):=by simp[Yk]
theorem Vr (l:List Zb):Zg Xs Ms Xc [(.d (.sl (l.map Zb.enc)))] []=some ((.d (.bool (decide (VSt l)))),[]):=by
 by_cases h20:(20:Int)<(l.length:Int)
 ·have hn:¬VSt l:=fun h=>by have:=h.1;omega
  refine Zd Xs Ms Vg Zic (by show 1≤_;decide) ?_
  simp +contextual -implicitDefEqProofs (maxSteps:=10^7) only[go_sem,seval,↓gZ,Vg,h20,hn]
 ·have hle:l.length≤20:=by omega
  refine Zd Xs Ms Vg Zic (by show 1≤_;decide) ?_
  simp +contextual -implicitDefEqProofs (maxSteps:=10^7) only[go_sem,seval,↓gZ,Vg,h20]
  refine Zr Xs Ms (st0:=?st0) (α:=Nat×Int) (fun s=>[(11,.d (J (s.1:Int))),(3,.d (J s.2))]) (fun _=>[]) (fun s=>s.1≤l.length∧(Yk 0 l↔Yk s.2 (l.drop s.1))) (fun s=>l.length-s.1) (0,0) ?hc ⟨by simp,by simp⟩ ?h0 ?step
  case hc=>simp +contextual -implicitDefEqProofs (maxSteps:=10^7) only[go_sem,seval,↓gZ]<;>exact rfl
  case h0=>rfl
  case step=>
   intro⟨i,b⟩ ⟨hi,hp⟩ ih
   simp only at hi hp
   by_cases hlt:i<l.length
   ·obtain⟨x,hx⟩:=Zp hlt
    have hw:=Zl (k:=i) (by omega)
    rw[Zqn hx] at hp
    have ev:=Xj x.Label x.W x.H x.Flaws
    obtain⟨L,W,H,F⟩:=x
    simp only at hp ev
    by_cases hv:VPc ⟨L,W,H,F⟩
    ·rw[decide_eq_true hv] at ev
     by_cases hb:L≤b
     ·have hn:¬VSt l:=fun h=>by have:=(hp.1 h.2).2.1;omega
      simp +contextual -implicitDefEqProofs (maxSteps:=10^7) only[go_sem,seval,↓gZ,hx,hlt,hw,ev,hb,hn]
     ·simp +contextual -implicitDefEqProofs (maxSteps:=10^7) only[go_sem,seval,↓gZ,hx,hlt,hw,ev,hb]
      refine ih (i+1,L) _ ⟨by simp only;omega,?_⟩ (by simp only;omega) ?_
      ·rw[hp];exact⟨fun h=>h.2.2,fun h=>⟨hv,by omega,h⟩⟩
      ·simp +contextual -implicitDefEqProofs (maxSteps:=10^7) only[go_sem,seval,↓gZ]
    ·rw[decide_eq_false hv] at ev
     have hn:¬VSt l:=fun h=>hv (hp.1 h.2).1
     simp +contextual -implicitDefEqProofs (maxSteps:=10^7) only[go_sem,seval,↓gZ,hx,hlt,hw,ev,hn]
   ·have:i=l.length:=by omega
    subst this
    have hy:VSt l:=⟨hle,hp.2 Zs8⟩
    simp +contextual -implicitDefEqProofs (maxSteps:=10^7) only[go_sem,seval,↓gZ,hy]
def Zl0 (l:List Zb):Nat→Int
 | 0=>0
 | j+1=>match l[j]? with
  | some x=>x.Label
  | none=>0
theorem Vs (l:List Zb) (hl:l.length<4611686018427387904) (hS:∀ x∈l,x.Flaws.length<4611686018427387904∧R64 x.W∧R64 x.H):Zg Xs Ms QS [(.d (.sl (l.map Zb.enc)))] []=some ((.d (.bool (decide (VSt l)))),[]):=by
 refine Zd Xs Ms U4 Zq7 (by show 1≤_;decide) ?_
 simp +contextual -implicitDefEqProofs (maxSteps:=10^7) only[go_sem,seval,↓gZ,U4]
 refine Zr Xs Ms (st0:=?st0) (α:=Nat) (fun i=>[(3,.d (J (i:Int)))]) (fun _=>[]) (fun i=>i≤l.length∧(Yk 0 l↔Yk (Zl0 l i) (l.drop i))) (fun i=>l.length-i) 0 ?hc ⟨by simp,by simp[Zl0]⟩ ?h0 ?step
 case hc=>simp +contextual -implicitDefEqProofs (maxSteps:=10^7) only[go_sem,seval,↓gZ]<;>exact rfl
 case h0=>rfl
 case step=>
  intro i ⟨hi,hp⟩ ih
  by_cases hlt:i<l.length
  ·obtain⟨x,hx⟩:=Zp hlt
   have hw:=Zl (k:=i) (by omega)
   rw[Zqn hx] at hp
   obtain⟨hS1,hS2,hS3⟩:=hS x (List.mem_of_getElem? hx)
   have ev:=ZgG x.Label x.W x.H x.Flaws hS1 hS2 hS3
   have hla:Zl0 l (i+1)=x.Label:=by simp only[Zl0,hx]
   obtain⟨L,W,H,F⟩:=x
   simp only at hp ev hla
   by_cases hv:VPc ⟨L,W,H,F⟩
   ·rw[decide_eq_true hv] at ev
    have hL:1≤L:=hv.1.1
    cases i with
    | zero=>
     have hlt' : (0:Int)<(l.length:Int):=by omega
     simp +contextual -implicitDefEqProofs (maxSteps:=10^7) only[go_sem,seval,↓gZ,hx,hlt,hlt',hw,ev]
     refine ih 1 _ ⟨by omega,?_⟩ (by omega) ?_
     ·rw[hp,hla];exact⟨fun h=>h.2.2,fun h=>⟨hv,by simp only[Zl0];omega,h⟩⟩
     ·simp +contextual -implicitDefEqProofs (maxSteps:=10^7) only[go_sem,seval,↓gZ]
    | succ j=>
     obtain⟨y,hy⟩:=Zp (l:=l) (k:=j) (by omega)
     have hlb:Zl0 l (j+1)=y.Label:=by simp only[Zl0,hy]
     rw[hlb] at hp
     have hj:IntKind.i64.wrap (((j+1:Nat):Int)-1)=(j:Int):=by rw[JO (by omega) (by omega)];omega
     have hpos:(0:Int)<((j+1:Nat):Int):=by omega
     have hjl:j<l.length:=by omega
     obtain⟨L',W',H',F'⟩:=y
     simp only at hp
     by_cases hb:L≤L'
     ·have hn:¬VSt l:=fun h=>by have:=(hp.1 h.2).2.1;omega
      simp +contextual -implicitDefEqProofs (maxSteps:=10^7) only[go_sem,seval,↓gZ,hx,hlt,hw,ev,hpos,hj,hjl,hy,hb,hn]
     ·simp +contextual -implicitDefEqProofs (maxSteps:=10^7) only[go_sem,seval,↓gZ,hx,hlt,hw,ev,hpos,hj,hjl,hy,hb]
      refine ih (j+1+1) _ ⟨by omega,?_⟩ (by omega) ?_
      ·rw[hp,hla];exact⟨fun h=>h.2.2,fun h=>⟨hv,by omega,h⟩⟩
      ·simp +contextual -implicitDefEqProofs (maxSteps:=10^7) only[go_sem,seval,↓gZ]
   ·rw[decide_eq_false hv] at ev
    have hn:¬VSt l:=fun h=>hv (hp.1 h.2).1
    simp +contextual -implicitDefEqProofs (maxSteps:=10^7) only[go_sem,seval,↓gZ,hx,hlt,hw,ev,hn]
  ·have:i=l.length:=by omega
   subst this
   have hs:=hp.2 Zs8
   simp +contextual -implicitDefEqProofs (maxSteps:=10^7) only[go_sem,seval,↓gZ]
   exact Zdd (by simp only[VSt];constructor<;>(intro h;first | exact⟨by omega,hs⟩ | (have:=h.1;omega)))
def QJ:Nat→List Zb→Int→Int
 | _,[],_=>-1
 | k,x :: l,n=>if x.Label=n then (k:Int) else QJ (k+1) l n
theorem Zs9 {l:List Zb} {k:Nat} {x:Zb} {n:Int} (hx:l[k]?=some x):QJ k (l.drop k) n=if x.Label=n then (k:Int) else QJ (k+1) (l.drop (k+1)) n:=by
 obtain⟨h1,h2⟩:=List.getElem?_eq_some_iff.1 hx
 rw[List.drop_eq_getElem_cons h1,h2,QJ]
theorem Zm9 (qL qW qH:Int) (qF:List Box) (n:Int):Zg Xs Ms YH [(.d (.agg [J qL,J qW,J qH,.sl (qF.map Box.enc)])),.ptr 0 0] [.box [(.d (J n))]]=some ((.d (.bool (decide (qL=n)))),[.box [(.d (J n))]]):=by
 refine Zd Xs Ms Ue ZoR (by show 2≤_;decide) ?_
 simp +contextual -implicitDefEqProofs (maxSteps:=10^7) only[go_sem,seval,↓gZ,Ue]
theorem Zuf (l:List Zb) (n:Int) (hl:l.length<4611686018427387904):Zg Xs Ms Xv [(.d (.sl (l.map Zb.enc))),.clo YH [.ptr 0 0]] [.box [(.d (J n))]]=some ((.d (J (QJ 0 l n))),[.box [(.d (J n))]]):=by
 refine Zd Xs Ms Yz Zih (by show 2≤_;decide) ?_
 simp +contextual -implicitDefEqProofs (maxSteps:=10^7) only[go_sem,seval,↓gZ,Yz]
 refine Zr Xs Ms (st0:=?st0) (α:=Nat) (fun k=>[(8,.d (J (k:Int)))]) (fun _=>[]) (fun k=>k≤l.length∧QJ k (l.drop k) n=QJ 0 l n) (fun k=>l.length-k) 0 ?hc ⟨by omega,rfl⟩ ?h0 ?step
 case hc=>simp +contextual -implicitDefEqProofs (maxSteps:=10^7) only[go_sem,seval,↓gZ]<;>exact rfl
 case h0=>rfl
 case step=>
  intro k ⟨hk,hp⟩ ih
  by_cases hlt:k<l.length
  ·obtain⟨x,hx⟩:=Zp hlt
   rw[Zs9 hx] at hp
   have hw:=Zl (k:=k) (by omega)
   have e1:=Zm9 x.Label x.W x.H x.Flaws n
   obtain⟨L,W,H,F⟩:=x
   simp only at hp e1
   by_cases h:L=n
   ·rw[if_pos h] at hp
    rw[decide_eq_true h] at e1
    simp +contextual -implicitDefEqProofs (maxSteps:=10^7) only[go_sem,seval,↓gZ,hx,hlt,hw,e1]
    rw[← hp]
   ·rw[if_neg h] at hp
    rw[decide_eq_false h] at e1
    simp +contextual -implicitDefEqProofs (maxSteps:=10^7) only[go_sem,seval,↓gZ,hx,hlt,hw,e1]
    refine ih (k+1) _ ⟨by omega,hp⟩ (by omega) ?_
    simp +contextual -implicitDefEqProofs (maxSteps:=10^7) only[go_sem,seval,↓gZ]
  ·have:k=l.length:=by omega
   subst this
   simp +contextual -implicitDefEqProofs (maxSteps:=10^7) only[go_sem,seval,↓gZ]
   rw[← hp]
   simp[QJ]
theorem Y4 (l:List Zb) (n:Int) (hl:l.length<4611686018427387904):Zg Xs Ms XE [(.d (.sl (l.map Zb.enc))),(.d (J n))] []=some ((.d (J (QJ 0 l n))),[]):=by
 refine Zd Xs Ms J8 Zr6 (by show 2≤_;decide) ?_
 simp +contextual -implicitDefEqProofs (maxSteps:=10^7) only[go_sem,seval,↓gZ,J8,Zuf l n hl]
theorem Y5 (l:List Zb) (n:Int) (hl:l.length<4611686018427387904):Zg Xs Ms XG [(.d (.sl (l.map Zb.enc))),(.d (J n))] []=some ((.d (J (QJ 0 l n))),[]):=by
 refine Zd Xs Ms Zae Zsc (by show 2≤_;decide) ?_
 simp +contextual -implicitDefEqProofs (maxSteps:=10^7) only[go_sem,seval,↓gZ,Zae]
 refine Zr Xs Ms (st0:=?st0) (α:=Nat) (fun k=>[(5,.d (J (k:Int)))]) (fun _=>[]) (fun k=>k≤l.length∧QJ k (l.drop k) n=QJ 0 l n) (fun k=>l.length-k) 0 ?hc ⟨by omega,rfl⟩ ?h0 ?step
 case hc=>simp +contextual -implicitDefEqProofs (maxSteps:=10^7) only[go_sem,seval,↓gZ]<;>exact rfl
 case h0=>rfl
 case step=>
  intro k ⟨hk,hp⟩ ih
  by_cases hlt:k<l.length
  ·obtain⟨x,hx⟩:=Zp hlt
   rw[Zs9 hx] at hp
   have hw:=Zl (k:=k) (by omega)
   obtain⟨L,W,H,F⟩:=x
   simp only at hp
   by_cases h:L=n
   ·rw[if_pos h] at hp
    simp +contextual -implicitDefEqProofs (maxSteps:=10^7) only[go_sem,seval,↓gZ,hx,hlt,hw,h]
    rw[← hp]
   ·rw[if_neg h] at hp
    simp +contextual -implicitDefEqProofs (maxSteps:=10^7) only[go_sem,seval,↓gZ,hx,hlt,hw,h]
    refine ih (k+1) _ ⟨by omega,hp⟩ (by omega) ?_
    simp +contextual -implicitDefEqProofs (maxSteps:=10^7) only[go_sem,seval,↓gZ]
  ·have:k=l.length:=by omega
   subst this
   simp +contextual -implicitDefEqProofs (maxSteps:=10^7) only[go_sem,seval,↓gZ]
   rw[← hp]
   simp[QJ]
theorem Zbb (qL qW qH:Int) (qF:List Box) (hF:qF.length≤1000000):Zg Xs Ms XF [(.d (.agg [J qL,J qW,J qH,.sl (qF.map Box.enc)]))] []=some (.agg [(.d (J qL)),(.d (J qW)),(.d (J qH)),.own 0],[.row 4 (qF.map Box.enc) true false]):=by
 have hr:qF.length*32≤140737488355328∧qF.length≤140737488355328:=by omega
 refine Zd Xs Ms Zaa Zr8 (by show 1≤_;decide) ?_
 simp +contextual -implicitDefEqProofs (maxSteps:=10^7) only[go_sem,seval,↓gZ,Zaa,hr]
theorem Ws (qL qW qH:Int) (qF:List Box) (hF:qF.length≤1000000):Zg Xs Ms XH [(.d (.agg [J qL,J qW,J qH,.sl (qF.map Box.enc)]))] []=some (.agg [(.d (J qL)),(.d (J qW)),(.d (J qH)),.own 0],[.row 4 (qF.map Box.enc) true false]):=by
 have hr:qF.length*32≤140737488355328∧qF.length≤140737488355328:=by omega
 refine Zd Xs Ms Zai Zsh (by show 1≤_;decide) ?_
 simp +contextual -implicitDefEqProofs (maxSteps:=10^7) only[go_sem,seval,↓gZ,Zai,hr]
theorem Zqo:∀ (F:List Box),ZcV D.flat (F.map Box.enc)=true
 | []=>rfl
 | x :: F=>by simp only[List.map_cons,ZcV,Zqo F,Bool.and_true];rfl
theorem Zef (l:List Zb) (hl:l.length≤1000000) (hF:∀ x∈l,x.Flaws.length≤1000000):Zg Xs Ms YY [(.d (.sl (l.map Zb.enc)))] []=some (.own 0,[.deep 4 4 (l.map Zb.enc) none]):=by
 refine Zd Xs Ms J9 Zr7 (by show 1≤_;decide) ?_
 simp +contextual -implicitDefEqProofs (maxSteps:=10^7) only[go_sem,seval,↓gZ,J9]
 refine Zr Xs Ms (st0:=?st0) (α:=Nat) (fun i=>[(8,.d (J (i:Int)))]) (fun i=>[(0,.deep 4 4 ((l.take i).map Zb.enc) none)]) (fun i=>i≤l.length) (fun i=>l.length-i) 0 ?hc (by omega) ?h0 ?step
 case hc=>simp +contextual -implicitDefEqProofs (maxSteps:=10^7) only[go_sem,seval,↓gZ]<;>exact rfl
 case h0=>rfl
 case step=>
  intro i hi ih
  by_cases hlt:i<l.length
  ·obtain⟨x,hx⟩:=Zp hlt
   have hw:=Zl (k:=i) (by omega)
   have hm:l.take (i+1)=l.take i++[x]:=by rw[List.take_add_one,hx];simp
   have hlk:(l.take i).length≤i:=by simp;omega
   have hr:((l.take i).length+1)*48≤140737488355328∧(l.take i).length≤140737488355327:=by omega
   have e:=Zbb x.Label x.W x.H x.Flaws (hF x (List.mem_of_getElem? hx))
   obtain⟨L,W,H,F⟩:=x
   simp only at e
   have hfl:=Zqo F
   simp +contextual -implicitDefEqProofs (maxSteps:=10^7) only[go_sem,seval,↓gZ,hx,hlt,hw,e,hr,hfl]
   refine ih (i+1) _ (by omega) (by omega) ?_
   simp +contextual -implicitDefEqProofs (maxSteps:=10^7) only[go_sem,seval,↓gZ,hm]
   first | rfl | (simp;done) | (simp;rfl)
  ·have:i=l.length:=by omega
   subst this
   simp +contextual -implicitDefEqProofs (maxSteps:=10^7) only[go_sem,seval,↓gZ]
   simp
theorem Zxw {α:Type} {l:List α} {i a:Nat} {x:α} (hx:l[i]?=some x) (h:i≠a):(l.take (i+1)).eraseIdx a=(l.take i).eraseIdx a++[x]:=by
 have h1:=(List.getElem?_eq_some_iff.1 hx).1
 have e:l.take (i+1)=l.take i++[x]:=by rw[List.take_add_one,hx];simp
 rw[e]
 have hl:(l.take i).length=i:=by simp;omega
 rcases Nat.lt_or_ge a i with h2 | h2
 ·rw[List.eraseIdx_append_of_lt_length (by omega)]
 ·rw[List.eraseIdx_of_length_le (by simp;omega),List.eraseIdx_of_length_le (by omega)]
theorem Zxx {α:Type} {l:List α} {i:Nat} {x:α} (hx:l[i]?=some x):(l.take (i+1)).eraseIdx i=(l.take i).eraseIdx i:=by
 have h1:=(List.getElem?_eq_some_iff.1 hx).1
 have e:l.take (i+1)=l.take i++[x]:=by rw[List.take_add_one,hx];simp
 have hl:(l.take i).length=i:=by simp;omega
 rw[e,List.eraseIdx_append_of_length_le (by omega),hl]
 simp
 rw[List.eraseIdx_of_length_le (by omega)]
theorem Zna {α:Type} (l:List α) (a:Nat):(l.eraseIdx a).length≤l.length:=by
 have:=List.length_eraseIdx_le l a
 omega
theorem Zgu (l:List Zb) (a:Nat) (hl:l.length≤1000000) (hF:∀ x∈l,x.Flaws.length≤1000000):Zg Xs Ms VQ [(.d (.sl (l.map Zb.enc))),(.d (J a))] []=some (.own 0,[.row 4 ((l.eraseIdx a).map Zb.enc) true false]):=by
 refine Zd Xs Ms Ja Zn7 (by show 2≤_;decide) ?_
 simp +contextual -implicitDefEqProofs (maxSteps:=10^7) only[go_sem,seval,↓gZ,Ja]
 refine Zr Xs Ms (st0:=?st0) (α:=Nat) (fun i=>[(6,.d (J (i:Int)))]) (fun i=>[(0,.row 4 (((l.take i).eraseIdx a).map Zb.enc) true false)]) (fun i=>i≤l.length) (fun i=>l.length-i) 0 ?hc (by omega) ?h0 ?step
 case hc=>simp +contextual -implicitDefEqProofs (maxSteps:=10^7) only[go_sem,seval,↓gZ]<;>exact rfl
 case h0=>rfl
 case step=>
  intro i hi ih
  by_cases hlt:i<l.length
  ·obtain⟨x,hx⟩:=Zp hlt
   have hw:=Zl (k:=i) (by omega)
   by_cases hia:i=a
   ·subst hia
    have hm:=Zxx hx
    simp +contextual -implicitDefEqProofs (maxSteps:=10^7) only[go_sem,seval,↓gZ,hx,hlt,hw]
    refine ih (i+1) _ (by omega) (by omega) ?_
    simp +contextual -implicitDefEqProofs (maxSteps:=10^7) only[go_sem,seval,↓gZ,hm]
   ·have hm:=Zxw hx hia
    have hlk:((l.take i).eraseIdx a).length≤i:=Nat.le_trans (Zna _ _) (by simp;omega)
    have hr:(((l.take i).eraseIdx a).length+1)*48≤140737488355328∧((l.take i).eraseIdx a).length≤140737488355327:=by omega
    have e:=Ws x.Label x.W x.H x.Flaws (hF x (List.mem_of_getElem? hx))
    obtain⟨L,W,H,F⟩:=x
    simp only at e
    simp +contextual -implicitDefEqProofs (maxSteps:=10^7) only[go_sem,seval,↓gZ,hx,hlt,hw,hia,e,hr]
    refine ih (i+1) _ (by omega) (by omega) ?_
    simp +contextual -implicitDefEqProofs (maxSteps:=10^7) only[go_sem,seval,↓gZ,hm]
    first | rfl | (simp;done) | (simp;rfl)
  ·have:i=l.length:=by omega
   subst this
   simp +contextual -implicitDefEqProofs (maxSteps:=10^7) only[go_sem,seval,↓gZ]
   simp
def Ua (l:List Zb):Int:=Zl0 l l.length
theorem Znb {l:List Zb} {x:Zb} (hx:l[l.length-1]?=some x):Ua l=x.Label:=by
 have h:=(List.getElem?_eq_some_iff.1 hx).1
 unfold Ua
 obtain⟨n,hn⟩:∃ n,l.length=n+1:=⟨l.length-1,by omega⟩
 rw[hn] at hx ⊢
 simp only[Zl0]
 simp only[Nat.add_sub_cancel] at hx
 rw[hx]
theorem ZhV (l:List Zb) (hl:l.length<4611686018427387904):Zg Xs Ms YZ [(.d (.sl (l.map Zb.enc)))] []=some ((.d (J (Ua l))),[]):=by
 by_cases h0:l.length=0
 ·have e:Ua l=0:=by unfold Ua;rw[h0];rfl
  have h0' : (l.length:Int)=0:=by omega
  rw[e]
  refine Zd Xs Ms Wc ZjR (by show 1≤_;decide) ?_
  simp +contextual -implicitDefEqProofs (maxSteps:=10^7) only[go_sem,seval,↓gZ,Wc,h0']
 ·obtain⟨x,hx⟩:=Zp (l:=l) (k:=l.length-1) (by omega)
  have e:=Znb hx
  have hn:¬(l.length:Int)=0:=by omega
  have hw:IntKind.i64.wrap ((l.length:Int)-1)=((l.length-1:Nat):Int):=by rw[JO (by omega) (by omega)];omega
  have hlt:l.length-1<l.length:=by omega
  obtain⟨L,W,H,F⟩:=x
  simp only at e
  refine Zd Xs Ms Wc ZjR (by show 1≤_;decide) ?_
  simp +contextual -implicitDefEqProofs (maxSteps:=10^7) only[go_sem,seval,↓gZ,Wc,hn,hw,hx,hlt,e]
theorem Zqp:∀ (l:List Zb) (k:Nat) (n:Int),QJ k l n=-1∨∃ i:Nat,QJ k l n=((k+i:Nat):Int)∧i<l.length
 | [],k,n=>.inl rfl
 | x :: l,k,n=>by
  unfold QJ
  split
  ·exact .inr ⟨0,by simp,by simp⟩
  ·rcases Zqp l (k+1) n with h | ⟨i,h1,h2⟩
   ·exact .inl h
   ·exact .inr ⟨i+1,by rw[h1];congr 1;omega,by simp;omega⟩
theorem Z8:∀ {l:List Zb} {b:Int},Yk b l→∀ x∈l,VPc x
 | [],_,_,x,hx=>by simp at hx
 | y :: l,b,h,x,hx=>by
  rcases List.mem_cons.1 hx with rfl | hx
  ·exact h.1
  ·exact Z8 h.2.2 x hx
theorem ZdF {l:List Zb} (h:VSt l):l.length≤1000000∧∀ x∈l,x.Flaws.length≤1000000:=by
 refine⟨by have:=h.1;omega,fun x hx=>?_⟩
 have:=(Z8 h.2 x hx).1.2.2.2.2.2.2
 omega
theorem ZhW (l:List Zb) (n:Int) (h:¬(VSt l∧0≤QJ 0 l n)):Zg Xs Ms YX [(.d (.sl (l.map Zb.enc))),(.d (J n))] [] =
  some (.tup [.agg [(.d (J 0)),(.d (J 0)),(.d (J 0)),.own 0],.own 1,(.d (.bool false))],[.row 4 [] true false,.row 4 [] true false]):=by
 have ev:=Vr l
 by_cases hv:VSt l
 ·rw[decide_eq_true hv] at ev
  have hf:=Y4 l n (by have:=hv.1;omega)
  have hn:QJ 0 l n<0:=by
   rcases Int.lt_or_le (QJ 0 l n) 0 with h1 | h1
   ·exact h1
   ·exact absurd ⟨hv,h1⟩ h
  refine Zd Xs Ms Yu Ze7 (by show 2≤_;decide) ?_
  simp +contextual -implicitDefEqProofs (maxSteps:=10^7) only[go_sem,seval,↓gZ,Yu,ev,hf,hn]
 ·rw[decide_eq_false hv] at ev
  refine Zd Xs Ms Yu Ze7 (by show 2≤_;decide) ?_
  simp +contextual -implicitDefEqProofs (maxSteps:=10^7) only[go_sem,seval,↓gZ,Yu,ev]
theorem ZgJ (l:List Zb) (n:Int) (hv:VSt l) (i:Nat) (hi:QJ 0 l n=(i:Int)) (qL qW qH:Int) (qF:List Box) (hx:l[i]?=some (Zb.mk qL qW qH qF)):Zg Xs Ms YX [(.d (.sl (l.map Zb.enc))),(.d (J n))] [] =
  some (.tup [.agg [(.d (J qL)),(.d (J qW)),(.d (J qH)),.own 0],.own 1,(.d (.bool true))],[.row 4 (qF.map Box.enc) true false,.row 4 ((l.eraseIdx i).map Zb.enc) true false]):=by
 have ev:=Vr l
 rw[decide_eq_true hv] at ev
 have hlt:i<l.length:=(List.getElem?_eq_some_iff.1 hx).1
 have hl20:=hv.1
 obtain⟨h1,h2⟩:=ZdF hv
 have hf:=Y4 l n (by omega)
 rw[hi] at hf
 have hw:=Zl (k:=i) (by omega)
 have c1:=Zef (l.take i) (by simp;omega) (fun x hx=>h2 x (List.mem_of_mem_take hx))
 have c2:=Zef (l.drop (i+1)) (by simp;omega) (fun x hx=>h2 x (List.mem_of_mem_drop hx))
 have e:=Zbb qL qW qH qF (h2 (Zb.mk qL qW qH qF) (List.mem_of_getElem? hx))
 have hr:((l.take i).length+(l.drop (i+1)).length)*48≤140737488355328∧(l.take i).length+(l.drop (i+1)).length≤140737488355328:=by simp;omega
 have hle:i≤l.length:=by omega
 have hle2:i+1≤l.length:=by omega
 have hi0:¬(i:Int)<0:=by omega
 rw[List.eraseIdx_eq_take_drop_succ]
 refine Zd Xs Ms Yu Ze7 (by show 2≤_;decide) ?_
 simp +contextual -implicitDefEqProofs (maxSteps:=10^7) only[go_sem,seval,↓gZ,Yu,ZpU,ev,hf,hi0,hw,hx,hlt,hle,hle2,c1,c2,e,hr,List.take_length]
def PcW (x:Zb):Prop:=x.Flaws.length≤6∧R64 x.W∧R64 x.H
theorem Zxy {b c:Int} (h:b≤c):∀ {l:List Zb},Yk c l→Yk b l
 | [],_=>trivial
 | x :: l,hs=>⟨hs.1,by have:=hs.2.1;omega,hs.2.2⟩
theorem ZhX:∀ {l:List Zb} {b:Int} (i:Nat),Yk b l→Yk b (l.eraseIdx i)
 | [],b,i,_=>by simp[Yk]
 | x :: l,b,0,h=>by
  simp only[List.eraseIdx_cons_zero]
  exact Zxy (by have:=h.2.1;omega) h.2.2
 | x :: l,b,i+1,h=>by
  simp only[List.eraseIdx_cons_succ]
  exact⟨h.1,h.2.1,ZhX i h.2.2⟩
theorem Znc:∀ {l:List Zb} {b:Int},Yk b l→∀ (i j:Nat) (x y:Zb),i≤j→l[i]?=some x→l[j]?=some y→x.Label≤y.Label∧b<x.Label
 | [],b,_,i,j,x,y,_,hx,_=>by simp at hx
 | z :: l,b,h,0,0,x,y,_,hx,hy=>by
  simp at hx hy;subst hx;subst hy;exact⟨Int.le_refl _,h.2.1⟩
 | z :: l,b,h,0,j+1,x,y,_,hx,hy=>by
  simp at hx hy;subst hx
  have:=(Znc h.2.2 j j y y (Nat.le_refl _) hy hy).2
  exact⟨by omega,h.2.1⟩
 | z :: l,b,h,i+1,j+1,x,y,hij,hx,hy=>by
  simp at hx hy
  have:=Znc h.2.2 i j x y (by omega) hx hy
  have h2:=h.2.1
  exact⟨this.1,by omega⟩
 | z :: l,b,h,i+1,0,x,y,hij,hx,hy=>by omega
theorem Zqq {q:Zb} (hq:VPc q):∀ {L:List Box} {n c:Int},c<n→1≤n→(∀ b∈L,VB b∧QP b ⟨0,0,q.W,q.H⟩)→(Yk c (ZaC q n L)↔(L=[]∨(L.length:Int)≤10000-n))
 | [],n,c,_,_,_=>by simp[ZaC,Yk]
 | b :: L,n,c,hc,h1,hb=>by
  have ih:=Zqq hq (L:=L) (n:=n+1) (c:=n) (by omega) (by omega) (fun d hd=>hb d (by simp[hd]))
  have hv:VPc (ZpL q b n)↔n≤9999:=⟨fun h=>by have:=h.1.2.1;simpa [ZpL] using this,fun h=>Zw8 hq (hb b (by simp)).1 (hb b (by simp)).2 h1 h⟩
  simp only[ZaC,Yk,hv,ih]
  have e:(ZpL q b n).Label=n:=rfl
  rw[e,ih]
  have hl:((b :: L).length:Int)=L.length+1:=by simp
  constructor
  ·rintro ⟨g1,g2,g3⟩
   right
   rcases g3 with rfl | g3
   ·simp only[List.length_cons,List.length_nil];omega
   ·omega
  ·rintro (g | g)
   ·cases g
   ·refine⟨by omega,hc,?_⟩
    by_cases h0:L=[]
    ·exact .inl h0
    ·exact .inr (by omega)
theorem Zta {B:List Zb} {n:Int} {Q:Prop} (hB:∀ c,c<n→(Yk c B↔Q)):∀ {A:List Zb} {b:Int},Yk b A→(∀ x∈A,x.Label<n)→b<n→(Yk b (A++B)↔Q)
 | [],b,_,_,hb=>hB b hb
 | x :: A,b,h,hx,hb=>by
  have ih:=Zta hB h.2.2 (fun y hy=>hx y (by simp[hy])) (hx x (by simp))
  simp only[List.cons_append,Yk,ih]
  exact⟨fun g=>g.2.2,fun g=>⟨h.1,h.2.1,g⟩⟩
theorem Zqr {l:List Zb} (hv:VSt l) (hne:0<l.length):1≤Ua l∧Ua l≤9999∧∀ x∈l,x.Label≤Ua l:=by
 obtain⟨y,hy⟩:=Zp (l:=l) (k:=l.length-1) (by omega)
 rw[Znb hy]
 have hyv:=(Z8 hv.2 y (List.mem_of_getElem? hy)).1
 refine⟨hyv.1,hyv.2.1,fun x hx=>?_⟩
 obtain⟨i,hi⟩:=List.getElem?_of_mem hx
 have:=(List.getElem?_eq_some_iff.1 hi).1
 exact(Znc hv.2 i (l.length-1) x y (by omega) hi hy).1
def Zoq (l:List Zb) (i:Nat) (x:Zb) (k:ZD) (p:Zh) (Zk:Int):List Zb:=l.eraseIdx i++ZaC x (Ua l+1) (XB k p Zk)
theorem ZCq {l:List Zb} {i:Nat} {x:Zb} {k:ZD} {p:Zh} {Zk:Int} (hv:VSt l) (hx:l[i]?=some x) (hg:WG x k p) :
  VSt (Zoq l i x k p Zk)↔((XB k p Zk).length:Int)≤10000-(Ua l+1)∧(l.eraseIdx i).length+(XB k p Zk).length≤20:=by
 have hil:=(List.getElem?_eq_some_iff.1 hx).1
 obtain⟨h1,h2,h3⟩:=Zqr hv (by omega)
 have hq:=Z8 hv.2 x (List.mem_of_getElem? hx)
 have hin:∀ b∈XB k p Zk,VB b∧QP b ⟨0,0,x.W,x.H⟩:=fun b hb=>by
  have:=ZpM (Zk:=Zk) hg.1 b hb
  rw[← hg.2.1,← hg.2.2.1];exact this
 have hs:=Zta (n:=Ua l+1) (fun c hc=>Zqq hq hc (by omega) hin) (ZhX i hv.2) (fun y hy=>by have:=h3 y (List.mem_of_mem_eraseIdx hy);omega) (by omega)
 unfold VSt Zoq
 rw[hs,List.length_append,Zd3]
 constructor
 ·rintro ⟨g1,g2 | g2⟩
  ·exact⟨by rw[g2];simp;omega,g1⟩
  ·exact⟨g2,g1⟩
 ·rintro ⟨g1,g2⟩
  exact⟨g2,.inr g1⟩
def ZcB (l:List Zb) (n:Int) (k:ZD) (p:Zh) (Zk:Int):Option (List Zb):=
 if VSt l∧0≤QJ 0 l n∧1≤Zk∧Zk≤200 then
  match l[(QJ 0 l n).toNat]? with
  | some x=>if WG x k p∧VSt (Zoq l (QJ 0 l n).toNat x k p Zk) then some (Zoq l (QJ 0 l n).toNat x k p Zk) else none
  | none=>none
 else none
def Zhl:Option (List Zb)→AV×List Zt
 | some R=>(.tup [.own 0,(.d (.bool true))],[.row 4 (R.map Zb.enc) true false])
 | none=>(.tup [.own 0,(.d (.bool false))],[.row 4 [] true false])
theorem ZcC {l:List Zb} {n:Int} (h:0≤QJ 0 l n):∃ (i:Nat) (x:Zb),QJ 0 l n=(i:Int)∧l[i]?=some x:=by
 rcases Zqp l 0 n with h1 | ⟨i,h1,h2⟩
 ·omega
 ·obtain⟨x,hx⟩:=Zp h2
  exact⟨i,x,by rw[h1];simp,hx⟩
theorem ZrK (l:List Zb) (n:Int) (kW kH:Int) (kP:List Pane) (p:Zh) (Zk:Int):Zg Xs Ms Jx [(.d (.sl (l.map Zb.enc))),(.d (J n)),(.d (.agg [J kW,J kH,.sl (kP.map Pane.enc)])),.d p.enc,(.d (J Zk))] []=some (Zhl (ZcB l n (ZD.mk kW kH kP) p Zk)):=by
 by_cases h:VSt l∧0≤QJ 0 l n
 ·obtain⟨hv,hf⟩:=h
  obtain⟨i,x,hi,hx⟩:=ZcC hf
  have hil:=(List.getElem?_eq_some_iff.1 hx).1
  have hq:=Z8 hv.2 x (List.mem_of_getElem? hx)
  have hll:=Zqr hv (by omega)
  obtain⟨y,hy⟩:=Zp (l:=l) (k:=l.length-1) (by omega)
  have hly:=Znb hy
  have h20:=hv.1
  have hvc:=ZCq (k:=(ZD.mk kW kH kP)) (p:=p) (Zk:=Zk) hv hx
  have et:=fun q1 q2 q3 q4 h=>ZgJ l n hv i hi q1 q2 q3 q4 h
  unfold ZcB
  rw[hi]
  simp only[Int.toNat_natCast,hx]
  obtain⟨L,W,H,F⟩:=x
  have et:=et L W H F hx
  have eg:=ZrH L W H F kW kH kP p
  have hel:(l.eraseIdx i).length≤20:=Nat.le_trans (Zna _ _) h20
  have hlt1:l.length-1<l.length:=by omega
  have w1:IntKind.i64.wrap ((l.length:Int)-1)=((l.length-1:Nat):Int):=by rw[JO (by omega) (by omega)];omega
  have w2:=wi (Ua l+1) (by omega) (by omega)
  by_cases hg:WG ⟨L,W,H,F⟩ (ZD.mk kW kH kP) p
  ·have hd:decide (VPc ⟨L,W,H,F⟩∧WG ⟨L,W,H,F⟩ (ZD.mk kW kH kP) p)=true:=decide_eq_true ⟨hq,hg⟩
   rw[hd] at eg
   by_cases hl:1≤Zk∧Zk≤200
   ·have n1:¬Zk<1:=by omega
    have n2:¬200<Zk:=by omega
    have hkl:=Zi5 (ZD.mk kW kH kP) p Zk
    by_cases hk:((XB (ZD.mk kW kH kP) p Zk).length:Int)≤10000-(Ua l+1)
    ·have er:=ZlX L W H F kW kH kP p Zk (Ua l+1) hq hg.1 hg.2.1 hg.2.2.1 (by omega) (by omega) hk
     have w3:=wi (((l.eraseIdx i).length:Int)+((XB (ZD.mk kW kH kP) p Zk).length:Int)) (by omega) (by omega)
     have hcl:=Zd3 ⟨L,W,H,F⟩ (Ua l+1) (XB (ZD.mk kW kH kP) p Zk)
     by_cases h2:(l.eraseIdx i).length+(XB (ZD.mk kW kH kP) p Zk).length≤20
     ·rw[if_pos ⟨hv,by omega,hl⟩,if_pos ⟨hg,(hvc hg).2 ⟨hk,h2⟩⟩]
      unfold Zoq Zhl
      have n3:¬(20:Int)<((l.eraseIdx i).length:Int)+((XB (ZD.mk kW kH kP) p Zk).length:Int):=by omega
      have hr:((l.eraseIdx i).length+(XB (ZD.mk kW kH kP) p Zk).length)*48≤140737488355328∧(l.eraseIdx i).length+(XB (ZD.mk kW kH kP) p Zk).length≤140737488355328:=by omega
      clear hvc hg hd
      generalize ZaC ⟨L,W,H,F⟩ (Ua l+1) (XB (ZD.mk kW kH kP) p Zk)=R at er hcl ⊢
      generalize (XB (ZD.mk kW kH kP) p Zk).length=N at *
      obtain⟨yL,yW,yH,yF⟩:=y
      simp only at hly
      rw[hly] at er w2
      obtain⟨o,a,m,t,ks⟩:=p
      rw[Zh.enc_mk] at er eg ⊢
      refine Zd Xs Ms Qi WR (by show 5≤_;decide) ?_
      simp +contextual -implicitDefEqProofs (maxSteps:=10^7) only[go_sem,seval,↓gZ,Qi,et,eg,n1,n2,w1,hy,hlt1,w2,er,hcl,w3,n3,hr]
     ·rw[if_pos ⟨hv,by omega,hl⟩,if_neg (fun h=>h2 ((hvc hg).1 h.2).2)]
      unfold Zhl
      have n3:(20:Int)<((l.eraseIdx i).length:Int)+((XB (ZD.mk kW kH kP) p Zk).length:Int):=by omega
      clear hvc hg hd
      generalize ZaC ⟨L,W,H,F⟩ (Ua l+1) (XB (ZD.mk kW kH kP) p Zk)=R at er hcl ⊢
      generalize (XB (ZD.mk kW kH kP) p Zk).length=N at *
      obtain⟨yL,yW,yH,yF⟩:=y
      simp only at hly
      rw[hly] at er w2
      obtain⟨o,a,m,t,ks⟩:=p
      rw[Zh.enc_mk] at er eg ⊢
      refine Zd Xs Ms Qi WR (by show 5≤_;decide) ?_
      simp +contextual -implicitDefEqProofs (maxSteps:=10^7) only[go_sem,seval,↓gZ,Qi,et,eg,n1,n2,w1,hy,hlt1,w2,er,hcl,w3,n3]
    ·have er:=Zm8 L W H F kW kH kP p Zk (Ua l+1) (by omega) (by omega) hk
     rw[if_pos ⟨hv,by omega,hl⟩,if_neg (fun h=>hk ((hvc hg).1 h.2).1)]
     unfold Zhl
     clear hvc hg hd hk hkl
     obtain⟨yL,yW,yH,yF⟩:=y
     simp only at hly
     rw[hly] at er w2
     obtain⟨o,a,m,t,ks⟩:=p
     rw[Zh.enc_mk] at er eg ⊢
     refine Zd Xs Ms Qi WR (by show 5≤_;decide) ?_
     simp +contextual -implicitDefEqProofs (maxSteps:=10^7) only[go_sem,seval,↓gZ,Qi,et,eg,n1,n2,w1,hy,hlt1,w2,er]
   ·rw[if_neg (fun h=>hl ⟨h.2.2.1,h.2.2.2⟩)]
    unfold Zhl
    clear hvc hg hd
    obtain⟨o,a,m,t,ks⟩:=p
    rw[Zh.enc_mk] at eg ⊢
    by_cases n1:Zk<1
    ·refine Zd Xs Ms Qi WR (by show 5≤_;decide) ?_
     simp +contextual -implicitDefEqProofs (maxSteps:=10^7) only[go_sem,seval,↓gZ,Qi,et,eg,n1]
    ·have n2:200<Zk:=by omega
     refine Zd Xs Ms Qi WR (by show 5≤_;decide) ?_
     simp +contextual -implicitDefEqProofs (maxSteps:=10^7) only[go_sem,seval,↓gZ,Qi,et,eg,n1,n2]
  ·have hd:decide (VPc ⟨L,W,H,F⟩∧WG ⟨L,W,H,F⟩ (ZD.mk kW kH kP) p)=false:=decide_eq_false fun h=>hg h.2
   rw[hd] at eg
   have e0:(if VSt l∧(0:Int)≤(i:Int)∧1≤Zk∧Zk≤200 then (if WG ⟨L,W,H,F⟩ (ZD.mk kW kH kP) p∧VSt (Zoq l i ⟨L,W,H,F⟩ (ZD.mk kW kH kP) p Zk) then some (Zoq l i ⟨L,W,H,F⟩ (ZD.mk kW kH kP) p Zk) else none) else none)=none:=by
    rw[if_neg (fun h:WG ⟨L,W,H,F⟩ (ZD.mk kW kH kP) p∧_=>hg h.1)];split<;>rfl
   rw[e0]
   unfold Zhl
   clear hvc hg hd e0
   obtain⟨o,a,m,t,ks⟩:=p
   rw[Zh.enc_mk] at eg ⊢
   refine Zd Xs Ms Qi WR (by show 5≤_;decide) ?_
   simp +contextual -implicitDefEqProofs (maxSteps:=10^7) only[go_sem,seval,↓gZ,Qi,et,eg]
 ·have et:=ZhW l n h
  have e0:ZcB l n (ZD.mk kW kH kP) p Zk=none:=by
   unfold ZcB
   rw[if_neg (fun g=>h ⟨g.1,g.2.1⟩)]
  rw[e0]
  unfold Zhl
  clear e0
  obtain⟨o,a,m,t,ks⟩:=p
  rw[Zh.enc_mk]
  refine Zd Xs Ms Qi WR (by show 5≤_;decide) ?_
  simp +contextual -implicitDefEqProofs (maxSteps:=10^7) only[go_sem,seval,↓gZ,Qi,et]
theorem Zxz {l:List Zb} {i:Nat} {x:Zb} {k:ZD} {p:Zh} {Zk:Int} (hv:VSt l) (hx:l[i]?=some x) (hg:WG x k p) :
  (Zoq l i x k p Zk).length≤1000∧∀ y∈Zoq l i x k p Zk,y.Flaws.length<4611686018427387904∧R64 y.W∧R64 y.H:=by
 have hq:=Z8 hv.2 x (List.mem_of_getElem? hx)
 refine⟨?_,fun y hy=>?_⟩
 ·unfold Zoq
  rw[List.length_append,Zd3]
  have:=Zi5 k p Zk
  have:=Zna l i
  have:=hv.1
  omega
 ·rcases List.mem_append.1 hy with hy | hy
  ·have h:=Z8 hv.2 y (List.mem_of_mem_eraseIdx hy)
   have h1:=h.1
   exact⟨by omega,⟨by omega,by omega⟩,⟨by omega,by omega⟩⟩
  ·obtain⟨j,hj⟩:=List.getElem?_of_mem hy
   obtain⟨b,hb,rfl⟩:=ZvT x _ _ j y hj
   have hvb:=(ZpM (Zk:=Zk) hg.1 b (List.mem_of_getElem? hb)).1
   simp only[VB] at hvb
   have hfl:=List.length_filterMap_le (Vx b) x.Flaws
   have hq6:=hq.1.2.2.2.2.2.2
   simp only[ZpL]
   exact⟨by omega,⟨by omega,by omega⟩,⟨by omega,by omega⟩⟩
theorem ZrL (l:List Zb) (n:Int) (kW kH:Int) (kP:List Pane) (p:Zh) (Zk:Int) (hl:l.length≤1000) (hS:∀ x∈l,PcW x) (hk:kP.length<4611686018427387904):Zg Xs Ms Jz [(.d (.sl (l.map Zb.enc))),(.d (J n)),(.d (.agg [J kW,J kH,.sl (kP.map Pane.enc)])),.d p.enc,(.d (J Zk))] []=some (Zhl (ZcB l n (ZD.mk kW kH kP) p Zk)):=by
 have ev:=Vs l (by omega) (fun x hx=>by obtain⟨g1,g2,g3⟩:=hS x hx;exact⟨by omega,g2,g3⟩)
 have ef:=Y5 l n (by omega)
 unfold ZcB
 by_cases hv:VSt l
 ·rw[decide_eq_true hv] at ev
  by_cases hf:0≤QJ 0 l n
  ·obtain⟨i,x,hi,hx⟩:=ZcC hf
   rw[hi] at ef ⊢
   have hi0:¬(i:Int)<0:=by omega
   have hil:=(List.getElem?_eq_some_iff.1 hx).1
   simp only[Int.toNat_natCast,hx]
   by_cases hr:1≤Zk∧Zk≤200
   ·have hq:=Z8 hv.2 x (List.mem_of_getElem? hx)
    have hll:=Zqr hv (by omega)
    have ew:=Zgu l i (by omega) (fun x hx=>by have:=(hS x hx).1;omega)
    have el:=ZhV l (by omega)
    have w2:=wi (Ua l+1) (by omega) (by omega)
    rw[if_pos ⟨hv,by omega,hr⟩]
    by_cases hg:WG x (ZD.mk kW kH kP) p
    ·have hcs:=Zxz (Zk:=Zk) hv hx hg
     have evo:=Vs (Zoq l i x (ZD.mk kW kH kP) p Zk) (by omega) hcs.2
     have hlen:(l.eraseIdx i).length≤20:=Nat.le_trans (Zna _ _) hv.1
     have hkl:=Zi5 (ZD.mk kW kH kP) p Zk
     obtain⟨L,W,H,F⟩:=x
     have eg:=ZjH L W H F kW kH kP p (fun f hf=>(hq.2 f hf).1) hq.1.2.2.2.2.2.2 hk
     have er:=ZrJ L W H F kW kH kP p Zk (Ua l+1) hq hg.1 (by omega) (by omega)
     rw[decide_eq_true hg] at eg
     have hcl:=Zd3 ⟨L,W,H,F⟩ (Ua l+1) (XB (ZD.mk kW kH kP) p Zk)
     have hrm:((l.eraseIdx i).length+(XB (ZD.mk kW kH kP) p Zk).length)*48≤140737488355328∧(l.eraseIdx i).length+(XB (ZD.mk kW kH kP) p Zk).length≤140737488355328:=by omega
     unfold Zoq at evo ⊢
     have hgg:=hg
     clear hg
     by_cases hvo:VSt (l.eraseIdx i++ZaC ⟨L,W,H,F⟩ (Ua l+1) (XB (ZD.mk kW kH kP) p Zk))
     ·rw[decide_eq_true hvo] at evo
      rw[if_pos ⟨hgg,hvo⟩]
      unfold Zhl
      clear hvo hcs hgg
      generalize ZaC ⟨L,W,H,F⟩ (Ua l+1) (XB (ZD.mk kW kH kP) p Zk)=R at er hcl evo ⊢
      generalize (XB (ZD.mk kW kH kP) p Zk).length=N at *
      obtain⟨o,a,m,t,ks⟩:=p
      rw[Zh.enc_mk] at er eg ⊢
      refine Zd Xs Ms Qx Jo (by show 5≤_;decide) ?_
      simp +contextual -implicitDefEqProofs (maxSteps:=10^7) only[go_sem,seval,↓gZ,Qx,ev,ef,hi0,ZQ,hr,hx,hil,eg,ew,el,w2,er,hcl,hrm,evo]
     ·rw[decide_eq_false hvo] at evo
      rw[if_neg (fun h=>hvo h.2)]
      unfold Zhl
      clear hvo hcs hgg
      generalize ZaC ⟨L,W,H,F⟩ (Ua l+1) (XB (ZD.mk kW kH kP) p Zk)=R at er hcl evo ⊢
      generalize (XB (ZD.mk kW kH kP) p Zk).length=N at *
      obtain⟨o,a,m,t,ks⟩:=p
      rw[Zh.enc_mk] at er eg ⊢
      refine Zd Xs Ms Qx Jo (by show 5≤_;decide) ?_
      simp +contextual -implicitDefEqProofs (maxSteps:=10^7) only[go_sem,seval,↓gZ,Qx,ev,ef,hi0,ZQ,hr,hx,hil,eg,ew,el,w2,er,hcl,hrm,evo]
    ·rw[if_neg (fun h=>hg h.1)]
     obtain⟨L,W,H,F⟩:=x
     have eg:=ZjH L W H F kW kH kP p (fun f hf=>(hq.2 f hf).1) hq.1.2.2.2.2.2.2 hk
     rw[decide_eq_false hg] at eg
     unfold Zhl
     clear hg
     obtain⟨o,a,m,t,ks⟩:=p
     rw[Zh.enc_mk] at eg ⊢
     refine Zd Xs Ms Qx Jo (by show 5≤_;decide) ?_
     simp +contextual -implicitDefEqProofs (maxSteps:=10^7) only[go_sem,seval,↓gZ,Qx,ev,ef,hi0,ZQ,hr,hx,hil,eg]
   ·rw[if_neg (fun h=>hr h.2.2)]
    unfold Zhl
    obtain⟨o,a,m,t,ks⟩:=p
    rw[Zh.enc_mk]
    refine Zd Xs Ms Qx Jo (by show 5≤_;decide) ?_
    simp +contextual -implicitDefEqProofs (maxSteps:=10^7) only[go_sem,seval,↓gZ,Qx,ev,ef,hi0,ZQ,hr]
  ·rw[if_neg (fun h=>hf h.2.1)]
   have hf' : QJ 0 l n<0:=by omega
   unfold Zhl
   obtain⟨o,a,m,t,ks⟩:=p
   rw[Zh.enc_mk]
   refine Zd Xs Ms Qx Jo (by show 5≤_;decide) ?_
   simp +contextual -implicitDefEqProofs (maxSteps:=10^7) only[go_sem,seval,↓gZ,Qx,ev,ef,hf']
 ·rw[decide_eq_false hv] at ev
  rw[if_neg (fun h=>hv h.1)]
  unfold Zhl
  obtain⟨o,a,m,t,ks⟩:=p
  rw[Zh.enc_mk]
  refine Zd Xs Ms Qx Jo (by show 5≤_;decide) ?_
  simp +contextual -implicitDefEqProofs (maxSteps:=10^7) only[go_sem,seval,↓gZ,Qx,ev]
theorem ZhY (l:List Zb) (hv:VSt l):Zg Xs Ms V2 [(.d (.sl (l.map Zb.enc)))] []=some ((.d (J (VC l))),[]):=by
 have ev:=Vr l
 rw[decide_eq_true hv] at ev
 have h20:=hv.1
 have hval:∀ x∈l,1≤x.W∧x.W≤200∧1≤x.H∧x.H≤200:=fun x hx=>by
  have:=(Z8 hv.2 x hx).1;omega
 clear hv
 refine Zd Xs Ms J5 Zr0 (by show 1≤_;decide) ?_
 simp +contextual -implicitDefEqProofs (maxSteps:=10^7) only[go_sem,seval,↓gZ,J5,ev]
 refine Zr Xs Ms (st0:=?st0) (α:=Nat) (fun i=>[(11,.d (J (i:Int))),(3,.d (J (VC (l.take i))))]) (fun _=>[]) (fun i=>i≤l.length) (fun i=>l.length-i) 0 ?hc (by omega) ?h0 ?step
 case hc=>simp +contextual -implicitDefEqProofs (maxSteps:=10^7) only[go_sem,seval,↓gZ]<;>exact rfl
 case h0=>rfl
 case step=>
  intro i hi ih
  by_cases hlt:i<l.length
  ·obtain⟨x,hx⟩:=Zp hlt
   have hw:=Zl (k:=i) (by omega)
   have hm:=Zqm hx
   have hst:=Zdt (l:=l.take i) (fun y hy=>hval y (List.mem_of_mem_take hy))
   have hlk:(l.take i).length≤i:=by simp;omega
   have g5:=hval x (List.mem_of_getElem? hx)
   have hxx:x.W*x.H≤200*200:=Int.mul_le_mul (by omega) (by omega) (by omega) (by omega)
   have hx0:0≤x.W*x.H:=Int.mul_nonneg (by omega) (by omega)
   obtain⟨xL,xW,xH,xF⟩:=x
   simp only at g5 hm hxx hx0
   have u0:=wi (xW*xH) (by omega) (by omega)
   have u1:=wi (VC (l.take i)+xW*xH) (by omega) (by omega)
   simp +contextual -implicitDefEqProofs (maxSteps:=10^7) only[go_sem,seval,↓gZ,hx,hlt,hw,u0,u1]
   refine ih (i+1) _ (by omega) (by omega) ?_
   simp +contextual -implicitDefEqProofs (maxSteps:=10^7) only[go_sem,seval,↓gZ,hm]
  ·have:i=l.length:=by omega
   subst this
   simp +contextual -implicitDefEqProofs (maxSteps:=10^7) only[go_sem,seval,↓gZ,List.take_length]
end Go.Proofs.YtpobhkoombldlaaGreat
