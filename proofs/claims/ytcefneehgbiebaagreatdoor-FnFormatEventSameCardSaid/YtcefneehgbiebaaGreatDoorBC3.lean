/- Own text. -/
import Derived.Test.YtcefneehgbiebaaGreatDoorBCode
import Derived.Test.YtcefneehgbiebaaGreatDoorAbsParts
import Derived.Test.YtcefneehgbiebaaGreatDoorBC1
namespace Go.Proofs.YtcefneehgbiebaaGreatDoor
open Go Go.Abs Go.Abs.E Go.Abs.L
open Nat (reduceMul reduceSub reduceLeDiff reduceEqDiff)
open Int (reduceLE reduceEq reduceToNat reduceNeg)
set_option linter.unusedSimpArgs false
set_option linter.unusedVariables false
set_option maxRecDepth 20000
set_option maxHeartbeats 4000000
theorem XL (ps:List Pane):∀ (b:BT) (gX gY gW gH:Int) (xs:List D) (ex:Bool),inB (Box.mk gX gY gW gH)→X3 ps b gW gH=true→xs.length+b.cnt≤1000 →
  Ze Xs Ms Qt [.own 0,.d b.plan.enc,(.d (.agg [J gX,J gY,J gW,J gH]))] [.row 9 xs ex false]=some (.own 1,[.row 0 [] true false,.row 9 (xs++(pt b gX gY gW gH).map Part.enc) false false])
 | .waste,gX,gY,gW,gH,xs,ex,hg,hf,hl=>by
  simp only[BT.cnt] at hl;have h1:(xs.length+1)*88≤140737488355328∧xs.length≤140737488355327:=by omega
  simp only[BT.plan,Zf.enc_mk,pt];refine cE ?_;simp +contextual -implicitDefEqProofs (maxSteps:=10^7) only[go_sem,seval,↓gZ,XF,WI,h1]
 | .pane i t,gX,gY,gW,gH,xs,ex,hg,hf,hl=>by
  simp only[BT.cnt] at hl;have h1:(xs.length+1)*88≤140737488355328∧xs.length≤140737488355327:=by omega
  simp only[BT.plan,Zf.enc_mk,pt];refine cE ?_;simp +contextual -implicitDefEqProofs (maxSteps:=10^7) only[go_sem,seval,↓gZ,XF,WI,h1]
 | .cut d a l r,gX,gY,gW,gH,xs,ex,hg,hf,hl=>by
  simp only[BT.cnt] at hl;have h1:(xs.length+1)*88≤140737488355328∧xs.length≤140737488355327:=by omega
  simp only[inB] at hg;simp only[BT.plan,Zf.enc_mk];cases d with
  | true=>
   simp only[X3,Ke,Kn,Km] at hf;have e0:=ZbF 2 a 0 false [l.plan.enc,r.plan.enc] gX gY gW gH rfl ⟨by omega,by omega⟩ ⟨by omega,by omega⟩;have e1:=XL ps l gX gY a gH (xs++[.agg [J 2,J a,J 0,.bool false,.sl [l.plan.enc,r.plan.enc],J gX,J gY,J gW,J gH]]) false (by simp only[inB];omega) hf.1.2 (by simp only[Kt,Ks,KM];omega);have e2:=XL ps r (gX+a) gY (gW-a) gH (xs++[.agg [J 2,J a,J 0,.bool false,.sl [l.plan.enc,r.plan.enc],J gX,J gY,J gW,J gH]]++(pt l gX gY a gH).map Part.enc) false (by simp only[inB];omega) hf.2 (by simp only[Kt,Ks,KM,KL,JH];omega)
   refine cE ?_;simp +contextual -implicitDefEqProofs (maxSteps:=10^7) only[go_sem,seval,↓gZ,XF,WI,h1,VX,e0,e1,e2];simp[pt,VX,BT.plan,Part.enc_mk]
  | false=>
   simp only[X3,Ke,Kn,Ka,Ko] at hf;have e0:=JQ 3 a 0 false [l.plan.enc,r.plan.enc] gX gY gW gH (by decide) ⟨by omega,by omega⟩ ⟨by omega,by omega⟩;have e1:=XL ps l gX gY gW a (xs++[.agg [J 3,J a,J 0,.bool false,.sl [l.plan.enc,r.plan.enc],J gX,J gY,J gW,J gH]]) false (by simp only[inB];omega) hf.1.2 (by simp only[Kt,Ks,KM];omega);have e2:=XL ps r gX (gY+a) gW (gH-a) (xs++[.agg [J 3,J a,J 0,.bool false,.sl [l.plan.enc,r.plan.enc],J gX,J gY,J gW,J gH]]++(pt l gX gY gW a).map Part.enc) false (by simp only[inB];omega) hf.2 (by simp only[Kt,Ks,KM,KL,JH];omega)
   refine cE ?_;simp +contextual -implicitDefEqProofs (maxSteps:=10^7) only[go_sem,seval,↓gZ,XF,WI,h1,VX,e0,e1,e2];simp[pt,VX,BT.plan,Part.enc_mk]
theorem Zo3 (ps:List Pane):∀ (b:BT) (gX gY gW gH:Int),inB (Box.mk gX gY gW gH)→X3 ps b gW gH=true→b.cnt≤1000 →
  Ze Xs Ms Qt [.nil,.d b.plan.enc,(.d (.agg [J gX,J gY,J gW,J gH]))] []=some (.own 0,[.row 9 ((pt b gX gY gW gH).map Part.enc) false false])
 | .waste,gX,gY,gW,gH,hg,hf,hl=>by
  have h1:1*88≤ZR∧1≤ZR:=by unfold ZR;omega
  simp only[BT.plan,Zf.enc_mk,pt];refine cE ?_;simp +contextual -implicitDefEqProofs (maxSteps:=10^7) only[go_sem,seval,↓gZ,XF,WI,h1]
 | .pane i t,gX,gY,gW,gH,hg,hf,hl=>by
  have h1:1*88≤ZR∧1≤ZR:=by unfold ZR;omega
  simp only[BT.plan,Zf.enc_mk,pt];refine cE ?_;simp +contextual -implicitDefEqProofs (maxSteps:=10^7) only[go_sem,seval,↓gZ,XF,WI,h1]
 | .cut d a l r,gX,gY,gW,gH,hg,hf,hl=>by
  simp only[BT.cnt] at hl;have h1:1*88≤ZR∧1≤ZR:=by unfold ZR;omega
  simp only[inB] at hg;simp only[BT.plan,Zf.enc_mk];cases d with
  | true=>
   simp only[X3,Ke,Kn,Km] at hf;have e0:=ZbF 2 a 0 false [l.plan.enc,r.plan.enc] gX gY gW gH rfl ⟨by omega,by omega⟩ ⟨by omega,by omega⟩;have e1:=XL ps l gX gY a gH [.agg [J 2,J a,J 0,.bool false,.sl [l.plan.enc,r.plan.enc],J gX,J gY,J gW,J gH]] false (by simp only[inB];omega) hf.1.2 (by simp only[Kt,Ks,KM];omega);have e2:=XL ps r (gX+a) gY (gW-a) gH (.agg [J 2,J a,J 0,.bool false,.sl [l.plan.enc,r.plan.enc],J gX,J gY,J gW,J gH] :: (pt l gX gY a gH).map Part.enc) false (by simp only[inB];omega) hf.2 (by simp only[Kt,Ks,KM,KL,JH];omega)
   refine cE ?_;simp +contextual -implicitDefEqProofs (maxSteps:=10^7) only[go_sem,seval,↓gZ,XF,WI,h1,VX,e0,e1,e2];simp[pt,VX,BT.plan,Part.enc_mk]
  | false=>
   simp only[X3,Ke,Kn,Ka,Ko] at hf;have e0:=JQ 3 a 0 false [l.plan.enc,r.plan.enc] gX gY gW gH (by decide) ⟨by omega,by omega⟩ ⟨by omega,by omega⟩;have e1:=XL ps l gX gY gW a [.agg [J 3,J a,J 0,.bool false,.sl [l.plan.enc,r.plan.enc],J gX,J gY,J gW,J gH]] false (by simp only[inB];omega) hf.1.2 (by simp only[Kt,Ks,KM];omega);have e2:=XL ps r gX (gY+a) gW (gH-a) (.agg [J 3,J a,J 0,.bool false,.sl [l.plan.enc,r.plan.enc],J gX,J gY,J gW,J gH] :: (pt l gX gY gW a).map Part.enc) false (by simp only[inB];omega) hf.2 (by simp only[Kt,Ks,KM,KL,JH];omega)
   refine cE ?_;simp +contextual -implicitDefEqProofs (maxSteps:=10^7) only[go_sem,seval,↓gZ,XF,WI,h1,VX,e0,e1,e2];simp[pt,VX,BT.plan,Part.enc_mk]
theorem Zj0 (kW kH:Int) (kP:List Pane) (p:Zf):Ze Xs Ms Jp [(.d (.agg [J kW,J kH,.sl (kP.map Pane.enc)])),.d p.enc] []=some (.own 0,[.row 9 ((QH (ZF.mk kW kH kP) p).map Part.enc) (!Vx (ZF.mk kW kH kP) p) false]):=by
 have hv:=JR kW kH kP p;unfold Vx at hv;unfold QH Vx;cases hb:Q6 p with
 | none=>
  rw[hb] at hv;obtain⟨o,a,q,t,ks⟩:=p;rw[Zf.enc_mk] at hv ⊢;refine cE ?_;simp +contextual -implicitDefEqProofs (maxSteps:=10^7) only[go_sem,seval,↓gZ,Zbv,hv];try rfl
 | some b=>
  have hp:=ZaE hb;rw[hb] at hv;dsimp only at hv ⊢;by_cases hh:(decide (VW (ZF.mk kW kH kP))&&decide (b.cnt≤255)&&X3 kP b kW kH)=true
  ·have aa:=hh;simp only[Ke,Kn] at aa;have hw:=aa.1.1;simp only[VW] at hw;have ab:=Zo3 kP b 0 0 kW kH (by simp only[inB];omega) aa.2 (by omega);rw[← hp] at ab;rw[hh] at hv ⊢;obtain⟨o,a,q,t,ks⟩:=p;rw[Zf.enc_mk] at hv ab ⊢;refine cE ?_;simp +contextual -implicitDefEqProofs (maxSteps:=10^7) only[go_sem,seval,↓gZ,Zbv,ZjV,hv,ab];try rfl
  ·have hf:=(LH _).mp hh;rw[hf] at hv ⊢;obtain⟨o,a,q,t,ks⟩:=p;rw[Zf.enc_mk] at hv ⊢;refine cE ?_;simp +contextual -implicitDefEqProofs (maxSteps:=10^7) only[go_sem,seval,↓gZ,Zbv,hv];try rfl
theorem ZaT (k:ZF) (p:Zf):(QH k p).length≤255:=by
 unfold QH;split
 ·split
  ·rename_i h;simp only[Ke,Kn] at h;rw[JH];exact h.1.2
  ·simp
 ·simp
theorem ZdT (kW kH:Int) (kP:List Pane) (p:Zf):Ze Xs Ms VM [(.d (.agg [J kW,J kH,.sl (kP.map Pane.enc)])),.d p.enc] []=some (.own 0,[.row 6 (((QH (ZF.mk kW kH kP) p).filterMap Xx).map Place.enc) true false]):=by
 have hv:=Zj0 kW kH kP p;have hn:=ZaT (ZF.mk kW kH kP) p;generalize (!Vx (ZF.mk kW kH kP) p)=e at hv;generalize QH (ZF.mk kW kH kP) p=ps at hv hn ⊢;obtain⟨o,a,q,t,ks⟩:=p;rw[Zf.enc_mk] at hv ⊢;refine cE ?_;simp +contextual -implicitDefEqProofs (maxSteps:=10^7) only[go_sem,seval,↓gZ,ZfN,hv];refine LO (α:=Nat) (fun k=>[(12,.d (J (k:Int)))]) (fun k=>[(1,.row 6 (((ps.take k).filterMap Xx).map Place.enc) true false)]) (fun k=>k≤ps.length) (fun k=>ps.length-k) 0 (by omega) ?_;intro k hk ih;by_cases aa:k<ps.length
 ·obtain⟨x,hx⟩:=Zr aa;have hw:=Zj (k:=k) (by omega);have hm:=Za2 (f:=Xx) hx;have ab:((ps.take k).filterMap Xx).length≤k:=Kx (Kl _ _) (by simp;omega);have hr:(((ps.take k).filterMap Xx).length+1)*48≤140737488355328∧((ps.take k).filterMap Xx).length≤140737488355327:=by omega
  obtain⟨⟨o',a',q',t',ad⟩,⟨X,Y,W,H⟩⟩:=x;simp only[Xx] at hm;by_cases ho:o'=1
  ·rw[Ki ho] at hm;simp +contextual -implicitDefEqProofs (maxSteps:=10^7) only[go_sem,seval,↓gZ,hx,aa,hw,ho,hr];refine ih (k+1) _ (by omega) (by omega) ?_;simp +contextual -implicitDefEqProofs (maxSteps:=10^7) only[go_sem,seval,↓gZ,hm]
   first | rfl | (simp;done) | (simp;rfl)
  ·rw[Kd ho] at hm;simp +contextual -implicitDefEqProofs (maxSteps:=10^7) only[go_sem,seval,↓gZ,hx,aa,hw,ho,hr];refine ih (k+1) _ (by omega) (by omega) ?_;simp +contextual -implicitDefEqProofs (maxSteps:=10^7) only[go_sem,seval,↓gZ,hm]
   first | rfl | (simp;done) | (simp;rfl)
 ·have:k=ps.length:=by omega
  subst this;simp +contextual -implicitDefEqProofs (maxSteps:=10^7) only[go_sem,seval,↓gZ];simp
theorem Zij (kW kH:Int) (kP:List Pane) (p:Zf):Ze Xs Ms Ue [(.d (.agg [J kW,J kH,.sl (kP.map Pane.enc)])),.d p.enc] []=some (.own 0,[.row 4 (((QH (ZF.mk kW kH kP) p).filterMap XY).map Box.enc) true false]):=by
 have hv:=Zj0 kW kH kP p;have hn:=ZaT (ZF.mk kW kH kP) p;generalize (!Vx (ZF.mk kW kH kP) p)=e at hv;generalize QH (ZF.mk kW kH kP) p=ps at hv hn ⊢;obtain⟨o,a,q,t,ks⟩:=p;rw[Zf.enc_mk] at hv ⊢;refine cE ?_;simp +contextual -implicitDefEqProofs (maxSteps:=10^7) only[go_sem,seval,↓gZ,ZfT,hv];refine LO (α:=Nat) (fun k=>[(12,.d (J (k:Int)))]) (fun k=>[(1,.row 4 (((ps.take k).filterMap XY).map Box.enc) true false)]) (fun k=>k≤ps.length) (fun k=>ps.length-k) 0 (by omega) ?_;intro k hk ih;by_cases aa:k<ps.length
 ·obtain⟨x,hx⟩:=Zr aa;have hw:=Zj (k:=k) (by omega);have hm:=Za2 (f:=XY) hx;have ab:((ps.take k).filterMap XY).length≤k:=Kx (Kl _ _) (by simp;omega);have hr:(((ps.take k).filterMap XY).length+1)*32≤140737488355328∧((ps.take k).filterMap XY).length≤140737488355327:=by omega
  obtain⟨⟨o',a',q',t',ad⟩,⟨X,Y,W,H⟩⟩:=x;simp only[XY] at hm;by_cases ho:o'=0
  ·rw[Ki ho] at hm;simp +contextual -implicitDefEqProofs (maxSteps:=10^7) only[go_sem,seval,↓gZ,hx,aa,hw,ho,hr];refine ih (k+1) _ (by omega) (by omega) ?_;simp +contextual -implicitDefEqProofs (maxSteps:=10^7) only[go_sem,seval,↓gZ,hm]
   first | rfl | (simp;done) | (simp;rfl)
  ·rw[Kd ho] at hm;simp +contextual -implicitDefEqProofs (maxSteps:=10^7) only[go_sem,seval,↓gZ,hx,aa,hw,ho,hr];refine ih (k+1) _ (by omega) (by omega) ?_;simp +contextual -implicitDefEqProofs (maxSteps:=10^7) only[go_sem,seval,↓gZ,hm]
   first | rfl | (simp;done) | (simp;rfl)
 ·have:k=ps.length:=by omega
  subst this;simp +contextual -implicitDefEqProofs (maxSteps:=10^7) only[go_sem,seval,↓gZ];simp
theorem Jk (ps:List Pane):∀ (b:BT) (gX gY gW gH:Int),inB (Box.mk gX gY gW gH)→X3 ps b gW gH=true→b.cnt≤1000 →
  Ze Xs Ms YY [.d b.plan.enc,(.d (.agg [J gX,J gY,J gW,J gH]))] []=some (.own 0,[.row 6 ((sp b gX gY gW gH).map Place.enc) true false])
 | .waste,gX,gY,gW,gH,hg,hf,hl=>by
  simp only[BT.plan,Zf.enc_mk,sp];refine cE ?_;simp +contextual -implicitDefEqProofs (maxSteps:=10^7) only[go_sem,seval,↓gZ,ZaX];try rfl
 | .pane i t,gX,gY,gW,gH,hg,hf,hl=>by
  simp only[BT.plan,Zf.enc_mk,sp];refine cE ?_;simp +contextual -implicitDefEqProofs (maxSteps:=10^7) only[go_sem,seval,↓gZ,ZaX];try rfl
 | .cut d a l r,gX,gY,gW,gH,hg,hf,hl=>by
  simp only[BT.cnt] at hl;simp only[inB] at hg;simp only[BT.plan,Zf.enc_mk];cases d with
  | true=>
   simp only[X3,Ke,Kn,Km] at hf;have w1:=wi (gX+a) (by omega) (by omega);have w2:=wi (gW-a) (by omega) (by omega);have l1:=ZdI l gX gY a gH;have l2:=ZdI r (gX+a) gY (gW-a) gH;have e1:=Jk ps l gX gY a gH (by simp only[inB];omega) hf.1.2 (by omega);have e2:=Jk ps r (gX+a) gY (gW-a) gH (by simp only[inB];omega) hf.2 (by omega);have h1:((sp l gX gY a gH).length+(sp r (gX+a) gY (gW-a) gH).length)*48≤140737488355328∧(sp l gX gY a gH).length+(sp r (gX+a) gY (gW-a) gH).length≤140737488355328:=by omega
   refine cE ?_;simp +contextual -implicitDefEqProofs (maxSteps:=10^7) only[go_sem,seval,↓gZ,ZaX,VX,w1,w2,h1,e1,e2];simp[sp]
  | false=>
   simp only[X3,Ke,Kn,Ka,Ko] at hf;have w1:=wi (gY+a) (by omega) (by omega);have w2:=wi (gH-a) (by omega) (by omega);have l1:=ZdI l gX gY gW a;have l2:=ZdI r gX (gY+a) gW (gH-a);have e1:=Jk ps l gX gY gW a (by simp only[inB];omega) hf.1.2 (by omega);have e2:=Jk ps r gX (gY+a) gW (gH-a) (by simp only[inB];omega) hf.2 (by omega);have h1:((sp l gX gY gW a).length+(sp r gX (gY+a) gW (gH-a)).length)*48≤140737488355328∧(sp l gX gY gW a).length+(sp r gX (gY+a) gW (gH-a)).length≤140737488355328:=by omega
   refine cE ?_;simp +contextual -implicitDefEqProofs (maxSteps:=10^7) only[go_sem,seval,↓gZ,ZaX,VX,w1,w2,h1,e1,e2];simp[sp]
theorem Za5 (qL qW qH:Int) (qF:List Box):Ze Xs Ms VO [(.d (.agg [J qL,J qW,J qH,.sl (qF.map Box.enc)]))] []=some (.d (.agg [J 0,J 0,J qW,J qH]),[]):=by
 refine cE ?_;simp +contextual -implicitDefEqProofs (maxSteps:=10^7) only[go_sem,seval,↓gZ,ZfS]
theorem Xi (qL qW qH:Int) (qF:List Box):Ze Xs Ms XR [(.d (.agg [J qL,J qW,J qH,.sl (qF.map Box.enc)]))] []=some ((.d (.bool (decide (VPc (Zb.mk qL qW qH qF))))),[]):=by
 refine cE ?_;by_cases h0:(((qL<1∨9999<qL)∨¬VB ⟨0,0,qW,qH⟩)∨(6:Int)<qF.length)
 ·simp +contextual -implicitDefEqProofs (maxSteps:=10^7) only[go_sem,seval,↓gZ,Zao,Za5,V7,h0];exact Zgx (by simp only[VPc];simp only[VB] at h0;omega)
 ·simp +contextual -implicitDefEqProofs (maxSteps:=10^7) only[go_sem,seval,↓gZ,Zao,Za5,V7,h0];have hb:VB ⟨0,0,qW,qH⟩:=by
   refine Decidable.byContradiction fun h=>h0 (.inl (.inr h))
  refine LO (α:=Nat) (fun k=>[(28,.d (J (k:Int)))]) (fun _=>[]) (fun k=>k≤qF.length∧((∀ f∈qF,ZcD qW qH f)↔∀ f∈qF.drop k,ZcD qW qH f)) (fun k=>qF.length-k) 0 ⟨by omega,by simp⟩ ?_;intro k ⟨hk,hp⟩ ih;by_cases aa:k<qF.length
  ·obtain⟨x,hx⟩:=Zr aa;rw[Zey hx] at hp;have hw:=Zj (k:=k) (by simp only[VB] at hb h0;omega);obtain⟨X,Y,W,H⟩:=x;simp +contextual -implicitDefEqProofs (maxSteps:=10^7) only[go_sem,seval,↓gZ,hx,aa,hw,Za5,Zih,hb];refine⟨fun h=>Zgx (fun hh=>h ((hp.1 hh.2).1)),fun h=>ih (k+1) _ ⟨by omega,?_⟩ (by omega) ?_⟩
   ·rw[hp];exact⟨fun hh=>hh.2,fun hh=>⟨h,hh⟩⟩
   ·simp +contextual -implicitDefEqProofs (maxSteps:=10^7) only[go_sem,seval,↓gZ]
  ·have:k=qF.length:=by omega
   subst this;simp +contextual -implicitDefEqProofs (maxSteps:=10^7) only[go_sem,seval,↓gZ];have hv:∀ f∈qF,ZcD qW qH f:=hp.2 (by simp);exact Zxw (by simp only[VPc];simp only[VB] at h0;exact⟨by omega,hv⟩)
theorem Zf8 (qL qW qH:Int) (qF:List Box) (hl:qF.length<4611686018427387904) (hW:R64 qW) (hH:R64 qH):Ze Xs Ms Vp [(.d (.agg [J qL,J qW,J qH,.sl (qF.map Box.enc)]))] []=some ((.d (.bool (decide (VPc (Zb.mk qL qW qH qF))))),[]):=by
 refine cE ?_;simp +contextual -implicitDefEqProofs (maxSteps:=10^7) only[go_sem,seval,↓gZ,Zdb];refine LO (α:=Nat) (fun k=>[(3,.d (J (k:Int)))]) (fun _=>[]) (fun k=>k≤qF.length∧((∀ f∈qF,ZcD qW qH f)↔∀ f∈qF.drop k,ZcD qW qH f)) (fun k=>qF.length-k) 0 ⟨by omega,by simp⟩ ?_;intro k ⟨hk,hp⟩ ih;by_cases aa:k<qF.length
 ·obtain⟨x,hx⟩:=Zr aa;rw[Zey hx] at hp;have hw:=Zj (k:=k) (by omega);obtain⟨X,Y,W,H⟩:=x;by_cases hv:VB ⟨X,Y,W,H⟩
  ·have hi:=Zqj X Y W H 0 0 qW qH hv ⟨by omega,by omega⟩ ⟨by omega,by omega⟩ (by simpa using hW) (by simpa using hH);simp +contextual -implicitDefEqProofs (maxSteps:=10^7) only[go_sem,seval,↓gZ,hx,aa,hw,Zig,hi,hv];refine⟨fun h=>Zgx (fun hh=>h ((hp.1 hh.2).1.2)),fun h=>ih (k+1) _ ⟨by omega,?_⟩ (by omega) ?_⟩
   ·rw[hp];exact⟨fun hh=>hh.2,fun hh=>⟨⟨hv,h⟩,hh⟩⟩
   ·simp +contextual -implicitDefEqProofs (maxSteps:=10^7) only[go_sem,seval,↓gZ]
  ·simp +contextual -implicitDefEqProofs (maxSteps:=10^7) only[go_sem,seval,↓gZ,hx,aa,hw,Zig,hv];exact Zgx (fun hh=>hv ((hp.1 hh.2).1.1))
 ·have:k=qF.length:=by omega
  subst this;simp +contextual -implicitDefEqProofs (maxSteps:=10^7) only[go_sem,seval,↓gZ,ZJ];have hv:∀ f∈qF,ZcD qW qH f:=hp.2 (by simp);exact Zcs (by simp only[VPc];exact⟨fun h=>⟨by omega,hv⟩,fun h=>by omega⟩)
theorem Zo4 (fs:List Box) (bX bY bW bH:Int) (hf:∀ f∈fs,VB f) (hb:VB (Box.mk bX bY bW bH)) (hl:fs.length<4611686018427387904):Ze Xs Ms UQ [(.d (.sl (fs.map Box.enc))),(.d (.agg [J bX,J bY,J bW,J bH]))] []=some ((.d (.bool (!decide (Qg fs (Box.mk bX bY bW bH))))),[]):=by
 refine cE ?_;simp +contextual -implicitDefEqProofs (maxSteps:=10^7) only[go_sem,seval,↓gZ,Zec];refine LO (α:=Nat) (fun k=>[(11,.d (J (k:Int)))]) (fun _=>[]) (fun k=>k≤fs.length∧(Qg fs (Box.mk bX bY bW bH)↔Qg (fs.drop k) (Box.mk bX bY bW bH))) (fun k=>fs.length-k) 0 ⟨by omega,by simp⟩ ?_;intro k ⟨hk,hp⟩ ih;by_cases aa:k<fs.length
 ·obtain⟨x,hx⟩:=Zr aa;have ad:=hx;unfold Qg at hp;rw[Zey hx (fun f=>¬Up f (Box.mk bX bY bW bH))] at hp;have hw:=Zj (k:=k) (by omega);have ab:=hf x (Kc hx);obtain⟨X,Y,W,H⟩:=x;by_cases hm:Up ⟨X,Y,W,H⟩ (Box.mk bX bY bW bH)
  ·simp +contextual -implicitDefEqProofs (maxSteps:=10^7) only[go_sem,seval,↓gZ,hx,aa,hw,Zfu X Y W H bX bY bW bH ab hb hm];have:¬Qg fs (Box.mk bX bY bW bH):=fun hh=>(hp.1 hh).1 hm;simp[this]
  ·simp +contextual -implicitDefEqProofs (maxSteps:=10^7) only[go_sem,seval,↓gZ,hx,aa,hw,ZgU X Y W H bX bY bW bH (fun hh=>hm hh.2.2)];refine ih (k+1) _ ⟨by omega,?_⟩ (by omega) ?_
   ·unfold Qg;rw[hp];exact⟨fun hh=>hh.2,fun hh=>⟨hm,hh⟩⟩
   ·simp +contextual -implicitDefEqProofs (maxSteps:=10^7) only[go_sem,seval,↓gZ]
 ·have:k=fs.length:=by omega
  subst this;simp +contextual -implicitDefEqProofs (maxSteps:=10^7) only[go_sem,seval,↓gZ];have:Qg fs (Box.mk bX bY bW bH):=hp.2 (by simp[Qg]);simp[this]
theorem Zj1 (qL qW qH:Int) (qF:List Box) (bX bY bW bH:Int) (hf:∀ f∈qF,VB f) (hb:VB (Box.mk bX bY bW bH)) (hl:qF.length<4611686018427387904):Ze Xs Ms Jo [(.d (.agg [J qL,J qW,J qH,.sl (qF.map Box.enc)])),(.d (.agg [J bX,J bY,J bW,J bH]))] []=some ((.d (.bool (decide (Qg qF (Box.mk bX bY bW bH))))),[]):=by
 refine cE ?_;simp +contextual -implicitDefEqProofs (maxSteps:=10^7) only[go_sem,seval,↓gZ,Zhj];refine LO (α:=Nat) (fun k=>[(5,.d (J (k:Int)))]) (fun _=>[]) (fun k=>k≤qF.length∧(Qg qF (Box.mk bX bY bW bH)↔Qg (qF.drop k) (Box.mk bX bY bW bH))) (fun k=>qF.length-k) 0 ⟨by omega,by simp⟩ ?_;intro k ⟨hk,hp⟩ ih;by_cases aa:k<qF.length
 ·obtain⟨x,hx⟩:=Zr aa;unfold Qg at hp;rw[Zey hx (fun f=>¬Up f (Box.mk bX bY bW bH))] at hp;have hw:=Zj (k:=k) (by omega);have ab:=hf x (Kc hx);obtain⟨X,Y,W,H⟩:=x;by_cases hm:Up ⟨X,Y,W,H⟩ (Box.mk bX bY bW bH)
  ·simp +contextual -implicitDefEqProofs (maxSteps:=10^7) only[go_sem,seval,↓gZ,hx,aa,hw,ZjU X Y W H bX bY bW bH ab hb hm];have:¬Qg qF (Box.mk bX bY bW bH):=fun hh=>(hp.1 hh).1 hm;simp[this]
  ·simp +contextual -implicitDefEqProofs (maxSteps:=10^7) only[go_sem,seval,↓gZ,hx,aa,hw,Zl8 X Y W H bX bY bW bH ab hb hm];refine ih (k+1) _ ⟨by omega,?_⟩ (by omega) ?_
   ·unfold Qg;rw[hp];exact⟨fun hh=>hh.2,fun hh=>⟨hm,hh⟩⟩
   ·simp +contextual -implicitDefEqProofs (maxSteps:=10^7) only[go_sem,seval,↓gZ]
 ·have:k=qF.length:=by omega
  subst this;simp +contextual -implicitDefEqProofs (maxSteps:=10^7) only[go_sem,seval,↓gZ];have:Qg qF (Box.mk bX bY bW bH):=hp.2 (by simp[Qg]);simp[this]
theorem Zik (kW kH:Int) (kP:List Pane) (p:Zf) (b:BT) (hp:p=b.plan) (hg:inB ⟨0,0,kW,kH⟩) (hf:X3 kP b kW kH=true) (hl:b.cnt≤1000):Ze Xs Ms Ug [(.d (.agg [J kW,J kH,.sl (kP.map Pane.enc)])),.d p.enc] []=some (.own 0,[.row 6 ((plc b 0 0 kW kH).map Place.enc) true false]):=by
 have e:=Jk kP b 0 0 kW kH hg hf hl;have hm:=ZkJ b 0 0 kW kH (ZhD hf);have hn:=ZdI b 0 0 kW kH;rw[← hp] at e;rw[← hm];clear hm;generalize sp b 0 0 kW kH=S at e hn ⊢;clear hp hf hg;obtain⟨o,a,q,t,ks⟩:=p;rw[Zf.enc_mk] at e ⊢;refine cE ?_;simp +contextual -implicitDefEqProofs (maxSteps:=10^7) only[go_sem,seval,↓gZ,ZfZ,e];refine LO (α:=Nat) (fun i=>[(7,.d (J (i:Int)))]) (fun i=>[(1,.row 6 (((S.take i).filterMap Zdp).map Place.enc) true false)]) (fun i=>i≤S.length) (fun i=>S.length-i) 0 (by omega) ?_;intro i hi ih;by_cases aa:i<S.length
 ·obtain⟨x,hx⟩:=Zr aa;have hw:=Zj (k:=i) (by omega);have hm:=Za2 (f:=Zdp) hx;have ab:((S.take i).filterMap Zdp).length≤i:=Kx (Kl _ _) (by simp;omega);have hr:(((S.take i).filterMap Zdp).length+1)*48≤140737488355328∧((S.take i).filterMap Zdp).length≤140737488355327:=by omega
  obtain⟨q',t',⟨X,Y,W,H⟩⟩:=x;simp only[Zdp] at hm;by_cases ho:0≤q'
  ·rw[Ki ho] at hm;simp +contextual -implicitDefEqProofs (maxSteps:=10^7) only[go_sem,seval,↓gZ,hx,aa,hw,ho,hr];refine ih (i+1) _ (by omega) (by omega) ?_;simp +contextual -implicitDefEqProofs (maxSteps:=10^7) only[go_sem,seval,↓gZ,hm]
   first | rfl | (simp;done) | (simp;rfl)
  ·rw[Kd ho] at hm;simp +contextual -implicitDefEqProofs (maxSteps:=10^7) only[go_sem,seval,↓gZ,hx,aa,hw,ho,hr];refine ih (i+1) _ (by omega) (by omega) ?_;simp +contextual -implicitDefEqProofs (maxSteps:=10^7) only[go_sem,seval,↓gZ,hm]
   first | rfl | (simp;done) | (simp;rfl)
 ·have:i=S.length:=by omega
  subst this;simp +contextual -implicitDefEqProofs (maxSteps:=10^7) only[go_sem,seval,↓gZ];simp
theorem Zil (kW kH:Int) (kP:List Pane) (p:Zf) (b:BT) (hp:p=b.plan) (hg:inB ⟨0,0,kW,kH⟩) (hf:X3 kP b kW kH=true) (hl:b.cnt≤1000):Ze Xs Ms Uf [(.d (.agg [J kW,J kH,.sl (kP.map Pane.enc)])),.d p.enc] []=some (.own 0,[.row 4 ((wst b 0 0 kW kH).map Box.enc) true false]):=by
 have e:=Jk kP b 0 0 kW kH hg hf hl;have hm:=ZkK b 0 0 kW kH (ZhD hf);have hn:=ZdI b 0 0 kW kH;rw[← hp] at e;rw[← hm];clear hm;generalize sp b 0 0 kW kH=S at e hn ⊢;clear hp hf hg;obtain⟨o,a,q,t,ks⟩:=p;rw[Zf.enc_mk] at e ⊢;refine cE ?_;simp +contextual -implicitDefEqProofs (maxSteps:=10^7) only[go_sem,seval,↓gZ,ZfY,e];refine LO (α:=Nat) (fun i=>[(7,.d (J (i:Int)))]) (fun i=>[(1,.row 4 (((S.take i).filterMap Zdq).map Box.enc) true false)]) (fun i=>i≤S.length) (fun i=>S.length-i) 0 (by omega) ?_;intro i hi ih;by_cases aa:i<S.length
 ·obtain⟨x,hx⟩:=Zr aa;have hw:=Zj (k:=i) (by omega);have hm:=Za2 (f:=Zdq) hx;have ab:((S.take i).filterMap Zdq).length≤i:=Kx (Kl _ _) (by simp;omega);have hr:(((S.take i).filterMap Zdq).length+1)*32≤140737488355328∧((S.take i).filterMap Zdq).length≤140737488355327:=by omega
  obtain⟨q',t',⟨X,Y,W,H⟩⟩:=x;simp only[Zdq] at hm;by_cases ho:q' < 0
  ·rw[Ki ho] at hm;simp +contextual -implicitDefEqProofs (maxSteps:=10^7) only[go_sem,seval,↓gZ,hx,aa,hw,ho,hr];refine ih (i+1) _ (by omega) (by omega) ?_;simp +contextual -implicitDefEqProofs (maxSteps:=10^7) only[go_sem,seval,↓gZ,hm]
   first | rfl | (simp;done) | (simp;rfl)
  ·rw[Kd ho] at hm;simp +contextual -implicitDefEqProofs (maxSteps:=10^7) only[go_sem,seval,↓gZ,hx,aa,hw,ho,hr];refine ih (i+1) _ (by omega) (by omega) ?_;simp +contextual -implicitDefEqProofs (maxSteps:=10^7) only[go_sem,seval,↓gZ,hm]
   first | rfl | (simp;done) | (simp;rfl)
 ·have:i=S.length:=by omega
  subst this;simp +contextual -implicitDefEqProofs (maxSteps:=10^7) only[go_sem,seval,↓gZ];simp
theorem Zqq (qL qW qH:Int) (qF:List Box) (kW kH:Int) (kP:List Pane) (p:Zf):Ze Xs Ms Zad [(.d (.agg [J qL,J qW,J qH,.sl (qF.map Box.enc)])),(.d (.agg [J kW,J kH,.sl (kP.map Pane.enc)])),.d p.enc] []=some ((.d (.bool (decide (VPc (Zb.mk qL qW qH qF)∧Wt (Zb.mk qL qW qH qF) (ZF.mk kW kH kP) p)))),[]):=by
 have ev:=JR kW kH kP p;by_cases hq:VPc (Zb.mk qL qW qH qF)
 ·by_cases hv:Vx (ZF.mk kW kH kP) p=true
  ·by_cases hw:kW=qW
   ·by_cases hh:kH=qH
    ·subst hw;subst hh;have ep:=ZdT kW kH kP p;obtain⟨b,hb,ah,ai,aj,ad,af⟩:=Xq hv;have ab:∀ c∈(QH (ZF.mk kW kH kP) p).filterMap Xx,VB c.Box:=by
      rw[af,V6];exact ZjC (p:=p) ai ad
     have ae:((QH (ZF.mk kW kH kP) p).filterMap Xx).length≤255:=Kx (Kl _ _) (ZaT _ _);have aa:Wt ⟨qL,kW,kH,qF⟩ (ZF.mk kW kH kP) p↔∀ c∈(QH (ZF.mk kW kH kP) p).filterMap Xx,Qg qF c.Box:=by
      unfold Wt;exact⟨fun h=>h.2.2.2,fun h=>⟨hv,rfl,rfl,h⟩⟩
     have ak:∀ f∈qF,VB f:=fun f hf=>(hq.2 f hf).1;have an:qF.length≤6:=hq.1.2.2.2.2.2.2;rw[hv] at ev;generalize hL:(QH (ZF.mk kW kH kP) p).filterMap Xx=L at ep ab ae aa;clear hL af ah hb;obtain⟨o,a,n,t,ks⟩:=p;rw[Zf.enc_mk] at ev ep ⊢;refine cE ?_;simp +contextual -implicitDefEqProofs (maxSteps:=10^7) only[go_sem,seval,↓gZ,VT,Xi,hq,ev,ep];refine LO (α:=Nat) (fun i=>[(36,.d (J (i:Int)))]) (fun _=>[]) (fun i=>i≤L.length∧((∀ c∈L,Qg qF c.Box)↔∀ c∈L.drop i,Qg qF c.Box)) (fun i=>L.length-i) 0 ⟨by omega,by simp⟩ ?_;intro i ⟨hi,hp⟩ ih;by_cases ag:i<L.length
     ·obtain⟨x,hx⟩:=Zr ag;rw[Zey hx (fun c=>Qg qF c.Box)] at hp;have hw:=Zj (k:=i) (by omega);have al:=ab x (Kc hx);obtain⟨q',t',⟨X,Y,W,H⟩⟩:=x;have em:=Zo4 qF X Y W H ak al (by omega);simp +contextual -implicitDefEqProofs (maxSteps:=10^7) only[go_sem,seval,↓gZ,hx,ag,hw,em];refine⟨fun h=>Zgx (fun h'=>h ((hp.1 (aa.1 h')).1)),fun h=>ih (i+1) _ ⟨by omega,?_⟩ (by omega) ?_⟩
      ·rw[hp];exact⟨fun h'=>h'.2,fun h'=>⟨h,h'⟩⟩
      ·simp +contextual -implicitDefEqProofs (maxSteps:=10^7) only[go_sem,seval,↓gZ]
     ·have:i=L.length:=by omega
      subst this;simp +contextual -implicitDefEqProofs (maxSteps:=10^7) only[go_sem,seval,↓gZ];exact Zxw (aa.2 (hp.2 (by simp)))
    ·subst hw;have hn:¬Wt ⟨qL,kW,qH,qF⟩ (ZF.mk kW kH kP) p:=fun h=>hh h.2.2.1;obtain⟨o,a,n,t,ks⟩:=p;rw[hv] at ev;rw[Zf.enc_mk] at ev ⊢;refine cE ?_;simp +contextual -implicitDefEqProofs (maxSteps:=10^7) only[go_sem,seval,↓gZ,VT,Xi,hq,ev,hh,hn]
   ·have hn:¬Wt (Zb.mk qL qW qH qF) (ZF.mk kW kH kP) p:=fun h=>hw h.2.1;obtain⟨o,a,n,t,ks⟩:=p;rw[hv] at ev;rw[Zf.enc_mk] at ev ⊢;refine cE ?_;simp +contextual -implicitDefEqProofs (maxSteps:=10^7) only[go_sem,seval,↓gZ,VT,Xi,hq,ev,hw,hn]
  ·have am:=(LH _).mp hv;have hn:¬Wt (Zb.mk qL qW qH qF) (ZF.mk kW kH kP) p:=fun h=>hv h.1;rw[am] at ev;obtain⟨o,a,n,t,ks⟩:=p;rw[Zf.enc_mk] at ev ⊢;refine cE ?_;simp +contextual -implicitDefEqProofs (maxSteps:=10^7) only[go_sem,seval,↓gZ,VT,Xi,hq,ev,hn]
 ·obtain⟨o,a,n,t,ks⟩:=p;rw[Zf.enc_mk] at ev ⊢;refine cE ?_;simp +contextual -implicitDefEqProofs (maxSteps:=10^7) only[go_sem,seval,↓gZ,VT,Xi,hq]
theorem Zim (qL qW qH:Int) (qF:List Box) (kW kH:Int) (kP:List Pane) (p:Zf) (al:∀ f∈qF,VB f) (ao:qF.length≤6) (hl:kP.length<4611686018427387904):Ze Xs Ms Zah [(.d (.agg [J qL,J qW,J qH,.sl (qF.map Box.enc)])),(.d (.agg [J kW,J kH,.sl (kP.map Pane.enc)])),.d p.enc] []=some ((.d (.bool (decide (Wt (Zb.mk qL qW qH qF) (ZF.mk kW kH kP) p)))),[]):=by
 have ev:=ZgV kW kH kP p hl;by_cases hv:Vx (ZF.mk kW kH kP) p=true
 ·by_cases hw:kW=qW
  ·by_cases hh:kH=qH
   ·subst hw;subst hh;obtain⟨b,hb,ah,ai,ae,ab,aj⟩:=Xq hv;have af:=ai;simp only[VW] at af;have ep:=Zik kW kH kP p b ah (by simp only[inB];omega) ab (by omega);have ad:∀ c∈plc b 0 0 kW kH,VB c.Box:=ZjC (p:=p) ai ab;have ag:(plc b 0 0 kW kH).length≤255:=by
     rw[← V6];exact Kx (Kl _ _) (by rw[JH];exact ae)
    have aa:Wt ⟨qL,kW,kH,qF⟩ (ZF.mk kW kH kP) p↔∀ c∈plc b 0 0 kW kH,Qg qF c.Box:=by
     unfold Wt;rw[aj,V6];exact⟨fun h=>h.2.2.2,fun h=>⟨hv,rfl,rfl,h⟩⟩
    rw[hv] at ev;generalize plc b 0 0 kW kH=L at ep ad ag aa;clear aj ah hb;obtain⟨o,a,n,t,ks⟩:=p;rw[Zf.enc_mk] at ev ep ⊢;refine cE ?_;simp +contextual -implicitDefEqProofs (maxSteps:=10^7) only[go_sem,seval,↓gZ,Um,ev,ep];refine LO (α:=Nat) (fun i=>[(8,.d (J (i:Int)))]) (fun _=>[]) (fun i=>i≤L.length∧((∀ c∈L,Qg qF c.Box)↔∀ c∈L.drop i,Qg qF c.Box)) (fun i=>L.length-i) 0 ⟨by omega,by simp⟩ ?_;intro i ⟨hi,hp⟩ ih;by_cases ak:i<L.length
    ·obtain⟨x,hx⟩:=Zr ak;rw[Zey hx (fun c=>Qg qF c.Box)] at hp;have hw:=Zj (k:=i) (by omega);have am:=ad x (Kc hx);obtain⟨q',t',⟨X,Y,W,H⟩⟩:=x;have em:=Zj1 qL kW kH qF X Y W H al am (by omega);simp +contextual -implicitDefEqProofs (maxSteps:=10^7) only[go_sem,seval,↓gZ,hx,ak,hw,em];refine⟨fun h=>Zgx (fun h'=>h ((hp.1 (aa.1 h')).1)),fun h=>ih (i+1) _ ⟨by omega,?_⟩ (by omega) ?_⟩
     ·rw[hp];exact⟨fun h'=>h'.2,fun h'=>⟨h,h'⟩⟩
     ·simp +contextual -implicitDefEqProofs (maxSteps:=10^7) only[go_sem,seval,↓gZ]
    ·have:i=L.length:=by omega
     subst this;simp +contextual -implicitDefEqProofs (maxSteps:=10^7) only[go_sem,seval,↓gZ];exact Zxw (aa.2 (hp.2 (by simp)))
   ·subst hw;have hn:¬Wt ⟨qL,kW,qH,qF⟩ (ZF.mk kW kH kP) p:=fun h=>hh h.2.2.1;obtain⟨o,a,n,t,ks⟩:=p;rw[hv] at ev;rw[Zf.enc_mk] at ev ⊢;refine cE ?_;simp +contextual -implicitDefEqProofs (maxSteps:=10^7) only[go_sem,seval,↓gZ,Um,ev,hh,hn]
  ·have hn:¬Wt (Zb.mk qL qW qH qF) (ZF.mk kW kH kP) p:=fun h=>hw h.2.1;obtain⟨o,a,n,t,ks⟩:=p;rw[hv] at ev;rw[Zf.enc_mk] at ev ⊢;refine cE ?_;simp +contextual -implicitDefEqProofs (maxSteps:=10^7) only[go_sem,seval,↓gZ,Um,ev,hw,hn]
 ·have an:=(LH _).mp hv;have hn:¬Wt (Zb.mk qL qW qH qF) (ZF.mk kW kH kP) p:=fun h=>hv h.1;rw[an] at ev;obtain⟨o,a,n,t,ks⟩:=p;rw[Zf.enc_mk] at ev ⊢;refine cE ?_;simp +contextual -implicitDefEqProofs (maxSteps:=10^7) only[go_sem,seval,↓gZ,Um,ev,hn]
theorem Zvg (qL qW qH:Int) (qF:List Box) (bX bY bW bH:Int) (label:Int) (hq:VPc (Zb.mk qL qW qH qF)) (hb:VB (Box.mk bX bY bW bH)) (hi:Wl (Box.mk bX bY bW bH) ⟨0,0,qW,qH⟩) (h1:1≤label) (h2:label≤9999) :
  Ze Xs Ms Zc3 [(.d (.agg [J qL,J qW,J qH,.sl (qF.map Box.enc)])),(.d (.agg [J bX,J bY,J bW,J bH])),(.d (J label))] []=some (.agg [(.d (J label)),(.d (J bW)),(.d (J bH)),.own 0],[.row 4 ((qF.filterMap (YF (Box.mk bX bY bW bH))).map Box.enc) true false]):=by
 have ae:=hq.1;simp only at ae;have n1:¬label<1:=by omega
 have n2:¬9999<label:=by omega
 have af:VB ⟨0,0,qW,qH⟩:=by simp only[VB];omega
 refine cE ?_;simp +contextual -implicitDefEqProofs (maxSteps:=10^7) only[go_sem,seval,↓gZ,Zi6,Xi,Za5,Zih,hq,hb,hi,af,n1,n2];refine LO (α:=Nat) (fun i=>[(40,.d (J (i:Int)))]) (fun i=>[(3,.row 4 (((qF.take i).filterMap (YF (Box.mk bX bY bW bH))).map Box.enc) true false)]) (fun i=>i≤qF.length) (fun i=>qF.length-i) 0 (by omega) ?_;intro i hk ih;by_cases aa:i<qF.length
 ·obtain⟨x,hx⟩:=Zr aa;have hw:=Zj (k:=i) (by omega);have hm:=Za2 (f:=YF (Box.mk bX bY bW bH)) hx;have ah:((qF.take i).filterMap (YF (Box.mk bX bY bW bH))).length≤i:=Kx (Kl _ _) (by simp;omega);have hr:(((qF.take i).filterMap (YF (Box.mk bX bY bW bH))).length+1)*32≤140737488355328∧((qF.take i).filterMap (YF (Box.mk bX bY bW bH))).length≤140737488355327:=by omega
  have ad:=(hq.2 x (Kc hx)).1;obtain⟨X,Y,W,H⟩:=x;have ab:=ad;have ag:=hb;simp only[VB] at ab ag;simp only[YF] at hm;by_cases ho:Up ⟨X,Y,W,H⟩ (Box.mk bX bY bW bH)
  ·rw[Ki ho] at hm;have w1:=wi (max X bX-bX) (by omega) (by omega);have w2:=wi (max Y bY-bY) (by omega) (by omega);simp +contextual -implicitDefEqProofs (maxSteps:=10^7) only[go_sem,seval,↓gZ,hx,aa,hw,Zfu X Y W H bX bY bW bH ad hb ho,hr,Zgy,w1,w2];refine ih (i+1) _ (by omega) (by omega) ?_;simp +contextual -implicitDefEqProofs (maxSteps:=10^7) only[go_sem,seval,↓gZ,hm,Zs4,Zgy]
   first | rfl | (simp;done) | (simp;rfl)
  ·rw[Kd ho] at hm;simp +contextual -implicitDefEqProofs (maxSteps:=10^7) only[go_sem,seval,↓gZ,hx,aa,hw,ZgU X Y W H bX bY bW bH (fun hh=>ho hh.2.2),hr];refine ih (i+1) _ (by omega) (by omega) ?_;simp +contextual -implicitDefEqProofs (maxSteps:=10^7) only[go_sem,seval,↓gZ,hm]
   first | rfl | (simp;done) | (simp;rfl)
 ·have:i=qF.length:=by omega
  subst this;simp +contextual -implicitDefEqProofs (maxSteps:=10^7) only[go_sem,seval,↓gZ];try simp
theorem Zvh (qL qW qH:Int) (qF:List Box) (bX bY bW bH:Int) (label:Int) (hf:∀ f∈qF,VB f) (hl:qF.length≤6) (hb:VB (Box.mk bX bY bW bH)) :
  Ze Xs Ms Zc4 [(.d (.agg [J qL,J qW,J qH,.sl (qF.map Box.enc)])),(.d (.agg [J bX,J bY,J bW,J bH])),(.d (J label))] []=some (.agg [(.d (J label)),(.d (J bW)),(.d (J bH)),.own 0],[.row 4 ((qF.filterMap (YF (Box.mk bX bY bW bH))).map Box.enc) true false]):=by
 refine cE ?_;simp +contextual -implicitDefEqProofs (maxSteps:=10^7) only[go_sem,seval,↓gZ,Zi7];refine LO (α:=Nat) (fun i=>[(8,.d (J (i:Int)))]) (fun i=>[(4,.row 4 (((qF.take i).filterMap (YF (Box.mk bX bY bW bH))).map Box.enc) true false)]) (fun i=>i≤qF.length) (fun i=>qF.length-i) 0 (by omega) ?_;intro i hk ih;by_cases aa:i<qF.length
 ·obtain⟨x,hx⟩:=Zr aa;have hw:=Zj (k:=i) (by omega);have hm:=Za2 (f:=YF (Box.mk bX bY bW bH)) hx;have af:((qF.take i).filterMap (YF (Box.mk bX bY bW bH))).length≤i:=Kx (Kl _ _) (by simp;omega);have hr:(((qF.take i).filterMap (YF (Box.mk bX bY bW bH))).length+1)*32≤140737488355328∧((qF.take i).filterMap (YF (Box.mk bX bY bW bH))).length≤140737488355327:=by omega
  have ab:=hf x (Kc hx);obtain⟨X,Y,W,H⟩:=x;have ad:=ab;have ae:=hb;simp only[VB] at ad ae;simp only[YF] at hm;by_cases ho:Up ⟨X,Y,W,H⟩ (Box.mk bX bY bW bH)
  ·rw[Ki ho] at hm;have w1:=wi (max X bX-bX) (by omega) (by omega);have w2:=wi (max Y bY-bY) (by omega) (by omega);simp +contextual -implicitDefEqProofs (maxSteps:=10^7) only[go_sem,seval,↓gZ,hx,aa,hw,ZjU X Y W H bX bY bW bH ab hb ho,hr,Zgy,w1,w2];refine ih (i+1) _ (by omega) (by omega) ?_;simp +contextual -implicitDefEqProofs (maxSteps:=10^7) only[go_sem,seval,↓gZ,hm,Zs4,Zgy]
   first | rfl | (simp;done) | (simp;rfl)
  ·rw[Kd ho] at hm;simp +contextual -implicitDefEqProofs (maxSteps:=10^7) only[go_sem,seval,↓gZ,hx,aa,hw,Zl8 X Y W H bX bY bW bH ab hb ho,hr];refine ih (i+1) _ (by omega) (by omega) ?_;simp +contextual -implicitDefEqProofs (maxSteps:=10^7) only[go_sem,seval,↓gZ,hm]
   first | rfl | (simp;done) | (simp;rfl)
 ·have:i=qF.length:=by omega
  subst this;simp +contextual -implicitDefEqProofs (maxSteps:=10^7) only[go_sem,seval,↓gZ];try simp
theorem Zf9 (kW kH:Int) (kP:List Pane) (p:Zf) (Zi:Int):Ze Xs Ms WT [(.d (.agg [J kW,J kH,.sl (kP.map Pane.enc)])),.d p.enc,(.d (J Zi))] []=some (.own 0,[.row 4 ((Q8 (ZF.mk kW kH kP) p Zi).map Box.enc) true false]):=by
 have hv:=Zij kW kH kP p;have hn:((QH (ZF.mk kW kH kP) p).filterMap XY).length≤255:=Kx (Kl _ _) (ZaT (ZF.mk kW kH kP) p);unfold Q8;generalize (QH (ZF.mk kW kH kP) p).filterMap XY=ps at hv hn ⊢;obtain⟨o,a,q,t,ks⟩:=p;rw[Zf.enc_mk] at hv ⊢;refine cE ?_;simp +contextual -implicitDefEqProofs (maxSteps:=10^7) only[go_sem,seval,↓gZ,Zde,hv];refine LO (α:=Nat) (fun k=>[(14,.d (J (k:Int)))]) (fun k=>[(1,.row 4 (((ps.take k).filterMap (UA Zi)).map Box.enc) true false)]) (fun k=>k≤ps.length) (fun k=>ps.length-k) 0 (by omega) ?_;intro k hk ih;by_cases aa:k<ps.length
 ·obtain⟨x,hx⟩:=Zr aa;have hw:=Zj (k:=k) (by omega);have hm:=Za2 (f:=UA Zi) hx;have ab:((ps.take k).filterMap (UA Zi)).length≤k:=Kx (Kl _ _) (by simp;omega);have hr:(((ps.take k).filterMap (UA Zi)).length+1)*32≤140737488355328∧((ps.take k).filterMap (UA Zi)).length≤140737488355327:=by omega
  obtain⟨X,Y,W,H⟩:=x;simp only[UA] at hm;by_cases ho:Zi≤W∧Zi≤H
  ·rw[Ki ho] at hm;simp +contextual -implicitDefEqProofs (maxSteps:=10^7) only[go_sem,seval,↓gZ,hx,aa,hw,ho,hr];refine ih (k+1) _ (by omega) (by omega) ?_;simp +contextual -implicitDefEqProofs (maxSteps:=10^7) only[go_sem,seval,↓gZ,hm]
   first | rfl | (simp;done) | (simp;rfl)
  ·rw[Kd ho] at hm;simp +contextual -implicitDefEqProofs (maxSteps:=10^7) only[go_sem,seval,↓gZ,hx,aa,hw,ho,hr];refine ih (k+1) _ (by omega) (by omega) ?_;simp +contextual -implicitDefEqProofs (maxSteps:=10^7) only[go_sem,seval,↓gZ,hm]
   first | rfl | (simp;done) | (simp;rfl)
 ·have:k=ps.length:=by omega
  subst this;simp +contextual -implicitDefEqProofs (maxSteps:=10^7) only[go_sem,seval,↓gZ];simp
theorem Zj2 (qL qW qH:Int) (qF:List Box) (kW kH:Int) (kP:List Pane) (p:Zf) (Zi label:Int) (hq:VPc (Zb.mk qL qW qH qF)) (hv:Vx (ZF.mk kW kH kP) p=true) (hW:kW=qW) (hH:kH=qH) (h1:1≤label) (h2:label≤10000)
  (hk:(Q8 (ZF.mk kW kH kP) p Zi).length≤10000-label):Ze Xs Ms YB [(.d (.agg [J qL,J qW,J qH,.sl (qF.map Box.enc)])),(.d (.agg [J kW,J kH,.sl (kP.map Pane.enc)])),.d p.enc,(.d (J Zi)),(.d (J label))] [] =
  some (.tup [.own 0,(.d (.bool true))],[.row 4 ((U9 (Zb.mk qL qW qH qF) label (Q8 (ZF.mk kW kH kP) p Zi)).map Zb.enc) true false]):=by
 have ek:=Zf9 kW kH kP p Zi;have aa:∀ b∈Q8 (ZF.mk kW kH kP) p Zi,VB b∧Wl b ⟨0,0,qW,qH⟩:=by
  intro b hb;have:=Zoj (Zi:=Zi) hv b hb;rw[← hW,← hH];exact this
 have hn:=ZhE (ZF.mk kW kH kP) p Zi;generalize Q8 (ZF.mk kW kH kP) p Zi=L at ek aa hn hk ⊢;clear hv;have w0:=wi (10000-label) (by omega) (by omega);have n0:¬(10000-label<(L.length:Int)):=by omega
 obtain⟨o,a,n,t,ks⟩:=p;rw[Zf.enc_mk] at ek ⊢;refine cE ?_;simp +contextual -implicitDefEqProofs (maxSteps:=10^7) only[go_sem,seval,↓gZ,U5,ek,w0,n0];refine LO (α:=Nat) (fun i=>[(27,.d (J (i:Int)))]) (fun i=>[(1,.row 4 ((U9 (Zb.mk qL qW qH qF) label (L.take i)).map Zb.enc) true false)]) (fun i=>i≤L.length) (fun i=>L.length-i) 0 (by omega) ?_;intro i hi ih;by_cases ab:i<L.length
 ·obtain⟨x,hx⟩:=Zr ab;have hw:=Zj (k:=i) (by omega);have hm:=ZyC (Zb.mk qL qW qH qF) label hx;have hl:(U9 (Zb.mk qL qW qH qF) label (L.take i)).length=i:=by rw[ZcE];simp;omega
  have hr:(i+1)*48≤140737488355328∧i≤140737488355327:=by omega
  have ad:=aa x (Kc hx);have w1:=wi (label+(i:Int)) (by omega) (by omega);obtain⟨X,Y,W,H⟩:=x;have hc:=Zvg qL qW qH qF X Y W H (label+(i:Int)) hq ad.1 ad.2 (by omega) (by omega);simp +contextual -implicitDefEqProofs (maxSteps:=10^7) only[go_sem,seval,↓gZ,hx,ab,hw,w1,hc,hl,hr];refine ih (i+1) _ (by omega) (by omega) ?_;simp +contextual -implicitDefEqProofs (maxSteps:=10^7) only[go_sem,seval,↓gZ,hm,Zoi]
  first | rfl | (simp;done) | (simp;rfl)
 ·have:i=L.length:=by omega
  subst this;simp +contextual -implicitDefEqProofs (maxSteps:=10^7) only[go_sem,seval,↓gZ];try simp
theorem Zk8 (qL qW qH:Int) (qF:List Box) (kW kH:Int) (kP:List Pane) (p:Zf) (Zi label:Int) (h1:1≤label) (h2:label≤10000)
  (hk:¬(Q8 (ZF.mk kW kH kP) p Zi).length≤10000-label):Ze Xs Ms YB [(.d (.agg [J qL,J qW,J qH,.sl (qF.map Box.enc)])),(.d (.agg [J kW,J kH,.sl (kP.map Pane.enc)])),.d p.enc,(.d (J Zi)),(.d (J label))] [] =
  some (.tup [.own 0,(.d (.bool false))],[.row 4 [] true false]):=by
 have ek:=Zf9 kW kH kP p Zi;generalize Q8 (ZF.mk kW kH kP) p Zi=L at ek hk ⊢;have w0:=wi (10000-label) (by omega) (by omega);have n0:10000-label<(L.length:Int):=by omega
 obtain⟨o,a,n,t,ks⟩:=p;rw[Zf.enc_mk] at ek ⊢;refine cE ?_;simp +contextual -implicitDefEqProofs (maxSteps:=10^7) only[go_sem,seval,↓gZ,U5,ek,w0,n0]
theorem ZcR (bX bY bW bH:Int) (Zi:Int):Ze Xs Ms Wg [(.d (.agg [J bX,J bY,J bW,J bH])),(.d (J Zi))] []=some ((.d (.bool (decide (Zi≤bW∧Zi≤bH)))),[]):=by
 refine cE ?_;simp +contextual -implicitDefEqProofs (maxSteps:=10^7) only[go_sem,seval,↓gZ,Zeb]
theorem Zj3 (bX bY bW bH:Int) (hb:VB (Box.mk bX bY bW bH)):Ze Xs Ms Jn [(.d (.agg [J bX,J bY,J bW,J bH]))] []=some ((.d (J (bW*bH))),[]):=by
 have h:=Zb5 hb;simp only at h;have w:=wi (bW*bH) (by omega) (by omega);refine cE ?_;simp +contextual -implicitDefEqProofs (maxSteps:=10^7) only[go_sem,seval,↓gZ,Zhi,w]
theorem Zqr (kW kH:Int) (kP:List Pane) (p:Zf) (Zi:Int) (hv:Vx (ZF.mk kW kH kP) p=true) (h1:1≤Zi) (h2:Zi≤200):Ze Xs Ms Zaa [(.d (.agg [J kW,J kH,.sl (kP.map Pane.enc)])),.d p.enc,(.d (J Zi))] [] =
  some ((.d (J (X4 (Zez (ZF.mk kW kH kP) p Zi)))),[]):=by
 have ev:=JR kW kH kP p;rw[hv] at ev;have ep:=Zij kW kH kP p;have aa:=ZeA hv;have ad:((QH (ZF.mk kW kH kP) p).filterMap XY).length≤255:=Kx (Kl _ _) (ZaT _ _);unfold Zez;generalize (QH (ZF.mk kW kH kP) p).filterMap XY=L at ep aa ad ⊢;clear hv;have n1:¬Zi<1:=by omega
 have n2:¬200<Zi:=by omega
 obtain⟨o,a,n,t,ks⟩:=p;rw[Zf.enc_mk] at ev ep ⊢;refine cE ?_;simp +contextual -implicitDefEqProofs (maxSteps:=10^7) only[go_sem,seval,↓gZ,ZfO,ev,ep,n1,n2];refine LO (α:=Nat) (fun i=>[(26,.d (J (i:Int))),(7,.d (J (X4 ((L.take i).filterMap (Jh Zi)))))]) (fun _=>[]) (fun i=>i≤L.length) (fun i=>L.length-i) 0 (by omega) ?_;intro i hi ih;by_cases ae:i<L.length
 ·obtain⟨x,hx⟩:=Zr ae;have hw:=Zj (k:=i) (by omega);have hm:=Za2 (f:=Jh Zi) hx;have af:=aa x (Kc hx);have ha:=ZgF (l:=(L.take i).filterMap (Jh Zi)) (fun c hc=>by
   obtain⟨d,hd,ab⟩:=Lg.1 hc;unfold Jh at ab;split at ab
   ·cases ab;exact aa c (K0 hd)
   ·cases ab)
  have ah:((L.take i).filterMap (Jh Zi)).length≤i:=Kx (Kl _ _) (by simp;omega);have ag:=Zb5 af;obtain⟨X,Y,W,H⟩:=x;simp only at ag;have w1:=wi (X4 ((L.take i).filterMap (Jh Zi))+W*H) (by omega) (by omega);simp only[Jh] at hm;by_cases ho:W<Zi∨H<Zi
  ·rw[Ki ho] at hm;simp +contextual -implicitDefEqProofs (maxSteps:=10^7) only[go_sem,seval,↓gZ,hx,ae,hw,ho,Zj3 X Y W H af,w1];refine ih (i+1) _ (by omega) (by omega) ?_;simp +contextual -implicitDefEqProofs (maxSteps:=10^7) only[go_sem,seval,↓gZ,hm,Zb4,Option.toList,X4]
   first | rfl | (simp;done) | (simp;rfl)
  ·rw[Kd ho] at hm;simp +contextual -implicitDefEqProofs (maxSteps:=10^7) only[go_sem,seval,↓gZ,hx,ae,hw,ho];refine ih (i+1) _ (by omega) (by omega) ?_;simp +contextual -implicitDefEqProofs (maxSteps:=10^7) only[go_sem,seval,↓gZ,hm]
   first | rfl | (simp;done) | (simp;rfl)
 ·have:i=L.length:=by omega
  subst this;simp +contextual -implicitDefEqProofs (maxSteps:=10^7) only[go_sem,seval,↓gZ];try simp
theorem Zqs (qL qW qH:Int) (qF:List Box) (kW kH:Int) (kP:List Pane) (p:Zf) (Zi label:Int) (hq:VPc (Zb.mk qL qW qH qF)) (hv:Vx (ZF.mk kW kH kP) p=true) (h1:1≤label) (h2:label≤10000) :
  Ze Xs Ms Zai [(.d (.agg [J qL,J qW,J qH,.sl (qF.map Box.enc)])),(.d (.agg [J kW,J kH,.sl (kP.map Pane.enc)])),.d p.enc,(.d (J Zi)),(.d (J label))] [] =
  some (.own 0,[.row 4 ((U9 (Zb.mk qL qW qH qF) label (Q8 (ZF.mk kW kH kP) p Zi)).map Zb.enc) true false]):=by
 obtain⟨b,hb,ah,ai,ak,ae,aj⟩:=Xq hv;have af:=ai;simp only[VW] at af;have ep:=Zil kW kH kP p b ah (by simp only[inB];omega) ae (by omega);have ab:=ZeA hv;have ad:((QH (ZF.mk kW kH kP) p).filterMap XY).length≤255:=Kx (Kl _ _) (ZaT _ _);unfold Q8;rw[aj,Zex] at ab ad ⊢;have al:∀ f∈qF,VB f:=fun f hf=>(hq.2 f hf).1;have am:qF.length≤6:=hq.1.2.2.2.2.2.2;have aa:∀ i,((wst b 0 0 kW kH).take i).length≤255:=fun i=>Kx (List.length_take_le' _ _) ad;generalize wst b 0 0 kW kH=L at ep ab ad aa ⊢;clear aj ah hb hv ae ai af;obtain⟨o,a,n,t,ks⟩:=p;rw[Zf.enc_mk] at ep ⊢;refine cE ?_
 simp +contextual -implicitDefEqProofs (maxSteps:=10^7) only[go_sem,seval,↓gZ,ZfX,ep];refine LO (α:=Nat) (fun i=>[(13,.d (J (i:Int)))]) (fun i=>[(1,.row 4 ((U9 (Zb.mk qL qW qH qF) label ((L.take i).filterMap (UA Zi))).map Zb.enc) true false)]) (fun i=>i≤L.length) (fun i=>L.length-i) 0 (by omega) ?_;intro i hi ih;by_cases ag:i<L.length
 ·obtain⟨x,hx⟩:=Zr ag;have hw:=Zj (k:=i) (by omega);have hm:=Za2 (f:=UA Zi) hx;have ap:((L.take i).filterMap (UA Zi)).length≤255:=Kx (Kl _ _) (aa i);have hl:=ZcE (Zb.mk qL qW qH qF) label ((L.take i).filterMap (UA Zi));have hr:(((L.take i).filterMap (UA Zi)).length+1)*48≤140737488355328∧((L.take i).filterMap (UA Zi)).length≤140737488355327:=by omega
  have w1:=wi (label+(((L.take i).filterMap (UA Zi)).length:Int)) (by omega) (by omega);have an:=ab x (Kc hx);have ao:=fun y=>ZgE (Zb.mk qL qW qH qF) label ((L.take i).filterMap (UA Zi)) [y];obtain⟨X,Y,W,H⟩:=x;simp only[UA] at hm;have hc:=Zvh qL qW qH qF X Y W H (label+(((L.take i).filterMap (UA Zi)).length:Int)) al am an;by_cases ho:Zi≤W∧Zi≤H
  ·rw[Ki ho] at hm;simp +contextual -implicitDefEqProofs (maxSteps:=10^7) only[go_sem,seval,↓gZ,hx,ag,hw,ZcR,ho,hl,w1,hc,hr];refine ih (i+1) _ (by omega) (by omega) ?_;simp +contextual -implicitDefEqProofs (maxSteps:=10^7) only[go_sem,seval,↓gZ,hm,Option.toList,ao,U9,Zoi]
   first | rfl | (simp;done) | (simp;rfl)
  ·rw[Kd ho] at hm;simp +contextual -implicitDefEqProofs (maxSteps:=10^7) only[go_sem,seval,↓gZ,hx,ag,hw,ZcR,ho];refine ih (i+1) _ (by omega) (by omega) ?_;simp +contextual -implicitDefEqProofs (maxSteps:=10^7) only[go_sem,seval,↓gZ,hm]
   first | rfl | (simp;done) | (simp;rfl)
 ·have:i=L.length:=by omega
  subst this;simp +contextual -implicitDefEqProofs (maxSteps:=10^7) only[go_sem,seval,↓gZ];try simp
theorem Zmr (a b:List Box) (ha:a.length<4611686018427387904):Ze Xs Ms WQ [(.d (.sl (a.map Box.enc))),(.d (.sl (b.map Box.enc)))] []=some ((.d (.bool (decide (a=b)))),[]):=by
 refine cE ?_;by_cases hl:a.length=b.length
 ·simp +contextual -implicitDefEqProofs (maxSteps:=10^7) only[go_sem,seval,↓gZ,Zap,hl];refine Ze9 Xs Ms (st0:=?st0) (α:=Nat) (fun k=>[(5,.d (J (k:Int)))]) (fun _=>[]) (fun k=>k≤b.length∧a.take k=b.take k) (fun k=>b.length-k) 0 ?hc ⟨by omega,rfl⟩ ?h0 ?step
  case hc=>simp +contextual -implicitDefEqProofs (maxSteps:=10^7) only[go_sem,seval,↓gZ,hl];exact rfl
  case h0=>rfl
  case step=>
   intro k ⟨hk,hp⟩ ih;by_cases aa:k<b.length
   ·obtain⟨x,hx⟩:∃ x,a[k]?=some x:=Zr (by omega);obtain⟨y,hy⟩:∃ y,b[k]?=some y:=Zr aa;have hw:=Zj (k:=k) (by omega);have ht:=Zjr hx hy hp;by_cases he:x=y
    ·subst he;obtain⟨X,Y,W,H⟩:=x;simp +contextual -implicitDefEqProofs (maxSteps:=10^7) only[go_sem,seval,↓gZ,hx,hy,aa,hl,hw];refine ih (k+1) _ ⟨by omega,ht.2 rfl⟩ (by omega) ?_;simp +contextual -implicitDefEqProofs (maxSteps:=10^7) only[go_sem,seval,↓gZ,hl]
    ·have ab:¬a=b:=fun e=>he (ht.1 (by rw[e]));obtain⟨X,Y,W,H⟩:=x;obtain⟨X',Y',W',H'⟩:=y;simp only[Box.mk.injEq] at he;simp +contextual -implicitDefEqProofs (maxSteps:=10^7) only[go_sem,seval,↓gZ,hx,hy,aa,hl,hw,he,ab]
   ·have:a=b:=by
     have h1:=hp;rw[KH (by omega),KH (by omega)] at h1;exact h1
    simp +contextual -implicitDefEqProofs (maxSteps:=10^7) only[go_sem,seval,↓gZ,aa,hl,this]
 ·have ab:¬a=b:=fun e=>hl (by rw[e]);simp +contextual -implicitDefEqProofs (maxSteps:=10^7) only[go_sem,seval,↓gZ,Zap,hl,ab]
theorem Zga (aL aW aH:Int) (aF:List Box) (bL bW bH:Int) (bF:List Box) (hl:aF.length<4611686018427387904):Ze Xs Ms WN [(.d (.agg [J aL,J aW,J aH,.sl (aF.map Box.enc)])),(.d (.agg [J bL,J bW,J bH,.sl (bF.map Box.enc)]))] []=some ((.d (.bool (decide ((Zb.mk aL aW aH aF)=(Zb.mk bL bW bH bF))))),[]):=by
 refine cE ?_;simp +contextual -implicitDefEqProofs (maxSteps:=10^7) only[go_sem,seval,↓gZ,Zc9,Zmr aF bF hl];exact Zcs (by simp only[Zb.mk.injEq,and_assoc])
theorem Zms (a b:List Zb) (ha:a.length<4611686018427387904) (hb:∀ x∈a,x.Flaws.length<4611686018427387904):Ze Xs Ms WL [(.d (.sl (a.map Zb.enc))),(.d (.sl (b.map Zb.enc)))] []=some ((.d (.bool (decide (a=b)))),[]):=by
 refine cE ?_;by_cases hl:a.length=b.length
 ·simp +contextual -implicitDefEqProofs (maxSteps:=10^7) only[go_sem,seval,↓gZ,Zaj,hl];refine Ze9 Xs Ms (st0:=?st0) (α:=Nat) (fun k=>[(5,.d (J (k:Int)))]) (fun _=>[]) (fun k=>k≤b.length∧a.take k=b.take k) (fun k=>b.length-k) 0 ?hc ⟨by omega,rfl⟩ ?h0 ?step
  case hc=>simp +contextual -implicitDefEqProofs (maxSteps:=10^7) only[go_sem,seval,↓gZ,hl];exact rfl
  case h0=>rfl
  case step=>
   intro k ⟨hk,hp⟩ ih;by_cases aa:k<b.length
   ·obtain⟨x,hx⟩:∃ x,a[k]?=some x:=Zr (by omega);obtain⟨y,hy⟩:∃ y,b[k]?=some y:=Zr aa;have hw:=Zj (k:=k) (by omega);have ht:=Zjr hx hy hp;by_cases he:x=y
    ·subst he;have he:=Zga x.Label x.W x.H x.Flaws x.Label x.W x.H x.Flaws (hb x (Kc hx));obtain⟨L,W,H,F⟩:=x;simp +contextual -implicitDefEqProofs (maxSteps:=10^7) only[go_sem,seval,↓gZ,hx,hy,aa,hl,hw,he];refine ih (k+1) _ ⟨by omega,ht.2 rfl⟩ (by omega) ?_;simp +contextual -implicitDefEqProofs (maxSteps:=10^7) only[go_sem,seval,↓gZ,hl]
    ·have ab:¬a=b:=fun e=>he (ht.1 (by rw[e]));have hq:=Zga x.Label x.W x.H x.Flaws y.Label y.W y.H y.Flaws (hb x (Kc hx));obtain⟨L,W,H,F⟩:=x;obtain⟨L',W',H',F'⟩:=y;simp +contextual -implicitDefEqProofs (maxSteps:=10^7) only[go_sem,seval,↓gZ,hx,hy,aa,hl,hw,hq,he,ab]
   ·have:a=b:=by
     have h1:=hp;rw[KH (by omega),KH (by omega)] at h1;exact h1
    simp +contextual -implicitDefEqProofs (maxSteps:=10^7) only[go_sem,seval,↓gZ,aa,hl,this]
 ·have ab:¬a=b:=fun e=>hl (by rw[e]);simp +contextual -implicitDefEqProofs (maxSteps:=10^7) only[go_sem,seval,↓gZ,Zaj,hl,ab]
theorem Zj4 (bs:List UInt8) (hb:bs.length≤2000) (p:Nat) (hp:p<900000000) (w h:Int):∃ X Y W H:Int,
  Ze Xs Ms Zbq [.ptr 0 0,(.d (J w)),(.d (J h))] [.box [.d (.sl (bs.map JB)),(.d (J p))]]=some (.d (.agg [J X,J Y,J W,J H]),[.box [.d (.sl (bs.map JB)),(.d (J ((p+4:Nat))))]]):=by
 have p1:=Qk bs p w hb (by omega);generalize QW bs p w=a1 at p1;have p2:=Qk bs (p+1) h hb (by omega);generalize QW bs (p+1) h=a2 at p2;have p3:=Qk bs (p+2) (IntKind.i64.wrap (IntKind.i64.wrap (w-IntKind.i64.wrap (1+a1))+1)) hb (by omega);generalize QW bs (p+2) (IntKind.i64.wrap (IntKind.i64.wrap (w-IntKind.i64.wrap (1+a1))+1))=a3 at p3;have p4:=Qk bs (p+3) (IntKind.i64.wrap (IntKind.i64.wrap (h-IntKind.i64.wrap (1+a2))+1)) hb (by omega);generalize QW bs (p+3) (IntKind.i64.wrap (IntKind.i64.wrap (h-IntKind.i64.wrap (1+a2))+1))=a4 at p4;refine⟨a3,a4,IntKind.i64.wrap (1+a1),IntKind.i64.wrap (1+a2),?_⟩
 refine cE ?_;simp +contextual -implicitDefEqProofs (maxSteps:=10^7) only[go_sem,seval,↓gZ,Zhh,p1,p2,p3,p4]
def Y2:List Zb→Int
 | []=>0
 | x :: l=>x.W*x.H+Y2 l
theorem Ztv (a b:List Zb):Y2 (a++b)=Y2 a+Y2 b:=by
 induction a with
 | nil=>simp[Y2]
 | cons c l ih=>simp only[KF,Y2,ih];omega
theorem Zo5 {L:List Zb} {i:Nat} {x:Zb} (hx:L[i]?=some x):Y2 (L.take (i+1))=Y2 (L.take i)+x.W*x.H:=by
 rw[KU,hx,Ztv];simp[Y2]
theorem Zvi (q:Zb):∀ (n:Int) (l:List Box) (i:Nat) (x:Zb),(U9 q n l)[i]?=some x→∃ b,l[i]?=some b∧x=Zoi q b (n+i)
 | n,[],i,x,h=>by simp[U9] at h
 | n,b :: l,0,x,h=>by
  simp only[U9,Lk,Option.some.injEq] at h;exact⟨b,rfl,by rw[← h];simp⟩
 | n,b :: l,i+1,x,h=>by
  simp only[U9,Ll] at h;obtain⟨c,h1,h2⟩:=Zvi q (n+1) l i x h;refine⟨c,by simpa using h1,?_⟩;rw[h2];congr 1;omega
theorem Zb8:∀ {l:List Zb},(∀ x∈l,1≤x.W∧x.W≤200∧1≤x.H∧x.H≤200)→0≤Y2 l∧Y2 l≤40000*l.length
 | [],_=>by simp[Y2]
 | x :: l,h=>by
  have h1:=h x (by simp);have h2:=Zb8 (l:=l) fun y hy=>h y (by simp[hy]);have h3:0≤x.W*x.H:=LR (by omega) (by omega);have h4:x.W*x.H≤200*200:=LS (by omega) (by omega) (by omega) (by omega);simp only[Y2,Ks];omega
end Go.Proofs.YtcefneehgbiebaaGreatDoor
