/- Own text. -/
import Derived.Test.YtcefneehgbiebaaGreatDoorACode
import Derived.Test.YtcefneehgbiebaaGreatDoorAbsParts
import Derived.Test.YtcefneehgbiebaaGreatDoorAC1
namespace Go.Proofs.YtcefneehgbiebaaGreatDoor
open Go Go.Abs Go.Abs.E Go.Abs.L
open Nat (reduceMul reduceSub reduceLeDiff reduceEqDiff)
open Int (reduceLE reduceEq reduceToNat reduceNeg)
set_option linter.unusedSimpArgs false
set_option linter.unusedVariables false
set_option maxRecDepth 20000
set_option maxHeartbeats 4000000
theorem XP (ps:List Pane):∀ (b:BT) (gX gY gW gH:Int) (xs:List D) (ex:Bool),inB (Box.mk gX gY gW gH)→Yc ps b gW gH=true→xs.length+b.cnt≤1000 →
  Ze Xs Ms Qx [.own 0,.d b.plan.enc,(.d (.agg [J gX,J gY,J gW,J gH]))] [.row 9 xs ex false]=some (.own 1,[.row 0 [] true false,.row 9 (xs++(pt b gX gY gW gH).map Part.enc) false false])
 | .waste,gX,gY,gW,gH,xs,ex,hg,hf,hl=>by
  simp only[BT.cnt] at hl;have h1:(xs.length+1)*88≤140737488355328∧xs.length≤140737488355327:=by omega
  simp only[BT.plan,Zf.enc_mk,pt];refine cE ?_;simp +contextual -implicitDefEqProofs (maxSteps:=10^7) only[go_sem,seval,↓gZ,XH,WZ,h1]
 | .pane i t,gX,gY,gW,gH,xs,ex,hg,hf,hl=>by
  simp only[BT.cnt] at hl;have h1:(xs.length+1)*88≤140737488355328∧xs.length≤140737488355327:=by omega
  simp only[BT.plan,Zf.enc_mk,pt];refine cE ?_;simp +contextual -implicitDefEqProofs (maxSteps:=10^7) only[go_sem,seval,↓gZ,XH,WZ,h1]
 | .cut d a l r,gX,gY,gW,gH,xs,ex,hg,hf,hl=>by
  simp only[BT.cnt] at hl;have h1:(xs.length+1)*88≤140737488355328∧xs.length≤140737488355327:=by omega
  simp only[inB] at hg;simp only[BT.plan,Zf.enc_mk];cases d with
  | true=>
   simp only[Yc,Kf,Kn,Km] at hf;have e0:=Zb4 2 a 0 false [l.plan.enc,r.plan.enc] gX gY gW gH rfl ⟨by omega,by omega⟩ ⟨by omega,by omega⟩;have e1:=XP ps l gX gY a gH (xs++[.agg [J 2,J a,J 0,.bool false,.sl [l.plan.enc,r.plan.enc],J gX,J gY,J gW,J gH]]) false (by simp only[inB];omega) hf.1.2 (by simp only[Kp,Ko,KL];omega);have e2:=XP ps r (gX+a) gY (gW-a) gH (xs++[.agg [J 2,J a,J 0,.bool false,.sl [l.plan.enc,r.plan.enc],J gX,J gY,J gW,J gH]]++(pt l gX gY a gH).map Part.enc) false (by simp only[inB];omega) hf.2 (by simp only[Kp,Ko,KL,KR,ZaT];omega)
   refine cE ?_;simp +contextual -implicitDefEqProofs (maxSteps:=10^7) only[go_sem,seval,↓gZ,XH,WZ,h1,Wd,e0,e1,e2];simp[pt,Wd,BT.plan,Part.enc_mk]
  | false=>
   simp only[Yc,Kf,Kn,Ka,Kq] at hf;have e0:=J5 3 a 0 false [l.plan.enc,r.plan.enc] gX gY gW gH (by decide) ⟨by omega,by omega⟩ ⟨by omega,by omega⟩;have e1:=XP ps l gX gY gW a (xs++[.agg [J 3,J a,J 0,.bool false,.sl [l.plan.enc,r.plan.enc],J gX,J gY,J gW,J gH]]) false (by simp only[inB];omega) hf.1.2 (by simp only[Kp,Ko,KL];omega);have e2:=XP ps r gX (gY+a) gW (gH-a) (xs++[.agg [J 3,J a,J 0,.bool false,.sl [l.plan.enc,r.plan.enc],J gX,J gY,J gW,J gH]]++(pt l gX gY gW a).map Part.enc) false (by simp only[inB];omega) hf.2 (by simp only[Kp,Ko,KL,KR,ZaT];omega)
   refine cE ?_;simp +contextual -implicitDefEqProofs (maxSteps:=10^7) only[go_sem,seval,↓gZ,XH,WZ,h1,Wd,e0,e1,e2];simp[pt,Wd,BT.plan,Part.enc_mk]
theorem Zqn (ps:List Pane):∀ (b:BT) (gX gY gW gH:Int),inB (Box.mk gX gY gW gH)→Yc ps b gW gH=true→b.cnt≤1000 →
  Ze Xs Ms Qx [.nil,.d b.plan.enc,(.d (.agg [J gX,J gY,J gW,J gH]))] []=some (.own 0,[.row 9 ((pt b gX gY gW gH).map Part.enc) false false])
 | .waste,gX,gY,gW,gH,hg,hf,hl=>by
  have h1:1*88≤ZV∧1≤ZV:=by unfold ZV;omega
  simp only[BT.plan,Zf.enc_mk,pt];refine cE ?_;simp +contextual -implicitDefEqProofs (maxSteps:=10^7) only[go_sem,seval,↓gZ,XH,WZ,h1]
 | .pane i t,gX,gY,gW,gH,hg,hf,hl=>by
  have h1:1*88≤ZV∧1≤ZV:=by unfold ZV;omega
  simp only[BT.plan,Zf.enc_mk,pt];refine cE ?_;simp +contextual -implicitDefEqProofs (maxSteps:=10^7) only[go_sem,seval,↓gZ,XH,WZ,h1]
 | .cut d a l r,gX,gY,gW,gH,hg,hf,hl=>by
  simp only[BT.cnt] at hl;have h1:1*88≤ZV∧1≤ZV:=by unfold ZV;omega
  simp only[inB] at hg;simp only[BT.plan,Zf.enc_mk];cases d with
  | true=>
   simp only[Yc,Kf,Kn,Km] at hf;have e0:=Zb4 2 a 0 false [l.plan.enc,r.plan.enc] gX gY gW gH rfl ⟨by omega,by omega⟩ ⟨by omega,by omega⟩;have e1:=XP ps l gX gY a gH [.agg [J 2,J a,J 0,.bool false,.sl [l.plan.enc,r.plan.enc],J gX,J gY,J gW,J gH]] false (by simp only[inB];omega) hf.1.2 (by simp only[Kp,Ko,KL];omega);have e2:=XP ps r (gX+a) gY (gW-a) gH (.agg [J 2,J a,J 0,.bool false,.sl [l.plan.enc,r.plan.enc],J gX,J gY,J gW,J gH] :: (pt l gX gY a gH).map Part.enc) false (by simp only[inB];omega) hf.2 (by simp only[Kp,Ko,KL,KR,ZaT];omega)
   refine cE ?_;simp +contextual -implicitDefEqProofs (maxSteps:=10^7) only[go_sem,seval,↓gZ,XH,WZ,h1,Wd,e0,e1,e2];simp[pt,Wd,BT.plan,Part.enc_mk]
  | false=>
   simp only[Yc,Kf,Kn,Ka,Kq] at hf;have e0:=J5 3 a 0 false [l.plan.enc,r.plan.enc] gX gY gW gH (by decide) ⟨by omega,by omega⟩ ⟨by omega,by omega⟩;have e1:=XP ps l gX gY gW a [.agg [J 3,J a,J 0,.bool false,.sl [l.plan.enc,r.plan.enc],J gX,J gY,J gW,J gH]] false (by simp only[inB];omega) hf.1.2 (by simp only[Kp,Ko,KL];omega);have e2:=XP ps r gX (gY+a) gW (gH-a) (.agg [J 3,J a,J 0,.bool false,.sl [l.plan.enc,r.plan.enc],J gX,J gY,J gW,J gH] :: (pt l gX gY gW a).map Part.enc) false (by simp only[inB];omega) hf.2 (by simp only[Kp,Ko,KL,KR,ZaT];omega)
   refine cE ?_;simp +contextual -implicitDefEqProofs (maxSteps:=10^7) only[go_sem,seval,↓gZ,XH,WZ,h1,Wd,e0,e1,e2];simp[pt,Wd,BT.plan,Part.enc_mk]
theorem Zl4 (kW kH:Int) (kP:List Pane) (p:Zf):Ze Xs Ms JV [(.d (.agg [J kW,J kH,.sl (kP.map Pane.enc)])),.d p.enc] []=some (.own 0,[.row 9 ((QO (ZI.mk kW kH kP) p).map Part.enc) (!VU (ZI.mk kW kH kP) p) false]):=by
 have hv:=J6 kW kH kP p;unfold VU at hv;unfold QO VU;cases hb:QU p with
 | none=>
  rw[hb] at hv;obtain⟨o,a,q,t,ks⟩:=p;rw[Zf.enc_mk] at hv ⊢;refine cE ?_;simp +contextual -implicitDefEqProofs (maxSteps:=10^7) only[go_sem,seval,↓gZ,ZbW,hv];try rfl
 | some b=>
  have hp:=UM hb;rw[hb] at hv;dsimp only at hv ⊢;by_cases hh:(decide (VW (ZI.mk kW kH kP))&&decide (b.cnt≤255)&&Yc kP b kW kH)=true
  ·have aa:=hh;simp only[Kf,Kn] at aa;have hw:=aa.1.1;simp only[VW] at hw;have ab:=Zqn kP b 0 0 kW kH (by simp only[inB];omega) aa.2 (by omega);rw[← hp] at ab;rw[hh] at hv ⊢;obtain⟨o,a,q,t,ks⟩:=p;rw[Zf.enc_mk] at hv ab ⊢;refine cE ?_;simp +contextual -implicitDefEqProofs (maxSteps:=10^7) only[go_sem,seval,↓gZ,ZbW,ZlZ,hv,ab];try rfl
  ·have hf:=(LN _).mp hh;rw[hf] at hv ⊢;obtain⟨o,a,q,t,ks⟩:=p;rw[Zf.enc_mk] at hv ⊢;refine cE ?_;simp +contextual -implicitDefEqProofs (maxSteps:=10^7) only[go_sem,seval,↓gZ,ZbW,hv];try rfl
theorem Zbb (k:ZI) (p:Zf):(QO k p).length≤255:=by
 unfold QO;split
 ·split
  ·rename_i h;simp only[Kf,Kn] at h;rw[ZaT];exact h.1.2
  ·simp
 ·simp
theorem Zex (kW kH:Int) (kP:List Pane) (p:Zf):Ze Xs Ms V2 [(.d (.agg [J kW,J kH,.sl (kP.map Pane.enc)])),.d p.enc] []=some (.own 0,[.row 6 (((QO (ZI.mk kW kH kP) p).filterMap XK).map Place.enc) true false]):=by
 have hv:=Zl4 kW kH kP p;have hn:=Zbb (ZI.mk kW kH kP) p;generalize (!VU (ZI.mk kW kH kP) p)=e at hv;generalize QO (ZI.mk kW kH kP) p=ps at hv hn ⊢;obtain⟨o,a,q,t,ks⟩:=p;rw[Zf.enc_mk] at hv ⊢;refine cE ?_;simp +contextual -implicitDefEqProofs (maxSteps:=10^7) only[go_sem,seval,↓gZ,Zgt,hv];refine LO (α:=Nat) (fun k=>[(12,.d (J (k:Int)))]) (fun k=>[(1,.row 6 (((ps.take k).filterMap XK).map Place.enc) true false)]) (fun k=>k≤ps.length) (fun k=>ps.length-k) 0 (by omega) ?_;intro k hk ih;by_cases aa:k<ps.length
 ·obtain⟨x,hx⟩:=Zq aa;have hw:=Zj (k:=k) (by omega);have hm:=ZbI (f:=XK) hx;have ab:((ps.take k).filterMap XK).length≤k:=Kz (Kl _ _) (by simp;omega);have hr:(((ps.take k).filterMap XK).length+1)*48≤140737488355328∧((ps.take k).filterMap XK).length≤140737488355327:=by omega
  obtain⟨⟨o',a',q',t',ad⟩,⟨X,Y,W,H⟩⟩:=x;simp only[XK] at hm;by_cases ho:o'=1
  ·rw[Kh ho] at hm;simp +contextual -implicitDefEqProofs (maxSteps:=10^7) only[go_sem,seval,↓gZ,hx,aa,hw,ho,hr];refine ih (k+1) _ (by omega) (by omega) ?_;simp +contextual -implicitDefEqProofs (maxSteps:=10^7) only[go_sem,seval,↓gZ,hm]
   first | rfl | (simp;done) | (simp;rfl)
  ·rw[Kd ho] at hm;simp +contextual -implicitDefEqProofs (maxSteps:=10^7) only[go_sem,seval,↓gZ,hx,aa,hw,ho,hr];refine ih (k+1) _ (by omega) (by omega) ?_;simp +contextual -implicitDefEqProofs (maxSteps:=10^7) only[go_sem,seval,↓gZ,hm]
   first | rfl | (simp;done) | (simp;rfl)
 ·have:k=ps.length:=by omega
  subst this;simp +contextual -implicitDefEqProofs (maxSteps:=10^7) only[go_sem,seval,↓gZ];simp
theorem Zke (kW kH:Int) (kP:List Pane) (p:Zf):Ze Xs Ms Uz [(.d (.agg [J kW,J kH,.sl (kP.map Pane.enc)])),.d p.enc] []=some (.own 0,[.row 4 (((QO (ZI.mk kW kH kP) p).filterMap X7).map Box.enc) true false]):=by
 have hv:=Zl4 kW kH kP p;have hn:=Zbb (ZI.mk kW kH kP) p;generalize (!VU (ZI.mk kW kH kP) p)=e at hv;generalize QO (ZI.mk kW kH kP) p=ps at hv hn ⊢;obtain⟨o,a,q,t,ks⟩:=p;rw[Zf.enc_mk] at hv ⊢;refine cE ?_;simp +contextual -implicitDefEqProofs (maxSteps:=10^7) only[go_sem,seval,↓gZ,Zgz,hv];refine LO (α:=Nat) (fun k=>[(12,.d (J (k:Int)))]) (fun k=>[(1,.row 4 (((ps.take k).filterMap X7).map Box.enc) true false)]) (fun k=>k≤ps.length) (fun k=>ps.length-k) 0 (by omega) ?_;intro k hk ih;by_cases aa:k<ps.length
 ·obtain⟨x,hx⟩:=Zq aa;have hw:=Zj (k:=k) (by omega);have hm:=ZbI (f:=X7) hx;have ab:((ps.take k).filterMap X7).length≤k:=Kz (Kl _ _) (by simp;omega);have hr:(((ps.take k).filterMap X7).length+1)*32≤140737488355328∧((ps.take k).filterMap X7).length≤140737488355327:=by omega
  obtain⟨⟨o',a',q',t',ad⟩,⟨X,Y,W,H⟩⟩:=x;simp only[X7] at hm;by_cases ho:o'=0
  ·rw[Kh ho] at hm;simp +contextual -implicitDefEqProofs (maxSteps:=10^7) only[go_sem,seval,↓gZ,hx,aa,hw,ho,hr];refine ih (k+1) _ (by omega) (by omega) ?_;simp +contextual -implicitDefEqProofs (maxSteps:=10^7) only[go_sem,seval,↓gZ,hm]
   first | rfl | (simp;done) | (simp;rfl)
  ·rw[Kd ho] at hm;simp +contextual -implicitDefEqProofs (maxSteps:=10^7) only[go_sem,seval,↓gZ,hx,aa,hw,ho,hr];refine ih (k+1) _ (by omega) (by omega) ?_;simp +contextual -implicitDefEqProofs (maxSteps:=10^7) only[go_sem,seval,↓gZ,hm]
   first | rfl | (simp;done) | (simp;rfl)
 ·have:k=ps.length:=by omega
  subst this;simp +contextual -implicitDefEqProofs (maxSteps:=10^7) only[go_sem,seval,↓gZ];simp
theorem JR (ps:List Pane):∀ (b:BT) (gX gY gW gH:Int),inB (Box.mk gX gY gW gH)→Yc ps b gW gH=true→b.cnt≤1000 →
  Ze Xs Ms Vc [.d b.plan.enc,(.d (.agg [J gX,J gY,J gW,J gH]))] []=some (.own 0,[.row 6 ((sp b gX gY gW gH).map Place.enc) true false])
 | .waste,gX,gY,gW,gH,hg,hf,hl=>by
  simp only[BT.plan,Zf.enc_mk,sp];refine cE ?_;simp +contextual -implicitDefEqProofs (maxSteps:=10^7) only[go_sem,seval,↓gZ,Zbh];try rfl
 | .pane i t,gX,gY,gW,gH,hg,hf,hl=>by
  simp only[BT.plan,Zf.enc_mk,sp];refine cE ?_;simp +contextual -implicitDefEqProofs (maxSteps:=10^7) only[go_sem,seval,↓gZ,Zbh];try rfl
 | .cut d a l r,gX,gY,gW,gH,hg,hf,hl=>by
  simp only[BT.cnt] at hl;simp only[inB] at hg;simp only[BT.plan,Zf.enc_mk];cases d with
  | true=>
   simp only[Yc,Kf,Kn,Km] at hf;have w1:=wi (gX+a) (by omega) (by omega);have w2:=wi (gW-a) (by omega) (by omega);have l1:=ZeZ l gX gY a gH;have l2:=ZeZ r (gX+a) gY (gW-a) gH;have e1:=JR ps l gX gY a gH (by simp only[inB];omega) hf.1.2 (by omega);have e2:=JR ps r (gX+a) gY (gW-a) gH (by simp only[inB];omega) hf.2 (by omega);have h1:((sp l gX gY a gH).length+(sp r (gX+a) gY (gW-a) gH).length)*48≤140737488355328∧(sp l gX gY a gH).length+(sp r (gX+a) gY (gW-a) gH).length≤140737488355328:=by omega
   refine cE ?_;simp +contextual -implicitDefEqProofs (maxSteps:=10^7) only[go_sem,seval,↓gZ,Zbh,Wd,w1,w2,h1,e1,e2];simp[sp]
  | false=>
   simp only[Yc,Kf,Kn,Ka,Kq] at hf;have w1:=wi (gY+a) (by omega) (by omega);have w2:=wi (gH-a) (by omega) (by omega);have l1:=ZeZ l gX gY gW a;have l2:=ZeZ r gX (gY+a) gW (gH-a);have e1:=JR ps l gX gY gW a (by simp only[inB];omega) hf.1.2 (by omega);have e2:=JR ps r gX (gY+a) gW (gH-a) (by simp only[inB];omega) hf.2 (by omega);have h1:((sp l gX gY gW a).length+(sp r gX (gY+a) gW (gH-a)).length)*48≤140737488355328∧(sp l gX gY gW a).length+(sp r gX (gY+a) gW (gH-a)).length≤140737488355328:=by omega
   refine cE ?_;simp +contextual -implicitDefEqProofs (maxSteps:=10^7) only[go_sem,seval,↓gZ,Zbh,Wd,w1,w2,h1,e1,e2];simp[sp]
theorem Zbx (qL qW qH:Int) (qF:List Box):Ze Xs Ms V4 [(.d (.agg [J qL,J qW,J qH,.sl (qF.map Box.enc)]))] []=some (.d (.agg [J 0,J 0,J qW,J qH]),[]):=by
 refine cE ?_;simp +contextual -implicitDefEqProofs (maxSteps:=10^7) only[go_sem,seval,↓gZ,Zgy]
theorem Xl (qL qW qH:Int) (qF:List Box):Ze Xs Ms XW [(.d (.agg [J qL,J qW,J qH,.sl (qF.map Box.enc)]))] []=some ((.d (.bool (decide (VPc (Zb.mk qL qW qH qF))))),[]):=by
 refine cE ?_;by_cases h0:(((qL<1∨9999<qL)∨¬VB ⟨0,0,qW,qH⟩)∨(6:Int)<qF.length)
 ·simp +contextual -implicitDefEqProofs (maxSteps:=10^7) only[go_sem,seval,↓gZ,ZaF,Zbx,Wq,h0];exact Zjd (by simp only[VPc];simp only[VB] at h0;omega)
 ·simp +contextual -implicitDefEqProofs (maxSteps:=10^7) only[go_sem,seval,↓gZ,ZaF,Zbx,Wq,h0];have hb:VB ⟨0,0,qW,qH⟩:=by
   refine Decidable.byContradiction fun h=>h0 (.inl (.inr h))
  refine LO (α:=Nat) (fun k=>[(28,.d (J (k:Int)))]) (fun _=>[]) (fun k=>k≤qF.length∧((∀ f∈qF,ZdS qW qH f)↔∀ f∈qF.drop k,ZdS qW qH f)) (fun k=>qF.length-k) 0 ⟨by omega,by simp⟩ ?_;intro k ⟨hk,hp⟩ ih;by_cases aa:k<qF.length
  ·obtain⟨x,hx⟩:=Zq aa;rw[ZfS hx] at hp;have hw:=Zj (k:=k) (by simp only[VB] at hb h0;omega);obtain⟨X,Y,W,H⟩:=x;simp +contextual -implicitDefEqProofs (maxSteps:=10^7) only[go_sem,seval,↓gZ,hx,aa,hw,Zbx,Zkb,hb];refine⟨fun h=>Zjd (fun hh=>h ((hp.1 hh.2).1)),fun h=>ih (k+1) _ ⟨by omega,?_⟩ (by omega) ?_⟩
   ·rw[hp];exact⟨fun hh=>hh.2,fun hh=>⟨h,hh⟩⟩
   ·simp +contextual -implicitDefEqProofs (maxSteps:=10^7) only[go_sem,seval,↓gZ]
  ·have:k=qF.length:=by omega
   subst this;simp +contextual -implicitDefEqProofs (maxSteps:=10^7) only[go_sem,seval,↓gZ];have hv:∀ f∈qF,ZdS qW qH f:=hp.2 (by simp);exact ZyZ (by simp only[VPc];simp only[VB] at h0;exact⟨by omega,hv⟩)
theorem Zhh (qL qW qH:Int) (qF:List Box) (hl:qF.length<4611686018427387904) (hW:R64 qW) (hH:R64 qH):Ze Xs Ms VC [(.d (.agg [J qL,J qW,J qH,.sl (qF.map Box.enc)]))] []=some ((.d (.bool (decide (VPc (Zb.mk qL qW qH qF))))),[]):=by
 refine cE ?_;simp +contextual -implicitDefEqProofs (maxSteps:=10^7) only[go_sem,seval,↓gZ,Zdv];refine LO (α:=Nat) (fun k=>[(3,.d (J (k:Int)))]) (fun _=>[]) (fun k=>k≤qF.length∧((∀ f∈qF,ZdS qW qH f)↔∀ f∈qF.drop k,ZdS qW qH f)) (fun k=>qF.length-k) 0 ⟨by omega,by simp⟩ ?_;intro k ⟨hk,hp⟩ ih;by_cases aa:k<qF.length
 ·obtain⟨x,hx⟩:=Zq aa;rw[ZfS hx] at hp;have hw:=Zj (k:=k) (by omega);obtain⟨X,Y,W,H⟩:=x;by_cases hv:VB ⟨X,Y,W,H⟩
  ·have hi:=Zsj X Y W H 0 0 qW qH hv ⟨by omega,by omega⟩ ⟨by omega,by omega⟩ (by simpa using hW) (by simpa using hH);simp +contextual -implicitDefEqProofs (maxSteps:=10^7) only[go_sem,seval,↓gZ,hx,aa,hw,Zka,hi,hv];refine⟨fun h=>Zjd (fun hh=>h ((hp.1 hh.2).1.2)),fun h=>ih (k+1) _ ⟨by omega,?_⟩ (by omega) ?_⟩
   ·rw[hp];exact⟨fun hh=>hh.2,fun hh=>⟨⟨hv,h⟩,hh⟩⟩
   ·simp +contextual -implicitDefEqProofs (maxSteps:=10^7) only[go_sem,seval,↓gZ]
  ·simp +contextual -implicitDefEqProofs (maxSteps:=10^7) only[go_sem,seval,↓gZ,hx,aa,hw,Zka,hv];exact Zjd (fun hh=>hv ((hp.1 hh.2).1.1))
 ·have:k=qF.length:=by omega
  subst this;simp +contextual -implicitDefEqProofs (maxSteps:=10^7) only[go_sem,seval,↓gZ,Zv];have hv:∀ f∈qF,ZdS qW qH f:=hp.2 (by simp);exact ZdH (by simp only[VPc];exact⟨fun h=>⟨by omega,hv⟩,fun h=>by omega⟩)
theorem Zqo (fs:List Box) (bX bY bW bH:Int) (hf:∀ f∈fs,VB f) (hb:VB (Box.mk bX bY bW bH)) (hl:fs.length<4611686018427387904):Ze Xs Ms Je [(.d (.sl (fs.map Box.enc))),(.d (.agg [J bX,J bY,J bW,J bH]))] []=some ((.d (.bool (!decide (Qn fs (Box.mk bX bY bW bH))))),[]):=by
 refine cE ?_;simp +contextual -implicitDefEqProofs (maxSteps:=10^7) only[go_sem,seval,↓gZ,ZeQ];refine LO (α:=Nat) (fun k=>[(11,.d (J (k:Int)))]) (fun _=>[]) (fun k=>k≤fs.length∧(Qn fs (Box.mk bX bY bW bH)↔Qn (fs.drop k) (Box.mk bX bY bW bH))) (fun k=>fs.length-k) 0 ⟨by omega,by simp⟩ ?_;intro k ⟨hk,hp⟩ ih;by_cases aa:k<fs.length
 ·obtain⟨x,hx⟩:=Zq aa;have ad:=hx;unfold Qn at hp;rw[ZfS hx (fun f=>¬US f (Box.mk bX bY bW bH))] at hp;have hw:=Zj (k:=k) (by omega);have ab:=hf x (Kc hx);obtain⟨X,Y,W,H⟩:=x;by_cases hm:US ⟨X,Y,W,H⟩ (Box.mk bX bY bW bH)
  ·simp +contextual -implicitDefEqProofs (maxSteps:=10^7) only[go_sem,seval,↓gZ,hx,aa,hw,Zf2 X Y W H bX bY bW bH ab hb hm];have:¬Qn fs (Box.mk bX bY bW bH):=fun hh=>(hp.1 hh).1 hm;simp[this]
  ·simp +contextual -implicitDefEqProofs (maxSteps:=10^7) only[go_sem,seval,↓gZ,hx,aa,hw,Zh0 X Y W H bX bY bW bH (fun hh=>hm hh.2.2)];refine ih (k+1) _ ⟨by omega,?_⟩ (by omega) ?_
   ·unfold Qn;rw[hp];exact⟨fun hh=>hh.2,fun hh=>⟨hm,hh⟩⟩
   ·simp +contextual -implicitDefEqProofs (maxSteps:=10^7) only[go_sem,seval,↓gZ]
 ·have:k=fs.length:=by omega
  subst this;simp +contextual -implicitDefEqProofs (maxSteps:=10^7) only[go_sem,seval,↓gZ];have:Qn fs (Box.mk bX bY bW bH):=hp.2 (by simp[Qn]);simp[this]
theorem Zl5 (qL qW qH:Int) (qF:List Box) (bX bY bW bH:Int) (hf:∀ f∈qF,VB f) (hb:VB (Box.mk bX bY bW bH)) (hl:qF.length<4611686018427387904):Ze Xs Ms JU [(.d (.agg [J qL,J qW,J qH,.sl (qF.map Box.enc)])),(.d (.agg [J bX,J bY,J bW,J bH]))] []=some ((.d (.bool (decide (Qn qF (Box.mk bX bY bW bH))))),[]):=by
 refine cE ?_;simp +contextual -implicitDefEqProofs (maxSteps:=10^7) only[go_sem,seval,↓gZ,Ziq];refine LO (α:=Nat) (fun k=>[(5,.d (J (k:Int)))]) (fun _=>[]) (fun k=>k≤qF.length∧(Qn qF (Box.mk bX bY bW bH)↔Qn (qF.drop k) (Box.mk bX bY bW bH))) (fun k=>qF.length-k) 0 ⟨by omega,by simp⟩ ?_;intro k ⟨hk,hp⟩ ih;by_cases aa:k<qF.length
 ·obtain⟨x,hx⟩:=Zq aa;unfold Qn at hp;rw[ZfS hx (fun f=>¬US f (Box.mk bX bY bW bH))] at hp;have hw:=Zj (k:=k) (by omega);have ab:=hf x (Kc hx);obtain⟨X,Y,W,H⟩:=x;by_cases hm:US ⟨X,Y,W,H⟩ (Box.mk bX bY bW bH)
  ·simp +contextual -implicitDefEqProofs (maxSteps:=10^7) only[go_sem,seval,↓gZ,hx,aa,hw,ZlY X Y W H bX bY bW bH ab hb hm];have:¬Qn qF (Box.mk bX bY bW bH):=fun hh=>(hp.1 hh).1 hm;simp[this]
  ·simp +contextual -implicitDefEqProofs (maxSteps:=10^7) only[go_sem,seval,↓gZ,hx,aa,hw,Zov X Y W H bX bY bW bH ab hb hm];refine ih (k+1) _ ⟨by omega,?_⟩ (by omega) ?_
   ·unfold Qn;rw[hp];exact⟨fun hh=>hh.2,fun hh=>⟨hm,hh⟩⟩
   ·simp +contextual -implicitDefEqProofs (maxSteps:=10^7) only[go_sem,seval,↓gZ]
 ·have:k=qF.length:=by omega
  subst this;simp +contextual -implicitDefEqProofs (maxSteps:=10^7) only[go_sem,seval,↓gZ];have:Qn qF (Box.mk bX bY bW bH):=hp.2 (by simp[Qn]);simp[this]
theorem Zkf (kW kH:Int) (kP:List Pane) (p:Zf) (b:BT) (hp:p=b.plan) (hg:inB ⟨0,0,kW,kH⟩) (hf:Yc kP b kW kH=true) (hl:b.cnt≤1000):Ze Xs Ms UB [(.d (.agg [J kW,J kH,.sl (kP.map Pane.enc)])),.d p.enc] []=some (.own 0,[.row 6 ((plc b 0 0 kW kH).map Place.enc) true false]):=by
 have e:=JR kP b 0 0 kW kH hg hf hl;have hm:=Zoe b 0 0 kW kH (ZjU hf);have hn:=ZeZ b 0 0 kW kH;rw[← hp] at e;rw[← hm];clear hm;generalize sp b 0 0 kW kH=S at e hn ⊢;clear hp hf hg;obtain⟨o,a,q,t,ks⟩:=p;rw[Zf.enc_mk] at e ⊢;refine cE ?_;simp +contextual -implicitDefEqProofs (maxSteps:=10^7) only[go_sem,seval,↓gZ,ZgF,e];refine LO (α:=Nat) (fun i=>[(7,.d (J (i:Int)))]) (fun i=>[(1,.row 6 (((S.take i).filterMap Zeo).map Place.enc) true false)]) (fun i=>i≤S.length) (fun i=>S.length-i) 0 (by omega) ?_;intro i hi ih;by_cases aa:i<S.length
 ·obtain⟨x,hx⟩:=Zq aa;have hw:=Zj (k:=i) (by omega);have hm:=ZbI (f:=Zeo) hx;have ab:((S.take i).filterMap Zeo).length≤i:=Kz (Kl _ _) (by simp;omega);have hr:(((S.take i).filterMap Zeo).length+1)*48≤140737488355328∧((S.take i).filterMap Zeo).length≤140737488355327:=by omega
  obtain⟨q',t',⟨X,Y,W,H⟩⟩:=x;simp only[Zeo] at hm;by_cases ho:0≤q'
  ·rw[Kh ho] at hm;simp +contextual -implicitDefEqProofs (maxSteps:=10^7) only[go_sem,seval,↓gZ,hx,aa,hw,ho,hr];refine ih (i+1) _ (by omega) (by omega) ?_;simp +contextual -implicitDefEqProofs (maxSteps:=10^7) only[go_sem,seval,↓gZ,hm]
   first | rfl | (simp;done) | (simp;rfl)
  ·rw[Kd ho] at hm;simp +contextual -implicitDefEqProofs (maxSteps:=10^7) only[go_sem,seval,↓gZ,hx,aa,hw,ho,hr];refine ih (i+1) _ (by omega) (by omega) ?_;simp +contextual -implicitDefEqProofs (maxSteps:=10^7) only[go_sem,seval,↓gZ,hm]
   first | rfl | (simp;done) | (simp;rfl)
 ·have:i=S.length:=by omega
  subst this;simp +contextual -implicitDefEqProofs (maxSteps:=10^7) only[go_sem,seval,↓gZ];simp
theorem Zkg (kW kH:Int) (kP:List Pane) (p:Zf) (b:BT) (hp:p=b.plan) (hg:inB ⟨0,0,kW,kH⟩) (hf:Yc kP b kW kH=true) (hl:b.cnt≤1000):Ze Xs Ms UA [(.d (.agg [J kW,J kH,.sl (kP.map Pane.enc)])),.d p.enc] []=some (.own 0,[.row 4 ((wst b 0 0 kW kH).map Box.enc) true false]):=by
 have e:=JR kP b 0 0 kW kH hg hf hl;have hm:=Zof b 0 0 kW kH (ZjU hf);have hn:=ZeZ b 0 0 kW kH;rw[← hp] at e;rw[← hm];clear hm;generalize sp b 0 0 kW kH=S at e hn ⊢;clear hp hf hg;obtain⟨o,a,q,t,ks⟩:=p;rw[Zf.enc_mk] at e ⊢;refine cE ?_;simp +contextual -implicitDefEqProofs (maxSteps:=10^7) only[go_sem,seval,↓gZ,ZgE,e];refine LO (α:=Nat) (fun i=>[(7,.d (J (i:Int)))]) (fun i=>[(1,.row 4 (((S.take i).filterMap Zep).map Box.enc) true false)]) (fun i=>i≤S.length) (fun i=>S.length-i) 0 (by omega) ?_;intro i hi ih;by_cases aa:i<S.length
 ·obtain⟨x,hx⟩:=Zq aa;have hw:=Zj (k:=i) (by omega);have hm:=ZbI (f:=Zep) hx;have ab:((S.take i).filterMap Zep).length≤i:=Kz (Kl _ _) (by simp;omega);have hr:(((S.take i).filterMap Zep).length+1)*32≤140737488355328∧((S.take i).filterMap Zep).length≤140737488355327:=by omega
  obtain⟨q',t',⟨X,Y,W,H⟩⟩:=x;simp only[Zep] at hm;by_cases ho:q' < 0
  ·rw[Kh ho] at hm;simp +contextual -implicitDefEqProofs (maxSteps:=10^7) only[go_sem,seval,↓gZ,hx,aa,hw,ho,hr];refine ih (i+1) _ (by omega) (by omega) ?_;simp +contextual -implicitDefEqProofs (maxSteps:=10^7) only[go_sem,seval,↓gZ,hm]
   first | rfl | (simp;done) | (simp;rfl)
  ·rw[Kd ho] at hm;simp +contextual -implicitDefEqProofs (maxSteps:=10^7) only[go_sem,seval,↓gZ,hx,aa,hw,ho,hr];refine ih (i+1) _ (by omega) (by omega) ?_;simp +contextual -implicitDefEqProofs (maxSteps:=10^7) only[go_sem,seval,↓gZ,hm]
   first | rfl | (simp;done) | (simp;rfl)
 ·have:i=S.length:=by omega
  subst this;simp +contextual -implicitDefEqProofs (maxSteps:=10^7) only[go_sem,seval,↓gZ];simp
theorem Zss (qL qW qH:Int) (qF:List Box) (kW kH:Int) (kP:List Pane) (p:Zf):Ze Xs Ms Zar [(.d (.agg [J qL,J qW,J qH,.sl (qF.map Box.enc)])),(.d (.agg [J kW,J kH,.sl (kP.map Pane.enc)])),.d p.enc] []=some ((.d (.bool (decide (VPc (Zb.mk qL qW qH qF)∧WT (Zb.mk qL qW qH qF) (ZI.mk kW kH kP) p)))),[]):=by
 have ev:=J6 kW kH kP p;by_cases hq:VPc (Zb.mk qL qW qH qF)
 ·by_cases hv:VU (ZI.mk kW kH kP) p=true
  ·by_cases hw:kW=qW
   ·by_cases hh:kH=qH
    ·subst hw;subst hh;have ep:=Zex kW kH kP p;obtain⟨b,hb,ah,ai,aj,ad,af⟩:=Xx hv;have ab:∀ c∈(QO (ZI.mk kW kH kP) p).filterMap XK,VB c.Box:=by
      rw[af,WG];exact Zm7 (p:=p) ai ad
     have ae:((QO (ZI.mk kW kH kP) p).filterMap XK).length≤255:=Kz (Kl _ _) (Zbb _ _);have aa:WT ⟨qL,kW,kH,qF⟩ (ZI.mk kW kH kP) p↔∀ c∈(QO (ZI.mk kW kH kP) p).filterMap XK,Qn qF c.Box:=by
      unfold WT;exact⟨fun h=>h.2.2.2,fun h=>⟨hv,rfl,rfl,h⟩⟩
     have ak:∀ f∈qF,VB f:=fun f hf=>(hq.2 f hf).1;have an:qF.length≤6:=hq.1.2.2.2.2.2.2;rw[hv] at ev;generalize hL:(QO (ZI.mk kW kH kP) p).filterMap XK=L at ep ab ae aa;clear hL af ah hb;obtain⟨o,a,n,t,ks⟩:=p;rw[Zf.enc_mk] at ev ep ⊢;refine cE ?_;simp +contextual -implicitDefEqProofs (maxSteps:=10^7) only[go_sem,seval,↓gZ,V8,Xl,hq,ev,ep];refine LO (α:=Nat) (fun i=>[(36,.d (J (i:Int)))]) (fun _=>[]) (fun i=>i≤L.length∧((∀ c∈L,Qn qF c.Box)↔∀ c∈L.drop i,Qn qF c.Box)) (fun i=>L.length-i) 0 ⟨by omega,by simp⟩ ?_;intro i ⟨hi,hp⟩ ih;by_cases ag:i<L.length
     ·obtain⟨x,hx⟩:=Zq ag;rw[ZfS hx (fun c=>Qn qF c.Box)] at hp;have hw:=Zj (k:=i) (by omega);have al:=ab x (Kc hx);obtain⟨q',t',⟨X,Y,W,H⟩⟩:=x;have em:=Zqo qF X Y W H ak al (by omega);simp +contextual -implicitDefEqProofs (maxSteps:=10^7) only[go_sem,seval,↓gZ,hx,ag,hw,em];refine⟨fun h=>Zjd (fun h'=>h ((hp.1 (aa.1 h')).1)),fun h=>ih (i+1) _ ⟨by omega,?_⟩ (by omega) ?_⟩
      ·rw[hp];exact⟨fun h'=>h'.2,fun h'=>⟨h,h'⟩⟩
      ·simp +contextual -implicitDefEqProofs (maxSteps:=10^7) only[go_sem,seval,↓gZ]
     ·have:i=L.length:=by omega
      subst this;simp +contextual -implicitDefEqProofs (maxSteps:=10^7) only[go_sem,seval,↓gZ];exact ZyZ (aa.2 (hp.2 (by simp)))
    ·subst hw;have hn:¬WT ⟨qL,kW,qH,qF⟩ (ZI.mk kW kH kP) p:=fun h=>hh h.2.2.1;obtain⟨o,a,n,t,ks⟩:=p;rw[hv] at ev;rw[Zf.enc_mk] at ev ⊢;refine cE ?_;simp +contextual -implicitDefEqProofs (maxSteps:=10^7) only[go_sem,seval,↓gZ,V8,Xl,hq,ev,hh,hn]
   ·have hn:¬WT (Zb.mk qL qW qH qF) (ZI.mk kW kH kP) p:=fun h=>hw h.2.1;obtain⟨o,a,n,t,ks⟩:=p;rw[hv] at ev;rw[Zf.enc_mk] at ev ⊢;refine cE ?_;simp +contextual -implicitDefEqProofs (maxSteps:=10^7) only[go_sem,seval,↓gZ,V8,Xl,hq,ev,hw,hn]
  ·have am:=(LN _).mp hv;have hn:¬WT (Zb.mk qL qW qH qF) (ZI.mk kW kH kP) p:=fun h=>hv h.1;rw[am] at ev;obtain⟨o,a,n,t,ks⟩:=p;rw[Zf.enc_mk] at ev ⊢;refine cE ?_;simp +contextual -implicitDefEqProofs (maxSteps:=10^7) only[go_sem,seval,↓gZ,V8,Xl,hq,ev,hn]
 ·obtain⟨o,a,n,t,ks⟩:=p;rw[Zf.enc_mk] at ev ⊢;refine cE ?_;simp +contextual -implicitDefEqProofs (maxSteps:=10^7) only[go_sem,seval,↓gZ,V8,Xl,hq]
theorem Zkh (qL qW qH:Int) (qF:List Box) (kW kH:Int) (kP:List Pane) (p:Zf) (al:∀ f∈qF,VB f) (ao:qF.length≤6) (hl:kP.length<4611686018427387904):Ze Xs Ms Zav [(.d (.agg [J qL,J qW,J qH,.sl (qF.map Box.enc)])),(.d (.agg [J kW,J kH,.sl (kP.map Pane.enc)])),.d p.enc] []=some ((.d (.bool (decide (WT (Zb.mk qL qW qH qF) (ZI.mk kW kH kP) p)))),[]):=by
 have ev:=Zh1 kW kH kP p hl;by_cases hv:VU (ZI.mk kW kH kP) p=true
 ·by_cases hw:kW=qW
  ·by_cases hh:kH=qH
   ·subst hw;subst hh;obtain⟨b,hb,ah,ai,ae,ab,aj⟩:=Xx hv;have af:=ai;simp only[VW] at af;have ep:=Zkf kW kH kP p b ah (by simp only[inB];omega) ab (by omega);have ad:∀ c∈plc b 0 0 kW kH,VB c.Box:=Zm7 (p:=p) ai ab;have ag:(plc b 0 0 kW kH).length≤255:=by
     rw[← WG];exact Kz (Kl _ _) (by rw[ZaT];exact ae)
    have aa:WT ⟨qL,kW,kH,qF⟩ (ZI.mk kW kH kP) p↔∀ c∈plc b 0 0 kW kH,Qn qF c.Box:=by
     unfold WT;rw[aj,WG];exact⟨fun h=>h.2.2.2,fun h=>⟨hv,rfl,rfl,h⟩⟩
    rw[hv] at ev;generalize plc b 0 0 kW kH=L at ep ad ag aa;clear aj ah hb;obtain⟨o,a,n,t,ks⟩:=p;rw[Zf.enc_mk] at ev ep ⊢;refine cE ?_;simp +contextual -implicitDefEqProofs (maxSteps:=10^7) only[go_sem,seval,↓gZ,UH,ev,ep];refine LO (α:=Nat) (fun i=>[(8,.d (J (i:Int)))]) (fun _=>[]) (fun i=>i≤L.length∧((∀ c∈L,Qn qF c.Box)↔∀ c∈L.drop i,Qn qF c.Box)) (fun i=>L.length-i) 0 ⟨by omega,by simp⟩ ?_;intro i ⟨hi,hp⟩ ih;by_cases ak:i<L.length
    ·obtain⟨x,hx⟩:=Zq ak;rw[ZfS hx (fun c=>Qn qF c.Box)] at hp;have hw:=Zj (k:=i) (by omega);have am:=ad x (Kc hx);obtain⟨q',t',⟨X,Y,W,H⟩⟩:=x;have em:=Zl5 qL kW kH qF X Y W H al am (by omega);simp +contextual -implicitDefEqProofs (maxSteps:=10^7) only[go_sem,seval,↓gZ,hx,ak,hw,em];refine⟨fun h=>Zjd (fun h'=>h ((hp.1 (aa.1 h')).1)),fun h=>ih (i+1) _ ⟨by omega,?_⟩ (by omega) ?_⟩
     ·rw[hp];exact⟨fun h'=>h'.2,fun h'=>⟨h,h'⟩⟩
     ·simp +contextual -implicitDefEqProofs (maxSteps:=10^7) only[go_sem,seval,↓gZ]
    ·have:i=L.length:=by omega
     subst this;simp +contextual -implicitDefEqProofs (maxSteps:=10^7) only[go_sem,seval,↓gZ];exact ZyZ (aa.2 (hp.2 (by simp)))
   ·subst hw;have hn:¬WT ⟨qL,kW,qH,qF⟩ (ZI.mk kW kH kP) p:=fun h=>hh h.2.2.1;obtain⟨o,a,n,t,ks⟩:=p;rw[hv] at ev;rw[Zf.enc_mk] at ev ⊢;refine cE ?_;simp +contextual -implicitDefEqProofs (maxSteps:=10^7) only[go_sem,seval,↓gZ,UH,ev,hh,hn]
  ·have hn:¬WT (Zb.mk qL qW qH qF) (ZI.mk kW kH kP) p:=fun h=>hw h.2.1;obtain⟨o,a,n,t,ks⟩:=p;rw[hv] at ev;rw[Zf.enc_mk] at ev ⊢;refine cE ?_;simp +contextual -implicitDefEqProofs (maxSteps:=10^7) only[go_sem,seval,↓gZ,UH,ev,hw,hn]
 ·have an:=(LN _).mp hv;have hn:¬WT (Zb.mk qL qW qH qF) (ZI.mk kW kH kP) p:=fun h=>hv h.1;rw[an] at ev;obtain⟨o,a,n,t,ks⟩:=p;rw[Zf.enc_mk] at ev ⊢;refine cE ?_;simp +contextual -implicitDefEqProofs (maxSteps:=10^7) only[go_sem,seval,↓gZ,UH,ev,hn]
theorem Zvu (qL qW qH:Int) (qF:List Box) (bX bY bW bH:Int) (label:Int) (hq:VPc (Zb.mk qL qW qH qF)) (hb:VB (Box.mk bX bY bW bH)) (hi:WK (Box.mk bX bY bW bH) ⟨0,0,qW,qH⟩) (h1:1≤label) (h2:label≤9999) :
  Ze Xs Ms Zdm [(.d (.agg [J qL,J qW,J qH,.sl (qF.map Box.enc)])),(.d (.agg [J bX,J bY,J bW,J bH])),(.d (J label))] []=some (.agg [(.d (J label)),(.d (J bW)),(.d (J bH)),.own 0],[.row 4 ((qF.filterMap (Y0 (Box.mk bX bY bW bH))).map Box.enc) true false]):=by
 have ae:=hq.1;simp only at ae;have n1:¬label<1:=by omega
 have n2:¬9999<label:=by omega
 have af:VB ⟨0,0,qW,qH⟩:=by simp only[VB];omega
 refine cE ?_;simp +contextual -implicitDefEqProofs (maxSteps:=10^7) only[go_sem,seval,↓gZ,Zlr,Xl,Zbx,Zkb,hq,hb,hi,af,n1,n2];refine LO (α:=Nat) (fun i=>[(40,.d (J (i:Int)))]) (fun i=>[(3,.row 4 (((qF.take i).filterMap (Y0 (Box.mk bX bY bW bH))).map Box.enc) true false)]) (fun i=>i≤qF.length) (fun i=>qF.length-i) 0 (by omega) ?_;intro i hk ih;by_cases aa:i<qF.length
 ·obtain⟨x,hx⟩:=Zq aa;have hw:=Zj (k:=i) (by omega);have hm:=ZbI (f:=Y0 (Box.mk bX bY bW bH)) hx;have ah:((qF.take i).filterMap (Y0 (Box.mk bX bY bW bH))).length≤i:=Kz (Kl _ _) (by simp;omega);have hr:(((qF.take i).filterMap (Y0 (Box.mk bX bY bW bH))).length+1)*32≤140737488355328∧((qF.take i).filterMap (Y0 (Box.mk bX bY bW bH))).length≤140737488355327:=by omega
  have ad:=(hq.2 x (Kc hx)).1;obtain⟨X,Y,W,H⟩:=x;have ab:=ad;have ag:=hb;simp only[VB] at ab ag;simp only[Y0] at hm;by_cases ho:US ⟨X,Y,W,H⟩ (Box.mk bX bY bW bH)
  ·rw[Kh ho] at hm;have w1:=wi (max X bX-bX) (by omega) (by omega);have w2:=wi (max Y bY-bY) (by omega) (by omega);simp +contextual -implicitDefEqProofs (maxSteps:=10^7) only[go_sem,seval,↓gZ,hx,aa,hw,Zf2 X Y W H bX bY bW bH ad hb ho,hr,Zje,w1,w2];refine ih (i+1) _ (by omega) (by omega) ?_;simp +contextual -implicitDefEqProofs (maxSteps:=10^7) only[go_sem,seval,↓gZ,hm,ZuX,Zje]
   first | rfl | (simp;done) | (simp;rfl)
  ·rw[Kd ho] at hm;simp +contextual -implicitDefEqProofs (maxSteps:=10^7) only[go_sem,seval,↓gZ,hx,aa,hw,Zh0 X Y W H bX bY bW bH (fun hh=>ho hh.2.2),hr];refine ih (i+1) _ (by omega) (by omega) ?_;simp +contextual -implicitDefEqProofs (maxSteps:=10^7) only[go_sem,seval,↓gZ,hm]
   first | rfl | (simp;done) | (simp;rfl)
 ·have:i=qF.length:=by omega
  subst this;simp +contextual -implicitDefEqProofs (maxSteps:=10^7) only[go_sem,seval,↓gZ];try simp
theorem Zvv (qL qW qH:Int) (qF:List Box) (bX bY bW bH:Int) (label:Int) (hf:∀ f∈qF,VB f) (hl:qF.length≤6) (hb:VB (Box.mk bX bY bW bH)) :
  Ze Xs Ms Zdn [(.d (.agg [J qL,J qW,J qH,.sl (qF.map Box.enc)])),(.d (.agg [J bX,J bY,J bW,J bH])),(.d (J label))] []=some (.agg [(.d (J label)),(.d (J bW)),(.d (J bH)),.own 0],[.row 4 ((qF.filterMap (Y0 (Box.mk bX bY bW bH))).map Box.enc) true false]):=by
 refine cE ?_;simp +contextual -implicitDefEqProofs (maxSteps:=10^7) only[go_sem,seval,↓gZ,Zls];refine LO (α:=Nat) (fun i=>[(8,.d (J (i:Int)))]) (fun i=>[(4,.row 4 (((qF.take i).filterMap (Y0 (Box.mk bX bY bW bH))).map Box.enc) true false)]) (fun i=>i≤qF.length) (fun i=>qF.length-i) 0 (by omega) ?_;intro i hk ih;by_cases aa:i<qF.length
 ·obtain⟨x,hx⟩:=Zq aa;have hw:=Zj (k:=i) (by omega);have hm:=ZbI (f:=Y0 (Box.mk bX bY bW bH)) hx;have af:((qF.take i).filterMap (Y0 (Box.mk bX bY bW bH))).length≤i:=Kz (Kl _ _) (by simp;omega);have hr:(((qF.take i).filterMap (Y0 (Box.mk bX bY bW bH))).length+1)*32≤140737488355328∧((qF.take i).filterMap (Y0 (Box.mk bX bY bW bH))).length≤140737488355327:=by omega
  have ab:=hf x (Kc hx);obtain⟨X,Y,W,H⟩:=x;have ad:=ab;have ae:=hb;simp only[VB] at ad ae;simp only[Y0] at hm;by_cases ho:US ⟨X,Y,W,H⟩ (Box.mk bX bY bW bH)
  ·rw[Kh ho] at hm;have w1:=wi (max X bX-bX) (by omega) (by omega);have w2:=wi (max Y bY-bY) (by omega) (by omega);simp +contextual -implicitDefEqProofs (maxSteps:=10^7) only[go_sem,seval,↓gZ,hx,aa,hw,ZlY X Y W H bX bY bW bH ab hb ho,hr,Zje,w1,w2];refine ih (i+1) _ (by omega) (by omega) ?_;simp +contextual -implicitDefEqProofs (maxSteps:=10^7) only[go_sem,seval,↓gZ,hm,ZuX,Zje]
   first | rfl | (simp;done) | (simp;rfl)
  ·rw[Kd ho] at hm;simp +contextual -implicitDefEqProofs (maxSteps:=10^7) only[go_sem,seval,↓gZ,hx,aa,hw,Zov X Y W H bX bY bW bH ab hb ho,hr];refine ih (i+1) _ (by omega) (by omega) ?_;simp +contextual -implicitDefEqProofs (maxSteps:=10^7) only[go_sem,seval,↓gZ,hm]
   first | rfl | (simp;done) | (simp;rfl)
 ·have:i=qF.length:=by omega
  subst this;simp +contextual -implicitDefEqProofs (maxSteps:=10^7) only[go_sem,seval,↓gZ];try simp
theorem Zhi (kW kH:Int) (kP:List Pane) (p:Zf) (Zi:Int):Ze Xs Ms Uc [(.d (.agg [J kW,J kH,.sl (kP.map Pane.enc)])),.d p.enc,(.d (J Zi))] []=some (.own 0,[.row 4 ((Xc (ZI.mk kW kH kP) p Zi).map Box.enc) true false]):=by
 have hv:=Zke kW kH kP p;have hn:((QO (ZI.mk kW kH kP) p).filterMap X7).length≤255:=Kz (Kl _ _) (Zbb (ZI.mk kW kH kP) p);unfold Xc;generalize (QO (ZI.mk kW kH kP) p).filterMap X7=ps at hv hn ⊢;obtain⟨o,a,q,t,ks⟩:=p;rw[Zf.enc_mk] at hv ⊢;refine cE ?_;simp +contextual -implicitDefEqProofs (maxSteps:=10^7) only[go_sem,seval,↓gZ,Zdy,hv];refine LO (α:=Nat) (fun k=>[(14,.d (J (k:Int)))]) (fun k=>[(1,.row 4 (((ps.take k).filterMap (Jq Zi)).map Box.enc) true false)]) (fun k=>k≤ps.length) (fun k=>ps.length-k) 0 (by omega) ?_;intro k hk ih;by_cases aa:k<ps.length
 ·obtain⟨x,hx⟩:=Zq aa;have hw:=Zj (k:=k) (by omega);have hm:=ZbI (f:=Jq Zi) hx;have ab:((ps.take k).filterMap (Jq Zi)).length≤k:=Kz (Kl _ _) (by simp;omega);have hr:(((ps.take k).filterMap (Jq Zi)).length+1)*32≤140737488355328∧((ps.take k).filterMap (Jq Zi)).length≤140737488355327:=by omega
  obtain⟨X,Y,W,H⟩:=x;simp only[Jq] at hm;by_cases ho:Zi≤W∧Zi≤H
  ·rw[Kh ho] at hm;simp +contextual -implicitDefEqProofs (maxSteps:=10^7) only[go_sem,seval,↓gZ,hx,aa,hw,ho,hr];refine ih (k+1) _ (by omega) (by omega) ?_;simp +contextual -implicitDefEqProofs (maxSteps:=10^7) only[go_sem,seval,↓gZ,hm]
   first | rfl | (simp;done) | (simp;rfl)
  ·rw[Kd ho] at hm;simp +contextual -implicitDefEqProofs (maxSteps:=10^7) only[go_sem,seval,↓gZ,hx,aa,hw,ho,hr];refine ih (k+1) _ (by omega) (by omega) ?_;simp +contextual -implicitDefEqProofs (maxSteps:=10^7) only[go_sem,seval,↓gZ,hm]
   first | rfl | (simp;done) | (simp;rfl)
 ·have:k=ps.length:=by omega
  subst this;simp +contextual -implicitDefEqProofs (maxSteps:=10^7) only[go_sem,seval,↓gZ];simp
theorem Zl6 (qL qW qH:Int) (qF:List Box) (kW kH:Int) (kP:List Pane) (p:Zf) (Zi label:Int) (hq:VPc (Zb.mk qL qW qH qF)) (hv:VU (ZI.mk kW kH kP) p=true) (hW:kW=qW) (hH:kH=qH) (h1:1≤label) (h2:label≤10000)
  (hk:(Xc (ZI.mk kW kH kP) p Zi).length≤10000-label):Ze Xs Ms YP [(.d (.agg [J qL,J qW,J qH,.sl (qF.map Box.enc)])),(.d (.agg [J kW,J kH,.sl (kP.map Pane.enc)])),.d p.enc,(.d (J Zi)),(.d (J label))] [] =
  some (.tup [.own 0,(.d (.bool true))],[.row 4 ((JO (Zb.mk qL qW qH qF) label (Xc (ZI.mk kW kH kP) p Zi)).map Zb.enc) true false]):=by
 have ek:=Zhi kW kH kP p Zi;have aa:∀ b∈Xc (ZI.mk kW kH kP) p Zi,VB b∧WK b ⟨0,0,qW,qH⟩:=by
  intro b hb;have:=ZrI (Zi:=Zi) hv b hb;rw[← hW,← hH];exact this
 have hn:=ZjV (ZI.mk kW kH kP) p Zi;generalize Xc (ZI.mk kW kH kP) p Zi=L at ek aa hn hk ⊢;clear hv;have w0:=wi (10000-label) (by omega) (by omega);have n0:¬(10000-label<(L.length:Int)):=by omega
 obtain⟨o,a,n,t,ks⟩:=p;rw[Zf.enc_mk] at ek ⊢;refine cE ?_;simp +contextual -implicitDefEqProofs (maxSteps:=10^7) only[go_sem,seval,↓gZ,Jy,ek,w0,n0];refine LO (α:=Nat) (fun i=>[(27,.d (J (i:Int)))]) (fun i=>[(1,.row 4 ((JO (Zb.mk qL qW qH qF) label (L.take i)).map Zb.enc) true false)]) (fun i=>i≤L.length) (fun i=>L.length-i) 0 (by omega) ?_;intro i hi ih;by_cases ab:i<L.length
 ·obtain⟨x,hx⟩:=Zq ab;have hw:=Zj (k:=i) (by omega);have hm:=ZAc (Zb.mk qL qW qH qF) label hx;have hl:(JO (Zb.mk qL qW qH qF) label (L.take i)).length=i:=by rw[ZdT];simp;omega
  have hr:(i+1)*48≤140737488355328∧i≤140737488355327:=by omega
  have ad:=aa x (Kc hx);have w1:=wi (label+(i:Int)) (by omega) (by omega);obtain⟨X,Y,W,H⟩:=x;have hc:=Zvu qL qW qH qF X Y W H (label+(i:Int)) hq ad.1 ad.2 (by omega) (by omega);simp +contextual -implicitDefEqProofs (maxSteps:=10^7) only[go_sem,seval,↓gZ,hx,ab,hw,w1,hc,hl,hr];refine ih (i+1) _ (by omega) (by omega) ?_;simp +contextual -implicitDefEqProofs (maxSteps:=10^7) only[go_sem,seval,↓gZ,hm,ZrH]
  first | rfl | (simp;done) | (simp;rfl)
 ·have:i=L.length:=by omega
  subst this;simp +contextual -implicitDefEqProofs (maxSteps:=10^7) only[go_sem,seval,↓gZ];try simp
theorem Znw (qL qW qH:Int) (qF:List Box) (kW kH:Int) (kP:List Pane) (p:Zf) (Zi label:Int) (h1:1≤label) (h2:label≤10000)
  (hk:¬(Xc (ZI.mk kW kH kP) p Zi).length≤10000-label):Ze Xs Ms YP [(.d (.agg [J qL,J qW,J qH,.sl (qF.map Box.enc)])),(.d (.agg [J kW,J kH,.sl (kP.map Pane.enc)])),.d p.enc,(.d (J Zi)),(.d (J label))] [] =
  some (.tup [.own 0,(.d (.bool false))],[.row 4 [] true false]):=by
 have ek:=Zhi kW kH kP p Zi;generalize Xc (ZI.mk kW kH kP) p Zi=L at ek hk ⊢;have w0:=wi (10000-label) (by omega) (by omega);have n0:10000-label<(L.length:Int):=by omega
 obtain⟨o,a,n,t,ks⟩:=p;rw[Zf.enc_mk] at ek ⊢;refine cE ?_;simp +contextual -implicitDefEqProofs (maxSteps:=10^7) only[go_sem,seval,↓gZ,Jy,ek,w0,n0]
theorem Zda (bX bY bW bH:Int) (Zi:Int):Ze Xs Ms WA [(.d (.agg [J bX,J bY,J bW,J bH])),(.d (J Zi))] []=some ((.d (.bool (decide (Zi≤bW∧Zi≤bH)))),[]):=by
 refine cE ?_;simp +contextual -implicitDefEqProofs (maxSteps:=10^7) only[go_sem,seval,↓gZ,ZeP]
theorem Zl7 (bX bY bW bH:Int) (hb:VB (Box.mk bX bY bW bH)):Ze Xs Ms JT [(.d (.agg [J bX,J bY,J bW,J bH]))] []=some ((.d (J (bW*bH))),[]):=by
 have h:=ZcT hb;simp only at h;have w:=wi (bW*bH) (by omega) (by omega);refine cE ?_;simp +contextual -implicitDefEqProofs (maxSteps:=10^7) only[go_sem,seval,↓gZ,Zip,w]
theorem Zst (kW kH:Int) (kP:List Pane) (p:Zf) (Zi:Int) (hv:VU (ZI.mk kW kH kP) p=true) (h1:1≤Zi) (h2:Zi≤200):Ze Xs Ms Zao [(.d (.agg [J kW,J kH,.sl (kP.map Pane.enc)])),.d p.enc,(.d (J Zi))] [] =
  some ((.d (J (Yd (ZfT (ZI.mk kW kH kP) p Zi)))),[]):=by
 have ev:=J6 kW kH kP p;rw[hv] at ev;have ep:=Zke kW kH kP p;have aa:=ZfU hv;have ad:((QO (ZI.mk kW kH kP) p).filterMap X7).length≤255:=Kz (Kl _ _) (Zbb _ _);unfold ZfT;generalize (QO (ZI.mk kW kH kP) p).filterMap X7=L at ep aa ad ⊢;clear hv;have n1:¬Zi<1:=by omega
 have n2:¬200<Zi:=by omega
 obtain⟨o,a,n,t,ks⟩:=p;rw[Zf.enc_mk] at ev ep ⊢;refine cE ?_;simp +contextual -implicitDefEqProofs (maxSteps:=10^7) only[go_sem,seval,↓gZ,Zgu,ev,ep,n1,n2];refine LO (α:=Nat) (fun i=>[(26,.d (J (i:Int))),(7,.d (J (Yd ((L.take i).filterMap (JZ Zi)))))]) (fun _=>[]) (fun i=>i≤L.length) (fun i=>L.length-i) 0 (by omega) ?_;intro i hi ih;by_cases ae:i<L.length
 ·obtain⟨x,hx⟩:=Zq ae;have hw:=Zj (k:=i) (by omega);have hm:=ZbI (f:=JZ Zi) hx;have af:=aa x (Kc hx);have ha:=Zjl (l:=(L.take i).filterMap (JZ Zi)) (fun c hc=>by
   obtain⟨d,hd,ab⟩:=Lk.1 hc;unfold JZ at ab;split at ab
   ·cases ab;exact aa c (K6 hd)
   ·cases ab)
  have ah:((L.take i).filterMap (JZ Zi)).length≤i:=Kz (Kl _ _) (by simp;omega);have ag:=ZcT af;obtain⟨X,Y,W,H⟩:=x;simp only at ag;have w1:=wi (Yd ((L.take i).filterMap (JZ Zi))+W*H) (by omega) (by omega);simp only[JZ] at hm;by_cases ho:W<Zi∨H<Zi
  ·rw[Kh ho] at hm;simp +contextual -implicitDefEqProofs (maxSteps:=10^7) only[go_sem,seval,↓gZ,hx,ae,hw,ho,Zl7 X Y W H af,w1];refine ih (i+1) _ (by omega) (by omega) ?_;simp +contextual -implicitDefEqProofs (maxSteps:=10^7) only[go_sem,seval,↓gZ,hm,ZcS,Option.toList,Yd]
   first | rfl | (simp;done) | (simp;rfl)
  ·rw[Kd ho] at hm;simp +contextual -implicitDefEqProofs (maxSteps:=10^7) only[go_sem,seval,↓gZ,hx,ae,hw,ho];refine ih (i+1) _ (by omega) (by omega) ?_;simp +contextual -implicitDefEqProofs (maxSteps:=10^7) only[go_sem,seval,↓gZ,hm]
   first | rfl | (simp;done) | (simp;rfl)
 ·have:i=L.length:=by omega
  subst this;simp +contextual -implicitDefEqProofs (maxSteps:=10^7) only[go_sem,seval,↓gZ];try simp
theorem Zsu (qL qW qH:Int) (qF:List Box) (kW kH:Int) (kP:List Pane) (p:Zf) (Zi label:Int) (hq:VPc (Zb.mk qL qW qH qF)) (hv:VU (ZI.mk kW kH kP) p=true) (h1:1≤label) (h2:label≤10000) :
  Ze Xs Ms Zaw [(.d (.agg [J qL,J qW,J qH,.sl (qF.map Box.enc)])),(.d (.agg [J kW,J kH,.sl (kP.map Pane.enc)])),.d p.enc,(.d (J Zi)),(.d (J label))] [] =
  some (.own 0,[.row 4 ((JO (Zb.mk qL qW qH qF) label (Xc (ZI.mk kW kH kP) p Zi)).map Zb.enc) true false]):=by
 obtain⟨b,hb,ah,ai,ak,ae,aj⟩:=Xx hv;have af:=ai;simp only[VW] at af;have ep:=Zkg kW kH kP p b ah (by simp only[inB];omega) ae (by omega);have ab:=ZfU hv;have ad:((QO (ZI.mk kW kH kP) p).filterMap X7).length≤255:=Kz (Kl _ _) (Zbb _ _);unfold Xc;rw[aj,ZfR] at ab ad ⊢;have al:∀ f∈qF,VB f:=fun f hf=>(hq.2 f hf).1;have am:qF.length≤6:=hq.1.2.2.2.2.2.2;have aa:∀ i,((wst b 0 0 kW kH).take i).length≤255:=fun i=>Kz (List.length_take_le' _ _) ad;generalize wst b 0 0 kW kH=L at ep ab ad aa ⊢;clear aj ah hb hv ae ai af;obtain⟨o,a,n,t,ks⟩:=p;rw[Zf.enc_mk] at ep ⊢;refine cE ?_
 simp +contextual -implicitDefEqProofs (maxSteps:=10^7) only[go_sem,seval,↓gZ,ZgD,ep];refine LO (α:=Nat) (fun i=>[(13,.d (J (i:Int)))]) (fun i=>[(1,.row 4 ((JO (Zb.mk qL qW qH qF) label ((L.take i).filterMap (Jq Zi))).map Zb.enc) true false)]) (fun i=>i≤L.length) (fun i=>L.length-i) 0 (by omega) ?_;intro i hi ih;by_cases ag:i<L.length
 ·obtain⟨x,hx⟩:=Zq ag;have hw:=Zj (k:=i) (by omega);have hm:=ZbI (f:=Jq Zi) hx;have ap:((L.take i).filterMap (Jq Zi)).length≤255:=Kz (Kl _ _) (aa i);have hl:=ZdT (Zb.mk qL qW qH qF) label ((L.take i).filterMap (Jq Zi));have hr:(((L.take i).filterMap (Jq Zi)).length+1)*48≤140737488355328∧((L.take i).filterMap (Jq Zi)).length≤140737488355327:=by omega
  have w1:=wi (label+(((L.take i).filterMap (Jq Zi)).length:Int)) (by omega) (by omega);have an:=ab x (Kc hx);have ao:=fun y=>Zjk (Zb.mk qL qW qH qF) label ((L.take i).filterMap (Jq Zi)) [y];obtain⟨X,Y,W,H⟩:=x;simp only[Jq] at hm;have hc:=Zvv qL qW qH qF X Y W H (label+(((L.take i).filterMap (Jq Zi)).length:Int)) al am an;by_cases ho:Zi≤W∧Zi≤H
  ·rw[Kh ho] at hm;simp +contextual -implicitDefEqProofs (maxSteps:=10^7) only[go_sem,seval,↓gZ,hx,ag,hw,Zda,ho,hl,w1,hc,hr];refine ih (i+1) _ (by omega) (by omega) ?_;simp +contextual -implicitDefEqProofs (maxSteps:=10^7) only[go_sem,seval,↓gZ,hm,Option.toList,ao,JO,ZrH]
   first | rfl | (simp;done) | (simp;rfl)
  ·rw[Kd ho] at hm;simp +contextual -implicitDefEqProofs (maxSteps:=10^7) only[go_sem,seval,↓gZ,hx,ag,hw,Zda,ho];refine ih (i+1) _ (by omega) (by omega) ?_;simp +contextual -implicitDefEqProofs (maxSteps:=10^7) only[go_sem,seval,↓gZ,hm]
   first | rfl | (simp;done) | (simp;rfl)
 ·have:i=L.length:=by omega
  subst this;simp +contextual -implicitDefEqProofs (maxSteps:=10^7) only[go_sem,seval,↓gZ];try simp
theorem Zpn (a b:List Box) (ha:a.length<4611686018427387904):Ze Xs Ms W9 [(.d (.sl (a.map Box.enc))),(.d (.sl (b.map Box.enc)))] []=some ((.d (.bool (decide (a=b)))),[]):=by
 refine cE ?_;by_cases hl:a.length=b.length
 ·simp +contextual -implicitDefEqProofs (maxSteps:=10^7) only[go_sem,seval,↓gZ,ZaG,hl];refine ZgT Xs Ms (st0:=?st0) (α:=Nat) (fun k=>[(5,.d (J (k:Int)))]) (fun _=>[]) (fun k=>k≤b.length∧a.take k=b.take k) (fun k=>b.length-k) 0 ?hc ⟨by omega,rfl⟩ ?h0 ?step
  case hc=>simp +contextual -implicitDefEqProofs (maxSteps:=10^7) only[go_sem,seval,↓gZ,hl];exact rfl
  case h0=>rfl
  case step=>
   intro k ⟨hk,hp⟩ ih;by_cases aa:k<b.length
   ·obtain⟨x,hx⟩:∃ x,a[k]?=some x:=Zq (by omega);obtain⟨y,hy⟩:∃ y,b[k]?=some y:=Zq aa;have hw:=Zj (k:=k) (by omega);have ht:=ZmW hx hy hp;by_cases he:x=y
    ·subst he;obtain⟨X,Y,W,H⟩:=x;simp +contextual -implicitDefEqProofs (maxSteps:=10^7) only[go_sem,seval,↓gZ,hx,hy,aa,hl,hw];refine ih (k+1) _ ⟨by omega,ht.2 rfl⟩ (by omega) ?_;simp +contextual -implicitDefEqProofs (maxSteps:=10^7) only[go_sem,seval,↓gZ,hl]
    ·have ab:¬a=b:=fun e=>he (ht.1 (by rw[e]));obtain⟨X,Y,W,H⟩:=x;obtain⟨X',Y',W',H'⟩:=y;simp only[Box.mk.injEq] at he;simp +contextual -implicitDefEqProofs (maxSteps:=10^7) only[go_sem,seval,↓gZ,hx,hy,aa,hl,hw,he,ab]
   ·have:a=b:=by
     have h1:=hp;rw[KH (by omega),KH (by omega)] at h1;exact h1
    simp +contextual -implicitDefEqProofs (maxSteps:=10^7) only[go_sem,seval,↓gZ,aa,hl,this]
 ·have ab:¬a=b:=fun e=>hl (by rw[e]);simp +contextual -implicitDefEqProofs (maxSteps:=10^7) only[go_sem,seval,↓gZ,ZaG,hl,ab]
theorem Zhj (aL aW aH:Int) (aF:List Box) (bL bW bH:Int) (bF:List Box) (hl:aF.length<4611686018427387904):Ze Xs Ms W5 [(.d (.agg [J aL,J aW,J aH,.sl (aF.map Box.enc)])),(.d (.agg [J bL,J bW,J bH,.sl (bF.map Box.enc)]))] []=some ((.d (.bool (decide ((Zb.mk aL aW aH aF)=(Zb.mk bL bW bH bF))))),[]):=by
 refine cE ?_;simp +contextual -implicitDefEqProofs (maxSteps:=10^7) only[go_sem,seval,↓gZ,Zds,Zpn aF bF hl];exact ZdH (by simp only[Zb.mk.injEq,and_assoc])
theorem Zpo (a b:List Zb) (ha:a.length<4611686018427387904) (hb:∀ x∈a,x.Flaws.length<4611686018427387904):Ze Xs Ms W3 [(.d (.sl (a.map Zb.enc))),(.d (.sl (b.map Zb.enc)))] []=some ((.d (.bool (decide (a=b)))),[]):=by
 refine cE ?_;by_cases hl:a.length=b.length
 ·simp +contextual -implicitDefEqProofs (maxSteps:=10^7) only[go_sem,seval,↓gZ,Zaz,hl];refine ZgT Xs Ms (st0:=?st0) (α:=Nat) (fun k=>[(5,.d (J (k:Int)))]) (fun _=>[]) (fun k=>k≤b.length∧a.take k=b.take k) (fun k=>b.length-k) 0 ?hc ⟨by omega,rfl⟩ ?h0 ?step
  case hc=>simp +contextual -implicitDefEqProofs (maxSteps:=10^7) only[go_sem,seval,↓gZ,hl];exact rfl
  case h0=>rfl
  case step=>
   intro k ⟨hk,hp⟩ ih;by_cases aa:k<b.length
   ·obtain⟨x,hx⟩:∃ x,a[k]?=some x:=Zq (by omega);obtain⟨y,hy⟩:∃ y,b[k]?=some y:=Zq aa;have hw:=Zj (k:=k) (by omega);have ht:=ZmW hx hy hp;by_cases he:x=y
    ·subst he;have he:=Zhj x.Label x.W x.H x.Flaws x.Label x.W x.H x.Flaws (hb x (Kc hx));obtain⟨L,W,H,F⟩:=x;simp +contextual -implicitDefEqProofs (maxSteps:=10^7) only[go_sem,seval,↓gZ,hx,hy,aa,hl,hw,he];refine ih (k+1) _ ⟨by omega,ht.2 rfl⟩ (by omega) ?_;simp +contextual -implicitDefEqProofs (maxSteps:=10^7) only[go_sem,seval,↓gZ,hl]
    ·have ab:¬a=b:=fun e=>he (ht.1 (by rw[e]));have hq:=Zhj x.Label x.W x.H x.Flaws y.Label y.W y.H y.Flaws (hb x (Kc hx));obtain⟨L,W,H,F⟩:=x;obtain⟨L',W',H',F'⟩:=y;simp +contextual -implicitDefEqProofs (maxSteps:=10^7) only[go_sem,seval,↓gZ,hx,hy,aa,hl,hw,hq,he,ab]
   ·have:a=b:=by
     have h1:=hp;rw[KH (by omega),KH (by omega)] at h1;exact h1
    simp +contextual -implicitDefEqProofs (maxSteps:=10^7) only[go_sem,seval,↓gZ,aa,hl,this]
 ·have ab:¬a=b:=fun e=>hl (by rw[e]);simp +contextual -implicitDefEqProofs (maxSteps:=10^7) only[go_sem,seval,↓gZ,Zaz,hl,ab]
theorem Zl8 (bs:List UInt8) (hb:bs.length≤2000) (p:Nat) (hp:p<900000000) (w h:Int):∃ X Y W H:Int,
  Ze Xs Ms ZbR [.ptr 0 0,(.d (J w)),(.d (J h))] [.box [.d (.sl (bs.map JM)),(.d (J p))]]=some (.d (.agg [J X,J Y,J W,J H]),[.box [.d (.sl (bs.map JM)),(.d (J ((p+4:Nat))))]]):=by
 have p1:=Qs bs p w hb (by omega);generalize QS bs p w=a1 at p1;have p2:=Qs bs (p+1) h hb (by omega);generalize QS bs (p+1) h=a2 at p2;have p3:=Qs bs (p+2) (IntKind.i64.wrap (IntKind.i64.wrap (w-IntKind.i64.wrap (1+a1))+1)) hb (by omega);generalize QS bs (p+2) (IntKind.i64.wrap (IntKind.i64.wrap (w-IntKind.i64.wrap (1+a1))+1))=a3 at p3;have p4:=Qs bs (p+3) (IntKind.i64.wrap (IntKind.i64.wrap (h-IntKind.i64.wrap (1+a2))+1)) hb (by omega);generalize QS bs (p+3) (IntKind.i64.wrap (IntKind.i64.wrap (h-IntKind.i64.wrap (1+a2))+1))=a4 at p4;refine⟨a3,a4,IntKind.i64.wrap (1+a1),IntKind.i64.wrap (1+a2),?_⟩
 refine cE ?_;simp +contextual -implicitDefEqProofs (maxSteps:=10^7) only[go_sem,seval,↓gZ,Zio,p1,p2,p3,p4]
def Vh:List Zb→Int
 | []=>0
 | x :: l=>x.W*x.H+Vh l
theorem Zui (a b:List Zb):Vh (a++b)=Vh a+Vh b:=by
 induction a with
 | nil=>simp[Vh]
 | cons c l ih=>simp only[Kv,Vh,ih];omega
theorem Zqp {L:List Zb} {i:Nat} {x:Zb} (hx:L[i]?=some x):Vh (L.take (i+1))=Vh (L.take i)+x.W*x.H:=by
 rw[KP,hx,Zui];simp[Vh]
theorem Zvw (q:Zb):∀ (n:Int) (l:List Box) (i:Nat) (x:Zb),(JO q n l)[i]?=some x→∃ b,l[i]?=some b∧x=ZrH q b (n+i)
 | n,[],i,x,h=>by simp[JO] at h
 | n,b :: l,0,x,h=>by
  simp only[JO,Lm,Option.some.injEq] at h;exact⟨b,rfl,by rw[← h];simp⟩
 | n,b :: l,i+1,x,h=>by
  simp only[JO,Ln] at h;obtain⟨c,h1,h2⟩:=Zvw q (n+1) l i x h;refine⟨c,by simpa using h1,?_⟩;rw[h2];congr 1;omega
theorem ZcD:∀ {l:List Zb},(∀ x∈l,1≤x.W∧x.W≤200∧1≤x.H∧x.H≤200)→0≤Vh l∧Vh l≤40000*l.length
 | [],_=>by simp[Vh]
 | x :: l,h=>by
  have h1:=h x (by simp);have h2:=ZcD (l:=l) fun y hy=>h y (by simp[hy]);have h3:0≤x.W*x.H:=LY (by omega) (by omega);have h4:x.W*x.H≤200*200:=LZ (by omega) (by omega) (by omega) (by omega);simp only[Vh,Ko];omega
end Go.Proofs.YtcefneehgbiebaaGreatDoor
