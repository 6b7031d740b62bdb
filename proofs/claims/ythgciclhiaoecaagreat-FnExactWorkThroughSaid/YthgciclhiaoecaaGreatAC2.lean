/- Own text. -/
import Derived.Test.YthgciclhiaoecaaGreatACode
import Derived.Test.YthgciclhiaoecaaGreatAbsParts
import Derived.Test.YthgciclhiaoecaaGreatAC1
import Derived.Test.YthgciclhiaoecaaGreatAbsOkD
namespace Go.Proofs.YthgciclhiaoecaaGreat
open Go Go.Abs Go.Abs.E Go.Abs.L
open Nat (reduceMul reduceSub reduceLeDiff reduceEqDiff)
open Int (reduceLE reduceEq reduceToNat reduceNeg)
set_option linter.unusedSimpArgs false
set_option linter.unusedVariables false
set_option maxRecDepth 20000
set_option maxHeartbeats 4000000
theorem XC (ps:List Pane):∀ (b:BT) (gX gY gW gH:Int) (xs:List D) (ex:Bool),inB (Box.mk gX gY gW gH)→XU ps b gW gH=true→xs.length+b.cnt≤1000 →
  Zd Xs Ms Qh [.own 0,.d b.plan.enc,(.d (.agg [J gX,J gY,J gW,J gH]))] [.row 9 xs ex false]=some (.own 1,[.gone,.row 9 (xs++(pt b gX gY gW gH).map Part.enc) false false])
 | .waste,gX,gY,gW,gH,xs,ex,hg,hf,hl=>by
  simp only[BT.cnt] at hl;have h1:(xs.length+1)*88≤140737488355328∧xs.length≤140737488355327:=by omega
  simp only[BT.plan,Ze.enc_mk,pt];refine cE ?_;simp +contextual -implicitDefEqProofs (maxSteps:=10^7) only[go_sem,seval,↓gZ,Xz,Wa,h1]
 | .pane i t,gX,gY,gW,gH,xs,ex,hg,hf,hl=>by
  simp only[BT.cnt] at hl;have h1:(xs.length+1)*88≤140737488355328∧xs.length≤140737488355327:=by omega
  simp only[BT.plan,Ze.enc_mk,pt];refine cE ?_;simp +contextual -implicitDefEqProofs (maxSteps:=10^7) only[go_sem,seval,↓gZ,Xz,Wa,h1]
 | .cut d a l r,gX,gY,gW,gH,xs,ex,hg,hf,hl=>by
  simp only[BT.cnt] at hl;have h1:(xs.length+1)*88≤140737488355328∧xs.length≤140737488355327:=by omega
  simp only[inB] at hg;simp only[BT.plan,Ze.enc_mk];cases d with
  | true=>
   simp only[XU,Kd,Kt,Km] at hf;have e0:=Zbh 2 a 0 false [l.plan.enc,r.plan.enc] gX gY gW gH rfl ⟨by omega,by omega⟩ ⟨by omega,by omega⟩;have e1:=XC ps l gX gY a gH (xs++[.agg [J 2,J a,J 0,.bool false,.sl [l.plan.enc,r.plan.enc],J gX,J gY,J gW,J gH]]) false (by simp only[inB];omega) hf.1.2 (by simp only[Kx,Kq,Ln];omega);have e2:=XC ps r (gX+a) gY (gW-a) gH (xs++[.agg [J 2,J a,J 0,.bool false,.sl [l.plan.enc,r.plan.enc],J gX,J gY,J gW,J gH]]++(pt l gX gY a gH).map Part.enc) false (by simp only[inB];omega) hf.2 (by simp only[Kx,Kq,Ln,KB,J3];omega)
   refine cE ?_;simp +contextual -implicitDefEqProofs (maxSteps:=10^7) only[go_sem,seval,↓gZ,Xz,Wa,h1,Ql,e0,e1,e2];simp[pt,Ql,BT.plan,Part.enc_mk]
  | false=>
   simp only[XU,Kd,Kt,Ka,Kk] at hf;have e0:=Jb 3 a 0 false [l.plan.enc,r.plan.enc] gX gY gW gH (by decide) ⟨by omega,by omega⟩ ⟨by omega,by omega⟩;have e1:=XC ps l gX gY gW a (xs++[.agg [J 3,J a,J 0,.bool false,.sl [l.plan.enc,r.plan.enc],J gX,J gY,J gW,J gH]]) false (by simp only[inB];omega) hf.1.2 (by simp only[Kx,Kq,Ln];omega);have e2:=XC ps r gX (gY+a) gW (gH-a) (xs++[.agg [J 3,J a,J 0,.bool false,.sl [l.plan.enc,r.plan.enc],J gX,J gY,J gW,J gH]]++(pt l gX gY gW a).map Part.enc) false (by simp only[inB];omega) hf.2 (by simp only[Kx,Kq,Ln,KB,J3];omega)
   refine cE ?_;simp +contextual -implicitDefEqProofs (maxSteps:=10^7) only[go_sem,seval,↓gZ,Xz,Wa,h1,Ql,e0,e1,e2];simp[pt,Ql,BT.plan,Part.enc_mk]
theorem Zp5 (ps:List Pane):∀ (b:BT) (gX gY gW gH:Int),inB (Box.mk gX gY gW gH)→XU ps b gW gH=true→b.cnt≤1000 →
  Zd Xs Ms Qh [.nil,.d b.plan.enc,(.d (.agg [J gX,J gY,J gW,J gH]))] []=some (.own 0,[.row 9 ((pt b gX gY gW gH).map Part.enc) false false])
 | .waste,gX,gY,gW,gH,hg,hf,hl=>by
  have h1:1*88≤ZK∧1≤ZK:=by unfold ZK;omega
  simp only[BT.plan,Ze.enc_mk,pt];refine cE ?_;simp +contextual -implicitDefEqProofs (maxSteps:=10^7) only[go_sem,seval,↓gZ,Xz,Wa,h1]
 | .pane i t,gX,gY,gW,gH,hg,hf,hl=>by
  have h1:1*88≤ZK∧1≤ZK:=by unfold ZK;omega
  simp only[BT.plan,Ze.enc_mk,pt];refine cE ?_;simp +contextual -implicitDefEqProofs (maxSteps:=10^7) only[go_sem,seval,↓gZ,Xz,Wa,h1]
 | .cut d a l r,gX,gY,gW,gH,hg,hf,hl=>by
  simp only[BT.cnt] at hl;have h1:1*88≤ZK∧1≤ZK:=by unfold ZK;omega
  simp only[inB] at hg;simp only[BT.plan,Ze.enc_mk];cases d with
  | true=>
   simp only[XU,Kd,Kt,Km] at hf;have e0:=Zbh 2 a 0 false [l.plan.enc,r.plan.enc] gX gY gW gH rfl ⟨by omega,by omega⟩ ⟨by omega,by omega⟩;have e1:=XC ps l gX gY a gH [.agg [J 2,J a,J 0,.bool false,.sl [l.plan.enc,r.plan.enc],J gX,J gY,J gW,J gH]] false (by simp only[inB];omega) hf.1.2 (by simp only[Kx,Kq,Ln];omega);have e2:=XC ps r (gX+a) gY (gW-a) gH (.agg [J 2,J a,J 0,.bool false,.sl [l.plan.enc,r.plan.enc],J gX,J gY,J gW,J gH] :: (pt l gX gY a gH).map Part.enc) false (by simp only[inB];omega) hf.2 (by simp only[Kx,Kq,Ln,KB,J3];omega)
   refine cE ?_;simp +contextual -implicitDefEqProofs (maxSteps:=10^7) only[go_sem,seval,↓gZ,Xz,Wa,h1,Ql,e0,e1,e2];simp[pt,Ql,BT.plan,Part.enc_mk]
  | false=>
   simp only[XU,Kd,Kt,Ka,Kk] at hf;have e0:=Jb 3 a 0 false [l.plan.enc,r.plan.enc] gX gY gW gH (by decide) ⟨by omega,by omega⟩ ⟨by omega,by omega⟩;have e1:=XC ps l gX gY gW a [.agg [J 3,J a,J 0,.bool false,.sl [l.plan.enc,r.plan.enc],J gX,J gY,J gW,J gH]] false (by simp only[inB];omega) hf.1.2 (by simp only[Kx,Kq,Ln];omega);have e2:=XC ps r gX (gY+a) gW (gH-a) (.agg [J 3,J a,J 0,.bool false,.sl [l.plan.enc,r.plan.enc],J gX,J gY,J gW,J gH] :: (pt l gX gY gW a).map Part.enc) false (by simp only[inB];omega) hf.2 (by simp only[Kx,Kq,Ln,KB,J3];omega)
   refine cE ?_;simp +contextual -implicitDefEqProofs (maxSteps:=10^7) only[go_sem,seval,↓gZ,Xz,Wa,h1,Ql,e0,e1,e2];simp[pt,Ql,BT.plan,Part.enc_mk]
theorem Zlf (kW kH:Int) (kP:List Pane) (p:Ze):Zd Xs Ms UZ [(.d (.agg [J kW,J kH,.sl (kP.map Pane.enc)])),.d p.enc] []=some (.own 0,[.row 9 ((Qm (Zt.mk kW kH kP) p).map Part.enc) (!Y5 (Zt.mk kW kH kP) p) false]):=by
 have hv:=Jc kW kH kP p;unfold Y5 at hv;unfold Qm Y5;cases hb:Yj p with
 | none=>
  rw[hb] at hv;obtain⟨o,a,q,t,ks⟩:=p;rw[Ze.enc_mk] at hv ⊢;refine cE ?_;simp +contextual -implicitDefEqProofs (maxSteps:=10^7) only[go_sem,seval,↓gZ,Zbb,hv];try rfl
 | some b=>
  have hp:=ZiP hb;rw[hb] at hv;dsimp only at hv ⊢;by_cases hh:(decide (VW (Zt.mk kW kH kP))&&decide (b.cnt≤255)&&XU kP b kW kH)=true
  ·have aa:=hh;simp only[Kd,Kt] at aa;have hw:=aa.1.1;simp only[VW] at hw;have ab:=Zp5 kP b 0 0 kW kH (by simp only[inB];omega) aa.2 (by omega);rw[← hp] at ab;rw[hh] at hv ⊢;obtain⟨o,a,q,t,ks⟩:=p;rw[Ze.enc_mk] at hv ab ⊢;refine cE ?_;simp +contextual -implicitDefEqProofs (maxSteps:=10^7) only[go_sem,seval,↓gZ,Zbb,ZbC,hv,ab];try rfl
  ·have hf:=(LL _).mp hh;rw[hf] at hv ⊢;obtain⟨o,a,q,t,ks⟩:=p;rw[Ze.enc_mk] at hv ⊢;refine cE ?_;simp +contextual -implicitDefEqProofs (maxSteps:=10^7) only[go_sem,seval,↓gZ,Zbb,hv];try rfl
theorem Zam (k:Zt) (p:Ze):(Qm k p).length≤255:=by
 unfold Qm;split
 ·split
  ·rename_i h;simp only[Kd,Kt] at h;rw[J3];exact h.1.2
  ·simp
 ·simp
theorem ZdF (kW kH:Int) (kP:List Pane) (p:Ze):Zd Xs Ms Vo [(.d (.agg [J kW,J kH,.sl (kP.map Pane.enc)])),.d p.enc] []=some (.own 0,[.row 6 (((Qm (Zt.mk kW kH kP) p).filterMap QX).map Place.enc) true false]):=by
 have hv:=Zlf kW kH kP p;have hn:=Zam (Zt.mk kW kH kP) p;generalize (!Y5 (Zt.mk kW kH kP) p)=e at hv;generalize Qm (Zt.mk kW kH kP) p=ps at hv hn ⊢;obtain⟨o,a,q,t,ks⟩:=p;rw[Ze.enc_mk] at hv ⊢;refine cE ?_;simp +contextual -implicitDefEqProofs (maxSteps:=10^7) only[go_sem,seval,↓gZ,Zfj,hv];refine LO (α:=Nat) (fun k=>[(12,.d (J (k:Int)))]) (fun k=>[(1,.row 6 (((ps.take k).filterMap QX).map Place.enc) true false)]) (fun k=>k≤ps.length) (fun k=>ps.length-k) 0 (by omega) ?_;intro k hk ih;by_cases aa:k<ps.length
 ·obtain⟨x,hx⟩:=Zo aa;have hw:=Zh (k:=k) (by omega);have hm:=ZaX (f:=QX) hx;have ab:((ps.take k).filterMap QX).length≤k:=Kr (Kn _ _) (by simp;omega);have hr:(((ps.take k).filterMap QX).length+1)*48≤140737488355328∧((ps.take k).filterMap QX).length≤140737488355327:=by omega
  obtain⟨⟨o',a',q',t',ad⟩,⟨X,Y,W,H⟩⟩:=x;simp only[QX] at hm;by_cases ho:o'=1
  ·rw[Kj ho] at hm;simp +contextual -implicitDefEqProofs (maxSteps:=10^7) only[go_sem,seval,↓gZ,hx,aa,hw,ho,hr];refine ih (k+1) _ (by omega) (by omega) ?_;simp +contextual -implicitDefEqProofs (maxSteps:=10^7) only[go_sem,seval,↓gZ,hm]
   first | rfl | (simp;done) | (simp;rfl)
  ·rw[Kg ho] at hm;simp +contextual -implicitDefEqProofs (maxSteps:=10^7) only[go_sem,seval,↓gZ,hx,aa,hw,ho,hr];refine ih (k+1) _ (by omega) (by omega) ?_;simp +contextual -implicitDefEqProofs (maxSteps:=10^7) only[go_sem,seval,↓gZ,hm]
   first | rfl | (simp;done) | (simp;rfl)
 ·have:k=ps.length:=by omega
  subst this;simp +contextual -implicitDefEqProofs (maxSteps:=10^7) only[go_sem,seval,↓gZ];simp
theorem Zi7 (kW kH:Int) (kP:List Pane) (p:Ze):Zd Xs Ms WN [(.d (.agg [J kW,J kH,.sl (kP.map Pane.enc)])),.d p.enc] []=some (.own 0,[.row 4 (((Qm (Zt.mk kW kH kP) p).filterMap XM).map Box.enc) true false]):=by
 have hv:=Zlf kW kH kP p;have hn:=Zam (Zt.mk kW kH kP) p;generalize (!Y5 (Zt.mk kW kH kP) p)=e at hv;generalize Qm (Zt.mk kW kH kP) p=ps at hv hn ⊢;obtain⟨o,a,q,t,ks⟩:=p;rw[Ze.enc_mk] at hv ⊢;refine cE ?_;simp +contextual -implicitDefEqProofs (maxSteps:=10^7) only[go_sem,seval,↓gZ,Zfm,hv];refine LO (α:=Nat) (fun k=>[(12,.d (J (k:Int)))]) (fun k=>[(1,.row 4 (((ps.take k).filterMap XM).map Box.enc) true false)]) (fun k=>k≤ps.length) (fun k=>ps.length-k) 0 (by omega) ?_;intro k hk ih;by_cases aa:k<ps.length
 ·obtain⟨x,hx⟩:=Zo aa;have hw:=Zh (k:=k) (by omega);have hm:=ZaX (f:=XM) hx;have ab:((ps.take k).filterMap XM).length≤k:=Kr (Kn _ _) (by simp;omega);have hr:(((ps.take k).filterMap XM).length+1)*32≤140737488355328∧((ps.take k).filterMap XM).length≤140737488355327:=by omega
  obtain⟨⟨o',a',q',t',ad⟩,⟨X,Y,W,H⟩⟩:=x;simp only[XM] at hm;by_cases ho:o'=0
  ·rw[Kj ho] at hm;simp +contextual -implicitDefEqProofs (maxSteps:=10^7) only[go_sem,seval,↓gZ,hx,aa,hw,ho,hr];refine ih (k+1) _ (by omega) (by omega) ?_;simp +contextual -implicitDefEqProofs (maxSteps:=10^7) only[go_sem,seval,↓gZ,hm]
   first | rfl | (simp;done) | (simp;rfl)
  ·rw[Kg ho] at hm;simp +contextual -implicitDefEqProofs (maxSteps:=10^7) only[go_sem,seval,↓gZ,hx,aa,hw,ho,hr];refine ih (k+1) _ (by omega) (by omega) ?_;simp +contextual -implicitDefEqProofs (maxSteps:=10^7) only[go_sem,seval,↓gZ,hm]
   first | rfl | (simp;done) | (simp;rfl)
 ·have:k=ps.length:=by omega
  subst this;simp +contextual -implicitDefEqProofs (maxSteps:=10^7) only[go_sem,seval,↓gZ];simp
theorem UQ (ps:List Pane):∀ (b:BT) (gX gY gW gH:Int),inB (Box.mk gX gY gW gH)→XU ps b gW gH=true→b.cnt≤1000 →
  Zd Xs Ms YK [.d b.plan.enc,(.d (.agg [J gX,J gY,J gW,J gH]))] []=some (.own 0,[.row 6 ((sp b gX gY gW gH).map Place.enc) true false])
 | .waste,gX,gY,gW,gH,hg,hf,hl=>by
  simp only[BT.plan,Ze.enc_mk,sp];refine cE ?_;simp +contextual -implicitDefEqProofs (maxSteps:=10^7) only[go_sem,seval,↓gZ,Zav];try rfl
 | .pane i t,gX,gY,gW,gH,hg,hf,hl=>by
  simp only[BT.plan,Ze.enc_mk,sp];refine cE ?_;simp +contextual -implicitDefEqProofs (maxSteps:=10^7) only[go_sem,seval,↓gZ,Zav];try rfl
 | .cut d a l r,gX,gY,gW,gH,hg,hf,hl=>by
  simp only[BT.cnt] at hl;simp only[inB] at hg;simp only[BT.plan,Ze.enc_mk];cases d with
  | true=>
   simp only[XU,Kd,Kt,Km] at hf;have w1:=wi (gX+a) (by omega) (by omega);have w2:=wi (gW-a) (by omega) (by omega);have l1:=Zed l gX gY a gH;have l2:=Zed r (gX+a) gY (gW-a) gH;have e1:=UQ ps l gX gY a gH (by simp only[inB];omega) hf.1.2 (by omega);have e2:=UQ ps r (gX+a) gY (gW-a) gH (by simp only[inB];omega) hf.2 (by omega);have h1:((sp l gX gY a gH).length+(sp r (gX+a) gY (gW-a) gH).length)*48≤140737488355328∧(sp l gX gY a gH).length+(sp r (gX+a) gY (gW-a) gH).length≤140737488355328:=by omega
   refine cE ?_;simp +contextual -implicitDefEqProofs (maxSteps:=10^7) only[go_sem,seval,↓gZ,Zav,Ql,w1,w2,h1,e1,e2];simp[sp]
  | false=>
   simp only[XU,Kd,Kt,Ka,Kk] at hf;have w1:=wi (gY+a) (by omega) (by omega);have w2:=wi (gH-a) (by omega) (by omega);have l1:=Zed l gX gY gW a;have l2:=Zed r gX (gY+a) gW (gH-a);have e1:=UQ ps l gX gY gW a (by simp only[inB];omega) hf.1.2 (by omega);have e2:=UQ ps r gX (gY+a) gW (gH-a) (by simp only[inB];omega) hf.2 (by omega);have h1:((sp l gX gY gW a).length+(sp r gX (gY+a) gW (gH-a)).length)*48≤140737488355328∧(sp l gX gY gW a).length+(sp r gX (gY+a) gW (gH-a)).length≤140737488355328:=by omega
   refine cE ?_;simp +contextual -implicitDefEqProofs (maxSteps:=10^7) only[go_sem,seval,↓gZ,Zav,Ql,w1,w2,h1,e1,e2];simp[sp]
theorem ZaN (qL qW qH:Int) (qF:List Box):Zd Xs Ms Vm [(.d (.agg [J qL,J qW,J qH,.sl (qF.map Box.enc)]))] []=some (.d (.agg [J 0,J 0,J qW,J qH]),[]):=by
 refine cE ?_;simp +contextual -implicitDefEqProofs (maxSteps:=10^7) only[go_sem,seval,↓gZ,Zff]
theorem QR (qL qW qH:Int) (qF:List Box):Zd Xs Ms Q6 [(.d (.agg [J qL,J qW,J qH,.sl (qF.map Box.enc)]))] []=some ((.d (.bool (decide (VPc (Zb.mk qL qW qH qF))))),[]):=by
 refine cE ?_;by_cases h0:(((qL<1∨9999<qL)∨¬VB ⟨0,0,qW,qH⟩)∨(6:Int)<qF.length)
 ·simp +contextual -implicitDefEqProofs (maxSteps:=10^7) only[go_sem,seval,↓gZ,JM,ZaN,X1,h0];exact ZhX (by simp only[VPc];simp only[VB] at h0;omega)
 ·simp +contextual -implicitDefEqProofs (maxSteps:=10^7) only[go_sem,seval,↓gZ,JM,ZaN,X1,h0];have hb:VB ⟨0,0,qW,qH⟩:=by
   refine Decidable.byContradiction fun h=>h0 (.inl (.inr h))
  refine LO (α:=Nat) (fun k=>[(28,.d (J (k:Int)))]) (fun _=>[]) (fun k=>k≤qF.length∧((∀ f∈qF,ZcZ qW qH f)↔∀ f∈qF.drop k,ZcZ qW qH f)) (fun k=>qF.length-k) 0 ⟨by omega,by simp⟩ ?_;intro k ⟨hk,hp⟩ ih;by_cases aa:k<qF.length
  ·obtain⟨x,hx⟩:=Zo aa;rw[ZeJ hx] at hp;have hw:=Zh (k:=k) (by simp only[VB] at hb h0;omega);obtain⟨X,Y,W,H⟩:=x;simp +contextual -implicitDefEqProofs (maxSteps:=10^7) only[go_sem,seval,↓gZ,hx,aa,hw,ZaN,ZaJ,hb];refine⟨fun h=>ZhX (fun hh=>h ((hp.1 hh.2).1)),fun h=>ih (k+1) _ ⟨by omega,?_⟩ (by omega) ?_⟩
   ·rw[hp];exact⟨fun hh=>hh.2,fun hh=>⟨h,hh⟩⟩
   ·simp +contextual -implicitDefEqProofs (maxSteps:=10^7) only[go_sem,seval,↓gZ]
  ·have:k=qF.length:=by omega
   subst this;simp +contextual -implicitDefEqProofs (maxSteps:=10^7) only[go_sem,seval,↓gZ];have hv:∀ f∈qF,ZcZ qW qH f:=hp.2 (by simp);exact ZyL (by simp only[VPc];simp only[VB] at h0;exact⟨by omega,hv⟩)
theorem Zpm (qL qW qH:Int) (qF:List Box) (hl:qF.length<4611686018427387904) (hW:R64 qW) (hH:R64 qH):Zd Xs Ms Wh [(.d (.agg [J qL,J qW,J qH,.sl (qF.map Box.enc)]))] []=some ((.d (.bool (decide (VPc (Zb.mk qL qW qH qF))))),[]):=by
 refine cE ?_;simp +contextual -implicitDefEqProofs (maxSteps:=10^7) only[go_sem,seval,↓gZ,Zcz];refine LO (α:=Nat) (fun k=>[(3,.d (J (k:Int)))]) (fun _=>[]) (fun k=>k≤qF.length∧((∀ f∈qF,ZcZ qW qH f)↔∀ f∈qF.drop k,ZcZ qW qH f)) (fun k=>qF.length-k) 0 ⟨by omega,by simp⟩ ?_;intro k ⟨hk,hp⟩ ih;by_cases aa:k<qF.length
 ·obtain⟨x,hx⟩:=Zo aa;rw[ZeJ hx] at hp;have hw:=Zh (k:=k) (by omega);obtain⟨X,Y,W,H⟩:=x;by_cases hv:VB ⟨X,Y,W,H⟩
  ·have hi:=Zr8 X Y W H 0 0 qW qH hv ⟨by omega,by omega⟩ ⟨by omega,by omega⟩ (by simpa using hW) (by simpa using hH);simp +contextual -implicitDefEqProofs (maxSteps:=10^7) only[go_sem,seval,↓gZ,hx,aa,hw,Zi1,hi,hv];refine⟨fun h=>ZhX (fun hh=>h ((hp.1 hh.2).1.2)),fun h=>ih (k+1) _ ⟨by omega,?_⟩ (by omega) ?_⟩
   ·rw[hp];exact⟨fun hh=>hh.2,fun hh=>⟨⟨hv,h⟩,hh⟩⟩
   ·simp +contextual -implicitDefEqProofs (maxSteps:=10^7) only[go_sem,seval,↓gZ]
  ·simp +contextual -implicitDefEqProofs (maxSteps:=10^7) only[go_sem,seval,↓gZ,hx,aa,hw,Zi1,hv];exact ZhX (fun hh=>hv ((hp.1 hh.2).1.1))
 ·have:k=qF.length:=by omega
  subst this;simp +contextual -implicitDefEqProofs (maxSteps:=10^7) only[go_sem,seval,↓gZ,ZJ];have hv:∀ f∈qF,ZcZ qW qH f:=hp.2 (by simp);exact ZcL (by simp only[VPc];exact⟨fun h=>⟨by omega,hv⟩,fun h=>by omega⟩)
theorem ZgL (fs:List Box) (bX bY bW bH:Int) (hf:∀ f∈fs,VB f) (hb:VB (Box.mk bX bY bW bH)) (hl:fs.length<4611686018427387904):Zd Xs Ms VH [(.d (.sl (fs.map Box.enc))),(.d (.agg [J bX,J bY,J bW,J bH]))] []=some ((.d (.bool (!decide (Z5 fs (Box.mk bX bY bW bH))))),[]):=by
 refine cE ?_;simp +contextual -implicitDefEqProofs (maxSteps:=10^7) only[go_sem,seval,↓gZ,ZdX];refine LO (α:=Nat) (fun k=>[(11,.d (J (k:Int)))]) (fun _=>[]) (fun k=>k≤fs.length∧(Z5 fs (Box.mk bX bY bW bH)↔Z5 (fs.drop k) (Box.mk bX bY bW bH))) (fun k=>fs.length-k) 0 ⟨by omega,by simp⟩ ?_;intro k ⟨hk,hp⟩ ih;by_cases aa:k<fs.length
 ·obtain⟨x,hx⟩:=Zo aa;have ad:=hx;unfold Z5 at hp;rw[ZeJ hx (fun f=>¬X8 f (Box.mk bX bY bW bH))] at hp;have hw:=Zh (k:=k) (by omega);have ab:=hf x (Kb hx);obtain⟨X,Y,W,H⟩:=x;by_cases hm:X8 ⟨X,Y,W,H⟩ (Box.mk bX bY bW bH)
  ·simp +contextual -implicitDefEqProofs (maxSteps:=10^7) only[go_sem,seval,↓gZ,hx,aa,hw,ZbB X Y W H bX bY bW bH ab hb hm];have:¬Z5 fs (Box.mk bX bY bW bH):=fun hh=>(hp.1 hh).1 hm;simp[this]
  ·simp +contextual -implicitDefEqProofs (maxSteps:=10^7) only[go_sem,seval,↓gZ,hx,aa,hw,Zdc X Y W H bX bY bW bH (fun hh=>hm hh.2.2)];refine ih (k+1) _ ⟨by omega,?_⟩ (by omega) ?_
   ·unfold Z5;rw[hp];exact⟨fun hh=>hh.2,fun hh=>⟨hm,hh⟩⟩
   ·simp +contextual -implicitDefEqProofs (maxSteps:=10^7) only[go_sem,seval,↓gZ]
 ·have:k=fs.length:=by omega
  subst this;simp +contextual -implicitDefEqProofs (maxSteps:=10^7) only[go_sem,seval,↓gZ];have:Z5 fs (Box.mk bX bY bW bH):=hp.2 (by simp[Z5]);simp[this]
theorem Zlg (qL qW qH:Int) (qF:List Box) (bX bY bW bH:Int) (hf:∀ f∈qF,VB f) (hb:VB (Box.mk bX bY bW bH)) (hl:qF.length<4611686018427387904):Zd Xs Ms UW [(.d (.agg [J qL,J qW,J qH,.sl (qF.map Box.enc)])),(.d (.agg [J bX,J bY,J bW,J bH]))] []=some ((.d (.bool (decide (Z5 qF (Box.mk bX bY bW bH))))),[]):=by
 refine cE ?_;simp +contextual -implicitDefEqProofs (maxSteps:=10^7) only[go_sem,seval,↓gZ,Zg5];refine LO (α:=Nat) (fun k=>[(5,.d (J (k:Int)))]) (fun _=>[]) (fun k=>k≤qF.length∧(Z5 qF (Box.mk bX bY bW bH)↔Z5 (qF.drop k) (Box.mk bX bY bW bH))) (fun k=>qF.length-k) 0 ⟨by omega,by simp⟩ ?_;intro k ⟨hk,hp⟩ ih;by_cases aa:k<qF.length
 ·obtain⟨x,hx⟩:=Zo aa;unfold Z5 at hp;rw[ZeJ hx (fun f=>¬X8 f (Box.mk bX bY bW bH))] at hp;have hw:=Zh (k:=k) (by omega);have ab:=hf x (Kb hx);obtain⟨X,Y,W,H⟩:=x;by_cases hm:X8 ⟨X,Y,W,H⟩ (Box.mk bX bY bW bH)
  ·simp +contextual -implicitDefEqProofs (maxSteps:=10^7) only[go_sem,seval,↓gZ,hx,aa,hw,Zk2 X Y W H bX bY bW bH ab hb hm];have:¬Z5 qF (Box.mk bX bY bW bH):=fun hh=>(hp.1 hh).1 hm;simp[this]
  ·simp +contextual -implicitDefEqProofs (maxSteps:=10^7) only[go_sem,seval,↓gZ,hx,aa,hw,ZnQ X Y W H bX bY bW bH ab hb hm];refine ih (k+1) _ ⟨by omega,?_⟩ (by omega) ?_
   ·unfold Z5;rw[hp];exact⟨fun hh=>hh.2,fun hh=>⟨hm,hh⟩⟩
   ·simp +contextual -implicitDefEqProofs (maxSteps:=10^7) only[go_sem,seval,↓gZ]
 ·have:k=qF.length:=by omega
  subst this;simp +contextual -implicitDefEqProofs (maxSteps:=10^7) only[go_sem,seval,↓gZ];have:Z5 qF (Box.mk bX bY bW bH):=hp.2 (by simp[Z5]);simp[this]
theorem Zi8 (kW kH:Int) (kP:List Pane) (p:Ze) (b:BT) (hp:p=b.plan) (hg:inB ⟨0,0,kW,kH⟩) (hf:XU kP b kW kH=true) (hl:b.cnt≤1000):Zd Xs Ms WL [(.d (.agg [J kW,J kH,.sl (kP.map Pane.enc)])),.d p.enc] []=some (.own 0,[.row 6 ((plc b 0 0 kW kH).map Place.enc) true false]):=by
 have e:=UQ kP b 0 0 kW kH hg hf hl;have hm:=Zny b 0 0 kW kH (ZiQ hf);have hn:=Zed b 0 0 kW kH;rw[← hp] at e;rw[← hm];clear hm;generalize sp b 0 0 kW kH=S at e hn ⊢;clear hp hf hg;obtain⟨o,a,q,t,ks⟩:=p;rw[Ze.enc_mk] at e ⊢;refine cE ?_;simp +contextual -implicitDefEqProofs (maxSteps:=10^7) only[go_sem,seval,↓gZ,Zfi,e];refine LO (α:=Nat) (fun i=>[(7,.d (J (i:Int)))]) (fun i=>[(1,.row 6 (((S.take i).filterMap Zdy).map Place.enc) true false)]) (fun i=>i≤S.length) (fun i=>S.length-i) 0 (by omega) ?_;intro i hi ih;by_cases aa:i<S.length
 ·obtain⟨x,hx⟩:=Zo aa;have hw:=Zh (k:=i) (by omega);have hm:=ZaX (f:=Zdy) hx;have ab:((S.take i).filterMap Zdy).length≤i:=Kr (Kn _ _) (by simp;omega);have hr:(((S.take i).filterMap Zdy).length+1)*48≤140737488355328∧((S.take i).filterMap Zdy).length≤140737488355327:=by omega
  obtain⟨q',t',⟨X,Y,W,H⟩⟩:=x;simp only[Zdy] at hm;by_cases ho:0≤q'
  ·rw[Kj ho] at hm;simp +contextual -implicitDefEqProofs (maxSteps:=10^7) only[go_sem,seval,↓gZ,hx,aa,hw,ho,hr];refine ih (i+1) _ (by omega) (by omega) ?_;simp +contextual -implicitDefEqProofs (maxSteps:=10^7) only[go_sem,seval,↓gZ,hm]
   first | rfl | (simp;done) | (simp;rfl)
  ·rw[Kg ho] at hm;simp +contextual -implicitDefEqProofs (maxSteps:=10^7) only[go_sem,seval,↓gZ,hx,aa,hw,ho,hr];refine ih (i+1) _ (by omega) (by omega) ?_;simp +contextual -implicitDefEqProofs (maxSteps:=10^7) only[go_sem,seval,↓gZ,hm]
   first | rfl | (simp;done) | (simp;rfl)
 ·have:i=S.length:=by omega
  subst this;simp +contextual -implicitDefEqProofs (maxSteps:=10^7) only[go_sem,seval,↓gZ];simp
theorem Zi9 (kW kH:Int) (kP:List Pane) (p:Ze) (b:BT) (hp:p=b.plan) (hg:inB ⟨0,0,kW,kH⟩) (hf:XU kP b kW kH=true) (hl:b.cnt≤1000):Zd Xs Ms WK [(.d (.agg [J kW,J kH,.sl (kP.map Pane.enc)])),.d p.enc] []=some (.own 0,[.row 4 ((wst b 0 0 kW kH).map Box.enc) true false]):=by
 have e:=UQ kP b 0 0 kW kH hg hf hl;have hm:=Znz b 0 0 kW kH (ZiQ hf);have hn:=Zed b 0 0 kW kH;rw[← hp] at e;rw[← hm];clear hm;generalize sp b 0 0 kW kH=S at e hn ⊢;clear hp hf hg;obtain⟨o,a,q,t,ks⟩:=p;rw[Ze.enc_mk] at e ⊢;refine cE ?_;simp +contextual -implicitDefEqProofs (maxSteps:=10^7) only[go_sem,seval,↓gZ,Zfh,e];refine LO (α:=Nat) (fun i=>[(7,.d (J (i:Int)))]) (fun i=>[(1,.row 4 (((S.take i).filterMap Zdz).map Box.enc) true false)]) (fun i=>i≤S.length) (fun i=>S.length-i) 0 (by omega) ?_;intro i hi ih;by_cases aa:i<S.length
 ·obtain⟨x,hx⟩:=Zo aa;have hw:=Zh (k:=i) (by omega);have hm:=ZaX (f:=Zdz) hx;have ab:((S.take i).filterMap Zdz).length≤i:=Kr (Kn _ _) (by simp;omega);have hr:(((S.take i).filterMap Zdz).length+1)*32≤140737488355328∧((S.take i).filterMap Zdz).length≤140737488355327:=by omega
  obtain⟨q',t',⟨X,Y,W,H⟩⟩:=x;simp only[Zdz] at hm;by_cases ho:q' < 0
  ·rw[Kj ho] at hm;simp +contextual -implicitDefEqProofs (maxSteps:=10^7) only[go_sem,seval,↓gZ,hx,aa,hw,ho,hr];refine ih (i+1) _ (by omega) (by omega) ?_;simp +contextual -implicitDefEqProofs (maxSteps:=10^7) only[go_sem,seval,↓gZ,hm]
   first | rfl | (simp;done) | (simp;rfl)
  ·rw[Kg ho] at hm;simp +contextual -implicitDefEqProofs (maxSteps:=10^7) only[go_sem,seval,↓gZ,hx,aa,hw,ho,hr];refine ih (i+1) _ (by omega) (by omega) ?_;simp +contextual -implicitDefEqProofs (maxSteps:=10^7) only[go_sem,seval,↓gZ,hm]
   first | rfl | (simp;done) | (simp;rfl)
 ·have:i=S.length:=by omega
  subst this;simp +contextual -implicitDefEqProofs (maxSteps:=10^7) only[go_sem,seval,↓gZ];simp
theorem Zso (qL qW qH:Int) (qF:List Box) (kW kH:Int) (kP:List Pane) (p:Ze):Zd Xs Ms JF [(.d (.agg [J qL,J qW,J qH,.sl (qF.map Box.enc)])),(.d (.agg [J kW,J kH,.sl (kP.map Pane.enc)])),.d p.enc] []=some ((.d (.bool (decide (VPc (Zb.mk qL qW qH qF)∧Vh (Zb.mk qL qW qH qF) (Zt.mk kW kH kP) p)))),[]):=by
 have ev:=Jc kW kH kP p;by_cases hq:VPc (Zb.mk qL qW qH qF)
 ·by_cases hv:Y5 (Zt.mk kW kH kP) p=true
  ·by_cases hw:kW=qW
   ·by_cases hh:kH=qH
    ·subst hw;subst hh;have ep:=ZdF kW kH kP p;obtain⟨b,hb,ah,ai,aj,ad,af⟩:=QM hv;have ab:∀ c∈(Qm (Zt.mk kW kH kP) p).filterMap QX,VB c.Box:=by
      rw[af,Yt];exact Zmo (p:=p) ai ad
     have ae:((Qm (Zt.mk kW kH kP) p).filterMap QX).length≤255:=Kr (Kn _ _) (Zam _ _);have aa:Vh ⟨qL,kW,kH,qF⟩ (Zt.mk kW kH kP) p↔∀ c∈(Qm (Zt.mk kW kH kP) p).filterMap QX,Z5 qF c.Box:=by
      unfold Vh;exact⟨fun h=>h.2.2.2,fun h=>⟨hv,rfl,rfl,h⟩⟩
     have ak:∀ f∈qF,VB f:=fun f hf=>(hq.2 f hf).1;have an:qF.length≤6:=hq.1.2.2.2.2.2.2;rw[hv] at ev;generalize hL:(Qm (Zt.mk kW kH kP) p).filterMap QX=L at ep ab ae aa;clear hL af ah hb;obtain⟨o,a,n,t,ks⟩:=p;rw[Ze.enc_mk] at ev ep ⊢;refine cE ?_;simp +contextual -implicitDefEqProofs (maxSteps:=10^7) only[go_sem,seval,↓gZ,Vs,QR,hq,ev,ep];refine LO (α:=Nat) (fun i=>[(36,.d (J (i:Int)))]) (fun _=>[]) (fun i=>i≤L.length∧((∀ c∈L,Z5 qF c.Box)↔∀ c∈L.drop i,Z5 qF c.Box)) (fun i=>L.length-i) 0 ⟨by omega,by simp⟩ ?_;intro i ⟨hi,hp⟩ ih;by_cases ag:i<L.length
     ·obtain⟨x,hx⟩:=Zo ag;rw[ZeJ hx (fun c=>Z5 qF c.Box)] at hp;have hw:=Zh (k:=i) (by omega);have al:=ab x (Kb hx);obtain⟨q',t',⟨X,Y,W,H⟩⟩:=x;have em:=ZgL qF X Y W H ak al (by omega);simp +contextual -implicitDefEqProofs (maxSteps:=10^7) only[go_sem,seval,↓gZ,hx,ag,hw,em];refine⟨fun h=>ZhX (fun h'=>h ((hp.1 (aa.1 h')).1)),fun h=>ih (i+1) _ ⟨by omega,?_⟩ (by omega) ?_⟩
      ·rw[hp];exact⟨fun h'=>h'.2,fun h'=>⟨h,h'⟩⟩
      ·simp +contextual -implicitDefEqProofs (maxSteps:=10^7) only[go_sem,seval,↓gZ]
     ·have:i=L.length:=by omega
      subst this;simp +contextual -implicitDefEqProofs (maxSteps:=10^7) only[go_sem,seval,↓gZ];exact ZyL (aa.2 (hp.2 (by simp)))
    ·subst hw;have hn:¬Vh ⟨qL,kW,qH,qF⟩ (Zt.mk kW kH kP) p:=fun h=>hh h.2.2.1;obtain⟨o,a,n,t,ks⟩:=p;rw[hv] at ev;rw[Ze.enc_mk] at ev ⊢;refine cE ?_;simp +contextual -implicitDefEqProofs (maxSteps:=10^7) only[go_sem,seval,↓gZ,Vs,QR,hq,ev,hh,hn]
   ·have hn:¬Vh (Zb.mk qL qW qH qF) (Zt.mk kW kH kP) p:=fun h=>hw h.2.1;obtain⟨o,a,n,t,ks⟩:=p;rw[hv] at ev;rw[Ze.enc_mk] at ev ⊢;refine cE ?_;simp +contextual -implicitDefEqProofs (maxSteps:=10^7) only[go_sem,seval,↓gZ,Vs,QR,hq,ev,hw,hn]
  ·have am:=(LL _).mp hv;have hn:¬Vh (Zb.mk qL qW qH qF) (Zt.mk kW kH kP) p:=fun h=>hv h.1;rw[am] at ev;obtain⟨o,a,n,t,ks⟩:=p;rw[Ze.enc_mk] at ev ⊢;refine cE ?_;simp +contextual -implicitDefEqProofs (maxSteps:=10^7) only[go_sem,seval,↓gZ,Vs,QR,hq,ev,hn]
 ·obtain⟨o,a,n,t,ks⟩:=p;rw[Ze.enc_mk] at ev ⊢;refine cE ?_;simp +contextual -implicitDefEqProofs (maxSteps:=10^7) only[go_sem,seval,↓gZ,Vs,QR,hq]
theorem Zja (qL qW qH:Int) (qF:List Box) (kW kH:Int) (kP:List Pane) (p:Ze) (al:∀ f∈qF,VB f) (ao:qF.length≤6) (hl:kP.length<4611686018427387904):Zd Xs Ms Jz [(.d (.agg [J qL,J qW,J qH,.sl (qF.map Box.enc)])),(.d (.agg [J kW,J kH,.sl (kP.map Pane.enc)])),.d p.enc] []=some ((.d (.bool (decide (Vh (Zb.mk qL qW qH qF) (Zt.mk kW kH kP) p)))),[]):=by
 have ev:=ZgG kW kH kP p hl;by_cases hv:Y5 (Zt.mk kW kH kP) p=true
 ·by_cases hw:kW=qW
  ·by_cases hh:kH=qH
   ·subst hw;subst hh;obtain⟨b,hb,ah,ai,ae,ab,aj⟩:=QM hv;have af:=ai;simp only[VW] at af;have ep:=Zi8 kW kH kP p b ah (by simp only[inB];omega) ab (by omega);have ad:∀ c∈plc b 0 0 kW kH,VB c.Box:=Zmo (p:=p) ai ab;have ag:(plc b 0 0 kW kH).length≤255:=by
     rw[← Yt];exact Kr (Kn _ _) (by rw[J3];exact ae)
    have aa:Vh ⟨qL,kW,kH,qF⟩ (Zt.mk kW kH kP) p↔∀ c∈plc b 0 0 kW kH,Z5 qF c.Box:=by
     unfold Vh;rw[aj,Yt];exact⟨fun h=>h.2.2.2,fun h=>⟨hv,rfl,rfl,h⟩⟩
    rw[hv] at ev;generalize plc b 0 0 kW kH=L at ep ad ag aa;clear aj ah hb;obtain⟨o,a,n,t,ks⟩:=p;rw[Ze.enc_mk] at ev ep ⊢;refine cE ?_;simp +contextual -implicitDefEqProofs (maxSteps:=10^7) only[go_sem,seval,↓gZ,WR,ev,ep];refine LO (α:=Nat) (fun i=>[(8,.d (J (i:Int)))]) (fun _=>[]) (fun i=>i≤L.length∧((∀ c∈L,Z5 qF c.Box)↔∀ c∈L.drop i,Z5 qF c.Box)) (fun i=>L.length-i) 0 ⟨by omega,by simp⟩ ?_;intro i ⟨hi,hp⟩ ih;by_cases ak:i<L.length
    ·obtain⟨x,hx⟩:=Zo ak;rw[ZeJ hx (fun c=>Z5 qF c.Box)] at hp;have hw:=Zh (k:=i) (by omega);have am:=ad x (Kb hx);obtain⟨q',t',⟨X,Y,W,H⟩⟩:=x;have em:=Zlg qL kW kH qF X Y W H al am (by omega);simp +contextual -implicitDefEqProofs (maxSteps:=10^7) only[go_sem,seval,↓gZ,hx,ak,hw,em];refine⟨fun h=>ZhX (fun h'=>h ((hp.1 (aa.1 h')).1)),fun h=>ih (i+1) _ ⟨by omega,?_⟩ (by omega) ?_⟩
     ·rw[hp];exact⟨fun h'=>h'.2,fun h'=>⟨h,h'⟩⟩
     ·simp +contextual -implicitDefEqProofs (maxSteps:=10^7) only[go_sem,seval,↓gZ]
    ·have:i=L.length:=by omega
     subst this;simp +contextual -implicitDefEqProofs (maxSteps:=10^7) only[go_sem,seval,↓gZ];exact ZyL (aa.2 (hp.2 (by simp)))
   ·subst hw;have hn:¬Vh ⟨qL,kW,qH,qF⟩ (Zt.mk kW kH kP) p:=fun h=>hh h.2.2.1;obtain⟨o,a,n,t,ks⟩:=p;rw[hv] at ev;rw[Ze.enc_mk] at ev ⊢;refine cE ?_;simp +contextual -implicitDefEqProofs (maxSteps:=10^7) only[go_sem,seval,↓gZ,WR,ev,hh,hn]
  ·have hn:¬Vh (Zb.mk qL qW qH qF) (Zt.mk kW kH kP) p:=fun h=>hw h.2.1;obtain⟨o,a,n,t,ks⟩:=p;rw[hv] at ev;rw[Ze.enc_mk] at ev ⊢;refine cE ?_;simp +contextual -implicitDefEqProofs (maxSteps:=10^7) only[go_sem,seval,↓gZ,WR,ev,hw,hn]
 ·have an:=(LL _).mp hv;have hn:¬Vh (Zb.mk qL qW qH qF) (Zt.mk kW kH kP) p:=fun h=>hv h.1;rw[an] at ev;obtain⟨o,a,n,t,ks⟩:=p;rw[Ze.enc_mk] at ev ⊢;refine cE ?_;simp +contextual -implicitDefEqProofs (maxSteps:=10^7) only[go_sem,seval,↓gZ,WR,ev,hn]
theorem Zvz (qL qW qH:Int) (qF:List Box) (bX bY bW bH:Int) (label:Int) (hq:VPc (Zb.mk qL qW qH qF)) (hb:VB (Box.mk bX bY bW bH)) (hi:QA (Box.mk bX bY bW bH) ⟨0,0,qW,qH⟩) (h1:1≤label) (h2:label≤9999) :
  Zd Xs Ms Zcs [(.d (.agg [J qL,J qW,J qH,.sl (qF.map Box.enc)])),(.d (.agg [J bX,J bY,J bW,J bH])),(.d (J label))] []=some (.agg [(.d (J label)),(.d (J bW)),(.d (J bH)),.own 0],[.row 4 ((qF.filterMap (YC (Box.mk bX bY bW bH))).map Box.enc) true false]):=by
 have ae:=hq.1;simp only at ae;have n1:¬label<1:=by omega
 have n2:¬9999<label:=by omega
 have af:VB ⟨0,0,qW,qH⟩:=by simp only[VB];omega
 refine cE ?_;simp +contextual -implicitDefEqProofs (maxSteps:=10^7) only[go_sem,seval,↓gZ,Zky,QR,ZaN,ZaJ,hq,hb,hi,af,n1,n2];refine LO (α:=Nat) (fun i=>[(40,.d (J (i:Int)))]) (fun i=>[(3,.row 4 (((qF.take i).filterMap (YC (Box.mk bX bY bW bH))).map Box.enc) true false)]) (fun i=>i≤qF.length) (fun i=>qF.length-i) 0 (by omega) ?_;intro i hk ih;by_cases aa:i<qF.length
 ·obtain⟨x,hx⟩:=Zo aa;have hw:=Zh (k:=i) (by omega);have hm:=ZaX (f:=YC (Box.mk bX bY bW bH)) hx;have ah:((qF.take i).filterMap (YC (Box.mk bX bY bW bH))).length≤i:=Kr (Kn _ _) (by simp;omega);have hr:(((qF.take i).filterMap (YC (Box.mk bX bY bW bH))).length+1)*32≤140737488355328∧((qF.take i).filterMap (YC (Box.mk bX bY bW bH))).length≤140737488355327:=by omega
  have ad:=(hq.2 x (Kb hx)).1;obtain⟨X,Y,W,H⟩:=x;have ab:=ad;have ag:=hb;simp only[VB] at ab ag;simp only[YC] at hm;by_cases ho:X8 ⟨X,Y,W,H⟩ (Box.mk bX bY bW bH)
  ·rw[Kj ho] at hm;have w1:=wi (max X bX-bX) (by omega) (by omega);have w2:=wi (max Y bY-bY) (by omega) (by omega);simp +contextual -implicitDefEqProofs (maxSteps:=10^7) only[go_sem,seval,↓gZ,hx,aa,hw,ZbB X Y W H bX bY bW bH ad hb ho,hr,ZgC,w1,w2];refine ih (i+1) _ (by omega) (by omega) ?_;simp +contextual -implicitDefEqProofs (maxSteps:=10^7) only[go_sem,seval,↓gZ,hm,ZuV,ZgC]
   first | rfl | (simp;done) | (simp;rfl)
  ·rw[Kg ho] at hm;simp +contextual -implicitDefEqProofs (maxSteps:=10^7) only[go_sem,seval,↓gZ,hx,aa,hw,Zdc X Y W H bX bY bW bH (fun hh=>ho hh.2.2),hr];refine ih (i+1) _ (by omega) (by omega) ?_;simp +contextual -implicitDefEqProofs (maxSteps:=10^7) only[go_sem,seval,↓gZ,hm]
   first | rfl | (simp;done) | (simp;rfl)
 ·have:i=qF.length:=by omega
  subst this;simp +contextual -implicitDefEqProofs (maxSteps:=10^7) only[go_sem,seval,↓gZ];try simp
theorem ZvA (qL qW qH:Int) (qF:List Box) (bX bY bW bH:Int) (label:Int) (hf:∀ f∈qF,VB f) (hl:qF.length≤6) (hb:VB (Box.mk bX bY bW bH)) :
  Zd Xs Ms Zcr [(.d (.agg [J qL,J qW,J qH,.sl (qF.map Box.enc)])),(.d (.agg [J bX,J bY,J bW,J bH])),(.d (J label))] []=some (.agg [(.d (J label)),(.d (J bW)),(.d (J bH)),.own 0],[.row 4 ((qF.filterMap (YC (Box.mk bX bY bW bH))).map Box.enc) true false]):=by
 refine cE ?_;simp +contextual -implicitDefEqProofs (maxSteps:=10^7) only[go_sem,seval,↓gZ,Zkx];refine LO (α:=Nat) (fun i=>[(8,.d (J (i:Int)))]) (fun i=>[(4,.row 4 (((qF.take i).filterMap (YC (Box.mk bX bY bW bH))).map Box.enc) true false)]) (fun i=>i≤qF.length) (fun i=>qF.length-i) 0 (by omega) ?_;intro i hk ih;by_cases aa:i<qF.length
 ·obtain⟨x,hx⟩:=Zo aa;have hw:=Zh (k:=i) (by omega);have hm:=ZaX (f:=YC (Box.mk bX bY bW bH)) hx;have af:((qF.take i).filterMap (YC (Box.mk bX bY bW bH))).length≤i:=Kr (Kn _ _) (by simp;omega);have hr:(((qF.take i).filterMap (YC (Box.mk bX bY bW bH))).length+1)*32≤140737488355328∧((qF.take i).filterMap (YC (Box.mk bX bY bW bH))).length≤140737488355327:=by omega
  have ab:=hf x (Kb hx);obtain⟨X,Y,W,H⟩:=x;have ad:=ab;have ae:=hb;simp only[VB] at ad ae;simp only[YC] at hm;by_cases ho:X8 ⟨X,Y,W,H⟩ (Box.mk bX bY bW bH)
  ·rw[Kj ho] at hm;have w1:=wi (max X bX-bX) (by omega) (by omega);have w2:=wi (max Y bY-bY) (by omega) (by omega);simp +contextual -implicitDefEqProofs (maxSteps:=10^7) only[go_sem,seval,↓gZ,hx,aa,hw,Zk2 X Y W H bX bY bW bH ab hb ho,hr,ZgC,w1,w2];refine ih (i+1) _ (by omega) (by omega) ?_;simp +contextual -implicitDefEqProofs (maxSteps:=10^7) only[go_sem,seval,↓gZ,hm,ZuV,ZgC]
   first | rfl | (simp;done) | (simp;rfl)
  ·rw[Kg ho] at hm;simp +contextual -implicitDefEqProofs (maxSteps:=10^7) only[go_sem,seval,↓gZ,hx,aa,hw,ZnQ X Y W H bX bY bW bH ab hb ho,hr];refine ih (i+1) _ (by omega) (by omega) ?_;simp +contextual -implicitDefEqProofs (maxSteps:=10^7) only[go_sem,seval,↓gZ,hm]
   first | rfl | (simp;done) | (simp;rfl)
 ·have:i=qF.length:=by omega
  subst this;simp +contextual -implicitDefEqProofs (maxSteps:=10^7) only[go_sem,seval,↓gZ];try simp
theorem Zf7 (kW kH:Int) (kP:List Pane) (p:Ze) (Zj:Int):Zd Xs Ms Wo [(.d (.agg [J kW,J kH,.sl (kP.map Pane.enc)])),.d p.enc,(.d (J Zj))] []=some (.own 0,[.row 4 ((Q0 (Zt.mk kW kH kP) p Zj).map Box.enc) true false]):=by
 have hv:=Zi7 kW kH kP p;have hn:((Qm (Zt.mk kW kH kP) p).filterMap XM).length≤255:=Kr (Kn _ _) (Zam (Zt.mk kW kH kP) p);unfold Q0;generalize (Qm (Zt.mk kW kH kP) p).filterMap XM=ps at hv hn ⊢;obtain⟨o,a,q,t,ks⟩:=p;rw[Ze.enc_mk] at hv ⊢;refine cE ?_;simp +contextual -implicitDefEqProofs (maxSteps:=10^7) only[go_sem,seval,↓gZ,ZcE,hv];refine LO (α:=Nat) (fun k=>[(14,.d (J (k:Int)))]) (fun k=>[(1,.row 4 (((ps.take k).filterMap (Uv Zj)).map Box.enc) true false)]) (fun k=>k≤ps.length) (fun k=>ps.length-k) 0 (by omega) ?_;intro k hk ih;by_cases aa:k<ps.length
 ·obtain⟨x,hx⟩:=Zo aa;have hw:=Zh (k:=k) (by omega);have hm:=ZaX (f:=Uv Zj) hx;have ab:((ps.take k).filterMap (Uv Zj)).length≤k:=Kr (Kn _ _) (by simp;omega);have hr:(((ps.take k).filterMap (Uv Zj)).length+1)*32≤140737488355328∧((ps.take k).filterMap (Uv Zj)).length≤140737488355327:=by omega
  obtain⟨X,Y,W,H⟩:=x;simp only[Uv] at hm;by_cases ho:Zj≤W∧Zj≤H
  ·rw[Kj ho] at hm;simp +contextual -implicitDefEqProofs (maxSteps:=10^7) only[go_sem,seval,↓gZ,hx,aa,hw,ho,hr];refine ih (k+1) _ (by omega) (by omega) ?_;simp +contextual -implicitDefEqProofs (maxSteps:=10^7) only[go_sem,seval,↓gZ,hm]
   first | rfl | (simp;done) | (simp;rfl)
  ·rw[Kg ho] at hm;simp +contextual -implicitDefEqProofs (maxSteps:=10^7) only[go_sem,seval,↓gZ,hx,aa,hw,ho,hr];refine ih (k+1) _ (by omega) (by omega) ?_;simp +contextual -implicitDefEqProofs (maxSteps:=10^7) only[go_sem,seval,↓gZ,hm]
   first | rfl | (simp;done) | (simp;rfl)
 ·have:k=ps.length:=by omega
  subst this;simp +contextual -implicitDefEqProofs (maxSteps:=10^7) only[go_sem,seval,↓gZ];simp
theorem Zlh (qL qW qH:Int) (qF:List Box) (kW kH:Int) (kP:List Pane) (p:Ze) (Zj label:Int) (hq:VPc (Zb.mk qL qW qH qF)) (hv:Y5 (Zt.mk kW kH kP) p=true) (hW:kW=qW) (hH:kH=qH) (h1:1≤label) (h2:label≤10000)
  (hk:(Q0 (Zt.mk kW kH kP) p Zj).length≤10000-label):Zd Xs Ms Yr [(.d (.agg [J qL,J qW,J qH,.sl (qF.map Box.enc)])),(.d (.agg [J kW,J kH,.sl (kP.map Pane.enc)])),.d p.enc,(.d (J Zj)),(.d (J label))] [] =
  some (.tup [.own 0,(.d (.bool true))],[.tree 4 4 ((UK (Zb.mk qL qW qH qF) label (Q0 (Zt.mk kW kH kP) p Zj)).map Zb.enc) none]):=by
 have ek:=Zf7 kW kH kP p Zj;have aa:∀ b∈Q0 (Zt.mk kW kH kP) p Zj,VB b∧QA b ⟨0,0,qW,qH⟩:=by
  intro b hb;have:=Zrz (Zj:=Zj) hv b hb;rw[← hW,← hH];exact this
 have hn:=ZiR (Zt.mk kW kH kP) p Zj;generalize Q0 (Zt.mk kW kH kP) p Zj=L at ek aa hn hk ⊢;clear hv;have w0:=wi (10000-label) (by omega) (by omega);have n0:¬(10000-label<(L.length:Int)):=by omega
 obtain⟨o,a,n,t,ks⟩:=p;rw[Ze.enc_mk] at ek ⊢;refine cE ?_;simp +contextual -implicitDefEqProofs (maxSteps:=10^7) only[go_sem,seval,↓gZ,UC,ek,w0,n0];refine LO (α:=Nat) (fun i=>[(27,.d (J (i:Int)))]) (fun i=>[(1,.tree 4 4 ((UK (Zb.mk qL qW qH qF) label (L.take i)).map Zb.enc) none)]) (fun i=>i≤L.length) (fun i=>L.length-i) 0 (by omega) ?_;intro i hi ih;by_cases ab:i<L.length
 ·obtain⟨x,hx⟩:=Zo ab;have hw:=Zh (k:=i) (by omega);have hm:=ZzT (Zb.mk qL qW qH qF) label hx;have hl:(UK (Zb.mk qL qW qH qF) label (L.take i)).length=i:=by rw[Zc0];simp;omega
  have hr:(i+1)*48≤140737488355328∧i≤140737488355327:=by omega
  have ad:=aa x (Kb hx);have w1:=wi (label+(i:Int)) (by omega) (by omega);obtain⟨X,Y,W,H⟩:=x;have hc:=Zvz qL qW qH qF X Y W H (label+(i:Int)) hq ad.1 ad.2 (by omega) (by omega);have z6:=aF (l:=(ZnB (Zb.mk qL qW qH qF) ⟨X,Y,W,H⟩ (label+(i:Int))).Flaws) (g:=Box.enc) fun _=>rfl;simp only[ZnB] at z6;simp +contextual -implicitDefEqProofs (maxSteps:=10^7) only[go_sem,seval,↓gZ,hx,ab,hw,w1,hc,hl,hr,z6];refine ih (i+1) _ (by omega) (by omega) ?_;simp +contextual -implicitDefEqProofs (maxSteps:=10^7) only[go_sem,seval,↓gZ,hm,ZnB]
  first | rfl | (simp;done) | (simp;rfl)
 ·have:i=L.length:=by omega
  subst this;simp +contextual -implicitDefEqProofs (maxSteps:=10^7) only[go_sem,seval,↓gZ];try simp
theorem ZmW (qL qW qH:Int) (qF:List Box) (kW kH:Int) (kP:List Pane) (p:Ze) (Zj label:Int) (h1:1≤label) (h2:label≤10000)
  (hk:¬(Q0 (Zt.mk kW kH kP) p Zj).length≤10000-label):Zd Xs Ms Yr [(.d (.agg [J qL,J qW,J qH,.sl (qF.map Box.enc)])),(.d (.agg [J kW,J kH,.sl (kP.map Pane.enc)])),.d p.enc,(.d (J Zj)),(.d (J label))] [] =
  some (.tup [.own 0,(.d (.bool false))],[.row 4 [] true false]):=by
 have ek:=Zf7 kW kH kP p Zj;generalize Q0 (Zt.mk kW kH kP) p Zj=L at ek hk ⊢;have w0:=wi (10000-label) (by omega) (by omega);have n0:10000-label<(L.length:Int):=by omega
 obtain⟨o,a,n,t,ks⟩:=p;rw[Ze.enc_mk] at ek ⊢;refine cE ?_;simp +contextual -implicitDefEqProofs (maxSteps:=10^7) only[go_sem,seval,↓gZ,UC,ek,w0,n0]
theorem Zb7 (bX bY bW bH:Int) (Zj:Int):Zd Xs Ms VL [(.d (.agg [J bX,J bY,J bW,J bH])),(.d (J Zj))] []=some ((.d (.bool (decide (Zj≤bW∧Zj≤bH)))),[]):=by
 refine cE ?_;simp +contextual -implicitDefEqProofs (maxSteps:=10^7) only[go_sem,seval,↓gZ,Zd1]
theorem Zli (bX bY bW bH:Int) (hb:VB (Box.mk bX bY bW bH)):Zd Xs Ms UY [(.d (.agg [J bX,J bY,J bW,J bH]))] []=some ((.d (J (bW*bH))),[]):=by
 have h:=J4 hb;simp only at h;have w:=wi (bW*bH) (by omega) (by omega);refine cE ?_;simp +contextual -implicitDefEqProofs (maxSteps:=10^7) only[go_sem,seval,↓gZ,Zg9,w]
theorem Zsp (kW kH:Int) (kP:List Pane) (p:Ze) (Zj:Int) (hv:Y5 (Zt.mk kW kH kP) p=true) (h1:1≤Zj) (h2:Zj≤200):Zd Xs Ms JD [(.d (.agg [J kW,J kH,.sl (kP.map Pane.enc)])),.d p.enc,(.d (J Zj))] [] =
  some ((.d (J (XV (ZdA (Zt.mk kW kH kP) p Zj)))),[]):=by
 have ev:=Jc kW kH kP p;rw[hv] at ev;have ep:=Zi7 kW kH kP p;have aa:=Zb0 hv;have ad:((Qm (Zt.mk kW kH kP) p).filterMap XM).length≤255:=Kr (Kn _ _) (Zam _ _);unfold ZdA;generalize (Qm (Zt.mk kW kH kP) p).filterMap XM=L at ep aa ad ⊢;clear hv;have n1:¬Zj<1:=by omega
 have n2:¬200<Zj:=by omega
 obtain⟨o,a,n,t,ks⟩:=p;rw[Ze.enc_mk] at ev ep ⊢;refine cE ?_;simp +contextual -implicitDefEqProofs (maxSteps:=10^7) only[go_sem,seval,↓gZ,Zfk,ev,ep,n1,n2];refine LO (α:=Nat) (fun i=>[(26,.d (J (i:Int))),(7,.d (J (XV ((L.take i).filterMap (Uw Zj)))))]) (fun _=>[]) (fun i=>i≤L.length) (fun i=>L.length-i) 0 (by omega) ?_;intro i hi ih;by_cases ae:i<L.length
 ·obtain⟨x,hx⟩:=Zo ae;have hw:=Zh (k:=i) (by omega);have hm:=ZaX (f:=Uw Zj) hx;have af:=aa x (Kb hx);have ha:=ZeK (l:=(L.take i).filterMap (Uw Zj)) (fun c hc=>by
   obtain⟨d,hd,ab⟩:=Lu.1 hc;unfold Uw at ab;split at ab
   ·cases ab;exact aa c (Lk hd)
   ·cases ab)
  have ah:((L.take i).filterMap (Uw Zj)).length≤i:=Kr (Kn _ _) (by simp;omega);have ag:=J4 af;obtain⟨X,Y,W,H⟩:=x;simp only at ag;have w1:=wi (XV ((L.take i).filterMap (Uw Zj))+W*H) (by omega) (by omega);simp only[Uw] at hm;by_cases ho:W<Zj∨H<Zj
  ·rw[Kj ho] at hm;simp +contextual -implicitDefEqProofs (maxSteps:=10^7) only[go_sem,seval,↓gZ,hx,ae,hw,ho,Zli X Y W H af,w1];refine ih (i+1) _ (by omega) (by omega) ?_;simp +contextual -implicitDefEqProofs (maxSteps:=10^7) only[go_sem,seval,↓gZ,hm,ZbP,Option.toList,XV]
   first | rfl | (simp;done) | (simp;rfl)
  ·rw[Kg ho] at hm;simp +contextual -implicitDefEqProofs (maxSteps:=10^7) only[go_sem,seval,↓gZ,hx,ae,hw,ho];refine ih (i+1) _ (by omega) (by omega) ?_;simp +contextual -implicitDefEqProofs (maxSteps:=10^7) only[go_sem,seval,↓gZ,hm]
   first | rfl | (simp;done) | (simp;rfl)
 ·have:i=L.length:=by omega
  subst this;simp +contextual -implicitDefEqProofs (maxSteps:=10^7) only[go_sem,seval,↓gZ];try simp
theorem Zsq (qL qW qH:Int) (qF:List Box) (kW kH:Int) (kP:List Pane) (p:Ze) (Zj label:Int) (hq:VPc (Zb.mk qL qW qH qF)) (hv:Y5 (Zt.mk kW kH kP) p=true) (h1:1≤label) (h2:label≤10000) :
  Zd Xs Ms JA [(.d (.agg [J qL,J qW,J qH,.sl (qF.map Box.enc)])),(.d (.agg [J kW,J kH,.sl (kP.map Pane.enc)])),.d p.enc,(.d (J Zj)),(.d (J label))] [] =
  some (.own 0,[.row 4 ((UK (Zb.mk qL qW qH qF) label (Q0 (Zt.mk kW kH kP) p Zj)).map Zb.enc) true false]):=by
 obtain⟨b,hb,ah,ai,ak,ae,aj⟩:=QM hv;have af:=ai;simp only[VW] at af;have ep:=Zi9 kW kH kP p b ah (by simp only[inB];omega) ae (by omega);have ab:=Zb0 hv;have ad:((Qm (Zt.mk kW kH kP) p).filterMap XM).length≤255:=Kr (Kn _ _) (Zam _ _);unfold Q0;rw[aj,ZeI] at ab ad ⊢;have al:∀ f∈qF,VB f:=fun f hf=>(hq.2 f hf).1;have am:qF.length≤6:=hq.1.2.2.2.2.2.2;have aa:∀ i,((wst b 0 0 kW kH).take i).length≤255:=fun i=>Kr (List.length_take_le' _ _) ad;generalize wst b 0 0 kW kH=L at ep ab ad aa ⊢;clear aj ah hb hv ae ai af;obtain⟨o,a,n,t,ks⟩:=p;rw[Ze.enc_mk] at ep ⊢;refine cE ?_
 simp +contextual -implicitDefEqProofs (maxSteps:=10^7) only[go_sem,seval,↓gZ,Zfg,ep];refine LO (α:=Nat) (fun i=>[(13,.d (J (i:Int)))]) (fun i=>[(1,.row 4 ((UK (Zb.mk qL qW qH qF) label ((L.take i).filterMap (Uv Zj))).map Zb.enc) true false)]) (fun i=>i≤L.length) (fun i=>L.length-i) 0 (by omega) ?_;intro i hi ih;by_cases ag:i<L.length
 ·obtain⟨x,hx⟩:=Zo ag;have hw:=Zh (k:=i) (by omega);have hm:=ZaX (f:=Uv Zj) hx;have ap:((L.take i).filterMap (Uv Zj)).length≤255:=Kr (Kn _ _) (aa i);have hl:=Zc0 (Zb.mk qL qW qH qF) label ((L.take i).filterMap (Uv Zj));have hr:(((L.take i).filterMap (Uv Zj)).length+1)*48≤140737488355328∧((L.take i).filterMap (Uv Zj)).length≤140737488355327:=by omega
  have w1:=wi (label+(((L.take i).filterMap (Uv Zj)).length:Int)) (by omega) (by omega);have an:=ab x (Kb hx);have ao:=fun y=>Zh6 (Zb.mk qL qW qH qF) label ((L.take i).filterMap (Uv Zj)) [y];obtain⟨X,Y,W,H⟩:=x;simp only[Uv] at hm;have hc:=ZvA qL qW qH qF X Y W H (label+(((L.take i).filterMap (Uv Zj)).length:Int)) al am an;by_cases ho:Zj≤W∧Zj≤H
  ·rw[Kj ho] at hm;simp +contextual -implicitDefEqProofs (maxSteps:=10^7) only[go_sem,seval,↓gZ,hx,ag,hw,Zb7,ho,hl,w1,hc,hr];refine ih (i+1) _ (by omega) (by omega) ?_;simp +contextual -implicitDefEqProofs (maxSteps:=10^7) only[go_sem,seval,↓gZ,hm,Option.toList,ao,UK,ZnB]
   first | rfl | (simp;done) | (simp;rfl)
  ·rw[Kg ho] at hm;simp +contextual -implicitDefEqProofs (maxSteps:=10^7) only[go_sem,seval,↓gZ,hx,ag,hw,Zb7,ho];refine ih (i+1) _ (by omega) (by omega) ?_;simp +contextual -implicitDefEqProofs (maxSteps:=10^7) only[go_sem,seval,↓gZ,hm]
   first | rfl | (simp;done) | (simp;rfl)
 ·have:i=L.length:=by omega
  subst this;simp +contextual -implicitDefEqProofs (maxSteps:=10^7) only[go_sem,seval,↓gZ];try simp
end Go.Proofs.YthgciclhiaoecaaGreat
