/- Own text. -/
import Derived.Test.YtnachaiejoflhaaBCode
import Derived.Test.YtnachaiejoflhaaAbsParts
import Derived.Test.YtnachaiejoflhaaBC1
import Derived.Test.YtnachaiejoflhaaAbsOkD
namespace Go.Proofs.Ytnachaiejoflhaa
open Go Go.Abs Go.Abs.E Go.Abs.L
open Nat (reduceMul reduceSub reduceLeDiff reduceEqDiff)
open Int (reduceLE reduceEq reduceToNat reduceNeg)
set_option linter.unusedSimpArgs false
set_option linter.unusedVariables false
set_option maxRecDepth 20000
set_option maxHeartbeats 4000000
theorem QU (ps:List Pane):∀ (b:BT) (gX gY gW gH:Int) (xs:List D) (ex:Bool),inB (Box.mk gX gY gW gH)→Xe ps b gW gH=true→xs.length+b.cnt≤1000 →
  Zi Xs Ms ZW [.own 0,.d b.plan.enc,(.d (.agg [J gX,J gY,J gW,J gH]))] [.row 9 xs ex false]=some (.own 1,[.gone,.row 9 (xs++(pt b gX gY gW gH).map Part.enc) false false])
 | .waste,gX,gY,gW,gH,xs,ex,hg,hf,hl=>by
  simp only[BT.cnt] at hl;have h1:(xs.length+1)*88≤140737488355328∧xs.length≤140737488355327:=by omega
  simp only[BT.plan,Ze.enc_mk,pt];refine cE ?_;simp +contextual -implicitDefEqProofs (maxSteps:=10^7) only[go_sem,seval,↓gZ,QR,Yz,h1]
 | .pane i t,gX,gY,gW,gH,xs,ex,hg,hf,hl=>by
  simp only[BT.cnt] at hl;have h1:(xs.length+1)*88≤140737488355328∧xs.length≤140737488355327:=by omega
  simp only[BT.plan,Ze.enc_mk,pt];refine cE ?_;simp +contextual -implicitDefEqProofs (maxSteps:=10^7) only[go_sem,seval,↓gZ,QR,Yz,h1]
 | .cut d a l r,gX,gY,gW,gH,xs,ex,hg,hf,hl=>by
  simp only[BT.cnt] at hl;have h1:(xs.length+1)*88≤140737488355328∧xs.length≤140737488355327:=by omega
  simp only[inB] at hg;simp only[BT.plan,Ze.enc_mk];cases d with
  | true=>
   simp only[Xe,Kb,Kn,Kj] at hf;have e0:=W8 2 a 0 false [l.plan.enc,r.plan.enc] gX gY gW gH rfl ⟨by omega,by omega⟩ ⟨by omega,by omega⟩;have e1:=QU ps l gX gY a gH (xs++[.agg [J 2,J a,J 0,.bool false,.sl [l.plan.enc,r.plan.enc],J gX,J gY,J gW,J gH]]) false (by simp only[inB];omega) hf.1.2 (by simp only[Ks,Kp,K4];omega);have e2:=QU ps r (gX+a) gY (gW-a) gH (xs++[.agg [J 2,J a,J 0,.bool false,.sl [l.plan.enc,r.plan.enc],J gX,J gY,J gW,J gH]]++(pt l gX gY a gH).map Part.enc) false (by simp only[inB];omega) hf.2 (by simp only[Ks,Kp,K4,K3,ZbI];omega)
   refine cE ?_;simp +contextual -implicitDefEqProofs (maxSteps:=10^7) only[go_sem,seval,↓gZ,QR,Yz,h1,UJ,e0,e1,e2];simp[pt,UJ,BT.plan,Part.enc_mk]
  | false=>
   simp only[Xe,Kb,Kn,Ka,Ki] at hf;have e0:=V0 3 a 0 false [l.plan.enc,r.plan.enc] gX gY gW gH (by decide) ⟨by omega,by omega⟩ ⟨by omega,by omega⟩;have e1:=QU ps l gX gY gW a (xs++[.agg [J 3,J a,J 0,.bool false,.sl [l.plan.enc,r.plan.enc],J gX,J gY,J gW,J gH]]) false (by simp only[inB];omega) hf.1.2 (by simp only[Ks,Kp,K4];omega);have e2:=QU ps r gX (gY+a) gW (gH-a) (xs++[.agg [J 3,J a,J 0,.bool false,.sl [l.plan.enc,r.plan.enc],J gX,J gY,J gW,J gH]]++(pt l gX gY gW a).map Part.enc) false (by simp only[inB];omega) hf.2 (by simp only[Ks,Kp,K4,K3,ZbI];omega)
   refine cE ?_;simp +contextual -implicitDefEqProofs (maxSteps:=10^7) only[go_sem,seval,↓gZ,QR,Yz,h1,UJ,e0,e1,e2];simp[pt,UJ,BT.plan,Part.enc_mk]
theorem Zh1 (ps:List Pane):∀ (b:BT) (gX gY gW gH:Int),inB (Box.mk gX gY gW gH)→Xe ps b gW gH=true→b.cnt≤1000 →
  Zi Xs Ms ZW [.nil,.d b.plan.enc,(.d (.agg [J gX,J gY,J gW,J gH]))] []=some (.own 0,[.row 9 ((pt b gX gY gW gH).map Part.enc) false false])
 | .waste,gX,gY,gW,gH,hg,hf,hl=>by
  have h1:1*88≤ZB∧1≤ZB:=by unfold ZB;omega
  simp only[BT.plan,Ze.enc_mk,pt];refine cE ?_;simp +contextual -implicitDefEqProofs (maxSteps:=10^7) only[go_sem,seval,↓gZ,QR,Yz,h1]
 | .pane i t,gX,gY,gW,gH,hg,hf,hl=>by
  have h1:1*88≤ZB∧1≤ZB:=by unfold ZB;omega
  simp only[BT.plan,Ze.enc_mk,pt];refine cE ?_;simp +contextual -implicitDefEqProofs (maxSteps:=10^7) only[go_sem,seval,↓gZ,QR,Yz,h1]
 | .cut d a l r,gX,gY,gW,gH,hg,hf,hl=>by
  simp only[BT.cnt] at hl;have h1:1*88≤ZB∧1≤ZB:=by unfold ZB;omega
  simp only[inB] at hg;simp only[BT.plan,Ze.enc_mk];cases d with
  | true=>
   simp only[Xe,Kb,Kn,Kj] at hf;have e0:=W8 2 a 0 false [l.plan.enc,r.plan.enc] gX gY gW gH rfl ⟨by omega,by omega⟩ ⟨by omega,by omega⟩;have e1:=QU ps l gX gY a gH [.agg [J 2,J a,J 0,.bool false,.sl [l.plan.enc,r.plan.enc],J gX,J gY,J gW,J gH]] false (by simp only[inB];omega) hf.1.2 (by simp only[Ks,Kp,K4];omega);have e2:=QU ps r (gX+a) gY (gW-a) gH (.agg [J 2,J a,J 0,.bool false,.sl [l.plan.enc,r.plan.enc],J gX,J gY,J gW,J gH] :: (pt l gX gY a gH).map Part.enc) false (by simp only[inB];omega) hf.2 (by simp only[Ks,Kp,K4,K3,ZbI];omega)
   refine cE ?_;simp +contextual -implicitDefEqProofs (maxSteps:=10^7) only[go_sem,seval,↓gZ,QR,Yz,h1,UJ,e0,e1,e2];simp[pt,UJ,BT.plan,Part.enc_mk]
  | false=>
   simp only[Xe,Kb,Kn,Ka,Ki] at hf;have e0:=V0 3 a 0 false [l.plan.enc,r.plan.enc] gX gY gW gH (by decide) ⟨by omega,by omega⟩ ⟨by omega,by omega⟩;have e1:=QU ps l gX gY gW a [.agg [J 3,J a,J 0,.bool false,.sl [l.plan.enc,r.plan.enc],J gX,J gY,J gW,J gH]] false (by simp only[inB];omega) hf.1.2 (by simp only[Ks,Kp,K4];omega);have e2:=QU ps r gX (gY+a) gW (gH-a) (.agg [J 3,J a,J 0,.bool false,.sl [l.plan.enc,r.plan.enc],J gX,J gY,J gW,J gH] :: (pt l gX gY gW a).map Part.enc) false (by simp only[inB];omega) hf.2 (by simp only[Ks,Kp,K4,K3,ZbI];omega)
   refine cE ?_;simp +contextual -implicitDefEqProofs (maxSteps:=10^7) only[go_sem,seval,↓gZ,QR,Yz,h1,UJ,e0,e1,e2];simp[pt,UJ,BT.plan,Part.enc_mk]
theorem Zeu (kW kH:Int) (kP:List Pane) (p:Ze):Zi Xs Ms VD [(.d (.agg [J kW,J kH,.sl (kP.map Pane.enc)])),.d p.enc] []=some (.own 0,[.row 9 ((Q0 (ZI.mk kW kH kP) p).map Part.enc) (!VS (ZI.mk kW kH kP) p) false]):=by
 have hv:=Zb5 kW kH kP p;unfold VS at hv;unfold Q0 VS;cases hb:Xd p with
 | none=>
  rw[hb] at hv;obtain⟨o,a,q,t,ks⟩:=p;rw[Ze.enc_mk] at hv ⊢;refine cE ?_;simp +contextual -implicitDefEqProofs (maxSteps:=10^7) only[go_sem,seval,↓gZ,W1,hv];try rfl
 | some b=>
  have hp:=Zcv hb;rw[hb] at hv;dsimp only at hv ⊢;by_cases hh:(decide (VW (ZI.mk kW kH kP))&&decide (b.cnt≤255)&&Xe kP b kW kH)=true
  ·have aa:=hh;simp only[Kb,Kn] at aa;have hw:=aa.1.1;simp only[VW] at hw;have ab:=Zh1 kP b 0 0 kW kH (by simp only[inB];omega) aa.2 (by omega);rw[← hp] at ab;rw[hh] at hv ⊢;obtain⟨o,a,q,t,ks⟩:=p;rw[Ze.enc_mk] at hv ab ⊢;refine cE ?_;simp +contextual -implicitDefEqProofs (maxSteps:=10^7) only[go_sem,seval,↓gZ,W1,Zet,hv,ab];try rfl
  ·have hf:=(LA _).mp hh;rw[hf] at hv ⊢;obtain⟨o,a,q,t,ks⟩:=p;rw[Ze.enc_mk] at hv ⊢;refine cE ?_;simp +contextual -implicitDefEqProofs (maxSteps:=10^7) only[go_sem,seval,↓gZ,W1,hv];try rfl
theorem UV (k:ZI) (p:Ze):(Q0 k p).length≤255:=by
 unfold Q0;split
 ·split
  ·rename_i h;simp only[Kb,Kn] at h;rw[ZbI];exact h.1.2
  ·simp
 ·simp
theorem ZiC (kW kH:Int) (kP:List Pane) (p:Ze):Zi Xs Ms Wa [(.d (.agg [J kW,J kH,.sl (kP.map Pane.enc)])),.d p.enc] []=some (.own 0,[.row 6 (((Q0 (ZI.mk kW kH kP) p).filterMap Xv).map Xz.enc) true false]):=by
 have hv:=Zeu kW kH kP p;have hn:=UV (ZI.mk kW kH kP) p;generalize (!VS (ZI.mk kW kH kP) p)=e at hv;generalize Q0 (ZI.mk kW kH kP) p=ps at hv hn ⊢;obtain⟨o,a,q,t,ks⟩:=p;rw[Ze.enc_mk] at hv ⊢;refine cE ?_;simp +contextual -implicitDefEqProofs (maxSteps:=10^7) only[go_sem,seval,↓gZ,Zba,hv];refine LO (α:=Nat) (fun k=>[(12,.d (J (k:Int)))]) (fun k=>[(1,.row 6 (((ps.take k).filterMap Xv).map Xz.enc) true false)]) (fun k=>k≤ps.length) (fun k=>ps.length-k) 0 (by omega) ?_;intro k hk ih;by_cases aa:k<ps.length
 ·obtain⟨x,hx⟩:=Qa aa;have hw:=ZA (k:=k) (by omega);have hm:=Jm (f:=Xv) hx;have ab:((ps.take k).filterMap Xv).length≤k:=KI (Kr _ _) (by simp;omega);have hr:(((ps.take k).filterMap Xv).length+1)*48≤140737488355328∧((ps.take k).filterMap Xv).length≤140737488355327:=by omega
  obtain⟨⟨o',a',q',t',ad⟩,⟨X,Y,W,H⟩⟩:=x;simp only[Xv] at hm;by_cases ho:o'=1
  ·rw[Kt ho] at hm;simp +contextual -implicitDefEqProofs (maxSteps:=10^7) only[go_sem,seval,↓gZ,hx,aa,hw,ho,hr];refine ih (k+1) _ (by omega) (by omega) ?_;simp +contextual -implicitDefEqProofs (maxSteps:=10^7) only[go_sem,seval,↓gZ,hm]
   first | rfl | (simp;done) | (simp;rfl)
  ·rw[Ko ho] at hm;simp +contextual -implicitDefEqProofs (maxSteps:=10^7) only[go_sem,seval,↓gZ,hx,aa,hw,ho,hr];refine ih (k+1) _ (by omega) (by omega) ?_;simp +contextual -implicitDefEqProofs (maxSteps:=10^7) only[go_sem,seval,↓gZ,hm]
   first | rfl | (simp;done) | (simp;rfl)
 ·have:k=ps.length:=by omega
  subst this;simp +contextual -implicitDefEqProofs (maxSteps:=10^7) only[go_sem,seval,↓gZ];simp
theorem ZiD (kW kH:Int) (kP:List Pane) (p:Ze):Zi Xs Ms Wb [(.d (.agg [J kW,J kH,.sl (kP.map Pane.enc)])),.d p.enc] []=some (.own 0,[.row 4 (((Q0 (ZI.mk kW kH kP) p).filterMap Xw).map Box.enc) true false]):=by
 have hv:=Zeu kW kH kP p;have hn:=UV (ZI.mk kW kH kP) p;generalize (!VS (ZI.mk kW kH kP) p)=e at hv;generalize Q0 (ZI.mk kW kH kP) p=ps at hv hn ⊢;obtain⟨o,a,q,t,ks⟩:=p;rw[Ze.enc_mk] at hv ⊢;refine cE ?_;simp +contextual -implicitDefEqProofs (maxSteps:=10^7) only[go_sem,seval,↓gZ,Zbd,hv];refine LO (α:=Nat) (fun k=>[(12,.d (J (k:Int)))]) (fun k=>[(1,.row 4 (((ps.take k).filterMap Xw).map Box.enc) true false)]) (fun k=>k≤ps.length) (fun k=>ps.length-k) 0 (by omega) ?_;intro k hk ih;by_cases aa:k<ps.length
 ·obtain⟨x,hx⟩:=Qa aa;have hw:=ZA (k:=k) (by omega);have hm:=Jm (f:=Xw) hx;have ab:((ps.take k).filterMap Xw).length≤k:=KI (Kr _ _) (by simp;omega);have hr:(((ps.take k).filterMap Xw).length+1)*32≤140737488355328∧((ps.take k).filterMap Xw).length≤140737488355327:=by omega
  obtain⟨⟨o',a',q',t',ad⟩,⟨X,Y,W,H⟩⟩:=x;simp only[Xw] at hm;by_cases ho:o'=0
  ·rw[Kt ho] at hm;simp +contextual -implicitDefEqProofs (maxSteps:=10^7) only[go_sem,seval,↓gZ,hx,aa,hw,ho,hr];refine ih (k+1) _ (by omega) (by omega) ?_;simp +contextual -implicitDefEqProofs (maxSteps:=10^7) only[go_sem,seval,↓gZ,hm]
   first | rfl | (simp;done) | (simp;rfl)
  ·rw[Ko ho] at hm;simp +contextual -implicitDefEqProofs (maxSteps:=10^7) only[go_sem,seval,↓gZ,hx,aa,hw,ho,hr];refine ih (k+1) _ (by omega) (by omega) ?_;simp +contextual -implicitDefEqProofs (maxSteps:=10^7) only[go_sem,seval,↓gZ,hm]
   first | rfl | (simp;done) | (simp;rfl)
 ·have:k=ps.length:=by omega
  subst this;simp +contextual -implicitDefEqProofs (maxSteps:=10^7) only[go_sem,seval,↓gZ];simp
theorem VA (ps:List Pane):∀ (b:BT) (gX gY gW gH:Int),inB (Box.mk gX gY gW gH)→Xe ps b gW gH=true→b.cnt≤1000 →
  Zi Xs Ms Xq [.d b.plan.enc,(.d (.agg [J gX,J gY,J gW,J gH]))] []=some (.own 0,[.row 6 ((sp b gX gY gW gH).map Xz.enc) true false])
 | .waste,gX,gY,gW,gH,hg,hf,hl=>by
  simp only[BT.plan,Ze.enc_mk,sp];refine cE ?_;simp +contextual -implicitDefEqProofs (maxSteps:=10^7) only[go_sem,seval,↓gZ,WD];try rfl
 | .pane i t,gX,gY,gW,gH,hg,hf,hl=>by
  simp only[BT.plan,Ze.enc_mk,sp];refine cE ?_;simp +contextual -implicitDefEqProofs (maxSteps:=10^7) only[go_sem,seval,↓gZ,WD];try rfl
 | .cut d a l r,gX,gY,gW,gH,hg,hf,hl=>by
  simp only[BT.cnt] at hl;simp only[inB] at hg;simp only[BT.plan,Ze.enc_mk];cases d with
  | true=>
   simp only[Xe,Kb,Kn,Kj] at hf;have w1:=wi (gX+a) (by omega) (by omega);have w2:=wi (gW-a) (by omega) (by omega);have l1:=JD l gX gY a gH;have l2:=JD r (gX+a) gY (gW-a) gH;have e1:=VA ps l gX gY a gH (by simp only[inB];omega) hf.1.2 (by omega);have e2:=VA ps r (gX+a) gY (gW-a) gH (by simp only[inB];omega) hf.2 (by omega);have h1:((sp l gX gY a gH).length+(sp r (gX+a) gY (gW-a) gH).length)*48≤140737488355328∧(sp l gX gY a gH).length+(sp r (gX+a) gY (gW-a) gH).length≤140737488355328:=by omega
   refine cE ?_;simp +contextual -implicitDefEqProofs (maxSteps:=10^7) only[go_sem,seval,↓gZ,WD,UJ,w1,w2,h1,e1,e2];simp[sp]
  | false=>
   simp only[Xe,Kb,Kn,Ka,Ki] at hf;have w1:=wi (gY+a) (by omega) (by omega);have w2:=wi (gH-a) (by omega) (by omega);have l1:=JD l gX gY gW a;have l2:=JD r gX (gY+a) gW (gH-a);have e1:=VA ps l gX gY gW a (by simp only[inB];omega) hf.1.2 (by omega);have e2:=VA ps r gX (gY+a) gW (gH-a) (by simp only[inB];omega) hf.2 (by omega);have h1:((sp l gX gY gW a).length+(sp r gX (gY+a) gW (gH-a)).length)*48≤140737488355328∧(sp l gX gY gW a).length+(sp r gX (gY+a) gW (gH-a)).length≤140737488355328:=by omega
   refine cE ?_;simp +contextual -implicitDefEqProofs (maxSteps:=10^7) only[go_sem,seval,↓gZ,WD,UJ,w1,w2,h1,e1,e2];simp[sp]
theorem WJ (qL qW qH:Int) (qF:List Box):Zi Xs Ms XU [(.d (.agg [J qL,J qW,J qH,.sl (qF.map Box.enc)]))] []=some (.d (.agg [J 0,J 0,J qW,J qH]),[]):=by
 refine cE ?_;simp +contextual -implicitDefEqProofs (maxSteps:=10^7) only[go_sem,seval,↓gZ,Zbc]
theorem Xg (qL qW qH:Int) (qF:List Box):Zi Xs Ms XG [(.d (.agg [J qL,J qW,J qH,.sl (qF.map Box.enc)]))] []=some ((.d (.bool (decide (VPc (Zo.mk qL qW qH qF))))),[]):=by
 refine cE ?_;by_cases h0:(((qL<1∨9999<qL)∨¬VB ⟨0,0,qW,qH⟩)∨(6:Int)<qF.length)
 ·simp +contextual -implicitDefEqProofs (maxSteps:=10^7) only[go_sem,seval,↓gZ,Wd,WJ,X2,h0];exact Zbx (by simp only[VPc];simp only[VB] at h0;omega)
 ·simp +contextual -implicitDefEqProofs (maxSteps:=10^7) only[go_sem,seval,↓gZ,Wd,WJ,X2,h0];have hb:VB ⟨0,0,qW,qH⟩:=by
   refine Decidable.byContradiction fun h=>h0 (.inl (.inr h))
  refine LO (α:=Nat) (fun k=>[(28,.d (J (k:Int)))]) (fun _=>[]) (fun k=>k≤qF.length∧((∀ f∈qF,UI qW qH f)↔∀ f∈qF.drop k,UI qW qH f)) (fun k=>qF.length-k) 0 ⟨by omega,by simp⟩ ?_;intro k ⟨hk,hp⟩ ih;by_cases aa:k<qF.length
  ·obtain⟨x,hx⟩:=Qa aa;rw[J4 hx] at hp;have hw:=ZA (k:=k) (by simp only[VB] at hb h0;omega);obtain⟨X,Y,W,H⟩:=x;simp +contextual -implicitDefEqProofs (maxSteps:=10^7) only[go_sem,seval,↓gZ,hx,aa,hw,WJ,ZcX,hb];refine⟨fun h=>Zbx (fun hh=>h ((hp.1 hh.2).1)),fun h=>ih (k+1) _ ⟨by omega,?_⟩ (by omega) ?_⟩
   ·rw[hp];exact⟨fun hh=>hh.2,fun hh=>⟨h,hh⟩⟩
   ·simp +contextual -implicitDefEqProofs (maxSteps:=10^7) only[go_sem,seval,↓gZ]
  ·have:k=qF.length:=by omega
   subst this;simp +contextual -implicitDefEqProofs (maxSteps:=10^7) only[go_sem,seval,↓gZ];have hv:∀ f∈qF,UI qW qH f:=hp.2 (by simp);exact Zow (by simp only[VPc];simp only[VB] at h0;exact⟨by omega,hv⟩)
theorem Zf6 (qL qW qH:Int) (qF:List Box) (hl:qF.length<4611686018427387904) (hW:R64 qW) (hH:R64 qH):Zi Xs Ms YE [(.d (.agg [J qL,J qW,J qH,.sl (qF.map Box.enc)]))] []=some ((.d (.bool (decide (VPc (Zo.mk qL qW qH qF))))),[]):=by
 refine cE ?_;simp +contextual -implicitDefEqProofs (maxSteps:=10^7) only[go_sem,seval,↓gZ,U7];refine LO (α:=Nat) (fun k=>[(3,.d (J (k:Int)))]) (fun _=>[]) (fun k=>k≤qF.length∧((∀ f∈qF,UI qW qH f)↔∀ f∈qF.drop k,UI qW qH f)) (fun k=>qF.length-k) 0 ⟨by omega,by simp⟩ ?_;intro k ⟨hk,hp⟩ ih;by_cases aa:k<qF.length
 ·obtain⟨x,hx⟩:=Qa aa;rw[J4 hx] at hp;have hw:=ZA (k:=k) (by omega);obtain⟨X,Y,W,H⟩:=x;by_cases hv:VB ⟨X,Y,W,H⟩
  ·have hi:=Ziy X Y W H 0 0 qW qH hv ⟨by omega,by omega⟩ ⟨by omega,by omega⟩ (by simpa using hW) (by simpa using hH);simp +contextual -implicitDefEqProofs (maxSteps:=10^7) only[go_sem,seval,↓gZ,hx,aa,hw,ZcW,hi,hv];refine⟨fun h=>Zbx (fun hh=>h ((hp.1 hh.2).1.2)),fun h=>ih (k+1) _ ⟨by omega,?_⟩ (by omega) ?_⟩
   ·rw[hp];exact⟨fun hh=>hh.2,fun hh=>⟨⟨hv,h⟩,hh⟩⟩
   ·simp +contextual -implicitDefEqProofs (maxSteps:=10^7) only[go_sem,seval,↓gZ]
  ·simp +contextual -implicitDefEqProofs (maxSteps:=10^7) only[go_sem,seval,↓gZ,hx,aa,hw,ZcW,hv];exact Zbx (fun hh=>hv ((hp.1 hh.2).1.1))
 ·have:k=qF.length:=by omega
  subst this;simp +contextual -implicitDefEqProofs (maxSteps:=10^7) only[go_sem,seval,↓gZ,Z8];have hv:∀ f∈qF,UI qW qH f:=hp.2 (by simp);exact ZdZ (by simp only[VPc];exact⟨fun h=>⟨by omega,hv⟩,fun h=>by omega⟩)
theorem Zh2 (fs:List Box) (bX bY bW bH:Int) (hf:∀ f∈fs,VB f) (hb:VB (Box.mk bX bY bW bH)) (hl:fs.length<4611686018427387904):Zi Xs Ms Vd [(.d (.sl (fs.map Box.enc))),(.d (.agg [J bX,J bY,J bW,J bH]))] []=some ((.d (.bool (!decide (Qh fs (Box.mk bX bY bW bH))))),[]):=by
 refine cE ?_;simp +contextual -implicitDefEqProofs (maxSteps:=10^7) only[go_sem,seval,↓gZ,JN];refine LO (α:=Nat) (fun k=>[(11,.d (J (k:Int)))]) (fun _=>[]) (fun k=>k≤fs.length∧(Qh fs (Box.mk bX bY bW bH)↔Qh (fs.drop k) (Box.mk bX bY bW bH))) (fun k=>fs.length-k) 0 ⟨by omega,by simp⟩ ?_;intro k ⟨hk,hp⟩ ih;by_cases aa:k<fs.length
 ·obtain⟨x,hx⟩:=Qa aa;have ad:=hx;unfold Qh at hp;rw[J4 hx (fun f=>¬YT f (Box.mk bX bY bW bH))] at hp;have hw:=ZA (k:=k) (by omega);have ab:=hf x (Kg hx);obtain⟨X,Y,W,H⟩:=x;by_cases hm:YT ⟨X,Y,W,H⟩ (Box.mk bX bY bW bH)
  ·simp +contextual -implicitDefEqProofs (maxSteps:=10^7) only[go_sem,seval,↓gZ,hx,aa,hw,ZaR X Y W H bX bY bW bH ab hb hm];have:¬Qh fs (Box.mk bX bY bW bH):=fun hh=>(hp.1 hh).1 hm;simp[this]
  ·simp +contextual -implicitDefEqProofs (maxSteps:=10^7) only[go_sem,seval,↓gZ,hx,aa,hw,Zb4 X Y W H bX bY bW bH (fun hh=>hm hh.2.2)];refine ih (k+1) _ ⟨by omega,?_⟩ (by omega) ?_
   ·unfold Qh;rw[hp];exact⟨fun hh=>hh.2,fun hh=>⟨hm,hh⟩⟩
   ·simp +contextual -implicitDefEqProofs (maxSteps:=10^7) only[go_sem,seval,↓gZ]
 ·have:k=fs.length:=by omega
  subst this;simp +contextual -implicitDefEqProofs (maxSteps:=10^7) only[go_sem,seval,↓gZ];have:Qh fs (Box.mk bX bY bW bH):=hp.2 (by simp[Qh]);simp[this]
theorem Zk0 (qL qW qH:Int) (qF:List Box) (bX bY bW bH:Int) (hf:∀ f∈qF,VB f) (hb:VB (Box.mk bX bY bW bH)) (hl:qF.length<4611686018427387904):Zi Xs Ms W0 [(.d (.agg [J qL,J qW,J qH,.sl (qF.map Box.enc)])),(.d (.agg [J bX,J bY,J bW,J bH]))] []=some ((.d (.bool (decide (Qh qF (Box.mk bX bY bW bH))))),[]):=by
 refine cE ?_;simp +contextual -implicitDefEqProofs (maxSteps:=10^7) only[go_sem,seval,↓gZ,Zcg];refine LO (α:=Nat) (fun k=>[(5,.d (J (k:Int)))]) (fun _=>[]) (fun k=>k≤qF.length∧(Qh qF (Box.mk bX bY bW bH)↔Qh (qF.drop k) (Box.mk bX bY bW bH))) (fun k=>qF.length-k) 0 ⟨by omega,by simp⟩ ?_;intro k ⟨hk,hp⟩ ih;by_cases aa:k<qF.length
 ·obtain⟨x,hx⟩:=Qa aa;unfold Qh at hp;rw[J4 hx (fun f=>¬YT f (Box.mk bX bY bW bH))] at hp;have hw:=ZA (k:=k) (by omega);have ab:=hf x (Kg hx);obtain⟨X,Y,W,H⟩:=x;by_cases hm:YT ⟨X,Y,W,H⟩ (Box.mk bX bY bW bH)
  ·simp +contextual -implicitDefEqProofs (maxSteps:=10^7) only[go_sem,seval,↓gZ,hx,aa,hw,Zes X Y W H bX bY bW bH ab hb hm];have:¬Qh qF (Box.mk bX bY bW bH):=fun hh=>(hp.1 hh).1 hm;simp[this]
  ·simp +contextual -implicitDefEqProofs (maxSteps:=10^7) only[go_sem,seval,↓gZ,hx,aa,hw,ZfY X Y W H bX bY bW bH ab hb hm];refine ih (k+1) _ ⟨by omega,?_⟩ (by omega) ?_
   ·unfold Qh;rw[hp];exact⟨fun hh=>hh.2,fun hh=>⟨hm,hh⟩⟩
   ·simp +contextual -implicitDefEqProofs (maxSteps:=10^7) only[go_sem,seval,↓gZ]
 ·have:k=qF.length:=by omega
  subst this;simp +contextual -implicitDefEqProofs (maxSteps:=10^7) only[go_sem,seval,↓gZ];have:Qh qF (Box.mk bX bY bW bH):=hp.2 (by simp[Qh]);simp[this]
theorem ZiE (kW kH:Int) (kP:List Pane) (p:Ze) (b:BT) (hp:p=b.plan) (hg:inB ⟨0,0,kW,kH⟩) (hf:Xe kP b kW kH=true) (hl:b.cnt≤1000):Zi Xs Ms V8 [(.d (.agg [J kW,J kH,.sl (kP.map Pane.enc)])),.d p.enc] []=some (.own 0,[.row 6 ((plc b 0 0 kW kH).map Xz.enc) true false]):=by
 have e:=VA kP b 0 0 kW kH hg hf hl;have hm:=ZeQ b 0 0 kW kH (Zcu hf);have hn:=JD b 0 0 kW kH;rw[← hp] at e;rw[← hm];clear hm;generalize sp b 0 0 kW kH=S at e hn ⊢;clear hp hf hg;obtain⟨o,a,q,t,ks⟩:=p;rw[Ze.enc_mk] at e ⊢;refine cE ?_;simp +contextual -implicitDefEqProofs (maxSteps:=10^7) only[go_sem,seval,↓gZ,Za8,e];refine LO (α:=Nat) (fun i=>[(7,.d (J (i:Int)))]) (fun i=>[(1,.row 6 (((S.take i).filterMap Jk).map Xz.enc) true false)]) (fun i=>i≤S.length) (fun i=>S.length-i) 0 (by omega) ?_;intro i hi ih;by_cases aa:i<S.length
 ·obtain⟨x,hx⟩:=Qa aa;have hw:=ZA (k:=i) (by omega);have hm:=Jm (f:=Jk) hx;have ab:((S.take i).filterMap Jk).length≤i:=KI (Kr _ _) (by simp;omega);have hr:(((S.take i).filterMap Jk).length+1)*48≤140737488355328∧((S.take i).filterMap Jk).length≤140737488355327:=by omega
  obtain⟨q',t',⟨X,Y,W,H⟩⟩:=x;simp only[Jk] at hm;by_cases ho:0≤q'
  ·rw[Kt ho] at hm;simp +contextual -implicitDefEqProofs (maxSteps:=10^7) only[go_sem,seval,↓gZ,hx,aa,hw,ho,hr];refine ih (i+1) _ (by omega) (by omega) ?_;simp +contextual -implicitDefEqProofs (maxSteps:=10^7) only[go_sem,seval,↓gZ,hm]
   first | rfl | (simp;done) | (simp;rfl)
  ·rw[Ko ho] at hm;simp +contextual -implicitDefEqProofs (maxSteps:=10^7) only[go_sem,seval,↓gZ,hx,aa,hw,ho,hr];refine ih (i+1) _ (by omega) (by omega) ?_;simp +contextual -implicitDefEqProofs (maxSteps:=10^7) only[go_sem,seval,↓gZ,hm]
   first | rfl | (simp;done) | (simp;rfl)
 ·have:i=S.length:=by omega
  subst this;simp +contextual -implicitDefEqProofs (maxSteps:=10^7) only[go_sem,seval,↓gZ];simp
theorem ZiF (kW kH:Int) (kP:List Pane) (p:Ze) (b:BT) (hp:p=b.plan) (hg:inB ⟨0,0,kW,kH⟩) (hf:Xe kP b kW kH=true) (hl:b.cnt≤1000):Zi Xs Ms V9 [(.d (.agg [J kW,J kH,.sl (kP.map Pane.enc)])),.d p.enc] []=some (.own 0,[.row 4 ((wst b 0 0 kW kH).map Box.enc) true false]):=by
 have e:=VA kP b 0 0 kW kH hg hf hl;have hm:=ZeR b 0 0 kW kH (Zcu hf);have hn:=JD b 0 0 kW kH;rw[← hp] at e;rw[← hm];clear hm;generalize sp b 0 0 kW kH=S at e hn ⊢;clear hp hf hg;obtain⟨o,a,q,t,ks⟩:=p;rw[Ze.enc_mk] at e ⊢;refine cE ?_;simp +contextual -implicitDefEqProofs (maxSteps:=10^7) only[go_sem,seval,↓gZ,Za9,e];refine LO (α:=Nat) (fun i=>[(7,.d (J (i:Int)))]) (fun i=>[(1,.row 4 (((S.take i).filterMap Jl).map Box.enc) true false)]) (fun i=>i≤S.length) (fun i=>S.length-i) 0 (by omega) ?_;intro i hi ih;by_cases aa:i<S.length
 ·obtain⟨x,hx⟩:=Qa aa;have hw:=ZA (k:=i) (by omega);have hm:=Jm (f:=Jl) hx;have ab:((S.take i).filterMap Jl).length≤i:=KI (Kr _ _) (by simp;omega);have hr:(((S.take i).filterMap Jl).length+1)*32≤140737488355328∧((S.take i).filterMap Jl).length≤140737488355327:=by omega
  obtain⟨q',t',⟨X,Y,W,H⟩⟩:=x;simp only[Jl] at hm;by_cases ho:q' < 0
  ·rw[Kt ho] at hm;simp +contextual -implicitDefEqProofs (maxSteps:=10^7) only[go_sem,seval,↓gZ,hx,aa,hw,ho,hr];refine ih (i+1) _ (by omega) (by omega) ?_;simp +contextual -implicitDefEqProofs (maxSteps:=10^7) only[go_sem,seval,↓gZ,hm]
   first | rfl | (simp;done) | (simp;rfl)
  ·rw[Ko ho] at hm;simp +contextual -implicitDefEqProofs (maxSteps:=10^7) only[go_sem,seval,↓gZ,hx,aa,hw,ho,hr];refine ih (i+1) _ (by omega) (by omega) ?_;simp +contextual -implicitDefEqProofs (maxSteps:=10^7) only[go_sem,seval,↓gZ,hm]
   first | rfl | (simp;done) | (simp;rfl)
 ·have:i=S.length:=by omega
  subst this;simp +contextual -implicitDefEqProofs (maxSteps:=10^7) only[go_sem,seval,↓gZ];simp
theorem ZiG (qL qW qH:Int) (qF:List Box) (kW kH:Int) (kP:List Pane) (p:Ze):Zi Xs Ms V4 [(.d (.agg [J qL,J qW,J qH,.sl (qF.map Box.enc)])),(.d (.agg [J kW,J kH,.sl (kP.map Pane.enc)])),.d p.enc] []=some ((.d (.bool (decide (VPc (Zo.mk qL qW qH qF)∧YU (Zo.mk qL qW qH qF) (ZI.mk kW kH kP) p)))),[]):=by
 have ev:=Zb5 kW kH kP p;by_cases hq:VPc (Zo.mk qL qW qH qF)
 ·by_cases hv:VS (ZI.mk kW kH kP) p=true
  ·by_cases hw:kW=qW
   ·by_cases hh:kH=qH
    ·subst hw;subst hh;have ep:=ZiC kW kH kP p;obtain⟨b,hb,ah,ai,aj,ad,af⟩:=Ws hv;have ab:∀ c∈(Q0 (ZI.mk kW kH kP) p).filterMap Xv,VB c.Box:=by
      rw[af,Uq];exact Zaz (p:=p) ai ad
     have ae:((Q0 (ZI.mk kW kH kP) p).filterMap Xv).length≤255:=KI (Kr _ _) (UV _ _);have aa:YU ⟨qL,kW,kH,qF⟩ (ZI.mk kW kH kP) p↔∀ c∈(Q0 (ZI.mk kW kH kP) p).filterMap Xv,Qh qF c.Box:=by
      unfold YU;exact⟨fun h=>h.2.2.2,fun h=>⟨hv,rfl,rfl,h⟩⟩
     have ak:∀ f∈qF,VB f:=fun f hf=>(hq.2 f hf).1;have an:qF.length≤6:=hq.1.2.2.2.2.2.2;rw[hv] at ev;generalize hL:(Q0 (ZI.mk kW kH kP) p).filterMap Xv=L at ep ab ae aa;clear hL af ah hb;obtain⟨o,a,n,t,ks⟩:=p;rw[Ze.enc_mk] at ev ep ⊢;refine cE ?_;simp +contextual -implicitDefEqProofs (maxSteps:=10^7) only[go_sem,seval,↓gZ,XV,Xg,hq,ev,ep];refine LO (α:=Nat) (fun i=>[(36,.d (J (i:Int)))]) (fun _=>[]) (fun i=>i≤L.length∧((∀ c∈L,Qh qF c.Box)↔∀ c∈L.drop i,Qh qF c.Box)) (fun i=>L.length-i) 0 ⟨by omega,by simp⟩ ?_;intro i ⟨hi,hp⟩ ih;by_cases ag:i<L.length
     ·obtain⟨x,hx⟩:=Qa ag;rw[J4 hx (fun c=>Qh qF c.Box)] at hp;have hw:=ZA (k:=i) (by omega);have al:=ab x (Kg hx);obtain⟨q',t',⟨X,Y,W,H⟩⟩:=x;have em:=Zh2 qF X Y W H ak al (by omega);simp +contextual -implicitDefEqProofs (maxSteps:=10^7) only[go_sem,seval,↓gZ,hx,ag,hw,em];refine⟨fun h=>Zbx (fun h'=>h ((hp.1 (aa.1 h')).1)),fun h=>ih (i+1) _ ⟨by omega,?_⟩ (by omega) ?_⟩
      ·rw[hp];exact⟨fun h'=>h'.2,fun h'=>⟨h,h'⟩⟩
      ·simp +contextual -implicitDefEqProofs (maxSteps:=10^7) only[go_sem,seval,↓gZ]
     ·have:i=L.length:=by omega
      subst this;simp +contextual -implicitDefEqProofs (maxSteps:=10^7) only[go_sem,seval,↓gZ];exact Zow (aa.2 (hp.2 (by simp)))
    ·subst hw;have hn:¬YU ⟨qL,kW,qH,qF⟩ (ZI.mk kW kH kP) p:=fun h=>hh h.2.2.1;obtain⟨o,a,n,t,ks⟩:=p;rw[hv] at ev;rw[Ze.enc_mk] at ev ⊢;refine cE ?_;simp +contextual -implicitDefEqProofs (maxSteps:=10^7) only[go_sem,seval,↓gZ,XV,Xg,hq,ev,hh,hn]
   ·have hn:¬YU (Zo.mk qL qW qH qF) (ZI.mk kW kH kP) p:=fun h=>hw h.2.1;obtain⟨o,a,n,t,ks⟩:=p;rw[hv] at ev;rw[Ze.enc_mk] at ev ⊢;refine cE ?_;simp +contextual -implicitDefEqProofs (maxSteps:=10^7) only[go_sem,seval,↓gZ,XV,Xg,hq,ev,hw,hn]
  ·have am:=(LA _).mp hv;have hn:¬YU (Zo.mk qL qW qH qF) (ZI.mk kW kH kP) p:=fun h=>hv h.1;rw[am] at ev;obtain⟨o,a,n,t,ks⟩:=p;rw[Ze.enc_mk] at ev ⊢;refine cE ?_;simp +contextual -implicitDefEqProofs (maxSteps:=10^7) only[go_sem,seval,↓gZ,XV,Xg,hq,ev,hn]
 ·obtain⟨o,a,n,t,ks⟩:=p;rw[Ze.enc_mk] at ev ⊢;refine cE ?_;simp +contextual -implicitDefEqProofs (maxSteps:=10^7) only[go_sem,seval,↓gZ,XV,Xg,hq]
theorem ZiH (qL qW qH:Int) (qF:List Box) (kW kH:Int) (kP:List Pane) (p:Ze) (al:∀ f∈qF,VB f) (ao:qF.length≤6) (hl:kP.length<4611686018427387904):Zi Xs Ms V2 [(.d (.agg [J qL,J qW,J qH,.sl (qF.map Box.enc)])),(.d (.agg [J kW,J kH,.sl (kP.map Pane.enc)])),.d p.enc] []=some ((.d (.bool (decide (YU (Zo.mk qL qW qH qF) (ZI.mk kW kH kP) p)))),[]):=by
 have ev:=Zh0 kW kH kP p hl;by_cases hv:VS (ZI.mk kW kH kP) p=true
 ·by_cases hw:kW=qW
  ·by_cases hh:kH=qH
   ·subst hw;subst hh;obtain⟨b,hb,ah,ai,ae,ab,aj⟩:=Ws hv;have af:=ai;simp only[VW] at af;have ep:=ZiE kW kH kP p b ah (by simp only[inB];omega) ab (by omega);have ad:∀ c∈plc b 0 0 kW kH,VB c.Box:=Zaz (p:=p) ai ab;have ag:(plc b 0 0 kW kH).length≤255:=by
     rw[← Uq];exact KI (Kr _ _) (by rw[ZbI];exact ae)
    have aa:YU ⟨qL,kW,kH,qF⟩ (ZI.mk kW kH kP) p↔∀ c∈plc b 0 0 kW kH,Qh qF c.Box:=by
     unfold YU;rw[aj,Uq];exact⟨fun h=>h.2.2.2,fun h=>⟨hv,rfl,rfl,h⟩⟩
    rw[hv] at ev;generalize plc b 0 0 kW kH=L at ep ad ag aa;clear aj ah hb;obtain⟨o,a,n,t,ks⟩:=p;rw[Ze.enc_mk] at ev ep ⊢;refine cE ?_;simp +contextual -implicitDefEqProofs (maxSteps:=10^7) only[go_sem,seval,↓gZ,YQ,ev,ep];refine LO (α:=Nat) (fun i=>[(8,.d (J (i:Int)))]) (fun _=>[]) (fun i=>i≤L.length∧((∀ c∈L,Qh qF c.Box)↔∀ c∈L.drop i,Qh qF c.Box)) (fun i=>L.length-i) 0 ⟨by omega,by simp⟩ ?_;intro i ⟨hi,hp⟩ ih;by_cases ak:i<L.length
    ·obtain⟨x,hx⟩:=Qa ak;rw[J4 hx (fun c=>Qh qF c.Box)] at hp;have hw:=ZA (k:=i) (by omega);have am:=ad x (Kg hx);obtain⟨q',t',⟨X,Y,W,H⟩⟩:=x;have em:=Zk0 qL kW kH qF X Y W H al am (by omega);simp +contextual -implicitDefEqProofs (maxSteps:=10^7) only[go_sem,seval,↓gZ,hx,ak,hw,em];refine⟨fun h=>Zbx (fun h'=>h ((hp.1 (aa.1 h')).1)),fun h=>ih (i+1) _ ⟨by omega,?_⟩ (by omega) ?_⟩
     ·rw[hp];exact⟨fun h'=>h'.2,fun h'=>⟨h,h'⟩⟩
     ·simp +contextual -implicitDefEqProofs (maxSteps:=10^7) only[go_sem,seval,↓gZ]
    ·have:i=L.length:=by omega
     subst this;simp +contextual -implicitDefEqProofs (maxSteps:=10^7) only[go_sem,seval,↓gZ];exact Zow (aa.2 (hp.2 (by simp)))
   ·subst hw;have hn:¬YU ⟨qL,kW,qH,qF⟩ (ZI.mk kW kH kP) p:=fun h=>hh h.2.2.1;obtain⟨o,a,n,t,ks⟩:=p;rw[hv] at ev;rw[Ze.enc_mk] at ev ⊢;refine cE ?_;simp +contextual -implicitDefEqProofs (maxSteps:=10^7) only[go_sem,seval,↓gZ,YQ,ev,hh,hn]
  ·have hn:¬YU (Zo.mk qL qW qH qF) (ZI.mk kW kH kP) p:=fun h=>hw h.2.1;obtain⟨o,a,n,t,ks⟩:=p;rw[hv] at ev;rw[Ze.enc_mk] at ev ⊢;refine cE ?_;simp +contextual -implicitDefEqProofs (maxSteps:=10^7) only[go_sem,seval,↓gZ,YQ,ev,hw,hn]
 ·have an:=(LA _).mp hv;have hn:¬YU (Zo.mk qL qW qH qF) (ZI.mk kW kH kP) p:=fun h=>hv h.1;rw[an] at ev;obtain⟨o,a,n,t,ks⟩:=p;rw[Ze.enc_mk] at ev ⊢;refine cE ?_;simp +contextual -implicitDefEqProofs (maxSteps:=10^7) only[go_sem,seval,↓gZ,YQ,ev,hn]
theorem Zmu (qL qW qH:Int) (qF:List Box) (bX bY bW bH:Int) (aa:Int) (hq:VPc (Zo.mk qL qW qH qF)) (hb:VB (Box.mk bX bY bW bH)) (hi:YY (Box.mk bX bY bW bH) ⟨0,0,qW,qH⟩) (h1:1≤aa) (h2:aa≤9999) :
  Zi Xs Ms U5 [(.d (.agg [J qL,J qW,J qH,.sl (qF.map Box.enc)])),(.d (.agg [J bX,J bY,J bW,J bH])),(.d (J aa))] []=some (.agg [(.d (J aa)),(.d (J bW)),(.d (J bH)),.own 0],[.row 4 ((qF.filterMap (Xx (Box.mk bX bY bW bH))).map Box.enc) true false]):=by
 have af:=hq.1;simp only at af;have n1:¬aa<1:=by omega
 have n2:¬9999<aa:=by omega
 have ag:VB ⟨0,0,qW,qH⟩:=by simp only[VB];omega
 refine cE ?_;simp +contextual -implicitDefEqProofs (maxSteps:=10^7) only[go_sem,seval,↓gZ,ZdG,Xg,WJ,ZcX,hq,hb,hi,ag,n1,n2];refine LO (α:=Nat) (fun i=>[(40,.d (J (i:Int)))]) (fun i=>[(3,.row 4 (((qF.take i).filterMap (Xx (Box.mk bX bY bW bH))).map Box.enc) true false)]) (fun i=>i≤qF.length) (fun i=>qF.length-i) 0 (by omega) ?_;intro i hk ih;by_cases ab:i<qF.length
 ·obtain⟨x,hx⟩:=Qa ab;have hw:=ZA (k:=i) (by omega);have hm:=Jm (f:=Xx (Box.mk bX bY bW bH)) hx;have ai:((qF.take i).filterMap (Xx (Box.mk bX bY bW bH))).length≤i:=KI (Kr _ _) (by simp;omega);have hr:(((qF.take i).filterMap (Xx (Box.mk bX bY bW bH))).length+1)*32≤140737488355328∧((qF.take i).filterMap (Xx (Box.mk bX bY bW bH))).length≤140737488355327:=by omega
  have ae:=(hq.2 x (Kg hx)).1;obtain⟨X,Y,W,H⟩:=x;have ad:=ae;have ah:=hb;simp only[VB] at ad ah;simp only[Xx] at hm;by_cases ho:YT ⟨X,Y,W,H⟩ (Box.mk bX bY bW bH)
  ·rw[Kt ho] at hm;have w1:=wi (max X bX-bX) (by omega) (by omega);have w2:=wi (max Y bY-bY) (by omega) (by omega);simp +contextual -implicitDefEqProofs (maxSteps:=10^7) only[go_sem,seval,↓gZ,hx,ab,hw,ZaR X Y W H bX bY bW bH ae hb ho,hr,Zbz,w1,w2];refine ih (i+1) _ (by omega) (by omega) ?_;simp +contextual -implicitDefEqProofs (maxSteps:=10^7) only[go_sem,seval,↓gZ,hm,ZkF,Zbz]
   first | rfl | (simp;done) | (simp;rfl)
  ·rw[Ko ho] at hm;simp +contextual -implicitDefEqProofs (maxSteps:=10^7) only[go_sem,seval,↓gZ,hx,ab,hw,Zb4 X Y W H bX bY bW bH (fun hh=>ho hh.2.2),hr];refine ih (i+1) _ (by omega) (by omega) ?_;simp +contextual -implicitDefEqProofs (maxSteps:=10^7) only[go_sem,seval,↓gZ,hm]
   first | rfl | (simp;done) | (simp;rfl)
 ·have:i=qF.length:=by omega
  subst this;simp +contextual -implicitDefEqProofs (maxSteps:=10^7) only[go_sem,seval,↓gZ];try simp
theorem Zmv (qL qW qH:Int) (qF:List Box) (bX bY bW bH:Int) (aa:Int) (hf:∀ f∈qF,VB f) (hl:qF.length≤6) (hb:VB (Box.mk bX bY bW bH)) :
  Zi Xs Ms U4 [(.d (.agg [J qL,J qW,J qH,.sl (qF.map Box.enc)])),(.d (.agg [J bX,J bY,J bW,J bH])),(.d (J aa))] []=some (.agg [(.d (J aa)),(.d (J bW)),(.d (J bH)),.own 0],[.row 4 ((qF.filterMap (Xx (Box.mk bX bY bW bH))).map Box.enc) true false]):=by
 refine cE ?_;simp +contextual -implicitDefEqProofs (maxSteps:=10^7) only[go_sem,seval,↓gZ,ZdF];refine LO (α:=Nat) (fun i=>[(8,.d (J (i:Int)))]) (fun i=>[(4,.row 4 (((qF.take i).filterMap (Xx (Box.mk bX bY bW bH))).map Box.enc) true false)]) (fun i=>i≤qF.length) (fun i=>qF.length-i) 0 (by omega) ?_;intro i hk ih;by_cases ab:i<qF.length
 ·obtain⟨x,hx⟩:=Qa ab;have hw:=ZA (k:=i) (by omega);have hm:=Jm (f:=Xx (Box.mk bX bY bW bH)) hx;have ag:((qF.take i).filterMap (Xx (Box.mk bX bY bW bH))).length≤i:=KI (Kr _ _) (by simp;omega);have hr:(((qF.take i).filterMap (Xx (Box.mk bX bY bW bH))).length+1)*32≤140737488355328∧((qF.take i).filterMap (Xx (Box.mk bX bY bW bH))).length≤140737488355327:=by omega
  have ad:=hf x (Kg hx);obtain⟨X,Y,W,H⟩:=x;have ae:=ad;have af:=hb;simp only[VB] at ae af;simp only[Xx] at hm;by_cases ho:YT ⟨X,Y,W,H⟩ (Box.mk bX bY bW bH)
  ·rw[Kt ho] at hm;have w1:=wi (max X bX-bX) (by omega) (by omega);have w2:=wi (max Y bY-bY) (by omega) (by omega);simp +contextual -implicitDefEqProofs (maxSteps:=10^7) only[go_sem,seval,↓gZ,hx,ab,hw,Zes X Y W H bX bY bW bH ad hb ho,hr,Zbz,w1,w2];refine ih (i+1) _ (by omega) (by omega) ?_;simp +contextual -implicitDefEqProofs (maxSteps:=10^7) only[go_sem,seval,↓gZ,hm,ZkF,Zbz]
   first | rfl | (simp;done) | (simp;rfl)
  ·rw[Ko ho] at hm;simp +contextual -implicitDefEqProofs (maxSteps:=10^7) only[go_sem,seval,↓gZ,hx,ab,hw,ZfY X Y W H bX bY bW bH ad hb ho,hr];refine ih (i+1) _ (by omega) (by omega) ?_;simp +contextual -implicitDefEqProofs (maxSteps:=10^7) only[go_sem,seval,↓gZ,hm]
   first | rfl | (simp;done) | (simp;rfl)
 ·have:i=qF.length:=by omega
  subst this;simp +contextual -implicitDefEqProofs (maxSteps:=10^7) only[go_sem,seval,↓gZ];try simp
theorem Zbg (kW kH:Int) (kP:List Pane) (p:Ze) (Zg:Int):Zi Xs Ms YF [(.d (.agg [J kW,J kH,.sl (kP.map Pane.enc)])),.d p.enc,(.d (J Zg))] []=some (.own 0,[.row 4 ((Q4 (ZI.mk kW kH kP) p Zg).map Box.enc) true false]):=by
 have hv:=ZiD kW kH kP p;have hn:((Q0 (ZI.mk kW kH kP) p).filterMap Xw).length≤255:=KI (Kr _ _) (UV (ZI.mk kW kH kP) p);unfold Q4;generalize (Q0 (ZI.mk kW kH kP) p).filterMap Xw=ps at hv hn ⊢;obtain⟨o,a,q,t,ks⟩:=p;rw[Ze.enc_mk] at hv ⊢;refine cE ?_;simp +contextual -implicitDefEqProofs (maxSteps:=10^7) only[go_sem,seval,↓gZ,U8,hv];refine LO (α:=Nat) (fun k=>[(14,.d (J (k:Int)))]) (fun k=>[(1,.row 4 (((ps.take k).filterMap (YV Zg)).map Box.enc) true false)]) (fun k=>k≤ps.length) (fun k=>ps.length-k) 0 (by omega) ?_;intro k hk ih;by_cases aa:k<ps.length
 ·obtain⟨x,hx⟩:=Qa aa;have hw:=ZA (k:=k) (by omega);have hm:=Jm (f:=YV Zg) hx;have ab:((ps.take k).filterMap (YV Zg)).length≤k:=KI (Kr _ _) (by simp;omega);have hr:(((ps.take k).filterMap (YV Zg)).length+1)*32≤140737488355328∧((ps.take k).filterMap (YV Zg)).length≤140737488355327:=by omega
  obtain⟨X,Y,W,H⟩:=x;simp only[YV] at hm;by_cases ho:Zg≤W∧Zg≤H
  ·rw[Kt ho] at hm;simp +contextual -implicitDefEqProofs (maxSteps:=10^7) only[go_sem,seval,↓gZ,hx,aa,hw,ho,hr];refine ih (k+1) _ (by omega) (by omega) ?_;simp +contextual -implicitDefEqProofs (maxSteps:=10^7) only[go_sem,seval,↓gZ,hm]
   first | rfl | (simp;done) | (simp;rfl)
  ·rw[Ko ho] at hm;simp +contextual -implicitDefEqProofs (maxSteps:=10^7) only[go_sem,seval,↓gZ,hx,aa,hw,ho,hr];refine ih (k+1) _ (by omega) (by omega) ?_;simp +contextual -implicitDefEqProofs (maxSteps:=10^7) only[go_sem,seval,↓gZ,hm]
   first | rfl | (simp;done) | (simp;rfl)
 ·have:k=ps.length:=by omega
  subst this;simp +contextual -implicitDefEqProofs (maxSteps:=10^7) only[go_sem,seval,↓gZ];simp
theorem Zev (qL qW qH:Int) (qF:List Box) (kW kH:Int) (kP:List Pane) (p:Ze) (Zg aa:Int) (hq:VPc (Zo.mk qL qW qH qF)) (hv:VS (ZI.mk kW kH kP) p=true) (hW:kW=qW) (hH:kH=qH) (h1:1≤aa) (h2:aa≤10000)
  (hk:(Q4 (ZI.mk kW kH kP) p Zg).length≤10000-aa):Zi Xs Ms Xh [(.d (.agg [J qL,J qW,J qH,.sl (qF.map Box.enc)])),(.d (.agg [J kW,J kH,.sl (kP.map Pane.enc)])),.d p.enc,(.d (J Zg)),(.d (J aa))] [] =
  some (.tup [.own 0,(.d (.bool true))],[.tree 4 4 ((Wt (Zo.mk qL qW qH qF) aa (Q4 (ZI.mk kW kH kP) p Zg)).map Zo.enc) none]):=by
 have ek:=Zbg kW kH kP p Zg;have ab:∀ b∈Q4 (ZI.mk kW kH kP) p Zg,VB b∧YY b ⟨0,0,qW,qH⟩:=by
  intro b hb;have:=Zl4 (Zg:=Zg) hv b hb;rw[← hW,← hH];exact this
 have hn:=ZeT (ZI.mk kW kH kP) p Zg;generalize Q4 (ZI.mk kW kH kP) p Zg=L at ek ab hn hk ⊢;clear hv;have w0:=wi (10000-aa) (by omega) (by omega);have n0:¬(10000-aa<(L.length:Int)):=by omega
 obtain⟨o,a,n,t,ks⟩:=p;rw[Ze.enc_mk] at ek ⊢;refine cE ?_;simp +contextual -implicitDefEqProofs (maxSteps:=10^7) only[go_sem,seval,↓gZ,Vk,ek,w0,n0];refine LO (α:=Nat) (fun i=>[(27,.d (J (i:Int)))]) (fun i=>[(1,.tree 4 4 ((Wt (Zo.mk qL qW qH qF) aa (L.take i)).map Zo.enc) none)]) (fun i=>i≤L.length) (fun i=>L.length-i) 0 (by omega) ?_;intro i hi ih;by_cases ad:i<L.length
 ·obtain⟨x,hx⟩:=Qa ad;have hw:=ZA (k:=i) (by omega);have hm:=ZpA (Zo.mk qL qW qH qF) aa hx;have hl:(Wt (Zo.mk qL qW qH qF) aa (L.take i)).length=i:=by rw[ZbL];simp;omega
  have hr:(i+1)*48≤140737488355328∧i≤140737488355327:=by omega
  have ae:=ab x (Kg hx);have w1:=wi (aa+(i:Int)) (by omega) (by omega);obtain⟨X,Y,W,H⟩:=x;have hc:=Zmu qL qW qH qF X Y W H (aa+(i:Int)) hq ae.1 ae.2 (by omega) (by omega);have z6:=aF (l:=(Ziu (Zo.mk qL qW qH qF) ⟨X,Y,W,H⟩ (aa+(i:Int))).Flaws) (g:=Box.enc) fun _=>rfl;simp only[Ziu] at z6;simp +contextual -implicitDefEqProofs (maxSteps:=10^7) only[go_sem,seval,↓gZ,hx,ad,hw,w1,hc,hl,hr,z6];refine ih (i+1) _ (by omega) (by omega) ?_;simp +contextual -implicitDefEqProofs (maxSteps:=10^7) only[go_sem,seval,↓gZ,hm,Ziu]
  first | rfl | (simp;done) | (simp;rfl)
 ·have:i=L.length:=by omega
  subst this;simp +contextual -implicitDefEqProofs (maxSteps:=10^7) only[go_sem,seval,↓gZ];try simp
theorem Zff (qL qW qH:Int) (qF:List Box) (kW kH:Int) (kP:List Pane) (p:Ze) (Zg aa:Int) (h1:1≤aa) (h2:aa≤10000)
  (hk:¬(Q4 (ZI.mk kW kH kP) p Zg).length≤10000-aa):Zi Xs Ms Xh [(.d (.agg [J qL,J qW,J qH,.sl (qF.map Box.enc)])),(.d (.agg [J kW,J kH,.sl (kP.map Pane.enc)])),.d p.enc,(.d (J Zg)),(.d (J aa))] [] =
  some (.tup [.own 0,(.d (.bool false))],[.row 4 [] true false]):=by
 have ek:=Zbg kW kH kP p Zg;generalize Q4 (ZI.mk kW kH kP) p Zg=L at ek hk ⊢;have w0:=wi (10000-aa) (by omega) (by omega);have n0:10000-aa<(L.length:Int):=by omega
 obtain⟨o,a,n,t,ks⟩:=p;rw[Ze.enc_mk] at ek ⊢;refine cE ?_;simp +contextual -implicitDefEqProofs (maxSteps:=10^7) only[go_sem,seval,↓gZ,Vk,ek,w0,n0]
def Tr4 (l:List Zo) (o:Zj):Prop:=o=.tree 4 4 (l.map Zo.enc) none∨l=[]∧o=.row 4 [] true false
theorem Zf7 (qL qW qH:Int) (qF:List Box) (kW kH:Int) (kP:List Pane) (p:Ze) (Zg aa:Int):∃ o,Tr4 (ZeU (Zo.mk qL qW qH qF) (ZI.mk kW kH kP) p Zg aa) o∧Zi Xs Ms XE [(.d (.agg [J qL,J qW,J qH,.sl (qF.map Box.enc)])),(.d (.agg [J kW,J kH,.sl (kP.map Pane.enc)])),.d p.enc,(.d (J Zg)),(.d (J aa))] [] =
  some (.own 0,[o]):=by
 have eg:=ZiG qL qW qH qF kW kH kP p;unfold ZeU;by_cases hg:VPc (Zo.mk qL qW qH qF)∧YU (Zo.mk qL qW qH qF) (ZI.mk kW kH kP) p
 ·have hd:decide (VPc (Zo.mk qL qW qH qF)∧YU (Zo.mk qL qW qH qF) (ZI.mk kW kH kP) p)=true:=decide_eq_true hg;rw[hd] at eg;by_cases hc:1≤Zg∧Zg≤200∧1≤aa∧aa≤9999
  ·have hW:kW=qW:=hg.2.2.1;have hH:kH=qH:=hg.2.2.2.1;have c1:¬Zg<1:=by omega
   have c2:¬200<Zg:=by omega
   have c3:¬aa<1:=by omega
   have c4:¬9999<aa:=by omega
   by_cases hk:((Q4 (ZI.mk kW kH kP) p Zg).length:Int)≤10000-aa
   ·have er:=Zev qL qW qH qF kW kH kP p Zg aa hg.1 hg.2.1 hW hH hc.2.2.1 (by omega) hk;rw[Kt ⟨hg,hc.1,hc.2.1,hc.2.2.1,hc.2.2.2,hk⟩];clear hg hd hk hW hH;generalize Wt (Zo.mk qL qW qH qF) aa (Q4 (ZI.mk kW kH kP) p Zg)=R at er ⊢;refine⟨_,.inl rfl,?_⟩;obtain⟨o,a,n,t,ks⟩:=p;rw[Ze.enc_mk] at eg er ⊢;refine cE ?_;simp +contextual -implicitDefEqProofs (maxSteps:=10^7) only[go_sem,seval,↓gZ,XH,eg,er,c1,c2,c3,c4]
   ·have er:=Zff qL qW qH qF kW kH kP p Zg aa hc.2.2.1 (by omega) hk;rw[Ko (fun h=>hk h.2.2.2.2.2)];refine⟨_,.inr ⟨rfl,rfl⟩,?_⟩;clear hg hd hk hW hH;obtain⟨o,a,n,t,ks⟩:=p;rw[Ze.enc_mk] at eg er ⊢;refine cE ?_;simp +contextual -implicitDefEqProofs (maxSteps:=10^7) only[go_sem,seval,↓gZ,XH,eg,er,c1,c2,c3,c4];try rfl
  ·rw[Ko (fun h=>hc ⟨h.2.1,h.2.2.1,h.2.2.2.1,h.2.2.2.2.1⟩)];refine⟨_,.inr ⟨rfl,rfl⟩,?_⟩;clear hg hd;have ab : ((Zg<1∨200<Zg)∨aa<1)∨9999<aa:=by omega
   obtain⟨o,a,n,t,ks⟩:=p;rw[Ze.enc_mk] at eg ⊢;refine cE ?_;simp +contextual -implicitDefEqProofs (maxSteps:=10^7) only[go_sem,seval,↓gZ,XH,eg,ab];try rfl
 ·have hd:decide (VPc (Zo.mk qL qW qH qF)∧YU (Zo.mk qL qW qH qF) (ZI.mk kW kH kP) p)=false:=decide_eq_false hg;rw[hd] at eg;rw[Ko (fun h=>hg h.1)];refine⟨_,.inr ⟨rfl,rfl⟩,?_⟩;clear hg hd;obtain⟨o,a,n,t,ks⟩:=p;rw[Ze.enc_mk] at eg ⊢;refine cE ?_;simp +contextual -implicitDefEqProofs (maxSteps:=10^7) only[go_sem,seval,↓gZ,XH,eg];try rfl
theorem Zb6 (bX bY bW bH:Int) (Zg:Int):Zi Xs Ms Vc [(.d (.agg [J bX,J bY,J bW,J bH])),(.d (J Zg))] []=some ((.d (.bool (decide (Zg≤bW∧Zg≤bH)))),[]):=by
 refine cE ?_;simp +contextual -implicitDefEqProofs (maxSteps:=10^7) only[go_sem,seval,↓gZ,JM]
theorem ZiI (qL qW qH:Int) (qF:List Box) (kW kH:Int) (kP:List Pane) (p:Ze) (Zg aa:Int) (hq:VPc (Zo.mk qL qW qH qF)) (hv:VS (ZI.mk kW kH kP) p=true) (h1:1≤aa) (h2:aa≤10000) :
  Zi Xs Ms V3 [(.d (.agg [J qL,J qW,J qH,.sl (qF.map Box.enc)])),(.d (.agg [J kW,J kH,.sl (kP.map Pane.enc)])),.d p.enc,(.d (J Zg)),(.d (J aa))] [] =
  some (.own 0,[.row 4 ((Wt (Zo.mk qL qW qH qF) aa (Q4 (ZI.mk kW kH kP) p Zg)).map Zo.enc) true false]):=by
 obtain⟨b,hb,ai,aj,al,af,ak⟩:=Ws hv;have ag:=aj;simp only[VW] at ag;have ep:=ZiF kW kH kP p b ai (by simp only[inB];omega) af (by omega);have ad:=ZpB hv;have ae:((Q0 (ZI.mk kW kH kP) p).filterMap Xw).length≤255:=KI (Kr _ _) (UV _ _);unfold Q4;rw[ak,J3] at ad ae ⊢;have am:∀ f∈qF,VB f:=fun f hf=>(hq.2 f hf).1;have an:qF.length≤6:=hq.1.2.2.2.2.2.2;have ab:∀ i,((wst b 0 0 kW kH).take i).length≤255:=fun i=>KI (List.length_take_le' _ _) ae;generalize wst b 0 0 kW kH=L at ep ad ae ab ⊢;clear ak ai hb hv af aj ag;obtain⟨o,a,n,t,ks⟩:=p;rw[Ze.enc_mk] at ep ⊢;refine cE ?_
 simp +contextual -implicitDefEqProofs (maxSteps:=10^7) only[go_sem,seval,↓gZ,Za3,ep];refine LO (α:=Nat) (fun i=>[(13,.d (J (i:Int)))]) (fun i=>[(1,.row 4 ((Wt (Zo.mk qL qW qH qF) aa ((L.take i).filterMap (YV Zg))).map Zo.enc) true false)]) (fun i=>i≤L.length) (fun i=>L.length-i) 0 (by omega) ?_;intro i hi ih;by_cases ah:i<L.length
 ·obtain⟨x,hx⟩:=Qa ah;have hw:=ZA (k:=i) (by omega);have hm:=Jm (f:=YV Zg) hx;have aq:((L.take i).filterMap (YV Zg)).length≤255:=KI (Kr _ _) (ab i);have hl:=ZbL (Zo.mk qL qW qH qF) aa ((L.take i).filterMap (YV Zg));have hr:(((L.take i).filterMap (YV Zg)).length+1)*48≤140737488355328∧((L.take i).filterMap (YV Zg)).length≤140737488355327:=by omega
  have w1:=wi (aa+(((L.take i).filterMap (YV Zg)).length:Int)) (by omega) (by omega);have ao:=ad x (Kg hx);have ap:=fun y=>ZbK (Zo.mk qL qW qH qF) aa ((L.take i).filterMap (YV Zg)) [y];obtain⟨X,Y,W,H⟩:=x;simp only[YV] at hm;have hc:=Zmv qL qW qH qF X Y W H (aa+(((L.take i).filterMap (YV Zg)).length:Int)) am an ao;by_cases ho:Zg≤W∧Zg≤H
  ·rw[Kt ho] at hm;simp +contextual -implicitDefEqProofs (maxSteps:=10^7) only[go_sem,seval,↓gZ,hx,ah,hw,Zb6,ho,hl,w1,hc,hr];refine ih (i+1) _ (by omega) (by omega) ?_;simp +contextual -implicitDefEqProofs (maxSteps:=10^7) only[go_sem,seval,↓gZ,hm,Option.toList,ap,Wt,Ziu]
   first | rfl | (simp;done) | (simp;rfl)
  ·rw[Ko ho] at hm;simp +contextual -implicitDefEqProofs (maxSteps:=10^7) only[go_sem,seval,↓gZ,hx,ah,hw,Zb6,ho];refine ih (i+1) _ (by omega) (by omega) ?_;simp +contextual -implicitDefEqProofs (maxSteps:=10^7) only[go_sem,seval,↓gZ,hm]
   first | rfl | (simp;done) | (simp;rfl)
 ·have:i=L.length:=by omega
  subst this;simp +contextual -implicitDefEqProofs (maxSteps:=10^7) only[go_sem,seval,↓gZ];try simp
theorem Zf8 (qL qW qH:Int) (qF:List Box) (kW kH:Int) (kP:List Pane) (p:Ze) (Zg aa:Int) (hl:kP.length<4611686018427387904) (hF:qF.length<4611686018427387904) (ae:R64 qW) (af:R64 qH):Zi Xs Ms YD [(.d (.agg [J qL,J qW,J qH,.sl (qF.map Box.enc)])),(.d (.agg [J kW,J kH,.sl (kP.map Pane.enc)])),.d p.enc,(.d (J Zg)),(.d (J aa))] [] =
  some (.own 0,[.row 4 ((ZeU (Zo.mk qL qW qH qF) (ZI.mk kW kH kP) p Zg aa).map Zo.enc) true false]):=by
 have ab:=Zf6 qL qW qH qF hF ae af;unfold ZeU;by_cases hq:VPc (Zo.mk qL qW qH qF)
 ·have eg:=ZiH qL qW qH qF kW kH kP p (fun f hf=>(hq.2 f hf).1) hq.1.2.2.2.2.2.2 hl;by_cases hg:YU (Zo.mk qL qW qH qF) (ZI.mk kW kH kP) p
  ·have hd:decide (YU (Zo.mk qL qW qH qF) (ZI.mk kW kH kP) p)=true:=decide_eq_true hg;rw[hd] at eg;by_cases hc:1≤Zg∧Zg≤200∧1≤aa∧aa≤9999
   ·have er:=ZiI qL qW qH qF kW kH kP p Zg aa hq hg.1 hc.2.2.1 (by omega);have hn:=ZeT (ZI.mk kW kH kP) p Zg;have ad:=ZbL (Zo.mk qL qW qH qF) aa (Q4 (ZI.mk kW kH kP) p Zg);have w1:=wi (aa+((Q4 (ZI.mk kW kH kP) p Zg).length:Int)) (by omega) (by omega);have w2:=wi (aa+((Q4 (ZI.mk kW kH kP) p Zg).length:Int)-1) (by omega) (by omega);have c1:1≤Zg∧Zg≤200:=⟨hc.1,hc.2.1⟩
    have c2:1≤aa∧aa≤9999:=hc.2.2;by_cases hk:((Q4 (ZI.mk kW kH kP) p Zg).length:Int)≤10000-aa
    ·have n1:¬9999<aa+((Q4 (ZI.mk kW kH kP) p Zg).length:Int)-1:=by omega
     rw[Kt ⟨⟨hq,hg⟩,hc.1,hc.2.1,hc.2.2.1,hc.2.2.2,hk⟩];clear hg hd hk;generalize Wt (Zo.mk qL qW qH qF) aa (Q4 (ZI.mk kW kH kP) p Zg)=R at er ad ⊢;generalize (Q4 (ZI.mk kW kH kP) p Zg).length=N at *;obtain⟨o,a,n,t,ks⟩:=p;rw[Ze.enc_mk] at eg er ⊢;refine cE ?_;simp +contextual -implicitDefEqProofs (maxSteps:=10^7) only[go_sem,seval,↓gZ,Xc,ab,hq,eg,er,Z8,c1,c2,ad,w1,w2,n1]
    ·have n1:9999<aa+((Q4 (ZI.mk kW kH kP) p Zg).length:Int)-1:=by omega
     rw[Ko (fun h=>hk h.2.2.2.2.2)];clear hg hd hk;generalize Wt (Zo.mk qL qW qH qF) aa (Q4 (ZI.mk kW kH kP) p Zg)=R at er ad ⊢;generalize (Q4 (ZI.mk kW kH kP) p Zg).length=N at *;obtain⟨o,a,n,t,ks⟩:=p;rw[Ze.enc_mk] at eg er ⊢;refine cE ?_;simp +contextual -implicitDefEqProofs (maxSteps:=10^7) only[go_sem,seval,↓gZ,Xc,ab,hq,eg,er,Z8,c1,c2,ad,w1,w2,n1];try rfl
   ·rw[Ko (fun h=>hc ⟨h.2.1,h.2.2.1,h.2.2.2.1,h.2.2.2.2.1⟩)];clear hg hd;have ag : ¬(1≤Zg∧Zg≤200)∨¬(1≤aa∧aa≤9999):=by omega
    obtain⟨o,a,n,t,ks⟩:=p;rw[Ze.enc_mk] at eg ⊢;refine cE ?_;simp +contextual -implicitDefEqProofs (maxSteps:=10^7) only[go_sem,seval,↓gZ,Xc,ab,hq,eg,Z8,ag];try rfl
  ·have hd:decide (YU (Zo.mk qL qW qH qF) (ZI.mk kW kH kP) p)=false:=decide_eq_false hg;rw[hd] at eg;rw[Ko (fun h=>hg h.1.2)];clear hg hd;obtain⟨o,a,n,t,ks⟩:=p;rw[Ze.enc_mk] at eg ⊢;refine cE ?_;simp +contextual -implicitDefEqProofs (maxSteps:=10^7) only[go_sem,seval,↓gZ,Xc,ab,hq,eg];try rfl
 ·rw[Ko (fun h=>hq h.1.1)];obtain⟨o,a,n,t,ks⟩:=p;rw[Ze.enc_mk];refine cE ?_;simp +contextual -implicitDefEqProofs (maxSteps:=10^7) only[go_sem,seval,↓gZ,Xc,ab,hq];try rfl
end Go.Proofs.Ytnachaiejoflhaa
