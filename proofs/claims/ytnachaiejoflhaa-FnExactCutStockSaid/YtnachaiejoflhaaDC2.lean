/- Own text. -/
import Derived.Test.YtnachaiejoflhaaDCode
import Derived.Test.YtnachaiejoflhaaAbsParts
import Derived.Test.YtnachaiejoflhaaDC1
import Derived.Test.YtnachaiejoflhaaAbsOkD
namespace Go.Proofs.Ytnachaiejoflhaa
open Go Go.Abs Go.Abs.E Go.Abs.L
open Nat (reduceMul reduceSub reduceLeDiff reduceEqDiff)
open Int (reduceLE reduceEq reduceToNat reduceNeg)
set_option linter.unusedSimpArgs false
set_option linter.unusedVariables false
set_option maxRecDepth 20000
set_option maxHeartbeats 4000000
theorem QT (ps:List Pane):∀ (b:BT) (gX gY gW gH:Int) (xs:List D) (ex:Bool),inB (Box.mk gX gY gW gH)→Xh ps b gW gH=true→xs.length+b.cnt≤1000 →
  Zh Xs Ms ZY [.own 0,.d b.plan.enc,(.d (.agg [J gX,J gY,J gW,J gH]))] [.row 9 xs ex false]=some (.own 1,[.gone,.row 9 (xs++(pt b gX gY gW gH).map Part.enc) false false])
 | .waste,gX,gY,gW,gH,xs,ex,hg,hf,hl=>by
  simp only[BT.cnt] at hl;have h1:(xs.length+1)*88≤140737488355328∧xs.length≤140737488355327:=by omega
  simp only[BT.plan,Ze.enc_mk,pt];refine cE ?_;simp +contextual -implicitDefEqProofs (maxSteps:=10^7) only[go_sem,seval,↓gZ,QQ,YI,h1]
 | .pane i t,gX,gY,gW,gH,xs,ex,hg,hf,hl=>by
  simp only[BT.cnt] at hl;have h1:(xs.length+1)*88≤140737488355328∧xs.length≤140737488355327:=by omega
  simp only[BT.plan,Ze.enc_mk,pt];refine cE ?_;simp +contextual -implicitDefEqProofs (maxSteps:=10^7) only[go_sem,seval,↓gZ,QQ,YI,h1]
 | .cut d a l r,gX,gY,gW,gH,xs,ex,hg,hf,hl=>by
  simp only[BT.cnt] at hl;have h1:(xs.length+1)*88≤140737488355328∧xs.length≤140737488355327:=by omega
  simp only[inB] at hg;simp only[BT.plan,Ze.enc_mk];cases d with
  | true=>
   simp only[Xh,Kb,Ko,Kj] at hf;have e0:=Ut 2 a 0 false [l.plan.enc,r.plan.enc] gX gY gW gH rfl ⟨by omega,by omega⟩ ⟨by omega,by omega⟩;have e1:=QT ps l gX gY a gH (xs++[.agg [J 2,J a,J 0,.bool false,.sl [l.plan.enc,r.plan.enc],J gX,J gY,J gW,J gH]]) false (by simp only[inB];omega) hf.1.2 (by simp only[Ks,Kp,KY];omega);have e2:=QT ps r (gX+a) gY (gW-a) gH (xs++[.agg [J 2,J a,J 0,.bool false,.sl [l.plan.enc,r.plan.enc],J gX,J gY,J gW,J gH]]++(pt l gX gY a gH).map Part.enc) false (by simp only[inB];omega) hf.2 (by simp only[Ks,Kp,KY,K5,Zcg];omega)
   refine cE ?_;simp +contextual -implicitDefEqProofs (maxSteps:=10^7) only[go_sem,seval,↓gZ,QQ,YI,h1,U6,e0,e1,e2];simp[pt,U6,BT.plan,Part.enc_mk]
  | false=>
   simp only[Xh,Kb,Ko,Ka,Ki] at hf;have e0:=Wf 3 a 0 false [l.plan.enc,r.plan.enc] gX gY gW gH (by decide) ⟨by omega,by omega⟩ ⟨by omega,by omega⟩;have e1:=QT ps l gX gY gW a (xs++[.agg [J 3,J a,J 0,.bool false,.sl [l.plan.enc,r.plan.enc],J gX,J gY,J gW,J gH]]) false (by simp only[inB];omega) hf.1.2 (by simp only[Ks,Kp,KY];omega);have e2:=QT ps r gX (gY+a) gW (gH-a) (xs++[.agg [J 3,J a,J 0,.bool false,.sl [l.plan.enc,r.plan.enc],J gX,J gY,J gW,J gH]]++(pt l gX gY gW a).map Part.enc) false (by simp only[inB];omega) hf.2 (by simp only[Ks,Kp,KY,K5,Zcg];omega)
   refine cE ?_;simp +contextual -implicitDefEqProofs (maxSteps:=10^7) only[go_sem,seval,↓gZ,QQ,YI,h1,U6,e0,e1,e2];simp[pt,U6,BT.plan,Part.enc_mk]
theorem ZiN (ps:List Pane):∀ (b:BT) (gX gY gW gH:Int),inB (Box.mk gX gY gW gH)→Xh ps b gW gH=true→b.cnt≤1000 →
  Zh Xs Ms ZY [.nil,.d b.plan.enc,(.d (.agg [J gX,J gY,J gW,J gH]))] []=some (.own 0,[.row 9 ((pt b gX gY gW gH).map Part.enc) false false])
 | .waste,gX,gY,gW,gH,hg,hf,hl=>by
  have h1:1*88≤ZC∧1≤ZC:=by unfold ZC;omega
  simp only[BT.plan,Ze.enc_mk,pt];refine cE ?_;simp +contextual -implicitDefEqProofs (maxSteps:=10^7) only[go_sem,seval,↓gZ,QQ,YI,h1]
 | .pane i t,gX,gY,gW,gH,hg,hf,hl=>by
  have h1:1*88≤ZC∧1≤ZC:=by unfold ZC;omega
  simp only[BT.plan,Ze.enc_mk,pt];refine cE ?_;simp +contextual -implicitDefEqProofs (maxSteps:=10^7) only[go_sem,seval,↓gZ,QQ,YI,h1]
 | .cut d a l r,gX,gY,gW,gH,hg,hf,hl=>by
  simp only[BT.cnt] at hl;have h1:1*88≤ZC∧1≤ZC:=by unfold ZC;omega
  simp only[inB] at hg;simp only[BT.plan,Ze.enc_mk];cases d with
  | true=>
   simp only[Xh,Kb,Ko,Kj] at hf;have e0:=Ut 2 a 0 false [l.plan.enc,r.plan.enc] gX gY gW gH rfl ⟨by omega,by omega⟩ ⟨by omega,by omega⟩;have e1:=QT ps l gX gY a gH [.agg [J 2,J a,J 0,.bool false,.sl [l.plan.enc,r.plan.enc],J gX,J gY,J gW,J gH]] false (by simp only[inB];omega) hf.1.2 (by simp only[Ks,Kp,KY];omega);have e2:=QT ps r (gX+a) gY (gW-a) gH (.agg [J 2,J a,J 0,.bool false,.sl [l.plan.enc,r.plan.enc],J gX,J gY,J gW,J gH] :: (pt l gX gY a gH).map Part.enc) false (by simp only[inB];omega) hf.2 (by simp only[Ks,Kp,KY,K5,Zcg];omega)
   refine cE ?_;simp +contextual -implicitDefEqProofs (maxSteps:=10^7) only[go_sem,seval,↓gZ,QQ,YI,h1,U6,e0,e1,e2];simp[pt,U6,BT.plan,Part.enc_mk]
  | false=>
   simp only[Xh,Kb,Ko,Ka,Ki] at hf;have e0:=Wf 3 a 0 false [l.plan.enc,r.plan.enc] gX gY gW gH (by decide) ⟨by omega,by omega⟩ ⟨by omega,by omega⟩;have e1:=QT ps l gX gY gW a [.agg [J 3,J a,J 0,.bool false,.sl [l.plan.enc,r.plan.enc],J gX,J gY,J gW,J gH]] false (by simp only[inB];omega) hf.1.2 (by simp only[Ks,Kp,KY];omega);have e2:=QT ps r gX (gY+a) gW (gH-a) (.agg [J 3,J a,J 0,.bool false,.sl [l.plan.enc,r.plan.enc],J gX,J gY,J gW,J gH] :: (pt l gX gY gW a).map Part.enc) false (by simp only[inB];omega) hf.2 (by simp only[Ks,Kp,KY,K5,Zcg];omega)
   refine cE ?_;simp +contextual -implicitDefEqProofs (maxSteps:=10^7) only[go_sem,seval,↓gZ,QQ,YI,h1,U6,e0,e1,e2];simp[pt,U6,BT.plan,Part.enc_mk]
theorem Zfd (kW kH:Int) (kP:List Pane) (p:Ze):Zh Xs Ms VT [(.d (.agg [J kW,J kH,.sl (kP.map Pane.enc)])),.d p.enc] []=some (.own 0,[.row 9 ((Xi (Zz.mk kW kH kP) p).map Part.enc) (!WD (Zz.mk kW kH kP) p) false]):=by
 have hv:=ZcA kW kH kP p;unfold WD at hv;unfold Xi WD;cases hb:Xg p with
 | none=>
  rw[hb] at hv;obtain⟨o,a,q,t,ks⟩:=p;rw[Ze.enc_mk] at hv ⊢;refine cE ?_;simp +contextual -implicitDefEqProofs (maxSteps:=10^7) only[go_sem,seval,↓gZ,Um,hv];try rfl
 | some b=>
  have hp:=Zc5 hb;rw[hb] at hv;dsimp only at hv ⊢;by_cases hh:(decide (VW (Zz.mk kW kH kP))&&decide (b.cnt≤255)&&Xh kP b kW kH)=true
  ·have aa:=hh;simp only[Kb,Ko] at aa;have hw:=aa.1.1;simp only[VW] at hw;have ab:=ZiN kP b 0 0 kW kH (by simp only[inB];omega) aa.2 (by omega);rw[← hp] at ab;rw[hh] at hv ⊢;obtain⟨o,a,q,t,ks⟩:=p;rw[Ze.enc_mk] at hv ab ⊢;refine cE ?_;simp +contextual -implicitDefEqProofs (maxSteps:=10^7) only[go_sem,seval,↓gZ,Um,Zfc,hv,ab];try rfl
  ·have hf:=(LH _).mp hh;rw[hf] at hv ⊢;obtain⟨o,a,q,t,ks⟩:=p;rw[Ze.enc_mk] at hv ⊢;refine cE ?_;simp +contextual -implicitDefEqProofs (maxSteps:=10^7) only[go_sem,seval,↓gZ,Um,hv];try rfl
theorem Jl (k:Zz) (p:Ze):(Xi k p).length≤255:=by
 unfold Xi;split
 ·split
  ·rename_i h;simp only[Kb,Ko] at h;rw[Zcg];exact h.1.2
  ·simp
 ·simp
theorem Zjz (kW kH:Int) (kP:List Pane) (p:Ze):Zh Xs Ms Wt [(.d (.agg [J kW,J kH,.sl (kP.map Pane.enc)])),.d p.enc] []=some (.own 0,[.row 6 (((Xi (Zz.mk kW kH kP) p).filterMap Yo).map XZ.enc) true false]):=by
 have hv:=Zfd kW kH kP p;have hn:=Jl (Zz.mk kW kH kP) p;generalize (!WD (Zz.mk kW kH kP) p)=e at hv;generalize Xi (Zz.mk kW kH kP) p=ps at hv hn ⊢;obtain⟨o,a,q,t,ks⟩:=p;rw[Ze.enc_mk] at hv ⊢;refine cE ?_;simp +contextual -implicitDefEqProofs (maxSteps:=10^7) only[go_sem,seval,↓gZ,ZbE,hv];refine LO (α:=Nat) (fun k=>[(12,.d (J (k:Int)))]) (fun k=>[(1,.row 6 (((ps.take k).filterMap Yo).map XZ.enc) true false)]) (fun k=>k≤ps.length) (fun k=>ps.length-k) 0 (by omega) ?_;intro k hk ih;by_cases aa:k<ps.length
 ·obtain⟨x,hx⟩:=ZJ aa;have hw:=Zq (k:=k) (by omega);have hm:=JN (f:=Yo) hx;have ab:((ps.take k).filterMap Yo).length≤k:=KD (Kq _ _) (by simp;omega);have hr:(((ps.take k).filterMap Yo).length+1)*48≤140737488355328∧((ps.take k).filterMap Yo).length≤140737488355327:=by omega
  obtain⟨⟨o',a',q',t',ad⟩,⟨X,Y,W,H⟩⟩:=x;simp only[Yo] at hm;by_cases ho:o'=1
  ·rw[Kt ho] at hm;simp +contextual -implicitDefEqProofs (maxSteps:=10^7) only[go_sem,seval,↓gZ,hx,aa,hw,ho,hr];refine ih (k+1) _ (by omega) (by omega) ?_;simp +contextual -implicitDefEqProofs (maxSteps:=10^7) only[go_sem,seval,↓gZ,hm]
   first | rfl | (simp;done) | (simp;rfl)
  ·rw[Kn ho] at hm;simp +contextual -implicitDefEqProofs (maxSteps:=10^7) only[go_sem,seval,↓gZ,hx,aa,hw,ho,hr];refine ih (k+1) _ (by omega) (by omega) ?_;simp +contextual -implicitDefEqProofs (maxSteps:=10^7) only[go_sem,seval,↓gZ,hm]
   first | rfl | (simp;done) | (simp;rfl)
 ·have:k=ps.length:=by omega
  subst this;simp +contextual -implicitDefEqProofs (maxSteps:=10^7) only[go_sem,seval,↓gZ];simp
theorem ZjA (kW kH:Int) (kP:List Pane) (p:Ze):Zh Xs Ms Wu [(.d (.agg [J kW,J kH,.sl (kP.map Pane.enc)])),.d p.enc] []=some (.own 0,[.row 4 (((Xi (Zz.mk kW kH kP) p).filterMap XP).map Box.enc) true false]):=by
 have hv:=Zfd kW kH kP p;have hn:=Jl (Zz.mk kW kH kP) p;generalize (!WD (Zz.mk kW kH kP) p)=e at hv;generalize Xi (Zz.mk kW kH kP) p=ps at hv hn ⊢;obtain⟨o,a,q,t,ks⟩:=p;rw[Ze.enc_mk] at hv ⊢;refine cE ?_;simp +contextual -implicitDefEqProofs (maxSteps:=10^7) only[go_sem,seval,↓gZ,ZbH,hv];refine LO (α:=Nat) (fun k=>[(12,.d (J (k:Int)))]) (fun k=>[(1,.row 4 (((ps.take k).filterMap XP).map Box.enc) true false)]) (fun k=>k≤ps.length) (fun k=>ps.length-k) 0 (by omega) ?_;intro k hk ih;by_cases aa:k<ps.length
 ·obtain⟨x,hx⟩:=ZJ aa;have hw:=Zq (k:=k) (by omega);have hm:=JN (f:=XP) hx;have ab:((ps.take k).filterMap XP).length≤k:=KD (Kq _ _) (by simp;omega);have hr:(((ps.take k).filterMap XP).length+1)*32≤140737488355328∧((ps.take k).filterMap XP).length≤140737488355327:=by omega
  obtain⟨⟨o',a',q',t',ad⟩,⟨X,Y,W,H⟩⟩:=x;simp only[XP] at hm;by_cases ho:o'=0
  ·rw[Kt ho] at hm;simp +contextual -implicitDefEqProofs (maxSteps:=10^7) only[go_sem,seval,↓gZ,hx,aa,hw,ho,hr];refine ih (k+1) _ (by omega) (by omega) ?_;simp +contextual -implicitDefEqProofs (maxSteps:=10^7) only[go_sem,seval,↓gZ,hm]
   first | rfl | (simp;done) | (simp;rfl)
  ·rw[Kn ho] at hm;simp +contextual -implicitDefEqProofs (maxSteps:=10^7) only[go_sem,seval,↓gZ,hx,aa,hw,ho,hr];refine ih (k+1) _ (by omega) (by omega) ?_;simp +contextual -implicitDefEqProofs (maxSteps:=10^7) only[go_sem,seval,↓gZ,hm]
   first | rfl | (simp;done) | (simp;rfl)
 ·have:k=ps.length:=by omega
  subst this;simp +contextual -implicitDefEqProofs (maxSteps:=10^7) only[go_sem,seval,↓gZ];simp
theorem VS (ps:List Pane):∀ (b:BT) (gX gY gW gH:Int),inB (Box.mk gX gY gW gH)→Xh ps b gW gH=true→b.cnt≤1000 →
  Zh Xs Ms Xy [.d b.plan.enc,(.d (.agg [J gX,J gY,J gW,J gH]))] []=some (.own 0,[.row 6 ((sp b gX gY gW gH).map XZ.enc) true false])
 | .waste,gX,gY,gW,gH,hg,hf,hl=>by
  simp only[BT.plan,Ze.enc_mk,sp];refine cE ?_;simp +contextual -implicitDefEqProofs (maxSteps:=10^7) only[go_sem,seval,↓gZ,WX];try rfl
 | .pane i t,gX,gY,gW,gH,hg,hf,hl=>by
  simp only[BT.plan,Ze.enc_mk,sp];refine cE ?_;simp +contextual -implicitDefEqProofs (maxSteps:=10^7) only[go_sem,seval,↓gZ,WX];try rfl
 | .cut d a l r,gX,gY,gW,gH,hg,hf,hl=>by
  simp only[BT.cnt] at hl;simp only[inB] at hg;simp only[BT.plan,Ze.enc_mk];cases d with
  | true=>
   simp only[Xh,Kb,Ko,Kj] at hf;have w1:=wi (gX+a) (by omega) (by omega);have w2:=wi (gW-a) (by omega) (by omega);have l1:=J5 l gX gY a gH;have l2:=J5 r (gX+a) gY (gW-a) gH;have e1:=VS ps l gX gY a gH (by simp only[inB];omega) hf.1.2 (by omega);have e2:=VS ps r (gX+a) gY (gW-a) gH (by simp only[inB];omega) hf.2 (by omega);have h1:((sp l gX gY a gH).length+(sp r (gX+a) gY (gW-a) gH).length)*48≤140737488355328∧(sp l gX gY a gH).length+(sp r (gX+a) gY (gW-a) gH).length≤140737488355328:=by omega
   refine cE ?_;simp +contextual -implicitDefEqProofs (maxSteps:=10^7) only[go_sem,seval,↓gZ,WX,U6,w1,w2,h1,e1,e2];simp[sp]
  | false=>
   simp only[Xh,Kb,Ko,Ka,Ki] at hf;have w1:=wi (gY+a) (by omega) (by omega);have w2:=wi (gH-a) (by omega) (by omega);have l1:=J5 l gX gY gW a;have l2:=J5 r gX (gY+a) gW (gH-a);have e1:=VS ps l gX gY gW a (by simp only[inB];omega) hf.1.2 (by omega);have e2:=VS ps r gX (gY+a) gW (gH-a) (by simp only[inB];omega) hf.2 (by omega);have h1:((sp l gX gY gW a).length+(sp r gX (gY+a) gW (gH-a)).length)*48≤140737488355328∧(sp l gX gY gW a).length+(sp r gX (gY+a) gW (gH-a)).length≤140737488355328:=by omega
   refine cE ?_;simp +contextual -implicitDefEqProofs (maxSteps:=10^7) only[go_sem,seval,↓gZ,WX,U6,w1,w2,h1,e1,e2];simp[sp]
theorem W1 (qL qW qH:Int) (qF:List Box):Zh Xs Ms XV [(.d (.agg [J qL,J qW,J qH,.sl (qF.map Box.enc)]))] []=some (.d (.agg [J 0,J 0,J qW,J qH]),[]):=by
 refine cE ?_;simp +contextual -implicitDefEqProofs (maxSteps:=10^7) only[go_sem,seval,↓gZ,ZbG]
theorem Q2 (qL qW qH:Int) (qF:List Box):Zh Xs Ms Xd [(.d (.agg [J qL,J qW,J qH,.sl (qF.map Box.enc)]))] []=some ((.d (.bool (decide (VPc (Zf.mk qL qW qH qF))))),[]):=by
 refine cE ?_;by_cases h0:(((qL<1∨9999<qL)∨¬VB ⟨0,0,qW,qH⟩)∨(6:Int)<qF.length)
 ·simp +contextual -implicitDefEqProofs (maxSteps:=10^7) only[go_sem,seval,↓gZ,Wx,W1,X4,h0];exact Zb5 (by simp only[VPc];simp only[VB] at h0;omega)
 ·simp +contextual -implicitDefEqProofs (maxSteps:=10^7) only[go_sem,seval,↓gZ,Wx,W1,X4,h0];have hb:VB ⟨0,0,qW,qH⟩:=by
   refine Decidable.byContradiction fun h=>h0 (.inl (.inr h))
  refine LO (α:=Nat) (fun k=>[(28,.d (J (k:Int)))]) (fun _=>[]) (fun k=>k≤qF.length∧((∀ f∈qF,U9 qW qH f)↔∀ f∈qF.drop k,U9 qW qH f)) (fun k=>qF.length-k) 0 ⟨by omega,by simp⟩ ?_;intro k ⟨hk,hp⟩ ih;by_cases aa:k<qF.length
  ·obtain⟨x,hx⟩:=ZJ aa;rw[ZaB hx] at hp;have hw:=Zq (k:=k) (by simp only[VB] at hb h0;omega);obtain⟨X,Y,W,H⟩:=x;simp +contextual -implicitDefEqProofs (maxSteps:=10^7) only[go_sem,seval,↓gZ,hx,aa,hw,W1,ZdH,hb];refine⟨fun h=>Zb5 (fun hh=>h ((hp.1 hh.2).1)),fun h=>ih (k+1) _ ⟨by omega,?_⟩ (by omega) ?_⟩
   ·rw[hp];exact⟨fun hh=>hh.2,fun hh=>⟨h,hh⟩⟩
   ·simp +contextual -implicitDefEqProofs (maxSteps:=10^7) only[go_sem,seval,↓gZ]
  ·have:k=qF.length:=by omega
   subst this;simp +contextual -implicitDefEqProofs (maxSteps:=10^7) only[go_sem,seval,↓gZ];have hv:∀ f∈qF,U9 qW qH f:=hp.2 (by simp);exact ZpS (by simp only[VPc];simp only[VB] at h0;exact⟨by omega,hv⟩)
theorem ZgS (qL qW qH:Int) (qF:List Box) (hl:qF.length<4611686018427387904) (hW:R64 qW) (hH:R64 qH):Zh Xs Ms YM [(.d (.agg [J qL,J qW,J qH,.sl (qF.map Box.enc)]))] []=some ((.d (.bool (decide (VPc (Zf.mk qL qW qH qF))))),[]):=by
 refine cE ?_;simp +contextual -implicitDefEqProofs (maxSteps:=10^7) only[go_sem,seval,↓gZ,Jx];refine LO (α:=Nat) (fun k=>[(3,.d (J (k:Int)))]) (fun _=>[]) (fun k=>k≤qF.length∧((∀ f∈qF,U9 qW qH f)↔∀ f∈qF.drop k,U9 qW qH f)) (fun k=>qF.length-k) 0 ⟨by omega,by simp⟩ ?_;intro k ⟨hk,hp⟩ ih;by_cases aa:k<qF.length
 ·obtain⟨x,hx⟩:=ZJ aa;rw[ZaB hx] at hp;have hw:=Zq (k:=k) (by omega);obtain⟨X,Y,W,H⟩:=x;by_cases hv:VB ⟨X,Y,W,H⟩
  ·have hi:=Zjv X Y W H 0 0 qW qH hv ⟨by omega,by omega⟩ ⟨by omega,by omega⟩ (by simpa using hW) (by simpa using hH);simp +contextual -implicitDefEqProofs (maxSteps:=10^7) only[go_sem,seval,↓gZ,hx,aa,hw,ZdG,hi,hv];refine⟨fun h=>Zb5 (fun hh=>h ((hp.1 hh.2).1.2)),fun h=>ih (k+1) _ ⟨by omega,?_⟩ (by omega) ?_⟩
   ·rw[hp];exact⟨fun hh=>hh.2,fun hh=>⟨⟨hv,h⟩,hh⟩⟩
   ·simp +contextual -implicitDefEqProofs (maxSteps:=10^7) only[go_sem,seval,↓gZ]
  ·simp +contextual -implicitDefEqProofs (maxSteps:=10^7) only[go_sem,seval,↓gZ,hx,aa,hw,ZdG,hv];exact Zb5 (fun hh=>hv ((hp.1 hh.2).1.1))
 ·have:k=qF.length:=by omega
  subst this;simp +contextual -implicitDefEqProofs (maxSteps:=10^7) only[go_sem,seval,↓gZ,ZX];have hv:∀ f∈qF,U9 qW qH f:=hp.2 (by simp);exact ZdC (by simp only[VPc];exact⟨fun h=>⟨by omega,hv⟩,fun h=>by omega⟩)
theorem ZiO (fs:List Box) (bX bY bW bH:Int) (hf:∀ f∈fs,VB f) (hb:VB (Box.mk bX bY bW bH)) (hl:fs.length<4611686018427387904):Zh Xs Ms Vo [(.d (.sl (fs.map Box.enc))),(.d (.agg [J bX,J bY,J bW,J bH]))] []=some ((.d (.bool (!decide (Qe fs (Box.mk bX bY bW bH))))),[]):=by
 refine cE ?_;simp +contextual -implicitDefEqProofs (maxSteps:=10^7) only[go_sem,seval,↓gZ,Zah];refine LO (α:=Nat) (fun k=>[(11,.d (J (k:Int)))]) (fun _=>[]) (fun k=>k≤fs.length∧(Qe fs (Box.mk bX bY bW bH)↔Qe (fs.drop k) (Box.mk bX bY bW bH))) (fun k=>fs.length-k) 0 ⟨by omega,by simp⟩ ?_;intro k ⟨hk,hp⟩ ih;by_cases aa:k<fs.length
 ·obtain⟨x,hx⟩:=ZJ aa;have ad:=hx;unfold Qe at hp;rw[ZaB hx (fun f=>¬Y4 f (Box.mk bX bY bW bH))] at hp;have hw:=Zq (k:=k) (by omega);have ab:=hf x (Ke hx);obtain⟨X,Y,W,H⟩:=x;by_cases hm:Y4 ⟨X,Y,W,H⟩ (Box.mk bX bY bW bH)
  ·simp +contextual -implicitDefEqProofs (maxSteps:=10^7) only[go_sem,seval,↓gZ,hx,aa,hw,Zbk X Y W H bX bY bW bH ab hb hm];have:¬Qe fs (Box.mk bX bY bW bH):=fun hh=>(hp.1 hh).1 hm;simp[this]
  ·simp +contextual -implicitDefEqProofs (maxSteps:=10^7) only[go_sem,seval,↓gZ,hx,aa,hw,Zcz X Y W H bX bY bW bH (fun hh=>hm hh.2.2)];refine ih (k+1) _ ⟨by omega,?_⟩ (by omega) ?_
   ·unfold Qe;rw[hp];exact⟨fun hh=>hh.2,fun hh=>⟨hm,hh⟩⟩
   ·simp +contextual -implicitDefEqProofs (maxSteps:=10^7) only[go_sem,seval,↓gZ]
 ·have:k=fs.length:=by omega
  subst this;simp +contextual -implicitDefEqProofs (maxSteps:=10^7) only[go_sem,seval,↓gZ];have:Qe fs (Box.mk bX bY bW bH):=hp.2 (by simp[Qe]);simp[this]
theorem Zl8 (qL qW qH:Int) (qF:List Box) (bX bY bW bH:Int) (hf:∀ f∈qF,VB f) (hb:VB (Box.mk bX bY bW bH)) (hl:qF.length<4611686018427387904):Zh Xs Ms Ul [(.d (.agg [J qL,J qW,J qH,.sl (qF.map Box.enc)])),(.d (.agg [J bX,J bY,J bW,J bH]))] []=some ((.d (.bool (decide (Qe qF (Box.mk bX bY bW bH))))),[]):=by
 refine cE ?_;simp +contextual -implicitDefEqProofs (maxSteps:=10^7) only[go_sem,seval,↓gZ,ZcQ];refine LO (α:=Nat) (fun k=>[(5,.d (J (k:Int)))]) (fun _=>[]) (fun k=>k≤qF.length∧(Qe qF (Box.mk bX bY bW bH)↔Qe (qF.drop k) (Box.mk bX bY bW bH))) (fun k=>qF.length-k) 0 ⟨by omega,by simp⟩ ?_;intro k ⟨hk,hp⟩ ih;by_cases aa:k<qF.length
 ·obtain⟨x,hx⟩:=ZJ aa;unfold Qe at hp;rw[ZaB hx (fun f=>¬Y4 f (Box.mk bX bY bW bH))] at hp;have hw:=Zq (k:=k) (by omega);have ab:=hf x (Ke hx);obtain⟨X,Y,W,H⟩:=x;by_cases hm:Y4 ⟨X,Y,W,H⟩ (Box.mk bX bY bW bH)
  ·simp +contextual -implicitDefEqProofs (maxSteps:=10^7) only[go_sem,seval,↓gZ,hx,aa,hw,Zfb X Y W H bX bY bW bH ab hb hm];have:¬Qe qF (Box.mk bX bY bW bH):=fun hh=>(hp.1 hh).1 hm;simp[this]
  ·simp +contextual -implicitDefEqProofs (maxSteps:=10^7) only[go_sem,seval,↓gZ,hx,aa,hw,ZgJ X Y W H bX bY bW bH ab hb hm];refine ih (k+1) _ ⟨by omega,?_⟩ (by omega) ?_
   ·unfold Qe;rw[hp];exact⟨fun hh=>hh.2,fun hh=>⟨hm,hh⟩⟩
   ·simp +contextual -implicitDefEqProofs (maxSteps:=10^7) only[go_sem,seval,↓gZ]
 ·have:k=qF.length:=by omega
  subst this;simp +contextual -implicitDefEqProofs (maxSteps:=10^7) only[go_sem,seval,↓gZ];have:Qe qF (Box.mk bX bY bW bH):=hp.2 (by simp[Qe]);simp[this]
theorem ZjB (kW kH:Int) (kP:List Pane) (p:Ze) (b:BT) (hp:p=b.plan) (hg:inB ⟨0,0,kW,kH⟩) (hf:Xh kP b kW kH=true) (hl:b.cnt≤1000):Zh Xs Ms Wr [(.d (.agg [J kW,J kH,.sl (kP.map Pane.enc)])),.d p.enc] []=some (.own 0,[.row 6 ((plc b 0 0 kW kH).map XZ.enc) true false]):=by
 have e:=VS kP b 0 0 kW kH hg hf hl;have hm:=ZfC b 0 0 kW kH (Zc8 hf);have hn:=J5 b 0 0 kW kH;rw[← hp] at e;rw[← hm];clear hm;generalize sp b 0 0 kW kH=S at e hn ⊢;clear hp hf hg;obtain⟨o,a,q,t,ks⟩:=p;rw[Ze.enc_mk] at e ⊢;refine cE ?_;simp +contextual -implicitDefEqProofs (maxSteps:=10^7) only[go_sem,seval,↓gZ,ZbC,e];refine LO (α:=Nat) (fun i=>[(7,.d (J (i:Int)))]) (fun i=>[(1,.row 6 (((S.take i).filterMap JL).map XZ.enc) true false)]) (fun i=>i≤S.length) (fun i=>S.length-i) 0 (by omega) ?_;intro i hi ih;by_cases aa:i<S.length
 ·obtain⟨x,hx⟩:=ZJ aa;have hw:=Zq (k:=i) (by omega);have hm:=JN (f:=JL) hx;have ab:((S.take i).filterMap JL).length≤i:=KD (Kq _ _) (by simp;omega);have hr:(((S.take i).filterMap JL).length+1)*48≤140737488355328∧((S.take i).filterMap JL).length≤140737488355327:=by omega
  obtain⟨q',t',⟨X,Y,W,H⟩⟩:=x;simp only[JL] at hm;by_cases ho:0≤q'
  ·rw[Kt ho] at hm;simp +contextual -implicitDefEqProofs (maxSteps:=10^7) only[go_sem,seval,↓gZ,hx,aa,hw,ho,hr];refine ih (i+1) _ (by omega) (by omega) ?_;simp +contextual -implicitDefEqProofs (maxSteps:=10^7) only[go_sem,seval,↓gZ,hm]
   first | rfl | (simp;done) | (simp;rfl)
  ·rw[Kn ho] at hm;simp +contextual -implicitDefEqProofs (maxSteps:=10^7) only[go_sem,seval,↓gZ,hx,aa,hw,ho,hr];refine ih (i+1) _ (by omega) (by omega) ?_;simp +contextual -implicitDefEqProofs (maxSteps:=10^7) only[go_sem,seval,↓gZ,hm]
   first | rfl | (simp;done) | (simp;rfl)
 ·have:i=S.length:=by omega
  subst this;simp +contextual -implicitDefEqProofs (maxSteps:=10^7) only[go_sem,seval,↓gZ];simp
theorem ZjC (kW kH:Int) (kP:List Pane) (p:Ze) (b:BT) (hp:p=b.plan) (hg:inB ⟨0,0,kW,kH⟩) (hf:Xh kP b kW kH=true) (hl:b.cnt≤1000):Zh Xs Ms Ws [(.d (.agg [J kW,J kH,.sl (kP.map Pane.enc)])),.d p.enc] []=some (.own 0,[.row 4 ((wst b 0 0 kW kH).map Box.enc) true false]):=by
 have e:=VS kP b 0 0 kW kH hg hf hl;have hm:=ZfD b 0 0 kW kH (Zc8 hf);have hn:=J5 b 0 0 kW kH;rw[← hp] at e;rw[← hm];clear hm;generalize sp b 0 0 kW kH=S at e hn ⊢;clear hp hf hg;obtain⟨o,a,q,t,ks⟩:=p;rw[Ze.enc_mk] at e ⊢;refine cE ?_;simp +contextual -implicitDefEqProofs (maxSteps:=10^7) only[go_sem,seval,↓gZ,ZbD,e];refine LO (α:=Nat) (fun i=>[(7,.d (J (i:Int)))]) (fun i=>[(1,.row 4 (((S.take i).filterMap JM).map Box.enc) true false)]) (fun i=>i≤S.length) (fun i=>S.length-i) 0 (by omega) ?_;intro i hi ih;by_cases aa:i<S.length
 ·obtain⟨x,hx⟩:=ZJ aa;have hw:=Zq (k:=i) (by omega);have hm:=JN (f:=JM) hx;have ab:((S.take i).filterMap JM).length≤i:=KD (Kq _ _) (by simp;omega);have hr:(((S.take i).filterMap JM).length+1)*32≤140737488355328∧((S.take i).filterMap JM).length≤140737488355327:=by omega
  obtain⟨q',t',⟨X,Y,W,H⟩⟩:=x;simp only[JM] at hm;by_cases ho:q' < 0
  ·rw[Kt ho] at hm;simp +contextual -implicitDefEqProofs (maxSteps:=10^7) only[go_sem,seval,↓gZ,hx,aa,hw,ho,hr];refine ih (i+1) _ (by omega) (by omega) ?_;simp +contextual -implicitDefEqProofs (maxSteps:=10^7) only[go_sem,seval,↓gZ,hm]
   first | rfl | (simp;done) | (simp;rfl)
  ·rw[Kn ho] at hm;simp +contextual -implicitDefEqProofs (maxSteps:=10^7) only[go_sem,seval,↓gZ,hx,aa,hw,ho,hr];refine ih (i+1) _ (by omega) (by omega) ?_;simp +contextual -implicitDefEqProofs (maxSteps:=10^7) only[go_sem,seval,↓gZ,hm]
   first | rfl | (simp;done) | (simp;rfl)
 ·have:i=S.length:=by omega
  subst this;simp +contextual -implicitDefEqProofs (maxSteps:=10^7) only[go_sem,seval,↓gZ];simp
theorem ZjD (qL qW qH:Int) (qF:List Box) (kW kH:Int) (kP:List Pane) (p:Ze):Zh Xs Ms Wn [(.d (.agg [J qL,J qW,J qH,.sl (qF.map Box.enc)])),(.d (.agg [J kW,J kH,.sl (kP.map Pane.enc)])),.d p.enc] []=some ((.d (.bool (decide (VPc (Zf.mk qL qW qH qF)∧Yp (Zf.mk qL qW qH qF) (Zz.mk kW kH kP) p)))),[]):=by
 have ev:=ZcA kW kH kP p;by_cases hq:VPc (Zf.mk qL qW qH qF)
 ·by_cases hv:WD (Zz.mk kW kH kP) p=true
  ·by_cases hw:kW=qW
   ·by_cases hh:kH=qH
    ·subst hw;subst hh;have ep:=Zjz kW kH kP p;obtain⟨b,hb,ah,ai,aj,ad,af⟩:=U8 hv;have ab:∀ c∈(Xi (Zz.mk kW kH kP) p).filterMap Yo,VB c.Box:=by
      rw[af,Zc6];exact ZeR (p:=p) ai ad
     have ae:((Xi (Zz.mk kW kH kP) p).filterMap Yo).length≤255:=KD (Kq _ _) (Jl _ _);have aa:Yp ⟨qL,kW,kH,qF⟩ (Zz.mk kW kH kP) p↔∀ c∈(Xi (Zz.mk kW kH kP) p).filterMap Yo,Qe qF c.Box:=by
      unfold Yp;exact⟨fun h=>h.2.2.2,fun h=>⟨hv,rfl,rfl,h⟩⟩
     have ak:∀ f∈qF,VB f:=fun f hf=>(hq.2 f hf).1;have an:qF.length≤6:=hq.1.2.2.2.2.2.2;rw[hv] at ev;generalize hL:(Xi (Zz.mk kW kH kP) p).filterMap Yo=L at ep ab ae aa;clear hL af ah hb;obtain⟨o,a,n,t,ks⟩:=p;rw[Ze.enc_mk] at ev ep ⊢;refine cE ?_;simp +contextual -implicitDefEqProofs (maxSteps:=10^7) only[go_sem,seval,↓gZ,XW,Q2,hq,ev,ep];refine LO (α:=Nat) (fun i=>[(36,.d (J (i:Int)))]) (fun _=>[]) (fun i=>i≤L.length∧((∀ c∈L,Qe qF c.Box)↔∀ c∈L.drop i,Qe qF c.Box)) (fun i=>L.length-i) 0 ⟨by omega,by simp⟩ ?_;intro i ⟨hi,hp⟩ ih;by_cases ag:i<L.length
     ·obtain⟨x,hx⟩:=ZJ ag;rw[ZaB hx (fun c=>Qe qF c.Box)] at hp;have hw:=Zq (k:=i) (by omega);have al:=ab x (Ke hx);obtain⟨q',t',⟨X,Y,W,H⟩⟩:=x;have em:=ZiO qF X Y W H ak al (by omega);simp +contextual -implicitDefEqProofs (maxSteps:=10^7) only[go_sem,seval,↓gZ,hx,ag,hw,em];refine⟨fun h=>Zb5 (fun h'=>h ((hp.1 (aa.1 h')).1)),fun h=>ih (i+1) _ ⟨by omega,?_⟩ (by omega) ?_⟩
      ·rw[hp];exact⟨fun h'=>h'.2,fun h'=>⟨h,h'⟩⟩
      ·simp +contextual -implicitDefEqProofs (maxSteps:=10^7) only[go_sem,seval,↓gZ]
     ·have:i=L.length:=by omega
      subst this;simp +contextual -implicitDefEqProofs (maxSteps:=10^7) only[go_sem,seval,↓gZ];exact ZpS (aa.2 (hp.2 (by simp)))
    ·subst hw;have hn:¬Yp ⟨qL,kW,qH,qF⟩ (Zz.mk kW kH kP) p:=fun h=>hh h.2.2.1;obtain⟨o,a,n,t,ks⟩:=p;rw[hv] at ev;rw[Ze.enc_mk] at ev ⊢;refine cE ?_;simp +contextual -implicitDefEqProofs (maxSteps:=10^7) only[go_sem,seval,↓gZ,XW,Q2,hq,ev,hh,hn]
   ·have hn:¬Yp (Zf.mk qL qW qH qF) (Zz.mk kW kH kP) p:=fun h=>hw h.2.1;obtain⟨o,a,n,t,ks⟩:=p;rw[hv] at ev;rw[Ze.enc_mk] at ev ⊢;refine cE ?_;simp +contextual -implicitDefEqProofs (maxSteps:=10^7) only[go_sem,seval,↓gZ,XW,Q2,hq,ev,hw,hn]
  ·have am:=(LH _).mp hv;have hn:¬Yp (Zf.mk qL qW qH qF) (Zz.mk kW kH kP) p:=fun h=>hv h.1;rw[am] at ev;obtain⟨o,a,n,t,ks⟩:=p;rw[Ze.enc_mk] at ev ⊢;refine cE ?_;simp +contextual -implicitDefEqProofs (maxSteps:=10^7) only[go_sem,seval,↓gZ,XW,Q2,hq,ev,hn]
 ·obtain⟨o,a,n,t,ks⟩:=p;rw[Ze.enc_mk] at ev ⊢;refine cE ?_;simp +contextual -implicitDefEqProofs (maxSteps:=10^7) only[go_sem,seval,↓gZ,XW,Q2,hq]
theorem ZdJ (qL qW qH:Int) (qF:List Box) (kW kH:Int) (kP:List Pane) (p:Ze) (al:∀ f∈qF,VB f) (ao:qF.length≤6) (hl:kP.length<4611686018427387904):Zh Xs Ms Wl [(.d (.agg [J qL,J qW,J qH,.sl (qF.map Box.enc)])),(.d (.agg [J kW,J kH,.sl (kP.map Pane.enc)])),.d p.enc] []=some ((.d (.bool (decide (Yp (Zf.mk qL qW qH qF) (Zz.mk kW kH kP) p)))),[]):=by
 have ev:=ZiM kW kH kP p hl;by_cases hv:WD (Zz.mk kW kH kP) p=true
 ·by_cases hw:kW=qW
  ·by_cases hh:kH=qH
   ·subst hw;subst hh;obtain⟨b,hb,ah,ai,ae,ab,aj⟩:=U8 hv;have af:=ai;simp only[VW] at af;have ep:=ZjB kW kH kP p b ah (by simp only[inB];omega) ab (by omega);have ad:∀ c∈plc b 0 0 kW kH,VB c.Box:=ZeR (p:=p) ai ab;have ag:(plc b 0 0 kW kH).length≤255:=by
     rw[← Zc6];exact KD (Kq _ _) (by rw[Zcg];exact ae)
    have aa:Yp ⟨qL,kW,kH,qF⟩ (Zz.mk kW kH kP) p↔∀ c∈plc b 0 0 kW kH,Qe qF c.Box:=by
     unfold Yp;rw[aj,Zc6];exact⟨fun h=>h.2.2.2,fun h=>⟨hv,rfl,rfl,h⟩⟩
    rw[hv] at ev;generalize plc b 0 0 kW kH=L at ep ad ag aa;clear aj ah hb;obtain⟨o,a,n,t,ks⟩:=p;rw[Ze.enc_mk] at ev ep ⊢;refine cE ?_;simp +contextual -implicitDefEqProofs (maxSteps:=10^7) only[go_sem,seval,↓gZ,Y1,ev,ep];refine LO (α:=Nat) (fun i=>[(8,.d (J (i:Int)))]) (fun _=>[]) (fun i=>i≤L.length∧((∀ c∈L,Qe qF c.Box)↔∀ c∈L.drop i,Qe qF c.Box)) (fun i=>L.length-i) 0 ⟨by omega,by simp⟩ ?_;intro i ⟨hi,hp⟩ ih;by_cases ak:i<L.length
    ·obtain⟨x,hx⟩:=ZJ ak;rw[ZaB hx (fun c=>Qe qF c.Box)] at hp;have hw:=Zq (k:=i) (by omega);have am:=ad x (Ke hx);obtain⟨q',t',⟨X,Y,W,H⟩⟩:=x;have em:=Zl8 qL kW kH qF X Y W H al am (by omega);simp +contextual -implicitDefEqProofs (maxSteps:=10^7) only[go_sem,seval,↓gZ,hx,ak,hw,em];refine⟨fun h=>Zb5 (fun h'=>h ((hp.1 (aa.1 h')).1)),fun h=>ih (i+1) _ ⟨by omega,?_⟩ (by omega) ?_⟩
     ·rw[hp];exact⟨fun h'=>h'.2,fun h'=>⟨h,h'⟩⟩
     ·simp +contextual -implicitDefEqProofs (maxSteps:=10^7) only[go_sem,seval,↓gZ]
    ·have:i=L.length:=by omega
     subst this;simp +contextual -implicitDefEqProofs (maxSteps:=10^7) only[go_sem,seval,↓gZ];exact ZpS (aa.2 (hp.2 (by simp)))
   ·subst hw;have hn:¬Yp ⟨qL,kW,qH,qF⟩ (Zz.mk kW kH kP) p:=fun h=>hh h.2.2.1;obtain⟨o,a,n,t,ks⟩:=p;rw[hv] at ev;rw[Ze.enc_mk] at ev ⊢;refine cE ?_;simp +contextual -implicitDefEqProofs (maxSteps:=10^7) only[go_sem,seval,↓gZ,Y1,ev,hh,hn]
  ·have hn:¬Yp (Zf.mk qL qW qH qF) (Zz.mk kW kH kP) p:=fun h=>hw h.2.1;obtain⟨o,a,n,t,ks⟩:=p;rw[hv] at ev;rw[Ze.enc_mk] at ev ⊢;refine cE ?_;simp +contextual -implicitDefEqProofs (maxSteps:=10^7) only[go_sem,seval,↓gZ,Y1,ev,hw,hn]
 ·have an:=(LH _).mp hv;have hn:¬Yp (Zf.mk qL qW qH qF) (Zz.mk kW kH kP) p:=fun h=>hv h.1;rw[an] at ev;obtain⟨o,a,n,t,ks⟩:=p;rw[Ze.enc_mk] at ev ⊢;refine cE ?_;simp +contextual -implicitDefEqProofs (maxSteps:=10^7) only[go_sem,seval,↓gZ,Y1,ev,hn]
theorem ZnL (qL qW qH:Int) (qF:List Box) (bX bY bW bH:Int) (aa:Int) (hq:VPc (Zf.mk qL qW qH qF)) (hb:VB (Box.mk bX bY bW bH)) (hi:Ye (Box.mk bX bY bW bH) ⟨0,0,qW,qH⟩) (h1:1≤aa) (h2:aa≤9999) :
  Zh Xs Ms Jv [(.d (.agg [J qL,J qW,J qH,.sl (qF.map Box.enc)])),(.d (.agg [J bX,J bY,J bW,J bH])),(.d (J aa))] []=some (.agg [(.d (J aa)),(.d (J bW)),(.d (J bH)),.own 0],[.row 4 ((qF.filterMap (Xp (Box.mk bX bY bW bH))).map Box.enc) true false]):=by
 have af:=hq.1;simp only at af;have n1:¬aa<1:=by omega
 have n2:¬9999<aa:=by omega
 have ag:VB ⟨0,0,qW,qH⟩:=by simp only[VB];omega
 refine cE ?_;simp +contextual -implicitDefEqProofs (maxSteps:=10^7) only[go_sem,seval,↓gZ,Zeo,Q2,W1,ZdH,hq,hb,hi,ag,n1,n2];refine LO (α:=Nat) (fun i=>[(40,.d (J (i:Int)))]) (fun i=>[(3,.row 4 (((qF.take i).filterMap (Xp (Box.mk bX bY bW bH))).map Box.enc) true false)]) (fun i=>i≤qF.length) (fun i=>qF.length-i) 0 (by omega) ?_;intro i hk ih;by_cases ab:i<qF.length
 ·obtain⟨x,hx⟩:=ZJ ab;have hw:=Zq (k:=i) (by omega);have hm:=JN (f:=Xp (Box.mk bX bY bW bH)) hx;have ai:((qF.take i).filterMap (Xp (Box.mk bX bY bW bH))).length≤i:=KD (Kq _ _) (by simp;omega);have hr:(((qF.take i).filterMap (Xp (Box.mk bX bY bW bH))).length+1)*32≤140737488355328∧((qF.take i).filterMap (Xp (Box.mk bX bY bW bH))).length≤140737488355327:=by omega
  have ae:=(hq.2 x (Ke hx)).1;obtain⟨X,Y,W,H⟩:=x;have ad:=ae;have ah:=hb;simp only[VB] at ad ah;simp only[Xp] at hm;by_cases ho:Y4 ⟨X,Y,W,H⟩ (Box.mk bX bY bW bH)
  ·rw[Kt ho] at hm;have w1:=wi (max X bX-bX) (by omega) (by omega);have w2:=wi (max Y bY-bY) (by omega) (by omega);simp +contextual -implicitDefEqProofs (maxSteps:=10^7) only[go_sem,seval,↓gZ,hx,ab,hw,Zbk X Y W H bX bY bW bH ae hb ho,hr,Zb7,w1,w2];refine ih (i+1) _ (by omega) (by omega) ?_;simp +contextual -implicitDefEqProofs (maxSteps:=10^7) only[go_sem,seval,↓gZ,hm,ZlN,Zb7]
   first | rfl | (simp;done) | (simp;rfl)
  ·rw[Kn ho] at hm;simp +contextual -implicitDefEqProofs (maxSteps:=10^7) only[go_sem,seval,↓gZ,hx,ab,hw,Zcz X Y W H bX bY bW bH (fun hh=>ho hh.2.2),hr];refine ih (i+1) _ (by omega) (by omega) ?_;simp +contextual -implicitDefEqProofs (maxSteps:=10^7) only[go_sem,seval,↓gZ,hm]
   first | rfl | (simp;done) | (simp;rfl)
 ·have:i=qF.length:=by omega
  subst this;simp +contextual -implicitDefEqProofs (maxSteps:=10^7) only[go_sem,seval,↓gZ];try simp
theorem ZnM (qL qW qH:Int) (qF:List Box) (bX bY bW bH:Int) (aa:Int) (hf:∀ f∈qF,VB f) (hl:qF.length≤6) (hb:VB (Box.mk bX bY bW bH)) :
  Zh Xs Ms Ju [(.d (.agg [J qL,J qW,J qH,.sl (qF.map Box.enc)])),(.d (.agg [J bX,J bY,J bW,J bH])),(.d (J aa))] []=some (.agg [(.d (J aa)),(.d (J bW)),(.d (J bH)),.own 0],[.row 4 ((qF.filterMap (Xp (Box.mk bX bY bW bH))).map Box.enc) true false]):=by
 refine cE ?_;simp +contextual -implicitDefEqProofs (maxSteps:=10^7) only[go_sem,seval,↓gZ,Zen];refine LO (α:=Nat) (fun i=>[(8,.d (J (i:Int)))]) (fun i=>[(4,.row 4 (((qF.take i).filterMap (Xp (Box.mk bX bY bW bH))).map Box.enc) true false)]) (fun i=>i≤qF.length) (fun i=>qF.length-i) 0 (by omega) ?_;intro i hk ih;by_cases ab:i<qF.length
 ·obtain⟨x,hx⟩:=ZJ ab;have hw:=Zq (k:=i) (by omega);have hm:=JN (f:=Xp (Box.mk bX bY bW bH)) hx;have ag:((qF.take i).filterMap (Xp (Box.mk bX bY bW bH))).length≤i:=KD (Kq _ _) (by simp;omega);have hr:(((qF.take i).filterMap (Xp (Box.mk bX bY bW bH))).length+1)*32≤140737488355328∧((qF.take i).filterMap (Xp (Box.mk bX bY bW bH))).length≤140737488355327:=by omega
  have ad:=hf x (Ke hx);obtain⟨X,Y,W,H⟩:=x;have ae:=ad;have af:=hb;simp only[VB] at ae af;simp only[Xp] at hm;by_cases ho:Y4 ⟨X,Y,W,H⟩ (Box.mk bX bY bW bH)
  ·rw[Kt ho] at hm;have w1:=wi (max X bX-bX) (by omega) (by omega);have w2:=wi (max Y bY-bY) (by omega) (by omega);simp +contextual -implicitDefEqProofs (maxSteps:=10^7) only[go_sem,seval,↓gZ,hx,ab,hw,Zfb X Y W H bX bY bW bH ad hb ho,hr,Zb7,w1,w2];refine ih (i+1) _ (by omega) (by omega) ?_;simp +contextual -implicitDefEqProofs (maxSteps:=10^7) only[go_sem,seval,↓gZ,hm,ZlN,Zb7]
   first | rfl | (simp;done) | (simp;rfl)
  ·rw[Kn ho] at hm;simp +contextual -implicitDefEqProofs (maxSteps:=10^7) only[go_sem,seval,↓gZ,hx,ab,hw,ZgJ X Y W H bX bY bW bH ad hb ho,hr];refine ih (i+1) _ (by omega) (by omega) ?_;simp +contextual -implicitDefEqProofs (maxSteps:=10^7) only[go_sem,seval,↓gZ,hm]
   first | rfl | (simp;done) | (simp;rfl)
 ·have:i=qF.length:=by omega
  subst this;simp +contextual -implicitDefEqProofs (maxSteps:=10^7) only[go_sem,seval,↓gZ];try simp
theorem ZbJ (kW kH:Int) (kP:List Pane) (p:Ze) (Zg:Int):Zh Xs Ms YO [(.d (.agg [J kW,J kH,.sl (kP.map Pane.enc)])),.d p.enc,(.d (J Zg))] []=some (.own 0,[.row 4 ((Qz (Zz.mk kW kH kP) p Zg).map Box.enc) true false]):=by
 have hv:=ZjA kW kH kP p;have hn:((Xi (Zz.mk kW kH kP) p).filterMap XP).length≤255:=KD (Kq _ _) (Jl (Zz.mk kW kH kP) p);unfold Qz;generalize (Xi (Zz.mk kW kH kP) p).filterMap XP=ps at hv hn ⊢;obtain⟨o,a,q,t,ks⟩:=p;rw[Ze.enc_mk] at hv ⊢;refine cE ?_;simp +contextual -implicitDefEqProofs (maxSteps:=10^7) only[go_sem,seval,↓gZ,Jz,hv];refine LO (α:=Nat) (fun k=>[(14,.d (J (k:Int)))]) (fun k=>[(1,.row 4 (((ps.take k).filterMap (Vd Zg)).map Box.enc) true false)]) (fun k=>k≤ps.length) (fun k=>ps.length-k) 0 (by omega) ?_;intro k hk ih;by_cases aa:k<ps.length
 ·obtain⟨x,hx⟩:=ZJ aa;have hw:=Zq (k:=k) (by omega);have hm:=JN (f:=Vd Zg) hx;have ab:((ps.take k).filterMap (Vd Zg)).length≤k:=KD (Kq _ _) (by simp;omega);have hr:(((ps.take k).filterMap (Vd Zg)).length+1)*32≤140737488355328∧((ps.take k).filterMap (Vd Zg)).length≤140737488355327:=by omega
  obtain⟨X,Y,W,H⟩:=x;simp only[Vd] at hm;by_cases ho:Zg≤W∧Zg≤H
  ·rw[Kt ho] at hm;simp +contextual -implicitDefEqProofs (maxSteps:=10^7) only[go_sem,seval,↓gZ,hx,aa,hw,ho,hr];refine ih (k+1) _ (by omega) (by omega) ?_;simp +contextual -implicitDefEqProofs (maxSteps:=10^7) only[go_sem,seval,↓gZ,hm]
   first | rfl | (simp;done) | (simp;rfl)
  ·rw[Kn ho] at hm;simp +contextual -implicitDefEqProofs (maxSteps:=10^7) only[go_sem,seval,↓gZ,hx,aa,hw,ho,hr];refine ih (k+1) _ (by omega) (by omega) ?_;simp +contextual -implicitDefEqProofs (maxSteps:=10^7) only[go_sem,seval,↓gZ,hm]
   first | rfl | (simp;done) | (simp;rfl)
 ·have:k=ps.length:=by omega
  subst this;simp +contextual -implicitDefEqProofs (maxSteps:=10^7) only[go_sem,seval,↓gZ];simp
theorem Zfe (qL qW qH:Int) (qF:List Box) (kW kH:Int) (kP:List Pane) (p:Ze) (Zg aa:Int) (hq:VPc (Zf.mk qL qW qH qF)) (hv:WD (Zz.mk kW kH kP) p=true) (hW:kW=qW) (hH:kH=qH) (h1:1≤aa) (h2:aa≤10000)
  (hk:(Qz (Zz.mk kW kH kP) p Zg).length≤10000-aa):Zh Xs Ms Xk [(.d (.agg [J qL,J qW,J qH,.sl (qF.map Box.enc)])),(.d (.agg [J kW,J kH,.sl (kP.map Pane.enc)])),.d p.enc,(.d (J Zg)),(.d (J aa))] [] =
  some (.tup [.own 0,(.d (.bool true))],[.tree 4 4 ((VC (Zf.mk qL qW qH qF) aa (Qz (Zz.mk kW kH kP) p Zg)).map Zf.enc) none]):=by
 have ek:=ZbJ kW kH kP p Zg;have ab:∀ b∈Qz (Zz.mk kW kH kP) p Zg,VB b∧Ye b ⟨0,0,qW,qH⟩:=by
  intro b hb;have:=Zid (Zg:=Zg) hv b hb;rw[← hW,← hH];exact this
 have hn:=Zc9 (Zz.mk kW kH kP) p Zg;generalize Qz (Zz.mk kW kH kP) p Zg=L at ek ab hn hk ⊢;clear hv;have w0:=wi (10000-aa) (by omega) (by omega);have n0:¬(10000-aa<(L.length:Int)):=by omega
 obtain⟨o,a,n,t,ks⟩:=p;rw[Ze.enc_mk] at ek ⊢;refine cE ?_;simp +contextual -implicitDefEqProofs (maxSteps:=10^7) only[go_sem,seval,↓gZ,Vy,ek,w0,n0];refine LO (α:=Nat) (fun i=>[(27,.d (J (i:Int)))]) (fun i=>[(1,.tree 4 4 ((VC (Zf.mk qL qW qH qF) aa (L.take i)).map Zf.enc) none)]) (fun i=>i≤L.length) (fun i=>L.length-i) 0 (by omega) ?_;intro i hi ih;by_cases ad:i<L.length
 ·obtain⟨x,hx⟩:=ZJ ad;have hw:=Zq (k:=i) (by omega);have hm:=ZqV (Zf.mk qL qW qH qF) aa hx;have hl:(VC (Zf.mk qL qW qH qF) aa (L.take i)).length=i:=by rw[Ja];simp;omega
  have hr:(i+1)*48≤140737488355328∧i≤140737488355327:=by omega
  have ae:=ab x (Ke hx);have w1:=wi (aa+(i:Int)) (by omega) (by omega);obtain⟨X,Y,W,H⟩:=x;have hc:=ZnL qL qW qH qF X Y W H (aa+(i:Int)) hq ae.1 ae.2 (by omega) (by omega);have z6:=aF (l:=(ZfF (Zf.mk qL qW qH qF) ⟨X,Y,W,H⟩ (aa+(i:Int))).Flaws) (g:=Box.enc) fun _=>rfl;simp only[ZfF] at z6;simp +contextual -implicitDefEqProofs (maxSteps:=10^7) only[go_sem,seval,↓gZ,hx,ad,hw,w1,hc,hl,hr,z6];refine ih (i+1) _ (by omega) (by omega) ?_;simp +contextual -implicitDefEqProofs (maxSteps:=10^7) only[go_sem,seval,↓gZ,hm,ZfF]
  first | rfl | (simp;done) | (simp;rfl)
 ·have:i=L.length:=by omega
  subst this;simp +contextual -implicitDefEqProofs (maxSteps:=10^7) only[go_sem,seval,↓gZ];try simp
theorem ZfV (qL qW qH:Int) (qF:List Box) (kW kH:Int) (kP:List Pane) (p:Ze) (Zg aa:Int) (h1:1≤aa) (h2:aa≤10000)
  (hk:¬(Qz (Zz.mk kW kH kP) p Zg).length≤10000-aa):Zh Xs Ms Xk [(.d (.agg [J qL,J qW,J qH,.sl (qF.map Box.enc)])),(.d (.agg [J kW,J kH,.sl (kP.map Pane.enc)])),.d p.enc,(.d (J Zg)),(.d (J aa))] [] =
  some (.tup [.own 0,(.d (.bool false))],[.row 4 [] true false]):=by
 have ek:=ZbJ kW kH kP p Zg;generalize Qz (Zz.mk kW kH kP) p Zg=L at ek hk ⊢;have w0:=wi (10000-aa) (by omega) (by omega);have n0:10000-aa<(L.length:Int):=by omega
 obtain⟨o,a,n,t,ks⟩:=p;rw[Ze.enc_mk] at ek ⊢;refine cE ?_;simp +contextual -implicitDefEqProofs (maxSteps:=10^7) only[go_sem,seval,↓gZ,Vy,ek,w0,n0]
theorem ZcB (bX bY bW bH:Int) (Zg:Int):Zh Xs Ms Vn [(.d (.agg [J bX,J bY,J bW,J bH])),(.d (J Zg))] []=some ((.d (.bool (decide (Zg≤bW∧Zg≤bH)))),[]):=by
 refine cE ?_;simp +contextual -implicitDefEqProofs (maxSteps:=10^7) only[go_sem,seval,↓gZ,Zag]
theorem ZjE (qL qW qH:Int) (qF:List Box) (kW kH:Int) (kP:List Pane) (p:Ze) (Zg aa:Int) (hq:VPc (Zf.mk qL qW qH qF)) (hv:WD (Zz.mk kW kH kP) p=true) (h1:1≤aa) (h2:aa≤10000) :
  Zh Xs Ms Wm [(.d (.agg [J qL,J qW,J qH,.sl (qF.map Box.enc)])),(.d (.agg [J kW,J kH,.sl (kP.map Pane.enc)])),.d p.enc,(.d (J Zg)),(.d (J aa))] [] =
  some (.own 0,[.row 4 ((VC (Zf.mk qL qW qH qF) aa (Qz (Zz.mk kW kH kP) p Zg)).map Zf.enc) true false]):=by
 obtain⟨b,hb,ai,aj,al,af,ak⟩:=U8 hv;have ag:=aj;simp only[VW] at ag;have ep:=ZjC kW kH kP p b ai (by simp only[inB];omega) af (by omega);have ad:=ZqW hv;have ae:((Xi (Zz.mk kW kH kP) p).filterMap XP).length≤255:=KD (Kq _ _) (Jl _ _);unfold Qz;rw[ak,Zc7] at ad ae ⊢;have am:∀ f∈qF,VB f:=fun f hf=>(hq.2 f hf).1;have an:qF.length≤6:=hq.1.2.2.2.2.2.2;have ab:∀ i,((wst b 0 0 kW kH).take i).length≤255:=fun i=>KD (List.length_take_le' _ _) ae;generalize wst b 0 0 kW kH=L at ep ad ae ab ⊢;clear ak ai hb hv af aj ag;obtain⟨o,a,n,t,ks⟩:=p;rw[Ze.enc_mk] at ep ⊢;refine cE ?_
 simp +contextual -implicitDefEqProofs (maxSteps:=10^7) only[go_sem,seval,↓gZ,Zbx,ep];refine LO (α:=Nat) (fun i=>[(13,.d (J (i:Int)))]) (fun i=>[(1,.row 4 ((VC (Zf.mk qL qW qH qF) aa ((L.take i).filterMap (Vd Zg))).map Zf.enc) true false)]) (fun i=>i≤L.length) (fun i=>L.length-i) 0 (by omega) ?_;intro i hi ih;by_cases ah:i<L.length
 ·obtain⟨x,hx⟩:=ZJ ah;have hw:=Zq (k:=i) (by omega);have hm:=JN (f:=Vd Zg) hx;have aq:((L.take i).filterMap (Vd Zg)).length≤255:=KD (Kq _ _) (ab i);have hl:=Ja (Zf.mk qL qW qH qF) aa ((L.take i).filterMap (Vd Zg));have hr:(((L.take i).filterMap (Vd Zg)).length+1)*48≤140737488355328∧((L.take i).filterMap (Vd Zg)).length≤140737488355327:=by omega
  have w1:=wi (aa+(((L.take i).filterMap (Vd Zg)).length:Int)) (by omega) (by omega);have ao:=ad x (Ke hx);have ap:=fun y=>Zch (Zf.mk qL qW qH qF) aa ((L.take i).filterMap (Vd Zg)) [y];obtain⟨X,Y,W,H⟩:=x;simp only[Vd] at hm;have hc:=ZnM qL qW qH qF X Y W H (aa+(((L.take i).filterMap (Vd Zg)).length:Int)) am an ao;by_cases ho:Zg≤W∧Zg≤H
  ·rw[Kt ho] at hm;simp +contextual -implicitDefEqProofs (maxSteps:=10^7) only[go_sem,seval,↓gZ,hx,ah,hw,ZcB,ho,hl,w1,hc,hr];refine ih (i+1) _ (by omega) (by omega) ?_;simp +contextual -implicitDefEqProofs (maxSteps:=10^7) only[go_sem,seval,↓gZ,hm,Option.toList,ap,VC,ZfF]
   first | rfl | (simp;done) | (simp;rfl)
  ·rw[Kn ho] at hm;simp +contextual -implicitDefEqProofs (maxSteps:=10^7) only[go_sem,seval,↓gZ,hx,ah,hw,ZcB,ho];refine ih (i+1) _ (by omega) (by omega) ?_;simp +contextual -implicitDefEqProofs (maxSteps:=10^7) only[go_sem,seval,↓gZ,hm]
   first | rfl | (simp;done) | (simp;rfl)
 ·have:i=L.length:=by omega
  subst this;simp +contextual -implicitDefEqProofs (maxSteps:=10^7) only[go_sem,seval,↓gZ];try simp
end Go.Proofs.Ytnachaiejoflhaa
