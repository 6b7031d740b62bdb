/- Own text. -/
import Derived.Test.YtdhgppkldoopaaaGreatACode
import Derived.Test.YtdhgppkldoopaaaGreatAbsParts
import Derived.Test.YtdhgppkldoopaaaGreatAC1
import Derived.Test.YtdhgppkldoopaaaGreatAbsOkD
namespace Go.Proofs.YtdhgppkldoopaaaGreat
open Go Go.Abs Go.Abs.E Go.Abs.L
open Nat (reduceMul reduceSub reduceLeDiff reduceEqDiff)
open Int (reduceLE reduceEq reduceToNat reduceNeg)
set_option linter.unusedSimpArgs false
set_option linter.unusedVariables false
set_option maxRecDepth 20000
set_option maxHeartbeats 4000000
theorem Xp (ps:List Pane):∀ (b:BT) (gX gY gW gH:Int) (xs:List D) (ex:Bool),inB (Box.mk gX gY gW gH)→XI ps b gW gH=true→xs.length+b.cnt≤1000 →
  Zf Xs Ms Qe [.own 0,.d b.plan.enc,(.d (.agg [J gX,J gY,J gW,J gH]))] [.row 9 xs ex false]=some (.own 1,[.gone,.row 9 (xs++(pt b gX gY gW gH).map Part.enc) false false])
 | .waste,gX,gY,gW,gH,xs,ex,hg,hf,hl=>by
  simp only[BT.cnt] at hl;have h1:(xs.length+1)*88≤140737488355328∧xs.length≤140737488355327:=by omega
  simp only[BT.plan,Zd.enc_mk,pt];refine cE ?_;simp +contextual -implicitDefEqProofs (maxSteps:=10^7) only[go_sem,seval,↓gZ,Xl,VQ,h1]
 | .pane i t,gX,gY,gW,gH,xs,ex,hg,hf,hl=>by
  simp only[BT.cnt] at hl;have h1:(xs.length+1)*88≤140737488355328∧xs.length≤140737488355327:=by omega
  simp only[BT.plan,Zd.enc_mk,pt];refine cE ?_;simp +contextual -implicitDefEqProofs (maxSteps:=10^7) only[go_sem,seval,↓gZ,Xl,VQ,h1]
 | .cut d a l r,gX,gY,gW,gH,xs,ex,hg,hf,hl=>by
  simp only[BT.cnt] at hl;have h1:(xs.length+1)*88≤140737488355328∧xs.length≤140737488355327:=by omega
  simp only[inB] at hg;simp only[BT.plan,Zd.enc_mk];cases d with
  | true=>
   simp only[XI,Kd,Ku,Kn] at hf;have e0:=ZaC 2 a 0 false [l.plan.enc,r.plan.enc] gX gY gW gH rfl ⟨by omega,by omega⟩ ⟨by omega,by omega⟩;have e1:=Xp ps l gX gY a gH (xs++[.agg [J 2,J a,J 0,.bool false,.sl [l.plan.enc,r.plan.enc],J gX,J gY,J gW,J gH]]) false (by simp only[inB];omega) hf.1.2 (by simp only[Kx,Ks,La];omega);have e2:=Xp ps r (gX+a) gY (gW-a) gH (xs++[.agg [J 2,J a,J 0,.bool false,.sl [l.plan.enc,r.plan.enc],J gX,J gY,J gW,J gH]]++(pt l gX gY a gH).map Part.enc) false (by simp only[inB];omega) hf.2 (by simp only[Kx,Ks,La,KQ,Ju];omega)
   refine cE ?_;simp +contextual -implicitDefEqProofs (maxSteps:=10^7) only[go_sem,seval,↓gZ,Xl,VQ,h1,Za4,e0,e1,e2];simp[pt,Za4,BT.plan,Part.enc_mk]
  | false=>
   simp only[XI,Kd,Ku,Kc,Ko] at hf;have e0:=UG 3 a 0 false [l.plan.enc,r.plan.enc] gX gY gW gH (by decide) ⟨by omega,by omega⟩ ⟨by omega,by omega⟩;have e1:=Xp ps l gX gY gW a (xs++[.agg [J 3,J a,J 0,.bool false,.sl [l.plan.enc,r.plan.enc],J gX,J gY,J gW,J gH]]) false (by simp only[inB];omega) hf.1.2 (by simp only[Kx,Ks,La];omega);have e2:=Xp ps r gX (gY+a) gW (gH-a) (xs++[.agg [J 3,J a,J 0,.bool false,.sl [l.plan.enc,r.plan.enc],J gX,J gY,J gW,J gH]]++(pt l gX gY gW a).map Part.enc) false (by simp only[inB];omega) hf.2 (by simp only[Kx,Ks,La,KQ,Ju];omega)
   refine cE ?_;simp +contextual -implicitDefEqProofs (maxSteps:=10^7) only[go_sem,seval,↓gZ,Xl,VQ,h1,Za4,e0,e1,e2];simp[pt,Za4,BT.plan,Part.enc_mk]
theorem Zog (ps:List Pane):∀ (b:BT) (gX gY gW gH:Int),inB (Box.mk gX gY gW gH)→XI ps b gW gH=true→b.cnt≤1000 →
  Zf Xs Ms Qe [.nil,.d b.plan.enc,(.d (.agg [J gX,J gY,J gW,J gH]))] []=some (.own 0,[.row 9 ((pt b gX gY gW gH).map Part.enc) false false])
 | .waste,gX,gY,gW,gH,hg,hf,hl=>by
  have h1:1*88≤ZI∧1≤ZI:=by unfold ZI;omega
  simp only[BT.plan,Zd.enc_mk,pt];refine cE ?_;simp +contextual -implicitDefEqProofs (maxSteps:=10^7) only[go_sem,seval,↓gZ,Xl,VQ,h1]
 | .pane i t,gX,gY,gW,gH,hg,hf,hl=>by
  have h1:1*88≤ZI∧1≤ZI:=by unfold ZI;omega
  simp only[BT.plan,Zd.enc_mk,pt];refine cE ?_;simp +contextual -implicitDefEqProofs (maxSteps:=10^7) only[go_sem,seval,↓gZ,Xl,VQ,h1]
 | .cut d a l r,gX,gY,gW,gH,hg,hf,hl=>by
  simp only[BT.cnt] at hl;have h1:1*88≤ZI∧1≤ZI:=by unfold ZI;omega
  simp only[inB] at hg;simp only[BT.plan,Zd.enc_mk];cases d with
  | true=>
   simp only[XI,Kd,Ku,Kn] at hf;have e0:=ZaC 2 a 0 false [l.plan.enc,r.plan.enc] gX gY gW gH rfl ⟨by omega,by omega⟩ ⟨by omega,by omega⟩;have e1:=Xp ps l gX gY a gH [.agg [J 2,J a,J 0,.bool false,.sl [l.plan.enc,r.plan.enc],J gX,J gY,J gW,J gH]] false (by simp only[inB];omega) hf.1.2 (by simp only[Kx,Ks,La];omega);have e2:=Xp ps r (gX+a) gY (gW-a) gH (.agg [J 2,J a,J 0,.bool false,.sl [l.plan.enc,r.plan.enc],J gX,J gY,J gW,J gH] :: (pt l gX gY a gH).map Part.enc) false (by simp only[inB];omega) hf.2 (by simp only[Kx,Ks,La,KQ,Ju];omega)
   refine cE ?_;simp +contextual -implicitDefEqProofs (maxSteps:=10^7) only[go_sem,seval,↓gZ,Xl,VQ,h1,Za4,e0,e1,e2];simp[pt,Za4,BT.plan,Part.enc_mk]
  | false=>
   simp only[XI,Kd,Ku,Kc,Ko] at hf;have e0:=UG 3 a 0 false [l.plan.enc,r.plan.enc] gX gY gW gH (by decide) ⟨by omega,by omega⟩ ⟨by omega,by omega⟩;have e1:=Xp ps l gX gY gW a [.agg [J 3,J a,J 0,.bool false,.sl [l.plan.enc,r.plan.enc],J gX,J gY,J gW,J gH]] false (by simp only[inB];omega) hf.1.2 (by simp only[Kx,Ks,La];omega);have e2:=Xp ps r gX (gY+a) gW (gH-a) (.agg [J 3,J a,J 0,.bool false,.sl [l.plan.enc,r.plan.enc],J gX,J gY,J gW,J gH] :: (pt l gX gY gW a).map Part.enc) false (by simp only[inB];omega) hf.2 (by simp only[Kx,Ks,La,KQ,Ju];omega)
   refine cE ?_;simp +contextual -implicitDefEqProofs (maxSteps:=10^7) only[go_sem,seval,↓gZ,Xl,VQ,h1,Za4,e0,e1,e2];simp[pt,Za4,BT.plan,Part.enc_mk]
theorem ZjT (kW kH:Int) (kP:List Pane) (p:Zd):Zf Xs Ms Ut [(.d (.agg [J kW,J kH,.sl (kP.map Pane.enc)])),.d p.enc] []=some (.own 0,[.row 9 ((Qy (ZD.mk kW kH kP) p).map Part.enc) (!YU (ZD.mk kW kH kP) p) false]):=by
 have hv:=UH kW kH kP p;unfold YU at hv;unfold Qy YU;cases hb:X2 p with
 | none=>
  rw[hb] at hv;obtain⟨o,a,q,t,ks⟩:=p;rw[Zd.enc_mk] at hv ⊢;refine cE ?_;simp +contextual -implicitDefEqProofs (maxSteps:=10^7) only[go_sem,seval,↓gZ,Zaw,hv];try rfl
 | some b=>
  have hp:=Zhu hb;rw[hb] at hv;dsimp only at hv ⊢;by_cases hh:(decide (VW (ZD.mk kW kH kP))&&decide (b.cnt≤255)&&XI kP b kW kH)=true
  ·have aa:=hh;simp only[Kd,Ku] at aa;have hw:=aa.1.1;simp only[VW] at hw;have ab:=Zog kP b 0 0 kW kH (by simp only[inB];omega) aa.2 (by omega);rw[← hp] at ab;rw[hh] at hv ⊢;obtain⟨o,a,q,t,ks⟩:=p;rw[Zd.enc_mk] at hv ab ⊢;refine cE ?_;simp +contextual -implicitDefEqProofs (maxSteps:=10^7) only[go_sem,seval,↓gZ,Zaw,ZjH,hv,ab];try rfl
  ·have hf:=(LH _).mp hh;rw[hf] at hv ⊢;obtain⟨o,a,q,t,ks⟩:=p;rw[Zd.enc_mk] at hv ⊢;refine cE ?_;simp +contextual -implicitDefEqProofs (maxSteps:=10^7) only[go_sem,seval,↓gZ,Zaw,hv];try rfl
theorem JL (k:ZD) (p:Zd):(Qy k p).length≤255:=by
 unfold Qy;split
 ·split
  ·rename_i h;simp only[Kd,Ku] at h;rw[Ju];exact h.1.2
  ·simp
 ·simp
theorem ZcF (kW kH:Int) (kP:List Pane) (p:Zd):Zf Xs Ms YW [(.d (.agg [J kW,J kH,.sl (kP.map Pane.enc)])),.d p.enc] []=some (.own 0,[.row 6 (((Qy (ZD.mk kW kH kP) p).filterMap Xn).map Place.enc) true false]):=by
 have hv:=ZjT kW kH kP p;have hn:=JL (ZD.mk kW kH kP) p;generalize (!YU (ZD.mk kW kH kP) p)=e at hv;generalize Qy (ZD.mk kW kH kP) p=ps at hv hn ⊢;obtain⟨o,a,q,t,ks⟩:=p;rw[Zd.enc_mk] at hv ⊢;refine cE ?_;simp +contextual -implicitDefEqProofs (maxSteps:=10^7) only[go_sem,seval,↓gZ,Zej,hv];refine LO (α:=Nat) (fun k=>[(12,.d (J (k:Int)))]) (fun k=>[(1,.row 6 (((ps.take k).filterMap Xn).map Place.enc) true false)]) (fun k=>k≤ps.length) (fun k=>ps.length-k) 0 (by omega) ?_;intro k hk ih;by_cases aa:k<ps.length
 ·obtain⟨x,hx⟩:=Zr aa;have hw:=Zj (k:=k) (by omega);have hm:=Zaf (f:=Xn) hx;have ab:((ps.take k).filterMap Xn).length≤k:=Kv (Ki _ _) (by simp;omega);have hr:(((ps.take k).filterMap Xn).length+1)*48≤140737488355328∧((ps.take k).filterMap Xn).length≤140737488355327:=by omega
  obtain⟨⟨o',a',q',t',ad⟩,⟨X,Y,W,H⟩⟩:=x;simp only[Xn] at hm;by_cases ho:o'=1
  ·rw[Kl ho] at hm;simp +contextual -implicitDefEqProofs (maxSteps:=10^7) only[go_sem,seval,↓gZ,hx,aa,hw,ho,hr];refine ih (k+1) _ (by omega) (by omega) ?_;simp +contextual -implicitDefEqProofs (maxSteps:=10^7) only[go_sem,seval,↓gZ,hm]
   first | rfl | (simp;done) | (simp;rfl)
  ·rw[Kj ho] at hm;simp +contextual -implicitDefEqProofs (maxSteps:=10^7) only[go_sem,seval,↓gZ,hx,aa,hw,ho,hr];refine ih (k+1) _ (by omega) (by omega) ?_;simp +contextual -implicitDefEqProofs (maxSteps:=10^7) only[go_sem,seval,↓gZ,hm]
   first | rfl | (simp;done) | (simp;rfl)
 ·have:k=ps.length:=by omega
  subst this;simp +contextual -implicitDefEqProofs (maxSteps:=10^7) only[go_sem,seval,↓gZ];simp
theorem ZhN (kW kH:Int) (kP:List Pane) (p:Zd):Zf Xs Ms Wr [(.d (.agg [J kW,J kH,.sl (kP.map Pane.enc)])),.d p.enc] []=some (.own 0,[.row 4 (((Qy (ZD.mk kW kH kP) p).filterMap XD).map Box.enc) true false]):=by
 have hv:=ZjT kW kH kP p;have hn:=JL (ZD.mk kW kH kP) p;generalize (!YU (ZD.mk kW kH kP) p)=e at hv;generalize Qy (ZD.mk kW kH kP) p=ps at hv hn ⊢;obtain⟨o,a,q,t,ks⟩:=p;rw[Zd.enc_mk] at hv ⊢;refine cE ?_;simp +contextual -implicitDefEqProofs (maxSteps:=10^7) only[go_sem,seval,↓gZ,Zet,hv];refine LO (α:=Nat) (fun k=>[(12,.d (J (k:Int)))]) (fun k=>[(1,.row 4 (((ps.take k).filterMap XD).map Box.enc) true false)]) (fun k=>k≤ps.length) (fun k=>ps.length-k) 0 (by omega) ?_;intro k hk ih;by_cases aa:k<ps.length
 ·obtain⟨x,hx⟩:=Zr aa;have hw:=Zj (k:=k) (by omega);have hm:=Zaf (f:=XD) hx;have ab:((ps.take k).filterMap XD).length≤k:=Kv (Ki _ _) (by simp;omega);have hr:(((ps.take k).filterMap XD).length+1)*32≤140737488355328∧((ps.take k).filterMap XD).length≤140737488355327:=by omega
  obtain⟨⟨o',a',q',t',ad⟩,⟨X,Y,W,H⟩⟩:=x;simp only[XD] at hm;by_cases ho:o'=0
  ·rw[Kl ho] at hm;simp +contextual -implicitDefEqProofs (maxSteps:=10^7) only[go_sem,seval,↓gZ,hx,aa,hw,ho,hr];refine ih (k+1) _ (by omega) (by omega) ?_;simp +contextual -implicitDefEqProofs (maxSteps:=10^7) only[go_sem,seval,↓gZ,hm]
   first | rfl | (simp;done) | (simp;rfl)
  ·rw[Kj ho] at hm;simp +contextual -implicitDefEqProofs (maxSteps:=10^7) only[go_sem,seval,↓gZ,hx,aa,hw,ho,hr];refine ih (k+1) _ (by omega) (by omega) ?_;simp +contextual -implicitDefEqProofs (maxSteps:=10^7) only[go_sem,seval,↓gZ,hm]
   first | rfl | (simp;done) | (simp;rfl)
 ·have:k=ps.length:=by omega
  subst this;simp +contextual -implicitDefEqProofs (maxSteps:=10^7) only[go_sem,seval,↓gZ];simp
theorem Uk (ps:List Pane):∀ (b:BT) (gX gY gW gH:Int),inB (Box.mk gX gY gW gH)→XI ps b gW gH=true→b.cnt≤1000 →
  Zf Xs Ms Yt [.d b.plan.enc,(.d (.agg [J gX,J gY,J gW,J gH]))] []=some (.own 0,[.row 6 ((sp b gX gY gW gH).map Place.enc) true false])
 | .waste,gX,gY,gW,gH,hg,hf,hl=>by
  simp only[BT.plan,Zd.enc_mk,sp];refine cE ?_;simp +contextual -implicitDefEqProofs (maxSteps:=10^7) only[go_sem,seval,↓gZ,JR];try rfl
 | .pane i t,gX,gY,gW,gH,hg,hf,hl=>by
  simp only[BT.plan,Zd.enc_mk,sp];refine cE ?_;simp +contextual -implicitDefEqProofs (maxSteps:=10^7) only[go_sem,seval,↓gZ,JR];try rfl
 | .cut d a l r,gX,gY,gW,gH,hg,hf,hl=>by
  simp only[BT.cnt] at hl;simp only[inB] at hg;simp only[BT.plan,Zd.enc_mk];cases d with
  | true=>
   simp only[XI,Kd,Ku,Kn] at hf;have w1:=wi (gX+a) (by omega) (by omega);have w2:=wi (gW-a) (by omega) (by omega);have l1:=Zdc l gX gY a gH;have l2:=Zdc r (gX+a) gY (gW-a) gH;have e1:=Uk ps l gX gY a gH (by simp only[inB];omega) hf.1.2 (by omega);have e2:=Uk ps r (gX+a) gY (gW-a) gH (by simp only[inB];omega) hf.2 (by omega);have h1:((sp l gX gY a gH).length+(sp r (gX+a) gY (gW-a) gH).length)*48≤140737488355328∧(sp l gX gY a gH).length+(sp r (gX+a) gY (gW-a) gH).length≤140737488355328:=by omega
   refine cE ?_;simp +contextual -implicitDefEqProofs (maxSteps:=10^7) only[go_sem,seval,↓gZ,JR,Za4,w1,w2,h1,e1,e2];simp[sp]
  | false=>
   simp only[XI,Kd,Ku,Kc,Ko] at hf;have w1:=wi (gY+a) (by omega) (by omega);have w2:=wi (gH-a) (by omega) (by omega);have l1:=Zdc l gX gY gW a;have l2:=Zdc r gX (gY+a) gW (gH-a);have e1:=Uk ps l gX gY gW a (by simp only[inB];omega) hf.1.2 (by omega);have e2:=Uk ps r gX (gY+a) gW (gH-a) (by simp only[inB];omega) hf.2 (by omega);have h1:((sp l gX gY gW a).length+(sp r gX (gY+a) gW (gH-a)).length)*48≤140737488355328∧(sp l gX gY gW a).length+(sp r gX (gY+a) gW (gH-a)).length≤140737488355328:=by omega
   refine cE ?_;simp +contextual -implicitDefEqProofs (maxSteps:=10^7) only[go_sem,seval,↓gZ,JR,Za4,w1,w2,h1,e1,e2];simp[sp]
theorem J9 (qL qW qH:Int) (qF:List Box):Zf Xs Ms YY [(.d (.agg [J qL,J qW,J qH,.sl (qF.map Box.enc)]))] []=some (.d (.agg [J 0,J 0,J qW,J qH]),[]):=by
 refine cE ?_;simp +contextual -implicitDefEqProofs (maxSteps:=10^7) only[go_sem,seval,↓gZ,Zes]
theorem Q0 (qL qW qH:Int) (qF:List Box):Zf Xs Ms Xu [(.d (.agg [J qL,J qW,J qH,.sl (qF.map Box.enc)]))] []=some ((.d (.bool (decide (VPc (Zb.mk qL qW qH qF))))),[]):=by
 refine cE ?_;by_cases h0:(((qL<1∨9999<qL)∨¬VB ⟨0,0,qW,qH⟩)∨(6:Int)<qF.length)
 ·simp +contextual -implicitDefEqProofs (maxSteps:=10^7) only[go_sem,seval,↓gZ,Je,J9,Vf,h0];exact ZgI (by simp only[VPc];simp only[VB] at h0;omega)
 ·simp +contextual -implicitDefEqProofs (maxSteps:=10^7) only[go_sem,seval,↓gZ,Je,J9,Vf,h0];have hb:VB ⟨0,0,qW,qH⟩:=by
   refine Decidable.byContradiction fun h=>h0 (.inl (.inr h))
  refine LO (α:=Nat) (fun k=>[(28,.d (J (k:Int)))]) (fun _=>[]) (fun k=>k≤qF.length∧((∀ f∈qF,Zb2 qW qH f)↔∀ f∈qF.drop k,Zb2 qW qH f)) (fun k=>qF.length-k) 0 ⟨by omega,by simp⟩ ?_;intro k ⟨hk,hp⟩ ih;by_cases aa:k<qF.length
  ·obtain⟨x,hx⟩:=Zr aa;rw[ZdK hx] at hp;have hw:=Zj (k:=k) (by simp only[VB] at hb h0;omega);obtain⟨X,Y,W,H⟩:=x;simp +contextual -implicitDefEqProofs (maxSteps:=10^7) only[go_sem,seval,↓gZ,hx,aa,hw,J9,ZhK,hb];refine⟨fun h=>ZgI (fun hh=>h ((hp.1 hh.2).1)),fun h=>ih (k+1) _ ⟨by omega,?_⟩ (by omega) ?_⟩
   ·rw[hp];exact⟨fun hh=>hh.2,fun hh=>⟨h,hh⟩⟩
   ·simp +contextual -implicitDefEqProofs (maxSteps:=10^7) only[go_sem,seval,↓gZ]
  ·have:k=qF.length:=by omega
   subst this;simp +contextual -implicitDefEqProofs (maxSteps:=10^7) only[go_sem,seval,↓gZ];have hv:∀ f∈qF,Zb2 qW qH f:=hp.2 (by simp);exact Zws (by simp only[VPc];simp only[VB] at h0;exact⟨by omega,hv⟩)
theorem Zfa (qL qW qH:Int) (qF:List Box) (hl:qF.length<4611686018427387904) (hW:R64 qW) (hH:R64 qH):Zf Xs Ms YK [(.d (.agg [J qL,J qW,J qH,.sl (qF.map Box.enc)]))] []=some ((.d (.bool (decide (VPc (Zb.mk qL qW qH qF))))),[]):=by
 refine cE ?_;simp +contextual -implicitDefEqProofs (maxSteps:=10^7) only[go_sem,seval,↓gZ,ZbG];refine LO (α:=Nat) (fun k=>[(3,.d (J (k:Int)))]) (fun _=>[]) (fun k=>k≤qF.length∧((∀ f∈qF,Zb2 qW qH f)↔∀ f∈qF.drop k,Zb2 qW qH f)) (fun k=>qF.length-k) 0 ⟨by omega,by simp⟩ ?_;intro k ⟨hk,hp⟩ ih;by_cases aa:k<qF.length
 ·obtain⟨x,hx⟩:=Zr aa;rw[ZdK hx] at hp;have hw:=Zj (k:=k) (by omega);obtain⟨X,Y,W,H⟩:=x;by_cases hv:VB ⟨X,Y,W,H⟩
  ·have hi:=Zqd X Y W H 0 0 qW qH hv ⟨by omega,by omega⟩ ⟨by omega,by omega⟩ (by simpa using hW) (by simpa using hH);simp +contextual -implicitDefEqProofs (maxSteps:=10^7) only[go_sem,seval,↓gZ,hx,aa,hw,ZhJ,hi,hv];refine⟨fun h=>ZgI (fun hh=>h ((hp.1 hh.2).1.2)),fun h=>ih (k+1) _ ⟨by omega,?_⟩ (by omega) ?_⟩
   ·rw[hp];exact⟨fun hh=>hh.2,fun hh=>⟨⟨hv,h⟩,hh⟩⟩
   ·simp +contextual -implicitDefEqProofs (maxSteps:=10^7) only[go_sem,seval,↓gZ]
  ·simp +contextual -implicitDefEqProofs (maxSteps:=10^7) only[go_sem,seval,↓gZ,hx,aa,hw,ZhJ,hv];exact ZgI (fun hh=>hv ((hp.1 hh.2).1.1))
 ·have:k=qF.length:=by omega
  subst this;simp +contextual -implicitDefEqProofs (maxSteps:=10^7) only[go_sem,seval,↓gZ,ZH];have hv:∀ f∈qF,Zb2 qW qH f:=hp.2 (by simp);exact Zcs (by simp only[VPc];exact⟨fun h=>⟨by omega,hv⟩,fun h=>by omega⟩)
theorem Zoh (fs:List Box) (bX bY bW bH:Int) (hf:∀ f∈fs,VB f) (hb:VB (Box.mk bX bY bW bH)) (hl:fs.length<4611686018427387904):Zf Xs Ms WW [(.d (.sl (fs.map Box.enc))),(.d (.agg [J bX,J bY,J bW,J bH]))] []=some ((.d (.bool (!decide (Qz fs (Box.mk bX bY bW bH))))),[]):=by
 refine cE ?_;simp +contextual -implicitDefEqProofs (maxSteps:=10^7) only[go_sem,seval,↓gZ,Zc1];refine LO (α:=Nat) (fun k=>[(11,.d (J (k:Int)))]) (fun _=>[]) (fun k=>k≤fs.length∧(Qz fs (Box.mk bX bY bW bH)↔Qz (fs.drop k) (Box.mk bX bY bW bH))) (fun k=>fs.length-k) 0 ⟨by omega,by simp⟩ ?_;intro k ⟨hk,hp⟩ ih;by_cases aa:k<fs.length
 ·obtain⟨x,hx⟩:=Zr aa;have ad:=hx;unfold Qz at hp;rw[ZdK hx (fun f=>¬WF f (Box.mk bX bY bW bH))] at hp;have hw:=Zj (k:=k) (by omega);have ab:=hf x (Kb hx);obtain⟨X,Y,W,H⟩:=x;by_cases hm:WF ⟨X,Y,W,H⟩ (Box.mk bX bY bW bH)
  ·simp +contextual -implicitDefEqProofs (maxSteps:=10^7) only[go_sem,seval,↓gZ,hx,aa,hw,ZdT X Y W H bX bY bW bH ab hb hm];have:¬Qz fs (Box.mk bX bY bW bH):=fun hh=>(hp.1 hh).1 hm;simp[this]
  ·simp +contextual -implicitDefEqProofs (maxSteps:=10^7) only[go_sem,seval,↓gZ,hx,aa,hw,ZfF X Y W H bX bY bW bH (fun hh=>hm hh.2.2)];refine ih (k+1) _ ⟨by omega,?_⟩ (by omega) ?_
   ·unfold Qz;rw[hp];exact⟨fun hh=>hh.2,fun hh=>⟨hm,hh⟩⟩
   ·simp +contextual -implicitDefEqProofs (maxSteps:=10^7) only[go_sem,seval,↓gZ]
 ·have:k=fs.length:=by omega
  subst this;simp +contextual -implicitDefEqProofs (maxSteps:=10^7) only[go_sem,seval,↓gZ];have:Qz fs (Box.mk bX bY bW bH):=hp.2 (by simp[Qz]);simp[this]
theorem Zse (qL qW qH:Int) (qF:List Box) (bX bY bW bH:Int) (hf:∀ f∈qF,VB f) (hb:VB (Box.mk bX bY bW bH)) (hl:qF.length<4611686018427387904):Zf Xs Ms Zas [(.d (.agg [J qL,J qW,J qH,.sl (qF.map Box.enc)])),(.d (.agg [J bX,J bY,J bW,J bH]))] []=some ((.d (.bool (decide (Qz qF (Box.mk bX bY bW bH))))),[]):=by
 refine cE ?_;simp +contextual -implicitDefEqProofs (maxSteps:=10^7) only[go_sem,seval,↓gZ,Zf0];refine LO (α:=Nat) (fun k=>[(5,.d (J (k:Int)))]) (fun _=>[]) (fun k=>k≤qF.length∧(Qz qF (Box.mk bX bY bW bH)↔Qz (qF.drop k) (Box.mk bX bY bW bH))) (fun k=>qF.length-k) 0 ⟨by omega,by simp⟩ ?_;intro k ⟨hk,hp⟩ ih;by_cases aa:k<qF.length
 ·obtain⟨x,hx⟩:=Zr aa;unfold Qz at hp;rw[ZdK hx (fun f=>¬WF f (Box.mk bX bY bW bH))] at hp;have hw:=Zj (k:=k) (by omega);have ab:=hf x (Kb hx);obtain⟨X,Y,W,H⟩:=x;by_cases hm:WF ⟨X,Y,W,H⟩ (Box.mk bX bY bW bH)
  ·simp +contextual -implicitDefEqProofs (maxSteps:=10^7) only[go_sem,seval,↓gZ,hx,aa,hw,ZjG X Y W H bX bY bW bH ab hb hm];have:¬Qz qF (Box.mk bX bY bW bH):=fun hh=>(hp.1 hh).1 hm;simp[this]
  ·simp +contextual -implicitDefEqProofs (maxSteps:=10^7) only[go_sem,seval,↓gZ,hx,aa,hw,Zme X Y W H bX bY bW bH ab hb hm];refine ih (k+1) _ ⟨by omega,?_⟩ (by omega) ?_
   ·unfold Qz;rw[hp];exact⟨fun hh=>hh.2,fun hh=>⟨hm,hh⟩⟩
   ·simp +contextual -implicitDefEqProofs (maxSteps:=10^7) only[go_sem,seval,↓gZ]
 ·have:k=qF.length:=by omega
  subst this;simp +contextual -implicitDefEqProofs (maxSteps:=10^7) only[go_sem,seval,↓gZ];have:Qz qF (Box.mk bX bY bW bH):=hp.2 (by simp[Qz]);simp[this]
theorem ZhO (kW kH:Int) (kP:List Pane) (p:Zd) (b:BT) (hp:p=b.plan) (hg:inB ⟨0,0,kW,kH⟩) (hf:XI kP b kW kH=true) (hl:b.cnt≤1000):Zf Xs Ms Wp [(.d (.agg [J kW,J kH,.sl (kP.map Pane.enc)])),.d p.enc] []=some (.own 0,[.row 6 ((plc b 0 0 kW kH).map Place.enc) true false]):=by
 have e:=Uk kP b 0 0 kW kH hg hf hl;have hm:=ZlV b 0 0 kW kH (Zhv hf);have hn:=Zdc b 0 0 kW kH;rw[← hp] at e;rw[← hm];clear hm;generalize sp b 0 0 kW kH=S at e hn ⊢;clear hp hf hg;obtain⟨o,a,q,t,ks⟩:=p;rw[Zd.enc_mk] at e ⊢;refine cE ?_;simp +contextual -implicitDefEqProofs (maxSteps:=10^7) only[go_sem,seval,↓gZ,Zeq,e];refine LO (α:=Nat) (fun i=>[(7,.d (J (i:Int)))]) (fun i=>[(1,.row 6 (((S.take i).filterMap Zcw).map Place.enc) true false)]) (fun i=>i≤S.length) (fun i=>S.length-i) 0 (by omega) ?_;intro i hi ih;by_cases aa:i<S.length
 ·obtain⟨x,hx⟩:=Zr aa;have hw:=Zj (k:=i) (by omega);have hm:=Zaf (f:=Zcw) hx;have ab:((S.take i).filterMap Zcw).length≤i:=Kv (Ki _ _) (by simp;omega);have hr:(((S.take i).filterMap Zcw).length+1)*48≤140737488355328∧((S.take i).filterMap Zcw).length≤140737488355327:=by omega
  obtain⟨q',t',⟨X,Y,W,H⟩⟩:=x;simp only[Zcw] at hm;by_cases ho:0≤q'
  ·rw[Kl ho] at hm;simp +contextual -implicitDefEqProofs (maxSteps:=10^7) only[go_sem,seval,↓gZ,hx,aa,hw,ho,hr];refine ih (i+1) _ (by omega) (by omega) ?_;simp +contextual -implicitDefEqProofs (maxSteps:=10^7) only[go_sem,seval,↓gZ,hm]
   first | rfl | (simp;done) | (simp;rfl)
  ·rw[Kj ho] at hm;simp +contextual -implicitDefEqProofs (maxSteps:=10^7) only[go_sem,seval,↓gZ,hx,aa,hw,ho,hr];refine ih (i+1) _ (by omega) (by omega) ?_;simp +contextual -implicitDefEqProofs (maxSteps:=10^7) only[go_sem,seval,↓gZ,hm]
   first | rfl | (simp;done) | (simp;rfl)
 ·have:i=S.length:=by omega
  subst this;simp +contextual -implicitDefEqProofs (maxSteps:=10^7) only[go_sem,seval,↓gZ];simp
theorem ZhP (kW kH:Int) (kP:List Pane) (p:Zd) (b:BT) (hp:p=b.plan) (hg:inB ⟨0,0,kW,kH⟩) (hf:XI kP b kW kH=true) (hl:b.cnt≤1000):Zf Xs Ms Wo [(.d (.agg [J kW,J kH,.sl (kP.map Pane.enc)])),.d p.enc] []=some (.own 0,[.row 4 ((wst b 0 0 kW kH).map Box.enc) true false]):=by
 have e:=Uk kP b 0 0 kW kH hg hf hl;have hm:=ZlW b 0 0 kW kH (Zhv hf);have hn:=Zdc b 0 0 kW kH;rw[← hp] at e;rw[← hm];clear hm;generalize sp b 0 0 kW kH=S at e hn ⊢;clear hp hf hg;obtain⟨o,a,q,t,ks⟩:=p;rw[Zd.enc_mk] at e ⊢;refine cE ?_;simp +contextual -implicitDefEqProofs (maxSteps:=10^7) only[go_sem,seval,↓gZ,Zep,e];refine LO (α:=Nat) (fun i=>[(7,.d (J (i:Int)))]) (fun i=>[(1,.row 4 (((S.take i).filterMap Zcx).map Box.enc) true false)]) (fun i=>i≤S.length) (fun i=>S.length-i) 0 (by omega) ?_;intro i hi ih;by_cases aa:i<S.length
 ·obtain⟨x,hx⟩:=Zr aa;have hw:=Zj (k:=i) (by omega);have hm:=Zaf (f:=Zcx) hx;have ab:((S.take i).filterMap Zcx).length≤i:=Kv (Ki _ _) (by simp;omega);have hr:(((S.take i).filterMap Zcx).length+1)*32≤140737488355328∧((S.take i).filterMap Zcx).length≤140737488355327:=by omega
  obtain⟨q',t',⟨X,Y,W,H⟩⟩:=x;simp only[Zcx] at hm;by_cases ho:q' < 0
  ·rw[Kl ho] at hm;simp +contextual -implicitDefEqProofs (maxSteps:=10^7) only[go_sem,seval,↓gZ,hx,aa,hw,ho,hr];refine ih (i+1) _ (by omega) (by omega) ?_;simp +contextual -implicitDefEqProofs (maxSteps:=10^7) only[go_sem,seval,↓gZ,hm]
   first | rfl | (simp;done) | (simp;rfl)
  ·rw[Kj ho] at hm;simp +contextual -implicitDefEqProofs (maxSteps:=10^7) only[go_sem,seval,↓gZ,hx,aa,hw,ho,hr];refine ih (i+1) _ (by omega) (by omega) ?_;simp +contextual -implicitDefEqProofs (maxSteps:=10^7) only[go_sem,seval,↓gZ,hm]
   first | rfl | (simp;done) | (simp;rfl)
 ·have:i=S.length:=by omega
  subst this;simp +contextual -implicitDefEqProofs (maxSteps:=10^7) only[go_sem,seval,↓gZ];simp
theorem Zqs (qL qW qH:Int) (qF:List Box) (kW kH:Int) (kP:List Pane) (p:Zd):Zf Xs Ms U6 [(.d (.agg [J qL,J qW,J qH,.sl (qF.map Box.enc)])),(.d (.agg [J kW,J kH,.sl (kP.map Pane.enc)])),.d p.enc] []=some ((.d (.bool (decide (VPc (Zb.mk qL qW qH qF)∧VK (Zb.mk qL qW qH qF) (ZD.mk kW kH kP) p)))),[]):=by
 have ev:=UH kW kH kP p;by_cases hq:VPc (Zb.mk qL qW qH qF)
 ·by_cases hv:YU (ZD.mk kW kH kP) p=true
  ·by_cases hw:kW=qW
   ·by_cases hh:kH=qH
    ·subst hw;subst hh;have ep:=ZcF kW kH kP p;obtain⟨b,hb,ah,ai,aj,ad,af⟩:=Xd hv;have ab:∀ c∈(Qy (ZD.mk kW kH kP) p).filterMap Xn,VB c.Box:=by
      rw[af,Vr];exact ZkV (p:=p) ai ad
     have ae:((Qy (ZD.mk kW kH kP) p).filterMap Xn).length≤255:=Kv (Ki _ _) (JL _ _);have aa:VK ⟨qL,kW,kH,qF⟩ (ZD.mk kW kH kP) p↔∀ c∈(Qy (ZD.mk kW kH kP) p).filterMap Xn,Qz qF c.Box:=by
      unfold VK;exact⟨fun h=>h.2.2.2,fun h=>⟨hv,rfl,rfl,h⟩⟩
     have ak:∀ f∈qF,VB f:=fun f hf=>(hq.2 f hf).1;have an:qF.length≤6:=hq.1.2.2.2.2.2.2;rw[hv] at ev;generalize hL:(Qy (ZD.mk kW kH kP) p).filterMap Xn=L at ep ab ae aa;clear hL af ah hb;obtain⟨o,a,n,t,ks⟩:=p;rw[Zd.enc_mk] at ev ep ⊢;refine cE ?_;simp +contextual -implicitDefEqProofs (maxSteps:=10^7) only[go_sem,seval,↓gZ,Y3,Q0,hq,ev,ep];refine LO (α:=Nat) (fun i=>[(36,.d (J (i:Int)))]) (fun _=>[]) (fun i=>i≤L.length∧((∀ c∈L,Qz qF c.Box)↔∀ c∈L.drop i,Qz qF c.Box)) (fun i=>L.length-i) 0 ⟨by omega,by simp⟩ ?_;intro i ⟨hi,hp⟩ ih;by_cases ag:i<L.length
     ·obtain⟨x,hx⟩:=Zr ag;rw[ZdK hx (fun c=>Qz qF c.Box)] at hp;have hw:=Zj (k:=i) (by omega);have al:=ab x (Kb hx);obtain⟨q',t',⟨X,Y,W,H⟩⟩:=x;have em:=Zoh qF X Y W H ak al (by omega);simp +contextual -implicitDefEqProofs (maxSteps:=10^7) only[go_sem,seval,↓gZ,hx,ag,hw,em];refine⟨fun h=>ZgI (fun h'=>h ((hp.1 (aa.1 h')).1)),fun h=>ih (i+1) _ ⟨by omega,?_⟩ (by omega) ?_⟩
      ·rw[hp];exact⟨fun h'=>h'.2,fun h'=>⟨h,h'⟩⟩
      ·simp +contextual -implicitDefEqProofs (maxSteps:=10^7) only[go_sem,seval,↓gZ]
     ·have:i=L.length:=by omega
      subst this;simp +contextual -implicitDefEqProofs (maxSteps:=10^7) only[go_sem,seval,↓gZ];exact Zws (aa.2 (hp.2 (by simp)))
    ·subst hw;have hn:¬VK ⟨qL,kW,qH,qF⟩ (ZD.mk kW kH kP) p:=fun h=>hh h.2.2.1;obtain⟨o,a,n,t,ks⟩:=p;rw[hv] at ev;rw[Zd.enc_mk] at ev ⊢;refine cE ?_;simp +contextual -implicitDefEqProofs (maxSteps:=10^7) only[go_sem,seval,↓gZ,Y3,Q0,hq,ev,hh,hn]
   ·have hn:¬VK (Zb.mk qL qW qH qF) (ZD.mk kW kH kP) p:=fun h=>hw h.2.1;obtain⟨o,a,n,t,ks⟩:=p;rw[hv] at ev;rw[Zd.enc_mk] at ev ⊢;refine cE ?_;simp +contextual -implicitDefEqProofs (maxSteps:=10^7) only[go_sem,seval,↓gZ,Y3,Q0,hq,ev,hw,hn]
  ·have am:=(LH _).mp hv;have hn:¬VK (Zb.mk qL qW qH qF) (ZD.mk kW kH kP) p:=fun h=>hv h.1;rw[am] at ev;obtain⟨o,a,n,t,ks⟩:=p;rw[Zd.enc_mk] at ev ⊢;refine cE ?_;simp +contextual -implicitDefEqProofs (maxSteps:=10^7) only[go_sem,seval,↓gZ,Y3,Q0,hq,ev,hn]
 ·obtain⟨o,a,n,t,ks⟩:=p;rw[Zd.enc_mk] at ev ⊢;refine cE ?_;simp +contextual -implicitDefEqProofs (maxSteps:=10^7) only[go_sem,seval,↓gZ,Y3,Q0,hq]
theorem ZhQ (qL qW qH:Int) (qF:List Box) (kW kH:Int) (kP:List Pane) (p:Zd) (al:∀ f∈qF,VB f) (ao:qF.length≤6) (hl:kP.length<4611686018427387904):Zf Xs Ms U4 [(.d (.agg [J qL,J qW,J qH,.sl (qF.map Box.enc)])),(.d (.agg [J kW,J kH,.sl (kP.map Pane.enc)])),.d p.enc] []=some ((.d (.bool (decide (VK (Zb.mk qL qW qH qF) (ZD.mk kW kH kP) p)))),[]):=by
 have ev:=ZfG kW kH kP p hl;by_cases hv:YU (ZD.mk kW kH kP) p=true
 ·by_cases hw:kW=qW
  ·by_cases hh:kH=qH
   ·subst hw;subst hh;obtain⟨b,hb,ah,ai,ae,ab,aj⟩:=Xd hv;have af:=ai;simp only[VW] at af;have ep:=ZhO kW kH kP p b ah (by simp only[inB];omega) ab (by omega);have ad:∀ c∈plc b 0 0 kW kH,VB c.Box:=ZkV (p:=p) ai ab;have ag:(plc b 0 0 kW kH).length≤255:=by
     rw[← Vr];exact Kv (Ki _ _) (by rw[Ju];exact ae)
    have aa:VK ⟨qL,kW,kH,qF⟩ (ZD.mk kW kH kP) p↔∀ c∈plc b 0 0 kW kH,Qz qF c.Box:=by
     unfold VK;rw[aj,Vr];exact⟨fun h=>h.2.2.2,fun h=>⟨hv,rfl,rfl,h⟩⟩
    rw[hv] at ev;generalize plc b 0 0 kW kH=L at ep ad ag aa;clear aj ah hb;obtain⟨o,a,n,t,ks⟩:=p;rw[Zd.enc_mk] at ev ep ⊢;refine cE ?_;simp +contextual -implicitDefEqProofs (maxSteps:=10^7) only[go_sem,seval,↓gZ,Wx,ev,ep];refine LO (α:=Nat) (fun i=>[(8,.d (J (i:Int)))]) (fun _=>[]) (fun i=>i≤L.length∧((∀ c∈L,Qz qF c.Box)↔∀ c∈L.drop i,Qz qF c.Box)) (fun i=>L.length-i) 0 ⟨by omega,by simp⟩ ?_;intro i ⟨hi,hp⟩ ih;by_cases ak:i<L.length
    ·obtain⟨x,hx⟩:=Zr ak;rw[ZdK hx (fun c=>Qz qF c.Box)] at hp;have hw:=Zj (k:=i) (by omega);have am:=ad x (Kb hx);obtain⟨q',t',⟨X,Y,W,H⟩⟩:=x;have em:=Zse qL kW kH qF X Y W H al am (by omega);simp +contextual -implicitDefEqProofs (maxSteps:=10^7) only[go_sem,seval,↓gZ,hx,ak,hw,em];refine⟨fun h=>ZgI (fun h'=>h ((hp.1 (aa.1 h')).1)),fun h=>ih (i+1) _ ⟨by omega,?_⟩ (by omega) ?_⟩
     ·rw[hp];exact⟨fun h'=>h'.2,fun h'=>⟨h,h'⟩⟩
     ·simp +contextual -implicitDefEqProofs (maxSteps:=10^7) only[go_sem,seval,↓gZ]
    ·have:i=L.length:=by omega
     subst this;simp +contextual -implicitDefEqProofs (maxSteps:=10^7) only[go_sem,seval,↓gZ];exact Zws (aa.2 (hp.2 (by simp)))
   ·subst hw;have hn:¬VK ⟨qL,kW,qH,qF⟩ (ZD.mk kW kH kP) p:=fun h=>hh h.2.2.1;obtain⟨o,a,n,t,ks⟩:=p;rw[hv] at ev;rw[Zd.enc_mk] at ev ⊢;refine cE ?_;simp +contextual -implicitDefEqProofs (maxSteps:=10^7) only[go_sem,seval,↓gZ,Wx,ev,hh,hn]
  ·have hn:¬VK (Zb.mk qL qW qH qF) (ZD.mk kW kH kP) p:=fun h=>hw h.2.1;obtain⟨o,a,n,t,ks⟩:=p;rw[hv] at ev;rw[Zd.enc_mk] at ev ⊢;refine cE ?_;simp +contextual -implicitDefEqProofs (maxSteps:=10^7) only[go_sem,seval,↓gZ,Wx,ev,hw,hn]
 ·have an:=(LH _).mp hv;have hn:¬VK (Zb.mk qL qW qH qF) (ZD.mk kW kH kP) p:=fun h=>hv h.1;rw[an] at ev;obtain⟨o,a,n,t,ks⟩:=p;rw[Zd.enc_mk] at ev ⊢;refine cE ?_;simp +contextual -implicitDefEqProofs (maxSteps:=10^7) only[go_sem,seval,↓gZ,Wx,ev,hn]
theorem Ztr (qL qW qH:Int) (qF:List Box) (bX bY bW bH:Int) (label:Int) (hq:VPc (Zb.mk qL qW qH qF)) (hb:VB (Box.mk bX bY bW bH)) (hi:Vw (Box.mk bX bY bW bH) ⟨0,0,qW,qH⟩) (h1:1≤label) (h2:label≤9999) :
  Zf Xs Ms ZbB [(.d (.agg [J qL,J qW,J qH,.sl (qF.map Box.enc)])),(.d (.agg [J bX,J bY,J bW,J bH])),(.d (J label))] []=some (.agg [(.d (J label)),(.d (J bW)),(.d (J bH)),.own 0],[.row 4 ((qF.filterMap (Yj (Box.mk bX bY bW bH))).map Box.enc) true false]):=by
 have ae:=hq.1;simp only at ae;have n1:¬label<1:=by omega
 have n2:¬9999<label:=by omega
 have af:VB ⟨0,0,qW,qH⟩:=by simp only[VB];omega
 refine cE ?_;simp +contextual -implicitDefEqProofs (maxSteps:=10^7) only[go_sem,seval,↓gZ,Zjc,Q0,J9,ZhK,hq,hb,hi,af,n1,n2];refine LO (α:=Nat) (fun i=>[(40,.d (J (i:Int)))]) (fun i=>[(3,.row 4 (((qF.take i).filterMap (Yj (Box.mk bX bY bW bH))).map Box.enc) true false)]) (fun i=>i≤qF.length) (fun i=>qF.length-i) 0 (by omega) ?_;intro i hk ih;by_cases aa:i<qF.length
 ·obtain⟨x,hx⟩:=Zr aa;have hw:=Zj (k:=i) (by omega);have hm:=Zaf (f:=Yj (Box.mk bX bY bW bH)) hx;have ah:((qF.take i).filterMap (Yj (Box.mk bX bY bW bH))).length≤i:=Kv (Ki _ _) (by simp;omega);have hr:(((qF.take i).filterMap (Yj (Box.mk bX bY bW bH))).length+1)*32≤140737488355328∧((qF.take i).filterMap (Yj (Box.mk bX bY bW bH))).length≤140737488355327:=by omega
  have ad:=(hq.2 x (Kb hx)).1;obtain⟨X,Y,W,H⟩:=x;have ab:=ad;have ag:=hb;simp only[VB] at ab ag;simp only[Yj] at hm;by_cases ho:WF ⟨X,Y,W,H⟩ (Box.mk bX bY bW bH)
  ·rw[Kl ho] at hm;have w1:=wi (max X bX-bX) (by omega) (by omega);have w2:=wi (max Y bY-bY) (by omega) (by omega);simp +contextual -implicitDefEqProofs (maxSteps:=10^7) only[go_sem,seval,↓gZ,hx,aa,hw,ZdT X Y W H bX bY bW bH ad hb ho,hr,ZgK,w1,w2];refine ih (i+1) _ (by omega) (by omega) ?_;simp +contextual -implicitDefEqProofs (maxSteps:=10^7) only[go_sem,seval,↓gZ,hm,ZsP,ZgK]
   first | rfl | (simp;done) | (simp;rfl)
  ·rw[Kj ho] at hm;simp +contextual -implicitDefEqProofs (maxSteps:=10^7) only[go_sem,seval,↓gZ,hx,aa,hw,ZfF X Y W H bX bY bW bH (fun hh=>ho hh.2.2),hr];refine ih (i+1) _ (by omega) (by omega) ?_;simp +contextual -implicitDefEqProofs (maxSteps:=10^7) only[go_sem,seval,↓gZ,hm]
   first | rfl | (simp;done) | (simp;rfl)
 ·have:i=qF.length:=by omega
  subst this;simp +contextual -implicitDefEqProofs (maxSteps:=10^7) only[go_sem,seval,↓gZ];try simp
theorem Zts (qL qW qH:Int) (qF:List Box) (bX bY bW bH:Int) (label:Int) (hf:∀ f∈qF,VB f) (hl:qF.length≤6) (hb:VB (Box.mk bX bY bW bH)) :
  Zf Xs Ms ZbA [(.d (.agg [J qL,J qW,J qH,.sl (qF.map Box.enc)])),(.d (.agg [J bX,J bY,J bW,J bH])),(.d (J label))] []=some (.agg [(.d (J label)),(.d (J bW)),(.d (J bH)),.own 0],[.row 4 ((qF.filterMap (Yj (Box.mk bX bY bW bH))).map Box.enc) true false]):=by
 refine cE ?_;simp +contextual -implicitDefEqProofs (maxSteps:=10^7) only[go_sem,seval,↓gZ,Zjb];refine LO (α:=Nat) (fun i=>[(8,.d (J (i:Int)))]) (fun i=>[(4,.row 4 (((qF.take i).filterMap (Yj (Box.mk bX bY bW bH))).map Box.enc) true false)]) (fun i=>i≤qF.length) (fun i=>qF.length-i) 0 (by omega) ?_;intro i hk ih;by_cases aa:i<qF.length
 ·obtain⟨x,hx⟩:=Zr aa;have hw:=Zj (k:=i) (by omega);have hm:=Zaf (f:=Yj (Box.mk bX bY bW bH)) hx;have af:((qF.take i).filterMap (Yj (Box.mk bX bY bW bH))).length≤i:=Kv (Ki _ _) (by simp;omega);have hr:(((qF.take i).filterMap (Yj (Box.mk bX bY bW bH))).length+1)*32≤140737488355328∧((qF.take i).filterMap (Yj (Box.mk bX bY bW bH))).length≤140737488355327:=by omega
  have ab:=hf x (Kb hx);obtain⟨X,Y,W,H⟩:=x;have ad:=ab;have ae:=hb;simp only[VB] at ad ae;simp only[Yj] at hm;by_cases ho:WF ⟨X,Y,W,H⟩ (Box.mk bX bY bW bH)
  ·rw[Kl ho] at hm;have w1:=wi (max X bX-bX) (by omega) (by omega);have w2:=wi (max Y bY-bY) (by omega) (by omega);simp +contextual -implicitDefEqProofs (maxSteps:=10^7) only[go_sem,seval,↓gZ,hx,aa,hw,ZjG X Y W H bX bY bW bH ab hb ho,hr,ZgK,w1,w2];refine ih (i+1) _ (by omega) (by omega) ?_;simp +contextual -implicitDefEqProofs (maxSteps:=10^7) only[go_sem,seval,↓gZ,hm,ZsP,ZgK]
   first | rfl | (simp;done) | (simp;rfl)
  ·rw[Kj ho] at hm;simp +contextual -implicitDefEqProofs (maxSteps:=10^7) only[go_sem,seval,↓gZ,hx,aa,hw,Zme X Y W H bX bY bW bH ab hb ho,hr];refine ih (i+1) _ (by omega) (by omega) ?_;simp +contextual -implicitDefEqProofs (maxSteps:=10^7) only[go_sem,seval,↓gZ,hm]
   first | rfl | (simp;done) | (simp;rfl)
 ·have:i=qF.length:=by omega
  subst this;simp +contextual -implicitDefEqProofs (maxSteps:=10^7) only[go_sem,seval,↓gZ];try simp
theorem Zfb (kW kH:Int) (kP:List Pane) (p:Zd) (Zi:Int):Zf Xs Ms V2 [(.d (.agg [J kW,J kH,.sl (kP.map Pane.enc)])),.d p.enc,(.d (J Zi))] []=some (.own 0,[.row 4 ((QR (ZD.mk kW kH kP) p Zi).map Box.enc) true false]):=by
 have hv:=ZhN kW kH kP p;have hn:((Qy (ZD.mk kW kH kP) p).filterMap XD).length≤255:=Kv (Ki _ _) (JL (ZD.mk kW kH kP) p);unfold QR;generalize (Qy (ZD.mk kW kH kP) p).filterMap XD=ps at hv hn ⊢;obtain⟨o,a,q,t,ks⟩:=p;rw[Zd.enc_mk] at hv ⊢;refine cE ?_;simp +contextual -implicitDefEqProofs (maxSteps:=10^7) only[go_sem,seval,↓gZ,ZbI,hv];refine LO (α:=Nat) (fun k=>[(14,.d (J (k:Int)))]) (fun k=>[(1,.row 4 (((ps.take k).filterMap (W3 Zi)).map Box.enc) true false)]) (fun k=>k≤ps.length) (fun k=>ps.length-k) 0 (by omega) ?_;intro k hk ih;by_cases aa:k<ps.length
 ·obtain⟨x,hx⟩:=Zr aa;have hw:=Zj (k:=k) (by omega);have hm:=Zaf (f:=W3 Zi) hx;have ab:((ps.take k).filterMap (W3 Zi)).length≤k:=Kv (Ki _ _) (by simp;omega);have hr:(((ps.take k).filterMap (W3 Zi)).length+1)*32≤140737488355328∧((ps.take k).filterMap (W3 Zi)).length≤140737488355327:=by omega
  obtain⟨X,Y,W,H⟩:=x;simp only[W3] at hm;by_cases ho:Zi≤W∧Zi≤H
  ·rw[Kl ho] at hm;simp +contextual -implicitDefEqProofs (maxSteps:=10^7) only[go_sem,seval,↓gZ,hx,aa,hw,ho,hr];refine ih (k+1) _ (by omega) (by omega) ?_;simp +contextual -implicitDefEqProofs (maxSteps:=10^7) only[go_sem,seval,↓gZ,hm]
   first | rfl | (simp;done) | (simp;rfl)
  ·rw[Kj ho] at hm;simp +contextual -implicitDefEqProofs (maxSteps:=10^7) only[go_sem,seval,↓gZ,hx,aa,hw,ho,hr];refine ih (k+1) _ (by omega) (by omega) ?_;simp +contextual -implicitDefEqProofs (maxSteps:=10^7) only[go_sem,seval,↓gZ,hm]
   first | rfl | (simp;done) | (simp;rfl)
 ·have:k=ps.length:=by omega
  subst this;simp +contextual -implicitDefEqProofs (maxSteps:=10^7) only[go_sem,seval,↓gZ];simp
theorem ZjU (qL qW qH:Int) (qF:List Box) (kW kH:Int) (kP:List Pane) (p:Zd) (Zi label:Int) (hq:VPc (Zb.mk qL qW qH qF)) (hv:YU (ZD.mk kW kH kP) p=true) (hW:kW=qW) (hH:kH=qH) (h1:1≤label) (h2:label≤10000)
  (hk:(QR (ZD.mk kW kH kP) p Zi).length≤10000-label):Zf Xs Ms Ya [(.d (.agg [J qL,J qW,J qH,.sl (qF.map Box.enc)])),(.d (.agg [J kW,J kH,.sl (kP.map Pane.enc)])),.d p.enc,(.d (J Zi)),(.d (J label))] [] =
  some (.tup [.own 0,(.d (.bool true))],[.tree 4 4 ((Uf (Zb.mk qL qW qH qF) label (QR (ZD.mk kW kH kP) p Zi)).map Zb.enc) none]):=by
 have ek:=Zfb kW kH kP p Zi;have aa:∀ b∈QR (ZD.mk kW kH kP) p Zi,VB b∧Vw b ⟨0,0,qW,qH⟩:=by
  intro b hb;have:=ZpE (Zi:=Zi) hv b hb;rw[← hW,← hH];exact this
 have hn:=Zhw (ZD.mk kW kH kP) p Zi;generalize QR (ZD.mk kW kH kP) p Zi=L at ek aa hn hk ⊢;clear hv;have w0:=wi (10000-label) (by omega) (by omega);have n0:¬(10000-label<(L.length:Int)):=by omega
 obtain⟨o,a,n,t,ks⟩:=p;rw[Zd.enc_mk] at ek ⊢;refine cE ?_;simp +contextual -implicitDefEqProofs (maxSteps:=10^7) only[go_sem,seval,↓gZ,W6,ek,w0,n0];refine LO (α:=Nat) (fun i=>[(27,.d (J (i:Int)))]) (fun i=>[(1,.tree 4 4 ((Uf (Zb.mk qL qW qH qF) label (L.take i)).map Zb.enc) none)]) (fun i=>i≤L.length) (fun i=>L.length-i) 0 (by omega) ?_;intro i hi ih;by_cases ab:i<L.length
 ·obtain⟨x,hx⟩:=Zr ab;have hw:=Zj (k:=i) (by omega);have hm:=Zxu (Zb.mk qL qW qH qF) label hx;have hl:(Uf (Zb.mk qL qW qH qF) label (L.take i)).length=i:=by rw[Zb3];simp;omega
  have hr:(i+1)*48≤140737488355328∧i≤140737488355327:=by omega
  have ad:=aa x (Kb hx);have w1:=wi (label+(i:Int)) (by omega) (by omega);obtain⟨X,Y,W,H⟩:=x;have hc:=Ztr qL qW qH qF X Y W H (label+(i:Int)) hq ad.1 ad.2 (by omega) (by omega);have z6:=aF (l:=(ZlY (Zb.mk qL qW qH qF) ⟨X,Y,W,H⟩ (label+(i:Int))).Flaws) (g:=Box.enc) fun _=>rfl;simp only[ZlY] at z6;simp +contextual -implicitDefEqProofs (maxSteps:=10^7) only[go_sem,seval,↓gZ,hx,ab,hw,w1,hc,hl,hr,z6];refine ih (i+1) _ (by omega) (by omega) ?_;simp +contextual -implicitDefEqProofs (maxSteps:=10^7) only[go_sem,seval,↓gZ,hm,ZlY]
  first | rfl | (simp;done) | (simp;rfl)
 ·have:i=L.length:=by omega
  subst this;simp +contextual -implicitDefEqProofs (maxSteps:=10^7) only[go_sem,seval,↓gZ];try simp
theorem Zli (qL qW qH:Int) (qF:List Box) (kW kH:Int) (kP:List Pane) (p:Zd) (Zi label:Int) (h1:1≤label) (h2:label≤10000)
  (hk:¬(QR (ZD.mk kW kH kP) p Zi).length≤10000-label):Zf Xs Ms Ya [(.d (.agg [J qL,J qW,J qH,.sl (qF.map Box.enc)])),(.d (.agg [J kW,J kH,.sl (kP.map Pane.enc)])),.d p.enc,(.d (J Zi)),(.d (J label))] [] =
  some (.tup [.own 0,(.d (.bool false))],[.row 4 [] true false]):=by
 have ek:=Zfb kW kH kP p Zi;generalize QR (ZD.mk kW kH kP) p Zi=L at ek hk ⊢;have w0:=wi (10000-label) (by omega) (by omega);have n0:10000-label<(L.length:Int):=by omega
 obtain⟨o,a,n,t,ks⟩:=p;rw[Zd.enc_mk] at ek ⊢;refine cE ?_;simp +contextual -implicitDefEqProofs (maxSteps:=10^7) only[go_sem,seval,↓gZ,W6,ek,w0,n0]
def Tr4 (l:List Zb) (o:Zn):Prop:=o=.tree 4 4 (l.map Zb.enc) none∨l=[]∧o=.row 4 [] true false
theorem Zbk (bX bY bW bH:Int) (Zi:Int):Zf Xs Ms Vm [(.d (.agg [J bX,J bY,J bW,J bH])),(.d (J Zi))] []=some ((.d (.bool (decide (Zi≤bW∧Zi≤bH)))),[]):=by
 refine cE ?_;simp +contextual -implicitDefEqProofs (maxSteps:=10^7) only[go_sem,seval,↓gZ,ZcZ]
theorem ZjV (bX bY bW bH:Int) (hb:VB (Box.mk bX bY bW bH)):Zf Xs Ms Us [(.d (.agg [J bX,J bY,J bW,J bH]))] []=some ((.d (J (bW*bH))),[]):=by
 have h:=Zhx hb;simp only at h;have w:=wi (bW*bH) (by omega) (by omega);refine cE ?_;simp +contextual -implicitDefEqProofs (maxSteps:=10^7) only[go_sem,seval,↓gZ,ZfZ,w]
theorem Zqt (kW kH:Int) (kP:List Pane) (p:Zd) (Zi:Int) (hv:YU (ZD.mk kW kH kP) p=true) (h1:1≤Zi) (h2:Zi≤200):Zf Xs Ms U0 [(.d (.agg [J kW,J kH,.sl (kP.map Pane.enc)])),.d p.enc,(.d (J Zi))] [] =
  some ((.d (J (XJ (ZdL (ZD.mk kW kH kP) p Zi)))),[]):=by
 have ev:=UH kW kH kP p;rw[hv] at ev;have ep:=ZhN kW kH kP p;have aa:=ZdM hv;have ad:((Qy (ZD.mk kW kH kP) p).filterMap XD).length≤255:=Kv (Ki _ _) (JL _ _);unfold ZdL;generalize (Qy (ZD.mk kW kH kP) p).filterMap XD=L at ep aa ad ⊢;clear hv;have n1:¬Zi<1:=by omega
 have n2:¬200<Zi:=by omega
 obtain⟨o,a,n,t,ks⟩:=p;rw[Zd.enc_mk] at ev ep ⊢;refine cE ?_;simp +contextual -implicitDefEqProofs (maxSteps:=10^7) only[go_sem,seval,↓gZ,Zek,ev,ep,n1,n2];refine LO (α:=Nat) (fun i=>[(26,.d (J (i:Int))),(7,.d (J (XJ ((L.take i).filterMap (Uw Zi)))))]) (fun _=>[]) (fun i=>i≤L.length) (fun i=>L.length-i) 0 (by omega) ?_;intro i hi ih;by_cases ae:i<L.length
 ·obtain⟨x,hx⟩:=Zr ae;have hw:=Zj (k:=i) (by omega);have hm:=Zaf (f:=Uw Zi) hx;have af:=aa x (Kb hx);have ha:=ZgU (l:=(L.take i).filterMap (Uw Zi)) (fun c hc=>by
   obtain⟨d,hd,ab⟩:=Lu.1 hc;unfold Uw at ab;split at ab
   ·cases ab;exact aa c (KY hd)
   ·cases ab)
  have ah:((L.take i).filterMap (Uw Zi)).length≤i:=Kv (Ki _ _) (by simp;omega);have ag:=Zhx af;obtain⟨X,Y,W,H⟩:=x;simp only at ag;have w1:=wi (XJ ((L.take i).filterMap (Uw Zi))+W*H) (by omega) (by omega);simp only[Uw] at hm;by_cases ho:W<Zi∨H<Zi
  ·rw[Kl ho] at hm;simp +contextual -implicitDefEqProofs (maxSteps:=10^7) only[go_sem,seval,↓gZ,hx,ae,hw,ho,ZjV X Y W H af,w1];refine ih (i+1) _ (by omega) (by omega) ?_;simp +contextual -implicitDefEqProofs (maxSteps:=10^7) only[go_sem,seval,↓gZ,hm,Za6,Option.toList,XJ]
   first | rfl | (simp;done) | (simp;rfl)
  ·rw[Kj ho] at hm;simp +contextual -implicitDefEqProofs (maxSteps:=10^7) only[go_sem,seval,↓gZ,hx,ae,hw,ho];refine ih (i+1) _ (by omega) (by omega) ?_;simp +contextual -implicitDefEqProofs (maxSteps:=10^7) only[go_sem,seval,↓gZ,hm]
   first | rfl | (simp;done) | (simp;rfl)
 ·have:i=L.length:=by omega
  subst this;simp +contextual -implicitDefEqProofs (maxSteps:=10^7) only[go_sem,seval,↓gZ];try simp
theorem Zqu (qL qW qH:Int) (qF:List Box) (kW kH:Int) (kP:List Pane) (p:Zd) (Zi label:Int) (hq:VPc (Zb.mk qL qW qH qF)) (hv:YU (ZD.mk kW kH kP) p=true) (h1:1≤label) (h2:label≤10000) :
  Zf Xs Ms U5 [(.d (.agg [J qL,J qW,J qH,.sl (qF.map Box.enc)])),(.d (.agg [J kW,J kH,.sl (kP.map Pane.enc)])),.d p.enc,(.d (J Zi)),(.d (J label))] [] =
  some (.own 0,[.row 4 ((Uf (Zb.mk qL qW qH qF) label (QR (ZD.mk kW kH kP) p Zi)).map Zb.enc) true false]):=by
 obtain⟨b,hb,ah,ai,ak,ae,aj⟩:=Xd hv;have af:=ai;simp only[VW] at af;have ep:=ZhP kW kH kP p b ah (by simp only[inB];omega) ae (by omega);have ab:=ZdM hv;have ad:((Qy (ZD.mk kW kH kP) p).filterMap XD).length≤255:=Kv (Ki _ _) (JL _ _);unfold QR;rw[aj,ZdJ] at ab ad ⊢;have al:∀ f∈qF,VB f:=fun f hf=>(hq.2 f hf).1;have am:qF.length≤6:=hq.1.2.2.2.2.2.2;have aa:∀ i,((wst b 0 0 kW kH).take i).length≤255:=fun i=>Kv (List.length_take_le' _ _) ad;generalize wst b 0 0 kW kH=L at ep ab ad aa ⊢;clear aj ah hb hv ae ai af;obtain⟨o,a,n,t,ks⟩:=p;rw[Zd.enc_mk] at ep ⊢;refine cE ?_
 simp +contextual -implicitDefEqProofs (maxSteps:=10^7) only[go_sem,seval,↓gZ,Zeo,ep];refine LO (α:=Nat) (fun i=>[(13,.d (J (i:Int)))]) (fun i=>[(1,.row 4 ((Uf (Zb.mk qL qW qH qF) label ((L.take i).filterMap (W3 Zi))).map Zb.enc) true false)]) (fun i=>i≤L.length) (fun i=>L.length-i) 0 (by omega) ?_;intro i hi ih;by_cases ag:i<L.length
 ·obtain⟨x,hx⟩:=Zr ag;have hw:=Zj (k:=i) (by omega);have hm:=Zaf (f:=W3 Zi) hx;have ap:((L.take i).filterMap (W3 Zi)).length≤255:=Kv (Ki _ _) (aa i);have hl:=Zb3 (Zb.mk qL qW qH qF) label ((L.take i).filterMap (W3 Zi));have hr:(((L.take i).filterMap (W3 Zi)).length+1)*48≤140737488355328∧((L.take i).filterMap (W3 Zi)).length≤140737488355327:=by omega
  have w1:=wi (label+(((L.take i).filterMap (W3 Zi)).length:Int)) (by omega) (by omega);have an:=ab x (Kb hx);have ao:=fun y=>ZgT (Zb.mk qL qW qH qF) label ((L.take i).filterMap (W3 Zi)) [y];obtain⟨X,Y,W,H⟩:=x;simp only[W3] at hm;have hc:=Zts qL qW qH qF X Y W H (label+(((L.take i).filterMap (W3 Zi)).length:Int)) al am an;by_cases ho:Zi≤W∧Zi≤H
  ·rw[Kl ho] at hm;simp +contextual -implicitDefEqProofs (maxSteps:=10^7) only[go_sem,seval,↓gZ,hx,ag,hw,Zbk,ho,hl,w1,hc,hr];refine ih (i+1) _ (by omega) (by omega) ?_;simp +contextual -implicitDefEqProofs (maxSteps:=10^7) only[go_sem,seval,↓gZ,hm,Option.toList,ao,Uf,ZlY]
   first | rfl | (simp;done) | (simp;rfl)
  ·rw[Kj ho] at hm;simp +contextual -implicitDefEqProofs (maxSteps:=10^7) only[go_sem,seval,↓gZ,hx,ag,hw,Zbk,ho];refine ih (i+1) _ (by omega) (by omega) ?_;simp +contextual -implicitDefEqProofs (maxSteps:=10^7) only[go_sem,seval,↓gZ,hm]
   first | rfl | (simp;done) | (simp;rfl)
 ·have:i=L.length:=by omega
  subst this;simp +contextual -implicitDefEqProofs (maxSteps:=10^7) only[go_sem,seval,↓gZ];try simp
end Go.Proofs.YtdhgppkldoopaaaGreat
