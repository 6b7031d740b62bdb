/- Own text. -/
import Derived.Test.YtbpekaejmjlmfaaGreatACode
import Derived.Test.YtbpekaejmjlmfaaGreatAbsParts
import Derived.Test.YtbpekaejmjlmfaaGreatAC1
namespace Go.Proofs.YtbpekaejmjlmfaaGreat
open Go Go.Abs Go.Abs.E Go.Abs.L
open Nat (reduceMul reduceSub reduceLeDiff reduceEqDiff)
open Int (reduceLE reduceEq reduceToNat reduceNeg)
set_option linter.unusedSimpArgs false
set_option linter.unusedVariables false
set_option maxRecDepth 20000
set_option maxHeartbeats 4000000
theorem XR (ps:List Pane):∀ (b:BT) (gX gY gW gH:Int) (xs:List D) (ex:Bool),inB (Box.mk gX gY gW gH)→QF ps b gW gH=true→xs.length+b.cnt≤1000 →
  Zd Xs Ms Qm [.own 0,.d b.plan.enc,(.d (.agg [J gX,J gY,J gW,J gH]))] [.row 9 xs ex false]=some (.own 1,[.gone,.row 9 (xs++(pt b gX gY gW gH).map Part.enc) false false])
 | .waste,gX,gY,gW,gH,xs,ex,hg,hf,hl=>by
  simp only[BT.cnt] at hl;have h1:(xs.length+1)*88≤140737488355328∧xs.length≤140737488355327:=by omega
  simp only[BT.plan,Ze.enc_mk,pt];refine cE ?_;simp +contextual -implicitDefEqProofs (maxSteps:=10^7) only[go_sem,seval,↓gZ,XM,Zr,h1]
 | .pane i t,gX,gY,gW,gH,xs,ex,hg,hf,hl=>by
  simp only[BT.cnt] at hl;have h1:(xs.length+1)*88≤140737488355328∧xs.length≤140737488355327:=by omega
  simp only[BT.plan,Ze.enc_mk,pt];refine cE ?_;simp +contextual -implicitDefEqProofs (maxSteps:=10^7) only[go_sem,seval,↓gZ,XM,Zr,h1]
 | .cut d a l r,gX,gY,gW,gH,xs,ex,hg,hf,hl=>by
  simp only[BT.cnt] at hl;have h1:(xs.length+1)*88≤140737488355328∧xs.length≤140737488355327:=by omega
  simp only[inB] at hg;simp only[BT.plan,Ze.enc_mk];cases d with
  | true=>
   simp only[QF,Kd,Kr,Kk] at hf;have e0:=Jv 2 a 0 false [l.plan.enc,r.plan.enc] gX gY gW gH rfl ⟨by omega,by omega⟩ ⟨by omega,by omega⟩;have e1:=XR ps l gX gY a gH (xs++[.agg [J 2,J a,J 0,.bool false,.sl [l.plan.enc,r.plan.enc],J gX,J gY,J gW,J gH]]) false (by simp only[inB];omega) hf.1.2 (by simp only[Kp,Km,KI];omega);have e2:=XR ps r (gX+a) gY (gW-a) gH (xs++[.agg [J 2,J a,J 0,.bool false,.sl [l.plan.enc,r.plan.enc],J gX,J gY,J gW,J gH]]++(pt l gX gY a gH).map Part.enc) false (by simp only[inB];omega) hf.2 (by simp only[Kp,Km,KI,Kv,WD];omega)
   refine cE ?_;simp +contextual -implicitDefEqProofs (maxSteps:=10^7) only[go_sem,seval,↓gZ,XM,Zr,h1,Z9,e0,e1,e2];simp[pt,Z9,BT.plan,Part.enc_mk]
  | false=>
   simp only[QF,Kd,Kr,Ka,Kj] at hf;have e0:=WF 3 a 0 false [l.plan.enc,r.plan.enc] gX gY gW gH (by decide) ⟨by omega,by omega⟩ ⟨by omega,by omega⟩;have e1:=XR ps l gX gY gW a (xs++[.agg [J 3,J a,J 0,.bool false,.sl [l.plan.enc,r.plan.enc],J gX,J gY,J gW,J gH]]) false (by simp only[inB];omega) hf.1.2 (by simp only[Kp,Km,KI];omega);have e2:=XR ps r gX (gY+a) gW (gH-a) (xs++[.agg [J 3,J a,J 0,.bool false,.sl [l.plan.enc,r.plan.enc],J gX,J gY,J gW,J gH]]++(pt l gX gY gW a).map Part.enc) false (by simp only[inB];omega) hf.2 (by simp only[Kp,Km,KI,Kv,WD];omega)
   refine cE ?_;simp +contextual -implicitDefEqProofs (maxSteps:=10^7) only[go_sem,seval,↓gZ,XM,Zr,h1,Z9,e0,e1,e2];simp[pt,Z9,BT.plan,Part.enc_mk]
theorem ZoY (ps:List Pane):∀ (b:BT) (gX gY gW gH:Int),inB (Box.mk gX gY gW gH)→QF ps b gW gH=true→b.cnt≤1000 →
  Zd Xs Ms Qm [.nil,.d b.plan.enc,(.d (.agg [J gX,J gY,J gW,J gH]))] []=some (.own 0,[.row 9 ((pt b gX gY gW gH).map Part.enc) false false])
 | .waste,gX,gY,gW,gH,hg,hf,hl=>by
  have h1:1*88≤ZI∧1≤ZI:=by unfold ZI;omega
  simp only[BT.plan,Ze.enc_mk,pt];refine cE ?_;simp +contextual -implicitDefEqProofs (maxSteps:=10^7) only[go_sem,seval,↓gZ,XM,Zr,h1]
 | .pane i t,gX,gY,gW,gH,hg,hf,hl=>by
  have h1:1*88≤ZI∧1≤ZI:=by unfold ZI;omega
  simp only[BT.plan,Ze.enc_mk,pt];refine cE ?_;simp +contextual -implicitDefEqProofs (maxSteps:=10^7) only[go_sem,seval,↓gZ,XM,Zr,h1]
 | .cut d a l r,gX,gY,gW,gH,hg,hf,hl=>by
  simp only[BT.cnt] at hl;have h1:1*88≤ZI∧1≤ZI:=by unfold ZI;omega
  simp only[inB] at hg;simp only[BT.plan,Ze.enc_mk];cases d with
  | true=>
   simp only[QF,Kd,Kr,Kk] at hf;have e0:=Jv 2 a 0 false [l.plan.enc,r.plan.enc] gX gY gW gH rfl ⟨by omega,by omega⟩ ⟨by omega,by omega⟩;have e1:=XR ps l gX gY a gH [.agg [J 2,J a,J 0,.bool false,.sl [l.plan.enc,r.plan.enc],J gX,J gY,J gW,J gH]] false (by simp only[inB];omega) hf.1.2 (by simp only[Kp,Km,KI];omega);have e2:=XR ps r (gX+a) gY (gW-a) gH (.agg [J 2,J a,J 0,.bool false,.sl [l.plan.enc,r.plan.enc],J gX,J gY,J gW,J gH] :: (pt l gX gY a gH).map Part.enc) false (by simp only[inB];omega) hf.2 (by simp only[Kp,Km,KI,Kv,WD];omega)
   refine cE ?_;simp +contextual -implicitDefEqProofs (maxSteps:=10^7) only[go_sem,seval,↓gZ,XM,Zr,h1,Z9,e0,e1,e2];simp[pt,Z9,BT.plan,Part.enc_mk]
  | false=>
   simp only[QF,Kd,Kr,Ka,Kj] at hf;have e0:=WF 3 a 0 false [l.plan.enc,r.plan.enc] gX gY gW gH (by decide) ⟨by omega,by omega⟩ ⟨by omega,by omega⟩;have e1:=XR ps l gX gY gW a [.agg [J 3,J a,J 0,.bool false,.sl [l.plan.enc,r.plan.enc],J gX,J gY,J gW,J gH]] false (by simp only[inB];omega) hf.1.2 (by simp only[Kp,Km,KI];omega);have e2:=XR ps r gX (gY+a) gW (gH-a) (.agg [J 3,J a,J 0,.bool false,.sl [l.plan.enc,r.plan.enc],J gX,J gY,J gW,J gH] :: (pt l gX gY gW a).map Part.enc) false (by simp only[inB];omega) hf.2 (by simp only[Kp,Km,KI,Kv,WD];omega)
   refine cE ?_;simp +contextual -implicitDefEqProofs (maxSteps:=10^7) only[go_sem,seval,↓gZ,XM,Zr,h1,Z9,e0,e1,e2];simp[pt,Z9,BT.plan,Part.enc_mk]
theorem Zcu (kW kH:Int) (kP:List Pane) (p:Ze):Zd Xs Ms VK [(.d (.agg [J kW,J kH,.sl (kP.map Pane.enc)])),.d p.enc] []=some (.own 0,[.row 9 ((ZU (Zs.mk kW kH kP) p).map Part.enc) (!Q6 (Zs.mk kW kH kP) p) false]):=by
 have hv:=WS kW kH kP p;unfold Q6 at hv;unfold ZU Q6;cases hb:Xz p with
 | none=>
  rw[hb] at hv;obtain⟨o,a,q,t,ks⟩:=p;rw[Ze.enc_mk] at hv ⊢;refine cE ?_;simp +contextual -implicitDefEqProofs (maxSteps:=10^7) only[go_sem,seval,↓gZ,ZbY,hv];try rfl
 | some b=>
  have hp:=ZcO hb;rw[hb] at hv;dsimp only at hv ⊢;by_cases hh:(decide (VW (Zs.mk kW kH kP))&&decide (b.cnt≤255)&&QF kP b kW kH)=true
  ·have aa:=hh;simp only[Kd,Kr] at aa;have hw:=aa.1.1;simp only[VW] at hw;have ab:=ZoY kP b 0 0 kW kH (by simp only[inB];omega) aa.2 (by omega);rw[← hp] at ab;rw[hh] at hv ⊢;obtain⟨o,a,q,t,ks⟩:=p;rw[Ze.enc_mk] at hv ab ⊢;refine cE ?_;simp +contextual -implicitDefEqProofs (maxSteps:=10^7) only[go_sem,seval,↓gZ,ZbY,Zcq,hv,ab];try rfl
  ·have hf:=(LB _).mp hh;rw[hf] at hv ⊢;obtain⟨o,a,q,t,ks⟩:=p;rw[Ze.enc_mk] at hv ⊢;refine cE ?_;simp +contextual -implicitDefEqProofs (maxSteps:=10^7) only[go_sem,seval,↓gZ,ZbY,hv];try rfl
theorem JI (k:Zs) (p:Ze):(ZU k p).length≤255:=by
 unfold ZU;split
 ·split
  ·rename_i h;simp only[Kd,Kr] at h;rw[WD];exact h.1.2
  ·simp
 ·simp
theorem Zer (kW kH:Int) (kP:List Pane) (p:Ze):Zd Xs Ms VT [(.d (.agg [J kW,J kH,.sl (kP.map Pane.enc)])),.d p.enc] []=some (.own 0,[.row 6 (((ZU (Zs.mk kW kH kP) p).filterMap Q8).map Place.enc) true false]):=by
 have hv:=Zcu kW kH kP p;have hn:=JI (Zs.mk kW kH kP) p;generalize (!Q6 (Zs.mk kW kH kP) p)=e at hv;generalize ZU (Zs.mk kW kH kP) p=ps at hv hn ⊢;obtain⟨o,a,q,t,ks⟩:=p;rw[Ze.enc_mk] at hv ⊢;refine cE ?_;simp +contextual -implicitDefEqProofs (maxSteps:=10^7) only[go_sem,seval,↓gZ,ZfT,hv];refine LO (α:=Nat) (fun k=>[(12,.d (J (k:Int)))]) (fun k=>[(1,.row 6 (((ps.take k).filterMap Q8).map Place.enc) true false)]) (fun k=>k≤ps.length) (fun k=>ps.length-k) 0 (by omega) ?_;intro k hk ih;by_cases aa:k<ps.length
 ·obtain⟨x,hx⟩:=Zl aa;have hw:=Zh (k:=k) (by omega);have hm:=Za1 (f:=Q8) hx;have ab:((ps.take k).filterMap Q8).length≤k:=Kt (Kn _ _) (by simp;omega);have hr:(((ps.take k).filterMap Q8).length+1)*48≤140737488355328∧((ps.take k).filterMap Q8).length≤140737488355327:=by omega
  obtain⟨⟨o',a',q',t',ad⟩,⟨X,Y,W,H⟩⟩:=x;simp only[Q8] at hm;by_cases ho:o'=1
  ·rw[Kl ho] at hm;simp +contextual -implicitDefEqProofs (maxSteps:=10^7) only[go_sem,seval,↓gZ,hx,aa,hw,ho,hr];refine ih (k+1) _ (by omega) (by omega) ?_;simp +contextual -implicitDefEqProofs (maxSteps:=10^7) only[go_sem,seval,↓gZ,hm]
   first | rfl | (simp;done) | (simp;rfl)
  ·rw[Ki ho] at hm;simp +contextual -implicitDefEqProofs (maxSteps:=10^7) only[go_sem,seval,↓gZ,hx,aa,hw,ho,hr];refine ih (k+1) _ (by omega) (by omega) ?_;simp +contextual -implicitDefEqProofs (maxSteps:=10^7) only[go_sem,seval,↓gZ,hm]
   first | rfl | (simp;done) | (simp;rfl)
 ·have:k=ps.length:=by omega
  subst this;simp +contextual -implicitDefEqProofs (maxSteps:=10^7) only[go_sem,seval,↓gZ];simp
theorem ZiZ (kW kH:Int) (kP:List Pane) (p:Ze):Zd Xs Ms UC [(.d (.agg [J kW,J kH,.sl (kP.map Pane.enc)])),.d p.enc] []=some (.own 0,[.row 4 (((ZU (Zs.mk kW kH kP) p).filterMap X7).map Box.enc) true false]):=by
 have hv:=Zcu kW kH kP p;have hn:=JI (Zs.mk kW kH kP) p;generalize (!Q6 (Zs.mk kW kH kP) p)=e at hv;generalize ZU (Zs.mk kW kH kP) p=ps at hv hn ⊢;obtain⟨o,a,q,t,ks⟩:=p;rw[Ze.enc_mk] at hv ⊢;refine cE ?_;simp +contextual -implicitDefEqProofs (maxSteps:=10^7) only[go_sem,seval,↓gZ,Zf5,hv];refine LO (α:=Nat) (fun k=>[(12,.d (J (k:Int)))]) (fun k=>[(1,.row 4 (((ps.take k).filterMap X7).map Box.enc) true false)]) (fun k=>k≤ps.length) (fun k=>ps.length-k) 0 (by omega) ?_;intro k hk ih;by_cases aa:k<ps.length
 ·obtain⟨x,hx⟩:=Zl aa;have hw:=Zh (k:=k) (by omega);have hm:=Za1 (f:=X7) hx;have ab:((ps.take k).filterMap X7).length≤k:=Kt (Kn _ _) (by simp;omega);have hr:(((ps.take k).filterMap X7).length+1)*32≤140737488355328∧((ps.take k).filterMap X7).length≤140737488355327:=by omega
  obtain⟨⟨o',a',q',t',ad⟩,⟨X,Y,W,H⟩⟩:=x;simp only[X7] at hm;by_cases ho:o'=0
  ·rw[Kl ho] at hm;simp +contextual -implicitDefEqProofs (maxSteps:=10^7) only[go_sem,seval,↓gZ,hx,aa,hw,ho,hr];refine ih (k+1) _ (by omega) (by omega) ?_;simp +contextual -implicitDefEqProofs (maxSteps:=10^7) only[go_sem,seval,↓gZ,hm]
   first | rfl | (simp;done) | (simp;rfl)
  ·rw[Ki ho] at hm;simp +contextual -implicitDefEqProofs (maxSteps:=10^7) only[go_sem,seval,↓gZ,hx,aa,hw,ho,hr];refine ih (k+1) _ (by omega) (by omega) ?_;simp +contextual -implicitDefEqProofs (maxSteps:=10^7) only[go_sem,seval,↓gZ,hm]
   first | rfl | (simp;done) | (simp;rfl)
 ·have:k=ps.length:=by omega
  subst this;simp +contextual -implicitDefEqProofs (maxSteps:=10^7) only[go_sem,seval,↓gZ];simp
theorem JS (ps:List Pane):∀ (b:BT) (gX gY gW gH:Int),inB (Box.mk gX gY gW gH)→QF ps b gW gH=true→b.cnt≤1000 →
  Zd Xs Ms Vb [.d b.plan.enc,(.d (.agg [J gX,J gY,J gW,J gH]))] []=some (.own 0,[.row 6 ((sp b gX gY gW gH).map Place.enc) true false])
 | .waste,gX,gY,gW,gH,hg,hf,hl=>by
  simp only[BT.plan,Ze.enc_mk,sp];refine cE ?_;simp +contextual -implicitDefEqProofs (maxSteps:=10^7) only[go_sem,seval,↓gZ,Zbo];try rfl
 | .pane i t,gX,gY,gW,gH,hg,hf,hl=>by
  simp only[BT.plan,Ze.enc_mk,sp];refine cE ?_;simp +contextual -implicitDefEqProofs (maxSteps:=10^7) only[go_sem,seval,↓gZ,Zbo];try rfl
 | .cut d a l r,gX,gY,gW,gH,hg,hf,hl=>by
  simp only[BT.cnt] at hl;simp only[inB] at hg;simp only[BT.plan,Ze.enc_mk];cases d with
  | true=>
   simp only[QF,Kd,Kr,Kk] at hf;have w1:=wi (gX+a) (by omega) (by omega);have w2:=wi (gW-a) (by omega) (by omega);have l1:=ZeZ l gX gY a gH;have l2:=ZeZ r (gX+a) gY (gW-a) gH;have e1:=JS ps l gX gY a gH (by simp only[inB];omega) hf.1.2 (by omega);have e2:=JS ps r (gX+a) gY (gW-a) gH (by simp only[inB];omega) hf.2 (by omega);have h1:((sp l gX gY a gH).length+(sp r (gX+a) gY (gW-a) gH).length)*48≤140737488355328∧(sp l gX gY a gH).length+(sp r (gX+a) gY (gW-a) gH).length≤140737488355328:=by omega
   refine cE ?_;simp +contextual -implicitDefEqProofs (maxSteps:=10^7) only[go_sem,seval,↓gZ,Zbo,Z9,w1,w2,h1,e1,e2];simp[sp]
  | false=>
   simp only[QF,Kd,Kr,Ka,Kj] at hf;have w1:=wi (gY+a) (by omega) (by omega);have w2:=wi (gH-a) (by omega) (by omega);have l1:=ZeZ l gX gY gW a;have l2:=ZeZ r gX (gY+a) gW (gH-a);have e1:=JS ps l gX gY gW a (by simp only[inB];omega) hf.1.2 (by omega);have e2:=JS ps r gX (gY+a) gW (gH-a) (by simp only[inB];omega) hf.2 (by omega);have h1:((sp l gX gY gW a).length+(sp r gX (gY+a) gW (gH-a)).length)*48≤140737488355328∧(sp l gX gY gW a).length+(sp r gX (gY+a) gW (gH-a)).length≤140737488355328:=by omega
   refine cE ?_;simp +contextual -implicitDefEqProofs (maxSteps:=10^7) only[go_sem,seval,↓gZ,Zbo,Z9,w1,w2,h1,e1,e2];simp[sp]
theorem ZbD (qL qW qH:Int) (qF:List Box):Zd Xs Ms VU [(.d (.agg [J qL,J qW,J qH,.sl (qF.map Box.enc)]))] []=some (.d (.agg [J 0,J 0,J qW,J qH]),[]):=by
 refine cE ?_;simp +contextual -implicitDefEqProofs (maxSteps:=10^7) only[go_sem,seval,↓gZ,ZfX]
theorem QY (qL qW qH:Int) (qF:List Box):Zd Xs Ms Xi [(.d (.agg [J qL,J qW,J qH,.sl (qF.map Box.enc)]))] []=some ((.d (.bool (decide (VPc (Zb.mk qL qW qH qF))))),[]):=by
 refine cE ?_;by_cases h0:(((qL<1∨9999<qL)∨¬VB ⟨0,0,qW,qH⟩)∨(6:Int)<qF.length)
 ·simp +contextual -implicitDefEqProofs (maxSteps:=10^7) only[go_sem,seval,↓gZ,ZaI,ZbD,Yk,h0];exact ZhK (by simp only[VPc];simp only[VB] at h0;omega)
 ·simp +contextual -implicitDefEqProofs (maxSteps:=10^7) only[go_sem,seval,↓gZ,ZaI,ZbD,Yk,h0];have hb:VB ⟨0,0,qW,qH⟩:=by
   refine Decidable.byContradiction fun h=>h0 (.inl (.inr h))
  refine LO (α:=Nat) (fun k=>[(28,.d (J (k:Int)))]) (fun _=>[]) (fun k=>k≤qF.length∧((∀ f∈qF,ZdL qW qH f)↔∀ f∈qF.drop k,ZdL qW qH f)) (fun k=>qF.length-k) 0 ⟨by omega,by simp⟩ ?_;intro k ⟨hk,hp⟩ ih;by_cases aa:k<qF.length
  ·obtain⟨x,hx⟩:=Zl aa;rw[Zfs hx] at hp;have hw:=Zh (k:=k) (by simp only[VB] at hb h0;omega);obtain⟨X,Y,W,H⟩:=x;simp +contextual -implicitDefEqProofs (maxSteps:=10^7) only[go_sem,seval,↓gZ,hx,aa,hw,ZbD,ZbA,hb];refine⟨fun h=>ZhK (fun hh=>h ((hp.1 hh.2).1)),fun h=>ih (k+1) _ ⟨by omega,?_⟩ (by omega) ?_⟩
   ·rw[hp];exact⟨fun hh=>hh.2,fun hh=>⟨h,hh⟩⟩
   ·simp +contextual -implicitDefEqProofs (maxSteps:=10^7) only[go_sem,seval,↓gZ]
  ·have:k=qF.length:=by omega
   subst this;simp +contextual -implicitDefEqProofs (maxSteps:=10^7) only[go_sem,seval,↓gZ];have hv:∀ f∈qF,ZdL qW qH f:=hp.2 (by simp);exact Zzk (by simp only[VPc];simp only[VB] at h0;exact⟨by omega,hv⟩)
theorem ZgP (qL qW qH:Int) (qF:List Box) (hl:qF.length<4611686018427387904) (hW:R64 qW) (hH:R64 qH):Zd Xs Ms Vy [(.d (.agg [J qL,J qW,J qH,.sl (qF.map Box.enc)]))] []=some ((.d (.bool (decide (VPc (Zb.mk qL qW qH qF))))),[]):=by
 refine cE ?_;simp +contextual -implicitDefEqProofs (maxSteps:=10^7) only[go_sem,seval,↓gZ,Zdp];refine LO (α:=Nat) (fun k=>[(3,.d (J (k:Int)))]) (fun _=>[]) (fun k=>k≤qF.length∧((∀ f∈qF,ZdL qW qH f)↔∀ f∈qF.drop k,ZdL qW qH f)) (fun k=>qF.length-k) 0 ⟨by omega,by simp⟩ ?_;intro k ⟨hk,hp⟩ ih;by_cases aa:k<qF.length
 ·obtain⟨x,hx⟩:=Zl aa;rw[Zfs hx] at hp;have hw:=Zh (k:=k) (by omega);obtain⟨X,Y,W,H⟩:=x;by_cases hv:VB ⟨X,Y,W,H⟩
  ·have hi:=Zru X Y W H 0 0 qW qH hv ⟨by omega,by omega⟩ ⟨by omega,by omega⟩ (by simpa using hW) (by simpa using hH);simp +contextual -implicitDefEqProofs (maxSteps:=10^7) only[go_sem,seval,↓gZ,hx,aa,hw,ZiT,hi,hv];refine⟨fun h=>ZhK (fun hh=>h ((hp.1 hh.2).1.2)),fun h=>ih (k+1) _ ⟨by omega,?_⟩ (by omega) ?_⟩
   ·rw[hp];exact⟨fun hh=>hh.2,fun hh=>⟨⟨hv,h⟩,hh⟩⟩
   ·simp +contextual -implicitDefEqProofs (maxSteps:=10^7) only[go_sem,seval,↓gZ]
  ·simp +contextual -implicitDefEqProofs (maxSteps:=10^7) only[go_sem,seval,↓gZ,hx,aa,hw,ZiT,hv];exact ZhK (fun hh=>hv ((hp.1 hh.2).1.1))
 ·have:k=qF.length:=by omega
  subst this;simp +contextual -implicitDefEqProofs (maxSteps:=10^7) only[go_sem,seval,↓gZ,ZK];have hv:∀ f∈qF,ZdL qW qH f:=hp.2 (by simp);exact Zcn (by simp only[VPc];exact⟨fun h=>⟨by omega,hv⟩,fun h=>by omega⟩)
theorem Zha (fs:List Box) (bX bY bW bH:Int) (hf:∀ f∈fs,VB f) (hb:VB (Box.mk bX bY bW bH)) (hl:fs.length<4611686018427387904):Zd Xs Ms Wp [(.d (.sl (fs.map Box.enc))),(.d (.agg [J bX,J bY,J bW,J bH]))] []=some ((.d (.bool (!decide (Qd fs (Box.mk bX bY bW bH))))),[]):=by
 refine cE ?_;simp +contextual -implicitDefEqProofs (maxSteps:=10^7) only[go_sem,seval,↓gZ,ZeN];refine LO (α:=Nat) (fun k=>[(11,.d (J (k:Int)))]) (fun _=>[]) (fun k=>k≤fs.length∧(Qd fs (Box.mk bX bY bW bH)↔Qd (fs.drop k) (Box.mk bX bY bW bH))) (fun k=>fs.length-k) 0 ⟨by omega,by simp⟩ ?_;intro k ⟨hk,hp⟩ ih;by_cases aa:k<fs.length
 ·obtain⟨x,hx⟩:=Zl aa;have ad:=hx;unfold Qd at hp;rw[Zfs hx (fun f=>¬Xu f (Box.mk bX bY bW bH))] at hp;have hw:=Zh (k:=k) (by omega);have ab:=hf x (Kb hx);obtain⟨X,Y,W,H⟩:=x;by_cases hm:Xu ⟨X,Y,W,H⟩ (Box.mk bX bY bW bH)
  ·simp +contextual -implicitDefEqProofs (maxSteps:=10^7) only[go_sem,seval,↓gZ,hx,aa,hw,Zcp X Y W H bX bY bW bH ab hb hm];have:¬Qd fs (Box.mk bX bY bW bH):=fun hh=>(hp.1 hh).1 hm;simp[this]
  ·simp +contextual -implicitDefEqProofs (maxSteps:=10^7) only[go_sem,seval,↓gZ,hx,aa,hw,ZdY X Y W H bX bY bW bH (fun hh=>hm hh.2.2)];refine ih (k+1) _ ⟨by omega,?_⟩ (by omega) ?_
   ·unfold Qd;rw[hp];exact⟨fun hh=>hh.2,fun hh=>⟨hm,hh⟩⟩
   ·simp +contextual -implicitDefEqProofs (maxSteps:=10^7) only[go_sem,seval,↓gZ]
 ·have:k=fs.length:=by omega
  subst this;simp +contextual -implicitDefEqProofs (maxSteps:=10^7) only[go_sem,seval,↓gZ];have:Qd fs (Box.mk bX bY bW bH):=hp.2 (by simp[Qd]);simp[this]
theorem Zkg (qL qW qH:Int) (qF:List Box) (bX bY bW bH:Int) (hf:∀ f∈qF,VB f) (hb:VB (Box.mk bX bY bW bH)) (hl:qF.length<4611686018427387904):Zd Xs Ms JW [(.d (.agg [J qL,J qW,J qH,.sl (qF.map Box.enc)])),(.d (.agg [J bX,J bY,J bW,J bH]))] []=some ((.d (.bool (decide (Qd qF (Box.mk bX bY bW bH))))),[]):=by
 refine cE ?_;simp +contextual -implicitDefEqProofs (maxSteps:=10^7) only[go_sem,seval,↓gZ,Zht];refine LO (α:=Nat) (fun k=>[(5,.d (J (k:Int)))]) (fun _=>[]) (fun k=>k≤qF.length∧(Qd qF (Box.mk bX bY bW bH)↔Qd (qF.drop k) (Box.mk bX bY bW bH))) (fun k=>qF.length-k) 0 ⟨by omega,by simp⟩ ?_;intro k ⟨hk,hp⟩ ih;by_cases aa:k<qF.length
 ·obtain⟨x,hx⟩:=Zl aa;unfold Qd at hp;rw[Zfs hx (fun f=>¬Xu f (Box.mk bX bY bW bH))] at hp;have hw:=Zh (k:=k) (by omega);have ab:=hf x (Kb hx);obtain⟨X,Y,W,H⟩:=x;by_cases hm:Xu ⟨X,Y,W,H⟩ (Box.mk bX bY bW bH)
  ·simp +contextual -implicitDefEqProofs (maxSteps:=10^7) only[go_sem,seval,↓gZ,hx,aa,hw,Zj6 X Y W H bX bY bW bH ab hb hm];have:¬Qd qF (Box.mk bX bY bW bH):=fun hh=>(hp.1 hh).1 hm;simp[this]
  ·simp +contextual -implicitDefEqProofs (maxSteps:=10^7) only[go_sem,seval,↓gZ,hx,aa,hw,ZmA X Y W H bX bY bW bH ab hb hm];refine ih (k+1) _ ⟨by omega,?_⟩ (by omega) ?_
   ·unfold Qd;rw[hp];exact⟨fun hh=>hh.2,fun hh=>⟨hm,hh⟩⟩
   ·simp +contextual -implicitDefEqProofs (maxSteps:=10^7) only[go_sem,seval,↓gZ]
 ·have:k=qF.length:=by omega
  subst this;simp +contextual -implicitDefEqProofs (maxSteps:=10^7) only[go_sem,seval,↓gZ];have:Qd qF (Box.mk bX bY bW bH):=hp.2 (by simp[Qd]);simp[this]
theorem Zi0 (kW kH:Int) (kP:List Pane) (p:Ze) (b:BT) (hp:p=b.plan) (hg:inB ⟨0,0,kW,kH⟩) (hf:QF kP b kW kH=true) (hl:b.cnt≤1000):Zd Xs Ms UB [(.d (.agg [J kW,J kH,.sl (kP.map Pane.enc)])),.d p.enc] []=some (.own 0,[.row 6 ((plc b 0 0 kW kH).map Place.enc) true false]):=by
 have e:=JS kP b 0 0 kW kH hg hf hl;have hm:=Zmh b 0 0 kW kH (ZiG hf);have hn:=ZeZ b 0 0 kW kH;rw[← hp] at e;rw[← hm];clear hm;generalize sp b 0 0 kW kH=S at e hn ⊢;clear hp hf hg;obtain⟨o,a,q,t,ks⟩:=p;rw[Ze.enc_mk] at e ⊢;refine cE ?_;simp +contextual -implicitDefEqProofs (maxSteps:=10^7) only[go_sem,seval,↓gZ,Zf4,e];refine LO (α:=Nat) (fun i=>[(7,.d (J (i:Int)))]) (fun i=>[(1,.row 6 (((S.take i).filterMap Zej).map Place.enc) true false)]) (fun i=>i≤S.length) (fun i=>S.length-i) 0 (by omega) ?_;intro i hi ih;by_cases aa:i<S.length
 ·obtain⟨x,hx⟩:=Zl aa;have hw:=Zh (k:=i) (by omega);have hm:=Za1 (f:=Zej) hx;have ab:((S.take i).filterMap Zej).length≤i:=Kt (Kn _ _) (by simp;omega);have hr:(((S.take i).filterMap Zej).length+1)*48≤140737488355328∧((S.take i).filterMap Zej).length≤140737488355327:=by omega
  obtain⟨q',t',⟨X,Y,W,H⟩⟩:=x;simp only[Zej] at hm;by_cases ho:0≤q'
  ·rw[Kl ho] at hm;simp +contextual -implicitDefEqProofs (maxSteps:=10^7) only[go_sem,seval,↓gZ,hx,aa,hw,ho,hr];refine ih (i+1) _ (by omega) (by omega) ?_;simp +contextual -implicitDefEqProofs (maxSteps:=10^7) only[go_sem,seval,↓gZ,hm]
   first | rfl | (simp;done) | (simp;rfl)
  ·rw[Ki ho] at hm;simp +contextual -implicitDefEqProofs (maxSteps:=10^7) only[go_sem,seval,↓gZ,hx,aa,hw,ho,hr];refine ih (i+1) _ (by omega) (by omega) ?_;simp +contextual -implicitDefEqProofs (maxSteps:=10^7) only[go_sem,seval,↓gZ,hm]
   first | rfl | (simp;done) | (simp;rfl)
 ·have:i=S.length:=by omega
  subst this;simp +contextual -implicitDefEqProofs (maxSteps:=10^7) only[go_sem,seval,↓gZ];simp
theorem Zi1 (kW kH:Int) (kP:List Pane) (p:Ze) (b:BT) (hp:p=b.plan) (hg:inB ⟨0,0,kW,kH⟩) (hf:QF kP b kW kH=true) (hl:b.cnt≤1000):Zd Xs Ms UA [(.d (.agg [J kW,J kH,.sl (kP.map Pane.enc)])),.d p.enc] []=some (.own 0,[.row 4 ((wst b 0 0 kW kH).map Box.enc) true false]):=by
 have e:=JS kP b 0 0 kW kH hg hf hl;have hm:=Zmi b 0 0 kW kH (ZiG hf);have hn:=ZeZ b 0 0 kW kH;rw[← hp] at e;rw[← hm];clear hm;generalize sp b 0 0 kW kH=S at e hn ⊢;clear hp hf hg;obtain⟨o,a,q,t,ks⟩:=p;rw[Ze.enc_mk] at e ⊢;refine cE ?_;simp +contextual -implicitDefEqProofs (maxSteps:=10^7) only[go_sem,seval,↓gZ,Zf3,e];refine LO (α:=Nat) (fun i=>[(7,.d (J (i:Int)))]) (fun i=>[(1,.row 4 (((S.take i).filterMap Zek).map Box.enc) true false)]) (fun i=>i≤S.length) (fun i=>S.length-i) 0 (by omega) ?_;intro i hi ih;by_cases aa:i<S.length
 ·obtain⟨x,hx⟩:=Zl aa;have hw:=Zh (k:=i) (by omega);have hm:=Za1 (f:=Zek) hx;have ab:((S.take i).filterMap Zek).length≤i:=Kt (Kn _ _) (by simp;omega);have hr:(((S.take i).filterMap Zek).length+1)*32≤140737488355328∧((S.take i).filterMap Zek).length≤140737488355327:=by omega
  obtain⟨q',t',⟨X,Y,W,H⟩⟩:=x;simp only[Zek] at hm;by_cases ho:q' < 0
  ·rw[Kl ho] at hm;simp +contextual -implicitDefEqProofs (maxSteps:=10^7) only[go_sem,seval,↓gZ,hx,aa,hw,ho,hr];refine ih (i+1) _ (by omega) (by omega) ?_;simp +contextual -implicitDefEqProofs (maxSteps:=10^7) only[go_sem,seval,↓gZ,hm]
   first | rfl | (simp;done) | (simp;rfl)
  ·rw[Ki ho] at hm;simp +contextual -implicitDefEqProofs (maxSteps:=10^7) only[go_sem,seval,↓gZ,hx,aa,hw,ho,hr];refine ih (i+1) _ (by omega) (by omega) ?_;simp +contextual -implicitDefEqProofs (maxSteps:=10^7) only[go_sem,seval,↓gZ,hm]
   first | rfl | (simp;done) | (simp;rfl)
 ·have:i=S.length:=by omega
  subst this;simp +contextual -implicitDefEqProofs (maxSteps:=10^7) only[go_sem,seval,↓gZ];simp
theorem ZrB (qL qW qH:Int) (qF:List Box) (kW kH:Int) (kP:List Pane) (p:Ze):Zd Xs Ms Zay [(.d (.agg [J qL,J qW,J qH,.sl (qF.map Box.enc)])),(.d (.agg [J kW,J kH,.sl (kP.map Pane.enc)])),.d p.enc] []=some ((.d (.bool (decide (VPc (Zb.mk qL qW qH qF)∧VQ (Zb.mk qL qW qH qF) (Zs.mk kW kH kP) p)))),[]):=by
 have ev:=WS kW kH kP p;by_cases hq:VPc (Zb.mk qL qW qH qF)
 ·by_cases hv:Q6 (Zs.mk kW kH kP) p=true
  ·by_cases hw:kW=qW
   ·by_cases hh:kH=qH
    ·subst hw;subst hh;have ep:=Zer kW kH kP p;obtain⟨b,hb,ah,ai,aj,ad,af⟩:=QR hv;have ab:∀ c∈(ZU (Zs.mk kW kH kP) p).filterMap Q8,VB c.Box:=by
      rw[af,YR];exact Zk4 (p:=p) ai ad
     have ae:((ZU (Zs.mk kW kH kP) p).filterMap Q8).length≤255:=Kt (Kn _ _) (JI _ _);have aa:VQ ⟨qL,kW,kH,qF⟩ (Zs.mk kW kH kP) p↔∀ c∈(ZU (Zs.mk kW kH kP) p).filterMap Q8,Qd qF c.Box:=by
      unfold VQ;exact⟨fun h=>h.2.2.2,fun h=>⟨hv,rfl,rfl,h⟩⟩
     have ak:∀ f∈qF,VB f:=fun f hf=>(hq.2 f hf).1;have an:qF.length≤6:=hq.1.2.2.2.2.2.2;rw[hv] at ev;generalize hL:(ZU (Zs.mk kW kH kP) p).filterMap Q8=L at ep ab ae aa;clear hL af ah hb;obtain⟨o,a,n,t,ks⟩:=p;rw[Ze.enc_mk] at ev ep ⊢;refine cE ?_;simp +contextual -implicitDefEqProofs (maxSteps:=10^7) only[go_sem,seval,↓gZ,VZ,QY,hq,ev,ep];refine LO (α:=Nat) (fun i=>[(36,.d (J (i:Int)))]) (fun _=>[]) (fun i=>i≤L.length∧((∀ c∈L,Qd qF c.Box)↔∀ c∈L.drop i,Qd qF c.Box)) (fun i=>L.length-i) 0 ⟨by omega,by simp⟩ ?_;intro i ⟨hi,hp⟩ ih;by_cases ag:i<L.length
     ·obtain⟨x,hx⟩:=Zl ag;rw[Zfs hx (fun c=>Qd qF c.Box)] at hp;have hw:=Zh (k:=i) (by omega);have al:=ab x (Kb hx);obtain⟨q',t',⟨X,Y,W,H⟩⟩:=x;have em:=Zha qF X Y W H ak al (by omega);simp +contextual -implicitDefEqProofs (maxSteps:=10^7) only[go_sem,seval,↓gZ,hx,ag,hw,em];refine⟨fun h=>ZhK (fun h'=>h ((hp.1 (aa.1 h')).1)),fun h=>ih (i+1) _ ⟨by omega,?_⟩ (by omega) ?_⟩
      ·rw[hp];exact⟨fun h'=>h'.2,fun h'=>⟨h,h'⟩⟩
      ·simp +contextual -implicitDefEqProofs (maxSteps:=10^7) only[go_sem,seval,↓gZ]
     ·have:i=L.length:=by omega
      subst this;simp +contextual -implicitDefEqProofs (maxSteps:=10^7) only[go_sem,seval,↓gZ];exact Zzk (aa.2 (hp.2 (by simp)))
    ·subst hw;have hn:¬VQ ⟨qL,kW,qH,qF⟩ (Zs.mk kW kH kP) p:=fun h=>hh h.2.2.1;obtain⟨o,a,n,t,ks⟩:=p;rw[hv] at ev;rw[Ze.enc_mk] at ev ⊢;refine cE ?_;simp +contextual -implicitDefEqProofs (maxSteps:=10^7) only[go_sem,seval,↓gZ,VZ,QY,hq,ev,hh,hn]
   ·have hn:¬VQ (Zb.mk qL qW qH qF) (Zs.mk kW kH kP) p:=fun h=>hw h.2.1;obtain⟨o,a,n,t,ks⟩:=p;rw[hv] at ev;rw[Ze.enc_mk] at ev ⊢;refine cE ?_;simp +contextual -implicitDefEqProofs (maxSteps:=10^7) only[go_sem,seval,↓gZ,VZ,QY,hq,ev,hw,hn]
  ·have am:=(LB _).mp hv;have hn:¬VQ (Zb.mk qL qW qH qF) (Zs.mk kW kH kP) p:=fun h=>hv h.1;rw[am] at ev;obtain⟨o,a,n,t,ks⟩:=p;rw[Ze.enc_mk] at ev ⊢;refine cE ?_;simp +contextual -implicitDefEqProofs (maxSteps:=10^7) only[go_sem,seval,↓gZ,VZ,QY,hq,ev,hn]
 ·obtain⟨o,a,n,t,ks⟩:=p;rw[Ze.enc_mk] at ev ⊢;refine cE ?_;simp +contextual -implicitDefEqProofs (maxSteps:=10^7) only[go_sem,seval,↓gZ,VZ,QY,hq]
theorem Zi2 (qL qW qH:Int) (qF:List Box) (kW kH:Int) (kP:List Pane) (p:Ze) (al:∀ f∈qF,VB f) (ao:qF.length≤6) (hl:kP.length<4611686018427387904):Zd Xs Ms Zaw [(.d (.agg [J qL,J qW,J qH,.sl (qF.map Box.enc)])),(.d (.agg [J kW,J kH,.sl (kP.map Pane.enc)])),.d p.enc] []=some ((.d (.bool (decide (VQ (Zb.mk qL qW qH qF) (Zs.mk kW kH kP) p)))),[]):=by
 have ev:=Zg3 kW kH kP p hl;by_cases hv:Q6 (Zs.mk kW kH kP) p=true
 ·by_cases hw:kW=qW
  ·by_cases hh:kH=qH
   ·subst hw;subst hh;obtain⟨b,hb,ah,ai,ae,ab,aj⟩:=QR hv;have af:=ai;simp only[VW] at af;have ep:=Zi0 kW kH kP p b ah (by simp only[inB];omega) ab (by omega);have ad:∀ c∈plc b 0 0 kW kH,VB c.Box:=Zk4 (p:=p) ai ab;have ag:(plc b 0 0 kW kH).length≤255:=by
     rw[← YR];exact Kt (Kn _ _) (by rw[WD];exact ae)
    have aa:VQ ⟨qL,kW,kH,qF⟩ (Zs.mk kW kH kP) p↔∀ c∈plc b 0 0 kW kH,Qd qF c.Box:=by
     unfold VQ;rw[aj,YR];exact⟨fun h=>h.2.2.2,fun h=>⟨hv,rfl,rfl,h⟩⟩
    rw[hv] at ev;generalize plc b 0 0 kW kH=L at ep ad ag aa;clear aj ah hb;obtain⟨o,a,n,t,ks⟩:=p;rw[Ze.enc_mk] at ev ep ⊢;refine cE ?_;simp +contextual -implicitDefEqProofs (maxSteps:=10^7) only[go_sem,seval,↓gZ,UK,ev,ep];refine LO (α:=Nat) (fun i=>[(8,.d (J (i:Int)))]) (fun _=>[]) (fun i=>i≤L.length∧((∀ c∈L,Qd qF c.Box)↔∀ c∈L.drop i,Qd qF c.Box)) (fun i=>L.length-i) 0 ⟨by omega,by simp⟩ ?_;intro i ⟨hi,hp⟩ ih;by_cases ak:i<L.length
    ·obtain⟨x,hx⟩:=Zl ak;rw[Zfs hx (fun c=>Qd qF c.Box)] at hp;have hw:=Zh (k:=i) (by omega);have am:=ad x (Kb hx);obtain⟨q',t',⟨X,Y,W,H⟩⟩:=x;have em:=Zkg qL kW kH qF X Y W H al am (by omega);simp +contextual -implicitDefEqProofs (maxSteps:=10^7) only[go_sem,seval,↓gZ,hx,ak,hw,em];refine⟨fun h=>ZhK (fun h'=>h ((hp.1 (aa.1 h')).1)),fun h=>ih (i+1) _ ⟨by omega,?_⟩ (by omega) ?_⟩
     ·rw[hp];exact⟨fun h'=>h'.2,fun h'=>⟨h,h'⟩⟩
     ·simp +contextual -implicitDefEqProofs (maxSteps:=10^7) only[go_sem,seval,↓gZ]
    ·have:i=L.length:=by omega
     subst this;simp +contextual -implicitDefEqProofs (maxSteps:=10^7) only[go_sem,seval,↓gZ];exact Zzk (aa.2 (hp.2 (by simp)))
   ·subst hw;have hn:¬VQ ⟨qL,kW,qH,qF⟩ (Zs.mk kW kH kP) p:=fun h=>hh h.2.2.1;obtain⟨o,a,n,t,ks⟩:=p;rw[hv] at ev;rw[Ze.enc_mk] at ev ⊢;refine cE ?_;simp +contextual -implicitDefEqProofs (maxSteps:=10^7) only[go_sem,seval,↓gZ,UK,ev,hh,hn]
  ·have hn:¬VQ (Zb.mk qL qW qH qF) (Zs.mk kW kH kP) p:=fun h=>hw h.2.1;obtain⟨o,a,n,t,ks⟩:=p;rw[hv] at ev;rw[Ze.enc_mk] at ev ⊢;refine cE ?_;simp +contextual -implicitDefEqProofs (maxSteps:=10^7) only[go_sem,seval,↓gZ,UK,ev,hw,hn]
 ·have an:=(LB _).mp hv;have hn:¬VQ (Zb.mk qL qW qH qF) (Zs.mk kW kH kP) p:=fun h=>hv h.1;rw[an] at ev;obtain⟨o,a,n,t,ks⟩:=p;rw[Ze.enc_mk] at ev ⊢;refine cE ?_;simp +contextual -implicitDefEqProofs (maxSteps:=10^7) only[go_sem,seval,↓gZ,UK,ev,hn]
theorem ZvH (qL qW qH:Int) (qF:List Box) (bX bY bW bH:Int) (label:Int) (hq:VPc (Zb.mk qL qW qH qF)) (hb:VB (Box.mk bX bY bW bH)) (hi:ZT (Box.mk bX bY bW bH) ⟨0,0,qW,qH⟩) (h1:1≤label) (h2:label≤9999) :
  Zd Xs Ms Zde [(.d (.agg [J qL,J qW,J qH,.sl (qF.map Box.enc)])),(.d (.agg [J bX,J bY,J bW,J bH])),(.d (J label))] []=some (.agg [(.d (J label)),(.d (J bW)),(.d (J bH)),.own 0],[.row 4 ((qF.filterMap (YY (Box.mk bX bY bW bH))).map Box.enc) true false]):=by
 have ae:=hq.1;simp only at ae;have n1:¬label<1:=by omega
 have n2:¬9999<label:=by omega
 have af:VB ⟨0,0,qW,qH⟩:=by simp only[VB];omega
 refine cE ?_;simp +contextual -implicitDefEqProofs (maxSteps:=10^7) only[go_sem,seval,↓gZ,ZjE,QY,ZbD,ZbA,hq,hb,hi,af,n1,n2];refine LO (α:=Nat) (fun i=>[(40,.d (J (i:Int)))]) (fun i=>[(3,.row 4 (((qF.take i).filterMap (YY (Box.mk bX bY bW bH))).map Box.enc) true false)]) (fun i=>i≤qF.length) (fun i=>qF.length-i) 0 (by omega) ?_;intro i hk ih;by_cases aa:i<qF.length
 ·obtain⟨x,hx⟩:=Zl aa;have hw:=Zh (k:=i) (by omega);have hm:=Za1 (f:=YY (Box.mk bX bY bW bH)) hx;have ah:((qF.take i).filterMap (YY (Box.mk bX bY bW bH))).length≤i:=Kt (Kn _ _) (by simp;omega);have hr:(((qF.take i).filterMap (YY (Box.mk bX bY bW bH))).length+1)*32≤140737488355328∧((qF.take i).filterMap (YY (Box.mk bX bY bW bH))).length≤140737488355327:=by omega
  have ad:=(hq.2 x (Kb hx)).1;obtain⟨X,Y,W,H⟩:=x;have ab:=ad;have ag:=hb;simp only[VB] at ab ag;simp only[YY] at hm;by_cases ho:Xu ⟨X,Y,W,H⟩ (Box.mk bX bY bW bH)
  ·rw[Kl ho] at hm;have w1:=wi (max X bX-bX) (by omega) (by omega);have w2:=wi (max Y bY-bY) (by omega) (by omega);simp +contextual -implicitDefEqProofs (maxSteps:=10^7) only[go_sem,seval,↓gZ,hx,aa,hw,Zcp X Y W H bX bY bW bH ad hb ho,hr,ZgX,w1,w2];refine ih (i+1) _ (by omega) (by omega) ?_;simp +contextual -implicitDefEqProofs (maxSteps:=10^7) only[go_sem,seval,↓gZ,hm,Zu5,ZgX]
   first | rfl | (simp;done) | (simp;rfl)
  ·rw[Ki ho] at hm;simp +contextual -implicitDefEqProofs (maxSteps:=10^7) only[go_sem,seval,↓gZ,hx,aa,hw,ZdY X Y W H bX bY bW bH (fun hh=>ho hh.2.2),hr];refine ih (i+1) _ (by omega) (by omega) ?_;simp +contextual -implicitDefEqProofs (maxSteps:=10^7) only[go_sem,seval,↓gZ,hm]
   first | rfl | (simp;done) | (simp;rfl)
 ·have:i=qF.length:=by omega
  subst this;simp +contextual -implicitDefEqProofs (maxSteps:=10^7) only[go_sem,seval,↓gZ];try simp
theorem ZvI (qL qW qH:Int) (qF:List Box) (bX bY bW bH:Int) (label:Int) (hf:∀ f∈qF,VB f) (hl:qF.length≤6) (hb:VB (Box.mk bX bY bW bH)) :
  Zd Xs Ms Zdd [(.d (.agg [J qL,J qW,J qH,.sl (qF.map Box.enc)])),(.d (.agg [J bX,J bY,J bW,J bH])),(.d (J label))] []=some (.agg [(.d (J label)),(.d (J bW)),(.d (J bH)),.own 0],[.row 4 ((qF.filterMap (YY (Box.mk bX bY bW bH))).map Box.enc) true false]):=by
 refine cE ?_;simp +contextual -implicitDefEqProofs (maxSteps:=10^7) only[go_sem,seval,↓gZ,ZjD];refine LO (α:=Nat) (fun i=>[(8,.d (J (i:Int)))]) (fun i=>[(4,.row 4 (((qF.take i).filterMap (YY (Box.mk bX bY bW bH))).map Box.enc) true false)]) (fun i=>i≤qF.length) (fun i=>qF.length-i) 0 (by omega) ?_;intro i hk ih;by_cases aa:i<qF.length
 ·obtain⟨x,hx⟩:=Zl aa;have hw:=Zh (k:=i) (by omega);have hm:=Za1 (f:=YY (Box.mk bX bY bW bH)) hx;have af:((qF.take i).filterMap (YY (Box.mk bX bY bW bH))).length≤i:=Kt (Kn _ _) (by simp;omega);have hr:(((qF.take i).filterMap (YY (Box.mk bX bY bW bH))).length+1)*32≤140737488355328∧((qF.take i).filterMap (YY (Box.mk bX bY bW bH))).length≤140737488355327:=by omega
  have ab:=hf x (Kb hx);obtain⟨X,Y,W,H⟩:=x;have ad:=ab;have ae:=hb;simp only[VB] at ad ae;simp only[YY] at hm;by_cases ho:Xu ⟨X,Y,W,H⟩ (Box.mk bX bY bW bH)
  ·rw[Kl ho] at hm;have w1:=wi (max X bX-bX) (by omega) (by omega);have w2:=wi (max Y bY-bY) (by omega) (by omega);simp +contextual -implicitDefEqProofs (maxSteps:=10^7) only[go_sem,seval,↓gZ,hx,aa,hw,Zj6 X Y W H bX bY bW bH ab hb ho,hr,ZgX,w1,w2];refine ih (i+1) _ (by omega) (by omega) ?_;simp +contextual -implicitDefEqProofs (maxSteps:=10^7) only[go_sem,seval,↓gZ,hm,Zu5,ZgX]
   first | rfl | (simp;done) | (simp;rfl)
  ·rw[Ki ho] at hm;simp +contextual -implicitDefEqProofs (maxSteps:=10^7) only[go_sem,seval,↓gZ,hx,aa,hw,ZmA X Y W H bX bY bW bH ab hb ho,hr];refine ih (i+1) _ (by omega) (by omega) ?_;simp +contextual -implicitDefEqProofs (maxSteps:=10^7) only[go_sem,seval,↓gZ,hm]
   first | rfl | (simp;done) | (simp;rfl)
 ·have:i=qF.length:=by omega
  subst this;simp +contextual -implicitDefEqProofs (maxSteps:=10^7) only[go_sem,seval,↓gZ];try simp
theorem ZgQ (kW kH:Int) (kP:List Pane) (p:Ze) (Zj:Int):Zd Xs Ms W4 [(.d (.agg [J kW,J kH,.sl (kP.map Pane.enc)])),.d p.enc,(.d (J Zj))] []=some (.own 0,[.row 4 ((Xc (Zs.mk kW kH kP) p Zj).map Box.enc) true false]):=by
 have hv:=ZiZ kW kH kP p;have hn:((ZU (Zs.mk kW kH kP) p).filterMap X7).length≤255:=Kt (Kn _ _) (JI (Zs.mk kW kH kP) p);unfold Xc;generalize (ZU (Zs.mk kW kH kP) p).filterMap X7=ps at hv hn ⊢;obtain⟨o,a,q,t,ks⟩:=p;rw[Ze.enc_mk] at hv ⊢;refine cE ?_;simp +contextual -implicitDefEqProofs (maxSteps:=10^7) only[go_sem,seval,↓gZ,Zdt,hv];refine LO (α:=Nat) (fun k=>[(14,.d (J (k:Int)))]) (fun k=>[(1,.row 4 (((ps.take k).filterMap (Js Zj)).map Box.enc) true false)]) (fun k=>k≤ps.length) (fun k=>ps.length-k) 0 (by omega) ?_;intro k hk ih;by_cases aa:k<ps.length
 ·obtain⟨x,hx⟩:=Zl aa;have hw:=Zh (k:=k) (by omega);have hm:=Za1 (f:=Js Zj) hx;have ab:((ps.take k).filterMap (Js Zj)).length≤k:=Kt (Kn _ _) (by simp;omega);have hr:(((ps.take k).filterMap (Js Zj)).length+1)*32≤140737488355328∧((ps.take k).filterMap (Js Zj)).length≤140737488355327:=by omega
  obtain⟨X,Y,W,H⟩:=x;simp only[Js] at hm;by_cases ho:Zj≤W∧Zj≤H
  ·rw[Kl ho] at hm;simp +contextual -implicitDefEqProofs (maxSteps:=10^7) only[go_sem,seval,↓gZ,hx,aa,hw,ho,hr];refine ih (k+1) _ (by omega) (by omega) ?_;simp +contextual -implicitDefEqProofs (maxSteps:=10^7) only[go_sem,seval,↓gZ,hm]
   first | rfl | (simp;done) | (simp;rfl)
  ·rw[Ki ho] at hm;simp +contextual -implicitDefEqProofs (maxSteps:=10^7) only[go_sem,seval,↓gZ,hx,aa,hw,ho,hr];refine ih (k+1) _ (by omega) (by omega) ?_;simp +contextual -implicitDefEqProofs (maxSteps:=10^7) only[go_sem,seval,↓gZ,hm]
   first | rfl | (simp;done) | (simp;rfl)
 ·have:k=ps.length:=by omega
  subst this;simp +contextual -implicitDefEqProofs (maxSteps:=10^7) only[go_sem,seval,↓gZ];simp
theorem Zkh (qL qW qH:Int) (qF:List Box) (kW kH:Int) (kP:List Pane) (p:Ze) (Zj label:Int) (hq:VPc (Zb.mk qL qW qH qF)) (hv:Q6 (Zs.mk kW kH kP) p=true) (hW:kW=qW) (hH:kH=qH) (h1:1≤label) (h2:label≤10000)
  (hk:(Xc (Zs.mk kW kH kP) p Zj).length≤10000-label):Zd Xs Ms YO [(.d (.agg [J qL,J qW,J qH,.sl (qF.map Box.enc)])),(.d (.agg [J kW,J kH,.sl (kP.map Pane.enc)])),.d p.enc,(.d (J Zj)),(.d (J label))] [] =
  some (.tup [.own 0,(.d (.bool true))],[.tree 4 4 ((JO (Zb.mk qL qW qH qF) label (Xc (Zs.mk kW kH kP) p Zj)).map Zb.enc) none]):=by
 have ek:=ZgQ kW kH kP p Zj;have aa:∀ b∈Xc (Zs.mk kW kH kP) p Zj,VB b∧ZT b ⟨0,0,qW,qH⟩:=by
  intro b hb;have:=ZqW (Zj:=Zj) hv b hb;rw[← hW,← hH];exact this
 have hn:=ZiH (Zs.mk kW kH kP) p Zj;generalize Xc (Zs.mk kW kH kP) p Zj=L at ek aa hn hk ⊢;clear hv;have w0:=wi (10000-label) (by omega) (by omega);have n0:¬(10000-label<(L.length:Int)):=by omega
 obtain⟨o,a,n,t,ks⟩:=p;rw[Ze.enc_mk] at ek ⊢;refine cE ?_;simp +contextual -implicitDefEqProofs (maxSteps:=10^7) only[go_sem,seval,↓gZ,JB,ek,w0,n0];refine LO (α:=Nat) (fun i=>[(27,.d (J (i:Int)))]) (fun i=>[(1,.tree 4 4 ((JO (Zb.mk qL qW qH qF) label (L.take i)).map Zb.enc) none)]) (fun i=>i≤L.length) (fun i=>L.length-i) 0 (by omega) ?_;intro i hi ih;by_cases ab:i<L.length
 ·obtain⟨x,hx⟩:=Zl ab;have hw:=Zh (k:=i) (by omega);have hm:=ZAC (Zb.mk qL qW qH qF) label hx;have hl:(JO (Zb.mk qL qW qH qF) label (L.take i)).length=i:=by rw[ZdM];simp;omega
  have hr:(i+1)*48≤140737488355328∧i≤140737488355327:=by omega
  have ad:=aa x (Kb hx);have w1:=wi (label+(i:Int)) (by omega) (by omega);obtain⟨X,Y,W,H⟩:=x;have hc:=ZvH qL qW qH qF X Y W H (label+(i:Int)) hq ad.1 ad.2 (by omega) (by omega);have z6:=aF (l:=(Zmk (Zb.mk qL qW qH qF) ⟨X,Y,W,H⟩ (label+(i:Int))).Flaws) (g:=Box.enc) fun _=>rfl;simp only[Zmk] at z6;simp +contextual -implicitDefEqProofs (maxSteps:=10^7) only[go_sem,seval,↓gZ,hx,ab,hw,w1,hc,hl,hr,z6];refine ih (i+1) _ (by omega) (by omega) ?_;simp +contextual -implicitDefEqProofs (maxSteps:=10^7) only[go_sem,seval,↓gZ,hm,Zmk]
  first | rfl | (simp;done) | (simp;rfl)
 ·have:i=L.length:=by omega
  subst this;simp +contextual -implicitDefEqProofs (maxSteps:=10^7) only[go_sem,seval,↓gZ];try simp
theorem Zly (qL qW qH:Int) (qF:List Box) (kW kH:Int) (kP:List Pane) (p:Ze) (Zj label:Int) (h1:1≤label) (h2:label≤10000)
  (hk:¬(Xc (Zs.mk kW kH kP) p Zj).length≤10000-label):Zd Xs Ms YO [(.d (.agg [J qL,J qW,J qH,.sl (qF.map Box.enc)])),(.d (.agg [J kW,J kH,.sl (kP.map Pane.enc)])),.d p.enc,(.d (J Zj)),(.d (J label))] [] =
  some (.tup [.own 0,(.d (.bool false))],[.row 4 [] true false]):=by
 have ek:=ZgQ kW kH kP p Zj;generalize Xc (Zs.mk kW kH kP) p Zj=L at ek hk ⊢;have w0:=wi (10000-label) (by omega) (by omega);have n0:10000-label<(L.length:Int):=by omega
 obtain⟨o,a,n,t,ks⟩:=p;rw[Ze.enc_mk] at ek ⊢;refine cE ?_;simp +contextual -implicitDefEqProofs (maxSteps:=10^7) only[go_sem,seval,↓gZ,JB,ek,w0,n0]
theorem ZcX (bX bY bW bH:Int) (Zj:Int):Zd Xs Ms Wr [(.d (.agg [J bX,J bY,J bW,J bH])),(.d (J Zj))] []=some ((.d (.bool (decide (Zj≤bW∧Zj≤bH)))),[]):=by
 refine cE ?_;simp +contextual -implicitDefEqProofs (maxSteps:=10^7) only[go_sem,seval,↓gZ,ZeO]
theorem Zki (bX bY bW bH:Int) (hb:VB (Box.mk bX bY bW bH)):Zd Xs Ms JX [(.d (.agg [J bX,J bY,J bW,J bH]))] []=some ((.d (J (bW*bH))),[]):=by
 have h:=JF hb;simp only at h;have w:=wi (bW*bH) (by omega) (by omega);refine cE ?_;simp +contextual -implicitDefEqProofs (maxSteps:=10^7) only[go_sem,seval,↓gZ,Zhv,w]
theorem ZrC (kW kH:Int) (kP:List Pane) (p:Ze) (Zj:Int) (hv:Q6 (Zs.mk kW kH kP) p=true) (h1:1≤Zj) (h2:Zj≤200):Zd Xs Ms Zar [(.d (.agg [J kW,J kH,.sl (kP.map Pane.enc)])),.d p.enc,(.d (J Zj))] [] =
  some ((.d (J (QT (Zel (Zs.mk kW kH kP) p Zj)))),[]):=by
 have ev:=WS kW kH kP p;rw[hv] at ev;have ep:=ZiZ kW kH kP p;have aa:=ZcP hv;have ad:((ZU (Zs.mk kW kH kP) p).filterMap X7).length≤255:=Kt (Kn _ _) (JI _ _);unfold Zel;generalize (ZU (Zs.mk kW kH kP) p).filterMap X7=L at ep aa ad ⊢;clear hv;have n1:¬Zj<1:=by omega
 have n2:¬200<Zj:=by omega
 obtain⟨o,a,n,t,ks⟩:=p;rw[Ze.enc_mk] at ev ep ⊢;refine cE ?_;simp +contextual -implicitDefEqProofs (maxSteps:=10^7) only[go_sem,seval,↓gZ,ZfU,ev,ep,n1,n2];refine LO (α:=Nat) (fun i=>[(26,.d (J (i:Int))),(7,.d (J (QT ((L.take i).filterMap (Jt Zj)))))]) (fun _=>[]) (fun i=>i≤L.length) (fun i=>L.length-i) 0 (by omega) ?_;intro i hi ih;by_cases ae:i<L.length
 ·obtain⟨x,hx⟩:=Zl ae;have hw:=Zh (k:=i) (by omega);have hm:=Za1 (f:=Jt Zj) hx;have af:=aa x (Kb hx);have ha:=ZdN (l:=(L.take i).filterMap (Jt Zj)) (fun c hc=>by
   obtain⟨d,hd,ab⟩:=Ls.1 hc;unfold Jt at ab;split at ab
   ·cases ab;exact aa c (K8 hd)
   ·cases ab)
  have ah:((L.take i).filterMap (Jt Zj)).length≤i:=Kt (Kn _ _) (by simp;omega);have ag:=JF af;obtain⟨X,Y,W,H⟩:=x;simp only at ag;have w1:=wi (QT ((L.take i).filterMap (Jt Zj))+W*H) (by omega) (by omega);simp only[Jt] at hm;by_cases ho:W<Zj∨H<Zj
  ·rw[Kl ho] at hm;simp +contextual -implicitDefEqProofs (maxSteps:=10^7) only[go_sem,seval,↓gZ,hx,ae,hw,ho,Zki X Y W H af,w1];refine ih (i+1) _ (by omega) (by omega) ?_;simp +contextual -implicitDefEqProofs (maxSteps:=10^7) only[go_sem,seval,↓gZ,hm,UP,Option.toList,QT]
   first | rfl | (simp;done) | (simp;rfl)
  ·rw[Ki ho] at hm;simp +contextual -implicitDefEqProofs (maxSteps:=10^7) only[go_sem,seval,↓gZ,hx,ae,hw,ho];refine ih (i+1) _ (by omega) (by omega) ?_;simp +contextual -implicitDefEqProofs (maxSteps:=10^7) only[go_sem,seval,↓gZ,hm]
   first | rfl | (simp;done) | (simp;rfl)
 ·have:i=L.length:=by omega
  subst this;simp +contextual -implicitDefEqProofs (maxSteps:=10^7) only[go_sem,seval,↓gZ];try simp
theorem ZrD (qL qW qH:Int) (qF:List Box) (kW kH:Int) (kP:List Pane) (p:Ze) (Zj label:Int) (hq:VPc (Zb.mk qL qW qH qF)) (hv:Q6 (Zs.mk kW kH kP) p=true) (h1:1≤label) (h2:label≤10000) :
  Zd Xs Ms Zax [(.d (.agg [J qL,J qW,J qH,.sl (qF.map Box.enc)])),(.d (.agg [J kW,J kH,.sl (kP.map Pane.enc)])),.d p.enc,(.d (J Zj)),(.d (J label))] [] =
  some (.own 0,[.row 4 ((JO (Zb.mk qL qW qH qF) label (Xc (Zs.mk kW kH kP) p Zj)).map Zb.enc) true false]):=by
 obtain⟨b,hb,ah,ai,ak,ae,aj⟩:=QR hv;have af:=ai;simp only[VW] at af;have ep:=Zi1 kW kH kP p b ah (by simp only[inB];omega) ae (by omega);have ab:=ZcP hv;have ad:((ZU (Zs.mk kW kH kP) p).filterMap X7).length≤255:=Kt (Kn _ _) (JI _ _);unfold Xc;rw[aj,Zfr] at ab ad ⊢;have al:∀ f∈qF,VB f:=fun f hf=>(hq.2 f hf).1;have am:qF.length≤6:=hq.1.2.2.2.2.2.2;have aa:∀ i,((wst b 0 0 kW kH).take i).length≤255:=fun i=>Kt (List.length_take_le' _ _) ad;generalize wst b 0 0 kW kH=L at ep ab ad aa ⊢;clear aj ah hb hv ae ai af;obtain⟨o,a,n,t,ks⟩:=p;rw[Ze.enc_mk] at ep ⊢;refine cE ?_
 simp +contextual -implicitDefEqProofs (maxSteps:=10^7) only[go_sem,seval,↓gZ,Zf2,ep];refine LO (α:=Nat) (fun i=>[(13,.d (J (i:Int)))]) (fun i=>[(1,.row 4 ((JO (Zb.mk qL qW qH qF) label ((L.take i).filterMap (Js Zj))).map Zb.enc) true false)]) (fun i=>i≤L.length) (fun i=>L.length-i) 0 (by omega) ?_;intro i hi ih;by_cases ag:i<L.length
 ·obtain⟨x,hx⟩:=Zl ag;have hw:=Zh (k:=i) (by omega);have hm:=Za1 (f:=Js Zj) hx;have ap:((L.take i).filterMap (Js Zj)).length≤255:=Kt (Kn _ _) (aa i);have hl:=ZdM (Zb.mk qL qW qH qF) label ((L.take i).filterMap (Js Zj));have hr:(((L.take i).filterMap (Js Zj)).length+1)*48≤140737488355328∧((L.take i).filterMap (Js Zj)).length≤140737488355327:=by omega
  have w1:=wi (label+(((L.take i).filterMap (Js Zj)).length:Int)) (by omega) (by omega);have an:=ab x (Kb hx);have ao:=fun y=>ZhV (Zb.mk qL qW qH qF) label ((L.take i).filterMap (Js Zj)) [y];obtain⟨X,Y,W,H⟩:=x;simp only[Js] at hm;have hc:=ZvI qL qW qH qF X Y W H (label+(((L.take i).filterMap (Js Zj)).length:Int)) al am an;by_cases ho:Zj≤W∧Zj≤H
  ·rw[Kl ho] at hm;simp +contextual -implicitDefEqProofs (maxSteps:=10^7) only[go_sem,seval,↓gZ,hx,ag,hw,ZcX,ho,hl,w1,hc,hr];refine ih (i+1) _ (by omega) (by omega) ?_;simp +contextual -implicitDefEqProofs (maxSteps:=10^7) only[go_sem,seval,↓gZ,hm,Option.toList,ao,JO,Zmk]
   first | rfl | (simp;done) | (simp;rfl)
  ·rw[Ki ho] at hm;simp +contextual -implicitDefEqProofs (maxSteps:=10^7) only[go_sem,seval,↓gZ,hx,ag,hw,ZcX,ho];refine ih (i+1) _ (by omega) (by omega) ?_;simp +contextual -implicitDefEqProofs (maxSteps:=10^7) only[go_sem,seval,↓gZ,hm]
   first | rfl | (simp;done) | (simp;rfl)
 ·have:i=L.length:=by omega
  subst this;simp +contextual -implicitDefEqProofs (maxSteps:=10^7) only[go_sem,seval,↓gZ];try simp
end Go.Proofs.YtbpekaejmjlmfaaGreat
