/- Own text. -/
import Derived.Test.YtefabmohhbhlfaaBCode
import Derived.Test.YtefabmohhbhlfaaAbsParts
import Derived.Test.YtefabmohhbhlfaaBC1
import Derived.Test.YtefabmohhbhlfaaAbsOkD
namespace Go.Proofs.Ytefabmohhbhlfaa
open Go Go.Abs Go.Abs.E Go.Abs.L
open Nat (reduceMul reduceSub reduceLeDiff reduceEqDiff)
open Int (reduceLE reduceEq reduceToNat reduceNeg)
set_option linter.unusedSimpArgs false
set_option linter.unusedVariables false
set_option maxRecDepth 20000
set_option maxHeartbeats 4000000
theorem QO (ps:List Pane):∀ (b:BT) (gX gY gW gH:Int) (xs:List D) (ex:Bool),inB (Box.mk gX gY gW gH)→Xi ps b gW gH=true→xs.length+b.cnt≤1000 →
  Zu Xs Ms ZT [.own 0,.d b.plan.enc,(.d (.agg [J gX,J gY,J gW,J gH]))] [.row 9 xs ex false]=some (.own 1,[.gone,.row 9 (xs++(pt b gX gY gW gH).map Part.enc) false false])
 | .waste,gX,gY,gW,gH,xs,ex,hg,hf,hl=>by
  simp only[BT.cnt] at hl;have h1:(xs.length+1)*88≤140737488355328∧xs.length≤140737488355327:=by omega
  simp only[BT.plan,Zs.enc_mk,pt];refine cE ?_;simp +contextual -implicitDefEqProofs (maxSteps:=10^7) only[go_sem,seval,↓gZ,QM,YA,h1]
 | .pane i t,gX,gY,gW,gH,xs,ex,hg,hf,hl=>by
  simp only[BT.cnt] at hl;have h1:(xs.length+1)*88≤140737488355328∧xs.length≤140737488355327:=by omega
  simp only[BT.plan,Zs.enc_mk,pt];refine cE ?_;simp +contextual -implicitDefEqProofs (maxSteps:=10^7) only[go_sem,seval,↓gZ,QM,YA,h1]
 | .cut d a l r,gX,gY,gW,gH,xs,ex,hg,hf,hl=>by
  simp only[BT.cnt] at hl;have h1:(xs.length+1)*88≤140737488355328∧xs.length≤140737488355327:=by omega
  simp only[inB] at hg;simp only[BT.plan,Zs.enc_mk];cases d with
  | true=>
   simp only[Xi,Kb,Kq,Kl] at hf;have e0:=WM 2 a 0 false [l.plan.enc,r.plan.enc] gX gY gW gH rfl ⟨by omega,by omega⟩ ⟨by omega,by omega⟩;have e1:=QO ps l gX gY a gH (xs++[.agg [J 2,J a,J 0,.bool false,.sl [l.plan.enc,r.plan.enc],J gX,J gY,J gW,J gH]]) false (by simp only[inB];omega) hf.1.2 (by simp only[Ki,Kk,KM];omega);have e2:=QO ps r (gX+a) gY (gW-a) gH (xs++[.agg [J 2,J a,J 0,.bool false,.sl [l.plan.enc,r.plan.enc],J gX,J gY,J gW,J gH]]++(pt l gX gY a gH).map Part.enc) false (by simp only[inB];omega) hf.2 (by simp only[Ki,Kk,KM,KQ,Zcc];omega)
   refine cE ?_;simp +contextual -implicitDefEqProofs (maxSteps:=10^7) only[go_sem,seval,↓gZ,QM,YA,h1,ZaK,e0,e1,e2];simp[pt,ZaK,BT.plan,Part.enc_mk]
  | false=>
   simp only[Xi,Kb,Kq,Ka,Kj] at hf;have e0:=VR 3 a 0 false [l.plan.enc,r.plan.enc] gX gY gW gH (by decide) ⟨by omega,by omega⟩ ⟨by omega,by omega⟩;have e1:=QO ps l gX gY gW a (xs++[.agg [J 3,J a,J 0,.bool false,.sl [l.plan.enc,r.plan.enc],J gX,J gY,J gW,J gH]]) false (by simp only[inB];omega) hf.1.2 (by simp only[Ki,Kk,KM];omega);have e2:=QO ps r gX (gY+a) gW (gH-a) (xs++[.agg [J 3,J a,J 0,.bool false,.sl [l.plan.enc,r.plan.enc],J gX,J gY,J gW,J gH]]++(pt l gX gY gW a).map Part.enc) false (by simp only[inB];omega) hf.2 (by simp only[Ki,Kk,KM,KQ,Zcc];omega)
   refine cE ?_;simp +contextual -implicitDefEqProofs (maxSteps:=10^7) only[go_sem,seval,↓gZ,QM,YA,h1,ZaK,e0,e1,e2];simp[pt,ZaK,BT.plan,Part.enc_mk]
theorem Zhb (ps:List Pane):∀ (b:BT) (gX gY gW gH:Int),inB (Box.mk gX gY gW gH)→Xi ps b gW gH=true→b.cnt≤1000 →
  Zu Xs Ms ZT [.nil,.d b.plan.enc,(.d (.agg [J gX,J gY,J gW,J gH]))] []=some (.own 0,[.row 9 ((pt b gX gY gW gH).map Part.enc) false false])
 | .waste,gX,gY,gW,gH,hg,hf,hl=>by
  have h1:1*88≤Zz∧1≤Zz:=by unfold Zz;omega
  simp only[BT.plan,Zs.enc_mk,pt];refine cE ?_;simp +contextual -implicitDefEqProofs (maxSteps:=10^7) only[go_sem,seval,↓gZ,QM,YA,h1]
 | .pane i t,gX,gY,gW,gH,hg,hf,hl=>by
  have h1:1*88≤Zz∧1≤Zz:=by unfold Zz;omega
  simp only[BT.plan,Zs.enc_mk,pt];refine cE ?_;simp +contextual -implicitDefEqProofs (maxSteps:=10^7) only[go_sem,seval,↓gZ,QM,YA,h1]
 | .cut d a l r,gX,gY,gW,gH,hg,hf,hl=>by
  simp only[BT.cnt] at hl;have h1:1*88≤Zz∧1≤Zz:=by unfold Zz;omega
  simp only[inB] at hg;simp only[BT.plan,Zs.enc_mk];cases d with
  | true=>
   simp only[Xi,Kb,Kq,Kl] at hf;have e0:=WM 2 a 0 false [l.plan.enc,r.plan.enc] gX gY gW gH rfl ⟨by omega,by omega⟩ ⟨by omega,by omega⟩;have e1:=QO ps l gX gY a gH [.agg [J 2,J a,J 0,.bool false,.sl [l.plan.enc,r.plan.enc],J gX,J gY,J gW,J gH]] false (by simp only[inB];omega) hf.1.2 (by simp only[Ki,Kk,KM];omega);have e2:=QO ps r (gX+a) gY (gW-a) gH (.agg [J 2,J a,J 0,.bool false,.sl [l.plan.enc,r.plan.enc],J gX,J gY,J gW,J gH] :: (pt l gX gY a gH).map Part.enc) false (by simp only[inB];omega) hf.2 (by simp only[Ki,Kk,KM,KQ,Zcc];omega)
   refine cE ?_;simp +contextual -implicitDefEqProofs (maxSteps:=10^7) only[go_sem,seval,↓gZ,QM,YA,h1,ZaK,e0,e1,e2];simp[pt,ZaK,BT.plan,Part.enc_mk]
  | false=>
   simp only[Xi,Kb,Kq,Ka,Kj] at hf;have e0:=VR 3 a 0 false [l.plan.enc,r.plan.enc] gX gY gW gH (by decide) ⟨by omega,by omega⟩ ⟨by omega,by omega⟩;have e1:=QO ps l gX gY gW a [.agg [J 3,J a,J 0,.bool false,.sl [l.plan.enc,r.plan.enc],J gX,J gY,J gW,J gH]] false (by simp only[inB];omega) hf.1.2 (by simp only[Ki,Kk,KM];omega);have e2:=QO ps r gX (gY+a) gW (gH-a) (.agg [J 3,J a,J 0,.bool false,.sl [l.plan.enc,r.plan.enc],J gX,J gY,J gW,J gH] :: (pt l gX gY gW a).map Part.enc) false (by simp only[inB];omega) hf.2 (by simp only[Ki,Kk,KM,KQ,Zcc];omega)
   refine cE ?_;simp +contextual -implicitDefEqProofs (maxSteps:=10^7) only[go_sem,seval,↓gZ,QM,YA,h1,ZaK,e0,e1,e2];simp[pt,ZaK,BT.plan,Part.enc_mk]
theorem Zkb (kW kH:Int) (kP:List Pane) (p:Zs):Zu Xs Ms WE [(.d (.agg [J kW,J kH,.sl (kP.map Pane.enc)])),.d p.enc] []=some (.own 0,[.row 9 ((X5 (ZM.mk kW kH kP) p).map Part.enc) (!Uk (ZM.mk kW kH kP) p) false]):=by
 have hv:=Ut kW kH kP p;unfold Uk at hv;unfold X5 Uk;cases hb:Xu p with
 | none=>
  rw[hb] at hv;obtain⟨o,a,q,t,ks⟩:=p;rw[Zs.enc_mk] at hv ⊢;refine cE ?_;simp +contextual -implicitDefEqProofs (maxSteps:=10^7) only[go_sem,seval,↓gZ,WF,hv];try rfl
 | some b=>
  have hp:=ZdN hb;rw[hb] at hv;dsimp only at hv ⊢;by_cases hh:(decide (VW (ZM.mk kW kH kP))&&decide (b.cnt≤255)&&Xi kP b kW kH)=true
  ·have aa:=hh;simp only[Kb,Kq] at aa;have hw:=aa.1.1;simp only[VW] at hw;have ab:=Zhb kP b 0 0 kW kH (by simp only[inB];omega) aa.2 (by omega);rw[← hp] at ab;rw[hh] at hv ⊢;obtain⟨o,a,q,t,ks⟩:=p;rw[Zs.enc_mk] at hv ab ⊢;refine cE ?_;simp +contextual -implicitDefEqProofs (maxSteps:=10^7) only[go_sem,seval,↓gZ,WF,Zdl,hv,ab];try rfl
  ·have hf:=(Lz _).mp hh;rw[hf] at hv ⊢;obtain⟨o,a,q,t,ks⟩:=p;rw[Zs.enc_mk] at hv ⊢;refine cE ?_;simp +contextual -implicitDefEqProofs (maxSteps:=10^7) only[go_sem,seval,↓gZ,WF,hv];try rfl
theorem Zhc (k:ZM) (p:Zs):(X5 k p).length≤255:=by
 unfold X5;split
 ·split
  ·rename_i h;simp only[Kb,Kq] at h;rw[Zcc];exact h.1.2
  ·simp
 ·simp
theorem Zh3 (kW kH:Int) (kP:List Pane) (p:Zs):Zu Xs Ms VT [(.d (.agg [J kW,J kH,.sl (kP.map Pane.enc)])),.d p.enc] []=some (.own 0,[.row 6 (((X5 (ZM.mk kW kH kP) p).filterMap XH).map Place.enc) true false]):=by
 have hv:=Zkb kW kH kP p;have hn:=Zhc (ZM.mk kW kH kP) p;generalize (!Uk (ZM.mk kW kH kP) p)=e at hv;generalize X5 (ZM.mk kW kH kP) p=ps at hv hn ⊢;obtain⟨o,a,q,t,ks⟩:=p;rw[Zs.enc_mk] at hv ⊢;refine cE ?_;simp +contextual -implicitDefEqProofs (maxSteps:=10^7) only[go_sem,seval,↓gZ,Zag,hv];refine LO (α:=Nat) (fun k=>[(12,.d (J (k:Int)))]) (fun k=>[(1,.row 6 (((ps.take k).filterMap XH).map Place.enc) true false)]) (fun k=>k≤ps.length) (fun k=>ps.length-k) 0 (by omega) ?_;intro k hk ih;by_cases aa:k<ps.length
 ·obtain⟨x,hx⟩:=Z1 aa;have hw:=ZE (k:=k) (by omega);have hm:=Zqu (f:=XH) hx;have ab:((ps.take k).filterMap XH).length≤k:=Lv (Lp _ _) (by simp;omega);have hr:(((ps.take k).filterMap XH).length+1)*48≤140737488355328∧((ps.take k).filterMap XH).length≤140737488355327:=by omega
  obtain⟨⟨o',a',q',t',ad⟩,⟨X,Y,W,H⟩⟩:=x;simp only[XH] at hm;by_cases ho:o'=1
  ·rw[Kt ho] at hm;simp +contextual -implicitDefEqProofs (maxSteps:=10^7) only[go_sem,seval,↓gZ,hx,aa,hw,ho,hr];refine ih (k+1) _ (by omega) (by omega) ?_;simp +contextual -implicitDefEqProofs (maxSteps:=10^7) only[go_sem,seval,↓gZ,hm]
   first | rfl | (simp;done) | (simp;rfl)
  ·rw[Kp ho] at hm;simp +contextual -implicitDefEqProofs (maxSteps:=10^7) only[go_sem,seval,↓gZ,hx,aa,hw,ho,hr];refine ih (k+1) _ (by omega) (by omega) ?_;simp +contextual -implicitDefEqProofs (maxSteps:=10^7) only[go_sem,seval,↓gZ,hm]
   first | rfl | (simp;done) | (simp;rfl)
 ·have:k=ps.length:=by omega
  subst this;simp +contextual -implicitDefEqProofs (maxSteps:=10^7) only[go_sem,seval,↓gZ];simp
end Go.Proofs.Ytefabmohhbhlfaa
