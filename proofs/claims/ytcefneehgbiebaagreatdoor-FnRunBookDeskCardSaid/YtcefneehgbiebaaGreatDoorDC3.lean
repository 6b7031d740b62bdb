/- Own text. -/
import Derived.Test.YtcefneehgbiebaaGreatDoorDCode
import Derived.Test.YtcefneehgbiebaaGreatDoorAbsParts
import Derived.Test.YtcefneehgbiebaaGreatDoorDC1
namespace Go.Proofs.YtcefneehgbiebaaGreatDoor
open Go Go.Abs Go.Abs.E Go.Abs.L
open Nat (reduceMul reduceSub reduceLeDiff reduceEqDiff)
open Int (reduceLE reduceEq reduceToNat reduceNeg)
set_option linter.unusedSimpArgs false
set_option linter.unusedVariables false
set_option maxRecDepth 20000
set_option maxHeartbeats 4000000
theorem XP (ps:List Pane):∀ (b:BT) (gX gY gW gH:Int) (xs:List D) (ex:Bool),inB (Box.mk gX gY gW gH)→X8 ps b gW gH=true→xs.length+b.cnt≤1000 →
  Ze Xs Ms Qw [.own 0,.d b.plan.enc,(.d (.agg [J gX,J gY,J gW,J gH]))] [.row 9 xs ex false]=some (.own 1,[.row 0 [] true false,.row 9 (xs++(pt b gX gY gW gH).map Part.enc) false false])
 | .waste,gX,gY,gW,gH,xs,ex,hg,hf,hl=>by
  simp only[BT.cnt] at hl;have h1:(xs.length+1)*88≤140737488355328∧xs.length≤140737488355327:=by omega
  simp only[BT.plan,Zf.enc_mk,pt];refine cE ?_;simp +contextual -implicitDefEqProofs (maxSteps:=10^7) only[go_sem,seval,↓gZ,XL,WZ,h1]
 | .pane i t,gX,gY,gW,gH,xs,ex,hg,hf,hl=>by
  simp only[BT.cnt] at hl;have h1:(xs.length+1)*88≤140737488355328∧xs.length≤140737488355327:=by omega
  simp only[BT.plan,Zf.enc_mk,pt];refine cE ?_;simp +contextual -implicitDefEqProofs (maxSteps:=10^7) only[go_sem,seval,↓gZ,XL,WZ,h1]
 | .cut d a l r,gX,gY,gW,gH,xs,ex,hg,hf,hl=>by
  simp only[BT.cnt] at hl;have h1:(xs.length+1)*88≤140737488355328∧xs.length≤140737488355327:=by omega
  simp only[inB] at hg;simp only[BT.plan,Zf.enc_mk];cases d with
  | true=>
   simp only[X8,Kf,Ko,Km] at hf;have e0:=Zb9 2 a 0 false [l.plan.enc,r.plan.enc] gX gY gW gH rfl ⟨by omega,by omega⟩ ⟨by omega,by omega⟩;have e1:=XP ps l gX gY a gH (xs++[.agg [J 2,J a,J 0,.bool false,.sl [l.plan.enc,r.plan.enc],J gX,J gY,J gW,J gH]]) false (by simp only[inB];omega) hf.1.2 (by simp only[Kr,Kp,KO];omega);have e2:=XP ps r (gX+a) gY (gW-a) gH (xs++[.agg [J 2,J a,J 0,.bool false,.sl [l.plan.enc,r.plan.enc],J gX,J gY,J gW,J gH]]++(pt l gX gY a gH).map Part.enc) false (by simp only[inB];omega) hf.2 (by simp only[Kr,Kp,KO,KP,Zab];omega)
   refine cE ?_;simp +contextual -implicitDefEqProofs (maxSteps:=10^7) only[go_sem,seval,↓gZ,XL,WZ,h1,VT,e0,e1,e2];simp[pt,VT,BT.plan,Part.enc_mk]
  | false=>
   simp only[X8,Kf,Ko,Ka,Kq] at hf;have e0:=Zak 3 a 0 false [l.plan.enc,r.plan.enc] gX gY gW gH (by decide) ⟨by omega,by omega⟩ ⟨by omega,by omega⟩;have e1:=XP ps l gX gY gW a (xs++[.agg [J 3,J a,J 0,.bool false,.sl [l.plan.enc,r.plan.enc],J gX,J gY,J gW,J gH]]) false (by simp only[inB];omega) hf.1.2 (by simp only[Kr,Kp,KO];omega);have e2:=XP ps r gX (gY+a) gW (gH-a) (xs++[.agg [J 3,J a,J 0,.bool false,.sl [l.plan.enc,r.plan.enc],J gX,J gY,J gW,J gH]]++(pt l gX gY gW a).map Part.enc) false (by simp only[inB];omega) hf.2 (by simp only[Kr,Kp,KO,KP,Zab];omega)
   refine cE ?_;simp +contextual -implicitDefEqProofs (maxSteps:=10^7) only[go_sem,seval,↓gZ,XL,WZ,h1,VT,e0,e1,e2];simp[pt,VT,BT.plan,Part.enc_mk]
theorem ZpZ (ps:List Pane):∀ (b:BT) (gX gY gW gH:Int),inB (Box.mk gX gY gW gH)→X8 ps b gW gH=true→b.cnt≤1000 →
  Ze Xs Ms Qw [.nil,.d b.plan.enc,(.d (.agg [J gX,J gY,J gW,J gH]))] []=some (.own 0,[.row 9 ((pt b gX gY gW gH).map Part.enc) false false])
 | .waste,gX,gY,gW,gH,hg,hf,hl=>by
  have h1:1*88≤ZU∧1≤ZU:=by unfold ZU;omega
  simp only[BT.plan,Zf.enc_mk,pt];refine cE ?_;simp +contextual -implicitDefEqProofs (maxSteps:=10^7) only[go_sem,seval,↓gZ,XL,WZ,h1]
 | .pane i t,gX,gY,gW,gH,hg,hf,hl=>by
  have h1:1*88≤ZU∧1≤ZU:=by unfold ZU;omega
  simp only[BT.plan,Zf.enc_mk,pt];refine cE ?_;simp +contextual -implicitDefEqProofs (maxSteps:=10^7) only[go_sem,seval,↓gZ,XL,WZ,h1]
 | .cut d a l r,gX,gY,gW,gH,hg,hf,hl=>by
  simp only[BT.cnt] at hl;have h1:1*88≤ZU∧1≤ZU:=by unfold ZU;omega
  simp only[inB] at hg;simp only[BT.plan,Zf.enc_mk];cases d with
  | true=>
   simp only[X8,Kf,Ko,Km] at hf;have e0:=Zb9 2 a 0 false [l.plan.enc,r.plan.enc] gX gY gW gH rfl ⟨by omega,by omega⟩ ⟨by omega,by omega⟩;have e1:=XP ps l gX gY a gH [.agg [J 2,J a,J 0,.bool false,.sl [l.plan.enc,r.plan.enc],J gX,J gY,J gW,J gH]] false (by simp only[inB];omega) hf.1.2 (by simp only[Kr,Kp,KO];omega);have e2:=XP ps r (gX+a) gY (gW-a) gH (.agg [J 2,J a,J 0,.bool false,.sl [l.plan.enc,r.plan.enc],J gX,J gY,J gW,J gH] :: (pt l gX gY a gH).map Part.enc) false (by simp only[inB];omega) hf.2 (by simp only[Kr,Kp,KO,KP,Zab];omega)
   refine cE ?_;simp +contextual -implicitDefEqProofs (maxSteps:=10^7) only[go_sem,seval,↓gZ,XL,WZ,h1,VT,e0,e1,e2];simp[pt,VT,BT.plan,Part.enc_mk]
  | false=>
   simp only[X8,Kf,Ko,Ka,Kq] at hf;have e0:=Zak 3 a 0 false [l.plan.enc,r.plan.enc] gX gY gW gH (by decide) ⟨by omega,by omega⟩ ⟨by omega,by omega⟩;have e1:=XP ps l gX gY gW a [.agg [J 3,J a,J 0,.bool false,.sl [l.plan.enc,r.plan.enc],J gX,J gY,J gW,J gH]] false (by simp only[inB];omega) hf.1.2 (by simp only[Kr,Kp,KO];omega);have e2:=XP ps r gX (gY+a) gW (gH-a) (.agg [J 3,J a,J 0,.bool false,.sl [l.plan.enc,r.plan.enc],J gX,J gY,J gW,J gH] :: (pt l gX gY gW a).map Part.enc) false (by simp only[inB];omega) hf.2 (by simp only[Kr,Kp,KO,KP,Zab];omega)
   refine cE ?_;simp +contextual -implicitDefEqProofs (maxSteps:=10^7) only[go_sem,seval,↓gZ,XL,WZ,h1,VT,e0,e1,e2];simp[pt,VT,BT.plan,Part.enc_mk]
theorem ZkE (kW kH:Int) (kP:List Pane) (p:Zf):Ze Xs Ms JU [(.d (.agg [J kW,J kH,.sl (kP.map Pane.enc)])),.d p.enc] []=some (.own 0,[.row 9 ((QI (ZI.mk kW kH kP) p).map Part.enc) (!VK (ZI.mk kW kH kP) p) false]):=by
 have hv:=Zal kW kH kP p;unfold VK at hv;unfold QI VK;cases hb:QP p with
 | none=>
  rw[hb] at hv;obtain⟨o,a,q,t,ks⟩:=p;rw[Zf.enc_mk] at hv ⊢;refine cE ?_;simp +contextual -implicitDefEqProofs (maxSteps:=10^7) only[go_sem,seval,↓gZ,ZbZ,hv];try rfl
 | some b=>
  have hp:=Uj hb;rw[hb] at hv;dsimp only at hv ⊢;by_cases hh:(decide (VW (ZI.mk kW kH kP))&&decide (b.cnt≤255)&&X8 kP b kW kH)=true
  ·have aa:=hh;simp only[Kf,Ko] at aa;have hw:=aa.1.1;simp only[VW] at hw;have ab:=ZpZ kP b 0 0 kW kH (by simp only[inB];omega) aa.2 (by omega);rw[← hp] at ab;rw[hh] at hv ⊢;obtain⟨o,a,q,t,ks⟩:=p;rw[Zf.enc_mk] at hv ab ⊢;refine cE ?_;simp +contextual -implicitDefEqProofs (maxSteps:=10^7) only[go_sem,seval,↓gZ,ZbZ,ZkA,hv,ab];try rfl
  ·have hf:=(LP _).mp hh;rw[hf] at hv ⊢;obtain⟨o,a,q,t,ks⟩:=p;rw[Zf.enc_mk] at hv ⊢;refine cE ?_;simp +contextual -implicitDefEqProofs (maxSteps:=10^7) only[go_sem,seval,↓gZ,ZbZ,hv];try rfl
theorem Zbn (k:ZI) (p:Zf):(QI k p).length≤255:=by
 unfold QI;split
 ·split
  ·rename_i h;simp only[Kf,Ko] at h;rw[Zab];exact h.1.2
  ·simp
 ·simp
theorem Zew (kW kH:Int) (kP:List Pane) (p:Zf):Ze Xs Ms V1 [(.d (.agg [J kW,J kH,.sl (kP.map Pane.enc)])),.d p.enc] []=some (.own 0,[.row 6 (((QI (ZI.mk kW kH kP) p).filterMap XD).map Place.enc) true false]):=by
 have hv:=ZkE kW kH kP p;have hn:=Zbn (ZI.mk kW kH kP) p;generalize (!VK (ZI.mk kW kH kP) p)=e at hv;generalize QI (ZI.mk kW kH kP) p=ps at hv hn ⊢;obtain⟨o,a,q,t,ks⟩:=p;rw[Zf.enc_mk] at hv ⊢;refine cE ?_;simp +contextual -implicitDefEqProofs (maxSteps:=10^7) only[go_sem,seval,↓gZ,Zgq,hv];refine LO (α:=Nat) (fun k=>[(12,.d (J (k:Int)))]) (fun k=>[(1,.row 6 (((ps.take k).filterMap XD).map Place.enc) true false)]) (fun k=>k≤ps.length) (fun k=>ps.length-k) 0 (by omega) ?_;intro k hk ih;by_cases aa:k<ps.length
 ·obtain⟨x,hx⟩:=Zs aa;have hw:=Zj (k:=k) (by omega);have hm:=Zbx (f:=XD) hx;have ab:((ps.take k).filterMap XD).length≤k:=Kz (Kl _ _) (by simp;omega);have hr:(((ps.take k).filterMap XD).length+1)*48≤140737488355328∧((ps.take k).filterMap XD).length≤140737488355327:=by omega
  obtain⟨⟨o',a',q',t',ad⟩,⟨X,Y,W,H⟩⟩:=x;simp only[XD] at hm;by_cases ho:o'=1
  ·rw[Kh ho] at hm;simp +contextual -implicitDefEqProofs (maxSteps:=10^7) only[go_sem,seval,↓gZ,hx,aa,hw,ho,hr];refine ih (k+1) _ (by omega) (by omega) ?_;simp +contextual -implicitDefEqProofs (maxSteps:=10^7) only[go_sem,seval,↓gZ,hm]
   first | rfl | (simp;done) | (simp;rfl)
  ·rw[Ke ho] at hm;simp +contextual -implicitDefEqProofs (maxSteps:=10^7) only[go_sem,seval,↓gZ,hx,aa,hw,ho,hr];refine ih (k+1) _ (by omega) (by omega) ?_;simp +contextual -implicitDefEqProofs (maxSteps:=10^7) only[go_sem,seval,↓gZ,hm]
   first | rfl | (simp;done) | (simp;rfl)
 ·have:k=ps.length:=by omega
  subst this;simp +contextual -implicitDefEqProofs (maxSteps:=10^7) only[go_sem,seval,↓gZ];simp
theorem ZiV (kW kH:Int) (kP:List Pane) (p:Zf):Ze Xs Ms Ux [(.d (.agg [J kW,J kH,.sl (kP.map Pane.enc)])),.d p.enc] []=some (.own 0,[.row 4 (((QI (ZI.mk kW kH kP) p).filterMap X3).map Box.enc) true false]):=by
 have hv:=ZkE kW kH kP p;have hn:=Zbn (ZI.mk kW kH kP) p;generalize (!VK (ZI.mk kW kH kP) p)=e at hv;generalize QI (ZI.mk kW kH kP) p=ps at hv hn ⊢;obtain⟨o,a,q,t,ks⟩:=p;rw[Zf.enc_mk] at hv ⊢;refine cE ?_;simp +contextual -implicitDefEqProofs (maxSteps:=10^7) only[go_sem,seval,↓gZ,Zgw,hv];refine LO (α:=Nat) (fun k=>[(12,.d (J (k:Int)))]) (fun k=>[(1,.row 4 (((ps.take k).filterMap X3).map Box.enc) true false)]) (fun k=>k≤ps.length) (fun k=>ps.length-k) 0 (by omega) ?_;intro k hk ih;by_cases aa:k<ps.length
 ·obtain⟨x,hx⟩:=Zs aa;have hw:=Zj (k:=k) (by omega);have hm:=Zbx (f:=X3) hx;have ab:((ps.take k).filterMap X3).length≤k:=Kz (Kl _ _) (by simp;omega);have hr:(((ps.take k).filterMap X3).length+1)*32≤140737488355328∧((ps.take k).filterMap X3).length≤140737488355327:=by omega
  obtain⟨⟨o',a',q',t',ad⟩,⟨X,Y,W,H⟩⟩:=x;simp only[X3] at hm;by_cases ho:o'=0
  ·rw[Kh ho] at hm;simp +contextual -implicitDefEqProofs (maxSteps:=10^7) only[go_sem,seval,↓gZ,hx,aa,hw,ho,hr];refine ih (k+1) _ (by omega) (by omega) ?_;simp +contextual -implicitDefEqProofs (maxSteps:=10^7) only[go_sem,seval,↓gZ,hm]
   first | rfl | (simp;done) | (simp;rfl)
  ·rw[Ke ho] at hm;simp +contextual -implicitDefEqProofs (maxSteps:=10^7) only[go_sem,seval,↓gZ,hx,aa,hw,ho,hr];refine ih (k+1) _ (by omega) (by omega) ?_;simp +contextual -implicitDefEqProofs (maxSteps:=10^7) only[go_sem,seval,↓gZ,hm]
   first | rfl | (simp;done) | (simp;rfl)
 ·have:k=ps.length:=by omega
  subst this;simp +contextual -implicitDefEqProofs (maxSteps:=10^7) only[go_sem,seval,↓gZ];simp
theorem JP (ps:List Pane):∀ (b:BT) (gX gY gW gH:Int),inB (Box.mk gX gY gW gH)→X8 ps b gW gH=true→b.cnt≤1000 →
  Ze Xs Ms Y8 [.d b.plan.enc,(.d (.agg [J gX,J gY,J gW,J gH]))] []=some (.own 0,[.row 6 ((sp b gX gY gW gH).map Place.enc) true false])
 | .waste,gX,gY,gW,gH,hg,hf,hl=>by
  simp only[BT.plan,Zf.enc_mk,sp];refine cE ?_;simp +contextual -implicitDefEqProofs (maxSteps:=10^7) only[go_sem,seval,↓gZ,Zbs];try rfl
 | .pane i t,gX,gY,gW,gH,hg,hf,hl=>by
  simp only[BT.plan,Zf.enc_mk,sp];refine cE ?_;simp +contextual -implicitDefEqProofs (maxSteps:=10^7) only[go_sem,seval,↓gZ,Zbs];try rfl
 | .cut d a l r,gX,gY,gW,gH,hg,hf,hl=>by
  simp only[BT.cnt] at hl;simp only[inB] at hg;simp only[BT.plan,Zf.enc_mk];cases d with
  | true=>
   simp only[X8,Kf,Ko,Km] at hf;have w1:=wi (gX+a) (by omega) (by omega);have w2:=wi (gW-a) (by omega) (by omega);have l1:=Zel l gX gY a gH;have l2:=Zel r (gX+a) gY (gW-a) gH;have e1:=JP ps l gX gY a gH (by simp only[inB];omega) hf.1.2 (by omega);have e2:=JP ps r (gX+a) gY (gW-a) gH (by simp only[inB];omega) hf.2 (by omega);have h1:((sp l gX gY a gH).length+(sp r (gX+a) gY (gW-a) gH).length)*48≤140737488355328∧(sp l gX gY a gH).length+(sp r (gX+a) gY (gW-a) gH).length≤140737488355328:=by omega
   refine cE ?_;simp +contextual -implicitDefEqProofs (maxSteps:=10^7) only[go_sem,seval,↓gZ,Zbs,VT,w1,w2,h1,e1,e2];simp[sp]
  | false=>
   simp only[X8,Kf,Ko,Ka,Kq] at hf;have w1:=wi (gY+a) (by omega) (by omega);have w2:=wi (gH-a) (by omega) (by omega);have l1:=Zel l gX gY gW a;have l2:=Zel r gX (gY+a) gW (gH-a);have e1:=JP ps l gX gY gW a (by simp only[inB];omega) hf.1.2 (by omega);have e2:=JP ps r gX (gY+a) gW (gH-a) (by simp only[inB];omega) hf.2 (by omega);have h1:((sp l gX gY gW a).length+(sp r gX (gY+a) gW (gH-a)).length)*48≤140737488355328∧(sp l gX gY gW a).length+(sp r gX (gY+a) gW (gH-a)).length≤140737488355328:=by omega
   refine cE ?_;simp +contextual -implicitDefEqProofs (maxSteps:=10^7) only[go_sem,seval,↓gZ,Zbs,VT,w1,w2,h1,e1,e2];simp[sp]
theorem Zbz (qL qW qH:Int) (qF:List Box):Ze Xs Ms V3 [(.d (.agg [J qL,J qW,J qH,.sl (qF.map Box.enc)]))] []=some (.d (.agg [J 0,J 0,J qW,J qH]),[]):=by
 refine cE ?_;simp +contextual -implicitDefEqProofs (maxSteps:=10^7) only[go_sem,seval,↓gZ,Zgv]
theorem Xn (qL qW qH:Int) (qF:List Box):Ze Xs Ms XV [(.d (.agg [J qL,J qW,J qH,.sl (qF.map Box.enc)]))] []=some ((.d (.bool (decide (VPc (Zb.mk qL qW qH qF))))),[]):=by
 refine cE ?_;by_cases h0:(((qL<1∨9999<qL)∨¬VB ⟨0,0,qW,qH⟩)∨(6:Int)<qF.length)
 ·simp +contextual -implicitDefEqProofs (maxSteps:=10^7) only[go_sem,seval,↓gZ,ZaU,Zbz,Wl,h0];exact Zg5 (by simp only[VPc];simp only[VB] at h0;omega)
 ·simp +contextual -implicitDefEqProofs (maxSteps:=10^7) only[go_sem,seval,↓gZ,ZaU,Zbz,Wl,h0];have hb:VB ⟨0,0,qW,qH⟩:=by
   refine Decidable.byContradiction fun h=>h0 (.inl (.inr h))
  refine LO (α:=Nat) (fun k=>[(28,.d (J (k:Int)))]) (fun _=>[]) (fun k=>k≤qF.length∧((∀ f∈qF,Zdd qW qH f)↔∀ f∈qF.drop k,Zdd qW qH f)) (fun k=>qF.length-k) 0 ⟨by omega,by simp⟩ ?_;intro k ⟨hk,hp⟩ ih;by_cases aa:k<qF.length
  ·obtain⟨x,hx⟩:=Zs aa;rw[Zfa hx] at hp;have hw:=Zj (k:=k) (by simp only[VB] at hb h0;omega);obtain⟨X,Y,W,H⟩:=x;simp +contextual -implicitDefEqProofs (maxSteps:=10^7) only[go_sem,seval,↓gZ,hx,aa,hw,Zbz,ZiR,hb];refine⟨fun h=>Zg5 (fun hh=>h ((hp.1 hh.2).1)),fun h=>ih (k+1) _ ⟨by omega,?_⟩ (by omega) ?_⟩
   ·rw[hp];exact⟨fun hh=>hh.2,fun hh=>⟨h,hh⟩⟩
   ·simp +contextual -implicitDefEqProofs (maxSteps:=10^7) only[go_sem,seval,↓gZ]
  ·have:k=qF.length:=by omega
   subst this;simp +contextual -implicitDefEqProofs (maxSteps:=10^7) only[go_sem,seval,↓gZ];have hv:∀ f∈qF,Zdd qW qH f:=hp.2 (by simp);exact ZyJ (by simp only[VPc];simp only[VB] at h0;exact⟨by omega,hv⟩)
theorem ZgJ (qL qW qH:Int) (qF:List Box) (hl:qF.length<4611686018427387904) (hW:R64 qW) (hH:R64 qH):Ze Xs Ms VC [(.d (.agg [J qL,J qW,J qH,.sl (qF.map Box.enc)]))] []=some ((.d (.bool (decide (VPc (Zb.mk qL qW qH qF))))),[]):=by
 refine cE ?_;simp +contextual -implicitDefEqProofs (maxSteps:=10^7) only[go_sem,seval,↓gZ,ZdN];refine LO (α:=Nat) (fun k=>[(3,.d (J (k:Int)))]) (fun _=>[]) (fun k=>k≤qF.length∧((∀ f∈qF,Zdd qW qH f)↔∀ f∈qF.drop k,Zdd qW qH f)) (fun k=>qF.length-k) 0 ⟨by omega,by simp⟩ ?_;intro k ⟨hk,hp⟩ ih;by_cases aa:k<qF.length
 ·obtain⟨x,hx⟩:=Zs aa;rw[Zfa hx] at hp;have hw:=Zj (k:=k) (by omega);obtain⟨X,Y,W,H⟩:=x;by_cases hv:VB ⟨X,Y,W,H⟩
  ·have hi:=Zrh X Y W H 0 0 qW qH hv ⟨by omega,by omega⟩ ⟨by omega,by omega⟩ (by simpa using hW) (by simpa using hH);simp +contextual -implicitDefEqProofs (maxSteps:=10^7) only[go_sem,seval,↓gZ,hx,aa,hw,ZiQ,hi,hv];refine⟨fun h=>Zg5 (fun hh=>h ((hp.1 hh.2).1.2)),fun h=>ih (k+1) _ ⟨by omega,?_⟩ (by omega) ?_⟩
   ·rw[hp];exact⟨fun hh=>hh.2,fun hh=>⟨⟨hv,h⟩,hh⟩⟩
   ·simp +contextual -implicitDefEqProofs (maxSteps:=10^7) only[go_sem,seval,↓gZ]
  ·simp +contextual -implicitDefEqProofs (maxSteps:=10^7) only[go_sem,seval,↓gZ,hx,aa,hw,ZiQ,hv];exact Zg5 (fun hh=>hv ((hp.1 hh.2).1.1))
 ·have:k=qF.length:=by omega
  subst this;simp +contextual -implicitDefEqProofs (maxSteps:=10^7) only[go_sem,seval,↓gZ,Zv];have hv:∀ f∈qF,Zdd qW qH f:=hp.2 (by simp);exact ZdW (by simp only[VPc];exact⟨fun h=>⟨by omega,hv⟩,fun h=>by omega⟩)
theorem Zp0 (fs:List Box) (bX bY bW bH:Int) (hf:∀ f∈fs,VB f) (hb:VB (Box.mk bX bY bW bH)) (hl:fs.length<4611686018427387904):Ze Xs Ms Jf [(.d (.sl (fs.map Box.enc))),(.d (.agg [J bX,J bY,J bW,J bH]))] []=some ((.d (.bool (!decide (Ql fs (Box.mk bX bY bW bH))))),[]):=by
 refine cE ?_;simp +contextual -implicitDefEqProofs (maxSteps:=10^7) only[go_sem,seval,↓gZ,ZeO];refine LO (α:=Nat) (fun k=>[(11,.d (J (k:Int)))]) (fun _=>[]) (fun k=>k≤fs.length∧(Ql fs (Box.mk bX bY bW bH)↔Ql (fs.drop k) (Box.mk bX bY bW bH))) (fun k=>fs.length-k) 0 ⟨by omega,by simp⟩ ?_;intro k ⟨hk,hp⟩ ih;by_cases aa:k<fs.length
 ·obtain⟨x,hx⟩:=Zs aa;have ad:=hx;unfold Ql at hp;rw[Zfa hx (fun f=>¬UI f (Box.mk bX bY bW bH))] at hp;have hw:=Zj (k:=k) (by omega);have ab:=hf x (Kc hx);obtain⟨X,Y,W,H⟩:=x;by_cases hm:UI ⟨X,Y,W,H⟩ (Box.mk bX bY bW bH)
  ·simp +contextual -implicitDefEqProofs (maxSteps:=10^7) only[go_sem,seval,↓gZ,hx,aa,hw,Zf4 X Y W H bX bY bW bH ab hb hm];have:¬Ql fs (Box.mk bX bY bW bH):=fun hh=>(hp.1 hh).1 hm;simp[this]
  ·simp +contextual -implicitDefEqProofs (maxSteps:=10^7) only[go_sem,seval,↓gZ,hx,aa,hw,Zhs X Y W H bX bY bW bH (fun hh=>hm hh.2.2)];refine ih (k+1) _ ⟨by omega,?_⟩ (by omega) ?_
   ·unfold Ql;rw[hp];exact⟨fun hh=>hh.2,fun hh=>⟨hm,hh⟩⟩
   ·simp +contextual -implicitDefEqProofs (maxSteps:=10^7) only[go_sem,seval,↓gZ]
 ·have:k=fs.length:=by omega
  subst this;simp +contextual -implicitDefEqProofs (maxSteps:=10^7) only[go_sem,seval,↓gZ];have:Ql fs (Box.mk bX bY bW bH):=hp.2 (by simp[Ql]);simp[this]
theorem ZkF (qL qW qH:Int) (qF:List Box) (bX bY bW bH:Int) (hf:∀ f∈qF,VB f) (hb:VB (Box.mk bX bY bW bH)) (hl:qF.length<4611686018427387904):Ze Xs Ms JT [(.d (.agg [J qL,J qW,J qH,.sl (qF.map Box.enc)])),(.d (.agg [J bX,J bY,J bW,J bH]))] []=some ((.d (.bool (decide (Ql qF (Box.mk bX bY bW bH))))),[]):=by
 refine cE ?_;simp +contextual -implicitDefEqProofs (maxSteps:=10^7) only[go_sem,seval,↓gZ,ZhS];refine LO (α:=Nat) (fun k=>[(5,.d (J (k:Int)))]) (fun _=>[]) (fun k=>k≤qF.length∧(Ql qF (Box.mk bX bY bW bH)↔Ql (qF.drop k) (Box.mk bX bY bW bH))) (fun k=>qF.length-k) 0 ⟨by omega,by simp⟩ ?_;intro k ⟨hk,hp⟩ ih;by_cases aa:k<qF.length
 ·obtain⟨x,hx⟩:=Zs aa;unfold Ql at hp;rw[Zfa hx (fun f=>¬UI f (Box.mk bX bY bW bH))] at hp;have hw:=Zj (k:=k) (by omega);have ab:=hf x (Kc hx);obtain⟨X,Y,W,H⟩:=x;by_cases hm:UI ⟨X,Y,W,H⟩ (Box.mk bX bY bW bH)
  ·simp +contextual -implicitDefEqProofs (maxSteps:=10^7) only[go_sem,seval,↓gZ,hx,aa,hw,Zkz X Y W H bX bY bW bH ab hb hm];have:¬Ql qF (Box.mk bX bY bW bH):=fun hh=>(hp.1 hh).1 hm;simp[this]
  ·simp +contextual -implicitDefEqProofs (maxSteps:=10^7) only[go_sem,seval,↓gZ,hx,aa,hw,ZmS X Y W H bX bY bW bH ab hb hm];refine ih (k+1) _ ⟨by omega,?_⟩ (by omega) ?_
   ·unfold Ql;rw[hp];exact⟨fun hh=>hh.2,fun hh=>⟨hm,hh⟩⟩
   ·simp +contextual -implicitDefEqProofs (maxSteps:=10^7) only[go_sem,seval,↓gZ]
 ·have:k=qF.length:=by omega
  subst this;simp +contextual -implicitDefEqProofs (maxSteps:=10^7) only[go_sem,seval,↓gZ];have:Ql qF (Box.mk bX bY bW bH):=hp.2 (by simp[Ql]);simp[this]
theorem ZiW (kW kH:Int) (kP:List Pane) (p:Zf) (b:BT) (hp:p=b.plan) (hg:inB ⟨0,0,kW,kH⟩) (hf:X8 kP b kW kH=true) (hl:b.cnt≤1000):Ze Xs Ms Uz [(.d (.agg [J kW,J kH,.sl (kP.map Pane.enc)])),.d p.enc] []=some (.own 0,[.row 6 ((plc b 0 0 kW kH).map Place.enc) true false]):=by
 have e:=JP kP b 0 0 kW kH hg hf hl;have hm:=Zlp b 0 0 kW kH (Zid hf);have hn:=Zel b 0 0 kW kH;rw[← hp] at e;rw[← hm];clear hm;generalize sp b 0 0 kW kH=S at e hn ⊢;clear hp hf hg;obtain⟨o,a,q,t,ks⟩:=p;rw[Zf.enc_mk] at e ⊢;refine cE ?_;simp +contextual -implicitDefEqProofs (maxSteps:=10^7) only[go_sem,seval,↓gZ,ZgC,e];refine LO (α:=Nat) (fun i=>[(7,.d (J (i:Int)))]) (fun i=>[(1,.row 6 (((S.take i).filterMap Zd2).map Place.enc) true false)]) (fun i=>i≤S.length) (fun i=>S.length-i) 0 (by omega) ?_;intro i hi ih;by_cases aa:i<S.length
 ·obtain⟨x,hx⟩:=Zs aa;have hw:=Zj (k:=i) (by omega);have hm:=Zbx (f:=Zd2) hx;have ab:((S.take i).filterMap Zd2).length≤i:=Kz (Kl _ _) (by simp;omega);have hr:(((S.take i).filterMap Zd2).length+1)*48≤140737488355328∧((S.take i).filterMap Zd2).length≤140737488355327:=by omega
  obtain⟨q',t',⟨X,Y,W,H⟩⟩:=x;simp only[Zd2] at hm;by_cases ho:0≤q'
  ·rw[Kh ho] at hm;simp +contextual -implicitDefEqProofs (maxSteps:=10^7) only[go_sem,seval,↓gZ,hx,aa,hw,ho,hr];refine ih (i+1) _ (by omega) (by omega) ?_;simp +contextual -implicitDefEqProofs (maxSteps:=10^7) only[go_sem,seval,↓gZ,hm]
   first | rfl | (simp;done) | (simp;rfl)
  ·rw[Ke ho] at hm;simp +contextual -implicitDefEqProofs (maxSteps:=10^7) only[go_sem,seval,↓gZ,hx,aa,hw,ho,hr];refine ih (i+1) _ (by omega) (by omega) ?_;simp +contextual -implicitDefEqProofs (maxSteps:=10^7) only[go_sem,seval,↓gZ,hm]
   first | rfl | (simp;done) | (simp;rfl)
 ·have:i=S.length:=by omega
  subst this;simp +contextual -implicitDefEqProofs (maxSteps:=10^7) only[go_sem,seval,↓gZ];simp
theorem ZiX (kW kH:Int) (kP:List Pane) (p:Zf) (b:BT) (hp:p=b.plan) (hg:inB ⟨0,0,kW,kH⟩) (hf:X8 kP b kW kH=true) (hl:b.cnt≤1000):Ze Xs Ms Uy [(.d (.agg [J kW,J kH,.sl (kP.map Pane.enc)])),.d p.enc] []=some (.own 0,[.row 4 ((wst b 0 0 kW kH).map Box.enc) true false]):=by
 have e:=JP kP b 0 0 kW kH hg hf hl;have hm:=Zlq b 0 0 kW kH (Zid hf);have hn:=Zel b 0 0 kW kH;rw[← hp] at e;rw[← hm];clear hm;generalize sp b 0 0 kW kH=S at e hn ⊢;clear hp hf hg;obtain⟨o,a,q,t,ks⟩:=p;rw[Zf.enc_mk] at e ⊢;refine cE ?_;simp +contextual -implicitDefEqProofs (maxSteps:=10^7) only[go_sem,seval,↓gZ,ZgB,e];refine LO (α:=Nat) (fun i=>[(7,.d (J (i:Int)))]) (fun i=>[(1,.row 4 (((S.take i).filterMap Zd3).map Box.enc) true false)]) (fun i=>i≤S.length) (fun i=>S.length-i) 0 (by omega) ?_;intro i hi ih;by_cases aa:i<S.length
 ·obtain⟨x,hx⟩:=Zs aa;have hw:=Zj (k:=i) (by omega);have hm:=Zbx (f:=Zd3) hx;have ab:((S.take i).filterMap Zd3).length≤i:=Kz (Kl _ _) (by simp;omega);have hr:(((S.take i).filterMap Zd3).length+1)*32≤140737488355328∧((S.take i).filterMap Zd3).length≤140737488355327:=by omega
  obtain⟨q',t',⟨X,Y,W,H⟩⟩:=x;simp only[Zd3] at hm;by_cases ho:q' < 0
  ·rw[Kh ho] at hm;simp +contextual -implicitDefEqProofs (maxSteps:=10^7) only[go_sem,seval,↓gZ,hx,aa,hw,ho,hr];refine ih (i+1) _ (by omega) (by omega) ?_;simp +contextual -implicitDefEqProofs (maxSteps:=10^7) only[go_sem,seval,↓gZ,hm]
   first | rfl | (simp;done) | (simp;rfl)
  ·rw[Ke ho] at hm;simp +contextual -implicitDefEqProofs (maxSteps:=10^7) only[go_sem,seval,↓gZ,hx,aa,hw,ho,hr];refine ih (i+1) _ (by omega) (by omega) ?_;simp +contextual -implicitDefEqProofs (maxSteps:=10^7) only[go_sem,seval,↓gZ,hm]
   first | rfl | (simp;done) | (simp;rfl)
 ·have:i=S.length:=by omega
  subst this;simp +contextual -implicitDefEqProofs (maxSteps:=10^7) only[go_sem,seval,↓gZ];simp
theorem Zrp (qL qW qH:Int) (qF:List Box) (kW kH:Int) (kP:List Pane) (p:Zf):Ze Xs Ms ZaH [(.d (.agg [J qL,J qW,J qH,.sl (qF.map Box.enc)])),(.d (.agg [J kW,J kH,.sl (kP.map Pane.enc)])),.d p.enc] []=some ((.d (.bool (decide (VPc (Zb.mk qL qW qH qF)∧WJ (Zb.mk qL qW qH qF) (ZI.mk kW kH kP) p)))),[]):=by
 have ev:=Zal kW kH kP p;by_cases hq:VPc (Zb.mk qL qW qH qF)
 ·by_cases hv:VK (ZI.mk kW kH kP) p=true
  ·by_cases hw:kW=qW
   ·by_cases hh:kH=qH
    ·subst hw;subst hh;have ep:=Zew kW kH kP p;obtain⟨b,hb,ah,ai,aj,ad,af⟩:=Xx hv;have ab:∀ c∈(QI (ZI.mk kW kH kP) p).filterMap XD,VB c.Box:=by
      rw[af,Wk];exact Zkh (p:=p) ai ad
     have ae:((QI (ZI.mk kW kH kP) p).filterMap XD).length≤255:=Kz (Kl _ _) (Zbn _ _);have aa:WJ ⟨qL,kW,kH,qF⟩ (ZI.mk kW kH kP) p↔∀ c∈(QI (ZI.mk kW kH kP) p).filterMap XD,Ql qF c.Box:=by
      unfold WJ;exact⟨fun h=>h.2.2.2,fun h=>⟨hv,rfl,rfl,h⟩⟩
     have ak:∀ f∈qF,VB f:=fun f hf=>(hq.2 f hf).1;have an:qF.length≤6:=hq.1.2.2.2.2.2.2;rw[hv] at ev;generalize hL:(QI (ZI.mk kW kH kP) p).filterMap XD=L at ep ab ae aa;clear hL af ah hb;obtain⟨o,a,n,t,ks⟩:=p;rw[Zf.enc_mk] at ev ep ⊢;refine cE ?_;simp +contextual -implicitDefEqProofs (maxSteps:=10^7) only[go_sem,seval,↓gZ,V7,Xn,hq,ev,ep];refine LO (α:=Nat) (fun i=>[(36,.d (J (i:Int)))]) (fun _=>[]) (fun i=>i≤L.length∧((∀ c∈L,Ql qF c.Box)↔∀ c∈L.drop i,Ql qF c.Box)) (fun i=>L.length-i) 0 ⟨by omega,by simp⟩ ?_;intro i ⟨hi,hp⟩ ih;by_cases ag:i<L.length
     ·obtain⟨x,hx⟩:=Zs ag;rw[Zfa hx (fun c=>Ql qF c.Box)] at hp;have hw:=Zj (k:=i) (by omega);have al:=ab x (Kc hx);obtain⟨q',t',⟨X,Y,W,H⟩⟩:=x;have em:=Zp0 qF X Y W H ak al (by omega);simp +contextual -implicitDefEqProofs (maxSteps:=10^7) only[go_sem,seval,↓gZ,hx,ag,hw,em];refine⟨fun h=>Zg5 (fun h'=>h ((hp.1 (aa.1 h')).1)),fun h=>ih (i+1) _ ⟨by omega,?_⟩ (by omega) ?_⟩
      ·rw[hp];exact⟨fun h'=>h'.2,fun h'=>⟨h,h'⟩⟩
      ·simp +contextual -implicitDefEqProofs (maxSteps:=10^7) only[go_sem,seval,↓gZ]
     ·have:i=L.length:=by omega
      subst this;simp +contextual -implicitDefEqProofs (maxSteps:=10^7) only[go_sem,seval,↓gZ];exact ZyJ (aa.2 (hp.2 (by simp)))
    ·subst hw;have hn:¬WJ ⟨qL,kW,qH,qF⟩ (ZI.mk kW kH kP) p:=fun h=>hh h.2.2.1;obtain⟨o,a,n,t,ks⟩:=p;rw[hv] at ev;rw[Zf.enc_mk] at ev ⊢;refine cE ?_;simp +contextual -implicitDefEqProofs (maxSteps:=10^7) only[go_sem,seval,↓gZ,V7,Xn,hq,ev,hh,hn]
   ·have hn:¬WJ (Zb.mk qL qW qH qF) (ZI.mk kW kH kP) p:=fun h=>hw h.2.1;obtain⟨o,a,n,t,ks⟩:=p;rw[hv] at ev;rw[Zf.enc_mk] at ev ⊢;refine cE ?_;simp +contextual -implicitDefEqProofs (maxSteps:=10^7) only[go_sem,seval,↓gZ,V7,Xn,hq,ev,hw,hn]
  ·have am:=(LP _).mp hv;have hn:¬WJ (Zb.mk qL qW qH qF) (ZI.mk kW kH kP) p:=fun h=>hv h.1;rw[am] at ev;obtain⟨o,a,n,t,ks⟩:=p;rw[Zf.enc_mk] at ev ⊢;refine cE ?_;simp +contextual -implicitDefEqProofs (maxSteps:=10^7) only[go_sem,seval,↓gZ,V7,Xn,hq,ev,hn]
 ·obtain⟨o,a,n,t,ks⟩:=p;rw[Zf.enc_mk] at ev ⊢;refine cE ?_;simp +contextual -implicitDefEqProofs (maxSteps:=10^7) only[go_sem,seval,↓gZ,V7,Xn,hq]
theorem ZiY (qL qW qH:Int) (qF:List Box) (kW kH:Int) (kP:List Pane) (p:Zf) (al:∀ f∈qF,VB f) (ao:qF.length≤6) (hl:kP.length<4611686018427387904):Ze Xs Ms ZaL [(.d (.agg [J qL,J qW,J qH,.sl (qF.map Box.enc)])),(.d (.agg [J kW,J kH,.sl (kP.map Pane.enc)])),.d p.enc] []=some ((.d (.bool (decide (WJ (Zb.mk qL qW qH qF) (ZI.mk kW kH kP) p)))),[]):=by
 have ev:=Zht kW kH kP p hl;by_cases hv:VK (ZI.mk kW kH kP) p=true
 ·by_cases hw:kW=qW
  ·by_cases hh:kH=qH
   ·subst hw;subst hh;obtain⟨b,hb,ah,ai,ae,ab,aj⟩:=Xx hv;have af:=ai;simp only[VW] at af;have ep:=ZiW kW kH kP p b ah (by simp only[inB];omega) ab (by omega);have ad:∀ c∈plc b 0 0 kW kH,VB c.Box:=Zkh (p:=p) ai ab;have ag:(plc b 0 0 kW kH).length≤255:=by
     rw[← Wk];exact Kz (Kl _ _) (by rw[Zab];exact ae)
    have aa:WJ ⟨qL,kW,kH,qF⟩ (ZI.mk kW kH kP) p↔∀ c∈plc b 0 0 kW kH,Ql qF c.Box:=by
     unfold WJ;rw[aj,Wk];exact⟨fun h=>h.2.2.2,fun h=>⟨hv,rfl,rfl,h⟩⟩
    rw[hv] at ev;generalize plc b 0 0 kW kH=L at ep ad ag aa;clear aj ah hb;obtain⟨o,a,n,t,ks⟩:=p;rw[Zf.enc_mk] at ev ep ⊢;refine cE ?_;simp +contextual -implicitDefEqProofs (maxSteps:=10^7) only[go_sem,seval,↓gZ,UF,ev,ep];refine LO (α:=Nat) (fun i=>[(8,.d (J (i:Int)))]) (fun _=>[]) (fun i=>i≤L.length∧((∀ c∈L,Ql qF c.Box)↔∀ c∈L.drop i,Ql qF c.Box)) (fun i=>L.length-i) 0 ⟨by omega,by simp⟩ ?_;intro i ⟨hi,hp⟩ ih;by_cases ak:i<L.length
    ·obtain⟨x,hx⟩:=Zs ak;rw[Zfa hx (fun c=>Ql qF c.Box)] at hp;have hw:=Zj (k:=i) (by omega);have am:=ad x (Kc hx);obtain⟨q',t',⟨X,Y,W,H⟩⟩:=x;have em:=ZkF qL kW kH qF X Y W H al am (by omega);simp +contextual -implicitDefEqProofs (maxSteps:=10^7) only[go_sem,seval,↓gZ,hx,ak,hw,em];refine⟨fun h=>Zg5 (fun h'=>h ((hp.1 (aa.1 h')).1)),fun h=>ih (i+1) _ ⟨by omega,?_⟩ (by omega) ?_⟩
     ·rw[hp];exact⟨fun h'=>h'.2,fun h'=>⟨h,h'⟩⟩
     ·simp +contextual -implicitDefEqProofs (maxSteps:=10^7) only[go_sem,seval,↓gZ]
    ·have:i=L.length:=by omega
     subst this;simp +contextual -implicitDefEqProofs (maxSteps:=10^7) only[go_sem,seval,↓gZ];exact ZyJ (aa.2 (hp.2 (by simp)))
   ·subst hw;have hn:¬WJ ⟨qL,kW,qH,qF⟩ (ZI.mk kW kH kP) p:=fun h=>hh h.2.2.1;obtain⟨o,a,n,t,ks⟩:=p;rw[hv] at ev;rw[Zf.enc_mk] at ev ⊢;refine cE ?_;simp +contextual -implicitDefEqProofs (maxSteps:=10^7) only[go_sem,seval,↓gZ,UF,ev,hh,hn]
  ·have hn:¬WJ (Zb.mk qL qW qH qF) (ZI.mk kW kH kP) p:=fun h=>hw h.2.1;obtain⟨o,a,n,t,ks⟩:=p;rw[hv] at ev;rw[Zf.enc_mk] at ev ⊢;refine cE ?_;simp +contextual -implicitDefEqProofs (maxSteps:=10^7) only[go_sem,seval,↓gZ,UF,ev,hw,hn]
 ·have an:=(LP _).mp hv;have hn:¬WJ (Zb.mk qL qW qH qF) (ZI.mk kW kH kP) p:=fun h=>hv h.1;rw[an] at ev;obtain⟨o,a,n,t,ks⟩:=p;rw[Zf.enc_mk] at ev ⊢;refine cE ?_;simp +contextual -implicitDefEqProofs (maxSteps:=10^7) only[go_sem,seval,↓gZ,UF,ev,hn]
theorem Zwq (qL qW qH:Int) (qF:List Box) (bX bY bW bH:Int) (label:Int) (hq:VPc (Zb.mk qL qW qH qF)) (hb:VB (Box.mk bX bY bW bH)) (hi:Wz (Box.mk bX bY bW bH) ⟨0,0,qW,qH⟩) (h1:1≤label) (h2:label≤9999) :
  Ze Xs Ms ZdG [(.d (.agg [J qL,J qW,J qH,.sl (qF.map Box.enc)])),(.d (.agg [J bX,J bY,J bW,J bH])),(.d (J label))] []=some (.agg [(.d (J label)),(.d (J bW)),(.d (J bH)),.own 0],[.row 4 ((qF.filterMap (YO (Box.mk bX bY bW bH))).map Box.enc) true false]):=by
 have ae:=hq.1;simp only at ae;have n1:¬label<1:=by omega
 have n2:¬9999<label:=by omega
 have af:VB ⟨0,0,qW,qH⟩:=by simp only[VB];omega
 refine cE ?_;simp +contextual -implicitDefEqProofs (maxSteps:=10^7) only[go_sem,seval,↓gZ,ZjM,Xn,Zbz,ZiR,hq,hb,hi,af,n1,n2];refine LO (α:=Nat) (fun i=>[(40,.d (J (i:Int)))]) (fun i=>[(3,.row 4 (((qF.take i).filterMap (YO (Box.mk bX bY bW bH))).map Box.enc) true false)]) (fun i=>i≤qF.length) (fun i=>qF.length-i) 0 (by omega) ?_;intro i hk ih;by_cases aa:i<qF.length
 ·obtain⟨x,hx⟩:=Zs aa;have hw:=Zj (k:=i) (by omega);have hm:=Zbx (f:=YO (Box.mk bX bY bW bH)) hx;have ah:((qF.take i).filterMap (YO (Box.mk bX bY bW bH))).length≤i:=Kz (Kl _ _) (by simp;omega);have hr:(((qF.take i).filterMap (YO (Box.mk bX bY bW bH))).length+1)*32≤140737488355328∧((qF.take i).filterMap (YO (Box.mk bX bY bW bH))).length≤140737488355327:=by omega
  have ad:=(hq.2 x (Kc hx)).1;obtain⟨X,Y,W,H⟩:=x;have ab:=ad;have ag:=hb;simp only[VB] at ab ag;simp only[YO] at hm;by_cases ho:UI ⟨X,Y,W,H⟩ (Box.mk bX bY bW bH)
  ·rw[Kh ho] at hm;have w1:=wi (max X bX-bX) (by omega) (by omega);have w2:=wi (max Y bY-bY) (by omega) (by omega);simp +contextual -implicitDefEqProofs (maxSteps:=10^7) only[go_sem,seval,↓gZ,hx,aa,hw,Zf4 X Y W H bX bY bW bH ad hb ho,hr,Zg6,w1,w2];refine ih (i+1) _ (by omega) (by omega) ?_;simp +contextual -implicitDefEqProofs (maxSteps:=10^7) only[go_sem,seval,↓gZ,hm,Zt9,Zg6]
   first | rfl | (simp;done) | (simp;rfl)
  ·rw[Ke ho] at hm;simp +contextual -implicitDefEqProofs (maxSteps:=10^7) only[go_sem,seval,↓gZ,hx,aa,hw,Zhs X Y W H bX bY bW bH (fun hh=>ho hh.2.2),hr];refine ih (i+1) _ (by omega) (by omega) ?_;simp +contextual -implicitDefEqProofs (maxSteps:=10^7) only[go_sem,seval,↓gZ,hm]
   first | rfl | (simp;done) | (simp;rfl)
 ·have:i=qF.length:=by omega
  subst this;simp +contextual -implicitDefEqProofs (maxSteps:=10^7) only[go_sem,seval,↓gZ];try simp
theorem Zwr (qL qW qH:Int) (qF:List Box) (bX bY bW bH:Int) (label:Int) (hf:∀ f∈qF,VB f) (hl:qF.length≤6) (hb:VB (Box.mk bX bY bW bH)) :
  Ze Xs Ms ZdH [(.d (.agg [J qL,J qW,J qH,.sl (qF.map Box.enc)])),(.d (.agg [J bX,J bY,J bW,J bH])),(.d (J label))] []=some (.agg [(.d (J label)),(.d (J bW)),(.d (J bH)),.own 0],[.row 4 ((qF.filterMap (YO (Box.mk bX bY bW bH))).map Box.enc) true false]):=by
 refine cE ?_;simp +contextual -implicitDefEqProofs (maxSteps:=10^7) only[go_sem,seval,↓gZ,ZjN];refine LO (α:=Nat) (fun i=>[(8,.d (J (i:Int)))]) (fun i=>[(4,.row 4 (((qF.take i).filterMap (YO (Box.mk bX bY bW bH))).map Box.enc) true false)]) (fun i=>i≤qF.length) (fun i=>qF.length-i) 0 (by omega) ?_;intro i hk ih;by_cases aa:i<qF.length
 ·obtain⟨x,hx⟩:=Zs aa;have hw:=Zj (k:=i) (by omega);have hm:=Zbx (f:=YO (Box.mk bX bY bW bH)) hx;have af:((qF.take i).filterMap (YO (Box.mk bX bY bW bH))).length≤i:=Kz (Kl _ _) (by simp;omega);have hr:(((qF.take i).filterMap (YO (Box.mk bX bY bW bH))).length+1)*32≤140737488355328∧((qF.take i).filterMap (YO (Box.mk bX bY bW bH))).length≤140737488355327:=by omega
  have ab:=hf x (Kc hx);obtain⟨X,Y,W,H⟩:=x;have ad:=ab;have ae:=hb;simp only[VB] at ad ae;simp only[YO] at hm;by_cases ho:UI ⟨X,Y,W,H⟩ (Box.mk bX bY bW bH)
  ·rw[Kh ho] at hm;have w1:=wi (max X bX-bX) (by omega) (by omega);have w2:=wi (max Y bY-bY) (by omega) (by omega);simp +contextual -implicitDefEqProofs (maxSteps:=10^7) only[go_sem,seval,↓gZ,hx,aa,hw,Zkz X Y W H bX bY bW bH ab hb ho,hr,Zg6,w1,w2];refine ih (i+1) _ (by omega) (by omega) ?_;simp +contextual -implicitDefEqProofs (maxSteps:=10^7) only[go_sem,seval,↓gZ,hm,Zt9,Zg6]
   first | rfl | (simp;done) | (simp;rfl)
  ·rw[Ke ho] at hm;simp +contextual -implicitDefEqProofs (maxSteps:=10^7) only[go_sem,seval,↓gZ,hx,aa,hw,ZmS X Y W H bX bY bW bH ab hb ho,hr];refine ih (i+1) _ (by omega) (by omega) ?_;simp +contextual -implicitDefEqProofs (maxSteps:=10^7) only[go_sem,seval,↓gZ,hm]
   first | rfl | (simp;done) | (simp;rfl)
 ·have:i=qF.length:=by omega
  subst this;simp +contextual -implicitDefEqProofs (maxSteps:=10^7) only[go_sem,seval,↓gZ];try simp
theorem ZgK (kW kH:Int) (kP:List Pane) (p:Zf) (Zi:Int):Ze Xs Ms Ua [(.d (.agg [J kW,J kH,.sl (kP.map Pane.enc)])),.d p.enc,(.d (J Zi))] []=some (.own 0,[.row 4 ((Xc (ZI.mk kW kH kP) p Zi).map Box.enc) true false]):=by
 have hv:=ZiV kW kH kP p;have hn:((QI (ZI.mk kW kH kP) p).filterMap X3).length≤255:=Kz (Kl _ _) (Zbn (ZI.mk kW kH kP) p);unfold Xc;generalize (QI (ZI.mk kW kH kP) p).filterMap X3=ps at hv hn ⊢;obtain⟨o,a,q,t,ks⟩:=p;rw[Zf.enc_mk] at hv ⊢;refine cE ?_;simp +contextual -implicitDefEqProofs (maxSteps:=10^7) only[go_sem,seval,↓gZ,ZdQ,hv];refine LO (α:=Nat) (fun k=>[(14,.d (J (k:Int)))]) (fun k=>[(1,.row 4 (((ps.take k).filterMap (UW Zi)).map Box.enc) true false)]) (fun k=>k≤ps.length) (fun k=>ps.length-k) 0 (by omega) ?_;intro k hk ih;by_cases aa:k<ps.length
 ·obtain⟨x,hx⟩:=Zs aa;have hw:=Zj (k:=k) (by omega);have hm:=Zbx (f:=UW Zi) hx;have ab:((ps.take k).filterMap (UW Zi)).length≤k:=Kz (Kl _ _) (by simp;omega);have hr:(((ps.take k).filterMap (UW Zi)).length+1)*32≤140737488355328∧((ps.take k).filterMap (UW Zi)).length≤140737488355327:=by omega
  obtain⟨X,Y,W,H⟩:=x;simp only[UW] at hm;by_cases ho:Zi≤W∧Zi≤H
  ·rw[Kh ho] at hm;simp +contextual -implicitDefEqProofs (maxSteps:=10^7) only[go_sem,seval,↓gZ,hx,aa,hw,ho,hr];refine ih (k+1) _ (by omega) (by omega) ?_;simp +contextual -implicitDefEqProofs (maxSteps:=10^7) only[go_sem,seval,↓gZ,hm]
   first | rfl | (simp;done) | (simp;rfl)
  ·rw[Ke ho] at hm;simp +contextual -implicitDefEqProofs (maxSteps:=10^7) only[go_sem,seval,↓gZ,hx,aa,hw,ho,hr];refine ih (k+1) _ (by omega) (by omega) ?_;simp +contextual -implicitDefEqProofs (maxSteps:=10^7) only[go_sem,seval,↓gZ,hm]
   first | rfl | (simp;done) | (simp;rfl)
 ·have:k=ps.length:=by omega
  subst this;simp +contextual -implicitDefEqProofs (maxSteps:=10^7) only[go_sem,seval,↓gZ];simp
theorem ZkG (qL qW qH:Int) (qF:List Box) (kW kH:Int) (kP:List Pane) (p:Zf) (Zi label:Int) (hq:VPc (Zb.mk qL qW qH qF)) (hv:VK (ZI.mk kW kH kP) p=true) (hW:kW=qW) (hH:kH=qH) (h1:1≤label) (h2:label≤10000)
  (hk:(Xc (ZI.mk kW kH kP) p Zi).length≤10000-label):Ze Xs Ms YK [(.d (.agg [J qL,J qW,J qH,.sl (qF.map Box.enc)])),(.d (.agg [J kW,J kH,.sl (kP.map Pane.enc)])),.d p.enc,(.d (J Zi)),(.d (J label))] [] =
  some (.tup [.own 0,(.d (.bool true))],[.row 4 ((JA (Zb.mk qL qW qH qF) label (Xc (ZI.mk kW kH kP) p Zi)).map Zb.enc) true false]):=by
 have ek:=ZgK kW kH kP p Zi;have aa:∀ b∈Xc (ZI.mk kW kH kP) p Zi,VB b∧Wz b ⟨0,0,qW,qH⟩:=by
  intro b hb;have:=Zpa (Zi:=Zi) hv b hb;rw[← hW,← hH];exact this
 have hn:=Zie (ZI.mk kW kH kP) p Zi;generalize Xc (ZI.mk kW kH kP) p Zi=L at ek aa hn hk ⊢;clear hv;have w0:=wi (10000-label) (by omega) (by omega);have n0:¬(10000-label<(L.length:Int)):=by omega
 obtain⟨o,a,n,t,ks⟩:=p;rw[Zf.enc_mk] at ek ⊢;refine cE ?_;simp +contextual -implicitDefEqProofs (maxSteps:=10^7) only[go_sem,seval,↓gZ,Jw,ek,w0,n0];refine LO (α:=Nat) (fun i=>[(27,.d (J (i:Int)))]) (fun i=>[(1,.row 4 ((JA (Zb.mk qL qW qH qF) label (L.take i)).map Zb.enc) true false)]) (fun i=>i≤L.length) (fun i=>L.length-i) 0 (by omega) ?_;intro i hi ih;by_cases ab:i<L.length
 ·obtain⟨x,hx⟩:=Zs ab;have hw:=Zj (k:=i) (by omega);have hm:=ZzU (Zb.mk qL qW qH qF) label hx;have hl:(JA (Zb.mk qL qW qH qF) label (L.take i)).length=i:=by rw[Zde];simp;omega
  have hr:(i+1)*48≤140737488355328∧i≤140737488355327:=by omega
  have ad:=aa x (Kc hx);have w1:=wi (label+(i:Int)) (by omega) (by omega);obtain⟨X,Y,W,H⟩:=x;have hc:=Zwq qL qW qH qF X Y W H (label+(i:Int)) hq ad.1 ad.2 (by omega) (by omega);simp +contextual -implicitDefEqProofs (maxSteps:=10^7) only[go_sem,seval,↓gZ,hx,ab,hw,w1,hc,hl,hr];refine ih (i+1) _ (by omega) (by omega) ?_;simp +contextual -implicitDefEqProofs (maxSteps:=10^7) only[go_sem,seval,↓gZ,hm,Zo9]
  first | rfl | (simp;done) | (simp;rfl)
 ·have:i=L.length:=by omega
  subst this;simp +contextual -implicitDefEqProofs (maxSteps:=10^7) only[go_sem,seval,↓gZ];try simp
theorem ZlR (qL qW qH:Int) (qF:List Box) (kW kH:Int) (kP:List Pane) (p:Zf) (Zi label:Int) (h1:1≤label) (h2:label≤10000)
  (hk:¬(Xc (ZI.mk kW kH kP) p Zi).length≤10000-label):Ze Xs Ms YK [(.d (.agg [J qL,J qW,J qH,.sl (qF.map Box.enc)])),(.d (.agg [J kW,J kH,.sl (kP.map Pane.enc)])),.d p.enc,(.d (J Zi)),(.d (J label))] [] =
  some (.tup [.own 0,(.d (.bool false))],[.row 4 [] true false]):=by
 have ek:=ZgK kW kH kP p Zi;generalize Xc (ZI.mk kW kH kP) p Zi=L at ek hk ⊢;have w0:=wi (10000-label) (by omega) (by omega);have n0:10000-label<(L.length:Int):=by omega
 obtain⟨o,a,n,t,ks⟩:=p;rw[Zf.enc_mk] at ek ⊢;refine cE ?_;simp +contextual -implicitDefEqProofs (maxSteps:=10^7) only[go_sem,seval,↓gZ,Jw,ek,w0,n0]
theorem Zds (bX bY bW bH:Int) (Zi:Int):Ze Xs Ms Wu [(.d (.agg [J bX,J bY,J bW,J bH])),(.d (J Zi))] []=some ((.d (.bool (decide (Zi≤bW∧Zi≤bH)))),[]):=by
 refine cE ?_;simp +contextual -implicitDefEqProofs (maxSteps:=10^7) only[go_sem,seval,↓gZ,ZeN]
theorem ZkH (bX bY bW bH:Int) (hb:VB (Box.mk bX bY bW bH)):Ze Xs Ms JS [(.d (.agg [J bX,J bY,J bW,J bH]))] []=some ((.d (J (bW*bH))),[]):=by
 have h:=ZcC hb;simp only at h;have w:=wi (bW*bH) (by omega) (by omega);refine cE ?_;simp +contextual -implicitDefEqProofs (maxSteps:=10^7) only[go_sem,seval,↓gZ,ZhR,w]
theorem Zrq (kW kH:Int) (kP:List Pane) (p:Zf) (Zi:Int) (hv:VK (ZI.mk kW kH kP) p=true) (h1:1≤Zi) (h2:Zi≤200):Ze Xs Ms ZaE [(.d (.agg [J kW,J kH,.sl (kP.map Pane.enc)])),.d p.enc,(.d (J Zi))] [] =
  some ((.d (J (X9 (Zfb (ZI.mk kW kH kP) p Zi)))),[]):=by
 have ev:=Zal kW kH kP p;rw[hv] at ev;have ep:=ZiV kW kH kP p;have aa:=Zfc hv;have ad:((QI (ZI.mk kW kH kP) p).filterMap X3).length≤255:=Kz (Kl _ _) (Zbn _ _);unfold Zfb;generalize (QI (ZI.mk kW kH kP) p).filterMap X3=L at ep aa ad ⊢;clear hv;have n1:¬Zi<1:=by omega
 have n2:¬200<Zi:=by omega
 obtain⟨o,a,n,t,ks⟩:=p;rw[Zf.enc_mk] at ev ep ⊢;refine cE ?_;simp +contextual -implicitDefEqProofs (maxSteps:=10^7) only[go_sem,seval,↓gZ,Zgr,ev,ep,n1,n2];refine LO (α:=Nat) (fun i=>[(26,.d (J (i:Int))),(7,.d (J (X9 ((L.take i).filterMap (JK Zi)))))]) (fun _=>[]) (fun i=>i≤L.length) (fun i=>L.length-i) 0 (by omega) ?_;intro i hi ih;by_cases ae:i<L.length
 ·obtain⟨x,hx⟩:=Zs ae;have hw:=Zj (k:=i) (by omega);have hm:=Zbx (f:=JK Zi) hx;have af:=aa x (Kc hx);have ha:=Zhd (l:=(L.take i).filterMap (JK Zi)) (fun c hc=>by
   obtain⟨d,hd,ab⟩:=Lm.1 hc;unfold JK at ab;split at ab
   ·cases ab;exact aa c (K0 hd)
   ·cases ab)
  have ah:((L.take i).filterMap (JK Zi)).length≤i:=Kz (Kl _ _) (by simp;omega);have ag:=ZcC af;obtain⟨X,Y,W,H⟩:=x;simp only at ag;have w1:=wi (X9 ((L.take i).filterMap (JK Zi))+W*H) (by omega) (by omega);simp only[JK] at hm;by_cases ho:W<Zi∨H<Zi
  ·rw[Kh ho] at hm;simp +contextual -implicitDefEqProofs (maxSteps:=10^7) only[go_sem,seval,↓gZ,hx,ae,hw,ho,ZkH X Y W H af,w1];refine ih (i+1) _ (by omega) (by omega) ?_;simp +contextual -implicitDefEqProofs (maxSteps:=10^7) only[go_sem,seval,↓gZ,hm,ZcB,Option.toList,X9]
   first | rfl | (simp;done) | (simp;rfl)
  ·rw[Ke ho] at hm;simp +contextual -implicitDefEqProofs (maxSteps:=10^7) only[go_sem,seval,↓gZ,hx,ae,hw,ho];refine ih (i+1) _ (by omega) (by omega) ?_;simp +contextual -implicitDefEqProofs (maxSteps:=10^7) only[go_sem,seval,↓gZ,hm]
   first | rfl | (simp;done) | (simp;rfl)
 ·have:i=L.length:=by omega
  subst this;simp +contextual -implicitDefEqProofs (maxSteps:=10^7) only[go_sem,seval,↓gZ];try simp
theorem Zrr (qL qW qH:Int) (qF:List Box) (kW kH:Int) (kP:List Pane) (p:Zf) (Zi label:Int) (hq:VPc (Zb.mk qL qW qH qF)) (hv:VK (ZI.mk kW kH kP) p=true) (h1:1≤label) (h2:label≤10000) :
  Ze Xs Ms ZaM [(.d (.agg [J qL,J qW,J qH,.sl (qF.map Box.enc)])),(.d (.agg [J kW,J kH,.sl (kP.map Pane.enc)])),.d p.enc,(.d (J Zi)),(.d (J label))] [] =
  some (.own 0,[.row 4 ((JA (Zb.mk qL qW qH qF) label (Xc (ZI.mk kW kH kP) p Zi)).map Zb.enc) true false]):=by
 obtain⟨b,hb,ah,ai,ak,ae,aj⟩:=Xx hv;have af:=ai;simp only[VW] at af;have ep:=ZiX kW kH kP p b ah (by simp only[inB];omega) ae (by omega);have ab:=Zfc hv;have ad:((QI (ZI.mk kW kH kP) p).filterMap X3).length≤255:=Kz (Kl _ _) (Zbn _ _);unfold Xc;rw[aj,Ze9] at ab ad ⊢;have al:∀ f∈qF,VB f:=fun f hf=>(hq.2 f hf).1;have am:qF.length≤6:=hq.1.2.2.2.2.2.2;have aa:∀ i,((wst b 0 0 kW kH).take i).length≤255:=fun i=>Kz (List.length_take_le' _ _) ad;generalize wst b 0 0 kW kH=L at ep ab ad aa ⊢;clear aj ah hb hv ae ai af;obtain⟨o,a,n,t,ks⟩:=p;rw[Zf.enc_mk] at ep ⊢;refine cE ?_
 simp +contextual -implicitDefEqProofs (maxSteps:=10^7) only[go_sem,seval,↓gZ,ZgA,ep];refine LO (α:=Nat) (fun i=>[(13,.d (J (i:Int)))]) (fun i=>[(1,.row 4 ((JA (Zb.mk qL qW qH qF) label ((L.take i).filterMap (UW Zi))).map Zb.enc) true false)]) (fun i=>i≤L.length) (fun i=>L.length-i) 0 (by omega) ?_;intro i hi ih;by_cases ag:i<L.length
 ·obtain⟨x,hx⟩:=Zs ag;have hw:=Zj (k:=i) (by omega);have hm:=Zbx (f:=UW Zi) hx;have ap:((L.take i).filterMap (UW Zi)).length≤255:=Kz (Kl _ _) (aa i);have hl:=Zde (Zb.mk qL qW qH qF) label ((L.take i).filterMap (UW Zi));have hr:(((L.take i).filterMap (UW Zi)).length+1)*48≤140737488355328∧((L.take i).filterMap (UW Zi)).length≤140737488355327:=by omega
  have w1:=wi (label+(((L.take i).filterMap (UW Zi)).length:Int)) (by omega) (by omega);have an:=ab x (Kc hx);have ao:=fun y=>Zhc (Zb.mk qL qW qH qF) label ((L.take i).filterMap (UW Zi)) [y];obtain⟨X,Y,W,H⟩:=x;simp only[UW] at hm;have hc:=Zwr qL qW qH qF X Y W H (label+(((L.take i).filterMap (UW Zi)).length:Int)) al am an;by_cases ho:Zi≤W∧Zi≤H
  ·rw[Kh ho] at hm;simp +contextual -implicitDefEqProofs (maxSteps:=10^7) only[go_sem,seval,↓gZ,hx,ag,hw,Zds,ho,hl,w1,hc,hr];refine ih (i+1) _ (by omega) (by omega) ?_;simp +contextual -implicitDefEqProofs (maxSteps:=10^7) only[go_sem,seval,↓gZ,hm,Option.toList,ao,JA,Zo9]
   first | rfl | (simp;done) | (simp;rfl)
  ·rw[Ke ho] at hm;simp +contextual -implicitDefEqProofs (maxSteps:=10^7) only[go_sem,seval,↓gZ,hx,ag,hw,Zds,ho];refine ih (i+1) _ (by omega) (by omega) ?_;simp +contextual -implicitDefEqProofs (maxSteps:=10^7) only[go_sem,seval,↓gZ,hm]
   first | rfl | (simp;done) | (simp;rfl)
 ·have:i=L.length:=by omega
  subst this;simp +contextual -implicitDefEqProofs (maxSteps:=10^7) only[go_sem,seval,↓gZ];try simp
theorem ZkI (bs:List UInt8) (hb:bs.length≤2000) (p:Nat) (hp:p<900000000) (w h:Int):∃ X Y W H:Int,
  Ze Xs Ms ZbU [.ptr 0 0,(.d (J w)),(.d (J h))] [.box [.d (.sl (bs.map JX)),(.d (J p))]]=some (.d (.agg [J X,J Y,J W,J H]),[.box [.d (.sl (bs.map JX)),(.d (J ((p+4:Nat))))]]):=by
 have p1:=Qq bs p w hb (by omega);generalize QR bs p w=a1 at p1;have p2:=Qq bs (p+1) h hb (by omega);generalize QR bs (p+1) h=a2 at p2;have p3:=Qq bs (p+2) (IntKind.i64.wrap (IntKind.i64.wrap (w-IntKind.i64.wrap (1+a1))+1)) hb (by omega);generalize QR bs (p+2) (IntKind.i64.wrap (IntKind.i64.wrap (w-IntKind.i64.wrap (1+a1))+1))=a3 at p3;have p4:=Qq bs (p+3) (IntKind.i64.wrap (IntKind.i64.wrap (h-IntKind.i64.wrap (1+a2))+1)) hb (by omega);generalize QR bs (p+3) (IntKind.i64.wrap (IntKind.i64.wrap (h-IntKind.i64.wrap (1+a2))+1))=a4 at p4;refine⟨a3,a4,IntKind.i64.wrap (1+a1),IntKind.i64.wrap (1+a2),?_⟩
 refine cE ?_;simp +contextual -implicitDefEqProofs (maxSteps:=10^7) only[go_sem,seval,↓gZ,ZhQ,p1,p2,p3,p4]
def Vc:List Zb→Int
 | []=>0
 | x :: l=>x.W*x.H+Vc l
theorem ZuA (a b:List Zb):Vc (a++b)=Vc a+Vc b:=by
 induction a with
 | nil=>simp[Vc]
 | cons c l ih=>simp only[Kv,Vc,ih];omega
theorem Zp1 {L:List Zb} {i:Nat} {x:Zb} (hx:L[i]?=some x):Vc (L.take (i+1))=Vc (L.take i)+x.W*x.H:=by
 rw[KL,hx,ZuA];simp[Vc]
theorem Zws (q:Zb):∀ (n:Int) (l:List Box) (i:Nat) (x:Zb),(JA q n l)[i]?=some x→∃ b,l[i]?=some b∧x=Zo9 q b (n+i)
 | n,[],i,x,h=>by simp[JA] at h
 | n,b :: l,0,x,h=>by
  simp only[JA,Lp,Option.some.injEq] at h;exact⟨b,rfl,by rw[← h];simp⟩
 | n,b :: l,i+1,x,h=>by
  simp only[JA,Lq] at h;obtain⟨c,h1,h2⟩:=Zws q (n+1) l i x h;refine⟨c,by simpa using h1,?_⟩;rw[h2];congr 1;omega
theorem ZcG:∀ {l:List Zb},(∀ x∈l,1≤x.W∧x.W≤200∧1≤x.H∧x.H≤200)→0≤Vc l∧Vc l≤40000*l.length
 | [],_=>by simp[Vc]
 | x :: l,h=>by
  have h1:=h x (by simp);have h2:=ZcG (l:=l) fun y hy=>h y (by simp[hy]);have h3:0≤x.W*x.H:=L1 (by omega) (by omega);have h4:x.W*x.H≤200*200:=L2 (by omega) (by omega) (by omega) (by omega);simp only[Vc,Kp];omega
end Go.Proofs.YtcefneehgbiebaaGreatDoor
