/- Own text. -/
import Derived.Test.YtefabmohhbhlfaaCCode
import Derived.Test.YtefabmohhbhlfaaAbsParts
import Derived.Test.YtefabmohhbhlfaaCC1
import Derived.Test.YtefabmohhbhlfaaAbsOkD
namespace Go.Proofs.Ytefabmohhbhlfaa
open Go Go.Abs Go.Abs.E Go.Abs.L
open Nat (reduceMul reduceSub reduceLeDiff reduceEqDiff)
open Int (reduceLE reduceEq reduceToNat reduceNeg)
set_option linter.unusedSimpArgs false
set_option linter.unusedVariables false
set_option maxRecDepth 20000
set_option maxHeartbeats 4000000
theorem QR (ps:List Pane):∀ (b:BT) (gX gY gW gH:Int) (xs:List D) (ex:Bool),inB (Box.mk gX gY gW gH)→QC ps b gW gH=true→xs.length+b.cnt≤1000 →
  Zj Xs Ms ZX [.own 0,.d b.plan.enc,(.d (.agg [J gX,J gY,J gW,J gH]))] [.row 9 xs ex false]=some (.own 1,[.gone,.row 9 (xs++(pt b gX gY gW gH).map Part.enc) false false])
 | .waste,gX,gY,gW,gH,xs,ex,hg,hf,hl=>by
  simp only[BT.cnt] at hl;have h1:(xs.length+1)*88≤140737488355328∧xs.length≤140737488355327:=by omega
  simp only[BT.plan,Zl.enc_mk,pt];refine cE ?_;simp +contextual -implicitDefEqProofs (maxSteps:=10^7) only[go_sem,seval,↓gZ,QO,YQ,h1]
 | .pane i t,gX,gY,gW,gH,xs,ex,hg,hf,hl=>by
  simp only[BT.cnt] at hl;have h1:(xs.length+1)*88≤140737488355328∧xs.length≤140737488355327:=by omega
  simp only[BT.plan,Zl.enc_mk,pt];refine cE ?_;simp +contextual -implicitDefEqProofs (maxSteps:=10^7) only[go_sem,seval,↓gZ,QO,YQ,h1]
 | .cut d a l r,gX,gY,gW,gH,xs,ex,hg,hf,hl=>by
  simp only[BT.cnt] at hl;have h1:(xs.length+1)*88≤140737488355328∧xs.length≤140737488355327:=by omega
  simp only[inB] at hg;simp only[BT.plan,Zl.enc_mk];cases d with
  | true=>
   simp only[QC,Kb,Kl,Kk] at hf;have e0:=Ui 2 a 0 false [l.plan.enc,r.plan.enc] gX gY gW gH rfl ⟨by omega,by omega⟩ ⟨by omega,by omega⟩;have e1:=QR ps l gX gY a gH (xs++[.agg [J 2,J a,J 0,.bool false,.sl [l.plan.enc,r.plan.enc],J gX,J gY,J gW,J gH]]) false (by simp only[inB];omega) hf.1.2 (by simp only[Kj,Kg,KH];omega);have e2:=QR ps r (gX+a) gY (gW-a) gH (xs++[.agg [J 2,J a,J 0,.bool false,.sl [l.plan.enc,r.plan.enc],J gX,J gY,J gW,J gH]]++(pt l gX gY a gH).map Part.enc) false (by simp only[inB];omega) hf.2 (by simp only[Kj,Kg,KH,Kw,ZcO];omega)
   refine cE ?_;simp +contextual -implicitDefEqProofs (maxSteps:=10^7) only[go_sem,seval,↓gZ,QO,YQ,h1,UT,e0,e1,e2];simp[pt,UT,BT.plan,Part.enc_mk]
  | false=>
   simp only[QC,Kb,Kl,Ka,Ki] at hf;have e0:=Wi 3 a 0 false [l.plan.enc,r.plan.enc] gX gY gW gH (by decide) ⟨by omega,by omega⟩ ⟨by omega,by omega⟩;have e1:=QR ps l gX gY gW a (xs++[.agg [J 3,J a,J 0,.bool false,.sl [l.plan.enc,r.plan.enc],J gX,J gY,J gW,J gH]]) false (by simp only[inB];omega) hf.1.2 (by simp only[Kj,Kg,KH];omega);have e2:=QR ps r gX (gY+a) gW (gH-a) (xs++[.agg [J 3,J a,J 0,.bool false,.sl [l.plan.enc,r.plan.enc],J gX,J gY,J gW,J gH]]++(pt l gX gY gW a).map Part.enc) false (by simp only[inB];omega) hf.2 (by simp only[Kj,Kg,KH,Kw,ZcO];omega)
   refine cE ?_;simp +contextual -implicitDefEqProofs (maxSteps:=10^7) only[go_sem,seval,↓gZ,QO,YQ,h1,UT,e0,e1,e2];simp[pt,UT,BT.plan,Part.enc_mk]
theorem Zh7 (ps:List Pane):∀ (b:BT) (gX gY gW gH:Int),inB (Box.mk gX gY gW gH)→QC ps b gW gH=true→b.cnt≤1000 →
  Zj Xs Ms ZX [.nil,.d b.plan.enc,(.d (.agg [J gX,J gY,J gW,J gH]))] []=some (.own 0,[.row 9 ((pt b gX gY gW gH).map Part.enc) false false])
 | .waste,gX,gY,gW,gH,hg,hf,hl=>by
  have h1:1*88≤Zz∧1≤Zz:=by unfold Zz;omega
  simp only[BT.plan,Zl.enc_mk,pt];refine cE ?_;simp +contextual -implicitDefEqProofs (maxSteps:=10^7) only[go_sem,seval,↓gZ,QO,YQ,h1]
 | .pane i t,gX,gY,gW,gH,hg,hf,hl=>by
  have h1:1*88≤Zz∧1≤Zz:=by unfold Zz;omega
  simp only[BT.plan,Zl.enc_mk,pt];refine cE ?_;simp +contextual -implicitDefEqProofs (maxSteps:=10^7) only[go_sem,seval,↓gZ,QO,YQ,h1]
 | .cut d a l r,gX,gY,gW,gH,hg,hf,hl=>by
  simp only[BT.cnt] at hl;have h1:1*88≤Zz∧1≤Zz:=by unfold Zz;omega
  simp only[inB] at hg;simp only[BT.plan,Zl.enc_mk];cases d with
  | true=>
   simp only[QC,Kb,Kl,Kk] at hf;have e0:=Ui 2 a 0 false [l.plan.enc,r.plan.enc] gX gY gW gH rfl ⟨by omega,by omega⟩ ⟨by omega,by omega⟩;have e1:=QR ps l gX gY a gH [.agg [J 2,J a,J 0,.bool false,.sl [l.plan.enc,r.plan.enc],J gX,J gY,J gW,J gH]] false (by simp only[inB];omega) hf.1.2 (by simp only[Kj,Kg,KH];omega);have e2:=QR ps r (gX+a) gY (gW-a) gH (.agg [J 2,J a,J 0,.bool false,.sl [l.plan.enc,r.plan.enc],J gX,J gY,J gW,J gH] :: (pt l gX gY a gH).map Part.enc) false (by simp only[inB];omega) hf.2 (by simp only[Kj,Kg,KH,Kw,ZcO];omega)
   refine cE ?_;simp +contextual -implicitDefEqProofs (maxSteps:=10^7) only[go_sem,seval,↓gZ,QO,YQ,h1,UT,e0,e1,e2];simp[pt,UT,BT.plan,Part.enc_mk]
  | false=>
   simp only[QC,Kb,Kl,Ka,Ki] at hf;have e0:=Wi 3 a 0 false [l.plan.enc,r.plan.enc] gX gY gW gH (by decide) ⟨by omega,by omega⟩ ⟨by omega,by omega⟩;have e1:=QR ps l gX gY gW a [.agg [J 3,J a,J 0,.bool false,.sl [l.plan.enc,r.plan.enc],J gX,J gY,J gW,J gH]] false (by simp only[inB];omega) hf.1.2 (by simp only[Kj,Kg,KH];omega);have e2:=QR ps r gX (gY+a) gW (gH-a) (.agg [J 3,J a,J 0,.bool false,.sl [l.plan.enc,r.plan.enc],J gX,J gY,J gW,J gH] :: (pt l gX gY gW a).map Part.enc) false (by simp only[inB];omega) hf.2 (by simp only[Kj,Kg,KH,Kw,ZcO];omega)
   refine cE ?_;simp +contextual -implicitDefEqProofs (maxSteps:=10^7) only[go_sem,seval,↓gZ,QO,YQ,h1,UT,e0,e1,e2];simp[pt,UT,BT.plan,Part.enc_mk]
theorem Zlg (kW kH:Int) (kP:List Pane) (p:Zl):Zj Xs Ms W9 [(.d (.agg [J kW,J kH,.sl (kP.map Pane.enc)])),.d p.enc] []=some (.own 0,[.row 9 ((Q2 (ZO.mk kW kH kP) p).map Part.enc) (!VG (ZO.mk kW kH kP) p) false]):=by
 have hv:=U3 kW kH kP p;unfold VG at hv;unfold Q2 VG;cases hb:XH p with
 | none=>
  rw[hb] at hv;obtain⟨o,a,q,t,ks⟩:=p;rw[Zl.enc_mk] at hv ⊢;refine cE ?_;simp +contextual -implicitDefEqProofs (maxSteps:=10^7) only[go_sem,seval,↓gZ,Ub,hv];try rfl
 | some b=>
  have hp:=Zev hb;rw[hb] at hv;dsimp only at hv ⊢;by_cases hh:(decide (VW (ZO.mk kW kH kP))&&decide (b.cnt≤255)&&QC kP b kW kH)=true
  ·have aa:=hh;simp only[Kb,Kl] at aa;have hw:=aa.1.1;simp only[VW] at hw;have ab:=Zh7 kP b 0 0 kW kH (by simp only[inB];omega) aa.2 (by omega);rw[← hp] at ab;rw[hh] at hv ⊢;obtain⟨o,a,q,t,ks⟩:=p;rw[Zl.enc_mk] at hv ab ⊢;refine cE ?_;simp +contextual -implicitDefEqProofs (maxSteps:=10^7) only[go_sem,seval,↓gZ,Ub,Uw,hv,ab];try rfl
  ·have hf:=(L4 _).mp hh;rw[hf] at hv ⊢;obtain⟨o,a,q,t,ks⟩:=p;rw[Zl.enc_mk] at hv ⊢;refine cE ?_;simp +contextual -implicitDefEqProofs (maxSteps:=10^7) only[go_sem,seval,↓gZ,Ub,hv];try rfl
theorem Zh8 (k:ZO) (p:Zl):(Q2 k p).length≤255:=by
 unfold Q2;split
 ·split
  ·rename_i h;simp only[Kb,Kl] at h;rw[ZcO];exact h.1.2
  ·simp
 ·simp
theorem JL (kW kH:Int) (kP:List Pane) (p:Zl):Zj Xs Ms X2 [(.d (.agg [J kW,J kH,.sl (kP.map Pane.enc)])),.d p.enc] []=some (.own 0,[.row 6 (((Q2 (ZO.mk kW kH kP) p).filterMap Xr).map Place.enc) true false]):=by
 have hv:=Zlg kW kH kP p;have hn:=Zh8 (ZO.mk kW kH kP) p;generalize (!VG (ZO.mk kW kH kP) p)=e at hv;generalize Q2 (ZO.mk kW kH kP) p=ps at hv hn ⊢;obtain⟨o,a,q,t,ks⟩:=p;rw[Zl.enc_mk] at hv ⊢;refine cE ?_;simp +contextual -implicitDefEqProofs (maxSteps:=10^7) only[go_sem,seval,↓gZ,ZaR,hv];refine LO (α:=Nat) (fun k=>[(12,.d (J (k:Int)))]) (fun k=>[(1,.row 6 (((ps.take k).filterMap Xr).map Place.enc) true false)]) (fun k=>k≤ps.length) (fun k=>ps.length-k) 0 (by omega) ?_;intro k hk ih;by_cases aa:k<ps.length
 ·obtain⟨x,hx⟩:=ZE aa;have hw:=ZD (k:=k) (by omega);have hm:=Zr2 (f:=Xr) hx;have ab:((ps.take k).filterMap Xr).length≤k:=Lp (Lx _ _) (by simp;omega);have hr:(((ps.take k).filterMap Xr).length+1)*48≤140737488355328∧((ps.take k).filterMap Xr).length≤140737488355327:=by omega
  obtain⟨⟨o',a',q',t',ad⟩,⟨X,Y,W,H⟩⟩:=x;simp only[Xr] at hm;by_cases ho:o'=1
  ·rw[Ko ho] at hm;simp +contextual -implicitDefEqProofs (maxSteps:=10^7) only[go_sem,seval,↓gZ,hx,aa,hw,ho,hr];refine ih (k+1) _ (by omega) (by omega) ?_;simp +contextual -implicitDefEqProofs (maxSteps:=10^7) only[go_sem,seval,↓gZ,hm]
   first | rfl | (simp;done) | (simp;rfl)
  ·rw[Kn ho] at hm;simp +contextual -implicitDefEqProofs (maxSteps:=10^7) only[go_sem,seval,↓gZ,hx,aa,hw,ho,hr];refine ih (k+1) _ (by omega) (by omega) ?_;simp +contextual -implicitDefEqProofs (maxSteps:=10^7) only[go_sem,seval,↓gZ,hm]
   first | rfl | (simp;done) | (simp;rfl)
 ·have:k=ps.length:=by omega
  subst this;simp +contextual -implicitDefEqProofs (maxSteps:=10^7) only[go_sem,seval,↓gZ];simp
theorem Zn0 {L:List Box} {i:Nat} {x:Box} (hx:L[i]?=some x):Xt (L.take (i+1))=Xt (L.take i)+x.W*x.H:=by
 rw[KE,hx,Ut];simp[Xt]
theorem Zp8 (L:List Box) (hb:∀ b∈L,VB b) (hl:L.length≤1048576):Zj Xs Ms ZbI [(.d (.sl (L.map Box.enc)))] []=some ((.d (J (Xt L))),[]):=by
 refine cE ?_;simp +contextual -implicitDefEqProofs (maxSteps:=10^7) only[go_sem,seval,↓gZ,Zio];refine LO (α:=Nat) (fun i=>[(4,.d (J (i:Int))),(3,.d (J (Xt (L.take i))))]) (fun _=>[]) (fun i=>i≤L.length) (fun i=>L.length-i) 0 (by omega) ?_;intro i hi ih;by_cases aa:i<L.length
 ·obtain⟨x,hx⟩:=ZE aa;have hw:=ZD (k:=i) (by omega);have hm:=Zn0 hx;have ha:=Zmd (l:=L.take i) (fun c hc=>hb c (LK hc));have ad:(L.take i).length≤i:=by simp;omega
  have ab:=ZoD (hb x (Ke hx));obtain⟨X,Y,W,H⟩:=x;simp only at ab hm;have w0:=wi (W*H) (by omega) (by omega);have w1:=wi (Xt (L.take i)+W*H) (by omega) (by omega);simp +contextual -implicitDefEqProofs (maxSteps:=10^7) only[go_sem,seval,↓gZ,hx,aa,hw,w0,w1];refine ih (i+1) _ (by omega) (by omega) ?_;simp +contextual -implicitDefEqProofs (maxSteps:=10^7) only[go_sem,seval,↓gZ,hm]
 ·have:i=L.length:=by omega
  subst this;simp +contextual -implicitDefEqProofs (maxSteps:=10^7) only[go_sem,seval,↓gZ];try simp
theorem Zlh (L:List Go.Abs.L.Place) (hl:L.length≤1048576):Zj Xs Ms W8 [(.d (.sl (L.map Go.Abs.L.Place.enc)))] []=some (.own 0,[.row 4 ((L.map Go.Abs.L.Place.Box).map Box.enc) true false]):=by
 refine cE ?_;simp +contextual -implicitDefEqProofs (maxSteps:=10^7) only[go_sem,seval,↓gZ,ZbJ];refine LO (α:=Nat) (fun i=>[(4,.d (J (i:Int)))]) (fun i=>[(0,.row 4 (((L.take i).map Go.Abs.L.Place.Box).map Box.enc) true false)]) (fun i=>i≤L.length) (fun i=>L.length-i) 0 (by omega) ?_;intro i hi ih;by_cases aa:i<L.length
 ·obtain⟨x,hx⟩:=ZE aa;have hw:=ZD (k:=i) (by omega);have hm:(L.take (i+1)).map Go.Abs.L.Place.Box=(L.take i).map Go.Abs.L.Place.Box++[x.Box]:=by rw[KE,hx];simp
  have ab:(L.take i).length≤i:=by simp;omega
  have hr:((L.take i).length+1)*32≤140737488355328∧(L.take i).length≤140737488355327:=by omega
  obtain⟨q,t,⟨X,Y,W,H⟩⟩:=x;simp only at hm;simp +contextual -implicitDefEqProofs (maxSteps:=10^7) only[go_sem,seval,↓gZ,hx,aa,hw,hr];refine ih (i+1) _ (by omega) (by omega) ?_;simp +contextual -implicitDefEqProofs (maxSteps:=10^7) only[go_sem,seval,↓gZ,hm]
  first | rfl | (simp;done) | (simp;rfl)
 ·have:i=L.length:=by omega
  subst this;simp +contextual -implicitDefEqProofs (maxSteps:=10^7) only[go_sem,seval,↓gZ];try simp
end Go.Proofs.Ytefabmohhbhlfaa
