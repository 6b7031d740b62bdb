import Derived.Test.YtfnegoimdljanaaGreatDoorBC1
namespace Go.Proofs.YtfnegoimdljanaaGreatDoor
open Go Go.Abs Go.Abs.E Go.Abs.L
set_option linter.all false
set_option maxRecDepth 20000
set_option maxHeartbeats 4000000
theorem XT (ps:List Pane):∀ (b:BT) (gX gY gW gH:Int) (xs:List D) (ex:Bool),inB (Box.mk gX gY gW gH)→XM ps b gW gH=true→xs.length+b.cnt≤1000 →
  v_ 230 [.own 0,.d b.plan.enc,(.d (.agg [J gX,J gY,J gW,J gH]))] [.row 9 xs ex false]=some (.own 1,[.gone,.row 9 (xs++(pt b gX gY gW gH).map Part.enc) false false])
 | .waste,gX,gY,gW,gH,xs,ex,hg,hf,hl=>by
  simp only[BT.cnt] at hl;have h1:(xs.length+1)*88≤140737488355328∧xs.length≤140737488355327:=o_
  simp only[BT.plan,Ze.enc_mk,pt];refine cE ?_;simp (maxSteps:=10^7) +contextual -implicitDefEqProofs only[go_sem,seval,Yi,Wu,h1]
 | .pane i t,gX,gY,gW,gH,xs,ex,hg,hf,hl=>by
  simp only[BT.cnt] at hl;have h1:(xs.length+1)*88≤140737488355328∧xs.length≤140737488355327:=o_
  simp only[BT.plan,Ze.enc_mk,pt];refine cE ?_;simp (maxSteps:=10^7) +contextual -implicitDefEqProofs only[go_sem,seval,Yi,Wu,h1]
 | .cut d a l r,gX,gY,gW,gH,xs,ex,hg,hf,hl=>by
  simp only[BT.cnt] at hl;have h1:(xs.length+1)*88≤140737488355328∧xs.length≤140737488355327:=o_
  simp only[inB] at hg;simp only[BT.plan,Ze.enc_mk];cases d with
  | true=>
   simp only[XM,Kf,Ko,Km] at hf;have e0:=Za3 2 a 0 false [l.plan.enc,r.plan.enc] gX gY gW gH rfl ⟨o_,o_⟩ ⟨o_,o_⟩;have e1:=XT ps l gX gY a gH (xs++[.agg [J 2,J a,J 0,.bool false,.sl [l.plan.enc,r.plan.enc],J gX,J gY,J gW,J gH]]) false (by simp only[inB];omega) hf.1.2 (by simp only[Kq,Kl,KO];omega);have e2:=XT ps r (gX+a) gY (gW-a) gH (xs++[.agg [J 2,J a,J 0,.bool false,.sl [l.plan.enc,r.plan.enc],J gX,J gY,J gW,J gH]]++(pt l gX gY a gH).map Part.enc) false (by simp only[inB];omega) hf.2 (by simp only[Kq,Kl,KO,KG,Jp];omega)
   refine cE ?_;simp (maxSteps:=10^7) +contextual -implicitDefEqProofs only[go_sem,seval,Yi,Wu,h1,Qb,e0,e1,e2];simp[pt,Qb,BT.plan,Part.enc_mk]
  | false=>
   simp only[XM,Kf,Ko,Ka,Kn] at hf;have e0:=Jt 3 a 0 false [l.plan.enc,r.plan.enc] gX gY gW gH (by decide) ⟨o_,o_⟩ ⟨o_,o_⟩;have e1:=XT ps l gX gY gW a (xs++[.agg [J 3,J a,J 0,.bool false,.sl [l.plan.enc,r.plan.enc],J gX,J gY,J gW,J gH]]) false (by simp only[inB];omega) hf.1.2 (by simp only[Kq,Kl,KO];omega);have e2:=XT ps r gX (gY+a) gW (gH-a) (xs++[.agg [J 3,J a,J 0,.bool false,.sl [l.plan.enc,r.plan.enc],J gX,J gY,J gW,J gH]]++(pt l gX gY gW a).map Part.enc) false (by simp only[inB];omega) hf.2 (by simp only[Kq,Kl,KO,KG,Jp];omega)
   refine cE ?_;simp (maxSteps:=10^7) +contextual -implicitDefEqProofs only[go_sem,seval,Yi,Wu,h1,Qb,e0,e1,e2];simp[pt,Qb,BT.plan,Part.enc_mk]
theorem ZsB (ps:List Pane):∀ (b:BT) (gX gY gW gH:Int),inB (Box.mk gX gY gW gH)→XM ps b gW gH=true→b.cnt≤1000 →
  v_ 230 [.nil,.d b.plan.enc,(.d (.agg [J gX,J gY,J gW,J gH]))] []=some (.own 0,[.row 9 ((pt b gX gY gW gH).map Part.enc) false false])
 | .waste,gX,gY,gW,gH,hg,hf,hl=>by
  have h1:1*88≤ZM∧1≤ZM:=by unfold ZM;omega
  simp only[BT.plan,Ze.enc_mk,pt];refine cE ?_;simp (maxSteps:=10^7) +contextual -implicitDefEqProofs only[go_sem,seval,Yi,Wu,h1]
 | .pane i t,gX,gY,gW,gH,hg,hf,hl=>by
  have h1:1*88≤ZM∧1≤ZM:=by unfold ZM;omega
  simp only[BT.plan,Ze.enc_mk,pt];refine cE ?_;simp (maxSteps:=10^7) +contextual -implicitDefEqProofs only[go_sem,seval,Yi,Wu,h1]
 | .cut d a l r,gX,gY,gW,gH,hg,hf,hl=>by
  simp only[BT.cnt] at hl;have h1:1*88≤ZM∧1≤ZM:=by unfold ZM;omega
  simp only[inB] at hg;simp only[BT.plan,Ze.enc_mk];cases d with
  | true=>
   simp only[XM,Kf,Ko,Km] at hf;have e0:=Za3 2 a 0 false [l.plan.enc,r.plan.enc] gX gY gW gH rfl ⟨o_,o_⟩ ⟨o_,o_⟩;have e1:=XT ps l gX gY a gH [.agg [J 2,J a,J 0,.bool false,.sl [l.plan.enc,r.plan.enc],J gX,J gY,J gW,J gH]] false (by simp only[inB];omega) hf.1.2 (by simp only[Kq,Kl,KO];omega);have e2:=XT ps r (gX+a) gY (gW-a) gH (.agg [J 2,J a,J 0,.bool false,.sl [l.plan.enc,r.plan.enc],J gX,J gY,J gW,J gH] :: (pt l gX gY a gH).map Part.enc) false (by simp only[inB];omega) hf.2 (by simp only[Kq,Kl,KO,KG,Jp];omega)
   refine cE ?_;simp (maxSteps:=10^7) +contextual -implicitDefEqProofs only[go_sem,seval,Yi,Wu,h1,Qb,e0,e1,e2];simp[pt,Qb,BT.plan,Part.enc_mk]
  | false=>
   simp only[XM,Kf,Ko,Ka,Kn] at hf;have e0:=Jt 3 a 0 false [l.plan.enc,r.plan.enc] gX gY gW gH (by decide) ⟨o_,o_⟩ ⟨o_,o_⟩;have e1:=XT ps l gX gY gW a [.agg [J 3,J a,J 0,.bool false,.sl [l.plan.enc,r.plan.enc],J gX,J gY,J gW,J gH]] false (by simp only[inB];omega) hf.1.2 (by simp only[Kq,Kl,KO];omega);have e2:=XT ps r gX (gY+a) gW (gH-a) (.agg [J 3,J a,J 0,.bool false,.sl [l.plan.enc,r.plan.enc],J gX,J gY,J gW,J gH] :: (pt l gX gY gW a).map Part.enc) false (by simp only[inB];omega) hf.2 (by simp only[Kq,Kl,KO,KG,Jp];omega)
   refine cE ?_;simp (maxSteps:=10^7) +contextual -implicitDefEqProofs only[go_sem,seval,Yi,Wu,h1,Qb,e0,e1,e2];simp[pt,Qb,BT.plan,Part.enc_mk]
theorem Zmw (kW kH:Int) (kP:List Pane) (p:Ze):v_ 204 [(.d (.agg [J kW,J kH,.sl (kP.map Pane.enc)])),.d p.enc] []=some (.own 0,[.row 9 ((Qx (Zv.mk kW kH kP) p).map Part.enc) (!Va (Zv.mk kW kH kP) p) false]):=by
 have hv:=Ju kW kH kP p;unfold Va at hv;unfold Qx Va;cases hb:QS p with
 | none=>
  rw[hb] at hv;obtain⟨o,a,q,t,ks⟩:=p;rw[Ze.enc_mk] at hv ⊢;refine cE ?_;simp (maxSteps:=10^7) +contextual -implicitDefEqProofs only[go_sem,seval,ZdM,hv];try rfl
 | some b=>
  have hp:=WP hb;rw[hb] at hv;dsimp only at hv ⊢;by_cases hh:(decide (VW (Zv.mk kW kH kP))&&decide (b.cnt≤255)&&XM kP b kW kH)=true
  ·have aa:=hh;simp only[Kf,Ko] at aa;have hw:=aa.1.1;simp only[VW] at hw;have ab:=ZsB kP b 0 0 kW kH (by simp only[inB];omega) aa.2 o_;rw[← hp] at ab;rw[hh] at hv ⊢;obtain⟨o,a,q,t,ks⟩:=p;rw[Ze.enc_mk] at hv ab ⊢;refine cE ?_;simp (maxSteps:=10^7) +contextual -implicitDefEqProofs only[go_sem,seval,ZdM,ZbB,hv,ab];try rfl
  ·have hf:=(LD _).mp hh;rw[hf] at hv ⊢;obtain⟨o,a,q,t,ks⟩:=p;rw[Ze.enc_mk] at hv ⊢;refine cE ?_;simp (maxSteps:=10^7) +contextual -implicitDefEqProofs only[go_sem,seval,ZdM,hv];try rfl
theorem Zam (k:Zv) (p:Ze):(Qx k p).length≤255:=by
 unfold Qx;split
 ·split
  ·rename_i h;simp only[Kf,Ko] at h;rw[Jp];exact h.1.2
  ·simp
 ·simp
theorem Zd4 (kW kH:Int) (kP:List Pane) (p:Ze):v_ 155 [(.d (.agg [J kW,J kH,.sl (kP.map Pane.enc)])),.d p.enc] []=some (.own 0,[.row 6 (((Qx (Zv.mk kW kH kP) p).filterMap Xd).map Place.enc) true false]):=by
 have hv:=Zmw kW kH kP p;have hn:=Zam (Zv.mk kW kH kP) p;generalize (!Va (Zv.mk kW kH kP) p)=e at hv;generalize Qx (Zv.mk kW kH kP) p=ps at hv hn ⊢;obtain⟨o,a,q,t,ks⟩:=p;rw[Ze.enc_mk] at hv ⊢;refine cE ?_;simp (maxSteps:=10^7) +contextual -implicitDefEqProofs only[go_sem,seval,Znf,hv];refine LO (α:=Nat) (fun k=>[(12,.d (J (k:Int)))]) (fun k=>[(1,.row 6 (((ps.take k).filterMap Xd).map Place.enc) true false)]) (fun k=>k≤ps.length) (fun k=>ps.length-k) 0 o_ ?_;intro k hk ih;by_cases aa:k<ps.length
 ·obtain⟨x,hx⟩:=Zn aa;have hw:=Zg (k:=k) o_;have hm:=Zav (f:=Xd) hx;have ab:((ps.take k).filterMap Xd).length≤k:=Ky (Ks _ _) (by simp;omega);have hr:(((ps.take k).filterMap Xd).length+1)*48≤140737488355328∧((ps.take k).filterMap Xd).length≤140737488355327:=o_
  obtain⟨⟨o',a',q',t',ad⟩,⟨X,Y,W,H⟩⟩:=x;simp only[Xd] at hm;by_cases ho:o'=1
  ·rw[Kg ho] at hm;simp +contextual -implicitDefEqProofs only[go_sem,seval,hx,aa,hw,ho,hr];refine ih (k+1) _ o_ o_ ?_;simp +contextual -implicitDefEqProofs only[go_sem,seval,hm]
   first | rfl | (simp;done) | (simp;rfl)
  ·rw[Kd ho] at hm;simp +contextual -implicitDefEqProofs only[go_sem,seval,hx,aa,hw,ho,hr];refine ih (k+1) _ o_ o_ ?_;simp +contextual -implicitDefEqProofs only[go_sem,seval,hm]
   first | rfl | (simp;done) | (simp;rfl)
 ·have:k=ps.length:=o_
  subst this;simp +contextual -implicitDefEqProofs only[go_sem,seval];simp
theorem Zj6 (kW kH:Int) (kP:List Pane) (p:Ze):v_ 207 [(.d (.agg [J kW,J kH,.sl (kP.map Pane.enc)])),.d p.enc] []=some (.own 0,[.row 4 (((Qx (Zv.mk kW kH kP) p).filterMap X5).map Box.enc) true false]):=by
 have hv:=Zmw kW kH kP p;have hn:=Zam (Zv.mk kW kH kP) p;generalize (!Va (Zv.mk kW kH kP) p)=e at hv;generalize Qx (Zv.mk kW kH kP) p=ps at hv hn ⊢;obtain⟨o,a,q,t,ks⟩:=p;rw[Ze.enc_mk] at hv ⊢;refine cE ?_;simp (maxSteps:=10^7) +contextual -implicitDefEqProofs only[go_sem,seval,ZmZ,hv];refine LO (α:=Nat) (fun k=>[(12,.d (J (k:Int)))]) (fun k=>[(1,.row 4 (((ps.take k).filterMap X5).map Box.enc) true false)]) (fun k=>k≤ps.length) (fun k=>ps.length-k) 0 o_ ?_;intro k hk ih;by_cases aa:k<ps.length
 ·obtain⟨x,hx⟩:=Zn aa;have hw:=Zg (k:=k) o_;have hm:=Zav (f:=X5) hx;have ab:((ps.take k).filterMap X5).length≤k:=Ky (Ks _ _) (by simp;omega);have hr:(((ps.take k).filterMap X5).length+1)*32≤140737488355328∧((ps.take k).filterMap X5).length≤140737488355327:=o_
  obtain⟨⟨o',a',q',t',ad⟩,⟨X,Y,W,H⟩⟩:=x;simp only[X5] at hm;by_cases ho:o'=0
  ·rw[Kg ho] at hm;simp +contextual -implicitDefEqProofs only[go_sem,seval,hx,aa,hw,ho,hr];refine ih (k+1) _ o_ o_ ?_;simp +contextual -implicitDefEqProofs only[go_sem,seval,hm]
   first | rfl | (simp;done) | (simp;rfl)
  ·rw[Kd ho] at hm;simp +contextual -implicitDefEqProofs only[go_sem,seval,hx,aa,hw,ho,hr];refine ih (k+1) _ o_ o_ ?_;simp +contextual -implicitDefEqProofs only[go_sem,seval,hm]
   first | rfl | (simp;done) | (simp;rfl)
 ·have:k=ps.length:=o_
  subst this;simp +contextual -implicitDefEqProofs only[go_sem,seval];simp
theorem U0 (ps:List Pane):∀ (b:BT) (gX gY gW gH:Int),inB (Box.mk gX gY gW gH)→XM ps b gW gH=true→b.cnt≤1000 →
  v_ 227 [.d b.plan.enc,(.d (.agg [J gX,J gY,J gW,J gH]))] []=some (.own 0,[.row 6 ((sp b gX gY gW gH).map Place.enc) true false])
 | .waste,gX,gY,gW,gH,hg,hf,hl=>by
  simp only[BT.plan,Ze.enc_mk,sp];refine cE ?_;simp (maxSteps:=10^7) +contextual -implicitDefEqProofs only[go_sem,seval,Zdd];try rfl
 | .pane i t,gX,gY,gW,gH,hg,hf,hl=>by
  simp only[BT.plan,Ze.enc_mk,sp];refine cE ?_;simp (maxSteps:=10^7) +contextual -implicitDefEqProofs only[go_sem,seval,Zdd];try rfl
 | .cut d a l r,gX,gY,gW,gH,hg,hf,hl=>by
  simp only[BT.cnt] at hl;simp only[inB] at hg;simp only[BT.plan,Ze.enc_mk];cases d with
  | true=>
   simp only[XM,Kf,Ko,Km] at hf;have w1:=wi (gX+a) o_ o_;have w2:=wi (gW-a) o_ o_;have l1:=Zd0 l gX gY a gH;have l2:=Zd0 r (gX+a) gY (gW-a) gH;have e1:=U0 ps l gX gY a gH (by simp only[inB];omega) hf.1.2 o_;have e2:=U0 ps r (gX+a) gY (gW-a) gH (by simp only[inB];omega) hf.2 o_;have h1:((sp l gX gY a gH).length+(sp r (gX+a) gY (gW-a) gH).length)*48≤140737488355328∧(sp l gX gY a gH).length+(sp r (gX+a) gY (gW-a) gH).length≤140737488355328:=o_
   refine cE ?_;simp (maxSteps:=10^7) +contextual -implicitDefEqProofs only[go_sem,seval,Zdd,Qb,w1,w2,h1,e1,e2];simp[sp]
  | false=>
   simp only[XM,Kf,Ko,Ka,Kn] at hf;have w1:=wi (gY+a) o_ o_;have w2:=wi (gH-a) o_ o_;have l1:=Zd0 l gX gY gW a;have l2:=Zd0 r gX (gY+a) gW (gH-a);have e1:=U0 ps l gX gY gW a (by simp only[inB];omega) hf.1.2 o_;have e2:=U0 ps r gX (gY+a) gW (gH-a) (by simp only[inB];omega) hf.2 o_;have h1:((sp l gX gY gW a).length+(sp r gX (gY+a) gW (gH-a)).length)*48≤140737488355328∧(sp l gX gY gW a).length+(sp r gX (gY+a) gW (gH-a)).length≤140737488355328:=o_
   refine cE ?_;simp (maxSteps:=10^7) +contextual -implicitDefEqProofs only[go_sem,seval,Zdd,Qb,w1,w2,h1,e1,e2];simp[sp]
theorem Zay (qL qW qH:Int) (qF:List Box):v_ 176 [(.d (.agg [J qL,J qW,J qH,.sl (qF.map Box.enc)]))] []=some (.d (.agg [J 0,J 0,J qW,J qH]),[]):=by
 refine cE ?_;simp (maxSteps:=10^7) +contextual -implicitDefEqProofs only[go_sem,seval,ZmW]
theorem Q4 (qL qW qH:Int) (qF:List Box):v_ 122 [(.d (.agg [J qL,J qW,J qH,.sl (qF.map Box.enc)]))] []=some ((.d (.bool (decide (VPc (Zb.mk qL qW qH qF))))),[]):=by
 refine cE ?_;by_cases h0:(((qL<1∨9999<qL)∨¬VB ⟨0,0,qW,qH⟩)∨(6:Int)<qF.length)
 ·simp +contextual -implicitDefEqProofs only[go_sem,seval,Zc8,Zay,Yl,h0];exact ZhB (by simp only[VPc];simp only[VB] at h0;omega)
 ·simp +contextual -implicitDefEqProofs only[go_sem,seval,Zc8,Zay,Yl,h0];have hb:VB ⟨0,0,qW,qH⟩:=by
   refine Decidable.byContradiction fun h=>h0 (.inl (.inr h))
  refine LO (α:=Nat) (fun k=>[(28,.d (J (k:Int)))]) (fun _=>[]) (fun k=>k≤qF.length∧((∀ f∈qF,Zco qW qH f)↔∀ f∈qF.drop k,Zco qW qH f)) (fun k=>qF.length-k) 0 ⟨o_,by simp⟩ ?_;intro k ⟨hk,hp⟩ ih;by_cases aa:k<qF.length
  ·obtain⟨x,hx⟩:=Zn aa;rw[Ze3 hx] at hp;have hw:=Zg (k:=k) (by simp only[VB] at hb h0;omega);obtain⟨X,Y,W,H⟩:=x;simp +contextual -implicitDefEqProofs only[go_sem,seval,hx,aa,hw,Zay,Zaw,hb];refine⟨fun h=>ZhB (fun hh=>h ((hp.1 hh.2).1)),fun h=>ih (k+1) _ ⟨o_,?_⟩ o_ ?_⟩
   ·rw[hp];exact⟨fun hh=>hh.2,fun hh=>⟨h,hh⟩⟩
   ·simp +contextual -implicitDefEqProofs only[go_sem,seval]
  ·have:k=qF.length:=o_
   subst this;simp +contextual -implicitDefEqProofs only[go_sem,seval];have hv:∀ f∈qF,Zco qW qH f:=hp.2 (by simp);exact ZAC (by simp only[VPc];simp only[VB] at h0;exact⟨o_,hv⟩)
theorem Zg6 (qL qW qH:Int) (qF:List Box) (hl:qF.length<4611686018427387904) (hW:R64 qW) (hH:R64 qH):v_ 132 [(.d (.agg [J qL,J qW,J qH,.sl (qF.map Box.enc)]))] []=some ((.d (.bool (decide (VPc (Zb.mk qL qW qH qF))))),[]):=by
 refine cE ?_;simp (maxSteps:=10^7) +contextual -implicitDefEqProofs only[go_sem,seval,ZiP];refine LO (α:=Nat) (fun k=>[(3,.d (J (k:Int)))]) (fun _=>[]) (fun k=>k≤qF.length∧((∀ f∈qF,Zco qW qH f)↔∀ f∈qF.drop k,Zco qW qH f)) (fun k=>qF.length-k) 0 ⟨o_,by simp⟩ ?_;intro k ⟨hk,hp⟩ ih;by_cases aa:k<qF.length
 ·obtain⟨x,hx⟩:=Zn aa;rw[Ze3 hx] at hp;have hw:=Zg (k:=k) o_;obtain⟨X,Y,W,H⟩:=x;by_cases hv:VB ⟨X,Y,W,H⟩
  ·have hi:=Ztq X Y W H 0 0 qW qH hv ⟨o_,o_⟩ ⟨o_,o_⟩ (by simpa using hW) (by simpa using hH);simp +contextual -implicitDefEqProofs only[go_sem,seval,hx,aa,hw,ZjZ,hi,hv];refine⟨fun h=>ZhB (fun hh=>h ((hp.1 hh.2).1.2)),fun h=>ih (k+1) _ ⟨o_,?_⟩ o_ ?_⟩
   ·rw[hp];exact⟨fun hh=>hh.2,fun hh=>⟨⟨hv,h⟩,hh⟩⟩
   ·simp +contextual -implicitDefEqProofs only[go_sem,seval]
  ·simp +contextual -implicitDefEqProofs only[go_sem,seval,hx,aa,hw,ZjZ,hv];exact ZhB (fun hh=>hv ((hp.1 hh.2).1.1))
 ·have:k=qF.length:=o_
  subst this;simp +contextual -implicitDefEqProofs only[go_sem,seval,Zu];have hv:∀ f∈qF,Zco qW qH f:=hp.2 (by simp);exact Zb3 (by simp only[VPc];exact⟨fun h=>⟨o_,hv⟩,fun h=>by omega⟩)
theorem Zh8 (fs:List Box) (bX bY bW bH:Int) (hf:∀ f∈fs,VB f) (hb:VB (Box.mk bX bY bW bH)) (hl:fs.length<4611686018427387904):v_ 124 [(.d (.sl (fs.map Box.enc))),(.d (.agg [J bX,J bY,J bW,J bH]))] []=some ((.d (.bool (!decide (Z8 fs (Box.mk bX bY bW bH))))),[]):=by
 refine cE ?_;simp (maxSteps:=10^7) +contextual -implicitDefEqProofs only[go_sem,seval,Zko];refine LO (α:=Nat) (fun k=>[(11,.d (J (k:Int)))]) (fun _=>[]) (fun k=>k≤fs.length∧(Z8 fs (Box.mk bX bY bW bH)↔Z8 (fs.drop k) (Box.mk bX bY bW bH))) (fun k=>fs.length-k) 0 ⟨o_,by simp⟩ ?_;intro k ⟨hk,hp⟩ ih;by_cases aa:k<fs.length
 ·obtain⟨x,hx⟩:=Zn aa;have ad:=hx;unfold Z8 at hp;rw[Ze3 hx (fun f=>¬Yk f (Box.mk bX bY bW bH))] at hp;have hw:=Zg (k:=k) o_;have ab:=hf x (Kb hx);obtain⟨X,Y,W,H⟩:=x;by_cases hm:Yk ⟨X,Y,W,H⟩ (Box.mk bX bY bW bH)
  ·simp +contextual -implicitDefEqProofs only[go_sem,seval,hx,aa,hw,ZbA X Y W H bX bY bW bH ab hb hm];have:¬Z8 fs (Box.mk bX bY bW bH):=fun hh=>(hp.1 hh).1 hm;simp[this]
  ·simp +contextual -implicitDefEqProofs only[go_sem,seval,hx,aa,hw,ZdA X Y W H bX bY bW bH (fun hh=>hm hh.2.2)];refine ih (k+1) _ ⟨o_,?_⟩ o_ ?_
   ·unfold Z8;rw[hp];exact⟨fun hh=>hh.2,fun hh=>⟨hm,hh⟩⟩
   ·simp +contextual -implicitDefEqProofs only[go_sem,seval]
 ·have:k=fs.length:=o_
  subst this;simp +contextual -implicitDefEqProofs only[go_sem,seval];have:Z8 fs (Box.mk bX bY bW bH):=hp.2 (by simp[Z8]);simp[this]
theorem Zmx (qL qW qH:Int) (qF:List Box) (bX bY bW bH:Int) (hf:∀ f∈qF,VB f) (hb:VB (Box.mk bX bY bW bH)) (hl:qF.length<4611686018427387904):v_ 137 [(.d (.agg [J qL,J qW,J qH,.sl (qF.map Box.enc)])),(.d (.agg [J bX,J bY,J bW,J bH]))] []=some ((.d (.bool (decide (Z8 qF (Box.mk bX bY bW bH))))),[]):=by
 refine cE ?_;simp (maxSteps:=10^7) +contextual -implicitDefEqProofs only[go_sem,seval,Zpj];refine LO (α:=Nat) (fun k=>[(5,.d (J (k:Int)))]) (fun _=>[]) (fun k=>k≤qF.length∧(Z8 qF (Box.mk bX bY bW bH)↔Z8 (qF.drop k) (Box.mk bX bY bW bH))) (fun k=>qF.length-k) 0 ⟨o_,by simp⟩ ?_;intro k ⟨hk,hp⟩ ih;by_cases aa:k<qF.length
 ·obtain⟨x,hx⟩:=Zn aa;unfold Z8 at hp;rw[Ze3 hx (fun f=>¬Yk f (Box.mk bX bY bW bH))] at hp;have hw:=Zg (k:=k) o_;have ab:=hf x (Kb hx);obtain⟨X,Y,W,H⟩:=x;by_cases hm:Yk ⟨X,Y,W,H⟩ (Box.mk bX bY bW bH)
  ·simp +contextual -implicitDefEqProofs only[go_sem,seval,hx,aa,hw,Zmi X Y W H bX bY bW bH ab hb hm];have:¬Z8 qF (Box.mk bX bY bW bH):=fun hh=>(hp.1 hh).1 hm;simp[this]
  ·simp +contextual -implicitDefEqProofs only[go_sem,seval,hx,aa,hw,Zo2 X Y W H bX bY bW bH ab hb hm];refine ih (k+1) _ ⟨o_,?_⟩ o_ ?_
   ·unfold Z8;rw[hp];exact⟨fun hh=>hh.2,fun hh=>⟨hm,hh⟩⟩
   ·simp +contextual -implicitDefEqProofs only[go_sem,seval]
 ·have:k=qF.length:=o_
  subst this;simp +contextual -implicitDefEqProofs only[go_sem,seval];have:Z8 qF (Box.mk bX bY bW bH):=hp.2 (by simp[Z8]);simp[this]
theorem Zj7 (kW kH:Int) (kP:List Pane) (p:Ze) (b:BT) (hp:p=b.plan) (hg:inB ⟨0,0,kW,kH⟩) (hf:XM kP b kW kH=true) (hl:b.cnt≤1000):v_ 200 [(.d (.agg [J kW,J kH,.sl (kP.map Pane.enc)])),.d p.enc] []=some (.own 0,[.row 6 ((plc b 0 0 kW kH).map Place.enc) true false]):=by
 have e:=U0 kP b 0 0 kW kH hg hf hl;have hm:=ZnQ b 0 0 kW kH (Zjq hf);have hn:=Zd0 b 0 0 kW kH;rw[← hp] at e;rw[← hm];clear hm;generalize sp b 0 0 kW kH=S at e hn ⊢;clear hp hf hg;obtain⟨o,a,q,t,ks⟩:=p;rw[Ze.enc_mk] at e ⊢;refine cE ?_;simp (maxSteps:=10^7) +contextual -implicitDefEqProofs only[go_sem,seval,ZmY,e];refine LO (α:=Nat) (fun i=>[(7,.d (J (i:Int)))]) (fun i=>[(1,.row 6 (((S.take i).filterMap Zdx).map Place.enc) true false)]) (fun i=>i≤S.length) (fun i=>S.length-i) 0 o_ ?_;intro i hi ih;by_cases aa:i<S.length
 ·obtain⟨x,hx⟩:=Zn aa;have hw:=Zg (k:=i) o_;have hm:=Zav (f:=Zdx) hx;have ab:((S.take i).filterMap Zdx).length≤i:=Ky (Ks _ _) (by simp;omega);have hr:(((S.take i).filterMap Zdx).length+1)*48≤140737488355328∧((S.take i).filterMap Zdx).length≤140737488355327:=o_
  obtain⟨q',t',⟨X,Y,W,H⟩⟩:=x;simp only[Zdx] at hm;by_cases ho:0≤q'
  ·rw[Kg ho] at hm;simp +contextual -implicitDefEqProofs only[go_sem,seval,hx,aa,hw,ho,hr];refine ih (i+1) _ o_ o_ ?_;simp +contextual -implicitDefEqProofs only[go_sem,seval,hm]
   first | rfl | (simp;done) | (simp;rfl)
  ·rw[Kd ho] at hm;simp +contextual -implicitDefEqProofs only[go_sem,seval,hx,aa,hw,ho,hr];refine ih (i+1) _ o_ o_ ?_;simp +contextual -implicitDefEqProofs only[go_sem,seval,hm]
   first | rfl | (simp;done) | (simp;rfl)
 ·have:i=S.length:=o_
  subst this;simp +contextual -implicitDefEqProofs only[go_sem,seval];simp
theorem Zj8 (kW kH:Int) (kP:List Pane) (p:Ze) (b:BT) (hp:p=b.plan) (hg:inB ⟨0,0,kW,kH⟩) (hf:XM kP b kW kH=true) (hl:b.cnt≤1000):v_ 198 [(.d (.agg [J kW,J kH,.sl (kP.map Pane.enc)])),.d p.enc] []=some (.own 0,[.row 4 ((wst b 0 0 kW kH).map Box.enc) true false]):=by
 have e:=U0 kP b 0 0 kW kH hg hf hl;have hm:=ZnR b 0 0 kW kH (Zjq hf);have hn:=Zd0 b 0 0 kW kH;rw[← hp] at e;rw[← hm];clear hm;generalize sp b 0 0 kW kH=S at e hn ⊢;clear hp hf hg;obtain⟨o,a,q,t,ks⟩:=p;rw[Ze.enc_mk] at e ⊢;refine cE ?_;simp (maxSteps:=10^7) +contextual -implicitDefEqProofs only[go_sem,seval,Znb,e];refine LO (α:=Nat) (fun i=>[(7,.d (J (i:Int)))]) (fun i=>[(1,.row 4 (((S.take i).filterMap Zdy).map Box.enc) true false)]) (fun i=>i≤S.length) (fun i=>S.length-i) 0 o_ ?_;intro i hi ih;by_cases aa:i<S.length
 ·obtain⟨x,hx⟩:=Zn aa;have hw:=Zg (k:=i) o_;have hm:=Zav (f:=Zdy) hx;have ab:((S.take i).filterMap Zdy).length≤i:=Ky (Ks _ _) (by simp;omega);have hr:(((S.take i).filterMap Zdy).length+1)*32≤140737488355328∧((S.take i).filterMap Zdy).length≤140737488355327:=o_
  obtain⟨q',t',⟨X,Y,W,H⟩⟩:=x;simp only[Zdy] at hm;by_cases ho:q' < 0
  ·rw[Kg ho] at hm;simp +contextual -implicitDefEqProofs only[go_sem,seval,hx,aa,hw,ho,hr];refine ih (i+1) _ o_ o_ ?_;simp +contextual -implicitDefEqProofs only[go_sem,seval,hm]
   first | rfl | (simp;done) | (simp;rfl)
  ·rw[Kd ho] at hm;simp +contextual -implicitDefEqProofs only[go_sem,seval,hx,aa,hw,ho,hr];refine ih (i+1) _ o_ o_ ?_;simp +contextual -implicitDefEqProofs only[go_sem,seval,hm]
   first | rfl | (simp;done) | (simp;rfl)
 ·have:i=S.length:=o_
  subst this;simp +contextual -implicitDefEqProofs only[go_sem,seval];simp
theorem ZtD (qL qW qH:Int) (qF:List Box) (kW kH:Int) (kP:List Pane) (p:Ze):v_ 202 [(.d (.agg [J qL,J qW,J qH,.sl (qF.map Box.enc)])),(.d (.agg [J kW,J kH,.sl (kP.map Pane.enc)])),.d p.enc] []=some ((.d (.bool (decide (VPc (Zb.mk qL qW qH qF)∧Vk (Zb.mk qL qW qH qF) (Zv.mk kW kH kP) p)))),[]):=by
 have ev:=Ju kW kH kP p;by_cases hq:VPc (Zb.mk qL qW qH qF)
 ·by_cases hv:Va (Zv.mk kW kH kP) p=true
  ·by_cases hw:kW=qW
   ·by_cases hh:kH=qH
    ·subst hw;subst hh;have ep:=Zd4 kW kH kP p;obtain⟨b,hb,ah,ai,aj,ad,af⟩:=QU hv;have ab:∀ c∈(Qx (Zv.mk kW kH kP) p).filterMap Xd,VB c.Box:=by
      rw[af,YF];exact Zmg (p:=p) ai ad
     have ae:((Qx (Zv.mk kW kH kP) p).filterMap Xd).length≤255:=Ky (Ks _ _) (Zam _ _);have aa:Vk ⟨qL,kW,kH,qF⟩ (Zv.mk kW kH kP) p↔∀ c∈(Qx (Zv.mk kW kH kP) p).filterMap Xd,Z8 qF c.Box:=by
      unfold Vk;exact⟨fun h=>h.2.2.2,fun h=>⟨hv,rfl,rfl,h⟩⟩
     have ak:∀ f∈qF,VB f:=fun f hf=>(hq.2 f hf).1;have an:qF.length≤6:=hq.1.2.2.2.2.2.2;rw[hv] at ev;generalize hL:(Qx (Zv.mk kW kH kP) p).filterMap Xd=L at ep ab ae aa;clear hL af ah hb;obtain⟨o,a,n,t,ks⟩:=p;rw[Ze.enc_mk] at ev ep ⊢;refine cE ?_;simp (maxSteps:=10^7) +contextual -implicitDefEqProofs only[go_sem,seval,WZ,Q4,hq,ev,ep];refine LO (α:=Nat) (fun i=>[(36,.d (J (i:Int)))]) (fun _=>[]) (fun i=>i≤L.length∧((∀ c∈L,Z8 qF c.Box)↔∀ c∈L.drop i,Z8 qF c.Box)) (fun i=>L.length-i) 0 ⟨o_,by simp⟩ ?_;intro i ⟨hi,hp⟩ ih;by_cases ag:i<L.length
     ·obtain⟨x,hx⟩:=Zn ag;rw[Ze3 hx (fun c=>Z8 qF c.Box)] at hp;have hw:=Zg (k:=i) o_;have al:=ab x (Kb hx);obtain⟨q',t',⟨X,Y,W,H⟩⟩:=x;have em:=Zh8 qF X Y W H ak al o_;simp +contextual -implicitDefEqProofs only[go_sem,seval,hx,ag,hw,em];refine⟨fun h=>ZhB (fun h'=>h ((hp.1 (aa.1 h')).1)),fun h=>ih (i+1) _ ⟨o_,?_⟩ o_ ?_⟩
      ·rw[hp];exact⟨fun h'=>h'.2,fun h'=>⟨h,h'⟩⟩
      ·simp +contextual -implicitDefEqProofs only[go_sem,seval]
     ·have:i=L.length:=o_
      subst this;simp +contextual -implicitDefEqProofs only[go_sem,seval];exact ZAC (aa.2 (hp.2 (by simp)))
    ·subst hw;have hn:¬Vk ⟨qL,kW,qH,qF⟩ (Zv.mk kW kH kP) p:=fun h=>hh h.2.2.1;obtain⟨o,a,n,t,ks⟩:=p;rw[hv] at ev;rw[Ze.enc_mk] at ev ⊢;refine cE ?_;simp (maxSteps:=10^7) +contextual -implicitDefEqProofs only[go_sem,seval,WZ,Q4,hq,ev,hh,hn]
   ·have hn:¬Vk (Zb.mk qL qW qH qF) (Zv.mk kW kH kP) p:=fun h=>hw h.2.1;obtain⟨o,a,n,t,ks⟩:=p;rw[hv] at ev;rw[Ze.enc_mk] at ev ⊢;refine cE ?_;simp (maxSteps:=10^7) +contextual -implicitDefEqProofs only[go_sem,seval,WZ,Q4,hq,ev,hw,hn]
  ·have am:=(LD _).mp hv;have hn:¬Vk (Zb.mk qL qW qH qF) (Zv.mk kW kH kP) p:=fun h=>hv h.1;rw[am] at ev;obtain⟨o,a,n,t,ks⟩:=p;rw[Ze.enc_mk] at ev ⊢;refine cE ?_;simp (maxSteps:=10^7) +contextual -implicitDefEqProofs only[go_sem,seval,WZ,Q4,hq,ev,hn]
 ·obtain⟨o,a,n,t,ks⟩:=p;rw[Ze.enc_mk] at ev ⊢;refine cE ?_;simp (maxSteps:=10^7) +contextual -implicitDefEqProofs only[go_sem,seval,WZ,Q4,hq]
theorem Zj9 (qL qW qH:Int) (qF:List Box) (kW kH:Int) (kP:List Pane) (p:Ze) (al:∀ f∈qF,VB f) (ao:qF.length≤6) (hl:kP.length<4611686018427387904):v_ 194 [(.d (.agg [J qL,J qW,J qH,.sl (qF.map Box.enc)])),(.d (.agg [J kW,J kH,.sl (kP.map Pane.enc)])),.d p.enc] []=some ((.d (.bool (decide (Vk (Zb.mk qL qW qH qF) (Zv.mk kW kH kP) p)))),[]):=by
 have ev:=Zh2 kW kH kP p hl;by_cases hv:Va (Zv.mk kW kH kP) p=true
 ·by_cases hw:kW=qW
  ·by_cases hh:kH=qH
   ·subst hw;subst hh;obtain⟨b,hb,ah,ai,ae,ab,aj⟩:=QU hv;have af:=ai;simp only[VW] at af;have ep:=Zj7 kW kH kP p b ah (by simp only[inB];omega) ab o_;have ad:∀ c∈plc b 0 0 kW kH,VB c.Box:=Zmg (p:=p) ai ab;have ag:(plc b 0 0 kW kH).length≤255:=by
     rw[← YF];exact Ky (Ks _ _) (by rw[Jp];exact ae)
    have aa:Vk ⟨qL,kW,kH,qF⟩ (Zv.mk kW kH kP) p↔∀ c∈plc b 0 0 kW kH,Z8 qF c.Box:=by
     unfold Vk;rw[aj,YF];exact⟨fun h=>h.2.2.2,fun h=>⟨hv,rfl,rfl,h⟩⟩
    rw[hv] at ev;generalize plc b 0 0 kW kH=L at ep ad ag aa;clear aj ah hb;obtain⟨o,a,n,t,ks⟩:=p;rw[Ze.enc_mk] at ev ep ⊢;refine cE ?_;simp (maxSteps:=10^7) +contextual -implicitDefEqProofs only[go_sem,seval,JU,ev,ep];refine LO (α:=Nat) (fun i=>[(8,.d (J (i:Int)))]) (fun _=>[]) (fun i=>i≤L.length∧((∀ c∈L,Z8 qF c.Box)↔∀ c∈L.drop i,Z8 qF c.Box)) (fun i=>L.length-i) 0 ⟨o_,by simp⟩ ?_;intro i ⟨hi,hp⟩ ih;by_cases ak:i<L.length
    ·obtain⟨x,hx⟩:=Zn ak;rw[Ze3 hx (fun c=>Z8 qF c.Box)] at hp;have hw:=Zg (k:=i) o_;have am:=ad x (Kb hx);obtain⟨q',t',⟨X,Y,W,H⟩⟩:=x;have em:=Zmx qL kW kH qF X Y W H al am o_;simp +contextual -implicitDefEqProofs only[go_sem,seval,hx,ak,hw,em];refine⟨fun h=>ZhB (fun h'=>h ((hp.1 (aa.1 h')).1)),fun h=>ih (i+1) _ ⟨o_,?_⟩ o_ ?_⟩
     ·rw[hp];exact⟨fun h'=>h'.2,fun h'=>⟨h,h'⟩⟩
     ·simp +contextual -implicitDefEqProofs only[go_sem,seval]
    ·have:i=L.length:=o_
     subst this;simp +contextual -implicitDefEqProofs only[go_sem,seval];exact ZAC (aa.2 (hp.2 (by simp)))
   ·subst hw;have hn:¬Vk ⟨qL,kW,qH,qF⟩ (Zv.mk kW kH kP) p:=fun h=>hh h.2.2.1;obtain⟨o,a,n,t,ks⟩:=p;rw[hv] at ev;rw[Ze.enc_mk] at ev ⊢;refine cE ?_;simp (maxSteps:=10^7) +contextual -implicitDefEqProofs only[go_sem,seval,JU,ev,hh,hn]
  ·have hn:¬Vk (Zb.mk qL qW qH qF) (Zv.mk kW kH kP) p:=fun h=>hw h.2.1;obtain⟨o,a,n,t,ks⟩:=p;rw[hv] at ev;rw[Ze.enc_mk] at ev ⊢;refine cE ?_;simp (maxSteps:=10^7) +contextual -implicitDefEqProofs only[go_sem,seval,JU,ev,hw,hn]
 ·have an:=(LD _).mp hv;have hn:¬Vk (Zb.mk qL qW qH qF) (Zv.mk kW kH kP) p:=fun h=>hv h.1;rw[an] at ev;obtain⟨o,a,n,t,ks⟩:=p;rw[Ze.enc_mk] at ev ⊢;refine cE ?_;simp (maxSteps:=10^7) +contextual -implicitDefEqProofs only[go_sem,seval,JU,ev,hn]
theorem Zx9 (qL qW qH:Int) (qF:List Box) (bX bY bW bH:Int) (label:Int) (hq:VPc (Zb.mk qL qW qH qF)) (hb:VB (Box.mk bX bY bW bH)) (hi:QI (Box.mk bX bY bW bH) ⟨0,0,qW,qH⟩) (h1:1≤label) (h2:label≤9999) :
  v_ 229 [(.d (.agg [J qL,J qW,J qH,.sl (qF.map Box.enc)])),(.d (.agg [J bX,J bY,J bW,J bH])),(.d (J label))] []=some (.agg [(.d (J label)),(.d (J bW)),(.d (J bH)),.own 0],[.row 4 ((qF.filterMap (YN (Box.mk bX bY bW bH))).map Box.enc) true false]):=by
 have ae:=hq.1;simp only at ae;have n1:¬label<1:=o_
 have n2:¬9999<label:=o_
 have af:VB ⟨0,0,qW,qH⟩:=by simp only[VB];omega
 refine cE ?_;simp (maxSteps:=10^7) +contextual -implicitDefEqProofs only[go_sem,seval,Ztb,Q4,Zay,Zaw,hq,hb,hi,af,n1,n2];refine LO (α:=Nat) (fun i=>[(40,.d (J (i:Int)))]) (fun i=>[(3,.row 4 (((qF.take i).filterMap (YN (Box.mk bX bY bW bH))).map Box.enc) true false)]) (fun i=>i≤qF.length) (fun i=>qF.length-i) 0 o_ ?_;intro i hk ih;by_cases aa:i<qF.length
 ·obtain⟨x,hx⟩:=Zn aa;have hw:=Zg (k:=i) o_;have hm:=Zav (f:=YN (Box.mk bX bY bW bH)) hx;have ah:((qF.take i).filterMap (YN (Box.mk bX bY bW bH))).length≤i:=Ky (Ks _ _) (by simp;omega);have hr:(((qF.take i).filterMap (YN (Box.mk bX bY bW bH))).length+1)*32≤140737488355328∧((qF.take i).filterMap (YN (Box.mk bX bY bW bH))).length≤140737488355327:=o_
  have ad:=(hq.2 x (Kb hx)).1;obtain⟨X,Y,W,H⟩:=x;have ab:=ad;have ag:=hb;simp only[VB] at ab ag;simp only[YN] at hm;by_cases ho:Yk ⟨X,Y,W,H⟩ (Box.mk bX bY bW bH)
  ·rw[Kg ho] at hm;have w1:=wi (max X bX-bX) o_ o_;have w2:=wi (max Y bY-bY) o_ o_;simp +contextual -implicitDefEqProofs only[go_sem,seval,hx,aa,hw,ZbA X Y W H bX bY bW bH ad hb ho,hr,Zg0,w1,w2];refine ih (i+1) _ o_ o_ ?_;simp +contextual -implicitDefEqProofs only[go_sem,seval,hm,Zwb,Zg0]
   first | rfl | (simp;done) | (simp;rfl)
  ·rw[Kd ho] at hm;simp +contextual -implicitDefEqProofs only[go_sem,seval,hx,aa,hw,ZdA X Y W H bX bY bW bH (fun hh=>ho hh.2.2),hr];refine ih (i+1) _ o_ o_ ?_;simp +contextual -implicitDefEqProofs only[go_sem,seval,hm]
   first | rfl | (simp;done) | (simp;rfl)
 ·have:i=qF.length:=o_
  subst this;simp +contextual -implicitDefEqProofs only[go_sem,seval];try simp
theorem Zya (qL qW qH:Int) (qF:List Box) (bX bY bW bH:Int) (label:Int) (hf:∀ f∈qF,VB f) (hl:qF.length≤6) (hb:VB (Box.mk bX bY bW bH)) :
  v_ 224 [(.d (.agg [J qL,J qW,J qH,.sl (qF.map Box.enc)])),(.d (.agg [J bX,J bY,J bW,J bH])),(.d (J label))] []=some (.agg [(.d (J label)),(.d (J bW)),(.d (J bH)),.own 0],[.row 4 ((qF.filterMap (YN (Box.mk bX bY bW bH))).map Box.enc) true false]):=by
 refine cE ?_;simp (maxSteps:=10^7) +contextual -implicitDefEqProofs only[go_sem,seval,Zte];refine LO (α:=Nat) (fun i=>[(8,.d (J (i:Int)))]) (fun i=>[(4,.row 4 (((qF.take i).filterMap (YN (Box.mk bX bY bW bH))).map Box.enc) true false)]) (fun i=>i≤qF.length) (fun i=>qF.length-i) 0 o_ ?_;intro i hk ih;by_cases aa:i<qF.length
 ·obtain⟨x,hx⟩:=Zn aa;have hw:=Zg (k:=i) o_;have hm:=Zav (f:=YN (Box.mk bX bY bW bH)) hx;have af:((qF.take i).filterMap (YN (Box.mk bX bY bW bH))).length≤i:=Ky (Ks _ _) (by simp;omega);have hr:(((qF.take i).filterMap (YN (Box.mk bX bY bW bH))).length+1)*32≤140737488355328∧((qF.take i).filterMap (YN (Box.mk bX bY bW bH))).length≤140737488355327:=o_
  have ab:=hf x (Kb hx);obtain⟨X,Y,W,H⟩:=x;have ad:=ab;have ae:=hb;simp only[VB] at ad ae;simp only[YN] at hm;by_cases ho:Yk ⟨X,Y,W,H⟩ (Box.mk bX bY bW bH)
  ·rw[Kg ho] at hm;have w1:=wi (max X bX-bX) o_ o_;have w2:=wi (max Y bY-bY) o_ o_;simp +contextual -implicitDefEqProofs only[go_sem,seval,hx,aa,hw,Zmi X Y W H bX bY bW bH ab hb ho,hr,Zg0,w1,w2];refine ih (i+1) _ o_ o_ ?_;simp +contextual -implicitDefEqProofs only[go_sem,seval,hm,Zwb,Zg0]
   first | rfl | (simp;done) | (simp;rfl)
  ·rw[Kd ho] at hm;simp +contextual -implicitDefEqProofs only[go_sem,seval,hx,aa,hw,Zo2 X Y W H bX bY bW bH ab hb ho,hr];refine ih (i+1) _ o_ o_ ?_;simp +contextual -implicitDefEqProofs only[go_sem,seval,hm]
   first | rfl | (simp;done) | (simp;rfl)
 ·have:i=qF.length:=o_
  subst this;simp +contextual -implicitDefEqProofs only[go_sem,seval];try simp
theorem Zg7 (kW kH:Int) (kP:List Pane) (p:Ze) (Zj:Int):v_ 228 [(.d (.agg [J kW,J kH,.sl (kP.map Pane.enc)])),.d p.enc,(.d (J Zj))] []=some (.own 0,[.row 4 ((Xj (Zv.mk kW kH kP) p Zj).map Box.enc) true false]):=by
 have hv:=Zj6 kW kH kP p;have hn:((Qx (Zv.mk kW kH kP) p).filterMap X5).length≤255:=Ky (Ks _ _) (Zam (Zv.mk kW kH kP) p);unfold Xj;generalize (Qx (Zv.mk kW kH kP) p).filterMap X5=ps at hv hn ⊢;obtain⟨o,a,q,t,ks⟩:=p;rw[Ze.enc_mk] at hv ⊢;refine cE ?_;simp (maxSteps:=10^7) +contextual -implicitDefEqProofs only[go_sem,seval,Zi0,hv];refine LO (α:=Nat) (fun k=>[(14,.d (J (k:Int)))]) (fun k=>[(1,.row 4 (((ps.take k).filterMap (Uf Zj)).map Box.enc) true false)]) (fun k=>k≤ps.length) (fun k=>ps.length-k) 0 o_ ?_;intro k hk ih;by_cases aa:k<ps.length
 ·obtain⟨x,hx⟩:=Zn aa;have hw:=Zg (k:=k) o_;have hm:=Zav (f:=Uf Zj) hx;have ab:((ps.take k).filterMap (Uf Zj)).length≤k:=Ky (Ks _ _) (by simp;omega);have hr:(((ps.take k).filterMap (Uf Zj)).length+1)*32≤140737488355328∧((ps.take k).filterMap (Uf Zj)).length≤140737488355327:=o_
  obtain⟨X,Y,W,H⟩:=x;simp only[Uf] at hm;by_cases ho:Zj≤W∧Zj≤H
  ·rw[Kg ho] at hm;simp +contextual -implicitDefEqProofs only[go_sem,seval,hx,aa,hw,ho,hr];refine ih (k+1) _ o_ o_ ?_;simp +contextual -implicitDefEqProofs only[go_sem,seval,hm]
   first | rfl | (simp;done) | (simp;rfl)
  ·rw[Kd ho] at hm;simp +contextual -implicitDefEqProofs only[go_sem,seval,hx,aa,hw,ho,hr];refine ih (k+1) _ o_ o_ ?_;simp +contextual -implicitDefEqProofs only[go_sem,seval,hm]
   first | rfl | (simp;done) | (simp;rfl)
 ·have:k=ps.length:=o_
  subst this;simp +contextual -implicitDefEqProofs only[go_sem,seval];simp
theorem Zmy (qL qW qH:Int) (qF:List Box) (kW kH:Int) (kP:List Pane) (p:Ze) (Zj label:Int) (hq:VPc (Zb.mk qL qW qH qF)) (hv:Va (Zv.mk kW kH kP) p=true) (hW:kW=qW) (hH:kH=qH) (h1:1≤label) (h2:label≤10000)
  (hk:(Xj (Zv.mk kW kH kP) p Zj).length≤10000-label):v_ 203 [(.d (.agg [J qL,J qW,J qH,.sl (qF.map Box.enc)])),(.d (.agg [J kW,J kH,.sl (kP.map Pane.enc)])),.d p.enc,(.d (J Zj)),(.d (J label))] [] =
  some (.tup [.own 0,(.d (.bool true))],[.tree 4 4 ((UN (Zb.mk qL qW qH qF) label (Xj (Zv.mk kW kH kP) p Zj)).map Zb.enc) none]):=by
 have ek:=Zg7 kW kH kP p Zj;have aa:∀ b∈Xj (Zv.mk kW kH kP) p Zj,VB b∧QI b ⟨0,0,qW,qH⟩:=by
  intro b hb;have:=Zr0 (Zj:=Zj) hv b hb;rw[← hW,← hH];exact this
 have hn:=Zjr (Zv.mk kW kH kP) p Zj;generalize Xj (Zv.mk kW kH kP) p Zj=L at ek aa hn hk ⊢;clear hv;have w0:=wi (10000-label) o_ o_;have n0:¬(10000-label<(L.length:Int)):=o_
 obtain⟨o,a,n,t,ks⟩:=p;rw[Ze.enc_mk] at ek ⊢;refine cE ?_;simp (maxSteps:=10^7) +contextual -implicitDefEqProofs only[go_sem,seval,Zbi,ek,w0,n0];refine LO (α:=Nat) (fun i=>[(27,.d (J (i:Int)))]) (fun i=>[(1,.tree 4 4 ((UN (Zb.mk qL qW qH qF) label (L.take i)).map Zb.enc) none)]) (fun i=>i≤L.length) (fun i=>L.length-i) 0 o_ ?_;intro i hi ih;by_cases ab:i<L.length
 ·obtain⟨x,hx⟩:=Zn ab;have hw:=Zg (k:=i) o_;have hm:=ZCa (Zb.mk qL qW qH qF) label hx;have hl:(UN (Zb.mk qL qW qH qF) label (L.take i)).length=i:=by rw[Zcp];simp;omega
  have hr:(i+1)*48≤140737488355328∧i≤140737488355327:=o_
  have ad:=aa x (Kb hx);have w1:=wi (label+(i:Int)) o_ o_;obtain⟨X,Y,W,H⟩:=x;have hc:=Zx9 qL qW qH qF X Y W H (label+(i:Int)) hq ad.1 ad.2 o_ o_;have z6:=aF (l:=(ZnT (Zb.mk qL qW qH qF) ⟨X,Y,W,H⟩ (label+(i:Int))).Flaws) (g:=Box.enc) fun _=>rfl;simp only[ZnT] at z6;simp +contextual -implicitDefEqProofs only[go_sem,seval,hx,ab,hw,w1,hc,hl,hr,z6];refine ih (i+1) _ o_ o_ ?_;simp +contextual -implicitDefEqProofs only[go_sem,seval,hm,ZnT]
  first | rfl | (simp;done) | (simp;rfl)
 ·have:i=L.length:=o_
  subst this;simp +contextual -implicitDefEqProofs only[go_sem,seval];try simp
theorem Zn8 (qL qW qH:Int) (qF:List Box) (kW kH:Int) (kP:List Pane) (p:Ze) (Zj label:Int) (h1:1≤label) (h2:label≤10000)
  (hk:¬(Xj (Zv.mk kW kH kP) p Zj).length≤10000-label):v_ 203 [(.d (.agg [J qL,J qW,J qH,.sl (qF.map Box.enc)])),(.d (.agg [J kW,J kH,.sl (kP.map Pane.enc)])),.d p.enc,(.d (J Zj)),(.d (J label))] [] =
  some (.tup [.own 0,(.d (.bool false))],[.row 4 [] true false]):=by
 have ek:=Zg7 kW kH kP p Zj;generalize Xj (Zv.mk kW kH kP) p Zj=L at ek hk ⊢;have w0:=wi (10000-label) o_ o_;have n0:10000-label<(L.length:Int):=o_
 obtain⟨o,a,n,t,ks⟩:=p;rw[Ze.enc_mk] at ek ⊢;refine cE ?_;simp (maxSteps:=10^7) +contextual -implicitDefEqProofs only[go_sem,seval,Zbi,ek,w0,n0]
def Tr4 (l:List Zb) (o:Zm):Prop:=o=.tree 4 4 (l.map Zb.enc) none∨l=[]∧o=.row 4 [] true false
theorem Zcz (bX bY bW bH:Int) (Zj:Int):v_ 199 [(.d (.agg [J bX,J bY,J bW,J bH])),(.d (J Zj))] []=some ((.d (.bool (decide (Zj≤bW∧Zj≤bH)))),[]):=by
 refine cE ?_;simp (maxSteps:=10^7) +contextual -implicitDefEqProofs only[go_sem,seval,Zku]
theorem Zmz (bX bY bW bH:Int) (hb:VB (Box.mk bX bY bW bH)):v_ 151 [(.d (.agg [J bX,J bY,J bW,J bH]))] []=some ((.d (J (bW*bH))),[]):=by
 have h:=Jq hb;simp only at h;have w:=wi (bW*bH) o_ o_;refine cE ?_;simp (maxSteps:=10^7) +contextual -implicitDefEqProofs only[go_sem,seval,Zpp,w]
theorem ZtE (kW kH:Int) (kP:List Pane) (p:Ze) (Zj:Int) (hv:Va (Zv.mk kW kH kP) p=true) (h1:1≤Zj) (h2:Zj≤200):v_ 158 [(.d (.agg [J kW,J kH,.sl (kP.map Pane.enc)])),.d p.enc,(.d (J Zj))] [] =
  some ((.d (J (Yb (Zdz (Zv.mk kW kH kP) p Zj)))),[]):=by
 have ev:=Ju kW kH kP p;rw[hv] at ev;have ep:=Zj6 kW kH kP p;have aa:=ZbT hv;have ad:((Qx (Zv.mk kW kH kP) p).filterMap X5).length≤255:=Ky (Ks _ _) (Zam _ _);unfold Zdz;generalize (Qx (Zv.mk kW kH kP) p).filterMap X5=L at ep aa ad ⊢;clear hv;have n1:¬Zj<1:=o_
 have n2:¬200<Zj:=o_
 obtain⟨o,a,n,t,ks⟩:=p;rw[Ze.enc_mk] at ev ep ⊢;refine cE ?_;simp (maxSteps:=10^7) +contextual -implicitDefEqProofs only[go_sem,seval,Zm9,ev,ep,n1,n2];refine LO (α:=Nat) (fun i=>[(26,.d (J (i:Int))),(7,.d (J (Yb ((L.take i).filterMap (Ug Zj)))))]) (fun _=>[]) (fun i=>i≤L.length) (fun i=>L.length-i) 0 o_ ?_;intro i hi ih;by_cases ae:i<L.length
 ·obtain⟨x,hx⟩:=Zn ae;have hw:=Zg (k:=i) o_;have hm:=Zav (f:=Ug Zj) hx;have af:=aa x (Kb hx);have ha:=Ze4 (l:=(L.take i).filterMap (Ug Zj)) (fun c hc=>by
   obtain⟨d,hd,ab⟩:=Lw.1 hc;unfold Ug at ab;split at ab
   ·cases ab;exact aa c (Lh hd)
   ·cases ab)
  have ah:((L.take i).filterMap (Ug Zj)).length≤i:=Ky (Ks _ _) (by simp;omega);have ag:=Jq af;obtain⟨X,Y,W,H⟩:=x;simp only at ag;have w1:=wi (Yb ((L.take i).filterMap (Ug Zj))+W*H) o_ o_;simp only[Ug] at hm;by_cases ho:W<Zj∨H<Zj
  ·rw[Kg ho] at hm;simp +contextual -implicitDefEqProofs only[go_sem,seval,hx,ae,hw,ho,Zmz X Y W H af,w1];refine ih (i+1) _ o_ o_ ?_;simp +contextual -implicitDefEqProofs only[go_sem,seval,hm,Zbz,Option.toList,Yb]
   first | rfl | (simp;done) | (simp;rfl)
  ·rw[Kd ho] at hm;simp +contextual -implicitDefEqProofs only[go_sem,seval,hx,ae,hw,ho];refine ih (i+1) _ o_ o_ ?_;simp +contextual -implicitDefEqProofs only[go_sem,seval,hm]
   first | rfl | (simp;done) | (simp;rfl)
 ·have:i=L.length:=o_
  subst this;simp +contextual -implicitDefEqProofs only[go_sem,seval];try simp
theorem ZtF (qL qW qH:Int) (qF:List Box) (kW kH:Int) (kP:List Pane) (p:Ze) (Zj label:Int) (hq:VPc (Zb.mk qL qW qH qF)) (hv:Va (Zv.mk kW kH kP) p=true) (h1:1≤label) (h2:label≤10000) :
  v_ 195 [(.d (.agg [J qL,J qW,J qH,.sl (qF.map Box.enc)])),(.d (.agg [J kW,J kH,.sl (kP.map Pane.enc)])),.d p.enc,(.d (J Zj)),(.d (J label))] [] =
  some (.own 0,[.row 4 ((UN (Zb.mk qL qW qH qF) label (Xj (Zv.mk kW kH kP) p Zj)).map Zb.enc) true false]):=by
 obtain⟨b,hb,ah,ai,ak,ae,aj⟩:=QU hv;have af:=ai;simp only[VW] at af;have ep:=Zj8 kW kH kP p b ah (by simp only[inB];omega) ae o_;have ab:=ZbT hv;have ad:((Qx (Zv.mk kW kH kP) p).filterMap X5).length≤255:=Ky (Ks _ _) (Zam _ _);unfold Xj;rw[aj,Ze2] at ab ad ⊢;have al:∀ f∈qF,VB f:=fun f hf=>(hq.2 f hf).1;have am:qF.length≤6:=hq.1.2.2.2.2.2.2;have aa:∀ i,((wst b 0 0 kW kH).take i).length≤255:=fun i=>Ky (List.length_take_le' _ _) ad;generalize wst b 0 0 kW kH=L at ep ab ad aa ⊢;clear aj ah hb hv ae ai af;obtain⟨o,a,n,t,ks⟩:=p;rw[Ze.enc_mk] at ep ⊢;refine cE ?_
 simp +contextual -implicitDefEqProofs only[go_sem,seval,Znh,ep];refine LO (α:=Nat) (fun i=>[(13,.d (J (i:Int)))]) (fun i=>[(1,.row 4 ((UN (Zb.mk qL qW qH qF) label ((L.take i).filterMap (Uf Zj))).map Zb.enc) true false)]) (fun i=>i≤L.length) (fun i=>L.length-i) 0 o_ ?_;intro i hi ih;by_cases ag:i<L.length
 ·obtain⟨x,hx⟩:=Zn ag;have hw:=Zg (k:=i) o_;have hm:=Zav (f:=Uf Zj) hx;have ao:((L.take i).filterMap (Uf Zj)).length≤255:=Ky (Ks _ _) (aa i);have hl:=Zcp (Zb.mk qL qW qH qF) label ((L.take i).filterMap (Uf Zj));have hr:(((L.take i).filterMap (Uf Zj)).length+1)*48≤140737488355328∧((L.take i).filterMap (Uf Zj)).length≤140737488355327:=o_
  have w1:=wi (label+(((L.take i).filterMap (Uf Zj)).length:Int)) o_ o_;have an:=ab x (Kb hx);have hcc:=fun y=>Zh0 (Zb.mk qL qW qH qF) label ((L.take i).filterMap (Uf Zj)) [y];obtain⟨X,Y,W,H⟩:=x;simp only[Uf] at hm;have hc:=Zya qL qW qH qF X Y W H (label+(((L.take i).filterMap (Uf Zj)).length:Int)) al am an;by_cases ho:Zj≤W∧Zj≤H
  ·rw[Kg ho] at hm;simp +contextual -implicitDefEqProofs only[go_sem,seval,hx,ag,hw,Zcz,ho,hl,w1,hc,hr];refine ih (i+1) _ o_ o_ ?_;simp +contextual -implicitDefEqProofs only[go_sem,seval,hm,Option.toList,hcc,UN,ZnT]
   first | rfl | (simp;done) | (simp;rfl)
  ·rw[Kd ho] at hm;simp +contextual -implicitDefEqProofs only[go_sem,seval,hx,ag,hw,Zcz,ho];refine ih (i+1) _ o_ o_ ?_;simp +contextual -implicitDefEqProofs only[go_sem,seval,hm]
   first | rfl | (simp;done) | (simp;rfl)
 ·have:i=L.length:=o_
  subst this;simp +contextual -implicitDefEqProofs only[go_sem,seval];try simp
end Go.Proofs.YtfnegoimdljanaaGreatDoor
