import Derived.Test.YtfnegoimdljanaaGreatDoorCC1
set_option linter.unusedSimpArgs false
set_option linter.unusedVariables false
namespace Go.Proofs.YtfnegoimdljanaaGreatDoor
open Go Go.Abs Go.Abs.E Go.Abs.L
set_option maxRecDepth 20000
set_option maxHeartbeats 4000000
theorem XE (ps:List Pane):∀ (b:BT) (gX gY gW gH:Int) (xs:List D) (ex:Bool),inB (Box.mk gX gY gW gH)→Xy ps b gW gH=true→xs.length+b.cnt≤1000 →
  v_ 230 [.own 0,.d b.plan.enc,(.d (.agg [J gX,J gY,J gW,J gH]))] [.row 9 xs ex false]=some (.own 1,[.gone,.row 9 (xs++(pt b gX gY gW gH).map Part.enc) false false])
 | .waste,gX,gY,gW,gH,xs,ex,hg,hf,hl=>by
  simp only[BT.cnt] at hl;have h1:(xs.length+1)*88≤140737488355328∧xs.length≤140737488355327:=o_
  simp only[BT.plan,Zf.enc_mk,pt];refine cE ?_;simp (maxSteps:=10^7) +contextual -implicitDefEqProofs only[go_sem,seval,XX,V6,h1]
 | .pane i t,gX,gY,gW,gH,xs,ex,hg,hf,hl=>by
  simp only[BT.cnt] at hl;have h1:(xs.length+1)*88≤140737488355328∧xs.length≤140737488355327:=o_
  simp only[BT.plan,Zf.enc_mk,pt];refine cE ?_;simp (maxSteps:=10^7) +contextual -implicitDefEqProofs only[go_sem,seval,XX,V6,h1]
 | .cut d a l r,gX,gY,gW,gH,xs,ex,hg,hf,hl=>by
  simp only[BT.cnt] at hl;have h1:(xs.length+1)*88≤140737488355328∧xs.length≤140737488355327:=o_
  simp only[inB] at hg;simp only[BT.plan,Zf.enc_mk];cases d with
  | true=>
   simp only[Xy,Kf,Ko,Kl] at hf;have e0:=ZaE 2 a 0 false [l.plan.enc,r.plan.enc] gX gY gW gH rfl ⟨o_,o_⟩ ⟨o_,o_⟩;have e1:=XE ps l gX gY a gH (xs++[.agg [J 2,J a,J 0,.bool false,.sl [l.plan.enc,r.plan.enc],J gX,J gY,J gW,J gH]]) false (by simp only[inB];omega) hf.1.2 (by simp only[Kr,Kn,KL];omega);have e2:=XE ps r (gX+a) gY (gW-a) gH (xs++[.agg [J 2,J a,J 0,.bool false,.sl [l.plan.enc,r.plan.enc],J gX,J gY,J gW,J gH]]++(pt l gX gY a gH).map Part.enc) false (by simp only[inB];omega) hf.2 (by simp only[Kr,Kn,KL,KB,UX];omega)
   refine cE ?_;simp (maxSteps:=10^7) +contextual -implicitDefEqProofs only[go_sem,seval,XX,V6,h1,Z8,e0,e1,e2];simp[pt,Z8,BT.plan,Part.enc_mk]
  | false=>
   simp only[Xy,Kf,Ko,Ka,Km] at hf;have e0:=U1 3 a 0 false [l.plan.enc,r.plan.enc] gX gY gW gH (by decide) ⟨o_,o_⟩ ⟨o_,o_⟩;have e1:=XE ps l gX gY gW a (xs++[.agg [J 3,J a,J 0,.bool false,.sl [l.plan.enc,r.plan.enc],J gX,J gY,J gW,J gH]]) false (by simp only[inB];omega) hf.1.2 (by simp only[Kr,Kn,KL];omega);have e2:=XE ps r gX (gY+a) gW (gH-a) (xs++[.agg [J 3,J a,J 0,.bool false,.sl [l.plan.enc,r.plan.enc],J gX,J gY,J gW,J gH]]++(pt l gX gY gW a).map Part.enc) false (by simp only[inB];omega) hf.2 (by simp only[Kr,Kn,KL,KB,UX];omega)
   refine cE ?_;simp (maxSteps:=10^7) +contextual -implicitDefEqProofs only[go_sem,seval,XX,V6,h1,Z8,e0,e1,e2];simp[pt,Z8,BT.plan,Part.enc_mk]
theorem ZqZ (ps:List Pane):∀ (b:BT) (gX gY gW gH:Int),inB (Box.mk gX gY gW gH)→Xy ps b gW gH=true→b.cnt≤1000 →
  v_ 230 [.nil,.d b.plan.enc,(.d (.agg [J gX,J gY,J gW,J gH]))] []=some (.own 0,[.row 9 ((pt b gX gY gW gH).map Part.enc) false false])
 | .waste,gX,gY,gW,gH,hg,hf,hl=>by
  have h1:1*88≤ZL∧1≤ZL:=by unfold ZL;omega
  simp only[BT.plan,Zf.enc_mk,pt];refine cE ?_;simp (maxSteps:=10^7) +contextual -implicitDefEqProofs only[go_sem,seval,XX,V6,h1]
 | .pane i t,gX,gY,gW,gH,hg,hf,hl=>by
  have h1:1*88≤ZL∧1≤ZL:=by unfold ZL;omega
  simp only[BT.plan,Zf.enc_mk,pt];refine cE ?_;simp (maxSteps:=10^7) +contextual -implicitDefEqProofs only[go_sem,seval,XX,V6,h1]
 | .cut d a l r,gX,gY,gW,gH,hg,hf,hl=>by
  simp only[BT.cnt] at hl;have h1:1*88≤ZL∧1≤ZL:=by unfold ZL;omega
  simp only[inB] at hg;simp only[BT.plan,Zf.enc_mk];cases d with
  | true=>
   simp only[Xy,Kf,Ko,Kl] at hf;have e0:=ZaE 2 a 0 false [l.plan.enc,r.plan.enc] gX gY gW gH rfl ⟨o_,o_⟩ ⟨o_,o_⟩;have e1:=XE ps l gX gY a gH [.agg [J 2,J a,J 0,.bool false,.sl [l.plan.enc,r.plan.enc],J gX,J gY,J gW,J gH]] false (by simp only[inB];omega) hf.1.2 (by simp only[Kr,Kn,KL];omega);have e2:=XE ps r (gX+a) gY (gW-a) gH (.agg [J 2,J a,J 0,.bool false,.sl [l.plan.enc,r.plan.enc],J gX,J gY,J gW,J gH] :: (pt l gX gY a gH).map Part.enc) false (by simp only[inB];omega) hf.2 (by simp only[Kr,Kn,KL,KB,UX];omega)
   refine cE ?_;simp (maxSteps:=10^7) +contextual -implicitDefEqProofs only[go_sem,seval,XX,V6,h1,Z8,e0,e1,e2];simp[pt,Z8,BT.plan,Part.enc_mk]
  | false=>
   simp only[Xy,Kf,Ko,Ka,Km] at hf;have e0:=U1 3 a 0 false [l.plan.enc,r.plan.enc] gX gY gW gH (by decide) ⟨o_,o_⟩ ⟨o_,o_⟩;have e1:=XE ps l gX gY gW a [.agg [J 3,J a,J 0,.bool false,.sl [l.plan.enc,r.plan.enc],J gX,J gY,J gW,J gH]] false (by simp only[inB];omega) hf.1.2 (by simp only[Kr,Kn,KL];omega);have e2:=XE ps r gX (gY+a) gW (gH-a) (.agg [J 3,J a,J 0,.bool false,.sl [l.plan.enc,r.plan.enc],J gX,J gY,J gW,J gH] :: (pt l gX gY gW a).map Part.enc) false (by simp only[inB];omega) hf.2 (by simp only[Kr,Kn,KL,KB,UX];omega)
   refine cE ?_;simp (maxSteps:=10^7) +contextual -implicitDefEqProofs only[go_sem,seval,XX,V6,h1,Z8,e0,e1,e2];simp[pt,Z8,BT.plan,Part.enc_mk]
theorem Zld (kW kH:Int) (kP:List Pane) (p:Zf):v_ 204 [(.d (.agg [J kW,J kH,.sl (kP.map Pane.enc)])),.d p.enc] []=some (.own 0,[.row 9 ((Qt (Zt.mk kW kH kP) p).map Part.enc) (!YO (Zt.mk kW kH kP) p) false]):=by
 have hv:=U3 kW kH kP p;unfold YO at hv;unfold Qt YO;cases hb:Q8 p with
 | none=>
  rw[hb] at hv;obtain⟨o,a,q,t,ks⟩:=p;rw[Zf.enc_mk] at hv ⊢;refine cE ?_;simp (maxSteps:=10^7) +contextual -implicitDefEqProofs only[go_sem,seval,Zdn,hv];try rfl
 | some b=>
  have hp:=Zbp hb;rw[hb] at hv;dsimp only at hv ⊢;by_cases hh:(decide (VW (Zt.mk kW kH kP))&&decide (b.cnt≤255)&&Xy kP b kW kH)=true
  ·have aa:=hh;simp only[Kf,Ko] at aa;have hw:=aa.1.1;simp only[VW] at hw;have ab:=ZqZ kP b 0 0 kW kH (by simp only[inB];omega) aa.2 o_;rw[← hp] at ab;rw[hh] at hv ⊢;obtain⟨o,a,q,t,ks⟩:=p;rw[Zf.enc_mk] at hv ab ⊢;refine cE ?_;simp (maxSteps:=10^7) +contextual -implicitDefEqProofs only[go_sem,seval,Zdn,Zba,hv,ab];try rfl
  ·have hf:=(Lz _).mp hh;rw[hf] at hv ⊢;obtain⟨o,a,q,t,ks⟩:=p;rw[Zf.enc_mk] at hv ⊢;refine cE ?_;simp (maxSteps:=10^7) +contextual -implicitDefEqProofs only[go_sem,seval,Zdn,hv];try rfl
theorem JS (k:Zt) (p:Zf):(Qt k p).length≤255:=by
 unfold Qt;split
 ·split
  ·rename_i h;simp only[Kf,Ko] at h;rw[UX];exact h.1.2
  ·simp
 ·simp
theorem ZdD (kW kH:Int) (kP:List Pane) (p:Zf):v_ 155 [(.d (.agg [J kW,J kH,.sl (kP.map Pane.enc)])),.d p.enc] []=some (.own 0,[.row 6 (((Qt (Zt.mk kW kH kP) p).filterMap Q3).map Place.enc) true false]):=by
 have hv:=Zld kW kH kP p;have hn:=JS (Zt.mk kW kH kP) p;generalize (!YO (Zt.mk kW kH kP) p)=e at hv;generalize Qt (Zt.mk kW kH kP) p=ps at hv hn ⊢;obtain⟨o,a,q,t,ks⟩:=p;rw[Zf.enc_mk] at hv ⊢;refine cE ?_;simp (maxSteps:=10^7) +contextual -implicitDefEqProofs only[go_sem,seval,ZlL,hv];refine LO (α:=Nat) (fun k=>[(12,.d (J (k:Int)))]) (fun k=>[(1,.row 6 (((ps.take k).filterMap Q3).map Place.enc) true false)]) (fun k=>k≤ps.length) (fun k=>ps.length-k) 0 o_ ?_;intro k hk ih;by_cases aa:k<ps.length
 ·obtain⟨x,hx⟩:=Zp aa;have hw:=Zh (k:=k) o_;have hm:=J5 (f:=Q3) hx;have ab:((ps.take k).filterMap Q3).length≤k:=Ku (Kq _ _) (by simp;omega);have hr:(((ps.take k).filterMap Q3).length+1)*48≤140737488355328∧((ps.take k).filterMap Q3).length≤140737488355327:=o_
  obtain⟨⟨o',a',q',t',ad⟩,⟨X,Y,W,H⟩⟩:=x;simp only[Q3] at hm;by_cases ho:o'=1
  ·rw[Kj ho] at hm;simp (maxSteps:=10^7) +contextual -implicitDefEqProofs only[go_sem,seval,hx,aa,hw,ho,hr];refine ih (k+1) _ o_ o_ ?_;simp (maxSteps:=10^7) +contextual -implicitDefEqProofs only[go_sem,seval,hm]
   first | rfl | (simp;done) | (simp;rfl)
  ·rw[Ke ho] at hm;simp (maxSteps:=10^7) +contextual -implicitDefEqProofs only[go_sem,seval,hx,aa,hw,ho,hr];refine ih (k+1) _ o_ o_ ?_;simp (maxSteps:=10^7) +contextual -implicitDefEqProofs only[go_sem,seval,hm]
   first | rfl | (simp;done) | (simp;rfl)
 ·have:k=ps.length:=o_
  subst this;simp (maxSteps:=10^7) +contextual -implicitDefEqProofs only[go_sem,seval];simp
theorem Zi4 (kW kH:Int) (kP:List Pane) (p:Zf):v_ 207 [(.d (.agg [J kW,J kH,.sl (kP.map Pane.enc)])),.d p.enc] []=some (.own 0,[.row 4 (((Qt (Zt.mk kW kH kP) p).filterMap XM).map Box.enc) true false]):=by
 have hv:=Zld kW kH kP p;have hn:=JS (Zt.mk kW kH kP) p;generalize (!YO (Zt.mk kW kH kP) p)=e at hv;generalize Qt (Zt.mk kW kH kP) p=ps at hv hn ⊢;obtain⟨o,a,q,t,ks⟩:=p;rw[Zf.enc_mk] at hv ⊢;refine cE ?_;simp (maxSteps:=10^7) +contextual -implicitDefEqProofs only[go_sem,seval,ZlP,hv];refine LO (α:=Nat) (fun k=>[(12,.d (J (k:Int)))]) (fun k=>[(1,.row 4 (((ps.take k).filterMap XM).map Box.enc) true false)]) (fun k=>k≤ps.length) (fun k=>ps.length-k) 0 o_ ?_;intro k hk ih;by_cases aa:k<ps.length
 ·obtain⟨x,hx⟩:=Zp aa;have hw:=Zh (k:=k) o_;have hm:=J5 (f:=XM) hx;have ab:((ps.take k).filterMap XM).length≤k:=Ku (Kq _ _) (by simp;omega);have hr:(((ps.take k).filterMap XM).length+1)*32≤140737488355328∧((ps.take k).filterMap XM).length≤140737488355327:=o_
  obtain⟨⟨o',a',q',t',ad⟩,⟨X,Y,W,H⟩⟩:=x;simp only[XM] at hm;by_cases ho:o'=0
  ·rw[Kj ho] at hm;simp (maxSteps:=10^7) +contextual -implicitDefEqProofs only[go_sem,seval,hx,aa,hw,ho,hr];refine ih (k+1) _ o_ o_ ?_;simp (maxSteps:=10^7) +contextual -implicitDefEqProofs only[go_sem,seval,hm]
   first | rfl | (simp;done) | (simp;rfl)
  ·rw[Ke ho] at hm;simp (maxSteps:=10^7) +contextual -implicitDefEqProofs only[go_sem,seval,hx,aa,hw,ho,hr];refine ih (k+1) _ o_ o_ ?_;simp (maxSteps:=10^7) +contextual -implicitDefEqProofs only[go_sem,seval,hm]
   first | rfl | (simp;done) | (simp;rfl)
 ·have:k=ps.length:=o_
  subst this;simp (maxSteps:=10^7) +contextual -implicitDefEqProofs only[go_sem,seval];simp
theorem Uy (ps:List Pane):∀ (b:BT) (gX gY gW gH:Int),inB (Box.mk gX gY gW gH)→Xy ps b gW gH=true→b.cnt≤1000 →
  v_ 227 [.d b.plan.enc,(.d (.agg [J gX,J gY,J gW,J gH]))] []=some (.own 0,[.row 6 ((sp b gX gY gW gH).map Place.enc) true false])
 | .waste,gX,gY,gW,gH,hg,hf,hl=>by
  simp only[BT.plan,Zf.enc_mk,sp];refine cE ?_;simp (maxSteps:=10^7) +contextual -implicitDefEqProofs only[go_sem,seval,ZcJ];try rfl
 | .pane i t,gX,gY,gW,gH,hg,hf,hl=>by
  simp only[BT.plan,Zf.enc_mk,sp];refine cE ?_;simp (maxSteps:=10^7) +contextual -implicitDefEqProofs only[go_sem,seval,ZcJ];try rfl
 | .cut d a l r,gX,gY,gW,gH,hg,hf,hl=>by
  simp only[BT.cnt] at hl;simp only[inB] at hg;simp only[BT.plan,Zf.enc_mk];cases d with
  | true=>
   simp only[Xy,Kf,Ko,Kl] at hf;have w1:=wi (gX+a) o_ o_;have w2:=wi (gW-a) o_ o_;have l1:=ZdA l gX gY a gH;have l2:=ZdA r (gX+a) gY (gW-a) gH;have e1:=Uy ps l gX gY a gH (by simp only[inB];omega) hf.1.2 o_;have e2:=Uy ps r (gX+a) gY (gW-a) gH (by simp only[inB];omega) hf.2 o_;have h1:((sp l gX gY a gH).length+(sp r (gX+a) gY (gW-a) gH).length)*48≤140737488355328∧(sp l gX gY a gH).length+(sp r (gX+a) gY (gW-a) gH).length≤140737488355328:=o_
   refine cE ?_;simp (maxSteps:=10^7) +contextual -implicitDefEqProofs only[go_sem,seval,ZcJ,Z8,w1,w2,h1,e1,e2];simp[sp]
  | false=>
   simp only[Xy,Kf,Ko,Ka,Km] at hf;have w1:=wi (gY+a) o_ o_;have w2:=wi (gH-a) o_ o_;have l1:=ZdA l gX gY gW a;have l2:=ZdA r gX (gY+a) gW (gH-a);have e1:=Uy ps l gX gY gW a (by simp only[inB];omega) hf.1.2 o_;have e2:=Uy ps r gX (gY+a) gW (gH-a) (by simp only[inB];omega) hf.2 o_;have h1:((sp l gX gY gW a).length+(sp r gX (gY+a) gW (gH-a)).length)*48≤140737488355328∧(sp l gX gY gW a).length+(sp r gX (gY+a) gW (gH-a)).length≤140737488355328:=o_
   refine cE ?_;simp (maxSteps:=10^7) +contextual -implicitDefEqProofs only[go_sem,seval,ZcJ,Z8,w1,w2,h1,e1,e2];simp[sp]
theorem Zaa (qL qW qH:Int) (qF:List Box):v_ 176 [(.d (.agg [J qL,J qW,J qH,.sl (qF.map Box.enc)]))] []=some (.d (.agg [J 0,J 0,J qW,J qH]),[]):=by
 refine cE ?_;simp (maxSteps:=10^7) +contextual -implicitDefEqProofs only[go_sem,seval,ZlM]
theorem QT (qL qW qH:Int) (qF:List Box):v_ 122 [(.d (.agg [J qL,J qW,J qH,.sl (qF.map Box.enc)]))] []=some ((.d (.bool (decide (VPc (Zb.mk qL qW qH qF))))),[]):=by
 refine cE ?_;by_cases h0:(((qL<1∨9999<qL)∨¬VB ⟨0,0,qW,qH⟩)∨(6:Int)<qF.length)
 ·simp (maxSteps:=10^7) +contextual -implicitDefEqProofs only[go_sem,seval,ZcI,Zaa,X0,h0];exact ZgH (by simp only[VPc];simp only[VB] at h0;omega)
 ·simp (maxSteps:=10^7) +contextual -implicitDefEqProofs only[go_sem,seval,ZcI,Zaa,X0,h0];have hb:VB ⟨0,0,qW,qH⟩:=by
   refine Decidable.byContradiction fun h=>h0 (.inl (.inr h))
  refine LO (α:=Nat) (fun k=>[(28,.d (J (k:Int)))]) (fun _=>[]) (fun k=>k≤qF.length∧((∀ f∈qF,ZbX qW qH f)↔∀ f∈qF.drop k,ZbX qW qH f)) (fun k=>qF.length-k) 0 ⟨o_,by simp⟩ ?_;intro k ⟨hk,hp⟩ ih;by_cases aa:k<qF.length
  ·obtain⟨x,hx⟩:=Zp aa;rw[Zes hx] at hp;have hw:=Zh (k:=k) (by simp only[VB] at hb h0;omega);obtain⟨X,Y,W,H⟩:=x;simp (maxSteps:=10^7) +contextual -implicitDefEqProofs only[go_sem,seval,hx,aa,hw,Zaa,J6,hb];refine⟨fun h=>ZgH (fun hh=>h ((hp.1 hh.2).1)),fun h=>ih (k+1) _ ⟨o_,?_⟩ o_ ?_⟩
   ·rw[hp];exact⟨fun hh=>hh.2,fun hh=>⟨h,hh⟩⟩
   ·simp (maxSteps:=10^7) +contextual -implicitDefEqProofs only[go_sem,seval]
  ·have:k=qF.length:=o_
   subst this;simp (maxSteps:=10^7) +contextual -implicitDefEqProofs only[go_sem,seval];have hv:∀ f∈qF,ZbX qW qH f:=hp.2 (by simp);exact ZyH (by simp only[VPc];simp only[VB] at h0;exact⟨o_,hv⟩)
theorem Zgd (qL qW qH:Int) (qF:List Box) (hl:qF.length<4611686018427387904) (hW:R64 qW) (hH:R64 qH):v_ 132 [(.d (.agg [J qL,J qW,J qH,.sl (qF.map Box.enc)]))] []=some ((.d (.bool (decide (VPc (Zb.mk qL qW qH qF))))),[]):=by
 refine cE ?_;simp (maxSteps:=10^7) +contextual -implicitDefEqProofs only[go_sem,seval,ZhT];refine LO (α:=Nat) (fun k=>[(3,.d (J (k:Int)))]) (fun _=>[]) (fun k=>k≤qF.length∧((∀ f∈qF,ZbX qW qH f)↔∀ f∈qF.drop k,ZbX qW qH f)) (fun k=>qF.length-k) 0 ⟨o_,by simp⟩ ?_;intro k ⟨hk,hp⟩ ih;by_cases aa:k<qF.length
 ·obtain⟨x,hx⟩:=Zp aa;rw[Zes hx] at hp;have hw:=Zh (k:=k) o_;obtain⟨X,Y,W,H⟩:=x;by_cases hv:VB ⟨X,Y,W,H⟩
  ·have hi:=ZrU X Y W H 0 0 qW qH hv ⟨o_,o_⟩ ⟨o_,o_⟩ (by simpa using hW) (by simpa using hH);simp (maxSteps:=10^7) +contextual -implicitDefEqProofs only[go_sem,seval,hx,aa,hw,ZiX,hi,hv];refine⟨fun h=>ZgH (fun hh=>h ((hp.1 hh.2).1.2)),fun h=>ih (k+1) _ ⟨o_,?_⟩ o_ ?_⟩
   ·rw[hp];exact⟨fun hh=>hh.2,fun hh=>⟨⟨hv,h⟩,hh⟩⟩
   ·simp (maxSteps:=10^7) +contextual -implicitDefEqProofs only[go_sem,seval]
  ·simp (maxSteps:=10^7) +contextual -implicitDefEqProofs only[go_sem,seval,hx,aa,hw,ZiX,hv];exact ZgH (fun hh=>hv ((hp.1 hh.2).1.1))
 ·have:k=qF.length:=o_
  subst this;simp (maxSteps:=10^7) +contextual -implicitDefEqProofs only[go_sem,seval,ZI];have hv:∀ f∈qF,ZbX qW qH f:=hp.2 (by simp);exact ZaU (by simp only[VPc];exact⟨fun h=>⟨o_,hv⟩,fun h=>by omega⟩)
theorem Zhh (fs:List Box) (bX bY bW bH:Int) (hf:∀ f∈fs,VB f) (hb:VB (Box.mk bX bY bW bH)) (hl:fs.length<4611686018427387904):v_ 124 [(.d (.sl (fs.map Box.enc))),(.d (.agg [J bX,J bY,J bW,J bH]))] []=some ((.d (.bool (!decide (Z3 fs (Box.mk bX bY bW bH))))),[]):=by
 refine cE ?_;simp (maxSteps:=10^7) +contextual -implicitDefEqProofs only[go_sem,seval,Zjf];refine LO (α:=Nat) (fun k=>[(11,.d (J (k:Int)))]) (fun _=>[]) (fun k=>k≤fs.length∧(Z3 fs (Box.mk bX bY bW bH)↔Z3 (fs.drop k) (Box.mk bX bY bW bH))) (fun k=>fs.length-k) 0 ⟨o_,by simp⟩ ?_;intro k ⟨hk,hp⟩ ih;by_cases aa:k<fs.length
 ·obtain⟨x,hx⟩:=Zp aa;have ad:=hx;unfold Z3 at hp;rw[Zes hx (fun f=>¬XZ f (Box.mk bX bY bW bH))] at hp;have hw:=Zh (k:=k) o_;have ab:=hf x (Kb hx);obtain⟨X,Y,W,H⟩:=x;by_cases hm:XZ ⟨X,Y,W,H⟩ (Box.mk bX bY bW bH)
  ·simp (maxSteps:=10^7) +contextual -implicitDefEqProofs only[go_sem,seval,hx,aa,hw,Za9 X Y W H bX bY bW bH ab hb hm];have:¬Z3 fs (Box.mk bX bY bW bH):=fun hh=>(hp.1 hh).1 hm;simp[this]
  ·simp (maxSteps:=10^7) +contextual -implicitDefEqProofs only[go_sem,seval,hx,aa,hw,Zc6 X Y W H bX bY bW bH (fun hh=>hm hh.2.2)];refine ih (k+1) _ ⟨o_,?_⟩ o_ ?_
   ·unfold Z3;rw[hp];exact⟨fun hh=>hh.2,fun hh=>⟨hm,hh⟩⟩
   ·simp (maxSteps:=10^7) +contextual -implicitDefEqProofs only[go_sem,seval]
 ·have:k=fs.length:=o_
  subst this;simp (maxSteps:=10^7) +contextual -implicitDefEqProofs only[go_sem,seval];have:Z3 fs (Box.mk bX bY bW bH):=hp.2 (by simp[Z3]);simp[this]
theorem Zle (qL qW qH:Int) (qF:List Box) (bX bY bW bH:Int) (hf:∀ f∈qF,VB f) (hb:VB (Box.mk bX bY bW bH)) (hl:qF.length<4611686018427387904):v_ 137 [(.d (.agg [J qL,J qW,J qH,.sl (qF.map Box.enc)])),(.d (.agg [J bX,J bY,J bW,J bH]))] []=some ((.d (.bool (decide (Z3 qF (Box.mk bX bY bW bH))))),[]):=by
 refine cE ?_;simp (maxSteps:=10^7) +contextual -implicitDefEqProofs only[go_sem,seval,Zn9];refine LO (α:=Nat) (fun k=>[(5,.d (J (k:Int)))]) (fun _=>[]) (fun k=>k≤qF.length∧(Z3 qF (Box.mk bX bY bW bH)↔Z3 (qF.drop k) (Box.mk bX bY bW bH))) (fun k=>qF.length-k) 0 ⟨o_,by simp⟩ ?_;intro k ⟨hk,hp⟩ ih;by_cases aa:k<qF.length
 ·obtain⟨x,hx⟩:=Zp aa;unfold Z3 at hp;rw[Zes hx (fun f=>¬XZ f (Box.mk bX bY bW bH))] at hp;have hw:=Zh (k:=k) o_;have ab:=hf x (Kb hx);obtain⟨X,Y,W,H⟩:=x;by_cases hm:XZ ⟨X,Y,W,H⟩ (Box.mk bX bY bW bH)
  ·simp (maxSteps:=10^7) +contextual -implicitDefEqProofs only[go_sem,seval,hx,aa,hw,Zk6 X Y W H bX bY bW bH ab hb hm];have:¬Z3 qF (Box.mk bX bY bW bH):=fun hh=>(hp.1 hh).1 hm;simp[this]
  ·simp (maxSteps:=10^7) +contextual -implicitDefEqProofs only[go_sem,seval,hx,aa,hw,ZnP X Y W H bX bY bW bH ab hb hm];refine ih (k+1) _ ⟨o_,?_⟩ o_ ?_
   ·unfold Z3;rw[hp];exact⟨fun hh=>hh.2,fun hh=>⟨hm,hh⟩⟩
   ·simp (maxSteps:=10^7) +contextual -implicitDefEqProofs only[go_sem,seval]
 ·have:k=qF.length:=o_
  subst this;simp (maxSteps:=10^7) +contextual -implicitDefEqProofs only[go_sem,seval];have:Z3 qF (Box.mk bX bY bW bH):=hp.2 (by simp[Z3]);simp[this]
theorem Zi5 (kW kH:Int) (kP:List Pane) (p:Zf) (b:BT) (hp:p=b.plan) (hg:inB ⟨0,0,kW,kH⟩) (hf:Xy kP b kW kH=true) (hl:b.cnt≤1000):v_ 200 [(.d (.agg [J kW,J kH,.sl (kP.map Pane.enc)])),.d p.enc] []=some (.own 0,[.row 6 ((plc b 0 0 kW kH).map Place.enc) true false]):=by
 have e:=Uy kP b 0 0 kW kH hg hf hl;have hm:=ZmB b 0 0 kW kH (Zis hf);have hn:=ZdA b 0 0 kW kH;rw[← hp] at e;rw[← hm];clear hm;generalize sp b 0 0 kW kH=S at e hn ⊢;clear hp hf hg;obtain⟨o,a,q,t,ks⟩:=p;rw[Zf.enc_mk] at e ⊢;refine cE ?_;simp (maxSteps:=10^7) +contextual -implicitDefEqProofs only[go_sem,seval,ZlO,e];refine LO (α:=Nat) (fun i=>[(7,.d (J (i:Int)))]) (fun i=>[(1,.row 6 (((S.take i).filterMap Zc3).map Place.enc) true false)]) (fun i=>i≤S.length) (fun i=>S.length-i) 0 o_ ?_;intro i hi ih;by_cases aa:i<S.length
 ·obtain⟨x,hx⟩:=Zp aa;have hw:=Zh (k:=i) o_;have hm:=J5 (f:=Zc3) hx;have ab:((S.take i).filterMap Zc3).length≤i:=Ku (Kq _ _) (by simp;omega);have hr:(((S.take i).filterMap Zc3).length+1)*48≤140737488355328∧((S.take i).filterMap Zc3).length≤140737488355327:=o_
  obtain⟨q',t',⟨X,Y,W,H⟩⟩:=x;simp only[Zc3] at hm;by_cases ho:0≤q'
  ·rw[Kj ho] at hm;simp (maxSteps:=10^7) +contextual -implicitDefEqProofs only[go_sem,seval,hx,aa,hw,ho,hr];refine ih (i+1) _ o_ o_ ?_;simp (maxSteps:=10^7) +contextual -implicitDefEqProofs only[go_sem,seval,hm]
   first | rfl | (simp;done) | (simp;rfl)
  ·rw[Ke ho] at hm;simp (maxSteps:=10^7) +contextual -implicitDefEqProofs only[go_sem,seval,hx,aa,hw,ho,hr];refine ih (i+1) _ o_ o_ ?_;simp (maxSteps:=10^7) +contextual -implicitDefEqProofs only[go_sem,seval,hm]
   first | rfl | (simp;done) | (simp;rfl)
 ·have:i=S.length:=o_
  subst this;simp (maxSteps:=10^7) +contextual -implicitDefEqProofs only[go_sem,seval];simp
theorem Zi6 (kW kH:Int) (kP:List Pane) (p:Zf) (b:BT) (hp:p=b.plan) (hg:inB ⟨0,0,kW,kH⟩) (hf:Xy kP b kW kH=true) (hl:b.cnt≤1000):v_ 198 [(.d (.agg [J kW,J kH,.sl (kP.map Pane.enc)])),.d p.enc] []=some (.own 0,[.row 4 ((wst b 0 0 kW kH).map Box.enc) true false]):=by
 have e:=Uy kP b 0 0 kW kH hg hf hl;have hm:=ZmC b 0 0 kW kH (Zis hf);have hn:=ZdA b 0 0 kW kH;rw[← hp] at e;rw[← hm];clear hm;generalize sp b 0 0 kW kH=S at e hn ⊢;clear hp hf hg;obtain⟨o,a,q,t,ks⟩:=p;rw[Zf.enc_mk] at e ⊢;refine cE ?_;simp (maxSteps:=10^7) +contextual -implicitDefEqProofs only[go_sem,seval,ZlZ,e];refine LO (α:=Nat) (fun i=>[(7,.d (J (i:Int)))]) (fun i=>[(1,.row 4 (((S.take i).filterMap Zc4).map Box.enc) true false)]) (fun i=>i≤S.length) (fun i=>S.length-i) 0 o_ ?_;intro i hi ih;by_cases aa:i<S.length
 ·obtain⟨x,hx⟩:=Zp aa;have hw:=Zh (k:=i) o_;have hm:=J5 (f:=Zc4) hx;have ab:((S.take i).filterMap Zc4).length≤i:=Ku (Kq _ _) (by simp;omega);have hr:(((S.take i).filterMap Zc4).length+1)*32≤140737488355328∧((S.take i).filterMap Zc4).length≤140737488355327:=o_
  obtain⟨q',t',⟨X,Y,W,H⟩⟩:=x;simp only[Zc4] at hm;by_cases ho:q' < 0
  ·rw[Kj ho] at hm;simp (maxSteps:=10^7) +contextual -implicitDefEqProofs only[go_sem,seval,hx,aa,hw,ho,hr];refine ih (i+1) _ o_ o_ ?_;simp (maxSteps:=10^7) +contextual -implicitDefEqProofs only[go_sem,seval,hm]
   first | rfl | (simp;done) | (simp;rfl)
  ·rw[Ke ho] at hm;simp (maxSteps:=10^7) +contextual -implicitDefEqProofs only[go_sem,seval,hx,aa,hw,ho,hr];refine ih (i+1) _ o_ o_ ?_;simp (maxSteps:=10^7) +contextual -implicitDefEqProofs only[go_sem,seval,hm]
   first | rfl | (simp;done) | (simp;rfl)
 ·have:i=S.length:=o_
  subst this;simp (maxSteps:=10^7) +contextual -implicitDefEqProofs only[go_sem,seval];simp
theorem Zr4 (qL qW qH:Int) (qF:List Box) (kW kH:Int) (kP:List Pane) (p:Zf):v_ 202 [(.d (.agg [J qL,J qW,J qH,.sl (qF.map Box.enc)])),(.d (.agg [J kW,J kH,.sl (kP.map Pane.enc)])),.d p.enc] []=some ((.d (.bool (decide (VPc (Zb.mk qL qW qH qF)∧YY (Zb.mk qL qW qH qF) (Zt.mk kW kH kP) p)))),[]):=by
 have ev:=U3 kW kH kP p;by_cases hq:VPc (Zb.mk qL qW qH qF)
 ·by_cases hv:YO (Zt.mk kW kH kP) p=true
  ·by_cases hw:kW=qW
   ·by_cases hh:kH=qH
    ·subst hw;subst hh;have ep:=ZdD kW kH kP p;obtain⟨b,hb,ah,ai,aj,ad,af⟩:=QM hv;have ab:∀ c∈(Qt (Zt.mk kW kH kP) p).filterMap Q3,VB c.Box:=by
      rw[af,Yl];exact Zk4 (p:=p) ai ad
     have ae:((Qt (Zt.mk kW kH kP) p).filterMap Q3).length≤255:=Ku (Kq _ _) (JS _ _);have aa:YY ⟨qL,kW,kH,qF⟩ (Zt.mk kW kH kP) p↔∀ c∈(Qt (Zt.mk kW kH kP) p).filterMap Q3,Z3 qF c.Box:=by
      unfold YY;exact⟨fun h=>h.2.2.2,fun h=>⟨hv,rfl,rfl,h⟩⟩
     have ak:∀ f∈qF,VB f:=fun f hf=>(hq.2 f hf).1;have an:qF.length≤6:=hq.1.2.2.2.2.2.2;rw[hv] at ev;generalize hL:(Qt (Zt.mk kW kH kP) p).filterMap Q3=L at ep ab ae aa;clear hL af ah hb;obtain⟨o,a,n,t,ks⟩:=p;rw[Zf.enc_mk] at ev ep ⊢;refine cE ?_;simp (maxSteps:=10^7) +contextual -implicitDefEqProofs only[go_sem,seval,Wx,QT,hq,ev,ep];refine LO (α:=Nat) (fun i=>[(36,.d (J (i:Int)))]) (fun _=>[]) (fun i=>i≤L.length∧((∀ c∈L,Z3 qF c.Box)↔∀ c∈L.drop i,Z3 qF c.Box)) (fun i=>L.length-i) 0 ⟨o_,by simp⟩ ?_;intro i ⟨hi,hp⟩ ih;by_cases ag:i<L.length
     ·obtain⟨x,hx⟩:=Zp ag;rw[Zes hx (fun c=>Z3 qF c.Box)] at hp;have hw:=Zh (k:=i) o_;have al:=ab x (Kb hx);obtain⟨q',t',⟨X,Y,W,H⟩⟩:=x;have em:=Zhh qF X Y W H ak al o_;simp (maxSteps:=10^7) +contextual -implicitDefEqProofs only[go_sem,seval,hx,ag,hw,em];refine⟨fun h=>ZgH (fun h'=>h ((hp.1 (aa.1 h')).1)),fun h=>ih (i+1) _ ⟨o_,?_⟩ o_ ?_⟩
      ·rw[hp];exact⟨fun h'=>h'.2,fun h'=>⟨h,h'⟩⟩
      ·simp (maxSteps:=10^7) +contextual -implicitDefEqProofs only[go_sem,seval]
     ·have:i=L.length:=o_
      subst this;simp (maxSteps:=10^7) +contextual -implicitDefEqProofs only[go_sem,seval];exact ZyH (aa.2 (hp.2 (by simp)))
    ·subst hw;have hn:¬YY ⟨qL,kW,qH,qF⟩ (Zt.mk kW kH kP) p:=fun h=>hh h.2.2.1;obtain⟨o,a,n,t,ks⟩:=p;rw[hv] at ev;rw[Zf.enc_mk] at ev ⊢;refine cE ?_;simp (maxSteps:=10^7) +contextual -implicitDefEqProofs only[go_sem,seval,Wx,QT,hq,ev,hh,hn]
   ·have hn:¬YY (Zb.mk qL qW qH qF) (Zt.mk kW kH kP) p:=fun h=>hw h.2.1;obtain⟨o,a,n,t,ks⟩:=p;rw[hv] at ev;rw[Zf.enc_mk] at ev ⊢;refine cE ?_;simp (maxSteps:=10^7) +contextual -implicitDefEqProofs only[go_sem,seval,Wx,QT,hq,ev,hw,hn]
  ·have am:=(Lz _).mp hv;have hn:¬YY (Zb.mk qL qW qH qF) (Zt.mk kW kH kP) p:=fun h=>hv h.1;rw[am] at ev;obtain⟨o,a,n,t,ks⟩:=p;rw[Zf.enc_mk] at ev ⊢;refine cE ?_;simp (maxSteps:=10^7) +contextual -implicitDefEqProofs only[go_sem,seval,Wx,QT,hq,ev,hn]
 ·obtain⟨o,a,n,t,ks⟩:=p;rw[Zf.enc_mk] at ev ⊢;refine cE ?_;simp (maxSteps:=10^7) +contextual -implicitDefEqProofs only[go_sem,seval,Wx,QT,hq]
theorem Zi7 (qL qW qH:Int) (qF:List Box) (kW kH:Int) (kP:List Pane) (p:Zf) (al:∀ f∈qF,VB f) (ao:qF.length≤6) (hl:kP.length<4611686018427387904):v_ 194 [(.d (.agg [J qL,J qW,J qH,.sl (qF.map Box.enc)])),(.d (.agg [J kW,J kH,.sl (kP.map Pane.enc)])),.d p.enc] []=some ((.d (.bool (decide (YY (Zb.mk qL qW qH qF) (Zt.mk kW kH kP) p)))),[]):=by
 have ev:=Zha kW kH kP p hl;by_cases hv:YO (Zt.mk kW kH kP) p=true
 ·by_cases hw:kW=qW
  ·by_cases hh:kH=qH
   ·subst hw;subst hh;obtain⟨b,hb,ah,ai,ae,ab,aj⟩:=QM hv;have af:=ai;simp only[VW] at af;have ep:=Zi5 kW kH kP p b ah (by simp only[inB];omega) ab o_;have ad:∀ c∈plc b 0 0 kW kH,VB c.Box:=Zk4 (p:=p) ai ab;have ag:(plc b 0 0 kW kH).length≤255:=by
     rw[← Yl];exact Ku (Kq _ _) (by rw[UX];exact ae)
    have aa:YY ⟨qL,kW,kH,qF⟩ (Zt.mk kW kH kP) p↔∀ c∈plc b 0 0 kW kH,Z3 qF c.Box:=by
     unfold YY;rw[aj,Yl];exact⟨fun h=>h.2.2.2,fun h=>⟨hv,rfl,rfl,h⟩⟩
    rw[hv] at ev;generalize plc b 0 0 kW kH=L at ep ad ag aa;clear aj ah hb;obtain⟨o,a,n,t,ks⟩:=p;rw[Zf.enc_mk] at ev ep ⊢;refine cE ?_;simp (maxSteps:=10^7) +contextual -implicitDefEqProofs only[go_sem,seval,Js,ev,ep];refine LO (α:=Nat) (fun i=>[(8,.d (J (i:Int)))]) (fun _=>[]) (fun i=>i≤L.length∧((∀ c∈L,Z3 qF c.Box)↔∀ c∈L.drop i,Z3 qF c.Box)) (fun i=>L.length-i) 0 ⟨o_,by simp⟩ ?_;intro i ⟨hi,hp⟩ ih;by_cases ak:i<L.length
    ·obtain⟨x,hx⟩:=Zp ak;rw[Zes hx (fun c=>Z3 qF c.Box)] at hp;have hw:=Zh (k:=i) o_;have am:=ad x (Kb hx);obtain⟨q',t',⟨X,Y,W,H⟩⟩:=x;have em:=Zle qL kW kH qF X Y W H al am o_;simp (maxSteps:=10^7) +contextual -implicitDefEqProofs only[go_sem,seval,hx,ak,hw,em];refine⟨fun h=>ZgH (fun h'=>h ((hp.1 (aa.1 h')).1)),fun h=>ih (i+1) _ ⟨o_,?_⟩ o_ ?_⟩
     ·rw[hp];exact⟨fun h'=>h'.2,fun h'=>⟨h,h'⟩⟩
     ·simp (maxSteps:=10^7) +contextual -implicitDefEqProofs only[go_sem,seval]
    ·have:i=L.length:=o_
     subst this;simp (maxSteps:=10^7) +contextual -implicitDefEqProofs only[go_sem,seval];exact ZyH (aa.2 (hp.2 (by simp)))
   ·subst hw;have hn:¬YY ⟨qL,kW,qH,qF⟩ (Zt.mk kW kH kP) p:=fun h=>hh h.2.2.1;obtain⟨o,a,n,t,ks⟩:=p;rw[hv] at ev;rw[Zf.enc_mk] at ev ⊢;refine cE ?_;simp (maxSteps:=10^7) +contextual -implicitDefEqProofs only[go_sem,seval,Js,ev,hh,hn]
  ·have hn:¬YY (Zb.mk qL qW qH qF) (Zt.mk kW kH kP) p:=fun h=>hw h.2.1;obtain⟨o,a,n,t,ks⟩:=p;rw[hv] at ev;rw[Zf.enc_mk] at ev ⊢;refine cE ?_;simp (maxSteps:=10^7) +contextual -implicitDefEqProofs only[go_sem,seval,Js,ev,hw,hn]
 ·have an:=(Lz _).mp hv;have hn:¬YY (Zb.mk qL qW qH qF) (Zt.mk kW kH kP) p:=fun h=>hv h.1;rw[an] at ev;obtain⟨o,a,n,t,ks⟩:=p;rw[Zf.enc_mk] at ev ⊢;refine cE ?_;simp (maxSteps:=10^7) +contextual -implicitDefEqProofs only[go_sem,seval,Js,ev,hn]
theorem Zwk (qL qW qH:Int) (qF:List Box) (bX bY bW bH:Int) (label:Int) (hq:VPc (Zb.mk qL qW qH qF)) (hb:VB (Box.mk bX bY bW bH)) (hi:QE (Box.mk bX bY bW bH) ⟨0,0,qW,qH⟩) (h1:1≤label) (h2:label≤9999) :
  v_ 229 [(.d (.agg [J qL,J qW,J qH,.sl (qF.map Box.enc)])),(.d (.agg [J bX,J bY,J bW,J bH])),(.d (J label))] []=some (.agg [(.d (J label)),(.d (J bW)),(.d (J bH)),.own 0],[.row 4 ((qF.filterMap (Yt (Box.mk bX bY bW bH))).map Box.enc) true false]):=by
 have ae:=hq.1;simp only at ae;have n1:¬label<1:=o_
 have n2:¬9999<label:=o_
 have af:VB ⟨0,0,qW,qH⟩:=by simp only[VB];omega
 refine cE ?_;simp (maxSteps:=10^7) +contextual -implicitDefEqProofs only[go_sem,seval,ZrG,QT,Zaa,J6,hq,hb,hi,af,n1,n2];refine LO (α:=Nat) (fun i=>[(40,.d (J (i:Int)))]) (fun i=>[(3,.row 4 (((qF.take i).filterMap (Yt (Box.mk bX bY bW bH))).map Box.enc) true false)]) (fun i=>i≤qF.length) (fun i=>qF.length-i) 0 o_ ?_;intro i hk ih;by_cases aa:i<qF.length
 ·obtain⟨x,hx⟩:=Zp aa;have hw:=Zh (k:=i) o_;have hm:=J5 (f:=Yt (Box.mk bX bY bW bH)) hx;have ah:((qF.take i).filterMap (Yt (Box.mk bX bY bW bH))).length≤i:=Ku (Kq _ _) (by simp;omega);have hr:(((qF.take i).filterMap (Yt (Box.mk bX bY bW bH))).length+1)*32≤140737488355328∧((qF.take i).filterMap (Yt (Box.mk bX bY bW bH))).length≤140737488355327:=o_
  have ad:=(hq.2 x (Kb hx)).1;obtain⟨X,Y,W,H⟩:=x;have ab:=ad;have ag:=hb;simp only[VB] at ab ag;simp only[Yt] at hm;by_cases ho:XZ ⟨X,Y,W,H⟩ (Box.mk bX bY bW bH)
  ·rw[Kj ho] at hm;have w1:=wi (max X bX-bX) o_ o_;have w2:=wi (max Y bY-bY) o_ o_;simp (maxSteps:=10^7) +contextual -implicitDefEqProofs only[go_sem,seval,hx,aa,hw,Za9 X Y W H bX bY bW bH ad hb ho,hr,Zf8,w1,w2];refine ih (i+1) _ o_ o_ ?_;simp (maxSteps:=10^7) +contextual -implicitDefEqProofs only[go_sem,seval,hm,ZuH,Zf8]
   first | rfl | (simp;done) | (simp;rfl)
  ·rw[Ke ho] at hm;simp (maxSteps:=10^7) +contextual -implicitDefEqProofs only[go_sem,seval,hx,aa,hw,Zc6 X Y W H bX bY bW bH (fun hh=>ho hh.2.2),hr];refine ih (i+1) _ o_ o_ ?_;simp (maxSteps:=10^7) +contextual -implicitDefEqProofs only[go_sem,seval,hm]
   first | rfl | (simp;done) | (simp;rfl)
 ·have:i=qF.length:=o_
  subst this;simp (maxSteps:=10^7) +contextual -implicitDefEqProofs only[go_sem,seval];try simp
theorem Zwl (qL qW qH:Int) (qF:List Box) (bX bY bW bH:Int) (label:Int) (hf:∀ f∈qF,VB f) (hl:qF.length≤6) (hb:VB (Box.mk bX bY bW bH)) :
  v_ 224 [(.d (.agg [J qL,J qW,J qH,.sl (qF.map Box.enc)])),(.d (.agg [J bX,J bY,J bW,J bH])),(.d (J label))] []=some (.agg [(.d (J label)),(.d (J bW)),(.d (J bH)),.own 0],[.row 4 ((qF.filterMap (Yt (Box.mk bX bY bW bH))).map Box.enc) true false]):=by
 refine cE ?_;simp (maxSteps:=10^7) +contextual -implicitDefEqProofs only[go_sem,seval,ZrI];refine LO (α:=Nat) (fun i=>[(8,.d (J (i:Int)))]) (fun i=>[(4,.row 4 (((qF.take i).filterMap (Yt (Box.mk bX bY bW bH))).map Box.enc) true false)]) (fun i=>i≤qF.length) (fun i=>qF.length-i) 0 o_ ?_;intro i hk ih;by_cases aa:i<qF.length
 ·obtain⟨x,hx⟩:=Zp aa;have hw:=Zh (k:=i) o_;have hm:=J5 (f:=Yt (Box.mk bX bY bW bH)) hx;have af:((qF.take i).filterMap (Yt (Box.mk bX bY bW bH))).length≤i:=Ku (Kq _ _) (by simp;omega);have hr:(((qF.take i).filterMap (Yt (Box.mk bX bY bW bH))).length+1)*32≤140737488355328∧((qF.take i).filterMap (Yt (Box.mk bX bY bW bH))).length≤140737488355327:=o_
  have ab:=hf x (Kb hx);obtain⟨X,Y,W,H⟩:=x;have ad:=ab;have ae:=hb;simp only[VB] at ad ae;simp only[Yt] at hm;by_cases ho:XZ ⟨X,Y,W,H⟩ (Box.mk bX bY bW bH)
  ·rw[Kj ho] at hm;have w1:=wi (max X bX-bX) o_ o_;have w2:=wi (max Y bY-bY) o_ o_;simp (maxSteps:=10^7) +contextual -implicitDefEqProofs only[go_sem,seval,hx,aa,hw,Zk6 X Y W H bX bY bW bH ab hb ho,hr,Zf8,w1,w2];refine ih (i+1) _ o_ o_ ?_;simp (maxSteps:=10^7) +contextual -implicitDefEqProofs only[go_sem,seval,hm,ZuH,Zf8]
   first | rfl | (simp;done) | (simp;rfl)
  ·rw[Ke ho] at hm;simp (maxSteps:=10^7) +contextual -implicitDefEqProofs only[go_sem,seval,hx,aa,hw,ZnP X Y W H bX bY bW bH ab hb ho,hr];refine ih (i+1) _ o_ o_ ?_;simp (maxSteps:=10^7) +contextual -implicitDefEqProofs only[go_sem,seval,hm]
   first | rfl | (simp;done) | (simp;rfl)
 ·have:i=qF.length:=o_
  subst this;simp (maxSteps:=10^7) +contextual -implicitDefEqProofs only[go_sem,seval];try simp
theorem Zge (kW kH:Int) (kP:List Pane) (p:Zf) (Zj:Int):v_ 228 [(.d (.agg [J kW,J kH,.sl (kP.map Pane.enc)])),.d p.enc,(.d (J Zj))] []=some (.own 0,[.row 4 ((Q7 (Zt.mk kW kH kP) p Zj).map Box.enc) true false]):=by
 have hv:=Zi4 kW kH kP p;have hn:((Qt (Zt.mk kW kH kP) p).filterMap XM).length≤255:=Ku (Kq _ _) (JS (Zt.mk kW kH kP) p);unfold Q7;generalize (Qt (Zt.mk kW kH kP) p).filterMap XM=ps at hv hn ⊢;obtain⟨o,a,q,t,ks⟩:=p;rw[Zf.enc_mk] at hv ⊢;refine cE ?_;simp (maxSteps:=10^7) +contextual -implicitDefEqProofs only[go_sem,seval,ZhZ,hv];refine LO (α:=Nat) (fun k=>[(14,.d (J (k:Int)))]) (fun k=>[(1,.row 4 (((ps.take k).filterMap (WL Zj)).map Box.enc) true false)]) (fun k=>k≤ps.length) (fun k=>ps.length-k) 0 o_ ?_;intro k hk ih;by_cases aa:k<ps.length
 ·obtain⟨x,hx⟩:=Zp aa;have hw:=Zh (k:=k) o_;have hm:=J5 (f:=WL Zj) hx;have ab:((ps.take k).filterMap (WL Zj)).length≤k:=Ku (Kq _ _) (by simp;omega);have hr:(((ps.take k).filterMap (WL Zj)).length+1)*32≤140737488355328∧((ps.take k).filterMap (WL Zj)).length≤140737488355327:=o_
  obtain⟨X,Y,W,H⟩:=x;simp only[WL] at hm;by_cases ho:Zj≤W∧Zj≤H
  ·rw[Kj ho] at hm;simp (maxSteps:=10^7) +contextual -implicitDefEqProofs only[go_sem,seval,hx,aa,hw,ho,hr];refine ih (k+1) _ o_ o_ ?_;simp (maxSteps:=10^7) +contextual -implicitDefEqProofs only[go_sem,seval,hm]
   first | rfl | (simp;done) | (simp;rfl)
  ·rw[Ke ho] at hm;simp (maxSteps:=10^7) +contextual -implicitDefEqProofs only[go_sem,seval,hx,aa,hw,ho,hr];refine ih (k+1) _ o_ o_ ?_;simp (maxSteps:=10^7) +contextual -implicitDefEqProofs only[go_sem,seval,hm]
   first | rfl | (simp;done) | (simp;rfl)
 ·have:k=ps.length:=o_
  subst this;simp (maxSteps:=10^7) +contextual -implicitDefEqProofs only[go_sem,seval];simp
theorem Zlf (qL qW qH:Int) (qF:List Box) (kW kH:Int) (kP:List Pane) (p:Zf) (Zj label:Int) (hq:VPc (Zb.mk qL qW qH qF)) (hv:YO (Zt.mk kW kH kP) p=true) (hW:kW=qW) (hH:kH=qH) (h1:1≤label) (h2:label≤10000)
  (hk:(Q7 (Zt.mk kW kH kP) p Zj).length≤10000-label):v_ 203 [(.d (.agg [J qL,J qW,J qH,.sl (qF.map Box.enc)])),(.d (.agg [J kW,J kH,.sl (kP.map Pane.enc)])),.d p.enc,(.d (J Zj)),(.d (J label))] [] =
  some (.tup [.own 0,(.d (.bool true))],[.tree 4 4 ((Uj (Zb.mk qL qW qH qF) label (Q7 (Zt.mk kW kH kP) p Zj)).map Zb.enc) none]):=by
 have ek:=Zge kW kH kP p Zj;have aa:∀ b∈Q7 (Zt.mk kW kH kP) p Zj,VB b∧QE b ⟨0,0,qW,qH⟩:=by
  intro b hb;have:=ZqD (Zj:=Zj) hv b hb;rw[← hW,← hH];exact this
 have hn:=Zit (Zt.mk kW kH kP) p Zj;generalize Q7 (Zt.mk kW kH kP) p Zj=L at ek aa hn hk ⊢;clear hv;have w0:=wi (10000-label) o_ o_;have n0:¬(10000-label<(L.length:Int)):=o_
 obtain⟨o,a,n,t,ks⟩:=p;rw[Zf.enc_mk] at ek ⊢;refine cE ?_;simp (maxSteps:=10^7) +contextual -implicitDefEqProofs only[go_sem,seval,ZaP,ek,w0,n0];refine LO (α:=Nat) (fun i=>[(27,.d (J (i:Int)))]) (fun i=>[(1,.tree 4 4 ((Uj (Zb.mk qL qW qH qF) label (L.take i)).map Zb.enc) none)]) (fun i=>i≤L.length) (fun i=>L.length-i) 0 o_ ?_;intro i hi ih;by_cases ab:i<L.length
 ·obtain⟨x,hx⟩:=Zp ab;have hw:=Zh (k:=i) o_;have hm:=ZAh (Zb.mk qL qW qH qF) label hx;have hl:(Uj (Zb.mk qL qW qH qF) label (L.take i)).length=i:=by rw[ZbY];simp;omega
  have hr:(i+1)*48≤140737488355328∧i≤140737488355327:=o_
  have ad:=aa x (Kb hx);have w1:=wi (label+(i:Int)) o_ o_;obtain⟨X,Y,W,H⟩:=x;have hc:=Zwk qL qW qH qF X Y W H (label+(i:Int)) hq ad.1 ad.2 o_ o_;have z6:=aF (l:=(ZmE (Zb.mk qL qW qH qF) ⟨X,Y,W,H⟩ (label+(i:Int))).Flaws) (g:=Box.enc) fun _=>rfl;simp only[ZmE] at z6;simp (maxSteps:=10^7) +contextual -implicitDefEqProofs only[go_sem,seval,hx,ab,hw,w1,hc,hl,hr,z6];refine ih (i+1) _ o_ o_ ?_;simp (maxSteps:=10^7) +contextual -implicitDefEqProofs only[go_sem,seval,hm,ZmE]
  first | rfl | (simp;done) | (simp;rfl)
 ·have:i=L.length:=o_
  subst this;simp (maxSteps:=10^7) +contextual -implicitDefEqProofs only[go_sem,seval];try simp
theorem ZmO (qL qW qH:Int) (qF:List Box) (kW kH:Int) (kP:List Pane) (p:Zf) (Zj label:Int) (h1:1≤label) (h2:label≤10000)
  (hk:¬(Q7 (Zt.mk kW kH kP) p Zj).length≤10000-label):v_ 203 [(.d (.agg [J qL,J qW,J qH,.sl (qF.map Box.enc)])),(.d (.agg [J kW,J kH,.sl (kP.map Pane.enc)])),.d p.enc,(.d (J Zj)),(.d (J label))] [] =
  some (.tup [.own 0,(.d (.bool false))],[.row 4 [] true false]):=by
 have ek:=Zge kW kH kP p Zj;generalize Q7 (Zt.mk kW kH kP) p Zj=L at ek hk ⊢;have w0:=wi (10000-label) o_ o_;have n0:10000-label<(L.length:Int):=o_
 obtain⟨o,a,n,t,ks⟩:=p;rw[Zf.enc_mk] at ek ⊢;refine cE ?_;simp (maxSteps:=10^7) +contextual -implicitDefEqProofs only[go_sem,seval,ZaP,ek,w0,n0]
theorem Zb6 (bX bY bW bH:Int) (Zj:Int):v_ 199 [(.d (.agg [J bX,J bY,J bW,J bH])),(.d (J Zj))] []=some ((.d (.bool (decide (Zj≤bW∧Zj≤bH)))),[]):=by
 refine cE ?_;simp (maxSteps:=10^7) +contextual -implicitDefEqProofs only[go_sem,seval,Zjh]
theorem Zlg (bX bY bW bH:Int) (hb:VB (Box.mk bX bY bW bH)):v_ 151 [(.d (.agg [J bX,J bY,J bW,J bH]))] []=some ((.d (J (bW*bH))),[]):=by
 have h:=UY hb;simp only at h;have w:=wi (bW*bH) o_ o_;refine cE ?_;simp (maxSteps:=10^7) +contextual -implicitDefEqProofs only[go_sem,seval,Zn5,w]
theorem Zr5 (kW kH:Int) (kP:List Pane) (p:Zf) (Zj:Int) (hv:YO (Zt.mk kW kH kP) p=true) (h1:1≤Zj) (h2:Zj≤200):v_ 158 [(.d (.agg [J kW,J kH,.sl (kP.map Pane.enc)])),.d p.enc,(.d (J Zj))] [] =
  some ((.d (J (XS (Zc5 (Zt.mk kW kH kP) p Zj)))),[]):=by
 have ev:=U3 kW kH kP p;rw[hv] at ev;have ep:=Zi4 kW kH kP p;have aa:=Zbq hv;have ad:((Qt (Zt.mk kW kH kP) p).filterMap XM).length≤255:=Ku (Kq _ _) (JS _ _);unfold Zc5;generalize (Qt (Zt.mk kW kH kP) p).filterMap XM=L at ep aa ad ⊢;clear hv;have n1:¬Zj<1:=o_
 have n2:¬200<Zj:=o_
 obtain⟨o,a,n,t,ks⟩:=p;rw[Zf.enc_mk] at ev ep ⊢;refine cE ?_;simp (maxSteps:=10^7) +contextual -implicitDefEqProofs only[go_sem,seval,ZlF,ev,ep,n1,n2];refine LO (α:=Nat) (fun i=>[(26,.d (J (i:Int))),(7,.d (J (XS ((L.take i).filterMap (WM Zj)))))]) (fun _=>[]) (fun i=>i≤L.length) (fun i=>L.length-i) 0 o_ ?_;intro i hi ih;by_cases ae:i<L.length
 ·obtain⟨x,hx⟩:=Zp ae;have hw:=Zh (k:=i) o_;have hm:=J5 (f:=WM Zj) hx;have af:=aa x (Kb hx);have ha:=Zet (l:=(L.take i).filterMap (WM Zj)) (fun c hc=>by
   obtain⟨d,hd,ab⟩:=Ls.1 hc;unfold WM at ab;split at ab
   ·cases ab;exact aa c (KY hd)
   ·cases ab)
  have ah:((L.take i).filterMap (WM Zj)).length≤i:=Ku (Kq _ _) (by simp;omega);have ag:=UY af;obtain⟨X,Y,W,H⟩:=x;simp only at ag;have w1:=wi (XS ((L.take i).filterMap (WM Zj))+W*H) o_ o_;simp only[WM] at hm;by_cases ho:W<Zj∨H<Zj
  ·rw[Kj ho] at hm;simp (maxSteps:=10^7) +contextual -implicitDefEqProofs only[go_sem,seval,hx,ae,hw,ho,Zlg X Y W H af,w1];refine ih (i+1) _ o_ o_ ?_;simp (maxSteps:=10^7) +contextual -implicitDefEqProofs only[go_sem,seval,hm,Za8,Option.toList,XS]
   first | rfl | (simp;done) | (simp;rfl)
  ·rw[Ke ho] at hm;simp (maxSteps:=10^7) +contextual -implicitDefEqProofs only[go_sem,seval,hx,ae,hw,ho];refine ih (i+1) _ o_ o_ ?_;simp (maxSteps:=10^7) +contextual -implicitDefEqProofs only[go_sem,seval,hm]
   first | rfl | (simp;done) | (simp;rfl)
 ·have:i=L.length:=o_
  subst this;simp (maxSteps:=10^7) +contextual -implicitDefEqProofs only[go_sem,seval];try simp
theorem Zr6 (qL qW qH:Int) (qF:List Box) (kW kH:Int) (kP:List Pane) (p:Zf) (Zj label:Int) (hq:VPc (Zb.mk qL qW qH qF)) (hv:YO (Zt.mk kW kH kP) p=true) (h1:1≤label) (h2:label≤10000) :
  v_ 195 [(.d (.agg [J qL,J qW,J qH,.sl (qF.map Box.enc)])),(.d (.agg [J kW,J kH,.sl (kP.map Pane.enc)])),.d p.enc,(.d (J Zj)),(.d (J label))] [] =
  some (.own 0,[.row 4 ((Uj (Zb.mk qL qW qH qF) label (Q7 (Zt.mk kW kH kP) p Zj)).map Zb.enc) true false]):=by
 obtain⟨b,hb,ah,ai,ak,ae,aj⟩:=QM hv;have af:=ai;simp only[VW] at af;have ep:=Zi6 kW kH kP p b ah (by simp only[inB];omega) ae o_;have ab:=Zbq hv;have ad:((Qt (Zt.mk kW kH kP) p).filterMap XM).length≤255:=Ku (Kq _ _) (JS _ _);unfold Q7;rw[aj,Zer] at ab ad ⊢;have al:∀ f∈qF,VB f:=fun f hf=>(hq.2 f hf).1;have am:qF.length≤6:=hq.1.2.2.2.2.2.2;have aa:∀ i,((wst b 0 0 kW kH).take i).length≤255:=fun i=>Ku (List.length_take_le' _ _) ad;generalize wst b 0 0 kW kH=L at ep ab ad aa ⊢;clear aj ah hb hv ae ai af;obtain⟨o,a,n,t,ks⟩:=p;rw[Zf.enc_mk] at ep ⊢;refine cE ?_
 simp (maxSteps:=10^7) +contextual -implicitDefEqProofs only[go_sem,seval,ZlH,ep];refine LO (α:=Nat) (fun i=>[(13,.d (J (i:Int)))]) (fun i=>[(1,.row 4 ((Uj (Zb.mk qL qW qH qF) label ((L.take i).filterMap (WL Zj))).map Zb.enc) true false)]) (fun i=>i≤L.length) (fun i=>L.length-i) 0 o_ ?_;intro i hi ih;by_cases ag:i<L.length
 ·obtain⟨x,hx⟩:=Zp ag;have hw:=Zh (k:=i) o_;have hm:=J5 (f:=WL Zj) hx;have ap:((L.take i).filterMap (WL Zj)).length≤255:=Ku (Kq _ _) (aa i);have hl:=ZbY (Zb.mk qL qW qH qF) label ((L.take i).filterMap (WL Zj));have hr:(((L.take i).filterMap (WL Zj)).length+1)*48≤140737488355328∧((L.take i).filterMap (WL Zj)).length≤140737488355327:=o_
  have w1:=wi (label+(((L.take i).filterMap (WL Zj)).length:Int)) o_ o_;have an:=ab x (Kb hx);have ao:=fun y=>Zg8 (Zb.mk qL qW qH qF) label ((L.take i).filterMap (WL Zj)) [y];obtain⟨X,Y,W,H⟩:=x;simp only[WL] at hm;have hc:=Zwl qL qW qH qF X Y W H (label+(((L.take i).filterMap (WL Zj)).length:Int)) al am an;by_cases ho:Zj≤W∧Zj≤H
  ·rw[Kj ho] at hm;simp (maxSteps:=10^7) +contextual -implicitDefEqProofs only[go_sem,seval,hx,ag,hw,Zb6,ho,hl,w1,hc,hr];refine ih (i+1) _ o_ o_ ?_;simp (maxSteps:=10^7) +contextual -implicitDefEqProofs only[go_sem,seval,hm,Option.toList,ao,Uj,ZmE]
   first | rfl | (simp;done) | (simp;rfl)
  ·rw[Ke ho] at hm;simp (maxSteps:=10^7) +contextual -implicitDefEqProofs only[go_sem,seval,hx,ag,hw,Zb6,ho];refine ih (i+1) _ o_ o_ ?_;simp (maxSteps:=10^7) +contextual -implicitDefEqProofs only[go_sem,seval,hm]
   first | rfl | (simp;done) | (simp;rfl)
 ·have:i=L.length:=o_
  subst this;simp (maxSteps:=10^7) +contextual -implicitDefEqProofs only[go_sem,seval];try simp
end Go.Proofs.YtfnegoimdljanaaGreatDoor
