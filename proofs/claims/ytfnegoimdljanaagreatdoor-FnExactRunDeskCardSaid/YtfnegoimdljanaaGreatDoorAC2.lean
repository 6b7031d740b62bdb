/- Own text. -/
import Derived.Test.YtfnegoimdljanaaGreatDoorACode
import Derived.Test.YtfnegoimdljanaaGreatDoorAC1
import Derived.Test.YtfnegoimdljanaaGreatDoorAbsOkD
namespace Go.Proofs.YtfnegoimdljanaaGreatDoor
open Go Go.Abs Go.Abs.E Go.Abs.L
set_option linter.unusedSimpArgs false
set_option linter.unusedVariables false
set_option maxRecDepth 20000
set_option maxHeartbeats 4000000
theorem XV (ps:List Pane):∀ (b:BT) (gX gY gW gH:Int) (xs:List D) (ex:Bool),inB (Box.mk gX gY gW gH)→XN ps b gW gH=true→xs.length+b.cnt≤1000 →
  Zd Xs Ms 230 [.own 0,.d b.plan.enc,(.d (.agg [J gX,J gY,J gW,J gH]))] [.row 9 xs ex false]=some (.own 1,[.gone,.row 9 (xs++(pt b gX gY gW gH).map Part.enc) false false])
 | .waste,gX,gY,gW,gH,xs,ex,hg,hf,hl=>by
  simp only[BT.cnt] at hl;have h1:(xs.length+1)*88≤140737488355328∧xs.length≤140737488355327:=by omega
  simp only[BT.plan,Ze.enc_mk,pt];refine cE ?_;simp +contextual -implicitDefEqProofs only[go_sem,seval,XP,WD,h1]
 | .pane i t,gX,gY,gW,gH,xs,ex,hg,hf,hl=>by
  simp only[BT.cnt] at hl;have h1:(xs.length+1)*88≤140737488355328∧xs.length≤140737488355327:=by omega
  simp only[BT.plan,Ze.enc_mk,pt];refine cE ?_;simp +contextual -implicitDefEqProofs only[go_sem,seval,XP,WD,h1]
 | .cut d a l r,gX,gY,gW,gH,xs,ex,hg,hf,hl=>by
  simp only[BT.cnt] at hl;have h1:(xs.length+1)*88≤140737488355328∧xs.length≤140737488355327:=by omega
  simp only[inB] at hg;simp only[BT.plan,Ze.enc_mk];cases d with
  | true=>
   simp only[XN,Kf,Ko,Km] at hf;have e0:=Zcc 2 a 0 false [l.plan.enc,r.plan.enc] gX gY gW gH rfl ⟨by omega,by omega⟩ ⟨by omega,by omega⟩;have e1:=XV ps l gX gY a gH (xs++[.agg [J 2,J a,J 0,.bool false,.sl [l.plan.enc,r.plan.enc],J gX,J gY,J gW,J gH]]) false (by simp only[inB];omega) hf.1.2 (by simp only[Kq,Kl,KQ];omega);have e2:=XV ps r (gX+a) gY (gW-a) gH (xs++[.agg [J 2,J a,J 0,.bool false,.sl [l.plan.enc,r.plan.enc],J gX,J gY,J gW,J gH]]++(pt l gX gY a gH).map Part.enc) false (by simp only[inB];omega) hf.2 (by simp only[Kq,Kl,KQ,KC,Jx];omega)
   refine cE ?_;simp +contextual -implicitDefEqProofs only[go_sem,seval,XP,WD,h1,Qb,e0,e1,e2];simp[pt,Qb,BT.plan,Part.enc_mk]
  | false=>
   simp only[XN,Kf,Ko,Ka,Kn] at hf;have e0:=JB 3 a 0 false [l.plan.enc,r.plan.enc] gX gY gW gH (by decide) ⟨by omega,by omega⟩ ⟨by omega,by omega⟩;have e1:=XV ps l gX gY gW a (xs++[.agg [J 3,J a,J 0,.bool false,.sl [l.plan.enc,r.plan.enc],J gX,J gY,J gW,J gH]]) false (by simp only[inB];omega) hf.1.2 (by simp only[Kq,Kl,KQ];omega);have e2:=XV ps r gX (gY+a) gW (gH-a) (xs++[.agg [J 3,J a,J 0,.bool false,.sl [l.plan.enc,r.plan.enc],J gX,J gY,J gW,J gH]]++(pt l gX gY gW a).map Part.enc) false (by simp only[inB];omega) hf.2 (by simp only[Kq,Kl,KQ,KC,Jx];omega)
   refine cE ?_;simp +contextual -implicitDefEqProofs only[go_sem,seval,XP,WD,h1,Qb,e0,e1,e2];simp[pt,Qb,BT.plan,Part.enc_mk]
theorem Zru (ps:List Pane):∀ (b:BT) (gX gY gW gH:Int),inB (Box.mk gX gY gW gH)→XN ps b gW gH=true→b.cnt≤1000 →
  Zd Xs Ms 230 [.nil,.d b.plan.enc,(.d (.agg [J gX,J gY,J gW,J gH]))] []=some (.own 0,[.row 9 ((pt b gX gY gW gH).map Part.enc) false false])
 | .waste,gX,gY,gW,gH,hg,hf,hl=>by
  have h1:1*88≤ZM∧1≤ZM:=by unfold ZM;omega
  simp only[BT.plan,Ze.enc_mk,pt];refine cE ?_;simp +contextual -implicitDefEqProofs only[go_sem,seval,XP,WD,h1]
 | .pane i t,gX,gY,gW,gH,hg,hf,hl=>by
  have h1:1*88≤ZM∧1≤ZM:=by unfold ZM;omega
  simp only[BT.plan,Ze.enc_mk,pt];refine cE ?_;simp +contextual -implicitDefEqProofs only[go_sem,seval,XP,WD,h1]
 | .cut d a l r,gX,gY,gW,gH,hg,hf,hl=>by
  simp only[BT.cnt] at hl;have h1:1*88≤ZM∧1≤ZM:=by unfold ZM;omega
  simp only[inB] at hg;simp only[BT.plan,Ze.enc_mk];cases d with
  | true=>
   simp only[XN,Kf,Ko,Km] at hf;have e0:=Zcc 2 a 0 false [l.plan.enc,r.plan.enc] gX gY gW gH rfl ⟨by omega,by omega⟩ ⟨by omega,by omega⟩;have e1:=XV ps l gX gY a gH [.agg [J 2,J a,J 0,.bool false,.sl [l.plan.enc,r.plan.enc],J gX,J gY,J gW,J gH]] false (by simp only[inB];omega) hf.1.2 (by simp only[Kq,Kl,KQ];omega);have e2:=XV ps r (gX+a) gY (gW-a) gH (.agg [J 2,J a,J 0,.bool false,.sl [l.plan.enc,r.plan.enc],J gX,J gY,J gW,J gH] :: (pt l gX gY a gH).map Part.enc) false (by simp only[inB];omega) hf.2 (by simp only[Kq,Kl,KQ,KC,Jx];omega)
   refine cE ?_;simp +contextual -implicitDefEqProofs only[go_sem,seval,XP,WD,h1,Qb,e0,e1,e2];simp[pt,Qb,BT.plan,Part.enc_mk]
  | false=>
   simp only[XN,Kf,Ko,Ka,Kn] at hf;have e0:=JB 3 a 0 false [l.plan.enc,r.plan.enc] gX gY gW gH (by decide) ⟨by omega,by omega⟩ ⟨by omega,by omega⟩;have e1:=XV ps l gX gY gW a [.agg [J 3,J a,J 0,.bool false,.sl [l.plan.enc,r.plan.enc],J gX,J gY,J gW,J gH]] false (by simp only[inB];omega) hf.1.2 (by simp only[Kq,Kl,KQ];omega);have e2:=XV ps r gX (gY+a) gW (gH-a) (.agg [J 3,J a,J 0,.bool false,.sl [l.plan.enc,r.plan.enc],J gX,J gY,J gW,J gH] :: (pt l gX gY gW a).map Part.enc) false (by simp only[inB];omega) hf.2 (by simp only[Kq,Kl,KQ,KC,Jx];omega)
   refine cE ?_;simp +contextual -implicitDefEqProofs only[go_sem,seval,XP,WD,h1,Qb,e0,e1,e2];simp[pt,Qb,BT.plan,Part.enc_mk]
theorem Zma (kW kH:Int) (kP:List Pane) (p:Ze):Zd Xs Ms 204 [(.d (.agg [J kW,J kH,.sl (kP.map Pane.enc)])),.d p.enc] []=some (.own 0,[.row 9 ((Qs (Zw.mk kW kH kP) p).map Part.enc) (!Ve (Zw.mk kW kH kP) p) false]):=by
 have hv:=JC kW kH kP p;unfold Ve at hv;unfold Qs Ve;cases hb:QU p with
 | none=>
  rw[hb] at hv;obtain⟨o,a,q,t,ks⟩:=p;rw[Ze.enc_mk] at hv ⊢;refine cE ?_;simp +contextual -implicitDefEqProofs only[go_sem,seval,Zb4,hv];try rfl
 | some b=>
  have hp:=Ua hb;rw[hb] at hv;dsimp only at hv ⊢;by_cases hh:(decide (VW (Zw.mk kW kH kP))&&decide (b.cnt≤255)&&XN kP b kW kH)=true
  ·have aa:=hh;simp only[Kf,Ko] at aa;have hw:=aa.1.1;simp only[VW] at hw;have ab:=Zru kP b 0 0 kW kH (by simp only[inB];omega) aa.2 (by omega);rw[← hp] at ab;rw[hh] at hv ⊢;obtain⟨o,a,q,t,ks⟩:=p;rw[Ze.enc_mk] at hv ab ⊢;refine cE ?_;simp +contextual -implicitDefEqProofs only[go_sem,seval,Zb4,ZcG,hv,ab];try rfl
  ·have hf:=(LD _).mp hh;rw[hf] at hv ⊢;obtain⟨o,a,q,t,ks⟩:=p;rw[Ze.enc_mk] at hv ⊢;refine cE ?_;simp +contextual -implicitDefEqProofs only[go_sem,seval,Zb4,hv];try rfl
theorem ZaJ (k:Zw) (p:Ze):(Qs k p).length≤255:=by
 unfold Qs;split
 ·split
  ·rename_i h;simp only[Kf,Ko] at h;rw[Jx];exact h.1.2
  ·simp
 ·simp
theorem Zfw (kW kH:Int) (kP:List Pane) (p:Ze):Zd Xs Ms 155 [(.d (.agg [J kW,J kH,.sl (kP.map Pane.enc)])),.d p.enc] []=some (.own 0,[.row 6 (((Qs (Zw.mk kW kH kP) p).filterMap Xi).map Place.enc) true false]):=by
 have hv:=Zma kW kH kP p;have hn:=ZaJ (Zw.mk kW kH kP) p;generalize (!Ve (Zw.mk kW kH kP) p)=e at hv;generalize Qs (Zw.mk kW kH kP) p=ps at hv hn ⊢;obtain⟨o,a,q,t,ks⟩:=p;rw[Ze.enc_mk] at hv ⊢;refine cE ?_;simp +contextual -implicitDefEqProofs only[go_sem,seval,Zhj,hv];refine LO (α:=Nat) (fun k=>[(12,.d (J (k:Int)))]) (fun k=>[(1,.row 6 (((ps.take k).filterMap Xi).map Place.enc) true false)]) (fun k=>k≤ps.length) (fun k=>ps.length-k) 0 (by omega) ?_;intro k hk ih;by_cases aa:k<ps.length
 ·obtain⟨x,hx⟩:=Zp aa;have hw:=Zg (k:=k) (by omega);have hm:=Za7 (f:=Xi) hx;have ab:((ps.take k).filterMap Xi).length≤k:=Kx (Kr _ _) (by simp;omega);have hr:(((ps.take k).filterMap Xi).length+1)*48≤140737488355328∧((ps.take k).filterMap Xi).length≤140737488355327:=by omega
  obtain⟨⟨o',a',q',t',ad⟩,⟨X,Y,W,H⟩⟩:=x;simp only[Xi] at hm;by_cases ho:o'=1
  ·rw[Kg ho] at hm;simp +contextual -implicitDefEqProofs only[go_sem,seval,hx,aa,hw,ho,hr];refine ih (k+1) _ (by omega) (by omega) ?_;simp +contextual -implicitDefEqProofs only[go_sem,seval,hm]
   first | rfl | (simp;done) | (simp;rfl)
  ·rw[Kd ho] at hm;simp +contextual -implicitDefEqProofs only[go_sem,seval,hx,aa,hw,ho,hr];refine ih (k+1) _ (by omega) (by omega) ?_;simp +contextual -implicitDefEqProofs only[go_sem,seval,hm]
   first | rfl | (simp;done) | (simp;rfl)
 ·have:k=ps.length:=by omega
  subst this;simp +contextual -implicitDefEqProofs only[go_sem,seval];simp
theorem ZkF (kW kH:Int) (kP:List Pane) (p:Ze):Zd Xs Ms 207 [(.d (.agg [J kW,J kH,.sl (kP.map Pane.enc)])),.d p.enc] []=some (.own 0,[.row 4 (((Qs (Zw.mk kW kH kP) p).filterMap X4).map Box.enc) true false]):=by
 have hv:=Zma kW kH kP p;have hn:=ZaJ (Zw.mk kW kH kP) p;generalize (!Ve (Zw.mk kW kH kP) p)=e at hv;generalize Qs (Zw.mk kW kH kP) p=ps at hv hn ⊢;obtain⟨o,a,q,t,ks⟩:=p;rw[Ze.enc_mk] at hv ⊢;refine cE ?_;simp +contextual -implicitDefEqProofs only[go_sem,seval,Zhf,hv];refine LO (α:=Nat) (fun k=>[(12,.d (J (k:Int)))]) (fun k=>[(1,.row 4 (((ps.take k).filterMap X4).map Box.enc) true false)]) (fun k=>k≤ps.length) (fun k=>ps.length-k) 0 (by omega) ?_;intro k hk ih;by_cases aa:k<ps.length
 ·obtain⟨x,hx⟩:=Zp aa;have hw:=Zg (k:=k) (by omega);have hm:=Za7 (f:=X4) hx;have ab:((ps.take k).filterMap X4).length≤k:=Kx (Kr _ _) (by simp;omega);have hr:(((ps.take k).filterMap X4).length+1)*32≤140737488355328∧((ps.take k).filterMap X4).length≤140737488355327:=by omega
  obtain⟨⟨o',a',q',t',ad⟩,⟨X,Y,W,H⟩⟩:=x;simp only[X4] at hm;by_cases ho:o'=0
  ·rw[Kg ho] at hm;simp +contextual -implicitDefEqProofs only[go_sem,seval,hx,aa,hw,ho,hr];refine ih (k+1) _ (by omega) (by omega) ?_;simp +contextual -implicitDefEqProofs only[go_sem,seval,hm]
   first | rfl | (simp;done) | (simp;rfl)
  ·rw[Kd ho] at hm;simp +contextual -implicitDefEqProofs only[go_sem,seval,hx,aa,hw,ho,hr];refine ih (k+1) _ (by omega) (by omega) ?_;simp +contextual -implicitDefEqProofs only[go_sem,seval,hm]
   first | rfl | (simp;done) | (simp;rfl)
 ·have:k=ps.length:=by omega
  subst this;simp +contextual -implicitDefEqProofs only[go_sem,seval];simp
theorem Jl (ps:List Pane):∀ (b:BT) (gX gY gW gH:Int),inB (Box.mk gX gY gW gH)→XN ps b gW gH=true→b.cnt≤1000 →
  Zd Xs Ms 227 [.d b.plan.enc,(.d (.agg [J gX,J gY,J gW,J gH]))] []=some (.own 0,[.row 6 ((sp b gX gY gW gH).map Place.enc) true false])
 | .waste,gX,gY,gW,gH,hg,hf,hl=>by
  simp only[BT.plan,Ze.enc_mk,sp];refine cE ?_;simp +contextual -implicitDefEqProofs only[go_sem,seval,ZaQ];try rfl
 | .pane i t,gX,gY,gW,gH,hg,hf,hl=>by
  simp only[BT.plan,Ze.enc_mk,sp];refine cE ?_;simp +contextual -implicitDefEqProofs only[go_sem,seval,ZaQ];try rfl
 | .cut d a l r,gX,gY,gW,gH,hg,hf,hl=>by
  simp only[BT.cnt] at hl;simp only[inB] at hg;simp only[BT.plan,Ze.enc_mk];cases d with
  | true=>
   simp only[XN,Kf,Ko,Km] at hf;have w1:=wi (gX+a) (by omega) (by omega);have w2:=wi (gW-a) (by omega) (by omega);have l1:=Zfr l gX gY a gH;have l2:=Zfr r (gX+a) gY (gW-a) gH;have e1:=Jl ps l gX gY a gH (by simp only[inB];omega) hf.1.2 (by omega);have e2:=Jl ps r (gX+a) gY (gW-a) gH (by simp only[inB];omega) hf.2 (by omega);have h1:((sp l gX gY a gH).length+(sp r (gX+a) gY (gW-a) gH).length)*48≤140737488355328∧(sp l gX gY a gH).length+(sp r (gX+a) gY (gW-a) gH).length≤140737488355328:=by omega
   refine cE ?_;simp +contextual -implicitDefEqProofs only[go_sem,seval,ZaQ,Qb,w1,w2,h1,e1,e2];simp[sp]
  | false=>
   simp only[XN,Kf,Ko,Ka,Kn] at hf;have w1:=wi (gY+a) (by omega) (by omega);have w2:=wi (gH-a) (by omega) (by omega);have l1:=Zfr l gX gY gW a;have l2:=Zfr r gX (gY+a) gW (gH-a);have e1:=Jl ps l gX gY gW a (by simp only[inB];omega) hf.1.2 (by omega);have e2:=Jl ps r gX (gY+a) gW (gH-a) (by simp only[inB];omega) hf.2 (by omega);have h1:((sp l gX gY gW a).length+(sp r gX (gY+a) gW (gH-a)).length)*48≤140737488355328∧(sp l gX gY gW a).length+(sp r gX (gY+a) gW (gH-a)).length≤140737488355328:=by omega
   refine cE ?_;simp +contextual -implicitDefEqProofs only[go_sem,seval,ZaQ,Qb,w1,w2,h1,e1,e2];simp[sp]
theorem Zba (qL qW qH:Int) (qF:List Box):Zd Xs Ms 176 [(.d (.agg [J qL,J qW,J qH,.sl (qF.map Box.enc)]))] []=some (.d (.agg [J 0,J 0,J qW,J qH]),[]):=by
 refine cE ?_;simp +contextual -implicitDefEqProofs only[go_sem,seval,Zhq]
theorem Q9 (qL qW qH:Int) (qF:List Box):Zd Xs Ms 122 [(.d (.agg [J qL,J qW,J qH,.sl (qF.map Box.enc)]))] []=some ((.d (.bool (decide (VPc (Zb.mk qL qW qH qF))))),[]):=by
 refine cE ?_;by_cases h0:(((qL<1∨9999<qL)∨¬VB ⟨0,0,qW,qH⟩)∨(6:Int)<qF.length)
 ·simp +contextual -implicitDefEqProofs only[go_sem,seval,Zac,Zba,Yn,h0];exact Zjg (by simp only[VPc];simp only[VB] at h0;omega)
 ·simp +contextual -implicitDefEqProofs only[go_sem,seval,Zac,Zba,Yn,h0];have hb:VB ⟨0,0,qW,qH⟩:=by
   refine Decidable.byContradiction fun h=>h0 (.inl (.inr h))
  refine LO (α:=Nat) (fun k=>[(28,.d (J (k:Int)))]) (fun _=>[]) (fun k=>k≤qF.length∧((∀ f∈qF,ZdG qW qH f)↔∀ f∈qF.drop k,ZdG qW qH f)) (fun k=>qF.length-k) 0 ⟨by omega,by simp⟩ ?_;intro k ⟨hk,hp⟩ ih;by_cases aa:k<qF.length
  ·obtain⟨x,hx⟩:=Zp aa;rw[Zgb hx] at hp;have hw:=Zg (k:=k) (by simp only[VB] at hb h0;omega);obtain⟨X,Y,W,H⟩:=x;simp +contextual -implicitDefEqProofs only[go_sem,seval,hx,aa,hw,Zba,Za8,hb];refine⟨fun h=>Zjg (fun hh=>h ((hp.1 hh.2).1)),fun h=>ih (k+1) _ ⟨by omega,?_⟩ (by omega) ?_⟩
   ·rw[hp];exact⟨fun hh=>hh.2,fun hh=>⟨h,hh⟩⟩
   ·simp +contextual -implicitDefEqProofs only[go_sem,seval]
  ·have:k=qF.length:=by omega
   subst this;simp +contextual -implicitDefEqProofs only[go_sem,seval];have hv:∀ f∈qF,ZdG qW qH f:=hp.2 (by simp);exact ZDe (by simp only[VPc];simp only[VB] at h0;exact⟨by omega,hv⟩)
theorem Zic (qL qW qH:Int) (qF:List Box) (hl:qF.length<4611686018427387904) (hW:R64 qW) (hH:R64 qH):Zd Xs Ms 132 [(.d (.agg [J qL,J qW,J qH,.sl (qF.map Box.enc)]))] []=some ((.d (.bool (decide (VPc (Zb.mk qL qW qH qF))))),[]):=by
 refine cE ?_;simp +contextual -implicitDefEqProofs only[go_sem,seval,Zec];refine LO (α:=Nat) (fun k=>[(3,.d (J (k:Int)))]) (fun _=>[]) (fun k=>k≤qF.length∧((∀ f∈qF,ZdG qW qH f)↔∀ f∈qF.drop k,ZdG qW qH f)) (fun k=>qF.length-k) 0 ⟨by omega,by simp⟩ ?_;intro k ⟨hk,hp⟩ ih;by_cases aa:k<qF.length
 ·obtain⟨x,hx⟩:=Zp aa;rw[Zgb hx] at hp;have hw:=Zg (k:=k) (by omega);obtain⟨X,Y,W,H⟩:=x;by_cases hv:VB ⟨X,Y,W,H⟩
  ·have hi:=Zuh X Y W H 0 0 qW qH hv ⟨by omega,by omega⟩ ⟨by omega,by omega⟩ (by simpa using hW) (by simpa using hH);simp +contextual -implicitDefEqProofs only[go_sem,seval,hx,aa,hw,ZkB,hi,hv];refine⟨fun h=>Zjg (fun hh=>h ((hp.1 hh.2).1.2)),fun h=>ih (k+1) _ ⟨by omega,?_⟩ (by omega) ?_⟩
   ·rw[hp];exact⟨fun hh=>hh.2,fun hh=>⟨⟨hv,h⟩,hh⟩⟩
   ·simp +contextual -implicitDefEqProofs only[go_sem,seval]
  ·simp +contextual -implicitDefEqProofs only[go_sem,seval,hx,aa,hw,ZkB,hv];exact Zjg (fun hh=>hv ((hp.1 hh.2).1.1))
 ·have:k=qF.length:=by omega
  subst this;simp +contextual -implicitDefEqProofs only[go_sem,seval,Zv];have hv:∀ f∈qF,ZdG qW qH f:=hp.2 (by simp);exact Zel (by simp only[VPc];exact⟨fun h=>⟨by omega,hv⟩,fun h=>by omega⟩)
theorem ZiA (fs:List Box) (bX bY bW bH:Int) (hf:∀ f∈fs,VB f) (hb:VB (Box.mk bX bY bW bH)) (hl:fs.length<4611686018427387904):Zd Xs Ms 124 [(.d (.sl (fs.map Box.enc))),(.d (.agg [J bX,J bY,J bW,J bH]))] []=some ((.d (.bool (!decide (Z6 fs (Box.mk bX bY bW bH))))),[]):=by
 refine cE ?_;simp +contextual -implicitDefEqProofs only[go_sem,seval,ZfL];refine LO (α:=Nat) (fun k=>[(11,.d (J (k:Int)))]) (fun _=>[]) (fun k=>k≤fs.length∧(Z6 fs (Box.mk bX bY bW bH)↔Z6 (fs.drop k) (Box.mk bX bY bW bH))) (fun k=>fs.length-k) 0 ⟨by omega,by simp⟩ ?_;intro k ⟨hk,hp⟩ ih;by_cases aa:k<fs.length
 ·obtain⟨x,hx⟩:=Zp aa;have ad:=hx;unfold Z6 at hp;rw[Zgb hx (fun f=>¬Yt f (Box.mk bX bY bW bH))] at hp;have hw:=Zg (k:=k) (by omega);have ab:=hf x (Kc hx);obtain⟨X,Y,W,H⟩:=x;by_cases hm:Yt ⟨X,Y,W,H⟩ (Box.mk bX bY bW bH)
  ·simp +contextual -implicitDefEqProofs only[go_sem,seval,hx,aa,hw,ZcF X Y W H bX bY bW bH ab hb hm];have:¬Z6 fs (Box.mk bX bY bW bH):=fun hh=>(hp.1 hh).1 hm;simp[this]
  ·simp +contextual -implicitDefEqProofs only[go_sem,seval,hx,aa,hw,ZeL X Y W H bX bY bW bH (fun hh=>hm hh.2.2)];refine ih (k+1) _ ⟨by omega,?_⟩ (by omega) ?_
   ·unfold Z6;rw[hp];exact⟨fun hh=>hh.2,fun hh=>⟨hm,hh⟩⟩
   ·simp +contextual -implicitDefEqProofs only[go_sem,seval]
 ·have:k=fs.length:=by omega
  subst this;simp +contextual -implicitDefEqProofs only[go_sem,seval];have:Z6 fs (Box.mk bX bY bW bH):=hp.2 (by simp[Z6]);simp[this]
theorem Zmb (qL qW qH:Int) (qF:List Box) (bX bY bW bH:Int) (hf:∀ f∈qF,VB f) (hb:VB (Box.mk bX bY bW bH)) (hl:qF.length<4611686018427387904):Zd Xs Ms 137 [(.d (.agg [J qL,J qW,J qH,.sl (qF.map Box.enc)])),(.d (.agg [J bX,J bY,J bW,J bH]))] []=some ((.d (.bool (decide (Z6 qF (Box.mk bX bY bW bH))))),[]):=by
 refine cE ?_;simp +contextual -implicitDefEqProofs only[go_sem,seval,ZiY];refine LO (α:=Nat) (fun k=>[(5,.d (J (k:Int)))]) (fun _=>[]) (fun k=>k≤qF.length∧(Z6 qF (Box.mk bX bY bW bH)↔Z6 (qF.drop k) (Box.mk bX bY bW bH))) (fun k=>qF.length-k) 0 ⟨by omega,by simp⟩ ?_;intro k ⟨hk,hp⟩ ih;by_cases aa:k<qF.length
 ·obtain⟨x,hx⟩:=Zp aa;unfold Z6 at hp;rw[Zgb hx (fun f=>¬Yt f (Box.mk bX bY bW bH))] at hp;have hw:=Zg (k:=k) (by omega);have ab:=hf x (Kc hx);obtain⟨X,Y,W,H⟩:=x;by_cases hm:Yt ⟨X,Y,W,H⟩ (Box.mk bX bY bW bH)
  ·simp +contextual -implicitDefEqProofs only[go_sem,seval,hx,aa,hw,ZlY X Y W H bX bY bW bH ab hb hm];have:¬Z6 qF (Box.mk bX bY bW bH):=fun hh=>(hp.1 hh).1 hm;simp[this]
  ·simp +contextual -implicitDefEqProofs only[go_sem,seval,hx,aa,hw,ZoM X Y W H bX bY bW bH ab hb hm];refine ih (k+1) _ ⟨by omega,?_⟩ (by omega) ?_
   ·unfold Z6;rw[hp];exact⟨fun hh=>hh.2,fun hh=>⟨hm,hh⟩⟩
   ·simp +contextual -implicitDefEqProofs only[go_sem,seval]
 ·have:k=qF.length:=by omega
  subst this;simp +contextual -implicitDefEqProofs only[go_sem,seval];have:Z6 qF (Box.mk bX bY bW bH):=hp.2 (by simp[Z6]);simp[this]
theorem ZkG (kW kH:Int) (kP:List Pane) (p:Ze) (b:BT) (hp:p=b.plan) (hg:inB ⟨0,0,kW,kH⟩) (hf:XN kP b kW kH=true) (hl:b.cnt≤1000):Zd Xs Ms 200 [(.d (.agg [J kW,J kH,.sl (kP.map Pane.enc)])),.d p.enc] []=some (.own 0,[.row 6 ((plc b 0 0 kW kH).map Place.enc) true false]):=by
 have e:=Jl kP b 0 0 kW kH hg hf hl;have hm:=Znp b 0 0 kW kH (ZjH hf);have hn:=Zfr b 0 0 kW kH;rw[← hp] at e;rw[← hm];clear hm;generalize sp b 0 0 kW kH=S at e hn ⊢;clear hp hf hg;obtain⟨o,a,q,t,ks⟩:=p;rw[Ze.enc_mk] at e ⊢;refine cE ?_;simp +contextual -implicitDefEqProofs only[go_sem,seval,Zhe,e];refine LO (α:=Nat) (fun i=>[(7,.d (J (i:Int)))]) (fun i=>[(1,.row 6 (((S.take i).filterMap ZeI).map Place.enc) true false)]) (fun i=>i≤S.length) (fun i=>S.length-i) 0 (by omega) ?_;intro i hi ih;by_cases aa:i<S.length
 ·obtain⟨x,hx⟩:=Zp aa;have hw:=Zg (k:=i) (by omega);have hm:=Za7 (f:=ZeI) hx;have ab:((S.take i).filterMap ZeI).length≤i:=Kx (Kr _ _) (by simp;omega);have hr:(((S.take i).filterMap ZeI).length+1)*48≤140737488355328∧((S.take i).filterMap ZeI).length≤140737488355327:=by omega
  obtain⟨q',t',⟨X,Y,W,H⟩⟩:=x;simp only[ZeI] at hm;by_cases ho:0≤q'
  ·rw[Kg ho] at hm;simp +contextual -implicitDefEqProofs only[go_sem,seval,hx,aa,hw,ho,hr];refine ih (i+1) _ (by omega) (by omega) ?_;simp +contextual -implicitDefEqProofs only[go_sem,seval,hm]
   first | rfl | (simp;done) | (simp;rfl)
  ·rw[Kd ho] at hm;simp +contextual -implicitDefEqProofs only[go_sem,seval,hx,aa,hw,ho,hr];refine ih (i+1) _ (by omega) (by omega) ?_;simp +contextual -implicitDefEqProofs only[go_sem,seval,hm]
   first | rfl | (simp;done) | (simp;rfl)
 ·have:i=S.length:=by omega
  subst this;simp +contextual -implicitDefEqProofs only[go_sem,seval];simp
theorem ZkH (kW kH:Int) (kP:List Pane) (p:Ze) (b:BT) (hp:p=b.plan) (hg:inB ⟨0,0,kW,kH⟩) (hf:XN kP b kW kH=true) (hl:b.cnt≤1000):Zd Xs Ms 198 [(.d (.agg [J kW,J kH,.sl (kP.map Pane.enc)])),.d p.enc] []=some (.own 0,[.row 4 ((wst b 0 0 kW kH).map Box.enc) true false]):=by
 have e:=Jl kP b 0 0 kW kH hg hf hl;have hm:=Znq b 0 0 kW kH (ZjH hf);have hn:=Zfr b 0 0 kW kH;rw[← hp] at e;rw[← hm];clear hm;generalize sp b 0 0 kW kH=S at e hn ⊢;clear hp hf hg;obtain⟨o,a,q,t,ks⟩:=p;rw[Ze.enc_mk] at e ⊢;refine cE ?_;simp +contextual -implicitDefEqProofs only[go_sem,seval,Zhs,e];refine LO (α:=Nat) (fun i=>[(7,.d (J (i:Int)))]) (fun i=>[(1,.row 4 (((S.take i).filterMap ZeJ).map Box.enc) true false)]) (fun i=>i≤S.length) (fun i=>S.length-i) 0 (by omega) ?_;intro i hi ih;by_cases aa:i<S.length
 ·obtain⟨x,hx⟩:=Zp aa;have hw:=Zg (k:=i) (by omega);have hm:=Za7 (f:=ZeJ) hx;have ab:((S.take i).filterMap ZeJ).length≤i:=Kx (Kr _ _) (by simp;omega);have hr:(((S.take i).filterMap ZeJ).length+1)*32≤140737488355328∧((S.take i).filterMap ZeJ).length≤140737488355327:=by omega
  obtain⟨q',t',⟨X,Y,W,H⟩⟩:=x;simp only[ZeJ] at hm;by_cases ho:q' < 0
  ·rw[Kg ho] at hm;simp +contextual -implicitDefEqProofs only[go_sem,seval,hx,aa,hw,ho,hr];refine ih (i+1) _ (by omega) (by omega) ?_;simp +contextual -implicitDefEqProofs only[go_sem,seval,hm]
   first | rfl | (simp;done) | (simp;rfl)
  ·rw[Kd ho] at hm;simp +contextual -implicitDefEqProofs only[go_sem,seval,hx,aa,hw,ho,hr];refine ih (i+1) _ (by omega) (by omega) ?_;simp +contextual -implicitDefEqProofs only[go_sem,seval,hm]
   first | rfl | (simp;done) | (simp;rfl)
 ·have:i=S.length:=by omega
  subst this;simp +contextual -implicitDefEqProofs only[go_sem,seval];simp
theorem Zut (qL qW qH:Int) (qF:List Box) (kW kH:Int) (kP:List Pane) (p:Ze):Zd Xs Ms 202 [(.d (.agg [J qL,J qW,J qH,.sl (qF.map Box.enc)])),(.d (.agg [J kW,J kH,.sl (kP.map Pane.enc)])),.d p.enc] []=some ((.d (.bool (decide (VPc (Zb.mk qL qW qH qF)∧Vu (Zb.mk qL qW qH qF) (Zw.mk kW kH kP) p)))),[]):=by
 have ev:=JC kW kH kP p;by_cases hq:VPc (Zb.mk qL qW qH qF)
 ·by_cases hv:Ve (Zw.mk kW kH kP) p=true
  ·by_cases hw:kW=qW
   ·by_cases hh:kH=qH
    ·subst hw;subst hh;have ep:=Zfw kW kH kP p;obtain⟨b,hb,ah,ai,aj,ad,af⟩:=QW hv;have ab:∀ c∈(Qs (Zw.mk kW kH kP) p).filterMap Xi,VB c.Box:=by
      rw[af,YN];exact ZlW (p:=p) ai ad
     have ae:((Qs (Zw.mk kW kH kP) p).filterMap Xi).length≤255:=Kx (Kr _ _) (ZaJ _ _);have aa:Vu ⟨qL,kW,kH,qF⟩ (Zw.mk kW kH kP) p↔∀ c∈(Qs (Zw.mk kW kH kP) p).filterMap Xi,Z6 qF c.Box:=by
      unfold Vu;exact⟨fun h=>h.2.2.2,fun h=>⟨hv,rfl,rfl,h⟩⟩
     have ak:∀ f∈qF,VB f:=fun f hf=>(hq.2 f hf).1;have an:qF.length≤6:=hq.1.2.2.2.2.2.2;rw[hv] at ev;generalize hL:(Qs (Zw.mk kW kH kP) p).filterMap Xi=L at ep ab ae aa;clear hL af ah hb;obtain⟨o,a,n,t,ks⟩:=p;rw[Ze.enc_mk] at ev ep ⊢;refine cE ?_;simp +contextual -implicitDefEqProofs only[go_sem,seval,VJ,Q9,hq,ev,ep];refine LO (α:=Nat) (fun i=>[(36,.d (J (i:Int)))]) (fun _=>[]) (fun i=>i≤L.length∧((∀ c∈L,Z6 qF c.Box)↔∀ c∈L.drop i,Z6 qF c.Box)) (fun i=>L.length-i) 0 ⟨by omega,by simp⟩ ?_;intro i ⟨hi,hp⟩ ih;by_cases ag:i<L.length
     ·obtain⟨x,hx⟩:=Zp ag;rw[Zgb hx (fun c=>Z6 qF c.Box)] at hp;have hw:=Zg (k:=i) (by omega);have al:=ab x (Kc hx);obtain⟨q',t',⟨X,Y,W,H⟩⟩:=x;have em:=ZiA qF X Y W H ak al (by omega);simp +contextual -implicitDefEqProofs only[go_sem,seval,hx,ag,hw,em];refine⟨fun h=>Zjg (fun h'=>h ((hp.1 (aa.1 h')).1)),fun h=>ih (i+1) _ ⟨by omega,?_⟩ (by omega) ?_⟩
      ·rw[hp];exact⟨fun h'=>h'.2,fun h'=>⟨h,h'⟩⟩
      ·simp +contextual -implicitDefEqProofs only[go_sem,seval]
     ·have:i=L.length:=by omega
      subst this;simp +contextual -implicitDefEqProofs only[go_sem,seval];exact ZDe (aa.2 (hp.2 (by simp)))
    ·subst hw;have hn:¬Vu ⟨qL,kW,qH,qF⟩ (Zw.mk kW kH kP) p:=fun h=>hh h.2.2.1;obtain⟨o,a,n,t,ks⟩:=p;rw[hv] at ev;rw[Ze.enc_mk] at ev ⊢;refine cE ?_;simp +contextual -implicitDefEqProofs only[go_sem,seval,VJ,Q9,hq,ev,hh,hn]
   ·have hn:¬Vu (Zb.mk qL qW qH qF) (Zw.mk kW kH kP) p:=fun h=>hw h.2.1;obtain⟨o,a,n,t,ks⟩:=p;rw[hv] at ev;rw[Ze.enc_mk] at ev ⊢;refine cE ?_;simp +contextual -implicitDefEqProofs only[go_sem,seval,VJ,Q9,hq,ev,hw,hn]
  ·have am:=(LD _).mp hv;have hn:¬Vu (Zb.mk qL qW qH qF) (Zw.mk kW kH kP) p:=fun h=>hv h.1;rw[am] at ev;obtain⟨o,a,n,t,ks⟩:=p;rw[Ze.enc_mk] at ev ⊢;refine cE ?_;simp +contextual -implicitDefEqProofs only[go_sem,seval,VJ,Q9,hq,ev,hn]
 ·obtain⟨o,a,n,t,ks⟩:=p;rw[Ze.enc_mk] at ev ⊢;refine cE ?_;simp +contextual -implicitDefEqProofs only[go_sem,seval,VJ,Q9,hq]
theorem ZkI (qL qW qH:Int) (qF:List Box) (kW kH:Int) (kP:List Pane) (p:Ze) (al:∀ f∈qF,VB f) (ao:qF.length≤6) (hl:kP.length<4611686018427387904):Zd Xs Ms 194 [(.d (.agg [J qL,J qW,J qH,.sl (qF.map Box.enc)])),(.d (.agg [J kW,J kH,.sl (kP.map Pane.enc)])),.d p.enc] []=some ((.d (.bool (decide (Vu (Zb.mk qL qW qH qF) (Zw.mk kW kH kP) p)))),[]):=by
 have ev:=Ziq kW kH kP p hl;by_cases hv:Ve (Zw.mk kW kH kP) p=true
 ·by_cases hw:kW=qW
  ·by_cases hh:kH=qH
   ·subst hw;subst hh;obtain⟨b,hb,ah,ai,ae,ab,aj⟩:=QW hv;have af:=ai;simp only[VW] at af;have ep:=ZkG kW kH kP p b ah (by simp only[inB];omega) ab (by omega);have ad:∀ c∈plc b 0 0 kW kH,VB c.Box:=ZlW (p:=p) ai ab;have ag:(plc b 0 0 kW kH).length≤255:=by
     rw[← YN];exact Kx (Kr _ _) (by rw[Jx];exact ae)
    have aa:Vu ⟨qL,kW,kH,qF⟩ (Zw.mk kW kH kP) p↔∀ c∈plc b 0 0 kW kH,Z6 qF c.Box:=by
     unfold Vu;rw[aj,YN];exact⟨fun h=>h.2.2.2,fun h=>⟨hv,rfl,rfl,h⟩⟩
    rw[hv] at ev;generalize plc b 0 0 kW kH=L at ep ad ag aa;clear aj ah hb;obtain⟨o,a,n,t,ks⟩:=p;rw[Ze.enc_mk] at ev ep ⊢;refine cE ?_;simp +contextual -implicitDefEqProofs only[go_sem,seval,Uj,ev,ep];refine LO (α:=Nat) (fun i=>[(8,.d (J (i:Int)))]) (fun _=>[]) (fun i=>i≤L.length∧((∀ c∈L,Z6 qF c.Box)↔∀ c∈L.drop i,Z6 qF c.Box)) (fun i=>L.length-i) 0 ⟨by omega,by simp⟩ ?_;intro i ⟨hi,hp⟩ ih;by_cases ak:i<L.length
    ·obtain⟨x,hx⟩:=Zp ak;rw[Zgb hx (fun c=>Z6 qF c.Box)] at hp;have hw:=Zg (k:=i) (by omega);have am:=ad x (Kc hx);obtain⟨q',t',⟨X,Y,W,H⟩⟩:=x;have em:=Zmb qL kW kH qF X Y W H al am (by omega);simp +contextual -implicitDefEqProofs only[go_sem,seval,hx,ak,hw,em];refine⟨fun h=>Zjg (fun h'=>h ((hp.1 (aa.1 h')).1)),fun h=>ih (i+1) _ ⟨by omega,?_⟩ (by omega) ?_⟩
     ·rw[hp];exact⟨fun h'=>h'.2,fun h'=>⟨h,h'⟩⟩
     ·simp +contextual -implicitDefEqProofs only[go_sem,seval]
    ·have:i=L.length:=by omega
     subst this;simp +contextual -implicitDefEqProofs only[go_sem,seval];exact ZDe (aa.2 (hp.2 (by simp)))
   ·subst hw;have hn:¬Vu ⟨qL,kW,qH,qF⟩ (Zw.mk kW kH kP) p:=fun h=>hh h.2.2.1;obtain⟨o,a,n,t,ks⟩:=p;rw[hv] at ev;rw[Ze.enc_mk] at ev ⊢;refine cE ?_;simp +contextual -implicitDefEqProofs only[go_sem,seval,Uj,ev,hh,hn]
  ·have hn:¬Vu (Zb.mk qL qW qH qF) (Zw.mk kW kH kP) p:=fun h=>hw h.2.1;obtain⟨o,a,n,t,ks⟩:=p;rw[hv] at ev;rw[Ze.enc_mk] at ev ⊢;refine cE ?_;simp +contextual -implicitDefEqProofs only[go_sem,seval,Uj,ev,hw,hn]
 ·have an:=(LD _).mp hv;have hn:¬Vu (Zb.mk qL qW qH qF) (Zw.mk kW kH kP) p:=fun h=>hv h.1;rw[an] at ev;obtain⟨o,a,n,t,ks⟩:=p;rw[Ze.enc_mk] at ev ⊢;refine cE ?_;simp +contextual -implicitDefEqProofs only[go_sem,seval,Uj,ev,hn]
theorem Zy4 (qL qW qH:Int) (qF:List Box) (bX bY bW bH:Int) (label:Int) (hq:VPc (Zb.mk qL qW qH qF)) (hb:VB (Box.mk bX bY bW bH)) (hi:QI (Box.mk bX bY bW bH) ⟨0,0,qW,qH⟩) (h1:1≤label) (h2:label≤9999) :
  Zd Xs Ms 229 [(.d (.agg [J qL,J qW,J qH,.sl (qF.map Box.enc)])),(.d (.agg [J bX,J bY,J bW,J bH])),(.d (J label))] []=some (.agg [(.d (J label)),(.d (J bW)),(.d (J bH)),.own 0],[.row 4 ((qF.filterMap (YR (Box.mk bX bY bW bH))).map Box.enc) true false]):=by
 have ae:=hq.1;simp only at ae;have n1:¬label<1:=by omega
 have n2:¬9999<label:=by omega
 have af:VB ⟨0,0,qW,qH⟩:=by simp only[VB];omega
 refine cE ?_;simp +contextual -implicitDefEqProofs only[go_sem,seval,Zlq,Q9,Zba,Za8,hq,hb,hi,af,n1,n2];refine LO (α:=Nat) (fun i=>[(40,.d (J (i:Int)))]) (fun i=>[(3,.row 4 (((qF.take i).filterMap (YR (Box.mk bX bY bW bH))).map Box.enc) true false)]) (fun i=>i≤qF.length) (fun i=>qF.length-i) 0 (by omega) ?_;intro i hk ih;by_cases aa:i<qF.length
 ·obtain⟨x,hx⟩:=Zp aa;have hw:=Zg (k:=i) (by omega);have hm:=Za7 (f:=YR (Box.mk bX bY bW bH)) hx;have ah:((qF.take i).filterMap (YR (Box.mk bX bY bW bH))).length≤i:=Kx (Kr _ _) (by simp;omega);have hr:(((qF.take i).filterMap (YR (Box.mk bX bY bW bH))).length+1)*32≤140737488355328∧((qF.take i).filterMap (YR (Box.mk bX bY bW bH))).length≤140737488355327:=by omega
  have ad:=(hq.2 x (Kc hx)).1;obtain⟨X,Y,W,H⟩:=x;have ab:=ad;have ag:=hb;simp only[VB] at ab ag;simp only[YR] at hm;by_cases ho:Yt ⟨X,Y,W,H⟩ (Box.mk bX bY bW bH)
  ·rw[Kg ho] at hm;have w1:=wi (max X bX-bX) (by omega) (by omega);have w2:=wi (max Y bY-bY) (by omega) (by omega);simp +contextual -implicitDefEqProofs only[go_sem,seval,hx,aa,hw,ZcF X Y W H bX bY bW bH ad hb ho,hr,Zij,w1,w2];refine ih (i+1) _ (by omega) (by omega) ?_;simp +contextual -implicitDefEqProofs only[go_sem,seval,hm,Zxc,Zij]
   first | rfl | (simp;done) | (simp;rfl)
  ·rw[Kd ho] at hm;simp +contextual -implicitDefEqProofs only[go_sem,seval,hx,aa,hw,ZeL X Y W H bX bY bW bH (fun hh=>ho hh.2.2),hr];refine ih (i+1) _ (by omega) (by omega) ?_;simp +contextual -implicitDefEqProofs only[go_sem,seval,hm]
   first | rfl | (simp;done) | (simp;rfl)
 ·have:i=qF.length:=by omega
  subst this;simp +contextual -implicitDefEqProofs only[go_sem,seval];try simp
theorem Zy5 (qL qW qH:Int) (qF:List Box) (bX bY bW bH:Int) (label:Int) (hf:∀ f∈qF,VB f) (hl:qF.length≤6) (hb:VB (Box.mk bX bY bW bH)) :
  Zd Xs Ms 224 [(.d (.agg [J qL,J qW,J qH,.sl (qF.map Box.enc)])),(.d (.agg [J bX,J bY,J bW,J bH])),(.d (J label))] []=some (.agg [(.d (J label)),(.d (J bW)),(.d (J bH)),.own 0],[.row 4 ((qF.filterMap (YR (Box.mk bX bY bW bH))).map Box.enc) true false]):=by
 refine cE ?_;simp +contextual -implicitDefEqProofs only[go_sem,seval,Zls];refine LO (α:=Nat) (fun i=>[(8,.d (J (i:Int)))]) (fun i=>[(4,.row 4 (((qF.take i).filterMap (YR (Box.mk bX bY bW bH))).map Box.enc) true false)]) (fun i=>i≤qF.length) (fun i=>qF.length-i) 0 (by omega) ?_;intro i hk ih;by_cases aa:i<qF.length
 ·obtain⟨x,hx⟩:=Zp aa;have hw:=Zg (k:=i) (by omega);have hm:=Za7 (f:=YR (Box.mk bX bY bW bH)) hx;have af:((qF.take i).filterMap (YR (Box.mk bX bY bW bH))).length≤i:=Kx (Kr _ _) (by simp;omega);have hr:(((qF.take i).filterMap (YR (Box.mk bX bY bW bH))).length+1)*32≤140737488355328∧((qF.take i).filterMap (YR (Box.mk bX bY bW bH))).length≤140737488355327:=by omega
  have ab:=hf x (Kc hx);obtain⟨X,Y,W,H⟩:=x;have ad:=ab;have ae:=hb;simp only[VB] at ad ae;simp only[YR] at hm;by_cases ho:Yt ⟨X,Y,W,H⟩ (Box.mk bX bY bW bH)
  ·rw[Kg ho] at hm;have w1:=wi (max X bX-bX) (by omega) (by omega);have w2:=wi (max Y bY-bY) (by omega) (by omega);simp +contextual -implicitDefEqProofs only[go_sem,seval,hx,aa,hw,ZlY X Y W H bX bY bW bH ab hb ho,hr,Zij,w1,w2];refine ih (i+1) _ (by omega) (by omega) ?_;simp +contextual -implicitDefEqProofs only[go_sem,seval,hm,Zxc,Zij]
   first | rfl | (simp;done) | (simp;rfl)
  ·rw[Kd ho] at hm;simp +contextual -implicitDefEqProofs only[go_sem,seval,hx,aa,hw,ZoM X Y W H bX bY bW bH ab hb ho,hr];refine ih (i+1) _ (by omega) (by omega) ?_;simp +contextual -implicitDefEqProofs only[go_sem,seval,hm]
   first | rfl | (simp;done) | (simp;rfl)
 ·have:i=qF.length:=by omega
  subst this;simp +contextual -implicitDefEqProofs only[go_sem,seval];try simp
theorem Zid (kW kH:Int) (kP:List Pane) (p:Ze) (Zk:Int):Zd Xs Ms 228 [(.d (.agg [J kW,J kH,.sl (kP.map Pane.enc)])),.d p.enc,(.d (J Zk))] []=some (.own 0,[.row 4 ((Xl (Zw.mk kW kH kP) p Zk).map Box.enc) true false]):=by
 have hv:=ZkF kW kH kP p;have hn:((Qs (Zw.mk kW kH kP) p).filterMap X4).length≤255:=Kx (Kr _ _) (ZaJ (Zw.mk kW kH kP) p);unfold Xl;generalize (Qs (Zw.mk kW kH kP) p).filterMap X4=ps at hv hn ⊢;obtain⟨o,a,q,t,ks⟩:=p;rw[Ze.enc_mk] at hv ⊢;refine cE ?_;simp +contextual -implicitDefEqProofs only[go_sem,seval,Zeg,hv];refine LO (α:=Nat) (fun k=>[(14,.d (J (k:Int)))]) (fun k=>[(1,.row 4 (((ps.take k).filterMap (UA Zk)).map Box.enc) true false)]) (fun k=>k≤ps.length) (fun k=>ps.length-k) 0 (by omega) ?_;intro k hk ih;by_cases aa:k<ps.length
 ·obtain⟨x,hx⟩:=Zp aa;have hw:=Zg (k:=k) (by omega);have hm:=Za7 (f:=UA Zk) hx;have ab:((ps.take k).filterMap (UA Zk)).length≤k:=Kx (Kr _ _) (by simp;omega);have hr:(((ps.take k).filterMap (UA Zk)).length+1)*32≤140737488355328∧((ps.take k).filterMap (UA Zk)).length≤140737488355327:=by omega
  obtain⟨X,Y,W,H⟩:=x;simp only[UA] at hm;by_cases ho:Zk≤W∧Zk≤H
  ·rw[Kg ho] at hm;simp +contextual -implicitDefEqProofs only[go_sem,seval,hx,aa,hw,ho,hr];refine ih (k+1) _ (by omega) (by omega) ?_;simp +contextual -implicitDefEqProofs only[go_sem,seval,hm]
   first | rfl | (simp;done) | (simp;rfl)
  ·rw[Kd ho] at hm;simp +contextual -implicitDefEqProofs only[go_sem,seval,hx,aa,hw,ho,hr];refine ih (k+1) _ (by omega) (by omega) ?_;simp +contextual -implicitDefEqProofs only[go_sem,seval,hm]
   first | rfl | (simp;done) | (simp;rfl)
 ·have:k=ps.length:=by omega
  subst this;simp +contextual -implicitDefEqProofs only[go_sem,seval];simp
theorem Zmc (qL qW qH:Int) (qF:List Box) (kW kH:Int) (kP:List Pane) (p:Ze) (Zk label:Int) (hq:VPc (Zb.mk qL qW qH qF)) (hv:Ve (Zw.mk kW kH kP) p=true) (hW:kW=qW) (hH:kH=qH) (h1:1≤label) (h2:label≤10000)
  (hk:(Xl (Zw.mk kW kH kP) p Zk).length≤10000-label):Zd Xs Ms 203 [(.d (.agg [J qL,J qW,J qH,.sl (qF.map Box.enc)])),(.d (.agg [J kW,J kH,.sl (kP.map Pane.enc)])),.d p.enc,(.d (J Zk)),(.d (J label))] [] =
  some (.tup [.own 0,(.d (.bool true))],[.tree 4 4 ((Ja (Zb.mk qL qW qH qF) label (Xl (Zw.mk kW kH kP) p Zk)).map Zb.enc) none]):=by
 have ek:=Zid kW kH kP p Zk;have aa:∀ b∈Xl (Zw.mk kW kH kP) p Zk,VB b∧QI b ⟨0,0,qW,qH⟩:=by
  intro b hb;have:=Zq3 (Zk:=Zk) hv b hb;rw[← hW,← hH];exact this
 have hn:=ZjI (Zw.mk kW kH kP) p Zk;generalize Xl (Zw.mk kW kH kP) p Zk=L at ek aa hn hk ⊢;clear hv;have w0:=wi (10000-label) (by omega) (by omega);have n0:¬(10000-label<(L.length:Int)):=by omega
 obtain⟨o,a,n,t,ks⟩:=p;rw[Ze.enc_mk] at ek ⊢;refine cE ?_;simp +contextual -implicitDefEqProofs only[go_sem,seval,U6,ek,w0,n0];refine LO (α:=Nat) (fun i=>[(27,.d (J (i:Int)))]) (fun i=>[(1,.tree 4 4 ((Ja (Zb.mk qL qW qH qF) label (L.take i)).map Zb.enc) none)]) (fun i=>i≤L.length) (fun i=>L.length-i) 0 (by omega) ?_;intro i hi ih;by_cases ab:i<L.length
 ·obtain⟨x,hx⟩:=Zp ab;have hw:=Zg (k:=i) (by omega);have hm:=ZDw (Zb.mk qL qW qH qF) label hx;have hl:(Ja (Zb.mk qL qW qH qF) label (L.take i)).length=i:=by rw[ZdH];simp;omega
  have hr:(i+1)*48≤140737488355328∧i≤140737488355327:=by omega
  have ad:=aa x (Kc hx);have w1:=wi (label+(i:Int)) (by omega) (by omega);obtain⟨X,Y,W,H⟩:=x;have hc:=Zy4 qL qW qH qF X Y W H (label+(i:Int)) hq ad.1 ad.2 (by omega) (by omega);have z6:=aF (l:=(Zns (Zb.mk qL qW qH qF) ⟨X,Y,W,H⟩ (label+(i:Int))).Flaws) (g:=Box.enc) fun _=>rfl;simp only[Zns] at z6;simp +contextual -implicitDefEqProofs only[go_sem,seval,hx,ab,hw,w1,hc,hl,hr,z6];refine ih (i+1) _ (by omega) (by omega) ?_;simp +contextual -implicitDefEqProofs only[go_sem,seval,hm,Zns]
  first | rfl | (simp;done) | (simp;rfl)
 ·have:i=L.length:=by omega
  subst this;simp +contextual -implicitDefEqProofs only[go_sem,seval];try simp
theorem ZnI (qL qW qH:Int) (qF:List Box) (kW kH:Int) (kP:List Pane) (p:Ze) (Zk label:Int) (h1:1≤label) (h2:label≤10000)
  (hk:¬(Xl (Zw.mk kW kH kP) p Zk).length≤10000-label):Zd Xs Ms 203 [(.d (.agg [J qL,J qW,J qH,.sl (qF.map Box.enc)])),(.d (.agg [J kW,J kH,.sl (kP.map Pane.enc)])),.d p.enc,(.d (J Zk)),(.d (J label))] [] =
  some (.tup [.own 0,(.d (.bool false))],[.row 4 [] true false]):=by
 have ek:=Zid kW kH kP p Zk;generalize Xl (Zw.mk kW kH kP) p Zk=L at ek hk ⊢;have w0:=wi (10000-label) (by omega) (by omega);have n0:10000-label<(L.length:Int):=by omega
 obtain⟨o,a,n,t,ks⟩:=p;rw[Ze.enc_mk] at ek ⊢;refine cE ?_;simp +contextual -implicitDefEqProofs only[go_sem,seval,U6,ek,w0,n0]
def Tr4 (l:List Zb) (o:Zm):Prop:=o=.tree 4 4 (l.map Zb.enc) none∨l=[]∧o=.row 4 [] true false
theorem ZdR (bX bY bW bH:Int) (Zk:Int):Zd Xs Ms 199 [(.d (.agg [J bX,J bY,J bW,J bH])),(.d (J Zk))] []=some ((.d (.bool (decide (Zk≤bW∧Zk≤bH)))),[]):=by
 refine cE ?_;simp +contextual -implicitDefEqProofs only[go_sem,seval,ZfW]
theorem Zmd (bX bY bW bH:Int) (hb:VB (Box.mk bX bY bW bH)):Zd Xs Ms 151 [(.d (.agg [J bX,J bY,J bW,J bH]))] []=some ((.d (J (bW*bH))),[]):=by
 have h:=Jy hb;simp only at h;have w:=wi (bW*bH) (by omega) (by omega);refine cE ?_;simp +contextual -implicitDefEqProofs only[go_sem,seval,ZiR,w]
theorem Zuu (kW kH:Int) (kP:List Pane) (p:Ze) (Zk:Int) (hv:Ve (Zw.mk kW kH kP) p=true) (h1:1≤Zk) (h2:Zk≤200):Zd Xs Ms 158 [(.d (.agg [J kW,J kH,.sl (kP.map Pane.enc)])),.d p.enc,(.d (J Zk))] [] =
  some ((.d (J (Yf (ZeK (Zw.mk kW kH kP) p Zk)))),[]):=by
 have ev:=JC kW kH kP p;rw[hv] at ev;have ep:=ZkF kW kH kP p;have aa:=Zdw hv;have ad:((Qs (Zw.mk kW kH kP) p).filterMap X4).length≤255:=Kx (Kr _ _) (ZaJ _ _);unfold ZeK;generalize (Qs (Zw.mk kW kH kP) p).filterMap X4=L at ep aa ad ⊢;clear hv;have n1:¬Zk<1:=by omega
 have n2:¬200<Zk:=by omega
 obtain⟨o,a,n,t,ks⟩:=p;rw[Ze.enc_mk] at ev ep ⊢;refine cE ?_;simp +contextual -implicitDefEqProofs only[go_sem,seval,Zhd,ev,ep,n1,n2];refine LO (α:=Nat) (fun i=>[(26,.d (J (i:Int))),(7,.d (J (Yf ((L.take i).filterMap (UB Zk)))))]) (fun _=>[]) (fun i=>i≤L.length) (fun i=>L.length-i) 0 (by omega) ?_;intro i hi ih;by_cases ae:i<L.length
 ·obtain⟨x,hx⟩:=Zp ae;have hw:=Zg (k:=i) (by omega);have hm:=Za7 (f:=UB Zk) hx;have af:=aa x (Kc hx);have ha:=Zgc (l:=(L.take i).filterMap (UB Zk)) (fun c hc=>by
   obtain⟨d,hd,ab⟩:=Lw.1 hc;unfold UB at ab;split at ab
   ·cases ab;exact aa c (Lg hd)
   ·cases ab)
  have ah:((L.take i).filterMap (UB Zk)).length≤i:=Kx (Kr _ _) (by simp;omega);have ag:=Jy af;obtain⟨X,Y,W,H⟩:=x;simp only at ag;have w1:=wi (Yf ((L.take i).filterMap (UB Zk))+W*H) (by omega) (by omega);simp only[UB] at hm;by_cases ho:W<Zk∨H<Zk
  ·rw[Kg ho] at hm;simp +contextual -implicitDefEqProofs only[go_sem,seval,hx,ae,hw,ho,Zmd X Y W H af,w1];refine ih (i+1) _ (by omega) (by omega) ?_;simp +contextual -implicitDefEqProofs only[go_sem,seval,hm,ZcE,Option.toList,Yf]
   first | rfl | (simp;done) | (simp;rfl)
  ·rw[Kd ho] at hm;simp +contextual -implicitDefEqProofs only[go_sem,seval,hx,ae,hw,ho];refine ih (i+1) _ (by omega) (by omega) ?_;simp +contextual -implicitDefEqProofs only[go_sem,seval,hm]
   first | rfl | (simp;done) | (simp;rfl)
 ·have:i=L.length:=by omega
  subst this;simp +contextual -implicitDefEqProofs only[go_sem,seval];try simp
theorem Zuv (qL qW qH:Int) (qF:List Box) (kW kH:Int) (kP:List Pane) (p:Ze) (Zk label:Int) (hq:VPc (Zb.mk qL qW qH qF)) (hv:Ve (Zw.mk kW kH kP) p=true) (h1:1≤label) (h2:label≤10000) :
  Zd Xs Ms 195 [(.d (.agg [J qL,J qW,J qH,.sl (qF.map Box.enc)])),(.d (.agg [J kW,J kH,.sl (kP.map Pane.enc)])),.d p.enc,(.d (J Zk)),(.d (J label))] [] =
  some (.own 0,[.row 4 ((Ja (Zb.mk qL qW qH qF) label (Xl (Zw.mk kW kH kP) p Zk)).map Zb.enc) true false]):=by
 obtain⟨b,hb,ah,ai,ak,ae,aj⟩:=QW hv;have af:=ai;simp only[VW] at af;have ep:=ZkH kW kH kP p b ah (by simp only[inB];omega) ae (by omega);have ab:=Zdw hv;have ad:((Qs (Zw.mk kW kH kP) p).filterMap X4).length≤255:=Kx (Kr _ _) (ZaJ _ _);unfold Xl;rw[aj,Zga] at ab ad ⊢;have al:∀ f∈qF,VB f:=fun f hf=>(hq.2 f hf).1;have am:qF.length≤6:=hq.1.2.2.2.2.2.2;have aa:∀ i,((wst b 0 0 kW kH).take i).length≤255:=fun i=>Kx (List.length_take_le' _ _) ad;generalize wst b 0 0 kW kH=L at ep ab ad aa ⊢;clear aj ah hb hv ae ai af;obtain⟨o,a,n,t,ks⟩:=p;rw[Ze.enc_mk] at ep ⊢;refine cE ?_
 simp +contextual -implicitDefEqProofs only[go_sem,seval,Zhw,ep];refine LO (α:=Nat) (fun i=>[(13,.d (J (i:Int)))]) (fun i=>[(1,.row 4 ((Ja (Zb.mk qL qW qH qF) label ((L.take i).filterMap (UA Zk))).map Zb.enc) true false)]) (fun i=>i≤L.length) (fun i=>L.length-i) 0 (by omega) ?_;intro i hi ih;by_cases ag:i<L.length
 ·obtain⟨x,hx⟩:=Zp ag;have hw:=Zg (k:=i) (by omega);have hm:=Za7 (f:=UA Zk) hx;have ao:((L.take i).filterMap (UA Zk)).length≤255:=Kx (Kr _ _) (aa i);have hl:=ZdH (Zb.mk qL qW qH qF) label ((L.take i).filterMap (UA Zk));have hr:(((L.take i).filterMap (UA Zk)).length+1)*48≤140737488355328∧((L.take i).filterMap (UA Zk)).length≤140737488355327:=by omega
  have w1:=wi (label+(((L.take i).filterMap (UA Zk)).length:Int)) (by omega) (by omega);have an:=ab x (Kc hx);have hcc:=fun y=>Zio (Zb.mk qL qW qH qF) label ((L.take i).filterMap (UA Zk)) [y];obtain⟨X,Y,W,H⟩:=x;simp only[UA] at hm;have hc:=Zy5 qL qW qH qF X Y W H (label+(((L.take i).filterMap (UA Zk)).length:Int)) al am an;by_cases ho:Zk≤W∧Zk≤H
  ·rw[Kg ho] at hm;simp +contextual -implicitDefEqProofs only[go_sem,seval,hx,ag,hw,ZdR,ho,hl,w1,hc,hr];refine ih (i+1) _ (by omega) (by omega) ?_;simp +contextual -implicitDefEqProofs only[go_sem,seval,hm,Option.toList,hcc,Ja,Zns]
   first | rfl | (simp;done) | (simp;rfl)
  ·rw[Kd ho] at hm;simp +contextual -implicitDefEqProofs only[go_sem,seval,hx,ag,hw,ZdR,ho];refine ih (i+1) _ (by omega) (by omega) ?_;simp +contextual -implicitDefEqProofs only[go_sem,seval,hm]
   first | rfl | (simp;done) | (simp;rfl)
 ·have:i=L.length:=by omega
  subst this;simp +contextual -implicitDefEqProofs only[go_sem,seval];try simp
end Go.Proofs.YtfnegoimdljanaaGreatDoor
