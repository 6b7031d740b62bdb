/- Own text. -/
import Derived.Test.YtighjmleicikhaaBCode
import Derived.Test.YtighjmleicikhaaAbsParts
import Derived.Test.YtighjmleicikhaaBC1
import Derived.Test.YtighjmleicikhaaAbsOkD
import Derived.Test.YtighjmleicikhaaBC5
namespace Go.Proofs.Ytighjmleicikhaa
open Go Go.Abs Go.Abs.E Go.Abs.L
open Nat (reduceMul reduceSub reduceLeDiff reduceEqDiff)
open Int (reduceLE reduceEq reduceToNat reduceNeg)
set_option linter.unusedSimpArgs false
set_option linter.unusedVariables false
set_option maxRecDepth 20000
set_option maxHeartbeats 4000000
theorem QY (ps:List Pane):∀ (b:BT) (gX gY gW gH:Int) (xs:List D) (ex:Bool),inB (Box.mk gX gY gW gH)→Z4 ps b gW gH=true→xs.length+b.cnt≤1000 →
  Zl Xs Ms ZU [.own 0,.d b.plan.enc,(.d (.agg [J gX,J gY,J gW,J gH]))] [.row 9 xs ex false]=some (.own 1,[.gone,.row 9 (xs++(pt b gX gY gW gH).map Part.enc) false false])
 | .waste,gX,gY,gW,gH,xs,ex,hg,hf,hl=>by
  simp only[BT.cnt] at hl;have h1:(xs.length+1)*88≤140737488355328∧xs.length≤140737488355327:=by omega
  simp only[BT.plan,Ze.enc_mk,pt];refine cE ?_;simp +contextual -implicitDefEqProofs (maxSteps:=10^7) only[go_sem,seval,↓gZ,QU,Zj,h1]
 | .pane i t,gX,gY,gW,gH,xs,ex,hg,hf,hl=>by
  simp only[BT.cnt] at hl;have h1:(xs.length+1)*88≤140737488355328∧xs.length≤140737488355327:=by omega
  simp only[BT.plan,Ze.enc_mk,pt];refine cE ?_;simp +contextual -implicitDefEqProofs (maxSteps:=10^7) only[go_sem,seval,↓gZ,QU,Zj,h1]
 | .cut d a l r,gX,gY,gW,gH,xs,ex,hg,hf,hl=>by
  simp only[BT.cnt] at hl;have h1:(xs.length+1)*88≤140737488355328∧xs.length≤140737488355327:=by omega
  simp only[inB] at hg;simp only[BT.plan,Ze.enc_mk];cases d with
  | true=>
   simp only[Z4,Kb,Kk,Kh] at hf;have e0:=VI 2 a 0 false [l.plan.enc,r.plan.enc] gX gY gW gH rfl ⟨by omega,by omega⟩ ⟨by omega,by omega⟩;have e1:=QY ps l gX gY a gH (xs++[.agg [J 2,J a,J 0,.bool false,.sl [l.plan.enc,r.plan.enc],J gX,J gY,J gW,J gH]]) false (by simp only[inB];omega) hf.1.2 (by simp only[Kg,Ki,KA];omega);have e2:=QY ps r (gX+a) gY (gW-a) gH (xs++[.agg [J 2,J a,J 0,.bool false,.sl [l.plan.enc,r.plan.enc],J gX,J gY,J gW,J gH]]++(pt l gX gY a gH).map Part.enc) false (by simp only[inB];omega) hf.2 (by simp only[Kg,Ki,KA,KG,U1];omega)
   refine cE ?_;simp +contextual -implicitDefEqProofs (maxSteps:=10^7) only[go_sem,seval,↓gZ,QU,Zj,h1,Q9,e0,e1,e2];simp[pt,Q9,BT.plan,Part.enc_mk]
  | false=>
   simp only[Z4,Kb,Kk,Ka,Kf] at hf;have e0:=YC 3 a 0 false [l.plan.enc,r.plan.enc] gX gY gW gH (by decide) ⟨by omega,by omega⟩ ⟨by omega,by omega⟩;have e1:=QY ps l gX gY gW a (xs++[.agg [J 3,J a,J 0,.bool false,.sl [l.plan.enc,r.plan.enc],J gX,J gY,J gW,J gH]]) false (by simp only[inB];omega) hf.1.2 (by simp only[Kg,Ki,KA];omega);have e2:=QY ps r gX (gY+a) gW (gH-a) (xs++[.agg [J 3,J a,J 0,.bool false,.sl [l.plan.enc,r.plan.enc],J gX,J gY,J gW,J gH]]++(pt l gX gY gW a).map Part.enc) false (by simp only[inB];omega) hf.2 (by simp only[Kg,Ki,KA,KG,U1];omega)
   refine cE ?_;simp +contextual -implicitDefEqProofs (maxSteps:=10^7) only[go_sem,seval,↓gZ,QU,Zj,h1,Q9,e0,e1,e2];simp[pt,Q9,BT.plan,Part.enc_mk]
theorem Zhz (ps:List Pane):∀ (b:BT) (gX gY gW gH:Int),inB (Box.mk gX gY gW gH)→Z4 ps b gW gH=true→b.cnt≤1000 →
  Zl Xs Ms ZU [.nil,.d b.plan.enc,(.d (.agg [J gX,J gY,J gW,J gH]))] []=some (.own 0,[.row 9 ((pt b gX gY gW gH).map Part.enc) false false])
 | .waste,gX,gY,gW,gH,hg,hf,hl=>by
  have h1:1*88≤Zt∧1≤Zt:=by unfold Zt;omega
  simp only[BT.plan,Ze.enc_mk,pt];refine cE ?_;simp +contextual -implicitDefEqProofs (maxSteps:=10^7) only[go_sem,seval,↓gZ,QU,Zj,h1]
 | .pane i t,gX,gY,gW,gH,hg,hf,hl=>by
  have h1:1*88≤Zt∧1≤Zt:=by unfold Zt;omega
  simp only[BT.plan,Ze.enc_mk,pt];refine cE ?_;simp +contextual -implicitDefEqProofs (maxSteps:=10^7) only[go_sem,seval,↓gZ,QU,Zj,h1]
 | .cut d a l r,gX,gY,gW,gH,hg,hf,hl=>by
  simp only[BT.cnt] at hl;have h1:1*88≤Zt∧1≤Zt:=by unfold Zt;omega
  simp only[inB] at hg;simp only[BT.plan,Ze.enc_mk];cases d with
  | true=>
   simp only[Z4,Kb,Kk,Kh] at hf;have e0:=VI 2 a 0 false [l.plan.enc,r.plan.enc] gX gY gW gH rfl ⟨by omega,by omega⟩ ⟨by omega,by omega⟩;have e1:=QY ps l gX gY a gH [.agg [J 2,J a,J 0,.bool false,.sl [l.plan.enc,r.plan.enc],J gX,J gY,J gW,J gH]] false (by simp only[inB];omega) hf.1.2 (by simp only[Kg,Ki,KA];omega);have e2:=QY ps r (gX+a) gY (gW-a) gH (.agg [J 2,J a,J 0,.bool false,.sl [l.plan.enc,r.plan.enc],J gX,J gY,J gW,J gH] :: (pt l gX gY a gH).map Part.enc) false (by simp only[inB];omega) hf.2 (by simp only[Kg,Ki,KA,KG,U1];omega)
   refine cE ?_;simp +contextual -implicitDefEqProofs (maxSteps:=10^7) only[go_sem,seval,↓gZ,QU,Zj,h1,Q9,e0,e1,e2];simp[pt,Q9,BT.plan,Part.enc_mk]
  | false=>
   simp only[Z4,Kb,Kk,Ka,Kf] at hf;have e0:=YC 3 a 0 false [l.plan.enc,r.plan.enc] gX gY gW gH (by decide) ⟨by omega,by omega⟩ ⟨by omega,by omega⟩;have e1:=QY ps l gX gY gW a [.agg [J 3,J a,J 0,.bool false,.sl [l.plan.enc,r.plan.enc],J gX,J gY,J gW,J gH]] false (by simp only[inB];omega) hf.1.2 (by simp only[Kg,Ki,KA];omega);have e2:=QY ps r gX (gY+a) gW (gH-a) (.agg [J 3,J a,J 0,.bool false,.sl [l.plan.enc,r.plan.enc],J gX,J gY,J gW,J gH] :: (pt l gX gY gW a).map Part.enc) false (by simp only[inB];omega) hf.2 (by simp only[Kg,Ki,KA,KG,U1];omega)
   refine cE ?_;simp +contextual -implicitDefEqProofs (maxSteps:=10^7) only[go_sem,seval,↓gZ,QU,Zj,h1,Q9,e0,e1,e2];simp[pt,Q9,BT.plan,Part.enc_mk]
theorem ZaP (kW kH:Int) (kP:List Pane) (p:Ze):Zl Xs Ms YW [(.d (.agg [J kW,J kH,.sl (kP.map Pane.enc)])),.d p.enc] []=some (.own 0,[.row 9 ((XJ (QR.mk kW kH kP) p).map Part.enc) (!XN (QR.mk kW kH kP) p) false]):=by
 have hv:=Zho kW kH kP p;unfold XN at hv;unfold XJ XN;cases hb:Qp p with
 | none=>
  rw[hb] at hv;obtain⟨o,a,q,t,ks⟩:=p;rw[Ze.enc_mk] at hv ⊢;refine cE ?_;simp +contextual -implicitDefEqProofs (maxSteps:=10^7) only[go_sem,seval,↓gZ,Ue,hv];try rfl
 | some b=>
  have hp:=Y6 hb;rw[hb] at hv;dsimp only at hv ⊢;by_cases hh:(decide (VW (QR.mk kW kH kP))&&decide (b.cnt≤255)&&Z4 kP b kW kH)=true
  ·have aa:=hh;simp only[Kb,Kk] at aa;have hw:=aa.1.1;simp only[VW] at hw;have ab:=Zhz kP b 0 0 kW kH (by simp only[inB];omega) aa.2 (by omega);rw[← hp] at ab;rw[hh] at hv ⊢;obtain⟨o,a,q,t,ks⟩:=p;rw[Ze.enc_mk] at hv ab ⊢;refine cE ?_;simp +contextual -implicitDefEqProofs (maxSteps:=10^7) only[go_sem,seval,↓gZ,Ue,ZdY,hv,ab];try rfl
  ·have hf:=(Bool.not_eq_true _).mp hh;rw[hf] at hv ⊢;obtain⟨o,a,q,t,ks⟩:=p;rw[Ze.enc_mk] at hv ⊢;refine cE ?_;simp +contextual -implicitDefEqProofs (maxSteps:=10^7) only[go_sem,seval,↓gZ,Ue,hv];try rfl
theorem ZhA (k:QR) (p:Ze):(XJ k p).length≤255:=by
 unfold XJ;split
 ·split
  ·rename_i h;simp only[Kb,Kk] at h;rw[U1];exact h.1.2
  ·simp
 ·simp
theorem Zh3 (kW kH:Int) (kP:List Pane) (p:Ze):Zl Xs Ms Ww [(.d (.agg [J kW,J kH,.sl (kP.map Pane.enc)])),.d p.enc] []=some (.own 0,[.row 6 (((XJ (QR.mk kW kH kP) p).filterMap W1).map Place.enc) true false]):=by
 have hv:=ZaP kW kH kP p;have hn:=ZhA (QR.mk kW kH kP) p;generalize (!XN (QR.mk kW kH kP) p)=e at hv;generalize XJ (QR.mk kW kH kP) p=ps at hv hn ⊢;obtain⟨o,a,q,t,ks⟩:=p;rw[Ze.enc_mk] at hv ⊢;refine cE ?_;simp +contextual -implicitDefEqProofs (maxSteps:=10^7) only[go_sem,seval,↓gZ,ZaS,hv];refine LO (α:=Nat) (fun k=>[(12,.d (J (k:Int)))]) (fun k=>[(1,.row 6 (((ps.take k).filterMap W1).map Place.enc) true false)]) (fun k=>k≤ps.length) (fun k=>ps.length-k) 0 (by omega) ?_;intro k hk ih;by_cases aa:k<ps.length
 ·obtain⟨x,hx⟩:=Qx aa;have hw:=ZY (k:=k) (by omega);have hm:=Znj (f:=W1) hx;have ab:((ps.take k).filterMap W1).length≤k:=K1 (Lp _ _) (by simp;omega);have hr:(((ps.take k).filterMap W1).length+1)*48≤140737488355328∧((ps.take k).filterMap W1).length≤140737488355327:=by omega
  obtain⟨⟨o',a',q',t',ad⟩,⟨X,Y,W,H⟩⟩:=x;simp only[W1] at hm;by_cases ho:o'=1
  ·rw[Kv ho] at hm;simp +contextual -implicitDefEqProofs (maxSteps:=10^7) only[go_sem,seval,↓gZ,hx,aa,hw,ho,hr];refine ih (k+1) _ (by omega) (by omega) ?_;simp +contextual -implicitDefEqProofs (maxSteps:=10^7) only[go_sem,seval,↓gZ,hm]
   first | rfl | (simp;done) | (simp;rfl)
  ·rw[Kp ho] at hm;simp +contextual -implicitDefEqProofs (maxSteps:=10^7) only[go_sem,seval,↓gZ,hx,aa,hw,ho,hr];refine ih (k+1) _ (by omega) (by omega) ?_;simp +contextual -implicitDefEqProofs (maxSteps:=10^7) only[go_sem,seval,↓gZ,hm]
   first | rfl | (simp;done) | (simp;rfl)
 ·have:k=ps.length:=by omega
  subst this;simp +contextual -implicitDefEqProofs (maxSteps:=10^7) only[go_sem,seval,↓gZ];simp
theorem Zh4 (kW kH:Int) (kP:List Pane) (p:Ze):Zl Xs Ms Wx [(.d (.agg [J kW,J kH,.sl (kP.map Pane.enc)])),.d p.enc] []=some (.own 0,[.row 4 (((XJ (QR.mk kW kH kP) p).filterMap VG).map Box.enc) true false]):=by
 have hv:=ZaP kW kH kP p;have hn:=ZhA (QR.mk kW kH kP) p;generalize (!XN (QR.mk kW kH kP) p)=e at hv;generalize XJ (QR.mk kW kH kP) p=ps at hv hn ⊢;obtain⟨o,a,q,t,ks⟩:=p;rw[Ze.enc_mk] at hv ⊢;refine cE ?_;simp +contextual -implicitDefEqProofs (maxSteps:=10^7) only[go_sem,seval,↓gZ,ZaT,hv];refine LO (α:=Nat) (fun k=>[(12,.d (J (k:Int)))]) (fun k=>[(1,.row 4 (((ps.take k).filterMap VG).map Box.enc) true false)]) (fun k=>k≤ps.length) (fun k=>ps.length-k) 0 (by omega) ?_;intro k hk ih;by_cases aa:k<ps.length
 ·obtain⟨x,hx⟩:=Qx aa;have hw:=ZY (k:=k) (by omega);have hm:=Znj (f:=VG) hx;have ab:((ps.take k).filterMap VG).length≤k:=K1 (Lp _ _) (by simp;omega);have hr:(((ps.take k).filterMap VG).length+1)*32≤140737488355328∧((ps.take k).filterMap VG).length≤140737488355327:=by omega
  obtain⟨⟨o',a',q',t',ad⟩,⟨X,Y,W,H⟩⟩:=x;simp only[VG] at hm;by_cases ho:o'=0
  ·rw[Kv ho] at hm;simp +contextual -implicitDefEqProofs (maxSteps:=10^7) only[go_sem,seval,↓gZ,hx,aa,hw,ho,hr];refine ih (k+1) _ (by omega) (by omega) ?_;simp +contextual -implicitDefEqProofs (maxSteps:=10^7) only[go_sem,seval,↓gZ,hm]
   first | rfl | (simp;done) | (simp;rfl)
  ·rw[Kp ho] at hm;simp +contextual -implicitDefEqProofs (maxSteps:=10^7) only[go_sem,seval,↓gZ,hx,aa,hw,ho,hr];refine ih (k+1) _ (by omega) (by omega) ?_;simp +contextual -implicitDefEqProofs (maxSteps:=10^7) only[go_sem,seval,↓gZ,hm]
   first | rfl | (simp;done) | (simp;rfl)
 ·have:k=ps.length:=by omega
  subst this;simp +contextual -implicitDefEqProofs (maxSteps:=10^7) only[go_sem,seval,↓gZ];simp
end Go.Proofs.Ytighjmleicikhaa
namespace Go.Proofs.Ytighjmleicikhaa
open Go Go.Abs Go.Abs.E Go.Abs.L
open Nat (reduceMul reduceSub reduceLeDiff reduceEqDiff)
open Int (reduceLE reduceEq reduceToNat reduceNeg)
set_option linter.unusedSimpArgs false
set_option linter.unusedVariables false
set_option maxRecDepth 20000
set_option maxHeartbeats 4000000
def fBx:Nat→List Box→Box→Int
 | _,[],_=>-1
 | k,x :: l,n=>if x=n then (k:Int) else fBx (k+1) l n
theorem ZpO {l:List Box} {k:Nat} {x n:Box} (hx:l[k]?=some x):fBx k (l.drop k) n=if x=n then (k:Int) else fBx (k+1) (l.drop (k+1)) n:=by
 obtain⟨h1,h2⟩:=Kc.1 hx;rw[KQ h1,h2,fBx]
theorem Znz:∀ {l:List Box} {k:Nat} {n:Box},n∈l→∃ i,fBx k l n=((k+i:Nat):Int)∧i<l.length∧l.eraseIdx i=l.erase n
 | [],k,n,h=>by cases h
 | x :: l,k,n,h=>by
  by_cases hx:x=n
  ·exact⟨0,by simp[fBx,hx],by simp,by simp[hx]⟩
  ·obtain⟨i,h1,h2,h3⟩:=Znz (l:=l) (k:=k+1) ((Ke.1 h).resolve_left fun e=>hx e.symm);refine⟨i+1,by simp only[fBx,hx,Kf];rw[h1];congr 1;omega,by simp only[Ki];omega,?_⟩;rw[List.eraseIdx_cons_succ,h3,List.erase_cons_tail (by simpa using hx)]
theorem ZeG (l:List Box) (bX bY bW bH:Int) (hl:l.length<4611686018427387904):Zl Xs Ms XX [(.d (.sl (l.map Box.enc))),(.d (.agg [J bX,J bY,J bW,J bH]))] []=some ((.d (J (fBx 0 l (Box.mk bX bY bW bH)))),[]):=by
 refine cE ?_;simp +contextual -implicitDefEqProofs (maxSteps:=10^7) only[go_sem,seval,↓gZ,WY];refine LO (α:=Nat) (fun k=>[(8,.d (J (k:Int)))]) (fun _=>[]) (fun k=>k≤l.length∧fBx k (l.drop k) (Box.mk bX bY bW bH)=fBx 0 l (Box.mk bX bY bW bH)) (fun k=>l.length-k) 0 ⟨by omega,rfl⟩ ?_;intro k ⟨hk,hp⟩ ih;by_cases aa:k<l.length
 ·obtain⟨x,hx⟩:=Qx aa;rw[ZpO hx] at hp;have hw:=ZY (k:=k) (by omega);obtain⟨X,Y,W,H⟩:=x;simp only[Box.mk.injEq] at hp;by_cases h:X=bX∧Y=bY∧W=bW∧H=bH
  ·rw[Kv h] at hp;obtain⟨rfl,rfl,rfl,rfl⟩:=h;simp +contextual -implicitDefEqProofs (maxSteps:=10^7) only[go_sem,seval,↓gZ,hx,aa,hw];try (rw[← hp])
  ·rw[Kp h] at hp;have h' : ¬(bX=X∧bY=Y∧bW=W∧bH=H):=fun e=>h ⟨e.1.symm,e.2.1.symm,e.2.2.1.symm,e.2.2.2.symm⟩;simp +contextual -implicitDefEqProofs (maxSteps:=10^7) only[go_sem,seval,↓gZ,hx,aa,hw,← Lg,h,h'];refine ih (k+1) _ ⟨by omega,hp⟩ (by omega) ?_;simp +contextual -implicitDefEqProofs (maxSteps:=10^7) only[go_sem,seval,↓gZ]
 ·have:k=l.length:=by omega
  subst this;simp +contextual -implicitDefEqProofs (maxSteps:=10^7) only[go_sem,seval,↓gZ];rw[← hp];simp[fBx]
theorem ZcD {α β:Type} (f:α→β):∀ (l:List α) (i:Nat),(l.map f).eraseIdx i=(l.eraseIdx i).map f
 | [],_=>rfl
 | _ :: _,0=>rfl
 | x :: l,i+1=>by simp[ZcD f l i]
theorem Zd2 (l:List Box) (i:Nat) (hi:i<l.length):Zl Xs Ms ZA [.own 0,(.d (J i)),(.d (J ((i:Int)+1)))] [.row 4 (l.map Box.enc) true false]=some (.own 1,[.gone,.row 4 ((l.eraseIdx i).map Box.enc) true false]):=by
 refine ZmB Xs Ms Zc8 ?_;unfold Zdi;simp only;rw[Kv ⟨rfl,by omega,rfl,by simp;omega,by rw[Zqy];trivial,by rw[Zpd];trivial,rfl,rfl⟩,Int.toNat_natCast,ZcD]
def rsV:Option (List Box)→AV×List Zh
 | some t=>(.tup [.own 0,(.d (.bool true))],[.row 4 (t.map Box.enc) true false])
 | none=>(.tup [.own 0,(.d (.bool false))],[.row 4 [] true false])
theorem Zd3 {b:BT} (h:b.cnt≤255):∀ q∈kn b 0 (-1),0≤q.1∧q.1<255∧q.2<255:=fun q hq=>by
 have:=Jc hq;omega
theorem ZqR (b:BT) (x y w h:Int):(pt b x y w h)[0]?=some ⟨b.plan,⟨x,y,w,h⟩⟩:=by cases b<;>rfl
theorem ZeH {k:QR} {p:Ze} {b:BT} (hb:Qp p=some b):XN k p=true↔VW k∧b.cnt≤255∧Z4 k.Panes b k.W k.H=true:=by
 unfold XN;rw[hb];simp only[Kb,Kk,and_assoc]
theorem Zjk {c g:Box} (hc:Jd c) (hi:Q6 c g) (hg:g.X=0∧g.Y=0∧g.W≤200∧g.H≤200):0≤c.X∧0≤c.Y∧c.X+c.W≤200∧c.Y+c.H≤200∧1≤c.W∧1≤c.H:=by
 unfold Jd at hc;unfold Q6 at hi;omega
theorem Zlx {ps:List Pane} {d:Bool} {a:Int} {l r:BT} {w h:Int} (hf:Z4 ps (.cut d a l r) w h=true):1≤a∧a≤(if d then w else h)-1:=by
 cases d
 ·simp only[Z4,Kb,Ka,Kf,Kk] at hf ⊢;exact hf.1.1
 ·simp only[Z4,Kb,Kh,Kk] at hf ⊢;exact hf.1.1
theorem ZhB (d:Bool) (a:Int) (l r:BT) (cX cY cW cH:Int) (hc:0≤cX∧0≤cY∧cX+cW≤200∧cY+cH≤200∧1≤cW∧1≤cH) (ha:1≤a∧a≤(if d then cW else cH)-1) :
  Zl Xs Ms Xh [.d (BT.cut d a l r).plan.enc,(.d (.agg [J cX,J cY,J cW,J cH]))] []=some (.tup [.d (XL d a (Box.mk cX cY cW cH)).enc,.d (X5 d a (Box.mk cX cY cW cH)).enc],[]):=by
 simp only[BT.plan,Ze.enc_mk,Km,Ku];cases d
 ·simp only[Ka,Kf] at ha;exact YC 3 a 0 false [l.plan.enc,r.plan.enc] cX cY cW cH (by decide) ⟨by omega,by omega⟩ ⟨by omega,by omega⟩
 ·simp only[Kh] at ha;exact VI 2 a 0 false [l.plan.enc,r.plan.enc] cX cY cW cH rfl ⟨by omega,by omega⟩ ⟨by omega,by omega⟩
theorem ZcE (kW kH:Int) (kP:List Pane) (p:Ze) (s:List Int) (hs:s.length≤1048576):Zl Xs Ms Vd [(.d (.agg [J kW,J kH,.sl (kP.map Pane.enc)])),.d p.enc,.d (.sl (s.map Xa))] []=some (rsV (Ub (QR.mk kW kH kP) p s)):=by
 have e1:=ZaP kW kH kP p;have e2:=Zd1 p;by_cases hv:XN (QR.mk kW kH kP) p=true
 ·cases hb:Qp p with
  | none=>simp[XN,hb] at hv
  | some b=>
   have hp:=Y6 hb;obtain⟨hw,hc,hf⟩:=(ZeH hb).1 hv;have e3:=Zad (kn b 0 (-1)) s (Zd3 hc) (K1 (XV b 0 (-1)) hc) hs;have ae:Um p=kn b 0 (-1):=by unfold Um;rw[hb];simp only[hc,Kh]
   have af:wfP p=true:=by
    have hz:=ZH 255 b;have:=b.cnt_pos;unfold wfP;rw[hb];exact K7 (by omega)
   have aa:XJ (QR.mk kW kH kP) p=pt b 0 0 kW kH:=by
    unfold XJ;rw[hb];have:=hv;unfold XN at this;rw[hb] at this;simp only at this ⊢;rw[Kv this]
   have aj:=U1 b 0 0 kW kH;have h0:=ZqR b 0 0 kW kH;have ak:=b.cnt_pos;simp only[VW] at hw;rw[aa,hv] at e1;rw[ae,af] at e2;have ab:Ub (QR.mk kW kH kP) p s=if okS (kn b 0 (-1)) [] s=true then some (goS b ⟨0,0,kW,kH⟩ [⟨0,0,kW,kH⟩] s) else none:=by
    unfold Ub;rw[hb];simp only[hv,KO]
   rw[ab];clear ab aa ae af;generalize hP:pt b 0 0 kW kH=P at *;have ag:¬(P.length:Int)=0:=by omega
   have ah:0<P.length:=by omega
   cases hok:okS (kn b 0 (-1)) [] s with
   | false=>
    rw[hok] at e3;simp only[Ka,Kf,rsV];obtain⟨o,a,q,t,ks⟩:=p;rw[Ze.enc_mk] at e1 e2 ⊢;refine cE ?_;simp +contextual -implicitDefEqProofs (maxSteps:=10^7) only[go_sem,seval,↓gZ,WC,e1,e2,e3,ag,ah]
   | true=>
    rw[hok] at e3;simp only[Kh,rsV];have hg:Jd ⟨0,0,kW,kH⟩:=by unfold Jd;simp only;omega
    rw[← hp] at h0;clear hb hp;obtain⟨o,a,q,t,ks⟩:=p;rw[Ze.enc_mk] at e1 e2 ⊢;refine cE ?_;simp +contextual -implicitDefEqProofs (maxSteps:=10^7) only[go_sem,seval,↓gZ,WC,e1,e2,e3,ag,ah,h0];refine LO (α:=Nat×List Box) (fun x=>[(45,.d (J (x.1:Int)))]) (fun x=>[(0,.row 4 (x.2.map Box.enc) true false)]) (fun x=>x.1≤s.length∧(Cl (s.take x.1) b 0∧x.2.Perm (Xg (s.take x.1) b 0 ⟨0,0,kW,kH⟩)∧x.2.length≤x.1+1)∧goS b ⟨0,0,kW,kH⟩ x.2 (s.drop x.1)=goS b ⟨0,0,kW,kH⟩ [⟨0,0,kW,kH⟩] s∧okS (kn b 0 (-1)) (s.take x.1) (s.drop x.1)=true) (fun x=>s.length-x.1) (0,[⟨0,0,kW,kH⟩]) ⟨by simp,⟨ZeF b 0,by simp[ZfO],by simp⟩,by simp,by simpa using hok⟩ ?_
    intro⟨i,t⟩ ⟨hi,⟨hC,ht,htl⟩,hgo,ho⟩ ih;simp only at hi hC ht htl hgo ho;by_cases ai:i<s.length
    ·obtain⟨m,hx⟩:=Qx ai;have al:=ZY (k:=i) (by omega);rw[Zhy hx,Kb] at ho;obtain⟨d,a',l,r,c,hm,n1,n2,n3,n4,n5,n6,n7,n8⟩:=Zke hf hg hC ht ho.1;obtain⟨m',rfl⟩:∃ n:Nat,m=(n:Int):=⟨m.toNat,by omega⟩
     obtain⟨g1,g2⟩:=Zkc (by omega) n1;simp only[Int.sub_zero,Int.toNat_natCast,hP] at g1;have am:m' < P.length:=(Kc.1 g1).1;obtain⟨j,j1,j2,j3⟩:=Znz (k:=0) n5;have an:goS b ⟨0,0,kW,kH⟩ t (s.drop i)=goS b ⟨0,0,kW,kH⟩ (t.erase c++[XL d a' c,X5 d a' c]) (s.drop (i+1)):=by
      obtain⟨k1,k2⟩:=Kc.1 hx;rw[KQ k1,k2,Zhs n1]
     rw[an] at hgo;have ao:=Zjk n4 n3 ⟨rfl,rfl,by simp only;omega,by simp only;omega⟩;have au:=List.length_erase_of_mem n5;have ap:s.take (i+1)=s.take i++[(m' : Int)]:=by rw[Lb,hx];rfl
     rw[← ap] at n7 n8;obtain⟨cX,cY,cW,cH⟩:=c;have ei:=ZeG t cX cY cW cH (by omega);have ed:=Zd2 t j j2;have es:=ZhB d a' l r cX cY cW cH ao (Zlx n2);rw[j1,K0] at ei;rw[j3] at ed;have aq:¬(j:Int)<0:=by omega
     have ar:=wi ((j:Int)+1) (by omega) (by omega);have hr:((t.erase ⟨cX,cY,cW,cH⟩).length+2)*32≤140737488355328∧(t.erase ⟨cX,cY,cW,cH⟩).length+1≤140737488355327∧(t.erase ⟨cX,cY,cW,cH⟩).length+2≤140737488355327∧(t.erase ⟨cX,cY,cW,cH⟩).length+2≤140737488355328:=by omega
     simp only[BT.plan,Ze.enc_mk,Km,Ku] at es g1;simp +contextual -implicitDefEqProofs (maxSteps:=10^7) only[go_sem,seval,↓gZ,hx,ai,al,g1,am,ei,ed,es,aq,ar,hr];refine ih (i+1,t.erase ⟨cX,cY,cW,cH⟩++[XL d a' ⟨cX,cY,cW,cH⟩,X5 d a' ⟨cX,cY,cW,cH⟩]) _ ⟨by simp only;omega,⟨n7,n8,by simp only[Kg,Ki,KA];omega⟩,hgo,ho.2⟩ (by simp only;omega) ?_;simp +contextual -implicitDefEqProofs (maxSteps:=10^7) only[go_sem,seval,↓gZ,Lf]
    ·have:i=s.length:=by omega
     subst this;rw[List.drop_length,goS] at hgo;rw[← hgo];simp +contextual -implicitDefEqProofs (maxSteps:=10^7) only[go_sem,seval,↓gZ]
 ·have ad : XN (QR.mk kW kH kP) p=false:=Bool.eq_false_iff.2 hv;have aa:XJ (QR.mk kW kH kP) p=[]:=by
   unfold XJ;cases hb:Qp p with
   | none=>rfl
   | some b=>
    have:=ad;unfold XN at this;rw[hb] at this;simp only at this ⊢;rw[this];rfl
  have ab:Ub (QR.mk kW kH kP) p s=none:=by
   unfold Ub;cases Qp p with
   | none=>rfl
   | some b=>simp only[ad,K6,Ka,Kf]
  rw[ab,rsV];rw[aa,ad] at e1;obtain⟨o,a,q,t,ks⟩:=p;rw[Ze.enc_mk] at e1 e2 ⊢;refine cE ?_;simp +contextual -implicitDefEqProofs (maxSteps:=10^7) only[go_sem,seval,↓gZ,WC,e1,e2]
end Go.Proofs.Ytighjmleicikhaa
