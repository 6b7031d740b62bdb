/- Own text. -/
import Derived.Test.YtefabmohhbhlfaaACode
import Derived.Test.YtefabmohhbhlfaaAbsParts
import Derived.Test.YtefabmohhbhlfaaAC1
import Derived.Test.YtefabmohhbhlfaaAbsOkD
import Derived.Test.YtefabmohhbhlfaaAC6
namespace Go.Proofs.Ytefabmohhbhlfaa
open Go Go.Abs Go.Abs.E Go.Abs.L
open Nat (reduceMul reduceSub reduceLeDiff reduceEqDiff)
open Int (reduceLE reduceEq reduceToNat reduceNeg)
set_option linter.unusedSimpArgs false
set_option linter.unusedVariables false
set_option maxRecDepth 20000
set_option maxHeartbeats 4000000
theorem Q9 (ps:List Pane):∀ (b:BT) (gX gY gW gH:Int) (xs:List D) (ex:Bool),inB (Box.mk gX gY gW gH)→Qd ps b gW gH=true→xs.length+b.cnt≤1000 →
  Zi Xs Ms Z2 [.own 0,.d b.plan.enc,(.d (.agg [J gX,J gY,J gW,J gH]))] [.row 9 xs ex false]=some (.own 1,[.gone,.row 9 (xs++(pt b gX gY gW gH).map Part.enc) false false])
 | .waste,gX,gY,gW,gH,xs,ex,hg,hf,hl=>by
  simp only[BT.cnt] at hl;have h1:(xs.length+1)*88≤140737488355328∧xs.length≤140737488355327:=by omega
  simp only[BT.plan,Zh.enc_mk,pt];refine cE ?_;simp +contextual -implicitDefEqProofs (maxSteps:=10^7) only[go_sem,seval,↓gZ,Q6,Zj,h1]
 | .pane i t,gX,gY,gW,gH,xs,ex,hg,hf,hl=>by
  simp only[BT.cnt] at hl;have h1:(xs.length+1)*88≤140737488355328∧xs.length≤140737488355327:=by omega
  simp only[BT.plan,Zh.enc_mk,pt];refine cE ?_;simp +contextual -implicitDefEqProofs (maxSteps:=10^7) only[go_sem,seval,↓gZ,Q6,Zj,h1]
 | .cut d a l r,gX,gY,gW,gH,xs,ex,hg,hf,hl=>by
  simp only[BT.cnt] at hl;have h1:(xs.length+1)*88≤140737488355328∧xs.length≤140737488355327:=by omega
  simp only[inB] at hg;simp only[BT.plan,Zh.enc_mk];cases d with
  | true=>
   simp only[Qd,Kb,Kj,Kg] at hf;have e0:=Wc 2 a 0 false [l.plan.enc,r.plan.enc] gX gY gW gH rfl ⟨by omega,by omega⟩ ⟨by omega,by omega⟩;have e1:=Q9 ps l gX gY a gH (xs++[.agg [J 2,J a,J 0,.bool false,.sl [l.plan.enc,r.plan.enc],J gX,J gY,J gW,J gH]]) false (by simp only[inB];omega) hf.1.2 (by simp only[Kk,Ki,KD];omega);have e2:=Q9 ps r (gX+a) gY (gW-a) gH (xs++[.agg [J 2,J a,J 0,.bool false,.sl [l.plan.enc,r.plan.enc],J gX,J gY,J gW,J gH]]++(pt l gX gY a gH).map Part.enc) false (by simp only[inB];omega) hf.2 (by simp only[Kk,Ki,KD,Kt,JW];omega)
   refine cE ?_;simp +contextual -implicitDefEqProofs (maxSteps:=10^7) only[go_sem,seval,↓gZ,Q6,Zj,h1,Yx,e0,e1,e2];simp[pt,Yx,BT.plan,Part.enc_mk]
  | false=>
   simp only[Qd,Kb,Kj,Ka,Kf] at hf;have e0:=YR 3 a 0 false [l.plan.enc,r.plan.enc] gX gY gW gH (by decide) ⟨by omega,by omega⟩ ⟨by omega,by omega⟩;have e1:=Q9 ps l gX gY gW a (xs++[.agg [J 3,J a,J 0,.bool false,.sl [l.plan.enc,r.plan.enc],J gX,J gY,J gW,J gH]]) false (by simp only[inB];omega) hf.1.2 (by simp only[Kk,Ki,KD];omega);have e2:=Q9 ps r gX (gY+a) gW (gH-a) (xs++[.agg [J 3,J a,J 0,.bool false,.sl [l.plan.enc,r.plan.enc],J gX,J gY,J gW,J gH]]++(pt l gX gY gW a).map Part.enc) false (by simp only[inB];omega) hf.2 (by simp only[Kk,Ki,KD,Kt,JW];omega)
   refine cE ?_;simp +contextual -implicitDefEqProofs (maxSteps:=10^7) only[go_sem,seval,↓gZ,Q6,Zj,h1,Yx,e0,e1,e2];simp[pt,Yx,BT.plan,Part.enc_mk]
theorem Zil (ps:List Pane):∀ (b:BT) (gX gY gW gH:Int),inB (Box.mk gX gY gW gH)→Qd ps b gW gH=true→b.cnt≤1000 →
  Zi Xs Ms Z2 [.nil,.d b.plan.enc,(.d (.agg [J gX,J gY,J gW,J gH]))] []=some (.own 0,[.row 9 ((pt b gX gY gW gH).map Part.enc) false false])
 | .waste,gX,gY,gW,gH,hg,hf,hl=>by
  have h1:1*88≤Zy∧1≤Zy:=by unfold Zy;omega
  simp only[BT.plan,Zh.enc_mk,pt];refine cE ?_;simp +contextual -implicitDefEqProofs (maxSteps:=10^7) only[go_sem,seval,↓gZ,Q6,Zj,h1]
 | .pane i t,gX,gY,gW,gH,hg,hf,hl=>by
  have h1:1*88≤Zy∧1≤Zy:=by unfold Zy;omega
  simp only[BT.plan,Zh.enc_mk,pt];refine cE ?_;simp +contextual -implicitDefEqProofs (maxSteps:=10^7) only[go_sem,seval,↓gZ,Q6,Zj,h1]
 | .cut d a l r,gX,gY,gW,gH,hg,hf,hl=>by
  simp only[BT.cnt] at hl;have h1:1*88≤Zy∧1≤Zy:=by unfold Zy;omega
  simp only[inB] at hg;simp only[BT.plan,Zh.enc_mk];cases d with
  | true=>
   simp only[Qd,Kb,Kj,Kg] at hf;have e0:=Wc 2 a 0 false [l.plan.enc,r.plan.enc] gX gY gW gH rfl ⟨by omega,by omega⟩ ⟨by omega,by omega⟩;have e1:=Q9 ps l gX gY a gH [.agg [J 2,J a,J 0,.bool false,.sl [l.plan.enc,r.plan.enc],J gX,J gY,J gW,J gH]] false (by simp only[inB];omega) hf.1.2 (by simp only[Kk,Ki,KD];omega);have e2:=Q9 ps r (gX+a) gY (gW-a) gH (.agg [J 2,J a,J 0,.bool false,.sl [l.plan.enc,r.plan.enc],J gX,J gY,J gW,J gH] :: (pt l gX gY a gH).map Part.enc) false (by simp only[inB];omega) hf.2 (by simp only[Kk,Ki,KD,Kt,JW];omega)
   refine cE ?_;simp +contextual -implicitDefEqProofs (maxSteps:=10^7) only[go_sem,seval,↓gZ,Q6,Zj,h1,Yx,e0,e1,e2];simp[pt,Yx,BT.plan,Part.enc_mk]
  | false=>
   simp only[Qd,Kb,Kj,Ka,Kf] at hf;have e0:=YR 3 a 0 false [l.plan.enc,r.plan.enc] gX gY gW gH (by decide) ⟨by omega,by omega⟩ ⟨by omega,by omega⟩;have e1:=Q9 ps l gX gY gW a [.agg [J 3,J a,J 0,.bool false,.sl [l.plan.enc,r.plan.enc],J gX,J gY,J gW,J gH]] false (by simp only[inB];omega) hf.1.2 (by simp only[Kk,Ki,KD];omega);have e2:=Q9 ps r gX (gY+a) gW (gH-a) (.agg [J 3,J a,J 0,.bool false,.sl [l.plan.enc,r.plan.enc],J gX,J gY,J gW,J gH] :: (pt l gX gY gW a).map Part.enc) false (by simp only[inB];omega) hf.2 (by simp only[Kk,Ki,KD,Kt,JW];omega)
   refine cE ?_;simp +contextual -implicitDefEqProofs (maxSteps:=10^7) only[go_sem,seval,↓gZ,Q6,Zj,h1,Yx,e0,e1,e2];simp[pt,Yx,BT.plan,Part.enc_mk]
theorem ZeJ (kW kH:Int) (kP:List Pane) (p:Zh):Zi Xs Ms Wn [(.d (.agg [J kW,J kH,.sl (kP.map Pane.enc)])),.d p.enc] []=some (.own 0,[.row 9 ((Xb (ZN.mk kW kH kP) p).map Part.enc) (!Yy (ZN.mk kW kH kP) p) false]):=by
 have hv:=Zca kW kH kP p;unfold Yy at hv;unfold Xb Yy;cases hb:Xa p with
 | none=>
  rw[hb] at hv;obtain⟨o,a,q,t,ks⟩:=p;rw[Zh.enc_mk] at hv ⊢;refine cE ?_;simp +contextual -implicitDefEqProofs (maxSteps:=10^7) only[go_sem,seval,↓gZ,UN,hv];try rfl
 | some b=>
  have hp:=Za8 hb;rw[hb] at hv;dsimp only at hv ⊢;by_cases hh:(decide (VW (ZN.mk kW kH kP))&&decide (b.cnt≤255)&&Qd kP b kW kH)=true
  ·have aa:=hh;simp only[Kb,Kj] at aa;have hw:=aa.1.1;simp only[VW] at hw;have ab:=Zil kP b 0 0 kW kH (by simp only[inB];omega) aa.2 (by omega);rw[← hp] at ab;rw[hh] at hv ⊢;obtain⟨o,a,q,t,ks⟩:=p;rw[Zh.enc_mk] at hv ab ⊢;refine cE ?_;simp +contextual -implicitDefEqProofs (maxSteps:=10^7) only[go_sem,seval,↓gZ,UN,Ja,hv,ab];try rfl
  ·have hf:=(Kab _).mp hh;rw[hf] at hv ⊢;obtain⟨o,a,q,t,ks⟩:=p;rw[Zh.enc_mk] at hv ⊢;refine cE ?_;simp +contextual -implicitDefEqProofs (maxSteps:=10^7) only[go_sem,seval,↓gZ,UN,hv];try rfl
theorem Zim (k:ZN) (p:Zh):(Xb k p).length≤255:=by
 unfold Xb;split
 ·split
  ·rename_i h;simp only[Kb,Kj] at h;rw[JW];exact h.1.2
  ·simp
 ·simp
theorem ZdG (kW kH:Int) (kP:List Pane) (p:Zh):Zi Xs Ms Vw [(.d (.agg [J kW,J kH,.sl (kP.map Pane.enc)])),.d p.enc] []=some (.own 0,[.row 6 (((Xb (ZN.mk kW kH kP) p).filterMap X2).map Place.enc) true false]):=by
 have hv:=ZeJ kW kH kP p;have hn:=Zim (ZN.mk kW kH kP) p;generalize (!Yy (ZN.mk kW kH kP) p)=e at hv;generalize Xb (ZN.mk kW kH kP) p=ps at hv hn ⊢;obtain⟨o,a,q,t,ks⟩:=p;rw[Zh.enc_mk] at hv ⊢;refine cE ?_;simp +contextual -implicitDefEqProofs (maxSteps:=10^7) only[go_sem,seval,↓gZ,Zbl,hv];refine LO (α:=Nat) (fun k=>[(12,.d (J (k:Int)))]) (fun k=>[(1,.row 6 (((ps.take k).filterMap X2).map Place.enc) true false)]) (fun k=>k≤ps.length) (fun k=>ps.length-k) 0 (by omega) ?_;intro k hk ih;by_cases aa:k<ps.length
 ·obtain⟨x,hx⟩:=ZY aa;have hw:=Zn (k:=k) (by omega);have hm:=Zup (f:=X2) hx;have ab:((ps.take k).filterMap X2).length≤k:=Le (LF _ _) (by simp;omega);have hr:(((ps.take k).filterMap X2).length+1)*48≤140737488355328∧((ps.take k).filterMap X2).length≤140737488355327:=by omega
  obtain⟨⟨o',a',q',t',ad⟩,⟨X,Y,W,H⟩⟩:=x;simp only[X2] at hm;by_cases ho:o'=1
  ·rw[Km ho] at hm;simp +contextual -implicitDefEqProofs (maxSteps:=10^7) only[go_sem,seval,↓gZ,hx,aa,hw,ho,hr];refine ih (k+1) _ (by omega) (by omega) ?_;simp +contextual -implicitDefEqProofs (maxSteps:=10^7) only[go_sem,seval,↓gZ,hm]
   first | rfl | (simp;done) | (simp;rfl)
  ·rw[Kl ho] at hm;simp +contextual -implicitDefEqProofs (maxSteps:=10^7) only[go_sem,seval,↓gZ,hx,aa,hw,ho,hr];refine ih (k+1) _ (by omega) (by omega) ?_;simp +contextual -implicitDefEqProofs (maxSteps:=10^7) only[go_sem,seval,↓gZ,hm]
   first | rfl | (simp;done) | (simp;rfl)
 ·have:k=ps.length:=by omega
  subst this;simp +contextual -implicitDefEqProofs (maxSteps:=10^7) only[go_sem,seval,↓gZ];simp
end Go.Proofs.Ytefabmohhbhlfaa
namespace Go.Proofs.Ytefabmohhbhlfaa
open Go Go.Abs Go.Abs.E Go.Abs.L
open Nat (reduceMul reduceSub reduceLeDiff reduceEqDiff)
open Int (reduceLE reduceEq reduceToNat reduceNeg)
set_option linter.unusedSimpArgs false
set_option linter.unusedVariables false
set_option maxRecDepth 20000
set_option maxHeartbeats 4000000
def fBx:Nat→List Box→Box→Int
 | _,[],_=>-1
 | k,x :: l,n=>if x=n then (k:Int) else fBx (k+1) l n
theorem Zsl {l:List Box} {k:Nat} {x n:Box} (hx:l[k]?=some x):fBx k (l.drop k) n=if x=n then (k:Int) else fBx (k+1) (l.drop (k+1)) n:=by
 obtain⟨h1,h2⟩:=Kd.1 hx;rw[Lm h1,h2,fBx]
theorem ZpY:∀ {l:List Box} {k:Nat} {n:Box},n∈l→∃ i,fBx k l n=((k+i:Nat):Int)∧i<l.length∧l.eraseIdx i=l.erase n
 | [],k,n,h=>by cases h
 | x :: l,k,n,h=>by
  by_cases hx:x=n
  ·exact⟨0,by simp[fBx,hx],by simp,by simp[hx]⟩
  ·obtain⟨i,h1,h2,h3⟩:=ZpY (l:=l) (k:=k+1) ((Ke.1 h).resolve_left fun e=>hx e.symm);refine⟨i+1,by simp only[fBx,hx,Kf];rw[h1];congr 1;omega,by simp only[Ki];omega,?_⟩;rw[List.eraseIdx_cons_succ,h3,List.erase_cons_tail (by simpa using hx)]
theorem ZfP (l:List Box) (bX bY bW bH:Int) (hl:l.length<4611686018427387904):Zi Xs Ms Ya [(.d (.sl (l.map Box.enc))),(.d (.agg [J bX,J bY,J bW,J bH]))] []=some ((.d (J (fBx 0 l (Box.mk bX bY bW bH)))),[]):=by
 refine cE ?_;simp +contextual -implicitDefEqProofs (maxSteps:=10^7) only[go_sem,seval,↓gZ,Uj];refine LO (α:=Nat) (fun k=>[(8,.d (J (k:Int)))]) (fun _=>[]) (fun k=>k≤l.length∧fBx k (l.drop k) (Box.mk bX bY bW bH)=fBx 0 l (Box.mk bX bY bW bH)) (fun k=>l.length-k) 0 ⟨by omega,rfl⟩ ?_;intro k ⟨hk,hp⟩ ih;by_cases aa:k<l.length
 ·obtain⟨x,hx⟩:=ZY aa;rw[Zsl hx] at hp;have hw:=Zn (k:=k) (by omega);obtain⟨X,Y,W,H⟩:=x;simp only[Box.mk.injEq] at hp;by_cases h:X=bX∧Y=bY∧W=bW∧H=bH
  ·rw[Km h] at hp;obtain⟨rfl,rfl,rfl,rfl⟩:=h;simp +contextual -implicitDefEqProofs (maxSteps:=10^7) only[go_sem,seval,↓gZ,hx,aa,hw];try (rw[← hp])
  ·rw[Kl h] at hp;have h' : ¬(bX=X∧bY=Y∧bW=W∧bH=H):=fun e=>h ⟨e.1.symm,e.2.1.symm,e.2.2.1.symm,e.2.2.2.symm⟩;simp +contextual -implicitDefEqProofs (maxSteps:=10^7) only[go_sem,seval,↓gZ,hx,aa,hw,← L2,h,h'];refine ih (k+1) _ ⟨by omega,hp⟩ (by omega) ?_;simp +contextual -implicitDefEqProofs (maxSteps:=10^7) only[go_sem,seval,↓gZ]
 ·have:k=l.length:=by omega
  subst this;simp +contextual -implicitDefEqProofs (maxSteps:=10^7) only[go_sem,seval,↓gZ];rw[← hp];simp[fBx]
theorem ZdH {α β:Type} (f:α→β):∀ (l:List α) (i:Nat),(l.map f).eraseIdx i=(l.eraseIdx i).map f
 | [],_=>rfl
 | _ :: _,0=>rfl
 | x :: l,i+1=>by simp[ZdH f l i]
theorem ZeK (l:List Box) (i:Nat) (hi:i<l.length):Zi Xs Ms ZC [.own 0,(.d (J i)),(.d (J ((i:Int)+1)))] [.row 4 (l.map Box.enc) true false]=some (.own 1,[.gone,.row 4 ((l.eraseIdx i).map Box.enc) true false]):=by
 refine Zpy Xs Ms Zd4 ?_;unfold ZeX;simp only;rw[Km ⟨rfl,by omega,rfl,by simp;omega,by rw[Zum];trivial,by rw[ZsL];trivial,rfl,rfl⟩,KZ,ZdH]
def rsV:Option (List Box)→AV×List Zg
 | some t=>(.tup [.own 0,(.d (.bool true))],[.row 4 (t.map Box.enc) true false])
 | none=>(.tup [.own 0,(.d (.bool false))],[.row 4 [] true false])
theorem Znd {b:BT} (h:b.cnt≤255):∀ q∈kn b 0 (-1),0≤q.1∧q.1<255∧q.2<255:=fun q hq=>by
 have:=VQ hq;omega
theorem ZtP (b:BT) (x y w h:Int):(pt b x y w h)[0]?=some ⟨b.plan,⟨x,y,w,h⟩⟩:=by cases b<;>rfl
theorem ZkV {k:ZN} {p:Zh} {b:BT} (hb:Xa p=some b):Yy k p=true↔VW k∧b.cnt≤255∧Qd k.Panes b k.W k.H=true:=by
 unfold Yy;rw[hb];simp only[Kb,Kj,and_assoc]
theorem ZqT {c g:Box} (hc:ZaW c) (hi:ZQ c g) (hg:g.X=0∧g.Y=0∧g.W≤200∧g.H≤200):0≤c.X∧0≤c.Y∧c.X+c.W≤200∧c.Y+c.H≤200∧1≤c.W∧1≤c.H:=by
 unfold ZaW at hc;unfold ZQ at hi;omega
theorem Zsm {ps:List Pane} {d:Bool} {a:Int} {l r:BT} {w h:Int} (hf:Qd ps (.cut d a l r) w h=true):1≤a∧a≤(if d then w else h)-1:=by
 cases d
 ·simp only[Qd,Kb,Ka,Kf,Kj] at hf ⊢;exact hf.1.1
 ·simp only[Qd,Kb,Kg,Kj] at hf ⊢;exact hf.1.1
theorem Zin (d:Bool) (a:Int) (l r:BT) (cX cY cW cH:Int) (hc:0≤cX∧0≤cY∧cX+cW≤200∧cY+cH≤200∧1≤cW∧1≤cH) (ha:1≤a∧a≤(if d then cW else cH)-1) :
  Zi Xs Ms QH [.d (BT.cut d a l r).plan.enc,(.d (.agg [J cX,J cY,J cW,J cH]))] []=some (.tup [.d (VR d a (Box.mk cX cY cW cH)).enc,.d (WA d a (Box.mk cX cY cW cH)).enc],[]):=by
 simp only[BT.plan,Zh.enc_mk,Kn,KB];cases d
 ·simp only[Ka,Kf] at ha;exact YR 3 a 0 false [l.plan.enc,r.plan.enc] cX cY cW cH (by decide) ⟨by omega,by omega⟩ ⟨by omega,by omega⟩
 ·simp only[Kg] at ha;exact Wc 2 a 0 false [l.plan.enc,r.plan.enc] cX cY cW cH rfl ⟨by omega,by omega⟩ ⟨by omega,by omega⟩
theorem ZdI (kW kH:Int) (kP:List Pane) (p:Zh) (s:List Int) (hs:s.length≤1048576):Zi Xs Ms Vx [(.d (.agg [J kW,J kH,.sl (kP.map Pane.enc)])),.d p.enc,.d (.sl (s.map Qp))] []=some (rsV (ZeI (ZN.mk kW kH kP) p s)):=by
 have e1:=ZeJ kW kH kP p;have e2:=Jc p;by_cases hv:Yy (ZN.mk kW kH kP) p=true
 ·cases hb:Xa p with
  | none=>simp[Yy,hb] at hv
  | some b=>
   have hp:=Za8 hb;obtain⟨hw,hc,hf⟩:=(ZkV hb).1 hv;have e3:=ZaY (kn b 0 (-1)) s (Znd hc) (Le (Wz b 0 (-1)) hc) hs;have ae:Zd2 p=kn b 0 (-1):=by unfold Zd2;rw[hb];simp only[hc,Kg]
   have af:wfP p=true:=by
    have hz:=Z1 255 b;have:=b.cnt_pos;unfold wfP;rw[hb];exact Kw (by omega)
   have aa:Xb (ZN.mk kW kH kP) p=pt b 0 0 kW kH:=by
    unfold Xb;rw[hb];have:=hv;unfold Yy at this;rw[hb] at this;simp only at this ⊢;rw[Km this]
   have aj:=JW b 0 0 kW kH;have h0:=ZtP b 0 0 kW kH;have ak:=b.cnt_pos;simp only[VW] at hw;rw[aa,hv] at e1;rw[ae,af] at e2;have ab:ZeI (ZN.mk kW kH kP) p s=if okS (kn b 0 (-1)) [] s=true then some (goS b ⟨0,0,kW,kH⟩ [⟨0,0,kW,kH⟩] s) else none:=by
    unfold ZeI;rw[hb];simp only[hv,La]
   rw[ab];clear ab aa ae af;generalize hP:pt b 0 0 kW kH=P at *;have ag:¬(P.length:Int)=0:=by omega
   have ah:0<P.length:=by omega
   cases hok:okS (kn b 0 (-1)) [] s with
   | false=>
    rw[hok] at e3;simp only[Ka,Kf,rsV];obtain⟨o,a,q,t,ks⟩:=p;rw[Zh.enc_mk] at e1 e2 ⊢;refine cE ?_;simp +contextual -implicitDefEqProofs (maxSteps:=10^7) only[go_sem,seval,↓gZ,WL,e1,e2,e3,ag,ah]
   | true=>
    rw[hok] at e3;simp only[Kg,rsV];have hg:ZaW ⟨0,0,kW,kH⟩:=by unfold ZaW;simp only;omega
    rw[← hp] at h0;clear hb hp;obtain⟨o,a,q,t,ks⟩:=p;rw[Zh.enc_mk] at e1 e2 ⊢;refine cE ?_;simp +contextual -implicitDefEqProofs (maxSteps:=10^7) only[go_sem,seval,↓gZ,WL,e1,e2,e3,ag,ah,h0];refine LO (α:=Nat×List Box) (fun x=>[(45,.d (J (x.1:Int)))]) (fun x=>[(0,.row 4 (x.2.map Box.enc) true false)]) (fun x=>x.1≤s.length∧(Cl (s.take x.1) b 0∧x.2.Perm (XE (s.take x.1) b 0 ⟨0,0,kW,kH⟩)∧x.2.length≤x.1+1)∧goS b ⟨0,0,kW,kH⟩ x.2 (s.drop x.1)=goS b ⟨0,0,kW,kH⟩ [⟨0,0,kW,kH⟩] s∧okS (kn b 0 (-1)) (s.take x.1) (s.drop x.1)=true) (fun x=>s.length-x.1) (0,[⟨0,0,kW,kH⟩]) ⟨by simp,⟨Zl1 b 0,by simp[ZpU],by simp⟩,by simp,by simpa using hok⟩ ?_
    intro⟨i,t⟩ ⟨hi,⟨hC,ht,htl⟩,hgo,ho⟩ ih;simp only at hi hC ht htl hgo ho;by_cases ai:i<s.length
    ·obtain⟨m,hx⟩:=ZY ai;have al:=Zn (k:=i) (by omega);rw[Znc hx,Kb] at ho;obtain⟨d,a',l,r,c,hm,n1,n2,n3,n4,n5,n6,n7,n8⟩:=ZpW hf hg hC ht ho.1;obtain⟨m',rfl⟩:∃ n:Nat,m=(n:Int):=⟨m.toNat,by omega⟩
     obtain⟨g1,g2⟩:=Zl0 (by omega) n1;simp only[Int.sub_zero,KZ,hP] at g1;have am:m' < P.length:=(Kd.1 g1).1;obtain⟨j,j1,j2,j3⟩:=ZpY (k:=0) n5;have an:goS b ⟨0,0,kW,kH⟩ t (s.drop i)=goS b ⟨0,0,kW,kH⟩ (t.erase c++[VR d a' c,WA d a' c]) (s.drop (i+1)):=by
      obtain⟨k1,k2⟩:=Kd.1 hx;rw[Lm k1,k2,Zm8 n1]
     rw[an] at hgo;have ao:=ZqT n4 n3 ⟨rfl,rfl,by simp only;omega,by simp only;omega⟩;have au:=List.length_erase_of_mem n5;have ap:s.take (i+1)=s.take i++[(m' : Int)]:=by rw[KC,hx];rfl
     rw[← ap] at n7 n8;obtain⟨cX,cY,cW,cH⟩:=c;have ei:=ZfP t cX cY cW cH (by omega);have ed:=ZeK t j j2;have es:=Zin d a' l r cX cY cW cH ao (Zsm n2);rw[j1,Kz] at ei;rw[j3] at ed;have aq:¬(j:Int)<0:=by omega
     have ar:=wi ((j:Int)+1) (by omega) (by omega);have hr:((t.erase ⟨cX,cY,cW,cH⟩).length+2)*32≤140737488355328∧(t.erase ⟨cX,cY,cW,cH⟩).length+1≤140737488355327∧(t.erase ⟨cX,cY,cW,cH⟩).length+2≤140737488355327∧(t.erase ⟨cX,cY,cW,cH⟩).length+2≤140737488355328:=by omega
     simp only[BT.plan,Zh.enc_mk,Kn,KB] at es g1;simp +contextual -implicitDefEqProofs (maxSteps:=10^7) only[go_sem,seval,↓gZ,hx,ai,al,g1,am,ei,ed,es,aq,ar,hr];refine ih (i+1,t.erase ⟨cX,cY,cW,cH⟩++[VR d a' ⟨cX,cY,cW,cH⟩,WA d a' ⟨cX,cY,cW,cH⟩]) _ ⟨by simp only;omega,⟨n7,n8,by simp only[Kk,Ki,KD];omega⟩,hgo,ho.2⟩ (by simp only;omega) ?_;simp +contextual -implicitDefEqProofs (maxSteps:=10^7) only[go_sem,seval,↓gZ,KM]
    ·have:i=s.length:=by omega
     subst this;rw[List.drop_length,goS] at hgo;rw[← hgo];simp +contextual -implicitDefEqProofs (maxSteps:=10^7) only[go_sem,seval,↓gZ]
 ·have ad : Yy (ZN.mk kW kH kP) p=false:=Bool.eq_false_iff.2 hv;have aa:Xb (ZN.mk kW kH kP) p=[]:=by
   unfold Xb;cases hb:Xa p with
   | none=>rfl
   | some b=>
    have:=ad;unfold Yy at this;rw[hb] at this;simp only at this ⊢;rw[this];rfl
  have ab:ZeI (ZN.mk kW kH kP) p s=none:=by
   unfold ZeI;cases Xa p with
   | none=>rfl
   | some b=>simp only[ad,L6,Ka,Kf]
  rw[ab,rsV];rw[aa,ad] at e1;obtain⟨o,a,q,t,ks⟩:=p;rw[Zh.enc_mk] at e1 e2 ⊢;refine cE ?_;simp +contextual -implicitDefEqProofs (maxSteps:=10^7) only[go_sem,seval,↓gZ,WL,e1,e2]
end Go.Proofs.Ytefabmohhbhlfaa
