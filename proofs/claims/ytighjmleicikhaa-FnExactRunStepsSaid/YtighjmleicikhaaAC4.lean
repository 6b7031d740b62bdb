/- Own text. -/
import Derived.Test.YtighjmleicikhaaACode
import Derived.Test.YtighjmleicikhaaAbsParts
import Derived.Test.YtighjmleicikhaaAC1
import Derived.Test.YtighjmleicikhaaAbsOkD
import Derived.Test.YtighjmleicikhaaAC3
namespace Go.Proofs.Ytighjmleicikhaa
open Go Go.Abs Go.Abs.E Go.Abs.L
open Nat (reduceMul reduceSub reduceLeDiff reduceEqDiff)
open Int (reduceLE reduceEq reduceToNat reduceNeg)
set_option linter.unusedSimpArgs false
set_option linter.unusedVariables false
set_option maxRecDepth 20000
set_option maxHeartbeats 4000000
theorem QX (ps:List Pane):∀ (b:BT) (gX gY gW gH:Int) (xs:List D) (ex:Bool),inB (Box.mk gX gY gW gH)→Qv ps b gW gH=true→xs.length+b.cnt≤1000 →
  Zj Xs Ms ZR [.own 0,.d b.plan.enc,(.d (.agg [J gX,J gY,J gW,J gH]))] [.row 9 xs ex false]=some (.own 1,[.gone,.row 9 (xs++(pt b gX gY gW gH).map Part.enc) false false])
 | .waste,gX,gY,gW,gH,xs,ex,hg,hf,hl=>by
  simp only[BT.cnt] at hl;have h1:(xs.length+1)*88≤140737488355328∧xs.length≤140737488355327:=by omega
  simp only[BT.plan,Ze.enc_mk,pt];refine cE ?_;simp +contextual -implicitDefEqProofs (maxSteps:=10^7) only[go_sem,seval,↓gZ,QU,ZK,h1]
 | .pane i t,gX,gY,gW,gH,xs,ex,hg,hf,hl=>by
  simp only[BT.cnt] at hl;have h1:(xs.length+1)*88≤140737488355328∧xs.length≤140737488355327:=by omega
  simp only[BT.plan,Ze.enc_mk,pt];refine cE ?_;simp +contextual -implicitDefEqProofs (maxSteps:=10^7) only[go_sem,seval,↓gZ,QU,ZK,h1]
 | .cut d a l r,gX,gY,gW,gH,xs,ex,hg,hf,hl=>by
  simp only[BT.cnt] at hl;have h1:(xs.length+1)*88≤140737488355328∧xs.length≤140737488355327:=by omega
  simp only[inB] at hg;simp only[BT.plan,Ze.enc_mk];cases d with
  | true=>
   simp only[Qv,Kb,Kj,Kh] at hf;have e0:=Y9 2 a 0 false [l.plan.enc,r.plan.enc] gX gY gW gH rfl ⟨by omega,by omega⟩ ⟨by omega,by omega⟩;have e1:=QX ps l gX gY a gH (xs++[.agg [J 2,J a,J 0,.bool false,.sl [l.plan.enc,r.plan.enc],J gX,J gY,J gW,J gH]]) false (by simp only[inB];omega) hf.1.2 (by simp only[Kn,Kk,KI];omega);have e2:=QX ps r (gX+a) gY (gW-a) gH (xs++[.agg [J 2,J a,J 0,.bool false,.sl [l.plan.enc,r.plan.enc],J gX,J gY,J gW,J gH]]++(pt l gX gY a gH).map Part.enc) false (by simp only[inB];omega) hf.2 (by simp only[Kn,Kk,KI,KX,Js];omega)
   refine cE ?_;simp +contextual -implicitDefEqProofs (maxSteps:=10^7) only[go_sem,seval,↓gZ,QU,ZK,h1,X3,e0,e1,e2];simp[pt,X3,BT.plan,Part.enc_mk]
  | false=>
   simp only[Qv,Kb,Kj,Ka,Kg] at hf;have e0:=X5 3 a 0 false [l.plan.enc,r.plan.enc] gX gY gW gH (by decide) ⟨by omega,by omega⟩ ⟨by omega,by omega⟩;have e1:=QX ps l gX gY gW a (xs++[.agg [J 3,J a,J 0,.bool false,.sl [l.plan.enc,r.plan.enc],J gX,J gY,J gW,J gH]]) false (by simp only[inB];omega) hf.1.2 (by simp only[Kn,Kk,KI];omega);have e2:=QX ps r gX (gY+a) gW (gH-a) (xs++[.agg [J 3,J a,J 0,.bool false,.sl [l.plan.enc,r.plan.enc],J gX,J gY,J gW,J gH]]++(pt l gX gY gW a).map Part.enc) false (by simp only[inB];omega) hf.2 (by simp only[Kn,Kk,KI,KX,Js];omega)
   refine cE ?_;simp +contextual -implicitDefEqProofs (maxSteps:=10^7) only[go_sem,seval,↓gZ,QU,ZK,h1,X3,e0,e1,e2];simp[pt,X3,BT.plan,Part.enc_mk]
theorem Zf4 (ps:List Pane):∀ (b:BT) (gX gY gW gH:Int),inB (Box.mk gX gY gW gH)→Qv ps b gW gH=true→b.cnt≤1000 →
  Zj Xs Ms ZR [.nil,.d b.plan.enc,(.d (.agg [J gX,J gY,J gW,J gH]))] []=some (.own 0,[.row 9 ((pt b gX gY gW gH).map Part.enc) false false])
 | .waste,gX,gY,gW,gH,hg,hf,hl=>by
  have h1:1*88≤Zv∧1≤Zv:=by unfold Zv;omega
  simp only[BT.plan,Ze.enc_mk,pt];refine cE ?_;simp +contextual -implicitDefEqProofs (maxSteps:=10^7) only[go_sem,seval,↓gZ,QU,ZK,h1]
 | .pane i t,gX,gY,gW,gH,hg,hf,hl=>by
  have h1:1*88≤Zv∧1≤Zv:=by unfold Zv;omega
  simp only[BT.plan,Ze.enc_mk,pt];refine cE ?_;simp +contextual -implicitDefEqProofs (maxSteps:=10^7) only[go_sem,seval,↓gZ,QU,ZK,h1]
 | .cut d a l r,gX,gY,gW,gH,hg,hf,hl=>by
  simp only[BT.cnt] at hl;have h1:1*88≤Zv∧1≤Zv:=by unfold Zv;omega
  simp only[inB] at hg;simp only[BT.plan,Ze.enc_mk];cases d with
  | true=>
   simp only[Qv,Kb,Kj,Kh] at hf;have e0:=Y9 2 a 0 false [l.plan.enc,r.plan.enc] gX gY gW gH rfl ⟨by omega,by omega⟩ ⟨by omega,by omega⟩;have e1:=QX ps l gX gY a gH [.agg [J 2,J a,J 0,.bool false,.sl [l.plan.enc,r.plan.enc],J gX,J gY,J gW,J gH]] false (by simp only[inB];omega) hf.1.2 (by simp only[Kn,Kk,KI];omega);have e2:=QX ps r (gX+a) gY (gW-a) gH (.agg [J 2,J a,J 0,.bool false,.sl [l.plan.enc,r.plan.enc],J gX,J gY,J gW,J gH] :: (pt l gX gY a gH).map Part.enc) false (by simp only[inB];omega) hf.2 (by simp only[Kn,Kk,KI,KX,Js];omega)
   refine cE ?_;simp +contextual -implicitDefEqProofs (maxSteps:=10^7) only[go_sem,seval,↓gZ,QU,ZK,h1,X3,e0,e1,e2];simp[pt,X3,BT.plan,Part.enc_mk]
  | false=>
   simp only[Qv,Kb,Kj,Ka,Kg] at hf;have e0:=X5 3 a 0 false [l.plan.enc,r.plan.enc] gX gY gW gH (by decide) ⟨by omega,by omega⟩ ⟨by omega,by omega⟩;have e1:=QX ps l gX gY gW a [.agg [J 3,J a,J 0,.bool false,.sl [l.plan.enc,r.plan.enc],J gX,J gY,J gW,J gH]] false (by simp only[inB];omega) hf.1.2 (by simp only[Kn,Kk,KI];omega);have e2:=QX ps r gX (gY+a) gW (gH-a) (.agg [J 3,J a,J 0,.bool false,.sl [l.plan.enc,r.plan.enc],J gX,J gY,J gW,J gH] :: (pt l gX gY gW a).map Part.enc) false (by simp only[inB];omega) hf.2 (by simp only[Kn,Kk,KI,KX,Js];omega)
   refine cE ?_;simp +contextual -implicitDefEqProofs (maxSteps:=10^7) only[go_sem,seval,↓gZ,QU,ZK,h1,X3,e0,e1,e2];simp[pt,X3,BT.plan,Part.enc_mk]
theorem ZjA (kW kH:Int) (kP:List Pane) (p:Ze):Zj Xs Ms Wx [(.d (.agg [J kW,J kH,.sl (kP.map Pane.enc)])),.d p.enc] []=some (.own 0,[.row 9 ((Wj (Q7.mk kW kH kP) p).map Part.enc) (!Yc (Q7.mk kW kH kP) p) false]):=by
 have hv:=ZfR kW kH kP p;unfold Yc at hv;unfold Wj Yc;cases hb:QG p with
 | none=>
  rw[hb] at hv;obtain⟨o,a,q,t,ks⟩:=p;rw[Ze.enc_mk] at hv ⊢;refine cE ?_;simp +contextual -implicitDefEqProofs (maxSteps:=10^7) only[go_sem,seval,↓gZ,WF,hv];try rfl
 | some b=>
  have hp:=Wh hb;rw[hb] at hv;dsimp only at hv ⊢;by_cases hh:(decide (VW (Q7.mk kW kH kP))&&decide (b.cnt≤255)&&Qv kP b kW kH)=true
  ·have aa:=hh;simp only[Kb,Kj] at aa;have hw:=aa.1.1;simp only[VW] at hw;have ab:=Zf4 kP b 0 0 kW kH (by simp only[inB];omega) aa.2 (by omega);rw[← hp] at ab;rw[hh] at hv ⊢;obtain⟨o,a,q,t,ks⟩:=p;rw[Ze.enc_mk] at hv ab ⊢;refine cE ?_;simp +contextual -implicitDefEqProofs (maxSteps:=10^7) only[go_sem,seval,↓gZ,WF,Zc8,hv,ab];try rfl
  ·have hf:=(Bool.not_eq_true _).mp hh;rw[hf] at hv ⊢;obtain⟨o,a,q,t,ks⟩:=p;rw[Ze.enc_mk] at hv ⊢;refine cE ?_;simp +contextual -implicitDefEqProofs (maxSteps:=10^7) only[go_sem,seval,↓gZ,WF,hv];try rfl
end Go.Proofs.Ytighjmleicikhaa
namespace Go.Proofs.Ytighjmleicikhaa
open Go Go.Abs Go.Abs.E Go.Abs.L
open Nat (reduceMul reduceSub reduceLeDiff reduceEqDiff)
open Int (reduceLE reduceEq reduceToNat reduceNeg)
set_option linter.unusedSimpArgs false
set_option linter.unusedVariables false
set_option maxRecDepth 20000
set_option maxHeartbeats 4000000
def fBx:Nat→List Box→Box→Int
 | _,[],_=>-1
 | k,x :: l,n=>if x=n then (k:Int) else fBx (k+1) l n
theorem Zpy {l:List Box} {k:Nat} {x n:Box} (hx:l[k]?=some x):fBx k (l.drop k) n=if x=n then (k:Int) else fBx (k+1) (l.drop (k+1)) n:=by
 obtain⟨h1,h2⟩:=Kc.1 hx;rw[KB h1,h2,fBx]
theorem ZnF:∀ {l:List Box} {k:Nat} {n:Box},n∈l→∃ i,fBx k l n=((k+i:Nat):Int)∧i<l.length∧l.eraseIdx i=l.erase n
 | [],k,n,h=>by cases h
 | x :: l,k,n,h=>by
  by_cases hx:x=n
  ·exact⟨0,by simp[fBx,hx],by simp,by simp[hx]⟩
  ·obtain⟨i,h1,h2,h3⟩:=ZnF (l:=l) (k:=k+1) ((Ke.1 h).resolve_left fun e=>hx e.symm);refine⟨i+1,by simp only[fBx,hx,Kg];rw[h1];congr 1;omega,by simp only[Kk];omega,?_⟩;rw[List.eraseIdx_cons_succ,h3,List.erase_cons_tail (by simpa using hx)]
theorem Zd6 (l:List Box) (bX bY bW bH:Int) (hl:l.length<4611686018427387904):Zj Xs Ms XA [(.d (.sl (l.map Box.enc))),(.d (.agg [J bX,J bY,J bW,J bH]))] []=some ((.d (J (fBx 0 l (Box.mk bX bY bW bH)))),[]):=by
 refine cE ?_;simp +contextual -implicitDefEqProofs (maxSteps:=10^7) only[go_sem,seval,↓gZ,V8];refine LO (α:=Nat) (fun k=>[(8,.d (J (k:Int)))]) (fun _=>[]) (fun k=>k≤l.length∧fBx k (l.drop k) (Box.mk bX bY bW bH)=fBx 0 l (Box.mk bX bY bW bH)) (fun k=>l.length-k) 0 ⟨by omega,rfl⟩ ?_;intro k ⟨hk,hp⟩ ih;by_cases aa:k<l.length
 ·obtain⟨x,hx⟩:=QN aa;rw[Zpy hx] at hp;have hw:=ZQ (k:=k) (by omega);obtain⟨X,Y,W,H⟩:=x;simp only[Box.mk.injEq] at hp;by_cases h:X=bX∧Y=bY∧W=bW∧H=bH
  ·rw[Ku h] at hp;obtain⟨rfl,rfl,rfl,rfl⟩:=h;simp +contextual -implicitDefEqProofs (maxSteps:=10^7) only[go_sem,seval,↓gZ,hx,aa,hw];try (rw[← hp])
  ·rw[Kp h] at hp;have h' : ¬(bX=X∧bY=Y∧bW=W∧bH=H):=fun e=>h ⟨e.1.symm,e.2.1.symm,e.2.2.1.symm,e.2.2.2.symm⟩;simp +contextual -implicitDefEqProofs (maxSteps:=10^7) only[go_sem,seval,↓gZ,hx,aa,hw,← Bool.decide_and,h,h'];refine ih (k+1) _ ⟨by omega,hp⟩ (by omega) ?_;simp +contextual -implicitDefEqProofs (maxSteps:=10^7) only[go_sem,seval,↓gZ]
 ·have:k=l.length:=by omega
  subst this;simp +contextual -implicitDefEqProofs (maxSteps:=10^7) only[go_sem,seval,↓gZ];rw[← hp];simp[fBx]
theorem Zb8 {α β:Type} (f:α→β):∀ (l:List α) (i:Nat),(l.map f).eraseIdx i=(l.eraseIdx i).map f
 | [],_=>rfl
 | _ :: _,0=>rfl
 | x :: l,i+1=>by simp[Zb8 f l i]
theorem Zc9 (l:List Box) (i:Nat) (hi:i<l.length):Zj Xs Ms Zx [.own 0,(.d (J i)),(.d (J ((i:Int)+1)))] [.row 4 (l.map Box.enc) true false]=some (.own 1,[.gone,.row 4 ((l.eraseIdx i).map Box.enc) true false]):=by
 refine Zno Xs Ms Zcx ?_;unfold Zdm;simp only;rw[Ku ⟨rfl,by omega,rfl,by simp;omega,by rw[ZrY];trivial,by rw[Zqm];trivial,rfl,rfl⟩,Int.toNat_natCast,Zb8]
def rsV:Option (List Box)→AV×List Zh
 | some t=>(.tup [.own 0,(.d (.bool true))],[.row 4 (t.map Box.enc) true false])
 | none=>(.tup [.own 0,(.d (.bool false))],[.row 4 [] true false])
theorem ZkO {b:BT} (h:b.cnt≤255):∀ q∈kn b 0 (-1),0≤q.1∧q.1<255∧q.2<255:=fun q hq=>by
 have:=Zct hq;omega
theorem Zrv (b:BT) (x y w h:Int):(pt b x y w h)[0]?=some ⟨b.plan,⟨x,y,w,h⟩⟩:=by cases b<;>rfl
theorem Zd7 {k:Q7} {p:Ze} {b:BT} (hb:QG p=some b):Yc k p=true↔VW k∧b.cnt≤255∧Qv k.Panes b k.W k.H=true:=by
 unfold Yc;rw[hb];simp only[Kb,Kj,and_assoc]
theorem Zir {c g:Box} (hc:Jc c) (hi:Q2 c g) (hg:g.X=0∧g.Y=0∧g.W≤200∧g.H≤200):0≤c.X∧0≤c.Y∧c.X+c.W≤200∧c.Y+c.H≤200∧1≤c.W∧1≤c.H:=by
 unfold Jc at hc;unfold Q2 at hi;omega
theorem ZkP {ps:List Pane} {d:Bool} {a:Int} {l r:BT} {w h:Int} (hf:Qv ps (.cut d a l r) w h=true):1≤a∧a≤(if d then w else h)-1:=by
 cases d
 ·simp only[Qv,Kb,Ka,Kg,Kj] at hf ⊢;exact hf.1.1
 ·simp only[Qv,Kb,Kh,Kj] at hf ⊢;exact hf.1.1
theorem Zf5 (d:Bool) (a:Int) (l r:BT) (cX cY cW cH:Int) (hc:0≤cX∧0≤cY∧cX+cW≤200∧cY+cH≤200∧1≤cW∧1≤cH) (ha:1≤a∧a≤(if d then cW else cH)-1) :
  Zj Xs Ms Xa [.d (BT.cut d a l r).plan.enc,(.d (.agg [J cX,J cY,J cW,J cH]))] []=some (.tup [.d (XZ d a (Box.mk cX cY cW cH)).enc,.d (YQ d a (Box.mk cX cY cW cH)).enc],[]):=by
 simp only[BT.plan,Ze.enc_mk,Kq,KS];cases d
 ·simp only[Ka,Kg] at ha;exact X5 3 a 0 false [l.plan.enc,r.plan.enc] cX cY cW cH (by decide) ⟨by omega,by omega⟩ ⟨by omega,by omega⟩
 ·simp only[Kh] at ha;exact Y9 2 a 0 false [l.plan.enc,r.plan.enc] cX cY cW cH rfl ⟨by omega,by omega⟩ ⟨by omega,by omega⟩
theorem ZhQ (kW kH:Int) (kP:List Pane) (p:Ze) (s:List Int) (hs:s.length≤1048576):Zj Xs Ms YE [(.d (.agg [J kW,J kH,.sl (kP.map Pane.enc)])),.d p.enc,.d (.sl (s.map Wd))] []=some (rsV (UW (Q7.mk kW kH kP) p s)):=by
 have e1:=ZjA kW kH kP p;have e2:=Zjz p;by_cases hv:Yc (Q7.mk kW kH kP) p=true
 ·cases hb:QG p with
  | none=>simp[Yc,hb] at hv
  | some b=>
   have hp:=Wh hb;obtain⟨hw,hc,hf⟩:=(Zd7 hb).1 hv;have e3:=Zd5 (kn b 0 (-1)) s (ZkO hc) (Lc (Jb b 0 (-1)) hc) hs;have ae:knOf p=kn b 0 (-1):=by unfold knOf;rw[hb];simp only[hc,Kh]
   have af:wfP p=true:=by
    have hz:=Qa 255 b;have:=b.cnt_pos;unfold wfP;rw[hb];exact LP (by omega)
   have aa:Wj (Q7.mk kW kH kP) p=pt b 0 0 kW kH:=by
    unfold Wj;rw[hb];have:=hv;unfold Yc at this;rw[hb] at this;simp only at this ⊢;rw[Ku this]
   have aj:=Js b 0 0 kW kH;have h0:=Zrv b 0 0 kW kH;have ak:=b.cnt_pos;simp only[VW] at hw;rw[aa,hv] at e1;rw[ae,af] at e2;have ab:UW (Q7.mk kW kH kP) p s=if okS (kn b 0 (-1)) [] s=true then some (goS b ⟨0,0,kW,kH⟩ [⟨0,0,kW,kH⟩] s) else none:=by
    unfold UW;rw[hb];simp only[hv,Lj]
   rw[ab];clear ab aa ae af;generalize hP:pt b 0 0 kW kH=P at *;have ag:¬(P.length:Int)=0:=by omega
   have ah:0<P.length:=by omega
   cases hok:okS (kn b 0 (-1)) [] s with
   | false=>
    rw[hok] at e3;simp only[Ka,Kg,rsV];obtain⟨o,a,q,t,ks⟩:=p;rw[Ze.enc_mk] at e1 e2 ⊢;refine cE ?_;simp +contextual -implicitDefEqProofs (maxSteps:=10^7) only[go_sem,seval,↓gZ,VF,e1,e2,e3,ag,ah]
   | true=>
    rw[hok] at e3;simp only[Kh,rsV];have hg:Jc ⟨0,0,kW,kH⟩:=by unfold Jc;simp only;omega
    rw[← hp] at h0;clear hb hp;obtain⟨o,a,q,t,ks⟩:=p;rw[Ze.enc_mk] at e1 e2 ⊢;refine cE ?_;simp +contextual -implicitDefEqProofs (maxSteps:=10^7) only[go_sem,seval,↓gZ,VF,e1,e2,e3,ag,ah,h0];refine LO (α:=Nat×List Box) (fun x=>[(45,.d (J (x.1:Int)))]) (fun x=>[(0,.row 4 (x.2.map Box.enc) true false)]) (fun x=>x.1≤s.length∧(Cl (s.take x.1) b 0∧x.2.Perm (Xl (s.take x.1) b 0 ⟨0,0,kW,kH⟩)∧x.2.length≤x.1+1)∧goS b ⟨0,0,kW,kH⟩ x.2 (s.drop x.1)=goS b ⟨0,0,kW,kH⟩ [⟨0,0,kW,kH⟩] s∧okS (kn b 0 (-1)) (s.take x.1) (s.drop x.1)=true) (fun x=>s.length-x.1) (0,[⟨0,0,kW,kH⟩]) ⟨by simp,⟨ZfV b 0,by simp[Zjw],by simp⟩,by simp,by simpa using hok⟩ ?_
    intro⟨i,t⟩ ⟨hi,⟨hC,ht,htl⟩,hgo,ho⟩ ih;simp only at hi hC ht htl hgo ho;by_cases ai:i<s.length
    ·obtain⟨m,hx⟩:=QN ai;have al:=ZQ (k:=i) (by omega);rw[Zf3 hx,Kb] at ho;obtain⟨d,a',l,r,c,hm,n1,n2,n3,n4,n5,n6,n7,n8⟩:=Zjy hf hg hC ht ho.1;obtain⟨m',rfl⟩:∃ n:Nat,m=(n:Int):=⟨m.toNat,by omega⟩
     obtain⟨g1,g2⟩:=Zjv (by omega) n1;simp only[Int.sub_zero,Int.toNat_natCast,hP] at g1;have am:m' < P.length:=(Kc.1 g1).1;obtain⟨j,j1,j2,j3⟩:=ZnF (k:=0) n5;have an:goS b ⟨0,0,kW,kH⟩ t (s.drop i)=goS b ⟨0,0,kW,kH⟩ (t.erase c++[XZ d a' c,YQ d a' c]) (s.drop (i+1)):=by
      obtain⟨k1,k2⟩:=Kc.1 hx;rw[KB k1,k2,ZfX n1]
     rw[an] at hgo;have ao:=Zir n4 n3 ⟨rfl,rfl,by simp only;omega,by simp only;omega⟩;have au:=List.length_erase_of_mem n5;have ap:s.take (i+1)=s.take i++[(m' : Int)]:=by rw[KY,hx];rfl
     rw[← ap] at n7 n8;obtain⟨cX,cY,cW,cH⟩:=c;have ei:=Zd6 t cX cY cW cH (by omega);have ed:=Zc9 t j j2;have es:=Zf5 d a' l r cX cY cW cH ao (ZkP n2);rw[j1,Lb] at ei;rw[j3] at ed;have aq:¬(j:Int)<0:=by omega
     have ar:=wi ((j:Int)+1) (by omega) (by omega);have hr:((t.erase ⟨cX,cY,cW,cH⟩).length+2)*32≤140737488355328∧(t.erase ⟨cX,cY,cW,cH⟩).length+1≤140737488355327∧(t.erase ⟨cX,cY,cW,cH⟩).length+2≤140737488355327∧(t.erase ⟨cX,cY,cW,cH⟩).length+2≤140737488355328:=by omega
     simp only[BT.plan,Ze.enc_mk,Kq,KS] at es g1;simp +contextual -implicitDefEqProofs (maxSteps:=10^7) only[go_sem,seval,↓gZ,hx,ai,al,g1,am,ei,ed,es,aq,ar,hr];refine ih (i+1,t.erase ⟨cX,cY,cW,cH⟩++[XZ d a' ⟨cX,cY,cW,cH⟩,YQ d a' ⟨cX,cY,cW,cH⟩]) _ ⟨by simp only;omega,⟨n7,n8,by simp only[Kn,Kk,KI];omega⟩,hgo,ho.2⟩ (by simp only;omega) ?_;simp +contextual -implicitDefEqProofs (maxSteps:=10^7) only[go_sem,seval,↓gZ,Lt]
    ·have:i=s.length:=by omega
     subst this;rw[LD,goS] at hgo;rw[← hgo];simp +contextual -implicitDefEqProofs (maxSteps:=10^7) only[go_sem,seval,↓gZ]
 ·have ad : Yc (Q7.mk kW kH kP) p=false:=Bool.eq_false_iff.2 hv;have aa:Wj (Q7.mk kW kH kP) p=[]:=by
   unfold Wj;cases hb:QG p with
   | none=>rfl
   | some b=>
    have:=ad;unfold Yc at this;rw[hb] at this;simp only at this ⊢;rw[this];rfl
  have ab:UW (Q7.mk kW kH kP) p s=none:=by
   unfold UW;cases QG p with
   | none=>rfl
   | some b=>simp only[ad,Lg,Ka,Kg]
  rw[ab,rsV];rw[aa,ad] at e1;obtain⟨o,a,q,t,ks⟩:=p;rw[Ze.enc_mk] at e1 e2 ⊢;refine cE ?_;simp +contextual -implicitDefEqProofs (maxSteps:=10^7) only[go_sem,seval,↓gZ,VF,e1,e2]
end Go.Proofs.Ytighjmleicikhaa
