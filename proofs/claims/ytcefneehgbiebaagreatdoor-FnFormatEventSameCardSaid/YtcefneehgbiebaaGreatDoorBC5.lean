/- Own text. -/
import Derived.Test.YtcefneehgbiebaaGreatDoorBCode
import Derived.Test.YtcefneehgbiebaaGreatDoorAbsParts
import Derived.Test.YtcefneehgbiebaaGreatDoorBC2
import Derived.Test.YtcefneehgbiebaaGreatDoorBC4
namespace Go.Proofs.YtcefneehgbiebaaGreatDoor
open Go Go.Abs Go.Abs.E Go.Abs.L
open Nat (reduceMul reduceSub reduceLeDiff reduceEqDiff)
open Int (reduceLE reduceEq reduceToNat reduceNeg)
set_option linter.unusedSimpArgs false
set_option linter.unusedVariables false
set_option maxRecDepth 20000
set_option maxHeartbeats 4000000
structure Zz where
 kind:Int
 label:Int
 box:Box
 line:Zc
 plan:Zf
def Zz.enc (e:Zz):D:=.agg ([J e.kind,J e.label,J e.box.X,J e.box.Y,J e.box.W,J e.box.H,J e.line.Pane.W,J e.line.Pane.H,.bool e.line.Pane.Turns,J e.line.Pane.Kind,J e.line.Count]++e.plan.enc.cells)
@[go_sem] theorem Zz.enc_mk (k l x y w h pw ph pk c o a p:Int) (pt t:Bool) (ks:List Zf):Zz.enc (Zz.mk k l (Box.mk x y w h) (Zc.mk (Pane.mk pw ph pt pk) c) (Zf.mk o a p t ks)) =
  .agg [J k,J l,J x,J y,J w,J h,J pw,J ph,.bool pt,J pk,J c,J o,J a,J p,.bool t,.sl (ks.map Zf.enc)]:=by
 simp only[Zz.enc,Zf.enc_mk];rfl
theorem Zz.enc_len (e:Zz):(Zz.enc e).cells.length=16:=by
 show (_++e.plan.enc.cells).length=16;rw[Kt,Zf.enc_len];rfl
@[go_sem] theorem uni_Event (l:List Zz):uni 16 (l.map Zz.enc)=True:=eq_true (Zb0 l Zz.enc_len)
def ZS (s:Zq):Prop:=VSt s.Stock∧ZaR s.Opn∧ZaR s.Done∧0≤s.Lost∧s.Lost≤900000∧0≤s.Came∧s.Came≤900000∧Y2 s.Stock+Zat s.Done+s.Lost=s.Came
instance (s:Zq):Decidable (ZS s):=by unfold ZS;infer_instance
def Qz (p:Zb):List Zb→List Zb
 | []=>[p]
 | x :: l=>if p.Label<x.Label then p :: x :: l else x :: Qz p l
theorem Zpc {l:List Zb} {k:Nat} {x p:Zb} (hx:l[k]?=some x):Qz p (l.drop k)=if p.Label<x.Label then p :: l.drop k else x :: Qz p (l.drop (k+1)):=by
 obtain⟨h1,h2⟩:=Kb.1 hx;rw[Kw h1,h2,Qz]
theorem Zld (p:Zb):∀ (l:List Zb),(Qz p l).length=l.length+1
 | []=>rfl
 | x :: l=>by
  unfold Qz;split
  ·simp
  ·simp[Zld p l]
theorem Zsq (p:Zb):∀ (l:List Zb) (y:Zb),y∈Qz p l→y=p∨y∈l
 | [],y,h=>by simpa [Qz] using h
 | x :: l,y,h=>by
  unfold Qz at h;split at h
  ·simpa using h
  ·rcases Kf.1 h with rfl | h
   ·exact .inr (by simp)
   ·rcases Zsq p l y h with h | h
    ·exact .inl h
    ·exact .inr (by simp[h])
def Zg2 (p:Pane) (c:Int) (x:Zc):Option Zc:=
 if x.Pane=p then (if 0<x.Count-c then some ⟨x.Pane,x.Count-c⟩ else none) else (if 0<x.Count then some x else none)
def XZ (l:List Zc) (p:Pane) (c:Int):List Zc:=l.filterMap (Zg2 p c)
def Xl (p:Pane) (c:Int):Bool→List Zc→Bool
 | b,[]=>b
 | b,x :: l=>Xl p c (if x.Pane=p then decide (0≤x.Count-c) else b) l
theorem Zvj {l:List Zc} {k:Nat} {x:Zc} {p:Pane} {c:Int} {b:Bool} (hx:l[k]?=some x):Xl p c b (l.drop k)=Xl p c (if x.Pane=p then decide (0≤x.Count-c) else b) (l.drop (k+1)):=by
 obtain⟨h1,h2⟩:=Kb.1 hx;rw[Kw h1,h2,Xl]
theorem ZwW {l:List Zc} {p:Pane} {c:Int} {b:Bool}:Xl p c b (l.drop l.length)=b:=by simp[Xl]
theorem ZwX {l:List Zc} {i:Nat} {x:Zc} (p:Pane) (c:Int) (hx:l[i]?=some x):XZ (l.take (i+1)) p c=XZ (l.take i) p c++(Zg2 p c x).toList:=by
 unfold XZ;rw[KU,hx,Ls];simp only[L6,K6,List.filterMap_nil];cases Zg2 p c x<;>rfl
def YJ (p:Pane) (c:Int):List Zc→List Zc
 | []=>[⟨p,c⟩]
 | x :: l=>if x.Pane=p then ⟨x.Pane,x.Count+c⟩ :: l else x :: YJ p c l
theorem ZcU (p:Pane) (c:Int):∀ (l:List Zc),(YJ p c l).length≤l.length+1
 | []=>by simp[YJ]
 | x :: l=>by
  unfold YJ;split
  ·simp
  ·have:=ZcU p c l;simp;omega
theorem Ztx (p:Pane) (c:Int):∀ (l:List Zc) (i:Nat) (x:Zc),l[i]?=some x→x.Pane=p→p∉(l.take i).map Zc.Pane→YJ p c l=l.set i ⟨x.Pane,x.Count+c⟩
 | [],i,x,h,_,_=>by simp at h
 | y :: l,0,x,h,e,_=>by
  simp only[Lk,Option.some.injEq] at h;subst h;simp[YJ,e]
 | y :: l,i+1,x,h,e,hn=>by
  simp only[Ll] at h;simp only[LG,Kj,Kf,not_or] at hn;have ih:=Ztx p c l i x h e hn.2;simp only[YJ,Kd (fun e' : y.Pane=p=>hn.1 e'.symm),List.set_cons_succ,ih]
theorem Zty (p:Pane) (c:Int):∀ (l:List Zc),p∉l.map Zc.Pane→YJ p c l=l++[⟨p,c⟩]
 | [],_=>rfl
 | y :: l,hn=>by
  simp only[Kj,Kf,not_or] at hn;simp only[YJ,Kd (fun e' : y.Pane=p=>hn.1 e'.symm),Zty p c l hn.2,KF]
theorem Zvk {l:List Zb} (hv:VSt l):∀ x∈l,1≤x.W∧x.W≤200∧1≤x.H∧x.H≤200:=fun x hx=>by
 have:=(Ql hv.2 x hx).1;omega
theorem Zmc {l:List Zb} (hv:VSt l):0≤Y2 l∧Y2 l≤800000:=by
 have h1:=Zb8 (Zvk hv);have:=hv.1;omega
theorem Zpd (l:List Zb) (hv:VSt l):Ze Xs Ms UO [(.d (.sl (l.map Zb.enc)))] []=some ((.d (J (Y2 l))),[]):=by
 have af:=hv.1;have aa:=Zvk hv;clear hv;refine cE ?_;simp +contextual -implicitDefEqProofs (maxSteps:=10^7) only[go_sem,seval,↓gZ,Zd7];refine LO (α:=Nat) (fun i=>[(4,.d (J (i:Int))),(3,.d (J (Y2 (l.take i))))]) (fun _=>[]) (fun i=>i≤l.length) (fun i=>l.length-i) 0 (by omega) ?_;intro i hi ih;by_cases ab:i<l.length
 ·obtain⟨x,hx⟩:=Zr ab;have hw:=Zj (k:=i) (by omega);have hm:=Zo5 hx;have ag:=Zb8 (l:=l.take i) (fun y hy=>aa y (K0 hy));have ah:(l.take i).length≤i:=by simp;omega
  have g5:=aa x (Kc hx);have ad:x.W*x.H≤200*200:=LS (by omega) (by omega) (by omega) (by omega);have ae:0≤x.W*x.H:=LR (by omega) (by omega);obtain⟨xL,xW,xH,xF⟩:=x;simp only at g5 hm ad ae;have u0:=wi (xW*xH) (by omega) (by omega);have u1:=wi (Y2 (l.take i)+xW*xH) (by omega) (by omega);simp +contextual -implicitDefEqProofs (maxSteps:=10^7) only[go_sem,seval,↓gZ,hx,ab,hw,u0,u1];refine ih (i+1) _ (by omega) (by omega) ?_;simp +contextual -implicitDefEqProofs (maxSteps:=10^7) only[go_sem,seval,↓gZ,hm]
 ·have:i=l.length:=by omega
  subst this;simp +contextual -implicitDefEqProofs (maxSteps:=10^7) only[go_sem,seval,↓gZ];simp
theorem Zpe (l:List Zc) (hv:ZaR l):Ze Xs Ms UP [(.d (.sl (l.map Zc.enc)))] []=some ((.d (J (Zat l))),[]):=by
 have h8:=hv.1;have aa:=XK hv;clear hv;refine cE ?_;simp +contextual -implicitDefEqProofs (maxSteps:=10^7) only[go_sem,seval,↓gZ,Zd8];refine LO (α:=Nat) (fun i=>[(4,.d (J (i:Int))),(3,.d (J (Zat (l.take i))))]) (fun _=>[]) (fun i=>i≤l.length) (fun i=>l.length-i) 0 (by omega) ?_;intro i hi ih;by_cases ab:i<l.length
 ·obtain⟨x,hx⟩:=Zr ab;have hw:=Zj (k:=i) (by omega);have hm:=Zsm hx;have ad:=Zfz (l:=l.take i) (fun y hy=>aa y (K0 hy));have ae:(l.take i).length≤i:=by simp;omega
  have g5:=ZeL (aa x (Kc hx));obtain⟨⟨W,H,T,K⟩,C⟩:=x;simp only at g5 hm;have u0:=wi (C*W) (by omega) (by omega);have u1:=wi (C*W*H) (by omega) (by omega);have u2:=wi (Zat (l.take i)+C*W*H) (by omega) (by omega);simp +contextual -implicitDefEqProofs (maxSteps:=10^7) only[go_sem,seval,↓gZ,hx,ab,hw,u0,u1,u2];refine ih (i+1) _ (by omega) (by omega) ?_;simp +contextual -implicitDefEqProofs (maxSteps:=10^7) only[go_sem,seval,↓gZ,hm]
 ·have:i=l.length:=by omega
  subst this;simp +contextual -implicitDefEqProofs (maxSteps:=10^7) only[go_sem,seval,↓gZ];simp
theorem Zqv (sS:List Zb) (sO sD:List Zc) (sL sC:Int) (h1:VSt sS) (h2:ZaR sD) (h3:0≤sL∧sL≤100000000):Ze Xs Ms J6 [(.d (.agg [.sl (sS.map Zb.enc),.sl (sO.map Zc.enc),.sl (sD.map Zc.enc),J sL,J sC]))] []=some ((.d (J (Y2 sS+Zat sD+sL))),[]):=by
 have e1:=Zpd sS h1;have e2:=Zpe sD h2;have b1:=Zmc h1;have b2:=Zo1 h2;have u0:=wi (Y2 sS+Zat sD) (by omega) (by omega);have u1:=wi (Y2 sS+Zat sD+sL) (by omega) (by omega);refine cE ?_;simp +contextual -implicitDefEqProofs (maxSteps:=10^7) only[go_sem,seval,↓gZ,ZfK,e1,e2,u0,u1]
def Jc (s:Zq):Prop:=s.Stock.length≤1000000∧(∀ x∈s.Stock,x.Flaws.length≤1000000∧R64 x.W∧R64 x.H)∧s.Opn.length≤1000000∧s.Done.length≤1000000
theorem Zj6 {x:Zb} (h:VPc x):R64 x.W∧R64 x.H:=by
 have:=h.1;unfold R64;omega
theorem JV {s:Zq} (h:ZS s):Jc s:=
 ⟨by have:=h.1.1;omega,fun x hx=>⟨(Zck h.1).2 x hx,Zj6 (Ql h.1.2 x hx)⟩,by have:=h.2.1.1;omega,by have:=h.2.2.1.1;omega⟩
theorem Yj (sS:List Zb) (sO sD:List Zc) (sL sC:Int) (hs:Jc (Zq.mk sS sO sD sL sC)):Ze Xs Ms Wc [(.d (.agg [.sl (sS.map Zb.enc),.sl (sO.map Zc.enc),.sl (sD.map Zc.enc),J sL,J sC]))] []=some ((.d (.bool (decide (ZS (Zq.mk sS sO sD sL sC))))),[]):=by
 obtain⟨h1,h2,h3,h4⟩:=hs;simp only at h1 h2 h3 h4;have e1:=Yv sS (by omega) (fun x hx=>⟨by have:=(h2 x hx).1;omega,(h2 x hx).2⟩);have e2:=Zf7 sO h3;have e3:=Zf7 sD h4;have e4:=ZJ sL 0 900000;have e5:=ZJ sC 0 900000;refine cE ?_;by_cases v1:VSt sS
 ·rw[Kh v1] at e1;by_cases v2:ZaR sO
  ·rw[Kh v2] at e2;by_cases v3:ZaR sD
   ·rw[Kh v3] at e3;by_cases v4:0≤sL∧sL≤900000
    ·rw[Kh v4] at e4;by_cases v5:0≤sC∧sC≤900000
     ·rw[Kh v5] at e5;have e6:=Zqv sS sO sD sL sC v1 v3 (by omega);simp +contextual -implicitDefEqProofs (maxSteps:=10^7) only[go_sem,seval,↓gZ,Yc,e1,e2,e3,e4,e5,e6];exact Zcs ⟨fun h=>⟨v1,v2,v3,v4.1,v4.2,v5.1,v5.2,h⟩,fun h=>h.2.2.2.2.2.2.2⟩
     ·rw[Kk v5] at e5;have hn:¬ZS (Zq.mk sS sO sD sL sC):=fun h=>v5 ⟨h.2.2.2.2.2.1,h.2.2.2.2.2.2.1⟩;simp +contextual -implicitDefEqProofs (maxSteps:=10^7) only[go_sem,seval,↓gZ,Yc,e1,e2,e3,e4,e5,hn]
    ·rw[Kk v4] at e4;have hn:¬ZS (Zq.mk sS sO sD sL sC):=fun h=>v4 ⟨h.2.2.2.1,h.2.2.2.2.1⟩;simp +contextual -implicitDefEqProofs (maxSteps:=10^7) only[go_sem,seval,↓gZ,Yc,e1,e2,e3,e4,hn]
   ·rw[Kk v3] at e3;have hn:¬ZS (Zq.mk sS sO sD sL sC):=fun h=>v3 h.2.2.1;simp +contextual -implicitDefEqProofs (maxSteps:=10^7) only[go_sem,seval,↓gZ,Yc,e1,e2,e3,hn]
  ·rw[Kk v2] at e2;have hn:¬ZS (Zq.mk sS sO sD sL sC):=fun h=>v2 h.2.1;simp +contextual -implicitDefEqProofs (maxSteps:=10^7) only[go_sem,seval,↓gZ,Yc,e1,e2,hn]
 ·rw[Kk v1] at e1;have hn:¬ZS (Zq.mk sS sO sD sL sC):=fun h=>v1 h.1;simp +contextual -implicitDefEqProofs (maxSteps:=10^7) only[go_sem,seval,↓gZ,Yc,e1,hn]
theorem Qe (sS:List Zb) (sO sD:List Zc) (sL sC:Int):Ze Xs Ms YQ [(.d (.agg [.sl (sS.map Zb.enc),.sl (sO.map Zc.enc),.sl (sD.map Zc.enc),J sL,J sC]))] []=some ((.d (.bool (decide (ZS (Zq.mk sS sO sD sL sC))))),[]):=by
 have e1:=V2 sS;have e2:=ZbH sO;have e3:=ZbH sD;refine cE ?_;by_cases v1:VSt sS
 ·rw[Kh v1] at e1;by_cases v2:ZaR sO
  ·rw[Kh v2] at e2;by_cases v3:ZaR sD
   ·rw[Kh v3] at e3;by_cases v4:((sL<0∨900000<sL)∨sC<0)∨900000<sC
    ·have hn:¬ZS (Zq.mk sS sO sD sL sC):=fun h=>by
      obtain⟨_,_,_,h1,h2,h3,h4,_⟩:=h;simp only at h1 h2 h3 h4;omega
     simp +contextual -implicitDefEqProofs (maxSteps:=10^7) only[go_sem,seval,↓gZ,YZ,e1,e2,e3,v4,hn,← LV]
    ·have e4:=Zpb sS v1;have e5:=Zo2 sD v3;have b1:=Zmc v1;have b2:=Zo1 v3;have u0:=wi (Y2 sS+Zat sD) (by omega) (by omega);have u1:=wi (Y2 sS+Zat sD+sL) (by omega) (by omega);simp +contextual -implicitDefEqProofs (maxSteps:=10^7) only[go_sem,seval,↓gZ,YZ,e1,e2,e3,v4,e4,e5,u0,u1,← LV];exact Zcs ⟨fun h=>⟨v1,v2,v3,by simp only;omega,by simp only;omega,by simp only;omega,by simp only;omega,h⟩,fun h=>h.2.2.2.2.2.2.2⟩
   ·rw[Kk v3] at e3;have hn:¬ZS (Zq.mk sS sO sD sL sC):=fun h=>v3 h.2.2.1;simp +contextual -implicitDefEqProofs (maxSteps:=10^7) only[go_sem,seval,↓gZ,YZ,e1,e2,e3,hn]
  ·rw[Kk v2] at e2;have hn:¬ZS (Zq.mk sS sO sD sL sC):=fun h=>v2 h.2.1;simp +contextual -implicitDefEqProofs (maxSteps:=10^7) only[go_sem,seval,↓gZ,YZ,e1,e2,hn]
 ·rw[Kk v1] at e1;have hn:¬ZS (Zq.mk sS sO sD sL sC):=fun h=>v1 h.1;simp +contextual -implicitDefEqProofs (maxSteps:=10^7) only[go_sem,seval,↓gZ,YZ,e1,hn]
theorem Zg3 (l:List Zc) (pW pH:Int) (pT:Bool) (pK:Int) (c:Int) (hl:l.length≤1000000) (hc:∀ x∈l,R64 (x.Count-c)):Ze Xs Ms Wd [(.d (.sl (l.map Zc.enc))),(.d (.agg [J pW,J pH,.bool pT,J pK])),(.d (J c))] [] =
  some (.tup [.own 0,(.d (.bool (Xl (Pane.mk pW pH pT pK) c false l)))],[.row 5 ((XZ l (Pane.mk pW pH pT pK) c).map Zc.enc) true false]):=by
 refine cE ?_;simp +contextual -implicitDefEqProofs (maxSteps:=10^7) only[go_sem,seval,↓gZ,Zea];refine LO (α:=Nat×Bool) (fun s=>[(10,.d (J (s.1:Int))),(9,.d (.bool s.2))]) (fun s=>[(0,.row 5 ((XZ (l.take s.1) (Pane.mk pW pH pT pK) c).map Zc.enc) true false)]) (fun s=>s.1≤l.length∧Xl (Pane.mk pW pH pT pK) c s.2 (l.drop s.1)=Xl (Pane.mk pW pH pT pK) c false l) (fun s=>l.length-s.1) (0,false) ⟨by simp,by simp⟩ ?_;intro⟨i,b⟩ ⟨hi,hp⟩ ih;simp only at hi hp;by_cases aa:i<l.length
 ·obtain⟨x,hx⟩:=Zr aa;have hw:=Zj (k:=i) (by omega);have hm:=ZwX (Pane.mk pW pH pT pK) c hx;have ad:(XZ (l.take i) (Pane.mk pW pH pT pK) c).length≤i:=Kx (Kl _ _) (by simp;omega);have hr:((XZ (l.take i) (Pane.mk pW pH pT pK) c).length+1)*40≤140737488355328∧(XZ (l.take i) (Pane.mk pW pH pT pK) c).length≤140737488355327:=by omega
  have ab:=hc x (Kc hx);rw[Zvj hx] at hp;obtain⟨⟨W,H,T,K⟩,C⟩:=x;simp only[Zg2] at hm hp ab;have u0:=wi (C-c) ab.1 ab.2;by_cases he:(⟨W,H,T,K⟩:Pane)=(Pane.mk pW pH pT pK)
  ·rw[Ki he] at hm hp;have ae:=he;simp only[Pane.mk.injEq] at he;by_cases h0:0<C-c
   ·have h1:0≤C-c:=by omega
    rw[Ki h0] at hm;rw[Kh h1] at hp;simp +contextual -implicitDefEqProofs (maxSteps:=10^7) only[go_sem,seval,↓gZ,hx,aa,hw,he,u0,h0,h1,hr];refine ih (i+1,true) _ ⟨by simp only;omega,hp⟩ (by simp only;omega) ?_;simp +contextual -implicitDefEqProofs (maxSteps:=10^7) only[go_sem,seval,↓gZ,hm,L6];try (simp[Zc.enc,he];done)
   ·rw[Kd h0] at hm;by_cases h1:0≤C-c
    ·rw[Kh h1] at hp;simp +contextual -implicitDefEqProofs (maxSteps:=10^7) only[go_sem,seval,↓gZ,hx,aa,hw,he,u0,h0,h1,hr];refine ih (i+1,true) _ ⟨by simp only;omega,hp⟩ (by simp only;omega) ?_;simp +contextual -implicitDefEqProofs (maxSteps:=10^7) only[go_sem,seval,↓gZ,hm,Option.toList_none,K8]
    ·rw[Kk h1] at hp;simp +contextual -implicitDefEqProofs (maxSteps:=10^7) only[go_sem,seval,↓gZ,hx,aa,hw,he,u0,h0,h1,hr];refine ih (i+1,false) _ ⟨by simp only;omega,hp⟩ (by simp only;omega) ?_;simp +contextual -implicitDefEqProofs (maxSteps:=10^7) only[go_sem,seval,↓gZ,hm,Option.toList_none,K8]
  ·rw[Kd he] at hm hp;simp only[Pane.mk.injEq] at he;by_cases h0:0<C
   ·rw[Ki h0] at hm;simp +contextual -implicitDefEqProofs (maxSteps:=10^7) only[go_sem,seval,↓gZ,hx,aa,hw,he,h0,hr];refine ih (i+1,b) _ ⟨by simp only;omega,hp⟩ (by simp only;omega) ?_;simp +contextual -implicitDefEqProofs (maxSteps:=10^7) only[go_sem,seval,↓gZ,hm,L6];try (simp[Zc.enc];done)
   ·rw[Kd h0] at hm;simp +contextual -implicitDefEqProofs (maxSteps:=10^7) only[go_sem,seval,↓gZ,hx,aa,hw,he,h0,hr];refine ih (i+1,b) _ ⟨by simp only;omega,hp⟩ (by simp only;omega) ?_;simp +contextual -implicitDefEqProofs (maxSteps:=10^7) only[go_sem,seval,↓gZ,hm,Option.toList_none,K8]
 ·have:i=l.length:=by omega
  subst this;rw[ZwW] at hp;simp +contextual -implicitDefEqProofs (maxSteps:=10^7) only[go_sem,seval,↓gZ,hp];simp
theorem ZAi (l:List Zc) (i:Nat) (W H:Int) (T:Bool) (K C:Int):(l.map Zc.enc).set i (.agg [J W,J H,.bool T,J K,J C])=(l.set i ⟨⟨W,H,T,K⟩,C⟩).map Zc.enc:=(L0 (f:=Zc.enc) (l:=l) (i:=i) (a:=⟨⟨W,H,T,K⟩,C⟩)).symm
theorem ZdU (l:List Zc) (pW pH:Int) (pT:Bool) (pK:Int) (c:Int) (hl:l.length≤1000000) (hc:∀ x∈l,R64 (x.Count+c)):Ze Xs Ms Uc [(.d (.sl (l.map Zc.enc))),(.d (.agg [J pW,J pH,.bool pT,J pK])),(.d (J c))] [] =
  some (.own 0,[.row 5 ((YJ (Pane.mk pW pH pT pK) c l).map Zc.enc) true false]):=by
 have ag:l.length*40≤140737488355328∧l.length≤140737488355328:=by omega
 have ah:(l.length+1)*40≤140737488355328∧l.length≤140737488355327:=by omega
 refine cE ?_;simp +contextual -implicitDefEqProofs (maxSteps:=10^7) only[go_sem,seval,↓gZ,ZfP,ag];refine LO (α:=Nat) (fun k=>[(8,.d (J (k:Int)))]) (fun _=>[]) (fun k=>k≤l.length∧(Pane.mk pW pH pT pK)∉(l.take k).map Zc.Pane) (fun k=>l.length-k) 0 ⟨by simp,by simp⟩ ?_;intro k ⟨hk,hp⟩ ih;by_cases aa:k<l.length
 ·obtain⟨x,hx⟩:=Zr aa;have hw:=Zj (k:=k) (by omega);have ab:=hc x (Kc hx);have ad:=ZaS hx;have ae:=Ztx (Pane.mk pW pH pT pK) c l k x hx;obtain⟨⟨W,H,T,K⟩,C⟩:=x;simp only at ab ad ae;have u0:=wi (C+c) ab.1 ab.2;by_cases he:(⟨W,H,T,K⟩:Pane)=(Pane.mk pW pH pT pK)
  ·rw[ae he hp];have af:=he;simp only[Pane.mk.injEq] at he;simp +contextual -implicitDefEqProofs (maxSteps:=10^7) only[go_sem,seval,↓gZ,hx,aa,hw,he,u0,ZAi];try (simp[he];done)
  ·have af:=he;simp only[Pane.mk.injEq] at he;simp +contextual -implicitDefEqProofs (maxSteps:=10^7) only[go_sem,seval,↓gZ,hx,aa,hw,he];refine ih (k+1) _ ⟨by omega,?_⟩ (by omega) ?_
   ·rw[ad,Kg];intro h;rcases h with h | h
    ·exact hp h
    ·exact af (KA.1 h).symm
   ·simp +contextual -implicitDefEqProofs (maxSteps:=10^7) only[go_sem,seval,↓gZ]
 ·have:k=l.length:=by omega
  subst this;rw[KH (Kr _)] at hp;rw[Zty (Pane.mk pW pH pT pK) c l hp];simp +contextual -implicitDefEqProofs (maxSteps:=10^7) only[go_sem,seval,↓gZ,ah];try (simp[Zc.enc];done)
theorem Zqw (l:List Zb) (qL qW qH:Int) (qF:List Box) (hl:l.length≤100000) (hF:∀ x∈l,x.Flaws.length≤1000000) (hq:qF.length≤1000000):Ze Xs Ms Zag [(.d (.sl (l.map Zb.enc))),(.d (.agg [J qL,J qW,J qH,.sl (qF.map Box.enc)]))] [] =
  some (.own 0,[.row 4 ((Qz (Zb.mk qL qW qH qF) l).map Zb.enc) true false]):=by
 have eq:=Vg qL qW qH qF hq;refine cE ?_;simp +contextual -implicitDefEqProofs (maxSteps:=10^7) only[go_sem,seval,↓gZ,ZfW];refine LO (α:=Nat×Bool×List Zb) (fun s=>[(7,.d (J (s.1:Int))),(6,.d (.bool s.2.1))]) (fun s=>[(0,.row 4 (s.2.2.map Zb.enc) true false)]) (fun s=>s.1≤l.length∧s.2.2++(if s.2.1 then l.drop s.1 else Qz (Zb.mk qL qW qH qF) (l.drop s.1))=Qz (Zb.mk qL qW qH qF) l∧s.2.2.length≤s.1+s.2.1.toNat) (fun s=>l.length-s.1) (0,false,[]) ⟨by simp,by simp,by simp⟩ ?_;intro⟨i,b,o⟩ ⟨hi,hp,ho⟩ ih;simp only at hi hp ho;have hb:=Bool.toNat_le b;by_cases aa:i<l.length
 ·obtain⟨x,hx⟩:=Zr aa;have hw:=Zj (k:=i) (by omega);have hr:(o.length+1)*48≤140737488355328∧o.length≤140737488355327:=by omega
  have ab:∀ n:Nat,n=o.length+1→(n+1)*48≤140737488355328∧n≤140737488355327:=fun n hn=>by omega
  have ab:=ab _ rfl;have ad:o.length≤140737488355326:=by omega
  have e:=Vg x.Label x.W x.H x.Flaws (hF x (Kc hx));rw[Zpc hx] at hp;have hd:l.drop i=x :: l.drop (i+1):=by
   obtain⟨h1,h2⟩:=Kb.1 hx;rw[Kw h1,h2]
  obtain⟨L,W,H,F⟩:=x;simp only at e hp;cases b with
  | true=>
   simp only[Bool.toNat_true] at ho;rw[Ki rfl] at hp;simp +contextual -implicitDefEqProofs (maxSteps:=10^7) only[go_sem,seval,↓gZ,hx,aa,hw,e,hr];refine ih (i+1,true,o++[⟨L,W,H,F⟩]) _ ⟨by simp only;omega,?_,by simp;omega⟩ (by simp only;omega) ?_
   ·rw[← hp,hd];simp
   ·simp +contextual -implicitDefEqProofs (maxSteps:=10^7) only[go_sem,seval,↓gZ];try (simp[Zb.enc];done)
  | false=>
   simp only[Bool.toNat_false] at ho;rw[Kd (by simp)] at hp;by_cases hc:qL<L
   ·rw[Ki hc] at hp;simp +contextual -implicitDefEqProofs (maxSteps:=10^7) only[go_sem,seval,↓gZ,hx,aa,hw,e,eq,hc,hr,ab,ad];refine ih (i+1,true,o++[(Zb.mk qL qW qH qF),⟨L,W,H,F⟩]) _ ⟨by simp only;omega,?_,by simp;omega⟩ (by simp only;omega) ?_
    ·rw[← hp,hd];simp
    ·simp +contextual -implicitDefEqProofs (maxSteps:=10^7) only[go_sem,seval,↓gZ];try (simp[Zb.enc];done)
   ·rw[Kd hc] at hp;simp +contextual -implicitDefEqProofs (maxSteps:=10^7) only[go_sem,seval,↓gZ,hx,aa,hw,e,hc,hr];refine ih (i+1,false,o++[⟨L,W,H,F⟩]) _ ⟨by simp only;omega,?_,by simp;omega⟩ (by simp only;omega) ?_
    ·rw[← hp];simp
    ·simp +contextual -implicitDefEqProofs (maxSteps:=10^7) only[go_sem,seval,↓gZ];try (simp[Zb.enc];done)
 ·have:i=l.length:=by omega
  subst this;have hr:(o.length+1)*48≤140737488355328∧o.length≤140737488355327:=by omega
  cases b with
  | true=>
   simp at hp;simp +contextual -implicitDefEqProofs (maxSteps:=10^7) only[go_sem,seval,↓gZ];rw[hp]
  | false=>
   simp[Qz] at hp;simp +contextual -implicitDefEqProofs (maxSteps:=10^7) only[go_sem,seval,↓gZ,eq,hr];rw[← hp];try (simp[Zb.enc];done)
def WB (p:Zb) (l:List Zb):Prop:=(VSt l∧VPc p)∧VSt (Qz p l)
instance (p:Zb) (l:List Zb):Decidable (WB p l):=by unfold WB;infer_instance
theorem Zin (l:List Zb) (qL qW qH:Int) (qF:List Box) (hl:l.length≤100000) (hS:∀ x∈l,x.Flaws.length≤1000000∧R64 x.W∧R64 x.H) (hq:qF.length≤1000000∧R64 qW∧R64 qH):Ze Xs Ms Ub [(.d (.sl (l.map Zb.enc))),(.d (.agg [J qL,J qW,J qH,.sl (qF.map Box.enc)]))] [] =
  some (.tup [.own 0,(.d (.bool (decide (WB (Zb.mk qL qW qH qF) l))))],[.row 4 ((if WB (Zb.mk qL qW qH qF) l then Qz (Zb.mk qL qW qH qF) l else []).map Zb.enc) true false]):=by
 have e1:=Yv l (by omega) (fun x hx=>⟨by have:=(hS x hx).1;omega,(hS x hx).2⟩);have e2:=Zf8 qL qW qH qF (by omega) hq.2.1 hq.2.2;have e3:=Zqw l qL qW qH qF hl (fun x hx=>(hS x hx).1) hq.1;have e4:=Yv (Qz (Zb.mk qL qW qH qF) l) (by rw[Zld];omega) (fun x hx=>by
  rcases Zsq _ _ _ hx with rfl | hx
  ·exact⟨by simp only;omega,hq.2⟩
  ·exact⟨by have:=(hS x hx).1;omega,(hS x hx).2⟩)
 refine cE ?_;by_cases v1:VSt l
 ·rw[Kh v1] at e1;by_cases v2:VPc (Zb.mk qL qW qH qF)
  ·rw[Kh v2] at e2;by_cases v3:VSt (Qz (Zb.mk qL qW qH qF) l)
   ·rw[Kh v3] at e4;have h:WB (Zb.mk qL qW qH qF) l:=⟨⟨v1,v2⟩,v3⟩
    rw[Kh h,Ki h];simp +contextual -implicitDefEqProofs (maxSteps:=10^7) only[go_sem,seval,↓gZ,Ul,e1,e2,e3,e4]
   ·rw[Kk v3] at e4;have h:¬WB (Zb.mk qL qW qH qF) l:=fun h=>v3 h.2;rw[Kk h,Kd h];simp +contextual -implicitDefEqProofs (maxSteps:=10^7) only[go_sem,seval,↓gZ,Ul,e1,e2,e3,e4]
  ·rw[Kk v2] at e2;have h:¬WB (Zb.mk qL qW qH qF) l:=fun h=>v2 h.1.2;rw[Kk h,Kd h];simp +contextual -implicitDefEqProofs (maxSteps:=10^7) only[go_sem,seval,↓gZ,Ul,e1,e2]
 ·rw[Kk v1] at e1;have h:¬WB (Zb.mk qL qW qH qF) l:=fun h=>v1 h.1.1;rw[Kk h,Kd h];simp +contextual -implicitDefEqProofs (maxSteps:=10^7) only[go_sem,seval,↓gZ,Ul,e1]
theorem Ztz (l:List Zb) (hl:l.length≤1000000) (hF:∀ x∈l,x.Flaws.length≤1000000):Ze Xs Ms VC [(.d (.sl (l.map Zb.enc))),(.d (J ((-1))))] []=some (.own 0,[.row 4 (l.map Zb.enc) true false]):=by
 refine cE ?_;simp +contextual -implicitDefEqProofs (maxSteps:=10^7) only[go_sem,seval,↓gZ,Zdz];refine LO (α:=Nat) (fun i=>[(6,.d (J (i:Int)))]) (fun i=>[(0,.row 4 ((l.take i).map Zb.enc) true false)]) (fun i=>i≤l.length) (fun i=>l.length-i) 0 (by omega) ?_;intro i hi ih;by_cases aa:i<l.length
 ·obtain⟨x,hx⟩:=Zr aa;have hw:=Zj (k:=i) (by omega);have ab:¬(i:Int)=-1:=by omega
  have hm:l.take (i+1)=l.take i++[x]:=by rw[KU,hx];simp
  have ad:(l.take i).length≤i:=by simp;omega
  have hr:((l.take i).length+1)*48≤140737488355328∧(l.take i).length≤140737488355327:=by omega
  have e:=Vg x.Label x.W x.H x.Flaws (hF x (Kc hx));obtain⟨L,W,H,F⟩:=x;simp only at e;simp +contextual -implicitDefEqProofs (maxSteps:=10^7) only[go_sem,seval,↓gZ,hx,aa,hw,ab,e,hr];refine ih (i+1) _ (by omega) (by omega) ?_;simp +contextual -implicitDefEqProofs (maxSteps:=10^7) only[go_sem,seval,↓gZ,hm]
  first | rfl | (simp;done) | (simp;rfl)
 ·have:i=l.length:=by omega
  subst this;simp +contextual -implicitDefEqProofs (maxSteps:=10^7) only[go_sem,seval,↓gZ];simp
theorem V9 (sS:List Zb) (sO sD:List Zc) (sL sC:Int) (hs:Jc (Zq.mk sS sO sD sL sC)):Ze Xs Ms J2 [(.d (.agg [.sl (sS.map Zb.enc),.sl (sO.map Zc.enc),.sl (sD.map Zc.enc),J sL,J sC]))] []=some (.agg [.own 0,.own 1,.own 2,(.d (J sL)),(.d (J sC))],[.row 4 (sS.map Zb.enc) true false,.row 5 (sO.map Zc.enc) true false,.row 5 (sD.map Zc.enc) true false]):=by
 obtain⟨h1,h2,h3,h4⟩:=hs;simp only at h1 h2 h3 h4;have e1:=Ztz sS h1 (fun x hx=>(h2 x hx).1);have r1:sO.length*40≤140737488355328∧sO.length≤140737488355328:=by omega
 have r2:sD.length*40≤140737488355328∧sD.length≤140737488355328:=by omega
 refine cE ?_;simp +contextual -implicitDefEqProofs (maxSteps:=10^7) only[go_sem,seval,↓gZ,ZfH,Zmk,e1,r1,r2]
theorem Zvl (sS:List Zb) (sO sD:List Zc) (sL sC:Int) (a:Nat) (qL qW qH:Int) (qF:List Box) (hx:sS[a]?=some (Zb.mk qL qW qH qF)) (hl:sO.length≤1000000) (hS:sS.length≤1000000):Ze Xs Ms Zc1 [(.d (.agg [.sl (sS.map Zb.enc),.sl (sO.map Zc.enc),.sl (sD.map Zc.enc),J sL,J sC])),(.d (J a))] []=some (.agg [(.d (J qW)),(.d (J qH)),.own 0],[.row 4 ((sO.map Zc.Pane).map Pane.enc) true false]):=by
 have aa:=(Kb.1 hx).1;refine cE ?_;simp +contextual -implicitDefEqProofs (maxSteps:=10^7) only[go_sem,seval,↓gZ,Zi4,hx,aa];refine LO (α:=Nat) (fun i=>[(6,.d (J (i:Int)))]) (fun i=>[(3,.row 4 (((sO.take i).map Zc.Pane).map Pane.enc) true false)]) (fun i=>i≤sO.length) (fun i=>sO.length-i) 0 (by omega) ?_;intro i hi ih;by_cases aa:i<sO.length
 ·obtain⟨x,hx⟩:=Zr aa;have hw:=Zj (k:=i) (by omega);have hm:=ZaS hx;have ab:(sO.take i).length≤i:=by simp;omega
  have hr:((sO.take i).length+1)*32≤140737488355328∧(sO.take i).length≤140737488355327:=by omega
  obtain⟨⟨W,H,T,K⟩,C⟩:=x;simp only at hm;simp +contextual -implicitDefEqProofs (maxSteps:=10^7) only[go_sem,seval,↓gZ,hx,aa,hw,hr];refine ih (i+1) _ (by omega) (by omega) ?_;simp +contextual -implicitDefEqProofs (maxSteps:=10^7) only[go_sem,seval,↓gZ,hm]
  first | rfl | (simp;done) | (simp;rfl)
 ·have:i=sO.length:=by omega
  subst this;simp +contextual -implicitDefEqProofs (maxSteps:=10^7) only[go_sem,seval,↓gZ];simp
def SmS (s:Zq):Prop:=Jc s∧s.Stock.length≤100000∧-1000000000≤s.Lost∧s.Lost≤1000000000∧-1000000000≤s.Came∧s.Came≤1000000000
theorem Zle {s:Zq} (h:ZS s):SmS s:=⟨JV h,by have:=h.1.1;omega,by have:=h.2.2.2.1;omega,by have:=h.2.2.2.2.1;omega,by have:=h.2.2.2.2.2.1;omega,by have:=h.2.2.2.2.2.2.1;omega⟩
def I5 (n:Int):Prop:=-100000≤n∧n≤100000
theorem ZAj {a b:Int} (ha:I5 a) (hb:I5 b) : -10000000000≤a*b∧a*b≤10000000000:=by
 unfold I5 at ha hb;have h1:a.natAbs≤100000:=by omega
 have h2:b.natAbs≤100000:=by omega
 have h3:(a*b).natAbs≤100000*100000:=by rw[Int.natAbs_mul];exact Nat.mul_le_mul h1 h2
 omega
theorem ZAk {a:Int} (h:I5 a):R64 a:=by unfold I5 at h;unfold R64;omega
theorem ZiY (sS:List Zb) (sO sD:List Zc) (sL sC:Int) (eK eL eX eY eW eH aa ab:Int) (ad:Bool) (ae eC eo ea ep:Int) (et:Bool) (ek:List Zf) (hs:SmS (Zq.mk sS sO sD sL sC)) (hk:eK=0) (hW:I5 eW) (hH:I5 eH):Ze Xs Ms XP [(.d (.agg [.sl (sS.map Zb.enc),.sl (sO.map Zc.enc),.sl (sD.map Zc.enc),J sL,J sC])),(.d (.agg [J eK,J eL,J eX,J eY,J eW,J eH,J aa,J ab,.bool ad,J ae,J eC,J eo,J ea,J ep,.bool et,.sl (ek.map Zf.enc)]))] [] =
  some (.tup [.agg [.own 0,.d (.sl (sO.map Zc.enc)),.d (.sl (sD.map Zc.enc)),(.d (J sL)),(.d (J (sC+eW*eH)))],(.d (.bool (decide ((WB ⟨eL,eW,eH,[]⟩ sS∧eX=0)∧eY=0))))],[.row 4 ((if WB ⟨eL,eW,eH,[]⟩ sS then Qz ⟨eL,eW,eH,[]⟩ sS else []).map Zb.enc) true false]):=by
 obtain⟨⟨h1,h2,h3,h4⟩,h5,h6,h7,h8,h9⟩:=hs;simp only at h1 h2 h3 h4 h5 h6 h7 h8 h9;subst hk;have hm:=ZAj hW hH;have e1:=Yi sS eL (by omega);have e2:=Zin sS eL eW eH [] h5 h2 ⟨by simp,ZAk hW,ZAk hH⟩;have u1:=wi (eW*eH) (by omega) (by omega);have u2:=wi (sC+eW*eH) (by omega) (by omega);simp only[Ku] at e2;generalize (if WB ⟨eL,eW,eH,[]⟩ sS then Qz ⟨eL,eW,eH,[]⟩ sS else [])=R at e2 ⊢;by_cases v1:WB ⟨eL,eW,eH,[]⟩ sS
 ·rw[Kh v1] at e2;refine cE ?_;by_cases v2:eX=0
  ·simp +contextual -implicitDefEqProofs (maxSteps:=10^7) only[go_sem,seval,↓gZ,XT,e1,e2,u1,u2,v2]
   all_goals simp[v1]
  ·simp +contextual -implicitDefEqProofs (maxSteps:=10^7) only[go_sem,seval,↓gZ,XT,e1,e2,u1,u2,v2]
   all_goals simp
 ·rw[Kk v1] at e2;refine cE ?_;simp +contextual -implicitDefEqProofs (maxSteps:=10^7) only[go_sem,seval,↓gZ,XT,e1,e2,u1,u2,v1]
theorem Zmu (sS:List Zb) (sO sD:List Zc) (sL sC:Int) (eK eL eX eY eW eH aa ab:Int) (ad:Bool) (ae eC eo ea ep:Int) (et:Bool) (ek:List Zf) (hs:SmS (Zq.mk sS sO sD sL sC)) (hk:¬eK=0) (hf:Qv 0 sS eL<0):Ze Xs Ms XP [(.d (.agg [.sl (sS.map Zb.enc),.sl (sO.map Zc.enc),.sl (sD.map Zc.enc),J sL,J sC])),(.d (.agg [J eK,J eL,J eX,J eY,J eW,J eH,J aa,J ab,.bool ad,J ae,J eC,J eo,J ea,J ep,.bool et,.sl (ek.map Zf.enc)]))] [] =
  some (.tup [.agg [.own 0,.own 1,.own 2,(.d (J 0)),(.d (J 0))],(.d (.bool false))],[.row 4 [] true false,.row 5 [] true false,.row 5 [] true false]):=by
 have e1:=Yi sS eL (by have:=hs.2.1;simp only at this;omega);refine cE ?_;simp +contextual -implicitDefEqProofs (maxSteps:=10^7) only[go_sem,seval,↓gZ,XT,e1,hk,hf]
theorem ZiZ (sS:List Zb) (sO sD:List Zc) (sL sC:Int) (eK eL eX eY eW eH aa ab:Int) (ad:Bool) (ae eC eo ea ep:Int) (et:Bool) (ek:List Zf) (hs:SmS (Zq.mk sS sO sD sL sC)) (hk:eK=5) (a:Nat) (hf:Qv 0 sS eL=(a:Int)) (qL qW qH:Int) (qF:List Box) (hx:sS[a]?=some (Zb.mk qL qW qH qF)) (hW:I5 qW) (hH:I5 qH):Ze Xs Ms XP [(.d (.agg [.sl (sS.map Zb.enc),.sl (sO.map Zc.enc),.sl (sD.map Zc.enc),J sL,J sC])),(.d (.agg [J eK,J eL,J eX,J eY,J eW,J eH,J aa,J ab,.bool ad,J ae,J eC,J eo,J ea,J ep,.bool et,.sl (ek.map Zf.enc)]))] [] =
  some (.tup [.agg [.own 0,.d (.sl (sO.map Zc.enc)),.d (.sl (sD.map Zc.enc)),(.d (J (sL+qW*qH))),(.d (J sC))],(.d (.bool true))],[.row 4 ((sS.eraseIdx a).map Zb.enc) true false]):=by
 obtain⟨⟨h1,h2,h3,h4⟩,h5,h6,h7,h8,h9⟩:=hs;simp only at h1 h2 h3 h4 h5 h6 h7 h8 h9;subst hk;have hm:=ZAj hW hH;have e1:=Yi sS eL (by omega);rw[hf] at e1;have af:=(Kb.1 hx).1;have h0:¬(a:Int)<0:=by omega
 have e2:=Vg qL qW qH qF (h2 _ (Kc hx)).1;have e3:=ZfA sS a h1 (fun x hx=>(h2 x hx).1);have u1:=wi (qW*qH) (by omega) (by omega);have u2:=wi (sL+qW*qH) (by omega) (by omega);refine cE ?_;simp +contextual -implicitDefEqProofs (maxSteps:=10^7) only[go_sem,seval,↓gZ,XT,e1,e2,e3,h0,af,hx,u1,u2]
theorem Zj7 (sS:List Zb) (sO sD:List Zc) (sL sC:Int) (eK eL eX eY eW eH ab ad:Int) (ae:Bool) (af eC eo ea ep:Int) (et:Bool) (ek:List Zf) (hv:ZS (Zq.mk sS sO sD sL sC)) (hk:eK=1) (a:Nat) (hf:Qv 0 sS eL=(a:Int)) (qL qW qH:Int) (qF:List Box) (hx:sS[a]?=some (Zb.mk qL qW qH qF)):Ze Xs Ms XP [(.d (.agg [.sl (sS.map Zb.enc),.sl (sO.map Zc.enc),.sl (sD.map Zc.enc),J sL,J sC])),(.d (.agg [J eK,J eL,J eX,J eY,J eW,J eH,J ab,J ad,.bool ae,J af,J eC,J eo,J ea,J ep,.bool et,.sl (ek.map Zf.enc)]))] [] =
  some (.tup [.agg [.own 0,.d (.sl (sO.map Zc.enc)),.d (.sl (sD.map Zc.enc)),(.d (J sL)),(.d (J sC))],(.d (.bool (decide (WB ⟨qL,qW,qH,qF++[⟨eX,eY,eW,eH⟩]⟩ (sS.eraseIdx a)))))],[.row 4 ((if WB ⟨qL,qW,qH,qF++[⟨eX,eY,eW,eH⟩]⟩ (sS.eraseIdx a) then Qz ⟨qL,qW,qH,qF++[⟨eX,eY,eW,eH⟩]⟩ (sS.eraseIdx a) else []).map Zb.enc) true false]):=by
 obtain⟨⟨h1,h2,h3,h4⟩,h5,h6,h7,h8,h9⟩:=Zle hv;simp only at h1 h2 h3 h4 h5 h6 h7 h8 h9;subst hk;have e1:=Yi sS eL (by omega);rw[hf] at e1;have ag:=(Kb.1 hx).1;have h0:¬(a:Int)<0:=by omega
 have aa:=h2 _ (Kc hx);simp only at aa;have ai:=Zla sS a;have e2:=Vg qL qW qH qF aa.1;have e3:=ZfA sS a h1 (fun x hx=>(h2 x hx).1);have hr:(qF.length+1)*32≤140737488355328∧qF.length≤140737488355327:=by omega
 have ah:=(Ql hv.1.2 _ (Kc hx)).1.2.2.2.2.2.2;simp only at ah;have e4:=Zin (sS.eraseIdx a) qL qW qH (qF++[⟨eX,eY,eW,eH⟩]) (by omega) (fun x hx=>h2 x (LD hx)) ⟨by simp;omega,aa.2⟩;rw[K9] at e4;simp only[Kj,Ku,Box.enc] at e4;generalize (if WB ⟨qL,qW,qH,qF++[⟨eX,eY,eW,eH⟩]⟩ (sS.eraseIdx a) then Qz ⟨qL,qW,qH,qF++[⟨eX,eY,eW,eH⟩]⟩ (sS.eraseIdx a) else [])=R at e4 ⊢;generalize decide (WB ⟨qL,qW,qH,qF++[⟨eX,eY,eW,eH⟩]⟩ (sS.eraseIdx a))=V at e4 ⊢;refine cE ?_;simp +contextual -implicitDefEqProofs (maxSteps:=10^7) only[go_sem,seval,↓gZ,XT,e1,e2,e3,e4,h0,ag,hx,hr]
def Wy (l:Zc):Prop:=VP l.Pane∧1≤l.Count∧l.Count≤24
instance (l:Zc):Decidable (Wy l):=by unfold Wy;infer_instance
theorem Zmv (sS:List Zb) (sO sD:List Zc) (sL sC:Int) (eK eL eX eY eW eH aa ab:Int) (ad:Bool) (ae eC eo ea ep:Int) (et:Bool) (ek:List Zf) (hl:¬Wy ⟨⟨aa,ab,ad,ae⟩,eC⟩):Ze Xs Ms YU [(.d (.agg [.sl (sS.map Zb.enc),.sl (sO.map Zc.enc),.sl (sD.map Zc.enc),J sL,J sC])),(.d (.agg [J eK,J eL,J eX,J eY,J eW,J eH,J aa,J ab,.bool ad,J ae,J eC,J eo,J ea,J ep,.bool et,.sl (ek.map Zf.enc)]))] [] =
  some (.tup [.agg [.own 0,.own 1,.own 2,(.d (J 0)),(.d (J 0))],(.d (.bool false))],[.row 4 [] true false,.row 5 [] true false,.row 5 [] true false]):=by
 have e1:=Ve aa ab ad ae;have e2:=ZJ eC 1 24;refine cE ?_;by_cases v1:VP ⟨aa,ab,ad,ae⟩
 ·have v2:¬(1≤eC∧eC≤24):=fun h=>hl ⟨v1,h⟩;rw[Kh v1] at e1;rw[Kk v2] at e2;simp +contextual -implicitDefEqProofs (maxSteps:=10^7) only[go_sem,seval,↓gZ,Wh,e1,e2]
 ·rw[Kk v1] at e1;simp +contextual -implicitDefEqProofs (maxSteps:=10^7) only[go_sem,seval,↓gZ,Wh,e1]
theorem Zj8 (sS:List Zb) (sO sD:List Zc) (sL sC:Int) (eK eL eX eY eW eH aa ab:Int) (ad:Bool) (ae eC eo ea ep:Int) (et:Bool) (ek:List Zf) (hv:ZS (Zq.mk sS sO sD sL sC)) (hl:Wy ⟨⟨aa,ab,ad,ae⟩,eC⟩) (hk:eK=2):Ze Xs Ms YU [(.d (.agg [.sl (sS.map Zb.enc),.sl (sO.map Zc.enc),.sl (sD.map Zc.enc),J sL,J sC])),(.d (.agg [J eK,J eL,J eX,J eY,J eW,J eH,J aa,J ab,.bool ad,J ae,J eC,J eo,J ea,J ep,.bool et,.sl (ek.map Zf.enc)]))] [] =
  some (.tup [.agg [.d (.sl (sS.map Zb.enc)),.own 0,.d (.sl (sD.map Zc.enc)),(.d (J sL)),(.d (J sC))],(.d (.bool true))],[.row 5 ((YJ ⟨aa,ab,ad,ae⟩ eC sO).map Zc.enc) true false]):=by
 have e1:=Ve aa ab ad ae;have e2:=ZJ eC 1 24;rw[Kh hl.1] at e1;rw[Kh hl.2] at e2;subst hk;have e3:=ZdU sO aa ab ad ae eC (by have:=hv.2.1.1;simp only at this;omega) (fun x hx=>by have:=(XK hv.2.1 x hx).2;have:=hl.2;simp only at this;unfold R64;omega);refine cE ?_;simp +contextual -implicitDefEqProofs (maxSteps:=10^7) only[go_sem,seval,↓gZ,Wh,e1,e2,e3]
theorem Zj9 (sS:List Zb) (sO sD:List Zc) (sL sC:Int) (eK eL eX eY eW eH aa ab:Int) (ad:Bool) (ae eC eo ea ep:Int) (et:Bool) (ek:List Zf) (hv:ZS (Zq.mk sS sO sD sL sC)) (hl:Wy ⟨⟨aa,ab,ad,ae⟩,eC⟩) (hk:¬eK=2):Ze Xs Ms YU [(.d (.agg [.sl (sS.map Zb.enc),.sl (sO.map Zc.enc),.sl (sD.map Zc.enc),J sL,J sC])),(.d (.agg [J eK,J eL,J eX,J eY,J eW,J eH,J aa,J ab,.bool ad,J ae,J eC,J eo,J ea,J ep,.bool et,.sl (ek.map Zf.enc)]))] [] =
  some (.tup [.agg [.d (.sl (sS.map Zb.enc)),.own 0,.own 1,(.d (J (sL+eC*aa*ab))),(.d (J sC))],(.d (.bool (Xl ⟨aa,ab,ad,ae⟩ eC false sD)))],[.row 5 ((YJ ⟨aa,ab,ad,ae⟩ eC sO).map Zc.enc) true false,.row 5 ((XZ sD ⟨aa,ab,ad,ae⟩ eC).map Zc.enc) true false]):=by
 have e1:=Ve aa ab ad ae;have e2:=ZJ eC 1 24;rw[Kh hl.1] at e1;rw[Kh hl.2] at e2;have af:=ZeL hl;have h6:=hv.2.2.2;simp only at af h6;have e3:=ZdU sO aa ab ad ae eC (by have:=hv.2.1.1;simp only at this;omega) (fun x hx=>by have:=(XK hv.2.1 x hx).2;have:=hl.2;simp only at this;unfold R64;omega);have e4:=Zg3 sD aa ab ad ae eC (by have:=hv.2.2.1.1;simp only at this;omega) (fun x hx=>by have:=(XK hv.2.2.1 x hx).2;have:=hl.2;simp only at this;unfold R64;omega);have u0:=wi (eC*aa) (by omega) (by omega);have u1:=wi (eC*aa*ab) (by omega) (by omega);have u2:=wi (sL+eC*aa*ab) (by omega) (by omega)
 refine cE ?_;simp +contextual -implicitDefEqProofs (maxSteps:=10^7) only[go_sem,seval,↓gZ,Wh,e1,e2,e3,e4,hk,u0,u1,u2]
theorem ZcV {ps:List Pane}:∀ {b:BT} {x y w h:Int},X3 ps b w h=true→∀ c∈plc b x y w h,∃ n:Nat,c.Pane=(n:Int)∧n<ps.length
 | .waste,x,y,w,h,hf,c,hc=>by simp[plc] at hc
 | .pane i t,x,y,w,h,hf,c,hc=>by
  simp only[plc,KA] at hc;subst hc;simp only[X3,JG,Ke,Kn] at hf;refine⟨i.toNat,by simp only;omega,?_⟩;rcases KT i.toNat ps.length with h1 | h1
  ·exact h1
  ·rw[KR h1] at hf;exact absurd hf.2 (by simp)
 | .cut d a l r,x,y,w,h,hf,c,hc=>by
  cases d
  ·simp only[X3,Ke,Ka,Ko] at hf;simp only[plc,Ka,Ko,Kg] at hc;rcases hc with hc | hc
   ·exact ZcV hf.1.2 c hc
   ·exact ZcV hf.2 c hc
  ·simp only[X3,Ke,Km] at hf;simp only[plc,Km,Kg] at hc;rcases hc with hc | hc
   ·exact ZcV hf.1.2 c hc
   ·exact ZcV hf.2 c hc
def Zaw:List Int→List L.Place→List Int
 | u,[]=>u
 | u,x :: l=>Zaw (u.set x.Pane.toNat (u[x.Pane.toNat]?.getD 0+1)) l
theorem Zpf {u:List Int} {l:List L.Place} {k:Nat} {x:L.Place} (hx:l[k]?=some x):Zaw u (l.drop k)=Zaw (u.set x.Pane.toNat (u[x.Pane.toNat]?.getD 0+1)) (l.drop (k+1)):=by
 obtain⟨h1,h2⟩:=Kb.1 hx;rw[Kw h1,h2,Zaw]
theorem Zsr {u:List Int} {l:List L.Place}:Zaw u (l.drop l.length)=u:=by simp[Zaw]
theorem Zss:∀ (l:List L.Place) (u:List Int),(Zaw u l).length=u.length
 | [],u=>rfl
 | x :: l,u=>by rw[Zaw,Zss l];simp
theorem Zst:∀ (l:List L.Place) (u:List Int) (m:Int),(∀ v∈u,0≤v∧v≤m)→∀ v∈Zaw u l,0≤v∧v≤m+l.length
 | [],u,m,h,v,hv=>by have:=h v hv;simp;omega
 | x :: l,u,m,h,v,hv=>by
  have:=Zst l _ (m+1) (fun w hw=>by
   rcases List.mem_or_eq_of_mem_set hw with h1 | rfl
   ·have:=h w h1;omega
   ·cases hg:u[x.Pane.toNat]? with
    | none=>
     simp;have h0:∀ z:Int,0≤z→1≤z+1:=by omega
     by_cases hu:u=[]
     ·subst hu;simp at hw
     ·obtain⟨z,hz⟩:=List.exists_mem_of_ne_nil u hu;have:=h z hz;omega
    | some z=>have:=h z (Kc hg);simp;omega) v hv
  simp only[Ks];omega
theorem Znu (u:List Int) (i:Nat) (v:Int):(u.map Ys).set i (J v)=(u.set i v).map Ys:=(L0 (f:=Ys) (l:=u) (i:=i) (a:=v)).symm
theorem rep_int (n:Nat):List.replicate n (D.int .i64 0)=(List.replicate n (0:Int)).map Ys:=by simp[Ys]
def Zdv (k:ZF) (p:Zf):List Int:=Zaw (List.replicate k.Panes.length 0) ((QH k p).filterMap Xx)
theorem Zmd {k:ZF} {p:Zf} (hv:Vx k p=true):(Zdv k p).length=k.Panes.length∧∀ v∈Zdv k p,0≤v∧v≤255:=by
 obtain⟨b,hb,ae,af,ab,ad,aa⟩:=Xq hv;have hl:((QH k p).filterMap Xx).length≤255:=by
  have:=Kl Xx (QH k p);rw[aa,JH] at this;rw[aa];omega
 refine⟨by unfold Zdv;rw[Zss];simp,fun v h=>?_⟩;have:=Zst _ _ 0 (fun w hw=>by rw[LE hw];omega) v h;omega
theorem Zvm (kW kH:Int) (kP:List Pane) (p:Zf) (hv:Vx (ZF.mk kW kH kP) p=true):Ze Xs Ms Zc2 [(.d (.agg [J kW,J kH,.sl (kP.map Pane.enc)])),.d p.enc] []=some (.own 0,[.row 1 ((Zdv (ZF.mk kW kH kP) p).map Ys) true false]):=by
 obtain⟨b,hb,af,ad,aj,aa,ab⟩:=Xq hv;simp only at aa ab;have e:=Zik kW kH kP p b af (by simp only[VW,inB] at ad ⊢;omega) aa (by omega);have ag:=ZcV (x:=0) (y:=0) aa;have an:kP.length≤24:=ad.2.2.2.2.1;have ak:(plc b 0 0 kW kH).length≤255:=by
  have:=Kl Xx (QH (ZF.mk kW kH kP) p);rw[ab,JH,V6] at this;omega
 unfold Zdv;rw[ab,V6];generalize plc b 0 0 kW kH=L at e ag ak ⊢;have al:(kP.length:Int)*((8:Nat):Int)≤((140737488355328:Nat):Int)∧kP.length≤140737488355328:=by omega
 have ae:(kP.length:Int)*8≤140737488355328∧(kP.length:Int)≤140737488355328:=by omega
 clear hv hb af ad ab aa;obtain⟨o,a,q,t,ks⟩:=p;rw[Zf.enc_mk] at e ⊢;refine cE ?_;simp +contextual -implicitDefEqProofs (maxSteps:=10^7) only[go_sem,seval,↓gZ,Zi5,e,rep_int,al,ae];refine LO (α:=Nat×List Int) (fun s=>[(7,.d (J (s.1:Int)))]) (fun s=>[(1,.row 1 (s.2.map Ys) true false)]) (fun s=>s.1≤L.length∧s.2.length=kP.length∧(∀ v∈s.2,0≤v∧v≤s.1)∧Zaw s.2 (L.drop s.1)=Zaw (List.replicate kP.length 0) L) (fun s=>L.length-s.1) (0,List.replicate kP.length 0) ⟨by simp,by simp,fun w hw=>by rw[LE hw];simp,by simp⟩ ?_;intro⟨i,u⟩ ⟨hi,hul,huv,hp⟩ ih;simp only at hi hul huv hp;by_cases ah:i<L.length
 ·obtain⟨x,hx⟩:=Zr ah;have hw:=Zj (k:=i) (by omega);obtain⟨n,hn,am⟩:=ag x (Kc hx);rw[Zpf hx,hn] at hp;obtain⟨q',t',⟨X,Y,W,H⟩⟩:=x;simp only at hn;subst hn;have ai:n<u.length:=by omega
  obtain⟨z,hz⟩:=Zr ai;have ao:=huv z (Kc hz);have u1:=wi (z+1) (by omega) (by omega);rw[KD,hz] at hp;simp +contextual -implicitDefEqProofs (maxSteps:=10^7) only[go_sem,seval,↓gZ,hx,ah,hw,am,ai,hz,u1,Znu,hul];refine ih (i+1,u.set n (z+1)) _ ⟨by simp only;omega,by simpa using hul,fun v hv=>?_,hp⟩ (by simp only;omega) ?_
  ·simp only;rcases List.mem_or_eq_of_mem_set hv with h1 | rfl
   ·have:=huv v h1;omega
   ·omega
  ·simp +contextual -implicitDefEqProofs (maxSteps:=10^7) only[go_sem,seval,↓gZ,List.headD_cons,Znu]
 ·have:i=L.length:=by omega
  subst this;rw[Zsr] at hp;simp +contextual -implicitDefEqProofs (maxSteps:=10^7) only[go_sem,seval,↓gZ,hp]
def Zi0:BT→Bool
 | .waste=>false
 | .pane _ _=>true
 | .cut _ _ l r=>Zi0 l || Zi0 r
theorem ZfB:∀ (b:BT),Ze Xs Ms WP [.d b.plan.enc] []=some ((.d (.bool (Zi0 b))),[])
 | .waste=>by
  simp only[BT.plan,Zf.enc_mk];refine cE ?_;simp +contextual -implicitDefEqProofs (maxSteps:=10^7) only[go_sem,seval,↓gZ,Zbu,Xc,Zi0]
 | .pane i t=>by
  simp only[BT.plan,Zf.enc_mk];refine cE ?_;simp +contextual -implicitDefEqProofs (maxSteps:=10^7) only[go_sem,seval,↓gZ,Zbu,Xc,Zi0]
 | .cut d a l r=>by
  have e1:=ZfB l;have e2:=ZfB r;simp only[BT.plan,Zf.enc_mk];cases hb:Zi0 l<;>rw[hb] at e1<;>cases d <;>
  ·refine cE ?_;simp +contextual -implicitDefEqProofs (maxSteps:=10^7) only[go_sem,seval,↓gZ,Zbu,Xc,Zi0,VX,e1,e2,hb,Le,Bool.true_or,Bool.false_or]
theorem Zqx (kW kH:Int) (kP:List Pane) (p:Zf) (Zi:Int) (hv:Vx (ZF.mk kW kH kP) p=true) (h1:1≤Zi) (h2:Zi≤200):Ze Xs Ms Zac [(.d (.agg [J kW,J kH,.sl (kP.map Pane.enc)])),.d p.enc,(.d (J Zi))] [] =
  some ((.d (J (X4 (Zez (ZF.mk kW kH kP) p Zi)))),[]):=by
 obtain⟨b,hb,ai,af,aj,aa,ad⟩:=Xq hv;have am:kP.length≤24:=af.2.2.2.2.1;have ev:=ZgV kW kH kP p (by omega);rw[hv] at ev;have er:=ZJ Zi 1 200;rw[Kh (show 1≤Zi∧Zi≤200 from ⟨h1,h2⟩)] at er;simp only at aa ad;have ep:=Zil kW kH kP p b ai (by simp only[VW,inB] at af ⊢;omega) aa (by omega);have ab:=ZeA hv;have ag:((QH (ZF.mk kW kH kP) p).filterMap XY).length≤255:=by
  have:=Kl XY (QH (ZF.mk kW kH kP) p);rw[ad,JH] at this;rw[ad];omega
 rw[← Zex,← ad] at ep;unfold Zez;generalize (QH (ZF.mk kW kH kP) p).filterMap XY=L at ep ab ag ⊢;clear hv hb ai af ad aa;obtain⟨o,a,n,t,ks⟩:=p;rw[Zf.enc_mk] at ev ep ⊢;refine cE ?_;simp +contextual -implicitDefEqProofs (maxSteps:=10^7) only[go_sem,seval,↓gZ,ZfQ,ev,ep,er];refine LO (α:=Nat) (fun i=>[(9,.d (J (i:Int))),(7,.d (J (X4 ((L.take i).filterMap (Jh Zi)))))]) (fun _=>[]) (fun i=>i≤L.length) (fun i=>L.length-i) 0 (by omega) ?_;intro i hi ih;by_cases ah:i<L.length
 ·obtain⟨x,hx⟩:=Zr ah;have hw:=Zj (k:=i) (by omega);have hm:=Za2 (f:=Jh Zi) hx;have ak:=ab x (Kc hx);have ha:=ZgF (l:=(L.take i).filterMap (Jh Zi)) (fun c hc=>by
   obtain⟨d,hd,ae⟩:=Lg.1 hc;unfold Jh at ae;split at ae
   ·cases ae;exact ab c (K0 hd)
   ·cases ae)
  have an:((L.take i).filterMap (Jh Zi)).length≤i:=Kx (Kl _ _) (by simp;omega);have al:=Zb5 ak;obtain⟨X,Y,W,H⟩:=x;simp only at al;have w0:=wi (W*H) (by omega) (by omega);have w1:=wi (X4 ((L.take i).filterMap (Jh Zi))+W*H) (by omega) (by omega);have es:=ZcR X Y W H Zi;simp only[Jh] at hm;by_cases ho:W<Zi∨H<Zi
  ·rw[Ki ho] at hm;rw[Kk (show ¬(Zi≤W∧Zi≤H) by omega)] at es;simp +contextual -implicitDefEqProofs (maxSteps:=10^7) only[go_sem,seval,↓gZ,hx,ah,hw,es,w0,w1];refine ih (i+1) _ (by omega) (by omega) ?_;simp +contextual -implicitDefEqProofs (maxSteps:=10^7) only[go_sem,seval,↓gZ,hm,Zb4,Option.toList,X4]
   first | rfl | (simp;done) | (simp;rfl)
  ·rw[Kd ho] at hm;rw[Kh (show Zi≤W∧Zi≤H by omega)] at es;simp +contextual -implicitDefEqProofs (maxSteps:=10^7) only[go_sem,seval,↓gZ,hx,ah,hw,es];refine ih (i+1) _ (by omega) (by omega) ?_;simp +contextual -implicitDefEqProofs (maxSteps:=10^7) only[go_sem,seval,↓gZ,hm,Option.toList,K8]
 ·have:i=L.length:=by omega
  subst this;simp +contextual -implicitDefEqProofs (maxSteps:=10^7) only[go_sem,seval,↓gZ];simp
def UH:List Pane→List Int→List Zc→List Zc→Option (List Zc×List Zc)
 | p :: ps,c :: us,o,d=>if c=0 then UH ps us o d else if Xl p c false o=true then UH ps us (XZ o p c) (YJ p c d) else none
 | [],_,o,d=>some (o,d)
 | _,[],o,d=>some (o,d)
theorem Zi1 {ps:List Pane} {us:List Int} {o d:List Zc} {k:Nat} {p:Pane} {c:Int} (hp:ps[k]?=some p) (hu:us[k]?=some c):UH (ps.drop k) (us.drop k) o d=if c=0 then UH (ps.drop (k+1)) (us.drop (k+1)) o d else if Xl p c false o=true then UH (ps.drop (k+1)) (us.drop (k+1)) (XZ o p c) (YJ p c d) else none:=by
 obtain⟨h1,h2⟩:=Kb.1 hp;obtain⟨h3,h4⟩:=Kb.1 hu;rw[Kw h1,h2,Kw h3,h4,UH]
theorem Zsu {ps:List Pane} {us:List Int} {o d:List Zc}:UH (ps.drop ps.length) us o d=some (o,d):=by
 rw[List.drop_length];unfold UH;rfl
theorem Zlf {l:List Zc} {p:Pane} {c hi:Int} (hc:0≤c) (h:∀ x∈l,x.Count≤hi):∀ y∈XZ l p c,0≤y.Count∧y.Count≤hi:=fun y hy=>by
 obtain⟨x,hx,e⟩:=Lg.1 hy;have:=h x hx;unfold Zg2 at e;split at e
 ·split at e
  ·cases e;simp only;omega
  ·cases e
 ·split at e
  ·cases e;omega
  ·cases e
theorem Zka {p:Pane} {c hi:Int} (hc:0≤c) (hh:0≤hi):∀ {l:List Zc},(∀ x∈l,0≤x.Count∧x.Count≤hi)→∀ y∈YJ p c l,0≤y.Count∧y.Count≤hi+c
 | [],h,y,hy=>by simp[YJ] at hy;subst hy;simp only;omega
 | x :: l,h,y,hy=>by
  have h1:=h x (by simp);unfold YJ at hy;split at hy
  ·rcases Kf.1 hy with rfl | hy
   ·simp only;omega
   ·have:=h y (by simp[hy]);omega
  ·rcases Kf.1 hy with rfl | hy
   ·omega
   ·exact Zka hc hh (fun z hz=>h z (by simp[hz])) y hy
def Zqy (p:Zf):Bool:=match Q6 p with
 | some b=>Zi0 b
 | none=>false
def ZeM (s:Zq) (e:Zz):Option Zq:=
 match s.Stock[(Qv 0 s.Stock e.label).toNat]? with
 | none=>none
 | some x=>match ZcT s.Stock e.label ⟨x.W,x.H,s.Opn.map Zc.Pane⟩ e.plan 5 with
  | none=>none
  | some R=>if Zqy e.plan=true then
    match UH (s.Opn.map Zc.Pane) (Zdv ⟨x.W,x.H,s.Opn.map Zc.Pane⟩ e.plan) s.Opn s.Done with
    | none=>none
    | some (o,d)=>some ⟨R,o,d,s.Lost+X4 (Zez ⟨x.W,x.H,s.Opn.map Zc.Pane⟩ e.plan 5),s.Came⟩
   else none
def shV:Option Zq→AV×List Zl
 | some s=>(.tup [.agg [.own 0,.own 1,.own 2,(.d (J (s.Lost))),(.d (J (s.Came)))],(.d (.bool true))],[.row 4 (s.Stock.map Zb.enc) true false,.row 5 (s.Opn.map Zc.enc) true false,.row 5 (s.Done.map Zc.enc) true false])
 | none=>(.tup [.agg [.own 0,.own 1,.own 2,(.d (J 0)),(.d (J 0))],(.d (.bool false))],[.row 4 [] true false,.row 5 [] true false,.row 5 [] true false])
theorem Zsv {l:List Zb} {n:Int} {k:ZF} {p:Zf} {Zi:Int} (h:Qv 0 l n<0):ZcT l n k p Zi=none:=by
 unfold ZcT;rw[Kd (fun h'=>by omega)]
theorem Zpg {l:List Zb} {n:Int} {k:ZF} {p:Zf} {Zi:Int} {R:List Zb} (h:ZcT l n k p Zi=some R):Vx k p=true∧VSt R∧VSt l:=by
 unfold ZcT at h;split at h
 ·rename_i hc;split at h
  ·rename_i x hx;split at h
   ·rename_i hg;cases h;exact⟨hg.1.1,hg.2,hc.1⟩
   ·cases h
  ·cases h
 ·cases h
def WSh (s:Zq):Prop:=VSt s.Stock∧s.Opn.length≤9∧(∀ x∈s.Opn,VP x.Pane∧0≤x.Count∧x.Count≤24)∧ZaR s.Done∧-1≤s.Lost∧s.Lost≤900001∧-1≤s.Came∧s.Came≤900001
theorem ZtA {s:Zq} (h:ZS s):WSh s:=⟨h.1,by have:=h.2.1.1;omega,fun x hx=>by have:=XK h.2.1 x hx;exact⟨this.1,by omega,this.2.2⟩,h.2.2.1,by have:=h.2.2.2;omega,by have:=h.2.2.2;omega,by have:=h.2.2.2;omega,by have:=h.2.2.2;omega⟩
theorem ZtB {s:Zq} (h:WSh s):SmS s:=by
 obtain⟨h1,h2,_,h3,h4,h5,h6,h7⟩:=h;exact⟨⟨by have:=h1.1;omega,fun x hx=>⟨(Zck h1).2 x hx,Zj6 (Ql h1.2 x hx)⟩,by omega,by have:=h3.1;omega⟩,by have:=h1.1;omega,by omega,by omega,by omega,by omega⟩
theorem Zqz (sS:List Zb) (sO sD:List Zc) (sL sC:Int) (eK eL eX eY eW eH af ag:Int) (ah:Bool) (ai eC eo ea ep:Int) (et:Bool) (ek:List Zf) (hv:WSh (Zq.mk sS sO sD sL sC)):Ze Xs Ms J7 [(.d (.agg [.sl (sS.map Zb.enc),.sl (sO.map Zc.enc),.sl (sD.map Zc.enc),J sL,J sC])),(.d (.agg [J eK,J eL,J eX,J eY,J eW,J eH,J af,J ag,.bool ah,J ai,J eC,J eo,J ea,J ep,.bool et,.sl (ek.map Zf.enc)]))] []=some (shV (ZeM (Zq.mk sS sO sD sL sC) (Zz.mk eK eL (Box.mk eX eY eW eH) (Zc.mk (Pane.mk af ag ah ai) eC) (Zf.mk eo ea ep et ek)))):=by
 obtain⟨⟨h1,h2,h3,h4⟩,h5,h6,h7,h8,h9⟩:=ZtB hv;simp only at h1 h2 h3 h4 h5 h6 h7 h8 h9;have ao:=hv.2.1;have hO:=hv.2.2.1;have hD:=hv.2.2.2.1;simp only at hO hD ao;have ay:=hD.1;have e1:=Yi sS eL (by omega);by_cases hf:Qv 0 sS eL<0
 ·have ec:ZeM (Zq.mk sS sO sD sL sC) (Zz.mk eK eL (Box.mk eX eY eW eH) (Zc.mk (Pane.mk af ag ah ai) eC) (Zf.mk eo ea ep et ek))=none:=by
   unfold ZeM;simp only;split
   ·rfl
   ·rw[Zsv hf]
  rw[ec];unfold shV;refine cE ?_;simp +contextual -implicitDefEqProofs (maxSteps:=10^7) only[go_sem,seval,↓gZ,Uj,e1,hf]
 ·obtain⟨a,x,ha,hx⟩:=Zbk (by omega:0≤Qv 0 sS eL);rw[ha] at e1;have al:¬(a:Int)<0:=by omega
  have az:=(Kb.1 hx).1;have e3:=Zqu sS eL x.W x.H (sO.map Zc.Pane) (.mk eo ea ep et ek) 5 (by have:=hv.1.1;simp only at this;omega) (fun y hy=>by
   have:=Ql hv.1.2 y hy;exact⟨this.1.2.2.2.2.2.2,Zj6 this⟩) (by simp;omega)
  have ap:ZeM (Zq.mk sS sO sD sL sC) (Zz.mk eK eL (Box.mk eX eY eW eH) (Zc.mk (Pane.mk af ag ah ai) eC) (Zf.mk eo ea ep et ek))=match ZcT sS eL ⟨x.W,x.H,sO.map Zc.Pane⟩ (.mk eo ea ep et ek) 5 with
   | none=>none
   | some R=>if Zqy (.mk eo ea ep et ek)=true then
     match UH (sO.map Zc.Pane) (Zdv ⟨x.W,x.H,sO.map Zc.Pane⟩ (.mk eo ea ep et ek)) sO sD with
     | none=>none
     | some (o,d)=>some ⟨R,o,d,sL+X4 (Zez ⟨x.W,x.H,sO.map Zc.Pane⟩ (.mk eo ea ep et ek) 5),sC⟩
    else none:=by
   unfold ZeM;simp only[ha,KD,hx]
  rw[ap];clear ap;obtain⟨xL,xW,xH,xF⟩:=x;simp only at e3 ⊢;have e2:=Zvl sS sO sD sL sC a xL xW xH xF hx h3 h1;cases hcs:ZcT sS eL ⟨xW,xH,sO.map Zc.Pane⟩ (.mk eo ea ep et ek) 5 with
  | none=>
   rw[hcs] at e3;unfold Zgi at e3;simp only;unfold shV;rw[Zf.enc_mk] at e3;refine cE ?_;simp +contextual -implicitDefEqProofs (maxSteps:=10^7) only[go_sem,seval,↓gZ,Uj,e1,al,e2,e3]
  | some R=>
   obtain⟨aa,a0,_⟩:=Zpg hcs;rw[hcs] at e3;unfold Zgi at e3;simp only;obtain⟨b,hb,au,a1,am,av,aw⟩:=Xq aa;have e4:=ZfB b;rw[← au] at e4;have hh:Zqy (.mk eo ea ep et ek)=Zi0 b:=by unfold Zqy;rw[hb]
   rw[hh];have e5:=Zqx xW xH (sO.map Zc.Pane) (.mk eo ea ep et ek) 5 aa (by omega) (by omega);have e6:=Zvm xW xH (sO.map Zc.Pane) (.mk eo ea ep et ek) aa;have hu:=Zmd aa;have ax:=ZgF (l:=Zez ⟨xW,xH,sO.map Zc.Pane⟩ (.mk eo ea ep et ek) 5) (fun c hc=>by
    obtain⟨z,hz,aj⟩:=Lg.1 hc;unfold Jh at aj;split at aj
    ·cases aj;exact ZeA aa c hz
    ·cases aj)
   have a2:(Zez ⟨xW,xH,sO.map Zc.Pane⟩ (.mk eo ea ep et ek) 5).length≤255:=by
    refine Kx (Kl _ _) (Kx (Kl _ _) ?_);rw[aw,JH];exact am
   generalize X4 (Zez ⟨xW,xH,sO.map Zc.Pane⟩ (.mk eo ea ep et ek) 5)=A at e5 ax ⊢;generalize Zdv ⟨xW,xH,sO.map Zc.Pane⟩ (.mk eo ea ep et ek)=us at e6 hu ⊢;rw[Zf.enc_mk] at e3 e4 e5 e6;simp only[KL] at hu;have u1:=wi (sL+A) (by omega) (by omega);have r1:sO.length*40≤140737488355328∧sO.length≤140737488355328:=by omega
   have r2:sD.length*40≤140737488355328∧sD.length≤140737488355328:=by omega
   cases hhb:Zi0 b with
   | false=>
    rw[hhb] at e4;rw[Kd (by simp)];unfold shV;refine cE ?_;simp +contextual -implicitDefEqProofs (maxSteps:=10^7) only[go_sem,seval,↓gZ,Uj,e1,al,e2,e3,e4]
   | true=>
    rw[hhb] at e4;rw[Ki rfl];refine cE ?_;simp +contextual -implicitDefEqProofs (maxSteps:=10^7) only[go_sem,seval,↓gZ,Uj,Zmk,e1,al,e2,e3,e4,e5,e6,u1,r1,r2];refine LO (α:=Nat×List Zc×List Zc) (fun s=>[(12,.d (J (s.1:Int)))]) (fun s=>[(5,.row 5 (s.2.1.map Zc.enc) true false),(6,.row 5 (s.2.2.map Zc.enc) true false)]) (fun s=>s.1≤us.length∧UH ((sO.map Zc.Pane).drop s.1) (us.drop s.1) s.2.1 s.2.2=UH (sO.map Zc.Pane) us sO sD∧s.2.1.length≤9∧s.2.2.length≤8+s.1∧(∀ x∈s.2.1,0≤x.Count∧x.Count≤24)∧(∀ x∈s.2.2,0≤x.Count∧x.Count≤24+255*(s.1:Int))) (fun s=>us.length-s.1) (0,sO,sD) ⟨by simp,by simp,ao,by simp only;omega,fun x hx=>by have:=hO x hx;omega,fun x hx=>by have:=XK hD x hx;simp only;omega⟩ ?_
    intro⟨i,o,d⟩ ⟨hi,hp,ho8,hd8,hoc,hdc⟩ ih;simp only at hi hp ho8 hd8 hoc hdc;by_cases ab:i<us.length
    ·obtain⟨c,hc⟩:=Zr ab;have an:i<sO.length:=by omega
     obtain⟨y,hy⟩:=Zr an;have hw:=Zj (k:=i) (by omega);have aq:=hu.2 c (Kc hc);have ak:(sO.map Zc.Pane)[i]?=some y.Pane:=by rw[KS,hy];rfl
     rw[Zi1 ak hc] at hp;obtain⟨⟨W,H,T,K⟩,C⟩:=y;simp only at hp ak;by_cases ad:c=0
     ·rw[Ki ad] at hp;simp +contextual -implicitDefEqProofs (maxSteps:=10^7) only[go_sem,seval,↓gZ,ab,hc,ad,hw];refine ih (i+1,o,d) _ ⟨by simp only;omega,hp,ho8,by simp only;omega,hoc,fun x hx=>by have:=hdc x hx;simp only;omega⟩ (by simp only;omega) ?_;simp +contextual -implicitDefEqProofs (maxSteps:=10^7) only[go_sem,seval,↓gZ]
     ·rw[Kd ad] at hp;have et:=Zg3 o W H T K c (by omega) (fun x hx=>by have:=hoc x hx;unfold R64;omega);have ea:=ZdU d W H T K c (by omega) (fun x hx=>by have:=hdc x hx;unfold R64;omega);by_cases ae:Xl ⟨W,H,T,K⟩ c false o=true
      ·rw[Ki ae] at hp;rw[ae] at et;simp +contextual -implicitDefEqProofs (maxSteps:=10^7) only[go_sem,seval,↓gZ,ab,hc,ad,hw,an,hy,ak,et,ea];refine ih (i+1,XZ o ⟨W,H,T,K⟩ c,YJ ⟨W,H,T,K⟩ c d) _ ⟨by simp only;omega,hp,Kx (Kl _ _) ho8,Kx (ZcU _ _ _) (by simp only;omega),Zlf aq.1 (fun x hx=>(hoc x hx).2),fun x hx=>?_⟩ (by simp only;omega) ?_
       ·have:=Zka aq.1 (by omega) hdc x hx;simp only;omega
       ·simp +contextual -implicitDefEqProofs (maxSteps:=10^7) only[go_sem,seval,↓gZ]
      ·rw[Kd ae] at hp;simp only[LH] at ae;rw[ae] at et;simp +contextual -implicitDefEqProofs (maxSteps:=10^7) only[go_sem,seval,↓gZ,ab,hc,ad,hw,an,hy,ak,et,ea];rw[← hp];rfl
    ·have:i=sO.length:=by omega
     subst this;have ar:=@Zsu (sO.map Zc.Pane) (us.drop sO.length) o d;rw[KL] at ar;rw[ar] at hp;rw[← hp];simp +contextual -implicitDefEqProofs (maxSteps:=10^7) only[go_sem,seval,↓gZ,ab];rfl
def ZwY (l:List Zb) (n:Int):Option (Nat×Zb):=if 0≤Qv 0 l n then (l[(Qv 0 l n).toNat]?).map (fun x=>((Qv 0 l n).toNat,x)) else none
theorem ZeN {l:List Zb} {n:Int} (h:Qv 0 l n<0):ZwY l n=none:=by unfold ZwY;rw[Kd (by omega)]
theorem ZeO {l:List Zb} {n:Int} {a:Nat} {x:Zb} (h:Qv 0 l n=(a:Int)) (hx:l[a]?=some x):ZwY l n=some (a,x):=by
 unfold ZwY;rw[h,Ki (by omega),KD,hx];rfl
def evS (s:Zq) (e:Zz):Option Zq:=
 if e.kind=0 then (if (WB ⟨e.label,e.box.W,e.box.H,[]⟩ s.Stock∧e.box.X=0)∧e.box.Y=0 then some { s with Stock:=Qz ⟨e.label,e.box.W,e.box.H,[]⟩ s.Stock,Came:=s.Came+e.box.W*e.box.H } else none)
 else if e.kind=1 then (match ZwY s.Stock e.label with
  | none=>none
  | some (a,q)=>if WB { q with Flaws:=q.Flaws++[e.box] } (s.Stock.eraseIdx a) then some { s with Stock:=Qz { q with Flaws:=q.Flaws++[e.box] } (s.Stock.eraseIdx a) } else none)
 else if e.kind=5 then (match ZwY s.Stock e.label with
  | none=>none
  | some (a,q)=>some { s with Stock:=s.Stock.eraseIdx a,Lost:=s.Lost+q.W*q.H })
 else if e.kind=2 then (if Wy e.line then some { s with Opn:=YJ e.line.Pane e.line.Count s.Opn } else none)
 else if e.kind=4 then (if Wy e.line∧Xl e.line.Pane e.line.Count false s.Done=true then some { s with Opn:=YJ e.line.Pane e.line.Count s.Opn,Done:=XZ s.Done e.line.Pane e.line.Count,Lost:=s.Lost+e.line.Count*e.line.Pane.W*e.line.Pane.H } else none)
 else if e.kind=3 then ZeM s e
 else none
def Y3 (t:Option Zq):Option Zq:=match t with
 | some t=>if ZS t then some t else none
 | none=>none
def QZ (s:Zq) (e:Zz):Option Zq:=Y3 (evS s e)
theorem Zph {s t:Zq} {e:Zz} (h:QZ s e=some t):ZS t:=by
 unfold QZ Y3 at h;split at h
 ·split at h
  ·cases h;assumption
  ·cases h
 ·cases h
theorem ZeP {s t:Zq} (h:Jc s) (ho:t.Opn.length≤1000000) (hd:t.Done.length≤1000000) (hs:VSt t.Stock):Jc t:=
 ⟨by have:=hs.1;omega,fun x hx=>⟨(Zck hs).2 x hx,Zj6 (Ql hs.2 x hx)⟩,ho,hd⟩
theorem ZBw {s t:Zq} {e:Zz} (hv:WSh s) (h:ZeM s e=some t):VSt t.Stock∧t.Opn.length≤9∧t.Done.length≤1000000:=by
 have aa:∀ (ps:List Pane) (us:List Int) (o d o' d' : List Zc),UH ps us o d=some (o',d')→o'.length≤o.length∧d'.length≤d.length+ps.length:=by
  intro ps
  induction ps with
  | nil=>intro us o d o' d' h;unfold UH at h;cases h;simp
  | cons p ps ih=>
   intro us o d o' d' h;cases us with
   | nil=>unfold UH at h;cases h;simp
   | cons c us=>
    rw[UH] at h;split at h
    ·have:=ih _ _ _ _ _ h;simp;omega
    ·split at h
     ·have:=ih _ _ _ _ _ h;have h2:=Kl (Zg2 p c) o;have h3:=ZcU p c d;unfold XZ at this;simp;omega
     ·cases h
 unfold ZeM at h;split at h
 ·cases h
 ·split at h
  ·cases h
  ·rename_i R hR;obtain⟨_,ab,_⟩:=Zpg hR;split at h
   ·split at h
    ·cases h
    ·rename_i o d hg;cases h;have:=aa _ _ _ _ _ _ hg;have h8:=hv.2.1;have h9:=hv.2.2.2.1.1;rw[KL] at this;exact⟨ab,by simp only;omega,by simp only;omega⟩
   ·cases h
theorem ZaU (sS:List Zb) (sO sD:List Zc) (sL sC:Int) (eK eL eX eY eW eH aa ab:Int) (ad:Bool) (ae eC eo ea ep:Int) (et:Bool) (ek:List Zf) (hv:WSh (Zq.mk sS sO sD sL sC)) (k3:eK=3):Ze Xs Ms XN [(.d (.agg [.sl (sS.map Zb.enc),.sl (sO.map Zc.enc),.sl (sD.map Zc.enc),J sL,J sC])),(.d (.agg [J eK,J eL,J eX,J eY,J eW,J eH,J aa,J ab,.bool ad,J ae,J eC,J eo,J ea,J ep,.bool et,.sl (ek.map Zf.enc)]))] []=some (shV (QZ (Zq.mk sS sO sD sL sC) (Zz.mk eK eL (Box.mk eX eY eW eH) (Zc.mk (Pane.mk aa ab ad ae) eC) (Zf.mk eo ea ep et ek)))):=by
 have aj:=(ZtB hv).1;have af:=Zqz sS sO sD sL sC eK eL eX eY eW eH aa ab ad ae eC eo ea ep et ek hv;subst k3;have ee:QZ (Zq.mk sS sO sD sL sC) (Zz.mk 3 eL ⟨eX,eY,eW,eH⟩ ⟨⟨aa,ab,ad,ae⟩,eC⟩ (.mk eo ea ep et ek))=Y3 (ZeM (Zq.mk sS sO sD sL sC) (Zz.mk 3 eL ⟨eX,eY,eW,eH⟩ ⟨⟨aa,ab,ad,ae⟩,eC⟩ (.mk eo ea ep et ek))):=by
  unfold QZ evS;simp
 rw[ee];have ah:=fun t=>ZBw (t:=t) (e:=Zz.mk 3 eL ⟨eX,eY,eW,eH⟩ ⟨⟨aa,ab,ad,ae⟩,eC⟩ (.mk eo ea ep et ek)) hv;cases hc:ZeM (Zq.mk sS sO sD sL sC) (Zz.mk 3 eL ⟨eX,eY,eW,eH⟩ ⟨⟨aa,ab,ad,ae⟩,eC⟩ (.mk eo ea ep et ek)) with
 | none=>
  rw[hc] at af;unfold Y3 shV at *;simp only;refine cE ?_;simp +contextual -implicitDefEqProofs (maxSteps:=10^7) only[go_sem,seval,↓gZ,ZA,af]
 | some t=>
  obtain⟨g1,g2,g3⟩:=ah t hc;rw[hc] at af;have ai:Jc t:=ZeP aj (by omega) g3 g1;obtain⟨tS,tO,tD,tL,tC⟩:=t;have e1:=Yj _ _ _ _ _ ai;have e2:=V9 _ _ _ _ _ ai;unfold Y3;unfold shV at af;simp only at af;by_cases ag:ZS (Zq.mk tS tO tD tL tC)
  ·rw[Kh ag] at e1;simp only[Ki ag];unfold shV;refine cE ?_;simp +contextual -implicitDefEqProofs (maxSteps:=10^7) only[go_sem,seval,↓gZ,ZA,af,e1,e2]
  ·rw[Kk ag] at e1;simp only[Kd ag];unfold shV;refine cE ?_;simp +contextual -implicitDefEqProofs (maxSteps:=10^7) only[go_sem,seval,↓gZ,ZA,af,e1]
theorem Zgc (sS:List Zb) (sO sD:List Zc) (sL sC:Int) (eK eL eX eY eW eH ab ad:Int) (ae:Bool) (af eC eo ea ep:Int) (et:Bool) (ek:List Zf) (hv:ZS (Zq.mk sS sO sD sL sC)) (hW:eK=0→I5 eW) (hH:eK=0→I5 eH):Ze Xs Ms XN [(.d (.agg [.sl (sS.map Zb.enc),.sl (sO.map Zc.enc),.sl (sD.map Zc.enc),J sL,J sC])),(.d (.agg [J eK,J eL,J eX,J eY,J eW,J eH,J ab,J ad,.bool ae,J af,J eC,J eo,J ea,J ep,.bool et,.sl (ek.map Zf.enc)]))] []=some (shV (QZ (Zq.mk sS sO sD sL sC) (Zz.mk eK eL (Box.mk eX eY eW eH) (Zc.mk (Pane.mk ab ad ae af) eC) (Zf.mk eo ea ep et ek)))):=by
 have hS:=Zle hv;have ai:=hS.1;have an:=hv.2.1.1;have ao:=hv.2.2.1.1;simp only at an ao;by_cases k0:eK=0
 ·have aa:=ZiY sS sO sD sL sC eK eL eX eY eW eH ab ad ae af eC eo ea ep et ek hS k0 (hW k0) (hH k0);rw[k0] at aa;by_cases hr:(WB ⟨eL,eW,eH,[]⟩ sS∧eX=0)∧eY=0
  ·have ee:QZ (Zq.mk sS sO sD sL sC) (Zz.mk eK eL (Box.mk eX eY eW eH) (Zc.mk (Pane.mk ab ad ae af) eC) (Zf.mk eo ea ep et ek))=Y3 (some (Zq.mk (Qz ⟨eL,eW,eH,[]⟩ sS) sO sD sL (sC+eW*eH))):=by unfold QZ evS;simp only[k0,hr,Km,and_self]
   rw[ee];rw[Kh hr,Ki hr.1.1] at aa;have ah:Jc (Zq.mk (Qz ⟨eL,eW,eH,[]⟩ sS) sO sD sL (sC+eW*eH)):=ZeP ai (by simp only;omega) (by simp only;omega) hr.1.1.2;have e1:=Yj _ _ _ _ _ ah;have e2:=V9 _ _ _ _ _ ah;unfold Y3;generalize Qz ⟨eL,eW,eH,[]⟩ sS=Q at aa e1 e2 ⊢;by_cases ag:ZS (Zq.mk Q sO sD sL (sC+eW*eH))
   ·rw[Kh ag] at e1;simp only[Ki ag];unfold shV;refine cE ?_;simp +contextual -implicitDefEqProofs (maxSteps:=10^7) only[go_sem,seval,↓gZ,ZA,k0,aa,e1,e2]
   ·rw[Kk ag] at e1;simp only[Kd ag];unfold shV;refine cE ?_;simp +contextual -implicitDefEqProofs (maxSteps:=10^7) only[go_sem,seval,↓gZ,ZA,k0,aa,e1]
  ·have ee:QZ (Zq.mk sS sO sD sL sC) (Zz.mk eK eL (Box.mk eX eY eW eH) (Zc.mk (Pane.mk ab ad ae af) eC) (Zf.mk eo ea ep et ek))=none:=by unfold QZ evS;simp only[k0,Km];rw[Kd hr];rfl
   rw[ee];rw[Kk hr] at aa;unfold shV;refine cE ?_;simp +contextual -implicitDefEqProofs (maxSteps:=10^7) only[go_sem,seval,↓gZ,ZA,k0,aa]
 ·by_cases aj:eK=1∨eK=5
  ·by_cases hf:Qv 0 sS eL<0
   ·have aa:=Zmu sS sO sD sL sC eK eL eX eY eW eH ab ad ae af eC eo ea ep et ek hS k0 hf;have ee:QZ (Zq.mk sS sO sD sL sC) (Zz.mk eK eL (Box.mk eX eY eW eH) (Zc.mk (Pane.mk ab ad ae af) eC) (Zf.mk eo ea ep et ek))=none:=by
     unfold QZ evS;rcases aj with k1 | k1<;>simp[k1,ZeN hf,Y3]
    rw[ee];unfold shV;refine cE ?_;rcases aj with k1 | k1
    ·rw[k1] at aa;simp +contextual -implicitDefEqProofs (maxSteps:=10^7) only[go_sem,seval,↓gZ,ZA,k1,aa]
    ·rw[k1] at aa;simp +contextual -implicitDefEqProofs (maxSteps:=10^7) only[go_sem,seval,↓gZ,ZA,k1,aa]
   ·obtain⟨a,x,ha,hx⟩:=Zbk (by omega:0≤Qv 0 sS eL);have al:=ZeO ha hx;obtain⟨xL,xW,xH,xF⟩:=x;have am:=Ql hv.1.2 _ (Kc hx);by_cases k1:eK=1
    ·have aa:=Zj7 sS sO sD sL sC eK eL eX eY eW eH ab ad ae af eC eo ea ep et ek hv k1 a ha xL xW xH xF hx;rw[k1] at aa;by_cases hr:WB ⟨xL,xW,xH,xF++[⟨eX,eY,eW,eH⟩]⟩ (sS.eraseIdx a)
     ·have ee:QZ (Zq.mk sS sO sD sL sC) (Zz.mk eK eL (Box.mk eX eY eW eH) (Zc.mk (Pane.mk ab ad ae af) eC) (Zf.mk eo ea ep et ek))=Y3 (some (Zq.mk (Qz ⟨xL,xW,xH,xF++[⟨eX,eY,eW,eH⟩]⟩ (sS.eraseIdx a)) sO sD sL sC)):=by
       unfold QZ evS;simp[k1,al,hr]
      rw[ee];rw[Kh hr,Ki hr] at aa;have ah:Jc (Zq.mk (Qz ⟨xL,xW,xH,xF++[⟨eX,eY,eW,eH⟩]⟩ (sS.eraseIdx a)) sO sD sL sC):=ZeP ai (by simp only;omega) (by simp only;omega) hr.2;have e1:=Yj _ _ _ _ _ ah;have e2:=V9 _ _ _ _ _ ah;unfold Y3;generalize Qz ⟨xL,xW,xH,xF++[⟨eX,eY,eW,eH⟩]⟩ (sS.eraseIdx a)=Q at aa e1 e2 ⊢;by_cases ag:ZS (Zq.mk Q sO sD sL sC)
      ·rw[Kh ag] at e1;simp only[Ki ag];unfold shV;refine cE ?_;simp +contextual -implicitDefEqProofs (maxSteps:=10^7) only[go_sem,seval,↓gZ,ZA,k1,aa,e1,e2]
      ·rw[Kk ag] at e1;simp only[Kd ag];unfold shV;refine cE ?_;simp +contextual -implicitDefEqProofs (maxSteps:=10^7) only[go_sem,seval,↓gZ,ZA,k1,aa,e1]
     ·have ee:QZ (Zq.mk sS sO sD sL sC) (Zz.mk eK eL (Box.mk eX eY eW eH) (Zc.mk (Pane.mk ab ad ae af) eC) (Zf.mk eo ea ep et ek))=none:=by
       unfold QZ evS;simp[k1,al,hr,Y3]
      rw[ee];rw[Kk hr] at aa;unfold shV;refine cE ?_;simp +contextual -implicitDefEqProofs (maxSteps:=10^7) only[go_sem,seval,↓gZ,ZA,k1,aa]
    ·have k5:eK=5:=by omega
     have aa:=ZiZ sS sO sD sL sC eK eL eX eY eW eH ab ad ae af eC eo ea ep et ek hS k5 a ha xL xW xH xF hx (by have:=am.1;simp only at this;unfold I5;omega) (by have:=am.1;simp only at this;unfold I5;omega);rw[k5] at aa;have ee:QZ (Zq.mk sS sO sD sL sC) (Zz.mk eK eL (Box.mk eX eY eW eH) (Zc.mk (Pane.mk ab ad ae af) eC) (Zf.mk eo ea ep et ek))=Y3 (some (Zq.mk (sS.eraseIdx a) sO sD (sL+xW*xH) sC)):=by
      unfold QZ evS;simp[k5,al]
     rw[ee];have ah:Jc (Zq.mk (sS.eraseIdx a) sO sD (sL+xW*xH) sC):=⟨by have:=Zla sS a;have:=ai.1;simp only at this ⊢;omega,fun y hy=>ai.2.1 y (LD hy),ai.2.2⟩
     have e1:=Yj _ _ _ _ _ ah;have e2:=V9 _ _ _ _ _ ah;unfold Y3;generalize sS.eraseIdx a=Q at aa e1 e2 ⊢;by_cases ag:ZS (Zq.mk Q sO sD (sL+xW*xH) sC)
     ·rw[Kh ag] at e1;simp only[Ki ag];unfold shV;refine cE ?_;simp +contextual -implicitDefEqProofs (maxSteps:=10^7) only[go_sem,seval,↓gZ,ZA,k5,aa,e1,e2]
     ·rw[Kk ag] at e1;simp only[Kd ag];unfold shV;refine cE ?_;simp +contextual -implicitDefEqProofs (maxSteps:=10^7) only[go_sem,seval,↓gZ,ZA,k5,aa,e1]
  ·have k1:¬eK=1:=fun h=>aj (.inl h);have k5:¬eK=5:=fun h=>aj (.inr h);by_cases ak:eK=2∨eK=4
   ·by_cases hl:Wy ⟨⟨ab,ad,ae,af⟩,eC⟩
    ·by_cases k2:eK=2
     ·have aa:=Zj8 sS sO sD sL sC eK eL eX eY eW eH ab ad ae af eC eo ea ep et ek hv hl k2;rw[k2] at aa;have ee:QZ (Zq.mk sS sO sD sL sC) (Zz.mk eK eL (Box.mk eX eY eW eH) (Zc.mk (Pane.mk ab ad ae af) eC) (Zf.mk eo ea ep et ek))=Y3 (some (Zq.mk sS (YJ ⟨ab,ad,ae,af⟩ eC sO) sD sL sC)):=by
       unfold QZ evS;simp[k2,hl]
      rw[ee];have ah:Jc (Zq.mk sS (YJ ⟨ab,ad,ae,af⟩ eC sO) sD sL sC):=ZeP ai (Kx (ZcU _ _ _) (by omega)) (by simp only;omega) hv.1;have e1:=Yj _ _ _ _ _ ah;have e2:=V9 _ _ _ _ _ ah;unfold Y3;generalize YJ ⟨ab,ad,ae,af⟩ eC sO=Q at aa e1 e2 ⊢;by_cases ag:ZS (Zq.mk sS Q sD sL sC)
      ·rw[Kh ag] at e1;simp only[Ki ag];unfold shV;refine cE ?_;simp +contextual -implicitDefEqProofs (maxSteps:=10^7) only[go_sem,seval,↓gZ,ZA,k2,aa,e1,e2]
      ·rw[Kk ag] at e1;simp only[Kd ag];unfold shV;refine cE ?_;simp +contextual -implicitDefEqProofs (maxSteps:=10^7) only[go_sem,seval,↓gZ,ZA,k2,aa,e1]
     ·have k4:eK=4:=by omega
      have aa:=Zj9 sS sO sD sL sC eK eL eX eY eW eH ab ad ae af eC eo ea ep et ek hv hl k2;rw[k4] at aa;by_cases ht:Xl ⟨ab,ad,ae,af⟩ eC false sD=true
      ·rw[ht] at aa;have ee:QZ (Zq.mk sS sO sD sL sC) (Zz.mk eK eL (Box.mk eX eY eW eH) (Zc.mk (Pane.mk ab ad ae af) eC) (Zf.mk eo ea ep et ek))=Y3 (some (Zq.mk sS (YJ ⟨ab,ad,ae,af⟩ eC sO) (XZ sD ⟨ab,ad,ae,af⟩ eC) (sL+eC*ab*ad) sC)):=by
        unfold QZ evS;simp[k4,hl,ht]
       rw[ee];have ah:Jc (Zq.mk sS (YJ ⟨ab,ad,ae,af⟩ eC sO) (XZ sD ⟨ab,ad,ae,af⟩ eC) (sL+eC*ab*ad) sC):=ZeP ai (Kx (ZcU _ _ _) (by omega)) (Kx (Kl _ _) (by omega)) hv.1;have e1:=Yj _ _ _ _ _ ah;have e2:=V9 _ _ _ _ _ ah;unfold Y3;generalize YJ ⟨ab,ad,ae,af⟩ eC sO=Q at aa e1 e2 ⊢;generalize XZ sD ⟨ab,ad,ae,af⟩ eC=R at aa e1 e2 ⊢;by_cases ag:ZS (Zq.mk sS Q R (sL+eC*ab*ad) sC)
       ·rw[Kh ag] at e1;simp only[Ki ag];unfold shV;refine cE ?_;simp +contextual -implicitDefEqProofs (maxSteps:=10^7) only[go_sem,seval,↓gZ,ZA,k4,aa,e1,e2]
       ·rw[Kk ag] at e1;simp only[Kd ag];unfold shV;refine cE ?_;simp +contextual -implicitDefEqProofs (maxSteps:=10^7) only[go_sem,seval,↓gZ,ZA,k4,aa,e1]
      ·have ee:QZ (Zq.mk sS sO sD sL sC) (Zz.mk eK eL (Box.mk eX eY eW eH) (Zc.mk (Pane.mk ab ad ae af) eC) (Zf.mk eo ea ep et ek))=none:=by
        unfold QZ evS;simp[k4,ht,Y3]
       rw[ee];simp only[LH] at ht;rw[ht] at aa;unfold shV;refine cE ?_;simp +contextual -implicitDefEqProofs (maxSteps:=10^7) only[go_sem,seval,↓gZ,ZA,k4,aa]
    ·have aa:=Zmv sS sO sD sL sC eK eL eX eY eW eH ab ad ae af eC eo ea ep et ek hl;have ee:QZ (Zq.mk sS sO sD sL sC) (Zz.mk eK eL (Box.mk eX eY eW eH) (Zc.mk (Pane.mk ab ad ae af) eC) (Zf.mk eo ea ep et ek))=none:=by
      unfold QZ evS;rcases ak with k2 | k2<;>simp[k2,hl,Y3]
     rw[ee];unfold shV;refine cE ?_;rcases ak with k2 | k2
     ·rw[k2] at aa;simp +contextual -implicitDefEqProofs (maxSteps:=10^7) only[go_sem,seval,↓gZ,ZA,k2,aa]
     ·rw[k2] at aa;simp +contextual -implicitDefEqProofs (maxSteps:=10^7) only[go_sem,seval,↓gZ,ZA,k2,aa]
   ·have k2:¬eK=2:=fun h=>ak (.inl h);have k4:¬eK=4:=fun h=>ak (.inr h);by_cases k3:eK=3
    ·exact ZaU sS sO sD sL sC eK eL eX eY eW eH ab ad ae af eC eo ea ep et ek (ZtA hv) k3
    ·have ee:QZ (Zq.mk sS sO sD sL sC) (Zz.mk eK eL (Box.mk eX eY eW eH) (Zc.mk (Pane.mk ab ad ae af) eC) (Zf.mk eo ea ep et ek))=none:=by
      unfold QZ evS;simp[k0,k1,k5,k2,k4,k3,Y3]
     rw[ee];unfold shV;refine cE ?_;simp +contextual -implicitDefEqProofs (maxSteps:=10^7) only[go_sem,seval,↓gZ,ZA,k0,k1,k5,k2,k4,k3]
def Zvn (F:List Box) (W w h y:Int):Nat→Int→Option Box
 | 0,_=>none
 | n+1,x=>if x+w≤W then (if Qg F ⟨x,y,w,h⟩ then some ⟨x,y,w,h⟩ else Zvn F W w h y n (x+1)) else none
def Zvo (F:List Box) (W H w h:Int):Nat→Int→Option Box
 | 0,_=>none
 | n+1,y=>if y+h≤H then (match Zvn F W w h y (W.toNat+1) 0 with
  | some b=>some b
  | none=>Zvo F W H w h n (y+1)) else none
def JW (q:Zb) (w h:Int):Option Box:=Zvo q.Flaws q.W q.H w h (q.H.toNat+1) 0
theorem Zsw {F:List Box} {W w h y:Int}:∀ {n:Nat} {x:Int} {b:Box},Zvn F W w h y n x=some b→x≤b.X∧b.X+w≤W∧b.Y=y∧b.W=w∧b.H=h∧Qg F b
 | 0,x,b,e=>by simp[Zvn] at e
 | n+1,x,b,e=>by
  unfold Zvn at e;split at e
  ·split at e
   ·cases e;exact⟨Int.le_refl _,by assumption,rfl,rfl,rfl,by assumption⟩
   ·obtain⟨h1,h2⟩:=Zsw e;exact⟨by omega,h2⟩
  ·cases e
theorem Zsx {F:List Box} {W H w h:Int}:∀ {n:Nat} {y:Int} {b:Box},Zvo F W H w h n y=some b→0≤b.X∧b.X+w≤W∧y≤b.Y∧b.Y+h≤H∧b.W=w∧b.H=h∧Qg F b
 | 0,y,b,e=>by simp[Zvo] at e
 | n+1,y,b,e=>by
  unfold Zvo at e;split at e
  ·rename_i hy;split at e
   ·rename_i c hc;cases e;obtain⟨h1,h2,h3,h4,h5,h6⟩:=Zsw hc;exact⟨h1,h2,by omega,by omega,h4,h5,h6⟩
   ·obtain⟨h1,h2,h3,h4⟩:=Zsx e;exact⟨h1,h2,by omega,h4⟩
  ·cases e
theorem Zvp {q:Zb} {w h:Int} {b:Box} (e:JW q w h=some b):0≤b.X∧b.X+w≤q.W∧0≤b.Y∧b.Y+h≤q.H∧b.W=w∧b.H=h∧Qg q.Flaws b:=Zsx e
def fcV:Option Box→AV×List Zl
 | some b=>(.tup [.d b.enc,(.d (.bool true))],[])
 | none=>(.tup [.d (.agg [J 0,J 0,J 0,J 0]),(.d (.bool false))],[])
theorem U1 (qL qW qH:Int) (qF:List Box) (w h:Int) (hq:VPc (Zb.mk qL qW qH qF)) (hw:1≤w∧w≤200) (hh:1≤h∧h≤200):Ze Xs Ms XQ [(.d (.agg [J qL,J qW,J qH,.sl (qF.map Box.enc)])),(.d (J w)),(.d (J h))] []=some (fcV (JW (Zb.mk qL qW qH qF) w h)):=by
 have hF:∀ f∈qF,VB f:=fun f hf=>(hq.2 f hf).1;obtain⟨_,_,af,ag,ah,ai,aj⟩:=hq.1;simp only at af ag ah ai aj;clear hq;unfold JW;simp only;refine cE ?_;simp +contextual -implicitDefEqProofs (maxSteps:=10^7) only[go_sem,seval,↓gZ,Zda];refine LO (α:=Nat) (fun y=>[(8,.d (J (y:Int)))]) (fun _=>[]) (fun y=>(y:Int)≤qH∧Zvo qF qW qH w h (qH.toNat+1-y) y=Zvo qF qW qH w h (qH.toNat+1) 0) (fun y=>qH.toNat+1-y) 0 ⟨by omega,by simp⟩ ?_;intro y ⟨hy,hp⟩ ih;obtain⟨n,hn⟩:∃ n,qH.toNat+1-y=n+1:=⟨qH.toNat-y,by omega⟩
 rw[hn,Zvo] at hp;have wy:=wi ((y:Int)+h) (by omega) (by omega);by_cases ad:(y:Int)+h≤qH
 ·rw[Ki ad] at hp;simp +contextual -implicitDefEqProofs (maxSteps:=10^7) only[go_sem,seval,↓gZ,wy,ad];refine Ze9 Xs Ms (st0:=?st1) (α:=Nat) (fun x=>[(9,.d (J (x:Int)))]) (fun _=>[]) (fun x=>(x:Int)≤qW∧Zvn qF qW w h y (qW.toNat+1-x) x=Zvn qF qW w h y (qW.toNat+1) 0) (fun x=>qW.toNat+1-x) 0 ?hc2 ⟨by omega,by simp⟩ ?h02 ?step2
  case hc2=>simp +contextual -implicitDefEqProofs (maxSteps:=10^7) only[go_sem,seval,↓gZ]<;>exact rfl
  case h02=>rfl
  case step2=>
   intro x ⟨hx,aa⟩ ak;obtain⟨m,hm⟩:∃ m,qW.toNat+1-x=m+1:=⟨qW.toNat-x,by omega⟩
   rw[hm,Zvn] at aa;have wx:=wi ((x:Int)+w) (by omega) (by omega);have al:=Zj (k:=x) (by omega);have am:=Zj (k:=y) (by omega);by_cases ab:(x:Int)+w≤qW
   ·rw[Ki ab] at aa;have ec:=Zj1 qL qW qH qF x y w h hF (by simp only[VB];omega) (by omega);by_cases ae:Qg qF ⟨x,y,w,h⟩
    ·rw[Ki ae] at aa;rw[← aa] at hp;simp only at hp;rw[Kh ae] at ec;simp +contextual -implicitDefEqProofs (maxSteps:=10^7) only[go_sem,seval,↓gZ,wx,ab,ec];rw[← hp];rfl
    ·rw[Kd ae] at aa;rw[Kk ae] at ec;simp +contextual -implicitDefEqProofs (maxSteps:=10^7) only[go_sem,seval,↓gZ,wx,ab,ec,al];refine ak (x+1) _ ⟨by omega,?_⟩ (by omega) ?_
     ·rw[← aa];have:qW.toNat+1-(x+1)=m:=by omega
      rw[this];rfl
     ·simp +contextual -implicitDefEqProofs (maxSteps:=10^7) only[go_sem,seval,↓gZ]
   ·rw[Kd ab] at aa;rw[← aa] at hp;simp only at hp;simp +contextual -implicitDefEqProofs (maxSteps:=10^7) only[go_sem,seval,↓gZ,wx,ab,am];refine ih (y+1) _ ⟨by omega,?_⟩ (by omega) ?_
    ·rw[← hp];have:qH.toNat+1-(y+1)=n:=by omega
     rw[this];rfl
    ·simp +contextual -implicitDefEqProofs (maxSteps:=10^7) only[go_sem,seval,↓gZ]
 ·rw[Kd ad] at hp;simp +contextual -implicitDefEqProofs (maxSteps:=10^7) only[go_sem,seval,↓gZ,wy,ad];rw[← hp];rfl
def okP (p:Pane) (q:Zb):Bool:=(JW q p.W p.H).isSome || (p.Turns&&(JW q p.H p.W).isSome)
def Zlg (l:List Zb) (b:Int):Int:=match l[b.toNat]? with
 | some q=>q.W*q.H
 | none=>0
def ZcW (L:List Zb) (p:Pane):List Zb→Nat→Int→Int
 | [],_,b=>b
 | x :: r,i,b=>ZcW L p r (i+1) (if okP p x=true∧(b<0∨x.W*x.H<Zlg L b) then (i:Int) else b)
theorem Zvq {L l:List Zb} {p:Pane} {k i:Nat} {x:Zb} {b:Int} (hx:l[k]?=some x):ZcW L p (l.drop k) i b=ZcW L p (l.drop (k+1)) (i+1) (if okP p x=true∧(b<0∨x.W*x.H<Zlg L b) then (i:Int) else b):=by
 obtain⟨h1,h2⟩:=Kb.1 hx;rw[Kw h1,h2,ZcW]
theorem ZwZ {L l:List Zb} {p:Pane} {i:Nat} {b:Int}:ZcW L p (l.drop l.length) i b=b:=by simp[ZcW]
def Zio (L:List Zb) (p:Pane):Int:=ZcW L p L 0 (-1)
def ZAl (L:List Zb) (p:Pane):Int:=if VSt L∧VP p then (if Zio L p<0 then 0 else match L[(Zio L p).toNat]? with
 | some q=>q.Label
 | none=>0) else 0
theorem Zsy (L:List Zb) (p:Pane):∀ (l:List Zb) (i:Nat) (b:Int),(∀ (j:Nat) (x:Zb),l[j]?=some x→L[i+j]?=some x)→(b<0∨∃ (j:Nat) (x:Zb),b=(j:Int)∧L[j]?=some x∧okP p x=true)→ZcW L p l i b<0∨∃ (j:Nat) (x:Zb),ZcW L p l i b=(j:Int)∧L[j]?=some x∧okP p x=true
 | [],i,b,_,hb=>hb
 | x :: r,i,b,hl,hb=>by
  unfold ZcW;refine Zsy L p r (i+1) _ (fun j y hy=>by have:=hl (j+1) y (by simpa using hy);rw[show i+1+j=i+(j+1) by omega];exact this) ?_;split
  ·rename_i hc;exact .inr ⟨i,x,rfl,by have:=hl 0 x (by simp);simpa using this,hc.1⟩
  ·exact hb
theorem ZAm (L:List Zb) (p:Pane):Zio L p<0∨∃ (j:Nat) (x:Zb),Zio L p=(j:Int)∧L[j]?=some x∧okP p x=true:=
 Zsy L p L 0 (-1) (fun j x h=>by simpa using h) (.inl (by omega))
theorem Zpi (l:List Zb) (pW pH:Int) (pT:Bool) (pK:Int) (hv:VSt l) (hp:VP (Pane.mk pW pH pT pK)):Ze Xs Ms UN [(.d (.sl (l.map Zb.enc))),(.d (.agg [J pW,J pH,.bool pT,J pK]))] []=some ((.d (J (ZAl l (Pane.mk pW pH pT pK)))),[]):=by
 have e1:=Yv l (by have:=hv.1;omega) (fun x hx=>⟨by have:=(Zck hv).2 x hx;omega,Zj6 (Ql hv.2 x hx)⟩);have e2:=Ve pW pH pT pK;rw[Kh hv] at e1;rw[Kh hp] at e2;have ad:=fun x hx=>Ql hv.2 x hx;have aj:=hv.1;unfold ZAl;rw[Ki ⟨hv,hp⟩];have ae:1≤pW∧pW≤200∧1≤pH∧pH≤200:=⟨hp.1,hp.2.1,hp.2.2.1,hp.2.2.2.1⟩
 clear hv hp;refine cE ?_;simp +contextual -implicitDefEqProofs (maxSteps:=10^7) only[go_sem,seval,↓gZ,Zd3,e1,e2];refine LO (α:=Nat×Int) (fun s=>[(6,.d (J (s.1:Int))),(5,.d (J s.2))]) (fun _=>[]) (fun s=>s.1≤l.length∧ZcW l (Pane.mk pW pH pT pK) (l.drop s.1) s.1 s.2=Zio l (Pane.mk pW pH pT pK)∧(s.2=-1∨∃ j:Nat,s.2=(j:Int)∧j<l.length)) (fun s=>l.length-s.1) (0,-1) ⟨by simp,by simp[Zio],.inl rfl⟩ ?_;intro⟨i,b⟩ ⟨hi,hq,hb⟩ ih;simp only at hi hq hb;by_cases ab:i<l.length
 ·obtain⟨x,hx⟩:=Zr ab;have hw:=Zj (k:=i) (by omega);rw[Zvq hx] at hq;have ag:=ad x (Kc hx);have f1:=U1 x.Label x.W x.H x.Flaws pW pH ag ⟨ae.1,ae.2.1⟩ ae.2.2;have f2:=U1 x.Label x.W x.H x.Flaws pH pW ag ae.2.2 ⟨ae.1,ae.2.1⟩;have am:=ag.1;have ak:0≤x.W*x.H∧x.W*x.H≤40000:=Zb5 (b:=⟨0,0,x.W,x.H⟩) (by simp only[VB];omega);have aa:okP (Pane.mk pW pH pT pK) x=((JW ⟨x.Label,x.W,x.H,x.Flaws⟩ pW pH).isSome || (pT&&(JW ⟨x.Label,x.W,x.H,x.Flaws⟩ pH pW).isSome)):=rfl;obtain⟨L,W,H,F⟩:=x;simp only at f1 f2 ak aa;have u1:=wi (W*H) (by omega) (by omega);cases h1:JW ⟨L,W,H,F⟩ pW pH with
  | some b1=>
   rw[h1] at f1 aa;unfold fcV at f1;simp only[Lx,Bool.true_or] at aa;obtain⟨bX,bY,bW,bH⟩:=b1;rcases hb with hb | ⟨j,hb,hj⟩
   ·subst hb;rw[Ki ⟨aa,.inl (by omega)⟩] at hq;simp +contextual -implicitDefEqProofs (maxSteps:=10^7) only[go_sem,seval,↓gZ,hx,ab,hw,f1];refine ih (i+1,(i:Int)) _ ⟨by simp only;omega,hq,.inr ⟨i,rfl,ab⟩⟩ (by simp only;omega) ?_;simp +contextual -implicitDefEqProofs (maxSteps:=10^7) only[go_sem,seval,↓gZ]
   ·subst hb;obtain⟨y,hy⟩:=Zr hj;have al:=(ad y (Kc hy)).1;have ah:0≤y.W*y.H∧y.W*y.H≤40000:=Zb5 (b:=⟨0,0,y.W,y.H⟩) (by simp only[VB];omega);have af:¬(j:Int)<0:=by omega
    have ai:Zlg l (j:Int)=y.W*y.H:=by unfold Zlg;rw[KD,hy]
    rw[ai] at hq;obtain⟨yL,yW,yH,yF⟩:=y;simp only at ah hq;have u2:=wi (yW*yH) (by omega) (by omega);by_cases hc:W*H<yW*yH
    ·rw[Ki ⟨aa,.inr hc⟩] at hq;simp +contextual -implicitDefEqProofs (maxSteps:=10^7) only[go_sem,seval,↓gZ,hx,ab,hw,af,hj,hy,u1,u2,hc,f1];refine ih (i+1,(i:Int)) _ ⟨by simp only;omega,hq,.inr ⟨i,rfl,ab⟩⟩ (by simp only;omega) ?_;simp +contextual -implicitDefEqProofs (maxSteps:=10^7) only[go_sem,seval,↓gZ]
    ·rw[Kd (fun h=>by rcases h.2 with h | h<;>omega)] at hq;simp +contextual -implicitDefEqProofs (maxSteps:=10^7) only[go_sem,seval,↓gZ,hx,ab,hw,af,hj,hy,u1,u2,hc,f1];refine ih (i+1,(j:Int)) _ ⟨by simp only;omega,hq,.inr ⟨j,rfl,hj⟩⟩ (by simp only;omega) ?_;simp +contextual -implicitDefEqProofs (maxSteps:=10^7) only[go_sem,seval,↓gZ]
  | none=>
   rw[h1] at f1 aa;unfold fcV at f1;cases pT with
   | false=>
    simp only[Lh,Bool.false_and,Bool.or_self] at aa;rw[Kd (fun h=>by rw[aa] at h;exact absurd h.1 (by simp))] at hq;simp +contextual -implicitDefEqProofs (maxSteps:=10^7) only[go_sem,seval,↓gZ,hx,ab,hw,f1];refine ih (i+1,b) _ ⟨by simp only;omega,hq,hb⟩ (by simp only;omega) ?_;simp +contextual -implicitDefEqProofs (maxSteps:=10^7) only[go_sem,seval,↓gZ]
   | true=>
    cases h2:JW ⟨L,W,H,F⟩ pH pW with
    | none=>
     rw[h2] at f2 aa;unfold fcV at f2;simp only[Lh,Bool.true_and,Bool.or_self] at aa;rw[Kd (fun h=>by rw[aa] at h;exact absurd h.1 (by simp))] at hq;simp +contextual -implicitDefEqProofs (maxSteps:=10^7) only[go_sem,seval,↓gZ,hx,ab,hw,f1,f2];refine ih (i+1,b) _ ⟨by simp only;omega,hq,hb⟩ (by simp only;omega) ?_;simp +contextual -implicitDefEqProofs (maxSteps:=10^7) only[go_sem,seval,↓gZ]
    | some b2=>
     rw[h2] at f2 aa;unfold fcV at f2;simp only[Lx,Lh,Bool.true_and,Bool.false_or] at aa;obtain⟨bX,bY,bW,bH⟩:=b2;rcases hb with hb | ⟨j,hb,hj⟩
     ·subst hb;rw[Ki ⟨aa,.inl (by omega)⟩] at hq;simp +contextual -implicitDefEqProofs (maxSteps:=10^7) only[go_sem,seval,↓gZ,hx,ab,hw,f1,f2];refine ih (i+1,(i:Int)) _ ⟨by simp only;omega,hq,.inr ⟨i,rfl,ab⟩⟩ (by simp only;omega) ?_;simp +contextual -implicitDefEqProofs (maxSteps:=10^7) only[go_sem,seval,↓gZ]
     ·subst hb;obtain⟨y,hy⟩:=Zr hj;have al:=(ad y (Kc hy)).1;have ah:0≤y.W*y.H∧y.W*y.H≤40000:=Zb5 (b:=⟨0,0,y.W,y.H⟩) (by simp only[VB];omega);have af:¬(j:Int)<0:=by omega
      have ai:Zlg l (j:Int)=y.W*y.H:=by unfold Zlg;rw[KD,hy]
      rw[ai] at hq;obtain⟨yL,yW,yH,yF⟩:=y;simp only at ah hq;have u2:=wi (yW*yH) (by omega) (by omega);by_cases hc:W*H<yW*yH
      ·rw[Ki ⟨aa,.inr hc⟩] at hq;simp +contextual -implicitDefEqProofs (maxSteps:=10^7) only[go_sem,seval,↓gZ,hx,ab,hw,af,hj,hy,u1,u2,hc,f1,f2];refine ih (i+1,(i:Int)) _ ⟨by simp only;omega,hq,.inr ⟨i,rfl,ab⟩⟩ (by simp only;omega) ?_;simp +contextual -implicitDefEqProofs (maxSteps:=10^7) only[go_sem,seval,↓gZ]
      ·rw[Kd (fun h=>by rcases h.2 with h | h<;>omega)] at hq;simp +contextual -implicitDefEqProofs (maxSteps:=10^7) only[go_sem,seval,↓gZ,hx,ab,hw,af,hj,hy,u1,u2,hc,f1,f2];refine ih (i+1,(j:Int)) _ ⟨by simp only;omega,hq,.inr ⟨j,rfl,hj⟩⟩ (by simp only;omega) ?_;simp +contextual -implicitDefEqProofs (maxSteps:=10^7) only[go_sem,seval,↓gZ]
 ·have:i=l.length:=by omega
  subst this;rw[ZwZ] at hq;subst hq;rcases hb with hb | ⟨j,hb,hj⟩
  ·have h0:Zio l (Pane.mk pW pH pT pK)<0:=by omega
   simp +contextual -implicitDefEqProofs (maxSteps:=10^7) only[go_sem,seval,↓gZ,hb]
  ·have h0:¬Zio l (Pane.mk pW pH pT pK)<0:=by omega
   have h1:¬(j:Int)<0:=by omega
   obtain⟨y,hy⟩:=Zr hj;simp only[hb,Kd h1,KD,hy];obtain⟨yL,yW,yH,yF⟩:=y;simp +contextual -implicitDefEqProofs (maxSteps:=10^7) only[go_sem,seval,↓gZ,h1,hj,hy]
def Vz (lo hi fr to:Int):List Int:=(if fr<lo∧lo<to then [lo] else [])++(if fr<hi∧hi<to then [hi] else [])
theorem Zy2 {lo hi fr to x:Int} (h:x∈Vz lo hi fr to):x<to:=by
 unfold Vz at h;rcases Kg.1 h with h | h
 ·split at h
  ·simp at h;omega
  ·simp at h
 ·split at h
  ·simp at h;omega
  ·simp at h
theorem Zlh (lo hi fr to:Int):(Vz lo hi fr to).length≤2:=by
 unfold Vz;split<;>split<;>simp
theorem Zy3 {lo hi fr t:Int} (hl:lo<hi) (hf:fr<t) (h:t=lo∨t=hi):Vz lo hi fr (t+1)=Vz lo hi fr t++[t]:=by
 unfold Vz;rcases h with h | h
 ·rw[Ki (show fr<lo∧lo<t+1 by omega),Kd (show ¬(fr<hi∧hi<t+1) by omega),Kd (show ¬(fr<lo∧lo<t) by omega),Kd (show ¬(fr<hi∧hi<t) by omega),h];rfl
 ·rw[Ki (show fr<hi∧hi<t+1 by omega),Kd (show ¬(fr<hi∧hi<t) by omega)];by_cases h2:fr<lo
  ·rw[Ki (show fr<lo∧lo<t+1 by omega),Ki (show fr<lo∧lo<t by omega),h];rfl
  ·rw[Kd (show ¬(fr<lo∧lo<t+1) by omega),Kd (show ¬(fr<lo∧lo<t) by omega),h];rfl
theorem ZAn {lo hi fr t:Int} (h:¬(t=lo∨t=hi)):Vz lo hi fr (t+1)=Vz lo hi fr t:=by
 unfold Vz;have h1:(fr<lo∧lo<t+1)=(fr<lo∧lo<t):=propext (by omega);have h2:(fr<hi∧hi<t+1)=(fr<hi∧hi<t):=propext (by omega);simp only[h1,h2]
theorem Zkb:∀ (l:List Int) (k:Nat) (n:Int),n∉l→V8 k l n=-1
 | [],_,_,_=>rfl
 | x :: l,k,n,h=>by
  simp only[Kf,not_or] at h;unfold V8;rw[Kd (fun e=>h.1 e.symm),Zkb l (k+1) n h.2]
theorem Zpj (cP:Int) (cT:Bool) (cX cY cW cH:Int) (op lo n fr to:Int) (ho:(op=2∧lo=cX∧n=cW)∨(op=3∧lo=cY∧n=cH)) (hc:0≤cX∧cX≤1000∧0≤cY∧cY≤1000∧1≤cW∧cW≤1000∧1≤cH∧cH≤1000) (h0:0≤fr) (h1:fr<to) (h2:to≤1000):Ze Xs Ms ZeU [.d (.sl [.agg [J cP,.bool cT,J cX,J cY,J cW,J cH]]),(.d (J op)),(.d (J fr)),(.d (J to))] []=some (.own 0,[.row 1 ((Vz lo (lo+n) fr to).map Ys) true false]):=by
 have w0:=wi (fr+1) (by omega) (by omega);have wx:=wi (cX+cW) (by omega) (by omega);have wy:=wi (cY+cH) (by omega) (by omega);have hn:lo<lo+n:=by omega
 have ae:Vz lo (lo+n) fr (fr+1)=[]:=by unfold Vz;rw[Kd (by omega),Kd (by omega)];rfl
 refine cE ?_;simp +contextual -implicitDefEqProofs (maxSteps:=10^7) only[go_sem,seval,↓gZ,Zlu,w0];refine Ze9 Xs Ms (st0:=?st0) (α:=Int) (fun t=>[(10,.d (J t))]) (fun t=>[(0,.row 1 ((Vz lo (lo+n) fr t).map Ys) true false)]) (fun t=>fr+1≤t∧t≤to) (fun t=>(to-t).toNat) (fr+1) ?hc (by omega) ?h0 ?step
 case hc=>simp +contextual -implicitDefEqProofs (maxSteps:=10^7) only[go_sem,seval,↓gZ]<;>exact rfl
 case h0=>rw[ae];rfl
 case step=>
  intro t ⟨ag,ah⟩ ih;by_cases ab:t<to
  ·have wt:=wi (t+1) (by omega) (by omega);have ai:=Zlh lo (lo+n) fr t;have hr:((Vz lo (lo+n) fr t).length+1)*8≤140737488355328∧(Vz lo (lo+n) fr t).length≤140737488355327:=by omega
   have ad:=Zto (Vz lo (lo+n) fr t) t (by omega);rw[Zkb _ _ _ (fun h=>by have:=Zy2 h;omega)] at ad;by_cases hm:t=lo∨t=lo+n
   ·have hy:=Zy3 hn (show fr<t by omega) hm;have af:(1:Int)+0=1:=rfl;rcases ho with ⟨o1,o2,o3⟩ | ⟨o1,o2,o3⟩
    ·have aa : (t=cX∨t=cX+cW):=by omega
     simp +contextual -implicitDefEqProofs (maxSteps:=10^7) only[go_sem,seval,↓gZ,ab];refine ZY Xs Ms ?_;simp +contextual -implicitDefEqProofs (maxSteps:=10^7) only[go_sem,seval,↓gZ,wx,o1,aa,ad,hr,← LV];refine ZY Xs Ms ?_;simp +contextual -implicitDefEqProofs (maxSteps:=10^7) only[go_sem,seval,↓gZ,wt];refine ih (t+1) _ (by omega) (by omega) ?_;simp +contextual -implicitDefEqProofs (maxSteps:=10^7) only[go_sem,seval,↓gZ,hy,o1,K9,Kj,Ku]
    ·have aa : (t=cY∨t=cY+cH):=by omega
     simp +contextual -implicitDefEqProofs (maxSteps:=10^7) only[go_sem,seval,↓gZ,ab];refine ZY Xs Ms ?_;simp +contextual -implicitDefEqProofs (maxSteps:=10^7) only[go_sem,seval,↓gZ,wx,wy,o1,aa,ad,hr,← LV];refine ZY Xs Ms ?_;simp +contextual -implicitDefEqProofs (maxSteps:=10^7) only[go_sem,seval,↓gZ,wt];refine ih (t+1) _ (by omega) (by omega) ?_;simp +contextual -implicitDefEqProofs (maxSteps:=10^7) only[go_sem,seval,↓gZ,hy,o1,K9,Kj,Ku]
   ·have hy:=ZAn (fr:=fr) hm;rcases ho with ⟨o1,o2,o3⟩ | ⟨o1,o2,o3⟩
    ·have aa : ¬(t=cX∨t=cX+cW):=by omega
     simp +contextual -implicitDefEqProofs (maxSteps:=10^7) only[go_sem,seval,↓gZ,ab];refine ZY Xs Ms ?_;simp +contextual -implicitDefEqProofs (maxSteps:=10^7) only[go_sem,seval,↓gZ,wx,o1,aa,← LV];refine ZY Xs Ms ?_;simp +contextual -implicitDefEqProofs (maxSteps:=10^7) only[go_sem,seval,↓gZ,wt];refine ih (t+1) _ (by omega) (by omega) ?_;simp +contextual -implicitDefEqProofs (maxSteps:=10^7) only[go_sem,seval,↓gZ,hy,o1]
    ·have aa : ¬(t=cY∨t=cY+cH):=by omega
     simp +contextual -implicitDefEqProofs (maxSteps:=10^7) only[go_sem,seval,↓gZ,ab];refine ZY Xs Ms ?_;simp +contextual -implicitDefEqProofs (maxSteps:=10^7) only[go_sem,seval,↓gZ,wx,wy,o1,aa,← LV];refine ZY Xs Ms ?_;simp +contextual -implicitDefEqProofs (maxSteps:=10^7) only[go_sem,seval,↓gZ,wt];refine ih (t+1) _ (by omega) (by omega) ?_;simp +contextual -implicitDefEqProofs (maxSteps:=10^7) only[go_sem,seval,↓gZ,hy,o1]
  ·have:t=to:=by omega
   subst this;simp +contextual -implicitDefEqProofs (maxSteps:=10^7) only[go_sem,seval,↓gZ]
theorem ZhR (cP:Int) (cT:Bool) (cX cY cW cH:Int) (op lo n t:Int) (f:Bool) (ho:(op=2∧lo=cX∧n=cW)∨(op=3∧lo=cY∧n=cH)) (hc:0≤cX∧cX≤1000∧0≤cY∧cY≤1000∧1≤cW∧cW≤1000∧1≤cH∧cH≤1000) (hn:¬(lo<t∧t<lo+n)):Ze Xs Ms ZeV [.d (.sl [.agg [J cP,.bool cT,J cX,J cY,J cW,J cH]]),(.d (J op)),(.d (J t)),(.d (.bool f))] [] =
  some (.tup [.own 0,(.d (.bool true))],[.row 6 (if f=decide (lo+n≤t) then [.agg [J cP,.bool cT,J cX,J cY,J cW,J cH]] else []) true false]):=by
 have wx:=wi (cX+cW) (by omega) (by omega);have wy:=wi (cY+cH) (by omega) (by omega);have bb:∀ a b:Bool,Zjw .eql true (.d (.bool a)) (.d (.bool b))=QM (.d (.bool (a==b))):=fun _ _=>rfl;refine cE ?_;rcases ho with ⟨o1,o2,o3⟩ | ⟨o1,o2,o3⟩
 ·have aa : ¬(cX<t∧t<cX+cW):=by omega
  have he:(lo+n≤t)=(cX+cW≤t):=propext (by omega);simp only[he];simp +contextual -implicitDefEqProofs (maxSteps:=10^7) only[go_sem,seval,↓gZ,Zkk];refine ZY Xs Ms ?_;by_cases hf:f=decide (cX+cW≤t)
  ·have hg:(f==decide (cX+cW≤t))=true:=by rw[hf];simp
   rw[Ki hf];simp +contextual -implicitDefEqProofs (maxSteps:=10^7) only[go_sem,seval,↓gZ,wx,o1,aa,bb,hg,← LN];refine ZY Xs Ms ?_;simp +contextual -implicitDefEqProofs (maxSteps:=10^7) only[go_sem,seval,↓gZ]
  ·have hg:(f==decide (cX+cW≤t))=false:=by simpa using hf
   rw[Kd hf];simp +contextual -implicitDefEqProofs (maxSteps:=10^7) only[go_sem,seval,↓gZ,wx,o1,aa,bb,hg,← LN];refine ZY Xs Ms ?_;simp +contextual -implicitDefEqProofs (maxSteps:=10^7) only[go_sem,seval,↓gZ]
 ·have aa : ¬(cY<t∧t<cY+cH):=by omega
  have he:(lo+n≤t)=(cY+cH≤t):=propext (by omega);simp only[he];simp +contextual -implicitDefEqProofs (maxSteps:=10^7) only[go_sem,seval,↓gZ,Zkk];refine ZY Xs Ms ?_;by_cases hf:f=decide (cY+cH≤t)
  ·have hg:(f==decide (cY+cH≤t))=true:=by rw[hf];simp
   rw[Ki hf];simp +contextual -implicitDefEqProofs (maxSteps:=10^7) only[go_sem,seval,↓gZ,wx,wy,o1,aa,bb,hg,← LN];refine ZY Xs Ms ?_;simp +contextual -implicitDefEqProofs (maxSteps:=10^7) only[go_sem,seval,↓gZ]
  ·have hg:(f==decide (cY+cH≤t))=false:=by simpa using hf
   rw[Kd hf];simp +contextual -implicitDefEqProofs (maxSteps:=10^7) only[go_sem,seval,↓gZ,wx,wy,o1,aa,bb,hg,← LN];refine ZY Xs Ms ?_;simp +contextual -implicitDefEqProofs (maxSteps:=10^7) only[go_sem,seval,↓gZ]
def ZcX:Zf→AV×List Zl
 | .mk o a q t ks=>(.tup [.agg [(.d (J o)),(.d (J a)),(.d (J q)),(.d (.bool t)),.own 0],(.d (.bool true))],[.row 5 (ks.map Zf.enc) true false])
theorem Za6 (bX bY bW bH:Int):Ze Xs Ms Qr [.d (.sl []),(.d (.agg [J bX,J bY,J bW,J bH]))] []=some (ZcX BT.waste.plan):=by
 simp only[BT.plan,ZcX];refine cE ?_;simp +contextual -implicitDefEqProofs (maxSteps:=10^7) only[go_sem,seval,↓gZ,Js]
theorem Zg4 (cP:Int) (cT:Bool) (cX cY cW cH:Int):Ze Xs Ms Qr [.d (.sl [.agg [J cP,.bool cT,J cX,J cY,J cW,J cH]]),.d (.agg [J cX,J cY,J cW,J cH])] []=some (ZcX (BT.pane cP cT).plan):=by
 simp only[BT.plan,ZcX];refine cE ?_;simp +contextual -implicitDefEqProofs (maxSteps:=10^7) only[go_sem,seval,↓gZ,Js]
theorem JX (A B:List D) (bX bY bW bH:Int) (d:Bool) (a:Int) (l r:BT) (hA:uni 6 A) (hB:uni 6 B) (h1:R64 (bX+a)) (h2:R64 (bY+a)) (h3:R64 (bW-a)) (h4:R64 (bH-a))
  (hl:Ze Xs Ms Qr [.d (.sl A),if d then .d (.agg [J bX,J bY,J a,J bH]) else .d (.agg [J bX,J bY,J bW,J a])] []=some (ZcX l.plan))
  (hr:Ze Xs Ms Qr [.d (.sl B),if d then .d (.agg [J (bX+a),J bY,J (bW-a),J bH]) else .d (.agg [J bX,J (bY+a),J bW,J (bH-a)])] []=some (ZcX r.plan)) :
  Ze Xs Ms We [.d (.sl A),.d (.sl B),(.d (.agg [J bX,J bY,J bW,J bH])),(.d (J (VX d))),(.d (J a))] []=some (ZcX (BT.cut d a l r).plan):=by
 have w1:=wi (bX+a) h1.1 h1.2;have w2:=wi (bY+a) h2.1 h2.2;have w3:=wi (bW-a) h3.1 h3.2;have w4:=wi (bH-a) h4.1 h4.2;obtain⟨lo,la,lq,lt,lk,el⟩:∃ o a q t ks,l.plan=.mk o a q t ks:=by cases l.plan;exact⟨_,_,_,_,_,rfl⟩
 obtain⟨ro,ra,rq,rt,rk,er⟩:∃ o a q t ks,r.plan=.mk o a q t ks:=by cases r.plan;exact⟨_,_,_,_,_,rfl⟩
 rw[el] at hl;rw[er] at hr;simp only[BT.plan,el,er,ZcX] at hl hr ⊢;cases d with
 | true=>
  simp only[Km,VX] at hl hr ⊢;refine cE ?_;simp +contextual -implicitDefEqProofs (maxSteps:=10^7) only[go_sem,seval,↓gZ,Zbc,w1,w3,hl,hr,hA,hB]
 | false=>
  simp only[Ka,Ko,VX] at hl hr ⊢;refine cE ?_;simp +contextual -implicitDefEqProofs (maxSteps:=10^7) only[go_sem,seval,↓gZ,Zbc,w1,w2,w3,w4,hl,hr,hA,hB]
end Go.Proofs.YtcefneehgbiebaaGreatDoor
