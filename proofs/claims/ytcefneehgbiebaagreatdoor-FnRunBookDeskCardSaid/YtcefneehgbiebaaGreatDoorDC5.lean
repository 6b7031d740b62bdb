/- Own text. -/
import Derived.Test.YtcefneehgbiebaaGreatDoorDCode
import Derived.Test.YtcefneehgbiebaaGreatDoorAbsParts
import Derived.Test.YtcefneehgbiebaaGreatDoorDC2
import Derived.Test.YtcefneehgbiebaaGreatDoorDC4
namespace Go.Proofs.YtcefneehgbiebaaGreatDoor
open Go Go.Abs Go.Abs.E Go.Abs.L
open Nat (reduceMul reduceSub reduceLeDiff reduceEqDiff)
open Int (reduceLE reduceEq reduceToNat reduceNeg)
set_option linter.unusedSimpArgs false
set_option linter.unusedVariables false
set_option maxRecDepth 20000
set_option maxHeartbeats 4000000
structure Zl where
 kind:Int
 label:Int
 box:Box
 line:Zc
 plan:Zf
def Zl.enc (e:Zl):D:=.agg ([J e.kind,J e.label,J e.box.X,J e.box.Y,J e.box.W,J e.box.H,J e.line.Pane.W,J e.line.Pane.H,.bool e.line.Pane.Turns,J e.line.Pane.Kind,J e.line.Count]++e.plan.enc.cells)
@[go_sem] theorem Zl.enc_mk (k l x y w h pw ph pk c o a p:Int) (pt t:Bool) (ks:List Zf):Zl.enc (Zl.mk k l (Box.mk x y w h) (Zc.mk (Pane.mk pw ph pt pk) c) (Zf.mk o a p t ks)) =
  .agg [J k,J l,J x,J y,J w,J h,J pw,J ph,.bool pt,J pk,J c,J o,J a,J p,.bool t,.sl (ks.map Zf.enc)]:=by
 simp only[Zl.enc,Zf.enc_mk];rfl
theorem Zl.enc_len (e:Zl):(Zl.enc e).cells.length=16:=by
 show (_++e.plan.enc.cells).length=16;rw[Kr,Zf.enc_len];rfl
@[go_sem] theorem uni_Event (l:List Zl):uni 16 (l.map Zl.enc)=True:=eq_true (Zcx l Zl.enc_len)
def ZS (s:Zq):Prop:=VSt s.Stock∧ZaY s.Opn∧ZaY s.Done∧0≤s.Lost∧s.Lost≤900000∧0≤s.Came∧s.Came≤900000∧Vc s.Stock+ZaZ s.Done+s.Lost=s.Came
instance (s:Zq):Decidable (ZS s):=by unfold ZS;infer_instance
def QC (p:Zb):List Zb→List Zb
 | []=>[p]
 | x :: l=>if p.Label<x.Label then p :: x :: l else x :: QC p l
theorem Zp8 {l:List Zb} {k:Nat} {x p:Zb} (hx:l[k]?=some x):QC p (l.drop k)=if p.Label<x.Label then p :: l.drop k else x :: QC p (l.drop (k+1)):=by
 obtain⟨h1,h2⟩:=Kb.1 hx;rw[Kw h1,h2,QC]
theorem ZlW (p:Zb):∀ (l:List Zb),(QC p l).length=l.length+1
 | []=>rfl
 | x :: l=>by
  unfold QC;split
  ·simp
  ·simp[ZlW p l]
theorem Ztv (p:Zb):∀ (l:List Zb) (y:Zb),y∈QC p l→y=p∨y∈l
 | [],y,h=>by simpa [QC] using h
 | x :: l,y,h=>by
  unfold QC at h;split at h
  ·simpa using h
  ·rcases Kd.1 h with rfl | h
   ·exact .inr (by simp)
   ·rcases Ztv p l y h with h | h
    ·exact .inl h
    ·exact .inr (by simp[h])
def ZhA (p:Pane) (c:Int) (x:Zc):Option Zc:=
 if x.Pane=p then (if 0<x.Count-c then some ⟨x.Pane,x.Count-c⟩ else none) else (if 0<x.Count then some x else none)
def X4 (l:List Zc) (p:Pane) (c:Int):List Zc:=l.filterMap (ZhA p c)
def Xq (p:Pane) (c:Int):Bool→List Zc→Bool
 | b,[]=>b
 | b,x :: l=>Xq p c (if x.Pane=p then decide (0≤x.Count-c) else b) l
theorem Zwt {l:List Zc} {k:Nat} {x:Zc} {p:Pane} {c:Int} {b:Bool} (hx:l[k]?=some x):Xq p c b (l.drop k)=Xq p c (if x.Pane=p then decide (0≤x.Count-c) else b) (l.drop (k+1)):=by
 obtain⟨h1,h2⟩:=Kb.1 hx;rw[Kw h1,h2,Xq]
theorem Zx9 {l:List Zc} {p:Pane} {c:Int} {b:Bool}:Xq p c b (l.drop l.length)=b:=by simp[Xq]
theorem Zya {l:List Zc} {i:Nat} {x:Zc} (p:Pane) (c:Int) (hx:l[i]?=some x):X4 (l.take (i+1)) p c=X4 (l.take i) p c++(ZhA p c x).toList:=by
 unfold X4;rw[KL,hx,Lw];simp only[LX,Lf,List.filterMap_nil];cases ZhA p c x<;>rfl
def YS (p:Pane) (c:Int):List Zc→List Zc
 | []=>[⟨p,c⟩]
 | x :: l=>if x.Pane=p then ⟨x.Pane,x.Count+c⟩ :: l else x :: YS p c l
theorem Zdv (p:Pane) (c:Int):∀ (l:List Zc),(YS p c l).length≤l.length+1
 | []=>by simp[YS]
 | x :: l=>by
  unfold YS;split
  ·simp
  ·have:=Zdv p c l;simp;omega
theorem ZuC (p:Pane) (c:Int):∀ (l:List Zc) (i:Nat) (x:Zc),l[i]?=some x→x.Pane=p→p∉(l.take i).map Zc.Pane→YS p c l=l.set i ⟨x.Pane,x.Count+c⟩
 | [],i,x,h,_,_=>by simp at h
 | y :: l,0,x,h,e,_=>by
  simp only[Lp,Option.some.injEq] at h;subst h;simp[YS,e]
 | y :: l,i+1,x,h,e,hn=>by
  simp only[Lq] at h;simp only[LN,Kj,Kd,not_or] at hn;have ih:=ZuC p c l i x h e hn.2;simp only[YS,Ke (fun e' : y.Pane=p=>hn.1 e'.symm),List.set_cons_succ,ih]
theorem ZuD (p:Pane) (c:Int):∀ (l:List Zc),p∉l.map Zc.Pane→YS p c l=l++[⟨p,c⟩]
 | [],_=>rfl
 | y :: l,hn=>by
  simp only[Kj,Kd,not_or] at hn;simp only[YS,Ke (fun e' : y.Pane=p=>hn.1 e'.symm),ZuD p c l hn.2,Kv]
theorem Zwu {l:List Zb} (hv:VSt l):∀ x∈l,1≤x.W∧x.W≤200∧1≤x.H∧x.H≤200:=fun x hx=>by
 have:=(Qr hv.2 x hx).1;omega
theorem ZmZ {l:List Zb} (hv:VSt l):0≤Vc l∧Vc l≤800000:=by
 have h1:=ZcG (Zwu hv);have:=hv.1;omega
theorem Zp9 (l:List Zb) (hv:VSt l):Ze Xs Ms Jd [(.d (.sl (l.map Zb.enc)))] []=some ((.d (J (Vc l))),[]):=by
 have af:=hv.1;have aa:=Zwu hv;clear hv;refine cE ?_;simp +contextual -implicitDefEqProofs (maxSteps:=10^7) only[go_sem,seval,↓gZ,ZeJ];refine LO (α:=Nat) (fun i=>[(4,.d (J (i:Int))),(3,.d (J (Vc (l.take i))))]) (fun _=>[]) (fun i=>i≤l.length) (fun i=>l.length-i) 0 (by omega) ?_;intro i hi ih;by_cases ab:i<l.length
 ·obtain⟨x,hx⟩:=Zs ab;have hw:=Zj (k:=i) (by omega);have hm:=Zp1 hx;have ag:=ZcG (l:=l.take i) (fun y hy=>aa y (K0 hy));have ah:(l.take i).length≤i:=by simp;omega
  have g5:=aa x (Kc hx);have ad:x.W*x.H≤200*200:=L2 (by omega) (by omega) (by omega) (by omega);have ae:0≤x.W*x.H:=L1 (by omega) (by omega);obtain⟨xL,xW,xH,xF⟩:=x;simp only at g5 hm ad ae;have u0:=wi (xW*xH) (by omega) (by omega);have u1:=wi (Vc (l.take i)+xW*xH) (by omega) (by omega);simp +contextual -implicitDefEqProofs (maxSteps:=10^7) only[go_sem,seval,↓gZ,hx,ab,hw,u0,u1];refine ih (i+1) _ (by omega) (by omega) ?_;simp +contextual -implicitDefEqProofs (maxSteps:=10^7) only[go_sem,seval,↓gZ,hm]
 ·have:i=l.length:=by omega
  subst this;simp +contextual -implicitDefEqProofs (maxSteps:=10^7) only[go_sem,seval,↓gZ];simp
theorem Zqa (l:List Zc) (hv:ZaY l):Ze Xs Ms Je [(.d (.sl (l.map Zc.enc)))] []=some ((.d (J (ZaZ l))),[]):=by
 have h8:=hv.1;have aa:=QO hv;clear hv;refine cE ?_;simp +contextual -implicitDefEqProofs (maxSteps:=10^7) only[go_sem,seval,↓gZ,ZeK];refine LO (α:=Nat) (fun i=>[(4,.d (J (i:Int))),(3,.d (J (ZaZ (l.take i))))]) (fun _=>[]) (fun i=>i≤l.length) (fun i=>l.length-i) 0 (by omega) ?_;intro i hi ih;by_cases ab:i<l.length
 ·obtain⟨x,hx⟩:=Zs ab;have hw:=Zj (k:=i) (by omega);have hm:=Ztr hx;have ad:=Zf9 (l:=l.take i) (fun y hy=>aa y (K0 hy));have ae:(l.take i).length≤i:=by simp;omega
  have g5:=Zfp (aa x (Kc hx));obtain⟨⟨W,H,T,K⟩,C⟩:=x;simp only at g5 hm;have u0:=wi (C*W) (by omega) (by omega);have u1:=wi (C*W*H) (by omega) (by omega);have u2:=wi (ZaZ (l.take i)+C*W*H) (by omega) (by omega);simp +contextual -implicitDefEqProofs (maxSteps:=10^7) only[go_sem,seval,↓gZ,hx,ab,hw,u0,u1,u2];refine ih (i+1) _ (by omega) (by omega) ?_;simp +contextual -implicitDefEqProofs (maxSteps:=10^7) only[go_sem,seval,↓gZ,hm]
 ·have:i=l.length:=by omega
  subst this;simp +contextual -implicitDefEqProofs (maxSteps:=10^7) only[go_sem,seval,↓gZ];simp
theorem Zru (sS:List Zb) (sO sD:List Zc) (sL sC:Int) (h1:VSt sS) (h2:ZaY sD) (h3:0≤sL∧sL≤100000000):Ze Xs Ms Zaz [(.d (.agg [.sl (sS.map Zb.enc),.sl (sO.map Zc.enc),.sl (sD.map Zc.enc),J sL,J sC]))] []=some ((.d (J (Vc sS+ZaZ sD+sL))),[]):=by
 have e1:=Zp9 sS h1;have e2:=Zqa sD h2;have b1:=ZmZ h1;have b2:=ZpX h2;have u0:=wi (Vc sS+ZaZ sD) (by omega) (by omega);have u1:=wi (Vc sS+ZaZ sD+sL) (by omega) (by omega);refine cE ?_;simp +contextual -implicitDefEqProofs (maxSteps:=10^7) only[go_sem,seval,↓gZ,Zgm,e1,e2,u0,u1]
def Zbo (s:Zq):Prop:=s.Stock.length≤1000000∧(∀ x∈s.Stock,x.Flaws.length≤1000000∧R64 x.W∧R64 x.H)∧s.Opn.length≤1000000∧s.Done.length≤1000000
theorem ZkK {x:Zb} (h:VPc x):R64 x.W∧R64 x.H:=by
 have:=h.1;unfold R64;omega
theorem Zdw {s:Zq} (h:ZS s):Zbo s:=
 ⟨by have:=h.1.1;omega,fun x hx=>⟨(ZcT h.1).2 x hx,ZkK (Qr h.1.2 x hx)⟩,by have:=h.2.1.1;omega,by have:=h.2.2.1.1;omega⟩
theorem Vs (sS:List Zb) (sO sD:List Zc) (sL sC:Int) (hs:Zbo (Zq.mk sS sO sD sL sC)):Ze Xs Ms U7 [(.d (.agg [.sl (sS.map Zb.enc),.sl (sO.map Zc.enc),.sl (sD.map Zc.enc),J sL,J sC]))] []=some ((.d (.bool (decide (ZS (Zq.mk sS sO sD sL sC))))),[]):=by
 obtain⟨h1,h2,h3,h4⟩:=hs;simp only at h1 h2 h3 h4;have e1:=YE sS (by omega) (fun x hx=>⟨by have:=(h2 x hx).1;omega,(h2 x hx).2⟩);have e2:=ZgI sO h3;have e3:=ZgI sD h4;have e4:=Zv sL 0 900000;have e5:=Zv sC 0 900000;refine cE ?_;by_cases v1:VSt sS
 ·rw[Ki v1] at e1;by_cases v2:ZaY sO
  ·rw[Ki v2] at e2;by_cases v3:ZaY sD
   ·rw[Ki v3] at e3;by_cases v4:0≤sL∧sL≤900000
    ·rw[Ki v4] at e4;by_cases v5:0≤sC∧sC≤900000
     ·rw[Ki v5] at e5;have e6:=Zru sS sO sD sL sC v1 v3 (by omega);simp +contextual -implicitDefEqProofs (maxSteps:=10^7) only[go_sem,seval,↓gZ,Yj,e1,e2,e3,e4,e5,e6];exact ZdW ⟨fun h=>⟨v1,v2,v3,v4.1,v4.2,v5.1,v5.2,h⟩,fun h=>h.2.2.2.2.2.2.2⟩
     ·rw[Kk v5] at e5;have hn:¬ZS (Zq.mk sS sO sD sL sC):=fun h=>v5 ⟨h.2.2.2.2.2.1,h.2.2.2.2.2.2.1⟩;simp +contextual -implicitDefEqProofs (maxSteps:=10^7) only[go_sem,seval,↓gZ,Yj,e1,e2,e3,e4,e5,hn]
    ·rw[Kk v4] at e4;have hn:¬ZS (Zq.mk sS sO sD sL sC):=fun h=>v4 ⟨h.2.2.2.1,h.2.2.2.2.1⟩;simp +contextual -implicitDefEqProofs (maxSteps:=10^7) only[go_sem,seval,↓gZ,Yj,e1,e2,e3,e4,hn]
   ·rw[Kk v3] at e3;have hn:¬ZS (Zq.mk sS sO sD sL sC):=fun h=>v3 h.2.2.1;simp +contextual -implicitDefEqProofs (maxSteps:=10^7) only[go_sem,seval,↓gZ,Yj,e1,e2,e3,hn]
  ·rw[Kk v2] at e2;have hn:¬ZS (Zq.mk sS sO sD sL sC):=fun h=>v2 h.2.1;simp +contextual -implicitDefEqProofs (maxSteps:=10^7) only[go_sem,seval,↓gZ,Yj,e1,e2,hn]
 ·rw[Kk v1] at e1;have hn:¬ZS (Zq.mk sS sO sD sL sC):=fun h=>v1 h.1;simp +contextual -implicitDefEqProofs (maxSteps:=10^7) only[go_sem,seval,↓gZ,Yj,e1,hn]
theorem Qk (sS:List Zb) (sO sD:List Zc) (sL sC:Int):Ze Xs Ms Y0 [(.d (.agg [.sl (sS.map Zb.enc),.sl (sO.map Zc.enc),.sl (sD.map Zc.enc),J sL,J sC]))] []=some ((.d (.bool (decide (ZS (Zq.mk sS sO sD sL sC))))),[]):=by
 have e1:=Wf sS;have e2:=Jr sO;have e3:=Jr sD;refine cE ?_;by_cases v1:VSt sS
 ·rw[Ki v1] at e1;by_cases v2:ZaY sO
  ·rw[Ki v2] at e2;by_cases v3:ZaY sD
   ·rw[Ki v3] at e3;by_cases v4:((sL<0∨900000<sL)∨sC<0)∨900000<sC
    ·have hn:¬ZS (Zq.mk sS sO sD sL sC):=fun h=>by
      obtain⟨_,_,_,h1,h2,h3,h4,_⟩:=h;simp only at h1 h2 h3 h4;omega
     simp +contextual -implicitDefEqProofs (maxSteps:=10^7) only[go_sem,seval,↓gZ,Y9,e1,e2,e3,v4,hn,← L5]
    ·have e4:=Zp7 sS v1;have e5:=ZpY sD v3;have b1:=ZmZ v1;have b2:=ZpX v3;have u0:=wi (Vc sS+ZaZ sD) (by omega) (by omega);have u1:=wi (Vc sS+ZaZ sD+sL) (by omega) (by omega);simp +contextual -implicitDefEqProofs (maxSteps:=10^7) only[go_sem,seval,↓gZ,Y9,e1,e2,e3,v4,e4,e5,u0,u1,← L5];exact ZdW ⟨fun h=>⟨v1,v2,v3,by simp only;omega,by simp only;omega,by simp only;omega,by simp only;omega,h⟩,fun h=>h.2.2.2.2.2.2.2⟩
   ·rw[Kk v3] at e3;have hn:¬ZS (Zq.mk sS sO sD sL sC):=fun h=>v3 h.2.2.1;simp +contextual -implicitDefEqProofs (maxSteps:=10^7) only[go_sem,seval,↓gZ,Y9,e1,e2,e3,hn]
  ·rw[Kk v2] at e2;have hn:¬ZS (Zq.mk sS sO sD sL sC):=fun h=>v2 h.2.1;simp +contextual -implicitDefEqProofs (maxSteps:=10^7) only[go_sem,seval,↓gZ,Y9,e1,e2,hn]
 ·rw[Kk v1] at e1;have hn:¬ZS (Zq.mk sS sO sD sL sC):=fun h=>v1 h.1;simp +contextual -implicitDefEqProofs (maxSteps:=10^7) only[go_sem,seval,↓gZ,Y9,e1,hn]
theorem ZhB (l:List Zc) (pW pH:Int) (pT:Bool) (pK:Int) (c:Int) (hl:l.length≤1000000) (hc:∀ x∈l,R64 (x.Count-c)):Ze Xs Ms Wr [(.d (.sl (l.map Zc.enc))),(.d (.agg [J pW,J pH,.bool pT,J pK])),(.d (J c))] [] =
  some (.tup [.own 0,(.d (.bool (Xq (Pane.mk pW pH pT pK) c false l)))],[.row 5 ((X4 l (Pane.mk pW pH pT pK) c).map Zc.enc) true false]):=by
 refine cE ?_;simp +contextual -implicitDefEqProofs (maxSteps:=10^7) only[go_sem,seval,↓gZ,ZeM];refine LO (α:=Nat×Bool) (fun s=>[(10,.d (J (s.1:Int))),(9,.d (.bool s.2))]) (fun s=>[(0,.row 5 ((X4 (l.take s.1) (Pane.mk pW pH pT pK) c).map Zc.enc) true false)]) (fun s=>s.1≤l.length∧Xq (Pane.mk pW pH pT pK) c s.2 (l.drop s.1)=Xq (Pane.mk pW pH pT pK) c false l) (fun s=>l.length-s.1) (0,false) ⟨by simp,by simp⟩ ?_;intro⟨i,b⟩ ⟨hi,hp⟩ ih;simp only at hi hp;by_cases aa:i<l.length
 ·obtain⟨x,hx⟩:=Zs aa;have hw:=Zj (k:=i) (by omega);have hm:=Zya (Pane.mk pW pH pT pK) c hx;have ad:(X4 (l.take i) (Pane.mk pW pH pT pK) c).length≤i:=Kz (Kl _ _) (by simp;omega);have hr:((X4 (l.take i) (Pane.mk pW pH pT pK) c).length+1)*40≤140737488355328∧(X4 (l.take i) (Pane.mk pW pH pT pK) c).length≤140737488355327:=by omega
  have ab:=hc x (Kc hx);rw[Zwt hx] at hp;obtain⟨⟨W,H,T,K⟩,C⟩:=x;simp only[ZhA] at hm hp ab;have u0:=wi (C-c) ab.1 ab.2;by_cases he:(⟨W,H,T,K⟩:Pane)=(Pane.mk pW pH pT pK)
  ·rw[Kh he] at hm hp;have ae:=he;simp only[Pane.mk.injEq] at he;by_cases h0:0<C-c
   ·have h1:0≤C-c:=by omega
    rw[Kh h0] at hm;rw[Ki h1] at hp;simp +contextual -implicitDefEqProofs (maxSteps:=10^7) only[go_sem,seval,↓gZ,hx,aa,hw,he,u0,h0,h1,hr];refine ih (i+1,true) _ ⟨by simp only;omega,hp⟩ (by simp only;omega) ?_;simp +contextual -implicitDefEqProofs (maxSteps:=10^7) only[go_sem,seval,↓gZ,hm,LX];try (simp[Zc.enc,he];done)
   ·rw[Ke h0] at hm;by_cases h1:0≤C-c
    ·rw[Ki h1] at hp;simp +contextual -implicitDefEqProofs (maxSteps:=10^7) only[go_sem,seval,↓gZ,hx,aa,hw,he,u0,h0,h1,hr];refine ih (i+1,true) _ ⟨by simp only;omega,hp⟩ (by simp only;omega) ?_;simp +contextual -implicitDefEqProofs (maxSteps:=10^7) only[go_sem,seval,↓gZ,hm,Option.toList_none,KY]
    ·rw[Kk h1] at hp;simp +contextual -implicitDefEqProofs (maxSteps:=10^7) only[go_sem,seval,↓gZ,hx,aa,hw,he,u0,h0,h1,hr];refine ih (i+1,false) _ ⟨by simp only;omega,hp⟩ (by simp only;omega) ?_;simp +contextual -implicitDefEqProofs (maxSteps:=10^7) only[go_sem,seval,↓gZ,hm,Option.toList_none,KY]
  ·rw[Ke he] at hm hp;simp only[Pane.mk.injEq] at he;by_cases h0:0<C
   ·rw[Kh h0] at hm;simp +contextual -implicitDefEqProofs (maxSteps:=10^7) only[go_sem,seval,↓gZ,hx,aa,hw,he,h0,hr];refine ih (i+1,b) _ ⟨by simp only;omega,hp⟩ (by simp only;omega) ?_;simp +contextual -implicitDefEqProofs (maxSteps:=10^7) only[go_sem,seval,↓gZ,hm,LX];try (simp[Zc.enc];done)
   ·rw[Ke h0] at hm;simp +contextual -implicitDefEqProofs (maxSteps:=10^7) only[go_sem,seval,↓gZ,hx,aa,hw,he,h0,hr];refine ih (i+1,b) _ ⟨by simp only;omega,hp⟩ (by simp only;omega) ?_;simp +contextual -implicitDefEqProofs (maxSteps:=10^7) only[go_sem,seval,↓gZ,hm,Option.toList_none,KY]
 ·have:i=l.length:=by omega
  subst this;rw[Zx9] at hp;simp +contextual -implicitDefEqProofs (maxSteps:=10^7) only[go_sem,seval,↓gZ,hp];simp
theorem ZBF (l:List Zc) (i:Nat) (W H:Int) (T:Bool) (K C:Int):(l.map Zc.enc).set i (.agg [J W,J H,.bool T,J K,J C])=(l.set i ⟨⟨W,H,T,K⟩,C⟩).map Zc.enc:=(LJ (f:=Zc.enc) (l:=l) (i:=i) (a:=⟨⟨W,H,T,K⟩,C⟩)).symm
theorem Zex (l:List Zc) (pW pH:Int) (pT:Bool) (pK:Int) (c:Int) (hl:l.length≤1000000) (hc:∀ x∈l,R64 (x.Count+c)):Ze Xs Ms Uv [(.d (.sl (l.map Zc.enc))),(.d (.agg [J pW,J pH,.bool pT,J pK])),(.d (J c))] [] =
  some (.own 0,[.row 5 ((YS (Pane.mk pW pH pT pK) c l).map Zc.enc) true false]):=by
 have ag:l.length*40≤140737488355328∧l.length≤140737488355328:=by omega
 have ah:(l.length+1)*40≤140737488355328∧l.length≤140737488355327:=by omega
 refine cE ?_;simp +contextual -implicitDefEqProofs (maxSteps:=10^7) only[go_sem,seval,↓gZ,Zgs,ag];refine LO (α:=Nat) (fun k=>[(8,.d (J (k:Int)))]) (fun _=>[]) (fun k=>k≤l.length∧(Pane.mk pW pH pT pK)∉(l.take k).map Zc.Pane) (fun k=>l.length-k) 0 ⟨by simp,by simp⟩ ?_;intro k ⟨hk,hp⟩ ih;by_cases aa:k<l.length
 ·obtain⟨x,hx⟩:=Zs aa;have hw:=Zj (k:=k) (by omega);have ab:=hc x (Kc hx);have ad:=Zbm hx;have ae:=ZuC (Pane.mk pW pH pT pK) c l k x hx;obtain⟨⟨W,H,T,K⟩,C⟩:=x;simp only at ab ad ae;have u0:=wi (C+c) ab.1 ab.2;by_cases he:(⟨W,H,T,K⟩:Pane)=(Pane.mk pW pH pT pK)
  ·rw[ae he hp];have af:=he;simp only[Pane.mk.injEq] at he;simp +contextual -implicitDefEqProofs (maxSteps:=10^7) only[go_sem,seval,↓gZ,hx,aa,hw,he,u0,ZBF];try (simp[he];done)
  ·have af:=he;simp only[Pane.mk.injEq] at he;simp +contextual -implicitDefEqProofs (maxSteps:=10^7) only[go_sem,seval,↓gZ,hx,aa,hw,he];refine ih (k+1) _ ⟨by omega,?_⟩ (by omega) ?_
   ·rw[ad,Kg];intro h;rcases h with h | h
    ·exact hp h
    ·exact af (KC.1 h).symm
   ·simp +contextual -implicitDefEqProofs (maxSteps:=10^7) only[go_sem,seval,↓gZ]
 ·have:k=l.length:=by omega
  subst this;rw[KN (Kt _)] at hp;rw[ZuD (Pane.mk pW pH pT pK) c l hp];simp +contextual -implicitDefEqProofs (maxSteps:=10^7) only[go_sem,seval,↓gZ,ah];try (simp[Zc.enc];done)
theorem Zrv (l:List Zb) (qL qW qH:Int) (qF:List Box) (hl:l.length≤100000) (hF:∀ x∈l,x.Flaws.length≤1000000) (hq:qF.length≤1000000):Ze Xs Ms ZaK [(.d (.sl (l.map Zb.enc))),(.d (.agg [J qL,J qW,J qH,.sl (qF.map Box.enc)]))] [] =
  some (.own 0,[.row 4 ((QC (Zb.mk qL qW qH qF) l).map Zb.enc) true false]):=by
 have eq:=Vr qL qW qH qF hq;refine cE ?_;simp +contextual -implicitDefEqProofs (maxSteps:=10^7) only[go_sem,seval,↓gZ,Zgz];refine LO (α:=Nat×Bool×List Zb) (fun s=>[(7,.d (J (s.1:Int))),(6,.d (.bool s.2.1))]) (fun s=>[(0,.row 4 (s.2.2.map Zb.enc) true false)]) (fun s=>s.1≤l.length∧s.2.2++(if s.2.1 then l.drop s.1 else QC (Zb.mk qL qW qH qF) (l.drop s.1))=QC (Zb.mk qL qW qH qF) l∧s.2.2.length≤s.1+s.2.1.toNat) (fun s=>l.length-s.1) (0,false,[]) ⟨by simp,by simp,by simp⟩ ?_;intro⟨i,b,o⟩ ⟨hi,hp,ho⟩ ih;simp only at hi hp ho;have hb:=Bool.toNat_le b;by_cases aa:i<l.length
 ·obtain⟨x,hx⟩:=Zs aa;have hw:=Zj (k:=i) (by omega);have hr:(o.length+1)*48≤140737488355328∧o.length≤140737488355327:=by omega
  have ab:∀ n:Nat,n=o.length+1→(n+1)*48≤140737488355328∧n≤140737488355327:=fun n hn=>by omega
  have ab:=ab _ rfl;have ad:o.length≤140737488355326:=by omega
  have e:=Vr x.Label x.W x.H x.Flaws (hF x (Kc hx));rw[Zp8 hx] at hp;have hd:l.drop i=x :: l.drop (i+1):=by
   obtain⟨h1,h2⟩:=Kb.1 hx;rw[Kw h1,h2]
  obtain⟨L,W,H,F⟩:=x;simp only at e hp;cases b with
  | true=>
   simp only[Bool.toNat_true] at ho;rw[Kh rfl] at hp;simp +contextual -implicitDefEqProofs (maxSteps:=10^7) only[go_sem,seval,↓gZ,hx,aa,hw,e,hr];refine ih (i+1,true,o++[⟨L,W,H,F⟩]) _ ⟨by simp only;omega,?_,by simp;omega⟩ (by simp only;omega) ?_
   ·rw[← hp,hd];simp
   ·simp +contextual -implicitDefEqProofs (maxSteps:=10^7) only[go_sem,seval,↓gZ];try (simp[Zb.enc];done)
  | false=>
   simp only[Bool.toNat_false] at ho;rw[Ke (by simp)] at hp;by_cases hc:qL<L
   ·rw[Kh hc] at hp;simp +contextual -implicitDefEqProofs (maxSteps:=10^7) only[go_sem,seval,↓gZ,hx,aa,hw,e,eq,hc,hr,ab,ad];refine ih (i+1,true,o++[(Zb.mk qL qW qH qF),⟨L,W,H,F⟩]) _ ⟨by simp only;omega,?_,by simp;omega⟩ (by simp only;omega) ?_
    ·rw[← hp,hd];simp
    ·simp +contextual -implicitDefEqProofs (maxSteps:=10^7) only[go_sem,seval,↓gZ];try (simp[Zb.enc];done)
   ·rw[Ke hc] at hp;simp +contextual -implicitDefEqProofs (maxSteps:=10^7) only[go_sem,seval,↓gZ,hx,aa,hw,e,hc,hr];refine ih (i+1,false,o++[⟨L,W,H,F⟩]) _ ⟨by simp only;omega,?_,by simp;omega⟩ (by simp only;omega) ?_
    ·rw[← hp];simp
    ·simp +contextual -implicitDefEqProofs (maxSteps:=10^7) only[go_sem,seval,↓gZ];try (simp[Zb.enc];done)
 ·have:i=l.length:=by omega
  subst this;have hr:(o.length+1)*48≤140737488355328∧o.length≤140737488355327:=by omega
  cases b with
  | true=>
   simp at hp;simp +contextual -implicitDefEqProofs (maxSteps:=10^7) only[go_sem,seval,↓gZ];rw[hp]
  | false=>
   simp[QC] at hp;simp +contextual -implicitDefEqProofs (maxSteps:=10^7) only[go_sem,seval,↓gZ,eq,hr];rw[← hp];try (simp[Zb.enc];done)
def WS (p:Zb) (l:List Zb):Prop:=(VSt l∧VPc p)∧VSt (QC p l)
instance (p:Zb) (l:List Zb):Decidable (WS p l):=by unfold WS;infer_instance
theorem ZiZ (l:List Zb) (qL qW qH:Int) (qF:List Box) (hl:l.length≤100000) (hS:∀ x∈l,x.Flaws.length≤1000000∧R64 x.W∧R64 x.H) (hq:qF.length≤1000000∧R64 qW∧R64 qH):Ze Xs Ms Uu [(.d (.sl (l.map Zb.enc))),(.d (.agg [J qL,J qW,J qH,.sl (qF.map Box.enc)]))] [] =
  some (.tup [.own 0,(.d (.bool (decide (WS (Zb.mk qL qW qH qF) l))))],[.row 4 ((if WS (Zb.mk qL qW qH qF) l then QC (Zb.mk qL qW qH qF) l else []).map Zb.enc) true false]):=by
 have e1:=YE l (by omega) (fun x hx=>⟨by have:=(hS x hx).1;omega,(hS x hx).2⟩);have e2:=ZgJ qL qW qH qF (by omega) hq.2.1 hq.2.2;have e3:=Zrv l qL qW qH qF hl (fun x hx=>(hS x hx).1) hq.1;have e4:=YE (QC (Zb.mk qL qW qH qF) l) (by rw[ZlW];omega) (fun x hx=>by
  rcases Ztv _ _ _ hx with rfl | hx
  ·exact⟨by simp only;omega,hq.2⟩
  ·exact⟨by have:=(hS x hx).1;omega,(hS x hx).2⟩)
 refine cE ?_;by_cases v1:VSt l
 ·rw[Ki v1] at e1;by_cases v2:VPc (Zb.mk qL qW qH qF)
  ·rw[Ki v2] at e2;by_cases v3:VSt (QC (Zb.mk qL qW qH qF) l)
   ·rw[Ki v3] at e4;have h:WS (Zb.mk qL qW qH qF) l:=⟨⟨v1,v2⟩,v3⟩
    rw[Ki h,Kh h];simp +contextual -implicitDefEqProofs (maxSteps:=10^7) only[go_sem,seval,↓gZ,UE,e1,e2,e3,e4]
   ·rw[Kk v3] at e4;have h:¬WS (Zb.mk qL qW qH qF) l:=fun h=>v3 h.2;rw[Kk h,Ke h];simp +contextual -implicitDefEqProofs (maxSteps:=10^7) only[go_sem,seval,↓gZ,UE,e1,e2,e3,e4]
  ·rw[Kk v2] at e2;have h:¬WS (Zb.mk qL qW qH qF) l:=fun h=>v2 h.1.2;rw[Kk h,Ke h];simp +contextual -implicitDefEqProofs (maxSteps:=10^7) only[go_sem,seval,↓gZ,UE,e1,e2]
 ·rw[Kk v1] at e1;have h:¬WS (Zb.mk qL qW qH qF) l:=fun h=>v1 h.1.1;rw[Kk h,Ke h];simp +contextual -implicitDefEqProofs (maxSteps:=10^7) only[go_sem,seval,↓gZ,UE,e1]
theorem ZuE (l:List Zb) (hl:l.length≤1000000) (hF:∀ x∈l,x.Flaws.length≤1000000):Ze Xs Ms VO [(.d (.sl (l.map Zb.enc))),(.d (J ((-1))))] []=some (.own 0,[.row 4 (l.map Zb.enc) true false]):=by
 refine cE ?_;simp +contextual -implicitDefEqProofs (maxSteps:=10^7) only[go_sem,seval,↓gZ,Zec];refine LO (α:=Nat) (fun i=>[(6,.d (J (i:Int)))]) (fun i=>[(0,.row 4 ((l.take i).map Zb.enc) true false)]) (fun i=>i≤l.length) (fun i=>l.length-i) 0 (by omega) ?_;intro i hi ih;by_cases aa:i<l.length
 ·obtain⟨x,hx⟩:=Zs aa;have hw:=Zj (k:=i) (by omega);have ab:¬(i:Int)=-1:=by omega
  have hm:l.take (i+1)=l.take i++[x]:=by rw[KL,hx];simp
  have ad:(l.take i).length≤i:=by simp;omega
  have hr:((l.take i).length+1)*48≤140737488355328∧(l.take i).length≤140737488355327:=by omega
  have e:=Vr x.Label x.W x.H x.Flaws (hF x (Kc hx));obtain⟨L,W,H,F⟩:=x;simp only at e;simp +contextual -implicitDefEqProofs (maxSteps:=10^7) only[go_sem,seval,↓gZ,hx,aa,hw,ab,e,hr];refine ih (i+1) _ (by omega) (by omega) ?_;simp +contextual -implicitDefEqProofs (maxSteps:=10^7) only[go_sem,seval,↓gZ,hm]
  first | rfl | (simp;done) | (simp;rfl)
 ·have:i=l.length:=by omega
  subst this;simp +contextual -implicitDefEqProofs (maxSteps:=10^7) only[go_sem,seval,↓gZ];simp
theorem Wn (sS:List Zb) (sO sD:List Zc) (sL sC:Int) (hs:Zbo (Zq.mk sS sO sD sL sC)):Ze Xs Ms Zav [(.d (.agg [.sl (sS.map Zb.enc),.sl (sO.map Zc.enc),.sl (sD.map Zc.enc),J sL,J sC]))] []=some (.agg [.own 0,.own 1,.own 2,(.d (J sL)),(.d (J sC))],[.row 4 (sS.map Zb.enc) true false,.row 5 (sO.map Zc.enc) true false,.row 5 (sD.map Zc.enc) true false]):=by
 obtain⟨h1,h2,h3,h4⟩:=hs;simp only at h1 h2 h3 h4;have e1:=ZuE sS h1 (fun x hx=>(h2 x hx).1);have r1:sO.length*40≤140737488355328∧sO.length≤140737488355328:=by omega
 have r2:sD.length*40≤140737488355328∧sD.length≤140737488355328:=by omega
 refine cE ?_;simp +contextual -implicitDefEqProofs (maxSteps:=10^7) only[go_sem,seval,↓gZ,Zgj,Zm8,e1,r1,r2]
theorem Zwv (sS:List Zb) (sO sD:List Zc) (sL sC:Int) (a:Nat) (qL qW qH:Int) (qF:List Box) (hx:sS[a]?=some (Zb.mk qL qW qH qF)) (hl:sO.length≤1000000) (hS:sS.length≤1000000):Ze Xs Ms ZdE [(.d (.agg [.sl (sS.map Zb.enc),.sl (sO.map Zc.enc),.sl (sD.map Zc.enc),J sL,J sC])),(.d (J a))] []=some (.agg [(.d (J qW)),(.d (J qH)),.own 0],[.row 4 ((sO.map Zc.Pane).map Pane.enc) true false]):=by
 have aa:=(Kb.1 hx).1;refine cE ?_;simp +contextual -implicitDefEqProofs (maxSteps:=10^7) only[go_sem,seval,↓gZ,ZjK,hx,aa];refine LO (α:=Nat) (fun i=>[(6,.d (J (i:Int)))]) (fun i=>[(3,.row 4 (((sO.take i).map Zc.Pane).map Pane.enc) true false)]) (fun i=>i≤sO.length) (fun i=>sO.length-i) 0 (by omega) ?_;intro i hi ih;by_cases aa:i<sO.length
 ·obtain⟨x,hx⟩:=Zs aa;have hw:=Zj (k:=i) (by omega);have hm:=Zbm hx;have ab:(sO.take i).length≤i:=by simp;omega
  have hr:((sO.take i).length+1)*32≤140737488355328∧(sO.take i).length≤140737488355327:=by omega
  obtain⟨⟨W,H,T,K⟩,C⟩:=x;simp only at hm;simp +contextual -implicitDefEqProofs (maxSteps:=10^7) only[go_sem,seval,↓gZ,hx,aa,hw,hr];refine ih (i+1) _ (by omega) (by omega) ?_;simp +contextual -implicitDefEqProofs (maxSteps:=10^7) only[go_sem,seval,↓gZ,hm]
  first | rfl | (simp;done) | (simp;rfl)
 ·have:i=sO.length:=by omega
  subst this;simp +contextual -implicitDefEqProofs (maxSteps:=10^7) only[go_sem,seval,↓gZ];simp
def SmS (s:Zq):Prop:=Zbo s∧s.Stock.length≤100000∧-1000000000≤s.Lost∧s.Lost≤1000000000∧-1000000000≤s.Came∧s.Came≤1000000000
theorem ZlX {s:Zq} (h:ZS s):SmS s:=⟨Zdw h,by have:=h.1.1;omega,by have:=h.2.2.2.1;omega,by have:=h.2.2.2.2.1;omega,by have:=h.2.2.2.2.2.1;omega,by have:=h.2.2.2.2.2.2.1;omega⟩
def I5 (n:Int):Prop:=-100000≤n∧n≤100000
theorem ZBG {a b:Int} (ha:I5 a) (hb:I5 b) : -10000000000≤a*b∧a*b≤10000000000:=by
 unfold I5 at ha hb;have h1:a.natAbs≤100000:=by omega
 have h2:b.natAbs≤100000:=by omega
 have h3:(a*b).natAbs≤100000*100000:=by rw[Int.natAbs_mul];exact Nat.mul_le_mul h1 h2
 omega
theorem ZBH {a:Int} (h:I5 a):R64 a:=by unfold I5 at h;unfold R64;omega
theorem ZjD (sS:List Zb) (sO sD:List Zc) (sL sC:Int) (eK eL eX eY eW eH aa ab:Int) (ad:Bool) (ae eC eo ea ep:Int) (et:Bool) (ek:List Zf) (hs:SmS (Zq.mk sS sO sD sL sC)) (hk:eK=0) (hW:I5 eW) (hH:I5 eH):Ze Xs Ms XT [(.d (.agg [.sl (sS.map Zb.enc),.sl (sO.map Zc.enc),.sl (sD.map Zc.enc),J sL,J sC])),(.d (.agg [J eK,J eL,J eX,J eY,J eW,J eH,J aa,J ab,.bool ad,J ae,J eC,J eo,J ea,J ep,.bool et,.sl (ek.map Zf.enc)]))] [] =
  some (.tup [.agg [.own 0,.d (.sl (sO.map Zc.enc)),.d (.sl (sD.map Zc.enc)),(.d (J sL)),(.d (J (sC+eW*eH)))],(.d (.bool (decide ((WS ⟨eL,eW,eH,[]⟩ sS∧eX=0)∧eY=0))))],[.row 4 ((if WS ⟨eL,eW,eH,[]⟩ sS then QC ⟨eL,eW,eH,[]⟩ sS else []).map Zb.enc) true false]):=by
 obtain⟨⟨h1,h2,h3,h4⟩,h5,h6,h7,h8,h9⟩:=hs;simp only at h1 h2 h3 h4 h5 h6 h7 h8 h9;subst hk;have hm:=ZBG hW hH;have e1:=Yq sS eL (by omega);have e2:=ZiZ sS eL eW eH [] h5 h2 ⟨by simp,ZBH hW,ZBH hH⟩;have u1:=wi (eW*eH) (by omega) (by omega);have u2:=wi (sC+eW*eH) (by omega) (by omega);simp only[Kx] at e2;generalize (if WS ⟨eL,eW,eH,[]⟩ sS then QC ⟨eL,eW,eH,[]⟩ sS else [])=R at e2 ⊢;by_cases v1:WS ⟨eL,eW,eH,[]⟩ sS
 ·rw[Ki v1] at e2;refine cE ?_;by_cases v2:eX=0
  ·simp +contextual -implicitDefEqProofs (maxSteps:=10^7) only[go_sem,seval,↓gZ,XX,e1,e2,u1,u2,v2]
   all_goals simp[v1]
  ·simp +contextual -implicitDefEqProofs (maxSteps:=10^7) only[go_sem,seval,↓gZ,XX,e1,e2,u1,u2,v2]
   all_goals simp
 ·rw[Kk v1] at e2;refine cE ?_;simp +contextual -implicitDefEqProofs (maxSteps:=10^7) only[go_sem,seval,↓gZ,XX,e1,e2,u1,u2,v1]
theorem Znl (sS:List Zb) (sO sD:List Zc) (sL sC:Int) (eK eL eX eY eW eH aa ab:Int) (ad:Bool) (ae eC eo ea ep:Int) (et:Bool) (ek:List Zf) (hs:SmS (Zq.mk sS sO sD sL sC)) (hk:¬eK=0) (hf:Qy 0 sS eL<0):Ze Xs Ms XT [(.d (.agg [.sl (sS.map Zb.enc),.sl (sO.map Zc.enc),.sl (sD.map Zc.enc),J sL,J sC])),(.d (.agg [J eK,J eL,J eX,J eY,J eW,J eH,J aa,J ab,.bool ad,J ae,J eC,J eo,J ea,J ep,.bool et,.sl (ek.map Zf.enc)]))] [] =
  some (.tup [.agg [.own 0,.own 1,.own 2,(.d (J 0)),(.d (J 0))],(.d (.bool false))],[.row 4 [] true false,.row 5 [] true false,.row 5 [] true false]):=by
 have e1:=Yq sS eL (by have:=hs.2.1;simp only at this;omega);refine cE ?_;simp +contextual -implicitDefEqProofs (maxSteps:=10^7) only[go_sem,seval,↓gZ,XX,e1,hk,hf]
theorem ZjE (sS:List Zb) (sO sD:List Zc) (sL sC:Int) (eK eL eX eY eW eH aa ab:Int) (ad:Bool) (ae eC eo ea ep:Int) (et:Bool) (ek:List Zf) (hs:SmS (Zq.mk sS sO sD sL sC)) (hk:eK=5) (a:Nat) (hf:Qy 0 sS eL=(a:Int)) (qL qW qH:Int) (qF:List Box) (hx:sS[a]?=some (Zb.mk qL qW qH qF)) (hW:I5 qW) (hH:I5 qH):Ze Xs Ms XT [(.d (.agg [.sl (sS.map Zb.enc),.sl (sO.map Zc.enc),.sl (sD.map Zc.enc),J sL,J sC])),(.d (.agg [J eK,J eL,J eX,J eY,J eW,J eH,J aa,J ab,.bool ad,J ae,J eC,J eo,J ea,J ep,.bool et,.sl (ek.map Zf.enc)]))] [] =
  some (.tup [.agg [.own 0,.d (.sl (sO.map Zc.enc)),.d (.sl (sD.map Zc.enc)),(.d (J (sL+qW*qH))),(.d (J sC))],(.d (.bool true))],[.row 4 ((sS.eraseIdx a).map Zb.enc) true false]):=by
 obtain⟨⟨h1,h2,h3,h4⟩,h5,h6,h7,h8,h9⟩:=hs;simp only at h1 h2 h3 h4 h5 h6 h7 h8 h9;subst hk;have hm:=ZBG hW hH;have e1:=Yq sS eL (by omega);rw[hf] at e1;have af:=(Kb.1 hx).1;have h0:¬(a:Int)<0:=by omega
 have e2:=Vr qL qW qH qF (h2 _ (Kc hx)).1;have e3:=Zga sS a h1 (fun x hx=>(h2 x hx).1);have u1:=wi (qW*qH) (by omega) (by omega);have u2:=wi (sL+qW*qH) (by omega) (by omega);refine cE ?_;simp +contextual -implicitDefEqProofs (maxSteps:=10^7) only[go_sem,seval,↓gZ,XX,e1,e2,e3,h0,af,hx,u1,u2]
theorem ZkL (sS:List Zb) (sO sD:List Zc) (sL sC:Int) (eK eL eX eY eW eH ab ad:Int) (ae:Bool) (af eC eo ea ep:Int) (et:Bool) (ek:List Zf) (hv:ZS (Zq.mk sS sO sD sL sC)) (hk:eK=1) (a:Nat) (hf:Qy 0 sS eL=(a:Int)) (qL qW qH:Int) (qF:List Box) (hx:sS[a]?=some (Zb.mk qL qW qH qF)):Ze Xs Ms XT [(.d (.agg [.sl (sS.map Zb.enc),.sl (sO.map Zc.enc),.sl (sD.map Zc.enc),J sL,J sC])),(.d (.agg [J eK,J eL,J eX,J eY,J eW,J eH,J ab,J ad,.bool ae,J af,J eC,J eo,J ea,J ep,.bool et,.sl (ek.map Zf.enc)]))] [] =
  some (.tup [.agg [.own 0,.d (.sl (sO.map Zc.enc)),.d (.sl (sD.map Zc.enc)),(.d (J sL)),(.d (J sC))],(.d (.bool (decide (WS ⟨qL,qW,qH,qF++[⟨eX,eY,eW,eH⟩]⟩ (sS.eraseIdx a)))))],[.row 4 ((if WS ⟨qL,qW,qH,qF++[⟨eX,eY,eW,eH⟩]⟩ (sS.eraseIdx a) then QC ⟨qL,qW,qH,qF++[⟨eX,eY,eW,eH⟩]⟩ (sS.eraseIdx a) else []).map Zb.enc) true false]):=by
 obtain⟨⟨h1,h2,h3,h4⟩,h5,h6,h7,h8,h9⟩:=ZlX hv;simp only at h1 h2 h3 h4 h5 h6 h7 h8 h9;subst hk;have e1:=Yq sS eL (by omega);rw[hf] at e1;have ag:=(Kb.1 hx).1;have h0:¬(a:Int)<0:=by omega
 have aa:=h2 _ (Kc hx);simp only at aa;have ai:=ZlT sS a;have e2:=Vr qL qW qH qF aa.1;have e3:=Zga sS a h1 (fun x hx=>(h2 x hx).1);have hr:(qF.length+1)*32≤140737488355328∧qF.length≤140737488355327:=by omega
 have ah:=(Qr hv.1.2 _ (Kc hx)).1.2.2.2.2.2.2;simp only at ah;have e4:=ZiZ (sS.eraseIdx a) qL qW qH (qF++[⟨eX,eY,eW,eH⟩]) (by omega) (fun x hx=>h2 x (LK hx)) ⟨by simp;omega,aa.2⟩;rw[K9] at e4;simp only[Kj,Kx,Box.enc] at e4;generalize (if WS ⟨qL,qW,qH,qF++[⟨eX,eY,eW,eH⟩]⟩ (sS.eraseIdx a) then QC ⟨qL,qW,qH,qF++[⟨eX,eY,eW,eH⟩]⟩ (sS.eraseIdx a) else [])=R at e4 ⊢;generalize decide (WS ⟨qL,qW,qH,qF++[⟨eX,eY,eW,eH⟩]⟩ (sS.eraseIdx a))=V at e4 ⊢;refine cE ?_;simp +contextual -implicitDefEqProofs (maxSteps:=10^7) only[go_sem,seval,↓gZ,XX,e1,e2,e3,e4,h0,ag,hx,hr]
def WO (l:Zc):Prop:=VP l.Pane∧1≤l.Count∧l.Count≤24
instance (l:Zc):Decidable (WO l):=by unfold WO;infer_instance
theorem Znm (sS:List Zb) (sO sD:List Zc) (sL sC:Int) (eK eL eX eY eW eH aa ab:Int) (ad:Bool) (ae eC eo ea ep:Int) (et:Bool) (ek:List Zf) (hl:¬WO ⟨⟨aa,ab,ad,ae⟩,eC⟩):Ze Xs Ms Y4 [(.d (.agg [.sl (sS.map Zb.enc),.sl (sO.map Zc.enc),.sl (sD.map Zc.enc),J sL,J sC])),(.d (.agg [J eK,J eL,J eX,J eY,J eW,J eH,J aa,J ab,.bool ad,J ae,J eC,J eo,J ea,J ep,.bool et,.sl (ek.map Zf.enc)]))] [] =
  some (.tup [.agg [.own 0,.own 1,.own 2,(.d (J 0)),(.d (J 0))],(.d (.bool false))],[.row 4 [] true false,.row 5 [] true false,.row 5 [] true false]):=by
 have e1:=Vo aa ab ad ae;have e2:=Zv eC 1 24;refine cE ?_;by_cases v1:VP ⟨aa,ab,ad,ae⟩
 ·have v2:¬(1≤eC∧eC≤24):=fun h=>hl ⟨v1,h⟩;rw[Ki v1] at e1;rw[Kk v2] at e2;simp +contextual -implicitDefEqProofs (maxSteps:=10^7) only[go_sem,seval,↓gZ,Wv,e1,e2]
 ·rw[Kk v1] at e1;simp +contextual -implicitDefEqProofs (maxSteps:=10^7) only[go_sem,seval,↓gZ,Wv,e1]
theorem ZkM (sS:List Zb) (sO sD:List Zc) (sL sC:Int) (eK eL eX eY eW eH aa ab:Int) (ad:Bool) (ae eC eo ea ep:Int) (et:Bool) (ek:List Zf) (hv:ZS (Zq.mk sS sO sD sL sC)) (hl:WO ⟨⟨aa,ab,ad,ae⟩,eC⟩) (hk:eK=2):Ze Xs Ms Y4 [(.d (.agg [.sl (sS.map Zb.enc),.sl (sO.map Zc.enc),.sl (sD.map Zc.enc),J sL,J sC])),(.d (.agg [J eK,J eL,J eX,J eY,J eW,J eH,J aa,J ab,.bool ad,J ae,J eC,J eo,J ea,J ep,.bool et,.sl (ek.map Zf.enc)]))] [] =
  some (.tup [.agg [.d (.sl (sS.map Zb.enc)),.own 0,.d (.sl (sD.map Zc.enc)),(.d (J sL)),(.d (J sC))],(.d (.bool true))],[.row 5 ((YS ⟨aa,ab,ad,ae⟩ eC sO).map Zc.enc) true false]):=by
 have e1:=Vo aa ab ad ae;have e2:=Zv eC 1 24;rw[Ki hl.1] at e1;rw[Ki hl.2] at e2;subst hk;have e3:=Zex sO aa ab ad ae eC (by have:=hv.2.1.1;simp only at this;omega) (fun x hx=>by have:=(QO hv.2.1 x hx).2;have:=hl.2;simp only at this;unfold R64;omega);refine cE ?_;simp +contextual -implicitDefEqProofs (maxSteps:=10^7) only[go_sem,seval,↓gZ,Wv,e1,e2,e3]
theorem ZkN (sS:List Zb) (sO sD:List Zc) (sL sC:Int) (eK eL eX eY eW eH aa ab:Int) (ad:Bool) (ae eC eo ea ep:Int) (et:Bool) (ek:List Zf) (hv:ZS (Zq.mk sS sO sD sL sC)) (hl:WO ⟨⟨aa,ab,ad,ae⟩,eC⟩) (hk:¬eK=2):Ze Xs Ms Y4 [(.d (.agg [.sl (sS.map Zb.enc),.sl (sO.map Zc.enc),.sl (sD.map Zc.enc),J sL,J sC])),(.d (.agg [J eK,J eL,J eX,J eY,J eW,J eH,J aa,J ab,.bool ad,J ae,J eC,J eo,J ea,J ep,.bool et,.sl (ek.map Zf.enc)]))] [] =
  some (.tup [.agg [.d (.sl (sS.map Zb.enc)),.own 0,.own 1,(.d (J (sL+eC*aa*ab))),(.d (J sC))],(.d (.bool (Xq ⟨aa,ab,ad,ae⟩ eC false sD)))],[.row 5 ((YS ⟨aa,ab,ad,ae⟩ eC sO).map Zc.enc) true false,.row 5 ((X4 sD ⟨aa,ab,ad,ae⟩ eC).map Zc.enc) true false]):=by
 have e1:=Vo aa ab ad ae;have e2:=Zv eC 1 24;rw[Ki hl.1] at e1;rw[Ki hl.2] at e2;have af:=Zfp hl;have h6:=hv.2.2.2;simp only at af h6;have e3:=Zex sO aa ab ad ae eC (by have:=hv.2.1.1;simp only at this;omega) (fun x hx=>by have:=(QO hv.2.1 x hx).2;have:=hl.2;simp only at this;unfold R64;omega);have e4:=ZhB sD aa ab ad ae eC (by have:=hv.2.2.1.1;simp only at this;omega) (fun x hx=>by have:=(QO hv.2.2.1 x hx).2;have:=hl.2;simp only at this;unfold R64;omega);have u0:=wi (eC*aa) (by omega) (by omega);have u1:=wi (eC*aa*ab) (by omega) (by omega);have u2:=wi (sL+eC*aa*ab) (by omega) (by omega)
 refine cE ?_;simp +contextual -implicitDefEqProofs (maxSteps:=10^7) only[go_sem,seval,↓gZ,Wv,e1,e2,e3,e4,hk,u0,u1,u2]
theorem Zdx {ps:List Pane}:∀ {b:BT} {x y w h:Int},X8 ps b w h=true→∀ c∈plc b x y w h,∃ n:Nat,c.Pane=(n:Int)∧n<ps.length
 | .waste,x,y,w,h,hf,c,hc=>by simp[plc] at hc
 | .pane i t,x,y,w,h,hf,c,hc=>by
  simp only[plc,KC] at hc;subst hc;simp only[X8,Zaa,Kf,Ko] at hf;refine⟨i.toNat,by simp only;omega,?_⟩;rcases KZ i.toNat ps.length with h1 | h1
  ·exact h1
  ·rw[KW h1] at hf;exact absurd hf.2 (by simp)
 | .cut d a l r,x,y,w,h,hf,c,hc=>by
  cases d
  ·simp only[X8,Kf,Ka,Kq] at hf;simp only[plc,Ka,Kq,Kg] at hc;rcases hc with hc | hc
   ·exact Zdx hf.1.2 c hc
   ·exact Zdx hf.2 c hc
  ·simp only[X8,Kf,Km] at hf;simp only[plc,Km,Kg] at hc;rcases hc with hc | hc
   ·exact Zdx hf.1.2 c hc
   ·exact Zdx hf.2 c hc
def Za2:List Int→List L.Place→List Int
 | u,[]=>u
 | u,x :: l=>Za2 (u.set x.Pane.toNat (u[x.Pane.toNat]?.getD 0+1)) l
theorem Zqb {u:List Int} {l:List L.Place} {k:Nat} {x:L.Place} (hx:l[k]?=some x):Za2 u (l.drop k)=Za2 (u.set x.Pane.toNat (u[x.Pane.toNat]?.getD 0+1)) (l.drop (k+1)):=by
 obtain⟨h1,h2⟩:=Kb.1 hx;rw[Kw h1,h2,Za2]
theorem Ztw {u:List Int} {l:List L.Place}:Za2 u (l.drop l.length)=u:=by simp[Za2]
theorem Ztx:∀ (l:List L.Place) (u:List Int),(Za2 u l).length=u.length
 | [],u=>rfl
 | x :: l,u=>by rw[Za2,Ztx l];simp
theorem Zty:∀ (l:List L.Place) (u:List Int) (m:Int),(∀ v∈u,0≤v∧v≤m)→∀ v∈Za2 u l,0≤v∧v≤m+l.length
 | [],u,m,h,v,hv=>by have:=h v hv;simp;omega
 | x :: l,u,m,h,v,hv=>by
  have:=Zty l _ (m+1) (fun w hw=>by
   rcases Lh hw with h1 | rfl
   ·have:=h w h1;omega
   ·cases hg:u[x.Pane.toNat]? with
    | none=>
     simp;have h0:∀ z:Int,0≤z→1≤z+1:=by omega
     by_cases hu:u=[]
     ·subst hu;simp at hw
     ·obtain⟨z,hz⟩:=List.exists_mem_of_ne_nil u hu;have:=h z hz;omega
    | some z=>have:=h z (Kc hg);simp;omega) v hv
  simp only[Kp];omega
theorem Zok (u:List Int) (i:Nat) (v:Int):(u.map YA).set i (J v)=(u.set i v).map YA:=(LJ (f:=YA) (l:=u) (i:=i) (a:=v)).symm
theorem rep_int (n:Nat):List.replicate n (D.int .i64 0)=(List.replicate n (0:Int)).map YA:=by simp[YA]
def Zd8 (k:ZI) (p:Zf):List Int:=Za2 (List.replicate k.Panes.length 0) ((QI k p).filterMap XD)
theorem Zm0 {k:ZI} {p:Zf} (hv:VK k p=true):(Zd8 k p).length=k.Panes.length∧∀ v∈Zd8 k p,0≤v∧v≤255:=by
 obtain⟨b,hb,ae,af,ab,ad,aa⟩:=Xx hv;have hl:((QI k p).filterMap XD).length≤255:=by
  have:=Kl XD (QI k p);rw[aa,Zab] at this;rw[aa];omega
 refine⟨by unfold Zd8;rw[Ztx];simp,fun v h=>?_⟩;have:=Zty _ _ 0 (fun w hw=>by rw[LL hw];omega) v h;omega
theorem Zww (kW kH:Int) (kP:List Pane) (p:Zf) (hv:VK (ZI.mk kW kH kP) p=true):Ze Xs Ms ZdF [(.d (.agg [J kW,J kH,.sl (kP.map Pane.enc)])),.d p.enc] []=some (.own 0,[.row 1 ((Zd8 (ZI.mk kW kH kP) p).map YA) true false]):=by
 obtain⟨b,hb,af,ad,aj,aa,ab⟩:=Xx hv;simp only at aa ab;have e:=ZiW kW kH kP p b af (by simp only[VW,inB] at ad ⊢;omega) aa (by omega);have ag:=Zdx (x:=0) (y:=0) aa;have an:kP.length≤24:=ad.2.2.2.2.1;have ak:(plc b 0 0 kW kH).length≤255:=by
  have:=Kl XD (QI (ZI.mk kW kH kP) p);rw[ab,Zab,Wk] at this;omega
 unfold Zd8;rw[ab,Wk];generalize plc b 0 0 kW kH=L at e ag ak ⊢;have al:(kP.length:Int)*((8:Nat):Int)≤((140737488355328:Nat):Int)∧kP.length≤140737488355328:=by omega
 have ae:(kP.length:Int)*8≤140737488355328∧(kP.length:Int)≤140737488355328:=by omega
 clear hv hb af ad ab aa;obtain⟨o,a,q,t,ks⟩:=p;rw[Zf.enc_mk] at e ⊢;refine cE ?_;simp +contextual -implicitDefEqProofs (maxSteps:=10^7) only[go_sem,seval,↓gZ,ZjL,e,rep_int,al,ae];refine LO (α:=Nat×List Int) (fun s=>[(7,.d (J (s.1:Int)))]) (fun s=>[(1,.row 1 (s.2.map YA) true false)]) (fun s=>s.1≤L.length∧s.2.length=kP.length∧(∀ v∈s.2,0≤v∧v≤s.1)∧Za2 s.2 (L.drop s.1)=Za2 (List.replicate kP.length 0) L) (fun s=>L.length-s.1) (0,List.replicate kP.length 0) ⟨by simp,by simp,fun w hw=>by rw[LL hw];simp,by simp⟩ ?_;intro⟨i,u⟩ ⟨hi,hul,huv,hp⟩ ih;simp only at hi hul huv hp;by_cases ah:i<L.length
 ·obtain⟨x,hx⟩:=Zs ah;have hw:=Zj (k:=i) (by omega);obtain⟨n,hn,am⟩:=ag x (Kc hx);rw[Zqb hx,hn] at hp;obtain⟨q',t',⟨X,Y,W,H⟩⟩:=x;simp only at hn;subst hn;have ai:n<u.length:=by omega
  obtain⟨z,hz⟩:=Zs ai;have ao:=huv z (Kc hz);have u1:=wi (z+1) (by omega) (by omega);rw[KB,hz] at hp;simp +contextual -implicitDefEqProofs (maxSteps:=10^7) only[go_sem,seval,↓gZ,hx,ah,hw,am,ai,hz,u1,Zok,hul];refine ih (i+1,u.set n (z+1)) _ ⟨by simp only;omega,by simpa using hul,fun v hv=>?_,hp⟩ (by simp only;omega) ?_
  ·simp only;rcases Lh hv with h1 | rfl
   ·have:=huv v h1;omega
   ·omega
  ·simp +contextual -implicitDefEqProofs (maxSteps:=10^7) only[go_sem,seval,↓gZ,List.headD_cons,Zok]
 ·have:i=L.length:=by omega
  subst this;rw[Ztw] at hp;simp +contextual -implicitDefEqProofs (maxSteps:=10^7) only[go_sem,seval,↓gZ,hp]
def ZjF:BT→Bool
 | .waste=>false
 | .pane _ _=>true
 | .cut _ _ l r=>ZjF l || ZjF r
theorem Zgb:∀ (b:BT),Ze Xs Ms W7 [.d b.plan.enc] []=some ((.d (.bool (ZjF b))),[])
 | .waste=>by
  simp only[BT.plan,Zf.enc_mk];refine cE ?_;simp +contextual -implicitDefEqProofs (maxSteps:=10^7) only[go_sem,seval,↓gZ,ZbY,Xg,ZjF]
 | .pane i t=>by
  simp only[BT.plan,Zf.enc_mk];refine cE ?_;simp +contextual -implicitDefEqProofs (maxSteps:=10^7) only[go_sem,seval,↓gZ,ZbY,Xg,ZjF]
 | .cut d a l r=>by
  have e1:=Zgb l;have e2:=Zgb r;simp only[BT.plan,Zf.enc_mk];cases hb:ZjF l<;>rw[hb] at e1<;>cases d <;>
  ·refine cE ?_;simp +contextual -implicitDefEqProofs (maxSteps:=10^7) only[go_sem,seval,↓gZ,ZbY,Xg,ZjF,VT,e1,e2,hb,Lk,Bool.true_or,Bool.false_or]
theorem Zrw (kW kH:Int) (kP:List Pane) (p:Zf) (Zi:Int) (hv:VK (ZI.mk kW kH kP) p=true) (h1:1≤Zi) (h2:Zi≤200):Ze Xs Ms ZaG [(.d (.agg [J kW,J kH,.sl (kP.map Pane.enc)])),.d p.enc,(.d (J Zi))] [] =
  some ((.d (J (X9 (Zfb (ZI.mk kW kH kP) p Zi)))),[]):=by
 obtain⟨b,hb,ai,af,aj,aa,ad⟩:=Xx hv;have am:kP.length≤24:=af.2.2.2.2.1;have ev:=Zht kW kH kP p (by omega);rw[hv] at ev;have er:=Zv Zi 1 200;rw[Ki (show 1≤Zi∧Zi≤200 from ⟨h1,h2⟩)] at er;simp only at aa ad;have ep:=ZiX kW kH kP p b ai (by simp only[VW,inB] at af ⊢;omega) aa (by omega);have ab:=Zfc hv;have ag:((QI (ZI.mk kW kH kP) p).filterMap X3).length≤255:=by
  have:=Kl X3 (QI (ZI.mk kW kH kP) p);rw[ad,Zab] at this;rw[ad];omega
 rw[← Ze9,← ad] at ep;unfold Zfb;generalize (QI (ZI.mk kW kH kP) p).filterMap X3=L at ep ab ag ⊢;clear hv hb ai af ad aa;obtain⟨o,a,n,t,ks⟩:=p;rw[Zf.enc_mk] at ev ep ⊢;refine cE ?_;simp +contextual -implicitDefEqProofs (maxSteps:=10^7) only[go_sem,seval,↓gZ,Zgt,ev,ep,er];refine LO (α:=Nat) (fun i=>[(9,.d (J (i:Int))),(7,.d (J (X9 ((L.take i).filterMap (JK Zi)))))]) (fun _=>[]) (fun i=>i≤L.length) (fun i=>L.length-i) 0 (by omega) ?_;intro i hi ih;by_cases ah:i<L.length
 ·obtain⟨x,hx⟩:=Zs ah;have hw:=Zj (k:=i) (by omega);have hm:=Zbx (f:=JK Zi) hx;have ak:=ab x (Kc hx);have ha:=Zhd (l:=(L.take i).filterMap (JK Zi)) (fun c hc=>by
   obtain⟨d,hd,ae⟩:=Lm.1 hc;unfold JK at ae;split at ae
   ·cases ae;exact ab c (K0 hd)
   ·cases ae)
  have an:((L.take i).filterMap (JK Zi)).length≤i:=Kz (Kl _ _) (by simp;omega);have al:=ZcC ak;obtain⟨X,Y,W,H⟩:=x;simp only at al;have w0:=wi (W*H) (by omega) (by omega);have w1:=wi (X9 ((L.take i).filterMap (JK Zi))+W*H) (by omega) (by omega);have es:=Zds X Y W H Zi;simp only[JK] at hm;by_cases ho:W<Zi∨H<Zi
  ·rw[Kh ho] at hm;rw[Kk (show ¬(Zi≤W∧Zi≤H) by omega)] at es;simp +contextual -implicitDefEqProofs (maxSteps:=10^7) only[go_sem,seval,↓gZ,hx,ah,hw,es,w0,w1];refine ih (i+1) _ (by omega) (by omega) ?_;simp +contextual -implicitDefEqProofs (maxSteps:=10^7) only[go_sem,seval,↓gZ,hm,ZcB,Option.toList,X9]
   first | rfl | (simp;done) | (simp;rfl)
  ·rw[Ke ho] at hm;rw[Ki (show Zi≤W∧Zi≤H by omega)] at es;simp +contextual -implicitDefEqProofs (maxSteps:=10^7) only[go_sem,seval,↓gZ,hx,ah,hw,es];refine ih (i+1) _ (by omega) (by omega) ?_;simp +contextual -implicitDefEqProofs (maxSteps:=10^7) only[go_sem,seval,↓gZ,hm,Option.toList,KY]
 ·have:i=L.length:=by omega
  subst this;simp +contextual -implicitDefEqProofs (maxSteps:=10^7) only[go_sem,seval,↓gZ];simp
def U3:List Pane→List Int→List Zc→List Zc→Option (List Zc×List Zc)
 | p :: ps,c :: us,o,d=>if c=0 then U3 ps us o d else if Xq p c false o=true then U3 ps us (X4 o p c) (YS p c d) else none
 | [],_,o,d=>some (o,d)
 | _,[],o,d=>some (o,d)
theorem ZjG {ps:List Pane} {us:List Int} {o d:List Zc} {k:Nat} {p:Pane} {c:Int} (hp:ps[k]?=some p) (hu:us[k]?=some c):U3 (ps.drop k) (us.drop k) o d=if c=0 then U3 (ps.drop (k+1)) (us.drop (k+1)) o d else if Xq p c false o=true then U3 (ps.drop (k+1)) (us.drop (k+1)) (X4 o p c) (YS p c d) else none:=by
 obtain⟨h1,h2⟩:=Kb.1 hp;obtain⟨h3,h4⟩:=Kb.1 hu;rw[Kw h1,h2,Kw h3,h4,U3]
theorem Ztz {ps:List Pane} {us:List Int} {o d:List Zc}:U3 (ps.drop ps.length) us o d=some (o,d):=by
 rw[List.drop_length];unfold U3;rfl
theorem ZlY {l:List Zc} {p:Pane} {c hi:Int} (hc:0≤c) (h:∀ x∈l,x.Count≤hi):∀ y∈X4 l p c,0≤y.Count∧y.Count≤hi:=fun y hy=>by
 obtain⟨x,hx,e⟩:=Lm.1 hy;have:=h x hx;unfold ZhA at e;split at e
 ·split at e
  ·cases e;simp only;omega
  ·cases e
 ·split at e
  ·cases e;omega
  ·cases e
theorem ZkO {p:Pane} {c hi:Int} (hc:0≤c) (hh:0≤hi):∀ {l:List Zc},(∀ x∈l,0≤x.Count∧x.Count≤hi)→∀ y∈YS p c l,0≤y.Count∧y.Count≤hi+c
 | [],h,y,hy=>by simp[YS] at hy;subst hy;simp only;omega
 | x :: l,h,y,hy=>by
  have h1:=h x (by simp);unfold YS at hy;split at hy
  ·rcases Kd.1 hy with rfl | hy
   ·simp only;omega
   ·have:=h y (by simp[hy]);omega
  ·rcases Kd.1 hy with rfl | hy
   ·omega
   ·exact ZkO hc hh (fun z hz=>h z (by simp[hz])) y hy
def Zrx (p:Zf):Bool:=match QP p with
 | some b=>ZjF b
 | none=>false
def Zfq (s:Zq) (e:Zl):Option Zq:=
 match s.Stock[(Qy 0 s.Stock e.label).toNat]? with
 | none=>none
 | some x=>match Zdu s.Stock e.label ⟨x.W,x.H,s.Opn.map Zc.Pane⟩ e.plan 5 with
  | none=>none
  | some R=>if Zrx e.plan=true then
    match U3 (s.Opn.map Zc.Pane) (Zd8 ⟨x.W,x.H,s.Opn.map Zc.Pane⟩ e.plan) s.Opn s.Done with
    | none=>none
    | some (o,d)=>some ⟨R,o,d,s.Lost+X9 (Zfb ⟨x.W,x.H,s.Opn.map Zc.Pane⟩ e.plan 5),s.Came⟩
   else none
def shV:Option Zq→AV×List Zm
 | some s=>(.tup [.agg [.own 0,.own 1,.own 2,(.d (J (s.Lost))),(.d (J (s.Came)))],(.d (.bool true))],[.row 4 (s.Stock.map Zb.enc) true false,.row 5 (s.Opn.map Zc.enc) true false,.row 5 (s.Done.map Zc.enc) true false])
 | none=>(.tup [.agg [.own 0,.own 1,.own 2,(.d (J 0)),(.d (J 0))],(.d (.bool false))],[.row 4 [] true false,.row 5 [] true false,.row 5 [] true false])
theorem ZtA {l:List Zb} {n:Int} {k:ZI} {p:Zf} {Zi:Int} (h:Qy 0 l n<0):Zdu l n k p Zi=none:=by
 unfold Zdu;rw[Ke (fun h'=>by omega)]
theorem Zqc {l:List Zb} {n:Int} {k:ZI} {p:Zf} {Zi:Int} {R:List Zb} (h:Zdu l n k p Zi=some R):VK k p=true∧VSt R∧VSt l:=by
 unfold Zdu at h;split at h
 ·rename_i hc;split at h
  ·rename_i x hx;split at h
   ·rename_i hg;cases h;exact⟨hg.1.1,hg.2,hc.1⟩
   ·cases h
  ·cases h
 ·cases h
def WSh (s:Zq):Prop:=VSt s.Stock∧s.Opn.length≤9∧(∀ x∈s.Opn,VP x.Pane∧0≤x.Count∧x.Count≤24)∧ZaY s.Done∧-1≤s.Lost∧s.Lost≤900001∧-1≤s.Came∧s.Came≤900001
theorem Zy6 {s:Zq} (h:ZS s):WSh s:=⟨h.1,by have:=h.2.1.1;omega,fun x hx=>by have:=QO h.2.1 x hx;exact⟨this.1,by omega,this.2.2⟩,h.2.2.1,by have:=h.2.2.2;omega,by have:=h.2.2.2;omega,by have:=h.2.2.2;omega,by have:=h.2.2.2;omega⟩
theorem Zy7 {s:Zq} (h:WSh s):SmS s:=by
 obtain⟨h1,h2,_,h3,h4,h5,h6,h7⟩:=h;exact⟨⟨by have:=h1.1;omega,fun x hx=>⟨(ZcT h1).2 x hx,ZkK (Qr h1.2 x hx)⟩,by omega,by have:=h3.1;omega⟩,by have:=h1.1;omega,by omega,by omega,by omega,by omega⟩
theorem Zry (sS:List Zb) (sO sD:List Zc) (sL sC:Int) (eK eL eX eY eW eH af ag:Int) (ah:Bool) (ai eC eo ea ep:Int) (et:Bool) (ek:List Zf) (hv:WSh (Zq.mk sS sO sD sL sC)):Ze Xs Ms ZaA [(.d (.agg [.sl (sS.map Zb.enc),.sl (sO.map Zc.enc),.sl (sD.map Zc.enc),J sL,J sC])),(.d (.agg [J eK,J eL,J eX,J eY,J eW,J eH,J af,J ag,.bool ah,J ai,J eC,J eo,J ea,J ep,.bool et,.sl (ek.map Zf.enc)]))] []=some (shV (Zfq (Zq.mk sS sO sD sL sC) (Zl.mk eK eL (Box.mk eX eY eW eH) (Zc.mk (Pane.mk af ag ah ai) eC) (Zf.mk eo ea ep et ek)))):=by
 obtain⟨⟨h1,h2,h3,h4⟩,h5,h6,h7,h8,h9⟩:=Zy7 hv;simp only at h1 h2 h3 h4 h5 h6 h7 h8 h9;have ao:=hv.2.1;have hO:=hv.2.2.1;have hD:=hv.2.2.2.1;simp only at hO hD ao;have ay:=hD.1;have e1:=Yq sS eL (by omega);by_cases hf:Qy 0 sS eL<0
 ·have ec:Zfq (Zq.mk sS sO sD sL sC) (Zl.mk eK eL (Box.mk eX eY eW eH) (Zc.mk (Pane.mk af ag ah ai) eC) (Zf.mk eo ea ep et ek))=none:=by
   unfold Zfq;simp only;split
   ·rfl
   ·rw[ZtA hf]
  rw[ec];unfold shV;refine cE ?_;simp +contextual -implicitDefEqProofs (maxSteps:=10^7) only[go_sem,seval,↓gZ,UC,e1,hf]
 ·obtain⟨a,x,ha,hx⟩:=ZbN (by omega:0≤Qy 0 sS eL);rw[ha] at e1;have al:¬(a:Int)<0:=by omega
  have az:=(Kb.1 hx).1;have e3:=Zrt sS eL x.W x.H (sO.map Zc.Pane) (.mk eo ea ep et ek) 5 (by have:=hv.1.1;simp only at this;omega) (fun y hy=>by
   have:=Qr hv.1.2 y hy;exact⟨this.1.2.2.2.2.2.2,ZkK this⟩) (by simp;omega)
  have ap:Zfq (Zq.mk sS sO sD sL sC) (Zl.mk eK eL (Box.mk eX eY eW eH) (Zc.mk (Pane.mk af ag ah ai) eC) (Zf.mk eo ea ep et ek))=match Zdu sS eL ⟨x.W,x.H,sO.map Zc.Pane⟩ (.mk eo ea ep et ek) 5 with
   | none=>none
   | some R=>if Zrx (.mk eo ea ep et ek)=true then
     match U3 (sO.map Zc.Pane) (Zd8 ⟨x.W,x.H,sO.map Zc.Pane⟩ (.mk eo ea ep et ek)) sO sD with
     | none=>none
     | some (o,d)=>some ⟨R,o,d,sL+X9 (Zfb ⟨x.W,x.H,sO.map Zc.Pane⟩ (.mk eo ea ep et ek) 5),sC⟩
    else none:=by
   unfold Zfq;simp only[ha,KB,hx]
  rw[ap];clear ap;obtain⟨xL,xW,xH,xF⟩:=x;simp only at e3 ⊢;have e2:=Zwv sS sO sD sL sC a xL xW xH xF hx h3 h1;cases hcs:Zdu sS eL ⟨xW,xH,sO.map Zc.Pane⟩ (.mk eo ea ep et ek) 5 with
  | none=>
   rw[hcs] at e3;unfold ZgQ at e3;simp only;unfold shV;rw[Zf.enc_mk] at e3;refine cE ?_;simp +contextual -implicitDefEqProofs (maxSteps:=10^7) only[go_sem,seval,↓gZ,UC,e1,al,e2,e3]
  | some R=>
   obtain⟨aa,a0,_⟩:=Zqc hcs;rw[hcs] at e3;unfold ZgQ at e3;simp only;obtain⟨b,hb,au,a1,am,av,aw⟩:=Xx aa;have e4:=Zgb b;rw[← au] at e4;have hh:Zrx (.mk eo ea ep et ek)=ZjF b:=by unfold Zrx;rw[hb]
   rw[hh];have e5:=Zrw xW xH (sO.map Zc.Pane) (.mk eo ea ep et ek) 5 aa (by omega) (by omega);have e6:=Zww xW xH (sO.map Zc.Pane) (.mk eo ea ep et ek) aa;have hu:=Zm0 aa;have ax:=Zhd (l:=Zfb ⟨xW,xH,sO.map Zc.Pane⟩ (.mk eo ea ep et ek) 5) (fun c hc=>by
    obtain⟨z,hz,aj⟩:=Lm.1 hc;unfold JK at aj;split at aj
    ·cases aj;exact Zfc aa c hz
    ·cases aj)
   have a2:(Zfb ⟨xW,xH,sO.map Zc.Pane⟩ (.mk eo ea ep et ek) 5).length≤255:=by
    refine Kz (Kl _ _) (Kz (Kl _ _) ?_);rw[aw,Zab];exact am
   generalize X9 (Zfb ⟨xW,xH,sO.map Zc.Pane⟩ (.mk eo ea ep et ek) 5)=A at e5 ax ⊢;generalize Zd8 ⟨xW,xH,sO.map Zc.Pane⟩ (.mk eo ea ep et ek)=us at e6 hu ⊢;rw[Zf.enc_mk] at e3 e4 e5 e6;simp only[KP] at hu;have u1:=wi (sL+A) (by omega) (by omega);have r1:sO.length*40≤140737488355328∧sO.length≤140737488355328:=by omega
   have r2:sD.length*40≤140737488355328∧sD.length≤140737488355328:=by omega
   cases hhb:ZjF b with
   | false=>
    rw[hhb] at e4;rw[Ke (by simp)];unfold shV;refine cE ?_;simp +contextual -implicitDefEqProofs (maxSteps:=10^7) only[go_sem,seval,↓gZ,UC,e1,al,e2,e3,e4]
   | true=>
    rw[hhb] at e4;rw[Kh rfl];refine cE ?_;simp +contextual -implicitDefEqProofs (maxSteps:=10^7) only[go_sem,seval,↓gZ,UC,Zm8,e1,al,e2,e3,e4,e5,e6,u1,r1,r2];refine LO (α:=Nat×List Zc×List Zc) (fun s=>[(12,.d (J (s.1:Int)))]) (fun s=>[(5,.row 5 (s.2.1.map Zc.enc) true false),(6,.row 5 (s.2.2.map Zc.enc) true false)]) (fun s=>s.1≤us.length∧U3 ((sO.map Zc.Pane).drop s.1) (us.drop s.1) s.2.1 s.2.2=U3 (sO.map Zc.Pane) us sO sD∧s.2.1.length≤9∧s.2.2.length≤8+s.1∧(∀ x∈s.2.1,0≤x.Count∧x.Count≤24)∧(∀ x∈s.2.2,0≤x.Count∧x.Count≤24+255*(s.1:Int))) (fun s=>us.length-s.1) (0,sO,sD) ⟨by simp,by simp,ao,by simp only;omega,fun x hx=>by have:=hO x hx;omega,fun x hx=>by have:=QO hD x hx;simp only;omega⟩ ?_
    intro⟨i,o,d⟩ ⟨hi,hp,ho8,hd8,hoc,hdc⟩ ih;simp only at hi hp ho8 hd8 hoc hdc;by_cases ab:i<us.length
    ·obtain⟨c,hc⟩:=Zs ab;have an:i<sO.length:=by omega
     obtain⟨y,hy⟩:=Zs an;have hw:=Zj (k:=i) (by omega);have aq:=hu.2 c (Kc hc);have ak:(sO.map Zc.Pane)[i]?=some y.Pane:=by rw[KX,hy];rfl
     rw[ZjG ak hc] at hp;obtain⟨⟨W,H,T,K⟩,C⟩:=y;simp only at hp ak;by_cases ad:c=0
     ·rw[Kh ad] at hp;simp +contextual -implicitDefEqProofs (maxSteps:=10^7) only[go_sem,seval,↓gZ,ab,hc,ad,hw];refine ih (i+1,o,d) _ ⟨by simp only;omega,hp,ho8,by simp only;omega,hoc,fun x hx=>by have:=hdc x hx;simp only;omega⟩ (by simp only;omega) ?_;simp +contextual -implicitDefEqProofs (maxSteps:=10^7) only[go_sem,seval,↓gZ]
     ·rw[Ke ad] at hp;have et:=ZhB o W H T K c (by omega) (fun x hx=>by have:=hoc x hx;unfold R64;omega);have ea:=Zex d W H T K c (by omega) (fun x hx=>by have:=hdc x hx;unfold R64;omega);by_cases ae:Xq ⟨W,H,T,K⟩ c false o=true
      ·rw[Kh ae] at hp;rw[ae] at et;simp +contextual -implicitDefEqProofs (maxSteps:=10^7) only[go_sem,seval,↓gZ,ab,hc,ad,hw,an,hy,ak,et,ea];refine ih (i+1,X4 o ⟨W,H,T,K⟩ c,YS ⟨W,H,T,K⟩ c d) _ ⟨by simp only;omega,hp,Kz (Kl _ _) ho8,Kz (Zdv _ _ _) (by simp only;omega),ZlY aq.1 (fun x hx=>(hoc x hx).2),fun x hx=>?_⟩ (by simp only;omega) ?_
       ·have:=ZkO aq.1 (by omega) hdc x hx;simp only;omega
       ·simp +contextual -implicitDefEqProofs (maxSteps:=10^7) only[go_sem,seval,↓gZ]
      ·rw[Ke ae] at hp;simp only[LP] at ae;rw[ae] at et;simp +contextual -implicitDefEqProofs (maxSteps:=10^7) only[go_sem,seval,↓gZ,ab,hc,ad,hw,an,hy,ak,et,ea];rw[← hp];rfl
    ·have:i=sO.length:=by omega
     subst this;have ar:=@Ztz (sO.map Zc.Pane) (us.drop sO.length) o d;rw[KP] at ar;rw[ar] at hp;rw[← hp];simp +contextual -implicitDefEqProofs (maxSteps:=10^7) only[go_sem,seval,↓gZ,ab];rfl
def Zyb (l:List Zb) (n:Int):Option (Nat×Zb):=if 0≤Qy 0 l n then (l[(Qy 0 l n).toNat]?).map (fun x=>((Qy 0 l n).toNat,x)) else none
theorem Zfr {l:List Zb} {n:Int} (h:Qy 0 l n<0):Zyb l n=none:=by unfold Zyb;rw[Ke (by omega)]
theorem Zfs {l:List Zb} {n:Int} {a:Nat} {x:Zb} (h:Qy 0 l n=(a:Int)) (hx:l[a]?=some x):Zyb l n=some (a,x):=by
 unfold Zyb;rw[h,Kh (by omega),KB,hx];rfl
def evS (s:Zq) (e:Zl):Option Zq:=
 if e.kind=0 then (if (WS ⟨e.label,e.box.W,e.box.H,[]⟩ s.Stock∧e.box.X=0)∧e.box.Y=0 then some { s with Stock:=QC ⟨e.label,e.box.W,e.box.H,[]⟩ s.Stock,Came:=s.Came+e.box.W*e.box.H } else none)
 else if e.kind=1 then (match Zyb s.Stock e.label with
  | none=>none
  | some (a,q)=>if WS { q with Flaws:=q.Flaws++[e.box] } (s.Stock.eraseIdx a) then some { s with Stock:=QC { q with Flaws:=q.Flaws++[e.box] } (s.Stock.eraseIdx a) } else none)
 else if e.kind=5 then (match Zyb s.Stock e.label with
  | none=>none
  | some (a,q)=>some { s with Stock:=s.Stock.eraseIdx a,Lost:=s.Lost+q.W*q.H })
 else if e.kind=2 then (if WO e.line then some { s with Opn:=YS e.line.Pane e.line.Count s.Opn } else none)
 else if e.kind=4 then (if WO e.line∧Xq e.line.Pane e.line.Count false s.Done=true then some { s with Opn:=YS e.line.Pane e.line.Count s.Opn,Done:=X4 s.Done e.line.Pane e.line.Count,Lost:=s.Lost+e.line.Count*e.line.Pane.W*e.line.Pane.H } else none)
 else if e.kind=3 then Zfq s e
 else none
def Vd (t:Option Zq):Option Zq:=match t with
 | some t=>if ZS t then some t else none
 | none=>none
def QW (s:Zq) (e:Zl):Option Zq:=Vd (evS s e)
theorem ZjH {s t:Zq} {e:Zl} (h:QW s e=some t):ZS t:=by
 unfold QW Vd at h;split at h
 ·split at h
  ·cases h;assumption
  ·cases h
 ·cases h
theorem Zft {s t:Zq} (h:Zbo s) (ho:t.Opn.length≤1000000) (hd:t.Done.length≤1000000) (hs:VSt t.Stock):Zbo t:=
 ⟨by have:=hs.1;omega,fun x hx=>⟨(ZcT hs).2 x hx,ZkK (Qr hs.2 x hx)⟩,ho,hd⟩
theorem ZCT {s t:Zq} {e:Zl} (hv:WSh s) (h:Zfq s e=some t):VSt t.Stock∧t.Opn.length≤9∧t.Done.length≤1000000:=by
 have aa:∀ (ps:List Pane) (us:List Int) (o d o' d' : List Zc),U3 ps us o d=some (o',d')→o'.length≤o.length∧d'.length≤d.length+ps.length:=by
  intro ps
  induction ps with
  | nil=>intro us o d o' d' h;unfold U3 at h;cases h;simp
  | cons p ps ih=>
   intro us o d o' d' h;cases us with
   | nil=>unfold U3 at h;cases h;simp
   | cons c us=>
    rw[U3] at h;split at h
    ·have:=ih _ _ _ _ _ h;simp;omega
    ·split at h
     ·have:=ih _ _ _ _ _ h;have h2:=Kl (ZhA p c) o;have h3:=Zdv p c d;unfold X4 at this;simp;omega
     ·cases h
 unfold Zfq at h;split at h
 ·cases h
 ·split at h
  ·cases h
  ·rename_i R hR;obtain⟨_,ab,_⟩:=Zqc hR;split at h
   ·split at h
    ·cases h
    ·rename_i o d hg;cases h;have:=aa _ _ _ _ _ _ hg;have h8:=hv.2.1;have h9:=hv.2.2.2.1.1;rw[KP] at this;exact⟨ab,by simp only;omega,by simp only;omega⟩
   ·cases h
theorem Zbp (sS:List Zb) (sO sD:List Zc) (sL sC:Int) (eK eL eX eY eW eH aa ab:Int) (ad:Bool) (ae eC eo ea ep:Int) (et:Bool) (ek:List Zf) (hv:WSh (Zq.mk sS sO sD sL sC)) (k3:eK=3):Ze Xs Ms Ys [(.d (.agg [.sl (sS.map Zb.enc),.sl (sO.map Zc.enc),.sl (sD.map Zc.enc),J sL,J sC])),(.d (.agg [J eK,J eL,J eX,J eY,J eW,J eH,J aa,J ab,.bool ad,J ae,J eC,J eo,J ea,J ep,.bool et,.sl (ek.map Zf.enc)]))] []=some (shV (QW (Zq.mk sS sO sD sL sC) (Zl.mk eK eL (Box.mk eX eY eW eH) (Zc.mk (Pane.mk aa ab ad ae) eC) (Zf.mk eo ea ep et ek)))):=by
 have aj:=(Zy7 hv).1;have af:=Zry sS sO sD sL sC eK eL eX eY eW eH aa ab ad ae eC eo ea ep et ek hv;subst k3;have ee:QW (Zq.mk sS sO sD sL sC) (Zl.mk 3 eL ⟨eX,eY,eW,eH⟩ ⟨⟨aa,ab,ad,ae⟩,eC⟩ (.mk eo ea ep et ek))=Vd (Zfq (Zq.mk sS sO sD sL sC) (Zl.mk 3 eL ⟨eX,eY,eW,eH⟩ ⟨⟨aa,ab,ad,ae⟩,eC⟩ (.mk eo ea ep et ek))):=by
  unfold QW evS;simp
 rw[ee];have ah:=fun t=>ZCT (t:=t) (e:=Zl.mk 3 eL ⟨eX,eY,eW,eH⟩ ⟨⟨aa,ab,ad,ae⟩,eC⟩ (.mk eo ea ep et ek)) hv;cases hc:Zfq (Zq.mk sS sO sD sL sC) (Zl.mk 3 eL ⟨eX,eY,eW,eH⟩ ⟨⟨aa,ab,ad,ae⟩,eC⟩ (.mk eo ea ep et ek)) with
 | none=>
  rw[hc] at af;unfold Vd shV at *;simp only;refine cE ?_;simp +contextual -implicitDefEqProofs (maxSteps:=10^7) only[go_sem,seval,↓gZ,ZC,af]
 | some t=>
  obtain⟨g1,g2,g3⟩:=ah t hc;rw[hc] at af;have ai:Zbo t:=Zft aj (by omega) g3 g1;obtain⟨tS,tO,tD,tL,tC⟩:=t;have e1:=Vs _ _ _ _ _ ai;have e2:=Wn _ _ _ _ _ ai;unfold Vd;unfold shV at af;simp only at af;by_cases ag:ZS (Zq.mk tS tO tD tL tC)
  ·rw[Ki ag] at e1;simp only[Kh ag];unfold shV;refine cE ?_;simp +contextual -implicitDefEqProofs (maxSteps:=10^7) only[go_sem,seval,↓gZ,ZC,af,e1,e2]
  ·rw[Kk ag] at e1;simp only[Ke ag];unfold shV;refine cE ?_;simp +contextual -implicitDefEqProofs (maxSteps:=10^7) only[go_sem,seval,↓gZ,ZC,af,e1]
theorem Znn (sS:List Zb) (sO sD:List Zc) (sL sC:Int) (eK eL eX eY eW eH ab ad:Int) (ae:Bool) (af eC eo ea ep:Int) (et:Bool) (ek:List Zf) (hv:ZS (Zq.mk sS sO sD sL sC)) (hW:eK=0→I5 eW) (hH:eK=0→I5 eH):Ze Xs Ms Ys [(.d (.agg [.sl (sS.map Zb.enc),.sl (sO.map Zc.enc),.sl (sD.map Zc.enc),J sL,J sC])),(.d (.agg [J eK,J eL,J eX,J eY,J eW,J eH,J ab,J ad,.bool ae,J af,J eC,J eo,J ea,J ep,.bool et,.sl (ek.map Zf.enc)]))] []=some (shV (QW (Zq.mk sS sO sD sL sC) (Zl.mk eK eL (Box.mk eX eY eW eH) (Zc.mk (Pane.mk ab ad ae af) eC) (Zf.mk eo ea ep et ek)))):=by
 have hS:=ZlX hv;have ai:=hS.1;have an:=hv.2.1.1;have ao:=hv.2.2.1.1;simp only at an ao;by_cases k0:eK=0
 ·have aa:=ZjD sS sO sD sL sC eK eL eX eY eW eH ab ad ae af eC eo ea ep et ek hS k0 (hW k0) (hH k0);rw[k0] at aa;by_cases hr:(WS ⟨eL,eW,eH,[]⟩ sS∧eX=0)∧eY=0
  ·have ee:QW (Zq.mk sS sO sD sL sC) (Zl.mk eK eL (Box.mk eX eY eW eH) (Zc.mk (Pane.mk ab ad ae af) eC) (Zf.mk eo ea ep et ek))=Vd (some (Zq.mk (QC ⟨eL,eW,eH,[]⟩ sS) sO sD sL (sC+eW*eH))):=by unfold QW evS;simp only[k0,hr,Km,and_self]
   rw[ee];rw[Ki hr,Kh hr.1.1] at aa;have ah:Zbo (Zq.mk (QC ⟨eL,eW,eH,[]⟩ sS) sO sD sL (sC+eW*eH)):=Zft ai (by simp only;omega) (by simp only;omega) hr.1.1.2;have e1:=Vs _ _ _ _ _ ah;have e2:=Wn _ _ _ _ _ ah;unfold Vd;generalize QC ⟨eL,eW,eH,[]⟩ sS=Q at aa e1 e2 ⊢;by_cases ag:ZS (Zq.mk Q sO sD sL (sC+eW*eH))
   ·rw[Ki ag] at e1;simp only[Kh ag];unfold shV;refine cE ?_;simp +contextual -implicitDefEqProofs (maxSteps:=10^7) only[go_sem,seval,↓gZ,ZC,k0,aa,e1,e2]
   ·rw[Kk ag] at e1;simp only[Ke ag];unfold shV;refine cE ?_;simp +contextual -implicitDefEqProofs (maxSteps:=10^7) only[go_sem,seval,↓gZ,ZC,k0,aa,e1]
  ·have ee:QW (Zq.mk sS sO sD sL sC) (Zl.mk eK eL (Box.mk eX eY eW eH) (Zc.mk (Pane.mk ab ad ae af) eC) (Zf.mk eo ea ep et ek))=none:=by unfold QW evS;simp only[k0,Km];rw[Ke hr];rfl
   rw[ee];rw[Kk hr] at aa;unfold shV;refine cE ?_;simp +contextual -implicitDefEqProofs (maxSteps:=10^7) only[go_sem,seval,↓gZ,ZC,k0,aa]
 ·by_cases aj:eK=1∨eK=5
  ·by_cases hf:Qy 0 sS eL<0
   ·have aa:=Znl sS sO sD sL sC eK eL eX eY eW eH ab ad ae af eC eo ea ep et ek hS k0 hf;have ee:QW (Zq.mk sS sO sD sL sC) (Zl.mk eK eL (Box.mk eX eY eW eH) (Zc.mk (Pane.mk ab ad ae af) eC) (Zf.mk eo ea ep et ek))=none:=by
     unfold QW evS;rcases aj with k1 | k1<;>simp[k1,Zfr hf,Vd]
    rw[ee];unfold shV;refine cE ?_;rcases aj with k1 | k1
    ·rw[k1] at aa;simp +contextual -implicitDefEqProofs (maxSteps:=10^7) only[go_sem,seval,↓gZ,ZC,k1,aa]
    ·rw[k1] at aa;simp +contextual -implicitDefEqProofs (maxSteps:=10^7) only[go_sem,seval,↓gZ,ZC,k1,aa]
   ·obtain⟨a,x,ha,hx⟩:=ZbN (by omega:0≤Qy 0 sS eL);have al:=Zfs ha hx;obtain⟨xL,xW,xH,xF⟩:=x;have am:=Qr hv.1.2 _ (Kc hx);by_cases k1:eK=1
    ·have aa:=ZkL sS sO sD sL sC eK eL eX eY eW eH ab ad ae af eC eo ea ep et ek hv k1 a ha xL xW xH xF hx;rw[k1] at aa;by_cases hr:WS ⟨xL,xW,xH,xF++[⟨eX,eY,eW,eH⟩]⟩ (sS.eraseIdx a)
     ·have ee:QW (Zq.mk sS sO sD sL sC) (Zl.mk eK eL (Box.mk eX eY eW eH) (Zc.mk (Pane.mk ab ad ae af) eC) (Zf.mk eo ea ep et ek))=Vd (some (Zq.mk (QC ⟨xL,xW,xH,xF++[⟨eX,eY,eW,eH⟩]⟩ (sS.eraseIdx a)) sO sD sL sC)):=by
       unfold QW evS;simp[k1,al,hr]
      rw[ee];rw[Ki hr,Kh hr] at aa;have ah:Zbo (Zq.mk (QC ⟨xL,xW,xH,xF++[⟨eX,eY,eW,eH⟩]⟩ (sS.eraseIdx a)) sO sD sL sC):=Zft ai (by simp only;omega) (by simp only;omega) hr.2;have e1:=Vs _ _ _ _ _ ah;have e2:=Wn _ _ _ _ _ ah;unfold Vd;generalize QC ⟨xL,xW,xH,xF++[⟨eX,eY,eW,eH⟩]⟩ (sS.eraseIdx a)=Q at aa e1 e2 ⊢;by_cases ag:ZS (Zq.mk Q sO sD sL sC)
      ·rw[Ki ag] at e1;simp only[Kh ag];unfold shV;refine cE ?_;simp +contextual -implicitDefEqProofs (maxSteps:=10^7) only[go_sem,seval,↓gZ,ZC,k1,aa,e1,e2]
      ·rw[Kk ag] at e1;simp only[Ke ag];unfold shV;refine cE ?_;simp +contextual -implicitDefEqProofs (maxSteps:=10^7) only[go_sem,seval,↓gZ,ZC,k1,aa,e1]
     ·have ee:QW (Zq.mk sS sO sD sL sC) (Zl.mk eK eL (Box.mk eX eY eW eH) (Zc.mk (Pane.mk ab ad ae af) eC) (Zf.mk eo ea ep et ek))=none:=by
       unfold QW evS;simp[k1,al,hr,Vd]
      rw[ee];rw[Kk hr] at aa;unfold shV;refine cE ?_;simp +contextual -implicitDefEqProofs (maxSteps:=10^7) only[go_sem,seval,↓gZ,ZC,k1,aa]
    ·have k5:eK=5:=by omega
     have aa:=ZjE sS sO sD sL sC eK eL eX eY eW eH ab ad ae af eC eo ea ep et ek hS k5 a ha xL xW xH xF hx (by have:=am.1;simp only at this;unfold I5;omega) (by have:=am.1;simp only at this;unfold I5;omega);rw[k5] at aa;have ee:QW (Zq.mk sS sO sD sL sC) (Zl.mk eK eL (Box.mk eX eY eW eH) (Zc.mk (Pane.mk ab ad ae af) eC) (Zf.mk eo ea ep et ek))=Vd (some (Zq.mk (sS.eraseIdx a) sO sD (sL+xW*xH) sC)):=by
      unfold QW evS;simp[k5,al]
     rw[ee];have ah:Zbo (Zq.mk (sS.eraseIdx a) sO sD (sL+xW*xH) sC):=⟨by have:=ZlT sS a;have:=ai.1;simp only at this ⊢;omega,fun y hy=>ai.2.1 y (LK hy),ai.2.2⟩
     have e1:=Vs _ _ _ _ _ ah;have e2:=Wn _ _ _ _ _ ah;unfold Vd;generalize sS.eraseIdx a=Q at aa e1 e2 ⊢;by_cases ag:ZS (Zq.mk Q sO sD (sL+xW*xH) sC)
     ·rw[Ki ag] at e1;simp only[Kh ag];unfold shV;refine cE ?_;simp +contextual -implicitDefEqProofs (maxSteps:=10^7) only[go_sem,seval,↓gZ,ZC,k5,aa,e1,e2]
     ·rw[Kk ag] at e1;simp only[Ke ag];unfold shV;refine cE ?_;simp +contextual -implicitDefEqProofs (maxSteps:=10^7) only[go_sem,seval,↓gZ,ZC,k5,aa,e1]
  ·have k1:¬eK=1:=fun h=>aj (.inl h);have k5:¬eK=5:=fun h=>aj (.inr h);by_cases ak:eK=2∨eK=4
   ·by_cases hl:WO ⟨⟨ab,ad,ae,af⟩,eC⟩
    ·by_cases k2:eK=2
     ·have aa:=ZkM sS sO sD sL sC eK eL eX eY eW eH ab ad ae af eC eo ea ep et ek hv hl k2;rw[k2] at aa;have ee:QW (Zq.mk sS sO sD sL sC) (Zl.mk eK eL (Box.mk eX eY eW eH) (Zc.mk (Pane.mk ab ad ae af) eC) (Zf.mk eo ea ep et ek))=Vd (some (Zq.mk sS (YS ⟨ab,ad,ae,af⟩ eC sO) sD sL sC)):=by
       unfold QW evS;simp[k2,hl]
      rw[ee];have ah:Zbo (Zq.mk sS (YS ⟨ab,ad,ae,af⟩ eC sO) sD sL sC):=Zft ai (Kz (Zdv _ _ _) (by omega)) (by simp only;omega) hv.1;have e1:=Vs _ _ _ _ _ ah;have e2:=Wn _ _ _ _ _ ah;unfold Vd;generalize YS ⟨ab,ad,ae,af⟩ eC sO=Q at aa e1 e2 ⊢;by_cases ag:ZS (Zq.mk sS Q sD sL sC)
      ·rw[Ki ag] at e1;simp only[Kh ag];unfold shV;refine cE ?_;simp +contextual -implicitDefEqProofs (maxSteps:=10^7) only[go_sem,seval,↓gZ,ZC,k2,aa,e1,e2]
      ·rw[Kk ag] at e1;simp only[Ke ag];unfold shV;refine cE ?_;simp +contextual -implicitDefEqProofs (maxSteps:=10^7) only[go_sem,seval,↓gZ,ZC,k2,aa,e1]
     ·have k4:eK=4:=by omega
      have aa:=ZkN sS sO sD sL sC eK eL eX eY eW eH ab ad ae af eC eo ea ep et ek hv hl k2;rw[k4] at aa;by_cases ht:Xq ⟨ab,ad,ae,af⟩ eC false sD=true
      ·rw[ht] at aa;have ee:QW (Zq.mk sS sO sD sL sC) (Zl.mk eK eL (Box.mk eX eY eW eH) (Zc.mk (Pane.mk ab ad ae af) eC) (Zf.mk eo ea ep et ek))=Vd (some (Zq.mk sS (YS ⟨ab,ad,ae,af⟩ eC sO) (X4 sD ⟨ab,ad,ae,af⟩ eC) (sL+eC*ab*ad) sC)):=by
        unfold QW evS;simp[k4,hl,ht]
       rw[ee];have ah:Zbo (Zq.mk sS (YS ⟨ab,ad,ae,af⟩ eC sO) (X4 sD ⟨ab,ad,ae,af⟩ eC) (sL+eC*ab*ad) sC):=Zft ai (Kz (Zdv _ _ _) (by omega)) (Kz (Kl _ _) (by omega)) hv.1;have e1:=Vs _ _ _ _ _ ah;have e2:=Wn _ _ _ _ _ ah;unfold Vd;generalize YS ⟨ab,ad,ae,af⟩ eC sO=Q at aa e1 e2 ⊢;generalize X4 sD ⟨ab,ad,ae,af⟩ eC=R at aa e1 e2 ⊢;by_cases ag:ZS (Zq.mk sS Q R (sL+eC*ab*ad) sC)
       ·rw[Ki ag] at e1;simp only[Kh ag];unfold shV;refine cE ?_;simp +contextual -implicitDefEqProofs (maxSteps:=10^7) only[go_sem,seval,↓gZ,ZC,k4,aa,e1,e2]
       ·rw[Kk ag] at e1;simp only[Ke ag];unfold shV;refine cE ?_;simp +contextual -implicitDefEqProofs (maxSteps:=10^7) only[go_sem,seval,↓gZ,ZC,k4,aa,e1]
      ·have ee:QW (Zq.mk sS sO sD sL sC) (Zl.mk eK eL (Box.mk eX eY eW eH) (Zc.mk (Pane.mk ab ad ae af) eC) (Zf.mk eo ea ep et ek))=none:=by
        unfold QW evS;simp[k4,ht,Vd]
       rw[ee];simp only[LP] at ht;rw[ht] at aa;unfold shV;refine cE ?_;simp +contextual -implicitDefEqProofs (maxSteps:=10^7) only[go_sem,seval,↓gZ,ZC,k4,aa]
    ·have aa:=Znm sS sO sD sL sC eK eL eX eY eW eH ab ad ae af eC eo ea ep et ek hl;have ee:QW (Zq.mk sS sO sD sL sC) (Zl.mk eK eL (Box.mk eX eY eW eH) (Zc.mk (Pane.mk ab ad ae af) eC) (Zf.mk eo ea ep et ek))=none:=by
      unfold QW evS;rcases ak with k2 | k2<;>simp[k2,hl,Vd]
     rw[ee];unfold shV;refine cE ?_;rcases ak with k2 | k2
     ·rw[k2] at aa;simp +contextual -implicitDefEqProofs (maxSteps:=10^7) only[go_sem,seval,↓gZ,ZC,k2,aa]
     ·rw[k2] at aa;simp +contextual -implicitDefEqProofs (maxSteps:=10^7) only[go_sem,seval,↓gZ,ZC,k2,aa]
   ·have k2:¬eK=2:=fun h=>ak (.inl h);have k4:¬eK=4:=fun h=>ak (.inr h);by_cases k3:eK=3
    ·exact Zbp sS sO sD sL sC eK eL eX eY eW eH ab ad ae af eC eo ea ep et ek (Zy6 hv) k3
    ·have ee:QW (Zq.mk sS sO sD sL sC) (Zl.mk eK eL (Box.mk eX eY eW eH) (Zc.mk (Pane.mk ab ad ae af) eC) (Zf.mk eo ea ep et ek))=none:=by
      unfold QW evS;simp[k0,k1,k5,k2,k4,k3,Vd]
     rw[ee];unfold shV;refine cE ?_;simp +contextual -implicitDefEqProofs (maxSteps:=10^7) only[go_sem,seval,↓gZ,ZC,k0,k1,k5,k2,k4,k3]
def Zwx (F:List Box) (W w h y:Int):Nat→Int→Option Box
 | 0,_=>none
 | n+1,x=>if x+w≤W then (if Ql F ⟨x,y,w,h⟩ then some ⟨x,y,w,h⟩ else Zwx F W w h y n (x+1)) else none
def Zwy (F:List Box) (W H w h:Int):Nat→Int→Option Box
 | 0,_=>none
 | n+1,y=>if y+h≤H then (match Zwx F W w h y (W.toNat+1) 0 with
  | some b=>some b
  | none=>Zwy F W H w h n (y+1)) else none
def Zan (q:Zb) (w h:Int):Option Box:=Zwy q.Flaws q.W q.H w h (q.H.toNat+1) 0
theorem ZtB {F:List Box} {W w h y:Int}:∀ {n:Nat} {x:Int} {b:Box},Zwx F W w h y n x=some b→x≤b.X∧b.X+w≤W∧b.Y=y∧b.W=w∧b.H=h∧Ql F b
 | 0,x,b,e=>by simp[Zwx] at e
 | n+1,x,b,e=>by
  unfold Zwx at e;split at e
  ·split at e
   ·cases e;exact⟨Int.le_refl _,by assumption,rfl,rfl,rfl,by assumption⟩
   ·obtain⟨h1,h2⟩:=ZtB e;exact⟨by omega,h2⟩
  ·cases e
theorem ZtC {F:List Box} {W H w h:Int}:∀ {n:Nat} {y:Int} {b:Box},Zwy F W H w h n y=some b→0≤b.X∧b.X+w≤W∧y≤b.Y∧b.Y+h≤H∧b.W=w∧b.H=h∧Ql F b
 | 0,y,b,e=>by simp[Zwy] at e
 | n+1,y,b,e=>by
  unfold Zwy at e;split at e
  ·rename_i hy;split at e
   ·rename_i c hc;cases e;obtain⟨h1,h2,h3,h4,h5,h6⟩:=ZtB hc;exact⟨h1,h2,by omega,by omega,h4,h5,h6⟩
   ·obtain⟨h1,h2,h3,h4⟩:=ZtC e;exact⟨h1,h2,by omega,h4⟩
  ·cases e
theorem Zwz {q:Zb} {w h:Int} {b:Box} (e:Zan q w h=some b):0≤b.X∧b.X+w≤q.W∧0≤b.Y∧b.Y+h≤q.H∧b.W=w∧b.H=h∧Ql q.Flaws b:=ZtC e
def fcV:Option Box→AV×List Zm
 | some b=>(.tup [.d b.enc,(.d (.bool true))],[])
 | none=>(.tup [.d (.agg [J 0,J 0,J 0,J 0]),(.d (.bool false))],[])
theorem Js (qL qW qH:Int) (qF:List Box) (w h:Int) (hq:VPc (Zb.mk qL qW qH qF)) (hw:1≤w∧w≤200) (hh:1≤h∧h≤200):Ze Xs Ms XU [(.d (.agg [J qL,J qW,J qH,.sl (qF.map Box.enc)])),(.d (J w)),(.d (J h))] []=some (fcV (Zan (Zb.mk qL qW qH qF) w h)):=by
 have hF:∀ f∈qF,VB f:=fun f hf=>(hq.2 f hf).1;obtain⟨_,_,af,ag,ah,ai,aj⟩:=hq.1;simp only at af ag ah ai aj;clear hq;unfold Zan;simp only;refine cE ?_;simp +contextual -implicitDefEqProofs (maxSteps:=10^7) only[go_sem,seval,↓gZ,ZdM];refine LO (α:=Nat) (fun y=>[(8,.d (J (y:Int)))]) (fun _=>[]) (fun y=>(y:Int)≤qH∧Zwy qF qW qH w h (qH.toNat+1-y) y=Zwy qF qW qH w h (qH.toNat+1) 0) (fun y=>qH.toNat+1-y) 0 ⟨by omega,by simp⟩ ?_;intro y ⟨hy,hp⟩ ih;obtain⟨n,hn⟩:∃ n,qH.toNat+1-y=n+1:=⟨qH.toNat-y,by omega⟩
 rw[hn,Zwy] at hp;have wy:=wi ((y:Int)+h) (by omega) (by omega);by_cases ad:(y:Int)+h≤qH
 ·rw[Kh ad] at hp;simp +contextual -implicitDefEqProofs (maxSteps:=10^7) only[go_sem,seval,↓gZ,wy,ad];refine Zh5 Xs Ms (st0:=?st1) (α:=Nat) (fun x=>[(9,.d (J (x:Int)))]) (fun _=>[]) (fun x=>(x:Int)≤qW∧Zwx qF qW w h y (qW.toNat+1-x) x=Zwx qF qW w h y (qW.toNat+1) 0) (fun x=>qW.toNat+1-x) 0 ?hc2 ⟨by omega,by simp⟩ ?h02 ?step2
  case hc2=>simp +contextual -implicitDefEqProofs (maxSteps:=10^7) only[go_sem,seval,↓gZ]<;>exact rfl
  case h02=>rfl
  case step2=>
   intro x ⟨hx,aa⟩ ak;obtain⟨m,hm⟩:∃ m,qW.toNat+1-x=m+1:=⟨qW.toNat-x,by omega⟩
   rw[hm,Zwx] at aa;have wx:=wi ((x:Int)+w) (by omega) (by omega);have al:=Zj (k:=x) (by omega);have am:=Zj (k:=y) (by omega);by_cases ab:(x:Int)+w≤qW
   ·rw[Kh ab] at aa;have ec:=ZkF qL qW qH qF x y w h hF (by simp only[VB];omega) (by omega);by_cases ae:Ql qF ⟨x,y,w,h⟩
    ·rw[Kh ae] at aa;rw[← aa] at hp;simp only at hp;rw[Ki ae] at ec;simp +contextual -implicitDefEqProofs (maxSteps:=10^7) only[go_sem,seval,↓gZ,wx,ab,ec];rw[← hp];rfl
    ·rw[Ke ae] at aa;rw[Kk ae] at ec;simp +contextual -implicitDefEqProofs (maxSteps:=10^7) only[go_sem,seval,↓gZ,wx,ab,ec,al];refine ak (x+1) _ ⟨by omega,?_⟩ (by omega) ?_
     ·rw[← aa];have:qW.toNat+1-(x+1)=m:=by omega
      rw[this];rfl
     ·simp +contextual -implicitDefEqProofs (maxSteps:=10^7) only[go_sem,seval,↓gZ]
   ·rw[Ke ab] at aa;rw[← aa] at hp;simp only at hp;simp +contextual -implicitDefEqProofs (maxSteps:=10^7) only[go_sem,seval,↓gZ,wx,ab,am];refine ih (y+1) _ ⟨by omega,?_⟩ (by omega) ?_
    ·rw[← hp];have:qH.toNat+1-(y+1)=n:=by omega
     rw[this];rfl
    ·simp +contextual -implicitDefEqProofs (maxSteps:=10^7) only[go_sem,seval,↓gZ]
 ·rw[Ke ad] at hp;simp +contextual -implicitDefEqProofs (maxSteps:=10^7) only[go_sem,seval,↓gZ,wy,ad];rw[← hp];rfl
def okP (p:Pane) (q:Zb):Bool:=(Zan q p.W p.H).isSome || (p.Turns&&(Zan q p.H p.W).isSome)
def ZlZ (l:List Zb) (b:Int):Int:=match l[b.toNat]? with
 | some q=>q.W*q.H
 | none=>0
def Zdy (L:List Zb) (p:Pane):List Zb→Nat→Int→Int
 | [],_,b=>b
 | x :: r,i,b=>Zdy L p r (i+1) (if okP p x=true∧(b<0∨x.W*x.H<ZlZ L b) then (i:Int) else b)
theorem ZwA {L l:List Zb} {p:Pane} {k i:Nat} {x:Zb} {b:Int} (hx:l[k]?=some x):Zdy L p (l.drop k) i b=Zdy L p (l.drop (k+1)) (i+1) (if okP p x=true∧(b<0∨x.W*x.H<ZlZ L b) then (i:Int) else b):=by
 obtain⟨h1,h2⟩:=Kb.1 hx;rw[Kw h1,h2,Zdy]
theorem Zyc {L l:List Zb} {p:Pane} {i:Nat} {b:Int}:Zdy L p (l.drop l.length) i b=b:=by simp[Zdy]
def Zi0 (L:List Zb) (p:Pane):Int:=Zdy L p L 0 (-1)
def ZBI (L:List Zb) (p:Pane):Int:=if VSt L∧VP p then (if Zi0 L p<0 then 0 else match L[(Zi0 L p).toNat]? with
 | some q=>q.Label
 | none=>0) else 0
theorem ZtD (L:List Zb) (p:Pane):∀ (l:List Zb) (i:Nat) (b:Int),(∀ (j:Nat) (x:Zb),l[j]?=some x→L[i+j]?=some x)→(b<0∨∃ (j:Nat) (x:Zb),b=(j:Int)∧L[j]?=some x∧okP p x=true)→Zdy L p l i b<0∨∃ (j:Nat) (x:Zb),Zdy L p l i b=(j:Int)∧L[j]?=some x∧okP p x=true
 | [],i,b,_,hb=>hb
 | x :: r,i,b,hl,hb=>by
  unfold Zdy;refine ZtD L p r (i+1) _ (fun j y hy=>by have:=hl (j+1) y (by simpa using hy);rw[show i+1+j=i+(j+1) by omega];exact this) ?_;split
  ·rename_i hc;exact .inr ⟨i,x,rfl,by have:=hl 0 x (by simp);simpa using this,hc.1⟩
  ·exact hb
theorem ZBJ (L:List Zb) (p:Pane):Zi0 L p<0∨∃ (j:Nat) (x:Zb),Zi0 L p=(j:Int)∧L[j]?=some x∧okP p x=true:=
 ZtD L p L 0 (-1) (fun j x h=>by simpa using h) (.inl (by omega))
theorem Zqd (l:List Zb) (pW pH:Int) (pT:Bool) (pK:Int) (hv:VSt l) (hp:VP (Pane.mk pW pH pT pK)):Ze Xs Ms Jc [(.d (.sl (l.map Zb.enc))),(.d (.agg [J pW,J pH,.bool pT,J pK]))] []=some ((.d (J (ZBI l (Pane.mk pW pH pT pK)))),[]):=by
 have e1:=YE l (by have:=hv.1;omega) (fun x hx=>⟨by have:=(ZcT hv).2 x hx;omega,ZkK (Qr hv.2 x hx)⟩);have e2:=Vo pW pH pT pK;rw[Ki hv] at e1;rw[Ki hp] at e2;have ad:=fun x hx=>Qr hv.2 x hx;have aj:=hv.1;unfold ZBI;rw[Kh ⟨hv,hp⟩];have ae:1≤pW∧pW≤200∧1≤pH∧pH≤200:=⟨hp.1,hp.2.1,hp.2.2.1,hp.2.2.2.1⟩
 clear hv hp;refine cE ?_;simp +contextual -implicitDefEqProofs (maxSteps:=10^7) only[go_sem,seval,↓gZ,ZeF,e1,e2];refine LO (α:=Nat×Int) (fun s=>[(6,.d (J (s.1:Int))),(5,.d (J s.2))]) (fun _=>[]) (fun s=>s.1≤l.length∧Zdy l (Pane.mk pW pH pT pK) (l.drop s.1) s.1 s.2=Zi0 l (Pane.mk pW pH pT pK)∧(s.2=-1∨∃ j:Nat,s.2=(j:Int)∧j<l.length)) (fun s=>l.length-s.1) (0,-1) ⟨by simp,by simp[Zi0],.inl rfl⟩ ?_;intro⟨i,b⟩ ⟨hi,hq,hb⟩ ih;simp only at hi hq hb;by_cases ab:i<l.length
 ·obtain⟨x,hx⟩:=Zs ab;have hw:=Zj (k:=i) (by omega);rw[ZwA hx] at hq;have ag:=ad x (Kc hx);have f1:=Js x.Label x.W x.H x.Flaws pW pH ag ⟨ae.1,ae.2.1⟩ ae.2.2;have f2:=Js x.Label x.W x.H x.Flaws pH pW ag ae.2.2 ⟨ae.1,ae.2.1⟩;have am:=ag.1;have ak:0≤x.W*x.H∧x.W*x.H≤40000:=ZcC (b:=⟨0,0,x.W,x.H⟩) (by simp only[VB];omega);have aa:okP (Pane.mk pW pH pT pK) x=((Zan ⟨x.Label,x.W,x.H,x.Flaws⟩ pW pH).isSome || (pT&&(Zan ⟨x.Label,x.W,x.H,x.Flaws⟩ pH pW).isSome)):=rfl;obtain⟨L,W,H,F⟩:=x;simp only at f1 f2 ak aa;have u1:=wi (W*H) (by omega) (by omega);cases h1:Zan ⟨L,W,H,F⟩ pW pH with
  | some b1=>
   rw[h1] at f1 aa;unfold fcV at f1;simp only[Ly,Bool.true_or] at aa;obtain⟨bX,bY,bW,bH⟩:=b1;rcases hb with hb | ⟨j,hb,hj⟩
   ·subst hb;rw[Kh ⟨aa,.inl (by omega)⟩] at hq;simp +contextual -implicitDefEqProofs (maxSteps:=10^7) only[go_sem,seval,↓gZ,hx,ab,hw,f1];refine ih (i+1,(i:Int)) _ ⟨by simp only;omega,hq,.inr ⟨i,rfl,ab⟩⟩ (by simp only;omega) ?_;simp +contextual -implicitDefEqProofs (maxSteps:=10^7) only[go_sem,seval,↓gZ]
   ·subst hb;obtain⟨y,hy⟩:=Zs hj;have al:=(ad y (Kc hy)).1;have ah:0≤y.W*y.H∧y.W*y.H≤40000:=ZcC (b:=⟨0,0,y.W,y.H⟩) (by simp only[VB];omega);have af:¬(j:Int)<0:=by omega
    have ai:ZlZ l (j:Int)=y.W*y.H:=by unfold ZlZ;rw[KB,hy]
    rw[ai] at hq;obtain⟨yL,yW,yH,yF⟩:=y;simp only at ah hq;have u2:=wi (yW*yH) (by omega) (by omega);by_cases hc:W*H<yW*yH
    ·rw[Kh ⟨aa,.inr hc⟩] at hq;simp +contextual -implicitDefEqProofs (maxSteps:=10^7) only[go_sem,seval,↓gZ,hx,ab,hw,af,hj,hy,u1,u2,hc,f1];refine ih (i+1,(i:Int)) _ ⟨by simp only;omega,hq,.inr ⟨i,rfl,ab⟩⟩ (by simp only;omega) ?_;simp +contextual -implicitDefEqProofs (maxSteps:=10^7) only[go_sem,seval,↓gZ]
    ·rw[Ke (fun h=>by rcases h.2 with h | h<;>omega)] at hq;simp +contextual -implicitDefEqProofs (maxSteps:=10^7) only[go_sem,seval,↓gZ,hx,ab,hw,af,hj,hy,u1,u2,hc,f1];refine ih (i+1,(j:Int)) _ ⟨by simp only;omega,hq,.inr ⟨j,rfl,hj⟩⟩ (by simp only;omega) ?_;simp +contextual -implicitDefEqProofs (maxSteps:=10^7) only[go_sem,seval,↓gZ]
  | none=>
   rw[h1] at f1 aa;unfold fcV at f1;cases pT with
   | false=>
    simp only[KD,Bool.false_and,Bool.or_self] at aa;rw[Ke (fun h=>by rw[aa] at h;exact absurd h.1 (by simp))] at hq;simp +contextual -implicitDefEqProofs (maxSteps:=10^7) only[go_sem,seval,↓gZ,hx,ab,hw,f1];refine ih (i+1,b) _ ⟨by simp only;omega,hq,hb⟩ (by simp only;omega) ?_;simp +contextual -implicitDefEqProofs (maxSteps:=10^7) only[go_sem,seval,↓gZ]
   | true=>
    cases h2:Zan ⟨L,W,H,F⟩ pH pW with
    | none=>
     rw[h2] at f2 aa;unfold fcV at f2;simp only[KD,Bool.true_and,Bool.or_self] at aa;rw[Ke (fun h=>by rw[aa] at h;exact absurd h.1 (by simp))] at hq;simp +contextual -implicitDefEqProofs (maxSteps:=10^7) only[go_sem,seval,↓gZ,hx,ab,hw,f1,f2];refine ih (i+1,b) _ ⟨by simp only;omega,hq,hb⟩ (by simp only;omega) ?_;simp +contextual -implicitDefEqProofs (maxSteps:=10^7) only[go_sem,seval,↓gZ]
    | some b2=>
     rw[h2] at f2 aa;unfold fcV at f2;simp only[Ly,KD,Bool.true_and,Bool.false_or] at aa;obtain⟨bX,bY,bW,bH⟩:=b2;rcases hb with hb | ⟨j,hb,hj⟩
     ·subst hb;rw[Kh ⟨aa,.inl (by omega)⟩] at hq;simp +contextual -implicitDefEqProofs (maxSteps:=10^7) only[go_sem,seval,↓gZ,hx,ab,hw,f1,f2];refine ih (i+1,(i:Int)) _ ⟨by simp only;omega,hq,.inr ⟨i,rfl,ab⟩⟩ (by simp only;omega) ?_;simp +contextual -implicitDefEqProofs (maxSteps:=10^7) only[go_sem,seval,↓gZ]
     ·subst hb;obtain⟨y,hy⟩:=Zs hj;have al:=(ad y (Kc hy)).1;have ah:0≤y.W*y.H∧y.W*y.H≤40000:=ZcC (b:=⟨0,0,y.W,y.H⟩) (by simp only[VB];omega);have af:¬(j:Int)<0:=by omega
      have ai:ZlZ l (j:Int)=y.W*y.H:=by unfold ZlZ;rw[KB,hy]
      rw[ai] at hq;obtain⟨yL,yW,yH,yF⟩:=y;simp only at ah hq;have u2:=wi (yW*yH) (by omega) (by omega);by_cases hc:W*H<yW*yH
      ·rw[Kh ⟨aa,.inr hc⟩] at hq;simp +contextual -implicitDefEqProofs (maxSteps:=10^7) only[go_sem,seval,↓gZ,hx,ab,hw,af,hj,hy,u1,u2,hc,f1,f2];refine ih (i+1,(i:Int)) _ ⟨by simp only;omega,hq,.inr ⟨i,rfl,ab⟩⟩ (by simp only;omega) ?_;simp +contextual -implicitDefEqProofs (maxSteps:=10^7) only[go_sem,seval,↓gZ]
      ·rw[Ke (fun h=>by rcases h.2 with h | h<;>omega)] at hq;simp +contextual -implicitDefEqProofs (maxSteps:=10^7) only[go_sem,seval,↓gZ,hx,ab,hw,af,hj,hy,u1,u2,hc,f1,f2];refine ih (i+1,(j:Int)) _ ⟨by simp only;omega,hq,.inr ⟨j,rfl,hj⟩⟩ (by simp only;omega) ?_;simp +contextual -implicitDefEqProofs (maxSteps:=10^7) only[go_sem,seval,↓gZ]
 ·have:i=l.length:=by omega
  subst this;rw[Zyc] at hq;subst hq;rcases hb with hb | ⟨j,hb,hj⟩
  ·have h0:Zi0 l (Pane.mk pW pH pT pK)<0:=by omega
   simp +contextual -implicitDefEqProofs (maxSteps:=10^7) only[go_sem,seval,↓gZ,hb]
  ·have h0:¬Zi0 l (Pane.mk pW pH pT pK)<0:=by omega
   have h1:¬(j:Int)<0:=by omega
   obtain⟨y,hy⟩:=Zs hj;simp only[hb,Ke h1,KB,hy];obtain⟨yL,yW,yH,yF⟩:=y;simp +contextual -implicitDefEqProofs (maxSteps:=10^7) only[go_sem,seval,↓gZ,h1,hj,hy]
def VM (lo hi fr to:Int):List Int:=(if fr<lo∧lo<to then [lo] else [])++(if fr<hi∧hi<to then [hi] else [])
theorem ZAo {lo hi fr to x:Int} (h:x∈VM lo hi fr to):x<to:=by
 unfold VM at h;rcases Kg.1 h with h | h
 ·split at h
  ·simp at h;omega
  ·simp at h
 ·split at h
  ·simp at h;omega
  ·simp at h
theorem Zl0 (lo hi fr to:Int):(VM lo hi fr to).length≤2:=by
 unfold VM;split<;>split<;>simp
theorem ZAp {lo hi fr t:Int} (hl:lo<hi) (hf:fr<t) (h:t=lo∨t=hi):VM lo hi fr (t+1)=VM lo hi fr t++[t]:=by
 unfold VM;rcases h with h | h
 ·rw[Kh (show fr<lo∧lo<t+1 by omega),Ke (show ¬(fr<hi∧hi<t+1) by omega),Ke (show ¬(fr<lo∧lo<t) by omega),Ke (show ¬(fr<hi∧hi<t) by omega),h];rfl
 ·rw[Kh (show fr<hi∧hi<t+1 by omega),Ke (show ¬(fr<hi∧hi<t) by omega)];by_cases h2:fr<lo
  ·rw[Kh (show fr<lo∧lo<t+1 by omega),Kh (show fr<lo∧lo<t by omega),h];rfl
  ·rw[Ke (show ¬(fr<lo∧lo<t+1) by omega),Ke (show ¬(fr<lo∧lo<t) by omega),h];rfl
theorem ZBK {lo hi fr t:Int} (h:¬(t=lo∨t=hi)):VM lo hi fr (t+1)=VM lo hi fr t:=by
 unfold VM;have h1:(fr<lo∧lo<t+1)=(fr<lo∧lo<t):=propext (by omega);have h2:(fr<hi∧hi<t+1)=(fr<hi∧hi<t):=propext (by omega);simp only[h1,h2]
theorem ZkP:∀ (l:List Int) (k:Nat) (n:Int),n∉l→Wm k l n=-1
 | [],_,_,_=>rfl
 | x :: l,k,n,h=>by
  simp only[Kd,not_or] at h;unfold Wm;rw[Ke (fun e=>h.1 e.symm),ZkP l (k+1) n h.2]
theorem Zqe (cP:Int) (cT:Bool) (cX cY cW cH:Int) (op lo n fr to:Int) (ho:(op=2∧lo=cX∧n=cW)∨(op=3∧lo=cY∧n=cH)) (hc:0≤cX∧cX≤1000∧0≤cY∧cY≤1000∧1≤cW∧cW≤1000∧1≤cH∧cH≤1000) (h0:0≤fr) (h1:fr<to) (h2:to≤1000):Ze Xs Ms Zfw [.d (.sl [.agg [J cP,.bool cT,J cX,J cY,J cW,J cH]]),(.d (J op)),(.d (J fr)),(.d (J to))] []=some (.own 0,[.row 1 ((VM lo (lo+n) fr to).map YA) true false]):=by
 have w0:=wi (fr+1) (by omega) (by omega);have wx:=wi (cX+cW) (by omega) (by omega);have wy:=wi (cY+cH) (by omega) (by omega);have hn:lo<lo+n:=by omega
 have ae:VM lo (lo+n) fr (fr+1)=[]:=by unfold VM;rw[Ke (by omega),Ke (by omega)];rfl
 refine cE ?_;simp +contextual -implicitDefEqProofs (maxSteps:=10^7) only[go_sem,seval,↓gZ,Zmd,w0];refine Zh5 Xs Ms (st0:=?st0) (α:=Int) (fun t=>[(10,.d (J t))]) (fun t=>[(0,.row 1 ((VM lo (lo+n) fr t).map YA) true false)]) (fun t=>fr+1≤t∧t≤to) (fun t=>(to-t).toNat) (fr+1) ?hc (by omega) ?h0 ?step
 case hc=>simp +contextual -implicitDefEqProofs (maxSteps:=10^7) only[go_sem,seval,↓gZ]<;>exact rfl
 case h0=>rw[ae];rfl
 case step=>
  intro t ⟨ag,ah⟩ ih;by_cases ab:t<to
  ·have wt:=wi (t+1) (by omega) (by omega);have ai:=Zl0 lo (lo+n) fr t;have hr:((VM lo (lo+n) fr t).length+1)*8≤140737488355328∧(VM lo (lo+n) fr t).length≤140737488355327:=by omega
   have ad:=Zut (VM lo (lo+n) fr t) t (by omega);rw[ZkP _ _ _ (fun h=>by have:=ZAo h;omega)] at ad;by_cases hm:t=lo∨t=lo+n
   ·have hy:=ZAp hn (show fr<t by omega) hm;have af:(1:Int)+0=1:=rfl;rcases ho with ⟨o1,o2,o3⟩ | ⟨o1,o2,o3⟩
    ·have aa : (t=cX∨t=cX+cW):=by omega
     simp +contextual -implicitDefEqProofs (maxSteps:=10^7) only[go_sem,seval,↓gZ,ab];refine ZM Xs Ms ?_;simp +contextual -implicitDefEqProofs (maxSteps:=10^7) only[go_sem,seval,↓gZ,wx,o1,aa,ad,hr,← L5];refine ZM Xs Ms ?_;simp +contextual -implicitDefEqProofs (maxSteps:=10^7) only[go_sem,seval,↓gZ,wt];refine ih (t+1) _ (by omega) (by omega) ?_;simp +contextual -implicitDefEqProofs (maxSteps:=10^7) only[go_sem,seval,↓gZ,hy,o1,K9,Kj,Kx]
    ·have aa : (t=cY∨t=cY+cH):=by omega
     simp +contextual -implicitDefEqProofs (maxSteps:=10^7) only[go_sem,seval,↓gZ,ab];refine ZM Xs Ms ?_;simp +contextual -implicitDefEqProofs (maxSteps:=10^7) only[go_sem,seval,↓gZ,wx,wy,o1,aa,ad,hr,← L5];refine ZM Xs Ms ?_;simp +contextual -implicitDefEqProofs (maxSteps:=10^7) only[go_sem,seval,↓gZ,wt];refine ih (t+1) _ (by omega) (by omega) ?_;simp +contextual -implicitDefEqProofs (maxSteps:=10^7) only[go_sem,seval,↓gZ,hy,o1,K9,Kj,Kx]
   ·have hy:=ZBK (fr:=fr) hm;rcases ho with ⟨o1,o2,o3⟩ | ⟨o1,o2,o3⟩
    ·have aa : ¬(t=cX∨t=cX+cW):=by omega
     simp +contextual -implicitDefEqProofs (maxSteps:=10^7) only[go_sem,seval,↓gZ,ab];refine ZM Xs Ms ?_;simp +contextual -implicitDefEqProofs (maxSteps:=10^7) only[go_sem,seval,↓gZ,wx,o1,aa,← L5];refine ZM Xs Ms ?_;simp +contextual -implicitDefEqProofs (maxSteps:=10^7) only[go_sem,seval,↓gZ,wt];refine ih (t+1) _ (by omega) (by omega) ?_;simp +contextual -implicitDefEqProofs (maxSteps:=10^7) only[go_sem,seval,↓gZ,hy,o1]
    ·have aa : ¬(t=cY∨t=cY+cH):=by omega
     simp +contextual -implicitDefEqProofs (maxSteps:=10^7) only[go_sem,seval,↓gZ,ab];refine ZM Xs Ms ?_;simp +contextual -implicitDefEqProofs (maxSteps:=10^7) only[go_sem,seval,↓gZ,wx,wy,o1,aa,← L5];refine ZM Xs Ms ?_;simp +contextual -implicitDefEqProofs (maxSteps:=10^7) only[go_sem,seval,↓gZ,wt];refine ih (t+1) _ (by omega) (by omega) ?_;simp +contextual -implicitDefEqProofs (maxSteps:=10^7) only[go_sem,seval,↓gZ,hy,o1]
  ·have:t=to:=by omega
   subst this;simp +contextual -implicitDefEqProofs (maxSteps:=10^7) only[go_sem,seval,↓gZ]
theorem Zir (cP:Int) (cT:Bool) (cX cY cW cH:Int) (op lo n t:Int) (f:Bool) (ho:(op=2∧lo=cX∧n=cW)∨(op=3∧lo=cY∧n=cH)) (hc:0≤cX∧cX≤1000∧0≤cY∧cY≤1000∧1≤cW∧cW≤1000∧1≤cH∧cH≤1000) (hn:¬(lo<t∧t<lo+n)):Ze Xs Ms Zfx [.d (.sl [.agg [J cP,.bool cT,J cX,J cY,J cW,J cH]]),(.d (J op)),(.d (J t)),(.d (.bool f))] [] =
  some (.tup [.own 0,(.d (.bool true))],[.row 6 (if f=decide (lo+n≤t) then [.agg [J cP,.bool cT,J cX,J cY,J cW,J cH]] else []) true false]):=by
 have wx:=wi (cX+cW) (by omega) (by omega);have wy:=wi (cY+cH) (by omega) (by omega);have bb:∀ a b:Bool,Zm7 .eql true (.d (.bool a)) (.d (.bool b))=QN (.d (.bool (a==b))):=fun _ _=>rfl;refine cE ?_;rcases ho with ⟨o1,o2,o3⟩ | ⟨o1,o2,o3⟩
 ·have aa : ¬(cX<t∧t<cX+cW):=by omega
  have he:(lo+n≤t)=(cX+cW≤t):=propext (by omega);simp only[he];simp +contextual -implicitDefEqProofs (maxSteps:=10^7) only[go_sem,seval,↓gZ,Zk0];refine ZM Xs Ms ?_;by_cases hf:f=decide (cX+cW≤t)
  ·have hg:(f==decide (cX+cW≤t))=true:=by rw[hf];simp
   rw[Kh hf];simp +contextual -implicitDefEqProofs (maxSteps:=10^7) only[go_sem,seval,↓gZ,wx,o1,aa,bb,hg,← LY];refine ZM Xs Ms ?_;simp +contextual -implicitDefEqProofs (maxSteps:=10^7) only[go_sem,seval,↓gZ]
  ·have hg:(f==decide (cX+cW≤t))=false:=by simpa using hf
   rw[Ke hf];simp +contextual -implicitDefEqProofs (maxSteps:=10^7) only[go_sem,seval,↓gZ,wx,o1,aa,bb,hg,← LY];refine ZM Xs Ms ?_;simp +contextual -implicitDefEqProofs (maxSteps:=10^7) only[go_sem,seval,↓gZ]
 ·have aa : ¬(cY<t∧t<cY+cH):=by omega
  have he:(lo+n≤t)=(cY+cH≤t):=propext (by omega);simp only[he];simp +contextual -implicitDefEqProofs (maxSteps:=10^7) only[go_sem,seval,↓gZ,Zk0];refine ZM Xs Ms ?_;by_cases hf:f=decide (cY+cH≤t)
  ·have hg:(f==decide (cY+cH≤t))=true:=by rw[hf];simp
   rw[Kh hf];simp +contextual -implicitDefEqProofs (maxSteps:=10^7) only[go_sem,seval,↓gZ,wx,wy,o1,aa,bb,hg,← LY];refine ZM Xs Ms ?_;simp +contextual -implicitDefEqProofs (maxSteps:=10^7) only[go_sem,seval,↓gZ]
  ·have hg:(f==decide (cY+cH≤t))=false:=by simpa using hf
   rw[Ke hf];simp +contextual -implicitDefEqProofs (maxSteps:=10^7) only[go_sem,seval,↓gZ,wx,wy,o1,aa,bb,hg,← LY];refine ZM Xs Ms ?_;simp +contextual -implicitDefEqProofs (maxSteps:=10^7) only[go_sem,seval,↓gZ]
def Zdz:Zf→AV×List Zm
 | .mk o a q t ks=>(.tup [.agg [(.d (J o)),(.d (J a)),(.d (J q)),(.d (.bool t)),.own 0],(.d (.bool true))],[.row 5 (ks.map Zf.enc) true false])
theorem ZbA (bX bY bW bH:Int):Ze Xs Ms Qu [.d (.sl []),(.d (.agg [J bX,J bY,J bW,J bH]))] []=some (Zdz BT.waste.plan):=by
 simp only[BT.plan,Zdz];refine cE ?_;simp +contextual -implicitDefEqProofs (maxSteps:=10^7) only[go_sem,seval,↓gZ,JW]
theorem ZhC (cP:Int) (cT:Bool) (cX cY cW cH:Int):Ze Xs Ms Qu [.d (.sl [.agg [J cP,.bool cT,J cX,J cY,J cW,J cH]]),.d (.agg [J cX,J cY,J cW,J cH])] []=some (Zdz (BT.pane cP cT).plan):=by
 simp only[BT.plan,Zdz];refine cE ?_;simp +contextual -implicitDefEqProofs (maxSteps:=10^7) only[go_sem,seval,↓gZ,JW]
theorem Zao (A B:List D) (bX bY bW bH:Int) (d:Bool) (a:Int) (l r:BT) (hA:uni 6 A) (hB:uni 6 B) (h1:R64 (bX+a)) (h2:R64 (bY+a)) (h3:R64 (bW-a)) (h4:R64 (bH-a))
  (hl:Ze Xs Ms Qu [.d (.sl A),if d then .d (.agg [J bX,J bY,J a,J bH]) else .d (.agg [J bX,J bY,J bW,J a])] []=some (Zdz l.plan))
  (hr:Ze Xs Ms Qu [.d (.sl B),if d then .d (.agg [J (bX+a),J bY,J (bW-a),J bH]) else .d (.agg [J bX,J (bY+a),J bW,J (bH-a)])] []=some (Zdz r.plan)) :
  Ze Xs Ms Ws [.d (.sl A),.d (.sl B),(.d (.agg [J bX,J bY,J bW,J bH])),(.d (J (VT d))),(.d (J a))] []=some (Zdz (BT.cut d a l r).plan):=by
 have w1:=wi (bX+a) h1.1 h1.2;have w2:=wi (bY+a) h2.1 h2.2;have w3:=wi (bW-a) h3.1 h3.2;have w4:=wi (bH-a) h4.1 h4.2;obtain⟨lo,la,lq,lt,lk,el⟩:∃ o a q t ks,l.plan=.mk o a q t ks:=by cases l.plan;exact⟨_,_,_,_,_,rfl⟩
 obtain⟨ro,ra,rq,rt,rk,er⟩:∃ o a q t ks,r.plan=.mk o a q t ks:=by cases r.plan;exact⟨_,_,_,_,_,rfl⟩
 rw[el] at hl;rw[er] at hr;simp only[BT.plan,el,er,Zdz] at hl hr ⊢;cases d with
 | true=>
  simp only[Km,VT] at hl hr ⊢;refine cE ?_;simp +contextual -implicitDefEqProofs (maxSteps:=10^7) only[go_sem,seval,↓gZ,ZbF,w1,w3,hl,hr,hA,hB]
 | false=>
  simp only[Ka,Kq,VT] at hl hr ⊢;refine cE ?_;simp +contextual -implicitDefEqProofs (maxSteps:=10^7) only[go_sem,seval,↓gZ,ZbF,w1,w2,w3,w4,hl,hr,hA,hB]
end Go.Proofs.YtcefneehgbiebaaGreatDoor
