/- Own text. -/
import Derived.Test.YtcefneehgbiebaaGreatDoorDCode
import Derived.Test.YtcefneehgbiebaaGreatDoorAbsParts
import Derived.Test.YtcefneehgbiebaaGreatDoorDC5
namespace Go.Proofs.YtcefneehgbiebaaGreatDoor
open Go Go.Abs Go.Abs.E Go.Abs.L
open Nat (reduceMul reduceSub reduceLeDiff reduceEqDiff)
open Int (reduceLE reduceEq reduceToNat reduceNeg)
set_option linter.unusedSimpArgs false
set_option linter.unusedVariables false
set_option maxRecDepth 20000
set_option maxHeartbeats 4000000
theorem Zap (cP:Int) (cT:Bool) (cX cY cW cH:Int) (bX bY bW bH:Int) (d:Bool) (x:Int) (r:List Int) (P:Zf) (hc:0≤cX∧cX≤1000∧0≤cY∧cY≤1000∧1≤cW∧cW≤1000∧1≤cH∧cH≤1000) (hb:0≤bX∧0≤bY∧1≤bW∧1≤bH∧bX+bW≤1000∧bY+bH≤1000) (ad:¬(cX=bX∧cY=bY∧cW=bW∧cH=bH))
  (h2:d=false→VM cX (cX+cW) bX (bX+bW)=[])
  (he:(if d then VM cX (cX+cW) bX (bX+bW) else VM cY (cY+cH) bY (bY+bH))=x :: r)
  (hn:if d then ¬(cX<x∧x<cX+cW) else ¬(cY<x∧x<cY+cH)) (hx:if d then bX<x∧x<bX+bW else bY<x∧x<bY+bH)
  (hp:Ze Xs Ms Ws [.d (.sl (if true=decide ((if d then cX+cW else cY+cH)≤x) then [.agg [J cP,.bool cT,J cX,J cY,J cW,J cH]] else [])),.d (.sl (if false=decide ((if d then cX+cW else cY+cH)≤x) then [.agg [J cP,.bool cT,J cX,J cY,J cW,J cH]] else [])),(.d (.agg [J bX,J bY,J bW,J bH])),(.d (J (VT d))),(.d (J (x-(if d then bX else bY))))] []=some (Zdz P)) :
  Ze Xs Ms Qu [.d (.sl [.agg [J cP,.bool cT,J cX,J cY,J cW,J cH]]),(.d (.agg [J bX,J bY,J bW,J bH]))] []=some (Zdz P):=by
 have w1:=wi (bX+bW) (by omega) (by omega);have w2:=wi (bY+bH) (by omega) (by omega);have c2:(0:Int)<((2:Nat):Int):=by omega
 obtain⟨o,a,q,t,ks⟩:=P;simp only[Zdz] at hp ⊢;have e2:=Zqe cP cT cX cY cW cH 2 cX cW bX (bX+bW) (.inl ⟨rfl,rfl,rfl⟩) hc hb.1 (by omega) (by omega);have e3:=Zqe cP cT cX cY cW cH 3 cY cH bY (bY+bH) (.inr ⟨rfl,rfl,rfl⟩) hc hb.2.1 (by omega) (by omega);have ae:r=[]∨∃ y,r=[y]:=by
  have h1:(x :: r).length≤2:=by
   rw[← he];cases d
   ·exact Zl0 _ _ _ _
   ·exact Zl0 _ _ _ _
  match r,h1 with
  | [],_=>exact .inl rfl
  | [y],_=>exact .inr ⟨y,rfl⟩
  | y :: z :: r,h1=>simp at h1
 cases d with
 | true=>
  simp only[Km,VT] at he hn hx hp;rw[he] at e2;have w3:=wi (x-bX) (by omega) (by omega);have p1:=Zir cP cT cX cY cW cH 2 cX cW x true (.inl ⟨rfl,rfl,rfl⟩) hc hn;have p2:=Zir cP cT cX cY cW cH 2 cX cW x false (.inl ⟨rfl,rfl,rfl⟩) hc hn;generalize aa:(if true=decide (cX+cW≤x) then [D.agg [J cP,.bool cT,J cX,J cY,J cW,J cH]] else [])=A at p1 hp;have hA:uni 6 A:=by rw[← aa];split<;>simp[uni,D.cells]
  generalize ab:(if false=decide (cX+cW≤x) then [D.agg [J cP,.bool cT,J cX,J cY,J cW,J cH]] else [])=B at p2 hp;have hB:uni 6 B:=by rw[← ab];split<;>simp[uni,D.cells]
  refine cE ?_;simp +contextual -implicitDefEqProofs (maxSteps:=10^7) only[go_sem,seval,↓gZ,JW,ad,← LY];refine ZM Xs Ms ?_;rcases ae with rfl | ⟨y,rfl⟩
  ·simp only[Kj,Kx,YA] at e2;simp +contextual -implicitDefEqProofs (maxSteps:=10^7) only[go_sem,seval,↓gZ,w1,e2];refine ZM Xs Ms ?_;simp +contextual -implicitDefEqProofs (maxSteps:=10^7) only[go_sem,seval,↓gZ,p1,p2,w3,hp,hA,hB,c2]
  ·simp only[Kj,Kx,YA] at e2;simp +contextual -implicitDefEqProofs (maxSteps:=10^7) only[go_sem,seval,↓gZ,w1,e2];refine ZM Xs Ms ?_;simp +contextual -implicitDefEqProofs (maxSteps:=10^7) only[go_sem,seval,↓gZ,p1,p2,w3,hp,hA,hB,c2]
 | false=>
  simp only[Ka,Kq,VT] at he hn hx hp;rw[h2 rfl] at e2;rw[he] at e3;simp only[Kx] at e2;have w3:=wi (x-bY) (by omega) (by omega);have p1:=Zir cP cT cX cY cW cH 3 cY cH x true (.inr ⟨rfl,rfl,rfl⟩) hc hn;have p2:=Zir cP cT cX cY cW cH 3 cY cH x false (.inr ⟨rfl,rfl,rfl⟩) hc hn;generalize aa:(if true=decide (cY+cH≤x) then [D.agg [J cP,.bool cT,J cX,J cY,J cW,J cH]] else [])=A at p1 hp;have hA:uni 6 A:=by rw[← aa];split<;>simp[uni,D.cells]
  generalize ab:(if false=decide (cY+cH≤x) then [D.agg [J cP,.bool cT,J cX,J cY,J cW,J cH]] else [])=B at p2 hp;have hB:uni 6 B:=by rw[← ab];split<;>simp[uni,D.cells]
  refine cE ?_;simp +contextual -implicitDefEqProofs (maxSteps:=10^7) only[go_sem,seval,↓gZ,JW,ad,← LY];refine ZM Xs Ms ?_;simp +contextual -implicitDefEqProofs (maxSteps:=10^7) only[go_sem,seval,↓gZ,w1,e2];refine ZM Xs Ms ?_;simp +contextual -implicitDefEqProofs (maxSteps:=10^7) only[go_sem,seval,↓gZ];refine ZM Xs Ms ?_;rcases ae with rfl | ⟨y,rfl⟩
  ·simp only[Kj,Kx,YA] at e3;simp +contextual -implicitDefEqProofs (maxSteps:=10^7) only[go_sem,seval,↓gZ,w1,w2,e3];refine ZM Xs Ms ?_;simp +contextual -implicitDefEqProofs (maxSteps:=10^7) only[go_sem,seval,↓gZ,p1,p2,w3,hp,hA,hB,c2]
  ·simp only[Kj,Kx,YA] at e3;simp +contextual -implicitDefEqProofs (maxSteps:=10^7) only[go_sem,seval,↓gZ,w1,w2,e3];refine ZM Xs Ms ?_;simp +contextual -implicitDefEqProofs (maxSteps:=10^7) only[go_sem,seval,↓gZ,p1,p2,w3,hp,hA,hB,c2]
def X5 (i:Int) (t:Bool) (X Y W H bX bY bW bH:Int):BT:=
 let t4:=if Y+H<bY+bH then BT.cut false H (.pane i t) .waste else .pane i t
 let t3:=if bY<Y then BT.cut false (Y-bY) .waste t4 else t4
 let t2:=if X+W<bX+bW then BT.cut true W t3 .waste else t3
 if bX<X then BT.cut true (X-bX) .waste t2 else t2
def ZgR (X Y W H bX bY bW bH:Int):Prop:=0≤bX∧bX≤X∧0≤bY∧bY≤Y∧1≤W∧1≤H∧X+W≤bX+bW∧Y+H≤bY+bH∧bX+bW≤1000∧bY+bH≤1000
theorem ZhD (cP:Int) (cT:Bool) (cX cY cW cH:Int) (bH:Int) (h:ZgR cX cY cW cH cX cY cW bH):Ze Xs Ms Qu [.d (.sl [.agg [J cP,.bool cT,J cX,J cY,J cW,J cH]]),.d (.agg [J cX,J cY,J cW,J bH])] []=some (Zdz (X5 cP cT cX cY cW cH cX cY cW bH).plan):=by
 have hh:=h;unfold ZgR at h;unfold X5;rw[Ke (show ¬cX<cX by omega),Ke (show ¬cX+cW<cX+cW by omega),Ke (show ¬cY<cY by omega)];by_cases hl:cY+cH<cY+bH
 ·rw[Kh hl];have hb:=Zao [D.agg [J cP,.bool cT,J cX,J cY,J cW,J cH]] [] cX cY cW bH false cH (.pane cP cT) .waste (by simp[uni,D.cells]) (by simp[uni]) (by unfold R64;omega) (by unfold R64;omega) (by unfold R64;omega) (by unfold R64;omega) (ZhC _ _ _ _ _ _) (ZbA _ _ _ _);refine Zap cP cT cX cY cW cH cX cY cW bH false (cY+cH) [] _ (by omega) (by omega) (by omega) (fun _=>?_) ?_ ?_ ?_ ?_
  ·unfold VM;rw[Ke (by omega),Ke (by omega)];rfl
  ·simp only[Ka,Kq];unfold VM;rw[Ke (by omega),Kh (by omega)];rfl
  ·simp only[Ka,Kq];omega
  ·simp only[Ka,Kq];omega
  ·simp only[Ka,Kq,Int.le_refl,decide_true,Km];rw[show cY+cH-cY=cH by omega];exact hb
 ·rw[Ke hl];have:bH=cH:=by omega
  subst this;exact ZhC _ _ _ _ _ _
theorem ZhE (cP:Int) (cT:Bool) (cX cY cW cH:Int) (bY bH:Int) (h:ZgR cX cY cW cH cX bY cW bH):Ze Xs Ms Qu [.d (.sl [.agg [J cP,.bool cT,J cX,J cY,J cW,J cH]]),.d (.agg [J cX,J bY,J cW,J bH])] []=some (Zdz (X5 cP cT cX cY cW cH cX bY cW bH).plan):=by
 by_cases hl:bY<cY
 ·have h4:=ZhD cP cT cX cY cW cH (bY+bH-cY) (by unfold ZgR at h ⊢;omega);unfold ZgR at h;have e:X5 cP cT cX cY cW cH cX bY cW bH=.cut false (cY-bY) .waste (X5 cP cT cX cY cW cH cX cY cW (bY+bH-cY)):=by
   unfold X5;rw[Ke (show ¬cX<cX by omega),Ke (show ¬cX+cW<cX+cW by omega),Kh hl,Ke (show ¬cX<cX by omega),Ke (show ¬cX+cW<cX+cW by omega),Ke (show ¬cY<cY by omega),show cY+(bY+bH-cY)=bY+bH by omega]
  rw[e];generalize X5 cP cT cX cY cW cH cX cY cW (bY+bH-cY)=Q at h4 ⊢;have hb:=Zao [] [D.agg [J cP,.bool cT,J cX,J cY,J cW,J cH]] cX bY cW bH false (cY-bY) .waste Q (by simp[uni]) (by simp[uni,D.cells]) (by unfold R64;omega) (by unfold R64;omega) (by unfold R64;omega) (by unfold R64;omega) (ZbA _ _ _ _) (by
   simp only[Ka,Kq];rw[show bY+(cY-bY)=cY by omega,show bH-(cY-bY)=bY+bH-cY by omega];exact h4)
  refine Zap cP cT cX cY cW cH cX bY cW bH false cY (if cY+cH<bY+bH then [cY+cH] else []) _ (by omega) (by omega) (by omega) (fun _=>?_) ?_ ?_ ?_ ?_
  ·unfold VM;rw[Ke (by omega),Ke (by omega)];rfl
  ·simp only[Ka,Kq];unfold VM;rw[Kh (by omega)];by_cases h5:cY+cH<bY+bH
   ·rw[Kh (by omega),Kh h5];rfl
   ·rw[Ke (by omega),Ke h5];rfl
  ·simp only[Ka,Kq];omega
  ·simp only[Ka,Kq];omega
  ·simp only[Ka,Kq];rw[Kk (show ¬cY+cH≤cY by omega)];simp only[Kac,Kq,Km];exact hb
 ·unfold ZgR at h;have:bY=cY:=by omega
  subst this;exact ZhD cP cT cX bY cW cH bH (by unfold ZgR;omega)
theorem ZhF (cP:Int) (cT:Bool) (cX cY cW cH:Int) (bY bW bH:Int) (h:ZgR cX cY cW cH cX bY bW bH):Ze Xs Ms Qu [.d (.sl [.agg [J cP,.bool cT,J cX,J cY,J cW,J cH]]),.d (.agg [J cX,J bY,J bW,J bH])] []=some (Zdz (X5 cP cT cX cY cW cH cX bY bW bH).plan):=by
 by_cases hl:cX+cW<cX+bW
 ·have h3:=ZhE cP cT cX cY cW cH bY bH (by unfold ZgR at h ⊢;omega);unfold ZgR at h;have e:X5 cP cT cX cY cW cH cX bY bW bH=.cut true cW (X5 cP cT cX cY cW cH cX bY cW bH) .waste:=by
   unfold X5;rw[Ke (show ¬cX<cX by omega),Kh hl,Ke (show ¬cX<cX by omega),Ke (show ¬cX+cW<cX+cW by omega)]
  rw[e];generalize X5 cP cT cX cY cW cH cX bY cW bH=Q at h3 ⊢;have hb:=Zao [D.agg [J cP,.bool cT,J cX,J cY,J cW,J cH]] [] cX bY bW bH true cW Q .waste (by simp[uni,D.cells]) (by simp[uni]) (by unfold R64;omega) (by unfold R64;omega) (by unfold R64;omega) (by unfold R64;omega) (by simp only[Km];exact h3) (ZbA _ _ _ _);refine Zap cP cT cX cY cW cH cX bY bW bH true (cX+cW) [] _ (by omega) (by omega) (by omega) (fun e=>by cases e) ?_ ?_ ?_ ?_
  ·simp only[Km];unfold VM;rw[Ke (by omega),Kh (by omega)];rfl
  ·simp only[Km];omega
  ·simp only[Km];omega
  ·simp only[Km,Int.le_refl,decide_true,Ka,Kq];rw[show cX+cW-cX=cW by omega];exact hb
 ·unfold ZgR at h;have:bW=cW:=by omega
  subst this;exact ZhE cP cT cX cY bW cH bY bH (by unfold ZgR;omega)
theorem Zrz (cP:Int) (cT:Bool) (cX cY cW cH:Int) (bX bY bW bH:Int) (h:ZgR cX cY cW cH bX bY bW bH):Ze Xs Ms Qu [.d (.sl [.agg [J cP,.bool cT,J cX,J cY,J cW,J cH]]),.d (.agg [J bX,J bY,J bW,J bH])] []=some (Zdz (X5 cP cT cX cY cW cH bX bY bW bH).plan):=by
 by_cases hl:bX<cX
 ·have h2:=ZhF cP cT cX cY cW cH bY (bX+bW-cX) bH (by unfold ZgR at h ⊢;omega);unfold ZgR at h;have e:X5 cP cT cX cY cW cH bX bY bW bH=.cut true (cX-bX) .waste (X5 cP cT cX cY cW cH cX bY (bX+bW-cX) bH):=by
   unfold X5;rw[Kh hl,Ke (show ¬cX<cX by omega),show cX+(bX+bW-cX)=bX+bW by omega]
  rw[e];generalize X5 cP cT cX cY cW cH cX bY (bX+bW-cX) bH=Q at h2 ⊢;have hb:=Zao [] [D.agg [J cP,.bool cT,J cX,J cY,J cW,J cH]] bX bY bW bH true (cX-bX) .waste Q (by simp[uni]) (by simp[uni,D.cells]) (by unfold R64;omega) (by unfold R64;omega) (by unfold R64;omega) (by unfold R64;omega) (ZbA _ _ _ _) (by
   simp only[Km];rw[show bX+(cX-bX)=cX by omega,show bW-(cX-bX)=bX+bW-cX by omega];exact h2)
  refine Zap cP cT cX cY cW cH bX bY bW bH true cX (if cX+cW<bX+bW then [cX+cW] else []) _ (by omega) (by omega) (by omega) (fun e=>by cases e) ?_ ?_ ?_ ?_
  ·simp only[Km];unfold VM;rw[Kh (by omega)];by_cases h5:cX+cW<bX+bW
   ·rw[Kh (by omega),Kh h5];rfl
   ·rw[Ke (by omega),Ke h5];rfl
  ·simp only[Km];omega
  ·simp only[Km];omega
  ·simp only[Km];rw[Kk (show ¬cX+cW≤cX by omega)];simp only[Kac,Kq,Km];exact hb
 ·unfold ZgR at h;have:bX=cX:=by omega
  subst this;exact ZhF cP cT bX cY cW cH bY bW bH (by unfold ZgR;omega)
@[go_sem] theorem rep_5 {α:Type} (a:α):List.replicate 5 a=[a,a,a,a,a]:=rfl
@[go_sem] theorem rep_8 {α:Type} (a:α):List.replicate 8 a=[a,a,a,a,a,a,a,a]:=rfl
@[go_sem] theorem rep_15 {α:Type} (a:α):List.replicate 15 a=[a,a,a,a,a,a,a,a,a,a,a,a,a,a,a]:=rfl
theorem ZwB:∀ {l:List Zb} {b:Int},XC b l→∀ x∈l,b<x.Label
 | [],_,_,x,hx=>by simp at hx
 | y :: l,b,h,x,hx=>by
  rcases Kd.1 hx with rfl | hx
  ·exact h.2.1
  ·have:=ZwB h.2.2 x hx;have:=h.2.1;omega
theorem Zy8:∀ {l:List Zb} {b:Int} {k j:Nat} {x:Zb},XC b l→l[j]?=some x→Qy k l x.Label=((k+j:Nat):Int)
 | [],_,k,j,x,_,hx=>by simp at hx
 | y :: l,b,k,0,x,h,hx=>by
  simp only[Lp,Option.some.injEq] at hx;subst hx;simp[Qy]
 | y :: l,b,k,j+1,x,h,hx=>by
  simp only[Lq] at hx;have h1:=ZwB h.2.2 x (Kc hx);unfold Qy;rw[Ke (by omega),Zy8 (k:=k+1) h.2.2 hx];congr 1
  omega
def cutE (i:Nat) (t:Bool) (b:Box) (q:Zb):Zl:=⟨3,q.Label,⟨0,0,0,0⟩,⟨⟨0,0,false,0⟩,0⟩,(X5 i t b.X b.Y b.W b.H 0 0 q.W q.H).plan⟩
def ZwC (s:Zq) (i:Nat) (x:Zc):Option Zl:=
 if Zi0 s.Stock x.Pane<0 then none else match s.Stock[(Zi0 s.Stock x.Pane).toNat]? with
 | none=>none
 | some q=>match Zan q x.Pane.W x.Pane.H with
  | some b=>some (cutE i false b q)
  | none=>match Zan q x.Pane.H x.Pane.W with
   | some b=>some (cutE i true b q)
   | none=>none
def Zbq (s:Zq):List Zc→Nat→Option Zl
 | [],_=>none
 | x :: r,i=>match ZwC s i x with
  | some e=>if (QW s e).isSome=true then some e else Zbq s r (i+1)
  | none=>Zbq s r (i+1)
def ZkQ (s:Zq):Option Zl:=Zbq s s.Opn 0
theorem ZwD {s:Zq} {l:List Zc} {k i:Nat} {x:Zc} (hx:l[k]?=some x):Zbq s (l.drop k) i=match ZwC s i x with
  | some e=>if (QW s e).isSome=true then some e else Zbq s (l.drop (k+1)) (i+1)
  | none=>Zbq s (l.drop (k+1)) (i+1):=by
 obtain⟨h1,h2⟩:=Kb.1 hx;rw[Kw h1,h2,Zbq]
theorem Zyd {s:Zq} {l:List Zc} {i:Nat}:Zbq s (l.drop l.length) i=none:=by simp[Zbq]
def nxV:Option Zl→AV×List Zm
 | some ⟨k,l,⟨x,y,w,h⟩,⟨⟨pw,ph,pt,pk⟩,c⟩,.mk o a q t ks⟩=>(.tup [.agg [(.d (J k)),(.d (J l)),(.d (J x)),(.d (J y)),(.d (J w)),(.d (J h)),(.d (J pw)),(.d (J ph)),(.d (.bool pt)),(.d (J pk)),(.d (J c)),(.d (J o)),(.d (J a)),(.d (J q)),(.d (.bool t)),.own 0],(.d (.bool true))],[.row 5 (ks.map Zf.enc) true false])
 | none=>(.tup [.agg [(.d (J 0)),(.d (J 0)),(.d (J 0)),(.d (J 0)),(.d (J 0)),(.d (J 0)),(.d (J 0)),(.d (J 0)),(.d (.bool false)),(.d (J 0)),(.d (J 0)),(.d (J 0)),(.d (J 0)),(.d (J 0)),(.d (.bool false)),.own 0],(.d (.bool false))],[.row 5 [] true false])
theorem ZuF (sS:List Zb) (sO sD:List Zc) (sL sC:Int) (hv:WSh (Zq.mk sS sO sD sL sC)):Ze Xs Ms ZbT [(.d (.agg [.sl (sS.map Zb.enc),.sl (sO.map Zc.enc),.sl (sD.map Zc.enc),J sL,J sC]))] []=some (nxV (ZkQ (Zq.mk sS sO sD sL sC))):=by
 have ak:=hv.2.1;have ag:=hv.1.1;simp only at ak ag;refine cE ?_;simp +contextual -implicitDefEqProofs (maxSteps:=10^7) only[go_sem,seval,↓gZ,ZhP];refine LO (α:=Nat) (fun i=>[(4,.d (J (i:Int)))]) (fun _=>[]) (fun i=>i≤sO.length∧Zbq (Zq.mk sS sO sD sL sC) (sO.drop i) i=ZkQ (Zq.mk sS sO sD sL sC)) (fun i=>sO.length-i) 0 ⟨by omega,by simp[ZkQ]⟩ ?_;intro i ⟨hi,hp⟩ ih;by_cases ab:i<sO.length
 ·obtain⟨x,hx⟩:=Zs ab;have hw:=Zj (k:=i) (by omega);rw[ZwD hx] at hp;have aa:=hv.2.2.1 x (Kc hx);obtain⟨⟨W,H,T,K⟩,C⟩:=x;simp only at aa;have ad:1≤W∧W≤200∧1≤H∧H≤200:=⟨aa.1.1,aa.1.2.1,aa.1.2.2.1,aa.1.2.2.2.1⟩
  have ef:=Zqd sS W H T K hv.1 aa.1;unfold ZBI at ef;rw[Kh ⟨hv.1,aa.1⟩] at ef;unfold ZwC at hp;simp only at hp;rcases ZBJ sS ⟨W,H,T,K⟩ with h0 | ⟨j,q,hj,hq,ah⟩
  ·rw[Kh h0] at ef hp;simp only at hp;simp +contextual -implicitDefEqProofs (maxSteps:=10^7) only[go_sem,seval,↓gZ,hx,ab,hw,ef];refine ih (i+1) _ ⟨by omega,hp⟩ (by omega) ?_;simp +contextual -implicitDefEqProofs (maxSteps:=10^7) only[go_sem,seval,↓gZ]
  ·have al:¬(j:Int)<0:=by omega
   rw[hj,Ke al,KB,hq] at ef hp;simp only at hp ef;have ai:=Qr hv.1.2 q (Kc hq);have af:=(Kb.1 hq).1;have el:=Yq sS q.Label (by omega);rw[Zy8 hv.1.2 hq,La] at el;have f1:=Js q.Label q.W q.H q.Flaws W H ai ⟨ad.1,ad.2.1⟩ ad.2.2;have f2:=Js q.Label q.W q.H q.Flaws H W ai ad.2.2 ⟨ad.1,ad.2.1⟩;have am:=ai.1;have aj:∀ (t:Bool) (w h:Int) (b:Box),1≤w→1≤h→Zan q w h=some b→∃ (o a p:Int) (t' : Bool) (ks:List Zf),(X5 i t b.X b.Y b.W b.H 0 0 q.W q.H).plan=.mk o a p t' ks∧Ze Xs Ms Qu [.d (.sl [.agg [J i,.bool t,J b.X,J b.Y,J b.W,J b.H]]),.d (.agg [J 0,J 0,J q.W,J q.H])] []=some (.tup [.agg [(.d (J o)),(.d (J a)),(.d (J p)),(.d (.bool (t'))),.own 0],(.d (.bool true))],[.row 5 (ks.map Zf.enc) true false]):=fun t w h b an ao hb=>by
    obtain⟨g1,g2,g3,g4,g5,g6,_⟩:=Zwz hb;have e:=Zrz i t b.X b.Y b.W b.H 0 0 q.W q.H (by unfold ZgR;omega);cases hpp:(X5 i t b.X b.Y b.W b.H 0 0 q.W q.H).plan with
    | mk o a p t' ks=>
     rw[hpp] at e;exact⟨o,a,p,t',ks,rfl,e⟩
   have ae:¬q.Label=0:=by omega
   obtain⟨qL,qW,qH,qF⟩:=q;simp only at ef el f1 f2 aj ae hp;cases h1:Zan ⟨qL,qW,qH,qF⟩ W H with
   | some b=>
    obtain⟨o,a,p,t',ks,e1,e2⟩:=aj false W H b (by omega) (by omega) h1;rw[h1] at f1 hp;unfold cutE at hp;simp only[e1] at hp;have ea:=Zbp sS sO sD sL sC 3 qL 0 0 0 0 0 0 false 0 0 o a p t' ks hv rfl;obtain⟨bX,bY,bW,bH⟩:=b;unfold fcV at f1;simp only at f1 e2 hp;cases hap:QW (Zq.mk sS sO sD sL sC) ⟨3,qL,⟨0,0,0,0⟩,⟨⟨0,0,false,0⟩,0⟩,.mk o a p t' ks⟩ with
    | none=>
     rw[hap] at ea hp;simp only[KD,Ka,Kq] at hp;unfold shV at ea;simp +contextual -implicitDefEqProofs (maxSteps:=10^7) only[go_sem,seval,↓gZ,hx,ab,hw,ef,el,f1,e2,ea,ae,af,hq];refine ih (i+1) _ ⟨by omega,hp⟩ (by omega) ?_;simp +contextual -implicitDefEqProofs (maxSteps:=10^7) only[go_sem,seval,↓gZ]
    | some u=>
     rw[hap] at ea hp;simp only[Ly,Km] at hp;rw[← hp];unfold shV at ea;unfold nxV;simp +contextual -implicitDefEqProofs (maxSteps:=10^7) only[go_sem,seval,↓gZ,hx,ab,hw,ef,el,f1,e2,ea,ae,af,hq]
   | none=>
    rw[h1] at f1 hp;unfold fcV at f1;simp only at hp;cases h2:Zan ⟨qL,qW,qH,qF⟩ H W with
    | none=>
     exfalso
     unfold okP at ah;simp only[h1,h2] at ah;simp at ah
    | some b=>
     obtain⟨o,a,p,t',ks,e1,e2⟩:=aj true H W b (by omega) (by omega) h2;rw[h2] at f2 hp;unfold cutE at hp;simp only[e1] at hp;have ea:=Zbp sS sO sD sL sC 3 qL 0 0 0 0 0 0 false 0 0 o a p t' ks hv rfl;obtain⟨bX,bY,bW,bH⟩:=b;unfold fcV at f2;simp only at f2 e2 hp;cases hap:QW (Zq.mk sS sO sD sL sC) ⟨3,qL,⟨0,0,0,0⟩,⟨⟨0,0,false,0⟩,0⟩,.mk o a p t' ks⟩ with
     | none=>
      rw[hap] at ea hp;simp only[KD,Ka,Kq] at hp;unfold shV at ea;simp +contextual -implicitDefEqProofs (maxSteps:=10^7) only[go_sem,seval,↓gZ,hx,ab,hw,ef,el,f1,f2,e2,ea,ae,af,hq];refine ih (i+1) _ ⟨by omega,hp⟩ (by omega) ?_;simp +contextual -implicitDefEqProofs (maxSteps:=10^7) only[go_sem,seval,↓gZ]
     | some u=>
      rw[hap] at ea hp;simp only[Ly,Km] at hp;rw[← hp];unfold shV at ea;unfold nxV;simp +contextual -implicitDefEqProofs (maxSteps:=10^7) only[go_sem,seval,↓gZ,hx,ab,hw,ef,el,f1,f2,e2,ea,ae,af,hq]
 ·have:i=sO.length:=by omega
  subst this;rw[Zyd] at hp;rw[← hp];unfold nxV;simp +contextual -implicitDefEqProofs (maxSteps:=10^7) only[go_sem,seval,↓gZ]
theorem Zye {s:Zq} {i:Nat} {x:Zc} {e:Zl} (h:ZwC s i x=some e):e.kind=3:=by
 unfold ZwC at h;split at h
 ·cases h
 ·split at h
  ·cases h
  ·split at h
   ·cases h;rfl
   ·split at h
    ·cases h;rfl
    ·cases h
theorem ZhG {s:Zq}:∀ {l:List Zc} {i:Nat} {e:Zl},Zbq s l i=some e→e.kind=3
 | [],i,e,h=>by simp[Zbq] at h
 | x :: l,i,e,h=>by
  unfold Zbq at h;split at h
  ·split at h
   ·cases h;exact Zye (by assumption)
   ·exact ZhG h
  ·exact ZhG h
theorem Zi1 (bs:List UInt8) (hb:bs.length≤2000) (p:Nat) (hp:p<900000000):∃ (W H:Int) (T:Bool) (K:Int),Ze Xs Ms Zax [.ptr 0 0] [.box [.d (.sl (bs.map JX)),(.d (J p))]]=some (.d (.agg [J W,J H,.bool T,J K]),[.box [.d (.sl (bs.map JX)),(.d (J ((p+4:Nat))))]]):=by
 have p1:=Qq bs p 8 hb (by omega);have p2:=Qq bs (p+1) 8 hb (by omega);have p3:=Qq bs (p+2) 2 hb (by omega);have p4:=Qq bs (p+3) 3 hb (by omega);generalize QR bs p 8=a1 at p1;generalize QR bs (p+1) 8=a2 at p2;generalize QR bs (p+2) 2=a3 at p3;generalize QR bs (p+3) 3=a4 at p4;refine⟨IntKind.i64.wrap (1+a1),IntKind.i64.wrap (1+a2),decide (a3=0),a4,?_⟩;refine cE ?_;simp +contextual -implicitDefEqProofs (maxSteps:=10^7) only[go_sem,seval,↓gZ,Zgl,p1,p2,p3,p4]
def PEv (bs:List UInt8) (p:Nat) (r:AV×List Zm):Prop:=∃ (K L X Y W H pW pH:Int) (pT:Bool) (pK C o a q:Int) (t:Bool) (ks:List Zf) (p' : Nat),(K=0→I5 W∧I5 H)∧p≤p'∧p'≤p+10 ∧
 r=(.agg [(.d (J K)),(.d (J L)),(.d (J X)),(.d (J Y)),(.d (J W)),(.d (J H)),(.d (J pW)),(.d (J pH)),(.d (.bool pT)),(.d (J pK)),(.d (J C)),(.d (J o)),(.d (J a)),(.d (J q)),(.d (.bool t)),.own 1],[.box [.d (.sl (bs.map JX)),(.d (J (p')))],.row 5 (ks.map Zf.enc) true false])
theorem Zqf (bs:List UInt8) (hb:bs.length≤2000) (p:Nat) (hp:p<800000000) (sS:List Zb) (sO sD:List Zc) (sL sC:Int) (hv:WSh (Zq.mk sS sO sD sL sC)):∃ r,Ze Xs Ms U6 [.ptr 0 0,(.d (.agg [.sl (sS.map Zb.enc),.sl (sO.map Zc.enc),.sl (sD.map Zc.enc),J sL,J sC]))] [.box [.d (.sl (bs.map JX)),(.d (J p))]]=some r∧PEv bs p r:=by
 have ah:=hv.1.1;have h8:=hv.2.2.2.1.1;simp only at ah h8;have eL:=Zhx sS (by omega);have eN:=ZuF sS sO sD sL sC hv;have af:=fun e=>@ZhG (Zq.mk sS sO sD sL sC) sO 0 e;generalize Wg sS=ll at eL;refine cW ?_;by_cases h0:(0:Int)<(sS.length:Int)
 ·have u0:=Qq bs p sS.length hb (by omega);have u1:=U0 bs p sS.length;have u2:=Zfk bs p sS.length (by omega);obtain⟨i,hi⟩:∃ i:Nat,QR bs p (sS.length:Int)=(i:Int):=⟨(QR bs p (sS.length:Int)).toNat,by omega⟩
  rw[hi] at u0 u2;have aa:i<sS.length:=by omega
  obtain⟨x,hx⟩:=Zs aa;obtain⟨lb,qW,qH,qF⟩:=x;obtain⟨p1,ai⟩:∃ p1,p1=p+1:=⟨_,rfl⟩
  rw[← ai] at u0;have c0:=Qq bs p1 9 hb (by omega);generalize QR bs p1 9=c at c0;by_cases ab:c=0∨c=1
  ·obtain⟨W,hW,eW⟩:=Zfl bs (p1+1) [20,12,30,8] hb (by omega) (by decide);obtain⟨H,hH,eH⟩:=Zfl bs (p1+2) [16,10,24,8] hb (by omega) (by decide);have iW:I5 W:=by simp only[Kd,Ku,or_false] at hW;unfold I5;omega
   have iH:I5 H:=by simp only[Kd,Ku,or_false] at hH;unfold I5;omega
   simp only[Kj,Kx,YA] at eW eH;rcases ab with rfl | rfl
   ·simp +contextual -implicitDefEqProofs (maxSteps:=10^7) only[go_sem,seval,↓gZ,Zw,h0,u0,aa,hx,c0,eL,eW,eH];exact⟨0,(IntKind.i64.wrap (ll+1)),0,0,W,H,0,0,false,0,0,0,0,0,false,[],(p1+3),fun _=>⟨iW,iH⟩,by omega,by omega,rfl⟩
   ·simp +contextual -implicitDefEqProofs (maxSteps:=10^7) only[go_sem,seval,↓gZ,Zw,h0,u0,aa,hx,c0,eL,eW,eH];exact⟨0,(IntKind.i64.wrap (ll+1)),0,0,W,H,0,0,false,0,0,0,0,0,false,[],(p1+3),fun _=>⟨iW,iH⟩,by omega,by omega,rfl⟩
  ·have k0:¬c=0:=fun h=>ab (.inl h);have k1:¬c=1:=fun h=>ab (.inr h);by_cases k2:c=2
   ·obtain⟨X,Y,W,H,eB⟩:=ZkI bs hb (p1+1) (by omega) 8 8;subst k2;simp +contextual -implicitDefEqProofs (maxSteps:=10^7) only[go_sem,seval,↓gZ,Zw,h0,u0,aa,hx,c0,eB];exact⟨1,lb,X,Y,W,H,0,0,false,0,0,0,0,0,false,[],(p1+5),(fun e=>by cases e),by omega,by omega,rfl⟩
   ·by_cases ad:c=3∨c=4
    ·obtain⟨W,H,T,K,eP⟩:=Zi1 bs hb (p1+1) (by omega);have c5:=Qq bs (p1+5) 3 hb (by omega);generalize QR bs (p1+5) 3=v at c5;rcases ad with rfl | rfl
     ·simp +contextual -implicitDefEqProofs (maxSteps:=10^7) only[go_sem,seval,↓gZ,Zw,h0,u0,aa,hx,c0,eP,c5];exact⟨2,0,0,0,0,0,W,H,T,K,(IntKind.i64.wrap (1+v)),0,0,0,false,[],(p1+6),(fun e=>by cases e),by omega,by omega,rfl⟩
     ·simp +contextual -implicitDefEqProofs (maxSteps:=10^7) only[go_sem,seval,↓gZ,Zw,h0,u0,aa,hx,c0,eP,c5];exact⟨2,0,0,0,0,0,W,H,T,K,(IntKind.i64.wrap (1+v)),0,0,0,false,[],(p1+6),(fun e=>by cases e),by omega,by omega,rfl⟩
    ·have k3:¬c=3:=fun h=>ad (.inl h);have k4:¬c=4:=fun h=>ad (.inr h);by_cases k5:c=5
     ·subst k5;by_cases hd:(0:Int)<(sD.length:Int)
      ·have d0:=Qq bs (p1+1) sD.length hb (by omega);have d1:=U0 bs (p1+1) sD.length;have d2:=Zfk bs (p1+1) sD.length (by omega);obtain⟨j,hj⟩:∃ j:Nat,QR bs (p1+1) (sD.length:Int)=(j:Int):=⟨(QR bs (p1+1) (sD.length:Int)).toNat,by omega⟩
       rw[hj] at d0 d2;have ag:j<sD.length:=by omega
       obtain⟨z,hz⟩:=Zs ag;obtain⟨⟨W,H,T,K⟩,C⟩:=z;have d3:=Qq bs (p1+2) C hb (by omega);generalize QR bs (p1+2) C=v at d3;simp +contextual -implicitDefEqProofs (maxSteps:=10^7) only[go_sem,seval,↓gZ,Zw,h0,u0,aa,hx,c0,hd,d0,ag,hz,d3];exact⟨4,0,0,0,0,0,W,H,T,K,(IntKind.i64.wrap (1+v)),0,0,0,false,[],(p1+3),(fun e=>by cases e),by omega,by omega,rfl⟩
      ·skip
       cases hN:ZkQ (Zq.mk sS sO sD sL sC) with
       | none=>
        rw[hN] at eN;unfold nxV at eN;simp +contextual -implicitDefEqProofs (maxSteps:=10^7) only[go_sem,seval,↓gZ,Zw,h0,u0,aa,hx,c0,hd,eN,eL];exact⟨0,(IntKind.i64.wrap (ll+2)),0,0,15,11,0,0,false,0,0,0,0,0,false,[],(p1+1),fun _=>⟨by unfold I5;omega,by unfold I5;omega⟩,by omega,by omega,rfl⟩
       | some e=>
        have hk:=af e hN;rw[hN] at eN;obtain⟨k,l,⟨x,y,w,h⟩,⟨⟨pw,ph,pt,pk⟩,c9⟩,⟨o,a,q,t,ks⟩⟩:=e;unfold nxV at eN;simp only at eN hk;simp +contextual -implicitDefEqProofs (maxSteps:=10^7) only[go_sem,seval,↓gZ,Zw,h0,u0,aa,hx,c0,hd,eN];exact⟨k,l,x,y,w,h,pw,ph,pt,pk,c9,o,a,q,t,ks,(p1+1),fun e=>by omega,by omega,by omega,rfl⟩
     ·by_cases k6:c=6
      ·subst k6;have d3:=Qq bs (p1+1) 3 hb (by omega);generalize QR bs (p1+1) 3=v at d3;by_cases ae:v=0
       ·subst ae;simp +contextual -implicitDefEqProofs (maxSteps:=10^7) only[go_sem,seval,↓gZ,Zw,h0,u0,aa,hx,c0,d3];exact⟨5,lb,0,0,0,0,0,0,false,0,0,0,0,0,false,[],(p1+2),(fun e=>by cases e),by omega,by omega,rfl⟩
       ·skip
        cases hN:ZkQ (Zq.mk sS sO sD sL sC) with
        | none=>
         rw[hN] at eN;unfold nxV at eN;simp +contextual -implicitDefEqProofs (maxSteps:=10^7) only[go_sem,seval,↓gZ,Zw,h0,u0,aa,hx,c0,d3,ae,eN,eL];exact⟨0,(IntKind.i64.wrap (ll+2)),0,0,15,11,0,0,false,0,0,0,0,0,false,[],(p1+2),fun _=>⟨by unfold I5;omega,by unfold I5;omega⟩,by omega,by omega,rfl⟩
        | some e=>
         have hk:=af e hN;rw[hN] at eN;obtain⟨k,l,⟨x,y,w,h⟩,⟨⟨pw,ph,pt,pk⟩,c9⟩,⟨o,a,q,t,ks⟩⟩:=e;unfold nxV at eN;simp only at eN hk;simp +contextual -implicitDefEqProofs (maxSteps:=10^7) only[go_sem,seval,↓gZ,Zw,h0,u0,aa,hx,c0,d3,ae,eN];exact⟨k,l,x,y,w,h,pw,ph,pt,pk,c9,o,a,q,t,ks,(p1+2),fun e=>by omega,by omega,by omega,rfl⟩
      ·skip
       cases hN:ZkQ (Zq.mk sS sO sD sL sC) with
       | none=>
        rw[hN] at eN;unfold nxV at eN;simp +contextual -implicitDefEqProofs (maxSteps:=10^7) only[go_sem,seval,↓gZ,Zw,h0,u0,aa,hx,c0,k0,k1,k2,k3,k4,k5,k6,eN,eL];exact⟨0,(IntKind.i64.wrap (ll+2)),0,0,15,11,0,0,false,0,0,0,0,0,false,[],(p1+1),fun _=>⟨by unfold I5;omega,by unfold I5;omega⟩,by omega,by omega,rfl⟩
       | some e=>
        have hk:=af e hN;rw[hN] at eN;obtain⟨k,l,⟨x,y,w,h⟩,⟨⟨pw,ph,pt,pk⟩,c9⟩,⟨o,a,q,t,ks⟩⟩:=e;unfold nxV at eN;simp only at eN hk;simp +contextual -implicitDefEqProofs (maxSteps:=10^7) only[go_sem,seval,↓gZ,Zw,h0,u0,aa,hx,c0,k0,k1,k2,k3,k4,k5,k6,eN];exact⟨k,l,x,y,w,h,pw,ph,pt,pk,c9,o,a,q,t,ks,(p1+1),fun e=>by omega,by omega,by omega,rfl⟩
 ·skip
  have c0:=Qq bs p 9 hb (by omega);generalize QR bs p 9=c at c0;by_cases ab:c=0∨c=1
  ·obtain⟨W,hW,eW⟩:=Zfl bs (p+1) [20,12,30,8] hb (by omega) (by decide);obtain⟨H,hH,eH⟩:=Zfl bs (p+2) [16,10,24,8] hb (by omega) (by decide);have iW:I5 W:=by simp only[Kd,Ku,or_false] at hW;unfold I5;omega
   have iH:I5 H:=by simp only[Kd,Ku,or_false] at hH;unfold I5;omega
   simp only[Kj,Kx,YA] at eW eH;rcases ab with rfl | rfl
   ·simp +contextual -implicitDefEqProofs (maxSteps:=10^7) only[go_sem,seval,↓gZ,Zw,h0,c0,eL,eW,eH];exact⟨0,(IntKind.i64.wrap (ll+1)),0,0,W,H,0,0,false,0,0,0,0,0,false,[],(p+3),fun _=>⟨iW,iH⟩,by omega,by omega,rfl⟩
   ·simp +contextual -implicitDefEqProofs (maxSteps:=10^7) only[go_sem,seval,↓gZ,Zw,h0,c0,eL,eW,eH];exact⟨0,(IntKind.i64.wrap (ll+1)),0,0,W,H,0,0,false,0,0,0,0,0,false,[],(p+3),fun _=>⟨iW,iH⟩,by omega,by omega,rfl⟩
  ·have k0:¬c=0:=fun h=>ab (.inl h);have k1:¬c=1:=fun h=>ab (.inr h);by_cases k2:c=2
   ·obtain⟨X,Y,W,H,eB⟩:=ZkI bs hb (p+1) (by omega) 8 8;subst k2;simp +contextual -implicitDefEqProofs (maxSteps:=10^7) only[go_sem,seval,↓gZ,Zw,h0,c0,eB];exact⟨1,1,X,Y,W,H,0,0,false,0,0,0,0,0,false,[],(p+5),(fun e=>by cases e),by omega,by omega,rfl⟩
   ·by_cases ad:c=3∨c=4
    ·obtain⟨W,H,T,K,eP⟩:=Zi1 bs hb (p+1) (by omega);have c5:=Qq bs (p+5) 3 hb (by omega);generalize QR bs (p+5) 3=v at c5;rcases ad with rfl | rfl
     ·simp +contextual -implicitDefEqProofs (maxSteps:=10^7) only[go_sem,seval,↓gZ,Zw,h0,c0,eP,c5];exact⟨2,0,0,0,0,0,W,H,T,K,(IntKind.i64.wrap (1+v)),0,0,0,false,[],(p+6),(fun e=>by cases e),by omega,by omega,rfl⟩
     ·simp +contextual -implicitDefEqProofs (maxSteps:=10^7) only[go_sem,seval,↓gZ,Zw,h0,c0,eP,c5];exact⟨2,0,0,0,0,0,W,H,T,K,(IntKind.i64.wrap (1+v)),0,0,0,false,[],(p+6),(fun e=>by cases e),by omega,by omega,rfl⟩
    ·have k3:¬c=3:=fun h=>ad (.inl h);have k4:¬c=4:=fun h=>ad (.inr h);by_cases k5:c=5
     ·subst k5;by_cases hd:(0:Int)<(sD.length:Int)
      ·have d0:=Qq bs (p+1) sD.length hb (by omega);have d1:=U0 bs (p+1) sD.length;have d2:=Zfk bs (p+1) sD.length (by omega);obtain⟨j,hj⟩:∃ j:Nat,QR bs (p+1) (sD.length:Int)=(j:Int):=⟨(QR bs (p+1) (sD.length:Int)).toNat,by omega⟩
       rw[hj] at d0 d2;have ag:j<sD.length:=by omega
       obtain⟨z,hz⟩:=Zs ag;obtain⟨⟨W,H,T,K⟩,C⟩:=z;have d3:=Qq bs (p+2) C hb (by omega);generalize QR bs (p+2) C=v at d3;simp +contextual -implicitDefEqProofs (maxSteps:=10^7) only[go_sem,seval,↓gZ,Zw,h0,c0,hd,d0,ag,hz,d3];exact⟨4,0,0,0,0,0,W,H,T,K,(IntKind.i64.wrap (1+v)),0,0,0,false,[],(p+3),(fun e=>by cases e),by omega,by omega,rfl⟩
      ·skip
       cases hN:ZkQ (Zq.mk sS sO sD sL sC) with
       | none=>
        rw[hN] at eN;unfold nxV at eN;simp +contextual -implicitDefEqProofs (maxSteps:=10^7) only[go_sem,seval,↓gZ,Zw,h0,c0,hd,eN,eL];exact⟨0,(IntKind.i64.wrap (ll+2)),0,0,15,11,0,0,false,0,0,0,0,0,false,[],(p+1),fun _=>⟨by unfold I5;omega,by unfold I5;omega⟩,by omega,by omega,rfl⟩
       | some e=>
        have hk:=af e hN;rw[hN] at eN;obtain⟨k,l,⟨x,y,w,h⟩,⟨⟨pw,ph,pt,pk⟩,c9⟩,⟨o,a,q,t,ks⟩⟩:=e;unfold nxV at eN;simp only at eN hk;simp +contextual -implicitDefEqProofs (maxSteps:=10^7) only[go_sem,seval,↓gZ,Zw,h0,c0,hd,eN];exact⟨k,l,x,y,w,h,pw,ph,pt,pk,c9,o,a,q,t,ks,(p+1),fun e=>by omega,by omega,by omega,rfl⟩
     ·by_cases k6:c=6
      ·subst k6;have d3:=Qq bs (p+1) 3 hb (by omega);generalize QR bs (p+1) 3=v at d3;by_cases ae:v=0
       ·subst ae;simp +contextual -implicitDefEqProofs (maxSteps:=10^7) only[go_sem,seval,↓gZ,Zw,h0,c0,d3];exact⟨5,1,0,0,0,0,0,0,false,0,0,0,0,0,false,[],(p+2),(fun e=>by cases e),by omega,by omega,rfl⟩
       ·skip
        cases hN:ZkQ (Zq.mk sS sO sD sL sC) with
        | none=>
         rw[hN] at eN;unfold nxV at eN;simp +contextual -implicitDefEqProofs (maxSteps:=10^7) only[go_sem,seval,↓gZ,Zw,h0,c0,d3,ae,eN,eL];exact⟨0,(IntKind.i64.wrap (ll+2)),0,0,15,11,0,0,false,0,0,0,0,0,false,[],(p+2),fun _=>⟨by unfold I5;omega,by unfold I5;omega⟩,by omega,by omega,rfl⟩
        | some e=>
         have hk:=af e hN;rw[hN] at eN;obtain⟨k,l,⟨x,y,w,h⟩,⟨⟨pw,ph,pt,pk⟩,c9⟩,⟨o,a,q,t,ks⟩⟩:=e;unfold nxV at eN;simp only at eN hk;simp +contextual -implicitDefEqProofs (maxSteps:=10^7) only[go_sem,seval,↓gZ,Zw,h0,c0,d3,ae,eN];exact⟨k,l,x,y,w,h,pw,ph,pt,pk,c9,o,a,q,t,ks,(p+2),fun e=>by omega,by omega,by omega,rfl⟩
      ·skip
       cases hN:ZkQ (Zq.mk sS sO sD sL sC) with
       | none=>
        rw[hN] at eN;unfold nxV at eN;simp +contextual -implicitDefEqProofs (maxSteps:=10^7) only[go_sem,seval,↓gZ,Zw,h0,c0,k0,k1,k2,k3,k4,k5,k6,eN,eL];exact⟨0,(IntKind.i64.wrap (ll+2)),0,0,15,11,0,0,false,0,0,0,0,0,false,[],(p+1),fun _=>⟨by unfold I5;omega,by unfold I5;omega⟩,by omega,by omega,rfl⟩
       | some e=>
        have hk:=af e hN;rw[hN] at eN;obtain⟨k,l,⟨x,y,w,h⟩,⟨⟨pw,ph,pt,pk⟩,c9⟩,⟨o,a,q,t,ks⟩⟩:=e;unfold nxV at eN;simp only at eN hk;simp +contextual -implicitDefEqProofs (maxSteps:=10^7) only[go_sem,seval,↓gZ,Zw,h0,c0,k0,k1,k2,k3,k4,k5,k6,eN];exact⟨k,l,x,y,w,h,pw,ph,pt,pk,c9,o,a,q,t,ks,(p+1),fun e=>by omega,by omega,by omega,rfl⟩
theorem ZjI:ZS ⟨[],[],[],0,0⟩:=by
 refine⟨⟨by simp,trivial⟩,⟨by simp,trivial,by simp[UP]⟩,⟨by simp,trivial,by simp[UP]⟩,?_⟩;simp[Vc,ZaZ]
def ZBL (s:Zq) (n:Int):Option ZI:=if ZS s then (match Zyb s.Stock n with
 | some (_,q)=>some ⟨q.W,q.H,s.Opn.map Zc.Pane⟩
 | none=>none) else none
def wkV:Option ZI→AV×List Zm
 | some k=>(.tup [.agg [(.d (J (k.W))),(.d (J (k.H))),.own 0],(.d (.bool true))],[.row 4 (k.Panes.map Pane.enc) true false])
 | none=>(.tup [.agg [(.d (J 0)),(.d (J 0)),.own 0],(.d (.bool false))],[.row 4 [] true false])
theorem ZuG (sS:List Zb) (sO sD:List Zc) (sL sC:Int) (n:Int):Ze Xs Ms ZbV [(.d (.agg [.sl (sS.map Zb.enc),.sl (sO.map Zc.enc),.sl (sD.map Zc.enc),J sL,J sC])),(.d (J n))] []=some (wkV (ZBL (Zq.mk sS sO sD sL sC) n)):=by
 have e1:=Qk sS sO sD sL sC;unfold ZBL;by_cases hv:ZS (Zq.mk sS sO sD sL sC)
 ·rw[Ki hv] at e1;rw[Kh hv];have ab:=hv.1.1;have h8:=hv.2.1.1;simp only at ab h8;have e2:=Vq sS n (by omega);by_cases hf:Qy 0 sS n<0
  ·rw[Zfr hf];unfold wkV;refine cE ?_;simp +contextual -implicitDefEqProofs (maxSteps:=10^7) only[go_sem,seval,↓gZ,ZbX,e1,e2,hf]
  ·obtain⟨a,x,ha,hx⟩:=ZbN (by omega:0≤Qy 0 sS n);rw[Zfs ha hx];rw[ha] at e2;have ad:¬(a:Int)<0:=by omega
   have aa:=(Kb.1 hx).1;obtain⟨xL,xW,xH,xF⟩:=x;unfold wkV;refine cE ?_;simp +contextual -implicitDefEqProofs (maxSteps:=10^7) only[go_sem,seval,↓gZ,ZbX,e1,e2,ad,aa,hx];refine LO (α:=Nat) (fun i=>[(37,.d (J (i:Int)))]) (fun i=>[(2,.row 4 (((sO.take i).map Zc.Pane).map Pane.enc) true false)]) (fun i=>i≤sO.length) (fun i=>sO.length-i) 0 (by omega) ?_;intro i hi ih;by_cases aa:i<sO.length
   ·obtain⟨x,hx⟩:=Zs aa;have hw:=Zj (k:=i) (by omega);have hm:=Zbm hx;have ae:(sO.take i).length≤i:=by simp;omega
    have hr:((sO.take i).length+1)*32≤140737488355328∧(sO.take i).length≤140737488355327:=by omega
    obtain⟨⟨W,H,T,K⟩,C⟩:=x;simp only at hm;simp +contextual -implicitDefEqProofs (maxSteps:=10^7) only[go_sem,seval,↓gZ,hx,aa,hw,hr];refine ih (i+1) _ (by omega) (by omega) ?_;simp +contextual -implicitDefEqProofs (maxSteps:=10^7) only[go_sem,seval,↓gZ,hm]
    first | rfl | (simp;done) | (simp;rfl)
   ·have:i=sO.length:=by omega
    subst this;simp +contextual -implicitDefEqProofs (maxSteps:=10^7) only[go_sem,seval,↓gZ];simp
 ·rw[Kk hv] at e1;rw[Ke hv];unfold wkV;refine cE ?_;simp +contextual -implicitDefEqProofs (maxSteps:=10^7) only[go_sem,seval,↓gZ,ZbX,e1]
end Go.Proofs.YtcefneehgbiebaaGreatDoor
