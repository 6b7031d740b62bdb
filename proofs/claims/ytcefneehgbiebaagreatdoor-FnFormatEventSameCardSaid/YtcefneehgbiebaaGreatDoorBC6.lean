/- Own text. -/
import Derived.Test.YtcefneehgbiebaaGreatDoorBCode
import Derived.Test.YtcefneehgbiebaaGreatDoorAbsParts
import Derived.Test.YtcefneehgbiebaaGreatDoorBC5
namespace Go.Proofs.YtcefneehgbiebaaGreatDoor
open Go Go.Abs Go.Abs.E Go.Abs.L
open Nat (reduceMul reduceSub reduceLeDiff reduceEqDiff)
open Int (reduceLE reduceEq reduceToNat reduceNeg)
set_option linter.unusedSimpArgs false
set_option linter.unusedVariables false
set_option maxRecDepth 20000
set_option maxHeartbeats 4000000
theorem JY (cP:Int) (cT:Bool) (cX cY cW cH:Int) (bX bY bW bH:Int) (d:Bool) (x:Int) (r:List Int) (P:Zf) (hc:0≤cX∧cX≤1000∧0≤cY∧cY≤1000∧1≤cW∧cW≤1000∧1≤cH∧cH≤1000) (hb:0≤bX∧0≤bY∧1≤bW∧1≤bH∧bX+bW≤1000∧bY+bH≤1000) (ad:¬(cX=bX∧cY=bY∧cW=bW∧cH=bH))
  (h2:d=false→Vz cX (cX+cW) bX (bX+bW)=[])
  (he:(if d then Vz cX (cX+cW) bX (bX+bW) else Vz cY (cY+cH) bY (bY+bH))=x :: r)
  (hn:if d then ¬(cX<x∧x<cX+cW) else ¬(cY<x∧x<cY+cH)) (hx:if d then bX<x∧x<bX+bW else bY<x∧x<bY+bH)
  (hp:Ze Xs Ms We [.d (.sl (if true=decide ((if d then cX+cW else cY+cH)≤x) then [.agg [J cP,.bool cT,J cX,J cY,J cW,J cH]] else [])),.d (.sl (if false=decide ((if d then cX+cW else cY+cH)≤x) then [.agg [J cP,.bool cT,J cX,J cY,J cW,J cH]] else [])),(.d (.agg [J bX,J bY,J bW,J bH])),(.d (J (VX d))),(.d (J (x-(if d then bX else bY))))] []=some (ZcX P)) :
  Ze Xs Ms Qr [.d (.sl [.agg [J cP,.bool cT,J cX,J cY,J cW,J cH]]),(.d (.agg [J bX,J bY,J bW,J bH]))] []=some (ZcX P):=by
 have w1:=wi (bX+bW) (by omega) (by omega);have w2:=wi (bY+bH) (by omega) (by omega);have c2:(0:Int)<((2:Nat):Int):=by omega
 obtain⟨o,a,q,t,ks⟩:=P;simp only[ZcX] at hp ⊢;have e2:=Zpj cP cT cX cY cW cH 2 cX cW bX (bX+bW) (.inl ⟨rfl,rfl,rfl⟩) hc hb.1 (by omega) (by omega);have e3:=Zpj cP cT cX cY cW cH 3 cY cH bY (bY+bH) (.inr ⟨rfl,rfl,rfl⟩) hc hb.2.1 (by omega) (by omega);have ae:r=[]∨∃ y,r=[y]:=by
  have h1:(x :: r).length≤2:=by
   rw[← he];cases d
   ·exact Zlh _ _ _ _
   ·exact Zlh _ _ _ _
  match r,h1 with
  | [],_=>exact .inl rfl
  | [y],_=>exact .inr ⟨y,rfl⟩
  | y :: z :: r,h1=>simp at h1
 cases d with
 | true=>
  simp only[Km,VX] at he hn hx hp;rw[he] at e2;have w3:=wi (x-bX) (by omega) (by omega);have p1:=ZhR cP cT cX cY cW cH 2 cX cW x true (.inl ⟨rfl,rfl,rfl⟩) hc hn;have p2:=ZhR cP cT cX cY cW cH 2 cX cW x false (.inl ⟨rfl,rfl,rfl⟩) hc hn;generalize aa:(if true=decide (cX+cW≤x) then [D.agg [J cP,.bool cT,J cX,J cY,J cW,J cH]] else [])=A at p1 hp;have hA:uni 6 A:=by rw[← aa];split<;>simp[uni,D.cells]
  generalize ab:(if false=decide (cX+cW≤x) then [D.agg [J cP,.bool cT,J cX,J cY,J cW,J cH]] else [])=B at p2 hp;have hB:uni 6 B:=by rw[← ab];split<;>simp[uni,D.cells]
  refine cE ?_;simp +contextual -implicitDefEqProofs (maxSteps:=10^7) only[go_sem,seval,↓gZ,Js,ad,← LN];refine ZY Xs Ms ?_;rcases ae with rfl | ⟨y,rfl⟩
  ·simp only[Kj,Ku,Ys] at e2;simp +contextual -implicitDefEqProofs (maxSteps:=10^7) only[go_sem,seval,↓gZ,w1,e2];refine ZY Xs Ms ?_;simp +contextual -implicitDefEqProofs (maxSteps:=10^7) only[go_sem,seval,↓gZ,p1,p2,w3,hp,hA,hB,c2]
  ·simp only[Kj,Ku,Ys] at e2;simp +contextual -implicitDefEqProofs (maxSteps:=10^7) only[go_sem,seval,↓gZ,w1,e2];refine ZY Xs Ms ?_;simp +contextual -implicitDefEqProofs (maxSteps:=10^7) only[go_sem,seval,↓gZ,p1,p2,w3,hp,hA,hB,c2]
 | false=>
  simp only[Ka,Ko,VX] at he hn hx hp;rw[h2 rfl] at e2;rw[he] at e3;simp only[Ku] at e2;have w3:=wi (x-bY) (by omega) (by omega);have p1:=ZhR cP cT cX cY cW cH 3 cY cH x true (.inr ⟨rfl,rfl,rfl⟩) hc hn;have p2:=ZhR cP cT cX cY cW cH 3 cY cH x false (.inr ⟨rfl,rfl,rfl⟩) hc hn;generalize aa:(if true=decide (cY+cH≤x) then [D.agg [J cP,.bool cT,J cX,J cY,J cW,J cH]] else [])=A at p1 hp;have hA:uni 6 A:=by rw[← aa];split<;>simp[uni,D.cells]
  generalize ab:(if false=decide (cY+cH≤x) then [D.agg [J cP,.bool cT,J cX,J cY,J cW,J cH]] else [])=B at p2 hp;have hB:uni 6 B:=by rw[← ab];split<;>simp[uni,D.cells]
  refine cE ?_;simp +contextual -implicitDefEqProofs (maxSteps:=10^7) only[go_sem,seval,↓gZ,Js,ad,← LN];refine ZY Xs Ms ?_;simp +contextual -implicitDefEqProofs (maxSteps:=10^7) only[go_sem,seval,↓gZ,w1,e2];refine ZY Xs Ms ?_;simp +contextual -implicitDefEqProofs (maxSteps:=10^7) only[go_sem,seval,↓gZ];refine ZY Xs Ms ?_;rcases ae with rfl | ⟨y,rfl⟩
  ·simp only[Kj,Ku,Ys] at e3;simp +contextual -implicitDefEqProofs (maxSteps:=10^7) only[go_sem,seval,↓gZ,w1,w2,e3];refine ZY Xs Ms ?_;simp +contextual -implicitDefEqProofs (maxSteps:=10^7) only[go_sem,seval,↓gZ,p1,p2,w3,hp,hA,hB,c2]
  ·simp only[Kj,Ku,Ys] at e3;simp +contextual -implicitDefEqProofs (maxSteps:=10^7) only[go_sem,seval,↓gZ,w1,w2,e3];refine ZY Xs Ms ?_;simp +contextual -implicitDefEqProofs (maxSteps:=10^7) only[go_sem,seval,↓gZ,p1,p2,w3,hp,hA,hB,c2]
def X0 (i:Int) (t:Bool) (X Y W H bX bY bW bH:Int):BT:=
 let t4:=if Y+H<bY+bH then BT.cut false H (.pane i t) .waste else .pane i t
 let t3:=if bY<Y then BT.cut false (Y-bY) .waste t4 else t4
 let t2:=if X+W<bX+bW then BT.cut true W t3 .waste else t3
 if bX<X then BT.cut true (X-bX) .waste t2 else t2
def Zgj (X Y W H bX bY bW bH:Int):Prop:=0≤bX∧bX≤X∧0≤bY∧bY≤Y∧1≤W∧1≤H∧X+W≤bX+bW∧Y+H≤bY+bH∧bX+bW≤1000∧bY+bH≤1000
theorem Zg5 (cP:Int) (cT:Bool) (cX cY cW cH:Int) (bH:Int) (h:Zgj cX cY cW cH cX cY cW bH):Ze Xs Ms Qr [.d (.sl [.agg [J cP,.bool cT,J cX,J cY,J cW,J cH]]),.d (.agg [J cX,J cY,J cW,J bH])] []=some (ZcX (X0 cP cT cX cY cW cH cX cY cW bH).plan):=by
 have hh:=h;unfold Zgj at h;unfold X0;rw[Kd (show ¬cX<cX by omega),Kd (show ¬cX+cW<cX+cW by omega),Kd (show ¬cY<cY by omega)];by_cases hl:cY+cH<cY+bH
 ·rw[Ki hl];have hb:=JX [D.agg [J cP,.bool cT,J cX,J cY,J cW,J cH]] [] cX cY cW bH false cH (.pane cP cT) .waste (by simp[uni,D.cells]) (by simp[uni]) (by unfold R64;omega) (by unfold R64;omega) (by unfold R64;omega) (by unfold R64;omega) (Zg4 _ _ _ _ _ _) (Za6 _ _ _ _);refine JY cP cT cX cY cW cH cX cY cW bH false (cY+cH) [] _ (by omega) (by omega) (by omega) (fun _=>?_) ?_ ?_ ?_ ?_
  ·unfold Vz;rw[Kd (by omega),Kd (by omega)];rfl
  ·simp only[Ka,Ko];unfold Vz;rw[Kd (by omega),Ki (by omega)];rfl
  ·simp only[Ka,Ko];omega
  ·simp only[Ka,Ko];omega
  ·simp only[Ka,Ko,Int.le_refl,decide_true,Km];rw[show cY+cH-cY=cH by omega];exact hb
 ·rw[Kd hl];have:bH=cH:=by omega
  subst this;exact Zg4 _ _ _ _ _ _
theorem Zg6 (cP:Int) (cT:Bool) (cX cY cW cH:Int) (bY bH:Int) (h:Zgj cX cY cW cH cX bY cW bH):Ze Xs Ms Qr [.d (.sl [.agg [J cP,.bool cT,J cX,J cY,J cW,J cH]]),.d (.agg [J cX,J bY,J cW,J bH])] []=some (ZcX (X0 cP cT cX cY cW cH cX bY cW bH).plan):=by
 by_cases hl:bY<cY
 ·have h4:=Zg5 cP cT cX cY cW cH (bY+bH-cY) (by unfold Zgj at h ⊢;omega);unfold Zgj at h;have e:X0 cP cT cX cY cW cH cX bY cW bH=.cut false (cY-bY) .waste (X0 cP cT cX cY cW cH cX cY cW (bY+bH-cY)):=by
   unfold X0;rw[Kd (show ¬cX<cX by omega),Kd (show ¬cX+cW<cX+cW by omega),Ki hl,Kd (show ¬cX<cX by omega),Kd (show ¬cX+cW<cX+cW by omega),Kd (show ¬cY<cY by omega),show cY+(bY+bH-cY)=bY+bH by omega]
  rw[e];generalize X0 cP cT cX cY cW cH cX cY cW (bY+bH-cY)=Q at h4 ⊢;have hb:=JX [] [D.agg [J cP,.bool cT,J cX,J cY,J cW,J cH]] cX bY cW bH false (cY-bY) .waste Q (by simp[uni]) (by simp[uni,D.cells]) (by unfold R64;omega) (by unfold R64;omega) (by unfold R64;omega) (by unfold R64;omega) (Za6 _ _ _ _) (by
   simp only[Ka,Ko];rw[show bY+(cY-bY)=cY by omega,show bH-(cY-bY)=bY+bH-cY by omega];exact h4)
  refine JY cP cT cX cY cW cH cX bY cW bH false cY (if cY+cH<bY+bH then [cY+cH] else []) _ (by omega) (by omega) (by omega) (fun _=>?_) ?_ ?_ ?_ ?_
  ·unfold Vz;rw[Kd (by omega),Kd (by omega)];rfl
  ·simp only[Ka,Ko];unfold Vz;rw[Ki (by omega)];by_cases h5:cY+cH<bY+bH
   ·rw[Ki (by omega),Ki h5];rfl
   ·rw[Kd (by omega),Kd h5];rfl
  ·simp only[Ka,Ko];omega
  ·simp only[Ka,Ko];omega
  ·simp only[Ka,Ko];rw[Kk (show ¬cY+cH≤cY by omega)];simp only[L5,Ko,Km];exact hb
 ·unfold Zgj at h;have:bY=cY:=by omega
  subst this;exact Zg5 cP cT cX bY cW cH bH (by unfold Zgj;omega)
theorem Zg7 (cP:Int) (cT:Bool) (cX cY cW cH:Int) (bY bW bH:Int) (h:Zgj cX cY cW cH cX bY bW bH):Ze Xs Ms Qr [.d (.sl [.agg [J cP,.bool cT,J cX,J cY,J cW,J cH]]),.d (.agg [J cX,J bY,J bW,J bH])] []=some (ZcX (X0 cP cT cX cY cW cH cX bY bW bH).plan):=by
 by_cases hl:cX+cW<cX+bW
 ·have h3:=Zg6 cP cT cX cY cW cH bY bH (by unfold Zgj at h ⊢;omega);unfold Zgj at h;have e:X0 cP cT cX cY cW cH cX bY bW bH=.cut true cW (X0 cP cT cX cY cW cH cX bY cW bH) .waste:=by
   unfold X0;rw[Kd (show ¬cX<cX by omega),Ki hl,Kd (show ¬cX<cX by omega),Kd (show ¬cX+cW<cX+cW by omega)]
  rw[e];generalize X0 cP cT cX cY cW cH cX bY cW bH=Q at h3 ⊢;have hb:=JX [D.agg [J cP,.bool cT,J cX,J cY,J cW,J cH]] [] cX bY bW bH true cW Q .waste (by simp[uni,D.cells]) (by simp[uni]) (by unfold R64;omega) (by unfold R64;omega) (by unfold R64;omega) (by unfold R64;omega) (by simp only[Km];exact h3) (Za6 _ _ _ _);refine JY cP cT cX cY cW cH cX bY bW bH true (cX+cW) [] _ (by omega) (by omega) (by omega) (fun e=>by cases e) ?_ ?_ ?_ ?_
  ·simp only[Km];unfold Vz;rw[Kd (by omega),Ki (by omega)];rfl
  ·simp only[Km];omega
  ·simp only[Km];omega
  ·simp only[Km,Int.le_refl,decide_true,Ka,Ko];rw[show cX+cW-cX=cW by omega];exact hb
 ·unfold Zgj at h;have:bW=cW:=by omega
  subst this;exact Zg6 cP cT cX cY bW cH bY bH (by unfold Zgj;omega)
theorem ZqA (cP:Int) (cT:Bool) (cX cY cW cH:Int) (bX bY bW bH:Int) (h:Zgj cX cY cW cH bX bY bW bH):Ze Xs Ms Qr [.d (.sl [.agg [J cP,.bool cT,J cX,J cY,J cW,J cH]]),.d (.agg [J bX,J bY,J bW,J bH])] []=some (ZcX (X0 cP cT cX cY cW cH bX bY bW bH).plan):=by
 by_cases hl:bX<cX
 ·have h2:=Zg7 cP cT cX cY cW cH bY (bX+bW-cX) bH (by unfold Zgj at h ⊢;omega);unfold Zgj at h;have e:X0 cP cT cX cY cW cH bX bY bW bH=.cut true (cX-bX) .waste (X0 cP cT cX cY cW cH cX bY (bX+bW-cX) bH):=by
   unfold X0;rw[Ki hl,Kd (show ¬cX<cX by omega),show cX+(bX+bW-cX)=bX+bW by omega]
  rw[e];generalize X0 cP cT cX cY cW cH cX bY (bX+bW-cX) bH=Q at h2 ⊢;have hb:=JX [] [D.agg [J cP,.bool cT,J cX,J cY,J cW,J cH]] bX bY bW bH true (cX-bX) .waste Q (by simp[uni]) (by simp[uni,D.cells]) (by unfold R64;omega) (by unfold R64;omega) (by unfold R64;omega) (by unfold R64;omega) (Za6 _ _ _ _) (by
   simp only[Km];rw[show bX+(cX-bX)=cX by omega,show bW-(cX-bX)=bX+bW-cX by omega];exact h2)
  refine JY cP cT cX cY cW cH bX bY bW bH true cX (if cX+cW<bX+bW then [cX+cW] else []) _ (by omega) (by omega) (by omega) (fun e=>by cases e) ?_ ?_ ?_ ?_
  ·simp only[Km];unfold Vz;rw[Ki (by omega)];by_cases h5:cX+cW<bX+bW
   ·rw[Ki (by omega),Ki h5];rfl
   ·rw[Kd (by omega),Kd h5];rfl
  ·simp only[Km];omega
  ·simp only[Km];omega
  ·simp only[Km];rw[Kk (show ¬cX+cW≤cX by omega)];simp only[L5,Ko,Km];exact hb
 ·unfold Zgj at h;have:bX=cX:=by omega
  subst this;exact Zg7 cP cT bX cY cW cH bY bW bH (by unfold Zgj;omega)
@[go_sem] theorem rep_5 {α:Type} (a:α):List.replicate 5 a=[a,a,a,a,a]:=rfl
@[go_sem] theorem rep_8 {α:Type} (a:α):List.replicate 8 a=[a,a,a,a,a,a,a,a]:=rfl
@[go_sem] theorem rep_15 {α:Type} (a:α):List.replicate 15 a=[a,a,a,a,a,a,a,a,a,a,a,a,a,a,a]:=rfl
theorem Zvr:∀ {l:List Zb} {b:Int},Xw b l→∀ x∈l,b<x.Label
 | [],_,_,x,hx=>by simp at hx
 | y :: l,b,h,x,hx=>by
  rcases Kf.1 hx with rfl | hx
  ·exact h.2.1
  ·have:=Zvr h.2.2 x hx;have:=h.2.1;omega
theorem ZxQ:∀ {l:List Zb} {b:Int} {k j:Nat} {x:Zb},Xw b l→l[j]?=some x→Qv k l x.Label=((k+j:Nat):Int)
 | [],_,k,j,x,_,hx=>by simp at hx
 | y :: l,b,k,0,x,h,hx=>by
  simp only[Lk,Option.some.injEq] at hx;subst hx;simp[Qv]
 | y :: l,b,k,j+1,x,h,hx=>by
  simp only[Ll] at hx;have h1:=Zvr h.2.2 x (Kc hx);unfold Qv;rw[Kd (by omega),ZxQ (k:=k+1) h.2.2 hx];congr 1
  omega
def cutE (i:Nat) (t:Bool) (b:Box) (q:Zb):Zz:=⟨3,q.Label,⟨0,0,0,0⟩,⟨⟨0,0,false,0⟩,0⟩,(X0 i t b.X b.Y b.W b.H 0 0 q.W q.H).plan⟩
def Zvs (s:Zq) (i:Nat) (x:Zc):Option Zz:=
 if Zio s.Stock x.Pane<0 then none else match s.Stock[(Zio s.Stock x.Pane).toNat]? with
 | none=>none
 | some q=>match JW q x.Pane.W x.Pane.H with
  | some b=>some (cutE i false b q)
  | none=>match JW q x.Pane.H x.Pane.W with
   | some b=>some (cutE i true b q)
   | none=>none
def ZaV (s:Zq):List Zc→Nat→Option Zz
 | [],_=>none
 | x :: r,i=>match Zvs s i x with
  | some e=>if (QZ s e).isSome=true then some e else ZaV s r (i+1)
  | none=>ZaV s r (i+1)
def Zkc (s:Zq):Option Zz:=ZaV s s.Opn 0
theorem Zvt {s:Zq} {l:List Zc} {k i:Nat} {x:Zc} (hx:l[k]?=some x):ZaV s (l.drop k) i=match Zvs s i x with
  | some e=>if (QZ s e).isSome=true then some e else ZaV s (l.drop (k+1)) (i+1)
  | none=>ZaV s (l.drop (k+1)) (i+1):=by
 obtain⟨h1,h2⟩:=Kb.1 hx;rw[Kw h1,h2,ZaV]
theorem Zw0 {s:Zq} {l:List Zc} {i:Nat}:ZaV s (l.drop l.length) i=none:=by simp[ZaV]
def nxV:Option Zz→AV×List Zl
 | some ⟨k,l,⟨x,y,w,h⟩,⟨⟨pw,ph,pt,pk⟩,c⟩,.mk o a q t ks⟩=>(.tup [.agg [(.d (J k)),(.d (J l)),(.d (J x)),(.d (J y)),(.d (J w)),(.d (J h)),(.d (J pw)),(.d (J ph)),(.d (.bool pt)),(.d (J pk)),(.d (J c)),(.d (J o)),(.d (J a)),(.d (J q)),(.d (.bool t)),.own 0],(.d (.bool true))],[.row 5 (ks.map Zf.enc) true false])
 | none=>(.tup [.agg [(.d (J 0)),(.d (J 0)),(.d (J 0)),(.d (J 0)),(.d (J 0)),(.d (J 0)),(.d (J 0)),(.d (J 0)),(.d (.bool false)),(.d (J 0)),(.d (J 0)),(.d (J 0)),(.d (J 0)),(.d (J 0)),(.d (.bool false)),.own 0],(.d (.bool false))],[.row 5 [] true false])
theorem ZtC (sS:List Zb) (sO sD:List Zc) (sL sC:Int) (hv:WSh (Zq.mk sS sO sD sL sC)):Ze Xs Ms Zbp [(.d (.agg [.sl (sS.map Zb.enc),.sl (sO.map Zc.enc),.sl (sD.map Zc.enc),J sL,J sC]))] []=some (nxV (Zkc (Zq.mk sS sO sD sL sC))):=by
 have ak:=hv.2.1;have ag:=hv.1.1;simp only at ak ag;refine cE ?_;simp +contextual -implicitDefEqProofs (maxSteps:=10^7) only[go_sem,seval,↓gZ,Zhg];refine LO (α:=Nat) (fun i=>[(4,.d (J (i:Int)))]) (fun _=>[]) (fun i=>i≤sO.length∧ZaV (Zq.mk sS sO sD sL sC) (sO.drop i) i=Zkc (Zq.mk sS sO sD sL sC)) (fun i=>sO.length-i) 0 ⟨by omega,by simp[Zkc]⟩ ?_;intro i ⟨hi,hp⟩ ih;by_cases ab:i<sO.length
 ·obtain⟨x,hx⟩:=Zr ab;have hw:=Zj (k:=i) (by omega);rw[Zvt hx] at hp;have aa:=hv.2.2.1 x (Kc hx);obtain⟨⟨W,H,T,K⟩,C⟩:=x;simp only at aa;have ad:1≤W∧W≤200∧1≤H∧H≤200:=⟨aa.1.1,aa.1.2.1,aa.1.2.2.1,aa.1.2.2.2.1⟩
  have ef:=Zpi sS W H T K hv.1 aa.1;unfold ZAl at ef;rw[Ki ⟨hv.1,aa.1⟩] at ef;unfold Zvs at hp;simp only at hp;rcases ZAm sS ⟨W,H,T,K⟩ with h0 | ⟨j,q,hj,hq,ah⟩
  ·rw[Ki h0] at ef hp;simp only at hp;simp +contextual -implicitDefEqProofs (maxSteps:=10^7) only[go_sem,seval,↓gZ,hx,ab,hw,ef];refine ih (i+1) _ ⟨by omega,hp⟩ (by omega) ?_;simp +contextual -implicitDefEqProofs (maxSteps:=10^7) only[go_sem,seval,↓gZ]
  ·have al:¬(j:Int)<0:=by omega
   rw[hj,Kd al,KD,hq] at ef hp;simp only at hp ef;have ai:=Ql hv.1.2 q (Kc hq);have af:=(Kb.1 hq).1;have el:=Yi sS q.Label (by omega);rw[ZxQ hv.1.2 hq,K2] at el;have f1:=U1 q.Label q.W q.H q.Flaws W H ai ⟨ad.1,ad.2.1⟩ ad.2.2;have f2:=U1 q.Label q.W q.H q.Flaws H W ai ad.2.2 ⟨ad.1,ad.2.1⟩;have am:=ai.1;have aj:∀ (t:Bool) (w h:Int) (b:Box),1≤w→1≤h→JW q w h=some b→∃ (o a p:Int) (t' : Bool) (ks:List Zf),(X0 i t b.X b.Y b.W b.H 0 0 q.W q.H).plan=.mk o a p t' ks∧Ze Xs Ms Qr [.d (.sl [.agg [J i,.bool t,J b.X,J b.Y,J b.W,J b.H]]),.d (.agg [J 0,J 0,J q.W,J q.H])] []=some (.tup [.agg [(.d (J o)),(.d (J a)),(.d (J p)),(.d (.bool (t'))),.own 0],(.d (.bool true))],[.row 5 (ks.map Zf.enc) true false]):=fun t w h b an ao hb=>by
    obtain⟨g1,g2,g3,g4,g5,g6,_⟩:=Zvp hb;have e:=ZqA i t b.X b.Y b.W b.H 0 0 q.W q.H (by unfold Zgj;omega);cases hpp:(X0 i t b.X b.Y b.W b.H 0 0 q.W q.H).plan with
    | mk o a p t' ks=>
     rw[hpp] at e;exact⟨o,a,p,t',ks,rfl,e⟩
   have ae:¬q.Label=0:=by omega
   obtain⟨qL,qW,qH,qF⟩:=q;simp only at ef el f1 f2 aj ae hp;cases h1:JW ⟨qL,qW,qH,qF⟩ W H with
   | some b=>
    obtain⟨o,a,p,t',ks,e1,e2⟩:=aj false W H b (by omega) (by omega) h1;rw[h1] at f1 hp;unfold cutE at hp;simp only[e1] at hp;have ea:=ZaU sS sO sD sL sC 3 qL 0 0 0 0 0 0 false 0 0 o a p t' ks hv rfl;obtain⟨bX,bY,bW,bH⟩:=b;unfold fcV at f1;simp only at f1 e2 hp;cases hap:QZ (Zq.mk sS sO sD sL sC) ⟨3,qL,⟨0,0,0,0⟩,⟨⟨0,0,false,0⟩,0⟩,.mk o a p t' ks⟩ with
    | none=>
     rw[hap] at ea hp;simp only[Lh,Ka,Ko] at hp;unfold shV at ea;simp +contextual -implicitDefEqProofs (maxSteps:=10^7) only[go_sem,seval,↓gZ,hx,ab,hw,ef,el,f1,e2,ea,ae,af,hq];refine ih (i+1) _ ⟨by omega,hp⟩ (by omega) ?_;simp +contextual -implicitDefEqProofs (maxSteps:=10^7) only[go_sem,seval,↓gZ]
    | some u=>
     rw[hap] at ea hp;simp only[Lx,Km] at hp;rw[← hp];unfold shV at ea;unfold nxV;simp +contextual -implicitDefEqProofs (maxSteps:=10^7) only[go_sem,seval,↓gZ,hx,ab,hw,ef,el,f1,e2,ea,ae,af,hq]
   | none=>
    rw[h1] at f1 hp;unfold fcV at f1;simp only at hp;cases h2:JW ⟨qL,qW,qH,qF⟩ H W with
    | none=>
     exfalso
     unfold okP at ah;simp only[h1,h2] at ah;simp at ah
    | some b=>
     obtain⟨o,a,p,t',ks,e1,e2⟩:=aj true H W b (by omega) (by omega) h2;rw[h2] at f2 hp;unfold cutE at hp;simp only[e1] at hp;have ea:=ZaU sS sO sD sL sC 3 qL 0 0 0 0 0 0 false 0 0 o a p t' ks hv rfl;obtain⟨bX,bY,bW,bH⟩:=b;unfold fcV at f2;simp only at f2 e2 hp;cases hap:QZ (Zq.mk sS sO sD sL sC) ⟨3,qL,⟨0,0,0,0⟩,⟨⟨0,0,false,0⟩,0⟩,.mk o a p t' ks⟩ with
     | none=>
      rw[hap] at ea hp;simp only[Lh,Ka,Ko] at hp;unfold shV at ea;simp +contextual -implicitDefEqProofs (maxSteps:=10^7) only[go_sem,seval,↓gZ,hx,ab,hw,ef,el,f1,f2,e2,ea,ae,af,hq];refine ih (i+1) _ ⟨by omega,hp⟩ (by omega) ?_;simp +contextual -implicitDefEqProofs (maxSteps:=10^7) only[go_sem,seval,↓gZ]
     | some u=>
      rw[hap] at ea hp;simp only[Lx,Km] at hp;rw[← hp];unfold shV at ea;unfold nxV;simp +contextual -implicitDefEqProofs (maxSteps:=10^7) only[go_sem,seval,↓gZ,hx,ab,hw,ef,el,f1,f2,e2,ea,ae,af,hq]
 ·have:i=sO.length:=by omega
  subst this;rw[Zw0] at hp;rw[← hp];unfold nxV;simp +contextual -implicitDefEqProofs (maxSteps:=10^7) only[go_sem,seval,↓gZ]
theorem Zw1 {s:Zq} {i:Nat} {x:Zc} {e:Zz} (h:Zvs s i x=some e):e.kind=3:=by
 unfold Zvs at h;split at h
 ·cases h
 ·split at h
  ·cases h
  ·split at h
   ·cases h;rfl
   ·split at h
    ·cases h;rfl
    ·cases h
theorem Zg8 {s:Zq}:∀ {l:List Zc} {i:Nat} {e:Zz},ZaV s l i=some e→e.kind=3
 | [],i,e,h=>by simp[ZaV] at h
 | x :: l,i,e,h=>by
  unfold ZaV at h;split at h
  ·split at h
   ·cases h;exact Zw1 (by assumption)
   ·exact Zg8 h
  ·exact Zg8 h
theorem Zip (bs:List UInt8) (hb:bs.length≤2000) (p:Nat) (hp:p<900000000):∃ (W H:Int) (T:Bool) (K:Int),Ze Xs Ms J4 [.ptr 0 0] [.box [.d (.sl (bs.map JB)),(.d (J p))]]=some (.d (.agg [J W,J H,.bool T,J K]),[.box [.d (.sl (bs.map JB)),(.d (J ((p+4:Nat))))]]):=by
 have p1:=Qk bs p 8 hb (by omega);have p2:=Qk bs (p+1) 8 hb (by omega);have p3:=Qk bs (p+2) 2 hb (by omega);have p4:=Qk bs (p+3) 3 hb (by omega);generalize QW bs p 8=a1 at p1;generalize QW bs (p+1) 8=a2 at p2;generalize QW bs (p+2) 2=a3 at p3;generalize QW bs (p+3) 3=a4 at p4;refine⟨IntKind.i64.wrap (1+a1),IntKind.i64.wrap (1+a2),decide (a3=0),a4,?_⟩;refine cE ?_;simp +contextual -implicitDefEqProofs (maxSteps:=10^7) only[go_sem,seval,↓gZ,ZfJ,p1,p2,p3,p4]
def PEv (bs:List UInt8) (p:Nat) (r:AV×List Zl):Prop:=∃ (K L X Y W H pW pH:Int) (pT:Bool) (pK C o a q:Int) (t:Bool) (ks:List Zf) (p' : Nat),(K=0→I5 W∧I5 H)∧p≤p'∧p'≤p+10 ∧
 r=(.agg [(.d (J K)),(.d (J L)),(.d (J X)),(.d (J Y)),(.d (J W)),(.d (J H)),(.d (J pW)),(.d (J pH)),(.d (.bool pT)),(.d (J pK)),(.d (J C)),(.d (J o)),(.d (J a)),(.d (J q)),(.d (.bool t)),.own 1],[.box [.d (.sl (bs.map JB)),(.d (J (p')))],.row 5 (ks.map Zf.enc) true false])
theorem Zg9 (bs:List UInt8) (hb:bs.length≤2000) (p:Nat) (hp:p<800000000) (sS:List Zb) (sO sD:List Zc) (sL sC:Int) (hv:WSh (Zq.mk sS sO sD sL sC)):∃ r,Ze Xs Ms Wb [.ptr 0 0,(.d (.agg [.sl (sS.map Zb.enc),.sl (sO.map Zc.enc),.sl (sD.map Zc.enc),J sL,J sC]))] [.box [.d (.sl (bs.map JB)),(.d (J p))]]=some r∧PEv bs p r:=by
 have ah:=hv.1.1;have h8:=hv.2.2.2.1.1;simp only at ah h8;have eL:=ZgZ sS (by omega);have eN:=ZtC sS sO sD sL sC hv;have af:=fun e=>@Zg8 (Zq.mk sS sO sD sL sC) sO 0 e;generalize V3 sS=ll at eL;refine cW ?_;by_cases h0:(0:Int)<(sS.length:Int)
 ·have u0:=Qk bs p sS.length hb (by omega);have u1:=Za4 bs p sS.length;have u2:=ZhQ bs p sS.length (by omega);obtain⟨i,hi⟩:∃ i:Nat,QW bs p (sS.length:Int)=(i:Int):=⟨(QW bs p (sS.length:Int)).toNat,by omega⟩
  rw[hi] at u0 u2;have aa:i<sS.length:=by omega
  obtain⟨x,hx⟩:=Zr aa;obtain⟨lb,qW,qH,qF⟩:=x;obtain⟨p1,ai⟩:∃ p1,p1=p+1:=⟨_,rfl⟩
  rw[← ai] at u0;have c0:=Qk bs p1 9 hb (by omega);generalize QW bs p1 9=c at c0;by_cases ab:c=0∨c=1
  ·obtain⟨W,hW,eW⟩:=UE bs (p1+1) [20,12,30,8] hb (by omega) (by decide);obtain⟨H,hH,eH⟩:=UE bs (p1+2) [16,10,24,8] hb (by omega) (by decide);have iW:I5 W:=by simp only[Kf,Ky,or_false] at hW;unfold I5;omega
   have iH:I5 H:=by simp only[Kf,Ky,or_false] at hH;unfold I5;omega
   simp only[Kj,Ku,Ys] at eW eH;rcases ab with rfl | rfl
   ·simp +contextual -implicitDefEqProofs (maxSteps:=10^7) only[go_sem,seval,↓gZ,Zu,h0,u0,aa,hx,c0,eL,eW,eH];exact⟨0,(IntKind.i64.wrap (ll+1)),0,0,W,H,0,0,false,0,0,0,0,0,false,[],(p1+3),fun _=>⟨iW,iH⟩,by omega,by omega,rfl⟩
   ·simp +contextual -implicitDefEqProofs (maxSteps:=10^7) only[go_sem,seval,↓gZ,Zu,h0,u0,aa,hx,c0,eL,eW,eH];exact⟨0,(IntKind.i64.wrap (ll+1)),0,0,W,H,0,0,false,0,0,0,0,0,false,[],(p1+3),fun _=>⟨iW,iH⟩,by omega,by omega,rfl⟩
  ·have k0:¬c=0:=fun h=>ab (.inl h);have k1:¬c=1:=fun h=>ab (.inr h);by_cases k2:c=2
   ·obtain⟨X,Y,W,H,eB⟩:=Zj4 bs hb (p1+1) (by omega) 8 8;subst k2;simp +contextual -implicitDefEqProofs (maxSteps:=10^7) only[go_sem,seval,↓gZ,Zu,h0,u0,aa,hx,c0,eB];exact⟨1,lb,X,Y,W,H,0,0,false,0,0,0,0,0,false,[],(p1+5),(fun e=>by cases e),by omega,by omega,rfl⟩
   ·by_cases ad:c=3∨c=4
    ·obtain⟨W,H,T,K,eP⟩:=Zip bs hb (p1+1) (by omega);have c5:=Qk bs (p1+5) 3 hb (by omega);generalize QW bs (p1+5) 3=v at c5;rcases ad with rfl | rfl
     ·simp +contextual -implicitDefEqProofs (maxSteps:=10^7) only[go_sem,seval,↓gZ,Zu,h0,u0,aa,hx,c0,eP,c5];exact⟨2,0,0,0,0,0,W,H,T,K,(IntKind.i64.wrap (1+v)),0,0,0,false,[],(p1+6),(fun e=>by cases e),by omega,by omega,rfl⟩
     ·simp +contextual -implicitDefEqProofs (maxSteps:=10^7) only[go_sem,seval,↓gZ,Zu,h0,u0,aa,hx,c0,eP,c5];exact⟨2,0,0,0,0,0,W,H,T,K,(IntKind.i64.wrap (1+v)),0,0,0,false,[],(p1+6),(fun e=>by cases e),by omega,by omega,rfl⟩
    ·have k3:¬c=3:=fun h=>ad (.inl h);have k4:¬c=4:=fun h=>ad (.inr h);by_cases k5:c=5
     ·subst k5;by_cases hd:(0:Int)<(sD.length:Int)
      ·have d0:=Qk bs (p1+1) sD.length hb (by omega);have d1:=Za4 bs (p1+1) sD.length;have d2:=ZhQ bs (p1+1) sD.length (by omega);obtain⟨j,hj⟩:∃ j:Nat,QW bs (p1+1) (sD.length:Int)=(j:Int):=⟨(QW bs (p1+1) (sD.length:Int)).toNat,by omega⟩
       rw[hj] at d0 d2;have ag:j<sD.length:=by omega
       obtain⟨z,hz⟩:=Zr ag;obtain⟨⟨W,H,T,K⟩,C⟩:=z;have d3:=Qk bs (p1+2) C hb (by omega);generalize QW bs (p1+2) C=v at d3;simp +contextual -implicitDefEqProofs (maxSteps:=10^7) only[go_sem,seval,↓gZ,Zu,h0,u0,aa,hx,c0,hd,d0,ag,hz,d3];exact⟨4,0,0,0,0,0,W,H,T,K,(IntKind.i64.wrap (1+v)),0,0,0,false,[],(p1+3),(fun e=>by cases e),by omega,by omega,rfl⟩
      ·skip
       cases hN:Zkc (Zq.mk sS sO sD sL sC) with
       | none=>
        rw[hN] at eN;unfold nxV at eN;simp +contextual -implicitDefEqProofs (maxSteps:=10^7) only[go_sem,seval,↓gZ,Zu,h0,u0,aa,hx,c0,hd,eN,eL];exact⟨0,(IntKind.i64.wrap (ll+2)),0,0,15,11,0,0,false,0,0,0,0,0,false,[],(p1+1),fun _=>⟨by unfold I5;omega,by unfold I5;omega⟩,by omega,by omega,rfl⟩
       | some e=>
        have hk:=af e hN;rw[hN] at eN;obtain⟨k,l,⟨x,y,w,h⟩,⟨⟨pw,ph,pt,pk⟩,c9⟩,⟨o,a,q,t,ks⟩⟩:=e;unfold nxV at eN;simp only at eN hk;simp +contextual -implicitDefEqProofs (maxSteps:=10^7) only[go_sem,seval,↓gZ,Zu,h0,u0,aa,hx,c0,hd,eN];exact⟨k,l,x,y,w,h,pw,ph,pt,pk,c9,o,a,q,t,ks,(p1+1),fun e=>by omega,by omega,by omega,rfl⟩
     ·by_cases k6:c=6
      ·subst k6;have d3:=Qk bs (p1+1) 3 hb (by omega);generalize QW bs (p1+1) 3=v at d3;by_cases ae:v=0
       ·subst ae;simp +contextual -implicitDefEqProofs (maxSteps:=10^7) only[go_sem,seval,↓gZ,Zu,h0,u0,aa,hx,c0,d3];exact⟨5,lb,0,0,0,0,0,0,false,0,0,0,0,0,false,[],(p1+2),(fun e=>by cases e),by omega,by omega,rfl⟩
       ·skip
        cases hN:Zkc (Zq.mk sS sO sD sL sC) with
        | none=>
         rw[hN] at eN;unfold nxV at eN;simp +contextual -implicitDefEqProofs (maxSteps:=10^7) only[go_sem,seval,↓gZ,Zu,h0,u0,aa,hx,c0,d3,ae,eN,eL];exact⟨0,(IntKind.i64.wrap (ll+2)),0,0,15,11,0,0,false,0,0,0,0,0,false,[],(p1+2),fun _=>⟨by unfold I5;omega,by unfold I5;omega⟩,by omega,by omega,rfl⟩
        | some e=>
         have hk:=af e hN;rw[hN] at eN;obtain⟨k,l,⟨x,y,w,h⟩,⟨⟨pw,ph,pt,pk⟩,c9⟩,⟨o,a,q,t,ks⟩⟩:=e;unfold nxV at eN;simp only at eN hk;simp +contextual -implicitDefEqProofs (maxSteps:=10^7) only[go_sem,seval,↓gZ,Zu,h0,u0,aa,hx,c0,d3,ae,eN];exact⟨k,l,x,y,w,h,pw,ph,pt,pk,c9,o,a,q,t,ks,(p1+2),fun e=>by omega,by omega,by omega,rfl⟩
      ·skip
       cases hN:Zkc (Zq.mk sS sO sD sL sC) with
       | none=>
        rw[hN] at eN;unfold nxV at eN;simp +contextual -implicitDefEqProofs (maxSteps:=10^7) only[go_sem,seval,↓gZ,Zu,h0,u0,aa,hx,c0,k0,k1,k2,k3,k4,k5,k6,eN,eL];exact⟨0,(IntKind.i64.wrap (ll+2)),0,0,15,11,0,0,false,0,0,0,0,0,false,[],(p1+1),fun _=>⟨by unfold I5;omega,by unfold I5;omega⟩,by omega,by omega,rfl⟩
       | some e=>
        have hk:=af e hN;rw[hN] at eN;obtain⟨k,l,⟨x,y,w,h⟩,⟨⟨pw,ph,pt,pk⟩,c9⟩,⟨o,a,q,t,ks⟩⟩:=e;unfold nxV at eN;simp only at eN hk;simp +contextual -implicitDefEqProofs (maxSteps:=10^7) only[go_sem,seval,↓gZ,Zu,h0,u0,aa,hx,c0,k0,k1,k2,k3,k4,k5,k6,eN];exact⟨k,l,x,y,w,h,pw,ph,pt,pk,c9,o,a,q,t,ks,(p1+1),fun e=>by omega,by omega,by omega,rfl⟩
 ·skip
  have c0:=Qk bs p 9 hb (by omega);generalize QW bs p 9=c at c0;by_cases ab:c=0∨c=1
  ·obtain⟨W,hW,eW⟩:=UE bs (p+1) [20,12,30,8] hb (by omega) (by decide);obtain⟨H,hH,eH⟩:=UE bs (p+2) [16,10,24,8] hb (by omega) (by decide);have iW:I5 W:=by simp only[Kf,Ky,or_false] at hW;unfold I5;omega
   have iH:I5 H:=by simp only[Kf,Ky,or_false] at hH;unfold I5;omega
   simp only[Kj,Ku,Ys] at eW eH;rcases ab with rfl | rfl
   ·simp +contextual -implicitDefEqProofs (maxSteps:=10^7) only[go_sem,seval,↓gZ,Zu,h0,c0,eL,eW,eH];exact⟨0,(IntKind.i64.wrap (ll+1)),0,0,W,H,0,0,false,0,0,0,0,0,false,[],(p+3),fun _=>⟨iW,iH⟩,by omega,by omega,rfl⟩
   ·simp +contextual -implicitDefEqProofs (maxSteps:=10^7) only[go_sem,seval,↓gZ,Zu,h0,c0,eL,eW,eH];exact⟨0,(IntKind.i64.wrap (ll+1)),0,0,W,H,0,0,false,0,0,0,0,0,false,[],(p+3),fun _=>⟨iW,iH⟩,by omega,by omega,rfl⟩
  ·have k0:¬c=0:=fun h=>ab (.inl h);have k1:¬c=1:=fun h=>ab (.inr h);by_cases k2:c=2
   ·obtain⟨X,Y,W,H,eB⟩:=Zj4 bs hb (p+1) (by omega) 8 8;subst k2;simp +contextual -implicitDefEqProofs (maxSteps:=10^7) only[go_sem,seval,↓gZ,Zu,h0,c0,eB];exact⟨1,1,X,Y,W,H,0,0,false,0,0,0,0,0,false,[],(p+5),(fun e=>by cases e),by omega,by omega,rfl⟩
   ·by_cases ad:c=3∨c=4
    ·obtain⟨W,H,T,K,eP⟩:=Zip bs hb (p+1) (by omega);have c5:=Qk bs (p+5) 3 hb (by omega);generalize QW bs (p+5) 3=v at c5;rcases ad with rfl | rfl
     ·simp +contextual -implicitDefEqProofs (maxSteps:=10^7) only[go_sem,seval,↓gZ,Zu,h0,c0,eP,c5];exact⟨2,0,0,0,0,0,W,H,T,K,(IntKind.i64.wrap (1+v)),0,0,0,false,[],(p+6),(fun e=>by cases e),by omega,by omega,rfl⟩
     ·simp +contextual -implicitDefEqProofs (maxSteps:=10^7) only[go_sem,seval,↓gZ,Zu,h0,c0,eP,c5];exact⟨2,0,0,0,0,0,W,H,T,K,(IntKind.i64.wrap (1+v)),0,0,0,false,[],(p+6),(fun e=>by cases e),by omega,by omega,rfl⟩
    ·have k3:¬c=3:=fun h=>ad (.inl h);have k4:¬c=4:=fun h=>ad (.inr h);by_cases k5:c=5
     ·subst k5;by_cases hd:(0:Int)<(sD.length:Int)
      ·have d0:=Qk bs (p+1) sD.length hb (by omega);have d1:=Za4 bs (p+1) sD.length;have d2:=ZhQ bs (p+1) sD.length (by omega);obtain⟨j,hj⟩:∃ j:Nat,QW bs (p+1) (sD.length:Int)=(j:Int):=⟨(QW bs (p+1) (sD.length:Int)).toNat,by omega⟩
       rw[hj] at d0 d2;have ag:j<sD.length:=by omega
       obtain⟨z,hz⟩:=Zr ag;obtain⟨⟨W,H,T,K⟩,C⟩:=z;have d3:=Qk bs (p+2) C hb (by omega);generalize QW bs (p+2) C=v at d3;simp +contextual -implicitDefEqProofs (maxSteps:=10^7) only[go_sem,seval,↓gZ,Zu,h0,c0,hd,d0,ag,hz,d3];exact⟨4,0,0,0,0,0,W,H,T,K,(IntKind.i64.wrap (1+v)),0,0,0,false,[],(p+3),(fun e=>by cases e),by omega,by omega,rfl⟩
      ·skip
       cases hN:Zkc (Zq.mk sS sO sD sL sC) with
       | none=>
        rw[hN] at eN;unfold nxV at eN;simp +contextual -implicitDefEqProofs (maxSteps:=10^7) only[go_sem,seval,↓gZ,Zu,h0,c0,hd,eN,eL];exact⟨0,(IntKind.i64.wrap (ll+2)),0,0,15,11,0,0,false,0,0,0,0,0,false,[],(p+1),fun _=>⟨by unfold I5;omega,by unfold I5;omega⟩,by omega,by omega,rfl⟩
       | some e=>
        have hk:=af e hN;rw[hN] at eN;obtain⟨k,l,⟨x,y,w,h⟩,⟨⟨pw,ph,pt,pk⟩,c9⟩,⟨o,a,q,t,ks⟩⟩:=e;unfold nxV at eN;simp only at eN hk;simp +contextual -implicitDefEqProofs (maxSteps:=10^7) only[go_sem,seval,↓gZ,Zu,h0,c0,hd,eN];exact⟨k,l,x,y,w,h,pw,ph,pt,pk,c9,o,a,q,t,ks,(p+1),fun e=>by omega,by omega,by omega,rfl⟩
     ·by_cases k6:c=6
      ·subst k6;have d3:=Qk bs (p+1) 3 hb (by omega);generalize QW bs (p+1) 3=v at d3;by_cases ae:v=0
       ·subst ae;simp +contextual -implicitDefEqProofs (maxSteps:=10^7) only[go_sem,seval,↓gZ,Zu,h0,c0,d3];exact⟨5,1,0,0,0,0,0,0,false,0,0,0,0,0,false,[],(p+2),(fun e=>by cases e),by omega,by omega,rfl⟩
       ·skip
        cases hN:Zkc (Zq.mk sS sO sD sL sC) with
        | none=>
         rw[hN] at eN;unfold nxV at eN;simp +contextual -implicitDefEqProofs (maxSteps:=10^7) only[go_sem,seval,↓gZ,Zu,h0,c0,d3,ae,eN,eL];exact⟨0,(IntKind.i64.wrap (ll+2)),0,0,15,11,0,0,false,0,0,0,0,0,false,[],(p+2),fun _=>⟨by unfold I5;omega,by unfold I5;omega⟩,by omega,by omega,rfl⟩
        | some e=>
         have hk:=af e hN;rw[hN] at eN;obtain⟨k,l,⟨x,y,w,h⟩,⟨⟨pw,ph,pt,pk⟩,c9⟩,⟨o,a,q,t,ks⟩⟩:=e;unfold nxV at eN;simp only at eN hk;simp +contextual -implicitDefEqProofs (maxSteps:=10^7) only[go_sem,seval,↓gZ,Zu,h0,c0,d3,ae,eN];exact⟨k,l,x,y,w,h,pw,ph,pt,pk,c9,o,a,q,t,ks,(p+2),fun e=>by omega,by omega,by omega,rfl⟩
      ·skip
       cases hN:Zkc (Zq.mk sS sO sD sL sC) with
       | none=>
        rw[hN] at eN;unfold nxV at eN;simp +contextual -implicitDefEqProofs (maxSteps:=10^7) only[go_sem,seval,↓gZ,Zu,h0,c0,k0,k1,k2,k3,k4,k5,k6,eN,eL];exact⟨0,(IntKind.i64.wrap (ll+2)),0,0,15,11,0,0,false,0,0,0,0,0,false,[],(p+1),fun _=>⟨by unfold I5;omega,by unfold I5;omega⟩,by omega,by omega,rfl⟩
       | some e=>
        have hk:=af e hN;rw[hN] at eN;obtain⟨k,l,⟨x,y,w,h⟩,⟨⟨pw,ph,pt,pk⟩,c9⟩,⟨o,a,q,t,ks⟩⟩:=e;unfold nxV at eN;simp only at eN hk;simp +contextual -implicitDefEqProofs (maxSteps:=10^7) only[go_sem,seval,↓gZ,Zu,h0,c0,k0,k1,k2,k3,k4,k5,k6,eN];exact⟨k,l,x,y,w,h,pw,ph,pt,pk,c9,o,a,q,t,ks,(p+1),fun e=>by omega,by omega,by omega,rfl⟩
theorem Zpk:ZS ⟨[],[],[],0,0⟩:=by
 refine⟨⟨by simp,trivial⟩,⟨by simp,trivial,by simp[Ut]⟩,⟨by simp,trivial,by simp[Ut]⟩,?_⟩;simp[Y2,Zat]
def PBook (bs:List UInt8) (p:Nat) (r:AV×List Zl):Prop:=∃ (out:List Zz) (S:List Zb) (O D:List Zc) (L C:Int) (f:Bool) (p' : Nat),ZS ⟨S,O,D,L,C⟩∧out.length≤16∧p≤p'∧p'≤p+200 ∧
 r=(.tup [.own 1,.agg [.own 2,.own 3,.own 4,(.d (J L)),(.d (J C))]],[.box [.d (.sl (bs.map JB)),(.d (J (p')))],.row 16 (out.map Zz.enc) true false,.row 4 (S.map Zb.enc) true f,.row 5 (O.map Zc.enc) true f,.row 5 (D.map Zc.enc) true f])
theorem ZqB (bs:List UInt8) (hb:bs.length≤2000) (p:Nat) (hp:p<700000000) (aa:Int):∃ r,Ze Xs Ms J3 [.ptr 0 0,(.d (J aa))] [.box [.d (.sl (bs.map JB)),(.d (J p))]]=some r∧PBook bs p r:=by
 obtain⟨n,hn,eN⟩:=UE bs p [8,12,5,16,0,2] hb (by omega) (by decide);have ab : 0≤n∧n≤16:=by simp only[Kf,Ky,or_false] at hn;omega
 simp only[Kj,Ku,Ys] at eN;refine cW ?_;simp +contextual -implicitDefEqProofs (maxSteps:=10^7) only[go_sem,seval,↓gZ,ZfI,eN];refine LO (α:=Int×List Zz×Zq×Nat×Bool) (fun s=>[(8,.d (J s.1))]) (fun s=>[(0,.box [.d (.sl (bs.map JB)),(.d (J (s.2.2.2.1)))]),(1,.row 16 (s.2.1.map Zz.enc) true false),(2,.box [.own 4,.own 5,.own 6,(.d (J (s.2.2.1.Lost))),(.d (J (s.2.2.1.Came)))]),(4,.row 4 (s.2.2.1.Stock.map Zb.enc) true s.2.2.2.2),(5,.row 5 (s.2.2.1.Opn.map Zc.enc) true s.2.2.2.2),(6,.row 5 (s.2.2.1.Done.map Zc.enc) true s.2.2.2.2)]) (fun s=>0≤s.1∧s.1≤16∧(s.2.1.length:Int)≤16-s.1∧ZS s.2.2.1∧p+1≤s.2.2.2.1∧(s.2.2.2.1:Int)≤p+1+10*(16-s.1)) (fun s=>s.1.toNat) (n,[],⟨[],[],[],0,0⟩,p+1,false) ⟨ab.1,ab.2,by simp;omega,Zpk,by simp,by simp;omega⟩ ?_
 intro⟨m,out,⟨S,O,D,L,C⟩,pp,f⟩ ⟨i1,i2,i3,i4,i5,i6⟩ ih;simp only at i1 i2 i3 i4 i5 i6;by_cases hm:0<m
 ·by_cases ho:(out.length:Int)<aa
  ·obtain⟨r,eE,K,Lb,X,Y,W,H,pW,pH,pT,pK,Ct,o,a,q,t,ks,p',g1,g2,g3,rfl⟩:=Zg9 bs hb pp (by omega) S O D L C (ZtA i4);have ea:=Zgc S O D L C K Lb X Y W H pW pH pT pK Ct o a q t ks i4 (fun e=>(g1 e).1) (fun e=>(g1 e).2);have hw:=wi (m-1) (by omega) (by omega);have hr:(out.length+1)*144≤140737488355328∧out.length≤140737488355327:=by omega
   cases hap:QZ ⟨S,O,D,L,C⟩ ⟨K,Lb,⟨X,Y,W,H⟩,⟨⟨pW,pH,pT,pK⟩,Ct⟩,.mk o a q t ks⟩ with
   | none=>
    rw[hap] at ea;unfold shV at ea;simp +contextual -implicitDefEqProofs (maxSteps:=10^7) only[go_sem,seval,↓gZ,hm,ho,eE,ea,hw,hr];refine ih (m-1,out,⟨S,O,D,L,C⟩,p',true) _ ⟨by simp only;omega,by simp only;omega,by simp only;omega,i4,by simp only;omega,by simp only;omega⟩ (by simp only;omega) ?_;simp +contextual -implicitDefEqProofs (maxSteps:=10^7) only[go_sem,seval,↓gZ]
   | some u=>
    have ad:=Zph hap;rw[hap] at ea;obtain⟨S',O',D',L',C'⟩:=u;unfold shV at ea;simp only at ea;simp +contextual -implicitDefEqProofs (maxSteps:=10^7) only[go_sem,seval,↓gZ,hm,ho,eE,ea,hw,hr];refine ih (m-1,out++[⟨K,Lb,⟨X,Y,W,H⟩,⟨⟨pW,pH,pT,pK⟩,Ct⟩,.mk o a q t ks⟩],⟨S',O',D',L',C'⟩,p',false) _ ⟨by simp only;omega,by simp only;omega,by simp only[Kt,Ks,KM];omega,ad,by simp only;omega,by simp only;omega⟩ (by simp only;omega) ?_;simp +contextual -implicitDefEqProofs (maxSteps:=10^7) only[go_sem,seval,↓gZ,K9]
  ·simp +contextual -implicitDefEqProofs (maxSteps:=10^7) only[go_sem,seval,↓gZ,hm,ho];exact⟨out,S,O,D,L,C,f,pp,i4,by omega,by omega,by omega,rfl⟩
 ·simp +contextual -implicitDefEqProofs (maxSteps:=10^7) only[go_sem,seval,↓gZ,hm];exact⟨out,S,O,D,L,C,f,pp,i4,by omega,by omega,by omega,rfl⟩
abbrev AnyS (s:Zq):Prop:=WSh s
theorem Zy4 {s:Zq} (h:ZS s):AnyS s:=ZtA h
def PAny (bs:List UInt8) (p:Nat) (r:AV×List Zl):Prop:=∃ (S:List Zb) (O D:List Zc) (L C:Int) (f g h:Bool) (p' : Nat),AnyS ⟨S,O,D,L,C⟩∧p≤p'∧p'≤p+300 ∧
 r=(.agg [.own 1,.own 2,.own 3,(.d (J L)),(.d (J C))],[.box [.d (.sl (bs.map JB)),(.d (J (p')))],.row 4 (S.map Zb.enc) true f,.row 5 (O.map Zc.enc) true g,.row 5 (D.map Zc.enc) true h])
theorem ZtD (bs:List UInt8) (hb:bs.length≤2000) (p:Nat) (hp:p<600000000):∃ r,Ze Xs Ms Zbn [.ptr 0 0] [.box [.d (.sl (bs.map JB)),(.d (J p))]]=some r∧PAny bs p r:=by
 obtain⟨r,eB,out,S,O,D,L,C,f,p',hv,h1,h2,h3,rfl⟩:=ZqB bs hb p (by omega) 20;have ab:=Zy4 hv;obtain⟨_,hO,_,ah,ae,ai,aj,_⟩:=hv;have af:=hO.1;obtain⟨a1,a2,a3,aa,a4,a5,a6,a7⟩:=ab;simp only at a1 a2 a3 aa a4 a5 a6 a7 af ae;have c0:=Qk bs p' 20 hb (by omega);generalize QW bs p' 20=c at c0;refine cW ?_;by_cases k0:c=0
 ·subst k0;have w:=wi (L+1) (by omega) (by omega);simp +contextual -implicitDefEqProofs (maxSteps:=10^7) only[go_sem,seval,↓gZ,Jr,eB,c0,w];exact⟨S,O,D,L+1,C,_,_,_,p'+1,⟨a1,a2,a3,aa,by simp only;omega,by simp only;omega,a6,a7⟩,by omega,by omega,rfl⟩
 ·by_cases k1:c=1
  ·subst k1;obtain⟨v,ag,eV⟩:=UE bs (p'+1) [-1,900001,0] hb (by omega) (by decide);have ad : -1≤v∧v≤900001:=by simp only[Kf,Ky,or_false] at ag;omega
   simp only[Kj,Ku,Ys] at eV;simp +contextual -implicitDefEqProofs (maxSteps:=10^7) only[go_sem,seval,↓gZ,Jr,eB,c0,eV];exact⟨S,O,D,L,v,_,_,_,p'+2,⟨a1,a2,a3,aa,a4,a5,ad.1,ad.2⟩,by omega,by omega,rfl⟩
  ·by_cases k2:c=2
   ·subst k2;have r1:O.length*40≤140737488355328∧O.length≤140737488355328:=by omega
    have r2:(O.length+1)*40≤140737488355328∧O.length≤140737488355327:=by omega
    simp +contextual -implicitDefEqProofs (maxSteps:=10^7) only[go_sem,seval,↓gZ,Jr,Zmk,eB,c0,r1,r2];refine⟨S,O++[⟨⟨1,1,false,0⟩,0⟩],D,L,C,f,false,f,p'+1,⟨a1,by simp only[Kt,Ks,KM];omega,fun x hx=>by
     rcases Kg.1 hx with hx | hx
     ·exact a3 x hx
     ·rw[KA.1 hx];simp only[VP];omega,aa,a4,a5,a6,a7⟩,by omega,by omega,?_⟩
    simp[Zc.enc]
   ·simp +contextual -implicitDefEqProofs (maxSteps:=10^7) only[go_sem,seval,↓gZ,Jr,eB,c0,k0,k1,k2];exact⟨S,O,D,L,C,_,_,_,p'+1,⟨a1,a2,a3,aa,a4,a5,a6,a7⟩,by omega,by omega,rfl⟩
def ZAo (s:Zq) (n:Int):Option ZF:=if ZS s then (match ZwY s.Stock n with
 | some (_,q)=>some ⟨q.W,q.H,s.Opn.map Zc.Pane⟩
 | none=>none) else none
def wkV:Option ZF→AV×List Zl
 | some k=>(.tup [.agg [(.d (J (k.W))),(.d (J (k.H))),.own 0],(.d (.bool true))],[.row 4 (k.Panes.map Pane.enc) true false])
 | none=>(.tup [.agg [(.d (J 0)),(.d (J 0)),.own 0],(.d (.bool false))],[.row 4 [] true false])
theorem ZtE (sS:List Zb) (sO sD:List Zc) (sL sC:Int) (n:Int):Ze Xs Ms Zbr [(.d (.agg [.sl (sS.map Zb.enc),.sl (sO.map Zc.enc),.sl (sD.map Zc.enc),J sL,J sC])),(.d (J n))] []=some (wkV (ZAo (Zq.mk sS sO sD sL sC) n)):=by
 have e1:=Qe sS sO sD sL sC;unfold ZAo;by_cases hv:ZS (Zq.mk sS sO sD sL sC)
 ·rw[Kh hv] at e1;rw[Ki hv];have ab:=hv.1.1;have h8:=hv.2.1.1;simp only at ab h8;have e2:=Vf sS n (by omega);by_cases hf:Qv 0 sS n<0
  ·rw[ZeN hf];unfold wkV;refine cE ?_;simp +contextual -implicitDefEqProofs (maxSteps:=10^7) only[go_sem,seval,↓gZ,Zbt,e1,e2,hf]
  ·obtain⟨a,x,ha,hx⟩:=Zbk (by omega:0≤Qv 0 sS n);rw[ZeO ha hx];rw[ha] at e2;have ad:¬(a:Int)<0:=by omega
   have aa:=(Kb.1 hx).1;obtain⟨xL,xW,xH,xF⟩:=x;unfold wkV;refine cE ?_;simp +contextual -implicitDefEqProofs (maxSteps:=10^7) only[go_sem,seval,↓gZ,Zbt,e1,e2,ad,aa,hx];refine LO (α:=Nat) (fun i=>[(37,.d (J (i:Int)))]) (fun i=>[(2,.row 4 (((sO.take i).map Zc.Pane).map Pane.enc) true false)]) (fun i=>i≤sO.length) (fun i=>sO.length-i) 0 (by omega) ?_;intro i hi ih;by_cases aa:i<sO.length
   ·obtain⟨x,hx⟩:=Zr aa;have hw:=Zj (k:=i) (by omega);have hm:=ZaS hx;have ae:(sO.take i).length≤i:=by simp;omega
    have hr:((sO.take i).length+1)*32≤140737488355328∧(sO.take i).length≤140737488355327:=by omega
    obtain⟨⟨W,H,T,K⟩,C⟩:=x;simp only at hm;simp +contextual -implicitDefEqProofs (maxSteps:=10^7) only[go_sem,seval,↓gZ,hx,aa,hw,hr];refine ih (i+1) _ (by omega) (by omega) ?_;simp +contextual -implicitDefEqProofs (maxSteps:=10^7) only[go_sem,seval,↓gZ,hm]
    first | rfl | (simp;done) | (simp;rfl)
   ·have:i=sO.length:=by omega
    subst this;simp +contextual -implicitDefEqProofs (maxSteps:=10^7) only[go_sem,seval,↓gZ];simp
 ·rw[Kk hv] at e1;rw[Kd hv];unfold wkV;refine cE ?_;simp +contextual -implicitDefEqProofs (maxSteps:=10^7) only[go_sem,seval,↓gZ,Zbt,e1]
theorem Zmw (sS:List Zb) (sO sD:List Zc) (sL sC:Int) (eK eL eX eY eW eH aa ab:Int) (ad:Bool) (ae eC eo ea ep:Int) (et:Bool) (ek:List Zf) (hs:Jc (Zq.mk sS sO sD sL sC)) (hW:eK=0→I5 eW) (hH:eK=0→I5 eH):Ze Xs Ms WK [(.d (.agg [.sl (sS.map Zb.enc),.sl (sO.map Zc.enc),.sl (sD.map Zc.enc),J sL,J sC])),(.d (.agg [J eK,J eL,J eX,J eY,J eW,J eH,J aa,J ab,.bool ad,J ae,J eC,J eo,J ea,J ep,.bool et,.sl (ek.map Zf.enc)]))] []=some (shV (if ZS (Zq.mk sS sO sD sL sC) then QZ (Zq.mk sS sO sD sL sC) (Zz.mk eK eL (Box.mk eX eY eW eH) (Zc.mk (Pane.mk aa ab ad ae) eC) (Zf.mk eo ea ep et ek)) else none)):=by
 have e1:=Yj sS sO sD sL sC hs;by_cases hv:ZS (Zq.mk sS sO sD sL sC)
 ·rw[Kh hv] at e1;rw[Ki hv];have e2:=Zgc sS sO sD sL sC eK eL eX eY eW eH aa ab ad ae eC eo ea ep et ek hv hW hH;cases ha:QZ (Zq.mk sS sO sD sL sC) (Zz.mk eK eL (Box.mk eX eY eW eH) (Zc.mk (Pane.mk aa ab ad ae) eC) (Zf.mk eo ea ep et ek)) with
  | none=>
   rw[ha] at e2;unfold shV at e2 ⊢;refine cE ?_;simp +contextual -implicitDefEqProofs (maxSteps:=10^7) only[go_sem,seval,↓gZ,WV,e1,e2]
  | some t=>
   rw[ha] at e2;unfold shV at e2 ⊢;obtain⟨a,b,c,d,f⟩:=t;simp only at e2 ⊢;refine cE ?_;simp +contextual -implicitDefEqProofs (maxSteps:=10^7) only[go_sem,seval,↓gZ,WV,e1,e2]
 ·rw[Kk hv] at e1;rw[Kd hv];unfold shV;refine cE ?_;simp +contextual -implicitDefEqProofs (maxSteps:=10^7) only[go_sem,seval,↓gZ,WV,e1]
def PDrE (r:AV×List Zl):Prop:=∃ (sS:List Zb) (sO sD:List Zc) (sL sC:Int) (f g h:Bool) (eK eL eX eY eW eH epW epH:Int) (epT:Bool) (epK eC eo ea ep:Int) (et:Bool) (ek:List Zf),WSh (Zq.mk sS sO sD sL sC)∧(eK=0→I5 eW∧I5 eH) ∧
 r=(.tup [.agg [.own 0,.own 1,.own 2,(.d (J sL)),(.d (J sC))],.agg [(.d (J eK)),(.d (J eL)),(.d (J eX)),(.d (J eY)),(.d (J eW)),(.d (J eH)),(.d (J epW)),(.d (J epH)),(.d (.bool epT)),(.d (J epK)),(.d (J eC)),(.d (J eo)),(.d (J ea)),(.d (J ep)),(.d (.bool et)),.own 3]],[.row 4 (sS.map Zb.enc) true f,.row 5 (sO.map Zc.enc) true g,.row 5 (sD.map Zc.enc) true h,.row 5 (ek.map Zf.enc) true false])
theorem Zh0 (aa:List UInt8):∃ r,Ze Xs Ms Yk [.d (.sl (aa.map JB))] []=some r∧PDrE r:=by
 have hb:(aa.take 2000).length≤2000:=by simp;omega
 have en:=ZoQ aa;obtain⟨r,e1,S,O,D,L,C,f,g,h,p',h1,h2,h3,rfl⟩:=ZtD (aa.take 2000) hb 0 (by omega);simp only[cast0] at e1;generalize aa.take 2000=bs at *;obtain⟨r,e2,K,Lb,X,Y,W,H,pW,pH,pT,pK,Ct,o,a,q,t,ks,p,hK,h4,h5,rfl⟩:=Zg9 bs hb p' (by omega) S O D L C h1;have c0:=Qk bs p 16 hb (by omega);generalize QW bs p 16=c at c0;refine cW ?_;by_cases k0:c=0
 ·subst k0;obtain⟨v,ab,eV⟩:=UE bs (p+1) [0,10000,1] hb (by omega) (by decide);simp only[Kj,Ku,Ys] at eV;simp +contextual -implicitDefEqProofs (maxSteps:=10^7) only[go_sem,seval,↓gZ,QC,en,e1,e2,c0,eV];exact⟨S,O,D,L,C,_,_,_,K,v,X,Y,W,H,pW,pH,pT,pK,Ct,o,a,q,t,ks,h1,hK,rfl⟩
 ·by_cases k1:c=1
  ·subst k1;obtain⟨v,ab,eV⟩:=UE bs (p+1) [6,-1,3,4] hb (by omega) (by decide);have ad:¬v=0:=by simp only[Kf,Ky,or_false] at ab;omega
   simp only[Kj,Ku,Ys] at eV;simp +contextual -implicitDefEqProofs (maxSteps:=10^7) only[go_sem,seval,↓gZ,QC,en,e1,e2,c0,eV];exact⟨S,O,D,L,C,_,_,_,v,Lb,X,Y,W,H,pW,pH,pT,pK,Ct,o,a,q,t,ks,h1,fun h=>absurd h ad,rfl⟩
  ·by_cases k2:c=2
   ·subst k2;obtain⟨v,ab,eV⟩:=UE bs (p+1) [0,25] hb (by omega) (by decide);simp only[Kj,Ku,Ys] at eV;simp +contextual -implicitDefEqProofs (maxSteps:=10^7) only[go_sem,seval,↓gZ,QC,en,e1,e2,c0,eV];exact⟨S,O,D,L,C,_,_,_,K,Lb,X,Y,W,H,pW,pH,pT,pK,v,o,a,q,t,ks,h1,hK,rfl⟩
   ·by_cases k3:c=3
    ·subst k3;simp +contextual -implicitDefEqProofs (maxSteps:=10^7) only[go_sem,seval,↓gZ,QC,en,e1,e2,c0];exact⟨S,O,D,L,C,_,_,_,K,Lb,X,Y,W,H,pW,pH,pT,pK,Ct,o,_,q,t,ks,h1,hK,rfl⟩
    ·by_cases k4:c=4
     ·subst k4;obtain⟨v,ab,eV⟩:=UE bs (p+1) [1,200] hb (by omega) (by decide);simp only[Kj,Ku,Ys] at eV;simp +contextual -implicitDefEqProofs (maxSteps:=10^7) only[go_sem,seval,↓gZ,QC,en,e1,e2,c0,eV];exact⟨S,O,D,L,C,_,_,_,K,Lb,v,Y,W,H,pW,pH,pT,pK,Ct,o,a,q,t,ks,h1,hK,rfl⟩
     ·simp +contextual -implicitDefEqProofs (maxSteps:=10^7) only[go_sem,seval,↓gZ,QC,en,e1,e2,c0,k0,k1,k2,k3,k4];exact⟨S,O,D,L,C,_,_,_,K,Lb,X,Y,W,H,pW,pH,pT,pK,Ct,o,a,q,t,ks,h1,hK,rfl⟩
theorem Zdw (a:List Zc) (ha:a.length<4611686018427387904):Ze Xs Ms Vi [(.d (.sl (a.map Zc.enc))),(.d (.sl (a.map Zc.enc)))] []=some ((.d (.bool true)),[]):=by
 refine cE ?_;simp +contextual -implicitDefEqProofs (maxSteps:=10^7) only[go_sem,seval,↓gZ,Zc6];refine LO (α:=Nat) (fun k=>[(5,.d (J (k:Int)))]) (fun _=>[]) (fun k=>k≤a.length) (fun k=>a.length-k) 0 (by omega) ?_;intro k hk ih;by_cases aa:k<a.length
 ·obtain⟨x,hx⟩:=Zr aa;have hw:=Zj (k:=k) (by omega);simp +contextual -implicitDefEqProofs (maxSteps:=10^7) only[go_sem,seval,↓gZ,hx,aa,hw];refine ih (k+1) _ (by omega) (by omega) ?_;simp +contextual -implicitDefEqProofs (maxSteps:=10^7) only[go_sem,seval,↓gZ]
 ·have:k=a.length:=by omega
  subst this;simp +contextual -implicitDefEqProofs (maxSteps:=10^7) only[go_sem,seval,↓gZ]
theorem ZeQ (sS:List Zb) (sO sD:List Zc) (sL sC:Int) (hs:Jc (Zq.mk sS sO sD sL sC)):Ze Xs Ms YP [(.d (.agg [.sl (sS.map Zb.enc),.sl (sO.map Zc.enc),.sl (sD.map Zc.enc),J sL,J sC])),(.d (.agg [.sl (sS.map Zb.enc),.sl (sO.map Zc.enc),.sl (sD.map Zc.enc),J sL,J sC]))] []=some ((.d (.bool true)),[]):=by
 obtain⟨h1,h2,h3,h4⟩:=hs;simp only at h1 h2 h3 h4;have e1:=Zms sS sS (by omega) (fun x hx=>by have:=(h2 x hx).1;omega);rw[Kh rfl] at e1;have e2:=Zdw sO (by omega);have e3:=Zdw sD (by omega);refine cE ?_;simp +contextual -implicitDefEqProofs (maxSteps:=10^7) only[go_sem,seval,↓gZ,ZdX,e1,e2,e3]
end Go.Proofs.YtcefneehgbiebaaGreatDoor
