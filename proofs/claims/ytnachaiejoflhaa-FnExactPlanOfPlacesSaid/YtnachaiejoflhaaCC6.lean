/- Own text. -/
import Derived.Test.YtnachaiejoflhaaCCode
import Derived.Test.YtnachaiejoflhaaAbsParts
import Derived.Test.YtnachaiejoflhaaCC1
import Derived.Test.YtnachaiejoflhaaAbsOkD
namespace Go.Proofs.Ytnachaiejoflhaa
open Go Go.Abs Go.Abs.E Go.Abs.L
open Nat (reduceMul reduceSub reduceLeDiff reduceEqDiff)
open Int (reduceLE reduceEq reduceToNat reduceNeg)
set_option linter.unusedSimpArgs false
set_option linter.unusedVariables false
set_option maxRecDepth 20000
set_option maxHeartbeats 4000000
def Zco (k:Int):Pane:=⟨k,k+1,decide ((k+1+1).tmod 3=0),k+1+1+1⟩
def Zbv (k:Int):L.Place:=⟨k,decide ((k+1).tmod 3=0),⟨k+1+1,k+1+1+1,k+1+1+1+1,k+1+1+1+1+1⟩⟩
theorem Zj0 (ks:List Pane) (hk:ks.length≤maxLen) (left:Int) (h0:0≤left) (hl:left≤1048576):Zi Xs Ms Wi [.d (.sl (ks.map Pane.enc)),(.d (J left))] []=some ((.d (J (szV left ks.length))),[]):=by
 have ab : (ks.length:Int)≤9223372036854775807:=by unfold maxLen at hk;omega
 have w:=wi (left-ks.length) (by omega) (by omega);by_cases hy:(ks.length:Int)≤left
 ·rw[Zdk hy];have aa:¬left-(ks.length:Int)<0:=by omega
  refine cE ?_;simp +contextual -implicitDefEqProofs (maxSteps:=10^7) only[go_sem,seval,↓gZ,UH,w,aa]
 ·rw[ZgV hy];have aa:left-(ks.length:Int)<0:=by omega
  refine cE ?_;simp +contextual -implicitDefEqProofs (maxSteps:=10^7) only[go_sem,seval,↓gZ,UH,w,aa]
def Zcp:D:=.agg [J 0,J 0,.bool false,J 0]
theorem Zj1 (ks:List Pane) (hk:ks.length≤1048576):Zi Xs Ms Wk [.d (.sl (ks.map Pane.enc))] []=some (.own 0,[.row 4 (ks.map Pane.enc) true false]):=by
 have hm:(ks.length:Int)*32≤140737488355328∧(ks.length:Int)≤140737488355328:=by omega
 refine cE ?_;simp +contextual -implicitDefEqProofs (maxSteps:=10^7) only[go_sem,seval,↓gZ,Za1,hm,ZH];refine Xc Xs Ms (st0:=?st0) (α:=Nat) (fun k=>[(4,.d (J (k:Int)))]) (fun k=>[(0,.row 4 (Ji Pane.enc Zcp ks k) true false)]) (fun k=>k≤ks.length) (fun k=>ks.length-k) 0 ?hc (by omega) ?h0 ?step
 case hc=>simp +contextual -implicitDefEqProofs (maxSteps:=10^7) only[go_sem,seval,↓gZ]<;>exact rfl
 case h0=>rw[ZgW];rfl
 case step=>
  intro k ae af;have ag:=ZiW Pane.enc Zcp ae;by_cases ab:k<ks.length
  ·obtain⟨x,hx⟩:=Qt ab;have ad : (k:Int)<(ks.length:Int):=by omega
   have w1:=ZB (k:=k) (by omega);have aa:=ZiX (f:=Pane.enc) (z:=Zcp) hx;obtain⟨a0,a1,a2,a3⟩:=x;have e1:=Zlp a0 a1 a2 a3;have z1:=ZiY (f:=Pane.enc) (z:=Zcp) ab;have z2:Zcp.notSl=true:=rfl;have z3:Zcp.cells.length=4:=rfl;have z4:Xp Zcp 0 [J a0,J a1,.bool a2,J a3]=.agg [J a0,J a1,.bool a2,J a3]:=rfl;simp only[Pane.enc] at aa;simp +contextual -implicitDefEqProofs (maxSteps:=10^7) only[go_sem,seval,↓gZ,ad,ab,hx,w1,e1,ag,z1,z2,z3,z4,aa];refine af (k+1) _ (by omega) (by omega) ?_;simp +contextual -implicitDefEqProofs (maxSteps:=10^7) only[go_sem,seval,↓gZ,aa]
  ·have:k=ks.length:=by omega
   subst this;rw[ZiV];simp +contextual -implicitDefEqProofs (maxSteps:=10^7) only[go_sem,seval,↓gZ]
theorem Zg6 (ks:List Pane) (hk:ks.length≤1099511627776):Zi Xs Ms Wh [.d (.sl (ks.map Pane.enc)),.d (.sl (ks.map Pane.enc))] []=some ((.d (.bool true)),[]):=by
 refine cE ?_;simp +contextual -implicitDefEqProofs (maxSteps:=10^7) only[go_sem,seval,↓gZ,ZaZ];refine LO (α:=Nat) (fun k=>[(5,.d (J (k:Int)))]) (fun _=>[]) (fun k=>k≤ks.length) (fun k=>ks.length-k) 0 (by omega) ?_;intro k ae ad;by_cases ab:k<ks.length
 ·obtain⟨x,hx⟩:=Qt ab;have aa : (k:Int)<(ks.length:Int):=by omega
  have w1:=ZB (k:=k) (by omega);obtain⟨a0,a1,a2,a3⟩:=x;have e1:=ZhA a0 a1 a2 a3;simp +contextual -implicitDefEqProofs (maxSteps:=10^7) only[go_sem,seval,↓gZ,aa,ab,hx,w1,e1];refine ad (k+1) _ (by omega) (by omega) ?_;simp +contextual -implicitDefEqProofs (maxSteps:=10^7) only[go_sem,seval,↓gZ]
 ·have:k=ks.length:=by omega
  subst this;simp +contextual -implicitDefEqProofs (maxSteps:=10^7) only[go_sem,seval,↓gZ]
theorem Zg7 (ks:List Pane) (hk:ks.length≤1099511627776) (k:Int) (h0:0≤k) (h1:k≤1125899906842624):Zi Xs Ms ZS [.own 0,(.d (J k))] [.row 4 (ks.map Pane.enc) true false]=some ((.d (J (k+((4*ks.length:Nat):Int)))),[.row 4 ((mks Zco 4 ks.length k).map Pane.enc) true false]):=by
 refine cE ?_;simp +contextual -implicitDefEqProofs (maxSteps:=10^7) only[go_sem,seval,↓gZ,UU];refine Xc Xs Ms (st0:=?st0) (α:=Nat) (fun i=>[(5,.d (J (i:Int))),(1,.d (J (k+((4*i:Nat):Int))))]) (fun i=>[(0,.row 4 ((mkR Zco 4 k ks i).map Pane.enc) true false)]) (fun i=>i≤ks.length) (fun i=>ks.length-i) 0 ?hc (by omega) ?h0 ?step
 case hc=>simp +contextual -implicitDefEqProofs (maxSteps:=10^7) only[go_sem,seval,↓gZ]<;>exact rfl
 case h0=>simp only[Zln,Nat.mul_zero,Lp,LN];rfl
 case step=>
  intro i hi ih;have ae:=ZnA Zco 4 k hi;by_cases aa:i<ks.length
  ·obtain⟨x,hx⟩:=Qt aa;have ab : (i:Int)<(ks.length:Int):=by omega
   have w1:=ZB (k:=i) (by omega);have hg:=ZnB Zco 4 k hx;have hs:=Zlo Pane.enc Zco 4 k aa;have ad:k+((4*(i+1):Nat):Int)=k+((4*i:Nat):Int)+1+1+1+1:=by omega
   obtain⟨a0,a1,a2,a3⟩:=x;generalize hK:k+((4*i:Nat):Int)=K at hs ad ⊢;have v1:=wi (K+1) (by omega) (by omega);have v2:=wi (K+1+1) (by omega) (by omega);have v3:=wi (K+1+1+1) (by omega) (by omega);have v4:=wi (K+1+1+1+1) (by omega) (by omega);simp only[Zco,Pane.enc] at hs;simp +contextual -implicitDefEqProofs (maxSteps:=10^7) only[go_sem,seval,↓gZ,ab,aa,hg,w1,ae,v1,v2,v3,v4,List.length_set,KX,List.set_set];refine ih (i+1) _ (by omega) (by omega) ?_;simp +contextual -implicitDefEqProofs (maxSteps:=10^7) only[go_sem,seval,↓gZ,hs,ad]
  ·have:i=ks.length:=by omega
   subst this;rw[ZnC];simp +contextual -implicitDefEqProofs (maxSteps:=10^7) only[go_sem,seval,↓gZ,UE]
theorem ZhE (ks:List L.Place) (hk:ks.length≤maxLen) (left:Int) (h0:0≤left) (hl:left≤1048576):Zi Xs Ms Vt [.d (.sl (ks.map Place.enc)),(.d (J left))] []=some ((.d (J (szV left ks.length))),[]):=by
 have ab : (ks.length:Int)≤9223372036854775807:=by unfold maxLen at hk;omega
 have w:=wi (left-ks.length) (by omega) (by omega);by_cases hy:(ks.length:Int)≤left
 ·rw[Zdk hy];have aa:¬left-(ks.length:Int)<0:=by omega
  refine cE ?_;simp +contextual -implicitDefEqProofs (maxSteps:=10^7) only[go_sem,seval,↓gZ,WK,w,aa]
 ·rw[ZgV hy];have aa:left-(ks.length:Int)<0:=by omega
  refine cE ?_;simp +contextual -implicitDefEqProofs (maxSteps:=10^7) only[go_sem,seval,↓gZ,WK,w,aa]
def J2:D:=.agg [J 0,.bool false,J 0,J 0,J 0,J 0]
theorem ZhF (ks:List L.Place) (hk:ks.length≤1048576):Zi Xs Ms Xf [.d (.sl (ks.map Place.enc))] []=some (.own 0,[.row 6 (ks.map Place.enc) true false]):=by
 have hm:(ks.length:Int)*48≤140737488355328∧(ks.length:Int)≤140737488355328:=by omega
 refine cE ?_;simp +contextual -implicitDefEqProofs (maxSteps:=10^7) only[go_sem,seval,↓gZ,J7,hm,ZH];refine Xc Xs Ms (st0:=?st0) (α:=Nat) (fun k=>[(4,.d (J (k:Int)))]) (fun k=>[(0,.row 6 (Ji Place.enc J2 ks k) true false)]) (fun k=>k≤ks.length) (fun k=>ks.length-k) 0 ?hc (by omega) ?h0 ?step
 case hc=>simp +contextual -implicitDefEqProofs (maxSteps:=10^7) only[go_sem,seval,↓gZ]<;>exact rfl
 case h0=>rw[ZgW];rfl
 case step=>
  intro k ae af;have ag:=ZiW Place.enc J2 ae;by_cases ab:k<ks.length
  ·obtain⟨x,hx⟩:=Qt ab;have ad : (k:Int)<(ks.length:Int):=by omega
   have w1:=ZB (k:=k) (by omega);have aa:=ZiX (f:=Place.enc) (z:=J2) hx;obtain⟨a0,a1,⟨a2,a3,a4,a5⟩⟩:=x;have e1:=ZjW a0 a1 a2 a3 a4 a5;have z1:=ZiY (f:=Place.enc) (z:=J2) ab;have z2:J2.notSl=true:=rfl;have z3:J2.cells.length=6:=rfl;have z4:Xp J2 0 [J a0,.bool a1,J a2,J a3,J a4,J a5]=.agg [J a0,.bool a1,J a2,J a3,J a4,J a5]:=rfl;simp only[Place.enc] at aa;simp +contextual -implicitDefEqProofs (maxSteps:=10^7) only[go_sem,seval,↓gZ,ad,ab,hx,w1,e1,ag,z1,z2,z3,z4,aa];refine af (k+1) _ (by omega) (by omega) ?_;simp +contextual -implicitDefEqProofs (maxSteps:=10^7) only[go_sem,seval,↓gZ,aa]
  ·have:k=ks.length:=by omega
   subst this;rw[ZiV];simp +contextual -implicitDefEqProofs (maxSteps:=10^7) only[go_sem,seval,↓gZ]
theorem Ze1 (ks:List L.Place) (hk:ks.length≤1099511627776):Zi Xs Ms Vu [.d (.sl (ks.map Place.enc)),.d (.sl (ks.map Place.enc))] []=some ((.d (.bool true)),[]):=by
 refine cE ?_;simp +contextual -implicitDefEqProofs (maxSteps:=10^7) only[go_sem,seval,↓gZ,J8];refine LO (α:=Nat) (fun k=>[(5,.d (J (k:Int)))]) (fun _=>[]) (fun k=>k≤ks.length) (fun k=>ks.length-k) 0 (by omega) ?_;intro k ae ad;by_cases ab:k<ks.length
 ·obtain⟨x,hx⟩:=Qt ab;have aa : (k:Int)<(ks.length:Int):=by omega
  have w1:=ZB (k:=k) (by omega);obtain⟨a0,a1,⟨a2,a3,a4,a5⟩⟩:=x;have e1:=ZgX a0 a1 a2 a3 a4 a5;simp +contextual -implicitDefEqProofs (maxSteps:=10^7) only[go_sem,seval,↓gZ,aa,ab,hx,w1,e1];refine ad (k+1) _ (by omega) (by omega) ?_;simp +contextual -implicitDefEqProofs (maxSteps:=10^7) only[go_sem,seval,↓gZ]
 ·have:k=ks.length:=by omega
  subst this;simp +contextual -implicitDefEqProofs (maxSteps:=10^7) only[go_sem,seval,↓gZ]
theorem Ze2 (ks:List L.Place) (hk:ks.length≤1099511627776) (k:Int) (h0:0≤k) (h1:k≤1125899906842624):Zi Xs Ms ZJ [.own 0,(.d (J k))] [.row 6 (ks.map Place.enc) true false]=some ((.d (J (k+((6*ks.length:Nat):Int)))),[.row 6 ((mks Zbv 6 ks.length k).map Place.enc) true false]):=by
 refine cE ?_;simp +contextual -implicitDefEqProofs (maxSteps:=10^7) only[go_sem,seval,↓gZ,Un];refine Xc Xs Ms (st0:=?st0) (α:=Nat) (fun i=>[(5,.d (J (i:Int))),(1,.d (J (k+((6*i:Nat):Int))))]) (fun i=>[(0,.row 6 ((mkR Zbv 6 k ks i).map Place.enc) true false)]) (fun i=>i≤ks.length) (fun i=>ks.length-i) 0 ?hc (by omega) ?h0 ?step
 case hc=>simp +contextual -implicitDefEqProofs (maxSteps:=10^7) only[go_sem,seval,↓gZ]<;>exact rfl
 case h0=>simp only[Zln,Nat.mul_zero,Lp,LN];rfl
 case step=>
  intro i hi ih;have ae:=ZnA Zbv 6 k hi;by_cases aa:i<ks.length
  ·obtain⟨x,hx⟩:=Qt aa;have ab : (i:Int)<(ks.length:Int):=by omega
   have w1:=ZB (k:=i) (by omega);have hg:=ZnB Zbv 6 k hx;have hs:=Zlo Place.enc Zbv 6 k aa;have ad:k+((6*(i+1):Nat):Int)=k+((6*i:Nat):Int)+1+1+1+1+1+1:=by omega
   obtain⟨a0,a1,⟨a2,a3,a4,a5⟩⟩:=x;generalize hK:k+((6*i:Nat):Int)=K at hs ad ⊢;have v1:=wi (K+1) (by omega) (by omega);have v2:=wi (K+1+1) (by omega) (by omega);have v3:=wi (K+1+1+1) (by omega) (by omega);have v4:=wi (K+1+1+1+1) (by omega) (by omega);have v5:=wi (K+1+1+1+1+1) (by omega) (by omega);have v6:=wi (K+1+1+1+1+1+1) (by omega) (by omega);simp only[Zbv,Place.enc] at hs;simp +contextual -implicitDefEqProofs (maxSteps:=10^7) only[go_sem,seval,↓gZ,ab,aa,hg,w1,ae,v1,v2,v3,v4,v5,v6,List.length_set,KX,List.set_set];refine ih (i+1) _ (by omega) (by omega) ?_;simp +contextual -implicitDefEqProofs (maxSteps:=10^7) only[go_sem,seval,↓gZ,hs,ad]
  ·have:i=ks.length:=by omega
   subst this;rw[ZnC];simp +contextual -implicitDefEqProofs (maxSteps:=10^7) only[go_sem,seval,↓gZ,UE]
end Go.Proofs.Ytnachaiejoflhaa
namespace Go.Proofs.Ytnachaiejoflhaa
open Go Go.Abs Go.Abs.E Go.Abs.L
open Nat (reduceMul reduceSub reduceLeDiff reduceEqDiff)
open Int (reduceLE reduceEq reduceToNat reduceNeg)
set_option linter.unusedSimpArgs false
set_option linter.unusedVariables false
set_option maxRecDepth 20000
set_option maxHeartbeats 4000000
def J3 {α:Type} (f:α→Int→α) (c:α→Nat):List α→Int→List α
 | [],_=>[]
 | x :: r,k=>f x k :: J3 f c r (k+c x)
theorem Jl {α:Type} (f:α→Int→α) (c:α→Nat):∀ (l:List α) (k:Int),(J3 f c l k).length=l.length
 | [],_=>rfl
 | x :: r,k=>by simp[J3,Jl f c r]
theorem Zlv {α:Type} (f:α→Int→α) (c:α→Nat):∀ (l:List α) (k:Int) (i:Nat) (x:α),l[i]?=some x→(J3 f c l k)[i]?=some (f x (k+(Q8 c (l.take i):Nat)))
 | y :: r,k,0,x,h=>by simp only[List.getElem?_cons_zero,Option.some.injEq] at h;subst h;simp[J3,Q8]
 | y :: r,k,i+1,x,h=>by
  rw[J3,List.getElem?_cons_succ,Zlv f c r _ i x (by simpa using h),List.take_succ_cons,Q8];congr 2;push_cast;omega
theorem ZeQ {α:Type} (f:α→Int→α) (c:α→Nat):∀ (l r:List α) (k:Int),J3 f c (l++r) k=J3 f c l k++J3 f c r (k+(Q8 c l:Nat))
 | [],r,k=>by simp[J3,Q8]
 | x :: l,r,k=>by
  rw[KL,J3,ZeQ f c l r,J3,KL,Q8];congr 3;push_cast;omega
theorem J4 {α:Type} (c:α→Nat):∀ (l r:List α),Q8 c (l++r)=Q8 c l+Q8 c r
 | [],r=>by simp[Q8]
 | x :: l,r=>by simp[Q8,J4 c l r];omega
theorem Zg8 {α:Type} {c:α→Nat} {l:List α} {i:Nat} {x:α} (h:l[i]?=some x):Q8 c (l.take (i+1))=Q8 c (l.take i)+c x:=by
 rw[KG,h,J4];simp[Q8]
theorem V5 {α:Type} (c:α→Nat) (l:List α) (i:Nat):Q8 c (l.take i)≤Q8 c l:=by
 have:=J4 c (l.take i) (l.drop i);rw[Lb] at this;omega
def Ze3 {α:Type} (f:α→Int→α) (c:α→Nat) (k:Int) (l:List α) (i:Nat):List α:=J3 f c (l.take i) k++l.drop i
theorem ZpS {α:Type} (f:α→Int→α) (c:α→Nat) (k:Int) {l:List α} {i:Nat} (h:i≤l.length):(Ze3 f c k l i).length=l.length:=by simp[Ze3,Jl];omega
theorem ZpT {α:Type} (f:α→Int→α) (c:α→Nat) (k:Int) {l:List α} {i:Nat} {x:α} (h:l[i]?=some x):(Ze3 f c k l i)[i]?=some x:=by
 obtain⟨h1,_⟩:=Kd.1 h;have hl:(J3 f c (l.take i) k).length=i:=by rw[Jl];simp;omega
 unfold Ze3;rw[Ks (by omega),hl,LS,KM];simpa using h
theorem ZoH {α:Type} (g:α→D) (f:α→Int→α) (c:α→Nat) (k:Int) {l:List α} {i:Nat} {x:α} (h:l[i]?=some x):((Ze3 f c k l i).map g).set i (g (f x (k+(Q8 c (l.take i):Nat))))=(Ze3 f c k l (i+1)).map g:=by
 obtain⟨h1,h2⟩:=Kd.1 h;have hl:(J3 f c (l.take i) k).length=i:=by rw[Jl];simp;omega
 rw[← List.map_set];congr 1;unfold Ze3;rw[List.set_append_right _ _ (by omega),hl,LS,KG,h,ZeQ,La,K8 h1];rfl
theorem ZpU {α:Type} (f:α→Int→α) (c:α→Nat) (k:Int) (l:List α):Ze3 f c k l l.length=J3 f c l k:=by simp[Ze3]
theorem ZoI {α:Type} (f:α→Int→α) (c:α→Nat) (k:Int) (l:List α):Ze3 f c k l 0=l:=by simp[Ze3,J3]
theorem Zlw (kW kH:Int) (kP:List Pane) (hk:kP.length≤maxLen) (left:Int) (h0:0≤left) (hl:left≤1048576):Zi Xs Ms Uk [(.d (.agg [J kW,J kH,.sl (kP.map Pane.enc)])),(.d (J left))] []=some ((.d (J (szV left kP.length))),[]):=by
 have e1:=Zj0 kP hk left h0 hl;by_cases hy:(kP.length:Int)≤left
 ·rw[Zdk hy] at e1 ⊢;have aa:¬left-(kP.length:Int)<0:=by omega
  refine cE ?_;simp +contextual -implicitDefEqProofs (maxSteps:=10^7) only[go_sem,seval,↓gZ,J6,e1,aa]
 ·rw[ZgV hy] at e1 ⊢;refine cE ?_;simp +contextual -implicitDefEqProofs (maxSteps:=10^7) only[go_sem,seval,↓gZ,J6,e1]
theorem Zlx (kW kH:Int) (kP:List Pane) (h:kP.length≤1048576):Zi Xs Ms Yl [(.d (.agg [J kW,J kH,.sl (kP.map Pane.enc)]))] []=some (.agg [(.d (J kW)),(.d (J kH)),.own 0],[.row 4 (kP.map Pane.enc) true false]):=by
 have e1:=Zj1 kP h;refine cE ?_;simp +contextual -implicitDefEqProofs (maxSteps:=10^7) only[go_sem,seval,↓gZ,Zcr,e1]
theorem ZhG (kW kH:Int) (kP:List Pane) (h:kP.length≤1099511627776):Zi Xs Ms Uj [(.d (.agg [J kW,J kH,.sl (kP.map Pane.enc)])),(.d (.agg [J kW,J kH,.sl (kP.map Pane.enc)]))] []=some ((.d (.bool true)),[]):=by
 have e1:=Zg6 kP h;refine cE ?_;simp +contextual -implicitDefEqProofs (maxSteps:=10^7) only[go_sem,seval,↓gZ,Zcq,e1]
theorem ZhH (kW kH:Int) (kP:List Pane) (hk:kP.length≤1099511627776) (k:Int) (h0:0≤k) (h1:k≤562949953421312):Zi Xs Ms Qa [.agg [(.d (J kW)),(.d (J kH)),.own 0],(.d (J k))] [.row 4 (kP.map Pane.enc) true false]=some ((.d (J (k+((4*kP.length:Nat):Int)))),[.row 4 ((mks Zco 4 kP.length k).map Pane.enc) true false]):=by
 have e1:=Zg7 kP hk k h0 (by omega);refine cE ?_;simp +contextual -implicitDefEqProofs (maxSteps:=10^7) only[go_sem,seval,↓gZ,J5,e1]
end Go.Proofs.Ytnachaiejoflhaa
