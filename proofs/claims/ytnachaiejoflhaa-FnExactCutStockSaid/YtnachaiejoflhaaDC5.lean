/- Own text. -/
import Derived.Test.YtnachaiejoflhaaDCode
import Derived.Test.YtnachaiejoflhaaAbsParts
import Derived.Test.YtnachaiejoflhaaDC1
import Derived.Test.YtnachaiejoflhaaAbsOkD
namespace Go.Proofs.Ytnachaiejoflhaa
open Go Go.Abs Go.Abs.E Go.Abs.L
open Nat (reduceMul reduceSub reduceLeDiff reduceEqDiff)
open Int (reduceLE reduceEq reduceToNat reduceNeg)
set_option linter.unusedSimpArgs false
set_option linter.unusedVariables false
set_option maxRecDepth 20000
set_option maxHeartbeats 4000000
def ZbM (k:Int):Box:=⟨k,k+1,k+1+1,k+1+1+1⟩
def Zec (k:Int):Pane:=⟨k,k+1,decide ((k+1+1).tmod 3=0),k+1+1+1⟩
theorem ZnQ (ks:List Box) (hk:ks.length≤maxLen) (left:Int) (h0:0≤left) (hl:left≤1048576):Zh Xs Ms Jq [.d (.sl (ks.map Box.enc)),(.d (J left))] []=some ((.d (J (szV left ks.length))),[]):=by
 have ab : (ks.length:Int)≤9223372036854775807:=by unfold maxLen at hk;omega
 have w:=wi (left-ks.length) (by omega) (by omega);by_cases hy:(ks.length:Int)≤left
 ·rw[Vx hy];have aa:¬left-(ks.length:Int)<0:=by omega
  refine cE ?_;simp +contextual -implicitDefEqProofs (maxSteps:=10^7) only[go_sem,seval,↓gZ,Zbw,w,aa]
 ·rw[Wg hy];have aa:left-(ks.length:Int)<0:=by omega
  refine cE ?_;simp +contextual -implicitDefEqProofs (maxSteps:=10^7) only[go_sem,seval,↓gZ,Zbw,w,aa]
def ZiX:D:=.agg [J 0,J 0,J 0,J 0]
theorem ZnR (ks:List Box) (hk:ks.length≤1048576):Zh Xs Ms Jr [.d (.sl (ks.map Box.enc))] []=some (.own 0,[.row 4 (ks.map Box.enc) true false]):=by
 have hm:(ks.length:Int)*32≤140737488355328∧(ks.length:Int)≤140737488355328:=by omega
 refine cE ?_;simp +contextual -implicitDefEqProofs (maxSteps:=10^7) only[go_sem,seval,↓gZ,Zek,hm,ZC];refine V2 Xs Ms (st0:=?st0) (α:=Nat) (fun k=>[(4,.d (J (k:Int)))]) (fun k=>[(0,.row 4 (Jk Box.enc ZiX ks k) true false)]) (fun k=>k≤ks.length) (fun k=>ks.length-k) 0 ?hc (by omega) ?h0 ?step
 case hc=>simp +contextual -implicitDefEqProofs (maxSteps:=10^7) only[go_sem,seval,↓gZ]<;>exact rfl
 case h0=>rw[Zbm];rfl
 case step=>
  intro k ae af;have ag:=Zdj Box.enc ZiX ae;by_cases ab:k<ks.length
  ·obtain⟨x,hx⟩:=ZJ ab;have ad : (k:Int)<(ks.length:Int):=by omega
   have w1:=Zq (k:=k) (by omega);have aa:=Zdk (f:=Box.enc) (z:=ZiX) hx;obtain⟨a0,a1,a2,a3⟩:=x;have e1:=Zpq a0 a1 a2 a3;have z1:=Zdl (f:=Box.enc) (z:=ZiX) ab;have z2:ZiX.notSl=true:=rfl;have z3:ZiX.cells.length=4:=rfl;have z4:Xf ZiX 0 [J a0,J a1,J a2,J a3]=.agg [J a0,J a1,J a2,J a3]:=rfl;simp only[Box.enc] at aa;simp +contextual -implicitDefEqProofs (maxSteps:=10^7) only[go_sem,seval,↓gZ,ad,ab,hx,w1,e1,ag,z1,z2,z3,z4,aa];refine af (k+1) _ (by omega) (by omega) ?_;simp +contextual -implicitDefEqProofs (maxSteps:=10^7) only[go_sem,seval,↓gZ,aa]
  ·have:k=ks.length:=by omega
   subst this;rw[Zdi];simp +contextual -implicitDefEqProofs (maxSteps:=10^7) only[go_sem,seval,↓gZ]
theorem ZjH (ks:List Box) (hk:ks.length≤1099511627776):Zh Xs Ms Jp [.d (.sl (ks.map Box.enc)),.d (.sl (ks.map Box.enc))] []=some ((.d (.bool true)),[]):=by
 refine cE ?_;simp +contextual -implicitDefEqProofs (maxSteps:=10^7) only[go_sem,seval,↓gZ,Zei];refine LO (α:=Nat) (fun k=>[(5,.d (J (k:Int)))]) (fun _=>[]) (fun k=>k≤ks.length) (fun k=>ks.length-k) 0 (by omega) ?_;intro k ae ad;by_cases ab:k<ks.length
 ·obtain⟨x,hx⟩:=ZJ ab;have aa : (k:Int)<(ks.length:Int):=by omega
  have w1:=Zq (k:=k) (by omega);obtain⟨a0,a1,a2,a3⟩:=x;have e1:=Zl7 a0 a1 a2 a3;simp +contextual -implicitDefEqProofs (maxSteps:=10^7) only[go_sem,seval,↓gZ,aa,ab,hx,w1,e1];refine ad (k+1) _ (by omega) (by omega) ?_;simp +contextual -implicitDefEqProofs (maxSteps:=10^7) only[go_sem,seval,↓gZ]
 ·have:k=ks.length:=by omega
  subst this;simp +contextual -implicitDefEqProofs (maxSteps:=10^7) only[go_sem,seval,↓gZ]
theorem ZjI (ks:List Box) (hk:ks.length≤1099511627776) (k:Int) (h0:0≤k) (h1:k≤1125899906842624):Zh Xs Ms Qj [.own 0,(.d (J k))] [.row 4 (ks.map Box.enc) true false]=some ((.d (J (k+((4*ks.length:Nat):Int)))),[.row 4 ((mks ZbM 4 ks.length k).map Box.enc) true false]):=by
 refine cE ?_;simp +contextual -implicitDefEqProofs (maxSteps:=10^7) only[go_sem,seval,↓gZ,Zbs];refine V2 Xs Ms (st0:=?st0) (α:=Nat) (fun i=>[(5,.d (J (i:Int))),(1,.d (J (k+((4*i:Nat):Int))))]) (fun i=>[(0,.row 4 ((mkR ZbM 4 k ks i).map Box.enc) true false)]) (fun i=>i≤ks.length) (fun i=>ks.length-i) 0 ?hc (by omega) ?h0 ?step
 case hc=>simp +contextual -implicitDefEqProofs (maxSteps:=10^7) only[go_sem,seval,↓gZ]<;>exact rfl
 case h0=>simp only[ZnI,Nat.mul_zero,Lj,LL];rfl
 case step=>
  intro i hi ih;have ae:=Zqc ZbM 4 k hi;by_cases aa:i<ks.length
  ·obtain⟨x,hx⟩:=ZJ aa;have ab : (i:Int)<(ks.length:Int):=by omega
   have w1:=Zq (k:=i) (by omega);have hg:=Zqd ZbM 4 k hx;have hs:=ZnJ Box.enc ZbM 4 k aa;have ad:k+((4*(i+1):Nat):Int)=k+((4*i:Nat):Int)+1+1+1+1:=by omega
   obtain⟨a0,a1,a2,a3⟩:=x;generalize hK:k+((4*i:Nat):Int)=K at hs ad ⊢;have v1:=wi (K+1) (by omega) (by omega);have v2:=wi (K+1+1) (by omega) (by omega);have v3:=wi (K+1+1+1) (by omega) (by omega);have v4:=wi (K+1+1+1+1) (by omega) (by omega);simp only[ZbM,Box.enc] at hs;simp +contextual -implicitDefEqProofs (maxSteps:=10^7) only[go_sem,seval,↓gZ,ab,aa,hg,w1,ae,v1,v2,v3,v4,List.length_set,KO,List.set_set];refine ih (i+1) _ (by omega) (by omega) ?_;simp +contextual -implicitDefEqProofs (maxSteps:=10^7) only[go_sem,seval,↓gZ,hs,ad]
  ·have:i=ks.length:=by omega
   subst this;rw[Zqe];simp +contextual -implicitDefEqProofs (maxSteps:=10^7) only[go_sem,seval,↓gZ,UJ]
theorem ZjJ (n:Nat) (hk:n≤1099511627776) (k:Int) (h0:0≤k) (h1:k≤1125899906842624):Zh Xs Ms Wi [.d (.sl ((mks ZbM 4 n k).map Box.enc)),(.d (J k))] []=some ((.d (J (k+((4*n:Nat):Int)))),[]):=by
 have ab:=UJ ZbM 4 n k;refine cE ?_;simp +contextual -implicitDefEqProofs (maxSteps:=10^7) only[go_sem,seval,↓gZ,Zbt];refine V2 Xs Ms (st0:=?st0) (α:=Nat) (fun i=>[(5,.d (J (i:Int))),(1,.d (J (k+((4*i:Nat):Int))))]) (fun _=>[]) (fun i=>i≤n) (fun i=>n-i) 0 ?hc (by omega) ?h0 ?step
 case hc=>simp +contextual -implicitDefEqProofs (maxSteps:=10^7) only[go_sem,seval,↓gZ]<;>exact rfl
 case h0=>simp only[Nat.mul_zero,Lj,LL];rfl
 case step=>
  intro i hi ih;by_cases ad:i<n
  ·have aa : (i:Int)<(n:Int):=by omega
   have w1:=Zq (k:=i) (by omega);have hg:=Zqb ZbM 4 n k i ad;have ae:k+((4*(i+1):Nat):Int)=k+((4*i:Nat):Int)+1+1+1+1:=by omega
   generalize hK:k+((4*i:Nat):Int)=K at hg ae ⊢;have v1:=wi (K+1) (by omega) (by omega);have v2:=wi (K+1+1) (by omega) (by omega);have v3:=wi (K+1+1+1) (by omega) (by omega);have v4:=wi (K+1+1+1+1) (by omega) (by omega);simp only[ZbM] at hg;simp +contextual -implicitDefEqProofs (maxSteps:=10^7) only[go_sem,seval,↓gZ,aa,ad,hg,w1,ab,v1,v2,v3,v4];refine ih (i+1) _ (by omega) (by omega) ?_;simp +contextual -implicitDefEqProofs (maxSteps:=10^7) only[go_sem,seval,↓gZ,ae]
  ·have:i=n:=by omega
   subst this;simp +contextual -implicitDefEqProofs (maxSteps:=10^7) only[go_sem,seval,↓gZ,ab]
theorem Zme (ks:List Pane) (hk:ks.length≤maxLen) (left:Int) (h0:0≤left) (hl:left≤1048576):Zh Xs Ms Uf [.d (.sl (ks.map Pane.enc)),(.d (J left))] []=some ((.d (J (szV left ks.length))),[]):=by
 have ab : (ks.length:Int)≤9223372036854775807:=by unfold maxLen at hk;omega
 have w:=wi (left-ks.length) (by omega) (by omega);by_cases hy:(ks.length:Int)≤left
 ·rw[Vx hy];have aa:¬left-(ks.length:Int)<0:=by omega
  refine cE ?_;simp +contextual -implicitDefEqProofs (maxSteps:=10^7) only[go_sem,seval,↓gZ,JT,w,aa]
 ·rw[Wg hy];have aa:left-(ks.length:Int)<0:=by omega
  refine cE ?_;simp +contextual -implicitDefEqProofs (maxSteps:=10^7) only[go_sem,seval,↓gZ,JT,w,aa]
def Zed:D:=.agg [J 0,J 0,.bool false,J 0]
theorem Zmf (ks:List Pane) (hk:ks.length≤1048576):Zh Xs Ms Uh [.d (.sl (ks.map Pane.enc))] []=some (.own 0,[.row 4 (ks.map Pane.enc) true false]):=by
 have hm:(ks.length:Int)*32≤140737488355328∧(ks.length:Int)≤140737488355328:=by omega
 refine cE ?_;simp +contextual -implicitDefEqProofs (maxSteps:=10^7) only[go_sem,seval,↓gZ,ZcK,hm,ZC];refine V2 Xs Ms (st0:=?st0) (α:=Nat) (fun k=>[(4,.d (J (k:Int)))]) (fun k=>[(0,.row 4 (Jk Pane.enc Zed ks k) true false)]) (fun k=>k≤ks.length) (fun k=>ks.length-k) 0 ?hc (by omega) ?h0 ?step
 case hc=>simp +contextual -implicitDefEqProofs (maxSteps:=10^7) only[go_sem,seval,↓gZ]<;>exact rfl
 case h0=>rw[Zbm];rfl
 case step=>
  intro k ae af;have ag:=Zdj Pane.enc Zed ae;by_cases ab:k<ks.length
  ·obtain⟨x,hx⟩:=ZJ ab;have ad : (k:Int)<(ks.length:Int):=by omega
   have w1:=Zq (k:=k) (by omega);have aa:=Zdk (f:=Pane.enc) (z:=Zed) hx;obtain⟨a0,a1,a2,a3⟩:=x;have e1:=ZnK a0 a1 a2 a3;have z1:=Zdl (f:=Pane.enc) (z:=Zed) ab;have z2:Zed.notSl=true:=rfl;have z3:Zed.cells.length=4:=rfl;have z4:Xf Zed 0 [J a0,J a1,.bool a2,J a3]=.agg [J a0,J a1,.bool a2,J a3]:=rfl;simp only[Pane.enc] at aa;simp +contextual -implicitDefEqProofs (maxSteps:=10^7) only[go_sem,seval,↓gZ,ad,ab,hx,w1,e1,ag,z1,z2,z3,z4,aa];refine af (k+1) _ (by omega) (by omega) ?_;simp +contextual -implicitDefEqProofs (maxSteps:=10^7) only[go_sem,seval,↓gZ,aa]
  ·have:k=ks.length:=by omega
   subst this;rw[Zdi];simp +contextual -implicitDefEqProofs (maxSteps:=10^7) only[go_sem,seval,↓gZ]
theorem ZiY (ks:List Pane) (hk:ks.length≤1099511627776):Zh Xs Ms Ue [.d (.sl (ks.map Pane.enc)),.d (.sl (ks.map Pane.enc))] []=some ((.d (.bool true)),[]):=by
 refine cE ?_;simp +contextual -implicitDefEqProofs (maxSteps:=10^7) only[go_sem,seval,↓gZ,ZcJ];refine LO (α:=Nat) (fun k=>[(5,.d (J (k:Int)))]) (fun _=>[]) (fun k=>k≤ks.length) (fun k=>ks.length-k) 0 (by omega) ?_;intro k ae ad;by_cases ab:k<ks.length
 ·obtain⟨x,hx⟩:=ZJ ab;have aa : (k:Int)<(ks.length:Int):=by omega
  have w1:=Zq (k:=k) (by omega);obtain⟨a0,a1,a2,a3⟩:=x;have e1:=Zjy a0 a1 a2 a3;simp +contextual -implicitDefEqProofs (maxSteps:=10^7) only[go_sem,seval,↓gZ,aa,ab,hx,w1,e1];refine ad (k+1) _ (by omega) (by omega) ?_;simp +contextual -implicitDefEqProofs (maxSteps:=10^7) only[go_sem,seval,↓gZ]
 ·have:k=ks.length:=by omega
  subst this;simp +contextual -implicitDefEqProofs (maxSteps:=10^7) only[go_sem,seval,↓gZ]
theorem ZiZ (ks:List Pane) (hk:ks.length≤1099511627776) (k:Int) (h0:0≤k) (h1:k≤1125899906842624):Zh Xs Ms Z2 [.own 0,(.d (J k))] [.row 4 (ks.map Pane.enc) true false]=some ((.d (J (k+((4*ks.length:Nat):Int)))),[.row 4 ((mks Zec 4 ks.length k).map Pane.enc) true false]):=by
 refine cE ?_;simp +contextual -implicitDefEqProofs (maxSteps:=10^7) only[go_sem,seval,↓gZ,Zad];refine V2 Xs Ms (st0:=?st0) (α:=Nat) (fun i=>[(5,.d (J (i:Int))),(1,.d (J (k+((4*i:Nat):Int))))]) (fun i=>[(0,.row 4 ((mkR Zec 4 k ks i).map Pane.enc) true false)]) (fun i=>i≤ks.length) (fun i=>ks.length-i) 0 ?hc (by omega) ?h0 ?step
 case hc=>simp +contextual -implicitDefEqProofs (maxSteps:=10^7) only[go_sem,seval,↓gZ]<;>exact rfl
 case h0=>simp only[ZnI,Nat.mul_zero,Lj,LL];rfl
 case step=>
  intro i hi ih;have ae:=Zqc Zec 4 k hi;by_cases aa:i<ks.length
  ·obtain⟨x,hx⟩:=ZJ aa;have ab : (i:Int)<(ks.length:Int):=by omega
   have w1:=Zq (k:=i) (by omega);have hg:=Zqd Zec 4 k hx;have hs:=ZnJ Pane.enc Zec 4 k aa;have ad:k+((4*(i+1):Nat):Int)=k+((4*i:Nat):Int)+1+1+1+1:=by omega
   obtain⟨a0,a1,a2,a3⟩:=x;generalize hK:k+((4*i:Nat):Int)=K at hs ad ⊢;have v1:=wi (K+1) (by omega) (by omega);have v2:=wi (K+1+1) (by omega) (by omega);have v3:=wi (K+1+1+1) (by omega) (by omega);have v4:=wi (K+1+1+1+1) (by omega) (by omega);simp only[Zec,Pane.enc] at hs;simp +contextual -implicitDefEqProofs (maxSteps:=10^7) only[go_sem,seval,↓gZ,ab,aa,hg,w1,ae,v1,v2,v3,v4,List.length_set,KO,List.set_set];refine ih (i+1) _ (by omega) (by omega) ?_;simp +contextual -implicitDefEqProofs (maxSteps:=10^7) only[go_sem,seval,↓gZ,hs,ad]
  ·have:i=ks.length:=by omega
   subst this;rw[Zqe];simp +contextual -implicitDefEqProofs (maxSteps:=10^7) only[go_sem,seval,↓gZ,UJ]
end Go.Proofs.Ytnachaiejoflhaa
