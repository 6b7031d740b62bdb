/- Own text. -/
import Derived.Test.YtighjmleicikhaaACode
import Derived.Test.YtighjmleicikhaaAbsParts
import Derived.Test.YtighjmleicikhaaAC1
import Derived.Test.YtighjmleicikhaaAbsOkD
namespace Go.Proofs.Ytighjmleicikhaa
open Go Go.Abs Go.Abs.E Go.Abs.L
open Nat (reduceMul reduceSub reduceLeDiff reduceEqDiff)
open Int (reduceLE reduceEq reduceToNat reduceNeg)
set_option linter.unusedSimpArgs false
set_option linter.unusedVariables false
set_option maxRecDepth 20000
set_option maxHeartbeats 4000000
def ZaM (k:Int):Box:=⟨k,k+1,k+1+1,k+1+1+1⟩
def Zcv (k:Int):Pane:=⟨k,k+1,decide ((k+1+1).tmod 3=0),k+1+1+1⟩
def Zis (k:Int):Int:=k
theorem ZhR (ks:List Box) (hk:ks.length≤1099511627776):Zj Xs Ms Vf [.d (.sl (ks.map Box.enc)),.d (.sl (ks.map Box.enc))] []=some ((.d (.bool true)),[]):=by
 refine cE ?_;simp +contextual -implicitDefEqProofs (maxSteps:=10^7) only[go_sem,seval,↓gZ,ZcB];refine LO (α:=Nat) (fun k=>[(5,.d (J (k:Int)))]) (fun _=>[]) (fun k=>k≤ks.length) (fun k=>ks.length-k) 0 (by omega) ?_;intro k ae ad;by_cases ab:k<ks.length
 ·obtain⟨x,hx⟩:=QN ab;have aa : (k:Int)<(ks.length:Int):=by omega
  have w1:=ZQ (k:=k) (by omega);obtain⟨a0,a1,a2,a3⟩:=x;have e1:=Zju a0 a1 a2 a3;simp +contextual -implicitDefEqProofs (maxSteps:=10^7) only[go_sem,seval,↓gZ,aa,ab,hx,w1,e1];refine ad (k+1) _ (by omega) (by omega) ?_;simp +contextual -implicitDefEqProofs (maxSteps:=10^7) only[go_sem,seval,↓gZ]
 ·have:k=ks.length:=by omega
  subst this;simp +contextual -implicitDefEqProofs (maxSteps:=10^7) only[go_sem,seval,↓gZ]
theorem ZhS (ks:List Box) (hk:ks.length≤1099511627776) (k:Int) (h0:0≤k) (h1:k≤1125899906842624):Zj Xs Ms Qe [.own 0,(.d (J k))] [.row 4 (ks.map Box.enc) true false]=some ((.d (J (k+((4*ks.length:Nat):Int)))),[.row 4 ((mks ZaM 4 ks.length k).map Box.enc) true false]):=by
 refine cE ?_;simp +contextual -implicitDefEqProofs (maxSteps:=10^7) only[go_sem,seval,↓gZ,J1];refine Wt Xs Ms (st0:=?st0) (α:=Nat) (fun i=>[(5,.d (J (i:Int))),(1,.d (J (k+((4*i:Nat):Int))))]) (fun i=>[(0,.row 4 ((mkR ZaM 4 k ks i).map Box.enc) true false)]) (fun i=>i≤ks.length) (fun i=>ks.length-i) 0 ?hc (by omega) ?h0 ?step
 case hc=>simp +contextual -implicitDefEqProofs (maxSteps:=10^7) only[go_sem,seval,↓gZ]<;>exact rfl
 case h0=>simp only[ZfT,Nat.mul_zero,LF,Int.add_zero];rfl
 case step=>
  intro i hi ih;have ae:=Zjr ZaM 4 k hi;by_cases aa:i<ks.length
  ·obtain⟨x,hx⟩:=QN aa;have ab : (i:Int)<(ks.length:Int):=by omega
   have w1:=ZQ (k:=i) (by omega);have hg:=Zjs ZaM 4 k hx;have hs:=ZfU Box.enc ZaM 4 k aa;have ad:k+((4*(i+1):Nat):Int)=k+((4*i:Nat):Int)+1+1+1+1:=by omega
   obtain⟨a0,a1,a2,a3⟩:=x;generalize hK:k+((4*i:Nat):Int)=K at hs ad ⊢;have v1:=wi (K+1) (by omega) (by omega);have v2:=wi (K+1+1) (by omega) (by omega);have v3:=wi (K+1+1+1) (by omega) (by omega);have v4:=wi (K+1+1+1+1) (by omega) (by omega);simp only[ZaM,Box.enc] at hs;simp +contextual -implicitDefEqProofs (maxSteps:=10^7) only[go_sem,seval,↓gZ,ab,aa,hg,w1,ae,v1,v2,v3,v4,List.length_set,KP,List.set_set];refine ih (i+1) _ (by omega) (by omega) ?_;simp +contextual -implicitDefEqProofs (maxSteps:=10^7) only[go_sem,seval,↓gZ,hs,ad]
  ·have:i=ks.length:=by omega
   subst this;rw[Zjt];simp +contextual -implicitDefEqProofs (maxSteps:=10^7) only[go_sem,seval,↓gZ,Wq]
theorem ZhT (n:Nat) (hk:n≤1099511627776) (k:Int) (h0:0≤k) (h1:k≤1125899906842624):Zj Xs Ms YF [.d (.sl ((mks ZaM 4 n k).map Box.enc)),(.d (J k))] []=some ((.d (J (k+((4*n:Nat):Int)))),[]):=by
 have ab:=Wq ZaM 4 n k;refine cE ?_;simp +contextual -implicitDefEqProofs (maxSteps:=10^7) only[go_sem,seval,↓gZ,J2];refine Wt Xs Ms (st0:=?st0) (α:=Nat) (fun i=>[(5,.d (J (i:Int))),(1,.d (J (k+((4*i:Nat):Int))))]) (fun _=>[]) (fun i=>i≤n) (fun i=>n-i) 0 ?hc (by omega) ?h0 ?step
 case hc=>simp +contextual -implicitDefEqProofs (maxSteps:=10^7) only[go_sem,seval,↓gZ]<;>exact rfl
 case h0=>simp only[Nat.mul_zero,LF,Int.add_zero];rfl
 case step=>
  intro i hi ih;by_cases ad:i<n
  ·have aa : (i:Int)<(n:Int):=by omega
   have w1:=ZQ (k:=i) (by omega);have hg:=ZnC ZaM 4 n k i ad;have ae:k+((4*(i+1):Nat):Int)=k+((4*i:Nat):Int)+1+1+1+1:=by omega
   generalize hK:k+((4*i:Nat):Int)=K at hg ae ⊢;have v1:=wi (K+1) (by omega) (by omega);have v2:=wi (K+1+1) (by omega) (by omega);have v3:=wi (K+1+1+1) (by omega) (by omega);have v4:=wi (K+1+1+1+1) (by omega) (by omega);simp only[ZaM] at hg;simp +contextual -implicitDefEqProofs (maxSteps:=10^7) only[go_sem,seval,↓gZ,aa,ad,hg,w1,ab,v1,v2,v3,v4];refine ih (i+1) _ (by omega) (by omega) ?_;simp +contextual -implicitDefEqProofs (maxSteps:=10^7) only[go_sem,seval,↓gZ,ae]
  ·have:i=n:=by omega
   subst this;simp +contextual -implicitDefEqProofs (maxSteps:=10^7) only[go_sem,seval,↓gZ,ab]
theorem ZjB (ks:List Pane) (hk:ks.length≤maxLen) (left:Int) (h0:0≤left) (hl:left≤1048576):Zj Xs Ms Wz [.d (.sl (ks.map Pane.enc)),(.d (J left))] []=some ((.d (J (szV left ks.length))),[]):=by
 have ab : (ks.length:Int)≤9223372036854775807:=by unfold maxLen at hk;omega
 have w:=wi (left-ks.length) (by omega) (by omega);by_cases hy:(ks.length:Int)≤left
 ·rw[JU hy];have aa:¬left-(ks.length:Int)<0:=by omega
  refine cE ?_;simp +contextual -implicitDefEqProofs (maxSteps:=10^7) only[go_sem,seval,↓gZ,UX,w,aa]
 ·rw[ZaJ hy];have aa:left-(ks.length:Int)<0:=by omega
  refine cE ?_;simp +contextual -implicitDefEqProofs (maxSteps:=10^7) only[go_sem,seval,↓gZ,UX,w,aa]
def Zcw:D:=.agg [J 0,J 0,.bool false,J 0]
theorem ZjC (ks:List Pane) (hk:ks.length≤1048576):Zj Xs Ms WB [.d (.sl (ks.map Pane.enc))] []=some (.own 0,[.row 4 (ks.map Pane.enc) true false]):=by
 have hm:(ks.length:Int)*32≤140737488355328∧(ks.length:Int)≤140737488355328:=by omega
 refine cE ?_;simp +contextual -implicitDefEqProofs (maxSteps:=10^7) only[go_sem,seval,↓gZ,ZaQ,hm,Zv];refine Wt Xs Ms (st0:=?st0) (α:=Nat) (fun k=>[(4,.d (J (k:Int)))]) (fun k=>[(0,.row 4 (UU Pane.enc Zcw ks k) true false)]) (fun k=>k≤ks.length) (fun k=>ks.length-k) 0 ?hc (by omega) ?h0 ?step
 case hc=>simp +contextual -implicitDefEqProofs (maxSteps:=10^7) only[go_sem,seval,↓gZ]<;>exact rfl
 case h0=>rw[Zcs];rfl
 case step=>
  intro k ae af;have ag:=Zd2 Pane.enc Zcw ae;by_cases ab:k<ks.length
  ·obtain⟨x,hx⟩:=QN ab;have ad : (k:Int)<(ks.length:Int):=by omega
   have w1:=ZQ (k:=k) (by omega);have aa:=Zd3 (f:=Pane.enc) (z:=Zcw) hx;obtain⟨a0,a1,a2,a3⟩:=x;have e1:=ZkK a0 a1 a2 a3;have z1:=Zd4 (f:=Pane.enc) (z:=Zcw) ab;have z2:Zcw.notSl=true:=rfl;have z3:Zcw.cells.length=4:=rfl;have z4:Xn Zcw 0 [J a0,J a1,.bool a2,J a3]=.agg [J a0,J a1,.bool a2,J a3]:=rfl;simp only[Pane.enc] at aa;simp +contextual -implicitDefEqProofs (maxSteps:=10^7) only[go_sem,seval,↓gZ,ad,ab,hx,w1,e1,ag,z1,z2,z3,z4,aa];refine af (k+1) _ (by omega) (by omega) ?_;simp +contextual -implicitDefEqProofs (maxSteps:=10^7) only[go_sem,seval,↓gZ,aa]
  ·have:k=ks.length:=by omega
   subst this;rw[Zd1];simp +contextual -implicitDefEqProofs (maxSteps:=10^7) only[go_sem,seval,↓gZ]
theorem Zf6 (ks:List Pane) (hk:ks.length≤1099511627776):Zj Xs Ms WD [.d (.sl (ks.map Pane.enc)),.d (.sl (ks.map Pane.enc))] []=some ((.d (.bool true)),[]):=by
 refine cE ?_;simp +contextual -implicitDefEqProofs (maxSteps:=10^7) only[go_sem,seval,↓gZ,ZaS];refine LO (α:=Nat) (fun k=>[(5,.d (J (k:Int)))]) (fun _=>[]) (fun k=>k≤ks.length) (fun k=>ks.length-k) 0 (by omega) ?_;intro k ae ad;by_cases ab:k<ks.length
 ·obtain⟨x,hx⟩:=QN ab;have aa : (k:Int)<(ks.length:Int):=by omega
  have w1:=ZQ (k:=k) (by omega);obtain⟨a0,a1,a2,a3⟩:=x;have e1:=ZhO a0 a1 a2 a3;simp +contextual -implicitDefEqProofs (maxSteps:=10^7) only[go_sem,seval,↓gZ,aa,ab,hx,w1,e1];refine ad (k+1) _ (by omega) (by omega) ?_;simp +contextual -implicitDefEqProofs (maxSteps:=10^7) only[go_sem,seval,↓gZ]
 ·have:k=ks.length:=by omega
  subst this;simp +contextual -implicitDefEqProofs (maxSteps:=10^7) only[go_sem,seval,↓gZ]
theorem Zf7 (ks:List Pane) (hk:ks.length≤1099511627776) (k:Int) (h0:0≤k) (h1:k≤1125899906842624):Zj Xs Ms ZV [.own 0,(.d (J k))] [.row 4 (ks.map Pane.enc) true false]=some ((.d (J (k+((4*ks.length:Nat):Int)))),[.row 4 ((mks Zcv 4 ks.length k).map Pane.enc) true false]):=by
 refine cE ?_;simp +contextual -implicitDefEqProofs (maxSteps:=10^7) only[go_sem,seval,↓gZ,Jd];refine Wt Xs Ms (st0:=?st0) (α:=Nat) (fun i=>[(5,.d (J (i:Int))),(1,.d (J (k+((4*i:Nat):Int))))]) (fun i=>[(0,.row 4 ((mkR Zcv 4 k ks i).map Pane.enc) true false)]) (fun i=>i≤ks.length) (fun i=>ks.length-i) 0 ?hc (by omega) ?h0 ?step
 case hc=>simp +contextual -implicitDefEqProofs (maxSteps:=10^7) only[go_sem,seval,↓gZ]<;>exact rfl
 case h0=>simp only[ZfT,Nat.mul_zero,LF,Int.add_zero];rfl
 case step=>
  intro i hi ih;have ae:=Zjr Zcv 4 k hi;by_cases aa:i<ks.length
  ·obtain⟨x,hx⟩:=QN aa;have ab : (i:Int)<(ks.length:Int):=by omega
   have w1:=ZQ (k:=i) (by omega);have hg:=Zjs Zcv 4 k hx;have hs:=ZfU Pane.enc Zcv 4 k aa;have ad:k+((4*(i+1):Nat):Int)=k+((4*i:Nat):Int)+1+1+1+1:=by omega
   obtain⟨a0,a1,a2,a3⟩:=x;generalize hK:k+((4*i:Nat):Int)=K at hs ad ⊢;have v1:=wi (K+1) (by omega) (by omega);have v2:=wi (K+1+1) (by omega) (by omega);have v3:=wi (K+1+1+1) (by omega) (by omega);have v4:=wi (K+1+1+1+1) (by omega) (by omega);simp only[Zcv,Pane.enc] at hs;simp +contextual -implicitDefEqProofs (maxSteps:=10^7) only[go_sem,seval,↓gZ,ab,aa,hg,w1,ae,v1,v2,v3,v4,List.length_set,KP,List.set_set];refine ih (i+1) _ (by omega) (by omega) ?_;simp +contextual -implicitDefEqProofs (maxSteps:=10^7) only[go_sem,seval,↓gZ,hs,ad]
  ·have:i=ks.length:=by omega
   subst this;rw[Zjt];simp +contextual -implicitDefEqProofs (maxSteps:=10^7) only[go_sem,seval,↓gZ,Wq]
def Zf8:D:=J 0
theorem ZkQ (ks:List Int) (hk:ks.length≤1048576):Zj Xs Ms Yj [.d (.sl (ks.map Wd))] []=some (.own 0,[.row 1 (ks.map Wd) true false]):=by
 have hm:(ks.length:Int)*8≤140737488355328∧(ks.length:Int)≤140737488355328:=by omega
 refine cE ?_;simp +contextual -implicitDefEqProofs (maxSteps:=10^7) only[go_sem,seval,↓gZ,ZcA,hm,Zv];refine Wt Xs Ms (st0:=?st0) (α:=Nat) (fun k=>[(4,.d (J (k:Int)))]) (fun k=>[(0,.row 1 (UU Wd Zf8 ks k) true false)]) (fun k=>k≤ks.length) (fun k=>ks.length-k) 0 ?hc (by omega) ?h0 ?step
 case hc=>simp +contextual -implicitDefEqProofs (maxSteps:=10^7) only[go_sem,seval,↓gZ]<;>exact rfl
 case h0=>rw[Zcs];rfl
 case step=>
  intro k ae af;have ag:=Zd2 Wd Zf8 ae;by_cases ab:k<ks.length
  ·obtain⟨x,hx⟩:=QN ab;have ad : (k:Int)<(ks.length:Int):=by omega
   have w1:=ZQ (k:=k) (by omega);have aa:=Zd3 (f:=Wd) (z:=Zf8) hx;have z1:=Zd4 (f:=Wd) (z:=Zf8) ab;have z2:Zf8.notSl=true:=rfl;have z3:Zf8.cells.length=1:=rfl;have z4:Xn Zf8 0 [J x]=J x:=rfl;simp only[Wd] at aa;simp +contextual -implicitDefEqProofs (maxSteps:=10^7) only[go_sem,seval,↓gZ,ad,ab,hx,w1,ag,z1,z2,z3,z4,aa];refine af (k+1) _ (by omega) (by omega) ?_;simp +contextual -implicitDefEqProofs (maxSteps:=10^7) only[go_sem,seval,↓gZ,aa]
  ·have:k=ks.length:=by omega
   subst this;rw[Zd1];simp +contextual -implicitDefEqProofs (maxSteps:=10^7) only[go_sem,seval,↓gZ]
theorem ZhU (ks:List Int) (hk:ks.length≤1099511627776):Zj Xs Ms Uo [.d (.sl (ks.map Wd)),.d (.sl (ks.map Wd))] []=some ((.d (.bool true)),[]):=by
 refine cE ?_;simp +contextual -implicitDefEqProofs (maxSteps:=10^7) only[go_sem,seval,↓gZ,ZcE];refine LO (α:=Nat) (fun k=>[(5,.d (J (k:Int)))]) (fun _=>[]) (fun k=>k≤ks.length) (fun k=>ks.length-k) 0 (by omega) ?_;intro k ae ad;by_cases ab:k<ks.length
 ·obtain⟨x,hx⟩:=QN ab;have aa : (k:Int)<(ks.length:Int):=by omega
  have w1:=ZQ (k:=k) (by omega);simp +contextual -implicitDefEqProofs (maxSteps:=10^7) only[go_sem,seval,↓gZ,aa,ab,hx,w1];refine ad (k+1) _ (by omega) (by omega) ?_;simp +contextual -implicitDefEqProofs (maxSteps:=10^7) only[go_sem,seval,↓gZ]
 ·have:k=ks.length:=by omega
  subst this;simp +contextual -implicitDefEqProofs (maxSteps:=10^7) only[go_sem,seval,↓gZ]
theorem ZhV (ks:List Int) (hk:ks.length≤1099511627776) (k:Int) (h0:0≤k) (h1:k≤1125899906842624):Zj Xs Ms Qd [.own 0,(.d (J k))] [.row 1 (ks.map Wd) true false]=some ((.d (J (k+((1*ks.length:Nat):Int)))),[.row 1 ((mks Zis 1 ks.length k).map Wd) true false]):=by
 refine cE ?_;simp +contextual -implicitDefEqProofs (maxSteps:=10^7) only[go_sem,seval,↓gZ,J0];refine Wt Xs Ms (st0:=?st0) (α:=Nat) (fun i=>[(5,.d (J (i:Int))),(1,.d (J (k+((1*i:Nat):Int))))]) (fun i=>[(0,.row 1 ((mkR Zis 1 k ks i).map Wd) true false)]) (fun i=>i≤ks.length) (fun i=>ks.length-i) 0 ?hc (by omega) ?h0 ?step
 case hc=>simp +contextual -implicitDefEqProofs (maxSteps:=10^7) only[go_sem,seval,↓gZ]<;>exact rfl
 case h0=>simp only[ZfT,Nat.mul_zero,LF,Int.add_zero];rfl
 case step=>
  intro i hi ih;have ae:=Zjr Zis 1 k hi;by_cases aa:i<ks.length
  ·obtain⟨x,hx⟩:=QN aa;have ab : (i:Int)<(ks.length:Int):=by omega
   have w1:=ZQ (k:=i) (by omega);have hg:=Zjs Zis 1 k hx;have hs:=ZfU Wd Zis 1 k aa;have ad:k+((1*(i+1):Nat):Int)=k+((1*i:Nat):Int)+1:=by omega
   generalize hK:k+((1*i:Nat):Int)=K at hs ad ⊢;have v1:=wi (K+1) (by omega) (by omega);simp only[Zis,Wd] at hs;simp +contextual -implicitDefEqProofs (maxSteps:=10^7) only[go_sem,seval,↓gZ,ab,aa,hg,w1,ae,v1,List.length_set,KP,List.set_set];refine ih (i+1) _ (by omega) (by omega) ?_;simp +contextual -implicitDefEqProofs (maxSteps:=10^7) only[go_sem,seval,↓gZ,hs,ad,List.headD_cons]
  ·have:i=ks.length:=by omega
   subst this;rw[Zjt];simp +contextual -implicitDefEqProofs (maxSteps:=10^7) only[go_sem,seval,↓gZ,Wq]
end Go.Proofs.Ytighjmleicikhaa
