/- Own text. -/
import Derived.Test.YtdhgppkldoopaaaGreatACode
import Derived.Test.YtdhgppkldoopaaaGreatAbsParts
import Derived.Test.YtdhgppkldoopaaaGreatAC1
import Derived.Test.YtdhgppkldoopaaaGreatAbsOkD
namespace Go.Proofs.YtdhgppkldoopaaaGreat
open Go Go.Abs Go.Abs.E Go.Abs.L
open Nat (reduceMul reduceSub reduceLeDiff reduceEqDiff)
open Int (reduceLE reduceEq reduceToNat reduceNeg)
set_option linter.unusedSimpArgs false
set_option linter.unusedVariables false
set_option maxRecDepth 20000
set_option maxHeartbeats 4000000
def Ze8 (k:Int):Box:=⟨k,k+1,k+1+1,k+1+1+1⟩
def X7 (k:Int):Zc:=⟨⟨k,k+1,decide ((k+1+1).tmod 3=0),k+1+1+1⟩,k+1+1+1+1⟩
theorem Ztf (ks:List Box) (hk:ks.length≤maxLen) (left:Int) (h0:0≤left) (hl:left≤1048576):Zf Xs Ms Zbv [.d (.sl (ks.map Box.enc)),(.d (J left))] []=some ((.d (J (szV left ks.length))),[]):=by
 have ab : (ks.length:Int)≤9223372036854775807:=by unfold maxLen at hk;omega
 have w:=wi (left-ks.length) (by omega) (by omega);by_cases hy:(ks.length:Int)≤left
 ·rw[X6 hy];have aa:¬left-(ks.length:Int)<0:=by omega
  refine cE ?_;simp +contextual -implicitDefEqProofs (maxSteps:=10^7) only[go_sem,seval,↓gZ,Zef,w,aa]
 ·rw[XV hy];have aa:left-(ks.length:Int)<0:=by omega
  refine cE ?_;simp +contextual -implicitDefEqProofs (maxSteps:=10^7) only[go_sem,seval,↓gZ,Zef,w,aa]
def Zn6:D:=.agg [J 0,J 0,J 0,J 0]
theorem Ztg (ks:List Box) (hk:ks.length≤1048576):Zf Xs Ms Zby [.d (.sl (ks.map Box.enc))] []=some (.own 0,[.row 4 (ks.map Box.enc) true false]):=by
 have hm:(ks.length:Int)*32≤140737488355328∧(ks.length:Int)≤140737488355328:=by omega
 refine cE ?_;simp +contextual -implicitDefEqProofs (maxSteps:=10^7) only[go_sem,seval,↓gZ,Zi9,hm,ZI];refine YC Xs Ms (st0:=?st0) (α:=Nat) (fun k=>[(4,.d (J (k:Int)))]) (fun k=>[(0,.row 4 (ZaM Box.enc Zn6 ks k) true false)]) (fun k=>k≤ks.length) (fun k=>ks.length-k) 0 ?hc (by omega) ?h0 ?step
 case hc=>simp +contextual -implicitDefEqProofs (maxSteps:=10^7) only[go_sem,seval,↓gZ]<;>exact rfl
 case h0=>rw[Zbj];rfl
 case step=>
  intro k ae af;have ag:=Zdj Box.enc Zn6 ae;by_cases ab:k<ks.length
  ·obtain⟨x,hx⟩:=Zr ab;have ad : (k:Int)<(ks.length:Int):=by omega
   have w1:=Zj (k:=k) (by omega);have aa:=Zdk (f:=Box.enc) (z:=Zn6) hx;obtain⟨a0,a1,a2,a3⟩:=x;have e1:=Zn2 a0 a1 a2 a3;have z1:=Zdl (f:=Box.enc) (z:=Zn6) ab;have z2:Zn6.notSl=true:=rfl;have z3:Zn6.cells.length=4:=rfl;have z4:XM Zn6 0 [J a0,J a1,J a2,J a3]=.agg [J a0,J a1,J a2,J a3]:=rfl;simp only[Box.enc] at aa;simp +contextual -implicitDefEqProofs (maxSteps:=10^7) only[go_sem,seval,↓gZ,ad,ab,hx,w1,e1,ag,z1,z2,z3,z4,aa];refine af (k+1) _ (by omega) (by omega) ?_;simp +contextual -implicitDefEqProofs (maxSteps:=10^7) only[go_sem,seval,↓gZ,aa]
  ·have:k=ks.length:=by omega
   subst this;rw[Zdi];simp +contextual -implicitDefEqProofs (maxSteps:=10^7) only[go_sem,seval,↓gZ]
theorem Zqi (ks:List Box) (hk:ks.length≤1099511627776):Zf Xs Ms Zbu [.d (.sl (ks.map Box.enc)),.d (.sl (ks.map Box.enc))] []=some ((.d (.bool true)),[]):=by
 refine cE ?_;simp +contextual -implicitDefEqProofs (maxSteps:=10^7) only[go_sem,seval,↓gZ,Zi6];refine LO (α:=Nat) (fun k=>[(5,.d (J (k:Int)))]) (fun _=>[]) (fun k=>k≤ks.length) (fun k=>ks.length-k) 0 (by omega) ?_;intro k ae ad;by_cases ab:k<ks.length
 ·obtain⟨x,hx⟩:=Zr ab;have aa : (k:Int)<(ks.length:Int):=by omega
  have w1:=Zj (k:=k) (by omega);obtain⟨a0,a1,a2,a3⟩:=x;have e1:=ZjI a0 a1 a2 a3;simp +contextual -implicitDefEqProofs (maxSteps:=10^7) only[go_sem,seval,↓gZ,aa,ab,hx,w1,e1];refine ad (k+1) _ (by omega) (by omega) ?_;simp +contextual -implicitDefEqProofs (maxSteps:=10^7) only[go_sem,seval,↓gZ]
 ·have:k=ks.length:=by omega
  subst this;simp +contextual -implicitDefEqProofs (maxSteps:=10^7) only[go_sem,seval,↓gZ]
theorem Zqj (ks:List Box) (hk:ks.length≤1099511627776) (k:Int) (h0:0≤k) (h1:k≤1125899906842624):Zf Xs Ms Qw [.own 0,(.d (J k))] [.row 4 (ks.map Box.enc) true false]=some ((.d (J (k+((4*ks.length:Nat):Int)))),[.row 4 ((mks Ze8 4 ks.length k).map Box.enc) true false]):=by
 refine cE ?_;simp +contextual -implicitDefEqProofs (maxSteps:=10^7) only[go_sem,seval,↓gZ,Zeb];refine YC Xs Ms (st0:=?st0) (α:=Nat) (fun i=>[(5,.d (J (i:Int))),(1,.d (J (k+((4*i:Nat):Int))))]) (fun i=>[(0,.row 4 ((mkR Ze8 4 k ks i).map Box.enc) true false)]) (fun i=>i≤ks.length) (fun i=>ks.length-i) 0 ?hc (by omega) ?h0 ?step
 case hc=>simp +contextual -implicitDefEqProofs (maxSteps:=10^7) only[go_sem,seval,↓gZ]<;>exact rfl
 case h0=>simp only[Ztb,Kag,Ld,Lz];rfl
 case step=>
  intro i hi ih;have ae:=Zv7 Ze8 4 k hi;by_cases aa:i<ks.length
  ·obtain⟨x,hx⟩:=Zr aa;have ab : (i:Int)<(ks.length:Int):=by omega
   have w1:=Zj (k:=i) (by omega);have hg:=Zv8 Ze8 4 k hx;have hs:=Ztc Box.enc Ze8 4 k aa;have ad:k+((4*(i+1):Nat):Int)=k+((4*i:Nat):Int)+1+1+1+1:=by omega
   obtain⟨a0,a1,a2,a3⟩:=x;generalize hK:k+((4*i:Nat):Int)=K at hs ad ⊢;have v1:=wi (K+1) (by omega) (by omega);have v2:=wi (K+1+1) (by omega) (by omega);have v3:=wi (K+1+1+1) (by omega) (by omega);have v4:=wi (K+1+1+1+1) (by omega) (by omega);simp only[Ze8,Box.enc] at hs;simp +contextual -implicitDefEqProofs (maxSteps:=10^7) only[go_sem,seval,↓gZ,ab,aa,hg,w1,ae,v1,v2,v3,v4,LF,KM,Kan];refine ih (i+1) _ (by omega) (by omega) ?_;simp +contextual -implicitDefEqProofs (maxSteps:=10^7) only[go_sem,seval,↓gZ,hs,ad]
  ·have:i=ks.length:=by omega
   subst this;rw[Zv9];simp +contextual -implicitDefEqProofs (maxSteps:=10^7) only[go_sem,seval,↓gZ,J7]
theorem Zqk (n:Nat) (hk:n≤1099511627776) (k:Int) (h0:0≤k) (h1:k≤1125899906842624):Zf Xs Ms UR [.d (.sl ((mks Ze8 4 n k).map Box.enc)),(.d (J k))] []=some ((.d (J (k+((4*n:Nat):Int)))),[]):=by
 have ab:=J7 Ze8 4 n k;refine cE ?_;simp +contextual -implicitDefEqProofs (maxSteps:=10^7) only[go_sem,seval,↓gZ,Zec];refine YC Xs Ms (st0:=?st0) (α:=Nat) (fun i=>[(5,.d (J (i:Int))),(1,.d (J (k+((4*i:Nat):Int))))]) (fun _=>[]) (fun i=>i≤n) (fun i=>n-i) 0 ?hc (by omega) ?h0 ?step
 case hc=>simp +contextual -implicitDefEqProofs (maxSteps:=10^7) only[go_sem,seval,↓gZ]<;>exact rfl
 case h0=>simp only[Kag,Ld,Lz];rfl
 case step=>
  intro i hi ih;by_cases ad:i<n
  ·have aa : (i:Int)<(n:Int):=by omega
   have w1:=Zj (k:=i) (by omega);have hg:=Zr1 Ze8 4 n k i ad;have ae:k+((4*(i+1):Nat):Int)=k+((4*i:Nat):Int)+1+1+1+1:=by omega
   generalize hK:k+((4*i:Nat):Int)=K at hg ae ⊢;have v1:=wi (K+1) (by omega) (by omega);have v2:=wi (K+1+1) (by omega) (by omega);have v3:=wi (K+1+1+1) (by omega) (by omega);have v4:=wi (K+1+1+1+1) (by omega) (by omega);simp only[Ze8] at hg;simp +contextual -implicitDefEqProofs (maxSteps:=10^7) only[go_sem,seval,↓gZ,aa,ad,hg,w1,ab,v1,v2,v3,v4];refine ih (i+1) _ (by omega) (by omega) ?_;simp +contextual -implicitDefEqProofs (maxSteps:=10^7) only[go_sem,seval,↓gZ,ae]
  ·have:i=n:=by omega
   subst this;simp +contextual -implicitDefEqProofs (maxSteps:=10^7) only[go_sem,seval,↓gZ,ab]
theorem ZjJ (ks:List Zc) (hk:ks.length≤maxLen) (left:Int) (h0:0≤left) (hl:left≤1048576):Zf Xs Ms Up [.d (.sl (ks.map Zc.enc)),(.d (J left))] []=some ((.d (J (szV left ks.length))),[]):=by
 have ab : (ks.length:Int)≤9223372036854775807:=by unfold maxLen at hk;omega
 have w:=wi (left-ks.length) (by omega) (by omega);by_cases hy:(ks.length:Int)≤left
 ·rw[X6 hy];have aa:¬left-(ks.length:Int)<0:=by omega
  refine cE ?_;simp +contextual -implicitDefEqProofs (maxSteps:=10^7) only[go_sem,seval,↓gZ,Zcg,w,aa]
 ·rw[XV hy];have aa:left-(ks.length:Int)<0:=by omega
  refine cE ?_;simp +contextual -implicitDefEqProofs (maxSteps:=10^7) only[go_sem,seval,↓gZ,Zcg,w,aa]
def ZiS:D:=.agg [J 0,J 0,.bool false,J 0,J 0]
theorem ZjK (ks:List Zc) (hk:ks.length≤1048576):Zf Xs Ms Uq [.d (.sl (ks.map Zc.enc))] []=some (.own 0,[.row 5 (ks.map Zc.enc) true false]):=by
 have hm:(ks.length:Int)*40≤140737488355328∧(ks.length:Int)≤140737488355328:=by omega
 refine cE ?_;simp +contextual -implicitDefEqProofs (maxSteps:=10^7) only[go_sem,seval,↓gZ,ZfT,hm,ZI];refine YC Xs Ms (st0:=?st0) (α:=Nat) (fun k=>[(4,.d (J (k:Int)))]) (fun k=>[(0,.row 5 (ZaM Zc.enc ZiS ks k) true false)]) (fun k=>k≤ks.length) (fun k=>ks.length-k) 0 ?hc (by omega) ?h0 ?step
 case hc=>simp +contextual -implicitDefEqProofs (maxSteps:=10^7) only[go_sem,seval,↓gZ]<;>exact rfl
 case h0=>rw[Zbj];rfl
 case step=>
  intro k ae af;have ag:=Zdj Zc.enc ZiS ae;by_cases ab:k<ks.length
  ·obtain⟨x,hx⟩:=Zr ab;have ad : (k:Int)<(ks.length:Int):=by omega
   have w1:=Zj (k:=k) (by omega);have aa:=Zdk (f:=Zc.enc) (z:=ZiS) hx;obtain⟨⟨a0,a1,a2,a3⟩,a4⟩:=x;have e1:=Zmf a0 a1 a2 a3 a4;have z1:=Zdl (f:=Zc.enc) (z:=ZiS) ab;have z2:ZiS.notSl=true:=rfl;have z3:ZiS.cells.length=5:=rfl;have z4:XM ZiS 0 [J a0,J a1,.bool a2,J a3,J a4]=.agg [J a0,J a1,.bool a2,J a3,J a4]:=rfl;simp only[Zc.enc] at aa;simp +contextual -implicitDefEqProofs (maxSteps:=10^7) only[go_sem,seval,↓gZ,ad,ab,hx,w1,e1,ag,z1,z2,z3,z4,aa];refine af (k+1) _ (by omega) (by omega) ?_;simp +contextual -implicitDefEqProofs (maxSteps:=10^7) only[go_sem,seval,↓gZ,aa]
  ·have:k=ks.length:=by omega
   subst this;rw[Zdi];simp +contextual -implicitDefEqProofs (maxSteps:=10^7) only[go_sem,seval,↓gZ]
theorem ZfH (ks:List Zc) (hk:ks.length≤1099511627776):Zf Xs Ms Uo [.d (.sl (ks.map Zc.enc)),.d (.sl (ks.map Zc.enc))] []=some ((.d (.bool true)),[]):=by
 refine cE ?_;simp +contextual -implicitDefEqProofs (maxSteps:=10^7) only[go_sem,seval,↓gZ,ZfS];refine LO (α:=Nat) (fun k=>[(5,.d (J (k:Int)))]) (fun _=>[]) (fun k=>k≤ks.length) (fun k=>ks.length-k) 0 (by omega) ?_;intro k ae ad;by_cases ab:k<ks.length
 ·obtain⟨x,hx⟩:=Zr ab;have aa : (k:Int)<(ks.length:Int):=by omega
  have w1:=Zj (k:=k) (by omega);obtain⟨⟨a0,a1,a2,a3⟩,a4⟩:=x;have e1:=ZhM a0 a1 a2 a3 a4;simp +contextual -implicitDefEqProofs (maxSteps:=10^7) only[go_sem,seval,↓gZ,aa,ab,hx,w1,e1];refine ad (k+1) _ (by omega) (by omega) ?_;simp +contextual -implicitDefEqProofs (maxSteps:=10^7) only[go_sem,seval,↓gZ]
 ·have:k=ks.length:=by omega
  subst this;simp +contextual -implicitDefEqProofs (maxSteps:=10^7) only[go_sem,seval,↓gZ]
theorem VR (ks:List Zc) (hk:ks.length≤1099511627776) (k:Int) (h0:0≤k) (h1:k≤1125899906842624):Zf Xs Ms Z9 [.own 0,(.d (J k))] [.row 5 (ks.map Zc.enc) true false]=some ((.d (J (k+((5*ks.length:Nat):Int)))),[.row 5 ((mks X7 5 ks.length k).map Zc.enc) true false]):=by
 refine cE ?_;simp +contextual -implicitDefEqProofs (maxSteps:=10^7) only[go_sem,seval,↓gZ,ZcL];refine YC Xs Ms (st0:=?st0) (α:=Nat) (fun i=>[(5,.d (J (i:Int))),(1,.d (J (k+((5*i:Nat):Int))))]) (fun i=>[(0,.row 5 ((mkR X7 5 k ks i).map Zc.enc) true false)]) (fun i=>i≤ks.length) (fun i=>ks.length-i) 0 ?hc (by omega) ?h0 ?step
 case hc=>simp +contextual -implicitDefEqProofs (maxSteps:=10^7) only[go_sem,seval,↓gZ]<;>exact rfl
 case h0=>simp only[Ztb,Kag,Ld,Lz];rfl
 case step=>
  intro i hi ih;have ae:=Zv7 X7 5 k hi;by_cases aa:i<ks.length
  ·obtain⟨x,hx⟩:=Zr aa;have ab : (i:Int)<(ks.length:Int):=by omega
   have w1:=Zj (k:=i) (by omega);have hg:=Zv8 X7 5 k hx;have hs:=Ztc Zc.enc X7 5 k aa;have ad:k+((5*(i+1):Nat):Int)=k+((5*i:Nat):Int)+1+1+1+1+1:=by omega
   obtain⟨⟨a0,a1,a2,a3⟩,a4⟩:=x;generalize hK:k+((5*i:Nat):Int)=K at hs ad ⊢;have v1:=wi (K+1) (by omega) (by omega);have v2:=wi (K+1+1) (by omega) (by omega);have v3:=wi (K+1+1+1) (by omega) (by omega);have v4:=wi (K+1+1+1+1) (by omega) (by omega);have v5:=wi (K+1+1+1+1+1) (by omega) (by omega);simp only[X7,Zc.enc] at hs;simp +contextual -implicitDefEqProofs (maxSteps:=10^7) only[go_sem,seval,↓gZ,ab,aa,hg,w1,ae,v1,v2,v3,v4,v5,LF,KM,Kan];refine ih (i+1) _ (by omega) (by omega) ?_;simp +contextual -implicitDefEqProofs (maxSteps:=10^7) only[go_sem,seval,↓gZ,hs,ad]
  ·have:i=ks.length:=by omega
   subst this;rw[Zv9];simp +contextual -implicitDefEqProofs (maxSteps:=10^7) only[go_sem,seval,↓gZ,J7]
theorem ZfI (n:Nat) (hk:n≤1099511627776) (k:Int) (h0:0≤k) (h1:k≤1125899906842624):Zf Xs Ms Vi [.d (.sl ((mks X7 5 n k).map Zc.enc)),(.d (J k))] []=some ((.d (J (k+((5*n:Nat):Int)))),[]):=by
 have ab:=J7 X7 5 n k;refine cE ?_;simp +contextual -implicitDefEqProofs (maxSteps:=10^7) only[go_sem,seval,↓gZ,ZcM];refine YC Xs Ms (st0:=?st0) (α:=Nat) (fun i=>[(5,.d (J (i:Int))),(1,.d (J (k+((5*i:Nat):Int))))]) (fun _=>[]) (fun i=>i≤n) (fun i=>n-i) 0 ?hc (by omega) ?h0 ?step
 case hc=>simp +contextual -implicitDefEqProofs (maxSteps:=10^7) only[go_sem,seval,↓gZ]<;>exact rfl
 case h0=>simp only[Kag,Ld,Lz];rfl
 case step=>
  intro i hi ih;by_cases ad:i<n
  ·have aa : (i:Int)<(n:Int):=by omega
   have w1:=Zj (k:=i) (by omega);have hg:=Zr1 X7 5 n k i ad;have ae:k+((5*(i+1):Nat):Int)=k+((5*i:Nat):Int)+1+1+1+1+1:=by omega
   generalize hK:k+((5*i:Nat):Int)=K at hg ae ⊢;have v1:=wi (K+1) (by omega) (by omega);have v2:=wi (K+1+1) (by omega) (by omega);have v3:=wi (K+1+1+1) (by omega) (by omega);have v4:=wi (K+1+1+1+1) (by omega) (by omega);have v5:=wi (K+1+1+1+1+1) (by omega) (by omega);simp only[X7] at hg;simp +contextual -implicitDefEqProofs (maxSteps:=10^7) only[go_sem,seval,↓gZ,aa,ad,hg,w1,ab,v1,v2,v3,v4,v5,bNe,bne_self_eq_false];refine ih (i+1) _ (by omega) (by omega) ?_;simp +contextual -implicitDefEqProofs (maxSteps:=10^7) only[go_sem,seval,↓gZ,ae]
  ·have:i=n:=by omega
   subst this;simp +contextual -implicitDefEqProofs (maxSteps:=10^7) only[go_sem,seval,↓gZ,ab]
end Go.Proofs.YtdhgppkldoopaaaGreat
