/- Own text. -/
import Derived.Test.YthgciclhiaoecaaGreatACode
import Derived.Test.YthgciclhiaoecaaGreatAbsParts
import Derived.Test.YthgciclhiaoecaaGreatAC1
import Derived.Test.YthgciclhiaoecaaGreatAbsOkD
namespace Go.Proofs.YthgciclhiaoecaaGreat
open Go Go.Abs Go.Abs.E Go.Abs.L
open Nat (reduceMul reduceSub reduceLeDiff reduceEqDiff)
open Int (reduceLE reduceEq reduceToNat reduceNeg)
set_option linter.unusedSimpArgs false
set_option linter.unusedVariables false
set_option maxRecDepth 20000
set_option maxHeartbeats 4000000
def Zf3 (k:Int):Box:=⟨k,k+1,k+1+1,k+1+1+1⟩
def VU (k:Int):Zc:=⟨⟨k,k+1,decide ((k+1+1).tmod 3=0),k+1+1+1⟩,k+1+1+1+1⟩
theorem Zvr (ks:List Box) (hk:ks.length≤maxLen) (left:Int) (h0:0≤left) (hl:left≤1048576):Zd Xs Ms Zcj [.d (.sl (ks.map Box.enc)),(.d (J left))] []=some ((.d (J (szV left ks.length))),[]):=by
 have ab : (ks.length:Int)≤9223372036854775807:=by unfold maxLen at hk;omega
 have w:=wi (left-ks.length) (by omega) (by omega);by_cases hy:(ks.length:Int)≤left
 ·rw[Jd hy];have aa:¬left-(ks.length:Int)<0:=by omega
  refine cE ?_;simp +contextual -implicitDefEqProofs (maxSteps:=10^7) only[go_sem,seval,↓gZ,Ze7,w,aa]
 ·rw[Je hy];have aa:left-(ks.length:Int)<0:=by omega
  refine cE ?_;simp +contextual -implicitDefEqProofs (maxSteps:=10^7) only[go_sem,seval,↓gZ,Ze7,w,aa]
def ZpS:D:=.agg [J 0,J 0,J 0,J 0]
theorem Zvs (ks:List Box) (hk:ks.length≤1048576):Zd Xs Ms Zcl [.d (.sl (ks.map Box.enc))] []=some (.own 0,[.row 4 (ks.map Box.enc) true false]):=by
 have hm:(ks.length:Int)*32≤140737488355328∧(ks.length:Int)≤140737488355328:=by omega
 refine cE ?_;simp +contextual -implicitDefEqProofs (maxSteps:=10^7) only[go_sem,seval,↓gZ,Zkr,hm,ZK];refine Qw Xs Ms (st0:=?st0) (α:=Nat) (fun k=>[(4,.d (J (k:Int)))]) (fun k=>[(0,.row 4 (Zdd Box.enc ZpS ks k) true false)]) (fun k=>k≤ks.length) (fun k=>ks.length-k) 0 ?hc (by omega) ?h0 ?step
 case hc=>simp +contextual -implicitDefEqProofs (maxSteps:=10^7) only[go_sem,seval,↓gZ]<;>exact rfl
 case h0=>rw[Zkd];rfl
 case step=>
  intro k ae af;have ag:=ZmH Box.enc ZpS ae;by_cases ab:k<ks.length
  ·obtain⟨x,hx⟩:=Zo ab;have ad : (k:Int)<(ks.length:Int):=by omega
   have w1:=Zh (k:=k) (by omega);have aa:=ZmI (f:=Box.enc) (z:=ZpS) hx;obtain⟨a0,a1,a2,a3⟩:=x;have e1:=ZwX a0 a1 a2 a3;have z1:=ZmJ (f:=Box.enc) (z:=ZpS) ab;have z2:ZpS.notSl=true:=rfl;have z3:ZpS.cells.length=4:=rfl;have z4:Yy ZpS 0 [J a0,J a1,J a2,J a3]=.agg [J a0,J a1,J a2,J a3]:=rfl;simp only[Box.enc] at aa;simp +contextual -implicitDefEqProofs (maxSteps:=10^7) only[go_sem,seval,↓gZ,ad,ab,hx,w1,e1,ag,z1,z2,z3,z4,aa];refine af (k+1) _ (by omega) (by omega) ?_;simp +contextual -implicitDefEqProofs (maxSteps:=10^7) only[go_sem,seval,↓gZ,aa]
  ·have:k=ks.length:=by omega
   subst this;rw[ZmG];simp +contextual -implicitDefEqProofs (maxSteps:=10^7) only[go_sem,seval,↓gZ]
theorem Zsf (ks:List Box) (hk:ks.length≤1099511627776):Zd Xs Ms Zcn [.d (.sl (ks.map Box.enc)),.d (.sl (ks.map Box.enc))] []=some ((.d (.bool true)),[]):=by
 refine cE ?_;simp +contextual -implicitDefEqProofs (maxSteps:=10^7) only[go_sem,seval,↓gZ,Zkt];refine LO (α:=Nat) (fun k=>[(5,.d (J (k:Int)))]) (fun _=>[]) (fun k=>k≤ks.length) (fun k=>ks.length-k) 0 (by omega) ?_;intro k ae ad;by_cases ab:k<ks.length
 ·obtain⟨x,hx⟩:=Zo ab;have aa : (k:Int)<(ks.length:Int):=by omega
  have w1:=Zh (k:=k) (by omega);obtain⟨a0,a1,a2,a3⟩:=x;have e1:=Zk4 a0 a1 a2 a3;simp +contextual -implicitDefEqProofs (maxSteps:=10^7) only[go_sem,seval,↓gZ,aa,ab,hx,w1,e1];refine ad (k+1) _ (by omega) (by omega) ?_;simp +contextual -implicitDefEqProofs (maxSteps:=10^7) only[go_sem,seval,↓gZ]
 ·have:k=ks.length:=by omega
  subst this;simp +contextual -implicitDefEqProofs (maxSteps:=10^7) only[go_sem,seval,↓gZ]
theorem Zsg (ks:List Box) (hk:ks.length≤1099511627776) (k:Int) (h0:0≤k) (h1:k≤1125899906842624):Zd Xs Ms QE [.own 0,(.d (J k))] [.row 4 (ks.map Box.enc) true false]=some ((.d (J (k+((4*ks.length:Nat):Int)))),[.row 4 ((mks Zf3 4 ks.length k).map Box.enc) true false]):=by
 refine cE ?_;simp +contextual -implicitDefEqProofs (maxSteps:=10^7) only[go_sem,seval,↓gZ,Ze5];refine Qw Xs Ms (st0:=?st0) (α:=Nat) (fun i=>[(5,.d (J (i:Int))),(1,.d (J (k+((4*i:Nat):Int))))]) (fun i=>[(0,.row 4 ((mkR Zf3 4 k ks i).map Box.enc) true false)]) (fun i=>i≤ks.length) (fun i=>ks.length-i) 0 ?hc (by omega) ?h0 ?step
 case hc=>simp +contextual -implicitDefEqProofs (maxSteps:=10^7) only[go_sem,seval,↓gZ]<;>exact rfl
 case h0=>simp only[Zvg,Kas,K0,Ls];rfl
 case step=>
  intro i hi ih;have ae:=Zyl Zf3 4 k hi;by_cases aa:i<ks.length
  ·obtain⟨x,hx⟩:=Zo aa;have ab : (i:Int)<(ks.length:Int):=by omega
   have w1:=Zh (k:=i) (by omega);have hg:=Zym Zf3 4 k hx;have hs:=Zvh Box.enc Zf3 4 k aa;have ad:k+((4*(i+1):Nat):Int)=k+((4*i:Nat):Int)+1+1+1+1:=by omega
   obtain⟨a0,a1,a2,a3⟩:=x;generalize hK:k+((4*i:Nat):Int)=K at hs ad ⊢;have v1:=wi (K+1) (by omega) (by omega);have v2:=wi (K+1+1) (by omega) (by omega);have v3:=wi (K+1+1+1) (by omega) (by omega);have v4:=wi (K+1+1+1+1) (by omega) (by omega);simp only[Zf3,Box.enc] at hs;simp +contextual -implicitDefEqProofs (maxSteps:=10^7) only[go_sem,seval,↓gZ,ab,aa,hg,w1,ae,v1,v2,v3,v4,LR,KW,Kaz];refine ih (i+1) _ (by omega) (by omega) ?_;simp +contextual -implicitDefEqProofs (maxSteps:=10^7) only[go_sem,seval,↓gZ,hs,ad]
  ·have:i=ks.length:=by omega
   subst this;rw[Zyn];simp +contextual -implicitDefEqProofs (maxSteps:=10^7) only[go_sem,seval,↓gZ,ZaK]
theorem Zsh (n:Nat) (hk:n≤1099511627776) (k:Int) (h0:0≤k) (h1:k≤1125899906842624):Zd Xs Ms Js [.d (.sl ((mks Zf3 4 n k).map Box.enc)),(.d (J k))] []=some ((.d (J (k+((4*n:Nat):Int)))),[]):=by
 have ab:=ZaK Zf3 4 n k;refine cE ?_;simp +contextual -implicitDefEqProofs (maxSteps:=10^7) only[go_sem,seval,↓gZ,Ze6];refine Qw Xs Ms (st0:=?st0) (α:=Nat) (fun i=>[(5,.d (J (i:Int))),(1,.d (J (k+((4*i:Nat):Int))))]) (fun _=>[]) (fun i=>i≤n) (fun i=>n-i) 0 ?hc (by omega) ?h0 ?step
 case hc=>simp +contextual -implicitDefEqProofs (maxSteps:=10^7) only[go_sem,seval,↓gZ]<;>exact rfl
 case h0=>simp only[Kas,K0,Ls];rfl
 case step=>
  intro i hi ih;by_cases ad:i<n
  ·have aa : (i:Int)<(n:Int):=by omega
   have w1:=Zh (k:=i) (by omega);have hg:=Zt8 Zf3 4 n k i ad;have ae:k+((4*(i+1):Nat):Int)=k+((4*i:Nat):Int)+1+1+1+1:=by omega
   generalize hK:k+((4*i:Nat):Int)=K at hg ae ⊢;have v1:=wi (K+1) (by omega) (by omega);have v2:=wi (K+1+1) (by omega) (by omega);have v3:=wi (K+1+1+1) (by omega) (by omega);have v4:=wi (K+1+1+1+1) (by omega) (by omega);simp only[Zf3] at hg;simp +contextual -implicitDefEqProofs (maxSteps:=10^7) only[go_sem,seval,↓gZ,aa,ad,hg,w1,ab,v1,v2,v3,v4];refine ih (i+1) _ (by omega) (by omega) ?_;simp +contextual -implicitDefEqProofs (maxSteps:=10^7) only[go_sem,seval,↓gZ,ae]
  ·have:i=n:=by omega
   subst this;simp +contextual -implicitDefEqProofs (maxSteps:=10^7) only[go_sem,seval,↓gZ,ab]
theorem Zk7 (ks:List Zc) (hk:ks.length≤maxLen) (left:Int) (h0:0≤left) (hl:left≤1048576):Zd Xs Ms UR [.d (.sl (ks.map Zc.enc)),(.d (J left))] []=some ((.d (J (szV left ks.length))),[]):=by
 have ab : (ks.length:Int)≤9223372036854775807:=by unfold maxLen at hk;omega
 have w:=wi (left-ks.length) (by omega) (by omega);by_cases hy:(ks.length:Int)≤left
 ·rw[Jd hy];have aa:¬left-(ks.length:Int)<0:=by omega
  refine cE ?_;simp +contextual -implicitDefEqProofs (maxSteps:=10^7) only[go_sem,seval,↓gZ,Zdi,w,aa]
 ·rw[Je hy];have aa:left-(ks.length:Int)<0:=by omega
  refine cE ?_;simp +contextual -implicitDefEqProofs (maxSteps:=10^7) only[go_sem,seval,↓gZ,Zdi,w,aa]
def Zke:D:=.agg [J 0,J 0,.bool false,J 0,J 0]
theorem Zk8 (ks:List Zc) (hk:ks.length≤1048576):Zd Xs Ms UT [.d (.sl (ks.map Zc.enc))] []=some (.own 0,[.row 5 (ks.map Zc.enc) true false]):=by
 have hm:(ks.length:Int)*40≤140737488355328∧(ks.length:Int)≤140737488355328:=by omega
 refine cE ?_;simp +contextual -implicitDefEqProofs (maxSteps:=10^7) only[go_sem,seval,↓gZ,ZgZ,hm,ZK];refine Qw Xs Ms (st0:=?st0) (α:=Nat) (fun k=>[(4,.d (J (k:Int)))]) (fun k=>[(0,.row 5 (Zdd Zc.enc Zke ks k) true false)]) (fun k=>k≤ks.length) (fun k=>ks.length-k) 0 ?hc (by omega) ?h0 ?step
 case hc=>simp +contextual -implicitDefEqProofs (maxSteps:=10^7) only[go_sem,seval,↓gZ]<;>exact rfl
 case h0=>rw[Zkd];rfl
 case step=>
  intro k ae af;have ag:=ZmH Zc.enc Zke ae;by_cases ab:k<ks.length
  ·obtain⟨x,hx⟩:=Zo ab;have ad : (k:Int)<(ks.length:Int):=by omega
   have w1:=Zh (k:=k) (by omega);have aa:=ZmI (f:=Zc.enc) (z:=Zke) hx;obtain⟨⟨a0,a1,a2,a3⟩,a4⟩:=x;have e1:=Zvj a0 a1 a2 a3 a4;have z1:=ZmJ (f:=Zc.enc) (z:=Zke) ab;have z2:Zke.notSl=true:=rfl;have z3:Zke.cells.length=5:=rfl;have z4:Yy Zke 0 [J a0,J a1,.bool a2,J a3,J a4]=.agg [J a0,J a1,.bool a2,J a3,J a4]:=rfl;simp only[Zc.enc] at aa;simp +contextual -implicitDefEqProofs (maxSteps:=10^7) only[go_sem,seval,↓gZ,ad,ab,hx,w1,e1,ag,z1,z2,z3,z4,aa];refine af (k+1) _ (by omega) (by omega) ?_;simp +contextual -implicitDefEqProofs (maxSteps:=10^7) only[go_sem,seval,↓gZ,aa]
  ·have:k=ks.length:=by omega
   subst this;rw[ZmG];simp +contextual -implicitDefEqProofs (maxSteps:=10^7) only[go_sem,seval,↓gZ]
theorem ZgH (ks:List Zc) (hk:ks.length≤1099511627776):Zd Xs Ms UU [.d (.sl (ks.map Zc.enc)),.d (.sl (ks.map Zc.enc))] []=some ((.d (.bool true)),[]):=by
 refine cE ?_;simp +contextual -implicitDefEqProofs (maxSteps:=10^7) only[go_sem,seval,↓gZ,Zg0];refine LO (α:=Nat) (fun k=>[(5,.d (J (k:Int)))]) (fun _=>[]) (fun k=>k≤ks.length) (fun k=>ks.length-k) 0 (by omega) ?_;intro k ae ad;by_cases ab:k<ks.length
 ·obtain⟨x,hx⟩:=Zo ab;have aa : (k:Int)<(ks.length:Int):=by omega
  have w1:=Zh (k:=k) (by omega);obtain⟨⟨a0,a1,a2,a3⟩,a4⟩:=x;have e1:=Zi3 a0 a1 a2 a3 a4;simp +contextual -implicitDefEqProofs (maxSteps:=10^7) only[go_sem,seval,↓gZ,aa,ab,hx,w1,e1];refine ad (k+1) _ (by omega) (by omega) ?_;simp +contextual -implicitDefEqProofs (maxSteps:=10^7) only[go_sem,seval,↓gZ]
 ·have:k=ks.length:=by omega
  subst this;simp +contextual -implicitDefEqProofs (maxSteps:=10^7) only[go_sem,seval,↓gZ]
theorem Jf (ks:List Zc) (hk:ks.length≤1099511627776) (k:Int) (h0:0≤k) (h1:k≤1125899906842624):Zd Xs Ms Qc [.own 0,(.d (J k))] [.row 5 (ks.map Zc.enc) true false]=some ((.d (J (k+((5*ks.length:Nat):Int)))),[.row 5 ((mks VU 5 ks.length k).map Zc.enc) true false]):=by
 refine cE ?_;simp +contextual -implicitDefEqProofs (maxSteps:=10^7) only[go_sem,seval,↓gZ,ZdL];refine Qw Xs Ms (st0:=?st0) (α:=Nat) (fun i=>[(5,.d (J (i:Int))),(1,.d (J (k+((5*i:Nat):Int))))]) (fun i=>[(0,.row 5 ((mkR VU 5 k ks i).map Zc.enc) true false)]) (fun i=>i≤ks.length) (fun i=>ks.length-i) 0 ?hc (by omega) ?h0 ?step
 case hc=>simp +contextual -implicitDefEqProofs (maxSteps:=10^7) only[go_sem,seval,↓gZ]<;>exact rfl
 case h0=>simp only[Zvg,Kas,K0,Ls];rfl
 case step=>
  intro i hi ih;have ae:=Zyl VU 5 k hi;by_cases aa:i<ks.length
  ·obtain⟨x,hx⟩:=Zo aa;have ab : (i:Int)<(ks.length:Int):=by omega
   have w1:=Zh (k:=i) (by omega);have hg:=Zym VU 5 k hx;have hs:=Zvh Zc.enc VU 5 k aa;have ad:k+((5*(i+1):Nat):Int)=k+((5*i:Nat):Int)+1+1+1+1+1:=by omega
   obtain⟨⟨a0,a1,a2,a3⟩,a4⟩:=x;generalize hK:k+((5*i:Nat):Int)=K at hs ad ⊢;have v1:=wi (K+1) (by omega) (by omega);have v2:=wi (K+1+1) (by omega) (by omega);have v3:=wi (K+1+1+1) (by omega) (by omega);have v4:=wi (K+1+1+1+1) (by omega) (by omega);have v5:=wi (K+1+1+1+1+1) (by omega) (by omega);simp only[VU,Zc.enc] at hs;simp +contextual -implicitDefEqProofs (maxSteps:=10^7) only[go_sem,seval,↓gZ,ab,aa,hg,w1,ae,v1,v2,v3,v4,v5,LR,KW,Kaz];refine ih (i+1) _ (by omega) (by omega) ?_;simp +contextual -implicitDefEqProofs (maxSteps:=10^7) only[go_sem,seval,↓gZ,hs,ad]
  ·have:i=ks.length:=by omega
   subst this;rw[Zyn];simp +contextual -implicitDefEqProofs (maxSteps:=10^7) only[go_sem,seval,↓gZ,ZaK]
theorem ZgI (n:Nat) (hk:n≤1099511627776) (k:Int) (h0:0≤k) (h1:k≤1125899906842624):Zd Xs Ms VG [.d (.sl ((mks VU 5 n k).map Zc.enc)),(.d (J k))] []=some ((.d (J (k+((5*n:Nat):Int)))),[]):=by
 have ab:=ZaK VU 5 n k;refine cE ?_;simp +contextual -implicitDefEqProofs (maxSteps:=10^7) only[go_sem,seval,↓gZ,ZdM];refine Qw Xs Ms (st0:=?st0) (α:=Nat) (fun i=>[(5,.d (J (i:Int))),(1,.d (J (k+((5*i:Nat):Int))))]) (fun _=>[]) (fun i=>i≤n) (fun i=>n-i) 0 ?hc (by omega) ?h0 ?step
 case hc=>simp +contextual -implicitDefEqProofs (maxSteps:=10^7) only[go_sem,seval,↓gZ]<;>exact rfl
 case h0=>simp only[Kas,K0,Ls];rfl
 case step=>
  intro i hi ih;by_cases ad:i<n
  ·have aa : (i:Int)<(n:Int):=by omega
   have w1:=Zh (k:=i) (by omega);have hg:=Zt8 VU 5 n k i ad;have ae:k+((5*(i+1):Nat):Int)=k+((5*i:Nat):Int)+1+1+1+1+1:=by omega
   generalize hK:k+((5*i:Nat):Int)=K at hg ae ⊢;have v1:=wi (K+1) (by omega) (by omega);have v2:=wi (K+1+1) (by omega) (by omega);have v3:=wi (K+1+1+1) (by omega) (by omega);have v4:=wi (K+1+1+1+1) (by omega) (by omega);have v5:=wi (K+1+1+1+1+1) (by omega) (by omega);simp only[VU] at hg;simp +contextual -implicitDefEqProofs (maxSteps:=10^7) only[go_sem,seval,↓gZ,aa,ad,hg,w1,ab,v1,v2,v3,v4,v5,bNe,bne_self_eq_false];refine ih (i+1) _ (by omega) (by omega) ?_;simp +contextual -implicitDefEqProofs (maxSteps:=10^7) only[go_sem,seval,↓gZ,ae]
  ·have:i=n:=by omega
   subst this;simp +contextual -implicitDefEqProofs (maxSteps:=10^7) only[go_sem,seval,↓gZ,ab]
end Go.Proofs.YthgciclhiaoecaaGreat
