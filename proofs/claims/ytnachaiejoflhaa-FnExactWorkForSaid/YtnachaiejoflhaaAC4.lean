/- Own text. -/
import Derived.Test.YtnachaiejoflhaaACode
import Derived.Test.YtnachaiejoflhaaAbsParts
import Derived.Test.YtnachaiejoflhaaAC3
import Derived.Test.YtnachaiejoflhaaAbsOkD
namespace Go.Proofs.Ytnachaiejoflhaa
open Go Go.Abs Go.Abs.E Go.Abs.L
open Nat (reduceMul reduceSub reduceLeDiff reduceEqDiff)
open Int (reduceLE reduceEq reduceToNat reduceNeg)
set_option linter.unusedSimpArgs false
set_option linter.unusedVariables false
set_option maxRecDepth 20000
set_option maxHeartbeats 4000000
def pcAt (l:List Zg) (n:Int):Option (Nat×Zg):=if 0≤VF 0 l n then (l[(VF 0 l n).toNat]?).map (fun x=>((VF 0 l n).toNat,x)) else none
theorem Zia {l:List Zg} {n:Int} (h:VF 0 l n<0):pcAt l n=none:=by unfold pcAt;rw[Ko (by omega)]
theorem Zib {l:List Zg} {n:Int} {a:Nat} {x:Zg} (h:VF 0 l n=(a:Int)) (hx:l[a]?=some x):pcAt l n=some (a,x):=by
 unfold pcAt;rw[h,Kw (by omega),Int.toNat_natCast,hx];rfl
@[go_sem] theorem rep_5 {α:Type} (a:α):List.replicate 5 a=[a,a,a,a,a]:=rfl
@[go_sem] theorem rep_8 {α:Type} (a:α):List.replicate 8 a=[a,a,a,a,a,a,a,a]:=rfl
@[go_sem] theorem rep_15 {α:Type} (a:α):List.replicate 15 a=[a,a,a,a,a,a,a,a,a,a,a,a,a,a,a]:=rfl
def ZfE (s:Yn) (n:Int):Option VS:=if Ww s then (match pcAt s.Stock n with
 | some (_,q)=>some ⟨q.W,q.H,s.Opn.map Zs.Pane⟩
 | none=>none) else none
def wkV:Option VS→AV×List Zh
 | some k=>(.tup [.agg [(.d (J (k.W))),(.d (J (k.H))),.own 0],(.d (.bool true))],[.row 4 (k.Panes.map Pane.enc) true false])
 | none=>(.tup [.agg [(.d (J 0)),(.d (J 0)),.own 0],(.d (.bool false))],[.row 4 [] true false])
theorem Zjd (sS:List Zg) (sO sD:List Zs) (sL sC:Int) (n:Int):Zj Xs Ms YR [(.d (.agg [.sl (sS.map Zg.enc),.sl (sO.map Zs.enc),.sl (sD.map Zs.enc),J sL,J sC])),(.d (J n))] []=some (wkV (ZfE (Yn.mk sS sO sD sL sC) n)):=by
 have e1:=ZfD sS sO sD sL sC;unfold ZfE;by_cases hv:Ww (Yn.mk sS sO sD sL sC)
 ·rw[KC hv] at e1;rw[Kw hv];have ab:=hv.1.1;have h8:=hv.2.1.1;simp only at ab h8;have e2:=Zfs sS n (by omega);by_cases hf:VF 0 sS n<0
  ·rw[Zia hf];unfold wkV;refine cE ?_;simp +contextual -implicitDefEqProofs (maxSteps:=10^7) only[go_sem,seval,↓gZ,Wf,e1,e2,hf]
  ·obtain⟨a,x,ha,hx⟩:=Zkm (by omega:0≤VF 0 sS n);rw[Zib ha hx];rw[ha] at e2;have ad:¬(a:Int)<0:=by omega
   have aa:=(Kc.1 hx).1;obtain⟨xL,xW,xH,xF⟩:=x;unfold wkV;refine cE ?_;simp +contextual -implicitDefEqProofs (maxSteps:=10^7) only[go_sem,seval,↓gZ,Wf,e1,e2,ad,aa,hx];refine LO (α:=Nat) (fun i=>[(37,.d (J (i:Int)))]) (fun i=>[(2,.row 4 (((sO.take i).map Zs.Pane).map Pane.enc) true false)]) (fun i=>i≤sO.length) (fun i=>sO.length-i) 0 (by omega) ?_;intro i hi ih;by_cases aa:i<sO.length
   ·obtain⟨x,hx⟩:=Qq aa;have hw:=Zw (k:=i) (by omega);have hm:=WQ hx;have ae:(sO.take i).length≤i:=by simp;omega
    have hr:((sO.take i).length+1)*32≤140737488355328∧(sO.take i).length≤140737488355327:=by omega
    obtain⟨⟨W,H,T,K⟩,C⟩:=x;simp only at hm;simp +contextual -implicitDefEqProofs (maxSteps:=10^7) only[go_sem,seval,↓gZ,hx,aa,hw,hr];refine ih (i+1) _ (by omega) (by omega) ?_;simp +contextual -implicitDefEqProofs (maxSteps:=10^7) only[go_sem,seval,↓gZ,hm]
    first | rfl | (simp;done) | (simp;rfl)
   ·have:i=sO.length:=by omega
    subst this;simp +contextual -implicitDefEqProofs (maxSteps:=10^7) only[go_sem,seval,↓gZ];simp
 ·rw[KE hv] at e1;rw[Ko hv];unfold wkV;refine cE ?_;simp +contextual -implicitDefEqProofs (maxSteps:=10^7) only[go_sem,seval,↓gZ,Wf,e1]
theorem Zje (sS:List Zg) (sO sD:List Zs) (sL sC:Int) (n:Int) (hs:ZlW (Yn.mk sS sO sD sL sC)):Zj Xs Ms V9 [(.d (.agg [.sl (sS.map Zg.enc),.sl (sO.map Zs.enc),.sl (sD.map Zs.enc),J sL,J sC])),(.d (J n))] []=some (wkV (ZfE (Yn.mk sS sO sD sL sC) n)):=by
 have e1:=ZfC sS sO sD sL sC hs;unfold ZfE;by_cases hv:Ww (Yn.mk sS sO sD sL sC)
 ·rw[KC hv] at e1;rw[Kw hv];have aa:=hv.1.1;have h8:=hv.2.1.1;simp only at aa h8;have e2:=Zft sS n (by omega);by_cases hf:VF 0 sS n<0
  ·rw[Zia hf];unfold wkV;refine cE ?_;simp +contextual -implicitDefEqProofs (maxSteps:=10^7) only[go_sem,seval,↓gZ,We,e1,e2,hf]
  ·obtain⟨a,x,ha,hx⟩:=Zkm (by omega:0≤VF 0 sS n);rw[Zib ha hx];rw[ha] at e2;have ab:¬(a:Int)<0:=by omega
   obtain⟨xL,xW,xH,xF⟩:=x;have e3:=Zkt sS sO sD sL sC a xL xW xH xF hx (by omega) (by omega);unfold wkV;refine cE ?_;simp +contextual -implicitDefEqProofs (maxSteps:=10^7) only[go_sem,seval,↓gZ,We,e1,e2,ab,e3]
 ·rw[KE hv] at e1;rw[Ko hv];unfold wkV;refine cE ?_;simp +contextual -implicitDefEqProofs (maxSteps:=10^7) only[go_sem,seval,↓gZ,We,e1]
end Go.Proofs.Ytnachaiejoflhaa
