/- Own text. -/
import Derived.Test.YtnachaiejoflhaaACode
import Derived.Test.YtnachaiejoflhaaAbsParts
import Derived.Test.YtnachaiejoflhaaAbsOkD
namespace Go.Proofs.Ytnachaiejoflhaa
open Go Go.Abs Go.Abs.E Go.Abs.L
open Nat (reduceMul reduceSub reduceLeDiff reduceEqDiff)
open Int (reduceLE reduceEq reduceToNat reduceNeg)
set_option linter.unusedSimpArgs false
set_option linter.unusedVariables false
set_option maxRecDepth 20000
set_option maxHeartbeats 4000000
theorem aF {α:Type} {l:List α} {g:α→D} (h:∀ x,(g x).flat=true):Wg D.flat (l.map g)=true:=by
 induction l with
 | nil=>rfl
 | cons x l ih=>simp[Wg,h,ih]
theorem bNe (a b:Bool):ZgO .neq true (AV.d (.bool a)) (.d (.bool b))=XF (some (AV.d (.bool (a != b)))):=by cases a<;>cases b<;>rfl
def szV (left:Int) (n:Nat):Int:=if (n:Int)≤left then left-n else -1
theorem V3 {left:Int} {n:Nat} (h:(n:Int)≤left):szV left n=left-n:=Kw h
theorem VH {left:Int} {n:Nat} (h:¬(n:Int)≤left):szV left n=-1:=Ko h
def Z0 {α:Type} (f:α→Nat):List α→Nat
 | []=>0
 | x :: r=>f x+Z0 f r
theorem ZoY {α:Type} {f:α→Nat} {l:List α} {k:Nat} {x:α} (h:l[k]?=some x):Z0 f (l.drop k)=f x+Z0 f (l.drop (k+1)):=by
 obtain⟨h1,h2⟩:=Kc.1 h;rw[KI h1,h2,Z0]
def Uv {α:Type} (f:α→D) (z:D) (l:List α) (k:Nat):List D:=(l.take k).map f++List.replicate (l.length-k) z
theorem Zb0 {α:Type} (f:α→D) (z:D) (l:List α):Uv f z l 0=List.replicate l.length z:=by simp[Uv]
theorem Zdx {α:Type} (f:α→D) (z:D) (l:List α):Uv f z l l.length=l.map f:=by simp[Uv]
theorem Zdy {α:Type} (f:α→D) (z:D) {l:List α} {k:Nat} (h:k≤l.length):(Uv f z l k).length=l.length:=by simp[Uv];omega
theorem Zdz {α:Type} {f:α→D} {z:D} {l:List α} {k:Nat} {x:α} (h:l[k]?=some x):(Uv f z l k).set k (f x)=Uv f z l (k+1):=by
 obtain⟨h1,h2⟩:=Kc.1 h;unfold Uv;have hl:((l.take k).map f).length=k:=by simp;omega
 rw[List.set_append_right _ _ (by omega),hl,LL,show l.length-k=(l.length-(k+1))+1 by omega,Ld,List.set_cons_zero,K1,h,List.map_append,K2];rfl
theorem ZdA {α:Type} {f:α→D} {z:D} {l:List α} {k:Nat} (h:k<l.length):(Uv f z l k)[k]?=some z:=by
 unfold Uv;have hl:((l.take k).map f).length=k:=by simp;omega
 rw[Kp (by omega),hl,LL,List.getElem?_replicate,Kw (by omega)]
def mks {α:Type} (f:Int→α) (c:Nat):Nat→Int→List α
 | 0,_=>[]
 | n+1,k=>f k :: mks f c n (k+c)
theorem V4 {α:Type} (f:Int→α) (c:Nat):∀ (n:Nat) (k:Int),(mks f c n k).length=n
 | 0,_=>rfl
 | n+1,k=>by simp[mks,V4 f c n]
theorem Zm6 {α:Type} (f:Int→α) (c:Nat):∀ (n:Nat) (k:Int) (i:Nat),i<n→(mks f c n k)[i]?=some (f (k+((c*i:Nat):Int)))
 | n+1,k,0,_=>by simp[mks]
 | n+1,k,i+1,h=>by
  rw[mks,Ll,Zm6 f c n _ i (by omega)];congr 2;push_cast;rw[Int.mul_add];omega
theorem Zku {α:Type} (f:Int→α) (c:Nat):∀ (n:Nat) (k:Int),mks f c (n+1) k=mks f c n k++[f (k+((c*n:Nat):Int))]
 | 0,k=>by simp[mks]
 | n+1,k=>by
  rw[mks,Zku f c n (k+c),mks,Ky];congr 3;push_cast;rw[Int.mul_add];congr 1;omega
def mkR {α:Type} (f:Int→α) (c:Nat) (k:Int) (l:List α) (i:Nat):List α:=mks f c i k++l.drop i
theorem Zjf {α:Type} (f:Int→α) (c:Nat) (k:Int) {l:List α} {i:Nat} (h:i≤l.length):(mkR f c k l i).length=l.length:=by simp[mkR,V4];omega
theorem Zjg {α:Type} (f:Int→α) (c:Nat) (k:Int) {l:List α} {i:Nat} {x:α} (h:l[i]?=some x):(mkR f c k l i)[i]?=some x:=by
 unfold mkR;rw[Kp (by rw[V4];omega),V4,LL,KL];simpa using h
theorem Zqy {α:Type} (f:Int→α) (c:Nat) (k:Int) {l:List α} {i:Nat} (h:i<l.length):(mkR f c k l i).set i (f (k+((c*i:Nat):Int)))=mkR f c k l (i+1):=by
 unfold mkR;rw[List.set_append_right _ _ (by rw[V4];omega),V4,LL,Zku,K2,KI h];rfl
theorem Zjh {α:Type} (f:Int→α) (c:Nat) (k:Int) (l:List α):mkR f c k l l.length=mks f c l.length k:=by simp[mkR]
theorem ZfF {α:Type} (f:Int→α) (c:Nat) (k:Int) (l:List α):mkR f c k l 0=l:=by simp[mkR,mks]
theorem ZfG {α:Type} (g:α→D) (f:Int→α) (c:Nat) (k:Int) {l:List α} {i:Nat} (h:i<l.length):((mkR f c k l i).map g).set i (g (f (k+((c*i:Nat):Int))))=(mkR f c k l (i+1)).map g:=by
 rw[← List.map_set,Zqy f c k h]
theorem ZlX (bX bY bW bH:Int):Zj Xs Ms U9 [(.d (.agg [J bX,J bY,J bW,J bH]))] []=some ((.d (.agg [J bX,J bY,J bW,J bH])),[]):=by
 refine cE ?_;simp +contextual -implicitDefEqProofs (maxSteps:=10^7) only[go_sem,seval,↓gZ,ZdD]
theorem Zkv (bW bH:Int) (bT:Bool) (bK:Int):Zj Xs Ms WZ [(.d (.agg [J bW,J bH,.bool bT,J bK]))] []=some ((.d (.agg [J bW,J bH,.bool bT,J bK])),[]):=by
 refine cE ?_;simp +contextual -implicitDefEqProofs (maxSteps:=10^7) only[go_sem,seval,↓gZ,Zcc]
theorem Zkw (bW bH:Int) (bT:Bool) (bK bC:Int):Zj Xs Ms WX [(.d (.agg [J bW,J bH,.bool bT,J bK,J bC]))] []=some ((.d (.agg [J bW,J bH,.bool bT,J bK,J bC])),[]):=by
 have e1:=Zkv bW bH bT bK;refine cE ?_;simp +contextual -implicitDefEqProofs (maxSteps:=10^7) only[go_sem,seval,↓gZ,Zb9,e1]
theorem Zji (bX bY bW bH:Int):Zj Xs Ms U8 [(.d (.agg [J bX,J bY,J bW,J bH])),(.d (.agg [J bX,J bY,J bW,J bH]))] []=some ((.d (.bool true)),[]):=by
 refine cE ?_;simp +contextual -implicitDefEqProofs (maxSteps:=10^7) only[go_sem,seval,↓gZ,ZdC]
theorem ZbG (bW bH:Int) (bT:Bool) (bK:Int):Zj Xs Ms VJ [(.d (.agg [J bW,J bH,.bool bT,J bK])),(.d (.agg [J bW,J bH,.bool bT,J bK]))] []=some ((.d (.bool true)),[]):=by
 refine cE ?_;simp +contextual -implicitDefEqProofs (maxSteps:=10^7) only[go_sem,seval,↓gZ,Zca,bNe,bne_self_eq_false]
theorem Zhy (bW bH:Int) (bT:Bool) (bK bC:Int):Zj Xs Ms WY [(.d (.agg [J bW,J bH,.bool bT,J bK,J bC])),(.d (.agg [J bW,J bH,.bool bT,J bK,J bC]))] []=some ((.d (.bool true)),[]):=by
 have e1:=ZbG bW bH bT bK;refine cE ?_;simp +contextual -implicitDefEqProofs (maxSteps:=10^7) only[go_sem,seval,↓gZ,Zcb,e1]
def Zef (k:Int):Box:=⟨k,k+1,k+1+1,k+1+1+1⟩
def VI (k:Int):Pane:=⟨k,k+1,decide ((k+1+1).tmod 3=0),k+1+1+1⟩
def Zas (k:Int):Zs:=⟨⟨k,k+1,decide ((k+1+1).tmod 3=0),k+1+1+1⟩,k+1+1+1+1⟩
theorem Zkx (ks:List Box) (hk:ks.length≤maxLen) (left:Int) (h0:0≤left) (hl:left≤1048576):Zj Xs Ms WV [.d (.sl (ks.map Box.enc)),(.d (J left))] []=some ((.d (J (szV left ks.length))),[]):=by
 have ab : (ks.length:Int)≤9223372036854775807:=by unfold maxLen at hk;omega
 have w:=wi (left-ks.length) (by omega) (by omega);by_cases hy:(ks.length:Int)≤left
 ·rw[V3 hy];have aa:¬left-(ks.length:Int)<0:=by omega
  refine cE ?_;simp +contextual -implicitDefEqProofs (maxSteps:=10^7) only[go_sem,seval,↓gZ,JB,w,aa]
 ·rw[VH hy];have aa:left-(ks.length:Int)<0:=by omega
  refine cE ?_;simp +contextual -implicitDefEqProofs (maxSteps:=10^7) only[go_sem,seval,↓gZ,JB,w,aa]
def ZfH:D:=.agg [J 0,J 0,J 0,J 0]
theorem Zky (ks:List Box) (hk:ks.length≤1048576):Zj Xs Ms WW [.d (.sl (ks.map Box.enc))] []=some (.own 0,[.row 4 (ks.map Box.enc) true false]):=by
 have hm:(ks.length:Int)*32≤140737488355328∧(ks.length:Int)≤140737488355328:=by omega
 refine cE ?_;simp +contextual -implicitDefEqProofs (maxSteps:=10^7) only[go_sem,seval,↓gZ,Zb8,hm,ZI];refine V6 Xs Ms (st0:=?st0) (α:=Nat) (fun k=>[(4,.d (J (k:Int)))]) (fun k=>[(0,.row 4 (Uv Box.enc ZfH ks k) true false)]) (fun k=>k≤ks.length) (fun k=>ks.length-k) 0 ?hc (by omega) ?h0 ?step
 case hc=>simp +contextual -implicitDefEqProofs (maxSteps:=10^7) only[go_sem,seval,↓gZ]<;>exact rfl
 case h0=>rw[Zb0];rfl
 case step=>
  intro k ae af;have ag:=Zdy Box.enc ZfH ae;by_cases ab:k<ks.length
  ·obtain⟨x,hx⟩:=Qq ab;have ad : (k:Int)<(ks.length:Int):=by omega
   have w1:=Zw (k:=k) (by omega);have aa:=Zdz (f:=Box.enc) (z:=ZfH) hx;obtain⟨a0,a1,a2,a3⟩:=x;have e1:=ZlX a0 a1 a2 a3;have z1:=ZdA (f:=Box.enc) (z:=ZfH) ab;have z2:ZfH.notSl=true:=rfl;have z3:ZfH.cells.length=4:=rfl;have z4:Q2 ZfH 0 [J a0,J a1,J a2,J a3]=.agg [J a0,J a1,J a2,J a3]:=rfl;simp only[Box.enc] at aa;simp +contextual -implicitDefEqProofs (maxSteps:=10^7) only[go_sem,seval,↓gZ,ad,ab,hx,w1,e1,ag,z1,z2,z3,z4,aa];refine af (k+1) _ (by omega) (by omega) ?_;simp +contextual -implicitDefEqProofs (maxSteps:=10^7) only[go_sem,seval,↓gZ,aa]
  ·have:k=ks.length:=by omega
   subst this;rw[Zdx];simp +contextual -implicitDefEqProofs (maxSteps:=10^7) only[go_sem,seval,↓gZ]
theorem Zhz (ks:List Box) (hk:ks.length≤1099511627776):Zj Xs Ms WT [.d (.sl (ks.map Box.enc)),.d (.sl (ks.map Box.enc))] []=some ((.d (.bool true)),[]):=by
 refine cE ?_;simp +contextual -implicitDefEqProofs (maxSteps:=10^7) only[go_sem,seval,↓gZ,Zb6];refine LO (α:=Nat) (fun k=>[(5,.d (J (k:Int)))]) (fun _=>[]) (fun k=>k≤ks.length) (fun k=>ks.length-k) 0 (by omega) ?_;intro k ae ad;by_cases ab:k<ks.length
 ·obtain⟨x,hx⟩:=Qq ab;have aa : (k:Int)<(ks.length:Int):=by omega
  have w1:=Zw (k:=k) (by omega);obtain⟨a0,a1,a2,a3⟩:=x;have e1:=Zji a0 a1 a2 a3;simp +contextual -implicitDefEqProofs (maxSteps:=10^7) only[go_sem,seval,↓gZ,aa,ab,hx,w1,e1];refine ad (k+1) _ (by omega) (by omega) ?_;simp +contextual -implicitDefEqProofs (maxSteps:=10^7) only[go_sem,seval,↓gZ]
 ·have:k=ks.length:=by omega
  subst this;simp +contextual -implicitDefEqProofs (maxSteps:=10^7) only[go_sem,seval,↓gZ]
theorem ZhA (ks:List Box) (hk:ks.length≤1099511627776) (k:Int) (h0:0≤k) (h1:k≤1125899906842624):Zj Xs Ms Qb [.own 0,(.d (J k))] [.row 4 (ks.map Box.enc) true false]=some ((.d (J (k+((4*ks.length:Nat):Int)))),[.row 4 ((mks Zef 4 ks.length k).map Box.enc) true false]):=by
 refine cE ?_;simp +contextual -implicitDefEqProofs (maxSteps:=10^7) only[go_sem,seval,↓gZ,Jy];refine V6 Xs Ms (st0:=?st0) (α:=Nat) (fun i=>[(5,.d (J (i:Int))),(1,.d (J (k+((4*i:Nat):Int))))]) (fun i=>[(0,.row 4 ((mkR Zef 4 k ks i).map Box.enc) true false)]) (fun i=>i≤ks.length) (fun i=>ks.length-i) 0 ?hc (by omega) ?h0 ?step
 case hc=>simp +contextual -implicitDefEqProofs (maxSteps:=10^7) only[go_sem,seval,↓gZ]<;>exact rfl
 case h0=>simp only[ZfF,Nat.mul_zero,Lm,LM];rfl
 case step=>
  intro i hi ih;have ae:=Zjf Zef 4 k hi;by_cases aa:i<ks.length
  ·obtain⟨x,hx⟩:=Qq aa;have ab : (i:Int)<(ks.length:Int):=by omega
   have w1:=Zw (k:=i) (by omega);have hg:=Zjg Zef 4 k hx;have hs:=ZfG Box.enc Zef 4 k aa;have ad:k+((4*(i+1):Nat):Int)=k+((4*i:Nat):Int)+1+1+1+1:=by omega
   obtain⟨a0,a1,a2,a3⟩:=x;generalize hK:k+((4*i:Nat):Int)=K at hs ad ⊢;have v1:=wi (K+1) (by omega) (by omega);have v2:=wi (K+1+1) (by omega) (by omega);have v3:=wi (K+1+1+1) (by omega) (by omega);have v4:=wi (K+1+1+1+1) (by omega) (by omega);simp only[Zef,Box.enc] at hs;simp +contextual -implicitDefEqProofs (maxSteps:=10^7) only[go_sem,seval,↓gZ,ab,aa,hg,w1,ae,v1,v2,v3,v4,List.length_set,KO,List.set_set];refine ih (i+1) _ (by omega) (by omega) ?_;simp +contextual -implicitDefEqProofs (maxSteps:=10^7) only[go_sem,seval,↓gZ,hs,ad]
  ·have:i=ks.length:=by omega
   subst this;rw[Zjh];simp +contextual -implicitDefEqProofs (maxSteps:=10^7) only[go_sem,seval,↓gZ,V4]
theorem ZfI (ks:List Pane) (hk:ks.length≤1099511627776):Zj Xs Ms Wd [.d (.sl (ks.map Pane.enc)),.d (.sl (ks.map Pane.enc))] []=some ((.d (.bool true)),[]):=by
 refine cE ?_;simp +contextual -implicitDefEqProofs (maxSteps:=10^7) only[go_sem,seval,↓gZ,Zaz];refine LO (α:=Nat) (fun k=>[(5,.d (J (k:Int)))]) (fun _=>[]) (fun k=>k≤ks.length) (fun k=>ks.length-k) 0 (by omega) ?_;intro k ae ad;by_cases ab:k<ks.length
 ·obtain⟨x,hx⟩:=Qq ab;have aa : (k:Int)<(ks.length:Int):=by omega
  have w1:=Zw (k:=k) (by omega);obtain⟨a0,a1,a2,a3⟩:=x;have e1:=ZbG a0 a1 a2 a3;simp +contextual -implicitDefEqProofs (maxSteps:=10^7) only[go_sem,seval,↓gZ,aa,ab,hx,w1,e1];refine ad (k+1) _ (by omega) (by omega) ?_;simp +contextual -implicitDefEqProofs (maxSteps:=10^7) only[go_sem,seval,↓gZ]
 ·have:k=ks.length:=by omega
  subst this;simp +contextual -implicitDefEqProofs (maxSteps:=10^7) only[go_sem,seval,↓gZ]
theorem ZfJ (ks:List Pane) (hk:ks.length≤1099511627776) (k:Int) (h0:0≤k) (h1:k≤1125899906842624):Zj Xs Ms ZT [.own 0,(.d (J k))] [.row 4 (ks.map Pane.enc) true false]=some ((.d (J (k+((4*ks.length:Nat):Int)))),[.row 4 ((mks VI 4 ks.length k).map Pane.enc) true false]):=by
 refine cE ?_;simp +contextual -implicitDefEqProofs (maxSteps:=10^7) only[go_sem,seval,↓gZ,UO];refine V6 Xs Ms (st0:=?st0) (α:=Nat) (fun i=>[(5,.d (J (i:Int))),(1,.d (J (k+((4*i:Nat):Int))))]) (fun i=>[(0,.row 4 ((mkR VI 4 k ks i).map Pane.enc) true false)]) (fun i=>i≤ks.length) (fun i=>ks.length-i) 0 ?hc (by omega) ?h0 ?step
 case hc=>simp +contextual -implicitDefEqProofs (maxSteps:=10^7) only[go_sem,seval,↓gZ]<;>exact rfl
 case h0=>simp only[ZfF,Nat.mul_zero,Lm,LM];rfl
 case step=>
  intro i hi ih;have ae:=Zjf VI 4 k hi;by_cases aa:i<ks.length
  ·obtain⟨x,hx⟩:=Qq aa;have ab : (i:Int)<(ks.length:Int):=by omega
   have w1:=Zw (k:=i) (by omega);have hg:=Zjg VI 4 k hx;have hs:=ZfG Pane.enc VI 4 k aa;have ad:k+((4*(i+1):Nat):Int)=k+((4*i:Nat):Int)+1+1+1+1:=by omega
   obtain⟨a0,a1,a2,a3⟩:=x;generalize hK:k+((4*i:Nat):Int)=K at hs ad ⊢;have v1:=wi (K+1) (by omega) (by omega);have v2:=wi (K+1+1) (by omega) (by omega);have v3:=wi (K+1+1+1) (by omega) (by omega);have v4:=wi (K+1+1+1+1) (by omega) (by omega);simp only[VI,Pane.enc] at hs;simp +contextual -implicitDefEqProofs (maxSteps:=10^7) only[go_sem,seval,↓gZ,ab,aa,hg,w1,ae,v1,v2,v3,v4,List.length_set,KO,List.set_set];refine ih (i+1) _ (by omega) (by omega) ?_;simp +contextual -implicitDefEqProofs (maxSteps:=10^7) only[go_sem,seval,↓gZ,hs,ad]
  ·have:i=ks.length:=by omega
   subst this;rw[Zjh];simp +contextual -implicitDefEqProofs (maxSteps:=10^7) only[go_sem,seval,↓gZ,V4]
theorem ZfK (n:Nat) (hk:n≤1099511627776) (k:Int) (h0:0≤k) (h1:k≤1125899906842624):Zj Xs Ms Yu [.d (.sl ((mks VI 4 n k).map Pane.enc)),(.d (J k))] []=some ((.d (J (k+((4*n:Nat):Int)))),[]):=by
 have ab:=V4 VI 4 n k;refine cE ?_;simp +contextual -implicitDefEqProofs (maxSteps:=10^7) only[go_sem,seval,↓gZ,UP];refine V6 Xs Ms (st0:=?st0) (α:=Nat) (fun i=>[(5,.d (J (i:Int))),(1,.d (J (k+((4*i:Nat):Int))))]) (fun _=>[]) (fun i=>i≤n) (fun i=>n-i) 0 ?hc (by omega) ?h0 ?step
 case hc=>simp +contextual -implicitDefEqProofs (maxSteps:=10^7) only[go_sem,seval,↓gZ]<;>exact rfl
 case h0=>simp only[Nat.mul_zero,Lm,LM];rfl
 case step=>
  intro i hi ih;by_cases ad:i<n
  ·have aa : (i:Int)<(n:Int):=by omega
   have w1:=Zw (k:=i) (by omega);have hg:=Zm6 VI 4 n k i ad;have ae:k+((4*(i+1):Nat):Int)=k+((4*i:Nat):Int)+1+1+1+1:=by omega
   generalize hK:k+((4*i:Nat):Int)=K at hg ae ⊢;have v1:=wi (K+1) (by omega) (by omega);have v2:=wi (K+1+1) (by omega) (by omega);have v3:=wi (K+1+1+1) (by omega) (by omega);have v4:=wi (K+1+1+1+1) (by omega) (by omega);simp only[VI] at hg;simp +contextual -implicitDefEqProofs (maxSteps:=10^7) only[go_sem,seval,↓gZ,aa,ad,hg,w1,ab,v1,v2,v3,v4,bNe,bne_self_eq_false];refine ih (i+1) _ (by omega) (by omega) ?_;simp +contextual -implicitDefEqProofs (maxSteps:=10^7) only[go_sem,seval,↓gZ,ae]
  ·have:i=n:=by omega
   subst this;simp +contextual -implicitDefEqProofs (maxSteps:=10^7) only[go_sem,seval,↓gZ,ab]
theorem ZcG (ks:List Zs) (hk:ks.length≤maxLen) (left:Int) (h0:0≤left) (hl:left≤1048576):Zj Xs Ms YS [.d (.sl (ks.map Zs.enc)),(.d (J left))] []=some ((.d (J (szV left ks.length))),[]):=by
 have ab : (ks.length:Int)≤9223372036854775807:=by unfold maxLen at hk;omega
 have w:=wi (left-ks.length) (by omega) (by omega);by_cases hy:(ks.length:Int)≤left
 ·rw[V3 hy];have aa:¬left-(ks.length:Int)<0:=by omega
  refine cE ?_;simp +contextual -implicitDefEqProofs (maxSteps:=10^7) only[go_sem,seval,↓gZ,Ux,w,aa]
 ·rw[VH hy];have aa:left-(ks.length:Int)<0:=by omega
  refine cE ?_;simp +contextual -implicitDefEqProofs (maxSteps:=10^7) only[go_sem,seval,↓gZ,Ux,w,aa]
def Zb1:D:=.agg [J 0,J 0,.bool false,J 0,J 0]
theorem ZcH (ks:List Zs) (hk:ks.length≤1048576):Zj Xs Ms YT [.d (.sl (ks.map Zs.enc))] []=some (.own 0,[.row 5 (ks.map Zs.enc) true false]):=by
 have hm:(ks.length:Int)*40≤140737488355328∧(ks.length:Int)≤140737488355328:=by omega
 refine cE ?_;simp +contextual -implicitDefEqProofs (maxSteps:=10^7) only[go_sem,seval,↓gZ,Zay,hm,ZI];refine V6 Xs Ms (st0:=?st0) (α:=Nat) (fun k=>[(4,.d (J (k:Int)))]) (fun k=>[(0,.row 5 (Uv Zs.enc Zb1 ks k) true false)]) (fun k=>k≤ks.length) (fun k=>ks.length-k) 0 ?hc (by omega) ?h0 ?step
 case hc=>simp +contextual -implicitDefEqProofs (maxSteps:=10^7) only[go_sem,seval,↓gZ]<;>exact rfl
 case h0=>rw[Zb0];rfl
 case step=>
  intro k ae af;have ag:=Zdy Zs.enc Zb1 ae;by_cases ab:k<ks.length
  ·obtain⟨x,hx⟩:=Qq ab;have ad : (k:Int)<(ks.length:Int):=by omega
   have w1:=Zw (k:=k) (by omega);have aa:=Zdz (f:=Zs.enc) (z:=Zb1) hx;obtain⟨⟨a0,a1,a2,a3⟩,a4⟩:=x;have e1:=Zkw a0 a1 a2 a3 a4;have z1:=ZdA (f:=Zs.enc) (z:=Zb1) ab;have z2:Zb1.notSl=true:=rfl;have z3:Zb1.cells.length=5:=rfl;have z4:Q2 Zb1 0 [J a0,J a1,.bool a2,J a3,J a4]=.agg [J a0,J a1,.bool a2,J a3,J a4]:=rfl;simp only[Zs.enc] at aa;simp +contextual -implicitDefEqProofs (maxSteps:=10^7) only[go_sem,seval,↓gZ,ad,ab,hx,w1,e1,ag,z1,z2,z3,z4,aa];refine af (k+1) _ (by omega) (by omega) ?_;simp +contextual -implicitDefEqProofs (maxSteps:=10^7) only[go_sem,seval,↓gZ,aa]
  ·have:k=ks.length:=by omega
   subst this;rw[Zdx];simp +contextual -implicitDefEqProofs (maxSteps:=10^7) only[go_sem,seval,↓gZ]
theorem Zat (ks:List Zs) (hk:ks.length≤1099511627776):Zj Xs Ms YU [.d (.sl (ks.map Zs.enc)),.d (.sl (ks.map Zs.enc))] []=some ((.d (.bool true)),[]):=by
 refine cE ?_;simp +contextual -implicitDefEqProofs (maxSteps:=10^7) only[go_sem,seval,↓gZ,ZaA];refine LO (α:=Nat) (fun k=>[(5,.d (J (k:Int)))]) (fun _=>[]) (fun k=>k≤ks.length) (fun k=>ks.length-k) 0 (by omega) ?_;intro k ae ad;by_cases ab:k<ks.length
 ·obtain⟨x,hx⟩:=Qq ab;have aa : (k:Int)<(ks.length:Int):=by omega
  have w1:=Zw (k:=k) (by omega);obtain⟨⟨a0,a1,a2,a3⟩,a4⟩:=x;have e1:=Zhy a0 a1 a2 a3 a4;simp +contextual -implicitDefEqProofs (maxSteps:=10^7) only[go_sem,seval,↓gZ,aa,ab,hx,w1,e1];refine ad (k+1) _ (by omega) (by omega) ?_;simp +contextual -implicitDefEqProofs (maxSteps:=10^7) only[go_sem,seval,↓gZ]
 ·have:k=ks.length:=by omega
  subst this;simp +contextual -implicitDefEqProofs (maxSteps:=10^7) only[go_sem,seval,↓gZ]
theorem Zau (ks:List Zs) (hk:ks.length≤1099511627776) (k:Int) (h0:0≤k) (h1:k≤1125899906842624):Zj Xs Ms ZM [.own 0,(.d (J k))] [.row 5 (ks.map Zs.enc) true false]=some ((.d (J (k+((5*ks.length:Nat):Int)))),[.row 5 ((mks Zas 5 ks.length k).map Zs.enc) true false]):=by
 refine cE ?_;simp +contextual -implicitDefEqProofs (maxSteps:=10^7) only[go_sem,seval,↓gZ,UN];refine V6 Xs Ms (st0:=?st0) (α:=Nat) (fun i=>[(5,.d (J (i:Int))),(1,.d (J (k+((5*i:Nat):Int))))]) (fun i=>[(0,.row 5 ((mkR Zas 5 k ks i).map Zs.enc) true false)]) (fun i=>i≤ks.length) (fun i=>ks.length-i) 0 ?hc (by omega) ?h0 ?step
 case hc=>simp +contextual -implicitDefEqProofs (maxSteps:=10^7) only[go_sem,seval,↓gZ]<;>exact rfl
 case h0=>simp only[ZfF,Nat.mul_zero,Lm,LM];rfl
 case step=>
  intro i hi ih;have ae:=Zjf Zas 5 k hi;by_cases aa:i<ks.length
  ·obtain⟨x,hx⟩:=Qq aa;have ab : (i:Int)<(ks.length:Int):=by omega
   have w1:=Zw (k:=i) (by omega);have hg:=Zjg Zas 5 k hx;have hs:=ZfG Zs.enc Zas 5 k aa;have ad:k+((5*(i+1):Nat):Int)=k+((5*i:Nat):Int)+1+1+1+1+1:=by omega
   obtain⟨⟨a0,a1,a2,a3⟩,a4⟩:=x;generalize hK:k+((5*i:Nat):Int)=K at hs ad ⊢;have v1:=wi (K+1) (by omega) (by omega);have v2:=wi (K+1+1) (by omega) (by omega);have v3:=wi (K+1+1+1) (by omega) (by omega);have v4:=wi (K+1+1+1+1) (by omega) (by omega);have v5:=wi (K+1+1+1+1+1) (by omega) (by omega);simp only[Zas,Zs.enc] at hs;simp +contextual -implicitDefEqProofs (maxSteps:=10^7) only[go_sem,seval,↓gZ,ab,aa,hg,w1,ae,v1,v2,v3,v4,v5,List.length_set,KO,List.set_set];refine ih (i+1) _ (by omega) (by omega) ?_;simp +contextual -implicitDefEqProofs (maxSteps:=10^7) only[go_sem,seval,↓gZ,hs,ad]
  ·have:i=ks.length:=by omega
   subst this;rw[Zjh];simp +contextual -implicitDefEqProofs (maxSteps:=10^7) only[go_sem,seval,↓gZ,V4]
end Go.Proofs.Ytnachaiejoflhaa
