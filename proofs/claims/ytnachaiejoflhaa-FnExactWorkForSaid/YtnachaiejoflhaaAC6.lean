/- Own text. -/
import Derived.Test.YtnachaiejoflhaaACode
import Derived.Test.YtnachaiejoflhaaAbsParts
import Derived.Test.YtnachaiejoflhaaAC4
import Derived.Test.YtnachaiejoflhaaAC5
import Derived.Test.YtnachaiejoflhaaAbsOkD
namespace Go.Proofs.Ytnachaiejoflhaa
open Go Go.Abs Go.Abs.E Go.Abs.L
open Nat (reduceMul reduceSub reduceLeDiff reduceEqDiff)
open Int (reduceLE reduceEq reduceToNat reduceNeg)
set_option linter.unusedSimpArgs false
set_option linter.unusedVariables false
set_option maxRecDepth 20000
set_option maxHeartbeats 4000000
theorem Zjj (pL pW pH:Int) (pF:List Box) (hk:pF.length≤maxLen) (left:Int) (h0:0≤left) (hl:left≤1048576):Zj Xs Ms Wa [(.d (.agg [J pL,J pW,J pH,.sl (pF.map Box.enc)])),(.d (J left))] []=some ((.d (J (szV left pF.length))),[]):=by
 have e1:=Zkx pF hk left h0 hl;by_cases hy:(pF.length:Int)≤left
 ·rw[V3 hy] at e1 ⊢;have aa:¬left-(pF.length:Int)<0:=by omega
  refine cE ?_;simp +contextual -implicitDefEqProofs (maxSteps:=10^7) only[go_sem,seval,↓gZ,Uw,e1,aa]
 ·rw[VH hy] at e1 ⊢;refine cE ?_;simp +contextual -implicitDefEqProofs (maxSteps:=10^7) only[go_sem,seval,↓gZ,Uw,e1]
def Jt (p:Zg):Nat:=p.Flaws.length
theorem ZhB (ks:List Zg) (hk:ks.length≤maxLen) (ae:∀ p∈ks,p.Flaws.length≤maxLen) (left:Int) (h0:0≤left) (hl:left≤1048576) :
  Zj Xs Ms Y6 [(.d (.sl (ks.map Zg.enc))),(.d (J left))] []=some ((.d (J (szV left (ks.length+Z0 Jt ks)))),[]):=by
 have ai : (ks.length:Int)≤9223372036854775807:=by unfold maxLen at hk;omega
 have w:=wi (left-ks.length) (by omega) (by omega);by_cases aa:left-(ks.length:Int)<0
 ·rw[VH (by omega)];refine cE ?_;simp +contextual -implicitDefEqProofs (maxSteps:=10^7) only[go_sem,seval,↓gZ,WB,w,aa]
 ·refine cE ?_;simp +contextual -implicitDefEqProofs (maxSteps:=10^7) only[go_sem,seval,↓gZ,WB,w,aa];refine LO (α:=Nat×Int) (fun a=>[(5,.d (J (a.1:Int))),(1,.d (J a.2))]) (fun _=>[]) (fun a=>a.1≤ks.length∧0≤a.2∧a.2≤left∧szV left (ks.length+Z0 Jt ks)=szV a.2 (Z0 Jt (ks.drop a.1))) (fun a=>ks.length-a.1) (0,left-ks.length) ⟨by simp,by simp only;omega,by simp only;omega,by simp only[List.drop_zero];unfold szV;split<;>split<;>omega⟩ ?_;intro⟨k,m⟩ ⟨hk1,hm0,hml,hp⟩ ih2;simp only at hk1 hm0 hml hp ih2 ⊢;by_cases ad:k<ks.length
  ·obtain⟨x,hx⟩:=Qq ad;have ab : (k:Int)<(ks.length:Int):=by omega
   have w1:=Zw (k:=k) (by omega);have af:=ae x (Kk hx);rw[ZoY hx] at hp;obtain⟨L,W,H,F⟩:=x;have e1:=Zjj L W H F af m hm0 (by omega);have ag:Jt ⟨L,W,H,F⟩=F.length:=rfl;rw[ag] at hp;by_cases hy:(F.length:Int)≤m
   ·rw[V3 hy] at e1;have ah:¬m-(F.length:Int)<0:=by omega
    simp +contextual -implicitDefEqProofs (maxSteps:=10^7) only[go_sem,seval,↓gZ,ab,ad,hx,w1,e1,ah];refine ih2 (k+1,m-F.length) _ ⟨by simp only;omega,by simp only;omega,by simp only;omega,?_⟩ (by simp only;omega) ?_
    ·rw[hp];simp only;unfold szV;split<;>split<;>omega
    ·simp +contextual -implicitDefEqProofs (maxSteps:=10^7) only[go_sem,seval,↓gZ]
   ·rw[VH hy] at e1;rw[hp,VH (by omega)];simp +contextual -implicitDefEqProofs (maxSteps:=10^7) only[go_sem,seval,↓gZ,ab,ad,hx,w1,e1]
  ·have:k=ks.length:=by omega
   subst this;rw[List.drop_length] at hp;rw[hp,V3 (by simp only[Z0];omega)];have hz:m-((Z0 Jt []:Nat):Int)=m:=by simp[Z0]
   rw[hz];simp +contextual -implicitDefEqProofs (maxSteps:=10^7) only[go_sem,seval,↓gZ]
theorem Zjk (pL pW pH:Int) (pF:List Box) (h:pF.length≤1048576):Zj Xs Ms Wb [(.d (.agg [J pL,J pW,J pH,.sl (pF.map Box.enc)]))] []=some (.agg [(.d (J pL)),(.d (J pW)),(.d (J pH)),.own 0],[.row 4 (pF.map Box.enc) true false]):=by
 have e1:=Zky pF h;refine cE ?_;simp +contextual -implicitDefEqProofs (maxSteps:=10^7) only[go_sem,seval,↓gZ,Zaw,e1]
def Zkz:D:=.agg [J 0,J 0,J 0,.sl []]
theorem ZhC (ks:List Zg) (hk:ks.length≤1048576) (hs:∀ p∈ks,Jt p≤1048576):Zj Xs Ms Y7 [(.d (.sl (ks.map Zg.enc)))] []=some (.own 0,[.tree 4 4 (ks.map Zg.enc) none]):=by
 have hm:(ks.length:Int)*48≤140737488355328∧(ks.length:Int)≤140737488355328:=by omega
 refine cE ?_;simp +contextual -implicitDefEqProofs (maxSteps:=10^7) only[go_sem,seval,↓gZ,JA,hm,ZI];refine V6 Xs Ms (st0:=?st0) (α:=Nat) (fun k=>[(4,.d (J (k:Int)))]) (fun k=>[(0,.tree 4 4 (Uv Zg.enc Zkz ks k) none)]) (fun k=>k≤ks.length) (fun k=>ks.length-k) 0 ?hc (by omega) ?h0 ?step
 case hc=>simp +contextual -implicitDefEqProofs (maxSteps:=10^7) only[go_sem,seval,↓gZ]<;>exact rfl
 case h0=>rw[Zb0];rfl
 case step=>
  intro k ae af;have ag:=Zdy Zg.enc Zkz ae;by_cases ab:k<ks.length
  ·obtain⟨x,hx⟩:=Qq ab;have ad : (k:Int)<(ks.length:Int):=by omega
   have w1:=Zw (k:=k) (by omega);have aa:=Zdz (f:=Zg.enc) (z:=Zkz) hx;have ah:=hs x (Kk hx);obtain⟨L,W,H,F⟩:=x;have e1:=Zjk L W H F ah;simp only[Zg.enc] at aa;have z1:=ZdA (f:=Zg.enc) (z:=Zkz) ab;have z2:Zkz.notSl=true:=rfl;have z3:Zkz.cells.length=4:=rfl;have z4:Q2 Zkz 0 [J L,J W,J H,.sl (F.map Box.enc)]=.agg [J L,J W,J H,.sl (F.map Box.enc)]:=rfl;have z5:Zkz.isAgg=true:=rfl;have z6:=aF (l:=F) (g:=Box.enc) fun _=>rfl;simp +contextual -implicitDefEqProofs (maxSteps:=10^7) only[go_sem,seval,↓gZ,ad,ab,hx,w1,e1,ag,z1,z2,z3,z4,z5,z6,aa];refine af (k+1) _ (by omega) (by omega) ?_;simp +contextual -implicitDefEqProofs (maxSteps:=10^7) only[go_sem,seval,↓gZ,aa]
  ·have:k=ks.length:=by omega
   subst this;rw[Zdx];simp +contextual -implicitDefEqProofs (maxSteps:=10^7) only[go_sem,seval,↓gZ]
def Zb2 {α:Type} (f:α→Int→α) (c:α→Nat):List α→Int→List α
 | [],_=>[]
 | x :: r,k=>f x k :: Zb2 f c r (k+c x)
theorem Zav {α:Type} (f:α→Int→α) (c:α→Nat):∀ (l:List α) (k:Int),(Zb2 f c l k).length=l.length
 | [],_=>rfl
 | x :: r,k=>by simp[Zb2,Zav f c r]
theorem Zeg {α:Type} (f:α→Int→α) (c:α→Nat):∀ (l r:List α) (k:Int),Zb2 f c (l++r) k=Zb2 f c l k++Zb2 f c r (k+(Z0 c l:Nat))
 | [],r,k=>by simp[Zb2,Z0]
 | x :: l,r,k=>by
  rw[Ky,Zb2,Zeg f c l r,Zb2,Ky,Z0];congr 3;push_cast;omega
theorem Ju {α:Type} (c:α→Nat):∀ (l r:List α),Z0 c (l++r)=Z0 c l+Z0 c r
 | [],r=>by simp[Z0]
 | x :: l,r=>by simp[Z0,Ju c l r];omega
theorem ZlY {α:Type} {c:α→Nat} {l:List α} {i:Nat} {x:α} (h:l[i]?=some x):Z0 c (l.take (i+1))=Z0 c (l.take i)+c x:=by
 rw[K1,h,Ju];simp[Z0]
theorem ZbH {α:Type} (c:α→Nat) (l:List α) (i:Nat):Z0 c (l.take i)≤Z0 c l:=by
 have:=Ju c (l.take i) (l.drop i);rw[KV] at this;omega
def ZeX {α:Type} (f:α→Int→α) (c:α→Nat) (k:Int) (l:List α) (i:Nat):List α:=Zb2 f c (l.take i) k++l.drop i
theorem ZoZ {α:Type} (f:α→Int→α) (c:α→Nat) (k:Int) {l:List α} {i:Nat} (h:i≤l.length):(ZeX f c k l i).length=l.length:=by simp[ZeX,Zav];omega
theorem Zo0 {α:Type} (f:α→Int→α) (c:α→Nat) (k:Int) {l:List α} {i:Nat} {x:α} (h:l[i]?=some x):(ZeX f c k l i)[i]?=some x:=by
 obtain⟨h1,_⟩:=Kc.1 h;have hl:(Zb2 f c (l.take i) k).length=i:=by rw[Zav];simp;omega
 unfold ZeX;rw[Kp (by omega),hl,LL,KL];simpa using h
theorem ZnK {α:Type} (g:α→D) (f:α→Int→α) (c:α→Nat) (k:Int) {l:List α} {i:Nat} {x:α} (h:l[i]?=some x):((ZeX f c k l i).map g).set i (g (f x (k+(Z0 c (l.take i):Nat))))=(ZeX f c k l (i+1)).map g:=by
 obtain⟨h1,h2⟩:=Kc.1 h;have hl:(Zb2 f c (l.take i) k).length=i:=by rw[Zav];simp;omega
 rw[← List.map_set];congr 1;unfold ZeX;rw[List.set_append_right _ _ (by omega),hl,LL,K1,h,Zeg,K2,KI h1];rfl
theorem Zo1 {α:Type} (f:α→Int→α) (c:α→Nat) (k:Int) (l:List α):ZeX f c k l l.length=Zb2 f c l k:=by simp[ZeX]
theorem ZnL {α:Type} (f:α→Int→α) (c:α→Nat) (k:Int) (l:List α):ZeX f c k l 0=l:=by simp[ZeX,Zb2]
theorem ZfL (pL pW pH:Int) (pF:List Box) (h:pF.length≤1099511627776):Zj Xs Ms Wc [(.d (.agg [J pL,J pW,J pH,.sl (pF.map Box.enc)])),(.d (.agg [J pL,J pW,J pH,.sl (pF.map Box.enc)]))] []=some ((.d (.bool true)),[]):=by
 have e1:=Zhz pF h;refine cE ?_;simp +contextual -implicitDefEqProofs (maxSteps:=10^7) only[go_sem,seval,↓gZ,Zax,e1]
theorem ZeY (ks:List Zg) (hk:ks.length≤1099511627776) (hs:∀ p∈ks,Jt p≤1099511627776):Zj Xs Ms Y5 [(.d (.sl (ks.map Zg.enc))),(.d (.sl (ks.map Zg.enc)))] []=some ((.d (.bool true)),[]):=by
 refine cE ?_;simp +contextual -implicitDefEqProofs (maxSteps:=10^7) only[go_sem,seval,↓gZ,Jz];refine LO (α:=Nat) (fun k=>[(5,.d (J (k:Int)))]) (fun _=>[]) (fun k=>k≤ks.length) (fun k=>ks.length-k) 0 (by omega) ?_;intro k af ad;by_cases ab:k<ks.length
 ·obtain⟨x,hx⟩:=Qq ab;have aa : (k:Int)<(ks.length:Int):=by omega
  have w1:=Zw (k:=k) (by omega);have ae:=hs x (Kk hx);obtain⟨L,W,H,F⟩:=x;have e1:=ZfL L W H F ae;simp +contextual -implicitDefEqProofs (maxSteps:=10^7) only[go_sem,seval,↓gZ,aa,ab,hx,w1,e1];refine ad (k+1) _ (by omega) (by omega) ?_;simp +contextual -implicitDefEqProofs (maxSteps:=10^7) only[go_sem,seval,↓gZ]
 ·have:k=ks.length:=by omega
  subst this;simp +contextual -implicitDefEqProofs (maxSteps:=10^7) only[go_sem,seval,↓gZ]
def ZnM (p:Zg) (k:Int):Zg:=⟨k,k+1,k+1+1,mks Zef 4 p.Flaws.length (k+1+1+1)⟩
def pcN (p:Zg):Nat:=3+4*p.Flaws.length
abbrev mkPcs (l:List Zg) (k:Int):List Zg:=Zb2 ZnM pcN l k
theorem ZeZ (ks:List Zg) (hk:Z0 pcN ks≤1099511627776) (hl:ks.length≤1099511627776) (k:Int) (h0:0≤k) (h1:k≤562949953421312):Zj Xs Ms ZJ [.own 0,(.d (J k))] [.tree 4 4 (ks.map Zg.enc) none]=some ((.d (J (k+(Z0 pcN ks:Nat)))),[.tree 4 4 ((mkPcs ks k).map Zg.enc) none]):=by
 refine cE ?_;simp +contextual -implicitDefEqProofs (maxSteps:=10^7) only[go_sem,seval,↓gZ,W0];refine V6 Xs Ms (st0:=?st0) (α:=Nat) (fun i=>[(5,.d (J (i:Int))),(1,.d (J (k+(Z0 pcN (ks.take i):Nat))))]) (fun i=>[(0,.tree 4 4 ((ZeX ZnM pcN k ks i).map Zg.enc) none)]) (fun i=>i≤ks.length) (fun i=>ks.length-i) 0 ?hc (by omega) ?h0 ?step
 case hc=>simp +contextual -implicitDefEqProofs (maxSteps:=10^7) only[go_sem,seval,↓gZ]<;>exact rfl
 case h0=>simp only[ZnL,List.take_zero,Z0,Lm,LM];rfl
 case step=>
  intro i hi ih;have ae:=ZoZ ZnM pcN k hi;have ai:=ZbH pcN ks i;by_cases ab:i<ks.length
  ·obtain⟨x,hx⟩:=Qq ab;have aa : (i:Int)<(ks.length:Int):=by omega
   have w1:=Zw (k:=i) (by omega);have hg:=Zo0 ZnM pcN k hx;have hs:=ZnK Zg.enc ZnM pcN k hx;have af:=ZlY (c:=pcN) hx;have ag:=ZbH pcN ks (i+1);obtain⟨L,W,H,F⟩:=x;have ah:pcN ⟨L,W,H,F⟩=3+4*F.length:=rfl;have ad:k+(Z0 pcN (ks.take (i+1)):Nat)=k+(Z0 pcN (ks.take i):Nat)+1+1+1+((4*F.length:Nat):Int):=by rw[af,ah];push_cast;omega
   generalize hK:k+(Z0 pcN (ks.take i):Nat)=K at hs ad ⊢;have e1:=ZhA F (by omega) (K+1+1+1) (by omega) (by omega);have a1:=aF (l:=F) (g:=Box.enc) fun _=>rfl;have a2:=aF (l:=mks Zef 4 F.length (K+1+1+1)) (g:=Box.enc) fun _=>rfl;have v1:=wi (K+1) (by omega) (by omega);have v2:=wi (K+1+1) (by omega) (by omega);have v3:=wi (K+1+1+1) (by omega) (by omega);simp only[ZnM,Zg.enc] at hs;simp +contextual -implicitDefEqProofs (maxSteps:=10^7) only[go_sem,seval,↓gZ,aa,ab,hg,w1,ae,v1,v2,v3,e1,a1,a2,List.length_set,KO,List.set_set];refine ih (i+1) _ (by omega) (by omega) ?_;simp +contextual -implicitDefEqProofs (maxSteps:=10^7) only[go_sem,seval,↓gZ,hs,ad]
  ·have:i=ks.length:=by omega
   subst this;rw[Zo1,List.take_length];simp +contextual -implicitDefEqProofs (maxSteps:=10^7) only[go_sem,seval,↓gZ,Zav]
theorem Zic:∀ l:List Zg,Z0 pcN l=3*l.length+4*Z0 Jt l
 | []=>rfl
 | p :: r=>by rw[Z0,Zic r,Z0];simp only[pcN,Jt,KD];omega
theorem ZdB {α:Type} {f:α→Nat}:∀ {l:List α} {x:α},x∈l→f x≤Z0 f l
 | y :: l,x,h=>by
  rcases Ke.1 h with rfl | h
  ·simp[Z0]
  ·have:=ZdB (f:=f) h;simp only[Z0];omega
theorem ZbI (kW kH:Int) (kP:List Pane) (h:kP.length≤1099511627776):Zj Xs Ms YK [(.d (.agg [J kW,J kH,.sl (kP.map Pane.enc)])),(.d (.agg [J kW,J kH,.sl (kP.map Pane.enc)]))] []=some ((.d (.bool true)),[]):=by
 have e1:=ZfI kP h;refine cE ?_;simp +contextual -implicitDefEqProofs (maxSteps:=10^7) only[go_sem,seval,↓gZ,Zb4,e1]
theorem ZbJ (kW kH:Int) (kP:List Pane) (hk:kP.length≤1099511627776) (k:Int) (h0:0≤k) (h1:k≤562949953421312):Zj Xs Ms Qa [.agg [(.d (J kW)),(.d (J kH)),.own 0],(.d (J k))] [.row 4 (kP.map Pane.enc) true false]=some ((.d (J (k+((4*kP.length:Nat):Int)))),[.row 4 ((mks VI 4 kP.length k).map Pane.enc) true false]):=by
 have e1:=ZfJ kP hk k h0 (by omega);refine cE ?_;simp +contextual -implicitDefEqProofs (maxSteps:=10^7) only[go_sem,seval,↓gZ,Jw,e1]
theorem ZbK (kW kH:Int) (n:Nat) (hk:n≤1099511627776) (k:Int) (h0:0≤k) (h1:k≤562949953421312):Zj Xs Ms Ya [.d (.agg [J kW,J kH,.sl ((mks VI 4 n k).map Pane.enc)]),(.d (J k))] []=some ((.d (J (k+((4*n:Nat):Int)))),[]):=by
 have e1:=ZfK n hk k h0 (by omega);have n1:¬k+((4*n:Nat):Int)<0:=by omega
 refine cE ?_;simp +contextual -implicitDefEqProofs (maxSteps:=10^7) only[go_sem,seval,↓gZ,Jx,e1,n1]
def ZhD (S:List Zg) (O D:List Zs):Nat:=S.length+Z0 Jt S+O.length+D.length
theorem ZkA (sS:List Zg) (sO sD:List Zs) (sL sC:Int) (h1:sS.length≤maxLen) (h2:∀ p∈sS,p.Flaws.length≤maxLen) (h3:sO.length≤maxLen) (h4:sD.length≤maxLen) (left:Int) (h0:0≤left) (hl:left≤1048576):Zj Xs Ms WR [(.d (.agg [.sl (sS.map Zg.enc),.sl (sO.map Zs.enc),.sl (sD.map Zs.enc),J sL,J sC])),(.d (J left))] []=some ((.d (J (szV left (ZhD sS sO sD)))),[]):=by
 have e1:=ZhB sS h1 h2 left h0 hl;unfold ZhD;generalize sS.length+Z0 Jt sS=n at e1;by_cases hy:(n:Int)≤left
 ·rw[V3 hy] at e1;have y1:¬left-(n:Int)<0:=by omega
  have e2:=ZcG sO h3 (left-n) (by omega) (by omega);by_cases aa:(sO.length:Int)≤left-n
  ·rw[V3 aa] at e2;have y2:¬left-(n:Int)-(sO.length:Int)<0:=by omega
   have e3:=ZcG sD h4 (left-n-sO.length) (by omega) (by omega);by_cases ab:(sD.length:Int)≤left-n-sO.length
   ·rw[V3 ab] at e3;have y3:¬left-(n:Int)-(sO.length:Int)-(sD.length:Int)<0:=by omega
    rw[V3 (by push_cast;omega),show left-((n+sO.length+sD.length:Nat):Int)=left-n-sO.length-sD.length by push_cast;omega];refine cE ?_;simp +contextual -implicitDefEqProofs (maxSteps:=10^7) only[go_sem,seval,↓gZ,VL,e1,y1,e2,y2,e3,y3]
   ·rw[VH ab] at e3;rw[VH (by push_cast;omega)];refine cE ?_;simp +contextual -implicitDefEqProofs (maxSteps:=10^7) only[go_sem,seval,↓gZ,VL,e1,y1,e2,y2,e3]
  ·rw[VH aa] at e2;rw[VH (by push_cast;omega)];refine cE ?_;simp +contextual -implicitDefEqProofs (maxSteps:=10^7) only[go_sem,seval,↓gZ,VL,e1,y1,e2]
 ·rw[VH hy] at e1;rw[VH (by push_cast;omega)];refine cE ?_;simp +contextual -implicitDefEqProofs (maxSteps:=10^7) only[go_sem,seval,↓gZ,VL,e1]
theorem ZkB (sS:List Zg) (sO sD:List Zs) (sL sC:Int) (h1:sS.length≤1048576) (h2:∀ p∈sS,Jt p≤1048576) (h3:sO.length≤1048576) (h4:sD.length≤1048576):Zj Xs Ms XQ [(.d (.agg [.sl (sS.map Zg.enc),.sl (sO.map Zs.enc),.sl (sD.map Zs.enc),J sL,J sC]))] []=some (.agg [.own 0,.own 1,.own 2,(.d (J sL)),(.d (J sC))],[.tree 4 4 (sS.map Zg.enc) none,.row 5 (sO.map Zs.enc) true false,.row 5 (sD.map Zs.enc) true false]):=by
 have e1:=ZhC sS h1 h2;have e2:=ZcH sO h3;have e3:=ZcH sD h4;refine cE ?_;simp +contextual -implicitDefEqProofs (maxSteps:=10^7) only[go_sem,seval,↓gZ,Zb3,e1,e2,e3]
theorem ZhE (sS:List Zg) (sO sD:List Zs) (sL sC:Int) (h1:sS.length≤1099511627776) (h2:∀ p∈sS,Jt p≤1099511627776) (h3:sO.length≤1099511627776) (h4:sD.length≤1099511627776):Zj Xs Ms WS [(.d (.agg [.sl (sS.map Zg.enc),.sl (sO.map Zs.enc),.sl (sD.map Zs.enc),J sL,J sC])),(.d (.agg [.sl (sS.map Zg.enc),.sl (sO.map Zs.enc),.sl (sD.map Zs.enc),J sL,J sC]))] []=some ((.d (.bool true)),[]):=by
 have e1:=ZeY sS h1 h2;have e2:=Zat sO h3;have e3:=Zat sD h4;refine cE ?_;simp +contextual -implicitDefEqProofs (maxSteps:=10^7) only[go_sem,seval,↓gZ,Zb5,e1,e2,e3]
theorem ZhF (S:List Zg) (O D:List Zs) (L C:Int) (h1:Z0 pcN S≤1099511627776) (h2:S.length≤1099511627776) (h3:O.length≤1099511627776) (h4:D.length≤1099511627776) (k:Int) (h0:0≤k) (hk:k≤281474976710656) :
  Zj Xs Ms Z9 [.agg [.own 0,.own 1,.own 2,(.d (J L)),(.d (J C))],(.d (J k))] [.tree 4 4 (S.map Zg.enc) none,.row 5 (O.map Zs.enc) true false,.row 5 (D.map Zs.enc) true false] =
   some ((.d (J (k+(Z0 pcN S:Nat)+((5*O.length:Nat):Int)+((5*D.length:Nat):Int)))),[.tree 4 4 ((mkPcs S k).map Zg.enc) none,.row 5 ((mks Zas 5 O.length (k+(Z0 pcN S:Nat))).map Zs.enc) true false,.row 5 ((mks Zas 5 D.length (k+(Z0 pcN S:Nat)+((5*O.length:Nat):Int))).map Zs.enc) true false]):=by
 have e1:=ZeZ S h1 h2 k h0 (by omega);have e2:=Zau O h3 (k+(Z0 pcN S:Nat)) (by omega) (by omega);have e3:=Zau D h4 (k+(Z0 pcN S:Nat)+((5*O.length:Nat):Int)) (by omega) (by omega);refine cE ?_;simp +contextual -implicitDefEqProofs (maxSteps:=10^7) only[go_sem,seval,↓gZ,Jv,e1,e2,e3]
theorem ZnN {s:Yn} {n:Int} {k:VS} (h:ZfE s n=some k):k.Panes.length=s.Opn.length:=by
 unfold ZfE at h;split at h
 ·split at h
  ·cases h;simp
  ·cases h
 ·cases h
theorem ok_Sm {s:Yn} (h:s.ok) (hs:ZhD s.Stock s.Opn s.Done≤1048576):ZlW s:=by
 unfold ZhD at hs;refine⟨by omega,fun x hx=>?_,by omega,by omega⟩;have h1:=h.1.2 x hx;have h2:=ZdB (f:=Jt) hx;have h3:Jt x=x.Flaws.length:=rfl;exact⟨by omega,h1.2.1,h1.2.2.1⟩
theorem ZbB (s:Yn) (n:Int) (ho:s.ok):Zj Xs Ms QS [.d s.enc,(.d (J n))] []=some ((.d (.bool true)),[]):=by
 have ae:=ok_Sm ho;obtain⟨S,O,D,L,C⟩:=s;obtain⟨⟨h1,af⟩,⟨h2,_⟩,⟨h3,_⟩,_,_⟩:=ho;simp only at h1 af h2 h3 ae;have e1:=ZkA S O D L C h1 (fun p hp=>(af p hp).2.2.2.1) h2 h3 1048576 (by decide) (by decide);by_cases hs:((ZhD S O D:Nat):Int)≤1048576
 ·rw[V3 hs] at e1;have aa : ZhD S O D≤1048576:=by omega
  have ag:¬(1048576:Int)-((ZhD S O D:Nat):Int)<0:=by omega
  have ab:=ae aa;have ak:=Zic S;have ah:∀ p∈S,Jt p≤1048576:=fun p hp=>by have:=ZdB (f:=Jt) hp;unfold ZhD at aa;omega
  have ad : ∀ p∈S,Jt p≤1099511627776:=fun p hp=>by have:=ah p hp;omega
  have hl:S.length≤1048576∧O.length≤1048576∧D.length≤1048576∧Z0 Jt S≤1048576:=by unfold ZhD at aa;omega
  have e2:=ZkB S O D L C hl.1 ah hl.2.1 hl.2.2.1;have e3:=Zje S O D L C n ab;have e4:=Zjd S O D L C n;have e5:=ZhE S O D L C (by omega) ad (by omega) (by omega);have e6:=ZhF S O D L C (by omega) (by omega) (by omega) (by omega) 1 (by decide) (by decide);have hm:¬(1:Int)+(Z0 pcN S:Nat)+((5*O.length:Nat):Int)+((5*D.length:Nat):Int)<0:=by omega
  generalize (1:Int)+(Z0 pcN S:Nat)+((5*O.length:Nat):Int)+((5*D.length:Nat):Int)=mk at e6 hm;generalize ZhD S O D=sz at *;generalize hw:ZfE ⟨S,O,D,L,C⟩ n=w at e3 e4;cases w with
  | none=>
   unfold wkV at e3 e4;have e7:=ZbI 0 0 [] (by simp);have e8:=ZbJ 0 0 [] (by simp) 1 (by decide) (by decide);have e9:=ZbK 0 0 0 (by simp) 1 (by decide) (by decide);simp only[LN,List.length_nil,Nat.mul_zero,Lm,LM,mks] at e7 e8 e9;refine cE ?_;simp +contextual -implicitDefEqProofs (maxSteps:=10^7) only[go_sem,seval,↓gZ,QU,e1,ag,e2,e3,e4,e5,e6,hm,e7,e8,e9,bNe,bne_self_eq_false]
  | some k=>
   have aj:=ZnN hw;obtain⟨W,H,P⟩:=k;simp only at aj;unfold wkV at e3 e4;have e7:=ZbI W H P (by omega);have e8:=ZbJ W H P (by omega) 1 (by decide) (by decide);have e9:=ZbK W H P.length (by omega) 1 (by decide) (by decide);have ai:¬(1:Int)+((4*P.length:Nat):Int)<0:=by omega
   generalize (1:Int)+((4*P.length:Nat):Int)=mk2 at e8 e9 ai;generalize mks VI 4 P.length 1=P2 at e8 e9;refine cE ?_;simp +contextual -implicitDefEqProofs (maxSteps:=10^7) only[go_sem,seval,↓gZ,QU,e1,ag,e2,e3,e4,e5,e6,hm,e7,e8,e9,ai,bNe,bne_self_eq_false]
 ·rw[VH hs] at e1;refine cE ?_;simp +contextual -implicitDefEqProofs (maxSteps:=10^7) only[go_sem,seval,↓gZ,QU,e1]
end Go.Proofs.Ytnachaiejoflhaa
