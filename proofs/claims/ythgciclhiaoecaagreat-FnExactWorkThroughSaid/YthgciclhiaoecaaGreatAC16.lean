/- Own text. -/
import Derived.Test.YthgciclhiaoecaaGreatACode
import Derived.Test.YthgciclhiaoecaaGreatAbsParts
import Derived.Test.YthgciclhiaoecaaGreatAC15
import Derived.Test.YthgciclhiaoecaaGreatAbsOkD
namespace Go.Proofs.YthgciclhiaoecaaGreat
open Go Go.Abs Go.Abs.E Go.Abs.L
open Nat (reduceMul reduceSub reduceLeDiff reduceEqDiff)
open Int (reduceLE reduceEq reduceToNat reduceNeg)
set_option linter.unusedSimpArgs false
set_option linter.unusedVariables false
set_option maxRecDepth 20000
set_option maxHeartbeats 4000000
theorem Zua (pL pW pH:Int) (pF:List Box) (hk:pF.length≤maxLen) (left:Int) (h0:0≤left) (hl:left≤1048576):Zd Xs Ms Za3 [(.d (.agg [J pL,J pW,J pH,.sl (pF.map Box.enc)])),(.d (J left))] []=some ((.d (J (szV left pF.length))),[]):=by
 have e1:=Zvr pF hk left h0 hl;by_cases hy:(pF.length:Int)≤left
 ·rw[Jd hy] at e1 ⊢;have aa:¬left-(pF.length:Int)<0:=by omega
  refine cE ?_;simp +contextual -implicitDefEqProofs (maxSteps:=10^7) only[go_sem,seval,↓gZ,Zdj,e1,aa]
 ·rw[Je hy] at e1 ⊢;refine cE ?_;simp +contextual -implicitDefEqProofs (maxSteps:=10^7) only[go_sem,seval,↓gZ,Zdj,e1]
def Zbj (p:Zb):Nat:=p.Flaws.length
theorem Zsi (ks:List Zb) (hk:ks.length≤maxLen) (ae:∀ p∈ks,p.Flaws.length≤maxLen) (left:Int) (h0:0≤left) (hl:left≤1048576) :
  Zd Xs Ms Jm [(.d (.sl (ks.map Zb.enc))),(.d (J left))] []=some ((.d (J (szV left (ks.length+Zs Zbj ks)))),[]):=by
 have ai : (ks.length:Int)≤9223372036854775807:=by unfold maxLen at hk;omega
 have w:=wi (left-ks.length) (by omega) (by omega);by_cases aa:left-(ks.length:Int)<0
 ·rw[Je (by omega)];refine cE ?_;simp +contextual -implicitDefEqProofs (maxSteps:=10^7) only[go_sem,seval,↓gZ,ZbG,w,aa]
 ·refine cE ?_;simp +contextual -implicitDefEqProofs (maxSteps:=10^7) only[go_sem,seval,↓gZ,ZbG,w,aa];refine LO (α:=Nat×Int) (fun a=>[(5,.d (J (a.1:Int))),(1,.d (J a.2))]) (fun _=>[]) (fun a=>a.1≤ks.length∧0≤a.2∧a.2≤left∧szV left (ks.length+Zs Zbj ks)=szV a.2 (Zs Zbj (ks.drop a.1))) (fun a=>ks.length-a.1) (0,left-ks.length) ⟨by simp,by simp only;omega,by simp only;omega,by simp only[List.drop_zero];unfold szV;split<;>split<;>omega⟩ ?_;intro⟨k,m⟩ ⟨hk1,hm0,hml,hp⟩ ih2;simp only at hk1 hm0 hml hp ih2 ⊢;by_cases ad:k<ks.length
  ·obtain⟨x,hx⟩:=Zo ad;have ab : (k:Int)<(ks.length:Int):=by omega
   have w1:=Zh (k:=k) (by omega);have af:=ae x (Kb hx);rw[ZAt hx] at hp;obtain⟨L,W,H,F⟩:=x;have e1:=Zua L W H F af m hm0 (by omega);have ag:Zbj ⟨L,W,H,F⟩=F.length:=rfl;rw[ag] at hp;by_cases hy:(F.length:Int)≤m
   ·rw[Jd hy] at e1;have ah:¬m-(F.length:Int)<0:=by omega
    simp +contextual -implicitDefEqProofs (maxSteps:=10^7) only[go_sem,seval,↓gZ,ab,ad,hx,w1,e1,ah];refine ih2 (k+1,m-F.length) _ ⟨by simp only;omega,by simp only;omega,by simp only;omega,?_⟩ (by simp only;omega) ?_
    ·rw[hp];simp only;unfold szV;split<;>split<;>omega
    ·simp +contextual -implicitDefEqProofs (maxSteps:=10^7) only[go_sem,seval,↓gZ]
   ·rw[Je hy] at e1;rw[hp,Je (by omega)];simp +contextual -implicitDefEqProofs (maxSteps:=10^7) only[go_sem,seval,↓gZ,ab,ad,hx,w1,e1]
  ·have:k=ks.length:=by omega
   subst this;rw[List.drop_length] at hp;rw[hp,Jd (by simp only[Zs];omega)];have hz:m-((Zs Zbj []:Nat):Int)=m:=by simp[Zs]
   rw[hz];simp +contextual -implicitDefEqProofs (maxSteps:=10^7) only[go_sem,seval,↓gZ]
theorem Zub (pL pW pH:Int) (pF:List Box) (h:pF.length≤1048576):Zd Xs Ms Za4 [(.d (.agg [J pL,J pW,J pH,.sl (pF.map Box.enc)]))] []=some (.agg [(.d (J pL)),(.d (J pW)),(.d (J pH)),.own 0],[.row 4 (pF.map Box.enc) true false]):=by
 have e1:=Zvs pF h;refine cE ?_;simp +contextual -implicitDefEqProofs (maxSteps:=10^7) only[go_sem,seval,↓gZ,Zg2,e1]
def Zvt:D:=.agg [J 0,J 0,J 0,.sl []]
theorem Zsj (ks:List Zb) (hk:ks.length≤1048576) (hs:∀ p∈ks,Zbj p≤1048576):Zd Xs Ms Jn [(.d (.sl (ks.map Zb.enc)))] []=some (.own 0,[.tree 4 4 (ks.map Zb.enc) none]):=by
 have hm:(ks.length:Int)*48≤140737488355328∧(ks.length:Int)≤140737488355328:=by omega
 refine cE ?_;simp +contextual -implicitDefEqProofs (maxSteps:=10^7) only[go_sem,seval,↓gZ,ZeZ,hm,ZK];refine Qw Xs Ms (st0:=?st0) (α:=Nat) (fun k=>[(4,.d (J (k:Int)))]) (fun k=>[(0,.tree 4 4 (Zdd Zb.enc Zvt ks k) none)]) (fun k=>k≤ks.length) (fun k=>ks.length-k) 0 ?hc (by omega) ?h0 ?step
 case hc=>simp +contextual -implicitDefEqProofs (maxSteps:=10^7) only[go_sem,seval,↓gZ]<;>exact rfl
 case h0=>rw[Zkd];rfl
 case step=>
  intro k ae af;have ag:=ZmH Zb.enc Zvt ae;by_cases ab:k<ks.length
  ·obtain⟨x,hx⟩:=Zo ab;have ad : (k:Int)<(ks.length:Int):=by omega
   have w1:=Zh (k:=k) (by omega);have aa:=ZmI (f:=Zb.enc) (z:=Zvt) hx;have ah:=hs x (Kb hx);obtain⟨L,W,H,F⟩:=x;have e1:=Zub L W H F ah;simp only[Zb.enc] at aa;have z1:=ZmJ (f:=Zb.enc) (z:=Zvt) ab;have z2:Zvt.notSl=true:=rfl;have z3:Zvt.cells.length=4:=rfl;have z4:Yy Zvt 0 [J L,J W,J H,.sl (F.map Box.enc)]=.agg [J L,J W,J H,.sl (F.map Box.enc)]:=rfl;have z5:Zvt.isAgg=true:=rfl;have z6:=aF (l:=F) (g:=Box.enc) fun _=>rfl;simp +contextual -implicitDefEqProofs (maxSteps:=10^7) only[go_sem,seval,↓gZ,ad,ab,hx,w1,e1,ag,z1,z2,z3,z4,z5,z6,aa];refine af (k+1) _ (by omega) (by omega) ?_;simp +contextual -implicitDefEqProofs (maxSteps:=10^7) only[go_sem,seval,↓gZ,aa]
  ·have:k=ks.length:=by omega
   subst this;rw[ZmG];simp +contextual -implicitDefEqProofs (maxSteps:=10^7) only[go_sem,seval,↓gZ]
def Zc9 {α:Type} (f:α→Int→α) (c:α→Nat):List α→Int→List α
 | [],_=>[]
 | x :: r,k=>f x k :: Zc9 f c r (k+c x)
theorem W9 {α:Type} (f:α→Int→α) (c:α→Nat):∀ (l:List α) (k:Int),(Zc9 f c l k).length=l.length
 | [],_=>rfl
 | x :: r,k=>by simp[Zc9,W9 f c r]
theorem Zk9 {α:Type} (f:α→Int→α) (c:α→Nat):∀ (l:List α) (k:Int) (i:Nat) (x:α),l[i]?=some x→(Zc9 f c l k)[i]?=some (f x (k+(Zs c (l.take i):Nat)))
 | y :: r,k,0,x,h=>by simp only[KL,Option.some.injEq] at h;subst h;simp[Zc9,Zs]
 | y :: r,k,i+1,x,h=>by
  rw[Zc9,KH,Zk9 f c r _ i x (by simpa using h),L7,Zs];congr 2;push_cast;omega
theorem ZnS {α:Type} (f:α→Int→α) (c:α→Nat):∀ (l r:List α) (k:Int),Zc9 f c (l++r) k=Zc9 f c l k++Zc9 f c r (k+(Zs c l:Nat))
 | [],r,k=>by simp[Zc9,Zs]
 | x :: l,r,k=>by
  rw[KJ,Zc9,ZnS f c l r,Zc9,KJ,Zs];congr 3;push_cast;omega
theorem ZeS {α:Type} (c:α→Nat):∀ (l r:List α),Zs c (l++r)=Zs c l+Zs c r
 | [],r=>by simp[Zs]
 | x :: l,r=>by simp[Zs,ZeS c l r];omega
theorem Zal {α:Type} {c:α→Nat} {l:List α} {i:Nat} {x:α} (h:l[i]?=some x):Zs c (l.take (i+1))=Zs c (l.take i)+c x:=by
 rw[Ky,h,ZeS];simp[Zs]
theorem QC {α:Type} (c:α→Nat) (l:List α) (i:Nat):Zs c (l.take i)≤Zs c l:=by
 have:=ZeS c (l.take i) (l.drop i);rw[Lr] at this;omega
def Zla {α:Type} (f:α→Int→α) (c:α→Nat) (k:Int) (l:List α) (i:Nat):List α:=Zc9 f c (l.take i) k++l.drop i
theorem ZpT {α:Type} (f:α→Int→α) (c:α→Nat) (k:Int) {l:List α} {i:Nat} (h:i≤l.length):(Zla f c k l i).length=l.length:=by simp[Zla,W9];omega
theorem ZpU {α:Type} (f:α→Int→α) (c:α→Nat) (k:Int) {l:List α} {i:Nat} {x:α} (h:l[i]?=some x):(Zla f c k l i)[i]?=some x:=by
 obtain⟨h1,_⟩:=Kc.1 h;have hl:(Zc9 f c (l.take i) k).length=i:=by rw[W9];simp;omega
 unfold Zla;rw[KD (by omega),hl,Kay,Le];simpa using h
theorem ZmS {α:Type} (g:α→D) (f:α→Int→α) (c:α→Nat) (k:Int) {l:List α} {i:Nat} {x:α} (h:l[i]?=some x):((Zla f c k l i).map g).set i (g (f x (k+(Zs c (l.take i):Nat))))=(Zla f c k l (i+1)).map g:=by
 obtain⟨h1,h2⟩:=Kc.1 h;have hl:(Zc9 f c (l.take i) k).length=i:=by rw[W9];simp;omega
 rw[← L0];congr 1;unfold Zla;rw[List.set_append_right _ _ (by omega),hl,Kay,Ky,h,ZnS,Lx,Ks h1];rfl
theorem ZpV {α:Type} (f:α→Int→α) (c:α→Nat) (k:Int) (l:List α):Zla f c k l l.length=Zc9 f c l k:=by simp[Zla]
theorem ZmT {α:Type} (f:α→Int→α) (c:α→Nat) (k:Int) (l:List α):Zla f c k l 0=l:=by simp[Zla,Zc9]
theorem ZpW (pL pW pH:Int) (pF:List Box) (h:pF.length≤1099511627776):Zd Xs Ms Za6 [(.d (.agg [J pL,J pW,J pH,.sl (pF.map Box.enc)])),(.d (.agg [J pL,J pW,J pH,.sl (pF.map Box.enc)]))] []=some ((.d (.bool true)),[]):=by
 have e1:=Zsf pF h;refine cE ?_;simp +contextual -implicitDefEqProofs (maxSteps:=10^7) only[go_sem,seval,↓gZ,Zg4,e1]
theorem Zpi (ks:List Zb) (hk:ks.length≤1099511627776) (hs:∀ p∈ks,Zbj p≤1099511627776):Zd Xs Ms Jo [(.d (.sl (ks.map Zb.enc))),(.d (.sl (ks.map Zb.enc)))] []=some ((.d (.bool true)),[]):=by
 refine cE ?_;simp +contextual -implicitDefEqProofs (maxSteps:=10^7) only[go_sem,seval,↓gZ,Ze0];refine LO (α:=Nat) (fun k=>[(5,.d (J (k:Int)))]) (fun _=>[]) (fun k=>k≤ks.length) (fun k=>ks.length-k) 0 (by omega) ?_;intro k af ad;by_cases ab:k<ks.length
 ·obtain⟨x,hx⟩:=Zo ab;have aa : (k:Int)<(ks.length:Int):=by omega
  have w1:=Zh (k:=k) (by omega);have ae:=hs x (Kb hx);obtain⟨L,W,H,F⟩:=x;have e1:=ZpW L W H F ae;simp +contextual -implicitDefEqProofs (maxSteps:=10^7) only[go_sem,seval,↓gZ,aa,ab,hx,w1,e1];refine ad (k+1) _ (by omega) (by omega) ?_;simp +contextual -implicitDefEqProofs (maxSteps:=10^7) only[go_sem,seval,↓gZ]
 ·have:k=ks.length:=by omega
  subst this;simp +contextual -implicitDefEqProofs (maxSteps:=10^7) only[go_sem,seval,↓gZ]
def Zuc (p:Zb) (k:Int):Zb:=⟨k,k+1,k+1+1,mks Zf3 4 p.Flaws.length (k+1+1+1)⟩
def pcN (p:Zb):Nat:=3+4*p.Flaws.length
abbrev ZsR (l:List Zb) (k:Int):List Zb:=Zc9 Zuc pcN l k
theorem Zpj (ks:List Zb) (hk:Zs pcN ks≤1099511627776) (hl:ks.length≤1099511627776) (k:Int) (h0:0≤k) (h1:k≤562949953421312):Zd Xs Ms Z2 [.own 0,(.d (J k))] [.tree 4 4 (ks.map Zb.enc) none]=some ((.d (J (k+(Zs pcN ks:Nat)))),[.tree 4 4 ((ZsR ks k).map Zb.enc) none]):=by
 refine cE ?_;simp +contextual -implicitDefEqProofs (maxSteps:=10^7) only[go_sem,seval,↓gZ,JJ];refine Qw Xs Ms (st0:=?st0) (α:=Nat) (fun i=>[(5,.d (J (i:Int))),(1,.d (J (k+(Zs pcN (ks.take i):Nat))))]) (fun i=>[(0,.tree 4 4 ((Zla Zuc pcN k ks i).map Zb.enc) none)]) (fun i=>i≤ks.length) (fun i=>ks.length-i) 0 ?hc (by omega) ?h0 ?step
 case hc=>simp +contextual -implicitDefEqProofs (maxSteps:=10^7) only[go_sem,seval,↓gZ]<;>exact rfl
 case h0=>simp only[ZmT,LY,Zs,K0,Ls];rfl
 case step=>
  intro i hi ih;have ae:=ZpT Zuc pcN k hi;have ah:=QC pcN ks i;by_cases ab:i<ks.length
  ·obtain⟨x,hx⟩:=Zo ab;have aa : (i:Int)<(ks.length:Int):=by omega
   have w1:=Zh (k:=i) (by omega);have hg:=ZpU Zuc pcN k hx;have hs:=ZmS Zb.enc Zuc pcN k hx;have hb2:=Zal (c:=pcN) hx;have af:=QC pcN ks (i+1);obtain⟨L,W,H,F⟩:=x;have ag:pcN ⟨L,W,H,F⟩=3+4*F.length:=rfl;have ad:k+(Zs pcN (ks.take (i+1)):Nat)=k+(Zs pcN (ks.take i):Nat)+1+1+1+((4*F.length:Nat):Int):=by rw[hb2,ag];push_cast;omega
   generalize hK:k+(Zs pcN (ks.take i):Nat)=K at hs ad ⊢;have e1:=Zsg F (by omega) (K+1+1+1) (by omega) (by omega);have a1:=aF (l:=F) (g:=Box.enc) fun _=>rfl;have a2:=aF (l:=mks Zf3 4 F.length (K+1+1+1)) (g:=Box.enc) fun _=>rfl;have v1:=wi (K+1) (by omega) (by omega);have v2:=wi (K+1+1) (by omega) (by omega);have v3:=wi (K+1+1+1) (by omega) (by omega);simp only[Zuc,Zb.enc] at hs;simp +contextual -implicitDefEqProofs (maxSteps:=10^7) only[go_sem,seval,↓gZ,aa,ab,hg,w1,ae,v1,v2,v3,e1,a1,a2,LR,KW,Kaz];refine ih (i+1) _ (by omega) (by omega) ?_;simp +contextual -implicitDefEqProofs (maxSteps:=10^7) only[go_sem,seval,↓gZ,hs,ad]
  ·have:i=ks.length:=by omega
   subst this;rw[ZpV,LC];simp +contextual -implicitDefEqProofs (maxSteps:=10^7) only[go_sem,seval,↓gZ,W9]
theorem Zir:∀ l:List Zb,Zs pcN l=3*l.length+4*Zs Zbj l
 | []=>rfl
 | p :: r=>by rw[Zs,Zir r,Zs];simp only[pcN,Zbj,Kq];omega
theorem Zis {α:Type} {f:α→Nat}:∀ {l:List α} {x:α},x∈l→f x≤Zs f l
 | y :: l,x,h=>by
  rcases Kf.1 h with rfl | h
  ·simp[Zs]
  ·have:=Zis (f:=f) h;simp only[Zs];omega
theorem ZmU (k:Int):Zd Xs Ms Z2 [.own 0,(.d (J k))] [.row 4 [] true false]=some ((.d (J k)),[.row 4 [] true false]):=by
 refine cE ?_;simp +contextual -implicitDefEqProofs (maxSteps:=10^7) only[go_sem,seval,↓gZ,JJ];refine LO (α:=Unit) (fun _=>[]) (fun _=>[]) (fun _=>True) (fun _=>0) () trivial ?_;intro _ _ _;simp +contextual -implicitDefEqProofs (maxSteps:=10^7) only[go_sem,seval,↓gZ]
theorem ZpX {α:Type} {f:α→Nat} {c:Nat}:∀ {l:List α},(∀ x∈l,f x≤c)→Zs f l≤c*l.length
 | [],_=>by simp[Zs]
 | x :: l,h=>by
  have h1:=h x (by simp);have h2:=ZpX (f:=f) (c:=c) (l:=l) fun y hy=>h y (by simp[hy]);simp only[Zs,Kq,Nat.mul_add];omega
theorem Zpk (ks:List Zb) (hk:Zs pcN ks≤1099511627776) (hl:ks.length≤1099511627776) (k:Int) (h0:0≤k) (h1:k≤562949953421312):Zd Xs Ms Wf [.d (.sl ((ZsR ks k).map Zb.enc)),(.d (J k))] []=some ((.d (J (k+(Zs pcN ks:Nat)))),[]):=by
 have ab:=W9 Zuc pcN ks k;refine cE ?_;simp +contextual -implicitDefEqProofs (maxSteps:=10^7) only[go_sem,seval,↓gZ,Zcu];refine Qw Xs Ms (st0:=?st0) (α:=Nat) (fun i=>[(5,.d (J (i:Int))),(1,.d (J (k+(Zs pcN (ks.take i):Nat))))]) (fun _=>[]) (fun i=>i≤ks.length) (fun i=>ks.length-i) 0 ?hc (by omega) ?h0 ?step
 case hc=>simp +contextual -implicitDefEqProofs (maxSteps:=10^7) only[go_sem,seval,↓gZ]<;>exact rfl
 case h0=>simp only[LY,Zs,K0,Ls];rfl
 case step=>
  intro i hi ih;have ah:=QC pcN ks i;by_cases ad:i<ks.length
  ·obtain⟨x,hx⟩:=Zo ad;have aa : (i:Int)<(ks.length:Int):=by omega
   have w1:=Zh (k:=i) (by omega);have hg:=Zk9 Zuc pcN ks k i x hx;have hb2:=Zal (c:=pcN) hx;have af:=QC pcN ks (i+1);obtain⟨L,W,H,F⟩:=x;have ag:pcN ⟨L,W,H,F⟩=3+4*F.length:=rfl;have ae:k+(Zs pcN (ks.take (i+1)):Nat)=k+(Zs pcN (ks.take i):Nat)+1+1+1+((4*F.length:Nat):Int):=by rw[hb2,ag];push_cast;omega
   generalize hK:k+(Zs pcN (ks.take i):Nat)=K at hg ae ⊢;have e1:=Zsh F.length (by omega) (K+1+1+1) (by omega) (by omega);have n1:¬K+1+1+1+((4*F.length:Nat):Int)<0:=by omega
   have v1:=wi (K+1) (by omega) (by omega);have v2:=wi (K+1+1) (by omega) (by omega);have v3:=wi (K+1+1+1) (by omega) (by omega);simp only[Zuc] at hg;simp +contextual -implicitDefEqProofs (maxSteps:=10^7) only[go_sem,seval,↓gZ,aa,ad,hg,w1,ab,v1,v2,v3,e1,n1];refine ih (i+1) _ (by omega) (by omega) ?_;simp +contextual -implicitDefEqProofs (maxSteps:=10^7) only[go_sem,seval,↓gZ,ae]
  ·have:i=ks.length:=by omega
   subst this;rw[LC];simp +contextual -implicitDefEqProofs (maxSteps:=10^7) only[go_sem,seval,↓gZ,ab]
def ZiX (S:List Zb) (O D:List Zc):Nat:=S.length+Zs Zbj S+O.length+D.length
theorem ZnT (sS:List Zb) (sO sD:List Zc) (sL sC:Int) (h1:sS.length≤maxLen) (h2:∀ p∈sS,p.Flaws.length≤maxLen) (h3:sO.length≤maxLen) (h4:sD.length≤maxLen) (left:Int) (h0:0≤left) (hl:left≤1048576):Zd Xs Ms Zar [(.d (.agg [.sl (sS.map Zb.enc),.sl (sO.map Zc.enc),.sl (sD.map Zc.enc),J sL,J sC])),(.d (J left))] []=some ((.d (J (szV left (ZiX sS sO sD)))),[]):=by
 have e1:=Zsi sS h1 h2 left h0 hl;unfold ZiX;generalize sS.length+Zs Zbj sS=n at e1;by_cases hy:(n:Int)≤left
 ·rw[Jd hy] at e1;have y1:¬left-(n:Int)<0:=by omega
  have e2:=Zk7 sO h3 (left-n) (by omega) (by omega);by_cases aa:(sO.length:Int)≤left-n
  ·rw[Jd aa] at e2;have y2:¬left-(n:Int)-(sO.length:Int)<0:=by omega
   have e3:=Zk7 sD h4 (left-n-sO.length) (by omega) (by omega);by_cases ab:(sD.length:Int)≤left-n-sO.length
   ·rw[Jd ab] at e3;have y3:¬left-(n:Int)-(sO.length:Int)-(sD.length:Int)<0:=by omega
    rw[Jd (by push_cast;omega),show left-((n+sO.length+sD.length:Nat):Int)=left-n-sO.length-sD.length by push_cast;omega];refine cE ?_;simp +contextual -implicitDefEqProofs (maxSteps:=10^7) only[go_sem,seval,↓gZ,Zat,e1,y1,e2,y2,e3,y3]
   ·rw[Je ab] at e3;rw[Je (by push_cast;omega)];refine cE ?_;simp +contextual -implicitDefEqProofs (maxSteps:=10^7) only[go_sem,seval,↓gZ,Zat,e1,y1,e2,y2,e3]
  ·rw[Je aa] at e2;rw[Je (by push_cast;omega)];refine cE ?_;simp +contextual -implicitDefEqProofs (maxSteps:=10^7) only[go_sem,seval,↓gZ,Zat,e1,y1,e2]
 ·rw[Je hy] at e1;rw[Je (by push_cast;omega)];refine cE ?_;simp +contextual -implicitDefEqProofs (maxSteps:=10^7) only[go_sem,seval,↓gZ,Zat,e1]
theorem ZnU (sS:List Zb) (sO sD:List Zc) (sL sC:Int) (h1:sS.length≤1048576) (h2:∀ p∈sS,Zbj p≤1048576) (h3:sO.length≤1048576) (h4:sD.length≤1048576):Zd Xs Ms XO [(.d (.agg [.sl (sS.map Zb.enc),.sl (sO.map Zc.enc),.sl (sD.map Zc.enc),J sL,J sC]))] []=some (.agg [.own 0,.own 1,.own 2,(.d (J sL)),(.d (J sC))],[.tree 4 4 (sS.map Zb.enc) none,.row 5 (sO.map Zc.enc) true false,.row 5 (sD.map Zc.enc) true false]):=by
 have e1:=Zsj sS h1 h2;have e2:=Zk8 sO h3;have e3:=Zk8 sD h4;refine cE ?_;simp +contextual -implicitDefEqProofs (maxSteps:=10^7) only[go_sem,seval,↓gZ,Zkl,e1,e2,e3]
theorem ZaM (sS:List Zb) (sO sD:List Zc) (sL sC:Int) (h1:sS.length≤1099511627776) (h2:∀ p∈sS,Zbj p≤1099511627776) (h3:sO.length≤1099511627776) (h4:sD.length≤1099511627776):Zd Xs Ms Vj [(.d (.agg [.sl (sS.map Zb.enc),.sl (sO.map Zc.enc),.sl (sD.map Zc.enc),J sL,J sC])),(.d (.agg [.sl (sS.map Zb.enc),.sl (sO.map Zc.enc),.sl (sD.map Zc.enc),J sL,J sC]))] []=some ((.d (.bool true)),[]):=by
 have e1:=Zpi sS h1 h2;have e2:=ZgH sO h3;have e3:=ZgH sD h4;refine cE ?_;simp +contextual -implicitDefEqProofs (maxSteps:=10^7) only[go_sem,seval,↓gZ,Zkm,e1,e2,e3]
theorem ZdE (S:List Zb) (O D:List Zc) (L C:Int) (h1:Zs pcN S≤1099511627776) (h2:S.length≤1099511627776) (h3:O.length≤1099511627776) (h4:D.length≤1099511627776) (k:Int) (h0:0≤k) (hk:k≤281474976710656) :
  Zd Xs Ms Z8 [.agg [.own 0,.own 1,.own 2,(.d (J L)),(.d (J C))],(.d (J k))] [.tree 4 4 (S.map Zb.enc) none,.row 5 (O.map Zc.enc) true false,.row 5 (D.map Zc.enc) true false] =
   some ((.d (J (k+(Zs pcN S:Nat)+((5*O.length:Nat):Int)+((5*D.length:Nat):Int)))),[.tree 4 4 ((ZsR S k).map Zb.enc) none,.row 5 ((mks VU 5 O.length (k+(Zs pcN S:Nat))).map Zc.enc) true false,.row 5 ((mks VU 5 D.length (k+(Zs pcN S:Nat)+((5*O.length:Nat):Int))).map Zc.enc) true false]):=by
 have e1:=Zpj S h1 h2 k h0 (by omega);have e2:=Jf O h3 (k+(Zs pcN S:Nat)) (by omega) (by omega);have e3:=Jf D h4 (k+(Zs pcN S:Nat)+((5*O.length:Nat):Int)) (by omega) (by omega);refine cE ?_;simp +contextual -implicitDefEqProofs (maxSteps:=10^7) only[go_sem,seval,↓gZ,ZbF,e1,e2,e3]
theorem Zi6 (S:List Zb) (no nd:Nat) (L C:Int) (h1:Zs pcN S≤1099511627776) (h2:S.length≤1099511627776) (h3:no≤1099511627776) (h4:nd≤1099511627776) (k:Int) (h0:0≤k) (hk:k≤281474976710656) :
  Zd Xs Ms WG [.d (.agg [.sl ((ZsR S k).map Zb.enc),.sl ((mks VU 5 no (k+(Zs pcN S:Nat))).map Zc.enc),.sl ((mks VU 5 nd (k+(Zs pcN S:Nat)+((5*no:Nat):Int))).map Zc.enc),J L,J C]),(.d (J k))] [] =
   some ((.d (J (k+(Zs pcN S:Nat)+((5*no:Nat):Int)+((5*nd:Nat):Int)))),[]):=by
 have e1:=Zpk S h1 h2 k h0 (by omega);have e2:=ZgI no h3 (k+(Zs pcN S:Nat)) (by omega) (by omega);have e3:=ZgI nd h4 (k+(Zs pcN S:Nat)+((5*no:Nat):Int)) (by omega) (by omega);have n1:¬k+(Zs pcN S:Nat)<0:=by omega
 have n2:¬k+(Zs pcN S:Nat)+((5*no:Nat):Int)<0:=by omega
 have n3:¬k+(Zs pcN S:Nat)+((5*no:Nat):Int)+((5*nd:Nat):Int)<0:=by omega
 refine cE ?_;simp +contextual -implicitDefEqProofs (maxSteps:=10^7) only[go_sem,seval,↓gZ,ZeY,e1,e2,e3,n1,n2,n3]
abbrev nL (ks:List Ze):Nat:=Ze.nodes.nodesL ks
theorem Zud:∀ ks:List Ze,ks.length≤nL ks
 | []=>Kl _
 | .mk o a p t q :: r=>by have:=Zud r;simp only[nL,Ze.nodes.nodesL,Ze.nodes,Kq] at this ⊢;omega
theorem Zue (ks:List Ze) (hk:ks.length≤1048576) (ih:∀ k∈ks,Zd Xs Ms We [.d k.enc,.d k.enc] []=some ((.d (.bool true)),[])) :
  Zd Xs Ms Za5 [(.d (.sl (ks.map Ze.enc))),(.d (.sl (ks.map Ze.enc)))] []=some ((.d (.bool true)),[]):=by
 refine cE ?_;simp +contextual -implicitDefEqProofs (maxSteps:=10^7) only[go_sem,seval,↓gZ,Zg3];refine LO (α:=Nat) (fun k=>[(5,.d (J (k:Int)))]) (fun _=>[]) (fun k=>k≤ks.length) (fun k=>ks.length-k) 0 (by omega) ?_;intro k ae ad;by_cases ab:k<ks.length
 ·obtain⟨x,hx⟩:=Zo ab;have aa : (k:Int)<(ks.length:Int):=by omega
  have w1:=Zh (k:=k) (by omega);have e1:=ih x (Kb hx);obtain⟨o,a,q,t,af⟩:=x;rw[Ze.enc_mk] at e1;simp +contextual -implicitDefEqProofs (maxSteps:=10^7) only[go_sem,seval,↓gZ,aa,ab,hx,w1,e1];refine ad (k+1) _ (by omega) (by omega) ?_;simp +contextual -implicitDefEqProofs (maxSteps:=10^7) only[go_sem,seval,↓gZ]
 ·have:k=ks.length:=by omega
  subst this;simp +contextual -implicitDefEqProofs (maxSteps:=10^7) only[go_sem,seval,↓gZ]
theorem Zlb:∀ (n:Nat) (p:Ze),p.nodes≤n→p.nodes≤1048577→Zd Xs Ms We [.d p.enc,.d p.enc] []=some ((.d (.bool true)),[])
 | 0,.mk o a p t ks,hn,_=>by simp[Ze.nodes] at hn
 | n+1,.mk o a p t ks,hn,hb=>by
  have hl:=Zud ks;have aa : nL ks≤1048576:=by simp only[Ze.nodes] at hb;simp only[nL];omega
  have e1:=Zue ks (by omega) (fun k ab=>by
   obtain⟨i,hi⟩:=List.mem_iff_getElem?.1 ab;have:=ZcY hi;exact Zlb n k (ZeH hn hi) (by simp only[nL] at aa;omega))
  rw[Ze.enc_mk];refine cE ?_;simp +contextual -implicitDefEqProofs (maxSteps:=10^7) only[go_sem,seval,↓gZ,Zko,e1,bNe,bne_self_eq_false]
theorem Zsk (o a q:Int) (t:Bool) (ks:List Ze) (h:nL ks≤1048576):Zd Xs Ms We [.d (.agg [J o,J a,J q,.bool t,.sl (ks.map Ze.enc)]),.d (.agg [J o,J a,J q,.bool t,.sl (ks.map Ze.enc)])] []=some ((.d (.bool true)),[]):=by
 have:=Zlb _ (.mk o a q t ks) (Kl _) (by simp only[Ze.nodes,nL] at h ⊢;omega)
 rwa [Ze.enc_mk] at this
mutual
def Zuf:Ze→Int→Ze
 | .mk _ _ _ _ ks,k=>.mk k (k+1) (k+1+1) (decide ((k+1+1+1).tmod 3=0)) (Ua ks (k+1+1+1+1))
def Ua:List Ze→Int→List Ze
 | [],_=>[]
 | p :: r,k=>Zuf p k :: Ua r (k+((4*p.nodes:Nat):Int))
end
def plC (p:Ze):Nat:=4*p.nodes
theorem ZgJ:∀ (l:List Ze) (k:Int),Ua l k=Zc9 Zuf plC l k
 | [],_=>by rw[Ua];rfl
 | p :: r,k=>by rw[Ua,Zc9,ZgJ r];rfl
theorem ZmV:∀ l:List Ze,Zs plC l=4*nL l
 | []=>rfl
 | p :: r=>by rw[Zs,ZmV r];simp only[plC,nL,Ze.nodes.nodesL];omega
theorem ZpY (ks:List Ze) (hk:nL ks≤4194304) (ih:∀ x∈ks,∀ o a p t kk,x=.mk o a p t kk→∀ K:Int,0≤K→K+((4*nL kk:Nat):Int)≤281474976710656→Zd Xs Ms ZQ [.own 0,(.d (J K))] [.tree 5 5 (kk.map Ze.enc) none]=some ((.d (J (K+((4*nL kk:Nat):Int)))),[.tree 5 5 ((Ua kk K).map Ze.enc) none])) (k:Int) (h0:0≤k) (h1:k+((4*nL ks:Nat):Int)≤281474976710656) :
  Zd Xs Ms ZQ [.own 0,(.d (J k))] [.tree 5 5 (ks.map Ze.enc) none]=some ((.d (J (k+((4*nL ks:Nat):Int)))),[.tree 5 5 ((Ua ks k).map Ze.enc) none]):=by
 have af:=ZmV ks;have al:=Zud ks;refine cE ?_;simp +contextual -implicitDefEqProofs (maxSteps:=10^7) only[go_sem,seval,↓gZ,ZaQ];refine Qw Xs Ms (st0:=?st0) (α:=Nat) (fun i=>[(5,.d (J (i:Int))),(1,.d (J (k+(Zs plC (ks.take i):Nat))))]) (fun i=>[(0,.tree 5 5 ((Zla Zuf plC k ks i).map Ze.enc) none)]) (fun i=>i≤ks.length) (fun i=>ks.length-i) 0 ?hc (by omega) ?h0 ?step
 case hc=>simp +contextual -implicitDefEqProofs (maxSteps:=10^7) only[go_sem,seval,↓gZ]<;>exact rfl
 case h0=>simp only[ZmT,LY,Zs,K0,Ls];rfl
 case step=>
  intro i hi ag;have ah:=ZpT Zuf plC k hi;have am:=QC plC ks i;by_cases ad:i<ks.length
  ·obtain⟨x,hx⟩:=Zo ad;have aa : (i:Int)<(ks.length:Int):=by omega
   have w1:=Zh (k:=i) (by omega);have hg:=ZpU Zuf plC k hx;have hs:=ZmS Ze.enc Zuf plC k hx;have hb2:=Zal (c:=plC) hx;have ai:=QC plC ks (i+1);have aj:=ih x (Kb hx);obtain⟨o,a,p,t,kk⟩:=x;have ak:plC (.mk o a p t kk)=4+4*nL kk:=by simp only[plC,Ze.nodes,nL];omega
   have ae:k+(Zs plC (ks.take (i+1)):Nat)=k+(Zs plC (ks.take i):Nat)+1+1+1+1+((4*nL kk:Nat):Int):=by rw[hb2,ak];push_cast;omega
   generalize hK:k+(Zs plC (ks.take i):Nat)=K at hs ae ⊢;have e1:=aj o a p t kk rfl (K+1+1+1+1) (by omega) (by omega);have v1:=wi (K+1) (by omega) (by omega);have v2:=wi (K+1+1) (by omega) (by omega);have v3:=wi (K+1+1+1) (by omega) (by omega);have v4:=wi (K+1+1+1+1) (by omega) (by omega);simp only[Zuf,Ze.enc_mk] at hs;generalize nL kk=nk at *;simp +contextual -implicitDefEqProofs (maxSteps:=10^7) only[go_sem,seval,↓gZ,aa,ad,hg,w1,ah,v1,v2,v3,v4,e1,LR,KW,Kaz];refine ag (i+1) _ (by omega) (by omega) ?_;simp +contextual -implicitDefEqProofs (maxSteps:=10^7) only[go_sem,seval,↓gZ,hs,ae]
  ·have:i=ks.length:=by omega
   subst this;rw[ZpV,LC,af,← ZgJ];have ab:(Ua ks k).length=ks.length:=by rw[ZgJ,W9]
   generalize nL ks=nk at *;simp +contextual -implicitDefEqProofs (maxSteps:=10^7) only[go_sem,seval,↓gZ,ab]
theorem Zbk:∀ (n:Nat) (ks:List Ze),nL ks≤n→nL ks≤4194304→∀ k:Int,0≤k→k+((4*nL ks:Nat):Int)≤281474976710656→Zd Xs Ms ZQ [.own 0,(.d (J k))] [.tree 5 5 (ks.map Ze.enc) none]=some ((.d (J (k+((4*nL ks:Nat):Int)))),[.tree 5 5 ((Ua ks k).map Ze.enc) none])
 | n,ks,hn,hb,k,h0,h1=>ZpY ks hb (fun x hx o a p t kk he K g0 g1=>by
   obtain⟨i,hi⟩:=List.mem_iff_getElem?.1 hx;have hy:=ZcY hi;subst he;have aa:nL kk<nL ks:=by simp only[Ze.nodes,nL] at hy ⊢;omega
   match n,hn with
   | 0,hn=>omega
   | n+1,hn=>exact Zbk n kk (by omega) (by omega) K g0 (by omega)) k h0 h1
theorem Zsl (o a p:Int) (t:Bool) (ks:List Ze) (hk:nL ks≤4194304) (k:Int) (h0:0≤k) (h1:k≤1099511627776):Zd Xs Ms Qt [.agg [(.d (J o)),(.d (J a)),(.d (J p)),(.d (.bool t)),.own 0],(.d (J k))] [.tree 5 5 (ks.map Ze.enc) none]=some ((.d (J (k+((4*nL ks:Nat):Int)))),[.tree 5 5 ((Ua ks k).map Ze.enc) none]):=by
 have e1:=Zbk _ ks (Kl _) hk k h0 (by omega);generalize nL ks=nk at *;refine cE ?_;simp +contextual -implicitDefEqProofs (maxSteps:=10^7) only[go_sem,seval,↓gZ,ZbH,e1]
theorem ZpZ (o a p:Int) (t:Bool) (k:Int):Zd Xs Ms Qt [.agg [(.d (J o)),(.d (J a)),(.d (J p)),(.d (.bool t)),.own 0],(.d (J k))] [.row 5 [] true false]=some ((.d (J k)),[.row 5 [] true false]):=by
 have e1:Zd Xs Ms ZQ [.own 0,(.d (J k))] [.row 5 [] true false]=some ((.d (J k)),[.row 5 [] true false]):=by
  refine cE ?_;simp +contextual -implicitDefEqProofs (maxSteps:=10^7) only[go_sem,seval,↓gZ,ZaQ];refine LO (α:=Unit) (fun _=>[]) (fun _=>[]) (fun _=>True) (fun _=>0) () trivial ?_;intro _ _ _;simp +contextual -implicitDefEqProofs (maxSteps:=10^7) only[go_sem,seval,↓gZ]
 refine cE ?_;simp +contextual -implicitDefEqProofs (maxSteps:=10^7) only[go_sem,seval,↓gZ,ZbH,e1]
theorem Zp0 (ks:List Ze) (hk:nL ks≤4194304) (ih:∀ x∈ks,∀ o a p t kk,x=.mk o a p t kk→∀ K:Int,0≤K→K+((4*nL kk:Nat):Int)≤281474976710656→Zd Xs Ms Xv [.d (.sl ((Ua kk K).map Ze.enc)),(.d (J K))] []=some ((.d (J (K+((4*nL kk:Nat):Int)))),[])) (k:Int) (h0:0≤k) (h1:k+((4*nL ks:Nat):Int)≤281474976710656) :
  Zd Xs Ms Xv [.d (.sl ((Ua ks k).map Ze.enc)),(.d (J k))] []=some ((.d (J (k+((4*nL ks:Nat):Int)))),[]):=by
 have af:=ZmV ks;have ak:=Zud ks;have ab:(Ua ks k).length=ks.length:=by rw[ZgJ,W9]
 refine cE ?_;simp +contextual -implicitDefEqProofs (maxSteps:=10^7) only[go_sem,seval,↓gZ,ZdN];refine Qw Xs Ms (st0:=?st0) (α:=Nat) (fun i=>[(5,.d (J (i:Int))),(1,.d (J (k+(Zs plC (ks.take i):Nat))))]) (fun _=>[]) (fun i=>i≤ks.length) (fun i=>ks.length-i) 0 ?hc (by omega) ?h0 ?step
 case hc=>simp +contextual -implicitDefEqProofs (maxSteps:=10^7) only[go_sem,seval,↓gZ]<;>exact rfl
 case h0=>simp only[LY,Zs,K0,Ls];rfl
 case step=>
  intro i hi ag;have al:=QC plC ks i;by_cases ad:i<ks.length
  ·obtain⟨x,hx⟩:=Zo ad;have aa : (i:Int)<(ks.length:Int):=by omega
   have w1:=Zh (k:=i) (by omega);have hg:=Zk9 Zuf plC ks k i x hx;rw[← ZgJ] at hg;have hb2:=Zal (c:=plC) hx;have ah:=QC plC ks (i+1);have ai:=ih x (Kb hx);obtain⟨o,a,p,t,kk⟩:=x;have aj:plC (.mk o a p t kk)=4+4*nL kk:=by simp only[plC,Ze.nodes,nL];omega
   have ae:k+(Zs plC (ks.take (i+1)):Nat)=k+(Zs plC (ks.take i):Nat)+1+1+1+1+((4*nL kk:Nat):Int):=by rw[hb2,aj];push_cast;omega
   generalize hK:k+(Zs plC (ks.take i):Nat)=K at hg ae ⊢;have e1:=ai o a p t kk rfl (K+1+1+1+1) (by omega) (by omega);have n1:¬K+1+1+1+1+((4*nL kk:Nat):Int)<0:=by omega
   have v1:=wi (K+1) (by omega) (by omega);have v2:=wi (K+1+1) (by omega) (by omega);have v3:=wi (K+1+1+1) (by omega) (by omega);have v4:=wi (K+1+1+1+1) (by omega) (by omega);simp only[Zuf] at hg;generalize nL kk=nk at *;simp +contextual -implicitDefEqProofs (maxSteps:=10^7) only[go_sem,seval,↓gZ,aa,ad,hg,w1,ab,v1,v2,v3,v4,e1,n1,bNe,bne_self_eq_false];refine ag (i+1) _ (by omega) (by omega) ?_;simp +contextual -implicitDefEqProofs (maxSteps:=10^7) only[go_sem,seval,↓gZ,ae]
  ·have:i=ks.length:=by omega
   subst this;rw[LC,af];generalize nL ks=nk at *;simp +contextual -implicitDefEqProofs (maxSteps:=10^7) only[go_sem,seval,↓gZ,ab]
theorem Zbl:∀ (n:Nat) (ks:List Ze),nL ks≤n→nL ks≤4194304→∀ k:Int,0≤k→k+((4*nL ks:Nat):Int)≤281474976710656→Zd Xs Ms Xv [.d (.sl ((Ua ks k).map Ze.enc)),(.d (J k))] []=some ((.d (J (k+((4*nL ks:Nat):Int)))),[])
 | n,ks,hn,hb,k,h0,h1=>Zp0 ks hb (fun x hx o a p t kk he K g0 g1=>by
   obtain⟨i,hi⟩:=List.mem_iff_getElem?.1 hx;have hy:=ZcY hi;subst he;have aa:nL kk<nL ks:=by simp only[Ze.nodes,nL] at hy ⊢;omega
   match n,hn with
   | 0,hn=>omega
   | n+1,hn=>exact Zbl n kk (by omega) (by omega) K g0 (by omega)) k h0 h1
theorem Zsm (o a p:Int) (t:Bool) (ks:List Ze) (hk:nL ks≤4194304) (k:Int) (h0:0≤k) (h1:k≤1099511627776):Zd Xs Ms Jp [.d (.agg [J o,J a,J p,.bool t,.sl ((Ua ks k).map Ze.enc)]),(.d (J k))] []=some ((.d (J (k+((4*nL ks:Nat):Int)))),[]):=by
 have e1:=Zbl _ ks (Kl _) hk k h0 (by omega);have n1:¬k+((4*nL ks:Nat):Int)<0:=by omega
 generalize nL ks=nk at *;refine cE ?_;simp +contextual -implicitDefEqProofs (maxSteps:=10^7) only[go_sem,seval,↓gZ,Ze1,e1,n1]
end Go.Proofs.YthgciclhiaoecaaGreat
