/- Own text. -/
import Derived.Test.YtdhgppkldoopaaaGreatACode
import Derived.Test.YtdhgppkldoopaaaGreatAbsParts
import Derived.Test.YtdhgppkldoopaaaGreatAC13
import Derived.Test.YtdhgppkldoopaaaGreatAbsOkD
namespace Go.Proofs.YtdhgppkldoopaaaGreat
open Go Go.Abs Go.Abs.E Go.Abs.L
open Nat (reduceMul reduceSub reduceLeDiff reduceEqDiff)
open Int (reduceLE reduceEq reduceToNat reduceNeg)
set_option linter.unusedSimpArgs false
set_option linter.unusedVariables false
set_option maxRecDepth 20000
set_option maxHeartbeats 4000000
theorem Zr3 (pL pW pH:Int) (pF:List Box) (hk:pF.length≤maxLen) (left:Int) (h0:0≤left) (hl:left≤1048576):Zf Xs Ms Zam [(.d (.agg [J pL,J pW,J pH,.sl (pF.map Box.enc)])),(.d (J left))] []=some ((.d (J (szV left pF.length))),[]):=by
 have e1:=Ztf pF hk left h0 hl;by_cases hy:(pF.length:Int)≤left
 ·rw[X6 hy] at e1 ⊢;have aa:¬left-(pF.length:Int)<0:=by omega
  refine cE ?_;simp +contextual -implicitDefEqProofs (maxSteps:=10^7) only[go_sem,seval,↓gZ,Zch,e1,aa]
 ·rw[XV hy] at e1 ⊢;refine cE ?_;simp +contextual -implicitDefEqProofs (maxSteps:=10^7) only[go_sem,seval,↓gZ,Zch,e1]
def ZcC (p:Zb):Nat:=p.Flaws.length
theorem Zql (ks:List Zb) (hk:ks.length≤maxLen) (ae:∀ p∈ks,p.Flaws.length≤maxLen) (left:Int) (h0:0≤left) (hl:left≤1048576) :
  Zf Xs Ms UO [(.d (.sl (ks.map Zb.enc))),(.d (J left))] []=some ((.d (J (szV left (ks.length+Zo ZcC ks)))),[]):=by
 have ai : (ks.length:Int)≤9223372036854775807:=by unfold maxLen at hk;omega
 have w:=wi (left-ks.length) (by omega) (by omega);by_cases aa:left-(ks.length:Int)<0
 ·rw[XV (by omega)];refine cE ?_;simp +contextual -implicitDefEqProofs (maxSteps:=10^7) only[go_sem,seval,↓gZ,ZaV,w,aa]
 ·refine cE ?_;simp +contextual -implicitDefEqProofs (maxSteps:=10^7) only[go_sem,seval,↓gZ,ZaV,w,aa];refine LO (α:=Nat×Int) (fun a=>[(5,.d (J (a.1:Int))),(1,.d (J a.2))]) (fun _=>[]) (fun a=>a.1≤ks.length∧0≤a.2∧a.2≤left∧szV left (ks.length+Zo ZcC ks)=szV a.2 (Zo ZcC (ks.drop a.1))) (fun a=>ks.length-a.1) (0,left-ks.length) ⟨by simp,by simp only;omega,by simp only;omega,by simp only[List.drop_zero];unfold szV;split<;>split<;>omega⟩ ?_;intro⟨k,m⟩ ⟨hk1,hm0,hml,hp⟩ ih2;simp only at hk1 hm0 hml hp ih2 ⊢;by_cases ad:k<ks.length
  ·obtain⟨x,hx⟩:=Zr ad;have ab : (k:Int)<(ks.length:Int):=by omega
   have w1:=Zj (k:=k) (by omega);have af:=ae x (Kb hx);rw[Zn1 hx] at hp;obtain⟨L,W,H,F⟩:=x;have e1:=Zr3 L W H F af m hm0 (by omega);have ag:ZcC ⟨L,W,H,F⟩=F.length:=rfl;rw[ag] at hp;by_cases hy:(F.length:Int)≤m
   ·rw[X6 hy] at e1;have ah:¬m-(F.length:Int)<0:=by omega
    simp +contextual -implicitDefEqProofs (maxSteps:=10^7) only[go_sem,seval,↓gZ,ab,ad,hx,w1,e1,ah];refine ih2 (k+1,m-F.length) _ ⟨by simp only;omega,by simp only;omega,by simp only;omega,?_⟩ (by simp only;omega) ?_
    ·rw[hp];simp only;unfold szV;split<;>split<;>omega
    ·simp +contextual -implicitDefEqProofs (maxSteps:=10^7) only[go_sem,seval,↓gZ]
   ·rw[XV hy] at e1;rw[hp,XV (by omega)];simp +contextual -implicitDefEqProofs (maxSteps:=10^7) only[go_sem,seval,↓gZ,ab,ad,hx,w1,e1]
  ·have:k=ks.length:=by omega
   subst this;rw[List.drop_length] at hp;rw[hp,X6 (by simp only[Zo];omega)];have hz:m-((Zo ZcC []:Nat):Int)=m:=by simp[Zo]
   rw[hz];simp +contextual -implicitDefEqProofs (maxSteps:=10^7) only[go_sem,seval,↓gZ]
theorem Zr4 (pL pW pH:Int) (pF:List Box) (h:pF.length≤1048576):Zf Xs Ms Zao [(.d (.agg [J pL,J pW,J pH,.sl (pF.map Box.enc)]))] []=some (.agg [(.d (J pL)),(.d (J pW)),(.d (J pH)),.own 0],[.row 4 (pF.map Box.enc) true false]):=by
 have e1:=Ztg pF h;refine cE ?_;simp +contextual -implicitDefEqProofs (maxSteps:=10^7) only[go_sem,seval,↓gZ,ZfW,e1]
def Zth:D:=.agg [J 0,J 0,J 0,.sl []]
theorem Zqm (ks:List Zb) (hk:ks.length≤1048576) (hs:∀ p∈ks,ZcC p≤1048576):Zf Xs Ms UP [(.d (.sl (ks.map Zb.enc)))] []=some (.own 0,[.tree 4 4 (ks.map Zb.enc) none]):=by
 have hm:(ks.length:Int)*48≤140737488355328∧(ks.length:Int)≤140737488355328:=by omega
 refine cE ?_;simp +contextual -implicitDefEqProofs (maxSteps:=10^7) only[go_sem,seval,↓gZ,Zd8,hm,ZI];refine YC Xs Ms (st0:=?st0) (α:=Nat) (fun k=>[(4,.d (J (k:Int)))]) (fun k=>[(0,.tree 4 4 (ZaM Zb.enc Zth ks k) none)]) (fun k=>k≤ks.length) (fun k=>ks.length-k) 0 ?hc (by omega) ?h0 ?step
 case hc=>simp +contextual -implicitDefEqProofs (maxSteps:=10^7) only[go_sem,seval,↓gZ]<;>exact rfl
 case h0=>rw[Zbj];rfl
 case step=>
  intro k ae af;have ag:=Zdj Zb.enc Zth ae;by_cases ab:k<ks.length
  ·obtain⟨x,hx⟩:=Zr ab;have ad : (k:Int)<(ks.length:Int):=by omega
   have w1:=Zj (k:=k) (by omega);have aa:=Zdk (f:=Zb.enc) (z:=Zth) hx;have ah:=hs x (Kb hx);obtain⟨L,W,H,F⟩:=x;have e1:=Zr4 L W H F ah;simp only[Zb.enc] at aa;have z1:=Zdl (f:=Zb.enc) (z:=Zth) ab;have z2:Zth.notSl=true:=rfl;have z3:Zth.cells.length=4:=rfl;have z4:XM Zth 0 [J L,J W,J H,.sl (F.map Box.enc)]=.agg [J L,J W,J H,.sl (F.map Box.enc)]:=rfl;have z5:Zth.isAgg=true:=rfl;have z6:=aF (l:=F) (g:=Box.enc) fun _=>rfl;simp +contextual -implicitDefEqProofs (maxSteps:=10^7) only[go_sem,seval,↓gZ,ad,ab,hx,w1,e1,ag,z1,z2,z3,z4,z5,z6,aa];refine af (k+1) _ (by omega) (by omega) ?_;simp +contextual -implicitDefEqProofs (maxSteps:=10^7) only[go_sem,seval,↓gZ,aa]
  ·have:k=ks.length:=by omega
   subst this;rw[Zdi];simp +contextual -implicitDefEqProofs (maxSteps:=10^7) only[go_sem,seval,↓gZ]
def ZaR {α:Type} (f:α→Int→α) (c:α→Nat):List α→Int→List α
 | [],_=>[]
 | x :: r,k=>f x k :: ZaR f c r (k+c x)
theorem Zah {α:Type} (f:α→Int→α) (c:α→Nat):∀ (l:List α) (k:Int),(ZaR f c l k).length=l.length
 | [],_=>rfl
 | x :: r,k=>by simp[ZaR,Zah f c r]
theorem Zti {α:Type} (f:α→Int→α) (c:α→Nat):∀ (l:List α) (k:Int) (i:Nat) (x:α),l[i]?=some x→(ZaR f c l k)[i]?=some (f x (k+(Zo c (l.take i):Nat)))
 | y :: r,k,0,x,h=>by simp only[Lc,Option.some.injEq] at h;subst h;simp[ZaR,Zo]
 | y :: r,k,i+1,x,h=>by
  rw[ZaR,KS,Zti f c r _ i x (by simpa using h),LR,Zo];congr 2;push_cast;omega
theorem Zmg {α:Type} (f:α→Int→α) (c:α→Nat):∀ (l r:List α) (k:Int),ZaR f c (l++r) k=ZaR f c l k++ZaR f c r (k+(Zo c l:Nat))
 | [],r,k=>by simp[ZaR,Zo]
 | x :: l,r,k=>by
  rw[KD,ZaR,Zmg f c l r,ZaR,KD,Zo];congr 3;push_cast;omega
theorem ZdV {α:Type} (c:α→Nat):∀ (l r:List α),Zo c (l++r)=Zo c l+Zo c r
 | [],r=>by simp[Zo]
 | x :: l,r=>by simp[Zo,ZdV c l r];omega
theorem ZdW {α:Type} {c:α→Nat} {l:List α} {i:Nat} {x:α} (h:l[i]?=some x):Zo c (l.take (i+1))=Zo c (l.take i)+c x:=by
 rw[KK,h,ZdV];simp[Zo]
theorem XO {α:Type} (c:α→Nat) (l:List α) (i:Nat):Zo c (l.take i)≤Zo c l:=by
 have:=ZdV c (l.take i) (l.drop i);rw[Li] at this;omega
def ZjL {α:Type} (f:α→Int→α) (c:α→Nat) (k:Int) (l:List α) (i:Nat):List α:=ZaR f c (l.take i) k++l.drop i
theorem Zn7 {α:Type} (f:α→Int→α) (c:α→Nat) (k:Int) {l:List α} {i:Nat} (h:i≤l.length):(ZjL f c k l i).length=l.length:=by simp[ZjL,Zah];omega
theorem Zn8 {α:Type} (f:α→Int→α) (c:α→Nat) (k:Int) {l:List α} {i:Nat} {x:α} (h:l[i]?=some x):(ZjL f c k l i)[i]?=some x:=by
 obtain⟨h1,_⟩:=Ka.1 h;have hl:(ZaR f c (l.take i) k).length=i:=by rw[Zah];simp;omega
 unfold ZjL;rw[Kz (by omega),hl,Kam,KR];simpa using h
theorem Zlg {α:Type} (g:α→D) (f:α→Int→α) (c:α→Nat) (k:Int) {l:List α} {i:Nat} {x:α} (h:l[i]?=some x):((ZjL f c k l i).map g).set i (g (f x (k+(Zo c (l.take i):Nat))))=(ZjL f c k l (i+1)).map g:=by
 obtain⟨h1,h2⟩:=Ka.1 h;have hl:(ZaR f c (l.take i) k).length=i:=by rw[Zah];simp;omega
 rw[← LJ];congr 1;unfold ZjL;rw[List.set_append_right _ _ (by omega),hl,Kam,KK,h,Zmg,Lq,Kw h1];rfl
theorem Zn9 {α:Type} (f:α→Int→α) (c:α→Nat) (k:Int) (l:List α):ZjL f c k l l.length=ZaR f c l k:=by simp[ZjL]
theorem Zlh {α:Type} (f:α→Int→α) (c:α→Nat) (k:Int) (l:List α):ZjL f c k l 0=l:=by simp[ZjL,ZaR]
theorem Zoa (pL pW pH:Int) (pF:List Box) (h:pF.length≤1099511627776):Zf Xs Ms Zal [(.d (.agg [J pL,J pW,J pH,.sl (pF.map Box.enc)])),(.d (.agg [J pL,J pW,J pH,.sl (pF.map Box.enc)]))] []=some ((.d (.bool true)),[]):=by
 have e1:=Zqi pF h;refine cE ?_;simp +contextual -implicitDefEqProofs (maxSteps:=10^7) only[go_sem,seval,↓gZ,ZfU,e1]
theorem Zny (ks:List Zb) (hk:ks.length≤1099511627776) (hs:∀ p∈ks,ZcC p≤1099511627776):Zf Xs Ms UN [(.d (.sl (ks.map Zb.enc))),(.d (.sl (ks.map Zb.enc)))] []=some ((.d (.bool true)),[]):=by
 refine cE ?_;simp +contextual -implicitDefEqProofs (maxSteps:=10^7) only[go_sem,seval,↓gZ,Zd6];refine LO (α:=Nat) (fun k=>[(5,.d (J (k:Int)))]) (fun _=>[]) (fun k=>k≤ks.length) (fun k=>ks.length-k) 0 (by omega) ?_;intro k af ad;by_cases ab:k<ks.length
 ·obtain⟨x,hx⟩:=Zr ab;have aa : (k:Int)<(ks.length:Int):=by omega
  have w1:=Zj (k:=k) (by omega);have ae:=hs x (Kb hx);obtain⟨L,W,H,F⟩:=x;have e1:=Zoa L W H F ae;simp +contextual -implicitDefEqProofs (maxSteps:=10^7) only[go_sem,seval,↓gZ,aa,ab,hx,w1,e1];refine ad (k+1) _ (by omega) (by omega) ?_;simp +contextual -implicitDefEqProofs (maxSteps:=10^7) only[go_sem,seval,↓gZ]
 ·have:k=ks.length:=by omega
  subst this;simp +contextual -implicitDefEqProofs (maxSteps:=10^7) only[go_sem,seval,↓gZ]
def Zr5 (p:Zb) (k:Int):Zb:=⟨k,k+1,k+1+1,mks Ze8 4 p.Flaws.length (k+1+1+1)⟩
def pcN (p:Zb):Nat:=3+4*p.Flaws.length
abbrev ZjM (l:List Zb) (k:Int):List Zb:=ZaR Zr5 pcN l k
theorem Znz (ks:List Zb) (hk:Zo pcN ks≤1099511627776) (hl:ks.length≤1099511627776) (k:Int) (h0:0≤k) (h1:k≤562949953421312):Zf Xs Ms Z2 [.own 0,(.d (J k))] [.tree 4 4 (ks.map Zb.enc) none]=some ((.d (J (k+(Zo pcN ks:Nat)))),[.tree 4 4 ((ZjM ks k).map Zb.enc) none]):=by
 refine cE ?_;simp +contextual -implicitDefEqProofs (maxSteps:=10^7) only[go_sem,seval,↓gZ,U9];refine YC Xs Ms (st0:=?st0) (α:=Nat) (fun i=>[(5,.d (J (i:Int))),(1,.d (J (k+(Zo pcN (ks.take i):Nat))))]) (fun i=>[(0,.tree 4 4 ((ZjL Zr5 pcN k ks i).map Zb.enc) none)]) (fun i=>i≤ks.length) (fun i=>ks.length-i) 0 ?hc (by omega) ?h0 ?step
 case hc=>simp +contextual -implicitDefEqProofs (maxSteps:=10^7) only[go_sem,seval,↓gZ]<;>exact rfl
 case h0=>simp only[Zlh,Kaa,Zo,Ld,Lz];rfl
 case step=>
  intro i hi ih;have ae:=Zn7 Zr5 pcN k hi;have ai:=XO pcN ks i;by_cases ab:i<ks.length
  ·obtain⟨x,hx⟩:=Zr ab;have aa : (i:Int)<(ks.length:Int):=by omega
   have w1:=Zj (k:=i) (by omega);have hg:=Zn8 Zr5 pcN k hx;have hs:=Zlg Zb.enc Zr5 pcN k hx;have af:=ZdW (c:=pcN) hx;have ag:=XO pcN ks (i+1);obtain⟨L,W,H,F⟩:=x;have ah:pcN ⟨L,W,H,F⟩=3+4*F.length:=rfl;have ad:k+(Zo pcN (ks.take (i+1)):Nat)=k+(Zo pcN (ks.take i):Nat)+1+1+1+((4*F.length:Nat):Int):=by rw[af,ah];push_cast;omega
   generalize hK:k+(Zo pcN (ks.take i):Nat)=K at hs ad ⊢;have e1:=Zqj F (by omega) (K+1+1+1) (by omega) (by omega);have a1:=aF (l:=F) (g:=Box.enc) fun _=>rfl;have a2:=aF (l:=mks Ze8 4 F.length (K+1+1+1)) (g:=Box.enc) fun _=>rfl;have v1:=wi (K+1) (by omega) (by omega);have v2:=wi (K+1+1) (by omega) (by omega);have v3:=wi (K+1+1+1) (by omega) (by omega);simp only[Zr5,Zb.enc] at hs;simp +contextual -implicitDefEqProofs (maxSteps:=10^7) only[go_sem,seval,↓gZ,aa,ab,hg,w1,ae,v1,v2,v3,e1,a1,a2,LF,KM,Kan];refine ih (i+1) _ (by omega) (by omega) ?_;simp +contextual -implicitDefEqProofs (maxSteps:=10^7) only[go_sem,seval,↓gZ,hs,ad]
  ·have:i=ks.length:=by omega
   subst this;rw[Zn9,LU];simp +contextual -implicitDefEqProofs (maxSteps:=10^7) only[go_sem,seval,↓gZ,Zah]
theorem Zhc:∀ l:List Zb,Zo pcN l=3*l.length+4*Zo ZcC l
 | []=>rfl
 | p :: r=>by rw[Zo,Zhc r,Zo];simp only[pcN,ZcC,Ks];omega
theorem Zhd {α:Type} {f:α→Nat}:∀ {l:List α} {x:α},x∈l→f x≤Zo f l
 | y :: l,x,h=>by
  rcases Kf.1 h with rfl | h
  ·simp[Zo]
  ·have:=Zhd (f:=f) h;simp only[Zo];omega
theorem Zdn (k:Int):Zf Xs Ms Z2 [.own 0,(.d (J k))] [.row 4 [] true false]=some ((.d (J k)),[.row 4 [] true false]):=by
 refine cE ?_;simp +contextual -implicitDefEqProofs (maxSteps:=10^7) only[go_sem,seval,↓gZ,U9];refine LO (α:=Unit) (fun _=>[]) (fun _=>[]) (fun _=>True) (fun _=>0) () trivial ?_;intro _ _ _;simp +contextual -implicitDefEqProofs (maxSteps:=10^7) only[go_sem,seval,↓gZ]
theorem ZjN {α:Type} {f:α→Nat} {c:Nat}:∀ {l:List α},(∀ x∈l,f x≤c)→Zo f l≤c*l.length
 | [],_=>by simp[Zo]
 | x :: l,h=>by
  have h1:=h x (by simp);have h2:=ZjN (f:=f) (c:=c) (l:=l) fun y hy=>h y (by simp[hy]);simp only[Zo,Ks,Nat.mul_add];omega
theorem ZnA (ks:List Zb) (hk:Zo pcN ks≤1099511627776) (hl:ks.length≤1099511627776) (k:Int) (h0:0≤k) (h1:k≤562949953421312):Zf Xs Ms VU [.d (.sl ((ZjM ks k).map Zb.enc)),(.d (J k))] []=some ((.d (J (k+(Zo pcN ks:Nat)))),[]):=by
 have ab:=Zah Zr5 pcN ks k;refine cE ?_;simp +contextual -implicitDefEqProofs (maxSteps:=10^7) only[go_sem,seval,↓gZ,ZbD];refine YC Xs Ms (st0:=?st0) (α:=Nat) (fun i=>[(5,.d (J (i:Int))),(1,.d (J (k+(Zo pcN (ks.take i):Nat))))]) (fun _=>[]) (fun i=>i≤ks.length) (fun i=>ks.length-i) 0 ?hc (by omega) ?h0 ?step
 case hc=>simp +contextual -implicitDefEqProofs (maxSteps:=10^7) only[go_sem,seval,↓gZ]<;>exact rfl
 case h0=>simp only[Kaa,Zo,Ld,Lz];rfl
 case step=>
  intro i hi ih;have ai:=XO pcN ks i;by_cases ad:i<ks.length
  ·obtain⟨x,hx⟩:=Zr ad;have aa : (i:Int)<(ks.length:Int):=by omega
   have w1:=Zj (k:=i) (by omega);have hg:=Zti Zr5 pcN ks k i x hx;have af:=ZdW (c:=pcN) hx;have ag:=XO pcN ks (i+1);obtain⟨L,W,H,F⟩:=x;have ah:pcN ⟨L,W,H,F⟩=3+4*F.length:=rfl;have ae:k+(Zo pcN (ks.take (i+1)):Nat)=k+(Zo pcN (ks.take i):Nat)+1+1+1+((4*F.length:Nat):Int):=by rw[af,ah];push_cast;omega
   generalize hK:k+(Zo pcN (ks.take i):Nat)=K at hg ae ⊢;have e1:=Zqk F.length (by omega) (K+1+1+1) (by omega) (by omega);have n1:¬K+1+1+1+((4*F.length:Nat):Int)<0:=by omega
   have v1:=wi (K+1) (by omega) (by omega);have v2:=wi (K+1+1) (by omega) (by omega);have v3:=wi (K+1+1+1) (by omega) (by omega);simp only[Zr5] at hg;simp +contextual -implicitDefEqProofs (maxSteps:=10^7) only[go_sem,seval,↓gZ,aa,ad,hg,w1,ab,v1,v2,v3,e1,n1];refine ih (i+1) _ (by omega) (by omega) ?_;simp +contextual -implicitDefEqProofs (maxSteps:=10^7) only[go_sem,seval,↓gZ,ae]
  ·have:i=ks.length:=by omega
   subst this;rw[LU];simp +contextual -implicitDefEqProofs (maxSteps:=10^7) only[go_sem,seval,↓gZ,ab]
def Zqn (S:List Zb) (O D:List Zc):Nat:=S.length+Zo ZcC S+O.length+D.length
theorem Ztj (sS:List Zb) (sO sD:List Zc) (sL sC:Int) (h1:sS.length≤maxLen) (h2:∀ p∈sS,p.Flaws.length≤maxLen) (h3:sO.length≤maxLen) (h4:sD.length≤maxLen) (left:Int) (h0:0≤left) (hl:left≤1048576):Zf Xs Ms Zbr [(.d (.agg [.sl (sS.map Zb.enc),.sl (sO.map Zc.enc),.sl (sD.map Zc.enc),J sL,J sC])),(.d (J left))] []=some ((.d (J (szV left (Zqn sS sO sD)))),[]):=by
 have e1:=Zql sS h1 h2 left h0 hl;unfold Zqn;generalize sS.length+Zo ZcC sS=n at e1;by_cases hy:(n:Int)≤left
 ·rw[X6 hy] at e1;have y1:¬left-(n:Int)<0:=by omega
  have e2:=ZjJ sO h3 (left-n) (by omega) (by omega);by_cases aa:(sO.length:Int)≤left-n
  ·rw[X6 aa] at e2;have y2:¬left-(n:Int)-(sO.length:Int)<0:=by omega
   have e3:=ZjJ sD h4 (left-n-sO.length) (by omega) (by omega);by_cases ab:(sD.length:Int)≤left-n-sO.length
   ·rw[X6 ab] at e3;have y3:¬left-(n:Int)-(sO.length:Int)-(sD.length:Int)<0:=by omega
    rw[X6 (by push_cast;omega),show left-((n+sO.length+sD.length:Nat):Int)=left-n-sO.length-sD.length by push_cast;omega];refine cE ?_;simp +contextual -implicitDefEqProofs (maxSteps:=10^7) only[go_sem,seval,↓gZ,JQ,e1,y1,e2,y2,e3,y3]
   ·rw[XV ab] at e3;rw[XV (by push_cast;omega)];refine cE ?_;simp +contextual -implicitDefEqProofs (maxSteps:=10^7) only[go_sem,seval,↓gZ,JQ,e1,y1,e2,y2,e3]
  ·rw[XV aa] at e2;rw[XV (by push_cast;omega)];refine cE ?_;simp +contextual -implicitDefEqProofs (maxSteps:=10^7) only[go_sem,seval,↓gZ,JQ,e1,y1,e2]
 ·rw[XV hy] at e1;rw[XV (by push_cast;omega)];refine cE ?_;simp +contextual -implicitDefEqProofs (maxSteps:=10^7) only[go_sem,seval,↓gZ,JQ,e1]
theorem Ztk (sS:List Zb) (sO sD:List Zc) (sL sC:Int) (h1:sS.length≤1048576) (h2:∀ p∈sS,ZcC p≤1048576) (h3:sO.length≤1048576) (h4:sD.length≤1048576):Zf Xs Ms VT [(.d (.agg [.sl (sS.map Zb.enc),.sl (sO.map Zc.enc),.sl (sD.map Zc.enc),J sL,J sC]))] []=some (.agg [.own 0,.own 1,.own 2,(.d (J sL)),(.d (J sC))],[.tree 4 4 (sS.map Zb.enc) none,.row 5 (sO.map Zc.enc) true false,.row 5 (sD.map Zc.enc) true false]):=by
 have e1:=Zqm sS h1 h2;have e2:=ZjK sO h3;have e3:=ZjK sD h4;refine cE ?_;simp +contextual -implicitDefEqProofs (maxSteps:=10^7) only[go_sem,seval,↓gZ,ZiZ,e1,e2,e3]
theorem WO (sS:List Zb) (sO sD:List Zc) (sL sC:Int) (h1:sS.length≤1099511627776) (h2:∀ p∈sS,ZcC p≤1099511627776) (h3:sO.length≤1099511627776) (h4:sD.length≤1099511627776):Zf Xs Ms XZ [(.d (.agg [.sl (sS.map Zb.enc),.sl (sO.map Zc.enc),.sl (sD.map Zc.enc),J sL,J sC])),(.d (.agg [.sl (sS.map Zb.enc),.sl (sO.map Zc.enc),.sl (sD.map Zc.enc),J sL,J sC]))] []=some ((.d (.bool true)),[]):=by
 have e1:=Zny sS h1 h2;have e2:=ZfH sO h3;have e3:=ZfH sD h4;refine cE ?_;simp +contextual -implicitDefEqProofs (maxSteps:=10^7) only[go_sem,seval,↓gZ,ZiY,e1,e2,e3]
theorem ZcD (S:List Zb) (O D:List Zc) (L C:Int) (h1:Zo pcN S≤1099511627776) (h2:S.length≤1099511627776) (h3:O.length≤1099511627776) (h4:D.length≤1099511627776) (k:Int) (h0:0≤k) (hk:k≤281474976710656) :
  Zf Xs Ms Z0 [.agg [.own 0,.own 1,.own 2,(.d (J L)),(.d (J C))],(.d (J k))] [.tree 4 4 (S.map Zb.enc) none,.row 5 (O.map Zc.enc) true false,.row 5 (D.map Zc.enc) true false] =
   some ((.d (J (k+(Zo pcN S:Nat)+((5*O.length:Nat):Int)+((5*D.length:Nat):Int)))),[.tree 4 4 ((ZjM S k).map Zb.enc) none,.row 5 ((mks X7 5 O.length (k+(Zo pcN S:Nat))).map Zc.enc) true false,.row 5 ((mks X7 5 D.length (k+(Zo pcN S:Nat)+((5*O.length:Nat):Int))).map Zc.enc) true false]):=by
 have e1:=Znz S h1 h2 k h0 (by omega);have e2:=VR O h3 (k+(Zo pcN S:Nat)) (by omega) (by omega);have e3:=VR D h4 (k+(Zo pcN S:Nat)+((5*O.length:Nat):Int)) (by omega) (by omega);refine cE ?_;simp +contextual -implicitDefEqProofs (maxSteps:=10^7) only[go_sem,seval,↓gZ,U8,e1,e2,e3]
theorem J8 (S:List Zb) (no nd:Nat) (L C:Int) (h1:Zo pcN S≤1099511627776) (h2:S.length≤1099511627776) (h3:no≤1099511627776) (h4:nd≤1099511627776) (k:Int) (h0:0≤k) (hk:k≤281474976710656) :
  Zf Xs Ms Yd [.d (.agg [.sl ((ZjM S k).map Zb.enc),.sl ((mks X7 5 no (k+(Zo pcN S:Nat))).map Zc.enc),.sl ((mks X7 5 nd (k+(Zo pcN S:Nat)+((5*no:Nat):Int))).map Zc.enc),J L,J C]),(.d (J k))] [] =
   some ((.d (J (k+(Zo pcN S:Nat)+((5*no:Nat):Int)+((5*nd:Nat):Int)))),[]):=by
 have e1:=ZnA S h1 h2 k h0 (by omega);have e2:=ZfI no h3 (k+(Zo pcN S:Nat)) (by omega) (by omega);have e3:=ZfI nd h4 (k+(Zo pcN S:Nat)+((5*no:Nat):Int)) (by omega) (by omega);have n1:¬k+(Zo pcN S:Nat)<0:=by omega
 have n2:¬k+(Zo pcN S:Nat)+((5*no:Nat):Int)<0:=by omega
 have n3:¬k+(Zo pcN S:Nat)+((5*no:Nat):Int)+((5*nd:Nat):Int)<0:=by omega
 refine cE ?_;simp +contextual -implicitDefEqProofs (maxSteps:=10^7) only[go_sem,seval,↓gZ,Zd5,e1,e2,e3,n1,n2,n3]
abbrev nL (ks:List Zd):Nat:=Zd.nodes.nodesL ks
theorem Zr6:∀ ks:List Zd,ks.length≤nL ks
 | []=>Kk _
 | .mk o a p t q :: r=>by have:=Zr6 r;simp only[nL,Zd.nodes.nodesL,Zd.nodes,Ks] at this ⊢;omega
theorem Ztl:∀ ks:List Zd,nL ks=ks.length+Zo (fun p:Zd=>p.nodes-1) ks
 | []=>rfl
 | .mk o a p t q :: r=>by have:=Ztl r;simp only[nL,Zd.nodes.nodesL,Zd.nodes,Ks,Zo] at this ⊢;omega
theorem Zr7 (ks:List Zd) (hk:ks.length≤maxLen) (ih:∀ k∈ks,∀ left:Int,0≤left→left≤1048576→Zf Xs Ms VV [.d k.enc,(.d (J left))] []=some ((.d (J (szV left (k.nodes-1)))),[])) (left:Int) (h0:0≤left) (hl:left≤1048576) :
  Zf Xs Ms Zan [(.d (.sl (ks.map Zd.enc))),(.d (J left))] []=some ((.d (J (szV left (nL ks)))),[]):=by
 have ag : (ks.length:Int)≤9223372036854775807:=by unfold maxLen at hk;omega
 have w:=wi (left-ks.length) (by omega) (by omega);have hb:=Ztl ks;by_cases aa:left-(ks.length:Int)<0
 ·rw[XV (by omega)];refine cE ?_;simp +contextual -implicitDefEqProofs (maxSteps:=10^7) only[go_sem,seval,↓gZ,Zci,w,aa]
 ·refine cE ?_;simp +contextual -implicitDefEqProofs (maxSteps:=10^7) only[go_sem,seval,↓gZ,Zci,w,aa];refine LO (α:=Nat×Int) (fun a=>[(5,.d (J (a.1:Int))),(1,.d (J a.2))]) (fun _=>[]) (fun a=>a.1≤ks.length∧0≤a.2∧a.2≤left∧szV left (nL ks)=szV a.2 (Zo (fun p:Zd=>p.nodes-1) (ks.drop a.1))) (fun a=>ks.length-a.1) (0,left-ks.length) ⟨by simp,by simp only;omega,by simp only;omega,by simp only[List.drop_zero];unfold szV;split<;>split<;>omega⟩ ?_;intro⟨k,m⟩ ⟨hk1,hm0,hml,hp⟩ ih2;simp only at hk1 hm0 hml hp ih2 ⊢;by_cases ad:k<ks.length
  ·obtain⟨x,hx⟩:=Zr ad;have ab : (k:Int)<(ks.length:Int):=by omega
   have w1:=Zj (k:=k) (by omega);have e1:=ih x (Kb hx) m hm0 (by omega);rw[Zn1 hx] at hp;obtain⟨o,a,q,t,ae⟩:=x;rw[Zd.enc_mk] at e1;generalize (Zd.mk o a q t ae).nodes-1=nx at e1 hp;by_cases hy:(nx:Int)≤m
   ·rw[X6 hy] at e1;have af:¬m-(nx:Int)<0:=by omega
    simp +contextual -implicitDefEqProofs (maxSteps:=10^7) only[go_sem,seval,↓gZ,ab,ad,hx,w1,e1,af];refine ih2 (k+1,m-nx) _ ⟨by simp only;omega,by simp only;omega,by simp only;omega,?_⟩ (by simp only;omega) ?_
    ·rw[hp];simp only;unfold szV;split<;>split<;>omega
    ·simp +contextual -implicitDefEqProofs (maxSteps:=10^7) only[go_sem,seval,↓gZ]
   ·rw[XV hy] at e1;rw[hp,XV (by omega)];simp +contextual -implicitDefEqProofs (maxSteps:=10^7) only[go_sem,seval,↓gZ,ab,ad,hx,w1,e1]
  ·have:k=ks.length:=by omega
   subst this;rw[List.drop_length] at hp;rw[hp,X6 (by simp only[Zo];omega)];have hz:m-((Zo (fun p:Zd=>p.nodes-1) []:Nat):Int)=m:=by simp[Zo]
   rw[hz];simp +contextual -implicitDefEqProofs (maxSteps:=10^7) only[go_sem,seval,↓gZ]
theorem ZjO:∀ (n:Nat) (p:Zd),p.nodes≤n→p.ok→∀ left:Int,0≤left→left≤1048576→Zf Xs Ms VV [.d p.enc,(.d (J left))] []=some ((.d (J (szV left (p.nodes-1)))),[])
 | 0,.mk o a p t ks,hn,_,_,_,_=>by simp[Zd.nodes] at hn
 | n+1,.mk o a p t ks,hn,hok,left,h0,hl=>by
  cases hok with
  | mk _ _ _ hk hks=>
   have e1:=Zr7 ks hk (fun k aa=>by
    obtain⟨i,hi⟩:=L5.1 aa;exact ZjO n k (J0 hn hi) (hks k aa)) left h0 hl
   have ab:(Zd.mk o a p t ks).nodes-1=nL ks:=by simp only[Zd.nodes,nL];omega
   rw[ab,Zd.enc_mk];by_cases hy:((nL ks:Nat):Int)≤left
   ·rw[X6 hy] at e1 ⊢;have ad:¬left-((nL ks:Nat):Int)<0:=by omega
    generalize nL ks=m at *;refine cE ?_;simp +contextual -implicitDefEqProofs (maxSteps:=10^7) only[go_sem,seval,↓gZ,Zd7,e1,ad]
   ·rw[XV hy] at e1 ⊢;refine cE ?_;simp +contextual -implicitDefEqProofs (maxSteps:=10^7) only[go_sem,seval,↓gZ,Zd7,e1]
theorem Ztm (p:Zd) (aa:p.ok) (left:Int) (h0:0≤left) (hl:left≤1048576):Zf Xs Ms VV [.d p.enc,(.d (J left))] []=some ((.d (J (szV left (p.nodes-1)))),[]):=ZjO _ p (Kk _) aa left h0 hl
def Zmh:D:=.agg [J 0,J 0,J 0,.bool false,.sl []]
theorem Zr8 (ks:List Zd) (hk:ks.length≤1048576) (ih:∀ k∈ks,∀ o a p t ab,k=.mk o a p t ab→Zf Xs Ms VX [.d k.enc] []=some (.agg [(.d (J o)),(.d (J a)),(.d (J p)),(.d (.bool t)),.own 0],[.tree 5 5 (ab.map Zd.enc) none])) :
  Zf Xs Ms Zap [(.d (.sl (ks.map Zd.enc)))] []=some (.own 0,[.tree 5 5 (ks.map Zd.enc) none]):=by
 have hm:(ks.length:Int)*56≤140737488355328∧(ks.length:Int)≤140737488355328:=by omega
 refine cE ?_;simp +contextual -implicitDefEqProofs (maxSteps:=10^7) only[go_sem,seval,↓gZ,ZfX,hm,ZI];refine YC Xs Ms (st0:=?st0) (α:=Nat) (fun k=>[(4,.d (J (k:Int)))]) (fun k=>[(0,.tree 5 5 (ZaM Zd.enc Zmh ks k) none)]) (fun k=>k≤ks.length) (fun k=>ks.length-k) 0 ?hc (by omega) ?h0 ?step
 case hc=>simp +contextual -implicitDefEqProofs (maxSteps:=10^7) only[go_sem,seval,↓gZ]<;>exact rfl
 case h0=>rw[Zbj];rfl
 case step=>
  intro k af ag;have ah:=Zdj Zd.enc Zmh af;by_cases ad:k<ks.length
  ·obtain⟨x,hx⟩:=Zr ad;have ae : (k:Int)<(ks.length:Int):=by omega
   have w1:=Zj (k:=k) (by omega);have aa:=Zdk (f:=Zd.enc) (z:=Zmh) hx;obtain⟨o,a,q,t,ab⟩:=x;have e1:=ih _ (Kb hx) o a q t ab rfl;rw[Zd.enc_mk] at e1 aa;have z1:=Zdl (f:=Zd.enc) (z:=Zmh) ad;have z2:Zmh.notSl=true:=rfl;have z3:Zmh.cells.length=5:=rfl;have z4:XM Zmh 0 [J o,J a,J q,.bool t,.sl (ab.map Zd.enc)]=.agg [J o,J a,J q,.bool t,.sl (ab.map Zd.enc)]:=rfl;have z5:Zmh.isAgg=true:=rfl;simp +contextual -implicitDefEqProofs (maxSteps:=10^7) only[go_sem,seval,↓gZ,ae,ad,hx,w1,e1,ah,z1,z2,z3,z4,z5,aa];refine ag (k+1) _ (by omega) (by omega) ?_;simp +contextual -implicitDefEqProofs (maxSteps:=10^7) only[go_sem,seval,↓gZ,aa]
  ·have:k=ks.length:=by omega
   subst this;rw[Zdi];simp +contextual -implicitDefEqProofs (maxSteps:=10^7) only[go_sem,seval,↓gZ]
theorem ZjP:∀ (n:Nat) (p:Zd),p.nodes≤n→p.nodes≤1048577→∀ o a q t ks,p=.mk o a q t ks→Zf Xs Ms VX [.d p.enc] []=some (.agg [(.d (J o)),(.d (J a)),(.d (J q)),(.d (.bool t)),.own 0],[.tree 5 5 (ks.map Zd.enc) none])
 | 0,.mk o a p t ks,hn,_,_,_,_,_,_,_=>by simp[Zd.nodes] at hn
 | n+1,.mk o a p t ks,hn,hb,o',a',q',t',ks',he=>by
  cases he;have hl:=Zr6 ks;have aa : nL ks≤1048576:=by simp only[Zd.nodes] at hb;simp only[nL];omega
  have e1:=Zr8 ks (by omega) (fun k ab o1 a1 p1 t1 ad ae=>by
   obtain⟨i,hi⟩:=L5.1 ab;have:=Zb1 hi;exact ZjP n k (J0 hn hi) (by simp only[nL] at aa;omega) o1 a1 p1 t1 ad ae)
  rw[Zd.enc_mk];refine cE ?_;simp +contextual -implicitDefEqProofs (maxSteps:=10^7) only[go_sem,seval,↓gZ,Zi1,e1]
theorem Ztn (o a q:Int) (t:Bool) (ks:List Zd) (h:nL ks≤1048576):Zf Xs Ms VX [.d (.agg [J o,J a,J q,.bool t,.sl (ks.map Zd.enc)])] []=some (.agg [(.d (J o)),(.d (J a)),(.d (J q)),(.d (.bool t)),.own 0],[.tree 5 5 (ks.map Zd.enc) none]):=by
 have:=ZjP _ (.mk o a q t ks) (Kk _) (by simp only[Zd.nodes,nL] at h ⊢;omega) o a q t ks rfl
 rwa [Zd.enc_mk] at this
theorem Zr9 (ks:List Zd) (hk:ks.length≤1048576) (ih:∀ k∈ks,Zf Xs Ms VY [.d k.enc,.d k.enc] []=some ((.d (.bool true)),[])) :
  Zf Xs Ms Zaq [(.d (.sl (ks.map Zd.enc))),(.d (.sl (ks.map Zd.enc)))] []=some ((.d (.bool true)),[]):=by
 refine cE ?_;simp +contextual -implicitDefEqProofs (maxSteps:=10^7) only[go_sem,seval,↓gZ,ZfY];refine LO (α:=Nat) (fun k=>[(5,.d (J (k:Int)))]) (fun _=>[]) (fun k=>k≤ks.length) (fun k=>ks.length-k) 0 (by omega) ?_;intro k ae ad;by_cases ab:k<ks.length
 ·obtain⟨x,hx⟩:=Zr ab;have aa : (k:Int)<(ks.length:Int):=by omega
  have w1:=Zj (k:=k) (by omega);have e1:=ih x (Kb hx);obtain⟨o,a,q,t,af⟩:=x;rw[Zd.enc_mk] at e1;simp +contextual -implicitDefEqProofs (maxSteps:=10^7) only[go_sem,seval,↓gZ,aa,ab,hx,w1,e1];refine ad (k+1) _ (by omega) (by omega) ?_;simp +contextual -implicitDefEqProofs (maxSteps:=10^7) only[go_sem,seval,↓gZ]
 ·have:k=ks.length:=by omega
  subst this;simp +contextual -implicitDefEqProofs (maxSteps:=10^7) only[go_sem,seval,↓gZ]
theorem ZjQ:∀ (n:Nat) (p:Zd),p.nodes≤n→p.nodes≤1048577→Zf Xs Ms VY [.d p.enc,.d p.enc] []=some ((.d (.bool true)),[])
 | 0,.mk o a p t ks,hn,_=>by simp[Zd.nodes] at hn
 | n+1,.mk o a p t ks,hn,hb=>by
  have hl:=Zr6 ks;have aa : nL ks≤1048576:=by simp only[Zd.nodes] at hb;simp only[nL];omega
  have e1:=Zr9 ks (by omega) (fun k ab=>by
   obtain⟨i,hi⟩:=L5.1 ab;have:=Zb1 hi;exact ZjQ n k (J0 hn hi) (by simp only[nL] at aa;omega))
  rw[Zd.enc_mk];refine cE ?_;simp +contextual -implicitDefEqProofs (maxSteps:=10^7) only[go_sem,seval,↓gZ,Zi3,e1,bNe,bne_self_eq_false]
theorem Zqo (o a q:Int) (t:Bool) (ks:List Zd) (h:nL ks≤1048576):Zf Xs Ms VY [.d (.agg [J o,J a,J q,.bool t,.sl (ks.map Zd.enc)]),.d (.agg [J o,J a,J q,.bool t,.sl (ks.map Zd.enc)])] []=some ((.d (.bool true)),[]):=by
 have:=ZjQ _ (.mk o a q t ks) (Kk _) (by simp only[Zd.nodes,nL] at h ⊢;omega)
 rwa [Zd.enc_mk] at this
mutual
def ZuP:Zd→Int→Zd
 | .mk _ _ _ _ ks,k=>.mk k (k+1) (k+1+1) (decide ((k+1+1+1).tmod 3=0)) (Ze9 ks (k+1+1+1+1))
def Ze9:List Zd→Int→List Zd
 | [],_=>[]
 | p :: r,k=>ZuP p k :: Ze9 r (k+((4*p.nodes:Nat):Int))
end
def plC (p:Zd):Nat:=4*p.nodes
theorem Zob:∀ (l:List Zd) (k:Int),Ze9 l k=ZaR ZuP plC l k
 | [],_=>by rw[Ze9];rfl
 | p :: r,k=>by rw[Ze9,ZaR,Zob r];rfl
theorem ZqS:∀ l:List Zd,Zo plC l=4*nL l
 | []=>rfl
 | p :: r=>by rw[Zo,ZqS r];simp only[plC,nL,Zd.nodes.nodesL];omega
theorem Zoc (ks:List Zd) (hk:nL ks≤4194304) (ih:∀ x∈ks,∀ o a p t kk,x=.mk o a p t kk→∀ K:Int,0≤K→K+((4*nL kk:Nat):Int)≤281474976710656→Zf Xs Ms ZV [.own 0,(.d (J K))] [.tree 5 5 (kk.map Zd.enc) none]=some ((.d (J (K+((4*nL kk:Nat):Int)))),[.tree 5 5 ((Ze9 kk K).map Zd.enc) none])) (k:Int) (h0:0≤k) (h1:k+((4*nL ks:Nat):Int)≤281474976710656) :
  Zf Xs Ms ZV [.own 0,(.d (J k))] [.tree 5 5 (ks.map Zd.enc) none]=some ((.d (J (k+((4*nL ks:Nat):Int)))),[.tree 5 5 ((Ze9 ks k).map Zd.enc) none]):=by
 have af:=ZqS ks;have am:=Zr6 ks;refine cE ?_;simp +contextual -implicitDefEqProofs (maxSteps:=10^7) only[go_sem,seval,↓gZ,ZcK];refine YC Xs Ms (st0:=?st0) (α:=Nat) (fun i=>[(5,.d (J (i:Int))),(1,.d (J (k+(Zo plC (ks.take i):Nat))))]) (fun i=>[(0,.tree 5 5 ((ZjL ZuP plC k ks i).map Zd.enc) none)]) (fun i=>i≤ks.length) (fun i=>ks.length-i) 0 ?hc (by omega) ?h0 ?step
 case hc=>simp +contextual -implicitDefEqProofs (maxSteps:=10^7) only[go_sem,seval,↓gZ]<;>exact rfl
 case h0=>simp only[Zlh,Kaa,Zo,Ld,Lz];rfl
 case step=>
  intro i hi ag;have ah:=Zn7 ZuP plC k hi;have an:=XO plC ks i;by_cases ad:i<ks.length
  ·obtain⟨x,hx⟩:=Zr ad;have aa : (i:Int)<(ks.length:Int):=by omega
   have w1:=Zj (k:=i) (by omega);have hg:=Zn8 ZuP plC k hx;have hs:=Zlg Zd.enc ZuP plC k hx;have ai:=ZdW (c:=plC) hx;have aj:=XO plC ks (i+1);have ak:=ih x (Kb hx);obtain⟨o,a,p,t,kk⟩:=x;have al:plC (.mk o a p t kk)=4+4*nL kk:=by simp only[plC,Zd.nodes,nL];omega
   have ae:k+(Zo plC (ks.take (i+1)):Nat)=k+(Zo plC (ks.take i):Nat)+1+1+1+1+((4*nL kk:Nat):Int):=by rw[ai,al];push_cast;omega
   generalize hK:k+(Zo plC (ks.take i):Nat)=K at hs ae ⊢;have e1:=ak o a p t kk rfl (K+1+1+1+1) (by omega) (by omega);have v1:=wi (K+1) (by omega) (by omega);have v2:=wi (K+1+1) (by omega) (by omega);have v3:=wi (K+1+1+1) (by omega) (by omega);have v4:=wi (K+1+1+1+1) (by omega) (by omega);simp only[ZuP,Zd.enc_mk] at hs;generalize nL kk=nk at *;simp +contextual -implicitDefEqProofs (maxSteps:=10^7) only[go_sem,seval,↓gZ,aa,ad,hg,w1,ah,v1,v2,v3,v4,e1,LF,KM,Kan];refine ag (i+1) _ (by omega) (by omega) ?_;simp +contextual -implicitDefEqProofs (maxSteps:=10^7) only[go_sem,seval,↓gZ,hs,ae]
  ·have:i=ks.length:=by omega
   subst this;rw[Zn9,LU,af,← Zob];have ab:(Ze9 ks k).length=ks.length:=by rw[Zob,Zah]
   generalize nL ks=nk at *;simp +contextual -implicitDefEqProofs (maxSteps:=10^7) only[go_sem,seval,↓gZ,ab]
theorem ZaD:∀ (n:Nat) (ks:List Zd),nL ks≤n→nL ks≤4194304→∀ k:Int,0≤k→k+((4*nL ks:Nat):Int)≤281474976710656→Zf Xs Ms ZV [.own 0,(.d (J k))] [.tree 5 5 (ks.map Zd.enc) none]=some ((.d (J (k+((4*nL ks:Nat):Int)))),[.tree 5 5 ((Ze9 ks k).map Zd.enc) none])
 | n,ks,hn,hb,k,h0,h1=>Zoc ks hb (fun x hx o a p t kk he K g0 g1=>by
   obtain⟨i,hi⟩:=L5.1 hx;have hy:=Zb1 hi;subst he;have aa:nL kk<nL ks:=by simp only[Zd.nodes,nL] at hy ⊢;omega
   match n,hn with
   | 0,hn=>omega
   | n+1,hn=>exact ZaD n kk (by omega) (by omega) K g0 (by omega)) k h0 h1
theorem Zqp (o a p:Int) (t:Bool) (ks:List Zd) (hk:nL ks≤4194304) (k:Int) (h0:0≤k) (h1:k≤1099511627776):Zf Xs Ms Qv [.agg [(.d (J o)),(.d (J a)),(.d (J p)),(.d (.bool t)),.own 0],(.d (J k))] [.tree 5 5 (ks.map Zd.enc) none]=some ((.d (J (k+((4*nL ks:Nat):Int)))),[.tree 5 5 ((Ze9 ks k).map Zd.enc) none]):=by
 have e1:=ZaD _ ks (Kk _) hk k h0 (by omega);generalize nL ks=nk at *;refine cE ?_;simp +contextual -implicitDefEqProofs (maxSteps:=10^7) only[go_sem,seval,↓gZ,Zea,e1]
end Go.Proofs.YtdhgppkldoopaaaGreat
