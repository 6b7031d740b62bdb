/- Own text. -/
import Derived.Test.YtnachaiejoflhaaBCode
import Derived.Test.YtnachaiejoflhaaAbsParts
import Derived.Test.YtnachaiejoflhaaBC4
import Derived.Test.YtnachaiejoflhaaAbsOkD
namespace Go.Proofs.Ytnachaiejoflhaa
open Go Go.Abs Go.Abs.E Go.Abs.L
open Nat (reduceMul reduceSub reduceLeDiff reduceEqDiff)
open Int (reduceLE reduceEq reduceToNat reduceNeg)
set_option linter.unusedSimpArgs false
set_option linter.unusedVariables false
set_option maxRecDepth 20000
set_option maxHeartbeats 4000000
theorem Zk3 (pL pW pH:Int) (pF:List Box) (hk:pF.length≤maxLen) (left:Int) (h0:0≤left) (hl:left≤1048576):Zi Xs Ms WT [(.d (.agg [J pL,J pW,J pH,.sl (pF.map Box.enc)])),(.d (J left))] []=some ((.d (J (szV left pF.length))),[]):=by
 have e1:=Zmw pF hk left h0 hl;by_cases hy:(pF.length:Int)≤left
 ·rw[WI hy] at e1 ⊢;have aa:¬left-(pF.length:Int)<0:=by omega
  refine cE ?_;simp +contextual -implicitDefEqProofs (maxSteps:=10^7) only[go_sem,seval,↓gZ,Js,e1,aa]
 ·rw[UU hy] at e1 ⊢;refine cE ?_;simp +contextual -implicitDefEqProofs (maxSteps:=10^7) only[go_sem,seval,↓gZ,Js,e1]
def pcSz (p:Zo):Nat:=p.Flaws.length
theorem Zk4 (pL pW pH:Int) (pF:List Box) (h:pF.length≤1048576):Zi Xs Ms XK [(.d (.agg [J pL,J pW,J pH,.sl (pF.map Box.enc)]))] []=some (.agg [(.d (J pL)),(.d (J pW)),(.d (J pH)),.own 0],[.row 4 (pF.map Box.enc) true false]):=by
 have e1:=Zmx pF h;refine cE ?_;simp +contextual -implicitDefEqProofs (maxSteps:=10^7) only[go_sem,seval,↓gZ,Zb8,e1]
def JH {α:Type} (f:α→Int→α) (c:α→Nat):List α→Int→List α
 | [],_=>[]
 | x :: r,k=>f x k :: JH f c r (k+c x)
theorem UW {α:Type} (f:α→Int→α) (c:α→Nat):∀ (l:List α) (k:Int),(JH f c l k).length=l.length
 | [],_=>rfl
 | x :: r,k=>by simp[JH,UW f c r]
theorem Zmy {α:Type} (f:α→Int→α) (c:α→Nat):∀ (l:List α) (k:Int) (i:Nat) (x:α),l[i]?=some x→(JH f c l k)[i]?=some (f x (k+(ZP c (l.take i):Nat)))
 | y :: r,k,0,x,h=>by simp only[Lo,Option.some.injEq] at h;subst h;simp[JH,ZP]
 | y :: r,k,i+1,x,h=>by
  rw[JH,Le,Zmy f c r _ i x (by simpa using h),List.take_succ_cons,ZP];congr 2;push_cast;omega
theorem ZfZ {α:Type} (f:α→Int→α) (c:α→Nat):∀ (l r:List α) (k:Int),JH f c (l++r) k=JH f c l k++JH f c r (k+(ZP c l:Nat))
 | [],r,k=>by simp[JH,ZP]
 | x :: l,r,k=>by
  rw[KJ,JH,ZfZ f c l r,JH,KJ,ZP];congr 3;push_cast;omega
theorem ZaT {α:Type} (c:α→Nat):∀ (l r:List α),ZP c (l++r)=ZP c l+ZP c r
 | [],r=>by simp[ZP]
 | x :: l,r=>by simp[ZP,ZaT c l r];omega
theorem Zdw {α:Type} {c:α→Nat} {l:List α} {i:Nat} {x:α} (h:l[i]?=some x):ZP c (l.take (i+1))=ZP c (l.take i)+c x:=by
 rw[Lw,h,ZaT];simp[ZP]
theorem X3 {α:Type} (c:α→Nat) (l:List α) (i:Nat):ZP c (l.take i)≤ZP c l:=by
 have:=ZaT c (l.take i) (l.drop i);rw[K0] at this;omega
def Zfg {α:Type} (f:α→Int→α) (c:α→Nat) (k:Int) (l:List α) (i:Nat):List α:=JH f c (l.take i) k++l.drop i
theorem Zmz {α:Type} (f:α→Int→α) (c:α→Nat) (k:Int) {l:List α} {i:Nat} (h:i≤l.length):(Zfg f c k l i).length=l.length:=by simp[Zfg,UW];omega
theorem ZmA {α:Type} (f:α→Int→α) (c:α→Nat) (k:Int) {l:List α} {i:Nat} {x:α} (h:l[i]?=some x):(Zfg f c k l i)[i]?=some x:=by
 obtain⟨h1,_⟩:=Kd.1 h;have hl:(JH f c (l.take i) k).length=i:=by rw[UW];simp;omega
 unfold Zfg;rw[Ku (by omega),hl,LM,KK];simpa using h
theorem Zj6 {α:Type} (g:α→D) (f:α→Int→α) (c:α→Nat) (k:Int) {l:List α} {i:Nat} {x:α} (h:l[i]?=some x):((Zfg f c k l i).map g).set i (g (f x (k+(ZP c (l.take i):Nat))))=(Zfg f c k l (i+1)).map g:=by
 obtain⟨h1,h2⟩:=Kd.1 h;have hl:(JH f c (l.take i) k).length=i:=by rw[UW];simp;omega
 rw[← List.map_set];congr 1;unfold Zfg;rw[List.set_append_right _ _ (by omega),hl,LM,Lw,h,ZfZ,KZ,La h1];rfl
theorem ZmB {α:Type} (f:α→Int→α) (c:α→Nat) (k:Int) (l:List α):Zfg f c k l l.length=JH f c l k:=by simp[Zfg]
theorem Zj7 {α:Type} (f:α→Int→α) (c:α→Nat) (k:Int) (l:List α):Zfg f c k l 0=l:=by simp[Zfg,JH]
theorem Zb7 (pL pW pH:Int) (pF:List Box) (h:pF.length≤1099511627776):Zi Xs Ms VC [(.d (.agg [J pL,J pW,J pH,.sl (pF.map Box.enc)])),(.d (.agg [J pL,J pW,J pH,.sl (pF.map Box.enc)]))] []=some ((.d (.bool true)),[]):=by
 have e1:=ZiJ pF h;refine cE ?_;simp +contextual -implicitDefEqProofs (maxSteps:=10^7) only[go_sem,seval,↓gZ,Zb9,e1]
theorem Zf9 (ks:List Zo) (hk:ks.length≤1099511627776) (hs:∀ p∈ks,pcSz p≤1099511627776):Zi Xs Ms XP [(.d (.sl (ks.map Zo.enc))),(.d (.sl (ks.map Zo.enc)))] []=some ((.d (.bool true)),[]):=by
 refine cE ?_;simp +contextual -implicitDefEqProofs (maxSteps:=10^7) only[go_sem,seval,↓gZ,Za1];refine LO (α:=Nat) (fun k=>[(5,.d (J (k:Int)))]) (fun _=>[]) (fun k=>k≤ks.length) (fun k=>ks.length-k) 0 (by omega) ?_;intro k af ad;by_cases ab:k<ks.length
 ·obtain⟨x,hx⟩:=Qa ab;have aa : (k:Int)<(ks.length:Int):=by omega
  have w1:=ZA (k:=k) (by omega);have ae:=hs x (Kg hx);obtain⟨L,W,H,F⟩:=x;have e1:=Zb7 L W H F ae;simp +contextual -implicitDefEqProofs (maxSteps:=10^7) only[go_sem,seval,↓gZ,aa,ab,hx,w1,e1];refine ad (k+1) _ (by omega) (by omega) ?_;simp +contextual -implicitDefEqProofs (maxSteps:=10^7) only[go_sem,seval,↓gZ]
 ·have:k=ks.length:=by omega
  subst this;simp +contextual -implicitDefEqProofs (maxSteps:=10^7) only[go_sem,seval,↓gZ]
def Zk5 (p:Zo) (k:Int):Zo:=⟨k,k+1,k+1+1,mks Zab 4 p.Flaws.length (k+1+1+1)⟩
def pcN (p:Zo):Nat:=3+4*p.Flaws.length
abbrev ZoT (l:List Zo) (k:Int):List Zo:=JH Zk5 pcN l k
theorem Zga (ks:List Zo) (hk:ZP pcN ks≤1099511627776) (hl:ks.length≤1099511627776) (k:Int) (h0:0≤k) (h1:k≤562949953421312):Zi Xs Ms ZO [.own 0,(.d (J k))] [.tree 4 4 (ks.map Zo.enc) none]=some ((.d (J (k+(ZP pcN ks:Nat)))),[.tree 4 4 ((ZoT ks k).map Zo.enc) none]):=by
 refine cE ?_;simp +contextual -implicitDefEqProofs (maxSteps:=10^7) only[go_sem,seval,↓gZ,Wc];refine WF Xs Ms (st0:=?st0) (α:=Nat) (fun i=>[(5,.d (J (i:Int))),(1,.d (J (k+(ZP pcN (ks.take i):Nat))))]) (fun i=>[(0,.tree 4 4 ((Zfg Zk5 pcN k ks i).map Zo.enc) none)]) (fun i=>i≤ks.length) (fun i=>ks.length-i) 0 ?hc (by omega) ?h0 ?step
 case hc=>simp +contextual -implicitDefEqProofs (maxSteps:=10^7) only[go_sem,seval,↓gZ]<;>exact rfl
 case h0=>simp only[Zj7,LL,ZP,Lg,LF];rfl
 case step=>
  intro i hi ih;have ae:=Zmz Zk5 pcN k hi;have ai:=X3 pcN ks i;by_cases ab:i<ks.length
  ·obtain⟨x,hx⟩:=Qa ab;have aa : (i:Int)<(ks.length:Int):=by omega
   have w1:=ZA (k:=i) (by omega);have hg:=ZmA Zk5 pcN k hx;have hs:=Zj6 Zo.enc Zk5 pcN k hx;have af:=Zdw (c:=pcN) hx;have ag:=X3 pcN ks (i+1);obtain⟨L,W,H,F⟩:=x;have ah:pcN ⟨L,W,H,F⟩=3+4*F.length:=rfl;have ad:k+(ZP pcN (ks.take (i+1)):Nat)=k+(ZP pcN (ks.take i):Nat)+1+1+1+((4*F.length:Nat):Int):=by rw[af,ah];push_cast;omega
   generalize hK:k+(ZP pcN (ks.take i):Nat)=K at hs ad ⊢;have e1:=ZcZ F (by omega) (K+1+1+1) (by omega) (by omega);have a1:=aF (l:=F) (g:=Box.enc) fun _=>rfl;have a2:=aF (l:=mks Zab 4 F.length (K+1+1+1)) (g:=Box.enc) fun _=>rfl;have v1:=wi (K+1) (by omega) (by omega);have v2:=wi (K+1+1) (by omega) (by omega);have v3:=wi (K+1+1+1) (by omega) (by omega);simp only[Zk5,Zo.enc] at hs;simp +contextual -implicitDefEqProofs (maxSteps:=10^7) only[go_sem,seval,↓gZ,aa,ab,hg,w1,ae,v1,v2,v3,e1,a1,a2,List.length_set,KO,List.set_set];refine ih (i+1) _ (by omega) (by omega) ?_;simp +contextual -implicitDefEqProofs (maxSteps:=10^7) only[go_sem,seval,↓gZ,hs,ad]
  ·have:i=ks.length:=by omega
   subst this;rw[ZmB,List.take_length];simp +contextual -implicitDefEqProofs (maxSteps:=10^7) only[go_sem,seval,↓gZ,UW]
theorem Zh6 (pL pW pH:Int) (pF:List Box) (hk:pF.length≤1099511627776) (k:Int) (h0:0≤k) (h1:k≤562949953421312):Zi Xs Ms Z0 [.agg [(.d (J pL)),(.d (J pW)),(.d (J pH)),.own 0],(.d (J k))] [.row 4 (pF.map Box.enc) true false]=some ((.d (J (k+((4*pF.length:Nat):Int)))),[.row 4 ((mks Zab 4 pF.length k).map Box.enc) true false]):=by
 have e1:=ZcZ pF hk k h0 (by omega);refine cE ?_;simp +contextual -implicitDefEqProofs (maxSteps:=10^7) only[go_sem,seval,↓gZ,JI,e1]
theorem Zj8:∀ l:List Zo,ZP pcN l=3*l.length+4*ZP pcSz l
 | []=>rfl
 | p :: r=>by rw[ZP,Zj8 r,ZP];simp only[pcN,pcSz,Kp];omega
theorem Zgb (ks:List Zo) (hk:ZP pcN ks≤1099511627776) (hl:ks.length≤1099511627776) (k:Int) (h0:0≤k) (h1:k≤562949953421312):Zi Xs Ms XF [.d (.sl ((ZoT ks k).map Zo.enc)),(.d (J k))] []=some ((.d (J (k+(ZP pcN ks:Nat)))),[]):=by
 have ab:=UW Zk5 pcN ks k;refine cE ?_;simp +contextual -implicitDefEqProofs (maxSteps:=10^7) only[go_sem,seval,↓gZ,U6];refine WF Xs Ms (st0:=?st0) (α:=Nat) (fun i=>[(5,.d (J (i:Int))),(1,.d (J (k+(ZP pcN (ks.take i):Nat))))]) (fun _=>[]) (fun i=>i≤ks.length) (fun i=>ks.length-i) 0 ?hc (by omega) ?h0 ?step
 case hc=>simp +contextual -implicitDefEqProofs (maxSteps:=10^7) only[go_sem,seval,↓gZ]<;>exact rfl
 case h0=>simp only[LL,ZP,Lg,LF];rfl
 case step=>
  intro i hi ih;have ai:=X3 pcN ks i;by_cases ad:i<ks.length
  ·obtain⟨x,hx⟩:=Qa ad;have aa : (i:Int)<(ks.length:Int):=by omega
   have w1:=ZA (k:=i) (by omega);have hg:=Zmy Zk5 pcN ks k i x hx;have af:=Zdw (c:=pcN) hx;have ag:=X3 pcN ks (i+1);obtain⟨L,W,H,F⟩:=x;have ah:pcN ⟨L,W,H,F⟩=3+4*F.length:=rfl;have ae:k+(ZP pcN (ks.take (i+1)):Nat)=k+(ZP pcN (ks.take i):Nat)+1+1+1+((4*F.length:Nat):Int):=by rw[af,ah];push_cast;omega
   generalize hK:k+(ZP pcN (ks.take i):Nat)=K at hg ae ⊢;have e1:=ZiK F.length (by omega) (K+1+1+1) (by omega) (by omega);have n1:¬K+1+1+1+((4*F.length:Nat):Int)<0:=by omega
   have v1:=wi (K+1) (by omega) (by omega);have v2:=wi (K+1+1) (by omega) (by omega);have v3:=wi (K+1+1+1) (by omega) (by omega);simp only[Zk5] at hg;simp +contextual -implicitDefEqProofs (maxSteps:=10^7) only[go_sem,seval,↓gZ,aa,ad,hg,w1,ab,v1,v2,v3,e1,n1];refine ih (i+1) _ (by omega) (by omega) ?_;simp +contextual -implicitDefEqProofs (maxSteps:=10^7) only[go_sem,seval,↓gZ,ae]
  ·have:i=ks.length:=by omega
   subst this;rw[List.take_length];simp +contextual -implicitDefEqProofs (maxSteps:=10^7) only[go_sem,seval,↓gZ,ab]
theorem ZmC (kW kH:Int) (kP:List Pane) (hk:kP.length≤maxLen) (left:Int) (h0:0≤left) (hl:left≤1048576):Zi Xs Ms UY [(.d (.agg [J kW,J kH,.sl (kP.map Pane.enc)])),(.d (J left))] []=some ((.d (J (szV left kP.length))),[]):=by
 have e1:=Zk1 kP hk left h0 hl;by_cases hy:(kP.length:Int)≤left
 ·rw[WI hy] at e1 ⊢;have aa:¬left-(kP.length:Int)<0:=by omega
  refine cE ?_;simp +contextual -implicitDefEqProofs (maxSteps:=10^7) only[go_sem,seval,↓gZ,ZaW,e1,aa]
 ·rw[UU hy] at e1 ⊢;refine cE ?_;simp +contextual -implicitDefEqProofs (maxSteps:=10^7) only[go_sem,seval,↓gZ,ZaW,e1]
theorem ZmD (kW kH:Int) (kP:List Pane) (h:kP.length≤1048576):Zi Xs Ms YB [(.d (.agg [J kW,J kH,.sl (kP.map Pane.enc)]))] []=some (.agg [(.d (J kW)),(.d (J kH)),.own 0],[.row 4 (kP.map Pane.enc) true false]):=by
 have e1:=Zk2 kP h;refine cE ?_;simp +contextual -implicitDefEqProofs (maxSteps:=10^7) only[go_sem,seval,↓gZ,Zdy,e1]
theorem ZiL (kW kH:Int) (kP:List Pane) (h:kP.length≤1099511627776):Zi Xs Ms UX [(.d (.agg [J kW,J kH,.sl (kP.map Pane.enc)])),(.d (.agg [J kW,J kH,.sl (kP.map Pane.enc)]))] []=some ((.d (.bool true)),[]):=by
 have e1:=Zh4 kP h;refine cE ?_;simp +contextual -implicitDefEqProofs (maxSteps:=10^7) only[go_sem,seval,↓gZ,Zdx,e1]
theorem ZiM (kW kH:Int) (kP:List Pane) (hk:kP.length≤1099511627776) (k:Int) (h0:0≤k) (h1:k≤562949953421312):Zi Xs Ms Qk [.agg [(.d (J kW)),(.d (J kH)),.own 0],(.d (J k))] [.row 4 (kP.map Pane.enc) true false]=some ((.d (J (k+((4*kP.length:Nat):Int)))),[.row 4 ((mks Zdu 4 kP.length k).map Pane.enc) true false]):=by
 have e1:=Zh5 kP hk k h0 (by omega);refine cE ?_;simp +contextual -implicitDefEqProofs (maxSteps:=10^7) only[go_sem,seval,↓gZ,ZaV,e1]
end Go.Proofs.Ytnachaiejoflhaa
