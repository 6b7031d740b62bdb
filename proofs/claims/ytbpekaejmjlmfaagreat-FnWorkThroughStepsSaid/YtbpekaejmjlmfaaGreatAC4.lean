/- Own text. -/
import Derived.Test.YtbpekaejmjlmfaaGreatACode
import Derived.Test.YtbpekaejmjlmfaaGreatAbsParts
import Derived.Test.YtbpekaejmjlmfaaGreatAC2
import Derived.Test.YtbpekaejmjlmfaaGreatAC3
import Derived.Test.YtbpekaejmjlmfaaGreatAC1
namespace Go.Proofs.YtbpekaejmjlmfaaGreat
open Go Go.Abs Go.Abs.E Go.Abs.L
open Nat (reduceMul reduceSub reduceLeDiff reduceEqDiff)
open Int (reduceLE reduceEq reduceToNat reduceNeg)
set_option linter.unusedSimpArgs false
set_option linter.unusedVariables false
set_option maxRecDepth 20000
set_option maxHeartbeats 4000000
def XC:Int→List Zb→Prop
 | _,[]=>True
 | b,x :: l=>VPc x∧b<x.Label∧XC x.Label l
instance sortFdec:∀ (b:Int) (l:List Zb),Decidable (XC b l)
 | _,[]=>.isTrue trivial
 | b,x :: l=>by unfold XC;exact @instDecidableAnd _ _ _ (@instDecidableAnd _ _ _ (sortFdec x.Label l))
def VSt (l:List Zb):Prop:=l.length≤20∧XC 0 l
instance (l:List Zb):Decidable (VSt l):=by unfold VSt;infer_instance
theorem Zo3 {l:List Zb} {k:Nat} {x:Zb} {b:Int} (hx:l[k]?=some x):XC b (l.drop k)↔VPc x∧b<x.Label∧XC x.Label (l.drop (k+1)):=by
 obtain⟨h1,h2⟩:=Kc.1 hx;rw[Ku h1,h2,XC]
theorem ZsM {l:List Zb} {b:Int}:XC b (l.drop l.length):=by simp[XC]
theorem YH (l:List Zb):Zd Xs Ms Xh [(.d (.sl (l.map Zb.enc)))] []=some ((.d (.bool (decide (VSt l)))),[]):=by
 by_cases ab:(20:Int)<(l.length:Int)
 ·have hn:¬VSt l:=fun h=>by have:=h.1;omega
  refine cE ?_;simp +contextual -implicitDefEqProofs (maxSteps:=10^7) only[go_sem,seval,↓gZ,ZaE,ab,hn]
 ·have ad:l.length≤20:=by omega
  refine cE ?_;simp +contextual -implicitDefEqProofs (maxSteps:=10^7) only[go_sem,seval,↓gZ,ZaE,ab];refine LO (α:=Nat×Int) (fun s=>[(11,.d (J (s.1:Int))),(3,.d (J s.2))]) (fun _=>[]) (fun s=>s.1≤l.length∧(XC 0 l↔XC s.2 (l.drop s.1))) (fun s=>l.length-s.1) (0,0) ⟨by simp,by simp⟩ ?_;intro⟨i,b⟩ ⟨hi,hp⟩ ih;simp only at hi hp;by_cases aa:i<l.length
  ·obtain⟨x,hx⟩:=Zl aa;have hw:=Zh (k:=i) (by omega);rw[Zo3 hx] at hp;have ev:=QY x.Label x.W x.H x.Flaws;obtain⟨L,W,H,F⟩:=x;simp only at hp ev;by_cases hv:VPc ⟨L,W,H,F⟩
   ·rw[Ke hv] at ev;by_cases hb:L≤b
    ·have hn:¬VSt l:=fun h=>by have:=(hp.1 h.2).2.1;omega
     simp +contextual -implicitDefEqProofs (maxSteps:=10^7) only[go_sem,seval,↓gZ,hx,aa,hw,ev,hb,hn]
    ·simp +contextual -implicitDefEqProofs (maxSteps:=10^7) only[go_sem,seval,↓gZ,hx,aa,hw,ev,hb];refine ih (i+1,L) _ ⟨by simp only;omega,?_⟩ (by simp only;omega) ?_
     ·rw[hp];exact⟨fun h=>h.2.2,fun h=>⟨hv,by omega,h⟩⟩
     ·simp +contextual -implicitDefEqProofs (maxSteps:=10^7) only[go_sem,seval,↓gZ]
   ·rw[Kh hv] at ev;have hn:¬VSt l:=fun h=>hv (hp.1 h.2).1;simp +contextual -implicitDefEqProofs (maxSteps:=10^7) only[go_sem,seval,↓gZ,hx,aa,hw,ev,hn]
  ·have:i=l.length:=by omega
   subst this;have hy:VSt l:=⟨ad,hp.2 ZsM⟩
   simp +contextual -implicitDefEqProofs (maxSteps:=10^7) only[go_sem,seval,↓gZ,hy]
def Zkk (l:List Zb):Nat→Int
 | 0=>0
 | j+1=>match l[j]? with
  | some x=>x.Label
  | none=>0
theorem YI (l:List Zb) (hl:l.length<4611686018427387904) (hS:∀ x∈l,x.Flaws.length<4611686018427387904∧R64 x.W∧R64 x.H):Zd Xs Ms QW [(.d (.sl (l.map Zb.enc)))] []=some ((.d (.bool (decide (VSt l)))),[]):=by
 refine cE ?_;simp +contextual -implicitDefEqProofs (maxSteps:=10^7) only[go_sem,seval,↓gZ,Zdk];refine LO (α:=Nat) (fun i=>[(3,.d (J (i:Int)))]) (fun _=>[]) (fun i=>i≤l.length∧(XC 0 l↔XC (Zkk l i) (l.drop i))) (fun i=>l.length-i) 0 ⟨by simp,by simp[Zkk]⟩ ?_;intro i ⟨hi,hp⟩ ih;by_cases aa:i<l.length
 ·obtain⟨x,hx⟩:=Zl aa;have hw:=Zh (k:=i) (by omega);rw[Zo3 hx] at hp;obtain⟨ag,ah,ai⟩:=hS x (Kb hx);have ev:=ZgP x.Label x.W x.H x.Flaws ag ah ai;have ad:Zkk l (i+1)=x.Label:=by simp only[Zkk,hx]
  obtain⟨L,W,H,F⟩:=x;simp only at hp ev ad;by_cases hv:VPc ⟨L,W,H,F⟩
  ·rw[Ke hv] at ev;have hL:1≤L:=hv.1.1;cases i with
   | zero=>
    have ae : (0:Int)<(l.length:Int):=by omega
    simp +contextual -implicitDefEqProofs (maxSteps:=10^7) only[go_sem,seval,↓gZ,hx,aa,ae,hw,ev];refine ih 1 _ ⟨by omega,?_⟩ (by omega) ?_
    ·rw[hp,ad];exact⟨fun h=>h.2.2,fun h=>⟨hv,by simp only[Zkk];omega,h⟩⟩
    ·simp +contextual -implicitDefEqProofs (maxSteps:=10^7) only[go_sem,seval,↓gZ]
   | succ j=>
    obtain⟨y,hy⟩:=Zl (l:=l) (k:=j) (by omega);have aj:Zkk l (j+1)=y.Label:=by simp only[Zkk,hy]
    rw[aj] at hp;have hj:IntKind.i64.wrap (((j+1:Nat):Int)-1)=(j:Int):=by rw[U1 (by omega) (by omega)];omega
    have ab:(0:Int)<((j+1:Nat):Int):=by omega
    have af:j<l.length:=by omega
    obtain⟨L',W',H',F'⟩:=y;simp only at hp;by_cases hb:L≤L'
    ·have hn:¬VSt l:=fun h=>by have:=(hp.1 h.2).2.1;omega
     simp +contextual -implicitDefEqProofs (maxSteps:=10^7) only[go_sem,seval,↓gZ,hx,aa,hw,ev,ab,hj,af,hy,hb,hn]
    ·simp +contextual -implicitDefEqProofs (maxSteps:=10^7) only[go_sem,seval,↓gZ,hx,aa,hw,ev,ab,hj,af,hy,hb];refine ih (j+1+1) _ ⟨by omega,?_⟩ (by omega) ?_
     ·rw[hp,ad];exact⟨fun h=>h.2.2,fun h=>⟨hv,by omega,h⟩⟩
     ·simp +contextual -implicitDefEqProofs (maxSteps:=10^7) only[go_sem,seval,↓gZ]
  ·rw[Kh hv] at ev;have hn:¬VSt l:=fun h=>hv (hp.1 h.2).1;simp +contextual -implicitDefEqProofs (maxSteps:=10^7) only[go_sem,seval,↓gZ,hx,aa,hw,ev,hn]
 ·have:i=l.length:=by omega
  subst this;have hs:=hp.2 ZsM;simp +contextual -implicitDefEqProofs (maxSteps:=10^7) only[go_sem,seval,↓gZ];exact Zcn (by simp only[VSt];constructor<;>(intro h;first | exact⟨by omega,hs⟩ | (have:=h.1;omega)))
def QB:Nat→List Zb→Int→Int
 | _,[],_=>-1
 | k,x :: l,n=>if x.Label=n then (k:Int) else QB (k+1) l n
theorem ZsN {l:List Zb} {k:Nat} {x:Zb} {n:Int} (hx:l[k]?=some x):QB k (l.drop k) n=if x.Label=n then (k:Int) else QB (k+1) (l.drop (k+1)) n:=by
 obtain⟨h1,h2⟩:=Kc.1 hx;rw[Ku h1,h2,QB]
theorem ZlB (qL qW qH:Int) (qF:List Box) (n:Int):Zd Xs Ms YN [(.d (.agg [J qL,J qW,J qH,.sl (qF.map Box.enc)])),.ptr 0 0] [.box [(.d (J n))]]=some ((.d (.bool (decide (qL=n)))),[.box [(.d (J n))]]):=by
 refine cE ?_;simp +contextual -implicitDefEqProofs (maxSteps:=10^7) only[go_sem,seval,↓gZ,Zcd]
theorem Zua (l:List Zb) (n:Int) (hl:l.length<4611686018427387904):Zd Xs Ms XX [(.d (.sl (l.map Zb.enc))),.clo YN [.ptr 0 0]] [.box [(.d (J n))]]=some ((.d (J (QB 0 l n))),[.box [(.d (J n))]]):=by
 refine cE ?_;simp +contextual -implicitDefEqProofs (maxSteps:=10^7) only[go_sem,seval,↓gZ,W9];refine LO (α:=Nat) (fun k=>[(8,.d (J (k:Int)))]) (fun _=>[]) (fun k=>k≤l.length∧QB k (l.drop k) n=QB 0 l n) (fun k=>l.length-k) 0 ⟨by omega,rfl⟩ ?_;intro k ⟨hk,hp⟩ ih;by_cases aa:k<l.length
 ·obtain⟨x,hx⟩:=Zl aa;rw[ZsN hx] at hp;have hw:=Zh (k:=k) (by omega);have e1:=ZlB x.Label x.W x.H x.Flaws n;obtain⟨L,W,H,F⟩:=x;simp only at hp e1;by_cases h:L=n
  ·rw[Kl h] at hp;rw[Ke h] at e1;simp +contextual -implicitDefEqProofs (maxSteps:=10^7) only[go_sem,seval,↓gZ,hx,aa,hw,e1];rw[← hp]
  ·rw[Ki h] at hp;rw[Kh h] at e1;simp +contextual -implicitDefEqProofs (maxSteps:=10^7) only[go_sem,seval,↓gZ,hx,aa,hw,e1];refine ih (k+1) _ ⟨by omega,hp⟩ (by omega) ?_;simp +contextual -implicitDefEqProofs (maxSteps:=10^7) only[go_sem,seval,↓gZ]
 ·have:k=l.length:=by omega
  subst this;simp +contextual -implicitDefEqProofs (maxSteps:=10^7) only[go_sem,seval,↓gZ];rw[← hp];simp[QB]
theorem Yu (l:List Zb) (n:Int) (hl:l.length<4611686018427387904):Zd Xs Ms XG [(.d (.sl (l.map Zb.enc))),(.d (J n))] []=some ((.d (J (QB 0 l n))),[]):=by
 refine cE ?_;simp +contextual -implicitDefEqProofs (maxSteps:=10^7) only[go_sem,seval,↓gZ,Zez,Zua l n hl]
theorem Yv (l:List Zb) (n:Int) (hl:l.length<4611686018427387904):Zd Xs Ms XI [(.d (.sl (l.map Zb.enc))),(.d (J n))] []=some ((.d (J (QB 0 l n))),[]):=by
 refine cE ?_;simp +contextual -implicitDefEqProofs (maxSteps:=10^7) only[go_sem,seval,↓gZ,ZeF];refine LO (α:=Nat) (fun k=>[(5,.d (J (k:Int)))]) (fun _=>[]) (fun k=>k≤l.length∧QB k (l.drop k) n=QB 0 l n) (fun k=>l.length-k) 0 ⟨by omega,rfl⟩ ?_;intro k ⟨hk,hp⟩ ih;by_cases aa:k<l.length
 ·obtain⟨x,hx⟩:=Zl aa;rw[ZsN hx] at hp;have hw:=Zh (k:=k) (by omega);obtain⟨L,W,H,F⟩:=x;simp only at hp;by_cases h:L=n
  ·rw[Kl h] at hp;simp +contextual -implicitDefEqProofs (maxSteps:=10^7) only[go_sem,seval,↓gZ,hx,aa,hw,h];rw[← hp]
  ·rw[Ki h] at hp;simp +contextual -implicitDefEqProofs (maxSteps:=10^7) only[go_sem,seval,↓gZ,hx,aa,hw,h];refine ih (k+1) _ ⟨by omega,hp⟩ (by omega) ?_;simp +contextual -implicitDefEqProofs (maxSteps:=10^7) only[go_sem,seval,↓gZ]
 ·have:k=l.length:=by omega
  subst this;simp +contextual -implicitDefEqProofs (maxSteps:=10^7) only[go_sem,seval,↓gZ];rw[← hp];simp[QB]
theorem Zad (qL qW qH:Int) (qF:List Box) (hF:qF.length≤1048576):Zd Xs Ms XJ [(.d (.agg [J qL,J qW,J qH,.sl (qF.map Box.enc)]))] []=some (.agg [(.d (J qL)),(.d (J qW)),(.d (J qH)),.own 0],[.row 4 (qF.map Box.enc) true false]):=by
 have hr:qF.length*32≤140737488355328∧qF.length≤140737488355328:=by omega
 refine cE ?_;simp +contextual -implicitDefEqProofs (maxSteps:=10^7) only[go_sem,seval,↓gZ,ZeH,hr]
theorem Vn (qL qW qH:Int) (qF:List Box) (hF:qF.length≤1048576):Zd Xs Ms XK [(.d (.agg [J qL,J qW,J qH,.sl (qF.map Box.enc)]))] []=some (.agg [(.d (J qL)),(.d (J qW)),(.d (J qH)),.own 0],[.row 4 (qF.map Box.enc) true false]):=by
 have hr:qF.length*32≤140737488355328∧qF.length≤140737488355328:=by omega
 refine cE ?_;simp +contextual -implicitDefEqProofs (maxSteps:=10^7) only[go_sem,seval,↓gZ,ZeL,hr]
theorem Zc2:∀ (F:List Box),Za7 D.flat (F.map Box.enc)=true
 | []=>rfl
 | x :: F=>by simp only[Ko,Za7,Zc2 F,Kae];rfl
theorem Zc3 (l:List Zb) (hl:l.length≤1048576) (hF:∀ x∈l,x.Flaws.length≤1048576):Zd Xs Ms Y7 [(.d (.sl (l.map Zb.enc)))] []=some (.own 0,[.tree 4 4 (l.map Zb.enc) none]):=by
 refine cE ?_;simp +contextual -implicitDefEqProofs (maxSteps:=10^7) only[go_sem,seval,↓gZ,ZeC];refine LO (α:=Nat) (fun i=>[(8,.d (J (i:Int)))]) (fun i=>[(0,.tree 4 4 ((l.take i).map Zb.enc) none)]) (fun i=>i≤l.length) (fun i=>l.length-i) 0 (by omega) ?_;intro i hi ih;by_cases aa:i<l.length
 ·obtain⟨x,hx⟩:=Zl aa;have hw:=Zh (k:=i) (by omega);have hm:l.take (i+1)=l.take i++[x]:=by rw[Kw,hx];simp
  have ad:(l.take i).length≤i:=by simp;omega
  have hr:((l.take i).length+1)*48≤140737488355328∧(l.take i).length≤140737488355327:=by omega
  have e:=Zad x.Label x.W x.H x.Flaws (hF x (Kb hx));obtain⟨L,W,H,F⟩:=x;simp only at e;have ab:=Zc2 F;simp +contextual -implicitDefEqProofs (maxSteps:=10^7) only[go_sem,seval,↓gZ,hx,aa,hw,e,hr,ab];refine ih (i+1) _ (by omega) (by omega) ?_;simp +contextual -implicitDefEqProofs (maxSteps:=10^7) only[go_sem,seval,↓gZ,hm]
  first | rfl | (simp;done) | (simp;rfl)
 ·have:i=l.length:=by omega
  subst this;simp +contextual -implicitDefEqProofs (maxSteps:=10^7) only[go_sem,seval,↓gZ];simp
theorem Zxv {α:Type} {l:List α} {i a:Nat} {x:α} (hx:l[i]?=some x) (h:i≠a):(l.take (i+1)).eraseIdx a=(l.take i).eraseIdx a++[x]:=by
 have h1:=(Kc.1 hx).1;have e:l.take (i+1)=l.take i++[x]:=by rw[Kw,hx];simp
 rw[e];have hl:(l.take i).length=i:=by simp;omega
 rcases K9 a i with h2 | h2
 ·rw[List.eraseIdx_append_of_lt_length (by omega)]
 ·rw[Kak (by simp;omega),Kak (by omega)]
theorem Zxw {α:Type} {l:List α} {i:Nat} {x:α} (hx:l[i]?=some x):(l.take (i+1)).eraseIdx i=(l.take i).eraseIdx i:=by
 have h1:=(Kc.1 hx).1;have e:l.take (i+1)=l.take i++[x]:=by rw[Kw,hx];simp
 have hl:(l.take i).length=i:=by simp;omega
 rw[e,List.eraseIdx_append_of_length_le (by omega),hl];simp;rw[Kak (by omega)]
theorem ZlC {α:Type} (l:List α) (a:Nat):(l.eraseIdx a).length≤l.length:=by
 have:=List.length_eraseIdx_le l a;omega
theorem ZfE (l:List Zb) (a:Nat) (hl:l.length≤1048576) (hF:∀ x∈l,x.Flaws.length≤1048576):Zd Xs Ms VM [(.d (.sl (l.map Zb.enc))),(.d (J a))] []=some (.own 0,[.row 4 ((l.eraseIdx a).map Zb.enc) true false]):=by
 refine cE ?_;simp +contextual -implicitDefEqProofs (maxSteps:=10^7) only[go_sem,seval,↓gZ,Zd6];refine LO (α:=Nat) (fun i=>[(6,.d (J (i:Int)))]) (fun i=>[(0,.row 4 (((l.take i).eraseIdx a).map Zb.enc) true false)]) (fun i=>i≤l.length) (fun i=>l.length-i) 0 (by omega) ?_;intro i hi ih;by_cases aa:i<l.length
 ·obtain⟨x,hx⟩:=Zl aa;have hw:=Zh (k:=i) (by omega);by_cases ab:i=a
  ·subst ab;have hm:=Zxw hx;simp +contextual -implicitDefEqProofs (maxSteps:=10^7) only[go_sem,seval,↓gZ,hx,aa,hw];refine ih (i+1) _ (by omega) (by omega) ?_;simp +contextual -implicitDefEqProofs (maxSteps:=10^7) only[go_sem,seval,↓gZ,hm]
  ·have hm:=Zxv hx ab;have ad:((l.take i).eraseIdx a).length≤i:=Kt (ZlC _ _) (by simp;omega);have hr:(((l.take i).eraseIdx a).length+1)*48≤140737488355328∧((l.take i).eraseIdx a).length≤140737488355327:=by omega
   have e:=Vn x.Label x.W x.H x.Flaws (hF x (Kb hx));obtain⟨L,W,H,F⟩:=x;simp only at e;simp +contextual -implicitDefEqProofs (maxSteps:=10^7) only[go_sem,seval,↓gZ,hx,aa,hw,ab,e,hr];refine ih (i+1) _ (by omega) (by omega) ?_;simp +contextual -implicitDefEqProofs (maxSteps:=10^7) only[go_sem,seval,↓gZ,hm]
   first | rfl | (simp;done) | (simp;rfl)
 ·have:i=l.length:=by omega
  subst this;simp +contextual -implicitDefEqProofs (maxSteps:=10^7) only[go_sem,seval,↓gZ];simp
def V6 (l:List Zb):Int:=Zkk l l.length
theorem ZlD {l:List Zb} {x:Zb} (hx:l[l.length-1]?=some x):V6 l=x.Label:=by
 have h:=(Kc.1 hx).1;unfold V6;obtain⟨n,hn⟩:∃ n,l.length=n+1:=⟨l.length-1,by omega⟩
 rw[hn] at hx ⊢;simp only[Zkk];simp only[Nat.add_sub_cancel] at hx;rw[hx]
theorem Zhd (l:List Zb) (hl:l.length<4611686018427387904):Zd Xs Ms Va [(.d (.sl (l.map Zb.enc)))] []=some ((.d (J (V6 l))),[]):=by
 by_cases h0:l.length=0
 ·have e:V6 l=0:=by unfold V6;rw[h0];rfl
  have aa : (l.length:Int)=0:=by omega
  rw[e];refine cE ?_;simp +contextual -implicitDefEqProofs (maxSteps:=10^7) only[go_sem,seval,↓gZ,ZbH,aa]
 ·obtain⟨x,hx⟩:=Zl (l:=l) (k:=l.length-1) (by omega);have e:=ZlD hx;have hn:¬(l.length:Int)=0:=by omega
  have hw:IntKind.i64.wrap ((l.length:Int)-1)=((l.length-1:Nat):Int):=by rw[U1 (by omega) (by omega)];omega
  have ab:l.length-1<l.length:=by omega
  obtain⟨L,W,H,F⟩:=x;simp only at e;refine cE ?_;simp +contextual -implicitDefEqProofs (maxSteps:=10^7) only[go_sem,seval,↓gZ,ZbH,hn,hw,hx,ab,e]
theorem Zo4:∀ (l:List Zb) (k:Nat) (n:Int),QB k l n=-1∨∃ i:Nat,QB k l n=((k+i:Nat):Int)∧i<l.length
 | [],k,n=>.inl rfl
 | x :: l,k,n=>by
  unfold QB;split
  ·exact .inr ⟨0,by simp,by simp⟩
  ·rcases Zo4 l (k+1) n with h | ⟨i,h1,h2⟩
   ·exact .inl h
   ·exact .inr ⟨i+1,by rw[h1];congr 1;omega,by simp;omega⟩
theorem Z3:∀ {l:List Zb} {b:Int},XC b l→∀ x∈l,VPc x
 | [],_,_,x,hx=>by simp at hx
 | y :: l,b,h,x,hx=>by
  rcases Kg.1 hx with rfl | hx
  ·exact h.1
  ·exact Z3 h.2.2 x hx
theorem ZcH {l:List Zb} (h:VSt l):l.length≤1048576∧∀ x∈l,x.Flaws.length≤1048576:=by
 refine⟨by have:=h.1;omega,fun x hx=>?_⟩;have:=(Z3 h.2 x hx).1.2.2.2.2.2.2;omega
theorem Zhe (l:List Zb) (n:Int) (h:¬(VSt l∧0≤QB 0 l n)):Zd Xs Ms Y9 [(.d (.sl (l.map Zb.enc))),(.d (J n))] [] =
  some (.tup [.agg [(.d (J 0)),(.d (J 0)),(.d (J 0)),.own 0],.own 1,(.d (.bool false))],[.row 4 [] true false,.row 4 [] true false]):=by
 have ev:=YH l;by_cases hv:VSt l
 ·rw[Ke hv] at ev;have hf:=Yu l n (by have:=hv.1;omega);have hn:QB 0 l n<0:=by
   rcases Int.lt_or_le (QB 0 l n) 0 with h1 | h1
   ·exact h1
   ·exact absurd ⟨hv,h1⟩ h
  refine cE ?_;simp +contextual -implicitDefEqProofs (maxSteps:=10^7) only[go_sem,seval,↓gZ,Jo,ev,hf,hn]
 ·rw[Kh hv] at ev;refine cE ?_;simp +contextual -implicitDefEqProofs (maxSteps:=10^7) only[go_sem,seval,↓gZ,Jo,ev]
theorem ZgT (l:List Zb) (n:Int) (hv:VSt l) (i:Nat) (hi:QB 0 l n=(i:Int)) (qL qW qH:Int) (qF:List Box) (hx:l[i]?=some (Zb.mk qL qW qH qF)):Zd Xs Ms Y9 [(.d (.sl (l.map Zb.enc))),(.d (J n))] [] =
  some (.tup [.agg [(.d (J qL)),(.d (J qW)),(.d (J qH)),.own 0],.own 1,(.d (.bool true))],[.row 4 (qF.map Box.enc) true false,.tree 4 4 ((l.eraseIdx i).map Zb.enc) none]):=by
 have ev:=YH l;rw[Ke hv] at ev;have ab:i<l.length:=(Kc.1 hx).1;have ad:=hv.1;obtain⟨h1,h2⟩:=ZcH hv;have hf:=Yu l n (by omega);rw[hi] at hf;have hw:=Zh (k:=i) (by omega);have c1:=Zc3 (l.take i) (by simp;omega) (fun x hx=>h2 x (K8 hx));have c2:=Zc3 (l.drop (i+1)) (by simp;omega) (fun x hx=>h2 x (LY hx));have e:=Zad qL qW qH qF (h2 (Zb.mk qL qW qH qF) (Kb hx));have hr:((l.take i).length+(l.drop (i+1)).length)*48≤140737488355328∧(l.take i).length+(l.drop (i+1)).length≤140737488355328:=by simp;omega
 have ae:i≤l.length:=by omega
 have aa:i+1≤l.length:=by omega
 have af:¬(i:Int)<0:=by omega
 rw[List.eraseIdx_eq_take_drop_succ];refine cE ?_;simp +contextual -implicitDefEqProofs (maxSteps:=10^7) only[go_sem,seval,↓gZ,Jo,Zq2,ev,hf,af,hw,hx,ab,ae,aa,c1,c2,e,hr,Lo]
theorem Zxx {b c:Int} (h:b≤c):∀ {l:List Zb},XC c l→XC b l
 | [],_=>trivial
 | x :: l,hs=>⟨hs.1,by have:=hs.2.1;omega,hs.2.2⟩
theorem Zhf:∀ {l:List Zb} {b:Int} (i:Nat),XC b l→XC b (l.eraseIdx i)
 | [],b,i,_=>by simp[XC]
 | x :: l,b,0,h=>by
  simp only[List.eraseIdx_cons_zero];exact Zxx (by have:=h.2.1;omega) h.2.2
 | x :: l,b,i+1,h=>by
  simp only[L7];exact⟨h.1,h.2.1,Zhf i h.2.2⟩
theorem ZlE:∀ {l:List Zb} {b:Int},XC b l→∀ (i j:Nat) (x y:Zb),i≤j→l[i]?=some x→l[j]?=some y→x.Label≤y.Label∧b<x.Label
 | [],b,_,i,j,x,y,_,hx,_=>by simp at hx
 | z :: l,b,h,0,0,x,y,_,hx,hy=>by
  simp at hx hy;subst hx;subst hy;exact⟨Kaa _,h.2.1⟩
 | z :: l,b,h,0,j+1,x,y,_,hx,hy=>by
  simp at hx hy;subst hx;have:=(ZlE h.2.2 j j y y (Kq _) hy hy).2;exact⟨by omega,h.2.1⟩
 | z :: l,b,h,i+1,j+1,x,y,hij,hx,hy=>by
  simp at hx hy;have:=ZlE h.2.2 i j x y (by omega) hx hy;have h2:=h.2.1;exact⟨this.1,by omega⟩
 | z :: l,b,h,i+1,0,x,y,hij,hx,hy=>by omega
theorem Zo5 {q:Zb} (hq:VPc q):∀ {L:List Box} {n c:Int},c<n→1≤n→(∀ b∈L,VB b∧ZT b ⟨0,0,q.W,q.H⟩)→(XC c (JO q n L)↔(L=[]∨(L.length:Int)≤10000-n))
 | [],n,c,_,_,_=>by simp[JO,XC]
 | b :: L,n,c,hc,h1,hb=>by
  have ih:=Zo5 hq (L:=L) (n:=n+1) (c:=n) (by omega) (by omega) (fun d hd=>hb d (by simp[hd]));have hv:VPc (Zmk q b n)↔n≤9999:=⟨fun h=>by have:=h.1.2.1;simpa [Zmk] using this,fun h=>Zyl hq (hb b (by simp)).1 (hb b (by simp)).2 h1 h⟩
  simp only[JO,XC,hv,ih];have e:(Zmk q b n).Label=n:=rfl;rw[e,ih];have hl:((b :: L).length:Int)=L.length+1:=by simp
  constructor
  ·rintro ⟨g1,g2,g3⟩
   right
   rcases g3 with rfl | g3
   ·simp only[Km,KI];omega
   ·omega
  ·rintro (g | g)
   ·cases g
   ·refine⟨by omega,hc,?_⟩;by_cases h0:L=[]
    ·exact .inl h0
    ·exact .inr (by omega)
theorem ZsO {B:List Zb} {n:Int} {Q:Prop} (hB:∀ c,c<n→(XC c B↔Q)):∀ {A:List Zb} {b:Int},XC b A→(∀ x∈A,x.Label<n)→b<n→(XC b (A++B)↔Q)
 | [],b,_,_,hb=>hB b hb
 | x :: A,b,h,hx,hb=>by
  have ih:=ZsO hB h.2.2 (fun y hy=>hx y (by simp[hy])) (hx x (by simp));simp only[KK,XC,ih];exact⟨fun g=>g.2.2,fun g=>⟨h.1,h.2.1,g⟩⟩
theorem Zo6 {l:List Zb} (hv:VSt l) (ab:0<l.length):1≤V6 l∧V6 l≤9999∧∀ x∈l,x.Label≤V6 l:=by
 obtain⟨y,hy⟩:=Zl (l:=l) (k:=l.length-1) (by omega);rw[ZlD hy];have aa:=(Z3 hv.2 y (Kb hy)).1;refine⟨aa.1,aa.2.1,fun x hx=>?_⟩;obtain⟨i,hi⟩:=LC hx;have:=(Kc.1 hi).1;exact(ZlE hv.2 i (l.length-1) x y (by omega) hi hy).1
def ZnI (l:List Zb) (i:Nat) (x:Zb) (k:Zs) (p:Ze) (Zj:Int):List Zb:=l.eraseIdx i++JO x (V6 l+1) (Xc k p Zj)
theorem ZCB {l:List Zb} {i:Nat} {x:Zb} {k:Zs} {p:Ze} {Zj:Int} (hv:VSt l) (hx:l[i]?=some x) (hg:VQ x k p) :
  VSt (ZnI l i x k p Zj)↔((Xc k p Zj).length:Int)≤10000-(V6 l+1)∧(l.eraseIdx i).length+(Xc k p Zj).length≤20:=by
 have ab:=(Kc.1 hx).1;obtain⟨h1,h2,h3⟩:=Zo6 hv (by omega);have hq:=Z3 hv.2 x (Kb hx);have aa:∀ b∈Xc k p Zj,VB b∧ZT b ⟨0,0,x.W,x.H⟩:=fun b hb=>by
  have:=ZqW (Zj:=Zj) hg.1 b hb;rw[← hg.2.1,← hg.2.2.1];exact this
 have hs:=ZsO (n:=V6 l+1) (fun c hc=>Zo5 hq hc (by omega) aa) (Zhf i hv.2) (fun y hy=>by have:=h3 y (L4 hy);omega) (by omega);unfold VSt ZnI;rw[hs,Kp,ZdM];constructor
 ·rintro ⟨g1,g2 | g2⟩
  ·exact⟨by rw[g2];simp;omega,g1⟩
  ·exact⟨g2,g1⟩
 ·rintro ⟨g1,g2⟩
  exact⟨g2,.inr g1⟩
def ZbO (l:List Zb) (n:Int) (k:Zs) (p:Ze) (Zj:Int):Option (List Zb):=
 if VSt l∧0≤QB 0 l n∧1≤Zj∧Zj≤200 then
  match l[(QB 0 l n).toNat]? with
  | some x=>if VQ x k p∧VSt (ZnI l (QB 0 l n).toNat x k p Zj) then some (ZnI l (QB 0 l n).toNat x k p Zj) else none
  | none=>none
 else none
def Zub:Option (List Zb)→AV×List Zn
 | some R=>(.tup [.own 0,(.d (.bool true))],[.row 4 (R.map Zb.enc) true false])
 | none=>(.tup [.own 0,(.d (.bool false))],[.row 4 [] true false])
theorem ZbP {l:List Zb} {n:Int} (h:0≤QB 0 l n):∃ (i:Nat) (x:Zb),QB 0 l n=(i:Int)∧l[i]?=some x:=by
 rcases Zo4 l 0 n with h1 | ⟨i,h1,h2⟩
 ·omega
 ·obtain⟨x,hx⟩:=Zl h2;exact⟨i,x,by rw[h1];simp,hx⟩
def Zuc:Option (List Zb)→AV×List Zn
 | some R=>(.tup [.own 0,(.d (.bool true))],[.tree 4 4 (R.map Zb.enc) none])
 | none=>(.tup [.own 0,(.d (.bool false))],[.row 4 [] true false])
theorem ZrE (l:List Zb) (n:Int) (kW kH:Int) (kP:List Pane) (p:Ze) (Zj:Int):Zd Xs Ms Zaq [(.d (.sl (l.map Zb.enc))),(.d (J n)),(.d (.agg [J kW,J kH,.sl (kP.map Pane.enc)])),.d p.enc,(.d (J Zj))] []=some (Zuc (ZbO l n (Zs.mk kW kH kP) p Zj)):=by
 by_cases h:VSt l∧0≤QB 0 l n
 ·obtain⟨hv,hf⟩:=h;obtain⟨i,x,hi,hx⟩:=ZbP hf;have ah:=(Kc.1 hx).1;have hq:=Z3 hv.2 x (Kb hx);have ai:=Zo6 hv (by omega);obtain⟨y,hy⟩:=Zl (l:=l) (k:=l.length-1) (by omega);have ad:=ZlD hy;have af:=hv.1;have aa:=ZCB (k:=(Zs.mk kW kH kP)) (p:=p) (Zj:=Zj) hv hx;have et:=fun q1 q2 q3 q4 h=>ZgT l n hv i hi q1 q2 q3 q4 h;unfold ZbO;rw[hi];simp only[KA,hx];obtain⟨L,W,H,F⟩:=x;have et:=et L W H F hx;have eg:=ZrB L W H F kW kH kP p;have aj:(l.eraseIdx i).length≤20:=Kt (ZlC _ _) af;have ab:l.length-1<l.length:=by omega
  have w1:IntKind.i64.wrap ((l.length:Int)-1)=((l.length-1:Nat):Int):=by rw[U1 (by omega) (by omega)];omega
  have w2:=wi (V6 l+1) (by omega) (by omega);by_cases hg:VQ ⟨L,W,H,F⟩ (Zs.mk kW kH kP) p
  ·have hd:decide (VPc ⟨L,W,H,F⟩∧VQ ⟨L,W,H,F⟩ (Zs.mk kW kH kP) p)=true:=Ke ⟨hq,hg⟩;rw[hd] at eg;by_cases hl:1≤Zj∧Zj≤200
   ·have n1:¬Zj<1:=by omega
    have n2:¬200<Zj:=by omega
    have ag:=ZiH (Zs.mk kW kH kP) p Zj;by_cases hk:((Xc (Zs.mk kW kH kP) p Zj).length:Int)≤10000-(V6 l+1)
    ·have er:=Zkh L W H F kW kH kP p Zj (V6 l+1) hq hg.1 hg.2.1 hg.2.2.1 (by omega) (by omega) hk;have w3:=wi (((l.eraseIdx i).length:Int)+((Xc (Zs.mk kW kH kP) p Zj).length:Int)) (by omega) (by omega);have ae:=ZdM ⟨L,W,H,F⟩ (V6 l+1) (Xc (Zs.mk kW kH kP) p Zj);by_cases h2:(l.eraseIdx i).length+(Xc (Zs.mk kW kH kP) p Zj).length≤20
     ·rw[Kl ⟨hv,by omega,hl⟩,Kl ⟨hg,(aa hg).2 ⟨hk,h2⟩⟩];unfold ZnI Zuc;have n3:¬(20:Int)<((l.eraseIdx i).length:Int)+((Xc (Zs.mk kW kH kP) p Zj).length:Int):=by omega
      have hr:((l.eraseIdx i).length+(Xc (Zs.mk kW kH kP) p Zj).length)*48≤140737488355328∧(l.eraseIdx i).length+(Xc (Zs.mk kW kH kP) p Zj).length≤140737488355328:=by omega
      clear aa hg hd;generalize JO ⟨L,W,H,F⟩ (V6 l+1) (Xc (Zs.mk kW kH kP) p Zj)=R at er ae ⊢;generalize (Xc (Zs.mk kW kH kP) p Zj).length=N at *;obtain⟨yL,yW,yH,yF⟩:=y;simp only at ad;rw[ad] at er w2;obtain⟨o,a,m,t,ks⟩:=p;rw[Ze.enc_mk] at er eg ⊢;refine cE ?_;simp +contextual -implicitDefEqProofs (maxSteps:=10^7) only[go_sem,seval,↓gZ,Yh,et,eg,n1,n2,w1,hy,ab,w2,er,ae,w3,n3,hr]
     ·rw[Kl ⟨hv,by omega,hl⟩,Ki (fun h=>h2 ((aa hg).1 h.2).2)];unfold Zuc;have n3:(20:Int)<((l.eraseIdx i).length:Int)+((Xc (Zs.mk kW kH kP) p Zj).length:Int):=by omega
      clear aa hg hd;generalize JO ⟨L,W,H,F⟩ (V6 l+1) (Xc (Zs.mk kW kH kP) p Zj)=R at er ae ⊢;generalize (Xc (Zs.mk kW kH kP) p Zj).length=N at *;obtain⟨yL,yW,yH,yF⟩:=y;simp only at ad;rw[ad] at er w2;obtain⟨o,a,m,t,ks⟩:=p;rw[Ze.enc_mk] at er eg ⊢;refine cE ?_;simp +contextual -implicitDefEqProofs (maxSteps:=10^7) only[go_sem,seval,↓gZ,Yh,et,eg,n1,n2,w1,hy,ab,w2,er,ae,w3,n3]
    ·have er:=Zly L W H F kW kH kP p Zj (V6 l+1) (by omega) (by omega) hk;rw[Kl ⟨hv,by omega,hl⟩,Ki (fun h=>hk ((aa hg).1 h.2).1)];unfold Zuc;clear aa hg hd hk ag;obtain⟨yL,yW,yH,yF⟩:=y;simp only at ad;rw[ad] at er w2;obtain⟨o,a,m,t,ks⟩:=p;rw[Ze.enc_mk] at er eg ⊢;refine cE ?_;simp +contextual -implicitDefEqProofs (maxSteps:=10^7) only[go_sem,seval,↓gZ,Yh,et,eg,n1,n2,w1,hy,ab,w2,er]
   ·rw[Ki (fun h=>hl ⟨h.2.2.1,h.2.2.2⟩)];unfold Zuc;clear aa hg hd;obtain⟨o,a,m,t,ks⟩:=p;rw[Ze.enc_mk] at eg ⊢;by_cases n1:Zj<1
    ·refine cE ?_;simp +contextual -implicitDefEqProofs (maxSteps:=10^7) only[go_sem,seval,↓gZ,Yh,et,eg,n1]
    ·have n2:200<Zj:=by omega
     refine cE ?_;simp +contextual -implicitDefEqProofs (maxSteps:=10^7) only[go_sem,seval,↓gZ,Yh,et,eg,n1,n2]
  ·have hd:decide (VPc ⟨L,W,H,F⟩∧VQ ⟨L,W,H,F⟩ (Zs.mk kW kH kP) p)=false:=Kh fun h=>hg h.2;rw[hd] at eg;have e0:(if VSt l∧(0:Int)≤(i:Int)∧1≤Zj∧Zj≤200 then (if VQ ⟨L,W,H,F⟩ (Zs.mk kW kH kP) p∧VSt (ZnI l i ⟨L,W,H,F⟩ (Zs.mk kW kH kP) p Zj) then some (ZnI l i ⟨L,W,H,F⟩ (Zs.mk kW kH kP) p Zj) else none) else none)=none:=by
    rw[Ki (fun h:VQ ⟨L,W,H,F⟩ (Zs.mk kW kH kP) p∧_=>hg h.1)];split<;>rfl
   rw[e0];unfold Zuc;clear aa hg hd e0;obtain⟨o,a,m,t,ks⟩:=p;rw[Ze.enc_mk] at eg ⊢;refine cE ?_;simp +contextual -implicitDefEqProofs (maxSteps:=10^7) only[go_sem,seval,↓gZ,Yh,et,eg]
 ·have et:=Zhe l n h;have e0:ZbO l n (Zs.mk kW kH kP) p Zj=none:=by
   unfold ZbO;rw[Ki (fun g=>h ⟨g.1,g.2.1⟩)]
  rw[e0];unfold Zuc;clear e0;obtain⟨o,a,m,t,ks⟩:=p;rw[Ze.enc_mk];refine cE ?_;simp +contextual -implicitDefEqProofs (maxSteps:=10^7) only[go_sem,seval,↓gZ,Yh,et]
theorem Zxy {l:List Zb} {i:Nat} {x:Zb} {k:Zs} {p:Ze} {Zj:Int} (hv:VSt l) (hx:l[i]?=some x) (hg:VQ x k p) :
  (ZnI l i x k p Zj).length≤1000∧∀ y∈ZnI l i x k p Zj,y.Flaws.length<4611686018427387904∧R64 y.W∧R64 y.H:=by
 have hq:=Z3 hv.2 x (Kb hx);refine⟨?_,fun y hy=>?_⟩
 ·unfold ZnI;rw[Kp,ZdM];have:=ZiH k p Zj;have:=ZlC l i;have:=hv.1;omega
 ·rcases Kf.1 hy with hy | hy
  ·have h:=Z3 hv.2 y (L4 hy);have h1:=h.1;exact⟨by omega,⟨by omega,by omega⟩,⟨by omega,by omega⟩⟩
  ·obtain⟨j,hj⟩:=LC hy;obtain⟨b,hb,rfl⟩:=ZvM x _ _ j y hj;have aa:=(ZqW (Zj:=Zj) hg.1 b (Kb hb)).1;simp only[VB] at aa;have ab:=Kn (YY b) x.Flaws;have ad:=hq.1.2.2.2.2.2.2;simp only[Zmk];exact⟨by omega,⟨by omega,by omega⟩,⟨by omega,by omega⟩⟩
theorem ZrF (l:List Zb) (n:Int) (kW kH:Int) (kP:List Pane) (p:Ze) (Zj:Int) (hl:l.length≤1048576) (hS:∀ x∈l,x.Flaws.length≤1048576∧R64 x.W∧R64 x.H) (hk:kP.length<4611686018427387904):Zd Xs Ms Zan [(.d (.sl (l.map Zb.enc))),(.d (J n)),(.d (.agg [J kW,J kH,.sl (kP.map Pane.enc)])),.d p.enc,(.d (J Zj))] []=some (Zub (ZbO l n (Zs.mk kW kH kP) p Zj)):=by
 have ev:=YI l (by omega) (fun x hx=>by obtain⟨g1,g2,g3⟩:=hS x hx;exact⟨by omega,g2,g3⟩);have ef:=Yv l n (by omega);unfold ZbO;by_cases hv:VSt l
 ·rw[Ke hv] at ev;by_cases hf:0≤QB 0 l n
  ·obtain⟨i,x,hi,hx⟩:=ZbP hf;rw[hi] at ef ⊢;have ad:¬(i:Int)<0:=by omega
   have af:=(Kc.1 hx).1;simp only[KA,hx];by_cases hr:1≤Zj∧Zj≤200
   ·have hq:=Z3 hv.2 x (Kb hx);have al:=Zo6 hv (by omega);have ew:=ZfE l i (by omega) (fun x hx=>by have:=(hS x hx).1;omega);have el:=Zhd l (by omega);have w2:=wi (V6 l+1) (by omega) (by omega);rw[Kl ⟨hv,by omega,hr⟩];by_cases hg:VQ x (Zs.mk kW kH kP) p
    ·have ag:=Zxy (Zj:=Zj) hv hx hg;have aa:=YI (ZnI l i x (Zs.mk kW kH kP) p Zj) (by omega) ag.2;have aj:(l.eraseIdx i).length≤20:=Kt (ZlC _ _) hv.1;have am:=ZiH (Zs.mk kW kH kP) p Zj;obtain⟨L,W,H,F⟩:=x;have eg:=Zi2 L W H F kW kH kP p (fun f hf=>(hq.2 f hf).1) hq.1.2.2.2.2.2.2 hk;have er:=ZrD L W H F kW kH kP p Zj (V6 l+1) hq hg.1 (by omega) (by omega);rw[Ke hg] at eg;have ae:=ZdM ⟨L,W,H,F⟩ (V6 l+1) (Xc (Zs.mk kW kH kP) p Zj);have ai:((l.eraseIdx i).length+(Xc (Zs.mk kW kH kP) p Zj).length)*48≤140737488355328∧(l.eraseIdx i).length+(Xc (Zs.mk kW kH kP) p Zj).length≤140737488355328:=by omega
     unfold ZnI at aa ⊢;have ah:=hg;clear hg;by_cases ab:VSt (l.eraseIdx i++JO ⟨L,W,H,F⟩ (V6 l+1) (Xc (Zs.mk kW kH kP) p Zj))
     ·rw[Ke ab] at aa;rw[Kl ⟨ah,ab⟩];unfold Zub;clear ab ag ah;generalize JO ⟨L,W,H,F⟩ (V6 l+1) (Xc (Zs.mk kW kH kP) p Zj)=R at er ae aa ⊢;generalize (Xc (Zs.mk kW kH kP) p Zj).length=N at *;obtain⟨o,a,m,t,ks⟩:=p;rw[Ze.enc_mk] at er eg ⊢;refine cE ?_;simp +contextual -implicitDefEqProofs (maxSteps:=10^7) only[go_sem,seval,↓gZ,YV,ev,ef,ad,ZK,hr,hx,af,eg,ew,el,w2,er,ae,ai,aa]
     ·rw[Kh ab] at aa;rw[Ki (fun h=>ab h.2)];unfold Zub;clear ab ag ah;generalize JO ⟨L,W,H,F⟩ (V6 l+1) (Xc (Zs.mk kW kH kP) p Zj)=R at er ae aa ⊢;generalize (Xc (Zs.mk kW kH kP) p Zj).length=N at *;obtain⟨o,a,m,t,ks⟩:=p;rw[Ze.enc_mk] at er eg ⊢;refine cE ?_;simp +contextual -implicitDefEqProofs (maxSteps:=10^7) only[go_sem,seval,↓gZ,YV,ev,ef,ad,ZK,hr,hx,af,eg,ew,el,w2,er,ae,ai,aa]
    ·rw[Ki (fun h=>hg h.1)];obtain⟨L,W,H,F⟩:=x;have eg:=Zi2 L W H F kW kH kP p (fun f hf=>(hq.2 f hf).1) hq.1.2.2.2.2.2.2 hk;rw[Kh hg] at eg;unfold Zub;clear hg;obtain⟨o,a,m,t,ks⟩:=p;rw[Ze.enc_mk] at eg ⊢;refine cE ?_;simp +contextual -implicitDefEqProofs (maxSteps:=10^7) only[go_sem,seval,↓gZ,YV,ev,ef,ad,ZK,hr,hx,af,eg]
   ·rw[Ki (fun h=>hr h.2.2)];unfold Zub;obtain⟨o,a,m,t,ks⟩:=p;rw[Ze.enc_mk];refine cE ?_;simp +contextual -implicitDefEqProofs (maxSteps:=10^7) only[go_sem,seval,↓gZ,YV,ev,ef,ad,ZK,hr]
  ·rw[Ki (fun h=>hf h.2.1)];have ak : QB 0 l n<0:=by omega
   unfold Zub;obtain⟨o,a,m,t,ks⟩:=p;rw[Ze.enc_mk];refine cE ?_;simp +contextual -implicitDefEqProofs (maxSteps:=10^7) only[go_sem,seval,↓gZ,YV,ev,ef,ak]
 ·rw[Kh hv] at ev;rw[Ki (fun h=>hv h.1)];unfold Zub;obtain⟨o,a,m,t,ks⟩:=p;rw[Ze.enc_mk];refine cE ?_;simp +contextual -implicitDefEqProofs (maxSteps:=10^7) only[go_sem,seval,↓gZ,YV,ev]
theorem Zo7 (l:List Zb) (hv:VSt l):Zd Xs Ms Jd [(.d (.sl (l.map Zb.enc)))] []=some ((.d (J (Vg l))),[]):=by
 have ev:=YH l;rw[Ke hv] at ev;have af:=hv.1;have aa:∀ x∈l,1≤x.W∧x.W≤200∧1≤x.H∧x.H≤200:=fun x hx=>by
  have:=(Z3 hv.2 x hx).1;omega
 clear hv;refine cE ?_;simp +contextual -implicitDefEqProofs (maxSteps:=10^7) only[go_sem,seval,↓gZ,ZeA,ev];refine LO (α:=Nat) (fun i=>[(11,.d (J (i:Int))),(3,.d (J (Vg (l.take i))))]) (fun _=>[]) (fun i=>i≤l.length) (fun i=>l.length-i) 0 (by omega) ?_;intro i hi ih;by_cases ab:i<l.length
 ·obtain⟨x,hx⟩:=Zl ab;have hw:=Zh (k:=i) (by omega);have hm:=Zo2 hx;have ag:=Zcv (l:=l.take i) (fun y hy=>aa y (K8 hy));have ah:(l.take i).length≤i:=by simp;omega
  have g5:=aa x (Kb hx);have ad:x.W*x.H≤200*200:=L9 (by omega) (by omega) (by omega) (by omega);have ae:0≤x.W*x.H:=L8 (by omega) (by omega);obtain⟨xL,xW,xH,xF⟩:=x;simp only at g5 hm ad ae;have u0:=wi (xW*xH) (by omega) (by omega);have u1:=wi (Vg (l.take i)+xW*xH) (by omega) (by omega);simp +contextual -implicitDefEqProofs (maxSteps:=10^7) only[go_sem,seval,↓gZ,hx,ab,hw,u0,u1];refine ih (i+1) _ (by omega) (by omega) ?_;simp +contextual -implicitDefEqProofs (maxSteps:=10^7) only[go_sem,seval,↓gZ,hm]
 ·have:i=l.length:=by omega
  subst this;simp +contextual -implicitDefEqProofs (maxSteps:=10^7) only[go_sem,seval,↓gZ,Lo]
end Go.Proofs.YtbpekaejmjlmfaaGreat
