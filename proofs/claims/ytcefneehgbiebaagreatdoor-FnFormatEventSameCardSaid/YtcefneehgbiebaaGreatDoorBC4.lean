/- Own text. -/
import Derived.Test.YtcefneehgbiebaaGreatDoorBCode
import Derived.Test.YtcefneehgbiebaaGreatDoorAbsParts
import Derived.Test.YtcefneehgbiebaaGreatDoorBC3
namespace Go.Proofs.YtcefneehgbiebaaGreatDoor
open Go Go.Abs Go.Abs.E Go.Abs.L
open Nat (reduceMul reduceSub reduceLeDiff reduceEqDiff)
open Int (reduceLE reduceEq reduceToNat reduceNeg)
set_option linter.unusedSimpArgs false
set_option linter.unusedVariables false
set_option maxRecDepth 20000
set_option maxHeartbeats 4000000
def Xw:Int→List Zb→Prop
 | _,[]=>True
 | b,x :: l=>VPc x∧b<x.Label∧Xw x.Label l
instance sortFdec:∀ (b:Int) (l:List Zb),Decidable (Xw b l)
 | _,[]=>.isTrue trivial
 | b,x :: l=>by unfold Xw;exact @instDecidableAnd _ _ _ (@instDecidableAnd _ _ _ (sortFdec x.Label l))
def VSt (l:List Zb):Prop:=l.length≤20∧Xw 0 l
instance (l:List Zb):Decidable (VSt l):=by unfold VSt;infer_instance
theorem Zo6 {l:List Zb} {k:Nat} {x:Zb} {b:Int} (hx:l[k]?=some x):Xw b (l.drop k)↔VPc x∧b<x.Label∧Xw x.Label (l.drop (k+1)):=by
 obtain⟨h1,h2⟩:=Kb.1 hx;rw[Kw h1,h2,Xw]
theorem Zsn {l:List Zb} {b:Int}:Xw b (l.drop l.length):=by simp[Xw]
theorem V2 (l:List Zb):Ze Xs Ms XO [(.d (.sl (l.map Zb.enc)))] []=some ((.d (.bool (decide (VSt l)))),[]):=by
 by_cases ab:(20:Int)<(l.length:Int)
 ·have hn:¬VSt l:=fun h=>by have:=h.1;omega
  refine cE ?_;simp +contextual -implicitDefEqProofs (maxSteps:=10^7) only[go_sem,seval,↓gZ,Zal,ab,hn]
 ·have ad:l.length≤20:=by omega
  refine cE ?_;simp +contextual -implicitDefEqProofs (maxSteps:=10^7) only[go_sem,seval,↓gZ,Zal,ab];refine LO (α:=Nat×Int) (fun s=>[(11,.d (J (s.1:Int))),(3,.d (J s.2))]) (fun _=>[]) (fun s=>s.1≤l.length∧(Xw 0 l↔Xw s.2 (l.drop s.1))) (fun s=>l.length-s.1) (0,0) ⟨by simp,by simp⟩ ?_;intro⟨i,b⟩ ⟨hi,hp⟩ ih;simp only at hi hp;by_cases aa:i<l.length
  ·obtain⟨x,hx⟩:=Zr aa;have hw:=Zj (k:=i) (by omega);rw[Zo6 hx] at hp;have ev:=Xi x.Label x.W x.H x.Flaws;obtain⟨L,W,H,F⟩:=x;simp only at hp ev;by_cases hv:VPc ⟨L,W,H,F⟩
   ·rw[Kh hv] at ev;by_cases hb:L≤b
    ·have hn:¬VSt l:=fun h=>by have:=(hp.1 h.2).2.1;omega
     simp +contextual -implicitDefEqProofs (maxSteps:=10^7) only[go_sem,seval,↓gZ,hx,aa,hw,ev,hb,hn]
    ·simp +contextual -implicitDefEqProofs (maxSteps:=10^7) only[go_sem,seval,↓gZ,hx,aa,hw,ev,hb];refine ih (i+1,L) _ ⟨by simp only;omega,?_⟩ (by simp only;omega) ?_
     ·rw[hp];exact⟨fun h=>h.2.2,fun h=>⟨hv,by omega,h⟩⟩
     ·simp +contextual -implicitDefEqProofs (maxSteps:=10^7) only[go_sem,seval,↓gZ]
   ·rw[Kk hv] at ev;have hn:¬VSt l:=fun h=>hv (hp.1 h.2).1;simp +contextual -implicitDefEqProofs (maxSteps:=10^7) only[go_sem,seval,↓gZ,hx,aa,hw,ev,hn]
  ·have:i=l.length:=by omega
   subst this;have hy:VSt l:=⟨ad,hp.2 Zsn⟩
   simp +contextual -implicitDefEqProofs (maxSteps:=10^7) only[go_sem,seval,↓gZ,hy]
def Zj5 (l:List Zb):Nat→Int
 | 0=>0
 | j+1=>match l[j]? with
  | some x=>x.Label
  | none=>0
theorem Yv (l:List Zb) (hl:l.length<4611686018427387904) (hS:∀ x∈l,x.Flaws.length<4611686018427387904∧R64 x.W∧R64 x.H):Ze Xs Ms QX [(.d (.sl (l.map Zb.enc)))] []=some ((.d (.bool (decide (VSt l)))),[]):=by
 refine cE ?_;simp +contextual -implicitDefEqProofs (maxSteps:=10^7) only[go_sem,seval,↓gZ,Zc7];refine LO (α:=Nat) (fun i=>[(3,.d (J (i:Int)))]) (fun _=>[]) (fun i=>i≤l.length∧(Xw 0 l↔Xw (Zj5 l i) (l.drop i))) (fun i=>l.length-i) 0 ⟨by simp,by simp[Zj5]⟩ ?_;intro i ⟨hi,hp⟩ ih;by_cases aa:i<l.length
 ·obtain⟨x,hx⟩:=Zr aa;have hw:=Zj (k:=i) (by omega);rw[Zo6 hx] at hp;obtain⟨ag,ah,ai⟩:=hS x (Kc hx);have ev:=Zf8 x.Label x.W x.H x.Flaws ag ah ai;have ad:Zj5 l (i+1)=x.Label:=by simp only[Zj5,hx]
  obtain⟨L,W,H,F⟩:=x;simp only at hp ev ad;by_cases hv:VPc ⟨L,W,H,F⟩
  ·rw[Kh hv] at ev;have hL:1≤L:=hv.1.1;cases i with
   | zero=>
    have ae : (0:Int)<(l.length:Int):=by omega
    simp +contextual -implicitDefEqProofs (maxSteps:=10^7) only[go_sem,seval,↓gZ,hx,aa,ae,hw,ev];refine ih 1 _ ⟨by omega,?_⟩ (by omega) ?_
    ·rw[hp,ad];exact⟨fun h=>h.2.2,fun h=>⟨hv,by simp only[Zj5];omega,h⟩⟩
    ·simp +contextual -implicitDefEqProofs (maxSteps:=10^7) only[go_sem,seval,↓gZ]
   | succ j=>
    obtain⟨y,hy⟩:=Zr (l:=l) (k:=j) (by omega);have aj:Zj5 l (j+1)=y.Label:=by simp only[Zj5,hy]
    rw[aj] at hp;have hj:IntKind.i64.wrap (((j+1:Nat):Int)-1)=(j:Int):=by rw[Us (by omega) (by omega)];omega
    have ab:(0:Int)<((j+1:Nat):Int):=by omega
    have af:j<l.length:=by omega
    obtain⟨L',W',H',F'⟩:=y;simp only at hp;by_cases hb:L≤L'
    ·have hn:¬VSt l:=fun h=>by have:=(hp.1 h.2).2.1;omega
     simp +contextual -implicitDefEqProofs (maxSteps:=10^7) only[go_sem,seval,↓gZ,hx,aa,hw,ev,ab,hj,af,hy,hb,hn]
    ·simp +contextual -implicitDefEqProofs (maxSteps:=10^7) only[go_sem,seval,↓gZ,hx,aa,hw,ev,ab,hj,af,hy,hb];refine ih (j+1+1) _ ⟨by omega,?_⟩ (by omega) ?_
     ·rw[hp,ad];exact⟨fun h=>h.2.2,fun h=>⟨hv,by omega,h⟩⟩
     ·simp +contextual -implicitDefEqProofs (maxSteps:=10^7) only[go_sem,seval,↓gZ]
  ·rw[Kk hv] at ev;have hn:¬VSt l:=fun h=>hv (hp.1 h.2).1;simp +contextual -implicitDefEqProofs (maxSteps:=10^7) only[go_sem,seval,↓gZ,hx,aa,hw,ev,hn]
 ·have:i=l.length:=by omega
  subst this;have hs:=hp.2 Zsn;simp +contextual -implicitDefEqProofs (maxSteps:=10^7) only[go_sem,seval,↓gZ];exact Zcs (by simp only[VSt];constructor<;>(intro h;first | exact⟨by omega,hs⟩ | (have:=h.1;omega)))
def Qv:Nat→List Zb→Int→Int
 | _,[],_=>-1
 | k,x :: l,n=>if x.Label=n then (k:Int) else Qv (k+1) l n
theorem Zso {l:List Zb} {k:Nat} {x:Zb} {n:Int} (hx:l[k]?=some x):Qv k (l.drop k) n=if x.Label=n then (k:Int) else Qv (k+1) (l.drop (k+1)) n:=by
 obtain⟨h1,h2⟩:=Kb.1 hx;rw[Kw h1,h2,Qv]
theorem Zk9 (qL qW qH:Int) (qF:List Box) (n:Int):Ze Xs Ms YA [(.d (.agg [J qL,J qW,J qH,.sl (qF.map Box.enc)])),.ptr 0 0] [.box [(.d (J n))]]=some ((.d (.bool (decide (qL=n)))),[.box [(.d (J n))]]):=by
 refine cE ?_;simp +contextual -implicitDefEqProofs (maxSteps:=10^7) only[go_sem,seval,↓gZ,ZbN]
theorem Ztw (l:List Zb) (n:Int) (hl:l.length<4611686018427387904):Ze Xs Ms XS [(.d (.sl (l.map Zb.enc))),.clo YA [.ptr 0 0]] [.box [(.d (J n))]]=some ((.d (J (Qv 0 l n))),[.box [(.d (J n))]]):=by
 refine cE ?_;simp +contextual -implicitDefEqProofs (maxSteps:=10^7) only[go_sem,seval,↓gZ,WY];refine LO (α:=Nat) (fun k=>[(8,.d (J (k:Int)))]) (fun _=>[]) (fun k=>k≤l.length∧Qv k (l.drop k) n=Qv 0 l n) (fun k=>l.length-k) 0 ⟨by omega,rfl⟩ ?_;intro k ⟨hk,hp⟩ ih;by_cases aa:k<l.length
 ·obtain⟨x,hx⟩:=Zr aa;rw[Zso hx] at hp;have hw:=Zj (k:=k) (by omega);have e1:=Zk9 x.Label x.W x.H x.Flaws n;obtain⟨L,W,H,F⟩:=x;simp only at hp e1;by_cases h:L=n
  ·rw[Ki h] at hp;rw[Kh h] at e1;simp +contextual -implicitDefEqProofs (maxSteps:=10^7) only[go_sem,seval,↓gZ,hx,aa,hw,e1];rw[← hp]
  ·rw[Kd h] at hp;rw[Kk h] at e1;simp +contextual -implicitDefEqProofs (maxSteps:=10^7) only[go_sem,seval,↓gZ,hx,aa,hw,e1];refine ih (k+1) _ ⟨by omega,hp⟩ (by omega) ?_;simp +contextual -implicitDefEqProofs (maxSteps:=10^7) only[go_sem,seval,↓gZ]
 ·have:k=l.length:=by omega
  subst this;simp +contextual -implicitDefEqProofs (maxSteps:=10^7) only[go_sem,seval,↓gZ];rw[← hp];simp[Qv]
theorem Vf (l:List Zb) (n:Int) (hl:l.length<4611686018427387904):Ze Xs Ms X9 [(.d (.sl (l.map Zb.enc))),(.d (J n))] []=some ((.d (J (Qv 0 l n))),[]):=by
 refine cE ?_;simp +contextual -implicitDefEqProofs (maxSteps:=10^7) only[go_sem,seval,↓gZ,Zd2,Ztw l n hl]
theorem Yi (l:List Zb) (n:Int) (hl:l.length<4611686018427387904):Ze Xs Ms XB [(.d (.sl (l.map Zb.enc))),(.d (J n))] []=some ((.d (J (Qv 0 l n))),[]):=by
 refine cE ?_;simp +contextual -implicitDefEqProofs (maxSteps:=10^7) only[go_sem,seval,↓gZ,Zd4];refine LO (α:=Nat) (fun k=>[(5,.d (J (k:Int)))]) (fun _=>[]) (fun k=>k≤l.length∧Qv k (l.drop k) n=Qv 0 l n) (fun k=>l.length-k) 0 ⟨by omega,rfl⟩ ?_;intro k ⟨hk,hp⟩ ih;by_cases aa:k<l.length
 ·obtain⟨x,hx⟩:=Zr aa;rw[Zso hx] at hp;have hw:=Zj (k:=k) (by omega);obtain⟨L,W,H,F⟩:=x;simp only at hp;by_cases h:L=n
  ·rw[Ki h] at hp;simp +contextual -implicitDefEqProofs (maxSteps:=10^7) only[go_sem,seval,↓gZ,hx,aa,hw,h];rw[← hp]
  ·rw[Kd h] at hp;simp +contextual -implicitDefEqProofs (maxSteps:=10^7) only[go_sem,seval,↓gZ,hx,aa,hw,h];refine ih (k+1) _ ⟨by omega,hp⟩ (by omega) ?_;simp +contextual -implicitDefEqProofs (maxSteps:=10^7) only[go_sem,seval,↓gZ]
 ·have:k=l.length:=by omega
  subst this;simp +contextual -implicitDefEqProofs (maxSteps:=10^7) only[go_sem,seval,↓gZ];rw[← hp];simp[Qv]
theorem JU (qL qW qH:Int) (qF:List Box) (hF:qF.length≤1000000):Ze Xs Ms XC [(.d (.agg [J qL,J qW,J qH,.sl (qF.map Box.enc)]))] []=some (.agg [(.d (J qL)),(.d (J qW)),(.d (J qH)),.own 0],[.row 4 (qF.map Box.enc) true false]):=by
 have hr:qF.length*32≤140737488355328∧qF.length≤140737488355328:=by omega
 refine cE ?_;simp +contextual -implicitDefEqProofs (maxSteps:=10^7) only[go_sem,seval,↓gZ,Zd5,hr]
theorem Vg (qL qW qH:Int) (qF:List Box) (hF:qF.length≤1000000):Ze Xs Ms XD [(.d (.agg [J qL,J qW,J qH,.sl (qF.map Box.enc)]))] []=some (.agg [(.d (J qL)),(.d (J qW)),(.d (J qH)),.own 0],[.row 4 (qF.map Box.enc) true false]):=by
 have hr:qF.length*32≤140737488355328∧qF.length≤140737488355328:=by omega
 refine cE ?_;simp +contextual -implicitDefEqProofs (maxSteps:=10^7) only[go_sem,seval,↓gZ,Zd9,hr]
theorem Zo7:∀ (F:List Box),Zbw D.flat (F.map Box.enc)=true
 | []=>rfl
 | x :: F=>by simp only[Kj,Zbw,Zo7 F,LP];rfl
theorem ZcS (l:List Zb) (hl:l.length≤1000000) (hF:∀ x∈l,x.Flaws.length≤1000000):Ze Xs Ms YT [(.d (.sl (l.map Zb.enc)))] []=some (.own 0,[.deep 4 4 (l.map Zb.enc) none]):=by
 refine cE ?_;simp +contextual -implicitDefEqProofs (maxSteps:=10^7) only[go_sem,seval,↓gZ,Zd0];refine LO (α:=Nat) (fun i=>[(8,.d (J (i:Int)))]) (fun i=>[(0,.deep 4 4 ((l.take i).map Zb.enc) none)]) (fun i=>i≤l.length) (fun i=>l.length-i) 0 (by omega) ?_;intro i hi ih;by_cases aa:i<l.length
 ·obtain⟨x,hx⟩:=Zr aa;have hw:=Zj (k:=i) (by omega);have hm:l.take (i+1)=l.take i++[x]:=by rw[KU,hx];simp
  have ad:(l.take i).length≤i:=by simp;omega
  have hr:((l.take i).length+1)*48≤140737488355328∧(l.take i).length≤140737488355327:=by omega
  have e:=JU x.Label x.W x.H x.Flaws (hF x (Kc hx));obtain⟨L,W,H,F⟩:=x;simp only at e;have ab:=Zo7 F;simp +contextual -implicitDefEqProofs (maxSteps:=10^7) only[go_sem,seval,↓gZ,hx,aa,hw,e,hr,ab];refine ih (i+1) _ (by omega) (by omega) ?_;simp +contextual -implicitDefEqProofs (maxSteps:=10^7) only[go_sem,seval,↓gZ,hm]
  first | rfl | (simp;done) | (simp;rfl)
 ·have:i=l.length:=by omega
  subst this;simp +contextual -implicitDefEqProofs (maxSteps:=10^7) only[go_sem,seval,↓gZ];simp
theorem ZwS {α:Type} {l:List α} {i a:Nat} {x:α} (hx:l[i]?=some x) (h:i≠a):(l.take (i+1)).eraseIdx a=(l.take i).eraseIdx a++[x]:=by
 have h1:=(Kb.1 hx).1;have e:l.take (i+1)=l.take i++[x]:=by rw[KU,hx];simp
 rw[e];have hl:(l.take i).length=i:=by simp;omega
 rcases KT a i with h2 | h2
 ·rw[List.eraseIdx_append_of_lt_length (by omega)]
 ·rw[LU (by simp;omega),LU (by omega)]
theorem ZwT {α:Type} {l:List α} {i:Nat} {x:α} (hx:l[i]?=some x):(l.take (i+1)).eraseIdx i=(l.take i).eraseIdx i:=by
 have h1:=(Kb.1 hx).1;have e:l.take (i+1)=l.take i++[x]:=by rw[KU,hx];simp
 have hl:(l.take i).length=i:=by simp;omega
 rw[e,List.eraseIdx_append_of_length_le (by omega),hl];simp;rw[LU (by omega)]
theorem Zla {α:Type} (l:List α) (a:Nat):(l.eraseIdx a).length≤l.length:=by
 have:=List.length_eraseIdx_le l a;omega
theorem ZfA (l:List Zb) (a:Nat) (hl:l.length≤1000000) (hF:∀ x∈l,x.Flaws.length≤1000000):Ze Xs Ms VC [(.d (.sl (l.map Zb.enc))),(.d (J a))] []=some (.own 0,[.row 4 ((l.eraseIdx a).map Zb.enc) true false]):=by
 refine cE ?_;simp +contextual -implicitDefEqProofs (maxSteps:=10^7) only[go_sem,seval,↓gZ,Zdz];refine LO (α:=Nat) (fun i=>[(6,.d (J (i:Int)))]) (fun i=>[(0,.row 4 (((l.take i).eraseIdx a).map Zb.enc) true false)]) (fun i=>i≤l.length) (fun i=>l.length-i) 0 (by omega) ?_;intro i hi ih;by_cases aa:i<l.length
 ·obtain⟨x,hx⟩:=Zr aa;have hw:=Zj (k:=i) (by omega);by_cases ab:i=a
  ·subst ab;have hm:=ZwT hx;simp +contextual -implicitDefEqProofs (maxSteps:=10^7) only[go_sem,seval,↓gZ,hx,aa,hw];refine ih (i+1) _ (by omega) (by omega) ?_;simp +contextual -implicitDefEqProofs (maxSteps:=10^7) only[go_sem,seval,↓gZ,hm]
  ·have hm:=ZwS hx ab;have ad:((l.take i).eraseIdx a).length≤i:=Kx (Zla _ _) (by simp;omega);have hr:(((l.take i).eraseIdx a).length+1)*48≤140737488355328∧((l.take i).eraseIdx a).length≤140737488355327:=by omega
   have e:=Vg x.Label x.W x.H x.Flaws (hF x (Kc hx));obtain⟨L,W,H,F⟩:=x;simp only at e;simp +contextual -implicitDefEqProofs (maxSteps:=10^7) only[go_sem,seval,↓gZ,hx,aa,hw,ab,e,hr];refine ih (i+1) _ (by omega) (by omega) ?_;simp +contextual -implicitDefEqProofs (maxSteps:=10^7) only[go_sem,seval,↓gZ,hm]
   first | rfl | (simp;done) | (simp;rfl)
 ·have:i=l.length:=by omega
  subst this;simp +contextual -implicitDefEqProofs (maxSteps:=10^7) only[go_sem,seval,↓gZ];simp
def V3 (l:List Zb):Int:=Zj5 l l.length
theorem Zlb {l:List Zb} {x:Zb} (hx:l[l.length-1]?=some x):V3 l=x.Label:=by
 have h:=(Kb.1 hx).1;unfold V3;obtain⟨n,hn⟩:∃ n,l.length=n+1:=⟨l.length-1,by omega⟩
 rw[hn] at hx ⊢;simp only[Zj5];simp only[Nat.add_sub_cancel] at hx;rw[hx]
theorem ZgZ (l:List Zb) (hl:l.length<4611686018427387904):Ze Xs Ms YS [(.d (.sl (l.map Zb.enc)))] []=some ((.d (J (V3 l))),[]):=by
 by_cases h0:l.length=0
 ·have e:V3 l=0:=by unfold V3;rw[h0];rfl
  have aa : (l.length:Int)=0:=by omega
  rw[e];refine cE ?_;simp +contextual -implicitDefEqProofs (maxSteps:=10^7) only[go_sem,seval,↓gZ,Zbb,aa]
 ·obtain⟨x,hx⟩:=Zr (l:=l) (k:=l.length-1) (by omega);have e:=Zlb hx;have hn:¬(l.length:Int)=0:=by omega
  have hw:IntKind.i64.wrap ((l.length:Int)-1)=((l.length-1:Nat):Int):=by rw[Us (by omega) (by omega)];omega
  have ab:l.length-1<l.length:=by omega
  obtain⟨L,W,H,F⟩:=x;simp only at e;refine cE ?_;simp +contextual -implicitDefEqProofs (maxSteps:=10^7) only[go_sem,seval,↓gZ,Zbb,hn,hw,hx,ab,e]
theorem Zo8:∀ (l:List Zb) (k:Nat) (n:Int),Qv k l n=-1∨∃ i:Nat,Qv k l n=((k+i:Nat):Int)∧i<l.length
 | [],k,n=>.inl rfl
 | x :: l,k,n=>by
  unfold Qv;split
  ·exact .inr ⟨0,by simp,by simp⟩
  ·rcases Zo8 l (k+1) n with h | ⟨i,h1,h2⟩
   ·exact .inl h
   ·exact .inr ⟨i+1,by rw[h1];congr 1;omega,by simp;omega⟩
theorem Ql:∀ {l:List Zb} {b:Int},Xw b l→∀ x∈l,VPc x
 | [],_,_,x,hx=>by simp at hx
 | y :: l,b,h,x,hx=>by
  rcases Kf.1 hx with rfl | hx
  ·exact h.1
  ·exact Ql h.2.2 x hx
theorem Zck {l:List Zb} (h:VSt l):l.length≤1000000∧∀ x∈l,x.Flaws.length≤1000000:=by
 refine⟨by have:=h.1;omega,fun x hx=>?_⟩;have:=(Ql h.2 x hx).1.2.2.2.2.2.2;omega
theorem Zg0 (l:List Zb) (n:Int) (h:¬(VSt l∧0≤Qv 0 l n)):Ze Xs Ms YX [(.d (.sl (l.map Zb.enc))),(.d (J n))] [] =
  some (.tup [.agg [(.d (J 0)),(.d (J 0)),(.d (J 0)),.own 0],.own 1,(.d (.bool false))],[.row 4 [] true false,.row 4 [] true false]):=by
 have ev:=V2 l;by_cases hv:VSt l
 ·rw[Kh hv] at ev;have hf:=Vf l n (by have:=hv.1;omega);have hn:Qv 0 l n<0:=by
   rcases Int.lt_or_le (Qv 0 l n) 0 with h1 | h1
   ·exact h1
   ·exact absurd ⟨hv,h1⟩ h
  refine cE ?_;simp +contextual -implicitDefEqProofs (maxSteps:=10^7) only[go_sem,seval,↓gZ,UU,ev,hf,hn]
 ·rw[Kk hv] at ev;refine cE ?_;simp +contextual -implicitDefEqProofs (maxSteps:=10^7) only[go_sem,seval,↓gZ,UU,ev]
theorem Zgb (l:List Zb) (n:Int) (hv:VSt l) (i:Nat) (hi:Qv 0 l n=(i:Int)) (qL qW qH:Int) (qF:List Box) (hx:l[i]?=some (Zb.mk qL qW qH qF)):Ze Xs Ms YX [(.d (.sl (l.map Zb.enc))),(.d (J n))] [] =
  some (.tup [.agg [(.d (J qL)),(.d (J qW)),(.d (J qH)),.own 0],.own 1,(.d (.bool true))],[.row 4 (qF.map Box.enc) true false,.row 4 ((l.eraseIdx i).map Zb.enc) true false]):=by
 have ev:=V2 l;rw[Kh hv] at ev;have ab:i<l.length:=(Kb.1 hx).1;have ad:=hv.1;obtain⟨h1,h2⟩:=Zck hv;have hf:=Vf l n (by omega);rw[hi] at hf;have hw:=Zj (k:=i) (by omega);have c1:=ZcS (l.take i) (by simp;omega) (fun x hx=>h2 x (K0 hx));have c2:=ZcS (l.drop (i+1)) (by simp;omega) (fun x hx=>h2 x (LA hx));have e:=JU qL qW qH qF (h2 (Zb.mk qL qW qH qF) (Kc hx));have hr:((l.take i).length+(l.drop (i+1)).length)*48≤140737488355328∧(l.take i).length+(l.drop (i+1)).length≤140737488355328:=by simp;omega
 have ae:i≤l.length:=by omega
 have aa:i+1≤l.length:=by omega
 have af:¬(i:Int)<0:=by omega
 rw[List.eraseIdx_eq_take_drop_succ];refine cE ?_;simp +contextual -implicitDefEqProofs (maxSteps:=10^7) only[go_sem,seval,↓gZ,UU,Zmk,ev,hf,af,hw,hx,ab,ae,aa,c1,c2,e,hr,La]
def PcW (x:Zb):Prop:=x.Flaws.length≤6∧R64 x.W∧R64 x.H
theorem ZwU {b c:Int} (h:b≤c):∀ {l:List Zb},Xw c l→Xw b l
 | [],_=>trivial
 | x :: l,hs=>⟨hs.1,by have:=hs.2.1;omega,hs.2.2⟩
theorem Zg1:∀ {l:List Zb} {b:Int} (i:Nat),Xw b l→Xw b (l.eraseIdx i)
 | [],b,i,_=>by simp[Xw]
 | x :: l,b,0,h=>by
  simp only[List.eraseIdx_cons_zero];exact ZwU (by have:=h.2.1;omega) h.2.2
 | x :: l,b,i+1,h=>by
  simp only[List.eraseIdx_cons_succ];exact⟨h.1,h.2.1,Zg1 i h.2.2⟩
theorem Zlc:∀ {l:List Zb} {b:Int},Xw b l→∀ (i j:Nat) (x y:Zb),i≤j→l[i]?=some x→l[j]?=some y→x.Label≤y.Label∧b<x.Label
 | [],b,_,i,j,x,y,_,hx,_=>by simp at hx
 | z :: l,b,h,0,0,x,y,_,hx,hy=>by
  simp at hx hy;subst hx;subst hy;exact⟨Int.le_refl _,h.2.1⟩
 | z :: l,b,h,0,j+1,x,y,_,hx,hy=>by
  simp at hx hy;subst hx;have:=(Zlc h.2.2 j j y y (Kr _) hy hy).2;exact⟨by omega,h.2.1⟩
 | z :: l,b,h,i+1,j+1,x,y,hij,hx,hy=>by
  simp at hx hy;have:=Zlc h.2.2 i j x y (by omega) hx hy;have h2:=h.2.1;exact⟨this.1,by omega⟩
 | z :: l,b,h,i+1,0,x,y,hij,hx,hy=>by omega
theorem Zo9 {q:Zb} (hq:VPc q):∀ {L:List Box} {n c:Int},c<n→1≤n→(∀ b∈L,VB b∧Wl b ⟨0,0,q.W,q.H⟩)→(Xw c (U9 q n L)↔(L=[]∨(L.length:Int)≤10000-n))
 | [],n,c,_,_,_=>by simp[U9,Xw]
 | b :: L,n,c,hc,h1,hb=>by
  have ih:=Zo9 hq (L:=L) (n:=n+1) (c:=n) (by omega) (by omega) (fun d hd=>hb d (by simp[hd]));have hv:VPc (Zoi q b n)↔n≤9999:=⟨fun h=>by have:=h.1.2.1;simpa [Zoi] using this,fun h=>Zwl hq (hb b (by simp)).1 (hb b (by simp)).2 h1 h⟩
  simp only[U9,Xw,hv,ih];have e:(Zoi q b n).Label=n:=rfl;rw[e,ih];have hl:((b :: L).length:Int)=L.length+1:=by simp
  constructor
  ·rintro ⟨g1,g2,g3⟩
   right
   rcases g3 with rfl | g3
   ·simp only[Ks,KM];omega
   ·omega
  ·rintro (g | g)
   ·cases g
   ·refine⟨by omega,hc,?_⟩;by_cases h0:L=[]
    ·exact .inl h0
    ·exact .inr (by omega)
theorem Zsp {B:List Zb} {n:Int} {Q:Prop} (hB:∀ c,c<n→(Xw c B↔Q)):∀ {A:List Zb} {b:Int},Xw b A→(∀ x∈A,x.Label<n)→b<n→(Xw b (A++B)↔Q)
 | [],b,_,_,hb=>hB b hb
 | x :: A,b,h,hx,hb=>by
  have ih:=Zsp hB h.2.2 (fun y hy=>hx y (by simp[hy])) (hx x (by simp));simp only[KF,Xw,ih];exact⟨fun g=>g.2.2,fun g=>⟨h.1,h.2.1,g⟩⟩
theorem Zpa {l:List Zb} (hv:VSt l) (ab:0<l.length):1≤V3 l∧V3 l≤9999∧∀ x∈l,x.Label≤V3 l:=by
 obtain⟨y,hy⟩:=Zr (l:=l) (k:=l.length-1) (by omega);rw[Zlb hy];have aa:=(Ql hv.2 y (Kc hy)).1;refine⟨aa.1,aa.2.1,fun x hx=>?_⟩;obtain⟨i,hi⟩:=KV hx;have:=(Kb.1 hi).1;exact(Zlc hv.2 i (l.length-1) x y (by omega) hi hy).1
def Zmt (l:List Zb) (i:Nat) (x:Zb) (k:ZF) (p:Zf) (Zi:Int):List Zb:=l.eraseIdx i++U9 x (V3 l+1) (Q8 k p Zi)
theorem ZBv {l:List Zb} {i:Nat} {x:Zb} {k:ZF} {p:Zf} {Zi:Int} (hv:VSt l) (hx:l[i]?=some x) (hg:Wt x k p) :
  VSt (Zmt l i x k p Zi)↔((Q8 k p Zi).length:Int)≤10000-(V3 l+1)∧(l.eraseIdx i).length+(Q8 k p Zi).length≤20:=by
 have ab:=(Kb.1 hx).1;obtain⟨h1,h2,h3⟩:=Zpa hv (by omega);have hq:=Ql hv.2 x (Kc hx);have aa:∀ b∈Q8 k p Zi,VB b∧Wl b ⟨0,0,x.W,x.H⟩:=fun b hb=>by
  have:=Zoj (Zi:=Zi) hg.1 b hb;rw[← hg.2.1,← hg.2.2.1];exact this
 have hs:=Zsp (n:=V3 l+1) (fun c hc=>Zo9 hq hc (by omega) aa) (Zg1 i hv.2) (fun y hy=>by have:=h3 y (LD hy);omega) (by omega);unfold VSt Zmt;rw[hs,Kt,ZcE];constructor
 ·rintro ⟨g1,g2 | g2⟩
  ·exact⟨by rw[g2];simp;omega,g1⟩
  ·exact⟨g2,g1⟩
 ·rintro ⟨g1,g2⟩
  exact⟨g2,.inr g1⟩
def ZcT (l:List Zb) (n:Int) (k:ZF) (p:Zf) (Zi:Int):Option (List Zb):=
 if VSt l∧0≤Qv 0 l n∧1≤Zi∧Zi≤200 then
  match l[(Qv 0 l n).toNat]? with
  | some x=>if Wt x k p∧VSt (Zmt l (Qv 0 l n).toNat x k p Zi) then some (Zmt l (Qv 0 l n).toNat x k p Zi) else none
  | none=>none
 else none
def Zgi:Option (List Zb)→AV×List Zl
 | some R=>(.tup [.own 0,(.d (.bool true))],[.row 4 (R.map Zb.enc) true false])
 | none=>(.tup [.own 0,(.d (.bool false))],[.row 4 [] true false])
theorem Zbk {l:List Zb} {n:Int} (h:0≤Qv 0 l n):∃ (i:Nat) (x:Zb),Qv 0 l n=(i:Int)∧l[i]?=some x:=by
 rcases Zo8 l 0 n with h1 | ⟨i,h1,h2⟩
 ·omega
 ·obtain⟨x,hx⟩:=Zr h2;exact⟨i,x,by rw[h1];simp,hx⟩
theorem Zqt (l:List Zb) (n:Int) (kW kH:Int) (kP:List Pane) (p:Zf) (Zi:Int):Ze Xs Ms J9 [(.d (.sl (l.map Zb.enc))),(.d (J n)),(.d (.agg [J kW,J kH,.sl (kP.map Pane.enc)])),.d p.enc,(.d (J Zi))] []=some (Zgi (ZcT l n (ZF.mk kW kH kP) p Zi)):=by
 by_cases h:VSt l∧0≤Qv 0 l n
 ·obtain⟨hv,hf⟩:=h;obtain⟨i,x,hi,hx⟩:=Zbk hf;have ah:=(Kb.1 hx).1;have hq:=Ql hv.2 x (Kc hx);have ai:=Zpa hv (by omega);obtain⟨y,hy⟩:=Zr (l:=l) (k:=l.length-1) (by omega);have ad:=Zlb hy;have af:=hv.1;have aa:=ZBv (k:=(ZF.mk kW kH kP)) (p:=p) (Zi:=Zi) hv hx;have et:=fun q1 q2 q3 q4 h=>Zgb l n hv i hi q1 q2 q3 q4 h;unfold ZcT;rw[hi];simp only[KD,hx];obtain⟨L,W,H,F⟩:=x;have et:=et L W H F hx;have eg:=Zqq L W H F kW kH kP p;have aj:(l.eraseIdx i).length≤20:=Kx (Zla _ _) af;have ab:l.length-1<l.length:=by omega
  have w1:IntKind.i64.wrap ((l.length:Int)-1)=((l.length-1:Nat):Int):=by rw[Us (by omega) (by omega)];omega
  have w2:=wi (V3 l+1) (by omega) (by omega);by_cases hg:Wt ⟨L,W,H,F⟩ (ZF.mk kW kH kP) p
  ·have hd:decide (VPc ⟨L,W,H,F⟩∧Wt ⟨L,W,H,F⟩ (ZF.mk kW kH kP) p)=true:=Kh ⟨hq,hg⟩;rw[hd] at eg;by_cases hl:1≤Zi∧Zi≤200
   ·have n1:¬Zi<1:=by omega
    have n2:¬200<Zi:=by omega
    have ag:=ZhE (ZF.mk kW kH kP) p Zi;by_cases hk:((Q8 (ZF.mk kW kH kP) p Zi).length:Int)≤10000-(V3 l+1)
    ·have er:=Zj2 L W H F kW kH kP p Zi (V3 l+1) hq hg.1 hg.2.1 hg.2.2.1 (by omega) (by omega) hk;have w3:=wi (((l.eraseIdx i).length:Int)+((Q8 (ZF.mk kW kH kP) p Zi).length:Int)) (by omega) (by omega);have ae:=ZcE ⟨L,W,H,F⟩ (V3 l+1) (Q8 (ZF.mk kW kH kP) p Zi);by_cases h2:(l.eraseIdx i).length+(Q8 (ZF.mk kW kH kP) p Zi).length≤20
     ·rw[Ki ⟨hv,by omega,hl⟩,Ki ⟨hg,(aa hg).2 ⟨hk,h2⟩⟩];unfold Zmt Zgi;have n3:¬(20:Int)<((l.eraseIdx i).length:Int)+((Q8 (ZF.mk kW kH kP) p Zi).length:Int):=by omega
      have hr:((l.eraseIdx i).length+(Q8 (ZF.mk kW kH kP) p Zi).length)*48≤140737488355328∧(l.eraseIdx i).length+(Q8 (ZF.mk kW kH kP) p Zi).length≤140737488355328:=by omega
      clear aa hg hd;generalize U9 ⟨L,W,H,F⟩ (V3 l+1) (Q8 (ZF.mk kW kH kP) p Zi)=R at er ae ⊢;generalize (Q8 (ZF.mk kW kH kP) p Zi).length=N at *;obtain⟨yL,yW,yH,yF⟩:=y;simp only at ad;rw[ad] at er w2;obtain⟨o,a,m,t,ks⟩:=p;rw[Zf.enc_mk] at er eg ⊢;refine cE ?_;simp +contextual -implicitDefEqProofs (maxSteps:=10^7) only[go_sem,seval,↓gZ,X7,et,eg,n1,n2,w1,hy,ab,w2,er,ae,w3,n3,hr]
     ·rw[Ki ⟨hv,by omega,hl⟩,Kd (fun h=>h2 ((aa hg).1 h.2).2)];unfold Zgi;have n3:(20:Int)<((l.eraseIdx i).length:Int)+((Q8 (ZF.mk kW kH kP) p Zi).length:Int):=by omega
      clear aa hg hd;generalize U9 ⟨L,W,H,F⟩ (V3 l+1) (Q8 (ZF.mk kW kH kP) p Zi)=R at er ae ⊢;generalize (Q8 (ZF.mk kW kH kP) p Zi).length=N at *;obtain⟨yL,yW,yH,yF⟩:=y;simp only at ad;rw[ad] at er w2;obtain⟨o,a,m,t,ks⟩:=p;rw[Zf.enc_mk] at er eg ⊢;refine cE ?_;simp +contextual -implicitDefEqProofs (maxSteps:=10^7) only[go_sem,seval,↓gZ,X7,et,eg,n1,n2,w1,hy,ab,w2,er,ae,w3,n3]
    ·have er:=Zk8 L W H F kW kH kP p Zi (V3 l+1) (by omega) (by omega) hk;rw[Ki ⟨hv,by omega,hl⟩,Kd (fun h=>hk ((aa hg).1 h.2).1)];unfold Zgi;clear aa hg hd hk ag;obtain⟨yL,yW,yH,yF⟩:=y;simp only at ad;rw[ad] at er w2;obtain⟨o,a,m,t,ks⟩:=p;rw[Zf.enc_mk] at er eg ⊢;refine cE ?_;simp +contextual -implicitDefEqProofs (maxSteps:=10^7) only[go_sem,seval,↓gZ,X7,et,eg,n1,n2,w1,hy,ab,w2,er]
   ·rw[Kd (fun h=>hl ⟨h.2.2.1,h.2.2.2⟩)];unfold Zgi;clear aa hg hd;obtain⟨o,a,m,t,ks⟩:=p;rw[Zf.enc_mk] at eg ⊢;by_cases n1:Zi<1
    ·refine cE ?_;simp +contextual -implicitDefEqProofs (maxSteps:=10^7) only[go_sem,seval,↓gZ,X7,et,eg,n1]
    ·have n2:200<Zi:=by omega
     refine cE ?_;simp +contextual -implicitDefEqProofs (maxSteps:=10^7) only[go_sem,seval,↓gZ,X7,et,eg,n1,n2]
  ·have hd:decide (VPc ⟨L,W,H,F⟩∧Wt ⟨L,W,H,F⟩ (ZF.mk kW kH kP) p)=false:=Kk fun h=>hg h.2;rw[hd] at eg;have e0:(if VSt l∧(0:Int)≤(i:Int)∧1≤Zi∧Zi≤200 then (if Wt ⟨L,W,H,F⟩ (ZF.mk kW kH kP) p∧VSt (Zmt l i ⟨L,W,H,F⟩ (ZF.mk kW kH kP) p Zi) then some (Zmt l i ⟨L,W,H,F⟩ (ZF.mk kW kH kP) p Zi) else none) else none)=none:=by
    rw[Kd (fun h:Wt ⟨L,W,H,F⟩ (ZF.mk kW kH kP) p∧_=>hg h.1)];split<;>rfl
   rw[e0];unfold Zgi;clear aa hg hd e0;obtain⟨o,a,m,t,ks⟩:=p;rw[Zf.enc_mk] at eg ⊢;refine cE ?_;simp +contextual -implicitDefEqProofs (maxSteps:=10^7) only[go_sem,seval,↓gZ,X7,et,eg]
 ·have et:=Zg0 l n h;have e0:ZcT l n (ZF.mk kW kH kP) p Zi=none:=by
   unfold ZcT;rw[Kd (fun g=>h ⟨g.1,g.2.1⟩)]
  rw[e0];unfold Zgi;clear e0;obtain⟨o,a,m,t,ks⟩:=p;rw[Zf.enc_mk];refine cE ?_;simp +contextual -implicitDefEqProofs (maxSteps:=10^7) only[go_sem,seval,↓gZ,X7,et]
theorem ZwV {l:List Zb} {i:Nat} {x:Zb} {k:ZF} {p:Zf} {Zi:Int} (hv:VSt l) (hx:l[i]?=some x) (hg:Wt x k p) :
  (Zmt l i x k p Zi).length≤1000∧∀ y∈Zmt l i x k p Zi,y.Flaws.length<4611686018427387904∧R64 y.W∧R64 y.H:=by
 have hq:=Ql hv.2 x (Kc hx);refine⟨?_,fun y hy=>?_⟩
 ·unfold Zmt;rw[Kt,ZcE];have:=ZhE k p Zi;have:=Zla l i;have:=hv.1;omega
 ·rcases Kg.1 hy with hy | hy
  ·have h:=Ql hv.2 y (LD hy);have h1:=h.1;exact⟨by omega,⟨by omega,by omega⟩,⟨by omega,by omega⟩⟩
  ·obtain⟨j,hj⟩:=KV hy;obtain⟨b,hb,rfl⟩:=Zvi x _ _ j y hj;have aa:=(Zoj (Zi:=Zi) hg.1 b (Kc hb)).1;simp only[VB] at aa;have ab:=Kl (YF b) x.Flaws;have ad:=hq.1.2.2.2.2.2.2;simp only[Zoi];exact⟨by omega,⟨by omega,by omega⟩,⟨by omega,by omega⟩⟩
theorem Zqu (l:List Zb) (n:Int) (kW kH:Int) (kP:List Pane) (p:Zf) (Zi:Int) (hl:l.length≤1000) (hS:∀ x∈l,PcW x) (hk:kP.length<4611686018427387904):Ze Xs Ms Zab [(.d (.sl (l.map Zb.enc))),(.d (J n)),(.d (.agg [J kW,J kH,.sl (kP.map Pane.enc)])),.d p.enc,(.d (J Zi))] []=some (Zgi (ZcT l n (ZF.mk kW kH kP) p Zi)):=by
 have ev:=Yv l (by omega) (fun x hx=>by obtain⟨g1,g2,g3⟩:=hS x hx;exact⟨by omega,g2,g3⟩);have ef:=Yi l n (by omega);unfold ZcT;by_cases hv:VSt l
 ·rw[Kh hv] at ev;by_cases hf:0≤Qv 0 l n
  ·obtain⟨i,x,hi,hx⟩:=Zbk hf;rw[hi] at ef ⊢;have ad:¬(i:Int)<0:=by omega
   have af:=(Kb.1 hx).1;simp only[KD,hx];by_cases hr:1≤Zi∧Zi≤200
   ·have hq:=Ql hv.2 x (Kc hx);have al:=Zpa hv (by omega);have ew:=ZfA l i (by omega) (fun x hx=>by have:=(hS x hx).1;omega);have el:=ZgZ l (by omega);have w2:=wi (V3 l+1) (by omega) (by omega);rw[Ki ⟨hv,by omega,hr⟩];by_cases hg:Wt x (ZF.mk kW kH kP) p
    ·have ag:=ZwV (Zi:=Zi) hv hx hg;have aa:=Yv (Zmt l i x (ZF.mk kW kH kP) p Zi) (by omega) ag.2;have aj:(l.eraseIdx i).length≤20:=Kx (Zla _ _) hv.1;have am:=ZhE (ZF.mk kW kH kP) p Zi;obtain⟨L,W,H,F⟩:=x;have eg:=Zim L W H F kW kH kP p (fun f hf=>(hq.2 f hf).1) hq.1.2.2.2.2.2.2 hk;have er:=Zqs L W H F kW kH kP p Zi (V3 l+1) hq hg.1 (by omega) (by omega);rw[Kh hg] at eg;have ae:=ZcE ⟨L,W,H,F⟩ (V3 l+1) (Q8 (ZF.mk kW kH kP) p Zi);have ai:((l.eraseIdx i).length+(Q8 (ZF.mk kW kH kP) p Zi).length)*48≤140737488355328∧(l.eraseIdx i).length+(Q8 (ZF.mk kW kH kP) p Zi).length≤140737488355328:=by omega
     unfold Zmt at aa ⊢;have ah:=hg;clear hg;by_cases ab:VSt (l.eraseIdx i++U9 ⟨L,W,H,F⟩ (V3 l+1) (Q8 (ZF.mk kW kH kP) p Zi))
     ·rw[Kh ab] at aa;rw[Ki ⟨ah,ab⟩];unfold Zgi;clear ab ag ah;generalize U9 ⟨L,W,H,F⟩ (V3 l+1) (Q8 (ZF.mk kW kH kP) p Zi)=R at er ae aa ⊢;generalize (Q8 (ZF.mk kW kH kP) p Zi).length=N at *;obtain⟨o,a,m,t,ks⟩:=p;rw[Zf.enc_mk] at er eg ⊢;refine cE ?_;simp +contextual -implicitDefEqProofs (maxSteps:=10^7) only[go_sem,seval,↓gZ,YM,ev,ef,ad,ZJ,hr,hx,af,eg,ew,el,w2,er,ae,ai,aa]
     ·rw[Kk ab] at aa;rw[Kd (fun h=>ab h.2)];unfold Zgi;clear ab ag ah;generalize U9 ⟨L,W,H,F⟩ (V3 l+1) (Q8 (ZF.mk kW kH kP) p Zi)=R at er ae aa ⊢;generalize (Q8 (ZF.mk kW kH kP) p Zi).length=N at *;obtain⟨o,a,m,t,ks⟩:=p;rw[Zf.enc_mk] at er eg ⊢;refine cE ?_;simp +contextual -implicitDefEqProofs (maxSteps:=10^7) only[go_sem,seval,↓gZ,YM,ev,ef,ad,ZJ,hr,hx,af,eg,ew,el,w2,er,ae,ai,aa]
    ·rw[Kd (fun h=>hg h.1)];obtain⟨L,W,H,F⟩:=x;have eg:=Zim L W H F kW kH kP p (fun f hf=>(hq.2 f hf).1) hq.1.2.2.2.2.2.2 hk;rw[Kk hg] at eg;unfold Zgi;clear hg;obtain⟨o,a,m,t,ks⟩:=p;rw[Zf.enc_mk] at eg ⊢;refine cE ?_;simp +contextual -implicitDefEqProofs (maxSteps:=10^7) only[go_sem,seval,↓gZ,YM,ev,ef,ad,ZJ,hr,hx,af,eg]
   ·rw[Kd (fun h=>hr h.2.2)];unfold Zgi;obtain⟨o,a,m,t,ks⟩:=p;rw[Zf.enc_mk];refine cE ?_;simp +contextual -implicitDefEqProofs (maxSteps:=10^7) only[go_sem,seval,↓gZ,YM,ev,ef,ad,ZJ,hr]
  ·rw[Kd (fun h=>hf h.2.1)];have ak : Qv 0 l n<0:=by omega
   unfold Zgi;obtain⟨o,a,m,t,ks⟩:=p;rw[Zf.enc_mk];refine cE ?_;simp +contextual -implicitDefEqProofs (maxSteps:=10^7) only[go_sem,seval,↓gZ,YM,ev,ef,ak]
 ·rw[Kk hv] at ev;rw[Kd (fun h=>hv h.1)];unfold Zgi;obtain⟨o,a,m,t,ks⟩:=p;rw[Zf.enc_mk];refine cE ?_;simp +contextual -implicitDefEqProofs (maxSteps:=10^7) only[go_sem,seval,↓gZ,YM,ev]
theorem Zpb (l:List Zb) (hv:VSt l):Ze Xs Ms UJ [(.d (.sl (l.map Zb.enc)))] []=some ((.d (J (Y2 l))),[]):=by
 have ev:=V2 l;rw[Kh hv] at ev;have af:=hv.1;have aa:∀ x∈l,1≤x.W∧x.W≤200∧1≤x.H∧x.H≤200:=fun x hx=>by
  have:=(Ql hv.2 x hx).1;omega
 clear hv;refine cE ?_;simp +contextual -implicitDefEqProofs (maxSteps:=10^7) only[go_sem,seval,↓gZ,ZdY,ev];refine LO (α:=Nat) (fun i=>[(11,.d (J (i:Int))),(3,.d (J (Y2 (l.take i))))]) (fun _=>[]) (fun i=>i≤l.length) (fun i=>l.length-i) 0 (by omega) ?_;intro i hi ih;by_cases ab:i<l.length
 ·obtain⟨x,hx⟩:=Zr ab;have hw:=Zj (k:=i) (by omega);have hm:=Zo5 hx;have ag:=Zb8 (l:=l.take i) (fun y hy=>aa y (K0 hy));have ah:(l.take i).length≤i:=by simp;omega
  have g5:=aa x (Kc hx);have ad:x.W*x.H≤200*200:=LS (by omega) (by omega) (by omega) (by omega);have ae:0≤x.W*x.H:=LR (by omega) (by omega);obtain⟨xL,xW,xH,xF⟩:=x;simp only at g5 hm ad ae;have u0:=wi (xW*xH) (by omega) (by omega);have u1:=wi (Y2 (l.take i)+xW*xH) (by omega) (by omega);simp +contextual -implicitDefEqProofs (maxSteps:=10^7) only[go_sem,seval,↓gZ,hx,ab,hw,u0,u1];refine ih (i+1) _ (by omega) (by omega) ?_;simp +contextual -implicitDefEqProofs (maxSteps:=10^7) only[go_sem,seval,↓gZ,hm]
 ·have:i=l.length:=by omega
  subst this;simp +contextual -implicitDefEqProofs (maxSteps:=10^7) only[go_sem,seval,↓gZ,La]
end Go.Proofs.YtcefneehgbiebaaGreatDoor
