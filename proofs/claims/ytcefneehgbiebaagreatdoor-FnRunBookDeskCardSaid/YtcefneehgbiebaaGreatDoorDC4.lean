/- Own text. -/
import Derived.Test.YtcefneehgbiebaaGreatDoorDCode
import Derived.Test.YtcefneehgbiebaaGreatDoorAbsParts
import Derived.Test.YtcefneehgbiebaaGreatDoorDC3
namespace Go.Proofs.YtcefneehgbiebaaGreatDoor
open Go Go.Abs Go.Abs.E Go.Abs.L
open Nat (reduceMul reduceSub reduceLeDiff reduceEqDiff)
open Int (reduceLE reduceEq reduceToNat reduceNeg)
set_option linter.unusedSimpArgs false
set_option linter.unusedVariables false
set_option maxRecDepth 20000
set_option maxHeartbeats 4000000
def XC:Int→List Zb→Prop
 | _,[]=>True
 | b,x :: l=>VPc x∧b<x.Label∧XC x.Label l
instance sortFdec:∀ (b:Int) (l:List Zb),Decidable (XC b l)
 | _,[]=>.isTrue trivial
 | b,x :: l=>by unfold XC;exact @instDecidableAnd _ _ _ (@instDecidableAnd _ _ _ (sortFdec x.Label l))
def VSt (l:List Zb):Prop:=l.length≤20∧XC 0 l
instance (l:List Zb):Decidable (VSt l):=by unfold VSt;infer_instance
theorem Zp2 {l:List Zb} {k:Nat} {x:Zb} {b:Int} (hx:l[k]?=some x):XC b (l.drop k)↔VPc x∧b<x.Label∧XC x.Label (l.drop (k+1)):=by
 obtain⟨h1,h2⟩:=Kb.1 hx;rw[Kw h1,h2,XC]
theorem Zts {l:List Zb} {b:Int}:XC b (l.drop l.length):=by simp[XC]
theorem Wf (l:List Zb):Ze Xs Ms XS [(.d (.sl (l.map Zb.enc)))] []=some ((.d (.bool (decide (VSt l)))),[]):=by
 by_cases ab:(20:Int)<(l.length:Int)
 ·have hn:¬VSt l:=fun h=>by have:=h.1;omega
  refine cE ?_;simp +contextual -implicitDefEqProofs (maxSteps:=10^7) only[go_sem,seval,↓gZ,ZaQ,ab,hn]
 ·have ad:l.length≤20:=by omega
  refine cE ?_;simp +contextual -implicitDefEqProofs (maxSteps:=10^7) only[go_sem,seval,↓gZ,ZaQ,ab];refine LO (α:=Nat×Int) (fun s=>[(11,.d (J (s.1:Int))),(3,.d (J s.2))]) (fun _=>[]) (fun s=>s.1≤l.length∧(XC 0 l↔XC s.2 (l.drop s.1))) (fun s=>l.length-s.1) (0,0) ⟨by simp,by simp⟩ ?_;intro⟨i,b⟩ ⟨hi,hp⟩ ih;simp only at hi hp;by_cases aa:i<l.length
  ·obtain⟨x,hx⟩:=Zs aa;have hw:=Zj (k:=i) (by omega);rw[Zp2 hx] at hp;have ev:=Xn x.Label x.W x.H x.Flaws;obtain⟨L,W,H,F⟩:=x;simp only at hp ev;by_cases hv:VPc ⟨L,W,H,F⟩
   ·rw[Ki hv] at ev;by_cases hb:L≤b
    ·have hn:¬VSt l:=fun h=>by have:=(hp.1 h.2).2.1;omega
     simp +contextual -implicitDefEqProofs (maxSteps:=10^7) only[go_sem,seval,↓gZ,hx,aa,hw,ev,hb,hn]
    ·simp +contextual -implicitDefEqProofs (maxSteps:=10^7) only[go_sem,seval,↓gZ,hx,aa,hw,ev,hb];refine ih (i+1,L) _ ⟨by simp only;omega,?_⟩ (by simp only;omega) ?_
     ·rw[hp];exact⟨fun h=>h.2.2,fun h=>⟨hv,by omega,h⟩⟩
     ·simp +contextual -implicitDefEqProofs (maxSteps:=10^7) only[go_sem,seval,↓gZ]
   ·rw[Kk hv] at ev;have hn:¬VSt l:=fun h=>hv (hp.1 h.2).1;simp +contextual -implicitDefEqProofs (maxSteps:=10^7) only[go_sem,seval,↓gZ,hx,aa,hw,ev,hn]
  ·have:i=l.length:=by omega
   subst this;have hy:VSt l:=⟨ad,hp.2 Zts⟩
   simp +contextual -implicitDefEqProofs (maxSteps:=10^7) only[go_sem,seval,↓gZ,hy]
def ZkJ (l:List Zb):Nat→Int
 | 0=>0
 | j+1=>match l[j]? with
  | some x=>x.Label
  | none=>0
theorem YE (l:List Zb) (hl:l.length<4611686018427387904) (hS:∀ x∈l,x.Flaws.length<4611686018427387904∧R64 x.W∧R64 x.H):Ze Xs Ms Q3 [(.d (.sl (l.map Zb.enc)))] []=some ((.d (.bool (decide (VSt l)))),[]):=by
 refine cE ?_;simp +contextual -implicitDefEqProofs (maxSteps:=10^7) only[go_sem,seval,↓gZ,ZdJ];refine LO (α:=Nat) (fun i=>[(3,.d (J (i:Int)))]) (fun _=>[]) (fun i=>i≤l.length∧(XC 0 l↔XC (ZkJ l i) (l.drop i))) (fun i=>l.length-i) 0 ⟨by simp,by simp[ZkJ]⟩ ?_;intro i ⟨hi,hp⟩ ih;by_cases aa:i<l.length
 ·obtain⟨x,hx⟩:=Zs aa;have hw:=Zj (k:=i) (by omega);rw[Zp2 hx] at hp;obtain⟨ag,ah,ai⟩:=hS x (Kc hx);have ev:=ZgJ x.Label x.W x.H x.Flaws ag ah ai;have ad:ZkJ l (i+1)=x.Label:=by simp only[ZkJ,hx]
  obtain⟨L,W,H,F⟩:=x;simp only at hp ev ad;by_cases hv:VPc ⟨L,W,H,F⟩
  ·rw[Ki hv] at ev;have hL:1≤L:=hv.1.1;cases i with
   | zero=>
    have ae : (0:Int)<(l.length:Int):=by omega
    simp +contextual -implicitDefEqProofs (maxSteps:=10^7) only[go_sem,seval,↓gZ,hx,aa,ae,hw,ev];refine ih 1 _ ⟨by omega,?_⟩ (by omega) ?_
    ·rw[hp,ad];exact⟨fun h=>h.2.2,fun h=>⟨hv,by simp only[ZkJ];omega,h⟩⟩
    ·simp +contextual -implicitDefEqProofs (maxSteps:=10^7) only[go_sem,seval,↓gZ]
   | succ j=>
    obtain⟨y,hy⟩:=Zs (l:=l) (k:=j) (by omega);have aj:ZkJ l (j+1)=y.Label:=by simp only[ZkJ,hy]
    rw[aj] at hp;have hj:IntKind.i64.wrap (((j+1:Nat):Int)-1)=(j:Int):=by rw[UM (by omega) (by omega)];omega
    have ab:(0:Int)<((j+1:Nat):Int):=by omega
    have af:j<l.length:=by omega
    obtain⟨L',W',H',F'⟩:=y;simp only at hp;by_cases hb:L≤L'
    ·have hn:¬VSt l:=fun h=>by have:=(hp.1 h.2).2.1;omega
     simp +contextual -implicitDefEqProofs (maxSteps:=10^7) only[go_sem,seval,↓gZ,hx,aa,hw,ev,ab,hj,af,hy,hb,hn]
    ·simp +contextual -implicitDefEqProofs (maxSteps:=10^7) only[go_sem,seval,↓gZ,hx,aa,hw,ev,ab,hj,af,hy,hb];refine ih (j+1+1) _ ⟨by omega,?_⟩ (by omega) ?_
     ·rw[hp,ad];exact⟨fun h=>h.2.2,fun h=>⟨hv,by omega,h⟩⟩
     ·simp +contextual -implicitDefEqProofs (maxSteps:=10^7) only[go_sem,seval,↓gZ]
  ·rw[Kk hv] at ev;have hn:¬VSt l:=fun h=>hv (hp.1 h.2).1;simp +contextual -implicitDefEqProofs (maxSteps:=10^7) only[go_sem,seval,↓gZ,hx,aa,hw,ev,hn]
 ·have:i=l.length:=by omega
  subst this;have hs:=hp.2 Zts;simp +contextual -implicitDefEqProofs (maxSteps:=10^7) only[go_sem,seval,↓gZ];exact ZdW (by simp only[VSt];constructor<;>(intro h;first | exact⟨by omega,hs⟩ | (have:=h.1;omega)))
def Qy:Nat→List Zb→Int→Int
 | _,[],_=>-1
 | k,x :: l,n=>if x.Label=n then (k:Int) else Qy (k+1) l n
theorem Ztt {l:List Zb} {k:Nat} {x:Zb} {n:Int} (hx:l[k]?=some x):Qy k (l.drop k) n=if x.Label=n then (k:Int) else Qy (k+1) (l.drop (k+1)) n:=by
 obtain⟨h1,h2⟩:=Kb.1 hx;rw[Kw h1,h2,Qy]
theorem ZlS (qL qW qH:Int) (qF:List Box) (n:Int):Ze Xs Ms YJ [(.d (.agg [J qL,J qW,J qH,.sl (qF.map Box.enc)])),.ptr 0 0] [.box [(.d (J n))]]=some ((.d (.bool (decide (qL=n)))),[.box [(.d (J n))]]):=by
 refine cE ?_;simp +contextual -implicitDefEqProofs (maxSteps:=10^7) only[go_sem,seval,↓gZ,Zcj]
theorem ZuB (l:List Zb) (n:Int) (hl:l.length<4611686018427387904):Ze Xs Ms XW [(.d (.sl (l.map Zb.enc))),.clo YJ [.ptr 0 0]] [.box [(.d (J n))]]=some ((.d (J (Qy 0 l n))),[.box [(.d (J n))]]):=by
 refine cE ?_;simp +contextual -implicitDefEqProofs (maxSteps:=10^7) only[go_sem,seval,↓gZ,Uf];refine LO (α:=Nat) (fun k=>[(8,.d (J (k:Int)))]) (fun _=>[]) (fun k=>k≤l.length∧Qy k (l.drop k) n=Qy 0 l n) (fun k=>l.length-k) 0 ⟨by omega,rfl⟩ ?_;intro k ⟨hk,hp⟩ ih;by_cases aa:k<l.length
 ·obtain⟨x,hx⟩:=Zs aa;rw[Ztt hx] at hp;have hw:=Zj (k:=k) (by omega);have e1:=ZlS x.Label x.W x.H x.Flaws n;obtain⟨L,W,H,F⟩:=x;simp only at hp e1;by_cases h:L=n
  ·rw[Kh h] at hp;rw[Ki h] at e1;simp +contextual -implicitDefEqProofs (maxSteps:=10^7) only[go_sem,seval,↓gZ,hx,aa,hw,e1];rw[← hp]
  ·rw[Ke h] at hp;rw[Kk h] at e1;simp +contextual -implicitDefEqProofs (maxSteps:=10^7) only[go_sem,seval,↓gZ,hx,aa,hw,e1];refine ih (k+1) _ ⟨by omega,hp⟩ (by omega) ?_;simp +contextual -implicitDefEqProofs (maxSteps:=10^7) only[go_sem,seval,↓gZ]
 ·have:k=l.length:=by omega
  subst this;simp +contextual -implicitDefEqProofs (maxSteps:=10^7) only[go_sem,seval,↓gZ];rw[← hp];simp[Qy]
theorem Vq (l:List Zb) (n:Int) (hl:l.length<4611686018427387904):Ze Xs Ms Yg [(.d (.sl (l.map Zb.enc))),(.d (J n))] []=some ((.d (J (Qy 0 l n))),[]):=by
 refine cE ?_;simp +contextual -implicitDefEqProofs (maxSteps:=10^7) only[go_sem,seval,↓gZ,ZeE,ZuB l n hl]
theorem Yq (l:List Zb) (n:Int) (hl:l.length<4611686018427387904):Ze Xs Ms XH [(.d (.sl (l.map Zb.enc))),(.d (J n))] []=some ((.d (J (Qy 0 l n))),[]):=by
 refine cE ?_;simp +contextual -implicitDefEqProofs (maxSteps:=10^7) only[go_sem,seval,↓gZ,ZeG];refine LO (α:=Nat) (fun k=>[(5,.d (J (k:Int)))]) (fun _=>[]) (fun k=>k≤l.length∧Qy k (l.drop k) n=Qy 0 l n) (fun k=>l.length-k) 0 ⟨by omega,rfl⟩ ?_;intro k ⟨hk,hp⟩ ih;by_cases aa:k<l.length
 ·obtain⟨x,hx⟩:=Zs aa;rw[Ztt hx] at hp;have hw:=Zj (k:=k) (by omega);obtain⟨L,W,H,F⟩:=x;simp only at hp;by_cases h:L=n
  ·rw[Kh h] at hp;simp +contextual -implicitDefEqProofs (maxSteps:=10^7) only[go_sem,seval,↓gZ,hx,aa,hw,h];rw[← hp]
  ·rw[Ke h] at hp;simp +contextual -implicitDefEqProofs (maxSteps:=10^7) only[go_sem,seval,↓gZ,hx,aa,hw,h];refine ih (k+1) _ ⟨by omega,hp⟩ (by omega) ?_;simp +contextual -implicitDefEqProofs (maxSteps:=10^7) only[go_sem,seval,↓gZ]
 ·have:k=l.length:=by omega
  subst this;simp +contextual -implicitDefEqProofs (maxSteps:=10^7) only[go_sem,seval,↓gZ];rw[← hp];simp[Qy]
theorem Zam (qL qW qH:Int) (qF:List Box) (hF:qF.length≤1000000):Ze Xs Ms XI [(.d (.agg [J qL,J qW,J qH,.sl (qF.map Box.enc)]))] []=some (.agg [(.d (J qL)),(.d (J qW)),(.d (J qH)),.own 0],[.row 4 (qF.map Box.enc) true false]):=by
 have hr:qF.length*32≤140737488355328∧qF.length≤140737488355328:=by omega
 refine cE ?_;simp +contextual -implicitDefEqProofs (maxSteps:=10^7) only[go_sem,seval,↓gZ,ZeH,hr]
theorem Vr (qL qW qH:Int) (qF:List Box) (hF:qF.length≤1000000):Ze Xs Ms XJ [(.d (.agg [J qL,J qW,J qH,.sl (qF.map Box.enc)]))] []=some (.agg [(.d (J qL)),(.d (J qW)),(.d (J qH)),.own 0],[.row 4 (qF.map Box.enc) true false]):=by
 have hr:qF.length*32≤140737488355328∧qF.length≤140737488355328:=by omega
 refine cE ?_;simp +contextual -implicitDefEqProofs (maxSteps:=10^7) only[go_sem,seval,↓gZ,ZeL,hr]
theorem Zp3:∀ (F:List Box),Zb0 D.flat (F.map Box.enc)=true
 | []=>rfl
 | x :: F=>by simp only[Kj,Zb0,Zp3 F,LZ];rfl
theorem Zdt (l:List Zb) (hl:l.length≤1000000) (hF:∀ x∈l,x.Flaws.length≤1000000):Ze Xs Ms Y3 [(.d (.sl (l.map Zb.enc)))] []=some (.own 0,[.deep 4 4 (l.map Zb.enc) none]):=by
 refine cE ?_;simp +contextual -implicitDefEqProofs (maxSteps:=10^7) only[go_sem,seval,↓gZ,ZeC];refine LO (α:=Nat) (fun i=>[(8,.d (J (i:Int)))]) (fun i=>[(0,.deep 4 4 ((l.take i).map Zb.enc) none)]) (fun i=>i≤l.length) (fun i=>l.length-i) 0 (by omega) ?_;intro i hi ih;by_cases aa:i<l.length
 ·obtain⟨x,hx⟩:=Zs aa;have hw:=Zj (k:=i) (by omega);have hm:l.take (i+1)=l.take i++[x]:=by rw[KL,hx];simp
  have ad:(l.take i).length≤i:=by simp;omega
  have hr:((l.take i).length+1)*48≤140737488355328∧(l.take i).length≤140737488355327:=by omega
  have e:=Zam x.Label x.W x.H x.Flaws (hF x (Kc hx));obtain⟨L,W,H,F⟩:=x;simp only at e;have ab:=Zp3 F;simp +contextual -implicitDefEqProofs (maxSteps:=10^7) only[go_sem,seval,↓gZ,hx,aa,hw,e,hr,ab];refine ih (i+1) _ (by omega) (by omega) ?_;simp +contextual -implicitDefEqProofs (maxSteps:=10^7) only[go_sem,seval,↓gZ,hm]
  first | rfl | (simp;done) | (simp;rfl)
 ·have:i=l.length:=by omega
  subst this;simp +contextual -implicitDefEqProofs (maxSteps:=10^7) only[go_sem,seval,↓gZ];simp
theorem Zx5 {α:Type} {l:List α} {i a:Nat} {x:α} (hx:l[i]?=some x) (h:i≠a):(l.take (i+1)).eraseIdx a=(l.take i).eraseIdx a++[x]:=by
 have h1:=(Kb.1 hx).1;have e:l.take (i+1)=l.take i++[x]:=by rw[KL,hx];simp
 rw[e];have hl:(l.take i).length=i:=by simp;omega
 rcases KZ a i with h2 | h2
 ·rw[List.eraseIdx_append_of_lt_length (by omega)]
 ·rw[L4 (by simp;omega),L4 (by omega)]
theorem Zx6 {α:Type} {l:List α} {i:Nat} {x:α} (hx:l[i]?=some x):(l.take (i+1)).eraseIdx i=(l.take i).eraseIdx i:=by
 have h1:=(Kb.1 hx).1;have e:l.take (i+1)=l.take i++[x]:=by rw[KL,hx];simp
 have hl:(l.take i).length=i:=by simp;omega
 rw[e,List.eraseIdx_append_of_length_le (by omega),hl];simp;rw[L4 (by omega)]
theorem ZlT {α:Type} (l:List α) (a:Nat):(l.eraseIdx a).length≤l.length:=by
 have:=List.length_eraseIdx_le l a;omega
theorem Zga (l:List Zb) (a:Nat) (hl:l.length≤1000000) (hF:∀ x∈l,x.Flaws.length≤1000000):Ze Xs Ms VO [(.d (.sl (l.map Zb.enc))),(.d (J a))] []=some (.own 0,[.row 4 ((l.eraseIdx a).map Zb.enc) true false]):=by
 refine cE ?_;simp +contextual -implicitDefEqProofs (maxSteps:=10^7) only[go_sem,seval,↓gZ,Zec];refine LO (α:=Nat) (fun i=>[(6,.d (J (i:Int)))]) (fun i=>[(0,.row 4 (((l.take i).eraseIdx a).map Zb.enc) true false)]) (fun i=>i≤l.length) (fun i=>l.length-i) 0 (by omega) ?_;intro i hi ih;by_cases aa:i<l.length
 ·obtain⟨x,hx⟩:=Zs aa;have hw:=Zj (k:=i) (by omega);by_cases ab:i=a
  ·subst ab;have hm:=Zx6 hx;simp +contextual -implicitDefEqProofs (maxSteps:=10^7) only[go_sem,seval,↓gZ,hx,aa,hw];refine ih (i+1) _ (by omega) (by omega) ?_;simp +contextual -implicitDefEqProofs (maxSteps:=10^7) only[go_sem,seval,↓gZ,hm]
  ·have hm:=Zx5 hx ab;have ad:((l.take i).eraseIdx a).length≤i:=Kz (ZlT _ _) (by simp;omega);have hr:(((l.take i).eraseIdx a).length+1)*48≤140737488355328∧((l.take i).eraseIdx a).length≤140737488355327:=by omega
   have e:=Vr x.Label x.W x.H x.Flaws (hF x (Kc hx));obtain⟨L,W,H,F⟩:=x;simp only at e;simp +contextual -implicitDefEqProofs (maxSteps:=10^7) only[go_sem,seval,↓gZ,hx,aa,hw,ab,e,hr];refine ih (i+1) _ (by omega) (by omega) ?_;simp +contextual -implicitDefEqProofs (maxSteps:=10^7) only[go_sem,seval,↓gZ,hm]
   first | rfl | (simp;done) | (simp;rfl)
 ·have:i=l.length:=by omega
  subst this;simp +contextual -implicitDefEqProofs (maxSteps:=10^7) only[go_sem,seval,↓gZ];simp
def Wg (l:List Zb):Int:=ZkJ l l.length
theorem ZlU {l:List Zb} {x:Zb} (hx:l[l.length-1]?=some x):Wg l=x.Label:=by
 have h:=(Kb.1 hx).1;unfold Wg;obtain⟨n,hn⟩:∃ n,l.length=n+1:=⟨l.length-1,by omega⟩
 rw[hn] at hx ⊢;simp only[ZkJ];simp only[Nat.add_sub_cancel] at hx;rw[hx]
theorem Zhx (l:List Zb) (hl:l.length<4611686018427387904):Ze Xs Ms Y1 [(.d (.sl (l.map Zb.enc)))] []=some ((.d (J (Wg l))),[]):=by
 by_cases h0:l.length=0
 ·have e:Wg l=0:=by unfold Wg;rw[h0];rfl
  have aa : (l.length:Int)=0:=by omega
  rw[e];refine cE ?_;simp +contextual -implicitDefEqProofs (maxSteps:=10^7) only[go_sem,seval,↓gZ,ZbE,aa]
 ·obtain⟨x,hx⟩:=Zs (l:=l) (k:=l.length-1) (by omega);have e:=ZlU hx;have hn:¬(l.length:Int)=0:=by omega
  have hw:IntKind.i64.wrap ((l.length:Int)-1)=((l.length-1:Nat):Int):=by rw[UM (by omega) (by omega)];omega
  have ab:l.length-1<l.length:=by omega
  obtain⟨L,W,H,F⟩:=x;simp only at e;refine cE ?_;simp +contextual -implicitDefEqProofs (maxSteps:=10^7) only[go_sem,seval,↓gZ,ZbE,hn,hw,hx,ab,e]
theorem Zp4:∀ (l:List Zb) (k:Nat) (n:Int),Qy k l n=-1∨∃ i:Nat,Qy k l n=((k+i:Nat):Int)∧i<l.length
 | [],k,n=>.inl rfl
 | x :: l,k,n=>by
  unfold Qy;split
  ·exact .inr ⟨0,by simp,by simp⟩
  ·rcases Zp4 l (k+1) n with h | ⟨i,h1,h2⟩
   ·exact .inl h
   ·exact .inr ⟨i+1,by rw[h1];congr 1;omega,by simp;omega⟩
theorem Qr:∀ {l:List Zb} {b:Int},XC b l→∀ x∈l,VPc x
 | [],_,_,x,hx=>by simp at hx
 | y :: l,b,h,x,hx=>by
  rcases Kd.1 hx with rfl | hx
  ·exact h.1
  ·exact Qr h.2.2 x hx
theorem ZcT {l:List Zb} (h:VSt l):l.length≤1000000∧∀ x∈l,x.Flaws.length≤1000000:=by
 refine⟨by have:=h.1;omega,fun x hx=>?_⟩;have:=(Qr h.2 x hx).1.2.2.2.2.2.2;omega
theorem Zhy (l:List Zb) (n:Int) (h:¬(VSt l∧0≤Qy 0 l n)):Ze Xs Ms Y7 [(.d (.sl (l.map Zb.enc))),(.d (J n))] [] =
  some (.tup [.agg [(.d (J 0)),(.d (J 0)),(.d (J 0)),.own 0],.own 1,(.d (.bool false))],[.row 4 [] true false,.row 4 [] true false]):=by
 have ev:=Wf l;by_cases hv:VSt l
 ·rw[Ki hv] at ev;have hf:=Vq l n (by have:=hv.1;omega);have hn:Qy 0 l n<0:=by
   rcases Int.lt_or_le (Qy 0 l n) 0 with h1 | h1
   ·exact h1
   ·exact absurd ⟨hv,h1⟩ h
  refine cE ?_;simp +contextual -implicitDefEqProofs (maxSteps:=10^7) only[go_sem,seval,↓gZ,Jk,ev,hf,hn]
 ·rw[Kk hv] at ev;refine cE ?_;simp +contextual -implicitDefEqProofs (maxSteps:=10^7) only[go_sem,seval,↓gZ,Jk,ev]
theorem ZgL (l:List Zb) (n:Int) (hv:VSt l) (i:Nat) (hi:Qy 0 l n=(i:Int)) (qL qW qH:Int) (qF:List Box) (hx:l[i]?=some (Zb.mk qL qW qH qF)):Ze Xs Ms Y7 [(.d (.sl (l.map Zb.enc))),(.d (J n))] [] =
  some (.tup [.agg [(.d (J qL)),(.d (J qW)),(.d (J qH)),.own 0],.own 1,(.d (.bool true))],[.row 4 (qF.map Box.enc) true false,.row 4 ((l.eraseIdx i).map Zb.enc) true false]):=by
 have ev:=Wf l;rw[Ki hv] at ev;have ab:i<l.length:=(Kb.1 hx).1;have ad:=hv.1;obtain⟨h1,h2⟩:=ZcT hv;have hf:=Vq l n (by omega);rw[hi] at hf;have hw:=Zj (k:=i) (by omega);have c1:=Zdt (l.take i) (by simp;omega) (fun x hx=>h2 x (K0 hx));have c2:=Zdt (l.drop (i+1)) (by simp;omega) (fun x hx=>h2 x (LH hx));have e:=Zam qL qW qH qF (h2 (Zb.mk qL qW qH qF) (Kc hx));have hr:((l.take i).length+(l.drop (i+1)).length)*48≤140737488355328∧(l.take i).length+(l.drop (i+1)).length≤140737488355328:=by simp;omega
 have ae:i≤l.length:=by omega
 have aa:i+1≤l.length:=by omega
 have af:¬(i:Int)<0:=by omega
 rw[List.eraseIdx_eq_take_drop_succ];refine cE ?_;simp +contextual -implicitDefEqProofs (maxSteps:=10^7) only[go_sem,seval,↓gZ,Jk,Zm8,ev,hf,af,hw,hx,ab,ae,aa,c1,c2,e,hr,K1]
def PcW (x:Zb):Prop:=x.Flaws.length≤6∧R64 x.W∧R64 x.H
theorem Zx7 {b c:Int} (h:b≤c):∀ {l:List Zb},XC c l→XC b l
 | [],_=>trivial
 | x :: l,hs=>⟨hs.1,by have:=hs.2.1;omega,hs.2.2⟩
theorem Zhz:∀ {l:List Zb} {b:Int} (i:Nat),XC b l→XC b (l.eraseIdx i)
 | [],b,i,_=>by simp[XC]
 | x :: l,b,0,h=>by
  simp only[List.eraseIdx_cons_zero];exact Zx7 (by have:=h.2.1;omega) h.2.2
 | x :: l,b,i+1,h=>by
  simp only[List.eraseIdx_cons_succ];exact⟨h.1,h.2.1,Zhz i h.2.2⟩
theorem ZlV:∀ {l:List Zb} {b:Int},XC b l→∀ (i j:Nat) (x y:Zb),i≤j→l[i]?=some x→l[j]?=some y→x.Label≤y.Label∧b<x.Label
 | [],b,_,i,j,x,y,_,hx,_=>by simp at hx
 | z :: l,b,h,0,0,x,y,_,hx,hy=>by
  simp at hx hy;subst hx;subst hy;exact⟨Int.le_refl _,h.2.1⟩
 | z :: l,b,h,0,j+1,x,y,_,hx,hy=>by
  simp at hx hy;subst hx;have:=(ZlV h.2.2 j j y y (Kt _) hy hy).2;exact⟨by omega,h.2.1⟩
 | z :: l,b,h,i+1,j+1,x,y,hij,hx,hy=>by
  simp at hx hy;have:=ZlV h.2.2 i j x y (by omega) hx hy;have h2:=h.2.1;exact⟨this.1,by omega⟩
 | z :: l,b,h,i+1,0,x,y,hij,hx,hy=>by omega
theorem Zp5 {q:Zb} (hq:VPc q):∀ {L:List Box} {n c:Int},c<n→1≤n→(∀ b∈L,VB b∧Wz b ⟨0,0,q.W,q.H⟩)→(XC c (JA q n L)↔(L=[]∨(L.length:Int)≤10000-n))
 | [],n,c,_,_,_=>by simp[JA,XC]
 | b :: L,n,c,hc,h1,hb=>by
  have ih:=Zp5 hq (L:=L) (n:=n+1) (c:=n) (by omega) (by omega) (fun d hd=>hb d (by simp[hd]));have hv:VPc (Zo9 q b n)↔n≤9999:=⟨fun h=>by have:=h.1.2.1;simpa [Zo9] using this,fun h=>Zxy hq (hb b (by simp)).1 (hb b (by simp)).2 h1 h⟩
  simp only[JA,XC,hv,ih];have e:(Zo9 q b n).Label=n:=rfl;rw[e,ih];have hl:((b :: L).length:Int)=L.length+1:=by simp
  constructor
  ·rintro ⟨g1,g2,g3⟩
   right
   rcases g3 with rfl | g3
   ·simp only[Kp,KO];omega
   ·omega
  ·rintro (g | g)
   ·cases g
   ·refine⟨by omega,hc,?_⟩;by_cases h0:L=[]
    ·exact .inl h0
    ·exact .inr (by omega)
theorem Ztu {B:List Zb} {n:Int} {Q:Prop} (hB:∀ c,c<n→(XC c B↔Q)):∀ {A:List Zb} {b:Int},XC b A→(∀ x∈A,x.Label<n)→b<n→(XC b (A++B)↔Q)
 | [],b,_,_,hb=>hB b hb
 | x :: A,b,h,hx,hb=>by
  have ih:=Ztu hB h.2.2 (fun y hy=>hx y (by simp[hy])) (hx x (by simp));simp only[Kv,XC,ih];exact⟨fun g=>g.2.2,fun g=>⟨h.1,h.2.1,g⟩⟩
theorem Zp6 {l:List Zb} (hv:VSt l) (ab:0<l.length):1≤Wg l∧Wg l≤9999∧∀ x∈l,x.Label≤Wg l:=by
 obtain⟨y,hy⟩:=Zs (l:=l) (k:=l.length-1) (by omega);rw[ZlU hy];have aa:=(Qr hv.2 y (Kc hy)).1;refine⟨aa.1,aa.2.1,fun x hx=>?_⟩;obtain⟨i,hi⟩:=K3 hx;have:=(Kb.1 hi).1;exact(ZlV hv.2 i (l.length-1) x y (by omega) hi hy).1
def Znk (l:List Zb) (i:Nat) (x:Zb) (k:ZI) (p:Zf) (Zi:Int):List Zb:=l.eraseIdx i++JA x (Wg l+1) (Xc k p Zi)
theorem ZCS {l:List Zb} {i:Nat} {x:Zb} {k:ZI} {p:Zf} {Zi:Int} (hv:VSt l) (hx:l[i]?=some x) (hg:WJ x k p) :
  VSt (Znk l i x k p Zi)↔((Xc k p Zi).length:Int)≤10000-(Wg l+1)∧(l.eraseIdx i).length+(Xc k p Zi).length≤20:=by
 have ab:=(Kb.1 hx).1;obtain⟨h1,h2,h3⟩:=Zp6 hv (by omega);have hq:=Qr hv.2 x (Kc hx);have aa:∀ b∈Xc k p Zi,VB b∧Wz b ⟨0,0,x.W,x.H⟩:=fun b hb=>by
  have:=Zpa (Zi:=Zi) hg.1 b hb;rw[← hg.2.1,← hg.2.2.1];exact this
 have hs:=Ztu (n:=Wg l+1) (fun c hc=>Zp5 hq hc (by omega) aa) (Zhz i hv.2) (fun y hy=>by have:=h3 y (LK hy);omega) (by omega);unfold VSt Znk;rw[hs,Kr,Zde];constructor
 ·rintro ⟨g1,g2 | g2⟩
  ·exact⟨by rw[g2];simp;omega,g1⟩
  ·exact⟨g2,g1⟩
 ·rintro ⟨g1,g2⟩
  exact⟨g2,.inr g1⟩
def Zdu (l:List Zb) (n:Int) (k:ZI) (p:Zf) (Zi:Int):Option (List Zb):=
 if VSt l∧0≤Qy 0 l n∧1≤Zi∧Zi≤200 then
  match l[(Qy 0 l n).toNat]? with
  | some x=>if WJ x k p∧VSt (Znk l (Qy 0 l n).toNat x k p Zi) then some (Znk l (Qy 0 l n).toNat x k p Zi) else none
  | none=>none
 else none
def ZgQ:Option (List Zb)→AV×List Zm
 | some R=>(.tup [.own 0,(.d (.bool true))],[.row 4 (R.map Zb.enc) true false])
 | none=>(.tup [.own 0,(.d (.bool false))],[.row 4 [] true false])
theorem ZbN {l:List Zb} {n:Int} (h:0≤Qy 0 l n):∃ (i:Nat) (x:Zb),Qy 0 l n=(i:Int)∧l[i]?=some x:=by
 rcases Zp4 l 0 n with h1 | ⟨i,h1,h2⟩
 ·omega
 ·obtain⟨x,hx⟩:=Zs h2;exact⟨i,x,by rw[h1];simp,hx⟩
theorem Zrs (l:List Zb) (n:Int) (kW kH:Int) (kP:List Pane) (p:Zf) (Zi:Int):Ze Xs Ms ZaD [(.d (.sl (l.map Zb.enc))),(.d (J n)),(.d (.agg [J kW,J kH,.sl (kP.map Pane.enc)])),.d p.enc,(.d (J Zi))] []=some (ZgQ (Zdu l n (ZI.mk kW kH kP) p Zi)):=by
 by_cases h:VSt l∧0≤Qy 0 l n
 ·obtain⟨hv,hf⟩:=h;obtain⟨i,x,hi,hx⟩:=ZbN hf;have ah:=(Kb.1 hx).1;have hq:=Qr hv.2 x (Kc hx);have ai:=Zp6 hv (by omega);obtain⟨y,hy⟩:=Zs (l:=l) (k:=l.length-1) (by omega);have ad:=ZlU hy;have af:=hv.1;have aa:=ZCS (k:=(ZI.mk kW kH kP)) (p:=p) (Zi:=Zi) hv hx;have et:=fun q1 q2 q3 q4 h=>ZgL l n hv i hi q1 q2 q3 q4 h;unfold Zdu;rw[hi];simp only[KB,hx];obtain⟨L,W,H,F⟩:=x;have et:=et L W H F hx;have eg:=Zrp L W H F kW kH kP p;have aj:(l.eraseIdx i).length≤20:=Kz (ZlT _ _) af;have ab:l.length-1<l.length:=by omega
  have w1:IntKind.i64.wrap ((l.length:Int)-1)=((l.length-1:Nat):Int):=by rw[UM (by omega) (by omega)];omega
  have w2:=wi (Wg l+1) (by omega) (by omega);by_cases hg:WJ ⟨L,W,H,F⟩ (ZI.mk kW kH kP) p
  ·have hd:decide (VPc ⟨L,W,H,F⟩∧WJ ⟨L,W,H,F⟩ (ZI.mk kW kH kP) p)=true:=Ki ⟨hq,hg⟩;rw[hd] at eg;by_cases hl:1≤Zi∧Zi≤200
   ·have n1:¬Zi<1:=by omega
    have n2:¬200<Zi:=by omega
    have ag:=Zie (ZI.mk kW kH kP) p Zi;by_cases hk:((Xc (ZI.mk kW kH kP) p Zi).length:Int)≤10000-(Wg l+1)
    ·have er:=ZkG L W H F kW kH kP p Zi (Wg l+1) hq hg.1 hg.2.1 hg.2.2.1 (by omega) (by omega) hk;have w3:=wi (((l.eraseIdx i).length:Int)+((Xc (ZI.mk kW kH kP) p Zi).length:Int)) (by omega) (by omega);have ae:=Zde ⟨L,W,H,F⟩ (Wg l+1) (Xc (ZI.mk kW kH kP) p Zi);by_cases h2:(l.eraseIdx i).length+(Xc (ZI.mk kW kH kP) p Zi).length≤20
     ·rw[Kh ⟨hv,by omega,hl⟩,Kh ⟨hg,(aa hg).2 ⟨hk,h2⟩⟩];unfold Znk ZgQ;have n3:¬(20:Int)<((l.eraseIdx i).length:Int)+((Xc (ZI.mk kW kH kP) p Zi).length:Int):=by omega
      have hr:((l.eraseIdx i).length+(Xc (ZI.mk kW kH kP) p Zi).length)*48≤140737488355328∧(l.eraseIdx i).length+(Xc (ZI.mk kW kH kP) p Zi).length≤140737488355328:=by omega
      clear aa hg hd;generalize JA ⟨L,W,H,F⟩ (Wg l+1) (Xc (ZI.mk kW kH kP) p Zi)=R at er ae ⊢;generalize (Xc (ZI.mk kW kH kP) p Zi).length=N at *;obtain⟨yL,yW,yH,yF⟩:=y;simp only at ad;rw[ad] at er w2;obtain⟨o,a,m,t,ks⟩:=p;rw[Zf.enc_mk] at er eg ⊢;refine cE ?_;simp +contextual -implicitDefEqProofs (maxSteps:=10^7) only[go_sem,seval,↓gZ,Yd,et,eg,n1,n2,w1,hy,ab,w2,er,ae,w3,n3,hr]
     ·rw[Kh ⟨hv,by omega,hl⟩,Ke (fun h=>h2 ((aa hg).1 h.2).2)];unfold ZgQ;have n3:(20:Int)<((l.eraseIdx i).length:Int)+((Xc (ZI.mk kW kH kP) p Zi).length:Int):=by omega
      clear aa hg hd;generalize JA ⟨L,W,H,F⟩ (Wg l+1) (Xc (ZI.mk kW kH kP) p Zi)=R at er ae ⊢;generalize (Xc (ZI.mk kW kH kP) p Zi).length=N at *;obtain⟨yL,yW,yH,yF⟩:=y;simp only at ad;rw[ad] at er w2;obtain⟨o,a,m,t,ks⟩:=p;rw[Zf.enc_mk] at er eg ⊢;refine cE ?_;simp +contextual -implicitDefEqProofs (maxSteps:=10^7) only[go_sem,seval,↓gZ,Yd,et,eg,n1,n2,w1,hy,ab,w2,er,ae,w3,n3]
    ·have er:=ZlR L W H F kW kH kP p Zi (Wg l+1) (by omega) (by omega) hk;rw[Kh ⟨hv,by omega,hl⟩,Ke (fun h=>hk ((aa hg).1 h.2).1)];unfold ZgQ;clear aa hg hd hk ag;obtain⟨yL,yW,yH,yF⟩:=y;simp only at ad;rw[ad] at er w2;obtain⟨o,a,m,t,ks⟩:=p;rw[Zf.enc_mk] at er eg ⊢;refine cE ?_;simp +contextual -implicitDefEqProofs (maxSteps:=10^7) only[go_sem,seval,↓gZ,Yd,et,eg,n1,n2,w1,hy,ab,w2,er]
   ·rw[Ke (fun h=>hl ⟨h.2.2.1,h.2.2.2⟩)];unfold ZgQ;clear aa hg hd;obtain⟨o,a,m,t,ks⟩:=p;rw[Zf.enc_mk] at eg ⊢;by_cases n1:Zi<1
    ·refine cE ?_;simp +contextual -implicitDefEqProofs (maxSteps:=10^7) only[go_sem,seval,↓gZ,Yd,et,eg,n1]
    ·have n2:200<Zi:=by omega
     refine cE ?_;simp +contextual -implicitDefEqProofs (maxSteps:=10^7) only[go_sem,seval,↓gZ,Yd,et,eg,n1,n2]
  ·have hd:decide (VPc ⟨L,W,H,F⟩∧WJ ⟨L,W,H,F⟩ (ZI.mk kW kH kP) p)=false:=Kk fun h=>hg h.2;rw[hd] at eg;have e0:(if VSt l∧(0:Int)≤(i:Int)∧1≤Zi∧Zi≤200 then (if WJ ⟨L,W,H,F⟩ (ZI.mk kW kH kP) p∧VSt (Znk l i ⟨L,W,H,F⟩ (ZI.mk kW kH kP) p Zi) then some (Znk l i ⟨L,W,H,F⟩ (ZI.mk kW kH kP) p Zi) else none) else none)=none:=by
    rw[Ke (fun h:WJ ⟨L,W,H,F⟩ (ZI.mk kW kH kP) p∧_=>hg h.1)];split<;>rfl
   rw[e0];unfold ZgQ;clear aa hg hd e0;obtain⟨o,a,m,t,ks⟩:=p;rw[Zf.enc_mk] at eg ⊢;refine cE ?_;simp +contextual -implicitDefEqProofs (maxSteps:=10^7) only[go_sem,seval,↓gZ,Yd,et,eg]
 ·have et:=Zhy l n h;have e0:Zdu l n (ZI.mk kW kH kP) p Zi=none:=by
   unfold Zdu;rw[Ke (fun g=>h ⟨g.1,g.2.1⟩)]
  rw[e0];unfold ZgQ;clear e0;obtain⟨o,a,m,t,ks⟩:=p;rw[Zf.enc_mk];refine cE ?_;simp +contextual -implicitDefEqProofs (maxSteps:=10^7) only[go_sem,seval,↓gZ,Yd,et]
theorem Zx8 {l:List Zb} {i:Nat} {x:Zb} {k:ZI} {p:Zf} {Zi:Int} (hv:VSt l) (hx:l[i]?=some x) (hg:WJ x k p) :
  (Znk l i x k p Zi).length≤1000∧∀ y∈Znk l i x k p Zi,y.Flaws.length<4611686018427387904∧R64 y.W∧R64 y.H:=by
 have hq:=Qr hv.2 x (Kc hx);refine⟨?_,fun y hy=>?_⟩
 ·unfold Znk;rw[Kr,Zde];have:=Zie k p Zi;have:=ZlT l i;have:=hv.1;omega
 ·rcases Kg.1 hy with hy | hy
  ·have h:=Qr hv.2 y (LK hy);have h1:=h.1;exact⟨by omega,⟨by omega,by omega⟩,⟨by omega,by omega⟩⟩
  ·obtain⟨j,hj⟩:=K3 hy;obtain⟨b,hb,rfl⟩:=Zws x _ _ j y hj;have aa:=(Zpa (Zi:=Zi) hg.1 b (Kc hb)).1;simp only[VB] at aa;have ab:=Kl (YO b) x.Flaws;have ad:=hq.1.2.2.2.2.2.2;simp only[Zo9];exact⟨by omega,⟨by omega,by omega⟩,⟨by omega,by omega⟩⟩
theorem Zrt (l:List Zb) (n:Int) (kW kH:Int) (kP:List Pane) (p:Zf) (Zi:Int) (hl:l.length≤1000) (hS:∀ x∈l,PcW x) (hk:kP.length<4611686018427387904):Ze Xs Ms ZaF [(.d (.sl (l.map Zb.enc))),(.d (J n)),(.d (.agg [J kW,J kH,.sl (kP.map Pane.enc)])),.d p.enc,(.d (J Zi))] []=some (ZgQ (Zdu l n (ZI.mk kW kH kP) p Zi)):=by
 have ev:=YE l (by omega) (fun x hx=>by obtain⟨g1,g2,g3⟩:=hS x hx;exact⟨by omega,g2,g3⟩);have ef:=Yq l n (by omega);unfold Zdu;by_cases hv:VSt l
 ·rw[Ki hv] at ev;by_cases hf:0≤Qy 0 l n
  ·obtain⟨i,x,hi,hx⟩:=ZbN hf;rw[hi] at ef ⊢;have ad:¬(i:Int)<0:=by omega
   have af:=(Kb.1 hx).1;simp only[KB,hx];by_cases hr:1≤Zi∧Zi≤200
   ·have hq:=Qr hv.2 x (Kc hx);have al:=Zp6 hv (by omega);have ew:=Zga l i (by omega) (fun x hx=>by have:=(hS x hx).1;omega);have el:=Zhx l (by omega);have w2:=wi (Wg l+1) (by omega) (by omega);rw[Kh ⟨hv,by omega,hr⟩];by_cases hg:WJ x (ZI.mk kW kH kP) p
    ·have ag:=Zx8 (Zi:=Zi) hv hx hg;have aa:=YE (Znk l i x (ZI.mk kW kH kP) p Zi) (by omega) ag.2;have aj:(l.eraseIdx i).length≤20:=Kz (ZlT _ _) hv.1;have am:=Zie (ZI.mk kW kH kP) p Zi;obtain⟨L,W,H,F⟩:=x;have eg:=ZiY L W H F kW kH kP p (fun f hf=>(hq.2 f hf).1) hq.1.2.2.2.2.2.2 hk;have er:=Zrr L W H F kW kH kP p Zi (Wg l+1) hq hg.1 (by omega) (by omega);rw[Ki hg] at eg;have ae:=Zde ⟨L,W,H,F⟩ (Wg l+1) (Xc (ZI.mk kW kH kP) p Zi);have ai:((l.eraseIdx i).length+(Xc (ZI.mk kW kH kP) p Zi).length)*48≤140737488355328∧(l.eraseIdx i).length+(Xc (ZI.mk kW kH kP) p Zi).length≤140737488355328:=by omega
     unfold Znk at aa ⊢;have ah:=hg;clear hg;by_cases ab:VSt (l.eraseIdx i++JA ⟨L,W,H,F⟩ (Wg l+1) (Xc (ZI.mk kW kH kP) p Zi))
     ·rw[Ki ab] at aa;rw[Kh ⟨ah,ab⟩];unfold ZgQ;clear ab ag ah;generalize JA ⟨L,W,H,F⟩ (Wg l+1) (Xc (ZI.mk kW kH kP) p Zi)=R at er ae aa ⊢;generalize (Xc (ZI.mk kW kH kP) p Zi).length=N at *;obtain⟨o,a,m,t,ks⟩:=p;rw[Zf.enc_mk] at er eg ⊢;refine cE ?_;simp +contextual -implicitDefEqProofs (maxSteps:=10^7) only[go_sem,seval,↓gZ,YX,ev,ef,ad,Zv,hr,hx,af,eg,ew,el,w2,er,ae,ai,aa]
     ·rw[Kk ab] at aa;rw[Ke (fun h=>ab h.2)];unfold ZgQ;clear ab ag ah;generalize JA ⟨L,W,H,F⟩ (Wg l+1) (Xc (ZI.mk kW kH kP) p Zi)=R at er ae aa ⊢;generalize (Xc (ZI.mk kW kH kP) p Zi).length=N at *;obtain⟨o,a,m,t,ks⟩:=p;rw[Zf.enc_mk] at er eg ⊢;refine cE ?_;simp +contextual -implicitDefEqProofs (maxSteps:=10^7) only[go_sem,seval,↓gZ,YX,ev,ef,ad,Zv,hr,hx,af,eg,ew,el,w2,er,ae,ai,aa]
    ·rw[Ke (fun h=>hg h.1)];obtain⟨L,W,H,F⟩:=x;have eg:=ZiY L W H F kW kH kP p (fun f hf=>(hq.2 f hf).1) hq.1.2.2.2.2.2.2 hk;rw[Kk hg] at eg;unfold ZgQ;clear hg;obtain⟨o,a,m,t,ks⟩:=p;rw[Zf.enc_mk] at eg ⊢;refine cE ?_;simp +contextual -implicitDefEqProofs (maxSteps:=10^7) only[go_sem,seval,↓gZ,YX,ev,ef,ad,Zv,hr,hx,af,eg]
   ·rw[Ke (fun h=>hr h.2.2)];unfold ZgQ;obtain⟨o,a,m,t,ks⟩:=p;rw[Zf.enc_mk];refine cE ?_;simp +contextual -implicitDefEqProofs (maxSteps:=10^7) only[go_sem,seval,↓gZ,YX,ev,ef,ad,Zv,hr]
  ·rw[Ke (fun h=>hf h.2.1)];have ak : Qy 0 l n<0:=by omega
   unfold ZgQ;obtain⟨o,a,m,t,ks⟩:=p;rw[Zf.enc_mk];refine cE ?_;simp +contextual -implicitDefEqProofs (maxSteps:=10^7) only[go_sem,seval,↓gZ,YX,ev,ef,ak]
 ·rw[Kk hv] at ev;rw[Ke (fun h=>hv h.1)];unfold ZgQ;obtain⟨o,a,m,t,ks⟩:=p;rw[Zf.enc_mk];refine cE ?_;simp +contextual -implicitDefEqProofs (maxSteps:=10^7) only[go_sem,seval,↓gZ,YX,ev]
theorem Zp7 (l:List Zb) (hv:VSt l):Ze Xs Ms U9 [(.d (.sl (l.map Zb.enc)))] []=some ((.d (J (Vc l))),[]):=by
 have ev:=Wf l;rw[Ki hv] at ev;have af:=hv.1;have aa:∀ x∈l,1≤x.W∧x.W≤200∧1≤x.H∧x.H≤200:=fun x hx=>by
  have:=(Qr hv.2 x hx).1;omega
 clear hv;refine cE ?_;simp +contextual -implicitDefEqProofs (maxSteps:=10^7) only[go_sem,seval,↓gZ,ZeA,ev];refine LO (α:=Nat) (fun i=>[(11,.d (J (i:Int))),(3,.d (J (Vc (l.take i))))]) (fun _=>[]) (fun i=>i≤l.length) (fun i=>l.length-i) 0 (by omega) ?_;intro i hi ih;by_cases ab:i<l.length
 ·obtain⟨x,hx⟩:=Zs ab;have hw:=Zj (k:=i) (by omega);have hm:=Zp1 hx;have ag:=ZcG (l:=l.take i) (fun y hy=>aa y (K0 hy));have ah:(l.take i).length≤i:=by simp;omega
  have g5:=aa x (Kc hx);have ad:x.W*x.H≤200*200:=L2 (by omega) (by omega) (by omega) (by omega);have ae:0≤x.W*x.H:=L1 (by omega) (by omega);obtain⟨xL,xW,xH,xF⟩:=x;simp only at g5 hm ad ae;have u0:=wi (xW*xH) (by omega) (by omega);have u1:=wi (Vc (l.take i)+xW*xH) (by omega) (by omega);simp +contextual -implicitDefEqProofs (maxSteps:=10^7) only[go_sem,seval,↓gZ,hx,ab,hw,u0,u1];refine ih (i+1) _ (by omega) (by omega) ?_;simp +contextual -implicitDefEqProofs (maxSteps:=10^7) only[go_sem,seval,↓gZ,hm]
 ·have:i=l.length:=by omega
  subst this;simp +contextual -implicitDefEqProofs (maxSteps:=10^7) only[go_sem,seval,↓gZ,K1]
end Go.Proofs.YtcefneehgbiebaaGreatDoor
