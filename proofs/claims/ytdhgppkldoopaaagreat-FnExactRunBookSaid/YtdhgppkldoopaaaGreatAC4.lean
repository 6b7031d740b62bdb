/- Own text. -/
import Derived.Test.YtdhgppkldoopaaaGreatACode
import Derived.Test.YtdhgppkldoopaaaGreatAbsParts
import Derived.Test.YtdhgppkldoopaaaGreatAC2
import Derived.Test.YtdhgppkldoopaaaGreatAC3
import Derived.Test.YtdhgppkldoopaaaGreatAbsOkD
namespace Go.Proofs.YtdhgppkldoopaaaGreat
open Go Go.Abs Go.Abs.E Go.Abs.L
open Nat (reduceMul reduceSub reduceLeDiff reduceEqDiff)
open Int (reduceLE reduceEq reduceToNat reduceNeg)
set_option linter.unusedSimpArgs false
set_option linter.unusedVariables false
set_option maxRecDepth 20000
set_option maxHeartbeats 4000000
def Xy:Int→List Zb→Prop
 | _,[]=>True
 | b,x :: l=>VPc x∧b<x.Label∧Xy x.Label l
instance sortFdec:∀ (b:Int) (l:List Zb),Decidable (Xy b l)
 | _,[]=>.isTrue trivial
 | b,x :: l=>by unfold Xy;exact @instDecidableAnd _ _ _ (@instDecidableAnd _ _ _ (sortFdec x.Label l))
def VSt (l:List Zb):Prop:=l.length≤20∧Xy 0 l
instance (l:List Zb):Decidable (VSt l):=by unfold VSt;infer_instance
theorem Zoj {l:List Zb} {k:Nat} {x:Zb} {b:Int} (hx:l[k]?=some x):Xy b (l.drop k)↔VPc x∧b<x.Label∧Xy x.Label (l.drop (k+1)):=by
 obtain⟨h1,h2⟩:=Ka.1 hx;rw[Kw h1,h2,Xy]
theorem ZqU {l:List Zb} {b:Int}:Xy b (l.drop l.length):=by simp[Xy]
theorem Y8 (l:List Zb):Zf Xs Ms Xt [(.d (.sl (l.map Zb.enc)))] []=some ((.d (.bool (decide (VSt l)))),[]):=by
 by_cases ab:(20:Int)<(l.length:Int)
 ·have hn:¬VSt l:=fun h=>by have:=h.1;omega
  refine cE ?_;simp +contextual -implicitDefEqProofs (maxSteps:=10^7) only[go_sem,seval,↓gZ,Ja,ab,hn]
 ·have ad:l.length≤20:=by omega
  refine cE ?_;simp +contextual -implicitDefEqProofs (maxSteps:=10^7) only[go_sem,seval,↓gZ,Ja,ab];refine LO (α:=Nat×Int) (fun s=>[(11,.d (J (s.1:Int))),(3,.d (J s.2))]) (fun _=>[]) (fun s=>s.1≤l.length∧(Xy 0 l↔Xy s.2 (l.drop s.1))) (fun s=>l.length-s.1) (0,0) ⟨by simp,by simp⟩ ?_;intro⟨i,b⟩ ⟨hi,hp⟩ ih;simp only at hi hp;by_cases aa:i<l.length
  ·obtain⟨x,hx⟩:=Zr aa;have hw:=Zj (k:=i) (by omega);rw[Zoj hx] at hp;have ev:=Q0 x.Label x.W x.H x.Flaws;obtain⟨L,W,H,F⟩:=x;simp only at hp ev;by_cases hv:VPc ⟨L,W,H,F⟩
   ·rw[Kg hv] at ev;by_cases hb:L≤b
    ·have hn:¬VSt l:=fun h=>by have:=(hp.1 h.2).2.1;omega
     simp +contextual -implicitDefEqProofs (maxSteps:=10^7) only[go_sem,seval,↓gZ,hx,aa,hw,ev,hb,hn]
    ·simp +contextual -implicitDefEqProofs (maxSteps:=10^7) only[go_sem,seval,↓gZ,hx,aa,hw,ev,hb];refine ih (i+1,L) _ ⟨by simp only;omega,?_⟩ (by simp only;omega) ?_
     ·rw[hp];exact⟨fun h=>h.2.2,fun h=>⟨hv,by omega,h⟩⟩
     ·simp +contextual -implicitDefEqProofs (maxSteps:=10^7) only[go_sem,seval,↓gZ]
   ·rw[Kh hv] at ev;have hn:¬VSt l:=fun h=>hv (hp.1 h.2).1;simp +contextual -implicitDefEqProofs (maxSteps:=10^7) only[go_sem,seval,↓gZ,hx,aa,hw,ev,hn]
  ·have:i=l.length:=by omega
   subst this;have hy:VSt l:=⟨ad,hp.2 ZqU⟩
   simp +contextual -implicitDefEqProofs (maxSteps:=10^7) only[go_sem,seval,↓gZ,hy]
def ZjW (l:List Zb):Nat→Int
 | 0=>0
 | j+1=>match l[j]? with
  | some x=>x.Label
  | none=>0
theorem Y9 (l:List Zb) (hl:l.length<4611686018427387904) (hS:∀ x∈l,x.Flaws.length<4611686018427387904∧R64 x.W∧R64 x.H):Zf Xs Ms QT [(.d (.sl (l.map Zb.enc)))] []=some ((.d (.bool (decide (VSt l)))),[]):=by
 refine cE ?_;simp +contextual -implicitDefEqProofs (maxSteps:=10^7) only[go_sem,seval,↓gZ,ZbE];refine LO (α:=Nat) (fun i=>[(3,.d (J (i:Int)))]) (fun _=>[]) (fun i=>i≤l.length∧(Xy 0 l↔Xy (ZjW l i) (l.drop i))) (fun i=>l.length-i) 0 ⟨by simp,by simp[ZjW]⟩ ?_;intro i ⟨hi,hp⟩ ih;by_cases aa:i<l.length
 ·obtain⟨x,hx⟩:=Zr aa;have hw:=Zj (k:=i) (by omega);rw[Zoj hx] at hp;obtain⟨ag,ah,ai⟩:=hS x (Kb hx);have ev:=Zfa x.Label x.W x.H x.Flaws ag ah ai;have ad:ZjW l (i+1)=x.Label:=by simp only[ZjW,hx]
  obtain⟨L,W,H,F⟩:=x;simp only at hp ev ad;by_cases hv:VPc ⟨L,W,H,F⟩
  ·rw[Kg hv] at ev;have hL:1≤L:=hv.1.1;cases i with
   | zero=>
    have ae : (0:Int)<(l.length:Int):=by omega
    simp +contextual -implicitDefEqProofs (maxSteps:=10^7) only[go_sem,seval,↓gZ,hx,aa,ae,hw,ev];refine ih 1 _ ⟨by omega,?_⟩ (by omega) ?_
    ·rw[hp,ad];exact⟨fun h=>h.2.2,fun h=>⟨hv,by simp only[ZjW];omega,h⟩⟩
    ·simp +contextual -implicitDefEqProofs (maxSteps:=10^7) only[go_sem,seval,↓gZ]
   | succ j=>
    obtain⟨y,hy⟩:=Zr (l:=l) (k:=j) (by omega);have aj:ZjW l (j+1)=y.Label:=by simp only[ZjW,hy]
    rw[aj] at hp;have hj:IntKind.i64.wrap (((j+1:Nat):Int)-1)=(j:Int):=by rw[Zc7 (by omega) (by omega)];omega
    have ab:(0:Int)<((j+1:Nat):Int):=by omega
    have af:j<l.length:=by omega
    obtain⟨L',W',H',F'⟩:=y;simp only at hp;by_cases hb:L≤L'
    ·have hn:¬VSt l:=fun h=>by have:=(hp.1 h.2).2.1;omega
     simp +contextual -implicitDefEqProofs (maxSteps:=10^7) only[go_sem,seval,↓gZ,hx,aa,hw,ev,ab,hj,af,hy,hb,hn]
    ·simp +contextual -implicitDefEqProofs (maxSteps:=10^7) only[go_sem,seval,↓gZ,hx,aa,hw,ev,ab,hj,af,hy,hb];refine ih (j+1+1) _ ⟨by omega,?_⟩ (by omega) ?_
     ·rw[hp,ad];exact⟨fun h=>h.2.2,fun h=>⟨hv,by omega,h⟩⟩
     ·simp +contextual -implicitDefEqProofs (maxSteps:=10^7) only[go_sem,seval,↓gZ]
  ·rw[Kh hv] at ev;have hn:¬VSt l:=fun h=>hv (hp.1 h.2).1;simp +contextual -implicitDefEqProofs (maxSteps:=10^7) only[go_sem,seval,↓gZ,hx,aa,hw,ev,hn]
 ·have:i=l.length:=by omega
  subst this;have hs:=hp.2 ZqU;simp +contextual -implicitDefEqProofs (maxSteps:=10^7) only[go_sem,seval,↓gZ];exact Zcs (by simp only[VSt];constructor<;>(intro h;first | exact⟨by omega,hs⟩ | (have:=h.1;omega)))
def Qu:Nat→List Zb→Int→Int
 | _,[],_=>-1
 | k,x :: l,n=>if x.Label=n then (k:Int) else Qu (k+1) l n
theorem ZqV {l:List Zb} {k:Nat} {x:Zb} {n:Int} (hx:l[k]?=some x):Qu k (l.drop k) n=if x.Label=n then (k:Int) else Qu (k+1) (l.drop (k+1)) n:=by
 obtain⟨h1,h2⟩:=Ka.1 hx;rw[Kw h1,h2,Qu]
theorem Zlj (qL qW qH:Int) (qF:List Box) (n:Int):Zf Xs Ms X9 [(.d (.agg [J qL,J qW,J qH,.sl (qF.map Box.enc)])),.ptr 0 0] [.box [(.d (J n))]]=some ((.d (.bool (decide (qL=n)))),[.box [(.d (J n))]]):=by
 refine cE ?_;simp +contextual -implicitDefEqProofs (maxSteps:=10^7) only[go_sem,seval,↓gZ,ZaF]
theorem Zsg (l:List Zb) (n:Int) (hl:l.length<4611686018427387904):Zf Xs Ms Xv [(.d (.sl (l.map Zb.enc))),.clo X9 [.ptr 0 0]] [.box [(.d (J n))]]=some ((.d (J (Qu 0 l n))),[.box [(.d (J n))]]):=by
 refine cE ?_;simp +contextual -implicitDefEqProofs (maxSteps:=10^7) only[go_sem,seval,↓gZ,V6];refine LO (α:=Nat) (fun k=>[(8,.d (J (k:Int)))]) (fun _=>[]) (fun k=>k≤l.length∧Qu k (l.drop k) n=Qu 0 l n) (fun k=>l.length-k) 0 ⟨by omega,rfl⟩ ?_;intro k ⟨hk,hp⟩ ih;by_cases aa:k<l.length
 ·obtain⟨x,hx⟩:=Zr aa;rw[ZqV hx] at hp;have hw:=Zj (k:=k) (by omega);have e1:=Zlj x.Label x.W x.H x.Flaws n;obtain⟨L,W,H,F⟩:=x;simp only at hp e1;by_cases h:L=n
  ·rw[Kl h] at hp;rw[Kg h] at e1;simp +contextual -implicitDefEqProofs (maxSteps:=10^7) only[go_sem,seval,↓gZ,hx,aa,hw,e1];rw[← hp]
  ·rw[Kj h] at hp;rw[Kh h] at e1;simp +contextual -implicitDefEqProofs (maxSteps:=10^7) only[go_sem,seval,↓gZ,hx,aa,hw,e1];refine ih (k+1) _ ⟨by omega,hp⟩ (by omega) ?_;simp +contextual -implicitDefEqProofs (maxSteps:=10^7) only[go_sem,seval,↓gZ]
 ·have:k=l.length:=by omega
  subst this;simp +contextual -implicitDefEqProofs (maxSteps:=10^7) only[go_sem,seval,↓gZ];rw[← hp];simp[Qu]
theorem YE (l:List Zb) (n:Int) (hl:l.length<4611686018427387904):Zf Xs Ms XQ [(.d (.sl (l.map Zb.enc))),(.d (J n))] []=some ((.d (J (Qu 0 l n))),[]):=by
 refine cE ?_;simp +contextual -implicitDefEqProofs (maxSteps:=10^7) only[go_sem,seval,↓gZ,ZcY,Zsg l n hl]
theorem XW (l:List Zb) (n:Int) (hl:l.length<4611686018427387904):Zf Xs Ms XP [(.d (.sl (l.map Zb.enc))),(.d (J n))] []=some ((.d (J (Qu 0 l n))),[]):=by
 refine cE ?_;simp +contextual -implicitDefEqProofs (maxSteps:=10^7) only[go_sem,seval,↓gZ,ZcT];refine LO (α:=Nat) (fun k=>[(5,.d (J (k:Int)))]) (fun _=>[]) (fun k=>k≤l.length∧Qu k (l.drop k) n=Qu 0 l n) (fun k=>l.length-k) 0 ⟨by omega,rfl⟩ ?_;intro k ⟨hk,hp⟩ ih;by_cases aa:k<l.length
 ·obtain⟨x,hx⟩:=Zr aa;rw[ZqV hx] at hp;have hw:=Zj (k:=k) (by omega);obtain⟨L,W,H,F⟩:=x;simp only at hp;by_cases h:L=n
  ·rw[Kl h] at hp;simp +contextual -implicitDefEqProofs (maxSteps:=10^7) only[go_sem,seval,↓gZ,hx,aa,hw,h];rw[← hp]
  ·rw[Kj h] at hp;simp +contextual -implicitDefEqProofs (maxSteps:=10^7) only[go_sem,seval,↓gZ,hx,aa,hw,h];refine ih (k+1) _ ⟨by omega,hp⟩ (by omega) ?_;simp +contextual -implicitDefEqProofs (maxSteps:=10^7) only[go_sem,seval,↓gZ]
 ·have:k=l.length:=by omega
  subst this;simp +contextual -implicitDefEqProofs (maxSteps:=10^7) only[go_sem,seval,↓gZ];rw[← hp];simp[Qu]
theorem UI (qL qW qH:Int) (qF:List Box) (hF:qF.length≤1048576):Zf Xs Ms Xi [(.d (.agg [J qL,J qW,J qH,.sl (qF.map Box.enc)]))] []=some (.agg [(.d (J qL)),(.d (J qW)),(.d (J qH)),.own 0],[.row 4 (qF.map Box.enc) true false]):=by
 have hr:qF.length*32≤140737488355328∧qF.length≤140737488355328:=by omega
 refine cE ?_;simp +contextual -implicitDefEqProofs (maxSteps:=10^7) only[go_sem,seval,↓gZ,ZcX,hr]
theorem YF (qL qW qH:Int) (qF:List Box) (hF:qF.length≤1048576):Zf Xs Ms Xh [(.d (.agg [J qL,J qW,J qH,.sl (qF.map Box.enc)]))] []=some (.agg [(.d (J qL)),(.d (J qW)),(.d (J qH)),.own 0],[.row 4 (qF.map Box.enc) true false]):=by
 have hr:qF.length*32≤140737488355328∧qF.length≤140737488355328:=by omega
 refine cE ?_;simp +contextual -implicitDefEqProofs (maxSteps:=10^7) only[go_sem,seval,↓gZ,ZcU,hr]
theorem Zbl:∀ (F:List Box),JA D.flat (F.map Box.enc)=true
 | []=>rfl
 | x :: F=>by simp only[Kp,JA,Zbl F,L4];rfl
theorem Zbm (l:List Zb) (hl:l.length≤1048576) (hF:∀ x∈l,x.Flaws.length≤1048576):Zf Xs Ms Yp [(.d (.sl (l.map Zb.enc)))] []=some (.own 0,[.tree 4 4 (l.map Zb.enc) none]):=by
 refine cE ?_;simp +contextual -implicitDefEqProofs (maxSteps:=10^7) only[go_sem,seval,↓gZ,ZcP];refine LO (α:=Nat) (fun i=>[(8,.d (J (i:Int)))]) (fun i=>[(0,.tree 4 4 ((l.take i).map Zb.enc) none)]) (fun i=>i≤l.length) (fun i=>l.length-i) 0 (by omega) ?_;intro i hi ih;by_cases aa:i<l.length
 ·obtain⟨x,hx⟩:=Zr aa;have hw:=Zj (k:=i) (by omega);have hm:l.take (i+1)=l.take i++[x]:=by rw[KK,hx];simp
  have ad:(l.take i).length≤i:=by simp;omega
  have hr:((l.take i).length+1)*48≤140737488355328∧(l.take i).length≤140737488355327:=by omega
  have e:=UI x.Label x.W x.H x.Flaws (hF x (Kb hx));obtain⟨L,W,H,F⟩:=x;simp only at e;have ab:=Zbl F;simp +contextual -implicitDefEqProofs (maxSteps:=10^7) only[go_sem,seval,↓gZ,hx,aa,hw,e,hr,ab];refine ih (i+1) _ (by omega) (by omega) ?_;simp +contextual -implicitDefEqProofs (maxSteps:=10^7) only[go_sem,seval,↓gZ,hm]
  first | rfl | (simp;done) | (simp;rfl)
 ·have:i=l.length:=by omega
  subst this;simp +contextual -implicitDefEqProofs (maxSteps:=10^7) only[go_sem,seval,↓gZ];simp
theorem ZuQ {α:Type} {l:List α} {i a:Nat} {x:α} (hx:l[i]?=some x) (h:i≠a):(l.take (i+1)).eraseIdx a=(l.take i).eraseIdx a++[x]:=by
 have h1:=(Ka.1 hx).1;have e:l.take (i+1)=l.take i++[x]:=by rw[KK,hx];simp
 rw[e];have hl:(l.take i).length=i:=by simp;omega
 rcases KN a i with h2 | h2
 ·rw[List.eraseIdx_append_of_lt_length (by omega)]
 ·rw[Kad (by simp;omega),Kad (by omega)]
theorem ZuR {α:Type} {l:List α} {i:Nat} {x:α} (hx:l[i]?=some x):(l.take (i+1)).eraseIdx i=(l.take i).eraseIdx i:=by
 have h1:=(Ka.1 hx).1;have e:l.take (i+1)=l.take i++[x]:=by rw[KK,hx];simp
 have hl:(l.take i).length=i:=by simp;omega
 rw[e,List.eraseIdx_append_of_length_le (by omega),hl];simp;rw[Kad (by omega)]
theorem Zlk {α:Type} (l:List α) (a:Nat):(l.eraseIdx a).length≤l.length:=by
 have:=List.length_eraseIdx_le l a;omega
theorem ZdY (l:List Zb) (a:Nat) (hl:l.length≤1048576) (hF:∀ x∈l,x.Flaws.length≤1048576):Zf Xs Ms YS [(.d (.sl (l.map Zb.enc))),(.d (J a))] []=some (.own 0,[.row 4 ((l.eraseIdx a).map Zb.enc) true false]):=by
 refine cE ?_;simp +contextual -implicitDefEqProofs (maxSteps:=10^7) only[go_sem,seval,↓gZ,Zck];refine LO (α:=Nat) (fun i=>[(6,.d (J (i:Int)))]) (fun i=>[(0,.row 4 (((l.take i).eraseIdx a).map Zb.enc) true false)]) (fun i=>i≤l.length) (fun i=>l.length-i) 0 (by omega) ?_;intro i hi ih;by_cases aa:i<l.length
 ·obtain⟨x,hx⟩:=Zr aa;have hw:=Zj (k:=i) (by omega);by_cases ab:i=a
  ·subst ab;have hm:=ZuR hx;simp +contextual -implicitDefEqProofs (maxSteps:=10^7) only[go_sem,seval,↓gZ,hx,aa,hw];refine ih (i+1) _ (by omega) (by omega) ?_;simp +contextual -implicitDefEqProofs (maxSteps:=10^7) only[go_sem,seval,↓gZ,hm]
  ·have hm:=ZuQ hx ab;have ad:((l.take i).eraseIdx a).length≤i:=Kv (Zlk _ _) (by simp;omega);have hr:(((l.take i).eraseIdx a).length+1)*48≤140737488355328∧((l.take i).eraseIdx a).length≤140737488355327:=by omega
   have e:=YF x.Label x.W x.H x.Flaws (hF x (Kb hx));obtain⟨L,W,H,F⟩:=x;simp only at e;simp +contextual -implicitDefEqProofs (maxSteps:=10^7) only[go_sem,seval,↓gZ,hx,aa,hw,ab,e,hr];refine ih (i+1) _ (by omega) (by omega) ?_;simp +contextual -implicitDefEqProofs (maxSteps:=10^7) only[go_sem,seval,↓gZ,hm]
   first | rfl | (simp;done) | (simp;rfl)
 ·have:i=l.length:=by omega
  subst this;simp +contextual -implicitDefEqProofs (maxSteps:=10^7) only[go_sem,seval,↓gZ];simp
def VA (l:List Zb):Int:=ZjW l l.length
theorem Zll {l:List Zb} {x:Zb} (hx:l[l.length-1]?=some x):VA l=x.Label:=by
 have h:=(Ka.1 hx).1;unfold VA;obtain⟨n,hn⟩:∃ n,l.length=n+1:=⟨l.length-1,by omega⟩
 rw[hn] at hx ⊢;simp only[ZjW];simp only[Nat.add_sub_cancel] at hx;rw[hx]
theorem Zok (l:List Zb) (hl:l.length<4611686018427387904):Zf Xs Ms WU [(.d (.sl (l.map Zb.enc)))] []=some ((.d (J (VA l))),[]):=by
 by_cases h0:l.length=0
 ·have e:VA l=0:=by unfold VA;rw[h0];rfl
  have aa : (l.length:Int)=0:=by omega
  rw[e];refine cE ?_;simp +contextual -implicitDefEqProofs (maxSteps:=10^7) only[go_sem,seval,↓gZ,Zab,aa]
 ·obtain⟨x,hx⟩:=Zr (l:=l) (k:=l.length-1) (by omega);have e:=Zll hx;have hn:¬(l.length:Int)=0:=by omega
  have hw:IntKind.i64.wrap ((l.length:Int)-1)=((l.length-1:Nat):Int):=by rw[Zc7 (by omega) (by omega)];omega
  have ab:l.length-1<l.length:=by omega
  obtain⟨L,W,H,F⟩:=x;simp only at e;refine cE ?_;simp +contextual -implicitDefEqProofs (maxSteps:=10^7) only[go_sem,seval,↓gZ,Zab,hn,hw,hx,ab,e]
theorem Zol:∀ (l:List Zb) (k:Nat) (n:Int),Qu k l n=-1∨∃ i:Nat,Qu k l n=((k+i:Nat):Int)∧i<l.length
 | [],k,n=>.inl rfl
 | x :: l,k,n=>by
  unfold Qu;split
  ·exact .inr ⟨0,by simp,by simp⟩
  ·rcases Zol l (k+1) n with h | ⟨i,h1,h2⟩
   ·exact .inl h
   ·exact .inr ⟨i+1,by rw[h1];congr 1;omega,by simp;omega⟩
theorem Qo:∀ {l:List Zb} {b:Int},Xy b l→∀ x∈l,VPc x
 | [],_,_,x,hx=>by simp at hx
 | y :: l,b,h,x,hx=>by
  rcases Kf.1 hx with rfl | hx
  ·exact h.1
  ·exact Qo h.2.2 x hx
theorem Zdp {l:List Zb} (h:VSt l):l.length≤1048576∧∀ x∈l,x.Flaws.length≤1048576:=by
 refine⟨by have:=h.1;omega,fun x hx=>?_⟩;have:=(Qo h.2 x hx).1.2.2.2.2.2.2;omega
theorem ZfL (l:List Zb) (n:Int) (h:¬(VSt l∧0≤Qu 0 l n)):Zf Xs Ms Ys [(.d (.sl (l.map Zb.enc))),(.d (J n))] [] =
  some (.tup [.agg [(.d (J 0)),(.d (J 0)),(.d (J 0)),.own 0],.own 1,(.d (.bool false))],[.row 4 [] true false,.row 4 [] true false]):=by
 have ev:=Y8 l;by_cases hv:VSt l
 ·rw[Kg hv] at ev;have hf:=YE l n (by have:=hv.1;omega);have hn:Qu 0 l n<0:=by
   rcases Int.lt_or_le (Qu 0 l n) 0 with h1 | h1
   ·exact h1
   ·exact absurd ⟨hv,h1⟩ h
  refine cE ?_;simp +contextual -implicitDefEqProofs (maxSteps:=10^7) only[go_sem,seval,↓gZ,WZ,ev,hf,hn]
 ·rw[Kh hv] at ev;refine cE ?_;simp +contextual -implicitDefEqProofs (maxSteps:=10^7) only[go_sem,seval,↓gZ,WZ,ev]
theorem Zfc (l:List Zb) (n:Int) (hv:VSt l) (i:Nat) (hi:Qu 0 l n=(i:Int)) (qL qW qH:Int) (qF:List Box) (hx:l[i]?=some (Zb.mk qL qW qH qF)):Zf Xs Ms Ys [(.d (.sl (l.map Zb.enc))),(.d (J n))] [] =
  some (.tup [.agg [(.d (J qL)),(.d (J qW)),(.d (J qH)),.own 0],.own 1,(.d (.bool true))],[.row 4 (qF.map Box.enc) true false,.tree 4 4 ((l.eraseIdx i).map Zb.enc) none]):=by
 have ev:=Y8 l;rw[Kg hv] at ev;have ab:i<l.length:=(Ka.1 hx).1;have ad:=hv.1;obtain⟨h1,h2⟩:=Zdp hv;have hf:=YE l n (by omega);rw[hi] at hf;have hw:=Zj (k:=i) (by omega);have c1:=Zbm (l.take i) (by simp;omega) (fun x hx=>h2 x (KY hx));have c2:=Zbm (l.drop (i+1)) (by simp;omega) (fun x hx=>h2 x (LK hx));have e:=UI qL qW qH qF (h2 (Zb.mk qL qW qH qF) (Kb hx));have hr:((l.take i).length+(l.drop (i+1)).length)*48≤140737488355328∧(l.take i).length+(l.drop (i+1)).length≤140737488355328:=by simp;omega
 have ae:i≤l.length:=by omega
 have aa:i+1≤l.length:=by omega
 have af:¬(i:Int)<0:=by omega
 rw[List.eraseIdx_eq_take_drop_succ];refine cE ?_;simp +contextual -implicitDefEqProofs (maxSteps:=10^7) only[go_sem,seval,↓gZ,WZ,ZqP,ev,hf,af,hw,hx,ab,ae,aa,c1,c2,e,hr,LU]
theorem ZuS {b c:Int} (h:b≤c):∀ {l:List Zb},Xy c l→Xy b l
 | [],_=>trivial
 | x :: l,hs=>⟨hs.1,by have:=hs.2.1;omega,hs.2.2⟩
theorem ZfM:∀ {l:List Zb} {b:Int} (i:Nat),Xy b l→Xy b (l.eraseIdx i)
 | [],b,i,_=>by simp[Xy]
 | x :: l,b,0,h=>by
  simp only[List.eraseIdx_cons_zero];exact ZuS (by have:=h.2.1;omega) h.2.2
 | x :: l,b,i+1,h=>by
  simp only[List.eraseIdx_cons_succ];exact⟨h.1,h.2.1,ZfM i h.2.2⟩
theorem Zlm:∀ {l:List Zb} {b:Int},Xy b l→∀ (i j:Nat) (x y:Zb),i≤j→l[i]?=some x→l[j]?=some y→x.Label≤y.Label∧b<x.Label
 | [],b,_,i,j,x,y,_,hx,_=>by simp at hx
 | z :: l,b,h,0,0,x,y,_,hx,hy=>by
  simp at hx hy;subst hx;subst hy;exact⟨Int.le_refl _,h.2.1⟩
 | z :: l,b,h,0,j+1,x,y,_,hx,hy=>by
  simp at hx hy;subst hx;have:=(Zlm h.2.2 j j y y (Kk _) hy hy).2;exact⟨by omega,h.2.1⟩
 | z :: l,b,h,i+1,j+1,x,y,hij,hx,hy=>by
  simp at hx hy;have:=Zlm h.2.2 i j x y (by omega) hx hy;have h2:=h.2.1;exact⟨this.1,by omega⟩
 | z :: l,b,h,i+1,0,x,y,hij,hx,hy=>by omega
theorem Zom {q:Zb} (hq:VPc q):∀ {L:List Box} {n c:Int},c<n→1≤n→(∀ b∈L,VB b∧Vw b ⟨0,0,q.W,q.H⟩)→(Xy c (Uf q n L)↔(L=[]∨(L.length:Int)≤10000-n))
 | [],n,c,_,_,_=>by simp[Uf,Xy]
 | b :: L,n,c,hc,h1,hb=>by
  have ih:=Zom hq (L:=L) (n:=n+1) (c:=n) (by omega) (by omega) (fun d hd=>hb d (by simp[hd]));have hv:VPc (ZlY q b n)↔n≤9999:=⟨fun h=>by have:=h.1.2.1;simpa [ZlY] using this,fun h=>Zvy hq (hb b (by simp)).1 (hb b (by simp)).2 h1 h⟩
  simp only[Uf,Xy,hv,ih];have e:(ZlY q b n).Label=n:=rfl;rw[e,ih];have hl:((b :: L).length:Int)=L.length+1:=by simp
  constructor
  ·rintro ⟨g1,g2,g3⟩
   right
   rcases g3 with rfl | g3
   ·simp only[Ks,La];omega
   ·omega
  ·rintro (g | g)
   ·cases g
   ·refine⟨by omega,hc,?_⟩;by_cases h0:L=[]
    ·exact .inl h0
    ·exact .inr (by omega)
theorem ZqW {B:List Zb} {n:Int} {Q:Prop} (hB:∀ c,c<n→(Xy c B↔Q)):∀ {A:List Zb} {b:Int},Xy b A→(∀ x∈A,x.Label<n)→b<n→(Xy b (A++B)↔Q)
 | [],b,_,_,hb=>hB b hb
 | x :: A,b,h,hx,hb=>by
  have ih:=ZqW hB h.2.2 (fun y hy=>hx y (by simp[hy])) (hx x (by simp));simp only[KD,Xy,ih];exact⟨fun g=>g.2.2,fun g=>⟨h.1,h.2.1,g⟩⟩
theorem Zon {l:List Zb} (hv:VSt l) (ab:0<l.length):1≤VA l∧VA l≤9999∧∀ x∈l,x.Label≤VA l:=by
 obtain⟨y,hy⟩:=Zr (l:=l) (k:=l.length-1) (by omega);rw[Zll hy];have aa:=(Qo hv.2 y (Kb hy)).1;refine⟨aa.1,aa.2.1,fun x hx=>?_⟩;obtain⟨i,hi⟩:=Lw hx;have:=(Ka.1 hi).1;exact(Zlm hv.2 i (l.length-1) x y (by omega) hi hy).1
def ZnE (l:List Zb) (i:Nat) (x:Zb) (k:ZD) (p:Zd) (Zi:Int):List Zb:=l.eraseIdx i++Uf x (VA l+1) (QR k p Zi)
theorem ZzO {l:List Zb} {i:Nat} {x:Zb} {k:ZD} {p:Zd} {Zi:Int} (hv:VSt l) (hx:l[i]?=some x) (hg:VK x k p) :
  VSt (ZnE l i x k p Zi)↔((QR k p Zi).length:Int)≤10000-(VA l+1)∧(l.eraseIdx i).length+(QR k p Zi).length≤20:=by
 have ab:=(Ka.1 hx).1;obtain⟨h1,h2,h3⟩:=Zon hv (by omega);have hq:=Qo hv.2 x (Kb hx);have aa:∀ b∈QR k p Zi,VB b∧Vw b ⟨0,0,x.W,x.H⟩:=fun b hb=>by
  have:=ZpE (Zi:=Zi) hg.1 b hb;rw[← hg.2.1,← hg.2.2.1];exact this
 have hs:=ZqW (n:=VA l+1) (fun c hc=>Zom hq hc (by omega) aa) (ZfM i hv.2) (fun y hy=>by have:=h3 y (LQ hy);omega) (by omega);unfold VSt ZnE;rw[hs,Kx,Zb3];constructor
 ·rintro ⟨g1,g2 | g2⟩
  ·exact⟨by rw[g2];simp;omega,g1⟩
  ·exact⟨g2,g1⟩
 ·rintro ⟨g1,g2⟩
  exact⟨g2,.inr g1⟩
def Zbn (l:List Zb) (n:Int) (k:ZD) (p:Zd) (Zi:Int):Option (List Zb):=
 if VSt l∧0≤Qu 0 l n∧1≤Zi∧Zi≤200 then
  match l[(Qu 0 l n).toNat]? with
  | some x=>if VK x k p∧VSt (ZnE l (Qu 0 l n).toNat x k p Zi) then some (ZnE l (Qu 0 l n).toNat x k p Zi) else none
  | none=>none
 else none
def Zsh:Option (List Zb)→AV×List Zn
 | some R=>(.tup [.own 0,(.d (.bool true))],[.row 4 (R.map Zb.enc) true false])
 | none=>(.tup [.own 0,(.d (.bool false))],[.row 4 [] true false])
theorem Zai {l:List Zb} {n:Int} (h:0≤Qu 0 l n):∃ (i:Nat) (x:Zb),Qu 0 l n=(i:Int)∧l[i]?=some x:=by
 rcases Zol l 0 n with h1 | ⟨i,h1,h2⟩
 ·omega
 ·obtain⟨x,hx⟩:=Zr h2;exact⟨i,x,by rw[h1];simp,hx⟩
def Zsi:Option (List Zb)→AV×List Zn
 | some R=>(.tup [.own 0,(.d (.bool true))],[.tree 4 4 (R.map Zb.enc) none])
 | none=>(.tup [.own 0,(.d (.bool false))],[.row 4 [] true false])
theorem Zqv (l:List Zb) (n:Int) (kW kH:Int) (kP:List Pane) (p:Zd) (Zi:Int):Zf Xs Ms UZ [(.d (.sl (l.map Zb.enc))),(.d (J n)),(.d (.agg [J kW,J kH,.sl (kP.map Pane.enc)])),.d p.enc,(.d (J Zi))] []=some (Zsi (Zbn l n (ZD.mk kW kH kP) p Zi)):=by
 by_cases h:VSt l∧0≤Qu 0 l n
 ·obtain⟨hv,hf⟩:=h;obtain⟨i,x,hi,hx⟩:=Zai hf;have ah:=(Ka.1 hx).1;have hq:=Qo hv.2 x (Kb hx);have ai:=Zon hv (by omega);obtain⟨y,hy⟩:=Zr (l:=l) (k:=l.length-1) (by omega);have ad:=Zll hy;have af:=hv.1;have aa:=ZzO (k:=(ZD.mk kW kH kP)) (p:=p) (Zi:=Zi) hv hx;have et:=fun q1 q2 q3 q4 h=>Zfc l n hv i hi q1 q2 q3 q4 h;unfold Zbn;rw[hi];simp only[Le,hx];obtain⟨L,W,H,F⟩:=x;have et:=et L W H F hx;have eg:=Zqs L W H F kW kH kP p;have aj:(l.eraseIdx i).length≤20:=Kv (Zlk _ _) af;have ab:l.length-1<l.length:=by omega
  have w1:IntKind.i64.wrap ((l.length:Int)-1)=((l.length-1:Nat):Int):=by rw[Zc7 (by omega) (by omega)];omega
  have w2:=wi (VA l+1) (by omega) (by omega);by_cases hg:VK ⟨L,W,H,F⟩ (ZD.mk kW kH kP) p
  ·have hd:decide (VPc ⟨L,W,H,F⟩∧VK ⟨L,W,H,F⟩ (ZD.mk kW kH kP) p)=true:=Kg ⟨hq,hg⟩;rw[hd] at eg;by_cases hl:1≤Zi∧Zi≤200
   ·have n1:¬Zi<1:=by omega
    have n2:¬200<Zi:=by omega
    have ag:=Zhw (ZD.mk kW kH kP) p Zi;by_cases hk:((QR (ZD.mk kW kH kP) p Zi).length:Int)≤10000-(VA l+1)
    ·have er:=ZjU L W H F kW kH kP p Zi (VA l+1) hq hg.1 hg.2.1 hg.2.2.1 (by omega) (by omega) hk;have w3:=wi (((l.eraseIdx i).length:Int)+((QR (ZD.mk kW kH kP) p Zi).length:Int)) (by omega) (by omega);have ae:=Zb3 ⟨L,W,H,F⟩ (VA l+1) (QR (ZD.mk kW kH kP) p Zi);by_cases h2:(l.eraseIdx i).length+(QR (ZD.mk kW kH kP) p Zi).length≤20
     ·rw[Kl ⟨hv,by omega,hl⟩,Kl ⟨hg,(aa hg).2 ⟨hk,h2⟩⟩];unfold ZnE Zsi;have n3:¬(20:Int)<((l.eraseIdx i).length:Int)+((QR (ZD.mk kW kH kP) p Zi).length:Int):=by omega
      have hr:((l.eraseIdx i).length+(QR (ZD.mk kW kH kP) p Zi).length)*48≤140737488355328∧(l.eraseIdx i).length+(QR (ZD.mk kW kH kP) p Zi).length≤140737488355328:=by omega
      clear aa hg hd;generalize Uf ⟨L,W,H,F⟩ (VA l+1) (QR (ZD.mk kW kH kP) p Zi)=R at er ae ⊢;generalize (QR (ZD.mk kW kH kP) p Zi).length=N at *;obtain⟨yL,yW,yH,yF⟩:=y;simp only at ad;rw[ad] at er w2;obtain⟨o,a,m,t,ks⟩:=p;rw[Zd.enc_mk] at er eg ⊢;refine cE ?_;simp +contextual -implicitDefEqProofs (maxSteps:=10^7) only[go_sem,seval,↓gZ,XL,et,eg,n1,n2,w1,hy,ab,w2,er,ae,w3,n3,hr]
     ·rw[Kl ⟨hv,by omega,hl⟩,Kj (fun h=>h2 ((aa hg).1 h.2).2)];unfold Zsi;have n3:(20:Int)<((l.eraseIdx i).length:Int)+((QR (ZD.mk kW kH kP) p Zi).length:Int):=by omega
      clear aa hg hd;generalize Uf ⟨L,W,H,F⟩ (VA l+1) (QR (ZD.mk kW kH kP) p Zi)=R at er ae ⊢;generalize (QR (ZD.mk kW kH kP) p Zi).length=N at *;obtain⟨yL,yW,yH,yF⟩:=y;simp only at ad;rw[ad] at er w2;obtain⟨o,a,m,t,ks⟩:=p;rw[Zd.enc_mk] at er eg ⊢;refine cE ?_;simp +contextual -implicitDefEqProofs (maxSteps:=10^7) only[go_sem,seval,↓gZ,XL,et,eg,n1,n2,w1,hy,ab,w2,er,ae,w3,n3]
    ·have er:=Zli L W H F kW kH kP p Zi (VA l+1) (by omega) (by omega) hk;rw[Kl ⟨hv,by omega,hl⟩,Kj (fun h=>hk ((aa hg).1 h.2).1)];unfold Zsi;clear aa hg hd hk ag;obtain⟨yL,yW,yH,yF⟩:=y;simp only at ad;rw[ad] at er w2;obtain⟨o,a,m,t,ks⟩:=p;rw[Zd.enc_mk] at er eg ⊢;refine cE ?_;simp +contextual -implicitDefEqProofs (maxSteps:=10^7) only[go_sem,seval,↓gZ,XL,et,eg,n1,n2,w1,hy,ab,w2,er]
   ·rw[Kj (fun h=>hl ⟨h.2.2.1,h.2.2.2⟩)];unfold Zsi;clear aa hg hd;obtain⟨o,a,m,t,ks⟩:=p;rw[Zd.enc_mk] at eg ⊢;by_cases n1:Zi<1
    ·refine cE ?_;simp +contextual -implicitDefEqProofs (maxSteps:=10^7) only[go_sem,seval,↓gZ,XL,et,eg,n1]
    ·have n2:200<Zi:=by omega
     refine cE ?_;simp +contextual -implicitDefEqProofs (maxSteps:=10^7) only[go_sem,seval,↓gZ,XL,et,eg,n1,n2]
  ·have hd:decide (VPc ⟨L,W,H,F⟩∧VK ⟨L,W,H,F⟩ (ZD.mk kW kH kP) p)=false:=Kh fun h=>hg h.2;rw[hd] at eg;have e0:(if VSt l∧(0:Int)≤(i:Int)∧1≤Zi∧Zi≤200 then (if VK ⟨L,W,H,F⟩ (ZD.mk kW kH kP) p∧VSt (ZnE l i ⟨L,W,H,F⟩ (ZD.mk kW kH kP) p Zi) then some (ZnE l i ⟨L,W,H,F⟩ (ZD.mk kW kH kP) p Zi) else none) else none)=none:=by
    rw[Kj (fun h:VK ⟨L,W,H,F⟩ (ZD.mk kW kH kP) p∧_=>hg h.1)];split<;>rfl
   rw[e0];unfold Zsi;clear aa hg hd e0;obtain⟨o,a,m,t,ks⟩:=p;rw[Zd.enc_mk] at eg ⊢;refine cE ?_;simp +contextual -implicitDefEqProofs (maxSteps:=10^7) only[go_sem,seval,↓gZ,XL,et,eg]
 ·have et:=ZfL l n h;have e0:Zbn l n (ZD.mk kW kH kP) p Zi=none:=by
   unfold Zbn;rw[Kj (fun g=>h ⟨g.1,g.2.1⟩)]
  rw[e0];unfold Zsi;clear e0;obtain⟨o,a,m,t,ks⟩:=p;rw[Zd.enc_mk];refine cE ?_;simp +contextual -implicitDefEqProofs (maxSteps:=10^7) only[go_sem,seval,↓gZ,XL,et]
theorem ZuT {l:List Zb} {i:Nat} {x:Zb} {k:ZD} {p:Zd} {Zi:Int} (hv:VSt l) (hx:l[i]?=some x) (hg:VK x k p) :
  (ZnE l i x k p Zi).length≤1000∧∀ y∈ZnE l i x k p Zi,y.Flaws.length<4611686018427387904∧R64 y.W∧R64 y.H:=by
 have hq:=Qo hv.2 x (Kb hx);refine⟨?_,fun y hy=>?_⟩
 ·unfold ZnE;rw[Kx,Zb3];have:=Zhw k p Zi;have:=Zlk l i;have:=hv.1;omega
 ·rcases Ke.1 hy with hy | hy
  ·have h:=Qo hv.2 y (LQ hy);have h1:=h.1;exact⟨by omega,⟨by omega,by omega⟩,⟨by omega,by omega⟩⟩
  ·obtain⟨j,hj⟩:=Lw hy;obtain⟨b,hb,rfl⟩:=Ztt x _ _ j y hj;have aa:=(ZpE (Zi:=Zi) hg.1 b (Kb hb)).1;simp only[VB] at aa;have ab:=Ki (Yj b) x.Flaws;have ad:=hq.1.2.2.2.2.2.2;simp only[ZlY];exact⟨by omega,⟨by omega,by omega⟩,⟨by omega,by omega⟩⟩
theorem Zqw (l:List Zb) (n:Int) (kW kH:Int) (kP:List Pane) (p:Zd) (Zi:Int) (hl:l.length≤1048576) (hS:∀ x∈l,x.Flaws.length≤1048576∧R64 x.W∧R64 x.H) (hk:kP.length<4611686018427387904):Zf Xs Ms UW [(.d (.sl (l.map Zb.enc))),(.d (J n)),(.d (.agg [J kW,J kH,.sl (kP.map Pane.enc)])),.d p.enc,(.d (J Zi))] []=some (Zsh (Zbn l n (ZD.mk kW kH kP) p Zi)):=by
 have ev:=Y9 l (by omega) (fun x hx=>by obtain⟨g1,g2,g3⟩:=hS x hx;exact⟨by omega,g2,g3⟩);have ef:=XW l n (by omega);unfold Zbn;by_cases hv:VSt l
 ·rw[Kg hv] at ev;by_cases hf:0≤Qu 0 l n
  ·obtain⟨i,x,hi,hx⟩:=Zai hf;rw[hi] at ef ⊢;have ad:¬(i:Int)<0:=by omega
   have af:=(Ka.1 hx).1;simp only[Le,hx];by_cases hr:1≤Zi∧Zi≤200
   ·have hq:=Qo hv.2 x (Kb hx);have al:=Zon hv (by omega);have ew:=ZdY l i (by omega) (fun x hx=>by have:=(hS x hx).1;omega);have el:=Zok l (by omega);have w2:=wi (VA l+1) (by omega) (by omega);rw[Kl ⟨hv,by omega,hr⟩];by_cases hg:VK x (ZD.mk kW kH kP) p
    ·have ag:=ZuT (Zi:=Zi) hv hx hg;have aa:=Y9 (ZnE l i x (ZD.mk kW kH kP) p Zi) (by omega) ag.2;have aj:(l.eraseIdx i).length≤20:=Kv (Zlk _ _) hv.1;have am:=Zhw (ZD.mk kW kH kP) p Zi;obtain⟨L,W,H,F⟩:=x;have eg:=ZhQ L W H F kW kH kP p (fun f hf=>(hq.2 f hf).1) hq.1.2.2.2.2.2.2 hk;have er:=Zqu L W H F kW kH kP p Zi (VA l+1) hq hg.1 (by omega) (by omega);rw[Kg hg] at eg;have ae:=Zb3 ⟨L,W,H,F⟩ (VA l+1) (QR (ZD.mk kW kH kP) p Zi);have ai:((l.eraseIdx i).length+(QR (ZD.mk kW kH kP) p Zi).length)*48≤140737488355328∧(l.eraseIdx i).length+(QR (ZD.mk kW kH kP) p Zi).length≤140737488355328:=by omega
     unfold ZnE at aa ⊢;have ah:=hg;clear hg;by_cases ab:VSt (l.eraseIdx i++Uf ⟨L,W,H,F⟩ (VA l+1) (QR (ZD.mk kW kH kP) p Zi))
     ·rw[Kg ab] at aa;rw[Kl ⟨ah,ab⟩];unfold Zsh;clear ab ag ah;generalize Uf ⟨L,W,H,F⟩ (VA l+1) (QR (ZD.mk kW kH kP) p Zi)=R at er ae aa ⊢;generalize (QR (ZD.mk kW kH kP) p Zi).length=N at *;obtain⟨o,a,m,t,ks⟩:=p;rw[Zd.enc_mk] at er eg ⊢;refine cE ?_;simp +contextual -implicitDefEqProofs (maxSteps:=10^7) only[go_sem,seval,↓gZ,Yf,ev,ef,ad,ZH,hr,hx,af,eg,ew,el,w2,er,ae,ai,aa]
     ·rw[Kh ab] at aa;rw[Kj (fun h=>ab h.2)];unfold Zsh;clear ab ag ah;generalize Uf ⟨L,W,H,F⟩ (VA l+1) (QR (ZD.mk kW kH kP) p Zi)=R at er ae aa ⊢;generalize (QR (ZD.mk kW kH kP) p Zi).length=N at *;obtain⟨o,a,m,t,ks⟩:=p;rw[Zd.enc_mk] at er eg ⊢;refine cE ?_;simp +contextual -implicitDefEqProofs (maxSteps:=10^7) only[go_sem,seval,↓gZ,Yf,ev,ef,ad,ZH,hr,hx,af,eg,ew,el,w2,er,ae,ai,aa]
    ·rw[Kj (fun h=>hg h.1)];obtain⟨L,W,H,F⟩:=x;have eg:=ZhQ L W H F kW kH kP p (fun f hf=>(hq.2 f hf).1) hq.1.2.2.2.2.2.2 hk;rw[Kh hg] at eg;unfold Zsh;clear hg;obtain⟨o,a,m,t,ks⟩:=p;rw[Zd.enc_mk] at eg ⊢;refine cE ?_;simp +contextual -implicitDefEqProofs (maxSteps:=10^7) only[go_sem,seval,↓gZ,Yf,ev,ef,ad,ZH,hr,hx,af,eg]
   ·rw[Kj (fun h=>hr h.2.2)];unfold Zsh;obtain⟨o,a,m,t,ks⟩:=p;rw[Zd.enc_mk];refine cE ?_;simp +contextual -implicitDefEqProofs (maxSteps:=10^7) only[go_sem,seval,↓gZ,Yf,ev,ef,ad,ZH,hr]
  ·rw[Kj (fun h=>hf h.2.1)];have ak : Qu 0 l n<0:=by omega
   unfold Zsh;obtain⟨o,a,m,t,ks⟩:=p;rw[Zd.enc_mk];refine cE ?_;simp +contextual -implicitDefEqProofs (maxSteps:=10^7) only[go_sem,seval,↓gZ,Yf,ev,ef,ak]
 ·rw[Kh hv] at ev;rw[Kj (fun h=>hv h.1)];unfold Zsh;obtain⟨o,a,m,t,ks⟩:=p;rw[Zd.enc_mk];refine cE ?_;simp +contextual -implicitDefEqProofs (maxSteps:=10^7) only[go_sem,seval,↓gZ,Yf,ev]
theorem Zoo (l:List Zb) (hv:VSt l):Zf Xs Ms WQ [(.d (.sl (l.map Zb.enc)))] []=some ((.d (J (Yy l))),[]):=by
 have ev:=Y8 l;rw[Kg hv] at ev;have af:=hv.1;have aa:∀ x∈l,1≤x.W∧x.W≤200∧1≤x.H∧x.H≤200:=fun x hx=>by
  have:=(Qo hv.2 x hx).1;omega
 clear hv;refine cE ?_;simp +contextual -implicitDefEqProofs (maxSteps:=10^7) only[go_sem,seval,↓gZ,ZcN,ev];refine LO (α:=Nat) (fun i=>[(11,.d (J (i:Int))),(3,.d (J (Yy (l.take i))))]) (fun _=>[]) (fun i=>i≤l.length) (fun i=>l.length-i) 0 (by omega) ?_;intro i hi ih;by_cases ab:i<l.length
 ·obtain⟨x,hx⟩:=Zr ab;have hw:=Zj (k:=i) (by omega);have hm:=Zoi hx;have ag:=ZaS (l:=l.take i) (fun y hy=>aa y (KY hy));have ah:(l.take i).length≤i:=by simp;omega
  have g5:=aa x (Kb hx);have ad:x.W*x.H≤200*200:=Kac (by omega) (by omega) (by omega) (by omega);have ae:0≤x.W*x.H:=Kab (by omega) (by omega);obtain⟨xL,xW,xH,xF⟩:=x;simp only at g5 hm ad ae;have u0:=wi (xW*xH) (by omega) (by omega);have u1:=wi (Yy (l.take i)+xW*xH) (by omega) (by omega);simp +contextual -implicitDefEqProofs (maxSteps:=10^7) only[go_sem,seval,↓gZ,hx,ab,hw,u0,u1];refine ih (i+1) _ (by omega) (by omega) ?_;simp +contextual -implicitDefEqProofs (maxSteps:=10^7) only[go_sem,seval,↓gZ,hm]
 ·have:i=l.length:=by omega
  subst this;simp +contextual -implicitDefEqProofs (maxSteps:=10^7) only[go_sem,seval,↓gZ,LU]
end Go.Proofs.YtdhgppkldoopaaaGreat
