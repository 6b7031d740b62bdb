/- Own text. -/
import Derived.Test.YtnachaiejoflhaaDCode
import Derived.Test.YtnachaiejoflhaaAbsParts
import Derived.Test.YtnachaiejoflhaaDC2
import Derived.Test.YtnachaiejoflhaaAbsOkD
namespace Go.Proofs.Ytnachaiejoflhaa
open Go Go.Abs Go.Abs.E Go.Abs.L
open Nat (reduceMul reduceSub reduceLeDiff reduceEqDiff)
open Int (reduceLE reduceEq reduceToNat reduceNeg)
set_option linter.unusedSimpArgs false
set_option linter.unusedVariables false
set_option maxRecDepth 20000
set_option maxHeartbeats 4000000
theorem ZnN (q:Zf):∀ (n:Int) (l:List Box) (i:Nat) (x:Zf),(VC q n l)[i]?=some x→∃ b,l[i]?=some b∧x=ZfF q b (n+i)
 | n,[],i,x,h=>by simp[VC] at h
 | n,b :: l,0,x,h=>by
  simp only[VC,Lr,Option.some.injEq] at h;exact⟨b,rfl,by rw[← h];simp⟩
 | n,b :: l,i+1,x,h=>by
  simp only[VC,Lg] at h;obtain⟨c,h1,h2⟩:=ZnN q (n+1) l i x h;refine⟨c,by simpa using h1,?_⟩;rw[h2];congr 1;omega
def XH:Int→List Zf→Prop
 | _,[]=>True
 | b,x :: l=>VPc x∧b<x.Label∧XH x.Label l
instance sortFdec:∀ (b:Int) (l:List Zf),Decidable (XH b l)
 | _,[]=>.isTrue trivial
 | b,x :: l=>by unfold XH;exact @instDecidableAnd _ _ _ (@instDecidableAnd _ _ _ (sortFdec x.Label l))
def VSt (l:List Zf):Prop:=l.length≤20∧XH 0 l
instance (l:List Zf):Decidable (VSt l):=by unfold VSt;infer_instance
theorem ZiP {l:List Zf} {k:Nat} {x:Zf} {b:Int} (hx:l[k]?=some x):XH b (l.drop k)↔VPc x∧b<x.Label∧XH x.Label (l.drop (k+1)):=by
 obtain⟨h1,h2⟩:=Kc.1 hx;rw[KS h1,h2,XH]
theorem Zlb {l:List Zf} {b:Int}:XH b (l.drop l.length):=by simp[XH]
theorem ZbK (l:List Zf):Zh Xs Ms YN [(.d (.sl (l.map Zf.enc)))] []=some ((.d (.bool (decide (VSt l)))),[]):=by
 by_cases ab:(20:Int)<(l.length:Int)
 ·have hn:¬VSt l:=fun h=>by have:=h.1;omega
  refine cE ?_;simp +contextual -implicitDefEqProofs (maxSteps:=10^7) only[go_sem,seval,↓gZ,Ww,ab,hn]
 ·have ad:l.length≤20:=by omega
  refine cE ?_;simp +contextual -implicitDefEqProofs (maxSteps:=10^7) only[go_sem,seval,↓gZ,Ww,ab];refine LO (α:=Nat×Int) (fun s=>[(11,.d (J (s.1:Int))),(3,.d (J s.2))]) (fun _=>[]) (fun s=>s.1≤l.length∧(XH 0 l↔XH s.2 (l.drop s.1))) (fun s=>l.length-s.1) (0,0) ⟨by simp,by simp⟩ ?_;intro⟨i,b⟩ ⟨hi,hp⟩ ih;simp only at hi hp;by_cases aa:i<l.length
  ·obtain⟨x,hx⟩:=ZJ aa;have hw:=Zq (k:=i) (by omega);rw[ZiP hx] at hp;have ev:=Q2 x.Label x.W x.H x.Flaws;obtain⟨L,W,H,F⟩:=x;simp only at hp ev;by_cases hv:VPc ⟨L,W,H,F⟩
   ·rw[Le hv] at ev;by_cases hb:L≤b
    ·have hn:¬VSt l:=fun h=>by have:=(hp.1 h.2).2.1;omega
     simp +contextual -implicitDefEqProofs (maxSteps:=10^7) only[go_sem,seval,↓gZ,hx,aa,hw,ev,hb,hn]
    ·simp +contextual -implicitDefEqProofs (maxSteps:=10^7) only[go_sem,seval,↓gZ,hx,aa,hw,ev,hb];refine ih (i+1,L) _ ⟨by simp only;omega,?_⟩ (by simp only;omega) ?_
     ·rw[hp];exact⟨fun h=>h.2.2,fun h=>⟨hv,by omega,h⟩⟩
     ·simp +contextual -implicitDefEqProofs (maxSteps:=10^7) only[go_sem,seval,↓gZ]
   ·rw[Lh hv] at ev;have hn:¬VSt l:=fun h=>hv (hp.1 h.2).1;simp +contextual -implicitDefEqProofs (maxSteps:=10^7) only[go_sem,seval,↓gZ,hx,aa,hw,ev,hn]
  ·have:i=l.length:=by omega
   subst this;have hy:VSt l:=⟨ad,hp.2 Zlb⟩
   simp +contextual -implicitDefEqProofs (maxSteps:=10^7) only[go_sem,seval,↓gZ,hy]
def Zff (l:List Zf):Nat→Int
 | 0=>0
 | j+1=>match l[j]? with
  | some x=>x.Label
  | none=>0
theorem ZbL (l:List Zf) (hl:l.length<4611686018427387904) (hS:∀ x∈l,x.Flaws.length<4611686018427387904∧R64 x.W∧R64 x.H):Zh Xs Ms XJ [(.d (.sl (l.map Zf.enc)))] []=some ((.d (.bool (decide (VSt l)))),[]):=by
 refine cE ?_;simp +contextual -implicitDefEqProofs (maxSteps:=10^7) only[go_sem,seval,↓gZ,Jy];refine LO (α:=Nat) (fun i=>[(3,.d (J (i:Int)))]) (fun _=>[]) (fun i=>i≤l.length∧(XH 0 l↔XH (Zff l i) (l.drop i))) (fun i=>l.length-i) 0 ⟨by simp,by simp[Zff]⟩ ?_;intro i ⟨hi,hp⟩ ih;by_cases aa:i<l.length
 ·obtain⟨x,hx⟩:=ZJ aa;have hw:=Zq (k:=i) (by omega);rw[ZiP hx] at hp;obtain⟨ag,ah,ai⟩:=hS x (Ke hx);have ev:=ZgS x.Label x.W x.H x.Flaws ag ah ai;have ad:Zff l (i+1)=x.Label:=by simp only[Zff,hx]
  obtain⟨L,W,H,F⟩:=x;simp only at hp ev ad;by_cases hv:VPc ⟨L,W,H,F⟩
  ·rw[Le hv] at ev;have hL:1≤L:=hv.1.1;cases i with
   | zero=>
    have ae : (0:Int)<(l.length:Int):=by omega
    simp +contextual -implicitDefEqProofs (maxSteps:=10^7) only[go_sem,seval,↓gZ,hx,aa,ae,hw,ev];refine ih 1 _ ⟨by omega,?_⟩ (by omega) ?_
    ·rw[hp,ad];exact⟨fun h=>h.2.2,fun h=>⟨hv,by simp only[Zff];omega,h⟩⟩
    ·simp +contextual -implicitDefEqProofs (maxSteps:=10^7) only[go_sem,seval,↓gZ]
   | succ j=>
    obtain⟨y,hy⟩:=ZJ (l:=l) (k:=j) (by omega);have aj:Zff l (j+1)=y.Label:=by simp only[Zff,hy]
    rw[aj] at hp;have hj:IntKind.i64.wrap (((j+1:Nat):Int)-1)=(j:Int):=by rw[J0 (by omega) (by omega)];omega
    have ab:(0:Int)<((j+1:Nat):Int):=by omega
    have af:j<l.length:=by omega
    obtain⟨L',W',H',F'⟩:=y;simp only at hp;by_cases hb:L≤L'
    ·have hn:¬VSt l:=fun h=>by have:=(hp.1 h.2).2.1;omega
     simp +contextual -implicitDefEqProofs (maxSteps:=10^7) only[go_sem,seval,↓gZ,hx,aa,hw,ev,ab,hj,af,hy,hb,hn]
    ·simp +contextual -implicitDefEqProofs (maxSteps:=10^7) only[go_sem,seval,↓gZ,hx,aa,hw,ev,ab,hj,af,hy,hb];refine ih (j+1+1) _ ⟨by omega,?_⟩ (by omega) ?_
     ·rw[hp,ad];exact⟨fun h=>h.2.2,fun h=>⟨hv,by omega,h⟩⟩
     ·simp +contextual -implicitDefEqProofs (maxSteps:=10^7) only[go_sem,seval,↓gZ]
  ·rw[Lh hv] at ev;have hn:¬VSt l:=fun h=>hv (hp.1 h.2).1;simp +contextual -implicitDefEqProofs (maxSteps:=10^7) only[go_sem,seval,↓gZ,hx,aa,hw,ev,hn]
 ·have:i=l.length:=by omega
  subst this;have hs:=hp.2 Zlb;simp +contextual -implicitDefEqProofs (maxSteps:=10^7) only[go_sem,seval,↓gZ];exact ZdC (by simp only[VSt];constructor<;>(intro h;first | exact⟨by omega,hs⟩ | (have:=h.1;omega)))
def Wh:Nat→List Zf→Int→Int
 | _,[],_=>-1
 | k,x :: l,n=>if x.Label=n then (k:Int) else Wh (k+1) l n
theorem Zlc {l:List Zf} {k:Nat} {x:Zf} {n:Int} (hx:l[k]?=some x):Wh k (l.drop k) n=if x.Label=n then (k:Int) else Wh (k+1) (l.drop (k+1)) n:=by
 obtain⟨h1,h2⟩:=Kc.1 hx;rw[KS h1,h2,Wh]
theorem ZfW (qL qW qH:Int) (qF:List Box) (n:Int):Zh Xs Ms Xl [(.d (.agg [J qL,J qW,J qH,.sl (qF.map Box.enc)])),.ptr 0 0] [.box [(.d (J n))]]=some ((.d (.bool (decide (qL=n)))),[.box [(.d (J n))]]):=by
 refine cE ?_;simp +contextual -implicitDefEqProofs (maxSteps:=10^7) only[go_sem,seval,↓gZ,Uv]
theorem Zl9 (l:List Zf) (n:Int) (hl:l.length<4611686018427387904):Zh Xs Ms QU [(.d (.sl (l.map Zf.enc))),.clo Xl [.ptr 0 0]] [.box [(.d (J n))]]=some ((.d (J (Wh 0 l n))),[.box [(.d (J n))]]):=by
 refine cE ?_;simp +contextual -implicitDefEqProofs (maxSteps:=10^7) only[go_sem,seval,↓gZ,YR];refine LO (α:=Nat) (fun k=>[(8,.d (J (k:Int)))]) (fun _=>[]) (fun k=>k≤l.length∧Wh k (l.drop k) n=Wh 0 l n) (fun k=>l.length-k) 0 ⟨by omega,rfl⟩ ?_;intro k ⟨hk,hp⟩ ih;by_cases aa:k<l.length
 ·obtain⟨x,hx⟩:=ZJ aa;rw[Zlc hx] at hp;have hw:=Zq (k:=k) (by omega);have e1:=ZfW x.Label x.W x.H x.Flaws n;obtain⟨L,W,H,F⟩:=x;simp only at hp e1;by_cases h:L=n
  ·rw[Kt h] at hp;rw[Le h] at e1;simp +contextual -implicitDefEqProofs (maxSteps:=10^7) only[go_sem,seval,↓gZ,hx,aa,hw,e1];rw[← hp]
  ·rw[Kn h] at hp;rw[Lh h] at e1;simp +contextual -implicitDefEqProofs (maxSteps:=10^7) only[go_sem,seval,↓gZ,hx,aa,hw,e1];refine ih (k+1) _ ⟨by omega,hp⟩ (by omega) ?_;simp +contextual -implicitDefEqProofs (maxSteps:=10^7) only[go_sem,seval,↓gZ]
 ·have:k=l.length:=by omega
  subst this;simp +contextual -implicitDefEqProofs (maxSteps:=10^7) only[go_sem,seval,↓gZ];rw[← hp];simp[Wh]
theorem ZcC (l:List Zf) (n:Int) (hl:l.length<4611686018427387904):Zh Xs Ms Vh [(.d (.sl (l.map Zf.enc))),(.d (J n))] []=some ((.d (J (Wh 0 l n))),[]):=by
 refine cE ?_;simp +contextual -implicitDefEqProofs (maxSteps:=10^7) only[go_sem,seval,↓gZ,Zac,Zl9 l n hl]
theorem ZiQ (l:List Zf) (n:Int) (hl:l.length<4611686018427387904):Zh Xs Ms X6 [(.d (.sl (l.map Zf.enc))),(.d (J n))] []=some ((.d (J (Wh 0 l n))),[]):=by
 refine cE ?_;simp +contextual -implicitDefEqProofs (maxSteps:=10^7) only[go_sem,seval,↓gZ,Zab];refine LO (α:=Nat) (fun k=>[(5,.d (J (k:Int)))]) (fun _=>[]) (fun k=>k≤l.length∧Wh k (l.drop k) n=Wh 0 l n) (fun k=>l.length-k) 0 ⟨by omega,rfl⟩ ?_;intro k ⟨hk,hp⟩ ih;by_cases aa:k<l.length
 ·obtain⟨x,hx⟩:=ZJ aa;rw[Zlc hx] at hp;have hw:=Zq (k:=k) (by omega);obtain⟨L,W,H,F⟩:=x;simp only at hp;by_cases h:L=n
  ·rw[Kt h] at hp;simp +contextual -implicitDefEqProofs (maxSteps:=10^7) only[go_sem,seval,↓gZ,hx,aa,hw,h];rw[← hp]
  ·rw[Kn h] at hp;simp +contextual -implicitDefEqProofs (maxSteps:=10^7) only[go_sem,seval,↓gZ,hx,aa,hw,h];refine ih (k+1) _ ⟨by omega,hp⟩ (by omega) ?_;simp +contextual -implicitDefEqProofs (maxSteps:=10^7) only[go_sem,seval,↓gZ]
 ·have:k=l.length:=by omega
  subst this;simp +contextual -implicitDefEqProofs (maxSteps:=10^7) only[go_sem,seval,↓gZ];rw[← hp];simp[Wh]
theorem ZcD (qL qW qH:Int) (qF:List Box) (hF:qF.length≤1048576):Zh Xs Ms Ya [(.d (.agg [J qL,J qW,J qH,.sl (qF.map Box.enc)]))] []=some (.agg [(.d (J qL)),(.d (J qW)),(.d (J qH)),.own 0],[.row 4 (qF.map Box.enc) true false]):=by
 have hr:qF.length*32≤140737488355328∧qF.length≤140737488355328:=by omega
 refine cE ?_;simp +contextual -implicitDefEqProofs (maxSteps:=10^7) only[go_sem,seval,↓gZ,Zak,hr]
theorem ZiR (qL qW qH:Int) (qF:List Box) (hF:qF.length≤1048576):Zh Xs Ms Vp [(.d (.agg [J qL,J qW,J qH,.sl (qF.map Box.enc)]))] []=some (.agg [(.d (J qL)),(.d (J qW)),(.d (J qH)),.own 0],[.row 4 (qF.map Box.enc) true false]):=by
 have hr:qF.length*32≤140737488355328∧qF.length≤140737488355328:=by omega
 refine cE ?_;simp +contextual -implicitDefEqProofs (maxSteps:=10^7) only[go_sem,seval,↓gZ,Zai,hr]
theorem ZnO:∀ (F:List Box),Wy D.flat (F.map Box.enc)=true
 | []=>rfl
 | x :: F=>by simp only[Kx,Wy,ZnO F,Lv];rfl
theorem ZcE (l:List Zf) (hl:l.length≤1048576) (hF:∀ x∈l,x.Flaws.length≤1048576):Zh Xs Ms X9 [(.d (.sl (l.map Zf.enc)))] []=some (.own 0,[.tree 4 4 (l.map Zf.enc) none]):=by
 refine cE ?_;simp +contextual -implicitDefEqProofs (maxSteps:=10^7) only[go_sem,seval,↓gZ,Zaj];refine LO (α:=Nat) (fun i=>[(8,.d (J (i:Int)))]) (fun i=>[(0,.tree 4 4 ((l.take i).map Zf.enc) none)]) (fun i=>i≤l.length) (fun i=>l.length-i) 0 (by omega) ?_;intro i hi ih;by_cases aa:i<l.length
 ·obtain⟨x,hx⟩:=ZJ aa;have hw:=Zq (k:=i) (by omega);have hm:l.take (i+1)=l.take i++[x]:=by rw[La,hx];simp
  have ad:(l.take i).length≤i:=by simp;omega
  have hr:((l.take i).length+1)*48≤140737488355328∧(l.take i).length≤140737488355327:=by omega
  have e:=ZcD x.Label x.W x.H x.Flaws (hF x (Ke hx));obtain⟨L,W,H,F⟩:=x;simp only at e;have ab:=ZnO F;simp +contextual -implicitDefEqProofs (maxSteps:=10^7) only[go_sem,seval,↓gZ,hx,aa,hw,e,hr,ab];refine ih (i+1) _ (by omega) (by omega) ?_;simp +contextual -implicitDefEqProofs (maxSteps:=10^7) only[go_sem,seval,↓gZ,hm]
  first | rfl | (simp;done) | (simp;rfl)
 ·have:i=l.length:=by omega
  subst this;simp +contextual -implicitDefEqProofs (maxSteps:=10^7) only[go_sem,seval,↓gZ];simp
theorem Zpr {α:Type} {l:List α} {i a:Nat} {x:α} (hx:l[i]?=some x) (h:i≠a):(l.take (i+1)).eraseIdx a=(l.take i).eraseIdx a++[x]:=by
 have h1:=(Kc.1 hx).1;have e:l.take (i+1)=l.take i++[x]:=by rw[La,hx];simp
 rw[e];have hl:(l.take i).length=i:=by simp;omega
 rcases KG a i with h2 | h2
 ·rw[List.eraseIdx_append_of_lt_length (by omega)]
 ·rw[LG (by simp;omega),LG (by omega)]
theorem Zps {α:Type} {l:List α} {i:Nat} {x:α} (hx:l[i]?=some x):(l.take (i+1)).eraseIdx i=(l.take i).eraseIdx i:=by
 have h1:=(Kc.1 hx).1;have e:l.take (i+1)=l.take i++[x]:=by rw[La,hx];simp
 have hl:(l.take i).length=i:=by simp;omega
 rw[e,List.eraseIdx_append_of_length_le (by omega),hl];simp;rw[LG (by omega)]
theorem Zma {α:Type} (l:List α) (a:Nat):(l.eraseIdx a).length≤l.length:=by
 have:=List.length_eraseIdx_le l a;omega
theorem Zmb (l:List Zf) (a:Nat) (hl:l.length≤1048576) (hF:∀ x∈l,x.Flaws.length≤1048576):Zh Xs Ms Uk [(.d (.sl (l.map Zf.enc))),(.d (J a))] []=some (.own 0,[.row 4 ((l.eraseIdx a).map Zf.enc) true false]):=by
 refine cE ?_;simp +contextual -implicitDefEqProofs (maxSteps:=10^7) only[go_sem,seval,↓gZ,ZcP];refine LO (α:=Nat) (fun i=>[(6,.d (J (i:Int)))]) (fun i=>[(0,.row 4 (((l.take i).eraseIdx a).map Zf.enc) true false)]) (fun i=>i≤l.length) (fun i=>l.length-i) 0 (by omega) ?_;intro i hi ih;by_cases aa:i<l.length
 ·obtain⟨x,hx⟩:=ZJ aa;have hw:=Zq (k:=i) (by omega);by_cases ab:i=a
  ·subst ab;have hm:=Zps hx;simp +contextual -implicitDefEqProofs (maxSteps:=10^7) only[go_sem,seval,↓gZ,hx,aa,hw];refine ih (i+1) _ (by omega) (by omega) ?_;simp +contextual -implicitDefEqProofs (maxSteps:=10^7) only[go_sem,seval,↓gZ,hm]
  ·have hm:=Zpr hx ab;have ad:((l.take i).eraseIdx a).length≤i:=KD (Zma _ _) (by simp;omega);have hr:(((l.take i).eraseIdx a).length+1)*48≤140737488355328∧((l.take i).eraseIdx a).length≤140737488355327:=by omega
   have e:=ZiR x.Label x.W x.H x.Flaws (hF x (Ke hx));obtain⟨L,W,H,F⟩:=x;simp only at e;simp +contextual -implicitDefEqProofs (maxSteps:=10^7) only[go_sem,seval,↓gZ,hx,aa,hw,ab,e,hr];refine ih (i+1) _ (by omega) (by omega) ?_;simp +contextual -implicitDefEqProofs (maxSteps:=10^7) only[go_sem,seval,↓gZ,hm]
   first | rfl | (simp;done) | (simp;rfl)
 ·have:i=l.length:=by omega
  subst this;simp +contextual -implicitDefEqProofs (maxSteps:=10^7) only[go_sem,seval,↓gZ];simp
def Ys (l:List Zf):Int:=Zff l l.length
theorem ZfX {l:List Zf} {x:Zf} (hx:l[l.length-1]?=some x):Ys l=x.Label:=by
 have h:=(Kc.1 hx).1;unfold Ys;obtain⟨n,hn⟩:∃ n,l.length=n+1:=⟨l.length-1,by omega⟩
 rw[hn] at hx ⊢;simp only[Zff];simp only[Nat.add_sub_cancel] at hx;rw[hx]
theorem ZiS (l:List Zf) (hl:l.length<4611686018427387904):Zh Xs Ms Vj [(.d (.sl (l.map Zf.enc)))] []=some ((.d (J (Ys l))),[]):=by
 by_cases h0:l.length=0
 ·have e:Ys l=0:=by unfold Ys;rw[h0];rfl
  have aa : (l.length:Int)=0:=by omega
  rw[e];refine cE ?_;simp +contextual -implicitDefEqProofs (maxSteps:=10^7) only[go_sem,seval,↓gZ,W2,aa]
 ·obtain⟨x,hx⟩:=ZJ (l:=l) (k:=l.length-1) (by omega);have e:=ZfX hx;have hn:¬(l.length:Int)=0:=by omega
  have hw:IntKind.i64.wrap ((l.length:Int)-1)=((l.length-1:Nat):Int):=by rw[J0 (by omega) (by omega)];omega
  have ab:l.length-1<l.length:=by omega
  obtain⟨L,W,H,F⟩:=x;simp only at e;refine cE ?_;simp +contextual -implicitDefEqProofs (maxSteps:=10^7) only[go_sem,seval,↓gZ,W2,hn,hw,hx,ab,e]
theorem ZiT:∀ (l:List Zf) (k:Nat) (n:Int),Wh k l n=-1∨∃ i:Nat,Wh k l n=((k+i:Nat):Int)∧i<l.length
 | [],k,n=>.inl rfl
 | x :: l,k,n=>by
  unfold Wh;split
  ·exact .inr ⟨0,by simp,by simp⟩
  ·rcases ZiT l (k+1) n with h | ⟨i,h1,h2⟩
   ·exact .inl h
   ·exact .inr ⟨i+1,by rw[h1];congr 1;omega,by simp;omega⟩
theorem YY:∀ {l:List Zf} {b:Int},XH b l→∀ x∈l,VPc x
 | [],_,_,x,hx=>by simp at hx
 | y :: l,b,h,x,hx=>by
  rcases Kf.1 hx with rfl | hx
  ·exact h.1
  ·exact YY h.2.2 x hx
theorem Zrg {l:List Zf} (h:VSt l):l.length≤1048576∧∀ x∈l,x.Flaws.length≤1048576:=by
 refine⟨by have:=h.1;omega,fun x hx=>?_⟩;have:=(YY h.2 x hx).1.2.2.2.2.2.2;omega
theorem ZiU (l:List Zf) (n:Int) (h:¬(VSt l∧0≤Wh 0 l n)):Zh Xs Ms X7 [(.d (.sl (l.map Zf.enc))),(.d (J n))] [] =
  some (.tup [.agg [(.d (J 0)),(.d (J 0)),(.d (J 0)),.own 0],.own 1,(.d (.bool false))],[.row 4 [] true false,.row 4 [] true false]):=by
 have ev:=ZbK l;by_cases hv:VSt l
 ·rw[Le hv] at ev;have hf:=ZcC l n (by have:=hv.1;omega);have hn:Wh 0 l n<0:=by
   rcases Int.lt_or_le (Wh 0 l n) 0 with h1 | h1
   ·exact h1
   ·exact absurd ⟨hv,h1⟩ h
  refine cE ?_;simp +contextual -implicitDefEqProofs (maxSteps:=10^7) only[go_sem,seval,↓gZ,Vs,ev,hf,hn]
 ·rw[Lh hv] at ev;refine cE ?_;simp +contextual -implicitDefEqProofs (maxSteps:=10^7) only[go_sem,seval,↓gZ,Vs,ev]
theorem ZgT (l:List Zf) (n:Int) (hv:VSt l) (i:Nat) (hi:Wh 0 l n=(i:Int)) (qL qW qH:Int) (qF:List Box) (hx:l[i]?=some (Zf.mk qL qW qH qF)):Zh Xs Ms X7 [(.d (.sl (l.map Zf.enc))),(.d (J n))] [] =
  some (.tup [.agg [(.d (J qL)),(.d (J qW)),(.d (J qH)),.own 0],.own 1,(.d (.bool true))],[.row 4 (qF.map Box.enc) true false,.tree 4 4 ((l.eraseIdx i).map Zf.enc) none]):=by
 have ev:=ZbK l;rw[Le hv] at ev;have ab:i<l.length:=(Kc.1 hx).1;have ad:=hv.1;obtain⟨h1,h2⟩:=Zrg hv;have hf:=ZcC l n (by omega);rw[hi] at hf;have hw:=Zq (k:=i) (by omega);have c1:=ZcE (l.take i) (by simp;omega) (fun x hx=>h2 x (LB hx));have c2:=ZcE (l.drop (i+1)) (by simp;omega) (fun x hx=>h2 x (LC hx));have e:=ZcD qL qW qH qF (h2 (Zf.mk qL qW qH qF) (Ke hx));have hr:((l.take i).length+(l.drop (i+1)).length)*48≤140737488355328∧(l.take i).length+(l.drop (i+1)).length≤140737488355328:=by simp;omega
 have ae:i≤l.length:=by omega
 have aa:i+1≤l.length:=by omega
 have af:¬(i:Int)<0:=by omega
 rw[List.eraseIdx_eq_take_drop_succ];refine cE ?_;simp +contextual -implicitDefEqProofs (maxSteps:=10^7) only[go_sem,seval,↓gZ,Vs,Znp,ev,hf,af,hw,hx,ab,ae,aa,c1,c2,e,hr,List.take_length]
end Go.Proofs.Ytnachaiejoflhaa
