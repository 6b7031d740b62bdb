/- Own text. -/
import Derived.Test.YthgciclhiaoecaaGreatACode
import Derived.Test.YthgciclhiaoecaaGreatAbsParts
import Derived.Test.YthgciclhiaoecaaGreatAbsOkD
import Derived.Test.YthgciclhiaoecaaGreatAC2
namespace Go.Proofs.YthgciclhiaoecaaGreat
open Go Go.Abs Go.Abs.E Go.Abs.L
open Nat (reduceMul reduceSub reduceLeDiff reduceEqDiff)
open Int (reduceLE reduceEq reduceToNat reduceNeg)
set_option linter.unusedSimpArgs false
set_option linter.unusedVariables false
set_option maxRecDepth 20000
set_option maxHeartbeats 4000000
def YU:List Zb→Int
 | []=>0
 | x :: l=>x.W*x.H+YU l
theorem Zui (a b:List Zb):YU (a++b)=YU a+YU b:=by
 induction a with
 | nil=>simp[YU]
 | cons c l ih=>simp only[KJ,YU,ih];omega
theorem Zp6 {L:List Zb} {i:Nat} {x:Zb} (hx:L[i]?=some x):YU (L.take (i+1))=YU (L.take i)+x.W*x.H:=by
 rw[Ky,hx,Zui];simp[YU]
theorem ZvC (q:Zb):∀ (n:Int) (l:List Box) (i:Nat) (x:Zb),(UK q n l)[i]?=some x→∃ b,l[i]?=some b∧x=ZnB q b (n+i)
 | n,[],i,x,h=>by simp[UK] at h
 | n,b :: l,0,x,h=>by
  simp only[UK,KL,Option.some.injEq] at h;exact⟨b,rfl,by rw[← h];simp⟩
 | n,b :: l,i+1,x,h=>by
  simp only[UK,KH] at h;obtain⟨c,h1,h2⟩:=ZvC q (n+1) l i x h;refine⟨c,by simpa using h1,?_⟩;rw[h2];congr 1;omega
theorem ZbE:∀ {l:List Zb},(∀ x∈l,1≤x.W∧x.W≤200∧1≤x.H∧x.H≤200)→0≤YU l∧YU l≤40000*l.length
 | [],_=>by simp[YU]
 | x :: l,h=>by
  have h1:=h x (by simp);have h2:=ZbE (l:=l) fun y hy=>h y (by simp[hy]);have h3:0≤x.W*x.H:=Kan (by omega) (by omega);have h4:x.W*x.H≤200*200:=Kao (by omega) (by omega) (by omega) (by omega);simp only[YU,Kq];omega
end Go.Proofs.YthgciclhiaoecaaGreat
namespace Go.Proofs.YthgciclhiaoecaaGreat
open Go Go.Abs Go.Abs.E Go.Abs.L
open Nat (reduceMul reduceSub reduceLeDiff reduceEqDiff)
open Int (reduceLE reduceEq reduceToNat reduceNeg)
set_option linter.unusedSimpArgs false
set_option linter.unusedVariables false
set_option maxRecDepth 20000
set_option maxHeartbeats 4000000
def Xp:Int→List Zb→Prop
 | _,[]=>True
 | b,x :: l=>VPc x∧b<x.Label∧Xp x.Label l
instance sortFdec:∀ (b:Int) (l:List Zb),Decidable (Xp b l)
 | _,[]=>.isTrue trivial
 | b,x :: l=>by unfold Xp;exact @instDecidableAnd _ _ _ (@instDecidableAnd _ _ _ (sortFdec x.Label l))
def VSt (l:List Zb):Prop:=l.length≤20∧Xp 0 l
instance (l:List Zb):Decidable (VSt l):=by unfold VSt;infer_instance
theorem Zp7 {l:List Zb} {k:Nat} {x:Zb} {b:Int} (hx:l[k]?=some x):Xp b (l.drop k)↔VPc x∧b<x.Label∧Xp x.Label (l.drop (k+1)):=by
 obtain⟨h1,h2⟩:=Kc.1 hx;rw[Ks h1,h2,Xp]
theorem ZsT {l:List Zb} {b:Int}:Xp b (l.drop l.length):=by simp[Xp]
theorem Yo (l:List Zb):Zd Xs Ms Q5 [(.d (.sl (l.map Zb.enc)))] []=some ((.d (.bool (decide (VSt l)))),[]):=by
 by_cases ab:(20:Int)<(l.length:Int)
 ·have hn:¬VSt l:=fun h=>by have:=h.1;omega
  refine cE ?_;simp +contextual -implicitDefEqProofs (maxSteps:=10^7) only[go_sem,seval,↓gZ,JK,ab,hn]
 ·have ad:l.length≤20:=by omega
  refine cE ?_;simp +contextual -implicitDefEqProofs (maxSteps:=10^7) only[go_sem,seval,↓gZ,JK,ab];refine LO (α:=Nat×Int) (fun s=>[(11,.d (J (s.1:Int))),(3,.d (J s.2))]) (fun _=>[]) (fun s=>s.1≤l.length∧(Xp 0 l↔Xp s.2 (l.drop s.1))) (fun s=>l.length-s.1) (0,0) ⟨by simp,by simp⟩ ?_;intro⟨i,b⟩ ⟨hi,hp⟩ ih;simp only at hi hp;by_cases aa:i<l.length
  ·obtain⟨x,hx⟩:=Zo aa;have hw:=Zh (k:=i) (by omega);rw[Zp7 hx] at hp;have ev:=QR x.Label x.W x.H x.Flaws;obtain⟨L,W,H,F⟩:=x;simp only at hp ev;by_cases hv:VPc ⟨L,W,H,F⟩
   ·rw[Kh hv] at ev;by_cases hb:L≤b
    ·have hn:¬VSt l:=fun h=>by have:=(hp.1 h.2).2.1;omega
     simp +contextual -implicitDefEqProofs (maxSteps:=10^7) only[go_sem,seval,↓gZ,hx,aa,hw,ev,hb,hn]
    ·simp +contextual -implicitDefEqProofs (maxSteps:=10^7) only[go_sem,seval,↓gZ,hx,aa,hw,ev,hb];refine ih (i+1,L) _ ⟨by simp only;omega,?_⟩ (by simp only;omega) ?_
     ·rw[hp];exact⟨fun h=>h.2.2,fun h=>⟨hv,by omega,h⟩⟩
     ·simp +contextual -implicitDefEqProofs (maxSteps:=10^7) only[go_sem,seval,↓gZ]
   ·rw[Ki hv] at ev;have hn:¬VSt l:=fun h=>hv (hp.1 h.2).1;simp +contextual -implicitDefEqProofs (maxSteps:=10^7) only[go_sem,seval,↓gZ,hx,aa,hw,ev,hn]
  ·have:i=l.length:=by omega
   subst this;have hy:VSt l:=⟨ad,hp.2 ZsT⟩
   simp +contextual -implicitDefEqProofs (maxSteps:=10^7) only[go_sem,seval,↓gZ,hy]
def Zlm (l:List Zb):Nat→Int
 | 0=>0
 | j+1=>match l[j]? with
  | some x=>x.Label
  | none=>0
theorem UA (l:List Zb) (hl:l.length<4611686018427387904) (hS:∀ x∈l,x.Flaws.length<4611686018427387904∧R64 x.W∧R64 x.H):Zd Xs Ms XD [(.d (.sl (l.map Zb.enc)))] []=some ((.d (.bool (decide (VSt l)))),[]):=by
 refine cE ?_;simp +contextual -implicitDefEqProofs (maxSteps:=10^7) only[go_sem,seval,↓gZ,Zcv];refine LO (α:=Nat) (fun i=>[(3,.d (J (i:Int)))]) (fun _=>[]) (fun i=>i≤l.length∧(Xp 0 l↔Xp (Zlm l i) (l.drop i))) (fun i=>l.length-i) 0 ⟨by simp,by simp[Zlm]⟩ ?_;intro i ⟨hi,hp⟩ ih;by_cases aa:i<l.length
 ·obtain⟨x,hx⟩:=Zo aa;have hw:=Zh (k:=i) (by omega);rw[Zp7 hx] at hp;obtain⟨ag,ah,ai⟩:=hS x (Kb hx);have ev:=Zpm x.Label x.W x.H x.Flaws ag ah ai;have ad:Zlm l (i+1)=x.Label:=by simp only[Zlm,hx]
  obtain⟨L,W,H,F⟩:=x;simp only at hp ev ad;by_cases hv:VPc ⟨L,W,H,F⟩
  ·rw[Kh hv] at ev;have hL:1≤L:=hv.1.1;cases i with
   | zero=>
    have ae : (0:Int)<(l.length:Int):=by omega
    simp +contextual -implicitDefEqProofs (maxSteps:=10^7) only[go_sem,seval,↓gZ,hx,aa,ae,hw,ev];refine ih 1 _ ⟨by omega,?_⟩ (by omega) ?_
    ·rw[hp,ad];exact⟨fun h=>h.2.2,fun h=>⟨hv,by simp only[Zlm];omega,h⟩⟩
    ·simp +contextual -implicitDefEqProofs (maxSteps:=10^7) only[go_sem,seval,↓gZ]
   | succ j=>
    obtain⟨y,hy⟩:=Zo (l:=l) (k:=j) (by omega);have aj:Zlm l (j+1)=y.Label:=by simp only[Zlm,hy]
    rw[aj] at hp;have hj:IntKind.i64.wrap (((j+1:Nat):Int)-1)=(j:Int):=by rw[Zd8 (by omega) (by omega)];omega
    have ab:(0:Int)<((j+1:Nat):Int):=by omega
    have af:j<l.length:=by omega
    obtain⟨L',W',H',F'⟩:=y;simp only at hp;by_cases hb:L≤L'
    ·have hn:¬VSt l:=fun h=>by have:=(hp.1 h.2).2.1;omega
     simp +contextual -implicitDefEqProofs (maxSteps:=10^7) only[go_sem,seval,↓gZ,hx,aa,hw,ev,ab,hj,af,hy,hb,hn]
    ·simp +contextual -implicitDefEqProofs (maxSteps:=10^7) only[go_sem,seval,↓gZ,hx,aa,hw,ev,ab,hj,af,hy,hb];refine ih (j+1+1) _ ⟨by omega,?_⟩ (by omega) ?_
     ·rw[hp,ad];exact⟨fun h=>h.2.2,fun h=>⟨hv,by omega,h⟩⟩
     ·simp +contextual -implicitDefEqProofs (maxSteps:=10^7) only[go_sem,seval,↓gZ]
  ·rw[Ki hv] at ev;have hn:¬VSt l:=fun h=>hv (hp.1 h.2).1;simp +contextual -implicitDefEqProofs (maxSteps:=10^7) only[go_sem,seval,↓gZ,hx,aa,hw,ev,hn]
 ·have:i=l.length:=by omega
  subst this;have hs:=hp.2 ZsT;simp +contextual -implicitDefEqProofs (maxSteps:=10^7) only[go_sem,seval,↓gZ];exact ZcL (by simp only[VSt];constructor<;>(intro h;first | exact⟨by omega,hs⟩ | (have:=h.1;omega)))
def QI:Nat→List Zb→Int→Int
 | _,[],_=>-1
 | k,x :: l,n=>if x.Label=n then (k:Int) else QI (k+1) l n
theorem ZsU {l:List Zb} {k:Nat} {x:Zb} {n:Int} (hx:l[k]?=some x):QI k (l.drop k) n=if x.Label=n then (k:Int) else QI (k+1) (l.drop (k+1)) n:=by
 obtain⟨h1,h2⟩:=Kc.1 hx;rw[Ks h1,h2,QI]
theorem Zm0 (qL qW qH:Int) (qF:List Box) (n:Int):Zd Xs Ms Yq [(.d (.agg [J qL,J qW,J qH,.sl (qF.map Box.enc)])),.ptr 0 0] [.box [(.d (J n))]]=some ((.d (.bool (decide (qL=n)))),[.box [(.d (J n))]]):=by
 refine cE ?_;simp +contextual -implicitDefEqProofs (maxSteps:=10^7) only[go_sem,seval,↓gZ,Zbp]
theorem Zuj (l:List Zb) (n:Int) (hl:l.length<4611686018427387904):Zd Xs Ms XF [(.d (.sl (l.map Zb.enc))),.clo Yq [.ptr 0 0]] [.box [(.d (J n))]]=some ((.d (J (QI 0 l n))),[.box [(.d (J n))]]):=by
 refine cE ?_;simp +contextual -implicitDefEqProofs (maxSteps:=10^7) only[go_sem,seval,↓gZ,Wq];refine LO (α:=Nat) (fun k=>[(8,.d (J (k:Int)))]) (fun _=>[]) (fun k=>k≤l.length∧QI k (l.drop k) n=QI 0 l n) (fun k=>l.length-k) 0 ⟨by omega,rfl⟩ ?_;intro k ⟨hk,hp⟩ ih;by_cases aa:k<l.length
 ·obtain⟨x,hx⟩:=Zo aa;rw[ZsU hx] at hp;have hw:=Zh (k:=k) (by omega);have e1:=Zm0 x.Label x.W x.H x.Flaws n;obtain⟨L,W,H,F⟩:=x;simp only at hp e1;by_cases h:L=n
  ·rw[Kj h] at hp;rw[Kh h] at e1;simp +contextual -implicitDefEqProofs (maxSteps:=10^7) only[go_sem,seval,↓gZ,hx,aa,hw,e1];rw[← hp]
  ·rw[Kg h] at hp;rw[Ki h] at e1;simp +contextual -implicitDefEqProofs (maxSteps:=10^7) only[go_sem,seval,↓gZ,hx,aa,hw,e1];refine ih (k+1) _ ⟨by omega,hp⟩ (by omega) ?_;simp +contextual -implicitDefEqProofs (maxSteps:=10^7) only[go_sem,seval,↓gZ]
 ·have:k=l.length:=by omega
  subst this;simp +contextual -implicitDefEqProofs (maxSteps:=10^7) only[go_sem,seval,↓gZ];rw[← hp];simp[QI]
theorem Yc (l:List Zb) (n:Int) (hl:l.length<4611686018427387904):Zd Xs Ms Xu [(.d (.sl (l.map Zb.enc))),(.d (J n))] []=some ((.d (J (QI 0 l n))),[]):=by
 refine cE ?_;simp +contextual -implicitDefEqProofs (maxSteps:=10^7) only[go_sem,seval,↓gZ,ZdK,Zuj l n hl]
theorem Zb8 (l:List Zb) (n:Int) (hl:l.length<4611686018427387904):Zd Xs Ms X3 [(.d (.sl (l.map Zb.enc))),(.d (J n))] []=some ((.d (J (QI 0 l n))),[]):=by
 refine cE ?_;simp +contextual -implicitDefEqProofs (maxSteps:=10^7) only[go_sem,seval,↓gZ,ZdP];refine LO (α:=Nat) (fun k=>[(5,.d (J (k:Int)))]) (fun _=>[]) (fun k=>k≤l.length∧QI k (l.drop k) n=QI 0 l n) (fun k=>l.length-k) 0 ⟨by omega,rfl⟩ ?_;intro k ⟨hk,hp⟩ ih;by_cases aa:k<l.length
 ·obtain⟨x,hx⟩:=Zo aa;rw[ZsU hx] at hp;have hw:=Zh (k:=k) (by omega);obtain⟨L,W,H,F⟩:=x;simp only at hp;by_cases h:L=n
  ·rw[Kj h] at hp;simp +contextual -implicitDefEqProofs (maxSteps:=10^7) only[go_sem,seval,↓gZ,hx,aa,hw,h];rw[← hp]
  ·rw[Kg h] at hp;simp +contextual -implicitDefEqProofs (maxSteps:=10^7) only[go_sem,seval,↓gZ,hx,aa,hw,h];refine ih (k+1) _ ⟨by omega,hp⟩ (by omega) ?_;simp +contextual -implicitDefEqProofs (maxSteps:=10^7) only[go_sem,seval,↓gZ]
 ·have:k=l.length:=by omega
  subst this;simp +contextual -implicitDefEqProofs (maxSteps:=10^7) only[go_sem,seval,↓gZ];rw[← hp];simp[QI]
theorem Jg (qL qW qH:Int) (qF:List Box) (hF:qF.length≤1048576):Zd Xs Ms Xw [(.d (.agg [J qL,J qW,J qH,.sl (qF.map Box.enc)]))] []=some (.agg [(.d (J qL)),(.d (J qW)),(.d (J qH)),.own 0],[.row 4 (qF.map Box.enc) true false]):=by
 have hr:qF.length*32≤140737488355328∧qF.length≤140737488355328:=by omega
 refine cE ?_;simp +contextual -implicitDefEqProofs (maxSteps:=10^7) only[go_sem,seval,↓gZ,Zd0,hr]
theorem ZgM (qL qW qH:Int) (qF:List Box) (hF:qF.length≤1048576):Zd Xs Ms Um [(.d (.agg [J qL,J qW,J qH,.sl (qF.map Box.enc)]))] []=some (.agg [(.d (J qL)),(.d (J qW)),(.d (J qH)),.own 0],[.row 4 (qF.map Box.enc) true false]):=by
 have hr:qF.length*32≤140737488355328∧qF.length≤140737488355328:=by omega
 refine cE ?_;simp +contextual -implicitDefEqProofs (maxSteps:=10^7) only[go_sem,seval,↓gZ,ZdY,hr]
theorem Zb9:∀ (F:List Box),Zaa D.flat (F.map Box.enc)=true
 | []=>rfl
 | x :: F=>by simp only[Ko,Zaa,Zb9 F,Kag];rfl
theorem Zca (l:List Zb) (hl:l.length≤1048576) (hF:∀ x∈l,x.Flaws.length≤1048576):Zd Xs Ms YH [(.d (.sl (l.map Zb.enc)))] []=some (.own 0,[.tree 4 4 (l.map Zb.enc) none]):=by
 refine cE ?_;simp +contextual -implicitDefEqProofs (maxSteps:=10^7) only[go_sem,seval,↓gZ,ZdT];refine LO (α:=Nat) (fun i=>[(8,.d (J (i:Int)))]) (fun i=>[(0,.tree 4 4 ((l.take i).map Zb.enc) none)]) (fun i=>i≤l.length) (fun i=>l.length-i) 0 (by omega) ?_;intro i hi ih;by_cases aa:i<l.length
 ·obtain⟨x,hx⟩:=Zo aa;have hw:=Zh (k:=i) (by omega);have hm:l.take (i+1)=l.take i++[x]:=by rw[Ky,hx];simp
  have ad:(l.take i).length≤i:=by simp;omega
  have hr:((l.take i).length+1)*48≤140737488355328∧(l.take i).length≤140737488355327:=by omega
  have e:=Jg x.Label x.W x.H x.Flaws (hF x (Kb hx));obtain⟨L,W,H,F⟩:=x;simp only at e;have ab:=Zb9 F;simp +contextual -implicitDefEqProofs (maxSteps:=10^7) only[go_sem,seval,↓gZ,hx,aa,hw,e,hr,ab];refine ih (i+1) _ (by omega) (by omega) ?_;simp +contextual -implicitDefEqProofs (maxSteps:=10^7) only[go_sem,seval,↓gZ,hm]
  first | rfl | (simp;done) | (simp;rfl)
 ·have:i=l.length:=by omega
  subst this;simp +contextual -implicitDefEqProofs (maxSteps:=10^7) only[go_sem,seval,↓gZ];simp
theorem Zw2 {α:Type} {l:List α} {i a:Nat} {x:α} (hx:l[i]?=some x) (h:i≠a):(l.take (i+1)).eraseIdx a=(l.take i).eraseIdx a++[x]:=by
 have h1:=(Kc.1 hx).1;have e:l.take (i+1)=l.take i++[x]:=by rw[Ky,hx];simp
 rw[e];have hl:(l.take i).length=i:=by simp;omega
 rcases KY a i with h2 | h2
 ·rw[List.eraseIdx_append_of_lt_length (by omega)]
 ·rw[Kap (by simp;omega),Kap (by omega)]
theorem Zw3 {α:Type} {l:List α} {i:Nat} {x:α} (hx:l[i]?=some x):(l.take (i+1)).eraseIdx i=(l.take i).eraseIdx i:=by
 have h1:=(Kc.1 hx).1;have e:l.take (i+1)=l.take i++[x]:=by rw[Ky,hx];simp
 have hl:(l.take i).length=i:=by simp;omega
 rw[e,List.eraseIdx_append_of_length_le (by omega),hl];simp;rw[Kap (by omega)]
theorem Zuk {α:Type} (l:List α) (a:Nat):(l.eraseIdx a).length≤l.length:=by
 have:=List.length_eraseIdx_le l a;omega
theorem Zul (l:List Zb) (a:Nat) (hl:l.length≤1048576) (hF:∀ x∈l,x.Flaws.length≤1048576):Zd Xs Ms Wg [(.d (.sl (l.map Zb.enc))),(.d (J a))] []=some (.own 0,[.row 4 ((l.eraseIdx a).map Zb.enc) true false]):=by
 refine cE ?_;simp +contextual -implicitDefEqProofs (maxSteps:=10^7) only[go_sem,seval,↓gZ,Zdk];refine LO (α:=Nat) (fun i=>[(6,.d (J (i:Int)))]) (fun i=>[(0,.row 4 (((l.take i).eraseIdx a).map Zb.enc) true false)]) (fun i=>i≤l.length) (fun i=>l.length-i) 0 (by omega) ?_;intro i hi ih;by_cases aa:i<l.length
 ·obtain⟨x,hx⟩:=Zo aa;have hw:=Zh (k:=i) (by omega);by_cases ab:i=a
  ·subst ab;have hm:=Zw3 hx;simp +contextual -implicitDefEqProofs (maxSteps:=10^7) only[go_sem,seval,↓gZ,hx,aa,hw];refine ih (i+1) _ (by omega) (by omega) ?_;simp +contextual -implicitDefEqProofs (maxSteps:=10^7) only[go_sem,seval,↓gZ,hm]
  ·have hm:=Zw2 hx ab;have ad:((l.take i).eraseIdx a).length≤i:=Kr (Zuk _ _) (by simp;omega);have hr:(((l.take i).eraseIdx a).length+1)*48≤140737488355328∧((l.take i).eraseIdx a).length≤140737488355327:=by omega
   have e:=ZgM x.Label x.W x.H x.Flaws (hF x (Kb hx));obtain⟨L,W,H,F⟩:=x;simp only at e;simp +contextual -implicitDefEqProofs (maxSteps:=10^7) only[go_sem,seval,↓gZ,hx,aa,hw,ab,e,hr];refine ih (i+1) _ (by omega) (by omega) ?_;simp +contextual -implicitDefEqProofs (maxSteps:=10^7) only[go_sem,seval,↓gZ,hm]
   first | rfl | (simp;done) | (simp;rfl)
 ·have:i=l.length:=by omega
  subst this;simp +contextual -implicitDefEqProofs (maxSteps:=10^7) only[go_sem,seval,↓gZ];simp
def V0 (l:List Zb):Int:=Zlm l l.length
theorem Zm1 {l:List Zb} {x:Zb} (hx:l[l.length-1]?=some x):V0 l=x.Label:=by
 have h:=(Kc.1 hx).1;unfold V0;obtain⟨n,hn⟩:∃ n,l.length=n+1:=⟨l.length-1,by omega⟩
 rw[hn] at hx ⊢;simp only[Zlm];simp only[Nat.add_sub_cancel] at hx;rw[hx]
theorem Zp8 (l:List Zb) (hl:l.length<4611686018427387904):Zd Xs Ms Up [(.d (.sl (l.map Zb.enc)))] []=some ((.d (J (V0 l))),[]):=by
 by_cases h0:l.length=0
 ·have e:V0 l=0:=by unfold V0;rw[h0];rfl
  have aa : (l.length:Int)=0:=by omega
  rw[e];refine cE ?_;simp +contextual -implicitDefEqProofs (maxSteps:=10^7) only[go_sem,seval,↓gZ,ZaT,aa]
 ·obtain⟨x,hx⟩:=Zo (l:=l) (k:=l.length-1) (by omega);have e:=Zm1 hx;have hn:¬(l.length:Int)=0:=by omega
  have hw:IntKind.i64.wrap ((l.length:Int)-1)=((l.length-1:Nat):Int):=by rw[Zd8 (by omega) (by omega)];omega
  have ab:l.length-1<l.length:=by omega
  obtain⟨L,W,H,F⟩:=x;simp only at e;refine cE ?_;simp +contextual -implicitDefEqProofs (maxSteps:=10^7) only[go_sem,seval,↓gZ,ZaT,hn,hw,hx,ab,e]
theorem Zp9:∀ (l:List Zb) (k:Nat) (n:Int),QI k l n=-1∨∃ i:Nat,QI k l n=((k+i:Nat):Int)∧i<l.length
 | [],k,n=>.inl rfl
 | x :: l,k,n=>by
  unfold QI;split
  ·exact .inr ⟨0,by simp,by simp⟩
  ·rcases Zp9 l (k+1) n with h | ⟨i,h1,h2⟩
   ·exact .inl h
   ·exact .inr ⟨i+1,by rw[h1];congr 1;omega,by simp;omega⟩
theorem Z0:∀ {l:List Zb} {b:Int},Xp b l→∀ x∈l,VPc x
 | [],_,_,x,hx=>by simp at hx
 | y :: l,b,h,x,hx=>by
  rcases Kf.1 hx with rfl | hx
  ·exact h.1
  ·exact Z0 h.2.2 x hx
theorem ZbU {l:List Zb} (h:VSt l):l.length≤1048576∧∀ x∈l,x.Flaws.length≤1048576:=by
 refine⟨by have:=h.1;omega,fun x hx=>?_⟩;have:=(Z0 h.2 x hx).1.2.2.2.2.2.2;omega
theorem ZgN (l:List Zb) (n:Int) (h:¬(VSt l∧0≤QI 0 l n)):Zd Xs Ms YJ [(.d (.sl (l.map Zb.enc))),(.d (J n))] [] =
  some (.tup [.agg [(.d (J 0)),(.d (J 0)),(.d (J 0)),.own 0],.own 1,(.d (.bool false))],[.row 4 [] true false,.row 4 [] true false]):=by
 have ev:=Yo l;by_cases hv:VSt l
 ·rw[Kh hv] at ev;have hf:=Yc l n (by have:=hv.1;omega);have hn:QI 0 l n<0:=by
   rcases Int.lt_or_le (QI 0 l n) 0 with h1 | h1
   ·exact h1
   ·exact absurd ⟨hv,h1⟩ h
  refine cE ?_;simp +contextual -implicitDefEqProofs (maxSteps:=10^7) only[go_sem,seval,↓gZ,Ur,ev,hf,hn]
 ·rw[Ki hv] at ev;refine cE ?_;simp +contextual -implicitDefEqProofs (maxSteps:=10^7) only[go_sem,seval,↓gZ,Ur,ev]
theorem Zf8 (l:List Zb) (n:Int) (hv:VSt l) (i:Nat) (hi:QI 0 l n=(i:Int)) (qL qW qH:Int) (qF:List Box) (hx:l[i]?=some (Zb.mk qL qW qH qF)):Zd Xs Ms YJ [(.d (.sl (l.map Zb.enc))),(.d (J n))] [] =
  some (.tup [.agg [(.d (J qL)),(.d (J qW)),(.d (J qH)),.own 0],.own 1,(.d (.bool true))],[.row 4 (qF.map Box.enc) true false,.tree 4 4 ((l.eraseIdx i).map Zb.enc) none]):=by
 have ev:=Yo l;rw[Kh hv] at ev;have ab:i<l.length:=(Kc.1 hx).1;have ad:=hv.1;obtain⟨h1,h2⟩:=ZbU hv;have hf:=Yc l n (by omega);rw[hi] at hf;have hw:=Zh (k:=i) (by omega);have c1:=Zca (l.take i) (by simp;omega) (fun x hx=>h2 x (Lk hx));have c2:=Zca (l.drop (i+1)) (by simp;omega) (fun x hx=>h2 x (L4 hx));have e:=Jg qL qW qH qF (h2 (Zb.mk qL qW qH qF) (Kb hx));have hr:((l.take i).length+(l.drop (i+1)).length)*48≤140737488355328∧(l.take i).length+(l.drop (i+1)).length≤140737488355328:=by simp;omega
 have ae:i≤l.length:=by omega
 have aa:i+1≤l.length:=by omega
 have af:¬(i:Int)<0:=by omega
 rw[List.eraseIdx_eq_take_drop_succ];refine cE ?_;simp +contextual -implicitDefEqProofs (maxSteps:=10^7) only[go_sem,seval,↓gZ,Ur,ZsM,ev,hf,af,hw,hx,ab,ae,aa,c1,c2,e,hr,LC]
theorem Zw4 {b c:Int} (h:b≤c):∀ {l:List Zb},Xp c l→Xp b l
 | [],_=>trivial
 | x :: l,hs=>⟨hs.1,by have:=hs.2.1;omega,hs.2.2⟩
theorem ZgO:∀ {l:List Zb} {b:Int} (i:Nat),Xp b l→Xp b (l.eraseIdx i)
 | [],b,i,_=>by simp[Xp]
 | x :: l,b,0,h=>by
  simp only[List.eraseIdx_cons_zero];exact Zw4 (by have:=h.2.1;omega) h.2.2
 | x :: l,b,i+1,h=>by
  simp only[List.eraseIdx_cons_succ];exact⟨h.1,h.2.1,ZgO i h.2.2⟩
theorem Zm2:∀ {l:List Zb} {b:Int},Xp b l→∀ (i j:Nat) (x y:Zb),i≤j→l[i]?=some x→l[j]?=some y→x.Label≤y.Label∧b<x.Label
 | [],b,_,i,j,x,y,_,hx,_=>by simp at hx
 | z :: l,b,h,0,0,x,y,_,hx,hy=>by
  simp at hx hy;subst hx;subst hy;exact⟨Kam _,h.2.1⟩
 | z :: l,b,h,0,j+1,x,y,_,hx,hy=>by
  simp at hx hy;subst hx;have:=(Zm2 h.2.2 j j y y (Kl _) hy hy).2;exact⟨by omega,h.2.1⟩
 | z :: l,b,h,i+1,j+1,x,y,hij,hx,hy=>by
  simp at hx hy;have:=Zm2 h.2.2 i j x y (by omega) hx hy;have h2:=h.2.1;exact⟨this.1,by omega⟩
 | z :: l,b,h,i+1,0,x,y,hij,hx,hy=>by omega
theorem Zqa {q:Zb} (hq:VPc q):∀ {L:List Box} {n c:Int},c<n→1≤n→(∀ b∈L,VB b∧QA b ⟨0,0,q.W,q.H⟩)→(Xp c (UK q n L)↔(L=[]∨(L.length:Int)≤10000-n))
 | [],n,c,_,_,_=>by simp[UK,Xp]
 | b :: L,n,c,hc,h1,hb=>by
  have ih:=Zqa hq (L:=L) (n:=n+1) (c:=n) (by omega) (by omega) (fun d hd=>hb d (by simp[hd]));have hv:VPc (ZnB q b n)↔n≤9999:=⟨fun h=>by have:=h.1.2.1;simpa [ZnB] using this,fun h=>ZxO hq (hb b (by simp)).1 (hb b (by simp)).2 h1 h⟩
  simp only[UK,Xp,hv,ih];have e:(ZnB q b n).Label=n:=rfl;rw[e,ih];have hl:((b :: L).length:Int)=L.length+1:=by simp
  constructor
  ·rintro ⟨g1,g2,g3⟩
   right
   rcases g3 with rfl | g3
   ·simp only[Kq,Ln];omega
   ·omega
  ·rintro (g | g)
   ·cases g
   ·refine⟨by omega,hc,?_⟩;by_cases h0:L=[]
    ·exact .inl h0
    ·exact .inr (by omega)
theorem ZsV {B:List Zb} {n:Int} {Q:Prop} (hB:∀ c,c<n→(Xp c B↔Q)):∀ {A:List Zb} {b:Int},Xp b A→(∀ x∈A,x.Label<n)→b<n→(Xp b (A++B)↔Q)
 | [],b,_,_,hb=>hB b hb
 | x :: A,b,h,hx,hb=>by
  have ih:=ZsV hB h.2.2 (fun y hy=>hx y (by simp[hy])) (hx x (by simp));simp only[KJ,Xp,ih];exact⟨fun g=>g.2.2,fun g=>⟨h.1,h.2.1,g⟩⟩
theorem Zqb {l:List Zb} (hv:VSt l) (ab:0<l.length):1≤V0 l∧V0 l≤9999∧∀ x∈l,x.Label≤V0 l:=by
 obtain⟨y,hy⟩:=Zo (l:=l) (k:=l.length-1) (by omega);rw[Zm1 hy];have aa:=(Z0 hv.2 y (Kb hy)).1;refine⟨aa.1,aa.2.1,fun x hx=>?_⟩;obtain⟨i,hi⟩:=LD hx;have:=(Kc.1 hi).1;exact(Zm2 hv.2 i (l.length-1) x y (by omega) hi hy).1
def Zpn (l:List Zb) (i:Nat) (x:Zb) (k:Zt) (p:Ze) (Zj:Int):List Zb:=l.eraseIdx i++UK x (V0 l+1) (Q0 k p Zj)
theorem ZCe {l:List Zb} {i:Nat} {x:Zb} {k:Zt} {p:Ze} {Zj:Int} (hv:VSt l) (hx:l[i]?=some x) (hg:Vh x k p) :
  VSt (Zpn l i x k p Zj)↔((Q0 k p Zj).length:Int)≤10000-(V0 l+1)∧(l.eraseIdx i).length+(Q0 k p Zj).length≤20:=by
 have ab:=(Kc.1 hx).1;obtain⟨h1,h2,h3⟩:=Zqb hv (by omega);have hq:=Z0 hv.2 x (Kb hx);have aa:∀ b∈Q0 k p Zj,VB b∧QA b ⟨0,0,x.W,x.H⟩:=fun b hb=>by
  have:=Zrz (Zj:=Zj) hg.1 b hb;rw[← hg.2.1,← hg.2.2.1];exact this
 have hs:=ZsV (n:=V0 l+1) (fun c hc=>Zqa hq hc (by omega) aa) (ZgO i hv.2) (fun y hy=>by have:=h3 y (List.mem_of_mem_eraseIdx hy);omega) (by omega);unfold VSt Zpn;rw[hs,Kx,Zc0];constructor
 ·rintro ⟨g1,g2 | g2⟩
  ·exact⟨by rw[g2];simp;omega,g1⟩
  ·exact⟨g2,g1⟩
 ·rintro ⟨g1,g2⟩
  exact⟨g2,.inr g1⟩
def ZaZ (l:List Zb) (n:Int) (k:Zt) (p:Ze) (Zj:Int):Option (List Zb):=
 if VSt l∧0≤QI 0 l n∧1≤Zj∧Zj≤200 then
  match l[(QI 0 l n).toNat]? with
  | some x=>if Vh x k p∧VSt (Zpn l (QI 0 l n).toNat x k p Zj) then some (Zpn l (QI 0 l n).toNat x k p Zj) else none
  | none=>none
 else none
def Zum:Option (List Zb)→AV×List Zn
 | some R=>(.tup [.own 0,(.d (.bool true))],[.row 4 (R.map Zb.enc) true false])
 | none=>(.tup [.own 0,(.d (.bool false))],[.row 4 [] true false])
theorem Zcb {l:List Zb} {n:Int} (h:0≤QI 0 l n):∃ (i:Nat) (x:Zb),QI 0 l n=(i:Int)∧l[i]?=some x:=by
 rcases Zp9 l 0 n with h1 | ⟨i,h1,h2⟩
 ·omega
 ·obtain⟨x,hx⟩:=Zo h2;exact⟨i,x,by rw[h1];simp,hx⟩
def Zun:Option (List Zb)→AV×List Zn
 | some R=>(.tup [.own 0,(.d (.bool true))],[.tree 4 4 (R.map Zb.enc) none])
 | none=>(.tup [.own 0,(.d (.bool false))],[.row 4 [] true false])
theorem Zsr (l:List Zb) (n:Int) (kW kH:Int) (kP:List Pane) (p:Ze) (Zj:Int):Zd Xs Ms JC [(.d (.sl (l.map Zb.enc))),(.d (J n)),(.d (.agg [J kW,J kH,.sl (kP.map Pane.enc)])),.d p.enc,(.d (J Zj))] []=some (Zun (ZaZ l n (Zt.mk kW kH kP) p Zj)):=by
 by_cases h:VSt l∧0≤QI 0 l n
 ·obtain⟨hv,hf⟩:=h;obtain⟨i,x,hi,hx⟩:=Zcb hf;have ah:=(Kc.1 hx).1;have hq:=Z0 hv.2 x (Kb hx);have ai:=Zqb hv (by omega);obtain⟨y,hy⟩:=Zo (l:=l) (k:=l.length-1) (by omega);have ad:=Zm1 hy;have af:=hv.1;have aa:=ZCe (k:=(Zt.mk kW kH kP)) (p:=p) (Zj:=Zj) hv hx;have et:=fun q1 q2 q3 q4 h=>Zf8 l n hv i hi q1 q2 q3 q4 h;unfold ZaZ;rw[hi];simp only[Kz,hx];obtain⟨L,W,H,F⟩:=x;have et:=et L W H F hx;have eg:=Zso L W H F kW kH kP p;have aj:(l.eraseIdx i).length≤20:=Kr (Zuk _ _) af;have ab:l.length-1<l.length:=by omega
  have w1:IntKind.i64.wrap ((l.length:Int)-1)=((l.length-1:Nat):Int):=by rw[Zd8 (by omega) (by omega)];omega
  have w2:=wi (V0 l+1) (by omega) (by omega);by_cases hg:Vh ⟨L,W,H,F⟩ (Zt.mk kW kH kP) p
  ·have hd:decide (VPc ⟨L,W,H,F⟩∧Vh ⟨L,W,H,F⟩ (Zt.mk kW kH kP) p)=true:=Kh ⟨hq,hg⟩;rw[hd] at eg;by_cases hl:1≤Zj∧Zj≤200
   ·have n1:¬Zj<1:=by omega
    have n2:¬200<Zj:=by omega
    have ag:=ZiR (Zt.mk kW kH kP) p Zj;by_cases hk:((Q0 (Zt.mk kW kH kP) p Zj).length:Int)≤10000-(V0 l+1)
    ·have er:=Zlh L W H F kW kH kP p Zj (V0 l+1) hq hg.1 hg.2.1 hg.2.2.1 (by omega) (by omega) hk;have w3:=wi (((l.eraseIdx i).length:Int)+((Q0 (Zt.mk kW kH kP) p Zj).length:Int)) (by omega) (by omega);have ae:=Zc0 ⟨L,W,H,F⟩ (V0 l+1) (Q0 (Zt.mk kW kH kP) p Zj);by_cases h2:(l.eraseIdx i).length+(Q0 (Zt.mk kW kH kP) p Zj).length≤20
     ·rw[Kj ⟨hv,by omega,hl⟩,Kj ⟨hg,(aa hg).2 ⟨hk,h2⟩⟩];unfold Zpn Zun;have n3:¬(20:Int)<((l.eraseIdx i).length:Int)+((Q0 (Zt.mk kW kH kP) p Zj).length:Int):=by omega
      have hr:((l.eraseIdx i).length+(Q0 (Zt.mk kW kH kP) p Zj).length)*48≤140737488355328∧(l.eraseIdx i).length+(Q0 (Zt.mk kW kH kP) p Zj).length≤140737488355328:=by omega
      clear aa hg hd;generalize UK ⟨L,W,H,F⟩ (V0 l+1) (Q0 (Zt.mk kW kH kP) p Zj)=R at er ae ⊢;generalize (Q0 (Zt.mk kW kH kP) p Zj).length=N at *;obtain⟨yL,yW,yH,yF⟩:=y;simp only at ad;rw[ad] at er w2;obtain⟨o,a,m,t,ks⟩:=p;rw[Ze.enc_mk] at er eg ⊢;refine cE ?_;simp +contextual -implicitDefEqProofs (maxSteps:=10^7) only[go_sem,seval,↓gZ,XZ,et,eg,n1,n2,w1,hy,ab,w2,er,ae,w3,n3,hr]
     ·rw[Kj ⟨hv,by omega,hl⟩,Kg (fun h=>h2 ((aa hg).1 h.2).2)];unfold Zun;have n3:(20:Int)<((l.eraseIdx i).length:Int)+((Q0 (Zt.mk kW kH kP) p Zj).length:Int):=by omega
      clear aa hg hd;generalize UK ⟨L,W,H,F⟩ (V0 l+1) (Q0 (Zt.mk kW kH kP) p Zj)=R at er ae ⊢;generalize (Q0 (Zt.mk kW kH kP) p Zj).length=N at *;obtain⟨yL,yW,yH,yF⟩:=y;simp only at ad;rw[ad] at er w2;obtain⟨o,a,m,t,ks⟩:=p;rw[Ze.enc_mk] at er eg ⊢;refine cE ?_;simp +contextual -implicitDefEqProofs (maxSteps:=10^7) only[go_sem,seval,↓gZ,XZ,et,eg,n1,n2,w1,hy,ab,w2,er,ae,w3,n3]
    ·have er:=ZmW L W H F kW kH kP p Zj (V0 l+1) (by omega) (by omega) hk;rw[Kj ⟨hv,by omega,hl⟩,Kg (fun h=>hk ((aa hg).1 h.2).1)];unfold Zun;clear aa hg hd hk ag;obtain⟨yL,yW,yH,yF⟩:=y;simp only at ad;rw[ad] at er w2;obtain⟨o,a,m,t,ks⟩:=p;rw[Ze.enc_mk] at er eg ⊢;refine cE ?_;simp +contextual -implicitDefEqProofs (maxSteps:=10^7) only[go_sem,seval,↓gZ,XZ,et,eg,n1,n2,w1,hy,ab,w2,er]
   ·rw[Kg (fun h=>hl ⟨h.2.2.1,h.2.2.2⟩)];unfold Zun;clear aa hg hd;obtain⟨o,a,m,t,ks⟩:=p;rw[Ze.enc_mk] at eg ⊢;by_cases n1:Zj<1
    ·refine cE ?_;simp +contextual -implicitDefEqProofs (maxSteps:=10^7) only[go_sem,seval,↓gZ,XZ,et,eg,n1]
    ·have n2:200<Zj:=by omega
     refine cE ?_;simp +contextual -implicitDefEqProofs (maxSteps:=10^7) only[go_sem,seval,↓gZ,XZ,et,eg,n1,n2]
  ·have hd:decide (VPc ⟨L,W,H,F⟩∧Vh ⟨L,W,H,F⟩ (Zt.mk kW kH kP) p)=false:=Ki fun h=>hg h.2;rw[hd] at eg;have e0:(if VSt l∧(0:Int)≤(i:Int)∧1≤Zj∧Zj≤200 then (if Vh ⟨L,W,H,F⟩ (Zt.mk kW kH kP) p∧VSt (Zpn l i ⟨L,W,H,F⟩ (Zt.mk kW kH kP) p Zj) then some (Zpn l i ⟨L,W,H,F⟩ (Zt.mk kW kH kP) p Zj) else none) else none)=none:=by
    rw[Kg (fun h:Vh ⟨L,W,H,F⟩ (Zt.mk kW kH kP) p∧_=>hg h.1)];split<;>rfl
   rw[e0];unfold Zun;clear aa hg hd e0;obtain⟨o,a,m,t,ks⟩:=p;rw[Ze.enc_mk] at eg ⊢;refine cE ?_;simp +contextual -implicitDefEqProofs (maxSteps:=10^7) only[go_sem,seval,↓gZ,XZ,et,eg]
 ·have et:=ZgN l n h;have e0:ZaZ l n (Zt.mk kW kH kP) p Zj=none:=by
   unfold ZaZ;rw[Kg (fun g=>h ⟨g.1,g.2.1⟩)]
  rw[e0];unfold Zun;clear e0;obtain⟨o,a,m,t,ks⟩:=p;rw[Ze.enc_mk];refine cE ?_;simp +contextual -implicitDefEqProofs (maxSteps:=10^7) only[go_sem,seval,↓gZ,XZ,et]
theorem Zw5 {l:List Zb} {i:Nat} {x:Zb} {k:Zt} {p:Ze} {Zj:Int} (hv:VSt l) (hx:l[i]?=some x) (hg:Vh x k p) :
  (Zpn l i x k p Zj).length≤1000∧∀ y∈Zpn l i x k p Zj,y.Flaws.length<4611686018427387904∧R64 y.W∧R64 y.H:=by
 have hq:=Z0 hv.2 x (Kb hx);refine⟨?_,fun y hy=>?_⟩
 ·unfold Zpn;rw[Kx,Zc0];have:=ZiR k p Zj;have:=Zuk l i;have:=hv.1;omega
 ·rcases Ke.1 hy with hy | hy
  ·have h:=Z0 hv.2 y (List.mem_of_mem_eraseIdx hy);have h1:=h.1;exact⟨by omega,⟨by omega,by omega⟩,⟨by omega,by omega⟩⟩
  ·obtain⟨j,hj⟩:=LD hy;obtain⟨b,hb,rfl⟩:=ZvC x _ _ j y hj;have aa:=(Zrz (Zj:=Zj) hg.1 b (Kb hb)).1;simp only[VB] at aa;have ab:=Kn (YC b) x.Flaws;have ad:=hq.1.2.2.2.2.2.2;simp only[ZnB];exact⟨by omega,⟨by omega,by omega⟩,⟨by omega,by omega⟩⟩
theorem Zss (l:List Zb) (n:Int) (kW kH:Int) (kP:List Pane) (p:Ze) (Zj:Int) (hl:l.length≤1048576) (hS:∀ x∈l,x.Flaws.length≤1048576∧R64 x.W∧R64 x.H) (hk:kP.length<4611686018427387904):Zd Xs Ms Ju [(.d (.sl (l.map Zb.enc))),(.d (J n)),(.d (.agg [J kW,J kH,.sl (kP.map Pane.enc)])),.d p.enc,(.d (J Zj))] []=some (Zum (ZaZ l n (Zt.mk kW kH kP) p Zj)):=by
 have ev:=UA l (by omega) (fun x hx=>by obtain⟨g1,g2,g3⟩:=hS x hx;exact⟨by omega,g2,g3⟩);have ef:=Zb8 l n (by omega);unfold ZaZ;by_cases hv:VSt l
 ·rw[Kh hv] at ev;by_cases hf:0≤QI 0 l n
  ·obtain⟨i,x,hi,hx⟩:=Zcb hf;rw[hi] at ef ⊢;have ad:¬(i:Int)<0:=by omega
   have af:=(Kc.1 hx).1;simp only[Kz,hx];by_cases hr:1≤Zj∧Zj≤200
   ·have hq:=Z0 hv.2 x (Kb hx);have al:=Zqb hv (by omega);have ew:=Zul l i (by omega) (fun x hx=>by have:=(hS x hx).1;omega);have el:=Zp8 l (by omega);have w2:=wi (V0 l+1) (by omega) (by omega);rw[Kj ⟨hv,by omega,hr⟩];by_cases hg:Vh x (Zt.mk kW kH kP) p
    ·have ag:=Zw5 (Zj:=Zj) hv hx hg;have aa:=UA (Zpn l i x (Zt.mk kW kH kP) p Zj) (by omega) ag.2;have aj:(l.eraseIdx i).length≤20:=Kr (Zuk _ _) hv.1;have am:=ZiR (Zt.mk kW kH kP) p Zj;obtain⟨L,W,H,F⟩:=x;have eg:=Zja L W H F kW kH kP p (fun f hf=>(hq.2 f hf).1) hq.1.2.2.2.2.2.2 hk;have er:=Zsq L W H F kW kH kP p Zj (V0 l+1) hq hg.1 (by omega) (by omega);rw[Kh hg] at eg;have ae:=Zc0 ⟨L,W,H,F⟩ (V0 l+1) (Q0 (Zt.mk kW kH kP) p Zj);have ai:((l.eraseIdx i).length+(Q0 (Zt.mk kW kH kP) p Zj).length)*48≤140737488355328∧(l.eraseIdx i).length+(Q0 (Zt.mk kW kH kP) p Zj).length≤140737488355328:=by omega
     unfold Zpn at aa ⊢;have ah:=hg;clear hg;by_cases ab:VSt (l.eraseIdx i++UK ⟨L,W,H,F⟩ (V0 l+1) (Q0 (Zt.mk kW kH kP) p Zj))
     ·rw[Kh ab] at aa;rw[Kj ⟨ah,ab⟩];unfold Zum;clear ab ag ah;generalize UK ⟨L,W,H,F⟩ (V0 l+1) (Q0 (Zt.mk kW kH kP) p Zj)=R at er ae aa ⊢;generalize (Q0 (Zt.mk kW kH kP) p Zj).length=N at *;obtain⟨o,a,m,t,ks⟩:=p;rw[Ze.enc_mk] at er eg ⊢;refine cE ?_;simp +contextual -implicitDefEqProofs (maxSteps:=10^7) only[go_sem,seval,↓gZ,Yx,ev,ef,ad,ZJ,hr,hx,af,eg,ew,el,w2,er,ae,ai,aa]
     ·rw[Ki ab] at aa;rw[Kg (fun h=>ab h.2)];unfold Zum;clear ab ag ah;generalize UK ⟨L,W,H,F⟩ (V0 l+1) (Q0 (Zt.mk kW kH kP) p Zj)=R at er ae aa ⊢;generalize (Q0 (Zt.mk kW kH kP) p Zj).length=N at *;obtain⟨o,a,m,t,ks⟩:=p;rw[Ze.enc_mk] at er eg ⊢;refine cE ?_;simp +contextual -implicitDefEqProofs (maxSteps:=10^7) only[go_sem,seval,↓gZ,Yx,ev,ef,ad,ZJ,hr,hx,af,eg,ew,el,w2,er,ae,ai,aa]
    ·rw[Kg (fun h=>hg h.1)];obtain⟨L,W,H,F⟩:=x;have eg:=Zja L W H F kW kH kP p (fun f hf=>(hq.2 f hf).1) hq.1.2.2.2.2.2.2 hk;rw[Ki hg] at eg;unfold Zum;clear hg;obtain⟨o,a,m,t,ks⟩:=p;rw[Ze.enc_mk] at eg ⊢;refine cE ?_;simp +contextual -implicitDefEqProofs (maxSteps:=10^7) only[go_sem,seval,↓gZ,Yx,ev,ef,ad,ZJ,hr,hx,af,eg]
   ·rw[Kg (fun h=>hr h.2.2)];unfold Zum;obtain⟨o,a,m,t,ks⟩:=p;rw[Ze.enc_mk];refine cE ?_;simp +contextual -implicitDefEqProofs (maxSteps:=10^7) only[go_sem,seval,↓gZ,Yx,ev,ef,ad,ZJ,hr]
  ·rw[Kg (fun h=>hf h.2.1)];have ak : QI 0 l n<0:=by omega
   unfold Zum;obtain⟨o,a,m,t,ks⟩:=p;rw[Ze.enc_mk];refine cE ?_;simp +contextual -implicitDefEqProofs (maxSteps:=10^7) only[go_sem,seval,↓gZ,Yx,ev,ef,ak]
 ·rw[Ki hv] at ev;rw[Kg (fun h=>hv h.1)];unfold Zum;obtain⟨o,a,m,t,ks⟩:=p;rw[Ze.enc_mk];refine cE ?_;simp +contextual -implicitDefEqProofs (maxSteps:=10^7) only[go_sem,seval,↓gZ,Yx,ev]
theorem Zqc (l:List Zb) (hv:VSt l):Zd Xs Ms Uh [(.d (.sl (l.map Zb.enc)))] []=some ((.d (J (YU l))),[]):=by
 have ev:=Yo l;rw[Kh hv] at ev;have af:=hv.1;have aa:∀ x∈l,1≤x.W∧x.W≤200∧1≤x.H∧x.H≤200:=fun x hx=>by
  have:=(Z0 hv.2 x hx).1;omega
 clear hv;refine cE ?_;simp +contextual -implicitDefEqProofs (maxSteps:=10^7) only[go_sem,seval,↓gZ,ZdQ,ev];refine LO (α:=Nat) (fun i=>[(11,.d (J (i:Int))),(3,.d (J (YU (l.take i))))]) (fun _=>[]) (fun i=>i≤l.length) (fun i=>l.length-i) 0 (by omega) ?_;intro i hi ih;by_cases ab:i<l.length
 ·obtain⟨x,hx⟩:=Zo ab;have hw:=Zh (k:=i) (by omega);have hm:=Zp6 hx;have ag:=ZbE (l:=l.take i) (fun y hy=>aa y (Lk hy));have ah:(l.take i).length≤i:=by simp;omega
  have g5:=aa x (Kb hx);have ad:x.W*x.H≤200*200:=Kao (by omega) (by omega) (by omega) (by omega);have ae:0≤x.W*x.H:=Kan (by omega) (by omega);obtain⟨xL,xW,xH,xF⟩:=x;simp only at g5 hm ad ae;have u0:=wi (xW*xH) (by omega) (by omega);have u1:=wi (YU (l.take i)+xW*xH) (by omega) (by omega);simp +contextual -implicitDefEqProofs (maxSteps:=10^7) only[go_sem,seval,↓gZ,hx,ab,hw,u0,u1];refine ih (i+1) _ (by omega) (by omega) ?_;simp +contextual -implicitDefEqProofs (maxSteps:=10^7) only[go_sem,seval,↓gZ,hm]
 ·have:i=l.length:=by omega
  subst this;simp +contextual -implicitDefEqProofs (maxSteps:=10^7) only[go_sem,seval,↓gZ,LC]
end Go.Proofs.YthgciclhiaoecaaGreat
