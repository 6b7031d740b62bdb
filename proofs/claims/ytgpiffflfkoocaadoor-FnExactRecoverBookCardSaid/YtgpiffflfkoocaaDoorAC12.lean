/- Own text. -/
import Derived.Test.YtgpiffflfkoocaaDoorACode
import Derived.Test.YtgpiffflfkoocaaDoorAbsParts
import Derived.Test.YtgpiffflfkoocaaDoorAC10
import Derived.Test.YtgpiffflfkoocaaDoorAbsOkD
import Derived.Test.YtgpiffflfkoocaaDoorAC8
namespace Go.Proofs.YtgpiffflfkoocaaDoor
open Go Go.Abs Go.Abs.E Go.Abs.L
open Nat (reduceMul reduceSub reduceLeDiff reduceEqDiff)
open Int (reduceLE reduceEq reduceToNat reduceNeg)
set_option linter.unusedSimpArgs false
set_option linter.unusedVariables false
set_option maxRecDepth 20000
set_option maxHeartbeats 4000000
def ZkX:Zw→Int→Zw
 | ⟨_,_,_,_,.mk _ _ _ _ ks⟩,k=>⟨k,k+1,⟨k+1+1,k+1+1+1,k+1+1+1+1,k+1+1+1+1+1⟩,⟨⟨k+1+1+1+1+1+1,k+1+1+1+1+1+1+1,(decide ((k+1+1+1+1+1+1+1+1).tmod 3=0)),k+1+1+1+1+1+1+1+1+1⟩,k+1+1+1+1+1+1+1+1+1+1⟩,.mk (k+1+1+1+1+1+1+1+1+1+1+1) (k+1+1+1+1+1+1+1+1+1+1+1+1) (k+1+1+1+1+1+1+1+1+1+1+1+1+1) (decide ((k+1+1+1+1+1+1+1+1+1+1+1+1+1+1).tmod 3=0)) (Ju ks (k+1+1+1+1+1+1+1+1+1+1+1+1+1+1+1))⟩
def evN (e:Zw):Nat:=15+4*Zbk e
abbrev Zq4 (l:List Zw) (k:Int):List Zw:=J1 ZkX evN l k
theorem ZgE (ks:List Zw) (hk:Z1 evN ks≤1099511627776) (hl:ks.length≤1099511627776) (hs:∀ e∈ks,Zbk e≤4194304) (k:Int) (h0:0≤k) (h1:k≤70368744177664):Zj Xs Ms ZS [.own 0,(.d (J k))] [.tree 16 5 (ks.map Zw.enc) none]=some ((.d (J (k+(Z1 evN ks:Nat)))),[.tree 16 5 ((Zq4 ks k).map Zw.enc) none]):=by
 refine cE ?_;simp +contextual -implicitDefEqProofs (maxSteps:=10^7) only[go_sem,seval,↓gZ,UY];refine Zeo Xs Ms (st0:=?st0) (α:=Nat) (fun i=>[(5,.d (J (i:Int))),(1,.d (J (k+(Z1 evN (ks.take i):Nat))))]) (fun i=>[(0,.tree 16 5 ((ZeU ZkX evN k ks i).map Zw.enc) none)]) (fun i=>i≤ks.length) (fun i=>ks.length-i) 0 ?hc (by omega) ?h0 ?step
 case hc=>simp +contextual -implicitDefEqProofs (maxSteps:=10^7) only[go_sem,seval,↓gZ]<;>exact rfl
 case h0=>simp only[ZjK,LZ,Z1,Int.natCast_zero,Int.add_zero];rfl
 case step=>
  intro i hi ih;have a4:=Zl2 ZkX evN k hi;have bd:=Xn evN ks i;by_cases a0:i<ks.length
  ·obtain⟨x,hx⟩:=VR a0;have ah : (i:Int)<(ks.length:Int):=by omega
   have w1:=ZM (k:=i) (by omega);have hg:=Zl3 ZkX evN k hx;have ai:=ZjJ Zw.enc ZkX evN k hx;have a5:=Zaz (c:=evN) hx;have a6:=Xn evN ks (i+1);have a1:=hs x (Kp hx);obtain⟨eK,eL,⟨X,Y,W,H⟩,⟨⟨pW,pH,pT,pK⟩,C⟩,⟨o,a,q,t,kk⟩⟩:=x;have a2:Zbk ⟨eK,eL,⟨X,Y,W,H⟩,⟨⟨pW,pH,pT,pK⟩,C⟩,.mk o a q t kk⟩=nL kk:=by simp only[Zbk,Ze.nodes,nL];omega
   have a7:evN ⟨eK,eL,⟨X,Y,W,H⟩,⟨⟨pW,pH,pT,pK⟩,C⟩,.mk o a q t kk⟩=15+4*nL kk:=by rw[evN,a2]
   rw[a2] at a1;have aj:k+(Z1 evN (ks.take (i+1)):Nat)=k+(Z1 evN (ks.take i):Nat)+1+1+1+1+1+1+1+1+1+1+1+1+1+1+1+((4*nL kk:Nat):Int):=by rw[a5,a7];push_cast;omega
   generalize hK:k+(Z1 evN (ks.take i):Nat)=K at ai aj ⊢;obtain⟨K1,ak⟩:∃ x,K+1=x:=⟨_,rfl⟩
   have v1:IntKind.i64.wrap (K+1)=K1:=by rw[ak];exact wi _ (by omega) (by omega)
   obtain⟨K2,al⟩:∃ x,K1+1=x:=⟨_,rfl⟩
   have v2:IntKind.i64.wrap (K1+1)=K2:=by rw[al];exact wi _ (by omega) (by omega)
   obtain⟨K3,am⟩:∃ x,K2+1=x:=⟨_,rfl⟩
   have v3:IntKind.i64.wrap (K2+1)=K3:=by rw[am];exact wi _ (by omega) (by omega)
   obtain⟨K4,an⟩:∃ x,K3+1=x:=⟨_,rfl⟩
   have v4:IntKind.i64.wrap (K3+1)=K4:=by rw[an];exact wi _ (by omega) (by omega)
   obtain⟨K5,ao⟩:∃ x,K4+1=x:=⟨_,rfl⟩
   have v5:IntKind.i64.wrap (K4+1)=K5:=by rw[ao];exact wi _ (by omega) (by omega)
   obtain⟨K6,ap⟩:∃ x,K5+1=x:=⟨_,rfl⟩
   have v6:IntKind.i64.wrap (K5+1)=K6:=by rw[ap];exact wi _ (by omega) (by omega)
   obtain⟨K7,aq⟩:∃ x,K6+1=x:=⟨_,rfl⟩
   have v7:IntKind.i64.wrap (K6+1)=K7:=by rw[aq];exact wi _ (by omega) (by omega)
   obtain⟨K8,ar⟩:∃ x,K7+1=x:=⟨_,rfl⟩
   have v8:IntKind.i64.wrap (K7+1)=K8:=by rw[ar];exact wi _ (by omega) (by omega)
   obtain⟨K9,au⟩:∃ x,K8+1=x:=⟨_,rfl⟩
   have v9:IntKind.i64.wrap (K8+1)=K9:=by rw[au];exact wi _ (by omega) (by omega)
   obtain⟨av,aa⟩:∃ x,K9+1=x:=⟨_,rfl⟩
   have a8:IntKind.i64.wrap (K9+1)=av:=by rw[aa];exact wi _ (by omega) (by omega)
   obtain⟨aw,ab⟩:∃ x,av+1=x:=⟨_,rfl⟩
   have a9:IntKind.i64.wrap (av+1)=aw:=by rw[ab];exact wi _ (by omega) (by omega)
   obtain⟨ax,ad⟩:∃ x,aw+1=x:=⟨_,rfl⟩
   have a':IntKind.i64.wrap (aw+1)=ax:=by rw[ad];exact wi _ (by omega) (by omega)
   obtain⟨ay,ae⟩:∃ x,ax+1=x:=⟨_,rfl⟩
   have ba:IntKind.i64.wrap (ax+1)=ay:=by rw[ae];exact wi _ (by omega) (by omega)
   obtain⟨az,af⟩:∃ x,ay+1=x:=⟨_,rfl⟩
   have bb:IntKind.i64.wrap (ay+1)=az:=by rw[af];exact wi _ (by omega) (by omega)
   obtain⟨a3,ag⟩:∃ x,az+1=x:=⟨_,rfl⟩
   have bc:IntKind.i64.wrap (az+1)=a3:=by rw[ag];exact wi _ (by omega) (by omega)
   have e1:=Zbg _ kk (Kg _) a1 a3 (by omega) (by omega);simp only[ZkX,Zw.enc_mk,ak,al,am,an,ao,ap,aq,ar,au,aa,ab,ad,ae,af,ag] at ai aj;clear ak al am an ao ap aq ar au aa ab ad ae af ag;generalize nL kk=nk at *;simp +contextual -implicitDefEqProofs (maxSteps:=10^7) only[go_sem,seval,↓gZ,ah,a0,hg,w1,a4,v1,v2,v3,v4,v5,v6,v7,v8,v9,a8,a9,a',ba,bb,bc,e1,List.length_set,Ll,List.set_set];refine ih (i+1) _ (by omega) (by omega) ?_;simp +contextual -implicitDefEqProofs (maxSteps:=10^7) only[go_sem,seval,↓gZ,ai,aj]
  ·have:i=ks.length:=by omega
   subst this;rw[Zl4,KN];simp +contextual -implicitDefEqProofs (maxSteps:=10^7) only[go_sem,seval,↓gZ,WV]
theorem ZgF (ks:List Zw) (hk:Z1 evN ks≤1099511627776) (hl:ks.length≤1099511627776) (hs:∀ e∈ks,Zbk e≤4194304) (k:Int) (h0:0≤k) (h1:k≤70368744177664):Zj Xs Ms X1 [.d (.sl ((Zq4 ks k).map Zw.enc)),(.d (J k))] []=some ((.d (J (k+(Z1 evN ks:Nat)))),[]):=by
 have a0:=WV ZkX evN ks k;refine cE ?_;simp +contextual -implicitDefEqProofs (maxSteps:=10^7) only[go_sem,seval,↓gZ,UZ];refine Zeo Xs Ms (st0:=?st0) (α:=Nat) (fun i=>[(5,.d (J (i:Int))),(1,.d (J (k+(Z1 evN (ks.take i):Nat))))]) (fun _=>[]) (fun i=>i≤ks.length) (fun i=>ks.length-i) 0 ?hc (by omega) ?h0 ?step
 case hc=>simp +contextual -implicitDefEqProofs (maxSteps:=10^7) only[go_sem,seval,↓gZ]<;>exact rfl
 case h0=>simp only[LZ,Z1,Int.natCast_zero,Int.add_zero];rfl
 case step=>
  intro i hi ih;have bc:=Xn evN ks i;by_cases a1:i<ks.length
  ·obtain⟨x,hx⟩:=VR a1;have ah : (i:Int)<(ks.length:Int):=by omega
   have w1:=ZM (k:=i) (by omega);have hg:=Zhe ZkX evN ks k i x hx;have a4:=Zaz (c:=evN) hx;have a5:=Xn evN ks (i+1);have a2:=hs x (Kp hx);obtain⟨eK,eL,⟨X,Y,W,H⟩,⟨⟨pW,pH,pT,pK⟩,C⟩,⟨o,a,q,t,kk⟩⟩:=x;have a3:Zbk ⟨eK,eL,⟨X,Y,W,H⟩,⟨⟨pW,pH,pT,pK⟩,C⟩,.mk o a q t kk⟩=nL kk:=by simp only[Zbk,Ze.nodes,nL];omega
   have a6:evN ⟨eK,eL,⟨X,Y,W,H⟩,⟨⟨pW,pH,pT,pK⟩,C⟩,.mk o a q t kk⟩=15+4*nL kk:=by rw[evN,a3]
   rw[a3] at a2;have ai:k+(Z1 evN (ks.take (i+1)):Nat)=k+(Z1 evN (ks.take i):Nat)+1+1+1+1+1+1+1+1+1+1+1+1+1+1+1+((4*nL kk:Nat):Int):=by rw[a4,a6];push_cast;omega
   generalize hK:k+(Z1 evN (ks.take i):Nat)=K at hg ai ⊢;obtain⟨K1,aj⟩:∃ x,K+1=x:=⟨_,rfl⟩
   have v1:IntKind.i64.wrap (K+1)=K1:=by rw[aj];exact wi _ (by omega) (by omega)
   obtain⟨K2,ak⟩:∃ x,K1+1=x:=⟨_,rfl⟩
   have v2:IntKind.i64.wrap (K1+1)=K2:=by rw[ak];exact wi _ (by omega) (by omega)
   obtain⟨K3,al⟩:∃ x,K2+1=x:=⟨_,rfl⟩
   have v3:IntKind.i64.wrap (K2+1)=K3:=by rw[al];exact wi _ (by omega) (by omega)
   obtain⟨K4,am⟩:∃ x,K3+1=x:=⟨_,rfl⟩
   have v4:IntKind.i64.wrap (K3+1)=K4:=by rw[am];exact wi _ (by omega) (by omega)
   obtain⟨K5,an⟩:∃ x,K4+1=x:=⟨_,rfl⟩
   have v5:IntKind.i64.wrap (K4+1)=K5:=by rw[an];exact wi _ (by omega) (by omega)
   obtain⟨K6,ao⟩:∃ x,K5+1=x:=⟨_,rfl⟩
   have v6:IntKind.i64.wrap (K5+1)=K6:=by rw[ao];exact wi _ (by omega) (by omega)
   obtain⟨K7,ap⟩:∃ x,K6+1=x:=⟨_,rfl⟩
   have v7:IntKind.i64.wrap (K6+1)=K7:=by rw[ap];exact wi _ (by omega) (by omega)
   obtain⟨K8,aq⟩:∃ x,K7+1=x:=⟨_,rfl⟩
   have v8:IntKind.i64.wrap (K7+1)=K8:=by rw[aq];exact wi _ (by omega) (by omega)
   obtain⟨K9,ar⟩:∃ x,K8+1=x:=⟨_,rfl⟩
   have v9:IntKind.i64.wrap (K8+1)=K9:=by rw[ar];exact wi _ (by omega) (by omega)
   obtain⟨au,aa⟩:∃ x,K9+1=x:=⟨_,rfl⟩
   have a7:IntKind.i64.wrap (K9+1)=au:=by rw[aa];exact wi _ (by omega) (by omega)
   obtain⟨av,ab⟩:∃ x,au+1=x:=⟨_,rfl⟩
   have a8:IntKind.i64.wrap (au+1)=av:=by rw[ab];exact wi _ (by omega) (by omega)
   obtain⟨aw,ad⟩:∃ x,av+1=x:=⟨_,rfl⟩
   have a9:IntKind.i64.wrap (av+1)=aw:=by rw[ad];exact wi _ (by omega) (by omega)
   obtain⟨ax,ae⟩:∃ x,aw+1=x:=⟨_,rfl⟩
   have a':IntKind.i64.wrap (aw+1)=ax:=by rw[ae];exact wi _ (by omega) (by omega)
   obtain⟨ay,af⟩:∃ x,ax+1=x:=⟨_,rfl⟩
   have ba:IntKind.i64.wrap (ax+1)=ay:=by rw[af];exact wi _ (by omega) (by omega)
   obtain⟨az,ag⟩:∃ x,ay+1=x:=⟨_,rfl⟩
   have bb:IntKind.i64.wrap (ay+1)=az:=by rw[ag];exact wi _ (by omega) (by omega)
   have e1:=Zbh _ kk (Kg _) a2 az (by omega) (by omega);have n1:¬az+((4*nL kk:Nat):Int)<0:=by omega
   simp only[ZkX,aj,ak,al,am,an,ao,ap,aq,ar,aa,ab,ad,ae,af,ag] at hg ai;clear aj ak al am an ao ap aq ar aa ab ad ae af ag;generalize nL kk=nk at *;simp +contextual -implicitDefEqProofs (maxSteps:=10^7) only[go_sem,seval,↓gZ,ah,a1,hg,w1,a0,v1,v2,v3,v4,v5,v6,v7,v8,v9,a7,a8,a9,a',ba,bb,e1,n1,bNe,bne_self_eq_false];refine ih (i+1) _ (by omega) (by omega) ?_;simp +contextual -implicitDefEqProofs (maxSteps:=10^7) only[go_sem,seval,↓gZ,ai]
  ·have:i=ks.length:=by omega
   subst this;rw[KN];simp +contextual -implicitDefEqProofs (maxSteps:=10^7) only[go_sem,seval,↓gZ,a0]
end Go.Proofs.YtgpiffflfkoocaaDoor
namespace Go.Proofs.YtgpiffflfkoocaaDoor
open Go Go.Abs Go.Abs.E Go.Abs.L
open Nat (reduceMul reduceSub reduceLeDiff reduceEqDiff)
open Int (reduceLE reduceEq reduceToNat reduceNeg)
set_option linter.unusedSimpArgs false
set_option linter.unusedVariables false
set_option maxRecDepth 20000
set_option maxHeartbeats 4000000
end Go.Proofs.YtgpiffflfkoocaaDoor
namespace Go.Proofs.YtgpiffflfkoocaaDoor
open Go Go.Abs Go.Abs.E Go.Abs.L
open Nat (reduceMul reduceSub reduceLeDiff reduceEqDiff)
open Int (reduceLE reduceEq reduceToNat reduceNeg)
set_option linter.unusedSimpArgs false
set_option linter.unusedVariables false
set_option maxRecDepth 20000
set_option maxHeartbeats 4000000
end Go.Proofs.YtgpiffflfkoocaaDoor
namespace Go.Proofs.YtgpiffflfkoocaaDoor
open Go Go.Abs Go.Abs.E Go.Abs.L
open Nat (reduceMul reduceSub reduceLeDiff reduceEqDiff)
open Int (reduceLE reduceEq reduceToNat reduceNeg)
set_option linter.unusedSimpArgs false
set_option linter.unusedVariables false
set_option maxRecDepth 20000
set_option maxHeartbeats 4000000
end Go.Proofs.YtgpiffflfkoocaaDoor
namespace Go.Proofs.YtgpiffflfkoocaaDoor
open Go Go.Abs Go.Abs.E Go.Abs.L
open Nat (reduceMul reduceSub reduceLeDiff reduceEqDiff)
open Int (reduceLE reduceEq reduceToNat reduceNeg)
set_option linter.unusedSimpArgs false
set_option linter.unusedVariables false
set_option maxRecDepth 20000
set_option maxHeartbeats 4000000
def Zbo:Nat→List (List UInt8)→List Ev
 | _,[]=>[]
 | _,[_]=>[]
 | k,x :: y :: r=>if 40≤k then [] else match Zac x with
  | none=>[]
  | some v=>v :: Zbo (k+1) (y :: r)
def ZdU (s:List UInt8):List Ev:=Zbo 0 (Zt 10 s)
theorem ZjL:∀ {n k:Nat} {s:List UInt8},s.length<n→Zhs n k s=Zbo k (Zt 10 s)
 | 0,k,s,h=>by omega
 | n+1,k,s,h=>by
  rw[Zhs,UI];cases hi:QI 10 s with
  | none=>simp only[Zbo,ite_self]
  | some i=>
   simp only;have aa:=Y7 10 (s.drop (i+1));obtain⟨_,_,ab⟩:=Wa hi;have ih:=ZjL (n:=n) (k:=k+1) (s:=s.drop (i+1)) (by simp;omega);cases hs:Zt 10 (s.drop (i+1)) with
   | nil=>exact absurd hs aa
   | cons y r=>
    rw[hs] at ih;rw[Zbo];split
    ·rfl
    ·cases Zac (s.take i) with
     | none=>rfl
     | some v=>simp only;rw[ih]
theorem ZpJ (s:List UInt8):ZdU s=Zhs (s.length+1) 0 s:=(ZjL (by omega)).symm
theorem ZpK (s:List UInt8):∃ r,s=Zf0 (ZdU s)++r∧(ZdU s).length≤40∧∀ v∈ZdU s,v.ok:=by
 obtain⟨r,h1,h2,h3⟩:=ZjQ (n:=s.length+1) (k:=0) (s:=s);rw[← ZpJ] at h1 h2 h3;exact⟨r,h1,by omega,h3⟩
theorem ZeW (s:List UInt8) (hs:s.length≤1048576):Zj Xs Ms XG [.d (.str s)] []=some (.own 0,[.tree 16 5 (((ZdU s).map Ev.ev).map Zw.enc) none]):=by
 refine cE ?_;simp +contextual -implicitDefEqProofs (maxSteps:=10^7) only[go_sem,seval,↓gZ,Ua];refine LO (α:=List UInt8×List Ev) (fun a=>[(0,.d (.str a.1))]) (fun a=>[(0,.tree 16 5 ((a.2.map Ev.ev).map Zw.enc) none)]) (fun a=>a.1.length≤s.length∧ZdU s=a.2++Zbo a.2.length (Zt 10 a.1)) (fun a=>a.1.length) (s,[]) ⟨by simp,by simp[ZdU]⟩ ?_;intro⟨t,vs⟩ ⟨hk,hp⟩ ih;simp only at hk hp ih ⊢;have e1:=US t 10 (by omega);rw[UI] at hp;by_cases ae:vs.length<40
 ·have aa : (vs.length:Int)<40:=by omega
  have ab:(vs.length+1)*144≤140737488355328∧vs.length≤140737488355327:=by omega
  cases hi:QI 10 t with
  | none=>
   rw[hi] at e1 hp;simp only at e1 hp;simp only[Zbo,KU] at hp;rw[hp];simp +contextual -implicitDefEqProofs (maxSteps:=10^7) only[go_sem,seval,↓gZ,ae,aa,e1]
  | some i=>
   rw[hi] at e1 hp;simp only at e1 hp;obtain⟨_,_,ah⟩:=Wa hi;have ag:=Y7 10 (t.drop (i+1));obtain⟨K,L,X,Y,W,H,pW,pH,pT,pK,C,o,a,q,tt,ks,e2,h2⟩:=ZgH (t.take i) (by simp;omega);have ad:ZdU s=vs++match Zac (t.take i) with
     | none=>[]
     | some v=>v :: Zbo (vs.length+1) (Zt 10 (t.drop (i+1))):=by
    cases hsp:Zt 10 (t.drop (i+1)) with
    | nil=>exact absurd hsp ag
    | cons y r=>rw[hsp,Zbo,Kf (by omega)] at hp;exact hp
   cases hv:Zac (t.take i) with
   | none=>
    rw[hv] at e2 ad;simp only[Ky] at e2;simp only[KU] at ad;rw[ad];cases ks<;>simp +contextual -implicitDefEqProofs (maxSteps:=10^7) only[go_sem,seval,↓gZ,ae,aa,e1,e2]
   | some v=>
    rw[hv] at e2 ad h2;simp only[L9] at e2;simp only[evM] at ad h2;cases ks with
    | nil=>
     simp +contextual -implicitDefEqProofs (maxSteps:=10^7) only[go_sem,seval,↓gZ,ae,aa,e1,e2,ab];refine ih (t.drop (i+1),vs++[v]) _ ⟨by simp;omega,?_⟩ (by simp;omega) ?_
     ·simp only[KH,LC,Ks,Km,Li,Ls];exact ad
     ·simp +contextual -implicitDefEqProofs (maxSteps:=10^7) only[go_sem,seval,↓gZ,Lc,Ki,Ku,← h2]
    | cons k1 kr=>
     simp +contextual -implicitDefEqProofs (maxSteps:=10^7) only[go_sem,seval,↓gZ,ae,aa,e1,e2,ab];refine ih (t.drop (i+1),vs++[v]) _ ⟨by simp;omega,?_⟩ (by simp;omega) ?_
     ·simp only[KH,LC,Ks,Km,Li,Ls];exact ad
     ·simp +contextual -implicitDefEqProofs (maxSteps:=10^7) only[go_sem,seval,↓gZ,Lc,Ki,Ku,← h2]
 ·have aa : ¬(vs.length:Int)<40:=by omega
  have af:∀ ls,Zbo vs.length ls=[]:=by
   intro ls
   match ls with
   | []=>rfl
   | [_]=>rfl
   | x :: y :: r=>rw[Zbo,Ko (by omega)]
  rw[af,KU] at hp;rw[hp];simp +contextual -implicitDefEqProofs (maxSteps:=10^7) only[go_sem,seval,↓gZ,ae,aa]
theorem Zsw {ls:List (List UInt8)} {k m:Nat} {x:List UInt8} (hx:ls[k]?=some x) (hl:k+1<ls.length):Zbo m (ls.drop k)=if 40≤m then [] else match Zac x with
  | none=>[]
  | some v=>v :: Zbo (m+1) (ls.drop (k+1)):=by
 obtain⟨h1,h2⟩:=Kb.1 hx;rw[KT h1,h2,KT hl,Zbo]
theorem ZeX (s:List UInt8) (hs:s.length≤1048576):Zj Xs Ms Yn [.d (.str s)] []=some (.own 0,[.row 16 (((ZdU s).map Ev.ev).map Zw.enc) true false]):=by
 have e1:=Zd0 s 10 10 rfl hs;have af:=Zdf 10 s;have aj:=J9 10 s;have ak:s.count 10≤s.length:=L0;have ag:=Y7 10 s;unfold ZdU;generalize Zt 10 s=ls at *;have ad:0<ls.length:=List.length_pos_iff.2 ag;refine cE ?_;simp +contextual -implicitDefEqProofs (maxSteps:=10^7) only[go_sem,seval,↓gZ,Ub,e1];refine LO (α:=Nat×List Ev) (fun a=>[(5,.d (J (a.1:Int)))]) (fun a=>[(1,.row 16 ((a.2.map Ev.ev).map Zw.enc) true false)]) (fun a=>a.1<ls.length∧a.2.length≤40∧Zbo 0 ls=a.2++Zbo a.2.length (ls.drop a.1)) (fun a=>ls.length-a.1) (0,[]) ⟨ad,by simp,by simp⟩ ?_;intro⟨k,vs⟩ ⟨hk,h40,hp⟩ ih;simp only at hk h40 hp ih ⊢
 have w:=ZM (k:=k) (by omega);by_cases ah:k+1<ls.length
 ·obtain⟨x,hx⟩:=VR hk;have aa : ((k+1:Nat):Int)<(ls.length:Int):=by omega
  have al:=af x (Kp hx);obtain⟨K,L,X,Y,W,H,pW,pH,pT,pK,C,o,a,q,tt,ks,e2,h2⟩:=ZgJ x (by omega);have ab:(vs.length+1)*144≤140737488355328∧vs.length≤140737488355327:=by omega
  rw[Zsw hx ah] at hp;cases hv:Zac x with
  | none=>
   rw[hv] at e2 hp;simp only[Ky] at e2;simp only[ite_self,KU] at hp;rw[hp];simp +contextual -implicitDefEqProofs (maxSteps:=10^7) only[go_sem,seval,↓gZ,aa,hk,hx,w,e2]
  | some v=>
   rw[hv] at e2 hp h2;simp only[L9] at e2;simp only[evM] at hp h2;by_cases hm:vs.length=40
   ·have ae : (vs.length:Int)=40:=by omega
    rw[Ko (by omega),KU] at hp;rw[hp];simp +contextual -implicitDefEqProofs (maxSteps:=10^7) only[go_sem,seval,↓gZ,aa,hk,hx,w,e2,hm,ae]
   ·have ae : ¬(vs.length:Int)=40:=by omega
    rw[Kf (by omega)] at hp;simp +contextual -implicitDefEqProofs (maxSteps:=10^7) only[go_sem,seval,↓gZ,aa,hk,hx,w,e2,hm,ae,ab];refine ih (k+1,vs++[v]) _ ⟨by simp only;omega,by simp;omega,?_⟩ (by simp only;omega) ?_
    ·simp only[KH,LC,Ks,Km,Li,Ls];exact hp
    ·simp +contextual -implicitDefEqProofs (maxSteps:=10^7) only[go_sem,seval,↓gZ,Lc,Ki,Ku,← h2]
 ·have ai:¬((k+1:Nat):Int)<(ls.length:Int):=by omega
  obtain⟨x,hx⟩:=VR hk;obtain⟨h1,h2⟩:=Kb.1 hx;rw[KT h1,List.drop_of_length_le (by omega),Zbo,KU] at hp;rw[hp];simp +contextual -implicitDefEqProofs (maxSteps:=10^7) only[go_sem,seval,↓gZ,ai,w]
theorem ZeY (s:List UInt8) (hs:s.length≤1048576):Zj Xs Ms Ym [.d (.str s)] []=some (.own 0,[.row 16 (((ZdU s).map Ev.ev).map Zw.enc) true false]):=by
 have e1:=ZeX s hs;refine cE ?_;simp +contextual -implicitDefEqProofs (maxSteps:=10^7) only[go_sem,seval,↓gZ,W9,e1]
theorem Zq5 (s:List UInt8):((ZdU s).map Ev.ev).length≤40∧∀ e∈(ZdU s).map Ev.ev,Zbk e≤255:=by
 obtain⟨_,_,h1,h2⟩:=ZpK s;refine⟨by simpa using h1,fun e he=>?_⟩;obtain⟨v,hv,rfl⟩:=Le.1 he;have h3:=ZpI v.text;rw[UJ.2 ⟨rfl,h2 v hv⟩] at h3;exact h3
theorem J2 (s:List UInt8) (hs:s.length≤maxLen):Zj Xs Ms QJ [.d (.str s)] []=some ((.d (.bool true)),[]):=by
 by_cases hc:s.length≤1048576
 ·have aa : ¬(1048576:Int)<(s.length:Int):=by omega
  have e1:=ZeW s hc;have e2:=ZeY s hc;obtain⟨h1,h2⟩:=Zq5 s;generalize (ZdU s).map Ev.ev=R at *;have hb:Z1 evN R≤1035*R.length:=Zl5 fun e he=>by have:=h2 e he;unfold evN;omega
  have e3:=ZgD R (by omega) fun e he=>by have:=h2 e he;omega
  have e4:=ZgE R (by omega) (by omega) (fun e he=>by have:=h2 e he;omega) 1 (by decide) (by decide);have e5:=ZgF R (by omega) (by omega) (fun e he=>by have:=h2 e he;omega) 1 (by decide) (by decide);have y1:¬(1:Int)+(Z1 evN R:Nat)<0:=by omega
  generalize (1:Int)+(Z1 evN R:Nat)=g4 at *;generalize Zq4 R 1=R2 at *;refine cE ?_;simp +contextual -implicitDefEqProofs (maxSteps:=10^7) only[go_sem,seval,↓gZ,Xl,aa,e1,e2,e3,e4,e5,y1]
 ·have aa : (1048576:Int)<(s.length:Int):=by omega
  refine cE ?_;simp +contextual -implicitDefEqProofs (maxSteps:=10^7) only[go_sem,seval,↓gZ,Xl,aa]
end Go.Proofs.YtgpiffflfkoocaaDoor
