/- Own text. -/
import Derived.Test.YthgciclhiaoecaaGreatACode
import Derived.Test.YthgciclhiaoecaaGreatAbsParts
import Derived.Test.YthgciclhiaoecaaGreatAC5
import Derived.Test.YthgciclhiaoecaaGreatAC16
import Derived.Test.YthgciclhiaoecaaGreatAbsOkD
namespace Go.Proofs.YthgciclhiaoecaaGreat
open Go Go.Abs Go.Abs.E Go.Abs.L
open Nat (reduceMul reduceSub reduceLeDiff reduceEqDiff)
open Int (reduceLE reduceEq reduceToNat reduceNeg)
set_option linter.unusedSimpArgs false
set_option linter.unusedVariables false
set_option maxRecDepth 20000
set_option maxHeartbeats 4000000
def Zlc (e:Zz):Nat:=e.plan.nodes-1
theorem Zb6 (eK eL eX eY eW eH aa ab:Int) (ad:Bool) (ae eC eo ea ep:Int) (et:Bool) (ek:List Ze) (h:nL ek≤1048576):Zd Xs Ms Vd [(.d (.agg [J eK,J eL,J eX,J eY,J eW,J eH,J aa,J ab,.bool ad,J ae,J eC,J eo,J ea,J ep,.bool et,.sl (ek.map Ze.enc)])),(.d (.agg [J eK,J eL,J eX,J eY,J eW,J eH,J aa,J ab,.bool ad,J ae,J eC,J eo,J ea,J ep,.bool et,.sl (ek.map Ze.enc)]))] []=some ((.d (.bool true)),[]):=by
 have e1:=Zk4 eX eY eW eH;have e2:=Zi3 aa ab ad ae eC;have e3:=Zsk eo ea ep et ek h;refine cE ?_;simp +contextual -implicitDefEqProofs (maxSteps:=10^7) only[go_sem,seval,↓gZ,ZgX,e1,e2,e3]
theorem Zf4 (ks:List Zz) (hk:ks.length≤1048576) (hs:∀ e∈ks,Zlc e≤1048576):Zd Xs Ms Vk [(.d (.sl (ks.map Zz.enc))),(.d (.sl (ks.map Zz.enc)))] []=some ((.d (.bool true)),[]):=by
 refine cE ?_;simp +contextual -implicitDefEqProofs (maxSteps:=10^7) only[go_sem,seval,↓gZ,ZeX];refine LO (α:=Nat) (fun k=>[(5,.d (J (k:Int)))]) (fun _=>[]) (fun k=>k≤ks.length) (fun k=>ks.length-k) 0 (by omega) ?_;intro k af ad;by_cases ab:k<ks.length
 ·obtain⟨x,hx⟩:=Zo ab;have aa : (k:Int)<(ks.length:Int):=by omega
  have w1:=Zh (k:=k) (by omega);have ae:=hs x (Kb hx);obtain⟨K,L,⟨X,Y,W,H⟩,⟨⟨pW,pH,pT,pK⟩,C⟩,⟨o,a,q,t,kk⟩⟩:=x;have e1:=Zb6 K L X Y W H pW pH pT pK C o a q t kk (by simp only[Zlc,Ze.nodes] at ae;simp only[nL];omega);simp +contextual -implicitDefEqProofs (maxSteps:=10^7) only[go_sem,seval,↓gZ,aa,ab,hx,w1,e1];refine ad (k+1) _ (by omega) (by omega) ?_;simp +contextual -implicitDefEqProofs (maxSteps:=10^7) only[go_sem,seval,↓gZ]
 ·have:k=ks.length:=by omega
  subst this;simp +contextual -implicitDefEqProofs (maxSteps:=10^7) only[go_sem,seval,↓gZ]
theorem Zp1 (eK eL eX eY eW eH aa ab:Int) (ad:Bool) (ae eC eo ea ep:Int) (et:Bool) (ek:List Ze) (hk:nL ek≤4194304) (k:Int) (h0:0≤k) (h1:k≤1099511627776):Zd Xs Ms Qb [.agg [(.d (J eK)),(.d (J eL)),(.d (J eX)),(.d (J eY)),(.d (J eW)),(.d (J eH)),(.d (J aa)),(.d (J ab)),(.d (.bool ad)),(.d (J ae)),(.d (J eC)),(.d (J eo)),(.d (J ea)),(.d (J ep)),(.d (.bool et)),.own 0],(.d (J k))] [.tree 5 5 (ek.map Ze.enc) none]=some ((.d (J (k+((4*nL ek:Nat):Int)))),[.tree 5 5 ((Ua ek k).map Ze.enc) none]):=by
 have e1:=Zsl eo ea ep et ek hk k h0 h1;generalize nL ek=nk at *;refine cE ?_;simp +contextual -implicitDefEqProofs (maxSteps:=10^7) only[go_sem,seval,↓gZ,ZaP,e1]
theorem Zf5 (eK eL eX eY eW eH aa ab:Int) (ad:Bool) (ae eC eo ea ep:Int) (et:Bool) (k:Int):Zd Xs Ms Qb [.agg [(.d (J eK)),(.d (J eL)),(.d (J eX)),(.d (J eY)),(.d (J eW)),(.d (J eH)),(.d (J aa)),(.d (J ab)),(.d (.bool ad)),(.d (J ae)),(.d (J eC)),(.d (J eo)),(.d (J ea)),(.d (J ep)),(.d (.bool et)),.own 0],(.d (J k))] [.row 5 [] true false]=some ((.d (J k)),[.row 5 [] true false]):=by
 have e1:=ZpZ eo ea ep et k;refine cE ?_;simp +contextual -implicitDefEqProofs (maxSteps:=10^7) only[go_sem,seval,↓gZ,ZaP,e1]
theorem ZgK (eK eL eX eY eW eH aa ab:Int) (ad:Bool) (ae eC eo ea ep:Int) (et:Bool) (ek:List Ze) (hk:nL ek≤4194304) (k:Int) (h0:0≤k) (h1:k≤1099511627776):Zd Xs Ms VF [.d (.agg [J eK,J eL,J eX,J eY,J eW,J eH,J aa,J ab,.bool ad,J ae,J eC,J eo,J ea,J ep,.bool et,.sl ((Ua ek k).map Ze.enc)]),(.d (J k))] []=some ((.d (J (k+((4*nL ek:Nat):Int)))),[]):=by
 have e1:=Zsm eo ea ep et ek hk k h0 h1;have n1:¬k+((4*nL ek:Nat):Int)<0:=by omega
 generalize nL ek=nk at *;refine cE ?_;simp +contextual -implicitDefEqProofs (maxSteps:=10^7) only[go_sem,seval,↓gZ,ZdI,e1,n1]
def Zug:Zz→Int→Zz
 | ⟨_,_,_,_,.mk _ _ _ _ ks⟩,k=>⟨k,k+1,⟨k+1+1,k+1+1+1,k+1+1+1+1,k+1+1+1+1+1⟩,⟨⟨k+1+1+1+1+1+1,k+1+1+1+1+1+1+1,(decide ((k+1+1+1+1+1+1+1+1).tmod 3=0)),k+1+1+1+1+1+1+1+1+1⟩,k+1+1+1+1+1+1+1+1+1+1⟩,.mk (k+1+1+1+1+1+1+1+1+1+1+1) (k+1+1+1+1+1+1+1+1+1+1+1+1) (k+1+1+1+1+1+1+1+1+1+1+1+1+1) (decide ((k+1+1+1+1+1+1+1+1+1+1+1+1+1+1).tmod 3=0)) (Ua ks (k+1+1+1+1+1+1+1+1+1+1+1+1+1+1+1))⟩
def evN (e:Zz):Nat:=15+4*Zlc e
abbrev Zyq (l:List Zz) (k:Int):List Zz:=Zc9 Zug evN l k
theorem Zpl (ks:List Zz) (hk:Zs evN ks≤1099511627776) (hl:ks.length≤1099511627776) (hs:∀ e∈ks,Zlc e≤4194304) (k:Int) (h0:0≤k) (h1:k≤70368744177664):Zd Xs Ms Z1 [.own 0,(.d (J k))] [.tree 16 5 (ks.map Zz.enc) none]=some ((.d (J (k+(Zs evN ks:Nat)))),[.tree 16 5 ((Zyq ks k).map Zz.enc) none]):=by
 refine cE ?_;simp +contextual -implicitDefEqProofs (maxSteps:=10^7) only[go_sem,seval,↓gZ,JI];refine Qw Xs Ms (st0:=?st0) (α:=Nat) (fun i=>[(5,.d (J (i:Int))),(1,.d (J (k+(Zs evN (ks.take i):Nat))))]) (fun i=>[(0,.tree 16 5 ((Zla Zug evN k ks i).map Zz.enc) none)]) (fun i=>i≤ks.length) (fun i=>ks.length-i) 0 ?hc (by omega) ?h0 ?step
 case hc=>simp +contextual -implicitDefEqProofs (maxSteps:=10^7) only[go_sem,seval,↓gZ]<;>exact rfl
 case h0=>simp only[ZmT,LY,Zs,K0,Ls];rfl
 case step=>
  intro i hi ih;have a4:=ZpT Zug evN k hi;have bc:=QC evN ks i;by_cases a0:i<ks.length
  ·obtain⟨x,hx⟩:=Zo a0;have ah : (i:Int)<(ks.length:Int):=by omega
   have w1:=Zh (k:=i) (by omega);have hg:=ZpU Zug evN k hx;have ai:=ZmS Zz.enc Zug evN k hx;have hb2:=Zal (c:=evN) hx;have a5:=QC evN ks (i+1);have a1:=hs x (Kb hx);obtain⟨eK,eL,⟨X,Y,W,H⟩,⟨⟨pW,pH,pT,pK⟩,C⟩,⟨o,a,q,t,kk⟩⟩:=x;have a2:Zlc ⟨eK,eL,⟨X,Y,W,H⟩,⟨⟨pW,pH,pT,pK⟩,C⟩,.mk o a q t kk⟩=nL kk:=by simp only[Zlc,Ze.nodes,nL];omega
   have a6:evN ⟨eK,eL,⟨X,Y,W,H⟩,⟨⟨pW,pH,pT,pK⟩,C⟩,.mk o a q t kk⟩=15+4*nL kk:=by rw[evN,a2]
   rw[a2] at a1;have aj:k+(Zs evN (ks.take (i+1)):Nat)=k+(Zs evN (ks.take i):Nat)+1+1+1+1+1+1+1+1+1+1+1+1+1+1+1+((4*nL kk:Nat):Int):=by rw[hb2,a6];push_cast;omega
   generalize hK:k+(Zs evN (ks.take i):Nat)=K at ai aj ⊢;obtain⟨K1,ak⟩:∃ x,K+1=x:=⟨_,rfl⟩
   have v1:IntKind.i64.wrap (K+1)=K1:=by rw[ak];exact wi _ (by omega) (by omega)
   obtain⟨K2,al⟩:∃ x,K1+1=x:=⟨_,rfl⟩
   have v2:IntKind.i64.wrap (K1+1)=K2:=by rw[al];exact wi _ (by omega) (by omega)
   obtain⟨K3,am⟩:∃ x,K2+1=x:=⟨_,rfl⟩
   have v3:IntKind.i64.wrap (K2+1)=K3:=by rw[am];exact wi _ (by omega) (by omega)
   obtain⟨K4,an⟩:∃ x,K3+1=x:=⟨_,rfl⟩
   have v4:IntKind.i64.wrap (K3+1)=K4:=by rw[an];exact wi _ (by omega) (by omega)
   obtain⟨K5,ao⟩:∃ x,K4+1=x:=⟨_,rfl⟩
   have v5:IntKind.i64.wrap (K4+1)=K5:=by rw[ao];exact wi _ (by omega) (by omega)
   obtain⟨K6,ap⟩:∃ x,K5+1=x:=⟨_,rfl⟩
   have v6:IntKind.i64.wrap (K5+1)=K6:=by rw[ap];exact wi _ (by omega) (by omega)
   obtain⟨K7,aq⟩:∃ x,K6+1=x:=⟨_,rfl⟩
   have v7:IntKind.i64.wrap (K6+1)=K7:=by rw[aq];exact wi _ (by omega) (by omega)
   obtain⟨K8,ar⟩:∃ x,K7+1=x:=⟨_,rfl⟩
   have v8:IntKind.i64.wrap (K7+1)=K8:=by rw[ar];exact wi _ (by omega) (by omega)
   obtain⟨K9,au⟩:∃ x,K8+1=x:=⟨_,rfl⟩
   have v9:IntKind.i64.wrap (K8+1)=K9:=by rw[au];exact wi _ (by omega) (by omega)
   obtain⟨av,aa⟩:∃ x,K9+1=x:=⟨_,rfl⟩
   have a7:IntKind.i64.wrap (K9+1)=av:=by rw[aa];exact wi _ (by omega) (by omega)
   obtain⟨aw,ab⟩:∃ x,av+1=x:=⟨_,rfl⟩
   have a8:IntKind.i64.wrap (av+1)=aw:=by rw[ab];exact wi _ (by omega) (by omega)
   obtain⟨ax,ad⟩:∃ x,aw+1=x:=⟨_,rfl⟩
   have a9:IntKind.i64.wrap (aw+1)=ax:=by rw[ad];exact wi _ (by omega) (by omega)
   obtain⟨ay,ae⟩:∃ x,ax+1=x:=⟨_,rfl⟩
   have a':IntKind.i64.wrap (ax+1)=ay:=by rw[ae];exact wi _ (by omega) (by omega)
   obtain⟨az,af⟩:∃ x,ay+1=x:=⟨_,rfl⟩
   have ba:IntKind.i64.wrap (ay+1)=az:=by rw[af];exact wi _ (by omega) (by omega)
   obtain⟨a3,ag⟩:∃ x,az+1=x:=⟨_,rfl⟩
   have bb:IntKind.i64.wrap (az+1)=a3:=by rw[ag];exact wi _ (by omega) (by omega)
   have e1:=Zbk _ kk (Kl _) a1 a3 (by omega) (by omega);simp only[Zug,Zz.enc_mk,ak,al,am,an,ao,ap,aq,ar,au,aa,ab,ad,ae,af,ag] at ai aj;clear ak al am an ao ap aq ar au aa ab ad ae af ag;generalize nL kk=nk at *;simp +contextual -implicitDefEqProofs (maxSteps:=10^7) only[go_sem,seval,↓gZ,ah,a0,hg,w1,a4,v1,v2,v3,v4,v5,v6,v7,v8,v9,a7,a8,a9,a',ba,bb,e1,LR,KW,Kaz];refine ih (i+1) _ (by omega) (by omega) ?_;simp +contextual -implicitDefEqProofs (maxSteps:=10^7) only[go_sem,seval,↓gZ,ai,aj]
  ·have:i=ks.length:=by omega
   subst this;rw[ZpV,LC];simp +contextual -implicitDefEqProofs (maxSteps:=10^7) only[go_sem,seval,↓gZ,W9]
theorem Zf6 (ks:List Zz) (hk:Zs evN ks≤1099511627776) (hl:ks.length≤1099511627776) (hs:∀ e∈ks,Zlc e≤4194304) (k:Int) (h0:0≤k) (h1:k≤70368744177664):Zd Xs Ms YW [.d (.sl ((Zyq ks k).map Zz.enc)),(.d (J k))] []=some ((.d (J (k+(Zs evN ks:Nat)))),[]):=by
 have a0:=W9 Zug evN ks k;refine cE ?_;simp +contextual -implicitDefEqProofs (maxSteps:=10^7) only[go_sem,seval,↓gZ,Zct];refine Qw Xs Ms (st0:=?st0) (α:=Nat) (fun i=>[(5,.d (J (i:Int))),(1,.d (J (k+(Zs evN (ks.take i):Nat))))]) (fun _=>[]) (fun i=>i≤ks.length) (fun i=>ks.length-i) 0 ?hc (by omega) ?h0 ?step
 case hc=>simp +contextual -implicitDefEqProofs (maxSteps:=10^7) only[go_sem,seval,↓gZ]<;>exact rfl
 case h0=>simp only[LY,Zs,K0,Ls];rfl
 case step=>
  intro i hi ih;have bb:=QC evN ks i;by_cases a1:i<ks.length
  ·obtain⟨x,hx⟩:=Zo a1;have ah : (i:Int)<(ks.length:Int):=by omega
   have w1:=Zh (k:=i) (by omega);have hg:=Zk9 Zug evN ks k i x hx;have hb2:=Zal (c:=evN) hx;have a4:=QC evN ks (i+1);have a2:=hs x (Kb hx);obtain⟨eK,eL,⟨X,Y,W,H⟩,⟨⟨pW,pH,pT,pK⟩,C⟩,⟨o,a,q,t,kk⟩⟩:=x;have a3:Zlc ⟨eK,eL,⟨X,Y,W,H⟩,⟨⟨pW,pH,pT,pK⟩,C⟩,.mk o a q t kk⟩=nL kk:=by simp only[Zlc,Ze.nodes,nL];omega
   have a5:evN ⟨eK,eL,⟨X,Y,W,H⟩,⟨⟨pW,pH,pT,pK⟩,C⟩,.mk o a q t kk⟩=15+4*nL kk:=by rw[evN,a3]
   rw[a3] at a2;have ai:k+(Zs evN (ks.take (i+1)):Nat)=k+(Zs evN (ks.take i):Nat)+1+1+1+1+1+1+1+1+1+1+1+1+1+1+1+((4*nL kk:Nat):Int):=by rw[hb2,a5];push_cast;omega
   generalize hK:k+(Zs evN (ks.take i):Nat)=K at hg ai ⊢;obtain⟨K1,aj⟩:∃ x,K+1=x:=⟨_,rfl⟩
   have v1:IntKind.i64.wrap (K+1)=K1:=by rw[aj];exact wi _ (by omega) (by omega)
   obtain⟨K2,ak⟩:∃ x,K1+1=x:=⟨_,rfl⟩
   have v2:IntKind.i64.wrap (K1+1)=K2:=by rw[ak];exact wi _ (by omega) (by omega)
   obtain⟨K3,al⟩:∃ x,K2+1=x:=⟨_,rfl⟩
   have v3:IntKind.i64.wrap (K2+1)=K3:=by rw[al];exact wi _ (by omega) (by omega)
   obtain⟨K4,am⟩:∃ x,K3+1=x:=⟨_,rfl⟩
   have v4:IntKind.i64.wrap (K3+1)=K4:=by rw[am];exact wi _ (by omega) (by omega)
   obtain⟨K5,an⟩:∃ x,K4+1=x:=⟨_,rfl⟩
   have v5:IntKind.i64.wrap (K4+1)=K5:=by rw[an];exact wi _ (by omega) (by omega)
   obtain⟨K6,ao⟩:∃ x,K5+1=x:=⟨_,rfl⟩
   have v6:IntKind.i64.wrap (K5+1)=K6:=by rw[ao];exact wi _ (by omega) (by omega)
   obtain⟨K7,ap⟩:∃ x,K6+1=x:=⟨_,rfl⟩
   have v7:IntKind.i64.wrap (K6+1)=K7:=by rw[ap];exact wi _ (by omega) (by omega)
   obtain⟨K8,aq⟩:∃ x,K7+1=x:=⟨_,rfl⟩
   have v8:IntKind.i64.wrap (K7+1)=K8:=by rw[aq];exact wi _ (by omega) (by omega)
   obtain⟨K9,ar⟩:∃ x,K8+1=x:=⟨_,rfl⟩
   have v9:IntKind.i64.wrap (K8+1)=K9:=by rw[ar];exact wi _ (by omega) (by omega)
   obtain⟨au,aa⟩:∃ x,K9+1=x:=⟨_,rfl⟩
   have a6:IntKind.i64.wrap (K9+1)=au:=by rw[aa];exact wi _ (by omega) (by omega)
   obtain⟨av,ab⟩:∃ x,au+1=x:=⟨_,rfl⟩
   have a7:IntKind.i64.wrap (au+1)=av:=by rw[ab];exact wi _ (by omega) (by omega)
   obtain⟨aw,ad⟩:∃ x,av+1=x:=⟨_,rfl⟩
   have a8:IntKind.i64.wrap (av+1)=aw:=by rw[ad];exact wi _ (by omega) (by omega)
   obtain⟨ax,ae⟩:∃ x,aw+1=x:=⟨_,rfl⟩
   have a9:IntKind.i64.wrap (aw+1)=ax:=by rw[ae];exact wi _ (by omega) (by omega)
   obtain⟨ay,af⟩:∃ x,ax+1=x:=⟨_,rfl⟩
   have a':IntKind.i64.wrap (ax+1)=ay:=by rw[af];exact wi _ (by omega) (by omega)
   obtain⟨az,ag⟩:∃ x,ay+1=x:=⟨_,rfl⟩
   have ba:IntKind.i64.wrap (ay+1)=az:=by rw[ag];exact wi _ (by omega) (by omega)
   have e1:=Zbl _ kk (Kl _) a2 az (by omega) (by omega);have n1:¬az+((4*nL kk:Nat):Int)<0:=by omega
   simp only[Zug,aj,ak,al,am,an,ao,ap,aq,ar,aa,ab,ad,ae,af,ag] at hg ai;clear aj ak al am an ao ap aq ar aa ab ad ae af ag;generalize nL kk=nk at *;simp +contextual -implicitDefEqProofs (maxSteps:=10^7) only[go_sem,seval,↓gZ,ah,a1,hg,w1,a0,v1,v2,v3,v4,v5,v6,v7,v8,v9,a6,a7,a8,a9,a',ba,e1,n1,bNe,bne_self_eq_false];refine ih (i+1) _ (by omega) (by omega) ?_;simp +contextual -implicitDefEqProofs (maxSteps:=10^7) only[go_sem,seval,↓gZ,ai]
  ·have:i=ks.length:=by omega
   subst this;rw[LC];simp +contextual -implicitDefEqProofs (maxSteps:=10^7) only[go_sem,seval,↓gZ,a0]
end Go.Proofs.YthgciclhiaoecaaGreat
