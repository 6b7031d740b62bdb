/- Own text. -/
import Derived.Test.YtcefneehgbiebaaGreatDoorDCode
import Derived.Test.YtcefneehgbiebaaGreatDoorAbsParts
import Derived.Test.YtcefneehgbiebaaGreatDoorDC1
namespace Go.Proofs.YtcefneehgbiebaaGreatDoor
open Go Go.Abs Go.Abs.E Go.Abs.L
open Nat (reduceMul reduceSub reduceLeDiff reduceEqDiff)
open Int (reduceLE reduceEq reduceToNat reduceNeg)
set_option linter.unusedSimpArgs false
set_option linter.unusedVariables false
set_option maxRecDepth 20000
set_option maxHeartbeats 4000000
def ZjC:List Pane→List Zc→Prop
 | _,[]=>True
 | q,x :: l=>VP x.Pane∧x.Pane∉q∧1≤x.Count∧x.Count≤24∧ZjC (q++[x.Pane]) l
instance ordGdec:∀ (q:List Pane) (l:List Zc),Decidable (ZjC q l)
 | _,[]=>.isTrue trivial
 | q,x :: l=>by
  unfold ZjC;have:=ordGdec (q++[x.Pane]) l
  infer_instance
def UP:List Zc→Int
 | []=>0
 | x :: l=>x.Count+UP l
def ZaY (l:List Zc):Prop:=l.length≤8∧ZjC [] l∧UP l≤24
instance (l:List Zc):Decidable (ZaY l):=by unfold ZaY;infer_instance
theorem Ztp {l:List Zc} {k:Nat} {x:Zc} {q:List Pane} (hx:l[k]?=some x):ZjC q (l.drop k)↔VP x.Pane∧x.Pane∉q∧1≤x.Count∧x.Count≤24∧ZjC (q++[x.Pane]) (l.drop (k+1)):=by
 obtain⟨h1,h2⟩:=Kb.1 hx;rw[Kw h1,h2,ZjC]
theorem Zwl {l:List Zc} {q:List Pane}:ZjC q (l.drop l.length):=by simp[ZjC]
theorem Zbm {l:List Zc} {k:Nat} {x:Zc} (hx:l[k]?=some x):(l.take (k+1)).map Zc.Pane=(l.take k).map Zc.Pane++[x.Pane]:=by
 rw[KL,hx];simp
theorem ZmY (a b:List Zc):UP (a++b)=UP a+UP b:=by
 induction a with
 | nil=>simp[UP]
 | cons c l ih=>simp only[Kv,UP,ih];omega
theorem Ztq {l:List Zc} {i:Nat} {x:Zc} (hx:l[i]?=some x):UP (l.take (i+1))=UP (l.take i)+x.Count:=by
 rw[KL,hx,ZmY];simp[UP]
theorem ZpW:∀ {l:List Zc} {q:List Pane},ZjC q l→∀ x∈l,VP x.Pane∧1≤x.Count∧x.Count≤24
 | [],_,_,x,hx=>by simp at hx
 | y :: l,q,h,x,hx=>by
  rcases Kd.1 hx with rfl | hx
  ·exact⟨h.1,h.2.2.1,h.2.2.2.1⟩
  ·exact ZpW h.2.2.2.2 x hx
theorem Zwm:∀ {l:List Zc},(∀ x∈l,1≤x.Count)→0≤UP l
 | [],_=>by simp[UP]
 | x :: l,h=>by
  have h1:=h x (by simp);have h2:=Zwm (l:=l) fun y hy=>h y (by simp[hy]);simp only[UP];omega
theorem Zwn {l:List Zc} {i:Nat} (h:∀ x∈l,1≤x.Count):UP (l.take i)≤UP l:=by
 have e:UP l=UP (l.take i)+UP (l.drop i):=by rw[← ZmY,Lx]
 have:=Zwm (l:=l.drop i) fun y hy=>h y (LH hy);omega
def WN:Nat→List Zc→Pane→Int
 | _,[],_=>-1
 | k,x :: l,p=>if x.Pane=p then (k:Int) else WN (k+1) l p
theorem Zx4 {l:List Zc} {k:Nat} {x:Zc} {p:Pane} (hx:l[k]?=some x):WN k (l.drop k) p=if x.Pane=p then (k:Int) else WN (k+1) (l.drop (k+1)) p:=by
 obtain⟨h1,h2⟩:=Kb.1 hx;rw[Kw h1,h2,WN]
theorem Zwo:∀ (l:List Zc) (k i:Nat) (x:Zc),l[i]?=some x→(WN k l x.Pane=((k+i:Nat):Int)↔x.Pane∉(l.take i).map Zc.Pane)
 | [],k,i,x,h=>by simp at h
 | y :: l,k,0,x,h=>by
  simp only[Lp,Option.some.injEq] at h;subst h;simp[WN]
 | y :: l,k,i+1,x,h=>by
  simp only[Lq] at h;have ih:=Zwo l (k+1) i x h;simp only[WN,LN,Kj,Kd,not_or];split
  ·rename_i e;constructor
   ·intro h;omega
   ·intro h;exact absurd e.symm h.1
  ·rename_i e;rw[show k+1+i=k+(i+1) by omega] at ih;rw[ih];exact⟨fun h=>⟨fun e'=>e e'.symm,h⟩,fun h=>h.2⟩
def ZaZ:List Zc→Int
 | []=>0
 | x :: l=>x.Count*x.Pane.W*x.Pane.H+ZaZ l
theorem Zwp (a b:List Zc):ZaZ (a++b)=ZaZ a+ZaZ b:=by
 induction a with
 | nil=>simp[ZaZ]
 | cons c l ih=>simp only[Kv,ZaZ,ih];omega
theorem Ztr {l:List Zc} {i:Nat} {x:Zc} (hx:l[i]?=some x):ZaZ (l.take (i+1))=ZaZ (l.take i)+x.Count*x.Pane.W*x.Pane.H:=by
 rw[KL,hx,Zwp];simp[ZaZ]
theorem Zfp {x:Zc} (h:VP x.Pane∧1≤x.Count∧x.Count≤24):0≤x.Count*x.Pane.W∧x.Count*x.Pane.W≤4800∧0≤x.Count*x.Pane.W*x.Pane.H∧x.Count*x.Pane.W*x.Pane.H≤960000:=by
 obtain⟨h1,h2,h3⟩:=h;simp only[VP] at h1;have a1:0≤x.Count*x.Pane.W:=L1 (by omega) (by omega);have a2:x.Count*x.Pane.W≤24*200:=L2 (by omega) (by omega) (by omega) (by omega);have a3:0≤x.Count*x.Pane.W*x.Pane.H:=L1 (by omega) (by omega);have a4:x.Count*x.Pane.W*x.Pane.H≤4800*200:=L2 (by omega) (by omega) (by omega) (by omega);omega
theorem Zf9:∀ {l:List Zc},(∀ x∈l,VP x.Pane∧1≤x.Count∧x.Count≤24)→0≤ZaZ l∧ZaZ l≤960000*l.length
 | [],_=>by simp[ZaZ]
 | x :: l,h=>by
  have h1:=Zfp (h x (by simp));have h2:=Zf9 (l:=l) fun y hy=>h y (by simp[hy]);simp only[ZaZ,Kp];omega
theorem QO {l:List Zc} (h:ZaY l):∀ x∈l,VP x.Pane∧1≤x.Count∧x.Count≤24:=ZpW h.2.1
theorem ZpX {l:List Zc} (h:ZaY l):0≤ZaZ l∧ZaZ l≤7680000:=by
 have h1:=Zf9 (QO h);have:=h.1;omega
theorem Znj (qW qH:Int) (qT:Bool) (qK qC:Int) (pW pH:Int) (pT:Bool) (pK:Int):Ze Xs Ms VD [(.d (.agg [J qW,J qH,.bool qT,J qK,J qC])),.ptr 0 0] [.box [(.d (J pW)),(.d (J pH)),(.d (.bool pT)),(.d (J pK))]]=some ((.d (.bool (decide ((Pane.mk qW qH qT qK)=(Pane.mk pW pH pT pK))))),[.box [(.d (J pW)),(.d (J pH)),(.d (.bool pT)),(.d (J pK))]]):=by
 refine cE ?_;simp +contextual -implicitDefEqProofs (maxSteps:=10^7) only[go_sem,seval,↓gZ,ZdO];try exact ZdW (by simp only[Pane.mk.injEq,and_assoc])
theorem Zro (l:List Zc) (pW pH:Int) (pT:Bool) (pK:Int) (hl:l.length<4611686018427387904):Ze Xs Ms Xw [(.d (.sl (l.map Zc.enc))),.clo VD [.ptr 0 0]] [.box [(.d (J pW)),(.d (J pH)),(.d (.bool pT)),(.d (J pK))]]=some ((.d (J (WN 0 l (Pane.mk pW pH pT pK)))),[.box [(.d (J pW)),(.d (J pH)),(.d (.bool pT)),(.d (J pK))]]):=by
 refine cE ?_;simp +contextual -implicitDefEqProofs (maxSteps:=10^7) only[go_sem,seval,↓gZ,WE];refine LO (α:=Nat) (fun k=>[(8,.d (J (k:Int)))]) (fun _=>[]) (fun k=>k≤l.length∧WN k (l.drop k) (Pane.mk pW pH pT pK)=WN 0 l (Pane.mk pW pH pT pK)) (fun k=>l.length-k) 0 ⟨by omega,rfl⟩ ?_;intro k ⟨hk,hp⟩ ih;by_cases aa:k<l.length
 ·obtain⟨x,hx⟩:=Zs aa;rw[Zx4 hx] at hp;have hw:=Zj (k:=k) (by omega);have e1:=Znj x.Pane.W x.Pane.H x.Pane.Turns x.Pane.Kind x.Count pW pH pT pK;obtain⟨⟨W,H,T,K⟩,C⟩:=x;simp only at hp e1;by_cases h:(⟨W,H,T,K⟩:Pane)=(Pane.mk pW pH pT pK)
  ·rw[Kh h] at hp;rw[Ki h] at e1;simp +contextual -implicitDefEqProofs (maxSteps:=10^7) only[go_sem,seval,↓gZ,hx,aa,hw,e1];rw[← hp]
  ·rw[Ke h] at hp;rw[Kk h] at e1;simp +contextual -implicitDefEqProofs (maxSteps:=10^7) only[go_sem,seval,↓gZ,hx,aa,hw,e1];refine ih (k+1) _ ⟨by omega,hp⟩ (by omega) ?_;simp +contextual -implicitDefEqProofs (maxSteps:=10^7) only[go_sem,seval,↓gZ]
 ·have:k=l.length:=by omega
  subst this;simp +contextual -implicitDefEqProofs (maxSteps:=10^7) only[go_sem,seval,↓gZ];rw[← hp];simp[WN]
theorem Zev (l:List Zc) (pW pH:Int) (pT:Bool) (pK:Int) (hl:l.length<4611686018427387904):Ze Xs Ms V0 [(.d (.sl (l.map Zc.enc))),(.d (.agg [J pW,J pH,.bool pT,J pK]))] []=some ((.d (J (WN 0 l (Pane.mk pW pH pT pK)))),[]):=by
 refine cE ?_;simp +contextual -implicitDefEqProofs (maxSteps:=10^7) only[go_sem,seval,↓gZ,Zgp,Zro l pW pH pT pK hl]
theorem Jr (l:List Zc):Ze Xs Ms XR [(.d (.sl (l.map Zc.enc)))] []=some ((.d (.bool (decide (ZaY l)))),[]):=by
 by_cases h8:(8:Int)<(l.length:Int)
 ·have hn:¬ZaY l:=fun h=>by have:=h.1;omega
  refine cE ?_;simp +contextual -implicitDefEqProofs (maxSteps:=10^7) only[go_sem,seval,↓gZ,ZaP,h8,hn]
 ·have ah:l.length≤8:=by omega
  refine cE ?_;simp +contextual -implicitDefEqProofs (maxSteps:=10^7) only[go_sem,seval,↓gZ,ZaP,h8];refine LO (α:=Nat) (fun i=>[(11,.d (J (i:Int))),(3,.d (J (24-UP (l.take i))))]) (fun _=>[]) (fun i=>i≤l.length∧(ZjC [] l↔ZjC ((l.take i).map Zc.Pane) (l.drop i))∧0≤UP (l.take i)∧UP (l.take i)≤24) (fun i=>l.length-i) 0 ⟨by simp,by simp,by simp[UP],by simp[UP]⟩ ?_;intro i ⟨hi,hp,aj,ae⟩ ih;by_cases aa:i<l.length
  ·obtain⟨x,hx⟩:=Zs aa;have hw:=Zj (k:=i) (by omega);rw[Ztp hx,← Zbm hx] at hp;have ev:=Zdn x.Pane.W x.Pane.H x.Pane.Turns x.Pane.Kind;have ef:=Zev l x.Pane.W x.Pane.H x.Pane.Turns x.Pane.Kind (by omega);have ab:=Zwo l 0 i x hx;have af:=Ztq hx;obtain⟨⟨W,H,T,K⟩,C⟩:=x;simp only[La] at hp ev ef ab af;by_cases hv:VP ⟨W,H,T,K⟩
   ·rw[Ki hv] at ev;by_cases hf:WN 0 l ⟨W,H,T,K⟩=(i:Int)
    ·rw[hf] at ef;by_cases ad:C<1
     ·have hn:¬ZaY l:=fun h=>by have:=(hp.1 h.2.1).2.2.1;omega
      simp +contextual -implicitDefEqProofs (maxSteps:=10^7) only[go_sem,seval,↓gZ,hx,aa,hw,ev,ef,ad,hn]
     ·by_cases ag:24-UP (l.take i)<C
      ·have hn:¬ZaY l:=fun h=>by
        have:=Zwn (l:=l) (i:=i+1) (fun x hx=>(ZpW h.2.1 x hx).2.1);have:=h.2.2;omega
       simp +contextual -implicitDefEqProofs (maxSteps:=10^7) only[go_sem,seval,↓gZ,hx,aa,hw,ev,ef,ad,ag,hn]
      ·have ai:=wi (24-UP (l.take i)-C) (by omega) (by omega);simp +contextual -implicitDefEqProofs (maxSteps:=10^7) only[go_sem,seval,↓gZ,hx,aa,hw,ev,ef,ad,ag,ai];refine ih (i+1) _ ⟨by omega,?_,by omega,by omega⟩ (by omega) ?_
       ·rw[hp];exact⟨fun h=>h.2.2.2.2,fun h=>⟨hv,ab.1 hf,by omega,by omega,h⟩⟩
       ·simp +contextual -implicitDefEqProofs (maxSteps:=10^7) only[go_sem,seval,↓gZ,af];try (simp;omega)
    ·have hn:¬ZaY l:=fun h=>hf (ab.2 (hp.1 h.2.1).2.1);simp +contextual -implicitDefEqProofs (maxSteps:=10^7) only[go_sem,seval,↓gZ,hx,aa,hw,ev,ef,hf,hn]
   ·rw[Kk hv] at ev;have hn:¬ZaY l:=fun h=>hv (hp.1 h.2.1).1;simp +contextual -implicitDefEqProofs (maxSteps:=10^7) only[go_sem,seval,↓gZ,hx,aa,hw,ev,hn]
  ·have:i=l.length:=by omega
   subst this;rw[KN (Kt _)] at ae;have hy:ZaY l:=⟨ah,hp.2 Zwl,ae⟩
   simp +contextual -implicitDefEqProofs (maxSteps:=10^7) only[go_sem,seval,↓gZ,hy]
theorem ZpY (l:List Zc) (hv:ZaY l):Ze Xs Ms Ja [(.d (.sl (l.map Zc.enc)))] []=some ((.d (J (ZaZ l))),[]):=by
 have ev:=Jr l;rw[Ki hv] at ev;have h8:=hv.1;have aa:=QO hv;clear hv;refine cE ?_;simp +contextual -implicitDefEqProofs (maxSteps:=10^7) only[go_sem,seval,↓gZ,ZeB,ev];refine LO (α:=Nat) (fun i=>[(11,.d (J (i:Int))),(3,.d (J (ZaZ (l.take i))))]) (fun _=>[]) (fun i=>i≤l.length) (fun i=>l.length-i) 0 (by omega) ?_;intro i hi ih;by_cases ab:i<l.length
 ·obtain⟨x,hx⟩:=Zs ab;have hw:=Zj (k:=i) (by omega);have hm:=Ztr hx;have ad:=Zf9 (l:=l.take i) (fun y hy=>aa y (K0 hy));have ae:(l.take i).length≤i:=by simp;omega
  have g5:=Zfp (aa x (Kc hx));obtain⟨⟨W,H,T,K⟩,C⟩:=x;simp only at g5 hm;have u0:=wi (C*W) (by omega) (by omega);have u1:=wi (C*W*H) (by omega) (by omega);have u2:=wi (ZaZ (l.take i)+C*W*H) (by omega) (by omega);simp +contextual -implicitDefEqProofs (maxSteps:=10^7) only[go_sem,seval,↓gZ,hx,ab,hw,u0,u1,u2];refine ih (i+1) _ (by omega) (by omega) ?_;simp +contextual -implicitDefEqProofs (maxSteps:=10^7) only[go_sem,seval,↓gZ,hm]
 ·have:i=l.length:=by omega
  subst this;simp +contextual -implicitDefEqProofs (maxSteps:=10^7) only[go_sem,seval,↓gZ];simp
theorem ZgI (l:List Zc) (hl:l.length≤1000000):Ze Xs Ms Vz [(.d (.sl (l.map Zc.enc)))] []=some ((.d (.bool (decide (ZaY l)))),[]):=by
 refine cE ?_;simp +contextual -implicitDefEqProofs (maxSteps:=10^7) only[go_sem,seval,↓gZ,ZdK];refine LO (α:=Nat) (fun i=>[(4,.d (J (i:Int))),(3,.d (J (UP (l.take i))))]) (fun _=>[]) (fun i=>i≤l.length∧(ZjC [] l↔ZjC ((l.take i).map Zc.Pane) (l.drop i))∧0≤UP (l.take i)∧UP (l.take i)≤24*i) (fun i=>l.length-i) 0 ⟨by simp,by simp,by simp[UP],by simp[UP]⟩ ?_;intro i ⟨hi,hp,al,am⟩ ih;by_cases aa:i<l.length
 ·obtain⟨x,hx⟩:=Zs aa;have hw:=Zj (k:=i) (by omega);rw[Ztp hx,← Zbm hx] at hp;have ev:=Vo x.Pane.W x.Pane.H x.Pane.Turns x.Pane.Kind;have ae:=Ztq hx;obtain⟨⟨W,H,T,K⟩,C⟩:=x;simp only at hp ev ae;by_cases hv:VP ⟨W,H,T,K⟩
  ·rw[Ki hv] at ev;by_cases hC:1≤C∧C≤24
   ·have er:=Zv C 1 24;rw[Ki hC] at er;simp +contextual -implicitDefEqProofs (maxSteps:=10^7) only[go_sem,seval,↓gZ,hx,aa,hw,ev,er];refine Zh5 Xs Ms (st0:=?st1) (α:=Nat) (fun k=>[(5,.d (J (k:Int)))]) (fun _=>[]) (fun k=>k≤i∧(⟨W,H,T,K⟩:Pane)∉(l.take k).map Zc.Pane) (fun k=>i-k) 0 ?hc2 ⟨by omega,by simp⟩ ?h02 ?step2
    case hc2=>simp +contextual -implicitDefEqProofs (maxSteps:=10^7) only[go_sem,seval,↓gZ]<;>exact rfl
    case h02=>rfl
    case step2=>
     intro k ⟨hk,hq⟩ ai;by_cases ab:k<i
     ·obtain⟨y,hy⟩:=Zs (l:=l) (k:=k) (by omega);have af:k<l.length:=by omega
      have ag:=Zj (k:=k) (by omega);have ah:=Zbm hy;obtain⟨⟨W',H',T',K'⟩,C'⟩:=y;simp only at ah;by_cases he:(⟨W',H',T',K'⟩:Pane)=⟨W,H,T,K⟩
      ·have ad:(⟨W,H,T,K⟩:Pane)∈(l.take i).map Zc.Pane:=by
        rw[← he];have h3:(l.take i)[k]?=some ⟨⟨W',H',T',K'⟩,C'⟩:=by rw[List.getElem?_take_of_lt ab];exact hy
        exact Ld.2 ⟨_,Kc h3,rfl⟩
       have hn:¬ZaY l:=fun h=>(hp.1 h.2.1).2.1 ad;simp only[Pane.mk.injEq] at he;simp +contextual -implicitDefEqProofs (maxSteps:=10^7) only[go_sem,seval,↓gZ,hx,aa,hw,hy,ab,af,ag,he,hn]
      ·have aj:=he;simp only[Pane.mk.injEq] at he;simp +contextual -implicitDefEqProofs (maxSteps:=10^7) only[go_sem,seval,↓gZ,hx,aa,hw,hy,ab,af,ag,he];refine ai (k+1) _ ⟨by omega,?_⟩ (by omega) ?_
       ·rw[ah,Kg];intro h;rcases h with h | h
        ·exact hq h
        ·exact aj (KC.1 h).symm
       ·simp +contextual -implicitDefEqProofs (maxSteps:=10^7) only[go_sem,seval,↓gZ]
     ·have:k=i:=by omega
      subst this;have ak:=wi (UP (l.take k)+C) (by omega) (by omega);simp +contextual -implicitDefEqProofs (maxSteps:=10^7) only[go_sem,seval,↓gZ,hx,aa,hw,ab,ak];refine ih (k+1) _ ⟨by omega,?_,by omega,by omega⟩ (by omega) ?_
      ·rw[hp];exact⟨fun h=>h.2.2.2.2,fun h=>⟨hv,hq,hC.1,hC.2,h⟩⟩
      ·simp +contextual -implicitDefEqProofs (maxSteps:=10^7) only[go_sem,seval,↓gZ,ae]
   ·have er:=Zv C 1 24;rw[Kk hC] at er;have hn:¬ZaY l:=fun h=>hC ⟨(hp.1 h.2.1).2.2.1,(hp.1 h.2.1).2.2.2.1⟩;simp +contextual -implicitDefEqProofs (maxSteps:=10^7) only[go_sem,seval,↓gZ,hx,aa,hw,ev,er,hn]
  ·rw[Kk hv] at ev;have hn:¬ZaY l:=fun h=>hv (hp.1 h.2.1).1;simp +contextual -implicitDefEqProofs (maxSteps:=10^7) only[go_sem,seval,↓gZ,hx,aa,hw,ev,hn]
 ·have:i=l.length:=by omega
  subst this;have hs:=hp.2 Zwl;rw[KN (Kt _)];simp +contextual -implicitDefEqProofs (maxSteps:=10^7) only[go_sem,seval,↓gZ];exact ZdW (by simp only[ZaY];constructor<;>(intro h;first | exact⟨by omega,hs,by omega⟩ | (have:=h.1;have:=h.2.2;omega)))
end Go.Proofs.YtcefneehgbiebaaGreatDoor
