/- Own text. -/
import Derived.Test.YtcefneehgbiebaaGreatDoorACode
import Derived.Test.YtcefneehgbiebaaGreatDoorAbsParts
import Derived.Test.YtcefneehgbiebaaGreatDoorAC1
namespace Go.Proofs.YtcefneehgbiebaaGreatDoor
open Go Go.Abs Go.Abs.E Go.Abs.L
open Nat (reduceMul reduceSub reduceLeDiff reduceEqDiff)
open Int (reduceLE reduceEq reduceToNat reduceNeg)
set_option linter.unusedSimpArgs false
set_option linter.unusedVariables false
set_option maxRecDepth 20000
set_option maxHeartbeats 4000000
def Zli:List Pane→List Zc→Prop
 | _,[]=>True
 | q,x :: l=>VP x.Pane∧x.Pane∉q∧1≤x.Count∧x.Count≤24∧Zli (q++[x.Pane]) l
instance ordGdec:∀ (q:List Pane) (l:List Zc),Decidable (Zli q l)
 | _,[]=>.isTrue trivial
 | q,x :: l=>by
  unfold Zli;have:=ordGdec (q++[x.Pane]) l
  infer_instance
def UV:List Zc→Int
 | []=>0
 | x :: l=>x.Count+UV l
def Za9 (l:List Zc):Prop:=l.length≤8∧Zli [] l∧UV l≤24
instance (l:List Zc):Decidable (Za9 l):=by unfold Za9;infer_instance
theorem Zs3 {l:List Zc} {k:Nat} {x:Zc} {q:List Pane} (hx:l[k]?=some x):Zli q (l.drop k)↔VP x.Pane∧x.Pane∉q∧1≤x.Count∧x.Count≤24∧Zli (q++[x.Pane]) (l.drop (k+1)):=by
 obtain⟨h1,h2⟩:=Kb.1 hx;rw[Kx h1,h2,Zli]
theorem Zvp {l:List Zc} {q:List Pane}:Zli q (l.drop l.length):=by simp[Zli]
theorem Zba {l:List Zc} {k:Nat} {x:Zc} (hx:l[k]?=some x):(l.take (k+1)).map Zc.Pane=(l.take k).map Zc.Pane++[x.Pane]:=by
 rw[KP,hx];simp
theorem Zoy (a b:List Zc):UV (a++b)=UV a+UV b:=by
 induction a with
 | nil=>simp[UV]
 | cons c l ih=>simp only[Kv,UV,ih];omega
theorem Zs4 {l:List Zc} {i:Nat} {x:Zc} (hx:l[i]?=some x):UV (l.take (i+1))=UV (l.take i)+x.Count:=by
 rw[KP,hx,Zoy];simp[UV]
theorem Zqk:∀ {l:List Zc} {q:List Pane},Zli q l→∀ x∈l,VP x.Pane∧1≤x.Count∧x.Count≤24
 | [],_,_,x,hx=>by simp at hx
 | y :: l,q,h,x,hx=>by
  rcases Ke.1 hx with rfl | hx
  ·exact⟨h.1,h.2.2.1,h.2.2.2.1⟩
  ·exact Zqk h.2.2.2.2 x hx
theorem Zvq:∀ {l:List Zc},(∀ x∈l,1≤x.Count)→0≤UV l
 | [],_=>by simp[UV]
 | x :: l,h=>by
  have h1:=h x (by simp);have h2:=Zvq (l:=l) fun y hy=>h y (by simp[hy]);simp only[UV];omega
theorem Zvr {l:List Zc} {i:Nat} (h:∀ x∈l,1≤x.Count):UV (l.take i)≤UV l:=by
 have e:UV l=UV (l.take i)+UV (l.drop i):=by rw[← Zoy,LX]
 have:=Zvq (l:=l.drop i) fun y hy=>h y (LE hy);omega
def WM:Nat→List Zc→Pane→Int
 | _,[],_=>-1
 | k,x :: l,p=>if x.Pane=p then (k:Int) else WM (k+1) l p
theorem Zw4 {l:List Zc} {k:Nat} {x:Zc} {p:Pane} (hx:l[k]?=some x):WM k (l.drop k) p=if x.Pane=p then (k:Int) else WM (k+1) (l.drop (k+1)) p:=by
 obtain⟨h1,h2⟩:=Kb.1 hx;rw[Kx h1,h2,WM]
theorem Zvs:∀ (l:List Zc) (k i:Nat) (x:Zc),l[i]?=some x→(WM k l x.Pane=((k+i:Nat):Int)↔x.Pane∉(l.take i).map Zc.Pane)
 | [],k,i,x,h=>by simp at h
 | y :: l,k,0,x,h=>by
  simp only[Lm,Option.some.injEq] at h;subst h;simp[WM]
 | y :: l,k,i+1,x,h=>by
  simp only[Ln] at h;have ih:=Zvs l (k+1) i x h;simp only[WM,LK,Kk,Ke,not_or];split
  ·rename_i e;constructor
   ·intro h;omega
   ·intro h;exact absurd e.symm h.1
  ·rename_i e;rw[show k+1+i=k+(i+1) by omega] at ih;rw[ih];exact⟨fun h=>⟨fun e'=>e e'.symm,h⟩,fun h=>h.2⟩
def Za0:List Zc→Int
 | []=>0
 | x :: l=>x.Count*x.Pane.W*x.Pane.H+Za0 l
theorem Zvt (a b:List Zc):Za0 (a++b)=Za0 a+Za0 b:=by
 induction a with
 | nil=>simp[Za0]
 | cons c l ih=>simp only[Kv,Za0,ih];omega
theorem Zs5 {l:List Zc} {i:Nat} {x:Zc} (hx:l[i]?=some x):Za0 (l.take (i+1))=Za0 (l.take i)+x.Count*x.Pane.W*x.Pane.H:=by
 rw[KP,hx,Zvt];simp[Za0]
theorem Zff {x:Zc} (h:VP x.Pane∧1≤x.Count∧x.Count≤24):0≤x.Count*x.Pane.W∧x.Count*x.Pane.W≤4800∧0≤x.Count*x.Pane.W*x.Pane.H∧x.Count*x.Pane.W*x.Pane.H≤960000:=by
 obtain⟨h1,h2,h3⟩:=h;simp only[VP] at h1;have a1:0≤x.Count*x.Pane.W:=LY (by omega) (by omega);have a2:x.Count*x.Pane.W≤24*200:=LZ (by omega) (by omega) (by omega) (by omega);have a3:0≤x.Count*x.Pane.W*x.Pane.H:=LY (by omega) (by omega);have a4:x.Count*x.Pane.W*x.Pane.H≤4800*200:=LZ (by omega) (by omega) (by omega) (by omega);omega
theorem Zgb:∀ {l:List Zc},(∀ x∈l,VP x.Pane∧1≤x.Count∧x.Count≤24)→0≤Za0 l∧Za0 l≤960000*l.length
 | [],_=>by simp[Za0]
 | x :: l,h=>by
  have h1:=Zff (h x (by simp));have h2:=Zgb (l:=l) fun y hy=>h y (by simp[hy]);simp only[Za0,Ko];omega
theorem XO {l:List Zc} (h:Za9 l):∀ x∈l,VP x.Pane∧1≤x.Count∧x.Count≤24:=Zqk h.2.1
theorem Zql {l:List Zc} (h:Za9 l):0≤Za0 l∧Za0 l≤7680000:=by
 have h1:=Zgb (XO h);have:=h.1;omega
theorem Zpm (qW qH:Int) (qT:Bool) (qK qC:Int) (pW pH:Int) (pT:Bool) (pK:Int):Ze Xs Ms VD [(.d (.agg [J qW,J qH,.bool qT,J qK,J qC])),.ptr 0 0] [.box [(.d (J pW)),(.d (J pH)),(.d (.bool pT)),(.d (J pK))]]=some ((.d (.bool (decide ((Pane.mk qW qH qT qK)=(Pane.mk pW pH pT pK))))),[.box [(.d (J pW)),(.d (J pH)),(.d (.bool pT)),(.d (J pK))]]):=by
 refine cE ?_;simp +contextual -implicitDefEqProofs (maxSteps:=10^7) only[go_sem,seval,↓gZ,Zdw];try exact ZdH (by simp only[Pane.mk.injEq,and_assoc])
theorem Zsr (l:List Zc) (pW pH:Int) (pT:Bool) (pK:Int) (hl:l.length<4611686018427387904):Ze Xs Ms Xt [(.d (.sl (l.map Zc.enc))),.clo VD [.ptr 0 0]] [.box [(.d (J pW)),(.d (J pH)),(.d (.bool pT)),(.d (J pK))]]=some ((.d (J (WM 0 l (Pane.mk pW pH pT pK)))),[.box [(.d (J pW)),(.d (J pH)),(.d (.bool pT)),(.d (J pK))]]):=by
 refine cE ?_;simp +contextual -implicitDefEqProofs (maxSteps:=10^7) only[go_sem,seval,↓gZ,WJ];refine LO (α:=Nat) (fun k=>[(8,.d (J (k:Int)))]) (fun _=>[]) (fun k=>k≤l.length∧WM k (l.drop k) (Pane.mk pW pH pT pK)=WM 0 l (Pane.mk pW pH pT pK)) (fun k=>l.length-k) 0 ⟨by omega,rfl⟩ ?_;intro k ⟨hk,hp⟩ ih;by_cases aa:k<l.length
 ·obtain⟨x,hx⟩:=Zq aa;rw[Zw4 hx] at hp;have hw:=Zj (k:=k) (by omega);have e1:=Zpm x.Pane.W x.Pane.H x.Pane.Turns x.Pane.Kind x.Count pW pH pT pK;obtain⟨⟨W,H,T,K⟩,C⟩:=x;simp only at hp e1;by_cases h:(⟨W,H,T,K⟩:Pane)=(Pane.mk pW pH pT pK)
  ·rw[Kh h] at hp;rw[Ki h] at e1;simp +contextual -implicitDefEqProofs (maxSteps:=10^7) only[go_sem,seval,↓gZ,hx,aa,hw,e1];rw[← hp]
  ·rw[Kd h] at hp;rw[Kj h] at e1;simp +contextual -implicitDefEqProofs (maxSteps:=10^7) only[go_sem,seval,↓gZ,hx,aa,hw,e1];refine ih (k+1) _ ⟨by omega,hp⟩ (by omega) ?_;simp +contextual -implicitDefEqProofs (maxSteps:=10^7) only[go_sem,seval,↓gZ]
 ·have:k=l.length:=by omega
  subst this;simp +contextual -implicitDefEqProofs (maxSteps:=10^7) only[go_sem,seval,↓gZ];rw[← hp];simp[WM]
theorem Zew (l:List Zc) (pW pH:Int) (pT:Bool) (pK:Int) (hl:l.length<4611686018427387904):Ze Xs Ms V1 [(.d (.sl (l.map Zc.enc))),(.d (.agg [J pW,J pH,.bool pT,J pK]))] []=some ((.d (J (WM 0 l (Pane.mk pW pH pT pK)))),[]):=by
 refine cE ?_;simp +contextual -implicitDefEqProofs (maxSteps:=10^7) only[go_sem,seval,↓gZ,Zgs,Zsr l pW pH pT pK hl]
theorem Zb8 (l:List Zc):Ze Xs Ms Ys [(.d (.sl (l.map Zc.enc)))] []=some ((.d (.bool (decide (Za9 l)))),[]):=by
 by_cases h8:(8:Int)<(l.length:Int)
 ·have hn:¬Za9 l:=fun h=>by have:=h.1;omega
  refine cE ?_;simp +contextual -implicitDefEqProofs (maxSteps:=10^7) only[go_sem,seval,↓gZ,ZaA,h8,hn]
 ·have ah:l.length≤8:=by omega
  refine cE ?_;simp +contextual -implicitDefEqProofs (maxSteps:=10^7) only[go_sem,seval,↓gZ,ZaA,h8];refine LO (α:=Nat) (fun i=>[(11,.d (J (i:Int))),(3,.d (J (24-UV (l.take i))))]) (fun _=>[]) (fun i=>i≤l.length∧(Zli [] l↔Zli ((l.take i).map Zc.Pane) (l.drop i))∧0≤UV (l.take i)∧UV (l.take i)≤24) (fun i=>l.length-i) 0 ⟨by simp,by simp,by simp[UV],by simp[UV]⟩ ?_;intro i ⟨hi,hp,aj,ae⟩ ih;by_cases aa:i<l.length
  ·obtain⟨x,hx⟩:=Zq aa;have hw:=Zj (k:=i) (by omega);rw[Zs3 hx,← Zba hx] at hp;have ev:=Zc5 x.Pane.W x.Pane.H x.Pane.Turns x.Pane.Kind;have ef:=Zew l x.Pane.W x.Pane.H x.Pane.Turns x.Pane.Kind (by omega);have ab:=Zvs l 0 i x hx;have af:=Zs4 hx;obtain⟨⟨W,H,T,K⟩,C⟩:=x;simp only[K5] at hp ev ef ab af;by_cases hv:VP ⟨W,H,T,K⟩
   ·rw[Ki hv] at ev;by_cases hf:WM 0 l ⟨W,H,T,K⟩=(i:Int)
    ·rw[hf] at ef;by_cases ad:C<1
     ·have hn:¬Za9 l:=fun h=>by have:=(hp.1 h.2.1).2.2.1;omega
      simp +contextual -implicitDefEqProofs (maxSteps:=10^7) only[go_sem,seval,↓gZ,hx,aa,hw,ev,ef,ad,hn]
     ·by_cases ag:24-UV (l.take i)<C
      ·have hn:¬Za9 l:=fun h=>by
        have:=Zvr (l:=l) (i:=i+1) (fun x hx=>(Zqk h.2.1 x hx).2.1);have:=h.2.2;omega
       simp +contextual -implicitDefEqProofs (maxSteps:=10^7) only[go_sem,seval,↓gZ,hx,aa,hw,ev,ef,ad,ag,hn]
      ·have ai:=wi (24-UV (l.take i)-C) (by omega) (by omega);simp +contextual -implicitDefEqProofs (maxSteps:=10^7) only[go_sem,seval,↓gZ,hx,aa,hw,ev,ef,ad,ag,ai];refine ih (i+1) _ ⟨by omega,?_,by omega,by omega⟩ (by omega) ?_
       ·rw[hp];exact⟨fun h=>h.2.2.2.2,fun h=>⟨hv,ab.1 hf,by omega,by omega,h⟩⟩
       ·simp +contextual -implicitDefEqProofs (maxSteps:=10^7) only[go_sem,seval,↓gZ,af];try (simp;omega)
    ·have hn:¬Za9 l:=fun h=>hf (ab.2 (hp.1 h.2.1).2.1);simp +contextual -implicitDefEqProofs (maxSteps:=10^7) only[go_sem,seval,↓gZ,hx,aa,hw,ev,ef,hf,hn]
   ·rw[Kj hv] at ev;have hn:¬Za9 l:=fun h=>hv (hp.1 h.2.1).1;simp +contextual -implicitDefEqProofs (maxSteps:=10^7) only[go_sem,seval,↓gZ,hx,aa,hw,ev,hn]
  ·have:i=l.length:=by omega
   subst this;rw[KH (Kt _)] at ae;have hy:Za9 l:=⟨ah,hp.2 Zvp,ae⟩
   simp +contextual -implicitDefEqProofs (maxSteps:=10^7) only[go_sem,seval,↓gZ,hy]
theorem Zqm (l:List Zc) (hv:Za9 l):Ze Xs Ms U9 [(.d (.sl (l.map Zc.enc)))] []=some ((.d (J (Za0 l))),[]):=by
 have ev:=Zb8 l;rw[Ki hv] at ev;have h8:=hv.1;have aa:=XO hv;clear hv;refine cE ?_;simp +contextual -implicitDefEqProofs (maxSteps:=10^7) only[go_sem,seval,↓gZ,ZeD,ev];refine LO (α:=Nat) (fun i=>[(11,.d (J (i:Int))),(3,.d (J (Za0 (l.take i))))]) (fun _=>[]) (fun i=>i≤l.length) (fun i=>l.length-i) 0 (by omega) ?_;intro i hi ih;by_cases ab:i<l.length
 ·obtain⟨x,hx⟩:=Zq ab;have hw:=Zj (k:=i) (by omega);have hm:=Zs5 hx;have ad:=Zgb (l:=l.take i) (fun y hy=>aa y (K6 hy));have ae:(l.take i).length≤i:=by simp;omega
  have g5:=Zff (aa x (Kc hx));obtain⟨⟨W,H,T,K⟩,C⟩:=x;simp only at g5 hm;have u0:=wi (C*W) (by omega) (by omega);have u1:=wi (C*W*H) (by omega) (by omega);have u2:=wi (Za0 (l.take i)+C*W*H) (by omega) (by omega);simp +contextual -implicitDefEqProofs (maxSteps:=10^7) only[go_sem,seval,↓gZ,hx,ab,hw,u0,u1,u2];refine ih (i+1) _ (by omega) (by omega) ?_;simp +contextual -implicitDefEqProofs (maxSteps:=10^7) only[go_sem,seval,↓gZ,hm]
 ·have:i=l.length:=by omega
  subst this;simp +contextual -implicitDefEqProofs (maxSteps:=10^7) only[go_sem,seval,↓gZ];simp
theorem Zhg (l:List Zc) (hl:l.length≤1000000):Ze Xs Ms Vz [(.d (.sl (l.map Zc.enc)))] []=some ((.d (.bool (decide (Za9 l)))),[]):=by
 refine cE ?_;simp +contextual -implicitDefEqProofs (maxSteps:=10^7) only[go_sem,seval,↓gZ,Zdr];refine LO (α:=Nat) (fun i=>[(4,.d (J (i:Int))),(3,.d (J (UV (l.take i))))]) (fun _=>[]) (fun i=>i≤l.length∧(Zli [] l↔Zli ((l.take i).map Zc.Pane) (l.drop i))∧0≤UV (l.take i)∧UV (l.take i)≤24*i) (fun i=>l.length-i) 0 ⟨by simp,by simp,by simp[UV],by simp[UV]⟩ ?_;intro i ⟨hi,hp,al,am⟩ ih;by_cases aa:i<l.length
 ·obtain⟨x,hx⟩:=Zq aa;have hw:=Zj (k:=i) (by omega);rw[Zs3 hx,← Zba hx] at hp;have ev:=Vn x.Pane.W x.Pane.H x.Pane.Turns x.Pane.Kind;have ae:=Zs4 hx;obtain⟨⟨W,H,T,K⟩,C⟩:=x;simp only at hp ev ae;by_cases hv:VP ⟨W,H,T,K⟩
  ·rw[Ki hv] at ev;by_cases hC:1≤C∧C≤24
   ·have er:=Zv C 1 24;rw[Ki hC] at er;simp +contextual -implicitDefEqProofs (maxSteps:=10^7) only[go_sem,seval,↓gZ,hx,aa,hw,ev,er];refine ZgT Xs Ms (st0:=?st1) (α:=Nat) (fun k=>[(5,.d (J (k:Int)))]) (fun _=>[]) (fun k=>k≤i∧(⟨W,H,T,K⟩:Pane)∉(l.take k).map Zc.Pane) (fun k=>i-k) 0 ?hc2 ⟨by omega,by simp⟩ ?h02 ?step2
    case hc2=>simp +contextual -implicitDefEqProofs (maxSteps:=10^7) only[go_sem,seval,↓gZ]<;>exact rfl
    case h02=>rfl
    case step2=>
     intro k ⟨hk,hq⟩ ai;by_cases ab:k<i
     ·obtain⟨y,hy⟩:=Zq (l:=l) (k:=k) (by omega);have af:k<l.length:=by omega
      have ag:=Zj (k:=k) (by omega);have ah:=Zba hy;obtain⟨⟨W',H',T',K'⟩,C'⟩:=y;simp only at ah;by_cases he:(⟨W',H',T',K'⟩:Pane)=⟨W,H,T,K⟩
      ·have ad:(⟨W,H,T,K⟩:Pane)∈(l.take i).map Zc.Pane:=by
        rw[← he];have h3:(l.take i)[k]?=some ⟨⟨W',H',T',K'⟩,C'⟩:=by rw[List.getElem?_take_of_lt ab];exact hy
        exact La.2 ⟨_,Kc h3,rfl⟩
       have hn:¬Za9 l:=fun h=>(hp.1 h.2.1).2.1 ad;simp only[Pane.mk.injEq] at he;simp +contextual -implicitDefEqProofs (maxSteps:=10^7) only[go_sem,seval,↓gZ,hx,aa,hw,hy,ab,af,ag,he,hn]
      ·have aj:=he;simp only[Pane.mk.injEq] at he;simp +contextual -implicitDefEqProofs (maxSteps:=10^7) only[go_sem,seval,↓gZ,hx,aa,hw,hy,ab,af,ag,he];refine ai (k+1) _ ⟨by omega,?_⟩ (by omega) ?_
       ·rw[ah,Kg];intro h;rcases h with h | h
        ·exact hq h
        ·exact aj (KA.1 h).symm
       ·simp +contextual -implicitDefEqProofs (maxSteps:=10^7) only[go_sem,seval,↓gZ]
     ·have:k=i:=by omega
      subst this;have ak:=wi (UV (l.take k)+C) (by omega) (by omega);simp +contextual -implicitDefEqProofs (maxSteps:=10^7) only[go_sem,seval,↓gZ,hx,aa,hw,ab,ak];refine ih (k+1) _ ⟨by omega,?_,by omega,by omega⟩ (by omega) ?_
      ·rw[hp];exact⟨fun h=>h.2.2.2.2,fun h=>⟨hv,hq,hC.1,hC.2,h⟩⟩
      ·simp +contextual -implicitDefEqProofs (maxSteps:=10^7) only[go_sem,seval,↓gZ,ae]
   ·have er:=Zv C 1 24;rw[Kj hC] at er;have hn:¬Za9 l:=fun h=>hC ⟨(hp.1 h.2.1).2.2.1,(hp.1 h.2.1).2.2.2.1⟩;simp +contextual -implicitDefEqProofs (maxSteps:=10^7) only[go_sem,seval,↓gZ,hx,aa,hw,ev,er,hn]
  ·rw[Kj hv] at ev;have hn:¬Za9 l:=fun h=>hv (hp.1 h.2.1).1;simp +contextual -implicitDefEqProofs (maxSteps:=10^7) only[go_sem,seval,↓gZ,hx,aa,hw,ev,hn]
 ·have:i=l.length:=by omega
  subst this;have hs:=hp.2 Zvp;rw[KH (Kt _)];simp +contextual -implicitDefEqProofs (maxSteps:=10^7) only[go_sem,seval,↓gZ];exact ZdH (by simp only[Za9];constructor<;>(intro h;first | exact⟨by omega,hs,by omega⟩ | (have:=h.1;have:=h.2.2;omega)))
end Go.Proofs.YtcefneehgbiebaaGreatDoor
