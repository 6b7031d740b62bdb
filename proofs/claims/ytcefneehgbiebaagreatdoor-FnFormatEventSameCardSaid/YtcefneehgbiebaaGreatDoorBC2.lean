/- Own text. -/
import Derived.Test.YtcefneehgbiebaaGreatDoorBCode
import Derived.Test.YtcefneehgbiebaaGreatDoorAbsParts
import Derived.Test.YtcefneehgbiebaaGreatDoorBC1
namespace Go.Proofs.YtcefneehgbiebaaGreatDoor
open Go Go.Abs Go.Abs.E Go.Abs.L
open Nat (reduceMul reduceSub reduceLeDiff reduceEqDiff)
open Int (reduceLE reduceEq reduceToNat reduceNeg)
set_option linter.unusedSimpArgs false
set_option linter.unusedVariables false
set_option maxRecDepth 20000
set_option maxHeartbeats 4000000
def ZiX:List Pane→List Zc→Prop
 | _,[]=>True
 | q,x :: l=>VP x.Pane∧x.Pane∉q∧1≤x.Count∧x.Count≤24∧ZiX (q++[x.Pane]) l
instance ordGdec:∀ (q:List Pane) (l:List Zc),Decidable (ZiX q l)
 | _,[]=>.isTrue trivial
 | q,x :: l=>by
  unfold ZiX;have:=ordGdec (q++[x.Pane]) l
  infer_instance
def Ut:List Zc→Int
 | []=>0
 | x :: l=>x.Count+Ut l
def ZaR (l:List Zc):Prop:=l.length≤8∧ZiX [] l∧Ut l≤24
instance (l:List Zc):Decidable (ZaR l):=by unfold ZaR;infer_instance
theorem Zsk {l:List Zc} {k:Nat} {x:Zc} {q:List Pane} (hx:l[k]?=some x):ZiX q (l.drop k)↔VP x.Pane∧x.Pane∉q∧1≤x.Count∧x.Count≤24∧ZiX (q++[x.Pane]) (l.drop (k+1)):=by
 obtain⟨h1,h2⟩:=Kb.1 hx;rw[Kw h1,h2,ZiX]
theorem Zvb {l:List Zc} {q:List Pane}:ZiX q (l.drop l.length):=by simp[ZiX]
theorem ZaS {l:List Zc} {k:Nat} {x:Zc} (hx:l[k]?=some x):(l.take (k+1)).map Zc.Pane=(l.take k).map Zc.Pane++[x.Pane]:=by
 rw[KU,hx];simp
theorem Zmb (a b:List Zc):Ut (a++b)=Ut a+Ut b:=by
 induction a with
 | nil=>simp[Ut]
 | cons c l ih=>simp only[KF,Ut,ih];omega
theorem Zsl {l:List Zc} {i:Nat} {x:Zc} (hx:l[i]?=some x):Ut (l.take (i+1))=Ut (l.take i)+x.Count:=by
 rw[KU,hx,Zmb];simp[Ut]
theorem Zo0:∀ {l:List Zc} {q:List Pane},ZiX q l→∀ x∈l,VP x.Pane∧1≤x.Count∧x.Count≤24
 | [],_,_,x,hx=>by simp at hx
 | y :: l,q,h,x,hx=>by
  rcases Kf.1 hx with rfl | hx
  ·exact⟨h.1,h.2.2.1,h.2.2.2.1⟩
  ·exact Zo0 h.2.2.2.2 x hx
theorem Zvc:∀ {l:List Zc},(∀ x∈l,1≤x.Count)→0≤Ut l
 | [],_=>by simp[Ut]
 | x :: l,h=>by
  have h1:=h x (by simp);have h2:=Zvc (l:=l) fun y hy=>h y (by simp[hy]);simp only[Ut];omega
theorem Zvd {l:List Zc} {i:Nat} (h:∀ x∈l,1≤x.Count):Ut (l.take i)≤Ut l:=by
 have e:Ut l=Ut (l.take i)+Ut (l.drop i):=by rw[← Zmb,LQ]
 have:=Zvc (l:=l.drop i) fun y hy=>h y (LA hy);omega
def Wx:Nat→List Zc→Pane→Int
 | _,[],_=>-1
 | k,x :: l,p=>if x.Pane=p then (k:Int) else Wx (k+1) l p
theorem ZwR {l:List Zc} {k:Nat} {x:Zc} {p:Pane} (hx:l[k]?=some x):Wx k (l.drop k) p=if x.Pane=p then (k:Int) else Wx (k+1) (l.drop (k+1)) p:=by
 obtain⟨h1,h2⟩:=Kb.1 hx;rw[Kw h1,h2,Wx]
theorem Zve:∀ (l:List Zc) (k i:Nat) (x:Zc),l[i]?=some x→(Wx k l x.Pane=((k+i:Nat):Int)↔x.Pane∉(l.take i).map Zc.Pane)
 | [],k,i,x,h=>by simp at h
 | y :: l,k,0,x,h=>by
  simp only[Lk,Option.some.injEq] at h;subst h;simp[Wx]
 | y :: l,k,i+1,x,h=>by
  simp only[Ll] at h;have ih:=Zve l (k+1) i x h;simp only[Wx,LG,Kj,Kf,not_or];split
  ·rename_i e;constructor
   ·intro h;omega
   ·intro h;exact absurd e.symm h.1
  ·rename_i e;rw[show k+1+i=k+(i+1) by omega] at ih;rw[ih];exact⟨fun h=>⟨fun e'=>e e'.symm,h⟩,fun h=>h.2⟩
def Zat:List Zc→Int
 | []=>0
 | x :: l=>x.Count*x.Pane.W*x.Pane.H+Zat l
theorem Zvf (a b:List Zc):Zat (a++b)=Zat a+Zat b:=by
 induction a with
 | nil=>simp[Zat]
 | cons c l ih=>simp only[KF,Zat,ih];omega
theorem Zsm {l:List Zc} {i:Nat} {x:Zc} (hx:l[i]?=some x):Zat (l.take (i+1))=Zat (l.take i)+x.Count*x.Pane.W*x.Pane.H:=by
 rw[KU,hx,Zvf];simp[Zat]
theorem ZeL {x:Zc} (h:VP x.Pane∧1≤x.Count∧x.Count≤24):0≤x.Count*x.Pane.W∧x.Count*x.Pane.W≤4800∧0≤x.Count*x.Pane.W*x.Pane.H∧x.Count*x.Pane.W*x.Pane.H≤960000:=by
 obtain⟨h1,h2,h3⟩:=h;simp only[VP] at h1;have a1:0≤x.Count*x.Pane.W:=LR (by omega) (by omega);have a2:x.Count*x.Pane.W≤24*200:=LS (by omega) (by omega) (by omega) (by omega);have a3:0≤x.Count*x.Pane.W*x.Pane.H:=LR (by omega) (by omega);have a4:x.Count*x.Pane.W*x.Pane.H≤4800*200:=LS (by omega) (by omega) (by omega) (by omega);omega
theorem Zfz:∀ {l:List Zc},(∀ x∈l,VP x.Pane∧1≤x.Count∧x.Count≤24)→0≤Zat l∧Zat l≤960000*l.length
 | [],_=>by simp[Zat]
 | x :: l,h=>by
  have h1:=ZeL (h x (by simp));have h2:=Zfz (l:=l) fun y hy=>h y (by simp[hy]);simp only[Zat,Ks];omega
theorem XK {l:List Zc} (h:ZaR l):∀ x∈l,VP x.Pane∧1≤x.Count∧x.Count≤24:=Zo0 h.2.1
theorem Zo1 {l:List Zc} (h:ZaR l):0≤Zat l∧Zat l≤7680000:=by
 have h1:=Zfz (XK h);have:=h.1;omega
theorem Zmq (qW qH:Int) (qT:Bool) (qK qC:Int) (pW pH:Int) (pT:Bool) (pK:Int):Ze Xs Ms Vq [(.d (.agg [J qW,J qH,.bool qT,J qK,J qC])),.ptr 0 0] [.box [(.d (J pW)),(.d (J pH)),(.d (.bool pT)),(.d (J pK))]]=some ((.d (.bool (decide ((Pane.mk qW qH qT qK)=(Pane.mk pW pH pT pK))))),[.box [(.d (J pW)),(.d (J pH)),(.d (.bool pT)),(.d (J pK))]]):=by
 refine cE ?_;simp +contextual -implicitDefEqProofs (maxSteps:=10^7) only[go_sem,seval,↓gZ,Zdc];try exact Zcs (by simp only[Pane.mk.injEq,and_assoc])
theorem Zqp (l:List Zc) (pW pH:Int) (pT:Bool) (pK:Int) (hl:l.length<4611686018427387904):Ze Xs Ms Xp [(.d (.sl (l.map Zc.enc))),.clo Vq [.ptr 0 0]] [.box [(.d (J pW)),(.d (J pH)),(.d (.bool pT)),(.d (J pK))]]=some ((.d (J (Wx 0 l (Pane.mk pW pH pT pK)))),[.box [(.d (J pW)),(.d (J pH)),(.d (.bool pT)),(.d (J pK))]]):=by
 refine cE ?_;simp +contextual -implicitDefEqProofs (maxSteps:=10^7) only[go_sem,seval,↓gZ,Wo];refine LO (α:=Nat) (fun k=>[(8,.d (J (k:Int)))]) (fun _=>[]) (fun k=>k≤l.length∧Wx k (l.drop k) (Pane.mk pW pH pT pK)=Wx 0 l (Pane.mk pW pH pT pK)) (fun k=>l.length-k) 0 ⟨by omega,rfl⟩ ?_;intro k ⟨hk,hp⟩ ih;by_cases aa:k<l.length
 ·obtain⟨x,hx⟩:=Zr aa;rw[ZwR hx] at hp;have hw:=Zj (k:=k) (by omega);have e1:=Zmq x.Pane.W x.Pane.H x.Pane.Turns x.Pane.Kind x.Count pW pH pT pK;obtain⟨⟨W,H,T,K⟩,C⟩:=x;simp only at hp e1;by_cases h:(⟨W,H,T,K⟩:Pane)=(Pane.mk pW pH pT pK)
  ·rw[Ki h] at hp;rw[Kh h] at e1;simp +contextual -implicitDefEqProofs (maxSteps:=10^7) only[go_sem,seval,↓gZ,hx,aa,hw,e1];rw[← hp]
  ·rw[Kd h] at hp;rw[Kk h] at e1;simp +contextual -implicitDefEqProofs (maxSteps:=10^7) only[go_sem,seval,↓gZ,hx,aa,hw,e1];refine ih (k+1) _ ⟨by omega,hp⟩ (by omega) ?_;simp +contextual -implicitDefEqProofs (maxSteps:=10^7) only[go_sem,seval,↓gZ]
 ·have:k=l.length:=by omega
  subst this;simp +contextual -implicitDefEqProofs (maxSteps:=10^7) only[go_sem,seval,↓gZ];rw[← hp];simp[Wx]
theorem ZdS (l:List Zc) (pW pH:Int) (pT:Bool) (pK:Int) (hl:l.length<4611686018427387904):Ze Xs Ms VL [(.d (.sl (l.map Zc.enc))),(.d (.agg [J pW,J pH,.bool pT,J pK]))] []=some ((.d (J (Wx 0 l (Pane.mk pW pH pT pK)))),[]):=by
 refine cE ?_;simp +contextual -implicitDefEqProofs (maxSteps:=10^7) only[go_sem,seval,↓gZ,ZfM,Zqp l pW pH pT pK hl]
theorem ZbH (l:List Zc):Ze Xs Ms Yl [(.d (.sl (l.map Zc.enc)))] []=some ((.d (.bool (decide (ZaR l)))),[]):=by
 by_cases h8:(8:Int)<(l.length:Int)
 ·have hn:¬ZaR l:=fun h=>by have:=h.1;omega
  refine cE ?_;simp +contextual -implicitDefEqProofs (maxSteps:=10^7) only[go_sem,seval,↓gZ,Zak,h8,hn]
 ·have ah:l.length≤8:=by omega
  refine cE ?_;simp +contextual -implicitDefEqProofs (maxSteps:=10^7) only[go_sem,seval,↓gZ,Zak,h8];refine LO (α:=Nat) (fun i=>[(11,.d (J (i:Int))),(3,.d (J (24-Ut (l.take i))))]) (fun _=>[]) (fun i=>i≤l.length∧(ZiX [] l↔ZiX ((l.take i).map Zc.Pane) (l.drop i))∧0≤Ut (l.take i)∧Ut (l.take i)≤24) (fun i=>l.length-i) 0 ⟨by simp,by simp,by simp[Ut],by simp[Ut]⟩ ?_;intro i ⟨hi,hp,aj,ae⟩ ih;by_cases aa:i<l.length
  ·obtain⟨x,hx⟩:=Zr aa;have hw:=Zj (k:=i) (by omega);rw[Zsk hx,← ZaS hx] at hp;have ev:=ZcN x.Pane.W x.Pane.H x.Pane.Turns x.Pane.Kind;have ef:=ZdS l x.Pane.W x.Pane.H x.Pane.Turns x.Pane.Kind (by omega);have ab:=Zve l 0 i x hx;have af:=Zsl hx;obtain⟨⟨W,H,T,K⟩,C⟩:=x;simp only[K2] at hp ev ef ab af;by_cases hv:VP ⟨W,H,T,K⟩
   ·rw[Kh hv] at ev;by_cases hf:Wx 0 l ⟨W,H,T,K⟩=(i:Int)
    ·rw[hf] at ef;by_cases ad:C<1
     ·have hn:¬ZaR l:=fun h=>by have:=(hp.1 h.2.1).2.2.1;omega
      simp +contextual -implicitDefEqProofs (maxSteps:=10^7) only[go_sem,seval,↓gZ,hx,aa,hw,ev,ef,ad,hn]
     ·by_cases ag:24-Ut (l.take i)<C
      ·have hn:¬ZaR l:=fun h=>by
        have:=Zvd (l:=l) (i:=i+1) (fun x hx=>(Zo0 h.2.1 x hx).2.1);have:=h.2.2;omega
       simp +contextual -implicitDefEqProofs (maxSteps:=10^7) only[go_sem,seval,↓gZ,hx,aa,hw,ev,ef,ad,ag,hn]
      ·have ai:=wi (24-Ut (l.take i)-C) (by omega) (by omega);simp +contextual -implicitDefEqProofs (maxSteps:=10^7) only[go_sem,seval,↓gZ,hx,aa,hw,ev,ef,ad,ag,ai];refine ih (i+1) _ ⟨by omega,?_,by omega,by omega⟩ (by omega) ?_
       ·rw[hp];exact⟨fun h=>h.2.2.2.2,fun h=>⟨hv,ab.1 hf,by omega,by omega,h⟩⟩
       ·simp +contextual -implicitDefEqProofs (maxSteps:=10^7) only[go_sem,seval,↓gZ,af];try (simp;omega)
    ·have hn:¬ZaR l:=fun h=>hf (ab.2 (hp.1 h.2.1).2.1);simp +contextual -implicitDefEqProofs (maxSteps:=10^7) only[go_sem,seval,↓gZ,hx,aa,hw,ev,ef,hf,hn]
   ·rw[Kk hv] at ev;have hn:¬ZaR l:=fun h=>hv (hp.1 h.2.1).1;simp +contextual -implicitDefEqProofs (maxSteps:=10^7) only[go_sem,seval,↓gZ,hx,aa,hw,ev,hn]
  ·have:i=l.length:=by omega
   subst this;rw[KH (Kr _)] at ae;have hy:ZaR l:=⟨ah,hp.2 Zvb,ae⟩
   simp +contextual -implicitDefEqProofs (maxSteps:=10^7) only[go_sem,seval,↓gZ,hy]
theorem Zo2 (l:List Zc) (hv:ZaR l):Ze Xs Ms UK [(.d (.sl (l.map Zc.enc)))] []=some ((.d (J (Zat l))),[]):=by
 have ev:=ZbH l;rw[Kh hv] at ev;have h8:=hv.1;have aa:=XK hv;clear hv;refine cE ?_;simp +contextual -implicitDefEqProofs (maxSteps:=10^7) only[go_sem,seval,↓gZ,ZdZ,ev];refine LO (α:=Nat) (fun i=>[(11,.d (J (i:Int))),(3,.d (J (Zat (l.take i))))]) (fun _=>[]) (fun i=>i≤l.length) (fun i=>l.length-i) 0 (by omega) ?_;intro i hi ih;by_cases ab:i<l.length
 ·obtain⟨x,hx⟩:=Zr ab;have hw:=Zj (k:=i) (by omega);have hm:=Zsm hx;have ad:=Zfz (l:=l.take i) (fun y hy=>aa y (K0 hy));have ae:(l.take i).length≤i:=by simp;omega
  have g5:=ZeL (aa x (Kc hx));obtain⟨⟨W,H,T,K⟩,C⟩:=x;simp only at g5 hm;have u0:=wi (C*W) (by omega) (by omega);have u1:=wi (C*W*H) (by omega) (by omega);have u2:=wi (Zat (l.take i)+C*W*H) (by omega) (by omega);simp +contextual -implicitDefEqProofs (maxSteps:=10^7) only[go_sem,seval,↓gZ,hx,ab,hw,u0,u1,u2];refine ih (i+1) _ (by omega) (by omega) ?_;simp +contextual -implicitDefEqProofs (maxSteps:=10^7) only[go_sem,seval,↓gZ,hm]
 ·have:i=l.length:=by omega
  subst this;simp +contextual -implicitDefEqProofs (maxSteps:=10^7) only[go_sem,seval,↓gZ];simp
theorem Zf7 (l:List Zc) (hl:l.length≤1000000):Ze Xs Ms Vn [(.d (.sl (l.map Zc.enc)))] []=some ((.d (.bool (decide (ZaR l)))),[]):=by
 refine cE ?_;simp +contextual -implicitDefEqProofs (maxSteps:=10^7) only[go_sem,seval,↓gZ,Zc8];refine LO (α:=Nat) (fun i=>[(4,.d (J (i:Int))),(3,.d (J (Ut (l.take i))))]) (fun _=>[]) (fun i=>i≤l.length∧(ZiX [] l↔ZiX ((l.take i).map Zc.Pane) (l.drop i))∧0≤Ut (l.take i)∧Ut (l.take i)≤24*i) (fun i=>l.length-i) 0 ⟨by simp,by simp,by simp[Ut],by simp[Ut]⟩ ?_;intro i ⟨hi,hp,al,am⟩ ih;by_cases aa:i<l.length
 ·obtain⟨x,hx⟩:=Zr aa;have hw:=Zj (k:=i) (by omega);rw[Zsk hx,← ZaS hx] at hp;have ev:=Ve x.Pane.W x.Pane.H x.Pane.Turns x.Pane.Kind;have ae:=Zsl hx;obtain⟨⟨W,H,T,K⟩,C⟩:=x;simp only at hp ev ae;by_cases hv:VP ⟨W,H,T,K⟩
  ·rw[Kh hv] at ev;by_cases hC:1≤C∧C≤24
   ·have er:=ZJ C 1 24;rw[Kh hC] at er;simp +contextual -implicitDefEqProofs (maxSteps:=10^7) only[go_sem,seval,↓gZ,hx,aa,hw,ev,er];refine Ze9 Xs Ms (st0:=?st1) (α:=Nat) (fun k=>[(5,.d (J (k:Int)))]) (fun _=>[]) (fun k=>k≤i∧(⟨W,H,T,K⟩:Pane)∉(l.take k).map Zc.Pane) (fun k=>i-k) 0 ?hc2 ⟨by omega,by simp⟩ ?h02 ?step2
    case hc2=>simp +contextual -implicitDefEqProofs (maxSteps:=10^7) only[go_sem,seval,↓gZ]<;>exact rfl
    case h02=>rfl
    case step2=>
     intro k ⟨hk,hq⟩ ai;by_cases ab:k<i
     ·obtain⟨y,hy⟩:=Zr (l:=l) (k:=k) (by omega);have af:k<l.length:=by omega
      have ag:=Zj (k:=k) (by omega);have ah:=ZaS hy;obtain⟨⟨W',H',T',K'⟩,C'⟩:=y;simp only at ah;by_cases he:(⟨W',H',T',K'⟩:Pane)=⟨W,H,T,K⟩
      ·have ad:(⟨W,H,T,K⟩:Pane)∈(l.take i).map Zc.Pane:=by
        rw[← he];have h3:(l.take i)[k]?=some ⟨⟨W',H',T',K'⟩,C'⟩:=by rw[List.getElem?_take_of_lt ab];exact hy
        exact K5.2 ⟨_,Kc h3,rfl⟩
       have hn:¬ZaR l:=fun h=>(hp.1 h.2.1).2.1 ad;simp only[Pane.mk.injEq] at he;simp +contextual -implicitDefEqProofs (maxSteps:=10^7) only[go_sem,seval,↓gZ,hx,aa,hw,hy,ab,af,ag,he,hn]
      ·have aj:=he;simp only[Pane.mk.injEq] at he;simp +contextual -implicitDefEqProofs (maxSteps:=10^7) only[go_sem,seval,↓gZ,hx,aa,hw,hy,ab,af,ag,he];refine ai (k+1) _ ⟨by omega,?_⟩ (by omega) ?_
       ·rw[ah,Kg];intro h;rcases h with h | h
        ·exact hq h
        ·exact aj (KA.1 h).symm
       ·simp +contextual -implicitDefEqProofs (maxSteps:=10^7) only[go_sem,seval,↓gZ]
     ·have:k=i:=by omega
      subst this;have ak:=wi (Ut (l.take k)+C) (by omega) (by omega);simp +contextual -implicitDefEqProofs (maxSteps:=10^7) only[go_sem,seval,↓gZ,hx,aa,hw,ab,ak];refine ih (k+1) _ ⟨by omega,?_,by omega,by omega⟩ (by omega) ?_
      ·rw[hp];exact⟨fun h=>h.2.2.2.2,fun h=>⟨hv,hq,hC.1,hC.2,h⟩⟩
      ·simp +contextual -implicitDefEqProofs (maxSteps:=10^7) only[go_sem,seval,↓gZ,ae]
   ·have er:=ZJ C 1 24;rw[Kk hC] at er;have hn:¬ZaR l:=fun h=>hC ⟨(hp.1 h.2.1).2.2.1,(hp.1 h.2.1).2.2.2.1⟩;simp +contextual -implicitDefEqProofs (maxSteps:=10^7) only[go_sem,seval,↓gZ,hx,aa,hw,ev,er,hn]
  ·rw[Kk hv] at ev;have hn:¬ZaR l:=fun h=>hv (hp.1 h.2.1).1;simp +contextual -implicitDefEqProofs (maxSteps:=10^7) only[go_sem,seval,↓gZ,hx,aa,hw,ev,hn]
 ·have:i=l.length:=by omega
  subst this;have hs:=hp.2 Zvb;rw[KH (Kr _)];simp +contextual -implicitDefEqProofs (maxSteps:=10^7) only[go_sem,seval,↓gZ];exact Zcs (by simp only[ZaR];constructor<;>(intro h;first | exact⟨by omega,hs,by omega⟩ | (have:=h.1;have:=h.2.2;omega)))
end Go.Proofs.YtcefneehgbiebaaGreatDoor
