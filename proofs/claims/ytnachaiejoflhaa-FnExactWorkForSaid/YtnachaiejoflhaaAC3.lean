/- Own text. -/
import Derived.Test.YtnachaiejoflhaaACode
import Derived.Test.YtnachaiejoflhaaAbsParts
import Derived.Test.YtnachaiejoflhaaAC2
import Derived.Test.YtnachaiejoflhaaAbsOkD
namespace Go.Proofs.Ytnachaiejoflhaa
open Go Go.Abs Go.Abs.E Go.Abs.L
open Nat (reduceMul reduceSub reduceLeDiff reduceEqDiff)
open Int (reduceLE reduceEq reduceToNat reduceNeg)
set_option linter.unusedSimpArgs false
set_option linter.unusedVariables false
set_option maxRecDepth 20000
set_option maxHeartbeats 4000000
def ZcF:List Pane→List Zs→Prop
 | _,[]=>True
 | q,x :: l=>VP x.Pane∧x.Pane∉q∧1≤x.Count∧x.Count≤24∧ZcF (q++[x.Pane]) l
instance ordGdec:∀ (q:List Pane) (l:List Zs),Decidable (ZcF q l)
 | _,[]=>.isTrue trivial
 | q,x :: l=>by
  unfold ZcF;have:=ordGdec (q++[x.Pane]) l
  infer_instance
def YJ:List Zs→Int
 | []=>0
 | x :: l=>x.Count+YJ l
def Wn (l:List Zs):Prop:=l.length≤8∧ZcF [] l∧YJ l≤24
instance (l:List Zs):Decidable (Wn l):=by unfold Wn;infer_instance
theorem Zh7 {l:List Zs} {k:Nat} {x:Zs} {q:List Pane} (hx:l[k]?=some x):ZcF q (l.drop k)↔VP x.Pane∧x.Pane∉q∧1≤x.Count∧x.Count≤24∧ZcF (q++[x.Pane]) (l.drop (k+1)):=by
 obtain⟨h1,h2⟩:=Kc.1 hx;rw[KI h1,h2,ZcF]
theorem Zkn {l:List Zs} {q:List Pane}:ZcF q (l.drop l.length):=by simp[ZcF]
theorem WQ {l:List Zs} {k:Nat} {x:Zs} (hx:l[k]?=some x):(l.take (k+1)).map Zs.Pane=(l.take k).map Zs.Pane++[x.Pane]:=by
 rw[K1,hx];simp
theorem Zed (a b:List Zs):YJ (a++b)=YJ a+YJ b:=by
 induction a with
 | nil=>simp[YJ]
 | cons c l ih=>simp only[Ky,YJ,ih];omega
theorem Zh8 {l:List Zs} {i:Nat} {x:Zs} (hx:l[i]?=some x):YJ (l.take (i+1))=YJ (l.take i)+x.Count:=by
 rw[K1,hx,Zed];simp[YJ]
theorem Zfw:∀ {l:List Zs} {q:List Pane},ZcF q l→∀ x∈l,VP x.Pane∧1≤x.Count∧x.Count≤24
 | [],_,_,x,hx=>by simp at hx
 | y :: l,q,h,x,hx=>by
  rcases Ke.1 hx with rfl | hx
  ·exact⟨h.1,h.2.2.1,h.2.2.2.1⟩
  ·exact Zfw h.2.2.2.2 x hx
theorem Zko:∀ {l:List Zs},(∀ x∈l,1≤x.Count)→0≤YJ l
 | [],_=>by simp[YJ]
 | x :: l,h=>by
  have h1:=h x (by simp);have h2:=Zko (l:=l) fun y hy=>h y (by simp[hy]);simp only[YJ];omega
theorem Zkp {l:List Zs} {i:Nat} (h:∀ x∈l,1≤x.Count):YJ (l.take i)≤YJ l:=by
 have e:YJ l=YJ (l.take i)+YJ (l.drop i):=by rw[← Zed,KV]
 have:=Zko (l:=l.drop i) fun y hy=>h y (Lz hy);omega
def U7:Nat→List Zs→Pane→Int
 | _,[],_=>-1
 | k,x :: l,p=>if x.Pane=p then (k:Int) else U7 (k+1) l p
theorem ZlV {l:List Zs} {k:Nat} {x:Zs} {p:Pane} (hx:l[k]?=some x):U7 k (l.drop k) p=if x.Pane=p then (k:Int) else U7 (k+1) (l.drop (k+1)) p:=by
 obtain⟨h1,h2⟩:=Kc.1 hx;rw[KI h1,h2,U7]
theorem Zkq:∀ (l:List Zs) (k i:Nat) (x:Zs),l[i]?=some x→(U7 k l x.Pane=((k+i:Nat):Int)↔x.Pane∉(l.take i).map Zs.Pane)
 | [],k,i,x,h=>by simp at h
 | y :: l,k,0,x,h=>by
  simp only[List.getElem?_cons_zero,Option.some.injEq] at h;subst h;simp[U7]
 | y :: l,k,i+1,x,h=>by
  simp only[Ll] at h;have ih:=Zkq l (k+1) i x h;simp only[U7,List.take_succ_cons,Ks,Ke,not_or];split
  ·rename_i e;constructor
   ·intro h;omega
   ·intro h;exact absurd e.symm h.1
  ·rename_i e;rw[show k+1+i=k+(i+1) by omega] at ih;rw[ih];exact⟨fun h=>⟨fun e'=>e e'.symm,h⟩,fun h=>h.2⟩
def VG:List Zs→Int
 | []=>0
 | x :: l=>x.Count*x.Pane.W*x.Pane.H+VG l
theorem Zkr (a b:List Zs):VG (a++b)=VG a+VG b:=by
 induction a with
 | nil=>simp[VG]
 | cons c l ih=>simp only[Ky,VG,ih];omega
theorem Zh9 {l:List Zs} {i:Nat} {x:Zs} (hx:l[i]?=some x):VG (l.take (i+1))=VG (l.take i)+x.Count*x.Pane.W*x.Pane.H:=by
 rw[K1,hx,Zkr];simp[VG]
theorem Zdw {x:Zs} (h:VP x.Pane∧1≤x.Count∧x.Count≤24):0≤x.Count*x.Pane.W∧x.Count*x.Pane.W≤4800∧0≤x.Count*x.Pane.W*x.Pane.H∧x.Count*x.Pane.W*x.Pane.H≤960000:=by
 obtain⟨h1,h2,h3⟩:=h;simp only[VP] at h1;have a1:0≤x.Count*x.Pane.W:=Lx (by omega) (by omega);have a2:x.Count*x.Pane.W≤24*200:=Ly (by omega) (by omega) (by omega) (by omega);have a3:0≤x.Count*x.Pane.W*x.Pane.H:=Lx (by omega) (by omega);have a4:x.Count*x.Pane.W*x.Pane.H≤4800*200:=Ly (by omega) (by omega) (by omega) (by omega);omega
theorem Js:∀ {l:List Zs},(∀ x∈l,VP x.Pane∧1≤x.Count∧x.Count≤24)→0≤VG l∧VG l≤960000*l.length
 | [],_=>by simp[VG]
 | x :: l,h=>by
  have h1:=Zdw (h x (by simp));have h2:=Js (l:=l) fun y hy=>h y (by simp[hy]);simp only[VG,KD];omega
theorem Zfx {l:List Zs} (h:Wn l):∀ x∈l,VP x.Pane∧1≤x.Count∧x.Count≤24:=Zfw h.2.1
theorem Zfy {l:List Zs} (h:Wn l):0≤VG l∧VG l≤7680000:=by
 have h1:=Js (Zfx h);have:=h.1;omega
structure Zak where
 kind:Int
 label:Int
 box:Box
 line:Zs
 plan:ZA
def Zak.enc (e:Zak):D:=.agg ([J e.kind,J e.label,J e.box.X,J e.box.Y,J e.box.W,J e.box.H,J e.line.Pane.W,J e.line.Pane.H,.bool e.line.Pane.Turns,J e.line.Pane.Kind,J e.line.Count]++e.plan.enc.cells)
@[go_sem] theorem Zak.enc_mk (k l x y w h pw ph pk c o a p:Int) (pt t:Bool) (ks:List ZA):Zak.enc (Zak.mk k l (Box.mk x y w h) (Zs.mk (Pane.mk pw ph pt pk) c) (ZA.mk o a p t ks)) =
  .agg [J k,J l,J x,J y,J w,J h,J pw,J ph,.bool pt,J pk,J c,J o,J a,J p,.bool t,.sl (ks.map ZA.enc)]:=by
 simp only[Zak.enc,ZA.enc_mk];rfl
theorem Zak.enc_len (e:Zak):(Zak.enc e).cells.length=16:=by
 show (_++e.plan.enc.cells).length=16;rw[KK,ZA.enc_len];rfl
@[go_sem] theorem uni_Event (l:List Zak):uni 16 (l.map Zak.enc)=True:=eq_true (WH l Zak.enc_len)
def Ww (s:Yn):Prop:=VSt s.Stock∧Wn s.Opn∧Wn s.Done∧0≤s.Lost∧s.Lost≤900000∧0≤s.Came∧s.Came≤900000∧Xe s.Stock+VG s.Done+s.Lost=s.Came
instance (s:Yn):Decidable (Ww s):=by unfold Ww;infer_instance
theorem ZeW (qW qH:Int) (qT:Bool) (qK qC:Int) (pW pH:Int) (pT:Bool) (pK:Int):Zj Xs Ms Xh [(.d (.agg [J qW,J qH,.bool qT,J qK,J qC])),.ptr 0 0] [.box [(.d (J pW)),(.d (J pH)),(.d (.bool pT)),(.d (J pK))]]=some ((.d (.bool (decide ((Pane.mk qW qH qT qK)=(Pane.mk pW pH pT pK))))),[.box [(.d (J pW)),(.d (J pH)),(.d (.bool pT)),(.d (J pK))]]):=by
 refine cE ?_;simp +contextual -implicitDefEqProofs (maxSteps:=10^7) only[go_sem,seval,↓gZ,W4];try exact Zam (by simp only[Pane.mk.injEq,and_assoc])
theorem Zhv (l:List Zs) (pW pH:Int) (pT:Bool) (pK:Int) (hl:l.length<4611686018427387904):Zj Xs Ms Qz [(.d (.sl (l.map Zs.enc))),.clo Xh [.ptr 0 0]] [.box [(.d (J pW)),(.d (J pH)),(.d (.bool pT)),(.d (J pK))]]=some ((.d (J (U7 0 l (Pane.mk pW pH pT pK)))),[.box [(.d (J pW)),(.d (J pH)),(.d (.bool pT)),(.d (J pK))]]):=by
 refine cE ?_;simp +contextual -implicitDefEqProofs (maxSteps:=10^7) only[go_sem,seval,↓gZ,XD];refine LO (α:=Nat) (fun k=>[(8,.d (J (k:Int)))]) (fun _=>[]) (fun k=>k≤l.length∧U7 k (l.drop k) (Pane.mk pW pH pT pK)=U7 0 l (Pane.mk pW pH pT pK)) (fun k=>l.length-k) 0 ⟨by omega,rfl⟩ ?_;intro k ⟨hk,hp⟩ ih;by_cases aa:k<l.length
 ·obtain⟨x,hx⟩:=Qq aa;rw[ZlV hx] at hp;have hw:=Zw (k:=k) (by omega);have e1:=ZeW x.Pane.W x.Pane.H x.Pane.Turns x.Pane.Kind x.Count pW pH pT pK;obtain⟨⟨W,H,T,K⟩,C⟩:=x;simp only at hp e1;by_cases h:(⟨W,H,T,K⟩:Pane)=(Pane.mk pW pH pT pK)
  ·rw[Kw h] at hp;rw[KC h] at e1;simp +contextual -implicitDefEqProofs (maxSteps:=10^7) only[go_sem,seval,↓gZ,hx,aa,hw,e1];rw[← hp]
  ·rw[Ko h] at hp;rw[KE h] at e1;simp +contextual -implicitDefEqProofs (maxSteps:=10^7) only[go_sem,seval,↓gZ,hx,aa,hw,e1];refine ih (k+1) _ ⟨by omega,hp⟩ (by omega) ?_;simp +contextual -implicitDefEqProofs (maxSteps:=10^7) only[go_sem,seval,↓gZ]
 ·have:k=l.length:=by omega
  subst this;simp +contextual -implicitDefEqProofs (maxSteps:=10^7) only[go_sem,seval,↓gZ];rw[← hp];simp[U7]
theorem Zhw (l:List Zs) (pW pH:Int) (pT:Bool) (pK:Int) (hl:l.length<4611686018427387904):Zj Xs Ms Vc [(.d (.sl (l.map Zs.enc))),(.d (.agg [J pW,J pH,.bool pT,J pK]))] []=some ((.d (J (U7 0 l (Pane.mk pW pH pT pK)))),[]):=by
 refine cE ?_;simp +contextual -implicitDefEqProofs (maxSteps:=10^7) only[go_sem,seval,↓gZ,JG,Zhv l pW pH pT pK hl]
theorem Wo (l:List Zs):Zj Xs Ms QT [(.d (.sl (l.map Zs.enc)))] []=some ((.d (.bool (decide (Wn l)))),[]):=by
 by_cases h8:(8:Int)<(l.length:Int)
 ·have hn:¬Wn l:=fun h=>by have:=h.1;omega
  refine cE ?_;simp +contextual -implicitDefEqProofs (maxSteps:=10^7) only[go_sem,seval,↓gZ,Ve,h8,hn]
 ·have ah:l.length≤8:=by omega
  refine cE ?_;simp +contextual -implicitDefEqProofs (maxSteps:=10^7) only[go_sem,seval,↓gZ,Ve,h8];refine LO (α:=Nat) (fun i=>[(11,.d (J (i:Int))),(3,.d (J (24-YJ (l.take i))))]) (fun _=>[]) (fun i=>i≤l.length∧(ZcF [] l↔ZcF ((l.take i).map Zs.Pane) (l.drop i))∧0≤YJ (l.take i)∧YJ (l.take i)≤24) (fun i=>l.length-i) 0 ⟨by simp,by simp,by simp[YJ],by simp[YJ]⟩ ?_;intro i ⟨hi,hp,aj,ae⟩ ih;by_cases aa:i<l.length
  ·obtain⟨x,hx⟩:=Qq aa;have hw:=Zw (k:=i) (by omega);rw[Zh7 hx,← WQ hx] at hp;have ev:=Zfo x.Pane.W x.Pane.H x.Pane.Turns x.Pane.Kind;have ef:=Zhw l x.Pane.W x.Pane.H x.Pane.Turns x.Pane.Kind (by omega);have ab:=Zkq l 0 i x hx;have af:=Zh8 hx;obtain⟨⟨W,H,T,K⟩,C⟩:=x;simp only[LK] at hp ev ef ab af;by_cases hv:VP ⟨W,H,T,K⟩
   ·rw[KC hv] at ev;by_cases hf:U7 0 l ⟨W,H,T,K⟩=(i:Int)
    ·rw[hf] at ef;by_cases ad:C<1
     ·have hn:¬Wn l:=fun h=>by have:=(hp.1 h.2.1).2.2.1;omega
      simp +contextual -implicitDefEqProofs (maxSteps:=10^7) only[go_sem,seval,↓gZ,hx,aa,hw,ev,ef,ad,hn]
     ·by_cases ag:24-YJ (l.take i)<C
      ·have hn:¬Wn l:=fun h=>by
        have:=Zkp (l:=l) (i:=i+1) (fun x hx=>(Zfw h.2.1 x hx).2.1);have:=h.2.2;omega
       simp +contextual -implicitDefEqProofs (maxSteps:=10^7) only[go_sem,seval,↓gZ,hx,aa,hw,ev,ef,ad,ag,hn]
      ·have ai:=wi (24-YJ (l.take i)-C) (by omega) (by omega);simp +contextual -implicitDefEqProofs (maxSteps:=10^7) only[go_sem,seval,↓gZ,hx,aa,hw,ev,ef,ad,ag,ai];refine ih (i+1) _ ⟨by omega,?_,by omega,by omega⟩ (by omega) ?_
       ·rw[hp];exact⟨fun h=>h.2.2.2.2,fun h=>⟨hv,ab.1 hf,by omega,by omega,h⟩⟩
       ·simp +contextual -implicitDefEqProofs (maxSteps:=10^7) only[go_sem,seval,↓gZ,af];try (simp;omega)
    ·have hn:¬Wn l:=fun h=>hf (ab.2 (hp.1 h.2.1).2.1);simp +contextual -implicitDefEqProofs (maxSteps:=10^7) only[go_sem,seval,↓gZ,hx,aa,hw,ev,ef,hf,hn]
   ·rw[KE hv] at ev;have hn:¬Wn l:=fun h=>hv (hp.1 h.2.1).1;simp +contextual -implicitDefEqProofs (maxSteps:=10^7) only[go_sem,seval,↓gZ,hx,aa,hw,ev,hn]
  ·have:i=l.length:=by omega
   subst this;rw[Le (Kf _)] at ae;have hy:Wn l:=⟨ah,hp.2 Zkn,ae⟩
   simp +contextual -implicitDefEqProofs (maxSteps:=10^7) only[go_sem,seval,↓gZ,hy]
theorem Zfz (l:List Zs) (hv:Wn l):Zj Xs Ms Yw [(.d (.sl (l.map Zs.enc)))] []=some ((.d (J (VG l))),[]):=by
 have ev:=Wo l;rw[KC hv] at ev;have h8:=hv.1;have aa:=Zfx hv;clear hv;refine cE ?_;simp +contextual -implicitDefEqProofs (maxSteps:=10^7) only[go_sem,seval,↓gZ,UR,ev];refine LO (α:=Nat) (fun i=>[(11,.d (J (i:Int))),(3,.d (J (VG (l.take i))))]) (fun _=>[]) (fun i=>i≤l.length) (fun i=>l.length-i) 0 (by omega) ?_;intro i hi ih;by_cases ab:i<l.length
 ·obtain⟨x,hx⟩:=Qq ab;have hw:=Zw (k:=i) (by omega);have hm:=Zh9 hx;have ad:=Js (l:=l.take i) (fun y hy=>aa y (K6 hy));have ae:(l.take i).length≤i:=by simp;omega
  have g5:=Zdw (aa x (Kk hx));obtain⟨⟨W,H,T,K⟩,C⟩:=x;simp only at g5 hm;have u0:=wi (C*W) (by omega) (by omega);have u1:=wi (C*W*H) (by omega) (by omega);have u2:=wi (VG (l.take i)+C*W*H) (by omega) (by omega);simp +contextual -implicitDefEqProofs (maxSteps:=10^7) only[go_sem,seval,↓gZ,hx,ab,hw,u0,u1,u2];refine ih (i+1) _ (by omega) (by omega) ?_;simp +contextual -implicitDefEqProofs (maxSteps:=10^7) only[go_sem,seval,↓gZ,hm]
 ·have:i=l.length:=by omega
  subst this;simp +contextual -implicitDefEqProofs (maxSteps:=10^7) only[go_sem,seval,↓gZ];simp
theorem Zal (l:List Zs) (hl:l.length≤1048576):Zj Xs Ms Xf [(.d (.sl (l.map Zs.enc)))] []=some ((.d (.bool (decide (Wn l)))),[]):=by
 refine cE ?_;simp +contextual -implicitDefEqProofs (maxSteps:=10^7) only[go_sem,seval,↓gZ,W3];refine LO (α:=Nat) (fun i=>[(4,.d (J (i:Int))),(3,.d (J (YJ (l.take i))))]) (fun _=>[]) (fun i=>i≤l.length∧(ZcF [] l↔ZcF ((l.take i).map Zs.Pane) (l.drop i))∧0≤YJ (l.take i)∧YJ (l.take i)≤24*i) (fun i=>l.length-i) 0 ⟨by simp,by simp,by simp[YJ],by simp[YJ]⟩ ?_;intro i ⟨hi,hp,al,am⟩ ih;by_cases aa:i<l.length
 ·obtain⟨x,hx⟩:=Qq aa;have hw:=Zw (k:=i) (by omega);rw[Zh7 hx,← WQ hx] at hp;have ev:=Zfn x.Pane.W x.Pane.H x.Pane.Turns x.Pane.Kind;have ae:=Zh8 hx;obtain⟨⟨W,H,T,K⟩,C⟩:=x;simp only at hp ev ae;by_cases hv:VP ⟨W,H,T,K⟩
  ·rw[KC hv] at ev;by_cases hC:1≤C∧C≤24
   ·have er:=Xo C 1 24;rw[KC hC] at er;simp +contextual -implicitDefEqProofs (maxSteps:=10^7) only[go_sem,seval,↓gZ,hx,aa,hw,ev,er];refine V6 Xs Ms (st0:=?st1) (α:=Nat) (fun k=>[(5,.d (J (k:Int)))]) (fun _=>[]) (fun k=>k≤i∧(⟨W,H,T,K⟩:Pane)∉(l.take k).map Zs.Pane) (fun k=>i-k) 0 ?hc2 ⟨by omega,by simp⟩ ?h02 ?step2
    case hc2=>simp +contextual -implicitDefEqProofs (maxSteps:=10^7) only[go_sem,seval,↓gZ]<;>exact rfl
    case h02=>rfl
    case step2=>
     intro k ⟨hk,hq⟩ ai;by_cases ab:k<i
     ·obtain⟨y,hy⟩:=Qq (l:=l) (k:=k) (by omega);have af:k<l.length:=by omega
      have ag:=Zw (k:=k) (by omega);have ah:=WQ hy;obtain⟨⟨W',H',T',K'⟩,C'⟩:=y;simp only at ah;by_cases he:(⟨W',H',T',K'⟩:Pane)=⟨W,H,T,K⟩
      ·have ad:(⟨W,H,T,K⟩:Pane)∈(l.take i).map Zs.Pane:=by
        rw[← he];have h3:(l.take i)[k]?=some ⟨⟨W',H',T',K'⟩,C'⟩:=by rw[List.getElem?_take_of_lt ab];exact hy
        exact KZ.2 ⟨_,Kk h3,rfl⟩
       have hn:¬Wn l:=fun h=>(hp.1 h.2.1).2.1 ad;simp only[Pane.mk.injEq] at he;simp +contextual -implicitDefEqProofs (maxSteps:=10^7) only[go_sem,seval,↓gZ,hx,aa,hw,hy,ab,af,ag,he,hn]
      ·have aj:=he;simp only[Pane.mk.injEq] at he;simp +contextual -implicitDefEqProofs (maxSteps:=10^7) only[go_sem,seval,↓gZ,hx,aa,hw,hy,ab,af,ag,he];refine ai (k+1) _ ⟨by omega,?_⟩ (by omega) ?_
       ·rw[ah,Kd];intro h;rcases h with h | h
        ·exact hq h
        ·exact aj (KQ.1 h).symm
       ·simp +contextual -implicitDefEqProofs (maxSteps:=10^7) only[go_sem,seval,↓gZ]
     ·have:k=i:=by omega
      subst this;have ak:=wi (YJ (l.take k)+C) (by omega) (by omega);simp +contextual -implicitDefEqProofs (maxSteps:=10^7) only[go_sem,seval,↓gZ,hx,aa,hw,ab,ak];refine ih (k+1) _ ⟨by omega,?_,by omega,by omega⟩ (by omega) ?_
      ·rw[hp];exact⟨fun h=>h.2.2.2.2,fun h=>⟨hv,hq,hC.1,hC.2,h⟩⟩
      ·simp +contextual -implicitDefEqProofs (maxSteps:=10^7) only[go_sem,seval,↓gZ,ae]
   ·have er:=Xo C 1 24;rw[KE hC] at er;have hn:¬Wn l:=fun h=>hC ⟨(hp.1 h.2.1).2.2.1,(hp.1 h.2.1).2.2.2.1⟩;simp +contextual -implicitDefEqProofs (maxSteps:=10^7) only[go_sem,seval,↓gZ,hx,aa,hw,ev,er,hn]
  ·rw[KE hv] at ev;have hn:¬Wn l:=fun h=>hv (hp.1 h.2.1).1;simp +contextual -implicitDefEqProofs (maxSteps:=10^7) only[go_sem,seval,↓gZ,hx,aa,hw,ev,hn]
 ·have:i=l.length:=by omega
  subst this;have hs:=hp.2 Zkn;rw[Le (Kf _)];simp +contextual -implicitDefEqProofs (maxSteps:=10^7) only[go_sem,seval,↓gZ];exact Zam (by simp only[Wn];constructor<;>(intro h;first | exact⟨by omega,hs,by omega⟩ | (have:=h.1;have:=h.2.2;omega)))
theorem Zks {l:List Zg} (hv:VSt l):∀ x∈l,1≤x.W∧x.W≤200∧1≤x.H∧x.H≤200:=fun x hx=>by
 have:=(Zdv hv.2 x hx).1;omega
theorem Zee {l:List Zg} (hv:VSt l):0≤Xe l∧Xe l≤800000:=by
 have h1:=WA (Zks hv);have:=hv.1;omega
theorem ZfA (l:List Zg) (hv:VSt l):Zj Xs Ms Yy [(.d (.sl (l.map Zg.enc)))] []=some ((.d (J (Xe l))),[]):=by
 have af:=hv.1;have aa:=Zks hv;clear hv;refine cE ?_;simp +contextual -implicitDefEqProofs (maxSteps:=10^7) only[go_sem,seval,↓gZ,UT];refine LO (α:=Nat) (fun i=>[(4,.d (J (i:Int))),(3,.d (J (Xe (l.take i))))]) (fun _=>[]) (fun i=>i≤l.length) (fun i=>l.length-i) 0 (by omega) ?_;intro i hi ih;by_cases ab:i<l.length
 ·obtain⟨x,hx⟩:=Qq ab;have hw:=Zw (k:=i) (by omega);have hm:=Zfp hx;have ag:=WA (l:=l.take i) (fun y hy=>aa y (K6 hy));have ah:(l.take i).length≤i:=by simp;omega
  have g5:=aa x (Kk hx);have ad:x.W*x.H≤200*200:=Ly (by omega) (by omega) (by omega) (by omega);have ae:0≤x.W*x.H:=Lx (by omega) (by omega);obtain⟨xL,xW,xH,xF⟩:=x;simp only at g5 hm ad ae;have u0:=wi (xW*xH) (by omega) (by omega);have u1:=wi (Xe (l.take i)+xW*xH) (by omega) (by omega);simp +contextual -implicitDefEqProofs (maxSteps:=10^7) only[go_sem,seval,↓gZ,hx,ab,hw,u0,u1];refine ih (i+1) _ (by omega) (by omega) ?_;simp +contextual -implicitDefEqProofs (maxSteps:=10^7) only[go_sem,seval,↓gZ,hm]
 ·have:i=l.length:=by omega
  subst this;simp +contextual -implicitDefEqProofs (maxSteps:=10^7) only[go_sem,seval,↓gZ];simp
theorem ZfB (l:List Zs) (hv:Wn l):Zj Xs Ms Yz [(.d (.sl (l.map Zs.enc)))] []=some ((.d (J (VG l))),[]):=by
 have h8:=hv.1;have aa:=Zfx hv;clear hv;refine cE ?_;simp +contextual -implicitDefEqProofs (maxSteps:=10^7) only[go_sem,seval,↓gZ,UU];refine LO (α:=Nat) (fun i=>[(4,.d (J (i:Int))),(3,.d (J (VG (l.take i))))]) (fun _=>[]) (fun i=>i≤l.length) (fun i=>l.length-i) 0 (by omega) ?_;intro i hi ih;by_cases ab:i<l.length
 ·obtain⟨x,hx⟩:=Qq ab;have hw:=Zw (k:=i) (by omega);have hm:=Zh9 hx;have ad:=Js (l:=l.take i) (fun y hy=>aa y (K6 hy));have ae:(l.take i).length≤i:=by simp;omega
  have g5:=Zdw (aa x (Kk hx));obtain⟨⟨W,H,T,K⟩,C⟩:=x;simp only at g5 hm;have u0:=wi (C*W) (by omega) (by omega);have u1:=wi (C*W*H) (by omega) (by omega);have u2:=wi (VG (l.take i)+C*W*H) (by omega) (by omega);simp +contextual -implicitDefEqProofs (maxSteps:=10^7) only[go_sem,seval,↓gZ,hx,ab,hw,u0,u1,u2];refine ih (i+1) _ (by omega) (by omega) ?_;simp +contextual -implicitDefEqProofs (maxSteps:=10^7) only[go_sem,seval,↓gZ,hm]
 ·have:i=l.length:=by omega
  subst this;simp +contextual -implicitDefEqProofs (maxSteps:=10^7) only[go_sem,seval,↓gZ];simp
theorem Zhx (sS:List Zg) (sO sD:List Zs) (sL sC:Int) (h1:VSt sS) (h2:Wn sD) (h3:0≤sL∧sL≤100000000):Zj Xs Ms Y8 [(.d (.agg [.sl (sS.map Zg.enc),.sl (sO.map Zs.enc),.sl (sD.map Zs.enc),J sL,J sC]))] []=some ((.d (J (Xe sS+VG sD+sL))),[]):=by
 have e1:=ZfA sS h1;have e2:=ZfB sD h2;have b1:=Zee h1;have b2:=Zfy h2;have u0:=wi (Xe sS+VG sD) (by omega) (by omega);have u1:=wi (Xe sS+VG sD+sL) (by omega) (by omega);refine cE ?_;simp +contextual -implicitDefEqProofs (maxSteps:=10^7) only[go_sem,seval,↓gZ,JC,e1,e2,u0,u1]
def ZlW (s:Yn):Prop:=s.Stock.length≤1048576∧(∀ x∈s.Stock,x.Flaws.length≤1048576∧R64 x.W∧R64 x.H)∧s.Opn.length≤1048576∧s.Done.length≤1048576
theorem ZfC (sS:List Zg) (sO sD:List Zs) (sL sC:Int) (hs:ZlW (Yn.mk sS sO sD sL sC)):Zj Xs Ms Yr [(.d (.agg [.sl (sS.map Zg.enc),.sl (sO.map Zs.enc),.sl (sD.map Zs.enc),J sL,J sC]))] []=some ((.d (.bool (decide (Ww (Yn.mk sS sO sD sL sC))))),[]):=by
 obtain⟨h1,h2,h3,h4⟩:=hs;simp only at h1 h2 h3 h4;have e1:=ZeV sS (by omega) (fun x hx=>⟨by have:=(h2 x hx).1;omega,(h2 x hx).2⟩);have e2:=Zal sO h3;have e3:=Zal sD h4;have e4:=Xo sL 0 900000;have e5:=Xo sC 0 900000;refine cE ?_;by_cases v1:VSt sS
 ·rw[KC v1] at e1;by_cases v2:Wn sO
  ·rw[KC v2] at e2;by_cases v3:Wn sD
   ·rw[KC v3] at e3;by_cases v4:0≤sL∧sL≤900000
    ·rw[KC v4] at e4;by_cases v5:0≤sC∧sC≤900000
     ·rw[KC v5] at e5;have e6:=Zhx sS sO sD sL sC v1 v3 (by omega);simp +contextual -implicitDefEqProofs (maxSteps:=10^7) only[go_sem,seval,↓gZ,QR,e1,e2,e3,e4,e5,e6];exact Zam ⟨fun h=>⟨v1,v2,v3,v4.1,v4.2,v5.1,v5.2,h⟩,fun h=>h.2.2.2.2.2.2.2⟩
     ·rw[KE v5] at e5;have hn:¬Ww (Yn.mk sS sO sD sL sC):=fun h=>v5 ⟨h.2.2.2.2.2.1,h.2.2.2.2.2.2.1⟩;simp +contextual -implicitDefEqProofs (maxSteps:=10^7) only[go_sem,seval,↓gZ,QR,e1,e2,e3,e4,e5,hn]
    ·rw[KE v4] at e4;have hn:¬Ww (Yn.mk sS sO sD sL sC):=fun h=>v4 ⟨h.2.2.2.1,h.2.2.2.2.1⟩;simp +contextual -implicitDefEqProofs (maxSteps:=10^7) only[go_sem,seval,↓gZ,QR,e1,e2,e3,e4,hn]
   ·rw[KE v3] at e3;have hn:¬Ww (Yn.mk sS sO sD sL sC):=fun h=>v3 h.2.2.1;simp +contextual -implicitDefEqProofs (maxSteps:=10^7) only[go_sem,seval,↓gZ,QR,e1,e2,e3,hn]
  ·rw[KE v2] at e2;have hn:¬Ww (Yn.mk sS sO sD sL sC):=fun h=>v2 h.2.1;simp +contextual -implicitDefEqProofs (maxSteps:=10^7) only[go_sem,seval,↓gZ,QR,e1,e2,hn]
 ·rw[KE v1] at e1;have hn:¬Ww (Yn.mk sS sO sD sL sC):=fun h=>v1 h.1;simp +contextual -implicitDefEqProofs (maxSteps:=10^7) only[go_sem,seval,↓gZ,QR,e1,hn]
theorem ZfD (sS:List Zg) (sO sD:List Zs) (sL sC:Int):Zj Xs Ms Ys [(.d (.agg [.sl (sS.map Zg.enc),.sl (sO.map Zs.enc),.sl (sD.map Zs.enc),J sL,J sC]))] []=some ((.d (.bool (decide (Ww (Yn.mk sS sO sD sL sC))))),[]):=by
 have e1:=Zaj sS;have e2:=Wo sO;have e3:=Wo sD;refine cE ?_;by_cases v1:VSt sS
 ·rw[KC v1] at e1;by_cases v2:Wn sO
  ·rw[KC v2] at e2;by_cases v3:Wn sD
   ·rw[KC v3] at e3;by_cases v4:((sL<0∨900000<sL)∨sC<0)∨900000<sC
    ·have hn:¬Ww (Yn.mk sS sO sD sL sC):=fun h=>by
      obtain⟨_,_,_,h1,h2,h3,h4,_⟩:=h;simp only at h1 h2 h3 h4;omega
     simp +contextual -implicitDefEqProofs (maxSteps:=10^7) only[go_sem,seval,↓gZ,Q7,e1,e2,e3,v4,hn,← Bool.decide_or]
    ·have e4:=Zfv sS v1;have e5:=Zfz sD v3;have b1:=Zee v1;have b2:=Zfy v3;have u0:=wi (Xe sS+VG sD) (by omega) (by omega);have u1:=wi (Xe sS+VG sD+sL) (by omega) (by omega);simp +contextual -implicitDefEqProofs (maxSteps:=10^7) only[go_sem,seval,↓gZ,Q7,e1,e2,e3,v4,e4,e5,u0,u1,← Bool.decide_or];exact Zam ⟨fun h=>⟨v1,v2,v3,by simp only;omega,by simp only;omega,by simp only;omega,by simp only;omega,h⟩,fun h=>h.2.2.2.2.2.2.2⟩
   ·rw[KE v3] at e3;have hn:¬Ww (Yn.mk sS sO sD sL sC):=fun h=>v3 h.2.2.1;simp +contextual -implicitDefEqProofs (maxSteps:=10^7) only[go_sem,seval,↓gZ,Q7,e1,e2,e3,hn]
  ·rw[KE v2] at e2;have hn:¬Ww (Yn.mk sS sO sD sL sC):=fun h=>v2 h.2.1;simp +contextual -implicitDefEqProofs (maxSteps:=10^7) only[go_sem,seval,↓gZ,Q7,e1,e2,hn]
 ·rw[KE v1] at e1;have hn:¬Ww (Yn.mk sS sO sD sL sC):=fun h=>v1 h.1;simp +contextual -implicitDefEqProofs (maxSteps:=10^7) only[go_sem,seval,↓gZ,Q7,e1,hn]
theorem Zkt (sS:List Zg) (sO sD:List Zs) (sL sC:Int) (a:Nat) (qL qW qH:Int) (qF:List Box) (hx:sS[a]?=some (Zg.mk qL qW qH qF)) (hl:sO.length≤1048576) (hS:sS.length≤1048576):Zj Xs Ms WU [(.d (.agg [.sl (sS.map Zg.enc),.sl (sO.map Zs.enc),.sl (sD.map Zs.enc),J sL,J sC])),(.d (J a))] []=some (.agg [(.d (J qW)),(.d (J qH)),.own 0],[.row 4 ((sO.map Zs.Pane).map Pane.enc) true false]):=by
 have aa:=(Kc.1 hx).1;refine cE ?_;simp +contextual -implicitDefEqProofs (maxSteps:=10^7) only[go_sem,seval,↓gZ,Zb7,hx,aa];refine LO (α:=Nat) (fun i=>[(6,.d (J (i:Int)))]) (fun i=>[(3,.row 4 (((sO.take i).map Zs.Pane).map Pane.enc) true false)]) (fun i=>i≤sO.length) (fun i=>sO.length-i) 0 (by omega) ?_;intro i hi ih;by_cases aa:i<sO.length
 ·obtain⟨x,hx⟩:=Qq aa;have hw:=Zw (k:=i) (by omega);have hm:=WQ hx;have ab:(sO.take i).length≤i:=by simp;omega
  have hr:((sO.take i).length+1)*32≤140737488355328∧(sO.take i).length≤140737488355327:=by omega
  obtain⟨⟨W,H,T,K⟩,C⟩:=x;simp only at hm;simp +contextual -implicitDefEqProofs (maxSteps:=10^7) only[go_sem,seval,↓gZ,hx,aa,hw,hr];refine ih (i+1) _ (by omega) (by omega) ?_;simp +contextual -implicitDefEqProofs (maxSteps:=10^7) only[go_sem,seval,↓gZ,hm]
  first | rfl | (simp;done) | (simp;rfl)
 ·have:i=sO.length:=by omega
  subst this;simp +contextual -implicitDefEqProofs (maxSteps:=10^7) only[go_sem,seval,↓gZ];simp
end Go.Proofs.Ytnachaiejoflhaa
