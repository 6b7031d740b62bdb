/- Own text. -/
import Derived.Test.YthgciclhiaoecaaGreatACode
import Derived.Test.YthgciclhiaoecaaGreatAbsParts
import Derived.Test.YthgciclhiaoecaaGreatAC4
import Derived.Test.YthgciclhiaoecaaGreatAbsOkD
namespace Go.Proofs.YthgciclhiaoecaaGreat
open Go Go.Abs Go.Abs.E Go.Abs.L
open Nat (reduceMul reduceSub reduceLeDiff reduceEqDiff)
open Int (reduceLE reduceEq reduceToNat reduceNeg)
set_option linter.unusedSimpArgs false
set_option linter.unusedVariables false
set_option maxRecDepth 20000
set_option maxHeartbeats 4000000
def Zkg:List Pane→List Zc→Prop
 | _,[]=>True
 | q,x :: l=>VP x.Pane∧x.Pane∉q∧1≤x.Count∧x.Count≤24∧Zkg (q++[x.Pane]) l
instance ordGdec:∀ (q:List Pane) (l:List Zc),Decidable (Zkg q l)
 | _,[]=>.isTrue trivial
 | q,x :: l=>by
  unfold Zkg;have:=ordGdec (q++[x.Pane]) l
  infer_instance
def Qr:List Zc→Int
 | []=>0
 | x :: l=>x.Count+Qr l
def Zan (l:List Zc):Prop:=l.length≤8∧Zkg [] l∧Qr l≤24
instance (l:List Zc):Decidable (Zan l):=by unfold Zan;infer_instance
theorem ZsW {l:List Zc} {k:Nat} {x:Zc} {q:List Pane} (hx:l[k]?=some x):Zkg q (l.drop k)↔VP x.Pane∧x.Pane∉q∧1≤x.Count∧x.Count≤24∧Zkg (q++[x.Pane]) (l.drop (k+1)):=by
 obtain⟨h1,h2⟩:=Kc.1 hx;rw[Ks h1,h2,Zkg]
theorem ZvD {l:List Zc} {q:List Pane}:Zkg q (l.drop l.length):=by simp[Zkg]
theorem Zao {l:List Zc} {k:Nat} {x:Zc} (hx:l[k]?=some x):(l.take (k+1)).map Zc.Pane=(l.take k).map Zc.Pane++[x.Pane]:=by
 rw[Ky,hx];simp
theorem ZnX (a b:List Zc):Qr (a++b)=Qr a+Qr b:=by
 induction a with
 | nil=>simp[Qr]
 | cons c l ih=>simp only[KJ,Qr,ih];omega
theorem ZsX {l:List Zc} {i:Nat} {x:Zc} (hx:l[i]?=some x):Qr (l.take (i+1))=Qr (l.take i)+x.Count:=by
 rw[Ky,hx,ZnX];simp[Qr]
theorem Zqd:∀ {l:List Zc} {q:List Pane},Zkg q l→∀ x∈l,VP x.Pane∧1≤x.Count∧x.Count≤24
 | [],_,_,x,hx=>by simp at hx
 | y :: l,q,h,x,hx=>by
  rcases Kf.1 hx with rfl | hx
  ·exact⟨h.1,h.2.2.1,h.2.2.2.1⟩
  ·exact Zqd h.2.2.2.2 x hx
theorem ZvE:∀ {l:List Zc},(∀ x∈l,1≤x.Count)→0≤Qr l
 | [],_=>by simp[Qr]
 | x :: l,h=>by
  have h1:=h x (by simp);have h2:=ZvE (l:=l) fun y hy=>h y (by simp[hy]);simp only[Qr];omega
theorem ZvF {l:List Zc} {i:Nat} (h:∀ x∈l,1≤x.Count):Qr (l.take i)≤Qr l:=by
 have e:Qr l=Qr (l.take i)+Qr (l.drop i):=by rw[← ZnX,Lr]
 have:=ZvE (l:=l.drop i) fun y hy=>h y (L4 hy);omega
def Vb:Nat→List Zc→Pane→Int
 | _,[],_=>-1
 | k,x :: l,p=>if x.Pane=p then (k:Int) else Vb (k+1) l p
theorem Zw6 {l:List Zc} {k:Nat} {x:Zc} {p:Pane} (hx:l[k]?=some x):Vb k (l.drop k) p=if x.Pane=p then (k:Int) else Vb (k+1) (l.drop (k+1)) p:=by
 obtain⟨h1,h2⟩:=Kc.1 hx;rw[Ks h1,h2,Vb]
theorem ZvG:∀ (l:List Zc) (k i:Nat) (x:Zc),l[i]?=some x→(Vb k l x.Pane=((k+i:Nat):Int)↔x.Pane∉(l.take i).map Zc.Pane)
 | [],k,i,x,h=>by simp at h
 | y :: l,k,0,x,h=>by
  simp only[KL,Option.some.injEq] at h;subst h;simp[Vb]
 | y :: l,k,i+1,x,h=>by
  simp only[KH] at h;have ih:=ZvG l (k+1) i x h;simp only[Vb,L7,Ko,Kf,not_or];split
  ·rename_i e;constructor
   ·intro h;omega
   ·intro h;exact absurd e.symm h.1
  ·rename_i e;rw[show k+1+i=k+(i+1) by omega] at ih;rw[ih];exact⟨fun h=>⟨fun e'=>e e'.symm,h⟩,fun h=>h.2⟩
def Zap:List Zc→Int
 | []=>0
 | x :: l=>x.Count*x.Pane.W*x.Pane.H+Zap l
theorem ZvH (a b:List Zc):Zap (a++b)=Zap a+Zap b:=by
 induction a with
 | nil=>simp[Zap]
 | cons c l ih=>simp only[KJ,Zap,ih];omega
theorem ZsY {l:List Zc} {i:Nat} {x:Zc} (hx:l[i]?=some x):Zap (l.take (i+1))=Zap (l.take i)+x.Count*x.Pane.W*x.Pane.H:=by
 rw[Ky,hx,ZvH];simp[Zap]
theorem Zel {x:Zc} (h:VP x.Pane∧1≤x.Count∧x.Count≤24):0≤x.Count*x.Pane.W∧x.Count*x.Pane.W≤4800∧0≤x.Count*x.Pane.W*x.Pane.H∧x.Count*x.Pane.W*x.Pane.H≤960000:=by
 obtain⟨h1,h2,h3⟩:=h;simp only[VP] at h1;have a1:0≤x.Count*x.Pane.W:=Kan (by omega) (by omega);have a2:x.Count*x.Pane.W≤24*200:=Kao (by omega) (by omega) (by omega) (by omega);have a3:0≤x.Count*x.Pane.W*x.Pane.H:=Kan (by omega) (by omega);have a4:x.Count*x.Pane.W*x.Pane.H≤4800*200:=Kao (by omega) (by omega) (by omega) (by omega);omega
theorem ZeT:∀ {l:List Zc},(∀ x∈l,VP x.Pane∧1≤x.Count∧x.Count≤24)→0≤Zap l∧Zap l≤960000*l.length
 | [],_=>by simp[Zap]
 | x :: l,h=>by
  have h1:=Zel (h x (by simp));have h2:=ZeT (l:=l) fun y hy=>h y (by simp[hy]);simp only[Zap,Kq];omega
theorem Q3 {l:List Zc} (h:Zan l):∀ x∈l,VP x.Pane∧1≤x.Count∧x.Count≤24:=Zqd h.2.1
theorem Zqe {l:List Zc} (h:Zan l):0≤Zap l∧Zap l≤7680000:=by
 have h1:=ZeT (Q3 h);have:=h.1;omega
structure Zz where
 kind:Int
 label:Int
 box:Box
 line:Zc
 plan:Ze
def Zz.enc (e:Zz):D:=.agg ([J e.kind,J e.label,J e.box.X,J e.box.Y,J e.box.W,J e.box.H,J e.line.Pane.W,J e.line.Pane.H,.bool e.line.Pane.Turns,J e.line.Pane.Kind,J e.line.Count]++e.plan.enc.cells)
@[go_sem] theorem Zz.enc_mk (k l x y w h pw ph pk c o a p:Int) (pt t:Bool) (ks:List Ze):Zz.enc (Zz.mk k l (Box.mk x y w h) (Zc.mk (Pane.mk pw ph pt pk) c) (Ze.mk o a p t ks)) =
  .agg [J k,J l,J x,J y,J w,J h,J pw,J ph,.bool pt,J pk,J c,J o,J a,J p,.bool t,.sl (ks.map Ze.enc)]:=by
 simp only[Zz.enc,Ze.enc_mk];rfl
theorem Zz.enc_len (e:Zz):(Zz.enc e).cells.length=16:=by
 show (_++e.plan.enc.cells).length=16;rw[Kx,Ze.enc_len];rfl
@[go_sem] theorem uni_Event (l:List Zz):uni 16 (l.map Zz.enc)=True:=eq_true (ZaV l Zz.enc_len)
def ZF (s:Zq):Prop:=VSt s.Stock∧Zan s.Opn∧Zan s.Done∧0≤s.Lost∧s.Lost≤900000∧0≤s.Came∧s.Came≤900000∧YU s.Stock+Zap s.Done+s.Lost=s.Came
instance (s:Zq):Decidable (ZF s):=by unfold ZF;infer_instance
def YP (p:Zb):List Zb→List Zb
 | []=>[p]
 | x :: l=>if p.Label<x.Label then p :: x :: l else x :: YP p l
theorem Zw7 {l:List Zb} {k:Nat} {x p:Zb} (hx:l[k]?=some x):YP p (l.drop k)=if p.Label<x.Label then p :: l.drop k else x :: YP p (l.drop (k+1)):=by
 obtain⟨h1,h2⟩:=Kc.1 hx;rw[Ks h1,h2,YP]
theorem ZsZ (p:Zb):∀ (l:List Zb),(YP p l).length=l.length+1
 | []=>rfl
 | x :: l=>by
  unfold YP;split
  ·simp
  ·simp[ZsZ p l]
def ZgP (p:Pane) (c:Int) (x:Zc):Option Zc:=
 if x.Pane=p then (if 0<x.Count-c then some ⟨x.Pane,x.Count-c⟩ else none) else (if 0<x.Count then some x else none)
def Yd (l:List Zc) (p:Pane) (c:Int):List Zc:=l.filterMap (ZgP p c)
def Xl (p:Pane) (c:Int):Bool→List Zc→Bool
 | b,[]=>b
 | b,x :: l=>Xl p c (if x.Pane=p then decide (0≤x.Count-c) else b) l
theorem ZvI {l:List Zc} {k:Nat} {x:Zc} {p:Pane} {c:Int} {b:Bool} (hx:l[k]?=some x):Xl p c b (l.drop k)=Xl p c (if x.Pane=p then decide (0≤x.Count-c) else b) (l.drop (k+1)):=by
 obtain⟨h1,h2⟩:=Kc.1 hx;rw[Ks h1,h2,Xl]
theorem Zw8 {l:List Zc} {p:Pane} {c:Int} {b:Bool}:Xl p c b (l.drop l.length)=b:=by simp[Xl]
theorem Zw9 {l:List Zc} {i:Nat} {x:Zc} (p:Pane) (c:Int) (hx:l[i]?=some x):Yd (l.take (i+1)) p c=Yd (l.take i) p c++(ZgP p c x).toList:=by
 unfold Yd;rw[Ky,hx,LK];simp only[Option.toList_some,Lq,List.filterMap_nil];cases ZgP p c x<;>rfl
def Vi (p:Pane) (c:Int):List Zc→List Zc
 | []=>[⟨p,c⟩]
 | x :: l=>if x.Pane=p then ⟨x.Pane,x.Count+c⟩ :: l else x :: Vi p c l
theorem ZgQ (p:Pane) (c:Int):∀ (l:List Zc),(Vi p c l).length≤l.length+1
 | []=>by simp[Vi]
 | x :: l=>by
  unfold Vi;split
  ·simp
  ·have:=ZgQ p c l;simp;omega
theorem Zuo (p:Pane) (c:Int):∀ (l:List Zc) (i:Nat) (x:Zc),l[i]?=some x→x.Pane=p→p∉(l.take i).map Zc.Pane→Vi p c l=l.set i ⟨x.Pane,x.Count+c⟩
 | [],i,x,h,_,_=>by simp at h
 | y :: l,0,x,h,e,_=>by
  simp only[KL,Option.some.injEq] at h;subst h;simp[Vi,e]
 | y :: l,i+1,x,h,e,hn=>by
  simp only[KH] at h;simp only[L7,Ko,Kf,not_or] at hn;have ih:=Zuo p c l i x h e hn.2;simp only[Vi,Kg (fun e' : y.Pane=p=>hn.1 e'.symm),Kad,ih]
theorem Zup (p:Pane) (c:Int):∀ (l:List Zc),p∉l.map Zc.Pane→Vi p c l=l++[⟨p,c⟩]
 | [],_=>rfl
 | y :: l,hn=>by
  simp only[Ko,Kf,not_or] at hn;simp only[Vi,Kg (fun e' : y.Pane=p=>hn.1 e'.symm),Zup p c l hn.2,KJ]
theorem Zpo (qW qH:Int) (qT:Bool) (qK qC:Int) (pW pH:Int) (pT:Bool) (pK:Int):Zd Xs Ms Y2 [(.d (.agg [J qW,J qH,.bool qT,J qK,J qC])),.ptr 0 0] [.box [(.d (J pW)),(.d (J pH)),(.d (.bool pT)),(.d (J pK))]]=some ((.d (.bool (decide ((Pane.mk qW qH qT qK)=(Pane.mk pW pH pT pK))))),[.box [(.d (J pW)),(.d (J pH)),(.d (.bool pT)),(.d (J pK))]]):=by
 refine cE ?_;simp +contextual -implicitDefEqProofs (maxSteps:=10^7) only[go_sem,seval,↓gZ,ZcA];try exact ZcL (by simp only[Pane.mk.injEq,and_assoc])
theorem Zst (l:List Zc) (pW pH:Int) (pT:Bool) (pK:Int) (hl:l.length<4611686018427387904):Zd Xs Ms Xg [(.d (.sl (l.map Zc.enc))),.clo Y2 [.ptr 0 0]] [.box [(.d (J pW)),(.d (J pH)),(.d (.bool pT)),(.d (J pK))]]=some ((.d (J (Vb 0 l (Pane.mk pW pH pT pK)))),[.box [(.d (J pW)),(.d (J pH)),(.d (.bool pT)),(.d (J pK))]]):=by
 refine cE ?_;simp +contextual -implicitDefEqProofs (maxSteps:=10^7) only[go_sem,seval,↓gZ,VV];refine LO (α:=Nat) (fun k=>[(8,.d (J (k:Int)))]) (fun _=>[]) (fun k=>k≤l.length∧Vb k (l.drop k) (Pane.mk pW pH pT pK)=Vb 0 l (Pane.mk pW pH pT pK)) (fun k=>l.length-k) 0 ⟨by omega,rfl⟩ ?_;intro k ⟨hk,hp⟩ ih;by_cases aa:k<l.length
 ·obtain⟨x,hx⟩:=Zo aa;rw[Zw6 hx] at hp;have hw:=Zh (k:=k) (by omega);have e1:=Zpo x.Pane.W x.Pane.H x.Pane.Turns x.Pane.Kind x.Count pW pH pT pK;obtain⟨⟨W,H,T,K⟩,C⟩:=x;simp only at hp e1;by_cases h:(⟨W,H,T,K⟩:Pane)=(Pane.mk pW pH pT pK)
  ·rw[Kj h] at hp;rw[Kh h] at e1;simp +contextual -implicitDefEqProofs (maxSteps:=10^7) only[go_sem,seval,↓gZ,hx,aa,hw,e1];rw[← hp]
  ·rw[Kg h] at hp;rw[Ki h] at e1;simp +contextual -implicitDefEqProofs (maxSteps:=10^7) only[go_sem,seval,↓gZ,hx,aa,hw,e1];refine ih (k+1) _ ⟨by omega,hp⟩ (by omega) ?_;simp +contextual -implicitDefEqProofs (maxSteps:=10^7) only[go_sem,seval,↓gZ]
 ·have:k=l.length:=by omega
  subst this;simp +contextual -implicitDefEqProofs (maxSteps:=10^7) only[go_sem,seval,↓gZ];rw[← hp];simp[Vb]
theorem ZdG (l:List Zc) (pW pH:Int) (pT:Bool) (pK:Int) (hl:l.length<4611686018427387904):Zd Xs Ms Vl [(.d (.sl (l.map Zc.enc))),(.d (.agg [J pW,J pH,.bool pT,J pK]))] []=some ((.d (J (Vb 0 l (Pane.mk pW pH pT pK)))),[]):=by
 refine cE ?_;simp +contextual -implicitDefEqProofs (maxSteps:=10^7) only[go_sem,seval,↓gZ,Ze8,Zst l pW pH pT pK hl]
theorem Zbm (l:List Zc):Zd Xs Ms Yg [(.d (.sl (l.map Zc.enc)))] []=some ((.d (.bool (decide (Zan l)))),[]):=by
 by_cases h8:(8:Int)<(l.length:Int)
 ·have hn:¬Zan l:=fun h=>by have:=h.1;omega
  refine cE ?_;simp +contextual -implicitDefEqProofs (maxSteps:=10^7) only[go_sem,seval,↓gZ,JL,h8,hn]
 ·have ah:l.length≤8:=by omega
  refine cE ?_;simp +contextual -implicitDefEqProofs (maxSteps:=10^7) only[go_sem,seval,↓gZ,JL,h8];refine LO (α:=Nat) (fun i=>[(11,.d (J (i:Int))),(3,.d (J (24-Qr (l.take i))))]) (fun _=>[]) (fun i=>i≤l.length∧(Zkg [] l↔Zkg ((l.take i).map Zc.Pane) (l.drop i))∧0≤Qr (l.take i)∧Qr (l.take i)≤24) (fun i=>l.length-i) 0 ⟨by simp,by simp,by simp[Qr],by simp[Qr]⟩ ?_;intro i ⟨hi,hp,aj,ae⟩ ih;by_cases aa:i<l.length
  ·obtain⟨x,hx⟩:=Zo aa;have hw:=Zh (k:=i) (by omega);rw[ZsW hx,← Zao hx] at hp;have ev:=U9 x.Pane.W x.Pane.H x.Pane.Turns x.Pane.Kind;have ef:=ZdG l x.Pane.W x.Pane.H x.Pane.Turns x.Pane.Kind (by omega);have ab:=ZvG l 0 i x hx;have af:=ZsX hx;obtain⟨⟨W,H,T,K⟩,C⟩:=x;simp only[LH] at hp ev ef ab af;by_cases hv:VP ⟨W,H,T,K⟩
   ·rw[Kh hv] at ev;by_cases hf:Vb 0 l ⟨W,H,T,K⟩=(i:Int)
    ·rw[hf] at ef;by_cases ad:C<1
     ·have hn:¬Zan l:=fun h=>by have:=(hp.1 h.2.1).2.2.1;omega
      simp +contextual -implicitDefEqProofs (maxSteps:=10^7) only[go_sem,seval,↓gZ,hx,aa,hw,ev,ef,ad,hn]
     ·by_cases ag:24-Qr (l.take i)<C
      ·have hn:¬Zan l:=fun h=>by
        have:=ZvF (l:=l) (i:=i+1) (fun x hx=>(Zqd h.2.1 x hx).2.1);have:=h.2.2;omega
       simp +contextual -implicitDefEqProofs (maxSteps:=10^7) only[go_sem,seval,↓gZ,hx,aa,hw,ev,ef,ad,ag,hn]
      ·have ai:=wi (24-Qr (l.take i)-C) (by omega) (by omega);simp +contextual -implicitDefEqProofs (maxSteps:=10^7) only[go_sem,seval,↓gZ,hx,aa,hw,ev,ef,ad,ag,ai];refine ih (i+1) _ ⟨by omega,?_,by omega,by omega⟩ (by omega) ?_
       ·rw[hp];exact⟨fun h=>h.2.2.2.2,fun h=>⟨hv,ab.1 hf,by omega,by omega,h⟩⟩
       ·simp +contextual -implicitDefEqProofs (maxSteps:=10^7) only[go_sem,seval,↓gZ,af];try (simp;omega)
    ·have hn:¬Zan l:=fun h=>hf (ab.2 (hp.1 h.2.1).2.1);simp +contextual -implicitDefEqProofs (maxSteps:=10^7) only[go_sem,seval,↓gZ,hx,aa,hw,ev,ef,hf,hn]
   ·rw[Ki hv] at ev;have hn:¬Zan l:=fun h=>hv (hp.1 h.2.1).1;simp +contextual -implicitDefEqProofs (maxSteps:=10^7) only[go_sem,seval,↓gZ,hx,aa,hw,ev,hn]
  ·have:i=l.length:=by omega
   subst this;rw[KC (Kl _)] at ae;have hy:Zan l:=⟨ah,hp.2 ZvD,ae⟩
   simp +contextual -implicitDefEqProofs (maxSteps:=10^7) only[go_sem,seval,↓gZ,hy]
theorem Zqf (l:List Zc) (hv:Zan l):Zd Xs Ms Ui [(.d (.sl (l.map Zc.enc)))] []=some ((.d (J (Zap l))),[]):=by
 have ev:=Zbm l;rw[Kh hv] at ev;have h8:=hv.1;have aa:=Q3 hv;clear hv;refine cE ?_;simp +contextual -implicitDefEqProofs (maxSteps:=10^7) only[go_sem,seval,↓gZ,ZdR,ev];refine LO (α:=Nat) (fun i=>[(11,.d (J (i:Int))),(3,.d (J (Zap (l.take i))))]) (fun _=>[]) (fun i=>i≤l.length) (fun i=>l.length-i) 0 (by omega) ?_;intro i hi ih;by_cases ab:i<l.length
 ·obtain⟨x,hx⟩:=Zo ab;have hw:=Zh (k:=i) (by omega);have hm:=ZsY hx;have ad:=ZeT (l:=l.take i) (fun y hy=>aa y (Lk hy));have ae:(l.take i).length≤i:=by simp;omega
  have g5:=Zel (aa x (Kb hx));obtain⟨⟨W,H,T,K⟩,C⟩:=x;simp only at g5 hm;have u0:=wi (C*W) (by omega) (by omega);have u1:=wi (C*W*H) (by omega) (by omega);have u2:=wi (Zap (l.take i)+C*W*H) (by omega) (by omega);simp +contextual -implicitDefEqProofs (maxSteps:=10^7) only[go_sem,seval,↓gZ,hx,ab,hw,u0,u1,u2];refine ih (i+1) _ (by omega) (by omega) ?_;simp +contextual -implicitDefEqProofs (maxSteps:=10^7) only[go_sem,seval,↓gZ,hm]
 ·have:i=l.length:=by omega
  subst this;simp +contextual -implicitDefEqProofs (maxSteps:=10^7) only[go_sem,seval,↓gZ];simp
theorem Zf9 (l:List Zc) (hl:l.length≤1048576):Zd Xs Ms YY [(.d (.sl (l.map Zc.enc)))] []=some ((.d (.bool (decide (Zan l)))),[]):=by
 refine cE ?_;simp +contextual -implicitDefEqProofs (maxSteps:=10^7) only[go_sem,seval,↓gZ,Zcw];refine LO (α:=Nat) (fun i=>[(4,.d (J (i:Int))),(3,.d (J (Qr (l.take i))))]) (fun _=>[]) (fun i=>i≤l.length∧(Zkg [] l↔Zkg ((l.take i).map Zc.Pane) (l.drop i))∧0≤Qr (l.take i)∧Qr (l.take i)≤24*i) (fun i=>l.length-i) 0 ⟨by simp,by simp,by simp[Qr],by simp[Qr]⟩ ?_;intro i ⟨hi,hp,al,am⟩ ih;by_cases aa:i<l.length
 ·obtain⟨x,hx⟩:=Zo aa;have hw:=Zh (k:=i) (by omega);rw[ZsW hx,← Zao hx] at hp;have ev:=Zb3 x.Pane.W x.Pane.H x.Pane.Turns x.Pane.Kind;have ae:=ZsX hx;obtain⟨⟨W,H,T,K⟩,C⟩:=x;simp only at hp ev ae;by_cases hv:VP ⟨W,H,T,K⟩
  ·rw[Kh hv] at ev;by_cases hC:1≤C∧C≤24
   ·have er:=ZJ C 1 24;rw[Kh hC] at er;simp +contextual -implicitDefEqProofs (maxSteps:=10^7) only[go_sem,seval,↓gZ,hx,aa,hw,ev,er];refine Qw Xs Ms (st0:=?st1) (α:=Nat) (fun k=>[(5,.d (J (k:Int)))]) (fun _=>[]) (fun k=>k≤i∧(⟨W,H,T,K⟩:Pane)∉(l.take k).map Zc.Pane) (fun k=>i-k) 0 ?hc2 ⟨by omega,by simp⟩ ?h02 ?step2
    case hc2=>simp +contextual -implicitDefEqProofs (maxSteps:=10^7) only[go_sem,seval,↓gZ]<;>exact rfl
    case h02=>rfl
    case step2=>
     intro k ⟨hk,hq⟩ ai;by_cases ab:k<i
     ·obtain⟨y,hy⟩:=Zo (l:=l) (k:=k) (by omega);have af:k<l.length:=by omega
      have ag:=Zh (k:=k) (by omega);have ah:=Zao hy;obtain⟨⟨W',H',T',K'⟩,C'⟩:=y;simp only at ah;by_cases he:(⟨W',H',T',K'⟩:Pane)=⟨W,H,T,K⟩
      ·have ad:(⟨W,H,T,K⟩:Pane)∈(l.take i).map Zc.Pane:=by
        rw[← he];have h3:(l.take i)[k]?=some ⟨⟨W',H',T',K'⟩,C'⟩:=by rw[List.getElem?_take_of_lt ab];exact hy
        exact Li.2 ⟨_,Kb h3,rfl⟩
       have hn:¬Zan l:=fun h=>(hp.1 h.2.1).2.1 ad;simp only[Pane.mk.injEq] at he;simp +contextual -implicitDefEqProofs (maxSteps:=10^7) only[go_sem,seval,↓gZ,hx,aa,hw,hy,ab,af,ag,he,hn]
      ·have aj:=he;simp only[Pane.mk.injEq] at he;simp +contextual -implicitDefEqProofs (maxSteps:=10^7) only[go_sem,seval,↓gZ,hx,aa,hw,hy,ab,af,ag,he];refine ai (k+1) _ ⟨by omega,?_⟩ (by omega) ?_
       ·rw[ah,Ke];intro h;rcases h with h | h
        ·exact hq h
        ·exact aj (KP.1 h).symm
       ·simp +contextual -implicitDefEqProofs (maxSteps:=10^7) only[go_sem,seval,↓gZ]
     ·have:k=i:=by omega
      subst this;have ak:=wi (Qr (l.take k)+C) (by omega) (by omega);simp +contextual -implicitDefEqProofs (maxSteps:=10^7) only[go_sem,seval,↓gZ,hx,aa,hw,ab,ak];refine ih (k+1) _ ⟨by omega,?_,by omega,by omega⟩ (by omega) ?_
      ·rw[hp];exact⟨fun h=>h.2.2.2.2,fun h=>⟨hv,hq,hC.1,hC.2,h⟩⟩
      ·simp +contextual -implicitDefEqProofs (maxSteps:=10^7) only[go_sem,seval,↓gZ,ae]
   ·have er:=ZJ C 1 24;rw[Ki hC] at er;have hn:¬Zan l:=fun h=>hC ⟨(hp.1 h.2.1).2.2.1,(hp.1 h.2.1).2.2.2.1⟩;simp +contextual -implicitDefEqProofs (maxSteps:=10^7) only[go_sem,seval,↓gZ,hx,aa,hw,ev,er,hn]
  ·rw[Ki hv] at ev;have hn:¬Zan l:=fun h=>hv (hp.1 h.2.1).1;simp +contextual -implicitDefEqProofs (maxSteps:=10^7) only[go_sem,seval,↓gZ,hx,aa,hw,ev,hn]
 ·have:i=l.length:=by omega
  subst this;have hs:=hp.2 ZvD;rw[KC (Kl _)];simp +contextual -implicitDefEqProofs (maxSteps:=10^7) only[go_sem,seval,↓gZ];exact ZcL (by simp only[Zan];constructor<;>(intro h;first | exact⟨by omega,hs,by omega⟩ | (have:=h.1;have:=h.2.2;omega)))
theorem ZvJ {l:List Zb} (hv:VSt l):∀ x∈l,1≤x.W∧x.W≤200∧1≤x.H∧x.H≤200:=fun x hx=>by
 have:=(Z0 hv.2 x hx).1;omega
theorem ZnY {l:List Zb} (hv:VSt l):0≤YU l∧YU l≤800000:=by
 have h1:=ZbE (ZvJ hv);have:=hv.1;omega
theorem Zqg (l:List Zb) (hv:VSt l):Zd Xs Ms Uk [(.d (.sl (l.map Zb.enc)))] []=some ((.d (J (YU l))),[]):=by
 have af:=hv.1;have aa:=ZvJ hv;clear hv;refine cE ?_;simp +contextual -implicitDefEqProofs (maxSteps:=10^7) only[go_sem,seval,↓gZ,ZdV];refine LO (α:=Nat) (fun i=>[(4,.d (J (i:Int))),(3,.d (J (YU (l.take i))))]) (fun _=>[]) (fun i=>i≤l.length) (fun i=>l.length-i) 0 (by omega) ?_;intro i hi ih;by_cases ab:i<l.length
 ·obtain⟨x,hx⟩:=Zo ab;have hw:=Zh (k:=i) (by omega);have hm:=Zp6 hx;have ag:=ZbE (l:=l.take i) (fun y hy=>aa y (Lk hy));have ah:(l.take i).length≤i:=by simp;omega
  have g5:=aa x (Kb hx);have ad:x.W*x.H≤200*200:=Kao (by omega) (by omega) (by omega) (by omega);have ae:0≤x.W*x.H:=Kan (by omega) (by omega);obtain⟨xL,xW,xH,xF⟩:=x;simp only at g5 hm ad ae;have u0:=wi (xW*xH) (by omega) (by omega);have u1:=wi (YU (l.take i)+xW*xH) (by omega) (by omega);simp +contextual -implicitDefEqProofs (maxSteps:=10^7) only[go_sem,seval,↓gZ,hx,ab,hw,u0,u1];refine ih (i+1) _ (by omega) (by omega) ?_;simp +contextual -implicitDefEqProofs (maxSteps:=10^7) only[go_sem,seval,↓gZ,hm]
 ·have:i=l.length:=by omega
  subst this;simp +contextual -implicitDefEqProofs (maxSteps:=10^7) only[go_sem,seval,↓gZ];simp
theorem Zqh (l:List Zc) (hv:Zan l):Zd Xs Ms Ul [(.d (.sl (l.map Zc.enc)))] []=some ((.d (J (Zap l))),[]):=by
 have h8:=hv.1;have aa:=Q3 hv;clear hv;refine cE ?_;simp +contextual -implicitDefEqProofs (maxSteps:=10^7) only[go_sem,seval,↓gZ,ZdW];refine LO (α:=Nat) (fun i=>[(4,.d (J (i:Int))),(3,.d (J (Zap (l.take i))))]) (fun _=>[]) (fun i=>i≤l.length) (fun i=>l.length-i) 0 (by omega) ?_;intro i hi ih;by_cases ab:i<l.length
 ·obtain⟨x,hx⟩:=Zo ab;have hw:=Zh (k:=i) (by omega);have hm:=ZsY hx;have ad:=ZeT (l:=l.take i) (fun y hy=>aa y (Lk hy));have ae:(l.take i).length≤i:=by simp;omega
  have g5:=Zel (aa x (Kb hx));obtain⟨⟨W,H,T,K⟩,C⟩:=x;simp only at g5 hm;have u0:=wi (C*W) (by omega) (by omega);have u1:=wi (C*W*H) (by omega) (by omega);have u2:=wi (Zap (l.take i)+C*W*H) (by omega) (by omega);simp +contextual -implicitDefEqProofs (maxSteps:=10^7) only[go_sem,seval,↓gZ,hx,ab,hw,u0,u1,u2];refine ih (i+1) _ (by omega) (by omega) ?_;simp +contextual -implicitDefEqProofs (maxSteps:=10^7) only[go_sem,seval,↓gZ,hm]
 ·have:i=l.length:=by omega
  subst this;simp +contextual -implicitDefEqProofs (maxSteps:=10^7) only[go_sem,seval,↓gZ];simp
theorem Zsu (sS:List Zb) (sO sD:List Zc) (sL sC:Int) (h1:VSt sS) (h2:Zan sD) (h3:0≤sL∧sL≤100000000):Zd Xs Ms Jq [(.d (.agg [.sl (sS.map Zb.enc),.sl (sO.map Zc.enc),.sl (sD.map Zc.enc),J sL,J sC]))] []=some ((.d (J (YU sS+Zap sD+sL))),[]):=by
 have e1:=Zqg sS h1;have e2:=Zqh sD h2;have b1:=ZnY h1;have b2:=Zqe h2;have u0:=wi (YU sS+Zap sD) (by omega) (by omega);have u1:=wi (YU sS+Zap sD+sL) (by omega) (by omega);refine cE ?_;simp +contextual -implicitDefEqProofs (maxSteps:=10^7) only[go_sem,seval,↓gZ,Ze4,e1,e2,u0,u1]
def Zcc (s:Zq):Prop:=s.Stock.length≤1048576∧(∀ x∈s.Stock,x.Flaws.length≤1048576∧R64 x.W∧R64 x.H)∧s.Opn.length≤1048576∧s.Done.length≤1048576
theorem Zln {x:Zb} (h:VPc x):R64 x.W∧R64 x.H:=by
 have:=h.1;unfold R64;omega
theorem Ub {s:Zq} (h:ZF s):Zcc s:=
 ⟨by have:=h.1.1;omega,fun x hx=>⟨(ZbU h.1).2 x hx,Zln (Z0 h.1.2 x hx)⟩,by have:=h.2.1.1;omega,by have:=h.2.2.1.1;omega⟩
theorem Jh (sS:List Zb) (sO sD:List Zc) (sL sC:Int) (hs:Zcc (Zq.mk sS sO sD sL sC)):Zd Xs Ms YG [(.d (.agg [.sl (sS.map Zb.enc),.sl (sO.map Zc.enc),.sl (sD.map Zc.enc),J sL,J sC]))] []=some ((.d (.bool (decide (ZF (Zq.mk sS sO sD sL sC))))),[]):=by
 obtain⟨h1,h2,h3,h4⟩:=hs;simp only at h1 h2 h3 h4;have e1:=UA sS (by omega) (fun x hx=>⟨by have:=(h2 x hx).1;omega,(h2 x hx).2⟩);have e2:=Zf9 sO h3;have e3:=Zf9 sD h4;have e4:=ZJ sL 0 900000;have e5:=ZJ sC 0 900000;refine cE ?_;by_cases v1:VSt sS
 ·rw[Kh v1] at e1;by_cases v2:Zan sO
  ·rw[Kh v2] at e2;by_cases v3:Zan sD
   ·rw[Kh v3] at e3;by_cases v4:0≤sL∧sL≤900000
    ·rw[Kh v4] at e4;by_cases v5:0≤sC∧sC≤900000
     ·rw[Kh v5] at e5;have e6:=Zsu sS sO sD sL sC v1 v3 (by omega);simp +contextual -implicitDefEqProofs (maxSteps:=10^7) only[go_sem,seval,↓gZ,X7,e1,e2,e3,e4,e5,e6];exact ZcL ⟨fun h=>⟨v1,v2,v3,v4.1,v4.2,v5.1,v5.2,h⟩,fun h=>h.2.2.2.2.2.2.2⟩
     ·rw[Ki v5] at e5;have hn:¬ZF (Zq.mk sS sO sD sL sC):=fun h=>v5 ⟨h.2.2.2.2.2.1,h.2.2.2.2.2.2.1⟩;simp +contextual -implicitDefEqProofs (maxSteps:=10^7) only[go_sem,seval,↓gZ,X7,e1,e2,e3,e4,e5,hn]
    ·rw[Ki v4] at e4;have hn:¬ZF (Zq.mk sS sO sD sL sC):=fun h=>v4 ⟨h.2.2.2.1,h.2.2.2.2.1⟩;simp +contextual -implicitDefEqProofs (maxSteps:=10^7) only[go_sem,seval,↓gZ,X7,e1,e2,e3,e4,hn]
   ·rw[Ki v3] at e3;have hn:¬ZF (Zq.mk sS sO sD sL sC):=fun h=>v3 h.2.2.1;simp +contextual -implicitDefEqProofs (maxSteps:=10^7) only[go_sem,seval,↓gZ,X7,e1,e2,e3,hn]
  ·rw[Ki v2] at e2;have hn:¬ZF (Zq.mk sS sO sD sL sC):=fun h=>v2 h.2.1;simp +contextual -implicitDefEqProofs (maxSteps:=10^7) only[go_sem,seval,↓gZ,X7,e1,e2,hn]
 ·rw[Ki v1] at e1;have hn:¬ZF (Zq.mk sS sO sD sL sC):=fun h=>v1 h.1;simp +contextual -implicitDefEqProofs (maxSteps:=10^7) only[go_sem,seval,↓gZ,X7,e1,hn]
theorem ZN (sS:List Zb) (sO sD:List Zc) (sL sC:Int):Zd Xs Ms Xt [(.d (.agg [.sl (sS.map Zb.enc),.sl (sO.map Zc.enc),.sl (sD.map Zc.enc),J sL,J sC]))] []=some ((.d (.bool (decide (ZF (Zq.mk sS sO sD sL sC))))),[]):=by
 have e1:=Yo sS;have e2:=Zbm sO;have e3:=Zbm sD;refine cE ?_;by_cases v1:VSt sS
 ·rw[Kh v1] at e1;by_cases v2:Zan sO
  ·rw[Kh v2] at e2;by_cases v3:Zan sD
   ·rw[Kh v3] at e3;by_cases v4:((sL<0∨900000<sL)∨sC<0)∨900000<sC
    ·have hn:¬ZF (Zq.mk sS sO sD sL sC):=fun h=>by
      obtain⟨_,_,_,h1,h2,h3,h4,_⟩:=h;simp only at h1 h2 h3 h4;omega
     simp +contextual -implicitDefEqProofs (maxSteps:=10^7) only[go_sem,seval,↓gZ,YL,e1,e2,e3,v4,hn,← KZ]
    ·have e4:=Zqc sS v1;have e5:=Zqf sD v3;have b1:=ZnY v1;have b2:=Zqe v3;have u0:=wi (YU sS+Zap sD) (by omega) (by omega);have u1:=wi (YU sS+Zap sD+sL) (by omega) (by omega);simp +contextual -implicitDefEqProofs (maxSteps:=10^7) only[go_sem,seval,↓gZ,YL,e1,e2,e3,v4,e4,e5,u0,u1,← KZ];exact ZcL ⟨fun h=>⟨v1,v2,v3,by simp only;omega,by simp only;omega,by simp only;omega,by simp only;omega,h⟩,fun h=>h.2.2.2.2.2.2.2⟩
   ·rw[Ki v3] at e3;have hn:¬ZF (Zq.mk sS sO sD sL sC):=fun h=>v3 h.2.2.1;simp +contextual -implicitDefEqProofs (maxSteps:=10^7) only[go_sem,seval,↓gZ,YL,e1,e2,e3,hn]
  ·rw[Ki v2] at e2;have hn:¬ZF (Zq.mk sS sO sD sL sC):=fun h=>v2 h.2.1;simp +contextual -implicitDefEqProofs (maxSteps:=10^7) only[go_sem,seval,↓gZ,YL,e1,e2,hn]
 ·rw[Ki v1] at e1;have hn:¬ZF (Zq.mk sS sO sD sL sC):=fun h=>v1 h.1;simp +contextual -implicitDefEqProofs (maxSteps:=10^7) only[go_sem,seval,↓gZ,YL,e1,hn]
end Go.Proofs.YthgciclhiaoecaaGreat
