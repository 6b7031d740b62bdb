/- Own text. -/
import Derived.Test.YtbpekaejmjlmfaaGreatACode
import Derived.Test.YtbpekaejmjlmfaaGreatAbsParts
import Derived.Test.YtbpekaejmjlmfaaGreatAC4
import Derived.Test.YtbpekaejmjlmfaaGreatAC1
namespace Go.Proofs.YtbpekaejmjlmfaaGreat
open Go Go.Abs Go.Abs.E Go.Abs.L
open Nat (reduceMul reduceSub reduceLeDiff reduceEqDiff)
open Int (reduceLE reduceEq reduceToNat reduceNeg)
set_option linter.unusedSimpArgs false
set_option linter.unusedVariables false
set_option maxRecDepth 20000
set_option maxHeartbeats 4000000
def Zjr:List Pane→List Zc→Prop
 | _,[]=>True
 | q,x :: l=>VP x.Pane∧x.Pane∉q∧1≤x.Count∧x.Count≤24∧Zjr (q++[x.Pane]) l
instance ordGdec:∀ (q:List Pane) (l:List Zc),Decidable (Zjr q l)
 | _,[]=>.isTrue trivial
 | q,x :: l=>by
  unfold Zjr;have:=ordGdec (q++[x.Pane]) l
  infer_instance
def Qq:List Zc→Int
 | []=>0
 | x :: l=>x.Count+Qq l
def Zbj (l:List Zc):Prop:=l.length≤8∧Zjr [] l∧Qq l≤24
instance (l:List Zc):Decidable (Zbj l):=by unfold Zbj;infer_instance
theorem ZsP {l:List Zc} {k:Nat} {x:Zc} {q:List Pane} (hx:l[k]?=some x):Zjr q (l.drop k)↔VP x.Pane∧x.Pane∉q∧1≤x.Count∧x.Count≤24∧Zjr (q++[x.Pane]) (l.drop (k+1)):=by
 obtain⟨h1,h2⟩:=Kc.1 hx;rw[Ku h1,h2,Zjr]
theorem ZvN {l:List Zc} {q:List Pane}:Zjr q (l.drop l.length):=by simp[Zjr]
theorem Zbk {l:List Zc} {k:Nat} {x:Zc} (hx:l[k]?=some x):(l.take (k+1)).map Zc.Pane=(l.take k).map Zc.Pane++[x.Pane]:=by
 rw[Kw,hx];simp
theorem ZmF (a b:List Zc):Qq (a++b)=Qq a+Qq b:=by
 induction a with
 | nil=>simp[Qq]
 | cons c l ih=>simp only[KK,Qq,ih];omega
theorem ZsQ {l:List Zc} {i:Nat} {x:Zc} (hx:l[i]?=some x):Qq (l.take (i+1))=Qq (l.take i)+x.Count:=by
 rw[Kw,hx,ZmF];simp[Qq]
theorem Zo8:∀ {l:List Zc} {q:List Pane},Zjr q l→∀ x∈l,VP x.Pane∧1≤x.Count∧x.Count≤24
 | [],_,_,x,hx=>by simp at hx
 | y :: l,q,h,x,hx=>by
  rcases Kg.1 hx with rfl | hx
  ·exact⟨h.1,h.2.2.1,h.2.2.2.1⟩
  ·exact Zo8 h.2.2.2.2 x hx
theorem ZvO:∀ {l:List Zc},(∀ x∈l,1≤x.Count)→0≤Qq l
 | [],_=>by simp[Qq]
 | x :: l,h=>by
  have h1:=h x (by simp);have h2:=ZvO (l:=l) fun y hy=>h y (by simp[hy]);simp only[Qq];omega
theorem ZvP {l:List Zc} {i:Nat} (h:∀ x∈l,1≤x.Count):Qq (l.take i)≤Qq l:=by
 have e:Qq l=Qq (l.take i)+Qq (l.drop i):=by rw[← ZmF,LM]
 have:=ZvO (l:=l.drop i) fun y hy=>h y (LY hy);omega
def VI:Nat→List Zc→Pane→Int
 | _,[],_=>-1
 | k,x :: l,p=>if x.Pane=p then (k:Int) else VI (k+1) l p
theorem Zxz {l:List Zc} {k:Nat} {x:Zc} {p:Pane} (hx:l[k]?=some x):VI k (l.drop k) p=if x.Pane=p then (k:Int) else VI (k+1) (l.drop (k+1)) p:=by
 obtain⟨h1,h2⟩:=Kc.1 hx;rw[Ku h1,h2,VI]
theorem ZvQ:∀ (l:List Zc) (k i:Nat) (x:Zc),l[i]?=some x→(VI k l x.Pane=((k+i:Nat):Int)↔x.Pane∉(l.take i).map Zc.Pane)
 | [],k,i,x,h=>by simp at h
 | y :: l,k,0,x,h=>by
  simp only[K3,Option.some.injEq] at h;subst h;simp[VI]
 | y :: l,k,i+1,x,h=>by
  simp only[KF] at h;have ih:=ZvQ l (k+1) i x h;simp only[VI,L5,Ko,Kg,not_or];split
  ·rename_i e;constructor
   ·intro h;omega
   ·intro h;exact absurd e.symm h.1
  ·rename_i e;rw[show k+1+i=k+(i+1) by omega] at ih;rw[ih];exact⟨fun h=>⟨fun e'=>e e'.symm,h⟩,fun h=>h.2⟩
def Za6:List Zc→Int
 | []=>0
 | x :: l=>x.Count*x.Pane.W*x.Pane.H+Za6 l
theorem ZvR (a b:List Zc):Za6 (a++b)=Za6 a+Za6 b:=by
 induction a with
 | nil=>simp[Za6]
 | cons c l ih=>simp only[KK,Za6,ih];omega
theorem ZsR {l:List Zc} {i:Nat} {x:Zc} (hx:l[i]?=some x):Za6 (l.take (i+1))=Za6 (l.take i)+x.Count*x.Pane.W*x.Pane.H:=by
 rw[Kw,hx,ZvR];simp[Za6]
theorem ZcI {x:Zc} (h:VP x.Pane∧1≤x.Count∧x.Count≤24):0≤x.Count*x.Pane.W∧x.Count*x.Pane.W≤4800∧0≤x.Count*x.Pane.W*x.Pane.H∧x.Count*x.Pane.W*x.Pane.H≤960000:=by
 obtain⟨h1,h2,h3⟩:=h;simp only[VP] at h1;have a1:0≤x.Count*x.Pane.W:=L8 (by omega) (by omega);have a2:x.Count*x.Pane.W≤24*200:=L9 (by omega) (by omega) (by omega) (by omega);have a3:0≤x.Count*x.Pane.W*x.Pane.H:=L8 (by omega) (by omega);have a4:x.Count*x.Pane.W*x.Pane.H≤4800*200:=L9 (by omega) (by omega) (by omega) (by omega);omega
theorem ZfF:∀ {l:List Zc},(∀ x∈l,VP x.Pane∧1≤x.Count∧x.Count≤24)→0≤Za6 l∧Za6 l≤960000*l.length
 | [],_=>by simp[Za6]
 | x :: l,h=>by
  have h1:=ZcI (h x (by simp));have h2:=ZfF (l:=l) fun y hy=>h y (by simp[hy]);simp only[Za6,Km];omega
theorem QO {l:List Zc} (h:Zbj l):∀ x∈l,VP x.Pane∧1≤x.Count∧x.Count≤24:=Zo8 h.2.1
theorem Zo9 {l:List Zc} (h:Zbj l):0≤Za6 l∧Za6 l≤7680000:=by
 have h1:=ZfF (QO h);have:=h.1;omega
structure Zx where
 kind:Int
 label:Int
 box:Box
 line:Zc
 plan:Ze
def Zx.enc (e:Zx):D:=.agg ([J e.kind,J e.label,J e.box.X,J e.box.Y,J e.box.W,J e.box.H,J e.line.Pane.W,J e.line.Pane.H,.bool e.line.Pane.Turns,J e.line.Pane.Kind,J e.line.Count]++e.plan.enc.cells)
@[go_sem] theorem Zx.enc_mk (k l x y w h pw ph pk c o a p:Int) (pt t:Bool) (ks:List Ze):Zx.enc (Zx.mk k l (Box.mk x y w h) (Zc.mk (Pane.mk pw ph pt pk) c) (Ze.mk o a p t ks)) =
  .agg [J k,J l,J x,J y,J w,J h,J pw,J ph,.bool pt,J pk,J c,J o,J a,J p,.bool t,.sl (ks.map Ze.enc)]:=by
 simp only[Zx.enc,Ze.enc_mk];rfl
theorem Zx.enc_len (e:Zx):(Zx.enc e).cells.length=16:=by
 show (_++e.plan.enc.cells).length=16;rw[Kp,Ze.enc_len];rfl
@[go_sem] theorem uni_Event (l:List Zx):uni 16 (l.map Zx.enc)=True:=eq_true (ZaT l Zx.enc_len)
def ZE (s:Zm):Prop:=VSt s.Stock∧Zbj s.Opn∧Zbj s.Done∧0≤s.Lost∧s.Lost≤900000∧0≤s.Came∧s.Came≤900000∧Vg s.Stock+Za6 s.Done+s.Lost=s.Came
instance (s:Zm):Decidable (ZE s):=by unfold ZE;infer_instance
def QC (p:Zb):List Zb→List Zb
 | []=>[p]
 | x :: l=>if p.Label<x.Label then p :: x :: l else x :: QC p l
theorem Zpa {l:List Zb} {k:Nat} {x p:Zb} (hx:l[k]?=some x):QC p (l.drop k)=if p.Label<x.Label then p :: l.drop k else x :: QC p (l.drop (k+1)):=by
 obtain⟨h1,h2⟩:=Kc.1 hx;rw[Ku h1,h2,QC]
theorem ZlF (p:Zb):∀ (l:List Zb),(QC p l).length=l.length+1
 | []=>rfl
 | x :: l=>by
  unfold QC;split
  ·simp
  ·simp[ZlF p l]
theorem ZsS (p:Zb):∀ (l:List Zb) (y:Zb),y∈QC p l→y=p∨y∈l
 | [],y,h=>by simpa [QC] using h
 | x :: l,y,h=>by
  unfold QC at h;split at h
  ·simpa using h
  ·rcases Kg.1 h with rfl | h
   ·exact .inr (by simp)
   ·rcases ZsS p l y h with h | h
    ·exact .inl h
    ·exact .inr (by simp[h])
def Zhg (p:Pane) (c:Int) (x:Zc):Option Zc:=
 if x.Pane=p then (if 0<x.Count-c then some ⟨x.Pane,x.Count-c⟩ else none) else (if 0<x.Count then some x else none)
def XS (l:List Zc) (p:Pane) (c:Int):List Zc:=l.filterMap (Zhg p c)
def Xe (p:Pane) (c:Int):Bool→List Zc→Bool
 | b,[]=>b
 | b,x :: l=>Xe p c (if x.Pane=p then decide (0≤x.Count-c) else b) l
theorem ZvS {l:List Zc} {k:Nat} {x:Zc} {p:Pane} {c:Int} {b:Bool} (hx:l[k]?=some x):Xe p c b (l.drop k)=Xe p c (if x.Pane=p then decide (0≤x.Count-c) else b) (l.drop (k+1)):=by
 obtain⟨h1,h2⟩:=Kc.1 hx;rw[Ku h1,h2,Xe]
theorem ZxA {l:List Zc} {p:Pane} {c:Int} {b:Bool}:Xe p c b (l.drop l.length)=b:=by simp[Xe]
theorem ZxB {l:List Zc} {i:Nat} {x:Zc} (p:Pane) (c:Int) (hx:l[i]?=some x):XS (l.take (i+1)) p c=XS (l.take i) p c++(Zhg p c x).toList:=by
 unfold XS;rw[Kw,hx,Lq];simp only[Ly,Le,List.filterMap_nil];cases Zhg p c x<;>rfl
def Yw (p:Pane) (c:Int):List Zc→List Zc
 | []=>[⟨p,c⟩]
 | x :: l=>if x.Pane=p then ⟨x.Pane,x.Count+c⟩ :: l else x :: Yw p c l
theorem Zc4 (p:Pane) (c:Int):∀ (l:List Zc),(Yw p c l).length≤l.length+1
 | []=>by simp[Yw]
 | x :: l=>by
  unfold Yw;split
  ·simp
  ·have:=Zc4 p c l;simp;omega
theorem Zud (p:Pane) (c:Int):∀ (l:List Zc) (i:Nat) (x:Zc),l[i]?=some x→x.Pane=p→p∉(l.take i).map Zc.Pane→Yw p c l=l.set i ⟨x.Pane,x.Count+c⟩
 | [],i,x,h,_,_=>by simp at h
 | y :: l,0,x,h,e,_=>by
  simp only[K3,Option.some.injEq] at h;subst h;simp[Yw,e]
 | y :: l,i+1,x,h,e,hn=>by
  simp only[KF] at h;simp only[L5,Ko,Kg,not_or] at hn;have ih:=Zud p c l i x h e hn.2;simp only[Yw,Ki (fun e' : y.Pane=p=>hn.1 e'.symm),Kac,ih]
theorem Zue (p:Pane) (c:Int):∀ (l:List Zc),p∉l.map Zc.Pane→Yw p c l=l++[⟨p,c⟩]
 | [],_=>rfl
 | y :: l,hn=>by
  simp only[Ko,Kg,not_or] at hn;simp only[Yw,Ki (fun e' : y.Pane=p=>hn.1 e'.symm),Zue p c l hn.2,KK]
theorem ZnJ (qW qH:Int) (qT:Bool) (qK qC:Int) (pW pH:Int) (pT:Bool) (pK:Int):Zd Xs Ms VC [(.d (.agg [J qW,J qH,.bool qT,J qK,J qC])),.ptr 0 0] [.box [(.d (J pW)),(.d (J pH)),(.d (.bool pT)),(.d (J pK))]]=some ((.d (.bool (decide ((Pane.mk qW qH qT qK)=(Pane.mk pW pH pT pK))))),[.box [(.d (J pW)),(.d (J pH)),(.d (.bool pT)),(.d (J pK))]]):=by
 refine cE ?_;simp +contextual -implicitDefEqProofs (maxSteps:=10^7) only[go_sem,seval,↓gZ,Zdr];try exact Zcn (by simp only[Pane.mk.injEq,and_assoc])
theorem ZrG (l:List Zc) (pW pH:Int) (pT:Bool) (pK:Int) (hl:l.length<4611686018427387904):Zd Xs Ms Xr [(.d (.sl (l.map Zc.enc))),.clo VC [.ptr 0 0]] [.box [(.d (J pW)),(.d (J pH)),(.d (.bool pT)),(.d (J pK))]]=some ((.d (J (VI 0 l (Pane.mk pW pH pT pK)))),[.box [(.d (J pW)),(.d (J pH)),(.d (.bool pT)),(.d (J pK))]]):=by
 refine cE ?_;simp +contextual -implicitDefEqProofs (maxSteps:=10^7) only[go_sem,seval,↓gZ,WB];refine LO (α:=Nat) (fun k=>[(8,.d (J (k:Int)))]) (fun _=>[]) (fun k=>k≤l.length∧VI k (l.drop k) (Pane.mk pW pH pT pK)=VI 0 l (Pane.mk pW pH pT pK)) (fun k=>l.length-k) 0 ⟨by omega,rfl⟩ ?_;intro k ⟨hk,hp⟩ ih;by_cases aa:k<l.length
 ·obtain⟨x,hx⟩:=Zl aa;rw[Zxz hx] at hp;have hw:=Zh (k:=k) (by omega);have e1:=ZnJ x.Pane.W x.Pane.H x.Pane.Turns x.Pane.Kind x.Count pW pH pT pK;obtain⟨⟨W,H,T,K⟩,C⟩:=x;simp only at hp e1;by_cases h:(⟨W,H,T,K⟩:Pane)=(Pane.mk pW pH pT pK)
  ·rw[Kl h] at hp;rw[Ke h] at e1;simp +contextual -implicitDefEqProofs (maxSteps:=10^7) only[go_sem,seval,↓gZ,hx,aa,hw,e1];rw[← hp]
  ·rw[Ki h] at hp;rw[Kh h] at e1;simp +contextual -implicitDefEqProofs (maxSteps:=10^7) only[go_sem,seval,↓gZ,hx,aa,hw,e1];refine ih (k+1) _ ⟨by omega,hp⟩ (by omega) ?_;simp +contextual -implicitDefEqProofs (maxSteps:=10^7) only[go_sem,seval,↓gZ]
 ·have:k=l.length:=by omega
  subst this;simp +contextual -implicitDefEqProofs (maxSteps:=10^7) only[go_sem,seval,↓gZ];rw[← hp];simp[VI]
theorem Zes (l:List Zc) (pW pH:Int) (pT:Bool) (pK:Int) (hl:l.length<4611686018427387904):Zd Xs Ms VS [(.d (.sl (l.map Zc.enc))),(.d (.agg [J pW,J pH,.bool pT,J pK]))] []=some ((.d (J (VI 0 l (Pane.mk pW pH pT pK)))),[]):=by
 refine cE ?_;simp +contextual -implicitDefEqProofs (maxSteps:=10^7) only[go_sem,seval,↓gZ,ZfQ,ZrG l pW pH pT pK hl]
theorem Zb7 (l:List Zc):Zd Xs Ms Yx [(.d (.sl (l.map Zc.enc)))] []=some ((.d (.bool (decide (Zbj l)))),[]):=by
 by_cases h8:(8:Int)<(l.length:Int)
 ·have hn:¬Zbj l:=fun h=>by have:=h.1;omega
  refine cE ?_;simp +contextual -implicitDefEqProofs (maxSteps:=10^7) only[go_sem,seval,↓gZ,ZaF,h8,hn]
 ·have ah:l.length≤8:=by omega
  refine cE ?_;simp +contextual -implicitDefEqProofs (maxSteps:=10^7) only[go_sem,seval,↓gZ,ZaF,h8];refine LO (α:=Nat) (fun i=>[(11,.d (J (i:Int))),(3,.d (J (24-Qq (l.take i))))]) (fun _=>[]) (fun i=>i≤l.length∧(Zjr [] l↔Zjr ((l.take i).map Zc.Pane) (l.drop i))∧0≤Qq (l.take i)∧Qq (l.take i)≤24) (fun i=>l.length-i) 0 ⟨by simp,by simp,by simp[Qq],by simp[Qq]⟩ ?_;intro i ⟨hi,hp,aj,ae⟩ ih;by_cases aa:i<l.length
  ·obtain⟨x,hx⟩:=Zl aa;have hw:=Zh (k:=i) (by omega);rw[ZsP hx,← Zbk hx] at hp;have ev:=J7 x.Pane.W x.Pane.H x.Pane.Turns x.Pane.Kind;have ef:=Zes l x.Pane.W x.Pane.H x.Pane.Turns x.Pane.Kind (by omega);have ab:=ZvQ l 0 i x hx;have af:=ZsQ hx;obtain⟨⟨W,H,T,K⟩,C⟩:=x;simp only[K4] at hp ev ef ab af;by_cases hv:VP ⟨W,H,T,K⟩
   ·rw[Ke hv] at ev;by_cases hf:VI 0 l ⟨W,H,T,K⟩=(i:Int)
    ·rw[hf] at ef;by_cases ad:C<1
     ·have hn:¬Zbj l:=fun h=>by have:=(hp.1 h.2.1).2.2.1;omega
      simp +contextual -implicitDefEqProofs (maxSteps:=10^7) only[go_sem,seval,↓gZ,hx,aa,hw,ev,ef,ad,hn]
     ·by_cases ag:24-Qq (l.take i)<C
      ·have hn:¬Zbj l:=fun h=>by
        have:=ZvP (l:=l) (i:=i+1) (fun x hx=>(Zo8 h.2.1 x hx).2.1);have:=h.2.2;omega
       simp +contextual -implicitDefEqProofs (maxSteps:=10^7) only[go_sem,seval,↓gZ,hx,aa,hw,ev,ef,ad,ag,hn]
      ·have ai:=wi (24-Qq (l.take i)-C) (by omega) (by omega);simp +contextual -implicitDefEqProofs (maxSteps:=10^7) only[go_sem,seval,↓gZ,hx,aa,hw,ev,ef,ad,ag,ai];refine ih (i+1) _ ⟨by omega,?_,by omega,by omega⟩ (by omega) ?_
       ·rw[hp];exact⟨fun h=>h.2.2.2.2,fun h=>⟨hv,ab.1 hf,by omega,by omega,h⟩⟩
       ·simp +contextual -implicitDefEqProofs (maxSteps:=10^7) only[go_sem,seval,↓gZ,af];try (simp;omega)
    ·have hn:¬Zbj l:=fun h=>hf (ab.2 (hp.1 h.2.1).2.1);simp +contextual -implicitDefEqProofs (maxSteps:=10^7) only[go_sem,seval,↓gZ,hx,aa,hw,ev,ef,hf,hn]
   ·rw[Kh hv] at ev;have hn:¬Zbj l:=fun h=>hv (hp.1 h.2.1).1;simp +contextual -implicitDefEqProofs (maxSteps:=10^7) only[go_sem,seval,↓gZ,hx,aa,hw,ev,hn]
  ·have:i=l.length:=by omega
   subst this;rw[KB (Kq _)] at ae;have hy:Zbj l:=⟨ah,hp.2 ZvN,ae⟩
   simp +contextual -implicitDefEqProofs (maxSteps:=10^7) only[go_sem,seval,↓gZ,hy]
theorem Zpb (l:List Zc) (hv:Zbj l):Zd Xs Ms Je [(.d (.sl (l.map Zc.enc)))] []=some ((.d (J (Za6 l))),[]):=by
 have ev:=Zb7 l;rw[Ke hv] at ev;have h8:=hv.1;have aa:=QO hv;clear hv;refine cE ?_;simp +contextual -implicitDefEqProofs (maxSteps:=10^7) only[go_sem,seval,↓gZ,ZeB,ev];refine LO (α:=Nat) (fun i=>[(11,.d (J (i:Int))),(3,.d (J (Za6 (l.take i))))]) (fun _=>[]) (fun i=>i≤l.length) (fun i=>l.length-i) 0 (by omega) ?_;intro i hi ih;by_cases ab:i<l.length
 ·obtain⟨x,hx⟩:=Zl ab;have hw:=Zh (k:=i) (by omega);have hm:=ZsR hx;have ad:=ZfF (l:=l.take i) (fun y hy=>aa y (K8 hy));have ae:(l.take i).length≤i:=by simp;omega
  have g5:=ZcI (aa x (Kb hx));obtain⟨⟨W,H,T,K⟩,C⟩:=x;simp only at g5 hm;have u0:=wi (C*W) (by omega) (by omega);have u1:=wi (C*W*H) (by omega) (by omega);have u2:=wi (Za6 (l.take i)+C*W*H) (by omega) (by omega);simp +contextual -implicitDefEqProofs (maxSteps:=10^7) only[go_sem,seval,↓gZ,hx,ab,hw,u0,u1,u2];refine ih (i+1) _ (by omega) (by omega) ?_;simp +contextual -implicitDefEqProofs (maxSteps:=10^7) only[go_sem,seval,↓gZ,hm]
 ·have:i=l.length:=by omega
  subst this;simp +contextual -implicitDefEqProofs (maxSteps:=10^7) only[go_sem,seval,↓gZ];simp
theorem ZgU (l:List Zc) (hl:l.length≤1048576):Zd Xs Ms Vu [(.d (.sl (l.map Zc.enc)))] []=some ((.d (.bool (decide (Zbj l)))),[]):=by
 refine cE ?_;simp +contextual -implicitDefEqProofs (maxSteps:=10^7) only[go_sem,seval,↓gZ,Zdl];refine LO (α:=Nat) (fun i=>[(4,.d (J (i:Int))),(3,.d (J (Qq (l.take i))))]) (fun _=>[]) (fun i=>i≤l.length∧(Zjr [] l↔Zjr ((l.take i).map Zc.Pane) (l.drop i))∧0≤Qq (l.take i)∧Qq (l.take i)≤24*i) (fun i=>l.length-i) 0 ⟨by simp,by simp,by simp[Qq],by simp[Qq]⟩ ?_;intro i ⟨hi,hp,al,am⟩ ih;by_cases aa:i<l.length
 ·obtain⟨x,hx⟩:=Zl aa;have hw:=Zh (k:=i) (by omega);rw[ZsP hx,← Zbk hx] at hp;have ev:=Vl x.Pane.W x.Pane.H x.Pane.Turns x.Pane.Kind;have ae:=ZsQ hx;obtain⟨⟨W,H,T,K⟩,C⟩:=x;simp only at hp ev ae;by_cases hv:VP ⟨W,H,T,K⟩
  ·rw[Ke hv] at ev;by_cases hC:1≤C∧C≤24
   ·have er:=ZK C 1 24;rw[Ke hC] at er;simp +contextual -implicitDefEqProofs (maxSteps:=10^7) only[go_sem,seval,↓gZ,hx,aa,hw,ev,er];refine XP Xs Ms (st0:=?st1) (α:=Nat) (fun k=>[(5,.d (J (k:Int)))]) (fun _=>[]) (fun k=>k≤i∧(⟨W,H,T,K⟩:Pane)∉(l.take k).map Zc.Pane) (fun k=>i-k) 0 ?hc2 ⟨by omega,by simp⟩ ?h02 ?step2
    case hc2=>simp +contextual -implicitDefEqProofs (maxSteps:=10^7) only[go_sem,seval,↓gZ]<;>exact rfl
    case h02=>rfl
    case step2=>
     intro k ⟨hk,hq⟩ ai;by_cases ab:k<i
     ·obtain⟨y,hy⟩:=Zl (l:=l) (k:=k) (by omega);have af:k<l.length:=by omega
      have ag:=Zh (k:=k) (by omega);have ah:=Zbk hy;obtain⟨⟨W',H',T',K'⟩,C'⟩:=y;simp only at ah;by_cases he:(⟨W',H',T',K'⟩:Pane)=⟨W,H,T,K⟩
      ·have ad:(⟨W,H,T,K⟩:Pane)∈(l.take i).map Zc.Pane:=by
        rw[← he];have h3:(l.take i)[k]?=some ⟨⟨W',H',T',K'⟩,C'⟩:=by rw[List.getElem?_take_of_lt ab];exact hy
        exact KX.2 ⟨_,Kb h3,rfl⟩
       have hn:¬Zbj l:=fun h=>(hp.1 h.2.1).2.1 ad;simp only[Pane.mk.injEq] at he;simp +contextual -implicitDefEqProofs (maxSteps:=10^7) only[go_sem,seval,↓gZ,hx,aa,hw,hy,ab,af,ag,he,hn]
      ·have aj:=he;simp only[Pane.mk.injEq] at he;simp +contextual -implicitDefEqProofs (maxSteps:=10^7) only[go_sem,seval,↓gZ,hx,aa,hw,hy,ab,af,ag,he];refine ai (k+1) _ ⟨by omega,?_⟩ (by omega) ?_
       ·rw[ah,Kf];intro h;rcases h with h | h
        ·exact hq h
        ·exact aj (KH.1 h).symm
       ·simp +contextual -implicitDefEqProofs (maxSteps:=10^7) only[go_sem,seval,↓gZ]
     ·have:k=i:=by omega
      subst this;have ak:=wi (Qq (l.take k)+C) (by omega) (by omega);simp +contextual -implicitDefEqProofs (maxSteps:=10^7) only[go_sem,seval,↓gZ,hx,aa,hw,ab,ak];refine ih (k+1) _ ⟨by omega,?_,by omega,by omega⟩ (by omega) ?_
      ·rw[hp];exact⟨fun h=>h.2.2.2.2,fun h=>⟨hv,hq,hC.1,hC.2,h⟩⟩
      ·simp +contextual -implicitDefEqProofs (maxSteps:=10^7) only[go_sem,seval,↓gZ,ae]
   ·have er:=ZK C 1 24;rw[Kh hC] at er;have hn:¬Zbj l:=fun h=>hC ⟨(hp.1 h.2.1).2.2.1,(hp.1 h.2.1).2.2.2.1⟩;simp +contextual -implicitDefEqProofs (maxSteps:=10^7) only[go_sem,seval,↓gZ,hx,aa,hw,ev,er,hn]
  ·rw[Kh hv] at ev;have hn:¬Zbj l:=fun h=>hv (hp.1 h.2.1).1;simp +contextual -implicitDefEqProofs (maxSteps:=10^7) only[go_sem,seval,↓gZ,hx,aa,hw,ev,hn]
 ·have:i=l.length:=by omega
  subst this;have hs:=hp.2 ZvN;rw[KB (Kq _)];simp +contextual -implicitDefEqProofs (maxSteps:=10^7) only[go_sem,seval,↓gZ];exact Zcn (by simp only[Zbj];constructor<;>(intro h;first | exact⟨by omega,hs,by omega⟩ | (have:=h.1;have:=h.2.2;omega)))
theorem ZvT {l:List Zb} (hv:VSt l):∀ x∈l,1≤x.W∧x.W≤200∧1≤x.H∧x.H≤200:=fun x hx=>by
 have:=(Z3 hv.2 x hx).1;omega
theorem ZmG {l:List Zb} (hv:VSt l):0≤Vg l∧Vg l≤800000:=by
 have h1:=Zcv (ZvT hv);have:=hv.1;omega
theorem Zpc (l:List Zb) (hv:VSt l):Zd Xs Ms Jj [(.d (.sl (l.map Zb.enc)))] []=some ((.d (J (Vg l))),[]):=by
 have af:=hv.1;have aa:=ZvT hv;clear hv;refine cE ?_;simp +contextual -implicitDefEqProofs (maxSteps:=10^7) only[go_sem,seval,↓gZ,ZeJ];refine LO (α:=Nat) (fun i=>[(4,.d (J (i:Int))),(3,.d (J (Vg (l.take i))))]) (fun _=>[]) (fun i=>i≤l.length) (fun i=>l.length-i) 0 (by omega) ?_;intro i hi ih;by_cases ab:i<l.length
 ·obtain⟨x,hx⟩:=Zl ab;have hw:=Zh (k:=i) (by omega);have hm:=Zo2 hx;have ag:=Zcv (l:=l.take i) (fun y hy=>aa y (K8 hy));have ah:(l.take i).length≤i:=by simp;omega
  have g5:=aa x (Kb hx);have ad:x.W*x.H≤200*200:=L9 (by omega) (by omega) (by omega) (by omega);have ae:0≤x.W*x.H:=L8 (by omega) (by omega);obtain⟨xL,xW,xH,xF⟩:=x;simp only at g5 hm ad ae;have u0:=wi (xW*xH) (by omega) (by omega);have u1:=wi (Vg (l.take i)+xW*xH) (by omega) (by omega);simp +contextual -implicitDefEqProofs (maxSteps:=10^7) only[go_sem,seval,↓gZ,hx,ab,hw,u0,u1];refine ih (i+1) _ (by omega) (by omega) ?_;simp +contextual -implicitDefEqProofs (maxSteps:=10^7) only[go_sem,seval,↓gZ,hm]
 ·have:i=l.length:=by omega
  subst this;simp +contextual -implicitDefEqProofs (maxSteps:=10^7) only[go_sem,seval,↓gZ];simp
theorem Zpd (l:List Zc) (hv:Zbj l):Zd Xs Ms Jk [(.d (.sl (l.map Zc.enc)))] []=some ((.d (J (Za6 l))),[]):=by
 have h8:=hv.1;have aa:=QO hv;clear hv;refine cE ?_;simp +contextual -implicitDefEqProofs (maxSteps:=10^7) only[go_sem,seval,↓gZ,ZeK];refine LO (α:=Nat) (fun i=>[(4,.d (J (i:Int))),(3,.d (J (Za6 (l.take i))))]) (fun _=>[]) (fun i=>i≤l.length) (fun i=>l.length-i) 0 (by omega) ?_;intro i hi ih;by_cases ab:i<l.length
 ·obtain⟨x,hx⟩:=Zl ab;have hw:=Zh (k:=i) (by omega);have hm:=ZsR hx;have ad:=ZfF (l:=l.take i) (fun y hy=>aa y (K8 hy));have ae:(l.take i).length≤i:=by simp;omega
  have g5:=ZcI (aa x (Kb hx));obtain⟨⟨W,H,T,K⟩,C⟩:=x;simp only at g5 hm;have u0:=wi (C*W) (by omega) (by omega);have u1:=wi (C*W*H) (by omega) (by omega);have u2:=wi (Za6 (l.take i)+C*W*H) (by omega) (by omega);simp +contextual -implicitDefEqProofs (maxSteps:=10^7) only[go_sem,seval,↓gZ,hx,ab,hw,u0,u1,u2];refine ih (i+1) _ (by omega) (by omega) ?_;simp +contextual -implicitDefEqProofs (maxSteps:=10^7) only[go_sem,seval,↓gZ,hm]
 ·have:i=l.length:=by omega
  subst this;simp +contextual -implicitDefEqProofs (maxSteps:=10^7) only[go_sem,seval,↓gZ];simp
theorem ZrH (sS:List Zb) (sO sD:List Zc) (sL sC:Int) (h1:VSt sS) (h2:Zbj sD) (h3:0≤sL∧sL≤100000000):Zd Xs Ms Zaj [(.d (.agg [.sl (sS.map Zb.enc),.sl (sO.map Zc.enc),.sl (sD.map Zc.enc),J sL,J sC]))] []=some ((.d (J (Vg sS+Za6 sD+sL))),[]):=by
 have e1:=Zpc sS h1;have e2:=Zpd sD h2;have b1:=ZmG h1;have b2:=Zo9 h2;have u0:=wi (Vg sS+Za6 sD) (by omega) (by omega);have u1:=wi (Vg sS+Za6 sD+sL) (by omega) (by omega);refine cE ?_;simp +contextual -implicitDefEqProofs (maxSteps:=10^7) only[go_sem,seval,↓gZ,ZfO,e1,e2,u0,u1]
def JK (s:Zm):Prop:=s.Stock.length≤1048576∧(∀ x∈s.Stock,x.Flaws.length≤1048576∧R64 x.W∧R64 x.H)∧s.Opn.length≤1048576∧s.Done.length≤1048576
theorem Zkl {x:Zb} (h:VPc x):R64 x.W∧R64 x.H:=by
 have:=h.1;unfold R64;omega
theorem V7 {s:Zm} (h:ZE s):JK s:=
 ⟨by have:=h.1.1;omega,fun x hx=>⟨(ZcH h.1).2 x hx,Zkl (Z3 h.1.2 x hx)⟩,by have:=h.2.1.1;omega,by have:=h.2.2.1.1;omega⟩
theorem XT (sS:List Zb) (sO sD:List Zc) (sL sC:Int) (hs:JK (Zm.mk sS sO sD sL sC)):Zd Xs Ms Wk [(.d (.agg [.sl (sS.map Zb.enc),.sl (sO.map Zc.enc),.sl (sD.map Zc.enc),J sL,J sC]))] []=some ((.d (.bool (decide (ZE (Zm.mk sS sO sD sL sC))))),[]):=by
 obtain⟨h1,h2,h3,h4⟩:=hs;simp only at h1 h2 h3 h4;have e1:=YI sS (by omega) (fun x hx=>⟨by have:=(h2 x hx).1;omega,(h2 x hx).2⟩);have e2:=ZgU sO h3;have e3:=ZgU sD h4;have e4:=ZK sL 0 900000;have e5:=ZK sC 0 900000;refine cE ?_;by_cases v1:VSt sS
 ·rw[Ke v1] at e1;by_cases v2:Zbj sO
  ·rw[Ke v2] at e2;by_cases v3:Zbj sD
   ·rw[Ke v3] at e3;by_cases v4:0≤sL∧sL≤900000
    ·rw[Ke v4] at e4;by_cases v5:0≤sC∧sC≤900000
     ·rw[Ke v5] at e5;have e6:=ZrH sS sO sD sL sC v1 v3 (by omega);simp +contextual -implicitDefEqProofs (maxSteps:=10^7) only[go_sem,seval,↓gZ,Yq,e1,e2,e3,e4,e5,e6];exact Zcn ⟨fun h=>⟨v1,v2,v3,v4.1,v4.2,v5.1,v5.2,h⟩,fun h=>h.2.2.2.2.2.2.2⟩
     ·rw[Kh v5] at e5;have hn:¬ZE (Zm.mk sS sO sD sL sC):=fun h=>v5 ⟨h.2.2.2.2.2.1,h.2.2.2.2.2.2.1⟩;simp +contextual -implicitDefEqProofs (maxSteps:=10^7) only[go_sem,seval,↓gZ,Yq,e1,e2,e3,e4,e5,hn]
    ·rw[Kh v4] at e4;have hn:¬ZE (Zm.mk sS sO sD sL sC):=fun h=>v4 ⟨h.2.2.2.1,h.2.2.2.2.1⟩;simp +contextual -implicitDefEqProofs (maxSteps:=10^7) only[go_sem,seval,↓gZ,Yq,e1,e2,e3,e4,hn]
   ·rw[Kh v3] at e3;have hn:¬ZE (Zm.mk sS sO sD sL sC):=fun h=>v3 h.2.2.1;simp +contextual -implicitDefEqProofs (maxSteps:=10^7) only[go_sem,seval,↓gZ,Yq,e1,e2,e3,hn]
  ·rw[Kh v2] at e2;have hn:¬ZE (Zm.mk sS sO sD sL sC):=fun h=>v2 h.2.1;simp +contextual -implicitDefEqProofs (maxSteps:=10^7) only[go_sem,seval,↓gZ,Yq,e1,e2,hn]
 ·rw[Kh v1] at e1;have hn:¬ZE (Zm.mk sS sO sD sL sC):=fun h=>v1 h.1;simp +contextual -implicitDefEqProofs (maxSteps:=10^7) only[go_sem,seval,↓gZ,Yq,e1,hn]
theorem ZZ (sS:List Zb) (sO sD:List Zc) (sL sC:Int):Zd Xs Ms XF [(.d (.agg [.sl (sS.map Zb.enc),.sl (sO.map Zc.enc),.sl (sD.map Zc.enc),J sL,J sC]))] []=some ((.d (.bool (decide (ZE (Zm.mk sS sO sD sL sC))))),[]):=by
 have e1:=YH sS;have e2:=Zb7 sO;have e3:=Zb7 sD;refine cE ?_;by_cases v1:VSt sS
 ·rw[Ke v1] at e1;by_cases v2:Zbj sO
  ·rw[Ke v2] at e2;by_cases v3:Zbj sD
   ·rw[Ke v3] at e3;by_cases v4:((sL<0∨900000<sL)∨sC<0)∨900000<sC
    ·have hn:¬ZE (Zm.mk sS sO sD sL sC):=fun h=>by
      obtain⟨_,_,_,h1,h2,h3,h4,_⟩:=h;simp only at h1 h2 h3 h4;omega
     simp +contextual -implicitDefEqProofs (maxSteps:=10^7) only[go_sem,seval,↓gZ,Vc,e1,e2,e3,v4,hn,← K5]
    ·have e4:=Zo7 sS v1;have e5:=Zpb sD v3;have b1:=ZmG v1;have b2:=Zo9 v3;have u0:=wi (Vg sS+Za6 sD) (by omega) (by omega);have u1:=wi (Vg sS+Za6 sD+sL) (by omega) (by omega);simp +contextual -implicitDefEqProofs (maxSteps:=10^7) only[go_sem,seval,↓gZ,Vc,e1,e2,e3,v4,e4,e5,u0,u1,← K5];exact Zcn ⟨fun h=>⟨v1,v2,v3,by simp only;omega,by simp only;omega,by simp only;omega,by simp only;omega,h⟩,fun h=>h.2.2.2.2.2.2.2⟩
   ·rw[Kh v3] at e3;have hn:¬ZE (Zm.mk sS sO sD sL sC):=fun h=>v3 h.2.2.1;simp +contextual -implicitDefEqProofs (maxSteps:=10^7) only[go_sem,seval,↓gZ,Vc,e1,e2,e3,hn]
  ·rw[Kh v2] at e2;have hn:¬ZE (Zm.mk sS sO sD sL sC):=fun h=>v2 h.2.1;simp +contextual -implicitDefEqProofs (maxSteps:=10^7) only[go_sem,seval,↓gZ,Vc,e1,e2,hn]
 ·rw[Kh v1] at e1;have hn:¬ZE (Zm.mk sS sO sD sL sC):=fun h=>v1 h.1;simp +contextual -implicitDefEqProofs (maxSteps:=10^7) only[go_sem,seval,↓gZ,Vc,e1,hn]
end Go.Proofs.YtbpekaejmjlmfaaGreat
