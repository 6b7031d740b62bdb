/- Own text. -/
import Derived.Test.YtdhgppkldoopaaaGreatACode
import Derived.Test.YtdhgppkldoopaaaGreatAbsParts
import Derived.Test.YtdhgppkldoopaaaGreatAC4
import Derived.Test.YtdhgppkldoopaaaGreatAbsOkD
namespace Go.Proofs.YtdhgppkldoopaaaGreat
open Go Go.Abs Go.Abs.E Go.Abs.L
open Nat (reduceMul reduceSub reduceLeDiff reduceEqDiff)
open Int (reduceLE reduceEq reduceToNat reduceNeg)
set_option linter.unusedSimpArgs false
set_option linter.unusedVariables false
set_option maxRecDepth 20000
set_option maxHeartbeats 4000000
def ZiT:List Pane→List Zc→Prop
 | _,[]=>True
 | q,x :: l=>VP x.Pane∧x.Pane∉q∧1≤x.Count∧x.Count≤24∧ZiT (q++[x.Pane]) l
instance ordGdec:∀ (q:List Pane) (l:List Zc),Decidable (ZiT q l)
 | _,[]=>.isTrue trivial
 | q,x :: l=>by
  unfold ZiT;have:=ordGdec (q++[x.Pane]) l
  infer_instance
def WH:List Zc→Int
 | []=>0
 | x :: l=>x.Count+WH l
def JM (l:List Zc):Prop:=l.length≤8∧ZiT [] l∧WH l≤24
instance (l:List Zc):Decidable (JM l):=by unfold JM;infer_instance
theorem ZqX {l:List Zc} {k:Nat} {x:Zc} {q:List Pane} (hx:l[k]?=some x):ZiT q (l.drop k)↔VP x.Pane∧x.Pane∉q∧1≤x.Count∧x.Count≤24∧ZiT (q++[x.Pane]) (l.drop (k+1)):=by
 obtain⟨h1,h2⟩:=Ka.1 hx;rw[Kw h1,h2,ZiT]
theorem Ztu {l:List Zc} {q:List Pane}:ZiT q (l.drop l.length):=by simp[ZiT]
theorem JN {l:List Zc} {k:Nat} {x:Zc} (hx:l[k]?=some x):(l.take (k+1)).map Zc.Pane=(l.take k).map Zc.Pane++[x.Pane]:=by
 rw[KK,hx];simp
theorem Zmj (a b:List Zc):WH (a++b)=WH a+WH b:=by
 induction a with
 | nil=>simp[WH]
 | cons c l ih=>simp only[KD,WH,ih];omega
theorem ZqY {l:List Zc} {i:Nat} {x:Zc} (hx:l[i]?=some x):WH (l.take (i+1))=WH (l.take i)+x.Count:=by
 rw[KK,hx,Zmj];simp[WH]
theorem Zop:∀ {l:List Zc} {q:List Pane},ZiT q l→∀ x∈l,VP x.Pane∧1≤x.Count∧x.Count≤24
 | [],_,_,x,hx=>by simp at hx
 | y :: l,q,h,x,hx=>by
  rcases Kf.1 hx with rfl | hx
  ·exact⟨h.1,h.2.2.1,h.2.2.2.1⟩
  ·exact Zop h.2.2.2.2 x hx
theorem Ztv:∀ {l:List Zc},(∀ x∈l,1≤x.Count)→0≤WH l
 | [],_=>by simp[WH]
 | x :: l,h=>by
  have h1:=h x (by simp);have h2:=Ztv (l:=l) fun y hy=>h y (by simp[hy]);simp only[WH];omega
theorem Ztw {l:List Zc} {i:Nat} (h:∀ x∈l,1≤x.Count):WH (l.take i)≤WH l:=by
 have e:WH l=WH (l.take i)+WH (l.drop i):=by rw[← Zmj,Li]
 have:=Ztv (l:=l.drop i) fun y hy=>h y (LK hy);omega
def VC:Nat→List Zc→Pane→Int
 | _,[],_=>-1
 | k,x :: l,p=>if x.Pane=p then (k:Int) else VC (k+1) l p
theorem ZuU {l:List Zc} {k:Nat} {x:Zc} {p:Pane} (hx:l[k]?=some x):VC k (l.drop k) p=if x.Pane=p then (k:Int) else VC (k+1) (l.drop (k+1)) p:=by
 obtain⟨h1,h2⟩:=Ka.1 hx;rw[Kw h1,h2,VC]
theorem Ztx:∀ (l:List Zc) (k i:Nat) (x:Zc),l[i]?=some x→(VC k l x.Pane=((k+i:Nat):Int)↔x.Pane∉(l.take i).map Zc.Pane)
 | [],k,i,x,h=>by simp at h
 | y :: l,k,0,x,h=>by
  simp only[Lc,Option.some.injEq] at h;subst h;simp[VC]
 | y :: l,k,i+1,x,h=>by
  simp only[KS] at h;have ih:=Ztx l (k+1) i x h;simp only[VC,LR,Kp,Kf,not_or];split
  ·rename_i e;constructor
   ·intro h;omega
   ·intro h;exact absurd e.symm h.1
  ·rename_i e;rw[show k+1+i=k+(i+1) by omega] at ih;rw[ih];exact⟨fun h=>⟨fun e'=>e e'.symm,h⟩,fun h=>h.2⟩
def Jz:List Zc→Int
 | []=>0
 | x :: l=>x.Count*x.Pane.W*x.Pane.H+Jz l
theorem Zty (a b:List Zc):Jz (a++b)=Jz a+Jz b:=by
 induction a with
 | nil=>simp[Jz]
 | cons c l ih=>simp only[KD,Jz,ih];omega
theorem ZqZ {l:List Zc} {i:Nat} {x:Zc} (hx:l[i]?=some x):Jz (l.take (i+1))=Jz (l.take i)+x.Count*x.Pane.W*x.Pane.H:=by
 rw[KK,hx,Zty];simp[Jz]
theorem Zdq {x:Zc} (h:VP x.Pane∧1≤x.Count∧x.Count≤24):0≤x.Count*x.Pane.W∧x.Count*x.Pane.W≤4800∧0≤x.Count*x.Pane.W*x.Pane.H∧x.Count*x.Pane.W*x.Pane.H≤960000:=by
 obtain⟨h1,h2,h3⟩:=h;simp only[VP] at h1;have a1:0≤x.Count*x.Pane.W:=Kab (by omega) (by omega);have a2:x.Count*x.Pane.W≤24*200:=Kac (by omega) (by omega) (by omega) (by omega);have a3:0≤x.Count*x.Pane.W*x.Pane.H:=Kab (by omega) (by omega);have a4:x.Count*x.Pane.W*x.Pane.H≤4800*200:=Kac (by omega) (by omega) (by omega) (by omega);omega
theorem ZdZ:∀ {l:List Zc},(∀ x∈l,VP x.Pane∧1≤x.Count∧x.Count≤24)→0≤Jz l∧Jz l≤960000*l.length
 | [],_=>by simp[Jz]
 | x :: l,h=>by
  have h1:=Zdq (h x (by simp));have h2:=ZdZ (l:=l) fun y hy=>h y (by simp[hy]);simp only[Jz,Ks];omega
theorem Xq {l:List Zc} (h:JM l):∀ x∈l,VP x.Pane∧1≤x.Count∧x.Count≤24:=Zop h.2.1
theorem Zoq {l:List Zc} (h:JM l):0≤Jz l∧Jz l≤7680000:=by
 have h1:=ZdZ (Xq h);have:=h.1;omega
structure Zt where
 kind:Int
 label:Int
 box:Box
 line:Zc
 plan:Zd
def Zt.enc (e:Zt):D:=.agg ([J e.kind,J e.label,J e.box.X,J e.box.Y,J e.box.W,J e.box.H,J e.line.Pane.W,J e.line.Pane.H,.bool e.line.Pane.Turns,J e.line.Pane.Kind,J e.line.Count]++e.plan.enc.cells)
@[go_sem] theorem Zt.enc_mk (k l x y w h pw ph pk c o a p:Int) (pt t:Bool) (ks:List Zd):Zt.enc (Zt.mk k l (Box.mk x y w h) (Zc.mk (Pane.mk pw ph pt pk) c) (Zd.mk o a p t ks)) =
  .agg [J k,J l,J x,J y,J w,J h,J pw,J ph,.bool pt,J pk,J c,J o,J a,J p,.bool t,.sl (ks.map Zd.enc)]:=by
 simp only[Zt.enc,Zd.enc_mk];rfl
theorem Zt.enc_len (e:Zt):(Zt.enc e).cells.length=16:=by
 show (_++e.plan.enc.cells).length=16;rw[Kx,Zd.enc_len];rfl
@[go_sem] theorem uni_Event (l:List Zt):uni 16 (l.map Zt.enc)=True:=eq_true (Za1 l Zt.enc_len)
def ZM (s:Zs):Prop:=VSt s.Stock∧JM s.Opn∧JM s.Done∧0≤s.Lost∧s.Lost≤900000∧0≤s.Came∧s.Came≤900000∧Yy s.Stock+Jz s.Done+s.Lost=s.Came
instance (s:Zs):Decidable (ZM s):=by unfold ZM;infer_instance
def Qq (p:Zb):List Zb→List Zb
 | []=>[p]
 | x :: l=>if p.Label<x.Label then p :: x :: l else x :: Qq p l
theorem Zor {l:List Zb} {k:Nat} {x p:Zb} (hx:l[k]?=some x):Qq p (l.drop k)=if p.Label<x.Label then p :: l.drop k else x :: Qq p (l.drop (k+1)):=by
 obtain⟨h1,h2⟩:=Ka.1 hx;rw[Kw h1,h2,Qq]
theorem Zln (p:Zb):∀ (l:List Zb),(Qq p l).length=l.length+1
 | []=>rfl
 | x :: l=>by
  unfold Qq;split
  ·simp
  ·simp[Zln p l]
theorem Zq0 (p:Zb):∀ (l:List Zb) (y:Zb),y∈Qq p l→y=p∨y∈l
 | [],y,h=>by simpa [Qq] using h
 | x :: l,y,h=>by
  unfold Qq at h;split at h
  ·simpa using h
  ·rcases Kf.1 h with rfl | h
   ·exact .inr (by simp)
   ·rcases Zq0 p l y h with h | h
    ·exact .inl h
    ·exact .inr (by simp[h])
def ZfN (p:Pane) (c:Int) (x:Zc):Option Zc:=
 if x.Pane=p then (if 0<x.Count-c then some ⟨x.Pane,x.Count-c⟩ else none) else (if 0<x.Count then some x else none)
def Xz (l:List Zc) (p:Pane) (c:Int):List Zc:=l.filterMap (ZfN p c)
def Q3 (p:Pane) (c:Int):Bool→List Zc→Bool
 | b,[]=>b
 | b,x :: l=>Q3 p c (if x.Pane=p then decide (0≤x.Count-c) else b) l
theorem Ztz {l:List Zc} {k:Nat} {x:Zc} {p:Pane} {c:Int} {b:Bool} (hx:l[k]?=some x):Q3 p c b (l.drop k)=Q3 p c (if x.Pane=p then decide (0≤x.Count-c) else b) (l.drop (k+1)):=by
 obtain⟨h1,h2⟩:=Ka.1 hx;rw[Kw h1,h2,Q3]
theorem ZuV {l:List Zc} {p:Pane} {c:Int} {b:Bool}:Q3 p c b (l.drop l.length)=b:=by simp[Q3]
theorem ZuW {l:List Zc} {i:Nat} {x:Zc} (p:Pane) (c:Int) (hx:l[i]?=some x):Xz (l.take (i+1)) p c=Xz (l.take i) p c++(ZfN p c x).toList:=by
 unfold Xz;rw[KK,hx,LB];simp only[Option.toList_some,Lh,List.filterMap_nil];cases ZfN p c x<;>rfl
def Yb (p:Pane) (c:Int):List Zc→List Zc
 | []=>[⟨p,c⟩]
 | x :: l=>if x.Pane=p then ⟨x.Pane,x.Count+c⟩ :: l else x :: Yb p c l
theorem Zbo (p:Pane) (c:Int):∀ (l:List Zc),(Yb p c l).length≤l.length+1
 | []=>by simp[Yb]
 | x :: l=>by
  unfold Yb;split
  ·simp
  ·have:=Zbo p c l;simp;omega
theorem Zsj (p:Pane) (c:Int):∀ (l:List Zc) (i:Nat) (x:Zc),l[i]?=some x→x.Pane=p→p∉(l.take i).map Zc.Pane→Yb p c l=l.set i ⟨x.Pane,x.Count+c⟩
 | [],i,x,h,_,_=>by simp at h
 | y :: l,0,x,h,e,_=>by
  simp only[Lc,Option.some.injEq] at h;subst h;simp[Yb,e]
 | y :: l,i+1,x,h,e,hn=>by
  simp only[KS] at h;simp only[LR,Kp,Kf,not_or] at hn;have ih:=Zsj p c l i x h e hn.2;simp only[Yb,Kj (fun e' : y.Pane=p=>hn.1 e'.symm),List.set_cons_succ,ih]
theorem Zsk (p:Pane) (c:Int):∀ (l:List Zc),p∉l.map Zc.Pane→Yb p c l=l++[⟨p,c⟩]
 | [],_=>rfl
 | y :: l,hn=>by
  simp only[Kp,Kf,not_or] at hn;simp only[Yb,Kj (fun e' : y.Pane=p=>hn.1 e'.symm),Zsk p c l hn.2,KD]
theorem ZnF (qW qH:Int) (qT:Bool) (qK qC:Int) (pW pH:Int) (pT:Bool) (pK:Int):Zf Xs Ms YM [(.d (.agg [J qW,J qH,.bool qT,J qK,J qC])),.ptr 0 0] [.box [(.d (J pW)),(.d (J pH)),(.d (.bool pT)),(.d (J pK))]]=some ((.d (.bool (decide ((Pane.mk qW qH qT qK)=(Pane.mk pW pH pT pK))))),[.box [(.d (J pW)),(.d (J pH)),(.d (.bool pT)),(.d (J pK))]]):=by
 refine cE ?_;simp +contextual -implicitDefEqProofs (maxSteps:=10^7) only[go_sem,seval,↓gZ,ZbH];try exact Zcs (by simp only[Pane.mk.injEq,and_assoc])
theorem Zqx (l:List Zc) (pW pH:Int) (pT:Bool) (pK:Int) (hl:l.length<4611686018427387904):Zf Xs Ms Q7 [(.d (.sl (l.map Zc.enc))),.clo YM [.ptr 0 0]] [.box [(.d (J pW)),(.d (J pH)),(.d (.bool pT)),(.d (J pK))]]=some ((.d (J (VC 0 l (Pane.mk pW pH pT pK)))),[.box [(.d (J pW)),(.d (J pH)),(.d (.bool pT)),(.d (J pK))]]):=by
 refine cE ?_;simp +contextual -implicitDefEqProofs (maxSteps:=10^7) only[go_sem,seval,↓gZ,Vv];refine LO (α:=Nat) (fun k=>[(8,.d (J (k:Int)))]) (fun _=>[]) (fun k=>k≤l.length∧VC k (l.drop k) (Pane.mk pW pH pT pK)=VC 0 l (Pane.mk pW pH pT pK)) (fun k=>l.length-k) 0 ⟨by omega,rfl⟩ ?_;intro k ⟨hk,hp⟩ ih;by_cases aa:k<l.length
 ·obtain⟨x,hx⟩:=Zr aa;rw[ZuU hx] at hp;have hw:=Zj (k:=k) (by omega);have e1:=ZnF x.Pane.W x.Pane.H x.Pane.Turns x.Pane.Kind x.Count pW pH pT pK;obtain⟨⟨W,H,T,K⟩,C⟩:=x;simp only at hp e1;by_cases h:(⟨W,H,T,K⟩:Pane)=(Pane.mk pW pH pT pK)
  ·rw[Kl h] at hp;rw[Kg h] at e1;simp +contextual -implicitDefEqProofs (maxSteps:=10^7) only[go_sem,seval,↓gZ,hx,aa,hw,e1];rw[← hp]
  ·rw[Kj h] at hp;rw[Kh h] at e1;simp +contextual -implicitDefEqProofs (maxSteps:=10^7) only[go_sem,seval,↓gZ,hx,aa,hw,e1];refine ih (k+1) _ ⟨by omega,hp⟩ (by omega) ?_;simp +contextual -implicitDefEqProofs (maxSteps:=10^7) only[go_sem,seval,↓gZ]
 ·have:k=l.length:=by omega
  subst this;simp +contextual -implicitDefEqProofs (maxSteps:=10^7) only[go_sem,seval,↓gZ];rw[← hp];simp[VC]
theorem ZcG (l:List Zc) (pW pH:Int) (pT:Bool) (pK:Int) (hl:l.length<4611686018427387904):Zf Xs Ms YV [(.d (.sl (l.map Zc.enc))),(.d (.agg [J pW,J pH,.bool pT,J pK]))] []=some ((.d (J (VC 0 l (Pane.mk pW pH pT pK)))),[]):=by
 refine cE ?_;simp +contextual -implicitDefEqProofs (maxSteps:=10^7) only[go_sem,seval,↓gZ,Zei,Zqx l pW pH pT pK hl]
theorem ZaE (l:List Zc):Zf Xs Ms X0 [(.d (.sl (l.map Zc.enc)))] []=some ((.d (.bool (decide (JM l)))),[]):=by
 by_cases h8:(8:Int)<(l.length:Int)
 ·have hn:¬JM l:=fun h=>by have:=h.1;omega
  refine cE ?_;simp +contextual -implicitDefEqProofs (maxSteps:=10^7) only[go_sem,seval,↓gZ,Jb,h8,hn]
 ·have ah:l.length≤8:=by omega
  refine cE ?_;simp +contextual -implicitDefEqProofs (maxSteps:=10^7) only[go_sem,seval,↓gZ,Jb,h8];refine LO (α:=Nat) (fun i=>[(11,.d (J (i:Int))),(3,.d (J (24-WH (l.take i))))]) (fun _=>[]) (fun i=>i≤l.length∧(ZiT [] l↔ZiT ((l.take i).map Zc.Pane) (l.drop i))∧0≤WH (l.take i)∧WH (l.take i)≤24) (fun i=>l.length-i) 0 ⟨by simp,by simp,by simp[WH],by simp[WH]⟩ ?_;intro i ⟨hi,hp,aj,ae⟩ ih;by_cases aa:i<l.length
  ·obtain⟨x,hx⟩:=Zr aa;have hw:=Zj (k:=i) (by omega);rw[ZqX hx,← JN hx] at hp;have ev:=Zbh x.Pane.W x.Pane.H x.Pane.Turns x.Pane.Kind;have ef:=ZcG l x.Pane.W x.Pane.H x.Pane.Turns x.Pane.Kind (by omega);have ab:=Ztx l 0 i x hx;have af:=ZqY hx;obtain⟨⟨W,H,T,K⟩,C⟩:=x;simp only[L0] at hp ev ef ab af;by_cases hv:VP ⟨W,H,T,K⟩
   ·rw[Kg hv] at ev;by_cases hf:VC 0 l ⟨W,H,T,K⟩=(i:Int)
    ·rw[hf] at ef;by_cases ad:C<1
     ·have hn:¬JM l:=fun h=>by have:=(hp.1 h.2.1).2.2.1;omega
      simp +contextual -implicitDefEqProofs (maxSteps:=10^7) only[go_sem,seval,↓gZ,hx,aa,hw,ev,ef,ad,hn]
     ·by_cases ag:24-WH (l.take i)<C
      ·have hn:¬JM l:=fun h=>by
        have:=Ztw (l:=l) (i:=i+1) (fun x hx=>(Zop h.2.1 x hx).2.1);have:=h.2.2;omega
       simp +contextual -implicitDefEqProofs (maxSteps:=10^7) only[go_sem,seval,↓gZ,hx,aa,hw,ev,ef,ad,ag,hn]
      ·have ai:=wi (24-WH (l.take i)-C) (by omega) (by omega);simp +contextual -implicitDefEqProofs (maxSteps:=10^7) only[go_sem,seval,↓gZ,hx,aa,hw,ev,ef,ad,ag,ai];refine ih (i+1) _ ⟨by omega,?_,by omega,by omega⟩ (by omega) ?_
       ·rw[hp];exact⟨fun h=>h.2.2.2.2,fun h=>⟨hv,ab.1 hf,by omega,by omega,h⟩⟩
       ·simp +contextual -implicitDefEqProofs (maxSteps:=10^7) only[go_sem,seval,↓gZ,af];try (simp;omega)
    ·have hn:¬JM l:=fun h=>hf (ab.2 (hp.1 h.2.1).2.1);simp +contextual -implicitDefEqProofs (maxSteps:=10^7) only[go_sem,seval,↓gZ,hx,aa,hw,ev,ef,hf,hn]
   ·rw[Kh hv] at ev;have hn:¬JM l:=fun h=>hv (hp.1 h.2.1).1;simp +contextual -implicitDefEqProofs (maxSteps:=10^7) only[go_sem,seval,↓gZ,hx,aa,hw,ev,hn]
  ·have:i=l.length:=by omega
   subst this;rw[Lo (Kk _)] at ae;have hy:JM l:=⟨ah,hp.2 Ztu,ae⟩
   simp +contextual -implicitDefEqProofs (maxSteps:=10^7) only[go_sem,seval,↓gZ,hy]
theorem Zos (l:List Zc) (hv:JM l):Zf Xs Ms WR [(.d (.sl (l.map Zc.enc)))] []=some ((.d (J (Jz l))),[]):=by
 have ev:=ZaE l;rw[Kg hv] at ev;have h8:=hv.1;have aa:=Xq hv;clear hv;refine cE ?_;simp +contextual -implicitDefEqProofs (maxSteps:=10^7) only[go_sem,seval,↓gZ,ZcO,ev];refine LO (α:=Nat) (fun i=>[(11,.d (J (i:Int))),(3,.d (J (Jz (l.take i))))]) (fun _=>[]) (fun i=>i≤l.length) (fun i=>l.length-i) 0 (by omega) ?_;intro i hi ih;by_cases ab:i<l.length
 ·obtain⟨x,hx⟩:=Zr ab;have hw:=Zj (k:=i) (by omega);have hm:=ZqZ hx;have ad:=ZdZ (l:=l.take i) (fun y hy=>aa y (KY hy));have ae:(l.take i).length≤i:=by simp;omega
  have g5:=Zdq (aa x (Kb hx));obtain⟨⟨W,H,T,K⟩,C⟩:=x;simp only at g5 hm;have u0:=wi (C*W) (by omega) (by omega);have u1:=wi (C*W*H) (by omega) (by omega);have u2:=wi (Jz (l.take i)+C*W*H) (by omega) (by omega);simp +contextual -implicitDefEqProofs (maxSteps:=10^7) only[go_sem,seval,↓gZ,hx,ab,hw,u0,u1,u2];refine ih (i+1) _ (by omega) (by omega) ?_;simp +contextual -implicitDefEqProofs (maxSteps:=10^7) only[go_sem,seval,↓gZ,hm]
 ·have:i=l.length:=by omega
  subst this;simp +contextual -implicitDefEqProofs (maxSteps:=10^7) only[go_sem,seval,↓gZ];simp
theorem Zfd (l:List Zc) (hl:l.length≤1048576):Zf Xs Ms YG [(.d (.sl (l.map Zc.enc)))] []=some ((.d (.bool (decide (JM l)))),[]):=by
 refine cE ?_;simp +contextual -implicitDefEqProofs (maxSteps:=10^7) only[go_sem,seval,↓gZ,ZbF];refine LO (α:=Nat) (fun i=>[(4,.d (J (i:Int))),(3,.d (J (WH (l.take i))))]) (fun _=>[]) (fun i=>i≤l.length∧(ZiT [] l↔ZiT ((l.take i).map Zc.Pane) (l.drop i))∧0≤WH (l.take i)∧WH (l.take i)≤24*i) (fun i=>l.length-i) 0 ⟨by simp,by simp,by simp[WH],by simp[WH]⟩ ?_;intro i ⟨hi,hp,al,am⟩ ih;by_cases aa:i<l.length
 ·obtain⟨x,hx⟩:=Zr aa;have hw:=Zj (k:=i) (by omega);rw[ZqX hx,← JN hx] at hp;have ev:=VO x.Pane.W x.Pane.H x.Pane.Turns x.Pane.Kind;have ae:=ZqY hx;obtain⟨⟨W,H,T,K⟩,C⟩:=x;simp only at hp ev ae;by_cases hv:VP ⟨W,H,T,K⟩
  ·rw[Kg hv] at ev;by_cases hC:1≤C∧C≤24
   ·have er:=ZH C 1 24;rw[Kg hC] at er;simp +contextual -implicitDefEqProofs (maxSteps:=10^7) only[go_sem,seval,↓gZ,hx,aa,hw,ev,er];refine YC Xs Ms (st0:=?st1) (α:=Nat) (fun k=>[(5,.d (J (k:Int)))]) (fun _=>[]) (fun k=>k≤i∧(⟨W,H,T,K⟩:Pane)∉(l.take k).map Zc.Pane) (fun k=>i-k) 0 ?hc2 ⟨by omega,by simp⟩ ?h02 ?step2
    case hc2=>simp +contextual -implicitDefEqProofs (maxSteps:=10^7) only[go_sem,seval,↓gZ]<;>exact rfl
    case h02=>rfl
    case step2=>
     intro k ⟨hk,hq⟩ ai;by_cases ab:k<i
     ·obtain⟨y,hy⟩:=Zr (l:=l) (k:=k) (by omega);have af:k<l.length:=by omega
      have ag:=Zj (k:=k) (by omega);have ah:=JN hy;obtain⟨⟨W',H',T',K'⟩,C'⟩:=y;simp only at ah;by_cases he:(⟨W',H',T',K'⟩:Pane)=⟨W,H,T,K⟩
      ·have ad:(⟨W,H,T,K⟩:Pane)∈(l.take i).map Zc.Pane:=by
        rw[← he];have h3:(l.take i)[k]?=some ⟨⟨W',H',T',K'⟩,C'⟩:=by rw[List.getElem?_take_of_lt ab];exact hy
        exact Lk.2 ⟨_,Kb h3,rfl⟩
       have hn:¬JM l:=fun h=>(hp.1 h.2.1).2.1 ad;simp only[Pane.mk.injEq] at he;simp +contextual -implicitDefEqProofs (maxSteps:=10^7) only[go_sem,seval,↓gZ,hx,aa,hw,hy,ab,af,ag,he,hn]
      ·have aj:=he;simp only[Pane.mk.injEq] at he;simp +contextual -implicitDefEqProofs (maxSteps:=10^7) only[go_sem,seval,↓gZ,hx,aa,hw,hy,ab,af,ag,he];refine ai (k+1) _ ⟨by omega,?_⟩ (by omega) ?_
       ·rw[ah,Ke];intro h;rcases h with h | h
        ·exact hq h
        ·exact aj (KL.1 h).symm
       ·simp +contextual -implicitDefEqProofs (maxSteps:=10^7) only[go_sem,seval,↓gZ]
     ·have:k=i:=by omega
      subst this;have ak:=wi (WH (l.take k)+C) (by omega) (by omega);simp +contextual -implicitDefEqProofs (maxSteps:=10^7) only[go_sem,seval,↓gZ,hx,aa,hw,ab,ak];refine ih (k+1) _ ⟨by omega,?_,by omega,by omega⟩ (by omega) ?_
      ·rw[hp];exact⟨fun h=>h.2.2.2.2,fun h=>⟨hv,hq,hC.1,hC.2,h⟩⟩
      ·simp +contextual -implicitDefEqProofs (maxSteps:=10^7) only[go_sem,seval,↓gZ,ae]
   ·have er:=ZH C 1 24;rw[Kh hC] at er;have hn:¬JM l:=fun h=>hC ⟨(hp.1 h.2.1).2.2.1,(hp.1 h.2.1).2.2.2.1⟩;simp +contextual -implicitDefEqProofs (maxSteps:=10^7) only[go_sem,seval,↓gZ,hx,aa,hw,ev,er,hn]
  ·rw[Kh hv] at ev;have hn:¬JM l:=fun h=>hv (hp.1 h.2.1).1;simp +contextual -implicitDefEqProofs (maxSteps:=10^7) only[go_sem,seval,↓gZ,hx,aa,hw,ev,hn]
 ·have:i=l.length:=by omega
  subst this;have hs:=hp.2 Ztu;rw[Lo (Kk _)];simp +contextual -implicitDefEqProofs (maxSteps:=10^7) only[go_sem,seval,↓gZ];exact Zcs (by simp only[JM];constructor<;>(intro h;first | exact⟨by omega,hs,by omega⟩ | (have:=h.1;have:=h.2.2;omega)))
theorem ZtA {l:List Zb} (hv:VSt l):∀ x∈l,1≤x.W∧x.W≤200∧1≤x.H∧x.H≤200:=fun x hx=>by
 have:=(Qo hv.2 x hx).1;omega
theorem Zmk {l:List Zb} (hv:VSt l):0≤Yy l∧Yy l≤800000:=by
 have h1:=ZaS (ZtA hv);have:=hv.1;omega
theorem Zot (l:List Zb) (hv:VSt l):Zf Xs Ms WS [(.d (.sl (l.map Zb.enc)))] []=some ((.d (J (Yy l))),[]):=by
 have af:=hv.1;have aa:=ZtA hv;clear hv;refine cE ?_;simp +contextual -implicitDefEqProofs (maxSteps:=10^7) only[go_sem,seval,↓gZ,ZcR];refine LO (α:=Nat) (fun i=>[(4,.d (J (i:Int))),(3,.d (J (Yy (l.take i))))]) (fun _=>[]) (fun i=>i≤l.length) (fun i=>l.length-i) 0 (by omega) ?_;intro i hi ih;by_cases ab:i<l.length
 ·obtain⟨x,hx⟩:=Zr ab;have hw:=Zj (k:=i) (by omega);have hm:=Zoi hx;have ag:=ZaS (l:=l.take i) (fun y hy=>aa y (KY hy));have ah:(l.take i).length≤i:=by simp;omega
  have g5:=aa x (Kb hx);have ad:x.W*x.H≤200*200:=Kac (by omega) (by omega) (by omega) (by omega);have ae:0≤x.W*x.H:=Kab (by omega) (by omega);obtain⟨xL,xW,xH,xF⟩:=x;simp only at g5 hm ad ae;have u0:=wi (xW*xH) (by omega) (by omega);have u1:=wi (Yy (l.take i)+xW*xH) (by omega) (by omega);simp +contextual -implicitDefEqProofs (maxSteps:=10^7) only[go_sem,seval,↓gZ,hx,ab,hw,u0,u1];refine ih (i+1) _ (by omega) (by omega) ?_;simp +contextual -implicitDefEqProofs (maxSteps:=10^7) only[go_sem,seval,↓gZ,hm]
 ·have:i=l.length:=by omega
  subst this;simp +contextual -implicitDefEqProofs (maxSteps:=10^7) only[go_sem,seval,↓gZ];simp
theorem Zou (l:List Zc) (hv:JM l):Zf Xs Ms WT [(.d (.sl (l.map Zc.enc)))] []=some ((.d (J (Jz l))),[]):=by
 have h8:=hv.1;have aa:=Xq hv;clear hv;refine cE ?_;simp +contextual -implicitDefEqProofs (maxSteps:=10^7) only[go_sem,seval,↓gZ,ZcS];refine LO (α:=Nat) (fun i=>[(4,.d (J (i:Int))),(3,.d (J (Jz (l.take i))))]) (fun _=>[]) (fun i=>i≤l.length) (fun i=>l.length-i) 0 (by omega) ?_;intro i hi ih;by_cases ab:i<l.length
 ·obtain⟨x,hx⟩:=Zr ab;have hw:=Zj (k:=i) (by omega);have hm:=ZqZ hx;have ad:=ZdZ (l:=l.take i) (fun y hy=>aa y (KY hy));have ae:(l.take i).length≤i:=by simp;omega
  have g5:=Zdq (aa x (Kb hx));obtain⟨⟨W,H,T,K⟩,C⟩:=x;simp only at g5 hm;have u0:=wi (C*W) (by omega) (by omega);have u1:=wi (C*W*H) (by omega) (by omega);have u2:=wi (Jz (l.take i)+C*W*H) (by omega) (by omega);simp +contextual -implicitDefEqProofs (maxSteps:=10^7) only[go_sem,seval,↓gZ,hx,ab,hw,u0,u1,u2];refine ih (i+1) _ (by omega) (by omega) ?_;simp +contextual -implicitDefEqProofs (maxSteps:=10^7) only[go_sem,seval,↓gZ,hm]
 ·have:i=l.length:=by omega
  subst this;simp +contextual -implicitDefEqProofs (maxSteps:=10^7) only[go_sem,seval,↓gZ];simp
theorem Zqy (sS:List Zb) (sO sD:List Zc) (sL sC:Int) (h1:VSt sS) (h2:JM sD) (h3:0≤sL∧sL≤100000000):Zf Xs Ms US [(.d (.agg [.sl (sS.map Zb.enc),.sl (sO.map Zc.enc),.sl (sD.map Zc.enc),J sL,J sC]))] []=some ((.d (J (Yy sS+Jz sD+sL))),[]):=by
 have e1:=Zot sS h1;have e2:=Zou sD h2;have b1:=Zmk h1;have b2:=Zoq h2;have u0:=wi (Yy sS+Jz sD) (by omega) (by omega);have u1:=wi (Yy sS+Jz sD+sL) (by omega) (by omega);refine cE ?_;simp +contextual -implicitDefEqProofs (maxSteps:=10^7) only[go_sem,seval,↓gZ,Zed,e1,e2,u0,u1]
def Ub (s:Zs):Prop:=s.Stock.length≤1048576∧(∀ x∈s.Stock,x.Flaws.length≤1048576∧R64 x.W∧R64 x.H)∧s.Opn.length≤1048576∧s.Done.length≤1048576
theorem ZnO {x:Zb} (h:VPc x):R64 x.W∧R64 x.H:=by
 have:=h.1;unfold R64;omega
theorem Zbp {s:Zs} (h:ZM s):Ub s:=
 ⟨by have:=h.1.1;omega,fun x hx=>⟨(Zdp h.1).2 x hx,ZnO (Qo h.1.2 x hx)⟩,by have:=h.2.1.1;omega,by have:=h.2.2.1.1;omega⟩
theorem XX (sS:List Zb) (sO sD:List Zc) (sL sC:Int) (hs:Ub (Zs.mk sS sO sD sL sC)):Zf Xs Ms Vj [(.d (.agg [.sl (sS.map Zb.enc),.sl (sO.map Zc.enc),.sl (sD.map Zc.enc),J sL,J sC]))] []=some ((.d (.bool (decide (ZM (Zs.mk sS sO sD sL sC))))),[]):=by
 obtain⟨h1,h2,h3,h4⟩:=hs;simp only at h1 h2 h3 h4;have e1:=Y9 sS (by omega) (fun x hx=>⟨by have:=(h2 x hx).1;omega,(h2 x hx).2⟩);have e2:=Zfd sO h3;have e3:=Zfd sD h4;have e4:=ZH sL 0 900000;have e5:=ZH sC 0 900000;refine cE ?_;by_cases v1:VSt sS
 ·rw[Kg v1] at e1;by_cases v2:JM sO
  ·rw[Kg v2] at e2;by_cases v3:JM sD
   ·rw[Kg v3] at e3;by_cases v4:0≤sL∧sL≤900000
    ·rw[Kg v4] at e4;by_cases v5:0≤sC∧sC≤900000
     ·rw[Kg v5] at e5;have e6:=Zqy sS sO sD sL sC v1 v3 (by omega);simp +contextual -implicitDefEqProofs (maxSteps:=10^7) only[go_sem,seval,↓gZ,XS,e1,e2,e3,e4,e5,e6];exact Zcs ⟨fun h=>⟨v1,v2,v3,v4.1,v4.2,v5.1,v5.2,h⟩,fun h=>h.2.2.2.2.2.2.2⟩
     ·rw[Kh v5] at e5;have hn:¬ZM (Zs.mk sS sO sD sL sC):=fun h=>v5 ⟨h.2.2.2.2.2.1,h.2.2.2.2.2.2.1⟩;simp +contextual -implicitDefEqProofs (maxSteps:=10^7) only[go_sem,seval,↓gZ,XS,e1,e2,e3,e4,e5,hn]
    ·rw[Kh v4] at e4;have hn:¬ZM (Zs.mk sS sO sD sL sC):=fun h=>v4 ⟨h.2.2.2.1,h.2.2.2.2.1⟩;simp +contextual -implicitDefEqProofs (maxSteps:=10^7) only[go_sem,seval,↓gZ,XS,e1,e2,e3,e4,hn]
   ·rw[Kh v3] at e3;have hn:¬ZM (Zs.mk sS sO sD sL sC):=fun h=>v3 h.2.2.1;simp +contextual -implicitDefEqProofs (maxSteps:=10^7) only[go_sem,seval,↓gZ,XS,e1,e2,e3,hn]
  ·rw[Kh v2] at e2;have hn:¬ZM (Zs.mk sS sO sD sL sC):=fun h=>v2 h.2.1;simp +contextual -implicitDefEqProofs (maxSteps:=10^7) only[go_sem,seval,↓gZ,XS,e1,e2,hn]
 ·rw[Kh v1] at e1;have hn:¬ZM (Zs.mk sS sO sD sL sC):=fun h=>v1 h.1;simp +contextual -implicitDefEqProofs (maxSteps:=10^7) only[go_sem,seval,↓gZ,XS,e1,hn]
theorem Z5 (sS:List Zb) (sO sD:List Zc) (sL sC:Int):Zf Xs Ms Yn [(.d (.agg [.sl (sS.map Zb.enc),.sl (sO.map Zc.enc),.sl (sD.map Zc.enc),J sL,J sC]))] []=some ((.d (.bool (decide (ZM (Zs.mk sS sO sD sL sC))))),[]):=by
 have e1:=Y8 sS;have e2:=ZaE sO;have e3:=ZaE sD;refine cE ?_;by_cases v1:VSt sS
 ·rw[Kg v1] at e1;by_cases v2:JM sO
  ·rw[Kg v2] at e2;by_cases v3:JM sD
   ·rw[Kg v3] at e3;by_cases v4:((sL<0∨900000<sL)∨sC<0)∨900000<sC
    ·have hn:¬ZM (Zs.mk sS sO sD sL sC):=fun h=>by
      obtain⟨_,_,_,h1,h2,h3,h4,_⟩:=h;simp only at h1 h2 h3 h4;omega
     simp +contextual -implicitDefEqProofs (maxSteps:=10^7) only[go_sem,seval,↓gZ,Yu,e1,e2,e3,v4,hn,← Bool.decide_or]
    ·have e4:=Zoo sS v1;have e5:=Zos sD v3;have b1:=Zmk v1;have b2:=Zoq v3;have u0:=wi (Yy sS+Jz sD) (by omega) (by omega);have u1:=wi (Yy sS+Jz sD+sL) (by omega) (by omega);simp +contextual -implicitDefEqProofs (maxSteps:=10^7) only[go_sem,seval,↓gZ,Yu,e1,e2,e3,v4,e4,e5,u0,u1,← Bool.decide_or];exact Zcs ⟨fun h=>⟨v1,v2,v3,by simp only;omega,by simp only;omega,by simp only;omega,by simp only;omega,h⟩,fun h=>h.2.2.2.2.2.2.2⟩
   ·rw[Kh v3] at e3;have hn:¬ZM (Zs.mk sS sO sD sL sC):=fun h=>v3 h.2.2.1;simp +contextual -implicitDefEqProofs (maxSteps:=10^7) only[go_sem,seval,↓gZ,Yu,e1,e2,e3,hn]
  ·rw[Kh v2] at e2;have hn:¬ZM (Zs.mk sS sO sD sL sC):=fun h=>v2 h.2.1;simp +contextual -implicitDefEqProofs (maxSteps:=10^7) only[go_sem,seval,↓gZ,Yu,e1,e2,hn]
 ·rw[Kh v1] at e1;have hn:¬ZM (Zs.mk sS sO sD sL sC):=fun h=>v1 h.1;simp +contextual -implicitDefEqProofs (maxSteps:=10^7) only[go_sem,seval,↓gZ,Yu,e1,hn]
end Go.Proofs.YtdhgppkldoopaaaGreat
