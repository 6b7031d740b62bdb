/- Own text. -/
import Derived.Test.YtfnegoimdljanaaGreatDoorACode
import Derived.Test.YtfnegoimdljanaaGreatDoorAC1
import Derived.Test.YtfnegoimdljanaaGreatDoorAC4
import Derived.Test.YtfnegoimdljanaaGreatDoorAbsOkD
namespace Go.Proofs.YtfnegoimdljanaaGreatDoor
open Go Go.Abs Go.Abs.E Go.Abs.L
set_option linter.unusedSimpArgs false
set_option linter.unusedVariables false
set_option maxRecDepth 20000
set_option maxHeartbeats 4000000
def Zlb:List Pane→List Zc→Prop
 | _,[]=>True
 | q,x :: l=>VP x.Pane∧x.Pane∉q∧1≤x.Count∧x.Count≤24∧Zlb (q++[x.Pane]) l
instance ordGdec:∀ (q:List Pane) (l:List Zc),Decidable (Zlb q l)
 | _,[]=>.isTrue trivial
 | q,x :: l=>by
  unfold Zlb;have:=ordGdec (q++[x.Pane]) l
  infer_instance
def Qp:List Zc→Int
 | []=>0
 | x :: l=>x.Count+Qp l
def JF (l:List Zc):Prop:=l.length≤8∧Zlb [] l∧Qp l≤24
instance (l:List Zc):Decidable (JF l):=by unfold JF;infer_instance
theorem ZvU {l:List Zc} {k:Nat} {x:Zc} {q:List Pane} (hx:l[k]?=some x):Zlb q (l.drop k)↔VP x.Pane∧x.Pane∉q∧1≤x.Count∧x.Count≤24∧Zlb (q++[x.Pane]) (l.drop (k+1)):=by
 obtain⟨h1,h2⟩:=Kb.1 hx;rw[Ku h1,h2,Zlb]
theorem Zzo {l:List Zc} {q:List Pane}:Zlb q (l.drop l.length):=by simp[Zlb]
theorem ZaK {l:List Zc} {k:Nat} {x:Zc} (hx:l[k]?=some x):(l.take (k+1)).map Zc.Pane=(l.take k).map Zc.Pane++[x.Pane]:=by
 rw[KB,hx];simp
theorem ZoW (a b:List Zc):Qp (a++b)=Qp a+Qp b:=by
 induction a with
 | nil=>simp[Qp]
 | cons c l ih=>simp only[KD,Qp,ih];omega
theorem ZvV {l:List Zc} {i:Nat} {x:Zc} (hx:l[i]?=some x):Qp (l.take (i+1))=Qp (l.take i)+x.Count:=by
 rw[KB,hx,ZoW];simp[Qp]
theorem ZrM:∀ {l:List Zc} {q:List Pane},Zlb q l→∀ x∈l,VP x.Pane∧1≤x.Count∧x.Count≤24
 | [],_,_,x,hx=>by simp at hx
 | y :: l,q,h,x,hx=>by
  rcases Ke.1 hx with rfl | hx
  ·exact⟨h.1,h.2.2.1,h.2.2.2.1⟩
  ·exact ZrM h.2.2.2.2 x hx
theorem Zzp:∀ {l:List Zc},(∀ x∈l,1≤x.Count)→0≤Qp l
 | [],_=>by simp[Qp]
 | x :: l,h=>by
  have h1:=h x (by simp);have h2:=Zzp (l:=l) fun y hy=>h y (by simp[hy]);simp only[Qp];omega
theorem Zzq {l:List Zc} {i:Nat} (h:∀ x∈l,1≤x.Count):Qp (l.take i)≤Qp l:=by
 have e:Qp l=Qp (l.take i)+Qp (l.drop i):=by rw[← ZoW,Lq]
 have:=Zzp (l:=l.drop i) fun y hy=>h y (L9 hy);omega
def Vw:Nat→List Zc→Pane→Int
 | _,[],_=>-1
 | k,x :: l,p=>if x.Pane=p then (k:Int) else Vw (k+1) l p
theorem ZBm {l:List Zc} {k:Nat} {x:Zc} {p:Pane} (hx:l[k]?=some x):Vw k (l.drop k) p=if x.Pane=p then (k:Int) else Vw (k+1) (l.drop (k+1)) p:=by
 obtain⟨h1,h2⟩:=Kb.1 hx;rw[Ku h1,h2,Vw]
theorem Zzr:∀ (l:List Zc) (k i:Nat) (x:Zc),l[i]?=some x→(Vw k l x.Pane=((k+i:Nat):Int)↔x.Pane∉(l.take i).map Zc.Pane)
 | [],k,i,x,h=>by simp at h
 | y :: l,k,0,x,h=>by
  simp only[KX,Option.some.injEq] at h;subst h;simp[Vw]
 | y :: l,k,i+1,x,h=>by
  simp only[KY] at h;have ih:=Zzr l (k+1) i x h;simp only[Vw,LY,Kk,Ke,not_or];split
  ·rename_i e;constructor
   ·intro h;omega
   ·intro h;exact absurd e.symm h.1
  ·rename_i e;rw[show k+1+i=k+(i+1) by omega] at ih;rw[ih];exact⟨fun h=>⟨fun e'=>e e'.symm,h⟩,fun h=>h.2⟩
def Zaz:List Zc→Int
 | []=>0
 | x :: l=>x.Count*x.Pane.W*x.Pane.H+Zaz l
theorem Zzs (a b:List Zc):Zaz (a++b)=Zaz a+Zaz b:=by
 induction a with
 | nil=>simp[Zaz]
 | cons c l ih=>simp only[KD,Zaz,ih];omega
theorem ZvW {l:List Zc} {i:Nat} {x:Zc} (hx:l[i]?=some x):Zaz (l.take (i+1))=Zaz (l.take i)+x.Count*x.Pane.W*x.Pane.H:=by
 rw[KB,hx,Zzs];simp[Zaz]
theorem ZdA {x:Zc} (h:VP x.Pane∧1≤x.Count∧x.Count≤24):0≤x.Count*x.Pane.W∧x.Count*x.Pane.W≤4800∧0≤x.Count*x.Pane.W*x.Pane.H∧x.Count*x.Pane.W*x.Pane.H≤960000:=by
 obtain⟨h1,h2,h3⟩:=h;simp only[VP] at h1;have a1:0≤x.Count*x.Pane.W:=Kan (by omega) (by omega);have a2:x.Count*x.Pane.W≤24*200:=Kao (by omega) (by omega) (by omega) (by omega);have a3:0≤x.Count*x.Pane.W*x.Pane.H:=Kan (by omega) (by omega);have a4:x.Count*x.Pane.W*x.Pane.H≤4800*200:=Kao (by omega) (by omega) (by omega) (by omega);omega
theorem ZgW:∀ {l:List Zc},(∀ x∈l,VP x.Pane∧1≤x.Count∧x.Count≤24)→0≤Zaz l∧Zaz l≤960000*l.length
 | [],_=>by simp[Zaz]
 | x :: l,h=>by
  have h1:=ZdA (h x (by simp));have h2:=ZgW (l:=l) fun y hy=>h y (by simp[hy]);simp only[Zaz,Kl];omega
theorem Z5 {l:List Zc} (h:JF l):∀ x∈l,VP x.Pane∧1≤x.Count∧x.Count≤24:=ZrM h.2.1
theorem ZrN {l:List Zc} (h:JF l):0≤Zaz l∧Zaz l≤7680000:=by
 have h1:=ZgW (Z5 h);have:=h.1;omega
structure Zn where
 kind:Int
 label:Int
 box:Box
 line:Zc
 plan:Ze
def Zn.enc (e:Zn):D:=.agg ([J e.kind,J e.label,J e.box.X,J e.box.Y,J e.box.W,J e.box.H,J e.line.Pane.W,J e.line.Pane.H,.bool e.line.Pane.Turns,J e.line.Pane.Kind,J e.line.Count]++e.plan.enc.cells)
@[go_sem] theorem Zn.enc_mk (k l x y w h pw ph pk c o a p:Int) (pt t:Bool) (ks:List Ze):Zn.enc (Zn.mk k l (Box.mk x y w h) (Zc.mk (Pane.mk pw ph pt pk) c) (Ze.mk o a p t ks)) =
  .agg [J k,J l,J x,J y,J w,J h,J pw,J ph,.bool pt,J pk,J c,J o,J a,J p,.bool t,.sl (ks.map Ze.enc)]:=by
 simp only[Zn.enc,Ze.enc_mk];rfl
theorem Zn.enc_len (e:Zn):(Zn.enc e).cells.length=16:=by
 show (_++e.plan.enc.cells).length=16;rw[Kq,Ze.enc_len];rfl
@[go_sem] theorem uni_Event (l:List Zn):uni 16 (l.map Zn.enc)=True:=eq_true (ZbO l Zn.enc_len)
def ZK (s:Zq):Prop:=VSt s.Stock∧JF s.Opn∧JF s.Done∧0≤s.Lost∧s.Lost≤900000∧0≤s.Came∧s.Came≤900000∧Y8 s.Stock+Zaz s.Done+s.Lost=s.Came
instance (s:Zq):Decidable (ZK s):=by unfold ZK;infer_instance
def QC (p:Zb):List Zb→List Zb
 | []=>[p]
 | x :: l=>if p.Label<x.Label then p :: x :: l else x :: QC p l
theorem ZrO {l:List Zb} {k:Nat} {x p:Zb} (hx:l[k]?=some x):QC p (l.drop k)=if p.Label<x.Label then p :: l.drop k else x :: QC p (l.drop (k+1)):=by
 obtain⟨h1,h2⟩:=Kb.1 hx;rw[Ku h1,h2,QC]
theorem ZnU (p:Zb):∀ (l:List Zb),(QC p l).length=l.length+1
 | []=>rfl
 | x :: l=>by
  unfold QC;split
  ·simp
  ·simp[ZnU p l]
theorem ZvX (p:Zb):∀ (l:List Zb) (y:Zb),y∈QC p l→y=p∨y∈l
 | [],y,h=>by simpa [QC] using h
 | x :: l,y,h=>by
  unfold QC at h;split at h
  ·simpa using h
  ·rcases Ke.1 h with rfl | h
   ·exact .inr (by simp)
   ·rcases ZvX p l y h with h | h
    ·exact .inl h
    ·exact .inr (by simp[h])
def ZiF (p:Pane) (c:Int) (x:Zc):Option Zc:=
 if x.Pane=p then (if 0<x.Count-c then some ⟨x.Pane,x.Count-c⟩ else none) else (if 0<x.Count then some x else none)
def XY (l:List Zc) (p:Pane) (c:Int):List Zc:=l.filterMap (ZiF p c)
def Xr (p:Pane) (c:Int):Bool→List Zc→Bool
 | b,[]=>b
 | b,x :: l=>Xr p c (if x.Pane=p then decide (0≤x.Count-c) else b) l
theorem Zzt {l:List Zc} {k:Nat} {x:Zc} {p:Pane} {c:Int} {b:Bool} (hx:l[k]?=some x):Xr p c b (l.drop k)=Xr p c (if x.Pane=p then decide (0≤x.Count-c) else b) (l.drop (k+1)):=by
 obtain⟨h1,h2⟩:=Kb.1 hx;rw[Ku h1,h2,Xr]
theorem ZBn {l:List Zc} {p:Pane} {c:Int} {b:Bool}:Xr p c b (l.drop l.length)=b:=by simp[Xr]
theorem ZBo {l:List Zc} {i:Nat} {x:Zc} (p:Pane) (c:Int) (hx:l[i]?=some x):XY (l.take (i+1)) p c=XY (l.take i) p c++(ZiF p c x).toList:=by
 unfold XY;rw[KB,hx,LM];simp only[L3,Lt,List.filterMap_nil];cases ZiF p c x<;>rfl
def YB (p:Pane) (c:Int):List Zc→List Zc
 | []=>[⟨p,c⟩]
 | x :: l=>if x.Pane=p then ⟨x.Pane,x.Count+c⟩ :: l else x :: YB p c l
theorem ZdV (p:Pane) (c:Int):∀ (l:List Zc),(YB p c l).length≤l.length+1
 | []=>by simp[YB]
 | x :: l=>by
  unfold YB;split
  ·simp
  ·have:=ZdV p c l;simp;omega
theorem Zxy (p:Pane) (c:Int):∀ (l:List Zc) (i:Nat) (x:Zc),l[i]?=some x→x.Pane=p→p∉(l.take i).map Zc.Pane→YB p c l=l.set i ⟨x.Pane,x.Count+c⟩
 | [],i,x,h,_,_=>by simp at h
 | y :: l,0,x,h,e,_=>by
  simp only[KX,Option.some.injEq] at h;subst h;simp[YB,e]
 | y :: l,i+1,x,h,e,hn=>by
  simp only[KY] at h;simp only[LY,Kk,Ke,not_or] at hn;have ih:=Zxy p c l i x h e hn.2;simp only[YB,Kd (fun e' : y.Pane=p=>hn.1 e'.symm),Kaj,ih]
theorem Zxz (p:Pane) (c:Int):∀ (l:List Zc),p∉l.map Zc.Pane→YB p c l=l++[⟨p,c⟩]
 | [],_=>rfl
 | y :: l,hn=>by
  simp only[Kk,Ke,not_or] at hn;simp only[YB,Kd (fun e' : y.Pane=p=>hn.1 e'.symm),Zxz p c l hn.2,KD]
theorem Zp5 (qW qH:Int) (qT:Bool) (qK qC:Int) (pW pH:Int) (pT:Bool) (pK:Int):Zd Xs Ms 179 [(.d (.agg [J qW,J qH,.bool qT,J qK,J qC])),.ptr 0 0] [.box [(.d (J pW)),(.d (J pH)),(.d (.bool pT)),(.d (J pK))]]=some ((.d (.bool (decide ((Pane.mk qW qH qT qK)=(Pane.mk pW pH pT pK))))),[.box [(.d (J pW)),(.d (J pH)),(.d (.bool pT)),(.d (J pK))]]):=by
 refine cE ?_;simp +contextual -implicitDefEqProofs only[go_sem,seval,Zd5];try exact Zel (by simp only[Pane.mk.injEq,and_assoc])
theorem Zuz (l:List Zc) (pW pH:Int) (pT:Bool) (pK:Int) (hl:l.length<4611686018427387904):Zd Xs Ms 178 [(.d (.sl (l.map Zc.enc))),.clo 179 [.ptr 0 0]] [.box [(.d (J pW)),(.d (J pH)),(.d (.bool pT)),(.d (J pK))]]=some ((.d (J (Vw 0 l (Pane.mk pW pH pT pK)))),[.box [(.d (J pW)),(.d (J pH)),(.d (.bool pT)),(.d (J pK))]]):=by
 refine cE ?_;simp +contextual -implicitDefEqProofs only[go_sem,seval,Wi];refine LO (α:=Nat) (fun k=>[(8,.d (J (k:Int)))]) (fun _=>[]) (fun k=>k≤l.length∧Vw k (l.drop k) (Pane.mk pW pH pT pK)=Vw 0 l (Pane.mk pW pH pT pK)) (fun k=>l.length-k) 0 ⟨by omega,rfl⟩ ?_;intro k ⟨hk,hp⟩ ih;by_cases aa:k<l.length
 ·obtain⟨x,hx⟩:=Zp aa;rw[ZBm hx] at hp;have hw:=Zg (k:=k) (by omega);have e1:=Zp5 x.Pane.W x.Pane.H x.Pane.Turns x.Pane.Kind x.Count pW pH pT pK;obtain⟨⟨W,H,T,K⟩,C⟩:=x;simp only at hp e1;by_cases h:(⟨W,H,T,K⟩:Pane)=(Pane.mk pW pH pT pK)
  ·rw[Kg h] at hp;rw[Kh h] at e1;simp +contextual -implicitDefEqProofs only[go_sem,seval,hx,aa,hw,e1];rw[← hp]
  ·rw[Kd h] at hp;rw[Kj h] at e1;simp +contextual -implicitDefEqProofs only[go_sem,seval,hx,aa,hw,e1];refine ih (k+1) _ ⟨by omega,hp⟩ (by omega) ?_;simp +contextual -implicitDefEqProofs only[go_sem,seval]
 ·have:k=l.length:=by omega
  subst this;simp +contextual -implicitDefEqProofs only[go_sem,seval];rw[← hp];simp[Vw]
theorem Zfy (l:List Zc) (pW pH:Int) (pT:Bool) (pK:Int) (hl:l.length<4611686018427387904):Zd Xs Ms 123 [(.d (.sl (l.map Zc.enc))),(.d (.agg [J pW,J pH,.bool pT,J pK]))] []=some ((.d (J (Vw 0 l (Pane.mk pW pH pT pK)))),[]):=by
 refine cE ?_;simp +contextual -implicitDefEqProofs only[go_sem,seval,Zhc,Zuz l pW pH pT pK hl]
theorem UV (l:List Zc):Zd Xs Ms 76 [(.d (.sl (l.map Zc.enc)))] []=some ((.d (.bool (decide (JF l)))),[]):=by
 by_cases h8:(8:Int)<(l.length:Int)
 ·have hn:¬JF l:=fun h=>by have:=h.1;omega
  refine cE ?_;simp +contextual -implicitDefEqProofs only[go_sem,seval,J7,h8,hn]
 ·have ah:l.length≤8:=by omega
  refine cE ?_;simp +contextual -implicitDefEqProofs only[go_sem,seval,J7,h8];refine LO (α:=Nat) (fun i=>[(11,.d (J (i:Int))),(3,.d (J (24-Qp (l.take i))))]) (fun _=>[]) (fun i=>i≤l.length∧(Zlb [] l↔Zlb ((l.take i).map Zc.Pane) (l.drop i))∧0≤Qp (l.take i)∧Qp (l.take i)≤24) (fun i=>l.length-i) 0 ⟨by simp,by simp,by simp[Qp],by simp[Qp]⟩ ?_;intro i ⟨hi,hp,aj,ae⟩ ih;by_cases aa:i<l.length
  ·obtain⟨x,hx⟩:=Zp aa;have hw:=Zg (k:=i) (by omega);rw[ZvU hx,← ZaK hx] at hp;have ev:=Jz x.Pane.W x.Pane.H x.Pane.Turns x.Pane.Kind;have ef:=Zfy l x.Pane.W x.Pane.H x.Pane.Turns x.Pane.Kind (by omega);have ab:=Zzr l 0 i x hx;have af:=ZvV hx;obtain⟨⟨W,H,T,K⟩,C⟩:=x;simp only[K7] at hp ev ef ab af;by_cases hv:VP ⟨W,H,T,K⟩
   ·rw[Kh hv] at ev;by_cases hf:Vw 0 l ⟨W,H,T,K⟩=(i:Int)
    ·rw[hf] at ef;by_cases ad:C<1
     ·have hn:¬JF l:=fun h=>by have:=(hp.1 h.2.1).2.2.1;omega
      simp +contextual -implicitDefEqProofs only[go_sem,seval,hx,aa,hw,ev,ef,ad,hn]
     ·by_cases ag:24-Qp (l.take i)<C
      ·have hn:¬JF l:=fun h=>by
        have:=Zzq (l:=l) (i:=i+1) (fun x hx=>(ZrM h.2.1 x hx).2.1);have:=h.2.2;omega
       simp +contextual -implicitDefEqProofs only[go_sem,seval,hx,aa,hw,ev,ef,ad,ag,hn]
      ·have ai:=wi (24-Qp (l.take i)-C) (by omega) (by omega);simp +contextual -implicitDefEqProofs only[go_sem,seval,hx,aa,hw,ev,ef,ad,ag,ai];refine ih (i+1) _ ⟨by omega,?_,by omega,by omega⟩ (by omega) ?_
       ·rw[hp];exact⟨fun h=>h.2.2.2.2,fun h=>⟨hv,ab.1 hf,by omega,by omega,h⟩⟩
       ·simp +contextual -implicitDefEqProofs only[go_sem,seval,af];try (simp;omega)
    ·have hn:¬JF l:=fun h=>hf (ab.2 (hp.1 h.2.1).2.1);simp +contextual -implicitDefEqProofs only[go_sem,seval,hx,aa,hw,ev,ef,hf,hn]
   ·rw[Kj hv] at ev;have hn:¬JF l:=fun h=>hv (hp.1 h.2.1).1;simp +contextual -implicitDefEqProofs only[go_sem,seval,hx,aa,hw,ev,hn]
  ·have:i=l.length:=by omega
   subst this;rw[KJ (Kp _)] at ae;have hy:JF l:=⟨ah,hp.2 Zzo,ae⟩
   simp +contextual -implicitDefEqProofs only[go_sem,seval,hy]
theorem ZrP (l:List Zc) (hv:JF l):Zd Xs Ms 78 [(.d (.sl (l.map Zc.enc)))] []=some ((.d (J (Zaz l))),[]):=by
 have ev:=UV l;rw[Kh hv] at ev;have h8:=hv.1;have aa:=Z5 hv;clear hv;refine cE ?_;simp +contextual -implicitDefEqProofs only[go_sem,seval,ZfQ,ev];refine LO (α:=Nat) (fun i=>[(11,.d (J (i:Int))),(3,.d (J (Zaz (l.take i))))]) (fun _=>[]) (fun i=>i≤l.length) (fun i=>l.length-i) 0 (by omega) ?_;intro i hi ih;by_cases ab:i<l.length
 ·obtain⟨x,hx⟩:=Zp ab;have hw:=Zg (k:=i) (by omega);have hm:=ZvW hx;have ad:=ZgW (l:=l.take i) (fun y hy=>aa y (Lg hy));have ae:(l.take i).length≤i:=by simp;omega
  have g5:=ZdA (aa x (Kc hx));obtain⟨⟨W,H,T,K⟩,C⟩:=x;simp only at g5 hm;have u0:=wi (C*W) (by omega) (by omega);have u1:=wi (C*W*H) (by omega) (by omega);have u2:=wi (Zaz (l.take i)+C*W*H) (by omega) (by omega);simp +contextual -implicitDefEqProofs only[go_sem,seval,hx,ab,hw,u0,u1,u2];refine ih (i+1) _ (by omega) (by omega) ?_;simp +contextual -implicitDefEqProofs only[go_sem,seval,hm]
 ·have:i=l.length:=by omega
  subst this;simp +contextual -implicitDefEqProofs only[go_sem,seval];simp
theorem Zif (l:List Zc) (hl:l.length≤1048576):Zd Xs Ms 93 [(.d (.sl (l.map Zc.enc)))] []=some ((.d (.bool (decide (JF l)))),[]):=by
 refine cE ?_;simp +contextual -implicitDefEqProofs only[go_sem,seval,Zd4];refine LO (α:=Nat) (fun i=>[(4,.d (J (i:Int))),(3,.d (J (Qp (l.take i))))]) (fun _=>[]) (fun i=>i≤l.length∧(Zlb [] l↔Zlb ((l.take i).map Zc.Pane) (l.drop i))∧0≤Qp (l.take i)∧Qp (l.take i)≤24*i) (fun i=>l.length-i) 0 ⟨by simp,by simp,by simp[Qp],by simp[Qp]⟩ ?_;intro i ⟨hi,hp,al,am⟩ ih;by_cases aa:i<l.length
 ·obtain⟨x,hx⟩:=Zp aa;have hw:=Zg (k:=i) (by omega);rw[ZvU hx,← ZaK hx] at hp;have ev:=Vf x.Pane.W x.Pane.H x.Pane.Turns x.Pane.Kind;have ae:=ZvV hx;obtain⟨⟨W,H,T,K⟩,C⟩:=x;simp only at hp ev ae;by_cases hv:VP ⟨W,H,T,K⟩
  ·rw[Kh hv] at ev;by_cases hC:1≤C∧C≤24
   ·have er:=Zv C 1 24;rw[Kh hC] at er;simp +contextual -implicitDefEqProofs only[go_sem,seval,hx,aa,hw,ev,er];refine XR Xs Ms (st0:=?st1) (α:=Nat) (fun k=>[(5,.d (J (k:Int)))]) (fun _=>[]) (fun k=>k≤i∧(⟨W,H,T,K⟩:Pane)∉(l.take k).map Zc.Pane) (fun k=>i-k) 0 ?hc2 ⟨by omega,by simp⟩ ?h02 ?step2
    case hc2=>simp +contextual -implicitDefEqProofs only[go_sem,seval]<;>exact rfl
    case h02=>rfl
    case step2=>
     intro k ⟨hk,hq⟩ ai;by_cases ab:k<i
     ·obtain⟨y,hy⟩:=Zp (l:=l) (k:=k) (by omega);have af:k<l.length:=by omega
      have ag:=Zg (k:=k) (by omega);have ah:=ZaK hy;obtain⟨⟨W',H',T',K'⟩,C'⟩:=y;simp only at ah;by_cases he:(⟨W',H',T',K'⟩:Pane)=⟨W,H,T,K⟩
      ·have ad:(⟨W,H,T,K⟩:Pane)∈(l.take i).map Zc.Pane:=by
        rw[← he];have h3:(l.take i)[k]?=some ⟨⟨W',H',T',K'⟩,C'⟩:=by rw[List.getElem?_take_of_lt ab];exact hy
        exact Li.2 ⟨_,Kc h3,rfl⟩
       have hn:¬JF l:=fun h=>(hp.1 h.2.1).2.1 ad;simp only[Pane.mk.injEq] at he;simp +contextual -implicitDefEqProofs only[go_sem,seval,hx,aa,hw,hy,ab,af,ag,he,hn]
      ·have aj:=he;simp only[Pane.mk.injEq] at he;simp +contextual -implicitDefEqProofs only[go_sem,seval,hx,aa,hw,hy,ab,af,ag,he];refine ai (k+1) _ ⟨by omega,?_⟩ (by omega) ?_
       ·rw[ah,Ki];intro h;rcases h with h | h
        ·exact hq h
        ·exact aj (KE.1 h).symm
       ·simp +contextual -implicitDefEqProofs only[go_sem,seval]
     ·have:k=i:=by omega
      subst this;have ak:=wi (Qp (l.take k)+C) (by omega) (by omega);simp +contextual -implicitDefEqProofs only[go_sem,seval,hx,aa,hw,ab,ak];refine ih (k+1) _ ⟨by omega,?_,by omega,by omega⟩ (by omega) ?_
      ·rw[hp];exact⟨fun h=>h.2.2.2.2,fun h=>⟨hv,hq,hC.1,hC.2,h⟩⟩
      ·simp +contextual -implicitDefEqProofs only[go_sem,seval,ae]
   ·have er:=Zv C 1 24;rw[Kj hC] at er;have hn:¬JF l:=fun h=>hC ⟨(hp.1 h.2.1).2.2.1,(hp.1 h.2.1).2.2.2.1⟩;simp +contextual -implicitDefEqProofs only[go_sem,seval,hx,aa,hw,ev,er,hn]
  ·rw[Kj hv] at ev;have hn:¬JF l:=fun h=>hv (hp.1 h.2.1).1;simp +contextual -implicitDefEqProofs only[go_sem,seval,hx,aa,hw,ev,hn]
 ·have:i=l.length:=by omega
  subst this;have hs:=hp.2 Zzo;rw[KJ (Kp _)];simp +contextual -implicitDefEqProofs only[go_sem,seval];exact Zel (by simp only[JF];constructor<;>(intro h;first | exact⟨by omega,hs,by omega⟩ | (have:=h.1;have:=h.2.2;omega)))
theorem Zzu {l:List Zb} (hv:VSt l):∀ x∈l,1≤x.W∧x.W≤200∧1≤x.H∧x.H≤200:=fun x hx=>by
 have:=(ZW hv.2 x hx).1;omega
theorem ZoX {l:List Zb} (hv:VSt l):0≤Y8 l∧Y8 l≤800000:=by
 have h1:=ZcL (Zzu hv);have:=hv.1;omega
theorem ZrQ (l:List Zb) (hv:VSt l):Zd Xs Ms 134 [(.d (.sl (l.map Zb.enc)))] []=some ((.d (J (Y8 l))),[]):=by
 have af:=hv.1;have aa:=Zzu hv;clear hv;refine cE ?_;simp +contextual -implicitDefEqProofs only[go_sem,seval,ZfF];refine LO (α:=Nat) (fun i=>[(4,.d (J (i:Int))),(3,.d (J (Y8 (l.take i))))]) (fun _=>[]) (fun i=>i≤l.length) (fun i=>l.length-i) 0 (by omega) ?_;intro i hi ih;by_cases ab:i<l.length
 ·obtain⟨x,hx⟩:=Zp ab;have hw:=Zg (k:=i) (by omega);have hm:=ZrF hx;have ag:=ZcL (l:=l.take i) (fun y hy=>aa y (Lg hy));have ah:(l.take i).length≤i:=by simp;omega
  have g5:=aa x (Kc hx);have ad:x.W*x.H≤200*200:=Kao (by omega) (by omega) (by omega) (by omega);have ae:0≤x.W*x.H:=Kan (by omega) (by omega);obtain⟨xL,xW,xH,xF⟩:=x;simp only at g5 hm ad ae;have u0:=wi (xW*xH) (by omega) (by omega);have u1:=wi (Y8 (l.take i)+xW*xH) (by omega) (by omega);simp +contextual -implicitDefEqProofs only[go_sem,seval,hx,ab,hw,u0,u1];refine ih (i+1) _ (by omega) (by omega) ?_;simp +contextual -implicitDefEqProofs only[go_sem,seval,hm]
 ·have:i=l.length:=by omega
  subst this;simp +contextual -implicitDefEqProofs only[go_sem,seval];simp
theorem ZrR (l:List Zc) (hv:JF l):Zd Xs Ms 135 [(.d (.sl (l.map Zc.enc)))] []=some ((.d (J (Zaz l))),[]):=by
 have h8:=hv.1;have aa:=Z5 hv;clear hv;refine cE ?_;simp +contextual -implicitDefEqProofs only[go_sem,seval,ZfN];refine LO (α:=Nat) (fun i=>[(4,.d (J (i:Int))),(3,.d (J (Zaz (l.take i))))]) (fun _=>[]) (fun i=>i≤l.length) (fun i=>l.length-i) 0 (by omega) ?_;intro i hi ih;by_cases ab:i<l.length
 ·obtain⟨x,hx⟩:=Zp ab;have hw:=Zg (k:=i) (by omega);have hm:=ZvW hx;have ad:=ZgW (l:=l.take i) (fun y hy=>aa y (Lg hy));have ae:(l.take i).length≤i:=by simp;omega
  have g5:=ZdA (aa x (Kc hx));obtain⟨⟨W,H,T,K⟩,C⟩:=x;simp only at g5 hm;have u0:=wi (C*W) (by omega) (by omega);have u1:=wi (C*W*H) (by omega) (by omega);have u2:=wi (Zaz (l.take i)+C*W*H) (by omega) (by omega);simp +contextual -implicitDefEqProofs only[go_sem,seval,hx,ab,hw,u0,u1,u2];refine ih (i+1) _ (by omega) (by omega) ?_;simp +contextual -implicitDefEqProofs only[go_sem,seval,hm]
 ·have:i=l.length:=by omega
  subst this;simp +contextual -implicitDefEqProofs only[go_sem,seval];simp
theorem ZuA (sS:List Zb) (sO sD:List Zc) (sL sC:Int) (h1:VSt sS) (h2:JF sD) (h3:0≤sL∧sL≤100000000):Zd Xs Ms 94 [(.d (.agg [.sl (sS.map Zb.enc),.sl (sO.map Zc.enc),.sl (sD.map Zc.enc),J sL,J sC]))] []=some ((.d (J (Y8 sS+Zaz sD+sL))),[]):=by
 have e1:=ZrQ sS h1;have e2:=ZrR sD h2;have b1:=ZoX h1;have b2:=ZrN h2;have u0:=wi (Y8 sS+Zaz sD) (by omega) (by omega);have u1:=wi (Y8 sS+Zaz sD+sL) (by omega) (by omega);refine cE ?_;simp +contextual -implicitDefEqProofs only[go_sem,seval,Zhp,e1,e2,u0,u1]
def ZaL (s:Zq):Prop:=s.Stock.length≤1048576∧(∀ x∈s.Stock,x.Flaws.length≤1048576∧R64 x.W∧R64 x.H)∧s.Opn.length≤1048576∧s.Done.length≤1048576
theorem Zmk {x:Zb} (h:VPc x):R64 x.W∧R64 x.H:=by
 have:=h.1;unfold R64;omega
theorem ZdW {s:Zq} (h:ZK s):ZaL s:=
 ⟨by have:=h.1.1;omega,fun x hx=>⟨(Zdz h.1).2 x hx,Zmk (ZW h.1.2 x hx)⟩,by have:=h.2.1.1;omega,by have:=h.2.2.1.1;omega⟩
theorem Vh (sS:List Zb) (sO sD:List Zc) (sL sC:Int) (hs:ZaL (Zq.mk sS sO sD sL sC)):Zd Xs Ms 48 [(.d (.agg [.sl (sS.map Zb.enc),.sl (sO.map Zc.enc),.sl (sD.map Zc.enc),J sL,J sC]))] []=some ((.d (.bool (decide (ZK (Zq.mk sS sO sD sL sC))))),[]):=by
 obtain⟨h1,h2,h3,h4⟩:=hs;simp only at h1 h2 h3 h4;have e1:=YQ sS (by omega) (fun x hx=>⟨by have:=(h2 x hx).1;omega,(h2 x hx).2⟩);have e2:=Zif sO h3;have e3:=Zif sD h4;have e4:=Zv sL 0 900000;have e5:=Zv sC 0 900000;refine cE ?_;by_cases v1:VSt sS
 ·rw[Kh v1] at e1;by_cases v2:JF sO
  ·rw[Kh v2] at e2;by_cases v3:JF sD
   ·rw[Kh v3] at e3;by_cases v4:0≤sL∧sL≤900000
    ·rw[Kh v4] at e4;by_cases v5:0≤sC∧sC≤900000
     ·rw[Kh v5] at e5;have e6:=ZuA sS sO sD sL sC v1 v3 (by omega);simp +contextual -implicitDefEqProofs only[go_sem,seval,Yr,e1,e2,e3,e4,e5,e6];exact Zel ⟨fun h=>⟨v1,v2,v3,v4.1,v4.2,v5.1,v5.2,h⟩,fun h=>h.2.2.2.2.2.2.2⟩
     ·rw[Kj v5] at e5;have hn:¬ZK (Zq.mk sS sO sD sL sC):=fun h=>v5 ⟨h.2.2.2.2.2.1,h.2.2.2.2.2.2.1⟩;simp +contextual -implicitDefEqProofs only[go_sem,seval,Yr,e1,e2,e3,e4,e5,hn]
    ·rw[Kj v4] at e4;have hn:¬ZK (Zq.mk sS sO sD sL sC):=fun h=>v4 ⟨h.2.2.2.1,h.2.2.2.2.1⟩;simp +contextual -implicitDefEqProofs only[go_sem,seval,Yr,e1,e2,e3,e4,hn]
   ·rw[Kj v3] at e3;have hn:¬ZK (Zq.mk sS sO sD sL sC):=fun h=>v3 h.2.2.1;simp +contextual -implicitDefEqProofs only[go_sem,seval,Yr,e1,e2,e3,hn]
  ·rw[Kj v2] at e2;have hn:¬ZK (Zq.mk sS sO sD sL sC):=fun h=>v2 h.2.1;simp +contextual -implicitDefEqProofs only[go_sem,seval,Yr,e1,e2,hn]
 ·rw[Kj v1] at e1;have hn:¬ZK (Zq.mk sS sO sD sL sC):=fun h=>v1 h.1;simp +contextual -implicitDefEqProofs only[go_sem,seval,Yr,e1,hn]
theorem Z7 (sS:List Zb) (sO sD:List Zc) (sL sC:Int):Zd Xs Ms 38 [(.d (.agg [.sl (sS.map Zb.enc),.sl (sO.map Zc.enc),.sl (sD.map Zc.enc),J sL,J sC]))] []=some ((.d (.bool (decide (ZK (Zq.mk sS sO sD sL sC))))),[]):=by
 have e1:=YP sS;have e2:=UV sO;have e3:=UV sD;refine cE ?_;by_cases v1:VSt sS
 ·rw[Kh v1] at e1;by_cases v2:JF sO
  ·rw[Kh v2] at e2;by_cases v3:JF sD
   ·rw[Kh v3] at e3;by_cases v4:((sL<0∨900000<sL)∨sC<0)∨900000<sC
    ·have hn:¬ZK (Zq.mk sS sO sD sL sC):=fun h=>by
      obtain⟨_,_,_,h1,h2,h3,h4,_⟩:=h;simp only at h1 h2 h3 h4;omega
     simp +contextual -implicitDefEqProofs only[go_sem,seval,Y2,e1,e2,e3,v4,hn,← Lh]
    ·have e4:=ZrL sS v1;have e5:=ZrP sD v3;have b1:=ZoX v1;have b2:=ZrN v3;have u0:=wi (Y8 sS+Zaz sD) (by omega) (by omega);have u1:=wi (Y8 sS+Zaz sD+sL) (by omega) (by omega);simp +contextual -implicitDefEqProofs only[go_sem,seval,Y2,e1,e2,e3,v4,e4,e5,u0,u1,← Lh];exact Zel ⟨fun h=>⟨v1,v2,v3,by simp only;omega,by simp only;omega,by simp only;omega,by simp only;omega,h⟩,fun h=>h.2.2.2.2.2.2.2⟩
   ·rw[Kj v3] at e3;have hn:¬ZK (Zq.mk sS sO sD sL sC):=fun h=>v3 h.2.2.1;simp +contextual -implicitDefEqProofs only[go_sem,seval,Y2,e1,e2,e3,hn]
  ·rw[Kj v2] at e2;have hn:¬ZK (Zq.mk sS sO sD sL sC):=fun h=>v2 h.2.1;simp +contextual -implicitDefEqProofs only[go_sem,seval,Y2,e1,e2,hn]
 ·rw[Kj v1] at e1;have hn:¬ZK (Zq.mk sS sO sD sL sC):=fun h=>v1 h.1;simp +contextual -implicitDefEqProofs only[go_sem,seval,Y2,e1,hn]
end Go.Proofs.YtfnegoimdljanaaGreatDoor
