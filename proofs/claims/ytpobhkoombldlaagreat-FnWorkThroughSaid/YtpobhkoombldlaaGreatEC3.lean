/- Contracts of the functions,by the abstract semantics. -/
import Derived.Test.YtpobhkoombldlaaGreatECode
import Derived.Test.YtpobhkoombldlaaGreatAbsParts
import Derived.Test.YtpobhkoombldlaaGreatEC2
namespace Go.Proofs.YtpobhkoombldlaaGreat
open Go Go.Abs Go.Abs.E Go.Abs.L
open Nat (reduceMul reduceSub reduceLeDiff reduceEqDiff)
open Int (reduceLE reduceEq reduceToNat reduceNeg)
set_option linter.unusedSimpArgs false
set_option linter.unusedVariables false
set_option maxRecDepth 20000
set_option maxHeartbeats 4000000
def Zjp:List Pane→List Zc→Prop
 | _,[]=>True
 | q,x :: l=>VP x.Pane∧x.Pane∉q∧1≤x.Count∧x.Count≤24∧Zjp (q++[x.Pane]) l
instance ordGdec:∀ (q:List Pane) (l:List Zc),Decidable (Zjp q l)
 | _,[]=>.isTrue trivial
 | q,x :: l=>by
  unfold Zjp
  have:=ordGdec (q++[x.Pane]) l
  infer_instance
def Z4:List Zc→Int
 | []=>0
 | x :: l=>x.Count+Z4 l
def VD (l:List Zc):Prop:=l.length≤8∧Zjp [] l∧Z4 l≤24
instance (l:List Zc):Decidable (VD l):=by unfold VD;infer_instance
theorem Ztb {l:List Zc} {k:Nat} {x:Zc} {q:List Pane} (hx:l[k]?=some x):Zjp q (l.drop k)↔VP x.Pane∧x.Pane∉q∧1≤x.Count∧x.Count≤24∧Zjp (q++[x.Pane]) (l.drop (k+1)):=by
 obtain⟨h1,h2⟩:=List.getElem?_eq_some_iff.1 hx
 rw[List.drop_eq_getElem_cons h1,h2,Zjp]
theorem ZvU {l:List Zc} {q:List Pane}:Zjp q (l.drop l.length):=by simp[Zjp]
theorem Zb3 {l:List Zc} {k:Nat} {x:Zc} (hx:l[k]?=some x):(l.take (k+1)).map Zc.Pane=(l.take k).map Zc.Pane++[x.Pane]:=by
 rw[List.take_add_one,hx];simp
theorem ZnZ (a b:List Zc):Z4 (a++b)=Z4 a+Z4 b:=by
 induction a with
 | nil=>simp[Z4]
 | cons c l ih=>simp only[List.cons_append,Z4,ih];omega
theorem Znd {l:List Zc} {i:Nat} {x:Zc} (hx:l[i]?=some x):Z4 (l.take (i+1))=Z4 (l.take i)+x.Count:=by
 rw[List.take_add_one,hx,ZnZ];simp[Z4]
theorem Zqs:∀ {l:List Zc} {q:List Pane},Zjp q l→∀ x∈l,VP x.Pane∧1≤x.Count∧x.Count≤24
 | [],_,_,x,hx=>by simp at hx
 | y :: l,q,h,x,hx=>by
  rcases List.mem_cons.1 hx with rfl | hx
  ·exact⟨h.1,h.2.2.1,h.2.2.2.1⟩
  ·exact Zqs h.2.2.2.2 x hx
theorem ZhZ:∀ {l:List Zc},(∀ x∈l,1≤x.Count)→0≤Z4 l
 | [],_=>by simp[Z4]
 | x :: l,h=>by
  have h1:=h x (by simp)
  have h2:=ZhZ (l:=l) fun y hy=>h y (by simp[hy])
  simp only[Z4];omega
theorem ZeH {l:List Zc} {i:Nat} (h:∀ x∈l,1≤x.Count):Z4 (l.take i)≤Z4 l:=by
 have e:Z4 l=Z4 (l.take i)+Z4 (l.drop i):=by rw[← ZnZ,List.take_append_drop]
 have:=ZhZ (l:=l.drop i) fun y hy=>h y (List.mem_of_mem_drop hy)
 omega
def Wg:Nat→List Zc→Pane→Int
 | _,[],_=>-1
 | k,x :: l,p=>if x.Pane=p then (k:Int) else Wg (k+1) l p
theorem ZxA {l:List Zc} {k:Nat} {x:Zc} {p:Pane} (hx:l[k]?=some x):Wg k (l.drop k) p=if x.Pane=p then (k:Int) else Wg (k+1) (l.drop (k+1)) p:=by
 obtain⟨h1,h2⟩:=List.getElem?_eq_some_iff.1 hx
 rw[List.drop_eq_getElem_cons h1,h2,Wg]
theorem ZvV:∀ (l:List Zc) (k i:Nat) (x:Zc),l[i]?=some x→(Wg k l x.Pane=((k+i:Nat):Int)↔x.Pane∉(l.take i).map Zc.Pane)
 | [],k,i,x,h=>by simp at h
 | y :: l,k,0,x,h=>by
  simp only[List.getElem?_cons_zero,Option.some.injEq] at h
  subst h
  simp[Wg]
 | y :: l,k,i+1,x,h=>by
  simp only[List.getElem?_cons_succ] at h
  have ih:=ZvV l (k+1) i x h
  simp only[Wg,List.take_succ_cons,List.map_cons,List.mem_cons,not_or]
  split
  ·rename_i e
   constructor
   ·intro h;omega
   ·intro h;exact absurd e.symm h.1
  ·rename_i e
   rw[show k+1+i=k+(i+1) by omega] at ih
   rw[ih]
   exact⟨fun h=>⟨fun e'=>e e'.symm,h⟩,fun h=>h.2⟩
def Xx:List Zc→Int
 | []=>0
 | x :: l=>x.Count*x.Pane.W*x.Pane.H+Xx l
theorem ZvW (a b:List Zc):Xx (a++b)=Xx a+Xx b:=by
 induction a with
 | nil=>simp[Xx]
 | cons c l ih=>simp only[List.cons_append,Xx,ih];omega
theorem Ztc {l:List Zc} {i:Nat} {x:Zc} (hx:l[i]?=some x):Xx (l.take (i+1))=Xx (l.take i)+x.Count*x.Pane.W*x.Pane.H:=by
 rw[List.take_add_one,hx,ZvW];simp[Xx]
theorem ZdG {x:Zc} (h:VP x.Pane∧1≤x.Count∧x.Count≤24):0≤x.Count*x.Pane.W∧x.Count*x.Pane.W≤4800∧0≤x.Count*x.Pane.W*x.Pane.H∧x.Count*x.Pane.W*x.Pane.H≤960000:=by
 obtain⟨h1,h2,h3⟩:=h
 simp only[VP] at h1
 have a1:0≤x.Count*x.Pane.W:=Int.mul_nonneg (by omega) (by omega)
 have a2:x.Count*x.Pane.W≤24*200:=Int.mul_le_mul (by omega) (by omega) (by omega) (by omega)
 have a3:0≤x.Count*x.Pane.W*x.Pane.H:=Int.mul_nonneg (by omega) (by omega)
 have a4:x.Count*x.Pane.W*x.Pane.H≤4800*200:=Int.mul_le_mul (by omega) (by omega) (by omega) (by omega)
 omega
theorem Zgv:∀ {l:List Zc},(∀ x∈l,VP x.Pane∧1≤x.Count∧x.Count≤24)→0≤Xx l∧Xx l≤960000*l.length
 | [],_=>by simp[Xx]
 | x :: l,h=>by
  have h1:=ZdG (h x (by simp))
  have h2:=Zgv (l:=l) fun y hy=>h y (by simp[hy])
  simp only[Xx,List.length_cons];omega
theorem Z7 {l:List Zc} (h:VD l):∀ x∈l,VP x.Pane∧1≤x.Count∧x.Count≤24:=Zqs h.2.1
theorem ZkY {l:List Zc} (h:VD l):0≤Xx l∧Xx l≤7680000:=by
 have h1:=Zgv (Z7 h)
 have:=h.1
 omega
structure ZF where
 kind:Int
 label:Int
 box:Box
 line:Zc
 plan:Zh
def ZF.enc (e:ZF):D:=.agg ([J e.kind,J e.label,J e.box.X,J e.box.Y,J e.box.W,J e.box.H,J e.line.Pane.W,J e.line.Pane.H,.bool e.line.Pane.Turns,J e.line.Pane.Kind,J e.line.Count]++e.plan.enc.cells)
@[go_sem] theorem ZF.enc_mk (k l x y w h pw ph pk c o a p:Int) (pt t:Bool) (ks:List Zh):ZF.enc (ZF.mk k l (Box.mk x y w h) (Zc.mk (Pane.mk pw ph pt pk) c) (Zh.mk o a p t ks)) =
  .agg [J k,J l,J x,J y,J w,J h,J pw,J ph,.bool pt,J pk,J c,J o,J a,J p,.bool t,.sl (ks.map Zh.enc)]:=by
 simp only[ZF.enc,Zh.enc_mk];rfl
theorem ZF.enc_len (e:ZF):(ZF.enc e).cells.length=16:=by
 show (_++e.plan.enc.cells).length=16
 rw[List.length_append,Zh.enc_len];rfl
@[go_sem] theorem uni_Event (l:List ZF):uni 16 (l.map ZF.enc)=True:=eq_true (Zci l ZF.enc_len)
def ZH (s:Zo):Prop:=VSt s.Stock∧VD s.Opn∧VD s.Done∧0≤s.Lost∧s.Lost≤900000∧0≤s.Came∧s.Came≤900000∧VC s.Stock+Xx s.Done+s.Lost=s.Came
instance (s:Zo):Decidable (ZH s):=by unfold ZH;infer_instance
def QL (p:Zb):List Zb→List Zb
 | []=>[p]
 | x :: l=>if p.Label<x.Label then p :: x :: l else x :: QL p l
theorem Zqt {l:List Zb} {k:Nat} {x p:Zb} (hx:l[k]?=some x):QL p (l.drop k)=if p.Label<x.Label then p :: l.drop k else x :: QL p (l.drop (k+1)):=by
 obtain⟨h1,h2⟩:=List.getElem?_eq_some_iff.1 hx
 rw[List.drop_eq_getElem_cons h1,h2,QL]
theorem Zne (p:Zb):∀ (l:List Zb),(QL p l).length=l.length+1
 | []=>rfl
 | x :: l=>by
  unfold QL
  split
  ·simp
  ·simp[Zne p l]
theorem Ztd (p:Zb):∀ (l:List Zb) (y:Zb),y∈QL p l→y=p∨y∈l
 | [],y,h=>by simpa [QL] using h
 | x :: l,y,h=>by
  unfold QL at h
  split at h
  ·simpa using h
  ·rcases List.mem_cons.1 h with rfl | h
   ·exact .inr (by simp)
   ·rcases Ztd p l y h with h | h
    ·exact .inl h
    ·exact .inr (by simp[h])
def ZfC (p:Pane) (c:Int) (x:Zc):Option Zc:=
 if x.Pane=p then (if 0<x.Count-c then some ⟨x.Pane,x.Count-c⟩ else none) else (if 0<x.Count then some x else none)
def Yc (l:List Zc) (p:Pane) (c:Int):List Zc:=l.filterMap (ZfC p c)
def Xy (p:Pane) (c:Int):Bool→List Zc→Bool
 | b,[]=>b
 | b,x :: l=>Xy p c (if x.Pane=p then decide (0≤x.Count-c) else b) l
theorem ZvX {l:List Zc} {k:Nat} {x:Zc} {p:Pane} {c:Int} {b:Bool} (hx:l[k]?=some x):Xy p c b (l.drop k)=Xy p c (if x.Pane=p then decide (0≤x.Count-c) else b) (l.drop (k+1)):=by
 obtain⟨h1,h2⟩:=List.getElem?_eq_some_iff.1 hx
 rw[List.drop_eq_getElem_cons h1,h2,Xy]
theorem ZxB {l:List Zc} {p:Pane} {c:Int} {b:Bool}:Xy p c b (l.drop l.length)=b:=by simp[Xy]
theorem ZxC {l:List Zc} {i:Nat} {x:Zc} (p:Pane) (c:Int) (hx:l[i]?=some x):Yc (l.take (i+1)) p c=Yc (l.take i) p c++(ZfC p c x).toList:=by
 unfold Yc
 rw[List.take_add_one,hx,List.filterMap_append]
 simp only[Option.toList_some,List.filterMap_cons,List.filterMap_nil]
 cases ZfC p c x<;>rfl
def XP (p:Pane) (c:Int):List Zc→List Zc
 | []=>[⟨p,c⟩]
 | x :: l=>if x.Pane=p then ⟨x.Pane,x.Count+c⟩ :: l else x :: XP p c l
theorem ZcD (p:Pane) (c:Int):∀ (l:List Zc),(XP p c l).length≤l.length+1
 | []=>by simp[XP]
 | x :: l=>by
  unfold XP
  split
  ·simp
  ·have:=ZcD p c l
   simp;omega
theorem Zug (p:Pane) (c:Int):∀ (l:List Zc) (i:Nat) (x:Zc),l[i]?=some x→x.Pane=p→p∉(l.take i).map Zc.Pane→XP p c l=l.set i ⟨x.Pane,x.Count+c⟩
 | [],i,x,h,_,_=>by simp at h
 | y :: l,0,x,h,e,_=>by
  simp only[List.getElem?_cons_zero,Option.some.injEq] at h
  subst h
  simp[XP,e]
 | y :: l,i+1,x,h,e,hn=>by
  simp only[List.getElem?_cons_succ] at h
  simp only[List.take_succ_cons,List.map_cons,List.mem_cons,not_or] at hn
  have ih:=Zug p c l i x h e hn.2
  simp only[XP,if_neg (fun e' : y.Pane=p=>hn.1 e'.symm),List.set_cons_succ,ih]
theorem Zuh (p:Pane) (c:Int):∀ (l:List Zc),p∉l.map Zc.Pane→XP p c l=l++[⟨p,c⟩]
 | [],_=>rfl
 | y :: l,hn=>by
  simp only[List.map_cons,List.mem_cons,not_or] at hn
  simp only[XP,if_neg (fun e' : y.Pane=p=>hn.1 e'.symm),Zuh p c l hn.2,List.cons_append]
theorem Zor (qW qH:Int) (qT:Bool) (qK qC:Int) (pW pH:Int) (pT:Bool) (pK:Int):Zg Xs Ms Ve [(.d (.agg [J qW,J qH,.bool qT,J qK,J qC])),.ptr 0 0] [.box [(.d (J pW)),(.d (J pH)),(.d (.bool pT)),(.d (J pK))]]=some ((.d (.bool (decide ((Pane.mk qW qH qT qK)=(Pane.mk pW pH pT pK))))),[.box [(.d (J pW)),(.d (J pH)),(.d (.bool pT)),(.d (J pK))]]):=by
 refine Zd Xs Ms Jc Zrh (by show 2≤_;decide) ?_
 simp +contextual -implicitDefEqProofs (maxSteps:=10^7) only[go_sem,seval,↓gZ,Jc]
 try exact Zdd (by simp only[Pane.mk.injEq,and_assoc])
theorem ZrM (l:List Zc) (pW pH:Int) (pT:Bool) (pK:Int) (hl:l.length<4611686018427387904):Zg Xs Ms Q7 [(.d (.sl (l.map Zc.enc))),.clo Ve [.ptr 0 0]] [.box [(.d (J pW)),(.d (J pH)),(.d (.bool pT)),(.d (J pK))]]=some ((.d (J (Wg 0 l (Pane.mk pW pH pT pK)))),[.box [(.d (J pW)),(.d (J pH)),(.d (.bool pT)),(.d (J pK))]]):=by
 refine Zd Xs Ms Yd Zhm (by show 2≤_;decide) ?_
 simp +contextual -implicitDefEqProofs (maxSteps:=10^7) only[go_sem,seval,↓gZ,Yd]
 refine Zr Xs Ms (st0:=?st0) (α:=Nat) (fun k=>[(8,.d (J (k:Int)))]) (fun _=>[]) (fun k=>k≤l.length∧Wg k (l.drop k) (Pane.mk pW pH pT pK)=Wg 0 l (Pane.mk pW pH pT pK)) (fun k=>l.length-k) 0 ?hc ⟨by omega,rfl⟩ ?h0 ?step
 case hc=>simp +contextual -implicitDefEqProofs (maxSteps:=10^7) only[go_sem,seval,↓gZ]<;>exact rfl
 case h0=>rfl
 case step=>
  intro k ⟨hk,hp⟩ ih
  by_cases hlt:k<l.length
  ·obtain⟨x,hx⟩:=Zp hlt
   rw[ZxA hx] at hp
   have hw:=Zl (k:=k) (by omega)
   have e1:=Zor x.Pane.W x.Pane.H x.Pane.Turns x.Pane.Kind x.Count pW pH pT pK
   obtain⟨⟨W,H,T,K⟩,C⟩:=x
   simp only at hp e1
   by_cases h:(⟨W,H,T,K⟩:Pane)=(Pane.mk pW pH pT pK)
   ·rw[if_pos h] at hp
    rw[decide_eq_true h] at e1
    simp +contextual -implicitDefEqProofs (maxSteps:=10^7) only[go_sem,seval,↓gZ,hx,hlt,hw,e1]
    rw[← hp]
   ·rw[if_neg h] at hp
    rw[decide_eq_false h] at e1
    simp +contextual -implicitDefEqProofs (maxSteps:=10^7) only[go_sem,seval,↓gZ,hx,hlt,hw,e1]
    refine ih (k+1) _ ⟨by omega,hp⟩ (by omega) ?_
    simp +contextual -implicitDefEqProofs (maxSteps:=10^7) only[go_sem,seval,↓gZ]
  ·have:k=l.length:=by omega
   subst this
   simp +contextual -implicitDefEqProofs (maxSteps:=10^7) only[go_sem,seval,↓gZ]
   rw[← hp]
   simp[Wg]
theorem Ze5 (l:List Zc) (pW pH:Int) (pT:Bool) (pK:Int) (hl:l.length<4611686018427387904):Zg Xs Ms VN [(.d (.sl (l.map Zc.enc))),(.d (.agg [J pW,J pH,.bool pT,J pK]))] []=some ((.d (J (Wg 0 l (Pane.mk pW pH pT pK)))),[]):=by
 refine Zd Xs Ms Zbs Zuw (by show 2≤_;decide) ?_
 simp +contextual -implicitDefEqProofs (maxSteps:=10^7) only[go_sem,seval,↓gZ,Zbs,ZrM l pW pH pT pK hl]
theorem Vt (l:List Zc):Zg Xs Ms QR [(.d (.sl (l.map Zc.enc)))] []=some ((.d (.bool (decide (VD l)))),[]):=by
 by_cases h8:(8:Int)<(l.length:Int)
 ·have hn:¬VD l:=fun h=>by have:=h.1;omega
  refine Zd Xs Ms Vh Zid (by show 1≤_;decide) ?_
  simp +contextual -implicitDefEqProofs (maxSteps:=10^7) only[go_sem,seval,↓gZ,Vh,h8,hn]
 ·have hle:l.length≤8:=by omega
  refine Zd Xs Ms Vh Zid (by show 1≤_;decide) ?_
  simp +contextual -implicitDefEqProofs (maxSteps:=10^7) only[go_sem,seval,↓gZ,Vh,h8]
  refine Zr Xs Ms (st0:=?st0) (α:=Nat) (fun i=>[(11,.d (J (i:Int))),(3,.d (J (24-Z4 (l.take i))))]) (fun _=>[]) (fun i=>i≤l.length∧(Zjp [] l↔Zjp ((l.take i).map Zc.Pane) (l.drop i))∧0≤Z4 (l.take i)∧Z4 (l.take i)≤24) (fun i=>l.length-i) 0 ?hc ⟨by simp,by simp,by simp[Z4],by simp[Z4]⟩ ?h0 ?step
  case hc=>simp +contextual -implicitDefEqProofs (maxSteps:=10^7) only[go_sem,seval,↓gZ]<;>exact rfl
  case h0=>rfl
  case step=>
   intro i ⟨hi,hp,hs0,hs1⟩ ih
   by_cases hlt:i<l.length
   ·obtain⟨x,hx⟩:=Zp hlt
    have hw:=Zl (k:=i) (by omega)
    rw[Ztb hx,← Zb3 hx] at hp
    have ev:=Za7 x.Pane.W x.Pane.H x.Pane.Turns x.Pane.Kind
    have ef:=Ze5 l x.Pane.W x.Pane.H x.Pane.Turns x.Pane.Kind (by omega)
    have hfa:=ZvV l 0 i x hx
    have hsm:=Znd hx
    obtain⟨⟨W,H,T,K⟩,C⟩:=x
    simp only[Nat.zero_add] at hp ev ef hfa hsm
    by_cases hv:VP ⟨W,H,T,K⟩
    ·rw[decide_eq_true hv] at ev
     by_cases hf:Wg 0 l ⟨W,H,T,K⟩=(i:Int)
     ·rw[hf] at ef
      by_cases hC1:C<1
      ·have hn:¬VD l:=fun h=>by have:=(hp.1 h.2.1).2.2.1;omega
       simp +contextual -implicitDefEqProofs (maxSteps:=10^7) only[go_sem,seval,↓gZ,hx,hlt,hw,ev,ef,hC1,hn]
      ·by_cases hC2:24-Z4 (l.take i)<C
       ·have hn:¬VD l:=fun h=>by
         have:=ZeH (l:=l) (i:=i+1) (fun x hx=>(Zqs h.2.1 x hx).2.1)
         have:=h.2.2
         omega
        simp +contextual -implicitDefEqProofs (maxSteps:=10^7) only[go_sem,seval,↓gZ,hx,hlt,hw,ev,ef,hC1,hC2,hn]
       ·have hw2:=wi (24-Z4 (l.take i)-C) (by omega) (by omega)
        simp +contextual -implicitDefEqProofs (maxSteps:=10^7) only[go_sem,seval,↓gZ,hx,hlt,hw,ev,ef,hC1,hC2,hw2]
        refine ih (i+1) _ ⟨by omega,?_,by omega,by omega⟩ (by omega) ?_
        ·rw[hp];exact⟨fun h=>h.2.2.2.2,fun h=>⟨hv,hfa.1 hf,by omega,by omega,h⟩⟩
        ·simp +contextual -implicitDefEqProofs (maxSteps:=10^7) only[go_sem,seval,↓gZ,hsm]
         try (simp;omega)
     ·have hn:¬VD l:=fun h=>hf (hfa.2 (hp.1 h.2.1).2.1)
      simp +contextual -implicitDefEqProofs (maxSteps:=10^7) only[go_sem,seval,↓gZ,hx,hlt,hw,ev,ef,hf,hn]
    ·rw[decide_eq_false hv] at ev
     have hn:¬VD l:=fun h=>hv (hp.1 h.2.1).1
     simp +contextual -implicitDefEqProofs (maxSteps:=10^7) only[go_sem,seval,↓gZ,hx,hlt,hw,ev,hn]
   ·have:i=l.length:=by omega
    subst this
    rw[List.take_of_length_le (Nat.le_refl _)] at hs1
    have hy:VD l:=⟨hle,hp.2 ZvU,hs1⟩
    simp +contextual -implicitDefEqProofs (maxSteps:=10^7) only[go_sem,seval,↓gZ,hy]
theorem Zbc (l:List Zc) (hv:VD l):Zg Xs Ms Ym [(.d (.sl (l.map Zc.enc)))] []=some ((.d (J (Xx l))),[]):=by
 have ev:=Vt l
 rw[decide_eq_true hv] at ev
 have h8:=hv.1
 have hval:=Z7 hv
 clear hv
 refine Zd Xs Ms J6 Zr1 (by show 1≤_;decide) ?_
 simp +contextual -implicitDefEqProofs (maxSteps:=10^7) only[go_sem,seval,↓gZ,J6,ev]
 refine Zr Xs Ms (st0:=?st0) (α:=Nat) (fun i=>[(11,.d (J (i:Int))),(3,.d (J (Xx (l.take i))))]) (fun _=>[]) (fun i=>i≤l.length) (fun i=>l.length-i) 0 ?hc (by omega) ?h0 ?step
 case hc=>simp +contextual -implicitDefEqProofs (maxSteps:=10^7) only[go_sem,seval,↓gZ]<;>exact rfl
 case h0=>rfl
 case step=>
  intro i hi ih
  by_cases hlt:i<l.length
  ·obtain⟨x,hx⟩:=Zp hlt
   have hw:=Zl (k:=i) (by omega)
   have hm:=Ztc hx
   have hst:=Zgv (l:=l.take i) (fun y hy=>hval y (List.mem_of_mem_take hy))
   have hlk:(l.take i).length≤i:=by simp;omega
   have g5:=ZdG (hval x (List.mem_of_getElem? hx))
   obtain⟨⟨W,H,T,K⟩,C⟩:=x
   simp only at g5 hm
   have u0:=wi (C*W) (by omega) (by omega)
   have u1:=wi (C*W*H) (by omega) (by omega)
   have u2:=wi (Xx (l.take i)+C*W*H) (by omega) (by omega)
   simp +contextual -implicitDefEqProofs (maxSteps:=10^7) only[go_sem,seval,↓gZ,hx,hlt,hw,u0,u1,u2]
   refine ih (i+1) _ (by omega) (by omega) ?_
   simp +contextual -implicitDefEqProofs (maxSteps:=10^7) only[go_sem,seval,↓gZ,hm]
  ·have:i=l.length:=by omega
   subst this
   simp +contextual -implicitDefEqProofs (maxSteps:=10^7) only[go_sem,seval,↓gZ]
   simp
theorem ZgK (l:List Zc) (hl:l.length≤1000000):Zg Xs Ms Vb [(.d (.sl (l.map Zc.enc)))] []=some ((.d (.bool (decide (VD l)))),[]):=by
 refine Zd Xs Ms U5 Zq8 (by show 1≤_;decide) ?_
 simp +contextual -implicitDefEqProofs (maxSteps:=10^7) only[go_sem,seval,↓gZ,U5]
 refine Zr Xs Ms (st0:=?st0) (α:=Nat) (fun i=>[(4,.d (J (i:Int))),(3,.d (J (Z4 (l.take i))))]) (fun _=>[]) (fun i=>i≤l.length∧(Zjp [] l↔Zjp ((l.take i).map Zc.Pane) (l.drop i))∧0≤Z4 (l.take i)∧Z4 (l.take i)≤24*i) (fun i=>l.length-i) 0 ?hc ⟨by simp,by simp,by simp[Z4],by simp[Z4]⟩ ?h0 ?step
 case hc=>simp +contextual -implicitDefEqProofs (maxSteps:=10^7) only[go_sem,seval,↓gZ]<;>exact rfl
 case h0=>rfl
 case step=>
  intro i ⟨hi,hp,hs0,hs1⟩ ih
  by_cases hlt:i<l.length
  ·obtain⟨x,hx⟩:=Zp hlt
   have hw:=Zl (k:=i) (by omega)
   rw[Ztb hx,← Zb3 hx] at hp
   have ev:=Wr x.Pane.W x.Pane.H x.Pane.Turns x.Pane.Kind
   have hsm:=Znd hx
   obtain⟨⟨W,H,T,K⟩,C⟩:=x
   simp only at hp ev hsm
   by_cases hv:VP ⟨W,H,T,K⟩
   ·rw[decide_eq_true hv] at ev
    by_cases hC:1≤C∧C≤24
    ·have er:=ZQ C 1 24
     rw[decide_eq_true hC] at er
     simp +contextual -implicitDefEqProofs (maxSteps:=10^7) only[go_sem,seval,↓gZ,hx,hlt,hw,ev,er]
     refine Zr Xs Ms (st0:=?st1) (α:=Nat) (fun k=>[(5,.d (J (k:Int)))]) (fun _=>[]) (fun k=>k≤i∧(⟨W,H,T,K⟩:Pane)∉(l.take k).map Zc.Pane) (fun k=>i-k) 0 ?hc2 ⟨by omega,by simp⟩ ?h02 ?step2
     case hc2=>simp +contextual -implicitDefEqProofs (maxSteps:=10^7) only[go_sem,seval,↓gZ]<;>exact rfl
     case h02=>rfl
     case step2=>
      intro k ⟨hk,hq⟩ ih2
      by_cases hki:k<i
      ·obtain⟨y,hy⟩:=Zp (l:=l) (k:=k) (by omega)
       have hkl:k<l.length:=by omega
       have hw2:=Zl (k:=k) (by omega)
       have hpt:=Zb3 hy
       obtain⟨⟨W',H',T',K'⟩,C'⟩:=y
       simp only at hpt
       by_cases he:(⟨W',H',T',K'⟩:Pane)=⟨W,H,T,K⟩
       ·have hmem:(⟨W,H,T,K⟩:Pane)∈(l.take i).map Zc.Pane:=by
         rw[← he]
         have h3:(l.take i)[k]?=some ⟨⟨W',H',T',K'⟩,C'⟩:=by rw[List.getElem?_take_of_lt hki];exact hy
         exact List.mem_map.2 ⟨_,List.mem_of_getElem? h3,rfl⟩
        have hn:¬VD l:=fun h=>(hp.1 h.2.1).2.1 hmem
        simp only[Pane.mk.injEq] at he
        simp +contextual -implicitDefEqProofs (maxSteps:=10^7) only[go_sem,seval,↓gZ,hx,hlt,hw,hy,hki,hkl,hw2,he,hn]
       ·have he':=he
        simp only[Pane.mk.injEq] at he
        simp +contextual -implicitDefEqProofs (maxSteps:=10^7) only[go_sem,seval,↓gZ,hx,hlt,hw,hy,hki,hkl,hw2,he]
        refine ih2 (k+1) _ ⟨by omega,?_⟩ (by omega) ?_
        ·rw[hpt,List.mem_append]
         intro h
         rcases h with h | h
         ·exact hq h
         ·exact he' (List.mem_singleton.1 h).symm
        ·simp +contextual -implicitDefEqProofs (maxSteps:=10^7) only[go_sem,seval,↓gZ]
      ·have:k=i:=by omega
       subst this
       have hw3:=wi (Z4 (l.take k)+C) (by omega) (by omega)
       simp +contextual -implicitDefEqProofs (maxSteps:=10^7) only[go_sem,seval,↓gZ,hx,hlt,hw,hki,hw3]
       refine ih (k+1) _ ⟨by omega,?_,by omega,by omega⟩ (by omega) ?_
       ·rw[hp];exact⟨fun h=>h.2.2.2.2,fun h=>⟨hv,hq,hC.1,hC.2,h⟩⟩
       ·simp +contextual -implicitDefEqProofs (maxSteps:=10^7) only[go_sem,seval,↓gZ,hsm]
    ·have er:=ZQ C 1 24
     rw[decide_eq_false hC] at er
     have hn:¬VD l:=fun h=>hC ⟨(hp.1 h.2.1).2.2.1,(hp.1 h.2.1).2.2.2.1⟩
     simp +contextual -implicitDefEqProofs (maxSteps:=10^7) only[go_sem,seval,↓gZ,hx,hlt,hw,ev,er,hn]
   ·rw[decide_eq_false hv] at ev
    have hn:¬VD l:=fun h=>hv (hp.1 h.2.1).1
    simp +contextual -implicitDefEqProofs (maxSteps:=10^7) only[go_sem,seval,↓gZ,hx,hlt,hw,ev,hn]
  ·have:i=l.length:=by omega
   subst this
   have hs:=hp.2 ZvU
   rw[List.take_of_length_le (Nat.le_refl _)]
   simp +contextual -implicitDefEqProofs (maxSteps:=10^7) only[go_sem,seval,↓gZ]
   exact Zdd (by simp only[VD];constructor<;>(intro h;first | exact⟨by omega,hs,by omega⟩ | (have:=h.1;have:=h.2.2;omega)))
theorem ZvY {l:List Zb} (hv:VSt l):∀ x∈l,1≤x.W∧x.W≤200∧1≤x.H∧x.H≤200:=fun x hx=>by
 have:=(Z8 hv.2 x hx).1;omega
theorem Zh0 {l:List Zb} (hv:VSt l):0≤VC l∧VC l≤800000:=by
 have h1:=Zdt (ZvY hv)
 have:=hv.1
 omega
theorem Zqu (l:List Zb) (hv:VSt l):Zg Xs Ms Un [(.d (.sl (l.map Zb.enc)))] []=some ((.d (J (VC l))),[]):=by
 have h20:=hv.1
 have hval:=ZvY hv
 clear hv
 refine Zd Xs Ms Zag Zsf (by show 1≤_;decide) ?_
 simp +contextual -implicitDefEqProofs (maxSteps:=10^7) only[go_sem,seval,↓gZ,Zag]
 refine Zr Xs Ms (st0:=?st0) (α:=Nat) (fun i=>[(4,.d (J (i:Int))),(3,.d (J (VC (l.take i))))]) (fun _=>[]) (fun i=>i≤l.length) (fun i=>l.length-i) 0 ?hc (by omega) ?h0 ?step
 case hc=>simp +contextual -implicitDefEqProofs (maxSteps:=10^7) only[go_sem,seval,↓gZ]<;>exact rfl
 case h0=>rfl
 case step=>
  intro i hi ih
  by_cases hlt:i<l.length
  ·obtain⟨x,hx⟩:=Zp hlt
   have hw:=Zl (k:=i) (by omega)
   have hm:=Zqm hx
   have hst:=Zdt (l:=l.take i) (fun y hy=>hval y (List.mem_of_mem_take hy))
   have hlk:(l.take i).length≤i:=by simp;omega
   have g5:=hval x (List.mem_of_getElem? hx)
   have hxx:x.W*x.H≤200*200:=Int.mul_le_mul (by omega) (by omega) (by omega) (by omega)
   have hx0:0≤x.W*x.H:=Int.mul_nonneg (by omega) (by omega)
   obtain⟨xL,xW,xH,xF⟩:=x
   simp only at g5 hm hxx hx0
   have u0:=wi (xW*xH) (by omega) (by omega)
   have u1:=wi (VC (l.take i)+xW*xH) (by omega) (by omega)
   simp +contextual -implicitDefEqProofs (maxSteps:=10^7) only[go_sem,seval,↓gZ,hx,hlt,hw,u0,u1]
   refine ih (i+1) _ (by omega) (by omega) ?_
   simp +contextual -implicitDefEqProofs (maxSteps:=10^7) only[go_sem,seval,↓gZ,hm]
  ·have:i=l.length:=by omega
   subst this
   simp +contextual -implicitDefEqProofs (maxSteps:=10^7) only[go_sem,seval,↓gZ]
   simp
theorem Zqv (l:List Zc) (hv:VD l):Zg Xs Ms Uo [(.d (.sl (l.map Zc.enc)))] []=some ((.d (J (Xx l))),[]):=by
 have h8:=hv.1
 have hval:=Z7 hv
 clear hv
 refine Zd Xs Ms Zah Zsg (by show 1≤_;decide) ?_
 simp +contextual -implicitDefEqProofs (maxSteps:=10^7) only[go_sem,seval,↓gZ,Zah]
 refine Zr Xs Ms (st0:=?st0) (α:=Nat) (fun i=>[(4,.d (J (i:Int))),(3,.d (J (Xx (l.take i))))]) (fun _=>[]) (fun i=>i≤l.length) (fun i=>l.length-i) 0 ?hc (by omega) ?h0 ?step
 case hc=>simp +contextual -implicitDefEqProofs (maxSteps:=10^7) only[go_sem,seval,↓gZ]<;>exact rfl
 case h0=>rfl
 case step=>
  intro i hi ih
  by_cases hlt:i<l.length
  ·obtain⟨x,hx⟩:=Zp hlt
   have hw:=Zl (k:=i) (by omega)
   have hm:=Ztc hx
   have hst:=Zgv (l:=l.take i) (fun y hy=>hval y (List.mem_of_mem_take hy))
   have hlk:(l.take i).length≤i:=by simp;omega
   have g5:=ZdG (hval x (List.mem_of_getElem? hx))
   obtain⟨⟨W,H,T,K⟩,C⟩:=x
   simp only at g5 hm
   have u0:=wi (C*W) (by omega) (by omega)
   have u1:=wi (C*W*H) (by omega) (by omega)
   have u2:=wi (Xx (l.take i)+C*W*H) (by omega) (by omega)
   simp +contextual -implicitDefEqProofs (maxSteps:=10^7) only[go_sem,seval,↓gZ,hx,hlt,hw,u0,u1,u2]
   refine ih (i+1) _ (by omega) (by omega) ?_
   simp +contextual -implicitDefEqProofs (maxSteps:=10^7) only[go_sem,seval,↓gZ,hm]
  ·have:i=l.length:=by omega
   subst this
   simp +contextual -implicitDefEqProofs (maxSteps:=10^7) only[go_sem,seval,↓gZ]
   simp
theorem ZrN (sS:List Zb) (sO sD:List Zc) (sL sC:Int) (h1:VSt sS) (h2:VD sD) (h3:0≤sL∧sL≤100000000):Zg Xs Ms Jt [(.d (.agg [.sl (sS.map Zb.enc),.sl (sO.map Zc.enc),.sl (sD.map Zc.enc),J sL,J sC]))] []=some ((.d (J (VC sS+Xx sD+sL))),[]):=by
 have e1:=Zqu sS h1
 have e2:=Zqv sD h2
 have b1:=Zh0 h1
 have b2:=ZkY h2
 have u0:=wi (VC sS+Xx sD) (by omega) (by omega)
 have u1:=wi (VC sS+Xx sD+sL) (by omega) (by omega)
 refine Zd Xs Ms Zbr Zuv (by show 1≤_;decide) ?_
 simp +contextual -implicitDefEqProofs (maxSteps:=10^7) only[go_sem,seval,↓gZ,Zbr,e1,e2,u0,u1]
def ZaE (s:Zo):Prop:=s.Stock.length≤1000000∧(∀ x∈s.Stock,x.Flaws.length≤1000000∧R64 x.W∧R64 x.H)∧s.Opn.length≤1000000∧s.Done.length≤1000000
theorem Zl1 {x:Zb} (h:VPc x):R64 x.W∧R64 x.H:=by
 have:=h.1
 unfold R64
 omega
theorem VE {s:Zo} (h:ZH s):ZaE s:=
 ⟨by have:=h.1.1;omega,fun x hx=>⟨(ZdF h.1).2 x hx,Zl1 (Z8 h.1.2 x hx)⟩,by have:=h.2.1.1;omega,by have:=h.2.2.1.1;omega⟩
theorem Yx (sS:List Zb) (sO sD:List Zc) (sL sC:Int) (hs:ZaE (Zo.mk sS sO sD sL sC)):Zg Xs Ms V4 [(.d (.agg [.sl (sS.map Zb.enc),.sl (sO.map Zc.enc),.sl (sD.map Zc.enc),J sL,J sC]))] []=some ((.d (.bool (decide (ZH (Zo.mk sS sO sD sL sC))))),[]):=by
 obtain⟨h1,h2,h3,h4⟩:=hs
 simp only at h1 h2 h3 h4
 have e1:=Vs sS (by omega) (fun x hx=>⟨by have:=(h2 x hx).1;omega,(h2 x hx).2⟩)
 have e2:=ZgK sO h3
 have e3:=ZgK sD h4
 have e4:=ZQ sL 0 900000
 have e5:=ZQ sC 0 900000
 refine Zd Xs Ms XI Zr4 (by show 1≤_;decide) ?_
 by_cases v1:VSt sS
 ·rw[decide_eq_true v1] at e1
  by_cases v2:VD sO
  ·rw[decide_eq_true v2] at e2
   by_cases v3:VD sD
   ·rw[decide_eq_true v3] at e3
    by_cases v4:0≤sL∧sL≤900000
    ·rw[decide_eq_true v4] at e4
     by_cases v5:0≤sC∧sC≤900000
     ·rw[decide_eq_true v5] at e5
      have e6:=ZrN sS sO sD sL sC v1 v3 (by omega)
      simp +contextual -implicitDefEqProofs (maxSteps:=10^7) only[go_sem,seval,↓gZ,XI,e1,e2,e3,e4,e5,e6]
      exact Zdd ⟨fun h=>⟨v1,v2,v3,v4.1,v4.2,v5.1,v5.2,h⟩,fun h=>h.2.2.2.2.2.2.2⟩
     ·rw[decide_eq_false v5] at e5
      have hn:¬ZH (Zo.mk sS sO sD sL sC):=fun h=>v5 ⟨h.2.2.2.2.2.1,h.2.2.2.2.2.2.1⟩
      simp +contextual -implicitDefEqProofs (maxSteps:=10^7) only[go_sem,seval,↓gZ,XI,e1,e2,e3,e4,e5,hn]
    ·rw[decide_eq_false v4] at e4
     have hn:¬ZH (Zo.mk sS sO sD sL sC):=fun h=>v4 ⟨h.2.2.2.1,h.2.2.2.2.1⟩
     simp +contextual -implicitDefEqProofs (maxSteps:=10^7) only[go_sem,seval,↓gZ,XI,e1,e2,e3,e4,hn]
   ·rw[decide_eq_false v3] at e3
    have hn:¬ZH (Zo.mk sS sO sD sL sC):=fun h=>v3 h.2.2.1
    simp +contextual -implicitDefEqProofs (maxSteps:=10^7) only[go_sem,seval,↓gZ,XI,e1,e2,e3,hn]
  ·rw[decide_eq_false v2] at e2
   have hn:¬ZH (Zo.mk sS sO sD sL sC):=fun h=>v2 h.2.1
   simp +contextual -implicitDefEqProofs (maxSteps:=10^7) only[go_sem,seval,↓gZ,XI,e1,e2,hn]
 ·rw[decide_eq_false v1] at e1
  have hn:¬ZH (Zo.mk sS sO sD sL sC):=fun h=>v1 h.1
  simp +contextual -implicitDefEqProofs (maxSteps:=10^7) only[go_sem,seval,↓gZ,XI,e1,hn]
theorem ZN (sS:List Zb) (sO sD:List Zc) (sL sC:Int):Zg Xs Ms QD [(.d (.agg [.sl (sS.map Zb.enc),.sl (sO.map Zc.enc),.sl (sD.map Zc.enc),J sL,J sC]))] []=some ((.d (.bool (decide (ZH (Zo.mk sS sO sD sL sC))))),[]):=by
 have e1:=Vr sS
 have e2:=Vt sO
 have e3:=Vt sD
 refine Zd Xs Ms Yt ZrZ (by show 1≤_;decide) ?_
 by_cases v1:VSt sS
 ·rw[decide_eq_true v1] at e1
  by_cases v2:VD sO
  ·rw[decide_eq_true v2] at e2
   by_cases v3:VD sD
   ·rw[decide_eq_true v3] at e3
    by_cases v4:((sL<0∨900000<sL)∨sC<0)∨900000<sC
    ·have hn:¬ZH (Zo.mk sS sO sD sL sC):=fun h=>by
      obtain⟨_,_,_,h1,h2,h3,h4,_⟩:=h
      simp only at h1 h2 h3 h4
      omega
     simp +contextual -implicitDefEqProofs (maxSteps:=10^7) only[go_sem,seval,↓gZ,Yt,e1,e2,e3,v4,hn,← Bool.decide_or]
    ·have e4:=ZhY sS v1
     have e5:=Zbc sD v3
     have b1:=Zh0 v1
     have b2:=ZkY v3
     have u0:=wi (VC sS+Xx sD) (by omega) (by omega)
     have u1:=wi (VC sS+Xx sD+sL) (by omega) (by omega)
     simp +contextual -implicitDefEqProofs (maxSteps:=10^7) only[go_sem,seval,↓gZ,Yt,e1,e2,e3,v4,e4,e5,u0,u1,← Bool.decide_or]
     exact Zdd ⟨fun h=>⟨v1,v2,v3,by simp only;omega,by simp only;omega,by simp only;omega,by simp only;omega,h⟩,fun h=>h.2.2.2.2.2.2.2⟩
   ·rw[decide_eq_false v3] at e3
    have hn:¬ZH (Zo.mk sS sO sD sL sC):=fun h=>v3 h.2.2.1
    simp +contextual -implicitDefEqProofs (maxSteps:=10^7) only[go_sem,seval,↓gZ,Yt,e1,e2,e3,hn]
  ·rw[decide_eq_false v2] at e2
   have hn:¬ZH (Zo.mk sS sO sD sL sC):=fun h=>v2 h.2.1
   simp +contextual -implicitDefEqProofs (maxSteps:=10^7) only[go_sem,seval,↓gZ,Yt,e1,e2,hn]
 ·rw[decide_eq_false v1] at e1
  have hn:¬ZH (Zo.mk sS sO sD sL sC):=fun h=>v1 h.1
  simp +contextual -implicitDefEqProofs (maxSteps:=10^7) only[go_sem,seval,↓gZ,Yt,e1,hn]
def shA (s:Zo):Int:=if ZH s then s.Came else -1
theorem ZjI (sS:List Zb) (sO sD:List Zc) (sL sC:Int):Zg Xs Ms WT [(.d (.agg [.sl (sS.map Zb.enc),.sl (sO.map Zc.enc),.sl (sD.map Zc.enc),J sL,J sC]))] []=some ((.d (J (shA (Zo.mk sS sO sD sL sC)))),[]):=by
 have e1:=ZN sS sO sD sL sC
 unfold shA
 by_cases v:ZH (Zo.mk sS sO sD sL sC)
 ·rw[decide_eq_true v] at e1
  rw[if_pos v]
  obtain⟨v1,v2,v3,h1,h2,h3,h4,h5⟩:=v
  simp only at v1 v2 v3 h1 h2 h3 h4 h5
  have e4:=ZhY sS v1
  have e5:=Zbc sD v3
  have b1:=Zh0 v1
  have b2:=ZkY v3
  have u0:=wi (VC sS+Xx sD) (by omega) (by omega)
  have u1:=wi sC (by omega) (by omega)
  refine Zd Xs Ms W4 Zmh (by show 1≤_;decide) ?_
  simp +contextual -implicitDefEqProofs (maxSteps:=10^7) only[go_sem,seval,↓gZ,W4,e1,e4,e5,u0,u1,h5]
 ·rw[decide_eq_false v] at e1
  rw[if_neg v]
  refine Zd Xs Ms W4 Zmh (by show 1≤_;decide) ?_
  simp +contextual -implicitDefEqProofs (maxSteps:=10^7) only[go_sem,seval,↓gZ,W4,e1]
theorem Zh1 (l:List Zc) (pW pH:Int) (pT:Bool) (pK:Int) (c:Int) (hl:l.length≤1000000) (hc:∀ x∈l,R64 (x.Count-c)):Zg Xs Ms V9 [(.d (.sl (l.map Zc.enc))),(.d (.agg [J pW,J pH,.bool pT,J pK])),(.d (J c))] [] =
  some (.tup [.own 0,(.d (.bool (Xy (Pane.mk pW pH pT pK) c false l)))],[.row 5 ((Yc l (Pane.mk pW pH pT pK) c).map Zc.enc) true false]):=by
 refine Zd Xs Ms Zaj Zsi (by show 3≤_;decide) ?_
 simp +contextual -implicitDefEqProofs (maxSteps:=10^7) only[go_sem,seval,↓gZ,Zaj]
 refine Zr Xs Ms (st0:=?st0) (α:=Nat×Bool) (fun s=>[(10,.d (J (s.1:Int))),(9,.d (.bool s.2))]) (fun s=>[(0,.row 5 ((Yc (l.take s.1) (Pane.mk pW pH pT pK) c).map Zc.enc) true false)]) (fun s=>s.1≤l.length∧Xy (Pane.mk pW pH pT pK) c s.2 (l.drop s.1)=Xy (Pane.mk pW pH pT pK) c false l) (fun s=>l.length-s.1) (0,false) ?hc ⟨by simp,by simp⟩ ?h0 ?step
 case hc=>simp +contextual -implicitDefEqProofs (maxSteps:=10^7) only[go_sem,seval,↓gZ]<;>exact rfl
 case h0=>rfl
 case step=>
  intro⟨i,b⟩ ⟨hi,hp⟩ ih
  simp only at hi hp
  by_cases hlt:i<l.length
  ·obtain⟨x,hx⟩:=Zp hlt
   have hw:=Zl (k:=i) (by omega)
   have hm:=ZxC (Pane.mk pW pH pT pK) c hx
   have hlk:(Yc (l.take i) (Pane.mk pW pH pT pK) c).length≤i:=Nat.le_trans (List.length_filterMap_le _ _) (by simp;omega)
   have hr:((Yc (l.take i) (Pane.mk pW pH pT pK) c).length+1)*40≤140737488355328∧(Yc (l.take i) (Pane.mk pW pH pT pK) c).length≤140737488355327:=by omega
   have hcx:=hc x (List.mem_of_getElem? hx)
   rw[ZvX hx] at hp
   obtain⟨⟨W,H,T,K⟩,C⟩:=x
   simp only[ZfC] at hm hp hcx
   have u0:=wi (C-c) hcx.1 hcx.2
   by_cases he:(⟨W,H,T,K⟩:Pane)=(Pane.mk pW pH pT pK)
   ·rw[if_pos he] at hm hp
    have he':=he
    simp only[Pane.mk.injEq] at he
    by_cases h0:0<C-c
    ·have h1:0≤C-c:=by omega
     rw[if_pos h0] at hm
     rw[decide_eq_true h1] at hp
     simp +contextual -implicitDefEqProofs (maxSteps:=10^7) only[go_sem,seval,↓gZ,hx,hlt,hw,he,u0,h0,h1,hr]
     refine ih (i+1,true) _ ⟨by simp only;omega,hp⟩ (by simp only;omega) ?_
     simp +contextual -implicitDefEqProofs (maxSteps:=10^7) only[go_sem,seval,↓gZ,hm,Option.toList_some]
     try (simp[Zc.enc,he];done)
    ·rw[if_neg h0] at hm
     by_cases h1:0≤C-c
     ·rw[decide_eq_true h1] at hp
      simp +contextual -implicitDefEqProofs (maxSteps:=10^7) only[go_sem,seval,↓gZ,hx,hlt,hw,he,u0,h0,h1,hr]
      refine ih (i+1,true) _ ⟨by simp only;omega,hp⟩ (by simp only;omega) ?_
      simp +contextual -implicitDefEqProofs (maxSteps:=10^7) only[go_sem,seval,↓gZ,hm,Option.toList_none,List.append_nil]
     ·rw[decide_eq_false h1] at hp
      simp +contextual -implicitDefEqProofs (maxSteps:=10^7) only[go_sem,seval,↓gZ,hx,hlt,hw,he,u0,h0,h1,hr]
      refine ih (i+1,false) _ ⟨by simp only;omega,hp⟩ (by simp only;omega) ?_
      simp +contextual -implicitDefEqProofs (maxSteps:=10^7) only[go_sem,seval,↓gZ,hm,Option.toList_none,List.append_nil]
   ·rw[if_neg he] at hm hp
    simp only[Pane.mk.injEq] at he
    by_cases h0:0<C
    ·rw[if_pos h0] at hm
     simp +contextual -implicitDefEqProofs (maxSteps:=10^7) only[go_sem,seval,↓gZ,hx,hlt,hw,he,h0,hr]
     refine ih (i+1,b) _ ⟨by simp only;omega,hp⟩ (by simp only;omega) ?_
     simp +contextual -implicitDefEqProofs (maxSteps:=10^7) only[go_sem,seval,↓gZ,hm,Option.toList_some]
     try (simp[Zc.enc];done)
    ·rw[if_neg h0] at hm
     simp +contextual -implicitDefEqProofs (maxSteps:=10^7) only[go_sem,seval,↓gZ,hx,hlt,hw,he,h0,hr]
     refine ih (i+1,b) _ ⟨by simp only;omega,hp⟩ (by simp only;omega) ?_
     simp +contextual -implicitDefEqProofs (maxSteps:=10^7) only[go_sem,seval,↓gZ,hm,Option.toList_none,List.append_nil]
  ·have:i=l.length:=by omega
   subst this
   rw[ZxB] at hp
   simp +contextual -implicitDefEqProofs (maxSteps:=10^7) only[go_sem,seval,↓gZ,hp]
   simp
theorem ZAv (l:List Zc) (i:Nat) (W H:Int) (T:Bool) (K C:Int):(l.map Zc.enc).set i (.agg [J W,J H,.bool T,J K,J C])=(l.set i ⟨⟨W,H,T,K⟩,C⟩).map Zc.enc:=(List.map_set (f:=Zc.enc) (l:=l) (i:=i) (a:=⟨⟨W,H,T,K⟩,C⟩)).symm
theorem Ze6 (l:List Zc) (pW pH:Int) (pT:Bool) (pK:Int) (c:Int) (hl:l.length≤1000000) (hc:∀ x∈l,R64 (x.Count+c)):Zg Xs Ms WZ [(.d (.sl (l.map Zc.enc))),(.d (.agg [J pW,J pH,.bool pT,J pK])),(.d (J c))] [] =
  some (.own 0,[.row 5 ((XP (Pane.mk pW pH pT pK) c l).map Zc.enc) true false]):=by
 have hr0:l.length*40≤140737488355328∧l.length≤140737488355328:=by omega
 have hr1:(l.length+1)*40≤140737488355328∧l.length≤140737488355327:=by omega
 refine Zd Xs Ms Zbw ZuB (by show 3≤_;decide) ?_
 simp +contextual -implicitDefEqProofs (maxSteps:=10^7) only[go_sem,seval,↓gZ,Zbw,hr0]
 refine Zr Xs Ms (st0:=?st0) (α:=Nat) (fun k=>[(8,.d (J (k:Int)))]) (fun _=>[]) (fun k=>k≤l.length∧(Pane.mk pW pH pT pK)∉(l.take k).map Zc.Pane) (fun k=>l.length-k) 0 ?hc ⟨by simp,by simp⟩ ?h0 ?step
 case hc=>simp +contextual -implicitDefEqProofs (maxSteps:=10^7) only[go_sem,seval,↓gZ]<;>exact rfl
 case h0=>rfl
 case step=>
  intro k ⟨hk,hp⟩ ih
  by_cases hlt:k<l.length
  ·obtain⟨x,hx⟩:=Zp hlt
   have hw:=Zl (k:=k) (by omega)
   have hcx:=hc x (List.mem_of_getElem? hx)
   have hpt:=Zb3 hx
   have hat:=Zug (Pane.mk pW pH pT pK) c l k x hx
   obtain⟨⟨W,H,T,K⟩,C⟩:=x
   simp only at hcx hpt hat
   have u0:=wi (C+c) hcx.1 hcx.2
   by_cases he:(⟨W,H,T,K⟩:Pane)=(Pane.mk pW pH pT pK)
   ·rw[hat he hp]
    have he':=he
    simp only[Pane.mk.injEq] at he
    simp +contextual -implicitDefEqProofs (maxSteps:=10^7) only[go_sem,seval,↓gZ,hx,hlt,hw,he,u0,ZAv]
    try (simp[he];done)
   ·have he':=he
    simp only[Pane.mk.injEq] at he
    simp +contextual -implicitDefEqProofs (maxSteps:=10^7) only[go_sem,seval,↓gZ,hx,hlt,hw,he]
    refine ih (k+1) _ ⟨by omega,?_⟩ (by omega) ?_
    ·rw[hpt,List.mem_append]
     intro h
     rcases h with h | h
     ·exact hp h
     ·exact he' (List.mem_singleton.1 h).symm
    ·simp +contextual -implicitDefEqProofs (maxSteps:=10^7) only[go_sem,seval,↓gZ]
  ·have:k=l.length:=by omega
   subst this
   rw[List.take_of_length_le (Nat.le_refl _)] at hp
   rw[Zuh (Pane.mk pW pH pT pK) c l hp]
   simp +contextual -implicitDefEqProofs (maxSteps:=10^7) only[go_sem,seval,↓gZ,hr1]
   try (simp[Zc.enc];done)
theorem ZrO (l:List Zb) (qL qW qH:Int) (qF:List Box) (hl:l.length≤100000) (hF:∀ x∈l,x.Flaws.length≤1000000) (hq:qF.length≤1000000):Zg Xs Ms JE [(.d (.sl (l.map Zb.enc))),(.d (.agg [J qL,J qW,J qH,.sl (qF.map Box.enc)]))] [] =
  some (.own 0,[.row 4 ((QL (Zb.mk qL qW qH qF) l).map Zb.enc) true false]):=by
 have eq:=Ws qL qW qH qF hq
 refine Zd Xs Ms ZbC ZuH (by show 2≤_;decide) ?_
 simp +contextual -implicitDefEqProofs (maxSteps:=10^7) only[go_sem,seval,↓gZ,ZbC]
 refine Zr Xs Ms (st0:=?st0) (α:=Nat×Bool×List Zb) (fun s=>[(7,.d (J (s.1:Int))),(6,.d (.bool s.2.1))]) (fun s=>[(0,.row 4 (s.2.2.map Zb.enc) true false)]) (fun s=>s.1≤l.length∧s.2.2++(if s.2.1 then l.drop s.1 else QL (Zb.mk qL qW qH qF) (l.drop s.1))=QL (Zb.mk qL qW qH qF) l∧s.2.2.length≤s.1+s.2.1.toNat) (fun s=>l.length-s.1) (0,false,[]) ?hc ⟨by simp,by simp,by simp⟩ ?h0 ?step
 case hc=>simp +contextual -implicitDefEqProofs (maxSteps:=10^7) only[go_sem,seval,↓gZ]<;>exact rfl
 case h0=>rfl
 case step=>
  intro⟨i,b,o⟩ ⟨hi,hp,ho⟩ ih
  simp only at hi hp ho
  have hb:=Bool.toNat_le b
  by_cases hlt:i<l.length
  ·obtain⟨x,hx⟩:=Zp hlt
   have hw:=Zl (k:=i) (by omega)
   have hr:(o.length+1)*48≤140737488355328∧o.length≤140737488355327:=by omega
   have hr2:∀ n:Nat,n=o.length+1→(n+1)*48≤140737488355328∧n≤140737488355327:=fun n hn=>by omega
   have hr2:=hr2 _ rfl
   have hr3:o.length≤140737488355326:=by omega
   have e:=Ws x.Label x.W x.H x.Flaws (hF x (List.mem_of_getElem? hx))
   rw[Zqt hx] at hp
   have hd:l.drop i=x :: l.drop (i+1):=by
    obtain⟨h1,h2⟩:=List.getElem?_eq_some_iff.1 hx
    rw[List.drop_eq_getElem_cons h1,h2]
   obtain⟨L,W,H,F⟩:=x
   simp only at e hp
   cases b with
   | true=>
    simp only[Bool.toNat_true] at ho
    rw[if_pos rfl] at hp
    simp +contextual -implicitDefEqProofs (maxSteps:=10^7) only[go_sem,seval,↓gZ,hx,hlt,hw,e,hr]
    refine ih (i+1,true,o++[⟨L,W,H,F⟩]) _ ⟨by simp only;omega,?_,by simp;omega⟩ (by simp only;omega) ?_
    ·rw[← hp,hd];simp
    ·simp +contextual -implicitDefEqProofs (maxSteps:=10^7) only[go_sem,seval,↓gZ]
     try (simp[Zb.enc];done)
   | false=>
    simp only[Bool.toNat_false] at ho
    rw[if_neg (by simp)] at hp
    by_cases hc:qL<L
    ·rw[if_pos hc] at hp
     simp +contextual -implicitDefEqProofs (maxSteps:=10^7) only[go_sem,seval,↓gZ,hx,hlt,hw,e,eq,hc,hr,hr2,hr3]
     refine ih (i+1,true,o++[(Zb.mk qL qW qH qF),⟨L,W,H,F⟩]) _ ⟨by simp only;omega,?_,by simp;omega⟩ (by simp only;omega) ?_
     ·rw[← hp,hd];simp
     ·simp +contextual -implicitDefEqProofs (maxSteps:=10^7) only[go_sem,seval,↓gZ]
      try (simp[Zb.enc];done)
    ·rw[if_neg hc] at hp
     simp +contextual -implicitDefEqProofs (maxSteps:=10^7) only[go_sem,seval,↓gZ,hx,hlt,hw,e,hc,hr]
     refine ih (i+1,false,o++[⟨L,W,H,F⟩]) _ ⟨by simp only;omega,?_,by simp;omega⟩ (by simp only;omega) ?_
     ·rw[← hp];simp
     ·simp +contextual -implicitDefEqProofs (maxSteps:=10^7) only[go_sem,seval,↓gZ]
      try (simp[Zb.enc];done)
  ·have:i=l.length:=by omega
   subst this
   have hr:(o.length+1)*48≤140737488355328∧o.length≤140737488355327:=by omega
   cases b with
   | true=>
    simp at hp
    simp +contextual -implicitDefEqProofs (maxSteps:=10^7) only[go_sem,seval,↓gZ]
    rw[hp]
   | false=>
    simp[QL] at hp
    simp +contextual -implicitDefEqProofs (maxSteps:=10^7) only[go_sem,seval,↓gZ,eq,hr]
    rw[← hp]
    try (simp[Zb.enc];done)
def Uv (p:Zb) (l:List Zb):Prop:=(VSt l∧VPc p)∧VSt (QL p l)
instance (p:Zb) (l:List Zb):Decidable (Uv p l):=by unfold Uv;infer_instance
theorem ZjJ (l:List Zb) (qL qW qH:Int) (qF:List Box) (hl:l.length≤100000) (hS:∀ x∈l,x.Flaws.length≤1000000∧R64 x.W∧R64 x.H) (hq:qF.length≤1000000∧R64 qW∧R64 qH):Zg Xs Ms WY [(.d (.sl (l.map Zb.enc))),(.d (.agg [J qL,J qW,J qH,.sl (qF.map Box.enc)]))] [] =
  some (.tup [.own 0,(.d (.bool (decide (Uv (Zb.mk qL qW qH qF) l))))],[.row 4 ((if Uv (Zb.mk qL qW qH qF) l then QL (Zb.mk qL qW qH qF) l else []).map Zb.enc) true false]):=by
 have e1:=Vs l (by omega) (fun x hx=>⟨by have:=(hS x hx).1;omega,(hS x hx).2⟩)
 have e2:=ZgG qL qW qH qF (by omega) hq.2.1 hq.2.2
 have e3:=ZrO l qL qW qH qF hl (fun x hx=>(hS x hx).1) hq.1
 have e4:=Vs (QL (Zb.mk qL qW qH qF) l) (by rw[Zne];omega) (fun x hx=>by
  rcases Ztd _ _ _ hx with rfl | hx
  ·exact⟨by simp only;omega,hq.2⟩
  ·exact⟨by have:=(hS x hx).1;omega,(hS x hx).2⟩)
 refine Zd Xs Ms VU ZuA (by show 2≤_;decide) ?_
 by_cases v1:VSt l
 ·rw[decide_eq_true v1] at e1
  by_cases v2:VPc (Zb.mk qL qW qH qF)
  ·rw[decide_eq_true v2] at e2
   by_cases v3:VSt (QL (Zb.mk qL qW qH qF) l)
   ·rw[decide_eq_true v3] at e4
    have h:Uv (Zb.mk qL qW qH qF) l:=⟨⟨v1,v2⟩,v3⟩
    rw[decide_eq_true h,if_pos h]
    simp +contextual -implicitDefEqProofs (maxSteps:=10^7) only[go_sem,seval,↓gZ,VU,e1,e2,e3,e4]
   ·rw[decide_eq_false v3] at e4
    have h:¬Uv (Zb.mk qL qW qH qF) l:=fun h=>v3 h.2
    rw[decide_eq_false h,if_neg h]
    simp +contextual -implicitDefEqProofs (maxSteps:=10^7) only[go_sem,seval,↓gZ,VU,e1,e2,e3,e4]
  ·rw[decide_eq_false v2] at e2
   have h:¬Uv (Zb.mk qL qW qH qF) l:=fun h=>v2 h.1.2
   rw[decide_eq_false h,if_neg h]
   simp +contextual -implicitDefEqProofs (maxSteps:=10^7) only[go_sem,seval,↓gZ,VU,e1,e2]
 ·rw[decide_eq_false v1] at e1
  have h:¬Uv (Zb.mk qL qW qH qF) l:=fun h=>v1 h.1.1
  rw[decide_eq_false h,if_neg h]
  simp +contextual -implicitDefEqProofs (maxSteps:=10^7) only[go_sem,seval,↓gZ,VU,e1]
theorem Zui (l:List Zb) (hl:l.length≤1000000) (hF:∀ x∈l,x.Flaws.length≤1000000):Zg Xs Ms VQ [(.d (.sl (l.map Zb.enc))),(.d (J ((-1))))] []=some (.own 0,[.row 4 (l.map Zb.enc) true false]):=by
 refine Zd Xs Ms Ja Zn7 (by show 2≤_;decide) ?_
 simp +contextual -implicitDefEqProofs (maxSteps:=10^7) only[go_sem,seval,↓gZ,Ja]
 refine Zr Xs Ms (st0:=?st0) (α:=Nat) (fun i=>[(6,.d (J (i:Int)))]) (fun i=>[(0,.row 4 ((l.take i).map Zb.enc) true false)]) (fun i=>i≤l.length) (fun i=>l.length-i) 0 ?hc (by omega) ?h0 ?step
 case hc=>simp +contextual -implicitDefEqProofs (maxSteps:=10^7) only[go_sem,seval,↓gZ]<;>exact rfl
 case h0=>rfl
 case step=>
  intro i hi ih
  by_cases hlt:i<l.length
  ·obtain⟨x,hx⟩:=Zp hlt
   have hw:=Zl (k:=i) (by omega)
   have hia:¬(i:Int)=-1:=by omega
   have hm:l.take (i+1)=l.take i++[x]:=by rw[List.take_add_one,hx];simp
   have hlk:(l.take i).length≤i:=by simp;omega
   have hr:((l.take i).length+1)*48≤140737488355328∧(l.take i).length≤140737488355327:=by omega
   have e:=Ws x.Label x.W x.H x.Flaws (hF x (List.mem_of_getElem? hx))
   obtain⟨L,W,H,F⟩:=x
   simp only at e
   simp +contextual -implicitDefEqProofs (maxSteps:=10^7) only[go_sem,seval,↓gZ,hx,hlt,hw,hia,e,hr]
   refine ih (i+1) _ (by omega) (by omega) ?_
   simp +contextual -implicitDefEqProofs (maxSteps:=10^7) only[go_sem,seval,↓gZ,hm]
   first | rfl | (simp;done) | (simp;rfl)
  ·have:i=l.length:=by omega
   subst this
   simp +contextual -implicitDefEqProofs (maxSteps:=10^7) only[go_sem,seval,↓gZ]
   simp
theorem VY (sS:List Zb) (sO sD:List Zc) (sL sC:Int) (hs:ZaE (Zo.mk sS sO sD sL sC)):Zg Xs Ms WV [(.d (.agg [.sl (sS.map Zb.enc),.sl (sO.map Zc.enc),.sl (sD.map Zc.enc),J sL,J sC]))] []=some (.agg [.own 0,.own 1,.own 2,(.d (J sL)),(.d (J sC))],[.row 4 (sS.map Zb.enc) true false,.row 5 (sO.map Zc.enc) true false,.row 5 (sD.map Zc.enc) true false]):=by
 obtain⟨h1,h2,h3,h4⟩:=hs
 simp only at h1 h2 h3 h4
 have e1:=Zui sS h1 (fun x hx=>(h2 x hx).1)
 have r1:sO.length*40≤140737488355328∧sO.length≤140737488355328:=by omega
 have r2:sD.length*40≤140737488355328∧sD.length≤140737488355328:=by omega
 refine Zd Xs Ms Zbo Zus (by show 1≤_;decide) ?_
 simp +contextual -implicitDefEqProofs (maxSteps:=10^7) only[go_sem,seval,↓gZ,Zbo,ZpU,e1,r1,r2]
theorem ZvZ (sS:List Zb) (sO sD:List Zc) (sL sC:Int) (a:Nat) (qL qW qH:Int) (qF:List Box) (hx:sS[a]?=some (Zb.mk qL qW qH qF)) (hl:sO.length≤1000000) (hS:sS.length≤1000000):Zg Xs Ms Zca [(.d (.agg [.sl (sS.map Zb.enc),.sl (sO.map Zc.enc),.sl (sD.map Zc.enc),J sL,J sC])),(.d (J a))] []=some (.agg [(.d (J qW)),(.d (J qH)),.own 0],[.row 4 ((sO.map Zc.Pane).map Pane.enc) true false]):=by
 have hlt:=(List.getElem?_eq_some_iff.1 hx).1
 refine Zd Xs Ms Zek ZxK (by show 2≤_;decide) ?_
 simp +contextual -implicitDefEqProofs (maxSteps:=10^7) only[go_sem,seval,↓gZ,Zek,hx,hlt]
 refine Zr Xs Ms (st0:=?st0) (α:=Nat) (fun i=>[(6,.d (J (i:Int)))]) (fun i=>[(3,.row 4 (((sO.take i).map Zc.Pane).map Pane.enc) true false)]) (fun i=>i≤sO.length) (fun i=>sO.length-i) 0 ?hc (by omega) ?h0 ?step
 case hc=>simp +contextual -implicitDefEqProofs (maxSteps:=10^7) only[go_sem,seval,↓gZ]<;>exact rfl
 case h0=>rfl
 case step=>
  intro i hi ih
  by_cases hlt:i<sO.length
  ·obtain⟨x,hx⟩:=Zp hlt
   have hw:=Zl (k:=i) (by omega)
   have hm:=Zb3 hx
   have hlk:(sO.take i).length≤i:=by simp;omega
   have hr:((sO.take i).length+1)*32≤140737488355328∧(sO.take i).length≤140737488355327:=by omega
   obtain⟨⟨W,H,T,K⟩,C⟩:=x
   simp only at hm
   simp +contextual -implicitDefEqProofs (maxSteps:=10^7) only[go_sem,seval,↓gZ,hx,hlt,hw,hr]
   refine ih (i+1) _ (by omega) (by omega) ?_
   simp +contextual -implicitDefEqProofs (maxSteps:=10^7) only[go_sem,seval,↓gZ,hm]
   first | rfl | (simp;done) | (simp;rfl)
  ·have:i=sO.length:=by omega
   subst this
   simp +contextual -implicitDefEqProofs (maxSteps:=10^7) only[go_sem,seval,↓gZ]
   simp
def SmS (s:Zo):Prop:=ZaE s∧s.Stock.length≤100000∧-1000000000≤s.Lost∧s.Lost≤1000000000∧-1000000000≤s.Came∧s.Came≤1000000000
theorem Znf {s:Zo} (h:ZH s):SmS s:=⟨VE h,by have:=h.1.1;omega,by have:=h.2.2.2.1;omega,by have:=h.2.2.2.2.1;omega,by have:=h.2.2.2.2.2.1;omega,by have:=h.2.2.2.2.2.2.1;omega⟩
def I5 (n:Int):Prop:=-100000≤n∧n≤100000
theorem ZAw {a b:Int} (ha:I5 a) (hb:I5 b) : -10000000000≤a*b∧a*b≤10000000000:=by
 unfold I5 at ha hb
 have h1:a.natAbs≤100000:=by omega
 have h2:b.natAbs≤100000:=by omega
 have h3:(a*b).natAbs≤100000*100000:=by rw[Int.natAbs_mul];exact Nat.mul_le_mul h1 h2
 omega
theorem ZAx {a:Int} (h:I5 a):R64 a:=by unfold I5 at h;unfold R64;omega
theorem ZkZ (sS:List Zb) (sO sD:List Zc) (sL sC:Int) (eK eL eX eY eW eH epW epH:Int) (epT:Bool) (epK eC eo ea ep:Int) (et:Bool) (ek:List Zh) (hs:SmS (Zo.mk sS sO sD sL sC)) (hk:eK=0) (hW:I5 eW) (hH:I5 eH):Zg Xs Ms XT [(.d (.agg [.sl (sS.map Zb.enc),.sl (sO.map Zc.enc),.sl (sD.map Zc.enc),J sL,J sC])),(.d (.agg [J eK,J eL,J eX,J eY,J eW,J eH,J epW,J epH,.bool epT,J epK,J eC,J eo,J ea,J ep,.bool et,.sl (ek.map Zh.enc)]))] [] =
  some (.tup [.agg [.own 0,.d (.sl (sO.map Zc.enc)),.d (.sl (sD.map Zc.enc)),(.d (J sL)),(.d (J (sC+eW*eH)))],(.d (.bool (decide ((Uv ⟨eL,eW,eH,[]⟩ sS∧eX=0)∧eY=0))))],[.row 4 ((if Uv ⟨eL,eW,eH,[]⟩ sS then QL ⟨eL,eW,eH,[]⟩ sS else []).map Zb.enc) true false]):=by
 obtain⟨⟨h1,h2,h3,h4⟩,h5,h6,h7,h8,h9⟩:=hs
 simp only at h1 h2 h3 h4 h5 h6 h7 h8 h9
 subst hk
 have hm:=ZAw hW hH
 have e1:=Y5 sS eL (by omega)
 have e2:=ZjJ sS eL eW eH [] h5 h2 ⟨by simp,ZAx hW,ZAx hH⟩
 have u1:=wi (eW*eH) (by omega) (by omega)
 have u2:=wi (sC+eW*eH) (by omega) (by omega)
 simp only[List.map_nil] at e2
 generalize (if Uv ⟨eL,eW,eH,[]⟩ sS then QL ⟨eL,eW,eH,[]⟩ sS else [])=R at e2 ⊢
 by_cases v1:Uv ⟨eL,eW,eH,[]⟩ sS
 ·rw[decide_eq_true v1] at e2
  refine Zd Xs Ms Qh UQ (by show 2≤_;decide) ?_
  by_cases v2:eX=0
  ·simp +contextual -implicitDefEqProofs (maxSteps:=10^7) only[go_sem,seval,↓gZ,Qh,e1,e2,u1,u2,v2]
   all_goals simp[v1]
  ·simp +contextual -implicitDefEqProofs (maxSteps:=10^7) only[go_sem,seval,↓gZ,Qh,e1,e2,u1,u2,v2]
   all_goals simp
 ·rw[decide_eq_false v1] at e2
  refine Zd Xs Ms Qh UQ (by show 2≤_;decide) ?_
  simp +contextual -implicitDefEqProofs (maxSteps:=10^7) only[go_sem,seval,↓gZ,Qh,e1,e2,u1,u2,v1]
theorem Zos (sS:List Zb) (sO sD:List Zc) (sL sC:Int) (eK eL eX eY eW eH epW epH:Int) (epT:Bool) (epK eC eo ea ep:Int) (et:Bool) (ek:List Zh) (hs:SmS (Zo.mk sS sO sD sL sC)) (hk:¬eK=0) (hf:QJ 0 sS eL<0):Zg Xs Ms XT [(.d (.agg [.sl (sS.map Zb.enc),.sl (sO.map Zc.enc),.sl (sD.map Zc.enc),J sL,J sC])),(.d (.agg [J eK,J eL,J eX,J eY,J eW,J eH,J epW,J epH,.bool epT,J epK,J eC,J eo,J ea,J ep,.bool et,.sl (ek.map Zh.enc)]))] [] =
  some (.tup [.agg [.own 0,.own 1,.own 2,(.d (J 0)),(.d (J 0))],(.d (.bool false))],[.row 4 [] true false,.row 5 [] true false,.row 5 [] true false]):=by
 have e1:=Y5 sS eL (by have:=hs.2.1;simp only at this;omega)
 refine Zd Xs Ms Qh UQ (by show 2≤_;decide) ?_
 simp +contextual -implicitDefEqProofs (maxSteps:=10^7) only[go_sem,seval,↓gZ,Qh,e1,hk,hf]
theorem Zk0 (sS:List Zb) (sO sD:List Zc) (sL sC:Int) (eK eL eX eY eW eH epW epH:Int) (epT:Bool) (epK eC eo ea ep:Int) (et:Bool) (ek:List Zh) (hs:SmS (Zo.mk sS sO sD sL sC)) (hk:eK=5) (a:Nat) (hf:QJ 0 sS eL=(a:Int)) (qL qW qH:Int) (qF:List Box) (hx:sS[a]?=some (Zb.mk qL qW qH qF)) (hW:I5 qW) (hH:I5 qH):Zg Xs Ms XT [(.d (.agg [.sl (sS.map Zb.enc),.sl (sO.map Zc.enc),.sl (sD.map Zc.enc),J sL,J sC])),(.d (.agg [J eK,J eL,J eX,J eY,J eW,J eH,J epW,J epH,.bool epT,J epK,J eC,J eo,J ea,J ep,.bool et,.sl (ek.map Zh.enc)]))] [] =
  some (.tup [.agg [.own 0,.d (.sl (sO.map Zc.enc)),.d (.sl (sD.map Zc.enc)),(.d (J (sL+qW*qH))),(.d (J sC))],(.d (.bool true))],[.row 4 ((sS.eraseIdx a).map Zb.enc) true false]):=by
 obtain⟨⟨h1,h2,h3,h4⟩,h5,h6,h7,h8,h9⟩:=hs
 simp only at h1 h2 h3 h4 h5 h6 h7 h8 h9
 subst hk
 have hm:=ZAw hW hH
 have e1:=Y5 sS eL (by omega)
 rw[hf] at e1
 have hlt:=(List.getElem?_eq_some_iff.1 hx).1
 have h0:¬(a:Int)<0:=by omega
 have e2:=Ws qL qW qH qF (h2 _ (List.mem_of_getElem? hx)).1
 have e3:=Zgu sS a h1 (fun x hx=>(h2 x hx).1)
 have u1:=wi (qW*qH) (by omega) (by omega)
 have u2:=wi (sL+qW*qH) (by omega) (by omega)
 refine Zd Xs Ms Qh UQ (by show 2≤_;decide) ?_
 simp +contextual -implicitDefEqProofs (maxSteps:=10^7) only[go_sem,seval,↓gZ,Qh,e1,e2,e3,h0,hlt,hx,u1,u2]
theorem Zl2 (sS:List Zb) (sO sD:List Zc) (sL sC:Int) (eK eL eX eY eW eH epW epH:Int) (epT:Bool) (epK eC eo ea ep:Int) (et:Bool) (ek:List Zh) (hv:ZH (Zo.mk sS sO sD sL sC)) (hk:eK=1) (a:Nat) (hf:QJ 0 sS eL=(a:Int)) (qL qW qH:Int) (qF:List Box) (hx:sS[a]?=some (Zb.mk qL qW qH qF)):Zg Xs Ms XT [(.d (.agg [.sl (sS.map Zb.enc),.sl (sO.map Zc.enc),.sl (sD.map Zc.enc),J sL,J sC])),(.d (.agg [J eK,J eL,J eX,J eY,J eW,J eH,J epW,J epH,.bool epT,J epK,J eC,J eo,J ea,J ep,.bool et,.sl (ek.map Zh.enc)]))] [] =
  some (.tup [.agg [.own 0,.d (.sl (sO.map Zc.enc)),.d (.sl (sD.map Zc.enc)),(.d (J sL)),(.d (J sC))],(.d (.bool (decide (Uv ⟨qL,qW,qH,qF++[⟨eX,eY,eW,eH⟩]⟩ (sS.eraseIdx a)))))],[.row 4 ((if Uv ⟨qL,qW,qH,qF++[⟨eX,eY,eW,eH⟩]⟩ (sS.eraseIdx a) then QL ⟨qL,qW,qH,qF++[⟨eX,eY,eW,eH⟩]⟩ (sS.eraseIdx a) else []).map Zb.enc) true false]):=by
 obtain⟨⟨h1,h2,h3,h4⟩,h5,h6,h7,h8,h9⟩:=Znf hv
 simp only at h1 h2 h3 h4 h5 h6 h7 h8 h9
 subst hk
 have e1:=Y5 sS eL (by omega)
 rw[hf] at e1
 have hlt:=(List.getElem?_eq_some_iff.1 hx).1
 have h0:¬(a:Int)<0:=by omega
 have hqF:=h2 _ (List.mem_of_getElem? hx)
 simp only at hqF
 have hel:=Zna sS a
 have e2:=Ws qL qW qH qF hqF.1
 have e3:=Zgu sS a h1 (fun x hx=>(h2 x hx).1)
 have hr:(qF.length+1)*32≤140737488355328∧qF.length≤140737488355327:=by omega
 have hq6:=(Z8 hv.1.2 _ (List.mem_of_getElem? hx)).1.2.2.2.2.2.2
 simp only at hq6
 have e4:=ZjJ (sS.eraseIdx a) qL qW qH (qF++[⟨eX,eY,eW,eH⟩]) (by omega) (fun x hx=>h2 x (List.mem_of_mem_eraseIdx hx)) ⟨by simp;omega,hqF.2⟩
 rw[List.map_append] at e4
 simp only[List.map_cons,List.map_nil,Box.enc] at e4
 generalize (if Uv ⟨qL,qW,qH,qF++[⟨eX,eY,eW,eH⟩]⟩ (sS.eraseIdx a) then QL ⟨qL,qW,qH,qF++[⟨eX,eY,eW,eH⟩]⟩ (sS.eraseIdx a) else [])=R at e4 ⊢
 generalize decide (Uv ⟨qL,qW,qH,qF++[⟨eX,eY,eW,eH⟩]⟩ (sS.eraseIdx a))=V at e4 ⊢
 refine Zd Xs Ms Qh UQ (by show 2≤_;decide) ?_
 simp +contextual -implicitDefEqProofs (maxSteps:=10^7) only[go_sem,seval,↓gZ,Qh,e1,e2,e3,e4,h0,hlt,hx,hr]
def Ub (l:Zc):Prop:=VP l.Pane∧1≤l.Count∧l.Count≤24
instance (l:Zc):Decidable (Ub l):=by unfold Ub;infer_instance
theorem Zot (sS:List Zb) (sO sD:List Zc) (sL sC:Int) (eK eL eX eY eW eH epW epH:Int) (epT:Bool) (epK eC eo ea ep:Int) (et:Bool) (ek:List Zh) (hl:¬Ub ⟨⟨epW,epH,epT,epK⟩,eC⟩):Zg Xs Ms Y0 [(.d (.agg [.sl (sS.map Zb.enc),.sl (sO.map Zc.enc),.sl (sD.map Zc.enc),J sL,J sC])),(.d (.agg [J eK,J eL,J eX,J eY,J eW,J eH,J epW,J epH,.bool epT,J epK,J eC,J eo,J ea,J ep,.bool et,.sl (ek.map Zh.enc)]))] [] =
  some (.tup [.agg [.own 0,.own 1,.own 2,(.d (J 0)),(.d (J 0))],(.d (.bool false))],[.row 4 [] true false,.row 5 [] true false,.row 5 [] true false]):=by
 have e1:=Wr epW epH epT epK
 have e2:=ZQ eC 1 24
 refine Zd Xs Ms XJ Ze9 (by show 2≤_;decide) ?_
 by_cases v1:VP ⟨epW,epH,epT,epK⟩
 ·have v2:¬(1≤eC∧eC≤24):=fun h=>hl ⟨v1,h⟩
  rw[decide_eq_true v1] at e1
  rw[decide_eq_false v2] at e2
  simp +contextual -implicitDefEqProofs (maxSteps:=10^7) only[go_sem,seval,↓gZ,XJ,e1,e2]
 ·rw[decide_eq_false v1] at e1
  simp +contextual -implicitDefEqProofs (maxSteps:=10^7) only[go_sem,seval,↓gZ,XJ,e1]
theorem Zl3 (sS:List Zb) (sO sD:List Zc) (sL sC:Int) (eK eL eX eY eW eH epW epH:Int) (epT:Bool) (epK eC eo ea ep:Int) (et:Bool) (ek:List Zh) (hv:ZH (Zo.mk sS sO sD sL sC)) (hl:Ub ⟨⟨epW,epH,epT,epK⟩,eC⟩) (hk:eK=2):Zg Xs Ms Y0 [(.d (.agg [.sl (sS.map Zb.enc),.sl (sO.map Zc.enc),.sl (sD.map Zc.enc),J sL,J sC])),(.d (.agg [J eK,J eL,J eX,J eY,J eW,J eH,J epW,J epH,.bool epT,J epK,J eC,J eo,J ea,J ep,.bool et,.sl (ek.map Zh.enc)]))] [] =
  some (.tup [.agg [.d (.sl (sS.map Zb.enc)),.own 0,.d (.sl (sD.map Zc.enc)),(.d (J sL)),(.d (J sC))],(.d (.bool true))],[.row 5 ((XP ⟨epW,epH,epT,epK⟩ eC sO).map Zc.enc) true false]):=by
 have e1:=Wr epW epH epT epK
 have e2:=ZQ eC 1 24
 rw[decide_eq_true hl.1] at e1
 rw[decide_eq_true hl.2] at e2
 subst hk
 have e3:=Ze6 sO epW epH epT epK eC (by have:=hv.2.1.1;simp only at this;omega) (fun x hx=>by have:=(Z7 hv.2.1 x hx).2;have:=hl.2;simp only at this;unfold R64;omega)
 refine Zd Xs Ms XJ Ze9 (by show 2≤_;decide) ?_
 simp +contextual -implicitDefEqProofs (maxSteps:=10^7) only[go_sem,seval,↓gZ,XJ,e1,e2,e3]
theorem Zl4 (sS:List Zb) (sO sD:List Zc) (sL sC:Int) (eK eL eX eY eW eH epW epH:Int) (epT:Bool) (epK eC eo ea ep:Int) (et:Bool) (ek:List Zh) (hv:ZH (Zo.mk sS sO sD sL sC)) (hl:Ub ⟨⟨epW,epH,epT,epK⟩,eC⟩) (hk:¬eK=2):Zg Xs Ms Y0 [(.d (.agg [.sl (sS.map Zb.enc),.sl (sO.map Zc.enc),.sl (sD.map Zc.enc),J sL,J sC])),(.d (.agg [J eK,J eL,J eX,J eY,J eW,J eH,J epW,J epH,.bool epT,J epK,J eC,J eo,J ea,J ep,.bool et,.sl (ek.map Zh.enc)]))] [] =
  some (.tup [.agg [.d (.sl (sS.map Zb.enc)),.own 0,.own 1,(.d (J (sL+eC*epW*epH))),(.d (J sC))],(.d (.bool (Xy ⟨epW,epH,epT,epK⟩ eC false sD)))],[.row 5 ((XP ⟨epW,epH,epT,epK⟩ eC sO).map Zc.enc) true false,.row 5 ((Yc sD ⟨epW,epH,epT,epK⟩ eC).map Zc.enc) true false]):=by
 have e1:=Wr epW epH epT epK
 have e2:=ZQ eC 1 24
 rw[decide_eq_true hl.1] at e1
 rw[decide_eq_true hl.2] at e2
 have hla:=ZdG hl
 have h6:=hv.2.2.2
 simp only at hla h6
 have e3:=Ze6 sO epW epH epT epK eC (by have:=hv.2.1.1;simp only at this;omega) (fun x hx=>by have:=(Z7 hv.2.1 x hx).2;have:=hl.2;simp only at this;unfold R64;omega)
 have e4:=Zh1 sD epW epH epT epK eC (by have:=hv.2.2.1.1;simp only at this;omega) (fun x hx=>by have:=(Z7 hv.2.2.1 x hx).2;have:=hl.2;simp only at this;unfold R64;omega)
 have u0:=wi (eC*epW) (by omega) (by omega)
 have u1:=wi (eC*epW*epH) (by omega) (by omega)
 have u2:=wi (sL+eC*epW*epH) (by omega) (by omega)
 refine Zd Xs Ms XJ Ze9 (by show 2≤_;decide) ?_
 simp +contextual -implicitDefEqProofs (maxSteps:=10^7) only[go_sem,seval,↓gZ,XJ,e1,e2,e3,e4,hk,u0,u1,u2]
theorem ZcE {ps:List Pane}:∀ {b:BT} {x y w h:Int},YM ps b w h=true→∀ c∈plc b x y w h,∃ n:Nat,c.Pane=(n:Int)∧n<ps.length
 | .waste,x,y,w,h,hf,c,hc=>by simp[plc] at hc
 | .pane i t,x,y,w,h,hf,c,hc=>by
  simp only[plc,List.mem_singleton] at hc
  subst hc
  simp only[YM,YL,Bool.and_eq_true,decide_eq_true_eq] at hf
  refine⟨i.toNat,by simp only;omega,?_⟩
  rcases Nat.lt_or_ge i.toNat ps.length with h1 | h1
  ·exact h1
  ·rw[List.getElem?_eq_none h1] at hf;exact absurd hf.2 (by simp)
 | .cut d a l r,x,y,w,h,hf,c,hc=>by
  cases d
  ·simp only[YM,Bool.and_eq_true,Bool.false_eq_true,if_false] at hf
   simp only[plc,Bool.false_eq_true,if_false,List.mem_append] at hc
   rcases hc with hc | hc
   ·exact ZcE hf.1.2 c hc
   ·exact ZcE hf.2 c hc
  ·simp only[YM,Bool.and_eq_true,if_true] at hf
   simp only[plc,if_true,List.mem_append] at hc
   rcases hc with hc | hc
   ·exact ZcE hf.1.2 c hc
   ·exact ZcE hf.2 c hc
def J2:List Int→List L.Place→List Int
 | u,[]=>u
 | u,x :: l=>J2 (u.set x.Pane.toNat (u[x.Pane.toNat]?.getD 0+1)) l
theorem Zqw {u:List Int} {l:List L.Place} {k:Nat} {x:L.Place} (hx:l[k]?=some x):J2 u (l.drop k)=J2 (u.set x.Pane.toNat (u[x.Pane.toNat]?.getD 0+1)) (l.drop (k+1)):=by
 obtain⟨h1,h2⟩:=List.getElem?_eq_some_iff.1 hx
 rw[List.drop_eq_getElem_cons h1,h2,J2]
theorem Zte {u:List Int} {l:List L.Place}:J2 u (l.drop l.length)=u:=by simp[J2]
theorem Ztf:∀ (l:List L.Place) (u:List Int),(J2 u l).length=u.length
 | [],u=>rfl
 | x :: l,u=>by rw[J2,Ztf l];simp
theorem Ztg:∀ (l:List L.Place) (u:List Int) (m:Int),(∀ v∈u,0≤v∧v≤m)→∀ v∈J2 u l,0≤v∧v≤m+l.length
 | [],u,m,h,v,hv=>by have:=h v hv;simp;omega
 | x :: l,u,m,h,v,hv=>by
  have:=Ztg l _ (m+1) (fun w hw=>by
   rcases List.mem_or_eq_of_mem_set hw with h1 | rfl
   ·have:=h w h1;omega
   ·cases hg:u[x.Pane.toNat]? with
    | none=>
     simp
     have h0:∀ z:Int,0≤z→1≤z+1:=by omega
     by_cases hu:u=[]
     ·subst hu;simp at hw
     ·obtain⟨z,hz⟩:=List.exists_mem_of_ne_nil u hu
      have:=h z hz;omega
    | some z=>have:=h z (List.mem_of_getElem? hg);simp;omega) v hv
  simp only[List.length_cons]
  omega
theorem Zo1 (u:List Int) (i:Nat) (v:Int):(u.map ZbI).set i (J v)=(u.set i v).map ZbI:=(List.map_set (f:=ZbI) (l:=u) (i:=i) (a:=v)).symm
theorem rep_int (n:Nat):List.replicate n (D.int .i64 0)=(List.replicate n (0:Int)).map ZbI:=by simp[ZbI]
def Zdi (k:ZD) (p:Zh):List Int:=J2 (List.replicate k.Panes.length 0) ((QE k p).filterMap Xw)
theorem ZcF {k:ZD} {p:Zh} (hv:Wm k p=true):(Zdi k p).length=k.Panes.length∧∀ v∈Zdi k p,0≤v∧v≤255:=by
 obtain⟨b,hb,hpb,hvw,hcnt,hfit,hpt⟩:=Xp hv
 have hl:((QE k p).filterMap Xw).length≤255:=by
  have:=List.length_filterMap_le Xw (QE k p)
  rw[hpt,ZaY] at this
  rw[hpt]
  omega
 refine⟨by unfold Zdi;rw[Ztf];simp,fun v h=>?_⟩
 have:=Ztg _ _ 0 (fun w hw=>by rw[List.eq_of_mem_replicate hw];omega) v h
 omega
theorem Zv0 (kW kH:Int) (kP:List Pane) (p:Zh) (hv:Wm (ZD.mk kW kH kP) p=true):Zg Xs Ms Zcb [(.d (.agg [J kW,J kH,.sl (kP.map Pane.enc)])),.d p.enc] []=some (.own 0,[.row 1 ((Zdi (ZD.mk kW kH kP) p).map ZbI) true false]):=by
 obtain⟨b,hb,hpb,hvw,hcnt,hfit,hpt⟩:=Xp hv
 simp only at hfit hpt
 have e:=ZjF kW kH kP p b hpb (by simp only[VW,inB] at hvw ⊢;omega) hfit (by omega)
 have hpn:=ZcE (x:=0) (y:=0) hfit
 have hkl:kP.length≤24:=hvw.2.2.2.2.1
 have hln:(plc b 0 0 kW kH).length≤255:=by
  have:=List.length_filterMap_le Xw (QE (ZD.mk kW kH kP) p)
  rw[hpt,ZaY,Vq] at this
  omega
 unfold Zdi
 rw[hpt,Vq]
 generalize plc b 0 0 kW kH=L at e hpn hln ⊢
 have hmk:(kP.length:Int)*((8:Nat):Int)≤((140737488355328:Nat):Int)∧kP.length≤140737488355328:=by omega
 have hmk2:(kP.length:Int)*8≤140737488355328∧(kP.length:Int)≤140737488355328:=by omega
 clear hv hb hpb hvw hpt hfit
 obtain⟨o,a,q,t,ks⟩:=p
 rw[Zh.enc_mk] at e ⊢
 refine Zd Xs Ms Zel ZxL (by show 2≤_;decide) ?_
 simp +contextual -implicitDefEqProofs (maxSteps:=10^7) only[go_sem,seval,↓gZ,Zel,e,rep_int,hmk,hmk2]
 refine Zr Xs Ms (st0:=?st0) (α:=Nat×List Int) (fun s=>[(7,.d (J (s.1:Int)))]) (fun s=>[(1,.row 1 (s.2.map ZbI) true false)]) (fun s=>s.1≤L.length∧s.2.length=kP.length∧(∀ v∈s.2,0≤v∧v≤s.1)∧J2 s.2 (L.drop s.1)=J2 (List.replicate kP.length 0) L) (fun s=>L.length-s.1) (0,List.replicate kP.length 0) ?hc ⟨by simp,by simp,fun w hw=>by rw[List.eq_of_mem_replicate hw];simp,by simp⟩ ?h0 ?step
 case hc=>simp +contextual -implicitDefEqProofs (maxSteps:=10^7) only[go_sem,seval,↓gZ]<;>exact rfl
 case h0=>rfl
 case step=>
  intro⟨i,u⟩ ⟨hi,hul,huv,hp⟩ ih
  simp only at hi hul huv hp
  by_cases hlt:i<L.length
  ·obtain⟨x,hx⟩:=Zp hlt
   have hw:=Zl (k:=i) (by omega)
   obtain⟨n,hn,hnl⟩:=hpn x (List.mem_of_getElem? hx)
   rw[Zqw hx,hn] at hp
   obtain⟨q',t',⟨X,Y,W,H⟩⟩:=x
   simp only at hn
   subst hn
   have hnu:n<u.length:=by omega
   obtain⟨z,hz⟩:=Zp hnu
   have hzb:=huv z (List.mem_of_getElem? hz)
   have u1:=wi (z+1) (by omega) (by omega)
   rw[Int.toNat_natCast,hz] at hp
   simp +contextual -implicitDefEqProofs (maxSteps:=10^7) only[go_sem,seval,↓gZ,hx,hlt,hw,hnl,hnu,hz,u1,Zo1,hul]
   refine ih (i+1,u.set n (z+1)) _ ⟨by simp only;omega,by simpa using hul,fun v hv=>?_,hp⟩ (by simp only;omega) ?_
   ·simp only
    rcases List.mem_or_eq_of_mem_set hv with h1 | rfl
    ·have:=huv v h1;omega
    ·omega
   ·simp +contextual -implicitDefEqProofs (maxSteps:=10^7) only[go_sem,seval,↓gZ,List.headD_cons,Zo1]
  ·have:i=L.length:=by omega
   subst this
   rw[Zte] at hp
   simp +contextual -implicitDefEqProofs (maxSteps:=10^7) only[go_sem,seval,↓gZ,hp]
def Zk1:BT→Bool
 | .waste=>false
 | .pane _ _=>true
 | .cut _ _ l r=>Zk1 l || Zk1 r
theorem Zgw:∀ (b:BT),Zg Xs Ms WK [.d b.plan.enc] []=some ((.d (.bool (Zk1 b))),[])
 | .waste=>by
  simp only[BT.plan,Zh.enc_mk]
  refine Zd Xs Ms VV Zii (by show 1≤_;decide) ?_
  simp +contextual -implicitDefEqProofs (maxSteps:=10^7) only[go_sem,seval,↓gZ,VV,XO,Zk1]
 | .pane i t=>by
  simp only[BT.plan,Zh.enc_mk]
  refine Zd Xs Ms VV Zii (by show 1≤_;decide) ?_
  simp +contextual -implicitDefEqProofs (maxSteps:=10^7) only[go_sem,seval,↓gZ,VV,XO,Zk1]
 | .cut d a l r=>by
  have e1:=Zgw l
  have e2:=Zgw r
  simp only[BT.plan,Zh.enc_mk]
  cases hb:Zk1 l<;>rw[hb] at e1<;>cases d <;>
  ·refine Zd Xs Ms VV Zii (by show 1≤_;decide) ?_
   simp +contextual -implicitDefEqProofs (maxSteps:=10^7) only[go_sem,seval,↓gZ,VV,XO,Zk1,QF,e1,e2,hb,Bool.or_eq_true,Bool.true_or,Bool.false_or]
theorem ZrP (kW kH:Int) (kP:List Pane) (p:Zh) (Zk:Int) (hv:Wm (ZD.mk kW kH kP) p=true) (h1:1≤Zk) (h2:Zk≤200):Zg Xs Ms JA [(.d (.agg [J kW,J kH,.sl (kP.map Pane.enc)])),.d p.enc,(.d (J Zk))] [] =
  some ((.d (J (YK (ZeB (ZD.mk kW kH kP) p Zk)))),[]):=by
 obtain⟨b,hb,hpb,hvw,hcnt,hfit,hpt⟩:=Xp hv
 have hkl:kP.length≤24:=hvw.2.2.2.2.1
 have ev:=ZhT kW kH kP p (by omega)
 rw[hv] at ev
 have er:=ZQ Zk 1 200
 rw[decide_eq_true (show 1≤Zk∧Zk≤200 from ⟨h1,h2⟩)] at er
 simp only at hfit hpt
 have ep:=ZjG kW kH kP p b hpb (by simp only[VW,inB] at hvw ⊢;omega) hfit (by omega)
 have hbox:=ZdE hv
 have hlen:((QE (ZD.mk kW kH kP) p).filterMap YE).length≤255:=by
  have:=List.length_filterMap_le YE (QE (ZD.mk kW kH kP) p)
  rw[hpt,ZaY] at this
  rw[hpt]
  omega
 rw[← Zft,← hpt] at ep
 unfold ZeB
 generalize (QE (ZD.mk kW kH kP) p).filterMap YE=L at ep hbox hlen ⊢
 clear hv hb hpb hvw hpt hfit
 obtain⟨o,a,n,t,ks⟩:=p
 rw[Zh.enc_mk] at ev ep ⊢
 refine Zd Xs Ms Zbx ZuC (by show 3≤_;decide) ?_
 simp +contextual -implicitDefEqProofs (maxSteps:=10^7) only[go_sem,seval,↓gZ,Zbx,ev,ep,er]
 refine Zr Xs Ms (st0:=?st0) (α:=Nat) (fun i=>[(9,.d (J (i:Int))),(7,.d (J (YK ((L.take i).filterMap (JW Zk)))))]) (fun _=>[]) (fun i=>i≤L.length) (fun i=>L.length-i) 0 ?hc (by omega) ?h0 ?step
 case hc=>simp +contextual -implicitDefEqProofs (maxSteps:=10^7) only[go_sem,seval,↓gZ];exact rfl
 case h0=>rfl
 case step=>
  intro i hi ih
  by_cases hlt:i<L.length
  ·obtain⟨x,hx⟩:=Zp hlt
   have hw:=Zl (k:=i) (by omega)
   have hm:=Zcl (f:=JW Zk) hx
   have hbx:=hbox x (List.mem_of_getElem? hx)
   have ha:=Zfv (l:=(L.take i).filterMap (JW Zk)) (fun c hc=>by
    obtain⟨d,hd,hdc⟩:=List.mem_filterMap.1 hc
    unfold JW at hdc
    split at hdc
    ·cases hdc;exact hbox c (List.mem_of_mem_take hd)
    ·cases hdc)
   have hlk:((L.take i).filterMap (JW Zk)).length≤i:=Nat.le_trans (List.length_filterMap_le _ _) (by simp;omega)
   have hax:=ZaZ hbx
   obtain⟨X,Y,W,H⟩:=x
   simp only at hax
   have w0:=wi (W*H) (by omega) (by omega)
   have w1:=wi (YK ((L.take i).filterMap (JW Zk))+W*H) (by omega) (by omega)
   have es:=Zee X Y W H Zk
   simp only[JW] at hm
   by_cases ho:W<Zk∨H<Zk
   ·rw[if_pos ho] at hm
    rw[decide_eq_false (show ¬(Zk≤W∧Zk≤H) by omega)] at es
    simp +contextual -implicitDefEqProofs (maxSteps:=10^7) only[go_sem,seval,↓gZ,hx,hlt,hw,es,w0,w1]
    refine ih (i+1) _ (by omega) (by omega) ?_
    simp +contextual -implicitDefEqProofs (maxSteps:=10^7) only[go_sem,seval,↓gZ,hm,Zdo,Option.toList,YK]
    first | rfl | (simp;done) | (simp;rfl)
   ·rw[if_neg ho] at hm
    rw[decide_eq_true (show Zk≤W∧Zk≤H by omega)] at es
    simp +contextual -implicitDefEqProofs (maxSteps:=10^7) only[go_sem,seval,↓gZ,hx,hlt,hw,es]
    refine ih (i+1) _ (by omega) (by omega) ?_
    simp +contextual -implicitDefEqProofs (maxSteps:=10^7) only[go_sem,seval,↓gZ,hm,Option.toList,List.append_nil]
  ·have:i=L.length:=by omega
   subst this
   simp +contextual -implicitDefEqProofs (maxSteps:=10^7) only[go_sem,seval,↓gZ]
   simp
end Go.Proofs.YtpobhkoombldlaaGreat
