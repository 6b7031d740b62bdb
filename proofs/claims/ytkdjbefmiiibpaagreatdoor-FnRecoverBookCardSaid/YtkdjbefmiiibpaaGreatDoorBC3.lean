/- Contracts of the functions,by the abstract semantics. -/
import Derived.Test.YtkdjbefmiiibpaaGreatDoorBCode
import Derived.Test.YtkdjbefmiiibpaaGreatDoorAbsParts
import Derived.Test.YtkdjbefmiiibpaaGreatDoorBC2
namespace Go.Proofs.YtkdjbefmiiibpaaGreatDoor
open Go Go.Abs Go.Abs.E Go.Abs.L
open Nat (reduceMul reduceSub reduceLeDiff reduceEqDiff)
open Int (reduceLE reduceEq reduceToNat reduceNeg)
set_option linter.unusedSimpArgs false
set_option linter.unusedVariables false
set_option maxRecDepth 20000
set_option maxHeartbeats 4000000
def Zn7:List Pane→List Zi→Prop
 | _,[]=>True
 | q,x :: l=>VP x.Pane∧x.Pane∉q∧1≤x.Count∧x.Count≤24∧Zn7 (q++[x.Pane]) l
instance ordGdec:∀ (q:List Pane) (l:List Zi),Decidable (Zn7 q l)
 | _,[]=>.isTrue trivial
 | q,x :: l=>by
  unfold Zn7
  have:=ordGdec (q++[x.Pane]) l
  infer_instance
def Zil:List Zi→Int
 | []=>0
 | x :: l=>x.Count+Zil l
def Zj1 (l:List Zi):Prop:=l.length≤8∧Zn7 [] l∧Zil l≤24
instance (l:List Zi):Decidable (Zj1 l):=by unfold Zj1;infer_instance
theorem ZzG {l:List Zi} {k:Nat} {x:Zi} {q:List Pane} (hx:l[k]?=some x):Zn7 q (l.drop k)↔VP x.Pane∧x.Pane∉q∧1≤x.Count∧x.Count≤24∧Zn7 (q++[x.Pane]) (l.drop (k+1)):=by
 obtain⟨h1,h2⟩:=List.getElem?_eq_some_iff.1 hx
 rw[List.drop_eq_getElem_cons h1,h2,Zn7]
theorem ZBh {l:List Zi} {q:List Pane}:Zn7 q (l.drop l.length):=by simp[Zn7]
theorem ZhH {l:List Zi} {k:Nat} {x:Zi} (hx:l[k]?=some x):(l.take (k+1)).map Zi.Pane=(l.take k).map Zi.Pane++[x.Pane]:=by
 rw[List.take_add_one,hx];simp
theorem Zvh (a b:List Zi):Zil (a++b)=Zil a+Zil b:=by
 induction a with
 | nil=>simp[Zil]
 | cons c l ih=>simp only[List.cons_append,Zil,ih];omega
theorem ZzH {l:List Zi} {i:Nat} {x:Zi} (hx:l[i]?=some x):Zil (l.take (i+1))=Zil (l.take i)+x.Count:=by
 rw[List.take_add_one,hx,Zvh];simp[Zil]
theorem Zvi:∀ {l:List Zi} {q:List Pane},Zn7 q l→∀ x∈l,VP x.Pane∧1≤x.Count∧x.Count≤24
 | [],_,_,x,hx=>by simp at hx
 | y :: l,q,h,x,hx=>by
  rcases List.mem_cons.1 hx with rfl | hx
  ·exact⟨h.1,h.2.2.1,h.2.2.2.1⟩
  ·exact Zvi h.2.2.2.2 x hx
def Zeo:List Zi→Int
 | []=>0
 | x :: l=>x.Count*x.Pane.W*x.Pane.H+Zeo l
theorem Zvj (a b:List Zi):Zeo (a++b)=Zeo a+Zeo b:=by
 induction a with
 | nil=>simp[Zeo]
 | cons c l ih=>simp only[List.cons_append,Zeo,ih];omega
theorem ZzI {l:List Zi} {i:Nat} {x:Zi} (hx:l[i]?=some x):Zeo (l.take (i+1))=Zeo (l.take i)+x.Count*x.Pane.W*x.Pane.H:=by
 rw[List.take_add_one,hx,Zvj];simp[Zeo]
theorem Zm0 {x:Zi} (h:VP x.Pane∧1≤x.Count∧x.Count≤24):0≤x.Count*x.Pane.W∧x.Count*x.Pane.W≤4800∧0≤x.Count*x.Pane.W*x.Pane.H∧x.Count*x.Pane.W*x.Pane.H≤960000:=by
 obtain⟨h1,h2,h3⟩:=h
 simp only[VP] at h1
 have a1:0≤x.Count*x.Pane.W:=Int.mul_nonneg (by omega) (by omega)
 have a2:x.Count*x.Pane.W≤24*200:=Int.mul_le_mul (by omega) (by omega) (by omega) (by omega)
 have a3:0≤x.Count*x.Pane.W*x.Pane.H:=Int.mul_nonneg (by omega) (by omega)
 have a4:x.Count*x.Pane.W*x.Pane.H≤4800*200:=Int.mul_le_mul (by omega) (by omega) (by omega) (by omega)
 omega
theorem ZkT:∀ {l:List Zi},(∀ x∈l,VP x.Pane∧1≤x.Count∧x.Count≤24)→0≤Zeo l∧Zeo l≤960000*l.length
 | [],_=>by simp[Zeo]
 | x :: l,h=>by
  have h1:=Zm0 (h x (by simp))
  have h2:=ZkT (l:=l) fun y hy=>h y (by simp[hy])
  simp only[Zeo,List.length_cons];omega
theorem Zep {l:List Zi} (h:Zj1 l):∀ x∈l,VP x.Pane∧1≤x.Count∧x.Count≤24:=Zvi h.2.1
theorem Zxg {l:List Zi} (h:Zj1 l):0≤Zeo l∧Zeo l≤7680000:=by
 have h1:=ZkT (Zep h)
 have:=h.1
 omega
structure Zl where
 kind:Int
 label:Int
 box:Box
 line:Zi
 plan:Zj
def Zl.enc (e:Zl):D:=.agg ([J e.kind,J e.label,J e.box.X,J e.box.Y,J e.box.W,J e.box.H,J e.line.Pane.W,J e.line.Pane.H,.bool e.line.Pane.Turns,J e.line.Pane.Kind,J e.line.Count]++e.plan.enc.cells)
@[go_sem] theorem Zl.enc_mk (k l x y w h pw ph pk c o a p:Int) (pt t:Bool) (ks:List Zj):Zl.enc (Zl.mk k l (Box.mk x y w h) (Zi.mk (Pane.mk pw ph pt pk) c) (Zj.mk o a p t ks)) =
  .agg [J k,J l,J x,J y,J w,J h,J pw,J ph,.bool pt,J pk,J c,J o,J a,J p,.bool t,.sl (ks.map Zj.enc)]:=by
 simp only[Zl.enc,Zj.enc_mk];rfl
theorem Zl.enc_len (e:Zl):(Zl.enc e).cells.length=16:=by
 show (_++e.plan.enc.cells).length=16
 rw[List.length_append,Zj.enc_len];rfl
@[go_sem] theorem uni_Event (l:List Zl):uni 16 (l.map Zl.enc)=True:=eq_true (Zdy l Zl.enc_len)
def Wf (s:Z9):Prop:=VSt s.Stock∧Zj1 s.Opn∧Zj1 s.Done∧0≤s.Lost∧s.Lost≤900000∧0≤s.Came∧s.Came≤900000∧UP s.Stock+Zeo s.Done+s.Lost=s.Came
instance (s:Z9):Decidable (Wf s):=by unfold Wf;infer_instance
def VR (p:Zd):List Zd→List Zd
 | []=>[p]
 | x :: l=>if p.Label<x.Label then p :: x :: l else x :: VR p l
theorem Zxh {l:List Zd} {k:Nat} {x p:Zd} (hx:l[k]?=some x):VR p (l.drop k)=if p.Label<x.Label then p :: l.drop k else x :: VR p (l.drop (k+1)):=by
 obtain⟨h1,h2⟩:=List.getElem?_eq_some_iff.1 hx
 rw[List.drop_eq_getElem_cons h1,h2,VR]
theorem Zst (p:Zd):∀ (l:List Zd),(VR p l).length=l.length+1
 | []=>rfl
 | x :: l=>by
  unfold VR
  split
  ·simp
  ·simp[Zst p l]
theorem Zsu (p:Zd):∀ (l:List Zd) (y:Zd),y∈VR p l→y=p∨y∈l
 | [],y,h=>by simpa [VR] using h
 | x :: l,y,h=>by
  unfold VR at h
  split at h
  ·simpa using h
  ·rcases List.mem_cons.1 h with rfl | h
   ·exact .inr (by simp)
   ·rcases Zsu p l y h with h | h
    ·exact .inl h
    ·exact .inr (by simp[h])
def Zsv (p:Pane) (c:Int) (x:Zi):Option Zi:=
 if x.Pane=p then (if 0<x.Count-c then some ⟨x.Pane,x.Count-c⟩ else none) else (if 0<x.Count then some x else none)
def ZbB (l:List Zi) (p:Pane) (c:Int):List Zi:=l.filterMap (Zsv p c)
def Zau (p:Pane) (c:Int):Bool→List Zi→Bool
 | b,[]=>b
 | b,x :: l=>Zau p c (if x.Pane=p then decide (0≤x.Count-c) else b) l
theorem Zvk {l:List Zi} {k:Nat} {x:Zi} {p:Pane} {c:Int} {b:Bool} (hx:l[k]?=some x):Zau p c b (l.drop k)=Zau p c (if x.Pane=p then decide (0≤x.Count-c) else b) (l.drop (k+1)):=by
 obtain⟨h1,h2⟩:=List.getElem?_eq_some_iff.1 hx
 rw[List.drop_eq_getElem_cons h1,h2,Zau]
theorem Zxi {l:List Zi} {p:Pane} {c:Int} {b:Bool}:Zau p c b (l.drop l.length)=b:=by simp[Zau]
theorem Zxj {l:List Zi} {i:Nat} {x:Zi} (p:Pane) (c:Int) (hx:l[i]?=some x):ZbB (l.take (i+1)) p c=ZbB (l.take i) p c++(Zsv p c x).toList:=by
 unfold ZbB
 rw[List.take_add_one,hx,List.filterMap_append]
 simp only[Option.toList_some,List.filterMap_cons,List.filterMap_nil]
 cases Zsv p c x<;>rfl
def Zcy (p:Pane) (c:Int):List Zi→List Zi
 | []=>[⟨p,c⟩]
 | x :: l=>if x.Pane=p then ⟨x.Pane,x.Count+c⟩ :: l else x :: Zcy p c l
theorem ZiY (p:Pane) (c:Int):∀ (l:List Zi),(Zcy p c l).length≤l.length+1
 | []=>by simp[Zcy]
 | x :: l=>by
  unfold Zcy
  split
  ·simp
  ·have:=ZiY p c l
   simp;omega
theorem Zyj (p:Pane) (c:Int):∀ (l:List Zi) (i:Nat) (x:Zi),l[i]?=some x→x.Pane=p→p∉(l.take i).map Zi.Pane→Zcy p c l=l.set i ⟨x.Pane,x.Count+c⟩
 | [],i,x,h,_,_=>by simp at h
 | y :: l,0,x,h,e,_=>by
  simp only[List.getElem?_cons_zero,Option.some.injEq] at h
  subst h
  simp[Zcy,e]
 | y :: l,i+1,x,h,e,hn=>by
  simp only[List.getElem?_cons_succ] at h
  simp only[List.take_succ_cons,List.map_cons,List.mem_cons,not_or] at hn
  have ih:=Zyj p c l i x h e hn.2
  simp only[Zcy,if_neg (fun e' : y.Pane=p=>hn.1 e'.symm),List.set_cons_succ,ih]
theorem Zyk (p:Pane) (c:Int):∀ (l:List Zi),p∉l.map Zi.Pane→Zcy p c l=l++[⟨p,c⟩]
 | [],_=>rfl
 | y :: l,hn=>by
  simp only[List.map_cons,List.mem_cons,not_or] at hn
  simp only[Zcy,if_neg (fun e' : y.Pane=p=>hn.1 e'.symm),Zyk p c l hn.2,List.cons_append]
theorem Zib (l:List Zi) (hl:l.length≤1000000):Zh Xs Ms Vr [(.d (.sl (l.map Zi.enc)))] []=some ((.d (.bool (decide (Zj1 l)))),[]):=by
 refine Zb Xs Ms U6 ZqH (by show 1≤_;decide) ?_
 simp +contextual -implicitDefEqProofs (maxSteps:=10^7) only[go_sem,seval,↓gZ,U6]
 refine ZQ Xs Ms (st0:=?st0) (α:=Nat) (fun i=>[(4,.d (J (i:Int))),(3,.d (J (Zil (l.take i))))]) (fun _=>[]) (fun i=>i≤l.length∧(Zn7 [] l↔Zn7 ((l.take i).map Zi.Pane) (l.drop i))∧0≤Zil (l.take i)∧Zil (l.take i)≤24*i) (fun i=>l.length-i) 0 ?hc ⟨by simp,by simp,by simp[Zil],by simp[Zil]⟩ ?h0 ?step
 case hc=>simp +contextual -implicitDefEqProofs (maxSteps:=10^7) only[go_sem,seval,↓gZ]<;>exact rfl
 case h0=>rfl
 case step=>
  intro i ⟨hi,hp,hs0,hs1⟩ ih
  by_cases hlt:i<l.length
  ·obtain⟨x,hx⟩:=ZU hlt
   have hw:=Zm (k:=i) (by omega)
   rw[ZzG hx,← ZhH hx] at hp
   have ev:=Wr x.Pane.W x.Pane.H x.Pane.Turns x.Pane.Kind
   have hsm:=ZzH hx
   obtain⟨⟨W,H,T,K⟩,C⟩:=x
   simp only at hp ev hsm
   by_cases hv:VP ⟨W,H,T,K⟩
   ·rw[decide_eq_true hv] at ev
    by_cases hC:1≤C∧C≤24
    ·have er:=ZA C 1 24
     rw[decide_eq_true hC] at er
     simp +contextual -implicitDefEqProofs (maxSteps:=10^7) only[go_sem,seval,↓gZ,hx,hlt,hw,ev,er]
     refine ZQ Xs Ms (st0:=?st1) (α:=Nat) (fun k=>[(5,.d (J (k:Int)))]) (fun _=>[]) (fun k=>k≤i∧(⟨W,H,T,K⟩:Pane)∉(l.take k).map Zi.Pane) (fun k=>i-k) 0 ?hc2 ⟨by omega,by simp⟩ ?h02 ?step2
     case hc2=>simp +contextual -implicitDefEqProofs (maxSteps:=10^7) only[go_sem,seval,↓gZ]<;>exact rfl
     case h02=>rfl
     case step2=>
      intro k ⟨hk,hq⟩ ih2
      by_cases hki:k<i
      ·obtain⟨y,hy⟩:=ZU (l:=l) (k:=k) (by omega)
       have hkl:k<l.length:=by omega
       have hw2:=Zm (k:=k) (by omega)
       have hpt:=ZhH hy
       obtain⟨⟨W',H',T',K'⟩,C'⟩:=y
       simp only at hpt
       by_cases he:(⟨W',H',T',K'⟩:Pane)=⟨W,H,T,K⟩
       ·have hmem:(⟨W,H,T,K⟩:Pane)∈(l.take i).map Zi.Pane:=by
         rw[← he]
         have h3:(l.take i)[k]?=some ⟨⟨W',H',T',K'⟩,C'⟩:=by rw[List.getElem?_take_of_lt hki];exact hy
         exact List.mem_map.2 ⟨_,List.mem_of_getElem? h3,rfl⟩
        have hn:¬Zj1 l:=fun h=>(hp.1 h.2.1).2.1 hmem
        simp only[Pane.mk.injEq] at he
        simp +contextual -implicitDefEqProofs (maxSteps:=10^7) only[go_sem,seval,↓gZ,hx,hlt,hw,hy,hki,hkl,hw2,he,hn]
       ·have he':=he
        simp only[Pane.mk.injEq] at he
        simp +contextual -implicitDefEqProofs (maxSteps:=10^7) only[go_sem,seval,↓gZ,hx,hlt,hw,hy,hki,hkl,hw2,he]
        refine ih2 (k+1) _ ⟨by omega,?_⟩ (by omega) ?_
        ·rw[hpt,List.mem_append]
         intro h
         rcases h with h | h
         ·exact hq h
         ·exact he' (List.mem_singleton.1 h).symm
        ·simp +contextual -implicitDefEqProofs (maxSteps:=10^7) only[go_sem,seval,↓gZ]
      ·have:k=i:=by omega
       subst this
       have hw3:=wi (Zil (l.take k)+C) (by omega) (by omega)
       simp +contextual -implicitDefEqProofs (maxSteps:=10^7) only[go_sem,seval,↓gZ,hx,hlt,hw,hki,hw3]
       refine ih (k+1) _ ⟨by omega,?_,by omega,by omega⟩ (by omega) ?_
       ·rw[hp];exact⟨fun h=>h.2.2.2.2,fun h=>⟨hv,hq,hC.1,hC.2,h⟩⟩
       ·simp +contextual -implicitDefEqProofs (maxSteps:=10^7) only[go_sem,seval,↓gZ,hsm]
    ·have er:=ZA C 1 24
     rw[decide_eq_false hC] at er
     have hn:¬Zj1 l:=fun h=>hC ⟨(hp.1 h.2.1).2.2.1,(hp.1 h.2.1).2.2.2.1⟩
     simp +contextual -implicitDefEqProofs (maxSteps:=10^7) only[go_sem,seval,↓gZ,hx,hlt,hw,ev,er,hn]
   ·rw[decide_eq_false hv] at ev
    have hn:¬Zj1 l:=fun h=>hv (hp.1 h.2.1).1
    simp +contextual -implicitDefEqProofs (maxSteps:=10^7) only[go_sem,seval,↓gZ,hx,hlt,hw,ev,hn]
  ·have:i=l.length:=by omega
   subst this
   have hs:=hp.2 ZBh
   rw[List.take_of_length_le (Nat.le_refl _)]
   simp +contextual -implicitDefEqProofs (maxSteps:=10^7) only[go_sem,seval,↓gZ]
   exact Zlq (by simp only[Zj1];constructor<;>(intro h;first | exact⟨by omega,hs,by omega⟩ | (have:=h.1;have:=h.2.2;omega)))
theorem Zvl {l:List Zd} (hv:VSt l):∀ x∈l,1≤x.W∧x.W≤200∧1≤x.H∧x.H≤200:=fun x hx=>by
 have:=(X8 hv.2 x hx).1;omega
theorem Zvm {l:List Zd} (hv:VSt l):0≤UP l∧UP l≤800000:=by
 have h1:=ZhF (Zvl hv)
 have:=hv.1
 omega
theorem Zp5 (l:List Zd) (hv:VSt l):Zh Xs Ms Ut [(.d (.sl (l.map Zd.enc)))] []=some ((.d (J (UP l))),[]):=by
 have h20:=hv.1
 have hval:=Zvl hv
 clear hv
 refine Zb Xs Ms J9 Zrx (by show 1≤_;decide) ?_
 simp +contextual -implicitDefEqProofs (maxSteps:=10^7) only[go_sem,seval,↓gZ,J9]
 refine ZQ Xs Ms (st0:=?st0) (α:=Nat) (fun i=>[(4,.d (J (i:Int))),(3,.d (J (UP (l.take i))))]) (fun _=>[]) (fun i=>i≤l.length) (fun i=>l.length-i) 0 ?hc (by omega) ?h0 ?step
 case hc=>simp +contextual -implicitDefEqProofs (maxSteps:=10^7) only[go_sem,seval,↓gZ]<;>exact rfl
 case h0=>rfl
 case step=>
  intro i hi ih
  by_cases hlt:i<l.length
  ·obtain⟨x,hx⟩:=ZU hlt
   have hw:=Zm (k:=i) (by omega)
   have hm:=Zxa hx
   have hst:=ZhF (l:=l.take i) (fun y hy=>hval y (List.mem_of_mem_take hy))
   have hlk:(l.take i).length≤i:=by simp;omega
   have g5:=hval x (List.mem_of_getElem? hx)
   have hxx:x.W*x.H≤200*200:=Int.mul_le_mul (by omega) (by omega) (by omega) (by omega)
   have hx0:0≤x.W*x.H:=Int.mul_nonneg (by omega) (by omega)
   obtain⟨xL,xW,xH,xF⟩:=x
   simp only at g5 hm hxx hx0
   have u0:=wi (xW*xH) (by omega) (by omega)
   have u1:=wi (UP (l.take i)+xW*xH) (by omega) (by omega)
   simp +contextual -implicitDefEqProofs (maxSteps:=10^7) only[go_sem,seval,↓gZ,hx,hlt,hw,u0,u1]
   refine ih (i+1) _ (by omega) (by omega) ?_
   simp +contextual -implicitDefEqProofs (maxSteps:=10^7) only[go_sem,seval,↓gZ,hm]
  ·have:i=l.length:=by omega
   subst this
   simp +contextual -implicitDefEqProofs (maxSteps:=10^7) only[go_sem,seval,↓gZ]
   simp
theorem Zp6 (l:List Zi) (hv:Zj1 l):Zh Xs Ms Uu [(.d (.sl (l.map Zi.enc)))] []=some ((.d (J (Zeo l))),[]):=by
 have h8:=hv.1
 have hval:=Zep hv
 clear hv
 refine Zb Xs Ms Zaa Zry (by show 1≤_;decide) ?_
 simp +contextual -implicitDefEqProofs (maxSteps:=10^7) only[go_sem,seval,↓gZ,Zaa]
 refine ZQ Xs Ms (st0:=?st0) (α:=Nat) (fun i=>[(4,.d (J (i:Int))),(3,.d (J (Zeo (l.take i))))]) (fun _=>[]) (fun i=>i≤l.length) (fun i=>l.length-i) 0 ?hc (by omega) ?h0 ?step
 case hc=>simp +contextual -implicitDefEqProofs (maxSteps:=10^7) only[go_sem,seval,↓gZ]<;>exact rfl
 case h0=>rfl
 case step=>
  intro i hi ih
  by_cases hlt:i<l.length
  ·obtain⟨x,hx⟩:=ZU hlt
   have hw:=Zm (k:=i) (by omega)
   have hm:=ZzI hx
   have hst:=ZkT (l:=l.take i) (fun y hy=>hval y (List.mem_of_mem_take hy))
   have hlk:(l.take i).length≤i:=by simp;omega
   have g5:=Zm0 (hval x (List.mem_of_getElem? hx))
   obtain⟨⟨W,H,T,K⟩,C⟩:=x
   simp only at g5 hm
   have u0:=wi (C*W) (by omega) (by omega)
   have u1:=wi (C*W*H) (by omega) (by omega)
   have u2:=wi (Zeo (l.take i)+C*W*H) (by omega) (by omega)
   simp +contextual -implicitDefEqProofs (maxSteps:=10^7) only[go_sem,seval,↓gZ,hx,hlt,hw,u0,u1,u2]
   refine ih (i+1) _ (by omega) (by omega) ?_
   simp +contextual -implicitDefEqProofs (maxSteps:=10^7) only[go_sem,seval,↓gZ,hm]
  ·have:i=l.length:=by omega
   subst this
   simp +contextual -implicitDefEqProofs (maxSteps:=10^7) only[go_sem,seval,↓gZ]
   simp
theorem Zq2 (sS:List Zd) (sO sD:List Zi) (sL sC:Int) (h1:VSt sS) (h2:Zj1 sD) (h3:0≤sL∧sL≤100000000):Zh Xs Ms Jw [(.d (.agg [.sl (sS.map Zd.enc),.sl (sO.map Zi.enc),.sl (sD.map Zi.enc),J sL,J sC]))] []=some ((.d (J (UP sS+Zeo sD+sL))),[]):=by
 have e1:=Zp5 sS h1
 have e2:=Zp6 sD h2
 have b1:=Zvm h1
 have b2:=Zxg h2
 have u0:=wi (UP sS+Zeo sD) (by omega) (by omega)
 have u1:=wi (UP sS+Zeo sD+sL) (by omega) (by omega)
 refine Zb Xs Ms Zbo Zt0 (by show 1≤_;decide) ?_
 simp +contextual -implicitDefEqProofs (maxSteps:=10^7) only[go_sem,seval,↓gZ,Zbo,e1,e2,u0,u1]
def ZcU (s:Z9):Prop:=s.Stock.length≤1000000∧(∀ x∈s.Stock,x.Flaws.length≤1000000∧R64 x.W∧R64 x.H)∧s.Opn.length≤1000000∧s.Done.length≤1000000
theorem Zl0 {x:Zd} (h:VPc x):R64 x.W∧R64 x.H:=by
 have:=h.1
 unfold R64
 omega
theorem ZBi {s:Z9} (h:Wf s):ZcU s:=
 ⟨by have:=h.1.1;omega,fun x hx=>⟨(ZjQ h.1).2 x hx,Zl0 (X8 h.1.2 x hx)⟩,by have:=h.2.1.1;omega,by have:=h.2.2.1.1;omega⟩
theorem Wt (sS:List Zd) (sO sD:List Zi) (sL sC:Int) (hs:ZcU (Z9.mk sS sO sD sL sC)):Zh Xs Ms Up [(.d (.agg [.sl (sS.map Zd.enc),.sl (sO.map Zi.enc),.sl (sD.map Zi.enc),J sL,J sC]))] []=some ((.d (.bool (decide (Wf (Z9.mk sS sO sD sL sC))))),[]):=by
 obtain⟨h1,h2,h3,h4⟩:=hs
 simp only at h1 h2 h3 h4
 have e1:=VG sS (by omega) (fun x hx=>⟨by have:=(h2 x hx).1;omega,(h2 x hx).2⟩)
 have e2:=Zib sO h3
 have e3:=Zib sD h4
 have e4:=ZA sL 0 900000
 have e5:=ZA sC 0 900000
 refine Zb Xs Ms XN Zrp (by show 1≤_;decide) ?_
 by_cases v1:VSt sS
 ·rw[decide_eq_true v1] at e1
  by_cases v2:Zj1 sO
  ·rw[decide_eq_true v2] at e2
   by_cases v3:Zj1 sD
   ·rw[decide_eq_true v3] at e3
    by_cases v4:0≤sL∧sL≤900000
    ·rw[decide_eq_true v4] at e4
     by_cases v5:0≤sC∧sC≤900000
     ·rw[decide_eq_true v5] at e5
      have e6:=Zq2 sS sO sD sL sC v1 v3 (by omega)
      simp +contextual -implicitDefEqProofs (maxSteps:=10^7) only[go_sem,seval,↓gZ,XN,e1,e2,e3,e4,e5,e6]
      exact Zlq ⟨fun h=>⟨v1,v2,v3,v4.1,v4.2,v5.1,v5.2,h⟩,fun h=>h.2.2.2.2.2.2.2⟩
     ·rw[decide_eq_false v5] at e5
      have hn:¬Wf (Z9.mk sS sO sD sL sC):=fun h=>v5 ⟨h.2.2.2.2.2.1,h.2.2.2.2.2.2.1⟩
      simp +contextual -implicitDefEqProofs (maxSteps:=10^7) only[go_sem,seval,↓gZ,XN,e1,e2,e3,e4,e5,hn]
    ·rw[decide_eq_false v4] at e4
     have hn:¬Wf (Z9.mk sS sO sD sL sC):=fun h=>v4 ⟨h.2.2.2.1,h.2.2.2.2.1⟩
     simp +contextual -implicitDefEqProofs (maxSteps:=10^7) only[go_sem,seval,↓gZ,XN,e1,e2,e3,e4,hn]
   ·rw[decide_eq_false v3] at e3
    have hn:¬Wf (Z9.mk sS sO sD sL sC):=fun h=>v3 h.2.2.1
    simp +contextual -implicitDefEqProofs (maxSteps:=10^7) only[go_sem,seval,↓gZ,XN,e1,e2,e3,hn]
  ·rw[decide_eq_false v2] at e2
   have hn:¬Wf (Z9.mk sS sO sD sL sC):=fun h=>v2 h.2.1
   simp +contextual -implicitDefEqProofs (maxSteps:=10^7) only[go_sem,seval,↓gZ,XN,e1,e2,hn]
 ·rw[decide_eq_false v1] at e1
  have hn:¬Wf (Z9.mk sS sO sD sL sC):=fun h=>v1 h.1
  simp +contextual -implicitDefEqProofs (maxSteps:=10^7) only[go_sem,seval,↓gZ,XN,e1,hn]
theorem ZiZ (l:List Zi) (pW pH:Int) (pT:Bool) (pK:Int) (c:Int) (hl:l.length≤1000000) (hc:∀ x∈l,R64 (x.Count-c)):Zh Xs Ms V7 [(.d (.sl (l.map Zi.enc))),(.d (.agg [J pW,J pH,.bool pT,J pK])),(.d (J c))] [] =
  some (.tup [.own 0,(.d (.bool (Zau (Pane.mk pW pH pT pK) c false l)))],[.row 5 ((ZbB l (Pane.mk pW pH pT pK) c).map Zi.enc) true false]):=by
 refine Zb Xs Ms J7 Zrv (by show 3≤_;decide) ?_
 simp +contextual -implicitDefEqProofs (maxSteps:=10^7) only[go_sem,seval,↓gZ,J7]
 refine ZQ Xs Ms (st0:=?st0) (α:=Nat×Bool) (fun s=>[(10,.d (J (s.1:Int))),(9,.d (.bool s.2))]) (fun s=>[(0,.row 5 ((ZbB (l.take s.1) (Pane.mk pW pH pT pK) c).map Zi.enc) true false)]) (fun s=>s.1≤l.length∧Zau (Pane.mk pW pH pT pK) c s.2 (l.drop s.1)=Zau (Pane.mk pW pH pT pK) c false l) (fun s=>l.length-s.1) (0,false) ?hc ⟨by simp,by simp⟩ ?h0 ?step
 case hc=>simp +contextual -implicitDefEqProofs (maxSteps:=10^7) only[go_sem,seval,↓gZ]<;>exact rfl
 case h0=>rfl
 case step=>
  intro⟨i,b⟩ ⟨hi,hp⟩ ih
  simp only at hi hp
  by_cases hlt:i<l.length
  ·obtain⟨x,hx⟩:=ZU hlt
   have hw:=Zm (k:=i) (by omega)
   have hm:=Zxj (Pane.mk pW pH pT pK) c hx
   have hlk:(ZbB (l.take i) (Pane.mk pW pH pT pK) c).length≤i:=Nat.le_trans (List.length_filterMap_le _ _) (by simp;omega)
   have hr:((ZbB (l.take i) (Pane.mk pW pH pT pK) c).length+1)*40≤140737488355328∧(ZbB (l.take i) (Pane.mk pW pH pT pK) c).length≤140737488355327:=by omega
   have hcx:=hc x (List.mem_of_getElem? hx)
   rw[Zvk hx] at hp
   obtain⟨⟨W,H,T,K⟩,C⟩:=x
   simp only[Zsv] at hm hp hcx
   have u0:=wi (C-c) hcx.1 hcx.2
   by_cases he:(⟨W,H,T,K⟩:Pane)=(Pane.mk pW pH pT pK)
   ·rw[if_pos he] at hm hp
    have he':=he
    simp only[Pane.mk.injEq] at he
    by_cases h0:0<C-c
    ·have h1:0≤C-c:=by omega
     rw[if_pos h0] at hm
     rw[decide_eq_true h1] at hp
     simp +contextual -implicitDefEqProofs (maxSteps:=10^7) only[go_sem,seval,↓gZ,hx,hlt,hw,he,u0,h0,h1,hr]
     refine ih (i+1,true) _ ⟨by simp only;omega,hp⟩ (by simp only;omega) ?_
     simp +contextual -implicitDefEqProofs (maxSteps:=10^7) only[go_sem,seval,↓gZ,hm,Option.toList_some]
     try (simp[Zi.enc,he];done)
    ·rw[if_neg h0] at hm
     by_cases h1:0≤C-c
     ·rw[decide_eq_true h1] at hp
      simp +contextual -implicitDefEqProofs (maxSteps:=10^7) only[go_sem,seval,↓gZ,hx,hlt,hw,he,u0,h0,h1,hr]
      refine ih (i+1,true) _ ⟨by simp only;omega,hp⟩ (by simp only;omega) ?_
      simp +contextual -implicitDefEqProofs (maxSteps:=10^7) only[go_sem,seval,↓gZ,hm,Option.toList_none,List.append_nil]
     ·rw[decide_eq_false h1] at hp
      simp +contextual -implicitDefEqProofs (maxSteps:=10^7) only[go_sem,seval,↓gZ,hx,hlt,hw,he,u0,h0,h1,hr]
      refine ih (i+1,false) _ ⟨by simp only;omega,hp⟩ (by simp only;omega) ?_
      simp +contextual -implicitDefEqProofs (maxSteps:=10^7) only[go_sem,seval,↓gZ,hm,Option.toList_none,List.append_nil]
   ·rw[if_neg he] at hm hp
    simp only[Pane.mk.injEq] at he
    by_cases h0:0<C
    ·rw[if_pos h0] at hm
     simp +contextual -implicitDefEqProofs (maxSteps:=10^7) only[go_sem,seval,↓gZ,hx,hlt,hw,he,h0,hr]
     refine ih (i+1,b) _ ⟨by simp only;omega,hp⟩ (by simp only;omega) ?_
     simp +contextual -implicitDefEqProofs (maxSteps:=10^7) only[go_sem,seval,↓gZ,hm,Option.toList_some]
     try (simp[Zi.enc];done)
    ·rw[if_neg h0] at hm
     simp +contextual -implicitDefEqProofs (maxSteps:=10^7) only[go_sem,seval,↓gZ,hx,hlt,hw,he,h0,hr]
     refine ih (i+1,b) _ ⟨by simp only;omega,hp⟩ (by simp only;omega) ?_
     simp +contextual -implicitDefEqProofs (maxSteps:=10^7) only[go_sem,seval,↓gZ,hm,Option.toList_none,List.append_nil]
  ·have:i=l.length:=by omega
   subst this
   rw[Zxi] at hp
   simp +contextual -implicitDefEqProofs (maxSteps:=10^7) only[go_sem,seval,↓gZ,hp]
   simp
theorem ZBj (l:List Zi) (i:Nat) (W H:Int) (T:Bool) (K C:Int):(l.map Zi.enc).set i (.agg [J W,J H,.bool T,J K,J C])=(l.set i ⟨⟨W,H,T,K⟩,C⟩).map Zi.enc:=(List.map_set (f:=Zi.enc) (l:=l) (i:=i) (a:=⟨⟨W,H,T,K⟩,C⟩)).symm
theorem ZfL (l:List Zi) (pW pH:Int) (pT:Bool) (pK:Int) (c:Int) (hl:l.length≤1000000) (hc:∀ x∈l,R64 (x.Count+c)):Zh Xs Ms WU [(.d (.sl (l.map Zi.enc))),(.d (.agg [J pW,J pH,.bool pT,J pK])),(.d (J c))] [] =
  some (.own 0,[.row 5 ((Zcy (Pane.mk pW pH pT pK) c l).map Zi.enc) true false]):=by
 have hr0:l.length*40≤140737488355328∧l.length≤140737488355328:=by omega
 have hr1:(l.length+1)*40≤140737488355328∧l.length≤140737488355327:=by omega
 refine Zb Xs Ms Zbm ZtY (by show 3≤_;decide) ?_
 simp +contextual -implicitDefEqProofs (maxSteps:=10^7) only[go_sem,seval,↓gZ,Zbm,hr0]
 refine ZQ Xs Ms (st0:=?st0) (α:=Nat) (fun k=>[(8,.d (J (k:Int)))]) (fun _=>[]) (fun k=>k≤l.length∧(Pane.mk pW pH pT pK)∉(l.take k).map Zi.Pane) (fun k=>l.length-k) 0 ?hc ⟨by simp,by simp⟩ ?h0 ?step
 case hc=>simp +contextual -implicitDefEqProofs (maxSteps:=10^7) only[go_sem,seval,↓gZ]<;>exact rfl
 case h0=>rfl
 case step=>
  intro k ⟨hk,hp⟩ ih
  by_cases hlt:k<l.length
  ·obtain⟨x,hx⟩:=ZU hlt
   have hw:=Zm (k:=k) (by omega)
   have hcx:=hc x (List.mem_of_getElem? hx)
   have hpt:=ZhH hx
   have hat:=Zyj (Pane.mk pW pH pT pK) c l k x hx
   obtain⟨⟨W,H,T,K⟩,C⟩:=x
   simp only at hcx hpt hat
   have u0:=wi (C+c) hcx.1 hcx.2
   by_cases he:(⟨W,H,T,K⟩:Pane)=(Pane.mk pW pH pT pK)
   ·rw[hat he hp]
    have he':=he
    simp only[Pane.mk.injEq] at he
    simp +contextual -implicitDefEqProofs (maxSteps:=10^7) only[go_sem,seval,↓gZ,hx,hlt,hw,he,u0,ZBj]
    try (simp[he];done)
   ·have he':=he
    simp only[Pane.mk.injEq] at he
    simp +contextual -implicitDefEqProofs (maxSteps:=10^7) only[go_sem,seval,↓gZ,hx,hlt,hw,he]
    refine ih (k+1) _ ⟨by omega,?_⟩ (by omega) ?_
    ·rw[hpt,List.mem_append]
     intro h
     rcases h with h | h
     ·exact hp h
     ·exact he' (List.mem_singleton.1 h).symm
    ·simp +contextual -implicitDefEqProofs (maxSteps:=10^7) only[go_sem,seval,↓gZ]
  ·have:k=l.length:=by omega
   subst this
   rw[List.take_of_length_le (Nat.le_refl _)] at hp
   rw[Zyk (Pane.mk pW pH pT pK) c l hp]
   simp +contextual -implicitDefEqProofs (maxSteps:=10^7) only[go_sem,seval,↓gZ,hr1]
   try (simp[Zi.enc];done)
theorem Zq3 (l:List Zd) (qL qW qH:Int) (qF:List Box) (hl:l.length≤100000) (hF:∀ x∈l,x.Flaws.length≤1000000) (hq:qF.length≤1000000):Zh Xs Ms Jx [(.d (.sl (l.map Zd.enc))),(.d (.agg [J qL,J qW,J qH,.sl (qF.map Box.enc)]))] [] =
  some (.own 0,[.row 4 ((VR (Zd.mk qL qW qH qF) l).map Zd.enc) true false]):=by
 have eq:=Ws qL qW qH qF hq
 refine Zb Xs Ms Zbp Zt1 (by show 2≤_;decide) ?_
 simp +contextual -implicitDefEqProofs (maxSteps:=10^7) only[go_sem,seval,↓gZ,Zbp]
 refine ZQ Xs Ms (st0:=?st0) (α:=Nat×Bool×List Zd) (fun s=>[(7,.d (J (s.1:Int))),(6,.d (.bool s.2.1))]) (fun s=>[(0,.row 4 (s.2.2.map Zd.enc) true false)]) (fun s=>s.1≤l.length∧s.2.2++(if s.2.1 then l.drop s.1 else VR (Zd.mk qL qW qH qF) (l.drop s.1))=VR (Zd.mk qL qW qH qF) l∧s.2.2.length≤s.1+s.2.1.toNat) (fun s=>l.length-s.1) (0,false,[]) ?hc ⟨by simp,by simp,by simp⟩ ?h0 ?step
 case hc=>simp +contextual -implicitDefEqProofs (maxSteps:=10^7) only[go_sem,seval,↓gZ]<;>exact rfl
 case h0=>rfl
 case step=>
  intro⟨i,b,o⟩ ⟨hi,hp,ho⟩ ih
  simp only at hi hp ho
  have hb:=Bool.toNat_le b
  by_cases hlt:i<l.length
  ·obtain⟨x,hx⟩:=ZU hlt
   have hw:=Zm (k:=i) (by omega)
   have hr:(o.length+1)*48≤140737488355328∧o.length≤140737488355327:=by omega
   have hr2:∀ n:Nat,n=o.length+1→(n+1)*48≤140737488355328∧n≤140737488355327:=fun n hn=>by omega
   have hr2:=hr2 _ rfl
   have hr3:o.length≤140737488355326:=by omega
   have e:=Ws x.Label x.W x.H x.Flaws (hF x (List.mem_of_getElem? hx))
   rw[Zxh hx] at hp
   have hd:l.drop i=x :: l.drop (i+1):=by
    obtain⟨h1,h2⟩:=List.getElem?_eq_some_iff.1 hx
    rw[List.drop_eq_getElem_cons h1,h2]
   obtain⟨L,W,H,F⟩:=x
   simp only at e hp
   cases b with
   | true=>
    simp only[Bool.toNat_true] at ho
    rw[if_pos rfl] at hp
    simp +contextual -implicitDefEqProofs (maxSteps:=10^7) only[go_sem,seval,↓gZ,hx,hlt,hw,e,hr]
    refine ih (i+1,true,o++[⟨L,W,H,F⟩]) _ ⟨by simp only;omega,?_,by simp;omega⟩ (by simp only;omega) ?_
    ·rw[← hp,hd];simp
    ·simp +contextual -implicitDefEqProofs (maxSteps:=10^7) only[go_sem,seval,↓gZ]
     try (simp[Zd.enc];done)
   | false=>
    simp only[Bool.toNat_false] at ho
    rw[if_neg (by simp)] at hp
    by_cases hc:qL<L
    ·rw[if_pos hc] at hp
     simp +contextual -implicitDefEqProofs (maxSteps:=10^7) only[go_sem,seval,↓gZ,hx,hlt,hw,e,eq,hc,hr,hr2,hr3]
     refine ih (i+1,true,o++[(Zd.mk qL qW qH qF),⟨L,W,H,F⟩]) _ ⟨by simp only;omega,?_,by simp;omega⟩ (by simp only;omega) ?_
     ·rw[← hp,hd];simp
     ·simp +contextual -implicitDefEqProofs (maxSteps:=10^7) only[go_sem,seval,↓gZ]
      try (simp[Zd.enc];done)
    ·rw[if_neg hc] at hp
     simp +contextual -implicitDefEqProofs (maxSteps:=10^7) only[go_sem,seval,↓gZ,hx,hlt,hw,e,hc,hr]
     refine ih (i+1,false,o++[⟨L,W,H,F⟩]) _ ⟨by simp only;omega,?_,by simp;omega⟩ (by simp only;omega) ?_
     ·rw[← hp];simp
     ·simp +contextual -implicitDefEqProofs (maxSteps:=10^7) only[go_sem,seval,↓gZ]
      try (simp[Zd.enc];done)
  ·have:i=l.length:=by omega
   subst this
   have hr:(o.length+1)*48≤140737488355328∧o.length≤140737488355327:=by omega
   cases b with
   | true=>
    simp at hp
    simp +contextual -implicitDefEqProofs (maxSteps:=10^7) only[go_sem,seval,↓gZ]
    rw[hp]
   | false=>
    simp[VR] at hp
    simp +contextual -implicitDefEqProofs (maxSteps:=10^7) only[go_sem,seval,↓gZ,eq,hr]
    rw[← hp]
    try (simp[Zd.enc];done)
def ZgO (p:Zd) (l:List Zd):Prop:=(VSt l∧VPc p)∧VSt (VR p l)
instance (p:Zd) (l:List Zd):Decidable (ZgO p l):=by unfold ZgO;infer_instance
theorem Zkl (l:List Zd) (qL qW qH:Int) (qF:List Box) (hl:l.length≤100000) (hS:∀ x∈l,x.Flaws.length≤1000000∧R64 x.W∧R64 x.H) (hq:qF.length≤1000000∧R64 qW∧R64 qH):Zh Xs Ms WT [(.d (.sl (l.map Zd.enc))),(.d (.agg [J qL,J qW,J qH,.sl (qF.map Box.enc)]))] [] =
  some (.tup [.own 0,(.d (.bool (decide (ZgO (Zd.mk qL qW qH qF) l))))],[.row 4 ((if ZgO (Zd.mk qL qW qH qF) l then VR (Zd.mk qL qW qH qF) l else []).map Zd.enc) true false]):=by
 have e1:=VG l (by omega) (fun x hx=>⟨by have:=(hS x hx).1;omega,(hS x hx).2⟩)
 have e2:=Zia qL qW qH qF (by omega) hq.2.1 hq.2.2
 have e3:=Zq3 l qL qW qH qF hl (fun x hx=>(hS x hx).1) hq.1
 have e4:=VG (VR (Zd.mk qL qW qH qF) l) (by rw[Zst];omega) (fun x hx=>by
  rcases Zsu _ _ _ hx with rfl | hx
  ·exact⟨by simp only;omega,hq.2⟩
  ·exact⟨by have:=(hS x hx).1;omega,(hS x hx).2⟩)
 refine Zb Xs Ms VZ ZtX (by show 2≤_;decide) ?_
 by_cases v1:VSt l
 ·rw[decide_eq_true v1] at e1
  by_cases v2:VPc (Zd.mk qL qW qH qF)
  ·rw[decide_eq_true v2] at e2
   by_cases v3:VSt (VR (Zd.mk qL qW qH qF) l)
   ·rw[decide_eq_true v3] at e4
    have h:ZgO (Zd.mk qL qW qH qF) l:=⟨⟨v1,v2⟩,v3⟩
    rw[decide_eq_true h,if_pos h]
    simp +contextual -implicitDefEqProofs (maxSteps:=10^7) only[go_sem,seval,↓gZ,VZ,e1,e2,e3,e4]
   ·rw[decide_eq_false v3] at e4
    have h:¬ZgO (Zd.mk qL qW qH qF) l:=fun h=>v3 h.2
    rw[decide_eq_false h,if_neg h]
    simp +contextual -implicitDefEqProofs (maxSteps:=10^7) only[go_sem,seval,↓gZ,VZ,e1,e2,e3,e4]
  ·rw[decide_eq_false v2] at e2
   have h:¬ZgO (Zd.mk qL qW qH qF) l:=fun h=>v2 h.1.2
   rw[decide_eq_false h,if_neg h]
   simp +contextual -implicitDefEqProofs (maxSteps:=10^7) only[go_sem,seval,↓gZ,VZ,e1,e2]
 ·rw[decide_eq_false v1] at e1
  have h:¬ZgO (Zd.mk qL qW qH qF) l:=fun h=>v1 h.1.1
  rw[decide_eq_false h,if_neg h]
  simp +contextual -implicitDefEqProofs (maxSteps:=10^7) only[go_sem,seval,↓gZ,VZ,e1]
theorem ZtF (l:List Zd) (hl:l.length≤1000000) (hF:∀ x∈l,x.Flaws.length≤1000000):Zh Xs Ms VX [(.d (.sl (l.map Zd.enc))),(.d (J ((-1))))] []=some (.own 0,[.row 4 (l.map Zd.enc) true false]):=by
 refine Zb Xs Ms U4 ZnZ (by show 2≤_;decide) ?_
 simp +contextual -implicitDefEqProofs (maxSteps:=10^7) only[go_sem,seval,↓gZ,U4]
 refine ZQ Xs Ms (st0:=?st0) (α:=Nat) (fun i=>[(6,.d (J (i:Int)))]) (fun i=>[(0,.row 4 ((l.take i).map Zd.enc) true false)]) (fun i=>i≤l.length) (fun i=>l.length-i) 0 ?hc (by omega) ?h0 ?step
 case hc=>simp +contextual -implicitDefEqProofs (maxSteps:=10^7) only[go_sem,seval,↓gZ]<;>exact rfl
 case h0=>rfl
 case step=>
  intro i hi ih
  by_cases hlt:i<l.length
  ·obtain⟨x,hx⟩:=ZU hlt
   have hw:=Zm (k:=i) (by omega)
   have hia:¬(i:Int)=-1:=by omega
   have hm:l.take (i+1)=l.take i++[x]:=by rw[List.take_add_one,hx];simp
   have hlk:(l.take i).length≤i:=by simp;omega
   have hr:((l.take i).length+1)*48≤140737488355328∧(l.take i).length≤140737488355327:=by omega
   have e:=Ws x.Label x.W x.H x.Flaws (hF x (List.mem_of_getElem? hx))
   obtain⟨L,W,H,F⟩:=x
   simp only at e
   simp +contextual -implicitDefEqProofs (maxSteps:=10^7) only[go_sem,seval,↓gZ,hx,hlt,hw,hia,e,hr]
   refine ih (i+1) _ (by omega) (by omega) ?_
   simp +contextual -implicitDefEqProofs (maxSteps:=10^7) only[go_sem,seval,↓gZ,hm]
   first | rfl | (simp;done) | (simp;rfl)
  ·have:i=l.length:=by omega
   subst this
   simp +contextual -implicitDefEqProofs (maxSteps:=10^7) only[go_sem,seval,↓gZ]
   simp
theorem Uh (sS:List Zd) (sO sD:List Zi) (sL sC:Int) (hs:ZcU (Z9.mk sS sO sD sL sC)):Zh Xs Ms Jt [(.d (.agg [.sl (sS.map Zd.enc),.sl (sO.map Zi.enc),.sl (sD.map Zi.enc),J sL,J sC]))] []=some (.agg [.own 0,.own 1,.own 2,(.d (J sL)),(.d (J sC))],[.row 4 (sS.map Zd.enc) true false,.row 5 (sO.map Zi.enc) true false,.row 5 (sD.map Zi.enc) true false]):=by
 obtain⟨h1,h2,h3,h4⟩:=hs
 simp only at h1 h2 h3 h4
 have e1:=ZtF sS h1 (fun x hx=>(h2 x hx).1)
 have r1:sO.length*40≤140737488355328∧sO.length≤140737488355328:=by omega
 have r2:sD.length*40≤140737488355328∧sD.length≤140737488355328:=by omega
 refine Zb Xs Ms Zbl ZtW (by show 1≤_;decide) ?_
 simp +contextual -implicitDefEqProofs (maxSteps:=10^7) only[go_sem,seval,↓gZ,Zbl,ZmM,e1,r1,r2]
theorem Zvn (sS:List Zd) (sO sD:List Zi) (sL sC:Int) (a:Nat) (qL qW qH:Int) (qF:List Box) (hx:sS[a]?=some (Zd.mk qL qW qH qF)) (hl:sO.length≤1000000) (hS:sS.length≤1000000):Zh Xs Ms Zb5 [(.d (.agg [.sl (sS.map Zd.enc),.sl (sO.map Zi.enc),.sl (sD.map Zi.enc),J sL,J sC])),(.d (J a))] []=some (.agg [(.d (J qW)),(.d (J qH)),.own 0],[.row 4 ((sO.map Zi.Pane).map Pane.enc) true false]):=by
 have hlt:=(List.getElem?_eq_some_iff.1 hx).1
 refine Zb Xs Ms ZeF ZxE (by show 2≤_;decide) ?_
 simp +contextual -implicitDefEqProofs (maxSteps:=10^7) only[go_sem,seval,↓gZ,ZeF,hx,hlt]
 refine ZQ Xs Ms (st0:=?st0) (α:=Nat) (fun i=>[(6,.d (J (i:Int)))]) (fun i=>[(3,.row 4 (((sO.take i).map Zi.Pane).map Pane.enc) true false)]) (fun i=>i≤sO.length) (fun i=>sO.length-i) 0 ?hc (by omega) ?h0 ?step
 case hc=>simp +contextual -implicitDefEqProofs (maxSteps:=10^7) only[go_sem,seval,↓gZ]<;>exact rfl
 case h0=>rfl
 case step=>
  intro i hi ih
  by_cases hlt:i<sO.length
  ·obtain⟨x,hx⟩:=ZU hlt
   have hw:=Zm (k:=i) (by omega)
   have hm:=ZhH hx
   have hlk:(sO.take i).length≤i:=by simp;omega
   have hr:((sO.take i).length+1)*32≤140737488355328∧(sO.take i).length≤140737488355327:=by omega
   obtain⟨⟨W,H,T,K⟩,C⟩:=x
   simp only at hm
   simp +contextual -implicitDefEqProofs (maxSteps:=10^7) only[go_sem,seval,↓gZ,hx,hlt,hw,hr]
   refine ih (i+1) _ (by omega) (by omega) ?_
   simp +contextual -implicitDefEqProofs (maxSteps:=10^7) only[go_sem,seval,↓gZ,hm]
   first | rfl | (simp;done) | (simp;rfl)
  ·have:i=sO.length:=by omega
   subst this
   simp +contextual -implicitDefEqProofs (maxSteps:=10^7) only[go_sem,seval,↓gZ]
   simp
def SmS (s:Z9):Prop:=ZcU s∧s.Stock.length≤100000∧-1000000000≤s.Lost∧s.Lost≤1000000000∧-1000000000≤s.Came∧s.Came≤1000000000
theorem Zsw {s:Z9} (h:Wf s):SmS s:=⟨ZBi h,by have:=h.1.1;omega,by have:=h.2.2.2.1;omega,by have:=h.2.2.2.2.1;omega,by have:=h.2.2.2.2.2.1;omega,by have:=h.2.2.2.2.2.2.1;omega⟩
def I5 (n:Int):Prop:=-100000≤n∧n≤100000
theorem ZBk {a b:Int} (ha:I5 a) (hb:I5 b) : -10000000000≤a*b∧a*b≤10000000000:=by
 unfold I5 at ha hb
 have h1:a.natAbs≤100000:=by omega
 have h2:b.natAbs≤100000:=by omega
 have h3:(a*b).natAbs≤100000*100000:=by rw[Int.natAbs_mul];exact Nat.mul_le_mul h1 h2
 omega
theorem ZBl {a:Int} (h:I5 a):R64 a:=by unfold I5 at h;unfold R64;omega
theorem ZkU (sS:List Zd) (sO sD:List Zi) (sL sC:Int) (eK eL eX eY eW eH epW epH:Int) (epT:Bool) (epK eC eo ea ep:Int) (et:Bool) (ek:List Zj) (hs:SmS (Z9.mk sS sO sD sL sC)) (hk:eK=0) (hW:I5 eW) (hH:I5 eH):Zh Xs Ms XY [(.d (.agg [.sl (sS.map Zd.enc),.sl (sO.map Zi.enc),.sl (sD.map Zi.enc),J sL,J sC])),(.d (.agg [J eK,J eL,J eX,J eY,J eW,J eH,J epW,J epH,.bool epT,J epK,J eC,J eo,J ea,J ep,.bool et,.sl (ek.map Zj.enc)]))] [] =
  some (.tup [.agg [.own 0,.d (.sl (sO.map Zi.enc)),.d (.sl (sD.map Zi.enc)),(.d (J sL)),(.d (J (sC+eW*eH)))],(.d (.bool (decide ((ZgO ⟨eL,eW,eH,[]⟩ sS∧eX=0)∧eY=0))))],[.row 4 ((if ZgO ⟨eL,eW,eH,[]⟩ sS then VR ⟨eL,eW,eH,[]⟩ sS else []).map Zd.enc) true false]):=by
 obtain⟨⟨h1,h2,h3,h4⟩,h5,h6,h7,h8,h9⟩:=hs
 simp only at h1 h2 h3 h4 h5 h6 h7 h8 h9
 subst hk
 have hm:=ZBk hW hH
 have e1:=Vm sS eL (by omega)
 have e2:=Zkl sS eL eW eH [] h5 h2 ⟨by simp,ZBl hW,ZBl hH⟩
 have u1:=wi (eW*eH) (by omega) (by omega)
 have u2:=wi (sC+eW*eH) (by omega) (by omega)
 simp only[List.map_nil] at e2
 generalize (if ZgO ⟨eL,eW,eH,[]⟩ sS then VR ⟨eL,eW,eH,[]⟩ sS else [])=R at e2 ⊢
 by_cases v1:ZgO ⟨eL,eW,eH,[]⟩ sS
 ·rw[decide_eq_true v1] at e2
  refine Zb Xs Ms Ql UT (by show 2≤_;decide) ?_
  by_cases v2:eX=0
  ·simp +contextual -implicitDefEqProofs (maxSteps:=10^7) only[go_sem,seval,↓gZ,Ql,e1,e2,u1,u2,v2]
   all_goals simp[v1]
  ·simp +contextual -implicitDefEqProofs (maxSteps:=10^7) only[go_sem,seval,↓gZ,Ql,e1,e2,u1,u2,v2]
   all_goals simp
 ·rw[decide_eq_false v1] at e2
  refine Zb Xs Ms Ql UT (by show 2≤_;decide) ?_
  simp +contextual -implicitDefEqProofs (maxSteps:=10^7) only[go_sem,seval,↓gZ,Ql,e1,e2,u1,u2,v1]
theorem Zn8 (sS:List Zd) (sO sD:List Zi) (sL sC:Int) (eK eL eX eY eW eH epW epH:Int) (epT:Bool) (epK eC eo ea ep:Int) (et:Bool) (ek:List Zj) (hs:SmS (Z9.mk sS sO sD sL sC)) (hk:¬eK=0) (hf:UF 0 sS eL<0):Zh Xs Ms XY [(.d (.agg [.sl (sS.map Zd.enc),.sl (sO.map Zi.enc),.sl (sD.map Zi.enc),J sL,J sC])),(.d (.agg [J eK,J eL,J eX,J eY,J eW,J eH,J epW,J epH,.bool epT,J epK,J eC,J eo,J ea,J ep,.bool et,.sl (ek.map Zj.enc)]))] [] =
  some (.tup [.agg [.own 0,.own 1,.own 2,(.d (J 0)),(.d (J 0))],(.d (.bool false))],[.row 4 [] true false,.row 5 [] true false,.row 5 [] true false]):=by
 have e1:=Vm sS eL (by have:=hs.2.1;simp only at this;omega)
 refine Zb Xs Ms Ql UT (by show 2≤_;decide) ?_
 simp +contextual -implicitDefEqProofs (maxSteps:=10^7) only[go_sem,seval,↓gZ,Ql,e1,hk,hf]
theorem ZkV (sS:List Zd) (sO sD:List Zi) (sL sC:Int) (eK eL eX eY eW eH epW epH:Int) (epT:Bool) (epK eC eo ea ep:Int) (et:Bool) (ek:List Zj) (hs:SmS (Z9.mk sS sO sD sL sC)) (hk:eK=5) (a:Nat) (hf:UF 0 sS eL=(a:Int)) (qL qW qH:Int) (qF:List Box) (hx:sS[a]?=some (Zd.mk qL qW qH qF)) (hW:I5 qW) (hH:I5 qH):Zh Xs Ms XY [(.d (.agg [.sl (sS.map Zd.enc),.sl (sO.map Zi.enc),.sl (sD.map Zi.enc),J sL,J sC])),(.d (.agg [J eK,J eL,J eX,J eY,J eW,J eH,J epW,J epH,.bool epT,J epK,J eC,J eo,J ea,J ep,.bool et,.sl (ek.map Zj.enc)]))] [] =
  some (.tup [.agg [.own 0,.d (.sl (sO.map Zi.enc)),.d (.sl (sD.map Zi.enc)),(.d (J (sL+qW*qH))),(.d (J sC))],(.d (.bool true))],[.row 4 ((sS.eraseIdx a).map Zd.enc) true false]):=by
 obtain⟨⟨h1,h2,h3,h4⟩,h5,h6,h7,h8,h9⟩:=hs
 simp only at h1 h2 h3 h4 h5 h6 h7 h8 h9
 subst hk
 have hm:=ZBk hW hH
 have e1:=Vm sS eL (by omega)
 rw[hf] at e1
 have hlt:=(List.getElem?_eq_some_iff.1 hx).1
 have h0:¬(a:Int)<0:=by omega
 have e2:=Ws qL qW qH qF (h2 _ (List.mem_of_getElem? hx)).1
 have e3:=ZhG sS a h1 (fun x hx=>(h2 x hx).1)
 have u1:=wi (qW*qH) (by omega) (by omega)
 have u2:=wi (sL+qW*qH) (by omega) (by omega)
 refine Zb Xs Ms Ql UT (by show 2≤_;decide) ?_
 simp +contextual -implicitDefEqProofs (maxSteps:=10^7) only[go_sem,seval,↓gZ,Ql,e1,e2,e3,h0,hlt,hx,u1,u2]
theorem Zl1 (sS:List Zd) (sO sD:List Zi) (sL sC:Int) (eK eL eX eY eW eH epW epH:Int) (epT:Bool) (epK eC eo ea ep:Int) (et:Bool) (ek:List Zj) (hv:Wf (Z9.mk sS sO sD sL sC)) (hk:eK=1) (a:Nat) (hf:UF 0 sS eL=(a:Int)) (qL qW qH:Int) (qF:List Box) (hx:sS[a]?=some (Zd.mk qL qW qH qF)):Zh Xs Ms XY [(.d (.agg [.sl (sS.map Zd.enc),.sl (sO.map Zi.enc),.sl (sD.map Zi.enc),J sL,J sC])),(.d (.agg [J eK,J eL,J eX,J eY,J eW,J eH,J epW,J epH,.bool epT,J epK,J eC,J eo,J ea,J ep,.bool et,.sl (ek.map Zj.enc)]))] [] =
  some (.tup [.agg [.own 0,.d (.sl (sO.map Zi.enc)),.d (.sl (sD.map Zi.enc)),(.d (J sL)),(.d (J sC))],(.d (.bool (decide (ZgO ⟨qL,qW,qH,qF++[⟨eX,eY,eW,eH⟩]⟩ (sS.eraseIdx a)))))],[.row 4 ((if ZgO ⟨qL,qW,qH,qF++[⟨eX,eY,eW,eH⟩]⟩ (sS.eraseIdx a) then VR ⟨qL,qW,qH,qF++[⟨eX,eY,eW,eH⟩]⟩ (sS.eraseIdx a) else []).map Zd.enc) true false]):=by
 obtain⟨⟨h1,h2,h3,h4⟩,h5,h6,h7,h8,h9⟩:=Zsw hv
 simp only at h1 h2 h3 h4 h5 h6 h7 h8 h9
 subst hk
 have e1:=Vm sS eL (by omega)
 rw[hf] at e1
 have hlt:=(List.getElem?_eq_some_iff.1 hx).1
 have h0:¬(a:Int)<0:=by omega
 have hqF:=h2 _ (List.mem_of_getElem? hx)
 simp only at hqF
 have hel:=Zp2 sS a
 have e2:=Ws qL qW qH qF hqF.1
 have e3:=ZhG sS a h1 (fun x hx=>(h2 x hx).1)
 have hr:(qF.length+1)*32≤140737488355328∧qF.length≤140737488355327:=by omega
 have hq6:=(X8 hv.1.2 _ (List.mem_of_getElem? hx)).1.2.2.2.2.2.2
 simp only at hq6
 have e4:=Zkl (sS.eraseIdx a) qL qW qH (qF++[⟨eX,eY,eW,eH⟩]) (by omega) (fun x hx=>h2 x (List.mem_of_mem_eraseIdx hx)) ⟨by simp;omega,hqF.2⟩
 rw[List.map_append] at e4
 simp only[List.map_cons,List.map_nil,Box.enc] at e4
 generalize (if ZgO ⟨qL,qW,qH,qF++[⟨eX,eY,eW,eH⟩]⟩ (sS.eraseIdx a) then VR ⟨qL,qW,qH,qF++[⟨eX,eY,eW,eH⟩]⟩ (sS.eraseIdx a) else [])=R at e4 ⊢
 generalize decide (ZgO ⟨qL,qW,qH,qF++[⟨eX,eY,eW,eH⟩]⟩ (sS.eraseIdx a))=V at e4 ⊢
 refine Zb Xs Ms Ql UT (by show 2≤_;decide) ?_
 simp +contextual -implicitDefEqProofs (maxSteps:=10^7) only[go_sem,seval,↓gZ,Ql,e1,e2,e3,e4,h0,hlt,hx,hr]
def ZnQ (l:Zi):Prop:=VP l.Pane∧1≤l.Count∧l.Count≤24
instance (l:Zi):Decidable (ZnQ l):=by unfold ZnQ;infer_instance
theorem Zn9 (sS:List Zd) (sO sD:List Zi) (sL sC:Int) (eK eL eX eY eW eH epW epH:Int) (epT:Bool) (epK eC eo ea ep:Int) (et:Bool) (ek:List Zj) (hl:¬ZnQ ⟨⟨epW,epH,epT,epK⟩,eC⟩):Zh Xs Ms Vg [(.d (.agg [.sl (sS.map Zd.enc),.sl (sO.map Zi.enc),.sl (sD.map Zi.enc),J sL,J sC])),(.d (.agg [J eK,J eL,J eX,J eY,J eW,J eH,J epW,J epH,.bool epT,J epK,J eC,J eo,J ea,J ep,.bool et,.sl (ek.map Zj.enc)]))] [] =
  some (.tup [.agg [.own 0,.own 1,.own 2,(.d (J 0)),(.d (J 0))],(.d (.bool false))],[.row 4 [] true false,.row 5 [] true false,.row 5 [] true false]):=by
 have e1:=Wr epW epH epT epK
 have e2:=ZA eC 1 24
 refine Zb Xs Ms XM ZfS (by show 2≤_;decide) ?_
 by_cases v1:VP ⟨epW,epH,epT,epK⟩
 ·have v2:¬(1≤eC∧eC≤24):=fun h=>hl ⟨v1,h⟩
  rw[decide_eq_true v1] at e1
  rw[decide_eq_false v2] at e2
  simp +contextual -implicitDefEqProofs (maxSteps:=10^7) only[go_sem,seval,↓gZ,XM,e1,e2]
 ·rw[decide_eq_false v1] at e1
  simp +contextual -implicitDefEqProofs (maxSteps:=10^7) only[go_sem,seval,↓gZ,XM,e1]
theorem Zl2 (sS:List Zd) (sO sD:List Zi) (sL sC:Int) (eK eL eX eY eW eH epW epH:Int) (epT:Bool) (epK eC eo ea ep:Int) (et:Bool) (ek:List Zj) (hv:Wf (Z9.mk sS sO sD sL sC)) (hl:ZnQ ⟨⟨epW,epH,epT,epK⟩,eC⟩) (hk:eK=2):Zh Xs Ms Vg [(.d (.agg [.sl (sS.map Zd.enc),.sl (sO.map Zi.enc),.sl (sD.map Zi.enc),J sL,J sC])),(.d (.agg [J eK,J eL,J eX,J eY,J eW,J eH,J epW,J epH,.bool epT,J epK,J eC,J eo,J ea,J ep,.bool et,.sl (ek.map Zj.enc)]))] [] =
  some (.tup [.agg [.d (.sl (sS.map Zd.enc)),.own 0,.d (.sl (sD.map Zi.enc)),(.d (J sL)),(.d (J sC))],(.d (.bool true))],[.row 5 ((Zcy ⟨epW,epH,epT,epK⟩ eC sO).map Zi.enc) true false]):=by
 have e1:=Wr epW epH epT epK
 have e2:=ZA eC 1 24
 rw[decide_eq_true hl.1] at e1
 rw[decide_eq_true hl.2] at e2
 subst hk
 have e3:=ZfL sO epW epH epT epK eC (by have:=hv.2.1.1;simp only at this;omega) (fun x hx=>by have:=(Zep hv.2.1 x hx).2;have:=hl.2;simp only at this;unfold R64;omega)
 refine Zb Xs Ms XM ZfS (by show 2≤_;decide) ?_
 simp +contextual -implicitDefEqProofs (maxSteps:=10^7) only[go_sem,seval,↓gZ,XM,e1,e2,e3]
theorem Zl3 (sS:List Zd) (sO sD:List Zi) (sL sC:Int) (eK eL eX eY eW eH epW epH:Int) (epT:Bool) (epK eC eo ea ep:Int) (et:Bool) (ek:List Zj) (hv:Wf (Z9.mk sS sO sD sL sC)) (hl:ZnQ ⟨⟨epW,epH,epT,epK⟩,eC⟩) (hk:¬eK=2):Zh Xs Ms Vg [(.d (.agg [.sl (sS.map Zd.enc),.sl (sO.map Zi.enc),.sl (sD.map Zi.enc),J sL,J sC])),(.d (.agg [J eK,J eL,J eX,J eY,J eW,J eH,J epW,J epH,.bool epT,J epK,J eC,J eo,J ea,J ep,.bool et,.sl (ek.map Zj.enc)]))] [] =
  some (.tup [.agg [.d (.sl (sS.map Zd.enc)),.own 0,.own 1,(.d (J (sL+eC*epW*epH))),(.d (J sC))],(.d (.bool (Zau ⟨epW,epH,epT,epK⟩ eC false sD)))],[.row 5 ((Zcy ⟨epW,epH,epT,epK⟩ eC sO).map Zi.enc) true false,.row 5 ((ZbB sD ⟨epW,epH,epT,epK⟩ eC).map Zi.enc) true false]):=by
 have e1:=Wr epW epH epT epK
 have e2:=ZA eC 1 24
 rw[decide_eq_true hl.1] at e1
 rw[decide_eq_true hl.2] at e2
 have hla:=Zm0 hl
 have h6:=hv.2.2.2
 simp only at hla h6
 have e3:=ZfL sO epW epH epT epK eC (by have:=hv.2.1.1;simp only at this;omega) (fun x hx=>by have:=(Zep hv.2.1 x hx).2;have:=hl.2;simp only at this;unfold R64;omega)
 have e4:=ZiZ sD epW epH epT epK eC (by have:=hv.2.2.1.1;simp only at this;omega) (fun x hx=>by have:=(Zep hv.2.2.1 x hx).2;have:=hl.2;simp only at this;unfold R64;omega)
 have u0:=wi (eC*epW) (by omega) (by omega)
 have u1:=wi (eC*epW*epH) (by omega) (by omega)
 have u2:=wi (sL+eC*epW*epH) (by omega) (by omega)
 refine Zb Xs Ms XM ZfS (by show 2≤_;decide) ?_
 simp +contextual -implicitDefEqProofs (maxSteps:=10^7) only[go_sem,seval,↓gZ,XM,e1,e2,e3,e4,hk,u0,u1,u2]
theorem Zi0 {ps:List Pane}:∀ {b:BT} {x y w h:Int},Je ps b w h=true→∀ c∈plc b x y w h,∃ n:Nat,c.Pane=(n:Int)∧n<ps.length
 | .waste,x,y,w,h,hf,c,hc=>by simp[plc] at hc
 | .pane i t,x,y,w,h,hf,c,hc=>by
  simp only[plc,List.mem_singleton] at hc
  subst hc
  simp only[Je,Zcu,Bool.and_eq_true,decide_eq_true_eq] at hf
  refine⟨i.toNat,by simp only;omega,?_⟩
  rcases Nat.lt_or_ge i.toNat ps.length with h1 | h1
  ·exact h1
  ·rw[List.getElem?_eq_none h1] at hf;exact absurd hf.2 (by simp)
 | .cut d a l r,x,y,w,h,hf,c,hc=>by
  cases d
  ·simp only[Je,Bool.and_eq_true,Bool.false_eq_true,if_false] at hf
   simp only[plc,Bool.false_eq_true,if_false,List.mem_append] at hc
   rcases hc with hc | hc
   ·exact Zi0 hf.1.2 c hc
   ·exact Zi0 hf.2 c hc
  ·simp only[Je,Bool.and_eq_true,if_true] at hf
   simp only[plc,if_true,List.mem_append] at hc
   rcases hc with hc | hc
   ·exact Zi0 hf.1.2 c hc
   ·exact Zi0 hf.2 c hc
def Zic:List Int→List L.Place→List Int
 | u,[]=>u
 | u,x :: l=>Zic (u.set x.Pane.toNat (u[x.Pane.toNat]?.getD 0+1)) l
theorem Zxk {u:List Int} {l:List L.Place} {k:Nat} {x:L.Place} (hx:l[k]?=some x):Zic u (l.drop k)=Zic (u.set x.Pane.toNat (u[x.Pane.toNat]?.getD 0+1)) (l.drop (k+1)):=by
 obtain⟨h1,h2⟩:=List.getElem?_eq_some_iff.1 hx
 rw[List.drop_eq_getElem_cons h1,h2,Zic]
theorem ZzJ {u:List Int} {l:List L.Place}:Zic u (l.drop l.length)=u:=by simp[Zic]
theorem Zsx:∀ (l:List L.Place) (u:List Int),(Zic u l).length=u.length
 | [],u=>rfl
 | x :: l,u=>by rw[Zic,Zsx l];simp
theorem Zsy:∀ (l:List L.Place) (u:List Int) (m:Int),(∀ v∈u,0≤v∧v≤m)→∀ v∈Zic u l,0≤v∧v≤m+l.length
 | [],u,m,h,v,hv=>by have:=h v hv;simp;omega
 | x :: l,u,m,h,v,hv=>by
  have:=Zsy l _ (m+1) (fun w hw=>by
   rcases List.mem_or_eq_of_mem_set hw with h1 | rfl
   ·have:=h w h1;omega
   ·cases hg:u[x.Pane.toNat]? with
    | none=>
     simp
     have h0:∀ z:Int,0≤z→1≤z+1:=by omega
     by_cases hu:u=[]
     ·subst hu;simp at hw
     ·obtain⟨z,hz⟩:=List.exists_mem_of_ne_nil u hu
      have:=h z hz;omega
    | some z=>have:=h z (List.mem_of_getElem? hg);simp;omega) v hv
  simp only[List.length_cons]
  omega
theorem Zyl (u:List Int) (i:Nat) (v:Int):(u.map YL).set i (J v)=(u.set i v).map YL:=(List.map_set (f:=YL) (l:=u) (i:=i) (a:=v)).symm
theorem rep_int (n:Nat):List.replicate n (D.int .i64 0)=(List.replicate n (0:Int)).map YL:=by simp[YL]
def ZnR (k:XJ) (p:Zj):List Int:=Zic (List.replicate k.Panes.length 0) ((UK k p).filterMap Zhr)
theorem Zvo {k:XJ} {p:Zj} (hv:ZgG k p=true):(ZnR k p).length=k.Panes.length∧∀ v∈ZnR k p,0≤v∧v≤255:=by
 obtain⟨b,hb,hpb,hvw,hcnt,hfit,hpt⟩:=UL hv
 have hl:((UK k p).filterMap Zhr).length≤255:=by
  have:=List.length_filterMap_le Zhr (UK k p)
  rw[hpt,ZiE] at this
  rw[hpt]
  omega
 refine⟨by unfold ZnR;rw[Zsx];simp,fun v h=>?_⟩
 have:=Zsy _ _ 0 (fun w hw=>by rw[List.eq_of_mem_replicate hw];omega) v h
 omega
theorem Zvp (kW kH:Int) (kP:List Pane) (p:Zj) (hv:ZgG (XJ.mk kW kH kP) p=true):Zh Xs Ms Zb6 [(.d (.agg [J kW,J kH,.sl (kP.map Pane.enc)])),.d p.enc] []=some (.own 0,[.row 1 ((ZnR (XJ.mk kW kH kP) p).map YL) true false]):=by
 obtain⟨b,hb,hpb,hvw,hcnt,hfit,hpt⟩:=UL hv
 simp only at hfit hpt
 have e:=Zki kW kH kP p b hpb (by simp only[VW,inB] at hvw ⊢;omega) hfit (by omega)
 have hpn:=Zi0 (x:=0) (y:=0) hfit
 have hkl:kP.length≤24:=hvw.2.2.2.2.1
 have hln:(plc b 0 0 kW kH).length≤255:=by
  have:=List.length_filterMap_le Zhr (UK (XJ.mk kW kH kP) p)
  rw[hpt,ZiE,ZgE] at this
  omega
 unfold ZnR
 rw[hpt,ZgE]
 generalize plc b 0 0 kW kH=L at e hpn hln ⊢
 have hmk:(kP.length:Int)*((8:Nat):Int)≤((140737488355328:Nat):Int)∧kP.length≤140737488355328:=by omega
 have hmk2:(kP.length:Int)*8≤140737488355328∧(kP.length:Int)≤140737488355328:=by omega
 clear hv hb hpb hvw hpt hfit
 obtain⟨o,a,q,t,ks⟩:=p
 rw[Zj.enc_mk] at e ⊢
 refine Zb Xs Ms ZeG ZxF (by show 2≤_;decide) ?_
 simp +contextual -implicitDefEqProofs (maxSteps:=10^7) only[go_sem,seval,↓gZ,ZeG,e,rep_int,hmk,hmk2]
 refine ZQ Xs Ms (st0:=?st0) (α:=Nat×List Int) (fun s=>[(7,.d (J (s.1:Int)))]) (fun s=>[(1,.row 1 (s.2.map YL) true false)]) (fun s=>s.1≤L.length∧s.2.length=kP.length∧(∀ v∈s.2,0≤v∧v≤s.1)∧Zic s.2 (L.drop s.1)=Zic (List.replicate kP.length 0) L) (fun s=>L.length-s.1) (0,List.replicate kP.length 0) ?hc ⟨by simp,by simp,fun w hw=>by rw[List.eq_of_mem_replicate hw];simp,by simp⟩ ?h0 ?step
 case hc=>simp +contextual -implicitDefEqProofs (maxSteps:=10^7) only[go_sem,seval,↓gZ]<;>exact rfl
 case h0=>rfl
 case step=>
  intro⟨i,u⟩ ⟨hi,hul,huv,hp⟩ ih
  simp only at hi hul huv hp
  by_cases hlt:i<L.length
  ·obtain⟨x,hx⟩:=ZU hlt
   have hw:=Zm (k:=i) (by omega)
   obtain⟨n,hn,hnl⟩:=hpn x (List.mem_of_getElem? hx)
   rw[Zxk hx,hn] at hp
   obtain⟨q',t',⟨X,Y,W,H⟩⟩:=x
   simp only at hn
   subst hn
   have hnu:n<u.length:=by omega
   obtain⟨z,hz⟩:=ZU hnu
   have hzb:=huv z (List.mem_of_getElem? hz)
   have u1:=wi (z+1) (by omega) (by omega)
   rw[Int.toNat_natCast,hz] at hp
   simp +contextual -implicitDefEqProofs (maxSteps:=10^7) only[go_sem,seval,↓gZ,hx,hlt,hw,hnl,hnu,hz,u1,Zyl,hul]
   refine ih (i+1,u.set n (z+1)) _ ⟨by simp only;omega,by simpa using hul,fun v hv=>?_,hp⟩ (by simp only;omega) ?_
   ·simp only
    rcases List.mem_or_eq_of_mem_set hv with h1 | rfl
    ·have:=huv v h1;omega
    ·omega
   ·simp +contextual -implicitDefEqProofs (maxSteps:=10^7) only[go_sem,seval,↓gZ,List.headD_cons,Zyl]
  ·have:i=L.length:=by omega
   subst this
   rw[ZzJ] at hp
   simp +contextual -implicitDefEqProofs (maxSteps:=10^7) only[go_sem,seval,↓gZ,hp]
def Zq4:BT→Bool
 | .waste=>false
 | .pane _ _=>true
 | .cut _ _ l r=>Zq4 l || Zq4 r
theorem ZhI:∀ (b:BT),Zh Xs Ms WJ [.d b.plan.enc] []=some ((.d (.bool (Zq4 b))),[])
 | .waste=>by
  simp only[BT.plan,Zj.enc_mk]
  refine Zb Xs Ms V0 Zjj (by show 1≤_;decide) ?_
  simp +contextual -implicitDefEqProofs (maxSteps:=10^7) only[go_sem,seval,↓gZ,V0,XR,Zq4]
 | .pane i t=>by
  simp only[BT.plan,Zj.enc_mk]
  refine Zb Xs Ms V0 Zjj (by show 1≤_;decide) ?_
  simp +contextual -implicitDefEqProofs (maxSteps:=10^7) only[go_sem,seval,↓gZ,V0,XR,Zq4]
 | .cut d a l r=>by
  have e1:=ZhI l
  have e2:=ZhI r
  simp only[BT.plan,Zj.enc_mk]
  cases hb:Zq4 l<;>rw[hb] at e1<;>cases d <;>
  ·refine Zb Xs Ms V0 Zjj (by show 1≤_;decide) ?_
   simp +contextual -implicitDefEqProofs (maxSteps:=10^7) only[go_sem,seval,↓gZ,V0,XR,Zq4,Zby,e1,e2,hb,Bool.or_eq_true,Bool.true_or,Bool.false_or]
theorem Zq5 (kW kH:Int) (kP:List Pane) (p:Zj) (ZB:Int) (hv:ZgG (XJ.mk kW kH kP) p=true) (h1:1≤ZB) (h2:ZB≤200):Zh Xs Ms Jv [(.d (.agg [J kW,J kH,.sl (kP.map Pane.enc)])),.d p.enc,(.d (J ZB))] [] =
  some ((.d (J (Wj (Zpr (XJ.mk kW kH kP) p ZB)))),[]):=by
 obtain⟨b,hb,hpb,hvw,hcnt,hfit,hpt⟩:=UL hv
 have hkl:kP.length≤24:=hvw.2.2.2.2.1
 have ev:=ZiW kW kH kP p (by omega)
 rw[hv] at ev
 have er:=ZA ZB 1 200
 rw[decide_eq_true (show 1≤ZB∧ZB≤200 from ⟨h1,h2⟩)] at er
 simp only at hfit hpt
 have ep:=Zkj kW kH kP p b hpb (by simp only[VW,inB] at hvw ⊢;omega) hfit (by omega)
 have hbox:=ZmI hv
 have hlen:((UK (XJ.mk kW kH kP) p).filterMap ZdC).length≤255:=by
  have:=List.length_filterMap_le ZdC (UK (XJ.mk kW kH kP) p)
  rw[hpt,ZiE] at this
  rw[hpt]
  omega
 rw[← ZgF,← hpt] at ep
 unfold Zpr
 generalize (UK (XJ.mk kW kH kP) p).filterMap ZdC=L at ep hbox hlen ⊢
 clear hv hb hpb hvw hpt hfit
 obtain⟨o,a,n,t,ks⟩:=p
 rw[Zj.enc_mk] at ev ep ⊢
 refine Zb Xs Ms Zbn ZtZ (by show 3≤_;decide) ?_
 simp +contextual -implicitDefEqProofs (maxSteps:=10^7) only[go_sem,seval,↓gZ,Zbn,ev,ep,er]
 refine ZQ Xs Ms (st0:=?st0) (α:=Nat) (fun i=>[(9,.d (J (i:Int))),(7,.d (J (Wj ((L.take i).filterMap (Zh8 ZB)))))]) (fun _=>[]) (fun i=>i≤L.length) (fun i=>L.length-i) 0 ?hc (by omega) ?h0 ?step
 case hc=>simp +contextual -implicitDefEqProofs (maxSteps:=10^7) only[go_sem,seval,↓gZ];exact rfl
 case h0=>rfl
 case step=>
  intro i hi ih
  by_cases hlt:i<L.length
  ·obtain⟨x,hx⟩:=ZU hlt
   have hw:=Zm (k:=i) (by omega)
   have hm:=Zlz (f:=Zh8 ZB) hx
   have hbx:=hbox x (List.mem_of_getElem? hx)
   have ha:=Zps (l:=(L.take i).filterMap (Zh8 ZB)) (fun c hc=>by
    obtain⟨d,hd,hdc⟩:=List.mem_filterMap.1 hc
    unfold Zh8 at hdc
    split at hdc
    ·cases hdc;exact hbox c (List.mem_of_mem_take hd)
    ·cases hdc)
   have hlk:((L.take i).filterMap (Zh8 ZB)).length≤i:=Nat.le_trans (List.length_filterMap_le _ _) (by simp;omega)
   have hax:=ZlD hbx
   obtain⟨X,Y,W,H⟩:=x
   simp only at hax
   have w0:=wi (W*H) (by omega) (by omega)
   have w1:=wi (Wj ((L.take i).filterMap (Zh8 ZB))+W*H) (by omega) (by omega)
   have es:=Zem X Y W H ZB
   simp only[Zh8] at hm
   by_cases ho:W<ZB∨H<ZB
   ·rw[if_pos ho] at hm
    rw[decide_eq_false (show ¬(ZB≤W∧ZB≤H) by omega)] at es
    simp +contextual -implicitDefEqProofs (maxSteps:=10^7) only[go_sem,seval,↓gZ,hx,hlt,hw,es,w0,w1]
    refine ih (i+1) _ (by omega) (by omega) ?_
    simp +contextual -implicitDefEqProofs (maxSteps:=10^7) only[go_sem,seval,↓gZ,hm,Zhs,Option.toList,Wj]
    first | rfl | (simp;done) | (simp;rfl)
   ·rw[if_neg ho] at hm
    rw[decide_eq_true (show ZB≤W∧ZB≤H by omega)] at es
    simp +contextual -implicitDefEqProofs (maxSteps:=10^7) only[go_sem,seval,↓gZ,hx,hlt,hw,es]
    refine ih (i+1) _ (by omega) (by omega) ?_
    simp +contextual -implicitDefEqProofs (maxSteps:=10^7) only[go_sem,seval,↓gZ,hm,Option.toList,List.append_nil]
  ·have:i=L.length:=by omega
   subst this
   simp +contextual -implicitDefEqProofs (maxSteps:=10^7) only[go_sem,seval,↓gZ]
   simp
def Zdt:List Pane→List Int→List Zi→List Zi→Option (List Zi×List Zi)
 | p :: ps,c :: us,o,d=>if c=0 then Zdt ps us o d else if Zau p c false o=true then Zdt ps us (ZbB o p c) (Zcy p c d) else none
 | [],_,o,d=>some (o,d)
 | _,[],o,d=>some (o,d)
theorem Zxl {ps:List Pane} {us:List Int} {o d:List Zi} {k:Nat} {p:Pane} {c:Int} (hp:ps[k]?=some p) (hu:us[k]?=some c):Zdt (ps.drop k) (us.drop k) o d=if c=0 then Zdt (ps.drop (k+1)) (us.drop (k+1)) o d else if Zau p c false o=true then Zdt (ps.drop (k+1)) (us.drop (k+1)) (ZbB o p c) (Zcy p c d) else none:=by
 obtain⟨h1,h2⟩:=List.getElem?_eq_some_iff.1 hp
 obtain⟨h3,h4⟩:=List.getElem?_eq_some_iff.1 hu
 rw[List.drop_eq_getElem_cons h1,h2,List.drop_eq_getElem_cons h3,h4,Zdt]
theorem ZzK {ps:List Pane} {us:List Int} {o d:List Zi}:Zdt (ps.drop ps.length) us o d=some (o,d):=by
 rw[List.drop_length];unfold Zdt;rfl
theorem ZzL {l:List Zi} {p:Pane} {c hi:Int} (hc:0≤c) (h:∀ x∈l,x.Count≤hi):∀ y∈ZbB l p c,0≤y.Count∧y.Count≤hi:=fun y hy=>by
 obtain⟨x,hx,e⟩:=List.mem_filterMap.1 hy
 have:=h x hx
 unfold Zsv at e
 split at e
 ·split at e
  ·cases e;simp only;omega
  ·cases e
 ·split at e
  ·cases e;omega
  ·cases e
theorem Zvq {p:Pane} {c hi:Int} (hc:0≤c) (hh:0≤hi):∀ {l:List Zi},(∀ x∈l,0≤x.Count∧x.Count≤hi)→∀ y∈Zcy p c l,0≤y.Count∧y.Count≤hi+c
 | [],h,y,hy=>by simp[Zcy] at hy;subst hy;simp only;omega
 | x :: l,h,y,hy=>by
  have h1:=h x (by simp)
  unfold Zcy at hy
  split at hy
  ·rcases List.mem_cons.1 hy with rfl | hy
   ·simp only;omega
   ·have:=h y (by simp[hy]);omega
  ·rcases List.mem_cons.1 hy with rfl | hy
   ·omega
   ·exact Zvq hc hh (fun z hz=>h z (by simp[hz])) y hy
def hasP (p:Zj):Bool:=match Xi p with
 | some b=>Zq4 b
 | none=>false
def Zq6 (s:Z9) (e:Zl):Option Z9:=
 match s.Stock[(UF 0 s.Stock e.label).toNat]? with
 | none=>none
 | some x=>match ZlZ s.Stock e.label ⟨x.W,x.H,s.Opn.map Zi.Pane⟩ e.plan 5 with
  | none=>none
  | some R=>if hasP e.plan=true then
    match Zdt (s.Opn.map Zi.Pane) (ZnR ⟨x.W,x.H,s.Opn.map Zi.Pane⟩ e.plan) s.Opn s.Done with
    | none=>none
    | some (o,d)=>some ⟨R,o,d,s.Lost+Wj (Zpr ⟨x.W,x.H,s.Opn.map Zi.Pane⟩ e.plan 5),s.Came⟩
   else none
def shV:Option Z9→AV×List Zo
 | some s=>(.tup [.agg [.own 0,.own 1,.own 2,(.d (J (s.Lost))),(.d (J (s.Came)))],(.d (.bool true))],[.row 4 (s.Stock.map Zd.enc) true false,.row 5 (s.Opn.map Zi.enc) true false,.row 5 (s.Done.map Zi.enc) true false])
 | none=>(.tup [.agg [.own 0,.own 1,.own 2,(.d (J 0)),(.d (J 0))],(.d (.bool false))],[.row 4 [] true false,.row 5 [] true false,.row 5 [] true false])
theorem ZzM {l:List Zd} {n:Int} {k:XJ} {p:Zj} {ZB:Int} (h:UF 0 l n<0):ZlZ l n k p ZB=none:=by
 unfold ZlZ
 rw[if_neg (fun h'=>by omega)]
theorem Zvr {l:List Zd} {n:Int} {k:XJ} {p:Zj} {ZB:Int} {R:List Zd} (h:ZlZ l n k p ZB=some R):ZgG k p=true∧VSt R∧VSt l:=by
 unfold ZlZ at h
 split at h
 ·rename_i hc
  split at h
  ·rename_i x hx
   split at h
   ·rename_i hg
    cases h
    exact⟨hg.1.1,hg.2,hc.1⟩
   ·cases h
  ·cases h
 ·cases h
def WSh (s:Z9):Prop:=VSt s.Stock∧s.Opn.length≤9∧(∀ x∈s.Opn,VP x.Pane∧0≤x.Count∧x.Count≤24)∧Zj1 s.Done∧-1≤s.Lost∧s.Lost≤900001∧-1≤s.Came∧s.Came≤900001
theorem Zoz {s:Z9} (h:Wf s):WSh s:=⟨h.1,by have:=h.2.1.1;omega,fun x hx=>by have:=Zep h.2.1 x hx;exact⟨this.1,by omega,this.2.2⟩,h.2.2.1,by have:=h.2.2.2;omega,by have:=h.2.2.2;omega,by have:=h.2.2.2;omega,by have:=h.2.2.2;omega⟩
theorem Zym {s:Z9} (h:WSh s):SmS s:=by
 obtain⟨h1,h2,_,h3,h4,h5,h6,h7⟩:=h
 exact⟨⟨by have:=h1.1;omega,fun x hx=>⟨(ZjQ h1).2 x hx,Zl0 (X8 h1.2 x hx)⟩,by omega,by have:=h3.1;omega⟩,by have:=h1.1;omega,by omega,by omega,by omega,by omega⟩
theorem Zq7 (sS:List Zd) (sO sD:List Zi) (sL sC:Int) (eK eL eX eY eW eH epW epH:Int) (epT:Bool) (epK eC eo ea ep:Int) (et:Bool) (ek:List Zj) (hv:WSh (Z9.mk sS sO sD sL sC)):Zh Xs Ms Js [(.d (.agg [.sl (sS.map Zd.enc),.sl (sO.map Zi.enc),.sl (sD.map Zi.enc),J sL,J sC])),(.d (.agg [J eK,J eL,J eX,J eY,J eW,J eH,J epW,J epH,.bool epT,J epK,J eC,J eo,J ea,J ep,.bool et,.sl (ek.map Zj.enc)]))] []=some (shV (Zq6 (Z9.mk sS sO sD sL sC) (Zl.mk eK eL (Box.mk eX eY eW eH) (Zi.mk (Pane.mk epW epH epT epK) eC) (Zj.mk eo ea ep et ek)))):=by
 obtain⟨⟨h1,h2,h3,h4⟩,h5,h6,h7,h8,h9⟩:=Zym hv
 simp only at h1 h2 h3 h4 h5 h6 h7 h8 h9
 have hO9:=hv.2.1
 have hO:=hv.2.2.1
 have hD:=hv.2.2.2.1
 simp only at hO hD hO9
 have hD8:=hD.1
 have e1:=Vm sS eL (by omega)
 by_cases hf:UF 0 sS eL<0
 ·have ec:Zq6 (Z9.mk sS sO sD sL sC) (Zl.mk eK eL (Box.mk eX eY eW eH) (Zi.mk (Pane.mk epW epH epT epK) eC) (Zj.mk eo ea ep et ek))=none:=by
   unfold Zq6
   simp only
   split
   ·rfl
   ·rw[ZzM hf]
  rw[ec]
  unfold shV
  refine Zb Xs Ms X3 ZdL (by show 2≤_;decide) ?_
  simp +contextual -implicitDefEqProofs (maxSteps:=10^7) only[go_sem,seval,↓gZ,X3,e1,hf]
 ·obtain⟨a,x,ha,hx⟩:=Zp4 (by omega:0≤UF 0 sS eL)
  rw[ha] at e1
  have ha0:¬(a:Int)<0:=by omega
  have hlt:=(List.getElem?_eq_some_iff.1 hx).1
  have e3:=Zq1 sS eL x.W x.H (sO.map Zi.Pane) (.mk eo ea ep et ek) 5 (by have:=hv.1.1;simp only at this;omega) (fun y hy=>by
   have:=X8 hv.1.2 y hy
   exact⟨this.1.2.2.2.2.2.2,Zl0 this⟩) (by simp;omega)
  have ecs:Zq6 (Z9.mk sS sO sD sL sC) (Zl.mk eK eL (Box.mk eX eY eW eH) (Zi.mk (Pane.mk epW epH epT epK) eC) (Zj.mk eo ea ep et ek))=match ZlZ sS eL ⟨x.W,x.H,sO.map Zi.Pane⟩ (.mk eo ea ep et ek) 5 with
   | none=>none
   | some R=>if hasP (.mk eo ea ep et ek)=true then
     match Zdt (sO.map Zi.Pane) (ZnR ⟨x.W,x.H,sO.map Zi.Pane⟩ (.mk eo ea ep et ek)) sO sD with
     | none=>none
     | some (o,d)=>some ⟨R,o,d,sL+Wj (Zpr ⟨x.W,x.H,sO.map Zi.Pane⟩ (.mk eo ea ep et ek) 5),sC⟩
    else none:=by
   unfold Zq6
   simp only[ha,Int.toNat_natCast,hx]
  rw[ecs]
  clear ecs
  obtain⟨xL,xW,xH,xF⟩:=x
  simp only at e3 ⊢
  have e2:=Zvn sS sO sD sL sC a xL xW xH xF hx h3 h1
  cases hcs:ZlZ sS eL ⟨xW,xH,sO.map Zi.Pane⟩ (.mk eo ea ep et ek) 5 with
  | none=>
   rw[hcs] at e3
   unfold ZtE at e3
   simp only
   unfold shV
   rw[Zj.enc_mk] at e3
   refine Zb Xs Ms X3 ZdL (by show 2≤_;decide) ?_
   simp +contextual -implicitDefEqProofs (maxSteps:=10^7) only[go_sem,seval,↓gZ,X3,e1,ha0,e2,e3]
  | some R=>
   obtain⟨hvp,hvR,_⟩:=Zvr hcs
   rw[hcs] at e3
   unfold ZtE at e3
   simp only
   obtain⟨b,hb,hpb,hvw,hcnt,hfit,hpt⟩:=UL hvp
   have e4:=ZhI b
   rw[← hpb] at e4
   have hh:hasP (.mk eo ea ep et ek)=Zq4 b:=by unfold hasP;rw[hb]
   rw[hh]
   have e5:=Zq5 xW xH (sO.map Zi.Pane) (.mk eo ea ep et ek) 5 hvp (by omega) (by omega)
   have e6:=Zvp xW xH (sO.map Zi.Pane) (.mk eo ea ep et ek) hvp
   have hu:=Zvo hvp
   have hla:=Zps (l:=Zpr ⟨xW,xH,sO.map Zi.Pane⟩ (.mk eo ea ep et ek) 5) (fun c hc=>by
    obtain⟨z,hz,hzc⟩:=List.mem_filterMap.1 hc
    unfold Zh8 at hzc
    split at hzc
    ·cases hzc;exact ZmI hvp c hz
    ·cases hzc)
   have hll:(Zpr ⟨xW,xH,sO.map Zi.Pane⟩ (.mk eo ea ep et ek) 5).length≤255:=by
    refine Nat.le_trans (List.length_filterMap_le _ _) (Nat.le_trans (List.length_filterMap_le _ _) ?_)
    rw[hpt,ZiE];exact hcnt
   generalize Wj (Zpr ⟨xW,xH,sO.map Zi.Pane⟩ (.mk eo ea ep et ek) 5)=A at e5 hla ⊢
   generalize ZnR ⟨xW,xH,sO.map Zi.Pane⟩ (.mk eo ea ep et ek)=us at e6 hu ⊢
   rw[Zj.enc_mk] at e3 e4 e5 e6
   simp only[List.length_map] at hu
   have u1:=wi (sL+A) (by omega) (by omega)
   have r1:sO.length*40≤140737488355328∧sO.length≤140737488355328:=by omega
   have r2:sD.length*40≤140737488355328∧sD.length≤140737488355328:=by omega
   cases hhb:Zq4 b with
   | false=>
    rw[hhb] at e4
    rw[if_neg (by simp)]
    unfold shV
    refine Zb Xs Ms X3 ZdL (by show 2≤_;decide) ?_
    simp +contextual -implicitDefEqProofs (maxSteps:=10^7) only[go_sem,seval,↓gZ,X3,e1,ha0,e2,e3,e4]
   | true=>
    rw[hhb] at e4
    rw[if_pos rfl]
    refine Zb Xs Ms X3 ZdL (by show 2≤_;decide) ?_
    simp +contextual -implicitDefEqProofs (maxSteps:=10^7) only[go_sem,seval,↓gZ,X3,ZmM,e1,ha0,e2,e3,e4,e5,e6,u1,r1,r2]
    refine ZQ Xs Ms (st0:=?st0) (α:=Nat×List Zi×List Zi) (fun s=>[(12,.d (J (s.1:Int)))]) (fun s=>[(5,.row 5 (s.2.1.map Zi.enc) true false),(6,.row 5 (s.2.2.map Zi.enc) true false)]) (fun s=>s.1≤us.length∧Zdt ((sO.map Zi.Pane).drop s.1) (us.drop s.1) s.2.1 s.2.2=Zdt (sO.map Zi.Pane) us sO sD∧s.2.1.length≤9∧s.2.2.length≤8+s.1∧(∀ x∈s.2.1,0≤x.Count∧x.Count≤24)∧(∀ x∈s.2.2,0≤x.Count∧x.Count≤24+255*(s.1:Int))) (fun s=>us.length-s.1) (0,sO,sD) ?hc ⟨by simp,by simp,hO9,by simp only;omega,fun x hx=>by have:=hO x hx;omega,fun x hx=>by have:=Zep hD x hx;simp only;omega⟩ ?h0 ?step
    case hc=>simp +contextual -implicitDefEqProofs (maxSteps:=10^7) only[go_sem,seval,↓gZ]<;>exact rfl
    case h0=>rfl
    case step=>
     intro⟨i,o,d⟩ ⟨hi,hp,ho8,hd8,hoc,hdc⟩ ih
     simp only at hi hp ho8 hd8 hoc hdc
     by_cases hil:i<us.length
     ·obtain⟨c,hc⟩:=ZU hil
      have hiO:i<sO.length:=by omega
      obtain⟨y,hy⟩:=ZU hiO
      have hw:=Zm (k:=i) (by omega)
      have hcb:=hu.2 c (List.mem_of_getElem? hc)
      have hpy:(sO.map Zi.Pane)[i]?=some y.Pane:=by rw[List.getElem?_map,hy];rfl
      rw[Zxl hpy hc] at hp
      obtain⟨⟨W,H,T,K⟩,C⟩:=y
      simp only at hp hpy
      by_cases hc0:c=0
      ·rw[if_pos hc0] at hp
       simp +contextual -implicitDefEqProofs (maxSteps:=10^7) only[go_sem,seval,↓gZ,hil,hc,hc0,hw]
       refine ih (i+1,o,d) _ ⟨by simp only;omega,hp,ho8,by simp only;omega,hoc,fun x hx=>by have:=hdc x hx;simp only;omega⟩ (by simp only;omega) ?_
       simp +contextual -implicitDefEqProofs (maxSteps:=10^7) only[go_sem,seval,↓gZ]
      ·rw[if_neg hc0] at hp
       have et:=ZiZ o W H T K c (by omega) (fun x hx=>by have:=hoc x hx;unfold R64;omega)
       have ea:=ZfL d W H T K c (by omega) (fun x hx=>by have:=hdc x hx;unfold R64;omega)
       by_cases hto:Zau ⟨W,H,T,K⟩ c false o=true
       ·rw[if_pos hto] at hp
        rw[hto] at et
        simp +contextual -implicitDefEqProofs (maxSteps:=10^7) only[go_sem,seval,↓gZ,hil,hc,hc0,hw,hiO,hy,hpy,et,ea]
        refine ih (i+1,ZbB o ⟨W,H,T,K⟩ c,Zcy ⟨W,H,T,K⟩ c d) _ ⟨by simp only;omega,hp,Nat.le_trans (List.length_filterMap_le _ _) ho8,Nat.le_trans (ZiY _ _ _) (by simp only;omega),ZzL hcb.1 (fun x hx=>(hoc x hx).2),fun x hx=>?_⟩ (by simp only;omega) ?_
        ·have:=Zvq hcb.1 (by omega) hdc x hx
         simp only
         omega
        ·simp +contextual -implicitDefEqProofs (maxSteps:=10^7) only[go_sem,seval,↓gZ]
       ·rw[if_neg hto] at hp
        simp only[Bool.not_eq_true] at hto
        rw[hto] at et
        simp +contextual -implicitDefEqProofs (maxSteps:=10^7) only[go_sem,seval,↓gZ,hil,hc,hc0,hw,hiO,hy,hpy,et,ea]
        rw[← hp]
        rfl
     ·have:i=sO.length:=by omega
      subst this
      have hce:=@ZzK (sO.map Zi.Pane) (us.drop sO.length) o d
      rw[List.length_map] at hce
      rw[hce] at hp
      rw[← hp]
      simp +contextual -implicitDefEqProofs (maxSteps:=10^7) only[go_sem,seval,↓gZ,hil]
      rfl
def ZzN (l:List Zd) (n:Int):Option (Nat×Zd):=if 0≤UF 0 l n then (l[(UF 0 l n).toNat]?).map (fun x=>((UF 0 l n).toNat,x)) else none
theorem ZzO {l:List Zd} {n:Int} (h:UF 0 l n<0):ZzN l n=none:=by unfold ZzN;rw[if_neg (by omega)]
theorem ZzP {l:List Zd} {n:Int} {a:Nat} {x:Zd} (h:UF 0 l n=(a:Int)) (hx:l[a]?=some x):ZzN l n=some (a,x):=by
 unfold ZzN
 rw[h,if_pos (by omega),Int.toNat_natCast,hx];rfl
def evS (s:Z9) (e:Zl):Option Z9:=
 if e.kind=0 then (if (ZgO ⟨e.label,e.box.W,e.box.H,[]⟩ s.Stock∧e.box.X=0)∧e.box.Y=0 then some { s with Stock:=VR ⟨e.label,e.box.W,e.box.H,[]⟩ s.Stock,Came:=s.Came+e.box.W*e.box.H } else none)
 else if e.kind=1 then (match ZzN s.Stock e.label with
  | none=>none
  | some (a,q)=>if ZgO { q with Flaws:=q.Flaws++[e.box] } (s.Stock.eraseIdx a) then some { s with Stock:=VR { q with Flaws:=q.Flaws++[e.box] } (s.Stock.eraseIdx a) } else none)
 else if e.kind=5 then (match ZzN s.Stock e.label with
  | none=>none
  | some (a,q)=>some { s with Stock:=s.Stock.eraseIdx a,Lost:=s.Lost+q.W*q.H })
 else if e.kind=2 then (if ZnQ e.line then some { s with Opn:=Zcy e.line.Pane e.line.Count s.Opn } else none)
 else if e.kind=4 then (if ZnQ e.line∧Zau e.line.Pane e.line.Count false s.Done=true then some { s with Opn:=Zcy e.line.Pane e.line.Count s.Opn,Done:=ZbB s.Done e.line.Pane e.line.Count,Lost:=s.Lost+e.line.Count*e.line.Pane.W*e.line.Pane.H } else none)
 else if e.kind=3 then Zq6 s e
 else none
def ZgP (t:Option Z9):Option Z9:=match t with
 | some t=>if Wf t then some t else none
 | none=>none
def Jh (s:Z9) (e:Zl):Option Z9:=ZgP (evS s e)
theorem Zp7 {s t:Z9} {e:Zl} (h:Jh s e=some t):Wf t:=by
 unfold Jh ZgP at h
 split at h
 ·split at h
  ·cases h;assumption
  ·cases h
 ·cases h
theorem ZgQ {s t:Z9} (h:ZcU s) (ho:t.Opn.length≤1000000) (hd:t.Done.length≤1000000) (hs:VSt t.Stock):ZcU t:=
 ⟨by have:=hs.1;omega,fun x hx=>⟨(ZjQ hs).2 x hx,Zl0 (X8 hs.2 x hx)⟩,ho,hd⟩
theorem ZDh {s t:Z9} {e:Zl} (hv:WSh s) (h:Zq6 s e=some t):VSt t.Stock∧t.Opn.length≤9∧t.Done.length≤1000000:=by
 have hgo:∀ (ps:List Pane) (us:List Int) (o d o' d' : List Zi),Zdt ps us o d=some (o',d')→o'.length≤o.length∧d'.length≤d.length+ps.length:=by
  intro ps
  induction ps with
  | nil=>intro us o d o' d' h;unfold Zdt at h;cases h;simp
  | cons p ps ih=>
   intro us o d o' d' h
   cases us with
   | nil=>unfold Zdt at h;cases h;simp
   | cons c us=>
    rw[Zdt] at h
    split at h
    ·have:=ih _ _ _ _ _ h;simp;omega
    ·split at h
     ·have:=ih _ _ _ _ _ h
      have h2:=List.length_filterMap_le (Zsv p c) o
      have h3:=ZiY p c d
      unfold ZbB at this
      simp;omega
     ·cases h
 unfold Zq6 at h
 split at h
 ·cases h
 ·split at h
  ·cases h
  ·rename_i R hR
   obtain⟨_,hvR,_⟩:=Zvr hR
   split at h
   ·split at h
    ·cases h
    ·rename_i o d hg
     cases h
     have:=hgo _ _ _ _ _ _ hg
     have h8:=hv.2.1
     have h9:=hv.2.2.2.1.1
     rw[List.length_map] at this
     exact⟨hvR,by simp only;omega,by simp only;omega⟩
   ·cases h
theorem ZbV (sS:List Zd) (sO sD:List Zi) (sL sC:Int) (eK eL eX eY eW eH epW epH:Int) (epT:Bool) (epK eC eo ea ep:Int) (et:Bool) (ek:List Zj) (hv:WSh (Z9.mk sS sO sD sL sC)) (k3:eK=3):Zh Xs Ms YI [(.d (.agg [.sl (sS.map Zd.enc),.sl (sO.map Zi.enc),.sl (sD.map Zi.enc),J sL,J sC])),(.d (.agg [J eK,J eL,J eX,J eY,J eW,J eH,J epW,J epH,.bool epT,J epK,J eC,J eo,J ea,J ep,.bool et,.sl (ek.map Zj.enc)]))] []=some (shV (Jh (Z9.mk sS sO sD sL sC) (Zl.mk eK eL (Box.mk eX eY eW eH) (Zi.mk (Pane.mk epW epH epT epK) eC) (Zj.mk eo ea ep et ek)))):=by
 have hsm:=(Zym hv).1
 have hpe:=Zq7 sS sO sD sL sC eK eL eX eY eW eH epW epH epT epK eC eo ea ep et ek hv
 subst k3
 have ee:Jh (Z9.mk sS sO sD sL sC) (Zl.mk 3 eL ⟨eX,eY,eW,eH⟩ ⟨⟨epW,epH,epT,epK⟩,eC⟩ (.mk eo ea ep et ek))=ZgP (Zq6 (Z9.mk sS sO sD sL sC) (Zl.mk 3 eL ⟨eX,eY,eW,eH⟩ ⟨⟨epW,epH,epT,epK⟩,eC⟩ (.mk eo ea ep et ek))):=by
  unfold Jh evS
  simp
 rw[ee]
 have hcsm:=fun t=>ZDh (t:=t) (e:=Zl.mk 3 eL ⟨eX,eY,eW,eH⟩ ⟨⟨epW,epH,epT,epK⟩,eC⟩ (.mk eo ea ep et ek)) hv
 cases hc:Zq6 (Z9.mk sS sO sD sL sC) (Zl.mk 3 eL ⟨eX,eY,eW,eH⟩ ⟨⟨epW,epH,epT,epK⟩,eC⟩ (.mk eo ea ep et ek)) with
 | none=>
  rw[hc] at hpe
  unfold ZgP shV at *
  simp only
  refine Zb Xs Ms Zk ZW (by show 2≤_;decide) ?_
  simp +contextual -implicitDefEqProofs (maxSteps:=10^7) only[go_sem,seval,↓gZ,Zk,hpe]
 | some t=>
  obtain⟨g1,g2,g3⟩:=hcsm t hc
  rw[hc] at hpe
  have hst:ZcU t:=ZgQ hsm (by omega) g3 g1
  obtain⟨tS,tO,tD,tL,tC⟩:=t
  have e1:=Wt _ _ _ _ _ hst
  have e2:=Uh _ _ _ _ _ hst
  unfold ZgP
  unfold shV at hpe
  simp only at hpe
  by_cases hvt:Wf (Z9.mk tS tO tD tL tC)
  ·rw[decide_eq_true hvt] at e1
   simp only[if_pos hvt]
   unfold shV
   refine Zb Xs Ms Zk ZW (by show 2≤_;decide) ?_
   simp +contextual -implicitDefEqProofs (maxSteps:=10^7) only[go_sem,seval,↓gZ,Zk,hpe,e1,e2]
  ·rw[decide_eq_false hvt] at e1
   simp only[if_neg hvt]
   unfold shV
   refine Zb Xs Ms Zk ZW (by show 2≤_;decide) ?_
   simp +contextual -implicitDefEqProofs (maxSteps:=10^7) only[go_sem,seval,↓gZ,Zk,hpe,e1]
theorem Zid (sS:List Zd) (sO sD:List Zi) (sL sC:Int) (eK eL eX eY eW eH epW epH:Int) (epT:Bool) (epK eC eo ea ep:Int) (et:Bool) (ek:List Zj) (hv:Wf (Z9.mk sS sO sD sL sC)) (hW:eK=0→I5 eW) (hH:eK=0→I5 eH):Zh Xs Ms YI [(.d (.agg [.sl (sS.map Zd.enc),.sl (sO.map Zi.enc),.sl (sD.map Zi.enc),J sL,J sC])),(.d (.agg [J eK,J eL,J eX,J eY,J eW,J eH,J epW,J epH,.bool epT,J epK,J eC,J eo,J ea,J ep,.bool et,.sl (ek.map Zj.enc)]))] []=some (shV (Jh (Z9.mk sS sO sD sL sC) (Zl.mk eK eL (Box.mk eX eY eW eH) (Zi.mk (Pane.mk epW epH epT epK) eC) (Zj.mk eo ea ep et ek)))):=by
 have hS:=Zsw hv
 have hsm:=hS.1
 have hO8:=hv.2.1.1
 have hD8:=hv.2.2.1.1
 simp only at hO8 hD8
 by_cases k0:eK=0
 ·have hpe:=ZkU sS sO sD sL sC eK eL eX eY eW eH epW epH epT epK eC eo ea ep et ek hS k0 (hW k0) (hH k0)
  rw[k0] at hpe
  by_cases hr:(ZgO ⟨eL,eW,eH,[]⟩ sS∧eX=0)∧eY=0
  ·have ee:Jh (Z9.mk sS sO sD sL sC) (Zl.mk eK eL (Box.mk eX eY eW eH) (Zi.mk (Pane.mk epW epH epT epK) eC) (Zj.mk eo ea ep et ek))=ZgP (some (Z9.mk (VR ⟨eL,eW,eH,[]⟩ sS) sO sD sL (sC+eW*eH))):=by unfold Jh evS;simp only[k0,hr,if_true,and_self]
   rw[ee]
   rw[decide_eq_true hr,if_pos hr.1.1] at hpe
   have hst:ZcU (Z9.mk (VR ⟨eL,eW,eH,[]⟩ sS) sO sD sL (sC+eW*eH)):=ZgQ hsm (by simp only;omega) (by simp only;omega) hr.1.1.2
   have e1:=Wt _ _ _ _ _ hst
   have e2:=Uh _ _ _ _ _ hst
   unfold ZgP
   generalize VR ⟨eL,eW,eH,[]⟩ sS=Q at hpe e1 e2 ⊢
   by_cases hvt:Wf (Z9.mk Q sO sD sL (sC+eW*eH))
   ·rw[decide_eq_true hvt] at e1
    simp only[if_pos hvt]
    unfold shV
    refine Zb Xs Ms Zk ZW (by show 2≤_;decide) ?_
    simp +contextual -implicitDefEqProofs (maxSteps:=10^7) only[go_sem,seval,↓gZ,Zk,k0,hpe,e1,e2]
   ·rw[decide_eq_false hvt] at e1
    simp only[if_neg hvt]
    unfold shV
    refine Zb Xs Ms Zk ZW (by show 2≤_;decide) ?_
    simp +contextual -implicitDefEqProofs (maxSteps:=10^7) only[go_sem,seval,↓gZ,Zk,k0,hpe,e1]
  ·have ee:Jh (Z9.mk sS sO sD sL sC) (Zl.mk eK eL (Box.mk eX eY eW eH) (Zi.mk (Pane.mk epW epH epT epK) eC) (Zj.mk eo ea ep et ek))=none:=by unfold Jh evS;simp only[k0,if_true];rw[if_neg hr];rfl
   rw[ee]
   rw[decide_eq_false hr] at hpe
   unfold shV
   refine Zb Xs Ms Zk ZW (by show 2≤_;decide) ?_
   simp +contextual -implicitDefEqProofs (maxSteps:=10^7) only[go_sem,seval,↓gZ,Zk,k0,hpe]
 ·by_cases k15:eK=1∨eK=5
  ·by_cases hf:UF 0 sS eL<0
   ·have hpe:=Zn8 sS sO sD sL sC eK eL eX eY eW eH epW epH epT epK eC eo ea ep et ek hS k0 hf
    have ee:Jh (Z9.mk sS sO sD sL sC) (Zl.mk eK eL (Box.mk eX eY eW eH) (Zi.mk (Pane.mk epW epH epT epK) eC) (Zj.mk eo ea ep et ek))=none:=by
     unfold Jh evS
     rcases k15 with k1 | k1<;>simp[k1,ZzO hf,ZgP]
    rw[ee]
    unfold shV
    refine Zb Xs Ms Zk ZW (by show 2≤_;decide) ?_
    rcases k15 with k1 | k1
    ·rw[k1] at hpe
     simp +contextual -implicitDefEqProofs (maxSteps:=10^7) only[go_sem,seval,↓gZ,Zk,k1,hpe]
    ·rw[k1] at hpe
     simp +contextual -implicitDefEqProofs (maxSteps:=10^7) only[go_sem,seval,↓gZ,Zk,k1,hpe]
   ·obtain⟨a,x,ha,hx⟩:=Zp4 (by omega:0≤UF 0 sS eL)
    have hpa:=ZzP ha hx
    obtain⟨xL,xW,xH,xF⟩:=x
    have hxv:=X8 hv.1.2 _ (List.mem_of_getElem? hx)
    by_cases k1:eK=1
    ·have hpe:=Zl1 sS sO sD sL sC eK eL eX eY eW eH epW epH epT epK eC eo ea ep et ek hv k1 a ha xL xW xH xF hx
     rw[k1] at hpe
     by_cases hr:ZgO ⟨xL,xW,xH,xF++[⟨eX,eY,eW,eH⟩]⟩ (sS.eraseIdx a)
     ·have ee:Jh (Z9.mk sS sO sD sL sC) (Zl.mk eK eL (Box.mk eX eY eW eH) (Zi.mk (Pane.mk epW epH epT epK) eC) (Zj.mk eo ea ep et ek))=ZgP (some (Z9.mk (VR ⟨xL,xW,xH,xF++[⟨eX,eY,eW,eH⟩]⟩ (sS.eraseIdx a)) sO sD sL sC)):=by
       unfold Jh evS
       simp[k1,hpa,hr]
      rw[ee]
      rw[decide_eq_true hr,if_pos hr] at hpe
      have hst:ZcU (Z9.mk (VR ⟨xL,xW,xH,xF++[⟨eX,eY,eW,eH⟩]⟩ (sS.eraseIdx a)) sO sD sL sC):=ZgQ hsm (by simp only;omega) (by simp only;omega) hr.2
      have e1:=Wt _ _ _ _ _ hst
      have e2:=Uh _ _ _ _ _ hst
      unfold ZgP
      generalize VR ⟨xL,xW,xH,xF++[⟨eX,eY,eW,eH⟩]⟩ (sS.eraseIdx a)=Q at hpe e1 e2 ⊢
      by_cases hvt:Wf (Z9.mk Q sO sD sL sC)
      ·rw[decide_eq_true hvt] at e1
       simp only[if_pos hvt]
       unfold shV
       refine Zb Xs Ms Zk ZW (by show 2≤_;decide) ?_
       simp +contextual -implicitDefEqProofs (maxSteps:=10^7) only[go_sem,seval,↓gZ,Zk,k1,hpe,e1,e2]
      ·rw[decide_eq_false hvt] at e1
       simp only[if_neg hvt]
       unfold shV
       refine Zb Xs Ms Zk ZW (by show 2≤_;decide) ?_
       simp +contextual -implicitDefEqProofs (maxSteps:=10^7) only[go_sem,seval,↓gZ,Zk,k1,hpe,e1]
     ·have ee:Jh (Z9.mk sS sO sD sL sC) (Zl.mk eK eL (Box.mk eX eY eW eH) (Zi.mk (Pane.mk epW epH epT epK) eC) (Zj.mk eo ea ep et ek))=none:=by
       unfold Jh evS
       simp[k1,hpa,hr,ZgP]
      rw[ee]
      rw[decide_eq_false hr] at hpe
      unfold shV
      refine Zb Xs Ms Zk ZW (by show 2≤_;decide) ?_
      simp +contextual -implicitDefEqProofs (maxSteps:=10^7) only[go_sem,seval,↓gZ,Zk,k1,hpe]
    ·have k5:eK=5:=by omega
     have hpe:=ZkV sS sO sD sL sC eK eL eX eY eW eH epW epH epT epK eC eo ea ep et ek hS k5 a ha xL xW xH xF hx (by have:=hxv.1;simp only at this;unfold I5;omega) (by have:=hxv.1;simp only at this;unfold I5;omega)
     rw[k5] at hpe
     have ee:Jh (Z9.mk sS sO sD sL sC) (Zl.mk eK eL (Box.mk eX eY eW eH) (Zi.mk (Pane.mk epW epH epT epK) eC) (Zj.mk eo ea ep et ek))=ZgP (some (Z9.mk (sS.eraseIdx a) sO sD (sL+xW*xH) sC)):=by
      unfold Jh evS
      simp[k5,hpa]
     rw[ee]
     have hst:ZcU (Z9.mk (sS.eraseIdx a) sO sD (sL+xW*xH) sC):=⟨by have:=Zp2 sS a;have:=hsm.1;simp only at this ⊢;omega,fun y hy=>hsm.2.1 y (List.mem_of_mem_eraseIdx hy),hsm.2.2⟩
     have e1:=Wt _ _ _ _ _ hst
     have e2:=Uh _ _ _ _ _ hst
     unfold ZgP
     generalize sS.eraseIdx a=Q at hpe e1 e2 ⊢
     by_cases hvt:Wf (Z9.mk Q sO sD (sL+xW*xH) sC)
     ·rw[decide_eq_true hvt] at e1
      simp only[if_pos hvt]
      unfold shV
      refine Zb Xs Ms Zk ZW (by show 2≤_;decide) ?_
      simp +contextual -implicitDefEqProofs (maxSteps:=10^7) only[go_sem,seval,↓gZ,Zk,k5,hpe,e1,e2]
     ·rw[decide_eq_false hvt] at e1
      simp only[if_neg hvt]
      unfold shV
      refine Zb Xs Ms Zk ZW (by show 2≤_;decide) ?_
      simp +contextual -implicitDefEqProofs (maxSteps:=10^7) only[go_sem,seval,↓gZ,Zk,k5,hpe,e1]
  ·have k1:¬eK=1:=fun h=>k15 (.inl h)
   have k5:¬eK=5:=fun h=>k15 (.inr h)
   by_cases k24:eK=2∨eK=4
   ·by_cases hl:ZnQ ⟨⟨epW,epH,epT,epK⟩,eC⟩
    ·by_cases k2:eK=2
     ·have hpe:=Zl2 sS sO sD sL sC eK eL eX eY eW eH epW epH epT epK eC eo ea ep et ek hv hl k2
      rw[k2] at hpe
      have ee:Jh (Z9.mk sS sO sD sL sC) (Zl.mk eK eL (Box.mk eX eY eW eH) (Zi.mk (Pane.mk epW epH epT epK) eC) (Zj.mk eo ea ep et ek))=ZgP (some (Z9.mk sS (Zcy ⟨epW,epH,epT,epK⟩ eC sO) sD sL sC)):=by
       unfold Jh evS
       simp[k2,hl]
      rw[ee]
      have hst:ZcU (Z9.mk sS (Zcy ⟨epW,epH,epT,epK⟩ eC sO) sD sL sC):=ZgQ hsm (Nat.le_trans (ZiY _ _ _) (by omega)) (by simp only;omega) hv.1
      have e1:=Wt _ _ _ _ _ hst
      have e2:=Uh _ _ _ _ _ hst
      unfold ZgP
      generalize Zcy ⟨epW,epH,epT,epK⟩ eC sO=Q at hpe e1 e2 ⊢
      by_cases hvt:Wf (Z9.mk sS Q sD sL sC)
      ·rw[decide_eq_true hvt] at e1
       simp only[if_pos hvt]
       unfold shV
       refine Zb Xs Ms Zk ZW (by show 2≤_;decide) ?_
       simp +contextual -implicitDefEqProofs (maxSteps:=10^7) only[go_sem,seval,↓gZ,Zk,k2,hpe,e1,e2]
      ·rw[decide_eq_false hvt] at e1
       simp only[if_neg hvt]
       unfold shV
       refine Zb Xs Ms Zk ZW (by show 2≤_;decide) ?_
       simp +contextual -implicitDefEqProofs (maxSteps:=10^7) only[go_sem,seval,↓gZ,Zk,k2,hpe,e1]
     ·have k4:eK=4:=by omega
      have hpe:=Zl3 sS sO sD sL sC eK eL eX eY eW eH epW epH epT epK eC eo ea ep et ek hv hl k2
      rw[k4] at hpe
      by_cases ht:Zau ⟨epW,epH,epT,epK⟩ eC false sD=true
      ·rw[ht] at hpe
       have ee:Jh (Z9.mk sS sO sD sL sC) (Zl.mk eK eL (Box.mk eX eY eW eH) (Zi.mk (Pane.mk epW epH epT epK) eC) (Zj.mk eo ea ep et ek))=ZgP (some (Z9.mk sS (Zcy ⟨epW,epH,epT,epK⟩ eC sO) (ZbB sD ⟨epW,epH,epT,epK⟩ eC) (sL+eC*epW*epH) sC)):=by
        unfold Jh evS
        simp[k4,hl,ht]
       rw[ee]
       have hst:ZcU (Z9.mk sS (Zcy ⟨epW,epH,epT,epK⟩ eC sO) (ZbB sD ⟨epW,epH,epT,epK⟩ eC) (sL+eC*epW*epH) sC):=ZgQ hsm (Nat.le_trans (ZiY _ _ _) (by omega)) (Nat.le_trans (List.length_filterMap_le _ _) (by omega)) hv.1
       have e1:=Wt _ _ _ _ _ hst
       have e2:=Uh _ _ _ _ _ hst
       unfold ZgP
       generalize Zcy ⟨epW,epH,epT,epK⟩ eC sO=Q at hpe e1 e2 ⊢
       generalize ZbB sD ⟨epW,epH,epT,epK⟩ eC=R at hpe e1 e2 ⊢
       by_cases hvt:Wf (Z9.mk sS Q R (sL+eC*epW*epH) sC)
       ·rw[decide_eq_true hvt] at e1
        simp only[if_pos hvt]
        unfold shV
        refine Zb Xs Ms Zk ZW (by show 2≤_;decide) ?_
        simp +contextual -implicitDefEqProofs (maxSteps:=10^7) only[go_sem,seval,↓gZ,Zk,k4,hpe,e1,e2]
       ·rw[decide_eq_false hvt] at e1
        simp only[if_neg hvt]
        unfold shV
        refine Zb Xs Ms Zk ZW (by show 2≤_;decide) ?_
        simp +contextual -implicitDefEqProofs (maxSteps:=10^7) only[go_sem,seval,↓gZ,Zk,k4,hpe,e1]
      ·have ee:Jh (Z9.mk sS sO sD sL sC) (Zl.mk eK eL (Box.mk eX eY eW eH) (Zi.mk (Pane.mk epW epH epT epK) eC) (Zj.mk eo ea ep et ek))=none:=by
        unfold Jh evS
        simp[k4,ht,ZgP]
       rw[ee]
       simp only[Bool.not_eq_true] at ht
       rw[ht] at hpe
       unfold shV
       refine Zb Xs Ms Zk ZW (by show 2≤_;decide) ?_
       simp +contextual -implicitDefEqProofs (maxSteps:=10^7) only[go_sem,seval,↓gZ,Zk,k4,hpe]
    ·have hpe:=Zn9 sS sO sD sL sC eK eL eX eY eW eH epW epH epT epK eC eo ea ep et ek hl
     have ee:Jh (Z9.mk sS sO sD sL sC) (Zl.mk eK eL (Box.mk eX eY eW eH) (Zi.mk (Pane.mk epW epH epT epK) eC) (Zj.mk eo ea ep et ek))=none:=by
      unfold Jh evS
      rcases k24 with k2 | k2<;>simp[k2,hl,ZgP]
     rw[ee]
     unfold shV
     refine Zb Xs Ms Zk ZW (by show 2≤_;decide) ?_
     rcases k24 with k2 | k2
     ·rw[k2] at hpe
      simp +contextual -implicitDefEqProofs (maxSteps:=10^7) only[go_sem,seval,↓gZ,Zk,k2,hpe]
     ·rw[k2] at hpe
      simp +contextual -implicitDefEqProofs (maxSteps:=10^7) only[go_sem,seval,↓gZ,Zk,k2,hpe]
   ·have k2:¬eK=2:=fun h=>k24 (.inl h)
    have k4:¬eK=4:=fun h=>k24 (.inr h)
    by_cases k3:eK=3
    ·exact ZbV sS sO sD sL sC eK eL eX eY eW eH epW epH epT epK eC eo ea ep et ek (Zoz hv) k3
    ·have ee:Jh (Z9.mk sS sO sD sL sC) (Zl.mk eK eL (Box.mk eX eY eW eH) (Zi.mk (Pane.mk epW epH epT epK) eC) (Zj.mk eo ea ep et ek))=none:=by
      unfold Jh evS
      simp[k0,k1,k5,k2,k4,k3,ZgP]
     rw[ee]
     unfold shV
     refine Zb Xs Ms Zk ZW (by show 2≤_;decide) ?_
     simp +contextual -implicitDefEqProofs (maxSteps:=10^7) only[go_sem,seval,↓gZ,Zk,k0,k1,k5,k2,k4,k3]
def Zvs (F:List Box) (W w h y:Int):Nat→Int→Option Box
 | 0,_=>none
 | n+1,x=>if x+w≤W then (if YQ F ⟨x,y,w,h⟩ then some ⟨x,y,w,h⟩ else Zvs F W w h y n (x+1)) else none
def Zvt (F:List Box) (W H w h:Int):Nat→Int→Option Box
 | 0,_=>none
 | n+1,y=>if y+h≤H then (match Zvs F W w h y (W.toNat+1) 0 with
  | some b=>some b
  | none=>Zvt F W H w h n (y+1)) else none
def Za9 (q:Zd) (w h:Int):Option Box:=Zvt q.Flaws q.W q.H w h (q.H.toNat+1) 0
theorem Zsz {F:List Box} {W w h y:Int}:∀ {n:Nat} {x:Int} {b:Box},Zvs F W w h y n x=some b→x≤b.X∧b.X+w≤W∧b.Y=y∧b.W=w∧b.H=h∧YQ F b
 | 0,x,b,e=>by simp[Zvs] at e
 | n+1,x,b,e=>by
  unfold Zvs at e
  split at e
  ·split at e
   ·cases e;exact⟨Int.le_refl _,by assumption,rfl,rfl,rfl,by assumption⟩
   ·obtain⟨h1,h2⟩:=Zsz e
    exact⟨by omega,h2⟩
  ·cases e
theorem ZsA {F:List Box} {W H w h:Int}:∀ {n:Nat} {y:Int} {b:Box},Zvt F W H w h n y=some b→0≤b.X∧b.X+w≤W∧y≤b.Y∧b.Y+h≤H∧b.W=w∧b.H=h∧YQ F b
 | 0,y,b,e=>by simp[Zvt] at e
 | n+1,y,b,e=>by
  unfold Zvt at e
  split at e
  ·rename_i hy
   split at e
   ·rename_i c hc
    cases e
    obtain⟨h1,h2,h3,h4,h5,h6⟩:=Zsz hc
    exact⟨h1,h2,by omega,by omega,h4,h5,h6⟩
   ·obtain⟨h1,h2,h3,h4⟩:=ZsA e
    exact⟨h1,h2,by omega,h4⟩
  ·cases e
theorem Zvu {q:Zd} {w h:Int} {b:Box} (e:Za9 q w h=some b):0≤b.X∧b.X+w≤q.W∧0≤b.Y∧b.Y+h≤q.H∧b.W=w∧b.H=h∧YQ q.Flaws b:=ZsA e
def fcV:Option Box→AV×List Zo
 | some b=>(.tup [.d b.enc,(.d (.bool true))],[])
 | none=>(.tup [.d (.agg [J 0,J 0,J 0,J 0]),(.d (.bool false))],[])
theorem Zai (qL qW qH:Int) (qF:List Box) (w h:Int) (hq:VPc (Zd.mk qL qW qH qF)) (hw:1≤w∧w≤200) (hh:1≤h∧h≤200):Zh Xs Ms XZ [(.d (.agg [J qL,J qW,J qH,.sl (qF.map Box.enc)])),(.d (J w)),(.d (J h))] []=some (fcV (Za9 (Zd.mk qL qW qH qF) w h)):=by
 have hF:∀ f∈qF,VB f:=fun f hf=>(hq.2 f hf).1
 obtain⟨_,_,hW1,hW2,hH1,hH2,hF6⟩:=hq.1
 simp only at hW1 hW2 hH1 hH2 hF6
 clear hq
 unfold Za9
 simp only
 refine Zb Xs Ms U1 ZqD (by show 3≤_;decide) ?_
 simp +contextual -implicitDefEqProofs (maxSteps:=10^7) only[go_sem,seval,↓gZ,U1]
 refine ZQ Xs Ms (st0:=?st0) (α:=Nat) (fun y=>[(8,.d (J (y:Int)))]) (fun _=>[]) (fun y=>(y:Int)≤qH∧Zvt qF qW qH w h (qH.toNat+1-y) y=Zvt qF qW qH w h (qH.toNat+1) 0) (fun y=>qH.toNat+1-y) 0 ?hc ⟨by omega,by simp⟩ ?h0 ?step
 case hc=>simp +contextual -implicitDefEqProofs (maxSteps:=10^7) only[go_sem,seval,↓gZ]<;>exact rfl
 case h0=>rfl
 case step=>
  intro y ⟨hy,hp⟩ ih
  obtain⟨n,hn⟩:∃ n,qH.toNat+1-y=n+1:=⟨qH.toNat-y,by omega⟩
  rw[hn,Zvt] at hp
  have wy:=wi ((y:Int)+h) (by omega) (by omega)
  by_cases hyl:(y:Int)+h≤qH
  ·rw[if_pos hyl] at hp
   simp +contextual -implicitDefEqProofs (maxSteps:=10^7) only[go_sem,seval,↓gZ,wy,hyl]
   refine ZQ Xs Ms (st0:=?st1) (α:=Nat) (fun x=>[(9,.d (J (x:Int)))]) (fun _=>[]) (fun x=>(x:Int)≤qW∧Zvs qF qW w h y (qW.toNat+1-x) x=Zvs qF qW w h y (qW.toNat+1) 0) (fun x=>qW.toNat+1-x) 0 ?hc2 ⟨by omega,by simp⟩ ?h02 ?step2
   case hc2=>simp +contextual -implicitDefEqProofs (maxSteps:=10^7) only[go_sem,seval,↓gZ]<;>exact rfl
   case h02=>rfl
   case step2=>
    intro x ⟨hx,hpx⟩ ih2
    obtain⟨m,hm⟩:∃ m,qW.toNat+1-x=m+1:=⟨qW.toNat-x,by omega⟩
    rw[hm,Zvs] at hpx
    have wx:=wi ((x:Int)+w) (by omega) (by omega)
    have hsx:=Zm (k:=x) (by omega)
    have hsy:=Zm (k:=y) (by omega)
    by_cases hxl:(x:Int)+w≤qW
    ·rw[if_pos hxl] at hpx
     have ec:=ZlW qL qW qH qF x y w h hF (by simp only[VB];omega) (by omega)
     by_cases hcl:YQ qF ⟨x,y,w,h⟩
     ·rw[if_pos hcl] at hpx
      rw[← hpx] at hp
      simp only at hp
      rw[decide_eq_true hcl] at ec
      simp +contextual -implicitDefEqProofs (maxSteps:=10^7) only[go_sem,seval,↓gZ,wx,hxl,ec]
      rw[← hp]
      rfl
     ·rw[if_neg hcl] at hpx
      rw[decide_eq_false hcl] at ec
      simp +contextual -implicitDefEqProofs (maxSteps:=10^7) only[go_sem,seval,↓gZ,wx,hxl,ec,hsx]
      refine ih2 (x+1) _ ⟨by omega,?_⟩ (by omega) ?_
      ·rw[← hpx]
       have:qW.toNat+1-(x+1)=m:=by omega
       rw[this]
       rfl
      ·simp +contextual -implicitDefEqProofs (maxSteps:=10^7) only[go_sem,seval,↓gZ]
    ·rw[if_neg hxl] at hpx
     rw[← hpx] at hp
     simp only at hp
     simp +contextual -implicitDefEqProofs (maxSteps:=10^7) only[go_sem,seval,↓gZ,wx,hxl,hsy]
     refine ih (y+1) _ ⟨by omega,?_⟩ (by omega) ?_
     ·rw[← hp]
      have:qH.toNat+1-(y+1)=n:=by omega
      rw[this]
      rfl
     ·simp +contextual -implicitDefEqProofs (maxSteps:=10^7) only[go_sem,seval,↓gZ]
  ·rw[if_neg hyl] at hp
   simp +contextual -implicitDefEqProofs (maxSteps:=10^7) only[go_sem,seval,↓gZ,wy,hyl]
   rw[← hp]
   rfl
def okP (p:Pane) (q:Zd):Bool:=(Za9 q p.W p.H).isSome || (p.Turns&&(Za9 q p.H p.W).isSome)
def Zm1 (l:List Zd) (b:Int):Int:=match l[b.toNat]? with
 | some q=>q.W*q.H
 | none=>0
def Zeq (L:List Zd) (p:Pane):List Zd→Nat→Int→Int
 | [],_,b=>b
 | x :: r,i,b=>Zeq L p r (i+1) (if okP p x=true∧(b<0∨x.W*x.H<Zm1 L b) then (i:Int) else b)
theorem Zvv {L l:List Zd} {p:Pane} {k i:Nat} {x:Zd} {b:Int} (hx:l[k]?=some x):Zeq L p (l.drop k) i b=Zeq L p (l.drop (k+1)) (i+1) (if okP p x=true∧(b<0∨x.W*x.H<Zm1 L b) then (i:Int) else b):=by
 obtain⟨h1,h2⟩:=List.getElem?_eq_some_iff.1 hx
 rw[List.drop_eq_getElem_cons h1,h2,Zeq]
theorem Zxm {L l:List Zd} {p:Pane} {i:Nat} {b:Int}:Zeq L p (l.drop l.length) i b=b:=by simp[Zeq]
def Zkm (L:List Zd) (p:Pane):Int:=Zeq L p L 0 (-1)
def ZBm (L:List Zd) (p:Pane):Int:=if VSt L∧VP p then (if Zkm L p<0 then 0 else match L[(Zkm L p).toNat]? with
 | some q=>q.Label
 | none=>0) else 0
theorem ZsB (L:List Zd) (p:Pane):∀ (l:List Zd) (i:Nat) (b:Int),(∀ (j:Nat) (x:Zd),l[j]?=some x→L[i+j]?=some x)→(b<0∨∃ (j:Nat) (x:Zd),b=(j:Int)∧L[j]?=some x∧okP p x=true)→Zeq L p l i b<0∨∃ (j:Nat) (x:Zd),Zeq L p l i b=(j:Int)∧L[j]?=some x∧okP p x=true
 | [],i,b,_,hb=>hb
 | x :: r,i,b,hl,hb=>by
  unfold Zeq
  refine ZsB L p r (i+1) _ (fun j y hy=>by have:=hl (j+1) y (by simpa using hy);rw[show i+1+j=i+(j+1) by omega];exact this) ?_
  split
  ·rename_i hc
   exact .inr ⟨i,x,rfl,by have:=hl 0 x (by simp);simpa using this,hc.1⟩
  ·exact hb
theorem ZBn (L:List Zd) (p:Pane):Zkm L p<0∨∃ (j:Nat) (x:Zd),Zkm L p=(j:Int)∧L[j]?=some x∧okP p x=true:=
 ZsB L p L 0 (-1) (fun j x h=>by simpa using h) (.inl (by omega))
theorem Zp8 (l:List Zd) (pW pH:Int) (pT:Bool) (pK:Int) (hv:VSt l) (hp:VP (Pane.mk pW pH pT pK)):Zh Xs Ms Uq [(.d (.sl (l.map Zd.enc))),(.d (.agg [J pW,J pH,.bool pT,J pK]))] []=some ((.d (J (ZBm l (Pane.mk pW pH pT pK)))),[]):=by
 have e1:=VG l (by have:=hv.1;omega) (fun x hx=>⟨by have:=(ZjQ hv).2 x hx;omega,Zl0 (X8 hv.2 x hx)⟩)
 have e2:=Wr pW pH pT pK
 rw[decide_eq_true hv] at e1
 rw[decide_eq_true hp] at e2
 have hval:=fun x hx=>X8 hv.2 x hx
 have hl20:=hv.1
 unfold ZBm
 rw[if_pos ⟨hv,hp⟩]
 have hpw:1≤pW∧pW≤200∧1≤pH∧pH≤200:=⟨hp.1,hp.2.1,hp.2.2.1,hp.2.2.2.1⟩
 clear hv hp
 refine Zb Xs Ms J2 Zrq (by show 2≤_;decide) ?_
 simp +contextual -implicitDefEqProofs (maxSteps:=10^7) only[go_sem,seval,↓gZ,J2,e1,e2]
 refine ZQ Xs Ms (st0:=?st0) (α:=Nat×Int) (fun s=>[(6,.d (J (s.1:Int))),(5,.d (J s.2))]) (fun _=>[]) (fun s=>s.1≤l.length∧Zeq l (Pane.mk pW pH pT pK) (l.drop s.1) s.1 s.2=Zkm l (Pane.mk pW pH pT pK)∧(s.2=-1∨∃ j:Nat,s.2=(j:Int)∧j<l.length)) (fun s=>l.length-s.1) (0,-1) ?hc ⟨by simp,by simp[Zkm],.inl rfl⟩ ?h0 ?step
 case hc=>simp +contextual -implicitDefEqProofs (maxSteps:=10^7) only[go_sem,seval,↓gZ]<;>exact rfl
 case h0=>rfl
 case step=>
  intro⟨i,b⟩ ⟨hi,hq,hb⟩ ih
  simp only at hi hq hb
  by_cases hlt:i<l.length
  ·obtain⟨x,hx⟩:=ZU hlt
   have hw:=Zm (k:=i) (by omega)
   rw[Zvv hx] at hq
   have hvx:=hval x (List.mem_of_getElem? hx)
   have f1:=Zai x.Label x.W x.H x.Flaws pW pH hvx ⟨hpw.1,hpw.2.1⟩ hpw.2.2
   have f2:=Zai x.Label x.W x.H x.Flaws pH pW hvx hpw.2.2 ⟨hpw.1,hpw.2.1⟩
   have hx1:=hvx.1
   have hxa:0≤x.W*x.H∧x.W*x.H≤40000:=ZlD (b:=⟨0,0,x.W,x.H⟩) (by simp only[VB];omega)
   have hok:okP (Pane.mk pW pH pT pK) x=((Za9 ⟨x.Label,x.W,x.H,x.Flaws⟩ pW pH).isSome || (pT&&(Za9 ⟨x.Label,x.W,x.H,x.Flaws⟩ pH pW).isSome)):=rfl
   obtain⟨L,W,H,F⟩:=x
   simp only at f1 f2 hxa hok
   have u1:=wi (W*H) (by omega) (by omega)
   cases h1:Za9 ⟨L,W,H,F⟩ pW pH with
   | some b1=>
    rw[h1] at f1 hok
    unfold fcV at f1
    simp only[Option.isSome_some,Bool.true_or] at hok
    obtain⟨bX,bY,bW,bH⟩:=b1
    rcases hb with hb | ⟨j,hb,hj⟩
    ·subst hb
     rw[if_pos ⟨hok,.inl (by omega)⟩] at hq
     simp +contextual -implicitDefEqProofs (maxSteps:=10^7) only[go_sem,seval,↓gZ,hx,hlt,hw,f1]
     refine ih (i+1,(i:Int)) _ ⟨by simp only;omega,hq,.inr ⟨i,rfl,hlt⟩⟩ (by simp only;omega) ?_
     simp +contextual -implicitDefEqProofs (maxSteps:=10^7) only[go_sem,seval,↓gZ]
    ·subst hb
     obtain⟨y,hy⟩:=ZU hj
     have hvy:=(hval y (List.mem_of_getElem? hy)).1
     have hya:0≤y.W*y.H∧y.W*y.H≤40000:=ZlD (b:=⟨0,0,y.W,y.H⟩) (by simp only[VB];omega)
     have hj0:¬(j:Int)<0:=by omega
     have har:Zm1 l (j:Int)=y.W*y.H:=by unfold Zm1;rw[Int.toNat_natCast,hy]
     rw[har] at hq
     obtain⟨yL,yW,yH,yF⟩:=y
     simp only at hya hq
     have u2:=wi (yW*yH) (by omega) (by omega)
     by_cases hc:W*H<yW*yH
     ·rw[if_pos ⟨hok,.inr hc⟩] at hq
      simp +contextual -implicitDefEqProofs (maxSteps:=10^7) only[go_sem,seval,↓gZ,hx,hlt,hw,hj0,hj,hy,u1,u2,hc,f1]
      refine ih (i+1,(i:Int)) _ ⟨by simp only;omega,hq,.inr ⟨i,rfl,hlt⟩⟩ (by simp only;omega) ?_
      simp +contextual -implicitDefEqProofs (maxSteps:=10^7) only[go_sem,seval,↓gZ]
     ·rw[if_neg (fun h=>by rcases h.2 with h | h<;>omega)] at hq
      simp +contextual -implicitDefEqProofs (maxSteps:=10^7) only[go_sem,seval,↓gZ,hx,hlt,hw,hj0,hj,hy,u1,u2,hc,f1]
      refine ih (i+1,(j:Int)) _ ⟨by simp only;omega,hq,.inr ⟨j,rfl,hj⟩⟩ (by simp only;omega) ?_
      simp +contextual -implicitDefEqProofs (maxSteps:=10^7) only[go_sem,seval,↓gZ]
   | none=>
    rw[h1] at f1 hok
    unfold fcV at f1
    cases pT with
    | false=>
     simp only[Option.isSome_none,Bool.false_and,Bool.or_self] at hok
     rw[if_neg (fun h=>by rw[hok] at h;exact absurd h.1 (by simp))] at hq
     simp +contextual -implicitDefEqProofs (maxSteps:=10^7) only[go_sem,seval,↓gZ,hx,hlt,hw,f1]
     refine ih (i+1,b) _ ⟨by simp only;omega,hq,hb⟩ (by simp only;omega) ?_
     simp +contextual -implicitDefEqProofs (maxSteps:=10^7) only[go_sem,seval,↓gZ]
    | true=>
     cases h2:Za9 ⟨L,W,H,F⟩ pH pW with
     | none=>
      rw[h2] at f2 hok
      unfold fcV at f2
      simp only[Option.isSome_none,Bool.true_and,Bool.or_self] at hok
      rw[if_neg (fun h=>by rw[hok] at h;exact absurd h.1 (by simp))] at hq
      simp +contextual -implicitDefEqProofs (maxSteps:=10^7) only[go_sem,seval,↓gZ,hx,hlt,hw,f1,f2]
      refine ih (i+1,b) _ ⟨by simp only;omega,hq,hb⟩ (by simp only;omega) ?_
      simp +contextual -implicitDefEqProofs (maxSteps:=10^7) only[go_sem,seval,↓gZ]
     | some b2=>
      rw[h2] at f2 hok
      unfold fcV at f2
      simp only[Option.isSome_some,Option.isSome_none,Bool.true_and,Bool.false_or] at hok
      obtain⟨bX,bY,bW,bH⟩:=b2
      rcases hb with hb | ⟨j,hb,hj⟩
      ·subst hb
       rw[if_pos ⟨hok,.inl (by omega)⟩] at hq
       simp +contextual -implicitDefEqProofs (maxSteps:=10^7) only[go_sem,seval,↓gZ,hx,hlt,hw,f1,f2]
       refine ih (i+1,(i:Int)) _ ⟨by simp only;omega,hq,.inr ⟨i,rfl,hlt⟩⟩ (by simp only;omega) ?_
       simp +contextual -implicitDefEqProofs (maxSteps:=10^7) only[go_sem,seval,↓gZ]
      ·subst hb
       obtain⟨y,hy⟩:=ZU hj
       have hvy:=(hval y (List.mem_of_getElem? hy)).1
       have hya:0≤y.W*y.H∧y.W*y.H≤40000:=ZlD (b:=⟨0,0,y.W,y.H⟩) (by simp only[VB];omega)
       have hj0:¬(j:Int)<0:=by omega
       have har:Zm1 l (j:Int)=y.W*y.H:=by unfold Zm1;rw[Int.toNat_natCast,hy]
       rw[har] at hq
       obtain⟨yL,yW,yH,yF⟩:=y
       simp only at hya hq
       have u2:=wi (yW*yH) (by omega) (by omega)
       by_cases hc:W*H<yW*yH
       ·rw[if_pos ⟨hok,.inr hc⟩] at hq
        simp +contextual -implicitDefEqProofs (maxSteps:=10^7) only[go_sem,seval,↓gZ,hx,hlt,hw,hj0,hj,hy,u1,u2,hc,f1,f2]
        refine ih (i+1,(i:Int)) _ ⟨by simp only;omega,hq,.inr ⟨i,rfl,hlt⟩⟩ (by simp only;omega) ?_
        simp +contextual -implicitDefEqProofs (maxSteps:=10^7) only[go_sem,seval,↓gZ]
       ·rw[if_neg (fun h=>by rcases h.2 with h | h<;>omega)] at hq
        simp +contextual -implicitDefEqProofs (maxSteps:=10^7) only[go_sem,seval,↓gZ,hx,hlt,hw,hj0,hj,hy,u1,u2,hc,f1,f2]
        refine ih (i+1,(j:Int)) _ ⟨by simp only;omega,hq,.inr ⟨j,rfl,hj⟩⟩ (by simp only;omega) ?_
        simp +contextual -implicitDefEqProofs (maxSteps:=10^7) only[go_sem,seval,↓gZ]
  ·have:i=l.length:=by omega
   subst this
   rw[Zxm] at hq
   subst hq
   rcases hb with hb | ⟨j,hb,hj⟩
   ·have h0:Zkm l (Pane.mk pW pH pT pK)<0:=by omega
    simp +contextual -implicitDefEqProofs (maxSteps:=10^7) only[go_sem,seval,↓gZ,hb]
   ·have h0:¬Zkm l (Pane.mk pW pH pT pK)<0:=by omega
    have h1:¬(j:Int)<0:=by omega
    obtain⟨y,hy⟩:=ZU hj
    simp only[hb,if_neg h1,Int.toNat_natCast,hy]
    obtain⟨yL,yW,yH,yF⟩:=y
    simp +contextual -implicitDefEqProofs (maxSteps:=10^7) only[go_sem,seval,↓gZ,h1,hj,hy]
def WG (lo hi fr to:Int):List Int:=(if fr<lo∧lo<to then [lo] else [])++(if fr<hi∧hi<to then [hi] else [])
theorem ZzQ {lo hi fr to x:Int} (h:x∈WG lo hi fr to):x<to:=by
 unfold WG at h
 rcases List.mem_append.1 h with h | h
 ·split at h
  ·simp at h;omega
  ·simp at h
 ·split at h
  ·simp at h;omega
  ·simp at h
theorem Zm2 (lo hi fr to:Int):(WG lo hi fr to).length≤2:=by
 unfold WG
 split<;>split<;>simp
theorem ZzR {lo hi fr t:Int} (hl:lo<hi) (hf:fr<t) (h:t=lo∨t=hi):WG lo hi fr (t+1)=WG lo hi fr t++[t]:=by
 unfold WG
 rcases h with h | h
 ·rw[if_pos (show fr<lo∧lo<t+1 by omega),if_neg (show ¬(fr<hi∧hi<t+1) by omega),if_neg (show ¬(fr<lo∧lo<t) by omega),if_neg (show ¬(fr<hi∧hi<t) by omega),h];rfl
 ·rw[if_pos (show fr<hi∧hi<t+1 by omega),if_neg (show ¬(fr<hi∧hi<t) by omega)]
  by_cases h2:fr<lo
  ·rw[if_pos (show fr<lo∧lo<t+1 by omega),if_pos (show fr<lo∧lo<t by omega),h];rfl
  ·rw[if_neg (show ¬(fr<lo∧lo<t+1) by omega),if_neg (show ¬(fr<lo∧lo<t) by omega),h];rfl
theorem ZBo {lo hi fr t:Int} (h:¬(t=lo∨t=hi)):WG lo hi fr (t+1)=WG lo hi fr t:=by
 unfold WG
 have h1:(fr<lo∧lo<t+1)=(fr<lo∧lo<t):=propext (by omega)
 have h2:(fr<hi∧hi<t+1)=(fr<hi∧hi<t):=propext (by omega)
 simp only[h1,h2]
theorem Zl4:∀ (l:List Int) (k:Nat) (n:Int),n∉l→Ug k l n=-1
 | [],_,_,_=>rfl
 | x :: l,k,n,h=>by
  simp only[List.mem_cons,not_or] at h
  unfold Ug
  rw[if_neg (fun e=>h.1 e.symm),Zl4 l (k+1) n h.2]
theorem Zp9 (cP:Int) (cT:Bool) (cX cY cW cH:Int) (op lo n fr to:Int) (ho:(op=2∧lo=cX∧n=cW)∨(op=3∧lo=cY∧n=cH)) (hc:0≤cX∧cX≤1000∧0≤cY∧cY≤1000∧1≤cW∧cW≤1000∧1≤cH∧cH≤1000) (h0:0≤fr) (h1:fr<to) (h2:to≤1000):Zh Xs Ms ZdS [.d (.sl [.agg [J cP,.bool cT,J cX,J cY,J cW,J cH]]),(.d (J op)),(.d (J fr)),(.d (J to))] []=some (.own 0,[.row 1 ((WG lo (lo+n) fr to).map YL) true false]):=by
 have w0:=wi (fr+1) (by omega) (by omega)
 have wx:=wi (cX+cW) (by omega) (by omega)
 have wy:=wi (cY+cH) (by omega) (by omega)
 have hn:lo<lo+n:=by omega
 have he0:WG lo (lo+n) fr (fr+1)=[]:=by unfold WG;rw[if_neg (by omega),if_neg (by omega)];rfl
 refine Zb Xs Ms Zg3 Zz5 (by show 4≤_;decide) ?_
 simp +contextual -implicitDefEqProofs (maxSteps:=10^7) only[go_sem,seval,↓gZ,Zg3,w0]
 refine ZQ Xs Ms (st0:=?st0) (α:=Int) (fun t=>[(10,.d (J t))]) (fun t=>[(0,.row 1 ((WG lo (lo+n) fr t).map YL) true false)]) (fun t=>fr+1≤t∧t≤to) (fun t=>(to-t).toNat) (fr+1) ?hc (by omega) ?h0 ?step
 case hc=>simp +contextual -implicitDefEqProofs (maxSteps:=10^7) only[go_sem,seval,↓gZ]<;>exact rfl
 case h0=>rw[he0];rfl
 case step=>
  intro t ⟨ht1,ht2⟩ ih
  by_cases hlt:t<to
  ·have wt:=wi (t+1) (by omega) (by omega)
   have hel:=Zm2 lo (lo+n) fr t
   have hr:((WG lo (lo+n) fr t).length+1)*8≤140737488355328∧(WG lo (lo+n) fr t).length≤140737488355327:=by omega
   have epl:=ZtB (WG lo (lo+n) fr t) t (by omega)
   rw[Zl4 _ _ _ (fun h=>by have:=ZzQ h;omega)] at epl
   by_cases hm:t=lo∨t=lo+n
   ·have hy:=ZzR hn (show fr<t by omega) hm
    have hfin:(1:Int)+0=1:=rfl
    rcases ho with ⟨o1,o2,o3⟩ | ⟨o1,o2,o3⟩
    ·have hm' : (t=cX∨t=cX+cW):=by omega
     simp +contextual -implicitDefEqProofs (maxSteps:=10^7) only[go_sem,seval,↓gZ,hlt]
     refine ZM Xs Ms ?_
     simp +contextual -implicitDefEqProofs (maxSteps:=10^7) only[go_sem,seval,↓gZ,wx,o1,hm',epl,hr,← Bool.decide_or]
     refine ZM Xs Ms ?_
     simp +contextual -implicitDefEqProofs (maxSteps:=10^7) only[go_sem,seval,↓gZ,wt]
     refine ih (t+1) _ (by omega) (by omega) ?_
     simp +contextual -implicitDefEqProofs (maxSteps:=10^7) only[go_sem,seval,↓gZ,hy,o1,List.map_append,List.map_cons,List.map_nil]
    ·have hm' : (t=cY∨t=cY+cH):=by omega
     simp +contextual -implicitDefEqProofs (maxSteps:=10^7) only[go_sem,seval,↓gZ,hlt]
     refine ZM Xs Ms ?_
     simp +contextual -implicitDefEqProofs (maxSteps:=10^7) only[go_sem,seval,↓gZ,wx,wy,o1,hm',epl,hr,← Bool.decide_or]
     refine ZM Xs Ms ?_
     simp +contextual -implicitDefEqProofs (maxSteps:=10^7) only[go_sem,seval,↓gZ,wt]
     refine ih (t+1) _ (by omega) (by omega) ?_
     simp +contextual -implicitDefEqProofs (maxSteps:=10^7) only[go_sem,seval,↓gZ,hy,o1,List.map_append,List.map_cons,List.map_nil]
   ·have hy:=ZBo (fr:=fr) hm
    rcases ho with ⟨o1,o2,o3⟩ | ⟨o1,o2,o3⟩
    ·have hm' : ¬(t=cX∨t=cX+cW):=by omega
     simp +contextual -implicitDefEqProofs (maxSteps:=10^7) only[go_sem,seval,↓gZ,hlt]
     refine ZM Xs Ms ?_
     simp +contextual -implicitDefEqProofs (maxSteps:=10^7) only[go_sem,seval,↓gZ,wx,o1,hm',← Bool.decide_or]
     refine ZM Xs Ms ?_
     simp +contextual -implicitDefEqProofs (maxSteps:=10^7) only[go_sem,seval,↓gZ,wt]
     refine ih (t+1) _ (by omega) (by omega) ?_
     simp +contextual -implicitDefEqProofs (maxSteps:=10^7) only[go_sem,seval,↓gZ,hy,o1]
    ·have hm' : ¬(t=cY∨t=cY+cH):=by omega
     simp +contextual -implicitDefEqProofs (maxSteps:=10^7) only[go_sem,seval,↓gZ,hlt]
     refine ZM Xs Ms ?_
     simp +contextual -implicitDefEqProofs (maxSteps:=10^7) only[go_sem,seval,↓gZ,wx,wy,o1,hm',← Bool.decide_or]
     refine ZM Xs Ms ?_
     simp +contextual -implicitDefEqProofs (maxSteps:=10^7) only[go_sem,seval,↓gZ,wt]
     refine ih (t+1) _ (by omega) (by omega) ?_
     simp +contextual -implicitDefEqProofs (maxSteps:=10^7) only[go_sem,seval,↓gZ,hy,o1]
  ·have:t=to:=by omega
   subst this
   simp +contextual -implicitDefEqProofs (maxSteps:=10^7) only[go_sem,seval,↓gZ]
theorem ZjR (cP:Int) (cT:Bool) (cX cY cW cH:Int) (op lo n t:Int) (f:Bool) (ho:(op=2∧lo=cX∧n=cW)∨(op=3∧lo=cY∧n=cH)) (hc:0≤cX∧cX≤1000∧0≤cY∧cY≤1000∧1≤cW∧cW≤1000∧1≤cH∧cH≤1000) (hn:¬(lo<t∧t<lo+n)):Zh Xs Ms ZeE [.d (.sl [.agg [J cP,.bool cT,J cX,J cY,J cW,J cH]]),(.d (J op)),(.d (J t)),(.d (.bool f))] [] =
  some (.tup [.own 0,(.d (.bool true))],[.row 6 (if f=decide (lo+n≤t) then [.agg [J cP,.bool cT,J cX,J cY,J cW,J cH]] else []) true false]):=by
 have wx:=wi (cX+cW) (by omega) (by omega)
 have wy:=wi (cY+cH) (by omega) (by omega)
 have bb:∀ a b:Bool,ZiC .eql true (.d (.bool a)) (.d (.bool b))=QT (.d (.bool (a==b))):=fun _ _=>rfl
 refine Zb Xs Ms Zg4 ZB3 (by show 4≤_;decide) ?_
 rcases ho with ⟨o1,o2,o3⟩ | ⟨o1,o2,o3⟩
 ·have hn' : ¬(cX<t∧t<cX+cW):=by omega
  have he:(lo+n≤t)=(cX+cW≤t):=propext (by omega)
  simp only[he]
  simp +contextual -implicitDefEqProofs (maxSteps:=10^7) only[go_sem,seval,↓gZ,Zg4]
  refine ZM Xs Ms ?_
  by_cases hf:f=decide (cX+cW≤t)
  ·have hg:(f==decide (cX+cW≤t))=true:=by rw[hf];simp
   rw[if_pos hf]
   simp +contextual -implicitDefEqProofs (maxSteps:=10^7) only[go_sem,seval,↓gZ,wx,o1,hn',bb,hg,← Bool.decide_and]
   refine ZM Xs Ms ?_
   simp +contextual -implicitDefEqProofs (maxSteps:=10^7) only[go_sem,seval,↓gZ]
  ·have hg:(f==decide (cX+cW≤t))=false:=by simpa using hf
   rw[if_neg hf]
   simp +contextual -implicitDefEqProofs (maxSteps:=10^7) only[go_sem,seval,↓gZ,wx,o1,hn',bb,hg,← Bool.decide_and]
   refine ZM Xs Ms ?_
   simp +contextual -implicitDefEqProofs (maxSteps:=10^7) only[go_sem,seval,↓gZ]
 ·have hn' : ¬(cY<t∧t<cY+cH):=by omega
  have he:(lo+n≤t)=(cY+cH≤t):=propext (by omega)
  simp only[he]
  simp +contextual -implicitDefEqProofs (maxSteps:=10^7) only[go_sem,seval,↓gZ,Zg4]
  refine ZM Xs Ms ?_
  by_cases hf:f=decide (cY+cH≤t)
  ·have hg:(f==decide (cY+cH≤t))=true:=by rw[hf];simp
   rw[if_pos hf]
   simp +contextual -implicitDefEqProofs (maxSteps:=10^7) only[go_sem,seval,↓gZ,wx,wy,o1,hn',bb,hg,← Bool.decide_and]
   refine ZM Xs Ms ?_
   simp +contextual -implicitDefEqProofs (maxSteps:=10^7) only[go_sem,seval,↓gZ]
  ·have hg:(f==decide (cY+cH≤t))=false:=by simpa using hf
   rw[if_neg hf]
   simp +contextual -implicitDefEqProofs (maxSteps:=10^7) only[go_sem,seval,↓gZ,wx,wy,o1,hn',bb,hg,← Bool.decide_and]
   refine ZM Xs Ms ?_
   simp +contextual -implicitDefEqProofs (maxSteps:=10^7) only[go_sem,seval,↓gZ]
def Zer:Zj→AV×List Zo
 | .mk o a q t ks=>(.tup [.agg [(.d (J o)),(.d (J a)),(.d (J q)),(.d (.bool t)),.own 0],(.d (.bool true))],[.row 5 (ks.map Zj.enc) true false])
theorem Zco (bX bY bW bH:Int):Zh Xs Ms QG [.d (.sl []),(.d (.agg [J bX,J bY,J bW,J bH]))] []=some (Zer BT.waste.plan):=by
 simp only[BT.plan,Zer]
 refine Zb Xs Ms YK Zfs (by show 2≤_;decide) ?_
 simp +contextual -implicitDefEqProofs (maxSteps:=10^7) only[go_sem,seval,↓gZ,YK]
theorem Zi1 (cP:Int) (cT:Bool) (cX cY cW cH:Int):Zh Xs Ms QG [.d (.sl [.agg [J cP,.bool cT,J cX,J cY,J cW,J cH]]),.d (.agg [J cX,J cY,J cW,J cH])] []=some (Zer (BT.pane cP cT).plan):=by
 simp only[BT.plan,Zer]
 refine Zb Xs Ms YK Zfs (by show 2≤_;decide) ?_
 simp +contextual -implicitDefEqProofs (maxSteps:=10^7) only[go_sem,seval,↓gZ,YK]
theorem Zba (A B:List D) (bX bY bW bH:Int) (d:Bool) (a:Int) (l r:BT) (hA:uni 6 A) (hB:uni 6 B) (h1:R64 (bX+a)) (h2:R64 (bY+a)) (h3:R64 (bW-a)) (h4:R64 (bH-a))
  (hl:Zh Xs Ms QG [.d (.sl A),if d then .d (.agg [J bX,J bY,J a,J bH]) else .d (.agg [J bX,J bY,J bW,J a])] []=some (Zer l.plan))
  (hr:Zh Xs Ms QG [.d (.sl B),if d then .d (.agg [J (bX+a),J bY,J (bW-a),J bH]) else .d (.agg [J bX,J (bY+a),J bW,J (bH-a)])] []=some (Zer r.plan)) :
  Zh Xs Ms V8 [.d (.sl A),.d (.sl B),(.d (.agg [J bX,J bY,J bW,J bH])),(.d (J (Zby d))),(.d (J a))] []=some (Zer (BT.cut d a l r).plan):=by
 have w1:=wi (bX+a) h1.1 h1.2
 have w2:=wi (bY+a) h2.1 h2.2
 have w3:=wi (bW-a) h3.1 h3.2
 have w4:=wi (bH-a) h4.1 h4.2
 obtain⟨lo,la,lq,lt,lk,el⟩:∃ o a q t ks,l.plan=.mk o a q t ks:=by cases l.plan;exact⟨_,_,_,_,_,rfl⟩
 obtain⟨ro,ra,rq,rt,rk,er⟩:∃ o a q t ks,r.plan=.mk o a q t ks:=by cases r.plan;exact⟨_,_,_,_,_,rfl⟩
 rw[el] at hl
 rw[er] at hr
 simp only[BT.plan,el,er,Zer] at hl hr ⊢
 cases d with
 | true=>
  simp only[if_true,Zby] at hl hr ⊢
  refine Zb Xs Ms Wd Zkq (by show 5≤_;decide) ?_
  simp +contextual -implicitDefEqProofs (maxSteps:=10^7) only[go_sem,seval,↓gZ,Wd,w1,w3,hl,hr,hA,hB]
 | false=>
  simp only[Bool.false_eq_true,if_false,Zby] at hl hr ⊢
  refine Zb Xs Ms Wd Zkq (by show 5≤_;decide) ?_
  simp +contextual -implicitDefEqProofs (maxSteps:=10^7) only[go_sem,seval,↓gZ,Wd,w1,w2,w3,w4,hl,hr,hA,hB]
end Go.Proofs.YtkdjbefmiiibpaaGreatDoor
