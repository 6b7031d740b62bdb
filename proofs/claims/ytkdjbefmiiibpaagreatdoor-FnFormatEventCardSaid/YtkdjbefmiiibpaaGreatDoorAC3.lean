/- Contracts of the functions,by the abstract semantics. -/
import Derived.Test.YtkdjbefmiiibpaaGreatDoorACode
import Derived.Test.YtkdjbefmiiibpaaGreatDoorAbsParts
import Derived.Test.YtkdjbefmiiibpaaGreatDoorAC2
namespace Go.Proofs.YtkdjbefmiiibpaaGreatDoor
open Go Go.Abs Go.Abs.E Go.Abs.L
open Nat (reduceMul reduceSub reduceLeDiff reduceEqDiff)
open Int (reduceLE reduceEq reduceToNat reduceNeg)
set_option linter.unusedSimpArgs false
set_option linter.unusedVariables false
set_option maxRecDepth 20000
set_option maxHeartbeats 4000000
def Zj9:List Pane→List Zi→Prop
 | _,[]=>True
 | q,x :: l=>VP x.Pane∧x.Pane∉q∧1≤x.Count∧x.Count≤24∧Zj9 (q++[x.Pane]) l
instance ordGdec:∀ (q:List Pane) (l:List Zi),Decidable (Zj9 q l)
 | _,[]=>.isTrue trivial
 | q,x :: l=>by
  unfold Zj9
  have:=ordGdec (q++[x.Pane]) l
  infer_instance
def ZeI:List Zi→Int
 | []=>0
 | x :: l=>x.Count+ZeI l
def Zgc (l:List Zi):Prop:=l.length≤8∧Zj9 [] l∧ZeI l≤24
instance (l:List Zi):Decidable (Zgc l):=by unfold Zgc;infer_instance
theorem Zu8 {l:List Zi} {k:Nat} {x:Zi} {q:List Pane} (hx:l[k]?=some x):Zj9 q (l.drop k)↔VP x.Pane∧x.Pane∉q∧1≤x.Count∧x.Count≤24∧Zj9 (q++[x.Pane]) (l.drop (k+1)):=by
 obtain⟨h1,h2⟩:=List.getElem?_eq_some_iff.1 hx
 rw[List.drop_eq_getElem_cons h1,h2,Zj9]
theorem ZwG {l:List Zi} {q:List Pane}:Zj9 q (l.drop l.length):=by simp[Zj9]
theorem ZdO {l:List Zi} {k:Nat} {x:Zi} (hx:l[k]?=some x):(l.take (k+1)).map Zi.Pane=(l.take k).map Zi.Pane++[x.Pane]:=by
 rw[List.take_add_one,hx];simp
theorem ZqW (a b:List Zi):ZeI (a++b)=ZeI a+ZeI b:=by
 induction a with
 | nil=>simp[ZeI]
 | cons c l ih=>simp only[List.cons_append,ZeI,ih];omega
theorem Zu9 {l:List Zi} {i:Nat} {x:Zi} (hx:l[i]?=some x):ZeI (l.take (i+1))=ZeI (l.take i)+x.Count:=by
 rw[List.take_add_one,hx,ZqW];simp[ZeI]
theorem ZqX:∀ {l:List Zi} {q:List Pane},Zj9 q l→∀ x∈l,VP x.Pane∧1≤x.Count∧x.Count≤24
 | [],_,_,x,hx=>by simp at hx
 | y :: l,q,h,x,hx=>by
  rcases List.mem_cons.1 hx with rfl | hx
  ·exact⟨h.1,h.2.2.1,h.2.2.2.1⟩
  ·exact ZqX h.2.2.2.2 x hx
def ZbN:List Zi→Int
 | []=>0
 | x :: l=>x.Count*x.Pane.W*x.Pane.H+ZbN l
theorem ZqY (a b:List Zi):ZbN (a++b)=ZbN a+ZbN b:=by
 induction a with
 | nil=>simp[ZbN]
 | cons c l ih=>simp only[List.cons_append,ZbN,ih];omega
theorem Zva {l:List Zi} {i:Nat} {x:Zi} (hx:l[i]?=some x):ZbN (l.take (i+1))=ZbN (l.take i)+x.Count*x.Pane.W*x.Pane.H:=by
 rw[List.take_add_one,hx,ZqY];simp[ZbN]
theorem ZiA {x:Zi} (h:VP x.Pane∧1≤x.Count∧x.Count≤24):0≤x.Count*x.Pane.W∧x.Count*x.Pane.W≤4800∧0≤x.Count*x.Pane.W*x.Pane.H∧x.Count*x.Pane.W*x.Pane.H≤960000:=by
 obtain⟨h1,h2,h3⟩:=h
 simp only[VP] at h1
 have a1:0≤x.Count*x.Pane.W:=Int.mul_nonneg (by omega) (by omega)
 have a2:x.Count*x.Pane.W≤24*200:=Int.mul_le_mul (by omega) (by omega) (by omega) (by omega)
 have a3:0≤x.Count*x.Pane.W*x.Pane.H:=Int.mul_nonneg (by omega) (by omega)
 have a4:x.Count*x.Pane.W*x.Pane.H≤4800*200:=Int.mul_le_mul (by omega) (by omega) (by omega) (by omega)
 omega
theorem ZgJ:∀ {l:List Zi},(∀ x∈l,VP x.Pane∧1≤x.Count∧x.Count≤24)→0≤ZbN l∧ZbN l≤960000*l.length
 | [],_=>by simp[ZbN]
 | x :: l,h=>by
  have h1:=ZiA (h x (by simp))
  have h2:=ZgJ (l:=l) fun y hy=>h y (by simp[hy])
  simp only[ZbN,List.length_cons];omega
theorem ZbO {l:List Zi} (h:Zgc l):∀ x∈l,VP x.Pane∧1≤x.Count∧x.Count≤24:=ZqX h.2.1
theorem ZsM {l:List Zi} (h:Zgc l):0≤ZbN l∧ZbN l≤7680000:=by
 have h1:=ZgJ (ZbO h)
 have:=h.1
 omega
structure ZC where
 kind:Int
 label:Int
 box:Box
 line:Zi
 plan:Zj
def ZC.enc (e:ZC):D:=.agg ([J e.kind,J e.label,J e.box.X,J e.box.Y,J e.box.W,J e.box.H,J e.line.Pane.W,J e.line.Pane.H,.bool e.line.Pane.Turns,J e.line.Pane.Kind,J e.line.Count]++e.plan.enc.cells)
@[go_sem] theorem ZC.enc_mk (k l x y w h pw ph pk c o a p:Int) (pt t:Bool) (ks:List Zj):ZC.enc (ZC.mk k l (Box.mk x y w h) (Zi.mk (Pane.mk pw ph pt pk) c) (Zj.mk o a p t ks)) =
  .agg [J k,J l,J x,J y,J w,J h,J pw,J ph,.bool pt,J pk,J c,J o,J a,J p,.bool t,.sl (ks.map Zj.enc)]:=by
 simp only[ZC.enc,Zj.enc_mk];rfl
theorem ZC.enc_len (e:ZC):(ZC.enc e).cells.length=16:=by
 show (_++e.plan.enc.cells).length=16
 rw[List.length_append,Zj.enc_len];rfl
@[go_sem] theorem uni_Event (l:List ZC):uni 16 (l.map ZC.enc)=True:=eq_true (Zby l ZC.enc_len)
def Vj (s:Z3):Prop:=VSt s.Stock∧Zgc s.Opn∧Zgc s.Done∧0≤s.Lost∧s.Lost≤900000∧0≤s.Came∧s.Came≤900000∧WA s.Stock+ZbN s.Done+s.Lost=s.Came
instance (s:Z3):Decidable (Vj s):=by unfold Vj;infer_instance
def YR (p:Zd):List Zd→List Zd
 | []=>[p]
 | x :: l=>if p.Label<x.Label then p :: x :: l else x :: YR p l
theorem ZsN {l:List Zd} {k:Nat} {x p:Zd} (hx:l[k]?=some x):YR p (l.drop k)=if p.Label<x.Label then p :: l.drop k else x :: YR p (l.drop (k+1)):=by
 obtain⟨h1,h2⟩:=List.getElem?_eq_some_iff.1 hx
 rw[List.drop_eq_getElem_cons h1,h2,YR]
theorem Zoj (p:Zd):∀ (l:List Zd),(YR p l).length=l.length+1
 | []=>rfl
 | x :: l=>by
  unfold YR
  split
  ·simp
  ·simp[Zoj p l]
theorem Zok (p:Zd):∀ (l:List Zd) (y:Zd),y∈YR p l→y=p∨y∈l
 | [],y,h=>by simpa [YR] using h
 | x :: l,y,h=>by
  unfold YR at h
  split at h
  ·simpa using h
  ·rcases List.mem_cons.1 h with rfl | h
   ·exact .inr (by simp)
   ·rcases Zok p l y h with h | h
    ·exact .inl h
    ·exact .inr (by simp[h])
def Zol (p:Pane) (c:Int) (x:Zi):Option Zi:=
 if x.Pane=p then (if 0<x.Count-c then some ⟨x.Pane,x.Count-c⟩ else none) else (if 0<x.Count then some x else none)
def J9 (l:List Zi) (p:Pane) (c:Int):List Zi:=l.filterMap (Zol p c)
def U3 (p:Pane) (c:Int):Bool→List Zi→Bool
 | b,[]=>b
 | b,x :: l=>U3 p c (if x.Pane=p then decide (0≤x.Count-c) else b) l
theorem ZqZ {l:List Zi} {k:Nat} {x:Zi} {p:Pane} {c:Int} {b:Bool} (hx:l[k]?=some x):U3 p c b (l.drop k)=U3 p c (if x.Pane=p then decide (0≤x.Count-c) else b) (l.drop (k+1)):=by
 obtain⟨h1,h2⟩:=List.getElem?_eq_some_iff.1 hx
 rw[List.drop_eq_getElem_cons h1,h2,U3]
theorem ZsO {l:List Zi} {p:Pane} {c:Int} {b:Bool}:U3 p c b (l.drop l.length)=b:=by simp[U3]
theorem ZsP {l:List Zi} {i:Nat} {x:Zi} (p:Pane) (c:Int) (hx:l[i]?=some x):J9 (l.take (i+1)) p c=J9 (l.take i) p c++(Zol p c x).toList:=by
 unfold J9
 rw[List.take_add_one,hx,List.filterMap_append]
 simp only[Option.toList_some,List.filterMap_cons,List.filterMap_nil]
 cases Zol p c x<;>rfl
def ZaI (p:Pane) (c:Int):List Zi→List Zi
 | []=>[⟨p,c⟩]
 | x :: l=>if x.Pane=p then ⟨x.Pane,x.Count+c⟩ :: l else x :: ZaI p c l
theorem ZeO (p:Pane) (c:Int):∀ (l:List Zi),(ZaI p c l).length≤l.length+1
 | []=>by simp[ZaI]
 | x :: l=>by
  unfold ZaI
  split
  ·simp
  ·have:=ZeO p c l
   simp;omega
theorem Zui (p:Pane) (c:Int):∀ (l:List Zi) (i:Nat) (x:Zi),l[i]?=some x→x.Pane=p→p∉(l.take i).map Zi.Pane→ZaI p c l=l.set i ⟨x.Pane,x.Count+c⟩
 | [],i,x,h,_,_=>by simp at h
 | y :: l,0,x,h,e,_=>by
  simp only[List.getElem?_cons_zero,Option.some.injEq] at h
  subst h
  simp[ZaI,e]
 | y :: l,i+1,x,h,e,hn=>by
  simp only[List.getElem?_cons_succ] at h
  simp only[List.take_succ_cons,List.map_cons,List.mem_cons,not_or] at hn
  have ih:=Zui p c l i x h e hn.2
  simp only[ZaI,if_neg (fun e' : y.Pane=p=>hn.1 e'.symm),List.set_cons_succ,ih]
theorem Zuj (p:Pane) (c:Int):∀ (l:List Zi),p∉l.map Zi.Pane→ZaI p c l=l++[⟨p,c⟩]
 | [],_=>rfl
 | y :: l,hn=>by
  simp only[List.map_cons,List.mem_cons,not_or] at hn
  simp only[ZaI,if_neg (fun e' : y.Pane=p=>hn.1 e'.symm),Zuj p c l hn.2,List.cons_append]
theorem Zez (l:List Zi) (hl:l.length≤1000000):Zk Xs Ms Yy [(.d (.sl (l.map Zi.enc)))] []=some ((.d (.bool (decide (Zgc l)))),[]):=by
 refine Zc Xs Ms WO Zlo (by show 1≤_;decide) ?_
 simp +contextual -implicitDefEqProofs (maxSteps:=10^7) only[go_sem,seval,↓gZ,WO]
 refine Qb Xs Ms (st0:=?st0) (α:=Nat) (fun i=>[(4,.d (J (i:Int))),(3,.d (J (ZeI (l.take i))))]) (fun _=>[]) (fun i=>i≤l.length∧(Zj9 [] l↔Zj9 ((l.take i).map Zi.Pane) (l.drop i))∧0≤ZeI (l.take i)∧ZeI (l.take i)≤24*i) (fun i=>l.length-i) 0 ?hc ⟨by simp,by simp,by simp[ZeI],by simp[ZeI]⟩ ?h0 ?step
 case hc=>simp +contextual -implicitDefEqProofs (maxSteps:=10^7) only[go_sem,seval,↓gZ]<;>exact rfl
 case h0=>rfl
 case step=>
  intro i ⟨hi,hp,hs0,hs1⟩ ih
  by_cases hlt:i<l.length
  ·obtain⟨x,hx⟩:=Z4 hlt
   have hw:=ZD (k:=i) (by omega)
   rw[Zu8 hx,← ZdO hx] at hp
   have ev:=Vh x.Pane.W x.Pane.H x.Pane.Turns x.Pane.Kind
   have hsm:=Zu9 hx
   obtain⟨⟨W,H,T,K⟩,C⟩:=x
   simp only at hp ev hsm
   by_cases hv:VP ⟨W,H,T,K⟩
   ·rw[decide_eq_true hv] at ev
    by_cases hC:1≤C∧C≤24
    ·have er:=Zv C 1 24
     rw[decide_eq_true hC] at er
     simp +contextual -implicitDefEqProofs (maxSteps:=10^7) only[go_sem,seval,↓gZ,hx,hlt,hw,ev,er]
     refine Qb Xs Ms (st0:=?st1) (α:=Nat) (fun k=>[(5,.d (J (k:Int)))]) (fun _=>[]) (fun k=>k≤i∧(⟨W,H,T,K⟩:Pane)∉(l.take k).map Zi.Pane) (fun k=>i-k) 0 ?hc2 ⟨by omega,by simp⟩ ?h02 ?step2
     case hc2=>simp +contextual -implicitDefEqProofs (maxSteps:=10^7) only[go_sem,seval,↓gZ]<;>exact rfl
     case h02=>rfl
     case step2=>
      intro k ⟨hk,hq⟩ ih2
      by_cases hki:k<i
      ·obtain⟨y,hy⟩:=Z4 (l:=l) (k:=k) (by omega)
       have hkl:k<l.length:=by omega
       have hw2:=ZD (k:=k) (by omega)
       have hpt:=ZdO hy
       obtain⟨⟨W',H',T',K'⟩,C'⟩:=y
       simp only at hpt
       by_cases he:(⟨W',H',T',K'⟩:Pane)=⟨W,H,T,K⟩
       ·have hmem:(⟨W,H,T,K⟩:Pane)∈(l.take i).map Zi.Pane:=by
         rw[← he]
         have h3:(l.take i)[k]?=some ⟨⟨W',H',T',K'⟩,C'⟩:=by rw[List.getElem?_take_of_lt hki];exact hy
         exact List.mem_map.2 ⟨_,List.mem_of_getElem? h3,rfl⟩
        have hn:¬Zgc l:=fun h=>(hp.1 h.2.1).2.1 hmem
        simp only[Pane.mk.injEq] at he
        simp +contextual -implicitDefEqProofs (maxSteps:=10^7) only[go_sem,seval,↓gZ,hx,hlt,hw,hy,hki,hkl,hw2,he,hn]
       ·have he':=he
        simp only[Pane.mk.injEq] at he
        simp +contextual -implicitDefEqProofs (maxSteps:=10^7) only[go_sem,seval,↓gZ,hx,hlt,hw,hy,hki,hkl,hw2,he]
        refine ih2 (k+1) _ ⟨by omega,?_⟩ (by omega) ?_
        ·rw[hpt,List.mem_append]
         intro h
         rcases h with h | h
         ·exact hq h
         ·exact he' (List.mem_singleton.1 h).symm
        ·simp +contextual -implicitDefEqProofs (maxSteps:=10^7) only[go_sem,seval,↓gZ]
      ·have:k=i:=by omega
       subst this
       have hw3:=wi (ZeI (l.take k)+C) (by omega) (by omega)
       simp +contextual -implicitDefEqProofs (maxSteps:=10^7) only[go_sem,seval,↓gZ,hx,hlt,hw,hki,hw3]
       refine ih (k+1) _ ⟨by omega,?_,by omega,by omega⟩ (by omega) ?_
       ·rw[hp];exact⟨fun h=>h.2.2.2.2,fun h=>⟨hv,hq,hC.1,hC.2,h⟩⟩
       ·simp +contextual -implicitDefEqProofs (maxSteps:=10^7) only[go_sem,seval,↓gZ,hsm]
    ·have er:=Zv C 1 24
     rw[decide_eq_false hC] at er
     have hn:¬Zgc l:=fun h=>hC ⟨(hp.1 h.2.1).2.2.1,(hp.1 h.2.1).2.2.2.1⟩
     simp +contextual -implicitDefEqProofs (maxSteps:=10^7) only[go_sem,seval,↓gZ,hx,hlt,hw,ev,er,hn]
   ·rw[decide_eq_false hv] at ev
    have hn:¬Zgc l:=fun h=>hv (hp.1 h.2.1).1
    simp +contextual -implicitDefEqProofs (maxSteps:=10^7) only[go_sem,seval,↓gZ,hx,hlt,hw,ev,hn]
  ·have:i=l.length:=by omega
   subst this
   have hs:=hp.2 ZwG
   rw[List.take_of_length_le (Nat.le_refl _)]
   simp +contextual -implicitDefEqProofs (maxSteps:=10^7) only[go_sem,seval,↓gZ]
   exact Zh4 (by simp only[Zgc];constructor<;>(intro h;first | exact⟨by omega,hs,by omega⟩ | (have:=h.1;have:=h.2.2;omega)))
theorem Zq0 {l:List Zd} (hv:VSt l):∀ x∈l,1≤x.W∧x.W≤200∧1≤x.H∧x.H≤200:=fun x hx=>by
 have:=(XC hv.2 x hx).1;omega
theorem Zq1 {l:List Zd} (hv:VSt l):0≤WA l∧WA l≤800000:=by
 have h1:=ZdM (Zq0 hv)
 have:=hv.1
 omega
theorem ZkZ (l:List Zd) (hv:VSt l):Zk Xs Ms Wh [(.d (.sl (l.map Zd.enc)))] []=some ((.d (J (WA l))),[]):=by
 have h20:=hv.1
 have hval:=Zq0 hv
 clear hv
 refine Zc Xs Ms UH ZnD (by show 1≤_;decide) ?_
 simp +contextual -implicitDefEqProofs (maxSteps:=10^7) only[go_sem,seval,↓gZ,UH]
 refine Qb Xs Ms (st0:=?st0) (α:=Nat) (fun i=>[(4,.d (J (i:Int))),(3,.d (J (WA (l.take i))))]) (fun _=>[]) (fun i=>i≤l.length) (fun i=>l.length-i) 0 ?hc (by omega) ?h0 ?step
 case hc=>simp +contextual -implicitDefEqProofs (maxSteps:=10^7) only[go_sem,seval,↓gZ]<;>exact rfl
 case h0=>rfl
 case step=>
  intro i hi ih
  by_cases hlt:i<l.length
  ·obtain⟨x,hx⟩:=Z4 hlt
   have hw:=ZD (k:=i) (by omega)
   have hm:=ZsG hx
   have hst:=ZdM (l:=l.take i) (fun y hy=>hval y (List.mem_of_mem_take hy))
   have hlk:(l.take i).length≤i:=by simp;omega
   have g5:=hval x (List.mem_of_getElem? hx)
   have hxx:x.W*x.H≤200*200:=Int.mul_le_mul (by omega) (by omega) (by omega) (by omega)
   have hx0:0≤x.W*x.H:=Int.mul_nonneg (by omega) (by omega)
   obtain⟨xL,xW,xH,xF⟩:=x
   simp only at g5 hm hxx hx0
   have u0:=wi (xW*xH) (by omega) (by omega)
   have u1:=wi (WA (l.take i)+xW*xH) (by omega) (by omega)
   simp +contextual -implicitDefEqProofs (maxSteps:=10^7) only[go_sem,seval,↓gZ,hx,hlt,hw,u0,u1]
   refine ih (i+1) _ (by omega) (by omega) ?_
   simp +contextual -implicitDefEqProofs (maxSteps:=10^7) only[go_sem,seval,↓gZ,hm]
  ·have:i=l.length:=by omega
   subst this
   simp +contextual -implicitDefEqProofs (maxSteps:=10^7) only[go_sem,seval,↓gZ]
   simp
theorem Zk0 (l:List Zi) (hv:Zgc l):Zk Xs Ms Wi [(.d (.sl (l.map Zi.enc)))] []=some ((.d (J (ZbN l))),[]):=by
 have h8:=hv.1
 have hval:=ZbO hv
 clear hv
 refine Zc Xs Ms UI ZnE (by show 1≤_;decide) ?_
 simp +contextual -implicitDefEqProofs (maxSteps:=10^7) only[go_sem,seval,↓gZ,UI]
 refine Qb Xs Ms (st0:=?st0) (α:=Nat) (fun i=>[(4,.d (J (i:Int))),(3,.d (J (ZbN (l.take i))))]) (fun _=>[]) (fun i=>i≤l.length) (fun i=>l.length-i) 0 ?hc (by omega) ?h0 ?step
 case hc=>simp +contextual -implicitDefEqProofs (maxSteps:=10^7) only[go_sem,seval,↓gZ]<;>exact rfl
 case h0=>rfl
 case step=>
  intro i hi ih
  by_cases hlt:i<l.length
  ·obtain⟨x,hx⟩:=Z4 hlt
   have hw:=ZD (k:=i) (by omega)
   have hm:=Zva hx
   have hst:=ZgJ (l:=l.take i) (fun y hy=>hval y (List.mem_of_mem_take hy))
   have hlk:(l.take i).length≤i:=by simp;omega
   have g5:=ZiA (hval x (List.mem_of_getElem? hx))
   obtain⟨⟨W,H,T,K⟩,C⟩:=x
   simp only at g5 hm
   have u0:=wi (C*W) (by omega) (by omega)
   have u1:=wi (C*W*H) (by omega) (by omega)
   have u2:=wi (ZbN (l.take i)+C*W*H) (by omega) (by omega)
   simp +contextual -implicitDefEqProofs (maxSteps:=10^7) only[go_sem,seval,↓gZ,hx,hlt,hw,u0,u1,u2]
   refine ih (i+1) _ (by omega) (by omega) ?_
   simp +contextual -implicitDefEqProofs (maxSteps:=10^7) only[go_sem,seval,↓gZ,hm]
  ·have:i=l.length:=by omega
   subst this
   simp +contextual -implicitDefEqProofs (maxSteps:=10^7) only[go_sem,seval,↓gZ]
   simp
theorem Znd (sS:List Zd) (sO sD:List Zi) (sL sC:Int) (h1:VSt sS) (h2:Zgc sD) (h3:0≤sL∧sL≤100000000):Zk Xs Ms Ud [(.d (.agg [.sl (sS.map Zd.enc),.sl (sO.map Zi.enc),.sl (sD.map Zi.enc),J sL,J sC]))] []=some ((.d (J (WA sS+ZbN sD+sL))),[]):=by
 have e1:=ZkZ sS h1
 have e2:=Zk0 sD h2
 have b1:=Zq1 h1
 have b2:=ZsM h2
 have u0:=wi (WA sS+ZbN sD) (by omega) (by omega)
 have u1:=wi (WA sS+ZbN sD+sL) (by omega) (by omega)
 refine Zc Xs Ms JJ ZpU (by show 1≤_;decide) ?_
 simp +contextual -implicitDefEqProofs (maxSteps:=10^7) only[go_sem,seval,↓gZ,JJ,e1,e2,u0,u1]
def Za0 (s:Z3):Prop:=s.Stock.length≤1000000∧(∀ x∈s.Stock,x.Flaws.length≤1000000∧R64 x.W∧R64 x.H)∧s.Opn.length≤1000000∧s.Done.length≤1000000
theorem Zhu {x:Zd} (h:VPc x):R64 x.W∧R64 x.H:=by
 have:=h.1
 unfold R64
 omega
theorem ZwH {s:Z3} (h:Vj s):Za0 s:=
 ⟨by have:=h.1.1;omega,fun x hx=>⟨(ZfH h.1).2 x hx,Zhu (XC h.1.2 x hx)⟩,by have:=h.2.1.1;omega,by have:=h.2.2.1.1;omega⟩
theorem Vk (sS:List Zd) (sO sD:List Zi) (sL sC:Int) (hs:Za0 (Z3.mk sS sO sD sL sC)):Zk Xs Ms Wf [(.d (.agg [.sl (sS.map Zd.enc),.sl (sO.map Zi.enc),.sl (sD.map Zi.enc),J sL,J sC]))] []=some ((.d (.bool (decide (Vj (Z3.mk sS sO sD sL sC))))),[]):=by
 obtain⟨h1,h2,h3,h4⟩:=hs
 simp only at h1 h2 h3 h4
 have e1:=YO sS (by omega) (fun x hx=>⟨by have:=(h2 x hx).1;omega,(h2 x hx).2⟩)
 have e2:=Zez sO h3
 have e3:=Zez sD h4
 have e4:=Zv sL 0 900000
 have e5:=Zv sC 0 900000
 refine Zc Xs Ms Xo Znw (by show 1≤_;decide) ?_
 by_cases v1:VSt sS
 ·rw[decide_eq_true v1] at e1
  by_cases v2:Zgc sO
  ·rw[decide_eq_true v2] at e2
   by_cases v3:Zgc sD
   ·rw[decide_eq_true v3] at e3
    by_cases v4:0≤sL∧sL≤900000
    ·rw[decide_eq_true v4] at e4
     by_cases v5:0≤sC∧sC≤900000
     ·rw[decide_eq_true v5] at e5
      have e6:=Znd sS sO sD sL sC v1 v3 (by omega)
      simp +contextual -implicitDefEqProofs (maxSteps:=10^7) only[go_sem,seval,↓gZ,Xo,e1,e2,e3,e4,e5,e6]
      exact Zh4 ⟨fun h=>⟨v1,v2,v3,v4.1,v4.2,v5.1,v5.2,h⟩,fun h=>h.2.2.2.2.2.2.2⟩
     ·rw[decide_eq_false v5] at e5
      have hn:¬Vj (Z3.mk sS sO sD sL sC):=fun h=>v5 ⟨h.2.2.2.2.2.1,h.2.2.2.2.2.2.1⟩
      simp +contextual -implicitDefEqProofs (maxSteps:=10^7) only[go_sem,seval,↓gZ,Xo,e1,e2,e3,e4,e5,hn]
    ·rw[decide_eq_false v4] at e4
     have hn:¬Vj (Z3.mk sS sO sD sL sC):=fun h=>v4 ⟨h.2.2.2.1,h.2.2.2.2.1⟩
     simp +contextual -implicitDefEqProofs (maxSteps:=10^7) only[go_sem,seval,↓gZ,Xo,e1,e2,e3,e4,hn]
   ·rw[decide_eq_false v3] at e3
    have hn:¬Vj (Z3.mk sS sO sD sL sC):=fun h=>v3 h.2.2.1
    simp +contextual -implicitDefEqProofs (maxSteps:=10^7) only[go_sem,seval,↓gZ,Xo,e1,e2,e3,hn]
  ·rw[decide_eq_false v2] at e2
   have hn:¬Vj (Z3.mk sS sO sD sL sC):=fun h=>v2 h.2.1
   simp +contextual -implicitDefEqProofs (maxSteps:=10^7) only[go_sem,seval,↓gZ,Xo,e1,e2,hn]
 ·rw[decide_eq_false v1] at e1
  have hn:¬Vj (Z3.mk sS sO sD sL sC):=fun h=>v1 h.1
  simp +contextual -implicitDefEqProofs (maxSteps:=10^7) only[go_sem,seval,↓gZ,Xo,e1,hn]
theorem ZeP (l:List Zi) (pW pH:Int) (pT:Bool) (pK:Int) (c:Int) (hl:l.length≤1000000) (hc:∀ x∈l,R64 (x.Count-c)):Zk Xs Ms Y5 [(.d (.sl (l.map Zi.enc))),(.d (.agg [J pW,J pH,.bool pT,J pK])),(.d (J c))] [] =
  some (.tup [.own 0,(.d (.bool (U3 (Pane.mk pW pH pT pK) c false l)))],[.row 5 ((J9 l (Pane.mk pW pH pT pK) c).map Zi.enc) true false]):=by
 refine Zc Xs Ms UF ZnB (by show 3≤_;decide) ?_
 simp +contextual -implicitDefEqProofs (maxSteps:=10^7) only[go_sem,seval,↓gZ,UF]
 refine Qb Xs Ms (st0:=?st0) (α:=Nat×Bool) (fun s=>[(10,.d (J (s.1:Int))),(9,.d (.bool s.2))]) (fun s=>[(0,.row 5 ((J9 (l.take s.1) (Pane.mk pW pH pT pK) c).map Zi.enc) true false)]) (fun s=>s.1≤l.length∧U3 (Pane.mk pW pH pT pK) c s.2 (l.drop s.1)=U3 (Pane.mk pW pH pT pK) c false l) (fun s=>l.length-s.1) (0,false) ?hc ⟨by simp,by simp⟩ ?h0 ?step
 case hc=>simp +contextual -implicitDefEqProofs (maxSteps:=10^7) only[go_sem,seval,↓gZ]<;>exact rfl
 case h0=>rfl
 case step=>
  intro⟨i,b⟩ ⟨hi,hp⟩ ih
  simp only at hi hp
  by_cases hlt:i<l.length
  ·obtain⟨x,hx⟩:=Z4 hlt
   have hw:=ZD (k:=i) (by omega)
   have hm:=ZsP (Pane.mk pW pH pT pK) c hx
   have hlk:(J9 (l.take i) (Pane.mk pW pH pT pK) c).length≤i:=Nat.le_trans (List.length_filterMap_le _ _) (by simp;omega)
   have hr:((J9 (l.take i) (Pane.mk pW pH pT pK) c).length+1)*40≤140737488355328∧(J9 (l.take i) (Pane.mk pW pH pT pK) c).length≤140737488355327:=by omega
   have hcx:=hc x (List.mem_of_getElem? hx)
   rw[ZqZ hx] at hp
   obtain⟨⟨W,H,T,K⟩,C⟩:=x
   simp only[Zol] at hm hp hcx
   have u0:=wi (C-c) hcx.1 hcx.2
   by_cases he:(⟨W,H,T,K⟩:Pane)=(Pane.mk pW pH pT pK)
   ·rw[if_pos he] at hm hp
    have he':=he
    simp only[Pane.mk.injEq] at he
    by_cases h0:0<C-c
    ·have h1:0≤C-c:=by omega
     rw[if_pos h0] at hm
     rw[decide_eq_true h1] at hp
     simp +contextual -implicitDefEqProofs (maxSteps:=10^7) only[go_sem,seval,↓gZ,hx,hlt,hw,he,u0,h0,h1,hr]
     refine ih (i+1,true) _ ⟨by simp only;omega,hp⟩ (by simp only;omega) ?_
     simp +contextual -implicitDefEqProofs (maxSteps:=10^7) only[go_sem,seval,↓gZ,hm,Option.toList_some]
     try (simp[Zi.enc,he];done)
    ·rw[if_neg h0] at hm
     by_cases h1:0≤C-c
     ·rw[decide_eq_true h1] at hp
      simp +contextual -implicitDefEqProofs (maxSteps:=10^7) only[go_sem,seval,↓gZ,hx,hlt,hw,he,u0,h0,h1,hr]
      refine ih (i+1,true) _ ⟨by simp only;omega,hp⟩ (by simp only;omega) ?_
      simp +contextual -implicitDefEqProofs (maxSteps:=10^7) only[go_sem,seval,↓gZ,hm,Option.toList_none,List.append_nil]
     ·rw[decide_eq_false h1] at hp
      simp +contextual -implicitDefEqProofs (maxSteps:=10^7) only[go_sem,seval,↓gZ,hx,hlt,hw,he,u0,h0,h1,hr]
      refine ih (i+1,false) _ ⟨by simp only;omega,hp⟩ (by simp only;omega) ?_
      simp +contextual -implicitDefEqProofs (maxSteps:=10^7) only[go_sem,seval,↓gZ,hm,Option.toList_none,List.append_nil]
   ·rw[if_neg he] at hm hp
    simp only[Pane.mk.injEq] at he
    by_cases h0:0<C
    ·rw[if_pos h0] at hm
     simp +contextual -implicitDefEqProofs (maxSteps:=10^7) only[go_sem,seval,↓gZ,hx,hlt,hw,he,h0,hr]
     refine ih (i+1,b) _ ⟨by simp only;omega,hp⟩ (by simp only;omega) ?_
     simp +contextual -implicitDefEqProofs (maxSteps:=10^7) only[go_sem,seval,↓gZ,hm,Option.toList_some]
     try (simp[Zi.enc];done)
    ·rw[if_neg h0] at hm
     simp +contextual -implicitDefEqProofs (maxSteps:=10^7) only[go_sem,seval,↓gZ,hx,hlt,hw,he,h0,hr]
     refine ih (i+1,b) _ ⟨by simp only;omega,hp⟩ (by simp only;omega) ?_
     simp +contextual -implicitDefEqProofs (maxSteps:=10^7) only[go_sem,seval,↓gZ,hm,Option.toList_none,List.append_nil]
  ·have:i=l.length:=by omega
   subst this
   rw[ZsO] at hp
   simp +contextual -implicitDefEqProofs (maxSteps:=10^7) only[go_sem,seval,↓gZ,hp]
   simp
theorem ZwI (l:List Zi) (i:Nat) (W H:Int) (T:Bool) (K C:Int):(l.map Zi.enc).set i (.agg [J W,J H,.bool T,J K,J C])=(l.set i ⟨⟨W,H,T,K⟩,C⟩).map Zi.enc:=(List.map_set (f:=Zi.enc) (l:=l) (i:=i) (a:=⟨⟨W,H,T,K⟩,C⟩)).symm
theorem ZcJ (l:List Zi) (pW pH:Int) (pT:Bool) (pK:Int) (c:Int) (hl:l.length≤1000000) (hc:∀ x∈l,R64 (x.Count+c)):Zk Xs Ms VN [(.d (.sl (l.map Zi.enc))),(.d (.agg [J pW,J pH,.bool pT,J pK])),(.d (J c))] [] =
  some (.own 0,[.row 5 ((ZaI (Pane.mk pW pH pT pK) c l).map Zi.enc) true false]):=by
 have hr0:l.length*40≤140737488355328∧l.length≤140737488355328:=by omega
 have hr1:(l.length+1)*40≤140737488355328∧l.length≤140737488355327:=by omega
 refine Zc Xs Ms JH ZpS (by show 3≤_;decide) ?_
 simp +contextual -implicitDefEqProofs (maxSteps:=10^7) only[go_sem,seval,↓gZ,JH,hr0]
 refine Qb Xs Ms (st0:=?st0) (α:=Nat) (fun k=>[(8,.d (J (k:Int)))]) (fun _=>[]) (fun k=>k≤l.length∧(Pane.mk pW pH pT pK)∉(l.take k).map Zi.Pane) (fun k=>l.length-k) 0 ?hc ⟨by simp,by simp⟩ ?h0 ?step
 case hc=>simp +contextual -implicitDefEqProofs (maxSteps:=10^7) only[go_sem,seval,↓gZ]<;>exact rfl
 case h0=>rfl
 case step=>
  intro k ⟨hk,hp⟩ ih
  by_cases hlt:k<l.length
  ·obtain⟨x,hx⟩:=Z4 hlt
   have hw:=ZD (k:=k) (by omega)
   have hcx:=hc x (List.mem_of_getElem? hx)
   have hpt:=ZdO hx
   have hat:=Zui (Pane.mk pW pH pT pK) c l k x hx
   obtain⟨⟨W,H,T,K⟩,C⟩:=x
   simp only at hcx hpt hat
   have u0:=wi (C+c) hcx.1 hcx.2
   by_cases he:(⟨W,H,T,K⟩:Pane)=(Pane.mk pW pH pT pK)
   ·rw[hat he hp]
    have he':=he
    simp only[Pane.mk.injEq] at he
    simp +contextual -implicitDefEqProofs (maxSteps:=10^7) only[go_sem,seval,↓gZ,hx,hlt,hw,he,u0,ZwI]
    try (simp[he];done)
   ·have he':=he
    simp only[Pane.mk.injEq] at he
    simp +contextual -implicitDefEqProofs (maxSteps:=10^7) only[go_sem,seval,↓gZ,hx,hlt,hw,he]
    refine ih (k+1) _ ⟨by omega,?_⟩ (by omega) ?_
    ·rw[hpt,List.mem_append]
     intro h
     rcases h with h | h
     ·exact hp h
     ·exact he' (List.mem_singleton.1 h).symm
    ·simp +contextual -implicitDefEqProofs (maxSteps:=10^7) only[go_sem,seval,↓gZ]
  ·have:k=l.length:=by omega
   subst this
   rw[List.take_of_length_le (Nat.le_refl _)] at hp
   rw[Zuj (Pane.mk pW pH pT pK) c l hp]
   simp +contextual -implicitDefEqProofs (maxSteps:=10^7) only[go_sem,seval,↓gZ,hr1]
   try (simp[Zi.enc];done)
theorem Zne (l:List Zd) (qL qW qH:Int) (qF:List Box) (hl:l.length≤100000) (hF:∀ x∈l,x.Flaws.length≤1000000) (hq:qF.length≤1000000):Zk Xs Ms Ue [(.d (.sl (l.map Zd.enc))),(.d (.agg [J qL,J qW,J qH,.sl (qF.map Box.enc)]))] [] =
  some (.own 0,[.row 4 ((YR (Zd.mk qL qW qH qF) l).map Zd.enc) true false]):=by
 have eq:=Vi qL qW qH qF hq
 refine Zc Xs Ms JK ZpV (by show 2≤_;decide) ?_
 simp +contextual -implicitDefEqProofs (maxSteps:=10^7) only[go_sem,seval,↓gZ,JK]
 refine Qb Xs Ms (st0:=?st0) (α:=Nat×Bool×List Zd) (fun s=>[(7,.d (J (s.1:Int))),(6,.d (.bool s.2.1))]) (fun s=>[(0,.row 4 (s.2.2.map Zd.enc) true false)]) (fun s=>s.1≤l.length∧s.2.2++(if s.2.1 then l.drop s.1 else YR (Zd.mk qL qW qH qF) (l.drop s.1))=YR (Zd.mk qL qW qH qF) l∧s.2.2.length≤s.1+s.2.1.toNat) (fun s=>l.length-s.1) (0,false,[]) ?hc ⟨by simp,by simp,by simp⟩ ?h0 ?step
 case hc=>simp +contextual -implicitDefEqProofs (maxSteps:=10^7) only[go_sem,seval,↓gZ]<;>exact rfl
 case h0=>rfl
 case step=>
  intro⟨i,b,o⟩ ⟨hi,hp,ho⟩ ih
  simp only at hi hp ho
  have hb:=Bool.toNat_le b
  by_cases hlt:i<l.length
  ·obtain⟨x,hx⟩:=Z4 hlt
   have hw:=ZD (k:=i) (by omega)
   have hr:(o.length+1)*48≤140737488355328∧o.length≤140737488355327:=by omega
   have hr2:∀ n:Nat,n=o.length+1→(n+1)*48≤140737488355328∧n≤140737488355327:=fun n hn=>by omega
   have hr2:=hr2 _ rfl
   have hr3:o.length≤140737488355326:=by omega
   have e:=Vi x.Label x.W x.H x.Flaws (hF x (List.mem_of_getElem? hx))
   rw[ZsN hx] at hp
   have hd:l.drop i=x :: l.drop (i+1):=by
    obtain⟨h1,h2⟩:=List.getElem?_eq_some_iff.1 hx
    rw[List.drop_eq_getElem_cons h1,h2]
   obtain⟨L,W,H,F⟩:=x
   simp only at e hp
   cases b with
   | true=>
    simp only[Bool.toNat_true] at ho
    rw[if_pos rfl] at hp
    simp +contextual -implicitDefEqProofs (maxSteps:=10^7) only[go_sem,seval,↓gZ,hx,hlt,hw,e,hr]
    refine ih (i+1,true,o++[⟨L,W,H,F⟩]) _ ⟨by simp only;omega,?_,by simp;omega⟩ (by simp only;omega) ?_
    ·rw[← hp,hd];simp
    ·simp +contextual -implicitDefEqProofs (maxSteps:=10^7) only[go_sem,seval,↓gZ]
     try (simp[Zd.enc];done)
   | false=>
    simp only[Bool.toNat_false] at ho
    rw[if_neg (by simp)] at hp
    by_cases hc:qL<L
    ·rw[if_pos hc] at hp
     simp +contextual -implicitDefEqProofs (maxSteps:=10^7) only[go_sem,seval,↓gZ,hx,hlt,hw,e,eq,hc,hr,hr2,hr3]
     refine ih (i+1,true,o++[(Zd.mk qL qW qH qF),⟨L,W,H,F⟩]) _ ⟨by simp only;omega,?_,by simp;omega⟩ (by simp only;omega) ?_
     ·rw[← hp,hd];simp
     ·simp +contextual -implicitDefEqProofs (maxSteps:=10^7) only[go_sem,seval,↓gZ]
      try (simp[Zd.enc];done)
    ·rw[if_neg hc] at hp
     simp +contextual -implicitDefEqProofs (maxSteps:=10^7) only[go_sem,seval,↓gZ,hx,hlt,hw,e,hc,hr]
     refine ih (i+1,false,o++[⟨L,W,H,F⟩]) _ ⟨by simp only;omega,?_,by simp;omega⟩ (by simp only;omega) ?_
     ·rw[← hp];simp
     ·simp +contextual -implicitDefEqProofs (maxSteps:=10^7) only[go_sem,seval,↓gZ]
      try (simp[Zd.enc];done)
  ·have:i=l.length:=by omega
   subst this
   have hr:(o.length+1)*48≤140737488355328∧o.length≤140737488355327:=by omega
   cases b with
   | true=>
    simp at hp
    simp +contextual -implicitDefEqProofs (maxSteps:=10^7) only[go_sem,seval,↓gZ]
    rw[hp]
   | false=>
    simp[YR] at hp
    simp +contextual -implicitDefEqProofs (maxSteps:=10^7) only[go_sem,seval,↓gZ,eq,hr]
    rw[← hp]
    try (simp[Zd.enc];done)
def Zc7 (p:Zd) (l:List Zd):Prop:=(VSt l∧VPc p)∧VSt (YR p l)
instance (p:Zd) (l:List Zd):Decidable (Zc7 p l):=by unfold Zc7;infer_instance
theorem Zgs (l:List Zd) (qL qW qH:Int) (qF:List Box) (hl:l.length≤100000) (hS:∀ x∈l,x.Flaws.length≤1000000∧R64 x.W∧R64 x.H) (hq:qF.length≤1000000∧R64 qW∧R64 qH):Zk Xs Ms VM [(.d (.sl (l.map Zd.enc))),(.d (.agg [J qL,J qW,J qH,.sl (qF.map Box.enc)]))] [] =
  some (.tup [.own 0,(.d (.bool (decide (Zc7 (Zd.mk qL qW qH qF) l))))],[.row 4 ((if Zc7 (Zd.mk qL qW qH qF) l then YR (Zd.mk qL qW qH qF) l else []).map Zd.enc) true false]):=by
 have e1:=YO l (by omega) (fun x hx=>⟨by have:=(hS x hx).1;omega,(hS x hx).2⟩)
 have e2:=Zey qL qW qH qF (by omega) hq.2.1 hq.2.2
 have e3:=Zne l qL qW qH qF hl (fun x hx=>(hS x hx).1) hq.1
 have e4:=YO (YR (Zd.mk qL qW qH qF) l) (by rw[Zoj];omega) (fun x hx=>by
  rcases Zok _ _ _ hx with rfl | hx
  ·exact⟨by simp only;omega,hq.2⟩
  ·exact⟨by have:=(hS x hx).1;omega,(hS x hx).2⟩)
 refine Zc Xs Ms YW ZpR (by show 2≤_;decide) ?_
 by_cases v1:VSt l
 ·rw[decide_eq_true v1] at e1
  by_cases v2:VPc (Zd.mk qL qW qH qF)
  ·rw[decide_eq_true v2] at e2
   by_cases v3:VSt (YR (Zd.mk qL qW qH qF) l)
   ·rw[decide_eq_true v3] at e4
    have h:Zc7 (Zd.mk qL qW qH qF) l:=⟨⟨v1,v2⟩,v3⟩
    rw[decide_eq_true h,if_pos h]
    simp +contextual -implicitDefEqProofs (maxSteps:=10^7) only[go_sem,seval,↓gZ,YW,e1,e2,e3,e4]
   ·rw[decide_eq_false v3] at e4
    have h:¬Zc7 (Zd.mk qL qW qH qF) l:=fun h=>v3 h.2
    rw[decide_eq_false h,if_neg h]
    simp +contextual -implicitDefEqProofs (maxSteps:=10^7) only[go_sem,seval,↓gZ,YW,e1,e2,e3,e4]
  ·rw[decide_eq_false v2] at e2
   have h:¬Zc7 (Zd.mk qL qW qH qF) l:=fun h=>v2 h.1.2
   rw[decide_eq_false h,if_neg h]
   simp +contextual -implicitDefEqProofs (maxSteps:=10^7) only[go_sem,seval,↓gZ,YW,e1,e2]
 ·rw[decide_eq_false v1] at e1
  have h:¬Zc7 (Zd.mk qL qW qH qF) l:=fun h=>v1 h.1.1
  rw[decide_eq_false h,if_neg h]
  simp +contextual -implicitDefEqProofs (maxSteps:=10^7) only[go_sem,seval,↓gZ,YW,e1]
theorem Zpy (l:List Zd) (hl:l.length≤1000000) (hF:∀ x∈l,x.Flaws.length≤1000000):Zk Xs Ms YV [(.d (.sl (l.map Zd.enc))),(.d (J ((-1))))] []=some (.own 0,[.row 4 (l.map Zd.enc) true false]):=by
 refine Zc Xs Ms WM ZjD (by show 2≤_;decide) ?_
 simp +contextual -implicitDefEqProofs (maxSteps:=10^7) only[go_sem,seval,↓gZ,WM]
 refine Qb Xs Ms (st0:=?st0) (α:=Nat) (fun i=>[(6,.d (J (i:Int)))]) (fun i=>[(0,.row 4 ((l.take i).map Zd.enc) true false)]) (fun i=>i≤l.length) (fun i=>l.length-i) 0 ?hc (by omega) ?h0 ?step
 case hc=>simp +contextual -implicitDefEqProofs (maxSteps:=10^7) only[go_sem,seval,↓gZ]<;>exact rfl
 case h0=>rfl
 case step=>
  intro i hi ih
  by_cases hlt:i<l.length
  ·obtain⟨x,hx⟩:=Z4 hlt
   have hw:=ZD (k:=i) (by omega)
   have hia:¬(i:Int)=-1:=by omega
   have hm:l.take (i+1)=l.take i++[x]:=by rw[List.take_add_one,hx];simp
   have hlk:(l.take i).length≤i:=by simp;omega
   have hr:((l.take i).length+1)*48≤140737488355328∧(l.take i).length≤140737488355327:=by omega
   have e:=Vi x.Label x.W x.H x.Flaws (hF x (List.mem_of_getElem? hx))
   obtain⟨L,W,H,F⟩:=x
   simp only at e
   simp +contextual -implicitDefEqProofs (maxSteps:=10^7) only[go_sem,seval,↓gZ,hx,hlt,hw,hia,e,hr]
   refine ih (i+1) _ (by omega) (by omega) ?_
   simp +contextual -implicitDefEqProofs (maxSteps:=10^7) only[go_sem,seval,↓gZ,hm]
   first | rfl | (simp;done) | (simp;rfl)
  ·have:i=l.length:=by omega
   subst this
   simp +contextual -implicitDefEqProofs (maxSteps:=10^7) only[go_sem,seval,↓gZ]
   simp
theorem V7 (sS:List Zd) (sO sD:List Zi) (sL sC:Int) (hs:Za0 (Z3.mk sS sO sD sL sC)):Zk Xs Ms Ua [(.d (.agg [.sl (sS.map Zd.enc),.sl (sO.map Zi.enc),.sl (sD.map Zi.enc),J sL,J sC]))] []=some (.agg [.own 0,.own 1,.own 2,(.d (J sL)),(.d (J sC))],[.row 4 (sS.map Zd.enc) true false,.row 5 (sO.map Zi.enc) true false,.row 5 (sD.map Zi.enc) true false]):=by
 obtain⟨h1,h2,h3,h4⟩:=hs
 simp only at h1 h2 h3 h4
 have e1:=Zpy sS h1 (fun x hx=>(h2 x hx).1)
 have r1:sO.length*40≤140737488355328∧sO.length≤140737488355328:=by omega
 have r2:sD.length*40≤140737488355328∧sD.length≤140737488355328:=by omega
 refine Zc Xs Ms JG ZpQ (by show 1≤_;decide) ?_
 simp +contextual -implicitDefEqProofs (maxSteps:=10^7) only[go_sem,seval,↓gZ,JG,ZmJ,e1,r1,r2]
theorem Zq2 (sS:List Zd) (sO sD:List Zi) (sL sC:Int) (a:Nat) (qL qW qH:Int) (qF:List Box) (hx:sS[a]?=some (Zd.mk qL qW qH qF)) (hl:sO.length≤1000000) (hS:sS.length≤1000000):Zk Xs Ms Zah [(.d (.agg [.sl (sS.map Zd.enc),.sl (sO.map Zi.enc),.sl (sD.map Zi.enc),J sL,J sC])),(.d (J a))] []=some (.agg [(.d (J qW)),(.d (J qH)),.own 0],[.row 4 ((sO.map Zi.Pane).map Pane.enc) true false]):=by
 have hlt:=(List.getElem?_eq_some_iff.1 hx).1
 refine Zc Xs Ms ZbY Zs7 (by show 2≤_;decide) ?_
 simp +contextual -implicitDefEqProofs (maxSteps:=10^7) only[go_sem,seval,↓gZ,ZbY,hx,hlt]
 refine Qb Xs Ms (st0:=?st0) (α:=Nat) (fun i=>[(6,.d (J (i:Int)))]) (fun i=>[(3,.row 4 (((sO.take i).map Zi.Pane).map Pane.enc) true false)]) (fun i=>i≤sO.length) (fun i=>sO.length-i) 0 ?hc (by omega) ?h0 ?step
 case hc=>simp +contextual -implicitDefEqProofs (maxSteps:=10^7) only[go_sem,seval,↓gZ]<;>exact rfl
 case h0=>rfl
 case step=>
  intro i hi ih
  by_cases hlt:i<sO.length
  ·obtain⟨x,hx⟩:=Z4 hlt
   have hw:=ZD (k:=i) (by omega)
   have hm:=ZdO hx
   have hlk:(sO.take i).length≤i:=by simp;omega
   have hr:((sO.take i).length+1)*32≤140737488355328∧(sO.take i).length≤140737488355327:=by omega
   obtain⟨⟨W,H,T,K⟩,C⟩:=x
   simp only at hm
   simp +contextual -implicitDefEqProofs (maxSteps:=10^7) only[go_sem,seval,↓gZ,hx,hlt,hw,hr]
   refine ih (i+1) _ (by omega) (by omega) ?_
   simp +contextual -implicitDefEqProofs (maxSteps:=10^7) only[go_sem,seval,↓gZ,hm]
   first | rfl | (simp;done) | (simp;rfl)
  ·have:i=sO.length:=by omega
   subst this
   simp +contextual -implicitDefEqProofs (maxSteps:=10^7) only[go_sem,seval,↓gZ]
   simp
def SmS (s:Z3):Prop:=Za0 s∧s.Stock.length≤100000∧-1000000000≤s.Lost∧s.Lost≤1000000000∧-1000000000≤s.Came∧s.Came≤1000000000
theorem Zom {s:Z3} (h:Vj s):SmS s:=⟨ZwH h,by have:=h.1.1;omega,by have:=h.2.2.2.1;omega,by have:=h.2.2.2.2.1;omega,by have:=h.2.2.2.2.2.1;omega,by have:=h.2.2.2.2.2.2.1;omega⟩
def I5 (n:Int):Prop:=-100000≤n∧n≤100000
theorem ZwJ {a b:Int} (ha:I5 a) (hb:I5 b) : -10000000000≤a*b∧a*b≤10000000000:=by
 unfold I5 at ha hb
 have h1:a.natAbs≤100000:=by omega
 have h2:b.natAbs≤100000:=by omega
 have h3:(a*b).natAbs≤100000*100000:=by rw[Int.natAbs_mul];exact Nat.mul_le_mul h1 h2
 omega
theorem ZwK {a:Int} (h:I5 a):R64 a:=by unfold I5 at h;unfold R64;omega
theorem ZgK (sS:List Zd) (sO sD:List Zi) (sL sC:Int) (eK eL eX eY eW eH epW epH:Int) (epT:Bool) (epK eC eo ea ep:Int) (et:Bool) (ek:List Zj) (hs:SmS (Z3.mk sS sO sD sL sC)) (hk:eK=0) (hW:I5 eW) (hH:I5 eH):Zk Xs Ms Xt [(.d (.agg [.sl (sS.map Zd.enc),.sl (sO.map Zi.enc),.sl (sD.map Zi.enc),J sL,J sC])),(.d (.agg [J eK,J eL,J eX,J eY,J eW,J eH,J epW,J epH,.bool epT,J epK,J eC,J eo,J ea,J ep,.bool et,.sl (ek.map Zj.enc)]))] [] =
  some (.tup [.agg [.own 0,.d (.sl (sO.map Zi.enc)),.d (.sl (sD.map Zi.enc)),(.d (J sL)),(.d (J (sC+eW*eH)))],(.d (.bool (decide ((Zc7 ⟨eL,eW,eH,[]⟩ sS∧eX=0)∧eY=0))))],[.row 4 ((if Zc7 ⟨eL,eW,eH,[]⟩ sS then YR ⟨eL,eW,eH,[]⟩ sS else []).map Zd.enc) true false]):=by
 obtain⟨⟨h1,h2,h3,h4⟩,h5,h6,h7,h8,h9⟩:=hs
 simp only at h1 h2 h3 h4 h5 h6 h7 h8 h9
 subst hk
 have hm:=ZwJ hW hH
 have e1:=Yu sS eL (by omega)
 have e2:=Zgs sS eL eW eH [] h5 h2 ⟨by simp,ZwK hW,ZwK hH⟩
 have u1:=wi (eW*eH) (by omega) (by omega)
 have u2:=wi (sC+eW*eH) (by omega) (by omega)
 simp only[List.map_nil] at e2
 generalize (if Zc7 ⟨eL,eW,eH,[]⟩ sS then YR ⟨eL,eW,eH,[]⟩ sS else [])=R at e2 ⊢
 by_cases v1:Zc7 ⟨eL,eW,eH,[]⟩ sS
 ·rw[decide_eq_true v1] at e2
  refine Zc Xs Ms Qe WF (by show 2≤_;decide) ?_
  by_cases v2:eX=0
  ·simp +contextual -implicitDefEqProofs (maxSteps:=10^7) only[go_sem,seval,↓gZ,Qe,e1,e2,u1,u2,v2]
   all_goals simp[v1]
  ·simp +contextual -implicitDefEqProofs (maxSteps:=10^7) only[go_sem,seval,↓gZ,Qe,e1,e2,u1,u2,v2]
   all_goals simp
 ·rw[decide_eq_false v1] at e2
  refine Zc Xs Ms Qe WF (by show 2≤_;decide) ?_
  simp +contextual -implicitDefEqProofs (maxSteps:=10^7) only[go_sem,seval,↓gZ,Qe,e1,e2,u1,u2,v1]
theorem Zka (sS:List Zd) (sO sD:List Zi) (sL sC:Int) (eK eL eX eY eW eH epW epH:Int) (epT:Bool) (epK eC eo ea ep:Int) (et:Bool) (ek:List Zj) (hs:SmS (Z3.mk sS sO sD sL sC)) (hk:¬eK=0) (hf:Wy 0 sS eL<0):Zk Xs Ms Xt [(.d (.agg [.sl (sS.map Zd.enc),.sl (sO.map Zi.enc),.sl (sD.map Zi.enc),J sL,J sC])),(.d (.agg [J eK,J eL,J eX,J eY,J eW,J eH,J epW,J epH,.bool epT,J epK,J eC,J eo,J ea,J ep,.bool et,.sl (ek.map Zj.enc)]))] [] =
  some (.tup [.agg [.own 0,.own 1,.own 2,(.d (J 0)),(.d (J 0))],(.d (.bool false))],[.row 4 [] true false,.row 5 [] true false,.row 5 [] true false]):=by
 have e1:=Yu sS eL (by have:=hs.2.1;simp only at this;omega)
 refine Zc Xs Ms Qe WF (by show 2≤_;decide) ?_
 simp +contextual -implicitDefEqProofs (maxSteps:=10^7) only[go_sem,seval,↓gZ,Qe,e1,hk,hf]
theorem ZgL (sS:List Zd) (sO sD:List Zi) (sL sC:Int) (eK eL eX eY eW eH epW epH:Int) (epT:Bool) (epK eC eo ea ep:Int) (et:Bool) (ek:List Zj) (hs:SmS (Z3.mk sS sO sD sL sC)) (hk:eK=5) (a:Nat) (hf:Wy 0 sS eL=(a:Int)) (qL qW qH:Int) (qF:List Box) (hx:sS[a]?=some (Zd.mk qL qW qH qF)) (hW:I5 qW) (hH:I5 qH):Zk Xs Ms Xt [(.d (.agg [.sl (sS.map Zd.enc),.sl (sO.map Zi.enc),.sl (sD.map Zi.enc),J sL,J sC])),(.d (.agg [J eK,J eL,J eX,J eY,J eW,J eH,J epW,J epH,.bool epT,J epK,J eC,J eo,J ea,J ep,.bool et,.sl (ek.map Zj.enc)]))] [] =
  some (.tup [.agg [.own 0,.d (.sl (sO.map Zi.enc)),.d (.sl (sD.map Zi.enc)),(.d (J (sL+qW*qH))),(.d (J sC))],(.d (.bool true))],[.row 4 ((sS.eraseIdx a).map Zd.enc) true false]):=by
 obtain⟨⟨h1,h2,h3,h4⟩,h5,h6,h7,h8,h9⟩:=hs
 simp only at h1 h2 h3 h4 h5 h6 h7 h8 h9
 subst hk
 have hm:=ZwJ hW hH
 have e1:=Yu sS eL (by omega)
 rw[hf] at e1
 have hlt:=(List.getElem?_eq_some_iff.1 hx).1
 have h0:¬(a:Int)<0:=by omega
 have e2:=Vi qL qW qH qF (h2 _ (List.mem_of_getElem? hx)).1
 have e3:=ZdN sS a h1 (fun x hx=>(h2 x hx).1)
 have u1:=wi (qW*qH) (by omega) (by omega)
 have u2:=wi (sL+qW*qH) (by omega) (by omega)
 refine Zc Xs Ms Qe WF (by show 2≤_;decide) ?_
 simp +contextual -implicitDefEqProofs (maxSteps:=10^7) only[go_sem,seval,↓gZ,Qe,e1,e2,e3,h0,hlt,hx,u1,u2]
theorem Zhv (sS:List Zd) (sO sD:List Zi) (sL sC:Int) (eK eL eX eY eW eH epW epH:Int) (epT:Bool) (epK eC eo ea ep:Int) (et:Bool) (ek:List Zj) (hv:Vj (Z3.mk sS sO sD sL sC)) (hk:eK=1) (a:Nat) (hf:Wy 0 sS eL=(a:Int)) (qL qW qH:Int) (qF:List Box) (hx:sS[a]?=some (Zd.mk qL qW qH qF)):Zk Xs Ms Xt [(.d (.agg [.sl (sS.map Zd.enc),.sl (sO.map Zi.enc),.sl (sD.map Zi.enc),J sL,J sC])),(.d (.agg [J eK,J eL,J eX,J eY,J eW,J eH,J epW,J epH,.bool epT,J epK,J eC,J eo,J ea,J ep,.bool et,.sl (ek.map Zj.enc)]))] [] =
  some (.tup [.agg [.own 0,.d (.sl (sO.map Zi.enc)),.d (.sl (sD.map Zi.enc)),(.d (J sL)),(.d (J sC))],(.d (.bool (decide (Zc7 ⟨qL,qW,qH,qF++[⟨eX,eY,eW,eH⟩]⟩ (sS.eraseIdx a)))))],[.row 4 ((if Zc7 ⟨qL,qW,qH,qF++[⟨eX,eY,eW,eH⟩]⟩ (sS.eraseIdx a) then YR ⟨qL,qW,qH,qF++[⟨eX,eY,eW,eH⟩]⟩ (sS.eraseIdx a) else []).map Zd.enc) true false]):=by
 obtain⟨⟨h1,h2,h3,h4⟩,h5,h6,h7,h8,h9⟩:=Zom hv
 simp only at h1 h2 h3 h4 h5 h6 h7 h8 h9
 subst hk
 have e1:=Yu sS eL (by omega)
 rw[hf] at e1
 have hlt:=(List.getElem?_eq_some_iff.1 hx).1
 have h0:¬(a:Int)<0:=by omega
 have hqF:=h2 _ (List.mem_of_getElem? hx)
 simp only at hqF
 have hel:=ZkW sS a
 have e2:=Vi qL qW qH qF hqF.1
 have e3:=ZdN sS a h1 (fun x hx=>(h2 x hx).1)
 have hr:(qF.length+1)*32≤140737488355328∧qF.length≤140737488355327:=by omega
 have hq6:=(XC hv.1.2 _ (List.mem_of_getElem? hx)).1.2.2.2.2.2.2
 simp only at hq6
 have e4:=Zgs (sS.eraseIdx a) qL qW qH (qF++[⟨eX,eY,eW,eH⟩]) (by omega) (fun x hx=>h2 x (List.mem_of_mem_eraseIdx hx)) ⟨by simp;omega,hqF.2⟩
 rw[List.map_append] at e4
 simp only[List.map_cons,List.map_nil,Box.enc] at e4
 generalize (if Zc7 ⟨qL,qW,qH,qF++[⟨eX,eY,eW,eH⟩]⟩ (sS.eraseIdx a) then YR ⟨qL,qW,qH,qF++[⟨eX,eY,eW,eH⟩]⟩ (sS.eraseIdx a) else [])=R at e4 ⊢
 generalize decide (Zc7 ⟨qL,qW,qH,qF++[⟨eX,eY,eW,eH⟩]⟩ (sS.eraseIdx a))=V at e4 ⊢
 refine Zc Xs Ms Qe WF (by show 2≤_;decide) ?_
 simp +contextual -implicitDefEqProofs (maxSteps:=10^7) only[go_sem,seval,↓gZ,Qe,e1,e2,e3,e4,h0,hlt,hx,hr]
def Zju (l:Zi):Prop:=VP l.Pane∧1≤l.Count∧l.Count≤24
instance (l:Zi):Decidable (Zju l):=by unfold Zju;infer_instance
theorem Zkb (sS:List Zd) (sO sD:List Zi) (sL sC:Int) (eK eL eX eY eW eH epW epH:Int) (epT:Bool) (epK eC eo ea ep:Int) (et:Bool) (ek:List Zj) (hl:¬Zju ⟨⟨epW,epH,epT,epK⟩,eC⟩):Zk Xs Ms Yr [(.d (.agg [.sl (sS.map Zd.enc),.sl (sO.map Zi.enc),.sl (sD.map Zi.enc),J sL,J sC])),(.d (.agg [J eK,J eL,J eX,J eY,J eW,J eH,J epW,J epH,.bool epT,J epK,J eC,J eo,J ea,J ep,.bool et,.sl (ek.map Zj.enc)]))] [] =
  some (.tup [.agg [.own 0,.own 1,.own 2,(.d (J 0)),(.d (J 0))],(.d (.bool false))],[.row 4 [] true false,.row 5 [] true false,.row 5 [] true false]):=by
 have e1:=Vh epW epH epT epK
 have e2:=Zv eC 1 24
 refine Zc Xs Ms Xn ZcQ (by show 2≤_;decide) ?_
 by_cases v1:VP ⟨epW,epH,epT,epK⟩
 ·have v2:¬(1≤eC∧eC≤24):=fun h=>hl ⟨v1,h⟩
  rw[decide_eq_true v1] at e1
  rw[decide_eq_false v2] at e2
  simp +contextual -implicitDefEqProofs (maxSteps:=10^7) only[go_sem,seval,↓gZ,Xn,e1,e2]
 ·rw[decide_eq_false v1] at e1
  simp +contextual -implicitDefEqProofs (maxSteps:=10^7) only[go_sem,seval,↓gZ,Xn,e1]
theorem Zhw (sS:List Zd) (sO sD:List Zi) (sL sC:Int) (eK eL eX eY eW eH epW epH:Int) (epT:Bool) (epK eC eo ea ep:Int) (et:Bool) (ek:List Zj) (hv:Vj (Z3.mk sS sO sD sL sC)) (hl:Zju ⟨⟨epW,epH,epT,epK⟩,eC⟩) (hk:eK=2):Zk Xs Ms Yr [(.d (.agg [.sl (sS.map Zd.enc),.sl (sO.map Zi.enc),.sl (sD.map Zi.enc),J sL,J sC])),(.d (.agg [J eK,J eL,J eX,J eY,J eW,J eH,J epW,J epH,.bool epT,J epK,J eC,J eo,J ea,J ep,.bool et,.sl (ek.map Zj.enc)]))] [] =
  some (.tup [.agg [.d (.sl (sS.map Zd.enc)),.own 0,.d (.sl (sD.map Zi.enc)),(.d (J sL)),(.d (J sC))],(.d (.bool true))],[.row 5 ((ZaI ⟨epW,epH,epT,epK⟩ eC sO).map Zi.enc) true false]):=by
 have e1:=Vh epW epH epT epK
 have e2:=Zv eC 1 24
 rw[decide_eq_true hl.1] at e1
 rw[decide_eq_true hl.2] at e2
 subst hk
 have e3:=ZcJ sO epW epH epT epK eC (by have:=hv.2.1.1;simp only at this;omega) (fun x hx=>by have:=(ZbO hv.2.1 x hx).2;have:=hl.2;simp only at this;unfold R64;omega)
 refine Zc Xs Ms Xn ZcQ (by show 2≤_;decide) ?_
 simp +contextual -implicitDefEqProofs (maxSteps:=10^7) only[go_sem,seval,↓gZ,Xn,e1,e2,e3]
theorem Zhx (sS:List Zd) (sO sD:List Zi) (sL sC:Int) (eK eL eX eY eW eH epW epH:Int) (epT:Bool) (epK eC eo ea ep:Int) (et:Bool) (ek:List Zj) (hv:Vj (Z3.mk sS sO sD sL sC)) (hl:Zju ⟨⟨epW,epH,epT,epK⟩,eC⟩) (hk:¬eK=2):Zk Xs Ms Yr [(.d (.agg [.sl (sS.map Zd.enc),.sl (sO.map Zi.enc),.sl (sD.map Zi.enc),J sL,J sC])),(.d (.agg [J eK,J eL,J eX,J eY,J eW,J eH,J epW,J epH,.bool epT,J epK,J eC,J eo,J ea,J ep,.bool et,.sl (ek.map Zj.enc)]))] [] =
  some (.tup [.agg [.d (.sl (sS.map Zd.enc)),.own 0,.own 1,(.d (J (sL+eC*epW*epH))),(.d (J sC))],(.d (.bool (U3 ⟨epW,epH,epT,epK⟩ eC false sD)))],[.row 5 ((ZaI ⟨epW,epH,epT,epK⟩ eC sO).map Zi.enc) true false,.row 5 ((J9 sD ⟨epW,epH,epT,epK⟩ eC).map Zi.enc) true false]):=by
 have e1:=Vh epW epH epT epK
 have e2:=Zv eC 1 24
 rw[decide_eq_true hl.1] at e1
 rw[decide_eq_true hl.2] at e2
 have hla:=ZiA hl
 have h6:=hv.2.2.2
 simp only at hla h6
 have e3:=ZcJ sO epW epH epT epK eC (by have:=hv.2.1.1;simp only at this;omega) (fun x hx=>by have:=(ZbO hv.2.1 x hx).2;have:=hl.2;simp only at this;unfold R64;omega)
 have e4:=ZeP sD epW epH epT epK eC (by have:=hv.2.2.1.1;simp only at this;omega) (fun x hx=>by have:=(ZbO hv.2.2.1 x hx).2;have:=hl.2;simp only at this;unfold R64;omega)
 have u0:=wi (eC*epW) (by omega) (by omega)
 have u1:=wi (eC*epW*epH) (by omega) (by omega)
 have u2:=wi (sL+eC*epW*epH) (by omega) (by omega)
 refine Zc Xs Ms Xn ZcQ (by show 2≤_;decide) ?_
 simp +contextual -implicitDefEqProofs (maxSteps:=10^7) only[go_sem,seval,↓gZ,Xn,e1,e2,e3,e4,hk,u0,u1,u2]
theorem ZeQ {ps:List Pane}:∀ {b:BT} {x y w h:Int},Uo ps b w h=true→∀ c∈plc b x y w h,∃ n:Nat,c.Pane=(n:Int)∧n<ps.length
 | .waste,x,y,w,h,hf,c,hc=>by simp[plc] at hc
 | .pane i t,x,y,w,h,hf,c,hc=>by
  simp only[plc,List.mem_singleton] at hc
  subst hc
  simp only[Uo,ZaW,Bool.and_eq_true,decide_eq_true_eq] at hf
  refine⟨i.toNat,by simp only;omega,?_⟩
  rcases Nat.lt_or_ge i.toNat ps.length with h1 | h1
  ·exact h1
  ·rw[List.getElem?_eq_none h1] at hf;exact absurd hf.2 (by simp)
 | .cut d a l r,x,y,w,h,hf,c,hc=>by
  cases d
  ·simp only[Uo,Bool.and_eq_true,Bool.false_eq_true,if_false] at hf
   simp only[plc,Bool.false_eq_true,if_false,List.mem_append] at hc
   rcases hc with hc | hc
   ·exact ZeQ hf.1.2 c hc
   ·exact ZeQ hf.2 c hc
  ·simp only[Uo,Bool.and_eq_true,if_true] at hf
   simp only[plc,if_true,List.mem_append] at hc
   rcases hc with hc | hc
   ·exact ZeQ hf.1.2 c hc
   ·exact ZeQ hf.2 c hc
def ZeA:List Int→List L.Place→List Int
 | u,[]=>u
 | u,x :: l=>ZeA (u.set x.Pane.toNat (u[x.Pane.toNat]?.getD 0+1)) l
theorem ZsQ {u:List Int} {l:List L.Place} {k:Nat} {x:L.Place} (hx:l[k]?=some x):ZeA u (l.drop k)=ZeA (u.set x.Pane.toNat (u[x.Pane.toNat]?.getD 0+1)) (l.drop (k+1)):=by
 obtain⟨h1,h2⟩:=List.getElem?_eq_some_iff.1 hx
 rw[List.drop_eq_getElem_cons h1,h2,ZeA]
theorem Zvb {u:List Int} {l:List L.Place}:ZeA u (l.drop l.length)=u:=by simp[ZeA]
theorem Zon:∀ (l:List L.Place) (u:List Int),(ZeA u l).length=u.length
 | [],u=>rfl
 | x :: l,u=>by rw[ZeA,Zon l];simp
theorem Zoo:∀ (l:List L.Place) (u:List Int) (m:Int),(∀ v∈u,0≤v∧v≤m)→∀ v∈ZeA u l,0≤v∧v≤m+l.length
 | [],u,m,h,v,hv=>by have:=h v hv;simp;omega
 | x :: l,u,m,h,v,hv=>by
  have:=Zoo l _ (m+1) (fun w hw=>by
   rcases List.mem_or_eq_of_mem_set hw with h1 | rfl
   ·have:=h w h1;omega
   ·cases hg:u[x.Pane.toNat]? with
    | none=>
     simp
     have h0:∀ z:Int,0≤z→1≤z+1:=by omega
     by_cases hu:u=[]
     ·subst hu;simp at hw
     ·obtain⟨z,hz⟩:=List.exists_mem_of_ne_nil u hu
      have:=h z hz;omega
    | some z=>have:=h z (List.mem_of_getElem? hg);simp;omega) v hv
  simp only[List.length_cons]
  omega
theorem Zuk (u:List Int) (i:Nat) (v:Int):(u.map YF).set i (J v)=(u.set i v).map YF:=(List.map_set (f:=YF) (l:=u) (i:=i) (a:=v)).symm
theorem rep_int (n:Nat):List.replicate n (D.int .i64 0)=(List.replicate n (0:Int)).map YF:=by simp[YF]
def Zjv (k:Xk) (p:Zj):List Int:=ZeA (List.replicate k.Panes.length 0) ((WW k p).filterMap Zek)
theorem Zq3 {k:Xk} {p:Zj} (hv:ZdF k p=true):(Zjv k p).length=k.Panes.length∧∀ v∈Zjv k p,0≤v∧v≤255:=by
 obtain⟨b,hb,hpb,hvw,hcnt,hfit,hpt⟩:=WX hv
 have hl:((WW k p).filterMap Zek).length≤255:=by
  have:=List.length_filterMap_le Zek (WW k p)
  rw[hpt,Zfo] at this
  rw[hpt]
  omega
 refine⟨by unfold Zjv;rw[Zon];simp,fun v h=>?_⟩
 have:=Zoo _ _ 0 (fun w hw=>by rw[List.eq_of_mem_replicate hw];omega) v h
 omega
theorem Zq4 (kW kH:Int) (kP:List Pane) (p:Zj) (hv:ZdF (Xk.mk kW kH kP) p=true):Zk Xs Ms Zai [(.d (.agg [J kW,J kH,.sl (kP.map Pane.enc)])),.d p.enc] []=some (.own 0,[.row 1 ((Zjv (Xk.mk kW kH kP) p).map YF) true false]):=by
 obtain⟨b,hb,hpb,hvw,hcnt,hfit,hpt⟩:=WX hv
 simp only at hfit hpt
 have e:=Zgp kW kH kP p b hpb (by simp only[VW,inB] at hvw ⊢;omega) hfit (by omega)
 have hpn:=ZeQ (x:=0) (y:=0) hfit
 have hkl:kP.length≤24:=hvw.2.2.2.2.1
 have hln:(plc b 0 0 kW kH).length≤255:=by
  have:=List.length_filterMap_le Zek (WW (Xk.mk kW kH kP) p)
  rw[hpt,Zfo,ZdD] at this
  omega
 unfold Zjv
 rw[hpt,ZdD]
 generalize plc b 0 0 kW kH=L at e hpn hln ⊢
 have hmk:(kP.length:Int)*((8:Nat):Int)≤((140737488355328:Nat):Int)∧kP.length≤140737488355328:=by omega
 have hmk2:(kP.length:Int)*8≤140737488355328∧(kP.length:Int)≤140737488355328:=by omega
 clear hv hb hpb hvw hpt hfit
 obtain⟨o,a,q,t,ks⟩:=p
 rw[Zj.enc_mk] at e ⊢
 refine Zc Xs Ms ZbZ Zs8 (by show 2≤_;decide) ?_
 simp +contextual -implicitDefEqProofs (maxSteps:=10^7) only[go_sem,seval,↓gZ,ZbZ,e,rep_int,hmk,hmk2]
 refine Qb Xs Ms (st0:=?st0) (α:=Nat×List Int) (fun s=>[(7,.d (J (s.1:Int)))]) (fun s=>[(1,.row 1 (s.2.map YF) true false)]) (fun s=>s.1≤L.length∧s.2.length=kP.length∧(∀ v∈s.2,0≤v∧v≤s.1)∧ZeA s.2 (L.drop s.1)=ZeA (List.replicate kP.length 0) L) (fun s=>L.length-s.1) (0,List.replicate kP.length 0) ?hc ⟨by simp,by simp,fun w hw=>by rw[List.eq_of_mem_replicate hw];simp,by simp⟩ ?h0 ?step
 case hc=>simp +contextual -implicitDefEqProofs (maxSteps:=10^7) only[go_sem,seval,↓gZ]<;>exact rfl
 case h0=>rfl
 case step=>
  intro⟨i,u⟩ ⟨hi,hul,huv,hp⟩ ih
  simp only at hi hul huv hp
  by_cases hlt:i<L.length
  ·obtain⟨x,hx⟩:=Z4 hlt
   have hw:=ZD (k:=i) (by omega)
   obtain⟨n,hn,hnl⟩:=hpn x (List.mem_of_getElem? hx)
   rw[ZsQ hx,hn] at hp
   obtain⟨q',t',⟨X,Y,W,H⟩⟩:=x
   simp only at hn
   subst hn
   have hnu:n<u.length:=by omega
   obtain⟨z,hz⟩:=Z4 hnu
   have hzb:=huv z (List.mem_of_getElem? hz)
   have u1:=wi (z+1) (by omega) (by omega)
   rw[Int.toNat_natCast,hz] at hp
   simp +contextual -implicitDefEqProofs (maxSteps:=10^7) only[go_sem,seval,↓gZ,hx,hlt,hw,hnl,hnu,hz,u1,Zuk,hul]
   refine ih (i+1,u.set n (z+1)) _ ⟨by simp only;omega,by simpa using hul,fun v hv=>?_,hp⟩ (by simp only;omega) ?_
   ·simp only
    rcases List.mem_or_eq_of_mem_set hv with h1 | rfl
    ·have:=huv v h1;omega
    ·omega
   ·simp +contextual -implicitDefEqProofs (maxSteps:=10^7) only[go_sem,seval,↓gZ,List.headD_cons,Zuk]
  ·have:i=L.length:=by omega
   subst this
   rw[Zvb] at hp
   simp +contextual -implicitDefEqProofs (maxSteps:=10^7) only[go_sem,seval,↓gZ,hp]
def Znf:BT→Bool
 | .waste=>false
 | .pane _ _=>true
 | .cut _ _ l r=>Znf l || Znf r
theorem ZdP:∀ (b:BT),Zk Xs Ms Vz [.d b.plan.enc] []=some ((.d (.bool (Znf b))),[])
 | .waste=>by
  simp only[BT.plan,Zj.enc_mk]
  refine Zc Xs Ms YX Ze5 (by show 1≤_;decide) ?_
  simp +contextual -implicitDefEqProofs (maxSteps:=10^7) only[go_sem,seval,↓gZ,YX,Xp,Znf]
 | .pane i t=>by
  simp only[BT.plan,Zj.enc_mk]
  refine Zc Xs Ms YX Ze5 (by show 1≤_;decide) ?_
  simp +contextual -implicitDefEqProofs (maxSteps:=10^7) only[go_sem,seval,↓gZ,YX,Xp,Znf]
 | .cut d a l r=>by
  have e1:=ZdP l
  have e2:=ZdP r
  simp only[BT.plan,Zj.enc_mk]
  cases hb:Znf l<;>rw[hb] at e1<;>cases d <;>
  ·refine Zc Xs Ms YX Ze5 (by show 1≤_;decide) ?_
   simp +contextual -implicitDefEqProofs (maxSteps:=10^7) only[go_sem,seval,↓gZ,YX,Xp,Znf,Za6,e1,e2,hb,Bool.or_eq_true,Bool.true_or,Bool.false_or]
theorem Zng (kW kH:Int) (kP:List Pane) (p:Zj) (Zw:Int) (hv:ZdF (Xk.mk kW kH kP) p=true) (h1:1≤Zw) (h2:Zw≤200):Zk Xs Ms Uc [(.d (.agg [J kW,J kH,.sl (kP.map Pane.enc)])),.d p.enc,(.d (J Zw))] [] =
  some ((.d (J (Vs (ZmD (Xk.mk kW kH kP) p Zw)))),[]):=by
 obtain⟨b,hb,hpb,hvw,hcnt,hfit,hpt⟩:=WX hv
 have hkl:kP.length≤24:=hvw.2.2.2.2.1
 have ev:=ZeM kW kH kP p (by omega)
 rw[hv] at ev
 have er:=Zv Zw 1 200
 rw[decide_eq_true (show 1≤Zw∧Zw≤200 from ⟨h1,h2⟩)] at er
 simp only at hfit hpt
 have ep:=Zgq kW kH kP p b hpb (by simp only[VW,inB] at hvw ⊢;omega) hfit (by omega)
 have hbox:=Zje hv
 have hlen:((WW (Xk.mk kW kH kP) p).filterMap ZbC).length≤255:=by
  have:=List.length_filterMap_le ZbC (WW (Xk.mk kW kH kP) p)
  rw[hpt,Zfo] at this
  rw[hpt]
  omega
 rw[← ZdE,← hpt] at ep
 unfold ZmD
 generalize (WW (Xk.mk kW kH kP) p).filterMap ZbC=L at ep hbox hlen ⊢
 clear hv hb hpb hvw hpt hfit
 obtain⟨o,a,n,t,ks⟩:=p
 rw[Zj.enc_mk] at ev ep ⊢
 refine Zc Xs Ms JI ZpT (by show 3≤_;decide) ?_
 simp +contextual -implicitDefEqProofs (maxSteps:=10^7) only[go_sem,seval,↓gZ,JI,ev,ep,er]
 refine Qb Xs Ms (st0:=?st0) (α:=Nat) (fun i=>[(9,.d (J (i:Int))),(7,.d (J (Vs ((L.take i).filterMap (ZeG Zw)))))]) (fun _=>[]) (fun i=>i≤L.length) (fun i=>L.length-i) 0 ?hc (by omega) ?h0 ?step
 case hc=>simp +contextual -implicitDefEqProofs (maxSteps:=10^7) only[go_sem,seval,↓gZ];exact rfl
 case h0=>rfl
 case step=>
  intro i hi ih
  by_cases hlt:i<L.length
  ·obtain⟨x,hx⟩:=Z4 hlt
   have hw:=ZD (k:=i) (by omega)
   have hm:=Zid (f:=ZeG Zw) hx
   have hbx:=hbox x (List.mem_of_getElem? hx)
   have ha:=ZmE (l:=(L.take i).filterMap (ZeG Zw)) (fun c hc=>by
    obtain⟨d,hd,hdc⟩:=List.mem_filterMap.1 hc
    unfold ZeG at hdc
    split at hdc
    ·cases hdc;exact hbox c (List.mem_of_mem_take hd)
    ·cases hdc)
   have hlk:((L.take i).filterMap (ZeG Zw)).length≤i:=Nat.le_trans (List.length_filterMap_le _ _) (by simp;omega)
   have hax:=Zih hbx
   obtain⟨X,Y,W,H⟩:=x
   simp only at hax
   have w0:=wi (W*H) (by omega) (by omega)
   have w1:=wi (Vs ((L.take i).filterMap (ZeG Zw))+W*H) (by omega) (by omega)
   have es:=ZbL X Y W H Zw
   simp only[ZeG] at hm
   by_cases ho:W<Zw∨H<Zw
   ·rw[if_pos ho] at hm
    rw[decide_eq_false (show ¬(Zw≤W∧Zw≤H) by omega)] at es
    simp +contextual -implicitDefEqProofs (maxSteps:=10^7) only[go_sem,seval,↓gZ,hx,hlt,hw,es,w0,w1]
    refine ih (i+1) _ (by omega) (by omega) ?_
    simp +contextual -implicitDefEqProofs (maxSteps:=10^7) only[go_sem,seval,↓gZ,hm,Zel,Option.toList,Vs]
    first | rfl | (simp;done) | (simp;rfl)
   ·rw[if_neg ho] at hm
    rw[decide_eq_true (show Zw≤W∧Zw≤H by omega)] at es
    simp +contextual -implicitDefEqProofs (maxSteps:=10^7) only[go_sem,seval,↓gZ,hx,hlt,hw,es]
    refine ih (i+1) _ (by omega) (by omega) ?_
    simp +contextual -implicitDefEqProofs (maxSteps:=10^7) only[go_sem,seval,↓gZ,hm,Option.toList,List.append_nil]
  ·have:i=L.length:=by omega
   subst this
   simp +contextual -implicitDefEqProofs (maxSteps:=10^7) only[go_sem,seval,↓gZ]
   simp
def Zbe:List Pane→List Int→List Zi→List Zi→Option (List Zi×List Zi)
 | p :: ps,c :: us,o,d=>if c=0 then Zbe ps us o d else if U3 p c false o=true then Zbe ps us (J9 o p c) (ZaI p c d) else none
 | [],_,o,d=>some (o,d)
 | _,[],o,d=>some (o,d)
theorem ZsR {ps:List Pane} {us:List Int} {o d:List Zi} {k:Nat} {p:Pane} {c:Int} (hp:ps[k]?=some p) (hu:us[k]?=some c):Zbe (ps.drop k) (us.drop k) o d=if c=0 then Zbe (ps.drop (k+1)) (us.drop (k+1)) o d else if U3 p c false o=true then Zbe (ps.drop (k+1)) (us.drop (k+1)) (J9 o p c) (ZaI p c d) else none:=by
 obtain⟨h1,h2⟩:=List.getElem?_eq_some_iff.1 hp
 obtain⟨h3,h4⟩:=List.getElem?_eq_some_iff.1 hu
 rw[List.drop_eq_getElem_cons h1,h2,List.drop_eq_getElem_cons h3,h4,Zbe]
theorem Zvc {ps:List Pane} {us:List Int} {o d:List Zi}:Zbe (ps.drop ps.length) us o d=some (o,d):=by
 rw[List.drop_length];unfold Zbe;rfl
theorem Zvd {l:List Zi} {p:Pane} {c hi:Int} (hc:0≤c) (h:∀ x∈l,x.Count≤hi):∀ y∈J9 l p c,0≤y.Count∧y.Count≤hi:=fun y hy=>by
 obtain⟨x,hx,e⟩:=List.mem_filterMap.1 hy
 have:=h x hx
 unfold Zol at e
 split at e
 ·split at e
  ·cases e;simp only;omega
  ·cases e
 ·split at e
  ·cases e;omega
  ·cases e
theorem Zq5 {p:Pane} {c hi:Int} (hc:0≤c) (hh:0≤hi):∀ {l:List Zi},(∀ x∈l,0≤x.Count∧x.Count≤hi)→∀ y∈ZaI p c l,0≤y.Count∧y.Count≤hi+c
 | [],h,y,hy=>by simp[ZaI] at hy;subst hy;simp only;omega
 | x :: l,h,y,hy=>by
  have h1:=h x (by simp)
  unfold ZaI at hy
  split at hy
  ·rcases List.mem_cons.1 hy with rfl | hy
   ·simp only;omega
   ·have:=h y (by simp[hy]);omega
  ·rcases List.mem_cons.1 hy with rfl | hy
   ·omega
   ·exact Zq5 hc hh (fun z hz=>h z (by simp[hz])) y hy
def hasP (p:Zj):Bool:=match Xb p with
 | some b=>Znf b
 | none=>false
def Znh (s:Z3) (e:ZC):Option Z3:=
 match s.Stock[(Wy 0 s.Stock e.label).toNat]? with
 | none=>none
 | some x=>match Zht s.Stock e.label ⟨x.W,x.H,s.Opn.map Zi.Pane⟩ e.plan 5 with
  | none=>none
  | some R=>if hasP e.plan=true then
    match Zbe (s.Opn.map Zi.Pane) (Zjv ⟨x.W,x.H,s.Opn.map Zi.Pane⟩ e.plan) s.Opn s.Done with
    | none=>none
    | some (o,d)=>some ⟨R,o,d,s.Lost+Vs (ZmD ⟨x.W,x.H,s.Opn.map Zi.Pane⟩ e.plan 5),s.Came⟩
   else none
def shV:Option Z3→AV×List Zl
 | some s=>(.tup [.agg [.own 0,.own 1,.own 2,(.d (J (s.Lost))),(.d (J (s.Came)))],(.d (.bool true))],[.row 4 (s.Stock.map Zd.enc) true false,.row 5 (s.Opn.map Zi.enc) true false,.row 5 (s.Done.map Zi.enc) true false])
 | none=>(.tup [.agg [.own 0,.own 1,.own 2,(.d (J 0)),(.d (J 0))],(.d (.bool false))],[.row 4 [] true false,.row 5 [] true false,.row 5 [] true false])
theorem Zve {l:List Zd} {n:Int} {k:Xk} {p:Zj} {Zw:Int} (h:Wy 0 l n<0):Zht l n k p Zw=none:=by
 unfold Zht
 rw[if_neg (fun h'=>by omega)]
theorem Zq6 {l:List Zd} {n:Int} {k:Xk} {p:Zj} {Zw:Int} {R:List Zd} (h:Zht l n k p Zw=some R):ZdF k p=true∧VSt R∧VSt l:=by
 unfold Zht at h
 split at h
 ·rename_i hc
  split at h
  ·rename_i x hx
   split at h
   ·rename_i hg
    cases h
    exact⟨hg.1.1,hg.2,hc.1⟩
   ·cases h
  ·cases h
 ·cases h
def WSh (s:Z3):Prop:=VSt s.Stock∧s.Opn.length≤9∧(∀ x∈s.Opn,VP x.Pane∧0≤x.Count∧x.Count≤24)∧Zgc s.Done∧-1≤s.Lost∧s.Lost≤900001∧-1≤s.Came∧s.Came≤900001
theorem Zpz {s:Z3} (h:Vj s):WSh s:=⟨h.1,by have:=h.2.1.1;omega,fun x hx=>by have:=ZbO h.2.1 x hx;exact⟨this.1,by omega,this.2.2⟩,h.2.2.1,by have:=h.2.2.2;omega,by have:=h.2.2.2;omega,by have:=h.2.2.2;omega,by have:=h.2.2.2;omega⟩
theorem Zul {s:Z3} (h:WSh s):SmS s:=by
 obtain⟨h1,h2,_,h3,h4,h5,h6,h7⟩:=h
 exact⟨⟨by have:=h1.1;omega,fun x hx=>⟨(ZfH h1).2 x hx,Zhu (XC h1.2 x hx)⟩,by omega,by have:=h3.1;omega⟩,by have:=h1.1;omega,by omega,by omega,by omega,by omega⟩
theorem Zni (sS:List Zd) (sO sD:List Zi) (sL sC:Int) (eK eL eX eY eW eH epW epH:Int) (epT:Bool) (epK eC eo ea ep:Int) (et:Bool) (ek:List Zj) (hv:WSh (Z3.mk sS sO sD sL sC)):Zk Xs Ms W9 [(.d (.agg [.sl (sS.map Zd.enc),.sl (sO.map Zi.enc),.sl (sD.map Zi.enc),J sL,J sC])),(.d (.agg [J eK,J eL,J eX,J eY,J eW,J eH,J epW,J epH,.bool epT,J epK,J eC,J eo,J ea,J ep,.bool et,.sl (ek.map Zj.enc)]))] []=some (shV (Znh (Z3.mk sS sO sD sL sC) (ZC.mk eK eL (Box.mk eX eY eW eH) (Zi.mk (Pane.mk epW epH epT epK) eC) (Zj.mk eo ea ep et ek)))):=by
 obtain⟨⟨h1,h2,h3,h4⟩,h5,h6,h7,h8,h9⟩:=Zul hv
 simp only at h1 h2 h3 h4 h5 h6 h7 h8 h9
 have hO9:=hv.2.1
 have hO:=hv.2.2.1
 have hD:=hv.2.2.2.1
 simp only at hO hD hO9
 have hD8:=hD.1
 have e1:=Yu sS eL (by omega)
 by_cases hf:Wy 0 sS eL<0
 ·have ec:Znh (Z3.mk sS sO sD sL sC) (ZC.mk eK eL (Box.mk eX eY eW eH) (Zi.mk (Pane.mk epW epH epT epK) eC) (Zj.mk eo ea ep et ek))=none:=by
   unfold Znh
   simp only
   split
   ·rfl
   ·rw[Zve hf]
  rw[ec]
  unfold shV
  refine Zc Xs Ms Xw Zbr (by show 2≤_;decide) ?_
  simp +contextual -implicitDefEqProofs (maxSteps:=10^7) only[go_sem,seval,↓gZ,Xw,e1,hf]
 ·obtain⟨a,x,ha,hx⟩:=ZkY (by omega:0≤Wy 0 sS eL)
  rw[ha] at e1
  have ha0:¬(a:Int)<0:=by omega
  have hlt:=(List.getElem?_eq_some_iff.1 hx).1
  have e3:=Znc sS eL x.W x.H (sO.map Zi.Pane) (.mk eo ea ep et ek) 5 (by have:=hv.1.1;simp only at this;omega) (fun y hy=>by
   have:=XC hv.1.2 y hy
   exact⟨this.1.2.2.2.2.2.2,Zhu this⟩) (by simp;omega)
  have ecs:Znh (Z3.mk sS sO sD sL sC) (ZC.mk eK eL (Box.mk eX eY eW eH) (Zi.mk (Pane.mk epW epH epT epK) eC) (Zj.mk eo ea ep et ek))=match Zht sS eL ⟨x.W,x.H,sO.map Zi.Pane⟩ (.mk eo ea ep et ek) 5 with
   | none=>none
   | some R=>if hasP (.mk eo ea ep et ek)=true then
     match Zbe (sO.map Zi.Pane) (Zjv ⟨x.W,x.H,sO.map Zi.Pane⟩ (.mk eo ea ep et ek)) sO sD with
     | none=>none
     | some (o,d)=>some ⟨R,o,d,sL+Vs (ZmD ⟨x.W,x.H,sO.map Zi.Pane⟩ (.mk eo ea ep et ek) 5),sC⟩
    else none:=by
   unfold Znh
   simp only[ha,Int.toNat_natCast,hx]
  rw[ecs]
  clear ecs
  obtain⟨xL,xW,xH,xF⟩:=x
  simp only at e3 ⊢
  have e2:=Zq2 sS sO sD sL sC a xL xW xH xF hx h3 h1
  cases hcs:Zht sS eL ⟨xW,xH,sO.map Zi.Pane⟩ (.mk eo ea ep et ek) 5 with
  | none=>
   rw[hcs] at e3
   unfold Zpx at e3
   simp only
   unfold shV
   rw[Zj.enc_mk] at e3
   refine Zc Xs Ms Xw Zbr (by show 2≤_;decide) ?_
   simp +contextual -implicitDefEqProofs (maxSteps:=10^7) only[go_sem,seval,↓gZ,Xw,e1,ha0,e2,e3]
  | some R=>
   obtain⟨hvp,hvR,_⟩:=Zq6 hcs
   rw[hcs] at e3
   unfold Zpx at e3
   simp only
   obtain⟨b,hb,hpb,hvw,hcnt,hfit,hpt⟩:=WX hvp
   have e4:=ZdP b
   rw[← hpb] at e4
   have hh:hasP (.mk eo ea ep et ek)=Znf b:=by unfold hasP;rw[hb]
   rw[hh]
   have e5:=Zng xW xH (sO.map Zi.Pane) (.mk eo ea ep et ek) 5 hvp (by omega) (by omega)
   have e6:=Zq4 xW xH (sO.map Zi.Pane) (.mk eo ea ep et ek) hvp
   have hu:=Zq3 hvp
   have hla:=ZmE (l:=ZmD ⟨xW,xH,sO.map Zi.Pane⟩ (.mk eo ea ep et ek) 5) (fun c hc=>by
    obtain⟨z,hz,hzc⟩:=List.mem_filterMap.1 hc
    unfold ZeG at hzc
    split at hzc
    ·cases hzc;exact Zje hvp c hz
    ·cases hzc)
   have hll:(ZmD ⟨xW,xH,sO.map Zi.Pane⟩ (.mk eo ea ep et ek) 5).length≤255:=by
    refine Nat.le_trans (List.length_filterMap_le _ _) (Nat.le_trans (List.length_filterMap_le _ _) ?_)
    rw[hpt,Zfo];exact hcnt
   generalize Vs (ZmD ⟨xW,xH,sO.map Zi.Pane⟩ (.mk eo ea ep et ek) 5)=A at e5 hla ⊢
   generalize Zjv ⟨xW,xH,sO.map Zi.Pane⟩ (.mk eo ea ep et ek)=us at e6 hu ⊢
   rw[Zj.enc_mk] at e3 e4 e5 e6
   simp only[List.length_map] at hu
   have u1:=wi (sL+A) (by omega) (by omega)
   have r1:sO.length*40≤140737488355328∧sO.length≤140737488355328:=by omega
   have r2:sD.length*40≤140737488355328∧sD.length≤140737488355328:=by omega
   cases hhb:Znf b with
   | false=>
    rw[hhb] at e4
    rw[if_neg (by simp)]
    unfold shV
    refine Zc Xs Ms Xw Zbr (by show 2≤_;decide) ?_
    simp +contextual -implicitDefEqProofs (maxSteps:=10^7) only[go_sem,seval,↓gZ,Xw,e1,ha0,e2,e3,e4]
   | true=>
    rw[hhb] at e4
    rw[if_pos rfl]
    refine Zc Xs Ms Xw Zbr (by show 2≤_;decide) ?_
    simp +contextual -implicitDefEqProofs (maxSteps:=10^7) only[go_sem,seval,↓gZ,Xw,ZmJ,e1,ha0,e2,e3,e4,e5,e6,u1,r1,r2]
    refine Qb Xs Ms (st0:=?st0) (α:=Nat×List Zi×List Zi) (fun s=>[(12,.d (J (s.1:Int)))]) (fun s=>[(5,.row 5 (s.2.1.map Zi.enc) true false),(6,.row 5 (s.2.2.map Zi.enc) true false)]) (fun s=>s.1≤us.length∧Zbe ((sO.map Zi.Pane).drop s.1) (us.drop s.1) s.2.1 s.2.2=Zbe (sO.map Zi.Pane) us sO sD∧s.2.1.length≤9∧s.2.2.length≤8+s.1∧(∀ x∈s.2.1,0≤x.Count∧x.Count≤24)∧(∀ x∈s.2.2,0≤x.Count∧x.Count≤24+255*(s.1:Int))) (fun s=>us.length-s.1) (0,sO,sD) ?hc ⟨by simp,by simp,hO9,by simp only;omega,fun x hx=>by have:=hO x hx;omega,fun x hx=>by have:=ZbO hD x hx;simp only;omega⟩ ?h0 ?step
    case hc=>simp +contextual -implicitDefEqProofs (maxSteps:=10^7) only[go_sem,seval,↓gZ]<;>exact rfl
    case h0=>rfl
    case step=>
     intro⟨i,o,d⟩ ⟨hi,hp,ho8,hd8,hoc,hdc⟩ ih
     simp only at hi hp ho8 hd8 hoc hdc
     by_cases hil:i<us.length
     ·obtain⟨c,hc⟩:=Z4 hil
      have hiO:i<sO.length:=by omega
      obtain⟨y,hy⟩:=Z4 hiO
      have hw:=ZD (k:=i) (by omega)
      have hcb:=hu.2 c (List.mem_of_getElem? hc)
      have hpy:(sO.map Zi.Pane)[i]?=some y.Pane:=by rw[List.getElem?_map,hy];rfl
      rw[ZsR hpy hc] at hp
      obtain⟨⟨W,H,T,K⟩,C⟩:=y
      simp only at hp hpy
      by_cases hc0:c=0
      ·rw[if_pos hc0] at hp
       simp +contextual -implicitDefEqProofs (maxSteps:=10^7) only[go_sem,seval,↓gZ,hil,hc,hc0,hw]
       refine ih (i+1,o,d) _ ⟨by simp only;omega,hp,ho8,by simp only;omega,hoc,fun x hx=>by have:=hdc x hx;simp only;omega⟩ (by simp only;omega) ?_
       simp +contextual -implicitDefEqProofs (maxSteps:=10^7) only[go_sem,seval,↓gZ]
      ·rw[if_neg hc0] at hp
       have et:=ZeP o W H T K c (by omega) (fun x hx=>by have:=hoc x hx;unfold R64;omega)
       have ea:=ZcJ d W H T K c (by omega) (fun x hx=>by have:=hdc x hx;unfold R64;omega)
       by_cases hto:U3 ⟨W,H,T,K⟩ c false o=true
       ·rw[if_pos hto] at hp
        rw[hto] at et
        simp +contextual -implicitDefEqProofs (maxSteps:=10^7) only[go_sem,seval,↓gZ,hil,hc,hc0,hw,hiO,hy,hpy,et,ea]
        refine ih (i+1,J9 o ⟨W,H,T,K⟩ c,ZaI ⟨W,H,T,K⟩ c d) _ ⟨by simp only;omega,hp,Nat.le_trans (List.length_filterMap_le _ _) ho8,Nat.le_trans (ZeO _ _ _) (by simp only;omega),Zvd hcb.1 (fun x hx=>(hoc x hx).2),fun x hx=>?_⟩ (by simp only;omega) ?_
        ·have:=Zq5 hcb.1 (by omega) hdc x hx
         simp only
         omega
        ·simp +contextual -implicitDefEqProofs (maxSteps:=10^7) only[go_sem,seval,↓gZ]
       ·rw[if_neg hto] at hp
        simp only[Bool.not_eq_true] at hto
        rw[hto] at et
        simp +contextual -implicitDefEqProofs (maxSteps:=10^7) only[go_sem,seval,↓gZ,hil,hc,hc0,hw,hiO,hy,hpy,et,ea]
        rw[← hp]
        rfl
     ·have:i=sO.length:=by omega
      subst this
      have hce:=@Zvc (sO.map Zi.Pane) (us.drop sO.length) o d
      rw[List.length_map] at hce
      rw[hce] at hp
      rw[← hp]
      simp +contextual -implicitDefEqProofs (maxSteps:=10^7) only[go_sem,seval,↓gZ,hil]
      rfl
def Zvf (l:List Zd) (n:Int):Option (Nat×Zd):=if 0≤Wy 0 l n then (l[(Wy 0 l n).toNat]?).map (fun x=>((Wy 0 l n).toNat,x)) else none
theorem Zvg {l:List Zd} {n:Int} (h:Wy 0 l n<0):Zvf l n=none:=by unfold Zvf;rw[if_neg (by omega)]
theorem Zvh {l:List Zd} {n:Int} {a:Nat} {x:Zd} (h:Wy 0 l n=(a:Int)) (hx:l[a]?=some x):Zvf l n=some (a,x):=by
 unfold Zvf
 rw[h,if_pos (by omega),Int.toNat_natCast,hx];rfl
def evS (s:Z3) (e:ZC):Option Z3:=
 if e.kind=0 then (if (Zc7 ⟨e.label,e.box.W,e.box.H,[]⟩ s.Stock∧e.box.X=0)∧e.box.Y=0 then some { s with Stock:=YR ⟨e.label,e.box.W,e.box.H,[]⟩ s.Stock,Came:=s.Came+e.box.W*e.box.H } else none)
 else if e.kind=1 then (match Zvf s.Stock e.label with
  | none=>none
  | some (a,q)=>if Zc7 { q with Flaws:=q.Flaws++[e.box] } (s.Stock.eraseIdx a) then some { s with Stock:=YR { q with Flaws:=q.Flaws++[e.box] } (s.Stock.eraseIdx a) } else none)
 else if e.kind=5 then (match Zvf s.Stock e.label with
  | none=>none
  | some (a,q)=>some { s with Stock:=s.Stock.eraseIdx a,Lost:=s.Lost+q.W*q.H })
 else if e.kind=2 then (if Zju e.line then some { s with Opn:=ZaI e.line.Pane e.line.Count s.Opn } else none)
 else if e.kind=4 then (if Zju e.line∧U3 e.line.Pane e.line.Count false s.Done=true then some { s with Opn:=ZaI e.line.Pane e.line.Count s.Opn,Done:=J9 s.Done e.line.Pane e.line.Count,Lost:=s.Lost+e.line.Count*e.line.Pane.W*e.line.Pane.H } else none)
 else if e.kind=3 then Znh s e
 else none
def Zc8 (t:Option Z3):Option Z3:=match t with
 | some t=>if Vj t then some t else none
 | none=>none
def Uw (s:Z3) (e:ZC):Option Z3:=Zc8 (evS s e)
theorem ZsS {s t:Z3} {e:ZC} (h:Uw s e=some t):Vj t:=by
 unfold Uw Zc8 at h
 split at h
 ·split at h
  ·cases h;assumption
  ·cases h
 ·cases h
theorem Zc9 {s t:Z3} (h:Za0 s) (ho:t.Opn.length≤1000000) (hd:t.Done.length≤1000000) (hs:VSt t.Stock):Za0 t:=
 ⟨by have:=hs.1;omega,fun x hx=>⟨(ZfH hs).2 x hx,Zhu (XC hs.2 x hx)⟩,ho,hd⟩
theorem ZyJ {s t:Z3} {e:ZC} (hv:WSh s) (h:Znh s e=some t):VSt t.Stock∧t.Opn.length≤9∧t.Done.length≤1000000:=by
 have hgo:∀ (ps:List Pane) (us:List Int) (o d o' d' : List Zi),Zbe ps us o d=some (o',d')→o'.length≤o.length∧d'.length≤d.length+ps.length:=by
  intro ps
  induction ps with
  | nil=>intro us o d o' d' h;unfold Zbe at h;cases h;simp
  | cons p ps ih=>
   intro us o d o' d' h
   cases us with
   | nil=>unfold Zbe at h;cases h;simp
   | cons c us=>
    rw[Zbe] at h
    split at h
    ·have:=ih _ _ _ _ _ h;simp;omega
    ·split at h
     ·have:=ih _ _ _ _ _ h
      have h2:=List.length_filterMap_le (Zol p c) o
      have h3:=ZeO p c d
      unfold J9 at this
      simp;omega
     ·cases h
 unfold Znh at h
 split at h
 ·cases h
 ·split at h
  ·cases h
  ·rename_i R hR
   obtain⟨_,hvR,_⟩:=Zq6 hR
   split at h
   ·split at h
    ·cases h
    ·rename_i o d hg
     cases h
     have:=hgo _ _ _ _ _ _ hg
     have h8:=hv.2.1
     have h9:=hv.2.2.2.1.1
     rw[List.length_map] at this
     exact⟨hvR,by simp only;omega,by simp only;omega⟩
   ·cases h
theorem Zac (sS:List Zd) (sO sD:List Zi) (sL sC:Int) (eK eL eX eY eW eH epW epH:Int) (epT:Bool) (epK eC eo ea ep:Int) (et:Bool) (ek:List Zj) (hv:WSh (Z3.mk sS sO sD sL sC)) (k3:eK=3):Zk Xs Ms X1 [(.d (.agg [.sl (sS.map Zd.enc),.sl (sO.map Zi.enc),.sl (sD.map Zi.enc),J sL,J sC])),(.d (.agg [J eK,J eL,J eX,J eY,J eW,J eH,J epW,J epH,.bool epT,J epK,J eC,J eo,J ea,J ep,.bool et,.sl (ek.map Zj.enc)]))] []=some (shV (Uw (Z3.mk sS sO sD sL sC) (ZC.mk eK eL (Box.mk eX eY eW eH) (Zi.mk (Pane.mk epW epH epT epK) eC) (Zj.mk eo ea ep et ek)))):=by
 have hsm:=(Zul hv).1
 have hpe:=Zni sS sO sD sL sC eK eL eX eY eW eH epW epH epT epK eC eo ea ep et ek hv
 subst k3
 have ee:Uw (Z3.mk sS sO sD sL sC) (ZC.mk 3 eL ⟨eX,eY,eW,eH⟩ ⟨⟨epW,epH,epT,epK⟩,eC⟩ (.mk eo ea ep et ek))=Zc8 (Znh (Z3.mk sS sO sD sL sC) (ZC.mk 3 eL ⟨eX,eY,eW,eH⟩ ⟨⟨epW,epH,epT,epK⟩,eC⟩ (.mk eo ea ep et ek))):=by
  unfold Uw evS
  simp
 rw[ee]
 have hcsm:=fun t=>ZyJ (t:=t) (e:=ZC.mk 3 eL ⟨eX,eY,eW,eH⟩ ⟨⟨epW,epH,epT,epK⟩,eC⟩ (.mk eo ea ep et ek)) hv
 cases hc:Znh (Z3.mk sS sO sD sL sC) (ZC.mk 3 eL ⟨eX,eY,eW,eH⟩ ⟨⟨epW,epH,epT,epK⟩,eC⟩ (.mk eo ea ep et ek)) with
 | none=>
  rw[hc] at hpe
  unfold Zc8 shV at *
  simp only
  refine Zc Xs Ms Zh ZO (by show 2≤_;decide) ?_
  simp +contextual -implicitDefEqProofs (maxSteps:=10^7) only[go_sem,seval,↓gZ,Zh,hpe]
 | some t=>
  obtain⟨g1,g2,g3⟩:=hcsm t hc
  rw[hc] at hpe
  have hst:Za0 t:=Zc9 hsm (by omega) g3 g1
  obtain⟨tS,tO,tD,tL,tC⟩:=t
  have e1:=Vk _ _ _ _ _ hst
  have e2:=V7 _ _ _ _ _ hst
  unfold Zc8
  unfold shV at hpe
  simp only at hpe
  by_cases hvt:Vj (Z3.mk tS tO tD tL tC)
  ·rw[decide_eq_true hvt] at e1
   simp only[if_pos hvt]
   unfold shV
   refine Zc Xs Ms Zh ZO (by show 2≤_;decide) ?_
   simp +contextual -implicitDefEqProofs (maxSteps:=10^7) only[go_sem,seval,↓gZ,Zh,hpe,e1,e2]
  ·rw[decide_eq_false hvt] at e1
   simp only[if_neg hvt]
   unfold shV
   refine Zc Xs Ms Zh ZO (by show 2≤_;decide) ?_
   simp +contextual -implicitDefEqProofs (maxSteps:=10^7) only[go_sem,seval,↓gZ,Zh,hpe,e1]
theorem Zkc (sS:List Zd) (sO sD:List Zi) (sL sC:Int) (eK eL eX eY eW eH epW epH:Int) (epT:Bool) (epK eC eo ea ep:Int) (et:Bool) (ek:List Zj) (hv:Vj (Z3.mk sS sO sD sL sC)) (hW:eK=0→I5 eW) (hH:eK=0→I5 eH):Zk Xs Ms X1 [(.d (.agg [.sl (sS.map Zd.enc),.sl (sO.map Zi.enc),.sl (sD.map Zi.enc),J sL,J sC])),(.d (.agg [J eK,J eL,J eX,J eY,J eW,J eH,J epW,J epH,.bool epT,J epK,J eC,J eo,J ea,J ep,.bool et,.sl (ek.map Zj.enc)]))] []=some (shV (Uw (Z3.mk sS sO sD sL sC) (ZC.mk eK eL (Box.mk eX eY eW eH) (Zi.mk (Pane.mk epW epH epT epK) eC) (Zj.mk eo ea ep et ek)))):=by
 have hS:=Zom hv
 have hsm:=hS.1
 have hO8:=hv.2.1.1
 have hD8:=hv.2.2.1.1
 simp only at hO8 hD8
 by_cases k0:eK=0
 ·have hpe:=ZgK sS sO sD sL sC eK eL eX eY eW eH epW epH epT epK eC eo ea ep et ek hS k0 (hW k0) (hH k0)
  rw[k0] at hpe
  by_cases hr:(Zc7 ⟨eL,eW,eH,[]⟩ sS∧eX=0)∧eY=0
  ·have ee:Uw (Z3.mk sS sO sD sL sC) (ZC.mk eK eL (Box.mk eX eY eW eH) (Zi.mk (Pane.mk epW epH epT epK) eC) (Zj.mk eo ea ep et ek))=Zc8 (some (Z3.mk (YR ⟨eL,eW,eH,[]⟩ sS) sO sD sL (sC+eW*eH))):=by unfold Uw evS;simp only[k0,hr,if_true,and_self]
   rw[ee]
   rw[decide_eq_true hr,if_pos hr.1.1] at hpe
   have hst:Za0 (Z3.mk (YR ⟨eL,eW,eH,[]⟩ sS) sO sD sL (sC+eW*eH)):=Zc9 hsm (by simp only;omega) (by simp only;omega) hr.1.1.2
   have e1:=Vk _ _ _ _ _ hst
   have e2:=V7 _ _ _ _ _ hst
   unfold Zc8
   generalize YR ⟨eL,eW,eH,[]⟩ sS=Q at hpe e1 e2 ⊢
   by_cases hvt:Vj (Z3.mk Q sO sD sL (sC+eW*eH))
   ·rw[decide_eq_true hvt] at e1
    simp only[if_pos hvt]
    unfold shV
    refine Zc Xs Ms Zh ZO (by show 2≤_;decide) ?_
    simp +contextual -implicitDefEqProofs (maxSteps:=10^7) only[go_sem,seval,↓gZ,Zh,k0,hpe,e1,e2]
   ·rw[decide_eq_false hvt] at e1
    simp only[if_neg hvt]
    unfold shV
    refine Zc Xs Ms Zh ZO (by show 2≤_;decide) ?_
    simp +contextual -implicitDefEqProofs (maxSteps:=10^7) only[go_sem,seval,↓gZ,Zh,k0,hpe,e1]
  ·have ee:Uw (Z3.mk sS sO sD sL sC) (ZC.mk eK eL (Box.mk eX eY eW eH) (Zi.mk (Pane.mk epW epH epT epK) eC) (Zj.mk eo ea ep et ek))=none:=by unfold Uw evS;simp only[k0,if_true];rw[if_neg hr];rfl
   rw[ee]
   rw[decide_eq_false hr] at hpe
   unfold shV
   refine Zc Xs Ms Zh ZO (by show 2≤_;decide) ?_
   simp +contextual -implicitDefEqProofs (maxSteps:=10^7) only[go_sem,seval,↓gZ,Zh,k0,hpe]
 ·by_cases k15:eK=1∨eK=5
  ·by_cases hf:Wy 0 sS eL<0
   ·have hpe:=Zka sS sO sD sL sC eK eL eX eY eW eH epW epH epT epK eC eo ea ep et ek hS k0 hf
    have ee:Uw (Z3.mk sS sO sD sL sC) (ZC.mk eK eL (Box.mk eX eY eW eH) (Zi.mk (Pane.mk epW epH epT epK) eC) (Zj.mk eo ea ep et ek))=none:=by
     unfold Uw evS
     rcases k15 with k1 | k1<;>simp[k1,Zvg hf,Zc8]
    rw[ee]
    unfold shV
    refine Zc Xs Ms Zh ZO (by show 2≤_;decide) ?_
    rcases k15 with k1 | k1
    ·rw[k1] at hpe
     simp +contextual -implicitDefEqProofs (maxSteps:=10^7) only[go_sem,seval,↓gZ,Zh,k1,hpe]
    ·rw[k1] at hpe
     simp +contextual -implicitDefEqProofs (maxSteps:=10^7) only[go_sem,seval,↓gZ,Zh,k1,hpe]
   ·obtain⟨a,x,ha,hx⟩:=ZkY (by omega:0≤Wy 0 sS eL)
    have hpa:=Zvh ha hx
    obtain⟨xL,xW,xH,xF⟩:=x
    have hxv:=XC hv.1.2 _ (List.mem_of_getElem? hx)
    by_cases k1:eK=1
    ·have hpe:=Zhv sS sO sD sL sC eK eL eX eY eW eH epW epH epT epK eC eo ea ep et ek hv k1 a ha xL xW xH xF hx
     rw[k1] at hpe
     by_cases hr:Zc7 ⟨xL,xW,xH,xF++[⟨eX,eY,eW,eH⟩]⟩ (sS.eraseIdx a)
     ·have ee:Uw (Z3.mk sS sO sD sL sC) (ZC.mk eK eL (Box.mk eX eY eW eH) (Zi.mk (Pane.mk epW epH epT epK) eC) (Zj.mk eo ea ep et ek))=Zc8 (some (Z3.mk (YR ⟨xL,xW,xH,xF++[⟨eX,eY,eW,eH⟩]⟩ (sS.eraseIdx a)) sO sD sL sC)):=by
       unfold Uw evS
       simp[k1,hpa,hr]
      rw[ee]
      rw[decide_eq_true hr,if_pos hr] at hpe
      have hst:Za0 (Z3.mk (YR ⟨xL,xW,xH,xF++[⟨eX,eY,eW,eH⟩]⟩ (sS.eraseIdx a)) sO sD sL sC):=Zc9 hsm (by simp only;omega) (by simp only;omega) hr.2
      have e1:=Vk _ _ _ _ _ hst
      have e2:=V7 _ _ _ _ _ hst
      unfold Zc8
      generalize YR ⟨xL,xW,xH,xF++[⟨eX,eY,eW,eH⟩]⟩ (sS.eraseIdx a)=Q at hpe e1 e2 ⊢
      by_cases hvt:Vj (Z3.mk Q sO sD sL sC)
      ·rw[decide_eq_true hvt] at e1
       simp only[if_pos hvt]
       unfold shV
       refine Zc Xs Ms Zh ZO (by show 2≤_;decide) ?_
       simp +contextual -implicitDefEqProofs (maxSteps:=10^7) only[go_sem,seval,↓gZ,Zh,k1,hpe,e1,e2]
      ·rw[decide_eq_false hvt] at e1
       simp only[if_neg hvt]
       unfold shV
       refine Zc Xs Ms Zh ZO (by show 2≤_;decide) ?_
       simp +contextual -implicitDefEqProofs (maxSteps:=10^7) only[go_sem,seval,↓gZ,Zh,k1,hpe,e1]
     ·have ee:Uw (Z3.mk sS sO sD sL sC) (ZC.mk eK eL (Box.mk eX eY eW eH) (Zi.mk (Pane.mk epW epH epT epK) eC) (Zj.mk eo ea ep et ek))=none:=by
       unfold Uw evS
       simp[k1,hpa,hr,Zc8]
      rw[ee]
      rw[decide_eq_false hr] at hpe
      unfold shV
      refine Zc Xs Ms Zh ZO (by show 2≤_;decide) ?_
      simp +contextual -implicitDefEqProofs (maxSteps:=10^7) only[go_sem,seval,↓gZ,Zh,k1,hpe]
    ·have k5:eK=5:=by omega
     have hpe:=ZgL sS sO sD sL sC eK eL eX eY eW eH epW epH epT epK eC eo ea ep et ek hS k5 a ha xL xW xH xF hx (by have:=hxv.1;simp only at this;unfold I5;omega) (by have:=hxv.1;simp only at this;unfold I5;omega)
     rw[k5] at hpe
     have ee:Uw (Z3.mk sS sO sD sL sC) (ZC.mk eK eL (Box.mk eX eY eW eH) (Zi.mk (Pane.mk epW epH epT epK) eC) (Zj.mk eo ea ep et ek))=Zc8 (some (Z3.mk (sS.eraseIdx a) sO sD (sL+xW*xH) sC)):=by
      unfold Uw evS
      simp[k5,hpa]
     rw[ee]
     have hst:Za0 (Z3.mk (sS.eraseIdx a) sO sD (sL+xW*xH) sC):=⟨by have:=ZkW sS a;have:=hsm.1;simp only at this ⊢;omega,fun y hy=>hsm.2.1 y (List.mem_of_mem_eraseIdx hy),hsm.2.2⟩
     have e1:=Vk _ _ _ _ _ hst
     have e2:=V7 _ _ _ _ _ hst
     unfold Zc8
     generalize sS.eraseIdx a=Q at hpe e1 e2 ⊢
     by_cases hvt:Vj (Z3.mk Q sO sD (sL+xW*xH) sC)
     ·rw[decide_eq_true hvt] at e1
      simp only[if_pos hvt]
      unfold shV
      refine Zc Xs Ms Zh ZO (by show 2≤_;decide) ?_
      simp +contextual -implicitDefEqProofs (maxSteps:=10^7) only[go_sem,seval,↓gZ,Zh,k5,hpe,e1,e2]
     ·rw[decide_eq_false hvt] at e1
      simp only[if_neg hvt]
      unfold shV
      refine Zc Xs Ms Zh ZO (by show 2≤_;decide) ?_
      simp +contextual -implicitDefEqProofs (maxSteps:=10^7) only[go_sem,seval,↓gZ,Zh,k5,hpe,e1]
  ·have k1:¬eK=1:=fun h=>k15 (.inl h)
   have k5:¬eK=5:=fun h=>k15 (.inr h)
   by_cases k24:eK=2∨eK=4
   ·by_cases hl:Zju ⟨⟨epW,epH,epT,epK⟩,eC⟩
    ·by_cases k2:eK=2
     ·have hpe:=Zhw sS sO sD sL sC eK eL eX eY eW eH epW epH epT epK eC eo ea ep et ek hv hl k2
      rw[k2] at hpe
      have ee:Uw (Z3.mk sS sO sD sL sC) (ZC.mk eK eL (Box.mk eX eY eW eH) (Zi.mk (Pane.mk epW epH epT epK) eC) (Zj.mk eo ea ep et ek))=Zc8 (some (Z3.mk sS (ZaI ⟨epW,epH,epT,epK⟩ eC sO) sD sL sC)):=by
       unfold Uw evS
       simp[k2,hl]
      rw[ee]
      have hst:Za0 (Z3.mk sS (ZaI ⟨epW,epH,epT,epK⟩ eC sO) sD sL sC):=Zc9 hsm (Nat.le_trans (ZeO _ _ _) (by omega)) (by simp only;omega) hv.1
      have e1:=Vk _ _ _ _ _ hst
      have e2:=V7 _ _ _ _ _ hst
      unfold Zc8
      generalize ZaI ⟨epW,epH,epT,epK⟩ eC sO=Q at hpe e1 e2 ⊢
      by_cases hvt:Vj (Z3.mk sS Q sD sL sC)
      ·rw[decide_eq_true hvt] at e1
       simp only[if_pos hvt]
       unfold shV
       refine Zc Xs Ms Zh ZO (by show 2≤_;decide) ?_
       simp +contextual -implicitDefEqProofs (maxSteps:=10^7) only[go_sem,seval,↓gZ,Zh,k2,hpe,e1,e2]
      ·rw[decide_eq_false hvt] at e1
       simp only[if_neg hvt]
       unfold shV
       refine Zc Xs Ms Zh ZO (by show 2≤_;decide) ?_
       simp +contextual -implicitDefEqProofs (maxSteps:=10^7) only[go_sem,seval,↓gZ,Zh,k2,hpe,e1]
     ·have k4:eK=4:=by omega
      have hpe:=Zhx sS sO sD sL sC eK eL eX eY eW eH epW epH epT epK eC eo ea ep et ek hv hl k2
      rw[k4] at hpe
      by_cases ht:U3 ⟨epW,epH,epT,epK⟩ eC false sD=true
      ·rw[ht] at hpe
       have ee:Uw (Z3.mk sS sO sD sL sC) (ZC.mk eK eL (Box.mk eX eY eW eH) (Zi.mk (Pane.mk epW epH epT epK) eC) (Zj.mk eo ea ep et ek))=Zc8 (some (Z3.mk sS (ZaI ⟨epW,epH,epT,epK⟩ eC sO) (J9 sD ⟨epW,epH,epT,epK⟩ eC) (sL+eC*epW*epH) sC)):=by
        unfold Uw evS
        simp[k4,hl,ht]
       rw[ee]
       have hst:Za0 (Z3.mk sS (ZaI ⟨epW,epH,epT,epK⟩ eC sO) (J9 sD ⟨epW,epH,epT,epK⟩ eC) (sL+eC*epW*epH) sC):=Zc9 hsm (Nat.le_trans (ZeO _ _ _) (by omega)) (Nat.le_trans (List.length_filterMap_le _ _) (by omega)) hv.1
       have e1:=Vk _ _ _ _ _ hst
       have e2:=V7 _ _ _ _ _ hst
       unfold Zc8
       generalize ZaI ⟨epW,epH,epT,epK⟩ eC sO=Q at hpe e1 e2 ⊢
       generalize J9 sD ⟨epW,epH,epT,epK⟩ eC=R at hpe e1 e2 ⊢
       by_cases hvt:Vj (Z3.mk sS Q R (sL+eC*epW*epH) sC)
       ·rw[decide_eq_true hvt] at e1
        simp only[if_pos hvt]
        unfold shV
        refine Zc Xs Ms Zh ZO (by show 2≤_;decide) ?_
        simp +contextual -implicitDefEqProofs (maxSteps:=10^7) only[go_sem,seval,↓gZ,Zh,k4,hpe,e1,e2]
       ·rw[decide_eq_false hvt] at e1
        simp only[if_neg hvt]
        unfold shV
        refine Zc Xs Ms Zh ZO (by show 2≤_;decide) ?_
        simp +contextual -implicitDefEqProofs (maxSteps:=10^7) only[go_sem,seval,↓gZ,Zh,k4,hpe,e1]
      ·have ee:Uw (Z3.mk sS sO sD sL sC) (ZC.mk eK eL (Box.mk eX eY eW eH) (Zi.mk (Pane.mk epW epH epT epK) eC) (Zj.mk eo ea ep et ek))=none:=by
        unfold Uw evS
        simp[k4,ht,Zc8]
       rw[ee]
       simp only[Bool.not_eq_true] at ht
       rw[ht] at hpe
       unfold shV
       refine Zc Xs Ms Zh ZO (by show 2≤_;decide) ?_
       simp +contextual -implicitDefEqProofs (maxSteps:=10^7) only[go_sem,seval,↓gZ,Zh,k4,hpe]
    ·have hpe:=Zkb sS sO sD sL sC eK eL eX eY eW eH epW epH epT epK eC eo ea ep et ek hl
     have ee:Uw (Z3.mk sS sO sD sL sC) (ZC.mk eK eL (Box.mk eX eY eW eH) (Zi.mk (Pane.mk epW epH epT epK) eC) (Zj.mk eo ea ep et ek))=none:=by
      unfold Uw evS
      rcases k24 with k2 | k2<;>simp[k2,hl,Zc8]
     rw[ee]
     unfold shV
     refine Zc Xs Ms Zh ZO (by show 2≤_;decide) ?_
     rcases k24 with k2 | k2
     ·rw[k2] at hpe
      simp +contextual -implicitDefEqProofs (maxSteps:=10^7) only[go_sem,seval,↓gZ,Zh,k2,hpe]
     ·rw[k2] at hpe
      simp +contextual -implicitDefEqProofs (maxSteps:=10^7) only[go_sem,seval,↓gZ,Zh,k2,hpe]
   ·have k2:¬eK=2:=fun h=>k24 (.inl h)
    have k4:¬eK=4:=fun h=>k24 (.inr h)
    by_cases k3:eK=3
    ·exact Zac sS sO sD sL sC eK eL eX eY eW eH epW epH epT epK eC eo ea ep et ek (Zpz hv) k3
    ·have ee:Uw (Z3.mk sS sO sD sL sC) (ZC.mk eK eL (Box.mk eX eY eW eH) (Zi.mk (Pane.mk epW epH epT epK) eC) (Zj.mk eo ea ep et ek))=none:=by
      unfold Uw evS
      simp[k0,k1,k5,k2,k4,k3,Zc8]
     rw[ee]
     unfold shV
     refine Zc Xs Ms Zh ZO (by show 2≤_;decide) ?_
     simp +contextual -implicitDefEqProofs (maxSteps:=10^7) only[go_sem,seval,↓gZ,Zh,k0,k1,k5,k2,k4,k3]
def Zq7 (F:List Box) (W w h y:Int):Nat→Int→Option Box
 | 0,_=>none
 | n+1,x=>if x+w≤W then (if Yb F ⟨x,y,w,h⟩ then some ⟨x,y,w,h⟩ else Zq7 F W w h y n (x+1)) else none
def Zq8 (F:List Box) (W H w h:Int):Nat→Int→Option Box
 | 0,_=>none
 | n+1,y=>if y+h≤H then (match Zq7 F W w h y (W.toNat+1) 0 with
  | some b=>some b
  | none=>Zq8 F W H w h n (y+1)) else none
def Ju (q:Zd) (w h:Int):Option Box:=Zq8 q.Flaws q.W q.H w h (q.H.toNat+1) 0
theorem Zop {F:List Box} {W w h y:Int}:∀ {n:Nat} {x:Int} {b:Box},Zq7 F W w h y n x=some b→x≤b.X∧b.X+w≤W∧b.Y=y∧b.W=w∧b.H=h∧Yb F b
 | 0,x,b,e=>by simp[Zq7] at e
 | n+1,x,b,e=>by
  unfold Zq7 at e
  split at e
  ·split at e
   ·cases e;exact⟨Int.le_refl _,by assumption,rfl,rfl,rfl,by assumption⟩
   ·obtain⟨h1,h2⟩:=Zop e
    exact⟨by omega,h2⟩
  ·cases e
theorem Zoq {F:List Box} {W H w h:Int}:∀ {n:Nat} {y:Int} {b:Box},Zq8 F W H w h n y=some b→0≤b.X∧b.X+w≤W∧y≤b.Y∧b.Y+h≤H∧b.W=w∧b.H=h∧Yb F b
 | 0,y,b,e=>by simp[Zq8] at e
 | n+1,y,b,e=>by
  unfold Zq8 at e
  split at e
  ·rename_i hy
   split at e
   ·rename_i c hc
    cases e
    obtain⟨h1,h2,h3,h4,h5,h6⟩:=Zop hc
    exact⟨h1,h2,by omega,by omega,h4,h5,h6⟩
   ·obtain⟨h1,h2,h3,h4⟩:=Zoq e
    exact⟨h1,h2,by omega,h4⟩
  ·cases e
theorem Zq9 {q:Zd} {w h:Int} {b:Box} (e:Ju q w h=some b):0≤b.X∧b.X+w≤q.W∧0≤b.Y∧b.Y+h≤q.H∧b.W=w∧b.H=h∧Yb q.Flaws b:=Zoq e
def fcV:Option Box→AV×List Zl
 | some b=>(.tup [.d b.enc,(.d (.bool true))],[])
 | none=>(.tup [.d (.agg [J 0,J 0,J 0,J 0]),(.d (.bool false))],[])
theorem UT (qL qW qH:Int) (qF:List Box) (w h:Int) (hq:VPc (Zd.mk qL qW qH qF)) (hw:1≤w∧w≤200) (hh:1≤h∧h≤200):Zk Xs Ms Xu [(.d (.agg [J qL,J qW,J qH,.sl (qF.map Box.enc)])),(.d (J w)),(.d (J h))] []=some (fcV (Ju (Zd.mk qL qW qH qF) w h)):=by
 have hF:∀ f∈qF,VB f:=fun f hf=>(hq.2 f hf).1
 obtain⟨_,_,hW1,hW2,hH1,hH2,hF6⟩:=hq.1
 simp only at hW1 hW2 hH1 hH2 hF6
 clear hq
 unfold Ju
 simp only
 refine Zc Xs Ms WK Zll (by show 3≤_;decide) ?_
 simp +contextual -implicitDefEqProofs (maxSteps:=10^7) only[go_sem,seval,↓gZ,WK]
 refine Qb Xs Ms (st0:=?st0) (α:=Nat) (fun y=>[(8,.d (J (y:Int)))]) (fun _=>[]) (fun y=>(y:Int)≤qH∧Zq8 qF qW qH w h (qH.toNat+1-y) y=Zq8 qF qW qH w h (qH.toNat+1) 0) (fun y=>qH.toNat+1-y) 0 ?hc ⟨by omega,by simp⟩ ?h0 ?step
 case hc=>simp +contextual -implicitDefEqProofs (maxSteps:=10^7) only[go_sem,seval,↓gZ]<;>exact rfl
 case h0=>rfl
 case step=>
  intro y ⟨hy,hp⟩ ih
  obtain⟨n,hn⟩:∃ n,qH.toNat+1-y=n+1:=⟨qH.toNat-y,by omega⟩
  rw[hn,Zq8] at hp
  have wy:=wi ((y:Int)+h) (by omega) (by omega)
  by_cases hyl:(y:Int)+h≤qH
  ·rw[if_pos hyl] at hp
   simp +contextual -implicitDefEqProofs (maxSteps:=10^7) only[go_sem,seval,↓gZ,wy,hyl]
   refine Qb Xs Ms (st0:=?st1) (α:=Nat) (fun x=>[(9,.d (J (x:Int)))]) (fun _=>[]) (fun x=>(x:Int)≤qW∧Zq7 qF qW w h y (qW.toNat+1-x) x=Zq7 qF qW w h y (qW.toNat+1) 0) (fun x=>qW.toNat+1-x) 0 ?hc2 ⟨by omega,by simp⟩ ?h02 ?step2
   case hc2=>simp +contextual -implicitDefEqProofs (maxSteps:=10^7) only[go_sem,seval,↓gZ]<;>exact rfl
   case h02=>rfl
   case step2=>
    intro x ⟨hx,hpx⟩ ih2
    obtain⟨m,hm⟩:∃ m,qW.toNat+1-x=m+1:=⟨qW.toNat-x,by omega⟩
    rw[hm,Zq7] at hpx
    have wx:=wi ((x:Int)+w) (by omega) (by omega)
    have hsx:=ZD (k:=x) (by omega)
    have hsy:=ZD (k:=y) (by omega)
    by_cases hxl:(x:Int)+w≤qW
    ·rw[if_pos hxl] at hpx
     have ec:=Zhq qL qW qH qF x y w h hF (by simp only[VB];omega) (by omega)
     by_cases hcl:Yb qF ⟨x,y,w,h⟩
     ·rw[if_pos hcl] at hpx
      rw[← hpx] at hp
      simp only at hp
      rw[decide_eq_true hcl] at ec
      simp +contextual -implicitDefEqProofs (maxSteps:=10^7) only[go_sem,seval,↓gZ,wx,hxl,ec]
      rw[← hp]
      rfl
     ·rw[if_neg hcl] at hpx
      rw[decide_eq_false hcl] at ec
      simp +contextual -implicitDefEqProofs (maxSteps:=10^7) only[go_sem,seval,↓gZ,wx,hxl,ec,hsx]
      refine ih2 (x+1) _ ⟨by omega,?_⟩ (by omega) ?_
      ·rw[← hpx]
       have:qW.toNat+1-(x+1)=m:=by omega
       rw[this]
       rfl
      ·simp +contextual -implicitDefEqProofs (maxSteps:=10^7) only[go_sem,seval,↓gZ]
    ·rw[if_neg hxl] at hpx
     rw[← hpx] at hp
     simp only at hp
     simp +contextual -implicitDefEqProofs (maxSteps:=10^7) only[go_sem,seval,↓gZ,wx,hxl,hsy]
     refine ih (y+1) _ ⟨by omega,?_⟩ (by omega) ?_
     ·rw[← hp]
      have:qH.toNat+1-(y+1)=n:=by omega
      rw[this]
      rfl
     ·simp +contextual -implicitDefEqProofs (maxSteps:=10^7) only[go_sem,seval,↓gZ]
  ·rw[if_neg hyl] at hp
   simp +contextual -implicitDefEqProofs (maxSteps:=10^7) only[go_sem,seval,↓gZ,wy,hyl]
   rw[← hp]
   rfl
def okP (p:Pane) (q:Zd):Bool:=(Ju q p.W p.H).isSome || (p.Turns&&(Ju q p.H p.W).isSome)
def ZiB (l:List Zd) (b:Int):Int:=match l[b.toNat]? with
 | some q=>q.W*q.H
 | none=>0
def ZbP (L:List Zd) (p:Pane):List Zd→Nat→Int→Int
 | [],_,b=>b
 | x :: r,i,b=>ZbP L p r (i+1) (if okP p x=true∧(b<0∨x.W*x.H<ZiB L b) then (i:Int) else b)
theorem Zra {L l:List Zd} {p:Pane} {k i:Nat} {x:Zd} {b:Int} (hx:l[k]?=some x):ZbP L p (l.drop k) i b=ZbP L p (l.drop (k+1)) (i+1) (if okP p x=true∧(b<0∨x.W*x.H<ZiB L b) then (i:Int) else b):=by
 obtain⟨h1,h2⟩:=List.getElem?_eq_some_iff.1 hx
 rw[List.drop_eq_getElem_cons h1,h2,ZbP]
theorem ZsT {L l:List Zd} {p:Pane} {i:Nat} {b:Int}:ZbP L p (l.drop l.length) i b=b:=by simp[ZbP]
def Zgt (L:List Zd) (p:Pane):Int:=ZbP L p L 0 (-1)
def ZwL (L:List Zd) (p:Pane):Int:=if VSt L∧VP p then (if Zgt L p<0 then 0 else match L[(Zgt L p).toNat]? with
 | some q=>q.Label
 | none=>0) else 0
theorem Zor (L:List Zd) (p:Pane):∀ (l:List Zd) (i:Nat) (b:Int),(∀ (j:Nat) (x:Zd),l[j]?=some x→L[i+j]?=some x)→(b<0∨∃ (j:Nat) (x:Zd),b=(j:Int)∧L[j]?=some x∧okP p x=true)→ZbP L p l i b<0∨∃ (j:Nat) (x:Zd),ZbP L p l i b=(j:Int)∧L[j]?=some x∧okP p x=true
 | [],i,b,_,hb=>hb
 | x :: r,i,b,hl,hb=>by
  unfold ZbP
  refine Zor L p r (i+1) _ (fun j y hy=>by have:=hl (j+1) y (by simpa using hy);rw[show i+1+j=i+(j+1) by omega];exact this) ?_
  split
  ·rename_i hc
   exact .inr ⟨i,x,rfl,by have:=hl 0 x (by simp);simpa using this,hc.1⟩
  ·exact hb
theorem ZwM (L:List Zd) (p:Pane):Zgt L p<0∨∃ (j:Nat) (x:Zd),Zgt L p=(j:Int)∧L[j]?=some x∧okP p x=true:=
 Zor L p L 0 (-1) (fun j x h=>by simpa using h) (.inl (by omega))
theorem Zk1 (l:List Zd) (pW pH:Int) (pT:Bool) (pK:Int) (hv:VSt l) (hp:VP (Pane.mk pW pH pT pK)):Zk Xs Ms Wg [(.d (.sl (l.map Zd.enc))),(.d (.agg [J pW,J pH,.bool pT,J pK]))] []=some ((.d (J (ZwL l (Pane.mk pW pH pT pK)))),[]):=by
 have e1:=YO l (by have:=hv.1;omega) (fun x hx=>⟨by have:=(ZfH hv).2 x hx;omega,Zhu (XC hv.2 x hx)⟩)
 have e2:=Vh pW pH pT pK
 rw[decide_eq_true hv] at e1
 rw[decide_eq_true hp] at e2
 have hval:=fun x hx=>XC hv.2 x hx
 have hl20:=hv.1
 unfold ZwL
 rw[if_pos ⟨hv,hp⟩]
 have hpw:1≤pW∧pW≤200∧1≤pH∧pH≤200:=⟨hp.1,hp.2.1,hp.2.2.1,hp.2.2.2.1⟩
 clear hv hp
 refine Zc Xs Ms UB Znx (by show 2≤_;decide) ?_
 simp +contextual -implicitDefEqProofs (maxSteps:=10^7) only[go_sem,seval,↓gZ,UB,e1,e2]
 refine Qb Xs Ms (st0:=?st0) (α:=Nat×Int) (fun s=>[(6,.d (J (s.1:Int))),(5,.d (J s.2))]) (fun _=>[]) (fun s=>s.1≤l.length∧ZbP l (Pane.mk pW pH pT pK) (l.drop s.1) s.1 s.2=Zgt l (Pane.mk pW pH pT pK)∧(s.2=-1∨∃ j:Nat,s.2=(j:Int)∧j<l.length)) (fun s=>l.length-s.1) (0,-1) ?hc ⟨by simp,by simp[Zgt],.inl rfl⟩ ?h0 ?step
 case hc=>simp +contextual -implicitDefEqProofs (maxSteps:=10^7) only[go_sem,seval,↓gZ]<;>exact rfl
 case h0=>rfl
 case step=>
  intro⟨i,b⟩ ⟨hi,hq,hb⟩ ih
  simp only at hi hq hb
  by_cases hlt:i<l.length
  ·obtain⟨x,hx⟩:=Z4 hlt
   have hw:=ZD (k:=i) (by omega)
   rw[Zra hx] at hq
   have hvx:=hval x (List.mem_of_getElem? hx)
   have f1:=UT x.Label x.W x.H x.Flaws pW pH hvx ⟨hpw.1,hpw.2.1⟩ hpw.2.2
   have f2:=UT x.Label x.W x.H x.Flaws pH pW hvx hpw.2.2 ⟨hpw.1,hpw.2.1⟩
   have hx1:=hvx.1
   have hxa:0≤x.W*x.H∧x.W*x.H≤40000:=Zih (b:=⟨0,0,x.W,x.H⟩) (by simp only[VB];omega)
   have hok:okP (Pane.mk pW pH pT pK) x=((Ju ⟨x.Label,x.W,x.H,x.Flaws⟩ pW pH).isSome || (pT&&(Ju ⟨x.Label,x.W,x.H,x.Flaws⟩ pH pW).isSome)):=rfl
   obtain⟨L,W,H,F⟩:=x
   simp only at f1 f2 hxa hok
   have u1:=wi (W*H) (by omega) (by omega)
   cases h1:Ju ⟨L,W,H,F⟩ pW pH with
   | some b1=>
    rw[h1] at f1 hok
    unfold fcV at f1
    simp only[Option.isSome_some,Bool.true_or] at hok
    obtain⟨bX,bY,bW,bH⟩:=b1
    rcases hb with hb | ⟨j,hb,hj⟩
    ·subst hb
     rw[if_pos ⟨hok,.inl (by omega)⟩] at hq
     simp +contextual -implicitDefEqProofs (maxSteps:=10^7) only[go_sem,seval,↓gZ,hx,hlt,hw,f1]
     refine ih (i+1,(i:Int)) _ ⟨by simp only;omega,hq,.inr ⟨i,rfl,hlt⟩⟩ (by simp only;omega) ?_
     simp +contextual -implicitDefEqProofs (maxSteps:=10^7) only[go_sem,seval,↓gZ]
    ·subst hb
     obtain⟨y,hy⟩:=Z4 hj
     have hvy:=(hval y (List.mem_of_getElem? hy)).1
     have hya:0≤y.W*y.H∧y.W*y.H≤40000:=Zih (b:=⟨0,0,y.W,y.H⟩) (by simp only[VB];omega)
     have hj0:¬(j:Int)<0:=by omega
     have har:ZiB l (j:Int)=y.W*y.H:=by unfold ZiB;rw[Int.toNat_natCast,hy]
     rw[har] at hq
     obtain⟨yL,yW,yH,yF⟩:=y
     simp only at hya hq
     have u2:=wi (yW*yH) (by omega) (by omega)
     by_cases hc:W*H<yW*yH
     ·rw[if_pos ⟨hok,.inr hc⟩] at hq
      simp +contextual -implicitDefEqProofs (maxSteps:=10^7) only[go_sem,seval,↓gZ,hx,hlt,hw,hj0,hj,hy,u1,u2,hc,f1]
      refine ih (i+1,(i:Int)) _ ⟨by simp only;omega,hq,.inr ⟨i,rfl,hlt⟩⟩ (by simp only;omega) ?_
      simp +contextual -implicitDefEqProofs (maxSteps:=10^7) only[go_sem,seval,↓gZ]
     ·rw[if_neg (fun h=>by rcases h.2 with h | h<;>omega)] at hq
      simp +contextual -implicitDefEqProofs (maxSteps:=10^7) only[go_sem,seval,↓gZ,hx,hlt,hw,hj0,hj,hy,u1,u2,hc,f1]
      refine ih (i+1,(j:Int)) _ ⟨by simp only;omega,hq,.inr ⟨j,rfl,hj⟩⟩ (by simp only;omega) ?_
      simp +contextual -implicitDefEqProofs (maxSteps:=10^7) only[go_sem,seval,↓gZ]
   | none=>
    rw[h1] at f1 hok
    unfold fcV at f1
    cases pT with
    | false=>
     simp only[Option.isSome_none,Bool.false_and,Bool.or_self] at hok
     rw[if_neg (fun h=>by rw[hok] at h;exact absurd h.1 (by simp))] at hq
     simp +contextual -implicitDefEqProofs (maxSteps:=10^7) only[go_sem,seval,↓gZ,hx,hlt,hw,f1]
     refine ih (i+1,b) _ ⟨by simp only;omega,hq,hb⟩ (by simp only;omega) ?_
     simp +contextual -implicitDefEqProofs (maxSteps:=10^7) only[go_sem,seval,↓gZ]
    | true=>
     cases h2:Ju ⟨L,W,H,F⟩ pH pW with
     | none=>
      rw[h2] at f2 hok
      unfold fcV at f2
      simp only[Option.isSome_none,Bool.true_and,Bool.or_self] at hok
      rw[if_neg (fun h=>by rw[hok] at h;exact absurd h.1 (by simp))] at hq
      simp +contextual -implicitDefEqProofs (maxSteps:=10^7) only[go_sem,seval,↓gZ,hx,hlt,hw,f1,f2]
      refine ih (i+1,b) _ ⟨by simp only;omega,hq,hb⟩ (by simp only;omega) ?_
      simp +contextual -implicitDefEqProofs (maxSteps:=10^7) only[go_sem,seval,↓gZ]
     | some b2=>
      rw[h2] at f2 hok
      unfold fcV at f2
      simp only[Option.isSome_some,Option.isSome_none,Bool.true_and,Bool.false_or] at hok
      obtain⟨bX,bY,bW,bH⟩:=b2
      rcases hb with hb | ⟨j,hb,hj⟩
      ·subst hb
       rw[if_pos ⟨hok,.inl (by omega)⟩] at hq
       simp +contextual -implicitDefEqProofs (maxSteps:=10^7) only[go_sem,seval,↓gZ,hx,hlt,hw,f1,f2]
       refine ih (i+1,(i:Int)) _ ⟨by simp only;omega,hq,.inr ⟨i,rfl,hlt⟩⟩ (by simp only;omega) ?_
       simp +contextual -implicitDefEqProofs (maxSteps:=10^7) only[go_sem,seval,↓gZ]
      ·subst hb
       obtain⟨y,hy⟩:=Z4 hj
       have hvy:=(hval y (List.mem_of_getElem? hy)).1
       have hya:0≤y.W*y.H∧y.W*y.H≤40000:=Zih (b:=⟨0,0,y.W,y.H⟩) (by simp only[VB];omega)
       have hj0:¬(j:Int)<0:=by omega
       have har:ZiB l (j:Int)=y.W*y.H:=by unfold ZiB;rw[Int.toNat_natCast,hy]
       rw[har] at hq
       obtain⟨yL,yW,yH,yF⟩:=y
       simp only at hya hq
       have u2:=wi (yW*yH) (by omega) (by omega)
       by_cases hc:W*H<yW*yH
       ·rw[if_pos ⟨hok,.inr hc⟩] at hq
        simp +contextual -implicitDefEqProofs (maxSteps:=10^7) only[go_sem,seval,↓gZ,hx,hlt,hw,hj0,hj,hy,u1,u2,hc,f1,f2]
        refine ih (i+1,(i:Int)) _ ⟨by simp only;omega,hq,.inr ⟨i,rfl,hlt⟩⟩ (by simp only;omega) ?_
        simp +contextual -implicitDefEqProofs (maxSteps:=10^7) only[go_sem,seval,↓gZ]
       ·rw[if_neg (fun h=>by rcases h.2 with h | h<;>omega)] at hq
        simp +contextual -implicitDefEqProofs (maxSteps:=10^7) only[go_sem,seval,↓gZ,hx,hlt,hw,hj0,hj,hy,u1,u2,hc,f1,f2]
        refine ih (i+1,(j:Int)) _ ⟨by simp only;omega,hq,.inr ⟨j,rfl,hj⟩⟩ (by simp only;omega) ?_
        simp +contextual -implicitDefEqProofs (maxSteps:=10^7) only[go_sem,seval,↓gZ]
  ·have:i=l.length:=by omega
   subst this
   rw[ZsT] at hq
   subst hq
   rcases hb with hb | ⟨j,hb,hj⟩
   ·have h0:Zgt l (Pane.mk pW pH pT pK)<0:=by omega
    simp +contextual -implicitDefEqProofs (maxSteps:=10^7) only[go_sem,seval,↓gZ,hb]
   ·have h0:¬Zgt l (Pane.mk pW pH pT pK)<0:=by omega
    have h1:¬(j:Int)<0:=by omega
    obtain⟨y,hy⟩:=Z4 hj
    simp only[hb,if_neg h1,Int.toNat_natCast,hy]
    obtain⟨yL,yW,yH,yF⟩:=y
    simp +contextual -implicitDefEqProofs (maxSteps:=10^7) only[go_sem,seval,↓gZ,h1,hj,hy]
def Vy (lo hi fr to:Int):List Int:=(if fr<lo∧lo<to then [lo] else [])++(if fr<hi∧hi<to then [hi] else [])
theorem Zvi {lo hi fr to x:Int} (h:x∈Vy lo hi fr to):x<to:=by
 unfold Vy at h
 rcases List.mem_append.1 h with h | h
 ·split at h
  ·simp at h;omega
  ·simp at h
 ·split at h
  ·simp at h;omega
  ·simp at h
theorem ZiC (lo hi fr to:Int):(Vy lo hi fr to).length≤2:=by
 unfold Vy
 split<;>split<;>simp
theorem Zvj {lo hi fr t:Int} (hl:lo<hi) (hf:fr<t) (h:t=lo∨t=hi):Vy lo hi fr (t+1)=Vy lo hi fr t++[t]:=by
 unfold Vy
 rcases h with h | h
 ·rw[if_pos (show fr<lo∧lo<t+1 by omega),if_neg (show ¬(fr<hi∧hi<t+1) by omega),if_neg (show ¬(fr<lo∧lo<t) by omega),if_neg (show ¬(fr<hi∧hi<t) by omega),h];rfl
 ·rw[if_pos (show fr<hi∧hi<t+1 by omega),if_neg (show ¬(fr<hi∧hi<t) by omega)]
  by_cases h2:fr<lo
  ·rw[if_pos (show fr<lo∧lo<t+1 by omega),if_pos (show fr<lo∧lo<t by omega),h];rfl
  ·rw[if_neg (show ¬(fr<lo∧lo<t+1) by omega),if_neg (show ¬(fr<lo∧lo<t) by omega),h];rfl
theorem ZwN {lo hi fr t:Int} (h:¬(t=lo∨t=hi)):Vy lo hi fr (t+1)=Vy lo hi fr t:=by
 unfold Vy
 have h1:(fr<lo∧lo<t+1)=(fr<lo∧lo<t):=propext (by omega)
 have h2:(fr<hi∧hi<t+1)=(fr<hi∧hi<t):=propext (by omega)
 simp only[h1,h2]
theorem Zhy:∀ (l:List Int) (k:Nat) (n:Int),n∉l→V6 k l n=-1
 | [],_,_,_=>rfl
 | x :: l,k,n,h=>by
  simp only[List.mem_cons,not_or] at h
  unfold V6
  rw[if_neg (fun e=>h.1 e.symm),Zhy l (k+1) n h.2]
theorem Zk2 (cP:Int) (cT:Bool) (cX cY cW cH:Int) (op lo n fr to:Int) (ho:(op=2∧lo=cX∧n=cW)∨(op=3∧lo=cY∧n=cH)) (hc:0≤cX∧cX≤1000∧0≤cY∧cY≤1000∧1≤cW∧cW≤1000∧1≤cH∧cH≤1000) (h0:0≤fr) (h1:fr<to) (h2:to≤1000):Zk Xs Ms ZbF [.d (.sl [.agg [J cP,.bool cT,J cX,J cY,J cW,J cH]]),(.d (J op)),(.d (J fr)),(.d (J to))] []=some (.own 0,[.row 1 ((Vy lo (lo+n) fr to).map YF) true false]):=by
 have w0:=wi (fr+1) (by omega) (by omega)
 have wx:=wi (cX+cW) (by omega) (by omega)
 have wy:=wi (cY+cH) (by omega) (by omega)
 have hn:lo<lo+n:=by omega
 have he0:Vy lo (lo+n) fr (fr+1)=[]:=by unfold Vy;rw[if_neg (by omega),if_neg (by omega)];rfl
 refine Zc Xs Ms Zdh Zvu (by show 4≤_;decide) ?_
 simp +contextual -implicitDefEqProofs (maxSteps:=10^7) only[go_sem,seval,↓gZ,Zdh,w0]
 refine Qb Xs Ms (st0:=?st0) (α:=Int) (fun t=>[(10,.d (J t))]) (fun t=>[(0,.row 1 ((Vy lo (lo+n) fr t).map YF) true false)]) (fun t=>fr+1≤t∧t≤to) (fun t=>(to-t).toNat) (fr+1) ?hc (by omega) ?h0 ?step
 case hc=>simp +contextual -implicitDefEqProofs (maxSteps:=10^7) only[go_sem,seval,↓gZ]<;>exact rfl
 case h0=>rw[he0];rfl
 case step=>
  intro t ⟨ht1,ht2⟩ ih
  by_cases hlt:t<to
  ·have wt:=wi (t+1) (by omega) (by omega)
   have hel:=ZiC lo (lo+n) fr t
   have hr:((Vy lo (lo+n) fr t).length+1)*8≤140737488355328∧(Vy lo (lo+n) fr t).length≤140737488355327:=by omega
   have epl:=Zpu (Vy lo (lo+n) fr t) t (by omega)
   rw[Zhy _ _ _ (fun h=>by have:=Zvi h;omega)] at epl
   by_cases hm:t=lo∨t=lo+n
   ·have hy:=Zvj hn (show fr<t by omega) hm
    have hfin:(1:Int)+0=1:=rfl
    rcases ho with ⟨o1,o2,o3⟩ | ⟨o1,o2,o3⟩
    ·have hm' : (t=cX∨t=cX+cW):=by omega
     simp +contextual -implicitDefEqProofs (maxSteps:=10^7) only[go_sem,seval,↓gZ,hlt]
     refine ZS Xs Ms ?_
     simp +contextual -implicitDefEqProofs (maxSteps:=10^7) only[go_sem,seval,↓gZ,wx,o1,hm',epl,hr,← Bool.decide_or]
     refine ZS Xs Ms ?_
     simp +contextual -implicitDefEqProofs (maxSteps:=10^7) only[go_sem,seval,↓gZ,wt]
     refine ih (t+1) _ (by omega) (by omega) ?_
     simp +contextual -implicitDefEqProofs (maxSteps:=10^7) only[go_sem,seval,↓gZ,hy,o1,List.map_append,List.map_cons,List.map_nil]
    ·have hm' : (t=cY∨t=cY+cH):=by omega
     simp +contextual -implicitDefEqProofs (maxSteps:=10^7) only[go_sem,seval,↓gZ,hlt]
     refine ZS Xs Ms ?_
     simp +contextual -implicitDefEqProofs (maxSteps:=10^7) only[go_sem,seval,↓gZ,wx,wy,o1,hm',epl,hr,← Bool.decide_or]
     refine ZS Xs Ms ?_
     simp +contextual -implicitDefEqProofs (maxSteps:=10^7) only[go_sem,seval,↓gZ,wt]
     refine ih (t+1) _ (by omega) (by omega) ?_
     simp +contextual -implicitDefEqProofs (maxSteps:=10^7) only[go_sem,seval,↓gZ,hy,o1,List.map_append,List.map_cons,List.map_nil]
   ·have hy:=ZwN (fr:=fr) hm
    rcases ho with ⟨o1,o2,o3⟩ | ⟨o1,o2,o3⟩
    ·have hm' : ¬(t=cX∨t=cX+cW):=by omega
     simp +contextual -implicitDefEqProofs (maxSteps:=10^7) only[go_sem,seval,↓gZ,hlt]
     refine ZS Xs Ms ?_
     simp +contextual -implicitDefEqProofs (maxSteps:=10^7) only[go_sem,seval,↓gZ,wx,o1,hm',← Bool.decide_or]
     refine ZS Xs Ms ?_
     simp +contextual -implicitDefEqProofs (maxSteps:=10^7) only[go_sem,seval,↓gZ,wt]
     refine ih (t+1) _ (by omega) (by omega) ?_
     simp +contextual -implicitDefEqProofs (maxSteps:=10^7) only[go_sem,seval,↓gZ,hy,o1]
    ·have hm' : ¬(t=cY∨t=cY+cH):=by omega
     simp +contextual -implicitDefEqProofs (maxSteps:=10^7) only[go_sem,seval,↓gZ,hlt]
     refine ZS Xs Ms ?_
     simp +contextual -implicitDefEqProofs (maxSteps:=10^7) only[go_sem,seval,↓gZ,wx,wy,o1,hm',← Bool.decide_or]
     refine ZS Xs Ms ?_
     simp +contextual -implicitDefEqProofs (maxSteps:=10^7) only[go_sem,seval,↓gZ,wt]
     refine ih (t+1) _ (by omega) (by omega) ?_
     simp +contextual -implicitDefEqProofs (maxSteps:=10^7) only[go_sem,seval,↓gZ,hy,o1]
  ·have:t=to:=by omega
   subst this
   simp +contextual -implicitDefEqProofs (maxSteps:=10^7) only[go_sem,seval,↓gZ]
theorem ZfI (cP:Int) (cT:Bool) (cX cY cW cH:Int) (op lo n t:Int) (f:Bool) (ho:(op=2∧lo=cX∧n=cW)∨(op=3∧lo=cY∧n=cH)) (hc:0≤cX∧cX≤1000∧0≤cY∧cY≤1000∧1≤cW∧cW≤1000∧1≤cH∧cH≤1000) (hn:¬(lo<t∧t<lo+n)):Zk Xs Ms ZbX [.d (.sl [.agg [J cP,.bool cT,J cX,J cY,J cW,J cH]]),(.d (J op)),(.d (J t)),(.d (.bool f))] [] =
  some (.tup [.own 0,(.d (.bool true))],[.row 6 (if f=decide (lo+n≤t) then [.agg [J cP,.bool cT,J cX,J cY,J cW,J cH]] else []) true false]):=by
 have wx:=wi (cX+cW) (by omega) (by omega)
 have wy:=wi (cY+cH) (by omega) (by omega)
 have bb:∀ a b:Bool,ZkE .eql true (.d (.bool a)) (.d (.bool b))=QY (.d (.bool (a==b))):=fun _ _=>rfl
 refine Zc Xs Ms Zdi Zxf (by show 4≤_;decide) ?_
 rcases ho with ⟨o1,o2,o3⟩ | ⟨o1,o2,o3⟩
 ·have hn' : ¬(cX<t∧t<cX+cW):=by omega
  have he:(lo+n≤t)=(cX+cW≤t):=propext (by omega)
  simp only[he]
  simp +contextual -implicitDefEqProofs (maxSteps:=10^7) only[go_sem,seval,↓gZ,Zdi]
  refine ZS Xs Ms ?_
  by_cases hf:f=decide (cX+cW≤t)
  ·have hg:(f==decide (cX+cW≤t))=true:=by rw[hf];simp
   rw[if_pos hf]
   simp +contextual -implicitDefEqProofs (maxSteps:=10^7) only[go_sem,seval,↓gZ,wx,o1,hn',bb,hg,← Bool.decide_and]
   refine ZS Xs Ms ?_
   simp +contextual -implicitDefEqProofs (maxSteps:=10^7) only[go_sem,seval,↓gZ]
  ·have hg:(f==decide (cX+cW≤t))=false:=by simpa using hf
   rw[if_neg hf]
   simp +contextual -implicitDefEqProofs (maxSteps:=10^7) only[go_sem,seval,↓gZ,wx,o1,hn',bb,hg,← Bool.decide_and]
   refine ZS Xs Ms ?_
   simp +contextual -implicitDefEqProofs (maxSteps:=10^7) only[go_sem,seval,↓gZ]
 ·have hn' : ¬(cY<t∧t<cY+cH):=by omega
  have he:(lo+n≤t)=(cY+cH≤t):=propext (by omega)
  simp only[he]
  simp +contextual -implicitDefEqProofs (maxSteps:=10^7) only[go_sem,seval,↓gZ,Zdi]
  refine ZS Xs Ms ?_
  by_cases hf:f=decide (cY+cH≤t)
  ·have hg:(f==decide (cY+cH≤t))=true:=by rw[hf];simp
   rw[if_pos hf]
   simp +contextual -implicitDefEqProofs (maxSteps:=10^7) only[go_sem,seval,↓gZ,wx,wy,o1,hn',bb,hg,← Bool.decide_and]
   refine ZS Xs Ms ?_
   simp +contextual -implicitDefEqProofs (maxSteps:=10^7) only[go_sem,seval,↓gZ]
  ·have hg:(f==decide (cY+cH≤t))=false:=by simpa using hf
   rw[if_neg hf]
   simp +contextual -implicitDefEqProofs (maxSteps:=10^7) only[go_sem,seval,↓gZ,wx,wy,o1,hn',bb,hg,← Bool.decide_and]
   refine ZS Xs Ms ?_
   simp +contextual -implicitDefEqProofs (maxSteps:=10^7) only[go_sem,seval,↓gZ]
def ZbQ:Zj→AV×List Zl
 | .mk o a q t ks=>(.tup [.agg [(.d (J o)),(.d (J a)),(.d (J q)),(.d (.bool t)),.own 0],(.d (.bool true))],[.row 5 (ks.map Zj.enc) true false])
theorem ZaB (bX bY bW bH:Int):Zk Xs Ms Qu [.d (.sl []),(.d (.agg [J bX,J bY,J bW,J bH]))] []=some (ZbQ BT.waste.plan):=by
 simp only[BT.plan,ZbQ]
 refine Zc Xs Ms X3 Zcu (by show 2≤_;decide) ?_
 simp +contextual -implicitDefEqProofs (maxSteps:=10^7) only[go_sem,seval,↓gZ,X3]
theorem ZeR (cP:Int) (cT:Bool) (cX cY cW cH:Int):Zk Xs Ms Qu [.d (.sl [.agg [J cP,.bool cT,J cX,J cY,J cW,J cH]]),.d (.agg [J cX,J cY,J cW,J cH])] []=some (ZbQ (BT.pane cP cT).plan):=by
 simp only[BT.plan,ZbQ]
 refine Zc Xs Ms X3 Zcu (by show 2≤_;decide) ?_
 simp +contextual -implicitDefEqProofs (maxSteps:=10^7) only[go_sem,seval,↓gZ,X3]
theorem Jv (A B:List D) (bX bY bW bH:Int) (d:Bool) (a:Int) (l r:BT) (hA:uni 6 A) (hB:uni 6 B) (h1:R64 (bX+a)) (h2:R64 (bY+a)) (h3:R64 (bW-a)) (h4:R64 (bH-a))
  (hl:Zk Xs Ms Qu [.d (.sl A),if d then .d (.agg [J bX,J bY,J a,J bH]) else .d (.agg [J bX,J bY,J bW,J a])] []=some (ZbQ l.plan))
  (hr:Zk Xs Ms Qu [.d (.sl B),if d then .d (.agg [J (bX+a),J bY,J (bW-a),J bH]) else .d (.agg [J bX,J (bY+a),J bW,J (bH-a)])] []=some (ZbQ r.plan)) :
  Zk Xs Ms Y6 [.d (.sl A),.d (.sl B),(.d (.agg [J bX,J bY,J bW,J bH])),(.d (J (Za6 d))),(.d (J a))] []=some (ZbQ (BT.cut d a l r).plan):=by
 have w1:=wi (bX+a) h1.1 h1.2
 have w2:=wi (bY+a) h2.1 h2.2
 have w3:=wi (bW-a) h3.1 h3.2
 have w4:=wi (bH-a) h4.1 h4.2
 obtain⟨lo,la,lq,lt,lk,el⟩:∃ o a q t ks,l.plan=.mk o a q t ks:=by cases l.plan;exact⟨_,_,_,_,_,rfl⟩
 obtain⟨ro,ra,rq,rt,rk,er⟩:∃ o a q t ks,r.plan=.mk o a q t ks:=by cases r.plan;exact⟨_,_,_,_,_,rfl⟩
 rw[el] at hl
 rw[er] at hr
 simp only[BT.plan,el,er,ZbQ] at hl hr ⊢
 cases d with
 | true=>
  simp only[if_true,Za6] at hl hr ⊢
  refine Zc Xs Ms Vb Zgx (by show 5≤_;decide) ?_
  simp +contextual -implicitDefEqProofs (maxSteps:=10^7) only[go_sem,seval,↓gZ,Vb,w1,w3,hl,hr,hA,hB]
 | false=>
  simp only[Bool.false_eq_true,if_false,Za6] at hl hr ⊢
  refine Zc Xs Ms Vb Zgx (by show 5≤_;decide) ?_
  simp +contextual -implicitDefEqProofs (maxSteps:=10^7) only[go_sem,seval,↓gZ,Vb,w1,w2,w3,w4,hl,hr,hA,hB]
end Go.Proofs.YtkdjbefmiiibpaaGreatDoor
