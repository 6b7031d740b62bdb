/- Contracts of the functions,by the abstract semantics. -/
import Derived.Test.YtkdjbefmiiibpaaGreatDoorBCode
import Derived.Test.YtkdjbefmiiibpaaGreatDoorAbsParts
import Derived.Test.YtkdjbefmiiibpaaGreatDoorBC3
namespace Go.Proofs.YtkdjbefmiiibpaaGreatDoor
open Go Go.Abs Go.Abs.E Go.Abs.L
open Nat (reduceMul reduceSub reduceLeDiff reduceEqDiff)
open Int (reduceLE reduceEq reduceToNat reduceNeg)
set_option linter.unusedSimpArgs false
set_option linter.unusedVariables false
set_option maxRecDepth 20000
set_option maxHeartbeats 4000000
theorem Zbb (cP:Int) (cT:Bool) (cX cY cW cH:Int) (bX bY bW bH:Int) (d:Bool) (x:Int) (r:List Int) (P:Zj) (hc:0≤cX∧cX≤1000∧0≤cY∧cY≤1000∧1≤cW∧cW≤1000∧1≤cH∧cH≤1000) (hb:0≤bX∧0≤bY∧1≤bW∧1≤bH∧bX+bW≤1000∧bY+bH≤1000) (hne:¬(cX=bX∧cY=bY∧cW=bW∧cH=bH))
  (h2:d=false→WG cX (cX+cW) bX (bX+bW)=[])
  (he:(if d then WG cX (cX+cW) bX (bX+bW) else WG cY (cY+cH) bY (bY+bH))=x :: r)
  (hn:if d then ¬(cX<x∧x<cX+cW) else ¬(cY<x∧x<cY+cH)) (hx:if d then bX<x∧x<bX+bW else bY<x∧x<bY+bH)
  (hp:Zh Xs Ms V8 [.d (.sl (if true=decide ((if d then cX+cW else cY+cH)≤x) then [.agg [J cP,.bool cT,J cX,J cY,J cW,J cH]] else [])),.d (.sl (if false=decide ((if d then cX+cW else cY+cH)≤x) then [.agg [J cP,.bool cT,J cX,J cY,J cW,J cH]] else [])),(.d (.agg [J bX,J bY,J bW,J bH])),(.d (J (Zby d))),(.d (J (x-(if d then bX else bY))))] []=some (Zer P)) :
  Zh Xs Ms QG [.d (.sl [.agg [J cP,.bool cT,J cX,J cY,J cW,J cH]]),(.d (.agg [J bX,J bY,J bW,J bH]))] []=some (Zer P):=by
 have w1:=wi (bX+bW) (by omega) (by omega)
 have w2:=wi (bY+bH) (by omega) (by omega)
 have c2:(0:Int)<((2:Nat):Int):=by omega
 obtain⟨o,a,q,t,ks⟩:=P
 simp only[Zer] at hp ⊢
 have e2:=Zp9 cP cT cX cY cW cH 2 cX cW bX (bX+bW) (.inl ⟨rfl,rfl,rfl⟩) hc hb.1 (by omega) (by omega)
 have e3:=Zp9 cP cT cX cY cW cH 3 cY cH bY (bY+bH) (.inr ⟨rfl,rfl,rfl⟩) hc hb.2.1 (by omega) (by omega)
 have hrl:r=[]∨∃ y,r=[y]:=by
  have h1:(x :: r).length≤2:=by
   rw[← he]
   cases d
   ·exact Zm2 _ _ _ _
   ·exact Zm2 _ _ _ _
  match r,h1 with
  | [],_=>exact .inl rfl
  | [y],_=>exact .inr ⟨y,rfl⟩
  | y :: z :: r,h1=>simp at h1
 cases d with
 | true=>
  simp only[if_true,Zby] at he hn hx hp
  rw[he] at e2
  have w3:=wi (x-bX) (by omega) (by omega)
  have p1:=ZjR cP cT cX cY cW cH 2 cX cW x true (.inl ⟨rfl,rfl,rfl⟩) hc hn
  have p2:=ZjR cP cT cX cY cW cH 2 cX cW x false (.inl ⟨rfl,rfl,rfl⟩) hc hn
  generalize hAe:(if true=decide (cX+cW≤x) then [D.agg [J cP,.bool cT,J cX,J cY,J cW,J cH]] else [])=A at p1 hp
  have hA:uni 6 A:=by rw[← hAe];split<;>simp[uni,D.cells]
  generalize hBe:(if false=decide (cX+cW≤x) then [D.agg [J cP,.bool cT,J cX,J cY,J cW,J cH]] else [])=B at p2 hp
  have hB:uni 6 B:=by rw[← hBe];split<;>simp[uni,D.cells]
  refine Zb Xs Ms YK Zfs (by show 2≤_;decide) ?_
  simp +contextual -implicitDefEqProofs (maxSteps:=10^7) only[go_sem,seval,↓gZ,YK,hne,← Bool.decide_and]
  refine ZM Xs Ms ?_
  rcases hrl with rfl | ⟨y,rfl⟩
  ·simp only[List.map_cons,List.map_nil,YL] at e2
   simp +contextual -implicitDefEqProofs (maxSteps:=10^7) only[go_sem,seval,↓gZ,w1,e2]
   refine ZM Xs Ms ?_
   simp +contextual -implicitDefEqProofs (maxSteps:=10^7) only[go_sem,seval,↓gZ,p1,p2,w3,hp,hA,hB,c2]
  ·simp only[List.map_cons,List.map_nil,YL] at e2
   simp +contextual -implicitDefEqProofs (maxSteps:=10^7) only[go_sem,seval,↓gZ,w1,e2]
   refine ZM Xs Ms ?_
   simp +contextual -implicitDefEqProofs (maxSteps:=10^7) only[go_sem,seval,↓gZ,p1,p2,w3,hp,hA,hB,c2]
 | false=>
  simp only[Bool.false_eq_true,if_false,Zby] at he hn hx hp
  rw[h2 rfl] at e2
  rw[he] at e3
  simp only[List.map_nil] at e2
  have w3:=wi (x-bY) (by omega) (by omega)
  have p1:=ZjR cP cT cX cY cW cH 3 cY cH x true (.inr ⟨rfl,rfl,rfl⟩) hc hn
  have p2:=ZjR cP cT cX cY cW cH 3 cY cH x false (.inr ⟨rfl,rfl,rfl⟩) hc hn
  generalize hAe:(if true=decide (cY+cH≤x) then [D.agg [J cP,.bool cT,J cX,J cY,J cW,J cH]] else [])=A at p1 hp
  have hA:uni 6 A:=by rw[← hAe];split<;>simp[uni,D.cells]
  generalize hBe:(if false=decide (cY+cH≤x) then [D.agg [J cP,.bool cT,J cX,J cY,J cW,J cH]] else [])=B at p2 hp
  have hB:uni 6 B:=by rw[← hBe];split<;>simp[uni,D.cells]
  refine Zb Xs Ms YK Zfs (by show 2≤_;decide) ?_
  simp +contextual -implicitDefEqProofs (maxSteps:=10^7) only[go_sem,seval,↓gZ,YK,hne,← Bool.decide_and]
  refine ZM Xs Ms ?_
  simp +contextual -implicitDefEqProofs (maxSteps:=10^7) only[go_sem,seval,↓gZ,w1,e2]
  refine ZM Xs Ms ?_
  simp +contextual -implicitDefEqProofs (maxSteps:=10^7) only[go_sem,seval,↓gZ]
  refine ZM Xs Ms ?_
  rcases hrl with rfl | ⟨y,rfl⟩
  ·simp only[List.map_cons,List.map_nil,YL] at e3
   simp +contextual -implicitDefEqProofs (maxSteps:=10^7) only[go_sem,seval,↓gZ,w1,w2,e3]
   refine ZM Xs Ms ?_
   simp +contextual -implicitDefEqProofs (maxSteps:=10^7) only[go_sem,seval,↓gZ,p1,p2,w3,hp,hA,hB,c2]
  ·simp only[List.map_cons,List.map_nil,YL] at e3
   simp +contextual -implicitDefEqProofs (maxSteps:=10^7) only[go_sem,seval,↓gZ,w1,w2,e3]
   refine ZM Xs Ms ?_
   simp +contextual -implicitDefEqProofs (maxSteps:=10^7) only[go_sem,seval,↓gZ,p1,p2,w3,hp,hA,hB,c2]
def YR (i:Int) (t:Bool) (X Y W H bX bY bW bH:Int):BT:=
 let t4:=if Y+H<bY+bH then BT.cut false H (.pane i t) .waste else .pane i t
 let t3:=if bY<Y then BT.cut false (Y-bY) .waste t4 else t4
 let t2:=if X+W<bX+bW then BT.cut true W t3 .waste else t3
 if bX<X then BT.cut true (X-bX) .waste t2 else t2
def Zim (X Y W H bX bY bW bH:Int):Prop:=0≤bX∧bX≤X∧0≤bY∧bY≤Y∧1≤W∧1≤H∧X+W≤bX+bW∧Y+H≤bY+bH∧bX+bW≤1000∧bY+bH≤1000
theorem Zi2 (cP:Int) (cT:Bool) (cX cY cW cH:Int) (bH:Int) (h:Zim cX cY cW cH cX cY cW bH):Zh Xs Ms QG [.d (.sl [.agg [J cP,.bool cT,J cX,J cY,J cW,J cH]]),.d (.agg [J cX,J cY,J cW,J bH])] []=some (Zer (YR cP cT cX cY cW cH cX cY cW bH).plan):=by
 have hh:=h
 unfold Zim at h
 unfold YR
 rw[if_neg (show ¬cX<cX by omega),if_neg (show ¬cX+cW<cX+cW by omega),if_neg (show ¬cY<cY by omega)]
 by_cases hl:cY+cH<cY+bH
 ·rw[if_pos hl]
  have hb:=Zba [D.agg [J cP,.bool cT,J cX,J cY,J cW,J cH]] [] cX cY cW bH false cH (.pane cP cT) .waste (by simp[uni,D.cells]) (by simp[uni]) (by unfold R64;omega) (by unfold R64;omega) (by unfold R64;omega) (by unfold R64;omega) (Zi1 _ _ _ _ _ _) (Zco _ _ _ _)
  refine Zbb cP cT cX cY cW cH cX cY cW bH false (cY+cH) [] _ (by omega) (by omega) (by omega) (fun _=>?_) ?_ ?_ ?_ ?_
  ·unfold WG;rw[if_neg (by omega),if_neg (by omega)];rfl
  ·simp only[Bool.false_eq_true,if_false]
   unfold WG;rw[if_neg (by omega),if_pos (by omega)];rfl
  ·simp only[Bool.false_eq_true,if_false];omega
  ·simp only[Bool.false_eq_true,if_false];omega
  ·simp only[Bool.false_eq_true,if_false,Int.le_refl,decide_true,if_true]
   rw[show cY+cH-cY=cH by omega]
   exact hb
 ·rw[if_neg hl]
  have:bH=cH:=by omega
  subst this
  exact Zi1 _ _ _ _ _ _
theorem Zi3 (cP:Int) (cT:Bool) (cX cY cW cH:Int) (bY bH:Int) (h:Zim cX cY cW cH cX bY cW bH):Zh Xs Ms QG [.d (.sl [.agg [J cP,.bool cT,J cX,J cY,J cW,J cH]]),.d (.agg [J cX,J bY,J cW,J bH])] []=some (Zer (YR cP cT cX cY cW cH cX bY cW bH).plan):=by
 by_cases hl:bY<cY
 ·have h4:=Zi2 cP cT cX cY cW cH (bY+bH-cY) (by unfold Zim at h ⊢;omega)
  unfold Zim at h
  have e:YR cP cT cX cY cW cH cX bY cW bH=.cut false (cY-bY) .waste (YR cP cT cX cY cW cH cX cY cW (bY+bH-cY)):=by
   unfold YR
   rw[if_neg (show ¬cX<cX by omega),if_neg (show ¬cX+cW<cX+cW by omega),if_pos hl,if_neg (show ¬cX<cX by omega),if_neg (show ¬cX+cW<cX+cW by omega),if_neg (show ¬cY<cY by omega),show cY+(bY+bH-cY)=bY+bH by omega]
  rw[e]
  generalize YR cP cT cX cY cW cH cX cY cW (bY+bH-cY)=Q at h4 ⊢
  have hb:=Zba [] [D.agg [J cP,.bool cT,J cX,J cY,J cW,J cH]] cX bY cW bH false (cY-bY) .waste Q (by simp[uni]) (by simp[uni,D.cells]) (by unfold R64;omega) (by unfold R64;omega) (by unfold R64;omega) (by unfold R64;omega) (Zco _ _ _ _) (by
   simp only[Bool.false_eq_true,if_false]
   rw[show bY+(cY-bY)=cY by omega,show bH-(cY-bY)=bY+bH-cY by omega]
   exact h4)
  refine Zbb cP cT cX cY cW cH cX bY cW bH false cY (if cY+cH<bY+bH then [cY+cH] else []) _ (by omega) (by omega) (by omega) (fun _=>?_) ?_ ?_ ?_ ?_
  ·unfold WG;rw[if_neg (by omega),if_neg (by omega)];rfl
  ·simp only[Bool.false_eq_true,if_false]
   unfold WG;rw[if_pos (by omega)]
   by_cases h5:cY+cH<bY+bH
   ·rw[if_pos (by omega),if_pos h5];rfl
   ·rw[if_neg (by omega),if_neg h5];rfl
  ·simp only[Bool.false_eq_true,if_false];omega
  ·simp only[Bool.false_eq_true,if_false];omega
  ·simp only[Bool.false_eq_true,if_false]
   rw[decide_eq_false (show ¬cY+cH≤cY by omega)]
   simp only[Bool.true_eq_false,if_false,if_true]
   exact hb
 ·unfold Zim at h
  have:bY=cY:=by omega
  subst this
  exact Zi2 cP cT cX bY cW cH bH (by unfold Zim;omega)
theorem Zi4 (cP:Int) (cT:Bool) (cX cY cW cH:Int) (bY bW bH:Int) (h:Zim cX cY cW cH cX bY bW bH):Zh Xs Ms QG [.d (.sl [.agg [J cP,.bool cT,J cX,J cY,J cW,J cH]]),.d (.agg [J cX,J bY,J bW,J bH])] []=some (Zer (YR cP cT cX cY cW cH cX bY bW bH).plan):=by
 by_cases hl:cX+cW<cX+bW
 ·have h3:=Zi3 cP cT cX cY cW cH bY bH (by unfold Zim at h ⊢;omega)
  unfold Zim at h
  have e:YR cP cT cX cY cW cH cX bY bW bH=.cut true cW (YR cP cT cX cY cW cH cX bY cW bH) .waste:=by
   unfold YR
   rw[if_neg (show ¬cX<cX by omega),if_pos hl,if_neg (show ¬cX<cX by omega),if_neg (show ¬cX+cW<cX+cW by omega)]
  rw[e]
  generalize YR cP cT cX cY cW cH cX bY cW bH=Q at h3 ⊢
  have hb:=Zba [D.agg [J cP,.bool cT,J cX,J cY,J cW,J cH]] [] cX bY bW bH true cW Q .waste (by simp[uni,D.cells]) (by simp[uni]) (by unfold R64;omega) (by unfold R64;omega) (by unfold R64;omega) (by unfold R64;omega) (by simp only[if_true];exact h3) (Zco _ _ _ _)
  refine Zbb cP cT cX cY cW cH cX bY bW bH true (cX+cW) [] _ (by omega) (by omega) (by omega) (fun e=>by cases e) ?_ ?_ ?_ ?_
  ·simp only[if_true]
   unfold WG;rw[if_neg (by omega),if_pos (by omega)];rfl
  ·simp only[if_true];omega
  ·simp only[if_true];omega
  ·simp only[if_true,Int.le_refl,decide_true,Bool.false_eq_true,if_false]
   rw[show cX+cW-cX=cW by omega]
   exact hb
 ·unfold Zim at h
  have:bW=cW:=by omega
  subst this
  exact Zi3 cP cT cX cY bW cH bY bH (by unfold Zim;omega)
theorem Zq8 (cP:Int) (cT:Bool) (cX cY cW cH:Int) (bX bY bW bH:Int) (h:Zim cX cY cW cH bX bY bW bH):Zh Xs Ms QG [.d (.sl [.agg [J cP,.bool cT,J cX,J cY,J cW,J cH]]),.d (.agg [J bX,J bY,J bW,J bH])] []=some (Zer (YR cP cT cX cY cW cH bX bY bW bH).plan):=by
 by_cases hl:bX<cX
 ·have h2:=Zi4 cP cT cX cY cW cH bY (bX+bW-cX) bH (by unfold Zim at h ⊢;omega)
  unfold Zim at h
  have e:YR cP cT cX cY cW cH bX bY bW bH=.cut true (cX-bX) .waste (YR cP cT cX cY cW cH cX bY (bX+bW-cX) bH):=by
   unfold YR
   rw[if_pos hl,if_neg (show ¬cX<cX by omega),show cX+(bX+bW-cX)=bX+bW by omega]
  rw[e]
  generalize YR cP cT cX cY cW cH cX bY (bX+bW-cX) bH=Q at h2 ⊢
  have hb:=Zba [] [D.agg [J cP,.bool cT,J cX,J cY,J cW,J cH]] bX bY bW bH true (cX-bX) .waste Q (by simp[uni]) (by simp[uni,D.cells]) (by unfold R64;omega) (by unfold R64;omega) (by unfold R64;omega) (by unfold R64;omega) (Zco _ _ _ _) (by
   simp only[if_true]
   rw[show bX+(cX-bX)=cX by omega,show bW-(cX-bX)=bX+bW-cX by omega]
   exact h2)
  refine Zbb cP cT cX cY cW cH bX bY bW bH true cX (if cX+cW<bX+bW then [cX+cW] else []) _ (by omega) (by omega) (by omega) (fun e=>by cases e) ?_ ?_ ?_ ?_
  ·simp only[if_true]
   unfold WG;rw[if_pos (by omega)]
   by_cases h5:cX+cW<bX+bW
   ·rw[if_pos (by omega),if_pos h5];rfl
   ·rw[if_neg (by omega),if_neg h5];rfl
  ·simp only[if_true];omega
  ·simp only[if_true];omega
  ·simp only[if_true]
   rw[decide_eq_false (show ¬cX+cW≤cX by omega)]
   simp only[Bool.true_eq_false,if_false,if_true]
   exact hb
 ·unfold Zim at h
  have:bX=cX:=by omega
  subst this
  exact Zi4 cP cT bX cY cW cH bY bW bH (by unfold Zim;omega)
@[go_sem] theorem rep_5 {α:Type} (a:α):List.replicate 5 a=[a,a,a,a,a]:=rfl
@[go_sem] theorem rep_8 {α:Type} (a:α):List.replicate 8 a=[a,a,a,a,a,a,a,a]:=rfl
@[go_sem] theorem rep_15 {α:Type} (a:α):List.replicate 15 a=[a,a,a,a,a,a,a,a,a,a,a,a,a,a,a]:=rfl
theorem Zvw:∀ {l:List Zd} {b:Int},Zen b l→∀ x∈l,b<x.Label
 | [],_,_,x,hx=>by simp at hx
 | y :: l,b,h,x,hx=>by
  rcases List.mem_cons.1 hx with rfl | hx
  ·exact h.2.1
  ·have:=Zvw h.2.2 x hx
   have:=h.2.1
   omega
theorem Zyn:∀ {l:List Zd} {b:Int} {k j:Nat} {x:Zd},Zen b l→l[j]?=some x→UF k l x.Label=((k+j:Nat):Int)
 | [],_,k,j,x,_,hx=>by simp at hx
 | y :: l,b,k,0,x,h,hx=>by
  simp only[List.getElem?_cons_zero,Option.some.injEq] at hx
  subst hx
  simp[UF]
 | y :: l,b,k,j+1,x,h,hx=>by
  simp only[List.getElem?_cons_succ] at hx
  have h1:=Zvw h.2.2 x (List.mem_of_getElem? hx)
  unfold UF
  rw[if_neg (by omega),Zyn (k:=k+1) h.2.2 hx]
  congr 1
  omega
def cutE (i:Nat) (t:Bool) (b:Box) (q:Zd):Zl:=⟨3,q.Label,⟨0,0,0,0⟩,⟨⟨0,0,false,0⟩,0⟩,(YR i t b.X b.Y b.W b.H 0 0 q.W q.H).plan⟩
def Zvx (s:Z9) (i:Nat) (x:Zi):Option Zl:=
 if Zkm s.Stock x.Pane<0 then none else match s.Stock[(Zkm s.Stock x.Pane).toNat]? with
 | none=>none
 | some q=>match Za9 q x.Pane.W x.Pane.H with
  | some b=>some (cutE i false b q)
  | none=>match Za9 q x.Pane.H x.Pane.W with
   | some b=>some (cutE i true b q)
   | none=>none
def ZbW (s:Z9):List Zi→Nat→Option Zl
 | [],_=>none
 | x :: r,i=>match Zvx s i x with
  | some e=>if (Jh s e).isSome=true then some e else ZbW s r (i+1)
  | none=>ZbW s r (i+1)
def Zl5 (s:Z9):Option Zl:=ZbW s s.Opn 0
theorem Zvy {s:Z9} {l:List Zi} {k i:Nat} {x:Zi} (hx:l[k]?=some x):ZbW s (l.drop k) i=match Zvx s i x with
  | some e=>if (Jh s e).isSome=true then some e else ZbW s (l.drop (k+1)) (i+1)
  | none=>ZbW s (l.drop (k+1)) (i+1):=by
 obtain⟨h1,h2⟩:=List.getElem?_eq_some_iff.1 hx
 rw[List.drop_eq_getElem_cons h1,h2,ZbW]
theorem Zxn {s:Z9} {l:List Zi} {i:Nat}:ZbW s (l.drop l.length) i=none:=by simp[ZbW]
def nxV:Option Zl→AV×List Zo
 | some ⟨k,l,⟨x,y,w,h⟩,⟨⟨pw,ph,pt,pk⟩,c⟩,.mk o a q t ks⟩=>(.tup [.agg [(.d (J k)),(.d (J l)),(.d (J x)),(.d (J y)),(.d (J w)),(.d (J h)),(.d (J pw)),(.d (J ph)),(.d (.bool pt)),(.d (J pk)),(.d (J c)),(.d (J o)),(.d (J a)),(.d (J q)),(.d (.bool t)),.own 0],(.d (.bool true))],[.row 5 (ks.map Zj.enc) true false])
 | none=>(.tup [.agg [(.d (J 0)),(.d (J 0)),(.d (J 0)),(.d (J 0)),(.d (J 0)),(.d (J 0)),(.d (J 0)),(.d (J 0)),(.d (.bool false)),(.d (J 0)),(.d (J 0)),(.d (J 0)),(.d (J 0)),(.d (J 0)),(.d (.bool false)),.own 0],(.d (.bool false))],[.row 5 [] true false])
theorem ZtG (sS:List Zd) (sO sD:List Zi) (sL sC:Int) (hv:WSh (Z9.mk sS sO sD sL sC)):Zh Xs Ms ZaP [(.d (.agg [.sl (sS.map Zd.enc),.sl (sO.map Zi.enc),.sl (sD.map Zi.enc),J sL,J sC]))] []=some (nxV (Zl5 (Z9.mk sS sO sD sL sC))):=by
 have hO8:=hv.2.1
 have hS20:=hv.1.1
 simp only at hO8 hS20
 refine Zb Xs Ms ZcI ZvW (by show 1≤_;decide) ?_
 simp +contextual -implicitDefEqProofs (maxSteps:=10^7) only[go_sem,seval,↓gZ,ZcI]
 refine ZQ Xs Ms (st0:=?st0) (α:=Nat) (fun i=>[(4,.d (J (i:Int)))]) (fun _=>[]) (fun i=>i≤sO.length∧ZbW (Z9.mk sS sO sD sL sC) (sO.drop i) i=Zl5 (Z9.mk sS sO sD sL sC)) (fun i=>sO.length-i) 0 ?hc ⟨by omega,by simp[Zl5]⟩ ?h0 ?step
 case hc=>simp +contextual -implicitDefEqProofs (maxSteps:=10^7) only[go_sem,seval,↓gZ]<;>exact rfl
 case h0=>rfl
 case step=>
  intro i ⟨hi,hp⟩ ih
  by_cases hlt:i<sO.length
  ·obtain⟨x,hx⟩:=ZU hlt
   have hw:=Zm (k:=i) (by omega)
   rw[Zvy hx] at hp
   have hxv:=hv.2.2.1 x (List.mem_of_getElem? hx)
   obtain⟨⟨W,H,T,K⟩,C⟩:=x
   simp only at hxv
   have hWH:1≤W∧W≤200∧1≤H∧H≤200:=⟨hxv.1.1,hxv.1.2.1,hxv.1.2.2.1,hxv.1.2.2.2.1⟩
   have ef:=Zp8 sS W H T K hv.1 hxv.1
   unfold ZBm at ef
   rw[if_pos ⟨hv.1,hxv.1⟩] at ef
   unfold Zvx at hp
   simp only at hp
   rcases ZBn sS ⟨W,H,T,K⟩ with h0 | ⟨j,q,hj,hq,hok⟩
   ·rw[if_pos h0] at ef hp
    simp only at hp
    simp +contextual -implicitDefEqProofs (maxSteps:=10^7) only[go_sem,seval,↓gZ,hx,hlt,hw,ef]
    refine ih (i+1) _ ⟨by omega,hp⟩ (by omega) ?_
    simp +contextual -implicitDefEqProofs (maxSteps:=10^7) only[go_sem,seval,↓gZ]
   ·have hj0:¬(j:Int)<0:=by omega
    rw[hj,if_neg hj0,Int.toNat_natCast,hq] at ef hp
    simp only at hp ef
    have hqv:=X8 hv.1.2 q (List.mem_of_getElem? hq)
    have hjl:=(List.getElem?_eq_some_iff.1 hq).1
    have el:=Vm sS q.Label (by omega)
    rw[Zyn hv.1.2 hq,Nat.zero_add] at el
    have f1:=Zai q.Label q.W q.H q.Flaws W H hqv ⟨hWH.1,hWH.2.1⟩ hWH.2.2
    have f2:=Zai q.Label q.W q.H q.Flaws H W hqv hWH.2.2 ⟨hWH.1,hWH.2.1⟩
    have hqb:=hqv.1
    have hpl:∀ (t:Bool) (w h:Int) (b:Box),1≤w→1≤h→Za9 q w h=some b→∃ (o a p:Int) (t' : Bool) (ks:List Zj),(YR i t b.X b.Y b.W b.H 0 0 q.W q.H).plan=.mk o a p t' ks∧Zh Xs Ms QG [.d (.sl [.agg [J i,.bool t,J b.X,J b.Y,J b.W,J b.H]]),.d (.agg [J 0,J 0,J q.W,J q.H])] []=some (.tup [.agg [(.d (J o)),(.d (J a)),(.d (J p)),(.d (.bool (t'))),.own 0],(.d (.bool true))],[.row 5 (ks.map Zj.enc) true false]):=fun t w h b hw1 hh1 hb=>by
     obtain⟨g1,g2,g3,g4,g5,g6,_⟩:=Zvu hb
     have e:=Zq8 i t b.X b.Y b.W b.H 0 0 q.W q.H (by unfold Zim;omega)
     cases hpp:(YR i t b.X b.Y b.W b.H 0 0 q.W q.H).plan with
     | mk o a p t' ks=>
      rw[hpp] at e
      exact⟨o,a,p,t',ks,rfl,e⟩
    have hl1:¬q.Label=0:=by omega
    obtain⟨qL,qW,qH,qF⟩:=q
    simp only at ef el f1 f2 hpl hl1 hp
    cases h1:Za9 ⟨qL,qW,qH,qF⟩ W H with
    | some b=>
     obtain⟨o,a,p,t',ks,e1,e2⟩:=hpl false W H b (by omega) (by omega) h1
     rw[h1] at f1 hp
     unfold cutE at hp
     simp only[e1] at hp
     have ea:=ZbV sS sO sD sL sC 3 qL 0 0 0 0 0 0 false 0 0 o a p t' ks hv rfl
     obtain⟨bX,bY,bW,bH⟩:=b
     unfold fcV at f1
     simp only at f1 e2 hp
     cases hap:Jh (Z9.mk sS sO sD sL sC) ⟨3,qL,⟨0,0,0,0⟩,⟨⟨0,0,false,0⟩,0⟩,.mk o a p t' ks⟩ with
     | none=>
      rw[hap] at ea hp
      simp only[Option.isSome_none,Bool.false_eq_true,if_false] at hp
      unfold shV at ea
      simp +contextual -implicitDefEqProofs (maxSteps:=10^7) only[go_sem,seval,↓gZ,hx,hlt,hw,ef,el,f1,e2,ea,hl1,hjl,hq]
      refine ih (i+1) _ ⟨by omega,hp⟩ (by omega) ?_
      simp +contextual -implicitDefEqProofs (maxSteps:=10^7) only[go_sem,seval,↓gZ]
     | some u=>
      rw[hap] at ea hp
      simp only[Option.isSome_some,if_true] at hp
      rw[← hp]
      unfold shV at ea
      unfold nxV
      simp +contextual -implicitDefEqProofs (maxSteps:=10^7) only[go_sem,seval,↓gZ,hx,hlt,hw,ef,el,f1,e2,ea,hl1,hjl,hq]
    | none=>
     rw[h1] at f1 hp
     unfold fcV at f1
     simp only at hp
     cases h2:Za9 ⟨qL,qW,qH,qF⟩ H W with
     | none=>
      exfalso
      unfold okP at hok
      simp only[h1,h2] at hok
      simp at hok
     | some b=>
      obtain⟨o,a,p,t',ks,e1,e2⟩:=hpl true H W b (by omega) (by omega) h2
      rw[h2] at f2 hp
      unfold cutE at hp
      simp only[e1] at hp
      have ea:=ZbV sS sO sD sL sC 3 qL 0 0 0 0 0 0 false 0 0 o a p t' ks hv rfl
      obtain⟨bX,bY,bW,bH⟩:=b
      unfold fcV at f2
      simp only at f2 e2 hp
      cases hap:Jh (Z9.mk sS sO sD sL sC) ⟨3,qL,⟨0,0,0,0⟩,⟨⟨0,0,false,0⟩,0⟩,.mk o a p t' ks⟩ with
      | none=>
       rw[hap] at ea hp
       simp only[Option.isSome_none,Bool.false_eq_true,if_false] at hp
       unfold shV at ea
       simp +contextual -implicitDefEqProofs (maxSteps:=10^7) only[go_sem,seval,↓gZ,hx,hlt,hw,ef,el,f1,f2,e2,ea,hl1,hjl,hq]
       refine ih (i+1) _ ⟨by omega,hp⟩ (by omega) ?_
       simp +contextual -implicitDefEqProofs (maxSteps:=10^7) only[go_sem,seval,↓gZ]
      | some u=>
       rw[hap] at ea hp
       simp only[Option.isSome_some,if_true] at hp
       rw[← hp]
       unfold shV at ea
       unfold nxV
       simp +contextual -implicitDefEqProofs (maxSteps:=10^7) only[go_sem,seval,↓gZ,hx,hlt,hw,ef,el,f1,f2,e2,ea,hl1,hjl,hq]
  ·have:i=sO.length:=by omega
   subst this
   rw[Zxn] at hp
   rw[← hp]
   unfold nxV
   simp +contextual -implicitDefEqProofs (maxSteps:=10^7) only[go_sem,seval,↓gZ]
theorem Zxo {s:Z9} {i:Nat} {x:Zi} {e:Zl} (h:Zvx s i x=some e):e.kind=3:=by
 unfold Zvx at h
 split at h
 ·cases h
 ·split at h
  ·cases h
  ·split at h
   ·cases h;rfl
   ·split at h
    ·cases h;rfl
    ·cases h
theorem Zi5 {s:Z9}:∀ {l:List Zi} {i:Nat} {e:Zl},ZbW s l i=some e→e.kind=3
 | [],i,e,h=>by simp[ZbW] at h
 | x :: l,i,e,h=>by
  unfold ZbW at h
  split at h
  ·split at h
   ·cases h;exact Zxo (by assumption)
   ·exact Zi5 h
  ·exact Zi5 h
theorem Zkn (bs:List UInt8) (hb:bs.length≤2000) (p:Nat) (hp:p<900000000):∃ (W H:Int) (T:Bool) (K:Int),Zh Xs Ms Jr [.ptr 0 0] [.box [.d (.sl (bs.map VM)),(.d (J p))]]=some (.d (.agg [J W,J H,.bool T,J K]),[.box [.d (.sl (bs.map VM)),(.d (J ((p+4:Nat))))]]):=by
 have p1:=Qa bs p 8 hb (by omega)
 have p2:=Qa bs (p+1) 8 hb (by omega)
 have p3:=Qa bs (p+2) 2 hb (by omega)
 have p4:=Qa bs (p+3) 3 hb (by omega)
 generalize Qq bs p 8=a1 at p1
 generalize Qq bs (p+1) 8=a2 at p2
 generalize Qq bs (p+2) 2=a3 at p3
 generalize Qq bs (p+3) 3=a4 at p4
 refine⟨IntKind.i64.wrap (1+a1),IntKind.i64.wrap (1+a2),decide (a3=0),a4,?_⟩
 refine Zb Xs Ms Zbj ZtV (by show 1≤_;decide) ?_
 simp +contextual -implicitDefEqProofs (maxSteps:=10^7) only[go_sem,seval,↓gZ,Zbj,p1,p2,p3,p4]
def PEv (bs:List UInt8) (p:Nat) (r:AV×List Zo):Prop:=∃ (K L X Y W H pW pH:Int) (pT:Bool) (pK C o a q:Int) (t:Bool) (ks:List Zj) (p' : Nat),(K=0→I5 W∧I5 H)∧p≤p'∧p'≤p+10 ∧
 r=(.agg [(.d (J K)),(.d (J L)),(.d (J X)),(.d (J Y)),(.d (J W)),(.d (J H)),(.d (J pW)),(.d (J pH)),(.d (.bool pT)),(.d (J pK)),(.d (J C)),(.d (J o)),(.d (J a)),(.d (J q)),(.d (.bool t)),.own 1],[.box [.d (.sl (bs.map VM)),(.d (J (p')))],.row 5 (ks.map Zj.enc) true false])
theorem Zes (bs:List UInt8) (hb:bs.length≤2000) (p:Nat) (hp:p<800000000) (sS:List Zd) (sO sD:List Zi) (sL sC:Int) (hv:WSh (Z9.mk sS sO sD sL sC)):∃ r,Zh Xs Ms V4 [.ptr 0 0,(.d (.agg [.sl (sS.map Zd.enc),.sl (sO.map Zi.enc),.sl (sD.map Zi.enc),J sL,J sC]))] [.box [.d (.sl (bs.map VM)),(.d (J p))]]=some r∧PEv bs p r:=by
 have h20:=hv.1.1
 have h8:=hv.2.2.2.1.1
 simp only at h20 h8
 have eL:=ZiX sS (by omega)
 have eN:=ZtG sS sO sD sL sC hv
 have hnk:=fun e=>@Zi5 (Z9.mk sS sO sD sL sC) sO 0 e
 generalize Zds sS=ll at eL
 refine ZrX Xs Ms Zx Zrl (by show 2≤_;decide) ?_
 by_cases h0:(0:Int)<(sS.length:Int)
 ·have u0:=Qa bs p sS.length hb (by omega)
  have u1:=Va bs p sS.length
  have u2:=ZaK bs p sS.length (by omega)
  obtain⟨i,hi⟩:∃ i:Nat,Qq bs p (sS.length:Int)=(i:Int):=⟨(Qq bs p (sS.length:Int)).toNat,by omega⟩
  rw[hi] at u0 u2
  have hil:i<sS.length:=by omega
  obtain⟨x,hx⟩:=ZU hil
  obtain⟨lb,qW,qH,qF⟩:=x
  obtain⟨p1,hp1⟩:∃ p1,p1=p+1:=⟨_,rfl⟩
  rw[← hp1] at u0
  have c0:=Qa bs p1 9 hb (by omega)
  generalize Qq bs p1 9=c at c0
  by_cases k01:c=0∨c=1
  ·obtain⟨W,hW,eW⟩:=Zek bs (p1+1) [20,12,30,8] hb (by omega) (by decide)
   obtain⟨H,hH,eH⟩:=Zek bs (p1+2) [16,10,24,8] hb (by omega) (by decide)
   have iW:I5 W:=by simp only[List.mem_cons,List.not_mem_nil,or_false] at hW;unfold I5;omega
   have iH:I5 H:=by simp only[List.mem_cons,List.not_mem_nil,or_false] at hH;unfold I5;omega
   simp only[List.map_cons,List.map_nil,YL] at eW eH
   rcases k01 with rfl | rfl
   ·simp +contextual -implicitDefEqProofs (maxSteps:=10^7) only[go_sem,seval,↓gZ,Zx,h0,u0,hil,hx,c0,eL,eW,eH]
    exact⟨0,(IntKind.i64.wrap (ll+1)),0,0,W,H,0,0,false,0,0,0,0,0,false,[],(p1+3),fun _=>⟨iW,iH⟩,by omega,by omega,rfl⟩
   ·simp +contextual -implicitDefEqProofs (maxSteps:=10^7) only[go_sem,seval,↓gZ,Zx,h0,u0,hil,hx,c0,eL,eW,eH]
    exact⟨0,(IntKind.i64.wrap (ll+1)),0,0,W,H,0,0,false,0,0,0,0,0,false,[],(p1+3),fun _=>⟨iW,iH⟩,by omega,by omega,rfl⟩
  ·have k0:¬c=0:=fun h=>k01 (.inl h)
   have k1:¬c=1:=fun h=>k01 (.inr h)
   by_cases k2:c=2
   ·obtain⟨X,Y,W,H,eB⟩:=ZlX bs hb (p1+1) (by omega) 8 8
    subst k2
    simp +contextual -implicitDefEqProofs (maxSteps:=10^7) only[go_sem,seval,↓gZ,Zx,h0,u0,hil,hx,c0,eB]
    exact⟨1,lb,X,Y,W,H,0,0,false,0,0,0,0,0,false,[],(p1+5),(fun e=>by cases e),by omega,by omega,rfl⟩
   ·by_cases k34:c=3∨c=4
    ·obtain⟨W,H,T,K,eP⟩:=Zkn bs hb (p1+1) (by omega)
     have c5:=Qa bs (p1+5) 3 hb (by omega)
     generalize Qq bs (p1+5) 3=v at c5
     rcases k34 with rfl | rfl
     ·simp +contextual -implicitDefEqProofs (maxSteps:=10^7) only[go_sem,seval,↓gZ,Zx,h0,u0,hil,hx,c0,eP,c5]
      exact⟨2,0,0,0,0,0,W,H,T,K,(IntKind.i64.wrap (1+v)),0,0,0,false,[],(p1+6),(fun e=>by cases e),by omega,by omega,rfl⟩
     ·simp +contextual -implicitDefEqProofs (maxSteps:=10^7) only[go_sem,seval,↓gZ,Zx,h0,u0,hil,hx,c0,eP,c5]
      exact⟨2,0,0,0,0,0,W,H,T,K,(IntKind.i64.wrap (1+v)),0,0,0,false,[],(p1+6),(fun e=>by cases e),by omega,by omega,rfl⟩
    ·have k3:¬c=3:=fun h=>k34 (.inl h)
     have k4:¬c=4:=fun h=>k34 (.inr h)
     by_cases k5:c=5
     ·subst k5
      by_cases hd:(0:Int)<(sD.length:Int)
      ·have d0:=Qa bs (p1+1) sD.length hb (by omega)
       have d1:=Va bs (p1+1) sD.length
       have d2:=ZaK bs (p1+1) sD.length (by omega)
       obtain⟨j,hj⟩:∃ j:Nat,Qq bs (p1+1) (sD.length:Int)=(j:Int):=⟨(Qq bs (p1+1) (sD.length:Int)).toNat,by omega⟩
       rw[hj] at d0 d2
       have hjl:j<sD.length:=by omega
       obtain⟨z,hz⟩:=ZU hjl
       obtain⟨⟨W,H,T,K⟩,C⟩:=z
       have d3:=Qa bs (p1+2) C hb (by omega)
       generalize Qq bs (p1+2) C=v at d3
       simp +contextual -implicitDefEqProofs (maxSteps:=10^7) only[go_sem,seval,↓gZ,Zx,h0,u0,hil,hx,c0,hd,d0,hjl,hz,d3]
       exact⟨4,0,0,0,0,0,W,H,T,K,(IntKind.i64.wrap (1+v)),0,0,0,false,[],(p1+3),(fun e=>by cases e),by omega,by omega,rfl⟩
      ·skip
       cases hN:Zl5 (Z9.mk sS sO sD sL sC) with
       | none=>
        rw[hN] at eN
        unfold nxV at eN
        simp +contextual -implicitDefEqProofs (maxSteps:=10^7) only[go_sem,seval,↓gZ,Zx,h0,u0,hil,hx,c0,hd,eN,eL]
        exact⟨0,(IntKind.i64.wrap (ll+2)),0,0,15,11,0,0,false,0,0,0,0,0,false,[],(p1+1),fun _=>⟨by unfold I5;omega,by unfold I5;omega⟩,by omega,by omega,rfl⟩
       | some e=>
        have hk:=hnk e hN
        rw[hN] at eN
        obtain⟨k,l,⟨x,y,w,h⟩,⟨⟨pw,ph,pt,pk⟩,c9⟩,⟨o,a,q,t,ks⟩⟩:=e
        unfold nxV at eN
        simp only at eN hk
        simp +contextual -implicitDefEqProofs (maxSteps:=10^7) only[go_sem,seval,↓gZ,Zx,h0,u0,hil,hx,c0,hd,eN]
        exact⟨k,l,x,y,w,h,pw,ph,pt,pk,c9,o,a,q,t,ks,(p1+1),fun e=>by omega,by omega,by omega,rfl⟩
     ·by_cases k6:c=6
      ·subst k6
       have d3:=Qa bs (p1+1) 3 hb (by omega)
       generalize Qq bs (p1+1) 3=v at d3
       by_cases hv0:v=0
       ·subst hv0
        simp +contextual -implicitDefEqProofs (maxSteps:=10^7) only[go_sem,seval,↓gZ,Zx,h0,u0,hil,hx,c0,d3]
        exact⟨5,lb,0,0,0,0,0,0,false,0,0,0,0,0,false,[],(p1+2),(fun e=>by cases e),by omega,by omega,rfl⟩
       ·skip
        cases hN:Zl5 (Z9.mk sS sO sD sL sC) with
        | none=>
         rw[hN] at eN
         unfold nxV at eN
         simp +contextual -implicitDefEqProofs (maxSteps:=10^7) only[go_sem,seval,↓gZ,Zx,h0,u0,hil,hx,c0,d3,hv0,eN,eL]
         exact⟨0,(IntKind.i64.wrap (ll+2)),0,0,15,11,0,0,false,0,0,0,0,0,false,[],(p1+2),fun _=>⟨by unfold I5;omega,by unfold I5;omega⟩,by omega,by omega,rfl⟩
        | some e=>
         have hk:=hnk e hN
         rw[hN] at eN
         obtain⟨k,l,⟨x,y,w,h⟩,⟨⟨pw,ph,pt,pk⟩,c9⟩,⟨o,a,q,t,ks⟩⟩:=e
         unfold nxV at eN
         simp only at eN hk
         simp +contextual -implicitDefEqProofs (maxSteps:=10^7) only[go_sem,seval,↓gZ,Zx,h0,u0,hil,hx,c0,d3,hv0,eN]
         exact⟨k,l,x,y,w,h,pw,ph,pt,pk,c9,o,a,q,t,ks,(p1+2),fun e=>by omega,by omega,by omega,rfl⟩
      ·skip
       cases hN:Zl5 (Z9.mk sS sO sD sL sC) with
       | none=>
        rw[hN] at eN
        unfold nxV at eN
        simp +contextual -implicitDefEqProofs (maxSteps:=10^7) only[go_sem,seval,↓gZ,Zx,h0,u0,hil,hx,c0,k0,k1,k2,k3,k4,k5,k6,eN,eL]
        exact⟨0,(IntKind.i64.wrap (ll+2)),0,0,15,11,0,0,false,0,0,0,0,0,false,[],(p1+1),fun _=>⟨by unfold I5;omega,by unfold I5;omega⟩,by omega,by omega,rfl⟩
       | some e=>
        have hk:=hnk e hN
        rw[hN] at eN
        obtain⟨k,l,⟨x,y,w,h⟩,⟨⟨pw,ph,pt,pk⟩,c9⟩,⟨o,a,q,t,ks⟩⟩:=e
        unfold nxV at eN
        simp only at eN hk
        simp +contextual -implicitDefEqProofs (maxSteps:=10^7) only[go_sem,seval,↓gZ,Zx,h0,u0,hil,hx,c0,k0,k1,k2,k3,k4,k5,k6,eN]
        exact⟨k,l,x,y,w,h,pw,ph,pt,pk,c9,o,a,q,t,ks,(p1+1),fun e=>by omega,by omega,by omega,rfl⟩
 ·skip
  have c0:=Qa bs p 9 hb (by omega)
  generalize Qq bs p 9=c at c0
  by_cases k01:c=0∨c=1
  ·obtain⟨W,hW,eW⟩:=Zek bs (p+1) [20,12,30,8] hb (by omega) (by decide)
   obtain⟨H,hH,eH⟩:=Zek bs (p+2) [16,10,24,8] hb (by omega) (by decide)
   have iW:I5 W:=by simp only[List.mem_cons,List.not_mem_nil,or_false] at hW;unfold I5;omega
   have iH:I5 H:=by simp only[List.mem_cons,List.not_mem_nil,or_false] at hH;unfold I5;omega
   simp only[List.map_cons,List.map_nil,YL] at eW eH
   rcases k01 with rfl | rfl
   ·simp +contextual -implicitDefEqProofs (maxSteps:=10^7) only[go_sem,seval,↓gZ,Zx,h0,c0,eL,eW,eH]
    exact⟨0,(IntKind.i64.wrap (ll+1)),0,0,W,H,0,0,false,0,0,0,0,0,false,[],(p+3),fun _=>⟨iW,iH⟩,by omega,by omega,rfl⟩
   ·simp +contextual -implicitDefEqProofs (maxSteps:=10^7) only[go_sem,seval,↓gZ,Zx,h0,c0,eL,eW,eH]
    exact⟨0,(IntKind.i64.wrap (ll+1)),0,0,W,H,0,0,false,0,0,0,0,0,false,[],(p+3),fun _=>⟨iW,iH⟩,by omega,by omega,rfl⟩
  ·have k0:¬c=0:=fun h=>k01 (.inl h)
   have k1:¬c=1:=fun h=>k01 (.inr h)
   by_cases k2:c=2
   ·obtain⟨X,Y,W,H,eB⟩:=ZlX bs hb (p+1) (by omega) 8 8
    subst k2
    simp +contextual -implicitDefEqProofs (maxSteps:=10^7) only[go_sem,seval,↓gZ,Zx,h0,c0,eB]
    exact⟨1,1,X,Y,W,H,0,0,false,0,0,0,0,0,false,[],(p+5),(fun e=>by cases e),by omega,by omega,rfl⟩
   ·by_cases k34:c=3∨c=4
    ·obtain⟨W,H,T,K,eP⟩:=Zkn bs hb (p+1) (by omega)
     have c5:=Qa bs (p+5) 3 hb (by omega)
     generalize Qq bs (p+5) 3=v at c5
     rcases k34 with rfl | rfl
     ·simp +contextual -implicitDefEqProofs (maxSteps:=10^7) only[go_sem,seval,↓gZ,Zx,h0,c0,eP,c5]
      exact⟨2,0,0,0,0,0,W,H,T,K,(IntKind.i64.wrap (1+v)),0,0,0,false,[],(p+6),(fun e=>by cases e),by omega,by omega,rfl⟩
     ·simp +contextual -implicitDefEqProofs (maxSteps:=10^7) only[go_sem,seval,↓gZ,Zx,h0,c0,eP,c5]
      exact⟨2,0,0,0,0,0,W,H,T,K,(IntKind.i64.wrap (1+v)),0,0,0,false,[],(p+6),(fun e=>by cases e),by omega,by omega,rfl⟩
    ·have k3:¬c=3:=fun h=>k34 (.inl h)
     have k4:¬c=4:=fun h=>k34 (.inr h)
     by_cases k5:c=5
     ·subst k5
      by_cases hd:(0:Int)<(sD.length:Int)
      ·have d0:=Qa bs (p+1) sD.length hb (by omega)
       have d1:=Va bs (p+1) sD.length
       have d2:=ZaK bs (p+1) sD.length (by omega)
       obtain⟨j,hj⟩:∃ j:Nat,Qq bs (p+1) (sD.length:Int)=(j:Int):=⟨(Qq bs (p+1) (sD.length:Int)).toNat,by omega⟩
       rw[hj] at d0 d2
       have hjl:j<sD.length:=by omega
       obtain⟨z,hz⟩:=ZU hjl
       obtain⟨⟨W,H,T,K⟩,C⟩:=z
       have d3:=Qa bs (p+2) C hb (by omega)
       generalize Qq bs (p+2) C=v at d3
       simp +contextual -implicitDefEqProofs (maxSteps:=10^7) only[go_sem,seval,↓gZ,Zx,h0,c0,hd,d0,hjl,hz,d3]
       exact⟨4,0,0,0,0,0,W,H,T,K,(IntKind.i64.wrap (1+v)),0,0,0,false,[],(p+3),(fun e=>by cases e),by omega,by omega,rfl⟩
      ·skip
       cases hN:Zl5 (Z9.mk sS sO sD sL sC) with
       | none=>
        rw[hN] at eN
        unfold nxV at eN
        simp +contextual -implicitDefEqProofs (maxSteps:=10^7) only[go_sem,seval,↓gZ,Zx,h0,c0,hd,eN,eL]
        exact⟨0,(IntKind.i64.wrap (ll+2)),0,0,15,11,0,0,false,0,0,0,0,0,false,[],(p+1),fun _=>⟨by unfold I5;omega,by unfold I5;omega⟩,by omega,by omega,rfl⟩
       | some e=>
        have hk:=hnk e hN
        rw[hN] at eN
        obtain⟨k,l,⟨x,y,w,h⟩,⟨⟨pw,ph,pt,pk⟩,c9⟩,⟨o,a,q,t,ks⟩⟩:=e
        unfold nxV at eN
        simp only at eN hk
        simp +contextual -implicitDefEqProofs (maxSteps:=10^7) only[go_sem,seval,↓gZ,Zx,h0,c0,hd,eN]
        exact⟨k,l,x,y,w,h,pw,ph,pt,pk,c9,o,a,q,t,ks,(p+1),fun e=>by omega,by omega,by omega,rfl⟩
     ·by_cases k6:c=6
      ·subst k6
       have d3:=Qa bs (p+1) 3 hb (by omega)
       generalize Qq bs (p+1) 3=v at d3
       by_cases hv0:v=0
       ·subst hv0
        simp +contextual -implicitDefEqProofs (maxSteps:=10^7) only[go_sem,seval,↓gZ,Zx,h0,c0,d3]
        exact⟨5,1,0,0,0,0,0,0,false,0,0,0,0,0,false,[],(p+2),(fun e=>by cases e),by omega,by omega,rfl⟩
       ·skip
        cases hN:Zl5 (Z9.mk sS sO sD sL sC) with
        | none=>
         rw[hN] at eN
         unfold nxV at eN
         simp +contextual -implicitDefEqProofs (maxSteps:=10^7) only[go_sem,seval,↓gZ,Zx,h0,c0,d3,hv0,eN,eL]
         exact⟨0,(IntKind.i64.wrap (ll+2)),0,0,15,11,0,0,false,0,0,0,0,0,false,[],(p+2),fun _=>⟨by unfold I5;omega,by unfold I5;omega⟩,by omega,by omega,rfl⟩
        | some e=>
         have hk:=hnk e hN
         rw[hN] at eN
         obtain⟨k,l,⟨x,y,w,h⟩,⟨⟨pw,ph,pt,pk⟩,c9⟩,⟨o,a,q,t,ks⟩⟩:=e
         unfold nxV at eN
         simp only at eN hk
         simp +contextual -implicitDefEqProofs (maxSteps:=10^7) only[go_sem,seval,↓gZ,Zx,h0,c0,d3,hv0,eN]
         exact⟨k,l,x,y,w,h,pw,ph,pt,pk,c9,o,a,q,t,ks,(p+2),fun e=>by omega,by omega,by omega,rfl⟩
      ·skip
       cases hN:Zl5 (Z9.mk sS sO sD sL sC) with
       | none=>
        rw[hN] at eN
        unfold nxV at eN
        simp +contextual -implicitDefEqProofs (maxSteps:=10^7) only[go_sem,seval,↓gZ,Zx,h0,c0,k0,k1,k2,k3,k4,k5,k6,eN,eL]
        exact⟨0,(IntKind.i64.wrap (ll+2)),0,0,15,11,0,0,false,0,0,0,0,0,false,[],(p+1),fun _=>⟨by unfold I5;omega,by unfold I5;omega⟩,by omega,by omega,rfl⟩
       | some e=>
        have hk:=hnk e hN
        rw[hN] at eN
        obtain⟨k,l,⟨x,y,w,h⟩,⟨⟨pw,ph,pt,pk⟩,c9⟩,⟨o,a,q,t,ks⟩⟩:=e
        unfold nxV at eN
        simp only at eN hk
        simp +contextual -implicitDefEqProofs (maxSteps:=10^7) only[go_sem,seval,↓gZ,Zx,h0,c0,k0,k1,k2,k3,k4,k5,k6,eN]
        exact⟨k,l,x,y,w,h,pw,ph,pt,pk,c9,o,a,q,t,ks,(p+1),fun e=>by omega,by omega,by omega,rfl⟩
theorem Zqa:Wf ⟨[],[],[],0,0⟩:=by
 refine⟨⟨by simp,trivial⟩,⟨by simp,trivial,by simp[Zil]⟩,⟨by simp,trivial,by simp[Zil]⟩,?_⟩
 simp[UP,Zeo]
def PBook (bs:List UInt8) (p:Nat) (r:AV×List Zo):Prop:=∃ (out:List Zl) (S:List Zd) (O D:List Zi) (L C:Int) (f:Bool) (p' : Nat),Wf ⟨S,O,D,L,C⟩∧out.length≤16∧p≤p'∧p'≤p+200 ∧
 r=(.tup [.own 1,.agg [.own 2,.own 3,.own 4,(.d (J L)),(.d (J C))]],[.box [.d (.sl (bs.map VM)),(.d (J (p')))],.row 16 (out.map Zl.enc) true false,.row 4 (S.map Zd.enc) true f,.row 5 (O.map Zi.enc) true f,.row 5 (D.map Zi.enc) true f])
theorem Zq9 (bs:List UInt8) (hb:bs.length≤2000) (p:Nat) (hp:p<700000000) (most:Int):∃ r,Zh Xs Ms VU [.ptr 0 0,(.d (J most))] [.box [.d (.sl (bs.map VM)),(.d (J p))]]=some r∧PBook bs p r:=by
 obtain⟨n,hn,eN⟩:=Zek bs p [8,12,5,16,0,2] hb (by omega) (by decide)
 have hn' : 0≤n∧n≤16:=by simp only[List.mem_cons,List.not_mem_nil,or_false] at hn;omega
 simp only[List.map_cons,List.map_nil,YL] at eN
 refine ZrX Xs Ms WX Zmh (by show 2≤_;decide) ?_
 simp +contextual -implicitDefEqProofs (maxSteps:=10^7) only[go_sem,seval,↓gZ,WX,eN]
 refine ZQ Xs Ms (st0:=?st0) (α:=Int×List Zl×Z9×Nat×Bool) (fun s=>[(8,.d (J s.1))]) (fun s=>[(0,.box [.d (.sl (bs.map VM)),(.d (J (s.2.2.2.1)))]),(1,.row 16 (s.2.1.map Zl.enc) true false),(2,.box [.own 4,.own 5,.own 6,(.d (J (s.2.2.1.Lost))),(.d (J (s.2.2.1.Came)))]),(4,.row 4 (s.2.2.1.Stock.map Zd.enc) true s.2.2.2.2),(5,.row 5 (s.2.2.1.Opn.map Zi.enc) true s.2.2.2.2),(6,.row 5 (s.2.2.1.Done.map Zi.enc) true s.2.2.2.2)]) (fun s=>0≤s.1∧s.1≤16∧(s.2.1.length:Int)≤16-s.1∧Wf s.2.2.1∧p+1≤s.2.2.2.1∧(s.2.2.2.1:Int)≤p+1+10*(16-s.1)) (fun s=>s.1.toNat) (n,[],⟨[],[],[],0,0⟩,p+1,false) ?hc ⟨hn'.1,hn'.2,by simp;omega,Zqa,by simp,by simp;omega⟩ ?h0 ?step
 case hc=>simp +contextual -implicitDefEqProofs (maxSteps:=10^7) only[go_sem,seval,↓gZ]<;>exact rfl
 case h0=>rfl
 case step=>
  intro⟨m,out,⟨S,O,D,L,C⟩,pp,f⟩ ⟨i1,i2,i3,i4,i5,i6⟩ ih
  simp only at i1 i2 i3 i4 i5 i6
  by_cases hm:0<m
  ·by_cases ho:(out.length:Int)<most
   ·obtain⟨r,eE,K,Lb,X,Y,W,H,pW,pH,pT,pK,Ct,o,a,q,t,ks,p',g1,g2,g3,rfl⟩:=Zes bs hb pp (by omega) S O D L C (Zoz i4)
    have ea:=Zid S O D L C K Lb X Y W H pW pH pT pK Ct o a q t ks i4 (fun e=>(g1 e).1) (fun e=>(g1 e).2)
    have hw:=wi (m-1) (by omega) (by omega)
    have hr:(out.length+1)*144≤140737488355328∧out.length≤140737488355327:=by omega
    cases hap:Jh ⟨S,O,D,L,C⟩ ⟨K,Lb,⟨X,Y,W,H⟩,⟨⟨pW,pH,pT,pK⟩,Ct⟩,.mk o a q t ks⟩ with
    | none=>
     rw[hap] at ea
     unfold shV at ea
     simp +contextual -implicitDefEqProofs (maxSteps:=10^7) only[go_sem,seval,↓gZ,hm,ho,eE,ea,hw,hr]
     refine ih (m-1,out,⟨S,O,D,L,C⟩,p',true) _ ⟨by simp only;omega,by simp only;omega,by simp only;omega,i4,by simp only;omega,by simp only;omega⟩ (by simp only;omega) ?_
     simp +contextual -implicitDefEqProofs (maxSteps:=10^7) only[go_sem,seval,↓gZ]
    | some u=>
     have hvu:=Zp7 hap
     rw[hap] at ea
     obtain⟨S',O',D',L',C'⟩:=u
     unfold shV at ea
     simp only at ea
     simp +contextual -implicitDefEqProofs (maxSteps:=10^7) only[go_sem,seval,↓gZ,hm,ho,eE,ea,hw,hr]
     refine ih (m-1,out++[⟨K,Lb,⟨X,Y,W,H⟩,⟨⟨pW,pH,pT,pK⟩,Ct⟩,.mk o a q t ks⟩],⟨S',O',D',L',C'⟩,p',false) _ ⟨by simp only;omega,by simp only;omega,by simp only[List.length_append,List.length_cons,List.length_nil];omega,hvu,by simp only;omega,by simp only;omega⟩ (by simp only;omega) ?_
     simp +contextual -implicitDefEqProofs (maxSteps:=10^7) only[go_sem,seval,↓gZ,List.map_append]
   ·simp +contextual -implicitDefEqProofs (maxSteps:=10^7) only[go_sem,seval,↓gZ,hm,ho]
    exact⟨out,S,O,D,L,C,f,pp,i4,by omega,by omega,by omega,rfl⟩
  ·simp +contextual -implicitDefEqProofs (maxSteps:=10^7) only[go_sem,seval,↓gZ,hm]
   exact⟨out,S,O,D,L,C,f,pp,i4,by omega,by omega,by omega,rfl⟩
end Go.Proofs.YtkdjbefmiiibpaaGreatDoor
