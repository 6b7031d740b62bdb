/- Contracts of the functions,by the abstract semantics. -/
import Derived.Test.YtpobhkoombldlaaGreatECode
import Derived.Test.YtpobhkoombldlaaGreatAbsParts
import Derived.Test.YtpobhkoombldlaaGreatEC4
namespace Go.Proofs.YtpobhkoombldlaaGreat
open Go Go.Abs Go.Abs.E Go.Abs.L
open Nat (reduceMul reduceSub reduceLeDiff reduceEqDiff)
open Int (reduceLE reduceEq reduceToNat reduceNeg)
set_option linter.unusedSimpArgs false
set_option linter.unusedVariables false
set_option maxRecDepth 20000
set_option maxHeartbeats 4000000
theorem Zbe (cP:Int) (cT:Bool) (cX cY cW cH:Int) (bX bY bW bH:Int) (d:Bool) (x:Int) (r:List Int) (P:Zh) (hc:0≤cX∧cX≤1000∧0≤cY∧cY≤1000∧1≤cW∧cW≤1000∧1≤cH∧cH≤1000) (hb:0≤bX∧0≤bY∧1≤bW∧1≤bH∧bX+bW≤1000∧bY+bH≤1000) (hne:¬(cX=bX∧cY=bY∧cW=bW∧cH=bH))
  (h2:d=false→WI cX (cX+cW) bX (bX+bW)=[])
  (he:(if d then WI cX (cX+cW) bX (bX+bW) else WI cY (cY+cH) bY (bY+bH))=x :: r)
  (hn:if d then ¬(cX<x∧x<cX+cW) else ¬(cY<x∧x<cY+cH)) (hx:if d then bX<x∧x<bX+bW else bY<x∧x<bY+bH)
  (hp:Zg Xs Ms Yr [.d (.sl (if true=decide ((if d then cX+cW else cY+cH)≤x) then [.agg [J cP,.bool cT,J cX,J cY,J cW,J cH]] else [])),.d (.sl (if false=decide ((if d then cX+cW else cY+cH)≤x) then [.agg [J cP,.bool cT,J cX,J cY,J cW,J cH]] else [])),(.d (.agg [J bX,J bY,J bW,J bH])),(.d (J (QF d))),(.d (J (x-(if d then bX else bY))))] []=some (ZcH P)) :
  Zg Xs Ms Qf [.d (.sl [.agg [J cP,.bool cT,J cX,J cY,J cW,J cH]]),(.d (.agg [J bX,J bY,J bW,J bH]))] []=some (ZcH P):=by
 have w1:=wi (bX+bW) (by omega) (by omega)
 have w2:=wi (bY+bH) (by omega) (by omega)
 have c2:(0:Int)<((2:Nat):Int):=by omega
 obtain⟨o,a,q,t,ks⟩:=P
 simp only[ZcH] at hp ⊢
 have e2:=ZqC cP cT cX cY cW cH 2 cX cW bX (bX+bW) (.inl ⟨rfl,rfl,rfl⟩) hc hb.1 (by omega) (by omega)
 have e3:=ZqC cP cT cX cY cW cH 3 cY cH bY (bY+bH) (.inr ⟨rfl,rfl,rfl⟩) hc hb.2.1 (by omega) (by omega)
 have hrl:r=[]∨∃ y,r=[y]:=by
  have h1:(x :: r).length≤2:=by
   rw[← he]
   cases d
   ·exact Znh _ _ _ _
   ·exact Znh _ _ _ _
  match r,h1 with
  | [],_=>exact .inl rfl
  | [y],_=>exact .inr ⟨y,rfl⟩
  | y :: z :: r,h1=>simp at h1
 cases d with
 | true=>
  simp only[if_true,QF] at he hn hx hp
  rw[he] at e2
  have w3:=wi (x-bX) (by omega) (by omega)
  have p1:=Zjh cP cT cX cY cW cH 2 cX cW x true (.inl ⟨rfl,rfl,rfl⟩) hc hn
  have p2:=Zjh cP cT cX cY cW cH 2 cX cW x false (.inl ⟨rfl,rfl,rfl⟩) hc hn
  generalize hAe:(if true=decide (cX+cW≤x) then [D.agg [J cP,.bool cT,J cX,J cY,J cW,J cH]] else [])=A at p1 hp
  have hA:uni 6 A:=by rw[← hAe];split<;>simp[uni,D.cells]
  generalize hBe:(if false=decide (cX+cW≤x) then [D.agg [J cP,.bool cT,J cX,J cY,J cW,J cH]] else [])=B at p2 hp
  have hB:uni 6 B:=by rw[← hBe];split<;>simp[uni,D.cells]
  refine Zd Xs Ms Qu UR (by show 2≤_;decide) ?_
  simp +contextual -implicitDefEqProofs (maxSteps:=10^7) only[go_sem,seval,↓gZ,Qu,hne,← Bool.decide_and]
  refine ZU Xs Ms ?_
  rcases hrl with rfl | ⟨y,rfl⟩
  ·simp only[List.map_cons,List.map_nil,ZbI] at e2
   simp +contextual -implicitDefEqProofs (maxSteps:=10^7) only[go_sem,seval,↓gZ,w1,e2]
   refine ZU Xs Ms ?_
   simp +contextual -implicitDefEqProofs (maxSteps:=10^7) only[go_sem,seval,↓gZ,p1,p2,w3,hp,hA,hB,c2]
  ·simp only[List.map_cons,List.map_nil,ZbI] at e2
   simp +contextual -implicitDefEqProofs (maxSteps:=10^7) only[go_sem,seval,↓gZ,w1,e2]
   refine ZU Xs Ms ?_
   simp +contextual -implicitDefEqProofs (maxSteps:=10^7) only[go_sem,seval,↓gZ,p1,p2,w3,hp,hA,hB,c2]
 | false=>
  simp only[Bool.false_eq_true,if_false,QF] at he hn hx hp
  rw[h2 rfl] at e2
  rw[he] at e3
  simp only[List.map_nil] at e2
  have w3:=wi (x-bY) (by omega) (by omega)
  have p1:=Zjh cP cT cX cY cW cH 3 cY cH x true (.inr ⟨rfl,rfl,rfl⟩) hc hn
  have p2:=Zjh cP cT cX cY cW cH 3 cY cH x false (.inr ⟨rfl,rfl,rfl⟩) hc hn
  generalize hAe:(if true=decide (cY+cH≤x) then [D.agg [J cP,.bool cT,J cX,J cY,J cW,J cH]] else [])=A at p1 hp
  have hA:uni 6 A:=by rw[← hAe];split<;>simp[uni,D.cells]
  generalize hBe:(if false=decide (cY+cH≤x) then [D.agg [J cP,.bool cT,J cX,J cY,J cW,J cH]] else [])=B at p2 hp
  have hB:uni 6 B:=by rw[← hBe];split<;>simp[uni,D.cells]
  refine Zd Xs Ms Qu UR (by show 2≤_;decide) ?_
  simp +contextual -implicitDefEqProofs (maxSteps:=10^7) only[go_sem,seval,↓gZ,Qu,hne,← Bool.decide_and]
  refine ZU Xs Ms ?_
  simp +contextual -implicitDefEqProofs (maxSteps:=10^7) only[go_sem,seval,↓gZ,w1,e2]
  refine ZU Xs Ms ?_
  simp +contextual -implicitDefEqProofs (maxSteps:=10^7) only[go_sem,seval,↓gZ]
  refine ZU Xs Ms ?_
  rcases hrl with rfl | ⟨y,rfl⟩
  ·simp only[List.map_cons,List.map_nil,ZbI] at e3
   simp +contextual -implicitDefEqProofs (maxSteps:=10^7) only[go_sem,seval,↓gZ,w1,w2,e3]
   refine ZU Xs Ms ?_
   simp +contextual -implicitDefEqProofs (maxSteps:=10^7) only[go_sem,seval,↓gZ,p1,p2,w3,hp,hA,hB,c2]
  ·simp only[List.map_cons,List.map_nil,ZbI] at e3
   simp +contextual -implicitDefEqProofs (maxSteps:=10^7) only[go_sem,seval,↓gZ,w1,w2,e3]
   refine ZU Xs Ms ?_
   simp +contextual -implicitDefEqProofs (maxSteps:=10^7) only[go_sem,seval,↓gZ,p1,p2,w3,hp,hA,hB,c2]
def QI (i:Int) (t:Bool) (X Y W H bX bY bW bH:Int):BT:=
 let t4:=if Y+H<bY+bH then BT.cut false H (.pane i t) .waste else .pane i t
 let t3:=if bY<Y then BT.cut false (Y-bY) .waste t4 else t4
 let t2:=if X+W<bX+bW then BT.cut true W t3 .waste else t3
 if bX<X then BT.cut true (X-bX) .waste t2 else t2
def Zeg (X Y W H bX bY bW bH:Int):Prop:=0≤bX∧bX≤X∧0≤bY∧bY≤Y∧1≤W∧1≤H∧X+W≤bX+bW∧Y+H≤bY+bH∧bX+bW≤1000∧bY+bH≤1000
theorem Zh4 (cP:Int) (cT:Bool) (cX cY cW cH:Int) (bH:Int) (h:Zeg cX cY cW cH cX cY cW bH):Zg Xs Ms Qf [.d (.sl [.agg [J cP,.bool cT,J cX,J cY,J cW,J cH]]),.d (.agg [J cX,J cY,J cW,J bH])] []=some (ZcH (QI cP cT cX cY cW cH cX cY cW bH).plan):=by
 have hh:=h
 unfold Zeg at h
 unfold QI
 rw[if_neg (show ¬cX<cX by omega),if_neg (show ¬cX+cW<cX+cW by omega),if_neg (show ¬cY<cY by omega)]
 by_cases hl:cY+cH<cY+bH
 ·rw[if_pos hl]
  have hb:=Zbd [D.agg [J cP,.bool cT,J cX,J cY,J cW,J cH]] [] cX cY cW bH false cH (.pane cP cT) .waste (by simp[uni,D.cells]) (by simp[uni]) (by unfold R64;omega) (by unfold R64;omega) (by unfold R64;omega) (by unfold R64;omega) (Zh3 _ _ _ _ _ _) (Zcq _ _ _ _)
  refine Zbe cP cT cX cY cW cH cX cY cW bH false (cY+cH) [] _ (by omega) (by omega) (by omega) (fun _=>?_) ?_ ?_ ?_ ?_
  ·unfold WI;rw[if_neg (by omega),if_neg (by omega)];rfl
  ·simp only[Bool.false_eq_true,if_false]
   unfold WI;rw[if_neg (by omega),if_pos (by omega)];rfl
  ·simp only[Bool.false_eq_true,if_false];omega
  ·simp only[Bool.false_eq_true,if_false];omega
  ·simp only[Bool.false_eq_true,if_false,Int.le_refl,decide_true,if_true]
   rw[show cY+cH-cY=cH by omega]
   exact hb
 ·rw[if_neg hl]
  have:bH=cH:=by omega
  subst this
  exact Zh3 _ _ _ _ _ _
theorem Zh5 (cP:Int) (cT:Bool) (cX cY cW cH:Int) (bY bH:Int) (h:Zeg cX cY cW cH cX bY cW bH):Zg Xs Ms Qf [.d (.sl [.agg [J cP,.bool cT,J cX,J cY,J cW,J cH]]),.d (.agg [J cX,J bY,J cW,J bH])] []=some (ZcH (QI cP cT cX cY cW cH cX bY cW bH).plan):=by
 by_cases hl:bY<cY
 ·have h4:=Zh4 cP cT cX cY cW cH (bY+bH-cY) (by unfold Zeg at h ⊢;omega)
  unfold Zeg at h
  have e:QI cP cT cX cY cW cH cX bY cW bH=.cut false (cY-bY) .waste (QI cP cT cX cY cW cH cX cY cW (bY+bH-cY)):=by
   unfold QI
   rw[if_neg (show ¬cX<cX by omega),if_neg (show ¬cX+cW<cX+cW by omega),if_pos hl,if_neg (show ¬cX<cX by omega),if_neg (show ¬cX+cW<cX+cW by omega),if_neg (show ¬cY<cY by omega),show cY+(bY+bH-cY)=bY+bH by omega]
  rw[e]
  generalize QI cP cT cX cY cW cH cX cY cW (bY+bH-cY)=Q at h4 ⊢
  have hb:=Zbd [] [D.agg [J cP,.bool cT,J cX,J cY,J cW,J cH]] cX bY cW bH false (cY-bY) .waste Q (by simp[uni]) (by simp[uni,D.cells]) (by unfold R64;omega) (by unfold R64;omega) (by unfold R64;omega) (by unfold R64;omega) (Zcq _ _ _ _) (by
   simp only[Bool.false_eq_true,if_false]
   rw[show bY+(cY-bY)=cY by omega,show bH-(cY-bY)=bY+bH-cY by omega]
   exact h4)
  refine Zbe cP cT cX cY cW cH cX bY cW bH false cY (if cY+cH<bY+bH then [cY+cH] else []) _ (by omega) (by omega) (by omega) (fun _=>?_) ?_ ?_ ?_ ?_
  ·unfold WI;rw[if_neg (by omega),if_neg (by omega)];rfl
  ·simp only[Bool.false_eq_true,if_false]
   unfold WI;rw[if_pos (by omega)]
   by_cases h5:cY+cH<bY+bH
   ·rw[if_pos (by omega),if_pos h5];rfl
   ·rw[if_neg (by omega),if_neg h5];rfl
  ·simp only[Bool.false_eq_true,if_false];omega
  ·simp only[Bool.false_eq_true,if_false];omega
  ·simp only[Bool.false_eq_true,if_false]
   rw[decide_eq_false (show ¬cY+cH≤cY by omega)]
   simp only[Bool.true_eq_false,if_false,if_true]
   exact hb
 ·unfold Zeg at h
  have:bY=cY:=by omega
  subst this
  exact Zh4 cP cT cX bY cW cH bH (by unfold Zeg;omega)
theorem Zh6 (cP:Int) (cT:Bool) (cX cY cW cH:Int) (bY bW bH:Int) (h:Zeg cX cY cW cH cX bY bW bH):Zg Xs Ms Qf [.d (.sl [.agg [J cP,.bool cT,J cX,J cY,J cW,J cH]]),.d (.agg [J cX,J bY,J bW,J bH])] []=some (ZcH (QI cP cT cX cY cW cH cX bY bW bH).plan):=by
 by_cases hl:cX+cW<cX+bW
 ·have h3:=Zh5 cP cT cX cY cW cH bY bH (by unfold Zeg at h ⊢;omega)
  unfold Zeg at h
  have e:QI cP cT cX cY cW cH cX bY bW bH=.cut true cW (QI cP cT cX cY cW cH cX bY cW bH) .waste:=by
   unfold QI
   rw[if_neg (show ¬cX<cX by omega),if_pos hl,if_neg (show ¬cX<cX by omega),if_neg (show ¬cX+cW<cX+cW by omega)]
  rw[e]
  generalize QI cP cT cX cY cW cH cX bY cW bH=Q at h3 ⊢
  have hb:=Zbd [D.agg [J cP,.bool cT,J cX,J cY,J cW,J cH]] [] cX bY bW bH true cW Q .waste (by simp[uni,D.cells]) (by simp[uni]) (by unfold R64;omega) (by unfold R64;omega) (by unfold R64;omega) (by unfold R64;omega) (by simp only[if_true];exact h3) (Zcq _ _ _ _)
  refine Zbe cP cT cX cY cW cH cX bY bW bH true (cX+cW) [] _ (by omega) (by omega) (by omega) (fun e=>by cases e) ?_ ?_ ?_ ?_
  ·simp only[if_true]
   unfold WI;rw[if_neg (by omega),if_pos (by omega)];rfl
  ·simp only[if_true];omega
  ·simp only[if_true];omega
  ·simp only[if_true,Int.le_refl,decide_true,Bool.false_eq_true,if_false]
   rw[show cX+cW-cX=cW by omega]
   exact hb
 ·unfold Zeg at h
  have:bW=cW:=by omega
  subst this
  exact Zh5 cP cT cX cY bW cH bY bH (by unfold Zeg;omega)
theorem ZjK (cP:Int) (cT:Bool) (cX cY cW cH:Int) (bX bY bW bH:Int) (h:Zeg cX cY cW cH bX bY bW bH):Zg Xs Ms Qf [.d (.sl [.agg [J cP,.bool cT,J cX,J cY,J cW,J cH]]),.d (.agg [J bX,J bY,J bW,J bH])] []=some (ZcH (QI cP cT cX cY cW cH bX bY bW bH).plan):=by
 by_cases hl:bX<cX
 ·have h2:=Zh6 cP cT cX cY cW cH bY (bX+bW-cX) bH (by unfold Zeg at h ⊢;omega)
  unfold Zeg at h
  have e:QI cP cT cX cY cW cH bX bY bW bH=.cut true (cX-bX) .waste (QI cP cT cX cY cW cH cX bY (bX+bW-cX) bH):=by
   unfold QI
   rw[if_pos hl,if_neg (show ¬cX<cX by omega),show cX+(bX+bW-cX)=bX+bW by omega]
  rw[e]
  generalize QI cP cT cX cY cW cH cX bY (bX+bW-cX) bH=Q at h2 ⊢
  have hb:=Zbd [] [D.agg [J cP,.bool cT,J cX,J cY,J cW,J cH]] bX bY bW bH true (cX-bX) .waste Q (by simp[uni]) (by simp[uni,D.cells]) (by unfold R64;omega) (by unfold R64;omega) (by unfold R64;omega) (by unfold R64;omega) (Zcq _ _ _ _) (by
   simp only[if_true]
   rw[show bX+(cX-bX)=cX by omega,show bW-(cX-bX)=bX+bW-cX by omega]
   exact h2)
  refine Zbe cP cT cX cY cW cH bX bY bW bH true cX (if cX+cW<bX+bW then [cX+cW] else []) _ (by omega) (by omega) (by omega) (fun e=>by cases e) ?_ ?_ ?_ ?_
  ·simp only[if_true]
   unfold WI;rw[if_pos (by omega)]
   by_cases h5:cX+cW<bX+bW
   ·rw[if_pos (by omega),if_pos h5];rfl
   ·rw[if_neg (by omega),if_neg h5];rfl
  ·simp only[if_true];omega
  ·simp only[if_true];omega
  ·simp only[if_true]
   rw[decide_eq_false (show ¬cX+cW≤cX by omega)]
   simp only[Bool.true_eq_false,if_false,if_true]
   exact hb
 ·unfold Zeg at h
  have:bX=cX:=by omega
  subst this
  exact Zh6 cP cT bX cY cW cH bY bW bH (by unfold Zeg;omega)
@[go_sem] theorem rep_5 {α:Type} (a:α):List.replicate 5 a=[a,a,a,a,a]:=rfl
@[go_sem] theorem rep_8 {α:Type} (a:α):List.replicate 8 a=[a,a,a,a,a,a,a,a]:=rfl
@[go_sem] theorem rep_15 {α:Type} (a:α):List.replicate 15 a=[a,a,a,a,a,a,a,a,a,a,a,a,a,a,a]:=rfl
theorem Zv2:∀ {l:List Zb} {b:Int},Yk b l→∀ x∈l,b<x.Label
 | [],_,_,x,hx=>by simp at hx
 | y :: l,b,h,x,hx=>by
  rcases List.mem_cons.1 hx with rfl | hx
  ·exact h.2.1
  ·have:=Zv2 h.2.2 x hx
   have:=h.2.1
   omega
theorem Zl8:∀ {l:List Zb} {b:Int} {k j:Nat} {x:Zb},Yk b l→l[j]?=some x→QJ k l x.Label=((k+j:Nat):Int)
 | [],_,k,j,x,_,hx=>by simp at hx
 | y :: l,b,k,0,x,h,hx=>by
  simp only[List.getElem?_cons_zero,Option.some.injEq] at hx
  subst hx
  simp[QJ]
 | y :: l,b,k,j+1,x,h,hx=>by
  simp only[List.getElem?_cons_succ] at hx
  have h1:=Zv2 h.2.2 x (List.mem_of_getElem? hx)
  unfold QJ
  rw[if_neg (by omega),Zl8 (k:=k+1) h.2.2 hx]
  congr 1
  omega
def Zni (i:Nat) (t:Bool) (b:Box) (q:Zb):ZF:=⟨3,q.Label,⟨0,0,0,0⟩,⟨⟨0,0,false,0⟩,0⟩,(QI i t b.X b.Y b.W b.H 0 0 q.W q.H).plan⟩
def ZqD (s:Zo) (i:Nat) (x:Zc):Option ZF:=
 if ZeI s.Stock x.Pane<0 then none else match s.Stock[(ZeI s.Stock x.Pane).toNat]? with
 | none=>none
 | some q=>match Xz q x.Pane.W x.Pane.H with
  | some b=>some (Zni i false b q)
  | none=>match Xz q x.Pane.H x.Pane.W with
   | some b=>some (Zni i true b q)
   | none=>none
def UO (s:Zo):List Zc→Nat→Option ZF
 | [],_=>none
 | x :: r,i=>match ZqD s i x with
  | some e=>if (QK s e).isSome=true then some e else UO s r (i+1)
  | none=>UO s r (i+1)
def Wh (s:Zo):Option ZF:=UO s s.Opn 0
theorem Zh7 {s:Zo} {l:List Zc} {k i:Nat} {x:Zc} (hx:l[k]?=some x):UO s (l.drop k) i=match ZqD s i x with
  | some e=>if (QK s e).isSome=true then some e else UO s (l.drop (k+1)) (i+1)
  | none=>UO s (l.drop (k+1)) (i+1):=by
 obtain⟨h1,h2⟩:=List.getElem?_eq_some_iff.1 hx
 rw[List.drop_eq_getElem_cons h1,h2,UO]
theorem ZqE {s:Zo} {l:List Zc} {i:Nat}:UO s (l.drop l.length) i=none:=by simp[UO]
def nxV:Option ZF→AV×List Zt
 | some ⟨k,l,⟨x,y,w,h⟩,⟨⟨pw,ph,pt,pk⟩,c⟩,.mk o a q t ks⟩=>(.tup [.agg [(.d (J k)),(.d (J l)),(.d (J x)),(.d (J y)),(.d (J w)),(.d (J h)),(.d (J pw)),(.d (J ph)),(.d (.bool pt)),(.d (J pk)),(.d (J c)),(.d (J o)),(.d (J a)),(.d (J q)),(.d (.bool t)),.own 0],(.d (.bool true))],[.row 5 (ks.map Zh.enc) true false])
 | none=>(.tup [.agg [(.d (J 0)),(.d (J 0)),(.d (J 0)),(.d (J 0)),(.d (J 0)),(.d (J 0)),(.d (J 0)),(.d (J 0)),(.d (.bool false)),(.d (J 0)),(.d (J 0)),(.d (J 0)),(.d (J 0)),(.d (J 0)),(.d (.bool false)),.own 0],(.d (.bool false))],[.row 5 [] true false])
theorem Zl9 (sS:List Zb) (sO sD:List Zc) (sL sC:Int) (hv:WSh (Zo.mk sS sO sD sL sC)):Zg Xs Ms UT [(.d (.agg [.sl (sS.map Zb.enc),.sl (sO.map Zc.enc),.sl (sD.map Zc.enc),J sL,J sC]))] []=some (nxV (Wh (Zo.mk sS sO sD sL sC))):=by
 have hO8:=hv.2.1
 have hS20:=hv.1.1
 simp only at hO8 hS20
 refine Zd Xs Ms ZcM Zwl (by show 1≤_;decide) ?_
 simp +contextual -implicitDefEqProofs (maxSteps:=10^7) only[go_sem,seval,↓gZ,ZcM]
 refine Zr Xs Ms (st0:=?st0) (α:=Nat) (fun i=>[(4,.d (J (i:Int)))]) (fun _=>[]) (fun i=>i≤sO.length∧UO (Zo.mk sS sO sD sL sC) (sO.drop i) i=Wh (Zo.mk sS sO sD sL sC)) (fun i=>sO.length-i) 0 ?hc ⟨by omega,by simp[Wh]⟩ ?h0 ?step
 case hc=>simp +contextual -implicitDefEqProofs (maxSteps:=10^7) only[go_sem,seval,↓gZ]<;>exact rfl
 case h0=>rfl
 case step=>
  intro i ⟨hi,hp⟩ ih
  by_cases hlt:i<sO.length
  ·obtain⟨x,hx⟩:=Zp hlt
   have hw:=Zl (k:=i) (by omega)
   rw[Zh7 hx] at hp
   have hxv:=hv.2.2.1 x (List.mem_of_getElem? hx)
   obtain⟨⟨W,H,T,K⟩,C⟩:=x
   simp only at hxv
   have hWH:1≤W∧W≤200∧1≤H∧H≤200:=⟨hxv.1.1,hxv.1.2.1,hxv.1.2.2.1,hxv.1.2.2.2.1⟩
   have ef:=ZqB sS W H T K hv.1 hxv.1
   unfold Ztl at ef
   rw[if_pos ⟨hv.1,hxv.1⟩] at ef
   unfold ZqD at hp
   simp only at hp
   rcases ZqA sS ⟨W,H,T,K⟩ with h0 | ⟨j,q,hj,hq,hok⟩
   ·rw[if_pos h0] at ef hp
    simp only at hp
    simp +contextual -implicitDefEqProofs (maxSteps:=10^7) only[go_sem,seval,↓gZ,hx,hlt,hw,ef]
    refine ih (i+1) _ ⟨by omega,hp⟩ (by omega) ?_
    simp +contextual -implicitDefEqProofs (maxSteps:=10^7) only[go_sem,seval,↓gZ]
   ·have hj0:¬(j:Int)<0:=by omega
    rw[hj,if_neg hj0,Int.toNat_natCast,hq] at ef hp
    simp only at hp ef
    have hqv:=Z8 hv.1.2 q (List.mem_of_getElem? hq)
    have hjl:=(List.getElem?_eq_some_iff.1 hq).1
    have el:=Y5 sS q.Label (by omega)
    rw[Zl8 hv.1.2 hq,Nat.zero_add] at el
    have f1:=Zar q.Label q.W q.H q.Flaws W H hqv ⟨hWH.1,hWH.2.1⟩ hWH.2.2
    have f2:=Zar q.Label q.W q.H q.Flaws H W hqv hWH.2.2 ⟨hWH.1,hWH.2.1⟩
    have hqb:=hqv.1
    have hpl:∀ (t:Bool) (w h:Int) (b:Box),1≤w→1≤h→Xz q w h=some b→∃ (o a p:Int) (t' : Bool) (ks:List Zh),(QI i t b.X b.Y b.W b.H 0 0 q.W q.H).plan=.mk o a p t' ks∧Zg Xs Ms Qf [.d (.sl [.agg [J i,.bool t,J b.X,J b.Y,J b.W,J b.H]]),.d (.agg [J 0,J 0,J q.W,J q.H])] []=some (.tup [.agg [(.d (J o)),(.d (J a)),(.d (J p)),(.d (.bool (t'))),.own 0],(.d (.bool true))],[.row 5 (ks.map Zh.enc) true false]):=fun t w h b hw1 hh1 hb=>by
     obtain⟨g1,g2,g3,g4,g5,g6,_⟩:=ZcG hb
     have e:=ZjK i t b.X b.Y b.W b.H 0 0 q.W q.H (by unfold Zeg;omega)
     cases hpp:(QI i t b.X b.Y b.W b.H 0 0 q.W q.H).plan with
     | mk o a p t' ks=>
      rw[hpp] at e
      exact⟨o,a,p,t',ks,rfl,e⟩
    have hl1:¬q.Label=0:=by omega
    obtain⟨qL,qW,qH,qF⟩:=q
    simp only at ef el f1 f2 hpl hl1 hp
    cases h1:Xz ⟨qL,qW,qH,qF⟩ W H with
    | some b=>
     obtain⟨o,a,p,t',ks,e1,e2⟩:=hpl false W H b (by omega) (by omega) h1
     rw[h1] at f1 hp
     unfold Zni at hp
     simp only[e1] at hp
     have ea:=Jm sS sO sD sL sC 3 qL 0 0 0 0 0 0 false 0 0 o a p t' ks hv rfl
     obtain⟨bX,bY,bW,bH⟩:=b
     unfold fcV at f1
     simp only at f1 e2 hp
     cases hap:QK (Zo.mk sS sO sD sL sC) ⟨3,qL,⟨0,0,0,0⟩,⟨⟨0,0,false,0⟩,0⟩,.mk o a p t' ks⟩ with
     | none=>
      rw[hap] at ea hp
      simp only[Option.isSome_none,Bool.false_eq_true,if_false] at hp
      unfold shV at ea
      simp +contextual -implicitDefEqProofs (maxSteps:=10^7) only[go_sem,seval,↓gZ,hx,hlt,hw,ef,el,f1,e2,ea,hl1,hjl,hq]
      refine ih (i+1) _ ⟨by omega,hp⟩ (by omega) ?_
      simp +contextual -implicitDefEqProofs (maxSteps:=10^7) only[go_sem,seval,↓gZ]
     | some u=>
      rw[hap] at ea hp
      simp only[Option.isSome_some,if_true] at hp
      rw[← hp]
      unfold shV at ea
      unfold nxV
      simp +contextual -implicitDefEqProofs (maxSteps:=10^7) only[go_sem,seval,↓gZ,hx,hlt,hw,ef,el,f1,e2,ea,hl1,hjl,hq]
    | none=>
     rw[h1] at f1 hp
     unfold fcV at f1
     simp only at hp
     cases h2:Xz ⟨qL,qW,qH,qF⟩ H W with
     | none=>
      exfalso
      unfold okP at hok
      simp only[h1,h2] at hok
      simp at hok
     | some b=>
      obtain⟨o,a,p,t',ks,e1,e2⟩:=hpl true H W b (by omega) (by omega) h2
      rw[h2] at f2 hp
      unfold Zni at hp
      simp only[e1] at hp
      have ea:=Jm sS sO sD sL sC 3 qL 0 0 0 0 0 0 false 0 0 o a p t' ks hv rfl
      obtain⟨bX,bY,bW,bH⟩:=b
      unfold fcV at f2
      simp only at f2 e2 hp
      cases hap:QK (Zo.mk sS sO sD sL sC) ⟨3,qL,⟨0,0,0,0⟩,⟨⟨0,0,false,0⟩,0⟩,.mk o a p t' ks⟩ with
      | none=>
       rw[hap] at ea hp
       simp only[Option.isSome_none,Bool.false_eq_true,if_false] at hp
       unfold shV at ea
       simp +contextual -implicitDefEqProofs (maxSteps:=10^7) only[go_sem,seval,↓gZ,hx,hlt,hw,ef,el,f1,f2,e2,ea,hl1,hjl,hq]
       refine ih (i+1) _ ⟨by omega,hp⟩ (by omega) ?_
       simp +contextual -implicitDefEqProofs (maxSteps:=10^7) only[go_sem,seval,↓gZ]
      | some u=>
       rw[hap] at ea hp
       simp only[Option.isSome_some,if_true] at hp
       rw[← hp]
       unfold shV at ea
       unfold nxV
       simp +contextual -implicitDefEqProofs (maxSteps:=10^7) only[go_sem,seval,↓gZ,hx,hlt,hw,ef,el,f1,f2,e2,ea,hl1,hjl,hq]
  ·have:i=sO.length:=by omega
   subst this
   rw[ZqE] at hp
   rw[← hp]
   unfold nxV
   simp +contextual -implicitDefEqProofs (maxSteps:=10^7) only[go_sem,seval,↓gZ]
theorem ZxD {s:Zo} {i:Nat} {x:Zc} {e:ZF} (h:ZqD s i x=some e):e.kind=3:=by
 unfold ZqD at h
 split at h
 ·cases h
 ·split at h
  ·cases h
  ·split at h
   ·cases h;rfl
   ·split at h
    ·cases h;rfl
    ·cases h
theorem ZcI {s:Zo}:∀ {l:List Zc} {i:Nat} {e:ZF},UO s l i=some e→e.kind=3
 | [],i,e,h=>by simp[UO] at h
 | x :: l,i,e,h=>by
  unfold UO at h
  split at h
  ·split at h
   ·cases h;exact ZxD (by assumption)
   ·exact ZcI h
  ·exact ZcI h
theorem ZjL (bs:List UInt8) (hb:bs.length≤2000) (p:Nat) (hp:p<900000000):∃ (W H:Int) (T:Bool) (K:Int),Zg Xs Ms Jr [.ptr 0 0] [.box [.d (.sl (bs.map ZaP)),(.d (J p))]]=some (.d (.agg [J W,J H,.bool T,J K]),[.box [.d (.sl (bs.map ZaP)),(.d (J ((p+4:Nat))))]]):=by
 have p1:=QC bs p 8 hb (by omega)
 have p2:=QC bs (p+1) 8 hb (by omega)
 have p3:=QC bs (p+2) 2 hb (by omega)
 have p4:=QC bs (p+3) 3 hb (by omega)
 generalize Xr bs p 8=a1 at p1
 generalize Xr bs (p+1) 8=a2 at p2
 generalize Xr bs (p+2) 2=a3 at p3
 generalize Xr bs (p+3) 3=a4 at p4
 refine⟨IntKind.i64.wrap (1+a1),IntKind.i64.wrap (1+a2),decide (a3=0),a4,?_⟩
 refine Zd Xs Ms Zbq Zuu (by show 1≤_;decide) ?_
 simp +contextual -implicitDefEqProofs (maxSteps:=10^7) only[go_sem,seval,↓gZ,Zbq,p1,p2,p3,p4]
def PEv (bs:List UInt8) (p:Nat) (r:AV×List Zt):Prop:=∃ (K L X Y W H pW pH:Int) (pT:Bool) (pK C o a q:Int) (t:Bool) (ks:List Zh) (p' : Nat),(K=0→I5 W∧I5 H)∧p≤p'∧p'≤p+10 ∧
 r=(.agg [(.d (J K)),(.d (J L)),(.d (J X)),(.d (J Y)),(.d (J W)),(.d (J H)),(.d (J pW)),(.d (J pH)),(.d (.bool pT)),(.d (J pK)),(.d (J C)),(.d (J o)),(.d (J a)),(.d (J q)),(.d (.bool t)),.own 1],[.box [.d (.sl (bs.map ZaP)),(.d (J (p')))],.row 5 (ks.map Zh.enc) true false])
theorem ZqF (bs:List UInt8) (hb:bs.length≤2000) (p:Nat) (hp:p<800000000) (sS:List Zb) (sO sD:List Zc) (sL sC:Int) (hv:WSh (Zo.mk sS sO sD sL sC)):∃ r,Zg Xs Ms Ui [.ptr 0 0,(.d (.agg [.sl (sS.map Zb.enc),.sl (sO.map Zc.enc),.sl (sD.map Zc.enc),J sL,J sC]))] [.box [.d (.sl (bs.map ZaP)),(.d (J p))]]=some r∧PEv bs p r:=by
 have h20:=hv.1.1
 have h8:=hv.2.2.2.1.1
 simp only at h20 h8
 have eL:=ZhV sS (by omega)
 have eN:=Zl9 sS sO sD sL sC hv
 have hnk:=fun e=>@ZcI (Zo.mk sS sO sD sL sC) sO 0 e
 generalize Ua sS=ll at eL
 refine ZsE Xs Ms Zx Zr3 (by show 2≤_;decide) ?_
 by_cases h0:(0:Int)<(sS.length:Int)
 ·have u0:=QC bs p sS.length hb (by omega)
  have u1:=Zco bs p sS.length
  have u2:=Zjg bs p sS.length (by omega)
  obtain⟨i,hi⟩:∃ i:Nat,Xr bs p (sS.length:Int)=(i:Int):=⟨(Xr bs p (sS.length:Int)).toNat,by omega⟩
  rw[hi] at u0 u2
  have hil:i<sS.length:=by omega
  obtain⟨x,hx⟩:=Zp hil
  obtain⟨lb,qW,qH,qF⟩:=x
  obtain⟨p1,hp1⟩:∃ p1,p1=p+1:=⟨_,rfl⟩
  rw[← hp1] at u0
  have c0:=QC bs p1 9 hb (by omega)
  generalize Xr bs p1 9=c at c0
  by_cases k01:c=0∨c=1
  ·obtain⟨W,hW,eW⟩:=Zec bs (p1+1) [20,12,30,8] hb (by omega) (by decide)
   obtain⟨H,hH,eH⟩:=Zec bs (p1+2) [16,10,24,8] hb (by omega) (by decide)
   have iW:I5 W:=by simp only[List.mem_cons,List.not_mem_nil,or_false] at hW;unfold I5;omega
   have iH:I5 H:=by simp only[List.mem_cons,List.not_mem_nil,or_false] at hH;unfold I5;omega
   simp only[List.map_cons,List.map_nil,ZbI] at eW eH
   rcases k01 with rfl | rfl
   ·simp +contextual -implicitDefEqProofs (maxSteps:=10^7) only[go_sem,seval,↓gZ,Zx,h0,u0,hil,hx,c0,eL,eW,eH]
    exact⟨0,(IntKind.i64.wrap (ll+1)),0,0,W,H,0,0,false,0,0,0,0,0,false,[],(p1+3),fun _=>⟨iW,iH⟩,by omega,by omega,rfl⟩
   ·simp +contextual -implicitDefEqProofs (maxSteps:=10^7) only[go_sem,seval,↓gZ,Zx,h0,u0,hil,hx,c0,eL,eW,eH]
    exact⟨0,(IntKind.i64.wrap (ll+1)),0,0,W,H,0,0,false,0,0,0,0,0,false,[],(p1+3),fun _=>⟨iW,iH⟩,by omega,by omega,rfl⟩
  ·have k0:¬c=0:=fun h=>k01 (.inl h)
   have k1:¬c=1:=fun h=>k01 (.inr h)
   by_cases k2:c=2
   ·obtain⟨X,Y,W,H,eB⟩:=ZlZ bs hb (p1+1) (by omega) 8 8
    subst k2
    simp +contextual -implicitDefEqProofs (maxSteps:=10^7) only[go_sem,seval,↓gZ,Zx,h0,u0,hil,hx,c0,eB]
    exact⟨1,lb,X,Y,W,H,0,0,false,0,0,0,0,0,false,[],(p1+5),(fun e=>by cases e),by omega,by omega,rfl⟩
   ·by_cases k34:c=3∨c=4
    ·obtain⟨W,H,T,K,eP⟩:=ZjL bs hb (p1+1) (by omega)
     have c5:=QC bs (p1+5) 3 hb (by omega)
     generalize Xr bs (p1+5) 3=v at c5
     rcases k34 with rfl | rfl
     ·simp +contextual -implicitDefEqProofs (maxSteps:=10^7) only[go_sem,seval,↓gZ,Zx,h0,u0,hil,hx,c0,eP,c5]
      exact⟨2,0,0,0,0,0,W,H,T,K,(IntKind.i64.wrap (1+v)),0,0,0,false,[],(p1+6),(fun e=>by cases e),by omega,by omega,rfl⟩
     ·simp +contextual -implicitDefEqProofs (maxSteps:=10^7) only[go_sem,seval,↓gZ,Zx,h0,u0,hil,hx,c0,eP,c5]
      exact⟨2,0,0,0,0,0,W,H,T,K,(IntKind.i64.wrap (1+v)),0,0,0,false,[],(p1+6),(fun e=>by cases e),by omega,by omega,rfl⟩
    ·have k3:¬c=3:=fun h=>k34 (.inl h)
     have k4:¬c=4:=fun h=>k34 (.inr h)
     by_cases k5:c=5
     ·subst k5
      by_cases hd:(0:Int)<(sD.length:Int)
      ·have d0:=QC bs (p1+1) sD.length hb (by omega)
       have d1:=Zco bs (p1+1) sD.length
       have d2:=Zjg bs (p1+1) sD.length (by omega)
       obtain⟨j,hj⟩:∃ j:Nat,Xr bs (p1+1) (sD.length:Int)=(j:Int):=⟨(Xr bs (p1+1) (sD.length:Int)).toNat,by omega⟩
       rw[hj] at d0 d2
       have hjl:j<sD.length:=by omega
       obtain⟨z,hz⟩:=Zp hjl
       obtain⟨⟨W,H,T,K⟩,C⟩:=z
       have d3:=QC bs (p1+2) C hb (by omega)
       generalize Xr bs (p1+2) C=v at d3
       simp +contextual -implicitDefEqProofs (maxSteps:=10^7) only[go_sem,seval,↓gZ,Zx,h0,u0,hil,hx,c0,hd,d0,hjl,hz,d3]
       exact⟨4,0,0,0,0,0,W,H,T,K,(IntKind.i64.wrap (1+v)),0,0,0,false,[],(p1+3),(fun e=>by cases e),by omega,by omega,rfl⟩
      ·skip
       cases hN:Wh (Zo.mk sS sO sD sL sC) with
       | none=>
        rw[hN] at eN
        unfold nxV at eN
        simp +contextual -implicitDefEqProofs (maxSteps:=10^7) only[go_sem,seval,↓gZ,Zx,h0,u0,hil,hx,c0,hd,eN,eL]
        exact⟨0,(IntKind.i64.wrap (ll+2)),0,0,15,11,0,0,false,0,0,0,0,0,false,[],(p1+1),fun _=>⟨by unfold I5;omega,by unfold I5;omega⟩,by omega,by omega,rfl⟩
       | some e=>
        have hk:=hnk e hN
        rw[hN] at eN
        obtain⟨k,l,⟨x,y,w,h⟩,⟨⟨pw,ph,pt,pk⟩,c9⟩,⟨o,a,q,t,ks⟩⟩:=e
        unfold nxV at eN
        simp only at eN hk
        simp +contextual -implicitDefEqProofs (maxSteps:=10^7) only[go_sem,seval,↓gZ,Zx,h0,u0,hil,hx,c0,hd,eN]
        exact⟨k,l,x,y,w,h,pw,ph,pt,pk,c9,o,a,q,t,ks,(p1+1),fun e=>by omega,by omega,by omega,rfl⟩
     ·by_cases k6:c=6
      ·subst k6
       have d3:=QC bs (p1+1) 3 hb (by omega)
       generalize Xr bs (p1+1) 3=v at d3
       by_cases hv0:v=0
       ·subst hv0
        simp +contextual -implicitDefEqProofs (maxSteps:=10^7) only[go_sem,seval,↓gZ,Zx,h0,u0,hil,hx,c0,d3]
        exact⟨5,lb,0,0,0,0,0,0,false,0,0,0,0,0,false,[],(p1+2),(fun e=>by cases e),by omega,by omega,rfl⟩
       ·skip
        cases hN:Wh (Zo.mk sS sO sD sL sC) with
        | none=>
         rw[hN] at eN
         unfold nxV at eN
         simp +contextual -implicitDefEqProofs (maxSteps:=10^7) only[go_sem,seval,↓gZ,Zx,h0,u0,hil,hx,c0,d3,hv0,eN,eL]
         exact⟨0,(IntKind.i64.wrap (ll+2)),0,0,15,11,0,0,false,0,0,0,0,0,false,[],(p1+2),fun _=>⟨by unfold I5;omega,by unfold I5;omega⟩,by omega,by omega,rfl⟩
        | some e=>
         have hk:=hnk e hN
         rw[hN] at eN
         obtain⟨k,l,⟨x,y,w,h⟩,⟨⟨pw,ph,pt,pk⟩,c9⟩,⟨o,a,q,t,ks⟩⟩:=e
         unfold nxV at eN
         simp only at eN hk
         simp +contextual -implicitDefEqProofs (maxSteps:=10^7) only[go_sem,seval,↓gZ,Zx,h0,u0,hil,hx,c0,d3,hv0,eN]
         exact⟨k,l,x,y,w,h,pw,ph,pt,pk,c9,o,a,q,t,ks,(p1+2),fun e=>by omega,by omega,by omega,rfl⟩
      ·skip
       cases hN:Wh (Zo.mk sS sO sD sL sC) with
       | none=>
        rw[hN] at eN
        unfold nxV at eN
        simp +contextual -implicitDefEqProofs (maxSteps:=10^7) only[go_sem,seval,↓gZ,Zx,h0,u0,hil,hx,c0,k0,k1,k2,k3,k4,k5,k6,eN,eL]
        exact⟨0,(IntKind.i64.wrap (ll+2)),0,0,15,11,0,0,false,0,0,0,0,0,false,[],(p1+1),fun _=>⟨by unfold I5;omega,by unfold I5;omega⟩,by omega,by omega,rfl⟩
       | some e=>
        have hk:=hnk e hN
        rw[hN] at eN
        obtain⟨k,l,⟨x,y,w,h⟩,⟨⟨pw,ph,pt,pk⟩,c9⟩,⟨o,a,q,t,ks⟩⟩:=e
        unfold nxV at eN
        simp only at eN hk
        simp +contextual -implicitDefEqProofs (maxSteps:=10^7) only[go_sem,seval,↓gZ,Zx,h0,u0,hil,hx,c0,k0,k1,k2,k3,k4,k5,k6,eN]
        exact⟨k,l,x,y,w,h,pw,ph,pt,pk,c9,o,a,q,t,ks,(p1+1),fun e=>by omega,by omega,by omega,rfl⟩
 ·skip
  have c0:=QC bs p 9 hb (by omega)
  generalize Xr bs p 9=c at c0
  by_cases k01:c=0∨c=1
  ·obtain⟨W,hW,eW⟩:=Zec bs (p+1) [20,12,30,8] hb (by omega) (by decide)
   obtain⟨H,hH,eH⟩:=Zec bs (p+2) [16,10,24,8] hb (by omega) (by decide)
   have iW:I5 W:=by simp only[List.mem_cons,List.not_mem_nil,or_false] at hW;unfold I5;omega
   have iH:I5 H:=by simp only[List.mem_cons,List.not_mem_nil,or_false] at hH;unfold I5;omega
   simp only[List.map_cons,List.map_nil,ZbI] at eW eH
   rcases k01 with rfl | rfl
   ·simp +contextual -implicitDefEqProofs (maxSteps:=10^7) only[go_sem,seval,↓gZ,Zx,h0,c0,eL,eW,eH]
    exact⟨0,(IntKind.i64.wrap (ll+1)),0,0,W,H,0,0,false,0,0,0,0,0,false,[],(p+3),fun _=>⟨iW,iH⟩,by omega,by omega,rfl⟩
   ·simp +contextual -implicitDefEqProofs (maxSteps:=10^7) only[go_sem,seval,↓gZ,Zx,h0,c0,eL,eW,eH]
    exact⟨0,(IntKind.i64.wrap (ll+1)),0,0,W,H,0,0,false,0,0,0,0,0,false,[],(p+3),fun _=>⟨iW,iH⟩,by omega,by omega,rfl⟩
  ·have k0:¬c=0:=fun h=>k01 (.inl h)
   have k1:¬c=1:=fun h=>k01 (.inr h)
   by_cases k2:c=2
   ·obtain⟨X,Y,W,H,eB⟩:=ZlZ bs hb (p+1) (by omega) 8 8
    subst k2
    simp +contextual -implicitDefEqProofs (maxSteps:=10^7) only[go_sem,seval,↓gZ,Zx,h0,c0,eB]
    exact⟨1,1,X,Y,W,H,0,0,false,0,0,0,0,0,false,[],(p+5),(fun e=>by cases e),by omega,by omega,rfl⟩
   ·by_cases k34:c=3∨c=4
    ·obtain⟨W,H,T,K,eP⟩:=ZjL bs hb (p+1) (by omega)
     have c5:=QC bs (p+5) 3 hb (by omega)
     generalize Xr bs (p+5) 3=v at c5
     rcases k34 with rfl | rfl
     ·simp +contextual -implicitDefEqProofs (maxSteps:=10^7) only[go_sem,seval,↓gZ,Zx,h0,c0,eP,c5]
      exact⟨2,0,0,0,0,0,W,H,T,K,(IntKind.i64.wrap (1+v)),0,0,0,false,[],(p+6),(fun e=>by cases e),by omega,by omega,rfl⟩
     ·simp +contextual -implicitDefEqProofs (maxSteps:=10^7) only[go_sem,seval,↓gZ,Zx,h0,c0,eP,c5]
      exact⟨2,0,0,0,0,0,W,H,T,K,(IntKind.i64.wrap (1+v)),0,0,0,false,[],(p+6),(fun e=>by cases e),by omega,by omega,rfl⟩
    ·have k3:¬c=3:=fun h=>k34 (.inl h)
     have k4:¬c=4:=fun h=>k34 (.inr h)
     by_cases k5:c=5
     ·subst k5
      by_cases hd:(0:Int)<(sD.length:Int)
      ·have d0:=QC bs (p+1) sD.length hb (by omega)
       have d1:=Zco bs (p+1) sD.length
       have d2:=Zjg bs (p+1) sD.length (by omega)
       obtain⟨j,hj⟩:∃ j:Nat,Xr bs (p+1) (sD.length:Int)=(j:Int):=⟨(Xr bs (p+1) (sD.length:Int)).toNat,by omega⟩
       rw[hj] at d0 d2
       have hjl:j<sD.length:=by omega
       obtain⟨z,hz⟩:=Zp hjl
       obtain⟨⟨W,H,T,K⟩,C⟩:=z
       have d3:=QC bs (p+2) C hb (by omega)
       generalize Xr bs (p+2) C=v at d3
       simp +contextual -implicitDefEqProofs (maxSteps:=10^7) only[go_sem,seval,↓gZ,Zx,h0,c0,hd,d0,hjl,hz,d3]
       exact⟨4,0,0,0,0,0,W,H,T,K,(IntKind.i64.wrap (1+v)),0,0,0,false,[],(p+3),(fun e=>by cases e),by omega,by omega,rfl⟩
      ·skip
       cases hN:Wh (Zo.mk sS sO sD sL sC) with
       | none=>
        rw[hN] at eN
        unfold nxV at eN
        simp +contextual -implicitDefEqProofs (maxSteps:=10^7) only[go_sem,seval,↓gZ,Zx,h0,c0,hd,eN,eL]
        exact⟨0,(IntKind.i64.wrap (ll+2)),0,0,15,11,0,0,false,0,0,0,0,0,false,[],(p+1),fun _=>⟨by unfold I5;omega,by unfold I5;omega⟩,by omega,by omega,rfl⟩
       | some e=>
        have hk:=hnk e hN
        rw[hN] at eN
        obtain⟨k,l,⟨x,y,w,h⟩,⟨⟨pw,ph,pt,pk⟩,c9⟩,⟨o,a,q,t,ks⟩⟩:=e
        unfold nxV at eN
        simp only at eN hk
        simp +contextual -implicitDefEqProofs (maxSteps:=10^7) only[go_sem,seval,↓gZ,Zx,h0,c0,hd,eN]
        exact⟨k,l,x,y,w,h,pw,ph,pt,pk,c9,o,a,q,t,ks,(p+1),fun e=>by omega,by omega,by omega,rfl⟩
     ·by_cases k6:c=6
      ·subst k6
       have d3:=QC bs (p+1) 3 hb (by omega)
       generalize Xr bs (p+1) 3=v at d3
       by_cases hv0:v=0
       ·subst hv0
        simp +contextual -implicitDefEqProofs (maxSteps:=10^7) only[go_sem,seval,↓gZ,Zx,h0,c0,d3]
        exact⟨5,1,0,0,0,0,0,0,false,0,0,0,0,0,false,[],(p+2),(fun e=>by cases e),by omega,by omega,rfl⟩
       ·skip
        cases hN:Wh (Zo.mk sS sO sD sL sC) with
        | none=>
         rw[hN] at eN
         unfold nxV at eN
         simp +contextual -implicitDefEqProofs (maxSteps:=10^7) only[go_sem,seval,↓gZ,Zx,h0,c0,d3,hv0,eN,eL]
         exact⟨0,(IntKind.i64.wrap (ll+2)),0,0,15,11,0,0,false,0,0,0,0,0,false,[],(p+2),fun _=>⟨by unfold I5;omega,by unfold I5;omega⟩,by omega,by omega,rfl⟩
        | some e=>
         have hk:=hnk e hN
         rw[hN] at eN
         obtain⟨k,l,⟨x,y,w,h⟩,⟨⟨pw,ph,pt,pk⟩,c9⟩,⟨o,a,q,t,ks⟩⟩:=e
         unfold nxV at eN
         simp only at eN hk
         simp +contextual -implicitDefEqProofs (maxSteps:=10^7) only[go_sem,seval,↓gZ,Zx,h0,c0,d3,hv0,eN]
         exact⟨k,l,x,y,w,h,pw,ph,pt,pk,c9,o,a,q,t,ks,(p+2),fun e=>by omega,by omega,by omega,rfl⟩
      ·skip
       cases hN:Wh (Zo.mk sS sO sD sL sC) with
       | none=>
        rw[hN] at eN
        unfold nxV at eN
        simp +contextual -implicitDefEqProofs (maxSteps:=10^7) only[go_sem,seval,↓gZ,Zx,h0,c0,k0,k1,k2,k3,k4,k5,k6,eN,eL]
        exact⟨0,(IntKind.i64.wrap (ll+2)),0,0,15,11,0,0,false,0,0,0,0,0,false,[],(p+1),fun _=>⟨by unfold I5;omega,by unfold I5;omega⟩,by omega,by omega,rfl⟩
       | some e=>
        have hk:=hnk e hN
        rw[hN] at eN
        obtain⟨k,l,⟨x,y,w,h⟩,⟨⟨pw,ph,pt,pk⟩,c9⟩,⟨o,a,q,t,ks⟩⟩:=e
        unfold nxV at eN
        simp only at eN hk
        simp +contextual -implicitDefEqProofs (maxSteps:=10^7) only[go_sem,seval,↓gZ,Zx,h0,c0,k0,k1,k2,k3,k4,k5,k6,eN]
        exact⟨k,l,x,y,w,h,pw,ph,pt,pk,c9,o,a,q,t,ks,(p+1),fun e=>by omega,by omega,by omega,rfl⟩
theorem Zk3:ZH ⟨[],[],[],0,0⟩:=by
 refine⟨⟨by simp,trivial⟩,⟨by simp,trivial,by simp[Z4]⟩,⟨by simp,trivial,by simp[Z4]⟩,?_⟩
 simp[VC,Xx]
def PBook (bs:List UInt8) (p:Nat) (r:AV×List Zt):Prop:=∃ (out:List ZF) (S:List Zb) (O D:List Zc) (L C:Int) (f:Bool) (p' : Nat),ZH ⟨S,O,D,L,C⟩∧out.length≤16∧p≤p'∧p'≤p+200 ∧
 r=(.tup [.own 1,.agg [.own 2,.own 3,.own 4,(.d (J L)),(.d (J C))]],[.box [.d (.sl (bs.map ZaP)),(.d (J (p')))],.row 16 (out.map ZF.enc) true false,.row 4 (S.map Zb.enc) true f,.row 5 (O.map Zc.enc) true f,.row 5 (D.map Zc.enc) true f])
theorem ZrS (bs:List UInt8) (hb:bs.length≤2000) (p:Nat) (hp:p<700000000) (most:Int):∃ r,Zg Xs Ms Jq [.ptr 0 0,(.d (J most))] [.box [.d (.sl (bs.map ZaP)),(.d (J p))]]=some r∧PBook bs p r:=by
 obtain⟨n,hn,eN⟩:=Zec bs p [8,12,5,16,0,2] hb (by omega) (by decide)
 have hn' : 0≤n∧n≤16:=by simp only[List.mem_cons,List.not_mem_nil,or_false] at hn;omega
 simp only[List.map_cons,List.map_nil,ZbI] at eN
 refine ZsE Xs Ms Zbp Zut (by show 2≤_;decide) ?_
 simp +contextual -implicitDefEqProofs (maxSteps:=10^7) only[go_sem,seval,↓gZ,Zbp,eN]
 refine Zr Xs Ms (st0:=?st0) (α:=Int×List ZF×Zo×Nat×Bool) (fun s=>[(8,.d (J s.1))]) (fun s=>[(0,.box [.d (.sl (bs.map ZaP)),(.d (J (s.2.2.2.1)))]),(1,.row 16 (s.2.1.map ZF.enc) true false),(2,.box [.own 4,.own 5,.own 6,(.d (J (s.2.2.1.Lost))),(.d (J (s.2.2.1.Came)))]),(4,.row 4 (s.2.2.1.Stock.map Zb.enc) true s.2.2.2.2),(5,.row 5 (s.2.2.1.Opn.map Zc.enc) true s.2.2.2.2),(6,.row 5 (s.2.2.1.Done.map Zc.enc) true s.2.2.2.2)]) (fun s=>0≤s.1∧s.1≤16∧(s.2.1.length:Int)≤16-s.1∧ZH s.2.2.1∧p+1≤s.2.2.2.1∧(s.2.2.2.1:Int)≤p+1+10*(16-s.1)) (fun s=>s.1.toNat) (n,[],⟨[],[],[],0,0⟩,p+1,false) ?hc ⟨hn'.1,hn'.2,by simp;omega,Zk3,by simp,by simp;omega⟩ ?h0 ?step
 case hc=>simp +contextual -implicitDefEqProofs (maxSteps:=10^7) only[go_sem,seval,↓gZ]<;>exact rfl
 case h0=>rfl
 case step=>
  intro⟨m,out,⟨S,O,D,L,C⟩,pp,f⟩ ⟨i1,i2,i3,i4,i5,i6⟩ ih
  simp only at i1 i2 i3 i4 i5 i6
  by_cases hm:0<m
  ·by_cases ho:(out.length:Int)<most
   ·obtain⟨r,eE,K,Lb,X,Y,W,H,pW,pH,pT,pK,Ct,o,a,q,t,ks,p',g1,g2,g3,rfl⟩:=ZqF bs hb pp (by omega) S O D L C (Zl6 i4)
    have ea:=Zou S O D L C K Lb X Y W H pW pH pT pK Ct o a q t ks i4 (fun e=>(g1 e).1) (fun e=>(g1 e).2)
    have hw:=wi (m-1) (by omega) (by omega)
    have hr:(out.length+1)*144≤140737488355328∧out.length≤140737488355327:=by omega
    cases hap:QK ⟨S,O,D,L,C⟩ ⟨K,Lb,⟨X,Y,W,H⟩,⟨⟨pW,pH,pT,pK⟩,Ct⟩,.mk o a q t ks⟩ with
    | none=>
     rw[hap] at ea
     unfold shV at ea
     simp +contextual -implicitDefEqProofs (maxSteps:=10^7) only[go_sem,seval,↓gZ,hm,ho,eE,ea,hw,hr]
     refine ih (m-1,out,⟨S,O,D,L,C⟩,p',true) _ ⟨by simp only;omega,by simp only;omega,by simp only;omega,i4,by simp only;omega,by simp only;omega⟩ (by simp only;omega) ?_
     simp +contextual -implicitDefEqProofs (maxSteps:=10^7) only[go_sem,seval,↓gZ]
    | some u=>
     have hvu:=Zgx hap
     rw[hap] at ea
     obtain⟨S',O',D',L',C'⟩:=u
     unfold shV at ea
     simp only at ea
     simp +contextual -implicitDefEqProofs (maxSteps:=10^7) only[go_sem,seval,↓gZ,hm,ho,eE,ea,hw,hr]
     refine ih (m-1,out++[⟨K,Lb,⟨X,Y,W,H⟩,⟨⟨pW,pH,pT,pK⟩,Ct⟩,.mk o a q t ks⟩],⟨S',O',D',L',C'⟩,p',false) _ ⟨by simp only;omega,by simp only;omega,by simp only[List.length_append,List.length_cons,List.length_nil];omega,hvu,by simp only;omega,by simp only;omega⟩ (by simp only;omega) ?_
     simp +contextual -implicitDefEqProofs (maxSteps:=10^7) only[go_sem,seval,↓gZ,List.map_append]
   ·simp +contextual -implicitDefEqProofs (maxSteps:=10^7) only[go_sem,seval,↓gZ,hm,ho]
    exact⟨out,S,O,D,L,C,f,pp,i4,by omega,by omega,by omega,rfl⟩
  ·simp +contextual -implicitDefEqProofs (maxSteps:=10^7) only[go_sem,seval,↓gZ,hm]
   exact⟨out,S,O,D,L,C,f,pp,i4,by omega,by omega,by omega,rfl⟩
abbrev AnyS (s:Zo):Prop:=WSh s
theorem Zv3 {s:Zo} (h:AnyS s):SmS s:=Zuj h
theorem Zzl {s:Zo} (h:ZH s):AnyS s:=Zl6 h
def PAny (bs:List UInt8) (p:Nat) (r:AV×List Zt):Prop:=∃ (S:List Zb) (O D:List Zc) (L C:Int) (f g h:Bool) (p' : Nat),AnyS ⟨S,O,D,L,C⟩∧p≤p'∧p'≤p+300 ∧
 r=(.agg [.own 1,.own 2,.own 3,(.d (J L)),(.d (J C))],[.box [.d (.sl (bs.map ZaP)),(.d (J (p')))],.row 4 (S.map Zb.enc) true f,.row 5 (O.map Zc.enc) true g,.row 5 (D.map Zc.enc) true h])
theorem Zuk (bs:List UInt8) (hb:bs.length≤2000) (p:Nat) (hp:p<600000000):∃ r,Zg Xs Ms ZaL [.ptr 0 0] [.box [.d (.sl (bs.map ZaP)),(.d (J p))]]=some r∧PAny bs p r:=by
 obtain⟨r,eB,out,S,O,D,L,C,f,p',hv,h1,h2,h3,rfl⟩:=ZrS bs hb p (by omega) 20
 have hany:=Zzl hv
 obtain⟨_,hO,_,hL1,hL2,hC1,hC2,_⟩:=hv
 have hO8:=hO.1
 obtain⟨a1,a2,a3,a3',a4,a5,a6,a7⟩:=hany
 simp only at a1 a2 a3 a3' a4 a5 a6 a7 hO8 hL2
 have c0:=QC bs p' 20 hb (by omega)
 generalize Xr bs p' 20=c at c0
 refine ZsE Xs Ms WL Zwk (by show 1≤_;decide) ?_
 by_cases k0:c=0
 ·subst k0
  have w:=wi (L+1) (by omega) (by omega)
  simp +contextual -implicitDefEqProofs (maxSteps:=10^7) only[go_sem,seval,↓gZ,WL,eB,c0,w]
  exact⟨S,O,D,L+1,C,_,_,_,p'+1,⟨a1,a2,a3,a3',by simp only;omega,by simp only;omega,a6,a7⟩,by omega,by omega,rfl⟩
 ·by_cases k1:c=1
  ·subst k1
   obtain⟨v,hv1,eV⟩:=Zec bs (p'+1) [-1,900001,0] hb (by omega) (by decide)
   have hvb : -1≤v∧v≤900001:=by simp only[List.mem_cons,List.not_mem_nil,or_false] at hv1;omega
   simp only[List.map_cons,List.map_nil,ZbI] at eV
   simp +contextual -implicitDefEqProofs (maxSteps:=10^7) only[go_sem,seval,↓gZ,WL,eB,c0,eV]
   exact⟨S,O,D,L,v,_,_,_,p'+2,⟨a1,a2,a3,a3',a4,a5,hvb.1,hvb.2⟩,by omega,by omega,rfl⟩
  ·by_cases k2:c=2
   ·subst k2
    have r1:O.length*40≤140737488355328∧O.length≤140737488355328:=by omega
    have r2:(O.length+1)*40≤140737488355328∧O.length≤140737488355327:=by omega
    simp +contextual -implicitDefEqProofs (maxSteps:=10^7) only[go_sem,seval,↓gZ,WL,ZpU,eB,c0,r1,r2]
    refine⟨S,O++[⟨⟨1,1,false,0⟩,0⟩],D,L,C,f,false,f,p'+1,⟨a1,by simp only[List.length_append,List.length_cons,List.length_nil];omega,fun x hx=>by
     rcases List.mem_append.1 hx with hx | hx
     ·exact a3 x hx
     ·rw[List.mem_singleton.1 hx];simp only[VP];omega,a3',a4,a5,a6,a7⟩,by omega,by omega,?_⟩
    simp[Zc.enc]
   ·simp +contextual -implicitDefEqProofs (maxSteps:=10^7) only[go_sem,seval,↓gZ,WL,eB,c0,k0,k1,k2]
    exact⟨S,O,D,L,C,_,_,_,p'+1,⟨a1,a2,a3,a3',a4,a5,a6,a7⟩,by omega,by omega,rfl⟩
def Zyn (s:Zo) (n:Int):Option ZD:=if ZH s then (match Zv1 s.Stock n with
 | some (_,q)=>some ⟨q.W,q.H,s.Opn.map Zc.Pane⟩
 | none=>none) else none
def wkV:Option ZD→AV×List Zt
 | some k=>(.tup [.agg [(.d (J (k.W))),(.d (J (k.H))),.own 0],(.d (.bool true))],[.row 4 (k.Panes.map Pane.enc) true false])
 | none=>(.tup [.agg [(.d (J 0)),(.d (J 0)),.own 0],(.d (.bool false))],[.row 4 [] true false])
theorem Zma (sS:List Zb) (sO sD:List Zc) (sL sC:Int) (n:Int):Zg Xs Ms US [(.d (.agg [.sl (sS.map Zb.enc),.sl (sO.map Zc.enc),.sl (sD.map Zc.enc),J sL,J sC])),(.d (J n))] []=some (wkV (Zyn (Zo.mk sS sO sD sL sC) n)):=by
 have e1:=ZN sS sO sD sL sC
 unfold Zyn
 by_cases hv:ZH (Zo.mk sS sO sD sL sC)
 ·rw[decide_eq_true hv] at e1
  rw[if_pos hv]
  have h20:=hv.1.1
  have h8:=hv.2.1.1
  simp only at h20 h8
  have e2:=Y4 sS n (by omega)
  by_cases hf:QJ 0 sS n<0
  ·rw[ZfD hf]
   unfold wkV
   refine Zd Xs Ms VS Zib (by show 2≤_;decide) ?_
   simp +contextual -implicitDefEqProofs (maxSteps:=10^7) only[go_sem,seval,↓gZ,VS,e1,e2,hf]
  ·obtain⟨a,x,ha,hx⟩:=ZcC (by omega:0≤QJ 0 sS n)
   rw[ZdH ha hx]
   rw[ha] at e2
   have ha0:¬(a:Int)<0:=by omega
   have hlt:=(List.getElem?_eq_some_iff.1 hx).1
   obtain⟨xL,xW,xH,xF⟩:=x
   unfold wkV
   refine Zd Xs Ms VS Zib (by show 2≤_;decide) ?_
   simp +contextual -implicitDefEqProofs (maxSteps:=10^7) only[go_sem,seval,↓gZ,VS,e1,e2,ha0,hlt,hx]
   refine Zr Xs Ms (st0:=?st0) (α:=Nat) (fun i=>[(37,.d (J (i:Int)))]) (fun i=>[(2,.row 4 (((sO.take i).map Zc.Pane).map Pane.enc) true false)]) (fun i=>i≤sO.length) (fun i=>sO.length-i) 0 ?hc (by omega) ?h0 ?step
   case hc=>simp +contextual -implicitDefEqProofs (maxSteps:=10^7) only[go_sem,seval,↓gZ]<;>exact rfl
   case h0=>rfl
   case step=>
    intro i hi ih
    by_cases hlt:i<sO.length
    ·obtain⟨x,hx⟩:=Zp hlt
     have hw:=Zl (k:=i) (by omega)
     have hm:=Zb3 hx
     have hlk:(sO.take i).length≤i:=by simp;omega
     have hr:((sO.take i).length+1)*32≤140737488355328∧(sO.take i).length≤140737488355327:=by omega
     obtain⟨⟨W,H,T,K⟩,C⟩:=x
     simp only at hm
     simp +contextual -implicitDefEqProofs (maxSteps:=10^7) only[go_sem,seval,↓gZ,hx,hlt,hw,hr]
     refine ih (i+1) _ (by omega) (by omega) ?_
     simp +contextual -implicitDefEqProofs (maxSteps:=10^7) only[go_sem,seval,↓gZ,hm]
     first | rfl | (simp;done) | (simp;rfl)
    ·have:i=sO.length:=by omega
     subst this
     simp +contextual -implicitDefEqProofs (maxSteps:=10^7) only[go_sem,seval,↓gZ]
     simp
 ·rw[decide_eq_false hv] at e1
  rw[if_neg hv]
  unfold wkV
  refine Zd Xs Ms VS Zib (by show 2≤_;decide) ?_
  simp +contextual -implicitDefEqProofs (maxSteps:=10^7) only[go_sem,seval,↓gZ,VS,e1]
end Go.Proofs.YtpobhkoombldlaaGreat
