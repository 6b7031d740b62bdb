/- Own text. -/
import Derived.Test.YtnachaiejoflhaaCCode
import Derived.Test.YtnachaiejoflhaaAbsParts
import Derived.Test.YtnachaiejoflhaaAbsOkD
import Derived.Test.YtnachaiejoflhaaCC4
import Derived.Test.YtnachaiejoflhaaCC6
namespace Go.Proofs.Ytnachaiejoflhaa
open Go Go.Abs Go.Abs.E Go.Abs.L
open Nat (reduceMul reduceSub reduceLeDiff reduceEqDiff)
open Int (reduceLE reduceEq reduceToNat reduceNeg)
set_option linter.unusedSimpArgs false
set_option linter.unusedVariables false
set_option maxRecDepth 20000
set_option maxHeartbeats 4000000
end Go.Proofs.Ytnachaiejoflhaa
namespace Go.Proofs.Ytnachaiejoflhaa
open Go Go.Abs Go.Abs.E Go.Abs.L
open Nat (reduceMul reduceSub reduceLeDiff reduceEqDiff)
open Int (reduceLE reduceEq reduceToNat reduceNeg)
set_option linter.unusedSimpArgs false
set_option linter.unusedVariables false
set_option maxRecDepth 20000
set_option maxHeartbeats 4000000
abbrev nL (ks:List Zj):Nat:=Zj.nodes.nodesL ks
theorem Zj2:∀ ks:List Zj,ks.length≤nL ks
 | []=>Ke _
 | .mk o a p t q :: r=>by have:=Zj2 r;simp only[nL,Zj.nodes.nodesL,Zj.nodes,KC] at this ⊢;omega
theorem Zj3 (ks:List Zj) (hk:ks.length≤1048576) (ih:∀ k∈ks,Zi Xs Ms Xk [.d k.enc,.d k.enc] []=some ((.d (.bool true)),[])) :
  Zi Xs Ms Wl [(.d (.sl (ks.map Zj.enc))),(.d (.sl (ks.map Zj.enc)))] []=some ((.d (.bool true)),[]):=by
 refine cE ?_;simp +contextual -implicitDefEqProofs (maxSteps:=10^7) only[go_sem,seval,↓gZ,Za2];refine LO (α:=Nat) (fun k=>[(5,.d (J (k:Int)))]) (fun _=>[]) (fun k=>k≤ks.length) (fun k=>ks.length-k) 0 (by omega) ?_;intro k ae ad;by_cases ab:k<ks.length
 ·obtain⟨x,hx⟩:=Qt ab;have aa : (k:Int)<(ks.length:Int):=by omega
  have w1:=ZB (k:=k) (by omega);have e1:=ih x (Ki hx);obtain⟨o,a,q,t,af⟩:=x;rw[Zj.enc_mk] at e1;simp +contextual -implicitDefEqProofs (maxSteps:=10^7) only[go_sem,seval,↓gZ,aa,ab,hx,w1,e1];refine ad (k+1) _ (by omega) (by omega) ?_;simp +contextual -implicitDefEqProofs (maxSteps:=10^7) only[go_sem,seval,↓gZ]
 ·have:k=ks.length:=by omega
  subst this;simp +contextual -implicitDefEqProofs (maxSteps:=10^7) only[go_sem,seval,↓gZ]
theorem Zdp:∀ (n:Nat) (p:Zj),p.nodes≤n→p.nodes≤1048577→Zi Xs Ms Xk [.d p.enc,.d p.enc] []=some ((.d (.bool true)),[])
 | 0,.mk o a p t ks,hn,_=>by simp[Zj.nodes] at hn
 | n+1,.mk o a p t ks,hn,hb=>by
  have hl:=Zj2 ks;have aa : nL ks≤1048576:=by simp only[Zj.nodes] at hb;simp only[nL];omega
  have e1:=Zj3 ks (by omega) (fun k ab=>by
   obtain⟨i,hi⟩:=List.mem_iff_getElem?.1 ab;have:=W8 hi;exact Zdp n k (Zol hn hi) (by simp only[nL] at aa;omega))
  rw[Zj.enc_mk];refine cE ?_;simp +contextual -implicitDefEqProofs (maxSteps:=10^7) only[go_sem,seval,↓gZ,Zcs,e1,bNe,bne_self_eq_false]
theorem ZhI (o a q:Int) (t:Bool) (ks:List Zj) (h:nL ks≤1048576):Zi Xs Ms Xk [.d (.agg [J o,J a,J q,.bool t,.sl (ks.map Zj.enc)]),.d (.agg [J o,J a,J q,.bool t,.sl (ks.map Zj.enc)])] []=some ((.d (.bool true)),[]):=by
 have:=Zdp _ (.mk o a q t ks) (Ke _) (by simp only[Zj.nodes,nL] at h ⊢;omega)
 rwa [Zj.enc_mk] at this
mutual
def Zj4:Zj→Int→Zj
 | .mk _ _ _ _ ks,k=>.mk k (k+1) (k+1+1) (decide ((k+1+1+1).tmod 3=0)) (Wg ks (k+1+1+1+1))
def Wg:List Zj→Int→List Zj
 | [],_=>[]
 | p :: r,k=>Zj4 p k :: Wg r (k+((4*p.nodes:Nat):Int))
end
def plC (p:Zj):Nat:=4*p.nodes
theorem ZaY:∀ (l:List Zj) (k:Int),Wg l k=J3 Zj4 plC l k
 | [],_=>by rw[Wg];rfl
 | p :: r,k=>by rw[Wg,J3,ZaY r];rfl
theorem Zd3:∀ l:List Zj,Q8 plC l=4*nL l
 | []=>rfl
 | p :: r=>by rw[Q8,Zd3 r];simp only[plC,nL,Zj.nodes.nodesL];omega
theorem Zg9 (ks:List Zj) (hk:nL ks≤4194304) (ih:∀ x∈ks,∀ o a p t kk,x=.mk o a p t kk→∀ K:Int,0≤K→K+((4*nL kk:Nat):Int)≤281474976710656→Zi Xs Ms ZA [.own 0,(.d (J K))] [.tree 5 5 (kk.map Zj.enc) none]=some ((.d (J (K+((4*nL kk:Nat):Int)))),[.tree 5 5 ((Wg kk K).map Zj.enc) none])) (k:Int) (h0:0≤k) (h1:k+((4*nL ks:Nat):Int)≤281474976710656) :
  Zi Xs Ms ZA [.own 0,(.d (J k))] [.tree 5 5 (ks.map Zj.enc) none]=some ((.d (J (k+((4*nL ks:Nat):Int)))),[.tree 5 5 ((Wg ks k).map Zj.enc) none]):=by
 have af:=Zd3 ks;have al:=Zj2 ks;refine cE ?_;simp +contextual -implicitDefEqProofs (maxSteps:=10^7) only[go_sem,seval,↓gZ,V6];refine Xc Xs Ms (st0:=?st0) (α:=Nat) (fun i=>[(5,.d (J (i:Int))),(1,.d (J (k+(Q8 plC (ks.take i):Nat))))]) (fun i=>[(0,.tree 5 5 ((Ze3 Zj4 plC k ks i).map Zj.enc) none)]) (fun i=>i≤ks.length) (fun i=>ks.length-i) 0 ?hc (by omega) ?h0 ?step
 case hc=>simp +contextual -implicitDefEqProofs (maxSteps:=10^7) only[go_sem,seval,↓gZ]<;>exact rfl
 case h0=>simp only[ZoI,List.take_zero,Q8,Lp,LN];rfl
 case step=>
  intro i hi ag;have ah:=ZpS Zj4 plC k hi;have am:=V5 plC ks i;by_cases ad:i<ks.length
  ·obtain⟨x,hx⟩:=Qt ad;have aa : (i:Int)<(ks.length:Int):=by omega
   have w1:=ZB (k:=i) (by omega);have hg:=ZpT Zj4 plC k hx;have hs:=ZoH Zj.enc Zj4 plC k hx;have hb2:=Zg8 (c:=plC) hx;have ai:=V5 plC ks (i+1);have aj:=ih x (Ki hx);obtain⟨o,a,p,t,kk⟩:=x;have ak:plC (.mk o a p t kk)=4+4*nL kk:=by simp only[plC,Zj.nodes,nL];omega
   have ae:k+(Q8 plC (ks.take (i+1)):Nat)=k+(Q8 plC (ks.take i):Nat)+1+1+1+1+((4*nL kk:Nat):Int):=by rw[hb2,ak];push_cast;omega
   generalize hK:k+(Q8 plC (ks.take i):Nat)=K at hs ae ⊢;have e1:=aj o a p t kk rfl (K+1+1+1+1) (by omega) (by omega);have v1:=wi (K+1) (by omega) (by omega);have v2:=wi (K+1+1) (by omega) (by omega);have v3:=wi (K+1+1+1) (by omega) (by omega);have v4:=wi (K+1+1+1+1) (by omega) (by omega);simp only[Zj4,Zj.enc_mk] at hs;generalize nL kk=nk at *;simp +contextual -implicitDefEqProofs (maxSteps:=10^7) only[go_sem,seval,↓gZ,aa,ad,hg,w1,ah,v1,v2,v3,v4,e1,List.length_set,KX,List.set_set];refine ag (i+1) _ (by omega) (by omega) ?_;simp +contextual -implicitDefEqProofs (maxSteps:=10^7) only[go_sem,seval,↓gZ,hs,ae]
  ·have:i=ks.length:=by omega
   subst this;rw[ZpU,List.take_length,af,← ZaY];have ab:(Wg ks k).length=ks.length:=by rw[ZaY,Jl]
   generalize nL ks=nk at *;simp +contextual -implicitDefEqProofs (maxSteps:=10^7) only[go_sem,seval,↓gZ,ab]
theorem Zai:∀ (n:Nat) (ks:List Zj),nL ks≤n→nL ks≤4194304→∀ k:Int,0≤k→k+((4*nL ks:Nat):Int)≤281474976710656→Zi Xs Ms ZA [.own 0,(.d (J k))] [.tree 5 5 (ks.map Zj.enc) none]=some ((.d (J (k+((4*nL ks:Nat):Int)))),[.tree 5 5 ((Wg ks k).map Zj.enc) none])
 | n,ks,hn,hb,k,h0,h1=>Zg9 ks hb (fun x hx o a p t kk he K g0 g1=>by
   obtain⟨i,hi⟩:=List.mem_iff_getElem?.1 hx;have hy:=W8 hi;subst he;have aa:nL kk<nL ks:=by simp only[Zj.nodes,nL] at hy ⊢;omega
   match n,hn with
   | 0,hn=>omega
   | n+1,hn=>exact Zai n kk (by omega) (by omega) K g0 (by omega)) k h0 h1
theorem ZhJ (o a p:Int) (t:Bool) (ks:List Zj) (hk:nL ks≤4194304) (k:Int) (h0:0≤k) (h1:k≤1099511627776):Zi Xs Ms Z0 [.agg [(.d (J o)),(.d (J a)),(.d (J p)),(.d (.bool t)),.own 0],(.d (J k))] [.tree 5 5 (ks.map Zj.enc) none]=some ((.d (J (k+((4*nL ks:Nat):Int)))),[.tree 5 5 ((Wg ks k).map Zj.enc) none]):=by
 have e1:=Zai _ ks (Ke _) hk k h0 (by omega);generalize nL ks=nk at *;refine cE ?_;simp +contextual -implicitDefEqProofs (maxSteps:=10^7) only[go_sem,seval,↓gZ,WJ,e1]
theorem Zha (o a p:Int) (t:Bool) (k:Int):Zi Xs Ms Z0 [.agg [(.d (J o)),(.d (J a)),(.d (J p)),(.d (.bool t)),.own 0],(.d (J k))] [.row 5 [] true false]=some ((.d (J k)),[.row 5 [] true false]):=by
 have e1:Zi Xs Ms ZA [.own 0,(.d (J k))] [.row 5 [] true false]=some ((.d (J k)),[.row 5 [] true false]):=by
  refine cE ?_;simp +contextual -implicitDefEqProofs (maxSteps:=10^7) only[go_sem,seval,↓gZ,V6];refine LO (α:=Unit) (fun _=>[]) (fun _=>[]) (fun _=>True) (fun _=>0) () trivial ?_;intro _ _ _;simp +contextual -implicitDefEqProofs (maxSteps:=10^7) only[go_sem,seval,↓gZ]
 refine cE ?_;simp +contextual -implicitDefEqProofs (maxSteps:=10^7) only[go_sem,seval,↓gZ,WJ,e1]
theorem Zhb (ks:List Zj) (hk:nL ks≤4194304) (ih:∀ x∈ks,∀ o a p t kk,x=.mk o a p t kk→∀ K:Int,0≤K→K+((4*nL kk:Nat):Int)≤281474976710656→Zi Xs Ms QY [.d (.sl ((Wg kk K).map Zj.enc)),(.d (J K))] []=some ((.d (J (K+((4*nL kk:Nat):Int)))),[])) (k:Int) (h0:0≤k) (h1:k+((4*nL ks:Nat):Int)≤281474976710656) :
  Zi Xs Ms QY [.d (.sl ((Wg ks k).map Zj.enc)),(.d (J k))] []=some ((.d (J (k+((4*nL ks:Nat):Int)))),[]):=by
 have af:=Zd3 ks;have ak:=Zj2 ks;have ab:(Wg ks k).length=ks.length:=by rw[ZaY,Jl]
 refine cE ?_;simp +contextual -implicitDefEqProofs (maxSteps:=10^7) only[go_sem,seval,↓gZ,UV];refine Xc Xs Ms (st0:=?st0) (α:=Nat) (fun i=>[(5,.d (J (i:Int))),(1,.d (J (k+(Q8 plC (ks.take i):Nat))))]) (fun _=>[]) (fun i=>i≤ks.length) (fun i=>ks.length-i) 0 ?hc (by omega) ?h0 ?step
 case hc=>simp +contextual -implicitDefEqProofs (maxSteps:=10^7) only[go_sem,seval,↓gZ]<;>exact rfl
 case h0=>simp only[List.take_zero,Q8,Lp,LN];rfl
 case step=>
  intro i hi ag;have al:=V5 plC ks i;by_cases ad:i<ks.length
  ·obtain⟨x,hx⟩:=Qt ad;have aa : (i:Int)<(ks.length:Int):=by omega
   have w1:=ZB (k:=i) (by omega);have hg:=Zlv Zj4 plC ks k i x hx;rw[← ZaY] at hg;have hb2:=Zg8 (c:=plC) hx;have ah:=V5 plC ks (i+1);have ai:=ih x (Ki hx);obtain⟨o,a,p,t,kk⟩:=x;have aj:plC (.mk o a p t kk)=4+4*nL kk:=by simp only[plC,Zj.nodes,nL];omega
   have ae:k+(Q8 plC (ks.take (i+1)):Nat)=k+(Q8 plC (ks.take i):Nat)+1+1+1+1+((4*nL kk:Nat):Int):=by rw[hb2,aj];push_cast;omega
   generalize hK:k+(Q8 plC (ks.take i):Nat)=K at hg ae ⊢;have e1:=ai o a p t kk rfl (K+1+1+1+1) (by omega) (by omega);have n1:¬K+1+1+1+1+((4*nL kk:Nat):Int)<0:=by omega
   have v1:=wi (K+1) (by omega) (by omega);have v2:=wi (K+1+1) (by omega) (by omega);have v3:=wi (K+1+1+1) (by omega) (by omega);have v4:=wi (K+1+1+1+1) (by omega) (by omega);simp only[Zj4] at hg;generalize nL kk=nk at *;simp +contextual -implicitDefEqProofs (maxSteps:=10^7) only[go_sem,seval,↓gZ,aa,ad,hg,w1,ab,v1,v2,v3,v4,e1,n1,bNe,bne_self_eq_false];refine ag (i+1) _ (by omega) (by omega) ?_;simp +contextual -implicitDefEqProofs (maxSteps:=10^7) only[go_sem,seval,↓gZ,ae]
  ·have:i=ks.length:=by omega
   subst this;rw[List.take_length,af];generalize nL ks=nk at *;simp +contextual -implicitDefEqProofs (maxSteps:=10^7) only[go_sem,seval,↓gZ,ab]
theorem Zaj:∀ (n:Nat) (ks:List Zj),nL ks≤n→nL ks≤4194304→∀ k:Int,0≤k→k+((4*nL ks:Nat):Int)≤281474976710656→Zi Xs Ms QY [.d (.sl ((Wg ks k).map Zj.enc)),(.d (J k))] []=some ((.d (J (k+((4*nL ks:Nat):Int)))),[])
 | n,ks,hn,hb,k,h0,h1=>Zhb ks hb (fun x hx o a p t kk he K g0 g1=>by
   obtain⟨i,hi⟩:=List.mem_iff_getElem?.1 hx;have hy:=W8 hi;subst he;have aa:nL kk<nL ks:=by simp only[Zj.nodes,nL] at hy ⊢;omega
   match n,hn with
   | 0,hn=>omega
   | n+1,hn=>exact Zaj n kk (by omega) (by omega) K g0 (by omega)) k h0 h1
theorem ZhK (o a p:Int) (t:Bool) (ks:List Zj) (hk:nL ks≤4194304) (k:Int) (h0:0≤k) (h1:k≤1099511627776):Zi Xs Ms Yx [.d (.agg [J o,J a,J p,.bool t,.sl ((Wg ks k).map Zj.enc)]),(.d (J k))] []=some ((.d (J (k+((4*nL ks:Nat):Int)))),[]):=by
 have e1:=Zaj _ ks (Ke _) hk k h0 (by omega);have n1:¬k+((4*nL ks:Nat):Int)<0:=by omega
 generalize nL ks=nk at *;refine cE ?_;simp +contextual -implicitDefEqProofs (maxSteps:=10^7) only[go_sem,seval,↓gZ,J9,e1,n1]
theorem Zd4:∀ b:BT,b.plan.nodes=b.cnt
 | .waste=>rfl
 | .pane _ _=>rfl
 | .cut _ _ l r=>by
  have h1:=Zd4 l;have h2:=Zd4 r;simp only[BT.plan,Zj.nodes,Zj.nodes.nodesL,BT.cnt] at h1 h2 ⊢;omega
theorem Zrc (k:Qs) (l:List L.Place):∃ (o a q:Int) (t:Bool) (ks:List Zj) (ok:Bool),nL ks≤255 ∧
  plV (ZjZ k l)=(.tup [.agg [(.d (J o)),(.d (J a)),(.d (J q)),(.d (.bool t)),.own 0],(.d (.bool ok))],[.row 5 (ks.map Zj.enc) true false])∧plT (ZjZ k l)=(.tup [.agg [(.d (J o)),(.d (J a)),(.d (J q)),(.d (.bool t)),.own 0],(.d (.bool ok))],[plO ks]):=by
 cases h:ZjZ k l with
 | none=>exact⟨0,0,0,false,[],false,by simp[nL,Zj.nodes.nodesL],rfl,rfl⟩
 | some b=>
  have hc:=(ZmT h).2.2.2;have hn:=Zd4 b;obtain⟨o,a,q,t,ks,e⟩:=Wf b;refine⟨o,a,q,t,ks,true,?_,?_,?_⟩
  ·rw[e] at hn;simp only[Zj.nodes,nL] at hn ⊢;omega
  ·simp only[plV,e]
  ·simp only[plT,e]
theorem UT (k:Qs) (l:List L.Place) (hk:k.ok) (hl:l.length≤maxLen∧∀ x∈l,x.ok):Zi Xs Ms Qo [.d k.enc,(.d (.sl (l.map Place.enc)))] []=some ((.d (.bool true)),[]):=by
 obtain⟨kW,kH,kP⟩:=k;have e1:=Zlw kW kH kP hk.2.2.1 1048576 (by decide) (by decide);by_cases s1:(kP.length:Int)≤1048576
 ·rw[Zdk s1] at e1;have y1:¬(1048576:Int)-(kP.length:Int)<0:=by omega
  have e2:=ZhE l hl.1 (1048576-kP.length) (by omega) (by omega);by_cases s2:(l.length:Int)≤1048576-kP.length
  ·rw[Zdk s2] at e2;have y2:¬(1048576:Int)-(kP.length:Int)-(l.length:Int)<0:=by omega
   have t1:=Zlx kW kH kP (by omega);have t2:=ZhF l (by omega);have c1:=Zdo kW kH kP l ⟨hk.1,hk.2.1⟩ (by omega) (by omega);have c2:=Zdn kW kH kP l;obtain⟨o,a,q,t,ks,ok,hn,p1,p2⟩:=Zrc ⟨kW,kH,kP⟩ l;rw[p1] at c1;rw[p2] at c2;have q1:=ZhG kW kH kP (by omega);have q2:=Ze1 l (by omega);have q3:=ZhI o a q t ks (by omega);have m1:=ZhH kW kH kP (by omega) 1 (by decide) (by decide);have m2:=Ze2 l (by omega) (1+((4*kP.length:Nat):Int)) (by omega) (by omega);have y3:¬1+((4*kP.length:Nat):Int)+((6*l.length:Nat):Int)<0:=by omega
   have h3:=ZhK o a q t ks (by omega) 1 (by decide) (by decide);have y4:¬(1:Int)+((4*nL ks:Nat):Int)<0:=by omega
   generalize 1+((4*kP.length:Nat):Int)=g1 at *;generalize g1+((6*l.length:Nat):Int)=g2 at *;cases ks with
   | nil=>
    have m3:=Zha o a q t 1;simp only[plO,Lv,nL,Zj.nodes.nodesL,Wg,Nat.mul_zero,Lp,LN] at c1 c2 q3 h3;refine cE ?_;simp +contextual -implicitDefEqProofs (maxSteps:=10^7) only[go_sem,seval,↓gZ,Z1,e1,y1,e2,y2,t1,t2,c1,c2,q1,q2,q3,m1,m2,m3,y3,h3,bNe,bne_self_eq_false]
   | cons x r=>
    have m3:=ZhJ o a q t (x :: r) (by omega) 1 (by decide) (by decide);simp only[plO] at c2;generalize (1:Int)+((4*nL (x :: r):Nat):Int)=g4 at *;generalize Wg (x :: r) 1=R2 at *;generalize x :: r=R at *;refine cE ?_;simp +contextual -implicitDefEqProofs (maxSteps:=10^7) only[go_sem,seval,↓gZ,Z1,e1,y1,e2,y2,t1,t2,c1,c2,q1,q2,q3,m1,m2,m3,y3,h3,y4,bNe,bne_self_eq_false]
  ·rw[ZgV s2] at e2;refine cE ?_;simp +contextual -implicitDefEqProofs (maxSteps:=10^7) only[go_sem,seval,↓gZ,Z1,e1,y1,e2]
 ·rw[ZgV s1] at e1;refine cE ?_;simp +contextual -implicitDefEqProofs (maxSteps:=10^7) only[go_sem,seval,↓gZ,Z1,e1]
end Go.Proofs.Ytnachaiejoflhaa
