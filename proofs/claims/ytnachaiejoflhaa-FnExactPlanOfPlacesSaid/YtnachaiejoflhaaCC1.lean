/- Own text. -/
import Derived.Test.YtnachaiejoflhaaCCode
import Derived.Test.YtnachaiejoflhaaAbsParts
import Derived.Test.YtnachaiejoflhaaAbsOkD
namespace Go.Proofs.Ytnachaiejoflhaa
open Go Go.Abs Go.Abs.E Go.Abs.L
open Nat (reduceMul reduceSub reduceLeDiff reduceEqDiff)
open Int (reduceLE reduceEq reduceToNat reduceNeg)
set_option linter.unusedSimpArgs false
set_option linter.unusedVariables false
set_option maxRecDepth 20000
set_option maxHeartbeats 4000000
theorem QJ (n lo hi:Int):Zi Xs Ms ZT [(.d (J n)),(.d (J lo)),(.d (J hi))] []=some ((.d (.bool ((decide (lo≤n∧n≤hi))))),[]):=by
 refine cE ?_;simp +contextual -implicitDefEqProofs (maxSteps:=10^7) only[go_sem,seval,↓gZ,Za6]
theorem Zhy (bX bY bW bH:Int):Zi Xs Ms Vw [(.d (.agg [J bX,J bY,J bW,J bH]))] []=some ((.d (.bool ((decide (VB (Box.mk bX bY bW bH)))))),[]):=by
 refine cE ?_;simp +contextual -implicitDefEqProofs (maxSteps:=10^7) only[go_sem,seval,↓gZ,Zaa,QJ];have h1:=wi (200-bW);have h2:=wi (200-bH);exact ZbL (by simp only[VB];omega)
theorem XP (bX bY bW bH:Int):Zi Xs Ms Xh [(.d (.agg [J bX,J bY,J bW,J bH]))] []=some ((.d (.bool ((decide (VB (Box.mk bX bY bW bH)))))),[]):=by
 refine cE ?_;simp +contextual -implicitDefEqProofs (maxSteps:=10^7) only[go_sem,seval,↓gZ,Zac];have h1:=wi (200-bW);have h2:=wi (200-bH);exact⟨fun h=>ZkO (by simp only[VB];omega),fun h=>ZbL (by simp only[VB];omega)⟩
theorem Zhz (aX aY aW aH:Int) (bX bY bW bH:Int) (ha:VB (Box.mk aX aY aW aH)) (h1:R64 bX) (h2:R64 bY) (h3:R64 (bX+bW)) (h4:R64 (bY+bH)):Zi Xs Ms Vx [(.d (.agg [J aX,J aY,J aW,J aH])),(.d (.agg [J bX,J bY,J bW,J bH]))] []=some ((.d (.bool ((decide (Qp (Box.mk aX aY aW aH) (Box.mk bX bY bW bH)))))),[]):=by
 refine cE ?_;simp only[VB] at ha;have e1:=wi (aX+aW) (by omega) (by omega);have e2:=wi (aY+aH) (by omega) (by omega);have e3:=wi (bX+bW) h3.1 h3.2;have e4:=wi (bY+bH) h4.1 h4.2;simp +contextual -implicitDefEqProofs (maxSteps:=10^7) only[go_sem,seval,↓gZ,Zab,e1,e2,e3,e4];exact ZbL (by simp only[Qp];omega)
theorem ZjU (aX aY aW aH:Int) (bX bY bW bH:Int) (ha:VB (Box.mk aX aY aW aH)) (hb:VB (Box.mk bX bY bW bH)) (hm:Xl (Box.mk aX aY aW aH) (Box.mk bX bY bW bH)):Zi Xs Ms V0 [(.d (.agg [J aX,J aY,J aW,J aH])),(.d (.agg [J bX,J bY,J bW,J bH]))] []=some (.tup [.d (ZcN (Box.mk aX aY aW aH) (Box.mk bX bY bW bH)).enc,(.d (.bool true))],[]):=by
 refine cE ?_;simp only[VB,Xl] at ha hb hm;have e1:=wi (aX+aW) (by omega) (by omega);have e2:=wi (aY+aH) (by omega) (by omega);have e3:=wi (bX+bW) (by omega) (by omega);have e4:=wi (bY+bH) (by omega) (by omega);have e5:=wi (min (aX+aW) (bX+bW)-max aX bX) (by omega) (by omega);have e6:=wi (min (aY+aH) (bY+bH)-max aY bY) (by omega) (by omega);have n1:¬(min (aX+aW) (bX+bW)-max aX bX≤0):=by omega
 have n2:¬(min (aY+aH) (bY+bH)-max aY bY≤0):=by omega
 simp +contextual -implicitDefEqProofs (maxSteps:=10^7) only[go_sem,seval,↓gZ,Zad,e1,e2,e3,e4,e5,e6,n1,n2,ZcN]
theorem Zll (aX aY aW aH:Int) (bX bY bW bH:Int) (ha:VB (Box.mk aX aY aW aH)) (hb:VB (Box.mk bX bY bW bH)) (hm:¬Xl (Box.mk aX aY aW aH) (Box.mk bX bY bW bH)):Zi Xs Ms V0 [(.d (.agg [J aX,J aY,J aW,J aH])),(.d (.agg [J bX,J bY,J bW,J bH]))] []=some (.tup [.d (Box.enc ⟨0,0,0,0⟩),(.d (.bool false))],[]):=by
 refine cE ?_;simp only[VB,Xl] at ha hb hm;have e1:=wi (aX+aW) (by omega) (by omega);have e2:=wi (aY+aH) (by omega) (by omega);have e3:=wi (bX+bW) (by omega) (by omega);have e4:=wi (bY+bH) (by omega) (by omega);have e5:=wi (min (aX+aW) (bX+bW)-max aX bX) (by omega) (by omega);have e6:=wi (min (aY+aH) (bY+bH)-max aY bY) (by omega) (by omega);have n1:min (aX+aW) (bX+bW)-max aX bX≤0∨min (aY+aH) (bY+bH)-max aY bY≤0:=by omega
 simp +contextual -implicitDefEqProofs (maxSteps:=10^7) only[go_sem,seval,↓gZ,Zad,e1,e2,e3,e4,e5,e6];omega
theorem Zdi (aX aY aW aH:Int) (bX bY bW bH:Int) (ha:VB (Box.mk aX aY aW aH)) (hb:VB (Box.mk bX bY bW bH)) (hm:Xl (Box.mk aX aY aW aH) (Box.mk bX bY bW bH)):Zi Xs Ms Y1 [(.d (.agg [J aX,J aY,J aW,J aH])),(.d (.agg [J bX,J bY,J bW,J bH]))] []=some (.tup [.d (ZcN (Box.mk aX aY aW aH) (Box.mk bX bY bW bH)).enc,(.d (.bool true))],[]):=by
 refine cE ?_;have aa:=ha;have ab:=hb;simp only[VB,Xl] at aa ab hm;have e1:=wi (aX+aW) (by omega) (by omega);have e2:=wi (aY+aH) (by omega) (by omega);have e3:=wi (bX+bW) (by omega) (by omega);have e4:=wi (bY+bH) (by omega) (by omega);have e5:=wi (min (aX+aW) (bX+bW)-max aX bX) (by omega) (by omega);have e6:=wi (min (aY+aH) (bY+bH)-max aY bY) (by omega) (by omega);have n1:¬(min (aX+aW) (bX+bW)≤max aX bX):=by omega
 have n2:¬(min (aY+aH) (bY+bH)≤max aY bY):=by omega
 simp +contextual -implicitDefEqProofs (maxSteps:=10^7) only[go_sem,seval,↓gZ,V1,XP,ha,hb,e1,e2,e3,e4,e5,e6,n1,n2,ZcN]
theorem ZeN (aX aY aW aH:Int) (bX bY bW bH:Int) (hm:¬(VB (Box.mk aX aY aW aH)∧VB (Box.mk bX bY bW bH)∧Xl (Box.mk aX aY aW aH) (Box.mk bX bY bW bH))):Zi Xs Ms Y1 [(.d (.agg [J aX,J aY,J aW,J aH])),(.d (.agg [J bX,J bY,J bW,J bH]))] []=some (.tup [.d (Box.enc ⟨0,0,0,0⟩),(.d (.bool false))],[]):=by
 refine cE ?_;by_cases ha:VB (Box.mk aX aY aW aH)
 ·by_cases hb:VB (Box.mk bX bY bW bH)
  ·have aa:=ha;have ab:=hb;simp only[ha,hb,true_and] at hm;simp only[VB,Xl] at aa ab hm;have e1:=wi (aX+aW) (by omega) (by omega);have e2:=wi (aY+aH) (by omega) (by omega);have e3:=wi (bX+bW) (by omega) (by omega);have e4:=wi (bY+bH) (by omega) (by omega);simp +contextual -implicitDefEqProofs (maxSteps:=10^7) only[go_sem,seval,↓gZ,V1,XP,ha,hb,e1,e2,e3,e4];omega
  ·simp +contextual -implicitDefEqProofs (maxSteps:=10^7) only[go_sem,seval,↓gZ,V1,XP,ha,hb]
 ·simp +contextual -implicitDefEqProofs (maxSteps:=10^7) only[go_sem,seval,↓gZ,V1,XP,ha]
theorem ZbP (aX aY aW aH:Int) (bX bY bW bH:Int):Zi Xs Ms Yy [(.d (.agg [J aX,J aY,J aW,J aH])),(.d (.agg [J bX,J bY,J bW,J bH]))] []=some ((.d (.bool ((decide (VB (Box.mk aX aY aW aH)∧VB (Box.mk bX bY bW bH)∧Qp (Box.mk aX aY aW aH) (Box.mk bX bY bW bH)))))),[]):=by
 refine cE ?_;by_cases hm:VB (Box.mk aX aY aW aH)∧VB (Box.mk bX bY bW bH)∧Xl (Box.mk aX aY aW aH) (Box.mk bX bY bW bH)
 ·obtain⟨ha,hb,hm⟩:=hm;simp +contextual -implicitDefEqProofs (maxSteps:=10^7) only[go_sem,seval,↓gZ,WM,Zdi _ _ _ _ _ _ _ _ ha hb hm,ZcN];simp only[VB] at ha hb;simp only[Xl] at hm;exact ZbL (by simp only[VB,Qp];omega)
 ·simp +contextual -implicitDefEqProofs (maxSteps:=10^7) only[go_sem,seval,↓gZ,WM,ZeN _ _ _ _ _ _ _ _ hm];have:¬(VB (Box.mk aX aY aW aH)∧VB (Box.mk bX bY bW bH)∧Qp (Box.mk aX aY aW aH) (Box.mk bX bY bW bH)):=by
   intro⟨h1,h2,h3⟩;refine hm ⟨h1,h2,?_⟩;simp only[VB,Qp] at h1 h2 h3;simp only[Xl];omega
  exact ZkO this
theorem ZgP (pW pH:Int) (pT:Bool) (pK:Int):Zi Xs Ms YP [(.d (.agg [J pW,J pH,.bool pT,J pK]))] []=some ((.d (.bool ((decide (VP (Pane.mk pW pH pT pK)))))),[]):=by
 refine cE ?_;simp +contextual -implicitDefEqProofs (maxSteps:=10^7) only[go_sem,seval,↓gZ,UX,QJ]
 first | exact ZbL (by simp only[VP];omega) | skip
theorem ZgQ (pW pH:Int) (pT:Bool) (pK:Int):Zi Xs Ms YQ [(.d (.agg [J pW,J pH,.bool pT,J pK]))] []=some ((.d (.bool ((decide (VP (Pane.mk pW pH pT pK)))))),[]):=by
 refine cE ?_;simp +contextual -implicitDefEqProofs (maxSteps:=10^7) only[go_sem,seval,↓gZ,UY]
 first | exact ZbL (by simp only[VP];omega) | skip
def QZ:Nat→List Int→Int→Int
 | _,[],_=>-1
 | k,x :: l,n=>if x=n then (k:Int) else QZ (k+1) l n
theorem ZgR {l:List Int} {k:Nat} {x n:Int} (hx:l[k]?=some x):QZ k (l.drop k) n=if x=n then (k:Int) else QZ (k+1) (l.drop (k+1)) n:=by
 have h:=(Kd.1 hx)
 obtain⟨h1,h2⟩:=h;rw[K8 h1,h2,QZ]
theorem ZjV (l:List Int) (n:Int) (hl:l.length<4611686018427387904):Zi Xs Ms Wj [.d (.sl (l.map ZkP)),(.d (J n))] []=some ((.d (J (QZ 0 l n))),[]):=by
 refine cE ?_;simp +contextual -implicitDefEqProofs (maxSteps:=10^7) only[go_sem,seval,↓gZ,Za0];refine LO (α:=Nat) (fun k=>[(5,.d (J (k:Int)))]) (fun _=>[]) (fun k=>k≤l.length∧QZ k (l.drop k) n=QZ 0 l n) (fun k=>l.length-k) 0 ⟨by omega,rfl⟩ ?_;intro k ⟨hk,hp⟩ ih;by_cases aa:k<l.length
 ·obtain⟨x,hx⟩:=Qt aa;rw[ZgR hx] at hp;have hw:=ZB (k:=k) (by omega);simp +contextual -implicitDefEqProofs (maxSteps:=10^7) only[go_sem,seval,↓gZ,hx,aa,hw];refine⟨fun h=>?_,fun h=>ih (k+1) _ ⟨by omega,?_⟩ (by omega) ?_⟩
  ·rw[Ko h] at hp;rw[← hp]
  ·rw[Kk h] at hp;exact hp
  ·simp +contextual -implicitDefEqProofs (maxSteps:=10^7) only[go_sem,seval,↓gZ]
 ·have:k=l.length:=by omega
  subst this;simp +contextual -implicitDefEqProofs (maxSteps:=10^7) only[go_sem,seval,↓gZ];rw[← hp];simp[QZ]
theorem ZeW (ps:List Pane) (hl:ps.length<4611686018427387904):Zi Xs Ms Yn [(.d (.sl (ps.map Pane.enc)))] []=some ((.d (.bool (decide (ps.length≤24∧VPs ps)))),[]):=by
 refine cE ?_;simp +contextual -implicitDefEqProofs (maxSteps:=10^7) only[go_sem,seval,↓gZ,Up];refine LO (α:=Nat) (fun k=>[(3,.d (J (k:Int)))]) (fun _=>[]) (fun k=>k≤ps.length∧(VPs ps↔VPs (ps.drop k))) (fun k=>ps.length-k) 0 ⟨by omega,by simp⟩ ?_;intro k ⟨hk,hp⟩ ih;by_cases aa:k<ps.length
 ·obtain⟨x,hx⟩:=Qt aa;rw[Zk2 hx] at hp;have hw:=ZB (k:=k) (by omega);simp +contextual -implicitDefEqProofs (maxSteps:=10^7) only[go_sem,seval,↓gZ,hx,aa,hw,ZgP];refine⟨fun h=>ZkO (fun hh=>h (hp.1 hh.2).1),fun h=>ih (k+1) _ ⟨by omega,?_⟩ (by omega) ?_⟩
  ·rw[hp];exact⟨fun hh=>hh.2,fun hh=>⟨h,hh⟩⟩
  ·simp +contextual -implicitDefEqProofs (maxSteps:=10^7) only[go_sem,seval,↓gZ]
 ·have:k=ps.length:=by omega
  subst this;simp +contextual -implicitDefEqProofs (maxSteps:=10^7) only[go_sem,seval,↓gZ];have hv:VPs ps:=hp.2 (by simp[VPs]);exact ZbL ⟨fun h=>⟨by omega,hv⟩,fun h=>by omega⟩
theorem ZgS (kW kH:Int) (kP:List Pane) (hl:kP.length<4611686018427387904):Zi Xs Ms YL [(.d (.agg [J kW,J kH,.sl (kP.map Pane.enc)]))] []=some ((.d (.bool (decide (VW (Qs.mk kW kH kP))))),[]):=by
 refine cE ?_;simp +contextual -implicitDefEqProofs (maxSteps:=10^7) only[go_sem,seval,↓gZ,UW,QJ,ZeW kP hl];exact ZbL (by simp only[VW,and_assoc])
theorem ZgT (kW kH:Int) (kP:List Pane):Zi Xs Ms YM [(.d (.agg [J kW,J kH,.sl (kP.map Pane.enc)]))] []=some ((.d (.bool (decide (VW (Qs.mk kW kH kP))))),[]):=by
 refine cE ?_;by_cases h0:((((kW<1∨200<kW)∨kH<1)∨200<kH)∨(24:Int)<kP.length)
 ·simp +contextual -implicitDefEqProofs (maxSteps:=10^7) only[go_sem,seval,↓gZ,V7,h0];exact ZkO (by simp only[VW];omega)
 ·simp +contextual -implicitDefEqProofs (maxSteps:=10^7) only[go_sem,seval,↓gZ,V7,h0];refine LO (α:=Nat) (fun k=>[(32,.d (J (k:Int)))]) (fun _=>[]) (fun k=>k≤kP.length∧(VPs kP↔VPs (kP.drop k))) (fun k=>kP.length-k) 0 ⟨by omega,by simp⟩ ?_;intro k ⟨hk,hp⟩ ih;by_cases aa:k<kP.length
  ·obtain⟨x,hx⟩:=Qt aa;rw[Zk2 hx] at hp;have hw:=ZB (k:=k) (by omega);simp +contextual -implicitDefEqProofs (maxSteps:=10^7) only[go_sem,seval,↓gZ,hx,aa,hw,ZgQ];refine⟨fun h=>ZkO (fun hh=>h (hp.1 hh.2.2.2.2.2).1),fun h=>ih (k+1) _ ⟨by omega,?_⟩ (by omega) ?_⟩
   ·rw[hp];exact⟨fun hh=>hh.2,fun hh=>⟨h,hh⟩⟩
   ·simp +contextual -implicitDefEqProofs (maxSteps:=10^7) only[go_sem,seval,↓gZ,h0]
  ·have:k=kP.length:=by omega
   subst this;simp +contextual -implicitDefEqProofs (maxSteps:=10^7) only[go_sem,seval,↓gZ];have hv:VPs kP:=hp.2 (by simp[VPs]);exact fin_t (by simp only[VW];exact⟨by omega,by omega,by omega,by omega,by omega,hv⟩)
theorem Zdj (kW kH:Int) (kP:List Pane):Zi Xs Ms Vb [(.d (.agg [J kW,J kH,.sl (kP.map Pane.enc)]))] []=some (.d (.agg [J 0,J 0,J kW,J kH]),[]):=by
 refine cE ?_;simp +contextual -implicitDefEqProofs (maxSteps:=10^7) only[go_sem,seval,↓gZ,Za4]
theorem ZbQ {ps:List Pane} {i:Int} {t:Bool} {w h:Int} {k:Nat} {q:Pane} (hi:i=(k:Int)) (hq:ps[k]?=some q):Xt ps i t w h=if t then q.Turns&&decide (¬q.W=q.H)&&decide (q.H=w)&&decide (q.W=h) else decide (q.W=w∧q.H=h):=by
 subst hi;simp[Xt,hq]
theorem J1 {ps:List Pane} {i:Int} {t:Bool} {w h:Int} (hi:i<0∨(ps.length:Int)≤i):Xt ps i t w h=false:=by
 unfold Xt;rcases hi with hi | hi
 ·have:¬0≤i:=by omega
  simp[this]
 ·have:ps[i.toNat]?=none:=KF (by omega);simp[this]
theorem ZgU (kW kH:Int) (kP:List Pane) (i:Int) (t:Bool) (w h:Int):Zi Xs Ms YN [(.d (.agg [J kW,J kH,.sl (kP.map Pane.enc)])),(.d (J i)),(.d (.bool t)),(.d (J w)),(.d (J h))] []=some ((.d (.bool (Xt kP i t w h))),[]):=by
 by_cases h0:i<0
 ·rw[J1 (.inl h0)];refine cE ?_;simp +contextual -implicitDefEqProofs (maxSteps:=10^7) only[go_sem,seval,↓gZ,XR,h0]
 ·by_cases h1:(kP.length:Int)≤i
  ·rw[J1 (.inr h1)];refine cE ?_;simp +contextual -implicitDefEqProofs (maxSteps:=10^7) only[go_sem,seval,↓gZ,XR,h0,h1]
  ·obtain⟨n,rfl⟩:∃ n:Nat,i=(n:Int):=⟨i.toNat,by omega⟩
   obtain⟨q,hq⟩:=Qt (l:=kP) (k:=n) (by omega);have hn:¬kP.length≤n:=by omega
   have aa : n<kP.length:=by omega
   have ab:¬(n:Int)<0:=by omega
   rw[ZbQ rfl hq];refine cE ?_;cases t
   ·simp +contextual -implicitDefEqProofs (maxSteps:=10^7) only[go_sem,seval,↓gZ,XR,ab,hn,hq,aa]
   ·simp +contextual -implicitDefEqProofs (maxSteps:=10^7) only[go_sem,seval,↓gZ,XR,ab,hn,hq,aa]
theorem ZeX (kW kH:Int) (kP:List Pane) (i:Int) (t:Bool) (w h:Int) (hl:kP.length<4611686018427387904):Zi Xs Ms QK [(.d (.agg [J kW,J kH,.sl (kP.map Pane.enc)])),.d (BT.pane i t).plan.enc,(.d (J w)),(.d (J h))] []=some ((.d (.bool (Xt kP i t w h))),[]):=by
 have hw:=wi ((kP.length:Int)-1) (by omega) (by omega);simp only[BT.plan,Zj.enc_mk];by_cases h0:0≤i∧i≤(kP.length:Int)-1
 ·obtain⟨n,rfl⟩:∃ n:Nat,i=(n:Int):=⟨i.toNat,by omega⟩
  obtain⟨q,hq⟩:=Qt (l:=kP) (k:=n) (by omega);rw[ZbQ rfl hq];refine cE ?_;cases t
  ·simp +contextual -implicitDefEqProofs (maxSteps:=10^7) only[go_sem,seval,↓gZ,QL,QJ,h0,hw,hq]
  ·simp +contextual -implicitDefEqProofs (maxSteps:=10^7) only[go_sem,seval,↓gZ,QL,QJ,h0,hw,hq]
 ·rw[J1 (by omega)];refine cE ?_;simp +contextual -implicitDefEqProofs (maxSteps:=10^7) only[go_sem,seval,↓gZ,QL,QJ,h0,hw]
theorem YK (kW kH:Int) (kP:List Pane) (hl:kP.length<4611686018427387904):∀ (b:BT) (w h:Int),0≤w→w≤1000→0≤h→h≤1000→Zi Xs Ms QK [(.d (.agg [J kW,J kH,.sl (kP.map Pane.enc)])),.d b.plan.enc,(.d (J w)),(.d (J h))] []=some ((.d (.bool (Vc kP b w h))),[])
 | .waste,w,h,hw0,hw1,hh0,hh1=>by
  simp only[BT.plan,Zj.enc_mk];refine cE ?_;simp +contextual -implicitDefEqProofs (maxSteps:=10^7) only[go_sem,seval,↓gZ,QL,Vc]
 | .pane i t,w,h,hw0,hw1,hh0,hh1=>ZeX kW kH kP i t w h hl
 | .cut d a l r,w,h,hw0,hw1,hh0,hh1=>by
  have w1:=wi (w-1) (by omega) (by omega);have w2:=wi (h-1) (by omega) (by omega);simp only[BT.plan,Zj.enc_mk];cases d with
  | true=>
   by_cases h3:1≤a∧a≤w-1
   ·have w3:=wi (w-a) (by omega) (by omega);have e1:=YK kW kH kP hl l a h (by omega) (by omega) hh0 hh1;have e2:=YK kW kH kP hl r (w-a) h (by omega) (by omega) hh0 hh1;refine cE ?_;simp +contextual -implicitDefEqProofs (maxSteps:=10^7) only[go_sem,seval,↓gZ,QL,Vc,QN,h3,QJ,w1,w2,w3,e1,e2]
   ·refine cE ?_;simp +contextual -implicitDefEqProofs (maxSteps:=10^7) only[go_sem,seval,↓gZ,QL,Vc,QN,h3,QJ,w1,w2]
  | false=>
   by_cases h3:1≤a∧a≤h-1
   ·have w3:=wi (h-a) (by omega) (by omega);have e1:=YK kW kH kP hl l w a hw0 hw1 (by omega) (by omega);have e2:=YK kW kH kP hl r w (h-a) hw0 hw1 (by omega) (by omega);refine cE ?_;simp +contextual -implicitDefEqProofs (maxSteps:=10^7) only[go_sem,seval,↓gZ,QL,Vc,QN,h3,QJ,w1,w2,w3,e1,e2]
   ·refine cE ?_;simp +contextual -implicitDefEqProofs (maxSteps:=10^7) only[go_sem,seval,↓gZ,QL,Vc,QN,h3,QJ,w1,w2]
theorem bNe (a b:Bool):ZeR .neq true (AV.d (.bool a)) (.d (.bool b))=XT (some (AV.d (.bool (a != b)))):=by cases a<;>cases b<;>rfl
def szV (left:Int) (n:Nat):Int:=if (n:Int)≤left then left-n else -1
theorem Zdk {left:Int} {n:Nat} (h:(n:Int)≤left):szV left n=left-n:=Ko h
theorem ZgV {left:Int} {n:Nat} (h:¬(n:Int)≤left):szV left n=-1:=Kk h
def Q8 {α:Type} (f:α→Nat):List α→Nat
 | []=>0
 | x :: r=>f x+Q8 f r
def Ji {α:Type} (f:α→D) (z:D) (l:List α) (k:Nat):List D:=(l.take k).map f++List.replicate (l.length-k) z
theorem ZgW {α:Type} (f:α→D) (z:D) (l:List α):Ji f z l 0=List.replicate l.length z:=by simp[Ji]
theorem ZiV {α:Type} (f:α→D) (z:D) (l:List α):Ji f z l l.length=l.map f:=by simp[Ji]
theorem ZiW {α:Type} (f:α→D) (z:D) {l:List α} {k:Nat} (h:k≤l.length):(Ji f z l k).length=l.length:=by simp[Ji];omega
theorem ZiX {α:Type} {f:α→D} {z:D} {l:List α} {k:Nat} {x:α} (h:l[k]?=some x):(Ji f z l k).set k (f x)=Ji f z l (k+1):=by
 obtain⟨h1,h2⟩:=Kd.1 h;unfold Ji;have hl:((l.take k).map f).length=k:=by simp;omega
 rw[List.set_append_right _ _ (by omega),hl,LS,show l.length-k=(l.length-(k+1))+1 by omega,Ln,List.set_cons_zero,KG,h,KS,La];rfl
theorem ZiY {α:Type} {f:α→D} {z:D} {l:List α} {k:Nat} (h:k<l.length):(Ji f z l k)[k]?=some z:=by
 unfold Ji;have hl:((l.take k).map f).length=k:=by simp;omega
 rw[Ks (by omega),hl,LS,List.getElem?_replicate,Ko (by omega)]
def mks {α:Type} (f:Int→α) (c:Nat):Nat→Int→List α
 | 0,_=>[]
 | n+1,k=>f k :: mks f c n (k+c)
theorem UE {α:Type} (f:Int→α) (c:Nat):∀ (n:Nat) (k:Int),(mks f c n k).length=n
 | 0,_=>rfl
 | n+1,k=>by simp[mks,UE f c n]
theorem Zlm {α:Type} (f:Int→α) (c:Nat):∀ (n:Nat) (k:Int),mks f c (n+1) k=mks f c n k++[f (k+((c*n:Nat):Int))]
 | 0,k=>by simp[mks]
 | n+1,k=>by
  rw[mks,Zlm f c n (k+c),mks,KL];congr 3;push_cast;rw[Int.mul_add];congr 1;omega
def mkR {α:Type} (f:Int→α) (c:Nat) (k:Int) (l:List α) (i:Nat):List α:=mks f c i k++l.drop i
theorem ZnA {α:Type} (f:Int→α) (c:Nat) (k:Int) {l:List α} {i:Nat} (h:i≤l.length):(mkR f c k l i).length=l.length:=by simp[mkR,UE];omega
theorem ZnB {α:Type} (f:Int→α) (c:Nat) (k:Int) {l:List α} {i:Nat} {x:α} (h:l[i]?=some x):(mkR f c k l i)[i]?=some x:=by
 unfold mkR;rw[Ks (by rw[UE];omega),UE,LS,KM];simpa using h
theorem Zq9 {α:Type} (f:Int→α) (c:Nat) (k:Int) {l:List α} {i:Nat} (h:i<l.length):(mkR f c k l i).set i (f (k+((c*i:Nat):Int)))=mkR f c k l (i+1):=by
 unfold mkR;rw[List.set_append_right _ _ (by rw[UE];omega),UE,LS,Zlm,La,K8 h];rfl
theorem ZnC {α:Type} (f:Int→α) (c:Nat) (k:Int) (l:List α):mkR f c k l l.length=mks f c l.length k:=by simp[mkR]
theorem Zln {α:Type} (f:Int→α) (c:Nat) (k:Int) (l:List α):mkR f c k l 0=l:=by simp[mkR,mks]
theorem Zlo {α:Type} (g:α→D) (f:Int→α) (c:Nat) (k:Int) {l:List α} {i:Nat} (h:i<l.length):((mkR f c k l i).map g).set i (g (f (k+((c*i:Nat):Int))))=(mkR f c k l (i+1)).map g:=by
 rw[← List.map_set,Zq9 f c k h]
theorem ZmM (bX bY bW bH:Int):Zi Xs Ms Jq [(.d (.agg [J bX,J bY,J bW,J bH]))] []=some ((.d (.agg [J bX,J bY,J bW,J bH])),[]):=by
 refine cE ?_;simp +contextual -implicitDefEqProofs (maxSteps:=10^7) only[go_sem,seval,↓gZ,Zd8]
theorem Zlp (bW bH:Int) (bT:Bool) (bK:Int):Zi Xs Ms Um [(.d (.agg [J bW,J bH,.bool bT,J bK]))] []=some ((.d (.agg [J bW,J bH,.bool bT,J bK])),[]):=by
 refine cE ?_;simp +contextual -implicitDefEqProofs (maxSteps:=10^7) only[go_sem,seval,↓gZ,Zcu]
theorem ZjW (p:Int) (t:Bool) (bX bY bW bH:Int):Zi Xs Ms Wm [.d (.agg [J p,.bool t,J bX,J bY,J bW,J bH])] []=some (.d (.agg [J p,.bool t,J bX,J bY,J bW,J bH]),[]):=by
 have e1:=ZmM bX bY bW bH;refine cE ?_;simp +contextual -implicitDefEqProofs (maxSteps:=10^7) only[go_sem,seval,↓gZ,Za3,e1]
theorem ZjX (bX bY bW bH:Int):Zi Xs Ms Jm [(.d (.agg [J bX,J bY,J bW,J bH])),(.d (.agg [J bX,J bY,J bW,J bH]))] []=some ((.d (.bool true)),[]):=by
 refine cE ?_;simp +contextual -implicitDefEqProofs (maxSteps:=10^7) only[go_sem,seval,↓gZ,Zd5]
theorem ZhA (bW bH:Int) (bT:Bool) (bK:Int):Zi Xs Ms Ul [(.d (.agg [J bW,J bH,.bool bT,J bK])),(.d (.agg [J bW,J bH,.bool bT,J bK]))] []=some ((.d (.bool true)),[]):=by
 refine cE ?_;simp +contextual -implicitDefEqProofs (maxSteps:=10^7) only[go_sem,seval,↓gZ,Zct,bNe,bne_self_eq_false]
theorem ZgX (p:Int) (t:Bool) (bX bY bW bH:Int):Zi Xs Ms Wn [.d (.agg [J p,.bool t,J bX,J bY,J bW,J bH]),.d (.agg [J p,.bool t,J bX,J bY,J bW,J bH])] []=some ((.d (.bool true)),[]):=by
 have e1:=ZjX bX bY bW bH;refine cE ?_;simp +contextual -implicitDefEqProofs (maxSteps:=10^7) only[go_sem,seval,↓gZ,Za5,e1,bNe,bne_self_eq_false]
end Go.Proofs.Ytnachaiejoflhaa
