/- Own text. -/
import Derived.Test.YtighjmleicikhaaACode
import Derived.Test.YtighjmleicikhaaAbsParts
import Derived.Test.YtighjmleicikhaaAbsOkD
namespace Go.Proofs.Ytighjmleicikhaa
open Go Go.Abs Go.Abs.E Go.Abs.L
open Nat (reduceMul reduceSub reduceLeDiff reduceEqDiff)
open Int (reduceLE reduceEq reduceToNat reduceNeg)
set_option linter.unusedSimpArgs false
set_option linter.unusedVariables false
set_option maxRecDepth 20000
set_option maxHeartbeats 4000000
theorem Q9 (n lo hi:Int):Zj Xs Ms QE [(.d (J n)),(.d (J lo)),(.d (J hi))] []=some ((.d (.bool ((decide (lo≤n∧n≤hi))))),[]):=by
 refine cE ?_;simp +contextual -implicitDefEqProofs (maxSteps:=10^7) only[go_sem,seval,↓gZ,ZaV]
theorem ZfN (pW pH:Int) (pT:Bool) (pK:Int):Zj Xs Ms Y4 [(.d (.agg [J pW,J pH,.bool pT,J pK]))] []=some ((.d (.bool ((decide (VP (Pane.mk pW pH pT pK)))))),[]):=by
 refine cE ?_;simp +contextual -implicitDefEqProofs (maxSteps:=10^7) only[go_sem,seval,↓gZ,Jh,Q9]
 first | exact ZnY (by simp only[VP];omega) | skip
theorem ZfO (pW pH:Int) (pT:Bool) (pK:Int):Zj Xs Ms Y3 [(.d (.agg [J pW,J pH,.bool pT,J pK]))] []=some ((.d (.bool ((decide (VP (Pane.mk pW pH pT pK)))))),[]):=by
 refine cE ?_;simp +contextual -implicitDefEqProofs (maxSteps:=10^7) only[go_sem,seval,↓gZ,Jg]
 first | exact ZnY (by simp only[VP];omega) | skip
def QM:Nat→List Int→Int→Int
 | _,[],_=>-1
 | k,x :: l,n=>if x=n then (k:Int) else QM (k+1) l n
theorem ZfP {l:List Int} {k:Nat} {x n:Int} (hx:l[k]?=some x):QM k (l.drop k) n=if x=n then (k:Int) else QM (k+1) (l.drop (k+1)) n:=by
 have h:=(Kc.1 hx)
 obtain⟨h1,h2⟩:=h;rw[KB h1,h2,QM]
theorem JS (l:List Int) (n:Int) (hl:l.length<4611686018427387904):Zj Xs Ms Yl [.d (.sl (l.map Wd)),(.d (J n))] []=some ((.d (J (QM 0 l n))),[]):=by
 refine cE ?_;simp +contextual -implicitDefEqProofs (maxSteps:=10^7) only[go_sem,seval,↓gZ,ZaP];refine LO (α:=Nat) (fun k=>[(5,.d (J (k:Int)))]) (fun _=>[]) (fun k=>k≤l.length∧QM k (l.drop k) n=QM 0 l n) (fun k=>l.length-k) 0 ⟨by omega,rfl⟩ ?_;intro k ⟨hk,hp⟩ ih;by_cases aa:k<l.length
 ·obtain⟨x,hx⟩:=QN aa;rw[ZfP hx] at hp;have hw:=ZQ (k:=k) (by omega);simp +contextual -implicitDefEqProofs (maxSteps:=10^7) only[go_sem,seval,↓gZ,hx,aa,hw];refine⟨fun h=>?_,fun h=>ih (k+1) _ ⟨by omega,?_⟩ (by omega) ?_⟩
  ·rw[Ku h] at hp;rw[← hp]
  ·rw[Kp h] at hp;exact hp
  ·simp +contextual -implicitDefEqProofs (maxSteps:=10^7) only[go_sem,seval,↓gZ]
 ·have:k=l.length:=by omega
  subst this;simp +contextual -implicitDefEqProofs (maxSteps:=10^7) only[go_sem,seval,↓gZ];rw[← hp];simp[QM]
theorem Z5 (pO pA pP:Int) (pT:Bool) (pK:List D):Zj Xs Ms V7 [.d (.agg [J pO,J pA,J pP,.bool pT,.sl pK])] []=some ((.d (.bool (decide (pO=2∨pO=3)))),[]):=by
 refine cE ?_;simp +contextual -implicitDefEqProofs (maxSteps:=10^7) only[go_sem,seval,↓gZ,Zeb]
theorem ZK (pO pA pP:Int) (pT:Bool) (pK:List D):Zj Xs Ms Ud [.d (.agg [J pO,J pA,J pP,.bool pT,.sl pK])] []=some ((.d (.bool (decide (pO=2∨pO=3)))),[]):=by
 refine cE ?_;simp +contextual -implicitDefEqProofs (maxSteps:=10^7) only[go_sem,seval,↓gZ,Zec]
theorem Uj:∀ (n:Nat) (p:Ze),p.nodes≤n→Zj Xs Ms Qx [.d p.enc] []=some ((.d (J (Zk 255 (QG p)))),[])
 | 0,.mk o a p t ks,hn=>by simp[Ze.nodes] at hn
 | n+1,.mk o a p t ks,hn=>by
  by_cases ho:o=2∨o=3
  ·by_cases hk:ks.length=2
   ·obtain⟨x,hx⟩:=QN (l:=ks) (k:=0) (by omega);obtain⟨y,hy⟩:=QN (l:=ks) (k:=1) (by omega);have aa:=Uj n x (Wi hn hx);have ab:=Uj n y (Wi hn hy);rw[ZiY ho hk hx hy];obtain⟨lx,ae⟩:∃ l,l=QG x:=⟨_,rfl⟩
    obtain⟨ly,af⟩:∃ l,l=QG y:=⟨_,rfl⟩
    rw[← ae] at aa ⊢;rw[← af] at ab ⊢;have rx:=W9 255 (by omega) lx;have ry:=W9 255 (by omega) ly;have ad:(ks.length:Int)=2:=by omega
    by_cases hp:p=0
    ·cases t with
     | true=>
      have hb:=Zap 255 o a p true lx ly (by simp);rw[hb];refine cE ?_;simp +contextual -implicitDefEqProofs (maxSteps:=10^7) only[go_sem,seval,↓gZ,Qf,Z5,ho,hp]
     | false=>
      subst hp;rw[Zm4];obtain⟨sx,ag⟩:∃ s,s=Zk 255 lx:=⟨_,rfl⟩
      obtain⟨sy,ah⟩:∃ s,s=Zk 255 ly:=⟨_,rfl⟩
      rw[← ag] at aa rx ⊢;rw[← ah] at ab ry ⊢;have w1:=wi (1+sx) (by omega) (by omega);have w2:=wi (1+sx+sy) (by omega) (by omega);refine cE ?_;simp +contextual -implicitDefEqProofs (maxSteps:=10^7) only[go_sem,seval,↓gZ,Qf,Z5,ho,ad];refine JI Xs Ms ?_;simp +contextual -implicitDefEqProofs (maxSteps:=10^7) only[go_sem,seval,↓gZ,ad,hx,hy,aa,ab,w1,w2];intro h;refine JI Xs Ms ?_;simp +contextual -implicitDefEqProofs (maxSteps:=10^7) only[go_sem,seval,↓gZ,ad,hx,hy,aa,ab,w1,w2,h];intro h';refine JI Xs Ms ?_;simp +contextual -implicitDefEqProofs (maxSteps:=10^7) only[go_sem,seval,↓gZ,ad,hx,hy,aa,ab,w1,w2,h,h']
    ·have hb:=Zap 255 o a p t lx ly (by simp[hp]);rw[hb];refine cE ?_;simp +contextual -implicitDefEqProofs (maxSteps:=10^7) only[go_sem,seval,↓gZ,Qf,Z5,ho,hp]
   ·rw[Zeu _ _ _ _ _ ho hk];refine cE ?_;have ai : ¬(ks.length:Int)=2:=by omega
    simp +contextual -implicitDefEqProofs (maxSteps:=10^7) only[go_sem,seval,↓gZ,Qf,Z5,ho,ai,Zk]
  ·rw[Zhg ho];by_cases h1:ks.length=0∧a=0∧o=1
   ·rw[Ku h1];obtain⟨h1,rfl,rfl⟩:=h1;refine cE ?_;simp +contextual -implicitDefEqProofs (maxSteps:=10^7) only[go_sem,seval,↓gZ,Qf,Z5,ho,h1,Zk,BT.cnt];refine JI Xs Ms ?_;simp +contextual -implicitDefEqProofs (maxSteps:=10^7) only[go_sem,seval,↓gZ,h1]
   ·rw[Kp h1];by_cases h2:ks.length=0∧a=0∧o=0∧p=0∧t=false
    ·rw[Ku h2];obtain⟨h2,rfl,rfl,rfl,rfl⟩:=h2;refine cE ?_;simp +contextual -implicitDefEqProofs (maxSteps:=10^7) only[go_sem,seval,↓gZ,Qf,Z5,ho,h2,Zk,BT.cnt];refine JI Xs Ms ?_;simp +contextual -implicitDefEqProofs (maxSteps:=10^7) only[go_sem,seval,↓gZ,h2]
    ·rw[Kp h2];by_cases c1:ks.length=0
     ·by_cases c2:a=0
      ·by_cases c3:o=1
       ·exact absurd ⟨c1,c2,c3⟩ h1
       ·by_cases c4:o=0
        ·by_cases c5:p=0
         ·cases t with
          | false=>exact absurd ⟨c1,c2,c4,c5,rfl⟩ h2
          | true=>
           refine cE ?_;simp +contextual -implicitDefEqProofs (maxSteps:=10^7) only[go_sem,seval,↓gZ,Qf,Z5,ho,c1,c2,c3,c4,c5,Zk]
         ·refine cE ?_;simp +contextual -implicitDefEqProofs (maxSteps:=10^7) only[go_sem,seval,↓gZ,Qf,Z5,ho,c1,c2,c3,c4,c5,Zk]
        ·refine cE ?_;simp +contextual -implicitDefEqProofs (maxSteps:=10^7) only[go_sem,seval,↓gZ,Qf,Z5,ho,c1,c2,c3,c4,Zk]
      ·refine cE ?_;simp +contextual -implicitDefEqProofs (maxSteps:=10^7) only[go_sem,seval,↓gZ,Qf,Z5,ho,c1,c2,Zk]
     ·have aj : ¬(ks.length:Int)=0:=by omega
      refine cE ?_;simp +contextual -implicitDefEqProofs (maxSteps:=10^7) only[go_sem,seval,↓gZ,Qf,Z5,ho,aj,Zk]
theorem YV (p:Ze):Zj Xs Ms Qx [.d p.enc] []=some ((.d (J (Zk 255 (QG p)))),[]):=Uj _ p (Kf _)
theorem Zfp (ps:List Pane) (hl:ps.length<4611686018427387904):Zj Xs Ms Ym [(.d (.sl (ps.map Pane.enc)))] []=some ((.d (.bool (decide (ps.length≤24∧VPs ps)))),[]):=by
 refine cE ?_;simp +contextual -implicitDefEqProofs (maxSteps:=10^7) only[go_sem,seval,↓gZ,Us];refine LO (α:=Nat) (fun k=>[(3,.d (J (k:Int)))]) (fun _=>[]) (fun k=>k≤ps.length∧(VPs ps↔VPs (ps.drop k))) (fun k=>ps.length-k) 0 ⟨by omega,by simp⟩ ?_;intro k ⟨hk,hp⟩ ih;by_cases aa:k<ps.length
 ·obtain⟨x,hx⟩:=QN aa;rw[ZlW hx] at hp;have hw:=ZQ (k:=k) (by omega);simp +contextual -implicitDefEqProofs (maxSteps:=10^7) only[go_sem,seval,↓gZ,hx,aa,hw,ZfN];refine⟨fun h=>Zql (fun hh=>h (hp.1 hh.2).1),fun h=>ih (k+1) _ ⟨by omega,?_⟩ (by omega) ?_⟩
  ·rw[hp];exact⟨fun hh=>hh.2,fun hh=>⟨h,hh⟩⟩
  ·simp +contextual -implicitDefEqProofs (maxSteps:=10^7) only[go_sem,seval,↓gZ]
 ·have:k=ps.length:=by omega
  subst this;simp +contextual -implicitDefEqProofs (maxSteps:=10^7) only[go_sem,seval,↓gZ];have hv:VPs ps:=hp.2 (by simp[VPs]);exact ZnY ⟨fun h=>⟨by omega,hv⟩,fun h=>by omega⟩
theorem Vy (kW kH:Int) (kP:List Pane) (hl:kP.length<4611686018427387904):Zj Xs Ms Y0 [(.d (.agg [J kW,J kH,.sl (kP.map Pane.enc)]))] []=some ((.d (.bool (decide (VW (Q7.mk kW kH kP))))),[]):=by
 refine cE ?_;simp +contextual -implicitDefEqProofs (maxSteps:=10^7) only[go_sem,seval,↓gZ,Jf,Q9,Zfp kP hl];exact ZnY (by simp only[VW,and_assoc])
theorem Vz (kW kH:Int) (kP:List Pane):Zj Xs Ms Y1 [(.d (.agg [J kW,J kH,.sl (kP.map Pane.enc)]))] []=some ((.d (.bool (decide (VW (Q7.mk kW kH kP))))),[]):=by
 refine cE ?_;by_cases h0:((((kW<1∨200<kW)∨kH<1)∨200<kH)∨(24:Int)<kP.length)
 ·simp +contextual -implicitDefEqProofs (maxSteps:=10^7) only[go_sem,seval,↓gZ,Wr,h0];exact Zql (by simp only[VW];omega)
 ·simp +contextual -implicitDefEqProofs (maxSteps:=10^7) only[go_sem,seval,↓gZ,Wr,h0];refine LO (α:=Nat) (fun k=>[(32,.d (J (k:Int)))]) (fun _=>[]) (fun k=>k≤kP.length∧(VPs kP↔VPs (kP.drop k))) (fun k=>kP.length-k) 0 ⟨by omega,by simp⟩ ?_;intro k ⟨hk,hp⟩ ih;by_cases aa:k<kP.length
  ·obtain⟨x,hx⟩:=QN aa;rw[ZlW hx] at hp;have hw:=ZQ (k:=k) (by omega);simp +contextual -implicitDefEqProofs (maxSteps:=10^7) only[go_sem,seval,↓gZ,hx,aa,hw,ZfO];refine⟨fun h=>Zql (fun hh=>h (hp.1 hh.2.2.2.2.2).1),fun h=>ih (k+1) _ ⟨by omega,?_⟩ (by omega) ?_⟩
   ·rw[hp];exact⟨fun hh=>hh.2,fun hh=>⟨h,hh⟩⟩
   ·simp +contextual -implicitDefEqProofs (maxSteps:=10^7) only[go_sem,seval,↓gZ,h0]
  ·have:k=kP.length:=by omega
   subst this;simp +contextual -implicitDefEqProofs (maxSteps:=10^7) only[go_sem,seval,↓gZ];have hv:VPs kP:=hp.2 (by simp[VPs]);exact fin_t (by simp only[VW];exact⟨by omega,by omega,by omega,by omega,by omega,hv⟩)
theorem V6:∀ (n:Nat) (p:Ze),p.nodes≤n→∀ m:Int,-10≤m→m≤255→Zj Xs Ms Xf [.d p.enc,(.d (J m))] []=some ((.d (J (Zk m (QG p)))),[])
 | 0,.mk o a p t ks,hn,m,_,_=>by simp[Ze.nodes] at hn
 | n+1,.mk o a p t ks,hn,m,hm1,hm2=>by
  by_cases hm:m<1
  ·rw[Zm5 hm];refine cE ?_;simp +contextual -implicitDefEqProofs (maxSteps:=10^7) only[go_sem,seval,↓gZ,Zw,hm]
  by_cases ho:o=2∨o=3
  ·have al:¬o=0:=by omega
   have am:¬o=1:=by omega
   by_cases hk:ks.length=2
   ·obtain⟨x,hx⟩:=QN (l:=ks) (k:=0) (by omega);obtain⟨y,hy⟩:=QN (l:=ks) (k:=1) (by omega);rw[ZiY ho hk hx hy];have aa:(ks.length:Int)=2:=by omega
    by_cases hp:p=0
    ·cases t with
     | true=>
      have hb:=Zap m o a p true (QG x) (QG y) (by simp);rw[hb];refine cE ?_;rcases ho with ho | ho<;>simp +contextual -implicitDefEqProofs (maxSteps:=10^7) only[go_sem,seval,↓gZ,Zw,ho,hp,hm,aa]
     | false=>
      subst hp;rw[ZlV];have ag:=V6 n x (Wi hn hx) (m-1) (by omega) (by omega);have rx:=W9 (m-1) (by omega) (QG x);have ab:=V6 n y (Wi hn hy) (m-1-Zk (m-1) (QG x)) (by omega) (by omega);have ry:=W9 (m-1-Zk (m-1) (QG x)) (by omega) (QG y);obtain⟨sy,ah⟩:∃ s,s=Zk (m-1-Zk (m-1) (QG x)) (QG y):=⟨_,rfl⟩
      rw[← ah] at ab ry ⊢;obtain⟨sx,ai⟩:∃ s,s=Zk (m-1) (QG x):=⟨_,rfl⟩
      rw[← ai] at ag ab rx ry ⊢;clear ai ah;have w0:=wi (m-1) (by omega) (by omega);have w1:=wi (m-1-sx) (by omega) (by omega);have w2:=wi (1+sx) (by omega) (by omega);have w3:=wi (1+sx+sy) (by omega) (by omega);refine cE ?_;rcases ho with ho | ho<;>simp +contextual -implicitDefEqProofs (maxSteps:=10^7) only[go_sem,seval,↓gZ,Zw,ho,hm,aa,hx,hy,ag,ab,w0,w1,w2,w3]
    ·have hb:=Zap m o a p t (QG x) (QG y) (by simp[hp]);rw[hb];refine cE ?_;rcases ho with ho | ho<;>simp +contextual -implicitDefEqProofs (maxSteps:=10^7) only[go_sem,seval,↓gZ,Zw,ho,hp,hm,aa]
   ·rw[Zeu _ _ _ _ _ ho hk];have ak : ¬(ks.length:Int)=2:=by omega
    refine cE ?_;rcases ho with ho | ho<;>simp +contextual -implicitDefEqProofs (maxSteps:=10^7) only[go_sem,seval,↓gZ,Zw,ho,ak,hm,Zk]
  ·rw[Zhg ho];have ad : ¬o=2:=by omega
   have ae : ¬o=3:=by omega
   have aj : (1:Int)≤m:=by omega
   by_cases h1:ks.length=0∧a=0∧o=1
   ·rw[Ku h1];obtain⟨h1,rfl,rfl⟩:=h1;refine cE ?_;simp +contextual -implicitDefEqProofs (maxSteps:=10^7) only[go_sem,seval,↓gZ,Zw,h1,hm,Zk,BT.cnt,aj]
   ·rw[Kp h1];by_cases h2:ks.length=0∧a=0∧o=0∧p=0∧t=false
    ·rw[Ku h2];obtain⟨h2,rfl,rfl,rfl,rfl⟩:=h2;refine cE ?_;simp +contextual -implicitDefEqProofs (maxSteps:=10^7) only[go_sem,seval,↓gZ,Zw,h2,hm,Zk,BT.cnt,aj]
    ·rw[Kp h2];by_cases c1:ks.length=0
     ·by_cases c2:a=0
      ·by_cases c3:o=1
       ·exact absurd ⟨c1,c2,c3⟩ h1
       ·by_cases c4:o=0
        ·by_cases c5:p=0
         ·cases t with
          | false=>exact absurd ⟨c1,c2,c4,c5,rfl⟩ h2
          | true=>
           refine cE ?_;simp +contextual -implicitDefEqProofs (maxSteps:=10^7) only[go_sem,seval,↓gZ,Zw,hm,c1,c2,c3,c4,c5,Zk]
         ·refine cE ?_;simp +contextual -implicitDefEqProofs (maxSteps:=10^7) only[go_sem,seval,↓gZ,Zw,hm,c1,c2,c3,c4,c5,Zk]
        ·refine cE ?_;simp +contextual -implicitDefEqProofs (maxSteps:=10^7) only[go_sem,seval,↓gZ,Zw,hm,c1,c2,c3,c4,ad,ae,Zk]
      ·refine cE ?_;by_cases c3:o=1
       ·simp +contextual -implicitDefEqProofs (maxSteps:=10^7) only[go_sem,seval,↓gZ,Zw,hm,c1,c2,c3,Zk]
       ·by_cases c4:o=0
        ·simp +contextual -implicitDefEqProofs (maxSteps:=10^7) only[go_sem,seval,↓gZ,Zw,hm,c1,c2,c3,c4,Zk]
        ·simp +contextual -implicitDefEqProofs (maxSteps:=10^7) only[go_sem,seval,↓gZ,Zw,hm,c1,c2,c3,c4,ad,ae,Zk]
     ·have af : ¬(ks.length:Int)=0:=by omega
      refine cE ?_;by_cases c3:o=1
      ·simp +contextual -implicitDefEqProofs (maxSteps:=10^7) only[go_sem,seval,↓gZ,Zw,hm,af,c3,Zk]
      ·by_cases c4:o=0
       ·simp +contextual -implicitDefEqProofs (maxSteps:=10^7) only[go_sem,seval,↓gZ,Zw,hm,af,c3,c4,Zk]
       ·simp +contextual -implicitDefEqProofs (maxSteps:=10^7) only[go_sem,seval,↓gZ,Zw,hm,af,c3,c4,ad,ae,Zk]
theorem Zb6 (p:Ze):Zj Xs Ms YG [.d p.enc] []=some ((.d (J (Zk 255 (QG p)))),[]):=by
 have h:=V6 _ p (Kf _) 255 (by omega) (by omega);obtain⟨o,a,q,t,ks⟩:=p;rw[Ze.enc_mk] at h ⊢;refine cE ?_;simp +contextual -implicitDefEqProofs (maxSteps:=10^7) only[go_sem,seval,↓gZ,J3,h]
theorem Zc8 (kW kH:Int) (kP:List Pane):Zj Xs Ms Vn [(.d (.agg [J kW,J kH,.sl (kP.map Pane.enc)]))] []=some (.d (.agg [J 0,J 0,J kW,J kH]),[]):=by
 refine cE ?_;simp +contextual -implicitDefEqProofs (maxSteps:=10^7) only[go_sem,seval,↓gZ,ZaU]
theorem Zb7 {ps:List Pane} {i:Int} {t:Bool} {w h:Int} {k:Nat} {q:Pane} (hi:i=(k:Int)) (hq:ps[k]?=some q):WL ps i t w h=if t then q.Turns&&decide (¬q.W=q.H)&&decide (q.H=w)&&decide (q.W=h) else decide (q.W=w∧q.H=h):=by
 subst hi;simp[WL,hq]
theorem JT {ps:List Pane} {i:Int} {t:Bool} {w h:Int} (hi:i<0∨(ps.length:Int)≤i):WL ps i t w h=false:=by
 unfold WL;rcases hi with hi | hi
 ·have:¬0≤i:=by omega
  simp[this]
 ·have:ps[i.toNat]?=none:=KE (by omega);simp[this]
theorem ZfQ (kW kH:Int) (kP:List Pane) (i:Int) (t:Bool) (w h:Int):Zj Xs Ms Y2 [(.d (.agg [J kW,J kH,.sl (kP.map Pane.enc)])),(.d (J i)),(.d (.bool t)),(.d (J w)),(.d (J h))] []=some ((.d (.bool (WL kP i t w h))),[]):=by
 by_cases h0:i<0
 ·rw[JT (.inl h0)];refine cE ?_;simp +contextual -implicitDefEqProofs (maxSteps:=10^7) only[go_sem,seval,↓gZ,XW,h0]
 ·by_cases h1:(kP.length:Int)≤i
  ·rw[JT (.inr h1)];refine cE ?_;simp +contextual -implicitDefEqProofs (maxSteps:=10^7) only[go_sem,seval,↓gZ,XW,h0,h1]
  ·obtain⟨n,rfl⟩:∃ n:Nat,i=(n:Int):=⟨i.toNat,by omega⟩
   obtain⟨q,hq⟩:=QN (l:=kP) (k:=n) (by omega);have hn:¬kP.length≤n:=by omega
   have aa : n<kP.length:=by omega
   have ab:¬(n:Int)<0:=by omega
   rw[Zb7 rfl hq];refine cE ?_;cases t
   ·simp +contextual -implicitDefEqProofs (maxSteps:=10^7) only[go_sem,seval,↓gZ,XW,ab,hn,hq,aa]
   ·simp +contextual -implicitDefEqProofs (maxSteps:=10^7) only[go_sem,seval,↓gZ,XW,ab,hn,hq,aa]
theorem Y9 (o a p:Int) (t:Bool) (ks:List D) (gX gY gW gH:Int) (ho:o=2) (h1:R64 (gX+a)) (h2:R64 (gW-a)):Zj Xs Ms Xa [.d (.agg [J o,J a,J p,.bool t,.sl ks]),(.d (.agg [J gX,J gY,J gW,J gH]))] [] =
  some (.tup [.d (.agg [J gX,J gY,J a,J gH]),.d (.agg [J (gX+a),J gY,J (gW-a),J gH])],[]):=by
 have w1:=wi (gX+a) h1.1 h1.2;have w2:=wi (gW-a) h2.1 h2.2;refine cE ?_;simp +contextual -implicitDefEqProofs (maxSteps:=10^7) only[go_sem,seval,↓gZ,W0,ho,w1,w2]
theorem X5 (o a p:Int) (t:Bool) (ks:List D) (gX gY gW gH:Int) (ho:¬o=2) (h1:R64 (gY+a)) (h2:R64 (gH-a)):Zj Xs Ms Xa [.d (.agg [J o,J a,J p,.bool t,.sl ks]),(.d (.agg [J gX,J gY,J gW,J gH]))] [] =
  some (.tup [.d (.agg [J gX,J gY,J gW,J a]),.d (.agg [J gX,J (gY+a),J gW,J (gH-a)])],[]):=by
 have w1:=wi (gY+a) h1.1 h1.2;have w2:=wi (gH-a) h2.1 h2.2;refine cE ?_;simp +contextual -implicitDefEqProofs (maxSteps:=10^7) only[go_sem,seval,↓gZ,W0,ho,w1,w2]
def inB (g:Box):Prop:=0≤g.X∧0≤g.Y∧0≤g.W∧0≤g.H∧g.X+g.W≤1000∧g.Y+g.H≤1000
theorem YW (kW kH:Int) (kP:List Pane):∀ (b:BT) (gX gY gW gH:Int),inB (Box.mk gX gY gW gH)→Zj Xs Ms XJ [(.d (.agg [J kW,J kH,.sl (kP.map Pane.enc)])),.d b.plan.enc,(.d (.agg [J gX,J gY,J gW,J gH]))] []=some ((.d (.bool (Qv kP b gW gH))),[])
 | .waste,gX,gY,gW,gH,hg=>by
  simp only[BT.plan,Ze.enc_mk];refine cE ?_;simp +contextual -implicitDefEqProofs (maxSteps:=10^7) only[go_sem,seval,↓gZ,QT,Qv]
 | .pane i t,gX,gY,gW,gH,hg=>by
  simp only[BT.plan,Ze.enc_mk];refine cE ?_;simp +contextual -implicitDefEqProofs (maxSteps:=10^7) only[go_sem,seval,↓gZ,QT,ZfQ,Qv]
 | .cut d a l r,gX,gY,gW,gH,hg=>by
  simp only[inB] at hg;simp only[BT.plan,Ze.enc_mk];cases d with
  | true=>
   by_cases h1:a<1
   ·have h2:¬(1≤a∧a≤gW-1):=by omega
    refine cE ?_;simp +contextual -implicitDefEqProofs (maxSteps:=10^7) only[go_sem,seval,↓gZ,QT,Qv,X3,h1,h2]
   ·by_cases h2:gW≤a
    ·have h3:¬(1≤a∧a≤gW-1):=by omega
     refine cE ?_;simp +contextual -implicitDefEqProofs (maxSteps:=10^7) only[go_sem,seval,↓gZ,QT,Qv,X3,h1,h2,h3]
    ·have h3:1≤a∧a≤gW-1:=by omega
     have e0:=Y9 2 a 0 false [l.plan.enc,r.plan.enc] gX gY gW gH rfl ⟨by omega,by omega⟩ ⟨by omega,by omega⟩;have e1:=YW kW kH kP l gX gY a gH (by simp only[inB];omega);have e2:=YW kW kH kP r (gX+a) gY (gW-a) gH (by simp only[inB];omega);refine cE ?_;simp +contextual -implicitDefEqProofs (maxSteps:=10^7) only[go_sem,seval,↓gZ,QT,Qv,X3,h1,h2,h3,e0,e1,e2]
  | false=>
   by_cases h1:a<1
   ·have h2:¬(1≤a∧a≤gH-1):=by omega
    refine cE ?_;simp +contextual -implicitDefEqProofs (maxSteps:=10^7) only[go_sem,seval,↓gZ,QT,Qv,X3,h1,h2]
   ·by_cases h2:gH≤a
    ·have h3:¬(1≤a∧a≤gH-1):=by omega
     refine cE ?_;simp +contextual -implicitDefEqProofs (maxSteps:=10^7) only[go_sem,seval,↓gZ,QT,Qv,X3,h1,h2,h3]
    ·have h3:1≤a∧a≤gH-1:=by omega
     have e0:=X5 3 a 0 false [l.plan.enc,r.plan.enc] gX gY gW gH (by decide) ⟨by omega,by omega⟩ ⟨by omega,by omega⟩;have e1:=YW kW kH kP l gX gY gW a (by simp only[inB];omega);have e2:=YW kW kH kP r gX (gY+a) gW (gH-a) (by simp only[inB];omega);refine cE ?_;simp +contextual -implicitDefEqProofs (maxSteps:=10^7) only[go_sem,seval,↓gZ,QT,Qv,X3,h1,h2,h3,e0,e1,e2]
theorem Zfq (kW kH:Int) (kP:List Pane) (i:Int) (t:Bool) (w h:Int) (hl:kP.length<4611686018427387904):Zj Xs Ms QS [(.d (.agg [J kW,J kH,.sl (kP.map Pane.enc)])),.d (BT.pane i t).plan.enc,(.d (J w)),(.d (J h))] []=some ((.d (.bool (WL kP i t w h))),[]):=by
 have hw:=wi ((kP.length:Int)-1) (by omega) (by omega);simp only[BT.plan,Ze.enc_mk];by_cases h0:0≤i∧i≤(kP.length:Int)-1
 ·obtain⟨n,rfl⟩:∃ n:Nat,i=(n:Int):=⟨i.toNat,by omega⟩
  obtain⟨q,hq⟩:=QN (l:=kP) (k:=n) (by omega);rw[Zb7 rfl hq];refine cE ?_;cases t
  ·simp +contextual -implicitDefEqProofs (maxSteps:=10^7) only[go_sem,seval,↓gZ,QV,Q9,h0,hw,hq]
  ·simp +contextual -implicitDefEqProofs (maxSteps:=10^7) only[go_sem,seval,↓gZ,QV,Q9,h0,hw,hq]
 ·rw[JT (by omega)];refine cE ?_;simp +contextual -implicitDefEqProofs (maxSteps:=10^7) only[go_sem,seval,↓gZ,QV,Q9,h0,hw]
theorem YX (kW kH:Int) (kP:List Pane) (hl:kP.length<4611686018427387904):∀ (b:BT) (w h:Int),0≤w→w≤1000→0≤h→h≤1000→Zj Xs Ms QS [(.d (.agg [J kW,J kH,.sl (kP.map Pane.enc)])),.d b.plan.enc,(.d (J w)),(.d (J h))] []=some ((.d (.bool (Qv kP b w h))),[])
 | .waste,w,h,hw0,hw1,hh0,hh1=>by
  simp only[BT.plan,Ze.enc_mk];refine cE ?_;simp +contextual -implicitDefEqProofs (maxSteps:=10^7) only[go_sem,seval,↓gZ,QV,Qv]
 | .pane i t,w,h,hw0,hw1,hh0,hh1=>Zfq kW kH kP i t w h hl
 | .cut d a l r,w,h,hw0,hw1,hh0,hh1=>by
  have w1:=wi (w-1) (by omega) (by omega);have w2:=wi (h-1) (by omega) (by omega);simp only[BT.plan,Ze.enc_mk];cases d with
  | true=>
   by_cases h3:1≤a∧a≤w-1
   ·have w3:=wi (w-a) (by omega) (by omega);have e1:=YX kW kH kP hl l a h (by omega) (by omega) hh0 hh1;have e2:=YX kW kH kP hl r (w-a) h (by omega) (by omega) hh0 hh1;refine cE ?_;simp +contextual -implicitDefEqProofs (maxSteps:=10^7) only[go_sem,seval,↓gZ,QV,Qv,X3,h3,Q9,w1,w2,w3,e1,e2]
   ·refine cE ?_;simp +contextual -implicitDefEqProofs (maxSteps:=10^7) only[go_sem,seval,↓gZ,QV,Qv,X3,h3,Q9,w1,w2]
  | false=>
   by_cases h3:1≤a∧a≤h-1
   ·have w3:=wi (h-a) (by omega) (by omega);have e1:=YX kW kH kP hl l w a hw0 hw1 (by omega) (by omega);have e2:=YX kW kH kP hl r w (h-a) hw0 hw1 (by omega) (by omega);refine cE ?_;simp +contextual -implicitDefEqProofs (maxSteps:=10^7) only[go_sem,seval,↓gZ,QV,Qv,X3,h3,Q9,w1,w2,w3,e1,e2]
   ·refine cE ?_;simp +contextual -implicitDefEqProofs (maxSteps:=10^7) only[go_sem,seval,↓gZ,QV,Qv,X3,h3,Q9,w1,w2]
theorem ZfR (kW kH:Int) (kP:List Pane) (p:Ze):Zj Xs Ms YY [(.d (.agg [J kW,J kH,.sl (kP.map Pane.enc)])),.d p.enc] []=some ((.d (.bool (Yc (Q7.mk kW kH kP) p))),[]):=by
 have hs:=Zb6 p;unfold Yc;cases hb:QG p with
 | none=>
  obtain⟨o,a,q,t,ks⟩:=p;rw[hb] at hs;rw[Ze.enc_mk] at hs ⊢;refine cE ?_;simp +contextual -implicitDefEqProofs (maxSteps:=10^7) only[go_sem,seval,↓gZ,XU,Vz,hs,Zk]
 | some b=>
  have hp:=Wh hb;rw[hb] at hs;have hc:=b.cnt_pos;have hz:=Qa 255 b;by_cases hv:VW (Q7.mk kW kH kP)
  ·have aa:=hv;simp only[VW] at aa;have hf:=YW kW kH kP b 0 0 kW kH (by simp only[inB];omega);rw[← hp] at hf;obtain⟨o,a,q,t,ks⟩:=p;rw[Ze.enc_mk] at hs hf ⊢;by_cases h2:b.cnt≤255
   ·have h3:Zk 255 (some b)=b.cnt:=by omega
    have h4:(0:Int)<b.cnt:=by omega
    rw[h3] at hs;refine cE ?_;simp +contextual -implicitDefEqProofs (maxSteps:=10^7) only[go_sem,seval,↓gZ,XU,Vz,Zc8,hs,hf,hv,h2,h4]
   ·have h3:Zk 255 (some b)=-1:=by omega
    rw[h3] at hs;refine cE ?_;simp +contextual -implicitDefEqProofs (maxSteps:=10^7) only[go_sem,seval,↓gZ,XU,Vz,hs,hv,h2]
  ·obtain⟨o,a,q,t,ks⟩:=p;rw[Ze.enc_mk] at hs ⊢;refine cE ?_;simp +contextual -implicitDefEqProofs (maxSteps:=10^7) only[go_sem,seval,↓gZ,XU,Vz,hs,hv]
theorem ZfS (kW kH:Int) (kP:List Pane) (p:Ze) (hl:kP.length<4611686018427387904):Zj Xs Ms YZ [(.d (.agg [J kW,J kH,.sl (kP.map Pane.enc)])),.d p.enc] []=some ((.d (.bool (Yc (Q7.mk kW kH kP) p))),[]):=by
 have hs:=YV p;unfold Yc;cases hb:QG p with
 | none=>
  obtain⟨o,a,q,t,ks⟩:=p;rw[hb] at hs;rw[Ze.enc_mk] at hs ⊢;refine cE ?_;simp +contextual -implicitDefEqProofs (maxSteps:=10^7) only[go_sem,seval,↓gZ,XV,Vy kW kH kP hl,hs,Zk]
 | some b=>
  have hp:=Wh hb;rw[hb] at hs;have hc:=b.cnt_pos;have hz:=Qa 255 b;by_cases hv:VW (Q7.mk kW kH kP)
  ·have aa:=hv;simp only[VW] at aa;have hf:=YX kW kH kP hl b kW kH (by omega) (by omega) (by omega) (by omega);rw[← hp] at hf;obtain⟨o,a,q,t,ks⟩:=p;rw[Ze.enc_mk] at hs hf ⊢;by_cases h2:b.cnt≤255
   ·have h3:Zk 255 (some b)=b.cnt:=by omega
    have h4:(0:Int)<b.cnt:=by omega
    rw[h3] at hs;refine cE ?_;simp +contextual -implicitDefEqProofs (maxSteps:=10^7) only[go_sem,seval,↓gZ,XV,Vy kW kH kP hl,hs,hf,hv,h2,h4]
   ·have h3:Zk 255 (some b)=-1:=by omega
    rw[h3] at hs;refine cE ?_;simp +contextual -implicitDefEqProofs (maxSteps:=10^7) only[go_sem,seval,↓gZ,XV,Vy kW kH kP hl,hs,hv,h2]
  ·obtain⟨o,a,q,t,ks⟩:=p;rw[Ze.enc_mk] at hs ⊢;refine cE ?_;simp +contextual -implicitDefEqProofs (maxSteps:=10^7) only[go_sem,seval,↓gZ,XV,Vy kW kH kP hl,hs,hv]
theorem bNe (a b:Bool):Zg9 .neq true (AV.d (.bool a)) (.d (.bool b))=X2 (some (AV.d (.bool (a != b)))):=by cases a<;>cases b<;>rfl
def szV (left:Int) (n:Nat):Int:=if (n:Int)≤left then left-n else -1
theorem JU {left:Int} {n:Nat} (h:(n:Int)≤left):szV left n=left-n:=Ku h
theorem ZaJ {left:Int} {n:Nat} (h:¬(n:Int)≤left):szV left n=-1:=Kp h
def Xc {α:Type} (f:α→Nat):List α→Nat
 | []=>0
 | x :: r=>f x+Xc f r
theorem Zpt {α:Type} {f:α→Nat} {l:List α} {k:Nat} {x:α} (h:l[k]?=some x):Xc f (l.drop k)=f x+Xc f (l.drop (k+1)):=by
 obtain⟨h1,h2⟩:=Kc.1 h;rw[KB h1,h2,Xc]
def UU {α:Type} (f:α→D) (z:D) (l:List α) (k:Nat):List D:=(l.take k).map f++List.replicate (l.length-k) z
theorem Zcs {α:Type} (f:α→D) (z:D) (l:List α):UU f z l 0=List.replicate l.length z:=by simp[UU]
theorem Zd1 {α:Type} (f:α→D) (z:D) (l:List α):UU f z l l.length=l.map f:=by simp[UU]
theorem Zd2 {α:Type} (f:α→D) (z:D) {l:List α} {k:Nat} (h:k≤l.length):(UU f z l k).length=l.length:=by simp[UU];omega
theorem Zd3 {α:Type} {f:α→D} {z:D} {l:List α} {k:Nat} {x:α} (h:l[k]?=some x):(UU f z l k).set k (f x)=UU f z l (k+1):=by
 obtain⟨h1,h2⟩:=Kc.1 h;unfold UU;have hl:((l.take k).map f).length=k:=by simp;omega
 rw[List.set_append_right _ _ (by omega),hl,LN,show l.length-k=(l.length-(k+1))+1 by omega,Li,List.set_cons_zero,KY,h,Lt,KM];rfl
theorem Zd4 {α:Type} {f:α→D} {z:D} {l:List α} {k:Nat} (h:k<l.length):(UU f z l k)[k]?=some z:=by
 unfold UU;have hl:((l.take k).map f).length=k:=by simp;omega
 rw[Kt (by omega),hl,LN,List.getElem?_replicate,Ku (by omega)]
def mks {α:Type} (f:Int→α) (c:Nat):Nat→Int→List α
 | 0,_=>[]
 | n+1,k=>f k :: mks f c n (k+c)
theorem Wq {α:Type} (f:Int→α) (c:Nat):∀ (n:Nat) (k:Int),(mks f c n k).length=n
 | 0,_=>rfl
 | n+1,k=>by simp[mks,Wq f c n]
theorem ZnC {α:Type} (f:Int→α) (c:Nat):∀ (n:Nat) (k:Int) (i:Nat),i<n→(mks f c n k)[i]?=some (f (k+((c*i:Nat):Int)))
 | n+1,k,0,_=>by simp[mks]
 | n+1,k,i+1,h=>by
  rw[mks,KZ,ZnC f c n _ i (by omega)];congr 2;push_cast;rw[Int.mul_add];omega
theorem ZkJ {α:Type} (f:Int→α) (c:Nat):∀ (n:Nat) (k:Int),mks f c (n+1) k=mks f c n k++[f (k+((c*n:Nat):Int))]
 | 0,k=>by simp[mks]
 | n+1,k=>by
  rw[mks,ZkJ f c n (k+c),mks,KL];congr 3;push_cast;rw[Int.mul_add];congr 1;omega
def mkR {α:Type} (f:Int→α) (c:Nat) (k:Int) (l:List α) (i:Nat):List α:=mks f c i k++l.drop i
theorem Zjr {α:Type} (f:Int→α) (c:Nat) (k:Int) {l:List α} {i:Nat} (h:i≤l.length):(mkR f c k l i).length=l.length:=by simp[mkR,Wq];omega
theorem Zjs {α:Type} (f:Int→α) (c:Nat) (k:Int) {l:List α} {i:Nat} {x:α} (h:l[i]?=some x):(mkR f c k l i)[i]?=some x:=by
 unfold mkR;rw[Kt (by rw[Wq];omega),Wq,LN,KN];simpa using h
theorem Zrt {α:Type} (f:Int→α) (c:Nat) (k:Int) {l:List α} {i:Nat} (h:i<l.length):(mkR f c k l i).set i (f (k+((c*i:Nat):Int)))=mkR f c k l (i+1):=by
 unfold mkR;rw[List.set_append_right _ _ (by rw[Wq];omega),Wq,LN,ZkJ,KM,KB h];rfl
theorem Zjt {α:Type} (f:Int→α) (c:Nat) (k:Int) (l:List α):mkR f c k l l.length=mks f c l.length k:=by simp[mkR]
theorem ZfT {α:Type} (f:Int→α) (c:Nat) (k:Int) (l:List α):mkR f c k l 0=l:=by simp[mkR,mks]
theorem ZfU {α:Type} (g:α→D) (f:Int→α) (c:Nat) (k:Int) {l:List α} {i:Nat} (h:i<l.length):((mkR f c k l i).map g).set i (g (f (k+((c*i:Nat):Int))))=(mkR f c k l (i+1)).map g:=by
 rw[← List.map_set,Zrt f c k h]
theorem ZkK (bW bH:Int) (bT:Bool) (bK:Int):Zj Xs Ms Up [(.d (.agg [J bW,J bH,.bool bT,J bK]))] []=some ((.d (.agg [J bW,J bH,.bool bT,J bK])),[]):=by
 refine cE ?_;simp +contextual -implicitDefEqProofs (maxSteps:=10^7) only[go_sem,seval,↓gZ,ZcF]
theorem Zju (bX bY bW bH:Int):Zj Xs Ms JA [(.d (.agg [J bX,J bY,J bW,J bH])),(.d (.agg [J bX,J bY,J bW,J bH]))] []=some ((.d (.bool true)),[]):=by
 refine cE ?_;simp +contextual -implicitDefEqProofs (maxSteps:=10^7) only[go_sem,seval,↓gZ,Zea]
theorem ZhO (bW bH:Int) (bT:Bool) (bK:Int):Zj Xs Ms Uq [(.d (.agg [J bW,J bH,.bool bT,J bK])),(.d (.agg [J bW,J bH,.bool bT,J bK]))] []=some ((.d (.bool true)),[]):=by
 refine cE ?_;simp +contextual -implicitDefEqProofs (maxSteps:=10^7) only[go_sem,seval,↓gZ,ZcG,bNe,bne_self_eq_false]
end Go.Proofs.Ytighjmleicikhaa
