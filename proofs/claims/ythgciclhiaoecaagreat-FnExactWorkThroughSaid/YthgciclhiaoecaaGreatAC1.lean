/- Own text. -/
import Derived.Test.YthgciclhiaoecaaGreatACode
import Derived.Test.YthgciclhiaoecaaGreatAbsParts
import Derived.Test.YthgciclhiaoecaaGreatAbsOkD
namespace Go.Proofs.YthgciclhiaoecaaGreat
open Go Go.Abs Go.Abs.E Go.Abs.L
open Nat (reduceMul reduceSub reduceLeDiff reduceEqDiff)
open Int (reduceLE reduceEq reduceToNat reduceNeg)
set_option linter.unusedSimpArgs false
set_option linter.unusedVariables false
set_option maxRecDepth 20000
set_option maxHeartbeats 4000000
theorem ZJ (n lo hi:Int):Zd Xs Ms ZI [(.d (J n)),(.d (J lo)),(.d (J hi))] []=some ((.d (.bool ((decide (lo≤n∧n≤hi))))),[]):=by
 refine cE ?_;simp +contextual -implicitDefEqProofs (maxSteps:=10^7) only[go_sem,seval,↓gZ,Zg1]
theorem Zi1 (bX bY bW bH:Int):Zd Xs Ms Jx [(.d (.agg [J bX,J bY,J bW,J bH]))] []=some ((.d (.bool ((decide (VB (Box.mk bX bY bW bH)))))),[]):=by
 refine cE ?_;simp +contextual -implicitDefEqProofs (maxSteps:=10^7) only[go_sem,seval,↓gZ,Zfb,ZJ];have h1:=wi (200-bW);have h2:=wi (200-bH);exact ZcL (by simp only[VB];omega)
theorem X1 (bX bY bW bH:Int):Zd Xs Ms XX [(.d (.agg [J bX,J bY,J bW,J bH]))] []=some ((.d (.bool ((decide (VB (Box.mk bX bY bW bH)))))),[]):=by
 refine cE ?_;simp +contextual -implicitDefEqProofs (maxSteps:=10^7) only[go_sem,seval,↓gZ,Zfe];have h1:=wi (200-bW);have h2:=wi (200-bH);exact⟨fun h=>ZhX (by simp only[VB];omega),fun h=>ZcL (by simp only[VB];omega)⟩
theorem Zr8 (aX aY aW aH:Int) (bX bY bW bH:Int) (ha:VB (Box.mk aX aY aW aH)) (h1:R64 bX) (h2:R64 bY) (h3:R64 (bX+bW)) (h4:R64 (bY+bH)):Zd Xs Ms Jy [(.d (.agg [J aX,J aY,J aW,J aH])),(.d (.agg [J bX,J bY,J bW,J bH]))] []=some ((.d (.bool ((decide (QA (Box.mk aX aY aW aH) (Box.mk bX bY bW bH)))))),[]):=by
 refine cE ?_;simp only[VB] at ha;have e1:=wi (aX+aW) (by omega) (by omega);have e2:=wi (aY+aH) (by omega) (by omega);have e3:=wi (bX+bW) h3.1 h3.2;have e4:=wi (bY+bH) h4.1 h4.2;simp +contextual -implicitDefEqProofs (maxSteps:=10^7) only[go_sem,seval,↓gZ,Zfc,e1,e2,e3,e4];exact ZcL (by simp only[QA];omega)
theorem Zk2 (aX aY aW aH:Int) (bX bY bW bH:Int) (ha:VB (Box.mk aX aY aW aH)) (hb:VB (Box.mk bX bY bW bH)) (hm:X8 (Box.mk aX aY aW aH) (Box.mk bX bY bW bH)):Zd Xs Ms UH [(.d (.agg [J aX,J aY,J aW,J aH])),(.d (.agg [J bX,J bY,J bW,J bH]))] []=some (.tup [.d (ZgC (Box.mk aX aY aW aH) (Box.mk bX bY bW bH)).enc,(.d (.bool true))],[]):=by
 refine cE ?_;simp only[VB,X8] at ha hb hm;have e1:=wi (aX+aW) (by omega) (by omega);have e2:=wi (aY+aH) (by omega) (by omega);have e3:=wi (bX+bW) (by omega) (by omega);have e4:=wi (bY+bH) (by omega) (by omega);have e5:=wi (min (aX+aW) (bX+bW)-max aX bX) (by omega) (by omega);have e6:=wi (min (aY+aH) (bY+bH)-max aY bY) (by omega) (by omega);have n1:¬(min (aX+aW) (bX+bW)-max aX bX≤0):=by omega
 have n2:¬(min (aY+aH) (bY+bH)-max aY bY≤0):=by omega
 simp +contextual -implicitDefEqProofs (maxSteps:=10^7) only[go_sem,seval,↓gZ,Zfd,e1,e2,e3,e4,e5,e6,n1,n2,ZgC]
theorem ZnQ (aX aY aW aH:Int) (bX bY bW bH:Int) (ha:VB (Box.mk aX aY aW aH)) (hb:VB (Box.mk bX bY bW bH)) (hm:¬X8 (Box.mk aX aY aW aH) (Box.mk bX bY bW bH)):Zd Xs Ms UH [(.d (.agg [J aX,J aY,J aW,J aH])),(.d (.agg [J bX,J bY,J bW,J bH]))] []=some (.tup [.d (Box.enc ⟨0,0,0,0⟩),(.d (.bool false))],[]):=by
 refine cE ?_;simp only[VB,X8] at ha hb hm;have e1:=wi (aX+aW) (by omega) (by omega);have e2:=wi (aY+aH) (by omega) (by omega);have e3:=wi (bX+bW) (by omega) (by omega);have e4:=wi (bY+bH) (by omega) (by omega);have e5:=wi (min (aX+aW) (bX+bW)-max aX bX) (by omega) (by omega);have e6:=wi (min (aY+aH) (bY+bH)-max aY bY) (by omega) (by omega);have n1:min (aX+aW) (bX+bW)-max aX bX≤0∨min (aY+aH) (bY+bH)-max aY bY≤0:=by omega
 simp +contextual -implicitDefEqProofs (maxSteps:=10^7) only[go_sem,seval,↓gZ,Zfd,e1,e2,e3,e4,e5,e6];omega
theorem ZbB (aX aY aW aH:Int) (bX bY bW bH:Int) (ha:VB (Box.mk aX aY aW aH)) (hb:VB (Box.mk bX bY bW bH)) (hm:X8 (Box.mk aX aY aW aH) (Box.mk bX bY bW bH)):Zd Xs Ms Vn [(.d (.agg [J aX,J aY,J aW,J aH])),(.d (.agg [J bX,J bY,J bW,J bH]))] []=some (.tup [.d (ZgC (Box.mk aX aY aW aH) (Box.mk bX bY bW bH)).enc,(.d (.bool true))],[]):=by
 refine cE ?_;have aa:=ha;have ab:=hb;simp only[VB,X8] at aa ab hm;have e1:=wi (aX+aW) (by omega) (by omega);have e2:=wi (aY+aH) (by omega) (by omega);have e3:=wi (bX+bW) (by omega) (by omega);have e4:=wi (bY+bH) (by omega) (by omega);have e5:=wi (min (aX+aW) (bX+bW)-max aX bX) (by omega) (by omega);have e6:=wi (min (aY+aH) (bY+bH)-max aY bY) (by omega) (by omega);have n1:¬(min (aX+aW) (bX+bW)≤max aX bX):=by omega
 have n2:¬(min (aY+aH) (bY+bH)≤max aY bY):=by omega
 simp +contextual -implicitDefEqProofs (maxSteps:=10^7) only[go_sem,seval,↓gZ,Zau,X1,ha,hb,e1,e2,e3,e4,e5,e6,n1,n2,ZgC]
theorem Zdc (aX aY aW aH:Int) (bX bY bW bH:Int) (hm:¬(VB (Box.mk aX aY aW aH)∧VB (Box.mk bX bY bW bH)∧X8 (Box.mk aX aY aW aH) (Box.mk bX bY bW bH))):Zd Xs Ms Vn [(.d (.agg [J aX,J aY,J aW,J aH])),(.d (.agg [J bX,J bY,J bW,J bH]))] []=some (.tup [.d (Box.enc ⟨0,0,0,0⟩),(.d (.bool false))],[]):=by
 refine cE ?_;by_cases ha:VB (Box.mk aX aY aW aH)
 ·by_cases hb:VB (Box.mk bX bY bW bH)
  ·have aa:=ha;have ab:=hb;simp only[ha,hb,true_and] at hm;simp only[VB,X8] at aa ab hm;have e1:=wi (aX+aW) (by omega) (by omega);have e2:=wi (aY+aH) (by omega) (by omega);have e3:=wi (bX+bW) (by omega) (by omega);have e4:=wi (bY+bH) (by omega) (by omega);simp +contextual -implicitDefEqProofs (maxSteps:=10^7) only[go_sem,seval,↓gZ,Zau,X1,ha,hb,e1,e2,e3,e4];omega
  ·simp +contextual -implicitDefEqProofs (maxSteps:=10^7) only[go_sem,seval,↓gZ,Zau,X1,ha,hb]
 ·simp +contextual -implicitDefEqProofs (maxSteps:=10^7) only[go_sem,seval,↓gZ,Zau,X1,ha]
theorem ZaJ (aX aY aW aH:Int) (bX bY bW bH:Int):Zd Xs Ms Yv [(.d (.agg [J aX,J aY,J aW,J aH])),(.d (.agg [J bX,J bY,J bW,J bH]))] []=some ((.d (.bool ((decide (VB (Box.mk aX aY aW aH)∧VB (Box.mk bX bY bW bH)∧QA (Box.mk aX aY aW aH) (Box.mk bX bY bW bH)))))),[]):=by
 refine cE ?_;by_cases hm:VB (Box.mk aX aY aW aH)∧VB (Box.mk bX bY bW bH)∧X8 (Box.mk aX aY aW aH) (Box.mk bX bY bW bH)
 ·obtain⟨ha,hb,hm⟩:=hm;simp +contextual -implicitDefEqProofs (maxSteps:=10^7) only[go_sem,seval,↓gZ,ZbI,ZbB _ _ _ _ _ _ _ _ ha hb hm,ZgC];simp only[VB] at ha hb;simp only[X8] at hm;exact ZcL (by simp only[VB,QA];omega)
 ·simp +contextual -implicitDefEqProofs (maxSteps:=10^7) only[go_sem,seval,↓gZ,ZbI,Zdc _ _ _ _ _ _ _ _ hm];have:¬(VB (Box.mk aX aY aW aH)∧VB (Box.mk bX bY bW bH)∧QA (Box.mk aX aY aW aH) (Box.mk bX bY bW bH)):=by
   intro⟨h1,h2,h3⟩;refine hm ⟨h1,h2,?_⟩;simp only[VB,QA] at h1 h2 h3;simp only[X8];omega
  exact ZhX this
theorem Zb3 (pW pH:Int) (pT:Bool) (pK:Int):Zd Xs Ms YI [(.d (.agg [J pW,J pH,.bool pT,J pK]))] []=some ((.d (.bool ((decide (VP (Pane.mk pW pH pT pK)))))),[]):=by
 refine cE ?_;simp +contextual -implicitDefEqProofs (maxSteps:=10^7) only[go_sem,seval,↓gZ,ZdU,ZJ]
 first | exact ZcL (by simp only[VP];omega) | skip
theorem U9 (pW pH:Int) (pT:Bool) (pK:Int):Zd Xs Ms X4 [(.d (.agg [J pW,J pH,.bool pT,J pK]))] []=some ((.d (.bool ((decide (VP (Pane.mk pW pH pT pK)))))),[]):=by
 refine cE ?_;simp +contextual -implicitDefEqProofs (maxSteps:=10^7) only[go_sem,seval,↓gZ,ZdS]
 first | exact ZcL (by simp only[VP];omega) | skip
def Xk:Nat→List Int→Int→Int
 | _,[],_=>-1
 | k,x :: l,n=>if x=n then (k:Int) else Xk (k+1) l n
theorem ZpE {l:List Int} {k:Nat} {x n:Int} (hx:l[k]?=some x):Xk k (l.drop k) n=if x=n then (k:Int) else Xk (k+1) (l.drop (k+1)) n:=by
 have h:=(Kc.1 hx)
 obtain⟨h1,h2⟩:=h;rw[Ks h1,h2,Xk]
theorem Zk3 (l:List Int) (n:Int) (hl:l.length<4611686018427387904):Zd Xs Ms Za7 [.d (.sl (l.map ZcM)),(.d (J n))] []=some ((.d (J (Xk 0 l n))),[]):=by
 refine cE ?_;simp +contextual -implicitDefEqProofs (maxSteps:=10^7) only[go_sem,seval,↓gZ,Zg8];refine LO (α:=Nat) (fun k=>[(5,.d (J (k:Int)))]) (fun _=>[]) (fun k=>k≤l.length∧Xk k (l.drop k) n=Xk 0 l n) (fun k=>l.length-k) 0 ⟨by omega,rfl⟩ ?_;intro k ⟨hk,hp⟩ ih;by_cases aa:k<l.length
 ·obtain⟨x,hx⟩:=Zo aa;rw[ZpE hx] at hp;have hw:=Zh (k:=k) (by omega);simp +contextual -implicitDefEqProofs (maxSteps:=10^7) only[go_sem,seval,↓gZ,hx,aa,hw];refine⟨fun h=>?_,fun h=>ih (k+1) _ ⟨by omega,?_⟩ (by omega) ?_⟩
  ·rw[Kj h] at hp;rw[← hp]
  ·rw[Kg h] at hp;exact hp
  ·simp +contextual -implicitDefEqProofs (maxSteps:=10^7) only[go_sem,seval,↓gZ]
 ·have:k=l.length:=by omega
  subst this;simp +contextual -implicitDefEqProofs (maxSteps:=10^7) only[go_sem,seval,↓gZ];rw[← hp];simp[Xk]
theorem Q1 (pO pA pP:Int) (pT:Bool) (pK:List D):Zd Xs Ms ZbX [.d (.agg [J pO,J pA,J pP,.bool pT,.sl pK])] []=some ((.d (.bool (decide (pO=2∨pO=3)))),[]):=by
 refine cE ?_;simp +contextual -implicitDefEqProofs (maxSteps:=10^7) only[go_sem,seval,↓gZ,Zm9]
theorem Wa (pO pA pP:Int) (pT:Bool) (pK:List D):Zd Xs Ms Zeq [.d (.agg [J pO,J pA,J pP,.bool pT,.sl pK])] []=some ((.d (.bool (decide (pO=2∨pO=3)))),[]):=by
 refine cE ?_;simp +contextual -implicitDefEqProofs (maxSteps:=10^7) only[go_sem,seval,↓gZ,Zna]
theorem Zb4:∀ (n:Nat) (p:Ze),p.nodes≤n→Zd Xs Ms Vp [.d p.enc] []=some ((.d (J (Zv 255 (Yj p)))),[])
 | 0,.mk o a p t ks,hn=>by simp[Ze.nodes] at hn
 | n+1,.mk o a p t ks,hn=>by
  by_cases ho:o=2∨o=3
  ·by_cases hk:ks.length=2
   ·obtain⟨x,hx⟩:=Zo (l:=ks) (k:=0) (by omega);obtain⟨y,hy⟩:=Zo (l:=ks) (k:=1) (by omega);have aa:=Zb4 n x (ZeH hn hx);have ab:=Zb4 n y (ZeH hn hy);rw[ZtJ ho hk hx hy];obtain⟨lx,ae⟩:∃ l,l=Yj x:=⟨_,rfl⟩
    obtain⟨ly,af⟩:∃ l,l=Yj y:=⟨_,rfl⟩
    rw[← ae] at aa ⊢;rw[← af] at ab ⊢;have rx:=ZbO 255 (by omega) lx;have ry:=ZbO 255 (by omega) ly;have ad:(ks.length:Int)=2:=by omega
    by_cases hp:p=0
    ·cases t with
     | true=>
      have hb:=ZfL 255 o a p true lx ly (by simp);rw[hb];refine cE ?_;simp +contextual -implicitDefEqProofs (maxSteps:=10^7) only[go_sem,seval,↓gZ,QF,Q1,ho,hp]
     | false=>
      subst hp;rw[ZxM];obtain⟨sx,ag⟩:∃ s,s=Zv 255 lx:=⟨_,rfl⟩
      obtain⟨sy,ah⟩:∃ s,s=Zv 255 ly:=⟨_,rfl⟩
      rw[← ag] at aa rx ⊢;rw[← ah] at ab ry ⊢;have w1:=wi (1+sx) (by omega) (by omega);have w2:=wi (1+sx+sy) (by omega) (by omega);refine cE ?_;simp +contextual -implicitDefEqProofs (maxSteps:=10^7) only[go_sem,seval,↓gZ,QF,Q1,ho,ad];refine ZP Xs Ms ?_;simp +contextual -implicitDefEqProofs (maxSteps:=10^7) only[go_sem,seval,↓gZ,ad,hx,hy,aa,ab,w1,w2];intro h;refine ZP Xs Ms ?_;simp +contextual -implicitDefEqProofs (maxSteps:=10^7) only[go_sem,seval,↓gZ,ad,hx,hy,aa,ab,w1,w2,h];intro h';refine ZP Xs Ms ?_;simp +contextual -implicitDefEqProofs (maxSteps:=10^7) only[go_sem,seval,↓gZ,ad,hx,hy,aa,ab,w1,w2,h,h']
    ·have hb:=ZfL 255 o a p t lx ly (by simp[hp]);rw[hb];refine cE ?_;simp +contextual -implicitDefEqProofs (maxSteps:=10^7) only[go_sem,seval,↓gZ,QF,Q1,ho,hp]
   ·rw[Znw _ _ _ _ _ ho hk];refine cE ?_;have ai : ¬(ks.length:Int)=2:=by omega
    simp +contextual -implicitDefEqProofs (maxSteps:=10^7) only[go_sem,seval,↓gZ,QF,Q1,ho,ai,Zv]
  ·rw[Zrx ho];by_cases h1:ks.length=0∧a=0∧o=1
   ·rw[Kj h1];obtain⟨h1,rfl,rfl⟩:=h1;refine cE ?_;simp +contextual -implicitDefEqProofs (maxSteps:=10^7) only[go_sem,seval,↓gZ,QF,Q1,ho,h1,Zv,BT.cnt];refine ZP Xs Ms ?_;simp +contextual -implicitDefEqProofs (maxSteps:=10^7) only[go_sem,seval,↓gZ,h1]
   ·rw[Kg h1];by_cases h2:ks.length=0∧a=0∧o=0∧p=0∧t=false
    ·rw[Kj h2];obtain⟨h2,rfl,rfl,rfl,rfl⟩:=h2;refine cE ?_;simp +contextual -implicitDefEqProofs (maxSteps:=10^7) only[go_sem,seval,↓gZ,QF,Q1,ho,h2,Zv,BT.cnt];refine ZP Xs Ms ?_;simp +contextual -implicitDefEqProofs (maxSteps:=10^7) only[go_sem,seval,↓gZ,h2]
    ·rw[Kg h2];by_cases c1:ks.length=0
     ·by_cases c2:a=0
      ·by_cases c3:o=1
       ·exact absurd ⟨c1,c2,c3⟩ h1
       ·by_cases c4:o=0
        ·by_cases c5:p=0
         ·cases t with
          | false=>exact absurd ⟨c1,c2,c4,c5,rfl⟩ h2
          | true=>
           refine cE ?_;simp +contextual -implicitDefEqProofs (maxSteps:=10^7) only[go_sem,seval,↓gZ,QF,Q1,ho,c1,c2,c3,c4,c5,Zv]
         ·refine cE ?_;simp +contextual -implicitDefEqProofs (maxSteps:=10^7) only[go_sem,seval,↓gZ,QF,Q1,ho,c1,c2,c3,c4,c5,Zv]
        ·refine cE ?_;simp +contextual -implicitDefEqProofs (maxSteps:=10^7) only[go_sem,seval,↓gZ,QF,Q1,ho,c1,c2,c3,c4,Zv]
      ·refine cE ?_;simp +contextual -implicitDefEqProofs (maxSteps:=10^7) only[go_sem,seval,↓gZ,QF,Q1,ho,c1,c2,Zv]
     ·have aj : ¬(ks.length:Int)=0:=by omega
      refine cE ?_;simp +contextual -implicitDefEqProofs (maxSteps:=10^7) only[go_sem,seval,↓gZ,QF,Q1,ho,aj,Zv]
theorem Zr9 (p:Ze):Zd Xs Ms Vp [.d p.enc] []=some ((.d (J (Zv 255 (Yj p)))),[]):=Zb4 _ p (Kl _)
theorem ZoW (ps:List Pane) (hl:ps.length<4611686018427387904):Zd Xs Ms Wn [(.d (.sl (ps.map Pane.enc)))] []=some ((.d (.bool (decide (ps.length≤24∧VPs ps)))),[]):=by
 refine cE ?_;simp +contextual -implicitDefEqProofs (maxSteps:=10^7) only[go_sem,seval,↓gZ,ZcD];refine LO (α:=Nat) (fun k=>[(3,.d (J (k:Int)))]) (fun _=>[]) (fun k=>k≤ps.length∧(VPs ps↔VPs (ps.drop k))) (fun k=>ps.length-k) 0 ⟨by omega,by simp⟩ ?_;intro k ⟨hk,hp⟩ ih;by_cases aa:k<ps.length
 ·obtain⟨x,hx⟩:=Zo aa;rw[ZwF hx] at hp;have hw:=Zh (k:=k) (by omega);simp +contextual -implicitDefEqProofs (maxSteps:=10^7) only[go_sem,seval,↓gZ,hx,aa,hw,Zb3];refine⟨fun h=>ZhX (fun hh=>h (hp.1 hh.2).1),fun h=>ih (k+1) _ ⟨by omega,?_⟩ (by omega) ?_⟩
  ·rw[hp];exact⟨fun hh=>hh.2,fun hh=>⟨h,hh⟩⟩
  ·simp +contextual -implicitDefEqProofs (maxSteps:=10^7) only[go_sem,seval,↓gZ]
 ·have:k=ps.length:=by omega
  subst this;simp +contextual -implicitDefEqProofs (maxSteps:=10^7) only[go_sem,seval,↓gZ];have hv:VPs ps:=hp.2 (by simp[VPs]);exact ZcL ⟨fun h=>⟨by omega,hv⟩,fun h=>by omega⟩
theorem Ja (kW kH:Int) (kP:List Pane) (hl:kP.length<4611686018427387904):Zd Xs Ms Uq [(.d (.agg [J kW,J kH,.sl (kP.map Pane.enc)]))] []=some ((.d (.bool (decide (VW (Zt.mk kW kH kP))))),[]):=by
 refine cE ?_;simp +contextual -implicitDefEqProofs (maxSteps:=10^7) only[go_sem,seval,↓gZ,Zd2,ZJ,ZoW kP hl];exact ZcL (by simp only[VW,and_assoc])
theorem Wb (kW kH:Int) (kP:List Pane):Zd Xs Ms VI [(.d (.agg [J kW,J kH,.sl (kP.map Pane.enc)]))] []=some ((.d (.bool (decide (VW (Zt.mk kW kH kP))))),[]):=by
 refine cE ?_;by_cases h0:((((kW<1∨200<kW)∨kH<1)∨200<kH)∨(24:Int)<kP.length)
 ·simp +contextual -implicitDefEqProofs (maxSteps:=10^7) only[go_sem,seval,↓gZ,ZaR,h0];exact ZhX (by simp only[VW];omega)
 ·simp +contextual -implicitDefEqProofs (maxSteps:=10^7) only[go_sem,seval,↓gZ,ZaR,h0];refine LO (α:=Nat) (fun k=>[(32,.d (J (k:Int)))]) (fun _=>[]) (fun k=>k≤kP.length∧(VPs kP↔VPs (kP.drop k))) (fun k=>kP.length-k) 0 ⟨by omega,by simp⟩ ?_;intro k ⟨hk,hp⟩ ih;by_cases aa:k<kP.length
  ·obtain⟨x,hx⟩:=Zo aa;rw[ZwF hx] at hp;have hw:=Zh (k:=k) (by omega);simp +contextual -implicitDefEqProofs (maxSteps:=10^7) only[go_sem,seval,↓gZ,hx,aa,hw,U9];refine⟨fun h=>ZhX (fun hh=>h (hp.1 hh.2.2.2.2.2).1),fun h=>ih (k+1) _ ⟨by omega,?_⟩ (by omega) ?_⟩
   ·rw[hp];exact⟨fun hh=>hh.2,fun hh=>⟨h,hh⟩⟩
   ·simp +contextual -implicitDefEqProofs (maxSteps:=10^7) only[go_sem,seval,↓gZ,h0]
  ·have:k=kP.length:=by omega
   subst this;simp +contextual -implicitDefEqProofs (maxSteps:=10^7) only[go_sem,seval,↓gZ];have hv:VPs kP:=hp.2 (by simp[VPs]);exact ZyL (by simp only[VW];exact⟨by omega,by omega,by omega,by omega,by omega,hv⟩)
theorem Zak:∀ (n:Nat) (p:Ze),p.nodes≤n→∀ m:Int,-10≤m→m≤255→Zd Xs Ms Yh [.d p.enc,(.d (J m))] []=some ((.d (J (Zv m (Yj p)))),[])
 | 0,.mk o a p t ks,hn,m,_,_=>by simp[Ze.nodes] at hn
 | n+1,.mk o a p t ks,hn,m,hm1,hm2=>by
  by_cases hm:m<1
  ·rw[ZxN hm];refine cE ?_;simp +contextual -implicitDefEqProofs (maxSteps:=10^7) only[go_sem,seval,↓gZ,ZL,hm]
  by_cases ho:o=2∨o=3
  ·have al:¬o=0:=by omega
   have am:¬o=1:=by omega
   by_cases hk:ks.length=2
   ·obtain⟨x,hx⟩:=Zo (l:=ks) (k:=0) (by omega);obtain⟨y,hy⟩:=Zo (l:=ks) (k:=1) (by omega);rw[ZtJ ho hk hx hy];have aa:(ks.length:Int)=2:=by omega
    by_cases hp:p=0
    ·cases t with
     | true=>
      have hb:=ZfL m o a p true (Yj x) (Yj y) (by simp);rw[hb];refine cE ?_;rcases ho with ho | ho<;>simp +contextual -implicitDefEqProofs (maxSteps:=10^7) only[go_sem,seval,↓gZ,ZL,ho,hp,hm,aa]
     | false=>
      subst hp;rw[ZwE];have ag:=Zak n x (ZeH hn hx) (m-1) (by omega) (by omega);have rx:=ZbO (m-1) (by omega) (Yj x);have ab:=Zak n y (ZeH hn hy) (m-1-Zv (m-1) (Yj x)) (by omega) (by omega);have ry:=ZbO (m-1-Zv (m-1) (Yj x)) (by omega) (Yj y);obtain⟨sy,ah⟩:∃ s,s=Zv (m-1-Zv (m-1) (Yj x)) (Yj y):=⟨_,rfl⟩
      rw[← ah] at ab ry ⊢;obtain⟨sx,ai⟩:∃ s,s=Zv (m-1) (Yj x):=⟨_,rfl⟩
      rw[← ai] at ag ab rx ry ⊢;clear ai ah;have w0:=wi (m-1) (by omega) (by omega);have w1:=wi (m-1-sx) (by omega) (by omega);have w2:=wi (1+sx) (by omega) (by omega);have w3:=wi (1+sx+sy) (by omega) (by omega);refine cE ?_;rcases ho with ho | ho<;>simp +contextual -implicitDefEqProofs (maxSteps:=10^7) only[go_sem,seval,↓gZ,ZL,ho,hm,aa,hx,hy,ag,ab,w0,w1,w2,w3]
    ·have hb:=ZfL m o a p t (Yj x) (Yj y) (by simp[hp]);rw[hb];refine cE ?_;rcases ho with ho | ho<;>simp +contextual -implicitDefEqProofs (maxSteps:=10^7) only[go_sem,seval,↓gZ,ZL,ho,hp,hm,aa]
   ·rw[Znw _ _ _ _ _ ho hk];have ak : ¬(ks.length:Int)=2:=by omega
    refine cE ?_;rcases ho with ho | ho<;>simp +contextual -implicitDefEqProofs (maxSteps:=10^7) only[go_sem,seval,↓gZ,ZL,ho,ak,hm,Zv]
  ·rw[Zrx ho];have ad : ¬o=2:=by omega
   have ae : ¬o=3:=by omega
   have aj : (1:Int)≤m:=by omega
   by_cases h1:ks.length=0∧a=0∧o=1
   ·rw[Kj h1];obtain⟨h1,rfl,rfl⟩:=h1;refine cE ?_;simp +contextual -implicitDefEqProofs (maxSteps:=10^7) only[go_sem,seval,↓gZ,ZL,h1,hm,Zv,BT.cnt,aj]
   ·rw[Kg h1];by_cases h2:ks.length=0∧a=0∧o=0∧p=0∧t=false
    ·rw[Kj h2];obtain⟨h2,rfl,rfl,rfl,rfl⟩:=h2;refine cE ?_;simp +contextual -implicitDefEqProofs (maxSteps:=10^7) only[go_sem,seval,↓gZ,ZL,h2,hm,Zv,BT.cnt,aj]
    ·rw[Kg h2];by_cases c1:ks.length=0
     ·by_cases c2:a=0
      ·by_cases c3:o=1
       ·exact absurd ⟨c1,c2,c3⟩ h1
       ·by_cases c4:o=0
        ·by_cases c5:p=0
         ·cases t with
          | false=>exact absurd ⟨c1,c2,c4,c5,rfl⟩ h2
          | true=>
           refine cE ?_;simp +contextual -implicitDefEqProofs (maxSteps:=10^7) only[go_sem,seval,↓gZ,ZL,hm,c1,c2,c3,c4,c5,Zv]
         ·refine cE ?_;simp +contextual -implicitDefEqProofs (maxSteps:=10^7) only[go_sem,seval,↓gZ,ZL,hm,c1,c2,c3,c4,c5,Zv]
        ·refine cE ?_;simp +contextual -implicitDefEqProofs (maxSteps:=10^7) only[go_sem,seval,↓gZ,ZL,hm,c1,c2,c3,c4,ad,ae,Zv]
      ·refine cE ?_;by_cases c3:o=1
       ·simp +contextual -implicitDefEqProofs (maxSteps:=10^7) only[go_sem,seval,↓gZ,ZL,hm,c1,c2,c3,Zv]
       ·by_cases c4:o=0
        ·simp +contextual -implicitDefEqProofs (maxSteps:=10^7) only[go_sem,seval,↓gZ,ZL,hm,c1,c2,c3,c4,Zv]
        ·simp +contextual -implicitDefEqProofs (maxSteps:=10^7) only[go_sem,seval,↓gZ,ZL,hm,c1,c2,c3,c4,ad,ae,Zv]
     ·have af : ¬(ks.length:Int)=0:=by omega
      refine cE ?_;by_cases c3:o=1
      ·simp +contextual -implicitDefEqProofs (maxSteps:=10^7) only[go_sem,seval,↓gZ,ZL,hm,af,c3,Zv]
      ·by_cases c4:o=0
       ·simp +contextual -implicitDefEqProofs (maxSteps:=10^7) only[go_sem,seval,↓gZ,ZL,hm,af,c3,c4,Zv]
       ·simp +contextual -implicitDefEqProofs (maxSteps:=10^7) only[go_sem,seval,↓gZ,ZL,hm,af,c3,c4,ad,ae,Zv]
theorem Zsa (p:Ze):Zd Xs Ms JH [.d p.enc] []=some ((.d (J (Zv 255 (Yj p)))),[]):=by
 have h:=Zak _ p (Kl _) 255 (by omega) (by omega);obtain⟨o,a,q,t,ks⟩:=p;rw[Ze.enc_mk] at h ⊢;refine cE ?_;simp +contextual -implicitDefEqProofs (maxSteps:=10^7) only[go_sem,seval,↓gZ,Zfp,h]
theorem ZbC (kW kH:Int) (kP:List Pane):Zd Xs Ms Ve [(.d (.agg [J kW,J kH,.sl (kP.map Pane.enc)]))] []=some (.d (.agg [J 0,J 0,J kW,J kH]),[]):=by
 refine cE ?_;simp +contextual -implicitDefEqProofs (maxSteps:=10^7) only[go_sem,seval,↓gZ,Zg7]
theorem Zi2 {ps:List Pane} {i:Int} {t:Bool} {w h:Int} {k:Nat} {q:Pane} (hi:i=(k:Int)) (hq:ps[k]?=some q):XT ps i t w h=if t then q.Turns&&decide (¬q.W=q.H)&&decide (q.H=w)&&decide (q.W=h) else decide (q.W=w∧q.H=h):=by
 subst hi;simp[XT,hq]
theorem ZeQ {ps:List Pane} {i:Int} {t:Bool} {w h:Int} (hi:i<0∨(ps.length:Int)≤i):XT ps i t w h=false:=by
 unfold XT;rcases hi with hi | hi
 ·have:¬0≤i:=by omega
  simp[this]
 ·have:ps[i.toNat]?=none:=KN (by omega);simp[this]
theorem ZgF (kW kH:Int) (kP:List Pane) (i:Int) (t:Bool) (w h:Int):Zd Xs Ms VJ [(.d (.agg [J kW,J kH,.sl (kP.map Pane.enc)])),(.d (J i)),(.d (.bool t)),(.d (J w)),(.d (J h))] []=some ((.d (.bool (XT kP i t w h))),[]):=by
 by_cases h0:i<0
 ·rw[ZeQ (.inl h0)];refine cE ?_;simp +contextual -implicitDefEqProofs (maxSteps:=10^7) only[go_sem,seval,↓gZ,VN,h0]
 ·by_cases h1:(kP.length:Int)≤i
  ·rw[ZeQ (.inr h1)];refine cE ?_;simp +contextual -implicitDefEqProofs (maxSteps:=10^7) only[go_sem,seval,↓gZ,VN,h0,h1]
  ·obtain⟨n,rfl⟩:∃ n:Nat,i=(n:Int):=⟨i.toNat,by omega⟩
   obtain⟨q,hq⟩:=Zo (l:=kP) (k:=n) (by omega);have hn:¬kP.length≤n:=by omega
   have aa : n<kP.length:=by omega
   have ab:¬(n:Int)<0:=by omega
   rw[Zi2 rfl hq];refine cE ?_;cases t
   ·simp +contextual -implicitDefEqProofs (maxSteps:=10^7) only[go_sem,seval,↓gZ,VN,ab,hn,hq,aa]
   ·simp +contextual -implicitDefEqProofs (maxSteps:=10^7) only[go_sem,seval,↓gZ,VN,ab,hn,hq,aa]
theorem Zbh (o a p:Int) (t:Bool) (ks:List D) (gX gY gW gH:Int) (ho:o=2) (h1:R64 (gX+a)) (h2:R64 (gW-a)):Zd Xs Ms XY [.d (.agg [J o,J a,J p,.bool t,.sl ks]),(.d (.agg [J gX,J gY,J gW,J gH]))] [] =
  some (.tup [.d (.agg [J gX,J gY,J a,J gH]),.d (.agg [J (gX+a),J gY,J (gW-a),J gH])],[]):=by
 have w1:=wi (gX+a) h1.1 h1.2;have w2:=wi (gW-a) h2.1 h2.2;refine cE ?_;simp +contextual -implicitDefEqProofs (maxSteps:=10^7) only[go_sem,seval,↓gZ,WT,ho,w1,w2]
theorem Jb (o a p:Int) (t:Bool) (ks:List D) (gX gY gW gH:Int) (ho:¬o=2) (h1:R64 (gY+a)) (h2:R64 (gH-a)):Zd Xs Ms XY [.d (.agg [J o,J a,J p,.bool t,.sl ks]),(.d (.agg [J gX,J gY,J gW,J gH]))] [] =
  some (.tup [.d (.agg [J gX,J gY,J gW,J a]),.d (.agg [J gX,J (gY+a),J gW,J (gH-a)])],[]):=by
 have w1:=wi (gY+a) h1.1 h1.2;have w2:=wi (gH-a) h2.1 h2.2;refine cE ?_;simp +contextual -implicitDefEqProofs (maxSteps:=10^7) only[go_sem,seval,↓gZ,WT,ho,w1,w2]
def inB (g:Box):Prop:=0≤g.X∧0≤g.Y∧0≤g.W∧0≤g.H∧g.X+g.W≤1000∧g.Y+g.H≤1000
theorem W7 (kW kH:Int) (kP:List Pane):∀ (b:BT) (gX gY gW gH:Int),inB (Box.mk gX gY gW gH)→Zd Xs Ms Vq [(.d (.agg [J kW,J kH,.sl (kP.map Pane.enc)])),.d b.plan.enc,(.d (.agg [J gX,J gY,J gW,J gH]))] []=some ((.d (.bool (XU kP b gW gH))),[])
 | .waste,gX,gY,gW,gH,hg=>by
  simp only[BT.plan,Ze.enc_mk];refine cE ?_;simp +contextual -implicitDefEqProofs (maxSteps:=10^7) only[go_sem,seval,↓gZ,XA,XU]
 | .pane i t,gX,gY,gW,gH,hg=>by
  simp only[BT.plan,Ze.enc_mk];refine cE ?_;simp +contextual -implicitDefEqProofs (maxSteps:=10^7) only[go_sem,seval,↓gZ,XA,ZgF,XU]
 | .cut d a l r,gX,gY,gW,gH,hg=>by
  simp only[inB] at hg;simp only[BT.plan,Ze.enc_mk];cases d with
  | true=>
   by_cases h1:a<1
   ·have h2:¬(1≤a∧a≤gW-1):=by omega
    refine cE ?_;simp +contextual -implicitDefEqProofs (maxSteps:=10^7) only[go_sem,seval,↓gZ,XA,XU,Ql,h1,h2]
   ·by_cases h2:gW≤a
    ·have h3:¬(1≤a∧a≤gW-1):=by omega
     refine cE ?_;simp +contextual -implicitDefEqProofs (maxSteps:=10^7) only[go_sem,seval,↓gZ,XA,XU,Ql,h1,h2,h3]
    ·have h3:1≤a∧a≤gW-1:=by omega
     have e0:=Zbh 2 a 0 false [l.plan.enc,r.plan.enc] gX gY gW gH rfl ⟨by omega,by omega⟩ ⟨by omega,by omega⟩;have e1:=W7 kW kH kP l gX gY a gH (by simp only[inB];omega);have e2:=W7 kW kH kP r (gX+a) gY (gW-a) gH (by simp only[inB];omega);refine cE ?_;simp +contextual -implicitDefEqProofs (maxSteps:=10^7) only[go_sem,seval,↓gZ,XA,XU,Ql,h1,h2,h3,e0,e1,e2]
  | false=>
   by_cases h1:a<1
   ·have h2:¬(1≤a∧a≤gH-1):=by omega
    refine cE ?_;simp +contextual -implicitDefEqProofs (maxSteps:=10^7) only[go_sem,seval,↓gZ,XA,XU,Ql,h1,h2]
   ·by_cases h2:gH≤a
    ·have h3:¬(1≤a∧a≤gH-1):=by omega
     refine cE ?_;simp +contextual -implicitDefEqProofs (maxSteps:=10^7) only[go_sem,seval,↓gZ,XA,XU,Ql,h1,h2,h3]
    ·have h3:1≤a∧a≤gH-1:=by omega
     have e0:=Jb 3 a 0 false [l.plan.enc,r.plan.enc] gX gY gW gH (by decide) ⟨by omega,by omega⟩ ⟨by omega,by omega⟩;have e1:=W7 kW kH kP l gX gY gW a (by simp only[inB];omega);have e2:=W7 kW kH kP r gX (gY+a) gW (gH-a) (by simp only[inB];omega);refine cE ?_;simp +contextual -implicitDefEqProofs (maxSteps:=10^7) only[go_sem,seval,↓gZ,XA,XU,Ql,h1,h2,h3,e0,e1,e2]
theorem ZoX (kW kH:Int) (kP:List Pane) (i:Int) (t:Bool) (w h:Int) (hl:kP.length<4611686018427387904):Zd Xs Ms Xx [(.d (.agg [J kW,J kH,.sl (kP.map Pane.enc)])),.d (BT.pane i t).plan.enc,(.d (J w)),(.d (J h))] []=some ((.d (.bool (XT kP i t w h))),[]):=by
 have hw:=wi ((kP.length:Int)-1) (by omega) (by omega);simp only[BT.plan,Ze.enc_mk];by_cases h0:0≤i∧i≤(kP.length:Int)-1
 ·obtain⟨n,rfl⟩:∃ n:Nat,i=(n:Int):=⟨i.toNat,by omega⟩
  obtain⟨q,hq⟩:=Zo (l:=kP) (k:=n) (by omega);rw[Zi2 rfl hq];refine cE ?_;cases t
  ·simp +contextual -implicitDefEqProofs (maxSteps:=10^7) only[go_sem,seval,↓gZ,Xy,ZJ,h0,hw,hq]
  ·simp +contextual -implicitDefEqProofs (maxSteps:=10^7) only[go_sem,seval,↓gZ,Xy,ZJ,h0,hw,hq]
 ·rw[ZeQ (by omega)];refine cE ?_;simp +contextual -implicitDefEqProofs (maxSteps:=10^7) only[go_sem,seval,↓gZ,Xy,ZJ,h0,hw]
theorem W8 (kW kH:Int) (kP:List Pane) (hl:kP.length<4611686018427387904):∀ (b:BT) (w h:Int),0≤w→w≤1000→0≤h→h≤1000→Zd Xs Ms Xx [(.d (.agg [J kW,J kH,.sl (kP.map Pane.enc)])),.d b.plan.enc,(.d (J w)),(.d (J h))] []=some ((.d (.bool (XU kP b w h))),[])
 | .waste,w,h,hw0,hw1,hh0,hh1=>by
  simp only[BT.plan,Ze.enc_mk];refine cE ?_;simp +contextual -implicitDefEqProofs (maxSteps:=10^7) only[go_sem,seval,↓gZ,Xy,XU]
 | .pane i t,w,h,hw0,hw1,hh0,hh1=>ZoX kW kH kP i t w h hl
 | .cut d a l r,w,h,hw0,hw1,hh0,hh1=>by
  have w1:=wi (w-1) (by omega) (by omega);have w2:=wi (h-1) (by omega) (by omega);simp only[BT.plan,Ze.enc_mk];cases d with
  | true=>
   by_cases h3:1≤a∧a≤w-1
   ·have w3:=wi (w-a) (by omega) (by omega);have e1:=W8 kW kH kP hl l a h (by omega) (by omega) hh0 hh1;have e2:=W8 kW kH kP hl r (w-a) h (by omega) (by omega) hh0 hh1;refine cE ?_;simp +contextual -implicitDefEqProofs (maxSteps:=10^7) only[go_sem,seval,↓gZ,Xy,XU,Ql,h3,ZJ,w1,w2,w3,e1,e2]
   ·refine cE ?_;simp +contextual -implicitDefEqProofs (maxSteps:=10^7) only[go_sem,seval,↓gZ,Xy,XU,Ql,h3,ZJ,w1,w2]
  | false=>
   by_cases h3:1≤a∧a≤h-1
   ·have w3:=wi (h-a) (by omega) (by omega);have e1:=W8 kW kH kP hl l w a hw0 hw1 (by omega) (by omega);have e2:=W8 kW kH kP hl r w (h-a) hw0 hw1 (by omega) (by omega);refine cE ?_;simp +contextual -implicitDefEqProofs (maxSteps:=10^7) only[go_sem,seval,↓gZ,Xy,XU,Ql,h3,ZJ,w1,w2,w3,e1,e2]
   ·refine cE ?_;simp +contextual -implicitDefEqProofs (maxSteps:=10^7) only[go_sem,seval,↓gZ,Xy,XU,Ql,h3,ZJ,w1,w2]
theorem Jc (kW kH:Int) (kP:List Pane) (p:Ze):Zd Xs Ms X6 [(.d (.agg [J kW,J kH,.sl (kP.map Pane.enc)])),.d p.enc] []=some ((.d (.bool (Y5 (Zt.mk kW kH kP) p))),[]):=by
 have hs:=Zsa p;unfold Y5;cases hb:Yj p with
 | none=>
  obtain⟨o,a,q,t,ks⟩:=p;rw[hb] at hs;rw[Ze.enc_mk] at hs ⊢;refine cE ?_;simp +contextual -implicitDefEqProofs (maxSteps:=10^7) only[go_sem,seval,↓gZ,VQ,Wb,hs,Zv]
 | some b=>
  have hp:=ZiP hb;rw[hb] at hs;have hc:=b.cnt_pos;have hz:=YB 255 b;by_cases hv:VW (Zt.mk kW kH kP)
  ·have aa:=hv;simp only[VW] at aa;have hf:=W7 kW kH kP b 0 0 kW kH (by simp only[inB];omega);rw[← hp] at hf;obtain⟨o,a,q,t,ks⟩:=p;rw[Ze.enc_mk] at hs hf ⊢;by_cases h2:b.cnt≤255
   ·have h3:Zv 255 (some b)=b.cnt:=by omega
    have h4:(0:Int)<b.cnt:=by omega
    rw[h3] at hs;refine cE ?_;simp +contextual -implicitDefEqProofs (maxSteps:=10^7) only[go_sem,seval,↓gZ,VQ,Wb,ZbC,hs,hf,hv,h2,h4]
   ·have h3:Zv 255 (some b)=-1:=by omega
    rw[h3] at hs;refine cE ?_;simp +contextual -implicitDefEqProofs (maxSteps:=10^7) only[go_sem,seval,↓gZ,VQ,Wb,hs,hv,h2]
  ·obtain⟨o,a,q,t,ks⟩:=p;rw[Ze.enc_mk] at hs ⊢;refine cE ?_;simp +contextual -implicitDefEqProofs (maxSteps:=10^7) only[go_sem,seval,↓gZ,VQ,Wb,hs,hv]
theorem ZgG (kW kH:Int) (kP:List Pane) (p:Ze) (hl:kP.length<4611686018427387904):Zd Xs Ms VK [(.d (.agg [J kW,J kH,.sl (kP.map Pane.enc)])),.d p.enc] []=some ((.d (.bool (Y5 (Zt.mk kW kH kP) p))),[]):=by
 have hs:=Zr9 p;unfold Y5;cases hb:Yj p with
 | none=>
  obtain⟨o,a,q,t,ks⟩:=p;rw[hb] at hs;rw[Ze.enc_mk] at hs ⊢;refine cE ?_;simp +contextual -implicitDefEqProofs (maxSteps:=10^7) only[go_sem,seval,↓gZ,VO,Ja kW kH kP hl,hs,Zv]
 | some b=>
  have hp:=ZiP hb;rw[hb] at hs;have hc:=b.cnt_pos;have hz:=YB 255 b;by_cases hv:VW (Zt.mk kW kH kP)
  ·have aa:=hv;simp only[VW] at aa;have hf:=W8 kW kH kP hl b kW kH (by omega) (by omega) (by omega) (by omega);rw[← hp] at hf;obtain⟨o,a,q,t,ks⟩:=p;rw[Ze.enc_mk] at hs hf ⊢;by_cases h2:b.cnt≤255
   ·have h3:Zv 255 (some b)=b.cnt:=by omega
    have h4:(0:Int)<b.cnt:=by omega
    rw[h3] at hs;refine cE ?_;simp +contextual -implicitDefEqProofs (maxSteps:=10^7) only[go_sem,seval,↓gZ,VO,Ja kW kH kP hl,hs,hf,hv,h2,h4]
   ·have h3:Zv 255 (some b)=-1:=by omega
    rw[h3] at hs;refine cE ?_;simp +contextual -implicitDefEqProofs (maxSteps:=10^7) only[go_sem,seval,↓gZ,VO,Ja kW kH kP hl,hs,hv,h2]
  ·obtain⟨o,a,q,t,ks⟩:=p;rw[Ze.enc_mk] at hs ⊢;refine cE ?_;simp +contextual -implicitDefEqProofs (maxSteps:=10^7) only[go_sem,seval,↓gZ,VO,Ja kW kH kP hl,hs,hv]
theorem aF {α:Type} {l:List α} {g:α→D} (h:∀ x,(g x).flat=true):Zaa D.flat (l.map g)=true:=by
 induction l with
 | nil=>rfl
 | cons x l ih=>simp[Zaa,h,ih]
theorem bNe (a b:Bool):Znu .neq true (AV.d (.bool a)) (.d (.bool b))=VY (some (AV.d (.bool (a != b)))):=by cases a<;>cases b<;>rfl
def szV (left:Int) (n:Nat):Int:=if (n:Int)≤left then left-n else -1
theorem Jd {left:Int} {n:Nat} (h:(n:Int)≤left):szV left n=left-n:=Kj h
theorem Je {left:Int} {n:Nat} (h:¬(n:Int)≤left):szV left n=-1:=Kg h
def Zs {α:Type} (f:α→Nat):List α→Nat
 | []=>0
 | x :: r=>f x+Zs f r
theorem ZAt {α:Type} {f:α→Nat} {l:List α} {k:Nat} {x:α} (h:l[k]?=some x):Zs f (l.drop k)=f x+Zs f (l.drop (k+1)):=by
 obtain⟨h1,h2⟩:=Kc.1 h;rw[Ks h1,h2,Zs]
def Zdd {α:Type} (f:α→D) (z:D) (l:List α) (k:Nat):List D:=(l.take k).map f++List.replicate (l.length-k) z
theorem Zkd {α:Type} (f:α→D) (z:D) (l:List α):Zdd f z l 0=List.replicate l.length z:=by simp[Zdd]
theorem ZmG {α:Type} (f:α→D) (z:D) (l:List α):Zdd f z l l.length=l.map f:=by simp[Zdd]
theorem ZmH {α:Type} (f:α→D) (z:D) {l:List α} {k:Nat} (h:k≤l.length):(Zdd f z l k).length=l.length:=by simp[Zdd];omega
theorem ZmI {α:Type} {f:α→D} {z:D} {l:List α} {k:Nat} {x:α} (h:l[k]?=some x):(Zdd f z l k).set k (f x)=Zdd f z l (k+1):=by
 obtain⟨h1,h2⟩:=Kc.1 h;unfold Zdd;have hl:((l.take k).map f).length=k:=by simp;omega
 rw[List.set_append_right _ _ (by omega),hl,Kay,show l.length-k=(l.length-(k+1))+1 by omega,LI,Kab,Ky,h,KU,Lx];rfl
theorem ZmJ {α:Type} {f:α→D} {z:D} {l:List α} {k:Nat} (h:k<l.length):(Zdd f z l k)[k]?=some z:=by
 unfold Zdd;have hl:((l.take k).map f).length=k:=by simp;omega
 rw[KD (by omega),hl,Kay,List.getElem?_replicate,Kj (by omega)]
def mks {α:Type} (f:Int→α) (c:Nat):Nat→Int→List α
 | 0,_=>[]
 | n+1,k=>f k :: mks f c n (k+c)
theorem ZaK {α:Type} (f:Int→α) (c:Nat):∀ (n:Nat) (k:Int),(mks f c n k).length=n
 | 0,_=>rfl
 | n+1,k=>by simp[mks,ZaK f c n]
theorem Zt8 {α:Type} (f:Int→α) (c:Nat):∀ (n:Nat) (k:Int) (i:Nat),i<n→(mks f c n k)[i]?=some (f (k+((c*i:Nat):Int)))
 | n+1,k,0,_=>by simp[mks]
 | n+1,k,i+1,h=>by
  rw[mks,KH,Zt8 f c n _ i (by omega)];congr 2;push_cast;rw[Int.mul_add];omega
theorem Zvf {α:Type} (f:Int→α) (c:Nat):∀ (n:Nat) (k:Int),mks f c (n+1) k=mks f c n k++[f (k+((c*n:Nat):Int))]
 | 0,k=>by simp[mks]
 | n+1,k=>by
  rw[mks,Zvf f c n (k+c),mks,KJ];congr 3;push_cast;rw[Int.mul_add];congr 1;omega
def mkR {α:Type} (f:Int→α) (c:Nat) (k:Int) (l:List α) (i:Nat):List α:=mks f c i k++l.drop i
theorem Zyl {α:Type} (f:Int→α) (c:Nat) (k:Int) {l:List α} {i:Nat} (h:i≤l.length):(mkR f c k l i).length=l.length:=by simp[mkR,ZaK];omega
theorem Zym {α:Type} (f:Int→α) (c:Nat) (k:Int) {l:List α} {i:Nat} {x:α} (h:l[i]?=some x):(mkR f c k l i)[i]?=some x:=by
 unfold mkR;rw[KD (by rw[ZaK];omega),ZaK,Kay,Le];simpa using h
theorem ZCc {α:Type} (f:Int→α) (c:Nat) (k:Int) {l:List α} {i:Nat} (h:i<l.length):(mkR f c k l i).set i (f (k+((c*i:Nat):Int)))=mkR f c k l (i+1):=by
 unfold mkR;rw[List.set_append_right _ _ (by rw[ZaK];omega),ZaK,Kay,Zvf,Lx,Ks h];rfl
theorem Zyn {α:Type} (f:Int→α) (c:Nat) (k:Int) (l:List α):mkR f c k l l.length=mks f c l.length k:=by simp[mkR]
theorem Zvg {α:Type} (f:Int→α) (c:Nat) (k:Int) (l:List α):mkR f c k l 0=l:=by simp[mkR,mks]
theorem Zvh {α:Type} (g:α→D) (f:Int→α) (c:Nat) (k:Int) {l:List α} {i:Nat} (h:i<l.length):((mkR f c k l i).map g).set i (g (f (k+((c*i:Nat):Int))))=(mkR f c k l (i+1)).map g:=by
 rw[← L0,ZCc f c k h]
def plO:List Ze→Zn
 | []=>.row 5 [] true false
 | k :: r=>.tree 5 5 ((k :: r).map Ze.enc) none
@[go_sem] theorem Zyo:plO []=.row 5 [] true false:=rfl
@[go_sem] theorem plO_cons (k:Ze) (r:List Ze):plO (k :: r)=.tree 5 5 ((k :: r).map Ze.enc) none:=rfl
theorem ZmK:∀ {ks:List Ze},ks≠[]→plO ks=.tree 5 5 (ks.map Ze.enc) none
 | [],h=>absurd rfl h
 | _ :: _,_=>rfl
theorem ZwX (bX bY bW bH:Int):Zd Xs Ms Zep [(.d (.agg [J bX,J bY,J bW,J bH]))] []=some ((.d (.agg [J bX,J bY,J bW,J bH])),[]):=by
 refine cE ?_;simp +contextual -implicitDefEqProofs (maxSteps:=10^7) only[go_sem,seval,↓gZ,Zm8]
theorem Zvi (bW bH:Int) (bT:Bool) (bK:Int):Zd Xs Ms Zcm [(.d (.agg [J bW,J bH,.bool bT,J bK]))] []=some ((.d (.agg [J bW,J bH,.bool bT,J bK])),[]):=by
 refine cE ?_;simp +contextual -implicitDefEqProofs (maxSteps:=10^7) only[go_sem,seval,↓gZ,Zks]
theorem Zvj (bW bH:Int) (bT:Bool) (bK bC:Int):Zd Xs Ms Zch [(.d (.agg [J bW,J bH,.bool bT,J bK,J bC]))] []=some ((.d (.agg [J bW,J bH,.bool bT,J bK,J bC])),[]):=by
 have e1:=Zvi bW bH bT bK;refine cE ?_;simp +contextual -implicitDefEqProofs (maxSteps:=10^7) only[go_sem,seval,↓gZ,Zkp,e1]
theorem Zk4 (bX bY bW bH:Int):Zd Xs Ms ZbV [(.d (.agg [J bX,J bY,J bW,J bH])),(.d (.agg [J bX,J bY,J bW,J bH]))] []=some ((.d (.bool true)),[]):=by
 refine cE ?_;simp +contextual -implicitDefEqProofs (maxSteps:=10^7) only[go_sem,seval,↓gZ,Zm7]
theorem Zsb (bW bH:Int) (bT:Bool) (bK:Int):Zd Xs Ms Zci [(.d (.agg [J bW,J bH,.bool bT,J bK])),(.d (.agg [J bW,J bH,.bool bT,J bK]))] []=some ((.d (.bool true)),[]):=by
 refine cE ?_;simp +contextual -implicitDefEqProofs (maxSteps:=10^7) only[go_sem,seval,↓gZ,Zkq,bNe,bne_self_eq_false]
theorem Zi3 (bW bH:Int) (bT:Bool) (bK bC:Int):Zd Xs Ms Zas [(.d (.agg [J bW,J bH,.bool bT,J bK,J bC])),(.d (.agg [J bW,J bH,.bool bT,J bK,J bC]))] []=some ((.d (.bool true)),[]):=by
 have e1:=Zsb bW bH bT bK;refine cE ?_;simp +contextual -implicitDefEqProofs (maxSteps:=10^7) only[go_sem,seval,↓gZ,Zkn,e1]
end Go.Proofs.YthgciclhiaoecaaGreat
