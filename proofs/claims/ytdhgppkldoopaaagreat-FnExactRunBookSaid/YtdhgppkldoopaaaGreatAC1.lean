/- Own text. -/
import Derived.Test.YtdhgppkldoopaaaGreatACode
import Derived.Test.YtdhgppkldoopaaaGreatAbsParts
import Derived.Test.YtdhgppkldoopaaaGreatAbsOkD
namespace Go.Proofs.YtdhgppkldoopaaaGreat
open Go Go.Abs Go.Abs.E Go.Abs.L
open Nat (reduceMul reduceSub reduceLeDiff reduceEqDiff)
open Int (reduceLE reduceEq reduceToNat reduceNeg)
set_option linter.unusedSimpArgs false
set_option linter.unusedVariables false
set_option maxRecDepth 20000
set_option maxHeartbeats 4000000
theorem ZH (n lo hi:Int):Zf Xs Ms ZL [(.d (J n)),(.d (J lo)),(.d (J hi))] []=some ((.d (.bool ((decide (lo≤n∧n≤hi))))),[]):=by
 refine cE ?_;simp +contextual -implicitDefEqProofs (maxSteps:=10^7) only[go_sem,seval,↓gZ,ZfV]
theorem ZhJ (bX bY bW bH:Int):Zf Xs Ms U1 [(.d (.agg [J bX,J bY,J bW,J bH]))] []=some ((.d (.bool ((decide (VB (Box.mk bX bY bW bH)))))),[]):=by
 refine cE ?_;simp +contextual -implicitDefEqProofs (maxSteps:=10^7) only[go_sem,seval,↓gZ,Zel,ZH];have h1:=wi (200-bW);have h2:=wi (200-bH);exact Zcs (by simp only[VB];omega)
theorem Vf (bX bY bW bH:Int):Zf Xs Ms YX [(.d (.agg [J bX,J bY,J bW,J bH]))] []=some ((.d (.bool ((decide (VB (Box.mk bX bY bW bH)))))),[]):=by
 refine cE ?_;simp +contextual -implicitDefEqProofs (maxSteps:=10^7) only[go_sem,seval,↓gZ,Zer];have h1:=wi (200-bW);have h2:=wi (200-bH);exact⟨fun h=>ZgI (by simp only[VB];omega),fun h=>Zcs (by simp only[VB];omega)⟩
theorem Zqd (aX aY aW aH:Int) (bX bY bW bH:Int) (ha:VB (Box.mk aX aY aW aH)) (h1:R64 bX) (h2:R64 bY) (h3:R64 (bX+bW)) (h4:R64 (bY+bH)):Zf Xs Ms U2 [(.d (.agg [J aX,J aY,J aW,J aH])),(.d (.agg [J bX,J bY,J bW,J bH]))] []=some ((.d (.bool ((decide (Vw (Box.mk aX aY aW aH) (Box.mk bX bY bW bH)))))),[]):=by
 refine cE ?_;simp only[VB] at ha;have e1:=wi (aX+aW) (by omega) (by omega);have e2:=wi (aY+aH) (by omega) (by omega);have e3:=wi (bX+bW) h3.1 h3.2;have e4:=wi (bY+bH) h4.1 h4.2;simp +contextual -implicitDefEqProofs (maxSteps:=10^7) only[go_sem,seval,↓gZ,Zem,e1,e2,e3,e4];exact Zcs (by simp only[Vw];omega)
theorem ZjG (aX aY aW aH:Int) (bX bY bW bH:Int) (ha:VB (Box.mk aX aY aW aH)) (hb:VB (Box.mk bX bY bW bH)) (hm:WF (Box.mk aX aY aW aH) (Box.mk bX bY bW bH)):Zf Xs Ms Uc [(.d (.agg [J aX,J aY,J aW,J aH])),(.d (.agg [J bX,J bY,J bW,J bH]))] []=some (.tup [.d (ZgK (Box.mk aX aY aW aH) (Box.mk bX bY bW bH)).enc,(.d (.bool true))],[]):=by
 refine cE ?_;simp only[VB,WF] at ha hb hm;have e1:=wi (aX+aW) (by omega) (by omega);have e2:=wi (aY+aH) (by omega) (by omega);have e3:=wi (bX+bW) (by omega) (by omega);have e4:=wi (bY+bH) (by omega) (by omega);have e5:=wi (min (aX+aW) (bX+bW)-max aX bX) (by omega) (by omega);have e6:=wi (min (aY+aH) (bY+bH)-max aY bY) (by omega) (by omega);have n1:¬(min (aX+aW) (bX+bW)-max aX bX≤0):=by omega
 have n2:¬(min (aY+aH) (bY+bH)-max aY bY≤0):=by omega
 simp +contextual -implicitDefEqProofs (maxSteps:=10^7) only[go_sem,seval,↓gZ,Zev,e1,e2,e3,e4,e5,e6,n1,n2,ZgK]
theorem Zme (aX aY aW aH:Int) (bX bY bW bH:Int) (ha:VB (Box.mk aX aY aW aH)) (hb:VB (Box.mk bX bY bW bH)) (hm:¬WF (Box.mk aX aY aW aH) (Box.mk bX bY bW bH)):Zf Xs Ms Uc [(.d (.agg [J aX,J aY,J aW,J aH])),(.d (.agg [J bX,J bY,J bW,J bH]))] []=some (.tup [.d (Box.enc ⟨0,0,0,0⟩),(.d (.bool false))],[]):=by
 refine cE ?_;simp only[VB,WF] at ha hb hm;have e1:=wi (aX+aW) (by omega) (by omega);have e2:=wi (aY+aH) (by omega) (by omega);have e3:=wi (bX+bW) (by omega) (by omega);have e4:=wi (bY+bH) (by omega) (by omega);have e5:=wi (min (aX+aW) (bX+bW)-max aX bX) (by omega) (by omega);have e6:=wi (min (aY+aH) (bY+bH)-max aY bY) (by omega) (by omega);have n1:min (aX+aW) (bX+bW)-max aX bX≤0∨min (aY+aH) (bY+bH)-max aY bY≤0:=by omega
 simp +contextual -implicitDefEqProofs (maxSteps:=10^7) only[go_sem,seval,↓gZ,Zev,e1,e2,e3,e4,e5,e6];omega
theorem ZdT (aX aY aW aH:Int) (bX bY bW bH:Int) (ha:VB (Box.mk aX aY aW aH)) (hb:VB (Box.mk bX bY bW bH)) (hm:WF (Box.mk aX aY aW aH) (Box.mk bX bY bW bH)):Zf Xs Ms V1 [(.d (.agg [J aX,J aY,J aW,J aH])),(.d (.agg [J bX,J bY,J bW,J bH]))] []=some (.tup [.d (ZgK (Box.mk aX aY aW aH) (Box.mk bX bY bW bH)).enc,(.d (.bool true))],[]):=by
 refine cE ?_;have aa:=ha;have ab:=hb;simp only[VB,WF] at aa ab hm;have e1:=wi (aX+aW) (by omega) (by omega);have e2:=wi (aY+aH) (by omega) (by omega);have e3:=wi (bX+bW) (by omega) (by omega);have e4:=wi (bY+bH) (by omega) (by omega);have e5:=wi (min (aX+aW) (bX+bW)-max aX bX) (by omega) (by omega);have e6:=wi (min (aY+aH) (bY+bH)-max aY bY) (by omega) (by omega);have n1:¬(min (aX+aW) (bX+bW)≤max aX bX):=by omega
 have n2:¬(min (aY+aH) (bY+bH)≤max aY bY):=by omega
 simp +contextual -implicitDefEqProofs (maxSteps:=10^7) only[go_sem,seval,↓gZ,JS,Vf,ha,hb,e1,e2,e3,e4,e5,e6,n1,n2,ZgK]
theorem ZfF (aX aY aW aH:Int) (bX bY bW bH:Int) (hm:¬(VB (Box.mk aX aY aW aH)∧VB (Box.mk bX bY bW bH)∧WF (Box.mk aX aY aW aH) (Box.mk bX bY bW bH))):Zf Xs Ms V1 [(.d (.agg [J aX,J aY,J aW,J aH])),(.d (.agg [J bX,J bY,J bW,J bH]))] []=some (.tup [.d (Box.enc ⟨0,0,0,0⟩),(.d (.bool false))],[]):=by
 refine cE ?_;by_cases ha:VB (Box.mk aX aY aW aH)
 ·by_cases hb:VB (Box.mk bX bY bW bH)
  ·have aa:=ha;have ab:=hb;simp only[ha,hb,true_and] at hm;simp only[VB,WF] at aa ab hm;have e1:=wi (aX+aW) (by omega) (by omega);have e2:=wi (aY+aH) (by omega) (by omega);have e3:=wi (bX+bW) (by omega) (by omega);have e4:=wi (bY+bH) (by omega) (by omega);simp +contextual -implicitDefEqProofs (maxSteps:=10^7) only[go_sem,seval,↓gZ,JS,Vf,ha,hb,e1,e2,e3,e4];omega
  ·simp +contextual -implicitDefEqProofs (maxSteps:=10^7) only[go_sem,seval,↓gZ,JS,Vf,ha,hb]
 ·simp +contextual -implicitDefEqProofs (maxSteps:=10^7) only[go_sem,seval,↓gZ,JS,Vf,ha]
theorem ZhK (aX aY aW aH:Int) (bX bY bW bH:Int):Zf Xs Ms Wq [(.d (.agg [J aX,J aY,J aW,J aH])),(.d (.agg [J bX,J bY,J bW,J bH]))] []=some ((.d (.bool ((decide (VB (Box.mk aX aY aW aH)∧VB (Box.mk bX bY bW bH)∧Vw (Box.mk aX aY aW aH) (Box.mk bX bY bW bH)))))),[]):=by
 refine cE ?_;by_cases hm:VB (Box.mk aX aY aW aH)∧VB (Box.mk bX bY bW bH)∧WF (Box.mk aX aY aW aH) (Box.mk bX bY bW bH)
 ·obtain⟨ha,hb,hm⟩:=hm;simp +contextual -implicitDefEqProofs (maxSteps:=10^7) only[go_sem,seval,↓gZ,ZaW,ZdT _ _ _ _ _ _ _ _ ha hb hm,ZgK];simp only[VB] at ha hb;simp only[WF] at hm;exact Zcs (by simp only[VB,Vw];omega)
 ·simp +contextual -implicitDefEqProofs (maxSteps:=10^7) only[go_sem,seval,↓gZ,ZaW,ZfF _ _ _ _ _ _ _ _ hm];have:¬(VB (Box.mk aX aY aW aH)∧VB (Box.mk bX bY bW bH)∧Vw (Box.mk aX aY aW aH) (Box.mk bX bY bW bH)):=by
   intro⟨h1,h2,h3⟩;refine hm ⟨h1,h2,?_⟩;simp only[VB,Vw] at h1 h2 h3;simp only[WF];omega
  exact ZgI this
theorem VO (pW pH:Int) (pT:Bool) (pK:Int):Zf Xs Ms Yq [(.d (.agg [J pW,J pH,.bool pT,J pK]))] []=some ((.d (.bool ((decide (VP (Pane.mk pW pH pT pK)))))),[]):=by
 refine cE ?_;simp +contextual -implicitDefEqProofs (maxSteps:=10^7) only[go_sem,seval,↓gZ,ZcQ,ZH]
 first | exact Zcs (by simp only[VP];omega) | skip
theorem Zbh (pW pH:Int) (pT:Bool) (pK:Int):Zf Xs Ms Yr [(.d (.agg [J pW,J pH,.bool pT,J pK]))] []=some ((.d (.bool ((decide (VP (Pane.mk pW pH pT pK)))))),[]):=by
 refine cE ?_;simp +contextual -implicitDefEqProofs (maxSteps:=10^7) only[go_sem,seval,↓gZ,ZcW]
 first | exact Zcs (by simp only[VP];omega) | skip
theorem QS (pO pA pP:Int) (pT:Bool) (pK:List D):Zf Xs Ms Zbc [.d (.agg [J pO,J pA,J pP,.bool pT,.sl pK])] []=some ((.d (.bool (decide (pO=2∨pO=3)))),[]):=by
 refine cE ?_;simp +contextual -implicitDefEqProofs (maxSteps:=10^7) only[go_sem,seval,↓gZ,Zlz]
theorem VQ (pO pA pP:Int) (pT:Bool) (pK:List D):Zf Xs Ms Zdu [.d (.agg [J pO,J pA,J pP,.bool pT,.sl pK])] []=some ((.d (.bool (decide (pO=2∨pO=3)))),[]):=by
 refine cE ?_;simp +contextual -implicitDefEqProofs (maxSteps:=10^7) only[go_sem,seval,↓gZ,ZlA]
theorem Zbi:∀ (n:Nat) (p:Zd),p.nodes≤n→Zf Xs Ms YZ [.d p.enc] []=some ((.d (J (Zw 255 (X2 p)))),[])
 | 0,.mk o a p t ks,hn=>by simp[Zd.nodes] at hn
 | n+1,.mk o a p t ks,hn=>by
  by_cases ho:o=2∨o=3
  ·by_cases hk:ks.length=2
   ·obtain⟨x,hx⟩:=Zr (l:=ks) (k:=0) (by omega);obtain⟨y,hy⟩:=Zr (l:=ks) (k:=1) (by omega);have aa:=Zbi n x (J0 hn hx);have ab:=Zbi n y (J0 hn hy);rw[ZrB ho hk hx hy];obtain⟨lx,ae⟩:∃ l,l=X2 x:=⟨_,rfl⟩
    obtain⟨ly,af⟩:∃ l,l=X2 y:=⟨_,rfl⟩
    rw[← ae] at aa ⊢;rw[← af] at ab ⊢;have rx:=Za5 255 (by omega) lx;have ry:=Za5 255 (by omega) ly;have ad:(ks.length:Int)=2:=by omega
    by_cases hp:p=0
    ·cases t with
     | true=>
      have hb:=ZeQ 255 o a p true lx ly (by simp);rw[hb];refine cE ?_;simp +contextual -implicitDefEqProofs (maxSteps:=10^7) only[go_sem,seval,↓gZ,Qx,QS,ho,hp]
     | false=>
      subst hp;rw[Zvw];obtain⟨sx,ag⟩:∃ s,s=Zw 255 lx:=⟨_,rfl⟩
      obtain⟨sy,ah⟩:∃ s,s=Zw 255 ly:=⟨_,rfl⟩
      rw[← ag] at aa rx ⊢;rw[← ah] at ab ry ⊢;have w1:=wi (1+sx) (by omega) (by omega);have w2:=wi (1+sx+sy) (by omega) (by omega);refine cE ?_;simp +contextual -implicitDefEqProofs (maxSteps:=10^7) only[go_sem,seval,↓gZ,Qx,QS,ho,ad];refine ZdE Xs Ms ?_;simp +contextual -implicitDefEqProofs (maxSteps:=10^7) only[go_sem,seval,↓gZ,ad,hx,hy,aa,ab,w1,w2];intro h;refine ZdE Xs Ms ?_;simp +contextual -implicitDefEqProofs (maxSteps:=10^7) only[go_sem,seval,↓gZ,ad,hx,hy,aa,ab,w1,w2,h];intro h';refine ZdE Xs Ms ?_;simp +contextual -implicitDefEqProofs (maxSteps:=10^7) only[go_sem,seval,↓gZ,ad,hx,hy,aa,ab,w1,w2,h,h']
    ·have hb:=ZeQ 255 o a p t lx ly (by simp[hp]);rw[hb];refine cE ?_;simp +contextual -implicitDefEqProofs (maxSteps:=10^7) only[go_sem,seval,↓gZ,Qx,QS,ho,hp]
   ·rw[ZlU _ _ _ _ _ ho hk];refine cE ?_;have ai : ¬(ks.length:Int)=2:=by omega
    simp +contextual -implicitDefEqProofs (maxSteps:=10^7) only[go_sem,seval,↓gZ,Qx,QS,ho,ai,Zw]
  ·rw[ZpC ho];by_cases h1:ks.length=0∧a=0∧o=1
   ·rw[Kl h1];obtain⟨h1,rfl,rfl⟩:=h1;refine cE ?_;simp +contextual -implicitDefEqProofs (maxSteps:=10^7) only[go_sem,seval,↓gZ,Qx,QS,ho,h1,Zw,BT.cnt];refine ZdE Xs Ms ?_;simp +contextual -implicitDefEqProofs (maxSteps:=10^7) only[go_sem,seval,↓gZ,h1]
   ·rw[Kj h1];by_cases h2:ks.length=0∧a=0∧o=0∧p=0∧t=false
    ·rw[Kl h2];obtain⟨h2,rfl,rfl,rfl,rfl⟩:=h2;refine cE ?_;simp +contextual -implicitDefEqProofs (maxSteps:=10^7) only[go_sem,seval,↓gZ,Qx,QS,ho,h2,Zw,BT.cnt];refine ZdE Xs Ms ?_;simp +contextual -implicitDefEqProofs (maxSteps:=10^7) only[go_sem,seval,↓gZ,h2]
    ·rw[Kj h2];by_cases c1:ks.length=0
     ·by_cases c2:a=0
      ·by_cases c3:o=1
       ·exact absurd ⟨c1,c2,c3⟩ h1
       ·by_cases c4:o=0
        ·by_cases c5:p=0
         ·cases t with
          | false=>exact absurd ⟨c1,c2,c4,c5,rfl⟩ h2
          | true=>
           refine cE ?_;simp +contextual -implicitDefEqProofs (maxSteps:=10^7) only[go_sem,seval,↓gZ,Qx,QS,ho,c1,c2,c3,c4,c5,Zw]
         ·refine cE ?_;simp +contextual -implicitDefEqProofs (maxSteps:=10^7) only[go_sem,seval,↓gZ,Qx,QS,ho,c1,c2,c3,c4,c5,Zw]
        ·refine cE ?_;simp +contextual -implicitDefEqProofs (maxSteps:=10^7) only[go_sem,seval,↓gZ,Qx,QS,ho,c1,c2,c3,c4,Zw]
      ·refine cE ?_;simp +contextual -implicitDefEqProofs (maxSteps:=10^7) only[go_sem,seval,↓gZ,Qx,QS,ho,c1,c2,Zw]
     ·have aj : ¬(ks.length:Int)=0:=by omega
      refine cE ?_;simp +contextual -implicitDefEqProofs (maxSteps:=10^7) only[go_sem,seval,↓gZ,Qx,QS,ho,aj,Zw]
theorem Zqe (p:Zd):Zf Xs Ms YZ [.d p.enc] []=some ((.d (J (Zw 255 (X2 p)))),[]):=Zbi _ p (Kk _)
theorem Zni (ps:List Pane) (hl:ps.length<4611686018427387904):Zf Xs Ms V3 [(.d (.sl (ps.map Pane.enc)))] []=some ((.d (.bool (decide (ps.length≤24∧VPs ps)))),[]):=by
 refine cE ?_;simp +contextual -implicitDefEqProofs (maxSteps:=10^7) only[go_sem,seval,↓gZ,ZbJ];refine LO (α:=Nat) (fun k=>[(3,.d (J (k:Int)))]) (fun _=>[]) (fun k=>k≤ps.length∧(VPs ps↔VPs (ps.drop k))) (fun k=>ps.length-k) 0 ⟨by omega,by simp⟩ ?_;intro k ⟨hk,hp⟩ ih;by_cases aa:k<ps.length
 ·obtain⟨x,hx⟩:=Zr aa;rw[Zuu hx] at hp;have hw:=Zj (k:=k) (by omega);simp +contextual -implicitDefEqProofs (maxSteps:=10^7) only[go_sem,seval,↓gZ,hx,aa,hw,VO];refine⟨fun h=>ZgI (fun hh=>h (hp.1 hh.2).1),fun h=>ih (k+1) _ ⟨by omega,?_⟩ (by omega) ?_⟩
  ·rw[hp];exact⟨fun hh=>hh.2,fun hh=>⟨h,hh⟩⟩
  ·simp +contextual -implicitDefEqProofs (maxSteps:=10^7) only[go_sem,seval,↓gZ]
 ·have:k=ps.length:=by omega
  subst this;simp +contextual -implicitDefEqProofs (maxSteps:=10^7) only[go_sem,seval,↓gZ];have hv:VPs ps:=hp.2 (by simp[VPs]);exact Zcs ⟨fun h=>⟨by omega,hv⟩,fun h=>by omega⟩
theorem UE (kW kH:Int) (kP:List Pane) (hl:kP.length<4611686018427387904):Zf Xs Ms WV [(.d (.agg [J kW,J kH,.sl (kP.map Pane.enc)]))] []=some ((.d (.bool (decide (VW (ZD.mk kW kH kP))))),[]):=by
 refine cE ?_;simp +contextual -implicitDefEqProofs (maxSteps:=10^7) only[go_sem,seval,↓gZ,Zc0,ZH,Zni kP hl];exact Zcs (by simp only[VW,and_assoc])
theorem UF (kW kH:Int) (kP:List Pane):Zf Xs Ms WX [(.d (.agg [J kW,J kH,.sl (kP.map Pane.enc)]))] []=some ((.d (.bool (decide (VW (ZD.mk kW kH kP))))),[]):=by
 refine cE ?_;by_cases h0:((((kW<1∨200<kW)∨kH<1)∨200<kH)∨(24:Int)<kP.length)
 ·simp +contextual -implicitDefEqProofs (maxSteps:=10^7) only[go_sem,seval,↓gZ,Zac,h0];exact ZgI (by simp only[VW];omega)
 ·simp +contextual -implicitDefEqProofs (maxSteps:=10^7) only[go_sem,seval,↓gZ,Zac,h0];refine LO (α:=Nat) (fun k=>[(32,.d (J (k:Int)))]) (fun _=>[]) (fun k=>k≤kP.length∧(VPs kP↔VPs (kP.drop k))) (fun k=>kP.length-k) 0 ⟨by omega,by simp⟩ ?_;intro k ⟨hk,hp⟩ ih;by_cases aa:k<kP.length
  ·obtain⟨x,hx⟩:=Zr aa;rw[Zuu hx] at hp;have hw:=Zj (k:=k) (by omega);simp +contextual -implicitDefEqProofs (maxSteps:=10^7) only[go_sem,seval,↓gZ,hx,aa,hw,Zbh];refine⟨fun h=>ZgI (fun hh=>h (hp.1 hh.2.2.2.2.2).1),fun h=>ih (k+1) _ ⟨by omega,?_⟩ (by omega) ?_⟩
   ·rw[hp];exact⟨fun hh=>hh.2,fun hh=>⟨h,hh⟩⟩
   ·simp +contextual -implicitDefEqProofs (maxSteps:=10^7) only[go_sem,seval,↓gZ,h0]
  ·have:k=kP.length:=by omega
   subst this;simp +contextual -implicitDefEqProofs (maxSteps:=10^7) only[go_sem,seval,↓gZ];have hv:VPs kP:=hp.2 (by simp[VPs]);exact Zws (by simp only[VW];exact⟨by omega,by omega,by omega,by omega,by omega,hv⟩)
theorem JK:∀ (n:Nat) (p:Zd),p.nodes≤n→∀ m:Int,-10≤m→m≤255→Zf Xs Ms X1 [.d p.enc,(.d (J m))] []=some ((.d (J (Zw m (X2 p)))),[])
 | 0,.mk o a p t ks,hn,m,_,_=>by simp[Zd.nodes] at hn
 | n+1,.mk o a p t ks,hn,m,hm1,hm2=>by
  by_cases hm:m<1
  ·rw[Zvx hm];refine cE ?_;simp +contextual -implicitDefEqProofs (maxSteps:=10^7) only[go_sem,seval,↓gZ,ZN,hm]
  by_cases ho:o=2∨o=3
  ·have al:¬o=0:=by omega
   have am:¬o=1:=by omega
   by_cases hk:ks.length=2
   ·obtain⟨x,hx⟩:=Zr (l:=ks) (k:=0) (by omega);obtain⟨y,hy⟩:=Zr (l:=ks) (k:=1) (by omega);rw[ZrB ho hk hx hy];have aa:(ks.length:Int)=2:=by omega
    by_cases hp:p=0
    ·cases t with
     | true=>
      have hb:=ZeQ m o a p true (X2 x) (X2 y) (by simp);rw[hb];refine cE ?_;rcases ho with ho | ho<;>simp +contextual -implicitDefEqProofs (maxSteps:=10^7) only[go_sem,seval,↓gZ,ZN,ho,hp,hm,aa]
     | false=>
      subst hp;rw[Zut];have ag:=JK n x (J0 hn hx) (m-1) (by omega) (by omega);have rx:=Za5 (m-1) (by omega) (X2 x);have ab:=JK n y (J0 hn hy) (m-1-Zw (m-1) (X2 x)) (by omega) (by omega);have ry:=Za5 (m-1-Zw (m-1) (X2 x)) (by omega) (X2 y);obtain⟨sy,ah⟩:∃ s,s=Zw (m-1-Zw (m-1) (X2 x)) (X2 y):=⟨_,rfl⟩
      rw[← ah] at ab ry ⊢;obtain⟨sx,ai⟩:∃ s,s=Zw (m-1) (X2 x):=⟨_,rfl⟩
      rw[← ai] at ag ab rx ry ⊢;clear ai ah;have w0:=wi (m-1) (by omega) (by omega);have w1:=wi (m-1-sx) (by omega) (by omega);have w2:=wi (1+sx) (by omega) (by omega);have w3:=wi (1+sx+sy) (by omega) (by omega);refine cE ?_;rcases ho with ho | ho<;>simp +contextual -implicitDefEqProofs (maxSteps:=10^7) only[go_sem,seval,↓gZ,ZN,ho,hm,aa,hx,hy,ag,ab,w0,w1,w2,w3]
    ·have hb:=ZeQ m o a p t (X2 x) (X2 y) (by simp[hp]);rw[hb];refine cE ?_;rcases ho with ho | ho<;>simp +contextual -implicitDefEqProofs (maxSteps:=10^7) only[go_sem,seval,↓gZ,ZN,ho,hp,hm,aa]
   ·rw[ZlU _ _ _ _ _ ho hk];have ak : ¬(ks.length:Int)=2:=by omega
    refine cE ?_;rcases ho with ho | ho<;>simp +contextual -implicitDefEqProofs (maxSteps:=10^7) only[go_sem,seval,↓gZ,ZN,ho,ak,hm,Zw]
  ·rw[ZpC ho];have ad : ¬o=2:=by omega
   have ae : ¬o=3:=by omega
   have aj : (1:Int)≤m:=by omega
   by_cases h1:ks.length=0∧a=0∧o=1
   ·rw[Kl h1];obtain⟨h1,rfl,rfl⟩:=h1;refine cE ?_;simp +contextual -implicitDefEqProofs (maxSteps:=10^7) only[go_sem,seval,↓gZ,ZN,h1,hm,Zw,BT.cnt,aj]
   ·rw[Kj h1];by_cases h2:ks.length=0∧a=0∧o=0∧p=0∧t=false
    ·rw[Kl h2];obtain⟨h2,rfl,rfl,rfl,rfl⟩:=h2;refine cE ?_;simp +contextual -implicitDefEqProofs (maxSteps:=10^7) only[go_sem,seval,↓gZ,ZN,h2,hm,Zw,BT.cnt,aj]
    ·rw[Kj h2];by_cases c1:ks.length=0
     ·by_cases c2:a=0
      ·by_cases c3:o=1
       ·exact absurd ⟨c1,c2,c3⟩ h1
       ·by_cases c4:o=0
        ·by_cases c5:p=0
         ·cases t with
          | false=>exact absurd ⟨c1,c2,c4,c5,rfl⟩ h2
          | true=>
           refine cE ?_;simp +contextual -implicitDefEqProofs (maxSteps:=10^7) only[go_sem,seval,↓gZ,ZN,hm,c1,c2,c3,c4,c5,Zw]
         ·refine cE ?_;simp +contextual -implicitDefEqProofs (maxSteps:=10^7) only[go_sem,seval,↓gZ,ZN,hm,c1,c2,c3,c4,c5,Zw]
        ·refine cE ?_;simp +contextual -implicitDefEqProofs (maxSteps:=10^7) only[go_sem,seval,↓gZ,ZN,hm,c1,c2,c3,c4,ad,ae,Zw]
      ·refine cE ?_;by_cases c3:o=1
       ·simp +contextual -implicitDefEqProofs (maxSteps:=10^7) only[go_sem,seval,↓gZ,ZN,hm,c1,c2,c3,Zw]
       ·by_cases c4:o=0
        ·simp +contextual -implicitDefEqProofs (maxSteps:=10^7) only[go_sem,seval,↓gZ,ZN,hm,c1,c2,c3,c4,Zw]
        ·simp +contextual -implicitDefEqProofs (maxSteps:=10^7) only[go_sem,seval,↓gZ,ZN,hm,c1,c2,c3,c4,ad,ae,Zw]
     ·have af : ¬(ks.length:Int)=0:=by omega
      refine cE ?_;by_cases c3:o=1
      ·simp +contextual -implicitDefEqProofs (maxSteps:=10^7) only[go_sem,seval,↓gZ,ZN,hm,af,c3,Zw]
      ·by_cases c4:o=0
       ·simp +contextual -implicitDefEqProofs (maxSteps:=10^7) only[go_sem,seval,↓gZ,ZN,hm,af,c3,c4,Zw]
       ·simp +contextual -implicitDefEqProofs (maxSteps:=10^7) only[go_sem,seval,↓gZ,ZN,hm,af,c3,c4,ad,ae,Zw]
theorem Zqf (p:Zd):Zf Xs Ms U7 [.d p.enc] []=some ((.d (J (Zw 255 (X2 p)))),[]):=by
 have h:=JK _ p (Kk _) 255 (by omega) (by omega);obtain⟨o,a,q,t,ks⟩:=p;rw[Zd.enc_mk] at h ⊢;refine cE ?_;simp +contextual -implicitDefEqProofs (maxSteps:=10^7) only[go_sem,seval,↓gZ,Zeu,h]
theorem ZjH (kW kH:Int) (kP:List Pane):Zf Xs Ms Uu [(.d (.agg [J kW,J kH,.sl (kP.map Pane.enc)]))] []=some (.d (.agg [J 0,J 0,J kW,J kH]),[]):=by
 refine cE ?_;simp +contextual -implicitDefEqProofs (maxSteps:=10^7) only[go_sem,seval,↓gZ,Zf1]
theorem ZhL {ps:List Pane} {i:Int} {t:Bool} {w h:Int} {k:Nat} {q:Pane} (hi:i=(k:Int)) (hq:ps[k]?=some q):Jt ps i t w h=if t then q.Turns&&decide (¬q.W=q.H)&&decide (q.H=w)&&decide (q.W=h) else decide (q.W=w∧q.H=h):=by
 subst hi;simp[Jt,hq]
theorem ZdU {ps:List Pane} {i:Int} {t:Bool} {w h:Int} (hi:i<0∨(ps.length:Int)≤i):Jt ps i t w h=false:=by
 unfold Jt;rcases hi with hi | hi
 ·have:¬0≤i:=by omega
  simp[this]
 ·have:ps[i.toNat]?=none:=KF (by omega);simp[this]
theorem Zn0 (kW kH:Int) (kP:List Pane) (i:Int) (t:Bool) (w h:Int):Zf Xs Ms WY [(.d (.agg [J kW,J kH,.sl (kP.map Pane.enc)])),(.d (J i)),(.d (.bool t)),(.d (J w)),(.d (J h))] []=some ((.d (.bool (Jt kP i t w h))),[]):=by
 by_cases h0:i<0
 ·rw[ZdU (.inl h0)];refine cE ?_;simp +contextual -implicitDefEqProofs (maxSteps:=10^7) only[go_sem,seval,↓gZ,Vq,h0]
 ·by_cases h1:(kP.length:Int)≤i
  ·rw[ZdU (.inr h1)];refine cE ?_;simp +contextual -implicitDefEqProofs (maxSteps:=10^7) only[go_sem,seval,↓gZ,Vq,h0,h1]
  ·obtain⟨n,rfl⟩:∃ n:Nat,i=(n:Int):=⟨i.toNat,by omega⟩
   obtain⟨q,hq⟩:=Zr (l:=kP) (k:=n) (by omega);have hn:¬kP.length≤n:=by omega
   have aa : n<kP.length:=by omega
   have ab:¬(n:Int)<0:=by omega
   rw[ZhL rfl hq];refine cE ?_;cases t
   ·simp +contextual -implicitDefEqProofs (maxSteps:=10^7) only[go_sem,seval,↓gZ,Vq,ab,hn,hq,aa]
   ·simp +contextual -implicitDefEqProofs (maxSteps:=10^7) only[go_sem,seval,↓gZ,Vq,ab,hn,hq,aa]
theorem ZaC (o a p:Int) (t:Bool) (ks:List D) (gX gY gW gH:Int) (ho:o=2) (h1:R64 (gX+a)) (h2:R64 (gW-a)):Zf Xs Ms Y1 [.d (.agg [J o,J a,J p,.bool t,.sl ks]),(.d (.agg [J gX,J gY,J gW,J gH]))] [] =
  some (.tup [.d (.agg [J gX,J gY,J a,J gH]),.d (.agg [J (gX+a),J gY,J (gW-a),J gH])],[]):=by
 have w1:=wi (gX+a) h1.1 h1.2;have w2:=wi (gW-a) h2.1 h2.2;refine cE ?_;simp +contextual -implicitDefEqProofs (maxSteps:=10^7) only[go_sem,seval,↓gZ,ZaX,ho,w1,w2]
theorem UG (o a p:Int) (t:Bool) (ks:List D) (gX gY gW gH:Int) (ho:¬o=2) (h1:R64 (gY+a)) (h2:R64 (gH-a)):Zf Xs Ms Y1 [.d (.agg [J o,J a,J p,.bool t,.sl ks]),(.d (.agg [J gX,J gY,J gW,J gH]))] [] =
  some (.tup [.d (.agg [J gX,J gY,J gW,J a]),.d (.agg [J gX,J (gY+a),J gW,J (gH-a)])],[]):=by
 have w1:=wi (gY+a) h1.1 h1.2;have w2:=wi (gH-a) h2.1 h2.2;refine cE ?_;simp +contextual -implicitDefEqProofs (maxSteps:=10^7) only[go_sem,seval,↓gZ,ZaX,ho,w1,w2]
def inB (g:Box):Prop:=0≤g.X∧0≤g.Y∧0≤g.W∧0≤g.H∧g.X+g.W≤1000∧g.Y+g.H≤1000
theorem WM (kW kH:Int) (kP:List Pane):∀ (b:BT) (gX gY gW gH:Int),inB (Box.mk gX gY gW gH)→Zf Xs Ms Y0 [(.d (.agg [J kW,J kH,.sl (kP.map Pane.enc)])),.d b.plan.enc,(.d (.agg [J gX,J gY,J gW,J gH]))] []=some ((.d (.bool (XI kP b gW gH))),[])
 | .waste,gX,gY,gW,gH,hg=>by
  simp only[BT.plan,Zd.enc_mk];refine cE ?_;simp +contextual -implicitDefEqProofs (maxSteps:=10^7) only[go_sem,seval,↓gZ,Xm,XI]
 | .pane i t,gX,gY,gW,gH,hg=>by
  simp only[BT.plan,Zd.enc_mk];refine cE ?_;simp +contextual -implicitDefEqProofs (maxSteps:=10^7) only[go_sem,seval,↓gZ,Xm,Zn0,XI]
 | .cut d a l r,gX,gY,gW,gH,hg=>by
  simp only[inB] at hg;simp only[BT.plan,Zd.enc_mk];cases d with
  | true=>
   by_cases h1:a<1
   ·have h2:¬(1≤a∧a≤gW-1):=by omega
    refine cE ?_;simp +contextual -implicitDefEqProofs (maxSteps:=10^7) only[go_sem,seval,↓gZ,Xm,XI,Za4,h1,h2]
   ·by_cases h2:gW≤a
    ·have h3:¬(1≤a∧a≤gW-1):=by omega
     refine cE ?_;simp +contextual -implicitDefEqProofs (maxSteps:=10^7) only[go_sem,seval,↓gZ,Xm,XI,Za4,h1,h2,h3]
    ·have h3:1≤a∧a≤gW-1:=by omega
     have e0:=ZaC 2 a 0 false [l.plan.enc,r.plan.enc] gX gY gW gH rfl ⟨by omega,by omega⟩ ⟨by omega,by omega⟩;have e1:=WM kW kH kP l gX gY a gH (by simp only[inB];omega);have e2:=WM kW kH kP r (gX+a) gY (gW-a) gH (by simp only[inB];omega);refine cE ?_;simp +contextual -implicitDefEqProofs (maxSteps:=10^7) only[go_sem,seval,↓gZ,Xm,XI,Za4,h1,h2,h3,e0,e1,e2]
  | false=>
   by_cases h1:a<1
   ·have h2:¬(1≤a∧a≤gH-1):=by omega
    refine cE ?_;simp +contextual -implicitDefEqProofs (maxSteps:=10^7) only[go_sem,seval,↓gZ,Xm,XI,Za4,h1,h2]
   ·by_cases h2:gH≤a
    ·have h3:¬(1≤a∧a≤gH-1):=by omega
     refine cE ?_;simp +contextual -implicitDefEqProofs (maxSteps:=10^7) only[go_sem,seval,↓gZ,Xm,XI,Za4,h1,h2,h3]
    ·have h3:1≤a∧a≤gH-1:=by omega
     have e0:=UG 3 a 0 false [l.plan.enc,r.plan.enc] gX gY gW gH (by decide) ⟨by omega,by omega⟩ ⟨by omega,by omega⟩;have e1:=WM kW kH kP l gX gY gW a (by simp only[inB];omega);have e2:=WM kW kH kP r gX (gY+a) gW (gH-a) (by simp only[inB];omega);refine cE ?_;simp +contextual -implicitDefEqProofs (maxSteps:=10^7) only[go_sem,seval,↓gZ,Xm,XI,Za4,h1,h2,h3,e0,e1,e2]
theorem Znj (kW kH:Int) (kP:List Pane) (i:Int) (t:Bool) (w h:Int) (hl:kP.length<4611686018427387904):Zf Xs Ms Xj [(.d (.agg [J kW,J kH,.sl (kP.map Pane.enc)])),.d (BT.pane i t).plan.enc,(.d (J w)),(.d (J h))] []=some ((.d (.bool (Jt kP i t w h))),[]):=by
 have hw:=wi ((kP.length:Int)-1) (by omega) (by omega);simp only[BT.plan,Zd.enc_mk];by_cases h0:0≤i∧i≤(kP.length:Int)-1
 ·obtain⟨n,rfl⟩:∃ n:Nat,i=(n:Int):=⟨i.toNat,by omega⟩
  obtain⟨q,hq⟩:=Zr (l:=kP) (k:=n) (by omega);rw[ZhL rfl hq];refine cE ?_;cases t
  ·simp +contextual -implicitDefEqProofs (maxSteps:=10^7) only[go_sem,seval,↓gZ,Xk,ZH,h0,hw,hq]
  ·simp +contextual -implicitDefEqProofs (maxSteps:=10^7) only[go_sem,seval,↓gZ,Xk,ZH,h0,hw,hq]
 ·rw[ZdU (by omega)];refine cE ?_;simp +contextual -implicitDefEqProofs (maxSteps:=10^7) only[go_sem,seval,↓gZ,Xk,ZH,h0,hw]
theorem WN (kW kH:Int) (kP:List Pane) (hl:kP.length<4611686018427387904):∀ (b:BT) (w h:Int),0≤w→w≤1000→0≤h→h≤1000→Zf Xs Ms Xj [(.d (.agg [J kW,J kH,.sl (kP.map Pane.enc)])),.d b.plan.enc,(.d (J w)),(.d (J h))] []=some ((.d (.bool (XI kP b w h))),[])
 | .waste,w,h,hw0,hw1,hh0,hh1=>by
  simp only[BT.plan,Zd.enc_mk];refine cE ?_;simp +contextual -implicitDefEqProofs (maxSteps:=10^7) only[go_sem,seval,↓gZ,Xk,XI]
 | .pane i t,w,h,hw0,hw1,hh0,hh1=>Znj kW kH kP i t w h hl
 | .cut d a l r,w,h,hw0,hw1,hh0,hh1=>by
  have w1:=wi (w-1) (by omega) (by omega);have w2:=wi (h-1) (by omega) (by omega);simp only[BT.plan,Zd.enc_mk];cases d with
  | true=>
   by_cases h3:1≤a∧a≤w-1
   ·have w3:=wi (w-a) (by omega) (by omega);have e1:=WN kW kH kP hl l a h (by omega) (by omega) hh0 hh1;have e2:=WN kW kH kP hl r (w-a) h (by omega) (by omega) hh0 hh1;refine cE ?_;simp +contextual -implicitDefEqProofs (maxSteps:=10^7) only[go_sem,seval,↓gZ,Xk,XI,Za4,h3,ZH,w1,w2,w3,e1,e2]
   ·refine cE ?_;simp +contextual -implicitDefEqProofs (maxSteps:=10^7) only[go_sem,seval,↓gZ,Xk,XI,Za4,h3,ZH,w1,w2]
  | false=>
   by_cases h3:1≤a∧a≤h-1
   ·have w3:=wi (h-a) (by omega) (by omega);have e1:=WN kW kH kP hl l w a hw0 hw1 (by omega) (by omega);have e2:=WN kW kH kP hl r w (h-a) hw0 hw1 (by omega) (by omega);refine cE ?_;simp +contextual -implicitDefEqProofs (maxSteps:=10^7) only[go_sem,seval,↓gZ,Xk,XI,Za4,h3,ZH,w1,w2,w3,e1,e2]
   ·refine cE ?_;simp +contextual -implicitDefEqProofs (maxSteps:=10^7) only[go_sem,seval,↓gZ,Xk,XI,Za4,h3,ZH,w1,w2]
theorem UH (kW kH:Int) (kP:List Pane) (p:Zd):Zf Xs Ms XR [(.d (.agg [J kW,J kH,.sl (kP.map Pane.enc)])),.d p.enc] []=some ((.d (.bool (YU (ZD.mk kW kH kP) p))),[]):=by
 have hs:=Zqf p;unfold YU;cases hb:X2 p with
 | none=>
  obtain⟨o,a,q,t,ks⟩:=p;rw[hb] at hs;rw[Zd.enc_mk] at hs ⊢;refine cE ?_;simp +contextual -implicitDefEqProofs (maxSteps:=10^7) only[go_sem,seval,↓gZ,Vp,UF,hs,Zw]
 | some b=>
  have hp:=Zhu hb;rw[hb] at hs;have hc:=b.cnt_pos;have hz:=Yi 255 b;by_cases hv:VW (ZD.mk kW kH kP)
  ·have aa:=hv;simp only[VW] at aa;have hf:=WM kW kH kP b 0 0 kW kH (by simp only[inB];omega);rw[← hp] at hf;obtain⟨o,a,q,t,ks⟩:=p;rw[Zd.enc_mk] at hs hf ⊢;by_cases h2:b.cnt≤255
   ·have h3:Zw 255 (some b)=b.cnt:=by omega
    have h4:(0:Int)<b.cnt:=by omega
    rw[h3] at hs;refine cE ?_;simp +contextual -implicitDefEqProofs (maxSteps:=10^7) only[go_sem,seval,↓gZ,Vp,UF,ZjH,hs,hf,hv,h2,h4]
   ·have h3:Zw 255 (some b)=-1:=by omega
    rw[h3] at hs;refine cE ?_;simp +contextual -implicitDefEqProofs (maxSteps:=10^7) only[go_sem,seval,↓gZ,Vp,UF,hs,hv,h2]
  ·obtain⟨o,a,q,t,ks⟩:=p;rw[Zd.enc_mk] at hs ⊢;refine cE ?_;simp +contextual -implicitDefEqProofs (maxSteps:=10^7) only[go_sem,seval,↓gZ,Vp,UF,hs,hv]
theorem ZfG (kW kH:Int) (kP:List Pane) (p:Zd) (hl:kP.length<4611686018427387904):Zf Xs Ms Vl [(.d (.agg [J kW,J kH,.sl (kP.map Pane.enc)])),.d p.enc] []=some ((.d (.bool (YU (ZD.mk kW kH kP) p))),[]):=by
 have hs:=Zqe p;unfold YU;cases hb:X2 p with
 | none=>
  obtain⟨o,a,q,t,ks⟩:=p;rw[hb] at hs;rw[Zd.enc_mk] at hs ⊢;refine cE ?_;simp +contextual -implicitDefEqProofs (maxSteps:=10^7) only[go_sem,seval,↓gZ,Vo,UE kW kH kP hl,hs,Zw]
 | some b=>
  have hp:=Zhu hb;rw[hb] at hs;have hc:=b.cnt_pos;have hz:=Yi 255 b;by_cases hv:VW (ZD.mk kW kH kP)
  ·have aa:=hv;simp only[VW] at aa;have hf:=WN kW kH kP hl b kW kH (by omega) (by omega) (by omega) (by omega);rw[← hp] at hf;obtain⟨o,a,q,t,ks⟩:=p;rw[Zd.enc_mk] at hs hf ⊢;by_cases h2:b.cnt≤255
   ·have h3:Zw 255 (some b)=b.cnt:=by omega
    have h4:(0:Int)<b.cnt:=by omega
    rw[h3] at hs;refine cE ?_;simp +contextual -implicitDefEqProofs (maxSteps:=10^7) only[go_sem,seval,↓gZ,Vo,UE kW kH kP hl,hs,hf,hv,h2,h4]
   ·have h3:Zw 255 (some b)=-1:=by omega
    rw[h3] at hs;refine cE ?_;simp +contextual -implicitDefEqProofs (maxSteps:=10^7) only[go_sem,seval,↓gZ,Vo,UE kW kH kP hl,hs,hv,h2]
  ·obtain⟨o,a,q,t,ks⟩:=p;rw[Zd.enc_mk] at hs ⊢;refine cE ?_;simp +contextual -implicitDefEqProofs (maxSteps:=10^7) only[go_sem,seval,↓gZ,Vo,UE kW kH kP hl,hs,hv]
theorem aF {α:Type} {l:List α} {g:α→D} (h:∀ x,(g x).flat=true):JA D.flat (l.map g)=true:=by
 induction l with
 | nil=>rfl
 | cons x l ih=>simp[JA,h,ih]
theorem bNe (a b:Bool):Zpv .neq true (AV.d (.bool a)) (.d (.bool b))=Vy (some (AV.d (.bool (a != b)))):=by cases a<;>cases b<;>rfl
def szV (left:Int) (n:Nat):Int:=if (n:Int)≤left then left-n else -1
theorem X6 {left:Int} {n:Nat} (h:(n:Int)≤left):szV left n=left-n:=Kl h
theorem XV {left:Int} {n:Nat} (h:¬(n:Int)≤left):szV left n=-1:=Kj h
def Zo {α:Type} (f:α→Nat):List α→Nat
 | []=>0
 | x :: r=>f x+Zo f r
theorem Zn1 {α:Type} {f:α→Nat} {l:List α} {k:Nat} {x:α} (h:l[k]?=some x):Zo f (l.drop k)=f x+Zo f (l.drop (k+1)):=by
 obtain⟨h1,h2⟩:=Ka.1 h;rw[Kw h1,h2,Zo]
def ZaM {α:Type} (f:α→D) (z:D) (l:List α) (k:Nat):List D:=(l.take k).map f++List.replicate (l.length-k) z
theorem Zbj {α:Type} (f:α→D) (z:D) (l:List α):ZaM f z l 0=List.replicate l.length z:=by simp[ZaM]
theorem Zdi {α:Type} (f:α→D) (z:D) (l:List α):ZaM f z l l.length=l.map f:=by simp[ZaM]
theorem Zdj {α:Type} (f:α→D) (z:D) {l:List α} {k:Nat} (h:k≤l.length):(ZaM f z l k).length=l.length:=by simp[ZaM];omega
theorem Zdk {α:Type} {f:α→D} {z:D} {l:List α} {k:Nat} {x:α} (h:l[k]?=some x):(ZaM f z l k).set k (f x)=ZaM f z l (k+1):=by
 obtain⟨h1,h2⟩:=Ka.1 h;unfold ZaM;have hl:((l.take k).map f).length=k:=by simp;omega
 rw[List.set_append_right _ _ (by omega),hl,Kam,show l.length-k=(l.length-(k+1))+1 by omega,LG,List.set_cons_zero,KK,h,Kak,Lq];rfl
theorem Zdl {α:Type} {f:α→D} {z:D} {l:List α} {k:Nat} (h:k<l.length):(ZaM f z l k)[k]?=some z:=by
 unfold ZaM;have hl:((l.take k).map f).length=k:=by simp;omega
 rw[Kz (by omega),hl,Kam,List.getElem?_replicate,Kl (by omega)]
def mks {α:Type} (f:Int→α) (c:Nat):Nat→Int→List α
 | 0,_=>[]
 | n+1,k=>f k :: mks f c n (k+c)
theorem J7 {α:Type} (f:Int→α) (c:Nat):∀ (n:Nat) (k:Int),(mks f c n k).length=n
 | 0,_=>rfl
 | n+1,k=>by simp[mks,J7 f c n]
theorem Zr1 {α:Type} (f:Int→α) (c:Nat):∀ (n:Nat) (k:Int) (i:Nat),i<n→(mks f c n k)[i]?=some (f (k+((c*i:Nat):Int)))
 | n+1,k,0,_=>by simp[mks]
 | n+1,k,i+1,h=>by
  rw[mks,KS,Zr1 f c n _ i (by omega)];congr 2;push_cast;rw[Int.mul_add];omega
theorem Zta {α:Type} (f:Int→α) (c:Nat):∀ (n:Nat) (k:Int),mks f c (n+1) k=mks f c n k++[f (k+((c*n:Nat):Int))]
 | 0,k=>by simp[mks]
 | n+1,k=>by
  rw[mks,Zta f c n (k+c),mks,KD];congr 3;push_cast;rw[Int.mul_add];congr 1;omega
def mkR {α:Type} (f:Int→α) (c:Nat) (k:Int) (l:List α) (i:Nat):List α:=mks f c i k++l.drop i
theorem Zv7 {α:Type} (f:Int→α) (c:Nat) (k:Int) {l:List α} {i:Nat} (h:i≤l.length):(mkR f c k l i).length=l.length:=by simp[mkR,J7];omega
theorem Zv8 {α:Type} (f:Int→α) (c:Nat) (k:Int) {l:List α} {i:Nat} {x:α} (h:l[i]?=some x):(mkR f c k l i)[i]?=some x:=by
 unfold mkR;rw[Kz (by rw[J7];omega),J7,Kam,KR];simpa using h
theorem ZzN {α:Type} (f:Int→α) (c:Nat) (k:Int) {l:List α} {i:Nat} (h:i<l.length):(mkR f c k l i).set i (f (k+((c*i:Nat):Int)))=mkR f c k l (i+1):=by
 unfold mkR;rw[List.set_append_right _ _ (by rw[J7];omega),J7,Kam,Zta,Lq,Kw h];rfl
theorem Zv9 {α:Type} (f:Int→α) (c:Nat) (k:Int) (l:List α):mkR f c k l l.length=mks f c l.length k:=by simp[mkR]
theorem Ztb {α:Type} (f:Int→α) (c:Nat) (k:Int) (l:List α):mkR f c k l 0=l:=by simp[mkR,mks]
theorem Ztc {α:Type} (g:α→D) (f:Int→α) (c:Nat) (k:Int) {l:List α} {i:Nat} (h:i<l.length):((mkR f c k l i).map g).set i (g (f (k+((c*i:Nat):Int))))=(mkR f c k l (i+1)).map g:=by
 rw[← LJ,ZzN f c k h]
theorem Zn2 (bX bY bW bH:Int):Zf Xs Ms Zba [(.d (.agg [J bX,J bY,J bW,J bH]))] []=some ((.d (.agg [J bX,J bY,J bW,J bH])),[]):=by
 refine cE ?_;simp +contextual -implicitDefEqProofs (maxSteps:=10^7) only[go_sem,seval,↓gZ,Zlx]
theorem Ztd (bW bH:Int) (bT:Bool) (bK:Int):Zf Xs Ms Zbs [(.d (.agg [J bW,J bH,.bool bT,J bK]))] []=some ((.d (.agg [J bW,J bH,.bool bT,J bK])),[]):=by
 refine cE ?_;simp +contextual -implicitDefEqProofs (maxSteps:=10^7) only[go_sem,seval,↓gZ,Zi4]
theorem Zmf (bW bH:Int) (bT:Bool) (bK bC:Int):Zf Xs Ms JO [(.d (.agg [J bW,J bH,.bool bT,J bK,J bC]))] []=some ((.d (.agg [J bW,J bH,.bool bT,J bK,J bC])),[]):=by
 have e1:=Ztd bW bH bT bK;refine cE ?_;simp +contextual -implicitDefEqProofs (maxSteps:=10^7) only[go_sem,seval,↓gZ,Zi0,e1]
theorem ZjI (bX bY bW bH:Int):Zf Xs Ms Zbb [(.d (.agg [J bX,J bY,J bW,J bH])),(.d (.agg [J bX,J bY,J bW,J bH]))] []=some ((.d (.bool true)),[]):=by
 refine cE ?_;simp +contextual -implicitDefEqProofs (maxSteps:=10^7) only[go_sem,seval,↓gZ,Zly]
theorem Zqg (bW bH:Int) (bT:Bool) (bK:Int):Zf Xs Ms Zbt [(.d (.agg [J bW,J bH,.bool bT,J bK])),(.d (.agg [J bW,J bH,.bool bT,J bK]))] []=some ((.d (.bool true)),[]):=by
 refine cE ?_;simp +contextual -implicitDefEqProofs (maxSteps:=10^7) only[go_sem,seval,↓gZ,Zi5,bNe,bne_self_eq_false]
theorem ZhM (bW bH:Int) (bT:Bool) (bK bC:Int):Zf Xs Ms JP [(.d (.agg [J bW,J bH,.bool bT,J bK,J bC])),(.d (.agg [J bW,J bH,.bool bT,J bK,J bC]))] []=some ((.d (.bool true)),[]):=by
 have e1:=Zqg bW bH bT bK;refine cE ?_;simp +contextual -implicitDefEqProofs (maxSteps:=10^7) only[go_sem,seval,↓gZ,Zi2,e1]
end Go.Proofs.YtdhgppkldoopaaaGreat
