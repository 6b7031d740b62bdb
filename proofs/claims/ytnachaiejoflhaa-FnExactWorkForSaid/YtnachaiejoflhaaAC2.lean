/- Own text. -/
import Derived.Test.YtnachaiejoflhaaACode
import Derived.Test.YtnachaiejoflhaaAbsParts
import Derived.Test.YtnachaiejoflhaaAbsOkD
namespace Go.Proofs.Ytnachaiejoflhaa
open Go Go.Abs Go.Abs.E Go.Abs.L
open Nat (reduceMul reduceSub reduceLeDiff reduceEqDiff)
open Int (reduceLE reduceEq reduceToNat reduceNeg)
set_option linter.unusedSimpArgs false
set_option linter.unusedVariables false
set_option maxRecDepth 20000
set_option maxHeartbeats 4000000
theorem Xo (n lo hi:Int):Zj Xs Ms ZR [(.d (J n)),(.d (J lo)),(.d (J hi))] []=some ((.d (.bool ((decide (lo≤n∧n≤hi))))),[]):=by
 refine cE ?_;simp +contextual -implicitDefEqProofs (maxSteps:=10^7) only[go_sem,seval,↓gZ,ZaB]
theorem ZbF (bX bY bW bH:Int):Zj Xs Ms Y9 [(.d (.agg [J bX,J bY,J bW,J bH]))] []=some ((.d (.bool ((decide (VB (Box.mk bX bY bW bH)))))),[]):=by
 refine cE ?_;simp +contextual -implicitDefEqProofs (maxSteps:=10^7) only[go_sem,seval,↓gZ,JD,Xo];have h1:=wi (200-bW);have h2:=wi (200-bH);exact Zam (by simp only[VB];omega)
theorem Xz (bX bY bW bH:Int):Zj Xs Ms Xp [(.d (.agg [J bX,J bY,J bW,J bH]))] []=some ((.d (.bool ((decide (VB (Box.mk bX bY bW bH)))))),[]):=by
 refine cE ?_;simp +contextual -implicitDefEqProofs (maxSteps:=10^7) only[go_sem,seval,↓gZ,JF];have h1:=wi (200-bW);have h2:=wi (200-bH);exact⟨fun h=>ZiD (by simp only[VB];omega),fun h=>Zam (by simp only[VB];omega)⟩
theorem Zht (aX aY aW aH:Int) (bX bY bW bH:Int) (ha:VB (Box.mk aX aY aW aH)) (h1:R64 bX) (h2:R64 bY) (h3:R64 (bX+bW)) (h4:R64 (bY+bH)):Zj Xs Ms Va [(.d (.agg [J aX,J aY,J aW,J aH])),(.d (.agg [J bX,J bY,J bW,J bH]))] []=some ((.d (.bool ((decide (Vm (Box.mk aX aY aW aH) (Box.mk bX bY bW bH)))))),[]):=by
 refine cE ?_;simp only[VB] at ha;have e1:=wi (aX+aW) (by omega) (by omega);have e2:=wi (aY+aH) (by omega) (by omega);have e3:=wi (bX+bW) h3.1 h3.2;have e4:=wi (bY+bH) h4.1 h4.2;simp +contextual -implicitDefEqProofs (maxSteps:=10^7) only[go_sem,seval,↓gZ,JE,e1,e2,e3,e4];exact Zam (by simp only[Vm];omega)
theorem Zja (aX aY aW aH:Int) (bX bY bW bH:Int) (ha:VB (Box.mk aX aY aW aH)) (hb:VB (Box.mk bX bY bW bH)) (hm:Zan (Box.mk aX aY aW aH) (Box.mk bX bY bW bH)):Zj Xs Ms VK [(.d (.agg [J aX,J aY,J aW,J aH])),(.d (.agg [J bX,J bY,J bW,J bH]))] []=some (.tup [.d (Zln (Box.mk aX aY aW aH) (Box.mk bX bY bW bH)).enc,(.d (.bool true))],[]):=by
 refine cE ?_;have aa:=ha;have ab:=hb;simp only[VB,Zan] at aa ab hm;have e1:=wi (aX+aW) (by omega) (by omega);have e2:=wi (aY+aH) (by omega) (by omega);have e3:=wi (bX+bW) (by omega) (by omega);have e4:=wi (bY+bH) (by omega) (by omega);have e5:=wi (min (aX+aW) (bX+bW)-max aX bX) (by omega) (by omega);have e6:=wi (min (aY+aH) (bY+bH)-max aY bY) (by omega) (by omega);have n1:¬(min (aX+aW) (bX+bW)≤max aX bX):=by omega
 have n2:¬(min (aY+aH) (bY+bH)≤max aY bY):=by omega
 simp +contextual -implicitDefEqProofs (maxSteps:=10^7) only[go_sem,seval,↓gZ,VM,Xz,ha,hb,e1,e2,e3,e4,e5,e6,n1,n2,Zln]
theorem Zkl (aX aY aW aH:Int) (bX bY bW bH:Int) (hm:¬(VB (Box.mk aX aY aW aH)∧VB (Box.mk bX bY bW bH)∧Zan (Box.mk aX aY aW aH) (Box.mk bX bY bW bH))):Zj Xs Ms VK [(.d (.agg [J aX,J aY,J aW,J aH])),(.d (.agg [J bX,J bY,J bW,J bH]))] []=some (.tup [.d (Box.enc ⟨0,0,0,0⟩),(.d (.bool false))],[]):=by
 refine cE ?_;by_cases ha:VB (Box.mk aX aY aW aH)
 ·by_cases hb:VB (Box.mk bX bY bW bH)
  ·have aa:=ha;have ab:=hb;simp only[ha,hb,true_and] at hm;simp only[VB,Zan] at aa ab hm;have e1:=wi (aX+aW) (by omega) (by omega);have e2:=wi (aY+aH) (by omega) (by omega);have e3:=wi (bX+bW) (by omega) (by omega);have e4:=wi (bY+bH) (by omega) (by omega);simp +contextual -implicitDefEqProofs (maxSteps:=10^7) only[go_sem,seval,↓gZ,VM,Xz,ha,hb,e1,e2,e3,e4];omega
  ·simp +contextual -implicitDefEqProofs (maxSteps:=10^7) only[go_sem,seval,↓gZ,VM,Xz,ha,hb]
 ·simp +contextual -implicitDefEqProofs (maxSteps:=10^7) only[go_sem,seval,↓gZ,VM,Xz,ha]
theorem Zhu (aX aY aW aH:Int) (bX bY bW bH:Int):Zj Xs Ms Vb [(.d (.agg [J aX,J aY,J aW,J aH])),(.d (.agg [J bX,J bY,J bW,J bH]))] []=some ((.d (.bool ((decide (VB (Box.mk aX aY aW aH)∧VB (Box.mk bX bY bW bH)∧Vm (Box.mk aX aY aW aH) (Box.mk bX bY bW bH)))))),[]):=by
 refine cE ?_;by_cases hm:VB (Box.mk aX aY aW aH)∧VB (Box.mk bX bY bW bH)∧Zan (Box.mk aX aY aW aH) (Box.mk bX bY bW bH)
 ·obtain⟨ha,hb,hm⟩:=hm;simp +contextual -implicitDefEqProofs (maxSteps:=10^7) only[go_sem,seval,↓gZ,WC,Zja _ _ _ _ _ _ _ _ ha hb hm,Zln];simp only[VB] at ha hb;simp only[Zan] at hm;exact Zam (by simp only[VB,Vm];omega)
 ·simp +contextual -implicitDefEqProofs (maxSteps:=10^7) only[go_sem,seval,↓gZ,WC,Zkl _ _ _ _ _ _ _ _ hm];have:¬(VB (Box.mk aX aY aW aH)∧VB (Box.mk bX bY bW bH)∧Vm (Box.mk aX aY aW aH) (Box.mk bX bY bW bH)):=by
   intro⟨h1,h2,h3⟩;refine hm ⟨h1,h2,?_⟩;simp only[VB,Vm] at h1 h2 h3;simp only[Zan];omega
  exact ZiD this
theorem Zfn (pW pH:Int) (pT:Bool) (pK:Int):Zj Xs Ms Yx [(.d (.agg [J pW,J pH,.bool pT,J pK]))] []=some ((.d (.bool ((decide (VP (Pane.mk pW pH pT pK)))))),[]):=by
 refine cE ?_;simp +contextual -implicitDefEqProofs (maxSteps:=10^7) only[go_sem,seval,↓gZ,US,Xo]
 first | exact Zam (by simp only[VP];omega) | skip
theorem Zfo (pW pH:Int) (pT:Bool) (pK:Int):Zj Xs Ms YA [(.d (.agg [J pW,J pH,.bool pT,J pK]))] []=some ((.d (.bool ((decide (VP (Pane.mk pW pH pT pK)))))),[]):=by
 refine cE ?_;simp +contextual -implicitDefEqProofs (maxSteps:=10^7) only[go_sem,seval,↓gZ,UV]
 first | exact Zam (by simp only[VP];omega) | skip
end Go.Proofs.Ytnachaiejoflhaa
namespace Go.Proofs.Ytnachaiejoflhaa
open Go Go.Abs Go.Abs.E Go.Abs.L
open Nat (reduceMul reduceSub reduceLeDiff reduceEqDiff)
open Int (reduceLE reduceEq reduceToNat reduceNeg)
set_option linter.unusedSimpArgs false
set_option linter.unusedVariables false
set_option maxRecDepth 20000
set_option maxHeartbeats 4000000
theorem UK (qL qW qH:Int) (qF:List Box):Zj Xs Ms Yb [(.d (.agg [J qL,J qW,J qH,.sl (qF.map Box.enc)]))] []=some (.d (.agg [J 0,J 0,J qW,J qH]),[]):=by
 refine cE ?_;simp +contextual -implicitDefEqProofs (maxSteps:=10^7) only[go_sem,seval,↓gZ,JH]
theorem ZeT (qL qW qH:Int) (qF:List Box):Zj Xs Ms XT [(.d (.agg [J qL,J qW,J qH,.sl (qF.map Box.enc)]))] []=some ((.d (.bool (decide (VPc (Zg.mk qL qW qH qF))))),[]):=by
 refine cE ?_;by_cases h0:(((qL<1∨9999<qL)∨¬VB ⟨0,0,qW,qH⟩)∨(6:Int)<qF.length)
 ·simp +contextual -implicitDefEqProofs (maxSteps:=10^7) only[go_sem,seval,↓gZ,Vf,UK,Xz,h0];exact ZiD (by simp only[VPc];simp only[VB] at h0;omega)
 ·simp +contextual -implicitDefEqProofs (maxSteps:=10^7) only[go_sem,seval,↓gZ,Vf,UK,Xz,h0];have hb:VB ⟨0,0,qW,qH⟩:=by
   refine Decidable.byContradiction fun h=>h0 (.inl (.inr h))
  refine LO (α:=Nat) (fun k=>[(28,.d (J (k:Int)))]) (fun _=>[]) (fun k=>k≤qF.length∧((∀ f∈qF,Uk qW qH f)↔∀ f∈qF.drop k,Uk qW qH f)) (fun k=>qF.length-k) 0 ⟨by omega,by simp⟩ ?_;intro k ⟨hk,hp⟩ ih;by_cases aa:k<qF.length
  ·obtain⟨x,hx⟩:=Qq aa;rw[Zlz hx] at hp;have hw:=Zw (k:=k) (by simp only[VB] at hb h0;omega);obtain⟨X,Y,W,H⟩:=x;simp +contextual -implicitDefEqProofs (maxSteps:=10^7) only[go_sem,seval,↓gZ,hx,aa,hw,UK,Zhu,hb];refine⟨fun h=>ZiD (fun hh=>h ((hp.1 hh.2).1)),fun h=>ih (k+1) _ ⟨by omega,?_⟩ (by omega) ?_⟩
   ·rw[hp];exact⟨fun hh=>hh.2,fun hh=>⟨h,hh⟩⟩
   ·simp +contextual -implicitDefEqProofs (maxSteps:=10^7) only[go_sem,seval,↓gZ]
  ·have:k=qF.length:=by omega
   subst this;simp +contextual -implicitDefEqProofs (maxSteps:=10^7) only[go_sem,seval,↓gZ];have hv:∀ f∈qF,Uk qW qH f:=hp.2 (by simp);exact fin_t (by simp only[VPc];simp only[VB] at h0;exact⟨by omega,hv⟩)
theorem ZeU (qL qW qH:Int) (qF:List Box) (hl:qF.length<4611686018427387904) (hW:R64 qW) (hH:R64 qH):Zj Xs Ms XR [(.d (.agg [J qL,J qW,J qH,.sl (qF.map Box.enc)]))] []=some ((.d (.bool (decide (VPc (Zg.mk qL qW qH qF))))),[]):=by
 refine cE ?_;simp +contextual -implicitDefEqProofs (maxSteps:=10^7) only[go_sem,seval,↓gZ,W1];refine LO (α:=Nat) (fun k=>[(3,.d (J (k:Int)))]) (fun _=>[]) (fun k=>k≤qF.length∧((∀ f∈qF,Uk qW qH f)↔∀ f∈qF.drop k,Uk qW qH f)) (fun k=>qF.length-k) 0 ⟨by omega,by simp⟩ ?_;intro k ⟨hk,hp⟩ ih;by_cases aa:k<qF.length
 ·obtain⟨x,hx⟩:=Qq aa;rw[Zlz hx] at hp;have hw:=Zw (k:=k) (by omega);obtain⟨X,Y,W,H⟩:=x;by_cases hv:VB ⟨X,Y,W,H⟩
  ·have hi:=Zht X Y W H 0 0 qW qH hv ⟨by omega,by omega⟩ ⟨by omega,by omega⟩ (by simpa using hW) (by simpa using hH);simp +contextual -implicitDefEqProofs (maxSteps:=10^7) only[go_sem,seval,↓gZ,hx,aa,hw,ZbF,hi,hv];refine⟨fun h=>ZiD (fun hh=>h ((hp.1 hh.2).1.2)),fun h=>ih (k+1) _ ⟨by omega,?_⟩ (by omega) ?_⟩
   ·rw[hp];exact⟨fun hh=>hh.2,fun hh=>⟨⟨hv,h⟩,hh⟩⟩
   ·simp +contextual -implicitDefEqProofs (maxSteps:=10^7) only[go_sem,seval,↓gZ]
  ·simp +contextual -implicitDefEqProofs (maxSteps:=10^7) only[go_sem,seval,↓gZ,hx,aa,hw,ZbF,hv];exact ZiD (fun hh=>hv ((hp.1 hh.2).1.1))
 ·have:k=qF.length:=by omega
  subst this;simp +contextual -implicitDefEqProofs (maxSteps:=10^7) only[go_sem,seval,↓gZ,Xo];have hv:∀ f∈qF,Uk qW qH f:=hp.2 (by simp);exact Zam (by simp only[VPc];exact⟨fun h=>⟨by omega,hv⟩,fun h=>by omega⟩)
def Xe:List Zg→Int
 | []=>0
 | x :: l=>x.W*x.H+Xe l
theorem Zjb (a b:List Zg):Xe (a++b)=Xe a+Xe b:=by
 induction a with
 | nil=>simp[Xe]
 | cons c l ih=>simp only[Ky,Xe,ih];omega
theorem Zfp {L:List Zg} {i:Nat} {x:Zg} (hx:L[i]?=some x):Xe (L.take (i+1))=Xe (L.take i)+x.W*x.H:=by
 rw[K1,hx,Zjb];simp[Xe]
theorem WA:∀ {l:List Zg},(∀ x∈l,1≤x.W∧x.W≤200∧1≤x.H∧x.H≤200)→0≤Xe l∧Xe l≤40000*l.length
 | [],_=>by simp[Xe]
 | x :: l,h=>by
  have h1:=h x (by simp);have h2:=WA (l:=l) fun y hy=>h y (by simp[hy]);have h3:0≤x.W*x.H:=Lx (by omega) (by omega);have h4:x.W*x.H≤200*200:=Ly (by omega) (by omega) (by omega) (by omega);simp only[Xe,KD];omega
def Uu:Int→List Zg→Prop
 | _,[]=>True
 | b,x :: l=>VPc x∧b<x.Label∧Uu x.Label l
instance sortFdec:∀ (b:Int) (l:List Zg),Decidable (Uu b l)
 | _,[]=>.isTrue trivial
 | b,x :: l=>by unfold Uu;exact @instDecidableAnd _ _ _ (@instDecidableAnd _ _ _ (sortFdec x.Label l))
def VSt (l:List Zg):Prop:=l.length≤20∧Uu 0 l
instance (l:List Zg):Decidable (VSt l):=by unfold VSt;infer_instance
theorem Zfq {l:List Zg} {k:Nat} {x:Zg} {b:Int} (hx:l[k]?=some x):Uu b (l.drop k)↔VPc x∧b<x.Label∧Uu x.Label (l.drop (k+1)):=by
 obtain⟨h1,h2⟩:=Kc.1 hx;rw[KI h1,h2,Uu]
theorem Zh5 {l:List Zg} {b:Int}:Uu b (l.drop l.length):=by simp[Uu]
theorem Zaj (l:List Zg):Zj Xs Ms Xg [(.d (.sl (l.map Zg.enc)))] []=some ((.d (.bool (decide (VSt l)))),[]):=by
 by_cases ab:(20:Int)<(l.length:Int)
 ·have hn:¬VSt l:=fun h=>by have:=h.1;omega
  refine cE ?_;simp +contextual -implicitDefEqProofs (maxSteps:=10^7) only[go_sem,seval,↓gZ,Vd,ab,hn]
 ·have ad:l.length≤20:=by omega
  refine cE ?_;simp +contextual -implicitDefEqProofs (maxSteps:=10^7) only[go_sem,seval,↓gZ,Vd,ab];refine LO (α:=Nat×Int) (fun s=>[(11,.d (J (s.1:Int))),(3,.d (J s.2))]) (fun _=>[]) (fun s=>s.1≤l.length∧(Uu 0 l↔Uu s.2 (l.drop s.1))) (fun s=>l.length-s.1) (0,0) ⟨by simp,by simp⟩ ?_;intro⟨i,b⟩ ⟨hi,hp⟩ ih;simp only at hi hp;by_cases aa:i<l.length
  ·obtain⟨x,hx⟩:=Qq aa;have hw:=Zw (k:=i) (by omega);rw[Zfq hx] at hp;have ev:=ZeT x.Label x.W x.H x.Flaws;obtain⟨L,W,H,F⟩:=x;simp only at hp ev;by_cases hv:VPc ⟨L,W,H,F⟩
   ·rw[KC hv] at ev;by_cases hb:L≤b
    ·have hn:¬VSt l:=fun h=>by have:=(hp.1 h.2).2.1;omega
     simp +contextual -implicitDefEqProofs (maxSteps:=10^7) only[go_sem,seval,↓gZ,hx,aa,hw,ev,hb,hn]
    ·simp +contextual -implicitDefEqProofs (maxSteps:=10^7) only[go_sem,seval,↓gZ,hx,aa,hw,ev,hb];refine ih (i+1,L) _ ⟨by simp only;omega,?_⟩ (by simp only;omega) ?_
     ·rw[hp];exact⟨fun h=>h.2.2,fun h=>⟨hv,by omega,h⟩⟩
     ·simp +contextual -implicitDefEqProofs (maxSteps:=10^7) only[go_sem,seval,↓gZ]
   ·rw[KE hv] at ev;have hn:¬VSt l:=fun h=>hv (hp.1 h.2).1;simp +contextual -implicitDefEqProofs (maxSteps:=10^7) only[go_sem,seval,↓gZ,hx,aa,hw,ev,hn]
  ·have:i=l.length:=by omega
   subst this;have hy:VSt l:=⟨ad,hp.2 Zh5⟩
   simp +contextual -implicitDefEqProofs (maxSteps:=10^7) only[go_sem,seval,↓gZ,hy]
def Zfr (l:List Zg):Nat→Int
 | 0=>0
 | j+1=>match l[j]? with
  | some x=>x.Label
  | none=>0
theorem ZeV (l:List Zg) (hl:l.length<4611686018427387904) (hS:∀ x∈l,x.Flaws.length<4611686018427387904∧R64 x.W∧R64 x.H):Zj Xs Ms XS [(.d (.sl (l.map Zg.enc)))] []=some ((.d (.bool (decide (VSt l)))),[]):=by
 refine cE ?_;simp +contextual -implicitDefEqProofs (maxSteps:=10^7) only[go_sem,seval,↓gZ,W2];refine LO (α:=Nat) (fun i=>[(3,.d (J (i:Int)))]) (fun _=>[]) (fun i=>i≤l.length∧(Uu 0 l↔Uu (Zfr l i) (l.drop i))) (fun i=>l.length-i) 0 ⟨by simp,by simp[Zfr]⟩ ?_;intro i ⟨hi,hp⟩ ih;by_cases aa:i<l.length
 ·obtain⟨x,hx⟩:=Qq aa;have hw:=Zw (k:=i) (by omega);rw[Zfq hx] at hp;obtain⟨ag,ah,ai⟩:=hS x (Kk hx);have ev:=ZeU x.Label x.W x.H x.Flaws ag ah ai;have ad:Zfr l (i+1)=x.Label:=by simp only[Zfr,hx]
  obtain⟨L,W,H,F⟩:=x;simp only at hp ev ad;by_cases hv:VPc ⟨L,W,H,F⟩
  ·rw[KC hv] at ev;have hL:1≤L:=hv.1.1;cases i with
   | zero=>
    have ae : (0:Int)<(l.length:Int):=by omega
    simp +contextual -implicitDefEqProofs (maxSteps:=10^7) only[go_sem,seval,↓gZ,hx,aa,ae,hw,ev];refine ih 1 _ ⟨by omega,?_⟩ (by omega) ?_
    ·rw[hp,ad];exact⟨fun h=>h.2.2,fun h=>⟨hv,by simp only[Zfr];omega,h⟩⟩
    ·simp +contextual -implicitDefEqProofs (maxSteps:=10^7) only[go_sem,seval,↓gZ]
   | succ j=>
    obtain⟨y,hy⟩:=Qq (l:=l) (k:=j) (by omega);have aj:Zfr l (j+1)=y.Label:=by simp only[Zfr,hy]
    rw[aj] at hp;have hj:IntKind.i64.wrap (((j+1:Nat):Int)-1)=(j:Int):=by rw[ZaP (by omega) (by omega)];omega
    have ab:(0:Int)<((j+1:Nat):Int):=by omega
    have af:j<l.length:=by omega
    obtain⟨L',W',H',F'⟩:=y;simp only at hp;by_cases hb:L≤L'
    ·have hn:¬VSt l:=fun h=>by have:=(hp.1 h.2).2.1;omega
     simp +contextual -implicitDefEqProofs (maxSteps:=10^7) only[go_sem,seval,↓gZ,hx,aa,hw,ev,ab,hj,af,hy,hb,hn]
    ·simp +contextual -implicitDefEqProofs (maxSteps:=10^7) only[go_sem,seval,↓gZ,hx,aa,hw,ev,ab,hj,af,hy,hb];refine ih (j+1+1) _ ⟨by omega,?_⟩ (by omega) ?_
     ·rw[hp,ad];exact⟨fun h=>h.2.2,fun h=>⟨hv,by omega,h⟩⟩
     ·simp +contextual -implicitDefEqProofs (maxSteps:=10^7) only[go_sem,seval,↓gZ]
  ·rw[KE hv] at ev;have hn:¬VSt l:=fun h=>hv (hp.1 h.2).1;simp +contextual -implicitDefEqProofs (maxSteps:=10^7) only[go_sem,seval,↓gZ,hx,aa,hw,ev,hn]
 ·have:i=l.length:=by omega
  subst this;have hs:=hp.2 Zh5;simp +contextual -implicitDefEqProofs (maxSteps:=10^7) only[go_sem,seval,↓gZ];exact Zam (by simp only[VSt];constructor<;>(intro h;first | exact⟨by omega,hs⟩ | (have:=h.1;omega)))
def VF:Nat→List Zg→Int→Int
 | _,[],_=>-1
 | k,x :: l,n=>if x.Label=n then (k:Int) else VF (k+1) l n
theorem Zh6 {l:List Zg} {k:Nat} {x:Zg} {n:Int} (hx:l[k]?=some x):VF k (l.drop k) n=if x.Label=n then (k:Int) else VF (k+1) (l.drop (k+1)) n:=by
 obtain⟨h1,h2⟩:=Kc.1 hx;rw[KI h1,h2,VF]
theorem Zdu (qL qW qH:Int) (qF:List Box) (n:Int):Zj Xs Ms Q1 [(.d (.agg [J qL,J qW,J qH,.sl (qF.map Box.enc)])),.ptr 0 0] [.box [(.d (J n))]]=some ((.d (.bool (decide (qL=n)))),[.box [(.d (J n))]]):=by
 refine cE ?_;simp +contextual -implicitDefEqProofs (maxSteps:=10^7) only[go_sem,seval,↓gZ,Wp]
theorem Zjc (l:List Zg) (n:Int) (hl:l.length<4611686018427387904):Zj Xs Ms QH [(.d (.sl (l.map Zg.enc))),.clo Q1 [.ptr 0 0]] [.box [(.d (J n))]]=some ((.d (J (VF 0 l n))),[.box [(.d (J n))]]):=by
 refine cE ?_;simp +contextual -implicitDefEqProofs (maxSteps:=10^7) only[go_sem,seval,↓gZ,XU];refine LO (α:=Nat) (fun k=>[(8,.d (J (k:Int)))]) (fun _=>[]) (fun k=>k≤l.length∧VF k (l.drop k) n=VF 0 l n) (fun k=>l.length-k) 0 ⟨by omega,rfl⟩ ?_;intro k ⟨hk,hp⟩ ih;by_cases aa:k<l.length
 ·obtain⟨x,hx⟩:=Qq aa;rw[Zh6 hx] at hp;have hw:=Zw (k:=k) (by omega);have e1:=Zdu x.Label x.W x.H x.Flaws n;obtain⟨L,W,H,F⟩:=x;simp only at hp e1;by_cases h:L=n
  ·rw[Kw h] at hp;rw[KC h] at e1;simp +contextual -implicitDefEqProofs (maxSteps:=10^7) only[go_sem,seval,↓gZ,hx,aa,hw,e1];rw[← hp]
  ·rw[Ko h] at hp;rw[KE h] at e1;simp +contextual -implicitDefEqProofs (maxSteps:=10^7) only[go_sem,seval,↓gZ,hx,aa,hw,e1];refine ih (k+1) _ ⟨by omega,hp⟩ (by omega) ?_;simp +contextual -implicitDefEqProofs (maxSteps:=10^7) only[go_sem,seval,↓gZ]
 ·have:k=l.length:=by omega
  subst this;simp +contextual -implicitDefEqProofs (maxSteps:=10^7) only[go_sem,seval,↓gZ];rw[← hp];simp[VF]
theorem Zfs (l:List Zg) (n:Int) (hl:l.length<4611686018427387904):Zj Xs Ms Yt [(.d (.sl (l.map Zg.enc))),(.d (J n))] []=some ((.d (J (VF 0 l n))),[]):=by
 refine cE ?_;simp +contextual -implicitDefEqProofs (maxSteps:=10^7) only[go_sem,seval,↓gZ,UM,Zjc l n hl]
theorem Zft (l:List Zg) (n:Int) (hl:l.length<4611686018427387904):Zj Xs Ms XA [(.d (.sl (l.map Zg.enc))),(.d (J n))] []=some ((.d (J (VF 0 l n))),[]):=by
 refine cE ?_;simp +contextual -implicitDefEqProofs (maxSteps:=10^7) only[go_sem,seval,↓gZ,UL];refine LO (α:=Nat) (fun k=>[(5,.d (J (k:Int)))]) (fun _=>[]) (fun k=>k≤l.length∧VF k (l.drop k) n=VF 0 l n) (fun k=>l.length-k) 0 ⟨by omega,rfl⟩ ?_;intro k ⟨hk,hp⟩ ih;by_cases aa:k<l.length
 ·obtain⟨x,hx⟩:=Qq aa;rw[Zh6 hx] at hp;have hw:=Zw (k:=k) (by omega);obtain⟨L,W,H,F⟩:=x;simp only at hp;by_cases h:L=n
  ·rw[Kw h] at hp;simp +contextual -implicitDefEqProofs (maxSteps:=10^7) only[go_sem,seval,↓gZ,hx,aa,hw,h];rw[← hp]
  ·rw[Ko h] at hp;simp +contextual -implicitDefEqProofs (maxSteps:=10^7) only[go_sem,seval,↓gZ,hx,aa,hw,h];refine ih (k+1) _ ⟨by omega,hp⟩ (by omega) ?_;simp +contextual -implicitDefEqProofs (maxSteps:=10^7) only[go_sem,seval,↓gZ]
 ·have:k=l.length:=by omega
  subst this;simp +contextual -implicitDefEqProofs (maxSteps:=10^7) only[go_sem,seval,↓gZ];rw[← hp];simp[VF]
theorem Zfu:∀ (l:List Zg) (k:Nat) (n:Int),VF k l n=-1∨∃ i:Nat,VF k l n=((k+i:Nat):Int)∧i<l.length
 | [],k,n=>.inl rfl
 | x :: l,k,n=>by
  unfold VF;split
  ·exact .inr ⟨0,by simp,by simp⟩
  ·rcases Zfu l (k+1) n with h | ⟨i,h1,h2⟩
   ·exact .inl h
   ·exact .inr ⟨i+1,by rw[h1];congr 1;omega,by simp;omega⟩
theorem Zdv:∀ {l:List Zg} {b:Int},Uu b l→∀ x∈l,VPc x
 | [],_,_,x,hx=>by simp at hx
 | y :: l,b,h,x,hx=>by
  rcases Ke.1 hx with rfl | hx
  ·exact h.1
  ·exact Zdv h.2.2 x hx
theorem Zkm {l:List Zg} {n:Int} (h:0≤VF 0 l n):∃ (i:Nat) (x:Zg),VF 0 l n=(i:Int)∧l[i]?=some x:=by
 rcases Zfu l 0 n with h1 | ⟨i,h1,h2⟩
 ·omega
 ·obtain⟨x,hx⟩:=Qq h2;exact⟨i,x,by rw[h1];simp,hx⟩
theorem Zfv (l:List Zg) (hv:VSt l):Zj Xs Ms Yv [(.d (.sl (l.map Zg.enc)))] []=some ((.d (J (Xe l))),[]):=by
 have ev:=Zaj l;rw[KC hv] at ev;have af:=hv.1;have aa:∀ x∈l,1≤x.W∧x.W≤200∧1≤x.H∧x.H≤200:=fun x hx=>by
  have:=(Zdv hv.2 x hx).1;omega
 clear hv;refine cE ?_;simp +contextual -implicitDefEqProofs (maxSteps:=10^7) only[go_sem,seval,↓gZ,UQ,ev];refine LO (α:=Nat) (fun i=>[(11,.d (J (i:Int))),(3,.d (J (Xe (l.take i))))]) (fun _=>[]) (fun i=>i≤l.length) (fun i=>l.length-i) 0 (by omega) ?_;intro i hi ih;by_cases ab:i<l.length
 ·obtain⟨x,hx⟩:=Qq ab;have hw:=Zw (k:=i) (by omega);have hm:=Zfp hx;have ag:=WA (l:=l.take i) (fun y hy=>aa y (K6 hy));have ah:(l.take i).length≤i:=by simp;omega
  have g5:=aa x (Kk hx);have ad:x.W*x.H≤200*200:=Ly (by omega) (by omega) (by omega) (by omega);have ae:0≤x.W*x.H:=Lx (by omega) (by omega);obtain⟨xL,xW,xH,xF⟩:=x;simp only at g5 hm ad ae;have u0:=wi (xW*xH) (by omega) (by omega);have u1:=wi (Xe (l.take i)+xW*xH) (by omega) (by omega);simp +contextual -implicitDefEqProofs (maxSteps:=10^7) only[go_sem,seval,↓gZ,hx,ab,hw,u0,u1];refine ih (i+1) _ (by omega) (by omega) ?_;simp +contextual -implicitDefEqProofs (maxSteps:=10^7) only[go_sem,seval,↓gZ,hm]
 ·have:i=l.length:=by omega
  subst this;simp +contextual -implicitDefEqProofs (maxSteps:=10^7) only[go_sem,seval,↓gZ,List.take_length]
end Go.Proofs.Ytnachaiejoflhaa
