/- Own text. -/
import Derived.Test.YtnachaiejoflhaaDoorACode
import Derived.Test.YtnachaiejoflhaaDoorAbsParts
import Derived.Test.YtnachaiejoflhaaDoorAbsOkD
namespace Go.Proofs.YtnachaiejoflhaaDoor
open Go Go.Abs Go.Abs.E Go.Abs.L
open Nat (reduceMul reduceSub reduceLeDiff reduceEqDiff)
open Int (reduceLE reduceEq reduceToNat reduceNeg)
set_option linter.unusedSimpArgs false
set_option linter.unusedVariables false
set_option maxRecDepth 20000
set_option maxHeartbeats 4000000
theorem XJ (n lo hi:Int):Zj Xs Ms Yb [(.d (J n)),(.d (J lo)),(.d (J hi))] []=some ((.d (.bool ((decide (lo≤n∧n≤hi))))),[]):=by
 refine cE ?_;simp +contextual -implicitDefEqProofs (maxSteps:=10^7) only[go_sem,seval,↓gZ,Zbr]
theorem Xo (pO pA pP:Int) (pT:Bool) (pK:List D):Zj Xs Ms J2 [.d (.agg [J pO,J pA,J pP,.bool pT,.sl pK])] []=some ((.d (.bool (decide (pO=2∨pO=3)))),[]):=by
 refine cE ?_;simp +contextual -implicitDefEqProofs (maxSteps:=10^7) only[go_sem,seval,↓gZ,ZeS]
theorem UI:∀ (n:Nat) (p:Ze),p.nodes≤n→Zj Xs Ms XL [.d p.enc] []=some ((.d (J (Zn 255 (QV p)))),[])
 | 0,.mk o a p t ks,hn=>by simp[Ze.nodes] at hn
 | n+1,.mk o a p t ks,hn=>by
  by_cases ho:o=2∨o=3
  ·by_cases hk:ks.length=2
   ·obtain⟨x,hx⟩:=JJ (l:=ks) (k:=0) (by omega);obtain⟨y,hy⟩:=JJ (l:=ks) (k:=1) (by omega);have aa:=UI n x (Zae hn hx);have ab:=UI n y (Zae hn hy);rw[Zj8 ho hk hx hy];obtain⟨lx,ae⟩:∃ l,l=QV x:=⟨_,rfl⟩
    obtain⟨ly,af⟩:∃ l,l=QV y:=⟨_,rfl⟩
    rw[← ae] at aa ⊢;rw[← af] at ab ⊢;have rx:=Uz 255 (by omega) lx;have ry:=Uz 255 (by omega) ly;have ad:(ks.length:Int)=2:=by omega
    by_cases hp:p=0
    ·cases t with
     | true=>
      have hb:=ZaS 255 o a p true lx ly (by simp);rw[hb];refine cE ?_;simp +contextual -implicitDefEqProofs (maxSteps:=10^7) only[go_sem,seval,↓gZ,Qk,Xo,ho,hp]
     | false=>
      subst hp;rw[ZnX];obtain⟨sx,ag⟩:∃ s,s=Zn 255 lx:=⟨_,rfl⟩
      obtain⟨sy,ah⟩:∃ s,s=Zn 255 ly:=⟨_,rfl⟩
      rw[← ag] at aa rx ⊢;rw[← ah] at ab ry ⊢;have w1:=wi (1+sx) (by omega) (by omega);have w2:=wi (1+sx+sy) (by omega) (by omega);refine cE ?_;simp +contextual -implicitDefEqProofs (maxSteps:=10^7) only[go_sem,seval,↓gZ,Qk,Xo,ho,ad];refine Xg Xs Ms ?_;simp +contextual -implicitDefEqProofs (maxSteps:=10^7) only[go_sem,seval,↓gZ,ad,hx,hy,aa,ab,w1,w2];intro h;refine Xg Xs Ms ?_;simp +contextual -implicitDefEqProofs (maxSteps:=10^7) only[go_sem,seval,↓gZ,ad,hx,hy,aa,ab,w1,w2,h];intro h';refine Xg Xs Ms ?_;simp +contextual -implicitDefEqProofs (maxSteps:=10^7) only[go_sem,seval,↓gZ,ad,hx,hy,aa,ab,w1,w2,h,h']
    ·have hb:=ZaS 255 o a p t lx ly (by simp[hp]);rw[hb];refine cE ?_;simp +contextual -implicitDefEqProofs (maxSteps:=10^7) only[go_sem,seval,↓gZ,Qk,Xo,ho,hp]
   ·rw[Zfg _ _ _ _ _ ho hk];refine cE ?_;have ai : ¬(ks.length:Int)=2:=by omega
    simp +contextual -implicitDefEqProofs (maxSteps:=10^7) only[go_sem,seval,↓gZ,Qk,Xo,ho,ai,Zn]
  ·rw[Zik ho];by_cases h1:ks.length=0∧a=0∧o=1
   ·rw[Ko h1];obtain⟨h1,rfl,rfl⟩:=h1;refine cE ?_;simp +contextual -implicitDefEqProofs (maxSteps:=10^7) only[go_sem,seval,↓gZ,Qk,Xo,ho,h1,Zn,BT.cnt];refine Xg Xs Ms ?_;simp +contextual -implicitDefEqProofs (maxSteps:=10^7) only[go_sem,seval,↓gZ,h1]
   ·rw[Kf h1];by_cases h2:ks.length=0∧a=0∧o=0∧p=0∧t=false
    ·rw[Ko h2];obtain⟨h2,rfl,rfl,rfl,rfl⟩:=h2;refine cE ?_;simp +contextual -implicitDefEqProofs (maxSteps:=10^7) only[go_sem,seval,↓gZ,Qk,Xo,ho,h2,Zn,BT.cnt];refine Xg Xs Ms ?_;simp +contextual -implicitDefEqProofs (maxSteps:=10^7) only[go_sem,seval,↓gZ,h2]
    ·rw[Kf h2];by_cases c1:ks.length=0
     ·by_cases c2:a=0
      ·by_cases c3:o=1
       ·exact absurd ⟨c1,c2,c3⟩ h1
       ·by_cases c4:o=0
        ·by_cases c5:p=0
         ·cases t with
          | false=>exact absurd ⟨c1,c2,c4,c5,rfl⟩ h2
          | true=>
           refine cE ?_;simp +contextual -implicitDefEqProofs (maxSteps:=10^7) only[go_sem,seval,↓gZ,Qk,Xo,ho,c1,c2,c3,c4,c5,Zn]
         ·refine cE ?_;simp +contextual -implicitDefEqProofs (maxSteps:=10^7) only[go_sem,seval,↓gZ,Qk,Xo,ho,c1,c2,c3,c4,c5,Zn]
        ·refine cE ?_;simp +contextual -implicitDefEqProofs (maxSteps:=10^7) only[go_sem,seval,↓gZ,Qk,Xo,ho,c1,c2,c3,c4,Zn]
      ·refine cE ?_;simp +contextual -implicitDefEqProofs (maxSteps:=10^7) only[go_sem,seval,↓gZ,Qk,Xo,ho,c1,c2,Zn]
     ·have aj : ¬(ks.length:Int)=0:=by omega
      refine cE ?_;simp +contextual -implicitDefEqProofs (maxSteps:=10^7) only[go_sem,seval,↓gZ,Qk,Xo,ho,aj,Zn]
theorem ZcL (p:Ze):Zj Xs Ms XL [.d p.enc] []=some ((.d (J (Zn 255 (QV p)))),[]):=UI _ p (Kg _)
theorem Wx:∀ (n:Nat) (p:Ze),p.nodes≤n→∀ m:Int,-10≤m→m≤255→Zj Xs Ms Xw [.d p.enc,(.d (J m))] []=some ((.d (J (Zn m (QV p)))),[])
 | 0,.mk o a p t ks,hn,m,_,_=>by simp[Ze.nodes] at hn
 | n+1,.mk o a p t ks,hn,m,hm1,hm2=>by
  by_cases hm:m<1
  ·rw[ZnY hm];refine cE ?_;simp +contextual -implicitDefEqProofs (maxSteps:=10^7) only[go_sem,seval,↓gZ,Zv,hm]
  by_cases ho:o=2∨o=3
  ·have al:¬o=0:=by omega
   have am:¬o=1:=by omega
   by_cases hk:ks.length=2
   ·obtain⟨x,hx⟩:=JJ (l:=ks) (k:=0) (by omega);obtain⟨y,hy⟩:=JJ (l:=ks) (k:=1) (by omega);rw[Zj8 ho hk hx hy];have aa:(ks.length:Int)=2:=by omega
    by_cases hp:p=0
    ·cases t with
     | true=>
      have hb:=ZaS m o a p true (QV x) (QV y) (by simp);rw[hb];refine cE ?_;rcases ho with ho | ho<;>simp +contextual -implicitDefEqProofs (maxSteps:=10^7) only[go_sem,seval,↓gZ,Zv,ho,hp,hm,aa]
     | false=>
      subst hp;rw[ZmR];have ag:=Wx n x (Zae hn hx) (m-1) (by omega) (by omega);have rx:=Uz (m-1) (by omega) (QV x);have ab:=Wx n y (Zae hn hy) (m-1-Zn (m-1) (QV x)) (by omega) (by omega);have ry:=Uz (m-1-Zn (m-1) (QV x)) (by omega) (QV y);obtain⟨sy,ah⟩:∃ s,s=Zn (m-1-Zn (m-1) (QV x)) (QV y):=⟨_,rfl⟩
      rw[← ah] at ab ry ⊢;obtain⟨sx,ai⟩:∃ s,s=Zn (m-1) (QV x):=⟨_,rfl⟩
      rw[← ai] at ag ab rx ry ⊢;clear ai ah;have w0:=wi (m-1) (by omega) (by omega);have w1:=wi (m-1-sx) (by omega) (by omega);have w2:=wi (1+sx) (by omega) (by omega);have w3:=wi (1+sx+sy) (by omega) (by omega);refine cE ?_;rcases ho with ho | ho<;>simp +contextual -implicitDefEqProofs (maxSteps:=10^7) only[go_sem,seval,↓gZ,Zv,ho,hm,aa,hx,hy,ag,ab,w0,w1,w2,w3]
    ·have hb:=ZaS m o a p t (QV x) (QV y) (by simp[hp]);rw[hb];refine cE ?_;rcases ho with ho | ho<;>simp +contextual -implicitDefEqProofs (maxSteps:=10^7) only[go_sem,seval,↓gZ,Zv,ho,hp,hm,aa]
   ·rw[Zfg _ _ _ _ _ ho hk];have ak : ¬(ks.length:Int)=2:=by omega
    refine cE ?_;rcases ho with ho | ho<;>simp +contextual -implicitDefEqProofs (maxSteps:=10^7) only[go_sem,seval,↓gZ,Zv,ho,ak,hm,Zn]
  ·rw[Zik ho];have ad : ¬o=2:=by omega
   have ae : ¬o=3:=by omega
   have aj : (1:Int)≤m:=by omega
   by_cases h1:ks.length=0∧a=0∧o=1
   ·rw[Ko h1];obtain⟨h1,rfl,rfl⟩:=h1;refine cE ?_;simp +contextual -implicitDefEqProofs (maxSteps:=10^7) only[go_sem,seval,↓gZ,Zv,h1,hm,Zn,BT.cnt,aj]
   ·rw[Kf h1];by_cases h2:ks.length=0∧a=0∧o=0∧p=0∧t=false
    ·rw[Ko h2];obtain⟨h2,rfl,rfl,rfl,rfl⟩:=h2;refine cE ?_;simp +contextual -implicitDefEqProofs (maxSteps:=10^7) only[go_sem,seval,↓gZ,Zv,h2,hm,Zn,BT.cnt,aj]
    ·rw[Kf h2];by_cases c1:ks.length=0
     ·by_cases c2:a=0
      ·by_cases c3:o=1
       ·exact absurd ⟨c1,c2,c3⟩ h1
       ·by_cases c4:o=0
        ·by_cases c5:p=0
         ·cases t with
          | false=>exact absurd ⟨c1,c2,c4,c5,rfl⟩ h2
          | true=>
           refine cE ?_;simp +contextual -implicitDefEqProofs (maxSteps:=10^7) only[go_sem,seval,↓gZ,Zv,hm,c1,c2,c3,c4,c5,Zn]
         ·refine cE ?_;simp +contextual -implicitDefEqProofs (maxSteps:=10^7) only[go_sem,seval,↓gZ,Zv,hm,c1,c2,c3,c4,c5,Zn]
        ·refine cE ?_;simp +contextual -implicitDefEqProofs (maxSteps:=10^7) only[go_sem,seval,↓gZ,Zv,hm,c1,c2,c3,c4,ad,ae,Zn]
      ·refine cE ?_;by_cases c3:o=1
       ·simp +contextual -implicitDefEqProofs (maxSteps:=10^7) only[go_sem,seval,↓gZ,Zv,hm,c1,c2,c3,Zn]
       ·by_cases c4:o=0
        ·simp +contextual -implicitDefEqProofs (maxSteps:=10^7) only[go_sem,seval,↓gZ,Zv,hm,c1,c2,c3,c4,Zn]
        ·simp +contextual -implicitDefEqProofs (maxSteps:=10^7) only[go_sem,seval,↓gZ,Zv,hm,c1,c2,c3,c4,ad,ae,Zn]
     ·have af : ¬(ks.length:Int)=0:=by omega
      refine cE ?_;by_cases c3:o=1
      ·simp +contextual -implicitDefEqProofs (maxSteps:=10^7) only[go_sem,seval,↓gZ,Zv,hm,af,c3,Zn]
      ·by_cases c4:o=0
       ·simp +contextual -implicitDefEqProofs (maxSteps:=10^7) only[go_sem,seval,↓gZ,Zv,hm,af,c3,c4,Zn]
       ·simp +contextual -implicitDefEqProofs (maxSteps:=10^7) only[go_sem,seval,↓gZ,Zv,hm,af,c3,c4,ad,ae,Zn]
theorem ZiZ (p:Ze):Zj Xs Ms V8 [.d p.enc] []=some ((.d (J (Zn 255 (QV p)))),[]):=by
 have h:=Wx _ p (Kg _) 255 (by omega) (by omega);obtain⟨o,a,q,t,ks⟩:=p;rw[Ze.enc_mk] at h ⊢;refine cE ?_;simp +contextual -implicitDefEqProofs (maxSteps:=10^7) only[go_sem,seval,↓gZ,Zaw,h]
structure ZR where
 kind:Int
 label:Int
 box:Box
 line:QG
 plan:Ze
def ZR.enc (e:ZR):D:=.agg ([J e.kind,J e.label,J e.box.X,J e.box.Y,J e.box.W,J e.box.H,J e.line.Pane.W,J e.line.Pane.H,.bool e.line.Pane.Turns,J e.line.Pane.Kind,J e.line.Count]++e.plan.enc.cells)
@[go_sem] theorem ZR.enc_mk (k l x y w h pw ph pk c o a p:Int) (pt t:Bool) (ks:List Ze):ZR.enc (ZR.mk k l (Box.mk x y w h) (QG.mk (Pane.mk pw ph pt pk) c) (Ze.mk o a p t ks)) =
  .agg [J k,J l,J x,J y,J w,J h,J pw,J ph,.bool pt,J pk,J c,J o,J a,J p,.bool t,.sl (ks.map Ze.enc)]:=by
 simp only[ZR.enc,Ze.enc_mk];rfl
theorem ZR.enc_len (e:ZR):(ZR.enc e).cells.length=16:=by
 show (_++e.plan.enc.cells).length=16;rw[Kt,Ze.enc_len];rfl
@[go_sem] theorem uni_Event (l:List ZR):uni 16 (l.map ZR.enc)=True:=eq_true (Ux l ZR.enc_len)
theorem bNe (a b:Bool):Zid .neq true (AV.d (.bool a)) (.d (.bool b))=Yw (some (AV.d (.bool (a != b)))):=by cases a<;>cases b<;>rfl
def XC {α:Type} (f:α→Nat):List α→Nat
 | []=>0
 | x :: r=>f x+XC f r
def plO:List Ze→Zf
 | []=>.row 5 [] true false
 | k :: r=>.tree 5 5 ((k :: r).map Ze.enc) none
@[go_sem] theorem plO_nil:plO []=.row 5 [] true false:=rfl
@[go_sem] theorem plO_cons (k:Ze) (r:List Ze):plO (k :: r)=.tree 5 5 ((k :: r).map Ze.enc) none:=rfl
theorem Zng:∀ {ks:List Ze},ks≠[]→plO ks=.tree 5 5 (ks.map Ze.enc) none
 | [],h=>absurd rfl h
 | _ :: _,_=>rfl
theorem ZkC (bX bY bW bH:Int):Zj Xs Ms J1 [(.d (.agg [J bX,J bY,J bW,J bH])),(.d (.agg [J bX,J bY,J bW,J bH]))] []=some ((.d (.bool true)),[]):=by
 refine cE ?_;simp +contextual -implicitDefEqProofs (maxSteps:=10^7) only[go_sem,seval,↓gZ,ZeR]
theorem Zi0 (bW bH:Int) (bT:Bool) (bK:Int):Zj Xs Ms UQ [(.d (.agg [J bW,J bH,.bool bT,J bK])),(.d (.agg [J bW,J bH,.bool bT,J bK]))] []=some ((.d (.bool true)),[]):=by
 refine cE ?_;simp +contextual -implicitDefEqProofs (maxSteps:=10^7) only[go_sem,seval,↓gZ,Zdc,bNe,bne_self_eq_false]
theorem Zi1 (bW bH:Int) (bT:Bool) (bK bC:Int):Zj Xs Ms UP [(.d (.agg [J bW,J bH,.bool bT,J bK,J bC])),(.d (.agg [J bW,J bH,.bool bT,J bK,J bC]))] []=some ((.d (.bool true)),[]):=by
 have e1:=Zi0 bW bH bT bK;refine cE ?_;simp +contextual -implicitDefEqProofs (maxSteps:=10^7) only[go_sem,seval,↓gZ,Zda,e1]
end Go.Proofs.YtnachaiejoflhaaDoor
