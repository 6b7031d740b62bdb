/- Own text. -/
import Derived.Test.YtgpiffflfkoocaaDoorACode
import Derived.Test.YtgpiffflfkoocaaDoorAbsParts
import Derived.Test.YtgpiffflfkoocaaDoorAbsOkD
namespace Go.Proofs.YtgpiffflfkoocaaDoor
open Go Go.Abs Go.Abs.E Go.Abs.L
open Nat (reduceMul reduceSub reduceLeDiff reduceEqDiff)
open Int (reduceLE reduceEq reduceToNat reduceNeg)
set_option linter.unusedSimpArgs false
set_option linter.unusedVariables false
set_option maxRecDepth 20000
set_option maxHeartbeats 4000000
theorem XL (n lo hi:Int):Zj Xs Ms Ye [(.d (J n)),(.d (J lo)),(.d (J hi))] []=some ((.d (.bool ((decide (lo≤n∧n≤hi))))),[]):=by
 refine cE ?_;simp +contextual -implicitDefEqProofs (maxSteps:=10^7) only[go_sem,seval,↓gZ,ZbC]
theorem Xr (pO pA pP:Int) (pT:Bool) (pK:List D):Zj Xs Ms Zae [.d (.agg [J pO,J pA,J pP,.bool pT,.sl pK])] []=some ((.d (.bool (decide (pO=2∨pO=3)))),[]):=by
 refine cE ?_;simp +contextual -implicitDefEqProofs (maxSteps:=10^7) only[go_sem,seval,↓gZ,Ze8]
theorem UO:∀ (n:Nat) (p:Ze),p.nodes≤n→Zj Xs Ms XN [.d p.enc] []=some ((.d (J (Zn 255 (QV p)))),[])
 | 0,.mk o a p t ks,hn=>by simp[Ze.nodes] at hn
 | n+1,.mk o a p t ks,hn=>by
  by_cases ho:o=2∨o=3
  ·by_cases hk:ks.length=2
   ·obtain⟨x,hx⟩:=VR (l:=ks) (k:=0) (by omega);obtain⟨y,hy⟩:=VR (l:=ks) (k:=1) (by omega);have aa:=UO n x (Zar hn hx);have ab:=UO n y (Zar hn hy);rw[Zkp ho hk hx hy];obtain⟨lx,ae⟩:∃ l,l=QV x:=⟨_,rfl⟩
    obtain⟨ly,af⟩:∃ l,l=QV y:=⟨_,rfl⟩
    rw[← ae] at aa ⊢;rw[← af] at ab ⊢;have rx:=UE 255 (by omega) lx;have ry:=UE 255 (by omega) ly;have ad:(ks.length:Int)=2:=by omega
    by_cases hp:p=0
    ·cases t with
     | true=>
      have hb:=Za1 255 o a p true lx ly (by simp);rw[hb];refine cE ?_;simp +contextual -implicitDefEqProofs (maxSteps:=10^7) only[go_sem,seval,↓gZ,Qk,Xr,ho,hp]
     | false=>
      subst hp;rw[Zoh];obtain⟨sx,ag⟩:∃ s,s=Zn 255 lx:=⟨_,rfl⟩
      obtain⟨sy,ah⟩:∃ s,s=Zn 255 ly:=⟨_,rfl⟩
      rw[← ag] at aa rx ⊢;rw[← ah] at ab ry ⊢;have w1:=wi (1+sx) (by omega) (by omega);have w2:=wi (1+sx+sy) (by omega) (by omega);refine cE ?_;simp +contextual -implicitDefEqProofs (maxSteps:=10^7) only[go_sem,seval,↓gZ,Qk,Xr,ho,ad];refine Xg Xs Ms ?_;simp +contextual -implicitDefEqProofs (maxSteps:=10^7) only[go_sem,seval,↓gZ,ad,hx,hy,aa,ab,w1,w2];intro h;refine Xg Xs Ms ?_;simp +contextual -implicitDefEqProofs (maxSteps:=10^7) only[go_sem,seval,↓gZ,ad,hx,hy,aa,ab,w1,w2,h];intro h';refine Xg Xs Ms ?_;simp +contextual -implicitDefEqProofs (maxSteps:=10^7) only[go_sem,seval,↓gZ,ad,hx,hy,aa,ab,w1,w2,h,h']
    ·have hb:=Za1 255 o a p t lx ly (by simp[hp]);rw[hb];refine cE ?_;simp +contextual -implicitDefEqProofs (maxSteps:=10^7) only[go_sem,seval,↓gZ,Qk,Xr,ho,hp]
   ·rw[Zfz _ _ _ _ _ ho hk];refine cE ?_;have ai : ¬(ks.length:Int)=2:=by omega
    simp +contextual -implicitDefEqProofs (maxSteps:=10^7) only[go_sem,seval,↓gZ,Qk,Xr,ho,ai,Zn]
  ·rw[ZiB ho];by_cases h1:ks.length=0∧a=0∧o=1
   ·rw[Ko h1];obtain⟨h1,rfl,rfl⟩:=h1;refine cE ?_;simp +contextual -implicitDefEqProofs (maxSteps:=10^7) only[go_sem,seval,↓gZ,Qk,Xr,ho,h1,Zn,BT.cnt];refine Xg Xs Ms ?_;simp +contextual -implicitDefEqProofs (maxSteps:=10^7) only[go_sem,seval,↓gZ,h1]
   ·rw[Kf h1];by_cases h2:ks.length=0∧a=0∧o=0∧p=0∧t=false
    ·rw[Ko h2];obtain⟨h2,rfl,rfl,rfl,rfl⟩:=h2;refine cE ?_;simp +contextual -implicitDefEqProofs (maxSteps:=10^7) only[go_sem,seval,↓gZ,Qk,Xr,ho,h2,Zn,BT.cnt];refine Xg Xs Ms ?_;simp +contextual -implicitDefEqProofs (maxSteps:=10^7) only[go_sem,seval,↓gZ,h2]
    ·rw[Kf h2];by_cases c1:ks.length=0
     ·by_cases c2:a=0
      ·by_cases c3:o=1
       ·exact absurd ⟨c1,c2,c3⟩ h1
       ·by_cases c4:o=0
        ·by_cases c5:p=0
         ·cases t with
          | false=>exact absurd ⟨c1,c2,c4,c5,rfl⟩ h2
          | true=>
           refine cE ?_;simp +contextual -implicitDefEqProofs (maxSteps:=10^7) only[go_sem,seval,↓gZ,Qk,Xr,ho,c1,c2,c3,c4,c5,Zn]
         ·refine cE ?_;simp +contextual -implicitDefEqProofs (maxSteps:=10^7) only[go_sem,seval,↓gZ,Qk,Xr,ho,c1,c2,c3,c4,c5,Zn]
        ·refine cE ?_;simp +contextual -implicitDefEqProofs (maxSteps:=10^7) only[go_sem,seval,↓gZ,Qk,Xr,ho,c1,c2,c3,c4,Zn]
      ·refine cE ?_;simp +contextual -implicitDefEqProofs (maxSteps:=10^7) only[go_sem,seval,↓gZ,Qk,Xr,ho,c1,c2,Zn]
     ·have aj : ¬(ks.length:Int)=0:=by omega
      refine cE ?_;simp +contextual -implicitDefEqProofs (maxSteps:=10^7) only[go_sem,seval,↓gZ,Qk,Xr,ho,aj,Zn]
theorem ZcT (p:Ze):Zj Xs Ms XN [.d p.enc] []=some ((.d (J (Zn 255 (QV p)))),[]):=UO _ p (Kg _)
theorem WB:∀ (n:Nat) (p:Ze),p.nodes≤n→∀ m:Int,-10≤m→m≤255→Zj Xs Ms Xy [.d p.enc,(.d (J m))] []=some ((.d (J (Zn m (QV p)))),[])
 | 0,.mk o a p t ks,hn,m,_,_=>by simp[Ze.nodes] at hn
 | n+1,.mk o a p t ks,hn,m,hm1,hm2=>by
  by_cases hm:m<1
  ·rw[Zoi hm];refine cE ?_;simp +contextual -implicitDefEqProofs (maxSteps:=10^7) only[go_sem,seval,↓gZ,Zx,hm]
  by_cases ho:o=2∨o=3
  ·have al:¬o=0:=by omega
   have am:¬o=1:=by omega
   by_cases hk:ks.length=2
   ·obtain⟨x,hx⟩:=VR (l:=ks) (k:=0) (by omega);obtain⟨y,hy⟩:=VR (l:=ks) (k:=1) (by omega);rw[Zkp ho hk hx hy];have aa:(ks.length:Int)=2:=by omega
    by_cases hp:p=0
    ·cases t with
     | true=>
      have hb:=Za1 m o a p true (QV x) (QV y) (by simp);rw[hb];refine cE ?_;rcases ho with ho | ho<;>simp +contextual -implicitDefEqProofs (maxSteps:=10^7) only[go_sem,seval,↓gZ,Zx,ho,hp,hm,aa]
     | false=>
      subst hp;rw[Znc];have ag:=WB n x (Zar hn hx) (m-1) (by omega) (by omega);have rx:=UE (m-1) (by omega) (QV x);have ab:=WB n y (Zar hn hy) (m-1-Zn (m-1) (QV x)) (by omega) (by omega);have ry:=UE (m-1-Zn (m-1) (QV x)) (by omega) (QV y);obtain⟨sy,ah⟩:∃ s,s=Zn (m-1-Zn (m-1) (QV x)) (QV y):=⟨_,rfl⟩
      rw[← ah] at ab ry ⊢;obtain⟨sx,ai⟩:∃ s,s=Zn (m-1) (QV x):=⟨_,rfl⟩
      rw[← ai] at ag ab rx ry ⊢;clear ai ah;have w0:=wi (m-1) (by omega) (by omega);have w1:=wi (m-1-sx) (by omega) (by omega);have w2:=wi (1+sx) (by omega) (by omega);have w3:=wi (1+sx+sy) (by omega) (by omega);refine cE ?_;rcases ho with ho | ho<;>simp +contextual -implicitDefEqProofs (maxSteps:=10^7) only[go_sem,seval,↓gZ,Zx,ho,hm,aa,hx,hy,ag,ab,w0,w1,w2,w3]
    ·have hb:=Za1 m o a p t (QV x) (QV y) (by simp[hp]);rw[hb];refine cE ?_;rcases ho with ho | ho<;>simp +contextual -implicitDefEqProofs (maxSteps:=10^7) only[go_sem,seval,↓gZ,Zx,ho,hp,hm,aa]
   ·rw[Zfz _ _ _ _ _ ho hk];have ak : ¬(ks.length:Int)=2:=by omega
    refine cE ?_;rcases ho with ho | ho<;>simp +contextual -implicitDefEqProofs (maxSteps:=10^7) only[go_sem,seval,↓gZ,Zx,ho,ak,hm,Zn]
  ·rw[ZiB ho];have ad : ¬o=2:=by omega
   have ae : ¬o=3:=by omega
   have aj : (1:Int)≤m:=by omega
   by_cases h1:ks.length=0∧a=0∧o=1
   ·rw[Ko h1];obtain⟨h1,rfl,rfl⟩:=h1;refine cE ?_;simp +contextual -implicitDefEqProofs (maxSteps:=10^7) only[go_sem,seval,↓gZ,Zx,h1,hm,Zn,BT.cnt,aj]
   ·rw[Kf h1];by_cases h2:ks.length=0∧a=0∧o=0∧p=0∧t=false
    ·rw[Ko h2];obtain⟨h2,rfl,rfl,rfl,rfl⟩:=h2;refine cE ?_;simp +contextual -implicitDefEqProofs (maxSteps:=10^7) only[go_sem,seval,↓gZ,Zx,h2,hm,Zn,BT.cnt,aj]
    ·rw[Kf h2];by_cases c1:ks.length=0
     ·by_cases c2:a=0
      ·by_cases c3:o=1
       ·exact absurd ⟨c1,c2,c3⟩ h1
       ·by_cases c4:o=0
        ·by_cases c5:p=0
         ·cases t with
          | false=>exact absurd ⟨c1,c2,c4,c5,rfl⟩ h2
          | true=>
           refine cE ?_;simp +contextual -implicitDefEqProofs (maxSteps:=10^7) only[go_sem,seval,↓gZ,Zx,hm,c1,c2,c3,c4,c5,Zn]
         ·refine cE ?_;simp +contextual -implicitDefEqProofs (maxSteps:=10^7) only[go_sem,seval,↓gZ,Zx,hm,c1,c2,c3,c4,c5,Zn]
        ·refine cE ?_;simp +contextual -implicitDefEqProofs (maxSteps:=10^7) only[go_sem,seval,↓gZ,Zx,hm,c1,c2,c3,c4,ad,ae,Zn]
      ·refine cE ?_;by_cases c3:o=1
       ·simp +contextual -implicitDefEqProofs (maxSteps:=10^7) only[go_sem,seval,↓gZ,Zx,hm,c1,c2,c3,Zn]
       ·by_cases c4:o=0
        ·simp +contextual -implicitDefEqProofs (maxSteps:=10^7) only[go_sem,seval,↓gZ,Zx,hm,c1,c2,c3,c4,Zn]
        ·simp +contextual -implicitDefEqProofs (maxSteps:=10^7) only[go_sem,seval,↓gZ,Zx,hm,c1,c2,c3,c4,ad,ae,Zn]
     ·have af : ¬(ks.length:Int)=0:=by omega
      refine cE ?_;by_cases c3:o=1
      ·simp +contextual -implicitDefEqProofs (maxSteps:=10^7) only[go_sem,seval,↓gZ,Zx,hm,af,c3,Zn]
      ·by_cases c4:o=0
       ·simp +contextual -implicitDefEqProofs (maxSteps:=10^7) only[go_sem,seval,↓gZ,Zx,hm,af,c3,c4,Zn]
       ·simp +contextual -implicitDefEqProofs (maxSteps:=10^7) only[go_sem,seval,↓gZ,Zx,hm,af,c3,c4,ad,ae,Zn]
theorem Zjg (p:Ze):Zj Xs Ms Wc [.d p.enc] []=some ((.d (J (Zn 255 (QV p)))),[]):=by
 have h:=WB _ p (Kg _) 255 (by omega) (by omega);obtain⟨o,a,q,t,ks⟩:=p;rw[Ze.enc_mk] at h ⊢;refine cE ?_;simp +contextual -implicitDefEqProofs (maxSteps:=10^7) only[go_sem,seval,↓gZ,ZaH,h]
structure Zw where
 kind:Int
 label:Int
 box:Box
 line:QG
 plan:Ze
def Zw.enc (e:Zw):D:=.agg ([J e.kind,J e.label,J e.box.X,J e.box.Y,J e.box.W,J e.box.H,J e.line.Pane.W,J e.line.Pane.H,.bool e.line.Pane.Turns,J e.line.Pane.Kind,J e.line.Count]++e.plan.enc.cells)
@[go_sem] theorem Zw.enc_mk (k l x y w h pw ph pk c o a p:Int) (pt t:Bool) (ks:List Ze):Zw.enc (Zw.mk k l (Box.mk x y w h) (QG.mk (Pane.mk pw ph pt pk) c) (Ze.mk o a p t ks)) =
  .agg [J k,J l,J x,J y,J w,J h,J pw,J ph,.bool pt,J pk,J c,J o,J a,J p,.bool t,.sl (ks.map Ze.enc)]:=by
 simp only[Zw.enc,Ze.enc_mk];rfl
theorem Zw.enc_len (e:Zw):(Zw.enc e).cells.length=16:=by
 show (_++e.plan.enc.cells).length=16;rw[Ks,Ze.enc_len];rfl
@[go_sem] theorem uni_Event (l:List Zw):uni 16 (l.map Zw.enc)=True:=eq_true (UB l Zw.enc_len)
theorem bNe (a b:Bool):Ziu .neq true (AV.d (.bool a)) (.d (.bool b))=YA (some (AV.d (.bool (a != b)))):=by cases a<;>cases b<;>rfl
def Z1 {α:Type} (f:α→Nat):List α→Nat
 | []=>0
 | x :: r=>f x+Z1 f r
def plO:List Ze→Zf
 | []=>.row 5 [] true false
 | k :: r=>.tree 5 5 ((k :: r).map Ze.enc) none
@[go_sem] theorem plO_nil:plO []=.row 5 [] true false:=rfl
@[go_sem] theorem plO_cons (k:Ze) (r:List Ze):plO (k :: r)=.tree 5 5 ((k :: r).map Ze.enc) none:=rfl
theorem ZnB:∀ {ks:List Ze},ks≠[]→plO ks=.tree 5 5 (ks.map Ze.enc) none
 | [],h=>absurd rfl h
 | _ :: _,_=>rfl
theorem ZkT (bX bY bW bH:Int):Zj Xs Ms Zad [(.d (.agg [J bX,J bY,J bW,J bH])),(.d (.agg [J bX,J bY,J bW,J bH]))] []=some ((.d (.bool true)),[]):=by
 refine cE ?_;simp +contextual -implicitDefEqProofs (maxSteps:=10^7) only[go_sem,seval,↓gZ,Ze7]
theorem Zjh (bW bH:Int) (bT:Bool) (bK:Int):Zj Xs Ms UX [(.d (.agg [J bW,J bH,.bool bT,J bK])),(.d (.agg [J bW,J bH,.bool bT,J bK]))] []=some ((.d (.bool true)),[]):=by
 refine cE ?_;simp +contextual -implicitDefEqProofs (maxSteps:=10^7) only[go_sem,seval,↓gZ,Zdl,bNe,bne_self_eq_false]
theorem Zji (bW bH:Int) (bT:Bool) (bK bC:Int):Zj Xs Ms UW [(.d (.agg [J bW,J bH,.bool bT,J bK,J bC])),(.d (.agg [J bW,J bH,.bool bT,J bK,J bC]))] []=some ((.d (.bool true)),[]):=by
 have e1:=Zjh bW bH bT bK;refine cE ?_;simp +contextual -implicitDefEqProofs (maxSteps:=10^7) only[go_sem,seval,↓gZ,Zdj,e1]
end Go.Proofs.YtgpiffflfkoocaaDoor
