/- Contracts of the functions,by the abstract semantics. -/
import Derived.Test.YtemkonmgcoceaaaDoorACode
import Derived.Test.YtemkonmgcoceaaaDoorAbsParts
import Derived.Test.YtemkonmgcoceaaaDoorAbsOkD
namespace Go.Proofs.YtemkonmgcoceaaaDoor
open Go Go.Abs Go.Abs.E Go.Abs.L
open Nat (reduceMul reduceSub reduceLeDiff reduceEqDiff)
open Int (reduceLE reduceEq reduceToNat reduceNeg)
set_option linter.unusedSimpArgs false
set_option linter.unusedVariables false
set_option maxRecDepth 20000
set_option maxHeartbeats 4000000
theorem Xv (n lo hi:Int):Zv Xs Ms Xz [(.d (J n)),(.d (J lo)),(.d (J hi))] []=some ((.d (.bool ((decide (lo≤n∧n≤hi))))),[]):=by
 refine Zo Xs Ms WG Zke (by show 3≤_;decide) ?_
 simp +contextual -implicitDefEqProofs (maxSteps:=10^7) only[go_sem,seval,↓gZ,WG]
theorem Xg (pO pA pP:Int) (pT:Bool) (pK:List D):Zv Xs Ms Un [.d (.agg [J pO,J pA,J pP,.bool pT,.sl pK])] []=some ((.d (.bool (decide (pO=2∨pO=3)))),[]):=by
 refine Zo Xs Ms JM ZnD (by show 1≤_;decide) ?_
 simp +contextual -implicitDefEqProofs (maxSteps:=10^7) only[go_sem,seval,↓gZ,JM]
theorem Ur:∀ (n:Nat) (p:Ze),p.nodes≤n→Zv Xs Ms XA [.d p.enc] []=some ((.d (J (Zr 255 (QC p)))),[])
 | 0,.mk o a p t ks,hn=>by simp[Ze.nodes] at hn
 | n+1,.mk o a p t ks,hn=>by
  by_cases ho:o=2∨o=3
  ·by_cases hk:ks.length=2
   ·obtain⟨x,hx⟩:=Vo (l:=ks) (k:=0) (by omega)
    obtain⟨y,hy⟩:=Vo (l:=ks) (k:=1) (by omega)
    have ihx:=Ur n x (Wp hn hx)
    have ihy:=Ur n y (Wp hn hy)
    rw[ZiG ho hk hx hy]
    obtain⟨lx,hlx⟩:∃ l,l=QC x:=⟨_,rfl⟩
    obtain⟨ly,hly⟩:∃ l,l=QC y:=⟨_,rfl⟩
    rw[← hlx] at ihx ⊢
    rw[← hly] at ihy ⊢
    have rx:=Ui 255 (by omega) lx
    have ry:=Ui 255 (by omega) ly
    have hk2:(ks.length:Int)=2:=by omega
    by_cases hp:p=0
    ·cases t with
     | true=>
      have hb:=ZaG 255 o a p true lx ly (by simp)
      rw[hb]
      refine Zo Xs Ms Zz QH (by show 1≤_;decide) ?_
      simp +contextual -implicitDefEqProofs (maxSteps:=10^7) only[go_sem,seval,↓gZ,Zz,Xg,ho,hp]
     | false=>
      subst hp
      rw[Zmp]
      obtain⟨sx,hsx⟩:∃ s,s=Zr 255 lx:=⟨_,rfl⟩
      obtain⟨sy,hsy⟩:∃ s,s=Zr 255 ly:=⟨_,rfl⟩
      rw[← hsx] at ihx rx ⊢
      rw[← hsy] at ihy ry ⊢
      have w1:=wi (1+sx) (by omega) (by omega)
      have w2:=wi (1+sx+sy) (by omega) (by omega)
      refine Zo Xs Ms Zz QH (by show 1≤_;decide) ?_
      simp +contextual -implicitDefEqProofs (maxSteps:=10^7) only[go_sem,seval,↓gZ,Zz,Xg,ho,hk2]
      refine Q8 Xs Ms ?_
      simp +contextual -implicitDefEqProofs (maxSteps:=10^7) only[go_sem,seval,↓gZ,hk2,hx,hy,ihx,ihy,w1,w2]
      intro h
      refine Q8 Xs Ms ?_
      simp +contextual -implicitDefEqProofs (maxSteps:=10^7) only[go_sem,seval,↓gZ,hk2,hx,hy,ihx,ihy,w1,w2,h]
      intro h'
      refine Q8 Xs Ms ?_
      simp +contextual -implicitDefEqProofs (maxSteps:=10^7) only[go_sem,seval,↓gZ,hk2,hx,hy,ihx,ihy,w1,w2,h,h']
    ·have hb:=ZaG 255 o a p t lx ly (by simp[hp])
     rw[hb]
     refine Zo Xs Ms Zz QH (by show 1≤_;decide) ?_
     simp +contextual -implicitDefEqProofs (maxSteps:=10^7) only[go_sem,seval,↓gZ,Zz,Xg,ho,hp]
   ·rw[Zev _ _ _ _ _ ho hk]
    refine Zo Xs Ms Zz QH (by show 1≤_;decide) ?_
    have hk' : ¬(ks.length:Int)=2:=by omega
    simp +contextual -implicitDefEqProofs (maxSteps:=10^7) only[go_sem,seval,↓gZ,Zz,Xg,ho,hk',Zr]
  ·rw[Zg2 ho]
   by_cases h1:ks.length=0∧a=0∧o=1
   ·rw[if_pos h1]
    obtain⟨h1,rfl,rfl⟩:=h1
    refine Zo Xs Ms Zz QH (by show 1≤_;decide) ?_
    simp +contextual -implicitDefEqProofs (maxSteps:=10^7) only[go_sem,seval,↓gZ,Zz,Xg,ho,h1,Zr,BT.cnt]
    refine Q8 Xs Ms ?_
    simp +contextual -implicitDefEqProofs (maxSteps:=10^7) only[go_sem,seval,↓gZ,h1]
   ·rw[if_neg h1]
    by_cases h2:ks.length=0∧a=0∧o=0∧p=0∧t=false
    ·rw[if_pos h2]
     obtain⟨h2,rfl,rfl,rfl,rfl⟩:=h2
     refine Zo Xs Ms Zz QH (by show 1≤_;decide) ?_
     simp +contextual -implicitDefEqProofs (maxSteps:=10^7) only[go_sem,seval,↓gZ,Zz,Xg,ho,h2,Zr,BT.cnt]
     refine Q8 Xs Ms ?_
     simp +contextual -implicitDefEqProofs (maxSteps:=10^7) only[go_sem,seval,↓gZ,h2]
    ·rw[if_neg h2]
     by_cases c1:ks.length=0
     ·by_cases c2:a=0
      ·by_cases c3:o=1
       ·exact absurd ⟨c1,c2,c3⟩ h1
       ·by_cases c4:o=0
        ·by_cases c5:p=0
         ·cases t with
          | false=>exact absurd ⟨c1,c2,c4,c5,rfl⟩ h2
          | true=>
           refine Zo Xs Ms Zz QH (by show 1≤_;decide) ?_
           simp +contextual -implicitDefEqProofs (maxSteps:=10^7) only[go_sem,seval,↓gZ,Zz,Xg,ho,c1,c2,c3,c4,c5,Zr]
         ·refine Zo Xs Ms Zz QH (by show 1≤_;decide) ?_
          simp +contextual -implicitDefEqProofs (maxSteps:=10^7) only[go_sem,seval,↓gZ,Zz,Xg,ho,c1,c2,c3,c4,c5,Zr]
        ·refine Zo Xs Ms Zz QH (by show 1≤_;decide) ?_
         simp +contextual -implicitDefEqProofs (maxSteps:=10^7) only[go_sem,seval,↓gZ,Zz,Xg,ho,c1,c2,c3,c4,Zr]
      ·refine Zo Xs Ms Zz QH (by show 1≤_;decide) ?_
       simp +contextual -implicitDefEqProofs (maxSteps:=10^7) only[go_sem,seval,↓gZ,Zz,Xg,ho,c1,c2,Zr]
     ·have c1' : ¬(ks.length:Int)=0:=by omega
      refine Zo Xs Ms Zz QH (by show 1≤_;decide) ?_
      simp +contextual -implicitDefEqProofs (maxSteps:=10^7) only[go_sem,seval,↓gZ,Zz,Xg,ho,c1',Zr]
theorem ZhA (p:Ze):Zv Xs Ms XA [.d p.enc] []=some ((.d (J (Zr 255 (QC p)))),[]):=Ur _ p (Nat.le_refl _)
theorem V9:∀ (n:Nat) (p:Ze),p.nodes≤n→∀ m:Int,-10≤m→m≤255→Zv Xs Ms QY [.d p.enc,(.d (J m))] []=some ((.d (J (Zr m (QC p)))),[])
 | 0,.mk o a p t ks,hn,m,_,_=>by simp[Ze.nodes] at hn
 | n+1,.mk o a p t ks,hn,m,hm1,hm2=>by
  by_cases hm:m<1
  ·rw[Zmq hm]
   refine Zo Xs Ms Zh Z5 (by show 2≤_;decide) ?_
   simp +contextual -implicitDefEqProofs (maxSteps:=10^7) only[go_sem,seval,↓gZ,Zh,hm]
  by_cases ho:o=2∨o=3
  ·have ho0:¬o=0:=by omega
   have ho1:¬o=1:=by omega
   by_cases hk:ks.length=2
   ·obtain⟨x,hx⟩:=Vo (l:=ks) (k:=0) (by omega)
    obtain⟨y,hy⟩:=Vo (l:=ks) (k:=1) (by omega)
    rw[ZiG ho hk hx hy]
    have hk2:(ks.length:Int)=2:=by omega
    by_cases hp:p=0
    ·cases t with
     | true=>
      have hb:=ZaG m o a p true (QC x) (QC y) (by simp)
      rw[hb]
      refine Zo Xs Ms Zh Z5 (by show 2≤_;decide) ?_
      rcases ho with ho | ho<;>simp +contextual -implicitDefEqProofs (maxSteps:=10^7) only[go_sem,seval,↓gZ,Zh,ho,hp,hm,hk2]
     | false=>
      subst hp
      rw[Zk7]
      have ihx:=V9 n x (Wp hn hx) (m-1) (by omega) (by omega)
      have rx:=Ui (m-1) (by omega) (QC x)
      have ihy:=V9 n y (Wp hn hy) (m-1-Zr (m-1) (QC x)) (by omega) (by omega)
      have ry:=Ui (m-1-Zr (m-1) (QC x)) (by omega) (QC y)
      obtain⟨sy,hsy⟩:∃ s,s=Zr (m-1-Zr (m-1) (QC x)) (QC y):=⟨_,rfl⟩
      rw[← hsy] at ihy ry ⊢
      obtain⟨sx,hsx⟩:∃ s,s=Zr (m-1) (QC x):=⟨_,rfl⟩
      rw[← hsx] at ihx ihy rx ry ⊢
      clear hsx hsy
      have w0:=wi (m-1) (by omega) (by omega)
      have w1:=wi (m-1-sx) (by omega) (by omega)
      have w2:=wi (1+sx) (by omega) (by omega)
      have w3:=wi (1+sx+sy) (by omega) (by omega)
      refine Zo Xs Ms Zh Z5 (by show 2≤_;decide) ?_
      rcases ho with ho | ho<;>simp +contextual -implicitDefEqProofs (maxSteps:=10^7) only[go_sem,seval,↓gZ,Zh,ho,hm,hk2,hx,hy,ihx,ihy,w0,w1,w2,w3]
    ·have hb:=ZaG m o a p t (QC x) (QC y) (by simp[hp])
     rw[hb]
     refine Zo Xs Ms Zh Z5 (by show 2≤_;decide) ?_
     rcases ho with ho | ho<;>simp +contextual -implicitDefEqProofs (maxSteps:=10^7) only[go_sem,seval,↓gZ,Zh,ho,hp,hm,hk2]
   ·rw[Zev _ _ _ _ _ ho hk]
    have hk' : ¬(ks.length:Int)=2:=by omega
    refine Zo Xs Ms Zh Z5 (by show 2≤_;decide) ?_
    rcases ho with ho | ho<;>simp +contextual -implicitDefEqProofs (maxSteps:=10^7) only[go_sem,seval,↓gZ,Zh,ho,hk',hm,Zr]
  ·rw[Zg2 ho]
   have h2' : ¬o=2:=by omega
   have h3' : ¬o=3:=by omega
   have hm' : (1:Int)≤m:=by omega
   by_cases h1:ks.length=0∧a=0∧o=1
   ·rw[if_pos h1]
    obtain⟨h1,rfl,rfl⟩:=h1
    refine Zo Xs Ms Zh Z5 (by show 2≤_;decide) ?_
    simp +contextual -implicitDefEqProofs (maxSteps:=10^7) only[go_sem,seval,↓gZ,Zh,h1,hm,Zr,BT.cnt,hm']
   ·rw[if_neg h1]
    by_cases h2:ks.length=0∧a=0∧o=0∧p=0∧t=false
    ·rw[if_pos h2]
     obtain⟨h2,rfl,rfl,rfl,rfl⟩:=h2
     refine Zo Xs Ms Zh Z5 (by show 2≤_;decide) ?_
     simp +contextual -implicitDefEqProofs (maxSteps:=10^7) only[go_sem,seval,↓gZ,Zh,h2,hm,Zr,BT.cnt,hm']
    ·rw[if_neg h2]
     by_cases c1:ks.length=0
     ·by_cases c2:a=0
      ·by_cases c3:o=1
       ·exact absurd ⟨c1,c2,c3⟩ h1
       ·by_cases c4:o=0
        ·by_cases c5:p=0
         ·cases t with
          | false=>exact absurd ⟨c1,c2,c4,c5,rfl⟩ h2
          | true=>
           refine Zo Xs Ms Zh Z5 (by show 2≤_;decide) ?_
           simp +contextual -implicitDefEqProofs (maxSteps:=10^7) only[go_sem,seval,↓gZ,Zh,hm,c1,c2,c3,c4,c5,Zr]
         ·refine Zo Xs Ms Zh Z5 (by show 2≤_;decide) ?_
          simp +contextual -implicitDefEqProofs (maxSteps:=10^7) only[go_sem,seval,↓gZ,Zh,hm,c1,c2,c3,c4,c5,Zr]
        ·refine Zo Xs Ms Zh Z5 (by show 2≤_;decide) ?_
         simp +contextual -implicitDefEqProofs (maxSteps:=10^7) only[go_sem,seval,↓gZ,Zh,hm,c1,c2,c3,c4,h2',h3',Zr]
      ·refine Zo Xs Ms Zh Z5 (by show 2≤_;decide) ?_
       by_cases c3:o=1
       ·simp +contextual -implicitDefEqProofs (maxSteps:=10^7) only[go_sem,seval,↓gZ,Zh,hm,c1,c2,c3,Zr]
       ·by_cases c4:o=0
        ·simp +contextual -implicitDefEqProofs (maxSteps:=10^7) only[go_sem,seval,↓gZ,Zh,hm,c1,c2,c3,c4,Zr]
        ·simp +contextual -implicitDefEqProofs (maxSteps:=10^7) only[go_sem,seval,↓gZ,Zh,hm,c1,c2,c3,c4,h2',h3',Zr]
     ·have c1' : ¬(ks.length:Int)=0:=by omega
      refine Zo Xs Ms Zh Z5 (by show 2≤_;decide) ?_
      by_cases c3:o=1
      ·simp +contextual -implicitDefEqProofs (maxSteps:=10^7) only[go_sem,seval,↓gZ,Zh,hm,c1',c3,Zr]
      ·by_cases c4:o=0
       ·simp +contextual -implicitDefEqProofs (maxSteps:=10^7) only[go_sem,seval,↓gZ,Zh,hm,c1',c3,c4,Zr]
       ·simp +contextual -implicitDefEqProofs (maxSteps:=10^7) only[go_sem,seval,↓gZ,Zh,hm,c1',c3,c4,h2',h3',Zr]
theorem ZhB (p:Ze):Zv Xs Ms YP [.d p.enc] []=some ((.d (J (Zr 255 (QC p)))),[]):=by
 have h:=V9 _ p (Nat.le_refl _) 255 (by omega) (by omega)
 obtain⟨o,a,q,t,ks⟩:=p
 rw[Ze.enc_mk] at h ⊢
 refine Zo Xs Ms VM Zje (by show 1≤_;decide) ?_
 simp +contextual -implicitDefEqProofs (maxSteps:=10^7) only[go_sem,seval,↓gZ,VM,h]
end Go.Proofs.YtemkonmgcoceaaaDoor
