/- Contracts of the functions,by the abstract semantics. -/
import Derived.Test.YtemkonmgcoceaaaDoorACode
import Derived.Test.YtemkonmgcoceaaaDoorAbsParts
import Derived.Test.YtemkonmgcoceaaaDoorAC1
import Derived.Test.YtemkonmgcoceaaaDoorAbsOkD
namespace Go.Proofs.YtemkonmgcoceaaaDoor
open Go Go.Abs Go.Abs.E Go.Abs.L
open Nat (reduceMul reduceSub reduceLeDiff reduceEqDiff)
open Int (reduceLE reduceEq reduceToNat reduceNeg)
set_option linter.unusedSimpArgs false
set_option linter.unusedVariables false
set_option maxRecDepth 20000
set_option maxHeartbeats 4000000
structure Zt where
 kind:Int
 label:Int
 box:Box
 line:QF
 plan:Ze
def Zt.enc (e:Zt):D:=.agg ([J e.kind,J e.label,J e.box.X,J e.box.Y,J e.box.W,J e.box.H,J e.line.Pane.W,J e.line.Pane.H,.bool e.line.Pane.Turns,J e.line.Pane.Kind,J e.line.Count]++e.plan.enc.cells)
@[go_sem] theorem Zt.enc_mk (k l x y w h pw ph pk c o a p:Int) (pt t:Bool) (ks:List Ze):Zt.enc (Zt.mk k l (Box.mk x y w h) (QF.mk (Pane.mk pw ph pt pk) c) (Ze.mk o a p t ks)) =
  .agg [J k,J l,J x,J y,J w,J h,J pw,J ph,.bool pt,J pk,J c,J o,J a,J p,.bool t,.sl (ks.map Ze.enc)]:=by
 simp only[Zt.enc,Ze.enc_mk];rfl
theorem Zt.enc_len (e:Zt):(Zt.enc e).cells.length=16:=by
 show (_++e.plan.enc.cells).length=16
 rw[List.length_append,Ze.enc_len];rfl
@[go_sem] theorem uni_Event (l:List Zt):uni 16 (l.map Zt.enc)=True:=eq_true (Uf l Zt.enc_len)
def num (n:Nat):List UInt8:=if n<10 then [UInt8.ofNat (48+n)] else num (n / 10)++[UInt8.ofNat (48+n % 10)]
termination_by n
decreasing_by omega
theorem JF {n:Nat} (h:n<10):num n=[UInt8.ofNat (48+n)]:=by rw[num,if_pos h]
theorem Zi0 {n:Nat} (h:¬n<10):num n=num (n / 10)++[UInt8.ofNat (48+n % 10)]:=by rw[num,if_neg h]
theorem num_ne:∀ n:Nat,num n≠[]:=fun n=>by
 by_cases h:n<10
 ·rw[JF h];simp
 ·rw[Zi0 h];simp
theorem Xw:∀ (k n:Nat),n<10 ^ (k+1)→(num n).length≤k+1
 | 0,n,h=>by rw[JF (by simpa using h)];simp
 | k+1,n,h=>by
  by_cases h1:n<10
  ·rw[JF h1];simp
  ·rw[Zi0 h1]
   have:=Xw k (n / 10) (Nat.div_lt_of_lt_mul (by rw[Nat.pow_succ,Nat.mul_comm] at h;exact h))
   simp;omega
def Yo (c:UInt8):List (List UInt8)→List UInt8
 | []=>[]
 | [x]=>x
 | x :: y :: r=>x++c :: Yo c (y :: r)
def shw:BT→List UInt8
 | .waste=>[119]
 | .pane i t=>(if t then 116 else 112) :: num i.toNat
 | .cut d a l r=>(if d then 100 else 97) :: (num a.toNat++40 :: (shw l++44 :: (shw r++[41])))
def VD:BT→Bool
 | .waste=>true
 | .pane i _=>decide (0≤i∧i≤24)
 | .cut _ a l r=>decide (0≤a∧a≤200)&&VD l&&VD r
theorem Zj0 (b:BT):∃ o a q t ks,b.plan=.mk o a q t ks:=by cases b.plan;exact⟨_,_,_,_,_,rfl⟩
theorem tdiv10 (n:Nat):((n:Int)).tdiv 10=((n / 10:Nat):Int):=by rw[Int.tdiv_eq_ediv_of_nonneg (by omega)];omega
theorem tmod10 (n:Nat):((n:Int)).tmod 10=((n % 10:Nat):Int):=by rw[Int.tmod_eq_emod_of_nonneg (by omega)];omega
theorem Yx (n:Nat):n≤999999999→Zv Xs Ms ZH [(.d (J n))] []=some (.d (.str (num n)),[]):=by
 induction n using Nat.strongRecOn with
 | ind n ih=>
  intro hn
  by_cases h:n<10
  ·rw[JF h]
   have h' : (n:Int)<10:=by omega
   have hw:(n:Int)+1=((n+1:Nat):Int):=by omega
   have a3:=wi 3 (by decide) (by decide)
   have a4:=wi 4 (by decide) (by decide)
   have a5:=wi 5 (by decide) (by decide)
   have a6:=wi 6 (by decide) (by decide)
   have a7:=wi 7 (by decide) (by decide)
   have a8:=wi 8 (by decide) (by decide)
   have a9:=wi 9 (by decide) (by decide)
   have a10:=wi 10 (by decide) (by decide)
   refine Zo Xs Ms Vk Zf0 (by show 1≤_;decide) ?_
   rcases (show n=0∨n=1∨n=2∨n=3∨n=4∨n=5∨n=6∨n=7∨n=8∨n=9 by omega) with rfl | rfl | rfl | rfl | rfl | rfl | rfl | rfl | rfl | rfl<;>simp +contextual -implicitDefEqProofs (maxSteps:=10^7) only[go_sem,seval,↓gZ,Vk,a3,a4,a5,a6,a7,a8,a9,a10]<;>rfl
  ·have hb:num n=num (n / 10)++num (n % 10):=by rw[Zi0 h,JF (by omega:n % 10<10)]
   rw[hb]
   have h' : ¬(n:Int)<10:=by omega
   have e1:=ih (n / 10) (by omega) (by omega)
   have e2:=ih (n % 10) (by omega) (by omega)
   have l1:=Xw 8 (n / 10) (by omega)
   have l2:=Xw 8 (n % 10) (by omega)
   have hs:(num (n / 10)).length+(num (n % 10)).length≤1152921504606846976:=by omega
   have w1:=wi (n / 10:Nat) (by omega) (by omega)
   refine Zo Xs Ms Vk Zf0 (by show 1≤_;decide) ?_
   simp +contextual -implicitDefEqProofs (maxSteps:=10^7) only[go_sem,seval,↓gZ,Vk,h',tdiv10,tmod10,w1,e1,e2,hs]
theorem VF:∀ b:BT,Zv Xs Ms XH [.d b.plan.enc] []=some ((.d (.bool (VD b))),[])
 | .waste=>by
  simp only[BT.plan,VD]
  refine Zo Xs Ms QU Jn (by show 1≤_;decide) ?_
  simp +contextual -implicitDefEqProofs (maxSteps:=10^7) only[go_sem,seval,↓gZ,QU,Xv]
  refine Q8 Xs Ms ?_
  simp +contextual -implicitDefEqProofs (maxSteps:=10^7) only[go_sem,seval,↓gZ,Xv]
 | .pane i t=>by
  simp only[BT.plan,VD]
  refine Zo Xs Ms QU Jn (by show 1≤_;decide) ?_
  simp +contextual -implicitDefEqProofs (maxSteps:=10^7) only[go_sem,seval,↓gZ,QU,Xv]
  refine Q8 Xs Ms ?_
  simp +contextual -implicitDefEqProofs (maxSteps:=10^7) only[go_sem,seval,↓gZ,Xv]
 | .cut d a l r=>by
  have e1:=VF l
  have e2:=VF r
  simp only[BT.plan,VD]
  refine Zo Xs Ms QU Jn (by show 1≤_;decide) ?_
  simp +contextual -implicitDefEqProofs (maxSteps:=10^7) only[go_sem,seval,↓gZ,QU,Xv]
  refine Q8 Xs Ms ?_
  cases hl:VD l with
  | false=>
   rw[hl] at e1
   simp +contextual -implicitDefEqProofs (maxSteps:=10^7) only[go_sem,seval,↓gZ,e1]
  | true=>
   rw[hl] at e1
   simp +contextual -implicitDefEqProofs (maxSteps:=10^7) only[go_sem,seval,↓gZ,e1]
   refine Q8 Xs Ms ?_
   cases hr:VD r with
   | false=>
    rw[hr] at e2
    simp +contextual -implicitDefEqProofs (maxSteps:=10^7) only[go_sem,seval,↓gZ,e2]
   | true=>
    rw[hr] at e2
    simp +contextual -implicitDefEqProofs (maxSteps:=10^7) only[go_sem,seval,↓gZ,e2]
    refine Q8 Xs Ms ?_
    simp +contextual -implicitDefEqProofs (maxSteps:=10^7) only[go_sem,seval,↓gZ,Xv]
theorem WP:∀ b:BT,Zv Xs Ms Xh [.d b.plan.enc] []=some ((.d (.bool (VD b))),[])
 | .waste=>by
  simp only[BT.plan,VD]
  refine Zo Xs Ms ZU Uw (by show 1≤_;decide) ?_
  simp +contextual -implicitDefEqProofs (maxSteps:=10^7) only[go_sem,seval,↓gZ,ZU]
  refine Q8 Xs Ms ?_
  simp +contextual -implicitDefEqProofs (maxSteps:=10^7) only[go_sem,seval,↓gZ]
 | .pane i t=>by
  simp only[BT.plan,VD]
  refine Zo Xs Ms ZU Uw (by show 1≤_;decide) ?_
  by_cases h1:i<0
  ·have h1' : ¬0≤i:=by omega
   simp +contextual -implicitDefEqProofs (maxSteps:=10^7) only[go_sem,seval,↓gZ,ZU,h1,h1']
  ·have h1' : 0≤i:=by omega
   by_cases h2:i>24
   ·have h2' : ¬i≤24:=by omega
    simp +contextual -implicitDefEqProofs (maxSteps:=10^7) only[go_sem,seval,↓gZ,ZU,h1,h1',h2,h2']
   ·have h2' : i≤24:=by omega
    simp +contextual -implicitDefEqProofs (maxSteps:=10^7) only[go_sem,seval,↓gZ,ZU,h1,h1',h2,h2']
    refine Q8 Xs Ms ?_
    simp +contextual -implicitDefEqProofs (maxSteps:=10^7) only[go_sem,seval,↓gZ]
 | .cut d a l r=>by
  have e1:=WP l
  have e2:=WP r
  obtain⟨o1,a1,q1,t1,k1,hk1⟩:=Zj0 l
  obtain⟨o2,a2,q2,t2,k2,hk2⟩:=Zj0 r
  rw[hk1,Ze.enc_mk] at e1
  rw[hk2,Ze.enc_mk] at e2
  simp only[BT.plan,VD,hk1,hk2]
  refine Zo Xs Ms ZU Uw (by show 1≤_;decide) ?_
  by_cases h1:a<0
  ·have h1' : ¬0≤a:=by omega
   simp +contextual -implicitDefEqProofs (maxSteps:=10^7) only[go_sem,seval,↓gZ,ZU,h1,h1']
  ·have h1' : 0≤a:=by omega
   by_cases h2:a>200
   ·have h2' : ¬a≤200:=by omega
    simp +contextual -implicitDefEqProofs (maxSteps:=10^7) only[go_sem,seval,↓gZ,ZU,h1,h1',h2,h2']
   ·have h2' : a≤200:=by omega
    simp +contextual -implicitDefEqProofs (maxSteps:=10^7) only[go_sem,seval,↓gZ,ZU,h1,h1',h2,h2']
    refine Q8 Xs Ms ?_
    cases hl:VD l with
    | false=>
     rw[hl] at e1
     simp +contextual -implicitDefEqProofs (maxSteps:=10^7) only[go_sem,seval,↓gZ,e1]
    | true=>
     rw[hl] at e1
     simp +contextual -implicitDefEqProofs (maxSteps:=10^7) only[go_sem,seval,↓gZ,e1]
     refine Q8 Xs Ms ?_
     cases hr:VD r with
     | false=>
      rw[hr] at e2
      simp +contextual -implicitDefEqProofs (maxSteps:=10^7) only[go_sem,seval,↓gZ,e2]
     | true=>
      rw[hr] at e2
      simp +contextual -implicitDefEqProofs (maxSteps:=10^7) only[go_sem,seval,↓gZ,e2]
      refine Q8 Xs Ms ?_
      simp +contextual -implicitDefEqProofs (maxSteps:=10^7) only[go_sem,seval,↓gZ]
theorem Zai:∀ b:BT,VD b=true→(shw b).length≤13*b.cnt
 | .waste,_=>by simp[shw,BT.cnt]
 | .pane i t,h=>by
  simp only[VD,decide_eq_true_eq] at h
  have:=Xw 1 i.toNat (by omega)
  simp[shw,BT.cnt];omega
 | .cut d a l r,h=>by
  simp only[VD,Bool.and_eq_true,decide_eq_true_eq] at h
  have h1:=Zai l h.1.2
  have h2:=Zai r h.2
  have:=Xw 2 a.toNat (by omega)
  simp[shw,BT.cnt];omega
theorem Y4:∀ b:BT,VD b=true→b.cnt≤1000000→Zv Xs Ms Xa [.d b.plan.enc] []=some (.d (.str (shw b)),[])
 | .waste,_,_=>by
  simp only[BT.plan,shw]
  refine Zo Xs Ms Xb Zal (by show 1≤_;decide) ?_
  simp +contextual -implicitDefEqProofs (maxSteps:=10^7) only[go_sem,seval,↓gZ,Xb]
 | .pane i t,h,_=>by
  simp only[VD,decide_eq_true_eq] at h
  have e1:=Yx i.toNat (by omega)
  rw[Int.toNat_of_nonneg h.1] at e1
  have l1:=Xw 1 i.toNat (by omega)
  have hs:1+(num i.toNat).length≤1152921504606846976:=by omega
  simp only[BT.plan,shw]
  refine Zo Xs Ms Xb Zal (by show 1≤_;decide) ?_
  cases t<;>simp +contextual -implicitDefEqProofs (maxSteps:=10^7) only[go_sem,seval,↓gZ,Xb,e1,hs]
 | .cut d a l r,h,hc=>by
  have hL:=Zai _ h
  simp only[VD,Bool.and_eq_true,decide_eq_true_eq] at h
  simp only[BT.cnt] at hc hL
  have e1:=Yx a.toNat (by omega)
  rw[Int.toNat_of_nonneg h.1.1.1] at e1
  have e2:=Y4 l h.1.2 (by omega)
  have e3:=Y4 r h.2 (by omega)
  have l1:=Xw 2 a.toNat (by omega)
  simp only[shw,List.length_cons,List.length_append,List.length_nil] at hL
  obtain⟨x,hx⟩:∃ x,num a.toNat=x:=⟨_,rfl⟩
  obtain⟨y,hy⟩:∃ y,shw l=y:=⟨_,rfl⟩
  obtain⟨z,hz⟩:∃ z,shw r=z:=⟨_,rfl⟩
  simp only[BT.plan,shw]
  rw[hx] at e1 l1 hL ⊢
  rw[hy] at e2 hL ⊢
  rw[hz] at e3 hL ⊢
  have g1:1+x.length≤1152921504606846976:=by omega
  have g2:x.length≤1152921504606846974:=by omega
  have g3:x.length+1+1+y.length≤1152921504606846976:=by omega
  have g4:x.length+1+y.length≤1152921504606846974:=by omega
  have g5:x.length+1+y.length+1+1+z.length≤1152921504606846976:=by omega
  have g6:x.length+1+y.length+1+z.length≤1152921504606846974:=by omega
  refine Zo Xs Ms Xb Zal (by show 1≤_;decide) ?_
  cases d<;>simp +contextual -implicitDefEqProofs (maxSteps:=10^7) only[go_sem,seval,↓gZ,Xb,Zoj,e1,e2,e3,g1,g2,g3,g4,g5,g6]<;>simp
theorem ZpW (n:Nat):Lib.decDigits n=num n:=by
 induction n using Nat.strongRecOn with
 | ind n ih=>
  rw[Lib.decDigits,num]
  by_cases h:n<10
  ·rw[dif_pos h,if_pos h]
  ·rw[dif_neg h,if_neg h,ih (n / 10) (by omega)]
theorem Q5 (n:Int) (h0:0≤n) (h1:n≤999999999):Zv Xs Ms ZT [(.d (J n))] []=some (.d (.str (num n.toNat)),[]):=by
 refine U1 Xs Ms Zf1 ?_
 unfold Zhx
 simp only
 rw[if_pos ⟨h0,by omega⟩,ZpW]
theorem Z1 (l:List UInt8) (n:Int) (c:UInt8) (hc:(c.toNat:Int)=n) (hl:l.length≤1000000000):Zv Xs Ms Zg [.ptr 0 0,.d (.int .u8 n)] [.box [.bnil 0 TB,.bbuf 5 l]]=some (.nili,[.box [.bnil 0 TB,.bbuf 5 (l++[c])]]):=by
 refine U1 Xs Ms W9 ?_
 have hlt:=c.toNat_lt
 unfold Zhu
 simp only
 rw[if_pos ⟨trivial,trivial,by unfold WX;omega,by omega,by omega⟩]
 have e:UInt8.ofNat n.toNat=c:=by rw[← hc,Int.toNat_natCast,UInt8.ofNat_toNat]
 rw[e]
theorem Q9 (l s:List UInt8) (h0:0<s.length) (hl:l.length+s.length≤1000000000):Zv Xs Ms Zx [.ptr 0 0,.d (.str s)] [.box [.bnil 0 TB,.bbuf 5 l]]=some (.tup [(.d (J (s.length))),.nili],[.box [.bnil 0 TB,.bbuf 5 (l++s)]]):=by
 refine U1 Xs Ms WD ?_
 unfold ZmP
 simp only
 rw[if_pos ⟨trivial,trivial,by omega,by unfold WX;omega⟩]
theorem U4 (l:List UInt8):Zv Xs Ms ZK [.ptr 0 0] [.box [.bnil 0 TB,.bbuf 5 l]]=some (.d (.str l),[.box [.bnil 0 TB,.junk]]):=by
 refine U1 Xs Ms Jm ?_
 unfold Zhv
 simp only
 rw[if_pos ⟨trivial,trivial⟩]
theorem ZmQ (n:Nat):0<(num n).length:=List.length_pos_iff.2 (num_ne n)
theorem Us:∀ (b:BT) (l:List UInt8),VD b=true→l.length+(shw b).length≤100000000→Zv Xs Ms Xc [.ptr 0 0,.d b.plan.enc] [.box [.bnil 0 TB,.bbuf 5 l]]=some (.tup [],[.box [.bnil 0 TB,.bbuf 5 (l++shw b)]])
 | .waste,l,_,hl=>by
  simp only[shw,List.length_cons,List.length_nil] at hl
  have e1:=Z1 l 119 119 rfl (by omega)
  simp only[BT.plan,shw]
  refine Zo Xs Ms Qq Jo (by show 2≤_;decide) ?_
  simp +contextual -implicitDefEqProofs (maxSteps:=10^7) only[go_sem,seval,↓gZ,Qq,e1]
 | .pane i t,l,h,hl=>by
  simp only[VD,decide_eq_true_eq] at h
  simp only[shw,List.length_cons] at hl
  have e2:=Q5 i h.1 (by omega)
  have l1:=ZmQ i.toNat
  simp only[BT.plan,shw]
  refine Zo Xs Ms Qq Jo (by show 2≤_;decide) ?_
  cases t with
  | false=>
   have e1:=Z1 l 112 112 rfl (by omega)
   have e3:=Q9 (l++[112]) (num i.toNat) l1 (by simp;omega)
   simp +contextual -implicitDefEqProofs (maxSteps:=10^7) only[go_sem,seval,↓gZ,Qq,e1,e2,e3]
   simp
  | true=>
   have e1:=Z1 l 116 116 rfl (by omega)
   have e3:=Q9 (l++[116]) (num i.toNat) l1 (by simp;omega)
   simp +contextual -implicitDefEqProofs (maxSteps:=10^7) only[go_sem,seval,↓gZ,Qq,e1,e2,e3]
   simp
 | .cut d a x y,l,h,hl=>by
  simp only[VD,Bool.and_eq_true,decide_eq_true_eq] at h
  simp only[shw,List.length_cons,List.length_append,List.length_nil] at hl
  have l1:=ZmQ a.toNat
  have main:∀ (n:Int) (c:UInt8),(c.toNat:Int)=n→True:=fun _ _ _=>trivial
  have e2:=Q5 a h.1.1.1 (by omega)
  have g1:=Z1 l (if d then 100 else 97) (if d then 100 else 97) (by cases d<;>rfl) (by omega)
  have g2:=Q9 (l++[if d then 100 else 97]) (num a.toNat) l1 (by simp;omega)
  have g3:=Z1 (l++[if d then 100 else 97]++num a.toNat) 40 40 rfl (by simp;omega)
  have g4:=Us x (l++[if d then 100 else 97]++num a.toNat++[40]) h.1.2 (by simp;omega)
  have g5:=Z1 (l++[if d then 100 else 97]++num a.toNat++[40]++shw x) 44 44 rfl (by simp;omega)
  have g6:=Us y (l++[if d then 100 else 97]++num a.toNat++[40]++shw x++[44]) h.2 (by simp;omega)
  have g7:=Z1 (l++[if d then 100 else 97]++num a.toNat++[40]++shw x++[44]++shw y) 41 41 rfl (by simp;omega)
  simp only[BT.plan,shw]
  refine Zo Xs Ms Qq Jo (by show 2≤_;decide) ?_
  cases d with
  | true=>
   simp only[if_true] at g1 g2 g3 g4 g5 g6 g7
   simp +contextual -implicitDefEqProofs (maxSteps:=10^7) only[go_sem,seval,↓gZ,Qq,Zoj,e2,g1,g2,g3,g4,g5,g6,g7]
   simp
  | false=>
   simp only[Bool.false_eq_true,if_false] at g1 g2 g3 g4 g5 g6 g7
   simp +contextual -implicitDefEqProofs (maxSteps:=10^7) only[go_sem,seval,↓gZ,Qq,Zoj,e2,g1,g2,g3,g4,g5,g6,g7]
   simp
def Zlt (p:Ze):List UInt8:=match QC p with
 | some b=>if b.cnt≤255∧VD b=true then shw b else []
 | none=>[]
theorem ZhY {p:Ze} (h:QC p=none):Zlt p=[]:=by unfold Zlt;rw[h]
theorem Zd6 {p:Ze} {b:BT} (h:QC p=some b):Zlt p=if b.cnt≤255∧VD b=true then shw b else []:=by unfold Zlt;rw[h]
theorem Zft (p:Ze):Zv Xs Ms XQ [.d p.enc] []=some (.d (.str (Zlt p)),[]):=by
 have e1:=ZhB p
 cases hp:QC p with
 | none=>
  rw[ZhY hp]
  rw[hp,show Zr 255 none=-1 from rfl] at e1
  obtain⟨o,a,q,t,ks⟩:=p
  rw[Ze.enc_mk] at e1 ⊢
  refine Zo Xs Ms Qb VI (by show 1≤_;decide) ?_
  simp +contextual -implicitDefEqProofs (maxSteps:=10^7) only[go_sem,seval,↓gZ,Qb,e1]
 | some b=>
  rw[Zd6 hp]
  rw[hp] at e1
  obtain rfl:=Zab hp
  have e2:=WP b
  rcases Xe 255 b with ⟨hc,hs⟩ | ⟨hc,hs⟩
  ·rw[hs] at e1
   have h0:¬(b.cnt:Int)<0:=by omega
   cases hb:VD b with
   | false=>
    rw[hb] at e2
    rw[if_neg (fun h=>by cases h.2)]
    obtain⟨o,a,q,t,ks,hk⟩:=Zj0 b
    rw[hk,Ze.enc_mk] at e1 e2 ⊢
    refine Zo Xs Ms Qb VI (by show 1≤_;decide) ?_
    simp +contextual -implicitDefEqProofs (maxSteps:=10^7) only[go_sem,seval,↓gZ,Qb,e1,e2,h0]
   | true=>
    rw[hb] at e2
    rw[if_pos ⟨by omega,rfl⟩]
    have hl:=Zai b hb
    have e3:=Us b [] hb (by simp;omega)
    have e4:=U4 ([]++shw b)
    obtain⟨o,a,q,t,ks,hk⟩:=Zj0 b
    rw[hk,Ze.enc_mk] at e1 e2 e3 ⊢
    rw[List.nil_append] at e3 e4
    refine Zo Xs Ms Qb VI (by show 1≤_;decide) ?_
    simp +contextual -implicitDefEqProofs (maxSteps:=10^7) only[go_sem,seval,↓gZ,Qb,e1,e2,e3,e4,h0]
  ·rw[hs] at e1
   rw[if_neg (fun h=>by omega)]
   obtain⟨o,a,q,t,ks,hk⟩:=Zj0 b
   rw[hk,Ze.enc_mk] at e1 ⊢
   refine Zo Xs Ms Qb VI (by show 1≤_;decide) ?_
   simp +contextual -implicitDefEqProofs (maxSteps:=10^7) only[go_sem,seval,↓gZ,Qb,e1]
theorem ZhZ (a b:Bool):ZfB .neq true (AV.d (.bool a)) (.d (.bool b))=Yf (some (AV.d (.bool (a != b)))):=by cases a<;>cases b<;>rfl
def Zlu:List UInt8:=[116,117,114,110,115]
def Zlv:List UInt8:=[102,105,120,101,100]
def Zh0 (t:Bool):List UInt8:=if t then Zlu else Zlv
def Yp (l:QF):List (List UInt8):=[num l.Count.toNat,num l.Pane.W.toNat,num l.Pane.H.toNat,Zh0 l.Pane.Turns,num l.Pane.Kind.toNat]
def Wa (l:QF):List UInt8:=Yo 32 (Yp l)
def six (n:Int):Prop:=0≤n∧n≤999999
instance (n:Int):Decidable (six n):=by unfold six;infer_instance
def Zi1 (l:QF):Prop:=six l.Count∧six l.Pane.W∧six l.Pane.H∧six l.Pane.Kind
def Za5 {α:Type} (f:α→List UInt8) (l:List α):List UInt8:=(l.map fun x=>f x++[10]).flatten
theorem Zj1 {α:Type} (f:α→List UInt8) (x:α) (l:List α):Za5 f (x :: l)=f x++10 :: Za5 f l:=by simp[Za5]
theorem Zj2 {α:Type} (f:α→List UInt8) (l:List α) (x:α):Za5 f (l++[x])=Za5 f l++(f x++[10]):=by simp[Za5]
theorem Zlw (ws:List (List UInt8)):ZbK (ws.map .str)=some ws:=by
 induction ws with
 | nil=>rfl
 | cons x r ih=>simp only[List.map_cons,ZbK,ih];rfl
theorem ZfR (c:UInt8):∀ ws:List (List UInt8),Lib.join ws [c]=Yo c ws
 | []=>rfl
 | [x]=>Lib.join_one x [c]
 | x :: y :: r=>by
  have ih:=ZfR c (y :: r)
  unfold Lib.join at ih ⊢
  simp only[Yo,← ih,List.intercalate,List.intersperse,List.flatten_cons,List.append_assoc,List.singleton_append,List.cons_append,List.nil_append]
theorem ZaU (ws:List (List UInt8)) (c:UInt8) (h0:0<ws.length) (h1:ws.length≤1000) (h2:(Yo c ws).length≤1000000):Zv Xs Ms QX [.d (.sl (ws.map .str)),.d (.str [c])] []=some (.d (.str (Yo c ws)),[]):=by
 refine U1 Xs Ms Zf2 ?_
 unfold Zhy
 simp only
 rw[Zlw]
 simp only[Zd]
 rw[if_pos ⟨h0,by unfold WX;omega,by rw[ZfR];unfold WX;omega⟩,ZfR]
theorem U5 (l:QF) (h:Zi1 l):(Yo 32 (Yp l)).length≤40:=by
 obtain⟨⟨w,h',t,k⟩,c⟩:=l
 obtain⟨h1,h2,h3,h4⟩:=h
 simp only[six] at h1 h2 h3 h4
 have l1:=Xw 5 c.toNat (by omega)
 have l2:=Xw 5 w.toNat (by omega)
 have l3:=Xw 5 h'.toNat (by omega)
 have l4:=Xw 5 k.toNat (by omega)
 have l5:(Zh0 t).length=5:=by cases t<;>rfl
 simp only[Yp,Yo,List.length_append,List.length_cons]
 omega
theorem ZhC (lW lH:Int) (lT:Bool) (lK lC:Int) (h:Zi1 (QF.mk (Pane.mk lW lH lT lK) lC)):Zv Xs Ms X5 [(.d (.agg [J lW,J lH,.bool lT,J lK,J lC]))] []=some (.d (.str (Wa (QF.mk (Pane.mk lW lH lT lK) lC))),[]):=by
 have hw:=U5 (QF.mk (Pane.mk lW lH lT lK) lC) h
 obtain⟨h1,h2,h3,h4⟩:=h
 simp only[six] at h1 h2 h3 h4
 have e1:=Q5 lC h1.1 (by omega)
 have e2:=Q5 lW h2.1 (by omega)
 have e3:=Q5 lH h3.1 (by omega)
 have e4:=Q5 lK h4.1 (by omega)
 have e5:=ZaU (Yp (QF.mk (Pane.mk lW lH lT lK) lC)) 32 (by simp[Yp]) (by simp[Yp]) (by omega)
 simp only[Yp,List.map_cons,List.map_nil] at e5
 unfold Wa
 simp only[Yp]
 refine Zo Xs Ms YQ Zjc (by show 1≤_;decide) ?_
 cases lT with
 | true=>
  simp only[Zh0,Zlu,if_true] at e5 ⊢
  simp +contextual -implicitDefEqProofs (maxSteps:=10^7) only[go_sem,seval,↓gZ,YQ,e1,e2,e3,e4,e5]
 | false=>
  simp only[Zh0,Zlv,Bool.false_eq_true,if_false] at e5 ⊢
  simp +contextual -implicitDefEqProofs (maxSteps:=10^7) only[go_sem,seval,↓gZ,YQ,e1,e2,e3,e4,e5]
theorem ZhD (lW lH:Int) (lT:Bool) (lK lC:Int) (h:Zi1 (QF.mk (Pane.mk lW lH lT lK) lC)):Zv Xs Ms YO [(.d (.agg [J lW,J lH,.bool lT,J lK,J lC]))] []=some (.d (.str (Wa (QF.mk (Pane.mk lW lH lT lK) lC))),[]):=by
 have hw:=U5 (QF.mk (Pane.mk lW lH lT lK) lC) h
 obtain⟨h1,h2,h3,h4⟩:=h
 simp only[six] at h1 h2 h3 h4
 have e1:=Yx lC.toNat (by omega)
 have e2:=Yx lW.toNat (by omega)
 have e3:=Yx lH.toNat (by omega)
 have e4:=Yx lK.toNat (by omega)
 rw[Int.toNat_of_nonneg (by omega)] at e1 e2 e3 e4
 have l1:=Xw 5 lC.toNat (by omega)
 have l2:=Xw 5 lW.toNat (by omega)
 have l3:=Xw 5 lH.toNat (by omega)
 have l4:=Xw 5 lK.toNat (by omega)
 unfold Wa
 simp only[Yp,Yo]
 generalize num lC.toNat=a at *
 generalize num lW.toNat=b at *
 generalize num lH.toNat=c at *
 generalize num lK.toNat=d at *
 have b1:a.length+1≤1152921504606846976:=by omega
 have b2:a.length+1+b.length≤1152921504606846976:=by omega
 have b3:a.length+1+b.length+1≤1152921504606846976:=by omega
 have b4:a.length+1+b.length+1+c.length≤1152921504606846976:=by omega
 have b5:a.length+1+b.length+1+c.length+1≤1152921504606846976:=by omega
 have b6:a.length+1+b.length+1+c.length+1+5≤1152921504606846976:=by omega
 have b7:a.length+1+b.length+1+c.length+1+5+1≤1152921504606846976:=by omega
 have b8:a.length+1+b.length+1+c.length+1+5+1+d.length≤1152921504606846976:=by omega
 refine Zo Xs Ms YR Zjd (by show 1≤_;decide) ?_
 cases lT with
 | true=>
  simp only[Zh0,Zlu,if_true]
  simp +contextual -implicitDefEqProofs (maxSteps:=10^7) only[go_sem,seval,↓gZ,YR,e1,e2,e3,e4,b1,b2,b3,b4,b5,b6,b7,b8]
  simp only[List.append_assoc,List.cons_append,List.nil_append]
 | false=>
  simp only[Zh0,Zlv,Bool.false_eq_true,if_false]
  simp +contextual -implicitDefEqProofs (maxSteps:=10^7) only[go_sem,seval,↓gZ,YR,e1,e2,e3,e4,b1,b2,b3,b4,b5,b6,b7,b8]
  simp only[List.append_assoc,List.cons_append,List.nil_append]
end Go.Proofs.YtemkonmgcoceaaaDoor
