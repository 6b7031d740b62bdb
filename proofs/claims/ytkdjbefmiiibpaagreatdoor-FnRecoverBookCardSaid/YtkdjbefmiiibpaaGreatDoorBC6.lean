/- Contracts of the functions,by the abstract semantics. -/
import Derived.Test.YtkdjbefmiiibpaaGreatDoorBCode
import Derived.Test.YtkdjbefmiiibpaaGreatDoorAbsParts
import Derived.Test.YtkdjbefmiiibpaaGreatDoorBC5
namespace Go.Proofs.YtkdjbefmiiibpaaGreatDoor
open Go Go.Abs Go.Abs.E Go.Abs.L
open Nat (reduceMul reduceSub reduceLeDiff reduceEqDiff)
open Int (reduceLE reduceEq reduceToNat reduceNeg)
set_option linter.unusedSimpArgs false
set_option linter.unusedVariables false
set_option maxRecDepth 20000
set_option maxHeartbeats 4000000
theorem Zxt (p:Zj):Zxr p=[]∨∃ b,p=b.plan∧b.cnt≤255∧Wv b=true∧Zxr p=shw b:=by
 cases h:Xi p with
 | none=>exact .inl (ZsD h)
 | some b=>
  rw[Zm4 h]
  by_cases hc:b.cnt≤255∧Wv b=true
  ·rw[if_pos hc]
   exact .inr ⟨b,ZbL h,hc.1,hc.2,rfl⟩
  ·rw[if_neg hc];exact .inl rfl
def ZdI (s:List UInt8):Int:=match rd s with
 | some v=>(v:Int)
 | none=>-1
theorem Zl7 {s:List UInt8} (h:rd s=none):ZdI s=-1:=by unfold ZdI;rw[h]
theorem ZcA {s:List UInt8} {v:Nat} (h:rd s=some v):ZdI s=v:=by unfold ZdI;rw[h]
theorem rd_iff {s:List UInt8} {v:Nat}:rd s=some v↔s=num v∧v≤999999:=⟨Zaj,fun ⟨h1,h2⟩=>by rw[h1];exact Zet h2⟩
theorem ZBu (s:List UInt8) (k:Nat):val (s.take k)≤val s:=by
 have key:∀ (u:List UInt8) (n:Nat),n≤u.foldl (fun n c=>10*n+(c.toNat-48)) n:=by
  intro u
  induction u with
  | nil=>intro n;exact Nat.le_refl _
  | cons c u ih=>intro n;exact Nat.le_trans (show n≤10*n+(c.toNat-48) by omega) (ih _)
 conv=>rhs;rw[← List.take_append_drop k s]
 unfold val
 rw[List.foldl_append]
 exact key _ _
theorem YT (s:List UInt8) (hs:s.length≤1000000):Zh Xs Ms QM [.d (.str s)] []=some ((.d (J (ZdI s))),[]):=by
 generalize hres:ZdI s=res
 refine Zb Xs Ms U2 ZqE (by show 1≤_;decide) ?_
 simp +contextual -implicitDefEqProofs (maxSteps:=10^7) only[go_sem,seval,↓gZ,U2]
 refine ZQ Xs Ms (st0:=?st0) (α:=Nat) (fun k=>[(4,.d (J (k:Int))),(3,.d (J (val (s.take k):Nat)))]) (fun _=>[]) (fun k=>k≤s.length∧(∀ c∈s.take k,isD c=true)∧val (s.take k)≤999999) (fun k=>s.length-k) 0 ?hc (by simp[val]) ?h0 ?step
 case hc=>simp +contextual -implicitDefEqProofs (maxSteps:=10^7) only[go_sem,seval,↓gZ]<;>exact rfl
 case h0=>rfl
 case step=>
  intro k ⟨hk,hd,hv⟩ ih
  by_cases hlt:k<s.length
  ·obtain⟨c,hc⟩:∃ c,s[k]?=some c:=⟨_,List.getElem?_eq_getElem hlt⟩
   have hlt' : (k:Int)<(s.length:Int):=by omega
   by_cases hD:isD c=true
   ·have hD':=(Zfo c).1 hD
    have w1:=wi (10*(val (s.take k):Nat)) (by omega) (by omega)
    have w2:=wu8 ((c.toNat:Int)-48) (by omega) (by omega)
    have w3:=wi ((c.toNat:Int)-48) (by omega) (by omega)
    have w4:IntKind.i64.wrap (10*(val (s.take k):Nat)+((c.toNat:Int)-48))=((val (s.take (k+1)):Nat):Int):=by
     rw[wi _ (by omega) (by omega),ZvA hc];omega
    have w5:=Zm (k:=k) (by omega)
    by_cases hbig:val (s.take (k+1))≤999999
    ·have hb:¬(999999:Int)<((val (s.take (k+1)):Nat):Int):=by omega
     simp +contextual -implicitDefEqProofs (maxSteps:=10^7) only[go_sem,seval,↓gZ,hlt',hc,hD'.1,hD'.2,w1,w2,w3,w4,w5,hb]
     refine ih (k+1) _ ⟨by omega,fun d hdm=>?_,hbig⟩ (by omega) ?_
     ·rw[List.take_succ_eq_append_getElem hlt] at hdm
      rcases List.mem_append.1 hdm with hdm | hdm
      ·exact hd d hdm
      ·simp only[List.mem_singleton] at hdm
       rw[hdm,(List.getElem?_eq_some_iff.1 hc).2]
       exact hD
     ·simp +contextual -implicitDefEqProofs (maxSteps:=10^7) only[go_sem,seval,↓gZ]
    ·have hb:(999999:Int)<((val (s.take (k+1)):Nat):Int):=by omega
     have hno:rd s=none:=by
      cases hr:rd s with
      | none=>rfl
      | some v=>
       obtain⟨h1,h2⟩:=Zaj hr
       have:=ZBu s (k+1)
       rw[h1,ZtH] at this
       rw[h1] at hbig
       omega
     rw[Zl7 hno] at hres
     subst hres
     simp +contextual -implicitDefEqProofs (maxSteps:=10^7) only[go_sem,seval,↓gZ,hlt',hc,hD'.1,hD'.2,w1,w2,w3,w4,w5,hb]
   ·have hno:rd s=none:=by
     cases hr:rd s with
     | none=>rfl
     | some v=>
      obtain⟨h1,h2⟩:=Zaj hr
      rw[h1] at hc
      exact absurd (ZoA v c (List.mem_of_getElem? hc)) hD
    rw[Zl7 hno] at hres
    subst hres
    by_cases hlo:(c.toNat:Int)<48
    ·simp +contextual -implicitDefEqProofs (maxSteps:=10^7) only[go_sem,seval,↓gZ,hlt',hc,hlo]
    ·have hhi:(57:Int)<(c.toNat:Int):=Classical.byContradiction fun h=>hD ((Zfo c).2 ⟨hlo,h⟩)
     simp +contextual -implicitDefEqProofs (maxSteps:=10^7) only[go_sem,seval,↓gZ,hlt',hc,hlo,hhi]
  ·have hke:k=s.length:=by omega
   subst hke
   have ht:s.take s.length=s:=List.take_length
   rw[ht] at hd hv
   have hge:¬(s.length:Int)<(s.length:Int):=by omega
   have e1:=WH (val s) (by omega)
   by_cases hn:s=[]
   ·subst hn
    rw[Zl7 (Zqf fun h=>h.1 rfl)] at hres
    subst hres
    simp +contextual -implicitDefEqProofs (maxSteps:=10^7) only[go_sem,seval,↓gZ]
   ·have hb:(s==[])=false:=by
     cases s with
     | nil=>exact absurd rfl hn
     | cons x r=>rfl
    by_cases heq:s=num (val s)
    ·have hne:(s==num (val s))=true:=by rw[beq_iff_eq];exact heq
     rw[ZcA (rd_iff.2 ⟨heq,hv⟩)] at hres
     subst hres
     simp +contextual -implicitDefEqProofs (maxSteps:=10^7) only[go_sem,seval,↓gZ,ht,hge,e1,hb,hne]
    ·have hne:(s==num (val s))=false:=by simpa using heq
     have hno:rd s=none:=by
      cases hr:rd s with
      | none=>rfl
      | some v=>
       obtain⟨h1,h2⟩:=Zaj hr
       exact absurd (by
        conv => rhs; rw [h1, ZtH]
        exact h1) heq
     rw[Zl7 hno] at hres
     subst hres
     simp +contextual -implicitDefEqProofs (maxSteps:=10^7) only[go_sem,seval,↓gZ,ht,hge,e1,hb,hne]
def nxB (s:List UInt8) (k:Nat):Int:=match s[k]? with
 | some c=>(c.toNat:Int)
 | none=>0
theorem Zjb {s:List UInt8} {k:Nat} {c:UInt8} (h:s[k]?=some c):nxB s k=c.toNat:=by unfold nxB;rw[h]
theorem Zl8 {s:List UInt8} {k:Nat} (h:s[k]?=none):nxB s k=0:=by unfold nxB;rw[h]
theorem ZgT (s:List UInt8) (k:Nat) (bad:Bool):Zh Xs Ms QR [.ptr 0 0] [.box [.d (.str s),(.d (J k)),(.d (.bool bad))]]=some (.d (.int .u8 (nxB s k)),[.box [.d (.str s),(.d (J k)),(.d (.bool bad))]]):=by
 by_cases h:k<s.length
 ·obtain⟨c,hc⟩:∃ c,s[k]?=some c:=⟨_,List.getElem?_eq_getElem h⟩
  rw[Zjb hc]
  have h' : ¬(s.length:Int)≤(k:Int):=by omega
  refine Zb Xs Ms X6 Zft (by show 1≤_;decide) ?_
  simp +contextual -implicitDefEqProofs (maxSteps:=10^7) only[go_sem,seval,↓gZ,X6,h',hc]
 ·rw[Zl8 (by simp;omega)]
  have h' : (s.length:Int)≤(k:Int):=by omega
  refine Zb Xs Ms X6 Zft (by show 1≤_;decide) ?_
  simp +contextual -implicitDefEqProofs (maxSteps:=10^7) only[go_sem,seval,↓gZ,X6,h']
theorem ZzT (s:List UInt8) (k:Nat) (n:Int) (hk:k≤10000000) (h:nxB s k=n):Zh Xs Ms QA [.ptr 0 0,.d (.int .u8 n)] [.box [.d (.str s),(.d (J k)),(.d (.bool false))]]=some (.tup [],[.box [.d (.str s),(.d (J ((k+1:Nat)))),(.d (.bool false))]]):=by
 have e1:=ZgT s k false
 rw[h] at e1
 have w:=Zm (k:=k) (by omega)
 refine Zb Xs Ms QB Zbf (by show 2≤_;decide) ?_
 simp +contextual -implicitDefEqProofs (maxSteps:=10^7) only[go_sem,seval,↓gZ,QB,e1,w]
theorem Zxu (s:List UInt8) (k:Nat) (n:Int) (bad:Bool) (hk:k≤10000000) (h:¬nxB s k=n):Zh Xs Ms QA [.ptr 0 0,.d (.int .u8 n)] [.box [.d (.str s),(.d (J k)),(.d (.bool bad))]]=some (.tup [],[.box [.d (.str s),(.d (J ((k+1:Nat)))),(.d (.bool true))]]):=by
 have e1:=ZgT s k bad
 have w:=Zm (k:=k) (by omega)
 refine Zb Xs Ms QB Zbf (by show 2≤_;decide) ?_
 cases bad with
 | false=>simp +contextual -implicitDefEqProofs (maxSteps:=10^7) only[go_sem,seval,↓gZ,QB,e1,w,h]
 | true=>simp +contextual -implicitDefEqProofs (maxSteps:=10^7) only[go_sem,seval,↓gZ,QB,e1,w,h]
theorem Zxv (s:List UInt8) (k:Nat) (hk:k≤s.length) (hs:s.length≤1000000) (x:List UInt8) (hx:(s.drop k).takeWhile isD=x) :
  Zh Xs Ms Xw [.ptr 0 0] [.box [.d (.str s),(.d (J k)),(.d (.bool false))]]=some ((.d (J (ZdI x))),[.box [.d (.str s),(.d (J ((k+x.length:Nat)))),(.d (.bool (decide (ZdI x<0))))]]):=by
 have hle:x.length≤s.length-k:=by have:=ZBs (p:=isD) (s.drop k);rw[hx,List.length_drop] at this;exact this
 generalize hres:ZdI x=res
 refine Zb Xs Ms Vy Zk5 (by show 1≤_;decide) ?_
 simp +contextual -implicitDefEqProofs (maxSteps:=10^7) only[go_sem,seval,↓gZ,Vy]
 refine ZQ Xs Ms (st0:=?st0) (α:=Nat) (fun _=>[]) (fun j=>[(0,.box [.d (.str s),(.d (J ((k+j:Nat)))),(.d (.bool false))])]) (fun j=>j≤x.length) (fun j=>s.length-j) 0 ?hc (by omega) ?h0 ?step
 case hc=>simp +contextual -implicitDefEqProofs (maxSteps:=10^7) only[go_sem,seval,↓gZ]<;>exact rfl
 case h0=>rfl
 case step=>
  intro j hj ih
  have e1:=ZgT s (k+j) false
  have w:IntKind.i64.wrap (((k+j:Nat):Int)+1)=((k+(j+1):Nat):Int):=by rw[Zm (k:=k+j) (by omega)];rfl
  by_cases hlt:j<x.length
  ·obtain⟨c,hc,hD⟩:=ZBr (p:=isD) (s:=s.drop k) (k:=j) (by rw[hx];exact hlt)
   rw[List.getElem?_drop] at hc
   rw[Zjb hc] at e1
   have hD':=(Zfo c).1 hD
   have h1:(48:Int)≤c.toNat:=by omega
   have h2:(c.toNat:Int)≤57:=by omega
   simp +contextual -implicitDefEqProofs (maxSteps:=10^7) only[go_sem,seval,↓gZ,e1,h1,h2,w]
   refine ih (j+1) _ (by omega) (by omega) ?_
   simp +contextual -implicitDefEqProofs (maxSteps:=10^7) only[go_sem,seval,↓gZ]
  ·have hje:j=x.length:=by omega
   subst hje
   have hnd:¬((48:Int)≤nxB s (k+x.length)∧nxB s (k+x.length)≤57):=by
    rcases Zxs (p:=isD) (s:=s.drop k) with h | ⟨c,hc,hD⟩
    ·rw[hx,List.length_drop] at h
     rw[Zl8 (by simp;omega)]
     omega
    ·rw[hx,List.getElem?_drop] at hc
     rw[Zjb hc]
     intro h
     exact hD ((Zfo c).2 (by omega))
   have hsl:(s.take (k+x.length)).drop k=x:=by
    rw[List.drop_take,show k+x.length-k=x.length by omega]
    conv=>lhs;rw[← hx]
    rw[Zyr,hx]
   have e2:=YT x (by omega)
   rw[hres] at e2
   have q1:((k+x.length:Nat):Int)≤(s.length:Int):=by omega
   have q2:(k:Int)≤((k+x.length:Nat):Int):=by omega
   by_cases h1:(48:Int)≤nxB s (k+x.length)
   ·have h2:¬nxB s (k+x.length)≤57:=fun h=>hnd ⟨h1,h⟩
    simp +contextual -implicitDefEqProofs (maxSteps:=10^7) only[go_sem,seval,↓gZ,e1,h1,h2,hsl,e2,q1,q2]
   ·simp +contextual -implicitDefEqProofs (maxSteps:=10^7) only[go_sem,seval,↓gZ,e1,h1,hsl,e2,q1,q2]
theorem ZgU {s u v:List UInt8} {k:Nat} (h:s.drop k=u++v):s.drop (k+u.length)=v:=by
 have:=congrArg (List.drop u.length) h
 rw[List.drop_drop,List.drop_left] at this
 exact this
theorem ZtK {s t:List UInt8} {k:Nat} {c:UInt8} (h:s.drop k=c :: t):nxB s k=c.toNat:=by
 refine Zjb ?_
 have:(s.drop k)[0]?=some c:=by rw[h];rfl
 rwa [List.getElem?_drop,Nat.add_zero] at this
theorem ZBv {s:List UInt8} {k:Nat} {n:Int} (h:nxB s k=n) (hn:n≠0):k<s.length:=by
 rcases Nat.lt_or_ge k s.length with h' | h'
 ·exact h'
 ·rw[Zl8 (by simp;omega)] at h;exact absurd h.symm hn
theorem ZjT (b:BT) (r:List UInt8):(b=.waste∧shw b++r=119 :: r)∨(∃ i t,b=.pane i t∧shw b++r=(if t then 116 else 112) :: (num i.toNat++r)) ∨
  ∃ d a x y,b=.cut d a x y∧shw b++r=(if d then 100 else 97) :: (num a.toNat++40 :: (shw x++44 :: (shw y++41 :: r))):=by
 cases b with
 | waste=>exact .inl ⟨rfl,rfl⟩
 | pane i t=>exact .inr (.inl ⟨i,t,rfl,by simp[shw]⟩)
 | cut d a x y=>exact .inr (.inr ⟨d,a,x,y,rfl,by simp[shw]⟩)
theorem ZBw {s:List UInt8} {k:Nat} {c:UInt8} {d:Bool} (hdc:s.drop k=c :: s.drop (k+1)) (hd:c=(if d then 100 else 97)) {b:BT} {r:List UInt8} (h2:ZdG b=true) (h3:s.drop k=shw b++r) :
  ∃ a x y,b=.cut d a x y∧(0≤a∧a≤999999)∧ZdG x=true∧ZdG y=true∧s.drop (k+1)=num a.toNat++40 :: (shw x++44 :: (shw y++41 :: r)):=by
 rw[hdc] at h3
 rcases ZjT b r with ⟨rfl,h4⟩ | ⟨i,t,rfl,h4⟩ | ⟨d',a,x,y,rfl,h4⟩
 ·rw[h4,hd] at h3;cases d<;>cases h3
 ·rw[h4,hd] at h3;cases d<;>cases t<;>cases h3
 ·rw[h4] at h3
  simp only[List.cons.injEq] at h3
  obtain⟨h5,h6⟩:=h3
  rw[hd] at h5
  have hdd:d=d':=by cases d<;>cases d' <;> first | rfl | cases h5
  subst hdd
  simp only[ZdG,Bool.and_eq_true,decide_eq_true_eq] at h2
  exact⟨a,x,y,rfl,h2.1.1,h2.1.2,h2.2,h6⟩
theorem ZBx {s r:List UInt8} {k v:Nat} (hv:v≤999999) (hr:Zqd r) (h:s.drop k=num v++r):(s.drop k).takeWhile isD=num v∧ZdI (num v)=v:=by
 rw[h]
 exact⟨(Zqe v hr).1,ZcA (Zet hv)⟩
theorem Zl9 {c:UInt8} {r:List UInt8} (h:isD c=false):Zqd (c :: r):=fun d t e=>by cases e;exact h
theorem Zm5 (s:List UInt8) (k:Nat) (n:Int) (bad:Bool) (hk:k≤10000000):Zh Xs Ms QA [.ptr 0 0,.d (.int .u8 n)] [.box [.d (.str s),(.d (J k)),(.d (.bool bad))]]=some (.tup [],[.box [.d (.str s),(.d (J ((k+1:Nat)))),(.d (.bool (bad || !decide (nxB s k=n))))]]):=by
 by_cases h:nxB s k=n
 ·cases bad with
  | false=>
   rw[ZzT s k n hk h]
   simp[h]
  | true=>
   have e1:=ZgT s k true
   have w:=Zm (k:=k) (by omega)
   refine Zb Xs Ms QB Zbf (by show 2≤_;decide) ?_
   simp +contextual -implicitDefEqProofs (maxSteps:=10^7) only[go_sem,seval,↓gZ,QB,e1,w]
 ·rw[Zxu s k n bad hk h]
  simp[h]
def SpR (s:List UInt8) (n k:Nat) (res:Option (AV×List Zo)):Prop:=∃ (o a q:Int) (t:Bool) (ks:List Zj) (k' : Nat) (bad:Bool),
 res=some (.agg [(.d (J o)),(.d (J a)),(.d (J q)),(.d (.bool t)),.own 1],[.box [.d (.str s),(.d (J (k'))),(.d (.bool bad))],.row 5 (ks.map Zj.enc) true false])∧k'≤s.length+2+n∧(bad=false→k'≤s.length∧k<k') ∧
 ∀ b r,Zqd r→ZdG b=true→s.drop k=shw b++r→Zj.mk o a q t ks=b.plan∧k'=k+(shw b).length∧bad=false
theorem ZoC {s:List UInt8} {n k k' : Nat} {res:Option (AV×List Zo)} (h:res=some (.agg [(.d (J 0)),(.d (J 0)),(.d (J 0)),(.d (.bool false)),.own 1],[.box [.d (.str s),(.d (J (k'))),(.d (.bool true))],.row 5 [] true false])) (hk:k'≤s.length+2+n) (hno:∀ b r,Zqd r→ZdG b=true→s.drop k≠shw b++r):SpR s n k res:=
 ⟨0,0,0,false,[],k',true,h,hk,(fun h=>by cases h),fun b r h1 h2 h3=>absurd h3 (hno b r h1 h2)⟩
theorem ZzU (s:List UInt8) (hs:s.length≤1000000):∀ (n k:Nat),s.length-k<n→n≤2000000→k≤s.length→SpR s n k (Zh Xs Ms Qz [.ptr 0 0] [.box [.d (.str s),(.d (J k)),(.d (.bool false))]]):=by
 intro n
 induction n with
 | zero=>intro k h;omega
 | succ n IH=>
  intro k hn hn2 hk
  have e1:=ZgT s k false
  have w:=Zm (k:=k) (by omega)
  by_cases hlt:k<s.length
  ·obtain⟨c,hc⟩:∃ c,s[k]?=some c:=⟨_,List.getElem?_eq_getElem hlt⟩
   have hdc:s.drop k=c :: s.drop (k+1):=by rw[List.drop_eq_getElem_cons hlt,(List.getElem?_eq_some_iff.1 hc).2]
   rw[Zjb hc] at e1
   by_cases c1:c=119
   ·have n1:(c.toNat:Int)=119:=(Ze8 c 119 rfl).2 c1
    refine⟨0,0,0,false,[],k+1,false,?_,by omega,fun _=>by omega,fun b r h1 h2 h3=>?_⟩
    ·refine Zb Xs Ms Zy XU (by show 1≤_;decide) ?_
     simp +contextual -implicitDefEqProofs (maxSteps:=10^7) only[go_sem,seval,↓gZ,Zy,e1,w,n1]
    ·rw[hdc,c1] at h3
     rcases ZjT b r with ⟨rfl,_⟩ | ⟨i,t,rfl,h4⟩ | ⟨d,a,x,y,rfl,h4⟩
     ·exact⟨rfl,rfl,rfl⟩
     ·rw[h4] at h3;cases t<;>cases h3
     ·rw[h4] at h3;cases d<;>cases h3
   have n1:¬(c.toNat:Int)=119:=fun h=>c1 ((Ze8 c 119 rfl).1 h)
   obtain⟨x,hx⟩:∃ x,(s.drop (k+1)).takeWhile isD=x:=⟨_,rfl⟩
   have hxl:x.length≤s.length-(k+1):=by have:=ZBs (p:=isD) (s.drop (k+1));rw[hx,List.length_drop] at this;exact this
   have e2:=Zxv s (k+1) (by omega) hs x hx
   by_cases c2:c=112∨c=116
   ·have key:∀ t:Bool,c=(if t then 116 else 112)→SpR s (n+1) k (Zh Xs Ms Qz [.ptr 0 0] [.box [.d (.str s),(.d (J k)),(.d (.bool false))]]):=by
     intro t ht
     refine⟨1,0,ZdI x,t,[],k+1+x.length,decide (ZdI x<0),?_,by omega,fun _=>by omega,fun b r h1 h2 h3=>?_⟩
     ·refine Zb Xs Ms Zy XU (by show 1≤_;decide) ?_
      cases t with
      | false=>
       have n2:(c.toNat:Int)=112:=(Ze8 c 112 rfl).2 ht
       have n3:¬(c.toNat:Int)=116:=by omega
       simp +contextual -implicitDefEqProofs (maxSteps:=10^7) only[go_sem,seval,↓gZ,Zy,e1,w,n1,n2,n3,e2]
      | true=>
       have n3:(c.toNat:Int)=116:=(Ze8 c 116 rfl).2 ht
       have n2:¬(c.toNat:Int)=112:=by omega
       simp +contextual -implicitDefEqProofs (maxSteps:=10^7) only[go_sem,seval,↓gZ,Zy,e1,w,n1,n2,n3,e2]
     ·rw[hdc,ht] at h3
      rcases ZjT b r with ⟨rfl,h4⟩ | ⟨i,t',rfl,h4⟩ | ⟨d,a,x,y,rfl,h4⟩
      ·rw[h4] at h3;cases t<;>cases h3
      ·rw[h4] at h3
       simp only[List.cons.injEq] at h3
       obtain⟨h5,h6⟩:=h3
       have htt:t=t':=by cases t<;>cases t' <;> first | rfl | cases h5
       subst htt
       simp only[ZdG,decide_eq_true_eq] at h2
       obtain⟨g1,g2⟩:=ZBx (v:=i.toNat) (by omega) h1 h6
       rw[hx] at g1
       rw[g1,g2,Int.toNat_of_nonneg h2.1]
       refine⟨rfl,by simp[shw];omega,by simp;omega⟩
      ·rw[h4] at h3;cases d<;>cases t<;>cases h3
    rcases c2 with c2 | c2
    ·exact key false c2
    ·exact key true c2
   have n2:¬(c.toNat:Int)=112:=fun h=>c2 (.inl ((Ze8 c 112 rfl).1 h))
   have n3:¬(c.toNat:Int)=116:=fun h=>c2 (.inr ((Ze8 c 116 rfl).1 h))
   by_cases c4:c=100∨c=97
   ·have key:∀ d:Bool,c=(if d then 100 else 97)→SpR s (n+1) k (Zh Xs Ms Qz [.ptr 0 0] [.box [.d (.str s),(.d (J k)),(.d (.bool false))]]):=by
     intro d hd
     have hf:(if d then (c.toNat:Int)=100 else ¬(c.toNat:Int)=100∧(c.toNat:Int)=97):=by
      cases d with
      | true=>exact(Ze8 c 100 rfl).2 hd
      | false=>
       have h97:(c.toNat:Int)=97:=(Ze8 c 97 rfl).2 hd
       exact⟨by omega,h97⟩
     have e3:=Zm5 s (k+1+x.length) 40 (decide (ZdI x<0)) (by omega)
     have first:∀ b r,Zqd r→ZdG b=true→s.drop k=shw b++r→∃ a l y,b=.cut d a l y∧ZdG l=true∧ZdG y=true∧ZdI x=a∧0≤a∧x=num a.toNat∧nxB s (k+1+x.length)=40∧s.drop (k+1+x.length+1)=shw l++44 :: (shw y++41 :: r):=by
      intro b r h1 h2 h3
      obtain⟨a,l,y,rfl,ha,hl,hy,h6⟩:=ZBw hdc hd h2 h3
      obtain⟨g1,g2⟩:=ZBx (v:=a.toNat) (by omega) (Zl9 rfl) h6
      rw[hx] at g1
      have h7:=ZgU h6
      rw[← g1] at h7
      refine⟨a,l,y,rfl,hl,hy,by rw[g1,g2];omega,ha.1,g1,ZtK h7,?_⟩
      exact ZgU (u:=[40]) h7
     by_cases hb1:ZdI x<0∨¬nxB s (k+1+x.length)=40
     ·have hbv:(decide (ZdI x<0) || !decide (nxB s (k+1+x.length)=40))=true:=by
       rcases hb1 with h | h<;>simp[h]
      rw[hbv] at e3
      refine ZoC (k':=k+1+x.length+1) ?_ (by omega) fun b r h1 h2 h3=>?_
      ·refine Zb Xs Ms Zy XU (by show 1≤_;decide) ?_
       cases d with
       | true=>
        simp only[if_true] at hf
        simp +contextual -implicitDefEqProofs (maxSteps:=10^7) only[go_sem,seval,↓gZ,Zy,e1,w,n1,n2,n3,hf,e2,e3]
       | false=>
        simp only[Bool.false_eq_true,if_false] at hf
        simp +contextual -implicitDefEqProofs (maxSteps:=10^7) only[go_sem,seval,↓gZ,Zy,e1,w,n1,n2,n3,hf.1,hf.2,e2,e3]
      ·obtain⟨a,l,y,_,_,_,m1,m2,_,m3,_⟩:=first b r h1 h2 h3
       rcases hb1 with h | h
       ·omega
       ·exact h m3
     have hb1' : ¬ZdI x<0∧nxB s (k+1+x.length)=40:=⟨fun h=>hb1 (.inl h),Classical.byContradiction fun h=>hb1 (.inr h)⟩
     have hbv:(decide (ZdI x<0) || !decide (nxB s (k+1+x.length)=40))=false:=by simp[hb1'.1,hb1'.2]<;>omega
     rw[hbv] at e3
     have hlt1:=ZBv hb1'.2 (by decide)
     obtain⟨o1,a1,q1,t1,ks1,k3,b3,i1,g1,g2,g3⟩:=IH (k+1+x.length+1) (by omega) (by omega) (by omega)
     have e4:=Zm5 s k3 44 b3 (by omega)
     by_cases hb2:b3=true∨¬nxB s k3=44
     ·have hbv2:(b3 || !decide (nxB s k3=44))=true:=by
       rcases hb2 with h | h<;>simp[h]
      rw[hbv2] at e4
      refine ZoC (k':=k3+1) ?_ (by omega) fun b r h1 h2 h3=>?_
      ·refine Zb Xs Ms Zy XU (by show 1≤_;decide) ?_
       cases d with
       | true=>
        simp only[if_true] at hf
        simp +contextual -implicitDefEqProofs (maxSteps:=10^7) only[go_sem,seval,↓gZ,Zy,e1,w,n1,n2,n3,hf,e2,e3,i1,e4]
       | false=>
        simp only[Bool.false_eq_true,if_false] at hf
        simp +contextual -implicitDefEqProofs (maxSteps:=10^7) only[go_sem,seval,↓gZ,Zy,e1,w,n1,n2,n3,hf.1,hf.2,e2,e3,i1,e4]
      ·obtain⟨a,l,y,_,hl,_,_,_,_,_,m4⟩:=first b r h1 h2 h3
       obtain⟨_,m5,m6⟩:=g3 l _ (Zl9 rfl) hl m4
       rcases hb2 with h | h
       ·rw[m6] at h;cases h
       ·exact h (by rw[m5];exact ZtK (ZgU m4))
     have hb2' : b3=false∧nxB s k3=44:=⟨by cases b3<;>first | rfl | exact absurd (.inl rfl) hb2,Classical.byContradiction fun h=>hb2 (.inr h)⟩
     obtain⟨rfl,hnx2⟩:=hb2'
     have hbv2:(false || !decide (nxB s k3=44))=false:=by simp[hnx2]
     rw[hbv2] at e4
     have hlt2:=ZBv hnx2 (by decide)
     have g2:=g2 rfl
     obtain⟨o2,a2,q2,t2,ks2,k5,b5,i2,f1,f2,f3⟩:=IH (k3+1) (by omega) (by omega) (by omega)
     have e5:=Zm5 s k5 41 b5 (by omega)
     refine⟨Zby d,ZdI x,0,false,[.mk o1 a1 q1 t1 ks1,.mk o2 a2 q2 t2 ks2],k5+1,b5 || !decide (nxB s k5=41),?_,by omega,fun hbf=>?_,fun b r h1 h2 h3=>?_⟩
     ·refine Zb Xs Ms Zy XU (by show 1≤_;decide) ?_
      cases d with
      | true=>
       simp only[if_true] at hf
       simp +contextual -implicitDefEqProofs (maxSteps:=10^7) only[go_sem,seval,↓gZ,Zy,e1,w,n1,n2,n3,hf,e2,e3,i1,e4,i2,e5,Zby]
      | false=>
       simp only[Bool.false_eq_true,if_false] at hf
       simp +contextual -implicitDefEqProofs (maxSteps:=10^7) only[go_sem,seval,↓gZ,Zy,e1,w,n1,n2,n3,hf.1,hf.2,e2,e3,i1,e4,i2,e5,Zby]
     ·cases b5 with
      | true=>cases hbf
      | false=>
       have hnx3:nxB s k5=41:=by simpa using hbf
       have:=ZBv hnx3 (by decide)
       have:=f2 rfl
       omega
     ·obtain⟨a,l,y,rfl,hl,hy,m1,m2,m2',m3,m4⟩:=first b r h1 h2 h3
      obtain⟨p1,p2,_⟩:=g3 l _ (Zl9 rfl) hl m4
      have m7:=ZgU m4
      rw[← p2] at m7
      have m8:s.drop (k3+1)=shw y++41 :: r:=ZgU (u:=[44]) m7
      obtain⟨p3,p4,p5⟩:=f3 y _ (Zl9 rfl) hy m8
      have m9:=ZtK (ZgU m8)
      rw[← p4] at m9
      refine⟨by rw[BT.plan,p1,p3,m1],?_,?_⟩
      ·rw[p4,p2,m2']
       simp only[shw,List.length_cons,List.length_append,List.length_nil]
       omega
      ·rw[p5,m9];rfl
    rcases c4 with c4 | c4
    ·exact key true c4
    ·exact key false c4
   have n4:¬(c.toNat:Int)=100:=fun h=>c4 (.inl ((Ze8 c 100 rfl).1 h))
   have n5:¬(c.toNat:Int)=97:=fun h=>c4 (.inr ((Ze8 c 97 rfl).1 h))
   refine ZoC (k':=k+1) ?_ (by omega) fun b r h1 h2 h3=>?_
   ·refine Zb Xs Ms Zy XU (by show 1≤_;decide) ?_
    simp +contextual -implicitDefEqProofs (maxSteps:=10^7) only[go_sem,seval,↓gZ,Zy,e1,w,n1,n2,n3,n4,n5]
   ·rw[hdc] at h3
    rcases ZjT b r with ⟨rfl,h4⟩ | ⟨i,t,rfl,h4⟩ | ⟨d,a,x,y,rfl,h4⟩
    ·rw[h4] at h3;cases h3;exact c1 rfl
    ·rw[h4] at h3
     simp only[List.cons.injEq] at h3
     cases t
     ·exact c2 (.inl h3.1)
     ·exact c2 (.inr h3.1)
    ·rw[h4] at h3
     simp only[List.cons.injEq] at h3
     cases d
     ·exact c4 (.inr h3.1)
     ·exact c4 (.inl h3.1)
  ·rw[Zl8 (by simp;omega)] at e1
   refine ZoC (k':=k+1) ?_ (by omega) fun b r h1 h2 h3=>?_
   ·refine Zb Xs Ms Zy XU (by show 1≤_;decide) ?_
    simp +contextual -implicitDefEqProofs (maxSteps:=10^7) only[go_sem,seval,↓gZ,Zy,e1,w]
   ·have hl:=congrArg List.length h3
    have:=Zyp b
    rw[List.length_drop,List.length_append] at hl
    omega
theorem ZjU {s:List UInt8} {b:BT}:ZgS s=some b↔s.length≤1600∧s=shw b∧b.cnt≤255∧Wv b=true:=by
 unfold ZgS
 by_cases h:s.length≤1600
 ·rw[if_pos h,Zi9]
  exact⟨fun h'=>⟨h,h'⟩,fun h'=>h'.2⟩
 ·rw[if_neg h]
  constructor
  ·intro h';cases h'
  ·intro h';exact absurd h'.1 h
theorem Zqg (s:List UInt8) (hs:s.length≤1000000):PrR (Zh Xs Ms Ur [.d (.str s)] []) (ZgS s):=by
 by_cases hl:s.length≤1600
 ·have hl' : ¬(1600:Int)<(s.length:Int):=by omega
  obtain⟨o,a,q,t,ks,k',bad,e1,g1,g2,g3⟩:=ZzU s hs (s.length+1) 0 (by omega) (by omega) (by omega)
  rw[show ((0:Nat):Int)=0 from rfl] at e1
  have hm:∀ b',ZgS s=some b'→Zj.mk o a q t ks=b'.plan∧k'=s.length∧bad=false∧s=shw b'∧b'.cnt≤255∧Wv b'=true:=by
   intro b' h
   obtain⟨_,h1,h2,h3⟩:=ZjU.1 h
   obtain⟨p1,p2,p3⟩:=g3 b' [] (fun c t e=>by cases e) (ZdH b' h3) (by rw[List.drop_zero,List.append_nil];exact h1)
   rw[← h1] at p2
   exact⟨p1,by omega,p3,h1,h2,h3⟩
  have none_of:(∀ b',ZgS s=some b'→False)→ZgS s=none:=by
   intro h
   cases hp:ZgS s with
   | none=>rfl
   | some b'=>exact absurd (h b' hp) id
  cases bad with
  | true=>
   rw[none_of fun b' h=>by cases (hm b' h).2.2.1]
   refine ZcV ?_
   refine Zb Xs Ms Z1 Vb (by show 1≤_;decide) ?_
   simp +contextual -implicitDefEqProofs (maxSteps:=10^7) only[go_sem,seval,↓gZ,Z1,hl',e1]
  | false=>
   by_cases hk:k'=s.length
   ·subst hk
    have e2:=ZfK (Zj.mk o a q t ks)
    cases hT:Xi (Zj.mk o a q t ks) with
    | none=>
     rw[hT,Zj.enc_mk] at e2
     have hz:ZC 255 none<0:=by rw[show ZC 255 none=-1 from rfl];omega
     rw[none_of fun b' h=>by have:=(hm b' h).1;rw[this,Vh] at hT;cases hT]
     refine ZcV ?_
     refine Zb Xs Ms Z1 Vb (by show 1≤_;decide) ?_
     simp +contextual -implicitDefEqProofs (maxSteps:=10^7) only[go_sem,seval,↓gZ,Z1,hl',e1,e2,hz]
    | some b=>
     have hpb:=ZbL hT
     have hb' : ∀ b',ZgS s=some b'→b'=b:=by
      intro b' h
      have:=(hm b' h).1
      rw[this,Vh] at hT
      exact Option.some.inj hT
     rw[hT,Zj.enc_mk] at e2
     rcases Xz 255 b with ⟨hc,hz⟩ | ⟨hc,hz⟩
     ·rw[hz] at e2
      have h0:¬(b.cnt:Int)<0:=by omega
      have e3:=UQ b
      rw[← hpb,Zj.enc_mk] at e3
      cases hcb:Wv b with
      | false=>
       rw[hcb] at e3
       rw[none_of fun b' h=>by have h2:=(hm b' h).2.2.2.2.2;rw[hb' b' h,hcb] at h2;cases h2]
       refine ZcV ?_
       refine Zb Xs Ms Z1 Vb (by show 1≤_;decide) ?_
       simp +contextual -implicitDefEqProofs (maxSteps:=10^7) only[go_sem,seval,↓gZ,Z1,hl',e1,e2,e3,h0]
      | true=>
       rw[hcb] at e3
       have e4:=Uj b hcb (by omega)
       rw[← hpb,Zj.enc_mk] at e4
       by_cases hw:shw b=s
       ·rw[hw] at e4
        have hne:(s != s)=false:=by simp
        rw[ZjU.2 ⟨hl,hw.symm,by omega,hcb⟩]
        refine⟨o,a,q,t,ks,?_,hpb⟩
        refine Zb Xs Ms Z1 Vb (by show 1≤_;decide) ?_
        simp +contextual -implicitDefEqProofs (maxSteps:=10^7) only[go_sem,seval,↓gZ,Z1,hl',e1,e2,e3,e4,h0,hne]
        all_goals rfl
       ·have hne:(shw b==s)=false:=by simp[hw]
        rw[none_of fun b' h=>hw (by have:=(hm b' h).2.2.2.1;rw[hb' b' h] at this;exact this.symm)]
        refine ZcV ?_
        refine Zb Xs Ms Z1 Vb (by show 1≤_;decide) ?_
        simp +contextual -implicitDefEqProofs (maxSteps:=10^7) only[go_sem,seval,↓gZ,Z1,hl',e1,e2,e3,e4,h0,hne]
     ·rw[hz] at e2
      rw[none_of fun b' h=>by have h2:=(hm b' h).2.2.2.2.1;rw[hb' b' h] at h2;omega]
      refine ZcV ?_
      refine Zb Xs Ms Z1 Vb (by show 1≤_;decide) ?_
      simp +contextual -implicitDefEqProofs (maxSteps:=10^7) only[go_sem,seval,↓gZ,Z1,hl',e1,e2]
   ·rw[none_of fun b' h=>hk (hm b' h).2.1]
    have hk' : ¬(k' : Int)=(s.length:Int):=by omega
    refine ZcV ?_
    refine Zb Xs Ms Z1 Vb (by show 1≤_;decide) ?_
    simp +contextual -implicitDefEqProofs (maxSteps:=10^7) only[go_sem,seval,↓gZ,Z1,hl',e1,hk']
 ·have hm:ZgS s=none:=by unfold ZgS;rw[if_neg hl]
  rw[hm]
  have hl' : (1600:Int)<(s.length:Int):=by omega
  refine ZcV ?_
  refine Zb Xs Ms Z1 Vb (by show 1≤_;decide) ?_
  simp +contextual -implicitDefEqProofs (maxSteps:=10^7) only[go_sem,seval,↓gZ,Z1,hl']
theorem Zys (bs:List UInt8) (hb:bs.length≤2000) (p:Nat) (hp:p<1099511627776) (ss:List (List UInt8)) (h1:1≤ss.length):∃ x,x∈ss ∧
  Zh Xs Ms V6 [.ptr 0 0,.d (.sl (ss.map .str))] [.box [.d (.sl (bs.map VM)),(.d (J p))]]=some (.d (.str x),[.box [.d (.sl (bs.map VM)),(.d (J ((p+1:Nat))))]]):=by
 have e1:=Qa bs p (ss.length:Int) hb hp
 have h0:=Va bs p ss.length
 have h2:=ZaK bs p ss.length (by omega)
 obtain⟨v,hv⟩:∃ v:Nat,Qq bs p ss.length=v:=⟨(Qq bs p ss.length).toNat,by omega⟩
 rw[hv] at e1
 obtain⟨x,hx⟩:∃ x,ss[v]?=some x:=⟨_,List.getElem?_eq_getElem (by omega)⟩
 have hv1:(v:Int)<(ss.length:Int):=by omega
 refine⟨x,List.mem_of_getElem? hx,?_⟩
 refine Zb Xs Ms J0 Zrn (by show 2≤_;decide) ?_
 simp +contextual -implicitDefEqProofs (maxSteps:=10^7) only[go_sem,seval,↓gZ,J0,e1,hv1,hx]
theorem ZnV (bs:List UInt8) (hb:bs.length≤2000) (p:Nat) (hp:p<999999999) (s:List UInt8) (hs:s.length≤1000000):∃ (s' : List UInt8) (p' : Nat),s'.length≤s.length+1∧p≤p'∧p'≤p+3 ∧
  Zh Xs Ms Zaz [.ptr 0 0,.d (.str s)] [.box [.d (.sl (bs.map VM)),(.d (J p))]]=some (.d (.str s'),[.box [.d (.sl (bs.map VM)),(.d (J (p')))]]):=by
 have w:IntKind.i64.wrap ((s.length:Int)+1)=((s.length+1:Nat):Int):=Zm (k:=s.length) (by omega)
 have e1:=Qa bs p ((s.length+1:Nat):Int) hb (by omega)
 have h0:=Va bs p ((s.length+1:Nat):Int)
 have h2:=ZaK bs p ((s.length+1:Nat):Int) (by omega)
 obtain⟨v,hv⟩:∃ v:Nat,Qq bs p ((s.length+1:Nat):Int)=v:=⟨(Qq bs p ((s.length+1:Nat):Int)).toNat,by omega⟩
 rw[hv] at e1 h2
 have hv1:(v:Int)≤(s.length:Int):=by omega
 have e2:=Qa bs (p+1) 5 hb (by omega)
 obtain⟨c,hc⟩:∃ c,Qq bs (p+1) 5=c:=⟨_,rfl⟩
 rw[hc] at e2
 have w2:=Zm (k:=v) (by omega)
 by_cases c1:c=0∨c=1
 ·by_cases hlt:(v:Int)<(s.length:Int)
  ·obtain⟨x,hx,e3⟩:=Zys bs hb (p+1+1) (by omega) [[48],[49],[32],[119],[112],[44],[40],[10]] (by decide)
   have hx1:x.length=1:=by
    simp only[List.mem_cons,List.not_mem_nil,or_false] at hx
    rcases hx with h | h | h | h | h | h | h | h<;>rw[h]<;>rfl
   simp only[List.map_cons,List.map_nil] at e3
   have hv2:((v+1:Nat):Int)≤(s.length:Int):=by omega
   have b1:(List.take v s).length+x.length≤1152921504606846976:=by simp;omega
   have b2:(List.take v s).length+x.length+(List.drop (v+1) s).length≤1152921504606846976:=by simp;omega
   have ht:List.take s.length s=s:=List.take_length
   refine⟨s.take v++x++s.drop (v+1),p+3,by simp[hx1];omega,by omega,by omega,?_⟩
   rcases c1 with c1 | c1
   ·refine Zb Xs Ms Q0 Zay (by show 2≤_;decide) ?_
    simp +contextual -implicitDefEqProofs (maxSteps:=10^7) only[go_sem,seval,↓gZ,Q0,w,e1,e2,c1,hlt,hv1,hv2,e3,w2,b1,b2,ht,ZmM,List.nil_append,List.append_nil]
   ·refine Zb Xs Ms Q0 Zay (by show 2≤_;decide) ?_
    simp +contextual -implicitDefEqProofs (maxSteps:=10^7) only[go_sem,seval,↓gZ,Q0,w,e1,e2,c1,hlt,hv1,hv2,e3,w2,b1,b2,ht,ZmM,List.nil_append,List.append_nil]
  ·refine⟨s,p+2,by omega,by omega,by omega,?_⟩
   rcases c1 with c1 | c1
   ·refine Zb Xs Ms Q0 Zay (by show 2≤_;decide) ?_
    simp +contextual -implicitDefEqProofs (maxSteps:=10^7) only[go_sem,seval,↓gZ,Q0,w,e1,e2,c1,hlt]
   ·refine Zb Xs Ms Q0 Zay (by show 2≤_;decide) ?_
    simp +contextual -implicitDefEqProofs (maxSteps:=10^7) only[go_sem,seval,↓gZ,Q0,w,e1,e2,c1,hlt]
 have n0:¬c=0:=fun h=>c1 (.inl h)
 have n1:¬c=1:=fun h=>c1 (.inr h)
 by_cases c2:c=2
 ·refine⟨s.take v,p+2,by simp;omega,by omega,by omega,?_⟩
  refine Zb Xs Ms Q0 Zay (by show 2≤_;decide) ?_
  simp +contextual -implicitDefEqProofs (maxSteps:=10^7) only[go_sem,seval,↓gZ,Q0,w,e1,e2,n0,n1,c2,hv1]
 by_cases c3:c=3
 ·obtain⟨x,hx,e3⟩:=Zys bs hb (p+1+1) (by omega) [[48],[32],[10],[120],[119]] (by decide)
  have hx1:x.length=1:=by
   simp only[List.mem_cons,List.not_mem_nil,or_false] at hx
   rcases hx with h | h | h | h | h<;>rw[h]<;>rfl
  simp only[List.map_cons,List.map_nil] at e3
  have b1:s.length+x.length≤1152921504606846976:=by omega
  refine⟨s++x,p+3,by simp[hx1],by omega,by omega,?_⟩
  refine Zb Xs Ms Q0 Zay (by show 2≤_;decide) ?_
  simp +contextual -implicitDefEqProofs (maxSteps:=10^7) only[go_sem,seval,↓gZ,Q0,w,e1,e2,n0,n1,c2,c3,e3,b1]
 ·refine⟨s,p+2,by omega,by omega,by omega,?_⟩
  refine Zb Xs Ms Q0 Zay (by show 2≤_;decide) ?_
  simp +contextual -implicitDefEqProofs (maxSteps:=10^7) only[go_sem,seval,↓gZ,Q0,w,e1,e2,n0,n1,c2,c3]
theorem ZsE (a b:Bool):ZiC .neq true (AV.d (.bool a)) (.d (.bool b))=WL (some (AV.d (.bool (a != b)))):=by cases a<;>cases b<;>rfl
theorem ZvB (a b:Bool):ZiC .eql true (AV.d (.bool a)) (.d (.bool b))=WL (some (AV.d (.bool (a==b)))):=by cases a<;>cases b<;>rfl
def JJ:List UInt8:=[116,117,114,110,115]
def ZcW:List UInt8:=[102,105,120,101,100]
def ZcB (t:Bool):List UInt8:=if t then JJ else ZcW
def XC (l:Zi):List (List UInt8):=[num l.Count.toNat,num l.Pane.W.toNat,num l.Pane.H.toNat,ZcB l.Pane.Turns,num l.Pane.Kind.toNat]
def ZbY (l:Zi):List UInt8:=Y0 32 (XC l)
def six (n:Int):Prop:=0≤n∧n≤999999
instance (n:Int):Decidable (six n):=by unfold six;infer_instance
def Zqh (l:Zi):Prop:=six l.Count∧six l.Pane.W∧six l.Pane.H∧six l.Pane.Kind
def ZgV:List (List UInt8)→Option Zi
 | [a,b,c,t,k]=>if t=JJ∨t=ZcW then (rd a).bind fun a=>(rd b).bind fun b=>(rd c).bind fun c=>(rd k).bind fun k=>some ⟨⟨b,c,decide (t=JJ),k⟩,a⟩ else none
 | _=>none
theorem Zaw {c:UInt8} (hc:isD c=false) (n:Nat):c∉num n:=fun h=>by rw[ZoA n c h] at hc;cases hc
theorem Zxw (t:Bool):(32:UInt8)∉ZcB t:=by cases t<;>decide
theorem Zqi (t:Bool):ZcB t=JJ∨ZcB t=ZcW:=by cases t<;>simp[ZcB]
theorem Zm6 (t:Bool):decide (ZcB t=JJ)=t:=by cases t<;>decide
theorem ZBy {w:List UInt8} (h:w=JJ∨w=ZcW):ZcB (decide (w=JJ))=w:=by
 rcases h with rfl | rfl
 ·simp[ZcB]
 ·have:¬ZcW=JJ:=by decide
  simp[ZcB,this]
theorem Zqj (l:Zi):∀ w∈XC l,(32:UInt8)∉w:=by
 intro w hw
 simp only[XC,List.mem_cons,List.not_mem_nil,or_false] at hw
 rcases hw with rfl | rfl | rfl | rfl | rfl
 ·exact Zaw rfl _
 ·exact Zaw rfl _
 ·exact Zaw rfl _
 ·exact Zxw _
 ·exact Zaw rfl _
theorem ZhN {l:Zi} (h:Zqh l):ZgV (XC l)=some l:=by
 obtain⟨⟨w,h',t,k⟩,c⟩:=l
 obtain⟨h1,h2,h3,h4⟩:=h
 simp only[six] at h1 h2 h3 h4
 have e1:((c.toNat:Nat):Int)=c:=by omega
 have e2:((w.toNat:Nat):Int)=w:=by omega
 have e3:((h'.toNat:Nat):Int)=h':=by omega
 have e4:((k.toNat:Nat):Int)=k:=by omega
 simp only[XC,ZgV,if_pos (Zqi t),Zet (show c.toNat≤999999 by omega),Zet (show w.toNat≤999999 by omega),Zet (show h'.toNat≤999999 by omega),Zet (show k.toNat≤999999 by omega),Option.bind_some,Zm6,e1,e2,e3,e4]
theorem ZsF {ws:List (List UInt8)} {l:Zi} (h:ZgV ws=some l):ws=XC l∧Zqh l:=by
 unfold ZgV at h
 split at h
 ·rename_i a b c t k
  split at h
  ·rename_i ht
   simp only[Option.bind_eq_some_iff] at h
   obtain⟨n1,h1,n2,h2,n3,h3,n4,h4,h⟩:=h
   cases h
   obtain⟨r1,b1⟩:=Zaj h1
   obtain⟨r2,b2⟩:=Zaj h2
   obtain⟨r3,b3⟩:=Zaj h3
   obtain⟨r4,b4⟩:=Zaj h4
   refine⟨?_,?_,?_,?_,?_⟩
   ·simp only[XC,Int.toNat_natCast,ZBy ht]
    rw[r1,r2,r3,r4]
   all_goals (simp only[six];omega)
  ·cases h
 ·cases h
theorem ZvC {c d:UInt8} (hd:c≠d):∀ {ws:List (List UInt8)},(∀ w∈ws,c∉w)→c∉Y0 d ws
 | [],_=>by simp[Y0]
 | [x],h=>h x (by simp)
 | x :: y :: r,h=>by
  have ih:=ZvC hd (ws:=y :: r) fun w hw=>h w (by simp[hw])
  have hx:=h x (by simp)
  simp only[Y0,List.mem_append,List.mem_cons,not_or]
  exact⟨hx,hd,ih⟩
theorem Zxx (t:Bool):(10:UInt8)∉ZcB t:=by cases t<;>decide
def ZbZ {α:Type} (f:α→List UInt8) (l:List α):List UInt8:=(l.map fun x=>f x++[10]).flatten
theorem Zjc {α:Type} (f:α→List UInt8) (x:α) (l:List α):ZbZ f (x :: l)=f x++10 :: ZbZ f l:=by simp[ZbZ]
theorem ZvD {α:Type} (f:α→List UInt8) (l:List α) (x:α):ZbZ f (l++[x])=ZbZ f l++(f x++[10]):=by simp[ZbZ]
def Zoc (s:List UInt8):Nat:=s.countP fun c=>c==10
theorem Zqk {α:Type} {f:α→List UInt8}:∀ {l:List α},(∀ x∈l,(10:UInt8)∉f x)→Zoc (ZbZ f l)=l.length
 | [],_=>rfl
 | x :: l,h=>by
  have h0:Zoc (f x)=0:=by
   unfold Zoc
   rw[List.countP_eq_zero]
   intro c hc
   have:=h x (by simp)
   simp only[beq_iff_eq]
   intro e;subst e;exact this hc
  have ih:=Zqk (l:=l) (fun y hy=>h y (by simp[hy]))
  rw[Zjc]
  unfold Zoc at h0 ih ⊢
  rw[List.countP_append,h0,List.countP_cons,ih]
  simp
theorem Zyt {c:UInt8}:∀ {a b:List UInt8},c∉a→QK c (a++c :: b)=some a.length
 | [],b,_=>by simp[QK]
 | x :: a,b,h=>by
  simp only[List.mem_cons,not_or] at h
  simp only[List.cons_append,QK,if_neg (fun e=>h.1 (Eq.symm e)),Zyt h.2,Option.map_some,List.length_cons]
def ZzV (c:UInt8) (s:List UInt8):Int:=match QK c s with
 | none=>-1
 | some i=>(i:Int)
theorem ZBz (c:UInt8) (s:List UInt8):Lib.indexByte s c=ZzV c s:=by
 unfold ZzV
 induction s with
 | nil=>rfl
 | cons x r ih=>
  simp only[Lib.indexByte,QK,ih]
  by_cases h:x=c
  ·simp[h]
  ·rw[if_neg h]
   cases QK c r with
   | none=>simp[h]
   | some i=>simp[h]<;>omega
theorem ZgW (c:UInt8) (s:List UInt8):(ZV c s).length=s.count c+1:=by
 induction s with
 | nil=>rfl
 | cons x r ih=>
  simp only[ZV]
  by_cases h:x=c
  ·rw[if_pos h]
   simp[ih,h]
  ·rw[if_neg h]
   cases hs:ZV c r with
   | nil=>exact absurd hs (Ji c r)
   | cons p q=>
    rw[hs] at ih
    simp only[List.length_cons] at ih ⊢
    rw[List.count_cons_of_ne (fun e=>h e)]
    exact ih
theorem Zxy (ws:List (List UInt8)):ZiU (ws.map .str)=some ws:=by
 induction ws with
 | nil=>rfl
 | cons x r ih=>simp only[List.map_cons,ZiU,ih];rfl
theorem Zql (c:UInt8):∀ ws:List (List UInt8),Lib.join ws [c]=Y0 c ws
 | []=>rfl
 | [x]=>Lib.join_one x [c]
 | x :: y :: r=>by
  have ih:=Zql c (y :: r)
  unfold Lib.join at ih ⊢
  simp only[Y0,← ih,List.intercalate,List.intersperse,List.flatten_cons,List.append_assoc,List.singleton_append,List.cons_append,List.nil_append]
theorem Zie (ws:List (List UInt8)) (c:UInt8) (h0:0<ws.length) (h1:ws.length≤1000) (h2:(Y0 c ws).length≤1000000):Zh Xs Ms XX [.d (.sl (ws.map .str)),.d (.str [c])] []=some (.d (.str (Y0 c ws)),[]):=by
 refine Zas Xs Ms Zqz ?_
 unfold ZnO
 simp only
 rw[Zxy]
 simp only[Zf]
 rw[if_pos ⟨h0,by unfold ZcT;omega,by rw[Zql];unfold ZcT;omega⟩,Zql]
theorem ZvE (s:List UInt8) (c:UInt8):Zh Xs Ms ZO [.d (.str s),.d (.str [c])] []=some ((.d (J (ZzV c s))),[]):=by
 refine Zas Xs Ms ZcY ?_
 unfold Zvd
 simp only
 rw[ZBz]
theorem Zm7 (s:List UInt8) (c:UInt8):Zh Xs Ms VJ [.d (.str s),.d (.str [c])] []=some ((.d (J (ZzV c s))),[]):=by
 have e1:=ZvE s c
 refine Zb Xs Ms Ue Zop (by show 2≤_;decide) ?_
 simp +contextual -implicitDefEqProofs (maxSteps:=10^7) only[go_sem,seval,↓gZ,Ue,e1]
theorem Zm8 (s:List UInt8) (c:UInt8):Zh Xs Ms Yc [.d (.str s),.d (.str [c])] []=some ((.d (J ((s.count c:Nat)))),[]):=by
 refine Zas Xs Ms Zoo ?_
 unfold Zve
 simp only[Lib.countByte]
theorem Cut_ev (s:List UInt8) (c:UInt8) (hs:s.length≤1000000):Zh Xs Ms Qw [.d (.str s),.d (.str [c])] []=some (.tup (match QK c s with | none=>[.d (.str s),.d (.str []),(.d (.bool false))] | some i=>[.d (.str (s.take i)),.d (.str (s.drop (i+1))),(.d (.bool true))]),[]):=by
 have e1:=ZvE s c
 unfold ZzV at e1
 cases h:QK c s with
 | none=>
  rw[h] at e1
  refine Zb Xs Ms Qf US (by show 2≤_;decide) ?_
  simp +contextual -implicitDefEqProofs (maxSteps:=10^7) only[go_sem,seval,↓gZ,Qf,e1]
 | some i=>
  obtain⟨_,_,hi⟩:=Wu h
  rw[h] at e1
  simp only at e1
  have w:=Zm (k:=i) (by omega)
  have h1:((i+1:Nat):Int)≤(s.length:Int):=by omega
  have h2:(i:Int)≤(s.length:Int):=by omega
  refine Zb Xs Ms Qf US (by show 2≤_;decide) ?_
  simp +contextual -implicitDefEqProofs (maxSteps:=10^7) only[go_sem,seval,↓gZ,Qf,e1,w,h1,h2,ZmM,List.nil_append,List.append_nil,List.take_length]
theorem Zev (s:List UInt8) (c:UInt8) (hs:s.length≤1000000):Zh Xs Ms Yt [.d (.str s),.d (.str [c])] []=some (.tup (match QK c s with | none=>[.d (.str s),.d (.str []),(.d (.bool false))] | some i=>[.d (.str (s.take i)),.d (.str (s.drop (i+1))),(.d (.bool true))]),[]):=by
 have e1:=Cut_ev s c hs
 cases h:QK c s with
 | none=>
  rw[h] at e1
  refine Zb Xs Ms Wb Zko (by show 2≤_;decide) ?_
  simp +contextual -implicitDefEqProofs (maxSteps:=10^7) only[go_sem,seval,↓gZ,Wb,e1]
 | some i=>
  rw[h] at e1
  refine Zb Xs Ms Wb Zko (by show 2≤_;decide) ?_
  simp +contextual -implicitDefEqProofs (maxSteps:=10^7) only[go_sem,seval,↓gZ,Wb,e1]
theorem Zyu (done:List (List UInt8)) (x y:D) (r:List D):(done.map D.str++x :: r).set done.length y=done.map D.str++y :: r:=by
 have h:=List.set_append_right (s:=done.map D.str) (t:=x :: r) (i:=done.length) y (by simp)
 rw[h];simp
theorem Zyv (done:List (List UInt8)) (x:D) (r:List D):(done.map D.str++x :: r)[done.length]?=some x:=by
 rw[List.getElem?_append_right (by simp)];simp
theorem ZnW (a b:List UInt8):Zg8 (.str a) 0 [.str b]=.str b:=rfl
theorem ZsG (a:List UInt8):(D.str a).notSl=true:=rfl
theorem ZsH (a:List UInt8):(D.str a).cells=[.str a]:=rfl
theorem ZvF (s:List UInt8) (c:UInt8) (hs:s.length≤1000000):Zh Xs Ms Yo [.d (.str s),.d (.str [c]),(.d (J 0)),(.d (J (-1)))] []=some (.ownv 0 0 (ZV c s).length,[.row 1 ((ZV c s).map .str) true false]):=by
 have e1:=Zm8 s c
 have hcl:s.count c≤s.length:=List.count_le_length
 have w1:=Zm (k:=s.count c) (by omega)
 have w2:=Zm (k:=s.length) (by omega)
 have hlen:=ZgW c s
 obtain⟨n,hn⟩:∃ n,s.count c=n:=⟨_,rfl⟩
 rw[hn] at e1 w1 hlen hcl
 have hne:(([c]:List UInt8)==[])=false:=rfl
 have hmin:min ((n+1:Nat):Int) ((s.length+1:Nat):Int)=((n+1:Nat):Int):=by omega
 have w3:IntKind.i64.wrap (((n+1:Nat):Int)-1)=(n:Int):=by rw[show ((n+1:Nat):Int)-1=n by omega];exact wi _ (by omega) (by omega)
 have hm1:((n+1:Nat):Int)*16≤140737488355328∧((n+1:Nat):Int)≤140737488355328:=by omega
 refine Zb Xs Ms Vw Zk4 (by show 4≤_;decide) ?_
 simp +contextual -implicitDefEqProofs (maxSteps:=10^7) only[go_sem,seval,↓gZ,Vw,e1,w1,w2,hne,hmin,w3,hm1]
 refine ZQ Xs Ms (st0:=?st0) (α:=List (List UInt8)×List UInt8) (fun a=>[(10,.d (J (a.1.length:Nat))),(0,.d (.str a.2))]) (fun a=>[(0,.row 1 (a.1.map .str++List.replicate (n+1-a.1.length) (.str [])) true false)]) (fun a=>ZV c s=a.1++ZV c a.2∧a.2.length≤s.length) (fun a=>n-a.1.length) ([],s) ?hc ⟨rfl,Nat.le_refl _⟩ ?h0 ?step
 case hc=>simp +contextual -implicitDefEqProofs (maxSteps:=10^7) only[go_sem,seval,↓gZ]<;>exact rfl
 case h0=>rfl
 case step=>
  intro⟨done,rest⟩ ⟨hp,hr⟩ ih
  simp only at hp hr ih ⊢
  have hl2:=ZgW c rest
  have hl3:=congrArg List.length hp
  rw[hlen,List.length_append,hl2] at hl3
  by_cases hlt:done.length<n
  ·have hlt' : (done.length:Int)<(n:Int):=by omega
   have e2:=Zm7 rest c
   unfold ZzV at e2
   have hrep:List.replicate (n+1-done.length) (D.str [])=D.str [] :: List.replicate (n-done.length) (D.str []):=by rw[show n+1-done.length=(n-done.length)+1 by omega];rfl
   rw[hrep]
   cases hi:QK c rest with
   | none=>
    have:=ZbX (Zi6.1 hi)
    rw[this] at hl2
    simp at hl2
    omega
   | some m=>
    obtain⟨_,_,hm⟩:=Wu hi
    rw[hi] at e2
    simp only at e2
    have w:=Zm (k:=m) (by omega)
    have w':=Zm (k:=done.length) (by omega)
    have w0:=wi (m:Int) (by omega) (by omega)
    have h1:((m+1:Nat):Int)≤(rest.length:Int):=by omega
    have h2:(m:Int)≤(rest.length:Int):=by omega
    have h3:¬(m:Int)<0:=by omega
    have h4:done.length<done.length+(n-done.length+1):=by omega
    have hsp:=ZdQ c rest
    rw[hi] at hsp
    simp only at hsp
    simp +contextual -implicitDefEqProofs (maxSteps:=10^7) only[go_sem,seval,↓gZ,hlt',e2,w,w',w0,h1,h2,h3,h4,Zyu,Zyv,ZnW,ZsG,ZsH,List.length_cons,List.length_nil,Nat.zero_add,and_self,if_true,Zf,Int.add_zero,List.take_length,List.length_replicate]
    refine ih (done++[rest.take m],rest.drop (m+1)) _ ⟨?_,?_⟩ (by simp;omega) ?_
    ·simp only[List.append_assoc,List.singleton_append]
     rw[← hsp];exact hp
    ·simp;omega
    ·have hrep2:n+1-(done.length+1)=n-done.length:=by omega
     simp +contextual -implicitDefEqProofs (maxSteps:=10^7) only[go_sem,seval,↓gZ,List.length_append,List.map_append,List.append_assoc,hrep2]
  ·have hi:done.length=n:=by omega
   have hr1:ZV c rest=[rest]:=by
    cases hi2:QK c rest with
    | none=>exact ZbX (Zi6.1 hi2)
    | some m=>
     obtain⟨h1,_,hm⟩:=Wu hi2
     have:c∈rest:=by rw[h1];simp
     have:=List.count_pos_iff.2 this
     omega
   rw[hr1] at hp
   subst hi
   have w':=Zm (k:=done.length) (by omega)
   have hrep:done.length+1-done.length=1:=by omega
   have h5:done.length<done.length+1:=by omega
   have h6:((done.length+1:Nat):Int)≤((done.length+1:Nat):Int):=Int.le_refl _
   simp +contextual -implicitDefEqProofs (maxSteps:=10^7) only[go_sem,seval,↓gZ,hrep,w',h5,h6,List.replicate_one,Zyu,Zyv,ZnW,ZsG,ZsH,List.length_cons,List.length_nil,Nat.zero_add,and_self,if_true,Zf]
   rw[hp]
   simp
theorem ZgX (s:List UInt8) (c:UInt8) (hs:s.length≤1000000):Zh Xs Ms YX [.d (.str s),.d (.str [c])] []=some (.ownv 0 0 (ZV c s).length,[.row 1 ((ZV c s).map .str) true false]):=by
 have e1:=ZvF s c hs
 refine Zb Xs Ms Uc Zol (by show 2≤_;decide) ?_
 simp +contextual -implicitDefEqProofs (maxSteps:=10^7) only[go_sem,seval,↓gZ,Uc,e1]
def Vn:List (List UInt8)→Option (List Int)
 | []=>some []
 | w :: r=>(rd w).bind fun v=>(Vn r).bind fun vs=>some ((v:Int) :: vs)
def rnV (o:Option (List Int)):AV×List Zo:=match o with
 | none=>(.tup [.own 0,(.d (.bool false))],[.row 1 [] true false])
 | some vs=>(.tup [.own 0,(.d (.bool true))],[.row 1 (vs.map YL) true false])
theorem ZvG {ws:List (List UInt8)} {k:Nat} {x:List UInt8} (hx:ws[k]?=some x):Vn (ws.drop k)=(rd x).bind fun v=>(Vn (ws.drop (k+1))).bind fun vs=>some ((v:Int) :: vs):=by
 obtain⟨h1,h2⟩:=List.getElem?_eq_some_iff.1 hx
 rw[List.drop_eq_getElem_cons h1,h2,Vn]
theorem ZgY (ws:List (List UInt8)) (hw:ws.length≤2000000):Zh Xs Ms YW [.d (.sl (ws.map .str))] []=some (rnV (Vn ws)):=by
 refine Zb Xs Ms Ub Zok (by show 1≤_;decide) ?_
 simp +contextual -implicitDefEqProofs (maxSteps:=10^7) only[go_sem,seval,↓gZ,Ub]
 refine ZQ Xs Ms (st0:=?st0) (α:=Nat×List Int) (fun a=>[(11,.d (J (a.1:Int)))]) (fun a=>[(0,.row 1 (a.2.map YL) true false)]) (fun a=>a.1≤ws.length∧a.2.length≤a.1∧Vn ws=(Vn (ws.drop a.1)).map fun r=>a.2++r) (fun a=>ws.length-a.1) (0,[]) ?hc ⟨by simp,by simp,by simp⟩ ?h0 ?step
 case hc=>simp +contextual -implicitDefEqProofs (maxSteps:=10^7) only[go_sem,seval,↓gZ]<;>exact rfl
 case h0=>rfl
 case step=>
  intro⟨k,vs⟩ ⟨hk,hv,hp⟩ ih
  simp only at hk hv hp ih ⊢
  by_cases hlt:k<ws.length
  ·obtain⟨x,hx⟩:=ZU hlt
   have hlt' : (k:Int)<(ws.length:Int):=by omega
   have w:=Zm (k:=k) (by omega)
   have e1:=Zal x
   rw[ZvG hx] at hp
   have hroom:(vs.length+1)*8≤140737488355328∧vs.length+1≤140737488355328:=by omega
   have hxe:(ws.map D.str)[k]?=some (.str x):=by rw[List.getElem?_map,hx];rfl
   cases hr:rd x with
   | none=>
    rw[hr] at e1 hp
    simp only[ZhL] at e1
    simp only[Option.bind_none,Option.map_none] at hp
    rw[hp]
    simp +contextual -implicitDefEqProofs (maxSteps:=10^7) only[go_sem,seval,↓gZ,hlt',hlt,hxe,hx,w,e1,rnV]
   | some v=>
    rw[hr] at e1 hp
    simp only[ZhL] at e1
    simp +contextual -implicitDefEqProofs (maxSteps:=10^7) only[go_sem,seval,↓gZ,hlt',hlt,hxe,hx,w,e1,hroom]
    refine ih (k+1,vs++[(v:Int)]) _ ⟨by omega,by simp;omega,?_⟩ (by omega) ?_
    ·rw[hp]
     cases Vn (ws.drop (k+1))<;>simp
    ·simp +contextual -implicitDefEqProofs (maxSteps:=10^7) only[go_sem,seval,↓gZ,YL,List.map_append,List.map_cons,List.map_nil]
  ·have:k=ws.length:=by omega
   subst this
   simp only[List.drop_length,Vn,Option.map_some,List.append_nil] at hp
   rw[hp]
   simp +contextual -implicitDefEqProofs (maxSteps:=10^7) only[go_sem,seval,↓gZ,rnV]
def rlV (o:Option Zi):AV:=match o with
 | none=>.tup [.d (.agg [J 0,J 0,.bool false,J 0,J 0]),(.d (.bool false))]
 | some l=>.tup [.d l.enc,(.d (.bool true))]
theorem Zrc (s:List UInt8) (hs:s.length≤1000000):Zh Xs Ms WQ [.d (.str s)] []=some (rlV (ZgV (ZV 32 s)),[]):=by
 have e1:=ZgX s 32 hs
 generalize ZV 32 s=ws at e1
 by_cases h5:ws.length=5
 ·obtain⟨a,b,c,t,k,rfl⟩:∃ a b c t k,ws=[a,b,c,t,k]:=by
   match ws,h5 with
   | [a,b,c,t,k],_=>exact⟨a,b,c,t,k,rfl⟩
  simp only[List.map_cons,List.map_nil,List.length_cons,List.length_nil,Nat.zero_add,Nat.reduceAdd] at e1
  have key:∀ tb:Bool,t=ZcB tb→Zh Xs Ms WQ [.d (.str s)] []=some (rlV (ZgV [a,b,c,t,k]),[]):=by
   intro tb ht
   have e2:=ZgY [a,b,c,k] (by simp)
   simp only[List.map_cons,List.map_nil] at e2
   have hor:=Zqi tb
   rw[← ht] at hor
   have hdec:=Zm6 tb
   rw[← ht] at hdec
   have hrl:ZgV [a,b,c,t,k]=match Vn [a,b,c,k] with
     | some [a,b,c,k]=>some ⟨⟨b,c,tb,k⟩,a⟩
     | _=>none:=by
    simp only[ZgV,if_pos hor,Vn,hdec]
    cases rd a<;>cases rd b<;>cases rd c<;>cases rd k<;>rfl
   rw[hrl]
   have h4:∀ vs,Vn [a,b,c,k]=some vs→∃ x y z u:Int,vs=[x,y,z,u]:=by
    intro vs h
    simp only[Vn,Option.bind_eq_some_iff,Option.some.injEq] at h
    obtain⟨x,_,_,⟨y,_,_,⟨z,_,_,⟨u,_,_,h1,rfl⟩,rfl⟩,rfl⟩,rfl⟩:=h
    subst h1
    exact⟨_,_,_,_,rfl⟩
   have q1:(t==[116,117,114,110,115])=tb:=by
    rw[ht];cases tb<;>rfl
   have q2:(t==[102,105,120,101,100])=!tb:=by
    rw[ht];cases tb<;>rfl
   cases hr:Vn [a,b,c,k] with
   | none=>
    rw[hr] at e2
    simp only[rnV] at e2
    refine Zb Xs Ms Xb ZdJ (by show 1≤_;decide) ?_
    cases tb with
    | true=>simp +contextual -implicitDefEqProofs (maxSteps:=10^7) only[go_sem,seval,↓gZ,Xb,e1,e2,q1,q2,rlV,Bool.not_true]
    | false=>simp +contextual -implicitDefEqProofs (maxSteps:=10^7) only[go_sem,seval,↓gZ,Xb,e1,e2,q1,q2,rlV,Bool.not_false]
   | some vs=>
    obtain⟨x,y,z,u,rfl⟩:=h4 vs hr
    rw[hr] at e2
    simp only[rnV,List.map_cons,List.map_nil,YL] at e2
    refine Zb Xs Ms Xb ZdJ (by show 1≤_;decide) ?_
    cases tb with
    | true=>simp +contextual -implicitDefEqProofs (maxSteps:=10^7) only[go_sem,seval,↓gZ,Xb,e1,e2,q1,q2,rlV,Bool.not_true,Zi.enc]
    | false=>simp +contextual -implicitDefEqProofs (maxSteps:=10^7) only[go_sem,seval,↓gZ,Xb,e1,e2,q1,q2,rlV,Bool.not_false,Zi.enc]
  by_cases t1:t=JJ
  ·exact key true t1
  by_cases t2:t=ZcW
  ·exact key false t2
  ·have hno:ZgV [a,b,c,t,k]=none:=by
    simp only[ZgV];rw[if_neg (fun h=>h.elim t1 t2)]
   rw[hno]
   have q1:(t==[116,117,114,110,115])=false:=by simpa [JJ] using t1
   have q2:(t==[102,105,120,101,100])=false:=by simpa [ZcW] using t2
   refine Zb Xs Ms Xb ZdJ (by show 1≤_;decide) ?_
   simp +contextual -implicitDefEqProofs (maxSteps:=10^7) only[go_sem,seval,↓gZ,Xb,e1,q1,q2,rlV]
 ·have hno:ZgV ws=none:=by
   unfold ZgV
   split
   ·exact absurd rfl h5
   ·rfl
  rw[hno]
  have h5' : ¬(ws.length:Int)=5:=by omega
  refine Zb Xs Ms Xb ZdJ (by show 1≤_;decide) ?_
  simp +contextual -implicitDefEqProofs (maxSteps:=10^7) only[go_sem,seval,↓gZ,Xb,e1,h5',rlV]
theorem Zfp (l:Zi) (h:Zqh l):(Y0 32 (XC l)).length≤40:=by
 obtain⟨⟨w,h',t,k⟩,c⟩:=l
 obtain⟨h1,h2,h3,h4⟩:=h
 simp only[six] at h1 h2 h3 h4
 have l1:=VA 5 c.toNat (by omega)
 have l2:=VA 5 w.toNat (by omega)
 have l3:=VA 5 h'.toNat (by omega)
 have l4:=VA 5 k.toNat (by omega)
 have l5:(ZcB t).length=5:=by cases t<;>rfl
 simp only[XC,Y0,List.length_append,List.length_cons]
 omega
theorem Zrd (lW lH:Int) (lT:Bool) (lK lC:Int) (h:Zqh (Zi.mk (Pane.mk lW lH lT lK) lC)):Zh Xs Ms WP [(.d (.agg [J lW,J lH,.bool lT,J lK,J lC]))] []=some (.d (.str (ZbY (Zi.mk (Pane.mk lW lH lT lK) lC))),[]):=by
 have hw:=Zfp (Zi.mk (Pane.mk lW lH lT lK) lC) h
 obtain⟨h1,h2,h3,h4⟩:=h
 simp only[six] at h1 h2 h3 h4
 have e1:=YS lC h1.1 (by omega)
 have e2:=YS lW h2.1 (by omega)
 have e3:=YS lH h3.1 (by omega)
 have e4:=YS lK h4.1 (by omega)
 have e5:=Zie (XC (Zi.mk (Pane.mk lW lH lT lK) lC)) 32 (by simp[XC]) (by simp[XC]) (by omega)
 simp only[XC,List.map_cons,List.map_nil] at e5
 unfold ZbY
 simp only[XC]
 refine Zb Xs Ms JC ZtS (by show 1≤_;decide) ?_
 cases lT with
 | true=>
  simp only[ZcB,JJ,if_true] at e5 ⊢
  simp +contextual -implicitDefEqProofs (maxSteps:=10^7) only[go_sem,seval,↓gZ,JC,e1,e2,e3,e4,e5]
 | false=>
  simp only[ZcB,ZcW,Bool.false_eq_true,if_false] at e5 ⊢
  simp +contextual -implicitDefEqProofs (maxSteps:=10^7) only[go_sem,seval,↓gZ,JC,e1,e2,e3,e4,e5]
theorem Zre (lW lH:Int) (lT:Bool) (lK lC:Int) (h:Zqh (Zi.mk (Pane.mk lW lH lT lK) lC)):Zh Xs Ms Jq [(.d (.agg [J lW,J lH,.bool lT,J lK,J lC]))] []=some (.d (.str (ZbY (Zi.mk (Pane.mk lW lH lT lK) lC))),[]):=by
 have hw:=Zfp (Zi.mk (Pane.mk lW lH lT lK) lC) h
 obtain⟨h1,h2,h3,h4⟩:=h
 simp only[six] at h1 h2 h3 h4
 have e1:=WH lC.toNat (by omega)
 have e2:=WH lW.toNat (by omega)
 have e3:=WH lH.toNat (by omega)
 have e4:=WH lK.toNat (by omega)
 rw[Int.toNat_of_nonneg (by omega)] at e1 e2 e3 e4
 have l1:=VA 5 lC.toNat (by omega)
 have l2:=VA 5 lW.toNat (by omega)
 have l3:=VA 5 lH.toNat (by omega)
 have l4:=VA 5 lK.toNat (by omega)
 unfold ZbY
 simp only[XC,Y0]
 generalize num lC.toNat=a at *
 generalize num lW.toNat=b at *
 generalize num lH.toNat=c at *
 generalize num lK.toNat=d at *
 have b1:a.length+1≤1152921504606846976:=by omega
 have b2:a.length+1+b.length≤1152921504606846976:=by omega
 have b3:a.length+1+b.length+1≤1152921504606846976:=by omega
 have b4:a.length+1+b.length+1+c.length≤1152921504606846976:=by omega
 have b5:a.length+1+b.length+1+c.length+1≤1152921504606846976:=by omega
 have b6:a.length+1+b.length+1+c.length+1+5≤1152921504606846976:=by omega
 have b7:a.length+1+b.length+1+c.length+1+5+1≤1152921504606846976:=by omega
 have b8:a.length+1+b.length+1+c.length+1+5+1+d.length≤1152921504606846976:=by omega
 refine Zb Xs Ms JD ZtU (by show 1≤_;decide) ?_
 cases lT with
 | true=>
  simp only[ZcB,JJ,if_true]
  simp +contextual -implicitDefEqProofs (maxSteps:=10^7) only[go_sem,seval,↓gZ,JD,e1,e2,e3,e4,b1,b2,b3,b4,b5,b6,b7,b8]
  simp only[List.append_assoc,List.cons_append,List.nil_append]
 | false=>
  simp only[ZcB,ZcW,Bool.false_eq_true,if_false]
  simp +contextual -implicitDefEqProofs (maxSteps:=10^7) only[go_sem,seval,↓gZ,JD,e1,e2,e3,e4,b1,b2,b3,b4,b5,b6,b7,b8]
  simp only[List.append_assoc,List.cons_append,List.nil_append]
theorem ZzW {s:List UInt8} {k:Nat} {c:UInt8} (hc:s[k]?=some c):Zoc (s.take (k+1))=Zoc (s.take k)+(if c=10 then 1 else 0):=by
 rw[List.take_add_one,hc]
 unfold Zoc
 rw[List.countP_append]
 simp only[Option.toList_some,List.countP_cons,List.countP_nil,Nat.zero_add,beq_iff_eq]
theorem Zrf (s:List UInt8) (hs:s.length≤1000000):Zh Xs Ms Jn [.d (.str s)] []=some ((.d (J (Zoc s))),[]):=by
 refine Zb Xs Ms Zbg ZtQ (by show 1≤_;decide) ?_
 simp +contextual -implicitDefEqProofs (maxSteps:=10^7) only[go_sem,seval,↓gZ,Zbg]
 refine ZQ Xs Ms (st0:=?st0) (α:=Nat) (fun k=>[(4,.d (J (k:Int))),(3,.d (J (Zoc (s.take k):Nat)))]) (fun _=>[]) (fun k=>k≤s.length) (fun k=>s.length-k) 0 ?hc (by omega) ?h0 ?step
 case hc=>simp +contextual -implicitDefEqProofs (maxSteps:=10^7) only[go_sem,seval,↓gZ]<;>exact rfl
 case h0=>rfl
 case step=>
  intro k hk ih
  by_cases hlt:k<s.length
  ·obtain⟨c,hc⟩:∃ c,s[k]?=some c:=⟨_,List.getElem?_eq_getElem hlt⟩
   have hlt' : (k:Int)<(s.length:Int):=by omega
   have w:=Zm (k:=k) (by omega)
   have ht:=ZzW hc
   have hle:Zoc (s.take k)≤1000000:=Nat.le_trans List.countP_le_length (by simp;omega)
   have w2:=Zm (k:=Zoc (s.take k)) (by omega)
   by_cases h10:c=10
   ·rw[if_pos h10] at ht
    have hn:(c.toNat:Int)=10:=(Ze8 c 10 rfl).2 h10
    simp +contextual -implicitDefEqProofs (maxSteps:=10^7) only[go_sem,seval,↓gZ,hlt',hlt,hc,w,w2,hn]
    refine ih (k+1) _ (by omega) (by omega) ?_
    simp +contextual -implicitDefEqProofs (maxSteps:=10^7) only[go_sem,seval,↓gZ,ht]
   ·rw[if_neg h10] at ht
    have hn:¬(c.toNat:Int)=10:=fun h=>h10 ((Ze8 c 10 rfl).1 h)
    simp +contextual -implicitDefEqProofs (maxSteps:=10^7) only[go_sem,seval,↓gZ,hlt',hlt,hc,w,hn]
    refine ih (k+1) _ (by omega) (by omega) ?_
    simp +contextual -implicitDefEqProofs (maxSteps:=10^7) only[go_sem,seval,↓gZ,ht,Nat.add_zero]
  ·have:k=s.length:=by omega
   subst this
   simp +contextual -implicitDefEqProofs (maxSteps:=10^7) only[go_sem,seval,↓gZ,List.take_length]
theorem Zxz {c:UInt8} {s:List UInt8} {f k:Nat} (hf:f≤k) (hk:k≤s.length) (hno:c∉(s.take k).drop f) :
  (∀ x,s[k]?=some x→x=c→ZV c (s.drop f)=(s.take k).drop f :: ZV c (s.drop (k+1)))∧(k=s.length→ZV c (s.drop f)=[(s.take k).drop f]):=by
 constructor
 ·intro x hx hc
  obtain⟨h1,h2⟩:=List.getElem?_eq_some_iff.1 hx
  have e:s.drop f=(s.take k).drop f++c :: s.drop (k+1):=by
   have:s=s.take k++x :: s.drop (k+1):=by
    rw[← h2,← List.drop_eq_getElem_cons h1,List.take_append_drop]
   conv=>lhs;rw[this]
   rw[List.drop_append_of_le_length (by simp;omega),hc]
  rw[e,ZjS hno]
 ·intro hks
  subst hks
  rw[List.take_length] at hno ⊢
  exact ZbX hno
theorem Zqm {s:List UInt8} {f k:Nat} {x:UInt8} (hf:f≤k) (hx:s[k]?=some x):(s.take (k+1)).drop f=(s.take k).drop f++[x]:=by
 obtain⟨h1,h2⟩:=List.getElem?_eq_some_iff.1 hx
 rw[List.take_add_one,hx,Option.toList_some,List.drop_append_of_le_length (by simp;omega)]
theorem Zma (s:List UInt8) (c:UInt8) (n:Int) (hn:(c.toNat:Int)=n) (hs:s.length≤1000000):Zh Xs Ms UU [.d (.str s),.d (.int .u8 n)] []=some (.own 0,[.row 1 ((ZV c s).map .str) true false]):=by
 refine Zb Xs Ms ZcJ ZvX (by show 2≤_;decide) ?_
 simp +contextual -implicitDefEqProofs (maxSteps:=10^7) only[go_sem,seval,↓gZ,ZcJ]
 refine ZQ Xs Ms (st0:=?st0) (α:=Nat×Nat×List (List UInt8)) (fun a=>[(7,.d (J (a.1:Int))),(6,.d (J (a.2.1:Int)))]) (fun a=>[(0,.row 1 (a.2.2.map .str) true false)]) (fun a=>a.2.1≤a.1∧a.1≤s.length∧a.2.2.length≤a.1∧c∉(s.take a.1).drop a.2.1∧ZV c s=a.2.2++ZV c (s.drop a.2.1)) (fun a=>s.length-a.1) (0,0,[]) ?hc ⟨by simp,by simp,by simp,by simp,by simp⟩ ?h0 ?step
 case hc=>simp +contextual -implicitDefEqProofs (maxSteps:=10^7) only[go_sem,seval,↓gZ]<;>exact rfl
 case h0=>rfl
 case step=>
  intro⟨k,f,out⟩ ⟨hf,hk,ho,hno,hp⟩ ih
  simp only at hf hk ho hno hp ih ⊢
  have hroom:(out.length+1)*16≤140737488355328∧out.length+1≤140737488355328:=by omega
  obtain⟨s1,s2⟩:=Zxz hf hk hno
  have b1:(f:Int)≤(k:Int):=by omega
  have b2:(k:Int)≤(s.length:Int):=by omega
  have b3:(f:Int)≤(s.length:Int):=by omega
  by_cases hlt:k<s.length
  ·obtain⟨x,hx⟩:∃ x,s[k]?=some x:=⟨_,List.getElem?_eq_getElem hlt⟩
   have hlt' : (k:Int)<(s.length:Int):=by omega
   have w:=Zm (k:=k) (by omega)
   by_cases he:x=c
   ·have hxn:(x.toNat:Int)=n:=by rw[he,hn]
    have s1:=s1 x hx he
    simp +contextual -implicitDefEqProofs (maxSteps:=10^7) only[go_sem,seval,↓gZ,hlt',hlt,hx,w,hxn,b1,b2,hroom]
    refine ih (k+1,k+1,out++[(s.take k).drop f]) _ ⟨by simp,by simp only;omega,by simp;omega,by simp,?_⟩ (by simp only;omega) ?_
    ·simp only[List.append_assoc,List.singleton_append]
     rw[hp,s1]
    ·simp +contextual -implicitDefEqProofs (maxSteps:=10^7) only[go_sem,seval,↓gZ,List.map_append,List.map_cons,List.map_nil]
   ·have hxn:¬(x.toNat:Int)=n:=by
     intro h
     rw[← hn] at h
     exact he (UInt8.toNat_inj.1 (by omega))
    simp +contextual -implicitDefEqProofs (maxSteps:=10^7) only[go_sem,seval,↓gZ,hlt',hlt,hx,w,hxn]
    refine ih (k+1,f,out) _ ⟨by simp only;omega,by simp only;omega,by simp only;omega,?_,hp⟩ (by simp only;omega) ?_
    ·simp only
     rw[Zqm hf hx]
     simp only[List.mem_append,List.mem_singleton,not_or]
     exact⟨hno,fun e=>he e.symm⟩
    ·simp +contextual -implicitDefEqProofs (maxSteps:=10^7) only[go_sem,seval,↓gZ]
  ·have hks:k=s.length:=by omega
   have s2:=s2 hks
   subst hks
   rw[List.take_length] at s2
   rw[s2] at hp
   rw[hp]
   simp +contextual -implicitDefEqProofs (maxSteps:=10^7) only[go_sem,seval,↓gZ,b3,hroom,List.take_length,List.map_append,List.map_cons,List.map_nil]
def lnS (ws:List (List UInt8)):Option Zi:=match ws with
 | [a,b,c,t,k]=>if t=JJ∨t=ZcW then some ⟨⟨ZdI b,ZdI c,decide (t=JJ),ZdI k⟩,ZdI a⟩ else none
 | _=>none
theorem Zrg (ws:List (List UInt8)) (hw:∀ w∈ws,w.length≤1000000):Zh Xs Ms WS [.d (.sl (ws.map .str))] []=some (rlV (lnS ws),[]):=by
 by_cases h5:ws.length=5
 ·obtain⟨a,b,c,t,k,rfl⟩:∃ a b c t k,ws=[a,b,c,t,k]:=by
   match ws,h5 with
   | [a,b,c,t,k],_=>exact⟨a,b,c,t,k,rfl⟩
  have ea:=YT a (hw a (by simp))
  have eb:=YT b (hw b (by simp))
  have ec:=YT c (hw c (by simp))
  have ek:=YT k (hw k (by simp))
  simp only[List.map_cons,List.map_nil]
  have key:∀ tb:Bool,t=ZcB tb→Zh Xs Ms WS [.d (.sl [.str a,.str b,.str c,.str t,.str k])] []=some (rlV (lnS [a,b,c,t,k]),[]):=by
   intro tb ht
   have hor:=Zqi tb
   rw[← ht] at hor
   have hdec:=Zm6 tb
   rw[← ht] at hdec
   have q1:(t==[116,117,114,110,115])=tb:=by
    rw[ht];cases tb<;>rfl
   have q2:(t==[102,105,120,101,100])=!tb:=by
    rw[ht];cases tb<;>rfl
   simp only[lnS,if_pos hor,hdec]
   refine Zb Xs Ms Yz ZhS (by show 1≤_;decide) ?_
   cases tb with
   | true=>simp +contextual -implicitDefEqProofs (maxSteps:=10^7) only[go_sem,seval,↓gZ,Yz,ea,eb,ec,ek,q1,q2,rlV,Bool.not_true,Zi.enc]
   | false=>simp +contextual -implicitDefEqProofs (maxSteps:=10^7) only[go_sem,seval,↓gZ,Yz,ea,eb,ec,ek,q1,q2,rlV,Bool.not_false,Zi.enc]
  by_cases t1:t=JJ
  ·exact key true t1
  by_cases t2:t=ZcW
  ·exact key false t2
  ·have hno:lnS [a,b,c,t,k]=none:=by
    simp only[lnS];rw[if_neg (fun h=>h.elim t1 t2)]
   rw[hno]
   have q1:(t==[116,117,114,110,115])=false:=by simpa [JJ] using t1
   have q2:(t==[102,105,120,101,100])=false:=by simpa [ZcW] using t2
   refine Zb Xs Ms Yz ZhS (by show 1≤_;decide) ?_
   simp +contextual -implicitDefEqProofs (maxSteps:=10^7) only[go_sem,seval,↓gZ,Yz,q1,q2,rlV]
 ·have hno:lnS ws=none:=by
   unfold lnS
   split
   ·exact absurd rfl h5
   ·rfl
  rw[hno]
  have h5' : ¬(ws.length:Int)=5:=by omega
  refine Zb Xs Ms Yz ZhS (by show 1≤_;decide) ?_
  simp +contextual -implicitDefEqProofs (maxSteps:=10^7) only[go_sem,seval,↓gZ,Yz,h5',rlV]
theorem ZkX (c:UInt8):∀ s:List UInt8,∀ w∈ZV c s,w.length≤s.length
 | [],w,h=>by simp only[ZV,List.mem_singleton] at h;rw[h];simp
 | x :: r,w,h=>by
  have ih:=ZkX c r
  simp only[ZV] at h
  by_cases hx:x=c
  ·rw[if_pos hx] at h
   rcases List.mem_cons.1 h with rfl | h
   ·simp
   ·have:=ih w h;simp;omega
  ·rw[if_neg hx] at h
   cases hs:ZV c r with
   | nil=>exact absurd hs (Ji c r)
   | cons p q=>
    rw[hs] at h ih
    simp only at h
    rcases List.mem_cons.1 h with rfl | h
    ·have:=ih p (by simp);simp;omega
    ·have:=ih w (by simp[h]);simp;omega
theorem ZvH {ws:List (List UInt8)} {x:Zi} (h:ZgV ws=some x):lnS ws=some x:=by
 unfold ZgV at h
 split at h
 ·rename_i a b c t k
  split at h
  ·rename_i ht
   simp only[Option.bind_eq_some_iff] at h
   obtain⟨n1,h1,n2,h2,n3,h3,n4,h4,h⟩:=h
   cases h
   simp only[lnS,if_pos ht,ZcA h1,ZcA h2,ZcA h3,ZcA h4]
  ·cases h
 ·cases h
end Go.Proofs.YtkdjbefmiiibpaaGreatDoor
