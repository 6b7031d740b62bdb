/- Contracts of the functions,by the abstract semantics. -/
import Derived.Test.YtkdjbefmiiibpaaGreatDoorBCode
import Derived.Test.YtkdjbefmiiibpaaGreatDoorAbsParts
import Derived.Test.YtkdjbefmiiibpaaGreatDoorBC4
namespace Go.Proofs.YtkdjbefmiiibpaaGreatDoor
open Go Go.Abs Go.Abs.E Go.Abs.L
open Nat (reduceMul reduceSub reduceLeDiff reduceEqDiff)
open Int (reduceLE reduceEq reduceToNat reduceNeg)
set_option linter.unusedSimpArgs false
set_option linter.unusedVariables false
set_option maxRecDepth 20000
set_option maxHeartbeats 4000000
def num (n:Nat):List UInt8:=if n<10 then [UInt8.ofNat (48+n)] else num (n / 10)++[UInt8.ofNat (48+n % 10)]
termination_by n
decreasing_by omega
def isD (c:UInt8):Bool:=decide (48≤c.toNat∧c.toNat≤57)
def val (s:List UInt8):Nat:=s.foldl (fun n c=>10*n+(c.toNat-48)) 0
theorem Zl6 (s:List UInt8) (c:UInt8):val (s++[c])=10*val s+(c.toNat-48):=by simp[val]
theorem ZgR {n:Nat} (h:n<10):(UInt8.ofNat (48+n)).toNat=48+n:=by
 rw[UInt8.toNat_ofNat'];omega
theorem ZBp {c:UInt8} (h:isD c=true):UInt8.ofNat (48+(c.toNat-48))=c:=by
 simp only[isD,decide_eq_true_eq] at h
 apply UInt8.toNat_inj.1
 rw[UInt8.toNat_ofNat']
 omega
theorem Ui {n:Nat} (h:n<10):num n=[UInt8.ofNat (48+n)]:=by rw[num,if_pos h]
theorem ZhJ {n:Nat} (h:¬n<10):num n=num (n / 10)++[UInt8.ofNat (48+n % 10)]:=by rw[num,if_neg h]
theorem Zxp:∀ n:Nat,num n≠[]:=fun n=>by
 by_cases h:n<10
 ·rw[Ui h];simp
 ·rw[ZhJ h];simp
theorem ZoA (n:Nat):∀ c∈num n,isD c=true:=by
 induction n using Nat.strongRecOn with
 | ind n ih=>
  intro c hc
  by_cases h:n<10
  ·rw[Ui h] at hc
   rw[List.mem_singleton] at hc;subst hc
   have:=ZgR h
   simp only[isD,decide_eq_true_eq];omega
  ·rw[ZhJ h] at hc
   rcases List.mem_append.1 hc with hc | hc
   ·exact ih (n / 10) (by omega) c hc
   ·rw[List.mem_singleton] at hc;subst hc
    have:=ZgR (n:=n % 10) (by omega)
    simp only[isD,decide_eq_true_eq];omega
theorem ZtH (n:Nat):val (num n)=n:=by
 induction n using Nat.strongRecOn with
 | ind n ih=>
  by_cases h:n<10
  ·rw[Ui h]
   have:=ZgR h
   simp only[val,List.foldl_cons,List.foldl_nil];omega
  ·rw[ZhJ h,Zl6,ih (n / 10) (by omega),ZgR (by omega)];omega
theorem ZBq {n:Nat} (h:0<n):(num n).head?≠some 48:=by
 induction n using Nat.strongRecOn with
 | ind n ih=>
  by_cases h1:n<10
  ·rw[Ui h1]
   simp only[List.head?_cons,ne_eq,Option.some.injEq]
   intro e
   have:=ZgR h1
   rw[e] at this
   have e48:(48:UInt8).toNat=48:=rfl
   omega
  ·rw[ZhJ h1]
   have:=ih (n / 10) (by omega) (by omega)
   cases hn:num (n / 10) with
   | nil=>exact absurd hn (Zxp _)
   | cons a r=>rw[hn] at this;simpa using this
theorem VA:∀ (k n:Nat),n<10 ^ (k+1)→(num n).length≤k+1
 | 0,n,h=>by rw[Ui (by simpa using h)];simp
 | k+1,n,h=>by
  by_cases h1:n<10
  ·rw[Ui h1];simp
  ·rw[ZhJ h1]
   have:=VA k (n / 10) (Nat.div_lt_of_lt_mul (by rw[Nat.pow_succ,Nat.mul_comm] at h;exact h))
   simp;omega
theorem ZDi:∀ (s:List UInt8),(∀ c∈s,isD c=true)→s≠[]→s.head?≠some 48→0<val s:=by
 intro s
 have key:∀ (l:List UInt8) (n:Nat),0<n→0<l.foldl (fun n (c:UInt8)=>10*n+(c.toNat-48)) n:=by
  intro l
  induction l with
  | nil=>intro n h;exact h
  | cons c l ih=>intro n h;exact ih (10*n+(c.toNat-48)) (by omega)
 cases s with
 | nil=>intro _ h;exact absurd rfl h
 | cons c l=>
  intro hd _ hh
  refine key l _ ?_
  have h1:=hd c (by simp)
  simp only[isD,decide_eq_true_eq] at h1
  have h2:c.toNat≠48:=fun e=>hh (by
   have:c=48:=UInt8.toNat_inj.1 e
   simp[this])
  show 0<10*0+(c.toNat-48)
  omega
theorem Zqb {α:Type} (s:List α):s=[]∨∃ t c,s=t++[c]:=by
 rcases List.eq_nil_or_concat s with h | ⟨t,c,h⟩
 ·exact .inl h
 ·exact .inr ⟨t,c,by simpa using h⟩
theorem Zyo:∀ (k:Nat) (s:List UInt8),s.length≤k→(∀ c∈s,isD c=true)→s≠[]→(s.head?≠some 48∨s.length=1)→num (val s)=s
 | 0,s,hk,_,hn,_=>absurd (List.eq_nil_of_length_eq_zero (by omega)) hn
 | k+1,s,hk,hd,hn,hh=>by
  rcases Zqb s with h | ⟨t,c,rfl⟩
  ·exact absurd h hn
  ·rw[Zl6]
   have hc:=hd c (by simp)
   have hc':=hc
   simp only[isD,decide_eq_true_eq] at hc'
   by_cases ht:t=[]
   ·subst ht
    have e:val []=0:=rfl
    rw[e,Ui (by omega)]
    have:=ZBp hc
    rw[Nat.mul_zero,Nat.zero_add,this]
    rfl
   ·have hdt:∀ c∈t,isD c=true:=fun x hx=>hd x (by simp[hx])
    have hht:t.head?≠some 48:=by
     cases t with
     | nil=>exact absurd rfl ht
     | cons a r=>
      rcases hh with hh | hh
      ·simpa using hh
      ·simp at hh
    have hp:=ZDi t hdt ht hht
    rw[ZhJ (by omega)]
    have e1:(10*val t+(c.toNat-48)) / 10=val t:=by omega
    have e2:(10*val t+(c.toNat-48)) % 10=c.toNat-48:=by omega
    rw[e1,e2,Zyo k t (by simp at hk;omega) hdt ht (.inl hht),ZBp hc]
def ZsC (s:List UInt8):Prop:=s≠[]∧s.length≤6∧(s.head?≠some 48∨s.length=1)∧∀ c∈s,isD c=true
instance (s:List UInt8):Decidable (ZsC s):=by unfold ZsC;infer_instance
def rd (s:List UInt8):Option Nat:=if ZsC s then some (val s) else none
theorem Zxq:∀ (k:Nat) (s:List UInt8),s.length≤k→(∀ c∈s,isD c=true)→val s<10 ^ k
 | 0,s,h,_=>by
  have:s=[]:=List.eq_nil_of_length_eq_zero (by omega)
  subst this;simp[val]
 | k+1,s,h,hd=>by
  rcases Zqb s with rfl | ⟨t,c,rfl⟩
  ·have:0<10 ^ (k+1):=Nat.pow_pos (by omega)
   simpa [val] using this
  ·rw[Zl6]
   have:=Zxq k t (by simp at h;omega) (fun x hx=>hd x (by simp[hx]))
   have hc:=hd c (by simp)
   simp only[isD,decide_eq_true_eq] at hc
   rw[Nat.pow_succ]
   generalize 10 ^ k=m at this ⊢
   omega
theorem Zet {n:Nat} (h:n≤999999):rd (num n)=some n:=by
 have h6:=VA 5 n (by omega)
 have:ZsC (num n):=by
  refine⟨Zxp n,h6,?_,ZoA n⟩
  by_cases h0:n=0
  ·right;subst h0;rw[Ui (by omega)];rfl
  ·left;exact ZBq (by omega)
 rw[rd,if_pos this,ZtH]
theorem Zaj {s:List UInt8} {n:Nat} (h:rd s=some n):s=num n∧n≤999999:=by
 unfold rd at h
 split at h
 ·rename_i hn
  cases h
  obtain⟨h1,h2,h3,h4⟩:=hn
  have:=Zxq 6 s h2 h4
  exact⟨(Zyo s.length s (Nat.le_refl _) h4 h1 h3).symm,by omega⟩
 ·cases h
def ZV (c:UInt8):List UInt8→List (List UInt8)
 | []=>[[]]
 | x :: r=>if x=c then [] :: ZV c r else match ZV c r with
  | []=>[[x]]
  | p :: q=>(x :: p) :: q
def Y0 (c:UInt8):List (List UInt8)→List UInt8
 | []=>[]
 | [x]=>x
 | x :: y :: r=>x++c :: Y0 c (y :: r)
theorem Ji (c:UInt8):∀ s,ZV c s≠[]
 | []=>by simp[ZV]
 | x :: r=>by
  unfold ZV
  split
  ·simp
  ·split<;>simp
theorem Zqc (c:UInt8):∀ s,Y0 c (ZV c s)=s
 | []=>rfl
 | x :: r=>by
  have ih:=Zqc c r
  unfold ZV
  split
  ·rename_i h
   cases hs:ZV c r with
   | nil=>exact absurd hs (Ji c r)
   | cons p q=>rw[hs] at ih;simp[Y0,ih,h]
  ·split
   ·rename_i hs;exact absurd hs (Ji c r)
   ·rename_i p q hs
    rw[hs] at ih
    cases q with
    | nil=>simp only[Y0] at ih ⊢;rw[ih]
    | cons y q=>simp only[Y0,List.cons_append] at ih ⊢;rw[ih]
theorem ZbX {c:UInt8}:∀ {s:List UInt8},c∉s→ZV c s=[s]
 | [],_=>rfl
 | x :: r,h=>by
  simp only[List.mem_cons,not_or] at h
  rw[ZV,if_neg (fun e=>h.1 e.symm),ZbX h.2]
theorem ZjS {c:UInt8}:∀ {a:List UInt8} {b:List UInt8},c∉a→ZV c (a++c :: b)=a :: ZV c b
 | [],b,_=>by simp[ZV]
 | x :: r,b,h=>by
  simp only[List.mem_cons,not_or] at h
  rw[List.cons_append,ZV,if_neg (fun e=>h.1 e.symm),ZjS h.2]
theorem ZkW {c:UInt8}:∀ {ws:List (List UInt8)},ws≠[]→(∀ w∈ws,c∉w)→ZV c (Y0 c ws)=ws
 | [],h,_=>absurd rfl h
 | [x],_,h=>ZbX (h x (by simp))
 | x :: y :: r,_,h=>by
  rw[Y0,ZjS (h x (by simp)),ZkW (by simp) (fun w hw=>h w (by simp[hw]))]
def QK (c:UInt8):List UInt8→Option Nat
 | []=>none
 | x :: r=>if x=c then some 0 else (QK c r).map (·+1)
theorem Zi6 {c:UInt8}:∀ {s:List UInt8},QK c s=none↔c∉s
 | []=>by simp[QK]
 | x :: r=>by
  unfold QK
  split
  ·rename_i h;simp[h]
  ·rename_i h;simp[Zi6 (s:=r),Ne.symm h]
theorem Wu {c:UInt8}:∀ {s:List UInt8} {i:Nat},QK c s=some i→s=s.take i++c :: s.drop (i+1)∧c∉s.take i∧i<s.length
 | [],i,h=>by simp[QK] at h
 | x :: r,i,h=>by
  unfold QK at h
  split at h
  ·rename_i hx;cases h;simp[hx]
  ·rename_i hx
   cases hr:QK c r with
   | none=>rw[hr] at h;simp at h
   | some j=>
    rw[hr] at h
    simp at h
    subst h
    obtain⟨h1,h2,h3⟩:=Wu hr
    refine⟨?_,?_,by simp;omega⟩
    ·simp only[List.take_succ_cons,List.drop_succ_cons,List.cons_append];rw[← h1]
    ·simp only[List.take_succ_cons,List.mem_cons,not_or];exact⟨fun e=>hx e.symm,h2⟩
theorem ZdQ (c:UInt8) (s:List UInt8):ZV c s=match QK c s with
  | none=>[s]
  | some i=>s.take i :: ZV c (s.drop (i+1)):=by
 cases h:QK c s with
 | none=>exact ZbX (Zi6.1 h)
 | some i=>
  obtain⟨h1,h2,_⟩:=Wu h
  simp only
  rw[h1,ZjS h2,← h1]
def shw:BT→List UInt8
 | .waste=>[119]
 | .pane i t=>(if t then 116 else 112) :: num i.toNat
 | .cut d a l r=>(if d then 100 else 97) :: (num a.toNat++40 :: (shw l++44 :: (shw r++[41])))
def Wv:BT→Bool
 | .waste=>true
 | .pane i _=>decide (0≤i∧i≤24)
 | .cut _ a l r=>decide (0≤a∧a≤200)&&Wv l&&Wv r
def ZdG:BT→Bool
 | .waste=>true
 | .pane i _=>decide (0≤i∧i≤999999)
 | .cut _ a l r=>decide (0≤a∧a≤999999)&&ZdG l&&ZdG r
theorem ZdH:∀ b:BT,Wv b=true→ZdG b=true
 | .waste,_=>rfl
 | .pane i t,h=>by simp only[Wv,ZdG,decide_eq_true_eq] at h ⊢;omega
 | .cut d a l r,h=>by
  simp only[Wv,ZdG,Bool.and_eq_true,decide_eq_true_eq] at h ⊢
  exact⟨⟨by omega,ZdH l h.1.2⟩,ZdH r h.2⟩
def Zav (x:UInt8):List UInt8→Option (List UInt8)
 | y :: r=>if y=x then some r else none
 | []=>none
def ZnS (d:Bool) (v:Nat) (rec:List UInt8→Option (BT×List UInt8)) (r:List UInt8):Option (BT×List UInt8):=
 (Zav 40 r).bind fun r1=>(rec r1).bind fun p=>(Zav 44 p.2).bind fun r3=>(rec r3).bind fun q=>(Zav 41 q.2).bind fun r5=>some (.cut d v p.1 q.1,r5)
def ZnT (c:UInt8) (v:Nat) (rec:List UInt8→Option (BT×List UInt8)) (r:List UInt8):Option (BT×List UInt8):=
 if c=112 then some (.pane v false,r) else if c=116 then some (.pane v true,r) else if c=100 then ZnS true v rec r else if c=97 then ZnS false v rec r else none
def tk:Nat→List UInt8→Option (BT×List UInt8)
 | 0,_=>none
 | _+1,[]=>none
 | n+1,c :: s=>if c=119 then some (.waste,s) else (rd (s.takeWhile isD)).bind fun v=>ZnT c v (tk n) (s.dropWhile isD)
theorem Zcz {x:UInt8} {s r:List UInt8} (h:Zav x s=some r):s=x :: r:=by
 cases s with
 | nil=>simp[Zav] at h
 | cons y t=>simp only[Zav] at h;split at h<;>simp_all
theorem ZDj {s:List UInt8} {v:Nat} (h:rd (s.takeWhile isD)=some v):s=num v++s.dropWhile isD∧v≤999999:=by
 obtain⟨h1,h2⟩:=Zaj h
 exact⟨by rw[← h1,List.takeWhile_append_dropWhile],h2⟩
theorem ZnU {d:Bool} {v:Nat} {rec:List UInt8→Option (BT×List UInt8)} (hrec:∀ s b r,rec s=some (b,r)→s=shw b++r∧ZdG b=true) (hv:v≤999999) {r:List UInt8} {b:BT} {t:List UInt8} (h:ZnS d v rec r=some (b,t)) :
  ∃ x y,b=.cut d v x y∧r=40 :: (shw x++44 :: (shw y++41 :: t))∧ZdG b=true:=by
 unfold ZnS at h
 simp only[Option.bind_eq_some_iff] at h
 obtain⟨r1,h1,⟨x,r2⟩,h2,r3,h3,⟨y,r4⟩,h4,r5,h5,h6⟩:=h
 simp only[Option.some.injEq,Prod.mk.injEq] at h6
 obtain⟨rfl,rfl⟩:=h6
 obtain⟨e2,s2⟩:=hrec _ _ _ h2
 obtain⟨e4,s4⟩:=hrec _ _ _ h4
 have e1:=Zcz h1
 have e3:=Zcz h3
 have e5:=Zcz h5
 refine⟨x,y,rfl,?_,?_⟩
 ·simp only at e3 e5
  rw[e1,e2,e3,e4,e5]
 ·simp only[ZdG,s2,s4,Bool.and_true,decide_eq_true_eq];omega
theorem Zi7:∀ (n:Nat) (s:List UInt8) (b:BT) (r:List UInt8),tk n s=some (b,r)→s=shw b++r∧ZdG b=true
 | 0,s,b,r,h=>by simp[tk] at h
 | n+1,[],b,r,h=>by simp[tk] at h
 | n+1,c :: s,b,r,h=>by
  simp only[tk] at h
  split at h
  ·rename_i hc
   cases h
   exact⟨by simp[shw,hc],rfl⟩
  ·simp only[Option.bind_eq_some_iff] at h
   obtain⟨v,h1,h⟩:=h
   obtain⟨e1,hv⟩:=ZDj h1
   unfold ZnT at h
   split at h
   ·rename_i hc
    cases h
    refine⟨?_,by simp only[ZdG,decide_eq_true_eq];omega⟩
    simp only[shw,Int.toNat_natCast,Bool.false_eq_true,if_false,List.cons_append]
    rw[← e1,hc]
   ·split at h
    ·rename_i hc
     cases h
     refine⟨?_,by simp only[ZdG,decide_eq_true_eq];omega⟩
     simp only[shw,Int.toNat_natCast,if_true,List.cons_append]
     rw[← e1,hc]
    ·split at h
     ·rename_i hc
      obtain⟨x,y,rfl,e2,hs⟩:=ZnU (Zi7 n) hv h
      refine⟨?_,hs⟩
      rw[e1,e2,hc]
      simp[shw,Int.toNat_natCast]
     ·split at h
      ·rename_i hc
       obtain⟨x,y,rfl,e2,hs⟩:=ZnU (Zi7 n) hv h
       refine⟨?_,hs⟩
       rw[e1,e2,hc]
       simp[shw,Int.toNat_natCast]
      ·cases h
def Zqd (r:List UInt8):Prop:=∀ c t,r=c :: t→isD c=false
theorem Zqe (v:Nat) {r:List UInt8} (h:Zqd r):(num v++r).takeWhile isD=num v∧(num v++r).dropWhile isD=r:=by
 have key:∀ l:List UInt8,(∀ c∈l,isD c=true)→(l++r).takeWhile isD=l∧(l++r).dropWhile isD=r:=by
  intro l
  induction l with
  | nil=>
   intro _
   cases r with
   | nil=>simp
   | cons c t=>have:=h c t rfl;simp[this]
  | cons c l ih=>
   intro hl
   have:=ih (fun x hx=>hl x (by simp[hx]))
   simp only[List.cons_append,List.takeWhile_cons,List.dropWhile_cons,hl c (by simp),if_true,this.1,this.2,and_self]
 exact key _ (ZoA v)
theorem Zyp (b:BT):1≤(shw b).length:=by cases b<;>simp[shw]
theorem Zi8:∀ (n:Nat) (b:BT) (r:List UInt8),(shw b).length≤n→ZdG b=true→Zqd r→tk n (shw b++r)=some (b,r)
 | 0,b,r,hn,_,_=>by have:=Zyp b;omega
 | n+1,.waste,r,_,_,_=>by simp[shw,tk]
 | n+1,.pane i t,r,hn,hs,hr=>by
  simp only[ZdG,decide_eq_true_eq] at hs
  obtain⟨h1,h2⟩:=Zqe i.toNat hr
  have hi:((i.toNat:Nat):Int)=i:=by omega
  have hrd:=Zet (n:=i.toNat) (by omega)
  cases t
  ·simp[shw,tk,ZnT,h1,h2,hrd,hi]
  ·simp[shw,tk,ZnT,h1,h2,hrd,hi]
 | n+1,.cut d a x y,r,hn,hs,hr=>by
  simp only[ZdG,Bool.and_eq_true,decide_eq_true_eq] at hs
  obtain⟨⟨ha,hx⟩,hy⟩:=hs
  simp only[shw,List.length_cons,List.length_append,List.length_nil] at hn
  have hrd:=Zet (n:=a.toNat) (by omega)
  have hi:((a.toNat:Nat):Int)=a:=by omega
  have e2:=Zi8 n y (41 :: r) (by omega) hy (fun c t e=>by cases e;rfl)
  have e1:=Zi8 n x (44 :: (shw y++41 :: r)) (by omega) hx (fun c t e=>by cases e;rfl)
  obtain⟨h1,h2⟩:=Zqe a.toNat (r:=40 :: (shw x++44 :: (shw y++41 :: r))) (fun c t e=>by cases e;rfl)
  have hcut:ZnS d a.toNat (tk n) (40 :: (shw x++44 :: (shw y++41 :: r)))=some (.cut d a x y,r):=by
   simp[ZnS,Zav,e1,e2,hi]
  have e:shw (.cut d a x y)++r=(if d then 100 else 97) :: (num a.toNat++40 :: (shw x++44 :: (shw y++41 :: r))):=by simp[shw]
  rw[e,tk]
  cases d
  ·rw[if_neg (by decide),h1,hrd,h2]
   simp only[Option.bind_some,ZnT]
   rw[if_neg (by decide),if_neg (by decide),if_neg (by decide),if_pos (by decide),hcut]
  ·rw[if_neg (by decide),h1,hrd,h2]
   simp only[Option.bind_some,ZnT]
   rw[if_neg (by decide),if_neg (by decide),if_pos (by decide),hcut]
def Zm3 (s:List UInt8):Option BT:=match tk s.length s with
 | some (b,[])=>if b.cnt≤255∧Wv b=true then some b else none
 | _=>none
theorem Zi9 {s:List UInt8} {b:BT}:Zm3 s=some b↔s=shw b∧b.cnt≤255∧Wv b=true:=by
 unfold Zm3
 constructor
 ·intro h
  split at h
  ·rename_i b' h1
   split at h
   ·rename_i hc
    cases h
    obtain⟨e,_⟩:=Zi7 _ _ _ _ h1
    exact⟨by simpa using e,hc⟩
   ·cases h
  ·cases h
 ·rintro ⟨rfl,hc⟩
  have:=Zi8 (shw b).length b [] (Nat.le_refl _) (ZdH b hc.2) (fun c t e=>by cases e)
  rw[List.append_nil] at this
  rw[this]
  simp[hc]
theorem ZzS {b:BT} (h:b.cnt≤255) (hc:Wv b=true):Zm3 (shw b)=some b:=Zi9.2 ⟨rfl,h,hc⟩
theorem Zvz (b:BT):∃ o a q t ks,b.plan=.mk o a q t ks:=by cases b.plan;exact⟨_,_,_,_,_,rfl⟩
theorem tdiv10 (n:Nat):((n:Int)).tdiv 10=((n / 10:Nat):Int):=by rw[Int.tdiv_eq_ediv_of_nonneg (by omega)];omega
theorem tmod10 (n:Nat):((n:Int)).tmod 10=((n % 10:Nat):Int):=by rw[Int.tmod_eq_emod_of_nonneg (by omega)];omega
theorem WH (n:Nat):n≤999999999→Zh Xs Ms Z4 [(.d (J n))] []=some (.d (.str (num n)),[]):=by
 induction n using Nat.strongRecOn with
 | ind n ih=>
  intro hn
  by_cases h:n<10
  ·rw[Ui h]
   have h' : (n:Int)<10:=by omega
   have hw:(n:Int)+1=((n+1:Nat):Int):=by omega
   have a3:=wi 3 (by decide) (by decide)
   have a4:=wi 4 (by decide) (by decide)
   have a5:=wi 5 (by decide) (by decide)
   have a6:=wi 6 (by decide) (by decide)
   have a7:=wi 7 (by decide) (by decide)
   have a8:=wi 8 (by decide) (by decide)
   have a9:=wi 9 (by decide) (by decide)
   have a10:=wi 10 (by decide) (by decide)
   refine Zb Xs Ms ZaA ZqB (by show 1≤_;decide) ?_
   rcases (show n=0∨n=1∨n=2∨n=3∨n=4∨n=5∨n=6∨n=7∨n=8∨n=9 by omega) with rfl | rfl | rfl | rfl | rfl | rfl | rfl | rfl | rfl | rfl<;>simp +contextual -implicitDefEqProofs (maxSteps:=10^7) only[go_sem,seval,↓gZ,ZaA,a3,a4,a5,a6,a7,a8,a9,a10]<;>rfl
  ·have hb:num n=num (n / 10)++num (n % 10):=by rw[ZhJ h,Ui (by omega:n % 10<10)]
   rw[hb]
   have h' : ¬(n:Int)<10:=by omega
   have e1:=ih (n / 10) (by omega) (by omega)
   have e2:=ih (n % 10) (by omega) (by omega)
   have l1:=VA 8 (n / 10) (by omega)
   have l2:=VA 8 (n % 10) (by omega)
   have hs:(num (n / 10)).length+(num (n % 10)).length≤1152921504606846976:=by omega
   have w1:=wi (n / 10:Nat) (by omega) (by omega)
   refine Zb Xs Ms ZaA ZqB (by show 1≤_;decide) ?_
   simp +contextual -implicitDefEqProofs (maxSteps:=10^7) only[go_sem,seval,↓gZ,ZaA,h',tdiv10,tmod10,w1,e1,e2,hs]
theorem UQ:∀ b:BT,Zh Xs Ms Ve [.d b.plan.enc] []=some ((.d (.bool (Wv b))),[])
 | .waste=>by
  simp only[BT.plan,Wv]
  refine Zb Xs Ms Yy ZfR (by show 1≤_;decide) ?_
  simp +contextual -implicitDefEqProofs (maxSteps:=10^7) only[go_sem,seval,↓gZ,Yy,ZA]
  refine ZM Xs Ms ?_
  simp +contextual -implicitDefEqProofs (maxSteps:=10^7) only[go_sem,seval,↓gZ,ZA]
 | .pane i t=>by
  simp only[BT.plan,Wv]
  refine Zb Xs Ms Yy ZfR (by show 1≤_;decide) ?_
  simp +contextual -implicitDefEqProofs (maxSteps:=10^7) only[go_sem,seval,↓gZ,Yy,ZA]
  refine ZM Xs Ms ?_
  simp +contextual -implicitDefEqProofs (maxSteps:=10^7) only[go_sem,seval,↓gZ,ZA]
 | .cut d a l r=>by
  have e1:=UQ l
  have e2:=UQ r
  simp only[BT.plan,Wv]
  refine Zb Xs Ms Yy ZfR (by show 1≤_;decide) ?_
  simp +contextual -implicitDefEqProofs (maxSteps:=10^7) only[go_sem,seval,↓gZ,Yy,ZA]
  refine ZM Xs Ms ?_
  cases hl:Wv l with
  | false=>
   rw[hl] at e1
   simp +contextual -implicitDefEqProofs (maxSteps:=10^7) only[go_sem,seval,↓gZ,e1]
  | true=>
   rw[hl] at e1
   simp +contextual -implicitDefEqProofs (maxSteps:=10^7) only[go_sem,seval,↓gZ,e1]
   refine ZM Xs Ms ?_
   cases hr:Wv r with
   | false=>
    rw[hr] at e2
    simp +contextual -implicitDefEqProofs (maxSteps:=10^7) only[go_sem,seval,↓gZ,e2]
   | true=>
    rw[hr] at e2
    simp +contextual -implicitDefEqProofs (maxSteps:=10^7) only[go_sem,seval,↓gZ,e2]
    refine ZM Xs Ms ?_
    simp +contextual -implicitDefEqProofs (maxSteps:=10^7) only[go_sem,seval,↓gZ,ZA]
theorem Zak:∀ b:BT,Zh Xs Ms YF [.d b.plan.enc] []=some ((.d (.bool (Wv b))),[])
 | .waste=>by
  simp only[BT.plan,Wv]
  refine Zb Xs Ms Qx ZeD (by show 1≤_;decide) ?_
  simp +contextual -implicitDefEqProofs (maxSteps:=10^7) only[go_sem,seval,↓gZ,Qx]
  refine ZM Xs Ms ?_
  simp +contextual -implicitDefEqProofs (maxSteps:=10^7) only[go_sem,seval,↓gZ]
 | .pane i t=>by
  simp only[BT.plan,Wv]
  refine Zb Xs Ms Qx ZeD (by show 1≤_;decide) ?_
  by_cases h1:i<0
  ·have h1' : ¬0≤i:=by omega
   simp +contextual -implicitDefEqProofs (maxSteps:=10^7) only[go_sem,seval,↓gZ,Qx,h1,h1']
  ·have h1' : 0≤i:=by omega
   by_cases h2:i>24
   ·have h2' : ¬i≤24:=by omega
    simp +contextual -implicitDefEqProofs (maxSteps:=10^7) only[go_sem,seval,↓gZ,Qx,h1,h1',h2,h2']
   ·have h2' : i≤24:=by omega
    simp +contextual -implicitDefEqProofs (maxSteps:=10^7) only[go_sem,seval,↓gZ,Qx,h1,h1',h2,h2']
    refine ZM Xs Ms ?_
    simp +contextual -implicitDefEqProofs (maxSteps:=10^7) only[go_sem,seval,↓gZ]
 | .cut d a l r=>by
  have e1:=Zak l
  have e2:=Zak r
  obtain⟨o1,a1,q1,t1,k1,hk1⟩:=Zvz l
  obtain⟨o2,a2,q2,t2,k2,hk2⟩:=Zvz r
  rw[hk1,Zj.enc_mk] at e1
  rw[hk2,Zj.enc_mk] at e2
  simp only[BT.plan,Wv,hk1,hk2]
  refine Zb Xs Ms Qx ZeD (by show 1≤_;decide) ?_
  by_cases h1:a<0
  ·have h1' : ¬0≤a:=by omega
   simp +contextual -implicitDefEqProofs (maxSteps:=10^7) only[go_sem,seval,↓gZ,Qx,h1,h1']
  ·have h1' : 0≤a:=by omega
   by_cases h2:a>200
   ·have h2' : ¬a≤200:=by omega
    simp +contextual -implicitDefEqProofs (maxSteps:=10^7) only[go_sem,seval,↓gZ,Qx,h1,h1',h2,h2']
   ·have h2' : a≤200:=by omega
    simp +contextual -implicitDefEqProofs (maxSteps:=10^7) only[go_sem,seval,↓gZ,Qx,h1,h1',h2,h2']
    refine ZM Xs Ms ?_
    cases hl:Wv l with
    | false=>
     rw[hl] at e1
     simp +contextual -implicitDefEqProofs (maxSteps:=10^7) only[go_sem,seval,↓gZ,e1]
    | true=>
     rw[hl] at e1
     simp +contextual -implicitDefEqProofs (maxSteps:=10^7) only[go_sem,seval,↓gZ,e1]
     refine ZM Xs Ms ?_
     cases hr:Wv r with
     | false=>
      rw[hr] at e2
      simp +contextual -implicitDefEqProofs (maxSteps:=10^7) only[go_sem,seval,↓gZ,e2]
     | true=>
      rw[hr] at e2
      simp +contextual -implicitDefEqProofs (maxSteps:=10^7) only[go_sem,seval,↓gZ,e2]
      refine ZM Xs Ms ?_
      simp +contextual -implicitDefEqProofs (maxSteps:=10^7) only[go_sem,seval,↓gZ]
theorem ZhK:∀ b:BT,Wv b=true→(shw b).length≤13*b.cnt
 | .waste,_=>by simp[shw,BT.cnt]
 | .pane i t,h=>by
  simp only[Wv,decide_eq_true_eq] at h
  have:=VA 1 i.toNat (by omega)
  simp[shw,BT.cnt];omega
 | .cut d a l r,h=>by
  simp only[Wv,Bool.and_eq_true,decide_eq_true_eq] at h
  have h1:=ZhK l h.1.2
  have h2:=ZhK r h.2
  have:=VA 2 a.toNat (by omega)
  simp[shw,BT.cnt];omega
theorem Uj:∀ b:BT,Wv b=true→b.cnt≤1000000→Zh Xs Ms Yv [.d b.plan.enc] []=some (.d (.str (shw b)),[])
 | .waste,_,_=>by
  simp only[BT.plan,shw]
  refine Zb Xs Ms Y7 ZhR (by show 1≤_;decide) ?_
  simp +contextual -implicitDefEqProofs (maxSteps:=10^7) only[go_sem,seval,↓gZ,Y7]
 | .pane i t,h,_=>by
  simp only[Wv,decide_eq_true_eq] at h
  have e1:=WH i.toNat (by omega)
  rw[Int.toNat_of_nonneg h.1] at e1
  have l1:=VA 1 i.toNat (by omega)
  have hs:1+(num i.toNat).length≤1152921504606846976:=by omega
  simp only[BT.plan,shw]
  refine Zb Xs Ms Y7 ZhR (by show 1≤_;decide) ?_
  cases t<;>simp +contextual -implicitDefEqProofs (maxSteps:=10^7) only[go_sem,seval,↓gZ,Y7,e1,hs]
 | .cut d a l r,h,hc=>by
  have hL:=ZhK _ h
  simp only[Wv,Bool.and_eq_true,decide_eq_true_eq] at h
  simp only[BT.cnt] at hc hL
  have e1:=WH a.toNat (by omega)
  rw[Int.toNat_of_nonneg h.1.1.1] at e1
  have e2:=Uj l h.1.2 (by omega)
  have e3:=Uj r h.2 (by omega)
  have l1:=VA 2 a.toNat (by omega)
  simp only[shw,List.length_cons,List.length_append,List.length_nil] at hL
  obtain⟨x,hx⟩:∃ x,num a.toNat=x:=⟨_,rfl⟩
  obtain⟨y,hy⟩:∃ y,shw l=y:=⟨_,rfl⟩
  obtain⟨z,hz⟩:∃ z,shw r=z:=⟨_,rfl⟩
  simp only[BT.plan,shw]
  rw[hx] at e1 l1 hL ⊢
  rw[hy] at e2 hL ⊢
  rw[hz] at e3 hL ⊢
  have g1:1+x.length≤1152921504606846976:=by omega
  have g2:x.length≤1152921504606846974:=by omega
  have g3:x.length+1+1+y.length≤1152921504606846976:=by omega
  have g4:x.length+1+y.length≤1152921504606846974:=by omega
  have g5:x.length+1+y.length+1+1+z.length≤1152921504606846976:=by omega
  have g6:x.length+1+y.length+1+z.length≤1152921504606846974:=by omega
  refine Zb Xs Ms Y7 ZhR (by show 1≤_;decide) ?_
  cases d<;>simp +contextual -implicitDefEqProofs (maxSteps:=10^7) only[go_sem,seval,↓gZ,Y7,Zby,e1,e2,e3,g1,g2,g3,g4,g5,g6]<;>simp
theorem ZDk (n:Nat):Lib.decDigits n=num n:=by
 induction n using Nat.strongRecOn with
 | ind n ih=>
  rw[Lib.decDigits,num]
  by_cases h:n<10
  ·rw[dif_pos h,if_pos h]
  ·rw[dif_neg h,if_neg h,ih (n / 10) (by omega)]
theorem YS (n:Int) (h0:0≤n) (h1:n≤999999999):Zh Xs Ms Qj [(.d (J n))] []=some (.d (.str (num n.toNat)),[]):=by
 refine Zas Xs Ms Zqy ?_
 unfold ZnN
 simp only
 rw[if_pos ⟨h0,by omega⟩,ZDk]
theorem QF (l:List UInt8) (n:Int) (c:UInt8) (hc:(c.toNat:Int)=n) (hl:l.length≤1000000000):Zh Xs Ms Zn [.ptr 0 0,.d (.int .u8 n)] [.box [.bnil 0 TB,.bbuf 5 l]]=some (.nili,[.box [.bnil 0 TB,.bbuf 5 (l++[c])]]):=by
 refine Zas Xs Ms ZdK ?_
 have hlt:=c.toNat_lt
 unfold ZnL
 simp only
 rw[if_pos ⟨trivial,trivial,by unfold ZcT;omega,by omega,by omega⟩]
 have e:UInt8.ofNat n.toNat=c:=by rw[← hc,Int.toNat_natCast,UInt8.ofNat_toNat]
 rw[e]
theorem Y3 (l s:List UInt8) (h0:0<s.length) (hl:l.length+s.length≤1000000000):Zh Xs Ms ZF [.ptr 0 0,.d (.str s)] [.box [.bnil 0 TB,.bbuf 5 l]]=some (.tup [(.d (J (s.length))),.nili],[.box [.bnil 0 TB,.bbuf 5 (l++s)]]):=by
 refine Zas Xs Ms ZcF ?_
 unfold Zva
 simp only
 rw[if_pos ⟨trivial,trivial,by omega,by unfold ZcT;omega⟩]
theorem Zfn (l:List UInt8):Zh Xs Ms Z0 [.ptr 0 0] [.box [.bnil 0 TB,.bbuf 5 l]]=some (.d (.str l),[.box [.bnil 0 TB,.junk]]):=by
 refine Zas Xs Ms ZfP ?_
 unfold ZnM
 simp only
 rw[if_pos ⟨trivial,trivial⟩]
theorem Zyq (n:Nat):0<(num n).length:=List.length_pos_iff.2 (Zxp n)
theorem Zeu:∀ (b:BT) (l:List UInt8),Wv b=true→l.length+(shw b).length≤100000000→Zh Xs Ms Vd [.ptr 0 0,.d b.plan.enc] [.box [.bnil 0 TB,.bbuf 5 l]]=some (.tup [],[.box [.bnil 0 TB,.bbuf 5 (l++shw b)]])
 | .waste,l,_,hl=>by
  simp only[shw,List.length_cons,List.length_nil] at hl
  have e1:=QF l 119 119 rfl (by omega)
  simp only[BT.plan,shw]
  refine Zb Xs Ms Xo ZfQ (by show 2≤_;decide) ?_
  simp +contextual -implicitDefEqProofs (maxSteps:=10^7) only[go_sem,seval,↓gZ,Xo,e1]
 | .pane i t,l,h,hl=>by
  simp only[Wv,decide_eq_true_eq] at h
  simp only[shw,List.length_cons] at hl
  have e2:=YS i h.1 (by omega)
  have l1:=Zyq i.toNat
  simp only[BT.plan,shw]
  refine Zb Xs Ms Xo ZfQ (by show 2≤_;decide) ?_
  cases t with
  | false=>
   have e1:=QF l 112 112 rfl (by omega)
   have e3:=Y3 (l++[112]) (num i.toNat) l1 (by simp;omega)
   simp +contextual -implicitDefEqProofs (maxSteps:=10^7) only[go_sem,seval,↓gZ,Xo,e1,e2,e3]
   simp
  | true=>
   have e1:=QF l 116 116 rfl (by omega)
   have e3:=Y3 (l++[116]) (num i.toNat) l1 (by simp;omega)
   simp +contextual -implicitDefEqProofs (maxSteps:=10^7) only[go_sem,seval,↓gZ,Xo,e1,e2,e3]
   simp
 | .cut d a x y,l,h,hl=>by
  simp only[Wv,Bool.and_eq_true,decide_eq_true_eq] at h
  simp only[shw,List.length_cons,List.length_append,List.length_nil] at hl
  have l1:=Zyq a.toNat
  have main:∀ (n:Int) (c:UInt8),(c.toNat:Int)=n→True:=fun _ _ _=>trivial
  have e2:=YS a h.1.1.1 (by omega)
  have g1:=QF l (if d then 100 else 97) (if d then 100 else 97) (by cases d<;>rfl) (by omega)
  have g2:=Y3 (l++[if d then 100 else 97]) (num a.toNat) l1 (by simp;omega)
  have g3:=QF (l++[if d then 100 else 97]++num a.toNat) 40 40 rfl (by simp;omega)
  have g4:=Zeu x (l++[if d then 100 else 97]++num a.toNat++[40]) h.1.2 (by simp;omega)
  have g5:=QF (l++[if d then 100 else 97]++num a.toNat++[40]++shw x) 44 44 rfl (by simp;omega)
  have g6:=Zeu y (l++[if d then 100 else 97]++num a.toNat++[40]++shw x++[44]) h.2 (by simp;omega)
  have g7:=QF (l++[if d then 100 else 97]++num a.toNat++[40]++shw x++[44]++shw y) 41 41 rfl (by simp;omega)
  simp only[BT.plan,shw]
  refine Zb Xs Ms Xo ZfQ (by show 2≤_;decide) ?_
  cases d with
  | true=>
   simp only[if_true] at g1 g2 g3 g4 g5 g6 g7
   simp +contextual -implicitDefEqProofs (maxSteps:=10^7) only[go_sem,seval,↓gZ,Xo,Zby,e2,g1,g2,g3,g4,g5,g6,g7]
   simp
  | false=>
   simp only[Bool.false_eq_true,if_false] at g1 g2 g3 g4 g5 g6 g7
   simp +contextual -implicitDefEqProofs (maxSteps:=10^7) only[go_sem,seval,↓gZ,Xo,Zby,e2,g1,g2,g3,g4,g5,g6,g7]
   simp
def Zxr (p:Zj):List UInt8:=match Xi p with
 | some b=>if b.cnt≤255∧Wv b=true then shw b else []
 | none=>[]
theorem ZsD {p:Zj} (h:Xi p=none):Zxr p=[]:=by unfold Zxr;rw[h]
theorem Zm4 {p:Zj} {b:BT} (h:Xi p=some b):Zxr p=if b.cnt≤255∧Wv b=true then shw b else []:=by unfold Zxr;rw[h]
theorem Zoa (p:Zj):Zh Xs Ms Wz [.d p.enc] []=some (.d (.str (Zxr p)),[]):=by
 have e1:=Zkh p
 cases hp:Xi p with
 | none=>
  rw[ZsD hp]
  rw[hp,show ZC 255 none=-1 from rfl] at e1
  obtain⟨o,a,q,t,ks⟩:=p
  rw[Zj.enc_mk] at e1 ⊢
  refine Zb Xs Ms QZ Zbc (by show 1≤_;decide) ?_
  simp +contextual -implicitDefEqProofs (maxSteps:=10^7) only[go_sem,seval,↓gZ,QZ,e1]
 | some b=>
  rw[Zm4 hp]
  rw[hp] at e1
  obtain rfl:=ZbL hp
  have e2:=Zak b
  rcases Xz 255 b with ⟨hc,hs⟩ | ⟨hc,hs⟩
  ·rw[hs] at e1
   have h0:¬(b.cnt:Int)<0:=by omega
   cases hb:Wv b with
   | false=>
    rw[hb] at e2
    rw[if_neg (fun h=>by cases h.2)]
    obtain⟨o,a,q,t,ks,hk⟩:=Zvz b
    rw[hk,Zj.enc_mk] at e1 e2 ⊢
    refine Zb Xs Ms QZ Zbc (by show 1≤_;decide) ?_
    simp +contextual -implicitDefEqProofs (maxSteps:=10^7) only[go_sem,seval,↓gZ,QZ,e1,e2,h0]
   | true=>
    rw[hb] at e2
    rw[if_pos ⟨by omega,rfl⟩]
    have hl:=ZhK b hb
    have e3:=Zeu b [] hb (by simp;omega)
    have e4:=Zfn ([]++shw b)
    obtain⟨o,a,q,t,ks,hk⟩:=Zvz b
    rw[hk,Zj.enc_mk] at e1 e2 e3 ⊢
    rw[List.nil_append] at e3 e4
    refine Zb Xs Ms QZ Zbc (by show 1≤_;decide) ?_
    simp +contextual -implicitDefEqProofs (maxSteps:=10^7) only[go_sem,seval,↓gZ,QZ,e1,e2,e3,e4,h0]
  ·rw[hs] at e1
   rw[if_neg (fun h=>by omega)]
   obtain⟨o,a,q,t,ks,hk⟩:=Zvz b
   rw[hk,Zj.enc_mk] at e1 ⊢
   refine Zb Xs Ms QZ Zbc (by show 1≤_;decide) ?_
   simp +contextual -implicitDefEqProofs (maxSteps:=10^7) only[go_sem,seval,↓gZ,QZ,e1]
theorem ZtI (x c:UInt8) (r:List UInt8) (hr:r.length≤1000000000):Zh Xs Ms ZX [.d (.str (x :: r)),.d (.str [c])] []=some ((.d (.bool ([x]==[c]))),[]):=by
 have h1:(1:Int)≤((r.length+1:Nat):Int):=by omega
 refine Zb Xs Ms ZY VS (by show 2≤_;decide) ?_
 simp +contextual -implicitDefEqProofs (maxSteps:=10^7) only[go_sem,seval,↓gZ,ZY,h1]
theorem Zra (c:UInt8):Zh Xs Ms ZX [.d (.str []),.d (.str [c])] []=some ((.d (.bool false)),[]):=by
 refine Zb Xs Ms ZY VS (by show 2≤_;decide) ?_
 simp +contextual -implicitDefEqProofs (maxSteps:=10^7) only[go_sem,seval,↓gZ,ZY]
def ZtJ (s:List UInt8) (c:UInt8):AV:=match Zav c s with
 | some r=>.tup [.d (.str r),(.d (.bool true))]
 | none=>.tup [.d (.str s),(.d (.bool false))]
theorem ZfM (s:List UInt8) (c:UInt8) (hr:s.length≤1000000000):Zh Xs Ms Z7 [.d (.str s),.d (.str [c])] []=some (ZtJ s c,[]):=by
 cases s with
 | nil=>
  have e1:=Zra c
  simp only[ZtJ,Zav]
  refine Zb Xs Ms ZE XV (by show 2≤_;decide) ?_
  simp +contextual -implicitDefEqProofs (maxSteps:=10^7) only[go_sem,seval,↓gZ,ZE,e1]
 | cons x r=>
  have e1:=ZtI x c r (by simp at hr;omega)
  by_cases h:x=c
  ·subst h
   simp only[ZtJ,Zav,if_true]
   rw[show ([x]==[x])=true by simp] at e1
   have h1:(1:Int)≤((r.length+1:Nat):Int):=by omega
   have h2:r.take r.length=r:=List.take_length
   refine Zb Xs Ms ZE XV (by show 2≤_;decide) ?_
   simp +contextual -implicitDefEqProofs (maxSteps:=10^7) only[go_sem,seval,↓gZ,ZE,e1,h1,h2]
  ·rw[show ([x]==[c])=false by simp[h]] at e1
   simp only[ZtJ,Zav,if_neg h]
   refine Zb Xs Ms ZE XV (by show 2≤_;decide) ?_
   simp +contextual -implicitDefEqProofs (maxSteps:=10^7) only[go_sem,seval,↓gZ,ZE,e1]
theorem UR (s:List UInt8) (c:UInt8) (hr:s.length≤1000000000):Zh Xs Ms QO [.d (.str s),.d (.str [c])] []=some (ZtJ s c,[]):=by
 have e1:=ZfM s c hr
 unfold ZtJ at e1 ⊢
 cases h:Zav c s with
 | none=>
  rw[h] at e1
  refine Zb Xs Ms Xg Zdu (by show 2≤_;decide) ?_
  simp +contextual -implicitDefEqProofs (maxSteps:=10^7) only[go_sem,seval,↓gZ,Xg,e1]
 | some r=>
  rw[h] at e1
  refine Zb Xs Ms Xg Zdu (by show 2≤_;decide) ?_
  simp +contextual -implicitDefEqProofs (maxSteps:=10^7) only[go_sem,seval,↓gZ,Xg,e1]
theorem wu8 (x:Int) (h0:0≤x) (h1:x<256):IntKind.u8.wrap x=x:=by
 unfold IntKind.wrap;simp[IntKind.bits,IntKind.signed];omega
theorem rd_of {s:List UInt8} (h:ZsC s):rd s=some (val s):=by unfold rd;rw[if_pos h]
theorem Zqf {s:List UInt8} (h:¬ZsC s):rd s=none:=by unfold rd;rw[if_neg h]
theorem Zfo (c:UInt8):isD c=true↔¬(c.toNat:Int)<48∧¬(57:Int)<(c.toNat:Int):=by
 simp only[isD,decide_eq_true_eq];omega
theorem ZvA {s:List UInt8} {k:Nat} {c:UInt8} (h:s[k]?=some c):val (s.take (k+1))=10*val (s.take k)+(c.toNat-48):=by
 obtain⟨hk,he⟩:=List.getElem?_eq_some_iff.1 h
 rw[List.take_succ_eq_append_getElem hk,Zl6,he]
def ZhL:Option Nat→AV
 | some v=>.tup [(.d (J ((v:Nat)))),(.d (.bool true))]
 | none=>.tup [(.d (J 0)),(.d (.bool false))]
theorem Zal (s:List UInt8):Zh Xs Ms YH [.d (.str s)] []=some (ZhL (rd s),[]):=by
 by_cases h0:s=[]
 ·subst h0
  rw[Zqf (fun h=>h.1 rfl)]
  simp only[ZhL]
  refine Zb Xs Ms Q2 Zbe (by show 1≤_;decide) ?_
  simp +contextual -implicitDefEqProofs (maxSteps:=10^7) only[go_sem,seval,↓gZ,Q2]
 by_cases h6:s.length≤6
 ·obtain⟨x,r,hs⟩:=List.exists_cons_of_ne_nil h0
  have hlen:s.length=r.length+1:=by rw[hs];rfl
  have h6' : ¬(6:Int)<((r.length+1:Nat):Int):=by omega
  have hb:(x :: r==[])=false:=rfl
  have hx48:(x.toNat:Int)=48↔x=48:=by
   constructor
   ·intro h;apply UInt8.toNat_inj.1;simpa using (by omega:x.toNat=48)
   ·rintro rfl;rfl
  by_cases hz:(x.toNat:Int)=48∧(1:Int)<((r.length+1:Nat):Int)
  ·rw[Zqf (fun h=>by
    rcases h.2.2.1 with h | h
    ·rw[hs] at h;exact h (by rw[hx48.1 hz.1];rfl)
    ·omega)]
   simp only[ZhL]
   obtain⟨hz1,hz2⟩:=hz
   rw[hs]
   refine Zb Xs Ms Q2 Zbe (by show 1≤_;decide) ?_
   simp +contextual -implicitDefEqProofs (maxSteps:=10^7) only[go_sem,seval,↓gZ,Q2,h6',hb,hz1,hz2]
  ·have hhead:s.head?≠some 48∨s.length=1:=by
    by_cases hl:s.length=1
    ·exact .inr hl
    ·refine .inl ?_
     rw[hs]
     intro h
     simp only[List.head?_cons,Option.some.injEq] at h
     exact hz ⟨hx48.2 h,by omega⟩
   generalize hres:ZhL (rd s)=res
   rw[hs]
   refine Zb Xs Ms Q2 Zbe (by show 1≤_;decide) ?_
   simp +contextual -implicitDefEqProofs (maxSteps:=10^7) only[go_sem,seval,↓gZ,Q2,h6',hb,hz]
   rw[← hs,show r.length+1=s.length by omega]
   refine ZQ Xs Ms (st0:=?st0) (α:=Nat) (fun k=>[(25,.d (J (k:Int))),(4,.d (J (val (s.take k):Nat)))]) (fun _=>[]) (fun k=>k≤s.length∧∀ c∈s.take k,isD c=true) (fun k=>s.length-k) 0 ?hc (by simp) ?h0 ?step
   case hc=>simp +contextual -implicitDefEqProofs (maxSteps:=10^7) only[go_sem,seval,↓gZ]<;>exact rfl
   case h0=>rfl
   case step=>
    intro k ⟨hk,hd⟩ ih
    have hv:=Zxq k (s.take k) (by simp;omega) hd
    have hp:10 ^ k≤10 ^ 6:=Nat.pow_le_pow_right (by decide) (by omega)
    by_cases hlt:k<s.length
    ·obtain⟨c,hc⟩:∃ c,s[k]?=some c:=⟨_,List.getElem?_eq_getElem hlt⟩
     have hlt' : (k:Int)<(s.length:Int):=by omega
     by_cases hD:isD c=true
     ·have hD':=(Zfo c).1 hD
      have hcn:(48:Int)≤c.toNat∧(c.toNat:Int)≤57:=by omega
      have w1:=wi (10*(val (s.take k):Nat)) (by omega) (by omega)
      have w2:=wu8 ((c.toNat:Int)-48) (by omega) (by omega)
      have w3:=wi ((c.toNat:Int)-48) (by omega) (by omega)
      have w4:IntKind.i64.wrap (10*(val (s.take k):Nat)+((c.toNat:Int)-48))=((val (s.take (k+1)):Nat):Int):=by
       rw[wi _ (by omega) (by omega),ZvA hc];omega
      have w5:=Zm (k:=k) (by omega)
      simp +contextual -implicitDefEqProofs (maxSteps:=10^7) only[go_sem,seval,↓gZ,hlt',hc,hD'.1,hD'.2,w1,w2,w3,w4,w5]
      refine ih (k+1) _ ⟨by omega,fun d hdm=>?_⟩ (by omega) ?_
      ·rw[List.take_succ_eq_append_getElem hlt] at hdm
       rcases List.mem_append.1 hdm with hdm | hdm
       ·exact hd d hdm
       ·simp only[List.mem_singleton] at hdm
        rw[hdm,← (List.getElem?_eq_some_iff.1 hc).2] at *
        exact hD
      ·simp +contextual -implicitDefEqProofs (maxSteps:=10^7) only[go_sem,seval,↓gZ]
     ·have hno:rd s=none:=Zqf fun h=>hD (h.2.2.2 c (List.mem_of_getElem? hc))
      rw[hno] at hres
      simp only[ZhL] at hres
      subst hres
      by_cases hlo:(c.toNat:Int)<48
      ·simp +contextual -implicitDefEqProofs (maxSteps:=10^7) only[go_sem,seval,↓gZ,hlt',hc,hlo]
      ·have hhi:(57:Int)<(c.toNat:Int):=Classical.byContradiction fun h=>hD ((Zfo c).2 ⟨hlo,h⟩)
       simp +contextual -implicitDefEqProofs (maxSteps:=10^7) only[go_sem,seval,↓gZ,hlt',hc,hlo,hhi]
    ·have hke:k=s.length:=by omega
     subst hke
     rw[List.take_length] at hd
     have hyes:rd s=some (val s):=rd_of ⟨h0,h6,hhead,hd⟩
     rw[hyes] at hres
     simp only[ZhL] at hres
     subst hres
     have ht:s.take s.length=s:=List.take_length
     have hge:¬(s.length:Int)<(s.length:Int):=by omega
     simp +contextual -implicitDefEqProofs (maxSteps:=10^7) only[go_sem,seval,↓gZ,ht,hge]
 ·have h6' : (6:Int)<(s.length:Int):=by omega
  have hb:(s==[])=false:=by
   cases s with
   | nil=>exact absurd rfl h0
   | cons x r=>rfl
  rw[Zqf (fun h=>h6 h.2.1)]
  simp only[ZhL]
  refine Zb Xs Ms Q2 Zbe (by show 1≤_;decide) ?_
  simp +contextual -implicitDefEqProofs (maxSteps:=10^7) only[go_sem,seval,↓gZ,Q2,h6',hb]
theorem ZBr {p:UInt8→Bool}:∀ {s:List UInt8} {k:Nat},k<(s.takeWhile p).length→∃ c,s[k]?=some c∧p c=true
 | [],k,h=>by simp at h
 | x :: s,k,h=>by
  by_cases hx:p x=true
  ·rw[List.takeWhile_cons_of_pos hx] at h
   cases k with
   | zero=>exact⟨x,rfl,hx⟩
   | succ k=>simpa using ZBr (s:=s) (k:=k) (by simpa using h)
  ·rw[List.takeWhile_cons_of_neg hx] at h;simp at h
theorem Zxs {p:UInt8→Bool}:∀ {s:List UInt8},(s.takeWhile p).length=s.length∨∃ c,s[(s.takeWhile p).length]?=some c∧¬p c=true
 | []=>.inl rfl
 | x :: s=>by
  by_cases hx:p x=true
  ·rw[List.takeWhile_cons_of_pos hx]
   rcases Zxs (p:=p) (s:=s) with h | ⟨c,h,h'⟩
   ·exact .inl (by simp[h])
   ·exact .inr ⟨c,by simpa using h,h'⟩
  ·rw[List.takeWhile_cons_of_neg hx]
   exact .inr ⟨x,rfl,hx⟩
theorem ZBs {p:UInt8→Bool} (s:List UInt8):(s.takeWhile p).length≤s.length:=List.IsPrefix.length_le (List.takeWhile_prefix p)
theorem Zyr (p:UInt8→Bool) (s:List UInt8):s.take (s.takeWhile p).length=s.takeWhile p:=by
 conv=>lhs;rw[← List.takeWhile_append_dropWhile (p:=p) (l:=s),List.takeWhile_append_dropWhile]
 exact(List.prefix_iff_eq_take.1 (List.takeWhile_prefix p)).symm
theorem ZDl (p:UInt8→Bool) (s:List UInt8):s.drop (s.takeWhile p).length=s.dropWhile p:=by
 have h:=List.takeWhile_append_dropWhile (p:=p) (l:=s)
 conv=>lhs;arg 2;rw[← h]
 rw[List.drop_left]
def tnV (s:List UInt8):AV:=match rd (s.takeWhile isD) with
 | some v=>.tup [(.d (J ((v:Nat)))),.d (.str (s.dropWhile isD)),(.d (.bool true))]
 | none=>.tup [(.d (J 0)),.d (.str (s.dropWhile isD)),(.d (.bool false))]
theorem Zob (s:List UInt8) (hs:s.length≤1000000):Zh Xs Ms WB [.d (.str s)] []=some (tnV s,[]):=by
 have hle:=ZBs (p:=isD) s
 generalize hres:tnV s=res
 refine Zb Xs Ms U3 ZqF (by show 1≤_;decide) ?_
 simp +contextual -implicitDefEqProofs (maxSteps:=10^7) only[go_sem,seval,↓gZ,U3]
 refine ZQ Xs Ms (st0:=?st0) (α:=Nat) (fun k=>[(5,.d (J (k:Int)))]) (fun _=>[]) (fun k=>k≤(s.takeWhile isD).length) (fun k=>s.length-k) 0 ?hc (by omega) ?h0 ?step
 case hc=>simp +contextual -implicitDefEqProofs (maxSteps:=10^7) only[go_sem,seval,↓gZ]<;>exact rfl
 case h0=>rfl
 case step=>
  intro k hk ih
  have w5:=Zm (k:=k) (by omega)
  have e1:=Zal (s.takeWhile isD)
  have d1:=Zyr isD s
  have d2:=ZDl isD s
  have d3:s.take s.length=s:=List.take_length
  by_cases hlt:k<(s.takeWhile isD).length
  ·obtain⟨c,hc,hD⟩:=ZBr hlt
   have hlt' : (k:Int)<(s.length:Int):=by omega
   have hD':=(Zfo c).1 hD
   have h1:(48:Int)≤c.toNat:=by omega
   have h2:(c.toNat:Int)≤57:=by omega
   simp +contextual -implicitDefEqProofs (maxSteps:=10^7) only[go_sem,seval,↓gZ,hlt',hc,h1,h2,w5]
   refine ih (k+1) _ (by omega) (by omega) ?_
   simp +contextual -implicitDefEqProofs (maxSteps:=10^7) only[go_sem,seval,↓gZ]
  ·have hke:k=(s.takeWhile isD).length:=by omega
   subst hke
   unfold tnV at hres
   have hkl:((s.takeWhile isD).length:Int)≤(s.length:Int):=by omega
   rcases Zxs (p:=isD) (s:=s) with h | ⟨c,hc,hD⟩
   ·have hge:¬((s.takeWhile isD).length:Int)<(s.length:Int):=by omega
    cases hr:rd (s.takeWhile isD) with
    | none=>
     rw[hr] at hres e1
     simp only[ZhL] at e1 hres
     subst hres
     simp +contextual -implicitDefEqProofs (maxSteps:=10^7) only[go_sem,seval,↓gZ,hge,hkl,e1,d1,d2,d3]
    | some v=>
     rw[hr] at hres e1
     simp only[ZhL] at e1 hres
     subst hres
     simp +contextual -implicitDefEqProofs (maxSteps:=10^7) only[go_sem,seval,↓gZ,hge,hkl,e1,d1,d2,d3]
   ·have hlt:((s.takeWhile isD).length:Int)<(s.length:Int):=by have:=(List.getElem?_eq_some_iff.1 hc).1;omega
    have hnd:¬((48:Int)≤c.toNat∧(c.toNat:Int)≤57):=fun h=>hD ((Zfo c).2 (by omega))
    by_cases h1:(48:Int)≤c.toNat
    ·have h2:¬(c.toNat:Int)≤57:=fun h=>hnd ⟨h1,h⟩
     cases hr:rd (s.takeWhile isD) with
     | none=>
      rw[hr] at hres e1
      simp only[ZhL] at e1 hres
      subst hres
      simp +contextual -implicitDefEqProofs (maxSteps:=10^7) only[go_sem,seval,↓gZ,hlt,hc,h1,h2,hkl,e1,d1,d2,d3]
     | some v=>
      rw[hr] at hres e1
      simp only[ZhL] at e1 hres
      subst hres
      simp +contextual -implicitDefEqProofs (maxSteps:=10^7) only[go_sem,seval,↓gZ,hlt,hc,h1,h2,hkl,e1,d1,d2,d3]
    ·cases hr:rd (s.takeWhile isD) with
     | none=>
      rw[hr] at hres e1
      simp only[ZhL] at e1 hres
      subst hres
      simp +contextual -implicitDefEqProofs (maxSteps:=10^7) only[go_sem,seval,↓gZ,hlt,hc,h1,hkl,e1,d1,d2,d3]
     | some v=>
      rw[hr] at hres e1
      simp only[ZhL] at e1 hres
      subst hres
      simp +contextual -implicitDefEqProofs (maxSteps:=10^7) only[go_sem,seval,↓gZ,hlt,hc,h1,hkl,e1,d1,d2,d3]
def TkR (res:Option (AV×List Zo)) (m:Option (BT×List UInt8)):Prop:=∃ (o a q:Int) (t:Bool) (ks:List Zj) (r:List UInt8) (ok:Bool),
 res=some (.tup [.agg [(.d (J o)),(.d (J a)),(.d (J q)),(.d (.bool t)),.own 0],.d (.str r),(.d (.bool ok))],[.row 5 (ks.map Zj.enc) true false])∧(match m with | some (b,r')=>ok=true∧b.plan=.mk o a q t ks∧r'=r | none=>ok=false)
theorem ZhM {res:Option (AV×List Zo)} {o a q:Int} {t:Bool} {ks:List Zj} {r:List UInt8} (h:res=some (.tup [.agg [(.d (J o)),(.d (J a)),(.d (J q)),(.d (.bool t)),.own 0],.d (.str r),(.d (.bool false))],[.row 5 (ks.map Zj.enc) true false])):TkR res none:=⟨o,a,q,t,ks,r,false,h,rfl⟩
theorem ZoB {res:Option (AV×List Zo)} {b:BT} {o a q:Int} {t:Bool} {ks:List Zj} {r:List UInt8} (hb:b.plan=.mk o a q t ks) (h:res=some (.tup [.agg [(.d (J o)),(.d (J a)),(.d (J q)),(.d (.bool t)),.own 0],.d (.str r),(.d (.bool true))],[.row 5 (ks.map Zj.enc) true false])):TkR res (some (b,r)):=⟨o,a,q,t,ks,r,true,h,rfl,hb,rfl⟩
theorem Ze8 (c:UInt8) {k:Int} (d:UInt8) (hd:(d.toNat:Int)=k):(c.toNat:Int)=k↔c=d:=by
 constructor
 ·intro h;apply UInt8.toNat_inj.1;omega
 ·rintro rfl;exact hd
theorem ZBt (n:Nat):tk n []=none:=by cases n<;>rfl
theorem Zrb:∀ (n:Nat) (s:List UInt8),s.length≤n→s.length≤1000000→TkR (Zh Xs Ms Y6 [.d (.str s)] []) (tk n s):=by
 intro n
 induction n with
 | zero=>
  intro s hs _
  obtain rfl:=List.eq_nil_of_length_eq_zero (Nat.le_zero.1 hs)
  rw[ZBt]
  refine ZhM (o:=0) (a:=0) (q:=0) (t:=false) (ks:=[]) (r:=[]) ?_
  refine Zb Xs Ms Zv Q9 (by show 1≤_;decide) ?_
  simp +contextual -implicitDefEqProofs (maxSteps:=10^7) only[go_sem,seval,↓gZ,Zv]
 | succ n IH=>
  intro s hs hsz
  cases s with
  | nil=>
   rw[ZBt]
   refine ZhM (o:=0) (a:=0) (q:=0) (t:=false) (ks:=[]) (r:=[]) ?_
   refine Zb Xs Ms Zv Q9 (by show 1≤_;decide) ?_
   simp +contextual -implicitDefEqProofs (maxSteps:=10^7) only[go_sem,seval,↓gZ,Zv]
  | cons c s=>
   simp only[List.length_cons] at hs hsz
   have hb:(c :: s==[])=false:=rfl
   have d3:s.take s.length=s:=List.take_length
   have hp1:(1:Int)≤((s.length+1:Nat):Int):=by omega
   have e1:=Zob s (by omega)
   by_cases c1:c=119
   ·have n1:(c.toNat:Int)=119:=(Ze8 c 119 rfl).2 c1
    have htk:tk (n+1) (c :: s)=some (.waste,s):=by rw[tk,if_pos c1]
    rw[htk]
    refine ZoB (b:=.waste) rfl ?_
    refine Zb Xs Ms Zv Q9 (by show 1≤_;decide) ?_
    simp +contextual -implicitDefEqProofs (maxSteps:=10^7) only[go_sem,seval,↓gZ,Zv,hb,d3,hp1,n1]
   have n1:¬(c.toNat:Int)=119:=fun h=>c1 ((Ze8 c 119 rfl).1 h)
   rw[tk,if_neg c1]
   cases hr:rd (s.takeWhile isD) with
   | none=>
    simp only[tnV,hr] at e1
    refine ZhM (o:=0) (a:=0) (q:=0) (t:=false) (ks:=[]) (r:=[]) ?_
    refine Zb Xs Ms Zv Q9 (by show 1≤_;decide) ?_
    simp +contextual -implicitDefEqProofs (maxSteps:=10^7) only[go_sem,seval,↓gZ,Zv,hb,d3,hp1,n1,e1]
   | some v=>
    simp only[tnV,hr] at e1
    have hv:=(Zaj hr).2
    obtain⟨r1,hr1⟩:∃ r1,s.dropWhile isD=r1:=⟨_,rfl⟩
    rw[hr1] at e1
    have hl1:r1.length≤s.length:=by rw[← hr1];exact List.IsSuffix.length_le (List.dropWhile_suffix isD)
    simp only[Option.bind_some,hr1]
    by_cases c2:c=112
    ·have n2:(c.toNat:Int)=112:=(Ze8 c 112 rfl).2 c2
     have n3:¬(c.toNat:Int)=116:=by omega
     rw[ZnT,if_pos c2]
     refine ZoB (b:=.pane v false) rfl ?_
     refine Zb Xs Ms Zv Q9 (by show 1≤_;decide) ?_
     simp +contextual -implicitDefEqProofs (maxSteps:=10^7) only[go_sem,seval,↓gZ,Zv,hb,d3,hp1,n1,n2,n3,e1]
    have n2:¬(c.toNat:Int)=112:=fun h=>c2 ((Ze8 c 112 rfl).1 h)
    rw[ZnT,if_neg c2]
    by_cases c3:c=116
    ·have n3:(c.toNat:Int)=116:=(Ze8 c 116 rfl).2 c3
     rw[if_pos c3]
     refine ZoB (b:=.pane v true) rfl ?_
     refine Zb Xs Ms Zv Q9 (by show 1≤_;decide) ?_
     simp +contextual -implicitDefEqProofs (maxSteps:=10^7) only[go_sem,seval,↓gZ,Zv,hb,d3,hp1,n1,n2,n3,e1]
    have n3:¬(c.toNat:Int)=116:=fun h=>c3 ((Ze8 c 116 rfl).1 h)
    rw[if_neg c3]
    have cutCase:∀ d:Bool,(if d then (c.toNat:Int)=100 else ¬(c.toNat:Int)=100∧(c.toNat:Int)=97)→TkR (Zh Xs Ms Y6 [.d (.str (c :: s))] []) (ZnS d v (tk n) r1):=by
     intro d hd
     have k1:=UR r1 40 (by omega)
     unfold ZnS ZtJ at *
     cases h40:Zav 40 r1 with
     | none=>
      simp only[h40] at k1
      simp only[Option.bind_none]
      obtain⟨o1,a1,q1,t1,ks1,r3,ok1,i1,_⟩:=IH r1 (by omega) (by omega)
      refine ZhM (o:=0) (a:=0) (q:=0) (t:=false) (ks:=[]) (r:=[]) ?_
      refine Zb Xs Ms Zv Q9 (by show 1≤_;decide) ?_
      cases d with
      | true=>
       simp only[if_true] at hd
       simp +contextual -implicitDefEqProofs (maxSteps:=10^7) only[go_sem,seval,↓gZ,Zv,hb,d3,hp1,n1,n2,n3,e1,hd,k1,i1]
      | false=>
       simp only[Bool.false_eq_true,if_false] at hd
       simp +contextual -implicitDefEqProofs (maxSteps:=10^7) only[go_sem,seval,↓gZ,Zv,hb,d3,hp1,n1,n2,n3,e1,hd.1,hd.2,k1,i1]
     | some r2=>
      simp only[h40] at k1
      simp only[Option.bind_some]
      have x2:=Zcz h40
      have hl2:r2.length≤n∧r2.length≤1000000:=by
       have:r1.length=r2.length+1:=by rw[x2];rfl
       omega
      obtain⟨o1,a1,q1,t1,ks1,r3,ok1,i1,m1⟩:=IH r2 hl2.1 hl2.2
      cases h2:tk n r2 with
      | none=>
       rw[h2] at m1
       simp only at m1
       subst m1
       simp only[Option.bind_none]
       refine ZhM (o:=0) (a:=0) (q:=0) (t:=false) (ks:=[]) (r:=[]) ?_
       refine Zb Xs Ms Zv Q9 (by show 1≤_;decide) ?_
       cases d with
       | true=>
        simp only[if_true] at hd
        simp +contextual -implicitDefEqProofs (maxSteps:=10^7) only[go_sem,seval,↓gZ,Zv,hb,d3,hp1,n1,n2,n3,e1,hd,k1,i1]
       | false=>
        simp only[Bool.false_eq_true,if_false] at hd
        simp +contextual -implicitDefEqProofs (maxSteps:=10^7) only[go_sem,seval,↓gZ,Zv,hb,d3,hp1,n1,n2,n3,e1,hd.1,hd.2,k1,i1]
      | some p1=>
       obtain⟨b1,r3'⟩:=p1
       rw[h2] at m1
       simp only at m1
       obtain⟨rfl,hb1,rfl⟩:=m1
       simp only[Option.bind_some]
       have s1:=(Zi7 n r2 b1 r3' h2).1
       have hl3:r3'.length≤n∧r3'.length≤1000000:=by
        have:r2.length=(shw b1).length+r3'.length:=by rw[s1,List.length_append]
        omega
       have k2:=UR r3' 44 (by omega)
       unfold ZtJ at k2
       cases h44:Zav 44 r3' with
       | none=>
        simp only[h44] at k2
        simp only[Option.bind_none]
        obtain⟨o2,a2,q2,t2,ks2,r5,ok2,i2,_⟩:=IH r3' hl3.1 hl3.2
        refine ZhM (o:=0) (a:=0) (q:=0) (t:=false) (ks:=[]) (r:=[]) ?_
        refine Zb Xs Ms Zv Q9 (by show 1≤_;decide) ?_
        cases d with
        | true=>
         simp only[if_true] at hd
         simp +contextual -implicitDefEqProofs (maxSteps:=10^7) only[go_sem,seval,↓gZ,Zv,hb,d3,hp1,n1,n2,n3,e1,hd,k1,i1,k2,i2]
        | false=>
         simp only[Bool.false_eq_true,if_false] at hd
         simp +contextual -implicitDefEqProofs (maxSteps:=10^7) only[go_sem,seval,↓gZ,Zv,hb,d3,hp1,n1,n2,n3,e1,hd.1,hd.2,k1,i1,k2,i2]
       | some r4=>
        simp only[h44] at k2
        simp only[Option.bind_some]
        have x4:=Zcz h44
        have hl4:r4.length≤n∧r4.length≤1000000:=by
         have:r3'.length=r4.length+1:=by rw[x4];rfl
         omega
        obtain⟨o2,a2,q2,t2,ks2,r5,ok2,i2,m2⟩:=IH r4 hl4.1 hl4.2
        cases h4:tk n r4 with
        | none=>
         rw[h4] at m2
         simp only at m2
         subst m2
         simp only[Option.bind_none]
         refine ZhM (o:=0) (a:=0) (q:=0) (t:=false) (ks:=[]) (r:=[]) ?_
         refine Zb Xs Ms Zv Q9 (by show 1≤_;decide) ?_
         cases d with
         | true=>
          simp only[if_true] at hd
          simp +contextual -implicitDefEqProofs (maxSteps:=10^7) only[go_sem,seval,↓gZ,Zv,hb,d3,hp1,n1,n2,n3,e1,hd,k1,i1,k2,i2]
         | false=>
          simp only[Bool.false_eq_true,if_false] at hd
          simp +contextual -implicitDefEqProofs (maxSteps:=10^7) only[go_sem,seval,↓gZ,Zv,hb,d3,hp1,n1,n2,n3,e1,hd.1,hd.2,k1,i1,k2,i2]
        | some p2=>
         obtain⟨b2,r5'⟩:=p2
         rw[h4] at m2
         simp only at m2
         obtain⟨rfl,hb2,rfl⟩:=m2
         simp only[Option.bind_some]
         have s2:=(Zi7 n r4 b2 r5' h4).1
         have hl5:r5'.length≤1000000:=by
          have:r4.length=(shw b2).length+r5'.length:=by rw[s2,List.length_append]
          omega
         have k3:=UR r5' 41 (by omega)
         unfold ZtJ at k3
         cases h41:Zav 41 r5' with
         | none=>
          simp only[h41] at k3
          simp only[Option.bind_none]
          refine ZhM (o:=Zby d) (a:=v) (q:=0) (t:=false) (ks:=[.mk o1 a1 q1 t1 ks1,.mk o2 a2 q2 t2 ks2]) (r:=r5') ?_
          refine Zb Xs Ms Zv Q9 (by show 1≤_;decide) ?_
          cases d with
          | true=>
           simp only[if_true] at hd
           simp +contextual -implicitDefEqProofs (maxSteps:=10^7) only[go_sem,seval,↓gZ,Zv,hb,d3,hp1,n1,n2,n3,e1,hd,k1,i1,k2,i2,k3,Zby]
          | false=>
           simp only[Bool.false_eq_true,if_false] at hd
           simp +contextual -implicitDefEqProofs (maxSteps:=10^7) only[go_sem,seval,↓gZ,Zv,hb,d3,hp1,n1,n2,n3,e1,hd.1,hd.2,k1,i1,k2,i2,k3,Zby]
         | some r6=>
          simp only[h41] at k3
          simp only[Option.bind_some]
          refine ZoB (b:=.cut d v b1 b2) (o:=Zby d) (a:=v) (q:=0) (t:=false) (ks:=[.mk o1 a1 q1 t1 ks1,.mk o2 a2 q2 t2 ks2]) (by rw[BT.plan,hb1,hb2]) ?_
          refine Zb Xs Ms Zv Q9 (by show 1≤_;decide) ?_
          cases d with
          | true=>
           simp only[if_true] at hd
           simp +contextual -implicitDefEqProofs (maxSteps:=10^7) only[go_sem,seval,↓gZ,Zv,hb,d3,hp1,n1,n2,n3,e1,hd,k1,i1,k2,i2,k3,Zby]
          | false=>
           simp only[Bool.false_eq_true,if_false] at hd
           simp +contextual -implicitDefEqProofs (maxSteps:=10^7) only[go_sem,seval,↓gZ,Zv,hb,d3,hp1,n1,n2,n3,e1,hd.1,hd.2,k1,i1,k2,i2,k3,Zby]
    by_cases c4:c=100
    ·have n4:(c.toNat:Int)=100:=(Ze8 c 100 rfl).2 c4
     rw[if_pos c4]
     exact cutCase true n4
    have n4:¬(c.toNat:Int)=100:=fun h=>c4 ((Ze8 c 100 rfl).1 h)
    rw[if_neg c4]
    by_cases c5:c=97
    ·have n5:(c.toNat:Int)=97:=(Ze8 c 97 rfl).2 c5
     rw[if_pos c5]
     exact cutCase false ⟨n4,n5⟩
    have n5:¬(c.toNat:Int)=97:=fun h=>c5 ((Ze8 c 97 rfl).1 h)
    rw[if_neg c5]
    refine ZhM (o:=0) (a:=0) (q:=0) (t:=false) (ks:=[]) (r:=[]) ?_
    refine Zb Xs Ms Zv Q9 (by show 1≤_;decide) ?_
    simp +contextual -implicitDefEqProofs (maxSteps:=10^7) only[go_sem,seval,↓gZ,Zv,hb,d3,hp1,n1,n2,n3,n4,n5,e1]
def ZgS (s:List UInt8):Option BT:=if s.length≤1600 then Zm3 s else none
def PrR (res:Option (AV×List Zo)) (m:Option BT):Prop:=∃ (o a q:Int) (t:Bool) (ks:List Zj),
 res=some (.tup [.agg [(.d (J o)),(.d (J a)),(.d (J q)),(.d (.bool t)),.own 0],(.d (.bool (m.isSome)))],[.row 5 (ks.map Zj.enc) true false])∧Zj.mk o a q t ks=(m.getD .waste).plan
theorem ZcV {res:Option (AV×List Zo)} (h:res=some (.tup [.agg [(.d (J 0)),(.d (J 0)),(.d (J 0)),(.d (.bool false)),.own 0],(.d (.bool false))],[.row 5 [] true false])):PrR res none:=⟨0,0,0,false,[],h,rfl⟩
theorem Zja (s:List UInt8) (hs:s.length≤1000000):PrR (Zh Xs Ms Un [.d (.str s)] []) (ZgS s):=by
 unfold ZgS
 by_cases hl:s.length≤1600
 ·rw[if_pos hl]
  have hl' : ¬(1600:Int)<(s.length:Int):=by omega
  obtain⟨o,a,q,t,ks,r,ok,e1,m1⟩:=Zrb s.length s (Nat.le_refl _) hs
  unfold Zm3
  cases h1:tk s.length s with
  | none=>
   rw[h1] at m1
   simp only at m1
   subst m1
   refine ZcV ?_
   refine Zb Xs Ms Qo Um (by show 1≤_;decide) ?_
   simp +contextual -implicitDefEqProofs (maxSteps:=10^7) only[go_sem,seval,↓gZ,Qo,hl',e1]
  | some p1=>
   obtain⟨b,r'⟩:=p1
   rw[h1] at m1
   simp only at m1
   obtain⟨rfl,hb,rfl⟩:=m1
   cases r' with
   | cons x r2=>
    have hx:(x :: r2==[])=false:=rfl
    refine ZcV ?_
    refine Zb Xs Ms Qo Um (by show 1≤_;decide) ?_
    simp +contextual -implicitDefEqProofs (maxSteps:=10^7) only[go_sem,seval,↓gZ,Qo,hl',e1,hx]
   | nil=>
    have e2:=Zkh b.plan
    have e3:=Zak b
    rw[Vh] at e2
    rw[hb,Zj.enc_mk] at e2 e3
    show PrR _ (if b.cnt≤255∧Wv b=true then some b else none)
    rcases Xz 255 b with ⟨hc,hz⟩ | ⟨hc,hz⟩
    ·rw[hz] at e2
     have h0:¬(b.cnt:Int)<0:=by omega
     cases hcb:Wv b with
     | false=>
      rw[hcb] at e3
      rw[if_neg (fun h=>by cases h.2)]
      refine ZcV ?_
      refine Zb Xs Ms Qo Um (by show 1≤_;decide) ?_
      simp +contextual -implicitDefEqProofs (maxSteps:=10^7) only[go_sem,seval,↓gZ,Qo,hl',e1,e2,e3,h0]
     | true=>
      rw[hcb] at e3
      rw[if_pos ⟨by omega,rfl⟩]
      refine⟨o,a,q,t,ks,?_,hb.symm⟩
      refine Zb Xs Ms Qo Um (by show 1≤_;decide) ?_
      simp +contextual -implicitDefEqProofs (maxSteps:=10^7) only[go_sem,seval,↓gZ,Qo,hl',e1,e2,e3,h0]
      rfl
    ·rw[hz] at e2
     rw[if_neg (fun h=>by omega)]
     refine ZcV ?_
     refine Zb Xs Ms Qo Um (by show 1≤_;decide) ?_
     simp +contextual -implicitDefEqProofs (maxSteps:=10^7) only[go_sem,seval,↓gZ,Qo,hl',e1,e2]
 ·rw[if_neg hl]
  have hl' : (1600:Int)<(s.length:Int):=by omega
  refine ZcV ?_
  refine Zb Xs Ms Qo Um (by show 1≤_;decide) ?_
  simp +contextual -implicitDefEqProofs (maxSteps:=10^7) only[go_sem,seval,↓gZ,Qo,hl']
end Go.Proofs.YtkdjbefmiiibpaaGreatDoor
