/- Own text. -/
import Derived.Test.YtcefneehgbiebaaGreatDoorDCode
import Derived.Test.YtcefneehgbiebaaGreatDoorAbsParts
import Derived.Test.YtcefneehgbiebaaGreatDoorDC1
namespace Go.Proofs.YtcefneehgbiebaaGreatDoor
open Go Go.Abs Go.Abs.E Go.Abs.L
open Nat (reduceMul reduceSub reduceLeDiff reduceEqDiff)
open Int (reduceLE reduceEq reduceToNat reduceNeg)
set_option linter.unusedSimpArgs false
set_option linter.unusedVariables false
set_option maxRecDepth 20000
set_option maxHeartbeats 4000000
def num (n:Nat):List UInt8:=if n<10 then [UInt8.ofNat (48+n)] else num (n / 10)++[UInt8.ofNat (48+n % 10)]
termination_by n
decreasing_by omega
def isD (c:UInt8):Bool:=decide (48≤c.toNat∧c.toNat≤57)
def val (s:List UInt8):Nat:=s.foldl (fun n c=>10*n+(c.toNat-48)) 0
theorem ZkT (s:List UInt8) (c:UInt8):val (s++[c])=10*val s+(c.toNat-48):=by simp[val]
theorem Zfv {n:Nat} (h:n<10):(UInt8.ofNat (48+n)).toNat=48+n:=by
 rw[UInt8.toNat_ofNat'];omega
theorem ZBO {c:UInt8} (h:isD c=true):UInt8.ofNat (48+(c.toNat-48))=c:=by
 simp only[isD,Ko] at h;apply UInt8.toNat_inj.1;rw[UInt8.toNat_ofNat'];omega
theorem Wp {n:Nat} (h:n<10):num n=[UInt8.ofNat (48+n)]:=by rw[num,Kh h]
theorem Zgc {n:Nat} (h:¬n<10):num n=num (n / 10)++[UInt8.ofNat (48+n % 10)]:=by rw[num,Ke h]
theorem Zyg:∀ n:Nat,num n≠[]:=fun n=>by
 by_cases h:n<10
 ·rw[Wp h];simp
 ·rw[Zgc h];simp
theorem Zol (n:Nat):∀ c∈num n,isD c=true:=by
 induction n using Nat.strongRecOn with
 | ind n ih=>
  intro c hc;by_cases h:n<10
  ·rw[Wp h] at hc;rw[KC] at hc;subst hc;have:=Zfv h;simp only[isD,Ko];omega
  ·rw[Zgc h] at hc;rcases Kg.1 hc with hc | hc
   ·exact ih (n / 10) (by omega) c hc
   ·rw[KC] at hc;subst hc;have:=Zfv (n:=n % 10) (by omega);simp only[isD,Ko];omega
theorem Zza (n:Nat):val (num n)=n:=by
 induction n using Nat.strongRecOn with
 | ind n ih=>
  by_cases h:n<10
  ·rw[Wp h];have:=Zfv h;simp only[val,List.foldl_cons,List.foldl_nil];omega
  ·rw[Zgc h,ZkT,ih (n / 10) (by omega),Zfv (by omega)];omega
theorem ZBP {n:Nat} (h:0<n):(num n).head?≠some 48:=by
 induction n using Nat.strongRecOn with
 | ind n ih=>
  by_cases h1:n<10
  ·rw[Wp h1];simp only[List.head?_cons,ne_eq,Option.some.injEq];intro e;have:=Zfv h1;rw[e] at this;have aa:(48:UInt8).toNat=48:=rfl;omega
  ·rw[Zgc h1];have:=ih (n / 10) (by omega) (by omega);cases hn:num (n / 10) with
   | nil=>exact absurd hn (Zyg _)
   | cons a r=>rw[hn] at this;simpa using this
theorem X6:∀ (k n:Nat),n<10 ^ (k+1)→(num n).length≤k+1
 | 0,n,h=>by rw[Wp (by simpa using h)];simp
 | k+1,n,h=>by
  by_cases h1:n<10
  ·rw[Wp h1];simp
  ·rw[Zgc h1];have:=X6 k (n / 10) (Nat.div_lt_of_lt_mul (by rw[Nat.pow_succ,Nat.mul_comm] at h;exact h));simp;omega
theorem ZCU:∀ (s:List UInt8),(∀ c∈s,isD c=true)→s≠[]→s.head?≠some 48→0<val s:=by
 intro s;have aa:∀ (l:List UInt8) (n:Nat),0<n→0<l.foldl (fun n (c:UInt8)=>10*n+(c.toNat-48)) n:=by
  intro l
  induction l with
  | nil=>intro n h;exact h
  | cons c l ih=>intro n h;exact ih (10*n+(c.toNat-48)) (by omega)
 cases s with
 | nil=>intro _ h;exact absurd rfl h
 | cons c l=>
  intro hd _ hh;refine aa l _ ?_;have h1:=hd c (by simp);simp only[isD,Ko] at h1;have h2:c.toNat≠48:=fun e=>hh (by
   have:c=48:=UInt8.toNat_inj.1 e;simp[this])
  show 0<10*0+(c.toNat-48);omega
theorem Zqq {α:Type} (s:List α):s=[]∨∃ t c,s=t++[c]:=by
 rcases List.eq_nil_or_concat s with h | ⟨t,c,h⟩
 ·exact .inl h
 ·exact .inr ⟨t,c,by simpa using h⟩
theorem Zzb:∀ (k:Nat) (s:List UInt8),s.length≤k→(∀ c∈s,isD c=true)→s≠[]→(s.head?≠some 48∨s.length=1)→num (val s)=s
 | 0,s,hk,_,hn,_=>absurd (Ks (by omega)) hn
 | k+1,s,hk,hd,hn,hh=>by
  rcases Zqq s with h | ⟨t,c,rfl⟩
  ·exact absurd h hn
  ·rw[ZkT];have hc:=hd c (by simp);have ad:=hc;simp only[isD,Ko] at ad;by_cases ht:t=[]
   ·subst ht;have e:val []=0:=rfl;rw[e,Wp (by omega)];have:=ZBO hc;rw[Nat.mul_zero,La,this];rfl
   ·have aa:∀ c∈t,isD c=true:=fun x hx=>hd x (by simp[hx]);have ab:t.head?≠some 48:=by
     cases t with
     | nil=>exact absurd rfl ht
     | cons a r=>
      rcases hh with hh | hh
      ·simpa using hh
      ·simp at hh
    have hp:=ZCU t aa ht ab;rw[Zgc (by omega)];have e1:(10*val t+(c.toNat-48)) / 10=val t:=by omega
    have e2:(10*val t+(c.toNat-48)) % 10=c.toNat-48:=by omega
    rw[e1,e2,Zzb k t (by simp at hk;omega) aa ht (.inl ab),ZBO hc]
def ZtF (s:List UInt8):Prop:=s≠[]∧s.length≤6∧(s.head?≠some 48∨s.length=1)∧∀ c∈s,isD c=true
instance (s:List UInt8):Decidable (ZtF s):=by unfold ZtF;infer_instance
def rd (s:List UInt8):Option Nat:=if ZtF s then some (val s) else none
theorem Zyh:∀ (k:Nat) (s:List UInt8),s.length≤k→(∀ c∈s,isD c=true)→val s<10 ^ k
 | 0,s,h,_=>by
  have:s=[]:=Ks (by omega);subst this;simp[val]
 | k+1,s,h,hd=>by
  rcases Zqq s with rfl | ⟨t,c,rfl⟩
  ·have:0<10 ^ (k+1):=Nat.pow_pos (by omega);simpa [val] using this
  ·rw[ZkT];have:=Zyh k t (by simp at h;omega) (fun x hx=>hd x (by simp[hx]));have hc:=hd c (by simp);simp only[isD,Ko] at hc;rw[Nat.pow_succ];generalize 10 ^ k=m at this ⊢;omega
theorem ZhH {n:Nat} (h:n≤999999):rd (num n)=some n:=by
 have h6:=X6 5 n (by omega);have:ZtF (num n):=by
  refine⟨Zyg n,h6,?_,Zol n⟩;by_cases h0:n=0
  ·right;subst h0;rw[Wp (by omega)];rfl
  ·left;exact ZBP (by omega)
 rw[rd,Kh this,Zza]
theorem Zd9 {s:List UInt8} {n:Nat} (h:rd s=some n):s=num n∧n≤999999:=by
 unfold rd at h;split at h
 ·rename_i hn;cases h;obtain⟨h1,h2,h3,h4⟩:=hn;have:=Zyh 6 s h2 h4;exact⟨(Zzb s.length s (Kt _) h4 h1 h3).symm,by omega⟩
 ·cases h
def Z8 (c:UInt8):List UInt8→List (List UInt8)
 | []=>[[]]
 | x :: r=>if x=c then [] :: Z8 c r else match Z8 c r with
  | []=>[[x]]
  | p :: q=>(x :: p) :: q
def Yb (c:UInt8):List (List UInt8)→List UInt8
 | []=>[]
 | [x]=>x
 | x :: y :: r=>x++c :: Yb c (y :: r)
theorem ZcU (c:UInt8):∀ s,Z8 c s≠[]
 | []=>by simp[Z8]
 | x :: r=>by
  unfold Z8;split
  ·simp
  ·split<;>simp
theorem Zqr (c:UInt8):∀ s,Yb c (Z8 c s)=s
 | []=>rfl
 | x :: r=>by
  have ih:=Zqr c r;unfold Z8;split
  ·rename_i h;cases hs:Z8 c r with
   | nil=>exact absurd hs (ZcU c r)
   | cons p q=>rw[hs] at ih;simp[Yb,ih,h]
  ·split
   ·rename_i hs;exact absurd hs (ZcU c r)
   ·rename_i p q hs;rw[hs] at ih;cases q with
    | nil=>simp only[Yb] at ih ⊢;rw[ih]
    | cons y q=>simp only[Yb,Kv] at ih ⊢;rw[ih]
theorem ZdA {c:UInt8}:∀ {s:List UInt8},c∉s→Z8 c s=[s]
 | [],_=>rfl
 | x :: r,h=>by
  simp only[Kd,not_or] at h;rw[Z8,Ke (fun e=>h.1 e.symm),ZdA h.2]
theorem Zl8 {c:UInt8}:∀ {a:List UInt8} {b:List UInt8},c∉a→Z8 c (a++c :: b)=a :: Z8 c b
 | [],b,_=>by simp[Z8]
 | x :: r,b,h=>by
  simp only[Kd,not_or] at h;rw[Kv,Z8,Ke (fun e=>h.1 e.symm),Zl8 h.2]
theorem Zqs {c:UInt8}:∀ {ws:List (List UInt8)},ws≠[]→(∀ w∈ws,c∉w)→Z8 c (Yb c ws)=ws
 | [],h,_=>absurd rfl h
 | [x],_,h=>ZdA (h x (by simp))
 | x :: y :: r,_,h=>by
  rw[Yb,Zl8 (h x (by simp)),Zqs (by simp) (fun w hw=>h w (by simp[hw]))]
def QS (c:UInt8):List UInt8→Option Nat
 | []=>none
 | x :: r=>if x=c then some 0 else (QS c r).map (·+1)
theorem ZkU {c:UInt8}:∀ {s:List UInt8},QS c s=none↔c∉s
 | []=>by simp[QS]
 | x :: r=>by
  unfold QS;split
  ·rename_i h;simp[h]
  ·rename_i h;simp[ZkU (s:=r),Ne.symm h]
theorem Zaq {c:UInt8}:∀ {s:List UInt8} {i:Nat},QS c s=some i→s=s.take i++c :: s.drop (i+1)∧c∉s.take i∧i<s.length
 | [],i,h=>by simp[QS] at h
 | x :: r,i,h=>by
  unfold QS at h;split at h
  ·rename_i hx;cases h;simp[hx]
  ·rename_i hx;cases hr:QS c r with
   | none=>rw[hr] at h;simp at h
   | some j=>
    rw[hr] at h;simp at h;subst h;obtain⟨h1,h2,h3⟩:=Zaq hr;refine⟨?_,?_,by simp;omega⟩
    ·simp only[LN,List.drop_succ_cons,Kv];rw[← h1]
    ·simp only[LN,Kd,not_or];exact⟨fun e=>hx e.symm,h2⟩
theorem ZcV (c:UInt8) (s:List UInt8):Z8 c s=match QS c s with
  | none=>[s]
  | some i=>s.take i :: Z8 c (s.drop (i+1)):=by
 cases h:QS c s with
 | none=>exact ZdA (ZkU.1 h)
 | some i=>
  obtain⟨h1,h2,_⟩:=Zaq h;simp only;rw[h1,Zl8 h2,← h1]
def shw:BT→List UInt8
 | .waste=>[119]
 | .pane i t=>(if t then 116 else 112) :: num i.toNat
 | .cut d a l r=>(if d then 100 else 97) :: (num a.toNat++40 :: (shw l++44 :: (shw r++[41])))
def VY:BT→Bool
 | .waste=>true
 | .pane i _=>decide (0≤i∧i≤24)
 | .cut _ a l r=>decide (0≤a∧a≤200)&&VY l&&VY r
def ZkV:BT→Bool
 | .waste=>true
 | .pane i _=>decide (0≤i∧i≤999999)
 | .cut _ a l r=>decide (0≤a∧a≤999999)&&ZkV l&&ZkV r
theorem Zgd:∀ b:BT,VY b=true→ZkV b=true
 | .waste,_=>rfl
 | .pane i t,h=>by simp only[VY,ZkV,Ko] at h ⊢;omega
 | .cut d a l r,h=>by
  simp only[VY,ZkV,Kf,Ko] at h ⊢;exact⟨⟨by omega,Zgd l h.1.2⟩,Zgd r h.2⟩
def JE (x:UInt8):List UInt8→Option (List UInt8)
 | y :: r=>if y=x then some r else none
 | []=>none
def Zm2 (d:Bool) (v:Nat) (rec:List UInt8→Option (BT×List UInt8)) (r:List UInt8):Option (BT×List UInt8):=
 (JE 40 r).bind fun r1=>(rec r1).bind fun p=>(JE 44 p.2).bind fun r3=>(rec r3).bind fun q=>(JE 41 q.2).bind fun r5=>some (.cut d v p.1 q.1,r5)
def Zm3 (c:UInt8) (v:Nat) (rec:List UInt8→Option (BT×List UInt8)) (r:List UInt8):Option (BT×List UInt8):=
 if c=112 then some (.pane v false,r) else if c=116 then some (.pane v true,r) else if c=100 then Zm2 true v rec r else if c=97 then Zm2 false v rec r else none
def tk:Nat→List UInt8→Option (BT×List UInt8)
 | 0,_=>none
 | _+1,[]=>none
 | n+1,c :: s=>if c=119 then some (.waste,s) else (rd (s.takeWhile isD)).bind fun v=>Zm3 c v (tk n) (s.dropWhile isD)
theorem ZbO {x:UInt8} {s r:List UInt8} (h:JE x s=some r):s=x :: r:=by
 cases s with
 | nil=>simp[JE] at h
 | cons y t=>simp only[JE] at h;split at h<;>simp_all
theorem ZCV {s:List UInt8} {v:Nat} (h:rd (s.takeWhile isD)=some v):s=num v++s.dropWhile isD∧v≤999999:=by
 obtain⟨h1,h2⟩:=Zd9 h;exact⟨by rw[← h1,Lv],h2⟩
theorem Zm4 {d:Bool} {v:Nat} {ab:List UInt8→Option (BT×List UInt8)} (aa:∀ s b r,ab s=some (b,r)→s=shw b++r∧ZkV b=true) (hv:v≤999999) {r:List UInt8} {b:BT} {t:List UInt8} (h:Zm2 d v ab r=some (b,t)) :
  ∃ x y,b=.cut d v x y∧r=40 :: (shw x++44 :: (shw y++41 :: t))∧ZkV b=true:=by
 unfold Zm2 at h;simp only[KV] at h;obtain⟨r1,h1,⟨x,r2⟩,h2,r3,h3,⟨y,r4⟩,h4,r5,h5,h6⟩:=h;simp only[Option.some.injEq,Prod.mk.injEq] at h6;obtain⟨rfl,rfl⟩:=h6;obtain⟨e2,s2⟩:=aa _ _ _ h2;obtain⟨e4,s4⟩:=aa _ _ _ h4;have e1:=ZbO h1;have e3:=ZbO h3;have e5:=ZbO h5;refine⟨x,y,rfl,?_,?_⟩
 ·simp only at e3 e5;rw[e1,e2,e3,e4,e5]
 ·simp only[ZkV,s2,s4,LZ,Ko];omega
theorem ZhI:∀ (n:Nat) (s:List UInt8) (b:BT) (r:List UInt8),tk n s=some (b,r)→s=shw b++r∧ZkV b=true
 | 0,s,b,r,h=>by simp[tk] at h
 | n+1,[],b,r,h=>by simp[tk] at h
 | n+1,c :: s,b,r,h=>by
  simp only[tk] at h;split at h
  ·rename_i hc;cases h;exact⟨by simp[shw,hc],rfl⟩
  ·simp only[KV] at h;obtain⟨v,h1,h⟩:=h;obtain⟨e1,hv⟩:=ZCV h1;unfold Zm3 at h;split at h
   ·rename_i hc;cases h;refine⟨?_,by simp only[ZkV,Ko];omega⟩;simp only[shw,KB,Ka,Kq,Kv];rw[← e1,hc]
   ·split at h
    ·rename_i hc;cases h;refine⟨?_,by simp only[ZkV,Ko];omega⟩;simp only[shw,KB,Km,Kv];rw[← e1,hc]
    ·split at h
     ·rename_i hc;obtain⟨x,y,rfl,e2,hs⟩:=Zm4 (ZhI n) hv h;refine⟨?_,hs⟩;rw[e1,e2,hc];simp[shw,KB]
     ·split at h
      ·rename_i hc;obtain⟨x,y,rfl,e2,hs⟩:=Zm4 (ZhI n) hv h;refine⟨?_,hs⟩;rw[e1,e2,hc];simp[shw,KB]
      ·cases h
def noDig (r:List UInt8):Prop:=∀ c t,r=c :: t→isD c=false
theorem ZwJ (v:Nat) {r:List UInt8} (h:noDig r):(num v++r).takeWhile isD=num v∧(num v++r).dropWhile isD=r:=by
 have aa:∀ l:List UInt8,(∀ c∈l,isD c=true)→(l++r).takeWhile isD=l∧(l++r).dropWhile isD=r:=by
  intro l
  induction l with
  | nil=>
   intro _;cases r with
   | nil=>simp
   | cons c t=>have:=h c t rfl;simp[this]
  | cons c l ih=>
   intro hl;have:=ih (fun x hx=>hl x (by simp[hx]));simp only[Kv,List.takeWhile_cons,List.dropWhile_cons,hl c (by simp),Km,this.1,this.2,and_self]
 exact aa _ (Zol v)
theorem ZCW (b:BT):1≤(shw b).length:=by cases b<;>simp[shw]
theorem ZhJ:∀ (n:Nat) (b:BT) (r:List UInt8),(shw b).length≤n→ZkV b=true→noDig r→tk n (shw b++r)=some (b,r)
 | 0,b,r,hn,_,_=>by have:=ZCW b;omega
 | n+1,.waste,r,_,_,_=>by simp[shw,tk]
 | n+1,.pane i t,r,hn,hs,hr=>by
  simp only[ZkV,Ko] at hs;obtain⟨h1,h2⟩:=ZwJ i.toNat hr;have hi:((i.toNat:Nat):Int)=i:=by omega
  have aa:=ZhH (n:=i.toNat) (by omega);cases t
  ·simp[shw,tk,Zm3,h1,h2,aa,hi]
  ·simp[shw,tk,Zm3,h1,h2,aa,hi]
 | n+1,.cut d a x y,r,hn,hs,hr=>by
  simp only[ZkV,Kf,Ko] at hs;obtain⟨⟨ha,hx⟩,hy⟩:=hs;simp only[shw,Kp,Kr,KO] at hn;have aa:=ZhH (n:=a.toNat) (by omega);have hi:((a.toNat:Nat):Int)=a:=by omega
  have e2:=ZhJ n y (41 :: r) (by omega) hy (fun c t e=>by cases e;rfl);have e1:=ZhJ n x (44 :: (shw y++41 :: r)) (by omega) hx (fun c t e=>by cases e;rfl);obtain⟨h1,h2⟩:=ZwJ a.toNat (r:=40 :: (shw x++44 :: (shw y++41 :: r))) (fun c t e=>by cases e;rfl);have ab:Zm2 d a.toNat (tk n) (40 :: (shw x++44 :: (shw y++41 :: r)))=some (.cut d a x y,r):=by
   simp[Zm2,JE,e1,e2,hi]
  have e:shw (.cut d a x y)++r=(if d then 100 else 97) :: (num a.toNat++40 :: (shw x++44 :: (shw y++41 :: r))):=by simp[shw]
  rw[e,tk];cases d
  ·rw[Ke (by decide),h1,aa,h2];simp only[KM,Zm3];rw[Ke (by decide),Ke (by decide),Ke (by decide),Kh (by decide),ab]
  ·rw[Ke (by decide),h1,aa,h2];simp only[KM,Zm3];rw[Ke (by decide),Ke (by decide),Kh (by decide),ab]
def Zl9 (s:List UInt8):Option BT:=match tk s.length s with
 | some (b,[])=>if b.cnt≤255∧VY b=true then some b else none
 | _=>none
theorem ZhK {s:List UInt8} {b:BT}:Zl9 s=some b↔s=shw b∧b.cnt≤255∧VY b=true:=by
 unfold Zl9;constructor
 ·intro h;split at h
  ·rename_i b' h1;split at h
   ·rename_i hc;cases h;obtain⟨e,_⟩:=ZhI _ _ _ _ h1;exact⟨by simpa using e,hc⟩
   ·cases h
  ·cases h
 ·rintro ⟨rfl,hc⟩
  have:=ZhJ (shw b).length b [] (Kt _) (Zgd b hc.2) (fun c t e=>by cases e);rw[KY] at this;rw[this];simp[hc]
theorem ZAu {b:BT} (h:b.cnt≤255) (hc:VY b=true):Zl9 (shw b)=some b:=ZhK.2 ⟨rfl,h,hc⟩
theorem ZwK (b:BT):∃ o a q t ks,b.plan=.mk o a q t ks:=by cases b.plan;exact⟨_,_,_,_,_,rfl⟩
theorem tdiv10 (n:Nat):((n:Int)).tdiv 10=((n / 10:Nat):Int):=by rw[Int.tdiv_eq_ediv_of_nonneg (by omega)];omega
theorem tmod10 (n:Nat):((n:Int)).tmod 10=((n % 10:Nat):Int):=by rw[Int.tmod_eq_emod_of_nonneg (by omega)];omega
theorem W0 (n:Nat):n≤999999999→Ze Xs Ms Z2 [(.d (J n))] []=some (.d (.str (num n)),[]):=by
 induction n using Nat.strongRecOn with
 | ind n ih=>
  intro hn;by_cases h:n<10
  ·rw[Wp h];have h' : (n:Int)<10:=by omega
   have hw:(n:Int)+1=((n+1:Nat):Int):=by omega
   have a3:=wi 3 (by decide) (by decide);have a4:=wi 4 (by decide) (by decide);have a5:=wi 5 (by decide) (by decide);have a6:=wi 6 (by decide) (by decide);have a7:=wi 7 (by decide) (by decide);have a8:=wi 8 (by decide) (by decide);have a9:=wi 9 (by decide) (by decide);have aa:=wi 10 (by decide) (by decide);refine cE ?_;rcases (show n=0∨n=1∨n=2∨n=3∨n=4∨n=5∨n=6∨n=7∨n=8∨n=9 by omega) with rfl | rfl | rfl | rfl | rfl | rfl | rfl | rfl | rfl | rfl<;>simp +contextual -implicitDefEqProofs (maxSteps:=10^7) only[go_sem,seval,↓gZ,Zgo,a3,a4,a5,a6,a7,a8,a9,aa]<;>rfl
  ·have hb:num n=num (n / 10)++num (n % 10):=by rw[Zgc h,Wp (by omega:n % 10<10)]
   rw[hb];have h' : ¬(n:Int)<10:=by omega
   have e1:=ih (n / 10) (by omega) (by omega);have e2:=ih (n % 10) (by omega) (by omega);have l1:=X6 8 (n / 10) (by omega);have l2:=X6 8 (n % 10) (by omega);have hs:(num (n / 10)).length+(num (n % 10)).length≤1152921504606846976:=by omega
   have w1:=wi (n / 10:Nat) (by omega) (by omega);refine cE ?_;simp +contextual -implicitDefEqProofs (maxSteps:=10^7) only[go_sem,seval,↓gZ,Zgo,h',tdiv10,tmod10,w1,e1,e2,hs]
theorem Zar:∀ b:BT,Ze Xs Ms Wq [.d b.plan.enc] []=some ((.d (.bool (VY b))),[])
 | .waste=>by
  simp only[BT.plan,VY];refine cE ?_;simp +contextual -implicitDefEqProofs (maxSteps:=10^7) only[go_sem,seval,↓gZ,Jj,Zv];refine ZM Xs Ms ?_;simp +contextual -implicitDefEqProofs (maxSteps:=10^7) only[go_sem,seval,↓gZ,Zv]
 | .pane i t=>by
  simp only[BT.plan,VY];refine cE ?_;simp +contextual -implicitDefEqProofs (maxSteps:=10^7) only[go_sem,seval,↓gZ,Jj,Zv];refine ZM Xs Ms ?_;simp +contextual -implicitDefEqProofs (maxSteps:=10^7) only[go_sem,seval,↓gZ,Zv]
 | .cut d a l r=>by
  have e1:=Zar l;have e2:=Zar r;simp only[BT.plan,VY];refine cE ?_;simp +contextual -implicitDefEqProofs (maxSteps:=10^7) only[go_sem,seval,↓gZ,Jj,Zv];refine ZM Xs Ms ?_;cases hl:VY l with
  | false=>
   rw[hl] at e1;simp +contextual -implicitDefEqProofs (maxSteps:=10^7) only[go_sem,seval,↓gZ,e1]
  | true=>
   rw[hl] at e1;simp +contextual -implicitDefEqProofs (maxSteps:=10^7) only[go_sem,seval,↓gZ,e1];refine ZM Xs Ms ?_;cases hr:VY r with
   | false=>
    rw[hr] at e2;simp +contextual -implicitDefEqProofs (maxSteps:=10^7) only[go_sem,seval,↓gZ,e2]
   | true=>
    rw[hr] at e2;simp +contextual -implicitDefEqProofs (maxSteps:=10^7) only[go_sem,seval,↓gZ,e2];refine ZM Xs Ms ?_;simp +contextual -implicitDefEqProofs (maxSteps:=10^7) only[go_sem,seval,↓gZ,Zv]
theorem Ju:∀ b:BT,Ze Xs Ms Yw [.d b.plan.enc] []=some ((.d (.bool (VY b))),[])
 | .waste=>by
  simp only[BT.plan,VY];refine cE ?_;simp +contextual -implicitDefEqProofs (maxSteps:=10^7) only[go_sem,seval,↓gZ,Xk];refine ZM Xs Ms ?_;simp +contextual -implicitDefEqProofs (maxSteps:=10^7) only[go_sem,seval,↓gZ]
 | .pane i t=>by
  simp only[BT.plan,VY];refine cE ?_;by_cases h1:i<0
  ·have aa : ¬0≤i:=by omega
   simp +contextual -implicitDefEqProofs (maxSteps:=10^7) only[go_sem,seval,↓gZ,Xk,h1,aa]
  ·have aa : 0≤i:=by omega
   by_cases h2:i>24
   ·have ab : ¬i≤24:=by omega
    simp +contextual -implicitDefEqProofs (maxSteps:=10^7) only[go_sem,seval,↓gZ,Xk,h1,aa,h2,ab]
   ·have ab : i≤24:=by omega
    simp +contextual -implicitDefEqProofs (maxSteps:=10^7) only[go_sem,seval,↓gZ,Xk,h1,aa,h2,ab];refine ZM Xs Ms ?_;simp +contextual -implicitDefEqProofs (maxSteps:=10^7) only[go_sem,seval,↓gZ]
 | .cut d a l r=>by
  have e1:=Ju l;have e2:=Ju r;obtain⟨o1,a1,q1,t1,k1,ad⟩:=ZwK l;obtain⟨o2,a2,q2,t2,k2,ae⟩:=ZwK r;rw[ad,Zf.enc_mk] at e1;rw[ae,Zf.enc_mk] at e2;simp only[BT.plan,VY,ad,ae];refine cE ?_;by_cases h1:a<0
  ·have aa : ¬0≤a:=by omega
   simp +contextual -implicitDefEqProofs (maxSteps:=10^7) only[go_sem,seval,↓gZ,Xk,h1,aa]
  ·have aa : 0≤a:=by omega
   by_cases h2:a>200
   ·have ab : ¬a≤200:=by omega
    simp +contextual -implicitDefEqProofs (maxSteps:=10^7) only[go_sem,seval,↓gZ,Xk,h1,aa,h2,ab]
   ·have ab : a≤200:=by omega
    simp +contextual -implicitDefEqProofs (maxSteps:=10^7) only[go_sem,seval,↓gZ,Xk,h1,aa,h2,ab];refine ZM Xs Ms ?_;cases hl:VY l with
    | false=>
     rw[hl] at e1;simp +contextual -implicitDefEqProofs (maxSteps:=10^7) only[go_sem,seval,↓gZ,e1]
    | true=>
     rw[hl] at e1;simp +contextual -implicitDefEqProofs (maxSteps:=10^7) only[go_sem,seval,↓gZ,e1];refine ZM Xs Ms ?_;cases hr:VY r with
     | false=>
      rw[hr] at e2;simp +contextual -implicitDefEqProofs (maxSteps:=10^7) only[go_sem,seval,↓gZ,e2]
     | true=>
      rw[hr] at e2;simp +contextual -implicitDefEqProofs (maxSteps:=10^7) only[go_sem,seval,↓gZ,e2];refine ZM Xs Ms ?_;simp +contextual -implicitDefEqProofs (maxSteps:=10^7) only[go_sem,seval,↓gZ]
theorem Zge:∀ b:BT,VY b=true→(shw b).length≤13*b.cnt
 | .waste,_=>by simp[shw,BT.cnt]
 | .pane i t,h=>by
  simp only[VY,Ko] at h;have:=X6 1 i.toNat (by omega);simp[shw,BT.cnt];omega
 | .cut d a l r,h=>by
  simp only[VY,Kf,Ko] at h;have h1:=Zge l h.1.2;have h2:=Zge r h.2;have:=X6 2 a.toNat (by omega);simp[shw,BT.cnt];omega
theorem U4:∀ b:BT,VY b=true→b.cnt≤1000000→Ze Xs Ms YU [.d b.plan.enc] []=some (.d (.str (shw b)),[])
 | .waste,_,_=>by
  simp only[BT.plan,shw];refine cE ?_;simp +contextual -implicitDefEqProofs (maxSteps:=10^7) only[go_sem,seval,↓gZ,ZaT]
 | .pane i t,h,_=>by
  simp only[VY,Ko] at h;have e1:=W0 i.toNat (by omega);rw[K7 h.1] at e1;have l1:=X6 1 i.toNat (by omega);have hs:1+(num i.toNat).length≤1152921504606846976:=by omega
  simp only[BT.plan,shw];refine cE ?_;cases t<;>simp +contextual -implicitDefEqProofs (maxSteps:=10^7) only[go_sem,seval,↓gZ,ZaT,e1,hs]
 | .cut d a l r,h,hc=>by
  have hL:=Zge _ h;simp only[VY,Kf,Ko] at h;simp only[BT.cnt] at hc hL;have e1:=W0 a.toNat (by omega);rw[K7 h.1.1.1] at e1;have e2:=U4 l h.1.2 (by omega);have e3:=U4 r h.2 (by omega);have l1:=X6 2 a.toNat (by omega);simp only[shw,Kp,Kr,KO] at hL;obtain⟨x,hx⟩:∃ x,num a.toNat=x:=⟨_,rfl⟩
  obtain⟨y,hy⟩:∃ y,shw l=y:=⟨_,rfl⟩
  obtain⟨z,hz⟩:∃ z,shw r=z:=⟨_,rfl⟩
  simp only[BT.plan,shw];rw[hx] at e1 l1 hL ⊢;rw[hy] at e2 hL ⊢;rw[hz] at e3 hL ⊢;have g1:1+x.length≤1152921504606846976:=by omega
  have g2:x.length≤1152921504606846974:=by omega
  have g3:x.length+1+1+y.length≤1152921504606846976:=by omega
  have g4:x.length+1+y.length≤1152921504606846974:=by omega
  have g5:x.length+1+y.length+1+1+z.length≤1152921504606846976:=by omega
  have g6:x.length+1+y.length+1+z.length≤1152921504606846974:=by omega
  refine cE ?_;cases d<;>simp +contextual -implicitDefEqProofs (maxSteps:=10^7) only[go_sem,seval,↓gZ,ZaT,VT,e1,e2,e3,g1,g2,g3,g4,g5,g6]<;>simp
theorem ZCX (n:Nat):Lib.decDigits n=num n:=by
 induction n using Nat.strongRecOn with
 | ind n ih=>
  rw[Lib.decDigits,num];by_cases h:n<10
  ·rw[dif_pos h,Kh h]
  ·rw[dif_neg h,Ke h,ih (n / 10) (by omega)]
theorem Qg (n:Int) (h0:0≤n) (h1:n≤999999999):Ze Xs Ms ZT [(.d (J n))] []=some (.d (.str (num n.toNat)),[]):=by
 refine VU Xs Ms Zqu ?_;unfold Zte;simp only;rw[Kh ⟨h0,by omega⟩,ZCX]
theorem Z9 (l:List UInt8) (n:Int) (c:UInt8) (hc:(c.toNat:Int)=n) (hl:l.length≤1000000000):Ze Xs Ms Zo [.ptr 0 0,.d (.int .u8 n)] [.box [.bnil 0 TB,.bbuf 5 l]]=some (.nili,[.box [.bnil 0 TB,.bbuf 5 (l++[c])]]):=by
 refine VU Xs Ms ZcI ?_;have aa:=c.toNat_lt;unfold Ztb;simp only;rw[Kh ⟨trivial,trivial,by unfold Zb8;omega,by omega,by omega⟩];have e:UInt8.ofNat n.toNat=c:=by rw[← hc,KB,UInt8.ofNat_toNat]
 rw[e]
theorem Xh (l s:List UInt8) (h0:0<s.length) (hl:l.length+s.length≤1000000000):Ze Xs Ms ZA [.ptr 0 0,.d (.str s)] [.box [.bnil 0 TB,.bbuf 5 l]]=some (.tup [(.d (J (s.length))),.nili],[.box [.bnil 0 TB,.bbuf 5 (l++s)]]):=by
 refine VU Xs Ms ZbP ?_;unfold ZAe;simp only;rw[Kh ⟨trivial,trivial,by omega,by unfold Zb8;omega⟩]
theorem Zas (l:List UInt8):Ze Xs Ms Z3 [.ptr 0 0] [.box [.bnil 0 TB,.bbuf 5 l]]=some (.d (.str l),[.box [.bnil 0 TB,.junk]]):=by
 refine VU Xs Ms Zez ?_;unfold Ztc;simp only;rw[Kh ⟨trivial,trivial⟩]
theorem Zom (n:Nat):0<(num n).length:=List.length_pos_iff.2 (Zyg n)
theorem ZdB:∀ (b:BT) (l:List UInt8),VY b=true→l.length+(shw b).length≤100000000→Ze Xs Ms Y5 [.ptr 0 0,.d b.plan.enc] [.box [.bnil 0 TB,.bbuf 5 l]]=some (.tup [],[.box [.bnil 0 TB,.bbuf 5 (l++shw b)]])
 | .waste,l,_,hl=>by
  simp only[shw,Kp,KO] at hl;have e1:=Z9 l 119 119 rfl (by omega);simp only[BT.plan,shw];refine cE ?_;simp +contextual -implicitDefEqProofs (maxSteps:=10^7) only[go_sem,seval,↓gZ,Va,e1]
 | .pane i t,l,h,hl=>by
  simp only[VY,Ko] at h;simp only[shw,Kp] at hl;have e2:=Qg i h.1 (by omega);have l1:=Zom i.toNat;simp only[BT.plan,shw];refine cE ?_;cases t with
  | false=>
   have e1:=Z9 l 112 112 rfl (by omega);have e3:=Xh (l++[112]) (num i.toNat) l1 (by simp;omega);simp +contextual -implicitDefEqProofs (maxSteps:=10^7) only[go_sem,seval,↓gZ,Va,e1,e2,e3];simp
  | true=>
   have e1:=Z9 l 116 116 rfl (by omega);have e3:=Xh (l++[116]) (num i.toNat) l1 (by simp;omega);simp +contextual -implicitDefEqProofs (maxSteps:=10^7) only[go_sem,seval,↓gZ,Va,e1,e2,e3];simp
 | .cut d a x y,l,h,hl=>by
  simp only[VY,Kf,Ko] at h;simp only[shw,Kp,Kr,KO] at hl;have l1:=Zom a.toNat;have aa:∀ (n:Int) (c:UInt8),(c.toNat:Int)=n→True:=fun _ _ _=>trivial;have e2:=Qg a h.1.1.1 (by omega);have g1:=Z9 l (if d then 100 else 97) (if d then 100 else 97) (by cases d<;>rfl) (by omega);have g2:=Xh (l++[if d then 100 else 97]) (num a.toNat) l1 (by simp;omega);have g3:=Z9 (l++[if d then 100 else 97]++num a.toNat) 40 40 rfl (by simp;omega);have g4:=ZdB x (l++[if d then 100 else 97]++num a.toNat++[40]) h.1.2 (by simp;omega);have g5:=Z9 (l++[if d then 100 else 97]++num a.toNat++[40]++shw x) 44 44 rfl (by simp;omega)
  have g6:=ZdB y (l++[if d then 100 else 97]++num a.toNat++[40]++shw x++[44]) h.2 (by simp;omega);have g7:=Z9 (l++[if d then 100 else 97]++num a.toNat++[40]++shw x++[44]++shw y) 41 41 rfl (by simp;omega);simp only[BT.plan,shw];refine cE ?_;cases d with
  | true=>
   simp only[Km] at g1 g2 g3 g4 g5 g6 g7;simp +contextual -implicitDefEqProofs (maxSteps:=10^7) only[go_sem,seval,↓gZ,Va,VT,e2,g1,g2,g3,g4,g5,g6,g7];simp
  | false=>
   simp only[Ka,Kq] at g1 g2 g3 g4 g5 g6 g7;simp +contextual -implicitDefEqProofs (maxSteps:=10^7) only[go_sem,seval,↓gZ,Va,VT,e2,g1,g2,g3,g4,g5,g6,g7];simp
def Zyi (p:Zf):List UInt8:=match QP p with
 | some b=>if b.cnt≤255∧VY b=true then shw b else []
 | none=>[]
theorem ZtG {p:Zf} (h:QP p=none):Zyi p=[]:=by unfold Zyi;rw[h]
theorem Zma {p:Zf} {b:BT} (h:QP p=some b):Zyi p=if b.cnt≤255∧VY b=true then shw b else []:=by unfold Zyi;rw[h]
theorem ZnG (p:Zf):Ze Xs Ms W4 [.d p.enc] []=some (.d (.str (Zyi p)),[]):=by
 have e1:=Zet p;cases hp:QP p with
 | none=>
  rw[ZtG hp];rw[hp,show Zx 255 none=-1 from rfl] at e1;obtain⟨o,a,q,t,ks⟩:=p;rw[Zf.enc_mk] at e1 ⊢;refine cE ?_;simp +contextual -implicitDefEqProofs (maxSteps:=10^7) only[go_sem,seval,↓gZ,VE,e1]
 | some b=>
  rw[Zma hp];rw[hp] at e1;obtain rfl:=Uj hp;have e2:=Ju b;rcases Q8 255 b with ⟨hc,hs⟩ | ⟨hc,hs⟩
  ·rw[hs] at e1;have h0:¬(b.cnt:Int)<0:=by omega
   cases hb:VY b with
   | false=>
    rw[hb] at e2;rw[Ke (fun h=>by cases h.2)];obtain⟨o,a,q,t,ks,hk⟩:=ZwK b;rw[hk,Zf.enc_mk] at e1 e2 ⊢;refine cE ?_;simp +contextual -implicitDefEqProofs (maxSteps:=10^7) only[go_sem,seval,↓gZ,VE,e1,e2,h0]
   | true=>
    rw[hb] at e2;rw[Kh ⟨by omega,rfl⟩];have hl:=Zge b hb;have e3:=ZdB b [] hb (by simp;omega);have e4:=Zas ([]++shw b);obtain⟨o,a,q,t,ks,hk⟩:=ZwK b;rw[hk,Zf.enc_mk] at e1 e2 e3 ⊢;rw[Le] at e3 e4;refine cE ?_;simp +contextual -implicitDefEqProofs (maxSteps:=10^7) only[go_sem,seval,↓gZ,VE,e1,e2,e3,e4,h0]
  ·rw[hs] at e1;rw[Ke (fun h=>by omega)];obtain⟨o,a,q,t,ks,hk⟩:=ZwK b;rw[hk,Zf.enc_mk] at e1 ⊢;refine cE ?_;simp +contextual -implicitDefEqProofs (maxSteps:=10^7) only[go_sem,seval,↓gZ,VE,e1]
theorem ZuJ (x c:UInt8) (r:List UInt8) (hr:r.length≤1000000000):Ze Xs Ms ZX [.d (.str (x :: r)),.d (.str [c])] []=some ((.d (.bool ([x]==[c]))),[]):=by
 have h1:(1:Int)≤((r.length+1:Nat):Int):=by omega
 refine cE ?_;simp +contextual -implicitDefEqProofs (maxSteps:=10^7) only[go_sem,seval,↓gZ,Qx,h1]
theorem ZrE (c:UInt8):Ze Xs Ms ZX [.d (.str []),.d (.str [c])] []=some ((.d (.bool false)),[]):=by
 refine cE ?_;simp +contextual -implicitDefEqProofs (maxSteps:=10^7) only[go_sem,seval,↓gZ,Qx]
def ZuK (s:List UInt8) (c:UInt8):AV:=match JE c s with
 | some r=>.tup [.d (.str r),(.d (.bool true))]
 | none=>.tup [.d (.str s),(.d (.bool false))]
theorem Zey (s:List UInt8) (c:UInt8) (hr:s.length≤1000000000):Ze Xs Ms Qa [.d (.str s),.d (.str [c])] []=some (ZuK s c,[]):=by
 cases s with
 | nil=>
  have e1:=ZrE c;simp only[ZuK,JE];refine cE ?_;simp +contextual -implicitDefEqProofs (maxSteps:=10^7) only[go_sem,seval,↓gZ,Qc,e1]
 | cons x r=>
  have e1:=ZuJ x c r (by simp at hr;omega);by_cases h:x=c
  ·subst h;simp only[ZuK,JE,Km];rw[show ([x]==[x])=true by simp] at e1;have h1:(1:Int)≤((r.length+1:Nat):Int):=by omega
   have h2:r.take r.length=r:=K1;refine cE ?_;simp +contextual -implicitDefEqProofs (maxSteps:=10^7) only[go_sem,seval,↓gZ,Qc,e1,h1,h2]
  ·rw[show ([x]==[c])=false by simp[h]] at e1;simp only[ZuK,JE,Ke h];refine cE ?_;simp +contextual -implicitDefEqProofs (maxSteps:=10^7) only[go_sem,seval,↓gZ,Qc,e1]
theorem W1 (s:List UInt8) (c:UInt8) (hr:s.length≤1000000000):Ze Xs Ms QT [.d (.str s),.d (.str [c])] []=some (ZuK s c,[]):=by
 have e1:=Zey s c hr;unfold ZuK at e1 ⊢;cases h:JE c s with
 | none=>
  rw[h] at e1;refine cE ?_;simp +contextual -implicitDefEqProofs (maxSteps:=10^7) only[go_sem,seval,↓gZ,Vg,e1]
 | some r=>
  rw[h] at e1;refine cE ?_;simp +contextual -implicitDefEqProofs (maxSteps:=10^7) only[go_sem,seval,↓gZ,Vg,e1]
theorem wu8 (x:Int) (h0:0≤x) (h1:x<256):IntKind.u8.wrap x=x:=by
 unfold IntKind.wrap;simp[IntKind.bits,IntKind.signed];omega
theorem rd_of {s:List UInt8} (h:ZtF s):rd s=some (val s):=by unfold rd;rw[Kh h]
theorem ZuL {s:List UInt8} (h:¬ZtF s):rd s=none:=by unfold rd;rw[Ke h]
theorem ZkW (c:UInt8):isD c=true↔¬(c.toNat:Int)<48∧¬(57:Int)<(c.toNat:Int):=by
 simp only[isD,Ko];omega
theorem ZkX {s:List UInt8} {k:Nat} {c:UInt8} (h:s[k]?=some c):val (s.take (k+1))=10*val (s.take k)+(c.toNat-48):=by
 obtain⟨hk,he⟩:=Kb.1 h;rw[Ls hk,ZkT,he]
def Zgf:Option Nat→AV
 | some v=>.tup [(.d (J ((v:Nat)))),(.d (.bool true))]
 | none=>.tup [(.d (J 0)),(.d (.bool false))]
theorem Jv (s:List UInt8):Ze Xs Ms Yu [.d (.str s)] []=some (Zgf (rd s),[]):=by
 by_cases h0:s=[]
 ·subst h0;rw[ZuL (fun h=>h.1 rfl)];simp only[Zgf];refine cE ?_;simp +contextual -implicitDefEqProofs (maxSteps:=10^7) only[go_sem,seval,↓gZ,VF]
 by_cases h6:s.length≤6
 ·obtain⟨x,r,hs⟩:=List.exists_cons_of_ne_nil h0;have al:s.length=r.length+1:=by rw[hs];rfl
  have ag : ¬(6:Int)<((r.length+1:Nat):Int):=by omega
  have hb:(x :: r==[])=false:=rfl;have ae:(x.toNat:Int)=48↔x=48:=by
   constructor
   ·intro h;apply UInt8.toNat_inj.1;simpa using (by omega:x.toNat=48)
   ·rintro rfl;rfl
  by_cases hz:(x.toNat:Int)=48∧(1:Int)<((r.length+1:Nat):Int)
  ·rw[ZuL (fun h=>by
    rcases h.2.2.1 with h | h
    ·rw[hs] at h;exact h (by rw[ae.1 hz.1];rfl)
    ·omega)]
   simp only[Zgf];obtain⟨am,an⟩:=hz;rw[hs];refine cE ?_;simp +contextual -implicitDefEqProofs (maxSteps:=10^7) only[go_sem,seval,↓gZ,VF,ag,hb,am,an]
  ·have af:s.head?≠some 48∨s.length=1:=by
    by_cases hl:s.length=1
    ·exact .inr hl
    ·refine .inl ?_;rw[hs];intro h;simp only[List.head?_cons,Option.some.injEq] at h;exact hz ⟨ae.2 h,by omega⟩
   generalize aa:Zgf (rd s)=res;rw[hs];refine cE ?_;simp +contextual -implicitDefEqProofs (maxSteps:=10^7) only[go_sem,seval,↓gZ,VF,ag,hb,hz];rw[← hs,show r.length+1=s.length by omega];refine LO (α:=Nat) (fun k=>[(25,.d (J (k:Int))),(4,.d (J (val (s.take k):Nat)))]) (fun _=>[]) (fun k=>k≤s.length∧∀ c∈s.take k,isD c=true) (fun k=>s.length-k) 0 (by simp) ?_;intro k ⟨hk,hd⟩ ih;have hv:=Zyh k (s.take k) (by simp;omega) hd;have hp:10 ^ k≤10 ^ 6:=Nat.pow_le_pow_right (by decide) (by omega);by_cases aj:k<s.length
   ·obtain⟨c,hc⟩:∃ c,s[k]?=some c:=⟨_,Kn aj⟩
    have ab : (k:Int)<(s.length:Int):=by omega
    by_cases hD:isD c=true
    ·have ak:=(ZkW c).1 hD;have au:(48:Int)≤c.toNat∧(c.toNat:Int)≤57:=by omega
     have w1:=wi (10*(val (s.take k):Nat)) (by omega) (by omega);have w2:=wu8 ((c.toNat:Int)-48) (by omega) (by omega);have w3:=wi ((c.toNat:Int)-48) (by omega) (by omega);have w4:IntKind.i64.wrap (10*(val (s.take k):Nat)+((c.toNat:Int)-48))=((val (s.take (k+1)):Nat):Int):=by
      rw[wi _ (by omega) (by omega),ZkX hc];omega
     have w5:=Zj (k:=k) (by omega);simp +contextual -implicitDefEqProofs (maxSteps:=10^7) only[go_sem,seval,↓gZ,ab,hc,ak.1,ak.2,w1,w2,w3,w4,w5];refine ih (k+1) _ ⟨by omega,fun d ad=>?_⟩ (by omega) ?_
     ·rw[Ls aj] at ad;rcases Kg.1 ad with ad | ad
      ·exact hd d ad
      ·simp only[KC] at ad;rw[ad,← (Kb.1 hc).2] at *;exact hD
     ·simp +contextual -implicitDefEqProofs (maxSteps:=10^7) only[go_sem,seval,↓gZ]
    ·have ao:rd s=none:=ZuL fun h=>hD (h.2.2.2 c (Kc hc));rw[ao] at aa;simp only[Zgf] at aa;subst aa;by_cases ah:(c.toNat:Int)<48
     ·simp +contextual -implicitDefEqProofs (maxSteps:=10^7) only[go_sem,seval,↓gZ,ab,hc,ah]
     ·have ap:(57:Int)<(c.toNat:Int):=Classical.byContradiction fun h=>hD ((ZkW c).2 ⟨ah,h⟩);simp +contextual -implicitDefEqProofs (maxSteps:=10^7) only[go_sem,seval,↓gZ,ab,hc,ah,ap]
   ·have aq:k=s.length:=by omega
    subst aq;rw[K1] at hd;have ai:rd s=some (val s):=rd_of ⟨h0,h6,af,hd⟩;rw[ai] at aa;simp only[Zgf] at aa;subst aa;have ht:s.take s.length=s:=K1;have ar:¬(s.length:Int)<(s.length:Int):=by omega
    simp +contextual -implicitDefEqProofs (maxSteps:=10^7) only[go_sem,seval,↓gZ,ht,ar]
 ·have ag : (6:Int)<(s.length:Int):=by omega
  have hb:(s==[])=false:=by
   cases s with
   | nil=>exact absurd rfl h0
   | cons x r=>rfl
  rw[ZuL (fun h=>h6 h.2.1)];simp only[Zgf];refine cE ?_;simp +contextual -implicitDefEqProofs (maxSteps:=10^7) only[go_sem,seval,↓gZ,VF,ag,hb]
theorem tw_in {p:UInt8→Bool}:∀ {s:List UInt8} {k:Nat},k<(s.takeWhile p).length→∃ c,s[k]?=some c∧p c=true
 | [],k,h=>by simp at h
 | x :: s,k,h=>by
  by_cases hx:p x=true
  ·rw[List.takeWhile_cons_of_pos hx] at h;cases k with
   | zero=>exact⟨x,rfl,hx⟩
   | succ k=>simpa using tw_in (s:=s) (k:=k) (by simpa using h)
  ·rw[List.takeWhile_cons_of_neg hx] at h;simp at h
theorem ZBQ {p:UInt8→Bool}:∀ {s:List UInt8},(s.takeWhile p).length=s.length∨∃ c,s[(s.takeWhile p).length]?=some c∧¬p c=true
 | []=>.inl rfl
 | x :: s=>by
  by_cases hx:p x=true
  ·rw[List.takeWhile_cons_of_pos hx];rcases ZBQ (p:=p) (s:=s) with h | ⟨c,h,h'⟩
   ·exact .inl (by simp[h])
   ·exact .inr ⟨c,by simpa using h,h'⟩
  ·rw[List.takeWhile_cons_of_neg hx];exact .inr ⟨x,rfl,hx⟩
theorem tw_le {p:UInt8→Bool} (s:List UInt8):(s.takeWhile p).length≤s.length:=List.IsPrefix.length_le (List.takeWhile_prefix p)
theorem ZCY (p:UInt8→Bool) (s:List UInt8):s.take (s.takeWhile p).length=s.takeWhile p:=by
 conv=>lhs;rw[← Lv (p:=p) (l:=s),Lv]
 exact(List.prefix_iff_eq_take.1 (List.takeWhile_prefix p)).symm
theorem ZCZ (p:UInt8→Bool) (s:List UInt8):s.drop (s.takeWhile p).length=s.dropWhile p:=by
 have h:=Lv (p:=p) (l:=s)
 conv=>lhs;arg 2;rw[← h]
 rw[List.drop_left]
def tnV (s:List UInt8):AV:=match rd (s.takeWhile isD) with
 | some v=>.tup [(.d (J ((v:Nat)))),.d (.str (s.dropWhile isD)),(.d (.bool true))]
 | none=>.tup [(.d (J 0)),.d (.str (s.dropWhile isD)),(.d (.bool false))]
theorem ZnH (s:List UInt8) (hs:s.length≤1000000):Ze Xs Ms W8 [.d (.str s)] []=some (tnV s,[]):=by
 have ai:=tw_le (p:=isD) s;generalize aa:tnV s=res;refine cE ?_;simp +contextual -implicitDefEqProofs (maxSteps:=10^7) only[go_sem,seval,↓gZ,ZdP];refine LO (α:=Nat) (fun k=>[(5,.d (J (k:Int)))]) (fun _=>[]) (fun k=>k≤(s.takeWhile isD).length) (fun k=>s.length-k) 0 (by omega) ?_;intro k hk ih;have w5:=Zj (k:=k) (by omega);have e1:=Jv (s.takeWhile isD);have d1:=ZCY isD s;have d2:=ZCZ isD s;have d3:s.take s.length=s:=K1;by_cases ab:k<(s.takeWhile isD).length
 ·obtain⟨c,hc,hD⟩:=tw_in ab;have ae : (k:Int)<(s.length:Int):=by omega
  have aj:=(ZkW c).1 hD;have h1:(48:Int)≤c.toNat:=by omega
  have h2:(c.toNat:Int)≤57:=by omega
  simp +contextual -implicitDefEqProofs (maxSteps:=10^7) only[go_sem,seval,↓gZ,ae,hc,h1,h2,w5];refine ih (k+1) _ (by omega) (by omega) ?_;simp +contextual -implicitDefEqProofs (maxSteps:=10^7) only[go_sem,seval,↓gZ]
 ·have ag:k=(s.takeWhile isD).length:=by omega
  subst ag;unfold tnV at aa;have ad:((s.takeWhile isD).length:Int)≤(s.length:Int):=by omega
  rcases ZBQ (p:=isD) (s:=s) with h | ⟨c,hc,hD⟩
  ·have af:¬((s.takeWhile isD).length:Int)<(s.length:Int):=by omega
   cases hr:rd (s.takeWhile isD) with
   | none=>
    rw[hr] at aa e1;simp only[Zgf] at e1 aa;subst aa;simp +contextual -implicitDefEqProofs (maxSteps:=10^7) only[go_sem,seval,↓gZ,af,ad,e1,d1,d2,d3]
   | some v=>
    rw[hr] at aa e1;simp only[Zgf] at e1 aa;subst aa;simp +contextual -implicitDefEqProofs (maxSteps:=10^7) only[go_sem,seval,↓gZ,af,ad,e1,d1,d2,d3]
  ·have ab:((s.takeWhile isD).length:Int)<(s.length:Int):=by have:=(Kb.1 hc).1;omega
   have ah:¬((48:Int)≤c.toNat∧(c.toNat:Int)≤57):=fun h=>hD ((ZkW c).2 (by omega));by_cases h1:(48:Int)≤c.toNat
   ·have h2:¬(c.toNat:Int)≤57:=fun h=>ah ⟨h1,h⟩;cases hr:rd (s.takeWhile isD) with
    | none=>
     rw[hr] at aa e1;simp only[Zgf] at e1 aa;subst aa;simp +contextual -implicitDefEqProofs (maxSteps:=10^7) only[go_sem,seval,↓gZ,ab,hc,h1,h2,ad,e1,d1,d2,d3]
    | some v=>
     rw[hr] at aa e1;simp only[Zgf] at e1 aa;subst aa;simp +contextual -implicitDefEqProofs (maxSteps:=10^7) only[go_sem,seval,↓gZ,ab,hc,h1,h2,ad,e1,d1,d2,d3]
   ·cases hr:rd (s.takeWhile isD) with
    | none=>
     rw[hr] at aa e1;simp only[Zgf] at e1 aa;subst aa;simp +contextual -implicitDefEqProofs (maxSteps:=10^7) only[go_sem,seval,↓gZ,ab,hc,h1,ad,e1,d1,d2,d3]
    | some v=>
     rw[hr] at aa e1;simp only[Zgf] at e1 aa;subst aa;simp +contextual -implicitDefEqProofs (maxSteps:=10^7) only[go_sem,seval,↓gZ,ab,hc,h1,ad,e1,d1,d2,d3]
def TkR (res:Option (AV×List Zm)) (m:Option (BT×List UInt8)):Prop:=∃ (o a q:Int) (t:Bool) (ks:List Zf) (r:List UInt8) (ok:Bool),
 res=some (.tup [.agg [(.d (J o)),(.d (J a)),(.d (J q)),(.d (.bool t)),.own 0],.d (.str r),(.d (.bool ok))],[.row 5 (ks.map Zf.enc) true false])∧(match m with | some (b,r')=>ok=true∧b.plan=.mk o a q t ks∧r'=r | none=>ok=false)
theorem Zgg {res:Option (AV×List Zm)} {o a q:Int} {t:Bool} {ks:List Zf} {r:List UInt8} (h:res=some (.tup [.agg [(.d (J o)),(.d (J a)),(.d (J q)),(.d (.bool t)),.own 0],.d (.str r),(.d (.bool false))],[.row 5 (ks.map Zf.enc) true false])):TkR res none:=⟨o,a,q,t,ks,r,false,h,rfl⟩
theorem Zon {res:Option (AV×List Zm)} {b:BT} {o a q:Int} {t:Bool} {ks:List Zf} {r:List UInt8} (hb:b.plan=.mk o a q t ks) (h:res=some (.tup [.agg [(.d (J o)),(.d (J a)),(.d (J q)),(.d (.bool t)),.own 0],.d (.str r),(.d (.bool true))],[.row 5 (ks.map Zf.enc) true false])):TkR res (some (b,r)):=⟨o,a,q,t,ks,r,true,h,rfl,hb,rfl⟩
theorem ZrF (c:UInt8) {k:Int} (d:UInt8) (hd:(d.toNat:Int)=k):(c.toNat:Int)=k↔c=d:=by
 constructor
 ·intro h;apply UInt8.toNat_inj.1;omega
 ·rintro rfl;exact hd
theorem ZBR (n:Nat):tk n []=none:=by cases n<;>rfl
theorem ZrG:∀ (n:Nat) (s:List UInt8),s.length≤n→s.length≤1000000→TkR (Ze Xs Ms YV [.d (.str s)] []) (tk n s):=by
 intro n
 induction n with
 | zero=>
  intro s hs _;obtain rfl:=Ks (Nat.le_zero.1 hs);rw[ZBR];refine Zgg (o:=0) (a:=0) (q:=0) (t:=false) (ks:=[]) (r:=[]) ?_;refine cE ?_;simp +contextual -implicitDefEqProofs (maxSteps:=10^7) only[go_sem,seval,↓gZ,ZP]
 | succ n IH=>
  intro s hs al;cases s with
  | nil=>
   rw[ZBR];refine Zgg (o:=0) (a:=0) (q:=0) (t:=false) (ks:=[]) (r:=[]) ?_;refine cE ?_;simp +contextual -implicitDefEqProofs (maxSteps:=10^7) only[go_sem,seval,↓gZ,ZP]
  | cons c s=>
   simp only[Kp] at hs al;have hb:(c :: s==[])=false:=rfl;have d3:s.take s.length=s:=K1;have aa:(1:Int)≤((s.length+1:Nat):Int):=by omega
   have e1:=ZnH s (by omega);by_cases c1:c=119
   ·have n1:(c.toNat:Int)=119:=(ZrF c 119 rfl).2 c1;have am:tk (n+1) (c :: s)=some (.waste,s):=by rw[tk,Kh c1]
    rw[am];refine Zon (b:=.waste) rfl ?_;refine cE ?_;simp +contextual -implicitDefEqProofs (maxSteps:=10^7) only[go_sem,seval,↓gZ,ZP,hb,d3,aa,n1]
   have n1:¬(c.toNat:Int)=119:=fun h=>c1 ((ZrF c 119 rfl).1 h);rw[tk,Ke c1];cases hr:rd (s.takeWhile isD) with
   | none=>
    simp only[tnV,hr] at e1;refine Zgg (o:=0) (a:=0) (q:=0) (t:=false) (ks:=[]) (r:=[]) ?_;refine cE ?_;simp +contextual -implicitDefEqProofs (maxSteps:=10^7) only[go_sem,seval,↓gZ,ZP,hb,d3,aa,n1,e1]
   | some v=>
    simp only[tnV,hr] at e1;have hv:=(Zd9 hr).2;obtain⟨r1,af⟩:∃ r1,s.dropWhile isD=r1:=⟨_,rfl⟩
    rw[af] at e1;have ar:r1.length≤s.length:=by rw[← af];exact List.IsSuffix.length_le (List.dropWhile_suffix isD)
    simp only[KM,af];by_cases c2:c=112
    ·have n2:(c.toNat:Int)=112:=(ZrF c 112 rfl).2 c2;have n3:¬(c.toNat:Int)=116:=by omega
     rw[Zm3,Kh c2];refine Zon (b:=.pane v false) rfl ?_;refine cE ?_;simp +contextual -implicitDefEqProofs (maxSteps:=10^7) only[go_sem,seval,↓gZ,ZP,hb,d3,aa,n1,n2,n3,e1]
    have n2:¬(c.toNat:Int)=112:=fun h=>c2 ((ZrF c 112 rfl).1 h);rw[Zm3,Ke c2];by_cases c3:c=116
    ·have n3:(c.toNat:Int)=116:=(ZrF c 116 rfl).2 c3;rw[Kh c3];refine Zon (b:=.pane v true) rfl ?_;refine cE ?_;simp +contextual -implicitDefEqProofs (maxSteps:=10^7) only[go_sem,seval,↓gZ,ZP,hb,d3,aa,n1,n2,n3,e1]
    have n3:¬(c.toNat:Int)=116:=fun h=>c3 ((ZrF c 116 rfl).1 h);rw[Ke c3];have ab:∀ d:Bool,(if d then (c.toNat:Int)=100 else ¬(c.toNat:Int)=100∧(c.toNat:Int)=97)→TkR (Ze Xs Ms YV [.d (.str (c :: s))] []) (Zm2 d v (tk n) r1):=by
     intro d hd;have k1:=W1 r1 40 (by omega);unfold Zm2 ZuK at *;cases h40:JE 40 r1 with
     | none=>
      simp only[h40] at k1;simp only[LQ];obtain⟨o1,a1,q1,t1,ag,r3,an,i1,_⟩:=IH r1 (by omega) (by omega);refine Zgg (o:=0) (a:=0) (q:=0) (t:=false) (ks:=[]) (r:=[]) ?_;refine cE ?_;cases d with
      | true=>
       simp only[Km] at hd;simp +contextual -implicitDefEqProofs (maxSteps:=10^7) only[go_sem,seval,↓gZ,ZP,hb,d3,aa,n1,n2,n3,e1,hd,k1,i1]
      | false=>
       simp only[Ka,Kq] at hd;simp +contextual -implicitDefEqProofs (maxSteps:=10^7) only[go_sem,seval,↓gZ,ZP,hb,d3,aa,n1,n2,n3,e1,hd.1,hd.2,k1,i1]
     | some r2=>
      simp only[h40] at k1;simp only[KM];have x2:=ZbO h40;have ai:r2.length≤n∧r2.length≤1000000:=by
       have:r1.length=r2.length+1:=by rw[x2];rfl
       omega
      obtain⟨o1,a1,q1,t1,ag,r3,an,i1,m1⟩:=IH r2 ai.1 ai.2;cases h2:tk n r2 with
      | none=>
       rw[h2] at m1;simp only at m1;subst m1;simp only[LQ];refine Zgg (o:=0) (a:=0) (q:=0) (t:=false) (ks:=[]) (r:=[]) ?_;refine cE ?_;cases d with
       | true=>
        simp only[Km] at hd;simp +contextual -implicitDefEqProofs (maxSteps:=10^7) only[go_sem,seval,↓gZ,ZP,hb,d3,aa,n1,n2,n3,e1,hd,k1,i1]
       | false=>
        simp only[Ka,Kq] at hd;simp +contextual -implicitDefEqProofs (maxSteps:=10^7) only[go_sem,seval,↓gZ,ZP,hb,d3,aa,n1,n2,n3,e1,hd.1,hd.2,k1,i1]
      | some p1=>
       obtain⟨b1,ad⟩:=p1;rw[h2] at m1;simp only at m1;obtain⟨rfl,ao,rfl⟩:=m1;simp only[KM];have s1:=(ZhI n r2 b1 ad h2).1;have aj:ad.length≤n∧ad.length≤1000000:=by
        have:r2.length=(shw b1).length+ad.length:=by rw[s1,Kr]
        omega
       have k2:=W1 ad 44 (by omega);unfold ZuK at k2;cases h44:JE 44 ad with
       | none=>
        simp only[h44] at k2;simp only[LQ];obtain⟨o2,a2,q2,t2,ah,r5,ap,i2,_⟩:=IH ad aj.1 aj.2;refine Zgg (o:=0) (a:=0) (q:=0) (t:=false) (ks:=[]) (r:=[]) ?_;refine cE ?_;cases d with
        | true=>
         simp only[Km] at hd;simp +contextual -implicitDefEqProofs (maxSteps:=10^7) only[go_sem,seval,↓gZ,ZP,hb,d3,aa,n1,n2,n3,e1,hd,k1,i1,k2,i2]
        | false=>
         simp only[Ka,Kq] at hd;simp +contextual -implicitDefEqProofs (maxSteps:=10^7) only[go_sem,seval,↓gZ,ZP,hb,d3,aa,n1,n2,n3,e1,hd.1,hd.2,k1,i1,k2,i2]
       | some r4=>
        simp only[h44] at k2;simp only[KM];have x4:=ZbO h44;have ak:r4.length≤n∧r4.length≤1000000:=by
         have:ad.length=r4.length+1:=by rw[x4];rfl
         omega
        obtain⟨o2,a2,q2,t2,ah,r5,ap,i2,m2⟩:=IH r4 ak.1 ak.2;cases h4:tk n r4 with
        | none=>
         rw[h4] at m2;simp only at m2;subst m2;simp only[LQ];refine Zgg (o:=0) (a:=0) (q:=0) (t:=false) (ks:=[]) (r:=[]) ?_;refine cE ?_;cases d with
         | true=>
          simp only[Km] at hd;simp +contextual -implicitDefEqProofs (maxSteps:=10^7) only[go_sem,seval,↓gZ,ZP,hb,d3,aa,n1,n2,n3,e1,hd,k1,i1,k2,i2]
         | false=>
          simp only[Ka,Kq] at hd;simp +contextual -implicitDefEqProofs (maxSteps:=10^7) only[go_sem,seval,↓gZ,ZP,hb,d3,aa,n1,n2,n3,e1,hd.1,hd.2,k1,i1,k2,i2]
        | some p2=>
         obtain⟨b2,ae⟩:=p2;rw[h4] at m2;simp only at m2;obtain⟨rfl,aq,rfl⟩:=m2;simp only[KM];have s2:=(ZhI n r4 b2 ae h4).1;have au:ae.length≤1000000:=by
          have:r4.length=(shw b2).length+ae.length:=by rw[s2,Kr]
          omega
         have k3:=W1 ae 41 (by omega);unfold ZuK at k3;cases h41:JE 41 ae with
         | none=>
          simp only[h41] at k3;simp only[LQ];refine Zgg (o:=VT d) (a:=v) (q:=0) (t:=false) (ks:=[.mk o1 a1 q1 t1 ag,.mk o2 a2 q2 t2 ah]) (r:=ae) ?_;refine cE ?_;cases d with
          | true=>
           simp only[Km] at hd;simp +contextual -implicitDefEqProofs (maxSteps:=10^7) only[go_sem,seval,↓gZ,ZP,hb,d3,aa,n1,n2,n3,e1,hd,k1,i1,k2,i2,k3,VT]
          | false=>
           simp only[Ka,Kq] at hd;simp +contextual -implicitDefEqProofs (maxSteps:=10^7) only[go_sem,seval,↓gZ,ZP,hb,d3,aa,n1,n2,n3,e1,hd.1,hd.2,k1,i1,k2,i2,k3,VT]
         | some r6=>
          simp only[h41] at k3;simp only[KM];refine Zon (b:=.cut d v b1 b2) (o:=VT d) (a:=v) (q:=0) (t:=false) (ks:=[.mk o1 a1 q1 t1 ag,.mk o2 a2 q2 t2 ah]) (by rw[BT.plan,ao,aq]) ?_;refine cE ?_;cases d with
          | true=>
           simp only[Km] at hd;simp +contextual -implicitDefEqProofs (maxSteps:=10^7) only[go_sem,seval,↓gZ,ZP,hb,d3,aa,n1,n2,n3,e1,hd,k1,i1,k2,i2,k3,VT]
          | false=>
           simp only[Ka,Kq] at hd;simp +contextual -implicitDefEqProofs (maxSteps:=10^7) only[go_sem,seval,↓gZ,ZP,hb,d3,aa,n1,n2,n3,e1,hd.1,hd.2,k1,i1,k2,i2,k3,VT]
    by_cases c4:c=100
    ·have n4:(c.toNat:Int)=100:=(ZrF c 100 rfl).2 c4;rw[Kh c4];exact ab true n4
    have n4:¬(c.toNat:Int)=100:=fun h=>c4 ((ZrF c 100 rfl).1 h);rw[Ke c4];by_cases c5:c=97
    ·have n5:(c.toNat:Int)=97:=(ZrF c 97 rfl).2 c5;rw[Kh c5];exact ab false ⟨n4,n5⟩
    have n5:¬(c.toNat:Int)=97:=fun h=>c5 ((ZrF c 97 rfl).1 h);rw[Ke c5];refine Zgg (o:=0) (a:=0) (q:=0) (t:=false) (ks:=[]) (r:=[]) ?_;refine cE ?_;simp +contextual -implicitDefEqProofs (maxSteps:=10^7) only[go_sem,seval,↓gZ,ZP,hb,d3,aa,n1,n2,n3,n4,n5,e1]
def ZuM (s:List UInt8):Option BT:=if s.length≤1600 then Zl9 s else none
def PrR (res:Option (AV×List Zm)) (m:Option BT):Prop:=∃ (o a q:Int) (t:Bool) (ks:List Zf),
 res=some (.tup [.agg [(.d (J o)),(.d (J a)),(.d (J q)),(.d (.bool t)),.own 0],(.d (.bool (m.isSome)))],[.row 5 (ks.map Zf.enc) true false])∧Zf.mk o a q t ks=(m.getD .waste).plan
theorem Zqt {res:Option (AV×List Zm)} (h:res=some (.tup [.agg [(.d (J 0)),(.d (J 0)),(.d (J 0)),(.d (.bool false)),.own 0],(.d (.bool false))],[.row 5 [] true false])):PrR res none:=⟨0,0,0,false,[],h,rfl⟩
theorem ZhL (s:List UInt8) (hs:s.length≤1000000):PrR (Ze Xs Ms Jb [.d (.str s)] []) (ZuM s):=by
 unfold ZuM;by_cases hl:s.length≤1600
 ·rw[Kh hl];have aa : ¬(1600:Int)<(s.length:Int):=by omega
  obtain⟨o,a,q,t,ks,r,ok,e1,m1⟩:=ZrG s.length s (Kt _) hs;unfold Zl9;cases h1:tk s.length s with
  | none=>
   rw[h1] at m1;simp only at m1;subst m1;refine Zqt ?_;refine cE ?_;simp +contextual -implicitDefEqProofs (maxSteps:=10^7) only[go_sem,seval,↓gZ,Yl,aa,e1]
  | some p1=>
   obtain⟨b,r'⟩:=p1;rw[h1] at m1;simp only at m1;obtain⟨rfl,hb,rfl⟩:=m1;cases r' with
   | cons x r2=>
    have hx:(x :: r2==[])=false:=rfl;refine Zqt ?_;refine cE ?_;simp +contextual -implicitDefEqProofs (maxSteps:=10^7) only[go_sem,seval,↓gZ,Yl,aa,e1,hx]
   | nil=>
    have e2:=Zet b.plan;have e3:=Ju b;rw[Zib] at e2;rw[hb,Zf.enc_mk] at e2 e3;show PrR _ (if b.cnt≤255∧VY b=true then some b else none);rcases Q8 255 b with ⟨hc,hz⟩ | ⟨hc,hz⟩
    ·rw[hz] at e2;have h0:¬(b.cnt:Int)<0:=by omega
     cases hcb:VY b with
     | false=>
      rw[hcb] at e3;rw[Ke (fun h=>by cases h.2)];refine Zqt ?_;refine cE ?_;simp +contextual -implicitDefEqProofs (maxSteps:=10^7) only[go_sem,seval,↓gZ,Yl,aa,e1,e2,e3,h0]
     | true=>
      rw[hcb] at e3;rw[Kh ⟨by omega,rfl⟩];refine⟨o,a,q,t,ks,?_,hb.symm⟩;refine cE ?_;simp +contextual -implicitDefEqProofs (maxSteps:=10^7) only[go_sem,seval,↓gZ,Yl,aa,e1,e2,e3,h0];rfl
    ·rw[hz] at e2;rw[Ke (fun h=>by omega)];refine Zqt ?_;refine cE ?_;simp +contextual -implicitDefEqProofs (maxSteps:=10^7) only[go_sem,seval,↓gZ,Yl,aa,e1,e2]
 ·rw[Ke hl];have aa : (1600:Int)<(s.length:Int):=by omega
  refine Zqt ?_;refine cE ?_;simp +contextual -implicitDefEqProofs (maxSteps:=10^7) only[go_sem,seval,↓gZ,Yl,aa]
end Go.Proofs.YtcefneehgbiebaaGreatDoor
