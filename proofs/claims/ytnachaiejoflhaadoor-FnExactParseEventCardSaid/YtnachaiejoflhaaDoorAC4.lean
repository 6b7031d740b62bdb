/- Own text. -/
import Derived.Test.YtnachaiejoflhaaDoorACode
import Derived.Test.YtnachaiejoflhaaDoorAbsParts
import Derived.Test.YtnachaiejoflhaaDoorAC1
import Derived.Test.YtnachaiejoflhaaDoorAbsOkD
namespace Go.Proofs.YtnachaiejoflhaaDoor
open Go Go.Abs Go.Abs.E Go.Abs.L
open Nat (reduceMul reduceSub reduceLeDiff reduceEqDiff)
open Int (reduceLE reduceEq reduceToNat reduceNeg)
set_option linter.unusedSimpArgs false
set_option linter.unusedVariables false
set_option maxRecDepth 20000
set_option maxHeartbeats 4000000
def num (n:Nat):List UInt8:=if n<10 then [UInt8.ofNat (48+n)] else num (n / 10)++[UInt8.ofNat (48+n % 10)]
termination_by n
decreasing_by omega
def isD (c:UInt8):Bool:=decide (48≤c.toNat∧c.toNat≤57)
def val (s:List UInt8):Nat:=s.foldl (fun n c=>10*n+(c.toNat-48)) 0
theorem ZdL (s:List UInt8) (c:UInt8):val (s++[c])=10*val s+(c.toNat-48):=by simp[val]
theorem JS {n:Nat} (h:n<10):(UInt8.ofNat (48+n)).toNat=48+n:=by
 rw[UInt8.toNat_ofNat'];omega
theorem ZqG {c:UInt8} (h:isD c=true):UInt8.ofNat (48+(c.toNat-48))=c:=by
 simp only[isD,Kj] at h;apply UInt8.toNat_inj.1;rw[UInt8.toNat_ofNat'];omega
theorem Yo {n:Nat} (h:n<10):num n=[UInt8.ofNat (48+n)]:=by rw[num,Ko h]
theorem Zap {n:Nat} (h:¬n<10):num n=num (n / 10)++[UInt8.ofNat (48+n % 10)]:=by rw[num,Kf h]
theorem ZqH:∀ n:Nat,num n≠[]:=fun n=>by
 by_cases h:n<10
 ·rw[Yo h];simp
 ·rw[Zap h];simp
theorem ZgF (n:Nat):∀ c∈num n,isD c=true:=by
 induction n using Nat.strongRecOn with
 | ind n ih=>
  intro c hc;by_cases h:n<10
  ·rw[Yo h] at hc;rw[Ky] at hc;subst hc;have:=JS h;simp only[isD,Kj];omega
  ·rw[Zap h] at hc;rcases Kd.1 hc with hc | hc
   ·exact ih (n / 10) (by omega) c hc
   ·rw[Ky] at hc;subst hc;have:=JS (n:=n % 10) (by omega);simp only[isD,Kj];omega
theorem ZkH (n:Nat):val (num n)=n:=by
 induction n using Nat.strongRecOn with
 | ind n ih=>
  by_cases h:n<10
  ·rw[Yo h];have:=JS h;simp only[val,List.foldl_cons,List.foldl_nil];omega
  ·rw[Zap h,ZdL,ih (n / 10) (by omega),JS (by omega)];omega
theorem ZqI {n:Nat} (h:0<n):(num n).head?≠some 48:=by
 induction n using Nat.strongRecOn with
 | ind n ih=>
  by_cases h1:n<10
  ·rw[Yo h1];simp only[List.head?_cons,ne_eq,Option.some.injEq];intro e;have:=JS h1;rw[e] at this;have aa:(48:UInt8).toNat=48:=rfl;omega
  ·rw[Zap h1];have:=ih (n / 10) (by omega) (by omega);cases hn:num (n / 10) with
   | nil=>exact absurd hn (ZqH _)
   | cons a r=>rw[hn] at this;simpa using this
theorem XK:∀ (k n:Nat),n<10 ^ (k+1)→(num n).length≤k+1
 | 0,n,h=>by rw[Yo (by simpa using h)];simp
 | k+1,n,h=>by
  by_cases h1:n<10
  ·rw[Yo h1];simp
  ·rw[Zap h1];have:=XK k (n / 10) (Nat.div_lt_of_lt_mul (by rw[Nat.pow_succ,Nat.mul_comm] at h;exact h));simp;omega
theorem Zsj:∀ (s:List UInt8),(∀ c∈s,isD c=true)→s≠[]→s.head?≠some 48→0<val s:=by
 intro s;have aa:∀ (l:List UInt8) (n:Nat),0<n→0<l.foldl (fun n (c:UInt8)=>10*n+(c.toNat-48)) n:=by
  intro l
  induction l with
  | nil=>intro n h;exact h
  | cons c l ih=>intro n h;exact ih (10*n+(c.toNat-48)) (by omega)
 cases s with
 | nil=>intro _ h;exact absurd rfl h
 | cons c l=>
  intro hd _ hh;refine aa l _ ?_;have h1:=hd c (by simp);simp only[isD,Kj] at h1;have h2:c.toNat≠48:=fun e=>hh (by
   have:c=48:=UInt8.toNat_inj.1 e;simp[this])
  show 0<10*0+(c.toNat-48);omega
theorem Zg0 {α:Type} (s:List α):s=[]∨∃ t c,s=t++[c]:=by
 rcases List.eq_nil_or_concat s with h | ⟨t,c,h⟩
 ·exact .inl h
 ·exact .inr ⟨t,c,by simpa using h⟩
theorem Zox:∀ (k:Nat) (s:List UInt8),s.length≤k→(∀ c∈s,isD c=true)→s≠[]→(s.head?≠some 48∨s.length=1)→num (val s)=s
 | 0,s,hk,_,hn,_=>absurd (Kh (by omega)) hn
 | k+1,s,hk,hd,hn,hh=>by
  rcases Zg0 s with h | ⟨t,c,rfl⟩
  ·exact absurd h hn
  ·rw[ZdL];have hc:=hd c (by simp);have ad:=hc;simp only[isD,Kj] at ad;by_cases ht:t=[]
   ·subst ht;have e:val []=0:=rfl;rw[e,Yo (by omega)];have:=ZqG hc;rw[Nat.mul_zero,Lw,this];rfl
   ·have aa:∀ c∈t,isD c=true:=fun x hx=>hd x (by simp[hx]);have ab:t.head?≠some 48:=by
     cases t with
     | nil=>exact absurd rfl ht
     | cons a r=>
      rcases hh with hh | hh
      ·simpa using hh
      ·simp at hh
    have hp:=Zsj t aa ht ab;rw[Zap (by omega)];have e1:(10*val t+(c.toNat-48)) / 10=val t:=by omega
    have e2:(10*val t+(c.toNat-48)) % 10=c.toNat-48:=by omega
    rw[e1,e2,Zox k t (by simp at hk;omega) aa ht (.inl ab),ZqG hc]
def Zjw (s:List UInt8):Prop:=s≠[]∧s.length≤6∧(s.head?≠some 48∨s.length=1)∧∀ c∈s,isD c=true
instance (s:List UInt8):Decidable (Zjw s):=by unfold Zjw;infer_instance
def rd (s:List UInt8):Option Nat:=if Zjw s then some (val s) else none
theorem Znh:∀ (k:Nat) (s:List UInt8),s.length≤k→(∀ c∈s,isD c=true)→val s<10 ^ k
 | 0,s,h,_=>by
  have:s=[]:=Kh (by omega);subst this;simp[val]
 | k+1,s,h,hd=>by
  rcases Zg0 s with rfl | ⟨t,c,rfl⟩
  ·have:0<10 ^ (k+1):=Nat.pow_pos (by omega);simpa [val] using this
  ·rw[ZdL];have:=Znh k t (by simp at h;omega) (fun x hx=>hd x (by simp[hx]));have hc:=hd c (by simp);simp only[isD,Kj] at hc;rw[Nat.pow_succ];generalize 10 ^ k=m at this ⊢;omega
theorem UJ {n:Nat} (h:n≤999999):rd (num n)=some n:=by
 have h6:=XK 5 n (by omega);have:Zjw (num n):=by
  refine⟨ZqH n,h6,?_,ZgF n⟩;by_cases h0:n=0
  ·right;subst h0;rw[Yo (by omega)];rfl
  ·left;exact ZqI (by omega)
 rw[rd,Ko this,ZkH]
theorem Vy {s:List UInt8} {n:Nat} (h:rd s=some n):s=num n∧n≤999999:=by
 unfold rd at h;split at h
 ·rename_i hn;cases h;obtain⟨h1,h2,h3,h4⟩:=hn;have:=Znh 6 s h2 h4;exact⟨(Zox s.length s (Kg _) h4 h1 h3).symm,by omega⟩
 ·cases h
def Zz (c:UInt8):List UInt8→List (List UInt8)
 | []=>[[]]
 | x :: r=>if x=c then [] :: Zz c r else match Zz c r with
  | []=>[[x]]
  | p :: q=>(x :: p) :: q
def UK (c:UInt8):List (List UInt8)→List UInt8
 | []=>[]
 | [x]=>x
 | x :: y :: r=>x++c :: UK c (y :: r)
theorem UD (c:UInt8):∀ s,Zz c s≠[]
 | []=>by simp[Zz]
 | x :: r=>by
  unfold Zz;split
  ·simp
  ·split<;>simp
theorem Zg1 (c:UInt8):∀ s,UK c (Zz c s)=s
 | []=>rfl
 | x :: r=>by
  have ih:=Zg1 c r;unfold Zz;split
  ·rename_i h;cases hs:Zz c r with
   | nil=>exact absurd hs (UD c r)
   | cons p q=>rw[hs] at ih;simp[UK,ih,h]
  ·split
   ·rename_i hs;exact absurd hs (UD c r)
   ·rename_i p q hs;rw[hs] at ih;cases q with
    | nil=>simp only[UK] at ih ⊢;rw[ih]
    | cons y q=>simp only[UK,Ku] at ih ⊢;rw[ih]
theorem Wy {c:UInt8}:∀ {s:List UInt8},c∉s→Zz c s=[s]
 | [],_=>rfl
 | x :: r,h=>by
  simp only[Ke,not_or] at h;rw[Zz,Kf (fun e=>h.1 e.symm),Wy h.2]
theorem Zb9 {c:UInt8}:∀ {a:List UInt8} {b:List UInt8},c∉a→Zz c (a++c :: b)=a :: Zz c b
 | [],b,_=>by simp[Zz]
 | x :: r,b,h=>by
  simp only[Ke,not_or] at h;rw[Ku,Zz,Kf (fun e=>h.1 e.symm),Zb9 h.2]
theorem Zc2 {c:UInt8}:∀ {ws:List (List UInt8)},ws≠[]→(∀ w∈ws,c∉w)→Zz c (UK c ws)=ws
 | [],h,_=>absurd rfl h
 | [x],_,h=>Wy (h x (by simp))
 | x :: y :: r,_,h=>by
  rw[UK,Zb9 (h x (by simp)),Zc2 (by simp) (fun w hw=>h w (by simp[hw]))]
def Q5 (c:UInt8):List UInt8→Option Nat
 | []=>none
 | x :: r=>if x=c then some 0 else (Q5 c r).map (·+1)
theorem ZdM {c:UInt8}:∀ {s:List UInt8},Q5 c s=none↔c∉s
 | []=>by simp[Q5]
 | x :: r=>by
  unfold Q5;split
  ·rename_i h;simp[h]
  ·rename_i h;simp[ZdM (s:=r),Ne.symm h]
theorem JT {c:UInt8}:∀ {s:List UInt8} {i:Nat},Q5 c s=some i→s=s.take i++c :: s.drop (i+1)∧c∉s.take i∧i<s.length
 | [],i,h=>by simp[Q5] at h
 | x :: r,i,h=>by
  unfold Q5 at h;split at h
  ·rename_i hx;cases h;simp[hx]
  ·rename_i hx;cases hr:Q5 c r with
   | none=>rw[hr] at h;simp at h
   | some j=>
    rw[hr] at h;simp at h;subst h;obtain⟨h1,h2,h3⟩:=JT hr;refine⟨?_,?_,by simp;omega⟩
    ·simp only[LS,List.drop_succ_cons,Ku];rw[← h1]
    ·simp only[LS,Ke,not_or];exact⟨fun e=>hx e.symm,h2⟩
theorem Zca (c:UInt8) (s:List UInt8):Zz c s=match Q5 c s with
  | none=>[s]
  | some i=>s.take i :: Zz c (s.drop (i+1)):=by
 cases h:Q5 c s with
 | none=>exact Wy (ZdM.1 h)
 | some i=>
  obtain⟨h1,h2,_⟩:=JT h;simp only;rw[h1,Zb9 h2,← h1]
def shw:BT→List UInt8
 | .waste=>[119]
 | .pane i t=>(if t then 116 else 112) :: num i.toNat
 | .cut d a l r=>(if d then 100 else 97) :: (num a.toNat++40 :: (shw l++44 :: (shw r++[41])))
def Vj:BT→Bool
 | .waste=>true
 | .pane i _=>decide (0≤i∧i≤24)
 | .cut _ a l r=>decide (0≤a∧a≤200)&&Vj l&&Vj r
def Ul:BT→Bool
 | .waste=>true
 | .pane i _=>decide (0≤i∧i≤999999)
 | .cut _ a l r=>decide (0≤a∧a≤999999)&&Ul l&&Ul r
theorem Um:∀ b:BT,Vj b=true→Ul b=true
 | .waste,_=>rfl
 | .pane i t,h=>by simp only[Vj,Ul,Kj] at h ⊢;omega
 | .cut d a l r,h=>by
  simp only[Vj,Ul,Kb,Kj] at h ⊢;exact⟨⟨by omega,Um l h.1.2⟩,Um r h.2⟩
def VF (x:UInt8):List UInt8→Option (List UInt8)
 | y :: r=>if y=x then some r else none
 | []=>none
def ZfC (d:Bool) (v:Nat) (rec:List UInt8→Option (BT×List UInt8)) (r:List UInt8):Option (BT×List UInt8):=
 (VF 40 r).bind fun r1=>(rec r1).bind fun p=>(VF 44 p.2).bind fun r3=>(rec r3).bind fun q=>(VF 41 q.2).bind fun r5=>some (.cut d v p.1 q.1,r5)
def ZfD (c:UInt8) (v:Nat) (rec:List UInt8→Option (BT×List UInt8)) (r:List UInt8):Option (BT×List UInt8):=
 if c=112 then some (.pane v false,r) else if c=116 then some (.pane v true,r) else if c=100 then ZfC true v rec r else if c=97 then ZfC false v rec r else none
def tk:Nat→List UInt8→Option (BT×List UInt8)
 | 0,_=>none
 | _+1,[]=>none
 | n+1,c :: s=>if c=119 then some (.waste,s) else (rd (s.takeWhile isD)).bind fun v=>ZfD c v (tk n) (s.dropWhile isD)
theorem WU {x:UInt8} {s r:List UInt8} (h:VF x s=some r):s=x :: r:=by
 cases s with
 | nil=>simp[VF] at h
 | cons y t=>simp only[VF] at h;split at h<;>simp_all
theorem Zsk {s:List UInt8} {v:Nat} (h:rd (s.takeWhile isD)=some v):s=num v++s.dropWhile isD∧v≤999999:=by
 obtain⟨h1,h2⟩:=Vy h;exact⟨by rw[← h1,Ll],h2⟩
theorem ZfE {d:Bool} {v:Nat} {ab:List UInt8→Option (BT×List UInt8)} (aa:∀ s b r,ab s=some (b,r)→s=shw b++r∧Ul b=true) (hv:v≤999999) {r:List UInt8} {b:BT} {t:List UInt8} (h:ZfC d v ab r=some (b,t)) :
  ∃ x y,b=.cut d v x y∧r=40 :: (shw x++44 :: (shw y++41 :: t))∧Ul b=true:=by
 unfold ZfC at h;simp only[KD] at h;obtain⟨r1,h1,⟨x,r2⟩,h2,r3,h3,⟨y,r4⟩,h4,r5,h5,h6⟩:=h;simp only[Option.some.injEq,Prod.mk.injEq] at h6;obtain⟨rfl,rfl⟩:=h6;obtain⟨e2,s2⟩:=aa _ _ _ h2;obtain⟨e4,s4⟩:=aa _ _ _ h4;have e1:=WU h1;have e3:=WU h3;have e5:=WU h5;refine⟨x,y,rfl,?_,?_⟩
 ·simp only at e3 e5;rw[e1,e2,e3,e4,e5]
 ·simp only[Ul,s2,s4,LI,Kj];omega
theorem Zbe:∀ (n:Nat) (s:List UInt8) (b:BT) (r:List UInt8),tk n s=some (b,r)→s=shw b++r∧Ul b=true
 | 0,s,b,r,h=>by simp[tk] at h
 | n+1,[],b,r,h=>by simp[tk] at h
 | n+1,c :: s,b,r,h=>by
  simp only[tk] at h;split at h
  ·rename_i hc;cases h;exact⟨by simp[shw,hc],rfl⟩
  ·simp only[KD] at h;obtain⟨v,h1,h⟩:=h;obtain⟨e1,hv⟩:=Zsk h1;unfold ZfD at h;split at h
   ·rename_i hc;cases h;refine⟨?_,by simp only[Ul,Kj];omega⟩;simp only[shw,Ln,Ka,Km,Ku];rw[← e1,hc]
   ·split at h
    ·rename_i hc;cases h;refine⟨?_,by simp only[Ul,Kj];omega⟩;simp only[shw,Ln,Kk,Ku];rw[← e1,hc]
    ·split at h
     ·rename_i hc;obtain⟨x,y,rfl,e2,hs⟩:=ZfE (Zbe n) hv h;refine⟨?_,hs⟩;rw[e1,e2,hc];simp[shw,Ln]
     ·split at h
      ·rename_i hc;obtain⟨x,y,rfl,e2,hs⟩:=ZfE (Zbe n) hv h;refine⟨?_,hs⟩;rw[e1,e2,hc];simp[shw,Ln]
      ·cases h
def Zg2 (r:List UInt8):Prop:=∀ c t,r=c :: t→isD c=false
theorem Zg3 (v:Nat) {r:List UInt8} (h:Zg2 r):(num v++r).takeWhile isD=num v∧(num v++r).dropWhile isD=r:=by
 have aa:∀ l:List UInt8,(∀ c∈l,isD c=true)→(l++r).takeWhile isD=l∧(l++r).dropWhile isD=r:=by
  intro l
  induction l with
  | nil=>
   intro _;cases r with
   | nil=>simp
   | cons c t=>have:=h c t rfl;simp[this]
  | cons c l ih=>
   intro hl;have:=ih (fun x hx=>hl x (by simp[hx]));simp only[Ku,List.takeWhile_cons,List.dropWhile_cons,hl c (by simp),Kk,this.1,this.2,and_self]
 exact aa _ (ZgF v)
theorem Zoy (b:BT):1≤(shw b).length:=by cases b<;>simp[shw]
theorem Zbf:∀ (n:Nat) (b:BT) (r:List UInt8),(shw b).length≤n→Ul b=true→Zg2 r→tk n (shw b++r)=some (b,r)
 | 0,b,r,hn,_,_=>by have:=Zoy b;omega
 | n+1,.waste,r,_,_,_=>by simp[shw,tk]
 | n+1,.pane i t,r,hn,hs,hr=>by
  simp only[Ul,Kj] at hs;obtain⟨h1,h2⟩:=Zg3 i.toNat hr;have hi:((i.toNat:Nat):Int)=i:=by omega
  have aa:=UJ (n:=i.toNat) (by omega);cases t
  ·simp[shw,tk,ZfD,h1,h2,aa,hi]
  ·simp[shw,tk,ZfD,h1,h2,aa,hi]
 | n+1,.cut d a x y,r,hn,hs,hr=>by
  simp only[Ul,Kb,Kj] at hs;obtain⟨⟨ha,hx⟩,hy⟩:=hs;simp only[shw,Kn,Kt,Lo] at hn;have aa:=UJ (n:=a.toNat) (by omega);have hi:((a.toNat:Nat):Int)=a:=by omega
  have e2:=Zbf n y (41 :: r) (by omega) hy (fun c t e=>by cases e;rfl);have e1:=Zbf n x (44 :: (shw y++41 :: r)) (by omega) hx (fun c t e=>by cases e;rfl);obtain⟨h1,h2⟩:=Zg3 a.toNat (r:=40 :: (shw x++44 :: (shw y++41 :: r))) (fun c t e=>by cases e;rfl);have ab:ZfC d a.toNat (tk n) (40 :: (shw x++44 :: (shw y++41 :: r)))=some (.cut d a x y,r):=by
   simp[ZfC,VF,e1,e2,hi]
  have e:shw (.cut d a x y)++r=(if d then 100 else 97) :: (num a.toNat++40 :: (shw x++44 :: (shw y++41 :: r))):=by simp[shw]
  rw[e,tk];cases d
  ·rw[Kf (by decide),h1,aa,h2];simp only[KE,ZfD];rw[Kf (by decide),Kf (by decide),Kf (by decide),Ko (by decide),ab]
  ·rw[Kf (by decide),h1,aa,h2];simp only[KE,ZfD];rw[Kf (by decide),Kf (by decide),Ko (by decide),ab]
def ZeJ (s:List UInt8):Option BT:=match tk s.length s with
 | some (b,[])=>if b.cnt≤255∧Vj b=true then some b else none
 | _=>none
theorem Zbg {s:List UInt8} {b:BT}:ZeJ s=some b↔s=shw b∧b.cnt≤255∧Vj b=true:=by
 unfold ZeJ;constructor
 ·intro h;split at h
  ·rename_i b' h1;split at h
   ·rename_i hc;cases h;obtain⟨e,_⟩:=Zbe _ _ _ _ h1;exact⟨by simpa using e,hc⟩
   ·cases h
  ·cases h
 ·rintro ⟨rfl,hc⟩
  have:=Zbf (shw b).length b [] (Kg _) (Um b hc.2) (fun c t e=>by cases e);rw[Lg] at this;rw[this];simp[hc]
theorem Zpq {b:BT} (h:b.cnt≤255) (hc:Vj b=true):ZeJ (shw b)=some b:=Zbg.2 ⟨rfl,h,hc⟩
theorem bt_mk (b:BT):∃ o a q t ks,b.plan=.mk o a q t ks:=by cases b.plan;exact⟨_,_,_,_,_,rfl⟩
theorem tdiv10 (n:Nat):((n:Int)).tdiv 10=((n / 10:Nat):Int):=by rw[Int.tdiv_eq_ediv_of_nonneg (by omega)];omega
theorem tmod10 (n:Nat):((n:Int)).tmod 10=((n % 10:Nat):Int):=by rw[Int.tmod_eq_emod_of_nonneg (by omega)];omega
theorem X9 (n:Nat):n≤999999999→Zj Xs Ms ZC [(.d (J n))] []=some (.d (.str (num n)),[]):=by
 induction n using Nat.strongRecOn with
 | ind n ih=>
  intro hn;by_cases h:n<10
  ·rw[Yo h];have h' : (n:Int)<10:=by omega
   have hw:(n:Int)+1=((n+1:Nat):Int):=by omega
   have a3:=wi 3 (by decide) (by decide);have a4:=wi 4 (by decide) (by decide);have a5:=wi 5 (by decide) (by decide);have a6:=wi 6 (by decide) (by decide);have a7:=wi 7 (by decide) (by decide);have a8:=wi 8 (by decide) (by decide);have a9:=wi 9 (by decide) (by decide);have aa:=wi 10 (by decide) (by decide);refine cE ?_;rcases (show n=0∨n=1∨n=2∨n=3∨n=4∨n=5∨n=6∨n=7∨n=8∨n=9 by omega) with rfl | rfl | rfl | rfl | rfl | rfl | rfl | rfl | rfl | rfl<;>simp +contextual -implicitDefEqProofs (maxSteps:=10^7) only[go_sem,seval,↓gZ,Zav,a3,a4,a5,a6,a7,a8,a9,aa]<;>rfl
  ·have hb:num n=num (n / 10)++num (n % 10):=by rw[Zap h,Yo (by omega:n % 10<10)]
   rw[hb];have h' : ¬(n:Int)<10:=by omega
   have e1:=ih (n / 10) (by omega) (by omega);have e2:=ih (n % 10) (by omega) (by omega);have l1:=XK 8 (n / 10) (by omega);have l2:=XK 8 (n % 10) (by omega);have hs:(num (n / 10)).length+(num (n % 10)).length≤1152921504606846976:=by omega
   have w1:=wi (n / 10:Nat) (by omega) (by omega);refine cE ?_;simp +contextual -implicitDefEqProofs (maxSteps:=10^7) only[go_sem,seval,↓gZ,Zav,h',tdiv10,tmod10,w1,e1,e2,hs]
theorem YK:∀ b:BT,Zj Xs Ms XT [.d b.plan.enc] []=some ((.d (.bool (Vj b))),[])
 | .waste=>by
  simp only[BT.plan,Vj];refine cE ?_;simp +contextual -implicitDefEqProofs (maxSteps:=10^7) only[go_sem,seval,↓gZ,Vs,XJ];refine Xg Xs Ms ?_;simp +contextual -implicitDefEqProofs (maxSteps:=10^7) only[go_sem,seval,↓gZ,XJ]
 | .pane i t=>by
  simp only[BT.plan,Vj];refine cE ?_;simp +contextual -implicitDefEqProofs (maxSteps:=10^7) only[go_sem,seval,↓gZ,Vs,XJ];refine Xg Xs Ms ?_;simp +contextual -implicitDefEqProofs (maxSteps:=10^7) only[go_sem,seval,↓gZ,XJ]
 | .cut d a l r=>by
  have e1:=YK l;have e2:=YK r;simp only[BT.plan,Vj];refine cE ?_;simp +contextual -implicitDefEqProofs (maxSteps:=10^7) only[go_sem,seval,↓gZ,Vs,XJ];refine Xg Xs Ms ?_;cases hl:Vj l with
  | false=>
   rw[hl] at e1;simp +contextual -implicitDefEqProofs (maxSteps:=10^7) only[go_sem,seval,↓gZ,e1]
  | true=>
   rw[hl] at e1;simp +contextual -implicitDefEqProofs (maxSteps:=10^7) only[go_sem,seval,↓gZ,e1];refine Xg Xs Ms ?_;cases hr:Vj r with
   | false=>
    rw[hr] at e2;simp +contextual -implicitDefEqProofs (maxSteps:=10^7) only[go_sem,seval,↓gZ,e2]
   | true=>
    rw[hr] at e2;simp +contextual -implicitDefEqProofs (maxSteps:=10^7) only[go_sem,seval,↓gZ,e2];refine Xg Xs Ms ?_;simp +contextual -implicitDefEqProofs (maxSteps:=10^7) only[go_sem,seval,↓gZ,XJ]
theorem W4:∀ b:BT,Zj Xs Ms X1 [.d b.plan.enc] []=some ((.d (.bool (Vj b))),[])
 | .waste=>by
  simp only[BT.plan,Vj];refine cE ?_;simp +contextual -implicitDefEqProofs (maxSteps:=10^7) only[go_sem,seval,↓gZ,QK];refine Xg Xs Ms ?_;simp +contextual -implicitDefEqProofs (maxSteps:=10^7) only[go_sem,seval,↓gZ]
 | .pane i t=>by
  simp only[BT.plan,Vj];refine cE ?_;by_cases h1:i<0
  ·have aa : ¬0≤i:=by omega
   simp +contextual -implicitDefEqProofs (maxSteps:=10^7) only[go_sem,seval,↓gZ,QK,h1,aa]
  ·have aa : 0≤i:=by omega
   by_cases h2:i>24
   ·have ab : ¬i≤24:=by omega
    simp +contextual -implicitDefEqProofs (maxSteps:=10^7) only[go_sem,seval,↓gZ,QK,h1,aa,h2,ab]
   ·have ab : i≤24:=by omega
    simp +contextual -implicitDefEqProofs (maxSteps:=10^7) only[go_sem,seval,↓gZ,QK,h1,aa,h2,ab];refine Xg Xs Ms ?_;simp +contextual -implicitDefEqProofs (maxSteps:=10^7) only[go_sem,seval,↓gZ]
 | .cut d a l r=>by
  have e1:=W4 l;have e2:=W4 r;obtain⟨o1,a1,q1,t1,k1,ad⟩:=bt_mk l;obtain⟨o2,a2,q2,t2,k2,ae⟩:=bt_mk r;rw[ad,Ze.enc_mk] at e1;rw[ae,Ze.enc_mk] at e2;simp only[BT.plan,Vj,ad,ae];refine cE ?_;by_cases h1:a<0
  ·have aa : ¬0≤a:=by omega
   simp +contextual -implicitDefEqProofs (maxSteps:=10^7) only[go_sem,seval,↓gZ,QK,h1,aa]
  ·have aa : 0≤a:=by omega
   by_cases h2:a>200
   ·have ab : ¬a≤200:=by omega
    simp +contextual -implicitDefEqProofs (maxSteps:=10^7) only[go_sem,seval,↓gZ,QK,h1,aa,h2,ab]
   ·have ab : a≤200:=by omega
    simp +contextual -implicitDefEqProofs (maxSteps:=10^7) only[go_sem,seval,↓gZ,QK,h1,aa,h2,ab];refine Xg Xs Ms ?_;cases hl:Vj l with
    | false=>
     rw[hl] at e1;simp +contextual -implicitDefEqProofs (maxSteps:=10^7) only[go_sem,seval,↓gZ,e1]
    | true=>
     rw[hl] at e1;simp +contextual -implicitDefEqProofs (maxSteps:=10^7) only[go_sem,seval,↓gZ,e1];refine Xg Xs Ms ?_;cases hr:Vj r with
     | false=>
      rw[hr] at e2;simp +contextual -implicitDefEqProofs (maxSteps:=10^7) only[go_sem,seval,↓gZ,e2]
     | true=>
      rw[hr] at e2;simp +contextual -implicitDefEqProofs (maxSteps:=10^7) only[go_sem,seval,↓gZ,e2];refine Xg Xs Ms ?_;simp +contextual -implicitDefEqProofs (maxSteps:=10^7) only[go_sem,seval,↓gZ]
theorem Zc3:∀ b:BT,Vj b=true→(shw b).length≤13*b.cnt
 | .waste,_=>by simp[shw,BT.cnt]
 | .pane i t,h=>by
  simp only[Vj,Kj] at h;have:=XK 1 i.toNat (by omega);simp[shw,BT.cnt];omega
 | .cut d a l r,h=>by
  simp only[Vj,Kb,Kj] at h;have h1:=Zc3 l h.1.2;have h2:=Zc3 r h.2;have:=XK 2 a.toNat (by omega);simp[shw,BT.cnt];omega
theorem Yp:∀ b:BT,Vj b=true→b.cnt≤1048576→Zj Xs Ms Xk [.d b.plan.enc] []=some (.d (.str (shw b)),[])
 | .waste,_,_=>by
  simp only[BT.plan,shw];refine cE ?_;simp +contextual -implicitDefEqProofs (maxSteps:=10^7) only[go_sem,seval,↓gZ,V9]
 | .pane i t,h,_=>by
  simp only[Vj,Kj] at h;have e1:=X9 i.toNat (by omega);rw[KC h.1] at e1;have l1:=XK 1 i.toNat (by omega);have hs:1+(num i.toNat).length≤1152921504606846976:=by omega
  simp only[BT.plan,shw];refine cE ?_;cases t<;>simp +contextual -implicitDefEqProofs (maxSteps:=10^7) only[go_sem,seval,↓gZ,V9,e1,hs]
 | .cut d a l r,h,hc=>by
  have hL:=Zc3 _ h;simp only[Vj,Kb,Kj] at h;simp only[BT.cnt] at hc hL;have e1:=X9 a.toNat (by omega);rw[KC h.1.1.1] at e1;have e2:=Yp l h.1.2 (by omega);have e3:=Yp r h.2 (by omega);have l1:=XK 2 a.toNat (by omega);simp only[shw,Kn,Kt,Lo] at hL;obtain⟨x,hx⟩:∃ x,num a.toNat=x:=⟨_,rfl⟩
  obtain⟨y,hy⟩:∃ y,shw l=y:=⟨_,rfl⟩
  obtain⟨z,hz⟩:∃ z,shw r=z:=⟨_,rfl⟩
  simp only[BT.plan,shw];rw[hx] at e1 l1 hL ⊢;rw[hy] at e2 hL ⊢;rw[hz] at e3 hL ⊢;have g1:1+x.length≤1152921504606846976:=by omega
  have g2:x.length≤1152921504606846974:=by omega
  have g3:x.length+1+1+y.length≤1152921504606846976:=by omega
  have g4:x.length+1+y.length≤1152921504606846974:=by omega
  have g5:x.length+1+y.length+1+1+z.length≤1152921504606846976:=by omega
  have g6:x.length+1+y.length+1+z.length≤1152921504606846974:=by omega
  refine cE ?_;cases d<;>simp +contextual -implicitDefEqProofs (maxSteps:=10^7) only[go_sem,seval,↓gZ,V9,Zff,e1,e2,e3,g1,g2,g3,g4,g5,g6]<;>simp
theorem ZkI (x c:UInt8) (r:List UInt8) (hr:r.length≤1000000000):Zj Xs Ms ZA [.d (.str (x :: r)),.d (.str [c])] []=some ((.d (.bool ([x]==[c]))),[]):=by
 have h1:(1:Int)≤((r.length+1:Nat):Int):=by omega
 refine cE ?_;simp +contextual -implicitDefEqProofs (maxSteps:=10^7) only[go_sem,seval,↓gZ,Z8,h1]
theorem Zi5 (c:UInt8):Zj Xs Ms ZA [.d (.str []),.d (.str [c])] []=some ((.d (.bool false)),[]):=by
 refine cE ?_;simp +contextual -implicitDefEqProofs (maxSteps:=10^7) only[go_sem,seval,↓gZ,Z8]
def ZkJ (s:List UInt8) (c:UInt8):AV:=match VF c s with
 | some r=>.tup [.d (.str r),(.d (.bool true))]
 | none=>.tup [.d (.str s),(.d (.bool false))]
theorem Jz (s:List UInt8) (c:UInt8) (hr:s.length≤1000000000):Zj Xs Ms ZM [.d (.str s),.d (.str [c])] []=some (ZkJ s c,[]):=by
 cases s with
 | nil=>
  have e1:=Zi5 c;simp only[ZkJ,VF];refine cE ?_;simp +contextual -implicitDefEqProofs (maxSteps:=10^7) only[go_sem,seval,↓gZ,ZN,e1]
 | cons x r=>
  have e1:=ZkI x c r (by simp at hr;omega);by_cases h:x=c
  ·subst h;simp only[ZkJ,VF,Kk];rw[show ([x]==[x])=true by simp] at e1;have h1:(1:Int)≤((r.length+1:Nat):Int):=by omega
   have h2:r.take r.length=r:=KR;refine cE ?_;simp +contextual -implicitDefEqProofs (maxSteps:=10^7) only[go_sem,seval,↓gZ,ZN,e1,h1,h2]
  ·rw[show ([x]==[c])=false by simp[h]] at e1;simp only[ZkJ,VF,Kf h];refine cE ?_;simp +contextual -implicitDefEqProofs (maxSteps:=10^7) only[go_sem,seval,↓gZ,ZN,e1]
theorem YL (s:List UInt8) (c:UInt8) (hr:s.length≤1000000000):Zj Xs Ms Qq [.d (.str s),.d (.str [c])] []=some (ZkJ s c,[]):=by
 have e1:=Jz s c hr;unfold ZkJ at e1 ⊢;cases h:VF c s with
 | none=>
  rw[h] at e1;refine cE ?_;simp +contextual -implicitDefEqProofs (maxSteps:=10^7) only[go_sem,seval,↓gZ,XY,e1]
 | some r=>
  rw[h] at e1;refine cE ?_;simp +contextual -implicitDefEqProofs (maxSteps:=10^7) only[go_sem,seval,↓gZ,XY,e1]
theorem wu8 (x:Int) (h0:0≤x) (h1:x<256):IntKind.u8.wrap x=x:=by
 unfold IntKind.wrap;simp[IntKind.bits,IntKind.signed];omega
theorem rd_of {s:List UInt8} (h:Zjw s):rd s=some (val s):=by unfold rd;rw[Ko h]
theorem Zg4 {s:List UInt8} (h:¬Zjw s):rd s=none:=by unfold rd;rw[Kf h]
theorem Jm (c:UInt8):isD c=true↔¬(c.toNat:Int)<48∧¬(57:Int)<(c.toNat:Int):=by
 simp only[isD,Kj];omega
theorem ZlO {s:List UInt8} {k:Nat} {c:UInt8} (h:s[k]?=some c):val (s.take (k+1))=10*val (s.take k)+(c.toNat-48):=by
 obtain⟨hk,he⟩:=Kc.1 h;rw[K2 hk,ZdL,he]
def Zaq:Option Nat→AV
 | some v=>.tup [(.d (J ((v:Nat)))),(.d (.bool true))]
 | none=>.tup [(.d (J 0)),(.d (.bool false))]
theorem Vz (s:List UInt8):Zj Xs Ms Xt [.d (.str s)] []=some (Zaq (rd s),[]):=by
 by_cases h0:s=[]
 ·subst h0;rw[Zg4 (fun h=>h.1 rfl)];simp only[Zaq];refine cE ?_;simp +contextual -implicitDefEqProofs (maxSteps:=10^7) only[go_sem,seval,↓gZ,X3]
 by_cases h6:s.length≤6
 ·obtain⟨x,r,hs⟩:=List.exists_cons_of_ne_nil h0;have al:s.length=r.length+1:=by rw[hs];rfl
  have ag : ¬(6:Int)<((r.length+1:Nat):Int):=by omega
  have hb:(x :: r==[])=false:=rfl;have ae:(x.toNat:Int)=48↔x=48:=by
   constructor
   ·intro h;apply UInt8.toNat_inj.1;simpa using (by omega:x.toNat=48)
   ·rintro rfl;rfl
  by_cases hz:(x.toNat:Int)=48∧(1:Int)<((r.length+1:Nat):Int)
  ·rw[Zg4 (fun h=>by
    rcases h.2.2.1 with h | h
    ·rw[hs] at h;exact h (by rw[ae.1 hz.1];rfl)
    ·omega)]
   simp only[Zaq];obtain⟨am,an⟩:=hz;rw[hs];refine cE ?_;simp +contextual -implicitDefEqProofs (maxSteps:=10^7) only[go_sem,seval,↓gZ,X3,ag,hb,am,an]
  ·have af:s.head?≠some 48∨s.length=1:=by
    by_cases hl:s.length=1
    ·exact .inr hl
    ·refine .inl ?_;rw[hs];intro h;simp only[List.head?_cons,Option.some.injEq] at h;exact hz ⟨ae.2 h,by omega⟩
   generalize aa:Zaq (rd s)=res;rw[hs];refine cE ?_;simp +contextual -implicitDefEqProofs (maxSteps:=10^7) only[go_sem,seval,↓gZ,X3,ag,hb,hz];rw[← hs,show r.length+1=s.length by omega];refine LO (α:=Nat) (fun k=>[(25,.d (J (k:Int))),(4,.d (J (val (s.take k):Nat)))]) (fun _=>[]) (fun k=>k≤s.length∧∀ c∈s.take k,isD c=true) (fun k=>s.length-k) 0 (by simp) ?_;intro k ⟨hk,hd⟩ ih;have hv:=Znh k (s.take k) (by simp;omega) hd;have hp:10 ^ k≤10 ^ 6:=Nat.pow_le_pow_right (by decide) (by omega);by_cases aj:k<s.length
   ·obtain⟨c,hc⟩:∃ c,s[k]?=some c:=⟨_,Ki aj⟩
    have ab : (k:Int)<(s.length:Int):=by omega
    by_cases hD:isD c=true
    ·have ak:=(Jm c).1 hD;have au:(48:Int)≤c.toNat∧(c.toNat:Int)≤57:=by omega
     have w1:=wi (10*(val (s.take k):Nat)) (by omega) (by omega);have w2:=wu8 ((c.toNat:Int)-48) (by omega) (by omega);have w3:=wi ((c.toNat:Int)-48) (by omega) (by omega);have w4:IntKind.i64.wrap (10*(val (s.take k):Nat)+((c.toNat:Int)-48))=((val (s.take (k+1)):Nat):Int):=by
      rw[wi _ (by omega) (by omega),ZlO hc];omega
     have w5:=ZY (k:=k) (by omega);simp +contextual -implicitDefEqProofs (maxSteps:=10^7) only[go_sem,seval,↓gZ,ab,hc,ak.1,ak.2,w1,w2,w3,w4,w5];refine ih (k+1) _ ⟨by omega,fun d ad=>?_⟩ (by omega) ?_
     ·rw[K2 aj] at ad;rcases Kd.1 ad with ad | ad
      ·exact hd d ad
      ·simp only[Ky] at ad;rw[ad,← (Kc.1 hc).2] at *;exact hD
     ·simp +contextual -implicitDefEqProofs (maxSteps:=10^7) only[go_sem,seval,↓gZ]
    ·have ao:rd s=none:=Zg4 fun h=>hD (h.2.2.2 c (Kr hc));rw[ao] at aa;simp only[Zaq] at aa;subst aa;by_cases ah:(c.toNat:Int)<48
     ·simp +contextual -implicitDefEqProofs (maxSteps:=10^7) only[go_sem,seval,↓gZ,ab,hc,ah]
     ·have ap:(57:Int)<(c.toNat:Int):=Classical.byContradiction fun h=>hD ((Jm c).2 ⟨ah,h⟩);simp +contextual -implicitDefEqProofs (maxSteps:=10^7) only[go_sem,seval,↓gZ,ab,hc,ah,ap]
   ·have aq:k=s.length:=by omega
    subst aq;rw[KR] at hd;have ai:rd s=some (val s):=rd_of ⟨h0,h6,af,hd⟩;rw[ai] at aa;simp only[Zaq] at aa;subst aa;have ht:s.take s.length=s:=KR;have ar:¬(s.length:Int)<(s.length:Int):=by omega
    simp +contextual -implicitDefEqProofs (maxSteps:=10^7) only[go_sem,seval,↓gZ,ht,ar]
 ·have ag : (6:Int)<(s.length:Int):=by omega
  have hb:(s==[])=false:=by
   cases s with
   | nil=>exact absurd rfl h0
   | cons x r=>rfl
  rw[Zg4 (fun h=>h6 h.2.1)];simp only[Zaq];refine cE ?_;simp +contextual -implicitDefEqProofs (maxSteps:=10^7) only[go_sem,seval,↓gZ,X3,ag,hb]
theorem ZqJ {p:UInt8→Bool}:∀ {s:List UInt8} {k:Nat},k<(s.takeWhile p).length→∃ c,s[k]?=some c∧p c=true
 | [],k,h=>by simp at h
 | x :: s,k,h=>by
  by_cases hx:p x=true
  ·rw[List.takeWhile_cons_of_pos hx] at h;cases k with
   | zero=>exact⟨x,rfl,hx⟩
   | succ k=>simpa using ZqJ (s:=s) (k:=k) (by simpa using h)
  ·rw[List.takeWhile_cons_of_neg hx] at h;simp at h
theorem Zni {p:UInt8→Bool}:∀ {s:List UInt8},(s.takeWhile p).length=s.length∨∃ c,s[(s.takeWhile p).length]?=some c∧¬p c=true
 | []=>.inl rfl
 | x :: s=>by
  by_cases hx:p x=true
  ·rw[List.takeWhile_cons_of_pos hx];rcases Zni (p:=p) (s:=s) with h | ⟨c,h,h'⟩
   ·exact .inl (by simp[h])
   ·exact .inr ⟨c,by simpa using h,h'⟩
  ·rw[List.takeWhile_cons_of_neg hx];exact .inr ⟨x,rfl,hx⟩
theorem ZqK {p:UInt8→Bool} (s:List UInt8):(s.takeWhile p).length≤s.length:=List.IsPrefix.length_le (List.takeWhile_prefix p)
theorem Zoz (p:UInt8→Bool) (s:List UInt8):s.take (s.takeWhile p).length=s.takeWhile p:=by
 conv=>lhs;rw[← Ll (p:=p) (l:=s),Ll]
 exact(List.prefix_iff_eq_take.1 (List.takeWhile_prefix p)).symm
theorem Zsl (p:UInt8→Bool) (s:List UInt8):s.drop (s.takeWhile p).length=s.dropWhile p:=by
 have h:=Ll (p:=p) (l:=s)
 conv=>lhs;arg 2;rw[← h]
 rw[List.drop_left]
def tnV (s:List UInt8):AV:=match rd (s.takeWhile isD) with
 | some v=>.tup [(.d (J ((v:Nat)))),.d (.str (s.dropWhile isD)),(.d (.bool true))]
 | none=>.tup [(.d (J 0)),.d (.str (s.dropWhile isD)),(.d (.bool false))]
theorem Zgl (s:List UInt8) (hs:s.length≤1048576):Zj Xs Ms YP [.d (.str s)] []=some (tnV s,[]):=by
 have ai:=ZqK (p:=isD) s;generalize aa:tnV s=res;refine cE ?_;simp +contextual -implicitDefEqProofs (maxSteps:=10^7) only[go_sem,seval,↓gZ,UU];refine LO (α:=Nat) (fun k=>[(5,.d (J (k:Int)))]) (fun _=>[]) (fun k=>k≤(s.takeWhile isD).length) (fun k=>s.length-k) 0 (by omega) ?_;intro k hk ih;have w5:=ZY (k:=k) (by omega);have e1:=Vz (s.takeWhile isD);have d1:=Zoz isD s;have d2:=Zsl isD s;have d3:s.take s.length=s:=KR;by_cases ab:k<(s.takeWhile isD).length
 ·obtain⟨c,hc,hD⟩:=ZqJ ab;have ae : (k:Int)<(s.length:Int):=by omega
  have aj:=(Jm c).1 hD;have h1:(48:Int)≤c.toNat:=by omega
  have h2:(c.toNat:Int)≤57:=by omega
  simp +contextual -implicitDefEqProofs (maxSteps:=10^7) only[go_sem,seval,↓gZ,ae,hc,h1,h2,w5];refine ih (k+1) _ (by omega) (by omega) ?_;simp +contextual -implicitDefEqProofs (maxSteps:=10^7) only[go_sem,seval,↓gZ]
 ·have ag:k=(s.takeWhile isD).length:=by omega
  subst ag;unfold tnV at aa;have ad:((s.takeWhile isD).length:Int)≤(s.length:Int):=by omega
  rcases Zni (p:=isD) (s:=s) with h | ⟨c,hc,hD⟩
  ·have af:¬((s.takeWhile isD).length:Int)<(s.length:Int):=by omega
   cases hr:rd (s.takeWhile isD) with
   | none=>
    rw[hr] at aa e1;simp only[Zaq] at e1 aa;subst aa;simp +contextual -implicitDefEqProofs (maxSteps:=10^7) only[go_sem,seval,↓gZ,af,ad,e1,d1,d2,d3]
   | some v=>
    rw[hr] at aa e1;simp only[Zaq] at e1 aa;subst aa;simp +contextual -implicitDefEqProofs (maxSteps:=10^7) only[go_sem,seval,↓gZ,af,ad,e1,d1,d2,d3]
  ·have ab:((s.takeWhile isD).length:Int)<(s.length:Int):=by have:=(Kc.1 hc).1;omega
   have ah:¬((48:Int)≤c.toNat∧(c.toNat:Int)≤57):=fun h=>hD ((Jm c).2 (by omega));by_cases h1:(48:Int)≤c.toNat
   ·have h2:¬(c.toNat:Int)≤57:=fun h=>ah ⟨h1,h⟩;cases hr:rd (s.takeWhile isD) with
    | none=>
     rw[hr] at aa e1;simp only[Zaq] at e1 aa;subst aa;simp +contextual -implicitDefEqProofs (maxSteps:=10^7) only[go_sem,seval,↓gZ,ab,hc,h1,h2,ad,e1,d1,d2,d3]
    | some v=>
     rw[hr] at aa e1;simp only[Zaq] at e1 aa;subst aa;simp +contextual -implicitDefEqProofs (maxSteps:=10^7) only[go_sem,seval,↓gZ,ab,hc,h1,h2,ad,e1,d1,d2,d3]
   ·cases hr:rd (s.takeWhile isD) with
    | none=>
     rw[hr] at aa e1;simp only[Zaq] at e1 aa;subst aa;simp +contextual -implicitDefEqProofs (maxSteps:=10^7) only[go_sem,seval,↓gZ,ab,hc,h1,ad,e1,d1,d2,d3]
    | some v=>
     rw[hr] at aa e1;simp only[Zaq] at e1 aa;subst aa;simp +contextual -implicitDefEqProofs (maxSteps:=10^7) only[go_sem,seval,↓gZ,ab,hc,h1,ad,e1,d1,d2,d3]
def TkR (res:Option (AV×List Zf)) (m:Option (BT×List UInt8)):Prop:=∃ (o a q:Int) (t:Bool) (ks:List Ze) (r:List UInt8) (ok:Bool),
 res=some (.tup [.agg [(.d (J o)),(.d (J a)),(.d (J q)),(.d (.bool t)),.own 0],.d (.str r),(.d (.bool ok))],[plO ks])∧(match m with | some (b,r')=>ok=true∧b.plan=.mk o a q t ks∧r'=r | none=>ok=false)
theorem Zar {res:Option (AV×List Zf)} {o a q:Int} {t:Bool} {ks:List Ze} {r:List UInt8} (h:res=some (.tup [.agg [(.d (J o)),(.d (J a)),(.d (J q)),(.d (.bool t)),.own 0],.d (.str r),(.d (.bool false))],[plO ks])):TkR res none:=⟨o,a,q,t,ks,r,false,h,rfl⟩
theorem ZgG {res:Option (AV×List Zf)} {b:BT} {o a q:Int} {t:Bool} {ks:List Ze} {r:List UInt8} (hb:b.plan=.mk o a q t ks) (h:res=some (.tup [.agg [(.d (J o)),(.d (J a)),(.d (J q)),(.d (.bool t)),.own 0],.d (.str r),(.d (.bool true))],[plO ks])):TkR res (some (b,r)):=⟨o,a,q,t,ks,r,true,h,rfl,hb,rfl⟩
theorem JU (c:UInt8) {k:Int} (d:UInt8) (hd:(d.toNat:Int)=k):(c.toNat:Int)=k↔c=d:=by
 constructor
 ·intro h;apply UInt8.toNat_inj.1;omega
 ·rintro rfl;exact hd
theorem ZqL (n:Nat):tk n []=none:=by cases n<;>rfl
theorem Zi6:∀ (n:Nat) (s:List UInt8),s.length≤n→s.length≤1048576→TkR (Zj Xs Ms XM [.d (.str s)] []) (tk n s):=by
 intro n
 induction n with
 | zero=>
  intro s hs _;obtain rfl:=Kh (Nat.le_zero.1 hs);rw[ZqL];refine Zar (o:=0) (a:=0) (q:=0) (t:=false) (ks:=[]) (r:=[]) ?_;refine cE ?_;simp +contextual -implicitDefEqProofs (maxSteps:=10^7) only[go_sem,seval,↓gZ,Zx]
 | succ n IH=>
  intro s hs al;cases s with
  | nil=>
   rw[ZqL];refine Zar (o:=0) (a:=0) (q:=0) (t:=false) (ks:=[]) (r:=[]) ?_;refine cE ?_;simp +contextual -implicitDefEqProofs (maxSteps:=10^7) only[go_sem,seval,↓gZ,Zx]
  | cons c s=>
   simp only[Kn] at hs al;have hb:(c :: s==[])=false:=rfl;have d3:s.take s.length=s:=KR;have aa:(1:Int)≤((s.length+1:Nat):Int):=by omega
   have e1:=Zgl s (by omega);by_cases c1:c=119
   ·have n1:(c.toNat:Int)=119:=(JU c 119 rfl).2 c1;have am:tk (n+1) (c :: s)=some (.waste,s):=by rw[tk,Ko c1]
    rw[am];refine ZgG (b:=.waste) rfl ?_;refine cE ?_;simp +contextual -implicitDefEqProofs (maxSteps:=10^7) only[go_sem,seval,↓gZ,Zx,hb,d3,aa,n1]
   have n1:¬(c.toNat:Int)=119:=fun h=>c1 ((JU c 119 rfl).1 h);rw[tk,Kf c1];cases hr:rd (s.takeWhile isD) with
   | none=>
    simp only[tnV,hr] at e1;refine Zar (o:=0) (a:=0) (q:=0) (t:=false) (ks:=[]) (r:=[]) ?_;refine cE ?_;simp +contextual -implicitDefEqProofs (maxSteps:=10^7) only[go_sem,seval,↓gZ,Zx,hb,d3,aa,n1,e1]
   | some v=>
    simp only[tnV,hr] at e1;have hv:=(Vy hr).2;obtain⟨r1,ah⟩:∃ r1,s.dropWhile isD=r1:=⟨_,rfl⟩
    rw[ah] at e1;have ar:r1.length≤s.length:=by rw[← ah];exact List.IsSuffix.length_le (List.dropWhile_suffix isD)
    simp only[KE,ah];by_cases c2:c=112
    ·have n2:(c.toNat:Int)=112:=(JU c 112 rfl).2 c2;have n3:¬(c.toNat:Int)=116:=by omega
     rw[ZfD,Ko c2];refine ZgG (b:=.pane v false) rfl ?_;refine cE ?_;simp +contextual -implicitDefEqProofs (maxSteps:=10^7) only[go_sem,seval,↓gZ,Zx,hb,d3,aa,n1,n2,n3,e1]
    have n2:¬(c.toNat:Int)=112:=fun h=>c2 ((JU c 112 rfl).1 h);rw[ZfD,Kf c2];by_cases c3:c=116
    ·have n3:(c.toNat:Int)=116:=(JU c 116 rfl).2 c3;rw[Ko c3];refine ZgG (b:=.pane v true) rfl ?_;refine cE ?_;simp +contextual -implicitDefEqProofs (maxSteps:=10^7) only[go_sem,seval,↓gZ,Zx,hb,d3,aa,n1,n2,n3,e1]
    have n3:¬(c.toNat:Int)=116:=fun h=>c3 ((JU c 116 rfl).1 h);rw[Kf c3];have ad:∀ d:Bool,(if d then (c.toNat:Int)=100 else ¬(c.toNat:Int)=100∧(c.toNat:Int)=97)→TkR (Zj Xs Ms XM [.d (.str (c :: s))] []) (ZfC d v (tk n) r1):=by
     intro d hd;have k1:=YL r1 40 (by omega);unfold ZfC ZkJ at *;cases h40:VF 40 r1 with
     | none=>
      simp only[h40] at k1;simp only[Lq];obtain⟨o1,a1,q1,t1,ab,r3,an,i1,_⟩:=IH r1 (by omega) (by omega);refine Zar (o:=0) (a:=0) (q:=0) (t:=false) (ks:=[]) (r:=[]) ?_;refine cE ?_;cases d with
      | true=>
       simp only[Kk] at hd;cases ab<;>simp +contextual -implicitDefEqProofs (maxSteps:=10^7) only[go_sem,seval,↓gZ,Zx,hb,d3,aa,n1,n2,n3,e1,hd,k1,i1]
      | false=>
       simp only[Ka,Km] at hd;cases ab<;>simp +contextual -implicitDefEqProofs (maxSteps:=10^7) only[go_sem,seval,↓gZ,Zx,hb,d3,aa,n1,n2,n3,e1,hd.1,hd.2,k1,i1]
     | some r2=>
      simp only[h40] at k1;simp only[KE];have x2:=WU h40;have ai:r2.length≤n∧r2.length≤1048576:=by
       have:r1.length=r2.length+1:=by rw[x2];rfl
       omega
      obtain⟨o1,a1,q1,t1,ab,r3,an,i1,m1⟩:=IH r2 ai.1 ai.2;cases h2:tk n r2 with
      | none=>
       rw[h2] at m1;simp only at m1;subst m1;simp only[Lq];refine Zar (o:=0) (a:=0) (q:=0) (t:=false) (ks:=[]) (r:=[]) ?_;refine cE ?_;cases d with
       | true=>
        simp only[Kk] at hd;cases ab<;>simp +contextual -implicitDefEqProofs (maxSteps:=10^7) only[go_sem,seval,↓gZ,Zx,hb,d3,aa,n1,n2,n3,e1,hd,k1,i1]
       | false=>
        simp only[Ka,Km] at hd;cases ab<;>simp +contextual -implicitDefEqProofs (maxSteps:=10^7) only[go_sem,seval,↓gZ,Zx,hb,d3,aa,n1,n2,n3,e1,hd.1,hd.2,k1,i1]
      | some p1=>
       obtain⟨b1,af⟩:=p1;rw[h2] at m1;simp only at m1;obtain⟨rfl,ao,rfl⟩:=m1;simp only[KE];have s1:=(Zbe n r2 b1 af h2).1;have aj:af.length≤n∧af.length≤1048576:=by
        have:r2.length=(shw b1).length+af.length:=by rw[s1,Kt]
        omega
       have k2:=YL af 44 (by omega);unfold ZkJ at k2;cases h44:VF 44 af with
       | none=>
        simp only[h44] at k2;simp only[Lq];obtain⟨o2,a2,q2,t2,ae,r5,ap,i2,_⟩:=IH af aj.1 aj.2;refine Zar (o:=0) (a:=0) (q:=0) (t:=false) (ks:=[]) (r:=[]) ?_;refine cE ?_;cases d with
        | true=>
         simp only[Kk] at hd;cases ab<;>cases ae<;>simp +contextual -implicitDefEqProofs (maxSteps:=10^7) only[go_sem,seval,↓gZ,Zx,hb,d3,aa,n1,n2,n3,e1,hd,k1,i1,k2,i2]
        | false=>
         simp only[Ka,Km] at hd;cases ab<;>cases ae<;>simp +contextual -implicitDefEqProofs (maxSteps:=10^7) only[go_sem,seval,↓gZ,Zx,hb,d3,aa,n1,n2,n3,e1,hd.1,hd.2,k1,i1,k2,i2]
       | some r4=>
        simp only[h44] at k2;simp only[KE];have x4:=WU h44;have ak:r4.length≤n∧r4.length≤1048576:=by
         have:af.length=r4.length+1:=by rw[x4];rfl
         omega
        obtain⟨o2,a2,q2,t2,ae,r5,ap,i2,m2⟩:=IH r4 ak.1 ak.2;cases h4:tk n r4 with
        | none=>
         rw[h4] at m2;simp only at m2;subst m2;simp only[Lq];refine Zar (o:=0) (a:=0) (q:=0) (t:=false) (ks:=[]) (r:=[]) ?_;refine cE ?_;cases d with
         | true=>
          simp only[Kk] at hd;cases ab<;>cases ae<;>simp +contextual -implicitDefEqProofs (maxSteps:=10^7) only[go_sem,seval,↓gZ,Zx,hb,d3,aa,n1,n2,n3,e1,hd,k1,i1,k2,i2]
         | false=>
          simp only[Ka,Km] at hd;cases ab<;>cases ae<;>simp +contextual -implicitDefEqProofs (maxSteps:=10^7) only[go_sem,seval,↓gZ,Zx,hb,d3,aa,n1,n2,n3,e1,hd.1,hd.2,k1,i1,k2,i2]
        | some p2=>
         obtain⟨b2,ag⟩:=p2;rw[h4] at m2;simp only at m2;obtain⟨rfl,aq,rfl⟩:=m2;simp only[KE];have s2:=(Zbe n r4 b2 ag h4).1;have au:ag.length≤1048576:=by
          have:r4.length=(shw b2).length+ag.length:=by rw[s2,Kt]
          omega
         have k3:=YL ag 41 (by omega);unfold ZkJ at k3;cases h41:VF 41 ag with
         | none=>
          simp only[h41] at k3;simp only[Lq];refine Zar (o:=Zff d) (a:=v) (q:=0) (t:=false) (ks:=[.mk o1 a1 q1 t1 ab,.mk o2 a2 q2 t2 ae]) (r:=ag) ?_;refine cE ?_;cases d with
          | true=>
           simp only[Kk] at hd;cases ab<;>cases ae<;>simp +contextual -implicitDefEqProofs (maxSteps:=10^7) only[go_sem,seval,↓gZ,Zx,hb,d3,aa,n1,n2,n3,e1,hd,k1,i1,k2,i2,k3,Zff]
          | false=>
           simp only[Ka,Km] at hd;cases ab<;>cases ae<;>simp +contextual -implicitDefEqProofs (maxSteps:=10^7) only[go_sem,seval,↓gZ,Zx,hb,d3,aa,n1,n2,n3,e1,hd.1,hd.2,k1,i1,k2,i2,k3,Zff]
         | some r6=>
          simp only[h41] at k3;simp only[KE];refine ZgG (b:=.cut d v b1 b2) (o:=Zff d) (a:=v) (q:=0) (t:=false) (ks:=[.mk o1 a1 q1 t1 ab,.mk o2 a2 q2 t2 ae]) (by rw[BT.plan,ao,aq]) ?_;refine cE ?_;cases d with
          | true=>
           simp only[Kk] at hd;cases ab<;>cases ae<;>simp +contextual -implicitDefEqProofs (maxSteps:=10^7) only[go_sem,seval,↓gZ,Zx,hb,d3,aa,n1,n2,n3,e1,hd,k1,i1,k2,i2,k3,Zff]
          | false=>
           simp only[Ka,Km] at hd;cases ab<;>cases ae<;>simp +contextual -implicitDefEqProofs (maxSteps:=10^7) only[go_sem,seval,↓gZ,Zx,hb,d3,aa,n1,n2,n3,e1,hd.1,hd.2,k1,i1,k2,i2,k3,Zff]
    by_cases c4:c=100
    ·have n4:(c.toNat:Int)=100:=(JU c 100 rfl).2 c4;rw[Ko c4];exact ad true n4
    have n4:¬(c.toNat:Int)=100:=fun h=>c4 ((JU c 100 rfl).1 h);rw[Kf c4];by_cases c5:c=97
    ·have n5:(c.toNat:Int)=97:=(JU c 97 rfl).2 c5;rw[Ko c5];exact ad false ⟨n4,n5⟩
    have n5:¬(c.toNat:Int)=97:=fun h=>c5 ((JU c 97 rfl).1 h);rw[Kf c5];refine Zar (o:=0) (a:=0) (q:=0) (t:=false) (ks:=[]) (r:=[]) ?_;refine cE ?_;simp +contextual -implicitDefEqProofs (maxSteps:=10^7) only[go_sem,seval,↓gZ,Zx,hb,d3,aa,n1,n2,n3,n4,n5,e1]
def JV (s:List UInt8):Option BT:=if s.length≤1600 then ZeJ s else none
def PrR (res:Option (AV×List Zf)) (m:Option BT):Prop:=∃ (o a q:Int) (t:Bool) (ks:List Ze),
 res=some (.tup [.agg [(.d (J o)),(.d (J a)),(.d (J q)),(.d (.bool t)),.own 0],(.d (.bool (m.isSome)))],[.row 5 (ks.map Ze.enc) true false])∧Ze.mk o a q t ks=(m.getD .waste).plan
theorem Zc4 {res:Option (AV×List Zf)} (h:res=some (.tup [.agg [(.d (J 0)),(.d (J 0)),(.d (J 0)),(.d (.bool false)),.own 0],(.d (.bool false))],[.row 5 [] true false])):PrR res none:=⟨0,0,0,false,[],h,rfl⟩
def PrT (res:Option (AV×List Zf)) (m:Option BT):Prop:=∃ (o a q:Int) (t:Bool) (ks:List Ze),
 res=some (.tup [.agg [(.d (J o)),(.d (J a)),(.d (J q)),(.d (.bool t)),.own 0],(.d (.bool (m.isSome)))],[plO ks])∧Ze.mk o a q t ks=(m.getD .waste).plan
theorem Zg5 {res:Option (AV×List Zf)} (h:res=some (.tup [.agg [(.d (J 0)),(.d (J 0)),(.d (J 0)),(.d (.bool false)),.own 0],(.d (.bool false))],[.row 5 [] true false])):PrT res none:=⟨0,0,0,false,[],h,rfl⟩
theorem Zbh (s:List UInt8) (hs:s.length≤1048576):PrT (Zj Xs Ms Vp [.d (.str s)] []) (JV s):=by
 unfold JV;by_cases hl:s.length≤1600
 ·rw[Ko hl];have aa : ¬(1600:Int)<(s.length:Int):=by omega
  obtain⟨o,a,q,t,ks,r,ok,e1,m1⟩:=Zi6 s.length s (Kg _) hs;unfold ZeJ;cases h1:tk s.length s with
  | none=>
   rw[h1] at m1;simp only at m1;subst m1;refine Zg5 ?_;refine cE ?_;cases ks<;>simp +contextual -implicitDefEqProofs (maxSteps:=10^7) only[go_sem,seval,↓gZ,Qv,aa,e1]
  | some p1=>
   obtain⟨b,r'⟩:=p1;rw[h1] at m1;simp only at m1;obtain⟨rfl,hb,rfl⟩:=m1;cases r' with
   | cons x r2=>
    have hx:(x :: r2==[])=false:=rfl;refine Zg5 ?_;refine cE ?_;cases ks<;>simp +contextual -implicitDefEqProofs (maxSteps:=10^7) only[go_sem,seval,↓gZ,Qv,aa,e1,hx]
   | nil=>
    have e2:=ZiZ b.plan;have e3:=W4 b;rw[XI] at e2;rw[hb,Ze.enc_mk] at e2 e3;show PrT _ (if b.cnt≤255∧Vj b=true then some b else none);rcases Q8 255 b with ⟨hc,hz⟩ | ⟨hc,hz⟩
    ·rw[hz] at e2;have h0:¬(b.cnt:Int)<0:=by omega
     cases hcb:Vj b with
     | false=>
      rw[hcb] at e3;rw[Kf (fun h=>by cases h.2)];refine Zg5 ?_;refine cE ?_;by_cases hk:ks=[]
      ·subst hk;simp only[Kv] at e2 e3;simp +contextual -implicitDefEqProofs (maxSteps:=10^7) only[go_sem,seval,↓gZ,Qv,aa,e1,e2,e3,h0]
       all_goals rfl
      ·have hp:=Zng hk;simp +contextual -implicitDefEqProofs (maxSteps:=10^7) only[go_sem,seval,↓gZ,Qv,aa,e1,e2,e3,h0,hp]
       all_goals rfl
     | true=>
      rw[hcb] at e3;rw[Ko ⟨by omega,rfl⟩];refine⟨o,a,q,t,ks,?_,hb.symm⟩;refine cE ?_;by_cases hk:ks=[]
      ·subst hk;simp only[Kv] at e2 e3;simp +contextual -implicitDefEqProofs (maxSteps:=10^7) only[go_sem,seval,↓gZ,Qv,aa,e1,e2,e3,h0]
       all_goals rfl
      ·have hp:=Zng hk;simp +contextual -implicitDefEqProofs (maxSteps:=10^7) only[go_sem,seval,↓gZ,Qv,aa,e1,e2,e3,h0,hp]
       all_goals rfl
      all_goals rfl
    ·rw[hz] at e2;rw[Kf (fun h=>by omega)];refine Zg5 ?_;refine cE ?_;by_cases hk:ks=[]
     ·subst hk;simp only[Kv] at e2 e3;simp +contextual -implicitDefEqProofs (maxSteps:=10^7) only[go_sem,seval,↓gZ,Qv,aa,e1,e2]
      all_goals rfl
     ·have hp:=Zng hk;simp +contextual -implicitDefEqProofs (maxSteps:=10^7) only[go_sem,seval,↓gZ,Qv,aa,e1,e2,hp]
      all_goals rfl
 ·rw[Kf hl];have aa : (1600:Int)<(s.length:Int):=by omega
  refine Zg5 ?_;refine cE ?_;simp +contextual -implicitDefEqProofs (maxSteps:=10^7) only[go_sem,seval,↓gZ,Qv,aa]
end Go.Proofs.YtnachaiejoflhaaDoor
