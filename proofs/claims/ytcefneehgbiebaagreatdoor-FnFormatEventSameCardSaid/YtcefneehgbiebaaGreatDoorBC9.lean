/- Own text. -/
import Derived.Test.YtcefneehgbiebaaGreatDoorBCode
import Derived.Test.YtcefneehgbiebaaGreatDoorAbsParts
import Derived.Test.YtcefneehgbiebaaGreatDoorBC1
namespace Go.Proofs.YtcefneehgbiebaaGreatDoor
open Go Go.Abs Go.Abs.E Go.Abs.L
open Nat (reduceMul reduceSub reduceLeDiff reduceEqDiff)
open Int (reduceLE reduceEq reduceToNat reduceNeg)
set_option linter.unusedSimpArgs false
set_option linter.unusedVariables false
set_option maxRecDepth 20000
set_option maxHeartbeats 4000000
def num (n:Nat):List UInt8:=if n<10 then [UInt8.ofNat (48+n)] else num (n / 10)++[UInt8.ofNat (48+n % 10)]
termination_by n
decreasing_by omega
def isD (c:UInt8):Bool:=decide (48≤c.toNat∧c.toNat≤57)
def val (s:List UInt8):Nat:=s.foldl (fun n c=>10*n+(c.toNat-48)) 0
theorem Zke (s:List UInt8) (c:UInt8):val (s++[c])=10*val s+(c.toNat-48):=by simp[val]
theorem ZeS {n:Nat} (h:n<10):(UInt8.ofNat (48+n)).toNat=48+n:=by
 rw[UInt8.toNat_ofNat'];omega
theorem ZAq {c:UInt8} (h:isD c=true):UInt8.ofNat (48+(c.toNat-48))=c:=by
 simp only[isD,Kn] at h;apply UInt8.toNat_inj.1;rw[UInt8.toNat_ofNat'];omega
theorem Jl {n:Nat} (h:n<10):num n=[UInt8.ofNat (48+n)]:=by rw[num,Ki h]
theorem ZhT {n:Nat} (h:¬n<10):num n=num (n / 10)++[UInt8.ofNat (48+n % 10)]:=by rw[num,Kd h]
theorem Zw3:∀ n:Nat,num n≠[]:=fun n=>by
 by_cases h:n<10
 ·rw[Jl h];simp
 ·rw[ZhT h];simp
theorem ZtG (n:Nat):∀ c∈num n,isD c=true:=by
 induction n using Nat.strongRecOn with
 | ind n ih=>
  intro c hc;by_cases h:n<10
  ·rw[Jl h] at hc;rw[KA] at hc;subst hc;have:=ZeS h;simp only[isD,Kn];omega
  ·rw[ZhT h] at hc;rcases Kg.1 hc with hc | hc
   ·exact ih (n / 10) (by omega) c hc
   ·rw[KA] at hc;subst hc;have:=ZeS (n:=n % 10) (by omega);simp only[isD,Kn];omega
theorem ZBx (n:Nat):val (num n)=n:=by
 induction n using Nat.strongRecOn with
 | ind n ih=>
  by_cases h:n<10
  ·rw[Jl h];have:=ZeS h;simp only[val,List.foldl_cons,List.foldl_nil];omega
  ·rw[ZhT h,Zke,ih (n / 10) (by omega),ZeS (by omega)];omega
theorem ZAr {n:Nat} (h:0<n):(num n).head?≠some 48:=by
 induction n using Nat.strongRecOn with
 | ind n ih=>
  by_cases h1:n<10
  ·rw[Jl h1];simp only[List.head?_cons,ne_eq,Option.some.injEq];intro e;have:=ZeS h1;rw[e] at this;have aa:(48:UInt8).toNat=48:=rfl;omega
  ·rw[ZhT h1];have:=ih (n / 10) (by omega) (by omega);cases hn:num (n / 10) with
   | nil=>exact absurd hn (Zw3 _)
   | cons a r=>rw[hn] at this;simpa using this
theorem Za8:∀ (k n:Nat),n<10 ^ (k+1)→(num n).length≤k+1
 | 0,n,h=>by rw[Jl (by simpa using h)];simp
 | k+1,n,h=>by
  by_cases h1:n<10
  ·rw[Jl h1];simp
  ·rw[ZhT h1];have:=Za8 k (n / 10) (Nat.div_lt_of_lt_mul (by rw[Nat.pow_succ,Nat.mul_comm] at h;exact h));simp;omega
theorem ZBy:∀ (s:List UInt8),(∀ c∈s,isD c=true)→s≠[]→s.head?≠some 48→0<val s:=by
 intro s;have aa:∀ (l:List UInt8) (n:Nat),0<n→0<l.foldl (fun n (c:UInt8)=>10*n+(c.toNat-48)) n:=by
  intro l
  induction l with
  | nil=>intro n h;exact h
  | cons c l ih=>intro n h;exact ih (10*n+(c.toNat-48)) (by omega)
 cases s with
 | nil=>intro _ h;exact absurd rfl h
 | cons c l=>
  intro hd _ hh;refine aa l _ ?_;have h1:=hd c (by simp);simp only[isD,Kn] at h1;have h2:c.toNat≠48:=fun e=>hh (by
   have:c=48:=UInt8.toNat_inj.1 e;simp[this])
  show 0<10*0+(c.toNat-48);omega
theorem Zpt {α:Type} (s:List α):s=[]∨∃ t c,s=t++[c]:=by
 rcases List.eq_nil_or_concat s with h | ⟨t,c,h⟩
 ·exact .inl h
 ·exact .inr ⟨t,c,by simpa using h⟩
theorem ZxS:∀ (k:Nat) (s:List UInt8),s.length≤k→(∀ c∈s,isD c=true)→s≠[]→(s.head?≠some 48∨s.length=1)→num (val s)=s
 | 0,s,hk,_,hn,_=>absurd (Kp (by omega)) hn
 | k+1,s,hk,hd,hn,hh=>by
  rcases Zpt s with h | ⟨t,c,rfl⟩
  ·exact absurd h hn
  ·rw[Zke];have hc:=hd c (by simp);have ad:=hc;simp only[isD,Kn] at ad;by_cases ht:t=[]
   ·subst ht;have e:val []=0:=rfl;rw[e,Jl (by omega)];have:=ZAq hc;rw[Nat.mul_zero,K2,this];rfl
   ·have aa:∀ c∈t,isD c=true:=fun x hx=>hd x (by simp[hx]);have ab:t.head?≠some 48:=by
     cases t with
     | nil=>exact absurd rfl ht
     | cons a r=>
      rcases hh with hh | hh
      ·simpa using hh
      ·simp at hh
    have hp:=ZBy t aa ht ab;rw[ZhT (by omega)];have e1:(10*val t+(c.toNat-48)) / 10=val t:=by omega
    have e2:(10*val t+(c.toNat-48)) % 10=c.toNat-48:=by omega
    rw[e1,e2,ZxS k t (by simp at hk;omega) aa ht (.inl ab),ZAq hc]
def ZsA (s:List UInt8):Prop:=s≠[]∧s.length≤6∧(s.head?≠some 48∨s.length=1)∧∀ c∈s,isD c=true
instance (s:List UInt8):Decidable (ZsA s):=by unfold ZsA;infer_instance
def rd (s:List UInt8):Option Nat:=if ZsA s then some (val s) else none
theorem Zw4:∀ (k:Nat) (s:List UInt8),s.length≤k→(∀ c∈s,isD c=true)→val s<10 ^ k
 | 0,s,h,_=>by
  have:s=[]:=Kp (by omega);subst this;simp[val]
 | k+1,s,h,hd=>by
  rcases Zpt s with rfl | ⟨t,c,rfl⟩
  ·have:0<10 ^ (k+1):=Nat.pow_pos (by omega);simpa [val] using this
  ·rw[Zke];have:=Zw4 k t (by simp at h;omega) (fun x hx=>hd x (by simp[hx]));have hc:=hd c (by simp);simp only[isD,Kn] at hc;rw[Nat.pow_succ];generalize 10 ^ k=m at this ⊢;omega
theorem Zha {n:Nat} (h:n≤999999):rd (num n)=some n:=by
 have h6:=Za8 5 n (by omega);have:ZsA (num n):=by
  refine⟨Zw3 n,h6,?_,ZtG n⟩;by_cases h0:n=0
  ·right;subst h0;rw[Jl (by omega)];rfl
  ·left;exact ZAr (by omega)
 rw[rd,Ki this,ZBx]
theorem Zdx {s:List UInt8} {n:Nat} (h:rd s=some n):s=num n∧n≤999999:=by
 unfold rd at h;split at h
 ·rename_i hn;cases h;obtain⟨h1,h2,h3,h4⟩:=hn;have:=Zw4 6 s h2 h4;exact⟨(ZxS s.length s (Kr _) h4 h1 h3).symm,by omega⟩
 ·cases h
def Qn (c:UInt8):List UInt8→List (List UInt8)
 | []=>[[]]
 | x :: r=>if x=c then [] :: Qn c r else match Qn c r with
  | []=>[[x]]
  | p :: q=>(x :: p) :: q
def VA (c:UInt8):List (List UInt8)→List UInt8
 | []=>[]
 | [x]=>x
 | x :: y :: r=>x++c :: VA c (y :: r)
theorem ZhU (c:UInt8):∀ s,Qn c s≠[]
 | []=>by simp[Qn]
 | x :: r=>by
  unfold Qn;split
  ·simp
  ·split<;>simp
theorem Zpu (c:UInt8):∀ s,VA c (Qn c s)=s
 | []=>rfl
 | x :: r=>by
  have ih:=Zpu c r;unfold Qn;split
  ·rename_i h;cases hs:Qn c r with
   | nil=>exact absurd hs (ZhU c r)
   | cons p q=>rw[hs] at ih;simp[VA,ih,h]
  ·split
   ·rename_i hs;exact absurd hs (ZhU c r)
   ·rename_i p q hs;rw[hs] at ih;cases q with
    | nil=>simp only[VA] at ih ⊢;rw[ih]
    | cons y q=>simp only[VA,KF] at ih ⊢;rw[ih]
theorem ZcY {c:UInt8}:∀ {s:List UInt8},c∉s→Qn c s=[s]
 | [],_=>rfl
 | x :: r,h=>by
  simp only[Kf,not_or] at h;rw[Qn,Kd (fun e=>h.1 e.symm),ZcY h.2]
theorem Zlp {c:UInt8}:∀ {a:List UInt8} {b:List UInt8},c∉a→Qn c (a++c :: b)=a :: Qn c b
 | [],b,_=>by simp[Qn]
 | x :: r,b,h=>by
  simp only[Kf,not_or] at h;rw[KF,Qn,Kd (fun e=>h.1 e.symm),Zlp h.2]
theorem Zpv {c:UInt8}:∀ {ws:List (List UInt8)},ws≠[]→(∀ w∈ws,c∉w)→Qn c (VA c ws)=ws
 | [],h,_=>absurd rfl h
 | [x],_,h=>ZcY (h x (by simp))
 | x :: y :: r,_,h=>by
  rw[VA,Zlp (h x (by simp)),Zpv (by simp) (fun w hw=>h w (by simp[hw]))]
def XM (c:UInt8):List UInt8→Option Nat
 | []=>none
 | x :: r=>if x=c then some 0 else (XM c r).map (·+1)
theorem Zkf {c:UInt8}:∀ {s:List UInt8},XM c s=none↔c∉s
 | []=>by simp[XM]
 | x :: r=>by
  unfold XM;split
  ·rename_i h;simp[h]
  ·rename_i h;simp[Zkf (s:=r),Ne.symm h]
theorem ZeT {c:UInt8}:∀ {s:List UInt8} {i:Nat},XM c s=some i→s=s.take i++c :: s.drop (i+1)∧c∉s.take i∧i<s.length
 | [],i,h=>by simp[XM] at h
 | x :: r,i,h=>by
  unfold XM at h;split at h
  ·rename_i hx;cases h;simp[hx]
  ·rename_i hx;cases hr:XM c r with
   | none=>rw[hr] at h;simp at h
   | some j=>
    rw[hr] at h;simp at h;subst h;obtain⟨h1,h2,h3⟩:=ZeT hr;refine⟨?_,?_,by simp;omega⟩
    ·simp only[LG,List.drop_succ_cons,KF];rw[← h1]
    ·simp only[LG,Kf,not_or];exact⟨fun e=>hx e.symm,h2⟩
theorem ZhV (c:UInt8) (s:List UInt8):Qn c s=match XM c s with
  | none=>[s]
  | some i=>s.take i :: Qn c (s.drop (i+1)):=by
 cases h:XM c s with
 | none=>exact ZcY (Zkf.1 h)
 | some i=>
  obtain⟨h1,h2,_⟩:=ZeT h;simp only;rw[h1,Zlp h2,← h1]
def shw:BT→List UInt8
 | .waste=>[119]
 | .pane i t=>(if t then 116 else 112) :: num i.toNat
 | .cut d a l r=>(if d then 100 else 97) :: (num a.toNat++40 :: (shw l++44 :: (shw r++[41])))
def JZ:BT→Bool
 | .waste=>true
 | .pane i _=>decide (0≤i∧i≤24)
 | .cut _ a l r=>decide (0≤a∧a≤200)&&JZ l&&JZ r
def Zkg:BT→Bool
 | .waste=>true
 | .pane i _=>decide (0≤i∧i≤999999)
 | .cut _ a l r=>decide (0≤a∧a≤999999)&&Zkg l&&Zkg r
theorem ZfC:∀ b:BT,JZ b=true→Zkg b=true
 | .waste,_=>rfl
 | .pane i t,h=>by simp only[JZ,Zkg,Kn] at h ⊢;omega
 | .cut d a l r,h=>by
  simp only[JZ,Zkg,Ke,Kn] at h ⊢;exact⟨⟨by omega,ZfC l h.1.2⟩,ZfC r h.2⟩
def Jd (x:UInt8):List UInt8→Option (List UInt8)
 | y :: r=>if y=x then some r else none
 | []=>none
def Zmf (d:Bool) (v:Nat) (rec:List UInt8→Option (BT×List UInt8)) (r:List UInt8):Option (BT×List UInt8):=
 (Jd 40 r).bind fun r1=>(rec r1).bind fun p=>(Jd 44 p.2).bind fun r3=>(rec r3).bind fun q=>(Jd 41 q.2).bind fun r5=>some (.cut d v p.1 q.1,r5)
def Zmg (c:UInt8) (v:Nat) (rec:List UInt8→Option (BT×List UInt8)) (r:List UInt8):Option (BT×List UInt8):=
 if c=112 then some (.pane v false,r) else if c=116 then some (.pane v true,r) else if c=100 then Zmf true v rec r else if c=97 then Zmf false v rec r else none
def tk:Nat→List UInt8→Option (BT×List UInt8)
 | 0,_=>none
 | _+1,[]=>none
 | n+1,c :: s=>if c=119 then some (.waste,s) else (rd (s.takeWhile isD)).bind fun v=>Zmg c v (tk n) (s.dropWhile isD)
theorem Zbl {x:UInt8} {s r:List UInt8} (h:Jd x s=some r):s=x :: r:=by
 cases s with
 | nil=>simp[Jd] at h
 | cons y t=>simp only[Jd] at h;split at h<;>simp_all
theorem ZBz {s:List UInt8} {v:Nat} (h:rd (s.takeWhile isD)=some v):s=num v++s.dropWhile isD∧v≤999999:=by
 obtain⟨h1,h2⟩:=Zdx h;exact⟨by rw[← h1,Lr],h2⟩
theorem Zmh {d:Bool} {v:Nat} {ab:List UInt8→Option (BT×List UInt8)} (aa:∀ s b r,ab s=some (b,r)→s=shw b++r∧Zkg b=true) (hv:v≤999999) {r:List UInt8} {b:BT} {t:List UInt8} (h:Zmf d v ab r=some (b,t)) :
  ∃ x y,b=.cut d v x y∧r=40 :: (shw x++44 :: (shw y++41 :: t))∧Zkg b=true:=by
 unfold Zmf at h;simp only[KZ] at h;obtain⟨r1,h1,⟨x,r2⟩,h2,r3,h3,⟨y,r4⟩,h4,r5,h5,h6⟩:=h;simp only[Option.some.injEq,Prod.mk.injEq] at h6;obtain⟨rfl,rfl⟩:=h6;obtain⟨e2,s2⟩:=aa _ _ _ h2;obtain⟨e4,s4⟩:=aa _ _ _ h4;have e1:=Zbl h1;have e3:=Zbl h3;have e5:=Zbl h5;refine⟨x,y,rfl,?_,?_⟩
 ·simp only at e3 e5;rw[e1,e2,e3,e4,e5]
 ·simp only[Zkg,s2,s4,LP,Kn];omega
theorem Zhb:∀ (n:Nat) (s:List UInt8) (b:BT) (r:List UInt8),tk n s=some (b,r)→s=shw b++r∧Zkg b=true
 | 0,s,b,r,h=>by simp[tk] at h
 | n+1,[],b,r,h=>by simp[tk] at h
 | n+1,c :: s,b,r,h=>by
  simp only[tk] at h;split at h
  ·rename_i hc;cases h;exact⟨by simp[shw,hc],rfl⟩
  ·simp only[KZ] at h;obtain⟨v,h1,h⟩:=h;obtain⟨e1,hv⟩:=ZBz h1;unfold Zmg at h;split at h
   ·rename_i hc;cases h;refine⟨?_,by simp only[Zkg,Kn];omega⟩;simp only[shw,KD,Ka,Ko,KF];rw[← e1,hc]
   ·split at h
    ·rename_i hc;cases h;refine⟨?_,by simp only[Zkg,Kn];omega⟩;simp only[shw,KD,Km,KF];rw[← e1,hc]
    ·split at h
     ·rename_i hc;obtain⟨x,y,rfl,e2,hs⟩:=Zmh (Zhb n) hv h;refine⟨?_,hs⟩;rw[e1,e2,hc];simp[shw,KD]
     ·split at h
      ·rename_i hc;obtain⟨x,y,rfl,e2,hs⟩:=Zmh (Zhb n) hv h;refine⟨?_,hs⟩;rw[e1,e2,hc];simp[shw,KD]
      ·cases h
def noDig (r:List UInt8):Prop:=∀ c t,r=c :: t→isD c=false
theorem Zvz (v:Nat) {r:List UInt8} (h:noDig r):(num v++r).takeWhile isD=num v∧(num v++r).dropWhile isD=r:=by
 have aa:∀ l:List UInt8,(∀ c∈l,isD c=true)→(l++r).takeWhile isD=l∧(l++r).dropWhile isD=r:=by
  intro l
  induction l with
  | nil=>
   intro _;cases r with
   | nil=>simp
   | cons c t=>have:=h c t rfl;simp[this]
  | cons c l ih=>
   intro hl;have:=ih (fun x hx=>hl x (by simp[hx]));simp only[KF,List.takeWhile_cons,List.dropWhile_cons,hl c (by simp),Km,this.1,this.2,and_self]
 exact aa _ (ZtG v)
theorem ZBA (b:BT):1≤(shw b).length:=by cases b<;>simp[shw]
theorem Zhc:∀ (n:Nat) (b:BT) (r:List UInt8),(shw b).length≤n→Zkg b=true→noDig r→tk n (shw b++r)=some (b,r)
 | 0,b,r,hn,_,_=>by have:=ZBA b;omega
 | n+1,.waste,r,_,_,_=>by simp[shw,tk]
 | n+1,.pane i t,r,hn,hs,hr=>by
  simp only[Zkg,Kn] at hs;obtain⟨h1,h2⟩:=Zvz i.toNat hr;have hi:((i.toNat:Nat):Int)=i:=by omega
  have aa:=Zha (n:=i.toNat) (by omega);cases t
  ·simp[shw,tk,Zmg,h1,h2,aa,hi]
  ·simp[shw,tk,Zmg,h1,h2,aa,hi]
 | n+1,.cut d a x y,r,hn,hs,hr=>by
  simp only[Zkg,Ke,Kn] at hs;obtain⟨⟨ha,hx⟩,hy⟩:=hs;simp only[shw,Ks,Kt,KM] at hn;have aa:=Zha (n:=a.toNat) (by omega);have hi:((a.toNat:Nat):Int)=a:=by omega
  have e2:=Zhc n y (41 :: r) (by omega) hy (fun c t e=>by cases e;rfl);have e1:=Zhc n x (44 :: (shw y++41 :: r)) (by omega) hx (fun c t e=>by cases e;rfl);obtain⟨h1,h2⟩:=Zvz a.toNat (r:=40 :: (shw x++44 :: (shw y++41 :: r))) (fun c t e=>by cases e;rfl);have ab:Zmf d a.toNat (tk n) (40 :: (shw x++44 :: (shw y++41 :: r)))=some (.cut d a x y,r):=by
   simp[Zmf,Jd,e1,e2,hi]
  have e:shw (.cut d a x y)++r=(if d then 100 else 97) :: (num a.toNat++40 :: (shw x++44 :: (shw y++41 :: r))):=by simp[shw]
  rw[e,tk];cases d
  ·rw[Kd (by decide),h1,aa,h2];simp only[KI,Zmg];rw[Kd (by decide),Kd (by decide),Kd (by decide),Ki (by decide),ab]
  ·rw[Kd (by decide),h1,aa,h2];simp only[KI,Zmg];rw[Kd (by decide),Kd (by decide),Ki (by decide),ab]
def Zlq (s:List UInt8):Option BT:=match tk s.length s with
 | some (b,[])=>if b.cnt≤255∧JZ b=true then some b else none
 | _=>none
theorem Zhd {s:List UInt8} {b:BT}:Zlq s=some b↔s=shw b∧b.cnt≤255∧JZ b=true:=by
 unfold Zlq;constructor
 ·intro h;split at h
  ·rename_i b' h1;split at h
   ·rename_i hc;cases h;obtain⟨e,_⟩:=Zhb _ _ _ _ h1;exact⟨by simpa using e,hc⟩
   ·cases h
  ·cases h
 ·rintro ⟨rfl,hc⟩
  have:=Zhc (shw b).length b [] (Kr _) (ZfC b hc.2) (fun c t e=>by cases e);rw[K8] at this;rw[this];simp[hc]
theorem Zy8 {b:BT} (h:b.cnt≤255) (hc:JZ b=true):Zlq (shw b)=some b:=Zhd.2 ⟨rfl,h,hc⟩
theorem ZvA (b:BT):∃ o a q t ks,b.plan=.mk o a q t ks:=by cases b.plan;exact⟨_,_,_,_,_,rfl⟩
theorem U3:∀ b:BT,Ze Xs Ms Yo [.d b.plan.enc] []=some ((.d (.bool (JZ b))),[])
 | .waste=>by
  simp only[BT.plan,JZ];refine cE ?_;simp +contextual -implicitDefEqProofs (maxSteps:=10^7) only[go_sem,seval,↓gZ,Xf];refine ZY Xs Ms ?_;simp +contextual -implicitDefEqProofs (maxSteps:=10^7) only[go_sem,seval,↓gZ]
 | .pane i t=>by
  simp only[BT.plan,JZ];refine cE ?_;by_cases h1:i<0
  ·have aa : ¬0≤i:=by omega
   simp +contextual -implicitDefEqProofs (maxSteps:=10^7) only[go_sem,seval,↓gZ,Xf,h1,aa]
  ·have aa : 0≤i:=by omega
   by_cases h2:i>24
   ·have ab : ¬i≤24:=by omega
    simp +contextual -implicitDefEqProofs (maxSteps:=10^7) only[go_sem,seval,↓gZ,Xf,h1,aa,h2,ab]
   ·have ab : i≤24:=by omega
    simp +contextual -implicitDefEqProofs (maxSteps:=10^7) only[go_sem,seval,↓gZ,Xf,h1,aa,h2,ab];refine ZY Xs Ms ?_;simp +contextual -implicitDefEqProofs (maxSteps:=10^7) only[go_sem,seval,↓gZ]
 | .cut d a l r=>by
  have e1:=U3 l;have e2:=U3 r;obtain⟨o1,a1,q1,t1,k1,ad⟩:=ZvA l;obtain⟨o2,a2,q2,t2,k2,ae⟩:=ZvA r;rw[ad,Zf.enc_mk] at e1;rw[ae,Zf.enc_mk] at e2;simp only[BT.plan,JZ,ad,ae];refine cE ?_;by_cases h1:a<0
  ·have aa : ¬0≤a:=by omega
   simp +contextual -implicitDefEqProofs (maxSteps:=10^7) only[go_sem,seval,↓gZ,Xf,h1,aa]
  ·have aa : 0≤a:=by omega
   by_cases h2:a>200
   ·have ab : ¬a≤200:=by omega
    simp +contextual -implicitDefEqProofs (maxSteps:=10^7) only[go_sem,seval,↓gZ,Xf,h1,aa,h2,ab]
   ·have ab : a≤200:=by omega
    simp +contextual -implicitDefEqProofs (maxSteps:=10^7) only[go_sem,seval,↓gZ,Xf,h1,aa,h2,ab];refine ZY Xs Ms ?_;cases hl:JZ l with
    | false=>
     rw[hl] at e1;simp +contextual -implicitDefEqProofs (maxSteps:=10^7) only[go_sem,seval,↓gZ,e1]
    | true=>
     rw[hl] at e1;simp +contextual -implicitDefEqProofs (maxSteps:=10^7) only[go_sem,seval,↓gZ,e1];refine ZY Xs Ms ?_;cases hr:JZ r with
     | false=>
      rw[hr] at e2;simp +contextual -implicitDefEqProofs (maxSteps:=10^7) only[go_sem,seval,↓gZ,e2]
     | true=>
      rw[hr] at e2;simp +contextual -implicitDefEqProofs (maxSteps:=10^7) only[go_sem,seval,↓gZ,e2];refine ZY Xs Ms ?_;simp +contextual -implicitDefEqProofs (maxSteps:=10^7) only[go_sem,seval,↓gZ]
theorem Zi2:∀ b:BT,JZ b=true→(shw b).length≤13*b.cnt
 | .waste,_=>by simp[shw,BT.cnt]
 | .pane i t,h=>by
  simp only[JZ,Kn] at h;have:=Za8 1 i.toNat (by omega);simp[shw,BT.cnt];omega
 | .cut d a l r,h=>by
  simp only[JZ,Ke,Kn] at h;have h1:=Zi2 l h.1.2;have h2:=Zi2 r h.2;have:=Za8 2 a.toNat (by omega);simp[shw,BT.cnt];omega
theorem ZBB (n:Nat):Lib.decDigits n=num n:=by
 induction n using Nat.strongRecOn with
 | ind n ih=>
  rw[Lib.decDigits,num];by_cases h:n<10
  ·rw[dif_pos h,Ki h]
  ·rw[dif_neg h,Kd h,ih (n / 10) (by omega)]
theorem X2 (n:Int) (h0:0≤n) (h1:n≤999999999):Ze Xs Ms Qp [(.d (J n))] []=some (.d (.str (num n.toNat)),[]):=by
 refine VH Xs Ms Zpx ?_;unfold Zsd;simp only;rw[Ki ⟨h0,by omega⟩,ZBB]
theorem QA (l:List UInt8) (n:Int) (c:UInt8) (hc:(c.toNat:Int)=n) (hl:l.length≤1000000000):Ze Xs Ms Zo [.ptr 0 0,.d (.int .u8 n)] [.box [.bnil 0 TB,.bbuf 5 l]]=some (.nili,[.box [.bnil 0 TB,.bbuf 5 (l++[c])]]):=by
 refine VH Xs Ms Zca ?_;have aa:=c.toNat_lt;unfold Zsa;simp only;rw[Ki ⟨trivial,trivial,by unfold ZbE;omega,by omega,by omega⟩];have e:UInt8.ofNat n.toNat=c:=by rw[← hc,KD,UInt8.ofNat_toNat]
 rw[e]
theorem VI (l s:List UInt8) (h0:0<s.length) (hl:l.length+s.length≤1000000000):Ze Xs Ms ZQ [.ptr 0 0,.d (.str s)] [.box [.bnil 0 TB,.bbuf 5 l]]=some (.tup [(.d (J (s.length))),.nili],[.box [.bnil 0 TB,.bbuf 5 (l++s)]]):=by
 refine VH Xs Ms Zbm ?_;unfold ZyW;simp only;rw[Ki ⟨trivial,trivial,by omega,by unfold ZbE;omega⟩]
theorem Zkh (l:List UInt8):Ze Xs Ms Qq [.ptr 0 0] [.box [.bnil 0 TB,.bbuf 5 l]]=some (.d (.str l),[.box [.bnil 0 TB,.junk]]):=by
 refine VH Xs Ms ZdW ?_;unfold Zsb;simp only;rw[Ki ⟨trivial,trivial⟩]
theorem ZxT (n:Nat):0<(num n).length:=List.length_pos_iff.2 (Zw3 n)
theorem ZcZ:∀ (b:BT) (l:List UInt8),JZ b=true→l.length+(shw b).length≤100000000→Ze Xs Ms YV [.ptr 0 0,.d b.plan.enc] [.box [.bnil 0 TB,.bbuf 5 l]]=some (.tup [],[.box [.bnil 0 TB,.bbuf 5 (l++shw b)]])
 | .waste,l,_,hl=>by
  simp only[shw,Ks,KM] at hl;have e1:=QA l 119 119 rfl (by omega);simp only[BT.plan,shw];refine cE ?_;simp +contextual -implicitDefEqProofs (maxSteps:=10^7) only[go_sem,seval,↓gZ,Y0,e1]
 | .pane i t,l,h,hl=>by
  simp only[JZ,Kn] at h;simp only[shw,Ks] at hl;have e2:=X2 i h.1 (by omega);have l1:=ZxT i.toNat;simp only[BT.plan,shw];refine cE ?_;cases t with
  | false=>
   have e1:=QA l 112 112 rfl (by omega);have e3:=VI (l++[112]) (num i.toNat) l1 (by simp;omega);simp +contextual -implicitDefEqProofs (maxSteps:=10^7) only[go_sem,seval,↓gZ,Y0,e1,e2,e3];simp
  | true=>
   have e1:=QA l 116 116 rfl (by omega);have e3:=VI (l++[116]) (num i.toNat) l1 (by simp;omega);simp +contextual -implicitDefEqProofs (maxSteps:=10^7) only[go_sem,seval,↓gZ,Y0,e1,e2,e3];simp
 | .cut d a x y,l,h,hl=>by
  simp only[JZ,Ke,Kn] at h;simp only[shw,Ks,Kt,KM] at hl;have l1:=ZxT a.toNat;have aa:∀ (n:Int) (c:UInt8),(c.toNat:Int)=n→True:=fun _ _ _=>trivial;have e2:=X2 a h.1.1.1 (by omega);have g1:=QA l (if d then 100 else 97) (if d then 100 else 97) (by cases d<;>rfl) (by omega);have g2:=VI (l++[if d then 100 else 97]) (num a.toNat) l1 (by simp;omega);have g3:=QA (l++[if d then 100 else 97]++num a.toNat) 40 40 rfl (by simp;omega);have g4:=ZcZ x (l++[if d then 100 else 97]++num a.toNat++[40]) h.1.2 (by simp;omega);have g5:=QA (l++[if d then 100 else 97]++num a.toNat++[40]++shw x) 44 44 rfl (by simp;omega)
  have g6:=ZcZ y (l++[if d then 100 else 97]++num a.toNat++[40]++shw x++[44]) h.2 (by simp;omega);have g7:=QA (l++[if d then 100 else 97]++num a.toNat++[40]++shw x++[44]++shw y) 41 41 rfl (by simp;omega);simp only[BT.plan,shw];refine cE ?_;cases d with
  | true=>
   simp only[Km] at g1 g2 g3 g4 g5 g6 g7;simp +contextual -implicitDefEqProofs (maxSteps:=10^7) only[go_sem,seval,↓gZ,Y0,VX,e2,g1,g2,g3,g4,g5,g6,g7];simp
  | false=>
   simp only[Ka,Ko] at g1 g2 g3 g4 g5 g6 g7;simp +contextual -implicitDefEqProofs (maxSteps:=10^7) only[go_sem,seval,↓gZ,Y0,VX,e2,g1,g2,g3,g4,g5,g6,g7];simp
def Zw5 (p:Zf):List UInt8:=match Q6 p with
 | some b=>if b.cnt≤255∧JZ b=true then shw b else []
 | none=>[]
theorem ZsB {p:Zf} (h:Q6 p=none):Zw5 p=[]:=by unfold Zw5;rw[h]
theorem Zlr {p:Zf} {b:BT} (h:Q6 p=some b):Zw5 p=if b.cnt≤255∧JZ b=true then shw b else []:=by unfold Zw5;rw[h]
theorem ZmO (p:Zf):Ze Xs Ms WM [.d p.enc] []=some (.d (.str (Zw5 p)),[]):=by
 have e1:=ZdQ p;cases hp:Q6 p with
 | none=>
  rw[ZsB hp];rw[hp,show Zw 255 none=-1 from rfl] at e1;obtain⟨o,a,q,t,ks⟩:=p;rw[Zf.enc_mk] at e1 ⊢;refine cE ?_;simp +contextual -implicitDefEqProofs (maxSteps:=10^7) only[go_sem,seval,↓gZ,Vr,e1]
 | some b=>
  rw[Zlr hp];rw[hp] at e1;obtain rfl:=ZaE hp;have e2:=U3 b;rcases XI 255 b with ⟨hc,hs⟩ | ⟨hc,hs⟩
  ·rw[hs] at e1;have h0:¬(b.cnt:Int)<0:=by omega
   cases hb:JZ b with
   | false=>
    rw[hb] at e2;rw[Kd (fun h=>by cases h.2)];obtain⟨o,a,q,t,ks,hk⟩:=ZvA b;rw[hk,Zf.enc_mk] at e1 e2 ⊢;refine cE ?_;simp +contextual -implicitDefEqProofs (maxSteps:=10^7) only[go_sem,seval,↓gZ,Vr,e1,e2,h0]
   | true=>
    rw[hb] at e2;rw[Ki ⟨by omega,rfl⟩];have hl:=Zi2 b hb;have e3:=ZcZ b [] hb (by simp;omega);have e4:=Zkh ([]++shw b);obtain⟨o,a,q,t,ks,hk⟩:=ZvA b;rw[hk,Zf.enc_mk] at e1 e2 e3 ⊢;rw[Lu] at e3 e4;refine cE ?_;simp +contextual -implicitDefEqProofs (maxSteps:=10^7) only[go_sem,seval,↓gZ,Vr,e1,e2,e3,e4,h0]
  ·rw[hs] at e1;rw[Kd (fun h=>by omega)];obtain⟨o,a,q,t,ks,hk⟩:=ZvA b;rw[hk,Zf.enc_mk] at e1 ⊢;refine cE ?_;simp +contextual -implicitDefEqProofs (maxSteps:=10^7) only[go_sem,seval,↓gZ,Vr,e1]
theorem ZtH (x c:UInt8) (r:List UInt8) (hr:r.length≤1000000000):Ze Xs Ms ZV [.d (.str (x :: r)),.d (.str [c])] []=some ((.d (.bool ([x]==[c]))),[]):=by
 have h1:(1:Int)≤((r.length+1:Nat):Int):=by omega
 refine cE ?_;simp +contextual -implicitDefEqProofs (maxSteps:=10^7) only[go_sem,seval,↓gZ,Qu,h1]
theorem ZqF (c:UInt8):Ze Xs Ms ZV [.d (.str []),.d (.str [c])] []=some ((.d (.bool false)),[]):=by
 refine cE ?_;simp +contextual -implicitDefEqProofs (maxSteps:=10^7) only[go_sem,seval,↓gZ,Qu]
def ZtI (s:List UInt8) (c:UInt8):AV:=match Jd c s with
 | some r=>.tup [.d (.str r),(.d (.bool true))]
 | none=>.tup [.d (.str s),(.d (.bool false))]
theorem ZdV (s:List UInt8) (c:UInt8) (hr:s.length≤1000000000):Ze Xs Ms Z5 [.d (.str s),.d (.str [c])] []=some (ZtI s c,[]):=by
 cases s with
 | nil=>
  have e1:=ZqF c;simp only[ZtI,Jd];refine cE ?_;simp +contextual -implicitDefEqProofs (maxSteps:=10^7) only[go_sem,seval,↓gZ,Z7,e1]
 | cons x r=>
  have e1:=ZtH x c r (by simp at hr;omega);by_cases h:x=c
  ·subst h;simp only[ZtI,Jd,Km];rw[show ([x]==[x])=true by simp] at e1;have h1:(1:Int)≤((r.length+1:Nat):Int):=by omega
   have h2:r.take r.length=r:=La;refine cE ?_;simp +contextual -implicitDefEqProofs (maxSteps:=10^7) only[go_sem,seval,↓gZ,Z7,e1,h1,h2]
  ·rw[show ([x]==[c])=false by simp[h]] at e1;simp only[ZtI,Jd,Kd h];refine cE ?_;simp +contextual -implicitDefEqProofs (maxSteps:=10^7) only[go_sem,seval,↓gZ,Z7,e1]
theorem WJ (s:List UInt8) (c:UInt8) (hr:s.length≤1000000000):Ze Xs Ms QO [.d (.str s),.d (.str [c])] []=some (ZtI s c,[]):=by
 have e1:=ZdV s c hr;unfold ZtI at e1 ⊢;cases h:Jd c s with
 | none=>
  rw[h] at e1;refine cE ?_;simp +contextual -implicitDefEqProofs (maxSteps:=10^7) only[go_sem,seval,↓gZ,Y6,e1]
 | some r=>
  rw[h] at e1;refine cE ?_;simp +contextual -implicitDefEqProofs (maxSteps:=10^7) only[go_sem,seval,↓gZ,Y6,e1]
theorem wu8 (x:Int) (h0:0≤x) (h1:x<256):IntKind.u8.wrap x=x:=by
 unfold IntKind.wrap;simp[IntKind.bits,IntKind.signed];omega
theorem rd_of {s:List UInt8} (h:ZsA s):rd s=some (val s):=by unfold rd;rw[Ki h]
theorem ZtJ {s:List UInt8} (h:¬ZsA s):rd s=none:=by unfold rd;rw[Kd h]
theorem Znv (c:UInt8):isD c=true↔¬(c.toNat:Int)<48∧¬(57:Int)<(c.toNat:Int):=by
 simp only[isD,Kn];omega
theorem ZAs {s:List UInt8} {k:Nat} {c:UInt8} (h:s[k]?=some c):val (s.take (k+1))=10*val (s.take k)+(c.toNat-48):=by
 obtain⟨hk,he⟩:=Kb.1 h;rw[Lo hk,Zke,he]
def ZfD:Option Nat→AV
 | some v=>.tup [(.d (J ((v:Nat)))),(.d (.bool true))]
 | none=>.tup [(.d (J 0)),(.d (.bool false))]
theorem U4 (s:List UInt8):Ze Xs Ms Ym [.d (.str s)] []=some (ZfD (rd s),[]):=by
 by_cases h0:s=[]
 ·subst h0;rw[ZtJ (fun h=>h.1 rfl)];simp only[ZfD];refine cE ?_;simp +contextual -implicitDefEqProofs (maxSteps:=10^7) only[go_sem,seval,↓gZ,Vs]
 by_cases h6:s.length≤6
 ·obtain⟨x,r,hs⟩:=List.exists_cons_of_ne_nil h0;have al:s.length=r.length+1:=by rw[hs];rfl
  have ag : ¬(6:Int)<((r.length+1:Nat):Int):=by omega
  have hb:(x :: r==[])=false:=rfl;have ae:(x.toNat:Int)=48↔x=48:=by
   constructor
   ·intro h;apply UInt8.toNat_inj.1;simpa using (by omega:x.toNat=48)
   ·rintro rfl;rfl
  by_cases hz:(x.toNat:Int)=48∧(1:Int)<((r.length+1:Nat):Int)
  ·rw[ZtJ (fun h=>by
    rcases h.2.2.1 with h | h
    ·rw[hs] at h;exact h (by rw[ae.1 hz.1];rfl)
    ·omega)]
   simp only[ZfD];obtain⟨am,an⟩:=hz;rw[hs];refine cE ?_;simp +contextual -implicitDefEqProofs (maxSteps:=10^7) only[go_sem,seval,↓gZ,Vs,ag,hb,am,an]
  ·have af:s.head?≠some 48∨s.length=1:=by
    by_cases hl:s.length=1
    ·exact .inr hl
    ·refine .inl ?_;rw[hs];intro h;simp only[List.head?_cons,Option.some.injEq] at h;exact hz ⟨ae.2 h,by omega⟩
   generalize aa:ZfD (rd s)=res;rw[hs];refine cE ?_;simp +contextual -implicitDefEqProofs (maxSteps:=10^7) only[go_sem,seval,↓gZ,Vs,ag,hb,hz];rw[← hs,show r.length+1=s.length by omega];refine LO (α:=Nat) (fun k=>[(25,.d (J (k:Int))),(4,.d (J (val (s.take k):Nat)))]) (fun _=>[]) (fun k=>k≤s.length∧∀ c∈s.take k,isD c=true) (fun k=>s.length-k) 0 (by simp) ?_;intro k ⟨hk,hd⟩ ih;have hv:=Zw4 k (s.take k) (by simp;omega) hd;have hp:10 ^ k≤10 ^ 6:=Nat.pow_le_pow_right (by decide) (by omega);by_cases aj:k<s.length
   ·obtain⟨c,hc⟩:∃ c,s[k]?=some c:=⟨_,Kq aj⟩
    have ab : (k:Int)<(s.length:Int):=by omega
    by_cases hD:isD c=true
    ·have ak:=(Znv c).1 hD;have au:(48:Int)≤c.toNat∧(c.toNat:Int)≤57:=by omega
     have w1:=wi (10*(val (s.take k):Nat)) (by omega) (by omega);have w2:=wu8 ((c.toNat:Int)-48) (by omega) (by omega);have w3:=wi ((c.toNat:Int)-48) (by omega) (by omega);have w4:IntKind.i64.wrap (10*(val (s.take k):Nat)+((c.toNat:Int)-48))=((val (s.take (k+1)):Nat):Int):=by
      rw[wi _ (by omega) (by omega),ZAs hc];omega
     have w5:=Zj (k:=k) (by omega);simp +contextual -implicitDefEqProofs (maxSteps:=10^7) only[go_sem,seval,↓gZ,ab,hc,ak.1,ak.2,w1,w2,w3,w4,w5];refine ih (k+1) _ ⟨by omega,fun d ad=>?_⟩ (by omega) ?_
     ·rw[Lo aj] at ad;rcases Kg.1 ad with ad | ad
      ·exact hd d ad
      ·simp only[KA] at ad;rw[ad,← (Kb.1 hc).2] at *;exact hD
     ·simp +contextual -implicitDefEqProofs (maxSteps:=10^7) only[go_sem,seval,↓gZ]
    ·have ao:rd s=none:=ZtJ fun h=>hD (h.2.2.2 c (Kc hc));rw[ao] at aa;simp only[ZfD] at aa;subst aa;by_cases ah:(c.toNat:Int)<48
     ·simp +contextual -implicitDefEqProofs (maxSteps:=10^7) only[go_sem,seval,↓gZ,ab,hc,ah]
     ·have ap:(57:Int)<(c.toNat:Int):=Classical.byContradiction fun h=>hD ((Znv c).2 ⟨ah,h⟩);simp +contextual -implicitDefEqProofs (maxSteps:=10^7) only[go_sem,seval,↓gZ,ab,hc,ah,ap]
   ·have aq:k=s.length:=by omega
    subst aq;rw[La] at hd;have ai:rd s=some (val s):=rd_of ⟨h0,h6,af,hd⟩;rw[ai] at aa;simp only[ZfD] at aa;subst aa;have ht:s.take s.length=s:=La;have ar:¬(s.length:Int)<(s.length:Int):=by omega
    simp +contextual -implicitDefEqProofs (maxSteps:=10^7) only[go_sem,seval,↓gZ,ht,ar]
 ·have ag : (6:Int)<(s.length:Int):=by omega
  have hb:(s==[])=false:=by
   cases s with
   | nil=>exact absurd rfl h0
   | cons x r=>rfl
  rw[ZtJ (fun h=>h6 h.2.1)];simp only[ZfD];refine cE ?_;simp +contextual -implicitDefEqProofs (maxSteps:=10^7) only[go_sem,seval,↓gZ,Vs,ag,hb]
theorem tw_in {p:UInt8→Bool}:∀ {s:List UInt8} {k:Nat},k<(s.takeWhile p).length→∃ c,s[k]?=some c∧p c=true
 | [],k,h=>by simp at h
 | x :: s,k,h=>by
  by_cases hx:p x=true
  ·rw[List.takeWhile_cons_of_pos hx] at h;cases k with
   | zero=>exact⟨x,rfl,hx⟩
   | succ k=>simpa using tw_in (s:=s) (k:=k) (by simpa using h)
  ·rw[List.takeWhile_cons_of_neg hx] at h;simp at h
theorem ZAt {p:UInt8→Bool}:∀ {s:List UInt8},(s.takeWhile p).length=s.length∨∃ c,s[(s.takeWhile p).length]?=some c∧¬p c=true
 | []=>.inl rfl
 | x :: s=>by
  by_cases hx:p x=true
  ·rw[List.takeWhile_cons_of_pos hx];rcases ZAt (p:=p) (s:=s) with h | ⟨c,h,h'⟩
   ·exact .inl (by simp[h])
   ·exact .inr ⟨c,by simpa using h,h'⟩
  ·rw[List.takeWhile_cons_of_neg hx];exact .inr ⟨x,rfl,hx⟩
theorem tw_le {p:UInt8→Bool} (s:List UInt8):(s.takeWhile p).length≤s.length:=List.IsPrefix.length_le (List.takeWhile_prefix p)
theorem ZBC (p:UInt8→Bool) (s:List UInt8):s.take (s.takeWhile p).length=s.takeWhile p:=by
 conv=>lhs;rw[← Lr (p:=p) (l:=s),Lr]
 exact(List.prefix_iff_eq_take.1 (List.takeWhile_prefix p)).symm
theorem ZBD (p:UInt8→Bool) (s:List UInt8):s.drop (s.takeWhile p).length=s.dropWhile p:=by
 have h:=Lr (p:=p) (l:=s)
 conv=>lhs;arg 2;rw[← h]
 rw[List.drop_left]
def tnV (s:List UInt8):AV:=match rd (s.takeWhile isD) with
 | some v=>.tup [(.d (J ((v:Nat)))),.d (.str (s.dropWhile isD)),(.d (.bool true))]
 | none=>.tup [(.d (J 0)),.d (.str (s.dropWhile isD)),(.d (.bool false))]
theorem ZmP (s:List UInt8) (hs:s.length≤1000000):Ze Xs Ms WR [.d (.str s)] []=some (tnV s,[]):=by
 have ai:=tw_le (p:=isD) s;generalize aa:tnV s=res;refine cE ?_;simp +contextual -implicitDefEqProofs (maxSteps:=10^7) only[go_sem,seval,↓gZ,Zdd];refine LO (α:=Nat) (fun k=>[(5,.d (J (k:Int)))]) (fun _=>[]) (fun k=>k≤(s.takeWhile isD).length) (fun k=>s.length-k) 0 (by omega) ?_;intro k hk ih;have w5:=Zj (k:=k) (by omega);have e1:=U4 (s.takeWhile isD);have d1:=ZBC isD s;have d2:=ZBD isD s;have d3:s.take s.length=s:=La;by_cases ab:k<(s.takeWhile isD).length
 ·obtain⟨c,hc,hD⟩:=tw_in ab;have ae : (k:Int)<(s.length:Int):=by omega
  have aj:=(Znv c).1 hD;have h1:(48:Int)≤c.toNat:=by omega
  have h2:(c.toNat:Int)≤57:=by omega
  simp +contextual -implicitDefEqProofs (maxSteps:=10^7) only[go_sem,seval,↓gZ,ae,hc,h1,h2,w5];refine ih (k+1) _ (by omega) (by omega) ?_;simp +contextual -implicitDefEqProofs (maxSteps:=10^7) only[go_sem,seval,↓gZ]
 ·have ag:k=(s.takeWhile isD).length:=by omega
  subst ag;unfold tnV at aa;have ad:((s.takeWhile isD).length:Int)≤(s.length:Int):=by omega
  rcases ZAt (p:=isD) (s:=s) with h | ⟨c,hc,hD⟩
  ·have af:¬((s.takeWhile isD).length:Int)<(s.length:Int):=by omega
   cases hr:rd (s.takeWhile isD) with
   | none=>
    rw[hr] at aa e1;simp only[ZfD] at e1 aa;subst aa;simp +contextual -implicitDefEqProofs (maxSteps:=10^7) only[go_sem,seval,↓gZ,af,ad,e1,d1,d2,d3]
   | some v=>
    rw[hr] at aa e1;simp only[ZfD] at e1 aa;subst aa;simp +contextual -implicitDefEqProofs (maxSteps:=10^7) only[go_sem,seval,↓gZ,af,ad,e1,d1,d2,d3]
  ·have ab:((s.takeWhile isD).length:Int)<(s.length:Int):=by have:=(Kb.1 hc).1;omega
   have ah:¬((48:Int)≤c.toNat∧(c.toNat:Int)≤57):=fun h=>hD ((Znv c).2 (by omega));by_cases h1:(48:Int)≤c.toNat
   ·have h2:¬(c.toNat:Int)≤57:=fun h=>ah ⟨h1,h⟩;cases hr:rd (s.takeWhile isD) with
    | none=>
     rw[hr] at aa e1;simp only[ZfD] at e1 aa;subst aa;simp +contextual -implicitDefEqProofs (maxSteps:=10^7) only[go_sem,seval,↓gZ,ab,hc,h1,h2,ad,e1,d1,d2,d3]
    | some v=>
     rw[hr] at aa e1;simp only[ZfD] at e1 aa;subst aa;simp +contextual -implicitDefEqProofs (maxSteps:=10^7) only[go_sem,seval,↓gZ,ab,hc,h1,h2,ad,e1,d1,d2,d3]
   ·cases hr:rd (s.takeWhile isD) with
    | none=>
     rw[hr] at aa e1;simp only[ZfD] at e1 aa;subst aa;simp +contextual -implicitDefEqProofs (maxSteps:=10^7) only[go_sem,seval,↓gZ,ab,hc,h1,ad,e1,d1,d2,d3]
    | some v=>
     rw[hr] at aa e1;simp only[ZfD] at e1 aa;subst aa;simp +contextual -implicitDefEqProofs (maxSteps:=10^7) only[go_sem,seval,↓gZ,ab,hc,h1,ad,e1,d1,d2,d3]
def TkR (res:Option (AV×List Zl)) (m:Option (BT×List UInt8)):Prop:=∃ (o a q:Int) (t:Bool) (ks:List Zf) (r:List UInt8) (ok:Bool),
 res=some (.tup [.agg [(.d (J o)),(.d (J a)),(.d (J q)),(.d (.bool t)),.own 0],.d (.str r),(.d (.bool ok))],[.row 5 (ks.map Zf.enc) true false])∧(match m with | some (b,r')=>ok=true∧b.plan=.mk o a q t ks∧r'=r | none=>ok=false)
theorem ZfE {res:Option (AV×List Zl)} {o a q:Int} {t:Bool} {ks:List Zf} {r:List UInt8} (h:res=some (.tup [.agg [(.d (J o)),(.d (J a)),(.d (J q)),(.d (.bool t)),.own 0],.d (.str r),(.d (.bool false))],[.row 5 (ks.map Zf.enc) true false])):TkR res none:=⟨o,a,q,t,ks,r,false,h,rfl⟩
theorem Znw {res:Option (AV×List Zl)} {b:BT} {o a q:Int} {t:Bool} {ks:List Zf} {r:List UInt8} (hb:b.plan=.mk o a q t ks) (h:res=some (.tup [.agg [(.d (J o)),(.d (J a)),(.d (J q)),(.d (.bool t)),.own 0],.d (.str r),(.d (.bool true))],[.row 5 (ks.map Zf.enc) true false])):TkR res (some (b,r)):=⟨o,a,q,t,ks,r,true,h,rfl,hb,rfl⟩
theorem ZqG (c:UInt8) {k:Int} (d:UInt8) (hd:(d.toNat:Int)=k):(c.toNat:Int)=k↔c=d:=by
 constructor
 ·intro h;apply UInt8.toNat_inj.1;omega
 ·rintro rfl;exact hd
theorem ZAu (n:Nat):tk n []=none:=by cases n<;>rfl
theorem ZqH:∀ (n:Nat) (s:List UInt8),s.length≤n→s.length≤1000000→TkR (Ze Xs Ms YK [.d (.str s)] []) (tk n s):=by
 intro n
 induction n with
 | zero=>
  intro s hs _;obtain rfl:=Kp (Nat.le_zero.1 hs);rw[ZAu];refine ZfE (o:=0) (a:=0) (q:=0) (t:=false) (ks:=[]) (r:=[]) ?_;refine cE ?_;simp +contextual -implicitDefEqProofs (maxSteps:=10^7) only[go_sem,seval,↓gZ,ZN]
 | succ n IH=>
  intro s hs al;cases s with
  | nil=>
   rw[ZAu];refine ZfE (o:=0) (a:=0) (q:=0) (t:=false) (ks:=[]) (r:=[]) ?_;refine cE ?_;simp +contextual -implicitDefEqProofs (maxSteps:=10^7) only[go_sem,seval,↓gZ,ZN]
  | cons c s=>
   simp only[Ks] at hs al;have hb:(c :: s==[])=false:=rfl;have d3:s.take s.length=s:=La;have aa:(1:Int)≤((s.length+1:Nat):Int):=by omega
   have e1:=ZmP s (by omega);by_cases c1:c=119
   ·have n1:(c.toNat:Int)=119:=(ZqG c 119 rfl).2 c1;have am:tk (n+1) (c :: s)=some (.waste,s):=by rw[tk,Ki c1]
    rw[am];refine Znw (b:=.waste) rfl ?_;refine cE ?_;simp +contextual -implicitDefEqProofs (maxSteps:=10^7) only[go_sem,seval,↓gZ,ZN,hb,d3,aa,n1]
   have n1:¬(c.toNat:Int)=119:=fun h=>c1 ((ZqG c 119 rfl).1 h);rw[tk,Kd c1];cases hr:rd (s.takeWhile isD) with
   | none=>
    simp only[tnV,hr] at e1;refine ZfE (o:=0) (a:=0) (q:=0) (t:=false) (ks:=[]) (r:=[]) ?_;refine cE ?_;simp +contextual -implicitDefEqProofs (maxSteps:=10^7) only[go_sem,seval,↓gZ,ZN,hb,d3,aa,n1,e1]
   | some v=>
    simp only[tnV,hr] at e1;have hv:=(Zdx hr).2;obtain⟨r1,af⟩:∃ r1,s.dropWhile isD=r1:=⟨_,rfl⟩
    rw[af] at e1;have ar:r1.length≤s.length:=by rw[← af];exact List.IsSuffix.length_le (List.dropWhile_suffix isD)
    simp only[KI,af];by_cases c2:c=112
    ·have n2:(c.toNat:Int)=112:=(ZqG c 112 rfl).2 c2;have n3:¬(c.toNat:Int)=116:=by omega
     rw[Zmg,Ki c2];refine Znw (b:=.pane v false) rfl ?_;refine cE ?_;simp +contextual -implicitDefEqProofs (maxSteps:=10^7) only[go_sem,seval,↓gZ,ZN,hb,d3,aa,n1,n2,n3,e1]
    have n2:¬(c.toNat:Int)=112:=fun h=>c2 ((ZqG c 112 rfl).1 h);rw[Zmg,Kd c2];by_cases c3:c=116
    ·have n3:(c.toNat:Int)=116:=(ZqG c 116 rfl).2 c3;rw[Ki c3];refine Znw (b:=.pane v true) rfl ?_;refine cE ?_;simp +contextual -implicitDefEqProofs (maxSteps:=10^7) only[go_sem,seval,↓gZ,ZN,hb,d3,aa,n1,n2,n3,e1]
    have n3:¬(c.toNat:Int)=116:=fun h=>c3 ((ZqG c 116 rfl).1 h);rw[Kd c3];have ab:∀ d:Bool,(if d then (c.toNat:Int)=100 else ¬(c.toNat:Int)=100∧(c.toNat:Int)=97)→TkR (Ze Xs Ms YK [.d (.str (c :: s))] []) (Zmf d v (tk n) r1):=by
     intro d hd;have k1:=WJ r1 40 (by omega);unfold Zmf ZtI at *;cases h40:Jd 40 r1 with
     | none=>
      simp only[h40] at k1;simp only[LI];obtain⟨o1,a1,q1,t1,ag,r3,an,i1,_⟩:=IH r1 (by omega) (by omega);refine ZfE (o:=0) (a:=0) (q:=0) (t:=false) (ks:=[]) (r:=[]) ?_;refine cE ?_;cases d with
      | true=>
       simp only[Km] at hd;simp +contextual -implicitDefEqProofs (maxSteps:=10^7) only[go_sem,seval,↓gZ,ZN,hb,d3,aa,n1,n2,n3,e1,hd,k1,i1]
      | false=>
       simp only[Ka,Ko] at hd;simp +contextual -implicitDefEqProofs (maxSteps:=10^7) only[go_sem,seval,↓gZ,ZN,hb,d3,aa,n1,n2,n3,e1,hd.1,hd.2,k1,i1]
     | some r2=>
      simp only[h40] at k1;simp only[KI];have x2:=Zbl h40;have ai:r2.length≤n∧r2.length≤1000000:=by
       have:r1.length=r2.length+1:=by rw[x2];rfl
       omega
      obtain⟨o1,a1,q1,t1,ag,r3,an,i1,m1⟩:=IH r2 ai.1 ai.2;cases h2:tk n r2 with
      | none=>
       rw[h2] at m1;simp only at m1;subst m1;simp only[LI];refine ZfE (o:=0) (a:=0) (q:=0) (t:=false) (ks:=[]) (r:=[]) ?_;refine cE ?_;cases d with
       | true=>
        simp only[Km] at hd;simp +contextual -implicitDefEqProofs (maxSteps:=10^7) only[go_sem,seval,↓gZ,ZN,hb,d3,aa,n1,n2,n3,e1,hd,k1,i1]
       | false=>
        simp only[Ka,Ko] at hd;simp +contextual -implicitDefEqProofs (maxSteps:=10^7) only[go_sem,seval,↓gZ,ZN,hb,d3,aa,n1,n2,n3,e1,hd.1,hd.2,k1,i1]
      | some p1=>
       obtain⟨b1,ad⟩:=p1;rw[h2] at m1;simp only at m1;obtain⟨rfl,ao,rfl⟩:=m1;simp only[KI];have s1:=(Zhb n r2 b1 ad h2).1;have aj:ad.length≤n∧ad.length≤1000000:=by
        have:r2.length=(shw b1).length+ad.length:=by rw[s1,Kt]
        omega
       have k2:=WJ ad 44 (by omega);unfold ZtI at k2;cases h44:Jd 44 ad with
       | none=>
        simp only[h44] at k2;simp only[LI];obtain⟨o2,a2,q2,t2,ah,r5,ap,i2,_⟩:=IH ad aj.1 aj.2;refine ZfE (o:=0) (a:=0) (q:=0) (t:=false) (ks:=[]) (r:=[]) ?_;refine cE ?_;cases d with
        | true=>
         simp only[Km] at hd;simp +contextual -implicitDefEqProofs (maxSteps:=10^7) only[go_sem,seval,↓gZ,ZN,hb,d3,aa,n1,n2,n3,e1,hd,k1,i1,k2,i2]
        | false=>
         simp only[Ka,Ko] at hd;simp +contextual -implicitDefEqProofs (maxSteps:=10^7) only[go_sem,seval,↓gZ,ZN,hb,d3,aa,n1,n2,n3,e1,hd.1,hd.2,k1,i1,k2,i2]
       | some r4=>
        simp only[h44] at k2;simp only[KI];have x4:=Zbl h44;have ak:r4.length≤n∧r4.length≤1000000:=by
         have:ad.length=r4.length+1:=by rw[x4];rfl
         omega
        obtain⟨o2,a2,q2,t2,ah,r5,ap,i2,m2⟩:=IH r4 ak.1 ak.2;cases h4:tk n r4 with
        | none=>
         rw[h4] at m2;simp only at m2;subst m2;simp only[LI];refine ZfE (o:=0) (a:=0) (q:=0) (t:=false) (ks:=[]) (r:=[]) ?_;refine cE ?_;cases d with
         | true=>
          simp only[Km] at hd;simp +contextual -implicitDefEqProofs (maxSteps:=10^7) only[go_sem,seval,↓gZ,ZN,hb,d3,aa,n1,n2,n3,e1,hd,k1,i1,k2,i2]
         | false=>
          simp only[Ka,Ko] at hd;simp +contextual -implicitDefEqProofs (maxSteps:=10^7) only[go_sem,seval,↓gZ,ZN,hb,d3,aa,n1,n2,n3,e1,hd.1,hd.2,k1,i1,k2,i2]
        | some p2=>
         obtain⟨b2,ae⟩:=p2;rw[h4] at m2;simp only at m2;obtain⟨rfl,aq,rfl⟩:=m2;simp only[KI];have s2:=(Zhb n r4 b2 ae h4).1;have au:ae.length≤1000000:=by
          have:r4.length=(shw b2).length+ae.length:=by rw[s2,Kt]
          omega
         have k3:=WJ ae 41 (by omega);unfold ZtI at k3;cases h41:Jd 41 ae with
         | none=>
          simp only[h41] at k3;simp only[LI];refine ZfE (o:=VX d) (a:=v) (q:=0) (t:=false) (ks:=[.mk o1 a1 q1 t1 ag,.mk o2 a2 q2 t2 ah]) (r:=ae) ?_;refine cE ?_;cases d with
          | true=>
           simp only[Km] at hd;simp +contextual -implicitDefEqProofs (maxSteps:=10^7) only[go_sem,seval,↓gZ,ZN,hb,d3,aa,n1,n2,n3,e1,hd,k1,i1,k2,i2,k3,VX]
          | false=>
           simp only[Ka,Ko] at hd;simp +contextual -implicitDefEqProofs (maxSteps:=10^7) only[go_sem,seval,↓gZ,ZN,hb,d3,aa,n1,n2,n3,e1,hd.1,hd.2,k1,i1,k2,i2,k3,VX]
         | some r6=>
          simp only[h41] at k3;simp only[KI];refine Znw (b:=.cut d v b1 b2) (o:=VX d) (a:=v) (q:=0) (t:=false) (ks:=[.mk o1 a1 q1 t1 ag,.mk o2 a2 q2 t2 ah]) (by rw[BT.plan,ao,aq]) ?_;refine cE ?_;cases d with
          | true=>
           simp only[Km] at hd;simp +contextual -implicitDefEqProofs (maxSteps:=10^7) only[go_sem,seval,↓gZ,ZN,hb,d3,aa,n1,n2,n3,e1,hd,k1,i1,k2,i2,k3,VX]
          | false=>
           simp only[Ka,Ko] at hd;simp +contextual -implicitDefEqProofs (maxSteps:=10^7) only[go_sem,seval,↓gZ,ZN,hb,d3,aa,n1,n2,n3,e1,hd.1,hd.2,k1,i1,k2,i2,k3,VX]
    by_cases c4:c=100
    ·have n4:(c.toNat:Int)=100:=(ZqG c 100 rfl).2 c4;rw[Ki c4];exact ab true n4
    have n4:¬(c.toNat:Int)=100:=fun h=>c4 ((ZqG c 100 rfl).1 h);rw[Kd c4];by_cases c5:c=97
    ·have n5:(c.toNat:Int)=97:=(ZqG c 97 rfl).2 c5;rw[Ki c5];exact ab false ⟨n4,n5⟩
    have n5:¬(c.toNat:Int)=97:=fun h=>c5 ((ZqG c 97 rfl).1 h);rw[Kd c5];refine ZfE (o:=0) (a:=0) (q:=0) (t:=false) (ks:=[]) (r:=[]) ?_;refine cE ?_;simp +contextual -implicitDefEqProofs (maxSteps:=10^7) only[go_sem,seval,↓gZ,ZN,hb,d3,aa,n1,n2,n3,n4,n5,e1]
def ZtK (s:List UInt8):Option BT:=if s.length≤1600 then Zlq s else none
def PrR (res:Option (AV×List Zl)) (m:Option BT):Prop:=∃ (o a q:Int) (t:Bool) (ks:List Zf),
 res=some (.tup [.agg [(.d (J o)),(.d (J a)),(.d (J q)),(.d (.bool t)),.own 0],(.d (.bool (m.isSome)))],[.row 5 (ks.map Zf.enc) true false])∧Zf.mk o a q t ks=(m.getD .waste).plan
theorem Zpw {res:Option (AV×List Zl)} (h:res=some (.tup [.agg [(.d (J 0)),(.d (J 0)),(.d (J 0)),(.d (.bool false)),.own 0],(.d (.bool false))],[.row 5 [] true false])):PrR res none:=⟨0,0,0,false,[],h,rfl⟩
theorem Zhe (s:List UInt8) (hs:s.length≤1000000):PrR (Ze Xs Ms UM [.d (.str s)] []) (ZtK s):=by
 unfold ZtK;by_cases hl:s.length≤1600
 ·rw[Ki hl];have aa : ¬(1600:Int)<(s.length:Int):=by omega
  obtain⟨o,a,q,t,ks,r,ok,e1,m1⟩:=ZqH s.length s (Kr _) hs;unfold Zlq;cases h1:tk s.length s with
  | none=>
   rw[h1] at m1;simp only at m1;subst m1;refine Zpw ?_;refine cE ?_;simp +contextual -implicitDefEqProofs (maxSteps:=10^7) only[go_sem,seval,↓gZ,Yd,aa,e1]
  | some p1=>
   obtain⟨b,r'⟩:=p1;rw[h1] at m1;simp only at m1;obtain⟨rfl,hb,rfl⟩:=m1;cases r' with
   | cons x r2=>
    have hx:(x :: r2==[])=false:=rfl;refine Zpw ?_;refine cE ?_;simp +contextual -implicitDefEqProofs (maxSteps:=10^7) only[go_sem,seval,↓gZ,Yd,aa,e1,hx]
   | nil=>
    have e2:=ZdQ b.plan;have e3:=U3 b;rw[ZhB] at e2;rw[hb,Zf.enc_mk] at e2 e3;show PrR _ (if b.cnt≤255∧JZ b=true then some b else none);rcases XI 255 b with ⟨hc,hz⟩ | ⟨hc,hz⟩
    ·rw[hz] at e2;have h0:¬(b.cnt:Int)<0:=by omega
     cases hcb:JZ b with
     | false=>
      rw[hcb] at e3;rw[Kd (fun h=>by cases h.2)];refine Zpw ?_;refine cE ?_;simp +contextual -implicitDefEqProofs (maxSteps:=10^7) only[go_sem,seval,↓gZ,Yd,aa,e1,e2,e3,h0]
     | true=>
      rw[hcb] at e3;rw[Ki ⟨by omega,rfl⟩];refine⟨o,a,q,t,ks,?_,hb.symm⟩;refine cE ?_;simp +contextual -implicitDefEqProofs (maxSteps:=10^7) only[go_sem,seval,↓gZ,Yd,aa,e1,e2,e3,h0];rfl
    ·rw[hz] at e2;rw[Kd (fun h=>by omega)];refine Zpw ?_;refine cE ?_;simp +contextual -implicitDefEqProofs (maxSteps:=10^7) only[go_sem,seval,↓gZ,Yd,aa,e1,e2]
 ·rw[Kd hl];have aa : (1600:Int)<(s.length:Int):=by omega
  refine Zpw ?_;refine cE ?_;simp +contextual -implicitDefEqProofs (maxSteps:=10^7) only[go_sem,seval,↓gZ,Yd,aa]
end Go.Proofs.YtcefneehgbiebaaGreatDoor
