import Derived.Test.YtfnegoimdljanaaGreatDoorCC1
set_option linter.unusedSimpArgs false
set_option linter.unusedVariables false
namespace Go.Proofs.YtfnegoimdljanaaGreatDoor
open Go Go.Abs Go.Abs.E Go.Abs.L
set_option maxRecDepth 20000
set_option maxHeartbeats 4000000
def num (n:Nat):List UInt8:=if n<10 then [UInt8.ofNat (48+n)] else num (n / 10)++[UInt8.ofNat (48+n % 10)]
termination_by n
decreasing_by omega
def isD (c:UInt8):Bool:=decide (48≤c.toNat∧c.toNat≤57)
def val (s:List UInt8):Nat:=s.foldl (fun n c=>10*n+(c.toNat-48)) 0
theorem Zlb (s:List UInt8) (c:UInt8):val (s++[c])=10*val s+(c.toNat-48):=by simp[val]
theorem Zex {n:Nat} (h:n<10):(UInt8.ofNat (48+n)).toNat=48+n:=by
 rw[UInt8.toNat_ofNat'];omega
theorem ZBF {c:UInt8} (h:isD c=true):UInt8.ofNat (48+(c.toNat-48))=c:=by
 simp only[isD,Ko] at h;apply UInt8.toNat_inj.1;rw[UInt8.toNat_ofNat'];omega
theorem Ux {n:Nat} (h:n<10):num n=[UInt8.ofNat (48+n)]:=by rw[num,Kj h]
theorem ZiB {n:Nat} (h:¬n<10):num n=num (n / 10)++[UInt8.ofNat (48+n % 10)]:=by rw[num,Ke h]
theorem ZxY:∀ n:Nat,num n≠[]:=fun n=>by
 by_cases h:n<10
 ·rw[Ux h];simp
 ·rw[ZiB h];simp
theorem ZuJ (n:Nat):∀ c∈num n,isD c=true:=by
 induction n using Nat.strongRecOn with
 | ind n ih=>
  intro c hc;by_cases h:n<10
  ·rw[Ux h] at hc;rw[KG] at hc;subst hc;have:=Zex h;simp only[isD,Ko];omega
  ·rw[ZiB h] at hc;rcases Kh.1 hc with hc | hc
   ·exact ih (n / 10) o_ c hc
   ·rw[KG] at hc;subst hc;have:=Zex (n:=n % 10) o_;simp only[isD,Ko];omega
theorem ZC1 (n:Nat):val (num n)=n:=by
 induction n using Nat.strongRecOn with
 | ind n ih=>
  by_cases h:n<10
  ·rw[Ux h];have:=Zex h;simp only[val,List.foldl_cons,List.foldl_nil];omega
  ·rw[ZiB h,Zlb,ih (n / 10) o_,Zex o_];omega
theorem ZBG {n:Nat} (h:0<n):(num n).head?≠some 48:=by
 induction n using Nat.strongRecOn with
 | ind n ih=>
  by_cases h1:n<10
  ·rw[Ux h1];simp only[List.head?_cons,ne_eq,Option.some.injEq];intro e;have:=Zex h1;rw[e] at this;have aa:(48:UInt8).toNat=48:=rfl;omega
  ·rw[ZiB h1];have:=ih (n / 10) o_ o_;cases hn:num (n / 10) with
   | nil=>exact absurd hn (ZxY _)
   | cons a r=>rw[hn] at this;simpa using this
theorem J9:∀ (k n:Nat),n<10 ^ (k+1)→(num n).length≤k+1
 | 0,n,h=>by rw[Ux (by simpa using h)];simp
 | k+1,n,h=>by
  by_cases h1:n<10
  ·rw[Ux h1];simp
  ·rw[ZiB h1];have:=J9 k (n / 10) (Nat.div_lt_of_lt_mul (by rw[Nat.pow_succ,Nat.mul_comm] at h;exact h));simp;omega
theorem ZC2:∀ (s:List UInt8),(∀ c∈s,isD c=true)→s≠[]→s.head?≠some 48→0<val s:=by
 intro s;have aa:∀ (l:List UInt8) (n:Nat),0<n→0<l.foldl (fun n (c:UInt8)=>10*n+(c.toNat-48)) n:=by
  intro l
  induction l with
  | nil=>intro n h;exact h
  | cons c l ih=>intro n h;exact ih (10*n+(c.toNat-48)) o_
 cases s with
 | nil=>intro _ h;exact absurd rfl h
 | cons c l=>
  intro hd _ hh;refine aa l _ ?_;have h1:=hd c (by simp);simp only[isD,Ko] at h1;have h2:c.toNat≠48:=fun e=>hh (by
   have:c=48:=UInt8.toNat_inj.1 e;simp[this])
  show 0<10*0+(c.toNat-48);omega
theorem ZqV {α:Type} (s:List α):s=[]∨∃ t c,s=t++[c]:=by
 rcases List.eq_nil_or_concat s with h | ⟨t,c,h⟩
 ·exact .inl h
 ·exact .inr ⟨t,c,by simpa using h⟩
theorem Zy3:∀ (k:Nat) (s:List UInt8),s.length≤k→(∀ c∈s,isD c=true)→s≠[]→(s.head?≠some 48∨s.length=1)→num (val s)=s
 | 0,s,hk,_,hn,_=>absurd (Ks o_) hn
 | k+1,s,hk,hd,hn,hh=>by
  rcases ZqV s with h | ⟨t,c,rfl⟩
  ·exact absurd h hn
  ·rw[Zlb];have hc:=hd c (by simp);have ad:=hc;simp only[isD,Ko] at ad;by_cases ht:t=[]
   ·subst ht;have e:val []=0:=rfl;rw[e,Ux o_];have:=ZBF hc;rw[Nat.mul_zero,K8,this];rfl
   ·have aa:∀ c∈t,isD c=true:=fun x hx=>hd x (by simp[hx]);have ab:t.head?≠some 48:=by
     cases t with
     | nil=>exact absurd rfl ht
     | cons a r=>
      rcases hh with hh | hh
      ·simpa using hh
      ·simp at hh
    have hp:=ZC2 t aa ht ab;rw[ZiB o_];have e1:(10*val t+(c.toNat-48)) / 10=val t:=o_
    have e2:(10*val t+(c.toNat-48)) % 10=c.toNat-48:=o_
    rw[e1,e2,Zy3 k t (by simp at hk;omega) aa ht (.inl ab),ZBF hc]
def Zts (s:List UInt8):Prop:=s≠[]∧s.length≤6∧(s.head?≠some 48∨s.length=1)∧∀ c∈s,isD c=true
instance (s:List UInt8):Decidable (Zts s):=by unfold Zts;infer_instance
def rd (s:List UInt8):Option Nat:=if Zts s then some (val s) else none
theorem ZxZ:∀ (k:Nat) (s:List UInt8),s.length≤k→(∀ c∈s,isD c=true)→val s<10 ^ k
 | 0,s,h,_=>by
  have:s=[]:=Ks o_;subst this;simp[val]
 | k+1,s,h,hd=>by
  rcases ZqV s with rfl | ⟨t,c,rfl⟩
  ·have:0<10 ^ (k+1):=Nat.pow_pos o_;simpa [val] using this
  ·rw[Zlb];have:=ZxZ k t (by simp at h;omega) (fun x hx=>hd x (by simp[hx]));have hc:=hd c (by simp);simp only[isD,Ko] at hc;rw[Nat.pow_succ];generalize 10 ^ k=m at this ⊢;omega
theorem Zhb {n:Nat} (h:n≤999999):rd (num n)=some n:=by
 have h6:=J9 5 n o_;have:Zts (num n):=by
  refine⟨ZxY n,h6,?_,ZuJ n⟩;by_cases h0:n=0
  ·right;subst h0;rw[Ux o_];rfl
  ·left;exact ZBG o_
 rw[rd,Kj this,ZC1]
theorem Zc8 {s:List UInt8} {n:Nat} (h:rd s=some n):s=num n∧n≤999999:=by
 unfold rd at h;split at h
 ·rename_i hn;cases h;obtain⟨h1,h2,h3,h4⟩:=hn;have:=ZxZ 6 s h2 h4;exact⟨(Zy3 s.length s (Kp _) h4 h1 h3).symm,o_⟩
 ·cases h
def Z1 (c:UInt8):List UInt8→List (List UInt8)
 | []=>[[]]
 | x :: r=>if x=c then [] :: Z1 c r else match Z1 c r with
  | []=>[[x]]
  | p :: q=>(x :: p) :: q
def Yu (c:UInt8):List (List UInt8)→List UInt8
 | []=>[]
 | [x]=>x
 | x :: y :: r=>x++c :: Yu c (y :: r)
theorem Zbr (c:UInt8):∀ s,Z1 c s≠[]
 | []=>by simp[Z1]
 | x :: r=>by
  unfold Z1;split
  ·simp
  ·split<;>simp
theorem ZqW (c:UInt8):∀ s,Yu c (Z1 c s)=s
 | []=>rfl
 | x :: r=>by
  have ih:=ZqW c r;unfold Z1;split
  ·rename_i h;cases hs:Z1 c r with
   | nil=>exact absurd hs (Zbr c r)
   | cons p q=>rw[hs] at ih;simp[Yu,ih,h]
  ·split
   ·rename_i hs;exact absurd hs (Zbr c r)
   ·rename_i p q hs;rw[hs] at ih;cases q with
    | nil=>simp only[Yu] at ih ⊢;rw[ih]
    | cons y q=>simp only[Yu,KA] at ih ⊢;rw[ih]
theorem Zb4 {c:UInt8}:∀ {s:List UInt8},c∉s→Z1 c s=[s]
 | [],_=>rfl
 | x :: r,h=>by
  simp only[Kd,not_or] at h;rw[Z1,Ke (fun e=>h.1 e.symm),Zb4 h.2]
theorem ZmL {c:UInt8}:∀ {a:List UInt8} {b:List UInt8},c∉a→Z1 c (a++c :: b)=a :: Z1 c b
 | [],b,_=>by simp[Z1]
 | x :: r,b,h=>by
  simp only[Kd,not_or] at h;rw[KA,Z1,Ke (fun e=>h.1 e.symm),ZmL h.2]
theorem ZqX {c:UInt8}:∀ {ws:List (List UInt8)},ws≠[]→(∀ w∈ws,c∉w)→Z1 c (Yu c ws)=ws
 | [],h,_=>absurd rfl h
 | [x],_,h=>Zb4 (h x (by simp))
 | x :: y :: r,_,h=>by
  rw[Yu,ZmL (h x (by simp)),ZqX (by simp) (fun w hw=>h w (by simp[hw]))]
def Qh (c:UInt8):List UInt8→Option Nat
 | []=>none
 | x :: r=>if x=c then some 0 else (Qh c r).map (·+1)
theorem Zhc {c:UInt8}:∀ {s:List UInt8},Qh c s=none↔c∉s
 | []=>by simp[Qh]
 | x :: r=>by
  unfold Qh;split
  ·rename_i h;simp[h]
  ·rename_i h;simp[Zhc (s:=r),Ne.symm h]
theorem Vl {c:UInt8}:∀ {s:List UInt8} {i:Nat},Qh c s=some i→s=s.take i++c :: s.drop (i+1)∧c∉s.take i∧i<s.length
 | [],i,h=>by simp[Qh] at h
 | x :: r,i,h=>by
  unfold Qh at h;split at h
  ·rename_i hx;cases h;simp[hx]
  ·rename_i hx;cases hr:Qh c r with
   | none=>rw[hr] at h;simp at h
   | some j=>
    rw[hr] at h;simp at h;subst h;obtain⟨h1,h2,h3⟩:=Vl hr;refine⟨?_,?_,by simp;omega⟩
    ·simp only[Lu,List.drop_succ_cons,KA];rw[← h1]
    ·simp only[Lu,Kd,not_or];exact⟨fun e=>hx e.symm,h2⟩
theorem Zbs (c:UInt8) (s:List UInt8):Z1 c s=match Qh c s with
  | none=>[s]
  | some i=>s.take i :: Z1 c (s.drop (i+1)):=by
 cases h:Qh c s with
 | none=>exact Zb4 (Zhc.1 h)
 | some i=>
  obtain⟨h1,h2,_⟩:=Vl h;simp only;rw[h1,ZmL h2,← h1]
def shw:BT→List UInt8
 | .waste=>[119]
 | .pane i t=>(if t then 116 else 112) :: num i.toNat
 | .cut d a l r=>(if d then 100 else 97) :: (num a.toNat++40 :: (shw l++44 :: (shw r++[41])))
def WQ:BT→Bool
 | .waste=>true
 | .pane i _=>decide (0≤i∧i≤24)
 | .cut _ a l r=>decide (0≤a∧a≤200)&&WQ l&&WQ r
def Zlc:BT→Bool
 | .waste=>true
 | .pane i _=>decide (0≤i∧i≤999999)
 | .cut _ a l r=>decide (0≤a∧a≤999999)&&Zlc l&&Zlc r
theorem Zfl:∀ b:BT,WQ b=true→Zlc b=true
 | .waste,_=>rfl
 | .pane i t,h=>by simp only[WQ,Zlc,Ko] at h ⊢;omega
 | .cut d a l r,h=>by
  simp only[WQ,Zlc,Kf,Ko] at h ⊢;exact⟨⟨o_,Zfl l h.1.2⟩,Zfl r h.2⟩
def Uk (x:UInt8):List UInt8→Option (List UInt8)
 | y :: r=>if y=x then some r else none
 | []=>none
def ZnS (d:Bool) (v:Nat) (rec:List UInt8→Option (BT×List UInt8)) (r:List UInt8):Option (BT×List UInt8):=
 (Uk 40 r).bind fun r1=>(rec r1).bind fun p=>(Uk 44 p.2).bind fun r3=>(rec r3).bind fun q=>(Uk 41 q.2).bind fun r5=>some (.cut d v p.1 q.1,r5)
def ZnT (c:UInt8) (v:Nat) (rec:List UInt8→Option (BT×List UInt8)) (r:List UInt8):Option (BT×List UInt8):=
 if c=112 then some (.pane v false,r) else if c=116 then some (.pane v true,r) else if c=100 then ZnS true v rec r else if c=97 then ZnS false v rec r else none
def tk:Nat→List UInt8→Option (BT×List UInt8)
 | 0,_=>none
 | _+1,[]=>none
 | n+1,c :: s=>if c=119 then some (.waste,s) else (rd (s.takeWhile isD)).bind fun v=>ZnT c v (tk n) (s.dropWhile isD)
theorem Zap {x:UInt8} {s r:List UInt8} (h:Uk x s=some r):s=x :: r:=by
 cases s with
 | nil=>simp[Uk] at h
 | cons y t=>simp only[Uk] at h;split at h<;>simp_all
theorem ZC3 {s:List UInt8} {v:Nat} (h:rd (s.takeWhile isD)=some v):s=num v++s.dropWhile isD∧v≤999999:=by
 obtain⟨h1,h2⟩:=Zc8 h;exact⟨by rw[← h1,LI],h2⟩
theorem ZnU {d:Bool} {v:Nat} {ab:List UInt8→Option (BT×List UInt8)} (aa:∀ s b r,ab s=some (b,r)→s=shw b++r∧Zlc b=true) (hv:v≤999999) {r:List UInt8} {b:BT} {t:List UInt8} (h:ZnS d v ab r=some (b,t)) :
  ∃ x y,b=.cut d v x y∧r=40 :: (shw x++44 :: (shw y++41 :: t))∧Zlc b=true:=by
 unfold ZnS at h;simp only[Lf] at h;obtain⟨r1,h1,⟨x,r2⟩,h2,r3,h3,⟨y,r4⟩,h4,r5,h5,h6⟩:=h;simp only[Option.some.injEq,Prod.mk.injEq] at h6;obtain⟨rfl,rfl⟩:=h6;obtain⟨e2,s2⟩:=aa _ _ _ h2;obtain⟨e4,s4⟩:=aa _ _ _ h4;have e1:=Zap h1;have e3:=Zap h3;have e5:=Zap h5;refine⟨x,y,rfl,?_,?_⟩
 ·simp only at e3 e5;rw[e1,e2,e3,e4,e5]
 ·simp only[Zlc,s2,s4,L6,Ko];omega
theorem Zhd:∀ (n:Nat) (s:List UInt8) (b:BT) (r:List UInt8),tk n s=some (b,r)→s=shw b++r∧Zlc b=true
 | 0,s,b,r,h=>by simp[tk] at h
 | n+1,[],b,r,h=>by simp[tk] at h
 | n+1,c :: s,b,r,h=>by
  simp only[tk] at h;split at h
  ·rename_i hc;cases h;exact⟨by simp[shw,hc],rfl⟩
  ·simp only[Lf] at h;obtain⟨v,h1,h⟩:=h;obtain⟨e1,hv⟩:=ZC3 h1;unfold ZnT at h;split at h
   ·rename_i hc;cases h;refine⟨?_,by simp only[Zlc,Ko];omega⟩;simp only[shw,Ky,Ka,Km,KA];rw[← e1,hc]
   ·split at h
    ·rename_i hc;cases h;refine⟨?_,by simp only[Zlc,Ko];omega⟩;simp only[shw,Ky,Kl,KA];rw[← e1,hc]
    ·split at h
     ·rename_i hc;obtain⟨x,y,rfl,e2,hs⟩:=ZnU (Zhd n) hv h;refine⟨?_,hs⟩;rw[e1,e2,hc];simp[shw,Ky]
     ·split at h
      ·rename_i hc;obtain⟨x,y,rfl,e2,hs⟩:=ZnU (Zhd n) hv h;refine⟨?_,hs⟩;rw[e1,e2,hc];simp[shw,Ky]
      ·cases h
def noDig (r:List UInt8):Prop:=∀ c t,r=c :: t→isD c=false
theorem Zwi (v:Nat) {r:List UInt8} (h:noDig r):(num v++r).takeWhile isD=num v∧(num v++r).dropWhile isD=r:=by
 have aa:∀ l:List UInt8,(∀ c∈l,isD c=true)→(l++r).takeWhile isD=l∧(l++r).dropWhile isD=r:=by
  intro l
  induction l with
  | nil=>
   intro _;cases r with
   | nil=>simp
   | cons c t=>have:=h c t rfl;simp[this]
  | cons c l ih=>
   intro hl;have:=ih (fun x hx=>hl x (by simp[hx]));simp only[KA,List.takeWhile_cons,List.dropWhile_cons,hl c (by simp),Kl,this.1,this.2,and_self]
 exact aa _ (ZuJ v)
theorem ZC4 (b:BT):1≤(shw b).length:=by cases b<;>simp[shw]
theorem Zhe:∀ (n:Nat) (b:BT) (r:List UInt8),(shw b).length≤n→Zlc b=true→noDig r→tk n (shw b++r)=some (b,r)
 | 0,b,r,hn,_,_=>by have:=ZC4 b;omega
 | n+1,.waste,r,_,_,_=>by simp[shw,tk]
 | n+1,.pane i t,r,hn,hs,hr=>by
  simp only[Zlc,Ko] at hs;obtain⟨h1,h2⟩:=Zwi i.toNat hr;have hi:((i.toNat:Nat):Int)=i:=o_
  have aa:=Zhb (n:=i.toNat) o_;cases t
  ·simp[shw,tk,ZnT,h1,h2,aa,hi]
  ·simp[shw,tk,ZnT,h1,h2,aa,hi]
 | n+1,.cut d a x y,r,hn,hs,hr=>by
  simp only[Zlc,Kf,Ko] at hs;obtain⟨⟨ha,hx⟩,hy⟩:=hs;simp only[shw,Kn,Kr,KL] at hn;have aa:=Zhb (n:=a.toNat) o_;have hi:((a.toNat:Nat):Int)=a:=o_
  have e2:=Zhe n y (41 :: r) o_ hy (fun c t e=>by cases e;rfl);have e1:=Zhe n x (44 :: (shw y++41 :: r)) o_ hx (fun c t e=>by cases e;rfl);obtain⟨h1,h2⟩:=Zwi a.toNat (r:=40 :: (shw x++44 :: (shw y++41 :: r))) (fun c t e=>by cases e;rfl);have ab:ZnS d a.toNat (tk n) (40 :: (shw x++44 :: (shw y++41 :: r)))=some (.cut d a x y,r):=by
   simp[ZnS,Uk,e1,e2,hi]
  have e:shw (.cut d a x y)++r=(if d then 100 else 97) :: (num a.toNat++40 :: (shw x++44 :: (shw y++41 :: r))):=by simp[shw]
  rw[e,tk];cases d
  ·rw[Ke (by decide),h1,aa,h2];simp only[KN,ZnT];rw[Ke (by decide),Ke (by decide),Ke (by decide),Kj (by decide),ab]
  ·rw[Ke (by decide),h1,aa,h2];simp only[KN,ZnT];rw[Ke (by decide),Ke (by decide),Kj (by decide),ab]
def ZmM (s:List UInt8):Option BT:=match tk s.length s with
 | some (b,[])=>if b.cnt≤255∧WQ b=true then some b else none
 | _=>none
theorem Zhf {s:List UInt8} {b:BT}:ZmM s=some b↔s=shw b∧b.cnt≤255∧WQ b=true:=by
 unfold ZmM;constructor
 ·intro h;split at h
  ·rename_i b' h1;split at h
   ·rename_i hc;cases h;obtain⟨e,_⟩:=Zhd _ _ _ _ h1;exact⟨by simpa using e,hc⟩
   ·cases h
  ·cases h
 ·rintro ⟨rfl,hc⟩
  have:=Zhe (shw b).length b [] (Kp _) (Zfl b hc.2) (fun c t e=>by cases e);rw[KD] at this;rw[this];simp[hc]
theorem ZAm {b:BT} (h:b.cnt≤255) (hc:WQ b=true):ZmM (shw b)=some b:=Zhf.2 ⟨rfl,h,hc⟩
theorem Zwj (b:BT):∃ o a q t ks,b.plan=.mk o a q t ks:=by cases b.plan;exact⟨_,_,_,_,_,rfl⟩
theorem W5:∀ b:BT,v_ 87 [.d b.plan.enc] []=some ((.d (.bool (WQ b))),[])
 | .waste=>by
  simp only[BT.plan,WQ];refine cE ?_;simp (maxSteps:=10^7) +contextual -implicitDefEqProofs only[go_sem,seval,XH];refine ZB Xs Ms ?_;simp (maxSteps:=10^7) +contextual -implicitDefEqProofs only[go_sem,seval]
 | .pane i t=>by
  simp only[BT.plan,WQ];refine cE ?_;by_cases h1:i<0
  ·have aa : ¬0≤i:=o_
   simp (maxSteps:=10^7) +contextual -implicitDefEqProofs only[go_sem,seval,XH,h1,aa]
  ·have aa : 0≤i:=o_
   by_cases h2:i>24
   ·have ab : ¬i≤24:=o_
    simp (maxSteps:=10^7) +contextual -implicitDefEqProofs only[go_sem,seval,XH,h1,aa,h2,ab]
   ·have ab : i≤24:=o_
    simp (maxSteps:=10^7) +contextual -implicitDefEqProofs only[go_sem,seval,XH,h1,aa,h2,ab];refine ZB Xs Ms ?_;simp (maxSteps:=10^7) +contextual -implicitDefEqProofs only[go_sem,seval]
 | .cut d a l r=>by
  have e1:=W5 l;have e2:=W5 r;obtain⟨o1,a1,q1,t1,k1,ad⟩:=Zwj l;obtain⟨o2,a2,q2,t2,k2,ae⟩:=Zwj r;rw[ad,Zf.enc_mk] at e1;rw[ae,Zf.enc_mk] at e2;simp only[BT.plan,WQ,ad,ae];refine cE ?_;by_cases h1:a<0
  ·have aa : ¬0≤a:=o_
   simp (maxSteps:=10^7) +contextual -implicitDefEqProofs only[go_sem,seval,XH,h1,aa]
  ·have aa : 0≤a:=o_
   by_cases h2:a>200
   ·have ab : ¬a≤200:=o_
    simp (maxSteps:=10^7) +contextual -implicitDefEqProofs only[go_sem,seval,XH,h1,aa,h2,ab]
   ·have ab : a≤200:=o_
    simp (maxSteps:=10^7) +contextual -implicitDefEqProofs only[go_sem,seval,XH,h1,aa,h2,ab];refine ZB Xs Ms ?_;cases hl:WQ l with
    | false=>
     rw[hl] at e1;simp (maxSteps:=10^7) +contextual -implicitDefEqProofs only[go_sem,seval,e1]
    | true=>
     rw[hl] at e1;simp (maxSteps:=10^7) +contextual -implicitDefEqProofs only[go_sem,seval,e1];refine ZB Xs Ms ?_;cases hr:WQ r with
     | false=>
      rw[hr] at e2;simp (maxSteps:=10^7) +contextual -implicitDefEqProofs only[go_sem,seval,e2]
     | true=>
      rw[hr] at e2;simp (maxSteps:=10^7) +contextual -implicitDefEqProofs only[go_sem,seval,e2];refine ZB Xs Ms ?_;simp (maxSteps:=10^7) +contextual -implicitDefEqProofs only[go_sem,seval]
theorem Zfm:∀ b:BT,WQ b=true→(shw b).length≤13*b.cnt
 | .waste,_=>by simp[shw,BT.cnt]
 | .pane i t,h=>by
  simp only[WQ,Ko] at h;have:=J9 1 i.toNat o_;simp[shw,BT.cnt];omega
 | .cut d a l r,h=>by
  simp only[WQ,Kf,Ko] at h;have h1:=Zfm l h.1.2;have h2:=Zfm r h.2;have:=J9 2 a.toNat o_;simp[shw,BT.cnt];omega
theorem ZC5 (n:Nat):Lib.decDigits n=num n:=by
 induction n using Nat.strongRecOn with
 | ind n ih=>
  rw[Lib.decDigits,num];by_cases h:n<10
  ·rw[dif_pos h,Kj h]
  ·rw[dif_neg h,Ke h,ih (n / 10) o_]
theorem XQ (n:Int) (h0:0≤n) (h1:n≤999999999):v_ 63 [(.d (J n))] []=some (.d (.str (num n.toNat)),[]):=by
 refine Y9 Xs Ms ZrC ?_;unfold Ztj;simp only;rw[Kj ⟨h0,o_⟩,ZC5]
theorem Qe (l:List UInt8) (n:Int) (c:UInt8) (hc:(c.toNat:Int)=n) (hl:l.length≤1000000000):v_ 30 [.ptr 0 0,.d (.int .u8 n)] [.box [.bnil 0 66,.bbuf 5 l]]=some (.nili,[.box [.bnil 0 66,.bbuf 5 (l++[c])]]):=by
 refine Y9 Xs Ms Zbk ?_;have aa:=c.toNat_lt;unfold Ztg;simp only;rw[Kj ⟨trivial,trivial,by unfold ZaD;omega,o_,o_⟩];have e:UInt8.ofNat n.toNat=c:=by rw[← hc,Ky,UInt8.ofNat_toNat]
 rw[e]
theorem XV (l s:List UInt8) (h0:0<s.length) (hl:l.length+s.length≤1000000000):v_ 28 [.ptr 0 0,.d (.str s)] [.box [.bnil 0 66,.bbuf 5 l]]=some (.tup [(.d (J (s.length))),.nili],[.box [.bnil 0 66,.bbuf 5 (l++s)]]):=by
 refine Y9 Xs Ms Zav ?_;unfold ZAe;simp only;rw[Kj ⟨trivial,trivial,o_,by unfold ZaD;omega⟩]
theorem Zc9 (l:List UInt8):v_ 31 [.ptr 0 0] [.box [.bnil 0 66,.bbuf 5 l]]=some (.d (.str l),[.box [.bnil 0 66,.junk]]):=by
 refine Y9 Xs Ms Zd7 ?_;unfold Zth;simp only;rw[Kj ⟨trivial,trivial⟩]
theorem Zy4 (n:Nat):0<(num n).length:=List.length_pos_iff.2 (ZxY n)
theorem Zb5:∀ (b:BT) (l:List UInt8),WQ b=true→l.length+(shw b).length≤100000000→v_ 88 [.ptr 0 0,.d b.plan.enc] [.box [.bnil 0 66,.bbuf 5 l]]=some (.tup [],[.box [.bnil 0 66,.bbuf 5 (l++shw b)]])
 | .waste,l,_,hl=>by
  simp only[shw,Kn,KL] at hl;have e1:=Qe l 119 119 rfl o_;simp only[BT.plan,shw];refine cE ?_;simp (maxSteps:=10^7) +contextual -implicitDefEqProofs only[go_sem,seval,Vx,e1]
 | .pane i t,l,h,hl=>by
  simp only[WQ,Ko] at h;simp only[shw,Kn] at hl;have e2:=XQ i h.1 o_;have l1:=Zy4 i.toNat;simp only[BT.plan,shw];refine cE ?_;cases t with
  | false=>
   have e1:=Qe l 112 112 rfl o_;have e3:=XV (l++[112]) (num i.toNat) l1 (by simp;omega);simp (maxSteps:=10^7) +contextual -implicitDefEqProofs only[go_sem,seval,Vx,e1,e2,e3];simp
  | true=>
   have e1:=Qe l 116 116 rfl o_;have e3:=XV (l++[116]) (num i.toNat) l1 (by simp;omega);simp (maxSteps:=10^7) +contextual -implicitDefEqProofs only[go_sem,seval,Vx,e1,e2,e3];simp
 | .cut d a x y,l,h,hl=>by
  simp only[WQ,Kf,Ko] at h;simp only[shw,Kn,Kr,KL] at hl;have l1:=Zy4 a.toNat;have aa:∀ (n:Int) (c:UInt8),(c.toNat:Int)=n→True:=fun _ _ _=>trivial;have e2:=XQ a h.1.1.1 o_;have g1:=Qe l (if d then 100 else 97) (if d then 100 else 97) (by cases d<;>rfl) o_;have g2:=XV (l++[if d then 100 else 97]) (num a.toNat) l1 (by simp;omega);have g3:=Qe (l++[if d then 100 else 97]++num a.toNat) 40 40 rfl (by simp;omega);have g4:=Zb5 x (l++[if d then 100 else 97]++num a.toNat++[40]) h.1.2 (by simp;omega);have g5:=Qe (l++[if d then 100 else 97]++num a.toNat++[40]++shw x) 44 44 rfl (by simp;omega)
  have g6:=Zb5 y (l++[if d then 100 else 97]++num a.toNat++[40]++shw x++[44]) h.2 (by simp;omega);have g7:=Qe (l++[if d then 100 else 97]++num a.toNat++[40]++shw x++[44]++shw y) 41 41 rfl (by simp;omega);simp only[BT.plan,shw];refine cE ?_;cases d with
  | true=>
   simp only[Kl] at g1 g2 g3 g4 g5 g6 g7;simp (maxSteps:=10^7) +contextual -implicitDefEqProofs only[go_sem,seval,Vx,Z8,e2,g1,g2,g3,g4,g5,g6,g7];simp
  | false=>
   simp only[Ka,Km] at g1 g2 g3 g4 g5 g6 g7;simp (maxSteps:=10^7) +contextual -implicitDefEqProofs only[go_sem,seval,Vx,Z8,e2,g1,g2,g3,g4,g5,g6,g7];simp
def Zx0 (p:Zf):List UInt8:=match Q8 p with
 | some b=>if b.cnt≤255∧WQ b=true then shw b else []
 | none=>[]
theorem Ztt {p:Zf} (h:Q8 p=none):Zx0 p=[]:=by unfold Zx0;rw[h]
theorem ZmN {p:Zf} {b:BT} (h:Q8 p=some b):Zx0 p=if b.cnt≤255∧WQ b=true then shw b else []:=by unfold Zx0;rw[h]
theorem ZoC (p:Zf):v_ 42 [.d p.enc] []=some (.d (.str (Zx0 p)),[]):=by
 have e1:=ZdB p;cases hp:Q8 p with
 | none=>
  rw[Ztt hp];rw[hp,show Zv 255 none=-1 from rfl] at e1;obtain⟨o,a,q,t,ks⟩:=p;rw[Zf.enc_mk] at e1 ⊢;refine cE ?_;simp (maxSteps:=10^7) +contextual -implicitDefEqProofs only[go_sem,seval,Wf,e1]
 | some b=>
  rw[ZmN hp];rw[hp] at e1;obtain rfl:=Zbp hp;have e2:=W5 b;rcases XC 255 b with ⟨hc,hs⟩ | ⟨hc,hs⟩
  ·rw[hs] at e1;have h0:¬(b.cnt:Int)<0:=o_
   cases hb:WQ b with
   | false=>
    rw[hb] at e2;rw[Ke (fun h=>by cases h.2)];obtain⟨o,a,q,t,ks,hk⟩:=Zwj b;rw[hk,Zf.enc_mk] at e1 e2 ⊢;refine cE ?_;simp (maxSteps:=10^7) +contextual -implicitDefEqProofs only[go_sem,seval,Wf,e1,e2,h0]
   | true=>
    rw[hb] at e2;rw[Kj ⟨o_,rfl⟩];have hl:=Zfm b hb;have e3:=Zb5 b [] hb (by simp;omega);have e4:=Zc9 ([]++shw b);obtain⟨o,a,q,t,ks,hk⟩:=Zwj b;rw[hk,Zf.enc_mk] at e1 e2 e3 ⊢;rw[Lm] at e3 e4;refine cE ?_;simp (maxSteps:=10^7) +contextual -implicitDefEqProofs only[go_sem,seval,Wf,e1,e2,e3,e4,h0]
  ·rw[hs] at e1;rw[Ke (fun h=>by omega)];obtain⟨o,a,q,t,ks,hk⟩:=Zwj b;rw[hk,Zf.enc_mk] at e1 ⊢;refine cE ?_;simp (maxSteps:=10^7) +contextual -implicitDefEqProofs only[go_sem,seval,Wf,e1]
theorem ZuK (x c:UInt8) (r:List UInt8) (hr:r.length≤1000000000):v_ 248 [.d (.str (x :: r)),.d (.str [c])] []=some ((.d (.bool ([x]==[c]))),[]):=by
 have h1:(1:Int)≤((r.length+1:Nat):Int):=o_
 refine cE ?_;simp (maxSteps:=10^7) +contextual -implicitDefEqProofs only[go_sem,seval,Xh,h1]
theorem Zr1 (c:UInt8):v_ 248 [.d (.str []),.d (.str [c])] []=some ((.d (.bool false)),[]):=by
 refine cE ?_;simp (maxSteps:=10^7) +contextual -implicitDefEqProofs only[go_sem,seval,Xh]
def ZuL (s:List UInt8) (c:UInt8):AV:=match Uk c s with
 | some r=>.tup [.d (.str r),(.d (.bool true))]
 | none=>.tup [.d (.str s),(.d (.bool false))]
theorem ZdC (s:List UInt8) (c:UInt8) (hr:s.length≤1000000000):v_ 240 [.d (.str s),.d (.str [c])] []=some (ZuL s c,[]):=by
 cases s with
 | nil=>
  have e1:=Zr1 c;simp only[ZuL,Uk];refine cE ?_;simp (maxSteps:=10^7) +contextual -implicitDefEqProofs only[go_sem,seval,Qy,e1]
 | cons x r=>
  have e1:=ZuK x c r (by simp at hr;omega);by_cases h:x=c
  ·subst h;simp only[ZuL,Uk,Kl];rw[show ([x]==[x])=true by simp] at e1;have h1:(1:Int)≤((r.length+1:Nat):Int):=o_
   have h2:r.take r.length=r:=Ln;refine cE ?_;simp (maxSteps:=10^7) +contextual -implicitDefEqProofs only[go_sem,seval,Qy,e1,h1,h2]
  ·rw[show ([x]==[c])=false by simp[h]] at e1;simp only[ZuL,Uk,Ke h];refine cE ?_;simp (maxSteps:=10^7) +contextual -implicitDefEqProofs only[go_sem,seval,Qy,e1]
theorem V9 (s:List UInt8) (c:UInt8) (hr:s.length≤1000000000):v_ 216 [.d (.str s),.d (.str [c])] []=some (ZuL s c,[]):=by
 have e1:=ZdC s c hr;unfold ZuL at e1 ⊢;cases h:Uk c s with
 | none=>
  rw[h] at e1;refine cE ?_;simp (maxSteps:=10^7) +contextual -implicitDefEqProofs only[go_sem,seval,WF,e1]
 | some r=>
  rw[h] at e1;refine cE ?_;simp (maxSteps:=10^7) +contextual -implicitDefEqProofs only[go_sem,seval,WF,e1]
theorem wu8 (x:Int) (h0:0≤x) (h1:x<256):IntKind.u8.wrap x=x:=by
 unfold IntKind.wrap;simp[IntKind.bits,IntKind.signed];omega
theorem rd_of {s:List UInt8} (h:Zts s):rd s=some (val s):=by unfold rd;rw[Kj h]
theorem ZuM {s:List UInt8} (h:¬Zts s):rd s=none:=by unfold rd;rw[Ke h]
theorem Zo0 (c:UInt8):isD c=true↔¬(c.toNat:Int)<48∧¬(57:Int)<(c.toNat:Int):=by
 simp only[isD,Ko];omega
theorem ZBH {s:List UInt8} {k:Nat} {c:UInt8} (h:s[k]?=some c):val (s.take (k+1))=10*val (s.take k)+(c.toNat-48):=by
 obtain⟨hk,he⟩:=Kc.1 h;rw[LG hk,Zlb,he]
def Zfn:Option Nat→AV
 | some v=>.tup [(.d (J ((v:Nat)))),(.d (.bool true))]
 | none=>.tup [(.d (J 0)),(.d (.bool false))]
theorem W6 (s:List UInt8):v_ 119 [.d (.str s)] []=some (Zfn (rd s),[]):=by
 by_cases h0:s=[]
 ·subst h0;rw[ZuM (fun h=>h.1 rfl)];simp only[Zfn];refine cE ?_;simp (maxSteps:=10^7) +contextual -implicitDefEqProofs only[go_sem,seval,Wh]
 by_cases h6:s.length≤6
 ·obtain⟨x,r,hs⟩:=List.exists_cons_of_ne_nil h0;have al:s.length=r.length+1:=by rw[hs];rfl
  have ag : ¬(6:Int)<((r.length+1:Nat):Int):=o_
  have hb:(x :: r==[])=false:=rfl;have ae:(x.toNat:Int)=48↔x=48:=by
   constructor
   ·intro h;apply UInt8.toNat_inj.1;simpa using (by omega:x.toNat=48)
   ·rintro rfl;rfl
  by_cases hz:(x.toNat:Int)=48∧(1:Int)<((r.length+1:Nat):Int)
  ·rw[ZuM (fun h=>by
    rcases h.2.2.1 with h | h
    ·rw[hs] at h;exact h (by rw[ae.1 hz.1];rfl)
    ·omega)]
   simp only[Zfn];obtain⟨am,an⟩:=hz;rw[hs];refine cE ?_;simp (maxSteps:=10^7) +contextual -implicitDefEqProofs only[go_sem,seval,Wh,ag,hb,am,an]
  ·have af:s.head?≠some 48∨s.length=1:=by
    by_cases hl:s.length=1
    ·exact .inr hl
    ·refine .inl ?_;rw[hs];intro h;simp only[List.head?_cons,Option.some.injEq] at h;exact hz ⟨ae.2 h,o_⟩
   generalize aa:Zfn (rd s)=res;rw[hs];refine cE ?_;simp (maxSteps:=10^7) +contextual -implicitDefEqProofs only[go_sem,seval,Wh,ag,hb,hz];rw[← hs,show r.length+1=s.length by omega];refine LO (α:=Nat) (fun k=>[(25,.d (J (k:Int))),(4,.d (J (val (s.take k):Nat)))]) (fun _=>[]) (fun k=>k≤s.length∧∀ c∈s.take k,isD c=true) (fun k=>s.length-k) 0 (by simp) ?_;intro k ⟨hk,hd⟩ ih;have hv:=ZxZ k (s.take k) (by simp;omega) hd;have hp:10 ^ k≤10 ^ 6:=Nat.pow_le_pow_right (by decide) o_;by_cases aj:k<s.length
   ·obtain⟨c,hc⟩:∃ c,s[k]?=some c:=⟨_,KK aj⟩
    have ab : (k:Int)<(s.length:Int):=o_
    by_cases hD:isD c=true
    ·have ak:=(Zo0 c).1 hD;have au:(48:Int)≤c.toNat∧(c.toNat:Int)≤57:=o_
     have w1:=wi (10*(val (s.take k):Nat)) o_ o_;have w2:=wu8 ((c.toNat:Int)-48) o_ o_;have w3:=wi ((c.toNat:Int)-48) o_ o_;have w4:IntKind.i64.wrap (10*(val (s.take k):Nat)+((c.toNat:Int)-48))=((val (s.take (k+1)):Nat):Int):=by
      rw[wi _ o_ o_,ZBH hc];omega
     have w5:=Zh (k:=k) o_;simp (maxSteps:=10^7) +contextual -implicitDefEqProofs only[go_sem,seval,ab,hc,ak.1,ak.2,w1,w2,w3,w4,w5];refine ih (k+1) _ ⟨o_,fun d ad=>?_⟩ o_ ?_
     ·rw[LG aj] at ad;rcases Kh.1 ad with ad | ad
      ·exact hd d ad
      ·simp only[KG] at ad;rw[ad,← (Kc.1 hc).2] at *;exact hD
     ·simp (maxSteps:=10^7) +contextual -implicitDefEqProofs only[go_sem,seval]
    ·have ao:rd s=none:=ZuM fun h=>hD (h.2.2.2 c (Kb hc));rw[ao] at aa;simp only[Zfn] at aa;subst aa;by_cases ah:(c.toNat:Int)<48
     ·simp (maxSteps:=10^7) +contextual -implicitDefEqProofs only[go_sem,seval,ab,hc,ah]
     ·have ap:(57:Int)<(c.toNat:Int):=Classical.byContradiction fun h=>hD ((Zo0 c).2 ⟨ah,h⟩);simp (maxSteps:=10^7) +contextual -implicitDefEqProofs only[go_sem,seval,ab,hc,ah,ap]
   ·have aq:k=s.length:=o_
    subst aq;rw[Ln] at hd;have ai:rd s=some (val s):=rd_of ⟨h0,h6,af,hd⟩;rw[ai] at aa;simp only[Zfn] at aa;subst aa;have ht:s.take s.length=s:=Ln;have ar:¬(s.length:Int)<(s.length:Int):=o_
    simp (maxSteps:=10^7) +contextual -implicitDefEqProofs only[go_sem,seval,ht,ar]
 ·have ag : (6:Int)<(s.length:Int):=o_
  have hb:(s==[])=false:=by
   cases s with
   | nil=>exact absurd rfl h0
   | cons x r=>rfl
  rw[ZuM (fun h=>h6 h.2.1)];simp only[Zfn];refine cE ?_;simp (maxSteps:=10^7) +contextual -implicitDefEqProofs only[go_sem,seval,Wh,ag,hb]
theorem tw_in {p:UInt8→Bool}:∀ {s:List UInt8} {k:Nat},k<(s.takeWhile p).length→∃ c,s[k]?=some c∧p c=true
 | [],k,h=>by simp at h
 | x :: s,k,h=>by
  by_cases hx:p x=true
  ·rw[List.takeWhile_cons_of_pos hx] at h;cases k with
   | zero=>exact⟨x,rfl,hx⟩
   | succ k=>simpa using tw_in (s:=s) (k:=k) (by simpa using h)
  ·rw[List.takeWhile_cons_of_neg hx] at h;simp at h
theorem ZBI {p:UInt8→Bool}:∀ {s:List UInt8},(s.takeWhile p).length=s.length∨∃ c,s[(s.takeWhile p).length]?=some c∧¬p c=true
 | []=>.inl rfl
 | x :: s=>by
  by_cases hx:p x=true
  ·rw[List.takeWhile_cons_of_pos hx];rcases ZBI (p:=p) (s:=s) with h | ⟨c,h,h'⟩
   ·exact .inl (by simp[h])
   ·exact .inr ⟨c,by simpa using h,h'⟩
  ·rw[List.takeWhile_cons_of_neg hx];exact .inr ⟨x,rfl,hx⟩
theorem tw_le {p:UInt8→Bool} (s:List UInt8):(s.takeWhile p).length≤s.length:=List.IsPrefix.length_le (List.takeWhile_prefix p)
theorem ZC6 (p:UInt8→Bool) (s:List UInt8):s.take (s.takeWhile p).length=s.takeWhile p:=by
 conv=>lhs;rw[← LI (p:=p) (l:=s),LI]
 exact(List.prefix_iff_eq_take.1 (List.takeWhile_prefix p)).symm
theorem ZC7 (p:UInt8→Bool) (s:List UInt8):s.drop (s.takeWhile p).length=s.dropWhile p:=by
 have h:=LI (p:=p) (l:=s)
 conv=>lhs;arg 2;rw[← h]
 rw[List.drop_left]
def tnV (s:List UInt8):AV:=match rd (s.takeWhile isD) with
 | some v=>.tup [(.d (J ((v:Nat)))),.d (.str (s.dropWhile isD)),(.d (.bool true))]
 | none=>.tup [(.d (J 0)),.d (.str (s.dropWhile isD)),(.d (.bool false))]
theorem ZoD (s:List UInt8) (hs:s.length≤1048576):v_ 215 [.d (.str s)] []=some (tnV s,[]):=by
 have ai:=tw_le (p:=isD) s;generalize aa:tnV s=res;refine cE ?_;simp (maxSteps:=10^7) +contextual -implicitDefEqProofs only[go_sem,seval,ZhV];refine LO (α:=Nat) (fun k=>[(5,.d (J (k:Int)))]) (fun _=>[]) (fun k=>k≤(s.takeWhile isD).length) (fun k=>s.length-k) 0 o_ ?_;intro k hk ih;have w5:=Zh (k:=k) o_;have e1:=W6 (s.takeWhile isD);have d1:=ZC6 isD s;have d2:=ZC7 isD s;have d3:s.take s.length=s:=Ln;by_cases ab:k<(s.takeWhile isD).length
 ·obtain⟨c,hc,hD⟩:=tw_in ab;have ae : (k:Int)<(s.length:Int):=o_
  have aj:=(Zo0 c).1 hD;have h1:(48:Int)≤c.toNat:=o_
  have h2:(c.toNat:Int)≤57:=o_
  simp (maxSteps:=10^7) +contextual -implicitDefEqProofs only[go_sem,seval,ae,hc,h1,h2,w5];refine ih (k+1) _ o_ o_ ?_;simp (maxSteps:=10^7) +contextual -implicitDefEqProofs only[go_sem,seval]
 ·have ag:k=(s.takeWhile isD).length:=o_
  subst ag;unfold tnV at aa;have ad:((s.takeWhile isD).length:Int)≤(s.length:Int):=o_
  rcases ZBI (p:=isD) (s:=s) with h | ⟨c,hc,hD⟩
  ·have af:¬((s.takeWhile isD).length:Int)<(s.length:Int):=o_
   cases hr:rd (s.takeWhile isD) with
   | none=>
    rw[hr] at aa e1;simp only[Zfn] at e1 aa;subst aa;simp (maxSteps:=10^7) +contextual -implicitDefEqProofs only[go_sem,seval,af,ad,e1,d1,d2,d3]
   | some v=>
    rw[hr] at aa e1;simp only[Zfn] at e1 aa;subst aa;simp (maxSteps:=10^7) +contextual -implicitDefEqProofs only[go_sem,seval,af,ad,e1,d1,d2,d3]
  ·have ab:((s.takeWhile isD).length:Int)<(s.length:Int):=by have:=(Kc.1 hc).1;omega
   have ah:¬((48:Int)≤c.toNat∧(c.toNat:Int)≤57):=fun h=>hD ((Zo0 c).2 o_);by_cases h1:(48:Int)≤c.toNat
   ·have h2:¬(c.toNat:Int)≤57:=fun h=>ah ⟨h1,h⟩;cases hr:rd (s.takeWhile isD) with
    | none=>
     rw[hr] at aa e1;simp only[Zfn] at e1 aa;subst aa;simp (maxSteps:=10^7) +contextual -implicitDefEqProofs only[go_sem,seval,ab,hc,h1,h2,ad,e1,d1,d2,d3]
    | some v=>
     rw[hr] at aa e1;simp only[Zfn] at e1 aa;subst aa;simp (maxSteps:=10^7) +contextual -implicitDefEqProofs only[go_sem,seval,ab,hc,h1,h2,ad,e1,d1,d2,d3]
   ·cases hr:rd (s.takeWhile isD) with
    | none=>
     rw[hr] at aa e1;simp only[Zfn] at e1 aa;subst aa;simp (maxSteps:=10^7) +contextual -implicitDefEqProofs only[go_sem,seval,ab,hc,h1,ad,e1,d1,d2,d3]
    | some v=>
     rw[hr] at aa e1;simp only[Zfn] at e1 aa;subst aa;simp (maxSteps:=10^7) +contextual -implicitDefEqProofs only[go_sem,seval,ab,hc,h1,ad,e1,d1,d2,d3]
def TkR (res:Option (AV×List Zk)) (m:Option (BT×List UInt8)):Prop:=∃ (o a q:Int) (t:Bool) (ks:List Zf) (r:List UInt8) (ok:Bool),
 res=some (.tup [.agg [(.d (J o)),(.d (J a)),(.d (J q)),(.d (.bool t)),.own 0],.d (.str r),(.d (.bool ok))],[plO ks])∧(match m with | some (b,r')=>ok=true∧b.plan=.mk o a q t ks∧r'=r | none=>ok=false)
theorem Zfo {res:Option (AV×List Zk)} {o a q:Int} {t:Bool} {ks:List Zf} {r:List UInt8} (h:res=some (.tup [.agg [(.d (J o)),(.d (J a)),(.d (J q)),(.d (.bool t)),.own 0],.d (.str r),(.d (.bool false))],[plO ks])):TkR res none:=⟨o,a,q,t,ks,r,false,h,rfl⟩
theorem Zo1 {res:Option (AV×List Zk)} {b:BT} {o a q:Int} {t:Bool} {ks:List Zf} {r:List UInt8} (hb:b.plan=.mk o a q t ks) (h:res=some (.tup [.agg [(.d (J o)),(.d (J a)),(.d (J q)),(.d (.bool t)),.own 0],.d (.str r),(.d (.bool true))],[plO ks])):TkR res (some (b,r)):=⟨o,a,q,t,ks,r,true,h,rfl,hb,rfl⟩
theorem Zr2 (c:UInt8) {k:Int} (d:UInt8) (hd:(d.toNat:Int)=k):(c.toNat:Int)=k↔c=d:=by
 constructor
 ·intro h;apply UInt8.toNat_inj.1;omega
 ·rintro rfl;exact hd
theorem ZBJ (n:Nat):tk n []=none:=by cases n<;>rfl
theorem Zr3:∀ (n:Nat) (s:List UInt8),s.length≤n→s.length≤1048576→TkR (v_ 171 [.d (.str s)] []) (tk n s):=by
 intro n
 induction n with
 | zero=>
  intro s hs _;obtain rfl:=Ks (Nat.le_zero.1 hs);rw[ZBJ];refine Zfo (o:=0) (a:=0) (q:=0) (t:=false) (ks:=[]) (r:=[]) ?_;refine cE ?_;simp +contextual -implicitDefEqProofs (maxSteps:=10^7) only[go_sem,seval,ZR]
 | succ n IH=>
  intro s hs al;cases s with
  | nil=>
   rw[ZBJ];refine Zfo (o:=0) (a:=0) (q:=0) (t:=false) (ks:=[]) (r:=[]) ?_;refine cE ?_;simp +contextual -implicitDefEqProofs (maxSteps:=10^7) only[go_sem,seval,ZR]
  | cons c s=>
   simp only[Kn] at hs al;have hb:(c :: s==[])=false:=rfl;have d3:s.take s.length=s:=Ln;have aa:(1:Int)≤((s.length+1:Nat):Int):=o_
   have e1:=ZoD s o_;by_cases c1:c=119
   ·have n1:(c.toNat:Int)=119:=(Zr2 c 119 rfl).2 c1;have am:tk (n+1) (c :: s)=some (.waste,s):=by rw[tk,Kj c1]
    rw[am];refine Zo1 (b:=.waste) rfl ?_;refine cE ?_;simp +contextual -implicitDefEqProofs (maxSteps:=10^7) only[go_sem,seval,ZR,hb,d3,aa,n1]
   have n1:¬(c.toNat:Int)=119:=fun h=>c1 ((Zr2 c 119 rfl).1 h);rw[tk,Ke c1];cases hr:rd (s.takeWhile isD) with
   | none=>
    simp only[tnV,hr] at e1;refine Zfo (o:=0) (a:=0) (q:=0) (t:=false) (ks:=[]) (r:=[]) ?_;refine cE ?_;simp +contextual -implicitDefEqProofs (maxSteps:=10^7) only[go_sem,seval,ZR,hb,d3,aa,n1,e1]
   | some v=>
    simp only[tnV,hr] at e1;have hv:=(Zc8 hr).2;obtain⟨r1,ah⟩:∃ r1,s.dropWhile isD=r1:=⟨_,rfl⟩
    rw[ah] at e1;have ap:r1.length≤s.length:=by rw[← ah];exact List.IsSuffix.length_le (List.dropWhile_suffix isD)
    simp only[KN,ah];by_cases c2:c=112
    ·have n2:(c.toNat:Int)=112:=(Zr2 c 112 rfl).2 c2;have n3:¬(c.toNat:Int)=116:=o_
     rw[ZnT,Kj c2];refine Zo1 (b:=.pane v false) rfl ?_;refine cE ?_;simp +contextual -implicitDefEqProofs (maxSteps:=10^7) only[go_sem,seval,ZR,hb,d3,aa,n1,n2,n3,e1]
    have n2:¬(c.toNat:Int)=112:=fun h=>c2 ((Zr2 c 112 rfl).1 h);rw[ZnT,Ke c2];by_cases c3:c=116
    ·have n3:(c.toNat:Int)=116:=(Zr2 c 116 rfl).2 c3;rw[Kj c3];refine Zo1 (b:=.pane v true) rfl ?_;refine cE ?_;simp +contextual -implicitDefEqProofs (maxSteps:=10^7) only[go_sem,seval,ZR,hb,d3,aa,n1,n2,n3,e1]
    have n3:¬(c.toNat:Int)=116:=fun h=>c3 ((Zr2 c 116 rfl).1 h);rw[Ke c3];have ad:∀ d:Bool,(if d then (c.toNat:Int)=100 else ¬(c.toNat:Int)=100∧(c.toNat:Int)=97)→TkR (v_ 171 [.d (.str (c :: s))] []) (ZnS d v (tk n) r1):=by
     intro d hd;have k1:=V9 r1 40 o_;unfold ZnS ZuL at *;cases h40:Uk 40 r1 with
     | none=>
      simp only[h40] at k1;simp only[Kaa];obtain⟨o1,a1,q1,t1,ab,r3,an,i1,_⟩:=IH r1 o_ o_;refine Zfo (o:=0) (a:=0) (q:=0) (t:=false) (ks:=[]) (r:=[]) ?_;refine cE ?_;cases d with
      | true=>
       simp only[Kl] at hd;cases ab<;>simp +contextual -implicitDefEqProofs (maxSteps:=10^7) only[go_sem,seval,ZR,hb,d3,aa,n1,n2,n3,e1,hd,k1,i1]
      | false=>
       simp only[Ka,Km] at hd;cases ab<;>simp +contextual -implicitDefEqProofs (maxSteps:=10^7) only[go_sem,seval,ZR,hb,d3,aa,n1,n2,n3,e1,hd.1,hd.2,k1,i1]
     | some r2=>
      simp only[h40] at k1;simp only[KN];have x2:=Zap h40;have ai:r2.length≤n∧r2.length≤1048576:=by
       have:r1.length=r2.length+1:=by rw[x2];rfl
       omega
      obtain⟨o1,a1,q1,t1,ab,r3,an,i1,m1⟩:=IH r2 ai.1 ai.2;cases h2:tk n r2 with
      | none=>
       rw[h2] at m1;simp only at m1;subst m1;simp only[Kaa];refine Zfo (o:=0) (a:=0) (q:=0) (t:=false) (ks:=[]) (r:=[]) ?_;refine cE ?_;cases d with
       | true=>
        simp only[Kl] at hd;cases ab<;>simp +contextual -implicitDefEqProofs (maxSteps:=10^7) only[go_sem,seval,ZR,hb,d3,aa,n1,n2,n3,e1,hd,k1,i1]
       | false=>
        simp only[Ka,Km] at hd;cases ab<;>simp +contextual -implicitDefEqProofs (maxSteps:=10^7) only[go_sem,seval,ZR,hb,d3,aa,n1,n2,n3,e1,hd.1,hd.2,k1,i1]
      | some p1=>
       obtain⟨b1,af⟩:=p1;rw[h2] at m1;simp only at m1;obtain⟨rfl,hb1,rfl⟩:=m1;simp only[KN];have s1:=(Zhd n r2 b1 af h2).1;have aj:af.length≤n∧af.length≤1048576:=by
        have:r2.length=(shw b1).length+af.length:=by rw[s1,Kr]
        omega
       have k2:=V9 af 44 o_;unfold ZuL at k2;cases h44:Uk 44 af with
       | none=>
        simp only[h44] at k2;simp only[Kaa];obtain⟨o2,a2,q2,t2,ae,r5,ao,i2,_⟩:=IH af aj.1 aj.2;refine Zfo (o:=0) (a:=0) (q:=0) (t:=false) (ks:=[]) (r:=[]) ?_;refine cE ?_;cases d with
        | true=>
         simp only[Kl] at hd;cases ab<;>cases ae<;>simp +contextual -implicitDefEqProofs (maxSteps:=10^7) only[go_sem,seval,ZR,hb,d3,aa,n1,n2,n3,e1,hd,k1,i1,k2,i2]
        | false=>
         simp only[Ka,Km] at hd;cases ab<;>cases ae<;>simp +contextual -implicitDefEqProofs (maxSteps:=10^7) only[go_sem,seval,ZR,hb,d3,aa,n1,n2,n3,e1,hd.1,hd.2,k1,i1,k2,i2]
       | some r4=>
        simp only[h44] at k2;simp only[KN];have x4:=Zap h44;have ak:r4.length≤n∧r4.length≤1048576:=by
         have:af.length=r4.length+1:=by rw[x4];rfl
         omega
        obtain⟨o2,a2,q2,t2,ae,r5,ao,i2,m2⟩:=IH r4 ak.1 ak.2;cases h4:tk n r4 with
        | none=>
         rw[h4] at m2;simp only at m2;subst m2;simp only[Kaa];refine Zfo (o:=0) (a:=0) (q:=0) (t:=false) (ks:=[]) (r:=[]) ?_;refine cE ?_;cases d with
         | true=>
          simp only[Kl] at hd;cases ab<;>cases ae<;>simp +contextual -implicitDefEqProofs (maxSteps:=10^7) only[go_sem,seval,ZR,hb,d3,aa,n1,n2,n3,e1,hd,k1,i1,k2,i2]
         | false=>
          simp only[Ka,Km] at hd;cases ab<;>cases ae<;>simp +contextual -implicitDefEqProofs (maxSteps:=10^7) only[go_sem,seval,ZR,hb,d3,aa,n1,n2,n3,e1,hd.1,hd.2,k1,i1,k2,i2]
        | some p2=>
         obtain⟨b2,ag⟩:=p2;rw[h4] at m2;simp only at m2;obtain⟨rfl,hb2,rfl⟩:=m2;simp only[KN];have s2:=(Zhd n r4 b2 ag h4).1;have aq:ag.length≤1048576:=by
          have:r4.length=(shw b2).length+ag.length:=by rw[s2,Kr]
          omega
         have k3:=V9 ag 41 o_;unfold ZuL at k3;cases h41:Uk 41 ag with
         | none=>
          simp only[h41] at k3;simp only[Kaa];refine Zfo (o:=Z8 d) (a:=v) (q:=0) (t:=false) (ks:=[.mk o1 a1 q1 t1 ab,.mk o2 a2 q2 t2 ae]) (r:=ag) ?_;refine cE ?_;cases d with
          | true=>
           simp only[Kl] at hd;cases ab<;>cases ae<;>simp +contextual -implicitDefEqProofs (maxSteps:=10^7) only[go_sem,seval,ZR,hb,d3,aa,n1,n2,n3,e1,hd,k1,i1,k2,i2,k3,Z8]
          | false=>
           simp only[Ka,Km] at hd;cases ab<;>cases ae<;>simp +contextual -implicitDefEqProofs (maxSteps:=10^7) only[go_sem,seval,ZR,hb,d3,aa,n1,n2,n3,e1,hd.1,hd.2,k1,i1,k2,i2,k3,Z8]
         | some r6=>
          simp only[h41] at k3;simp only[KN];refine Zo1 (b:=.cut d v b1 b2) (o:=Z8 d) (a:=v) (q:=0) (t:=false) (ks:=[.mk o1 a1 q1 t1 ab,.mk o2 a2 q2 t2 ae]) (by rw[BT.plan,hb1,hb2]) ?_;refine cE ?_;cases d with
          | true=>
           simp only[Kl] at hd;cases ab<;>cases ae<;>simp +contextual -implicitDefEqProofs (maxSteps:=10^7) only[go_sem,seval,ZR,hb,d3,aa,n1,n2,n3,e1,hd,k1,i1,k2,i2,k3,Z8]
          | false=>
           simp only[Ka,Km] at hd;cases ab<;>cases ae<;>simp +contextual -implicitDefEqProofs (maxSteps:=10^7) only[go_sem,seval,ZR,hb,d3,aa,n1,n2,n3,e1,hd.1,hd.2,k1,i1,k2,i2,k3,Z8]
    by_cases c4:c=100
    ·have n4:(c.toNat:Int)=100:=(Zr2 c 100 rfl).2 c4;rw[Kj c4];exact ad true n4
    have n4:¬(c.toNat:Int)=100:=fun h=>c4 ((Zr2 c 100 rfl).1 h);rw[Ke c4];by_cases c5:c=97
    ·have n5:(c.toNat:Int)=97:=(Zr2 c 97 rfl).2 c5;rw[Kj c5];exact ad false ⟨n4,n5⟩
    have n5:¬(c.toNat:Int)=97:=fun h=>c5 ((Zr2 c 97 rfl).1 h);rw[Ke c5];refine Zfo (o:=0) (a:=0) (q:=0) (t:=false) (ks:=[]) (r:=[]) ?_;refine cE ?_;simp +contextual -implicitDefEqProofs (maxSteps:=10^7) only[go_sem,seval,ZR,hb,d3,aa,n1,n2,n3,n4,n5,e1]
def ZuN (s:List UInt8):Option BT:=if s.length≤1600 then ZmM s else none
def PrT (res:Option (AV×List Zk)) (m:Option BT):Prop:=∃ (o a q:Int) (t:Bool) (ks:List Zf),
 res=some (.tup [.agg [(.d (J o)),(.d (J a)),(.d (J q)),(.d (.bool t)),.own 0],(.d (.bool (m.isSome)))],[plO ks])∧Zf.mk o a q t ks=(m.getD .waste).plan
theorem ZqY {res:Option (AV×List Zk)} (h:res=some (.tup [.agg [(.d (J 0)),(.d (J 0)),(.d (J 0)),(.d (.bool false)),.own 0],(.d (.bool false))],[.row 5 [] true false])):PrT res none:=⟨0,0,0,false,[],h,rfl⟩
theorem Zhg (s:List UInt8) (hs:s.length≤1048576):PrT (v_ 120 [.d (.str s)] []) (ZuN s):=by
 unfold ZuN;by_cases hl:s.length≤1600
 ·rw[Kj hl];have aa : ¬(1600:Int)<(s.length:Int):=o_
  obtain⟨o,a,q,t,ks,r,ok,e1,m1⟩:=Zr3 s.length s (Kp _) hs;unfold ZmM;cases h1:tk s.length s with
  | none=>
   rw[h1] at m1;simp only at m1;subst m1;refine ZqY ?_;refine cE ?_;cases ks<;>simp (maxSteps:=10^7) +contextual -implicitDefEqProofs only[go_sem,seval,Q9,aa,e1]
  | some p1=>
   obtain⟨b,r'⟩:=p1;rw[h1] at m1;simp only at m1;obtain⟨rfl,hb,rfl⟩:=m1;cases r' with
   | cons x r2=>
    have hx:(x :: r2==[])=false:=rfl;refine ZqY ?_;refine cE ?_;cases ks<;>simp (maxSteps:=10^7) +contextual -implicitDefEqProofs only[go_sem,seval,Q9,aa,e1,hx]
   | nil=>
    have e2:=ZdB b.plan;have e3:=W5 b;rw[Yk] at e2;rw[hb,Zf.enc_mk] at e2 e3;show PrT _ (if b.cnt≤255∧WQ b=true then some b else none);rcases XC 255 b with ⟨hc,hz⟩ | ⟨hc,hz⟩
    ·rw[hz] at e2;have h0:¬(b.cnt:Int)<0:=o_
     cases hcb:WQ b with
     | false=>
      rw[hcb] at e3;rw[Ke (fun h=>by cases h.2)];refine ZqY ?_;refine cE ?_;by_cases hk:ks=[]
      ·subst hk;simp only[Kt] at e2 e3;simp (maxSteps:=10^7) +contextual -implicitDefEqProofs only[go_sem,seval,Q9,aa,e1,e2,e3,h0]
       all_goals rfl
      ·have hp:=Zfi hk;simp (maxSteps:=10^7) +contextual -implicitDefEqProofs only[go_sem,seval,Q9,aa,e1,e2,e3,h0,hp]
       all_goals rfl
     | true=>
      rw[hcb] at e3;rw[Kj ⟨o_,rfl⟩];refine⟨o,a,q,t,ks,?_,hb.symm⟩;refine cE ?_;by_cases hk:ks=[]
      ·subst hk;simp only[Kt] at e2 e3;simp (maxSteps:=10^7) +contextual -implicitDefEqProofs only[go_sem,seval,Q9,aa,e1,e2,e3,h0]
       all_goals rfl
      ·have hp:=Zfi hk;simp (maxSteps:=10^7) +contextual -implicitDefEqProofs only[go_sem,seval,Q9,aa,e1,e2,e3,h0,hp]
       all_goals rfl
      all_goals rfl
    ·rw[hz] at e2;rw[Ke (fun h=>by omega)];refine ZqY ?_;refine cE ?_;by_cases hk:ks=[]
     ·subst hk;simp only[Kt] at e2 e3;simp (maxSteps:=10^7) +contextual -implicitDefEqProofs only[go_sem,seval,Q9,aa,e1,e2]
      all_goals rfl
     ·have hp:=Zfi hk;simp (maxSteps:=10^7) +contextual -implicitDefEqProofs only[go_sem,seval,Q9,aa,e1,e2,hp]
      all_goals rfl
 ·rw[Ke hl];have aa : (1600:Int)<(s.length:Int):=o_
  refine ZqY ?_;refine cE ?_;simp (maxSteps:=10^7) +contextual -implicitDefEqProofs only[go_sem,seval,Q9,aa]
end Go.Proofs.YtfnegoimdljanaaGreatDoor
