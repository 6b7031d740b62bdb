import Derived.Test.YtfnegoimdljanaaGreatDoorBC1
namespace Go.Proofs.YtfnegoimdljanaaGreatDoor
open Go Go.Abs Go.Abs.E Go.Abs.L
set_option linter.all false
set_option maxRecDepth 20000
set_option maxHeartbeats 4000000
def num (n:Nat):List UInt8:=if n<10 then [UInt8.ofNat (48+n)] else num (n / 10)++[UInt8.ofNat (48+n % 10)]
termination_by n
decreasing_by omega
def isD (c:UInt8):Bool:=decide (48≤c.toNat∧c.toNat≤57)
def val (s:List UInt8):Nat:=s.foldl (fun n c=>10*n+(c.toNat-48)) 0
theorem Zmq (s:List UInt8) (c:UInt8):val (s++[c])=10*val s+(c.toNat-48):=by simp[val]
theorem Ze8 {n:Nat} (h:n<10):(UInt8.ofNat (48+n)).toNat=48+n:=by
 rw[UInt8.toNat_ofNat'];omega
theorem ZDE {c:UInt8} (h:isD c=true):UInt8.ofNat (48+(c.toNat-48))=c:=by
 simp only[isD,Ko] at h;apply UInt8.toNat_inj.1;rw[UInt8.toNat_ofNat'];omega
theorem VS {n:Nat} (h:n<10):num n=[UInt8.ofNat (48+n)]:=by rw[num,Kg h]
theorem Zf7 {n:Nat} (h:¬n<10):num n=num (n / 10)++[UInt8.ofNat (48+n % 10)]:=by rw[num,Kd h]
theorem ZzM:∀ n:Nat,num n≠[]:=fun n=>by
 by_cases h:n<10
 ·rw[VS h];simp
 ·rw[Zf7 h];simp
theorem Zqg (n:Nat):∀ c∈num n,isD c=true:=by
 induction n using Nat.strongRecOn with
 | ind n ih=>
  intro c hc;by_cases h:n<10
  ·rw[VS h] at hc;rw[KD] at hc;subst hc;have:=Ze8 h;simp only[isD,Ko];omega
  ·rw[Zf7 h] at hc;rcases Kj.1 hc with hc | hc
   ·exact ih (n / 10) o_ c hc
   ·rw[KD] at hc;subst hc;have:=Ze8 (n:=n % 10) o_;simp only[isD,Ko];omega
theorem Zwf (n:Nat):val (num n)=n:=by
 induction n using Nat.strongRecOn with
 | ind n ih=>
  by_cases h:n<10
  ·rw[VS h];have:=Ze8 h;simp only[val,List.foldl_cons,List.foldl_nil];omega
  ·rw[Zf7 h,Zmq,ih (n / 10) o_,Ze8 o_];omega
theorem ZDF {n:Nat} (h:0<n):(num n).head?≠some 48:=by
 induction n using Nat.strongRecOn with
 | ind n ih=>
  by_cases h1:n<10
  ·rw[VS h1];simp only[List.head?_cons,ne_eq,Option.some.injEq];intro e;have:=Ze8 h1;rw[e] at this;have aa:(48:UInt8).toNat=48:=rfl;omega
  ·rw[Zf7 h1];have:=ih (n / 10) o_ o_;cases hn:num (n / 10) with
   | nil=>exact absurd hn (ZzM _)
   | cons a r=>rw[hn] at this;simpa using this
theorem Ye:∀ (k n:Nat),n<10 ^ (k+1)→(num n).length≤k+1
 | 0,n,h=>by rw[VS (by simpa using h)];simp
 | k+1,n,h=>by
  by_cases h1:n<10
  ·rw[VS h1];simp
  ·rw[Zf7 h1];have:=Ye k (n / 10) (Nat.div_lt_of_lt_mul (by rw[Nat.pow_succ,Nat.mul_comm] at h;exact h));simp;omega
theorem ZET:∀ (s:List UInt8),(∀ c∈s,isD c=true)→s≠[]→s.head?≠some 48→0<val s:=by
 intro s;have aa:∀ (l:List UInt8) (n:Nat),0<n→0<l.foldl (fun n (c:UInt8)=>10*n+(c.toNat-48)) n:=by
  intro l
  induction l with
  | nil=>intro n h;exact h
  | cons c l ih=>intro n h;exact ih (10*n+(c.toNat-48)) o_
 cases s with
 | nil=>intro _ h;exact absurd rfl h
 | cons c l=>
  intro hd _ hh;refine aa l _ ?_;have h1:=hd c (by simp);simp only[isD,Ko] at h1;have h2:c.toNat≠48:=fun e=>hh (by
   have:c=48:=UInt8.toNat_inj.1 e;simp[this])
  show 0<10*0+(c.toNat-48);omega
theorem Zso {α:Type} (s:List α):s=[]∨∃ t c,s=t++[c]:=by
 rcases List.eq_nil_or_concat s with h | ⟨t,c,h⟩
 ·exact .inl h
 ·exact .inr ⟨t,c,by simpa using h⟩
theorem ZA0:∀ (k:Nat) (s:List UInt8),s.length≤k→(∀ c∈s,isD c=true)→s≠[]→(s.head?≠some 48∨s.length=1)→num (val s)=s
 | 0,s,hk,_,hn,_=>absurd (Kt o_) hn
 | k+1,s,hk,hd,hn,hh=>by
  rcases Zso s with h | ⟨t,c,rfl⟩
  ·exact absurd h hn
  ·rw[Zmq];have hc:=hd c (by simp);have ad:=hc;simp only[isD,Ko] at ad;by_cases ht:t=[]
   ·subst ht;have e:val []=0:=rfl;rw[e,VS o_];have:=ZDE hc;rw[Nat.mul_zero,K0,this];rfl
   ·have aa:∀ c∈t,isD c=true:=fun x hx=>hd x (by simp[hx]);have ab:t.head?≠some 48:=by
     cases t with
     | nil=>exact absurd rfl ht
     | cons a r=>
      rcases hh with hh | hh
      ·simpa using hh
      ·simp at hh
    have hp:=ZET t aa ht ab;rw[Zf7 o_];have e1:(10*val t+(c.toNat-48)) / 10=val t:=o_
    have e2:(10*val t+(c.toNat-48)) % 10=c.toNat-48:=o_
    rw[e1,e2,ZA0 k t (by simp at hk;omega) aa ht (.inl ab),ZDE hc]
def Zu0 (s:List UInt8):Prop:=s≠[]∧s.length≤6∧(s.head?≠some 48∨s.length=1)∧∀ c∈s,isD c=true
instance (s:List UInt8):Decidable (Zu0 s):=by unfold Zu0;infer_instance
def rd (s:List UInt8):Option Nat:=if Zu0 s then some (val s) else none
theorem ZzN:∀ (k:Nat) (s:List UInt8),s.length≤k→(∀ c∈s,isD c=true)→val s<10 ^ k
 | 0,s,h,_=>by
  have:s=[]:=Kt o_;subst this;simp[val]
 | k+1,s,h,hd=>by
  rcases Zso s with rfl | ⟨t,c,rfl⟩
  ·have:0<10 ^ (k+1):=Nat.pow_pos o_;simpa [val] using this
  ·rw[Zmq];have:=ZzN k t (by simp at h;omega) (fun x hx=>hd x (by simp[hx]));have hc:=hd c (by simp);simp only[isD,Ko] at hc;rw[Nat.pow_succ];generalize 10 ^ k=m at this ⊢;omega
theorem Zcv {n:Nat} (h:n≤999999):rd (num n)=some n:=by
 have h6:=Ye 5 n o_;have:Zu0 (num n):=by
  refine⟨ZzM n,h6,?_,Zqg n⟩;by_cases h0:n=0
  ·right;subst h0;rw[VS o_];rfl
  ·left;exact ZDF o_
 rw[rd,Kg this,Zwf]
theorem Uy {s:List UInt8} {n:Nat} (h:rd s=some n):s=num n∧n≤999999:=by
 unfold rd at h;split at h
 ·rename_i hn;cases h;obtain⟨h1,h2,h3,h4⟩:=hn;have:=ZzN 6 s h2 h4;exact⟨(ZA0 s.length s (Kr _) h4 h1 h3).symm,o_⟩
 ·cases h
def ZL (c:UInt8):List UInt8→List (List UInt8)
 | []=>[[]]
 | x :: r=>if x=c then [] :: ZL c r else match ZL c r with
  | []=>[[x]]
  | p :: q=>(x :: p) :: q
def Yc (c:UInt8):List (List UInt8)→List UInt8
 | []=>[]
 | [x]=>x
 | x :: y :: r=>x++c :: Yc c (y :: r)
theorem WR (c:UInt8):∀ s,ZL c s≠[]
 | []=>by simp[ZL]
 | x :: r=>by
  unfold ZL;split
  ·simp
  ·split<;>simp
theorem Zsp (c:UInt8):∀ s,Yc c (ZL c s)=s
 | []=>rfl
 | x :: r=>by
  have ih:=Zsp c r;unfold ZL;split
  ·rename_i h;cases hs:ZL c r with
   | nil=>exact absurd hs (WR c r)
   | cons p q=>rw[hs] at ih;simp[Yc,ih,h]
  ·split
   ·rename_i hs;exact absurd hs (WR c r)
   ·rename_i p q hs;rw[hs] at ih;cases q with
    | nil=>simp only[Yc] at ih ⊢;rw[ih]
    | cons y q=>simp only[Yc,KF] at ih ⊢;rw[ih]
theorem Zak {c:UInt8}:∀ {s:List UInt8},c∉s→ZL c s=[s]
 | [],_=>rfl
 | x :: r,h=>by
  simp only[Ke,not_or] at h;rw[ZL,Kd (fun e=>h.1 e.symm),Zak h.2]
theorem Zjy {c:UInt8}:∀ {a:List UInt8} {b:List UInt8},c∉a→ZL c (a++c :: b)=a :: ZL c b
 | [],b,_=>by simp[ZL]
 | x :: r,b,h=>by
  simp only[Ke,not_or] at h;rw[KF,ZL,Kd (fun e=>h.1 e.symm),Zjy h.2]
theorem Zk0 {c:UInt8}:∀ {ws:List (List UInt8)},ws≠[]→(∀ w∈ws,c∉w)→ZL c (Yc c ws)=ws
 | [],h,_=>absurd rfl h
 | [x],_,h=>Zak (h x (by simp))
 | x :: y :: r,_,h=>by
  rw[Yc,Zjy (h x (by simp)),Zk0 (by simp) (fun w hw=>h w (by simp[hw]))]
def Xp (c:UInt8):List UInt8→Option Nat
 | []=>none
 | x :: r=>if x=c then some 0 else (Xp c r).map (·+1)
theorem Zmr {c:UInt8}:∀ {s:List UInt8},Xp c s=none↔c∉s
 | []=>by simp[Xp]
 | x :: r=>by
  unfold Xp;split
  ·rename_i h;simp[h]
  ·rename_i h;simp[Zmr (s:=r),Ne.symm h]
theorem Jv {c:UInt8}:∀ {s:List UInt8} {i:Nat},Xp c s=some i→s=s.take i++c :: s.drop (i+1)∧c∉s.take i∧i<s.length
 | [],i,h=>by simp[Xp] at h
 | x :: r,i,h=>by
  unfold Xp at h;split at h
  ·rename_i hx;cases h;simp[hx]
  ·rename_i hx;cases hr:Xp c r with
   | none=>rw[hr] at h;simp at h
   | some j=>
    rw[hr] at h;simp at h;subst h;obtain⟨h1,h2,h3⟩:=Jv hr;refine⟨?_,?_,by simp;omega⟩
    ·simp only[L0,List.drop_succ_cons,KF];rw[← h1]
    ·simp only[L0,Ke,not_or];exact⟨fun e=>hx e.symm,h2⟩
theorem ZbV (c:UInt8) (s:List UInt8):ZL c s=match Xp c s with
  | none=>[s]
  | some i=>s.take i :: ZL c (s.drop (i+1)):=by
 cases h:Xp c s with
 | none=>exact Zak (Zmr.1 h)
 | some i=>
  obtain⟨h1,h2,_⟩:=Jv h;simp only;rw[h1,Zjy h2,← h1]
def shw:BT→List UInt8
 | .waste=>[119]
 | .pane i t=>(if t then 116 else 112) :: num i.toNat
 | .cut d a l r=>(if d then 100 else 97) :: (num a.toNat++40 :: (shw l++44 :: (shw r++[41])))
def YO:BT→Bool
 | .waste=>true
 | .pane i _=>decide (0≤i∧i≤24)
 | .cut _ a l r=>decide (0≤a∧a≤200)&&YO l&&YO r
def ZbD:BT→Bool
 | .waste=>true
 | .pane i _=>decide (0≤i∧i≤999999)
 | .cut _ a l r=>decide (0≤a∧a≤999999)&&ZbD l&&ZbD r
theorem ZbE:∀ b:BT,YO b=true→ZbD b=true
 | .waste,_=>rfl
 | .pane i t,h=>by simp only[YO,ZbD,Ko] at h ⊢;omega
 | .cut d a l r,h=>by
  simp only[YO,ZbD,Kf,Ko] at h ⊢;exact⟨⟨o_,ZbE l h.1.2⟩,ZbE r h.2⟩
def UO (x:UInt8):List UInt8→Option (List UInt8)
 | y :: r=>if y=x then some r else none
 | []=>none
def Zo6 (d:Bool) (v:Nat) (rec:List UInt8→Option (BT×List UInt8)) (r:List UInt8):Option (BT×List UInt8):=
 (UO 40 r).bind fun r1=>(rec r1).bind fun p=>(UO 44 p.2).bind fun r3=>(rec r3).bind fun q=>(UO 41 q.2).bind fun r5=>some (.cut d v p.1 q.1,r5)
def Zo7 (c:UInt8) (v:Nat) (rec:List UInt8→Option (BT×List UInt8)) (r:List UInt8):Option (BT×List UInt8):=
 if c=112 then some (.pane v false,r) else if c=116 then some (.pane v true,r) else if c=100 then Zo6 true v rec r else if c=97 then Zo6 false v rec r else none
def tk:Nat→List UInt8→Option (BT×List UInt8)
 | 0,_=>none
 | _+1,[]=>none
 | n+1,c :: s=>if c=119 then some (.waste,s) else (rd (s.takeWhile isD)).bind fun v=>Zo7 c v (tk n) (s.dropWhile isD)
theorem ZaM {x:UInt8} {s r:List UInt8} (h:UO x s=some r):s=x :: r:=by
 cases s with
 | nil=>simp[UO] at h
 | cons y t=>simp only[UO] at h;split at h<;>simp_all
theorem ZEU {s:List UInt8} {v:Nat} (h:rd (s.takeWhile isD)=some v):s=num v++s.dropWhile isD∧v≤999999:=by
 obtain⟨h1,h2⟩:=Uy h;exact⟨by rw[← h1,LM],h2⟩
theorem Zo8 {d:Bool} {v:Nat} {ab:List UInt8→Option (BT×List UInt8)} (aa:∀ s b r,ab s=some (b,r)→s=shw b++r∧ZbD b=true) (hv:v≤999999) {r:List UInt8} {b:BT} {t:List UInt8} (h:Zo6 d v ab r=some (b,t)) :
  ∃ x y,b=.cut d v x y∧r=40 :: (shw x++44 :: (shw y++41 :: t))∧ZbD b=true:=by
 unfold Zo6 at h;simp only[KZ] at h;obtain⟨r1,h1,⟨x,r2⟩,h2,r3,h3,⟨y,r4⟩,h4,r5,h5,h6⟩:=h;simp only[Option.some.injEq,Prod.mk.injEq] at h6;obtain⟨rfl,rfl⟩:=h6;obtain⟨e2,s2⟩:=aa _ _ _ h2;obtain⟨e4,s4⟩:=aa _ _ _ h4;have e1:=ZaM h1;have e3:=ZaM h3;have e5:=ZaM h5;refine⟨x,y,rfl,?_,?_⟩
 ·simp only at e3 e5;rw[e1,e2,e3,e4,e5]
 ·simp only[ZbD,s2,s4,Kae,Ko];omega
theorem Zh3:∀ (n:Nat) (s:List UInt8) (b:BT) (r:List UInt8),tk n s=some (b,r)→s=shw b++r∧ZbD b=true
 | 0,s,b,r,h=>by simp[tk] at h
 | n+1,[],b,r,h=>by simp[tk] at h
 | n+1,c :: s,b,r,h=>by
  simp only[tk] at h;split at h
  ·rename_i hc;cases h;exact⟨by simp[shw,hc],rfl⟩
  ·simp only[KZ] at h;obtain⟨v,h1,h⟩:=h;obtain⟨e1,hv⟩:=ZEU h1;unfold Zo7 at h;split at h
   ·rename_i hc;cases h;refine⟨?_,by simp only[ZbD,Ko];omega⟩;simp only[shw,Kz,Ka,Kn,KF];rw[← e1,hc]
   ·split at h
    ·rename_i hc;cases h;refine⟨?_,by simp only[ZbD,Ko];omega⟩;simp only[shw,Kz,Km,KF];rw[← e1,hc]
    ·split at h
     ·rename_i hc;obtain⟨x,y,rfl,e2,hs⟩:=Zo8 (Zh3 n) hv h;refine⟨?_,hs⟩;rw[e1,e2,hc];simp[shw,Kz]
     ·split at h
      ·rename_i hc;obtain⟨x,y,rfl,e2,hs⟩:=Zo8 (Zh3 n) hv h;refine⟨?_,hs⟩;rw[e1,e2,hc];simp[shw,Kz]
      ·cases h
def Zsq (r:List UInt8):Prop:=∀ c t,r=c :: t→isD c=false
theorem Zsr (v:Nat) {r:List UInt8} (h:Zsq r):(num v++r).takeWhile isD=num v∧(num v++r).dropWhile isD=r:=by
 have aa:∀ l:List UInt8,(∀ c∈l,isD c=true)→(l++r).takeWhile isD=l∧(l++r).dropWhile isD=r:=by
  intro l
  induction l with
  | nil=>
   intro _;cases r with
   | nil=>simp
   | cons c t=>have:=h c t rfl;simp[this]
  | cons c l ih=>
   intro hl;have:=ih (fun x hx=>hl x (by simp[hx]));simp only[KF,List.takeWhile_cons,List.dropWhile_cons,hl c (by simp),Km,this.1,this.2,and_self]
 exact aa _ (Zqg v)
theorem ZA1 (b:BT):1≤(shw b).length:=by cases b<;>simp[shw]
theorem Zh4:∀ (n:Nat) (b:BT) (r:List UInt8),(shw b).length≤n→ZbD b=true→Zsq r→tk n (shw b++r)=some (b,r)
 | 0,b,r,hn,_,_=>by have:=ZA1 b;omega
 | n+1,.waste,r,_,_,_=>by simp[shw,tk]
 | n+1,.pane i t,r,hn,hs,hr=>by
  simp only[ZbD,Ko] at hs;obtain⟨h1,h2⟩:=Zsr i.toNat hr;have hi:((i.toNat:Nat):Int)=i:=o_
  have aa:=Zcv (n:=i.toNat) o_;cases t
  ·simp[shw,tk,Zo7,h1,h2,aa,hi]
  ·simp[shw,tk,Zo7,h1,h2,aa,hi]
 | n+1,.cut d a x y,r,hn,hs,hr=>by
  simp only[ZbD,Kf,Ko] at hs;obtain⟨⟨ha,hx⟩,hy⟩:=hs;simp only[shw,Kl,Kq,KO] at hn;have aa:=Zcv (n:=a.toNat) o_;have hi:((a.toNat:Nat):Int)=a:=o_
  have e2:=Zh4 n y (41 :: r) o_ hy (fun c t e=>by cases e;rfl);have e1:=Zh4 n x (44 :: (shw y++41 :: r)) o_ hx (fun c t e=>by cases e;rfl);obtain⟨h1,h2⟩:=Zsr a.toNat (r:=40 :: (shw x++44 :: (shw y++41 :: r))) (fun c t e=>by cases e;rfl);have ab:Zo6 d a.toNat (tk n) (40 :: (shw x++44 :: (shw y++41 :: r)))=some (.cut d a x y,r):=by
   simp[Zo6,UO,e1,e2,hi]
  have e:shw (.cut d a x y)++r=(if d then 100 else 97) :: (num a.toNat++40 :: (shw x++44 :: (shw y++41 :: r))):=by simp[shw]
  rw[e,tk];cases d
  ·rw[Kd (by decide),h1,aa,h2];simp only[KS,Zo7];rw[Kd (by decide),Kd (by decide),Kd (by decide),Kg (by decide),ab]
  ·rw[Kd (by decide),h1,aa,h2];simp only[KS,Zo7];rw[Kd (by decide),Kd (by decide),Kg (by decide),ab]
def Zn2 (s:List UInt8):Option BT:=match tk s.length s with
 | some (b,[])=>if b.cnt≤255∧YO b=true then some b else none
 | _=>none
theorem Zh5 {s:List UInt8} {b:BT}:Zn2 s=some b↔s=shw b∧b.cnt≤255∧YO b=true:=by
 unfold Zn2;constructor
 ·intro h;split at h
  ·rename_i b' h1;split at h
   ·rename_i hc;cases h;obtain⟨e,_⟩:=Zh3 _ _ _ _ h1;exact⟨by simpa using e,hc⟩
   ·cases h
  ·cases h
 ·rintro ⟨rfl,hc⟩
  have:=Zh4 (shw b).length b [] (Kr _) (ZbE b hc.2) (fun c t e=>by cases e);rw[KE] at this;rw[this];simp[hc]
theorem ZCh {b:BT} (h:b.cnt≤255) (hc:YO b=true):Zn2 (shw b)=some b:=Zh5.2 ⟨rfl,h,hc⟩
theorem Zx1 (b:BT):∃ o a q t ks,b.plan=.mk o a q t ks:=by cases b.plan;exact⟨_,_,_,_,_,rfl⟩
theorem tdiv10 (n:Nat):((n:Int)).tdiv 10=((n / 10:Nat):Int):=by rw[Int.tdiv_eq_ediv_of_nonneg o_];omega
theorem tmod10 (n:Nat):((n:Int)).tmod 10=((n % 10:Nat):Int):=by rw[Int.tmod_eq_emod_of_nonneg o_];omega
theorem Xb (n:Nat):n≤999999999→v_ 59 [(.d (J n))] []=some (.d (.str (num n)),[]):=by
 induction n using Nat.strongRecOn with
 | ind n ih=>
  intro hn;by_cases h:n<10
  ·rw[VS h];have h' : (n:Int)<10:=o_
   have hw:(n:Int)+1=((n+1:Nat):Int):=o_
   have a3:=wi 3 (by decide) (by decide);have a4:=wi 4 (by decide) (by decide);have a5:=wi 5 (by decide) (by decide);have a6:=wi 6 (by decide) (by decide);have a7:=wi 7 (by decide) (by decide);have a8:=wi 8 (by decide) (by decide);have a9:=wi 9 (by decide) (by decide);have aa:=wi 10 (by decide) (by decide);refine cE ?_;rcases (show n=0∨n=1∨n=2∨n=3∨n=4∨n=5∨n=6∨n=7∨n=8∨n=9 by omega) with rfl | rfl | rfl | rfl | rfl | rfl | rfl | rfl | rfl | rfl<;>simp +contextual -implicitDefEqProofs only[go_sem,seval,Zlm,a3,a4,a5,a6,a7,a8,a9,aa]<;>rfl
  ·have hb:num n=num (n / 10)++num (n % 10):=by rw[Zf7 h,VS (by omega:n % 10<10)]
   rw[hb];have h' : ¬(n:Int)<10:=o_
   have e1:=ih (n / 10) o_ o_;have e2:=ih (n % 10) o_ o_;have l1:=Ye 8 (n / 10) o_;have l2:=Ye 8 (n % 10) o_;have hs:(num (n / 10)).length+(num (n % 10)).length≤1152921504606846976:=o_
   have w1:=wi (n / 10:Nat) o_ o_;refine cE ?_;simp (maxSteps:=10^7) +contextual -implicitDefEqProofs only[go_sem,seval,Zlm,h',tdiv10,tmod10,w1,e1,e2,hs]
theorem Wx:∀ b:BT,v_ 165 [.d b.plan.enc] []=some ((.d (.bool (YO b))),[])
 | .waste=>by
  simp only[BT.plan,YO];refine cE ?_;simp (maxSteps:=10^7) +contextual -implicitDefEqProofs only[go_sem,seval,ZaE,Zu];refine ZE Xs Ms ?_;simp +contextual -implicitDefEqProofs only[go_sem,seval,Zu]
 | .pane i t=>by
  simp only[BT.plan,YO];refine cE ?_;simp (maxSteps:=10^7) +contextual -implicitDefEqProofs only[go_sem,seval,ZaE,Zu];refine ZE Xs Ms ?_;simp +contextual -implicitDefEqProofs only[go_sem,seval,Zu]
 | .cut d a l r=>by
  have e1:=Wx l;have e2:=Wx r;simp only[BT.plan,YO];refine cE ?_;simp (maxSteps:=10^7) +contextual -implicitDefEqProofs only[go_sem,seval,ZaE,Zu];refine ZE Xs Ms ?_;cases hl:YO l with
  | false=>
   rw[hl] at e1;simp +contextual -implicitDefEqProofs only[go_sem,seval,e1]
  | true=>
   rw[hl] at e1;simp +contextual -implicitDefEqProofs only[go_sem,seval,e1];refine ZE Xs Ms ?_;cases hr:YO r with
   | false=>
    rw[hr] at e2;simp +contextual -implicitDefEqProofs only[go_sem,seval,e2]
   | true=>
    rw[hr] at e2;simp +contextual -implicitDefEqProofs only[go_sem,seval,e2];refine ZE Xs Ms ?_;simp +contextual -implicitDefEqProofs only[go_sem,seval,Zu]
theorem Uz:∀ b:BT,v_ 87 [.d b.plan.enc] []=some ((.d (.bool (YO b))),[])
 | .waste=>by
  simp only[BT.plan,YO];refine cE ?_;simp (maxSteps:=10^7) +contextual -implicitDefEqProofs only[go_sem,seval,XZ];refine ZE Xs Ms ?_;simp +contextual -implicitDefEqProofs only[go_sem,seval]
 | .pane i t=>by
  simp only[BT.plan,YO];refine cE ?_;by_cases h1:i<0
  ·have aa : ¬0≤i:=o_
   simp +contextual -implicitDefEqProofs only[go_sem,seval,XZ,h1,aa]
  ·have aa : 0≤i:=o_
   by_cases h2:i>24
   ·have ab : ¬i≤24:=o_
    simp +contextual -implicitDefEqProofs only[go_sem,seval,XZ,h1,aa,h2,ab]
   ·have ab : i≤24:=o_
    simp +contextual -implicitDefEqProofs only[go_sem,seval,XZ,h1,aa,h2,ab];refine ZE Xs Ms ?_;simp +contextual -implicitDefEqProofs only[go_sem,seval]
 | .cut d a l r=>by
  have e1:=Uz l;have e2:=Uz r;obtain⟨o1,a1,q1,t1,k1,ad⟩:=Zx1 l;obtain⟨o2,a2,q2,t2,k2,ae⟩:=Zx1 r;rw[ad,Ze.enc_mk] at e1;rw[ae,Ze.enc_mk] at e2;simp only[BT.plan,YO,ad,ae];refine cE ?_;by_cases h1:a<0
  ·have aa : ¬0≤a:=o_
   simp +contextual -implicitDefEqProofs only[go_sem,seval,XZ,h1,aa]
  ·have aa : 0≤a:=o_
   by_cases h2:a>200
   ·have ab : ¬a≤200:=o_
    simp +contextual -implicitDefEqProofs only[go_sem,seval,XZ,h1,aa,h2,ab]
   ·have ab : a≤200:=o_
    simp +contextual -implicitDefEqProofs only[go_sem,seval,XZ,h1,aa,h2,ab];refine ZE Xs Ms ?_;cases hl:YO l with
    | false=>
     rw[hl] at e1;simp +contextual -implicitDefEqProofs only[go_sem,seval,e1]
    | true=>
     rw[hl] at e1;simp +contextual -implicitDefEqProofs only[go_sem,seval,e1];refine ZE Xs Ms ?_;cases hr:YO r with
     | false=>
      rw[hr] at e2;simp +contextual -implicitDefEqProofs only[go_sem,seval,e2]
     | true=>
      rw[hr] at e2;simp +contextual -implicitDefEqProofs only[go_sem,seval,e2];refine ZE Xs Ms ?_;simp +contextual -implicitDefEqProofs only[go_sem,seval]
theorem Zcw:∀ b:BT,YO b=true→(shw b).length≤13*b.cnt
 | .waste,_=>by simp[shw,BT.cnt]
 | .pane i t,h=>by
  simp only[YO,Ko] at h;have:=Ye 1 i.toNat o_;simp[shw,BT.cnt];omega
 | .cut d a l r,h=>by
  simp only[YO,Kf,Ko] at h;have h1:=Zcw l h.1.2;have h2:=Zcw r h.2;have:=Ye 2 a.toNat o_;simp[shw,BT.cnt];omega
theorem VT:∀ b:BT,YO b=true→b.cnt≤1048576→v_ 115 [.d b.plan.enc] []=some (.d (.str (shw b)),[])
 | .waste,_,_=>by
  simp only[BT.plan,shw];refine cE ?_;simp (maxSteps:=10^7) +contextual -implicitDefEqProofs only[go_sem,seval,ZbP]
 | .pane i t,h,_=>by
  simp only[YO,Ko] at h;have e1:=Xb i.toNat o_;rw[KR h.1] at e1;have l1:=Ye 1 i.toNat o_;have hs:1+(num i.toNat).length≤1152921504606846976:=o_
  simp only[BT.plan,shw];refine cE ?_;cases t<;>simp +contextual -implicitDefEqProofs only[go_sem,seval,ZbP,e1,hs]
 | .cut d a l r,h,hc=>by
  have hL:=Zcw _ h;simp only[YO,Kf,Ko] at h;simp only[BT.cnt] at hc hL;have e1:=Xb a.toNat o_;rw[KR h.1.1.1] at e1;have e2:=VT l h.1.2 o_;have e3:=VT r h.2 o_;have l1:=Ye 2 a.toNat o_;simp only[shw,Kl,Kq,KO] at hL;obtain⟨x,hx⟩:∃ x,num a.toNat=x:=⟨_,rfl⟩
  obtain⟨y,hy⟩:∃ y,shw l=y:=⟨_,rfl⟩
  obtain⟨z,hz⟩:∃ z,shw r=z:=⟨_,rfl⟩
  simp only[BT.plan,shw];rw[hx] at e1 l1 hL ⊢;rw[hy] at e2 hL ⊢;rw[hz] at e3 hL ⊢;have g1:1+x.length≤1152921504606846976:=o_
  have g2:x.length≤1152921504606846974:=o_
  have g3:x.length+1+1+y.length≤1152921504606846976:=o_
  have g4:x.length+1+y.length≤1152921504606846974:=o_
  have g5:x.length+1+y.length+1+1+z.length≤1152921504606846976:=o_
  have g6:x.length+1+y.length+1+z.length≤1152921504606846974:=o_
  refine cE ?_;cases d<;>simp +contextual -implicitDefEqProofs only[go_sem,seval,ZbP,Qb,e1,e2,e3,g1,g2,g3,g4,g5,g6]<;>simp
theorem ZEV (n:Nat):Lib.decDigits n=num n:=by
 induction n using Nat.strongRecOn with
 | ind n ih=>
  rw[Lib.decDigits,num];by_cases h:n<10
  ·rw[dif_pos h,Kg h]
  ·rw[dif_neg h,Kd h,ih (n / 10) o_]
theorem Qg (n:Int) (h0:0≤n) (h1:n≤999999999):v_ 63 [(.d (J n))] []=some (.d (.str (num n.toNat)),[]):=by
 refine Vv Xs Ms Zs8 ?_;unfold ZrT;simp only;rw[Kg ⟨h0,o_⟩,ZEV]
theorem ZY (l:List UInt8) (n:Int) (c:UInt8) (hc:(c.toNat:Int)=n) (hl:l.length≤1000000000):v_ 30 [.ptr 0 0,.d (.int .u8 n)] [.box [.bnil 0 66,.bbuf 5 l]]=some (.nili,[.box [.bnil 0 66,.bbuf 5 (l++[c])]]):=by
 refine Vv Xs Ms ZbO ?_;have aa:=c.toNat_lt;unfold ZrQ;simp only;rw[Kg ⟨trivial,trivial,by unfold Za2;omega,o_,o_⟩];have e:UInt8.ofNat n.toNat=c:=by rw[← hc,Kz,UInt8.ofNat_toNat]
 rw[e]
theorem QO (l s:List UInt8) (h0:0<s.length) (hl:l.length+s.length≤1000000000):v_ 28 [.ptr 0 0,.d (.str s)] [.box [.bnil 0 66,.bbuf 5 l]]=some (.tup [(.d (J (s.length))),.nili],[.box [.bnil 0 66,.bbuf 5 (l++s)]]):=by
 refine Vv Xs Ms ZaU ?_;unfold ZzB;simp only;rw[Kg ⟨trivial,trivial,o_,by unfold Za2;omega⟩]
theorem Wb (l:List UInt8):v_ 31 [.ptr 0 0] [.box [.bnil 0 66,.bbuf 5 l]]=some (.d (.str l),[.box [.bnil 0 66,.junk]]):=by
 refine Vv Xs Ms ZeG ?_;unfold ZrR;simp only;rw[Kg ⟨trivial,trivial⟩]
theorem Zwg (n:Nat):0<(num n).length:=List.length_pos_iff.2 (ZzM n)
theorem Zcx:∀ (b:BT) (l:List UInt8),YO b=true→l.length+(shw b).length≤100000000→v_ 88 [.ptr 0 0,.d b.plan.enc] [.box [.bnil 0 66,.bbuf 5 l]]=some (.tup [],[.box [.bnil 0 66,.bbuf 5 (l++shw b)]])
 | .waste,l,_,hl=>by
  simp only[shw,Kl,KO] at hl;have e1:=ZY l 119 119 rfl o_;simp only[BT.plan,shw];refine cE ?_;simp (maxSteps:=10^7) +contextual -implicitDefEqProofs only[go_sem,seval,VX,e1]
 | .pane i t,l,h,hl=>by
  simp only[YO,Ko] at h;simp only[shw,Kl] at hl;have e2:=Qg i h.1 o_;have l1:=Zwg i.toNat;simp only[BT.plan,shw];refine cE ?_;cases t with
  | false=>
   have e1:=ZY l 112 112 rfl o_;have e3:=QO (l++[112]) (num i.toNat) l1 (by simp;omega);simp +contextual -implicitDefEqProofs only[go_sem,seval,VX,e1,e2,e3];simp
  | true=>
   have e1:=ZY l 116 116 rfl o_;have e3:=QO (l++[116]) (num i.toNat) l1 (by simp;omega);simp +contextual -implicitDefEqProofs only[go_sem,seval,VX,e1,e2,e3];simp
 | .cut d a x y,l,h,hl=>by
  simp only[YO,Kf,Ko] at h;simp only[shw,Kl,Kq,KO] at hl;have l1:=Zwg a.toNat;have aa:∀ (n:Int) (c:UInt8),(c.toNat:Int)=n→True:=fun _ _ _=>trivial;have e2:=Qg a h.1.1.1 o_;have g1:=ZY l (if d then 100 else 97) (if d then 100 else 97) (by cases d<;>rfl) o_;have g2:=QO (l++[if d then 100 else 97]) (num a.toNat) l1 (by simp;omega);have g3:=ZY (l++[if d then 100 else 97]++num a.toNat) 40 40 rfl (by simp;omega);have g4:=Zcx x (l++[if d then 100 else 97]++num a.toNat++[40]) h.1.2 (by simp;omega);have g5:=ZY (l++[if d then 100 else 97]++num a.toNat++[40]++shw x) 44 44 rfl (by simp;omega)
  have g6:=Zcx y (l++[if d then 100 else 97]++num a.toNat++[40]++shw x++[44]) h.2 (by simp;omega);have g7:=ZY (l++[if d then 100 else 97]++num a.toNat++[40]++shw x++[44]++shw y) 41 41 rfl (by simp;omega);simp only[BT.plan,shw];refine cE ?_;cases d with
  | true=>
   simp only[Km] at g1 g2 g3 g4 g5 g6 g7;simp +contextual -implicitDefEqProofs only[go_sem,seval,VX,Qb,e2,g1,g2,g3,g4,g5,g6,g7];simp
  | false=>
   simp only[Ka,Kn] at g1 g2 g3 g4 g5 g6 g7;simp +contextual -implicitDefEqProofs only[go_sem,seval,VX,Qb,e2,g1,g2,g3,g4,g5,g6,g7];simp
def ZzO (p:Ze):List UInt8:=match QS p with
 | some b=>if b.cnt≤255∧YO b=true then shw b else []
 | none=>[]
theorem Zu1 {p:Ze} (h:QS p=none):ZzO p=[]:=by unfold ZzO;rw[h]
theorem Zn3 {p:Ze} {b:BT} (h:QS p=some b):ZzO p=if b.cnt≤255∧YO b=true then shw b else []:=by unfold ZzO;rw[h]
theorem ZpT (p:Ze):v_ 42 [.d p.enc] []=some (.d (.str (ZzO p)),[]):=by
 have e1:=Zd2 p;cases hp:QS p with
 | none=>
  rw[Zu1 hp];rw[hp,show Zt 255 none=-1 from rfl] at e1;obtain⟨o,a,q,t,ks⟩:=p;rw[Ze.enc_mk] at e1 ⊢;refine cE ?_;simp (maxSteps:=10^7) +contextual -implicitDefEqProofs only[go_sem,seval,WE,e1]
 | some b=>
  rw[Zn3 hp];rw[hp] at e1;obtain rfl:=WP hp;have e2:=Uz b;rcases QV 255 b with ⟨hc,hs⟩ | ⟨hc,hs⟩
  ·rw[hs] at e1;have h0:¬(b.cnt:Int)<0:=o_
   cases hb:YO b with
   | false=>
    rw[hb] at e2;rw[Kd (fun h=>by cases h.2)];obtain⟨o,a,q,t,ks,hk⟩:=Zx1 b;rw[hk,Ze.enc_mk] at e1 e2 ⊢;refine cE ?_;simp (maxSteps:=10^7) +contextual -implicitDefEqProofs only[go_sem,seval,WE,e1,e2,h0]
   | true=>
    rw[hb] at e2;rw[Kg ⟨o_,rfl⟩];have hl:=Zcw b hb;have e3:=Zcx b [] hb (by simp;omega);have e4:=Wb ([]++shw b);obtain⟨o,a,q,t,ks,hk⟩:=Zx1 b;rw[hk,Ze.enc_mk] at e1 e2 e3 ⊢;rw[K6] at e3 e4;refine cE ?_;simp (maxSteps:=10^7) +contextual -implicitDefEqProofs only[go_sem,seval,WE,e1,e2,e3,e4,h0]
  ·rw[hs] at e1;rw[Kd (fun h=>by omega)];obtain⟨o,a,q,t,ks,hk⟩:=Zx1 b;rw[hk,Ze.enc_mk] at e1 ⊢;refine cE ?_;simp (maxSteps:=10^7) +contextual -implicitDefEqProofs only[go_sem,seval,WE,e1]
theorem Zwh (x c:UInt8) (r:List UInt8) (hr:r.length≤1000000000):v_ 248 [.d (.str (x :: r)),.d (.str [c])] []=some ((.d (.bool ([x]==[c]))),[]):=by
 have h1:(1:Int)≤((r.length+1:Nat):Int):=o_
 refine cE ?_;simp (maxSteps:=10^7) +contextual -implicitDefEqProofs only[go_sem,seval,Xv,h1]
theorem Ztw (c:UInt8):v_ 248 [.d (.str []),.d (.str [c])] []=some ((.d (.bool false)),[]):=by
 refine cE ?_;simp (maxSteps:=10^7) +contextual -implicitDefEqProofs only[go_sem,seval,Xv]
def Zwi (s:List UInt8) (c:UInt8):AV:=match UO c s with
 | some r=>.tup [.d (.str r),(.d (.bool true))]
 | none=>.tup [.d (.str s),(.d (.bool false))]
theorem Zd3 (s:List UInt8) (c:UInt8) (hr:s.length≤1000000000):v_ 240 [.d (.str s),.d (.str [c])] []=some (Zwi s c,[]):=by
 cases s with
 | nil=>
  have e1:=Ztw c;simp only[Zwi,UO];refine cE ?_;simp (maxSteps:=10^7) +contextual -implicitDefEqProofs only[go_sem,seval,QC,e1]
 | cons x r=>
  have e1:=Zwh x c r (by simp at hr;omega);by_cases h:x=c
  ·subst h;simp only[Zwi,UO,Km];rw[show ([x]==[x])=true by simp] at e1;have h1:(1:Int)≤((r.length+1:Nat):Int):=o_
   have h2:r.take r.length=r:=KI;refine cE ?_;simp (maxSteps:=10^7) +contextual -implicitDefEqProofs only[go_sem,seval,QC,e1,h1,h2]
  ·rw[show ([x]==[c])=false by simp[h]] at e1;simp only[Zwi,UO,Kd h];refine cE ?_;simp (maxSteps:=10^7) +contextual -implicitDefEqProofs only[go_sem,seval,QC,e1]
theorem Wy (s:List UInt8) (c:UInt8) (hr:s.length≤1000000000):v_ 216 [.d (.str s),.d (.str [c])] []=some (Zwi s c,[]):=by
 have e1:=Zd3 s c hr;unfold Zwi at e1 ⊢;cases h:UO c s with
 | none=>
  rw[h] at e1;refine cE ?_;simp (maxSteps:=10^7) +contextual -implicitDefEqProofs only[go_sem,seval,W9,e1]
 | some r=>
  rw[h] at e1;refine cE ?_;simp (maxSteps:=10^7) +contextual -implicitDefEqProofs only[go_sem,seval,W9,e1]
theorem wu8 (x:Int) (h0:0≤x) (h1:x<256):IntKind.u8.wrap x=x:=by
 unfold IntKind.wrap;simp[IntKind.bits,IntKind.signed];omega
theorem rd_of {s:List UInt8} (h:Zu0 s):rd s=some (val s):=by unfold rd;rw[Kg h]
theorem Zss {s:List UInt8} (h:¬Zu0 s):rd s=none:=by unfold rd;rw[Kd h]
theorem ZdC (c:UInt8):isD c=true↔¬(c.toNat:Int)<48∧¬(57:Int)<(c.toNat:Int):=by
 simp only[isD,Ko];omega
theorem Zx2 {s:List UInt8} {k:Nat} {c:UInt8} (h:s[k]?=some c):val (s.take (k+1))=10*val (s.take k)+(c.toNat-48):=by
 obtain⟨hk,he⟩:=Kc.1 h;rw[Lu hk,Zmq,he]
def Zf8:Option Nat→AV
 | some v=>.tup [(.d (J ((v:Nat)))),(.d (.bool true))]
 | none=>.tup [(.d (J 0)),(.d (.bool false))]
theorem UA (s:List UInt8):v_ 119 [.d (.str s)] []=some (Zf8 (rd s),[]):=by
 by_cases h0:s=[]
 ·subst h0;rw[Zss (fun h=>h.1 rfl)];simp only[Zf8];refine cE ?_;simp (maxSteps:=10^7) +contextual -implicitDefEqProofs only[go_sem,seval,WI]
 by_cases h6:s.length≤6
 ·obtain⟨x,r,hs⟩:=List.exists_cons_of_ne_nil h0;have al:s.length=r.length+1:=by rw[hs];rfl
  have ag : ¬(6:Int)<((r.length+1:Nat):Int):=o_
  have hb:(x :: r==[])=false:=rfl;have ae:(x.toNat:Int)=48↔x=48:=by
   constructor
   ·intro h;apply UInt8.toNat_inj.1;simpa using (by omega:x.toNat=48)
   ·rintro rfl;rfl
  by_cases hz:(x.toNat:Int)=48∧(1:Int)<((r.length+1:Nat):Int)
  ·rw[Zss (fun h=>by
    rcases h.2.2.1 with h | h
    ·rw[hs] at h;exact h (by rw[ae.1 hz.1];rfl)
    ·omega)]
   simp only[Zf8];obtain⟨am,an⟩:=hz;rw[hs];refine cE ?_;simp (maxSteps:=10^7) +contextual -implicitDefEqProofs only[go_sem,seval,WI,ag,hb,am,an]
  ·have af:s.head?≠some 48∨s.length=1:=by
    by_cases hl:s.length=1
    ·exact .inr hl
    ·refine .inl ?_;rw[hs];intro h;simp only[List.head?_cons,Option.some.injEq] at h;exact hz ⟨ae.2 h,o_⟩
   generalize aa:Zf8 (rd s)=res;rw[hs];refine cE ?_;simp (maxSteps:=10^7) +contextual -implicitDefEqProofs only[go_sem,seval,WI,ag,hb,hz];rw[← hs,show r.length+1=s.length by omega];refine LO (α:=Nat) (fun k=>[(25,.d (J (k:Int))),(4,.d (J (val (s.take k):Nat)))]) (fun _=>[]) (fun k=>k≤s.length∧∀ c∈s.take k,isD c=true) (fun k=>s.length-k) 0 (by simp) ?_;intro k ⟨hk,hd⟩ ih;have hv:=ZzN k (s.take k) (by simp;omega) hd;have hp:10 ^ k≤10 ^ 6:=Nat.pow_le_pow_right (by decide) o_;by_cases aj:k<s.length
   ·obtain⟨c,hc⟩:∃ c,s[k]?=some c:=⟨_,Kw aj⟩
    have ab : (k:Int)<(s.length:Int):=o_
    by_cases hD:isD c=true
    ·have ak:=(ZdC c).1 hD;have au:(48:Int)≤c.toNat∧(c.toNat:Int)≤57:=o_
     have w1:=wi (10*(val (s.take k):Nat)) o_ o_;have w2:=wu8 ((c.toNat:Int)-48) o_ o_;have w3:=wi ((c.toNat:Int)-48) o_ o_;have w4:IntKind.i64.wrap (10*(val (s.take k):Nat)+((c.toNat:Int)-48))=((val (s.take (k+1)):Nat):Int):=by
      rw[wi _ o_ o_,Zx2 hc];omega
     have w5:=Zg (k:=k) o_;simp +contextual -implicitDefEqProofs only[go_sem,seval,ab,hc,ak.1,ak.2,w1,w2,w3,w4,w5];refine ih (k+1) _ ⟨o_,fun d ad=>?_⟩ o_ ?_
     ·rw[Lu aj] at ad;rcases Kj.1 ad with ad | ad
      ·exact hd d ad
      ·simp only[KD] at ad;rw[ad,← (Kc.1 hc).2] at *;exact hD
     ·simp +contextual -implicitDefEqProofs only[go_sem,seval]
    ·have ao:rd s=none:=Zss fun h=>hD (h.2.2.2 c (Kb hc));rw[ao] at aa;simp only[Zf8] at aa;subst aa;by_cases ah:(c.toNat:Int)<48
     ·simp +contextual -implicitDefEqProofs only[go_sem,seval,ab,hc,ah]
     ·have ap:(57:Int)<(c.toNat:Int):=Classical.byContradiction fun h=>hD ((ZdC c).2 ⟨ah,h⟩);simp +contextual -implicitDefEqProofs only[go_sem,seval,ab,hc,ah,ap]
   ·have aq:k=s.length:=o_
    subst aq;rw[KI] at hd;have ai:rd s=some (val s):=rd_of ⟨h0,h6,af,hd⟩;rw[ai] at aa;simp only[Zf8] at aa;subst aa;have ht:s.take s.length=s:=KI;have ar:¬(s.length:Int)<(s.length:Int):=o_
    simp +contextual -implicitDefEqProofs only[go_sem,seval,ht,ar]
 ·have ag : (6:Int)<(s.length:Int):=o_
  have hb:(s==[])=false:=by
   cases s with
   | nil=>exact absurd rfl h0
   | cons x r=>rfl
  rw[Zss (fun h=>h6 h.2.1)];simp only[Zf8];refine cE ?_;simp (maxSteps:=10^7) +contextual -implicitDefEqProofs only[go_sem,seval,WI,ag,hb]
theorem ZDG {p:UInt8→Bool}:∀ {s:List UInt8} {k:Nat},k<(s.takeWhile p).length→∃ c,s[k]?=some c∧p c=true
 | [],k,h=>by simp at h
 | x :: s,k,h=>by
  by_cases hx:p x=true
  ·rw[List.takeWhile_cons_of_pos hx] at h;cases k with
   | zero=>exact⟨x,rfl,hx⟩
   | succ k=>simpa using ZDG (s:=s) (k:=k) (by simpa using h)
  ·rw[List.takeWhile_cons_of_neg hx] at h;simp at h
theorem ZzP {p:UInt8→Bool}:∀ {s:List UInt8},(s.takeWhile p).length=s.length∨∃ c,s[(s.takeWhile p).length]?=some c∧¬p c=true
 | []=>.inl rfl
 | x :: s=>by
  by_cases hx:p x=true
  ·rw[List.takeWhile_cons_of_pos hx];rcases ZzP (p:=p) (s:=s) with h | ⟨c,h,h'⟩
   ·exact .inl (by simp[h])
   ·exact .inr ⟨c,by simpa using h,h'⟩
  ·rw[List.takeWhile_cons_of_neg hx];exact .inr ⟨x,rfl,hx⟩
theorem ZDH {p:UInt8→Bool} (s:List UInt8):(s.takeWhile p).length≤s.length:=List.IsPrefix.length_le (List.takeWhile_prefix p)
theorem ZA2 (p:UInt8→Bool) (s:List UInt8):s.take (s.takeWhile p).length=s.takeWhile p:=by
 conv=>lhs;rw[← LM (p:=p) (l:=s),LM]
 exact(List.prefix_iff_eq_take.1 (List.takeWhile_prefix p)).symm
theorem ZEW (p:UInt8→Bool) (s:List UInt8):s.drop (s.takeWhile p).length=s.dropWhile p:=by
 have h:=LM (p:=p) (l:=s)
 conv=>lhs;arg 2;rw[← h]
 rw[List.drop_left]
def tnV (s:List UInt8):AV:=match rd (s.takeWhile isD) with
 | some v=>.tup [(.d (J ((v:Nat)))),.d (.str (s.dropWhile isD)),(.d (.bool true))]
 | none=>.tup [(.d (J 0)),.d (.str (s.dropWhile isD)),(.d (.bool false))]
theorem ZpU (s:List UInt8) (hs:s.length≤1048576):v_ 215 [.d (.str s)] []=some (tnV s,[]):=by
 have ai:=ZDH (p:=isD) s;generalize aa:tnV s=res;refine cE ?_;simp (maxSteps:=10^7) +contextual -implicitDefEqProofs only[go_sem,seval,ZiY];refine LO (α:=Nat) (fun k=>[(5,.d (J (k:Int)))]) (fun _=>[]) (fun k=>k≤(s.takeWhile isD).length) (fun k=>s.length-k) 0 o_ ?_;intro k hk ih;have w5:=Zg (k:=k) o_;have e1:=UA (s.takeWhile isD);have d1:=ZA2 isD s;have d2:=ZEW isD s;have d3:s.take s.length=s:=KI;by_cases ab:k<(s.takeWhile isD).length
 ·obtain⟨c,hc,hD⟩:=ZDG ab;have ae : (k:Int)<(s.length:Int):=o_
  have aj:=(ZdC c).1 hD;have h1:(48:Int)≤c.toNat:=o_
  have h2:(c.toNat:Int)≤57:=o_
  simp +contextual -implicitDefEqProofs only[go_sem,seval,ae,hc,h1,h2,w5];refine ih (k+1) _ o_ o_ ?_;simp +contextual -implicitDefEqProofs only[go_sem,seval]
 ·have ag:k=(s.takeWhile isD).length:=o_
  subst ag;unfold tnV at aa;have ad:((s.takeWhile isD).length:Int)≤(s.length:Int):=o_
  rcases ZzP (p:=isD) (s:=s) with h | ⟨c,hc,hD⟩
  ·have af:¬((s.takeWhile isD).length:Int)<(s.length:Int):=o_
   cases hr:rd (s.takeWhile isD) with
   | none=>
    rw[hr] at aa e1;simp only[Zf8] at e1 aa;subst aa;simp +contextual -implicitDefEqProofs only[go_sem,seval,af,ad,e1,d1,d2,d3]
   | some v=>
    rw[hr] at aa e1;simp only[Zf8] at e1 aa;subst aa;simp +contextual -implicitDefEqProofs only[go_sem,seval,af,ad,e1,d1,d2,d3]
  ·have ab:((s.takeWhile isD).length:Int)<(s.length:Int):=by have:=(Kc.1 hc).1;omega
   have ah:¬((48:Int)≤c.toNat∧(c.toNat:Int)≤57):=fun h=>hD ((ZdC c).2 o_);by_cases h1:(48:Int)≤c.toNat
   ·have h2:¬(c.toNat:Int)≤57:=fun h=>ah ⟨h1,h⟩;cases hr:rd (s.takeWhile isD) with
    | none=>
     rw[hr] at aa e1;simp only[Zf8] at e1 aa;subst aa;simp +contextual -implicitDefEqProofs only[go_sem,seval,ab,hc,h1,h2,ad,e1,d1,d2,d3]
    | some v=>
     rw[hr] at aa e1;simp only[Zf8] at e1 aa;subst aa;simp +contextual -implicitDefEqProofs only[go_sem,seval,ab,hc,h1,h2,ad,e1,d1,d2,d3]
   ·cases hr:rd (s.takeWhile isD) with
    | none=>
     rw[hr] at aa e1;simp only[Zf8] at e1 aa;subst aa;simp +contextual -implicitDefEqProofs only[go_sem,seval,ab,hc,h1,ad,e1,d1,d2,d3]
    | some v=>
     rw[hr] at aa e1;simp only[Zf8] at e1 aa;subst aa;simp +contextual -implicitDefEqProofs only[go_sem,seval,ab,hc,h1,ad,e1,d1,d2,d3]
def TkR (res:Option (AV×List Zm)) (m:Option (BT×List UInt8)):Prop:=∃ (o a q:Int) (t:Bool) (ks:List Ze) (r:List UInt8) (ok:Bool),
 res=some (.tup [.agg [(.d (J o)),(.d (J a)),(.d (J q)),(.d (.bool t)),.own 0],.d (.str r),(.d (.bool ok))],[plO ks])∧(match m with | some (b,r')=>ok=true∧b.plan=.mk o a q t ks∧r'=r | none=>ok=false)
theorem Zf9 {res:Option (AV×List Zm)} {o a q:Int} {t:Bool} {ks:List Ze} {r:List UInt8} (h:res=some (.tup [.agg [(.d (J o)),(.d (J a)),(.d (J q)),(.d (.bool t)),.own 0],.d (.str r),(.d (.bool false))],[plO ks])):TkR res none:=⟨o,a,q,t,ks,r,false,h,rfl⟩
theorem Zqh {res:Option (AV×List Zm)} {b:BT} {o a q:Int} {t:Bool} {ks:List Ze} {r:List UInt8} (hb:b.plan=.mk o a q t ks) (h:res=some (.tup [.agg [(.d (J o)),(.d (J a)),(.d (J q)),(.d (.bool t)),.own 0],.d (.str r),(.d (.bool true))],[plO ks])):TkR res (some (b,r)):=⟨o,a,q,t,ks,r,true,h,rfl,hb,rfl⟩
theorem Zdi (c:UInt8) {k:Int} (d:UInt8) (hd:(d.toNat:Int)=k):(c.toNat:Int)=k↔c=d:=by
 constructor
 ·intro h;apply UInt8.toNat_inj.1;omega
 ·rintro rfl;exact hd
theorem ZDI (n:Nat):tk n []=none:=by cases n<;>rfl
theorem Ztx:∀ (n:Nat) (s:List UInt8),s.length≤n→s.length≤1048576→TkR (v_ 171 [.d (.str s)] []) (tk n s):=by
 intro n
 induction n with
 | zero=>
  intro s hs _;obtain rfl:=Kt (Nat.le_zero.1 hs);rw[ZDI];refine Zf9 (o:=0) (a:=0) (q:=0) (t:=false) (ks:=[]) (r:=[]) ?_;refine cE ?_;simp (maxSteps:=10^7) +contextual -implicitDefEqProofs (maxSteps:=10^7) only[go_sem,seval,ZT]
 | succ n IH=>
  intro s hs al;cases s with
  | nil=>
   rw[ZDI];refine Zf9 (o:=0) (a:=0) (q:=0) (t:=false) (ks:=[]) (r:=[]) ?_;refine cE ?_;simp (maxSteps:=10^7) +contextual -implicitDefEqProofs (maxSteps:=10^7) only[go_sem,seval,ZT]
  | cons c s=>
   simp only[Kl] at hs al;have hb:(c :: s==[])=false:=rfl;have d3:s.take s.length=s:=KI;have aa:(1:Int)≤((s.length+1:Nat):Int):=o_
   have e1:=ZpU s o_;by_cases c1:c=119
   ·have n1:(c.toNat:Int)=119:=(Zdi c 119 rfl).2 c1;have am:tk (n+1) (c :: s)=some (.waste,s):=by rw[tk,Kg c1]
    rw[am];refine Zqh (b:=.waste) rfl ?_;refine cE ?_;simp (maxSteps:=10^7) +contextual -implicitDefEqProofs (maxSteps:=10^7) only[go_sem,seval,ZT,hb,d3,aa,n1]
   have n1:¬(c.toNat:Int)=119:=fun h=>c1 ((Zdi c 119 rfl).1 h);rw[tk,Kd c1];cases hr:rd (s.takeWhile isD) with
   | none=>
    simp only[tnV,hr] at e1;refine Zf9 (o:=0) (a:=0) (q:=0) (t:=false) (ks:=[]) (r:=[]) ?_;refine cE ?_;simp (maxSteps:=10^7) +contextual -implicitDefEqProofs (maxSteps:=10^7) only[go_sem,seval,ZT,hb,d3,aa,n1,e1]
   | some v=>
    simp only[tnV,hr] at e1;have hv:=(Uy hr).2;obtain⟨r1,ah⟩:∃ r1,s.dropWhile isD=r1:=⟨_,rfl⟩
    rw[ah] at e1;have ap:r1.length≤s.length:=by rw[← ah];exact List.IsSuffix.length_le (List.dropWhile_suffix isD)
    simp only[KS,ah];by_cases c2:c=112
    ·have n2:(c.toNat:Int)=112:=(Zdi c 112 rfl).2 c2;have n3:¬(c.toNat:Int)=116:=o_
     rw[Zo7,Kg c2];refine Zqh (b:=.pane v false) rfl ?_;refine cE ?_;simp (maxSteps:=10^7) +contextual -implicitDefEqProofs (maxSteps:=10^7) only[go_sem,seval,ZT,hb,d3,aa,n1,n2,n3,e1]
    have n2:¬(c.toNat:Int)=112:=fun h=>c2 ((Zdi c 112 rfl).1 h);rw[Zo7,Kd c2];by_cases c3:c=116
    ·have n3:(c.toNat:Int)=116:=(Zdi c 116 rfl).2 c3;rw[Kg c3];refine Zqh (b:=.pane v true) rfl ?_;refine cE ?_;simp (maxSteps:=10^7) +contextual -implicitDefEqProofs (maxSteps:=10^7) only[go_sem,seval,ZT,hb,d3,aa,n1,n2,n3,e1]
    have n3:¬(c.toNat:Int)=116:=fun h=>c3 ((Zdi c 116 rfl).1 h);rw[Kd c3];have ad:∀ d:Bool,(if d then (c.toNat:Int)=100 else ¬(c.toNat:Int)=100∧(c.toNat:Int)=97)→TkR (v_ 171 [.d (.str (c :: s))] []) (Zo6 d v (tk n) r1):=by
     intro d hd;have k1:=Wy r1 40 o_;unfold Zo6 Zwi at *;cases h40:UO 40 r1 with
     | none=>
      simp only[h40] at k1;simp only[L4];obtain⟨o1,a1,q1,t1,ab,r3,an,i1,_⟩:=IH r1 o_ o_;refine Zf9 (o:=0) (a:=0) (q:=0) (t:=false) (ks:=[]) (r:=[]) ?_;refine cE ?_;cases d with
      | true=>
       simp only[Km] at hd;cases ab<;>simp +contextual -implicitDefEqProofs (maxSteps:=10^7) only[go_sem,seval,ZT,hb,d3,aa,n1,n2,n3,e1,hd,k1,i1]
      | false=>
       simp only[Ka,Kn] at hd;cases ab<;>simp +contextual -implicitDefEqProofs (maxSteps:=10^7) only[go_sem,seval,ZT,hb,d3,aa,n1,n2,n3,e1,hd.1,hd.2,k1,i1]
     | some r2=>
      simp only[h40] at k1;simp only[KS];have x2:=ZaM h40;have ai:r2.length≤n∧r2.length≤1048576:=by
       have:r1.length=r2.length+1:=by rw[x2];rfl
       omega
      obtain⟨o1,a1,q1,t1,ab,r3,an,i1,m1⟩:=IH r2 ai.1 ai.2;cases h2:tk n r2 with
      | none=>
       rw[h2] at m1;simp only at m1;subst m1;simp only[L4];refine Zf9 (o:=0) (a:=0) (q:=0) (t:=false) (ks:=[]) (r:=[]) ?_;refine cE ?_;cases d with
       | true=>
        simp only[Km] at hd;cases ab<;>simp +contextual -implicitDefEqProofs (maxSteps:=10^7) only[go_sem,seval,ZT,hb,d3,aa,n1,n2,n3,e1,hd,k1,i1]
       | false=>
        simp only[Ka,Kn] at hd;cases ab<;>simp +contextual -implicitDefEqProofs (maxSteps:=10^7) only[go_sem,seval,ZT,hb,d3,aa,n1,n2,n3,e1,hd.1,hd.2,k1,i1]
      | some p1=>
       obtain⟨b1,af⟩:=p1;rw[h2] at m1;simp only at m1;obtain⟨rfl,hb1,rfl⟩:=m1;simp only[KS];have s1:=(Zh3 n r2 b1 af h2).1;have aj:af.length≤n∧af.length≤1048576:=by
        have:r2.length=(shw b1).length+af.length:=by rw[s1,Kq]
        omega
       have k2:=Wy af 44 o_;unfold Zwi at k2;cases h44:UO 44 af with
       | none=>
        simp only[h44] at k2;simp only[L4];obtain⟨o2,a2,q2,t2,ae,r5,ao,i2,_⟩:=IH af aj.1 aj.2;refine Zf9 (o:=0) (a:=0) (q:=0) (t:=false) (ks:=[]) (r:=[]) ?_;refine cE ?_;cases d with
        | true=>
         simp only[Km] at hd;cases ab<;>cases ae<;>simp +contextual -implicitDefEqProofs (maxSteps:=10^7) only[go_sem,seval,ZT,hb,d3,aa,n1,n2,n3,e1,hd,k1,i1,k2,i2]
        | false=>
         simp only[Ka,Kn] at hd;cases ab<;>cases ae<;>simp +contextual -implicitDefEqProofs (maxSteps:=10^7) only[go_sem,seval,ZT,hb,d3,aa,n1,n2,n3,e1,hd.1,hd.2,k1,i1,k2,i2]
       | some r4=>
        simp only[h44] at k2;simp only[KS];have x4:=ZaM h44;have ak:r4.length≤n∧r4.length≤1048576:=by
         have:af.length=r4.length+1:=by rw[x4];rfl
         omega
        obtain⟨o2,a2,q2,t2,ae,r5,ao,i2,m2⟩:=IH r4 ak.1 ak.2;cases h4:tk n r4 with
        | none=>
         rw[h4] at m2;simp only at m2;subst m2;simp only[L4];refine Zf9 (o:=0) (a:=0) (q:=0) (t:=false) (ks:=[]) (r:=[]) ?_;refine cE ?_;cases d with
         | true=>
          simp only[Km] at hd;cases ab<;>cases ae<;>simp +contextual -implicitDefEqProofs (maxSteps:=10^7) only[go_sem,seval,ZT,hb,d3,aa,n1,n2,n3,e1,hd,k1,i1,k2,i2]
         | false=>
          simp only[Ka,Kn] at hd;cases ab<;>cases ae<;>simp +contextual -implicitDefEqProofs (maxSteps:=10^7) only[go_sem,seval,ZT,hb,d3,aa,n1,n2,n3,e1,hd.1,hd.2,k1,i1,k2,i2]
        | some p2=>
         obtain⟨b2,ag⟩:=p2;rw[h4] at m2;simp only at m2;obtain⟨rfl,hb2,rfl⟩:=m2;simp only[KS];have s2:=(Zh3 n r4 b2 ag h4).1;have aq:ag.length≤1048576:=by
          have:r4.length=(shw b2).length+ag.length:=by rw[s2,Kq]
          omega
         have k3:=Wy ag 41 o_;unfold Zwi at k3;cases h41:UO 41 ag with
         | none=>
          simp only[h41] at k3;simp only[L4];refine Zf9 (o:=Qb d) (a:=v) (q:=0) (t:=false) (ks:=[.mk o1 a1 q1 t1 ab,.mk o2 a2 q2 t2 ae]) (r:=ag) ?_;refine cE ?_;cases d with
          | true=>
           simp only[Km] at hd;cases ab<;>cases ae<;>simp +contextual -implicitDefEqProofs (maxSteps:=10^7) only[go_sem,seval,ZT,hb,d3,aa,n1,n2,n3,e1,hd,k1,i1,k2,i2,k3,Qb]
          | false=>
           simp only[Ka,Kn] at hd;cases ab<;>cases ae<;>simp +contextual -implicitDefEqProofs (maxSteps:=10^7) only[go_sem,seval,ZT,hb,d3,aa,n1,n2,n3,e1,hd.1,hd.2,k1,i1,k2,i2,k3,Qb]
         | some r6=>
          simp only[h41] at k3;simp only[KS];refine Zqh (b:=.cut d v b1 b2) (o:=Qb d) (a:=v) (q:=0) (t:=false) (ks:=[.mk o1 a1 q1 t1 ab,.mk o2 a2 q2 t2 ae]) (by rw[BT.plan,hb1,hb2]) ?_;refine cE ?_;cases d with
          | true=>
           simp only[Km] at hd;cases ab<;>cases ae<;>simp +contextual -implicitDefEqProofs (maxSteps:=10^7) only[go_sem,seval,ZT,hb,d3,aa,n1,n2,n3,e1,hd,k1,i1,k2,i2,k3,Qb]
          | false=>
           simp only[Ka,Kn] at hd;cases ab<;>cases ae<;>simp +contextual -implicitDefEqProofs (maxSteps:=10^7) only[go_sem,seval,ZT,hb,d3,aa,n1,n2,n3,e1,hd.1,hd.2,k1,i1,k2,i2,k3,Qb]
    by_cases c4:c=100
    ·have n4:(c.toNat:Int)=100:=(Zdi c 100 rfl).2 c4;rw[Kg c4];exact ad true n4
    have n4:¬(c.toNat:Int)=100:=fun h=>c4 ((Zdi c 100 rfl).1 h);rw[Kd c4];by_cases c5:c=97
    ·have n5:(c.toNat:Int)=97:=(Zdi c 97 rfl).2 c5;rw[Kg c5];exact ad false ⟨n4,n5⟩
    have n5:¬(c.toNat:Int)=97:=fun h=>c5 ((Zdi c 97 rfl).1 h);rw[Kd c5];refine Zf9 (o:=0) (a:=0) (q:=0) (t:=false) (ks:=[]) (r:=[]) ?_;refine cE ?_;simp (maxSteps:=10^7) +contextual -implicitDefEqProofs (maxSteps:=10^7) only[go_sem,seval,ZT,hb,d3,aa,n1,n2,n3,n4,n5,e1]
def Ze9 (s:List UInt8):Option BT:=if s.length≤1600 then Zn2 s else none
def PrR (res:Option (AV×List Zm)) (m:Option BT):Prop:=∃ (o a q:Int) (t:Bool) (ks:List Ze),
 res=some (.tup [.agg [(.d (J o)),(.d (J a)),(.d (J q)),(.d (.bool t)),.own 0],(.d (.bool (m.isSome)))],[.row 5 (ks.map Ze.enc) true false])∧Ze.mk o a q t ks=(m.getD .waste).plan
theorem Zk1 {res:Option (AV×List Zm)} (h:res=some (.tup [.agg [(.d (J 0)),(.d (J 0)),(.d (J 0)),(.d (.bool false)),.own 0],(.d (.bool false))],[.row 5 [] true false])):PrR res none:=⟨0,0,0,false,[],h,rfl⟩
def PrT (res:Option (AV×List Zm)) (m:Option BT):Prop:=∃ (o a q:Int) (t:Bool) (ks:List Ze),
 res=some (.tup [.agg [(.d (J o)),(.d (J a)),(.d (J q)),(.d (.bool t)),.own 0],(.d (.bool (m.isSome)))],[plO ks])∧Ze.mk o a q t ks=(m.getD .waste).plan
theorem Zst {res:Option (AV×List Zm)} (h:res=some (.tup [.agg [(.d (J 0)),(.d (J 0)),(.d (J 0)),(.d (.bool false)),.own 0],(.d (.bool false))],[.row 5 [] true false])):PrT res none:=⟨0,0,0,false,[],h,rfl⟩
theorem Zh6 (s:List UInt8) (hs:s.length≤1048576):PrT (v_ 120 [.d (.str s)] []) (Ze9 s):=by
 unfold Ze9;by_cases hl:s.length≤1600
 ·rw[Kg hl];have aa : ¬(1600:Int)<(s.length:Int):=o_
  obtain⟨o,a,q,t,ks,r,ok,e1,m1⟩:=Ztx s.length s (Kr _) hs;unfold Zn2;cases h1:tk s.length s with
  | none=>
   rw[h1] at m1;simp only at m1;subst m1;refine Zst ?_;refine cE ?_;cases ks<;>simp +contextual -implicitDefEqProofs only[go_sem,seval,Xk,aa,e1]
  | some p1=>
   obtain⟨b,r'⟩:=p1;rw[h1] at m1;simp only at m1;obtain⟨rfl,hb,rfl⟩:=m1;cases r' with
   | cons x r2=>
    have hx:(x :: r2==[])=false:=rfl;refine Zst ?_;refine cE ?_;cases ks<;>simp +contextual -implicitDefEqProofs only[go_sem,seval,Xk,aa,e1,hx]
   | nil=>
    have e2:=Zd2 b.plan;have e3:=Uz b;rw[XG] at e2;rw[hb,Ze.enc_mk] at e2 e3;show PrT _ (if b.cnt≤255∧YO b=true then some b else none);rcases QV 255 b with ⟨hc,hz⟩ | ⟨hc,hz⟩
    ·rw[hz] at e2;have h0:¬(b.cnt:Int)<0:=o_
     cases hcb:YO b with
     | false=>
      rw[hcb] at e3;rw[Kd (fun h=>by cases h.2)];refine Zst ?_;refine cE ?_;by_cases hk:ks=[]
      ·subst hk;simp only[Kp] at e2 e3;simp +contextual -implicitDefEqProofs only[go_sem,seval,Xk,aa,e1,e2,e3,h0]
       all_goals rfl
      ·have hp:=Zf3 hk;simp +contextual -implicitDefEqProofs only[go_sem,seval,Xk,aa,e1,e2,e3,h0,hp]
       all_goals rfl
     | true=>
      rw[hcb] at e3;rw[Kg ⟨o_,rfl⟩];refine⟨o,a,q,t,ks,?_,hb.symm⟩;refine cE ?_;by_cases hk:ks=[]
      ·subst hk;simp only[Kp] at e2 e3;simp +contextual -implicitDefEqProofs only[go_sem,seval,Xk,aa,e1,e2,e3,h0]
       all_goals rfl
      ·have hp:=Zf3 hk;simp +contextual -implicitDefEqProofs only[go_sem,seval,Xk,aa,e1,e2,e3,h0,hp]
       all_goals rfl
      all_goals rfl
    ·rw[hz] at e2;rw[Kd (fun h=>by omega)];refine Zst ?_;refine cE ?_;by_cases hk:ks=[]
     ·subst hk;simp only[Kp] at e2 e3;simp +contextual -implicitDefEqProofs only[go_sem,seval,Xk,aa,e1,e2]
      all_goals rfl
     ·have hp:=Zf3 hk;simp +contextual -implicitDefEqProofs only[go_sem,seval,Xk,aa,e1,e2,hp]
      all_goals rfl
 ·rw[Kd hl];have aa : (1600:Int)<(s.length:Int):=o_
  refine Zst ?_;refine cE ?_;simp (maxSteps:=10^7) +contextual -implicitDefEqProofs only[go_sem,seval,Xk,aa]
end Go.Proofs.YtfnegoimdljanaaGreatDoor
