/- Own text. -/
import Derived.Test.YtgpiffflfkoocaaDoorACode
import Derived.Test.YtgpiffflfkoocaaDoorAbsParts
import Derived.Test.YtgpiffflfkoocaaDoorAC1
import Derived.Test.YtgpiffflfkoocaaDoorAbsOkD
namespace Go.Proofs.YtgpiffflfkoocaaDoor
open Go Go.Abs Go.Abs.E Go.Abs.L
open Nat (reduceMul reduceSub reduceLeDiff reduceEqDiff)
open Int (reduceLE reduceEq reduceToNat reduceNeg)
set_option linter.unusedSimpArgs false
set_option linter.unusedVariables false
set_option maxRecDepth 20000
set_option maxHeartbeats 4000000
def num (n:Nat):List UInt8:=if n<10 then [UInt8.ofNat (48+n)] else num (n / 10)++[UInt8.ofNat (48+n % 10)]
termination_by n
decreasing_by omega
def isD (c:UInt8):Bool:=decide (48≤c.toNat∧c.toNat≤57)
def val (s:List UInt8):Nat:=s.foldl (fun n c=>10*n+(c.toNat-48)) 0
theorem ZdV (s:List UInt8) (c:UInt8):val (s++[c])=10*val s+(c.toNat-48):=by simp[val]
theorem J3 {n:Nat} (h:n<10):(UInt8.ofNat (48+n)).toNat=48+n:=by
 rw[UInt8.toNat_ofNat'];omega
theorem Zq6 {c:UInt8} (h:isD c=true):UInt8.ofNat (48+(c.toNat-48))=c:=by
 simp only[isD,Kk] at h;apply UInt8.toNat_inj.1;rw[UInt8.toNat_ofNat'];omega
theorem Yt {n:Nat} (h:n<10):num n=[UInt8.ofNat (48+n)]:=by rw[num,Ko h]
theorem ZaA {n:Nat} (h:¬n<10):num n=num (n / 10)++[UInt8.ofNat (48+n % 10)]:=by rw[num,Kf h]
theorem Zq7:∀ n:Nat,num n≠[]:=fun n=>by
 by_cases h:n<10
 ·rw[Yt h];simp
 ·rw[ZaA h];simp
theorem Zg0 (n:Nat):∀ c∈num n,isD c=true:=by
 induction n using Nat.strongRecOn with
 | ind n ih=>
  intro c hc;by_cases h:n<10
  ·rw[Yt h] at hc;rw[Kz] at hc;subst hc;have:=J3 h;simp only[isD,Kk];omega
  ·rw[ZaA h] at hc;rcases Kd.1 hc with hc | hc
   ·exact ih (n / 10) (by omega) c hc
   ·rw[Kz] at hc;subst hc;have:=J3 (n:=n % 10) (by omega);simp only[isD,Kk];omega
theorem ZkY (n:Nat):val (num n)=n:=by
 induction n using Nat.strongRecOn with
 | ind n ih=>
  by_cases h:n<10
  ·rw[Yt h];have:=J3 h;simp only[val,List.foldl_cons,List.foldl_nil];omega
  ·rw[ZaA h,ZdV,ih (n / 10) (by omega),J3 (by omega)];omega
theorem Zq8 {n:Nat} (h:0<n):(num n).head?≠some 48:=by
 induction n using Nat.strongRecOn with
 | ind n ih=>
  by_cases h1:n<10
  ·rw[Yt h1];simp only[List.head?_cons,ne_eq,Option.some.injEq];intro e;have:=J3 h1;rw[e] at this;have aa:(48:UInt8).toNat=48:=rfl;omega
  ·rw[ZaA h1];have:=ih (n / 10) (by omega) (by omega);cases hn:num (n / 10) with
   | nil=>exact absurd hn (Zq7 _)
   | cons a r=>rw[hn] at this;simpa using this
theorem XM:∀ (k n:Nat),n<10 ^ (k+1)→(num n).length≤k+1
 | 0,n,h=>by rw[Yt (by simpa using h)];simp
 | k+1,n,h=>by
  by_cases h1:n<10
  ·rw[Yt h1];simp
  ·rw[ZaA h1];have:=XM k (n / 10) (Nat.div_lt_of_lt_mul (by rw[Nat.pow_succ,Nat.mul_comm] at h;exact h));simp;omega
theorem Zsx:∀ (s:List UInt8),(∀ c∈s,isD c=true)→s≠[]→s.head?≠some 48→0<val s:=by
 intro s;have aa:∀ (l:List UInt8) (n:Nat),0<n→0<l.foldl (fun n (c:UInt8)=>10*n+(c.toNat-48)) n:=by
  intro l
  induction l with
  | nil=>intro n h;exact h
  | cons c l ih=>intro n h;exact ih (10*n+(c.toNat-48)) (by omega)
 cases s with
 | nil=>intro _ h;exact absurd rfl h
 | cons c l=>
  intro hd _ hh;refine aa l _ ?_;have h1:=hd c (by simp);simp only[isD,Kk] at h1;have h2:c.toNat≠48:=fun e=>hh (by
   have:c=48:=UInt8.toNat_inj.1 e;simp[this])
  show 0<10*0+(c.toNat-48);omega
theorem Zhi {α:Type} (s:List α):s=[]∨∃ t c,s=t++[c]:=by
 rcases List.eq_nil_or_concat s with h | ⟨t,c,h⟩
 ·exact .inl h
 ·exact .inr ⟨t,c,by simpa using h⟩
theorem ZoR:∀ (k:Nat) (s:List UInt8),s.length≤k→(∀ c∈s,isD c=true)→s≠[]→(s.head?≠some 48∨s.length=1)→num (val s)=s
 | 0,s,hk,_,hn,_=>absurd (Kh (by omega)) hn
 | k+1,s,hk,hd,hn,hh=>by
  rcases Zhi s with h | ⟨t,c,rfl⟩
  ·exact absurd h hn
  ·rw[ZdV];have hc:=hd c (by simp);have ad:=hc;simp only[isD,Kk] at ad;by_cases ht:t=[]
   ·subst ht;have e:val []=0:=rfl;rw[e,Yt (by omega)];have:=Zq6 hc;rw[Nat.mul_zero,Ls,this];rfl
   ·have aa:∀ c∈t,isD c=true:=fun x hx=>hd x (by simp[hx]);have ab:t.head?≠some 48:=by
     cases t with
     | nil=>exact absurd rfl ht
     | cons a r=>
      rcases hh with hh | hh
      ·simpa using hh
      ·simp at hh
    have hp:=Zsx t aa ht ab;rw[ZaA (by omega)];have e1:(10*val t+(c.toNat-48)) / 10=val t:=by omega
    have e2:(10*val t+(c.toNat-48)) % 10=c.toNat-48:=by omega
    rw[e1,e2,ZoR k t (by simp at hk;omega) aa ht (.inl ab),Zq6 hc]
def ZjM (s:List UInt8):Prop:=s≠[]∧s.length≤6∧(s.head?≠some 48∨s.length=1)∧∀ c∈s,isD c=true
instance (s:List UInt8):Decidable (ZjM s):=by unfold ZjM;infer_instance
def rd (s:List UInt8):Option Nat:=if ZjM s then some (val s) else none
theorem ZnC:∀ (k:Nat) (s:List UInt8),s.length≤k→(∀ c∈s,isD c=true)→val s<10 ^ k
 | 0,s,h,_=>by
  have:s=[]:=Kh (by omega);subst this;simp[val]
 | k+1,s,h,hd=>by
  rcases Zhi s with rfl | ⟨t,c,rfl⟩
  ·have:0<10 ^ (k+1):=Nat.pow_pos (by omega);simpa [val] using this
  ·rw[ZdV];have:=ZnC k t (by simp at h;omega) (fun x hx=>hd x (by simp[hx]));have hc:=hd c (by simp);simp only[isD,Kk] at hc;rw[Nat.pow_succ];generalize 10 ^ k=m at this ⊢;omega
theorem UP {n:Nat} (h:n≤999999):rd (num n)=some n:=by
 have h6:=XM 5 n (by omega);have:ZjM (num n):=by
  refine⟨Zq7 n,h6,?_,Zg0 n⟩;by_cases h0:n=0
  ·right;subst h0;rw[Yt (by omega)];rfl
  ·left;exact Zq8 (by omega)
 rw[rd,Ko this,ZkY]
theorem VD {s:List UInt8} {n:Nat} (h:rd s=some n):s=num n∧n≤999999:=by
 unfold rd at h;split at h
 ·rename_i hn;cases h;obtain⟨h1,h2,h3,h4⟩:=hn;have:=ZnC 6 s h2 h4;exact⟨(ZoR s.length s (Kg _) h4 h1 h3).symm,by omega⟩
 ·cases h
def Zt (c:UInt8):List UInt8→List (List UInt8)
 | []=>[[]]
 | x :: r=>if x=c then [] :: Zt c r else match Zt c r with
  | []=>[[x]]
  | p :: q=>(x :: p) :: q
def UQ (c:UInt8):List (List UInt8)→List UInt8
 | []=>[]
 | [x]=>x
 | x :: y :: r=>x++c :: UQ c (y :: r)
theorem Y7 (c:UInt8):∀ s,Zt c s≠[]
 | []=>by simp[Zt]
 | x :: r=>by
  unfold Zt;split
  ·simp
  ·split<;>simp
theorem Zhj (c:UInt8):∀ s,UQ c (Zt c s)=s
 | []=>rfl
 | x :: r=>by
  have ih:=Zhj c r;unfold Zt;split
  ·rename_i h;cases hs:Zt c r with
   | nil=>exact absurd hs (Y7 c r)
   | cons p q=>rw[hs] at ih;simp[UQ,ih,h]
  ·split
   ·rename_i hs;exact absurd hs (Y7 c r)
   ·rename_i p q hs;rw[hs] at ih;cases q with
    | nil=>simp only[UQ] at ih ⊢;rw[ih]
    | cons y q=>simp only[UQ,Kv] at ih ⊢;rw[ih]
theorem WC {c:UInt8}:∀ {s:List UInt8},c∉s→Zt c s=[s]
 | [],_=>rfl
 | x :: r,h=>by
  simp only[Ke,not_or] at h;rw[Zt,Kf (fun e=>h.1 e.symm),WC h.2]
theorem Zck {c:UInt8}:∀ {a:List UInt8} {b:List UInt8},c∉a→Zt c (a++c :: b)=a :: Zt c b
 | [],b,_=>by simp[Zt]
 | x :: r,b,h=>by
  simp only[Ke,not_or] at h;rw[Kv,Zt,Kf (fun e=>h.1 e.symm),Zck h.2]
theorem Zdb {c:UInt8}:∀ {ws:List (List UInt8)},ws≠[]→(∀ w∈ws,c∉w)→Zt c (UQ c ws)=ws
 | [],h,_=>absurd rfl h
 | [x],_,h=>WC (h x (by simp))
 | x :: y :: r,_,h=>by
  rw[UQ,Zck (h x (by simp)),Zdb (by simp) (fun w hw=>h w (by simp[hw]))]
def QI (c:UInt8):List UInt8→Option Nat
 | []=>none
 | x :: r=>if x=c then some 0 else (QI c r).map (·+1)
theorem ZdW {c:UInt8}:∀ {s:List UInt8},QI c s=none↔c∉s
 | []=>by simp[QI]
 | x :: r=>by
  unfold QI;split
  ·rename_i h;simp[h]
  ·rename_i h;simp[ZdW (s:=r),Ne.symm h]
theorem Wa {c:UInt8}:∀ {s:List UInt8} {i:Nat},QI c s=some i→s=s.take i++c :: s.drop (i+1)∧c∉s.take i∧i<s.length
 | [],i,h=>by simp[QI] at h
 | x :: r,i,h=>by
  unfold QI at h;split at h
  ·rename_i hx;cases h;simp[hx]
  ·rename_i hx;cases hr:QI c r with
   | none=>rw[hr] at h;simp at h
   | some j=>
    rw[hr] at h;simp at h;subst h;obtain⟨h1,h2,h3⟩:=Wa hr;refine⟨?_,?_,by simp;omega⟩
    ·simp only[L6,List.drop_succ_cons,Kv];rw[← h1]
    ·simp only[L6,Ke,not_or];exact⟨fun e=>hx e.symm,h2⟩
theorem UI (c:UInt8) (s:List UInt8):Zt c s=match QI c s with
  | none=>[s]
  | some i=>s.take i :: Zt c (s.drop (i+1)):=by
 cases h:QI c s with
 | none=>exact WC (ZdW.1 h)
 | some i=>
  obtain⟨h1,h2,_⟩:=Wa h;simp only;rw[h1,Zck h2,← h1]
def shw:BT→List UInt8
 | .waste=>[119]
 | .pane i t=>(if t then 116 else 112) :: num i.toNat
 | .cut d a l r=>(if d then 100 else 97) :: (num a.toNat++40 :: (shw l++44 :: (shw r++[41])))
def Vn:BT→Bool
 | .waste=>true
 | .pane i _=>decide (0≤i∧i≤24)
 | .cut _ a l r=>decide (0≤a∧a≤200)&&Vn l&&Vn r
def Uq:BT→Bool
 | .waste=>true
 | .pane i _=>decide (0≤i∧i≤999999)
 | .cut _ a l r=>decide (0≤a∧a≤999999)&&Uq l&&Uq r
theorem Ur:∀ b:BT,Vn b=true→Uq b=true
 | .waste,_=>rfl
 | .pane i t,h=>by simp only[Vn,Uq,Kk] at h ⊢;omega
 | .cut d a l r,h=>by
  simp only[Vn,Uq,Kc,Kk] at h ⊢;exact⟨⟨by omega,Ur l h.1.2⟩,Ur r h.2⟩
def VJ (x:UInt8):List UInt8→Option (List UInt8)
 | y :: r=>if y=x then some r else none
 | []=>none
def ZfV (d:Bool) (v:Nat) (rec:List UInt8→Option (BT×List UInt8)) (r:List UInt8):Option (BT×List UInt8):=
 (VJ 40 r).bind fun r1=>(rec r1).bind fun p=>(VJ 44 p.2).bind fun r3=>(rec r3).bind fun q=>(VJ 41 q.2).bind fun r5=>some (.cut d v p.1 q.1,r5)
def ZfW (c:UInt8) (v:Nat) (rec:List UInt8→Option (BT×List UInt8)) (r:List UInt8):Option (BT×List UInt8):=
 if c=112 then some (.pane v false,r) else if c=116 then some (.pane v true,r) else if c=100 then ZfV true v rec r else if c=97 then ZfV false v rec r else none
def tk:Nat→List UInt8→Option (BT×List UInt8)
 | 0,_=>none
 | _+1,[]=>none
 | n+1,c :: s=>if c=119 then some (.waste,s) else (rd (s.takeWhile isD)).bind fun v=>ZfW c v (tk n) (s.dropWhile isD)
theorem WW {x:UInt8} {s r:List UInt8} (h:VJ x s=some r):s=x :: r:=by
 cases s with
 | nil=>simp[VJ] at h
 | cons y t=>simp only[VJ] at h;split at h<;>simp_all
theorem Zsy {s:List UInt8} {v:Nat} (h:rd (s.takeWhile isD)=some v):s=num v++s.dropWhile isD∧v≤999999:=by
 obtain⟨h1,h2⟩:=VD h;exact⟨by rw[← h1,Lw],h2⟩
theorem ZfX {d:Bool} {v:Nat} {ab:List UInt8→Option (BT×List UInt8)} (aa:∀ s b r,ab s=some (b,r)→s=shw b++r∧Uq b=true) (hv:v≤999999) {r:List UInt8} {b:BT} {t:List UInt8} (h:ZfV d v ab r=some (b,t)) :
  ∃ x y,b=.cut d v x y∧r=40 :: (shw x++44 :: (shw y++41 :: t))∧Uq b=true:=by
 unfold ZfV at h;simp only[KE] at h;obtain⟨r1,h1,⟨x,r2⟩,h2,r3,h3,⟨y,r4⟩,h4,r5,h5,h6⟩:=h;simp only[Option.some.injEq,Prod.mk.injEq] at h6;obtain⟨rfl,rfl⟩:=h6;obtain⟨e2,s2⟩:=aa _ _ _ h2;obtain⟨e4,s4⟩:=aa _ _ _ h4;have e1:=WW h1;have e3:=WW h3;have e5:=WW h5;refine⟨x,y,rfl,?_,?_⟩
 ·simp only at e3 e5;rw[e1,e2,e3,e4,e5]
 ·simp only[Uq,s2,s4,LU,Kk];omega
theorem Zbp:∀ (n:Nat) (s:List UInt8) (b:BT) (r:List UInt8),tk n s=some (b,r)→s=shw b++r∧Uq b=true
 | 0,s,b,r,h=>by simp[tk] at h
 | n+1,[],b,r,h=>by simp[tk] at h
 | n+1,c :: s,b,r,h=>by
  simp only[tk] at h;split at h
  ·rename_i hc;cases h;exact⟨by simp[shw,hc],rfl⟩
  ·simp only[KE] at h;obtain⟨v,h1,h⟩:=h;obtain⟨e1,hv⟩:=Zsy h1;unfold ZfW at h;split at h
   ·rename_i hc;cases h;refine⟨?_,by simp only[Uq,Kk];omega⟩;simp only[shw,Ly,Ka,Kn,Kv];rw[← e1,hc]
   ·split at h
    ·rename_i hc;cases h;refine⟨?_,by simp only[Uq,Kk];omega⟩;simp only[shw,Ly,Kl,Kv];rw[← e1,hc]
    ·split at h
     ·rename_i hc;obtain⟨x,y,rfl,e2,hs⟩:=ZfX (Zbp n) hv h;refine⟨?_,hs⟩;rw[e1,e2,hc];simp[shw,Ly]
     ·split at h
      ·rename_i hc;obtain⟨x,y,rfl,e2,hs⟩:=ZfX (Zbp n) hv h;refine⟨?_,hs⟩;rw[e1,e2,hc];simp[shw,Ly]
      ·cases h
def Zhk (r:List UInt8):Prop:=∀ c t,r=c :: t→isD c=false
theorem Zhl (v:Nat) {r:List UInt8} (h:Zhk r):(num v++r).takeWhile isD=num v∧(num v++r).dropWhile isD=r:=by
 have aa:∀ l:List UInt8,(∀ c∈l,isD c=true)→(l++r).takeWhile isD=l∧(l++r).dropWhile isD=r:=by
  intro l
  induction l with
  | nil=>
   intro _;cases r with
   | nil=>simp
   | cons c t=>have:=h c t rfl;simp[this]
  | cons c l ih=>
   intro hl;have:=ih (fun x hx=>hl x (by simp[hx]));simp only[Kv,List.takeWhile_cons,List.dropWhile_cons,hl c (by simp),Kl,this.1,this.2,and_self]
 exact aa _ (Zg0 v)
theorem ZoS (b:BT):1≤(shw b).length:=by cases b<;>simp[shw]
theorem Zbq:∀ (n:Nat) (b:BT) (r:List UInt8),(shw b).length≤n→Uq b=true→Zhk r→tk n (shw b++r)=some (b,r)
 | 0,b,r,hn,_,_=>by have:=ZoS b;omega
 | n+1,.waste,r,_,_,_=>by simp[shw,tk]
 | n+1,.pane i t,r,hn,hs,hr=>by
  simp only[Uq,Kk] at hs;obtain⟨h1,h2⟩:=Zhl i.toNat hr;have hi:((i.toNat:Nat):Int)=i:=by omega
  have aa:=UP (n:=i.toNat) (by omega);cases t
  ·simp[shw,tk,ZfW,h1,h2,aa,hi]
  ·simp[shw,tk,ZfW,h1,h2,aa,hi]
 | n+1,.cut d a x y,r,hn,hs,hr=>by
  simp only[Uq,Kc,Kk] at hs;obtain⟨⟨ha,hx⟩,hy⟩:=hs;simp only[shw,Km,Ks,Li] at hn;have aa:=UP (n:=a.toNat) (by omega);have hi:((a.toNat:Nat):Int)=a:=by omega
  have e2:=Zbq n y (41 :: r) (by omega) hy (fun c t e=>by cases e;rfl);have e1:=Zbq n x (44 :: (shw y++41 :: r)) (by omega) hx (fun c t e=>by cases e;rfl);obtain⟨h1,h2⟩:=Zhl a.toNat (r:=40 :: (shw x++44 :: (shw y++41 :: r))) (fun c t e=>by cases e;rfl);have ab:ZfV d a.toNat (tk n) (40 :: (shw x++44 :: (shw y++41 :: r)))=some (.cut d a x y,r):=by
   simp[ZfV,VJ,e1,e2,hi]
  have e:shw (.cut d a x y)++r=(if d then 100 else 97) :: (num a.toNat++40 :: (shw x++44 :: (shw y++41 :: r))):=by simp[shw]
  rw[e,tk];cases d
  ·rw[Kf (by decide),h1,aa,h2];simp only[KF,ZfW];rw[Kf (by decide),Kf (by decide),Kf (by decide),Ko (by decide),ab]
  ·rw[Kf (by decide),h1,aa,h2];simp only[KF,ZfW];rw[Kf (by decide),Kf (by decide),Ko (by decide),ab]
def ZeZ (s:List UInt8):Option BT:=match tk s.length s with
 | some (b,[])=>if b.cnt≤255∧Vn b=true then some b else none
 | _=>none
theorem Zbr {s:List UInt8} {b:BT}:ZeZ s=some b↔s=shw b∧b.cnt≤255∧Vn b=true:=by
 unfold ZeZ;constructor
 ·intro h;split at h
  ·rename_i b' h1;split at h
   ·rename_i hc;cases h;obtain⟨e,_⟩:=Zbp _ _ _ _ h1;exact⟨by simpa using e,hc⟩
   ·cases h
  ·cases h
 ·rintro ⟨rfl,hc⟩
  have:=Zbq (shw b).length b [] (Kg _) (Ur b hc.2) (fun c t e=>by cases e);rw[KU] at this;rw[this];simp[hc]
theorem ZpL {b:BT} (h:b.cnt≤255) (hc:Vn b=true):ZeZ (shw b)=some b:=Zbr.2 ⟨rfl,h,hc⟩
theorem bt_mk (b:BT):∃ o a q t ks,b.plan=.mk o a q t ks:=by cases b.plan;exact⟨_,_,_,_,_,rfl⟩
theorem tdiv10 (n:Nat):((n:Int)).tdiv 10=((n / 10:Nat):Int):=by rw[Int.tdiv_eq_ediv_of_nonneg (by omega)];omega
theorem tmod10 (n:Nat):((n:Int)).tmod 10=((n % 10:Nat):Int):=by rw[Int.tmod_eq_emod_of_nonneg (by omega)];omega
theorem Yc (n:Nat):n≤999999999→Zj Xs Ms ZE [(.d (J n))] []=some (.d (.str (num n)),[]):=by
 induction n using Nat.strongRecOn with
 | ind n ih=>
  intro hn;by_cases h:n<10
  ·rw[Yt h];have h' : (n:Int)<10:=by omega
   have hw:(n:Int)+1=((n+1:Nat):Int):=by omega
   have a3:=wi 3 (by decide) (by decide);have a4:=wi 4 (by decide) (by decide);have a5:=wi 5 (by decide) (by decide);have a6:=wi 6 (by decide) (by decide);have a7:=wi 7 (by decide) (by decide);have a8:=wi 8 (by decide) (by decide);have a9:=wi 9 (by decide) (by decide);have aa:=wi 10 (by decide) (by decide);refine cE ?_;rcases (show n=0∨n=1∨n=2∨n=3∨n=4∨n=5∨n=6∨n=7∨n=8∨n=9 by omega) with rfl | rfl | rfl | rfl | rfl | rfl | rfl | rfl | rfl | rfl<;>simp +contextual -implicitDefEqProofs (maxSteps:=10^7) only[go_sem,seval,↓gZ,ZaG,a3,a4,a5,a6,a7,a8,a9,aa]<;>rfl
  ·have hb:num n=num (n / 10)++num (n % 10):=by rw[ZaA h,Yt (by omega:n % 10<10)]
   rw[hb];have h' : ¬(n:Int)<10:=by omega
   have e1:=ih (n / 10) (by omega) (by omega);have e2:=ih (n % 10) (by omega) (by omega);have l1:=XM 8 (n / 10) (by omega);have l2:=XM 8 (n % 10) (by omega);have hs:(num (n / 10)).length+(num (n % 10)).length≤1152921504606846976:=by omega
   have w1:=wi (n / 10:Nat) (by omega) (by omega);refine cE ?_;simp +contextual -implicitDefEqProofs (maxSteps:=10^7) only[go_sem,seval,↓gZ,ZaG,h',tdiv10,tmod10,w1,e1,e2,hs]
theorem YO:∀ b:BT,Zj Xs Ms XU [.d b.plan.enc] []=some ((.d (.bool (Vn b))),[])
 | .waste=>by
  simp only[BT.plan,Vn];refine cE ?_;simp +contextual -implicitDefEqProofs (maxSteps:=10^7) only[go_sem,seval,↓gZ,Vw,XL];refine Xg Xs Ms ?_;simp +contextual -implicitDefEqProofs (maxSteps:=10^7) only[go_sem,seval,↓gZ,XL]
 | .pane i t=>by
  simp only[BT.plan,Vn];refine cE ?_;simp +contextual -implicitDefEqProofs (maxSteps:=10^7) only[go_sem,seval,↓gZ,Vw,XL];refine Xg Xs Ms ?_;simp +contextual -implicitDefEqProofs (maxSteps:=10^7) only[go_sem,seval,↓gZ,XL]
 | .cut d a l r=>by
  have e1:=YO l;have e2:=YO r;simp only[BT.plan,Vn];refine cE ?_;simp +contextual -implicitDefEqProofs (maxSteps:=10^7) only[go_sem,seval,↓gZ,Vw,XL];refine Xg Xs Ms ?_;cases hl:Vn l with
  | false=>
   rw[hl] at e1;simp +contextual -implicitDefEqProofs (maxSteps:=10^7) only[go_sem,seval,↓gZ,e1]
  | true=>
   rw[hl] at e1;simp +contextual -implicitDefEqProofs (maxSteps:=10^7) only[go_sem,seval,↓gZ,e1];refine Xg Xs Ms ?_;cases hr:Vn r with
   | false=>
    rw[hr] at e2;simp +contextual -implicitDefEqProofs (maxSteps:=10^7) only[go_sem,seval,↓gZ,e2]
   | true=>
    rw[hr] at e2;simp +contextual -implicitDefEqProofs (maxSteps:=10^7) only[go_sem,seval,↓gZ,e2];refine Xg Xs Ms ?_;simp +contextual -implicitDefEqProofs (maxSteps:=10^7) only[go_sem,seval,↓gZ,XL]
theorem W6:∀ b:BT,Zj Xs Ms X4 [.d b.plan.enc] []=some ((.d (.bool (Vn b))),[])
 | .waste=>by
  simp only[BT.plan,Vn];refine cE ?_;simp +contextual -implicitDefEqProofs (maxSteps:=10^7) only[go_sem,seval,↓gZ,QM];refine Xg Xs Ms ?_;simp +contextual -implicitDefEqProofs (maxSteps:=10^7) only[go_sem,seval,↓gZ]
 | .pane i t=>by
  simp only[BT.plan,Vn];refine cE ?_;by_cases h1:i<0
  ·have aa : ¬0≤i:=by omega
   simp +contextual -implicitDefEqProofs (maxSteps:=10^7) only[go_sem,seval,↓gZ,QM,h1,aa]
  ·have aa : 0≤i:=by omega
   by_cases h2:i>24
   ·have ab : ¬i≤24:=by omega
    simp +contextual -implicitDefEqProofs (maxSteps:=10^7) only[go_sem,seval,↓gZ,QM,h1,aa,h2,ab]
   ·have ab : i≤24:=by omega
    simp +contextual -implicitDefEqProofs (maxSteps:=10^7) only[go_sem,seval,↓gZ,QM,h1,aa,h2,ab];refine Xg Xs Ms ?_;simp +contextual -implicitDefEqProofs (maxSteps:=10^7) only[go_sem,seval,↓gZ]
 | .cut d a l r=>by
  have e1:=W6 l;have e2:=W6 r;obtain⟨o1,a1,q1,t1,k1,ad⟩:=bt_mk l;obtain⟨o2,a2,q2,t2,k2,ae⟩:=bt_mk r;rw[ad,Ze.enc_mk] at e1;rw[ae,Ze.enc_mk] at e2;simp only[BT.plan,Vn,ad,ae];refine cE ?_;by_cases h1:a<0
  ·have aa : ¬0≤a:=by omega
   simp +contextual -implicitDefEqProofs (maxSteps:=10^7) only[go_sem,seval,↓gZ,QM,h1,aa]
  ·have aa : 0≤a:=by omega
   by_cases h2:a>200
   ·have ab : ¬a≤200:=by omega
    simp +contextual -implicitDefEqProofs (maxSteps:=10^7) only[go_sem,seval,↓gZ,QM,h1,aa,h2,ab]
   ·have ab : a≤200:=by omega
    simp +contextual -implicitDefEqProofs (maxSteps:=10^7) only[go_sem,seval,↓gZ,QM,h1,aa,h2,ab];refine Xg Xs Ms ?_;cases hl:Vn l with
    | false=>
     rw[hl] at e1;simp +contextual -implicitDefEqProofs (maxSteps:=10^7) only[go_sem,seval,↓gZ,e1]
    | true=>
     rw[hl] at e1;simp +contextual -implicitDefEqProofs (maxSteps:=10^7) only[go_sem,seval,↓gZ,e1];refine Xg Xs Ms ?_;cases hr:Vn r with
     | false=>
      rw[hr] at e2;simp +contextual -implicitDefEqProofs (maxSteps:=10^7) only[go_sem,seval,↓gZ,e2]
     | true=>
      rw[hr] at e2;simp +contextual -implicitDefEqProofs (maxSteps:=10^7) only[go_sem,seval,↓gZ,e2];refine Xg Xs Ms ?_;simp +contextual -implicitDefEqProofs (maxSteps:=10^7) only[go_sem,seval,↓gZ]
theorem Zdc:∀ b:BT,Vn b=true→(shw b).length≤13*b.cnt
 | .waste,_=>by simp[shw,BT.cnt]
 | .pane i t,h=>by
  simp only[Vn,Kk] at h;have:=XM 1 i.toNat (by omega);simp[shw,BT.cnt];omega
 | .cut d a l r,h=>by
  simp only[Vn,Kc,Kk] at h;have h1:=Zdc l h.1.2;have h2:=Zdc r h.2;have:=XM 2 a.toNat (by omega);simp[shw,BT.cnt];omega
theorem Yu:∀ b:BT,Vn b=true→b.cnt≤1048576→Zj Xs Ms Xk [.d b.plan.enc] []=some (.d (.str (shw b)),[])
 | .waste,_,_=>by
  simp only[BT.plan,shw];refine cE ?_;simp +contextual -implicitDefEqProofs (maxSteps:=10^7) only[go_sem,seval,↓gZ,Wd]
 | .pane i t,h,_=>by
  simp only[Vn,Kk] at h;have e1:=Yc i.toNat (by omega);rw[KD h.1] at e1;have l1:=XM 1 i.toNat (by omega);have hs:1+(num i.toNat).length≤1152921504606846976:=by omega
  simp only[BT.plan,shw];refine cE ?_;cases t<;>simp +contextual -implicitDefEqProofs (maxSteps:=10^7) only[go_sem,seval,↓gZ,Wd,e1,hs]
 | .cut d a l r,h,hc=>by
  have hL:=Zdc _ h;simp only[Vn,Kc,Kk] at h;simp only[BT.cnt] at hc hL;have e1:=Yc a.toNat (by omega);rw[KD h.1.1.1] at e1;have e2:=Yu l h.1.2 (by omega);have e3:=Yu r h.2 (by omega);have l1:=XM 2 a.toNat (by omega);simp only[shw,Km,Ks,Li] at hL;obtain⟨x,hx⟩:∃ x,num a.toNat=x:=⟨_,rfl⟩
  obtain⟨y,hy⟩:∃ y,shw l=y:=⟨_,rfl⟩
  obtain⟨z,hz⟩:∃ z,shw r=z:=⟨_,rfl⟩
  simp only[BT.plan,shw];rw[hx] at e1 l1 hL ⊢;rw[hy] at e2 hL ⊢;rw[hz] at e3 hL ⊢;have g1:1+x.length≤1152921504606846976:=by omega
  have g2:x.length≤1152921504606846974:=by omega
  have g3:x.length+1+1+y.length≤1152921504606846976:=by omega
  have g4:x.length+1+y.length≤1152921504606846974:=by omega
  have g5:x.length+1+y.length+1+1+z.length≤1152921504606846976:=by omega
  have g6:x.length+1+y.length+1+z.length≤1152921504606846974:=by omega
  refine cE ?_;cases d<;>simp +contextual -implicitDefEqProofs (maxSteps:=10^7) only[go_sem,seval,↓gZ,Wd,Zfy,e1,e2,e3,g1,g2,g3,g4,g5,g6]<;>simp
theorem ZkZ (x c:UInt8) (r:List UInt8) (hr:r.length≤1000000000):Zj Xs Ms ZB [.d (.str (x :: r)),.d (.str [c])] []=some ((.d (.bool ([x]==[c]))),[]):=by
 have h1:(1:Int)≤((r.length+1:Nat):Int):=by omega
 refine cE ?_;simp +contextual -implicitDefEqProofs (maxSteps:=10^7) only[go_sem,seval,↓gZ,Z8,h1]
theorem Zjk (c:UInt8):Zj Xs Ms ZB [.d (.str []),.d (.str [c])] []=some ((.d (.bool false)),[]):=by
 refine cE ?_;simp +contextual -implicitDefEqProofs (maxSteps:=10^7) only[go_sem,seval,↓gZ,Z8]
def Zk0 (s:List UInt8) (c:UInt8):AV:=match VJ c s with
 | some r=>.tup [.d (.str r),(.d (.bool true))]
 | none=>.tup [.d (.str s),(.d (.bool false))]
theorem JI (s:List UInt8) (c:UInt8) (hr:s.length≤1000000000):Zj Xs Ms ZO [.d (.str s),.d (.str [c])] []=some (Zk0 s c,[]):=by
 cases s with
 | nil=>
  have e1:=Zjk c;simp only[Zk0,VJ];refine cE ?_;simp +contextual -implicitDefEqProofs (maxSteps:=10^7) only[go_sem,seval,↓gZ,ZP,e1]
 | cons x r=>
  have e1:=ZkZ x c r (by simp at hr;omega);by_cases h:x=c
  ·subst h;simp only[Zk0,VJ,Kl];rw[show ([x]==[x])=true by simp] at e1;have h1:(1:Int)≤((r.length+1:Nat):Int):=by omega
   have h2:r.take r.length=r:=KN;refine cE ?_;simp +contextual -implicitDefEqProofs (maxSteps:=10^7) only[go_sem,seval,↓gZ,ZP,e1,h1,h2]
  ·rw[show ([x]==[c])=false by simp[h]] at e1;simp only[Zk0,VJ,Kf h];refine cE ?_;simp +contextual -implicitDefEqProofs (maxSteps:=10^7) only[go_sem,seval,↓gZ,ZP,e1]
theorem YP (s:List UInt8) (c:UInt8) (hr:s.length≤1000000000):Zj Xs Ms Qq [.d (.str s),.d (.str [c])] []=some (Zk0 s c,[]):=by
 have e1:=JI s c hr;unfold Zk0 at e1 ⊢;cases h:VJ c s with
 | none=>
  rw[h] at e1;refine cE ?_;simp +contextual -implicitDefEqProofs (maxSteps:=10^7) only[go_sem,seval,↓gZ,XZ,e1]
 | some r=>
  rw[h] at e1;refine cE ?_;simp +contextual -implicitDefEqProofs (maxSteps:=10^7) only[go_sem,seval,↓gZ,XZ,e1]
theorem wu8 (x:Int) (h0:0≤x) (h1:x<256):IntKind.u8.wrap x=x:=by
 unfold IntKind.wrap;simp[IntKind.bits,IntKind.signed];omega
theorem rd_of {s:List UInt8} (h:ZjM s):rd s=some (val s):=by unfold rd;rw[Ko h]
theorem Zhm {s:List UInt8} (h:¬ZjM s):rd s=none:=by unfold rd;rw[Kf h]
theorem Jv (c:UInt8):isD c=true↔¬(c.toNat:Int)<48∧¬(57:Int)<(c.toNat:Int):=by
 simp only[isD,Kk];omega
theorem Zl6 {s:List UInt8} {k:Nat} {c:UInt8} (h:s[k]?=some c):val (s.take (k+1))=10*val (s.take k)+(c.toNat-48):=by
 obtain⟨hk,he⟩:=Kb.1 h;rw[Lf hk,ZdV,he]
def ZaB:Option Nat→AV
 | some v=>.tup [(.d (J ((v:Nat)))),(.d (.bool true))]
 | none=>.tup [(.d (J 0)),(.d (.bool false))]
theorem VE (s:List UInt8):Zj Xs Ms Xv [.d (.str s)] []=some (ZaB (rd s),[]):=by
 by_cases h0:s=[]
 ·subst h0;rw[Zhm (fun h=>h.1 rfl)];simp only[ZaB];refine cE ?_;simp +contextual -implicitDefEqProofs (maxSteps:=10^7) only[go_sem,seval,↓gZ,X6]
 by_cases h6:s.length≤6
 ·obtain⟨x,r,hs⟩:=List.exists_cons_of_ne_nil h0;have al:s.length=r.length+1:=by rw[hs];rfl
  have ag : ¬(6:Int)<((r.length+1:Nat):Int):=by omega
  have hb:(x :: r==[])=false:=rfl;have ae:(x.toNat:Int)=48↔x=48:=by
   constructor
   ·intro h;apply UInt8.toNat_inj.1;simpa using (by omega:x.toNat=48)
   ·rintro rfl;rfl
  by_cases hz:(x.toNat:Int)=48∧(1:Int)<((r.length+1:Nat):Int)
  ·rw[Zhm (fun h=>by
    rcases h.2.2.1 with h | h
    ·rw[hs] at h;exact h (by rw[ae.1 hz.1];rfl)
    ·omega)]
   simp only[ZaB];obtain⟨am,an⟩:=hz;rw[hs];refine cE ?_;simp +contextual -implicitDefEqProofs (maxSteps:=10^7) only[go_sem,seval,↓gZ,X6,ag,hb,am,an]
  ·have af:s.head?≠some 48∨s.length=1:=by
    by_cases hl:s.length=1
    ·exact .inr hl
    ·refine .inl ?_;rw[hs];intro h;simp only[List.head?_cons,Option.some.injEq] at h;exact hz ⟨ae.2 h,by omega⟩
   generalize aa:ZaB (rd s)=res;rw[hs];refine cE ?_;simp +contextual -implicitDefEqProofs (maxSteps:=10^7) only[go_sem,seval,↓gZ,X6,ag,hb,hz];rw[← hs,show r.length+1=s.length by omega];refine LO (α:=Nat) (fun k=>[(25,.d (J (k:Int))),(4,.d (J (val (s.take k):Nat)))]) (fun _=>[]) (fun k=>k≤s.length∧∀ c∈s.take k,isD c=true) (fun k=>s.length-k) 0 (by simp) ?_;intro k ⟨hk,hd⟩ ih;have hv:=ZnC k (s.take k) (by simp;omega) hd;have hp:10 ^ k≤10 ^ 6:=Nat.pow_le_pow_right (by decide) (by omega);by_cases aj:k<s.length
   ·obtain⟨c,hc⟩:∃ c,s[k]?=some c:=⟨_,Kj aj⟩
    have ab : (k:Int)<(s.length:Int):=by omega
    by_cases hD:isD c=true
    ·have ak:=(Jv c).1 hD;have au:(48:Int)≤c.toNat∧(c.toNat:Int)≤57:=by omega
     have w1:=wi (10*(val (s.take k):Nat)) (by omega) (by omega);have w2:=wu8 ((c.toNat:Int)-48) (by omega) (by omega);have w3:=wi ((c.toNat:Int)-48) (by omega) (by omega);have w4:IntKind.i64.wrap (10*(val (s.take k):Nat)+((c.toNat:Int)-48))=((val (s.take (k+1)):Nat):Int):=by
      rw[wi _ (by omega) (by omega),Zl6 hc];omega
     have w5:=ZM (k:=k) (by omega);simp +contextual -implicitDefEqProofs (maxSteps:=10^7) only[go_sem,seval,↓gZ,ab,hc,ak.1,ak.2,w1,w2,w3,w4,w5];refine ih (k+1) _ ⟨by omega,fun d ad=>?_⟩ (by omega) ?_
     ·rw[Lf aj] at ad;rcases Kd.1 ad with ad | ad
      ·exact hd d ad
      ·simp only[Kz] at ad;rw[ad,← (Kb.1 hc).2] at *;exact hD
     ·simp +contextual -implicitDefEqProofs (maxSteps:=10^7) only[go_sem,seval,↓gZ]
    ·have ao:rd s=none:=Zhm fun h=>hD (h.2.2.2 c (Kp hc));rw[ao] at aa;simp only[ZaB] at aa;subst aa;by_cases ah:(c.toNat:Int)<48
     ·simp +contextual -implicitDefEqProofs (maxSteps:=10^7) only[go_sem,seval,↓gZ,ab,hc,ah]
     ·have ap:(57:Int)<(c.toNat:Int):=Classical.byContradiction fun h=>hD ((Jv c).2 ⟨ah,h⟩);simp +contextual -implicitDefEqProofs (maxSteps:=10^7) only[go_sem,seval,↓gZ,ab,hc,ah,ap]
   ·have aq:k=s.length:=by omega
    subst aq;rw[KN] at hd;have ai:rd s=some (val s):=rd_of ⟨h0,h6,af,hd⟩;rw[ai] at aa;simp only[ZaB] at aa;subst aa;have ht:s.take s.length=s:=KN;have ar:¬(s.length:Int)<(s.length:Int):=by omega
    simp +contextual -implicitDefEqProofs (maxSteps:=10^7) only[go_sem,seval,↓gZ,ht,ar]
 ·have ag : (6:Int)<(s.length:Int):=by omega
  have hb:(s==[])=false:=by
   cases s with
   | nil=>exact absurd rfl h0
   | cons x r=>rfl
  rw[Zhm (fun h=>h6 h.2.1)];simp only[ZaB];refine cE ?_;simp +contextual -implicitDefEqProofs (maxSteps:=10^7) only[go_sem,seval,↓gZ,X6,ag,hb]
theorem Zq9 {p:UInt8→Bool}:∀ {s:List UInt8} {k:Nat},k<(s.takeWhile p).length→∃ c,s[k]?=some c∧p c=true
 | [],k,h=>by simp at h
 | x :: s,k,h=>by
  by_cases hx:p x=true
  ·rw[List.takeWhile_cons_of_pos hx] at h;cases k with
   | zero=>exact⟨x,rfl,hx⟩
   | succ k=>simpa using Zq9 (s:=s) (k:=k) (by simpa using h)
  ·rw[List.takeWhile_cons_of_neg hx] at h;simp at h
theorem ZnD {p:UInt8→Bool}:∀ {s:List UInt8},(s.takeWhile p).length=s.length∨∃ c,s[(s.takeWhile p).length]?=some c∧¬p c=true
 | []=>.inl rfl
 | x :: s=>by
  by_cases hx:p x=true
  ·rw[List.takeWhile_cons_of_pos hx];rcases ZnD (p:=p) (s:=s) with h | ⟨c,h,h'⟩
   ·exact .inl (by simp[h])
   ·exact .inr ⟨c,by simpa using h,h'⟩
  ·rw[List.takeWhile_cons_of_neg hx];exact .inr ⟨x,rfl,hx⟩
theorem Zra {p:UInt8→Bool} (s:List UInt8):(s.takeWhile p).length≤s.length:=List.IsPrefix.length_le (List.takeWhile_prefix p)
theorem ZoT (p:UInt8→Bool) (s:List UInt8):s.take (s.takeWhile p).length=s.takeWhile p:=by
 conv=>lhs;rw[← Lw (p:=p) (l:=s),Lw]
 exact(List.prefix_iff_eq_take.1 (List.takeWhile_prefix p)).symm
theorem Zsz (p:UInt8→Bool) (s:List UInt8):s.drop (s.takeWhile p).length=s.dropWhile p:=by
 have h:=Lw (p:=p) (l:=s)
 conv=>lhs;arg 2;rw[← h]
 rw[List.drop_left]
def tnV (s:List UInt8):AV:=match rd (s.takeWhile isD) with
 | some v=>.tup [(.d (J ((v:Nat)))),.d (.str (s.dropWhile isD)),(.d (.bool true))]
 | none=>.tup [(.d (J 0)),.d (.str (s.dropWhile isD)),(.d (.bool false))]
theorem ZgG (s:List UInt8) (hs:s.length≤1048576):Zj Xs Ms YS [.d (.str s)] []=some (tnV s,[]):=by
 have ai:=Zra (p:=isD) s;generalize aa:tnV s=res;refine cE ?_;simp +contextual -implicitDefEqProofs (maxSteps:=10^7) only[go_sem,seval,↓gZ,U2];refine LO (α:=Nat) (fun k=>[(5,.d (J (k:Int)))]) (fun _=>[]) (fun k=>k≤(s.takeWhile isD).length) (fun k=>s.length-k) 0 (by omega) ?_;intro k hk ih;have w5:=ZM (k:=k) (by omega);have e1:=VE (s.takeWhile isD);have d1:=ZoT isD s;have d2:=Zsz isD s;have d3:s.take s.length=s:=KN;by_cases ab:k<(s.takeWhile isD).length
 ·obtain⟨c,hc,hD⟩:=Zq9 ab;have ae : (k:Int)<(s.length:Int):=by omega
  have aj:=(Jv c).1 hD;have h1:(48:Int)≤c.toNat:=by omega
  have h2:(c.toNat:Int)≤57:=by omega
  simp +contextual -implicitDefEqProofs (maxSteps:=10^7) only[go_sem,seval,↓gZ,ae,hc,h1,h2,w5];refine ih (k+1) _ (by omega) (by omega) ?_;simp +contextual -implicitDefEqProofs (maxSteps:=10^7) only[go_sem,seval,↓gZ]
 ·have ag:k=(s.takeWhile isD).length:=by omega
  subst ag;unfold tnV at aa;have ad:((s.takeWhile isD).length:Int)≤(s.length:Int):=by omega
  rcases ZnD (p:=isD) (s:=s) with h | ⟨c,hc,hD⟩
  ·have af:¬((s.takeWhile isD).length:Int)<(s.length:Int):=by omega
   cases hr:rd (s.takeWhile isD) with
   | none=>
    rw[hr] at aa e1;simp only[ZaB] at e1 aa;subst aa;simp +contextual -implicitDefEqProofs (maxSteps:=10^7) only[go_sem,seval,↓gZ,af,ad,e1,d1,d2,d3]
   | some v=>
    rw[hr] at aa e1;simp only[ZaB] at e1 aa;subst aa;simp +contextual -implicitDefEqProofs (maxSteps:=10^7) only[go_sem,seval,↓gZ,af,ad,e1,d1,d2,d3]
  ·have ab:((s.takeWhile isD).length:Int)<(s.length:Int):=by have:=(Kb.1 hc).1;omega
   have ah:¬((48:Int)≤c.toNat∧(c.toNat:Int)≤57):=fun h=>hD ((Jv c).2 (by omega));by_cases h1:(48:Int)≤c.toNat
   ·have h2:¬(c.toNat:Int)≤57:=fun h=>ah ⟨h1,h⟩;cases hr:rd (s.takeWhile isD) with
    | none=>
     rw[hr] at aa e1;simp only[ZaB] at e1 aa;subst aa;simp +contextual -implicitDefEqProofs (maxSteps:=10^7) only[go_sem,seval,↓gZ,ab,hc,h1,h2,ad,e1,d1,d2,d3]
    | some v=>
     rw[hr] at aa e1;simp only[ZaB] at e1 aa;subst aa;simp +contextual -implicitDefEqProofs (maxSteps:=10^7) only[go_sem,seval,↓gZ,ab,hc,h1,h2,ad,e1,d1,d2,d3]
   ·cases hr:rd (s.takeWhile isD) with
    | none=>
     rw[hr] at aa e1;simp only[ZaB] at e1 aa;subst aa;simp +contextual -implicitDefEqProofs (maxSteps:=10^7) only[go_sem,seval,↓gZ,ab,hc,h1,ad,e1,d1,d2,d3]
    | some v=>
     rw[hr] at aa e1;simp only[ZaB] at e1 aa;subst aa;simp +contextual -implicitDefEqProofs (maxSteps:=10^7) only[go_sem,seval,↓gZ,ab,hc,h1,ad,e1,d1,d2,d3]
def TkR (res:Option (AV×List Zf)) (m:Option (BT×List UInt8)):Prop:=∃ (o a q:Int) (t:Bool) (ks:List Ze) (r:List UInt8) (ok:Bool),
 res=some (.tup [.agg [(.d (J o)),(.d (J a)),(.d (J q)),(.d (.bool t)),.own 0],.d (.str r),(.d (.bool ok))],[plO ks])∧(match m with | some (b,r')=>ok=true∧b.plan=.mk o a q t ks∧r'=r | none=>ok=false)
theorem ZaC {res:Option (AV×List Zf)} {o a q:Int} {t:Bool} {ks:List Ze} {r:List UInt8} (h:res=some (.tup [.agg [(.d (J o)),(.d (J a)),(.d (J q)),(.d (.bool t)),.own 0],.d (.str r),(.d (.bool false))],[plO ks])):TkR res none:=⟨o,a,q,t,ks,r,false,h,rfl⟩
theorem Zg1 {res:Option (AV×List Zf)} {b:BT} {o a q:Int} {t:Bool} {ks:List Ze} {r:List UInt8} (hb:b.plan=.mk o a q t ks) (h:res=some (.tup [.agg [(.d (J o)),(.d (J a)),(.d (J q)),(.d (.bool t)),.own 0],.d (.str r),(.d (.bool true))],[plO ks])):TkR res (some (b,r)):=⟨o,a,q,t,ks,r,true,h,rfl,hb,rfl⟩
theorem J4 (c:UInt8) {k:Int} (d:UInt8) (hd:(d.toNat:Int)=k):(c.toNat:Int)=k↔c=d:=by
 constructor
 ·intro h;apply UInt8.toNat_inj.1;omega
 ·rintro rfl;exact hd
theorem Zrb (n:Nat):tk n []=none:=by cases n<;>rfl
theorem Zjl:∀ (n:Nat) (s:List UInt8),s.length≤n→s.length≤1048576→TkR (Zj Xs Ms XO [.d (.str s)] []) (tk n s):=by
 intro n
 induction n with
 | zero=>
  intro s hs _;obtain rfl:=Kh (Nat.le_zero.1 hs);rw[Zrb];refine ZaC (o:=0) (a:=0) (q:=0) (t:=false) (ks:=[]) (r:=[]) ?_;refine cE ?_;simp +contextual -implicitDefEqProofs (maxSteps:=10^7) only[go_sem,seval,↓gZ,Zz]
 | succ n IH=>
  intro s hs al;cases s with
  | nil=>
   rw[Zrb];refine ZaC (o:=0) (a:=0) (q:=0) (t:=false) (ks:=[]) (r:=[]) ?_;refine cE ?_;simp +contextual -implicitDefEqProofs (maxSteps:=10^7) only[go_sem,seval,↓gZ,Zz]
  | cons c s=>
   simp only[Km] at hs al;have hb:(c :: s==[])=false:=rfl;have d3:s.take s.length=s:=KN;have aa:(1:Int)≤((s.length+1:Nat):Int):=by omega
   have e1:=ZgG s (by omega);by_cases c1:c=119
   ·have n1:(c.toNat:Int)=119:=(J4 c 119 rfl).2 c1;have am:tk (n+1) (c :: s)=some (.waste,s):=by rw[tk,Ko c1]
    rw[am];refine Zg1 (b:=.waste) rfl ?_;refine cE ?_;simp +contextual -implicitDefEqProofs (maxSteps:=10^7) only[go_sem,seval,↓gZ,Zz,hb,d3,aa,n1]
   have n1:¬(c.toNat:Int)=119:=fun h=>c1 ((J4 c 119 rfl).1 h);rw[tk,Kf c1];cases hr:rd (s.takeWhile isD) with
   | none=>
    simp only[tnV,hr] at e1;refine ZaC (o:=0) (a:=0) (q:=0) (t:=false) (ks:=[]) (r:=[]) ?_;refine cE ?_;simp +contextual -implicitDefEqProofs (maxSteps:=10^7) only[go_sem,seval,↓gZ,Zz,hb,d3,aa,n1,e1]
   | some v=>
    simp only[tnV,hr] at e1;have hv:=(VD hr).2;obtain⟨r1,ah⟩:∃ r1,s.dropWhile isD=r1:=⟨_,rfl⟩
    rw[ah] at e1;have ar:r1.length≤s.length:=by rw[← ah];exact List.IsSuffix.length_le (List.dropWhile_suffix isD)
    simp only[KF,ah];by_cases c2:c=112
    ·have n2:(c.toNat:Int)=112:=(J4 c 112 rfl).2 c2;have n3:¬(c.toNat:Int)=116:=by omega
     rw[ZfW,Ko c2];refine Zg1 (b:=.pane v false) rfl ?_;refine cE ?_;simp +contextual -implicitDefEqProofs (maxSteps:=10^7) only[go_sem,seval,↓gZ,Zz,hb,d3,aa,n1,n2,n3,e1]
    have n2:¬(c.toNat:Int)=112:=fun h=>c2 ((J4 c 112 rfl).1 h);rw[ZfW,Kf c2];by_cases c3:c=116
    ·have n3:(c.toNat:Int)=116:=(J4 c 116 rfl).2 c3;rw[Ko c3];refine Zg1 (b:=.pane v true) rfl ?_;refine cE ?_;simp +contextual -implicitDefEqProofs (maxSteps:=10^7) only[go_sem,seval,↓gZ,Zz,hb,d3,aa,n1,n2,n3,e1]
    have n3:¬(c.toNat:Int)=116:=fun h=>c3 ((J4 c 116 rfl).1 h);rw[Kf c3];have ad:∀ d:Bool,(if d then (c.toNat:Int)=100 else ¬(c.toNat:Int)=100∧(c.toNat:Int)=97)→TkR (Zj Xs Ms XO [.d (.str (c :: s))] []) (ZfV d v (tk n) r1):=by
     intro d hd;have k1:=YP r1 40 (by omega);unfold ZfV Zk0 at *;cases h40:VJ 40 r1 with
     | none=>
      simp only[h40] at k1;simp only[LA];obtain⟨o1,a1,q1,t1,ab,r3,an,i1,_⟩:=IH r1 (by omega) (by omega);refine ZaC (o:=0) (a:=0) (q:=0) (t:=false) (ks:=[]) (r:=[]) ?_;refine cE ?_;cases d with
      | true=>
       simp only[Kl] at hd;cases ab<;>simp +contextual -implicitDefEqProofs (maxSteps:=10^7) only[go_sem,seval,↓gZ,Zz,hb,d3,aa,n1,n2,n3,e1,hd,k1,i1]
      | false=>
       simp only[Ka,Kn] at hd;cases ab<;>simp +contextual -implicitDefEqProofs (maxSteps:=10^7) only[go_sem,seval,↓gZ,Zz,hb,d3,aa,n1,n2,n3,e1,hd.1,hd.2,k1,i1]
     | some r2=>
      simp only[h40] at k1;simp only[KF];have x2:=WW h40;have ai:r2.length≤n∧r2.length≤1048576:=by
       have:r1.length=r2.length+1:=by rw[x2];rfl
       omega
      obtain⟨o1,a1,q1,t1,ab,r3,an,i1,m1⟩:=IH r2 ai.1 ai.2;cases h2:tk n r2 with
      | none=>
       rw[h2] at m1;simp only at m1;subst m1;simp only[LA];refine ZaC (o:=0) (a:=0) (q:=0) (t:=false) (ks:=[]) (r:=[]) ?_;refine cE ?_;cases d with
       | true=>
        simp only[Kl] at hd;cases ab<;>simp +contextual -implicitDefEqProofs (maxSteps:=10^7) only[go_sem,seval,↓gZ,Zz,hb,d3,aa,n1,n2,n3,e1,hd,k1,i1]
       | false=>
        simp only[Ka,Kn] at hd;cases ab<;>simp +contextual -implicitDefEqProofs (maxSteps:=10^7) only[go_sem,seval,↓gZ,Zz,hb,d3,aa,n1,n2,n3,e1,hd.1,hd.2,k1,i1]
      | some p1=>
       obtain⟨b1,af⟩:=p1;rw[h2] at m1;simp only at m1;obtain⟨rfl,ao,rfl⟩:=m1;simp only[KF];have s1:=(Zbp n r2 b1 af h2).1;have aj:af.length≤n∧af.length≤1048576:=by
        have:r2.length=(shw b1).length+af.length:=by rw[s1,Ks]
        omega
       have k2:=YP af 44 (by omega);unfold Zk0 at k2;cases h44:VJ 44 af with
       | none=>
        simp only[h44] at k2;simp only[LA];obtain⟨o2,a2,q2,t2,ae,r5,ap,i2,_⟩:=IH af aj.1 aj.2;refine ZaC (o:=0) (a:=0) (q:=0) (t:=false) (ks:=[]) (r:=[]) ?_;refine cE ?_;cases d with
        | true=>
         simp only[Kl] at hd;cases ab<;>cases ae<;>simp +contextual -implicitDefEqProofs (maxSteps:=10^7) only[go_sem,seval,↓gZ,Zz,hb,d3,aa,n1,n2,n3,e1,hd,k1,i1,k2,i2]
        | false=>
         simp only[Ka,Kn] at hd;cases ab<;>cases ae<;>simp +contextual -implicitDefEqProofs (maxSteps:=10^7) only[go_sem,seval,↓gZ,Zz,hb,d3,aa,n1,n2,n3,e1,hd.1,hd.2,k1,i1,k2,i2]
       | some r4=>
        simp only[h44] at k2;simp only[KF];have x4:=WW h44;have ak:r4.length≤n∧r4.length≤1048576:=by
         have:af.length=r4.length+1:=by rw[x4];rfl
         omega
        obtain⟨o2,a2,q2,t2,ae,r5,ap,i2,m2⟩:=IH r4 ak.1 ak.2;cases h4:tk n r4 with
        | none=>
         rw[h4] at m2;simp only at m2;subst m2;simp only[LA];refine ZaC (o:=0) (a:=0) (q:=0) (t:=false) (ks:=[]) (r:=[]) ?_;refine cE ?_;cases d with
         | true=>
          simp only[Kl] at hd;cases ab<;>cases ae<;>simp +contextual -implicitDefEqProofs (maxSteps:=10^7) only[go_sem,seval,↓gZ,Zz,hb,d3,aa,n1,n2,n3,e1,hd,k1,i1,k2,i2]
         | false=>
          simp only[Ka,Kn] at hd;cases ab<;>cases ae<;>simp +contextual -implicitDefEqProofs (maxSteps:=10^7) only[go_sem,seval,↓gZ,Zz,hb,d3,aa,n1,n2,n3,e1,hd.1,hd.2,k1,i1,k2,i2]
        | some p2=>
         obtain⟨b2,ag⟩:=p2;rw[h4] at m2;simp only at m2;obtain⟨rfl,aq,rfl⟩:=m2;simp only[KF];have s2:=(Zbp n r4 b2 ag h4).1;have au:ag.length≤1048576:=by
          have:r4.length=(shw b2).length+ag.length:=by rw[s2,Ks]
          omega
         have k3:=YP ag 41 (by omega);unfold Zk0 at k3;cases h41:VJ 41 ag with
         | none=>
          simp only[h41] at k3;simp only[LA];refine ZaC (o:=Zfy d) (a:=v) (q:=0) (t:=false) (ks:=[.mk o1 a1 q1 t1 ab,.mk o2 a2 q2 t2 ae]) (r:=ag) ?_;refine cE ?_;cases d with
          | true=>
           simp only[Kl] at hd;cases ab<;>cases ae<;>simp +contextual -implicitDefEqProofs (maxSteps:=10^7) only[go_sem,seval,↓gZ,Zz,hb,d3,aa,n1,n2,n3,e1,hd,k1,i1,k2,i2,k3,Zfy]
          | false=>
           simp only[Ka,Kn] at hd;cases ab<;>cases ae<;>simp +contextual -implicitDefEqProofs (maxSteps:=10^7) only[go_sem,seval,↓gZ,Zz,hb,d3,aa,n1,n2,n3,e1,hd.1,hd.2,k1,i1,k2,i2,k3,Zfy]
         | some r6=>
          simp only[h41] at k3;simp only[KF];refine Zg1 (b:=.cut d v b1 b2) (o:=Zfy d) (a:=v) (q:=0) (t:=false) (ks:=[.mk o1 a1 q1 t1 ab,.mk o2 a2 q2 t2 ae]) (by rw[BT.plan,ao,aq]) ?_;refine cE ?_;cases d with
          | true=>
           simp only[Kl] at hd;cases ab<;>cases ae<;>simp +contextual -implicitDefEqProofs (maxSteps:=10^7) only[go_sem,seval,↓gZ,Zz,hb,d3,aa,n1,n2,n3,e1,hd,k1,i1,k2,i2,k3,Zfy]
          | false=>
           simp only[Ka,Kn] at hd;cases ab<;>cases ae<;>simp +contextual -implicitDefEqProofs (maxSteps:=10^7) only[go_sem,seval,↓gZ,Zz,hb,d3,aa,n1,n2,n3,e1,hd.1,hd.2,k1,i1,k2,i2,k3,Zfy]
    by_cases c4:c=100
    ·have n4:(c.toNat:Int)=100:=(J4 c 100 rfl).2 c4;rw[Ko c4];exact ad true n4
    have n4:¬(c.toNat:Int)=100:=fun h=>c4 ((J4 c 100 rfl).1 h);rw[Kf c4];by_cases c5:c=97
    ·have n5:(c.toNat:Int)=97:=(J4 c 97 rfl).2 c5;rw[Ko c5];exact ad false ⟨n4,n5⟩
    have n5:¬(c.toNat:Int)=97:=fun h=>c5 ((J4 c 97 rfl).1 h);rw[Kf c5];refine ZaC (o:=0) (a:=0) (q:=0) (t:=false) (ks:=[]) (r:=[]) ?_;refine cE ?_;simp +contextual -implicitDefEqProofs (maxSteps:=10^7) only[go_sem,seval,↓gZ,Zz,hb,d3,aa,n1,n2,n3,n4,n5,e1]
def J5 (s:List UInt8):Option BT:=if s.length≤1600 then ZeZ s else none
def PrR (res:Option (AV×List Zf)) (m:Option BT):Prop:=∃ (o a q:Int) (t:Bool) (ks:List Ze),
 res=some (.tup [.agg [(.d (J o)),(.d (J a)),(.d (J q)),(.d (.bool t)),.own 0],(.d (.bool (m.isSome)))],[.row 5 (ks.map Ze.enc) true false])∧Ze.mk o a q t ks=(m.getD .waste).plan
theorem Zdd {res:Option (AV×List Zf)} (h:res=some (.tup [.agg [(.d (J 0)),(.d (J 0)),(.d (J 0)),(.d (.bool false)),.own 0],(.d (.bool false))],[.row 5 [] true false])):PrR res none:=⟨0,0,0,false,[],h,rfl⟩
def PrT (res:Option (AV×List Zf)) (m:Option BT):Prop:=∃ (o a q:Int) (t:Bool) (ks:List Ze),
 res=some (.tup [.agg [(.d (J o)),(.d (J a)),(.d (J q)),(.d (.bool t)),.own 0],(.d (.bool (m.isSome)))],[plO ks])∧Ze.mk o a q t ks=(m.getD .waste).plan
theorem Zhn {res:Option (AV×List Zf)} (h:res=some (.tup [.agg [(.d (J 0)),(.d (J 0)),(.d (J 0)),(.d (.bool false)),.own 0],(.d (.bool false))],[.row 5 [] true false])):PrT res none:=⟨0,0,0,false,[],h,rfl⟩
theorem Zbs (s:List UInt8) (hs:s.length≤1048576):PrT (Zj Xs Ms Vt [.d (.str s)] []) (J5 s):=by
 unfold J5;by_cases hl:s.length≤1600
 ·rw[Ko hl];have aa : ¬(1600:Int)<(s.length:Int):=by omega
  obtain⟨o,a,q,t,ks,r,ok,e1,m1⟩:=Zjl s.length s (Kg _) hs;unfold ZeZ;cases h1:tk s.length s with
  | none=>
   rw[h1] at m1;simp only at m1;subst m1;refine Zhn ?_;refine cE ?_;cases ks<;>simp +contextual -implicitDefEqProofs (maxSteps:=10^7) only[go_sem,seval,↓gZ,Qv,aa,e1]
  | some p1=>
   obtain⟨b,r'⟩:=p1;rw[h1] at m1;simp only at m1;obtain⟨rfl,hb,rfl⟩:=m1;cases r' with
   | cons x r2=>
    have hx:(x :: r2==[])=false:=rfl;refine Zhn ?_;refine cE ?_;cases ks<;>simp +contextual -implicitDefEqProofs (maxSteps:=10^7) only[go_sem,seval,↓gZ,Qv,aa,e1,hx]
   | nil=>
    have e2:=Zjg b.plan;have e3:=W6 b;rw[XK] at e2;rw[hb,Ze.enc_mk] at e2 e3;show PrT _ (if b.cnt≤255∧Vn b=true then some b else none);rcases Q7 255 b with ⟨hc,hz⟩ | ⟨hc,hz⟩
    ·rw[hz] at e2;have h0:¬(b.cnt:Int)<0:=by omega
     cases hcb:Vn b with
     | false=>
      rw[hcb] at e3;rw[Kf (fun h=>by cases h.2)];refine Zhn ?_;refine cE ?_;by_cases hk:ks=[]
      ·subst hk;simp only[Ku] at e2 e3;simp +contextual -implicitDefEqProofs (maxSteps:=10^7) only[go_sem,seval,↓gZ,Qv,aa,e1,e2,e3,h0]
       all_goals rfl
      ·have hp:=ZnB hk;simp +contextual -implicitDefEqProofs (maxSteps:=10^7) only[go_sem,seval,↓gZ,Qv,aa,e1,e2,e3,h0,hp]
       all_goals rfl
     | true=>
      rw[hcb] at e3;rw[Ko ⟨by omega,rfl⟩];refine⟨o,a,q,t,ks,?_,hb.symm⟩;refine cE ?_;by_cases hk:ks=[]
      ·subst hk;simp only[Ku] at e2 e3;simp +contextual -implicitDefEqProofs (maxSteps:=10^7) only[go_sem,seval,↓gZ,Qv,aa,e1,e2,e3,h0]
       all_goals rfl
      ·have hp:=ZnB hk;simp +contextual -implicitDefEqProofs (maxSteps:=10^7) only[go_sem,seval,↓gZ,Qv,aa,e1,e2,e3,h0,hp]
       all_goals rfl
      all_goals rfl
    ·rw[hz] at e2;rw[Kf (fun h=>by omega)];refine Zhn ?_;refine cE ?_;by_cases hk:ks=[]
     ·subst hk;simp only[Ku] at e2 e3;simp +contextual -implicitDefEqProofs (maxSteps:=10^7) only[go_sem,seval,↓gZ,Qv,aa,e1,e2]
      all_goals rfl
     ·have hp:=ZnB hk;simp +contextual -implicitDefEqProofs (maxSteps:=10^7) only[go_sem,seval,↓gZ,Qv,aa,e1,e2,hp]
      all_goals rfl
 ·rw[Kf hl];have aa : (1600:Int)<(s.length:Int):=by omega
  refine Zhn ?_;refine cE ?_;simp +contextual -implicitDefEqProofs (maxSteps:=10^7) only[go_sem,seval,↓gZ,Qv,aa]
end Go.Proofs.YtgpiffflfkoocaaDoor
