/- Own text. -/
import Derived.Test.YtnachaiejoflhaaDoorACode
import Derived.Test.YtnachaiejoflhaaDoorAbsParts
import Derived.Test.YtnachaiejoflhaaDoorAC4
import Derived.Test.YtnachaiejoflhaaDoorAbsOkD
namespace Go.Proofs.YtnachaiejoflhaaDoor
open Go Go.Abs Go.Abs.E Go.Abs.L
open Nat (reduceMul reduceSub reduceLeDiff reduceEqDiff)
open Int (reduceLE reduceEq reduceToNat reduceNeg)
set_option linter.unusedSimpArgs false
set_option linter.unusedVariables false
set_option maxRecDepth 20000
set_option maxHeartbeats 4000000
def Un (s:List UInt8):Int:=match rd s with
 | some v=>(v:Int)
 | none=>-1
theorem ZdN {s:List UInt8} (h:rd s=none):Un s=-1:=by unfold Un;rw[h]
theorem WV {s:List UInt8} {v:Nat} (h:rd s=some v):Un s=v:=by unfold Un;rw[h]
theorem rd_iff {s:List UInt8} {v:Nat}:rd s=some v↔s=num v∧v≤999999:=⟨Vy,fun ⟨h1,h2⟩=>by rw[h1];exact UJ h2⟩
theorem ZqM (s:List UInt8) (k:Nat):val (s.take k)≤val s:=by
 have aa:∀ (u:List UInt8) (n:Nat),n≤u.foldl (fun n c=>10*n+(c.toNat-48)) n:=by
  intro u
  induction u with
  | nil=>intro n;exact Kg _
  | cons c u ih=>intro n;exact LF (show n≤10*n+(c.toNat-48) by omega) (ih _)
 conv=>rhs;rw[← KX k s]
 unfold val;rw[List.foldl_append];exact aa _ _
theorem Xd (s:List UInt8) (hs:s.length≤1048576):Zj Xs Ms Qd [.d (.str s)] []=some ((.d (J (Un s))),[]):=by
 generalize aa:Un s=res;refine cE ?_;simp +contextual -implicitDefEqProofs (maxSteps:=10^7) only[go_sem,seval,↓gZ,UT];refine LO (α:=Nat) (fun k=>[(4,.d (J (k:Int))),(3,.d (J (val (s.take k):Nat)))]) (fun _=>[]) (fun k=>k≤s.length∧(∀ c∈s.take k,isD c=true)∧val (s.take k)≤999999) (fun k=>s.length-k) 0 (by simp[val]) ?_;intro k ⟨hk,hd,hv⟩ ih;by_cases ak:k<s.length
 ·obtain⟨c,hc⟩:∃ c,s[k]?=some c:=⟨_,Ki ak⟩
  have ab : (k:Int)<(s.length:Int):=by omega
  by_cases hD:isD c=true
  ·have ag:=(Jm c).1 hD;have w1:=wi (10*(val (s.take k):Nat)) (by omega) (by omega);have w2:=wu8 ((c.toNat:Int)-48) (by omega) (by omega);have w3:=wi ((c.toNat:Int)-48) (by omega) (by omega);have w4:IntKind.i64.wrap (10*(val (s.take k):Nat)+((c.toNat:Int)-48))=((val (s.take (k+1)):Nat):Int):=by
    rw[wi _ (by omega) (by omega),ZlO hc];omega
   have w5:=ZY (k:=k) (by omega);by_cases ae:val (s.take (k+1))≤999999
   ·have hb:¬(999999:Int)<((val (s.take (k+1)):Nat):Int):=by omega
    simp +contextual -implicitDefEqProofs (maxSteps:=10^7) only[go_sem,seval,↓gZ,ab,hc,ag.1,ag.2,w1,w2,w3,w4,w5,hb];refine ih (k+1) _ ⟨by omega,fun d ad=>?_,ae⟩ (by omega) ?_
    ·rw[K2 ak] at ad;rcases Kd.1 ad with ad | ad
     ·exact hd d ad
     ·simp only[Ky] at ad;rw[ad,(Kc.1 hc).2];exact hD
    ·simp +contextual -implicitDefEqProofs (maxSteps:=10^7) only[go_sem,seval,↓gZ]
   ·have hb:(999999:Int)<((val (s.take (k+1)):Nat):Int):=by omega
    have af:rd s=none:=by
     cases hr:rd s with
     | none=>rfl
     | some v=>
      obtain⟨h1,h2⟩:=Vy hr;have:=ZqM s (k+1);rw[h1,ZkH] at this;rw[h1] at ae;omega
    rw[ZdN af] at aa;subst aa;simp +contextual -implicitDefEqProofs (maxSteps:=10^7) only[go_sem,seval,↓gZ,ab,hc,ag.1,ag.2,w1,w2,w3,w4,w5,hb]
  ·have af:rd s=none:=by
    cases hr:rd s with
    | none=>rfl
    | some v=>
     obtain⟨h1,h2⟩:=Vy hr;rw[h1] at hc;exact absurd (ZgF v c (Kr hc)) hD
   rw[ZdN af] at aa;subst aa;by_cases ai:(c.toNat:Int)<48
   ·simp +contextual -implicitDefEqProofs (maxSteps:=10^7) only[go_sem,seval,↓gZ,ab,hc,ai]
   ·have am:(57:Int)<(c.toNat:Int):=Classical.byContradiction fun h=>hD ((Jm c).2 ⟨ai,h⟩);simp +contextual -implicitDefEqProofs (maxSteps:=10^7) only[go_sem,seval,↓gZ,ab,hc,ai,am]
 ·have an:k=s.length:=by omega
  subst an;have ht:s.take s.length=s:=KR;rw[ht] at hd hv;have al:¬(s.length:Int)<(s.length:Int):=by omega
  have e1:=X9 (val s) (by omega);by_cases hn:s=[]
  ·subst hn;rw[ZdN (Zg4 fun h=>h.1 rfl)] at aa;subst aa;simp +contextual -implicitDefEqProofs (maxSteps:=10^7) only[go_sem,seval,↓gZ]
  ·have hb:(s==[])=false:=by
    cases s with
    | nil=>exact absurd rfl hn
    | cons x r=>rfl
   by_cases ah:s=num (val s)
   ·have aj:(s==num (val s))=true:=by rw[beq_iff_eq];exact ah
    rw[WV (rd_iff.2 ⟨ah,hv⟩)] at aa;subst aa;simp +contextual -implicitDefEqProofs (maxSteps:=10^7) only[go_sem,seval,↓gZ,ht,al,e1,hb,aj]
   ·have aj:(s==num (val s))=false:=by simpa using ah
    have af:rd s=none:=by
     cases hr:rd s with
     | none=>rfl
     | some v=>
      obtain⟨h1,h2⟩:=Vy hr;exact absurd (by
       conv=>rhs;rw[h1,ZkH]
       exact h1) ah
    rw[ZdN af] at aa;subst aa;simp +contextual -implicitDefEqProofs (maxSteps:=10^7) only[go_sem,seval,↓gZ,ht,al,e1,hb,aj]
def nxB (s:List UInt8) (k:Nat):Int:=match s[k]? with
 | some c=>(c.toNat:Int)
 | none=>0
theorem Zbi {s:List UInt8} {k:Nat} {c:UInt8} (h:s[k]?=some c):nxB s k=c.toNat:=by unfold nxB;rw[h]
theorem ZdO {s:List UInt8} {k:Nat} (h:s[k]?=none):nxB s k=0:=by unfold nxB;rw[h]
theorem JW (s:List UInt8) (k:Nat) (bad:Bool):Zj Xs Ms Qs [.ptr 0 0] [.box [.d (.str s),(.d (J k)),(.d (.bool bad))]]=some (.d (.int .u8 (nxB s k)),[.box [.d (.str s),(.d (J k)),(.d (.bool bad))]]):=by
 by_cases h:k<s.length
 ·obtain⟨c,hc⟩:∃ c,s[k]?=some c:=⟨_,Ki h⟩
  rw[Zbi hc];have h' : ¬(s.length:Int)≤(k:Int):=by omega
  refine cE ?_;simp +contextual -implicitDefEqProofs (maxSteps:=10^7) only[go_sem,seval,↓gZ,Yz,h',hc]
 ·rw[ZdO (by simp;omega)];have h' : (s.length:Int)≤(k:Int):=by omega
  refine cE ?_;simp +contextual -implicitDefEqProofs (maxSteps:=10^7) only[go_sem,seval,↓gZ,Yz,h']
theorem Zpr (s:List UInt8) (k:Nat) (n:Int) (hk:k≤10000000) (h:nxB s k=n):Zj Xs Ms Z7 [.ptr 0 0,.d (.int .u8 n)] [.box [.d (.str s),(.d (J k)),(.d (.bool false))]]=some (.tup [],[.box [.d (.str s),(.d (J ((k+1:Nat)))),(.d (.bool false))]]):=by
 have e1:=JW s k false;rw[h] at e1;have w:=ZY (k:=k) (by omega);refine cE ?_;simp +contextual -implicitDefEqProofs (maxSteps:=10^7) only[go_sem,seval,↓gZ,Q9,e1,w]
theorem Znj (s:List UInt8) (k:Nat) (n:Int) (bad:Bool) (hk:k≤10000000) (h:¬nxB s k=n):Zj Xs Ms Z7 [.ptr 0 0,.d (.int .u8 n)] [.box [.d (.str s),(.d (J k)),(.d (.bool bad))]]=some (.tup [],[.box [.d (.str s),(.d (J ((k+1:Nat)))),(.d (.bool true))]]):=by
 have e1:=JW s k bad;have w:=ZY (k:=k) (by omega);refine cE ?_;cases bad with
 | false=>simp +contextual -implicitDefEqProofs (maxSteps:=10^7) only[go_sem,seval,↓gZ,Q9,e1,w,h]
 | true=>simp +contextual -implicitDefEqProofs (maxSteps:=10^7) only[go_sem,seval,↓gZ,Q9,e1,w,h]
theorem Znk (s:List UInt8) (k:Nat) (hk:k≤s.length) (hs:s.length≤1048576) (x:List UInt8) (hx:(s.drop k).takeWhile isD=x) :
  Zj Xs Ms QZ [.ptr 0 0] [.box [.d (.str s),(.d (J k)),(.d (.bool false))]]=some ((.d (J (Un x))),[.box [.d (.str s),(.d (J ((k+x.length:Nat)))),(.d (.bool (decide (Un x<0))))]]):=by
 have ag:x.length≤s.length-k:=by have:=ZqK (p:=isD) (s.drop k);rw[hx,K7] at this;exact this
 generalize aa:Un x=res;refine cE ?_;simp +contextual -implicitDefEqProofs (maxSteps:=10^7) only[go_sem,seval,↓gZ,VJ];refine LO (α:=Nat) (fun _=>[]) (fun j=>[(0,.box [.d (.str s),(.d (J ((k+j:Nat)))),(.d (.bool false))])]) (fun j=>j≤x.length) (fun j=>s.length-j) 0 (by omega) ?_;intro j hj ih;have e1:=JW s (k+j) false;have w:IntKind.i64.wrap (((k+j:Nat):Int)+1)=((k+(j+1):Nat):Int):=by rw[ZY (k:=k+j) (by omega)];rfl
 by_cases ad:j<x.length
 ·obtain⟨c,hc,hD⟩:=ZqJ (p:=isD) (s:=s.drop k) (k:=j) (by rw[hx];exact ad);rw[KL] at hc;rw[Zbi hc] at e1;have ah:=(Jm c).1 hD;have h1:(48:Int)≤c.toNat:=by omega
  have h2:(c.toNat:Int)≤57:=by omega
  simp +contextual -implicitDefEqProofs (maxSteps:=10^7) only[go_sem,seval,↓gZ,e1,h1,h2,w];refine ih (j+1) _ (by omega) (by omega) ?_;simp +contextual -implicitDefEqProofs (maxSteps:=10^7) only[go_sem,seval,↓gZ]
 ·have ae:j=x.length:=by omega
  subst ae;have af:¬((48:Int)≤nxB s (k+x.length)∧nxB s (k+x.length)≤57):=by
   rcases Zni (p:=isD) (s:=s.drop k) with h | ⟨c,hc,hD⟩
   ·rw[hx,K7] at h;rw[ZdO (by simp;omega)];omega
   ·rw[hx,KL] at hc;rw[Zbi hc];intro h;exact hD ((Jm c).2 (by omega))
  have ab:(s.take (k+x.length)).drop k=x:=by
   rw[List.drop_take,show k+x.length-k=x.length by omega]
   conv=>lhs;rw[← hx]
   rw[Zoz,hx]
  have e2:=Xd x (by omega);rw[aa] at e2;have q1:((k+x.length:Nat):Int)≤(s.length:Int):=by omega
  have q2:(k:Int)≤((k+x.length:Nat):Int):=by omega
  by_cases h1:(48:Int)≤nxB s (k+x.length)
  ·have h2:¬nxB s (k+x.length)≤57:=fun h=>af ⟨h1,h⟩;simp +contextual -implicitDefEqProofs (maxSteps:=10^7) only[go_sem,seval,↓gZ,e1,h1,h2,ab,e2,q1,q2]
  ·simp +contextual -implicitDefEqProofs (maxSteps:=10^7) only[go_sem,seval,↓gZ,e1,h1,ab,e2,q1,q2]
theorem JX {s u v:List UInt8} {k:Nat} (h:s.drop k=u++v):s.drop (k+u.length)=v:=by
 have:=congrArg (List.drop u.length) h;rw[LM,List.drop_left] at this;exact this
theorem ZkK {s t:List UInt8} {k:Nat} {c:UInt8} (h:s.drop k=c :: t):nxB s k=c.toNat:=by
 refine Zbi ?_;have:(s.drop k)[0]?=some c:=by rw[h];rfl
 rwa [KL,Lx] at this
theorem ZqN {s:List UInt8} {k:Nat} {n:Int} (h:nxB s k=n) (hn:n≠0):k<s.length:=by
 rcases KO k s.length with h' | h'
 ·exact h'
 ·rw[ZdO (by simp;omega)] at h;exact absurd h.symm hn
theorem Zcb (b:BT) (r:List UInt8):(b=.waste∧shw b++r=119 :: r)∨(∃ i t,b=.pane i t∧shw b++r=(if t then 116 else 112) :: (num i.toNat++r)) ∨
  ∃ d a x y,b=.cut d a x y∧shw b++r=(if d then 100 else 97) :: (num a.toNat++40 :: (shw x++44 :: (shw y++41 :: r))):=by
 cases b with
 | waste=>exact .inl ⟨rfl,rfl⟩
 | pane i t=>exact .inr (.inl ⟨i,t,rfl,by simp[shw]⟩)
 | cut d a x y=>exact .inr (.inr ⟨d,a,x,y,rfl,by simp[shw]⟩)
theorem ZqO {s:List UInt8} {k:Nat} {c:UInt8} {d:Bool} (aa:s.drop k=c :: s.drop (k+1)) (hd:c=(if d then 100 else 97)) {b:BT} {r:List UInt8} (h2:Ul b=true) (h3:s.drop k=shw b++r) :
  ∃ a x y,b=.cut d a x y∧(0≤a∧a≤999999)∧Ul x=true∧Ul y=true∧s.drop (k+1)=num a.toNat++40 :: (shw x++44 :: (shw y++41 :: r)):=by
 rw[aa] at h3;rcases Zcb b r with ⟨rfl,h4⟩ | ⟨i,t,rfl,h4⟩ | ⟨d',a,x,y,rfl,h4⟩
 ·rw[h4,hd] at h3;cases d<;>cases h3
 ·rw[h4,hd] at h3;cases d<;>cases t<;>cases h3
 ·rw[h4] at h3;simp only[List.cons.injEq] at h3;obtain⟨h5,h6⟩:=h3;rw[hd] at h5;have ab:d=d':=by cases d<;>cases d' <;> first | rfl | cases h5
  subst ab;simp only[Ul,Kb,Kj] at h2;exact⟨a,x,y,rfl,h2.1.1,h2.1.2,h2.2,h6⟩
theorem ZqP {s r:List UInt8} {k v:Nat} (hv:v≤999999) (hr:Zg2 r) (h:s.drop k=num v++r):(s.drop k).takeWhile isD=num v∧Un (num v)=v:=by
 rw[h];exact⟨(Zg3 v hr).1,WV (UJ hv)⟩
theorem ZdP {c:UInt8} {r:List UInt8} (h:isD c=false):Zg2 (c :: r):=fun d t e=>by cases e;exact h
theorem ZeK (s:List UInt8) (k:Nat) (n:Int) (bad:Bool) (hk:k≤10000000):Zj Xs Ms Z7 [.ptr 0 0,.d (.int .u8 n)] [.box [.d (.str s),(.d (J k)),(.d (.bool bad))]]=some (.tup [],[.box [.d (.str s),(.d (J ((k+1:Nat)))),(.d (.bool (bad || !decide (nxB s k=n))))]]):=by
 by_cases h:nxB s k=n
 ·cases bad with
  | false=>
   rw[Zpr s k n hk h];simp[h]
  | true=>
   have e1:=JW s k true;have w:=ZY (k:=k) (by omega);refine cE ?_;simp +contextual -implicitDefEqProofs (maxSteps:=10^7) only[go_sem,seval,↓gZ,Q9,e1,w]
 ·rw[Znj s k n bad hk h];simp[h]
def SpR (s:List UInt8) (n k:Nat) (res:Option (AV×List Zf)):Prop:=∃ (o a q:Int) (t:Bool) (ks:List Ze) (k' : Nat) (bad:Bool),
 res=some (.agg [(.d (J o)),(.d (J a)),(.d (J q)),(.d (.bool t)),.own 1],[.box [.d (.str s),(.d (J (k'))),(.d (.bool bad))],.row 5 (ks.map Ze.enc) true false])∧k'≤s.length+2+n∧(bad=false→k'≤s.length∧k<k') ∧
 ∀ b r,Zg2 r→Ul b=true→s.drop k=shw b++r→Ze.mk o a q t ks=b.plan∧k'=k+(shw b).length∧bad=false
theorem ZgH {s:List UInt8} {n k k' : Nat} {res:Option (AV×List Zf)} (h:res=some (.agg [(.d (J 0)),(.d (J 0)),(.d (J 0)),(.d (.bool false)),.own 1],[.box [.d (.str s),(.d (J (k'))),(.d (.bool true))],.row 5 [] true false])) (hk:k'≤s.length+2+n) (aa:∀ b r,Zg2 r→Ul b=true→s.drop k≠shw b++r):SpR s n k res:=
 ⟨0,0,0,false,[],k',true,h,hk,(fun h=>by cases h),fun b r h1 h2 h3=>absurd h3 (aa b r h1 h2)⟩
theorem Zps (s:List UInt8) (hs:s.length≤1048576):∀ (n k:Nat),s.length-k<n→n≤2000000→k≤s.length→SpR s n k (Zj Xs Ms Z6 [.ptr 0 0] [.box [.d (.str s),(.d (J k)),(.d (.bool false))]]):=by
 intro n
 induction n with
 | zero=>intro k h;omega
 | succ n IH=>
  intro k hn aw hk;have e1:=JW s k false;have w:=ZY (k:=k) (by omega);by_cases al:k<s.length
  ·obtain⟨c,hc⟩:∃ c,s[k]?=some c:=⟨_,Ki al⟩
   have af:s.drop k=c :: s.drop (k+1):=by rw[K9 al,(Kc.1 hc).2]
   rw[Zbi hc] at e1;by_cases c1:c=119
   ·have n1:(c.toNat:Int)=119:=(JU c 119 rfl).2 c1;refine⟨0,0,0,false,[],k+1,false,?_,by omega,fun _=>by omega,fun b r h1 h2 h3=>?_⟩
    ·refine cE ?_;simp +contextual -implicitDefEqProofs (maxSteps:=10^7) only[go_sem,seval,↓gZ,ZB,e1,w,n1]
    ·rw[af,c1] at h3;rcases Zcb b r with ⟨rfl,_⟩ | ⟨i,t,rfl,h4⟩ | ⟨d,a,x,y,rfl,h4⟩
     ·exact⟨rfl,rfl,rfl⟩
     ·rw[h4] at h3;cases t<;>cases h3
     ·rw[h4] at h3;cases d<;>cases h3
   have n1:¬(c.toNat:Int)=119:=fun h=>c1 ((JU c 119 rfl).1 h);obtain⟨x,hx⟩:∃ x,(s.drop (k+1)).takeWhile isD=x:=⟨_,rfl⟩
   have ax:x.length≤s.length-(k+1):=by have:=ZqK (p:=isD) (s.drop (k+1));rw[hx,K7] at this;exact this
   have e2:=Znk s (k+1) (by omega) hs x hx;by_cases c2:c=112∨c=116
   ·have ad:∀ t:Bool,c=(if t then 116 else 112)→SpR s (n+1) k (Zj Xs Ms Z6 [.ptr 0 0] [.box [.d (.str s),(.d (J k)),(.d (.bool false))]]):=by
     intro t ht;refine⟨1,0,Un x,t,[],k+1+x.length,decide (Un x<0),?_,by omega,fun _=>by omega,fun b r h1 h2 h3=>?_⟩
     ·refine cE ?_;cases t with
      | false=>
       have n2:(c.toNat:Int)=112:=(JU c 112 rfl).2 ht;have n3:¬(c.toNat:Int)=116:=by omega
       simp +contextual -implicitDefEqProofs (maxSteps:=10^7) only[go_sem,seval,↓gZ,ZB,e1,w,n1,n2,n3,e2]
      | true=>
       have n3:(c.toNat:Int)=116:=(JU c 116 rfl).2 ht;have n2:¬(c.toNat:Int)=112:=by omega
       simp +contextual -implicitDefEqProofs (maxSteps:=10^7) only[go_sem,seval,↓gZ,ZB,e1,w,n1,n2,n3,e2]
     ·rw[af,ht] at h3;rcases Zcb b r with ⟨rfl,h4⟩ | ⟨i,t',rfl,h4⟩ | ⟨d,a,x,y,rfl,h4⟩
      ·rw[h4] at h3;cases t<;>cases h3
      ·rw[h4] at h3;simp only[List.cons.injEq] at h3;obtain⟨h5,h6⟩:=h3;have an:t=t':=by cases t<;>cases t' <;> first | rfl | cases h5
       subst an;simp only[Ul,Kj] at h2;obtain⟨g1,g2⟩:=ZqP (v:=i.toNat) (by omega) h1 h6;rw[hx] at g1;rw[g1,g2,KC h2.1];refine⟨rfl,by simp[shw];omega,by simp;omega⟩
      ·rw[h4] at h3;cases d<;>cases t<;>cases h3
    rcases c2 with c2 | c2
    ·exact ad false c2
    ·exact ad true c2
   have n2:¬(c.toNat:Int)=112:=fun h=>c2 (.inl ((JU c 112 rfl).1 h));have n3:¬(c.toNat:Int)=116:=fun h=>c2 (.inr ((JU c 116 rfl).1 h));by_cases c4:c=100∨c=97
   ·have ad:∀ d:Bool,c=(if d then 100 else 97)→SpR s (n+1) k (Zj Xs Ms Z6 [.ptr 0 0] [.box [.d (.str s),(.d (J k)),(.d (.bool false))]]):=by
     intro d hd;have hf:(if d then (c.toNat:Int)=100 else ¬(c.toNat:Int)=100∧(c.toNat:Int)=97):=by
      cases d with
      | true=>exact(JU c 100 rfl).2 hd
      | false=>
       have ao:(c.toNat:Int)=97:=(JU c 97 rfl).2 hd;exact⟨by omega,ao⟩
     have e3:=ZeK s (k+1+x.length) 40 (decide (Un x<0)) (by omega);have first:∀ b r,Zg2 r→Ul b=true→s.drop k=shw b++r→∃ a l y,b=.cut d a l y∧Ul l=true∧Ul y=true∧Un x=a∧0≤a∧x=num a.toNat∧nxB s (k+1+x.length)=40∧s.drop (k+1+x.length+1)=shw l++44 :: (shw y++41 :: r):=by
      intro b r h1 h2 h3;obtain⟨a,l,y,rfl,ha,hl,hy,h6⟩:=ZqO af hd h2 h3;obtain⟨g1,g2⟩:=ZqP (v:=a.toNat) (by omega) (ZdP rfl) h6;rw[hx] at g1;have h7:=JX h6;rw[← g1] at h7;refine⟨a,l,y,rfl,hl,hy,by rw[g1,g2];omega,ha.1,g1,ZkK h7,?_⟩;exact JX (u:=[40]) h7
     by_cases ag:Un x<0∨¬nxB s (k+1+x.length)=40
     ·have ai:(decide (Un x<0) || !decide (nxB s (k+1+x.length)=40))=true:=by
       rcases ag with h | h<;>simp[h]
      rw[ai] at e3;refine ZgH (k':=k+1+x.length+1) ?_ (by omega) fun b r h1 h2 h3=>?_
      ·refine cE ?_;cases d with
       | true=>
        simp only[Kk] at hf;simp +contextual -implicitDefEqProofs (maxSteps:=10^7) only[go_sem,seval,↓gZ,ZB,e1,w,n1,n2,n3,hf,e2,e3]
       | false=>
        simp only[Ka,Km] at hf;simp +contextual -implicitDefEqProofs (maxSteps:=10^7) only[go_sem,seval,↓gZ,ZB,e1,w,n1,n2,n3,hf.1,hf.2,e2,e3]
      ·obtain⟨a,l,y,_,_,_,m1,m2,_,m3,_⟩:=first b r h1 h2 h3;rcases ag with h | h
       ·omega
       ·exact h m3
     have aa : ¬Un x<0∧nxB s (k+1+x.length)=40:=⟨fun h=>ag (.inl h),Classical.byContradiction fun h=>ag (.inr h)⟩
     have ai:(decide (Un x<0) || !decide (nxB s (k+1+x.length)=40))=false:=by simp[aa.1,aa.2]<;>omega
     rw[ai] at e3;have ap:=ZqN aa.2 (by decide);obtain⟨o1,a1,q1,t1,aq,k3,b3,i1,g1,g2,g3⟩:=IH (k+1+x.length+1) (by omega) (by omega) (by omega);have e4:=ZeK s k3 44 b3 (by omega);by_cases ah:b3=true∨¬nxB s k3=44
     ·have ab:(b3 || !decide (nxB s k3=44))=true:=by
       rcases ah with h | h<;>simp[h]
      rw[ab] at e4;refine ZgH (k':=k3+1) ?_ (by omega) fun b r h1 h2 h3=>?_
      ·refine cE ?_;cases d with
       | true=>
        simp only[Kk] at hf;simp +contextual -implicitDefEqProofs (maxSteps:=10^7) only[go_sem,seval,↓gZ,ZB,e1,w,n1,n2,n3,hf,e2,e3,i1,e4]
       | false=>
        simp only[Ka,Km] at hf;simp +contextual -implicitDefEqProofs (maxSteps:=10^7) only[go_sem,seval,↓gZ,ZB,e1,w,n1,n2,n3,hf.1,hf.2,e2,e3,i1,e4]
      ·obtain⟨a,l,y,_,hl,_,_,_,_,_,m4⟩:=first b r h1 h2 h3;obtain⟨_,m5,m6⟩:=g3 l _ (ZdP rfl) hl m4;rcases ah with h | h
       ·rw[m6] at h;cases h
       ·exact h (by rw[m5];exact ZkK (JX m4))
     have aj : b3=false∧nxB s k3=44:=⟨by cases b3<;>first | rfl | exact absurd (.inl rfl) ah,Classical.byContradiction fun h=>ah (.inr h)⟩
     obtain⟨rfl,ae⟩:=aj;have ab:(false || !decide (nxB s k3=44))=false:=by simp[ae]
     rw[ab] at e4;have ar:=ZqN ae (by decide);have g2:=g2 rfl;obtain⟨o2,a2,q2,t2,au,k5,b5,i2,f1,f2,f3⟩:=IH (k3+1) (by omega) (by omega) (by omega);have e5:=ZeK s k5 41 b5 (by omega);refine⟨Zff d,Un x,0,false,[.mk o1 a1 q1 t1 aq,.mk o2 a2 q2 t2 au],k5+1,b5 || !decide (nxB s k5=41),?_,by omega,fun am=>?_,fun b r h1 h2 h3=>?_⟩
     ·refine cE ?_;cases d with
      | true=>
       simp only[Kk] at hf;simp +contextual -implicitDefEqProofs (maxSteps:=10^7) only[go_sem,seval,↓gZ,ZB,e1,w,n1,n2,n3,hf,e2,e3,i1,e4,i2,e5,Zff]
      | false=>
       simp only[Ka,Km] at hf;simp +contextual -implicitDefEqProofs (maxSteps:=10^7) only[go_sem,seval,↓gZ,ZB,e1,w,n1,n2,n3,hf.1,hf.2,e2,e3,i1,e4,i2,e5,Zff]
     ·cases b5 with
      | true=>cases am
      | false=>
       have ak:nxB s k5=41:=by simpa using am
       have:=ZqN ak (by decide);have:=f2 rfl;omega
     ·obtain⟨a,l,y,rfl,hl,hy,m1,m2,av,m3,m4⟩:=first b r h1 h2 h3;obtain⟨p1,p2,_⟩:=g3 l _ (ZdP rfl) hl m4;have m7:=JX m4;rw[← p2] at m7;have m8:s.drop (k3+1)=shw y++41 :: r:=JX (u:=[44]) m7;obtain⟨p3,p4,p5⟩:=f3 y _ (ZdP rfl) hy m8;have m9:=ZkK (JX m8);rw[← p4] at m9;refine⟨by rw[BT.plan,p1,p3,m1],?_,?_⟩
      ·rw[p4,p2,av];simp only[shw,Kn,Kt,Lo];omega
      ·rw[p5,m9];rfl
    rcases c4 with c4 | c4
    ·exact ad true c4
    ·exact ad false c4
   have n4:¬(c.toNat:Int)=100:=fun h=>c4 (.inl ((JU c 100 rfl).1 h));have n5:¬(c.toNat:Int)=97:=fun h=>c4 (.inr ((JU c 97 rfl).1 h));refine ZgH (k':=k+1) ?_ (by omega) fun b r h1 h2 h3=>?_
   ·refine cE ?_;simp +contextual -implicitDefEqProofs (maxSteps:=10^7) only[go_sem,seval,↓gZ,ZB,e1,w,n1,n2,n3,n4,n5]
   ·rw[af] at h3;rcases Zcb b r with ⟨rfl,h4⟩ | ⟨i,t,rfl,h4⟩ | ⟨d,a,x,y,rfl,h4⟩
    ·rw[h4] at h3;cases h3;exact c1 rfl
    ·rw[h4] at h3;simp only[List.cons.injEq] at h3;cases t
     ·exact c2 (.inl h3.1)
     ·exact c2 (.inr h3.1)
    ·rw[h4] at h3;simp only[List.cons.injEq] at h3;cases d
     ·exact c4 (.inr h3.1)
     ·exact c4 (.inl h3.1)
  ·rw[ZdO (by simp;omega)] at e1;refine ZgH (k':=k+1) ?_ (by omega) fun b r h1 h2 h3=>?_
   ·refine cE ?_;simp +contextual -implicitDefEqProofs (maxSteps:=10^7) only[go_sem,seval,↓gZ,ZB,e1,w]
   ·have hl:=congrArg List.length h3;have:=Zoy b;rw[K7,Kt] at hl;omega
theorem Zcc {s:List UInt8} {b:BT}:JV s=some b↔s.length≤1600∧s=shw b∧b.cnt≤255∧Vj b=true:=by
 unfold JV;by_cases h:s.length≤1600
 ·rw[Ko h,Zbg];exact⟨fun h'=>⟨h,h'⟩,fun h'=>h'.2⟩
 ·rw[Kf h];constructor
  ·intro h';cases h'
  ·intro h';exact absurd h'.1 h
theorem Zg6 (s:List UInt8) (hs:s.length≤1048576):PrR (Zj Xs Ms Vq [.d (.str s)] []) (JV s):=by
 by_cases hl:s.length≤1600
 ·have ab : ¬(1600:Int)<(s.length:Int):=by omega
  obtain⟨o,a,q,t,ks,k',bad,e1,g1,g2,g3⟩:=Zps s hs (s.length+1) 0 (by omega) (by omega) (by omega);rw[show ((0:Nat):Int)=0 from rfl] at e1;have hm:∀ b',JV s=some b'→Ze.mk o a q t ks=b'.plan∧k'=s.length∧bad=false∧s=shw b'∧b'.cnt≤255∧Vj b'=true:=by
   intro b' h;obtain⟨_,h1,h2,h3⟩:=Zcc.1 h;obtain⟨p1,p2,p3⟩:=g3 b' [] (fun c t e=>by cases e) (Um b' h3) (by rw[List.drop_zero,Lg];exact h1);rw[← h1] at p2;exact⟨p1,by omega,p3,h1,h2,h3⟩
  have aa:(∀ b',JV s=some b'→False)→JV s=none:=by
   intro h;cases hp:JV s with
   | none=>rfl
   | some b'=>exact absurd (h b' hp) id
  cases bad with
  | true=>
   rw[aa fun b' h=>by cases (hm b' h).2.2.1];refine Zc4 ?_;refine cE ?_;simp +contextual -implicitDefEqProofs (maxSteps:=10^7) only[go_sem,seval,↓gZ,QH,ab,e1]
  | false=>
   by_cases hk:k'=s.length
   ·subst hk;have e2:=ZcL (Ze.mk o a q t ks);cases hT:QV (Ze.mk o a q t ks) with
    | none=>
     rw[hT,Ze.enc_mk] at e2;have hz:Zn 255 none<0:=by rw[show Zn 255 none=-1 from rfl];omega
     rw[aa fun b' h=>by have:=(hm b' h).1;rw[this,XI] at hT;cases hT];refine Zc4 ?_;refine cE ?_;simp +contextual -implicitDefEqProofs (maxSteps:=10^7) only[go_sem,seval,↓gZ,QH,ab,e1,e2,hz]
    | some b=>
     have ad:=Zcu hT;have ae : ∀ b',JV s=some b'→b'=b:=by
      intro b' h;have:=(hm b' h).1;rw[this,XI] at hT;exact Option.some.inj hT
     rw[hT,Ze.enc_mk] at e2;rcases Q8 255 b with ⟨hc,hz⟩ | ⟨hc,hz⟩
     ·rw[hz] at e2;have h0:¬(b.cnt:Int)<0:=by omega
      have e3:=YK b;rw[← ad,Ze.enc_mk] at e3;cases hcb:Vj b with
      | false=>
       rw[hcb] at e3;rw[aa fun b' h=>by have h2:=(hm b' h).2.2.2.2.2;rw[ae b' h,hcb] at h2;cases h2];refine Zc4 ?_;refine cE ?_;simp +contextual -implicitDefEqProofs (maxSteps:=10^7) only[go_sem,seval,↓gZ,QH,ab,e1,e2,e3,h0]
      | true=>
       rw[hcb] at e3;have e4:=Yp b hcb (by omega);rw[← ad,Ze.enc_mk] at e4;by_cases hw:shw b=s
       ·rw[hw] at e4;have af:(s != s)=false:=by simp
        rw[Zcc.2 ⟨hl,hw.symm,by omega,hcb⟩];refine⟨o,a,q,t,ks,?_,ad⟩;refine cE ?_;simp +contextual -implicitDefEqProofs (maxSteps:=10^7) only[go_sem,seval,↓gZ,QH,ab,e1,e2,e3,e4,h0,af]
        all_goals rfl
       ·have af:(shw b==s)=false:=by simp[hw]
        rw[aa fun b' h=>hw (by have:=(hm b' h).2.2.2.1;rw[ae b' h] at this;exact this.symm)];refine Zc4 ?_;refine cE ?_;simp +contextual -implicitDefEqProofs (maxSteps:=10^7) only[go_sem,seval,↓gZ,QH,ab,e1,e2,e3,e4,h0,af]
     ·rw[hz] at e2;rw[aa fun b' h=>by have h2:=(hm b' h).2.2.2.2.1;rw[ae b' h] at h2;omega];refine Zc4 ?_;refine cE ?_;simp +contextual -implicitDefEqProofs (maxSteps:=10^7) only[go_sem,seval,↓gZ,QH,ab,e1,e2]
   ·rw[aa fun b' h=>hk (hm b' h).2.1];have ag : ¬(k' : Int)=(s.length:Int):=by omega
    refine Zc4 ?_;refine cE ?_;simp +contextual -implicitDefEqProofs (maxSteps:=10^7) only[go_sem,seval,↓gZ,QH,ab,e1,ag]
 ·have hm:JV s=none:=by unfold JV;rw[Kf hl]
  rw[hm];have ab : (1600:Int)<(s.length:Int):=by omega
  refine Zc4 ?_;refine cE ?_;simp +contextual -implicitDefEqProofs (maxSteps:=10^7) only[go_sem,seval,↓gZ,QH,ab]
end Go.Proofs.YtnachaiejoflhaaDoor
