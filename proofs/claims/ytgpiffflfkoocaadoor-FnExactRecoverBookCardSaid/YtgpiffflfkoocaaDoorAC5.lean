/- Own text. -/
import Derived.Test.YtgpiffflfkoocaaDoorACode
import Derived.Test.YtgpiffflfkoocaaDoorAbsParts
import Derived.Test.YtgpiffflfkoocaaDoorAC4
import Derived.Test.YtgpiffflfkoocaaDoorAbsOkD
namespace Go.Proofs.YtgpiffflfkoocaaDoor
open Go Go.Abs Go.Abs.E Go.Abs.L
open Nat (reduceMul reduceSub reduceLeDiff reduceEqDiff)
open Int (reduceLE reduceEq reduceToNat reduceNeg)
set_option linter.unusedSimpArgs false
set_option linter.unusedVariables false
set_option maxRecDepth 20000
set_option maxHeartbeats 4000000
def Us (s:List UInt8):Int:=match rd s with
 | some v=>(v:Int)
 | none=>-1
theorem ZdX {s:List UInt8} (h:rd s=none):Us s=-1:=by unfold Us;rw[h]
theorem WX {s:List UInt8} {v:Nat} (h:rd s=some v):Us s=v:=by unfold Us;rw[h]
theorem rd_iff {s:List UInt8} {v:Nat}:rd s=some v↔s=num v∧v≤999999:=⟨VD,fun ⟨h1,h2⟩=>by rw[h1];exact UP h2⟩
theorem Zrc (s:List UInt8) (k:Nat):val (s.take k)≤val s:=by
 have aa:∀ (u:List UInt8) (n:Nat),n≤u.foldl (fun n c=>10*n+(c.toNat-48)) n:=by
  intro u
  induction u with
  | nil=>intro n;exact Kg _
  | cons c u ih=>intro n;exact LQ (show n≤10*n+(c.toNat-48) by omega) (ih _)
 conv=>rhs;rw[← KZ k s]
 unfold val;rw[List.foldl_append];exact aa _ _
theorem Xc (s:List UInt8) (hs:s.length≤1048576):Zj Xs Ms Qd [.d (.str s)] []=some ((.d (J (Us s))),[]):=by
 generalize aa:Us s=res;refine cE ?_;simp +contextual -implicitDefEqProofs (maxSteps:=10^7) only[go_sem,seval,↓gZ,U1];refine LO (α:=Nat) (fun k=>[(4,.d (J (k:Int))),(3,.d (J (val (s.take k):Nat)))]) (fun _=>[]) (fun k=>k≤s.length∧(∀ c∈s.take k,isD c=true)∧val (s.take k)≤999999) (fun k=>s.length-k) 0 (by simp[val]) ?_;intro k ⟨hk,hd,hv⟩ ih;by_cases ak:k<s.length
 ·obtain⟨c,hc⟩:∃ c,s[k]?=some c:=⟨_,Kj ak⟩
  have ab : (k:Int)<(s.length:Int):=by omega
  by_cases hD:isD c=true
  ·have ag:=(Jv c).1 hD;have w1:=wi (10*(val (s.take k):Nat)) (by omega) (by omega);have w2:=wu8 ((c.toNat:Int)-48) (by omega) (by omega);have w3:=wi ((c.toNat:Int)-48) (by omega) (by omega);have w4:IntKind.i64.wrap (10*(val (s.take k):Nat)+((c.toNat:Int)-48))=((val (s.take (k+1)):Nat):Int):=by
    rw[wi _ (by omega) (by omega),Zl6 hc];omega
   have w5:=ZM (k:=k) (by omega);by_cases ae:val (s.take (k+1))≤999999
   ·have hb:¬(999999:Int)<((val (s.take (k+1)):Nat):Int):=by omega
    simp +contextual -implicitDefEqProofs (maxSteps:=10^7) only[go_sem,seval,↓gZ,ab,hc,ag.1,ag.2,w1,w2,w3,w4,w5,hb];refine ih (k+1) _ ⟨by omega,fun d ad=>?_,ae⟩ (by omega) ?_
    ·rw[Lf ak] at ad;rcases Kd.1 ad with ad | ad
     ·exact hd d ad
     ·simp only[Kz] at ad;rw[ad,(Kb.1 hc).2];exact hD
    ·simp +contextual -implicitDefEqProofs (maxSteps:=10^7) only[go_sem,seval,↓gZ]
   ·have hb:(999999:Int)<((val (s.take (k+1)):Nat):Int):=by omega
    have af:rd s=none:=by
     cases hr:rd s with
     | none=>rfl
     | some v=>
      obtain⟨h1,h2⟩:=VD hr;have:=Zrc s (k+1);rw[h1,ZkY] at this;rw[h1] at ae;omega
    rw[ZdX af] at aa;subst aa;simp +contextual -implicitDefEqProofs (maxSteps:=10^7) only[go_sem,seval,↓gZ,ab,hc,ag.1,ag.2,w1,w2,w3,w4,w5,hb]
  ·have af:rd s=none:=by
    cases hr:rd s with
    | none=>rfl
    | some v=>
     obtain⟨h1,h2⟩:=VD hr;rw[h1] at hc;exact absurd (Zg0 v c (Kp hc)) hD
   rw[ZdX af] at aa;subst aa;by_cases ai:(c.toNat:Int)<48
   ·simp +contextual -implicitDefEqProofs (maxSteps:=10^7) only[go_sem,seval,↓gZ,ab,hc,ai]
   ·have am:(57:Int)<(c.toNat:Int):=Classical.byContradiction fun h=>hD ((Jv c).2 ⟨ai,h⟩);simp +contextual -implicitDefEqProofs (maxSteps:=10^7) only[go_sem,seval,↓gZ,ab,hc,ai,am]
 ·have an:k=s.length:=by omega
  subst an;have ht:s.take s.length=s:=KN;rw[ht] at hd hv;have al:¬(s.length:Int)<(s.length:Int):=by omega
  have e1:=Yc (val s) (by omega);by_cases hn:s=[]
  ·subst hn;rw[ZdX (Zhm fun h=>h.1 rfl)] at aa;subst aa;simp +contextual -implicitDefEqProofs (maxSteps:=10^7) only[go_sem,seval,↓gZ]
  ·have hb:(s==[])=false:=by
    cases s with
    | nil=>exact absurd rfl hn
    | cons x r=>rfl
   by_cases ah:s=num (val s)
   ·have aj:(s==num (val s))=true:=by rw[beq_iff_eq];exact ah
    rw[WX (rd_iff.2 ⟨ah,hv⟩)] at aa;subst aa;simp +contextual -implicitDefEqProofs (maxSteps:=10^7) only[go_sem,seval,↓gZ,ht,al,e1,hb,aj]
   ·have aj:(s==num (val s))=false:=by simpa using ah
    have af:rd s=none:=by
     cases hr:rd s with
     | none=>rfl
     | some v=>
      obtain⟨h1,h2⟩:=VD hr;exact absurd (by
       conv=>rhs;rw[h1,ZkY]
       exact h1) ah
    rw[ZdX af] at aa;subst aa;simp +contextual -implicitDefEqProofs (maxSteps:=10^7) only[go_sem,seval,↓gZ,ht,al,e1,hb,aj]
def nxB (s:List UInt8) (k:Nat):Int:=match s[k]? with
 | some c=>(c.toNat:Int)
 | none=>0
theorem Zbt {s:List UInt8} {k:Nat} {c:UInt8} (h:s[k]?=some c):nxB s k=c.toNat:=by unfold nxB;rw[h]
theorem ZdY {s:List UInt8} {k:Nat} (h:s[k]?=none):nxB s k=0:=by unfold nxB;rw[h]
theorem J6 (s:List UInt8) (k:Nat) (bad:Bool):Zj Xs Ms Qs [.ptr 0 0] [.box [.d (.str s),(.d (J k)),(.d (.bool bad))]]=some (.d (.int .u8 (nxB s k)),[.box [.d (.str s),(.d (J k)),(.d (.bool bad))]]):=by
 by_cases h:k<s.length
 ·obtain⟨c,hc⟩:∃ c,s[k]?=some c:=⟨_,Kj h⟩
  rw[Zbt hc];have h' : ¬(s.length:Int)≤(k:Int):=by omega
  refine cE ?_;simp +contextual -implicitDefEqProofs (maxSteps:=10^7) only[go_sem,seval,↓gZ,YD,h',hc]
 ·rw[ZdY (by simp;omega)];have h' : (s.length:Int)≤(k:Int):=by omega
  refine cE ?_;simp +contextual -implicitDefEqProofs (maxSteps:=10^7) only[go_sem,seval,↓gZ,YD,h']
theorem ZpM (s:List UInt8) (k:Nat) (n:Int) (hk:k≤10000000) (h:nxB s k=n):Zj Xs Ms Z7 [.ptr 0 0,.d (.int .u8 n)] [.box [.d (.str s),(.d (J k)),(.d (.bool false))]]=some (.tup [],[.box [.d (.str s),(.d (J ((k+1:Nat)))),(.d (.bool false))]]):=by
 have e1:=J6 s k false;rw[h] at e1;have w:=ZM (k:=k) (by omega);refine cE ?_;simp +contextual -implicitDefEqProofs (maxSteps:=10^7) only[go_sem,seval,↓gZ,Q8,e1,w]
theorem ZnE (s:List UInt8) (k:Nat) (n:Int) (bad:Bool) (hk:k≤10000000) (h:¬nxB s k=n):Zj Xs Ms Z7 [.ptr 0 0,.d (.int .u8 n)] [.box [.d (.str s),(.d (J k)),(.d (.bool bad))]]=some (.tup [],[.box [.d (.str s),(.d (J ((k+1:Nat)))),(.d (.bool true))]]):=by
 have e1:=J6 s k bad;have w:=ZM (k:=k) (by omega);refine cE ?_;cases bad with
 | false=>simp +contextual -implicitDefEqProofs (maxSteps:=10^7) only[go_sem,seval,↓gZ,Q8,e1,w,h]
 | true=>simp +contextual -implicitDefEqProofs (maxSteps:=10^7) only[go_sem,seval,↓gZ,Q8,e1,w,h]
theorem ZnF (s:List UInt8) (k:Nat) (hk:k≤s.length) (hs:s.length≤1048576) (x:List UInt8) (hx:(s.drop k).takeWhile isD=x) :
  Zj Xs Ms QZ [.ptr 0 0] [.box [.d (.str s),(.d (J k)),(.d (.bool false))]]=some ((.d (J (Us x))),[.box [.d (.str s),(.d (J ((k+x.length:Nat)))),(.d (.bool (decide (Us x<0))))]]):=by
 have ag:x.length≤s.length-k:=by have:=Zra (p:=isD) (s.drop k);rw[hx,Lm] at this;exact this
 generalize aa:Us x=res;refine cE ?_;simp +contextual -implicitDefEqProofs (maxSteps:=10^7) only[go_sem,seval,↓gZ,VN];refine LO (α:=Nat) (fun _=>[]) (fun j=>[(0,.box [.d (.str s),(.d (J ((k+j:Nat)))),(.d (.bool false))])]) (fun j=>j≤x.length) (fun j=>s.length-j) 0 (by omega) ?_;intro j hj ih;have e1:=J6 s (k+j) false;have w:IntKind.i64.wrap (((k+j:Nat):Int)+1)=((k+(j+1):Nat):Int):=by rw[ZM (k:=k+j) (by omega)];rfl
 by_cases ad:j<x.length
 ·obtain⟨c,hc,hD⟩:=Zq9 (p:=isD) (s:=s.drop k) (k:=j) (by rw[hx];exact ad);rw[KM] at hc;rw[Zbt hc] at e1;have ah:=(Jv c).1 hD;have h1:(48:Int)≤c.toNat:=by omega
  have h2:(c.toNat:Int)≤57:=by omega
  simp +contextual -implicitDefEqProofs (maxSteps:=10^7) only[go_sem,seval,↓gZ,e1,h1,h2,w];refine ih (j+1) _ (by omega) (by omega) ?_;simp +contextual -implicitDefEqProofs (maxSteps:=10^7) only[go_sem,seval,↓gZ]
 ·have ae:j=x.length:=by omega
  subst ae;have af:¬((48:Int)≤nxB s (k+x.length)∧nxB s (k+x.length)≤57):=by
   rcases ZnD (p:=isD) (s:=s.drop k) with h | ⟨c,hc,hD⟩
   ·rw[hx,Lm] at h;rw[ZdY (by simp;omega)];omega
   ·rw[hx,KM] at hc;rw[Zbt hc];intro h;exact hD ((Jv c).2 (by omega))
  have ab:(s.take (k+x.length)).drop k=x:=by
   rw[List.drop_take,show k+x.length-k=x.length by omega]
   conv=>lhs;rw[← hx]
   rw[ZoT,hx]
  have e2:=Xc x (by omega);rw[aa] at e2;have q1:((k+x.length:Nat):Int)≤(s.length:Int):=by omega
  have q2:(k:Int)≤((k+x.length:Nat):Int):=by omega
  by_cases h1:(48:Int)≤nxB s (k+x.length)
  ·have h2:¬nxB s (k+x.length)≤57:=fun h=>af ⟨h1,h⟩;simp +contextual -implicitDefEqProofs (maxSteps:=10^7) only[go_sem,seval,↓gZ,e1,h1,h2,ab,e2,q1,q2]
  ·simp +contextual -implicitDefEqProofs (maxSteps:=10^7) only[go_sem,seval,↓gZ,e1,h1,ab,e2,q1,q2]
theorem J7 {s u v:List UInt8} {k:Nat} (h:s.drop k=u++v):s.drop (k+u.length)=v:=by
 have:=congrArg (List.drop u.length) h;rw[L1,List.drop_left] at this;exact this
theorem Zk1 {s t:List UInt8} {k:Nat} {c:UInt8} (h:s.drop k=c :: t):nxB s k=c.toNat:=by
 refine Zbt ?_;have:(s.drop k)[0]?=some c:=by rw[h];rfl
 rwa [KM,LI] at this
theorem Zrd {s:List UInt8} {k:Nat} {n:Int} (h:nxB s k=n) (hn:n≠0):k<s.length:=by
 rcases KQ k s.length with h' | h'
 ·exact h'
 ·rw[ZdY (by simp;omega)] at h;exact absurd h.symm hn
theorem Zcl (b:BT) (r:List UInt8):(b=.waste∧shw b++r=119 :: r)∨(∃ i t,b=.pane i t∧shw b++r=(if t then 116 else 112) :: (num i.toNat++r)) ∨
  ∃ d a x y,b=.cut d a x y∧shw b++r=(if d then 100 else 97) :: (num a.toNat++40 :: (shw x++44 :: (shw y++41 :: r))):=by
 cases b with
 | waste=>exact .inl ⟨rfl,rfl⟩
 | pane i t=>exact .inr (.inl ⟨i,t,rfl,by simp[shw]⟩)
 | cut d a x y=>exact .inr (.inr ⟨d,a,x,y,rfl,by simp[shw]⟩)
theorem Zre {s:List UInt8} {k:Nat} {c:UInt8} {d:Bool} (aa:s.drop k=c :: s.drop (k+1)) (hd:c=(if d then 100 else 97)) {b:BT} {r:List UInt8} (h2:Uq b=true) (h3:s.drop k=shw b++r) :
  ∃ a x y,b=.cut d a x y∧(0≤a∧a≤999999)∧Uq x=true∧Uq y=true∧s.drop (k+1)=num a.toNat++40 :: (shw x++44 :: (shw y++41 :: r)):=by
 rw[aa] at h3;rcases Zcl b r with ⟨rfl,h4⟩ | ⟨i,t,rfl,h4⟩ | ⟨d',a,x,y,rfl,h4⟩
 ·rw[h4,hd] at h3;cases d<;>cases h3
 ·rw[h4,hd] at h3;cases d<;>cases t<;>cases h3
 ·rw[h4] at h3;simp only[List.cons.injEq] at h3;obtain⟨h5,h6⟩:=h3;rw[hd] at h5;have ab:d=d':=by cases d<;>cases d' <;> first | rfl | cases h5
  subst ab;simp only[Uq,Kc,Kk] at h2;exact⟨a,x,y,rfl,h2.1.1,h2.1.2,h2.2,h6⟩
theorem Zrf {s r:List UInt8} {k v:Nat} (hv:v≤999999) (hr:Zhk r) (h:s.drop k=num v++r):(s.drop k).takeWhile isD=num v∧Us (num v)=v:=by
 rw[h];exact⟨(Zhl v hr).1,WX (UP hv)⟩
theorem ZdZ {c:UInt8} {r:List UInt8} (h:isD c=false):Zhk (c :: r):=fun d t e=>by cases e;exact h
theorem Ze0 (s:List UInt8) (k:Nat) (n:Int) (bad:Bool) (hk:k≤10000000):Zj Xs Ms Z7 [.ptr 0 0,.d (.int .u8 n)] [.box [.d (.str s),(.d (J k)),(.d (.bool bad))]]=some (.tup [],[.box [.d (.str s),(.d (J ((k+1:Nat)))),(.d (.bool (bad || !decide (nxB s k=n))))]]):=by
 by_cases h:nxB s k=n
 ·cases bad with
  | false=>
   rw[ZpM s k n hk h];simp[h]
  | true=>
   have e1:=J6 s k true;have w:=ZM (k:=k) (by omega);refine cE ?_;simp +contextual -implicitDefEqProofs (maxSteps:=10^7) only[go_sem,seval,↓gZ,Q8,e1,w]
 ·rw[ZnE s k n bad hk h];simp[h]
def SpR (s:List UInt8) (n k:Nat) (res:Option (AV×List Zf)):Prop:=∃ (o a q:Int) (t:Bool) (ks:List Ze) (k' : Nat) (bad:Bool),
 res=some (.agg [(.d (J o)),(.d (J a)),(.d (J q)),(.d (.bool t)),.own 1],[.box [.d (.str s),(.d (J (k'))),(.d (.bool bad))],.row 5 (ks.map Ze.enc) true false])∧k'≤s.length+2+n∧(bad=false→k'≤s.length∧k<k') ∧
 ∀ b r,Zhk r→Uq b=true→s.drop k=shw b++r→Ze.mk o a q t ks=b.plan∧k'=k+(shw b).length∧bad=false
theorem Zg2 {s:List UInt8} {n k k' : Nat} {res:Option (AV×List Zf)} (h:res=some (.agg [(.d (J 0)),(.d (J 0)),(.d (J 0)),(.d (.bool false)),.own 1],[.box [.d (.str s),(.d (J (k'))),(.d (.bool true))],.row 5 [] true false])) (hk:k'≤s.length+2+n) (aa:∀ b r,Zhk r→Uq b=true→s.drop k≠shw b++r):SpR s n k res:=
 ⟨0,0,0,false,[],k',true,h,hk,(fun h=>by cases h),fun b r h1 h2 h3=>absurd h3 (aa b r h1 h2)⟩
theorem ZpN (s:List UInt8) (hs:s.length≤1048576):∀ (n k:Nat),s.length-k<n→n≤2000000→k≤s.length→SpR s n k (Zj Xs Ms Z6 [.ptr 0 0] [.box [.d (.str s),(.d (J k)),(.d (.bool false))]]):=by
 intro n
 induction n with
 | zero=>intro k h;omega
 | succ n IH=>
  intro k hn aw hk;have e1:=J6 s k false;have w:=ZM (k:=k) (by omega);by_cases al:k<s.length
  ·obtain⟨c,hc⟩:∃ c,s[k]?=some c:=⟨_,Kj al⟩
   have af:s.drop k=c :: s.drop (k+1):=by rw[KT al,(Kb.1 hc).2]
   rw[Zbt hc] at e1;by_cases c1:c=119
   ·have n1:(c.toNat:Int)=119:=(J4 c 119 rfl).2 c1;refine⟨0,0,0,false,[],k+1,false,?_,by omega,fun _=>by omega,fun b r h1 h2 h3=>?_⟩
    ·refine cE ?_;simp +contextual -implicitDefEqProofs (maxSteps:=10^7) only[go_sem,seval,↓gZ,ZC,e1,w,n1]
    ·rw[af,c1] at h3;rcases Zcl b r with ⟨rfl,_⟩ | ⟨i,t,rfl,h4⟩ | ⟨d,a,x,y,rfl,h4⟩
     ·exact⟨rfl,rfl,rfl⟩
     ·rw[h4] at h3;cases t<;>cases h3
     ·rw[h4] at h3;cases d<;>cases h3
   have n1:¬(c.toNat:Int)=119:=fun h=>c1 ((J4 c 119 rfl).1 h);obtain⟨x,hx⟩:∃ x,(s.drop (k+1)).takeWhile isD=x:=⟨_,rfl⟩
   have ax:x.length≤s.length-(k+1):=by have:=Zra (p:=isD) (s.drop (k+1));rw[hx,Lm] at this;exact this
   have e2:=ZnF s (k+1) (by omega) hs x hx;by_cases c2:c=112∨c=116
   ·have ad:∀ t:Bool,c=(if t then 116 else 112)→SpR s (n+1) k (Zj Xs Ms Z6 [.ptr 0 0] [.box [.d (.str s),(.d (J k)),(.d (.bool false))]]):=by
     intro t ht;refine⟨1,0,Us x,t,[],k+1+x.length,decide (Us x<0),?_,by omega,fun _=>by omega,fun b r h1 h2 h3=>?_⟩
     ·refine cE ?_;cases t with
      | false=>
       have n2:(c.toNat:Int)=112:=(J4 c 112 rfl).2 ht;have n3:¬(c.toNat:Int)=116:=by omega
       simp +contextual -implicitDefEqProofs (maxSteps:=10^7) only[go_sem,seval,↓gZ,ZC,e1,w,n1,n2,n3,e2]
      | true=>
       have n3:(c.toNat:Int)=116:=(J4 c 116 rfl).2 ht;have n2:¬(c.toNat:Int)=112:=by omega
       simp +contextual -implicitDefEqProofs (maxSteps:=10^7) only[go_sem,seval,↓gZ,ZC,e1,w,n1,n2,n3,e2]
     ·rw[af,ht] at h3;rcases Zcl b r with ⟨rfl,h4⟩ | ⟨i,t',rfl,h4⟩ | ⟨d,a,x,y,rfl,h4⟩
      ·rw[h4] at h3;cases t<;>cases h3
      ·rw[h4] at h3;simp only[List.cons.injEq] at h3;obtain⟨h5,h6⟩:=h3;have an:t=t':=by cases t<;>cases t' <;> first | rfl | cases h5
       subst an;simp only[Uq,Kk] at h2;obtain⟨g1,g2⟩:=Zrf (v:=i.toNat) (by omega) h1 h6;rw[hx] at g1;rw[g1,g2,KD h2.1];refine⟨rfl,by simp[shw];omega,by simp;omega⟩
      ·rw[h4] at h3;cases d<;>cases t<;>cases h3
    rcases c2 with c2 | c2
    ·exact ad false c2
    ·exact ad true c2
   have n2:¬(c.toNat:Int)=112:=fun h=>c2 (.inl ((J4 c 112 rfl).1 h));have n3:¬(c.toNat:Int)=116:=fun h=>c2 (.inr ((J4 c 116 rfl).1 h));by_cases c4:c=100∨c=97
   ·have ad:∀ d:Bool,c=(if d then 100 else 97)→SpR s (n+1) k (Zj Xs Ms Z6 [.ptr 0 0] [.box [.d (.str s),(.d (J k)),(.d (.bool false))]]):=by
     intro d hd;have hf:(if d then (c.toNat:Int)=100 else ¬(c.toNat:Int)=100∧(c.toNat:Int)=97):=by
      cases d with
      | true=>exact(J4 c 100 rfl).2 hd
      | false=>
       have ao:(c.toNat:Int)=97:=(J4 c 97 rfl).2 hd;exact⟨by omega,ao⟩
     have e3:=Ze0 s (k+1+x.length) 40 (decide (Us x<0)) (by omega);have first:∀ b r,Zhk r→Uq b=true→s.drop k=shw b++r→∃ a l y,b=.cut d a l y∧Uq l=true∧Uq y=true∧Us x=a∧0≤a∧x=num a.toNat∧nxB s (k+1+x.length)=40∧s.drop (k+1+x.length+1)=shw l++44 :: (shw y++41 :: r):=by
      intro b r h1 h2 h3;obtain⟨a,l,y,rfl,ha,hl,hy,h6⟩:=Zre af hd h2 h3;obtain⟨g1,g2⟩:=Zrf (v:=a.toNat) (by omega) (ZdZ rfl) h6;rw[hx] at g1;have h7:=J7 h6;rw[← g1] at h7;refine⟨a,l,y,rfl,hl,hy,by rw[g1,g2];omega,ha.1,g1,Zk1 h7,?_⟩;exact J7 (u:=[40]) h7
     by_cases ag:Us x<0∨¬nxB s (k+1+x.length)=40
     ·have ai:(decide (Us x<0) || !decide (nxB s (k+1+x.length)=40))=true:=by
       rcases ag with h | h<;>simp[h]
      rw[ai] at e3;refine Zg2 (k':=k+1+x.length+1) ?_ (by omega) fun b r h1 h2 h3=>?_
      ·refine cE ?_;cases d with
       | true=>
        simp only[Kl] at hf;simp +contextual -implicitDefEqProofs (maxSteps:=10^7) only[go_sem,seval,↓gZ,ZC,e1,w,n1,n2,n3,hf,e2,e3]
       | false=>
        simp only[Ka,Kn] at hf;simp +contextual -implicitDefEqProofs (maxSteps:=10^7) only[go_sem,seval,↓gZ,ZC,e1,w,n1,n2,n3,hf.1,hf.2,e2,e3]
      ·obtain⟨a,l,y,_,_,_,m1,m2,_,m3,_⟩:=first b r h1 h2 h3;rcases ag with h | h
       ·omega
       ·exact h m3
     have aa : ¬Us x<0∧nxB s (k+1+x.length)=40:=⟨fun h=>ag (.inl h),Classical.byContradiction fun h=>ag (.inr h)⟩
     have ai:(decide (Us x<0) || !decide (nxB s (k+1+x.length)=40))=false:=by simp[aa.1,aa.2]<;>omega
     rw[ai] at e3;have ap:=Zrd aa.2 (by decide);obtain⟨o1,a1,q1,t1,aq,k3,b3,i1,g1,g2,g3⟩:=IH (k+1+x.length+1) (by omega) (by omega) (by omega);have e4:=Ze0 s k3 44 b3 (by omega);by_cases ah:b3=true∨¬nxB s k3=44
     ·have ab:(b3 || !decide (nxB s k3=44))=true:=by
       rcases ah with h | h<;>simp[h]
      rw[ab] at e4;refine Zg2 (k':=k3+1) ?_ (by omega) fun b r h1 h2 h3=>?_
      ·refine cE ?_;cases d with
       | true=>
        simp only[Kl] at hf;simp +contextual -implicitDefEqProofs (maxSteps:=10^7) only[go_sem,seval,↓gZ,ZC,e1,w,n1,n2,n3,hf,e2,e3,i1,e4]
       | false=>
        simp only[Ka,Kn] at hf;simp +contextual -implicitDefEqProofs (maxSteps:=10^7) only[go_sem,seval,↓gZ,ZC,e1,w,n1,n2,n3,hf.1,hf.2,e2,e3,i1,e4]
      ·obtain⟨a,l,y,_,hl,_,_,_,_,_,m4⟩:=first b r h1 h2 h3;obtain⟨_,m5,m6⟩:=g3 l _ (ZdZ rfl) hl m4;rcases ah with h | h
       ·rw[m6] at h;cases h
       ·exact h (by rw[m5];exact Zk1 (J7 m4))
     have aj : b3=false∧nxB s k3=44:=⟨by cases b3<;>first | rfl | exact absurd (.inl rfl) ah,Classical.byContradiction fun h=>ah (.inr h)⟩
     obtain⟨rfl,ae⟩:=aj;have ab:(false || !decide (nxB s k3=44))=false:=by simp[ae]
     rw[ab] at e4;have ar:=Zrd ae (by decide);have g2:=g2 rfl;obtain⟨o2,a2,q2,t2,au,k5,b5,i2,f1,f2,f3⟩:=IH (k3+1) (by omega) (by omega) (by omega);have e5:=Ze0 s k5 41 b5 (by omega);refine⟨Zfy d,Us x,0,false,[.mk o1 a1 q1 t1 aq,.mk o2 a2 q2 t2 au],k5+1,b5 || !decide (nxB s k5=41),?_,by omega,fun am=>?_,fun b r h1 h2 h3=>?_⟩
     ·refine cE ?_;cases d with
      | true=>
       simp only[Kl] at hf;simp +contextual -implicitDefEqProofs (maxSteps:=10^7) only[go_sem,seval,↓gZ,ZC,e1,w,n1,n2,n3,hf,e2,e3,i1,e4,i2,e5,Zfy]
      | false=>
       simp only[Ka,Kn] at hf;simp +contextual -implicitDefEqProofs (maxSteps:=10^7) only[go_sem,seval,↓gZ,ZC,e1,w,n1,n2,n3,hf.1,hf.2,e2,e3,i1,e4,i2,e5,Zfy]
     ·cases b5 with
      | true=>cases am
      | false=>
       have ak:nxB s k5=41:=by simpa using am
       have:=Zrd ak (by decide);have:=f2 rfl;omega
     ·obtain⟨a,l,y,rfl,hl,hy,m1,m2,av,m3,m4⟩:=first b r h1 h2 h3;obtain⟨p1,p2,_⟩:=g3 l _ (ZdZ rfl) hl m4;have m7:=J7 m4;rw[← p2] at m7;have m8:s.drop (k3+1)=shw y++41 :: r:=J7 (u:=[44]) m7;obtain⟨p3,p4,p5⟩:=f3 y _ (ZdZ rfl) hy m8;have m9:=Zk1 (J7 m8);rw[← p4] at m9;refine⟨by rw[BT.plan,p1,p3,m1],?_,?_⟩
      ·rw[p4,p2,av];simp only[shw,Km,Ks,Li];omega
      ·rw[p5,m9];rfl
    rcases c4 with c4 | c4
    ·exact ad true c4
    ·exact ad false c4
   have n4:¬(c.toNat:Int)=100:=fun h=>c4 (.inl ((J4 c 100 rfl).1 h));have n5:¬(c.toNat:Int)=97:=fun h=>c4 (.inr ((J4 c 97 rfl).1 h));refine Zg2 (k':=k+1) ?_ (by omega) fun b r h1 h2 h3=>?_
   ·refine cE ?_;simp +contextual -implicitDefEqProofs (maxSteps:=10^7) only[go_sem,seval,↓gZ,ZC,e1,w,n1,n2,n3,n4,n5]
   ·rw[af] at h3;rcases Zcl b r with ⟨rfl,h4⟩ | ⟨i,t,rfl,h4⟩ | ⟨d,a,x,y,rfl,h4⟩
    ·rw[h4] at h3;cases h3;exact c1 rfl
    ·rw[h4] at h3;simp only[List.cons.injEq] at h3;cases t
     ·exact c2 (.inl h3.1)
     ·exact c2 (.inr h3.1)
    ·rw[h4] at h3;simp only[List.cons.injEq] at h3;cases d
     ·exact c4 (.inr h3.1)
     ·exact c4 (.inl h3.1)
  ·rw[ZdY (by simp;omega)] at e1;refine Zg2 (k':=k+1) ?_ (by omega) fun b r h1 h2 h3=>?_
   ·refine cE ?_;simp +contextual -implicitDefEqProofs (maxSteps:=10^7) only[go_sem,seval,↓gZ,ZC,e1,w]
   ·have hl:=congrArg List.length h3;have:=ZoS b;rw[Lm,Ks] at hl;omega
theorem Zcm {s:List UInt8} {b:BT}:J5 s=some b↔s.length≤1600∧s=shw b∧b.cnt≤255∧Vn b=true:=by
 unfold J5;by_cases h:s.length≤1600
 ·rw[Ko h,Zbr];exact⟨fun h'=>⟨h,h'⟩,fun h'=>h'.2⟩
 ·rw[Kf h];constructor
  ·intro h';cases h'
  ·intro h';exact absurd h'.1 h
theorem Zho (s:List UInt8) (hs:s.length≤1048576):PrR (Zj Xs Ms Vu [.d (.str s)] []) (J5 s):=by
 by_cases hl:s.length≤1600
 ·have ab : ¬(1600:Int)<(s.length:Int):=by omega
  obtain⟨o,a,q,t,ks,k',bad,e1,g1,g2,g3⟩:=ZpN s hs (s.length+1) 0 (by omega) (by omega) (by omega);rw[show ((0:Nat):Int)=0 from rfl] at e1;have hm:∀ b',J5 s=some b'→Ze.mk o a q t ks=b'.plan∧k'=s.length∧bad=false∧s=shw b'∧b'.cnt≤255∧Vn b'=true:=by
   intro b' h;obtain⟨_,h1,h2,h3⟩:=Zcm.1 h;obtain⟨p1,p2,p3⟩:=g3 b' [] (fun c t e=>by cases e) (Ur b' h3) (by rw[List.drop_zero,KU];exact h1);rw[← h1] at p2;exact⟨p1,by omega,p3,h1,h2,h3⟩
  have aa:(∀ b',J5 s=some b'→False)→J5 s=none:=by
   intro h;cases hp:J5 s with
   | none=>rfl
   | some b'=>exact absurd (h b' hp) id
  cases bad with
  | true=>
   rw[aa fun b' h=>by cases (hm b' h).2.2.1];refine Zdd ?_;refine cE ?_;simp +contextual -implicitDefEqProofs (maxSteps:=10^7) only[go_sem,seval,↓gZ,QH,ab,e1]
  | false=>
   by_cases hk:k'=s.length
   ·subst hk;have e2:=ZcT (Ze.mk o a q t ks);cases hT:QV (Ze.mk o a q t ks) with
    | none=>
     rw[hT,Ze.enc_mk] at e2;have hz:Zn 255 none<0:=by rw[show Zn 255 none=-1 from rfl];omega
     rw[aa fun b' h=>by have:=(hm b' h).1;rw[this,XK] at hT;cases hT];refine Zdd ?_;refine cE ?_;simp +contextual -implicitDefEqProofs (maxSteps:=10^7) only[go_sem,seval,↓gZ,QH,ab,e1,e2,hz]
    | some b=>
     have ad:=ZcC hT;have ae : ∀ b',J5 s=some b'→b'=b:=by
      intro b' h;have:=(hm b' h).1;rw[this,XK] at hT;exact Option.some.inj hT
     rw[hT,Ze.enc_mk] at e2;rcases Q7 255 b with ⟨hc,hz⟩ | ⟨hc,hz⟩
     ·rw[hz] at e2;have h0:¬(b.cnt:Int)<0:=by omega
      have e3:=YO b;rw[← ad,Ze.enc_mk] at e3;cases hcb:Vn b with
      | false=>
       rw[hcb] at e3;rw[aa fun b' h=>by have h2:=(hm b' h).2.2.2.2.2;rw[ae b' h,hcb] at h2;cases h2];refine Zdd ?_;refine cE ?_;simp +contextual -implicitDefEqProofs (maxSteps:=10^7) only[go_sem,seval,↓gZ,QH,ab,e1,e2,e3,h0]
      | true=>
       rw[hcb] at e3;have e4:=Yu b hcb (by omega);rw[← ad,Ze.enc_mk] at e4;by_cases hw:shw b=s
       ·rw[hw] at e4;have af:(s != s)=false:=by simp
        rw[Zcm.2 ⟨hl,hw.symm,by omega,hcb⟩];refine⟨o,a,q,t,ks,?_,ad⟩;refine cE ?_;simp +contextual -implicitDefEqProofs (maxSteps:=10^7) only[go_sem,seval,↓gZ,QH,ab,e1,e2,e3,e4,h0,af]
        all_goals rfl
       ·have af:(shw b==s)=false:=by simp[hw]
        rw[aa fun b' h=>hw (by have:=(hm b' h).2.2.2.1;rw[ae b' h] at this;exact this.symm)];refine Zdd ?_;refine cE ?_;simp +contextual -implicitDefEqProofs (maxSteps:=10^7) only[go_sem,seval,↓gZ,QH,ab,e1,e2,e3,e4,h0,af]
     ·rw[hz] at e2;rw[aa fun b' h=>by have h2:=(hm b' h).2.2.2.2.1;rw[ae b' h] at h2;omega];refine Zdd ?_;refine cE ?_;simp +contextual -implicitDefEqProofs (maxSteps:=10^7) only[go_sem,seval,↓gZ,QH,ab,e1,e2]
   ·rw[aa fun b' h=>hk (hm b' h).2.1];have ag : ¬(k' : Int)=(s.length:Int):=by omega
    refine Zdd ?_;refine cE ?_;simp +contextual -implicitDefEqProofs (maxSteps:=10^7) only[go_sem,seval,↓gZ,QH,ab,e1,ag]
 ·have hm:J5 s=none:=by unfold J5;rw[Kf hl]
  rw[hm];have ab : (1600:Int)<(s.length:Int):=by omega
  refine Zdd ?_;refine cE ?_;simp +contextual -implicitDefEqProofs (maxSteps:=10^7) only[go_sem,seval,↓gZ,QH,ab]
end Go.Proofs.YtgpiffflfkoocaaDoor
