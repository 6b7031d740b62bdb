/- Own text. -/
import Derived.Test.YtfnegoimdljanaaGreatDoorACode
import Derived.Test.YtfnegoimdljanaaGreatDoorAC1
import Derived.Test.YtfnegoimdljanaaGreatDoorAC16
import Derived.Test.YtfnegoimdljanaaGreatDoorAbsOkD
namespace Go.Proofs.YtfnegoimdljanaaGreatDoor
open Go Go.Abs Go.Abs.E Go.Abs.L
set_option linter.unusedSimpArgs false
set_option linter.unusedVariables false
set_option maxRecDepth 20000
set_option maxHeartbeats 4000000
theorem ZA9 (p:Ze):ZA7 p=[]∨∃ b,p=b.plan∧b.cnt≤255∧YS b=true∧ZA7 p=shw b:=by
 cases h:QU p with
 | none=>exact .inl (ZvF h)
 | some b=>
  rw[ZnA h];by_cases hc:b.cnt≤255∧YS b=true
  ·rw[Kg hc];exact .inr ⟨b,Ua h,hc.1,hc.2,rfl⟩
  ·rw[Kd hc];exact .inl rfl
def ZcK (s:List UInt8):Int:=match rd s with
 | some v=>(v:Int)
 | none=>-1
theorem Zl4 {s:List UInt8} (h:rd s=none):ZcK s=-1:=by unfold ZcK;rw[h]
theorem ZbS {s:List UInt8} {v:Nat} (h:rd s=some v):ZcK s=v:=by unfold ZcK;rw[h]
theorem rd_iff {s:List UInt8} {v:Nat}:rd s=some v↔s=num v∧v≤999999:=⟨UR,fun ⟨h1,h2⟩=>by rw[h1];exact ZdK h2⟩
theorem ZE5 (s:List UInt8) (k:Nat):val (s.take k)≤val s:=by
 have aa:∀ (u:List UInt8) (n:Nat),n≤u.foldl (fun n c=>10*n+(c.toNat-48)) n:=by
  intro u
  induction u with
  | nil=>intro n;exact Kp _
  | cons c u ih=>intro n;exact Kx (show n≤10*n+(c.toNat-48) by omega) (ih _)
 conv=>rhs;rw[← Lq k s]
 unfold val;rw[List.foldl_append];exact aa _ _
theorem Yc (s:List UInt8) (hs:s.length≤1048576):Zd Xs Ms 161 [.d (.str s)] []=some ((.d (J (ZcK s))),[]):=by
 generalize aa:ZcK s=res;refine cE ?_;simp +contextual -implicitDefEqProofs only[go_sem,seval,Zee];refine LO (α:=Nat) (fun k=>[(4,.d (J (k:Int))),(3,.d (J (val (s.take k):Nat)))]) (fun _=>[]) (fun k=>k≤s.length∧(∀ c∈s.take k,isD c=true)∧val (s.take k)≤999999) (fun k=>s.length-k) 0 (by simp[val]) ?_;intro k ⟨hk,hd,hv⟩ ih;by_cases ak:k<s.length
 ·obtain⟨c,hc⟩:∃ c,s[k]?=some c:=⟨_,Kv ak⟩
  have ab : (k:Int)<(s.length:Int):=by omega
  by_cases hD:isD c=true
  ·have ag:=(ZeM c).1 hD;have w1:=wi (10*(val (s.take k):Nat)) (by omega) (by omega);have w2:=wu8 ((c.toNat:Int)-48) (by omega) (by omega);have w3:=wi ((c.toNat:Int)-48) (by omega) (by omega);have w4:IntKind.i64.wrap (10*(val (s.take k):Nat)+((c.toNat:Int)-48))=((val (s.take (k+1)):Nat):Int):=by
    rw[wi _ (by omega) (by omega),ZyV hc];omega
   have w5:=Zg (k:=k) (by omega);by_cases ae:val (s.take (k+1))≤999999
   ·have hb:¬(999999:Int)<((val (s.take (k+1)):Nat):Int):=by omega
    simp +contextual -implicitDefEqProofs only[go_sem,seval,ab,hc,ag.1,ag.2,w1,w2,w3,w4,w5,hb];refine ih (k+1) _ ⟨by omega,fun d ad=>?_,ae⟩ (by omega) ?_
    ·rw[Lu ak] at ad;rcases Ki.1 ad with ad | ad
     ·exact hd d ad
     ·simp only[KE] at ad;rw[ad,(Kb.1 hc).2];exact hD
    ·simp +contextual -implicitDefEqProofs only[go_sem,seval]
   ·have hb:(999999:Int)<((val (s.take (k+1)):Nat):Int):=by omega
    have af:rd s=none:=by
     cases hr:rd s with
     | none=>rfl
     | some v=>
      obtain⟨h1,h2⟩:=UR hr;have:=ZE5 s (k+1);rw[h1,Zxe] at this;rw[h1] at ae;omega
    rw[Zl4 af] at aa;subst aa;simp +contextual -implicitDefEqProofs only[go_sem,seval,ab,hc,ag.1,ag.2,w1,w2,w3,w4,w5,hb]
  ·have af:rd s=none:=by
    cases hr:rd s with
    | none=>rfl
    | some v=>
     obtain⟨h1,h2⟩:=UR hr;rw[h1] at hc;exact absurd (ZqL v c (Kc hc)) hD
   rw[Zl4 af] at aa;subst aa;by_cases ai:(c.toNat:Int)<48
   ·simp +contextual -implicitDefEqProofs only[go_sem,seval,ab,hc,ai]
   ·have am:(57:Int)<(c.toNat:Int):=Classical.byContradiction fun h=>hD ((ZeM c).2 ⟨ai,h⟩);simp +contextual -implicitDefEqProofs only[go_sem,seval,ab,hc,ai,am]
 ·have an:k=s.length:=by omega
  subst an;have ht:s.take s.length=s:=KN;rw[ht] at hd hv;have al:¬(s.length:Int)<(s.length:Int):=by omega
  have e1:=Xg (val s) (by omega);by_cases hn:s=[]
  ·subst hn;rw[Zl4 (Zrl fun h=>h.1 rfl)] at aa;subst aa;simp +contextual -implicitDefEqProofs only[go_sem,seval]
  ·have hb:(s==[])=false:=by
    cases s with
    | nil=>exact absurd rfl hn
    | cons x r=>rfl
   by_cases ah:s=num (val s)
   ·have aj:(s==num (val s))=true:=by rw[beq_iff_eq];exact ah
    rw[ZbS (rd_iff.2 ⟨ah,hv⟩)] at aa;subst aa;simp +contextual -implicitDefEqProofs only[go_sem,seval,ht,al,e1,hb,aj]
   ·have aj:(s==num (val s))=false:=by simpa using ah
    have af:rd s=none:=by
     cases hr:rd s with
     | none=>rfl
     | some v=>
      obtain⟨h1,h2⟩:=UR hr;exact absurd (by
       conv=>rhs;rw[h1,Zxe]
       exact h1) ah
    rw[Zl4 af] at aa;subst aa;simp +contextual -implicitDefEqProofs only[go_sem,seval,ht,al,e1,hb,aj]
def nxB (s:List UInt8) (k:Nat):Int:=match s[k]? with
 | some c=>(c.toNat:Int)
 | none=>0
theorem Ziv {s:List UInt8} {k:Nat} {c:UInt8} (h:s[k]?=some c):nxB s k=c.toNat:=by unfold nxB;rw[h]
theorem Zl5 {s:List UInt8} {k:Nat} (h:s[k]?=none):nxB s k=0:=by unfold nxB;rw[h]
theorem Zgh (s:List UInt8) (k:Nat) (bad:Bool):Zd Xs Ms 232 [.ptr 0 0] [.box [.d (.str s),(.d (J k)),(.d (.bool bad))]]=some (.d (.int .u8 (nxB s k)),[.box [.d (.str s),(.d (J k)),(.d (.bool bad))]]):=by
 by_cases h:k<s.length
 ·obtain⟨c,hc⟩:∃ c,s[k]?=some c:=⟨_,Kv h⟩
  rw[Ziv hc];have h' : ¬(s.length:Int)≤(k:Int):=by omega
  refine cE ?_;simp +contextual -implicitDefEqProofs only[go_sem,seval,Wp,h',hc]
 ·rw[Zl5 (by simp;omega)];have h' : (s.length:Int)≤(k:Int):=by omega
  refine cE ?_;simp +contextual -implicitDefEqProofs only[go_sem,seval,Wp,h']
theorem ZDF (s:List UInt8) (k:Nat) (n:Int) (hk:k≤10000000) (h:nxB s k=n):Zd Xs Ms 234 [.ptr 0 0,.d (.int .u8 n)] [.box [.d (.str s),(.d (J k)),(.d (.bool false))]]=some (.tup [],[.box [.d (.str s),(.d (J ((k+1:Nat)))),(.d (.bool false))]]):=by
 have e1:=Zgh s k false;rw[h] at e1;have w:=Zg (k:=k) (by omega);refine cE ?_;simp +contextual -implicitDefEqProofs only[go_sem,seval,X7,e1,w]
theorem ZBa (s:List UInt8) (k:Nat) (n:Int) (bad:Bool) (hk:k≤10000000) (h:¬nxB s k=n):Zd Xs Ms 234 [.ptr 0 0,.d (.int .u8 n)] [.box [.d (.str s),(.d (J k)),(.d (.bool bad))]]=some (.tup [],[.box [.d (.str s),(.d (J ((k+1:Nat)))),(.d (.bool true))]]):=by
 have e1:=Zgh s k bad;have w:=Zg (k:=k) (by omega);refine cE ?_;cases bad with
 | false=>simp +contextual -implicitDefEqProofs only[go_sem,seval,X7,e1,w,h]
 | true=>simp +contextual -implicitDefEqProofs only[go_sem,seval,X7,e1,w,h]
theorem ZBb (s:List UInt8) (k:Nat) (hk:k≤s.length) (hs:s.length≤1048576) (x:List UInt8) (hx:(s.drop k).takeWhile isD=x) :
  Zd Xs Ms 233 [.ptr 0 0] [.box [.d (.str s),(.d (J k)),(.d (.bool false))]]=some ((.d (J (ZcK x))),[.box [.d (.str s),(.d (J ((k+x.length:Nat)))),(.d (.bool (decide (ZcK x<0))))]]):=by
 have ag:x.length≤s.length-k:=by have:=ZE3 (p:=isD) (s.drop k);rw[hx,Ls] at this;exact this
 generalize aa:ZcK x=res;refine cE ?_;simp +contextual -implicitDefEqProofs only[go_sem,seval,Jd];refine LO (α:=Nat) (fun _=>[]) (fun j=>[(0,.box [.d (.str s),(.d (J ((k+j:Nat)))),(.d (.bool false))])]) (fun j=>j≤x.length) (fun j=>s.length-j) 0 (by omega) ?_;intro j hj ih;have e1:=Zgh s (k+j) false;have w:IntKind.i64.wrap (((k+j:Nat):Int)+1)=((k+(j+1):Nat):Int):=by rw[Zg (k:=k+j) (by omega)];rfl
 by_cases ad:j<x.length
 ·obtain⟨c,hc,hD⟩:=ZE2 (p:=isD) (s:=s.drop k) (k:=j) (by rw[hx];exact ad);rw[Lk] at hc;rw[Ziv hc] at e1;have ah:=(ZeM c).1 hD;have h1:(48:Int)≤c.toNat:=by omega
  have h2:(c.toNat:Int)≤57:=by omega
  simp +contextual -implicitDefEqProofs only[go_sem,seval,e1,h1,h2,w];refine ih (j+1) _ (by omega) (by omega) ?_;simp +contextual -implicitDefEqProofs only[go_sem,seval]
 ·have ae:j=x.length:=by omega
  subst ae;have af:¬((48:Int)≤nxB s (k+x.length)∧nxB s (k+x.length)≤57):=by
   rcases ZA8 (p:=isD) (s:=s.drop k) with h | ⟨c,hc,hD⟩
   ·rw[hx,Ls] at h;rw[Zl5 (by simp;omega)];omega
   ·rw[hx,Lk] at hc;rw[Ziv hc];intro h;exact hD ((ZeM c).2 (by omega))
  have ab:(s.take (k+x.length)).drop k=x:=by
   rw[List.drop_take,show k+x.length-k=x.length by omega]
   conv=>lhs;rw[← hx]
   rw[ZCE,hx]
  have e2:=Yc x (by omega);rw[aa] at e2;have q1:((k+x.length:Nat):Int)≤(s.length:Int):=by omega
  have q2:(k:Int)≤((k+x.length:Nat):Int):=by omega
  by_cases h1:(48:Int)≤nxB s (k+x.length)
  ·have h2:¬nxB s (k+x.length)≤57:=fun h=>af ⟨h1,h⟩;simp +contextual -implicitDefEqProofs only[go_sem,seval,e1,h1,h2,ab,e2,q1,q2]
  ·simp +contextual -implicitDefEqProofs only[go_sem,seval,e1,h1,ab,e2,q1,q2]
theorem Zgi {s u v:List UInt8} {k:Nat} (h:s.drop k=u++v):s.drop (k+u.length)=v:=by
 have:=congrArg (List.drop u.length) h;rw[Kaq,List.drop_left] at this;exact this
theorem Zxi {s t:List UInt8} {k:Nat} {c:UInt8} (h:s.drop k=c :: t):nxB s k=c.toNat:=by
 refine Ziv ?_;have:(s.drop k)[0]?=some c:=by rw[h];rfl
 rwa [Lk,L8] at this
theorem ZE6 {s:List UInt8} {k:Nat} {n:Int} (h:nxB s k=n) (hn:n≠0):k<s.length:=by
 rcases K3 k s.length with h' | h'
 ·exact h'
 ·rw[Zl5 (by simp;omega)] at h;exact absurd h.symm hn
theorem ZjN (b:BT) (r:List UInt8):(b=.waste∧shw b++r=119 :: r)∨(∃ i t,b=.pane i t∧shw b++r=(if t then 116 else 112) :: (num i.toNat++r)) ∨
  ∃ d a x y,b=.cut d a x y∧shw b++r=(if d then 100 else 97) :: (num a.toNat++40 :: (shw x++44 :: (shw y++41 :: r))):=by
 cases b with
 | waste=>exact .inl ⟨rfl,rfl⟩
 | pane i t=>exact .inr (.inl ⟨i,t,rfl,by simp[shw]⟩)
 | cut d a x y=>exact .inr (.inr ⟨d,a,x,y,rfl,by simp[shw]⟩)
theorem ZE7 {s:List UInt8} {k:Nat} {c:UInt8} {d:Bool} (aa:s.drop k=c :: s.drop (k+1)) (hd:c=(if d then 100 else 97)) {b:BT} {r:List UInt8} (h2:ZcI b=true) (h3:s.drop k=shw b++r) :
  ∃ a x y,b=.cut d a x y∧(0≤a∧a≤999999)∧ZcI x=true∧ZcI y=true∧s.drop (k+1)=num a.toNat++40 :: (shw x++44 :: (shw y++41 :: r)):=by
 rw[aa] at h3;rcases ZjN b r with ⟨rfl,h4⟩ | ⟨i,t,rfl,h4⟩ | ⟨d',a,x,y,rfl,h4⟩
 ·rw[h4,hd] at h3;cases d<;>cases h3
 ·rw[h4,hd] at h3;cases d<;>cases t<;>cases h3
 ·rw[h4] at h3;simp only[List.cons.injEq] at h3;obtain⟨h5,h6⟩:=h3;rw[hd] at h5;have ab:d=d':=by cases d<;>cases d' <;> first | rfl | cases h5
  subst ab;simp only[ZcI,Kf,Ko] at h2;exact⟨a,x,y,rfl,h2.1.1,h2.1.2,h2.2,h6⟩
theorem ZE8 {s r:List UInt8} {k v:Nat} (hv:v≤999999) (hr:Zrj r) (h:s.drop k=num v++r):(s.drop k).takeWhile isD=num v∧ZcK (num v)=v:=by
 rw[h];exact⟨(Zrk v hr).1,ZbS (ZdK hv)⟩
theorem Zl6 {c:UInt8} {r:List UInt8} (h:isD c=false):Zrj (c :: r):=fun d t e=>by cases e;exact h
theorem ZnB (s:List UInt8) (k:Nat) (n:Int) (bad:Bool) (hk:k≤10000000):Zd Xs Ms 234 [.ptr 0 0,.d (.int .u8 n)] [.box [.d (.str s),(.d (J k)),(.d (.bool bad))]]=some (.tup [],[.box [.d (.str s),(.d (J ((k+1:Nat)))),(.d (.bool (bad || !decide (nxB s k=n))))]]):=by
 by_cases h:nxB s k=n
 ·cases bad with
  | false=>
   rw[ZDF s k n hk h];simp[h]
  | true=>
   have e1:=Zgh s k true;have w:=Zg (k:=k) (by omega);refine cE ?_;simp +contextual -implicitDefEqProofs only[go_sem,seval,X7,e1,w]
 ·rw[ZBa s k n bad hk h];simp[h]
def SpR (s:List UInt8) (n k:Nat) (res:Option (AV×List Zm)):Prop:=∃ (o a q:Int) (t:Bool) (ks:List Ze) (k' : Nat) (bad:Bool),
 res=some (.agg [(.d (J o)),(.d (J a)),(.d (J q)),(.d (.bool t)),.own 1],[.box [.d (.str s),(.d (J (k'))),(.d (.bool bad))],.row 5 (ks.map Ze.enc) true false])∧k'≤s.length+2+n∧(bad=false→k'≤s.length∧k<k') ∧
 ∀ b r,Zrj r→ZcI b=true→s.drop k=shw b++r→Ze.mk o a q t ks=b.plan∧k'=k+(shw b).length∧bad=false
theorem ZqN {s:List UInt8} {n k k' : Nat} {res:Option (AV×List Zm)} (h:res=some (.agg [(.d (J 0)),(.d (J 0)),(.d (J 0)),(.d (.bool false)),.own 1],[.box [.d (.str s),(.d (J (k'))),(.d (.bool true))],.row 5 [] true false])) (hk:k'≤s.length+2+n) (aa:∀ b r,Zrj r→ZcI b=true→s.drop k≠shw b++r):SpR s n k res:=
 ⟨0,0,0,false,[],k',true,h,hk,(fun h=>by cases h),fun b r h1 h2 h3=>absurd h3 (aa b r h1 h2)⟩
theorem ZDG (s:List UInt8) (hs:s.length≤1048576):∀ (n k:Nat),s.length-k<n→n≤2000000→k≤s.length→SpR s n k (Zd Xs Ms 208 [.ptr 0 0] [.box [.d (.str s),(.d (J k)),(.d (.bool false))]]):=by
 intro n
 induction n with
 | zero=>intro k h;omega
 | succ n IH=>
  intro k hn au hk;have e1:=Zgh s k false;have w:=Zg (k:=k) (by omega);by_cases aj:k<s.length
  ·obtain⟨c,hc⟩:∃ c,s[k]?=some c:=⟨_,Kv aj⟩
   have af:s.drop k=c :: s.drop (k+1):=by rw[Ku aj,(Kb.1 hc).2]
   rw[Ziv hc] at e1;by_cases c1:c=119
   ·have n1:(c.toNat:Int)=119:=(Zgf c 119 rfl).2 c1;refine⟨0,0,0,false,[],k+1,false,?_,by omega,fun _=>by omega,fun b r h1 h2 h3=>?_⟩
    ·refine cE ?_;simp +contextual -implicitDefEqProofs only[go_sem,seval,ZU,e1,w,n1]
    ·rw[af,c1] at h3;rcases ZjN b r with ⟨rfl,_⟩ | ⟨i,t,rfl,h4⟩ | ⟨d,a,x,y,rfl,h4⟩
     ·exact⟨rfl,rfl,rfl⟩
     ·rw[h4] at h3;cases t<;>cases h3
     ·rw[h4] at h3;cases d<;>cases h3
   have n1:¬(c.toNat:Int)=119:=fun h=>c1 ((Zgf c 119 rfl).1 h);obtain⟨x,hx⟩:∃ x,(s.drop (k+1)).takeWhile isD=x:=⟨_,rfl⟩
   have av:x.length≤s.length-(k+1):=by have:=ZE3 (p:=isD) (s.drop (k+1));rw[hx,Ls] at this;exact this
   have e2:=ZBb s (k+1) (by omega) hs x hx;by_cases c2:c=112∨c=116
   ·have ad:∀ t:Bool,c=(if t then 116 else 112)→SpR s (n+1) k (Zd Xs Ms 208 [.ptr 0 0] [.box [.d (.str s),(.d (J k)),(.d (.bool false))]]):=by
     intro t ht;refine⟨1,0,ZcK x,t,[],k+1+x.length,decide (ZcK x<0),?_,by omega,fun _=>by omega,fun b r h1 h2 h3=>?_⟩
     ·refine cE ?_;cases t with
      | false=>
       have n2:(c.toNat:Int)=112:=(Zgf c 112 rfl).2 ht;have n3:¬(c.toNat:Int)=116:=by omega
       simp +contextual -implicitDefEqProofs only[go_sem,seval,ZU,e1,w,n1,n2,n3,e2]
      | true=>
       have n3:(c.toNat:Int)=116:=(Zgf c 116 rfl).2 ht;have n2:¬(c.toNat:Int)=112:=by omega
       simp +contextual -implicitDefEqProofs only[go_sem,seval,ZU,e1,w,n1,n2,n3,e2]
     ·rw[af,ht] at h3;rcases ZjN b r with ⟨rfl,h4⟩ | ⟨i,t',rfl,h4⟩ | ⟨d,a,x,y,rfl,h4⟩
      ·rw[h4] at h3;cases t<;>cases h3
      ·rw[h4] at h3;simp only[List.cons.injEq] at h3;obtain⟨h5,h6⟩:=h3;have al:t=t':=by cases t<;>cases t' <;> first | rfl | cases h5
       subst al;simp only[ZcI,Ko] at h2;obtain⟨g1,g2⟩:=ZE8 (v:=i.toNat) (by omega) h1 h6;rw[hx] at g1;rw[g1,g2,KO h2.1];refine⟨rfl,by simp[shw];omega,by simp;omega⟩
      ·rw[h4] at h3;cases d<;>cases t<;>cases h3
    rcases c2 with c2 | c2
    ·exact ad false c2
    ·exact ad true c2
   have n2:¬(c.toNat:Int)=112:=fun h=>c2 (.inl ((Zgf c 112 rfl).1 h));have n3:¬(c.toNat:Int)=116:=fun h=>c2 (.inr ((Zgf c 116 rfl).1 h));by_cases c4:c=100∨c=97
   ·have ad:∀ d:Bool,c=(if d then 100 else 97)→SpR s (n+1) k (Zd Xs Ms 208 [.ptr 0 0] [.box [.d (.str s),(.d (J k)),(.d (.bool false))]]):=by
     intro d hd;have hf:(if d then (c.toNat:Int)=100 else ¬(c.toNat:Int)=100∧(c.toNat:Int)=97):=by
      cases d with
      | true=>exact(Zgf c 100 rfl).2 hd
      | false=>
       have am:(c.toNat:Int)=97:=(Zgf c 97 rfl).2 hd;exact⟨by omega,am⟩
     have e3:=ZnB s (k+1+x.length) 40 (decide (ZcK x<0)) (by omega);have first:∀ b r,Zrj r→ZcI b=true→s.drop k=shw b++r→∃ a l y,b=.cut d a l y∧ZcI l=true∧ZcI y=true∧ZcK x=a∧0≤a∧x=num a.toNat∧nxB s (k+1+x.length)=40∧s.drop (k+1+x.length+1)=shw l++44 :: (shw y++41 :: r):=by
      intro b r h1 h2 h3;obtain⟨a,l,y,rfl,ha,hl,hy,h6⟩:=ZE7 af hd h2 h3;obtain⟨g1,g2⟩:=ZE8 (v:=a.toNat) (by omega) (Zl6 rfl) h6;rw[hx] at g1;have h7:=Zgi h6;rw[← g1] at h7;refine⟨a,l,y,rfl,hl,hy,by rw[g1,g2];omega,ha.1,g1,Zxi h7,?_⟩;exact Zgi (u:=[40]) h7
     by_cases hb1:ZcK x<0∨¬nxB s (k+1+x.length)=40
     ·have ag:(decide (ZcK x<0) || !decide (nxB s (k+1+x.length)=40))=true:=by
       rcases hb1 with h | h<;>simp[h]
      rw[ag] at e3;refine ZqN (k':=k+1+x.length+1) ?_ (by omega) fun b r h1 h2 h3=>?_
      ·refine cE ?_;cases d with
       | true=>
        simp only[Km] at hf;simp +contextual -implicitDefEqProofs only[go_sem,seval,ZU,e1,w,n1,n2,n3,hf,e2,e3]
       | false=>
        simp only[Ka,Kn] at hf;simp +contextual -implicitDefEqProofs only[go_sem,seval,ZU,e1,w,n1,n2,n3,hf.1,hf.2,e2,e3]
      ·obtain⟨a,l,y,_,_,_,m1,m2,_,m3,_⟩:=first b r h1 h2 h3;rcases hb1 with h | h
       ·omega
       ·exact h m3
     have aa : ¬ZcK x<0∧nxB s (k+1+x.length)=40:=⟨fun h=>hb1 (.inl h),Classical.byContradiction fun h=>hb1 (.inr h)⟩
     have ag:(decide (ZcK x<0) || !decide (nxB s (k+1+x.length)=40))=false:=by simp[aa.1,aa.2]<;>omega
     rw[ag] at e3;have an:=ZE6 aa.2 (by decide);obtain⟨o1,a1,q1,t1,ao,k3,b3,i1,g1,g2,g3⟩:=IH (k+1+x.length+1) (by omega) (by omega) (by omega);have e4:=ZnB s k3 44 b3 (by omega);by_cases hb2:b3=true∨¬nxB s k3=44
     ·have ab:(b3 || !decide (nxB s k3=44))=true:=by
       rcases hb2 with h | h<;>simp[h]
      rw[ab] at e4;refine ZqN (k':=k3+1) ?_ (by omega) fun b r h1 h2 h3=>?_
      ·refine cE ?_;cases d with
       | true=>
        simp only[Km] at hf;simp +contextual -implicitDefEqProofs only[go_sem,seval,ZU,e1,w,n1,n2,n3,hf,e2,e3,i1,e4]
       | false=>
        simp only[Ka,Kn] at hf;simp +contextual -implicitDefEqProofs only[go_sem,seval,ZU,e1,w,n1,n2,n3,hf.1,hf.2,e2,e3,i1,e4]
      ·obtain⟨a,l,y,_,hl,_,_,_,_,_,m4⟩:=first b r h1 h2 h3;obtain⟨_,m5,m6⟩:=g3 l _ (Zl6 rfl) hl m4;rcases hb2 with h | h
       ·rw[m6] at h;cases h
       ·exact h (by rw[m5];exact Zxi (Zgi m4))
     have ah : b3=false∧nxB s k3=44:=⟨by cases b3<;>first | rfl | exact absurd (.inl rfl) hb2,Classical.byContradiction fun h=>hb2 (.inr h)⟩
     obtain⟨rfl,ae⟩:=ah;have ab:(false || !decide (nxB s k3=44))=false:=by simp[ae]
     rw[ab] at e4;have ap:=ZE6 ae (by decide);have g2:=g2 rfl;obtain⟨o2,a2,q2,t2,aq,k5,b5,i2,f1,f2,f3⟩:=IH (k3+1) (by omega) (by omega) (by omega);have e5:=ZnB s k5 41 b5 (by omega);refine⟨Qb d,ZcK x,0,false,[.mk o1 a1 q1 t1 ao,.mk o2 a2 q2 t2 aq],k5+1,b5 || !decide (nxB s k5=41),?_,by omega,fun ak=>?_,fun b r h1 h2 h3=>?_⟩
     ·refine cE ?_;cases d with
      | true=>
       simp only[Km] at hf;simp +contextual -implicitDefEqProofs (maxSteps:=10^7) only[go_sem,seval,ZU,e1,w,n1,n2,n3,hf,e2,e3,i1,e4,i2,e5,Qb]
      | false=>
       simp only[Ka,Kn] at hf;simp +contextual -implicitDefEqProofs (maxSteps:=10^7) only[go_sem,seval,ZU,e1,w,n1,n2,n3,hf.1,hf.2,e2,e3,i1,e4,i2,e5,Qb]
     ·cases b5 with
      | true=>cases ak
      | false=>
       have ai:nxB s k5=41:=by simpa using ak
       have:=ZE6 ai (by decide);have:=f2 rfl;omega
     ·obtain⟨a,l,y,rfl,hl,hy,m1,m2,ar,m3,m4⟩:=first b r h1 h2 h3;obtain⟨p1,p2,_⟩:=g3 l _ (Zl6 rfl) hl m4;have m7:=Zgi m4;rw[← p2] at m7;have m8:s.drop (k3+1)=shw y++41 :: r:=Zgi (u:=[44]) m7;obtain⟨p3,p4,p5⟩:=f3 y _ (Zl6 rfl) hy m8;have m9:=Zxi (Zgi m8);rw[← p4] at m9;refine⟨by rw[BT.plan,p1,p3,m1],?_,?_⟩
      ·rw[p4,p2,ar];simp only[shw,Kl,Kq,KQ];omega
      ·rw[p5,m9];rfl
    rcases c4 with c4 | c4
    ·exact ad true c4
    ·exact ad false c4
   have n4:¬(c.toNat:Int)=100:=fun h=>c4 (.inl ((Zgf c 100 rfl).1 h));have n5:¬(c.toNat:Int)=97:=fun h=>c4 (.inr ((Zgf c 97 rfl).1 h));refine ZqN (k':=k+1) ?_ (by omega) fun b r h1 h2 h3=>?_
   ·refine cE ?_;simp +contextual -implicitDefEqProofs only[go_sem,seval,ZU,e1,w,n1,n2,n3,n4,n5]
   ·rw[af] at h3;rcases ZjN b r with ⟨rfl,h4⟩ | ⟨i,t,rfl,h4⟩ | ⟨d,a,x,y,rfl,h4⟩
    ·rw[h4] at h3;cases h3;exact c1 rfl
    ·rw[h4] at h3;simp only[List.cons.injEq] at h3;cases t
     ·exact c2 (.inl h3.1)
     ·exact c2 (.inr h3.1)
    ·rw[h4] at h3;simp only[List.cons.injEq] at h3;cases d
     ·exact c4 (.inr h3.1)
     ·exact c4 (.inl h3.1)
  ·rw[Zl5 (by simp;omega)] at e1;refine ZqN (k':=k+1) ?_ (by omega) fun b r h1 h2 h3=>?_
   ·refine cE ?_;simp +contextual -implicitDefEqProofs only[go_sem,seval,ZU,e1,w]
   ·have hl:=congrArg List.length h3;have:=ZCD b;rw[Ls,Kq] at hl;omega
theorem ZjO {s:List UInt8} {b:BT}:Zgg s=some b↔s.length≤1600∧s=shw b∧b.cnt≤255∧YS b=true:=by
 unfold Zgg;by_cases h:s.length≤1600
 ·rw[Kg h,Zit];exact⟨fun h'=>⟨h,h'⟩,fun h'=>h'.2⟩
 ·rw[Kd h];constructor
  ·intro h';cases h'
  ·intro h';exact absurd h'.1 h
theorem Zrn (s:List UInt8) (hs:s.length≤1048576):PrR (Zd Xs Ms 162 [.d (.str s)] []) (Zgg s):=by
 by_cases hl:s.length≤1600
 ·have ab : ¬(1600:Int)<(s.length:Int):=by omega
  obtain⟨o,a,q,t,ks,k',bad,e1,g1,g2,g3⟩:=ZDG s hs (s.length+1) 0 (by omega) (by omega) (by omega);rw[show ((0:Nat):Int)=0 from rfl] at e1;have hm:∀ b',Zgg s=some b'→Ze.mk o a q t ks=b'.plan∧k'=s.length∧bad=false∧s=shw b'∧b'.cnt≤255∧YS b'=true:=by
   intro b' h;obtain⟨_,h1,h2,h3⟩:=ZjO.1 h;obtain⟨p1,p2,p3⟩:=g3 b' [] (fun c t e=>by cases e) (ZcJ b' h3) (by rw[List.drop_zero,KF];exact h1);rw[← h1] at p2;exact⟨p1,by omega,p3,h1,h2,h3⟩
  have aa:(∀ b',Zgg s=some b'→False)→Zgg s=none:=by
   intro h;cases hp:Zgg s with
   | none=>rfl
   | some b'=>exact absurd (h b' hp) id
  cases bad with
  | true=>
   rw[aa fun b' h=>by cases (hm b' h).2.2.1];refine Zk5 ?_;refine cE ?_;simp +contextual -implicitDefEqProofs only[go_sem,seval,Xn,ab,e1]
  | false=>
   by_cases hk:k'=s.length
   ·subst hk;have e2:=Zfs (Ze.mk o a q t ks);cases hT:QU (Ze.mk o a q t ks) with
    | none=>
     rw[hT,Ze.enc_mk] at e2;have hz:Zu 255 none<0:=by rw[show Zu 255 none=-1 from rfl];omega
     rw[aa fun b' h=>by have:=(hm b' h).1;rw[this,XI] at hT;cases hT];refine Zk5 ?_;refine cE ?_;simp +contextual -implicitDefEqProofs only[go_sem,seval,Xn,ab,e1,e2,hz]
    | some b=>
     have ad:=Ua hT;have ae : ∀ b',Zgg s=some b'→b'=b:=by
      intro b' h;have:=(hm b' h).1;rw[this,XI] at hT;exact Option.some.inj hT
     rw[hT,Ze.enc_mk] at e2;rcases QZ 255 b with ⟨hc,hz⟩ | ⟨hc,hz⟩
     ·rw[hz] at e2;have h0:¬(b.cnt:Int)<0:=by omega
      have e3:=WF b;rw[← ad,Ze.enc_mk] at e3;cases hcb:YS b with
      | false=>
       rw[hcb] at e3;rw[aa fun b' h=>by have h2:=(hm b' h).2.2.2.2.2;rw[ae b' h,hcb] at h2;cases h2];refine Zk5 ?_;refine cE ?_;simp +contextual -implicitDefEqProofs only[go_sem,seval,Xn,ab,e1,e2,e3,h0]
      | true=>
       rw[hcb] at e3;have e4:=V6 b hcb (by omega);rw[← ad,Ze.enc_mk] at e4;by_cases hw:shw b=s
       ·rw[hw] at e4;have af:(s != s)=false:=by simp
        rw[ZjO.2 ⟨hl,hw.symm,by omega,hcb⟩];refine⟨o,a,q,t,ks,?_,ad⟩;refine cE ?_;simp +contextual -implicitDefEqProofs only[go_sem,seval,Xn,ab,e1,e2,e3,e4,h0,af]
        all_goals rfl
       ·have af:(shw b==s)=false:=by simp[hw]
        rw[aa fun b' h=>hw (by have:=(hm b' h).2.2.2.1;rw[ae b' h] at this;exact this.symm)];refine Zk5 ?_;refine cE ?_;simp +contextual -implicitDefEqProofs only[go_sem,seval,Xn,ab,e1,e2,e3,e4,h0,af]
     ·rw[hz] at e2;rw[aa fun b' h=>by have h2:=(hm b' h).2.2.2.2.1;rw[ae b' h] at h2;omega];refine Zk5 ?_;refine cE ?_;simp +contextual -implicitDefEqProofs only[go_sem,seval,Xn,ab,e1,e2]
   ·rw[aa fun b' h=>hk (hm b' h).2.1];have ag : ¬(k' : Int)=(s.length:Int):=by omega
    refine Zk5 ?_;refine cE ?_;simp +contextual -implicitDefEqProofs only[go_sem,seval,Xn,ab,e1,ag]
 ·have hm:Zgg s=none:=by unfold Zgg;rw[Kd hl]
  rw[hm];have ab : (1600:Int)<(s.length:Int):=by omega
  refine Zk5 ?_;refine cE ?_;simp +contextual -implicitDefEqProofs only[go_sem,seval,Xn,ab]
def Uw:List UInt8:=[116,117,114,110,115]
def Zce:List UInt8:=[102,105,120,101,100]
def Zcw (t:Bool):List UInt8:=if t then Uw else Zce
def XE (l:Zc):List (List UInt8):=[num l.Count.toNat,num l.Pane.W.toNat,num l.Pane.H.toNat,Zcw l.Pane.Turns,num l.Pane.Kind.toNat]
def ZaI (l:Zc):List UInt8:=YL 32 (XE l)
def six (n:Int):Prop:=0≤n∧n≤999999
instance (n:Int):Decidable (six n):=by unfold six;infer_instance
def Zro (l:Zc):Prop:=six l.Count∧six l.Pane.W∧six l.Pane.H∧six l.Pane.Kind
def Zgj:List (List UInt8)→Option Zc
 | [a,b,c,t,k]=>if t=Uw∨t=Zce then (rd a).bind fun a=>(rd b).bind fun b=>(rd c).bind fun c=>(rd k).bind fun k=>some ⟨⟨b,c,decide (t=Uw),k⟩,a⟩ else none
 | _=>none
theorem Zfv {c:UInt8} (hc:isD c=false) (n:Nat):c∉num n:=fun h=>by rw[ZqL n c h] at hc;cases hc
theorem ZBc (t:Bool):(32:UInt8)∉Zcw t:=by cases t<;>decide
theorem Zrp (t:Bool):Zcw t=Uw∨Zcw t=Zce:=by cases t<;>simp[Zcw]
theorem ZnC (t:Bool):decide (Zcw t=Uw)=t:=by cases t<;>decide
theorem ZE9 {w:List UInt8} (h:w=Uw∨w=Zce):Zcw (decide (w=Uw))=w:=by
 rcases h with rfl | rfl
 ·simp[Zcw]
 ·have:¬Zce=Uw:=by decide
  simp[Zcw,this]
theorem Zrq (l:Zc):∀ w∈XE l,(32:UInt8)∉w:=by
 intro w hw;simp only[XE,Ke,KL,or_false] at hw;rcases hw with rfl | rfl | rfl | rfl | rfl
 ·exact Zfv rfl _
 ·exact Zfv rfl _
 ·exact Zfv rfl _
 ·exact ZBc _
 ·exact Zfv rfl _
theorem ZgT {l:Zc} (h:Zro l):Zgj (XE l)=some l:=by
 obtain⟨⟨w,h',t,k⟩,c⟩:=l;obtain⟨h1,h2,h3,h4⟩:=h;simp only[six] at h1 h2 h3 h4;have e1:((c.toNat:Nat):Int)=c:=by omega
 have e2:((w.toNat:Nat):Int)=w:=by omega
 have e3:((h'.toNat:Nat):Int)=h':=by omega
 have e4:((k.toNat:Nat):Int)=k:=by omega
 simp only[XE,Zgj,Kg (Zrp t),ZdK (show c.toNat≤999999 by omega),ZdK (show w.toNat≤999999 by omega),ZdK (show h'.toNat≤999999 by omega),ZdK (show k.toNat≤999999 by omega),KT,ZnC,e1,e2,e3,e4]
theorem ZvG {ws:List (List UInt8)} {l:Zc} (h:Zgj ws=some l):ws=XE l∧Zro l:=by
 unfold Zgj at h;split at h
 ·rename_i a b c t k;split at h
  ·rename_i ht;simp only[KZ] at h;obtain⟨n1,h1,n2,h2,n3,h3,n4,h4,h⟩:=h;cases h;obtain⟨r1,b1⟩:=UR h1;obtain⟨r2,b2⟩:=UR h2;obtain⟨r3,b3⟩:=UR h3;obtain⟨r4,b4⟩:=UR h4;refine⟨?_,?_,?_,?_,?_⟩
   ·simp only[XE,Ky,ZE9 ht];rw[r1,r2,r3,r4]
   all_goals (simp only[six];omega)
  ·cases h
 ·cases h
def Q4 {α:Type} (f:α→List UInt8) (l:List α):List UInt8:=(l.map fun x=>f x++[10]).flatten
theorem ZoR {α:Type} (f:α→List UInt8) (x:α) (l:List α):Q4 f (x :: l)=f x++10 :: Q4 f l:=by simp[Q4]
theorem ZyW {α:Type} (f:α→List UInt8) (l:List α) (x:α):Q4 f (l++[x])=Q4 f l++(f x++[10]):=by simp[Q4]
end Go.Proofs.YtfnegoimdljanaaGreatDoor
namespace Go.Proofs.YtfnegoimdljanaaGreatDoor
open Go Go.Abs Go.Abs.E Go.Abs.L
set_option linter.unusedSimpArgs false
set_option linter.unusedVariables false
set_option maxRecDepth 20000
set_option maxHeartbeats 4000000
def ZDH (c:UInt8) (s:List UInt8):Int:=match Xp c s with
 | none=>-1
 | some i=>(i:Int)
theorem ZFa (c:UInt8) (s:List UInt8):Lib.indexByte s c=ZDH c s:=by
 unfold ZDH
 induction s with
 | nil=>rfl
 | cons x r ih=>
  simp only[Lib.indexByte,Xp,ih];by_cases h:x=c
  ·simp[h]
  ·rw[Kd h];cases Xp c r with
   | none=>simp[h]
   | some i=>simp[h]<;>omega
theorem Zgk (c:UInt8) (s:List UInt8):(ZL c s).length=s.count c+1:=by
 induction s with
 | nil=>rfl
 | cons x r ih=>
  simp only[ZL];by_cases h:x=c
  ·rw[Kg h];simp[ih,h]
  ·rw[Kd h];cases hs:ZL c r with
   | nil=>exact absurd hs (Ub c r)
   | cons p q=>
    rw[hs] at ih;simp only[Kl] at ih ⊢;rw[List.count_cons_of_ne (fun e=>h e)];exact ih
theorem ZBd (ws:List (List UInt8)):ZjF (ws.map .str)=some ws:=by
 induction ws with
 | nil=>rfl
 | cons x r ih=>simp only[Kk,ZjF,ih];rfl
theorem Zrr (c:UInt8):∀ ws:List (List UInt8),Lib.join ws [c]=YL c ws
 | []=>rfl
 | [x]=>Lib.join_one x [c]
 | x :: y :: r=>by
  have ih:=Zrr c (y :: r);unfold Lib.join at ih ⊢;simp only[YL,← ih,List.intercalate,List.intersperse,Lj,KK,LN,KD,Ll]
theorem Zia (ws:List (List UInt8)) (c:UInt8) (h0:0<ws.length) (h1:ws.length≤1000) (h2:(YL c ws).length≤1048576):Zd Xs Ms 89 [.d (.sl (ws.map .str)),.d (.str [c])] []=some (.d (.str (YL c ws)),[]):=by
 refine VR Xs Ms Zr4 ?_;unfold Zxb;simp only;rw[ZBd];simp only[Zh];rw[Kg ⟨h0,by unfold Zcv;omega,by rw[Zrr];unfold Zcv;omega⟩,Zrr]
theorem ZyX (s:List UInt8) (c:UInt8):Zd Xs Ms 118 [.d (.str s),.d (.str [c])] []=some ((.d (J (ZDH c s))),[]):=by
 refine VR Xs Ms Zcj ?_;unfold ZEW;simp only;rw[ZFa]
theorem ZnD (s:List UInt8) (c:UInt8):Zd Xs Ms 174 [.d (.str s),.d (.str [c])] []=some ((.d (J (ZDH c s))),[]):=by
 have e1:=ZyX s c;refine cE ?_;simp +contextual -implicitDefEqProofs only[go_sem,seval,Zcl,e1]
theorem ZnE (s:List UInt8) (c:UInt8):Zd Xs Ms 173 [.d (.str s),.d (.str [c])] []=some ((.d (J ((s.count c:Nat)))),[]):=by
 refine VR Xs Ms Zp8 ?_;unfold ZEX;simp only[Lib.countByte]
theorem Cut_ev (s:List UInt8) (c:UInt8) (hs:s.length≤1048576):Zd Xs Ms 69 [.d (.str s),.d (.str [c])] []=some (.tup (match Xp c s with | none=>[.d (.str s),.d (.str []),(.d (.bool false))] | some i=>[.d (.str (s.take i)),.d (.str (s.drop (i+1))),(.d (.bool true))]),[]):=by
 have e1:=ZyX s c;unfold ZDH at e1;cases h:Xp c s with
 | none=>
  rw[h] at e1;refine cE ?_;simp +contextual -implicitDefEqProofs only[go_sem,seval,Xu,e1]
 | some i=>
  obtain⟨_,_,hi⟩:=JD h;rw[h] at e1;simp only at e1;have w:=Zg (k:=i) (by omega);have h1:((i+1:Nat):Int)≤(s.length:Int):=by omega
  have h2:(i:Int)≤(s.length:Int):=by omega
  refine cE ?_;simp +contextual -implicitDefEqProofs only[go_sem,seval,Xu,e1,w,h1,h2,ZtE,Ll,KF,KN]
theorem ZdN (s:List UInt8) (c:UInt8) (hs:s.length≤1048576):Zd Xs Ms 36 [.d (.str s),.d (.str [c])] []=some (.tup (match Xp c s with | none=>[.d (.str s),.d (.str []),(.d (.bool false))] | some i=>[.d (.str (s.take i)),.d (.str (s.drop (i+1))),(.d (.bool true))]),[]):=by
 have e1:=Cut_ev s c hs;cases h:Xp c s with
 | none=>
  rw[h] at e1;refine cE ?_;simp +contextual -implicitDefEqProofs only[go_sem,seval,ZbM,e1]
 | some i=>
  rw[h] at e1;refine cE ?_;simp +contextual -implicitDefEqProofs only[go_sem,seval,ZbM,e1]
theorem ZCF (done:List (List UInt8)) (x y:D) (r:List D):(done.map D.str++x :: r).set done.length y=done.map D.str++y :: r:=by
 have h:=List.set_append_right (s:=done.map D.str) (t:=x :: r) (i:=done.length) y (by simp);rw[h];simp
theorem ZCG (done:List (List UInt8)) (x:D) (r:List D):(done.map D.str++x :: r)[done.length]?=some x:=by
 rw[KG (by simp)];simp
theorem ZoS (a b:List UInt8):VN (.str a) 0 [.str b]=.str b:=rfl
theorem ZvH (a:List UInt8):(D.str a).notSl=true:=rfl
theorem ZvI (a:List UInt8):(D.str a).cells=[.str a]:=rfl
theorem ZyY (s:List UInt8) (c:UInt8) (hs:s.length≤1048576):Zd Xs Ms 121 [.d (.str s),.d (.str [c]),(.d (J 0)),(.d (J (-1)))] []=some (.ownv 0 0 (ZL c s).length,[.row 1 ((ZL c s).map .str) true false]):=by
 have e1:=ZnE s c;have ai:s.count c≤s.length:=Kar;have w1:=Zg (k:=s.count c) (by omega);have w2:=Zg (k:=s.length) (by omega);have ab:=Zgk c s;obtain⟨n,hn⟩:∃ n,s.count c=n:=⟨_,rfl⟩
 rw[hn] at e1 w1 ab ai;have aj:(([c]:List UInt8)==[])=false:=rfl;have ae:min ((n+1:Nat):Int) ((s.length+1:Nat):Int)=((n+1:Nat):Int):=by omega
 have w3:IntKind.i64.wrap (((n+1:Nat):Int)-1)=(n:Int):=by rw[show ((n+1:Nat):Int)-1=n by omega];exact wi _ (by omega) (by omega)
 have ak:((n+1:Nat):Int)*16≤140737488355328∧((n+1:Nat):Int)≤140737488355328:=by omega
 refine cE ?_;simp +contextual -implicitDefEqProofs only[go_sem,seval,Je,e1,w1,w2,aj,ae,w3,ak];refine LO (α:=List (List UInt8)×List UInt8) (fun a=>[(10,.d (J (a.1.length:Nat))),(0,.d (.str a.2))]) (fun a=>[(0,.row 1 (a.1.map .str++List.replicate (n+1-a.1.length) (.str [])) true false)]) (fun a=>ZL c s=a.1++ZL c a.2∧a.2.length≤s.length) (fun a=>n-a.1.length) ([],s) ⟨rfl,Kp _⟩ ?_;intro⟨done,rest⟩ ⟨hp,hr⟩ ih;simp only at hp hr ih ⊢;have af:=Zgk c rest;have al:=congrArg List.length hp;rw[ab,Kq,af] at al;by_cases an:done.length<n
 ·have ag : (done.length:Int)<(n:Int):=by omega
  have e2:=ZnD rest c;unfold ZDH at e2;have aa:List.replicate (n+1-done.length) (D.str [])=D.str [] :: List.replicate (n-done.length) (D.str []):=by rw[show n+1-done.length=(n-done.length)+1 by omega];rfl
  rw[aa];cases hi:Xp c rest with
  | none=>
   have:=ZaH (Zl3.1 hi);rw[this] at af;simp at af;omega
  | some m=>
   obtain⟨_,_,hm⟩:=JD hi;rw[hi] at e2;simp only at e2;have w:=Zg (k:=m) (by omega);have w':=Zg (k:=done.length) (by omega);have w0:=wi (m:Int) (by omega) (by omega);have h1:((m+1:Nat):Int)≤(rest.length:Int):=by omega
   have h2:(m:Int)≤(rest.length:Int):=by omega
   have h3:¬(m:Int)<0:=by omega
   have h4:done.length<done.length+(n-done.length+1):=by omega
   have ah:=Zdx c rest;rw[hi] at ah;simp only at ah;simp +contextual -implicitDefEqProofs only[go_sem,seval,ag,e2,w,w',w0,h1,h2,h3,h4,ZCF,ZCG,ZoS,ZvH,ZvI,Kl,KQ,K7,and_self,Km,Zh,Int.add_zero,KN,L6];refine ih (done++[rest.take m],rest.drop (m+1)) _ ⟨?_,?_⟩ (by simp;omega) ?_
   ·simp only[KK,LN];rw[← ah];exact hp
   ·simp;omega
   ·have ad:n+1-(done.length+1)=n-done.length:=by omega
    simp +contextual -implicitDefEqProofs only[go_sem,seval,Kq,KI,KK,ad]
 ·have hi:done.length=n:=by omega
  have am:ZL c rest=[rest]:=by
   cases hi2:Xp c rest with
   | none=>exact ZaH (Zl3.1 hi2)
   | some m=>
    obtain⟨h1,_,hm⟩:=JD hi2;have:c∈rest:=by rw[h1];simp
    have:=La.2 this;omega
  rw[am] at hp;subst hi;have w':=Zg (k:=done.length) (by omega);have aa:done.length+1-done.length=1:=by omega
  have h5:done.length<done.length+1:=by omega
  have h6:((done.length+1:Nat):Int)≤((done.length+1:Nat):Int):=Kag _;simp +contextual -implicitDefEqProofs only[go_sem,seval,aa,w',h5,h6,List.replicate_one,ZCF,ZCG,ZoS,ZvH,ZvI,Kl,KQ,K7,and_self,Km,Zh];rw[hp];simp
theorem Zgl (s:List UInt8) (c:UInt8) (hs:s.length≤1048576):Zd Xs Ms 73 [.d (.str s),.d (.str [c])] []=some (.ownv 0 0 (ZL c s).length,[.row 1 ((ZL c s).map .str) true false]):=by
 have e1:=ZyY s c hs;refine cE ?_;simp +contextual -implicitDefEqProofs only[go_sem,seval,Zcm,e1]
def Yx:List (List UInt8)→Option (List Int)
 | []=>some []
 | w :: r=>(rd w).bind fun v=>(Yx r).bind fun vs=>some ((v:Int) :: vs)
def rnV (o:Option (List Int)):AV×List Zm:=match o with
 | none=>(.tup [.own 0,(.d (.bool false))],[.row 1 [] true false])
 | some vs=>(.tup [.own 0,(.d (.bool true))],[.row 1 (vs.map X3) true false])
theorem ZyZ {ws:List (List UInt8)} {k:Nat} {x:List UInt8} (hx:ws[k]?=some x):Yx (ws.drop k)=(rd x).bind fun v=>(Yx (ws.drop (k+1))).bind fun vs=>some ((v:Int) :: vs):=by
 obtain⟨h1,h2⟩:=Kb.1 hx;rw[Ku h1,h2,Yx]
theorem Zgm (ws:List (List UInt8)) (hw:ws.length≤2000000):Zd Xs Ms 72 [.d (.sl (ws.map .str))] []=some (rnV (Yx ws)):=by
 refine cE ?_;simp +contextual -implicitDefEqProofs only[go_sem,seval,Zck];refine LO (α:=Nat×List Int) (fun a=>[(11,.d (J (a.1:Int)))]) (fun a=>[(0,.row 1 (a.2.map X3) true false)]) (fun a=>a.1≤ws.length∧a.2.length≤a.1∧Yx ws=(Yx (ws.drop a.1)).map fun r=>a.2++r) (fun a=>ws.length-a.1) (0,[]) ⟨by simp,by simp,by simp⟩ ?_;intro⟨k,vs⟩ ⟨hk,hv,hp⟩ ih;simp only at hk hv hp ih ⊢;by_cases ad:k<ws.length
 ·obtain⟨x,hx⟩:=Zp ad;have aa : (k:Int)<(ws.length:Int):=by omega
  have w:=Zg (k:=k) (by omega);have e1:=UT x;rw[ZyZ hx] at hp;have ab:(vs.length+1)*8≤140737488355328∧vs.length+1≤140737488355328:=by omega
  have ae:(ws.map D.str)[k]?=some (.str x):=by rw[K0,hx];rfl
  cases hr:rd x with
  | none=>
   rw[hr] at e1 hp;simp only[ZgR] at e1;simp only[LZ,Option.map_none] at hp;rw[hp];simp +contextual -implicitDefEqProofs only[go_sem,seval,aa,ad,ae,hx,w,e1,rnV]
  | some v=>
   rw[hr] at e1 hp;simp only[ZgR] at e1;simp +contextual -implicitDefEqProofs only[go_sem,seval,aa,ad,ae,hx,w,e1,ab];refine ih (k+1,vs++[(v:Int)]) _ ⟨by omega,by simp;omega,?_⟩ (by omega) ?_
   ·rw[hp];cases Yx (ws.drop (k+1))<;>simp
   ·simp +contextual -implicitDefEqProofs only[go_sem,seval,X3,KI,Kk,Ks]
 ·have:k=ws.length:=by omega
  subst this;simp only[List.drop_length,Yx,Lc,KF] at hp;rw[hp];simp +contextual -implicitDefEqProofs only[go_sem,seval,rnV]
def rlV (o:Option Zc):AV:=match o with
 | none=>.tup [.d (.agg [J 0,J 0,.bool false,J 0,J 0]),(.d (.bool false))]
 | some l=>.tup [.d l.enc,(.d (.bool true))]
theorem Zun (s:List UInt8) (hs:s.length≤1048576):Zd Xs Ms 70 [.d (.str s)] []=some (rlV (Zgj (ZL 32 s)),[]):=by
 have e1:=Zgl s 32 hs;generalize ZL 32 s=ws at e1;by_cases h5:ws.length=5
 ·obtain⟨a,b,c,t,k,rfl⟩:∃ a b c t k,ws=[a,b,c,t,k]:=by
   match ws,h5 with
   | [a,b,c,t,k],_=>exact⟨a,b,c,t,k,rfl⟩
  simp only[Kk,Ks,Kl,KQ,K7,Nat.reduceAdd] at e1;have ad:∀ tb:Bool,t=Zcw tb→Zd Xs Ms 70 [.d (.str s)] []=some (rlV (Zgj [a,b,c,t,k]),[]):=by
   intro tb ht;have e2:=Zgm [a,b,c,k] (by simp);simp only[Kk,Ks] at e2;have ae:=Zrp tb;rw[← ht] at ae;have aa:=ZnC tb;rw[← ht] at aa;have af:Zgj [a,b,c,t,k]=match Yx [a,b,c,k] with
     | some [a,b,c,k]=>some ⟨⟨b,c,tb,k⟩,a⟩
     | _=>none:=by
    simp only[Zgj,Kg ae,Yx,aa];cases rd a<;>cases rd b<;>cases rd c<;>cases rd k<;>rfl
   rw[af];have h4:∀ vs,Yx [a,b,c,k]=some vs→∃ x y z u:Int,vs=[x,y,z,u]:=by
    intro vs h;simp only[Yx,KZ,Option.some.injEq] at h;obtain⟨x,_,_,⟨y,_,_,⟨z,_,_,⟨u,_,_,h1,rfl⟩,rfl⟩,rfl⟩,rfl⟩:=h;subst h1;exact⟨_,_,_,_,rfl⟩
   have q1:(t==[116,117,114,110,115])=tb:=by
    rw[ht];cases tb<;>rfl
   have q2:(t==[102,105,120,101,100])=!tb:=by
    rw[ht];cases tb<;>rfl
   cases hr:Yx [a,b,c,k] with
   | none=>
    rw[hr] at e2;simp only[rnV] at e2;refine cE ?_;cases tb with
    | true=>simp +contextual -implicitDefEqProofs only[go_sem,seval,YW,e1,e2,q1,q2,rlV,Bool.not_true]
    | false=>simp +contextual -implicitDefEqProofs only[go_sem,seval,YW,e1,e2,q1,q2,rlV,Kas]
   | some vs=>
    obtain⟨x,y,z,u,rfl⟩:=h4 vs hr;rw[hr] at e2;simp only[rnV,Kk,Ks,X3] at e2;refine cE ?_;cases tb with
    | true=>simp +contextual -implicitDefEqProofs only[go_sem,seval,YW,e1,e2,q1,q2,rlV,Bool.not_true,Zc.enc]
    | false=>simp +contextual -implicitDefEqProofs only[go_sem,seval,YW,e1,e2,q1,q2,rlV,Kas,Zc.enc]
  by_cases t1:t=Uw
  ·exact ad true t1
  by_cases t2:t=Zce
  ·exact ad false t2
  ·have ab:Zgj [a,b,c,t,k]=none:=by
    simp only[Zgj];rw[Kd (fun h=>h.elim t1 t2)]
   rw[ab];have q1:(t==[116,117,114,110,115])=false:=by simpa [Uw] using t1
   have q2:(t==[102,105,120,101,100])=false:=by simpa [Zce] using t2
   refine cE ?_;simp +contextual -implicitDefEqProofs only[go_sem,seval,YW,e1,q1,q2,rlV]
 ·have ab:Zgj ws=none:=by
   unfold Zgj;split
   ·exact absurd rfl h5
   ·rfl
  rw[ab];have ag : ¬(ws.length:Int)=5:=by omega
  refine cE ?_;simp +contextual -implicitDefEqProofs only[go_sem,seval,YW,e1,ag,rlV]
theorem ZeN (l:Zc) (h:Zro l):(YL 32 (XE l)).length≤40:=by
 obtain⟨⟨w,h',t,k⟩,c⟩:=l;obtain⟨h1,h2,h3,h4⟩:=h;simp only[six] at h1 h2 h3 h4;have l1:=Yi 5 c.toNat (by omega);have l2:=Yi 5 w.toNat (by omega);have l3:=Yi 5 h'.toNat (by omega);have l4:=Yi 5 k.toNat (by omega);have l5:(Zcw t).length=5:=by cases t<;>rfl
 simp only[XE,YL,Kq,Kl];omega
theorem Zuo (lW lH:Int) (lT:Bool) (lK lC:Int) (h:Zro (Zc.mk (Pane.mk lW lH lT lK) lC)):Zd Xs Ms 45 [(.d (.agg [J lW,J lH,.bool lT,J lK,J lC]))] []=some (.d (.str (ZaI (Zc.mk (Pane.mk lW lH lT lK) lC))),[]):=by
 have hw:=ZeN (Zc.mk (Pane.mk lW lH lT lK) lC) h;obtain⟨h1,h2,h3,h4⟩:=h;simp only[six] at h1 h2 h3 h4;have e1:=Qe lC h1.1 (by omega);have e2:=Qe lW h2.1 (by omega);have e3:=Qe lH h3.1 (by omega);have e4:=Qe lK h4.1 (by omega);have e5:=Zia (XE (Zc.mk (Pane.mk lW lH lT lK) lC)) 32 (by simp[XE]) (by simp[XE]) (by omega);simp only[XE,Kk,Ks] at e5;unfold ZaI;simp only[XE];refine cE ?_;cases lT with
 | true=>
  simp only[Zcw,Uw,Km] at e5 ⊢;simp +contextual -implicitDefEqProofs only[go_sem,seval,Zdn,e1,e2,e3,e4,e5]
 | false=>
  simp only[Zcw,Zce,Ka,Kn] at e5 ⊢;simp +contextual -implicitDefEqProofs only[go_sem,seval,Zdn,e1,e2,e3,e4,e5]
theorem Zup (lW lH:Int) (lT:Bool) (lK lC:Int) (h:Zro (Zc.mk (Pane.mk lW lH lT lK) lC)):Zd Xs Ms 114 [(.d (.agg [J lW,J lH,.bool lT,J lK,J lC]))] []=some (.d (.str (ZaI (Zc.mk (Pane.mk lW lH lT lK) lC))),[]):=by
 have hw:=ZeN (Zc.mk (Pane.mk lW lH lT lK) lC) h;obtain⟨h1,h2,h3,h4⟩:=h;simp only[six] at h1 h2 h3 h4;have e1:=Xg lC.toNat (by omega);have e2:=Xg lW.toNat (by omega);have e3:=Xg lH.toNat (by omega);have e4:=Xg lK.toNat (by omega);rw[KO (by omega)] at e1 e2 e3 e4;have l1:=Yi 5 lC.toNat (by omega);have l2:=Yi 5 lW.toNat (by omega);have l3:=Yi 5 lH.toNat (by omega);have l4:=Yi 5 lK.toNat (by omega);unfold ZaI;simp only[XE,YL];generalize num lC.toNat=a at *;generalize num lW.toNat=b at *;generalize num lH.toNat=c at *;generalize num lK.toNat=d at *;have b1:a.length+1≤1152921504606846976:=by omega
 have b2:a.length+1+b.length≤1152921504606846976:=by omega
 have b3:a.length+1+b.length+1≤1152921504606846976:=by omega
 have b4:a.length+1+b.length+1+c.length≤1152921504606846976:=by omega
 have b5:a.length+1+b.length+1+c.length+1≤1152921504606846976:=by omega
 have b6:a.length+1+b.length+1+c.length+1+5≤1152921504606846976:=by omega
 have b7:a.length+1+b.length+1+c.length+1+5+1≤1152921504606846976:=by omega
 have b8:a.length+1+b.length+1+c.length+1+5+1+d.length≤1152921504606846976:=by omega
 refine cE ?_;cases lT with
 | true=>
  simp only[Zcw,Uw,Km];simp +contextual -implicitDefEqProofs only[go_sem,seval,Zdm,e1,e2,e3,e4,b1,b2,b3,b4,b5,b6,b7,b8];simp only[KK,KD,Ll]
 | false=>
  simp only[Zcw,Zce,Ka,Kn];simp +contextual -implicitDefEqProofs only[go_sem,seval,Zdm,e1,e2,e3,e4,b1,b2,b3,b4,b5,b6,b7,b8];simp only[KK,KD,Ll]
theorem ZBe {c:UInt8} {s:List UInt8} {f k:Nat} (hf:f≤k) (hk:k≤s.length) (aa:c∉(s.take k).drop f) :
  (∀ x,s[k]?=some x→x=c→ZL c (s.drop f)=(s.take k).drop f :: ZL c (s.drop (k+1)))∧(k=s.length→ZL c (s.drop f)=[(s.take k).drop f]):=by
 constructor
 ·intro x hx hc;obtain⟨h1,h2⟩:=Kb.1 hx;have e:s.drop f=(s.take k).drop f++c :: s.drop (k+1):=by
   have:s=s.take k++x :: s.drop (k+1):=by
    rw[← h2,← Ku h1,Lq]
   conv=>lhs;rw[this]
   rw[List.drop_append_of_le_length (by simp;omega),hc]
  rw[e,ZjM aa]
 ·intro ab;subst ab;rw[KN] at aa ⊢;exact ZaH aa
theorem Zrs {s:List UInt8} {f k:Nat} {x:UInt8} (hf:f≤k) (hx:s[k]?=some x):(s.take (k+1)).drop f=(s.take k).drop f++[x]:=by
 obtain⟨h1,h2⟩:=Kb.1 hx;rw[KB,hx,L3,List.drop_append_of_le_length (by simp;omega)]
theorem Zl7 (s:List UInt8) (c:UInt8) (n:Int) (hn:(c.toNat:Int)=n) (hs:s.length≤1048576):Zd Xs Ms 57 [.d (.str s),.d (.int .u8 n)] []=some (.own 0,[.row 1 ((ZL c s).map .str) true false]):=by
 refine cE ?_;simp +contextual -implicitDefEqProofs only[go_sem,seval,ZiW];refine LO (α:=Nat×Nat×List (List UInt8)) (fun a=>[(7,.d (J (a.1:Int))),(6,.d (J (a.2.1:Int)))]) (fun a=>[(0,.row 1 (a.2.2.map .str) true false)]) (fun a=>a.2.1≤a.1∧a.1≤s.length∧a.2.2.length≤a.1∧c∉(s.take a.1).drop a.2.1∧ZL c s=a.2.2++ZL c (s.drop a.2.1)) (fun a=>s.length-a.1) (0,0,[]) ⟨by simp,by simp,by simp,by simp,by simp⟩ ?_;intro⟨k,f,out⟩ ⟨hf,hk,ho,hno,hp⟩ ih;simp only at hf hk ho hno hp ih ⊢;have aa:(out.length+1)*16≤140737488355328∧out.length+1≤140737488355328:=by omega
 obtain⟨s1,s2⟩:=ZBe hf hk hno;have b1:(f:Int)≤(k:Int):=by omega
 have b2:(k:Int)≤(s.length:Int):=by omega
 have b3:(f:Int)≤(s.length:Int):=by omega
 by_cases ad:k<s.length
 ·obtain⟨x,hx⟩:∃ x,s[k]?=some x:=⟨_,Kv ad⟩
  have ab : (k:Int)<(s.length:Int):=by omega
  have w:=Zg (k:=k) (by omega);by_cases he:x=c
  ·have ae:(x.toNat:Int)=n:=by rw[he,hn]
   have s1:=s1 x hx he;simp +contextual -implicitDefEqProofs only[go_sem,seval,ab,ad,hx,w,ae,b1,b2,aa];refine ih (k+1,k+1,out++[(s.take k).drop f]) _ ⟨by simp,by simp only;omega,by simp;omega,by simp,?_⟩ (by simp only;omega) ?_
   ·simp only[KK,LN];rw[hp,s1]
   ·simp +contextual -implicitDefEqProofs only[go_sem,seval,KI,Kk,Ks]
  ·have ae:¬(x.toNat:Int)=n:=by
    intro h;rw[← hn] at h;exact he (UInt8.toNat_inj.1 (by omega))
   simp +contextual -implicitDefEqProofs only[go_sem,seval,ab,ad,hx,w,ae];refine ih (k+1,f,out) _ ⟨by simp only;omega,by simp only;omega,by simp only;omega,?_,hp⟩ (by simp only;omega) ?_
   ·simp only;rw[Zrs hf hx];simp only[Ki,KE,not_or];exact⟨hno,fun e=>he e.symm⟩
   ·simp +contextual -implicitDefEqProofs only[go_sem,seval]
 ·have af:k=s.length:=by omega
  have s2:=s2 af;subst af;rw[KN] at s2;rw[s2] at hp;rw[hp];simp +contextual -implicitDefEqProofs only[go_sem,seval,b3,aa,KN,KI,Kk,Ks]
def lnS (ws:List (List UInt8)):Option Zc:=match ws with
 | [a,b,c,t,k]=>if t=Uw∨t=Zce then some ⟨⟨ZcK b,ZcK c,decide (t=Uw),ZcK k⟩,ZcK a⟩ else none
 | _=>none
theorem Zuq (ws:List (List UInt8)) (hw:∀ w∈ws,w.length≤1048576):Zd Xs Ms 160 [.d (.sl (ws.map .str))] []=some (rlV (lnS ws),[]):=by
 by_cases h5:ws.length=5
 ·obtain⟨a,b,c,t,k,rfl⟩:∃ a b c t k,ws=[a,b,c,t,k]:=by
   match ws,h5 with
   | [a,b,c,t,k],_=>exact⟨a,b,c,t,k,rfl⟩
  have ea:=Yc a (hw a (by simp));have eb:=Yc b (hw b (by simp));have ec:=Yc c (hw c (by simp));have ek:=Yc k (hw k (by simp));simp only[Kk,Ks];have ad:∀ tb:Bool,t=Zcw tb→Zd Xs Ms 160 [.d (.sl [.str a,.str b,.str c,.str t,.str k])] []=some (rlV (lnS [a,b,c,t,k]),[]):=by
   intro tb ht;have ae:=Zrp tb;rw[← ht] at ae;have aa:=ZnC tb;rw[← ht] at aa;have q1:(t==[116,117,114,110,115])=tb:=by
    rw[ht];cases tb<;>rfl
   have q2:(t==[102,105,120,101,100])=!tb:=by
    rw[ht];cases tb<;>rfl
   simp only[lnS,Kg ae,aa];refine cE ?_;cases tb with
   | true=>simp +contextual -implicitDefEqProofs only[go_sem,seval,Ui,ea,eb,ec,ek,q1,q2,rlV,Bool.not_true,Zc.enc]
   | false=>simp +contextual -implicitDefEqProofs only[go_sem,seval,Ui,ea,eb,ec,ek,q1,q2,rlV,Kas,Zc.enc]
  by_cases t1:t=Uw
  ·exact ad true t1
  by_cases t2:t=Zce
  ·exact ad false t2
  ·have ab:lnS [a,b,c,t,k]=none:=by
    simp only[lnS];rw[Kd (fun h=>h.elim t1 t2)]
   rw[ab];have q1:(t==[116,117,114,110,115])=false:=by simpa [Uw] using t1
   have q2:(t==[102,105,120,101,100])=false:=by simpa [Zce] using t2
   refine cE ?_;simp +contextual -implicitDefEqProofs only[go_sem,seval,Ui,q1,q2,rlV]
 ·have ab:lnS ws=none:=by
   unfold lnS;split
   ·exact absurd rfl h5
   ·rfl
  rw[ab];have af : ¬(ws.length:Int)=5:=by omega
  refine cE ?_;simp +contextual -implicitDefEqProofs only[go_sem,seval,Ui,af,rlV]
theorem Zk6 (c:UInt8):∀ s:List UInt8,∀ w∈ZL c s,w.length≤s.length
 | [],w,h=>by simp only[ZL,KE] at h;rw[h];simp
 | x :: r,w,h=>by
  have ih:=Zk6 c r;simp only[ZL] at h;by_cases hx:x=c
  ·rw[Kg hx] at h;rcases Ke.1 h with rfl | h
   ·simp
   ·have:=ih w h;simp;omega
  ·rw[Kd hx] at h;cases hs:ZL c r with
   | nil=>exact absurd hs (Ub c r)
   | cons p q=>
    rw[hs] at h ih;simp only at h;rcases Ke.1 h with rfl | h
    ·have:=ih p (by simp);simp;omega
    ·have:=ih w (by simp[h]);simp;omega
theorem Zy0 {ws:List (List UInt8)} {x:Zc} (h:Zgj ws=some x):lnS ws=some x:=by
 unfold Zgj at h;split at h
 ·rename_i a b c t k;split at h
  ·rename_i ht;simp only[KZ] at h;obtain⟨n1,h1,n2,h2,n3,h3,n4,h4,h⟩:=h;cases h;simp only[lnS,Kg ht,ZbS h1,ZbS h2,ZbS h3,ZbS h4]
  ·cases h
 ·cases h
end Go.Proofs.YtfnegoimdljanaaGreatDoor
