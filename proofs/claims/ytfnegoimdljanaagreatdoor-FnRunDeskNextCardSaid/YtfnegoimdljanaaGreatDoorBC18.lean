import Derived.Test.YtfnegoimdljanaaGreatDoorBC16
set_option linter.unusedSimpArgs false
set_option linter.unusedVariables false
namespace Go.Proofs.YtfnegoimdljanaaGreatDoor
open Go Go.Abs Go.Abs.E Go.Abs.L
set_option maxRecDepth 20000
set_option maxHeartbeats 4000000
theorem ZzQ (p:Ze):ZzO p=[]∨∃ b,p=b.plan∧b.cnt≤255∧YO b=true∧ZzO p=shw b:=by
 cases h:QS p with
 | none=>exact .inl (Zu1 h)
 | some b=>
  rw[Zn3 h];by_cases hc:b.cnt≤255∧YO b=true
  ·rw[Kg hc];exact .inr ⟨b,WP h,hc.1,hc.2,rfl⟩
  ·rw[Kd hc];exact .inl rfl
def ZbF (s:List UInt8):Int:=match rd s with
 | some v=>(v:Int)
 | none=>-1
theorem Zms {s:List UInt8} (h:rd s=none):ZbF s=-1:=by unfold ZbF;rw[h]
theorem ZaN {s:List UInt8} {v:Nat} (h:rd s=some v):ZbF s=v:=by unfold ZbF;rw[h]
theorem rd_iff {s:List UInt8} {v:Nat}:rd s=some v↔s=num v∧v≤999999:=⟨Uy,fun ⟨h1,h2⟩=>by rw[h1];exact Zcv h2⟩
theorem ZDJ (s:List UInt8) (k:Nat):val (s.take k)≤val s:=by
 have aa:∀ (u:List UInt8) (n:Nat),n≤u.foldl (fun n c=>10*n+(c.toNat-48)) n:=by
  intro u
  induction u with
  | nil=>intro n;exact Kr _
  | cons c u ih=>intro n;exact Ky (show n≤10*n+(c.toNat-48) by omega) (ih _)
 conv=>rhs;rw[← Lt k s]
 unfold val;rw[List.foldl_append];exact aa _ _
theorem X9 (s:List UInt8) (hs:s.length≤1048576):v_ 161 [.d (.str s)] []=some ((.d (J (ZbF s))),[]):=by
 generalize aa:ZbF s=res;refine cE ?_;simp (maxSteps:=10^7) +contextual -implicitDefEqProofs only[go_sem,seval,ZiT];refine LO (α:=Nat) (fun k=>[(4,.d (J (k:Int))),(3,.d (J (val (s.take k):Nat)))]) (fun _=>[]) (fun k=>k≤s.length∧(∀ c∈s.take k,isD c=true)∧val (s.take k)≤999999) (fun k=>s.length-k) 0 (by simp[val]) ?_;intro k ⟨hk,hd,hv⟩ ih;by_cases ak:k<s.length
 ·obtain⟨c,hc⟩:∃ c,s[k]?=some c:=⟨_,Kw ak⟩
  have ab : (k:Int)<(s.length:Int):=o_
  by_cases hD:isD c=true
  ·have ag:=(ZdC c).1 hD;have w1:=wi (10*(val (s.take k):Nat)) o_ o_;have w2:=wu8 ((c.toNat:Int)-48) o_ o_;have w3:=wi ((c.toNat:Int)-48) o_ o_;have w4:IntKind.i64.wrap (10*(val (s.take k):Nat)+((c.toNat:Int)-48))=((val (s.take (k+1)):Nat):Int):=by
    rw[wi _ o_ o_,Zx2 hc];omega
   have w5:=Zg (k:=k) o_;by_cases ae:val (s.take (k+1))≤999999
   ·have hb:¬(999999:Int)<((val (s.take (k+1)):Nat):Int):=o_
    simp +contextual -implicitDefEqProofs only[go_sem,seval,ab,hc,ag.1,ag.2,w1,w2,w3,w4,w5,hb];refine ih (k+1) _ ⟨o_,fun d ad=>?_,ae⟩ o_ ?_
    ·rw[Lu ak] at ad;rcases Kj.1 ad with ad | ad
     ·exact hd d ad
     ·simp only[KD] at ad;rw[ad,(Kc.1 hc).2];exact hD
    ·simp +contextual -implicitDefEqProofs only[go_sem,seval]
   ·have hb:(999999:Int)<((val (s.take (k+1)):Nat):Int):=o_
    have af:rd s=none:=by
     cases hr:rd s with
     | none=>rfl
     | some v=>
      obtain⟨h1,h2⟩:=Uy hr;have:=ZDJ s (k+1);rw[h1,Zwf] at this;rw[h1] at ae;omega
    rw[Zms af] at aa;subst aa;simp +contextual -implicitDefEqProofs only[go_sem,seval,ab,hc,ag.1,ag.2,w1,w2,w3,w4,w5,hb]
  ·have af:rd s=none:=by
    cases hr:rd s with
    | none=>rfl
    | some v=>
     obtain⟨h1,h2⟩:=Uy hr;rw[h1] at hc;exact absurd (Zqg v c (Kb hc)) hD
   rw[Zms af] at aa;subst aa;by_cases ai:(c.toNat:Int)<48
   ·simp +contextual -implicitDefEqProofs only[go_sem,seval,ab,hc,ai]
   ·have am:(57:Int)<(c.toNat:Int):=Classical.byContradiction fun h=>hD ((ZdC c).2 ⟨ai,h⟩);simp +contextual -implicitDefEqProofs only[go_sem,seval,ab,hc,ai,am]
 ·have an:k=s.length:=o_
  subst an;have ht:s.take s.length=s:=KI;rw[ht] at hd hv;have al:¬(s.length:Int)<(s.length:Int):=o_
  have e1:=Xb (val s) o_;by_cases hn:s=[]
  ·subst hn;rw[Zms (Zss fun h=>h.1 rfl)] at aa;subst aa;simp +contextual -implicitDefEqProofs only[go_sem,seval]
  ·have hb:(s==[])=false:=by
    cases s with
    | nil=>exact absurd rfl hn
    | cons x r=>rfl
   by_cases ah:s=num (val s)
   ·have aj:(s==num (val s))=true:=by rw[beq_iff_eq];exact ah
    rw[ZaN (rd_iff.2 ⟨ah,hv⟩)] at aa;subst aa;simp +contextual -implicitDefEqProofs only[go_sem,seval,ht,al,e1,hb,aj]
   ·have aj:(s==num (val s))=false:=by simpa using ah
    have af:rd s=none:=by
     cases hr:rd s with
     | none=>rfl
     | some v=>
      obtain⟨h1,h2⟩:=Uy hr;exact absurd (by
       conv=>rhs;rw[h1,Zwf]
       exact h1) ah
    rw[Zms af] at aa;subst aa;simp +contextual -implicitDefEqProofs only[go_sem,seval,ht,al,e1,hb,aj]
def nxB (s:List UInt8) (k:Nat):Int:=match s[k]? with
 | some c=>(c.toNat:Int)
 | none=>0
theorem Zh7 {s:List UInt8} {k:Nat} {c:UInt8} (h:s[k]?=some c):nxB s k=c.toNat:=by unfold nxB;rw[h]
theorem Zmt {s:List UInt8} {k:Nat} (h:s[k]?=none):nxB s k=0:=by unfold nxB;rw[h]
theorem Zfa (s:List UInt8) (k:Nat) (bad:Bool):v_ 232 [.ptr 0 0] [.box [.d (.str s),(.d (J k)),(.d (.bool bad))]]=some (.d (.int .u8 (nxB s k)),[.box [.d (.str s),(.d (J k)),(.d (.bool bad))]]):=by
 by_cases h:k<s.length
 ·obtain⟨c,hc⟩:∃ c,s[k]?=some c:=⟨_,Kw h⟩
  rw[Zh7 hc];have h' : ¬(s.length:Int)≤(k:Int):=o_
  refine cE ?_;simp (maxSteps:=10^7) +contextual -implicitDefEqProofs only[go_sem,seval,JX,h',hc]
 ·rw[Zmt (by simp;omega)];have h' : (s.length:Int)≤(k:Int):=o_
  refine cE ?_;simp (maxSteps:=10^7) +contextual -implicitDefEqProofs only[go_sem,seval,JX,h']
theorem ZCi (s:List UInt8) (k:Nat) (n:Int) (hk:k≤10000000) (h:nxB s k=n):v_ 234 [.ptr 0 0,.d (.int .u8 n)] [.box [.d (.str s),(.d (J k)),(.d (.bool false))]]=some (.tup [],[.box [.d (.str s),(.d (J ((k+1:Nat)))),(.d (.bool false))]]):=by
 have e1:=Zfa s k false;rw[h] at e1;have w:=Zg (k:=k) o_;refine cE ?_;simp (maxSteps:=10^7) +contextual -implicitDefEqProofs only[go_sem,seval,YR,e1,w]
theorem ZzR (s:List UInt8) (k:Nat) (n:Int) (bad:Bool) (hk:k≤10000000) (h:¬nxB s k=n):v_ 234 [.ptr 0 0,.d (.int .u8 n)] [.box [.d (.str s),(.d (J k)),(.d (.bool bad))]]=some (.tup [],[.box [.d (.str s),(.d (J ((k+1:Nat)))),(.d (.bool true))]]):=by
 have e1:=Zfa s k bad;have w:=Zg (k:=k) o_;refine cE ?_;cases bad with
 | false=>simp +contextual -implicitDefEqProofs only[go_sem,seval,YR,e1,w,h]
 | true=>simp +contextual -implicitDefEqProofs only[go_sem,seval,YR,e1,w,h]
theorem ZzS (s:List UInt8) (k:Nat) (hk:k≤s.length) (hs:s.length≤1048576) (x:List UInt8) (hx:(s.drop k).takeWhile isD=x) :
  v_ 233 [.ptr 0 0] [.box [.d (.str s),(.d (J k)),(.d (.bool false))]]=some ((.d (J (ZbF x))),[.box [.d (.str s),(.d (J ((k+x.length:Nat)))),(.d (.bool (decide (ZbF x<0))))]]):=by
 have ag:x.length≤s.length-k:=by have:=ZDH (p:=isD) (s.drop k);rw[hx,Lr] at this;exact this
 generalize aa:ZbF x=res;refine cE ?_;simp (maxSteps:=10^7) +contextual -implicitDefEqProofs only[go_sem,seval,Zc9];refine LO (α:=Nat) (fun _=>[]) (fun j=>[(0,.box [.d (.str s),(.d (J ((k+j:Nat)))),(.d (.bool false))])]) (fun j=>j≤x.length) (fun j=>s.length-j) 0 o_ ?_;intro j hj ih;have e1:=Zfa s (k+j) false;have w:IntKind.i64.wrap (((k+j:Nat):Int)+1)=((k+(j+1):Nat):Int):=by rw[Zg (k:=k+j) o_];rfl
 by_cases ad:j<x.length
 ·obtain⟨c,hc,hD⟩:=ZDG (p:=isD) (s:=s.drop k) (k:=j) (by rw[hx];exact ad);rw[Lk] at hc;rw[Zh7 hc] at e1;have ah:=(ZdC c).1 hD;have h1:(48:Int)≤c.toNat:=o_
  have h2:(c.toNat:Int)≤57:=o_
  simp +contextual -implicitDefEqProofs only[go_sem,seval,e1,h1,h2,w];refine ih (j+1) _ o_ o_ ?_;simp +contextual -implicitDefEqProofs only[go_sem,seval]
 ·have ae:j=x.length:=o_
  subst ae;have af:¬((48:Int)≤nxB s (k+x.length)∧nxB s (k+x.length)≤57):=by
   rcases ZzP (p:=isD) (s:=s.drop k) with h | ⟨c,hc,hD⟩
   ·rw[hx,Lr] at h;rw[Zmt (by simp;omega)];omega
   ·rw[hx,Lk] at hc;rw[Zh7 hc];intro h;exact hD ((ZdC c).2 o_)
  have ab:(s.take (k+x.length)).drop k=x:=by
   rw[List.drop_take,show k+x.length-k=x.length by omega]
   conv=>lhs;rw[← hx]
   rw[ZA2,hx]
  have e2:=X9 x o_;rw[aa] at e2;have q1:((k+x.length:Nat):Int)≤(s.length:Int):=o_
  have q2:(k:Int)≤((k+x.length:Nat):Int):=o_
  by_cases h1:(48:Int)≤nxB s (k+x.length)
  ·have h2:¬nxB s (k+x.length)≤57:=fun h=>af ⟨h1,h⟩;simp +contextual -implicitDefEqProofs only[go_sem,seval,e1,h1,h2,ab,e2,q1,q2]
  ·simp +contextual -implicitDefEqProofs only[go_sem,seval,e1,h1,ab,e2,q1,q2]
theorem Zfb {s u v:List UInt8} {k:Nat} (h:s.drop k=u++v):s.drop (k+u.length)=v:=by
 have:=congrArg (List.drop u.length) h;rw[KaD,List.drop_left] at this;exact this
theorem Zwj {s t:List UInt8} {k:Nat} {c:UInt8} (h:s.drop k=c :: t):nxB s k=c.toNat:=by
 refine Zh7 ?_;have:(s.drop k)[0]?=some c:=by rw[h];rfl
 rwa [Lk,L3] at this
theorem ZDK {s:List UInt8} {k:Nat} {n:Int} (h:nxB s k=n) (hn:n≠0):k<s.length:=by
 rcases K7 k s.length with h' | h'
 ·exact h'
 ·rw[Zmt (by simp;omega)] at h;exact absurd h.symm hn
theorem Zjz (b:BT) (r:List UInt8):(b=.waste∧shw b++r=119 :: r)∨(∃ i t,b=.pane i t∧shw b++r=(if t then 116 else 112) :: (num i.toNat++r)) ∨
  ∃ d a x y,b=.cut d a x y∧shw b++r=(if d then 100 else 97) :: (num a.toNat++40 :: (shw x++44 :: (shw y++41 :: r))):=by
 cases b with
 | waste=>exact .inl ⟨rfl,rfl⟩
 | pane i t=>exact .inr (.inl ⟨i,t,rfl,by simp[shw]⟩)
 | cut d a x y=>exact .inr (.inr ⟨d,a,x,y,rfl,by simp[shw]⟩)
theorem ZDL {s:List UInt8} {k:Nat} {c:UInt8} {d:Bool} (aa:s.drop k=c :: s.drop (k+1)) (hd:c=(if d then 100 else 97)) {b:BT} {r:List UInt8} (h2:ZbD b=true) (h3:s.drop k=shw b++r) :
  ∃ a x y,b=.cut d a x y∧(0≤a∧a≤999999)∧ZbD x=true∧ZbD y=true∧s.drop (k+1)=num a.toNat++40 :: (shw x++44 :: (shw y++41 :: r)):=by
 rw[aa] at h3;rcases Zjz b r with ⟨rfl,h4⟩ | ⟨i,t,rfl,h4⟩ | ⟨d',a,x,y,rfl,h4⟩
 ·rw[h4,hd] at h3;cases d<;>cases h3
 ·rw[h4,hd] at h3;cases d<;>cases t<;>cases h3
 ·rw[h4] at h3;simp only[List.cons.injEq] at h3;obtain⟨h5,h6⟩:=h3;rw[hd] at h5;have ab:d=d':=by cases d<;>cases d' <;> first | rfl | cases h5
  subst ab;simp only[ZbD,Kf,Ko] at h2;exact⟨a,x,y,rfl,h2.1.1,h2.1.2,h2.2,h6⟩
theorem ZDM {s r:List UInt8} {k v:Nat} (hv:v≤999999) (hr:Zsq r) (h:s.drop k=num v++r):(s.drop k).takeWhile isD=num v∧ZbF (num v)=v:=by
 rw[h];exact⟨(Zsr v hr).1,ZaN (Zcv hv)⟩
theorem Zmu {c:UInt8} {r:List UInt8} (h:isD c=false):Zsq (c :: r):=fun d t e=>by cases e;exact h
theorem Zn4 (s:List UInt8) (k:Nat) (n:Int) (bad:Bool) (hk:k≤10000000):v_ 234 [.ptr 0 0,.d (.int .u8 n)] [.box [.d (.str s),(.d (J k)),(.d (.bool bad))]]=some (.tup [],[.box [.d (.str s),(.d (J ((k+1:Nat)))),(.d (.bool (bad || !decide (nxB s k=n))))]]):=by
 by_cases h:nxB s k=n
 ·cases bad with
  | false=>
   rw[ZCi s k n hk h];simp[h]
  | true=>
   have e1:=Zfa s k true;have w:=Zg (k:=k) o_;refine cE ?_;simp (maxSteps:=10^7) +contextual -implicitDefEqProofs only[go_sem,seval,YR,e1,w]
 ·rw[ZzR s k n bad hk h];simp[h]
def SpR (s:List UInt8) (n k:Nat) (res:Option (AV×List Zm)):Prop:=∃ (o a q:Int) (t:Bool) (ks:List Ze) (k' : Nat) (bad:Bool),
 res=some (.agg [(.d (J o)),(.d (J a)),(.d (J q)),(.d (.bool t)),.own 1],[.box [.d (.str s),(.d (J (k'))),(.d (.bool bad))],.row 5 (ks.map Ze.enc) true false])∧k'≤s.length+2+n∧(bad=false→k'≤s.length∧k<k') ∧
 ∀ b r,Zsq r→ZbD b=true→s.drop k=shw b++r→Ze.mk o a q t ks=b.plan∧k'=k+(shw b).length∧bad=false
theorem Zqi {s:List UInt8} {n k k' : Nat} {res:Option (AV×List Zm)} (h:res=some (.agg [(.d (J 0)),(.d (J 0)),(.d (J 0)),(.d (.bool false)),.own 1],[.box [.d (.str s),(.d (J (k'))),(.d (.bool true))],.row 5 [] true false])) (hk:k'≤s.length+2+n) (aa:∀ b r,Zsq r→ZbD b=true→s.drop k≠shw b++r):SpR s n k res:=
 ⟨0,0,0,false,[],k',true,h,hk,(fun h=>by cases h),fun b r h1 h2 h3=>absurd h3 (aa b r h1 h2)⟩
theorem ZCj (s:List UInt8) (hs:s.length≤1048576):∀ (n k:Nat),s.length-k<n→n≤2000000→k≤s.length→SpR s n k (v_ 208 [.ptr 0 0] [.box [.d (.str s),(.d (J k)),(.d (.bool false))]]):=by
 intro n
 induction n with
 | zero=>intro k h;omega
 | succ n IH=>
  intro k hn au hk;have e1:=Zfa s k false;have w:=Zg (k:=k) o_;by_cases aj:k<s.length
  ·obtain⟨c,hc⟩:∃ c,s[k]?=some c:=⟨_,Kw aj⟩
   have af:s.drop k=c :: s.drop (k+1):=by rw[Ku aj,(Kc.1 hc).2]
   rw[Zh7 hc] at e1;by_cases c1:c=119
   ·have n1:(c.toNat:Int)=119:=(Zdi c 119 rfl).2 c1;refine⟨0,0,0,false,[],k+1,false,?_,o_,fun _=>by omega,fun b r h1 h2 h3=>?_⟩
    ·refine cE ?_;simp (maxSteps:=10^7) +contextual -implicitDefEqProofs only[go_sem,seval,Z0,e1,w,n1]
    ·rw[af,c1] at h3;rcases Zjz b r with ⟨rfl,_⟩ | ⟨i,t,rfl,h4⟩ | ⟨d,a,x,y,rfl,h4⟩
     ·exact⟨rfl,rfl,rfl⟩
     ·rw[h4] at h3;cases t<;>cases h3
     ·rw[h4] at h3;cases d<;>cases h3
   have n1:¬(c.toNat:Int)=119:=fun h=>c1 ((Zdi c 119 rfl).1 h);obtain⟨x,hx⟩:∃ x,(s.drop (k+1)).takeWhile isD=x:=⟨_,rfl⟩
   have av:x.length≤s.length-(k+1):=by have:=ZDH (p:=isD) (s.drop (k+1));rw[hx,Lr] at this;exact this
   have e2:=ZzS s (k+1) o_ hs x hx;by_cases c2:c=112∨c=116
   ·have ad:∀ t:Bool,c=(if t then 116 else 112)→SpR s (n+1) k (v_ 208 [.ptr 0 0] [.box [.d (.str s),(.d (J k)),(.d (.bool false))]]):=by
     intro t ht;refine⟨1,0,ZbF x,t,[],k+1+x.length,decide (ZbF x<0),?_,o_,fun _=>by omega,fun b r h1 h2 h3=>?_⟩
     ·refine cE ?_;cases t with
      | false=>
       have n2:(c.toNat:Int)=112:=(Zdi c 112 rfl).2 ht;have n3:¬(c.toNat:Int)=116:=o_
       simp +contextual -implicitDefEqProofs only[go_sem,seval,Z0,e1,w,n1,n2,n3,e2]
      | true=>
       have n3:(c.toNat:Int)=116:=(Zdi c 116 rfl).2 ht;have n2:¬(c.toNat:Int)=112:=o_
       simp +contextual -implicitDefEqProofs only[go_sem,seval,Z0,e1,w,n1,n2,n3,e2]
     ·rw[af,ht] at h3;rcases Zjz b r with ⟨rfl,h4⟩ | ⟨i,t',rfl,h4⟩ | ⟨d,a,x,y,rfl,h4⟩
      ·rw[h4] at h3;cases t<;>cases h3
      ·rw[h4] at h3;simp only[List.cons.injEq] at h3;obtain⟨h5,h6⟩:=h3;have al:t=t':=by cases t<;>cases t' <;> first | rfl | cases h5
       subst al;simp only[ZbD,Ko] at h2;obtain⟨g1,g2⟩:=ZDM (v:=i.toNat) o_ h1 h6;rw[hx] at g1;rw[g1,g2,KR h2.1];refine⟨rfl,by simp[shw];omega,by simp;omega⟩
      ·rw[h4] at h3;cases d<;>cases t<;>cases h3
    rcases c2 with c2 | c2
    ·exact ad false c2
    ·exact ad true c2
   have n2:¬(c.toNat:Int)=112:=fun h=>c2 (.inl ((Zdi c 112 rfl).1 h));have n3:¬(c.toNat:Int)=116:=fun h=>c2 (.inr ((Zdi c 116 rfl).1 h));by_cases c4:c=100∨c=97
   ·have ad:∀ d:Bool,c=(if d then 100 else 97)→SpR s (n+1) k (v_ 208 [.ptr 0 0] [.box [.d (.str s),(.d (J k)),(.d (.bool false))]]):=by
     intro d hd;have hf:(if d then (c.toNat:Int)=100 else ¬(c.toNat:Int)=100∧(c.toNat:Int)=97):=by
      cases d with
      | true=>exact(Zdi c 100 rfl).2 hd
      | false=>
       have am:(c.toNat:Int)=97:=(Zdi c 97 rfl).2 hd;exact⟨o_,am⟩
     have e3:=Zn4 s (k+1+x.length) 40 (decide (ZbF x<0)) o_;have first:∀ b r,Zsq r→ZbD b=true→s.drop k=shw b++r→∃ a l y,b=.cut d a l y∧ZbD l=true∧ZbD y=true∧ZbF x=a∧0≤a∧x=num a.toNat∧nxB s (k+1+x.length)=40∧s.drop (k+1+x.length+1)=shw l++44 :: (shw y++41 :: r):=by
      intro b r h1 h2 h3;obtain⟨a,l,y,rfl,ha,hl,hy,h6⟩:=ZDL af hd h2 h3;obtain⟨g1,g2⟩:=ZDM (v:=a.toNat) o_ (Zmu rfl) h6;rw[hx] at g1;have h7:=Zfb h6;rw[← g1] at h7;refine⟨a,l,y,rfl,hl,hy,by rw[g1,g2];omega,ha.1,g1,Zwj h7,?_⟩;exact Zfb (u:=[40]) h7
     by_cases hb1:ZbF x<0∨¬nxB s (k+1+x.length)=40
     ·have ag:(decide (ZbF x<0) || !decide (nxB s (k+1+x.length)=40))=true:=by
       rcases hb1 with h | h<;>simp[h]
      rw[ag] at e3;refine Zqi (k':=k+1+x.length+1) ?_ o_ fun b r h1 h2 h3=>?_
      ·refine cE ?_;cases d with
       | true=>
        simp only[Km] at hf;simp +contextual -implicitDefEqProofs only[go_sem,seval,Z0,e1,w,n1,n2,n3,hf,e2,e3]
       | false=>
        simp only[Ka,Kn] at hf;simp +contextual -implicitDefEqProofs only[go_sem,seval,Z0,e1,w,n1,n2,n3,hf.1,hf.2,e2,e3]
      ·obtain⟨a,l,y,_,_,_,m1,m2,_,m3,_⟩:=first b r h1 h2 h3;rcases hb1 with h | h
       ·omega
       ·exact h m3
     have aa : ¬ZbF x<0∧nxB s (k+1+x.length)=40:=⟨fun h=>hb1 (.inl h),Classical.byContradiction fun h=>hb1 (.inr h)⟩
     have ag:(decide (ZbF x<0) || !decide (nxB s (k+1+x.length)=40))=false:=by simp[aa.1,aa.2]<;>omega
     rw[ag] at e3;have an:=ZDK aa.2 (by decide);obtain⟨o1,a1,q1,t1,ao,k3,b3,i1,g1,g2,g3⟩:=IH (k+1+x.length+1) o_ o_ o_;have e4:=Zn4 s k3 44 b3 o_;by_cases hb2:b3=true∨¬nxB s k3=44
     ·have ab:(b3 || !decide (nxB s k3=44))=true:=by
       rcases hb2 with h | h<;>simp[h]
      rw[ab] at e4;refine Zqi (k':=k3+1) ?_ o_ fun b r h1 h2 h3=>?_
      ·refine cE ?_;cases d with
       | true=>
        simp only[Km] at hf;simp +contextual -implicitDefEqProofs only[go_sem,seval,Z0,e1,w,n1,n2,n3,hf,e2,e3,i1,e4]
       | false=>
        simp only[Ka,Kn] at hf;simp +contextual -implicitDefEqProofs only[go_sem,seval,Z0,e1,w,n1,n2,n3,hf.1,hf.2,e2,e3,i1,e4]
      ·obtain⟨a,l,y,_,hl,_,_,_,_,_,m4⟩:=first b r h1 h2 h3;obtain⟨_,m5,m6⟩:=g3 l _ (Zmu rfl) hl m4;rcases hb2 with h | h
       ·rw[m6] at h;cases h
       ·exact h (by rw[m5];exact Zwj (Zfb m4))
     have ah : b3=false∧nxB s k3=44:=⟨by cases b3<;>first | rfl | exact absurd (.inl rfl) hb2,Classical.byContradiction fun h=>hb2 (.inr h)⟩
     obtain⟨rfl,ae⟩:=ah;have ab:(false || !decide (nxB s k3=44))=false:=by simp[ae]
     rw[ab] at e4;have ap:=ZDK ae (by decide);have g2:=g2 rfl;obtain⟨o2,a2,q2,t2,aq,k5,b5,i2,f1,f2,f3⟩:=IH (k3+1) o_ o_ o_;have e5:=Zn4 s k5 41 b5 o_;refine⟨Qb d,ZbF x,0,false,[.mk o1 a1 q1 t1 ao,.mk o2 a2 q2 t2 aq],k5+1,b5 || !decide (nxB s k5=41),?_,o_,fun ak=>?_,fun b r h1 h2 h3=>?_⟩
     ·refine cE ?_;cases d with
      | true=>
       simp only[Km] at hf;simp (maxSteps:=10^7) +contextual -implicitDefEqProofs only[go_sem,seval,Z0,e1,w,n1,n2,n3,hf,e2,e3,i1,e4,i2,e5,Qb]
      | false=>
       simp only[Ka,Kn] at hf;simp (maxSteps:=10^7) +contextual -implicitDefEqProofs only[go_sem,seval,Z0,e1,w,n1,n2,n3,hf.1,hf.2,e2,e3,i1,e4,i2,e5,Qb]
     ·cases b5 with
      | true=>cases ak
      | false=>
       have ai:nxB s k5=41:=by simpa using ak
       have:=ZDK ai (by decide);have:=f2 rfl;omega
     ·obtain⟨a,l,y,rfl,hl,hy,m1,m2,ar,m3,m4⟩:=first b r h1 h2 h3;obtain⟨p1,p2,_⟩:=g3 l _ (Zmu rfl) hl m4;have m7:=Zfb m4;rw[← p2] at m7;have m8:s.drop (k3+1)=shw y++41 :: r:=Zfb (u:=[44]) m7;obtain⟨p3,p4,p5⟩:=f3 y _ (Zmu rfl) hy m8;have m9:=Zwj (Zfb m8);rw[← p4] at m9;refine⟨by rw[BT.plan,p1,p3,m1],?_,?_⟩
      ·rw[p4,p2,ar];simp only[shw,Kl,Kq,KO];omega
      ·rw[p5,m9];rfl
    rcases c4 with c4 | c4
    ·exact ad true c4
    ·exact ad false c4
   have n4:¬(c.toNat:Int)=100:=fun h=>c4 (.inl ((Zdi c 100 rfl).1 h));have n5:¬(c.toNat:Int)=97:=fun h=>c4 (.inr ((Zdi c 97 rfl).1 h));refine Zqi (k':=k+1) ?_ o_ fun b r h1 h2 h3=>?_
   ·refine cE ?_;simp (maxSteps:=10^7) +contextual -implicitDefEqProofs only[go_sem,seval,Z0,e1,w,n1,n2,n3,n4,n5]
   ·rw[af] at h3;rcases Zjz b r with ⟨rfl,h4⟩ | ⟨i,t,rfl,h4⟩ | ⟨d,a,x,y,rfl,h4⟩
    ·rw[h4] at h3;cases h3;exact c1 rfl
    ·rw[h4] at h3;simp only[List.cons.injEq] at h3;cases t
     ·exact c2 (.inl h3.1)
     ·exact c2 (.inr h3.1)
    ·rw[h4] at h3;simp only[List.cons.injEq] at h3;cases d
     ·exact c4 (.inr h3.1)
     ·exact c4 (.inl h3.1)
  ·rw[Zmt (by simp;omega)] at e1;refine Zqi (k':=k+1) ?_ o_ fun b r h1 h2 h3=>?_
   ·refine cE ?_;simp (maxSteps:=10^7) +contextual -implicitDefEqProofs only[go_sem,seval,Z0,e1,w]
   ·have hl:=congrArg List.length h3;have:=ZA1 b;rw[Lr,Kq] at hl;omega
theorem ZjA {s:List UInt8} {b:BT}:Ze9 s=some b↔s.length≤1600∧s=shw b∧b.cnt≤255∧YO b=true:=by
 unfold Ze9;by_cases h:s.length≤1600
 ·rw[Kg h,Zh5];exact⟨fun h'=>⟨h,h'⟩,fun h'=>h'.2⟩
 ·rw[Kd h];constructor
  ·intro h';cases h'
  ·intro h';exact absurd h'.1 h
theorem Zsu (s:List UInt8) (hs:s.length≤1048576):PrR (v_ 162 [.d (.str s)] []) (Ze9 s):=by
 by_cases hl:s.length≤1600
 ·have ab : ¬(1600:Int)<(s.length:Int):=o_
  obtain⟨o,a,q,t,ks,k',bad,e1,g1,g2,g3⟩:=ZCj s hs (s.length+1) 0 o_ o_ o_;rw[show ((0:Nat):Int)=0 from rfl] at e1;have hm:∀ b',Ze9 s=some b'→Ze.mk o a q t ks=b'.plan∧k'=s.length∧bad=false∧s=shw b'∧b'.cnt≤255∧YO b'=true:=by
   intro b' h;obtain⟨_,h1,h2,h3⟩:=ZjA.1 h;obtain⟨p1,p2,p3⟩:=g3 b' [] (fun c t e=>by cases e) (ZbE b' h3) (by rw[List.drop_zero,KE];exact h1);rw[← h1] at p2;exact⟨p1,o_,p3,h1,h2,h3⟩
  have aa:(∀ b',Ze9 s=some b'→False)→Ze9 s=none:=by
   intro h;cases hp:Ze9 s with
   | none=>rfl
   | some b'=>exact absurd (h b' hp) id
  cases bad with
  | true=>
   rw[aa fun b' h=>by cases (hm b' h).2.2.1];refine Zk1 ?_;refine cE ?_;simp (maxSteps:=10^7) +contextual -implicitDefEqProofs only[go_sem,seval,XO,ab,e1]
  | false=>
   by_cases hk:k'=s.length
   ·subst hk;have e2:=Zd1 (Ze.mk o a q t ks);cases hT:QS (Ze.mk o a q t ks) with
    | none=>
     rw[hT,Ze.enc_mk] at e2;have hz:Zt 255 none<0:=by rw[show Zt 255 none=-1 from rfl];omega
     rw[aa fun b' h=>by have:=(hm b' h).1;rw[this,XG] at hT;cases hT];refine Zk1 ?_;refine cE ?_;simp (maxSteps:=10^7) +contextual -implicitDefEqProofs only[go_sem,seval,XO,ab,e1,e2,hz]
    | some b=>
     have ad:=WP hT;have ae : ∀ b',Ze9 s=some b'→b'=b:=by
      intro b' h;have:=(hm b' h).1;rw[this,XG] at hT;exact Option.some.inj hT
     rw[hT,Ze.enc_mk] at e2;rcases QV 255 b with ⟨hc,hz⟩ | ⟨hc,hz⟩
     ·rw[hz] at e2;have h0:¬(b.cnt:Int)<0:=o_
      have e3:=Wx b;rw[← ad,Ze.enc_mk] at e3;cases hcb:YO b with
      | false=>
       rw[hcb] at e3;rw[aa fun b' h=>by have h2:=(hm b' h).2.2.2.2.2;rw[ae b' h,hcb] at h2;cases h2];refine Zk1 ?_;refine cE ?_;simp (maxSteps:=10^7) +contextual -implicitDefEqProofs only[go_sem,seval,XO,ab,e1,e2,e3,h0]
      | true=>
       rw[hcb] at e3;have e4:=VT b hcb o_;rw[← ad,Ze.enc_mk] at e4;by_cases hw:shw b=s
       ·rw[hw] at e4;have af:(s != s)=false:=by simp
        rw[ZjA.2 ⟨hl,hw.symm,o_,hcb⟩];refine⟨o,a,q,t,ks,?_,ad⟩;refine cE ?_;simp (maxSteps:=10^7) +contextual -implicitDefEqProofs only[go_sem,seval,XO,ab,e1,e2,e3,e4,h0,af]
        all_goals rfl
       ·have af:(shw b==s)=false:=by simp[hw]
        rw[aa fun b' h=>hw (by have:=(hm b' h).2.2.2.1;rw[ae b' h] at this;exact this.symm)];refine Zk1 ?_;refine cE ?_;simp (maxSteps:=10^7) +contextual -implicitDefEqProofs only[go_sem,seval,XO,ab,e1,e2,e3,e4,h0,af]
     ·rw[hz] at e2;rw[aa fun b' h=>by have h2:=(hm b' h).2.2.2.2.1;rw[ae b' h] at h2;omega];refine Zk1 ?_;refine cE ?_;simp (maxSteps:=10^7) +contextual -implicitDefEqProofs only[go_sem,seval,XO,ab,e1,e2]
   ·rw[aa fun b' h=>hk (hm b' h).2.1];have ag : ¬(k' : Int)=(s.length:Int):=o_
    refine Zk1 ?_;refine cE ?_;simp (maxSteps:=10^7) +contextual -implicitDefEqProofs only[go_sem,seval,XO,ab,e1,ag]
 ·have hm:Ze9 s=none:=by unfold Ze9;rw[Kd hl]
  rw[hm];have ab : (1600:Int)<(s.length:Int):=o_
  refine Zk1 ?_;refine cE ?_;simp (maxSteps:=10^7) +contextual -implicitDefEqProofs only[go_sem,seval,XO,ab]
theorem s_of_ev (bs:List UInt8) (hb:bs.length≤2000) (p:Nat) (hp:p<1099511627776) (ss:List (List UInt8)) (h1:1≤ss.length):∃ x,x∈ss ∧
  v_ 35 [.ptr 0 0,.d (.sl (ss.map .str))] [.box [.d (.sl (bs.map YU)),(.d (J p))]]=some (.d (.str x),[.box [.d (.sl (bs.map YU)),(.d (J ((p+1:Nat))))]]):=by
 have e1:=ZV bs p (ss.length:Int) hb hp;have h0:=XN bs p ss.length;have h2:=WQ bs p ss.length o_;obtain⟨v,hv⟩:∃ v:Nat,Qc bs p ss.length=v:=⟨(Qc bs p ss.length).toNat,o_⟩
 rw[hv] at e1;obtain⟨x,hx⟩:∃ x,ss[v]?=some x:=⟨_,Kw o_⟩
 have aa:(v:Int)<(ss.length:Int):=o_
 refine⟨x,Kb hx,?_⟩;refine cE ?_;simp (maxSteps:=10^7) +contextual -implicitDefEqProofs only[go_sem,seval,ZeI,e1,aa,hx]
theorem Zx3 (bs:List UInt8) (hb:bs.length≤2000) (p:Nat) (hp:p<999999999) (s:List UInt8) (hs:s.length≤1048576):∃ (s' : List UInt8) (p' : Nat),s'.length≤s.length+1∧p≤p'∧p'≤p+3 ∧
  v_ 68 [.ptr 0 0,.d (.str s)] [.box [.d (.sl (bs.map YU)),(.d (J p))]]=some (.d (.str s'),[.box [.d (.sl (bs.map YU)),(.d (J (p')))]]):=by
 have w:IntKind.i64.wrap ((s.length:Int)+1)=((s.length+1:Nat):Int):=Zg (k:=s.length) o_;have e1:=ZV bs p ((s.length+1:Nat):Int) hb o_;have h0:=XN bs p ((s.length+1:Nat):Int);have h2:=WQ bs p ((s.length+1:Nat):Int) o_;obtain⟨v,hv⟩:∃ v:Nat,Qc bs p ((s.length+1:Nat):Int)=v:=⟨(Qc bs p ((s.length+1:Nat):Int)).toNat,o_⟩
 rw[hv] at e1 h2;have ab:(v:Int)≤(s.length:Int):=o_
 have e2:=ZV bs (p+1) 5 hb o_;obtain⟨c,hc⟩:∃ c,Qc bs (p+1) 5=c:=⟨_,rfl⟩
 rw[hc] at e2;have w2:=Zg (k:=v) o_;by_cases c1:c=0∨c=1
 ·by_cases aa:(v:Int)<(s.length:Int)
  ·obtain⟨x,hx,e3⟩:=s_of_ev bs hb (p+1+1) o_ [[48],[49],[32],[119],[112],[44],[40],[10]] (by decide);have ad:x.length=1:=by
    simp only[Ke,Kx,or_false] at hx;rcases hx with h | h | h | h | h | h | h | h<;>rw[h]<;>rfl
   simp only[Kh,Kp] at e3;have ae:((v+1:Nat):Int)≤(s.length:Int):=o_
   have b1:(List.take v s).length+x.length≤1152921504606846976:=by simp;omega
   have b2:(List.take v s).length+x.length+(List.drop (v+1) s).length≤1152921504606846976:=by simp;omega
   have ht:List.take s.length s=s:=KI;refine⟨s.take v++x++s.drop (v+1),p+3,by simp[ad];omega,o_,o_,?_⟩;rcases c1 with c1 | c1
   ·refine cE ?_;simp (maxSteps:=10^7) +contextual -implicitDefEqProofs only[go_sem,seval,WG,w,e1,e2,c1,aa,ab,ae,e3,w2,b1,b2,ht,ZlV,K6,KE]
   ·refine cE ?_;simp (maxSteps:=10^7) +contextual -implicitDefEqProofs only[go_sem,seval,WG,w,e1,e2,c1,aa,ab,ae,e3,w2,b1,b2,ht,ZlV,K6,KE]
  ·refine⟨s,p+2,o_,o_,o_,?_⟩;rcases c1 with c1 | c1
   ·refine cE ?_;simp (maxSteps:=10^7) +contextual -implicitDefEqProofs only[go_sem,seval,WG,w,e1,e2,c1,aa]
   ·refine cE ?_;simp (maxSteps:=10^7) +contextual -implicitDefEqProofs only[go_sem,seval,WG,w,e1,e2,c1,aa]
 have n0:¬c=0:=fun h=>c1 (.inl h);have n1:¬c=1:=fun h=>c1 (.inr h);by_cases c2:c=2
 ·refine⟨s.take v,p+2,by simp;omega,o_,o_,?_⟩;refine cE ?_;simp (maxSteps:=10^7) +contextual -implicitDefEqProofs only[go_sem,seval,WG,w,e1,e2,n0,n1,c2,ab]
 by_cases c3:c=3
 ·obtain⟨x,hx,e3⟩:=s_of_ev bs hb (p+1+1) o_ [[48],[32],[10],[120],[119]] (by decide);have ad:x.length=1:=by
   simp only[Ke,Kx,or_false] at hx;rcases hx with h | h | h | h | h<;>rw[h]<;>rfl
  simp only[Kh,Kp] at e3;have b1:s.length+x.length≤1152921504606846976:=o_
  refine⟨s++x,p+3,by simp[ad],o_,o_,?_⟩;refine cE ?_;simp (maxSteps:=10^7) +contextual -implicitDefEqProofs only[go_sem,seval,WG,w,e1,e2,n0,n1,c2,c3,e3,b1]
 ·refine⟨s,p+2,o_,o_,o_,?_⟩;refine cE ?_;simp (maxSteps:=10^7) +contextual -implicitDefEqProofs only[go_sem,seval,WG,w,e1,e2,n0,n1,c2,c3]
def W7:List UInt8:=[116,117,114,110,115]
def Za6:List UInt8:=[102,105,120,101,100]
def ZaO (t:Bool):List UInt8:=if t then W7 else Za6
def Xe (l:Zc):List (List UInt8):=[num l.Count.toNat,num l.Pane.W.toNat,num l.Pane.H.toNat,ZaO l.Pane.Turns,num l.Pane.Kind.toNat]
def Zal (l:Zc):List UInt8:=Yc 32 (Xe l)
def six (n:Int):Prop:=0≤n∧n≤999999
instance (n:Int):Decidable (six n):=by unfold six;infer_instance
def Zsv (l:Zc):Prop:=six l.Count∧six l.Pane.W∧six l.Pane.H∧six l.Pane.Kind
def Zfc:List (List UInt8)→Option Zc
 | [a,b,c,t,k]=>if t=W7∨t=Za6 then (rd a).bind fun a=>(rd b).bind fun b=>(rd c).bind fun c=>(rd k).bind fun k=>some ⟨⟨b,c,decide (t=W7),k⟩,a⟩ else none
 | _=>none
theorem W8 {c:UInt8} (hc:isD c=false) (n:Nat):c∉num n:=fun h=>by rw[Zqg n c h] at hc;cases hc
theorem ZzT (t:Bool):(32:UInt8)∉ZaO t:=by cases t<;>decide
theorem Zsw (t:Bool):ZaO t=W7∨ZaO t=Za6:=by cases t<;>simp[ZaO]
theorem Zn5 (t:Bool):decide (ZaO t=W7)=t:=by cases t<;>decide
theorem ZDN {w:List UInt8} (h:w=W7∨w=Za6):ZaO (decide (w=W7))=w:=by
 rcases h with rfl | rfl
 ·simp[ZaO]
 ·have:¬Za6=W7:=by decide
  simp[ZaO,this]
theorem Zsx (l:Zc):∀ w∈Xe l,(32:UInt8)∉w:=by
 intro w hw;simp only[Xe,Ke,Kx,or_false] at hw;rcases hw with rfl | rfl | rfl | rfl | rfl
 ·exact W8 rfl _
 ·exact W8 rfl _
 ·exact W8 rfl _
 ·exact ZzT _
 ·exact W8 rfl _
theorem Zga {l:Zc} (h:Zsv l):Zfc (Xe l)=some l:=by
 obtain⟨⟨w,h',t,k⟩,c⟩:=l;obtain⟨h1,h2,h3,h4⟩:=h;simp only[six] at h1 h2 h3 h4;have e1:((c.toNat:Nat):Int)=c:=o_
 have e2:((w.toNat:Nat):Int)=w:=o_
 have e3:((h'.toNat:Nat):Int)=h':=o_
 have e4:((k.toNat:Nat):Int)=k:=o_
 simp only[Xe,Zfc,Kg (Zsw t),Zcv (show c.toNat≤999999 by omega),Zcv (show w.toNat≤999999 by omega),Zcv (show h'.toNat≤999999 by omega),Zcv (show k.toNat≤999999 by omega),KS,Zn5,e1,e2,e3,e4]
theorem Zu2 {ws:List (List UInt8)} {l:Zc} (h:Zfc ws=some l):ws=Xe l∧Zsv l:=by
 unfold Zfc at h;split at h
 ·rename_i a b c t k;split at h
  ·rename_i ht;simp only[KZ] at h;obtain⟨n1,h1,n2,h2,n3,h3,n4,h4,h⟩:=h;cases h;obtain⟨r1,b1⟩:=Uy h1;obtain⟨r2,b2⟩:=Uy h2;obtain⟨r3,b3⟩:=Uy h3;obtain⟨r4,b4⟩:=Uy h4;refine⟨?_,?_,?_,?_,?_⟩
   ·simp only[Xe,Kz,ZDN ht];rw[r1,r2,r3,r4]
   all_goals (simp only[six];omega)
  ·cases h
 ·cases h
theorem Zx4 {c d:UInt8} (hd:c≠d):∀ {ws:List (List UInt8)},(∀ w∈ws,c∉w)→c∉Yc d ws
 | [],_=>by simp[Yc]
 | [x],h=>h x (by simp)
 | x :: y :: r,h=>by
  have ih:=Zx4 hd (ws:=y :: r) fun w hw=>h w (by simp[hw]);have hx:=h x (by simp);simp only[Yc,Kj,Ke,not_or];exact⟨hx,hd,ih⟩
theorem ZzU (t:Bool):(10:UInt8)∉ZaO t:=by cases t<;>decide
def QL {α:Type} (f:α→List UInt8) (l:List α):List UInt8:=(l.map fun x=>f x++[10]).flatten
theorem ZdD {α:Type} (f:α→List UInt8) (x:α) (l:List α):QL f (x :: l)=f x++10 :: QL f l:=by simp[QL]
theorem Zo9 {α:Type} (f:α→List UInt8) (l:List α) (x:α):QL f (l++[x])=QL f l++(f x++[10]):=by simp[QL]
def ZpV (s:List UInt8):Nat:=s.countP fun c=>c==10
theorem Zsy {α:Type} {f:α→List UInt8}:∀ {l:List α},(∀ x∈l,(10:UInt8)∉f x)→ZpV (QL f l)=l.length
 | [],_=>rfl
 | x :: l,h=>by
  have h0:ZpV (f x)=0:=by
   unfold ZpV;rw[List.countP_eq_zero];intro c hc;have:=h x (by simp);simp only[beq_iff_eq];intro e;subst e;exact this hc
  have ih:=Zsy (l:=l) (fun y hy=>h y (by simp[hy]));rw[ZdD];unfold ZpV at h0 ih ⊢;rw[List.countP_append,h0,List.countP_cons,ih];simp
end Go.Proofs.YtfnegoimdljanaaGreatDoor
namespace Go.Proofs.YtfnegoimdljanaaGreatDoor
open Go Go.Abs Go.Abs.E Go.Abs.L
set_option maxRecDepth 20000
set_option maxHeartbeats 4000000
def ZCk (c:UInt8) (s:List UInt8):Int:=match Xp c s with
 | none=>-1
 | some i=>(i:Int)
theorem ZDO (c:UInt8) (s:List UInt8):Lib.indexByte s c=ZCk c s:=by
 unfold ZCk
 induction s with
 | nil=>rfl
 | cons x r ih=>
  simp only[Lib.indexByte,Xp,ih];by_cases h:x=c
  ·simp[h]
  ·rw[Kd h];cases Xp c r with
   | none=>simp[h]
   | some i=>simp[h]<;>omega
theorem Zfd (c:UInt8) (s:List UInt8):(ZL c s).length=s.count c+1:=by
 induction s with
 | nil=>rfl
 | cons x r ih=>
  simp only[ZL];by_cases h:x=c
  ·rw[Kg h];simp[ih,h]
  ·rw[Kd h];cases hs:ZL c r with
   | nil=>exact absurd hs (WR c r)
   | cons p q=>
    rw[hs] at ih;simp only[Kl] at ih ⊢;rw[List.count_cons_of_ne (fun e=>h e)];exact ih
theorem ZzV (ws:List (List UInt8)):ZhZ (ws.map .str)=some ws:=by
 induction ws with
 | nil=>rfl
 | cons x r ih=>simp only[Kh,ZhZ,ih];rfl
theorem Zsz (c:UInt8):∀ ws:List (List UInt8),Lib.join ws [c]=Yc c ws
 | []=>rfl
 | [x]=>Lib.join_one x [c]
 | x :: y :: r=>by
  have ih:=Zsz c (y :: r);unfold Lib.join at ih ⊢;simp only[Yc,← ih,List.intercalate,List.intersperse,Lj,KM,LQ,KF,K6]
theorem Zg5 (ws:List (List UInt8)) (c:UInt8) (h0:0<ws.length) (h1:ws.length≤1000) (h2:(Yc c ws).length≤1048576):v_ 89 [.d (.sl (ws.map .str)),.d (.str [c])] []=some (.d (.str (Yc c ws)),[]):=by
 refine Vv Xs Ms Zs9 ?_;unfold ZrU;simp only;rw[ZzV];simp only[Zh];rw[Kg ⟨h0,by unfold Za2;omega,by rw[Zsz];unfold Za2;omega⟩,Zsz]
theorem Zx5 (s:List UInt8) (c:UInt8):v_ 118 [.d (.str s),.d (.str [c])] []=some ((.d (J (ZCk c s))),[]):=by
 refine Vv Xs Ms Zbj ?_;unfold ZzC;simp only;rw[ZDO]
theorem Zn6 (s:List UInt8) (c:UInt8):v_ 174 [.d (.str s),.d (.str [c])] []=some ((.d (J (ZCk c s))),[]):=by
 have e1:=Zx5 s c;refine cE ?_;simp (maxSteps:=10^7) +contextual -implicitDefEqProofs only[go_sem,seval,Zhh,e1]
theorem Zn7 (s:List UInt8) (c:UInt8):v_ 173 [.d (.str s),.d (.str [c])] []=some ((.d (J ((s.count c:Nat)))),[]):=by
 refine Vv Xs Ms Zp4 ?_;unfold ZzD;simp only[Lib.countByte]
theorem Cut_ev (s:List UInt8) (c:UInt8) (hs:s.length≤1048576):v_ 69 [.d (.str s),.d (.str [c])] []=some (.tup (match Xp c s with | none=>[.d (.str s),.d (.str []),(.d (.bool false))] | some i=>[.d (.str (s.take i)),.d (.str (s.drop (i+1))),(.d (.bool true))]),[]):=by
 have e1:=Zx5 s c;unfold ZCk at e1;cases h:Xp c s with
 | none=>
  rw[h] at e1;refine cE ?_;simp (maxSteps:=10^7) +contextual -implicitDefEqProofs only[go_sem,seval,YD,e1]
 | some i=>
  obtain⟨_,_,hi⟩:=Jv h;rw[h] at e1;simp only at e1;have w:=Zg (k:=i) o_;have h1:((i+1:Nat):Int)≤(s.length:Int):=o_
  have h2:(i:Int)≤(s.length:Int):=o_
  refine cE ?_;simp (maxSteps:=10^7) +contextual -implicitDefEqProofs only[go_sem,seval,YD,e1,w,h1,h2,ZlV,K6,KE,KI]
theorem Zcy (s:List UInt8) (c:UInt8) (hs:s.length≤1048576):v_ 36 [.d (.str s),.d (.str [c])] []=some (.tup (match Xp c s with | none=>[.d (.str s),.d (.str []),(.d (.bool false))] | some i=>[.d (.str (s.take i)),.d (.str (s.drop (i+1))),(.d (.bool true))]),[]):=by
 have e1:=Cut_ev s c hs;cases h:Xp c s with
 | none=>
  rw[h] at e1;refine cE ?_;simp (maxSteps:=10^7) +contextual -implicitDefEqProofs only[go_sem,seval,ZeK,e1]
 | some i=>
  rw[h] at e1;refine cE ?_;simp (maxSteps:=10^7) +contextual -implicitDefEqProofs only[go_sem,seval,ZeK,e1]
theorem ZA3 (done:List (List UInt8)) (x y:D) (r:List D):(done.map D.str++x :: r).set done.length y=done.map D.str++y :: r:=by
 have h:=List.set_append_right (s:=done.map D.str) (t:=x :: r) (i:=done.length) y (by simp);rw[h];simp
theorem ZA4 (done:List (List UInt8)) (x:D) (r:List D):(done.map D.str++x :: r)[done.length]?=some x:=by
 rw[KL (by simp)];simp
theorem Zpa (a b:List UInt8):Vs (.str a) 0 [.str b]=.str b:=rfl
theorem Zu3 (a:List UInt8):(D.str a).notSl=true:=rfl
theorem Zu4 (a:List UInt8):(D.str a).cells=[.str a]:=rfl
theorem Zx6 (s:List UInt8) (c:UInt8) (hs:s.length≤1048576):v_ 121 [.d (.str s),.d (.str [c]),(.d (J 0)),(.d (J (-1)))] []=some (.ownv 0 0 (ZL c s).length,[.row 1 ((ZL c s).map .str) true false]):=by
 have e1:=Zn7 s c;have ai:s.count c≤s.length:=Kav;have w1:=Zg (k:=s.count c) o_;have w2:=Zg (k:=s.length) o_;have ab:=Zfd c s;obtain⟨n,hn⟩:∃ n,s.count c=n:=⟨_,rfl⟩
 rw[hn] at e1 w1 ab ai;have aj:(([c]:List UInt8)==[])=false:=rfl;have ae:min ((n+1:Nat):Int) ((s.length+1:Nat):Int)=((n+1:Nat):Int):=o_
 have w3:IntKind.i64.wrap (((n+1:Nat):Int)-1)=(n:Int):=by rw[show ((n+1:Nat):Int)-1=n by omega];exact wi _ o_ o_
 have ak:((n+1:Nat):Int)*16≤140737488355328∧((n+1:Nat):Int)≤140737488355328:=o_
 refine cE ?_;simp (maxSteps:=10^7) +contextual -implicitDefEqProofs only[go_sem,seval,Zdg,e1,w1,w2,aj,ae,w3,ak];refine LO (α:=List (List UInt8)×List UInt8) (fun a=>[(10,.d (J (a.1.length:Nat))),(0,.d (.str a.2))]) (fun a=>[(0,.row 1 (a.1.map .str++List.replicate (n+1-a.1.length) (.str [])) true false)]) (fun a=>ZL c s=a.1++ZL c a.2∧a.2.length≤s.length) (fun a=>n-a.1.length) ([],s) ⟨rfl,Kr _⟩ ?_;intro⟨done,rest⟩ ⟨hp,hr⟩ ih;simp only at hp hr ih ⊢;have af:=Zfd c rest;have al:=congrArg List.length hp;rw[ab,Kq,af] at al;by_cases an:done.length<n
 ·have ag : (done.length:Int)<(n:Int):=o_
  have e2:=Zn6 rest c;unfold ZCk at e2;have aa:List.replicate (n+1-done.length) (D.str [])=D.str [] :: List.replicate (n-done.length) (D.str []):=by rw[show n+1-done.length=(n-done.length)+1 by omega];rfl
  rw[aa];cases hi:Xp c rest with
  | none=>
   have:=Zak (Zmr.1 hi);rw[this] at af;simp at af;omega
  | some m=>
   obtain⟨_,_,hm⟩:=Jv hi;rw[hi] at e2;simp only at e2;have w:=Zg (k:=m) o_;have w':=Zg (k:=done.length) o_;have w0:=wi (m:Int) o_ o_;have h1:((m+1:Nat):Int)≤(rest.length:Int):=o_
   have h2:(m:Int)≤(rest.length:Int):=o_
   have h3:¬(m:Int)<0:=o_
   have h4:done.length<done.length+(n-done.length+1):=o_
   have ah:=ZbV c rest;rw[hi] at ah;simp only at ah;simp +contextual -implicitDefEqProofs only[go_sem,seval,ag,e2,w,w',w0,h1,h2,h3,h4,ZA3,ZA4,Zpa,Zu3,Zu4,Kl,KO,K0,and_self,Km,Zh,Int.add_zero,KI,L8];refine ih (done++[rest.take m],rest.drop (m+1)) _ ⟨?_,?_⟩ (by simp;omega) ?_
   ·simp only[KM,LQ];rw[← ah];exact hp
   ·simp;omega
   ·have ad:n+1-(done.length+1)=n-done.length:=o_
    simp +contextual -implicitDefEqProofs only[go_sem,seval,Kq,KJ,KM,ad]
 ·have hi:done.length=n:=o_
  have am:ZL c rest=[rest]:=by
   cases hi2:Xp c rest with
   | none=>exact Zak (Zmr.1 hi2)
   | some m=>
    obtain⟨h1,_,hm⟩:=Jv hi2;have:c∈rest:=by rw[h1];simp
    have:=Lc.2 this;omega
  rw[am] at hp;subst hi;have w':=Zg (k:=done.length) o_;have aa:done.length+1-done.length=1:=o_
  have h5:done.length<done.length+1:=o_
  have h6:((done.length+1:Nat):Int)≤((done.length+1:Nat):Int):=Kai _;simp +contextual -implicitDefEqProofs only[go_sem,seval,aa,w',h5,h6,List.replicate_one,ZA3,ZA4,Zpa,Zu3,Zu4,Kl,KO,K0,and_self,Km,Zh];rw[hp];simp
theorem Zfe (s:List UInt8) (c:UInt8) (hs:s.length≤1048576):v_ 73 [.d (.str s),.d (.str [c])] []=some (.ownv 0 0 (ZL c s).length,[.row 1 ((ZL c s).map .str) true false]):=by
 have e1:=Zx6 s c hs;refine cE ?_;simp (maxSteps:=10^7) +contextual -implicitDefEqProofs only[go_sem,seval,Zhe,e1]
def Yv:List (List UInt8)→Option (List Int)
 | []=>some []
 | w :: r=>(rd w).bind fun v=>(Yv r).bind fun vs=>some ((v:Int) :: vs)
def rnV (o:Option (List Int)):AV×List Zm:=match o with
 | none=>(.tup [.own 0,(.d (.bool false))],[.row 1 [] true false])
 | some vs=>(.tup [.own 0,(.d (.bool true))],[.row 1 (vs.map XA) true false])
theorem Zx7 {ws:List (List UInt8)} {k:Nat} {x:List UInt8} (hx:ws[k]?=some x):Yv (ws.drop k)=(rd x).bind fun v=>(Yv (ws.drop (k+1))).bind fun vs=>some ((v:Int) :: vs):=by
 obtain⟨h1,h2⟩:=Kc.1 hx;rw[Ku h1,h2,Yv]
theorem Zff (ws:List (List UInt8)) (hw:ws.length≤2000000):v_ 72 [.d (.sl (ws.map .str))] []=some (rnV (Yv ws)):=by
 refine cE ?_;simp (maxSteps:=10^7) +contextual -implicitDefEqProofs only[go_sem,seval,Zhd];refine LO (α:=Nat×List Int) (fun a=>[(11,.d (J (a.1:Int)))]) (fun a=>[(0,.row 1 (a.2.map XA) true false)]) (fun a=>a.1≤ws.length∧a.2.length≤a.1∧Yv ws=(Yv (ws.drop a.1)).map fun r=>a.2++r) (fun a=>ws.length-a.1) (0,[]) ⟨by simp,by simp,by simp⟩ ?_;intro⟨k,vs⟩ ⟨hk,hv,hp⟩ ih;simp only at hk hv hp ih ⊢;by_cases ad:k<ws.length
 ·obtain⟨x,hx⟩:=Zn ad;have aa : (k:Int)<(ws.length:Int):=o_
  have w:=Zg (k:=k) o_;have e1:=UA x;rw[Zx7 hx] at hp;have ab:(vs.length+1)*8≤140737488355328∧vs.length+1≤140737488355328:=o_
  have ae:(ws.map D.str)[k]?=some (.str x):=by rw[La,hx];rfl
  cases hr:rd x with
  | none=>
   rw[hr] at e1 hp;simp only[Zf8] at e1;simp only[L4,Option.map_none] at hp;rw[hp];simp +contextual -implicitDefEqProofs only[go_sem,seval,aa,ad,ae,hx,w,e1,rnV]
  | some v=>
   rw[hr] at e1 hp;simp only[Zf8] at e1;simp +contextual -implicitDefEqProofs only[go_sem,seval,aa,ad,ae,hx,w,e1,ab];refine ih (k+1,vs++[(v:Int)]) _ ⟨o_,by simp;omega,?_⟩ o_ ?_
   ·rw[hp];cases Yv (ws.drop (k+1))<;>simp
   ·simp +contextual -implicitDefEqProofs only[go_sem,seval,XA,KJ,Kh,Kp]
 ·have:k=ws.length:=o_
  subst this;simp only[List.drop_length,Yv,Ld,KE] at hp;rw[hp];simp +contextual -implicitDefEqProofs only[go_sem,seval,rnV]
def rlV (o:Option Zc):AV:=match o with
 | none=>.tup [.d (.agg [J 0,J 0,.bool false,J 0,J 0]),(.d (.bool false))]
 | some l=>.tup [.d l.enc,(.d (.bool true))]
theorem Zty (s:List UInt8) (hs:s.length≤1048576):v_ 70 [.d (.str s)] []=some (rlV (Zfc (ZL 32 s)),[]):=by
 have e1:=Zfe s 32 hs;generalize ZL 32 s=ws at e1;by_cases h5:ws.length=5
 ·obtain⟨a,b,c,t,k,rfl⟩:∃ a b c t k,ws=[a,b,c,t,k]:=by
   match ws,h5 with
   | [a,b,c,t,k],_=>exact⟨a,b,c,t,k,rfl⟩
  simp only[Kh,Kp,Kl,KO,K0,Nat.reduceAdd] at e1;have ad:∀ tb:Bool,t=ZaO tb→v_ 70 [.d (.str s)] []=some (rlV (Zfc [a,b,c,t,k]),[]):=by
   intro tb ht;have e2:=Zff [a,b,c,k] (by simp);simp only[Kh,Kp] at e2;have ae:=Zsw tb;rw[← ht] at ae;have aa:=Zn5 tb;rw[← ht] at aa;have af:Zfc [a,b,c,t,k]=match Yv [a,b,c,k] with
     | some [a,b,c,k]=>some ⟨⟨b,c,tb,k⟩,a⟩
     | _=>none:=by
    simp only[Zfc,Kg ae,Yv,aa];cases rd a<;>cases rd b<;>cases rd c<;>cases rd k<;>rfl
   rw[af];have h4:∀ vs,Yv [a,b,c,k]=some vs→∃ x y z u:Int,vs=[x,y,z,u]:=by
    intro vs h;simp only[Yv,KZ,Option.some.injEq] at h;obtain⟨x,_,_,⟨y,_,_,⟨z,_,_,⟨u,_,_,h1,rfl⟩,rfl⟩,rfl⟩,rfl⟩:=h;subst h1;exact⟨_,_,_,_,rfl⟩
   have q1:(t==[116,117,114,110,115])=tb:=by
    rw[ht];cases tb<;>rfl
   have q2:(t==[102,105,120,101,100])=!tb:=by
    rw[ht];cases tb<;>rfl
   cases hr:Yv [a,b,c,k] with
   | none=>
    rw[hr] at e2;simp only[rnV] at e2;refine cE ?_;cases tb with
    | true=>simp +contextual -implicitDefEqProofs only[go_sem,seval,VC,e1,e2,q1,q2,rlV,Bool.not_true]
    | false=>simp +contextual -implicitDefEqProofs only[go_sem,seval,VC,e1,e2,q1,q2,rlV,Kao]
   | some vs=>
    obtain⟨x,y,z,u,rfl⟩:=h4 vs hr;rw[hr] at e2;simp only[rnV,Kh,Kp,XA] at e2;refine cE ?_;cases tb with
    | true=>simp +contextual -implicitDefEqProofs only[go_sem,seval,VC,e1,e2,q1,q2,rlV,Bool.not_true,Zc.enc]
    | false=>simp +contextual -implicitDefEqProofs only[go_sem,seval,VC,e1,e2,q1,q2,rlV,Kao,Zc.enc]
  by_cases t1:t=W7
  ·exact ad true t1
  by_cases t2:t=Za6
  ·exact ad false t2
  ·have ab:Zfc [a,b,c,t,k]=none:=by
    simp only[Zfc];rw[Kd (fun h=>h.elim t1 t2)]
   rw[ab];have q1:(t==[116,117,114,110,115])=false:=by simpa [W7] using t1
   have q2:(t==[102,105,120,101,100])=false:=by simpa [Za6] using t2
   refine cE ?_;simp (maxSteps:=10^7) +contextual -implicitDefEqProofs only[go_sem,seval,VC,e1,q1,q2,rlV]
 ·have ab:Zfc ws=none:=by
   unfold Zfc;split
   ·exact absurd rfl h5
   ·rfl
  rw[ab];have ag : ¬(ws.length:Int)=5:=o_
  refine cE ?_;simp (maxSteps:=10^7) +contextual -implicitDefEqProofs only[go_sem,seval,VC,e1,ag,rlV]
theorem ZdE (l:Zc) (h:Zsv l):(Yc 32 (Xe l)).length≤40:=by
 obtain⟨⟨w,h',t,k⟩,c⟩:=l;obtain⟨h1,h2,h3,h4⟩:=h;simp only[six] at h1 h2 h3 h4;have l1:=Ye 5 c.toNat o_;have l2:=Ye 5 w.toNat o_;have l3:=Ye 5 h'.toNat o_;have l4:=Ye 5 k.toNat o_;have l5:(ZaO t).length=5:=by cases t<;>rfl
 simp only[Xe,Yc,Kq,Kl];omega
theorem Ztz (lW lH:Int) (lT:Bool) (lK lC:Int) (h:Zsv (Zc.mk (Pane.mk lW lH lT lK) lC)):v_ 45 [(.d (.agg [J lW,J lH,.bool lT,J lK,J lC]))] []=some (.d (.str (Zal (Zc.mk (Pane.mk lW lH lT lK) lC))),[]):=by
 have hw:=ZdE (Zc.mk (Pane.mk lW lH lT lK) lC) h;obtain⟨h1,h2,h3,h4⟩:=h;simp only[six] at h1 h2 h3 h4;have e1:=Qg lC h1.1 o_;have e2:=Qg lW h2.1 o_;have e3:=Qg lH h3.1 o_;have e4:=Qg lK h4.1 o_;have e5:=Zg5 (Xe (Zc.mk (Pane.mk lW lH lT lK) lC)) 32 (by simp[Xe]) (by simp[Xe]) o_;simp only[Xe,Kh,Kp] at e5;unfold Zal;simp only[Xe];refine cE ?_;cases lT with
 | true=>
  simp only[ZaO,W7,Km] at e5 ⊢;simp +contextual -implicitDefEqProofs only[go_sem,seval,ZgX,e1,e2,e3,e4,e5]
 | false=>
  simp only[ZaO,Za6,Ka,Kn] at e5 ⊢;simp +contextual -implicitDefEqProofs only[go_sem,seval,ZgX,e1,e2,e3,e4,e5]
theorem ZtA (lW lH:Int) (lT:Bool) (lK lC:Int) (h:Zsv (Zc.mk (Pane.mk lW lH lT lK) lC)):v_ 114 [(.d (.agg [J lW,J lH,.bool lT,J lK,J lC]))] []=some (.d (.str (Zal (Zc.mk (Pane.mk lW lH lT lK) lC))),[]):=by
 have hw:=ZdE (Zc.mk (Pane.mk lW lH lT lK) lC) h;obtain⟨h1,h2,h3,h4⟩:=h;simp only[six] at h1 h2 h3 h4;have e1:=Xb lC.toNat o_;have e2:=Xb lW.toNat o_;have e3:=Xb lH.toNat o_;have e4:=Xb lK.toNat o_;rw[KR o_] at e1 e2 e3 e4;have l1:=Ye 5 lC.toNat o_;have l2:=Ye 5 lW.toNat o_;have l3:=Ye 5 lH.toNat o_;have l4:=Ye 5 lK.toNat o_;unfold Zal;simp only[Xe,Yc];generalize num lC.toNat=a at *;generalize num lW.toNat=b at *;generalize num lH.toNat=c at *;generalize num lK.toNat=d at *;have b1:a.length+1≤1152921504606846976:=o_
 have b2:a.length+1+b.length≤1152921504606846976:=o_
 have b3:a.length+1+b.length+1≤1152921504606846976:=o_
 have b4:a.length+1+b.length+1+c.length≤1152921504606846976:=o_
 have b5:a.length+1+b.length+1+c.length+1≤1152921504606846976:=o_
 have b6:a.length+1+b.length+1+c.length+1+5≤1152921504606846976:=o_
 have b7:a.length+1+b.length+1+c.length+1+5+1≤1152921504606846976:=o_
 have b8:a.length+1+b.length+1+c.length+1+5+1+d.length≤1152921504606846976:=o_
 refine cE ?_;cases lT with
 | true=>
  simp only[ZaO,W7,Km];simp +contextual -implicitDefEqProofs only[go_sem,seval,ZgY,e1,e2,e3,e4,b1,b2,b3,b4,b5,b6,b7,b8];simp only[KM,KF,K6]
 | false=>
  simp only[ZaO,Za6,Ka,Kn];simp +contextual -implicitDefEqProofs only[go_sem,seval,ZgY,e1,e2,e3,e4,b1,b2,b3,b4,b5,b6,b7,b8];simp only[KM,KF,K6]
theorem ZCl {s:List UInt8} {k:Nat} {c:UInt8} (hc:s[k]?=some c):ZpV (s.take (k+1))=ZpV (s.take k)+(if c=10 then 1 else 0):=by
 rw[KB,hc];unfold ZpV;rw[List.countP_append];simp only[LS,List.countP_cons,List.countP_nil,K0,beq_iff_eq]
theorem ZtB (s:List UInt8) (hs:s.length≤1048576):v_ 17 [.d (.str s)] []=some ((.d (J (ZpV s))),[]):=by
 refine cE ?_;simp (maxSteps:=10^7) +contextual -implicitDefEqProofs only[go_sem,seval,ZmU];refine LO (α:=Nat) (fun k=>[(4,.d (J (k:Int))),(3,.d (J (ZpV (s.take k):Nat)))]) (fun _=>[]) (fun k=>k≤s.length) (fun k=>s.length-k) 0 o_ ?_;intro k hk ih;by_cases ad:k<s.length
 ·obtain⟨c,hc⟩:∃ c,s[k]?=some c:=⟨_,Kw ad⟩
  have aa : (k:Int)<(s.length:Int):=o_
  have w:=Zg (k:=k) o_;have ht:=ZCl hc;have ae:ZpV (s.take k)≤1048576:=Ky List.countP_le_length (by simp;omega);have w2:=Zg (k:=ZpV (s.take k)) o_;by_cases ab:c=10
  ·rw[Kg ab] at ht;have hn:(c.toNat:Int)=10:=(Zdi c 10 rfl).2 ab;simp +contextual -implicitDefEqProofs only[go_sem,seval,aa,ad,hc,w,w2,hn];refine ih (k+1) _ o_ o_ ?_;simp +contextual -implicitDefEqProofs only[go_sem,seval,ht]
  ·rw[Kd ab] at ht;have hn:¬(c.toNat:Int)=10:=fun h=>ab ((Zdi c 10 rfl).1 h);simp +contextual -implicitDefEqProofs only[go_sem,seval,aa,ad,hc,w,hn];refine ih (k+1) _ o_ o_ ?_;simp +contextual -implicitDefEqProofs only[go_sem,seval,ht,L3]
 ·have:k=s.length:=o_
  subst this;simp +contextual -implicitDefEqProofs only[go_sem,seval,KI]
theorem ZzW {c:UInt8} {s:List UInt8} {f k:Nat} (hf:f≤k) (hk:k≤s.length) (aa:c∉(s.take k).drop f) :
  (∀ x,s[k]?=some x→x=c→ZL c (s.drop f)=(s.take k).drop f :: ZL c (s.drop (k+1)))∧(k=s.length→ZL c (s.drop f)=[(s.take k).drop f]):=by
 constructor
 ·intro x hx hc;obtain⟨h1,h2⟩:=Kc.1 hx;have e:s.drop f=(s.take k).drop f++c :: s.drop (k+1):=by
   have:s=s.take k++x :: s.drop (k+1):=by
    rw[← h2,← Ku h1,Lt]
   conv=>lhs;rw[this]
   rw[List.drop_append_of_le_length (by simp;omega),hc]
  rw[e,Zjy aa]
 ·intro ab;subst ab;rw[KI] at aa ⊢;exact Zak aa
theorem ZsA {s:List UInt8} {f k:Nat} {x:UInt8} (hf:f≤k) (hx:s[k]?=some x):(s.take (k+1)).drop f=(s.take k).drop f++[x]:=by
 obtain⟨h1,h2⟩:=Kc.1 hx;rw[KB,hx,LS,List.drop_append_of_le_length (by simp;omega)]
theorem Zmv (s:List UInt8) (c:UInt8) (n:Int) (hn:(c.toNat:Int)=n) (hs:s.length≤1048576):v_ 57 [.d (.str s),.d (.int .u8 n)] []=some (.own 0,[.row 1 ((ZL c s).map .str) true false]):=by
 refine cE ?_;simp (maxSteps:=10^7) +contextual -implicitDefEqProofs only[go_sem,seval,Zpo];refine LO (α:=Nat×Nat×List (List UInt8)) (fun a=>[(7,.d (J (a.1:Int))),(6,.d (J (a.2.1:Int)))]) (fun a=>[(0,.row 1 (a.2.2.map .str) true false)]) (fun a=>a.2.1≤a.1∧a.1≤s.length∧a.2.2.length≤a.1∧c∉(s.take a.1).drop a.2.1∧ZL c s=a.2.2++ZL c (s.drop a.2.1)) (fun a=>s.length-a.1) (0,0,[]) ⟨by simp,by simp,by simp,by simp,by simp⟩ ?_;intro⟨k,f,out⟩ ⟨hf,hk,ho,hno,hp⟩ ih;simp only at hf hk ho hno hp ih ⊢;have aa:(out.length+1)*16≤140737488355328∧out.length+1≤140737488355328:=o_
 obtain⟨s1,s2⟩:=ZzW hf hk hno;have b1:(f:Int)≤(k:Int):=o_
 have b2:(k:Int)≤(s.length:Int):=o_
 have b3:(f:Int)≤(s.length:Int):=o_
 by_cases ad:k<s.length
 ·obtain⟨x,hx⟩:∃ x,s[k]?=some x:=⟨_,Kw ad⟩
  have ab : (k:Int)<(s.length:Int):=o_
  have w:=Zg (k:=k) o_;by_cases he:x=c
  ·have ae:(x.toNat:Int)=n:=by rw[he,hn]
   have s1:=s1 x hx he;simp +contextual -implicitDefEqProofs only[go_sem,seval,ab,ad,hx,w,ae,b1,b2,aa];refine ih (k+1,k+1,out++[(s.take k).drop f]) _ ⟨by simp,p_,by simp;omega,by simp,?_⟩ p_ ?_
   ·simp only[KM,LQ];rw[hp,s1]
   ·simp +contextual -implicitDefEqProofs only[go_sem,seval,KJ,Kh,Kp]
  ·have ae:¬(x.toNat:Int)=n:=by
    intro h;rw[← hn] at h;exact he (UInt8.toNat_inj.1 o_)
   simp +contextual -implicitDefEqProofs only[go_sem,seval,ab,ad,hx,w,ae];refine ih (k+1,f,out) _ ⟨p_,p_,p_,?_,hp⟩ p_ ?_
   ·simp only;rw[ZsA hf hx];simp only[Kj,KD,not_or];exact⟨hno,fun e=>he e.symm⟩
   ·simp +contextual -implicitDefEqProofs only[go_sem,seval]
 ·have af:k=s.length:=o_
  have s2:=s2 af;subst af;rw[KI] at s2;rw[s2] at hp;rw[hp];simp +contextual -implicitDefEqProofs only[go_sem,seval,b3,aa,KI,KJ,Kh,Kp]
def lnS (ws:List (List UInt8)):Option Zc:=match ws with
 | [a,b,c,t,k]=>if t=W7∨t=Za6 then some ⟨⟨ZbF b,ZbF c,decide (t=W7),ZbF k⟩,ZbF a⟩ else none
 | _=>none
theorem ZtC (ws:List (List UInt8)) (hw:∀ w∈ws,w.length≤1048576):v_ 160 [.d (.sl (ws.map .str))] []=some (rlV (lnS ws),[]):=by
 by_cases h5:ws.length=5
 ·obtain⟨a,b,c,t,k,rfl⟩:∃ a b c t k,ws=[a,b,c,t,k]:=by
   match ws,h5 with
   | [a,b,c,t,k],_=>exact⟨a,b,c,t,k,rfl⟩
  have ea:=X9 a (hw a (by simp));have eb:=X9 b (hw b (by simp));have ec:=X9 c (hw c (by simp));have ek:=X9 k (hw k (by simp));simp only[Kh,Kp];have ad:∀ tb:Bool,t=ZaO tb→v_ 160 [.d (.sl [.str a,.str b,.str c,.str t,.str k])] []=some (rlV (lnS [a,b,c,t,k]),[]):=by
   intro tb ht;have ae:=Zsw tb;rw[← ht] at ae;have aa:=Zn5 tb;rw[← ht] at aa;have q1:(t==[116,117,114,110,115])=tb:=by
    rw[ht];cases tb<;>rfl
   have q2:(t==[102,105,120,101,100])=!tb:=by
    rw[ht];cases tb<;>rfl
   simp only[lnS,Kg ae,aa];refine cE ?_;cases tb with
   | true=>simp +contextual -implicitDefEqProofs only[go_sem,seval,JO,ea,eb,ec,ek,q1,q2,rlV,Bool.not_true,Zc.enc]
   | false=>simp +contextual -implicitDefEqProofs only[go_sem,seval,JO,ea,eb,ec,ek,q1,q2,rlV,Kao,Zc.enc]
  by_cases t1:t=W7
  ·exact ad true t1
  by_cases t2:t=Za6
  ·exact ad false t2
  ·have ab:lnS [a,b,c,t,k]=none:=by
    simp only[lnS];rw[Kd (fun h=>h.elim t1 t2)]
   rw[ab];have q1:(t==[116,117,114,110,115])=false:=by simpa [W7] using t1
   have q2:(t==[102,105,120,101,100])=false:=by simpa [Za6] using t2
   refine cE ?_;simp (maxSteps:=10^7) +contextual -implicitDefEqProofs only[go_sem,seval,JO,q1,q2,rlV]
 ·have ab:lnS ws=none:=by
   unfold lnS;split
   ·exact absurd rfl h5
   ·rfl
  rw[ab];have af : ¬(ws.length:Int)=5:=o_
  refine cE ?_;simp (maxSteps:=10^7) +contextual -implicitDefEqProofs only[go_sem,seval,JO,af,rlV]
theorem Zk2 (c:UInt8):∀ s:List UInt8,∀ w∈ZL c s,w.length≤s.length
 | [],w,h=>by simp only[ZL,KD] at h;rw[h];simp
 | x :: r,w,h=>by
  have ih:=Zk2 c r;simp only[ZL] at h;by_cases hx:x=c
  ·rw[Kg hx] at h;rcases Ke.1 h with rfl | h
   ·simp
   ·have:=ih w h;simp;omega
  ·rw[Kd hx] at h;cases hs:ZL c r with
   | nil=>exact absurd hs (WR c r)
   | cons p q=>
    rw[hs] at h ih;simp only at h;rcases Ke.1 h with rfl | h
    ·have:=ih p (by simp);simp;omega
    ·have:=ih w (by simp[h]);simp;omega
theorem Zx8 {ws:List (List UInt8)} {x:Zc} (h:Zfc ws=some x):lnS ws=some x:=by
 unfold Zfc at h;split at h
 ·rename_i a b c t k;split at h
  ·rename_i ht;simp only[KZ] at h;obtain⟨n1,h1,n2,h2,n3,h3,n4,h4,h⟩:=h;cases h;simp only[lnS,Kg ht,ZaN h1,ZaN h2,ZaN h3,ZaN h4]
  ·cases h
 ·cases h
end Go.Proofs.YtfnegoimdljanaaGreatDoor
