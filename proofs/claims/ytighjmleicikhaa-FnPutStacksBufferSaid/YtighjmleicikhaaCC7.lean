/- Own text. -/
import Derived.Test.YtighjmleicikhaaCCode
import Derived.Test.YtighjmleicikhaaAbsParts
import Derived.Test.YtighjmleicikhaaCC4
import Derived.Test.YtighjmleicikhaaCC2
import Derived.Test.YtighjmleicikhaaCC6
namespace Go.Proofs.Ytighjmleicikhaa
open Go Go.Abs Go.Abs.E Go.Abs.L
open Nat (reduceMul reduceSub reduceLeDiff reduceEqDiff)
open Int (reduceLE reduceEq reduceToNat reduceNeg)
set_option linter.unusedSimpArgs false
set_option linter.unusedVariables false
set_option maxRecDepth 20000
set_option maxHeartbeats 4000000
def ZhN (l R:List Int) (n:Nat):Prop:=R.length=l.length∧∀ k,k<n→∃ r x,R[k]?=some r∧l[k]?=some x∧1≤r∧r≤k+1∧(r=1↔∀ y∈l.take k,¬y<x)
theorem ZhO (l:List Int) (hl:l.length≤24):∃ R:List Int,ZhN l R l.length∧Zu Xs Ms YO [.d (.sl (l.map Zs))] []=some (.own 0,[.row 1 (R.map Zs) true false]):=by
 have hQ:∃ q,Zu Xs Ms YO [.d (.sl (l.map Zs))] []=some q∧∃ R:List Int,ZhN l R l.length∧q=(.own 0,[.row 1 (R.map Zs) true false]):=by
  have hr:(l.length:Int)*8≤140737488355328∧(l.length:Int)≤140737488355328:=by omega
  have h0:¬(l.length:Int)<0:=by omega
  have hz:List.replicate l.length (D.int .i64 0)=(List.replicate l.length (0:Int)).map Zs:=by rw[List.map_replicate];rfl
  refine cW ?_;simp +contextual -implicitDefEqProofs (maxSteps:=10^7) only[go_sem,seval,↓gZ,J3,hr,h0,hz];refine LO (α:=Nat×List Int) (fun s=>[(13,.d (J (s.1:Int)))]) (fun s=>[(0,.row 1 (s.2.map Zs) true false)]) (fun s=>s.1≤l.length∧ZhN l s.2 s.1) (fun s=>l.length-s.1) (0,List.replicate l.length 0) ⟨by omega,by simp[ZhN]⟩ ?_;intro⟨i,R⟩ ⟨hi,hR⟩ ih;simp only at hi hR;by_cases af:i<l.length
  ·obtain⟨x,hx⟩:=ZW af;obtain⟨ai,hR⟩:=hR;have hw:=ZF (k:=i) (by omega);have aa:i<R.length:=by omega
   obtain⟨r0,aj⟩:=ZW aa;have ak:(i:Int)≤(l.length:Int):=by omega
   have al:(R.map Zs).set i (J 1)=(R.set i 1).map Zs:=by simp[LZ,Zs]
   have ab:(l.take i).length=i:=by rw[KQ];omega
   simp +contextual -implicitDefEqProofs (maxSteps:=10^7) only[go_sem,seval,↓gZ,hx,af,aa,aj,ak,hi,Lg,al];refine Vv Xs Ms (st0:=?st1) (α:=Nat×Int) (fun s=>[(25,.d (J (s.1:Int)))]) (fun s=>[(0,.row 1 ((R.set i s.2).map Zs) true false)]) (fun s=>s.1≤i∧1≤s.2∧s.2≤s.1+1∧(s.2=1↔∀ y∈l.take s.1,¬y<x)) (fun s=>i-s.1) (0,1) ?hc2 ⟨by simp,by simp,by simp,by simp⟩ ?h02 ?step2
   case hc2=>simp +contextual -implicitDefEqProofs (maxSteps:=10^7) only[go_sem,seval,↓gZ]<;>exact rfl
   case h02=>rfl
   case step2=>
    intro⟨j,v⟩ ⟨hj,hv1,hv2,hv3⟩ ih2;simp only at hj hv1 hv2 hv3;by_cases ad:j<i
    ·obtain⟨y,hy⟩:=ZW (l:=l) (k:=j) (by omega);have ag:(l.take i)[j]?=some y:=by rw[List.getElem?_take_of_lt ad];exact hy
     have ah:=ZF (k:=j) (by omega);obtain⟨r,x',g1,g2,g3,g4,g5⟩:=hR j ad;have am:j<R.length:=by omega
     have an:i≠j:=by omega
     have s1:(R.set i v)[j]?=some r:=by rw[KI an];exact g1
     have s2:(R.set i v)[i]?=some v:=by simp[aa]
     have s3:(R.set i v).length=R.length:=List.length_set;have ae:∀ z,z∈l.take (j+1)↔z∈l.take j∨z=y:=fun z=>by rw[KD,hy];simp
     by_cases c:y<x
     ·have w1:=wi (r+1) (by omega) (by omega);have s4:((R.set i v).map Zs).set i (J (max v (r+1)))=(R.set i (max v (r+1))).map Zs:=by simp[LZ,Zs]
      simp +contextual -implicitDefEqProofs (maxSteps:=10^7) only[go_sem,seval,↓gZ,ad,hx,ag,ab,c,ah,s1,s2,s3,aa,am,w1];refine ih2 (j+1,max v (r+1)) _ ⟨by simp only;omega,by simp only;omega,by simp only;push_cast;omega,?_⟩ (by simp only;omega) ?_
      ·simp only;constructor
       ·intro h;omega
       ·intro h;exact absurd c (h y ((ae y).2 (.inr rfl)))
      ·simp +contextual -implicitDefEqProofs (maxSteps:=10^7) only[go_sem,seval,↓gZ,Lg,s4,ab]
     ·simp +contextual -implicitDefEqProofs (maxSteps:=10^7) only[go_sem,seval,↓gZ,ad,hx,ag,ab,c,ah];refine ih2 (j+1,v) _ ⟨by simp only;omega,hv1,by simp only;push_cast;omega,?_⟩ (by simp only;omega) ?_
      ·simp only;rw[hv3];constructor
       ·intro h z hz;rcases (ae z).1 hz with hz | rfl
        ·exact h z hz
        ·exact c
       ·intro h z hz;exact h z ((ae z).2 (.inl hz))
      ·simp +contextual -implicitDefEqProofs (maxSteps:=10^7) only[go_sem,seval,↓gZ,ab]
    ·have:j=i:=by omega
     subst this;simp +contextual -implicitDefEqProofs (maxSteps:=10^7) only[go_sem,seval,↓gZ,hw,ab];refine ih (j+1,R.set j v) _ ⟨by simp only;omega,by simp only[List.length_set];exact ai,fun k hk=>?_⟩ (by simp only;omega) ?_
     ·simp only at hk;simp only;by_cases ao:k=j
      ·subst ao;exact⟨v,x,by simp[aa],hx,hv1,hv2,hv3⟩
      ·obtain⟨r,x',g⟩:=hR k (by omega);exact⟨r,x',by rw[KI (by omega)];exact g.1,g.2⟩
     ·simp +contextual -implicitDefEqProofs (maxSteps:=10^7) only[go_sem,seval,↓gZ]
  ·have:i=l.length:=by omega
   subst this;simp +contextual -implicitDefEqProofs (maxSteps:=10^7) only[go_sem,seval,↓gZ];exact⟨R,hR,rfl⟩
 obtain⟨q,h1,R,h2,rfl⟩:=hQ;exact⟨R,h2,h1⟩
theorem ZfQ (l:List Int) (h0:0<l.length) (hl:l.length≤1000):∃ m:Int,m∈l∧(∀ y∈l,y≤m)∧Zu Xs Ms Xj [.d (.sl (l.map Zs))] []=some ((.d (J m)),[]):=by
 have hQ:∃ q,Zu Xs Ms Xj [.d (.sl (l.map Zs))] []=some q∧∃ m:Int,m∈l∧(∀ y∈l,y≤m)∧q=((.d (J m)),[]):=by
  obtain⟨x0,aa⟩:=ZW h0;have hn:¬(l.length:Int)<1:=by omega
  refine cW ?_;simp +contextual -implicitDefEqProofs (maxSteps:=10^7) only[go_sem,seval,↓gZ,WJ,hn,aa,h0];refine Vv Xs Ms (st0:=?st0) (α:=Nat×Int) (fun s=>[(4,.d (J (s.1:Int))),(3,.d (J s.2))]) (fun _=>[]) (fun s=>s.1≤l.length∧s.2∈l∧∀ y∈l.take s.1,y≤s.2) (fun s=>l.length-s.1) (1,x0) ?hc ⟨by omega,Kl aa,?hi⟩ ?h0 ?step
  case hc=>simp +contextual -implicitDefEqProofs (maxSteps:=10^7) only[go_sem,seval,↓gZ]<;>exact rfl
  case h0=>rfl
  case hi=>
   intro y hy;simp only[KD,aa,Ls,KW,Option.toList_some,KV] at hy;omega
  case step=>
   intro⟨i,m⟩ ⟨hi,hm,hb⟩ ih;simp only at hi hm hb;by_cases ad:i<l.length
   ·obtain⟨x,hx⟩:=ZW ad;have hw:=ZF (k:=i) (by omega);have ab : (i:Int)<(l.length:Int):=by omega
    simp +contextual -implicitDefEqProofs (maxSteps:=10^7) only[go_sem,seval,↓gZ,hx,ad,ab,hw];refine ih (i+1,max m x) _ ⟨by simp only;omega,?_,fun y hy=>?_⟩ (by simp only;omega) ?_
    ·simp only;have ae:=Kl hx;rcases Int.le_total m x with h | h
     ·rw[Int.max_eq_right h];exact ae
     ·rw[Int.max_eq_left h];exact hm
    ·simp only at hy ⊢;rcases Ue hx hy with h | h
     ·have:=hb y h;omega
     ·omega
    ·simp +contextual -implicitDefEqProofs (maxSteps:=10^7) only[go_sem,seval,↓gZ]
   ·have:i=l.length:=by omega
    subst this;rw[Lp] at hb;simp +contextual -implicitDefEqProofs (maxSteps:=10^7) only[go_sem,seval,↓gZ];exact⟨m,hm,hb,rfl⟩
 obtain⟨q,h1,m,h2,h3,rfl⟩:=hQ;exact⟨m,h2,h3,h1⟩
theorem ZcN (l:List Int) (ho:QT l):∃ out:List Int,(out.length≤1↔prs upP l l.length=0)∧Zu Xs Ms QY [.d (.sl (l.map Zs))] []=some (.own 0,[.row 1 (out.map Zs) true false]):=by
 have aq:=ho.1;have e1:=QA l (by omega);rw[Ku ho] at e1;by_cases af:l.length=0
 ·refine⟨[],?_,?_⟩
  ·rw[af];simp[prs]
  ·have ag:(l.length:Int)=0:=by omega
   refine cE ?_;simp +contextual -implicitDefEqProofs (maxSteps:=10^7) only[go_sem,seval,↓gZ,Yz,e1,af,ag]
 ·obtain⟨R,hR,e2⟩:=ZhO l aq;obtain⟨m,ah,al,e3⟩:=ZfQ R (by rw[hR.1];omega) (by rw[hR.1];omega);have ag:¬(l.length:Int)=0:=by omega
  have am:∀ r∈R,1≤r∧r≤24:=fun r hr=>by
   obtain⟨k,hk⟩:=KZ hr;have ai:=(Kb.1 hk).1;obtain⟨r',x,g1,g2,g3,g4,_⟩:=hR.2 k (by rw[← hR.1];exact ai);rw[hk] at g1;cases g1;have:=hR.1;omega
  obtain⟨aw,ax⟩:=am m ah;obtain⟨mn,rfl⟩:∃ k:Nat,m=(k:Int):=⟨m.toNat,by omega⟩
  have aa:mn≤1↔prs upP l l.length=0:=by
   rw[Zb7];constructor
   ·intro h i hi y hy;obtain⟨r,x,g1,g2,g3,g4,g5⟩:=hR.2 i hi;have:=al r (Kl g1);have ar:r=1:=by omega
    simp only[KY,g2,LR,upP];exact Kr (g5.1 ar y hy)
   ·intro h;obtain⟨k,hk⟩:=KZ ah;have ai:=(Kb.1 hk).1;have ab:k<l.length:=by rw[← hR.1];exact ai
    obtain⟨r,x,g1,g2,g3,g4,g5⟩:=hR.2 k ab;rw[hk] at g1;cases g1;have:(mn:Int)=1:=g5.2 fun y hy=>by
     have:=h k ab y hy;simp only[KY,g2,LR,upP] at this;exact of_decide_eq_false this
    omega
  have ay:=hR.1;have hQ:∃ q,Zu Xs Ms QY [.d (.sl (l.map Zs))] []=some q∧∃ out:List Int,out.length=mn∧q=(.own 0,[.row 1 (out.map Zs) true false]):=by
   have hr:(mn:Int)*8≤140737488355328∧(mn:Int)≤140737488355328:=by omega
   have h0:¬(mn:Int)<0:=by omega
   have hz:List.replicate mn (D.int .i64 0)=(List.replicate mn (0:Int)).map Zs:=by rw[List.map_replicate];rfl
   clear aa am ah al hR;refine cW ?_;simp +contextual -implicitDefEqProofs (maxSteps:=10^7) only[go_sem,seval,↓gZ,Yz,e1,af,ag,e2,e3,hr,h0,hz];refine LO (α:=Nat×Int×List Int) (fun s=>[(6,.d (J s.2.1)),(4,.d (J (s.1:Int)))]) (fun s=>[(0,.row 1 (s.2.2.map Zs) true false)]) (fun s=>s.1≤mn∧s.2.2.length=mn) (fun s=>s.1) (mn,l.length,List.replicate mn 0) ⟨by simp,by simp⟩ ?_;intro⟨k,lim,out⟩ ⟨hk,hout⟩ ih;simp only at hk hout;by_cases au:0<k
   ·have aj : (0:Int)<(k:Int):=by omega
    have hw:IntKind.i64.wrap ((k:Int)-1)=((k-1:Nat):Int):=by rw[XX (by omega) (by omega)];omega
    have an:k-1<out.length:=by omega
    obtain⟨o1,av⟩:=ZW an;simp +contextual -implicitDefEqProofs (maxSteps:=10^7) only[go_sem,seval,↓gZ,au,aj];refine Vv Xs Ms (st0:=?st1) (α:=Nat) (fun i=>[(31,.d (J (i:Int)))]) (fun _=>[]) (fun i=>i≤l.length) (fun i=>l.length-i) 0 ?hc2 (by omega) ?h02 ?step2
    case hc2=>simp +contextual -implicitDefEqProofs (maxSteps:=10^7) only[go_sem,seval,↓gZ]<;>exact rfl
    case h02=>rfl
    case step2=>
     intro i hi ao;by_cases ad:i<l.length
     ·obtain⟨x,hx⟩:=ZW ad;have ae:i<R.length:=by omega
      obtain⟨r,ak⟩:=ZW ae;have ap:=ZF (k:=i) (by omega);by_cases c1:r=(k:Int)
      ·by_cases c2:x<lim
       ·simp +contextual -implicitDefEqProofs (maxSteps:=10^7) only[go_sem,seval,↓gZ,hx,ad,ae,ak,c1,c2,hw,an,av];refine ih (k-1,x,out.set (k-1) (i:Int)) _ ⟨by simp only;omega,by simpa using hout⟩ (by simp only;omega) ?_;simp +contextual -implicitDefEqProofs (maxSteps:=10^7) only[go_sem,seval,↓gZ,Lg,LZ]
       ·simp +contextual -implicitDefEqProofs (maxSteps:=10^7) only[go_sem,seval,↓gZ,hx,ad,ae,ak,c1,c2,ap];refine ao (i+1) _ (by omega) (by omega) ?_;simp +contextual -implicitDefEqProofs (maxSteps:=10^7) only[go_sem,seval,↓gZ]
      ·simp +contextual -implicitDefEqProofs (maxSteps:=10^7) only[go_sem,seval,↓gZ,hx,ad,ae,ak,c1,ap];refine ao (i+1) _ (by omega) (by omega) ?_;simp +contextual -implicitDefEqProofs (maxSteps:=10^7) only[go_sem,seval,↓gZ]
     ·have:i=l.length:=by omega
      subst this;simp +contextual -implicitDefEqProofs (maxSteps:=10^7) only[go_sem,seval,↓gZ,hw];refine ih (k-1,lim,out) _ ⟨by simp only;omega,hout⟩ (by simp only;omega) ?_;simp +contextual -implicitDefEqProofs (maxSteps:=10^7) only[go_sem,seval,↓gZ]
   ·have:k=0:=by omega
    subst this;simp +contextual -implicitDefEqProofs (maxSteps:=10^7) only[go_sem,seval,↓gZ];exact⟨out,hout,rfl⟩
  obtain⟨q,h1,out,h2,rfl⟩:=hQ;exact⟨out,by rw[h2];exact aa,h1⟩
theorem Zft (l:List Int) (ho:QT l):∃ m:Nat,(m≤1↔prs upP l l.length=0)∧Zu Xs Ms Yr [.d (.sl (l.map Zs))] []=some ((.d (J ((m:Nat)))),[]):=by
 have e1:=QA l (by have:=ho.1;omega);rw[Ku ho] at e1;obtain⟨out,h1,e2⟩:=ZcN l ho;refine⟨out.length,h1,?_⟩;refine cE ?_;simp +contextual -implicitDefEqProofs (maxSteps:=10^7) only[go_sem,seval,↓gZ,Ug,e1,e2]
end Go.Proofs.Ytighjmleicikhaa
namespace Go.Proofs.Ytighjmleicikhaa
open Go Go.Abs Go.Abs.E Go.Abs.L
open Nat (reduceMul reduceSub reduceLeDiff reduceEqDiff)
open Int (reduceLE reduceEq reduceToNat reduceNeg)
set_option linter.unusedSimpArgs false
set_option linter.unusedVariables false
set_option maxRecDepth 20000
set_option maxHeartbeats 4000000
theorem Zfu (l:List Int) (ho:QT l):∃ room:Nat,room≤l.length∧inO (psL room [] [] l)=true∧(∀ r,r<room→inO (psL r [] [] l)=false)∧Zu Xs Ms XA [.d (.sl (l.map Zs))] []=some ((.d (J ((room:Nat)))),[]):=by
 have ab:=ho.1;have e1:=QA l (by omega);rw[Ku ho] at e1;have hQ:∃ q,Zu Xs Ms XA [.d (.sl (l.map Zs))] []=some q∧∃ room:Nat,room≤l.length∧inO (psL room [] [] l)=true∧(∀ r,r<room→inO (psL r [] [] l)=false)∧q=((.d (J ((room:Nat)))),[]):=by
  refine cW ?_;simp +contextual -implicitDefEqProofs (maxSteps:=10^7) only[go_sem,seval,↓gZ,Uf,e1];refine LO (α:=Nat) (fun r=>[(3,.d (J (r:Int)))]) (fun _=>[]) (fun r=>r≤l.length∧∀ q,q<r→inO (psL q [] [] l)=false) (fun r=>l.length-r) 0 ⟨by omega,fun q h=>by omega⟩ ?_;intro r ⟨hr,hb⟩ ih;have e2:=Ji l r ho (by omega);have aa:=(ZdQ r l [] []).length_eq;simp only[KW] at aa;have e3:=U9 (psL r [] [] l) (by omega);have hw:=ZF (k:=r) (by omega);cases hin:inO (psL r [] [] l) with
  | true=>
   rw[hin] at e3;simp +contextual -implicitDefEqProofs (maxSteps:=10^7) only[go_sem,seval,↓gZ,e2,e3];exact⟨r,hr,hin,hb,rfl⟩
  | false=>
   rw[hin] at e3;have ad:r≠l.length:=fun e=>by rw[e,Zoc ho.2,ZhH] at hin;cases hin
   simp +contextual -implicitDefEqProofs (maxSteps:=10^7) only[go_sem,seval,↓gZ,e2,e3,hw];refine ih (r+1) _ ⟨by omega,fun q hq=>?_⟩ (by omega) ?_
   ·rcases Nat.lt_succ_iff_lt_or_eq.1 hq with h | rfl
    ·exact hb q h
    ·exact hin
   ·simp +contextual -implicitDefEqProofs (maxSteps:=10^7) only[go_sem,seval,↓gZ]
 obtain⟨q,h1,room,h2,h3,h4,rfl⟩:=hQ;exact⟨room,h2,h3,h4,h1⟩
theorem ZfR (l:List Int) (hl:l.length≤1000):Zu Xs Ms Y8 [.d (.sl (l.map Zs))] []=some (.own 0,[.row 1 (l.map Zs) true false]):=by
 have hr:l.length*8≤140737488355328∧l.length≤140737488355328:=by omega
 refine cE ?_;simp +contextual -implicitDefEqProofs (maxSteps:=10^7) only[go_sem,seval,↓gZ,Jd,hr]
theorem ZfS (bs:List UInt8) (hb:bs.length≤2000) (p:Nat) (hp:p<900000000):∃ (out:List Int) (p' : Nat),p'≤p+15∧out.length≤14 ∧
  Zu Xs Ms Ye [.ptr 0 0] [.box [.d (.sl (bs.map VS)),(.d (J p))]]=some (.own 1,[.box [.d (.sl (bs.map VS)),(.d (J (p')))],.row 1 (out.map Zs) true false]):=by
 have hQ:∃ q,Zu Xs Ms Ye [.ptr 0 0] [.box [.d (.sl (bs.map VS)),(.d (J p))]]=some q∧∃ (out:List Int) (p' : Nat),p'≤p+15∧out.length≤14∧q=(.own 1,[.box [.d (.sl (bs.map VS)),(.d (J (p')))],.row 1 (out.map Zs) true false]):=by
  obtain⟨v,hv,e1⟩:=Zi6 bs p [6,8,4,10,2,0,14] hb (by omega) (by simp);have aj : 0≤v∧v≤14:=by
   simp only[Ke,LN,or_false] at hv;omega
  obtain⟨n,rfl⟩:∃ n:Nat,v=(n:Int):=⟨v.toNat,by omega⟩
  simp only[Ky,LH,Zs] at e1;refine cW ?_;simp +contextual -implicitDefEqProofs (maxSteps:=10^7) only[go_sem,seval,↓gZ,Jc,e1];refine LO (α:=Nat×List Int×Nat) (fun s=>[(4,.d (J (s.1:Int)))]) (fun s=>[(1,.row 1 (s.2.1.map Zs) true false),(0,.box [.d (.sl (bs.map VS)),(.d (J (s.2.2)))])]) (fun s=>s.1+s.2.1.length=n∧s.2.2=p+1+s.2.1.length) (fun s=>s.1) (n,[],p+1) ⟨by simp,by simp⟩ ?_;intro⟨k,out,pp⟩ ⟨hk,hpp⟩ ih;simp only at hk hpp;subst hpp;by_cases ae:0<k
  ·have aa : (0:Int)<(k:Int):=by omega
   have hw:IntKind.i64.wrap ((k:Int)-1)=((k-1:Nat):Int):=by rw[XX (by omega) (by omega)];omega
   have af:=ZF (k:=out.length) (by omega);have e2:=Zas bs (p+1+out.length) (((out.length+1:Nat):Int)) hb (by omega);have q0:=Ud bs (p+1+out.length) (((out.length+1:Nat):Int));have q1:=ZcK bs (p+1+out.length) (((out.length+1:Nat):Int)) (by omega);obtain⟨a,ha⟩:∃ a:Nat,Vt bs (p+1+out.length) (((out.length+1:Nat):Int))=(a:Int):=⟨(Vt bs (p+1+out.length) (((out.length+1:Nat):Int))).toNat,by omega⟩
   rw[ha] at e2 q1;have e3:=ZfR (out.drop a) (by rw[KM];omega);have ag:a≤out.length:=by omega
   have ab : (a:Int)≤(out.length:Int):=by omega
   have ah:(out.drop a).length=out.length-a:=KM;have ai:(out.drop a).take (out.length-a)=out.drop a:=La (by omega);have ad:(out.take a).length=a:=by rw[KQ];omega
   have r1:(a+1)*8≤140737488355328∧a≤140737488355327:=by omega
   have r2:(a+1+(out.drop a).length)*8≤140737488355328∧a+1+(out.drop a).length≤140737488355328:=by omega
   have e5:(out.take a).map Zs++[D.int .i64 (out.length:Int)]++(out.drop a).map Zs=(out.take a++[(out.length:Int)]++out.drop a).map Zs:=by rw[K3,K3];rfl
   have e6:(out.take a++[(out.length:Int)]++out.drop a).length=out.length+1:=by simp only[Ko,ad,ah,Kv,Lm];omega
   simp +contextual -implicitDefEqProofs (maxSteps:=10^7) only[go_sem,seval,↓gZ,ae,aa,af,e2,ag,ab,ai,e3,hw,LF,ad,r1,r2,e5];refine ih (k-1,out.take a++[(out.length:Int)]++out.drop a,p+1+out.length+1) _ ⟨by simp only[e6];omega,by simp only[e6];omega⟩ (by simp only;omega) ?_;simp +contextual -implicitDefEqProofs (maxSteps:=10^7) only[go_sem,seval,↓gZ,e5]
  ·have:k=0:=by omega
   subst this;simp +contextual -implicitDefEqProofs (maxSteps:=10^7) only[go_sem,seval,↓gZ];exact⟨out,p+1+out.length,by omega,by omega,rfl⟩
 obtain⟨q,h1,out,p',h2,h3,rfl⟩:=hQ;exact⟨out,p',h2,h3,h1⟩
theorem ZhP (bs:List UInt8) (hb:bs.length≤2000) (p:Nat) (hp:p<900000000):∃ (out:List Int) (p' : Nat),out.length≤14 ∧
  Zu Xs Ms VM [.ptr 0 0] [.box [.d (.sl (bs.map VS)),(.d (J p))]]=some (.own 1,[.box [.d (.sl (bs.map VS)),(.d (J (p')))],.row 1 (out.map Zs) true false]):=by
 obtain⟨out,p',h1,h2,e1⟩:=ZfS bs hb p hp;by_cases hl:0<out.length
 ·have aa : (0:Int)<(out.length:Int):=by omega
  have e2:=Zas bs p' 12 hb (by omega);generalize Vt bs p' 12=c at e2;by_cases c0:c=0
  ·have e3:=Zas bs (p'+1) (out.length:Int) hb (by omega);have q0:=Ud bs (p'+1) (out.length:Int);have q1:=ZcK bs (p'+1) (out.length:Int) (by omega);obtain⟨j,hj⟩:∃ j:Nat,Vt bs (p'+1) (out.length:Int)=(j:Int):=⟨(Vt bs (p'+1) (out.length:Int)).toNat,by omega⟩
   rw[hj] at e3 q1;obtain⟨v,hv,e4⟩:=Zi6 bs (p'+1+1) [0,-1,24] hb (by omega) (by simp);simp only[Ky,LH,Zs] at e4;have ab:j<out.length:=by omega
   obtain⟨x,hx⟩:=ZW ab;have e5:(out.map Zs).set j (J v)=(out.set j v).map Zs:=by rw[LZ];rfl
   refine⟨out.set j v,p'+1+1+1,by simpa using h2,?_⟩;refine cE ?_;simp +contextual -implicitDefEqProofs (maxSteps:=10^7) only[go_sem,seval,↓gZ,VQ,e1,hl,aa,e2,c0,e3,e4,ab,hx,Lg,e5]
  ·refine⟨out,p'+1,h2,?_⟩;refine cE ?_;simp +contextual -implicitDefEqProofs (maxSteps:=10^7) only[go_sem,seval,↓gZ,VQ,e1,hl,aa,e2,c0]
 ·have aa : ¬(0:Int)<(out.length:Int):=by omega
  refine⟨out,p',h2,?_⟩;refine cE ?_;simp +contextual -implicitDefEqProofs (maxSteps:=10^7) only[go_sem,seval,↓gZ,VQ,e1,hl,aa]
theorem Zbf (aa:List UInt8):∃ out:List Int,out.length≤14∧Zu Xs Ms Q5 [.d (.sl (aa.map VS))] []=some (.own 0,[.row 1 (out.map Zs) true false]):=by
 have e1:=Zfm aa;obtain⟨out,p',h1,e2⟩:=ZhP (aa.take 2000) (by simp;omega) 0 (by omega);rw[Int.natCast_zero] at e2;refine⟨out,h1,?_⟩;refine cE ?_;simp +contextual -implicitDefEqProofs (maxSteps:=10^7) only[go_sem,seval,↓gZ,Y9,e1,e2]
theorem Zki {l:List Int} {room:Nat} (ho:QT l) (h1:inO (psL room [] [] l)=true) (h2:∀ r,r<room→inO (psL r [] [] l)=false):room=0↔prs dnP l l.length=0:=by
 have h0:=ZkZ l [];rw[KW] at h0;constructor
 ·intro h;rw[h,h0] at h1;refine Znh ?_;have hl:=Zkf.1 h1;rw[hl];exact(WE _).imp fun h=>Kr (by omega)
 ·intro h;have hs:l.Pairwise (· ≤ ·):=(Zng h).imp fun h=>by have:=of_decide_eq_false h;omega
  have hl:=Zkd ho.2 hs;rcases K8 room with hr | hr
  ·exact hr
  ·have:=h2 0 hr;rw[h0,hl,ZhH] at this;cases this
theorem Ja (aa:List UInt8):Zu Xs Ms QU [.d (.sl (aa.map VS))] []=some ((.d (.bool true)),[]):=by
 by_cases hc:aa.length≤1048576
 ·have ab : ¬(1048576:Int)<(aa.length:Int):=by omega
  obtain⟨l,hl,e1⟩:=Zbf aa;have e2:=Zfq l (by omega);have e3:=Zfs l (by omega);have e5:=QA l (by omega);by_cases ho:QT l
  ·rw[Kw ho] at e2 e3;rw[Ku ho] at e5;have aj:=Zb8 l [];have e4:=WF (stT [] l) (stT [] l) (by omega);rw[Ku rfl] at e4;have e6:=Zdz l ho;obtain⟨room,h1,h2,h3,e7⟩:=Zfu l ho;have e8:=ZhM l ho;have e9:=Ji l room ho (by have:=ho.1;omega);have ad:=(ZdQ room l [] []).length_eq;simp only[KW] at ad;have ag:psL room [] [] l=rng l.length:=by rw[Zkf.1 h2,ad]
   rw[ag] at e9;have ae:=WF (rng l.length) (rng l.length) (by rw[Zaq];omega);rw[Ku rfl] at ae;have ah:=ZfP l ho;obtain⟨m,h4,ai⟩:=Zft l ho;have af:=Zki ho h2 h3;have hr:(l.length:Int)*8≤140737488355328∧(l.length:Int)≤140737488355328:=by omega
   have h0:¬(l.length:Int)<0:=by omega
   have b1:decide ((room:Int)=0)=decide (((prs dnP l l.length:Nat):Int)=0):=by
    by_cases h:room=0
    ·have:=af.1 h;rw[Ku (by omega),Ku (by omega)]
    ·have:¬prs dnP l l.length=0:=fun e=>h (af.2 e);rw[Kr (by omega),Kr (by omega)]
   have b2:decide ((m:Int)≤1)=decide (((prs upP l l.length:Nat):Int)=0):=by
    by_cases h:m≤1
    ·have:=h4.1 h;rw[Ku (by omega),Ku (by omega)]
    ·have:¬prs upP l l.length=0:=fun e=>h (h4.2 e);rw[Kr (by omega),Kr (by omega)]
   have bE:∀ a:Bool,ZeC .eql true (AV.d (.bool a)) (.d (.bool a))=Z7 (.d (.bool true)):=fun a=>by cases a<;>rfl
   generalize prs upP l l.length=u at *;generalize prs dnP l l.length=d at *;refine cE ?_;simp +contextual -implicitDefEqProofs (maxSteps:=10^7) only[go_sem,seval,↓gZ,Qt,ab,e1,e2,e3,e4,e5,e6,e7,e8,e9,ae,ah,ai,hr,h0,b1,b2,bE]
  ·rw[Kn ho] at e2 e3;rw[Kr ho] at e5;have e4:=WF [] [] (by simp);rw[Ku rfl] at e4;simp only[LH] at e2 e3 e4;refine cE ?_;simp +contextual -implicitDefEqProofs (maxSteps:=10^7) only[go_sem,seval,↓gZ,Qt,ab,e1,e2,e3,e4,e5]
 ·have ab : (1048576:Int)<(aa.length:Int):=by omega
  refine cE ?_;simp +contextual -implicitDefEqProofs (maxSteps:=10^7) only[go_sem,seval,↓gZ,Qt,ab]
end Go.Proofs.Ytighjmleicikhaa
