/- Own text. -/
import Derived.Test.YthgciclhiaoecaaGreatACode
import Derived.Test.YthgciclhiaoecaaGreatAbsParts
import Derived.Test.YthgciclhiaoecaaGreatAC19
import Derived.Test.YthgciclhiaoecaaGreatAbsOkD
namespace Go.Proofs.YthgciclhiaoecaaGreat
open Go Go.Abs Go.Abs.E Go.Abs.L
open Nat (reduceMul reduceSub reduceLeDiff reduceEqDiff)
open Int (reduceLE reduceEq reduceToNat reduceNeg)
set_option linter.unusedSimpArgs false
set_option linter.unusedVariables false
set_option maxRecDepth 20000
set_option maxHeartbeats 4000000
def J8:Nat→Zq→Zq×List Zz
 | 0,s=>(s,[])
 | n+1,s=>match WZ s with
  | some e=>(match Ye s e with
   | some u=>((J8 n u).1,e :: (J8 n u).2)
   | none=>(s,[]))
  | none=>(s,[])
theorem Zit {n:Nat} {s u:Zq} {e:Zz} (h1:WZ s=some e) (h2:Ye s e=some u):J8 (n+1) s=((J8 n u).1,e :: (J8 n u).2):=by
 rw[J8,h1];simp only[h2]
theorem Ziu {n:Nat} {s:Zq} (h1:WZ s=none):J8 n s=(s,[]):=by
 cases n with
 | zero=>rfl
 | succ n=>rw[J8,h1]
theorem Zlj {s:Zq} {e:Zz} (hv:ZF s) (h:WZ s=some e):∃ u,Ye s e=some u∧ZF u∧∃ B:BT,e.plan=B.plan:=by
 obtain⟨u,n,j,x,q,t,b,F⟩:=ZnW hv h;exact⟨u,F.ap,Zqk F.ap,Qs n t b.X b.Y b.W b.H 0 0 q.W q.H,by rw[F.fe];rfl⟩
theorem ZvB:∀ {n:Nat} {s:Zq},ZF s→ZF (J8 n s).1∧(∀ e∈(J8 n s).2,∃ B:BT,e.plan=B.plan)∧(J8 n s).2.length≤n
 | 0,s,hv=>⟨hv,by simp[J8],by simp[J8]⟩
 | n+1,s,hv=>by
  cases h:WZ s with
  | none=>rw[Ziu h];exact⟨hv,by simp,by simp⟩
  | some e=>
   obtain⟨u,h1,h2,h3⟩:=Zlj hv h;rw[Zit h h1];obtain⟨g1,g2,g3⟩:=ZvB (n:=n) h2;refine⟨g1,fun x hx=>?_,by simp only[Kq];omega⟩;rcases Kf.1 hx with rfl | hx
   ·exact h3
   ·exact g2 x hx
def wtV (r:Zq×List Zz):AV×List Zn:=(.tup [.agg [.own 0,.own 1,.own 2,(.d (J (r.1.Lost))),(.d (J (r.1.Came)))],.own 3],[.row 4 (r.1.Stock.map Zb.enc) true false,.row 5 (r.1.Opn.map Zc.enc) true false,.row 5 (r.1.Done.map Zc.enc) true false,.row 16 (r.2.map Zz.enc) true false])
def wtT (r:Zq×List Zz):AV×List Zn:=(.tup [.agg [.own 0,.own 1,.own 2,(.d (J (r.1.Lost))),(.d (J (r.1.Came)))],.own 3],[.tree 4 4 (r.1.Stock.map Zb.enc) none,.row 5 (r.1.Opn.map Zc.enc) true false,.row 5 (r.1.Done.map Zc.enc) true false,.tree 16 5 (r.2.map Zz.enc) none])
theorem Zlk (sS:List Zb) (sO sD:List Zc) (sL sC:Int) (m:Int) (h:¬(ZF (Zq.mk sS sO sD sL sC)∧0≤m∧m≤40)):Zd Xs Ms XP [(.d (.agg [.sl (sS.map Zb.enc),.sl (sO.map Zc.enc),.sl (sD.map Zc.enc),J sL,J sC])),(.d (J m))] []=some (wtV (⟨[],[],[],0,0⟩,[])):=by
 have e1:=ZN sS sO sD sL sC;unfold wtV;by_cases hv:ZF (Zq.mk sS sO sD sL sC)
 ·rw[Kh hv] at e1;by_cases h1:m<0
  ·refine cE ?_;simp +contextual -implicitDefEqProofs (maxSteps:=10^7) only[go_sem,seval,↓gZ,Ys,e1,h1]
  ·have h2:(40:Int)<m:=by
    rcases Int.lt_or_le 40 m with h2 | h2
    ·exact h2
    ·exact absurd ⟨hv,by omega,h2⟩ h
   refine cE ?_;simp +contextual -implicitDefEqProofs (maxSteps:=10^7) only[go_sem,seval,↓gZ,Ys,e1,h1,h2]
 ·rw[Ki hv] at e1;refine cE ?_;simp +contextual -implicitDefEqProofs (maxSteps:=10^7) only[go_sem,seval,↓gZ,Ys,e1]
theorem ZmX (sS:List Zb) (sO sD:List Zc) (sL sC:Int) (m:Nat) (hv:ZF (Zq.mk sS sO sD sL sC)) (hm:m≤40):Zd Xs Ms XP [(.d (.agg [.sl (sS.map Zb.enc),.sl (sO.map Zc.enc),.sl (sD.map Zc.enc),J sL,J sC])),(.d (J ((m:Int))))] []=some (wtT (J8 m (Zq.mk sS sO sD sL sC))):=by
 have e1:=ZN sS sO sD sL sC;rw[Kh hv] at e1;have e2:=YF sS sO sD sL sC (Ub hv);have h1:¬(m:Int)<0:=by omega
 have h2:¬(40:Int)<(m:Int):=by omega
 refine cE ?_;simp +contextual -implicitDefEqProofs (maxSteps:=10^7) only[go_sem,seval,↓gZ,Ys,e1,e2,h1,h2];refine LO (α:=Zq×List Zz) (fun _=>[]) (fun s=>[(0,.tree 16 5 (s.2.map Zz.enc) none),(1,.box [.own 3,.own 4,.own 5,(.d (J (s.1.Lost))),(.d (J (s.1.Came)))]),(3,.tree 4 4 (s.1.Stock.map Zb.enc) none),(4,.row 5 (s.1.Opn.map Zc.enc) true false),(5,.row 5 (s.1.Done.map Zc.enc) true false)]) (fun s=>ZF s.1∧s.2.length≤m∧(J8 m (Zq.mk sS sO sD sL sC)).1=(J8 (m-s.2.length) s.1).1∧(J8 m (Zq.mk sS sO sD sL sC)).2=s.2++(J8 (m-s.2.length) s.1).2) (fun s=>m-s.2.length) ((Zq.mk sS sO sD sL sC),[]) ⟨hv,by simp,by simp,by simp⟩ ?_
 intro⟨⟨S,O,D,L,C⟩,l⟩ ⟨hv,hl,hp,hq⟩ ih;simp only at hv hl hp hq;by_cases ab:l.length<m
 ·obtain⟨k,hk⟩:∃ k,m-l.length=k+1:=⟨m-l.length-1,by omega⟩
  rw[hk] at hp hq;have en:=Zld S O D L C hv;have hr:(l.length+1)*144≤140737488355328∧l.length≤140737488355327:=by omega
  cases hn:WZ ⟨S,O,D,L,C⟩ with
  | none=>
   rw[Ziu hn] at hp hq;rw[hn] at en;unfold nxT at en;unfold wtT;rw[hp,hq];simp +contextual -implicitDefEqProofs (maxSteps:=10^7) only[go_sem,seval,↓gZ,ab,en,KE]
  | some e=>
   obtain⟨u,ad,hu,_⟩:=Zlj hv hn;rw[Zit hn ad] at hp hq;rw[hn] at en;obtain⟨K,Lb,⟨X,Y,W,H⟩,⟨⟨pW,pH,pT,pK⟩,Ct⟩,⟨o,a,q,t,ks⟩⟩:=e;have ea:=Zbi S O D L C K Lb X Y W H pW pH pT pK Ct o a q t ks;rw[Kj hv,ad] at ea;obtain⟨S',O',D',L',C'⟩:=u;unfold shT at ea;unfold nxT at en;simp only at ea en;have aa:m-(l++[(⟨K,Lb,⟨X,Y,W,H⟩,⟨⟨pW,pH,pT,pK⟩,Ct⟩,.mk o a q t ks⟩:Zz)]).length=k:=by simp;omega
   cases ks with
   | nil=>
    simp only[plO,KM] at en ea;simp +contextual -implicitDefEqProofs (maxSteps:=10^7) only[go_sem,seval,↓gZ,ab,en,ea,hr];refine ih (⟨S',O',D',L',C'⟩,l++[⟨K,Lb,⟨X,Y,W,H⟩,⟨⟨pW,pH,pT,pK⟩,Ct⟩,.mk o a q t []⟩]) _ ⟨hu,by simp;omega,by simp only[aa];exact hp,by simp only[aa];rw[hq];simp⟩ (by simp;omega) ?_;simp +contextual -implicitDefEqProofs (maxSteps:=10^7) only[go_sem,seval,↓gZ,KU]
   | cons k1 kr=>
    simp only[plO,Ko] at en ea;simp +contextual -implicitDefEqProofs (maxSteps:=10^7) only[go_sem,seval,↓gZ,ab,en,ea,hr];refine ih (⟨S',O',D',L',C'⟩,l++[⟨K,Lb,⟨X,Y,W,H⟩,⟨⟨pW,pH,pT,pK⟩,Ct⟩,.mk o a q t (k1 :: kr)⟩]) _ ⟨hu,by simp;omega,by simp only[aa];exact hp,by simp only[aa];rw[hq];simp⟩ (by simp;omega) ?_;simp +contextual -implicitDefEqProofs (maxSteps:=10^7) only[go_sem,seval,↓gZ,KU]
 ·have:m-l.length=0:=by omega
  rw[this] at hp hq;simp only[J8,KE] at hp hq;unfold wtT;rw[hp,hq];simp +contextual -implicitDefEqProofs (maxSteps:=10^7) only[go_sem,seval,↓gZ,ab]
theorem Zll (sS:List Zb) (sO sD:List Zc) (sL sC:Int) (m:Int) (hs:Zcc (Zq.mk sS sO sD sL sC)) (h:¬(ZF (Zq.mk sS sO sD sL sC)∧0≤m∧m≤40)):Zd Xs Ms Yp [(.d (.agg [.sl (sS.map Zb.enc),.sl (sO.map Zc.enc),.sl (sD.map Zc.enc),J sL,J sC])),(.d (J m))] []=some (wtV (⟨[],[],[],0,0⟩,[])):=by
 have e1:=Jh sS sO sD sL sC hs;have e2:=ZJ m 0 40;unfold wtV;by_cases hv:ZF (Zq.mk sS sO sD sL sC)
 ·rw[Kh hv] at e1;have hr:¬(0≤m∧m≤40):=fun hr=>h ⟨hv,hr⟩;rw[Ki hr] at e2;refine cE ?_;simp +contextual -implicitDefEqProofs (maxSteps:=10^7) only[go_sem,seval,↓gZ,Vy,e1,e2]
 ·rw[Ki hv] at e1;refine cE ?_;simp +contextual -implicitDefEqProofs (maxSteps:=10^7) only[go_sem,seval,↓gZ,Vy,e1]
theorem ZmY (sS:List Zb) (sO sD:List Zc) (sL sC:Int) (m:Nat) (hv:ZF (Zq.mk sS sO sD sL sC)) (hm:m≤40):Zd Xs Ms Yp [(.d (.agg [.sl (sS.map Zb.enc),.sl (sO.map Zc.enc),.sl (sD.map Zc.enc),J sL,J sC])),(.d (J ((m:Int))))] []=some (wtV (J8 m (Zq.mk sS sO sD sL sC))):=by
 have e1:=Jh sS sO sD sL sC (Ub hv);rw[Kh hv] at e1;have e2:=Zjb sS sO sD sL sC (Ub hv);have e3:=ZJ (m:Int) 0 40;rw[Kh (by omega)] at e3;refine cE ?_;simp +contextual -implicitDefEqProofs (maxSteps:=10^7) only[go_sem,seval,↓gZ,Vy,e1,e2,e3];refine LO (α:=Zq×List Zz) (fun _=>[]) (fun s=>[(0,.row 16 (s.2.map Zz.enc) true false),(2,.box [.own 6,.own 7,.own 8,(.d (J (s.1.Lost))),(.d (J (s.1.Came)))]),(6,.row 4 (s.1.Stock.map Zb.enc) true false),(7,.row 5 (s.1.Opn.map Zc.enc) true false),(8,.row 5 (s.1.Done.map Zc.enc) true false)]) (fun s=>ZF s.1∧s.2.length≤m∧(J8 m (Zq.mk sS sO sD sL sC)).1=(J8 (m-s.2.length) s.1).1∧(J8 m (Zq.mk sS sO sD sL sC)).2=s.2++(J8 (m-s.2.length) s.1).2) (fun s=>m-s.2.length) ((Zq.mk sS sO sD sL sC),[]) ⟨hv,by simp,by simp,by simp⟩ ?_
 intro⟨⟨S,O,D,L,C⟩,l⟩ ⟨hv,hl,hp,hq⟩ ih;simp only at hv hl hp hq;by_cases aa:l.length<m
 ·obtain⟨k,hk⟩:∃ k,m-l.length=k+1:=⟨m-l.length-1,by omega⟩
  rw[hk] at hp hq;have en:=Zls S O D L C (Zur hv);have hr:(l.length+1)*144≤140737488355328∧l.length≤140737488355327:=by omega
  cases hn:WZ ⟨S,O,D,L,C⟩ with
  | none=>
   rw[Ziu hn] at hp hq;rw[hn] at en;unfold nxV at en;unfold wtV;rw[hp,hq];simp +contextual -implicitDefEqProofs (maxSteps:=10^7) only[go_sem,seval,↓gZ,aa,en,KE]
  | some e=>
   obtain⟨u,ab,hu,_⟩:=Zlj hv hn;have ad:e.kind=3:=ZgW hn;rw[Zit hn ab] at hp hq;rw[hn] at en;obtain⟨K,Lb,⟨X,Y,W,H⟩,⟨⟨pW,pH,pT,pK⟩,Ct⟩,⟨o,a,q,t,ks⟩⟩:=e;simp only at ad;have ea:=Zaq S O D L C K Lb X Y W H pW pH pT pK Ct o a q t ks (Zur hv) ad;rw[ab] at ea;obtain⟨S',O',D',L',C'⟩:=u;unfold shV at ea;unfold nxV at en;simp only at ea en;simp +contextual -implicitDefEqProofs (maxSteps:=10^7) only[go_sem,seval,↓gZ,aa,en,ea,hr];refine ih (⟨S',O',D',L',C'⟩,l++[⟨K,Lb,⟨X,Y,W,H⟩,⟨⟨pW,pH,pT,pK⟩,Ct⟩,.mk o a q t ks⟩]) _ ⟨hu,by simp;omega,?_,?_⟩ (by simp;omega) ?_
   ·have:m-(l++[(⟨K,Lb,⟨X,Y,W,H⟩,⟨⟨pW,pH,pT,pK⟩,Ct⟩,.mk o a q t ks⟩:Zz)]).length=k:=by simp;omega
    simp only[this];exact hp
   ·have:m-(l++[(⟨K,Lb,⟨X,Y,W,H⟩,⟨⟨pW,pH,pT,pK⟩,Ct⟩,.mk o a q t ks⟩:Zz)]).length=k:=by simp;omega
    simp only[this];rw[hq];simp
   ·simp +contextual -implicitDefEqProofs (maxSteps:=10^7) only[go_sem,seval,↓gZ,KU]
 ·have:m-l.length=0:=by omega
  rw[this] at hp hq;simp only[J8,KE] at hp hq;unfold wtV;rw[hp,hq];simp +contextual -implicitDefEqProofs (maxSteps:=10^7) only[go_sem,seval,↓gZ,aa]
theorem Zyr:∀ {n:Nat} {s:Zq},ZF s→∀ e∈(J8 n s).2,Zlc e≤255
 | 0,s,hv=>by simp[J8]
 | n+1,s,hv=>by
  cases h:WZ s with
  | none=>rw[Ziu h];simp
  | some e=>
   obtain⟨u,h1,h2,h3⟩:=Zlj hv h;rw[Zit h h1];intro x hx;rcases Kf.1 hx with rfl | hx
   ·exact Zvy hv h
   ·exact Zyr h2 x hx
theorem ZmZ (k:Int):Zd Xs Ms Z1 [.own 0,(.d (J k))] [.row 16 [] true false]=some ((.d (J k)),[.row 16 [] true false]):=by
 refine cE ?_;simp +contextual -implicitDefEqProofs (maxSteps:=10^7) only[go_sem,seval,↓gZ,JI];refine LO (α:=Unit) (fun _=>[]) (fun _=>[]) (fun _=>True) (fun _=>0) () trivial ?_;intro _ _ _;simp +contextual -implicitDefEqProofs (maxSteps:=10^7) only[go_sem,seval,↓gZ]
theorem Zek (s:Zq) (mo:Int) (ho:s.ok):Zd Xs Ms Q4 [.d s.enc,(.d (J mo))] []=some ((.d (.bool true)),[]):=by
 have ag:=ok_Sm ho;obtain⟨S,O,D,L,C⟩:=s;obtain⟨⟨h1,ah⟩,⟨h2,_⟩,⟨h3,_⟩,_,_⟩:=ho;simp only at h1 ah h2 h3 ag;have e1:=ZnT S O D L C h1 (fun p hp=>(ah p hp).2.2.2.1) h2 h3 1048576 (by decide) (by decide);by_cases hs:((ZiX S O D:Nat):Int)≤1048576
 ·rw[Jd hs] at e1;have ab : ZiX S O D≤1048576:=by omega
  have ai:¬(1048576:Int)-((ZiX S O D:Nat):Int)<0:=by omega
  have ad:=ag ab;have ak:=Zir S;have aj:∀ p∈S,Zbj p≤1048576:=fun p hp=>by have:=Zis (f:=Zbj) hp;unfold ZiX at ab;omega
  have ae : ∀ p∈S,Zbj p≤1099511627776:=fun p hp=>by have:=aj p hp;omega
  have hl:S.length≤1048576∧O.length≤1048576∧D.length≤1048576∧Zs Zbj S≤1048576:=by unfold ZiX at ab;omega
  have e2:=ZnU S O D L C hl.1 aj hl.2.1 hl.2.2.1;have e5:=ZaM S O D L C (by omega) ae (by omega) (by omega);have e6:=ZdE S O D L C (by omega) (by omega) (by omega) (by omega) 1 (by decide) (by decide);have hm:¬(1:Int)+(Zs pcN S:Nat)+((5*O.length:Nat):Int)+((5*D.length:Nat):Int)<0:=by omega
  generalize (1:Int)+(Zs pcN S:Nat)+((5*O.length:Nat):Int)+((5*D.length:Nat):Int)=mk at e6 hm;generalize ZiX S O D=sz at *;by_cases af:ZF ⟨S,O,D,L,C⟩∧0≤mo∧mo≤40
  ·obtain⟨hv,al,am⟩:=af;obtain⟨m,rfl⟩:∃ m:Nat,mo=(m:Int):=⟨mo.toNat,by omega⟩
   have e3:=ZmY S O D L C m hv (by omega);have e4:=ZmX S O D L C m hv (by omega);obtain⟨hu,_,hn⟩:=ZvB (n:=m) hv;have aa:=Zyr (n:=m) hv;obtain⟨r1,r2,r3,r4⟩:=Zvu hu;generalize J8 m ⟨S,O,D,L,C⟩=w at e3 e4 hu hn aa r1 r2 r3 r4;obtain⟨⟨uS,uO,uD,uL,uC⟩,R⟩:=w;simp only at r1 r2 r3 r4;unfold wtV at e3;unfold wtT at e4;simp only at e3 e4 hn aa;have b1:=ZpX r2;have b2:=Zir uS;have hb:Zs evN R≤1035*R.length:=ZpX fun e he=>by have:=aa e he;unfold evN;omega
   have q3:=ZaM uS uO uD uL uC (by omega) (fun x hx=>by have:=r2 x hx;omega) (by omega) (by omega);have q4:=Zf4 R (by omega) fun e he=>by have:=aa e he;omega
   have m3:=ZdE uS uO uD uL uC (by omega) (by omega) (by omega) (by omega) 1 (by decide) (by decide);have h3:=Zi6 uS uO.length uD.length uL uC (by omega) (by omega) (by omega) (by omega) 1 (by decide) (by decide);have y3:¬(1:Int)+(Zs pcN uS:Nat)+((5*uO.length:Nat):Int)+((5*uD.length:Nat):Int)<0:=by omega
   have m4:=Zpl R (by omega) (by omega) (fun e he=>by have:=aa e he;omega) ((1:Int)+(Zs pcN uS:Nat)+((5*uO.length:Nat):Int)+((5*uD.length:Nat):Int)) (by omega) (by omega);have h4:=Zf6 R (by omega) (by omega) (fun e he=>by have:=aa e he;omega) ((1:Int)+(Zs pcN uS:Nat)+((5*uO.length:Nat):Int)+((5*uD.length:Nat):Int)) (by omega) (by omega);have y4:¬(1:Int)+(Zs pcN uS:Nat)+((5*uO.length:Nat):Int)+((5*uD.length:Nat):Int)+(Zs evN R:Nat)<0:=by omega
   generalize (1:Int)+(Zs pcN uS:Nat)=g3 at *;generalize mks VU 5 uD.length (g3+((5*uO.length:Nat):Int))=D2 at *;generalize g3+((5*uO.length:Nat):Int)+((5*uD.length:Nat):Int)=g4 at *;generalize mks VU 5 uO.length g3=O2 at *;generalize ZsR uS 1=S2 at *;generalize g4+(Zs evN R:Nat)=g5 at *;generalize Zyq R g4=R2 at *;refine cE ?_;simp +contextual -implicitDefEqProofs (maxSteps:=10^7) only[go_sem,seval,↓gZ,Q8,e1,ai,e2,e3,e4,e5,e6,hm,q3,q4,m3,y3,m4,h3,h4,y4,bNe,bne_self_eq_false]
  ·have e3:=Zll S O D L C mo ad af;have e4:=Zlk S O D L C mo af;unfold wtV at e3 e4;have q3:=ZaM [] [] [] 0 0 (by simp) (fun x hx=>by cases hx) (by simp) (by simp);have q4:=Zf4 [] (by simp) (fun x hx=>by cases hx);have m3:=Zp2 [] [] 0 0 1 (by simp) (by simp) (by decide) (by decide);have m4:=ZmZ 1;have h3:=Zi6 [] 0 0 0 0 (by decide) (by decide) (by decide) (by decide) 1 (by decide) (by decide);have h4:=Zf6 [] (by decide) (by decide) (fun x hx=>by cases hx) 1 (by decide) (by decide);simp only[KM,Ln,Zs,ZsR,Zyq,Zc9,mks,Kas,K0,Ls] at h3 h4 q3 q4 m3 e3 e4
   refine cE ?_;simp +contextual -implicitDefEqProofs (maxSteps:=10^7) only[go_sem,seval,↓gZ,Q8,e1,ai,e2,e3,e4,e5,e6,hm,q3,q4,m3,m4,h3,h4,bNe,bne_self_eq_false]
 ·rw[Je hs] at e1;refine cE ?_;simp +contextual -implicitDefEqProofs (maxSteps:=10^7) only[go_sem,seval,↓gZ,Q8,e1]
end Go.Proofs.YthgciclhiaoecaaGreat
