/- Own text. -/
import Derived.Test.YtbpekaejmjlmfaaGreatACode
import Derived.Test.YtbpekaejmjlmfaaGreatAbsParts
import Derived.Test.YtbpekaejmjlmfaaGreatAC15
import Derived.Test.YtbpekaejmjlmfaaGreatAC1
namespace Go.Proofs.YtbpekaejmjlmfaaGreat
open Go Go.Abs Go.Abs.E Go.Abs.L
open Nat (reduceMul reduceSub reduceLeDiff reduceEqDiff)
open Int (reduceLE reduceEq reduceToNat reduceNeg)
set_option linter.unusedSimpArgs false
set_option linter.unusedVariables false
set_option maxRecDepth 20000
set_option maxHeartbeats 4000000
def U6:Nat→Zm→Zm×List Zx
 | 0,s=>(s,[])
 | n+1,s=>match Vp s with
  | some e=>(match QE s e with
   | some u=>((U6 n u).1,e :: (U6 n u).2)
   | none=>(s,[]))
  | none=>(s,[])
theorem Ze7 {n:Nat} {s u:Zm} {e:Zx} (h1:Vp s=some e) (h2:QE s e=some u):U6 (n+1) s=((U6 n u).1,e :: (U6 n u).2):=by
 rw[U6,h1];simp only[h2]
theorem Ze8 {n:Nat} {s:Zm} (h1:Vp s=none):U6 n s=(s,[]):=by
 cases n with
 | zero=>rfl
 | succ n=>rw[U6,h1]
theorem Zg4 {s:Zm} {e:Zx} (hv:ZE s) (h:Vp s=some e):∃ u,QE s e=some u∧ZE u∧∃ B:BT,e.plan=B.plan:=by
 obtain⟨u,n,j,x,q,t,b,F⟩:=ZmD hv h;exact⟨u,F.ap,Zjw F.ap,Qx n t b.X b.Y b.W b.H 0 0 q.W q.H,by rw[F.fe];rfl⟩
theorem Zvy:∀ {n:Nat} {s:Zm},ZE s→ZE (U6 n s).1∧(∀ e∈(U6 n s).2,∃ B:BT,e.plan=B.plan)∧(U6 n s).2.length≤n
 | 0,s,hv=>⟨hv,by simp[U6],by simp[U6]⟩
 | n+1,s,hv=>by
  cases h:Vp s with
  | none=>rw[Ze8 h];exact⟨hv,by simp,by simp⟩
  | some e=>
   obtain⟨u,h1,h2,h3⟩:=Zg4 hv h;rw[Ze7 h h1];obtain⟨g1,g2,g3⟩:=Zvy (n:=n) h2;refine⟨g1,fun x hx=>?_,by simp only[Km];omega⟩;rcases Kg.1 hx with rfl | hx
   ·exact h3
   ·exact g2 x hx
theorem ZzG {n:Nat} {s o:Zm} {e:Zx} {l:List Zx} (hv:ZE s) (h:U6 n s=(o,e :: l)):∃ m u,n=m+1∧Vp s=some e∧QE s e=some u∧ZE u∧U6 m u=(o,l):=by
 cases n with
 | zero=>simp[U6] at h
 | succ n=>
  cases hn:Vp s with
  | none=>rw[Ze8 hn] at h;simp at h
  | some e' =>
   obtain⟨u,h1,h2,_⟩:=Zg4 hv hn;rw[Ze7 hn h1] at h;simp only[Prod.mk.injEq,List.cons.injEq] at h;obtain⟨h3,rfl,h4⟩:=h;exact⟨n,u,rfl,rfl,h1,h2,Prod.ext h3 h4⟩
theorem ZA0 {n:Nat} {s o:Zm} (hv:ZE s) (h:U6 n s=(o,[])):s=o∧(n=0∨Vp s=none):=by
 cases n with
 | zero=>simp[U6] at h;exact⟨h,.inl rfl⟩
 | succ n=>
  cases hn:Vp s with
  | none=>rw[Ze8 hn] at h;simp at h;exact⟨h,.inr rfl⟩
  | some e' =>
   obtain⟨u,h1,h2,_⟩:=Zg4 hv hn;rw[Ze7 hn h1] at h;simp at h
def wtV (r:Zm×List Zx):AV×List Zn:=(.tup [.agg [.own 0,.own 1,.own 2,(.d (J (r.1.Lost))),(.d (J (r.1.Came)))],.own 3],[.row 4 (r.1.Stock.map Zb.enc) true false,.row 5 (r.1.Opn.map Zc.enc) true false,.row 5 (r.1.Done.map Zc.enc) true false,.row 16 (r.2.map Zx.enc) true false])
def wtT (r:Zm×List Zx):AV×List Zn:=(.tup [.agg [.own 0,.own 1,.own 2,(.d (J (r.1.Lost))),(.d (J (r.1.Came)))],.own 3],[.tree 4 4 (r.1.Stock.map Zb.enc) none,.row 5 (r.1.Opn.map Zc.enc) true false,.row 5 (r.1.Done.map Zc.enc) true false,.tree 16 5 (r.2.map Zx.enc) none])
theorem Zkc (sS:List Zb) (sO sD:List Zc) (sL sC:Int) (m:Int) (h:¬(ZE (Zm.mk sS sO sD sL sC)∧0≤m∧m≤40)):Zd Xs Ms YJ [(.d (.agg [.sl (sS.map Zb.enc),.sl (sO.map Zc.enc),.sl (sD.map Zc.enc),J sL,J sC])),(.d (J m))] []=some (wtV (⟨[],[],[],0,0⟩,[])):=by
 have e1:=ZZ sS sO sD sL sC;unfold wtV;by_cases hv:ZE (Zm.mk sS sO sD sL sC)
 ·rw[Ke hv] at e1;by_cases h1:m<0
  ·refine cE ?_;simp +contextual -implicitDefEqProofs (maxSteps:=10^7) only[go_sem,seval,↓gZ,YP,e1,h1]
  ·have h2:(40:Int)<m:=by
    rcases Int.lt_or_le 40 m with h2 | h2
    ·exact h2
    ·exact absurd ⟨hv,by omega,h2⟩ h
   refine cE ?_;simp +contextual -implicitDefEqProofs (maxSteps:=10^7) only[go_sem,seval,↓gZ,YP,e1,h1,h2]
 ·rw[Kh hv] at e1;refine cE ?_;simp +contextual -implicitDefEqProofs (maxSteps:=10^7) only[go_sem,seval,↓gZ,YP,e1]
theorem Zlu (sS:List Zb) (sO sD:List Zc) (sL sC:Int) (m:Nat) (hv:ZE (Zm.mk sS sO sD sL sC)) (hm:m≤40):Zd Xs Ms YJ [(.d (.agg [.sl (sS.map Zb.enc),.sl (sO.map Zc.enc),.sl (sD.map Zc.enc),J sL,J sC])),(.d (J ((m:Int))))] []=some (wtT (U6 m (Zm.mk sS sO sD sL sC))):=by
 have e1:=ZZ sS sO sD sL sC;rw[Ke hv] at e1;have e2:=Y1 sS sO sD sL sC (V7 hv);have h1:¬(m:Int)<0:=by omega
 have h2:¬(40:Int)<(m:Int):=by omega
 refine cE ?_;simp +contextual -implicitDefEqProofs (maxSteps:=10^7) only[go_sem,seval,↓gZ,YP,e1,e2,h1,h2];refine LO (α:=Zm×List Zx) (fun _=>[]) (fun s=>[(0,.tree 16 5 (s.2.map Zx.enc) none),(1,.box [.own 3,.own 4,.own 5,(.d (J (s.1.Lost))),(.d (J (s.1.Came)))]),(3,.tree 4 4 (s.1.Stock.map Zb.enc) none),(4,.row 5 (s.1.Opn.map Zc.enc) true false),(5,.row 5 (s.1.Done.map Zc.enc) true false)]) (fun s=>ZE s.1∧s.2.length≤m∧(U6 m (Zm.mk sS sO sD sL sC)).1=(U6 (m-s.2.length) s.1).1∧(U6 m (Zm.mk sS sO sD sL sC)).2=s.2++(U6 (m-s.2.length) s.1).2) (fun s=>m-s.2.length) ((Zm.mk sS sO sD sL sC),[]) ⟨hv,by simp,by simp,by simp⟩ ?_
 intro⟨⟨S,O,D,L,C⟩,l⟩ ⟨hv,hl,hp,hq⟩ ih;simp only at hv hl hp hq;by_cases ab:l.length<m
 ·obtain⟨k,hk⟩:∃ k,m-l.length=k+1:=⟨m-l.length-1,by omega⟩
  rw[hk] at hp hq;have en:=Zt1 S O D L C hv;have hr:(l.length+1)*144≤140737488355328∧l.length≤140737488355327:=by omega
  cases hn:Vp ⟨S,O,D,L,C⟩ with
  | none=>
   rw[Ze8 hn] at hp hq;rw[hn] at en;unfold nxT at en;unfold wtT;rw[hp,hq];simp +contextual -implicitDefEqProofs (maxSteps:=10^7) only[go_sem,seval,↓gZ,ab,en,KJ]
  | some e=>
   obtain⟨u,ad,hu,_⟩:=Zg4 hv hn;rw[Ze7 hn ad] at hp hq;rw[hn] at en;obtain⟨K,Lb,⟨X,Y,W,H⟩,⟨⟨pW,pH,pT,pK⟩,Ct⟩,⟨o,a,q,t,ks⟩⟩:=e;have ea:=Jx S O D L C K Lb X Y W H pW pH pT pK Ct o a q t ks;rw[Kl hv,ad] at ea;obtain⟨S',O',D',L',C'⟩:=u;unfold shT at ea;unfold nxT at en;simp only at ea en;have aa:m-(l++[(⟨K,Lb,⟨X,Y,W,H⟩,⟨⟨pW,pH,pT,pK⟩,Ct⟩,.mk o a q t ks⟩:Zx)]).length=k:=by simp;omega
   cases ks with
   | nil=>
    simp only[plO,Kz] at en ea;simp +contextual -implicitDefEqProofs (maxSteps:=10^7) only[go_sem,seval,↓gZ,ab,en,ea,hr];refine ih (⟨S',O',D',L',C'⟩,l++[⟨K,Lb,⟨X,Y,W,H⟩,⟨⟨pW,pH,pT,pK⟩,Ct⟩,.mk o a q t []⟩]) _ ⟨hu,by simp;omega,by simp only[aa];exact hp,by simp only[aa];rw[hq];simp⟩ (by simp;omega) ?_;simp +contextual -implicitDefEqProofs (maxSteps:=10^7) only[go_sem,seval,↓gZ,KG]
   | cons k1 kr=>
    simp only[plO,Ko] at en ea;simp +contextual -implicitDefEqProofs (maxSteps:=10^7) only[go_sem,seval,↓gZ,ab,en,ea,hr];refine ih (⟨S',O',D',L',C'⟩,l++[⟨K,Lb,⟨X,Y,W,H⟩,⟨⟨pW,pH,pT,pK⟩,Ct⟩,.mk o a q t (k1 :: kr)⟩]) _ ⟨hu,by simp;omega,by simp only[aa];exact hp,by simp only[aa];rw[hq];simp⟩ (by simp;omega) ?_;simp +contextual -implicitDefEqProofs (maxSteps:=10^7) only[go_sem,seval,↓gZ,KG]
 ·have:m-l.length=0:=by omega
  rw[this] at hp hq;simp only[U6,KJ] at hp hq;unfold wtT;rw[hp,hq];simp +contextual -implicitDefEqProofs (maxSteps:=10^7) only[go_sem,seval,↓gZ,ab]
theorem Zkd (sS:List Zb) (sO sD:List Zc) (sL sC:Int) (m:Int) (hs:JK (Zm.mk sS sO sD sL sC)) (h:¬(ZE (Zm.mk sS sO sD sL sC)∧0≤m∧m≤40)):Zd Xs Ms YK [(.d (.agg [.sl (sS.map Zb.enc),.sl (sO.map Zc.enc),.sl (sD.map Zc.enc),J sL,J sC])),(.d (J m))] []=some (wtV (⟨[],[],[],0,0⟩,[])):=by
 have e1:=XT sS sO sD sL sC hs;have e2:=ZK m 0 40;unfold wtV;by_cases hv:ZE (Zm.mk sS sO sD sL sC)
 ·rw[Ke hv] at e1;have hr:¬(0≤m∧m≤40):=fun hr=>h ⟨hv,hr⟩;rw[Kh hr] at e2;refine cE ?_;simp +contextual -implicitDefEqProofs (maxSteps:=10^7) only[go_sem,seval,↓gZ,Wb,e1,e2]
 ·rw[Kh hv] at e1;refine cE ?_;simp +contextual -implicitDefEqProofs (maxSteps:=10^7) only[go_sem,seval,↓gZ,Wb,e1]
theorem Zlv (sS:List Zb) (sO sD:List Zc) (sL sC:Int) (m:Nat) (hv:ZE (Zm.mk sS sO sD sL sC)) (hm:m≤40):Zd Xs Ms YK [(.d (.agg [.sl (sS.map Zb.enc),.sl (sO.map Zc.enc),.sl (sD.map Zc.enc),J sL,J sC])),(.d (J ((m:Int))))] []=some (wtV (U6 m (Zm.mk sS sO sD sL sC))):=by
 have e1:=XT sS sO sD sL sC (V7 hv);rw[Ke hv] at e1;have e2:=Y4 sS sO sD sL sC (V7 hv);have e3:=ZK (m:Int) 0 40;rw[Ke (by omega)] at e3;refine cE ?_;simp +contextual -implicitDefEqProofs (maxSteps:=10^7) only[go_sem,seval,↓gZ,Wb,e1,e2,e3];refine LO (α:=Zm×List Zx) (fun _=>[]) (fun s=>[(0,.row 16 (s.2.map Zx.enc) true false),(2,.box [.own 6,.own 7,.own 8,(.d (J (s.1.Lost))),(.d (J (s.1.Came)))]),(6,.row 4 (s.1.Stock.map Zb.enc) true false),(7,.row 5 (s.1.Opn.map Zc.enc) true false),(8,.row 5 (s.1.Done.map Zc.enc) true false)]) (fun s=>ZE s.1∧s.2.length≤m∧(U6 m (Zm.mk sS sO sD sL sC)).1=(U6 (m-s.2.length) s.1).1∧(U6 m (Zm.mk sS sO sD sL sC)).2=s.2++(U6 (m-s.2.length) s.1).2) (fun s=>m-s.2.length) ((Zm.mk sS sO sD sL sC),[]) ⟨hv,by simp,by simp,by simp⟩ ?_
 intro⟨⟨S,O,D,L,C⟩,l⟩ ⟨hv,hl,hp,hq⟩ ih;simp only at hv hl hp hq;by_cases aa:l.length<m
 ·obtain⟨k,hk⟩:∃ k,m-l.length=k+1:=⟨m-l.length-1,by omega⟩
  rw[hk] at hp hq;have en:=Zku S O D L C (Zkr hv);have hr:(l.length+1)*144≤140737488355328∧l.length≤140737488355327:=by omega
  cases hn:Vp ⟨S,O,D,L,C⟩ with
  | none=>
   rw[Ze8 hn] at hp hq;rw[hn] at en;unfold nxV at en;unfold wtV;rw[hp,hq];simp +contextual -implicitDefEqProofs (maxSteps:=10^7) only[go_sem,seval,↓gZ,aa,en,KJ]
  | some e=>
   obtain⟨u,ab,hu,_⟩:=Zg4 hv hn;have ad:e.kind=3:=Zd4 hn;rw[Ze7 hn ab] at hp hq;rw[hn] at en;obtain⟨K,Lb,⟨X,Y,W,H⟩,⟨⟨pW,pH,pT,pK⟩,Ct⟩,⟨o,a,q,t,ks⟩⟩:=e;simp only at ad;have ea:=Us S O D L C K Lb X Y W H pW pH pT pK Ct o a q t ks (Zkr hv) ad;rw[ab] at ea;obtain⟨S',O',D',L',C'⟩:=u;unfold shV at ea;unfold nxV at en;simp only at ea en;simp +contextual -implicitDefEqProofs (maxSteps:=10^7) only[go_sem,seval,↓gZ,aa,en,ea,hr];refine ih (⟨S',O',D',L',C'⟩,l++[⟨K,Lb,⟨X,Y,W,H⟩,⟨⟨pW,pH,pT,pK⟩,Ct⟩,.mk o a q t ks⟩]) _ ⟨hu,by simp;omega,?_,?_⟩ (by simp;omega) ?_
   ·have:m-(l++[(⟨K,Lb,⟨X,Y,W,H⟩,⟨⟨pW,pH,pT,pK⟩,Ct⟩,.mk o a q t ks⟩:Zx)]).length=k:=by simp;omega
    simp only[this];exact hp
   ·have:m-(l++[(⟨K,Lb,⟨X,Y,W,H⟩,⟨⟨pW,pH,pT,pK⟩,Ct⟩,.mk o a q t ks⟩:Zx)]).length=k:=by simp;omega
    simp only[this];rw[hq];simp
   ·simp +contextual -implicitDefEqProofs (maxSteps:=10^7) only[go_sem,seval,↓gZ,KG]
 ·have:m-l.length=0:=by omega
  rw[this] at hp hq;simp only[U6,KJ] at hp hq;unfold wtV;rw[hp,hq];simp +contextual -implicitDefEqProofs (maxSteps:=10^7) only[go_sem,seval,↓gZ,aa]
def PDrWT (r:AV×List Zn):Prop:=∃ (S:List Zb) (O D:List Zc) (L C:Int) (f g h:Bool) (m:Int),AnyS ⟨S,O,D,L,C⟩ ∧
 r=(.tup [.agg [.own 0,.own 1,.own 2,(.d (J L)),(.d (J C))],(.d (J m))],[.row 4 (S.map Zb.enc) true f,.row 5 (O.map Zc.enc) true g,.row 5 (D.map Zc.enc) true h])
theorem Zg5 (aa:List UInt8):∃ r,Zd Xs Ms Yb [.d (.sl (aa.map ZaU))] []=some r∧PDrWT r:=by
 have hb:(aa.take 2000).length≤2000:=by simp;omega
 have en:=ZoA aa;obtain⟨r,e1,S,O,D,L,C,f,g,h,p',h1,h2,h3,rfl⟩:=Zuh (aa.take 2000) hb 0 (by omega);simp only[cast0] at e1;generalize aa.take 2000=bs at *;obtain⟨m,hm,eV⟩:=ZcS bs p' [40,10,2,0,41,-1] hb (by omega) (by decide);simp only[Ko,Kz,Qg] at eV;refine cW ?_;simp +contextual -implicitDefEqProofs (maxSteps:=10^7) only[go_sem,seval,↓gZ,UZ,en,e1,eV];exact⟨S,O,D,L,C,_,_,_,m,h1,rfl⟩
theorem ZcV (l:List Zx) (hl:l.length≤1000000) (h:∀ e∈l,∃ B:BT,e.plan=B.plan):Zd Xs Ms YL [(.d (.sl (l.map Zx.enc))),(.d (.sl (l.map Zx.enc)))] []=some ((.d (.bool true)),[]):=by
 refine cE ?_;simp +contextual -implicitDefEqProofs (maxSteps:=10^7) only[go_sem,seval,↓gZ,Zca];refine LO (α:=Nat) (fun k=>[(5,.d (J (k:Int)))]) (fun _=>[]) (fun k=>k≤l.length) (fun k=>l.length-k) 0 (by omega) ?_;intro k hk ih;by_cases aa:k<l.length
 ·obtain⟨e,he⟩:=Zl aa;have hw:=Zh (k:=k) (by omega);obtain⟨B,hB⟩:=h e (Kb he);obtain⟨K,Lb,⟨X,Y,W,H⟩,⟨⟨pW,pH,pT,pK⟩,Ct⟩,⟨o,a,q,t,ks⟩⟩:=e;simp only at hB;have e1:=Zkb K Lb X Y W H pW pH pT pK Ct B;rw[← hB,Zx.enc_mk] at e1;simp +contextual -implicitDefEqProofs (maxSteps:=10^7) only[go_sem,seval,↓gZ,he,aa,hw,e1];refine ih (k+1) _ (by omega) (by omega) ?_;simp +contextual -implicitDefEqProofs (maxSteps:=10^7) only[go_sem,seval,↓gZ]
 ·have:k=l.length:=by omega
  subst this;simp +contextual -implicitDefEqProofs (maxSteps:=10^7) only[go_sem,seval,↓gZ]
end Go.Proofs.YtbpekaejmjlmfaaGreat
