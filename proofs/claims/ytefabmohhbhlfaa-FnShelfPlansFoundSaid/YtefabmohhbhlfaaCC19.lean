/- Own text. -/
import Derived.Test.YtefabmohhbhlfaaCCode
import Derived.Test.YtefabmohhbhlfaaAbsParts
import Derived.Test.YtefabmohhbhlfaaCC1
import Derived.Test.YtefabmohhbhlfaaAbsOkD
import Derived.Test.YtefabmohhbhlfaaCC2
import Derived.Test.YtefabmohhbhlfaaCC18
namespace Go.Proofs.Ytefabmohhbhlfaa
open Go Go.Abs Go.Abs.E Go.Abs.L
open Nat (reduceMul reduceSub reduceLeDiff reduceEqDiff)
open Int (reduceLE reduceEq reduceToNat reduceNeg)
set_option linter.unusedSimpArgs false
set_option linter.unusedVariables false
set_option maxRecDepth 20000
set_option maxHeartbeats 4000000
theorem Zh4 (bs:List UInt8) (hb:bs.length≤2000) (p:Nat) (hp:p<900000000):∃ (W H:Int) (ps:List Pane) (p' : Nat),p'≤p+31∧ps.length≤7 ∧
  Zj Xs Ms Q5 [.ptr 0 0,(.d (.bool true))] [.box [.d (.sl (bs.map Vi)),(.d (J p))]]=some (.agg [(.d (J W)),(.d (J H)),.own 1],[.box [.d (.sl (bs.map Vi)),(.d (J (p')))],.row 4 (ps.map Pane.enc) true false]):=by
 have hQ:∃ r,Zj Xs Ms Q5 [.ptr 0 0,(.d (.bool true))] [.box [.d (.sl (bs.map Vi)),(.d (J p))]]=some r∧∃ (W H:Int) (ps:List Pane) (p' : Nat),p'≤p+31∧ps.length≤7∧r=(.agg [(.d (J W)),(.d (J H)),.own 1],[.box [.d (.sl (bs.map Vi)),(.d (J (p')))],.row 4 (ps.map Pane.enc) true false]):=by
  obtain⟨W,hW,e1⟩:=W5 bs p [10,8,12,16,6] hb (by omega) (by simp);obtain⟨H,hH,e2⟩:=W5 bs (p+1) [8,10,6,16,12] hb (by omega) (by simp);obtain⟨v,hv,e3⟩:=W5 bs (p+1+1) [3,4,2,5,1,0,7] hb (by omega) (by simp);have ad : 6≤W∧W≤16:=by simp only[Kf,Lh,or_false] at hW;omega
  have ae : 6≤H∧H≤16:=by simp only[Kf,Lh,or_false] at hH;omega
  have af : 0≤v∧v≤7:=by simp only[Kf,Lh,or_false] at hv;omega
  obtain⟨n,rfl⟩:∃ n:Nat,v=(n:Int):=⟨v.toNat,by omega⟩
  simp only[Kq,Lv,Qn] at e1 e2 e3;refine cW ?_;simp +contextual -implicitDefEqProofs (maxSteps:=10^7) only[go_sem,seval,↓gZ,WV,e1,e2,e3];refine LO (α:=Nat×List Pane×Nat) (fun s=>[(6,.d (J (s.1:Int)))]) (fun s=>[(3,.row 4 (s.2.1.map Pane.enc) true false),(0,.box [.d (.sl (bs.map Vi)),(.d (J (s.2.2)))])]) (fun s=>s.1+s.2.1.length=n∧s.2.2=p+1+1+1+4*s.2.1.length) (fun s=>s.1) (n,[],p+1+1+1) ⟨by simp,by simp⟩ ?_;intro⟨k,ps,pp⟩ ⟨hk,hpp⟩ ih;simp only at hk hpp;by_cases ab:0<k
  ·have aa : (0:Int)<(k:Int):=by omega
   have hw:IntKind.i64.wrap ((k:Int)-1)=((k-1:Nat):Int):=by rw[Xy (by omega) (by omega)];omega
   have f1:=XN bs pp W hb (by omega);have f2:=XN bs (pp+1) H hb (by omega);have f3:=XN bs (pp+1+1) 2 hb (by omega);have f4:=XN bs (pp+1+1+1) 2 hb (by omega);have g1:=Vl bs pp W;have g2:=Vl bs (pp+1) H;have g3:=J6 bs pp W (by omega);have g4:=J6 bs (pp+1) H (by omega);generalize Yn bs pp W=a1 at *;generalize Yn bs (pp+1) H=a2 at *;generalize Yn bs (pp+1+1) 2=a3 at *;generalize Yn bs (pp+1+1+1) 2=a4 at *;have w1:=wi (1+a1) (by omega) (by omega);have w2:=wi (1+a2) (by omega) (by omega);have hr:(ps.length+1)*32≤140737488355328∧ps.length≤140737488355327:=by omega
   obtain⟨q,hq⟩:∃ q:Pane,q=⟨1+a1,1+a2,decide (a3=0),a4⟩:=⟨_,rfl⟩
   have e5:(ps++[q]).map Pane.enc=ps.map Pane.enc++[D.agg [J (1+a1),J (1+a2),.bool (decide (a3=0)),J a4]]:=by rw[KX,hq];rfl
   simp +contextual -implicitDefEqProofs (maxSteps:=10^7) only[go_sem,seval,↓gZ,ab,aa,f1,f2,f3,f4,w1,w2,hr,hw];refine ih (k-1,ps++[q],pp+1+1+1+1) _ ⟨by simp only[Kj,Kg,KH];omega,by simp only[Kj,Kg,KH];omega⟩ (by simp only;omega) ?_;simp +contextual -implicitDefEqProofs (maxSteps:=10^7) only[go_sem,seval,↓gZ,e5]
  ·have:k=0:=by omega
   subst this;simp +contextual -implicitDefEqProofs (maxSteps:=10^7) only[go_sem,seval,↓gZ];exact⟨W,H,ps,pp,by omega,by omega,rfl⟩
 obtain⟨r,h1,W,H,ps,p',h2,h3,rfl⟩:=hQ;exact⟨W,H,ps,p',h2,h3,h1⟩
theorem Zd0 (bs:List UInt8) (hb:bs.length≤2000) (p:Nat) (hp:p<900000000):∃ (W H:Int) (ps:List Pane) (p' : Nat),p'≤p+33∧ps.length≤7 ∧
  Zj Xs Ms Q6 [.ptr 0 0,(.d (.bool true))] [.box [.d (.sl (bs.map Vi)),(.d (J p))]]=some (.agg [(.d (J W)),(.d (J H)),.own 1],[.box [.d (.sl (bs.map Vi)),(.d (J (p')))],.row 4 (ps.map Pane.enc) true false]):=by
 obtain⟨W,H,ps,p',h1,h2,e1⟩:=Zh4 bs hb p hp;have e2:=XN bs p' 16 hb (by omega);generalize Yn bs p' 16=c at e2;by_cases c0:c=0
 ·obtain⟨v,_,e3⟩:=W5 bs (p'+1) [0,17,201] hb (by omega) (by simp);simp only[Kq,Lv,Qn] at e3;refine⟨v,H,ps,p'+1+1,by omega,h2,?_⟩;refine cE ?_;simp +contextual -implicitDefEqProofs (maxSteps:=10^7) only[go_sem,seval,↓gZ,Z3,e1,e2,c0,e3]
 ·by_cases c1:c=1
  ·cases ps with
   | nil=>
    refine⟨W,H,[],p'+1,by omega,h2,?_⟩;refine cE ?_;simp +contextual -implicitDefEqProofs (maxSteps:=10^7) only[go_sem,seval,↓gZ,Z3,e1,e2,c0,c1]
   | cons q ps=>
    obtain⟨qW,qH,qT,qK⟩:=q;have hn:(0:Int)<(((ps.length+1:Nat)):Int):=by omega
    have aa:0<ps.length+1:=by omega
    refine⟨W,H,⟨IntKind.i64.wrap (W+1),qH,qT,qK⟩ :: ps,p'+1,by omega,by simpa using h2,?_⟩;simp only[Kq,Pane.enc] at e1 ⊢;refine cE ?_;simp +contextual -implicitDefEqProofs (maxSteps:=10^7) only[go_sem,seval,↓gZ,Z3,e1,e2,c0,c1,hn,aa,LB]
  ·refine⟨W,H,ps,p'+1,by omega,h2,?_⟩;refine cE ?_;simp +contextual -implicitDefEqProofs (maxSteps:=10^7) only[go_sem,seval,↓gZ,Z3,e1,e2,c0,c1]
end Go.Proofs.Ytefabmohhbhlfaa
namespace Go.Proofs.Ytefabmohhbhlfaa
open Go Go.Abs Go.Abs.E Go.Abs.L
open Nat (reduceMul reduceSub reduceLeDiff reduceEqDiff)
open Int (reduceLE reduceEq reduceToNat reduceNeg)
set_option linter.unusedSimpArgs false
set_option linter.unusedVariables false
set_option maxRecDepth 20000
set_option maxHeartbeats 4000000
end Go.Proofs.Ytefabmohhbhlfaa
namespace Go.Proofs.Ytefabmohhbhlfaa
open Go Go.Abs Go.Abs.E Go.Abs.L
open Nat (reduceMul reduceSub reduceLeDiff reduceEqDiff)
open Int (reduceLE reduceEq reduceToNat reduceNeg)
set_option linter.unusedSimpArgs false
set_option linter.unusedVariables false
set_option maxRecDepth 20000
set_option maxHeartbeats 4000000
end Go.Proofs.Ytefabmohhbhlfaa
namespace Go.Proofs.Ytefabmohhbhlfaa
open Go Go.Abs Go.Abs.E Go.Abs.L
open Nat (reduceMul reduceSub reduceLeDiff reduceEqDiff)
open Int (reduceLE reduceEq reduceToNat reduceNeg)
set_option linter.unusedSimpArgs false
set_option linter.unusedVariables false
set_option maxRecDepth 20000
set_option maxHeartbeats 4000000
end Go.Proofs.Ytefabmohhbhlfaa
namespace Go.Proofs.Ytefabmohhbhlfaa
open Go Go.Abs Go.Abs.E Go.Abs.L
open Nat (reduceMul reduceSub reduceLeDiff reduceEqDiff)
open Int (reduceLE reduceEq reduceToNat reduceNeg)
set_option linter.unusedSimpArgs false
set_option linter.unusedVariables false
set_option maxRecDepth 20000
set_option maxHeartbeats 4000000
theorem Zh5 (bs:List UInt8) (hb:bs.length≤2000) (p:Nat) (hp:p<900000000):∃ (W H:Int) (ps:List Pane) (p' : Nat),p'≤p+31∧ps.length≤7 ∧
  Zj Xs Ms Q5 [.ptr 0 0,(.d (.bool false))] [.box [.d (.sl (bs.map Vi)),(.d (J p))]]=some (.agg [(.d (J W)),(.d (J H)),.own 1],[.box [.d (.sl (bs.map Vi)),(.d (J (p')))],.row 4 (ps.map Pane.enc) true false]):=by
 have hQ:∃ r,Zj Xs Ms Q5 [.ptr 0 0,(.d (.bool false))] [.box [.d (.sl (bs.map Vi)),(.d (J p))]]=some r∧∃ (W H:Int) (ps:List Pane) (p' : Nat),p'≤p+31∧ps.length≤7∧r=(.agg [(.d (J W)),(.d (J H)),.own 1],[.box [.d (.sl (bs.map Vi)),(.d (J (p')))],.row 4 (ps.map Pane.enc) true false]):=by
  obtain⟨W,hW,e1⟩:=W5 bs p [10,8,12,16,6] hb (by omega) (by simp);obtain⟨H,hH,e2⟩:=W5 bs (p+1) [8,10,6,16,12] hb (by omega) (by simp);obtain⟨v,hv,e3⟩:=W5 bs (p+1+1) [3,4,2,5,1,0,7] hb (by omega) (by simp);have ad : 6≤W∧W≤16:=by simp only[Kf,Lh,or_false] at hW;omega
  have ae : 6≤H∧H≤16:=by simp only[Kf,Lh,or_false] at hH;omega
  have af : 0≤v∧v≤7:=by simp only[Kf,Lh,or_false] at hv;omega
  obtain⟨n,rfl⟩:∃ n:Nat,v=(n:Int):=⟨v.toNat,by omega⟩
  simp only[Kq,Lv,Qn] at e1 e2 e3;refine cW ?_;simp +contextual -implicitDefEqProofs (maxSteps:=10^7) only[go_sem,seval,↓gZ,WV,e1,e2,e3];refine LO (α:=Nat×List Pane×Nat) (fun s=>[(6,.d (J (s.1:Int)))]) (fun s=>[(3,.row 4 (s.2.1.map Pane.enc) true false),(0,.box [.d (.sl (bs.map Vi)),(.d (J (s.2.2)))])]) (fun s=>s.1+s.2.1.length=n∧s.2.2=p+1+1+1+3*s.2.1.length) (fun s=>s.1) (n,[],p+1+1+1) ⟨by simp,by simp⟩ ?_;intro⟨k,ps,pp⟩ ⟨hk,hpp⟩ ih;simp only at hk hpp;by_cases ab:0<k
  ·have aa : (0:Int)<(k:Int):=by omega
   have hw:IntKind.i64.wrap ((k:Int)-1)=((k-1:Nat):Int):=by rw[Xy (by omega) (by omega)];omega
   have f1:=XN bs pp W hb (by omega);have f2:=XN bs (pp+1) H hb (by omega);have f3:=XN bs (pp+1+1) 2 hb (by omega);have g1:=Vl bs pp W;have g2:=Vl bs (pp+1) H;have g3:=J6 bs pp W (by omega);have g4:=J6 bs (pp+1) H (by omega);generalize Yn bs pp W=a1 at *;generalize Yn bs (pp+1) H=a2 at *;generalize Yn bs (pp+1+1) 2=a3 at *;have w1:=wi (1+a1) (by omega) (by omega);have w2:=wi (1+a2) (by omega) (by omega);have hr:(ps.length+1)*32≤140737488355328∧ps.length≤140737488355327:=by omega
   obtain⟨q,hq⟩:∃ q:Pane,q=⟨1+a1,1+a2,false,a3⟩:=⟨_,rfl⟩
   have e5:(ps++[q]).map Pane.enc=ps.map Pane.enc++[D.agg [J (1+a1),J (1+a2),(.bool false),J a3]]:=by rw[KX,hq];rfl
   simp +contextual -implicitDefEqProofs (maxSteps:=10^7) only[go_sem,seval,↓gZ,ab,aa,f1,f2,f3,w1,w2,hr,hw];refine ih (k-1,ps++[q],pp+1+1+1) _ ⟨by simp only[Kj,Kg,KH];omega,by simp only[Kj,Kg,KH];omega⟩ (by simp only;omega) ?_;simp +contextual -implicitDefEqProofs (maxSteps:=10^7) only[go_sem,seval,↓gZ,e5]
  ·have:k=0:=by omega
   subst this;simp +contextual -implicitDefEqProofs (maxSteps:=10^7) only[go_sem,seval,↓gZ];exact⟨W,H,ps,pp,by omega,by omega,rfl⟩
 obtain⟨r,h1,W,H,ps,p',h2,h3,rfl⟩:=hQ;exact⟨W,H,ps,p',h2,h3,h1⟩
theorem Zd1 (bs:List UInt8) (hb:bs.length≤2000) (p:Nat) (hp:p<900000000):∃ (W H:Int) (ps:List Pane) (p' : Nat),p'≤p+33∧ps.length≤7 ∧
  Zj Xs Ms Q6 [.ptr 0 0,(.d (.bool false))] [.box [.d (.sl (bs.map Vi)),(.d (J p))]]=some (.agg [(.d (J W)),(.d (J H)),.own 1],[.box [.d (.sl (bs.map Vi)),(.d (J (p')))],.row 4 (ps.map Pane.enc) true false]):=by
 obtain⟨W,H,ps,p',h1,h2,e1⟩:=Zh5 bs hb p hp;have e2:=XN bs p' 16 hb (by omega);generalize Yn bs p' 16=c at e2;by_cases c0:c=0
 ·obtain⟨v,_,e3⟩:=W5 bs (p'+1) [0,17,201] hb (by omega) (by simp);simp only[Kq,Lv,Qn] at e3;refine⟨v,H,ps,p'+1+1,by omega,h2,?_⟩;refine cE ?_;simp +contextual -implicitDefEqProofs (maxSteps:=10^7) only[go_sem,seval,↓gZ,Z3,e1,e2,c0,e3]
 ·by_cases c1:c=1
  ·cases ps with
   | nil=>
    refine⟨W,H,[],p'+1,by omega,h2,?_⟩;refine cE ?_;simp +contextual -implicitDefEqProofs (maxSteps:=10^7) only[go_sem,seval,↓gZ,Z3,e1,e2,c0,c1]
   | cons q ps=>
    obtain⟨qW,qH,qT,qK⟩:=q;have hn:(0:Int)<(((ps.length+1:Nat)):Int):=by omega
    have aa:0<ps.length+1:=by omega
    refine⟨W,H,⟨IntKind.i64.wrap (W+1),qH,qT,qK⟩ :: ps,p'+1,by omega,by simpa using h2,?_⟩;simp only[Kq,Pane.enc] at e1 ⊢;refine cE ?_;simp +contextual -implicitDefEqProofs (maxSteps:=10^7) only[go_sem,seval,↓gZ,Z3,e1,e2,c0,c1,hn,aa,LB]
  ·refine⟨W,H,ps,p'+1,by omega,h2,?_⟩;refine cE ?_;simp +contextual -implicitDefEqProofs (maxSteps:=10^7) only[go_sem,seval,↓gZ,Z3,e1,e2,c0,c1]
theorem Zcg (aa:List UInt8):∃ (W H:Int) (ps:List Pane),ps.length≤7 ∧
  Zj Xs Ms Xh [.d (.sl (aa.map Vi))] []=some (.agg [(.d (J W)),(.d (J H)),.own 0],[.row 4 (ps.map Pane.enc) true false]):=by
 have e1:=ZhS aa;have hb:(aa.take 2000).length≤2000:=by simp;omega
 have e2:=XN (aa.take 2000) 0 8 hb (by omega);rw[show ((0:Nat):Int)=0 from rfl] at e2;generalize Yn (aa.take 2000) 0 8=c at e2;by_cases c0:c=0
 ·obtain⟨W,H,ps,p',_,h2,e3⟩:=Zd0 (aa.take 2000) hb 1 (by omega);rw[show ((1:Nat):Int)=1 from rfl] at e3;refine⟨W,H,ps,h2,?_⟩;refine cE ?_;simp +contextual -implicitDefEqProofs (maxSteps:=10^7) only[go_sem,seval,↓gZ,X4,e1,e2,c0,e3]
 ·obtain⟨W,H,ps,p',_,h2,e3⟩:=Zd1 (aa.take 2000) hb 1 (by omega);rw[show ((1:Nat):Int)=1 from rfl] at e3;refine⟨W,H,ps,h2,?_⟩;refine cE ?_;simp +contextual -implicitDefEqProofs (maxSteps:=10^7) only[go_sem,seval,↓gZ,X4,e1,e2,c0,e3]
theorem Jw (l:List BT) (hl:l.length≤1000):Zj Xs Ms XP [.d (.sl ((l.map BT.plan).map Zl.enc)),.d (.sl ((l.map BT.plan).map Zl.enc))] []=some ((.d (.bool true)),[]):=by
 have aa:((l.map BT.plan).map Zl.enc).length=l.length:=by simp
 refine cE ?_;simp +contextual -implicitDefEqProofs (maxSteps:=10^7) only[go_sem,seval,↓gZ,U6,aa];refine LO (α:=Nat) (fun i=>[(5,.d (J (i:Int)))]) (fun _=>[]) (fun i=>i≤l.length) (fun i=>l.length-i) 0 (by omega) ?_;intro i hi ih;by_cases ab:i<l.length
 ·obtain⟨b,hx⟩:=ZE ab;have hw:=ZD (k:=i) (by omega);have hb:=WN b;obtain⟨o,a,q,t,ks,hp⟩:=U5 b;have ad:((l.map BT.plan).map Zl.enc)[i]?=some (Zl.enc (.mk o a q t ks)):=by rw[Kx,Kx,hx];simp[hp]
  rw[hp] at hb;rw[Zl.enc_mk] at hb ad;simp +contextual -implicitDefEqProofs (maxSteps:=10^7) only[go_sem,seval,↓gZ,aa,ab,ad,hb,hw];refine ih (i+1) _ (by omega) (by omega) ?_;simp +contextual -implicitDefEqProofs (maxSteps:=10^7) only[go_sem,seval,↓gZ]
 ·simp +contextual -implicitDefEqProofs (maxSteps:=10^7) only[go_sem,seval,↓gZ,aa,ab]
theorem ZiZ (l:List L.Place) (P:Int) (T:Bool) (X Y W H:Int) (hm:(⟨P,T,⟨X,Y,W,H⟩⟩:L.Place)∈l) (hl:l.length≤1000):Zj Xs Ms Wk [(.d (.sl (l.map Place.enc))),.d (.agg [J P,.bool T,J X,J Y,J W,J H])] []=some ((.d (.bool true)),[]):=by
 refine cE ?_;simp +contextual -implicitDefEqProofs (maxSteps:=10^7) only[go_sem,seval,↓gZ,ZaS];refine LO (α:=Nat) (fun i=>[(9,.d (J (i:Int)))]) (fun _=>[]) (fun i=>i≤l.length∧(⟨P,T,⟨X,Y,W,H⟩⟩:L.Place)∈l.drop i) (fun i=>l.length-i) 0 ⟨by omega,by simpa using hm⟩ ?_;intro i ⟨hi,hb⟩ ih;by_cases aa:i<l.length
 ·obtain⟨⟨xP,xT,⟨xX,xY,xW,xH⟩⟩,hx⟩:=ZE aa;have hw:=ZD (k:=i) (by omega);have hd:l.drop i=⟨xP,xT,⟨xX,xY,xW,xH⟩⟩ :: l.drop (i+1):=by
   obtain⟨h1,h2⟩:=Kc.1 hx;rw[K3 h1,h2]
  simp +contextual -implicitDefEqProofs (maxSteps:=10^7) only[go_sem,seval,↓gZ,aa,hx,hw];intro ab;refine ih (i+1) _ ⟨by omega,?_⟩ (by omega) ?_
  ·rw[hd] at hb;rcases Kf.1 hb with hb | hb
   ·cases hb;exact absurd ⟨rfl,rfl,rfl,rfl,rfl,rfl⟩ ab
   ·exact hb
  ·simp +contextual -implicitDefEqProofs (maxSteps:=10^7) only[go_sem,seval,↓gZ]
 ·have:i=l.length:=by omega
  subst this;rw[L7] at hb;cases hb
theorem ZfP (W H:Int) (ps:List Pane) (p q:Zl) (hp:VG ⟨W,H,ps⟩ p=true) (hq:VG ⟨W,H,ps⟩ q=true) (hl:(Q2 ⟨W,H,ps⟩ p).length≤255) (aa:((Q2 ⟨W,H,ps⟩ q).filterMap Xr).Perm ((Q2 ⟨W,H,ps⟩ p).filterMap Xr)):Zj Xs Ms YT [.d (.agg [J W,J H,.sl (ps.map Pane.enc)]),.d p.enc,.d q.enc] []=some ((.d (.bool true)),[]):=by
 have e1:=U3 W H ps p;have e2:=U3 W H ps q;rw[hp] at e1;rw[hq] at e2;have e3:=JL W H ps p;have e4:=JL W H ps q;have af:((Q2 ⟨W,H,ps⟩ p).filterMap Xr).length≤255:=Lp (Lx _ _) hl;generalize (Q2 ⟨W,H,ps⟩ p).filterMap Xr=A at *;generalize (Q2 ⟨W,H,ps⟩ q).filterMap Xr=B at *;have ab:=aa.length_eq;have ae:∀ c∈A,c∈B:=fun c hc=>aa.mem_iff.2 hc;obtain⟨o,a,r,t,ks⟩:=p;obtain⟨o2,a2,r2,t2,ag⟩:=q;rw[Zl.enc_mk] at e1 e2 e3 e4 ⊢;refine cE ?_;simp +contextual -implicitDefEqProofs (maxSteps:=10^7) only[go_sem,seval,↓gZ,U7,e1,e2,e3,e4,ab];refine LO (α:=Nat) (fun i=>[(34,.d (J (i:Int)))]) (fun _=>[]) (fun i=>i≤A.length) (fun i=>A.length-i) 0 (by omega) ?_
 intro i hi ih;by_cases ad:i<A.length
 ·obtain⟨⟨xP,xT,⟨xX,xY,xW,xH⟩⟩,hx⟩:=ZE ad;have hw:=ZD (k:=i) (by omega);have e5:=ZiZ B xP xT xX xY xW xH (ae _ (Ke hx)) (by omega);simp +contextual -implicitDefEqProofs (maxSteps:=10^7) only[go_sem,seval,↓gZ,ad,hx,hw,e5];refine ih (i+1) _ (by omega) (by omega) ?_;simp +contextual -implicitDefEqProofs (maxSteps:=10^7) only[go_sem,seval,↓gZ]
 ·have:i=A.length:=by omega
  subst this;simp +contextual -implicitDefEqProofs (maxSteps:=10^7) only[go_sem,seval,↓gZ]
theorem ZmK {k:ZO} {b:BT} (hv:VG k b.plan=true):(Q2 k b.plan).filterMap Xr=plc b 0 0 k.W k.H:=by
 have aa:Q2 k b.plan=pt b 0 0 k.W k.H:=by
  have:=hv;unfold VG at this;unfold Q2;rw[Uz] at this ⊢;simp only at this ⊢;rw[Ko this]
 rw[aa,Zew]
theorem Zh6 {ps:List Pane} {W H:Int}:∀ {l:List Int},(∀ j∈l,okJ ps W H j)→W≤200→H≤200→0≤arI ps l∧arI ps l≤40000*(l.length:Int)
 | [],_,_,_=>by simp[arI]
 | i :: l,h,hW,hH=>by
  have h1:=h i (by simp);obtain⟨a1,a2⟩:=Zh6 (l:=l) (fun j hj=>h j (by simp[hj])) hW hH;unfold okJ at h1;have b1:wI ps i*hI ps i≤200*200:=Int.mul_le_mul (by omega) (by omega) (by omega) (by omega);have b0:0≤wI ps i*hI ps i:=Int.mul_nonneg (by omega) (by omega);simp only[arI,Kg]
  push_cast
  omega
theorem ZnZ:∀ {l:List Pane},okP l→0≤arQ l∧arQ l≤40000*(l.length:Int)
 | [],_=>by simp[arQ]
 | x :: l,h=>by
  have h1:=h x (by simp);obtain⟨a1,a2⟩:=ZnZ (l:=l) fun j hj=>h j (by simp[hj]);have b1:x.W*x.H≤200*200:=Int.mul_le_mul (by omega) (by omega) (by omega) (by omega);have b0:0≤x.W*x.H:=Int.mul_nonneg (by omega) (by omega);simp only[arQ,Kg]
  push_cast
  omega
def arS (ps:List Pane) (S:List (List (List Int))) (i:Nat):Int:=arI ps ((S.take i).map List.flatten).flatten
theorem Zrk {ps:List Pane} {S:List (List (List Int))} {i:Nat} {s:List (List Int)} (h:S[i]?=some s):arS ps S (i+1)=arS ps S i+arI ps s.flatten:=by
 unfold arS;rw[KE,h,Kad,KX,La,Zlf];simp
theorem ZaP (ad:List UInt8):Zj Xs Ms Xk [.d (.sl (ad.map Vi))] []=some ((.d (.bool true)),[]):=by
 by_cases aa:(1048576:Int)<ad.length
 ·refine cE ?_;simp +contextual -implicitDefEqProofs (maxSteps:=10^7) only[go_sem,seval,↓gZ,Ql,aa]
 ·obtain⟨W,H,ps,a',ed⟩:=Zcg ad;have e1:=ZfM W H ps (by omega);have e2:=ZfO W H ps (by omega);unfold shP at e1;by_cases hp:Xg ⟨W,H,ps⟩
  ·rw[Ko hp] at e1 e2;have ar:=shO_eq hp;simp only at ar;rw[ar] at e2;have hF:∀ s∈shO ⟨W,H,ps⟩,Zri ⟨W,H,ps⟩ s:=fun s hs=>sheetF hp (by simp only;omega) hs;have hJ:∀ s∈shO ⟨W,H,ps⟩,∀ row∈s,∀ j∈row,okJ ps W H j:=fun s hs=>Zrh hp hs;have a1:∀ s∈shO ⟨W,H,ps⟩,s.flatten.length≤ps.length:=fun s hs=>ZfE hs;have aj:arI ps ((shO ⟨W,H,ps⟩).map List.flatten).flatten=arQ ps:=Zrj (k:=⟨W,H,ps⟩);have a3:=ZoT ⟨W,H,ps⟩;simp only at a3;have a4:=hp.1;have ho:okP ps:=ZeS hp.1.2.2.2.2.2;simp only[VW] at a4;have e3:=Jw ((shO ⟨W,H,ps⟩).map fun s=>ZS ps W s H) (by rw[Kw];omega);have au:((shO ⟨W,H,ps⟩).map fun s=>ZS ps W s H).map BT.plan=(shO ⟨W,H,ps⟩).map fun s=>(ZS ps W s H).plan:=by rw[List.map_map];rfl
   rw[au] at e3;clear au;generalize shO ⟨W,H,ps⟩=S at *;have ai:(((S.map fun s=>(ZS ps W s H).plan).map Zl.enc)).length=S.length:=by simp
   by_cases h0:S.length=0
   ·have ak : (S.length:Int)=0:=by omega
    refine cE ?_;simp +contextual -implicitDefEqProofs (maxSteps:=10^7) only[go_sem,seval,↓gZ,Ql,aa,ed,e1,e2,e3,ai,h0,ak]
   ·have ak : ¬(S.length:Int)=0:=by omega
    refine cE ?_;simp +contextual -implicitDefEqProofs (maxSteps:=10^7) only[go_sem,seval,↓gZ,Ql,aa,ed,e1,e2,e3,ai,h0,ak];refine LO (α:=Nat) (fun i=>[(6,.d (J (i:Int))),(5,.d (J (arS ps S i)))]) (fun _=>[]) (fun i=>i≤S.length∧0≤arS ps S i∧arS ps S i≤280000*(i:Int)) (fun i=>S.length-i) 0 ⟨by omega,by simp[arS,arI],by simp[arS,arI]⟩ ?_;intro i ⟨hi,ba,bb⟩ ih;by_cases av:i<S.length
    ·obtain⟨s,hs⟩:=ZE av;have ae : (i:Int)<(S.length:Int):=by omega
     have al:=Ke hs;have F:=hF s al;have hw:=ZD (k:=i) (by omega);have aw:((S.map fun s=>(ZS ps W s H).plan).map Zl.enc)[i]?=some (ZS ps W s H).plan.enc:=by rw[Kx,Kx,hs];rfl
     have ag:=Zrk (ps:=ps) hs;have hb:=Zh6 (l:=s.flatten) (fun j hj=>by
      obtain⟨row,hr,hj⟩:=List.mem_flatten.1 hj;exact hJ s al row hr j hj) (show W≤200 by omega) (show H≤200 by omega)
     have bc:=a1 s al;have am:=ZmK F.v;have ax:=Zdv (p:=(ZS ps W s H).plan) hp.1 F.f;have e4:=JL W H ps (ZS ps W s H).plan;have ay:=Zn8 hp.1 F.f (by have:=F.l;simp only at this ⊢;omega);simp only at ay am ax;obtain⟨b',az⟩:=ay;obtain⟨f1,f2,f3,f4⟩:=Zn6 az;have e8:=ZfP W H ps (ZS ps W s H).plan b'.plan F.v f1 (Zh8 _ _) (by rw[am];exact f2);rw[am] at e4;have hA:=F.a;have hL:=F.l;simp only at hA hL;unfold arP at hA;obtain⟨o,a,q,t,ks,a5⟩:=U5 (ZS ps W s H);obtain⟨o2,a2,q2,t2,a6,ah⟩:=U5 b';have e7:=Zd4 W H ps (plc (ZS ps W s H) 0 0 W H);rw[az] at e7;simp only[plT,ah] at e7;rw[ah,Zl.enc_mk] at e8;rw[a5,Zl.enc_mk] at e4 e8 aw
     generalize plc (ZS ps W s H) 0 0 W H=Ls at *;have e5:=Zlh Ls (by omega);have e6:=Zp8 (Ls.map L.Place.Box) (fun c hc=>by obtain⟨y,hy,rfl⟩:=KV.1 hc;exact ax y hy) (by rw[Kw];omega);rw[hA] at e6;have w1:=wi (arS ps S i+arI ps s.flatten) (by omega) (by omega);have a7:(Ls.length:Int)≤12:=by omega
     have an : Ls.length≤12:=by omega
     rcases a6 with _ | ⟨k2,r2⟩ <;>
     ·simp only[Kq,Lv] at e8;simp +contextual -implicitDefEqProofs (maxSteps:=10^7) only[go_sem,seval,↓gZ,av,ae,ai,aw,e4,e5,e6,w1,a7,an,e7,e8,hw];refine ih (i+1) _ ⟨by omega,by omega,by omega⟩ (by omega) ?_;simp +contextual -implicitDefEqProofs (maxSteps:=10^7) only[go_sem,seval,↓gZ,ag]
    ·have:i=S.length:=by omega
     subst this;have ae : ¬(S.length:Int)<(S.length:Int):=by omega
     have ao:arS ps S S.length=arQ ps:=by unfold arS;rw[Li];exact aj
     have bd:=ZnZ ho;simp +contextual -implicitDefEqProofs (maxSteps:=10^7) only[go_sem,seval,↓gZ,ae,ai,ao];have ab:∀ (j:Nat) (x:Pane),ps[j]?=some x→IntKind.i64.wrap (x.W*x.H)=x.W*x.H∧IntKind.i64.wrap (arQ (ps.take j)+x.W*x.H)=arQ (ps.take j)+x.W*x.H∧arQ (ps.take (j+1))=arQ (ps.take j)+x.W*x.H:=fun j x hx=>by
      have ap:=(Kc.1 hx).1;have be:=ho x (Ke hx);have hb1:=ZnZ (l:=ps.take j) fun y hy=>ho y (LK hy);have hb2:x.W*x.H≤200*200:=Int.mul_le_mul (by omega) (by omega) (by omega) (by omega);have bf:0≤x.W*x.H:=Int.mul_nonneg (by omega) (by omega);have bg:(ps.take j).length≤7:=by rw[KP];omega
      exact⟨wi _ (by omega) (by omega),wi _ (by omega) (by omega),ZmH hx⟩
     refine XK Xs Ms ?_;by_cases a0:0<ps.length
     ·obtain⟨x,hx⟩:=ZE a0;have aq : (0:Int)<(ps.length:Int):=by omega
      obtain⟨w1,w2,w3⟩:=ab 0 x hx;obtain⟨xW,xH,xT,xK⟩:=x;simp only[Kaf,arQ,Int.zero_add,Lo] at w1 w2 w3;simp +contextual -implicitDefEqProofs (maxSteps:=10^7) only[go_sem,seval,↓gZ,hx,a0,aq,w1,Int.zero_add];refine WQ Xs Ms (st0:=?st1) (α:=Nat) (fun i=>[(11,.d (J (i:Int))),(10,.d (J (arQ (ps.take i))))]) (fun _=>[]) (fun i=>1≤i∧i≤ps.length) (fun i=>ps.length-i) 1 ?hc2 (by omega) ?h02 ?step2
      case hc2=>simp +contextual -implicitDefEqProofs (maxSteps:=10^7) only[go_sem,seval,↓gZ]<;>exact rfl
      case h02=>rw[w3];rfl
      case step2=>
       intro j ⟨bh,hj⟩ a8;by_cases ap:j<ps.length
       ·obtain⟨y,hy⟩:=ZE ap;have af : (j:Int)<(ps.length:Int):=by omega
        have hw:=ZD (k:=j) (by omega);obtain⟨u1,u2,u3⟩:=ab j y hy;obtain⟨yW,yH,yT,yK⟩:=y;simp only at u1 u2 u3;simp +contextual -implicitDefEqProofs (maxSteps:=10^7) only[go_sem,seval,↓gZ,hy,ap,af,hw,u1,u2];refine a8 (j+1) _ (by omega) (by omega) ?_;simp +contextual -implicitDefEqProofs (maxSteps:=10^7) only[go_sem,seval,↓gZ,u3]
       ·have:j=ps.length:=by omega
        subst this;have af : ¬(ps.length:Int)<(ps.length:Int):=by omega
        simp +contextual -implicitDefEqProofs (maxSteps:=10^7) only[go_sem,seval,↓gZ,af,Li]
     ·have a9:ps=[]:=Km (by omega);subst a9;simp +contextual -implicitDefEqProofs (maxSteps:=10^7) only[go_sem,seval,↓gZ,arQ]
  ·rw[Kn hp] at e1 e2;have e3:=Jw [] (by simp);simp only[Lv] at e1 e2 e3;refine cE ?_;simp +contextual -implicitDefEqProofs (maxSteps:=10^7) only[go_sem,seval,↓gZ,Ql,aa,ed,e1,e2,e3]
end Go.Proofs.Ytefabmohhbhlfaa
