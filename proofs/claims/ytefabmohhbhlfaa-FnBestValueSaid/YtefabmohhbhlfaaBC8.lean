/- Own text. -/
import Derived.Test.YtefabmohhbhlfaaBCode
import Derived.Test.YtefabmohhbhlfaaAbsParts
import Derived.Test.YtefabmohhbhlfaaBC1
import Derived.Test.YtefabmohhbhlfaaAbsOkD
namespace Go.Proofs.Ytefabmohhbhlfaa
open Go Go.Abs Go.Abs.E Go.Abs.L
open Nat (reduceMul reduceSub reduceLeDiff reduceEqDiff)
open Int (reduceLE reduceEq reduceToNat reduceNeg)
set_option linter.unusedSimpArgs false
set_option linter.unusedVariables false
set_option maxRecDepth 20000
set_option maxHeartbeats 4000000
theorem Zhh (bs:List UInt8) (hb:bs.length≤2000) (p:Nat) (hp:p<900000000):∃ (W H:Int) (ps:List Pane) (p' : Nat),p'≤p+31∧ps.length≤7 ∧
  Zu Xs Ms X0 [.ptr 0 0,(.d (.bool true))] [.box [.d (.sl (bs.map Wa)),(.d (J p))]]=some (.agg [(.d (J W)),(.d (J H)),.own 1],[.box [.d (.sl (bs.map Wa)),(.d (J (p')))],.row 4 (ps.map Pane.enc) true false]):=by
 have hQ:∃ r,Zu Xs Ms X0 [.ptr 0 0,(.d (.bool true))] [.box [.d (.sl (bs.map Wa)),(.d (J p))]]=some r∧∃ (W H:Int) (ps:List Pane) (p' : Nat),p'≤p+31∧ps.length≤7∧r=(.agg [(.d (J W)),(.d (J H)),.own 1],[.box [.d (.sl (bs.map Wa)),(.d (J (p')))],.row 4 (ps.map Pane.enc) true false]):=by
  obtain⟨W,hW,e1⟩:=Jx bs p [10,8,12,16,6] hb (by omega) (by simp);obtain⟨H,hH,e2⟩:=Jx bs (p+1) [8,10,6,16,12] hb (by omega) (by simp);obtain⟨v,hv,e3⟩:=Jx bs (p+1+1) [3,4,2,5,1,0,7] hb (by omega) (by simp);have ad : 6≤W∧W≤16:=by simp only[Ke,LA,or_false] at hW;omega
  have ae : 6≤H∧H≤16:=by simp only[Ke,LA,or_false] at hH;omega
  have af : 0≤v∧v≤7:=by simp only[Ke,LA,or_false] at hv;omega
  obtain⟨n,rfl⟩:∃ n:Nat,v=(n:Int):=⟨v.toNat,by omega⟩
  simp only[Ko,Lk,Qs] at e1 e2 e3;refine cW ?_;simp +contextual -implicitDefEqProofs (maxSteps:=10^7) only[go_sem,seval,↓gZ,Jb,e1,e2,e3];refine LO (α:=Nat×List Pane×Nat) (fun s=>[(6,.d (J (s.1:Int)))]) (fun s=>[(3,.row 4 (s.2.1.map Pane.enc) true false),(0,.box [.d (.sl (bs.map Wa)),(.d (J (s.2.2)))])]) (fun s=>s.1+s.2.1.length=n∧s.2.2=p+1+1+1+4*s.2.1.length) (fun s=>s.1) (n,[],p+1+1+1) ⟨by simp,by simp⟩ ?_;intro⟨k,ps,pp⟩ ⟨hk,hpp⟩ ih;simp only at hk hpp;by_cases ab:0<k
  ·have aa : (0:Int)<(k:Int):=by omega
   have hw:IntKind.i64.wrap ((k:Int)-1)=((k-1:Nat):Int):=by rw[Xt (by omega) (by omega)];omega
   have f1:=XW bs pp W hb (by omega);have f2:=XW bs (pp+1) H hb (by omega);have f3:=XW bs (pp+1+1) 2 hb (by omega);have f4:=XW bs (pp+1+1+1) 2 hb (by omega);have g1:=U7 bs pp W;have g2:=U7 bs (pp+1) H;have g3:=Zd9 bs pp W (by omega);have g4:=Zd9 bs (pp+1) H (by omega);generalize Yz bs pp W=a1 at *;generalize Yz bs (pp+1) H=a2 at *;generalize Yz bs (pp+1+1) 2=a3 at *;generalize Yz bs (pp+1+1+1) 2=a4 at *;have w1:=wi (1+a1) (by omega) (by omega);have w2:=wi (1+a2) (by omega) (by omega);have hr:(ps.length+1)*32≤140737488355328∧ps.length≤140737488355327:=by omega
   obtain⟨q,hq⟩:∃ q:Pane,q=⟨1+a1,1+a2,decide (a3=0),a4⟩:=⟨_,rfl⟩
   have e5:(ps++[q]).map Pane.enc=ps.map Pane.enc++[D.agg [J (1+a1),J (1+a2),.bool (decide (a3=0)),J a4]]:=by rw[Le,hq];rfl
   simp +contextual -implicitDefEqProofs (maxSteps:=10^7) only[go_sem,seval,↓gZ,ab,aa,f1,f2,f3,f4,w1,w2,hr,hw];refine ih (k-1,ps++[q],pp+1+1+1+1) _ ⟨by simp only[Ki,Kk,KM];omega,by simp only[Ki,Kk,KM];omega⟩ (by simp only;omega) ?_;simp +contextual -implicitDefEqProofs (maxSteps:=10^7) only[go_sem,seval,↓gZ,e5]
  ·have:k=0:=by omega
   subst this;simp +contextual -implicitDefEqProofs (maxSteps:=10^7) only[go_sem,seval,↓gZ];exact⟨W,H,ps,pp,by omega,by omega,rfl⟩
 obtain⟨r,h1,W,H,ps,p',h2,h3,rfl⟩:=hQ;exact⟨W,H,ps,p',h2,h3,h1⟩
theorem Zdq (bs:List UInt8) (hb:bs.length≤2000) (p:Nat) (hp:p<900000000):∃ (W H:Int) (ps:List Pane) (p' : Nat),p'≤p+33∧ps.length≤7 ∧
  Zu Xs Ms Xy [.ptr 0 0,(.d (.bool true))] [.box [.d (.sl (bs.map Wa)),(.d (J p))]]=some (.agg [(.d (J W)),(.d (J H)),.own 1],[.box [.d (.sl (bs.map Wa)),(.d (J (p')))],.row 4 (ps.map Pane.enc) true false]):=by
 obtain⟨W,H,ps,p',h1,h2,e1⟩:=Zhh bs hb p hp;have e2:=XW bs p' 16 hb (by omega);generalize Yz bs p' 16=c at e2;by_cases c0:c=0
 ·obtain⟨v,_,e3⟩:=Jx bs (p'+1) [0,17,201] hb (by omega) (by simp);simp only[Ko,Lk,Qs] at e3;refine⟨v,H,ps,p'+1+1,by omega,h2,?_⟩;refine cE ?_;simp +contextual -implicitDefEqProofs (maxSteps:=10^7) only[go_sem,seval,↓gZ,QZ,e1,e2,c0,e3]
 ·by_cases c1:c=1
  ·cases ps with
   | nil=>
    refine⟨W,H,[],p'+1,by omega,h2,?_⟩;refine cE ?_;simp +contextual -implicitDefEqProofs (maxSteps:=10^7) only[go_sem,seval,↓gZ,QZ,e1,e2,c0,c1]
   | cons q ps=>
    obtain⟨qW,qH,qT,qK⟩:=q;have hn:(0:Int)<(((ps.length+1:Nat)):Int):=by omega
    have aa:0<ps.length+1:=by omega
    refine⟨W,H,⟨IntKind.i64.wrap (W+1),qH,qT,qK⟩ :: ps,p'+1,by omega,by simpa using h2,?_⟩;simp only[Ko,Pane.enc] at e1 ⊢;refine cE ?_;simp +contextual -implicitDefEqProofs (maxSteps:=10^7) only[go_sem,seval,↓gZ,QZ,e1,e2,c0,c1,hn,aa,Lg]
  ·refine⟨W,H,ps,p'+1,by omega,h2,?_⟩;refine cE ?_;simp +contextual -implicitDefEqProofs (maxSteps:=10^7) only[go_sem,seval,↓gZ,QZ,e1,e2,c0,c1]
theorem Zcq (aa:List UInt8):∃ (W H:Int) (ps:List Pane) (vs:List Int),ps.length≤7∧vs.length≤7 ∧
  Zu Xs Ms QS [.d (.sl (aa.map Wa))] []=some (.tup [.agg [(.d (J W)),(.d (J H)),.own 0],.own 1],[.row 4 (ps.map Pane.enc) true false,.row 1 (vs.map Qs) true false]):=by
 have e1:=Zg2 aa;have hb:(aa.take 2000).length≤2000:=by simp;omega
 obtain⟨W,H,ps,p1,h1,h2,e2⟩:=Zdq (aa.take 2000) hb 0 (by omega);rw[Int.natCast_zero] at e2;generalize aa.take 2000=bs at *;have hQ:∃ r,Zu Xs Ms QS [.d (.sl (aa.map Wa))] []=some r∧∃ (vs:List Int),vs.length≤7∧r=(.tup [.agg [(.d (J W)),(.d (J H)),.own 0],.own 1],[.row 4 (ps.map Pane.enc) true false,.row 1 (vs.map Qs) true false]):=by
  refine cW ?_;simp +contextual -implicitDefEqProofs (maxSteps:=10^7) only[go_sem,seval,↓gZ,VY,e1,e2];refine LO (α:=Nat×List Int×Nat) (fun s=>[(7,.d (J (s.1:Int)))]) (fun s=>[(2,.box [.d (.sl (bs.map Wa)),(.d (J (s.2.2)))]),(0,.row 1 (s.2.1.map Qs) true false)]) (fun s=>s.1≤ps.length∧s.2.1.length=s.1∧s.2.2=p1+4*s.1) (fun s=>ps.length-s.1) (0,[],p1) ⟨by simp,by simp,by simp⟩ ?_;intro⟨i,vs,pp⟩ ⟨hi,hvl,hpp⟩ ih;simp only at hi hvl hpp;by_cases ad:i<ps.length
  ·have ab : (i:Int)<(ps.length:Int):=by omega
   obtain⟨⟨qW,qH,qT,qK⟩,hx⟩:=Z1 ad;have hw:=ZE (k:=i) (by omega);have f1:=XW bs pp 9 hb (by omega);have f2:=XW bs (pp+1) 50 hb (by omega);have f3:=XW bs (pp+1+1) 50 hb (by omega);generalize Yz bs pp 9=a1 at *;generalize Yz bs (pp+1) 50=a2 at *;generalize Yz bs (pp+1+1) 50=a3 at *;obtain⟨v,_,f4⟩:=Jx bs (pp+1+1+1) [IntKind.i64.wrap (IntKind.i64.wrap (qW*qH)+a1),IntKind.i64.wrap (1+a2),IntKind.i64.wrap (1+a3)] hb (by omega) (by simp);simp only[Ko,Lk,Qs] at f4;have hr:(vs.length+1)*8≤140737488355328∧vs.length≤140737488355327:=by omega
   have e5:(vs++[v]).map Qs=vs.map Qs++[J v]:=by rw[Le];rfl
   simp +contextual -implicitDefEqProofs (maxSteps:=10^7) only[go_sem,seval,↓gZ,ad,ab,hx,hw,f1,f2,f3,f4,hr];refine ih (i+1,vs++[v],pp+1+1+1+1) _ ⟨by simp only;omega,by simp only[Ki,Kk,KM];omega,by simp only;omega⟩ (by simp only;omega) ?_;simp +contextual -implicitDefEqProofs (maxSteps:=10^7) only[go_sem,seval,↓gZ,e5]
  ·have ag:i=ps.length:=by omega
   have ab : ¬(i:Int)<(ps.length:Int):=by omega
   have g1:=XW bs pp 12 hb (by omega);generalize Yz bs pp 12=c at *;cases vs with
   | nil=>
    simp +contextual -implicitDefEqProofs (maxSteps:=10^7) only[go_sem,seval,↓gZ,ad,ab];exact⟨[],by simp,rfl⟩
   | cons x vs=>
    have ae:(0:Int)<((vs.length+1:Nat):Int):=by omega
    have af:0<vs.length+1:=by omega
    simp only[Kk] at hvl;by_cases c0:c=0
    ·obtain⟨v,_,g2⟩:=Jx bs (pp+1) [0,1001] hb (by omega) (by simp);simp only[Ko,Lk,Qs] at g2;simp +contextual -implicitDefEqProofs (maxSteps:=10^7) only[go_sem,seval,↓gZ,ad,ab,Ko,Qs,ae,af,g1,c0,g2,Lg];exact⟨v :: vs,by simp only[Kk];omega,rfl⟩
    ·simp +contextual -implicitDefEqProofs (maxSteps:=10^7) only[go_sem,seval,↓gZ,ad,ab,Ko,Qs,ae,af,g1,c0];exact⟨x :: vs,by simp only[Kk];omega,rfl⟩
 obtain⟨r,h3,vs,h4,rfl⟩:=hQ;exact⟨W,H,ps,vs,h2,h4,h3⟩
end Go.Proofs.Ytefabmohhbhlfaa
