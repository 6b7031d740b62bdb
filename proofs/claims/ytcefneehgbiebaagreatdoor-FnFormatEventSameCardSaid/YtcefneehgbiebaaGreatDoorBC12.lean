/- Own text. -/
import Derived.Test.YtcefneehgbiebaaGreatDoorBCode
import Derived.Test.YtcefneehgbiebaaGreatDoorAbsParts
import Derived.Test.YtcefneehgbiebaaGreatDoorBC7
import Derived.Test.YtcefneehgbiebaaGreatDoorBC11
namespace Go.Proofs.YtcefneehgbiebaaGreatDoor
open Go Go.Abs Go.Abs.E Go.Abs.L
open Nat (reduceMul reduceSub reduceLeDiff reduceEqDiff)
open Int (reduceLE reduceEq reduceToNat reduceNeg)
set_option linter.unusedSimpArgs false
set_option linter.unusedVariables false
set_option maxRecDepth 20000
set_option maxHeartbeats 4000000
end Go.Proofs.YtcefneehgbiebaaGreatDoor
namespace Go.Proofs.YtcefneehgbiebaaGreatDoor
open Go Go.Abs Go.Abs.E Go.Abs.L
open Nat (reduceMul reduceSub reduceLeDiff reduceEqDiff)
open Int (reduceLE reduceEq reduceToNat reduceNeg)
set_option linter.unusedSimpArgs false
set_option linter.unusedVariables false
set_option maxRecDepth 20000
set_option maxHeartbeats 4000000
theorem ZBs {e:Zz} {v:Ev} (hv:ZiV e=some v):v.ok∧v.ev.kind=e.kind:=by
 have aa:∀ n∈ZcQ e,six n:=Classical.byContradiction fun h=>by rw[ZoX h] at hv;cases hv
 obtain⟨b,hb,ab⟩:∃ b,Q6 e.plan=some b∧Ztq b:=Classical.byContradiction fun h=>by
  rw[ZjY (e:=e) fun b hb hp=>h ⟨b,hb,hp⟩] at hv;cases hv
 rw[Zk6 aa hb ab] at hv;simp only[ZcQ,Kf,Ky,or_false,forall_eq_or_imp,forall_eq] at aa;obtain⟨n1,n2,n3,n4,n5,n6,n7,n8,n9,ae⟩:=aa;have ad:Ztp e.line:=⟨ae,n7,n8,n9⟩
 simp only[six] at n2 n3 n4 n5 n6;unfold ZoW at hv;by_cases k0:e.kind=0
 ·rw[Ki k0] at hv;split at hv
  ·cases hv;exact⟨⟨by omega,by omega,by omega⟩,k0.symm⟩
  ·cases hv
 rw[Kd k0] at hv;by_cases k1:e.kind=1
 ·rw[Ki k1] at hv;cases hv;exact⟨⟨by omega,by omega,by omega,by omega,by omega⟩,k1.symm⟩
 rw[Kd k1] at hv;by_cases k2:e.kind=2
 ·rw[Ki k2] at hv;cases hv;exact⟨ad,k2.symm⟩
 rw[Kd k2] at hv;by_cases k3:e.kind=3
 ·rw[Ki k3] at hv;cases hv;exact⟨⟨by omega,ab⟩,k3.symm⟩
 rw[Kd k3] at hv;by_cases k4:e.kind=4
 ·rw[Ki k4] at hv;cases hv;exact⟨ad,k4.symm⟩
 rw[Kd k4] at hv;by_cases k5:e.kind=5
 ·rw[Ki k5] at hv;cases hv;exact⟨by show e.label.toNat≤999999;omega,k5.symm⟩
 ·rw[Kd k5] at hv;cases hv
theorem Zy1 {v:Ev} (h:v.ok):v.words.length≤6∧∀ w∈v.words,w.length≤1600:=by
 have nl:∀ n:Nat,n≤999999→(num n).length≤1600:=fun n hn=>by have:=Za8 5 n (by omega);omega
 have ln:∀ l:Zc,Ztp l→(X6 l).length=5∧∀ w∈X6 l,w.length≤1600:=by
  intro l hl;obtain⟨h1,h2,h3,h4⟩:=hl;simp only[six] at h1 h2 h3 h4;refine⟨rfl,fun w hw=>?_⟩;simp only[X6,Kf,Ky,or_false] at hw;rcases hw with rfl | rfl | rfl | rfl | rfl
  ·exact nl _ (by omega)
  ·exact nl _ (by omega)
  ·exact nl _ (by omega)
  ·cases l.Pane.Turns<;>decide
  ·exact nl _ (by omega)
 cases v with
 | sheet l w g=>
  obtain⟨h1,h2,h3⟩:=h;refine⟨by simp[Ev.words],fun x hx=>?_⟩;simp only[Ev.words,Kf,Ky,or_false] at hx;rcases hx with rfl | rfl | rfl | rfl
  ·decide
  ·exact nl _ h1
  ·exact nl _ h2
  ·exact nl _ h3
 | flaw l a b w g=>
  obtain⟨h1,h2,h3,h4,h5⟩:=h;refine⟨by simp[Ev.words],fun x hx=>?_⟩;simp only[Ev.words,Kf,Ky,or_false] at hx;rcases hx with rfl | rfl | rfl | rfl | rfl | rfl
  ·decide
  ·exact nl _ h1
  ·exact nl _ h2
  ·exact nl _ h3
  ·exact nl _ h4
  ·exact nl _ h5
 | order n=>
  obtain⟨g1,g2⟩:=ln n h;refine⟨by simp only[Ev.words,Ks];omega,fun x hx=>?_⟩;rcases Kf.1 hx with rfl | hx
  ·decide
  ·exact g2 x hx
 | cut l b=>
  obtain⟨h1,h2⟩:=h;refine⟨by simp[Ev.words],fun x hx=>?_⟩;simp only[Ev.words,Kf,Ky,or_false] at hx;rcases hx with rfl | rfl | rfl
  ·decide
  ·exact nl _ h1
  ·exact h2.2.2
 | brk n=>
  obtain⟨g1,g2⟩:=ln n h;refine⟨by simp only[Ev.words,Ks];omega,fun x hx=>?_⟩;rcases Kf.1 hx with rfl | hx
  ·decide
  ·exact g2 x hx
 | scrap l=>
  refine⟨by simp[Ev.words],fun x hx=>?_⟩;simp only[Ev.words,Kf,Ky,or_false] at hx;rcases hx with rfl | rfl
  ·decide
  ·exact nl _ h
theorem ZAg {v:Ev} (h:v.ok):v.text.length≤20000:=by
 obtain⟨h1,h2⟩:=Zy1 h;have h3:=Zk5 32 1600 v.words h2;have:v.words.length*1601≤6*1601:=KB _ h1;unfold Ev.text;omega
theorem ZBt (v:Ev):(v.text==[])=false:=by cases v<;>rfl
theorem evS_ev {s:Zq} {e:Zz} {v:Ev} (hv:ZiV e=some v):evS s e=evS s v.ev:=by
 have aa:∀ n∈ZcQ e,six n:=Classical.byContradiction fun h=>by rw[ZoX h] at hv;cases hv
 obtain⟨b,hb,ad⟩:∃ b,Q6 e.plan=some b∧Ztq b:=Classical.byContradiction fun h=>by
  rw[ZjY (e:=e) fun b hb hp=>h ⟨b,hb,hp⟩] at hv;cases hv
 have ab:=ZaE hb;rw[Zk6 aa hb ad] at hv;simp only[ZcQ,Kf,Ky,or_false,forall_eq_or_imp,forall_eq] at aa;obtain⟨n1,n2,n3,n4,n5,n6,n7,n8,n9,af⟩:=aa;obtain⟨K,L,⟨X,Y,W,H⟩,n,p⟩:=e;simp only at n1 n2 n3 n4 n5 n6 ab;have tL:=LF n2.1;have tX:=LF n3.1;have tY:=LF n4.1;have tW:=LF n5.1;have tH:=LF n6.1;unfold ZoW at hv;simp only at hv;by_cases k0:K=0
 ·rw[Ki k0] at hv;split at hv
  ·rename_i ae;obtain⟨rfl,rfl⟩:=ae;cases hv;subst k0;simp only[Ev.ev,tL,tW,tH];simp[evS]
  ·cases hv
 rw[Kd k0] at hv;by_cases k1:K=1
 ·rw[Ki k1] at hv;cases hv;subst k1;simp only[Ev.ev,tL,tX,tY,tW,tH];simp[evS]
 rw[Kd k1] at hv;by_cases k2:K=2
 ·rw[Ki k2] at hv;cases hv;subst k2;rfl
 rw[Kd k2] at hv;by_cases k3:K=3
 ·rw[Ki k3] at hv;cases hv;subst k3;simp only[Ev.ev,tL,← ab];simp[evS,ZeM]
 rw[Kd k3] at hv;by_cases k4:K=4
 ·rw[Ki k4] at hv;cases hv;subst k4;rfl
 rw[Kd k4] at hv;by_cases k5:K=5
 ·rw[Ki k5] at hv;cases hv;subst k5;simp only[Ev.ev,tL];simp[evS]
 ·rw[Kd k5] at hv;cases hv
theorem ZBu {s:Zq} {e:Zz} {v:Ev} (hv:ZiV e=some v):QZ s e=QZ s v.ev:=by unfold QZ;rw[evS_ev hv]
theorem ZAh:ZwQ []=none:=by
 cases h:ZwQ [] with
 | none=>rfl
 | some v=>
  have:=(Zsj.1 h).1;have h2:=ZBt v;rw[← this] at h2;cases h2
theorem Zfy (aa:List UInt8):Ze Xs Ms Yr [.d (.sl (aa.map JB))] []=some ((.d (.bool true)),[]):=by
 by_cases hc:aa.length≤1048576
 ·have ab : ¬(1048576:Int)<(aa.length:Int):=by omega
  obtain⟨r,ed,S,O,D,L,C,f,g,h,K,Lb,X,Y,W,H,pW,pH,pT,pK,Ct,o,a,q,t,ks,hW,hK,rfl⟩:=Zh0 aa;have e1:=Zgf S O D L C K Lb X Y W H pW pH pT pK Ct o a q t ks;have e2:=Zmw S O D L C K Lb X Y W H pW pH pT pK Ct o a q t ks (ZtB hW).1 (fun e=>(hK e).1) (fun e=>(hK e).2);have e4:=Zk7 K Lb X Y W H pW pH pT pK Ct o a q t ks;cases ha:(if ZS ⟨S,O,D,L,C⟩ then QZ ⟨S,O,D,L,C⟩ ⟨K,Lb,⟨X,Y,W,H⟩,⟨⟨pW,pH,pT,pK⟩,Ct⟩,.mk o a q t ks⟩ else none) with
  | none=>
   rw[ha] at e1 e2;unfold shV at e1 e2;have e3:=ZeQ [] [] [] 0 0 (JV Zpk);simp only[Ku] at e1 e2 e3;refine cE ?_;simp +contextual -implicitDefEqProofs (maxSteps:=10^7) only[go_sem,seval,↓gZ,QS,ab,ed,e1,e2,e3,Zk0,ZoS,bne_self_eq_false,beq_self_eq_true]
  | some z=>
   have hv:ZS ⟨S,O,D,L,C⟩:=Classical.byContradiction fun h=>by rw[Kd h] at ha;cases ha
   have ad:=ha;rw[Ki hv] at ad;rw[ha] at e1 e2;have hz:=Zph ad;obtain⟨zS,zO,zD,zL,zC⟩:=z;unfold shV at e1 e2;simp only at e1 e2;have e3:=ZeQ zS zO zD zL zC (JV hz);cases hx:ZiV ⟨K,Lb,⟨X,Y,W,H⟩,⟨⟨pW,pH,pT,pK⟩,Ct⟩,.mk o a q t ks⟩ with
   | none=>
    rw[Zcj hx] at e4;obtain⟨K',L',X',Y',W',H',ae,af,ag,ah,C',o',a',q',t',ai,e5,h5⟩:=Zf6 [] (by simp);rw[ZAh,Lh] at e5;refine cE ?_;simp +contextual -implicitDefEqProofs (maxSteps:=10^7) only[go_sem,seval,↓gZ,QS,ab,ed,e1,e2,e3,e4,e5,Zk0,ZoS,bne_self_eq_false,beq_self_eq_true]
   | some v=>
    rw[ZaQ hx] at e4;have aj:=(ZBs hx).1;obtain⟨K',L',X',Y',W',H',ae,af,ag,ah,C',o',a',q',t',ai,e5,h5⟩:=Zf6 v.text (by have:=ZAg aj;omega);rw[Zsj.2 ⟨rfl,aj⟩] at e5 h5;simp only[Lx,evM] at e5 h5;have e6:=Zgf S O D L C K' L' X' Y' W' H' ae af ag ah C' o' a' q' t' ai;rw[h5,Ki hv,← ZBu hx,ad] at e6;unfold shV at e6;simp only at e6;refine cE ?_;simp +contextual -implicitDefEqProofs (maxSteps:=10^7) only[go_sem,seval,↓gZ,QS,ab,ed,e1,e2,e3,e4,e5,e6,Zk0,ZoS,bne_self_eq_false,beq_self_eq_true]
 ·have ab : (1048576:Int)<(aa.length:Int):=by omega
  refine cE ?_;simp +contextual -implicitDefEqProofs (maxSteps:=10^7) only[go_sem,seval,↓gZ,QS,ab]
end Go.Proofs.YtcefneehgbiebaaGreatDoor
