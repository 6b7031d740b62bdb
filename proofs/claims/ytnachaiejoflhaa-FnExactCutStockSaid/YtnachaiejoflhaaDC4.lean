/- Own text. -/
import Derived.Test.YtnachaiejoflhaaDCode
import Derived.Test.YtnachaiejoflhaaAbsParts
import Derived.Test.YtnachaiejoflhaaDC3
import Derived.Test.YtnachaiejoflhaaAbsOkD
namespace Go.Proofs.Ytnachaiejoflhaa
open Go Go.Abs Go.Abs.E Go.Abs.L
open Nat (reduceMul reduceSub reduceLeDiff reduceEqDiff)
open Int (reduceLE reduceEq reduceToNat reduceNeg)
set_option linter.unusedSimpArgs false
set_option linter.unusedVariables false
set_option maxRecDepth 20000
set_option maxHeartbeats 4000000
theorem Zpt {b c:Int} (h:b≤c):∀ {l:List Zf},XH c l→XH b l
 | [],_=>trivial
 | x :: l,hs=>⟨hs.1,by have:=hs.2.1;omega,hs.2.2⟩
theorem ZgK:∀ {l:List Zf} {b:Int} (i:Nat),XH b l→XH b (l.eraseIdx i)
 | [],b,i,_=>by simp[XH]
 | x :: l,b,0,h=>by
  simp only[List.eraseIdx_cons_zero];exact Zpt (by have:=h.2.1;omega) h.2.2
 | x :: l,b,i+1,h=>by
  simp only[List.eraseIdx_cons_succ];exact⟨h.1,h.2.1,ZgK i h.2.2⟩
theorem ZfY:∀ {l:List Zf} {b:Int},XH b l→∀ (i j:Nat) (x y:Zf),i≤j→l[i]?=some x→l[j]?=some y→x.Label≤y.Label∧b<x.Label
 | [],b,_,i,j,x,y,_,hx,_=>by simp at hx
 | z :: l,b,h,0,0,x,y,_,hx,hy=>by
  simp at hx hy;subst hx;subst hy;exact⟨Int.le_refl _,h.2.1⟩
 | z :: l,b,h,0,j+1,x,y,_,hx,hy=>by
  simp at hx hy;subst hx;have:=(ZfY h.2.2 j j y y (Kg _) hy hy).2;exact⟨by omega,h.2.1⟩
 | z :: l,b,h,i+1,j+1,x,y,hij,hx,hy=>by
  simp at hx hy;have:=ZfY h.2.2 i j x y (by omega) hx hy;have h2:=h.2.1;exact⟨this.1,by omega⟩
 | z :: l,b,h,i+1,0,x,y,hij,hx,hy=>by omega
theorem ZiV {q:Zf} (hq:VPc q):∀ {L:List Box} {n c:Int},c<n→1≤n→(∀ b∈L,VB b∧Ye b ⟨0,0,q.W,q.H⟩)→(XH c (VC q n L)↔(L=[]∨(L.length:Int)≤10000-n))
 | [],n,c,_,_,_=>by simp[VC,XH]
 | b :: L,n,c,hc,h1,hb=>by
  have ih:=ZiV hq (L:=L) (n:=n+1) (c:=n) (by omega) (by omega) (fun d hd=>hb d (by simp[hd]));have hv:VPc (ZfF q b n)↔n≤9999:=⟨fun h=>by have:=h.1.2.1;simpa [ZfF] using this,fun h=>ZoV hq (hb b (by simp)).1 (hb b (by simp)).2 h1 h⟩
  simp only[VC,XH,hv,ih];have e:(ZfF q b n).Label=n:=rfl;rw[e,ih];have hl:((b :: L).length:Int)=L.length+1:=by simp
  constructor
  ·rintro ⟨g1,g2,g3⟩
   right
   rcases g3 with rfl | g3
   ·simp only[Kp,KY];omega
   ·omega
  ·rintro (g | g)
   ·cases g
   ·refine⟨by omega,hc,?_⟩;by_cases h0:L=[]
    ·exact .inl h0
    ·exact .inr (by omega)
theorem Zld {B:List Zf} {n:Int} {Q:Prop} (hB:∀ c,c<n→(XH c B↔Q)):∀ {A:List Zf} {b:Int},XH b A→(∀ x∈A,x.Label<n)→b<n→(XH b (A++B)↔Q)
 | [],b,_,_,hb=>hB b hb
 | x :: A,b,h,hx,hb=>by
  have ih:=Zld hB h.2.2 (fun y hy=>hx y (by simp[hy])) (hx x (by simp));simp only[KI,XH,ih];exact⟨fun g=>g.2.2,fun g=>⟨h.1,h.2.1,g⟩⟩
theorem ZiW {l:List Zf} (hv:VSt l) (ab:0<l.length):1≤Ys l∧Ys l≤9999∧∀ x∈l,x.Label≤Ys l:=by
 obtain⟨y,hy⟩:=ZJ (l:=l) (k:=l.length-1) (by omega);rw[ZfX hy];have aa:=(YY hv.2 y (Ke hy)).1;refine⟨aa.1,aa.2.1,fun x hx=>?_⟩;obtain⟨i,hi⟩:=K7 hx;have:=(Kc.1 hi).1;exact(ZfY hv.2 i (l.length-1) x y (by omega) hi hy).1
def ZgU (l:List Zf) (i:Nat) (x:Zf) (k:Zz) (p:Ze) (Zg:Int):List Zf:=l.eraseIdx i++VC x (Ys l+1) (Qz k p Zg)
theorem ZtJ {l:List Zf} {i:Nat} {x:Zf} {k:Zz} {p:Ze} {Zg:Int} (hv:VSt l) (hx:l[i]?=some x) (hg:Yp x k p) :
  VSt (ZgU l i x k p Zg)↔((Qz k p Zg).length:Int)≤10000-(Ys l+1)∧(l.eraseIdx i).length+(Qz k p Zg).length≤20:=by
 have ab:=(Kc.1 hx).1;obtain⟨h1,h2,h3⟩:=ZiW hv (by omega);have hq:=YY hv.2 x (Ke hx);have aa:∀ b∈Qz k p Zg,VB b∧Ye b ⟨0,0,x.W,x.H⟩:=fun b hb=>by
  have:=Zid (Zg:=Zg) hg.1 b hb;rw[← hg.2.1,← hg.2.2.1];exact this
 have hs:=Zld (n:=Ys l+1) (fun c hc=>ZiV hq hc (by omega) aa) (ZgK i hv.2) (fun y hy=>by have:=h3 y (List.mem_of_mem_eraseIdx hy);omega) (by omega);unfold VSt ZgU;rw[hs,Ks,Ja];constructor
 ·rintro ⟨g1,g2 | g2⟩
  ·exact⟨by rw[g2];simp;omega,g1⟩
  ·exact⟨g2,g1⟩
 ·rintro ⟨g1,g2⟩
  exact⟨g2,.inr g1⟩
def Zfg (l:List Zf) (n:Int) (k:Zz) (p:Ze) (Zg:Int):Option (List Zf):=
 if VSt l∧0≤Wh 0 l n∧1≤Zg∧Zg≤200 then
  match l[(Wh 0 l n).toNat]? with
  | some x=>if Yp x k p∧VSt (ZgU l (Wh 0 l n).toNat x k p Zg) then some (ZgU l (Wh 0 l n).toNat x k p Zg) else none
  | none=>none
 else none
def Zmc:Option (List Zf)→AV×List Zk
 | some R=>(.tup [.own 0,(.d (.bool true))],[.row 4 (R.map Zf.enc) true false])
 | none=>(.tup [.own 0,(.d (.bool false))],[.row 4 [] true false])
theorem ZnP {l:List Zf} {n:Int} (h:0≤Wh 0 l n):∃ (i:Nat) (x:Zf),Wh 0 l n=(i:Int)∧l[i]?=some x:=by
 rcases ZiT l 0 n with h1 | ⟨i,h1,h2⟩
 ·omega
 ·obtain⟨x,hx⟩:=ZJ h2;exact⟨i,x,by rw[h1];simp,hx⟩
def Zmd:Option (List Zf)→AV×List Zk
 | some R=>(.tup [.own 0,(.d (.bool true))],[.tree 4 4 (R.map Zf.enc) none])
 | none=>(.tup [.own 0,(.d (.bool false))],[.row 4 [] true false])
theorem ZjF (l:List Zf) (n:Int) (kW kH:Int) (kP:List Pane) (p:Ze) (Zg:Int):Zh Xs Ms YZ [(.d (.sl (l.map Zf.enc))),(.d (J n)),(.d (.agg [J kW,J kH,.sl (kP.map Pane.enc)])),.d p.enc,(.d (J Zg))] []=some (Zmd (Zfg l n (Zz.mk kW kH kP) p Zg)):=by
 by_cases h:VSt l∧0≤Wh 0 l n
 ·obtain⟨hv,hf⟩:=h;obtain⟨i,x,hi,hx⟩:=ZnP hf;have ah:=(Kc.1 hx).1;have hq:=YY hv.2 x (Ke hx);have ai:=ZiW hv (by omega);obtain⟨y,hy⟩:=ZJ (l:=l) (k:=l.length-1) (by omega);have ad:=ZfX hy;have af:=hv.1;have aa:=ZtJ (k:=(Zz.mk kW kH kP)) (p:=p) (Zg:=Zg) hv hx;have et:=fun q1 q2 q3 q4 h=>ZgT l n hv i hi q1 q2 q3 q4 h;unfold Zfg;rw[hi];simp only[Int.toNat_natCast,hx];obtain⟨L,W,H,F⟩:=x;have et:=et L W H F hx;have eg:=ZjD L W H F kW kH kP p;have aj:(l.eraseIdx i).length≤20:=KD (Zma _ _) af;have ab:l.length-1<l.length:=by omega
  have w1:IntKind.i64.wrap ((l.length:Int)-1)=((l.length-1:Nat):Int):=by rw[J0 (by omega) (by omega)];omega
  have w2:=wi (Ys l+1) (by omega) (by omega);by_cases hg:Yp ⟨L,W,H,F⟩ (Zz.mk kW kH kP) p
  ·have hd:decide (VPc ⟨L,W,H,F⟩∧Yp ⟨L,W,H,F⟩ (Zz.mk kW kH kP) p)=true:=Le ⟨hq,hg⟩;rw[hd] at eg;by_cases hl:1≤Zg∧Zg≤200
   ·have n1:¬Zg<1:=by omega
    have n2:¬200<Zg:=by omega
    have ag:=Zc9 (Zz.mk kW kH kP) p Zg;by_cases hk:((Qz (Zz.mk kW kH kP) p Zg).length:Int)≤10000-(Ys l+1)
    ·have er:=Zfe L W H F kW kH kP p Zg (Ys l+1) hq hg.1 hg.2.1 hg.2.2.1 (by omega) (by omega) hk;have w3:=wi (((l.eraseIdx i).length:Int)+((Qz (Zz.mk kW kH kP) p Zg).length:Int)) (by omega) (by omega);have ae:=Ja ⟨L,W,H,F⟩ (Ys l+1) (Qz (Zz.mk kW kH kP) p Zg);by_cases h2:(l.eraseIdx i).length+(Qz (Zz.mk kW kH kP) p Zg).length≤20
     ·rw[Kt ⟨hv,by omega,hl⟩,Kt ⟨hg,(aa hg).2 ⟨hk,h2⟩⟩];unfold ZgU Zmd;have n3:¬(20:Int)<((l.eraseIdx i).length:Int)+((Qz (Zz.mk kW kH kP) p Zg).length:Int):=by omega
      have hr:((l.eraseIdx i).length+(Qz (Zz.mk kW kH kP) p Zg).length)*48≤140737488355328∧(l.eraseIdx i).length+(Qz (Zz.mk kW kH kP) p Zg).length≤140737488355328:=by omega
      clear aa hg hd;generalize VC ⟨L,W,H,F⟩ (Ys l+1) (Qz (Zz.mk kW kH kP) p Zg)=R at er ae ⊢;generalize (Qz (Zz.mk kW kH kP) p Zg).length=N at *;obtain⟨yL,yW,yH,yF⟩:=y;simp only at ad;rw[ad] at er w2;obtain⟨o,a,m,t,ks⟩:=p;rw[Ze.enc_mk] at er eg ⊢;refine cE ?_;simp +contextual -implicitDefEqProofs (maxSteps:=10^7) only[go_sem,seval,↓gZ,Q6,et,eg,n1,n2,w1,hy,ab,w2,er,ae,w3,n3,hr]
     ·rw[Kt ⟨hv,by omega,hl⟩,Kn (fun h=>h2 ((aa hg).1 h.2).2)];unfold Zmd;have n3:(20:Int)<((l.eraseIdx i).length:Int)+((Qz (Zz.mk kW kH kP) p Zg).length:Int):=by omega
      clear aa hg hd;generalize VC ⟨L,W,H,F⟩ (Ys l+1) (Qz (Zz.mk kW kH kP) p Zg)=R at er ae ⊢;generalize (Qz (Zz.mk kW kH kP) p Zg).length=N at *;obtain⟨yL,yW,yH,yF⟩:=y;simp only at ad;rw[ad] at er w2;obtain⟨o,a,m,t,ks⟩:=p;rw[Ze.enc_mk] at er eg ⊢;refine cE ?_;simp +contextual -implicitDefEqProofs (maxSteps:=10^7) only[go_sem,seval,↓gZ,Q6,et,eg,n1,n2,w1,hy,ab,w2,er,ae,w3,n3]
    ·have er:=ZfV L W H F kW kH kP p Zg (Ys l+1) (by omega) (by omega) hk;rw[Kt ⟨hv,by omega,hl⟩,Kn (fun h=>hk ((aa hg).1 h.2).1)];unfold Zmd;clear aa hg hd hk ag;obtain⟨yL,yW,yH,yF⟩:=y;simp only at ad;rw[ad] at er w2;obtain⟨o,a,m,t,ks⟩:=p;rw[Ze.enc_mk] at er eg ⊢;refine cE ?_;simp +contextual -implicitDefEqProofs (maxSteps:=10^7) only[go_sem,seval,↓gZ,Q6,et,eg,n1,n2,w1,hy,ab,w2,er]
   ·rw[Kn (fun h=>hl ⟨h.2.2.1,h.2.2.2⟩)];unfold Zmd;clear aa hg hd;obtain⟨o,a,m,t,ks⟩:=p;rw[Ze.enc_mk] at eg ⊢;by_cases n1:Zg<1
    ·refine cE ?_;simp +contextual -implicitDefEqProofs (maxSteps:=10^7) only[go_sem,seval,↓gZ,Q6,et,eg,n1]
    ·have n2:200<Zg:=by omega
     refine cE ?_;simp +contextual -implicitDefEqProofs (maxSteps:=10^7) only[go_sem,seval,↓gZ,Q6,et,eg,n1,n2]
  ·have hd:decide (VPc ⟨L,W,H,F⟩∧Yp ⟨L,W,H,F⟩ (Zz.mk kW kH kP) p)=false:=Lh fun h=>hg h.2;rw[hd] at eg;have e0:(if VSt l∧(0:Int)≤(i:Int)∧1≤Zg∧Zg≤200 then (if Yp ⟨L,W,H,F⟩ (Zz.mk kW kH kP) p∧VSt (ZgU l i ⟨L,W,H,F⟩ (Zz.mk kW kH kP) p Zg) then some (ZgU l i ⟨L,W,H,F⟩ (Zz.mk kW kH kP) p Zg) else none) else none)=none:=by
    rw[Kn (fun h:Yp ⟨L,W,H,F⟩ (Zz.mk kW kH kP) p∧_=>hg h.1)];split<;>rfl
   rw[e0];unfold Zmd;clear aa hg hd e0;obtain⟨o,a,m,t,ks⟩:=p;rw[Ze.enc_mk] at eg ⊢;refine cE ?_;simp +contextual -implicitDefEqProofs (maxSteps:=10^7) only[go_sem,seval,↓gZ,Q6,et,eg]
 ·have et:=ZiU l n h;have e0:Zfg l n (Zz.mk kW kH kP) p Zg=none:=by
   unfold Zfg;rw[Kn (fun g=>h ⟨g.1,g.2.1⟩)]
  rw[e0];unfold Zmd;clear e0;obtain⟨o,a,m,t,ks⟩:=p;rw[Ze.enc_mk];refine cE ?_;simp +contextual -implicitDefEqProofs (maxSteps:=10^7) only[go_sem,seval,↓gZ,Q6,et]
theorem Zpu {l:List Zf} {i:Nat} {x:Zf} {k:Zz} {p:Ze} {Zg:Int} (hv:VSt l) (hx:l[i]?=some x) (hg:Yp x k p) :
  (ZgU l i x k p Zg).length≤1000∧∀ y∈ZgU l i x k p Zg,y.Flaws.length<4611686018427387904∧R64 y.W∧R64 y.H:=by
 have hq:=YY hv.2 x (Ke hx);refine⟨?_,fun y hy=>?_⟩
 ·unfold ZgU;rw[Ks,Ja];have:=Zc9 k p Zg;have:=Zma l i;have:=hv.1;omega
 ·rcases Kd.1 hy with hy | hy
  ·have h:=YY hv.2 y (List.mem_of_mem_eraseIdx hy);have h1:=h.1;exact⟨by omega,⟨by omega,by omega⟩,⟨by omega,by omega⟩⟩
  ·obtain⟨j,hj⟩:=K7 hy;obtain⟨b,hb,rfl⟩:=ZnN x _ _ j y hj;have aa:=(Zid (Zg:=Zg) hg.1 b (Ke hb)).1;simp only[VB] at aa;have ab:=Kq (Xp b) x.Flaws;have ad:=hq.1.2.2.2.2.2.2;simp only[ZfF];exact⟨by omega,⟨by omega,by omega⟩,⟨by omega,by omega⟩⟩
theorem ZjG (l:List Zf) (n:Int) (kW kH:Int) (kP:List Pane) (p:Ze) (Zg:Int) (hl:l.length≤1048576) (hS:∀ x∈l,x.Flaws.length≤1048576∧R64 x.W∧R64 x.H) (hk:kP.length<4611686018427387904):Zh Xs Ms Wk [(.d (.sl (l.map Zf.enc))),(.d (J n)),(.d (.agg [J kW,J kH,.sl (kP.map Pane.enc)])),.d p.enc,(.d (J Zg))] []=some (Zmc (Zfg l n (Zz.mk kW kH kP) p Zg)):=by
 have ev:=ZbL l (by omega) (fun x hx=>by obtain⟨g1,g2,g3⟩:=hS x hx;exact⟨by omega,g2,g3⟩);have ef:=ZiQ l n (by omega);unfold Zfg;by_cases hv:VSt l
 ·rw[Le hv] at ev;by_cases hf:0≤Wh 0 l n
  ·obtain⟨i,x,hi,hx⟩:=ZnP hf;rw[hi] at ef ⊢;have ad:¬(i:Int)<0:=by omega
   have af:=(Kc.1 hx).1;simp only[Int.toNat_natCast,hx];by_cases hr:1≤Zg∧Zg≤200
   ·have hq:=YY hv.2 x (Ke hx);have al:=ZiW hv (by omega);have ew:=Zmb l i (by omega) (fun x hx=>by have:=(hS x hx).1;omega);have el:=ZiS l (by omega);have w2:=wi (Ys l+1) (by omega) (by omega);rw[Kt ⟨hv,by omega,hr⟩];by_cases hg:Yp x (Zz.mk kW kH kP) p
    ·have ag:=Zpu (Zg:=Zg) hv hx hg;have aa:=ZbL (ZgU l i x (Zz.mk kW kH kP) p Zg) (by omega) ag.2;have aj:(l.eraseIdx i).length≤20:=KD (Zma _ _) hv.1;have am:=Zc9 (Zz.mk kW kH kP) p Zg;obtain⟨L,W,H,F⟩:=x;have eg:=ZdJ L W H F kW kH kP p (fun f hf=>(hq.2 f hf).1) hq.1.2.2.2.2.2.2 hk;have er:=ZjE L W H F kW kH kP p Zg (Ys l+1) hq hg.1 (by omega) (by omega);rw[Le hg] at eg;have ae:=Ja ⟨L,W,H,F⟩ (Ys l+1) (Qz (Zz.mk kW kH kP) p Zg);have ai:((l.eraseIdx i).length+(Qz (Zz.mk kW kH kP) p Zg).length)*48≤140737488355328∧(l.eraseIdx i).length+(Qz (Zz.mk kW kH kP) p Zg).length≤140737488355328:=by omega
     unfold ZgU at aa ⊢;have ah:=hg;clear hg;by_cases ab:VSt (l.eraseIdx i++VC ⟨L,W,H,F⟩ (Ys l+1) (Qz (Zz.mk kW kH kP) p Zg))
     ·rw[Le ab] at aa;rw[Kt ⟨ah,ab⟩];unfold Zmc;clear ab ag ah;generalize VC ⟨L,W,H,F⟩ (Ys l+1) (Qz (Zz.mk kW kH kP) p Zg)=R at er ae aa ⊢;generalize (Qz (Zz.mk kW kH kP) p Zg).length=N at *;obtain⟨o,a,m,t,ks⟩:=p;rw[Ze.enc_mk] at er eg ⊢;refine cE ?_;simp +contextual -implicitDefEqProofs (maxSteps:=10^7) only[go_sem,seval,↓gZ,Xv,ev,ef,ad,ZX,hr,hx,af,eg,ew,el,w2,er,ae,ai,aa]
     ·rw[Lh ab] at aa;rw[Kn (fun h=>ab h.2)];unfold Zmc;clear ab ag ah;generalize VC ⟨L,W,H,F⟩ (Ys l+1) (Qz (Zz.mk kW kH kP) p Zg)=R at er ae aa ⊢;generalize (Qz (Zz.mk kW kH kP) p Zg).length=N at *;obtain⟨o,a,m,t,ks⟩:=p;rw[Ze.enc_mk] at er eg ⊢;refine cE ?_;simp +contextual -implicitDefEqProofs (maxSteps:=10^7) only[go_sem,seval,↓gZ,Xv,ev,ef,ad,ZX,hr,hx,af,eg,ew,el,w2,er,ae,ai,aa]
    ·rw[Kn (fun h=>hg h.1)];obtain⟨L,W,H,F⟩:=x;have eg:=ZdJ L W H F kW kH kP p (fun f hf=>(hq.2 f hf).1) hq.1.2.2.2.2.2.2 hk;rw[Lh hg] at eg;unfold Zmc;clear hg;obtain⟨o,a,m,t,ks⟩:=p;rw[Ze.enc_mk] at eg ⊢;refine cE ?_;simp +contextual -implicitDefEqProofs (maxSteps:=10^7) only[go_sem,seval,↓gZ,Xv,ev,ef,ad,ZX,hr,hx,af,eg]
   ·rw[Kn (fun h=>hr h.2.2)];unfold Zmc;obtain⟨o,a,m,t,ks⟩:=p;rw[Ze.enc_mk];refine cE ?_;simp +contextual -implicitDefEqProofs (maxSteps:=10^7) only[go_sem,seval,↓gZ,Xv,ev,ef,ad,ZX,hr]
  ·rw[Kn (fun h=>hf h.2.1)];have ak : Wh 0 l n<0:=by omega
   unfold Zmc;obtain⟨o,a,m,t,ks⟩:=p;rw[Ze.enc_mk];refine cE ?_;simp +contextual -implicitDefEqProofs (maxSteps:=10^7) only[go_sem,seval,↓gZ,Xv,ev,ef,ak]
 ·rw[Lh hv] at ev;rw[Kn (fun h=>hv h.1)];unfold Zmc;obtain⟨o,a,m,t,ks⟩:=p;rw[Ze.enc_mk];refine cE ?_;simp +contextual -implicitDefEqProofs (maxSteps:=10^7) only[go_sem,seval,↓gZ,Xv,ev]
end Go.Proofs.Ytnachaiejoflhaa
