/- Own text. -/
import Derived.Test.YtefabmohhbhlfaaACode
import Derived.Test.YtefabmohhbhlfaaAbsParts
import Derived.Test.YtefabmohhbhlfaaAC4
import Derived.Test.YtefabmohhbhlfaaAC11
import Derived.Test.YtefabmohhbhlfaaAC15
import Derived.Test.YtefabmohhbhlfaaAbsOkD
namespace Go.Proofs.Ytefabmohhbhlfaa
open Go Go.Abs Go.Abs.E Go.Abs.L
open Nat (reduceMul reduceSub reduceLeDiff reduceEqDiff)
open Int (reduceLE reduceEq reduceToNat reduceNeg)
set_option linter.unusedSimpArgs false
set_option linter.unusedVariables false
set_option maxRecDepth 20000
set_option maxHeartbeats 4000000
abbrev ZlY (vs:List Int):Prop:=∀ v∈vs,1≤v∧v≤1000
abbrev Zar (k:ZN) (vs:List Int):Prop:=(VW k∧k.W≤16∧k.H≤16)∧(k.Panes.length≤7∧vs.length=k.Panes.length)∧ZlY vs
theorem ZdD (kW kH:Int) (kP:List Pane) (vs:List Int) (hl:vs.length≤1000):Zi Xs Ms Vy [(.d (.agg [J kW,J kH,.sl (kP.map Pane.enc)])),.d (.sl (vs.map Qp))] []=some ((.d (.bool (decide (Zar (ZN.mk kW kH kP) vs)))),[]):=by
 have e1:=X4 kW kH kP;by_cases h1:VW (ZN.mk kW kH kP)
 ·rw[Kw h1] at e1;by_cases h2:kW≤16∧kH≤16
  ·obtain⟨h2,h3⟩:=h2;have n2:¬16<kW:=by omega
   have n3:¬16<kH:=by omega
   by_cases h4:kP.length≤7∧vs.length=kP.length
   ·obtain⟨h4,h5⟩:=h4;have n4:¬(7:Int)<(kP.length:Int):=by omega
    have e2:decide (Zar (ZN.mk kW kH kP) vs)=decide (ZlY vs):=by
     by_cases h6:ZlY vs
     ·rw[Kw h6,Kw (⟨⟨h1,h2,h3⟩,⟨h4,h5⟩,h6⟩:Zar (ZN.mk kW kH kP) vs)]
     ·rw[Kq h6,Kq fun h=>h6 h.2.2]
    rw[e2];refine cE ?_;simp +contextual -implicitDefEqProofs (maxSteps:=10^7) only[go_sem,seval,↓gZ,XM,e1,n2,n3,n4,h5];refine Qw Xs Ms (st0:=?st0) (α:=Nat) (fun i=>[(34,.d (J (i:Int)))]) (fun _=>[]) (fun i=>i≤vs.length∧∀ v∈vs.take i,1≤v∧v≤1000) (fun i=>vs.length-i) 0 ?hc ⟨by omega,by simp⟩ ?h0 ?step
    case hc=>simp +contextual -implicitDefEqProofs (maxSteps:=10^7) only[go_sem,seval,↓gZ]<;>exact rfl
    case h0=>simp only[h5];rfl
    case step=>
     intro i ⟨hi,hb⟩ ih;by_cases ab:i<kP.length
     ·obtain⟨v,hx⟩:=ZY (l:=vs) (k:=i) (by omega);have hw:=Zn (k:=i) (by omega);have ae:=Kp hx;by_cases c1:v<1
      ·have aa:¬ZlY vs:=fun h=>by have:=(h v ae).1;omega
       rw[Kq aa];simp +contextual -implicitDefEqProofs (maxSteps:=10^7) only[go_sem,seval,↓gZ,hx,ab,h5,c1]
      ·by_cases c2:1000<v
       ·have aa:¬ZlY vs:=fun h=>by have:=(h v ae).2;omega
        rw[Kq aa];simp +contextual -implicitDefEqProofs (maxSteps:=10^7) only[go_sem,seval,↓gZ,hx,ab,h5,c1,c2]
       ·simp +contextual -implicitDefEqProofs (maxSteps:=10^7) only[go_sem,seval,↓gZ,hx,ab,h5,c1,c2,hw];refine ih (i+1) _ ⟨by omega,fun y hy=>?_⟩ (by omega) ?_
        ·rw[KC,hx] at hy;simp only[LC,Kc,KA] at hy;rcases hy with hy | rfl
         ·exact hb y hy
         ·omega
        ·simp +contextual -implicitDefEqProofs (maxSteps:=10^7) only[go_sem,seval,↓gZ,h5]
     ·have af:i=vs.length:=by omega
      subst af;rw[Ll] at hb;have ad:ZlY vs:=hb;rw[Kw ad];simp +contextual -implicitDefEqProofs (maxSteps:=10^7) only[go_sem,seval,↓gZ,h5]
   ·have aa:¬Zar (ZN.mk kW kH kP) vs:=fun h=>h4 h.2.1;rw[Kq aa];by_cases h5:kP.length≤7
    ·have n4:¬(7:Int)<(kP.length:Int):=by omega
     have n5:¬(vs.length:Int)=(kP.length:Int):=by omega
     refine cE ?_;simp +contextual -implicitDefEqProofs (maxSteps:=10^7) only[go_sem,seval,↓gZ,XM,e1,n2,n3,n4,n5]
    ·have n4:(7:Int)<(kP.length:Int):=by omega
     refine cE ?_;simp +contextual -implicitDefEqProofs (maxSteps:=10^7) only[go_sem,seval,↓gZ,XM,e1,n2,n3,n4]
  ·have aa:¬Zar (ZN.mk kW kH kP) vs:=fun h=>h2 h.1.2;rw[Kq aa];by_cases h3:16<kW
   ·refine cE ?_;simp +contextual -implicitDefEqProofs (maxSteps:=10^7) only[go_sem,seval,↓gZ,XM,e1,h3]
   ·have h4:16<kH:=by omega
    refine cE ?_;simp +contextual -implicitDefEqProofs (maxSteps:=10^7) only[go_sem,seval,↓gZ,XM,e1,h3,h4]
 ·have aa:¬Zar (ZN.mk kW kH kP) vs:=fun h=>h1 h.1.1;rw[Kq h1] at e1;rw[Kq aa];refine cE ?_;simp +contextual -implicitDefEqProofs (maxSteps:=10^7) only[go_sem,seval,↓gZ,XM,e1]
theorem Zc2 {k:ZN} {vs:List Int} (h:Zar k vs):∃ W H:Nat,k.W=(W:Int)∧k.H=(H:Int)∧1≤W∧W≤16∧1≤H∧H≤16:=by
 obtain⟨⟨hv,h1,h2⟩,_,_⟩:=h;unfold VW at hv;exact⟨k.W.toNat,k.H.toNat,by omega,by omega,by omega,by omega,by omega,by omega⟩
def bvI (k:ZN) (vs:List Int):Int:=if Zar k vs then vT k.Panes vs k.W.toNat k.H.toNat else -1
theorem Zh2 (kW kH:Int) (kP:List Pane) (vs:List Int) (hl:vs.length≤1000):Zi Xs Ms VX [(.d (.agg [J kW,J kH,.sl (kP.map Pane.enc)])),.d (.sl (vs.map Qp))] []=some ((.d (J (bvI (ZN.mk kW kH kP) vs))),[]):=by
 have e1:=ZdD kW kH kP vs hl;unfold bvI;by_cases ht:Zar (ZN.mk kW kH kP) vs
 ·rw[Kw ht] at e1;rw[Km ht];obtain⟨W,H,h1,h2,h3,h4,h5,h6⟩:=Zc2 ht;simp only at h1 h2;subst h1 h2;have e2:=ZdC W H kP vs h4 h6 hl (fun v hv=>by have:=ht.2.2 v hv;omega);have g1:(W:Int)<17:=by omega
  have g2:(H:Int)<17:=by omega
  have t1:=tvF (ps:=kP) (vs:=vs) (H:=H) (W:=W) (a:=W) (b:=H) (Kh _) h4 (Kh _) h6;simp only[KZ];refine cE ?_;simp +contextual -implicitDefEqProofs (maxSteps:=10^7) only[go_sem,seval,↓gZ,Uz,e1,e2,g1,g2,t1,ZcY,Ju,Xk,Zey,Zez,Zbj,QY,Yf,ZcZ,K6,Kz,K4,Zt,ZA,Zu]
 ·rw[Kq ht] at e1;rw[Kl ht];refine cE ?_;simp +contextual -implicitDefEqProofs (maxSteps:=10^7) only[go_sem,seval,↓gZ,Uz,e1]
theorem ZgA (b:BT):1≤b.cnt:=b.cnt_pos
def bpI (k:ZN) (vs:List Int):Option BT:=if Zar k vs∧(bpN k.Panes vs (k.W.toNat+k.H.toNat) k.W.toNat k.H.toNat).cnt≤255 then some (bpN k.Panes vs (k.W.toNat+k.H.toNat) k.W.toNat k.H.toNat) else none
theorem Zkc (kW kH:Int) (kP:List Pane) (vs:List Int) (hl:vs.length≤1000):∃ o a q t ks ok,(match bpI (ZN.mk kW kH kP) vs with | some b=>ok=true∧b.plan=.mk o a q t ks | none=>ok=false∧(.mk o a q t ks:Zh)=.mk 0 0 0 false []) ∧
  Zi Xs Ms WD [(.d (.agg [J kW,J kH,.sl (kP.map Pane.enc)])),.d (.sl (vs.map Qp))] []=some (.tup [.agg [(.d (J o)),(.d (J a)),(.d (J q)),(.d (.bool t)),.own 0],(.d (.bool ok))],[.row 5 (ks.map Zh.enc) true false]):=by
 have e1:=ZdD kW kH kP vs hl;unfold bpI;by_cases ht:Zar (ZN.mk kW kH kP) vs
 ·rw[Kw ht] at e1;obtain⟨W,H,h1,h2,h3,h4,h5,h6⟩:=Zc2 ht;simp only at h1 h2;subst h1 h2;have e2:=ZdC W H kP vs h4 h6 hl (fun v hv=>by have:=ht.2.2 v hv;omega);obtain⟨o,a,q,t,ks,hp,e3⟩:=ZfI W H kP vs h4 h6 hl (fun v hv=>by have:=ht.2.2 v hv;omega) (W+H) W H h3 (Kh _) h5 (Kh _) (Kh _);have e4:=XR (bpN kP vs (W+H) W H).plan;rw[QN] at e4;have hz:=Z1 255 (bpN kP vs (W+H) W H);have aa:=ZgA (bpN kP vs (W+H) W H);rw[hp,Zh.enc_mk] at e4;simp only[KZ];by_cases hc:(bpN kP vs (W+H) W H).cnt≤255
  ·rw[Km ⟨ht,hc⟩];have n1:¬Zl 255 (some (bpN kP vs (W+H) W H))<0:=by omega
   refine⟨o,a,q,t,ks,true,⟨rfl,hp⟩,?_⟩;refine cE ?_;simp +contextual -implicitDefEqProofs (maxSteps:=10^7) only[go_sem,seval,↓gZ,WJ,e1,e2,e3,e4,n1,ZcY,Ju,Xk,Zey,Zez,Zbj,QY,Yf,ZcZ,K6,Kz,K4,Zt,ZA,Zu]
  ·rw[Kl fun h=>hc h.2];have n1:Zl 255 (some (bpN kP vs (W+H) W H))<0:=by omega
   refine⟨0,0,0,false,[],false,⟨rfl,rfl⟩,?_⟩;refine cE ?_;simp +contextual -implicitDefEqProofs (maxSteps:=10^7) only[go_sem,seval,↓gZ,WJ,e1,e2,e3,e4,n1,ZcY,Ju,Xk,Zey,Zez,Zbj,QY,Yf,ZcZ,K6,Kz,K4,Zt,ZA,Zu]
 ·rw[Kq ht] at e1;rw[Kl fun h=>ht h.1];refine⟨0,0,0,false,[],false,⟨rfl,rfl⟩,?_⟩;refine cE ?_;simp +contextual -implicitDefEqProofs (maxSteps:=10^7) only[go_sem,seval,↓gZ,WJ,e1]
theorem ZmX {ps:List Pane} {w h:Int} {vs:List Int}:∀ {us:List Int} {k:Nat} {s:Lf},(∀ i v,us[i]?=some v→vs[k+i]?=some v)→(s.1=1→vs[s.2.1.toNat]?=some s.2.2.2∧0≤s.2.1∧Qq ps s.2.1 s.2.2.1 w h=true) →
  ((lfF ps w h k us s).1=1→vs[(lfF ps w h k us s).2.1.toNat]?=some (lfF ps w h k us s).2.2.2∧0≤(lfF ps w h k us s).2.1∧Qq ps (lfF ps w h k us s).2.1 (lfF ps w h k us s).2.2.1 w h=true)
 | [],k,s,_,hs=>hs
 | v :: us,k,s,hu,hs=>by
  simp only[lfF];have h0:=hu 0 v rfl;refine ZmX (fun i x hx=>by have:=hu (i+1) x (by simpa using hx);rwa [show k+1+i=k+(i+1) by omega]) ?_;have one:∀ (t:Bool) (s:Lf),(s.1=1→vs[s.2.1.toNat]?=some s.2.2.2∧0≤s.2.1∧Qq ps s.2.1 s.2.2.1 w h=true)→((lf1 ps w h k v t s).1=1→vs[(lf1 ps w h k v t s).2.1.toNat]?=some (lf1 ps w h k v t s).2.2.2∧0≤(lf1 ps w h k v t s).2.1∧Qq ps (lf1 ps w h k v t s).2.1 (lf1 ps w h k v t s).2.2.1 w h=true):=fun t s hs=>by
   unfold lf1;split
   ·rename_i hc;intro _;exact⟨by simpa using h0,by simp,hc.2⟩
   ·exact hs
  exact one _ _ (one _ _ hs)
theorem ZqH {ps:List Pane} {vs:List Int} {w h:Int} (h1:(YN ps vs w h).1=1):vs[(YN ps vs w h).2.1.toNat]?=some (YN ps vs w h).2.2.2∧0≤(YN ps vs w h).2.1∧Qq ps (YN ps vs w h).2.1 (YN ps vs w h).2.2.1 w h=true:=
 ZmX (vs:=vs) (us:=vs) (k:=0) (s:=(0,0,false,0)) (fun i v h=>by rwa [Kz]) (fun h=>by simp at h) h1
theorem Zov {g:Nat→Int} {m:Int}:∀ {n:Nat},mx g m n=m∨∃ i,1≤i∧i≤n∧g i=mx g m n
 | 0=>.inl rfl
 | n+1=>by
  simp only[mx];rcases Int.le_total (mx g m n) (g (n+1)) with h | h
  ·exact .inr ⟨n+1,by omega,by omega,by rw[Int.max_eq_right h]⟩
  ·rw[Int.max_eq_left h];rcases Zov (g:=g) (m:=m) (n:=n) with h1 | ⟨i,h1,h2,h3⟩
   ·exact .inl h1
   ·exact .inr ⟨i,h1,by omega,h3⟩
theorem ZlZ {g:Nat→Int} {m:Int}:∀ {n a:Nat},ff g m a n=none→∀ i,a≤i→i<a+n→g i≠m
 | 0,a,_,i,h1,h2=>by omega
 | n+1,a,h,i,h1,h2=>by
  simp only[ff] at h;by_cases hg:g a=m
  ·rw[Km hg] at h;cases h
  ·rw[Kl hg] at h;by_cases hi:i=a
   ·rw[hi];exact hg
   ·exact ZlZ h i (by omega) (by omega)
def ZeA (vs:List Int) (c:L.Place):Int:=vs.getD c.Pane.toNat 0
theorem Zh3 (a b:List Int):UW (a++b)=UW a+UW b:=by
 induction a with
 | nil=>simp[UW]
 | cons x a ih=>simp only[KN,UW,ih];omega
theorem ZtL {ps:List Pane} {vs:List Int}:∀ (n w h:Nat),1≤w→1≤h→w+h≤n→∀ X Y:Int,Qd ps (bpN ps vs n w h) w h=true∧UW ((plc (bpN ps vs n w h) X Y w h).map (ZeA vs))=vT ps vs w h:=by
 intro n
 induction n with
 | zero=>intro w h h1 h2 h3;omega
 | succ n ih=>
  intro w h hw hh hn X Y;simp only[bpN];by_cases c0:vT ps vs w h=0
  ·rw[Km c0];exact⟨rfl,by rw[c0];rfl⟩
  ·rw[Kl c0];by_cases c1:lfV ps vs w h=vT ps vs w h
   ·rw[Km c1];have hk:=Zc0 (ps:=ps) (w:=w) (h:=h) (vs:=vs) (k:=0) (s:=(0,0,false,0)) (.inr rfl)
    change (YN ps vs w h).1=1∨YN ps vs w h=(0,0,false,0) at hk
    have aa:(YN ps vs w h).1=1:=by
     rcases hk with hk | hk
     ·exact hk
     ·unfold lfV at c1;rw[hk] at c1;exact absurd c1.symm c0
    obtain⟨f1,f2,f3⟩:=ZqH aa;unfold lfB;rw[Km aa];refine⟨f3,?_⟩;simp only[plc,Kn,KB,UW,ZeA];rw[Lx,f1,Option.getD_some,Int.add_zero];exact c1
   ·rw[Kl c1];cases h1:ff (fun x=>vT ps vs x h+vT ps vs (w-x) h) (vT ps vs w h) 1 (w / 2) with
    | some x=>
     obtain⟨p1,p2,p3⟩:=ZlX h1;have e:((w-x:Nat):Int)=(w:Int)-x:=by omega
     obtain⟨l1,l2⟩:=ih x h (by omega) hh (by omega) X Y;obtain⟨r1,r2⟩:=ih (w-x) h (by omega) hh (by omega) (X+x) Y;rw[e] at r1 r2;refine⟨?_,?_⟩
     ·simp only[Qd,Kg,l1,r1,LD,Kj];omega
     ·simp only[plc,Kg,KM,Zh3,l2,r2];exact p3
    | none=>
     simp only;cases h2:ff (fun y=>vT ps vs w y+vT ps vs w (h-y)) (vT ps vs w h) 1 (h / 2) with
     | some y=>
      obtain⟨p1,p2,p3⟩:=ZlX h2;have e:((h-y:Nat):Int)=(h:Int)-y:=by omega
      obtain⟨l1,l2⟩:=ih w y hw (by omega) (by omega) X Y;obtain⟨r1,r2⟩:=ih w (h-y) hw (by omega) (by omega) X (Y+y);rw[e] at r1 r2;refine⟨?_,?_⟩
      ·simp only[Qd,Ka,Kf,l1,r1,LD,Kj];omega
      ·simp only[plc,Ka,Kf,KM,Zh3,l2,r2];exact p3
     | none=>
      exfalso
      have hv:vT ps vs w h=Zgy (lfV ps vs) (vT ps vs) w h:=V_eq hw hh;unfold Zgy at hv;rcases Zov (g:=fun y=>vT ps vs w y+vT ps vs w (h-y)) (m:=mx (fun x=>vT ps vs x h+vT ps vs (w-x) h) (lfV ps vs w h) (w / 2)) (n:=h / 2) with g1 | ⟨i,g1,g2,g3⟩
      ·rcases Zov (g:=fun x=>vT ps vs x h+vT ps vs (w-x) h) (m:=lfV ps vs w h) (n:=w / 2) with k1 | ⟨i,k1,k2,k3⟩
       ·exact c1 (by rw[hv,g1,k1])
       ·exact ZlZ h1 i k1 (by omega) (by rw[k3,← g1,← hv])
      ·exact ZlZ h2 i g1 (by omega) (by rw[g3,← hv])
theorem ZpN:∀ {l:List Int},(∀ v∈l,0≤v∧v≤1000)→0≤UW l∧UW l≤1000*(l.length:Int)
 | [],_=>by simp[UW]
 | x :: l,h=>by
  have h1:=h x (by simp);have h2:=ZpN (l:=l) fun v hv=>h v (by simp[hv]);simp only[UW,Ki];push_cast;omega
theorem ZqI {l:List Int} {i:Nat} {x:Int} (h:l[i]?=some x):UW (l.take (i+1))=UW (l.take i)+x:=by
 rw[KC,h,LC,Zh3];simp[UW]
theorem Zh4 (kW kH:Int) (kP:List Pane) (p:Zh) (vs:List Int) (hv:Yy (ZN.mk kW kH kP) p=true) (hl:vs.length=kP.length) (ad:ZlY vs):Zi Xs Ms VY [(.d (.agg [J kW,J kH,.sl (kP.map Pane.enc)])),.d p.enc,.d (.sl (vs.map Qp))] []=some ((.d (J (UW (((Xb (ZN.mk kW kH kP) p).filterMap X2).map (ZeA vs))))),[]):=by
 obtain⟨b,hb,hp,hw,hc,hf,af⟩:=Zek hv;have e1:=Zca kW kH kP p;rw[hv] at e1;have e2:=ZdG kW kH kP p;have aa:∀ c∈(Xb (ZN.mk kW kH kP) p).filterMap X2,∃ n:Nat,c.Pane=(n:Int)∧n<kP.length:=by
  rw[af,Jo];exact Zcf hf
 have hn:((Xb (ZN.mk kW kH kP) p).filterMap X2).length≤255:=Le (LF _ _) (Zim (ZN.mk kW kH kP) p);have ao:kP.length≤24:=by unfold VW at hw;exact hw.2.2.2.2.1
 generalize (Xb (ZN.mk kW kH kP) p).filterMap X2=Ls at *;obtain⟨o,a,q,t,ks⟩:=p;rw[Zh.enc_mk] at e1 e2 ⊢;refine cE ?_;simp +contextual -implicitDefEqProofs (maxSteps:=10^7) only[go_sem,seval,↓gZ,Zat,e1,hl];refine Qw Xs Ms (st0:=?st0) (α:=Nat) (fun i=>[(26,.d (J (i:Int)))]) (fun _=>[]) (fun i=>i≤vs.length) (fun i=>vs.length-i) 0 ?hc (by omega) ?h0 ?step
 case hc=>simp +contextual -implicitDefEqProofs (maxSteps:=10^7) only[go_sem,seval,↓gZ]<;>exact rfl
 case h0=>simp only[hl];rfl
 case step=>
  intro i hi ih;by_cases ag:i<kP.length
  ·obtain⟨v,hx⟩:=ZY (l:=vs) (k:=i) (by omega);have hw:=Zn (k:=i) (by omega);have ah:=ad v (Kp hx);have c1:¬v<1:=by omega
   have c2:¬1000<v:=by omega
   simp +contextual -implicitDefEqProofs (maxSteps:=10^7) only[go_sem,seval,↓gZ,hx,ag,hl,c1,c2,hw];refine ih (i+1) _ (by omega) (by omega) ?_;simp +contextual -implicitDefEqProofs (maxSteps:=10^7) only[go_sem,seval,↓gZ,hl]
  ·have ai:i=kP.length:=by omega
   subst ai;simp +contextual -implicitDefEqProofs (maxSteps:=10^7) only[go_sem,seval,↓gZ,hl,e2];refine Qw Xs Ms (st0:=?st1) (α:=Nat) (fun i=>[(41,.d (J (i:Int))),(9,.d (J (UW ((Ls.take i).map (ZeA vs)))))]) (fun _=>[]) (fun i=>i≤Ls.length) (fun i=>Ls.length-i) 0 ?hc2 (by omega) ?h02 ?step2
   case hc2=>simp +contextual -implicitDefEqProofs (maxSteps:=10^7) only[go_sem,seval,↓gZ]<;>exact rfl
   case h02=>rfl
   case step2=>
    intro i hi aj;by_cases ab:i<Ls.length
    ·obtain⟨⟨P,T,⟨X,Y,W,H⟩⟩,hx⟩:=ZY ab;have hw:=Zn (k:=i) (by omega);obtain⟨n,hP,ak⟩:=aa _ (Kp hx);simp only at hP;subst hP;obtain⟨v,ae⟩:=ZY (l:=vs) (k:=n) (by omega);have ap:n<vs.length:=by omega
     have al:(Ls.map (ZeA vs))[i]?=some v:=by
      rw[Lo,hx];simp only[KU,ZeA,KZ,Lx,ae,Option.getD_some]
     have e5:UW ((Ls.take (i+1)).map (ZeA vs))=UW ((Ls.take i).map (ZeA vs))+v:=by
      rw[List.map_take,List.map_take];exact ZqI al
     have ah:=ad v (Kp ae);have hb:=ZpN (l:=(Ls.take i).map (ZeA vs)) fun y hy=>by
      obtain⟨c,am,rfl⟩:=KQ.1 hy;obtain⟨m,an,aq⟩:=aa c (L8 am);obtain⟨z,hz⟩:=ZY (l:=vs) (k:=m) (by omega);have:=ad z (Kp hz);simp only[ZeA,an,KZ,Lx,hz,Option.getD_some];omega
     have ar:((Ls.take i).map (ZeA vs)).length≤i:=by simp;omega
     have w1:=wi (UW ((Ls.take i).map (ZeA vs))+v) (by omega) (by omega);simp +contextual -implicitDefEqProofs (maxSteps:=10^7) only[go_sem,seval,↓gZ,hx,ab,hw,ae,ak,hl,w1];refine aj (i+1) _ (by omega) (by omega) ?_;simp +contextual -implicitDefEqProofs (maxSteps:=10^7) only[go_sem,seval,↓gZ,e5]
    ·have:i=Ls.length:=by omega
     subst this;simp +contextual -implicitDefEqProofs (maxSteps:=10^7) only[go_sem,seval,↓gZ,Ll]
end Go.Proofs.Ytefabmohhbhlfaa
