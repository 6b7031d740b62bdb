/- Own text. -/
import Derived.Test.YtefabmohhbhlfaaBCode
import Derived.Test.YtefabmohhbhlfaaAbsParts
import Derived.Test.YtefabmohhbhlfaaAbsOkD
import Derived.Test.YtefabmohhbhlfaaBC5
import Derived.Test.YtefabmohhbhlfaaBC2
namespace Go.Proofs.Ytefabmohhbhlfaa
open Go Go.Abs Go.Abs.E Go.Abs.L
open Nat (reduceMul reduceSub reduceLeDiff reduceEqDiff)
open Int (reduceLE reduceEq reduceToNat reduceNeg)
set_option linter.unusedSimpArgs false
set_option linter.unusedVariables false
set_option maxRecDepth 20000
set_option maxHeartbeats 4000000
theorem Za6 {ps:List Pane}:∀ {b:BT} {x y w h:Int},Xi ps b w h=true→∀ c∈plc b x y w h,∃ n:Nat,c.Pane=(n:Int)∧n<ps.length
 | .waste,x,y,w,h,hf,c,hc=>by simp[plc] at hc
 | .pane i t,x,y,w,h,hf,c,hc=>by
  simp only[plc,KC] at hc;subst hc;simp only[Xi,Qi,Kb,Kq] at hf;refine⟨i.toNat,by simp only;omega,?_⟩;rcases KO i.toNat ps.length with h1 | h1
  ·exact h1
  ·rw[KH h1] at hf;exact absurd hf.2 (by simp)
 | .cut d a l r,x,y,w,h,hf,c,hc=>by
  cases d
  ·simp only[Xi,Kb,Ka,Kj] at hf;simp only[plc,Ka,Kj,Kc] at hc;rcases hc with hc | hc
   ·exact Za6 hf.1.2 c hc
   ·exact Za6 hf.2 c hc
  ·simp only[Xi,Kb,Kl] at hf;simp only[plc,Kl,Kc] at hc;rcases hc with hc | hc
   ·exact Za6 hf.1.2 c hc
   ·exact Za6 hf.2 c hc
def UD:List Int→Int
 | []=>0
 | x :: r=>x+UD r
end Go.Proofs.Ytefabmohhbhlfaa
namespace Go.Proofs.Ytefabmohhbhlfaa
open Go Go.Abs Go.Abs.E Go.Abs.L
open Nat (reduceMul reduceSub reduceLeDiff reduceEqDiff)
open Int (reduceLE reduceEq reduceToNat reduceNeg)
set_option linter.unusedSimpArgs false
set_option linter.unusedVariables false
set_option maxRecDepth 20000
set_option maxHeartbeats 4000000
theorem Zjm {ps:List Pane} {w h:Int}:∀ {vs:List Int} {k:Nat} {s:Lf},(s.1=1∨s=(0,0,false,0))→((lfF ps w h k vs s).1=1∨lfF ps w h k vs s=(0,0,false,0))
 | [],k,s,hs=>hs
 | v :: vs,k,s,hs=>by
  simp only[lfF];refine Zjm ?_;have one:∀ (t:Bool) (s:Lf),(s.1=1∨s=(0,0,false,0))→((lf1 ps w h k v t s).1=1∨lf1 ps w h k v t s=(0,0,false,0)):=fun t s hs=>by
   unfold lf1;split
   ·exact .inl rfl
   ·exact hs
  exact one _ _ (one _ _ hs)
theorem tvF {ps:List Pane} {vs:List Int} {H W a b:Nat} (ha:a≤W) (hW:W≤16) (hb:b≤H) (hH:H≤16):(rowV (tv (lfV ps vs) H (W+1) 1))[a*17+b]?=some (AV.d (J (vT ps vs a b))):=tvg (by omega) hb (by omega) (.inl (by omega))
end Go.Proofs.Ytefabmohhbhlfaa
namespace Go.Proofs.Ytefabmohhbhlfaa
open Go Go.Abs Go.Abs.E Go.Abs.L
open Nat (reduceMul reduceSub reduceLeDiff reduceEqDiff)
open Int (reduceLE reduceEq reduceToNat reduceNeg)
set_option linter.unusedSimpArgs false
set_option linter.unusedVariables false
set_option maxRecDepth 20000
set_option maxHeartbeats 4000000
abbrev Zh6 (vs:List Int):Prop:=∀ v∈vs,1≤v∧v≤1000
abbrev Uw (k:ZM) (vs:List Int):Prop:=(VW k∧k.W≤16∧k.H≤16)∧(k.Panes.length≤7∧vs.length=k.Panes.length)∧Zh6 vs
theorem ZbY (kW kH:Int) (kP:List Pane) (vs:List Int) (hl:vs.length≤1000):Zu Xs Ms YN [(.d (.agg [J kW,J kH,.sl (kP.map Pane.enc)])),.d (.sl (vs.map Qs))] []=some ((.d (.bool (decide (Uw (ZM.mk kW kH kP) vs)))),[]):=by
 have e1:=Xx kW kH kP;by_cases h1:VW (ZM.mk kW kH kP)
 ·rw[K2 h1] at e1;by_cases h2:kW≤16∧kH≤16
  ·obtain⟨h2,h3⟩:=h2;have n2:¬16<kW:=by omega
   have n3:¬16<kH:=by omega
   by_cases h4:kP.length≤7∧vs.length=kP.length
   ·obtain⟨h4,h5⟩:=h4;have n4:¬(7:Int)<(kP.length:Int):=by omega
    have e2:decide (Uw (ZM.mk kW kH kP) vs)=decide (Zh6 vs):=by
     by_cases h6:Zh6 vs
     ·rw[K2 h6,K2 (⟨⟨h1,h2,h3⟩,⟨h4,h5⟩,h6⟩:Uw (ZM.mk kW kH kP) vs)]
     ·rw[Kv h6,Kv fun h=>h6 h.2.2]
    rw[e2];refine cE ?_;simp +contextual -implicitDefEqProofs (maxSteps:=10^7) only[go_sem,seval,↓gZ,Xg,e1,n2,n3,n4,h5];refine Ya Xs Ms (st0:=?st0) (α:=Nat) (fun i=>[(34,.d (J (i:Int)))]) (fun _=>[]) (fun i=>i≤vs.length∧∀ v∈vs.take i,1≤v∧v≤1000) (fun i=>vs.length-i) 0 ?hc ⟨by omega,by simp⟩ ?h0 ?step
    case hc=>simp +contextual -implicitDefEqProofs (maxSteps:=10^7) only[go_sem,seval,↓gZ]<;>exact rfl
    case h0=>simp only[h5];rfl
    case step=>
     intro i ⟨hi,hb⟩ ih;by_cases ab:i<kP.length
     ·obtain⟨v,hx⟩:=Z1 (l:=vs) (k:=i) (by omega);have hw:=ZE (k:=i) (by omega);have ae:=Kg hx;by_cases c1:v<1
      ·have aa:¬Zh6 vs:=fun h=>by have:=(h v ae).1;omega
       rw[Kv aa];simp +contextual -implicitDefEqProofs (maxSteps:=10^7) only[go_sem,seval,↓gZ,hx,ab,h5,c1]
      ·by_cases c2:1000<v
       ·have aa:¬Zh6 vs:=fun h=>by have:=(h v ae).2;omega
        rw[Kv aa];simp +contextual -implicitDefEqProofs (maxSteps:=10^7) only[go_sem,seval,↓gZ,hx,ab,h5,c1,c2]
       ·simp +contextual -implicitDefEqProofs (maxSteps:=10^7) only[go_sem,seval,↓gZ,hx,ab,h5,c1,c2,hw];refine ih (i+1) _ ⟨by omega,fun y hy=>?_⟩ (by omega) ?_
        ·rw[Lq,hx] at hy;simp only[L9,Kc,KC] at hy;rcases hy with hy | rfl
         ·exact hb y hy
         ·omega
        ·simp +contextual -implicitDefEqProofs (maxSteps:=10^7) only[go_sem,seval,↓gZ,h5]
     ·have af:i=vs.length:=by omega
      subst af;rw[KZ] at hb;have ad:Zh6 vs:=hb;rw[K2 ad];simp +contextual -implicitDefEqProofs (maxSteps:=10^7) only[go_sem,seval,↓gZ,h5]
   ·have aa:¬Uw (ZM.mk kW kH kP) vs:=fun h=>h4 h.2.1;rw[Kv aa];by_cases h5:kP.length≤7
    ·have n4:¬(7:Int)<(kP.length:Int):=by omega
     have n5:¬(vs.length:Int)=(kP.length:Int):=by omega
     refine cE ?_;simp +contextual -implicitDefEqProofs (maxSteps:=10^7) only[go_sem,seval,↓gZ,Xg,e1,n2,n3,n4,n5]
    ·have n4:(7:Int)<(kP.length:Int):=by omega
     refine cE ?_;simp +contextual -implicitDefEqProofs (maxSteps:=10^7) only[go_sem,seval,↓gZ,Xg,e1,n2,n3,n4]
  ·have aa:¬Uw (ZM.mk kW kH kP) vs:=fun h=>h2 h.1.2;rw[Kv aa];by_cases h3:16<kW
   ·refine cE ?_;simp +contextual -implicitDefEqProofs (maxSteps:=10^7) only[go_sem,seval,↓gZ,Xg,e1,h3]
   ·have h4:16<kH:=by omega
    refine cE ?_;simp +contextual -implicitDefEqProofs (maxSteps:=10^7) only[go_sem,seval,↓gZ,Xg,e1,h3,h4]
 ·have aa:¬Uw (ZM.mk kW kH kP) vs:=fun h=>h1 h.1.1;rw[Kv h1] at e1;rw[Kv aa];refine cE ?_;simp +contextual -implicitDefEqProofs (maxSteps:=10^7) only[go_sem,seval,↓gZ,Xg,e1]
theorem ZbA {k:ZM} {vs:List Int} (h:Uw k vs):∃ W H:Nat,k.W=(W:Int)∧k.H=(H:Int)∧1≤W∧W≤16∧1≤H∧H≤16:=by
 obtain⟨⟨hv,h1,h2⟩,_,_⟩:=h;unfold VW at hv;exact⟨k.W.toNat,k.H.toNat,by omega,by omega,by omega,by omega,by omega,by omega⟩
def bvI (k:ZM) (vs:List Int):Int:=if Uw k vs then vT k.Panes vs k.W.toNat k.H.toNat else -1
theorem Zhi (kW kH:Int) (kP:List Pane) (vs:List Int) (hl:vs.length≤1000):Zu Xs Ms YY [(.d (.agg [J kW,J kH,.sl (kP.map Pane.enc)])),.d (.sl (vs.map Qs))] []=some ((.d (J (bvI (ZM.mk kW kH kP) vs))),[]):=by
 have e1:=ZbY kW kH kP vs hl;unfold bvI;by_cases ht:Uw (ZM.mk kW kH kP) vs
 ·rw[K2 ht] at e1;rw[Kt ht];obtain⟨W,H,h1,h2,h3,h4,h5,h6⟩:=ZbA ht;simp only at h1 h2;subst h1 h2;have e2:=Zh5 W H kP vs h4 h6 hl (fun v hv=>by have:=ht.2.2 v hv;omega);have g1:(W:Int)<17:=by omega
  have g2:(H:Int)<17:=by omega
  have t1:=tvF (ps:=kP) (vs:=vs) (H:=H) (W:=W) (a:=W) (b:=H) (Kf _) h4 (Kf _) h6;simp only[K3];refine cE ?_;simp +contextual -implicitDefEqProofs (maxSteps:=10^7) only[go_sem,seval,↓gZ,Wr,e1,e2,g1,g2,t1,Zjk,Zlt,WD,Zlu,Zlv,Zhg,Uv,Za5,Zjl,LG,KP,Nat.mul_one,Z3,Qq,Z4]
 ·rw[Kv ht] at e1;rw[Kp ht];refine cE ?_;simp +contextual -implicitDefEqProofs (maxSteps:=10^7) only[go_sem,seval,↓gZ,Wr,e1]
theorem Zlw {ps:List Pane} {w h:Int} {vs:List Int}:∀ {us:List Int} {k:Nat} {s:Lf},(∀ i v,us[i]?=some v→vs[k+i]?=some v)→(s.1=1→vs[s.2.1.toNat]?=some s.2.2.2∧0≤s.2.1∧Qi ps s.2.1 s.2.2.1 w h=true) →
  ((lfF ps w h k us s).1=1→vs[(lfF ps w h k us s).2.1.toNat]?=some (lfF ps w h k us s).2.2.2∧0≤(lfF ps w h k us s).2.1∧Qi ps (lfF ps w h k us s).2.1 (lfF ps w h k us s).2.2.1 w h=true)
 | [],k,s,_,hs=>hs
 | v :: us,k,s,hu,hs=>by
  simp only[lfF];have h0:=hu 0 v rfl;refine Zlw (fun i x hx=>by have:=hu (i+1) x (by simpa using hx);rwa [show k+1+i=k+(i+1) by omega]) ?_;have one:∀ (t:Bool) (s:Lf),(s.1=1→vs[s.2.1.toNat]?=some s.2.2.2∧0≤s.2.1∧Qi ps s.2.1 s.2.2.1 w h=true)→((lf1 ps w h k v t s).1=1→vs[(lf1 ps w h k v t s).2.1.toNat]?=some (lf1 ps w h k v t s).2.2.2∧0≤(lf1 ps w h k v t s).2.1∧Qi ps (lf1 ps w h k v t s).2.1 (lf1 ps w h k v t s).2.2.1 w h=true):=fun t s hs=>by
   unfold lf1;split
   ·rename_i hc;intro _;exact⟨by simpa using h0,by simp,hc.2⟩
   ·exact hs
  exact one _ _ (one _ _ hs)
theorem Zox {ps:List Pane} {vs:List Int} {w h:Int} (h1:(Uu ps vs w h).1=1):vs[(Uu ps vs w h).2.1.toNat]?=some (Uu ps vs w h).2.2.2∧0≤(Uu ps vs w h).2.1∧Qi ps (Uu ps vs w h).2.1 (Uu ps vs w h).2.2.1 w h=true:=
 Zlw (vs:=vs) (us:=vs) (k:=0) (s:=(0,0,false,0)) (fun i v h=>by rwa [KP]) (fun h=>by simp at h) h1
def Zed (vs:List Int) (c:L.Place):Int:=vs.getD c.Pane.toNat 0
theorem Zhj (a b:List Int):UD (a++b)=UD a+UD b:=by
 induction a with
 | nil=>simp[UD]
 | cons x a ih=>simp only[KU,UD,ih];omega
theorem Znn:∀ {l:List Int},(∀ v∈l,0≤v∧v≤1000)→0≤UD l∧UD l≤1000*(l.length:Int)
 | [],_=>by simp[UD]
 | x :: l,h=>by
  have h1:=h x (by simp);have h2:=Znn (l:=l) fun v hv=>h v (by simp[hv]);simp only[UD,Kk];push_cast;omega
theorem Zoy {l:List Int} {i:Nat} {x:Int} (h:l[i]?=some x):UD (l.take (i+1))=UD (l.take i)+x:=by
 rw[Lq,h,L9,Zhj];simp[UD]
theorem Zhk (kW kH:Int) (kP:List Pane) (p:Zs) (vs:List Int) (hv:Uk (ZM.mk kW kH kP) p=true) (hl:vs.length=kP.length) (ad:Zh6 vs):Zu Xs Ms Xk [(.d (.agg [J kW,J kH,.sl (kP.map Pane.enc)])),.d p.enc,.d (.sl (vs.map Qs))] []=some ((.d (J (UD (((X5 (ZM.mk kW kH kP) p).filterMap XH).map (Zed vs))))),[]):=by
 obtain⟨b,hb,hp,hw,hc,hf,af⟩:=JV hv;have e1:=Ut kW kH kP p;rw[hv] at e1;have e2:=Zh3 kW kH kP p;have aa:∀ c∈(X5 (ZM.mk kW kH kP) p).filterMap XH,∃ n:Nat,c.Pane=(n:Int)∧n<kP.length:=by
  rw[af,ZdO];exact Za6 hf
 have hn:((X5 (ZM.mk kW kH kP) p).filterMap XH).length≤255:=Lv (Lp _ _) (Zhc (ZM.mk kW kH kP) p);have ao:kP.length≤24:=by unfold VW at hw;exact hw.2.2.2.2.1
 generalize (X5 (ZM.mk kW kH kP) p).filterMap XH=Ls at *;obtain⟨o,a,q,t,ks⟩:=p;rw[Zs.enc_mk] at e1 e2 ⊢;refine cE ?_;simp +contextual -implicitDefEqProofs (maxSteps:=10^7) only[go_sem,seval,↓gZ,Wt,e1,hl];refine Ya Xs Ms (st0:=?st0) (α:=Nat) (fun i=>[(26,.d (J (i:Int)))]) (fun _=>[]) (fun i=>i≤vs.length) (fun i=>vs.length-i) 0 ?hc (by omega) ?h0 ?step
 case hc=>simp +contextual -implicitDefEqProofs (maxSteps:=10^7) only[go_sem,seval,↓gZ]<;>exact rfl
 case h0=>simp only[hl];rfl
 case step=>
  intro i hi ih;by_cases ag:i<kP.length
  ·obtain⟨v,hx⟩:=Z1 (l:=vs) (k:=i) (by omega);have hw:=ZE (k:=i) (by omega);have ah:=ad v (Kg hx);have c1:¬v<1:=by omega
   have c2:¬1000<v:=by omega
   simp +contextual -implicitDefEqProofs (maxSteps:=10^7) only[go_sem,seval,↓gZ,hx,ag,hl,c1,c2,hw];refine ih (i+1) _ (by omega) (by omega) ?_;simp +contextual -implicitDefEqProofs (maxSteps:=10^7) only[go_sem,seval,↓gZ,hl]
  ·have ai:i=kP.length:=by omega
   subst ai;simp +contextual -implicitDefEqProofs (maxSteps:=10^7) only[go_sem,seval,↓gZ,hl,e2];refine Ya Xs Ms (st0:=?st1) (α:=Nat) (fun i=>[(41,.d (J (i:Int))),(9,.d (J (UD ((Ls.take i).map (Zed vs)))))]) (fun _=>[]) (fun i=>i≤Ls.length) (fun i=>Ls.length-i) 0 ?hc2 (by omega) ?h02 ?step2
   case hc2=>simp +contextual -implicitDefEqProofs (maxSteps:=10^7) only[go_sem,seval,↓gZ]<;>exact rfl
   case h02=>rfl
   case step2=>
    intro i hi aj;by_cases ab:i<Ls.length
    ·obtain⟨⟨P,T,⟨X,Y,W,H⟩⟩,hx⟩:=Z1 ab;have hw:=ZE (k:=i) (by omega);obtain⟨n,hP,ak⟩:=aa _ (Kg hx);simp only at hP;subst hP;obtain⟨v,ae⟩:=Z1 (l:=vs) (k:=n) (by omega);have ap:n<vs.length:=by omega
     have al:(Ls.map (Zed vs))[i]?=some v:=by
      rw[KJ,hx];simp only[KK,Zed,K3,K8,ae,Option.getD_some]
     have e5:UD ((Ls.take (i+1)).map (Zed vs))=UD ((Ls.take i).map (Zed vs))+v:=by
      rw[List.map_take,List.map_take];exact Zoy al
     have ah:=ad v (Kg ae);have hb:=Znn (l:=(Ls.take i).map (Zed vs)) fun y hy=>by
      obtain⟨c,am,rfl⟩:=Lc.1 hy;obtain⟨m,an,aq⟩:=aa c (LY am);obtain⟨z,hz⟩:=Z1 (l:=vs) (k:=m) (by omega);have:=ad z (Kg hz);simp only[Zed,an,K3,K8,hz,Option.getD_some];omega
     have ar:((Ls.take i).map (Zed vs)).length≤i:=by simp;omega
     have w1:=wi (UD ((Ls.take i).map (Zed vs))+v) (by omega) (by omega);simp +contextual -implicitDefEqProofs (maxSteps:=10^7) only[go_sem,seval,↓gZ,hx,ab,hw,ae,ak,hl,w1];refine aj (i+1) _ (by omega) (by omega) ?_;simp +contextual -implicitDefEqProofs (maxSteps:=10^7) only[go_sem,seval,↓gZ,e5]
    ·have:i=Ls.length:=by omega
     subst this;simp +contextual -implicitDefEqProofs (maxSteps:=10^7) only[go_sem,seval,↓gZ,KZ]
end Go.Proofs.Ytefabmohhbhlfaa
namespace Go.Proofs.Ytefabmohhbhlfaa
open Go Go.Abs Go.Abs.E Go.Abs.L
open Nat (reduceMul reduceSub reduceLeDiff reduceEqDiff)
open Int (reduceLE reduceEq reduceToNat reduceNeg)
set_option linter.unusedSimpArgs false
set_option linter.unusedVariables false
set_option maxRecDepth 20000
set_option maxHeartbeats 4000000
def Ze7 (ps:List Pane) (vs:List Int) (w H:Nat):List D:=(List.range (H+1)).map fun h=>D.int .i64 (vT ps vs w h)
def Zoz (ps:List Pane) (vs:List Int) (W H:Nat):List D:=(List.range (W+1)).map fun w=>D.agg [.sl (Ze7 ps vs w H)]
theorem ZpQ {ps:List Pane} {vs:List Int} {W H w:Nat} (h:w≤W):(Zoz ps vs W H)[w]?=some (.agg [.sl (Ze7 ps vs w H)]):=by simp[Zoz,Ll (show w<W+1 by omega)]
theorem Zhl {ps:List Pane} {vs:List Int} {H w h:Nat} (hh:h≤H):(Ze7 ps vs w H)[h]?=some (J (vT ps vs w h)):=by simp[Ze7,Ll (show h<H+1 by omega)]
theorem ZpR (ps:List Pane) (vs:List Int) (W H:Nat):(Zoz ps vs W H).length=W+1:=by simp[Zoz]
theorem ZpS (ps:List Pane) (vs:List Int) (w H:Nat):(Ze7 ps vs w H).length=H+1:=by simp[Ze7]
theorem Zee (kW kH:Int) (kP:List Pane) (vs:List Int) (hl:vs.length≤1000) (hP:kP.length<4611686018427387904):Zu Xs Ms XS [(.d (.agg [J kW,J kH,.sl (kP.map Pane.enc)])),.d (.sl (vs.map Qs))] []=some ((.d (.bool (decide (Uw (ZM.mk kW kH kP) vs)))),[]):=by
 have e1:=Zg3 kW kH kP hP;refine cE ?_;simp +contextual -implicitDefEqProofs (maxSteps:=10^7) only[go_sem,seval,↓gZ,WO];refine LO (α:=Nat) (fun i=>[(5,.d (J (i:Int)))]) (fun _=>[]) (fun i=>i≤vs.length∧∀ v∈vs.take i,1≤v∧v≤1000) (fun i=>vs.length-i) 0 ⟨by omega,by simp⟩ ?_;intro i ⟨hi,hb⟩ ih;by_cases af:i<vs.length
 ·obtain⟨v,hx⟩:=Z1 af;have aa : (i:Int)<(vs.length:Int):=by omega
  have hw:=ZE (k:=i) (by omega);have ah:=Kg hx;have e2:=YM v 1 1000;by_cases c1:1≤v∧v≤1000
  ·rw[K2 c1] at e2;simp +contextual -implicitDefEqProofs (maxSteps:=10^7) only[go_sem,seval,↓gZ,hx,af,aa,e2,hw];refine ih (i+1) _ ⟨by omega,fun y hy=>?_⟩ (by omega) ?_
   ·rw[Lq,hx] at hy;simp only[L9,Kc,KC] at hy;rcases hy with hy | rfl
    ·exact hb y hy
    ·exact c1
   ·simp +contextual -implicitDefEqProofs (maxSteps:=10^7) only[go_sem,seval,↓gZ]
  ·have ab:¬Uw (ZM.mk kW kH kP) vs:=fun h=>c1 (h.2.2 v ah);rw[Kv c1] at e2;rw[Kv ab];simp +contextual -implicitDefEqProofs (maxSteps:=10^7) only[go_sem,seval,↓gZ,hx,af,aa,e2]
 ·have:i=vs.length:=by omega
  subst this;rw[KZ] at hb;have aa : ¬(vs.length:Int)<(vs.length:Int):=by omega
  have ai:Zh6 vs:=hb;by_cases h1:VW (ZM.mk kW kH kP)
  ·rw[K2 h1] at e1;by_cases h2:vs.length=kP.length
   ·have ad : (vs.length:Int)=(kP.length:Int):=by omega
    by_cases h3:vs.length≤7
    ·have ae : (kP.length:Int)≤7:=by omega
     by_cases h4:kW≤16
     ·by_cases h5:kH≤16
      ·have ag:Uw (ZM.mk kW kH kP) vs:=⟨⟨h1,h4,h5⟩,⟨by simp only;omega,h2⟩,ai⟩
       rw[K2 ag];simp +contextual -implicitDefEqProofs (maxSteps:=10^7) only[go_sem,seval,↓gZ,aa,e1,ad,h2,ae,h3,h4,h5]
      ·have ab:¬Uw (ZM.mk kW kH kP) vs:=fun h=>h5 h.1.2.2;rw[Kv ab];simp +contextual -implicitDefEqProofs (maxSteps:=10^7) only[go_sem,seval,↓gZ,aa,e1,ad,h2,ae,h3,h4,h5]
     ·have ab:¬Uw (ZM.mk kW kH kP) vs:=fun h=>h4 h.1.2.1;rw[Kv ab];simp +contextual -implicitDefEqProofs (maxSteps:=10^7) only[go_sem,seval,↓gZ,aa,e1,ad,h2,ae,h3,h4]
    ·have ae : ¬(kP.length:Int)≤7:=by omega
     have ab:¬Uw (ZM.mk kW kH kP) vs:=fun h=>h3 (by rw[h2];exact h.2.1.1);rw[Kv ab];simp +contextual -implicitDefEqProofs (maxSteps:=10^7) only[go_sem,seval,↓gZ,aa,e1,ad,h2,ae,h3]
   ·have ad : ¬(vs.length:Int)=(kP.length:Int):=by omega
    have ab:¬Uw (ZM.mk kW kH kP) vs:=fun h=>h2 h.2.1.2;rw[Kv ab];simp +contextual -implicitDefEqProofs (maxSteps:=10^7) only[go_sem,seval,↓gZ,aa,e1,ad,h2]
  ·have ab:¬Uw (ZM.mk kW kH kP) vs:=fun h=>h1 h.1.1;rw[Kv h1] at e1;rw[Kv ab];simp +contextual -implicitDefEqProofs (maxSteps:=10^7) only[go_sem,seval,↓gZ,aa,e1]
end Go.Proofs.Ytefabmohhbhlfaa
