/- Own text. -/
import Derived.Test.YtefabmohhbhlfaaACode
import Derived.Test.YtefabmohhbhlfaaAbsParts
import Derived.Test.YtefabmohhbhlfaaAC16
import Derived.Test.YtefabmohhbhlfaaAC17
import Derived.Test.YtefabmohhbhlfaaAbsOkD
namespace Go.Proofs.Ytefabmohhbhlfaa
open Go Go.Abs Go.Abs.E Go.Abs.L
open Nat (reduceMul reduceSub reduceLeDiff reduceEqDiff)
open Int (reduceLE reduceEq reduceToNat reduceNeg)
set_option linter.unusedSimpArgs false
set_option linter.unusedVariables false
set_option maxRecDepth 20000
set_option maxHeartbeats 4000000
def Zhi (ps:List Pane) (vs:List Int) (w H:Nat):List D:=(List.range (H+1)).map fun h=>D.int .i64 (vT ps vs w h)
def ZqK (ps:List Pane) (vs:List Int) (W H:Nat):List D:=(List.range (W+1)).map fun w=>D.agg [.sl (Zhi ps vs w H)]
theorem Zh9 {ps:List Pane} {vs:List Int} {W H w:Nat} (h:w≤W):(ZqK ps vs W H)[w]?=some (.agg [.sl (Zhi ps vs w H)]):=by simp[ZqK,Ly (show w<W+1 by omega)]
theorem Jv {ps:List Pane} {vs:List Int} {H w h:Nat} (hh:h≤H):(Zhi ps vs w H)[h]?=some (J (vT ps vs w h)):=by simp[Zhi,Ly (show h<H+1 by omega)]
theorem Zkd (W H:Nat) (ps:List Pane) (vs:List Int) (hW:W≤16) (hH:H≤16) (hl:vs.length≤1000) (hP:ps.length<4611686018427387904) (hv:∀ v∈vs,0≤v∧v≤1000):∀ (n w h:Nat),1≤w→w≤W→1≤h→h≤H→w+h≤n→∃ o a q t ks,(bpN ps vs n w h).plan=.mk o a q t ks ∧
  Zi Xs Ms Q4 [.d (.agg [J (W:Int),J (H:Int),.sl (ps.map Pane.enc)]),.d (.sl (vs.map Qp)),.d (.sl (ZqK ps vs W H)),(.d (J ((w:Nat)))),(.d (J ((h:Nat))))] []=some (.agg [(.d (J o)),(.d (J a)),(.d (J q)),(.d (.bool t)),.own 0],[.row 5 (ks.map Zh.enc) true false]):=by
 intro n
 induction n with
 | zero=>intro w h h1 h2 h3 h4 h5;omega
 | succ n ihn=>
  intro w h ai af am ag hn;have g0:(w:Int)<17:=by omega
  have gh:(h:Int)<17:=by omega
  have tw:=Jv (ps:=ps) (vs:=vs) (H:=H) (w:=w) (h:=h) ag;have tg:=Zh9 (ps:=ps) (vs:=vs) (W:=W) (H:=H) (w:=w) af;have e1:=Zcc (W:Int) (H:Int) ps vs (w:Int) (h:Int) hl hP;have q1:=UI w;have q2:=wi (((w / 2:Nat):Int)) (by omega) (by omega);have q3:=UI h;have q4:=wi (((h / 2:Nat):Int)) (by omega) (by omega);have aj:(YN ps vs w h).2.2.2=lfV ps vs w h:=rfl;simp only[bpN];by_cases c0:vT ps vs w h=0
  ·rw[Km c0];rw[c0] at tw;refine⟨_,_,_,_,_,rfl,?_⟩;refine cE ?_;simp +contextual -implicitDefEqProofs (maxSteps:=10^7) only[go_sem,seval,↓gZ,WM,g0,gh,tw,tg]
  ·rw[Kl c0];by_cases c1:lfV ps vs w h=vT ps vs w h
   ·rw[Km c1];have hk:=Zc0 (ps:=ps) (w:=w) (h:=h) (vs:=vs) (k:=0) (s:=(0,0,false,0)) (.inr rfl)
    change (YN ps vs w h).1=1∨YN ps vs w h=(0,0,false,0) at hk
    have an:(YN ps vs w h).1=1:=by
     rcases hk with hk | hk
     ·exact hk
     ·rw[← aj,hk] at c1;exact absurd c1.symm c0
    refine⟨1,0,(YN ps vs w h).2.1,(YN ps vs w h).2.2.1,[],?_,?_⟩
    ·unfold lfB;rw[Km an];rfl
    ·rw[an,aj,c1] at e1;refine cE ?_;simp +contextual -implicitDefEqProofs (maxSteps:=10^7) only[go_sem,seval,↓gZ,WM,g0,gh,tw,tg,c0,e1]
   ·rw[Kl c1];rw[aj] at e1;have hQ:∃ r,Zi Xs Ms Q4 [.d (.agg [J (W:Int),J (H:Int),.sl (ps.map Pane.enc)]),.d (.sl (vs.map Qp)),.d (.sl (ZqK ps vs W H)),(.d (J ((w:Nat)))),(.d (J ((h:Nat))))] []=some r∧∃ o a q t ks,(match ff (fun x=>vT ps vs x h+vT ps vs (w-x) h) (vT ps vs w h) 1 (w / 2) with
      | some x=>BT.cut true x (bpN ps vs n x h) (bpN ps vs n (w-x) h)
      | none=>match ff (fun y=>vT ps vs w y+vT ps vs w (h-y)) (vT ps vs w h) 1 (h / 2) with
       | some y=>.cut false y (bpN ps vs n w y) (bpN ps vs n w (h-y))
       | none=>.waste).plan=.mk o a q t ks∧r=(.agg [(.d (J o)),(.d (J a)),(.d (J q)),(.d (.bool t)),.own 0],[.row 5 (ks.map Zh.enc) true false]):=by
     refine cW ?_;simp +contextual -implicitDefEqProofs (maxSteps:=10^7) only[go_sem,seval,↓gZ,WM,g0,gh,tw,tg,c0,e1,c1];refine LO (α:=Nat) (fun x=>[(13,.d (J (x:Int)))]) (fun _=>[]) (fun x=>1≤x∧x≤w / 2+1∧ff (fun x=>vT ps vs x h+vT ps vs (w-x) h) (vT ps vs w h) 1 (w / 2)=ff (fun x=>vT ps vs x h+vT ps vs (w-x) h) (vT ps vs w h) x (w / 2+1-x)) (fun x=>w / 2+1-x) 1 ⟨by omega,by omega,rfl⟩ ?_;intro x ⟨ay,az,ae⟩ ih;have aq:=Zn (k:=x) (by omega);by_cases ak:x≤w / 2
     ·have ah : (x:Int)≤((w / 2:Nat):Int):=by omega
      have g1:(x:Int)<17:=by omega
      have g3:((w-x:Nat):Int)<17:=by omega
      have g4:IntKind.i64.wrap ((w:Int)-(x:Int))=((w-x:Nat):Int):=by rw[XF (by omega) (by omega)];omega
      have t1:=Jv (ps:=ps) (vs:=vs) (H:=H) (w:=x) (h:=h) ag;have tx:=Zh9 (ps:=ps) (vs:=vs) (W:=W) (H:=H) (w:=x) (by omega);have t2:=Jv (ps:=ps) (vs:=vs) (H:=H) (w:=w-x) (h:=h) ag;have ty:=Zh9 (ps:=ps) (vs:=vs) (W:=W) (H:=H) (w:=w-x) (by omega);have b1:=U6 (ps:=ps) hv (w:=x) (h:=h) (by omega) (by omega);have b2:=U6 (ps:=ps) hv (w:=w-x) (h:=h) (by omega) (by omega);have w3:=wi (vT ps vs x h+vT ps vs (w-x) h) (by omega) (by omega);rw[Zc1 ak] at ae;by_cases c2:vT ps vs x h+vT ps vs (w-x) h=vT ps vs w h
      ·rw[Km c2] at ae;obtain⟨o1,a1,ao,s1,k1,p1,r1⟩:=ihn x h (by omega) (by omega) am ag (by omega);obtain⟨o2,a2,ap,s2,k2,p2,r2⟩:=ihn (w-x) h (by omega) (by omega) am ag (by omega);rw[c2] at w3;simp +contextual -implicitDefEqProofs (maxSteps:=10^7) only[go_sem,seval,↓gZ,q1,q2,ak,ah,g1,gh,g3,g4,t1,t2,tx,ty,tw,tg,w3,c2,r1,r2];rw[ae];refine⟨2,x,0,false,[(bpN ps vs n x h).plan,(bpN ps vs n (w-x) h).plan],rfl,?_⟩;simp only[Kn,KB,p1,p2,Zh.enc_mk]
      ·rw[Kl c2] at ae;simp +contextual -implicitDefEqProofs (maxSteps:=10^7) only[go_sem,seval,↓gZ,q1,q2,ak,ah,g1,gh,g3,g4,t1,t2,tx,ty,tw,tg,w3,c2,aq];refine ih (x+1) _ ⟨by omega,by omega,ae⟩ (by omega) ?_;simp +contextual -implicitDefEqProofs (maxSteps:=10^7) only[go_sem,seval,↓gZ]
     ·have:x=w / 2+1:=by omega
      subst this;have al:¬((w / 2+1:Nat):Int)≤((w / 2:Nat):Int):=by omega
      simp +contextual -implicitDefEqProofs (maxSteps:=10^7) only[go_sem,seval,↓gZ,q1,q2,al];have ar:ff (fun x=>vT ps vs x h+vT ps vs (w-x) h) (vT ps vs w h) 1 (w / 2)=none:=by rw[ae,Nat.sub_self];rfl
      rw[ar];have fy:∀ y:Nat,1≤y→y≤h / 2→(y:Int)<17∧((h-y:Nat):Int)<17∧IntKind.i64.wrap ((h:Int)-(y:Int))=((h-y:Nat):Int)∧(Zhi ps vs w H)[y]?=some (J (vT ps vs w y))∧(Zhi ps vs w H)[h-y]?=some (J (vT ps vs w (h-y)))∧IntKind.i64.wrap (vT ps vs w y+vT ps vs w (h-y))=vT ps vs w y+vT ps vs w (h-y):=fun y au av=>by
       have b1:=U6 (ps:=ps) hv (w:=w) (h:=y) (by omega) (by omega);have b2:=U6 (ps:=ps) hv (w:=w) (h:=h-y) (by omega) (by omega);exact⟨by omega,by omega,by rw[XF (by omega) (by omega)];omega,Jv (by omega),Jv (by omega),wi _ (by omega) (by omega)⟩
      refine QV Xs Ms ?_;by_cases ad:1≤h / 2
      ·have aa : (1:Int)≤((h / 2:Nat):Int):=by omega
       obtain⟨g1,g3,g4,t1,t2,w3⟩:=fy 1 (by omega) ad;simp only[L3] at g1 g4;have ab:ff (fun y=>vT ps vs w y+vT ps vs w (h-y)) (vT ps vs w h) 1 (h / 2)=if vT ps vs w 1+vT ps vs w (h-1)=vT ps vs w h then some 1 else ff (fun y=>vT ps vs w y+vT ps vs w (h-y)) (vT ps vs w h) 2 (h / 2+1-2):=Zc1 ad
       by_cases c2:vT ps vs w 1+vT ps vs w (h-1)=vT ps vs w h
       ·rw[Km c2] at ab;obtain⟨o1,a1,ao,s1,k1,p1,r1⟩:=ihn w 1 ai af (by omega) (by omega) (by omega);obtain⟨o2,a2,ap,s2,k2,p2,r2⟩:=ihn w (h-1) ai af (by omega) (by omega) (by omega);rw[c2] at w3;simp only[L3] at r1;simp +contextual -implicitDefEqProofs (maxSteps:=10^7) only[go_sem,seval,↓gZ,q3,q4,ad,aa,g0,g1,g3,g4,t1,t2,tw,tg,w3,c2,r1,r2];rw[ab];refine⟨3,1,0,false,[(bpN ps vs n w 1).plan,(bpN ps vs n w (h-1)).plan],rfl,?_⟩;simp only[Kn,KB,p1,p2,Zh.enc_mk]
       ·rw[Kl c2] at ab;simp +contextual -implicitDefEqProofs (maxSteps:=10^7) only[go_sem,seval,↓gZ,q3,q4,ad,aa,g0,g1,g3,g4,t1,t2,tw,tg,w3,c2];refine Qw Xs Ms (st0:=?st4) (α:=Nat) (fun y=>[(14,.d (J (y:Int)))]) (fun _=>[]) (fun y=>2≤y∧y≤h / 2+1∧ff (fun y=>vT ps vs w y+vT ps vs w (h-y)) (vT ps vs w h) 1 (h / 2)=ff (fun y=>vT ps vs w y+vT ps vs w (h-y)) (vT ps vs w h) y (h / 2+1-y)) (fun y=>h / 2+1-y) 2 ?hc4 ⟨by omega,by omega,ab⟩ ?h04 ?step4
        case hc4=>simp +contextual -implicitDefEqProofs (maxSteps:=10^7) only[go_sem,seval,↓gZ]<;>exact rfl
        case h04=>rfl
        case step4=>
         clear ab c2 ad aa g1 g3 g4 t1 t2 w3;intro y ⟨au,av,ab⟩ aw;have ax:=Zn (k:=y) (by omega);by_cases ad:y≤h / 2
         ·have aa : (y:Int)≤((h / 2:Nat):Int):=by omega
          obtain⟨g1,g3,g4,t1,t2,w3⟩:=fy y (by omega) ad;rw[Zc1 ad] at ab;by_cases c2:vT ps vs w y+vT ps vs w (h-y)=vT ps vs w h
          ·rw[Km c2] at ab;obtain⟨o1,a1,ao,s1,k1,p1,r1⟩:=ihn w y ai af (by omega) (by omega) (by omega);obtain⟨o2,a2,ap,s2,k2,p2,r2⟩:=ihn w (h-y) ai af (by omega) (by omega) (by omega);rw[c2] at w3;simp +contextual -implicitDefEqProofs (maxSteps:=10^7) only[go_sem,seval,↓gZ,q3,q4,ad,aa,g0,g1,g3,g4,t1,t2,tw,tg,w3,c2,r1,r2];rw[ab];refine⟨3,y,0,false,[(bpN ps vs n w y).plan,(bpN ps vs n w (h-y)).plan],rfl,?_⟩;simp only[Kn,KB,p1,p2,Zh.enc_mk]
          ·rw[Kl c2] at ab;simp +contextual -implicitDefEqProofs (maxSteps:=10^7) only[go_sem,seval,↓gZ,q3,q4,ad,aa,g0,g1,g3,g4,t1,t2,tw,tg,w3,c2,ax];refine aw (y+1) _ ⟨by omega,by omega,ab⟩ (by omega) ?_;simp +contextual -implicitDefEqProofs (maxSteps:=10^7) only[go_sem,seval,↓gZ]
         ·have:y=h / 2+1:=by omega
          subst this;have al:¬((h / 2+1:Nat):Int)≤((h / 2:Nat):Int):=by omega
          rw[Nat.sub_self] at ab;simp +contextual -implicitDefEqProofs (maxSteps:=10^7) only[go_sem,seval,↓gZ,q3,q4,al];rw[ab];exact⟨0,0,0,false,[],rfl,rfl⟩
      ·have aa : ¬(1:Int)≤((h / 2:Nat):Int):=by omega
       have hz:h / 2=0:=by omega
       rw[hz] at q3 q4 aa;simp +contextual -implicitDefEqProofs (maxSteps:=10^7) only[go_sem,seval,↓gZ,q3,q4,aa];rw[hz];exact⟨0,0,0,false,[],rfl,rfl⟩
    obtain⟨r,h1,o,a,q,t,ks,h2,rfl⟩:=hQ;exact⟨o,a,q,t,ks,h2,h1⟩
theorem ZfK (kW kH:Int) (kP:List Pane) (vs:List Int) (hl:vs.length≤1000) (hP:kP.length<4611686018427387904):Zi Xs Ms Yr [(.d (.agg [J kW,J kH,.sl (kP.map Pane.enc)])),.d (.sl (vs.map Qp))] []=some ((.d (.bool (decide (Zar (ZN.mk kW kH kP) vs)))),[]):=by
 have e1:=ZhR kW kH kP hP;refine cE ?_;simp +contextual -implicitDefEqProofs (maxSteps:=10^7) only[go_sem,seval,↓gZ,UX];refine LO (α:=Nat) (fun i=>[(5,.d (J (i:Int)))]) (fun _=>[]) (fun i=>i≤vs.length∧∀ v∈vs.take i,1≤v∧v≤1000) (fun i=>vs.length-i) 0 ⟨by omega,by simp⟩ ?_;intro i ⟨hi,hb⟩ ih;by_cases af:i<vs.length
 ·obtain⟨v,hx⟩:=ZY af;have aa : (i:Int)<(vs.length:Int):=by omega
  have hw:=Zn (k:=i) (by omega);have ah:=Kp hx;have e2:=Vs v 1 1000;by_cases c1:1≤v∧v≤1000
  ·rw[Kw c1] at e2;simp +contextual -implicitDefEqProofs (maxSteps:=10^7) only[go_sem,seval,↓gZ,hx,af,aa,e2,hw];refine ih (i+1) _ ⟨by omega,fun y hy=>?_⟩ (by omega) ?_
   ·rw[KC,hx] at hy;simp only[LC,Kc,KA] at hy;rcases hy with hy | rfl
    ·exact hb y hy
    ·exact c1
   ·simp +contextual -implicitDefEqProofs (maxSteps:=10^7) only[go_sem,seval,↓gZ]
  ·have ab:¬Zar (ZN.mk kW kH kP) vs:=fun h=>c1 (h.2.2 v ah);rw[Kq c1] at e2;rw[Kq ab];simp +contextual -implicitDefEqProofs (maxSteps:=10^7) only[go_sem,seval,↓gZ,hx,af,aa,e2]
 ·have:i=vs.length:=by omega
  subst this;rw[Ll] at hb;have aa : ¬(vs.length:Int)<(vs.length:Int):=by omega
  have ai:ZlY vs:=hb;by_cases h1:VW (ZN.mk kW kH kP)
  ·rw[Kw h1] at e1;by_cases h2:vs.length=kP.length
   ·have ad : (vs.length:Int)=(kP.length:Int):=by omega
    by_cases h3:vs.length≤7
    ·have ae : (kP.length:Int)≤7:=by omega
     by_cases h4:kW≤16
     ·by_cases h5:kH≤16
      ·have ag:Zar (ZN.mk kW kH kP) vs:=⟨⟨h1,h4,h5⟩,⟨by simp only;omega,h2⟩,ai⟩
       rw[Kw ag];simp +contextual -implicitDefEqProofs (maxSteps:=10^7) only[go_sem,seval,↓gZ,aa,e1,ad,h2,ae,h3,h4,h5]
      ·have ab:¬Zar (ZN.mk kW kH kP) vs:=fun h=>h5 h.1.2.2;rw[Kq ab];simp +contextual -implicitDefEqProofs (maxSteps:=10^7) only[go_sem,seval,↓gZ,aa,e1,ad,h2,ae,h3,h4,h5]
     ·have ab:¬Zar (ZN.mk kW kH kP) vs:=fun h=>h4 h.1.2.1;rw[Kq ab];simp +contextual -implicitDefEqProofs (maxSteps:=10^7) only[go_sem,seval,↓gZ,aa,e1,ad,h2,ae,h3,h4]
    ·have ae : ¬(kP.length:Int)≤7:=by omega
     have ab:¬Zar (ZN.mk kW kH kP) vs:=fun h=>h3 (by rw[h2];exact h.2.1.1);rw[Kq ab];simp +contextual -implicitDefEqProofs (maxSteps:=10^7) only[go_sem,seval,↓gZ,aa,e1,ad,h2,ae,h3]
   ·have ad : ¬(vs.length:Int)=(kP.length:Int):=by omega
    have ab:¬Zar (ZN.mk kW kH kP) vs:=fun h=>h2 h.2.1.2;rw[Kq ab];simp +contextual -implicitDefEqProofs (maxSteps:=10^7) only[go_sem,seval,↓gZ,aa,e1,ad,h2]
  ·have ab:¬Zar (ZN.mk kW kH kP) vs:=fun h=>h1 h.1.1;rw[Kq h1] at e1;rw[Kq ab];simp +contextual -implicitDefEqProofs (maxSteps:=10^7) only[go_sem,seval,↓gZ,aa,e1]
end Go.Proofs.Ytefabmohhbhlfaa
