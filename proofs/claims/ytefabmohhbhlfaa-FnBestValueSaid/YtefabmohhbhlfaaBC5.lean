/- Own text. -/
import Derived.Test.YtefabmohhbhlfaaBCode
import Derived.Test.YtefabmohhbhlfaaAbsParts
import Derived.Test.YtefabmohhbhlfaaBC4
import Derived.Test.YtefabmohhbhlfaaAbsOkD
namespace Go.Proofs.Ytefabmohhbhlfaa
open Go Go.Abs Go.Abs.E Go.Abs.L
open Nat (reduceMul reduceSub reduceLeDiff reduceEqDiff)
open Int (reduceLE reduceEq reduceToNat reduceNeg)
set_option linter.unusedSimpArgs false
set_option linter.unusedVariables false
set_option maxRecDepth 20000
set_option maxHeartbeats 4000000
theorem ZpO {ps:List Pane} {w h i v:Int} {t:Bool} {s:Lf} (hs:0≤s.2.2.2∧s.2.2.2≤1000) (hv:0≤v∧v≤1000):0≤(lf1 ps w h i v t s).2.2.2∧(lf1 ps w h i v t s).2.2.2≤1000:=by
 unfold lf1;split
 ·exact hv
 ·exact hs
theorem ZpP {ps:List Pane} {w h:Int}:∀ {vs:List Int} {k:Nat} {s:Lf},(∀ v∈vs,0≤v∧v≤1000)→0≤s.2.2.2∧s.2.2.2≤1000→0≤(lfF ps w h k vs s).2.2.2∧(lfF ps w h k vs s).2.2.2≤1000
 | [],k,s,_,hs=>hs
 | v :: vs,k,s,hv,hs=>by
  simp only[lfF];exact ZpP (fun x hx=>hv x (by simp[hx])) (ZpO (ZpO hs (hv v (by simp))) (hv v (by simp)))
def lfV (ps:List Pane) (vs:List Int) (w h:Nat):Int:=(Uu ps vs w h).2.2.2
theorem Zkc {ps:List Pane} {vs:List Int} (hv:∀ v∈vs,0≤v∧v≤1000) (w h:Nat):0≤lfV ps vs w h∧lfV ps vs w h≤1000:=ZpP hv (by simp)
def vT (ps:List Pane) (vs:List Int) (w h:Nat):Int:=V (lfV ps vs) w h
theorem ZeW {ps:List Pane} {vs:List Int} (hv:∀ v∈vs,0≤v∧v≤1000) {w h:Nat} (hw:w≤16) (hh:h≤16):0≤vT ps vs w h∧vT ps vs w h≤256000:=by
 have h1:=V_bd (Zkc (ps:=ps) hv) (w+h) w h (Kf _);have h2:w*h≤16*16:=Nat.mul_le_mul hw hh;unfold vT;omega
def Zou (f:Nat→Int):List D:=(List.range 289).map fun i=>J (f i)
theorem Zov (f:Nat→Int):UB (rowV f)=some (Zou f):=by
 have h:∀ l:List Nat,UB (l.map fun x=>AV.d (J (f x)))=some (l.map fun x=>D.int .i64 (f x)):=fun l=>by
  induction l with
  | nil=>rfl
  | cons a l ih=>simp only[Ko,UB,ih];rfl
 exact h _
theorem Zlu (f:Nat→Int):(Zou f).map AV.d=rowV f:=by
 unfold Zou rowV;rw[List.map_map];rfl
theorem Zlv (f:Nat→Int):(Zou f).length=289:=by simp[Zou]
theorem Zhg (f:Nat→Int):Qv (rowV f)=true:=by
 have h:∀ l:List Nat,Qv (l.map fun x=>AV.d (J (f x)))=true:=fun l=>by
  induction l with
  | nil=>rfl
  | cons a l ih=>exact ih
 exact h _
theorem Zow (f:Nat→Int):(rowV f).take 289=rowV f:=Lu (by rw[WD];exact Kf _)
theorem Zjl (f:Nat→Int):(rowV f).drop 289=[]:=List.drop_of_length_le (by rw[WD];exact Kf _)
theorem tvg {lf:Nat→Nat→Int} {H w h a b:Nat} (ha:a<17) (hb:b≤H) (aa:b<17) (ab:a<w∨a=w∧b<h):(rowV (tv lf H w h))[a*17+b]?=some (.d (J (V lf a b))):=by
 rw[Zdo _ (by omega),Nat.mul_comm,ZqS hb aa ab]
theorem Zfr {g:Nat→Int} {m:Int} {x:Nat} (h:1≤x):mx g m x=max (mx g m (x-1)) (g x):=by
 obtain⟨n,rfl⟩:∃ n,x=n+1:=⟨x-1,by omega⟩
 rfl
theorem Zdp (w:Nat):((w:Int)).tdiv 2=((w / 2:Nat):Int):=(Int.ofNat_tdiv w 2).symm
theorem Zh5 (W H:Nat) (ps:List Pane) (vs:List Int) (hW:W≤16) (hH:H≤16) (hl:vs.length≤1000) (hv:∀ v∈vs,0≤v∧v≤1000):Zu Xs Ms VU [.d (.agg [J (W:Int),J (H:Int),.sl (ps.map Pane.enc)]),.d (.sl (vs.map Qs))] []=some (.d (.agg (Zou (tv (lfV ps vs) H (W+1) 1))),[]):=by
 refine cE ?_;simp +contextual -implicitDefEqProofs (maxSteps:=10^7) only[go_sem,seval,↓gZ,Zah,Zjk,Zlt,Uv,Za5];refine Ya Xs Ms (st0:=?st0) (α:=Nat) (fun w=>[(6,.d (J (w:Int)))]) (fun w=>[(0,.box (rowV (tv (lfV ps vs) H w 1)))]) (fun w=>1≤w∧w≤W+1) (fun w=>W+1-w) 1 ?hc ⟨by omega,by omega⟩ ?h0 ?step
 case hc=>simp +contextual -implicitDefEqProofs (maxSteps:=10^7) only[go_sem,seval,↓gZ,Z3,Qq,Z4]<;>exact rfl
 case h0=>rw[← ZpN];rfl
 case step=>
  intro w ⟨ap,a3⟩ ih;by_cases aq:w≤W
  ·have af : (w:Int)≤(W:Int):=by omega
   have ar:=ZE (k:=w) (by omega);simp +contextual -implicitDefEqProofs (maxSteps:=10^7) only[go_sem,seval,↓gZ,aq,af,Z3,Qq,Z4];refine Ya Xs Ms (st0:=?st1) (α:=Nat) (fun h=>[(7,.d (J (h:Int)))]) (fun h=>[(0,.box (rowV (tv (lfV ps vs) H w h)))]) (fun h=>1≤h∧h≤H+1) (fun h=>H+1-h) 1 ?hc2 ⟨by omega,by omega⟩ ?h02 ?step2
   case hc2=>simp +contextual -implicitDefEqProofs (maxSteps:=10^7) only[go_sem,seval,↓gZ,Z3,Qq,Z4]<;>exact rfl
   case h02=>rfl
   case step2=>
    intro h ⟨au,a4⟩ aj;by_cases ak:h≤H
    ·have ag : (h:Int)≤(H:Int):=by omega
     have al:=ZE (k:=h) (by omega);have e1:=Zh4 (W:Int) (H:Int) ps vs (w:Int) (h:Int) hl;simp +contextual -implicitDefEqProofs (maxSteps:=10^7) only[go_sem,seval,↓gZ,ak,ag,e1,Z3,Qq,Z4];have q1:=Zdp w;have q2:=wi (((w / 2:Nat):Int)) (by omega) (by omega);have q3:=Zdp h;have q4:=wi (((h / 2:Nat):Int)) (by omega) (by omega);refine Ya Xs Ms (st0:=?st3) (α:=Nat) (fun x=>[(10,.d (J (x:Int))),(9,.d (J (mx (fun x=>vT ps vs x h+vT ps vs (w-x) h) (lfV ps vs w h) (x-1))))]) (fun _=>[]) (fun x=>1≤x∧x≤w / 2+1) (fun x=>w / 2+1-x) 1 ?hc3 ⟨by omega,by omega⟩ ?h03 ?step3
     case hc3=>simp +contextual -implicitDefEqProofs (maxSteps:=10^7) only[go_sem,seval,↓gZ,Z3,Qq,Z4]<;>exact rfl
     case h03=>rfl
     case step3=>
      intro x ⟨av,a5⟩ aw;have ax:=ZE (k:=x) (by omega);by_cases ay:x≤w / 2
      ·have ah : (x:Int)≤((w / 2:Nat):Int):=by omega
       have g1:(x:Int)<17:=by omega
       have g2:(h:Int)<17:=by omega
       have g3:((w-x:Nat):Int)<17:=by omega
       have g4:IntKind.i64.wrap ((w:Int)-(x:Int))=((w-x:Nat):Int):=by rw[Xt (by omega) (by omega)];omega
       have t1:=tvg (lf:=lfV ps vs) (H:=H) (w:=w) (h:=h) (a:=x) (b:=h) (by omega) (by omega) (by omega) (.inl (by omega));have t2:=tvg (lf:=lfV ps vs) (H:=H) (w:=w) (h:=h) (a:=w-x) (b:=h) (by omega) (by omega) (by omega) (.inl (by omega));have b1:=ZeW (ps:=ps) hv (w:=x) (h:=h) (by omega) (by omega);have b2:=ZeW (ps:=ps) hv (w:=w-x) (h:=h) (by omega) (by omega);have w3:=wi (vT ps vs x h+vT ps vs (w-x) h) (by omega) (by omega);have e5:mx (fun x=>vT ps vs x h+vT ps vs (w-x) h) (lfV ps vs w h) x=max (mx (fun x=>vT ps vs x h+vT ps vs (w-x) h) (lfV ps vs w h) (x-1)) (vT ps vs x h+vT ps vs (w-x) h):=Zfr av
       change _=some (AV.d (J (vT ps vs x h))) at t1
       change _=some (AV.d (J (vT ps vs (w-x) h))) at t2
       simp +contextual -implicitDefEqProofs (maxSteps:=10^7) only[go_sem,seval,↓gZ,q1,q2,ay,ah,g1,g2,g3,g4,t1,t2,w3,ax,KP,Nat.mul_one,Z3,Qq,Z4];refine aw (x+1) _ ⟨by omega,by omega⟩ (by omega) ?_;simp +contextual -implicitDefEqProofs (maxSteps:=10^7) only[go_sem,seval,↓gZ,e5,Li,Z3,Qq,Z4]
      ·have:x=w / 2+1:=by omega
       subst this;have ae:¬((w / 2+1:Nat):Int)≤((w / 2:Nat):Int):=by omega
       simp +contextual -implicitDefEqProofs (maxSteps:=10^7) only[go_sem,seval,↓gZ,q1,q2,ae,Z3,Qq,Z4,Li];have g0:(w:Int)<17:=by omega
       have gh:(h:Int)<17:=by omega
       have fy:∀ y:Nat,1≤y→y≤h / 2→(y:Int)<17∧((h-y:Nat):Int)<17∧IntKind.i64.wrap ((h:Int)-(y:Int))=((h-y:Nat):Int)∧(rowV (tv (lfV ps vs) H w h))[w*17+y]?=some (AV.d (J (vT ps vs w y)))∧(rowV (tv (lfV ps vs) H w h))[w*17+(h-y)]?=some (AV.d (J (vT ps vs w (h-y))))∧IntKind.i64.wrap (vT ps vs w y+vT ps vs w (h-y))=vT ps vs w y+vT ps vs w (h-y):=fun y az a0=>by
        have b1:=ZeW (ps:=ps) hv (w:=w) (h:=y) (by omega) (by omega);have b2:=ZeW (ps:=ps) hv (w:=w) (h:=h-y) (by omega) (by omega);exact⟨by omega,by omega,by rw[Xt (by omega) (by omega)];omega,tvg (by omega) (by omega) (by omega) (.inr ⟨rfl,by omega⟩),tvg (by omega) (by omega) (by omega) (.inr ⟨rfl,by omega⟩),wi _ (by omega) (by omega)⟩
       have am:=ZpM (tv (lfV ps vs) H w h) (tv (lfV ps vs) H w (h+1)) (x:=w*17+h) (v:=vT ps vs w h) (by omega) (by rw[Nat.mul_comm];exact tv_new ak (by omega)) (fun i hi=>tv_old (by omega) (by omega));have aa:mx (fun y=>vT ps vs w y+vT ps vs w (h-y)) (mx (fun x=>vT ps vs x h+vT ps vs (w-x) h) (lfV ps vs w h) (w / 2)) (h / 2)=vT ps vs w h:=(ZmB ap au).symm;have ad:w*17+h≤288:=by omega
       generalize mx (fun x=>vT ps vs x h+vT ps vs (w-x) h) (lfV ps vs w h) (w / 2)=m0 at *;refine Jm Xs Ms ?_;by_cases an:1≤h / 2
       ·have ab : (1:Int)≤((h / 2:Nat):Int):=by omega
        obtain⟨g1,g2,g3,t1,t2,w3⟩:=fy 1 (by omega) an;simp only[Int.natCast_one] at g1 g3;simp +contextual -implicitDefEqProofs (maxSteps:=10^7) only[go_sem,seval,↓gZ,q3,q4,an,ab,g0,g1,g2,g3,t1,t2,w3,KP,Nat.mul_one,Z3,Qq,Z4];refine Ya Xs Ms (st0:=?st4) (α:=Nat) (fun y=>[(11,.d (J (y:Int))),(9,.d (J (mx (fun y=>vT ps vs w y+vT ps vs w (h-y)) m0 (y-1))))]) (fun _=>[]) (fun y=>2≤y∧y≤h / 2+1) (fun y=>h / 2+1-y) 2 ?hc4 ⟨by omega,by omega⟩ ?h04 ?step4
        case hc4=>simp +contextual -implicitDefEqProofs (maxSteps:=10^7) only[go_sem,seval,↓gZ,Z3,Qq,Z4]<;>exact rfl
        case h04=>rfl
        case step4=>
         intro y ⟨az,a0⟩ a1;have a2:=ZE (k:=y) (by omega);by_cases ao:y≤h / 2
         ·have ai : (y:Int)≤((h / 2:Nat):Int):=by omega
          obtain⟨g1,g2,g3,t1,t2,w3⟩:=fy y (by omega) ao;have e5:mx (fun y=>vT ps vs w y+vT ps vs w (h-y)) m0 y=max (mx (fun y=>vT ps vs w y+vT ps vs w (h-y)) m0 (y-1)) (vT ps vs w y+vT ps vs w (h-y)):=Zfr (by omega);simp +contextual -implicitDefEqProofs (maxSteps:=10^7) only[go_sem,seval,↓gZ,q3,q4,ao,ai,g0,g1,g2,g3,t1,t2,w3,a2,KP,Nat.mul_one,Z3,Qq,Z4];refine a1 (y+1) _ ⟨by omega,by omega⟩ (by omega) ?_;simp +contextual -implicitDefEqProofs (maxSteps:=10^7) only[go_sem,seval,↓gZ,e5,Li,Z3,Qq,Z4]
         ·have:y=h / 2+1:=by omega
          subst this;have ae:¬((h / 2+1:Nat):Int)≤((h / 2:Nat):Int):=by omega
          simp +contextual -implicitDefEqProofs (maxSteps:=10^7) only[go_sem,seval,↓gZ,q3,q4,ae,g0,gh,aa,al,am,ad,WD,Uv,KP,Nat.mul_one,Z3,Qq,Z4,Li];refine aj (h+1) _ ⟨by omega,by omega⟩ (by omega) ?_;simp +contextual -implicitDefEqProofs (maxSteps:=10^7) only[go_sem,seval,↓gZ,Z3,Qq,Z4]
       ·have ab : ¬(1:Int)≤((h / 2:Nat):Int):=by omega
        have hz:h / 2=0:=by omega
        rw[hz] at aa q3 q4 ab;simp only[mx] at aa;simp +contextual -implicitDefEqProofs (maxSteps:=10^7) only[go_sem,seval,↓gZ,q3,q4,ab,g0,gh,aa,al,am,ad,WD,Uv,KP,Nat.mul_one,Z3,Qq,Z4];refine aj (h+1) _ ⟨by omega,by omega⟩ (by omega) ?_;simp +contextual -implicitDefEqProofs (maxSteps:=10^7) only[go_sem,seval,↓gZ,Z3,Qq,Z4]
    ·have:h=H+1:=by omega
     subst this;have ae:¬((H+1:Nat):Int)≤(H:Int):=by omega
     simp +contextual -implicitDefEqProofs (maxSteps:=10^7) only[go_sem,seval,↓gZ,ae,ar,Z3,Qq,Z4];refine ih (w+1) _ ⟨by omega,by omega⟩ (by omega) ?_;simp +contextual -implicitDefEqProofs (maxSteps:=10^7) only[go_sem,seval,↓gZ,ZqT,Z3,Qq,Z4]
  ·have:w=W+1:=by omega
   subst this;have ae:¬((W+1:Nat):Int)≤(W:Int):=by omega
   simp +contextual -implicitDefEqProofs (maxSteps:=10^7) only[go_sem,seval,↓gZ,ae,Z3,Qq,Z4,WD,Zow,Zov,Zlu,Zlv,Zhg,Uv,Za5,Zjl,LG]
end Go.Proofs.Ytefabmohhbhlfaa
