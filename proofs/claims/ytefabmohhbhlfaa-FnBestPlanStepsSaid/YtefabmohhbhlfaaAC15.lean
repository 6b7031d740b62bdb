/- Own text. -/
import Derived.Test.YtefabmohhbhlfaaACode
import Derived.Test.YtefabmohhbhlfaaAbsParts
import Derived.Test.YtefabmohhbhlfaaAC13
import Derived.Test.YtefabmohhbhlfaaAbsOkD
namespace Go.Proofs.Ytefabmohhbhlfaa
open Go Go.Abs Go.Abs.E Go.Abs.L
open Nat (reduceMul reduceSub reduceLeDiff reduceEqDiff)
open Int (reduceLE reduceEq reduceToNat reduceNeg)
set_option linter.unusedSimpArgs false
set_option linter.unusedVariables false
set_option maxRecDepth 20000
set_option maxHeartbeats 4000000
theorem Zr1 {ps:List Pane} {w h i v:Int} {t:Bool} {s:Lf} (hs:0≤s.2.2.2∧s.2.2.2≤1000) (hv:0≤v∧v≤1000):0≤(lf1 ps w h i v t s).2.2.2∧(lf1 ps w h i v t s).2.2.2≤1000:=by
 unfold lf1;split
 ·exact hv
 ·exact hs
theorem Zr2 {ps:List Pane} {w h:Int}:∀ {vs:List Int} {k:Nat} {s:Lf},(∀ v∈vs,0≤v∧v≤1000)→0≤s.2.2.2∧s.2.2.2≤1000→0≤(lfF ps w h k vs s).2.2.2∧(lfF ps w h k vs s).2.2.2≤1000
 | [],k,s,_,hs=>hs
 | v :: vs,k,s,hv,hs=>by
  simp only[lfF];exact Zr2 (fun x hx=>hv x (by simp[hx])) (Zr1 (Zr1 hs (hv v (by simp))) (hv v (by simp)))
def lfV (ps:List Pane) (vs:List Int) (w h:Nat):Int:=(YN ps vs w h).2.2.2
theorem lfV_bd {ps:List Pane} {vs:List Int} (hv:∀ v∈vs,0≤v∧v≤1000) (w h:Nat):0≤lfV ps vs w h∧lfV ps vs w h≤1000:=Zr2 hv (by simp)
def vT (ps:List Pane) (vs:List Int) (w h:Nat):Int:=V (lfV ps vs) w h
theorem U6 {ps:List Pane} {vs:List Int} (hv:∀ v∈vs,0≤v∧v≤1000) {w h:Nat} (hw:w≤16) (hh:h≤16):0≤vT ps vs w h∧vT ps vs w h≤256000:=by
 have h1:=V_bd (lfV_bd (ps:=ps) hv) (w+h) w h (Kh _);have h2:w*h≤16*16:=Nat.mul_le_mul hw hh;unfold vT;omega
def ZqE (f:Nat→Int):List D:=(List.range 289).map fun i=>J (f i)
theorem ZqF (f:Nat→Int):J6 (rowV f)=some (ZqE f):=by
 have h:∀ l:List Nat,J6 (l.map fun x=>AV.d (J (f x)))=some (l.map fun x=>D.int .i64 (f x)):=fun l=>by
  induction l with
  | nil=>rfl
  | cons a l ih=>simp only[Kn,J6,ih];rfl
 exact h _
theorem Zey (f:Nat→Int):(ZqE f).map AV.d=rowV f:=by
 unfold ZqE rowV;rw[Kac];rfl
theorem Zez (f:Nat→Int):(ZqE f).length=289:=by simp[ZqE]
theorem Zbj (f:Nat→Int):QI (rowV f)=true:=by
 have h:∀ l:List Nat,QI (l.map fun x=>AV.d (J (f x)))=true:=fun l=>by
  induction l with
  | nil=>rfl
  | cons a l ih=>exact ih
 exact h _
theorem ZqG (f:Nat→Int):(rowV f).take 289=rowV f:=KT (by rw[Xk];exact Kh _)
theorem ZcZ (f:Nat→Int):(rowV f).drop 289=[]:=List.drop_of_length_le (by rw[Xk];exact Kh _)
theorem tvg {lf:Nat→Nat→Int} {H w h a b:Nat} (ha:a<17) (hb:b≤H) (aa:b<17) (ab:a<w∨a=w∧b<h):(rowV (tv lf H w h))[a*17+b]?=some (.d (J (V lf a b))):=by
 rw[Zex _ (by omega),Nat.mul_comm,ZtJ hb aa ab]
theorem ZhC {g:Nat→Int} {m:Int} {x:Nat} (h:1≤x):mx g m x=max (mx g m (x-1)) (g x):=by
 obtain⟨n,rfl⟩:∃ n,x=n+1:=⟨x-1,by omega⟩
 rfl
theorem UI (w:Nat):((w:Int)).tdiv 2=((w / 2:Nat):Int):=(Int.ofNat_tdiv w 2).symm
theorem ZdC (W H:Nat) (ps:List Pane) (vs:List Int) (hW:W≤16) (hH:H≤16) (hl:vs.length≤1000) (hv:∀ v∈vs,0≤v∧v≤1000):Zi Xs Ms Vz [.d (.agg [J (W:Int),J (H:Int),.sl (ps.map Pane.enc)]),.d (.sl (vs.map Qp))] []=some (.d (.agg (ZqE (tv (lfV ps vs) H (W+1) 1))),[]):=by
 refine cE ?_;simp +contextual -implicitDefEqProofs (maxSteps:=10^7) only[go_sem,seval,↓gZ,Zbm,ZcY,Ju,QY,Yf];refine Qw Xs Ms (st0:=?st0) (α:=Nat) (fun w=>[(6,.d (J (w:Int)))]) (fun w=>[(0,.box (rowV (tv (lfV ps vs) H w 1)))]) (fun w=>1≤w∧w≤W+1) (fun w=>W+1-w) 1 ?hc ⟨by omega,by omega⟩ ?h0 ?step
 case hc=>simp +contextual -implicitDefEqProofs (maxSteps:=10^7) only[go_sem,seval,↓gZ,Zt,ZA,Zu]<;>exact rfl
 case h0=>rw[← Zr0];rfl
 case step=>
  intro w ⟨ap,a3⟩ ih;by_cases aq:w≤W
  ·have af : (w:Int)≤(W:Int):=by omega
   have ar:=Zn (k:=w) (by omega);simp +contextual -implicitDefEqProofs (maxSteps:=10^7) only[go_sem,seval,↓gZ,aq,af,Zt,ZA,Zu];refine Qw Xs Ms (st0:=?st1) (α:=Nat) (fun h=>[(7,.d (J (h:Int)))]) (fun h=>[(0,.box (rowV (tv (lfV ps vs) H w h)))]) (fun h=>1≤h∧h≤H+1) (fun h=>H+1-h) 1 ?hc2 ⟨by omega,by omega⟩ ?h02 ?step2
   case hc2=>simp +contextual -implicitDefEqProofs (maxSteps:=10^7) only[go_sem,seval,↓gZ,Zt,ZA,Zu]<;>exact rfl
   case h02=>rfl
   case step2=>
    intro h ⟨au,a4⟩ aj;by_cases ak:h≤H
    ·have ag : (h:Int)≤(H:Int):=by omega
     have al:=Zn (k:=h) (by omega);have e1:=ZdB (W:Int) (H:Int) ps vs (w:Int) (h:Int) hl;simp +contextual -implicitDefEqProofs (maxSteps:=10^7) only[go_sem,seval,↓gZ,ak,ag,e1,Zt,ZA,Zu];have q1:=UI w;have q2:=wi (((w / 2:Nat):Int)) (by omega) (by omega);have q3:=UI h;have q4:=wi (((h / 2:Nat):Int)) (by omega) (by omega);refine Qw Xs Ms (st0:=?st3) (α:=Nat) (fun x=>[(10,.d (J (x:Int))),(9,.d (J (mx (fun x=>vT ps vs x h+vT ps vs (w-x) h) (lfV ps vs w h) (x-1))))]) (fun _=>[]) (fun x=>1≤x∧x≤w / 2+1) (fun x=>w / 2+1-x) 1 ?hc3 ⟨by omega,by omega⟩ ?h03 ?step3
     case hc3=>simp +contextual -implicitDefEqProofs (maxSteps:=10^7) only[go_sem,seval,↓gZ,Zt,ZA,Zu]<;>exact rfl
     case h03=>rfl
     case step3=>
      intro x ⟨av,a5⟩ aw;have ax:=Zn (k:=x) (by omega);by_cases ay:x≤w / 2
      ·have ah : (x:Int)≤((w / 2:Nat):Int):=by omega
       have g1:(x:Int)<17:=by omega
       have g2:(h:Int)<17:=by omega
       have g3:((w-x:Nat):Int)<17:=by omega
       have g4:IntKind.i64.wrap ((w:Int)-(x:Int))=((w-x:Nat):Int):=by rw[XF (by omega) (by omega)];omega
       have t1:=tvg (lf:=lfV ps vs) (H:=H) (w:=w) (h:=h) (a:=x) (b:=h) (by omega) (by omega) (by omega) (.inl (by omega));have t2:=tvg (lf:=lfV ps vs) (H:=H) (w:=w) (h:=h) (a:=w-x) (b:=h) (by omega) (by omega) (by omega) (.inl (by omega));have b1:=U6 (ps:=ps) hv (w:=x) (h:=h) (by omega) (by omega);have b2:=U6 (ps:=ps) hv (w:=w-x) (h:=h) (by omega) (by omega);have w3:=wi (vT ps vs x h+vT ps vs (w-x) h) (by omega) (by omega);have e5:mx (fun x=>vT ps vs x h+vT ps vs (w-x) h) (lfV ps vs w h) x=max (mx (fun x=>vT ps vs x h+vT ps vs (w-x) h) (lfV ps vs w h) (x-1)) (vT ps vs x h+vT ps vs (w-x) h):=ZhC av
       change _=some (AV.d (J (vT ps vs x h))) at t1
       change _=some (AV.d (J (vT ps vs (w-x) h))) at t2
       simp +contextual -implicitDefEqProofs (maxSteps:=10^7) only[go_sem,seval,↓gZ,q1,q2,ay,ah,g1,g2,g3,g4,t1,t2,w3,ax,Kz,K4,Zt,ZA,Zu];refine aw (x+1) _ ⟨by omega,by omega⟩ (by omega) ?_;simp +contextual -implicitDefEqProofs (maxSteps:=10^7) only[go_sem,seval,↓gZ,e5,Lq,Zt,ZA,Zu]
      ·have:x=w / 2+1:=by omega
       subst this;have ae:¬((w / 2+1:Nat):Int)≤((w / 2:Nat):Int):=by omega
       simp +contextual -implicitDefEqProofs (maxSteps:=10^7) only[go_sem,seval,↓gZ,q1,q2,ae,Zt,ZA,Zu,Lq];have g0:(w:Int)<17:=by omega
       have gh:(h:Int)<17:=by omega
       have fy:∀ y:Nat,1≤y→y≤h / 2→(y:Int)<17∧((h-y:Nat):Int)<17∧IntKind.i64.wrap ((h:Int)-(y:Int))=((h-y:Nat):Int)∧(rowV (tv (lfV ps vs) H w h))[w*17+y]?=some (AV.d (J (vT ps vs w y)))∧(rowV (tv (lfV ps vs) H w h))[w*17+(h-y)]?=some (AV.d (J (vT ps vs w (h-y))))∧IntKind.i64.wrap (vT ps vs w y+vT ps vs w (h-y))=vT ps vs w y+vT ps vs w (h-y):=fun y az a0=>by
        have b1:=U6 (ps:=ps) hv (w:=w) (h:=y) (by omega) (by omega);have b2:=U6 (ps:=ps) hv (w:=w) (h:=h-y) (by omega) (by omega);exact⟨by omega,by omega,by rw[XF (by omega) (by omega)];omega,tvg (by omega) (by omega) (by omega) (.inr ⟨rfl,by omega⟩),tvg (by omega) (by omega) (by omega) (.inr ⟨rfl,by omega⟩),wi _ (by omega) (by omega)⟩
       have am:=ZrZ (tv (lfV ps vs) H w h) (tv (lfV ps vs) H w (h+1)) (x:=w*17+h) (v:=vT ps vs w h) (by omega) (by rw[Nat.mul_comm];exact tv_new ak (by omega)) (fun i hi=>tv_old (by omega) (by omega));have aa:mx (fun y=>vT ps vs w y+vT ps vs w (h-y)) (mx (fun x=>vT ps vs x h+vT ps vs (w-x) h) (lfV ps vs w h) (w / 2)) (h / 2)=vT ps vs w h:=(V_eq ap au).symm;have ad:w*17+h≤288:=by omega
       generalize mx (fun x=>vT ps vs x h+vT ps vs (w-x) h) (lfV ps vs w h) (w / 2)=m0 at *;refine QV Xs Ms ?_;by_cases an:1≤h / 2
       ·have ab : (1:Int)≤((h / 2:Nat):Int):=by omega
        obtain⟨g1,g2,g3,t1,t2,w3⟩:=fy 1 (by omega) an;simp only[L3] at g1 g3;simp +contextual -implicitDefEqProofs (maxSteps:=10^7) only[go_sem,seval,↓gZ,q3,q4,an,ab,g0,g1,g2,g3,t1,t2,w3,Kz,K4,Zt,ZA,Zu];refine Qw Xs Ms (st0:=?st4) (α:=Nat) (fun y=>[(11,.d (J (y:Int))),(9,.d (J (mx (fun y=>vT ps vs w y+vT ps vs w (h-y)) m0 (y-1))))]) (fun _=>[]) (fun y=>2≤y∧y≤h / 2+1) (fun y=>h / 2+1-y) 2 ?hc4 ⟨by omega,by omega⟩ ?h04 ?step4
        case hc4=>simp +contextual -implicitDefEqProofs (maxSteps:=10^7) only[go_sem,seval,↓gZ,Zt,ZA,Zu]<;>exact rfl
        case h04=>rfl
        case step4=>
         intro y ⟨az,a0⟩ a1;have a2:=Zn (k:=y) (by omega);by_cases ao:y≤h / 2
         ·have ai : (y:Int)≤((h / 2:Nat):Int):=by omega
          obtain⟨g1,g2,g3,t1,t2,w3⟩:=fy y (by omega) ao;have e5:mx (fun y=>vT ps vs w y+vT ps vs w (h-y)) m0 y=max (mx (fun y=>vT ps vs w y+vT ps vs w (h-y)) m0 (y-1)) (vT ps vs w y+vT ps vs w (h-y)):=ZhC (by omega);simp +contextual -implicitDefEqProofs (maxSteps:=10^7) only[go_sem,seval,↓gZ,q3,q4,ao,ai,g0,g1,g2,g3,t1,t2,w3,a2,Kz,K4,Zt,ZA,Zu];refine a1 (y+1) _ ⟨by omega,by omega⟩ (by omega) ?_;simp +contextual -implicitDefEqProofs (maxSteps:=10^7) only[go_sem,seval,↓gZ,e5,Lq,Zt,ZA,Zu]
         ·have:y=h / 2+1:=by omega
          subst this;have ae:¬((h / 2+1:Nat):Int)≤((h / 2:Nat):Int):=by omega
          simp +contextual -implicitDefEqProofs (maxSteps:=10^7) only[go_sem,seval,↓gZ,q3,q4,ae,g0,gh,aa,al,am,ad,Xk,QY,Kz,K4,Zt,ZA,Zu,Lq];refine aj (h+1) _ ⟨by omega,by omega⟩ (by omega) ?_;simp +contextual -implicitDefEqProofs (maxSteps:=10^7) only[go_sem,seval,↓gZ,Zt,ZA,Zu]
       ·have ab : ¬(1:Int)≤((h / 2:Nat):Int):=by omega
        have hz:h / 2=0:=by omega
        rw[hz] at aa q3 q4 ab;simp only[mx] at aa;simp +contextual -implicitDefEqProofs (maxSteps:=10^7) only[go_sem,seval,↓gZ,q3,q4,ab,g0,gh,aa,al,am,ad,Xk,QY,Kz,K4,Zt,ZA,Zu];refine aj (h+1) _ ⟨by omega,by omega⟩ (by omega) ?_;simp +contextual -implicitDefEqProofs (maxSteps:=10^7) only[go_sem,seval,↓gZ,Zt,ZA,Zu]
    ·have:h=H+1:=by omega
     subst this;have ae:¬((H+1:Nat):Int)≤(H:Int):=by omega
     simp +contextual -implicitDefEqProofs (maxSteps:=10^7) only[go_sem,seval,↓gZ,ae,ar,Zt,ZA,Zu];refine ih (w+1) _ ⟨by omega,by omega⟩ (by omega) ?_;simp +contextual -implicitDefEqProofs (maxSteps:=10^7) only[go_sem,seval,↓gZ,ZtK,Zt,ZA,Zu]
  ·have:w=W+1:=by omega
   subst this;have ae:¬((W+1:Nat):Int)≤(W:Int):=by omega
   simp +contextual -implicitDefEqProofs (maxSteps:=10^7) only[go_sem,seval,↓gZ,ae,Zt,ZA,Zu,Xk,ZqG,ZqF,Zey,Zez,Zbj,QY,Yf,ZcZ,K6]
end Go.Proofs.Ytefabmohhbhlfaa
namespace Go.Proofs.Ytefabmohhbhlfaa
open Go Go.Abs Go.Abs.E Go.Abs.L
open Nat (reduceMul reduceSub reduceLeDiff reduceEqDiff)
open Int (reduceLE reduceEq reduceToNat reduceNeg)
set_option linter.unusedSimpArgs false
set_option linter.unusedVariables false
set_option maxRecDepth 20000
set_option maxHeartbeats 4000000
theorem Zc0 {ps:List Pane} {w h:Int}:∀ {vs:List Int} {k:Nat} {s:Lf},(s.1=1∨s=(0,0,false,0))→((lfF ps w h k vs s).1=1∨lfF ps w h k vs s=(0,0,false,0))
 | [],k,s,hs=>hs
 | v :: vs,k,s,hs=>by
  simp only[lfF];refine Zc0 ?_;have one:∀ (t:Bool) (s:Lf),(s.1=1∨s=(0,0,false,0))→((lf1 ps w h k v t s).1=1∨lf1 ps w h k v t s=(0,0,false,0)):=fun t s hs=>by
   unfold lf1;split
   ·exact .inl rfl
   ·exact hs
  exact one _ _ (one _ _ hs)
def ff (g:Nat→Int) (m:Int):Nat→Nat→Option Nat
 | _,0=>none
 | a,n+1=>if g a=m then some a else ff g m (a+1) n
theorem ZlX {g:Nat→Int} {m:Int}:∀ {n a x:Nat},ff g m a n=some x→a≤x∧x<a+n∧g x=m
 | 0,a,x,h=>by simp[ff] at h
 | n+1,a,x,h=>by
  simp only[ff] at h;by_cases hg:g a=m
  ·rw[Km hg] at h;cases h;exact⟨Kh _,by omega,hg⟩
  ·rw[Kl hg] at h;have:=ZlX h;exact⟨by omega,by omega,this.2.2⟩
theorem Zc1 {g:Nat→Int} {m:Int} {n x:Nat} (h:x≤n):ff g m x (n+1-x)=if g x=m then some x else ff g m (x+1) (n+1-(x+1)):=by
 obtain⟨d,hd⟩:∃ d,n+1-x=d+1:=⟨n-x,by omega⟩
 rw[hd,ff,show n+1-(x+1)=d by omega]
def bpN (ps:List Pane) (vs:List Int):Nat→Nat→Nat→BT
 | 0,_,_=>.waste
 | n+1,w,h=>if vT ps vs w h=0 then .waste else if lfV ps vs w h=vT ps vs w h then lfB (YN ps vs w h) else
  match ff (fun x=>vT ps vs x h+vT ps vs (w-x) h) (vT ps vs w h) 1 (w / 2) with
  | some x=>.cut true x (bpN ps vs n x h) (bpN ps vs n (w-x) h)
  | none=>match ff (fun y=>vT ps vs w y+vT ps vs w (h-y)) (vT ps vs w h) 1 (h / 2) with
   | some y=>.cut false y (bpN ps vs n w y) (bpN ps vs n w (h-y))
   | none=>.waste
theorem tvF {ps:List Pane} {vs:List Int} {H W a b:Nat} (ha:a≤W) (hW:W≤16) (hb:b≤H) (hH:H≤16):(rowV (tv (lfV ps vs) H (W+1) 1))[a*17+b]?=some (AV.d (J (vT ps vs a b))):=tvg (by omega) hb (by omega) (.inl (by omega))
theorem ZfI (W H:Nat) (ps:List Pane) (vs:List Int) (hW:W≤16) (hH:H≤16) (hl:vs.length≤1000) (hv:∀ v∈vs,0≤v∧v≤1000):∀ (n w h:Nat),1≤w→w≤W→1≤h→h≤H→w+h≤n→∃ o a q t ks,(bpN ps vs n w h).plan=.mk o a q t ks ∧
  Zi Xs Ms Ql [.d (.agg [J (W:Int),J (H:Int),.sl (ps.map Pane.enc)]),.d (.sl (vs.map Qp)),.ptr 0 0,(.d (J ((w:Nat)))),(.d (J ((h:Nat))))] [.box (rowV (tv (lfV ps vs) H (W+1) 1))]=some (.agg [(.d (J o)),(.d (J a)),(.d (J q)),(.d (.bool t)),.own 1],[.box (rowV (tv (lfV ps vs) H (W+1) 1)),.row 5 (ks.map Zh.enc) true false]):=by
 intro n
 induction n with
 | zero=>intro w h h1 h2 h3 h4 h5;omega
 | succ n ihn=>
  intro w h ai ae am ag hn;have g0:(w:Int)<17:=by omega
  have gh:(h:Int)<17:=by omega
  have tw:=tvF (ps:=ps) (vs:=vs) (H:=H) (W:=W) (a:=w) (b:=h) ae hW ag hH;have e1:=ZdB (W:Int) (H:Int) ps vs (w:Int) (h:Int) hl;have q1:=UI w;have q2:=wi (((w / 2:Nat):Int)) (by omega) (by omega);have q3:=UI h;have q4:=wi (((h / 2:Nat):Int)) (by omega) (by omega);have aj:(YN ps vs w h).2.2.2=lfV ps vs w h:=rfl;simp only[bpN];by_cases c0:vT ps vs w h=0
  ·rw[Km c0];rw[c0] at tw;refine⟨_,_,_,_,_,rfl,?_⟩;refine cE ?_;simp +contextual -implicitDefEqProofs (maxSteps:=10^7) only[go_sem,seval,↓gZ,Yu,g0,gh,tw,Xk,QY,Kz,K4,Zt,ZA,Zu]
  ·rw[Kl c0];by_cases c1:lfV ps vs w h=vT ps vs w h
   ·rw[Km c1];have hk:=Zc0 (ps:=ps) (w:=w) (h:=h) (vs:=vs) (k:=0) (s:=(0,0,false,0)) (.inr rfl)
    change (YN ps vs w h).1=1∨YN ps vs w h=(0,0,false,0) at hk
    have an:(YN ps vs w h).1=1:=by
     rcases hk with hk | hk
     ·exact hk
     ·rw[← aj,hk] at c1;exact absurd c1.symm c0
    refine⟨1,0,(YN ps vs w h).2.1,(YN ps vs w h).2.2.1,[],?_,?_⟩
    ·unfold lfB;rw[Km an];rfl
    ·rw[an,aj,c1] at e1;refine cE ?_;simp +contextual -implicitDefEqProofs (maxSteps:=10^7) only[go_sem,seval,↓gZ,Yu,g0,gh,tw,c0,e1,Xk,QY,Kz,K4,Zt,ZA,Zu]
   ·rw[Kl c1];rw[aj] at e1;have hQ:∃ r,Zi Xs Ms Ql [.d (.agg [J (W:Int),J (H:Int),.sl (ps.map Pane.enc)]),.d (.sl (vs.map Qp)),.ptr 0 0,(.d (J ((w:Nat)))),(.d (J ((h:Nat))))] [.box (rowV (tv (lfV ps vs) H (W+1) 1))]=some r∧∃ o a q t ks,(match ff (fun x=>vT ps vs x h+vT ps vs (w-x) h) (vT ps vs w h) 1 (w / 2) with
      | some x=>BT.cut true x (bpN ps vs n x h) (bpN ps vs n (w-x) h)
      | none=>match ff (fun y=>vT ps vs w y+vT ps vs w (h-y)) (vT ps vs w h) 1 (h / 2) with
       | some y=>.cut false y (bpN ps vs n w y) (bpN ps vs n w (h-y))
       | none=>.waste).plan=.mk o a q t ks∧r=(.agg [(.d (J o)),(.d (J a)),(.d (J q)),(.d (.bool t)),.own 1],[.box (rowV (tv (lfV ps vs) H (W+1) 1)),.row 5 (ks.map Zh.enc) true false]):=by
     refine cW ?_;simp +contextual -implicitDefEqProofs (maxSteps:=10^7) only[go_sem,seval,↓gZ,Yu,g0,gh,tw,c0,e1,c1,Xk,QY,Kz,K4,Zt,ZA,Zu];refine Qw Xs Ms (st0:=?st0) (α:=Nat) (fun x=>[(14,.d (J (x:Int)))]) (fun _=>[]) (fun x=>1≤x∧x≤w / 2+1∧ff (fun x=>vT ps vs x h+vT ps vs (w-x) h) (vT ps vs w h) 1 (w / 2)=ff (fun x=>vT ps vs x h+vT ps vs (w-x) h) (vT ps vs w h) x (w / 2+1-x)) (fun x=>w / 2+1-x) 1 ?hc ⟨by omega,by omega,rfl⟩ ?h0 ?step
     case hc=>simp +contextual -implicitDefEqProofs (maxSteps:=10^7) only[go_sem,seval,↓gZ,Zt,ZA,Zu]<;>exact rfl
     case h0=>rfl
     case step=>
      intro x ⟨ay,az,af⟩ ih;have aq:=Zn (k:=x) (by omega);by_cases ak:x≤w / 2
      ·have ah : (x:Int)≤((w / 2:Nat):Int):=by omega
       have g1:(x:Int)<17:=by omega
       have g3:((w-x:Nat):Int)<17:=by omega
       have g4:IntKind.i64.wrap ((w:Int)-(x:Int))=((w-x:Nat):Int):=by rw[XF (by omega) (by omega)];omega
       have t1:=tvF (ps:=ps) (vs:=vs) (H:=H) (W:=W) (a:=x) (b:=h) (by omega) hW ag hH;have t2:=tvF (ps:=ps) (vs:=vs) (H:=H) (W:=W) (a:=w-x) (b:=h) (by omega) hW ag hH;have b1:=U6 (ps:=ps) hv (w:=x) (h:=h) (by omega) (by omega);have b2:=U6 (ps:=ps) hv (w:=w-x) (h:=h) (by omega) (by omega);have w3:=wi (vT ps vs x h+vT ps vs (w-x) h) (by omega) (by omega);rw[Zc1 ak] at af;by_cases c2:vT ps vs x h+vT ps vs (w-x) h=vT ps vs w h
       ·rw[Km c2] at af;obtain⟨o1,a1,ao,s1,k1,p1,r1⟩:=ihn x h (by omega) (by omega) am ag (by omega);obtain⟨o2,a2,ap,s2,k2,p2,r2⟩:=ihn (w-x) h (by omega) (by omega) am ag (by omega);rw[c2] at w3;simp +contextual -implicitDefEqProofs (maxSteps:=10^7) only[go_sem,seval,↓gZ,q1,q2,ak,ah,g1,gh,g3,g4,t1,t2,w3,c2,r1,r2,Kz,K4,Zt,ZA,Zu,Ju,QY,Yf,Xk];rw[af];refine⟨2,x,0,false,[(bpN ps vs n x h).plan,(bpN ps vs n (w-x) h).plan],rfl,?_⟩;simp only[Kn,KB,p1,p2,Zh.enc_mk]
       ·rw[Kl c2] at af;simp +contextual -implicitDefEqProofs (maxSteps:=10^7) only[go_sem,seval,↓gZ,q1,q2,ak,ah,g1,gh,g3,g4,t1,t2,w3,c2,aq,Kz,K4,Zt,ZA,Zu];refine ih (x+1) _ ⟨by omega,by omega,af⟩ (by omega) ?_;simp +contextual -implicitDefEqProofs (maxSteps:=10^7) only[go_sem,seval,↓gZ,Zt,ZA,Zu]
      ·have:x=w / 2+1:=by omega
       subst this;have al:¬((w / 2+1:Nat):Int)≤((w / 2:Nat):Int):=by omega
       simp +contextual -implicitDefEqProofs (maxSteps:=10^7) only[go_sem,seval,↓gZ,q1,q2,al,Zt,ZA,Zu];have ar:ff (fun x=>vT ps vs x h+vT ps vs (w-x) h) (vT ps vs w h) 1 (w / 2)=none:=by rw[af,Nat.sub_self];rfl
       rw[ar];have fy:∀ y:Nat,1≤y→y≤h / 2→(y:Int)<17∧((h-y:Nat):Int)<17∧IntKind.i64.wrap ((h:Int)-(y:Int))=((h-y:Nat):Int)∧(rowV (tv (lfV ps vs) H (W+1) 1))[w*17+y]?=some (AV.d (J (vT ps vs w y)))∧(rowV (tv (lfV ps vs) H (W+1) 1))[w*17+(h-y)]?=some (AV.d (J (vT ps vs w (h-y))))∧IntKind.i64.wrap (vT ps vs w y+vT ps vs w (h-y))=vT ps vs w y+vT ps vs w (h-y):=fun y au av=>by
        have b1:=U6 (ps:=ps) hv (w:=w) (h:=y) (by omega) (by omega);have b2:=U6 (ps:=ps) hv (w:=w) (h:=h-y) (by omega) (by omega);exact⟨by omega,by omega,by rw[XF (by omega) (by omega)];omega,tvF ae hW (by omega) hH,tvF ae hW (by omega) hH,wi _ (by omega) (by omega)⟩
       refine QV Xs Ms ?_;by_cases ad:1≤h / 2
       ·have aa : (1:Int)≤((h / 2:Nat):Int):=by omega
        obtain⟨g1,g3,g4,t1,t2,w3⟩:=fy 1 (by omega) ad;simp only[L3] at g1 g4;have ab:ff (fun y=>vT ps vs w y+vT ps vs w (h-y)) (vT ps vs w h) 1 (h / 2)=if vT ps vs w 1+vT ps vs w (h-1)=vT ps vs w h then some 1 else ff (fun y=>vT ps vs w y+vT ps vs w (h-y)) (vT ps vs w h) 2 (h / 2+1-2):=Zc1 ad
        by_cases c2:vT ps vs w 1+vT ps vs w (h-1)=vT ps vs w h
        ·rw[Km c2] at ab;obtain⟨o1,a1,ao,s1,k1,p1,r1⟩:=ihn w 1 ai ae (by omega) (by omega) (by omega);obtain⟨o2,a2,ap,s2,k2,p2,r2⟩:=ihn w (h-1) ai ae (by omega) (by omega) (by omega);rw[c2] at w3;simp only[L3] at r1;simp +contextual -implicitDefEqProofs (maxSteps:=10^7) only[go_sem,seval,↓gZ,q3,q4,ad,aa,g0,g1,g3,g4,t1,t2,w3,c2,r1,r2,Kz,K4,Zt,ZA,Zu,Ju,QY,Yf,Xk];rw[ab];refine⟨3,1,0,false,[(bpN ps vs n w 1).plan,(bpN ps vs n w (h-1)).plan],rfl,?_⟩;simp only[Kn,KB,p1,p2,Zh.enc_mk]
        ·rw[Kl c2] at ab;simp +contextual -implicitDefEqProofs (maxSteps:=10^7) only[go_sem,seval,↓gZ,q3,q4,ad,aa,g0,g1,g3,g4,t1,t2,w3,c2,Kz,K4,Zt,ZA,Zu];refine Qw Xs Ms (st0:=?st4) (α:=Nat) (fun y=>[(17,.d (J (y:Int)))]) (fun _=>[]) (fun y=>2≤y∧y≤h / 2+1∧ff (fun y=>vT ps vs w y+vT ps vs w (h-y)) (vT ps vs w h) 1 (h / 2)=ff (fun y=>vT ps vs w y+vT ps vs w (h-y)) (vT ps vs w h) y (h / 2+1-y)) (fun y=>h / 2+1-y) 2 ?hc4 ⟨by omega,by omega,ab⟩ ?h04 ?step4
         case hc4=>simp +contextual -implicitDefEqProofs (maxSteps:=10^7) only[go_sem,seval,↓gZ,Zt,ZA,Zu]<;>exact rfl
         case h04=>rfl
         case step4=>
          clear ab c2 ad aa g1 g3 g4 t1 t2 w3;intro y ⟨au,av,ab⟩ aw;have ax:=Zn (k:=y) (by omega);by_cases ad:y≤h / 2
          ·have aa : (y:Int)≤((h / 2:Nat):Int):=by omega
           obtain⟨g1,g3,g4,t1,t2,w3⟩:=fy y (by omega) ad;rw[Zc1 ad] at ab;by_cases c2:vT ps vs w y+vT ps vs w (h-y)=vT ps vs w h
           ·rw[Km c2] at ab;obtain⟨o1,a1,ao,s1,k1,p1,r1⟩:=ihn w y ai ae (by omega) (by omega) (by omega);obtain⟨o2,a2,ap,s2,k2,p2,r2⟩:=ihn w (h-y) ai ae (by omega) (by omega) (by omega);rw[c2] at w3;simp +contextual -implicitDefEqProofs (maxSteps:=10^7) only[go_sem,seval,↓gZ,q3,q4,ad,aa,g0,g1,g3,g4,t1,t2,w3,c2,r1,r2,Kz,K4,Zt,ZA,Zu,Ju,QY,Yf,Xk];rw[ab];refine⟨3,y,0,false,[(bpN ps vs n w y).plan,(bpN ps vs n w (h-y)).plan],rfl,?_⟩;simp only[Kn,KB,p1,p2,Zh.enc_mk]
           ·rw[Kl c2] at ab;simp +contextual -implicitDefEqProofs (maxSteps:=10^7) only[go_sem,seval,↓gZ,q3,q4,ad,aa,g0,g1,g3,g4,t1,t2,w3,c2,ax,Kz,K4,Zt,ZA,Zu];refine aw (y+1) _ ⟨by omega,by omega,ab⟩ (by omega) ?_;simp +contextual -implicitDefEqProofs (maxSteps:=10^7) only[go_sem,seval,↓gZ,Zt,ZA,Zu]
          ·have:y=h / 2+1:=by omega
           subst this;have al:¬((h / 2+1:Nat):Int)≤((h / 2:Nat):Int):=by omega
           rw[Nat.sub_self] at ab;simp +contextual -implicitDefEqProofs (maxSteps:=10^7) only[go_sem,seval,↓gZ,q3,q4,al,Zt,ZA,Zu];rw[ab];exact⟨0,0,0,false,[],rfl,rfl⟩
       ·have aa : ¬(1:Int)≤((h / 2:Nat):Int):=by omega
        have hz:h / 2=0:=by omega
        rw[hz] at q3 q4 aa;simp +contextual -implicitDefEqProofs (maxSteps:=10^7) only[go_sem,seval,↓gZ,q3,q4,aa,Zt,ZA,Zu];rw[hz];exact⟨0,0,0,false,[],rfl,rfl⟩
    obtain⟨r,h1,o,a,q,t,ks,h2,rfl⟩:=hQ;exact⟨o,a,q,t,ks,h2,h1⟩
end Go.Proofs.Ytefabmohhbhlfaa
