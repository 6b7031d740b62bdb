/- Own text. -/
import Derived.Test.YtefabmohhbhlfaaBCode
import Derived.Test.YtefabmohhbhlfaaAbsParts
import Derived.Test.YtefabmohhbhlfaaBC9
import Derived.Test.YtefabmohhbhlfaaAbsOkD
namespace Go.Proofs.Ytefabmohhbhlfaa
open Go Go.Abs Go.Abs.E Go.Abs.L
open Nat (reduceMul reduceSub reduceLeDiff reduceEqDiff)
open Int (reduceLE reduceEq reduceToNat reduceNeg)
set_option linter.unusedSimpArgs false
set_option linter.unusedVariables false
set_option maxRecDepth 20000
set_option maxHeartbeats 4000000
def Zea (ps:List Pane) (vs:List Int) (w H:Nat):List D:=(List.range w).map fun x=>D.agg [.sl (Ze7 ps vs x H)]
def U8 (ps:List Pane) (vs:List Int) (w H h:Nat):List D:=(List.range (H+1)).map fun i=>D.int .i64 (if i<h then vT ps vs w i else 0)
def Za2 (ps:List Pane) (vs:List Int) (w H h:Nat):List D:=Zea ps vs w H++[.agg [.sl (U8 ps vs w H h)]]
theorem Jy (ps:List Pane) (vs:List Int) (w H:Nat):(Zea ps vs w H).length=w:=by simp[Zea]
theorem Jz (ps:List Pane) (vs:List Int) (w H h:Nat):(Za2 ps vs w H h).length=w+1:=by simp[Za2,Zea]
theorem tabW_T (ps:List Pane) (vs:List Int) (W H:Nat):Zea ps vs (W+1) H=Zoz ps vs W H:=rfl
theorem Zni {ps:List Pane} {vs:List Int} {w h:Nat} (h0:w=0∨h=0):vT ps vs w h=0:=Zcp h0
theorem Zlp (ps:List Pane) (vs:List Int) (w H:Nat):U8 ps vs w H 1=List.replicate (H+1) (D.int .i64 0):=by
 refine KW fun i=>?_;unfold U8;by_cases hi:i<H+1
 ·simp only[KJ,Ll hi,KK,List.getElem?_replicate,Kt hi];split
  ·rw[Zni (by omega)]
  ·rfl
 ·simp[List.getElem?_replicate,hi]
theorem Zpx (ps:List Pane) (vs:List Int) (w H:Nat):U8 ps vs w H (H+1)=Ze7 ps vs w H:=by
 unfold U8 Ze7;refine Kw fun i hi=>?_;rw[Kt (K7.1 hi)]
theorem Zon (ps:List Pane) (vs:List Int) (H:Nat):U8 ps vs 0 H 1=Ze7 ps vs 0 H:=by
 unfold U8 Ze7;refine Kw fun i hi=>?_;split
 ·rfl
 ·rw[Zni (.inl rfl)]
theorem Zpy {ps:List Pane} {vs:List Int} {w H h:Nat} (hh:h≤H):(U8 ps vs w H h).set h (J (vT ps vs w h))=U8 ps vs w H (h+1):=by
 refine KW fun i=>?_;rw[K4];unfold U8;by_cases hi:i<H+1
 ·by_cases e:h=i
  ·subst e;simp[hi]
  ·have e2:(i<h+1)↔(i<h):=by omega
   simp[hi,e,e2]
 ·simp[hi,show ¬h=i by omega]
theorem Zdm (ps:List Pane) (vs:List Int) (w H h:Nat):(U8 ps vs w H h).length=H+1:=by simp[U8]
theorem Zlq {ps:List Pane} {vs:List Int} {w H h i:Nat} (hh:i≤H) (hi:i<h):(U8 ps vs w H h)[i]?=some (J (vT ps vs w i)):=by simp[U8,Ll (show i<H+1 by omega),hi]
theorem ZqL {ps:List Pane} {vs:List Int} {w H h:Nat} (hh:h≤H):(U8 ps vs w H h)[h]?=some (J 0):=by simp[U8,Ll (show h<H+1 by omega)]
theorem Zeb (ps:List Pane) (vs:List Int) (w H h:Nat):Vb D.flat (U8 ps vs w H h)=true:=by
 have hk:∀ l:List Nat,Vb D.flat (l.map fun i=>D.int .i64 (if i<h then vT ps vs w i else 0))=true:=fun l=>by
  induction l with
  | nil=>rfl
  | cons a l ih=>exact ih
 exact hk _
theorem Znj {ps:List Pane} {vs:List Int} {w H h x:Nat} (hx:x<w):(Za2 ps vs w H h)[x]?=some (.agg [.sl (Ze7 ps vs x H)]):=by
 unfold Za2;rw[Kn (by rw[Jy];exact hx)];simp[Zea,hx]
theorem ZqM (ps:List Pane) (vs:List Int) (w H h:Nat):(Za2 ps vs w H h)[w]?=some (.agg [.sl (U8 ps vs w H h)]):=by
 unfold Za2;rw[Km (by rw[Jy];exact Kf _),Jy];simp
theorem Zpz (ps:List Pane) (vs:List Int) (w H h:Nat) (l:List D):(Za2 ps vs w H h).set w (.agg [.sl l])=Zea ps vs w H++[.agg [.sl l]]:=by
 unfold Za2;rw[List.set_append_right _ _ (by rw[Jy];exact Kf _),Jy];simp
theorem ZpA (ps:List Pane) (vs:List Int) (w H:Nat):Zea ps vs w H++[.agg [.sl (List.replicate (H+1) (D.int .i64 0))]]=Za2 ps vs w H 1:=by rw[← Zlp ps vs w H];rfl
theorem ZpB (ps:List Pane) (vs:List Int) (w H:Nat):Za2 ps vs w H (H+1)=Zea ps vs (w+1) H:=by
 unfold Za2 Zea;rw[Zpx,List.range_succ,Le];rfl
theorem Zoo (ps:List Pane) (vs:List Int) (H:Nat):Za2 ps vs 0 H 1=Zea ps vs 1 H:=by
 unfold Za2 Zea;rw[Zon];rfl
theorem Ze3 (W H:Nat) (ps:List Pane) (vs:List Int) (hW:W≤16) (hH:H≤16) (hl:vs.length≤1000) (hP:ps.length<4611686018427387904) (hv:∀ v∈vs,0≤v∧v≤1000):Zu Xs Ms YD [.d (.agg [J (W:Int),J (H:Int),.sl (ps.map Pane.enc)]),.d (.sl (vs.map Qs))] []=some (.own 0,[.row 1 (Zoz ps vs W H) true false]):=by
 refine cE ?_;simp +contextual -implicitDefEqProofs (maxSteps:=10^7) only[go_sem,seval,↓gZ,Uy];refine LO (α:=Nat) (fun w=>[(6,.d (J (w:Int)))]) (fun w=>[(0,.tree 1 1 (Zea ps vs w H) none)]) (fun w=>w≤W+1) (fun w=>W+1-w) 0 (by omega) ?_;intro w a5 ih;by_cases ap:w≤W
 ·have ag : (w:Int)≤(W:Int):=by omega
  have aj:=ZE (k:=w) (by omega);have aq:=ZE (k:=H) (by omega);have r1:((H+1:Nat):Int)*8≤140737488355328∧((H+1:Nat):Int)≤140737488355328:=by omega
  have r2:Vb D.flat (List.replicate (H+1) (D.int IntKind.i64 0))=true:=by rw[← Zlp ps vs 0];exact Zeb ..
  have r3:(w+1)*24≤140737488355328∧w≤140737488355327:=by omega
  simp +contextual -implicitDefEqProofs (maxSteps:=10^7) only[go_sem,seval,↓gZ,ap,ag,aq,Jy,ZpA,r1,r2,r3];refine Ya Xs Ms (st0:=?st1) (α:=Nat) (fun h=>[(7,.d (J (h:Int)))]) (fun h=>[(0,.tree 1 1 (Za2 ps vs w H h) none)]) (fun h=>1≤h∧h≤H+1∧(w=0→h=1)) (fun h=>H+1-h) 1 ?hc2 ⟨by omega,by omega,fun _=>rfl⟩ ?h02 ?step2
  case hc2=>simp +contextual -implicitDefEqProofs (maxSteps:=10^7) only[go_sem,seval,↓gZ]<;>exact rfl
  case h02=>rfl
  case step2=>
   intro h ⟨ar,a6,au⟩ ak;by_cases ae:h≤H
   ·have af : (h:Int)≤(H:Int):=by omega
    have al:=ZE (k:=h) (by omega);by_cases av:w=0
    ·subst av;obtain rfl:=au rfl;simp +contextual -implicitDefEqProofs (maxSteps:=10^7) only[go_sem,seval,↓gZ,ae,af,aj];refine ih 1 _ (by omega) (by omega) ?_;simp +contextual -implicitDefEqProofs (maxSteps:=10^7) only[go_sem,seval,↓gZ,Zoo]
    ·have aw:(0:Int)<(w:Int):=by omega
     have e1:=Zhe (W:Int) (H:Int) ps vs (w:Int) (h:Int) hl hP;have q1:=Zdp w;have q2:=wi (((w / 2:Nat):Int)) (by omega) (by omega);have q3:=Zdp h;have q4:=wi (((h / 2:Nat):Int)) (by omega) (by omega);simp +contextual -implicitDefEqProofs (maxSteps:=10^7) only[go_sem,seval,↓gZ,ae,af,aw,e1];refine Ya Xs Ms (st0:=?st3) (α:=Nat) (fun x=>[(10,.d (J (x:Int))),(9,.d (J (mx (fun x=>vT ps vs x h+vT ps vs (w-x) h) (lfV ps vs w h) (x-1))))]) (fun _=>[]) (fun x=>1≤x∧x≤w / 2+1) (fun x=>w / 2+1-x) 1 ?hc3 ⟨by omega,by omega⟩ ?h03 ?step3
     case hc3=>simp +contextual -implicitDefEqProofs (maxSteps:=10^7) only[go_sem,seval,↓gZ]<;>exact rfl
     case h03=>rfl
     case step3=>
      intro x ⟨ax,a7⟩ ay;have az:=ZE (k:=x) (by omega);by_cases a0:x≤w / 2
      ·have ah : (x:Int)≤((w / 2:Nat):Int):=by omega
       have g4:IntKind.i64.wrap ((w:Int)-(x:Int))=((w-x:Nat):Int):=by rw[Xt (by omega) (by omega)];omega
       have g5:x<w+1:=by omega
       have g6:w-x<w+1:=by omega
       have t1:=Zhl (ps:=ps) (vs:=vs) (H:=H) (w:=x) (h:=h) ae;have tx:=Znj (ps:=ps) (vs:=vs) (H:=H) (h:=h) (show x<w by omega);have t2:=Zhl (ps:=ps) (vs:=vs) (H:=H) (w:=w-x) (h:=h) ae;have ty:=Znj (ps:=ps) (vs:=vs) (H:=H) (h:=h) (show w-x<w by omega);have b1:=ZeW (ps:=ps) hv (w:=x) (h:=h) (by omega) (by omega);have b2:=ZeW (ps:=ps) hv (w:=w-x) (h:=h) (by omega) (by omega);have w3:=wi (vT ps vs x h+vT ps vs (w-x) h) (by omega) (by omega);have e5:mx (fun x=>vT ps vs x h+vT ps vs (w-x) h) (lfV ps vs w h) x=max (mx (fun x=>vT ps vs x h+vT ps vs (w-x) h) (lfV ps vs w h) (x-1)) (vT ps vs x h+vT ps vs (w-x) h):=Zfr ax
       simp +contextual -implicitDefEqProofs (maxSteps:=10^7) only[go_sem,seval,↓gZ,q1,q2,a0,ah,g4,g5,g6,t1,t2,tx,ty,w3,az,Jz];refine ay (x+1) _ ⟨by omega,by omega⟩ (by omega) ?_;simp +contextual -implicitDefEqProofs (maxSteps:=10^7) only[go_sem,seval,↓gZ,e5,Li]
      ·have:x=w / 2+1:=by omega
       subst this;have ad:¬((w / 2+1:Nat):Int)≤((w / 2:Nat):Int):=by omega
       simp +contextual -implicitDefEqProofs (maxSteps:=10^7) only[go_sem,seval,↓gZ,q1,q2,ad,Li];have g7:w<w+1:=by omega
       have ty:=ZqM ps vs w H h;have fy:∀ y:Nat,1≤y→y≤h / 2→y<H+1∧h-y<H+1∧IntKind.i64.wrap ((h:Int)-(y:Int))=((h-y:Nat):Int)∧(U8 ps vs w H h)[y]?=some (J (vT ps vs w y))∧(U8 ps vs w H h)[h-y]?=some (J (vT ps vs w (h-y)))∧IntKind.i64.wrap (vT ps vs w y+vT ps vs w (h-y))=vT ps vs w y+vT ps vs w (h-y):=fun y a1 a2=>by
        have b1:=ZeW (ps:=ps) hv (w:=w) (h:=y) (by omega) (by omega);have b2:=ZeW (ps:=ps) hv (w:=w) (h:=h-y) (by omega) (by omega);exact⟨by omega,by omega,by rw[Xt (by omega) (by omega)];omega,Zlq (by omega) (by omega),Zlq (by omega) (by omega),wi _ (by omega) (by omega)⟩
       have aa:mx (fun y=>vT ps vs w y+vT ps vs w (h-y)) (mx (fun x=>vT ps vs x h+vT ps vs (w-x) h) (lfV ps vs w h) (w / 2)) (h / 2)=vT ps vs w h:=(ZmB (by omega) ar).symm;have gf:=Zeb ps vs w H h;have am:=Zeb ps vs w H (h+1);have gl:h<H+1:=by omega
       have gs:=Zpy (ps:=ps) (vs:=vs) (w:=w) ae;have ga:=ZqL (ps:=ps) (vs:=vs) (w:=w) ae;have gp:∀ l,((Za2 ps vs w H h).set w (.agg [.sl l]))[w]?=some (.agg [.sl l]):=fun l=>by rw[K4,Kt rfl,Kt (by rw[Jz];omega)]
       have gq:(Za2 ps vs w H h).set w (.agg [.sl (U8 ps vs w H (h+1))])=Za2 ps vs w H (h+1):=by rw[Zpz];rfl
       generalize mx (fun x=>vT ps vs x h+vT ps vs (w-x) h) (lfV ps vs w h) (w / 2)=m0 at *;refine Jm Xs Ms ?_;by_cases an:1≤h / 2
       ·have ab : (1:Int)≤((h / 2:Nat):Int):=by omega
        obtain⟨g1,g2,g3,t1,t2,w3⟩:=fy 1 (by omega) an;simp only[Int.natCast_one] at g1 g3;simp +contextual -implicitDefEqProofs (maxSteps:=10^7) only[go_sem,seval,↓gZ,q3,q4,an,ab,g1,g2,g3,g7,t1,t2,ty,w3,Jz,Zdm];refine Ya Xs Ms (st0:=?st4) (α:=Nat) (fun y=>[(11,.d (J (y:Int))),(9,.d (J (mx (fun y=>vT ps vs w y+vT ps vs w (h-y)) m0 (y-1))))]) (fun _=>[]) (fun y=>2≤y∧y≤h / 2+1) (fun y=>h / 2+1-y) 2 ?hc4 ⟨by omega,by omega⟩ ?h04 ?step4
        case hc4=>simp +contextual -implicitDefEqProofs (maxSteps:=10^7) only[go_sem,seval,↓gZ]<;>exact rfl
        case h04=>rfl
        case step4=>
         intro y ⟨a1,a2⟩ a3;have a4:=ZE (k:=y) (by omega);by_cases ao:y≤h / 2
         ·have ai : (y:Int)≤((h / 2:Nat):Int):=by omega
          obtain⟨g1,g2,g3,t1,t2,w3⟩:=fy y (by omega) ao;have e5:mx (fun y=>vT ps vs w y+vT ps vs w (h-y)) m0 y=max (mx (fun y=>vT ps vs w y+vT ps vs w (h-y)) m0 (y-1)) (vT ps vs w y+vT ps vs w (h-y)):=Zfr (by omega);simp +contextual -implicitDefEqProofs (maxSteps:=10^7) only[go_sem,seval,↓gZ,q3,q4,ao,ai,g1,g2,g3,g7,t1,t2,ty,w3,a4,Jz,Zdm];refine a3 (y+1) _ ⟨by omega,by omega⟩ (by omega) ?_;simp +contextual -implicitDefEqProofs (maxSteps:=10^7) only[go_sem,seval,↓gZ,e5,Li]
         ·have:y=h / 2+1:=by omega
          subst this;have ad:¬((h / 2+1:Nat):Int)≤((h / 2:Nat):Int):=by omega
          simp +contextual -implicitDefEqProofs (maxSteps:=10^7) only[go_sem,seval,↓gZ,q3,q4,ad,aa,al,Li,ty,g7,gf,am,gl,gs,ga,gp,gq,Jz,Zdm,LH,List.set_set,Lg];refine ak (h+1) _ ⟨by omega,by omega,by omega⟩ (by omega) ?_;simp +contextual -implicitDefEqProofs (maxSteps:=10^7) only[go_sem,seval,↓gZ]
       ·have ab : ¬(1:Int)≤((h / 2:Nat):Int):=by omega
        have hz:h / 2=0:=by omega
        rw[hz] at aa q3 q4 ab;simp only[mx] at aa;simp +contextual -implicitDefEqProofs (maxSteps:=10^7) only[go_sem,seval,↓gZ,q3,q4,ab,aa,al,ty,g7,gf,am,gl,gs,ga,gp,gq,Jz,Zdm,LH,List.set_set,Lg];refine ak (h+1) _ ⟨by omega,by omega,by omega⟩ (by omega) ?_;simp +contextual -implicitDefEqProofs (maxSteps:=10^7) only[go_sem,seval,↓gZ]
   ·have:h=H+1:=by omega
    subst this;have ad:¬((H+1:Nat):Int)≤(H:Int):=by omega
    simp +contextual -implicitDefEqProofs (maxSteps:=10^7) only[go_sem,seval,↓gZ,ad,aj];refine ih (w+1) _ (by omega) (by omega) ?_;simp +contextual -implicitDefEqProofs (maxSteps:=10^7) only[go_sem,seval,↓gZ,ZpB]
 ·have:w=W+1:=by omega
  subst this;have ad:¬((W+1:Nat):Int)≤(W:Int):=by omega
  simp +contextual -implicitDefEqProofs (maxSteps:=10^7) only[go_sem,seval,↓gZ,ad,tabW_T]
end Go.Proofs.Ytefabmohhbhlfaa
namespace Go.Proofs.Ytefabmohhbhlfaa
open Go Go.Abs Go.Abs.E Go.Abs.L
open Nat (reduceMul reduceSub reduceLeDiff reduceEqDiff)
open Int (reduceLE reduceEq reduceToNat reduceNeg)
set_option linter.unusedSimpArgs false
set_option linter.unusedVariables false
set_option maxRecDepth 20000
set_option maxHeartbeats 4000000
theorem Zg4 (kW kH:Int) (kP:List Pane) (vs:List Int) (hl:vs.length≤1000) (hP:kP.length<4611686018427387904):Zu Xs Ms XX [(.d (.agg [J kW,J kH,.sl (kP.map Pane.enc)])),.d (.sl (vs.map Qs))] []=some ((.d (J (bvI (ZM.mk kW kH kP) vs))),[]):=by
 have e1:=Zee kW kH kP vs hl hP;unfold bvI;by_cases ht:Uw (ZM.mk kW kH kP) vs
 ·rw[K2 ht] at e1;rw[Kt ht];obtain⟨W,H,h1,h2,h3,h4,h5,h6⟩:=ZbA ht;simp only at h1 h2;subst h1 h2;have e2:=Ze3 W H kP vs h4 h6 hl hP (fun v hv=>by have:=ht.2.2 v hv;omega);have g1:W<W+1:=by omega
  have g2:H<H+1:=by omega
  have t1:=ZpQ (ps:=kP) (vs:=vs) (W:=W) (H:=H) (w:=W) (Kf _);have t2:=Zhl (ps:=kP) (vs:=vs) (H:=H) (w:=W) (h:=H) (Kf _);simp only[K3];refine cE ?_;simp +contextual -implicitDefEqProofs (maxSteps:=10^7) only[go_sem,seval,↓gZ,Ws,e1,e2,g1,g2,t1,t2,ZpR,ZpS]
 ·rw[Kv ht] at e1;rw[Kp ht];refine cE ?_;simp +contextual -implicitDefEqProofs (maxSteps:=10^7) only[go_sem,seval,↓gZ,Ws,e1]
end Go.Proofs.Ytefabmohhbhlfaa
