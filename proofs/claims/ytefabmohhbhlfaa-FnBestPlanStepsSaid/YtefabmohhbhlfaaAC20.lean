/- Own text. -/
import Derived.Test.YtefabmohhbhlfaaACode
import Derived.Test.YtefabmohhbhlfaaAbsParts
import Derived.Test.YtefabmohhbhlfaaAbsOkD
import Derived.Test.YtefabmohhbhlfaaAC12
import Derived.Test.YtefabmohhbhlfaaAC18
import Derived.Test.YtefabmohhbhlfaaAC19
namespace Go.Proofs.Ytefabmohhbhlfaa
open Go Go.Abs Go.Abs.E Go.Abs.L
open Nat (reduceMul reduceSub reduceLeDiff reduceEqDiff)
open Int (reduceLE reduceEq reduceToNat reduceNeg)
set_option linter.unusedSimpArgs false
set_option linter.unusedVariables false
set_option maxRecDepth 20000
set_option maxHeartbeats 4000000
end Go.Proofs.Ytefabmohhbhlfaa
namespace Go.Proofs.Ytefabmohhbhlfaa
open Go Go.Abs Go.Abs.E Go.Abs.L
open Nat (reduceMul reduceSub reduceLeDiff reduceEqDiff)
open Int (reduceLE reduceEq reduceToNat reduceNeg)
set_option linter.unusedSimpArgs false
set_option linter.unusedVariables false
set_option maxRecDepth 20000
set_option maxHeartbeats 4000000
end Go.Proofs.Ytefabmohhbhlfaa
namespace Go.Proofs.Ytefabmohhbhlfaa
open Go Go.Abs Go.Abs.E Go.Abs.L
open Nat (reduceMul reduceSub reduceLeDiff reduceEqDiff)
open Int (reduceLE reduceEq reduceToNat reduceNeg)
set_option linter.unusedSimpArgs false
set_option linter.unusedVariables false
set_option maxRecDepth 20000
set_option maxHeartbeats 4000000
end Go.Proofs.Ytefabmohhbhlfaa
namespace Go.Proofs.Ytefabmohhbhlfaa
open Go Go.Abs Go.Abs.E Go.Abs.L
open Nat (reduceMul reduceSub reduceLeDiff reduceEqDiff)
open Int (reduceLE reduceEq reduceToNat reduceNeg)
set_option linter.unusedSimpArgs false
set_option linter.unusedVariables false
set_option maxRecDepth 20000
set_option maxHeartbeats 4000000
def ZfL (ps:List Pane) (vs:List Int) (w H:Nat):List D:=(List.range w).map fun x=>D.agg [.sl (Zhi ps vs x H)]
def Zas (ps:List Pane) (vs:List Int) (w H h:Nat):List D:=(List.range (H+1)).map fun i=>D.int .i64 (if i<h then vT ps vs w i else 0)
def Zcd (ps:List Pane) (vs:List Int) (w H h:Nat):List D:=ZfL ps vs w H++[.agg [.sl (Zas ps vs w H h)]]
theorem ZaS (ps:List Pane) (vs:List Int) (w H:Nat):(ZfL ps vs w H).length=w:=by simp[ZfL]
theorem ZaT (ps:List Pane) (vs:List Int) (w H h:Nat):(Zcd ps vs w H h).length=w+1:=by simp[Zcd,ZfL]
theorem tabW_T (ps:List Pane) (vs:List Int) (W H:Nat):ZfL ps vs (W+1) H=ZqK ps vs W H:=rfl
theorem ZpR {ps:List Pane} {vs:List Int} {w h:Nat} (h0:w=0∨h=0):vT ps vs w h=0:=Zh1 h0
theorem Zm3 (ps:List Pane) (vs:List Int) (w H:Nat):Zas ps vs w H 1=List.replicate (H+1) (D.int .i64 0):=by
 refine K7 fun i=>?_;unfold Zas;by_cases hi:i<H+1
 ·simp only[Lo,Ly hi,KU,List.getElem?_replicate,Km hi];split
  ·rw[ZpR (by omega)]
  ·rfl
 ·simp[List.getElem?_replicate,hi]
theorem Zr6 (ps:List Pane) (vs:List Int) (w H:Nat):Zas ps vs w H (H+1)=Zhi ps vs w H:=by
 unfold Zas Zhi;refine Kx fun i hi=>?_;rw[Km (Li.1 hi)]
theorem ZqL (ps:List Pane) (vs:List Int) (H:Nat):Zas ps vs 0 H 1=Zhi ps vs 0 H:=by
 unfold Zas Zhi;refine Kx fun i hi=>?_;split
 ·rfl
 ·rw[ZpR (.inl rfl)]
theorem Zr7 {ps:List Pane} {vs:List Int} {w H h:Nat} (hh:h≤H):(Zas ps vs w H h).set h (J (vT ps vs w h))=Zas ps vs w H (h+1):=by
 refine K7 fun i=>?_;rw[LP];unfold Zas;by_cases hi:i<H+1
 ·by_cases e:h=i
  ·subst e;simp[hi]
  ·have e2:(i<h+1)↔(i<h):=by omega
   simp[hi,e,e2]
 ·simp[hi,show ¬h=i by omega]
theorem ZeD (ps:List Pane) (vs:List Int) (w H h:Nat):(Zas ps vs w H h).length=H+1:=by simp[Zas]
theorem Zm4 {ps:List Pane} {vs:List Int} {w H h i:Nat} (hh:i≤H) (hi:i<h):(Zas ps vs w H h)[i]?=some (J (vT ps vs w i)):=by simp[Zas,Ly (show i<H+1 by omega),hi]
theorem ZtM {ps:List Pane} {vs:List Int} {w H h:Nat} (hh:h≤H):(Zas ps vs w H h)[h]?=some (J 0):=by simp[Zas,Ly (show h<H+1 by omega)]
theorem ZfM (ps:List Pane) (vs:List Int) (w H h:Nat):Ul D.flat (Zas ps vs w H h)=true:=by
 have hk:∀ l:List Nat,Ul D.flat (l.map fun i=>D.int .i64 (if i<h then vT ps vs w i else 0))=true:=fun l=>by
  induction l with
  | nil=>rfl
  | cons a l ih=>exact ih
 exact hk _
theorem ZpS {ps:List Pane} {vs:List Int} {w H h x:Nat} (hx:x<w):(Zcd ps vs w H h)[x]?=some (.agg [.sl (Zhi ps vs x H)]):=by
 unfold Zcd;rw[Ku (by rw[ZaS];exact hx)];simp[ZfL,hx]
theorem ZtN (ps:List Pane) (vs:List Int) (w H h:Nat):(Zcd ps vs w H h)[w]?=some (.agg [.sl (Zas ps vs w H h)]):=by
 unfold Zcd;rw[Kv (by rw[ZaS];exact Kh _),ZaS];simp
theorem Zr8 (ps:List Pane) (vs:List Int) (w H h:Nat) (l:List D):(Zcd ps vs w H h).set w (.agg [.sl l])=ZfL ps vs w H++[.agg [.sl l]]:=by
 unfold Zcd;rw[List.set_append_right _ _ (by rw[ZaS];exact Kh _),ZaS];simp
theorem Zr9 (ps:List Pane) (vs:List Int) (w H:Nat):ZfL ps vs w H++[.agg [.sl (List.replicate (H+1) (D.int .i64 0))]]=Zcd ps vs w H 1:=by rw[← Zm3 ps vs w H];rfl
theorem Zsa (ps:List Pane) (vs:List Int) (w H:Nat):Zcd ps vs w H (H+1)=ZfL ps vs (w+1) H:=by
 unfold Zcd ZfL;rw[Zr6,List.range_succ,KM];rfl
theorem ZqM (ps:List Pane) (vs:List Int) (H:Nat):Zcd ps vs 0 H 1=ZfL ps vs 1 H:=by
 unfold Zcd ZfL;rw[ZqL];rfl
theorem Zhj (W H:Nat) (ps:List Pane) (vs:List Int) (hW:W≤16) (hH:H≤16) (hl:vs.length≤1000) (hP:ps.length<4611686018427387904) (hv:∀ v∈vs,0≤v∧v≤1000):Zi Xs Ms Y7 [.d (.agg [J (W:Int),J (H:Int),.sl (ps.map Pane.enc)]),.d (.sl (vs.map Qp))] []=some (.own 0,[.row 1 (ZqK ps vs W H) true false]):=by
 refine cE ?_;simp +contextual -implicitDefEqProofs (maxSteps:=10^7) only[go_sem,seval,↓gZ,JA];refine LO (α:=Nat) (fun w=>[(6,.d (J (w:Int)))]) (fun w=>[(0,.tree 1 1 (ZfL ps vs w H) none)]) (fun w=>w≤W+1) (fun w=>W+1-w) 0 (by omega) ?_;intro w a5 ih;by_cases ap:w≤W
 ·have ag : (w:Int)≤(W:Int):=by omega
  have aj:=Zn (k:=w) (by omega);have aq:=Zn (k:=H) (by omega);have r1:((H+1:Nat):Int)*8≤140737488355328∧((H+1:Nat):Int)≤140737488355328:=by omega
  have r2:Ul D.flat (List.replicate (H+1) (D.int IntKind.i64 0))=true:=by rw[← Zm3 ps vs 0];exact ZfM ..
  have r3:(w+1)*24≤140737488355328∧w≤140737488355327:=by omega
  simp +contextual -implicitDefEqProofs (maxSteps:=10^7) only[go_sem,seval,↓gZ,ap,ag,aq,ZaS,Zr9,r1,r2,r3];refine Qw Xs Ms (st0:=?st1) (α:=Nat) (fun h=>[(7,.d (J (h:Int)))]) (fun h=>[(0,.tree 1 1 (Zcd ps vs w H h) none)]) (fun h=>1≤h∧h≤H+1∧(w=0→h=1)) (fun h=>H+1-h) 1 ?hc2 ⟨by omega,by omega,fun _=>rfl⟩ ?h02 ?step2
  case hc2=>simp +contextual -implicitDefEqProofs (maxSteps:=10^7) only[go_sem,seval,↓gZ]<;>exact rfl
  case h02=>rfl
  case step2=>
   intro h ⟨ar,a6,au⟩ ak;by_cases ae:h≤H
   ·have af : (h:Int)≤(H:Int):=by omega
    have al:=Zn (k:=h) (by omega);by_cases av:w=0
    ·subst av;obtain rfl:=au rfl;simp +contextual -implicitDefEqProofs (maxSteps:=10^7) only[go_sem,seval,↓gZ,ae,af,aj];refine ih 1 _ (by omega) (by omega) ?_;simp +contextual -implicitDefEqProofs (maxSteps:=10^7) only[go_sem,seval,↓gZ,ZqM]
    ·have aw:(0:Int)<(w:Int):=by omega
     have e1:=Zcc (W:Int) (H:Int) ps vs (w:Int) (h:Int) hl hP;have q1:=UI w;have q2:=wi (((w / 2:Nat):Int)) (by omega) (by omega);have q3:=UI h;have q4:=wi (((h / 2:Nat):Int)) (by omega) (by omega);simp +contextual -implicitDefEqProofs (maxSteps:=10^7) only[go_sem,seval,↓gZ,ae,af,aw,e1];refine Qw Xs Ms (st0:=?st3) (α:=Nat) (fun x=>[(10,.d (J (x:Int))),(9,.d (J (mx (fun x=>vT ps vs x h+vT ps vs (w-x) h) (lfV ps vs w h) (x-1))))]) (fun _=>[]) (fun x=>1≤x∧x≤w / 2+1) (fun x=>w / 2+1-x) 1 ?hc3 ⟨by omega,by omega⟩ ?h03 ?step3
     case hc3=>simp +contextual -implicitDefEqProofs (maxSteps:=10^7) only[go_sem,seval,↓gZ]<;>exact rfl
     case h03=>rfl
     case step3=>
      intro x ⟨ax,a7⟩ ay;have az:=Zn (k:=x) (by omega);by_cases a0:x≤w / 2
      ·have ah : (x:Int)≤((w / 2:Nat):Int):=by omega
       have g4:IntKind.i64.wrap ((w:Int)-(x:Int))=((w-x:Nat):Int):=by rw[XF (by omega) (by omega)];omega
       have g5:x<w+1:=by omega
       have g6:w-x<w+1:=by omega
       have t1:=Jv (ps:=ps) (vs:=vs) (H:=H) (w:=x) (h:=h) ae;have tx:=ZpS (ps:=ps) (vs:=vs) (H:=H) (h:=h) (show x<w by omega);have t2:=Jv (ps:=ps) (vs:=vs) (H:=H) (w:=w-x) (h:=h) ae;have ty:=ZpS (ps:=ps) (vs:=vs) (H:=H) (h:=h) (show w-x<w by omega);have b1:=U6 (ps:=ps) hv (w:=x) (h:=h) (by omega) (by omega);have b2:=U6 (ps:=ps) hv (w:=w-x) (h:=h) (by omega) (by omega);have w3:=wi (vT ps vs x h+vT ps vs (w-x) h) (by omega) (by omega);have e5:mx (fun x=>vT ps vs x h+vT ps vs (w-x) h) (lfV ps vs w h) x=max (mx (fun x=>vT ps vs x h+vT ps vs (w-x) h) (lfV ps vs w h) (x-1)) (vT ps vs x h+vT ps vs (w-x) h):=ZhC ax
       simp +contextual -implicitDefEqProofs (maxSteps:=10^7) only[go_sem,seval,↓gZ,q1,q2,a0,ah,g4,g5,g6,t1,t2,tx,ty,w3,az,ZaT];refine ay (x+1) _ ⟨by omega,by omega⟩ (by omega) ?_;simp +contextual -implicitDefEqProofs (maxSteps:=10^7) only[go_sem,seval,↓gZ,e5,Lq]
      ·have:x=w / 2+1:=by omega
       subst this;have ad:¬((w / 2+1:Nat):Int)≤((w / 2:Nat):Int):=by omega
       simp +contextual -implicitDefEqProofs (maxSteps:=10^7) only[go_sem,seval,↓gZ,q1,q2,ad,Lq];have g7:w<w+1:=by omega
       have ty:=ZtN ps vs w H h;have fy:∀ y:Nat,1≤y→y≤h / 2→y<H+1∧h-y<H+1∧IntKind.i64.wrap ((h:Int)-(y:Int))=((h-y:Nat):Int)∧(Zas ps vs w H h)[y]?=some (J (vT ps vs w y))∧(Zas ps vs w H h)[h-y]?=some (J (vT ps vs w (h-y)))∧IntKind.i64.wrap (vT ps vs w y+vT ps vs w (h-y))=vT ps vs w y+vT ps vs w (h-y):=fun y a1 a2=>by
        have b1:=U6 (ps:=ps) hv (w:=w) (h:=y) (by omega) (by omega);have b2:=U6 (ps:=ps) hv (w:=w) (h:=h-y) (by omega) (by omega);exact⟨by omega,by omega,by rw[XF (by omega) (by omega)];omega,Zm4 (by omega) (by omega),Zm4 (by omega) (by omega),wi _ (by omega) (by omega)⟩
       have aa:mx (fun y=>vT ps vs w y+vT ps vs w (h-y)) (mx (fun x=>vT ps vs x h+vT ps vs (w-x) h) (lfV ps vs w h) (w / 2)) (h / 2)=vT ps vs w h:=(V_eq (by omega) ar).symm;have gf:=ZfM ps vs w H h;have am:=ZfM ps vs w H (h+1);have gl:h<H+1:=by omega
       have gs:=Zr7 (ps:=ps) (vs:=vs) (w:=w) ae;have ga:=ZtM (ps:=ps) (vs:=vs) (w:=w) ae;have gp:∀ l,((Zcd ps vs w H h).set w (.agg [.sl l]))[w]?=some (.agg [.sl l]):=fun l=>by rw[LP,Km rfl,Km (by rw[ZaT];omega)]
       have gq:(Zcd ps vs w H h).set w (.agg [.sl (Zas ps vs w H (h+1))])=Zcd ps vs w H (h+1):=by rw[Zr8];rfl
       generalize mx (fun x=>vT ps vs x h+vT ps vs (w-x) h) (lfV ps vs w h) (w / 2)=m0 at *;refine QV Xs Ms ?_;by_cases an:1≤h / 2
       ·have ab : (1:Int)≤((h / 2:Nat):Int):=by omega
        obtain⟨g1,g2,g3,t1,t2,w3⟩:=fy 1 (by omega) an;simp only[L3] at g1 g3;simp +contextual -implicitDefEqProofs (maxSteps:=10^7) only[go_sem,seval,↓gZ,q3,q4,an,ab,g1,g2,g3,g7,t1,t2,ty,w3,ZaT,ZeD];refine Qw Xs Ms (st0:=?st4) (α:=Nat) (fun y=>[(11,.d (J (y:Int))),(9,.d (J (mx (fun y=>vT ps vs w y+vT ps vs w (h-y)) m0 (y-1))))]) (fun _=>[]) (fun y=>2≤y∧y≤h / 2+1) (fun y=>h / 2+1-y) 2 ?hc4 ⟨by omega,by omega⟩ ?h04 ?step4
        case hc4=>simp +contextual -implicitDefEqProofs (maxSteps:=10^7) only[go_sem,seval,↓gZ]<;>exact rfl
        case h04=>rfl
        case step4=>
         intro y ⟨a1,a2⟩ a3;have a4:=Zn (k:=y) (by omega);by_cases ao:y≤h / 2
         ·have ai : (y:Int)≤((h / 2:Nat):Int):=by omega
          obtain⟨g1,g2,g3,t1,t2,w3⟩:=fy y (by omega) ao;have e5:mx (fun y=>vT ps vs w y+vT ps vs w (h-y)) m0 y=max (mx (fun y=>vT ps vs w y+vT ps vs w (h-y)) m0 (y-1)) (vT ps vs w y+vT ps vs w (h-y)):=ZhC (by omega);simp +contextual -implicitDefEqProofs (maxSteps:=10^7) only[go_sem,seval,↓gZ,q3,q4,ao,ai,g1,g2,g3,g7,t1,t2,ty,w3,a4,ZaT,ZeD];refine a3 (y+1) _ ⟨by omega,by omega⟩ (by omega) ?_;simp +contextual -implicitDefEqProofs (maxSteps:=10^7) only[go_sem,seval,↓gZ,e5,Lq]
         ·have:y=h / 2+1:=by omega
          subst this;have ad:¬((h / 2+1:Nat):Int)≤((h / 2:Nat):Int):=by omega
          simp +contextual -implicitDefEqProofs (maxSteps:=10^7) only[go_sem,seval,↓gZ,q3,q4,ad,aa,al,Lq,ty,g7,gf,am,gl,gs,ga,gp,gq,ZaT,ZeD,List.length_set,List.set_set,Kag];refine ak (h+1) _ ⟨by omega,by omega,by omega⟩ (by omega) ?_;simp +contextual -implicitDefEqProofs (maxSteps:=10^7) only[go_sem,seval,↓gZ]
       ·have ab : ¬(1:Int)≤((h / 2:Nat):Int):=by omega
        have hz:h / 2=0:=by omega
        rw[hz] at aa q3 q4 ab;simp only[mx] at aa;simp +contextual -implicitDefEqProofs (maxSteps:=10^7) only[go_sem,seval,↓gZ,q3,q4,ab,aa,al,ty,g7,gf,am,gl,gs,ga,gp,gq,ZaT,ZeD,List.length_set,List.set_set,Kag];refine ak (h+1) _ ⟨by omega,by omega,by omega⟩ (by omega) ?_;simp +contextual -implicitDefEqProofs (maxSteps:=10^7) only[go_sem,seval,↓gZ]
   ·have:h=H+1:=by omega
    subst this;have ad:¬((H+1:Nat):Int)≤(H:Int):=by omega
    simp +contextual -implicitDefEqProofs (maxSteps:=10^7) only[go_sem,seval,↓gZ,ad,aj];refine ih (w+1) _ (by omega) (by omega) ?_;simp +contextual -implicitDefEqProofs (maxSteps:=10^7) only[go_sem,seval,↓gZ,Zsa]
 ·have:w=W+1:=by omega
  subst this;have ad:¬((W+1:Nat):Int)≤(W:Int):=by omega
  simp +contextual -implicitDefEqProofs (maxSteps:=10^7) only[go_sem,seval,↓gZ,ad,tabW_T]
theorem Zke (kW kH:Int) (kP:List Pane) (vs:List Int) (hl:vs.length≤1000) (hP:kP.length<4611686018427387904):∃ o a q t ks ok,(match bpI (ZN.mk kW kH kP) vs with | some b=>ok=true∧b.plan=.mk o a q t ks | none=>ok=false∧(.mk o a q t ks:Zh)=.mk 0 0 0 false []) ∧
  Zi Xs Ms WE [(.d (.agg [J kW,J kH,.sl (kP.map Pane.enc)])),.d (.sl (vs.map Qp))] []=some (.tup [.agg [(.d (J o)),(.d (J a)),(.d (J q)),(.d (.bool t)),.own 0],(.d (.bool ok))],[.row 5 (ks.map Zh.enc) true false]):=by
 have e1:=ZfK kW kH kP vs hl hP;unfold bpI;by_cases ht:Zar (ZN.mk kW kH kP) vs
 ·rw[Kw ht] at e1;obtain⟨W,H,h1,h2,h3,h4,h5,h6⟩:=Zc2 ht;simp only at h1 h2;subst h1 h2;have e2:=Zhj W H kP vs h4 h6 hl hP (fun v hv=>by have:=ht.2.2 v hv;omega);obtain⟨o,a,q,t,ks,hp,e3⟩:=Zkd W H kP vs h4 h6 hl hP (fun v hv=>by have:=ht.2.2 v hv;omega) (W+H) W H h3 (Kh _) h5 (Kh _) (Kh _);have e4:=Zka (bpN kP vs (W+H) W H).plan;rw[QN] at e4;have hz:=Z1 255 (bpN kP vs (W+H) W H);have aa:=ZgA (bpN kP vs (W+H) W H);rw[hp,Zh.enc_mk] at e4;simp only[KZ];by_cases hc:(bpN kP vs (W+H) W H).cnt≤255
  ·rw[Km ⟨ht,hc⟩];have n1:¬Zl 255 (some (bpN kP vs (W+H) W H))<0:=by omega
   refine⟨o,a,q,t,ks,true,⟨rfl,hp⟩,?_⟩;refine cE ?_;simp +contextual -implicitDefEqProofs (maxSteps:=10^7) only[go_sem,seval,↓gZ,WK,e1,e2,e3,e4,n1]
  ·rw[Kl fun h=>hc h.2];have n1:Zl 255 (some (bpN kP vs (W+H) W H))<0:=by omega
   refine⟨0,0,0,false,[],false,⟨rfl,rfl⟩,?_⟩;refine cE ?_;simp +contextual -implicitDefEqProofs (maxSteps:=10^7) only[go_sem,seval,↓gZ,WK,e1,e2,e3,e4,n1]
 ·rw[Kq ht] at e1;rw[Kl fun h=>ht h.1];refine⟨0,0,0,false,[],false,⟨rfl,rfl⟩,?_⟩;refine cE ?_;simp +contextual -implicitDefEqProofs (maxSteps:=10^7) only[go_sem,seval,↓gZ,WK,e1]
theorem ZeE (aa:List UInt8):∃ (W H:Int) (ps:List Pane) (vs:List Int),ps.length≤7∧vs.length≤7 ∧
  Zi Xs Ms X8 [.d (.sl (aa.map Ua))] []=some (.tup [.agg [(.d (J W)),(.d (J H)),.own 0],.own 1],[.row 4 (ps.map Pane.enc) true false,.row 1 (vs.map Qp) true false]):=by
 obtain⟨W,H,ps,vs,h1,h2,e1⟩:=Zd1 aa;refine⟨W,H,ps,vs,h1,h2,?_⟩;refine cE ?_;simp +contextual -implicitDefEqProofs (maxSteps:=10^7) only[go_sem,seval,↓gZ,Ui,e1]
structure BestF (k:ZN) (vs:List Int) (b:BT) (T1 T2:List Box) (A:List Int) (Ls:List L.Place):Prop where
 v:Yy k b.plan=true
 c:b.cnt≤255
 w:VW k
 ft:Qd k.Panes b k.W k.H=true
 l:vs.length=k.Panes.length∧ZlY vs
 pl:(Xb k b.plan).filterMap X2=Ls
 e:Ls=plc b 0 0 k.W k.H
 val:UW (Ls.map (ZeA vs))=bvI k vs
 r1:ZeI k b.plan ((kn b 0 (-1)).map Prod.fst)=some T1
 r2:ZeI k b.plan (Q8 b 0)=some T2
 same:(∀ x∈T1,x∈T2)∧T1.length=T2.length∧T2.length≤255
 a:A=wts (kn b 0 (-1)) 1 ((kn b 0 (-1)).map Prod.fst)
 al:A.length≤255
 hi:X5 b≤hiL A
 nl:Ls.length≤255
theorem bestF {k:ZN} {vs:List Int} {b:BT} (h:bpI k vs=some b):∃ T1 T2 A Ls,BestF k vs b T1 T2 A Ls:=by
 unfold bpI at h;split at h
 ·rename_i hc;obtain⟨ht,hc⟩:=hc;obtain⟨W,H,hW,hH,h1,h2,h3,h4⟩:=Zc2 ht;have hg:=ZtL (ps:=k.Panes) (vs:=vs) (W+H) W H h1 h3 (Kh _) 0 0;have ae:bvI k vs=vT k.Panes vs W H:=by
   unfold bvI;rw[Km ht,hW,hH,KZ,KZ]
  rw[hW,hH,KZ,KZ] at h hc;cases h;generalize bpN k.Panes vs (W+H) W H=b at *;obtain⟨kW,kH,kP⟩:=k;simp only at hW hH;subst hW hH;obtain⟨hf,aa⟩:=hg;simp only at hf aa;have hw:VW ⟨(W:Int),(H:Int),kP⟩:=ht.1.1;have hv:Yy ⟨(W:Int),(H:Int),kP⟩ b.plan=true:=(ZkV (QN b)).2 ⟨hw,hc,hf⟩;have ab:ZaW ⟨0,0,(W:Int),(H:Int)⟩:=by unfold ZaW;simp only;omega
  obtain⟨b1,b2⟩:=ZpM b;have n1:=ZrU b;have af:=Wz b 0 (-1);have ag:=ZlT b 0 (-1);have ah:=ZdZ b 0 (-1) ⟨0,0,(W:Int),(H:Int)⟩;have p1:=ZhS (g:=⟨0,0,(W:Int),(H:Int)⟩) hf ab n1 (Kt _);have p2:=ZhS (g:=⟨0,0,(W:Int),(H:Int)⟩) hf ab b1 b2;have ad:Xb ⟨(W:Int),(H:Int),kP⟩ b.plan=pt b 0 0 W H:=by
   have:=hv;unfold Yy at this;unfold Xb;rw[QN] at this ⊢;simp only at this ⊢;rw[Km this]
  have rr:∀ s,okS (kn b 0 (-1)) [] s=true→ZeI ⟨(W:Int),(H:Int),kP⟩ b.plan s=some (goS b ⟨0,0,(W:Int),(H:Int)⟩ [⟨0,0,(W:Int),(H:Int)⟩] s):=fun s hs=>by
   unfold ZeI;rw[QN];simp only[hv,hs,Bool.and_self,Kg]
  have l1:=p1.length_eq;have l2:=p2.length_eq;have l3:=ZlV (kn b 0 (-1)) ((kn b 0 (-1)).map Prod.fst) 1;have l4:(Zbh b ⟨0,0,(W:Int),(H:Int)⟩).length=(plc b 0 0 W H).length+(wst b 0 0 W H).length:=by
   unfold Zbh;simp
  refine⟨_,_,_,_,{ v:=hv,c:=hc,w:=hw,ft:=hf,l:=⟨ht.2.1.2,ht.2.2⟩,pl:=rfl,e:=by rw[ad,Jo],val:=?_,r1:=rr _ n1,r2:=rr _ b1,same:=⟨fun x hx=>p2.mem_iff.2 (p1.mem_iff.1 hx),l1.trans l2.symm,by omega⟩,a:=rfl,al:=by rw[l3,Kt];omega,hi:=Zr5 b,nl:=?_ }⟩
  ·rw[ad,Jo,ae];exact aa
  ·rw[ad,Jo];omega
 ·cases h
theorem Zce (ad:List UInt8):Zi Xs Ms X1 [.d (.sl (ad.map Ua))] []=some ((.d (.bool true)),[]):=by
 have nb:∀ a b:Bool,Zei .neq true (.d (.bool a)) (.d (.bool b))=Qf (.d (.bool (!(a==b)))):=fun _ _=>rfl;have bb:∀ a b:Bool,Zei .eql true (.d (.bool a)) (.d (.bool b))=Qf (.d (.bool (a==b))):=fun _ _=>rfl;by_cases ab:(1048576:Int)<ad.length
 ·refine cE ?_;simp +contextual -implicitDefEqProofs (maxSteps:=10^7) only[go_sem,seval,↓gZ,QL,ab]
 ·obtain⟨W,H,ps,vs,hp,hv,ed⟩:=ZeE ad;obtain⟨o,a,q,t,ks,ok,hm,e1⟩:=Zkc W H ps vs (by omega);obtain⟨o',a',q',t',ak,am,aa,e2⟩:=Zke W H ps vs (by omega) (by omega);cases hb:bpI ⟨W,H,ps⟩ vs with
  | none=>
   rw[hb] at hm aa;simp only at hm aa;obtain⟨rfl,hm⟩:=hm;obtain⟨rfl,aa⟩:=aa;cases hm;cases aa;have e3:=Vt .waste;simp only[BT.plan,Zh.enc_mk,KB] at e3;simp only[KB] at e1 e2;refine cE ?_;simp +contextual -implicitDefEqProofs (maxSteps:=10^7) only[go_sem,seval,↓gZ,QL,nb,bb,ab,ed,e1,e2,e3]
  | some b=>
   rw[hb] at hm aa;simp only at hm aa;obtain⟨rfl,hm⟩:=hm;obtain⟨rfl,aa⟩:=aa;rw[hm] at aa;cases aa;obtain⟨T1,T2,A,Ls,F⟩:=bestF hb;have e3:=Vt b;have e4:=ZdG W H ps b.plan;rw[F.pl] at e4;have e5:=Zh2 W H ps vs (by omega);obtain⟨an,ao⟩:=ZpM b;have ai:=ZrU b;have ap:=Wz b 0 (-1);have aq:=ZlT b 0 (-1);have hc:=F.c;have c1:=ZhT b F.c;have c2:=ZdI W H ps b.plan (Q8 b 0) (by omega);have c3:=ZhX b F.c;have c4:=ZdI W H ps b.plan ((kn b 0 (-1)).map Prod.fst) (by rw[Kt];omega);have c5:=ZhU T1 T2 F.same.1 F.same.2.1 (by have:=F.same;omega);have c7:=ZhY b ((kn b 0 (-1)).map Prod.fst) F.c ai (Kt _)
   have c8:=ZlW A (by have:=F.al;omega);have c9:=Zhh b F.c;rw[F.r1,rsV] at c4;rw[F.r2,rsV] at c2;rw[← F.a] at c7;have ah:=F.hi;by_cases af:Ls.length≤12
   ·have ae : (Ls.length:Int)≤12:=by omega
    obtain⟨b',ag⟩:=Zox F.w F.ft (by rw[← F.e];exact af);rw[← F.e] at ag;obtain⟨f1,f2,f3,f4⟩:=ZoD ag;have e6:=ZeH W H ps Ls;have e7:=Zh4 W H ps b'.plan vs f1 F.l.1 F.l.2;rw[ZqD (f2.map (ZeA vs)),F.val] at e7;rw[ag] at e6;obtain⟨o2,a2,q2,t2,aj,eb⟩:=Zcg b';simp only[plT,eb] at e6;rw[eb,Zh.enc_mk] at e7;rw[hm,Zh.enc_mk] at e3 e4 c1 c2 c3 c4 c7 c9;clear F;generalize Q8 b 0=s1 at *;generalize (kn b 0 (-1)).map Prod.fst=s2 at *;generalize X5 b=tb at *;generalize bvI ⟨W,H,ps⟩ vs=bv at *;rcases aj with _ | ⟨k2,r2⟩ <;>
    ·simp only[Kn,KB] at e7;refine cE ?_;simp +contextual -implicitDefEqProofs (maxSteps:=10^7) only[go_sem,seval,↓gZ,QL,nb,bb,ab,ed,e1,e2,e3,e4,e5,e6,e7,af,ae,c1,c2,c3,c4,c5,c7,c8,c9,ah]
   ·have ae : ¬(Ls.length:Int)≤12:=by omega
    rw[hm,Zh.enc_mk] at e3 e4 c1 c2 c3 c4 c7 c9;clear F;generalize Q8 b 0=s1 at *;generalize (kn b 0 (-1)).map Prod.fst=s2 at *;generalize X5 b=tb at *;refine cE ?_;simp +contextual -implicitDefEqProofs (maxSteps:=10^7) only[go_sem,seval,↓gZ,QL,nb,bb,ab,ed,e1,e2,e3,e4,e5,af,ae,c1,c2,c3,c4,c5,c7,c8,c9,ah]
end Go.Proofs.Ytefabmohhbhlfaa
