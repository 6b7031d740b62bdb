/- Own text. -/
import Derived.Test.YtefabmohhbhlfaaCCode
import Derived.Test.YtefabmohhbhlfaaAbsParts
import Derived.Test.YtefabmohhbhlfaaCC13
import Derived.Test.YtefabmohhbhlfaaAbsOkD
namespace Go.Proofs.Ytefabmohhbhlfaa
open Go Go.Abs Go.Abs.E Go.Abs.L
open Nat (reduceMul reduceSub reduceLeDiff reduceEqDiff)
open Int (reduceLE reduceEq reduceToNat reduceNeg)
set_option linter.unusedSimpArgs false
set_option linter.unusedVariables false
set_option maxRecDepth 20000
set_option maxHeartbeats 4000000
def ZhX (ps:List Pane):List Int→Int→Int
 | [],w=>w
 | i :: r,w=>ZhX ps r (w-wI ps i)
def ZhY (ps:List Pane):List (List Int)→Int→Int
 | [],h=>h
 | row :: rs,h=>ZhY ps rs (h-hd0 ps row)
theorem ZfC {ps:List Pane} {i:Int} (hm:∃ m:Nat,i=(m:Int)∧m<ps.length):∀ {row:List Int} {w:Int},Wj ps row w→wI ps i≤ZhX ps row w→Wj ps (row++[i]) w∧ZhX ps (row++[i]) w=ZhX ps row w-wI ps i
 | [],w,h,hi=>⟨⟨hm,hi,by unfold Wj;unfold ZhX at hi;omega⟩,rfl⟩
 | j :: r,w,h,hi=>by
  obtain⟨h1,h2,h3⟩:=h;obtain⟨k1,k2⟩:=ZfC hm h3 hi;exact⟨⟨h1,h2,k1⟩,k2⟩
theorem JK {ps:List Pane} {W:Int} {row:List Int} (hn:row≠[]) (hr:Wj ps row W):∀ {rs:List (List Int)} {h:Int},YR ps W rs h→hd0 ps row≤ZhY ps rs h→YR ps W (rs++[row]) h∧ZhY ps (rs++[row]) h=ZhY ps rs h-hd0 ps row
 | [],h,hf,hi=>⟨⟨hn,hr,hi,by unfold YR;unfold ZhY at hi;omega⟩,rfl⟩
 | r0 :: rs,h,hf,hi=>by
  obtain⟨h1,h2,h3,h4⟩:=hf;obtain⟨k1,k2⟩:=JK hn hr h4 hi;exact⟨⟨h1,h2,h3,k1⟩,k2⟩
def okI (ps:List Pane) (W H:Int) (i:Int):Prop:=(∃ m:Nat,i=(m:Int)∧m<ps.length)∧0≤wI ps i∧wI ps i≤W∧0≤hI ps i∧hI ps i≤H
theorem Zgf {ps:List Pane} {W H:Int}:∀ {l:List Int} {row:List Int} {rows:List (List Int)} {r a:Int},(∀ i∈l,okI ps W H i)→row≠[]→Wj ps row W→r=ZhX ps row W→YR ps W rows H→hd0 ps row≤ZhY ps rows H→a=ZhY ps rows H-hd0 ps row →
  ∀ s∈goL ps W H row rows r a l,s≠[]∧YR ps W s H
 | [],row,rows,r,a,_,hn,hr,_,hs,hd,_,s,aa=>by
  simp only[goL,Kv] at aa;subst aa;exact⟨by simp,(JK hn hr hs hd).1⟩
 | i :: l,row,rows,r,a,ho,hn,hr,er,hs,hd,ea,s,aa=>by
  have ab:=ho i (by simp);have ae:∀ j∈l,okI ps W H j:=fun j hj=>ho j (by simp[hj]);have one:Wj ps [i] W:=⟨ab.1,ab.2.2.1,by unfold Wj;have:=ab.2.2.1;omega⟩
  have ad:W-wI ps i=ZhX ps [i] W:=rfl;simp only[goL] at aa;by_cases c1:wI ps i≤r
  ·rw[Ko c1] at aa;obtain⟨k1,k2⟩:=ZfC ab.1 hr (by rw[← er];exact c1);have hh:hd0 ps (row++[i])=hd0 ps row:=by cases row with | nil=>exact absurd rfl hn | cons x t=>rfl
   exact Zgf ae (by simp) k1 (by rw[k2,er]) hs (by rw[hh];exact hd) (by rw[hh];exact ea) s aa
  ·rw[Kn c1] at aa;obtain⟨k1,k2⟩:=JK hn hr hs hd;by_cases c2:hI ps i≤a
   ·rw[Ko c2] at aa;have af:hd0 ps [i]=hI ps i:=rfl;exact Zgf ae (by simp) one ad k1 (by rw[k2,af,← ea];exact c2) (by rw[k2,af,← ea]) s aa
   ·rw[Kn c2] at aa;rcases Kf.1 aa with rfl | aa
    ·exact⟨by simp,k1⟩
    ·have hH:(0:Int)≤H:=by have:=ab.2.2.2;omega
     exact Zgf (rows:=[]) ae (by simp) one ad hH ab.2.2.2.2 rfl s aa
theorem Zsh {ps:List Pane} {W H:Int} {l:List Int} (ho:∀ i∈l,okI ps W H i):∀ s∈shL ps W H l,s≠[]∧YR ps W s H:=fun s hs=>by
 cases l with
 | nil=>cases hs
 | cons i l=>
  have aa:=ho i (by simp);exact Zgf (rows:=[]) (fun j hj=>ho j (by simp[hj])) (by simp) (show Wj ps [i] W from ⟨aa.1,aa.2.2.1,by unfold Wj;have:=aa.2.2.1;omega⟩) rfl (show (0:Int)≤H by have:=aa.2.2.2;omega) aa.2.2.2.2 rfl s hs
theorem Zgg {ps:List Pane} {W H:Int}:∀ {l:List Int} {row:List Int} {rows:List (List Int)} {r a:Int},(goL ps W H row rows r a l).length≤l.length+1
 | [],_,_,_,_=>by simp[goL]
 | i :: l,row,rows,r,a=>by
  simp only[goL];split
  ·have:=Zgg (ps:=ps) (W:=W) (H:=H) (l:=l) (row:=row++[i]) (rows:=rows) (r:=r-wI ps i) (a:=a);simp only[Kg];omega
  ·split
   ·have:=Zgg (ps:=ps) (W:=W) (H:=H) (l:=l) (row:=[i]) (rows:=rows++[row]) (r:=W-wI ps i) (a:=a-hI ps i);simp only[Kg];omega
   ·have:=Zgg (ps:=ps) (W:=W) (H:=H) (l:=l) (row:=[i]) (rows:=[]) (r:=W-wI ps i) (a:=H-hI ps i);simp only[Kg];omega
theorem Zsi (ps:List Pane) (W H:Int) (l:List Int):(shL ps W H l).length≤l.length:=by
 cases l with
 | nil=>simp[shL]
 | cons i l=>simp only[shL,Kg];exact Zgg
def shO (k:ZO):List (List (List Int)):=shL k.Panes k.W k.H (Qf (hI k.Panes) k.Panes.length)
def shP (k:ZO):List Zl:=if Xg k then (shO k).map fun s=>(ZS k.Panes k.W s k.H).plan else []
theorem Zsj {k:ZO} (hp:Xg k):∀ i∈Qf (hI k.Panes) k.Panes.length,okI k.Panes k.W k.H i:=fun i hi=>by
 obtain⟨m,rfl,hm⟩:=WL _ hi;obtain⟨z,hz⟩:=ZE hm;have h1:=ZeS hp.1.2.2.2.2.2 z (Ke hz);have h2:=hp.2 z (Ke hz);refine⟨⟨m,rfl,hm⟩,?_⟩;rw[ZdV hz,Jv hz];omega
theorem ZoS {k:ZO} (hp:Xg k):∀ s∈shO k,s≠[]∧YR k.Panes k.W s k.H:=Zsh (Zsj hp)
theorem ZoT (k:ZO):(shO k).length≤k.Panes.length:=by
 have:=Zsi k.Panes k.W k.H (Qf (hI k.Panes) k.Panes.length);rw[VO] at this;exact this
@[go_sem] theorem encS_len (r:List (List Int)):(ZdW r).cells.length=1:=rfl
@[go_sem] theorem uni_encS (l:List (List (List Int))):uni 1 (l.map ZdW)=True:=eq_true (V2 l fun _=>rfl)
theorem ZfM (kW kH:Int) (kP:List Pane) (hl:kP.length≤19):Zj Xs Ms YS [(.d (.agg [J kW,J kH,.sl (kP.map Pane.enc)]))] []=some (.own 0,[.row 5 ((shP (ZO.mk kW kH kP)).map Zl.enc) true false]):=by
 have e1:=ZhW kW kH kP;unfold shP;by_cases hp:Xg (ZO.mk kW kH kP)
 ·rw[KN hp] at e1;rw[Ko hp];have ho:okP kP:=ZeS hp.1.2.2.2.2.2;have e2:=Zk8 kW kH kP hp hl;have aa:=ZoS hp;have ab:=ZoT (ZO.mk kW kH kP)
  change Zj Xs Ms VQ [(.d (.agg [J kW,J kH,.sl (kP.map Pane.enc)]))] []=some (.own 0,[.row 1 ((shO (ZO.mk kW kH kP)).map ZdW) true false]) at e2
  simp only at aa ab;generalize shO (ZO.mk kW kH kP)=S at *;have hW:kW≤200:=hp.1.2.1;have hH:kH≤200:=hp.1.2.2.2.1;refine cE ?_;simp +contextual -implicitDefEqProofs (maxSteps:=10^7) only[go_sem,seval,↓gZ,Wp,e1,e2];refine LO (α:=Nat) (fun i=>[(12,.d (J (i:Int)))]) (fun i=>[(1,.row 5 (((S.take i).map fun s=>(ZS kP kW s kH).plan).map Zl.enc) true false)]) (fun i=>i≤S.length) (fun i=>S.length-i) 0 (by omega) ?_;intro i hi ih;by_cases ad:i<S.length
  ·obtain⟨s,hs⟩:=ZE ad;have hw:=ZD (k:=i) (by omega);obtain⟨f1,f2⟩:=aa s (Ke hs);obtain⟨o,a,q,t,ks,ae,e3⟩:=ZbG kW kH kP ho hW s kH f1 f2 hH;have af:(S.map ZdW)[i]?=some (.agg [.sl (s.map ZhV)]):=by rw[Kx,hs];rfl
   have hN:((S.take (i+1)).map fun s=>(ZS kP kW s kH).plan).map Zl.enc=((S.take i).map fun s=>(ZS kP kW s kH).plan).map Zl.enc++[Zl.enc (.mk o a q t ks)]:=by
    rw[KE,hs,← ae];simp
   have r1:(i+1)*56≤140737488355328∧i≤140737488355327:=by omega
   have r2:(S.take i).length=i:=by simp;omega
   simp +contextual -implicitDefEqProofs (maxSteps:=10^7) only[go_sem,seval,↓gZ,ad,af,hw,e3,r1,r2];refine ih (i+1) _ (by omega) (by omega) ?_;simp +contextual -implicitDefEqProofs (maxSteps:=10^7) only[go_sem,seval,↓gZ,hN,Zl.enc_mk]
  ·have:i=S.length:=by omega
   subst this;simp +contextual -implicitDefEqProofs (maxSteps:=10^7) only[go_sem,seval,↓gZ,Li]
 ·rw[Ky hp] at e1;rw[Kn hp];refine cE ?_;simp +contextual -implicitDefEqProofs (maxSteps:=10^7) only[go_sem,seval,↓gZ,Wp,e1]<;>rfl
end Go.Proofs.Ytefabmohhbhlfaa
