/- Own text. -/
import Derived.Test.YtefabmohhbhlfaaBCode
import Derived.Test.YtefabmohhbhlfaaAbsParts
import Derived.Test.YtefabmohhbhlfaaBC1
import Derived.Test.YtefabmohhbhlfaaAbsOkD
namespace Go.Proofs.Ytefabmohhbhlfaa
open Go Go.Abs Go.Abs.E Go.Abs.L
open Nat (reduceMul reduceSub reduceLeDiff reduceEqDiff)
open Int (reduceLE reduceEq reduceToNat reduceNeg)
set_option linter.unusedSimpArgs false
set_option linter.unusedVariables false
set_option maxRecDepth 20000
set_option maxHeartbeats 4000000
abbrev Lf:=Int×Int×Bool×Int
def lf1 (ps:List Pane) (w h i v:Int) (t:Bool) (s:Lf):Lf:=if s.2.2.2<v∧Qi ps i t w h=true then (1,i,t,v) else s
def lfF (ps:List Pane) (w h:Int):Nat→List Int→Lf→Lf
 | _,[],s=>s
 | i,v :: vs,s=>lfF ps w h (i+1) vs (lf1 ps w h i v true (lf1 ps w h i v false s))
theorem Zhd {ps:List Pane} {w y:Int}:∀ {vs:List Int} {i k:Nat} {v:Int} {s:Lf},vs[i]?=some v →
  lfF ps w y k (vs.take (i+1)) s=lf1 ps w y ((k+i:Nat):Int) v true (lf1 ps w y ((k+i:Nat):Int) v false (lfF ps w y k (vs.take i) s))
 | [],i,k,v,s,h=>by simp at h
 | x :: vs,0,k,v,s,h=>by simp at h;subst h;simp[lfF]
 | x :: vs,i+1,k,v,s,h=>by
  simp only[KG] at h;have:=Zhd (ps:=ps) (w:=w) (y:=y) (k:=k+1) (s:=lf1 ps w y k x true (lf1 ps w y k x false s)) h;simp only[List.take_succ_cons,lfF];rw[this];have e:k+1+i=k+(i+1):=by omega
  rw[e]
def lfj (ps:List Pane) (w h i v:Int) (s:Lf):Nat→Lf
 | 0=>s
 | 1=>lf1 ps w h i v false s
 | _=>lf1 ps w h i v true (lf1 ps w h i v false s)
def Uu (ps:List Pane) (vs:List Int) (w h:Int):Lf:=lfF ps w h 0 vs (0,0,false,0)
theorem Zh4 (kW kH:Int) (kP:List Pane) (vs:List Int) (w h:Int) (hl:vs.length≤1000):Zu Xs Ms VX [(.d (.agg [J kW,J kH,.sl (kP.map Pane.enc)])),.d (.sl (vs.map Qs)),(.d (J w)),(.d (J h))] []=some (.tup [.agg [(.d (J ((Uu kP vs w h).1))),(.d (J 0)),(.d (J ((Uu kP vs w h).2.1))),(.d (.bool ((Uu kP vs w h).2.2.1))),.own 0],(.d (J ((Uu kP vs w h).2.2.2)))],[.row 5 [] true false]):=by
 refine cE ?_;simp +contextual -implicitDefEqProofs (maxSteps:=10^7) only[go_sem,seval,↓gZ,Zaj];refine LO (α:=Nat) (fun i=>[(19,.d (J (i:Int))),(11,.d (J (lfF kP w h 0 (vs.take i) (0,0,false,0)).2.2.2))]) (fun i=>[(0,.box [(.d (J ((lfF kP w h 0 (vs.take i) (0,0,false,0)).1))),(.d (J 0)),(.d (J ((lfF kP w h 0 (vs.take i) (0,0,false,0)).2.1))),(.d (.bool ((lfF kP w h 0 (vs.take i) (0,0,false,0)).2.2.1))),.own 3])]) (fun i=>i≤vs.length) (fun i=>vs.length-i) 0 (by omega) ?_;intro i hi ih;by_cases ag:i<vs.length
 ·obtain⟨v,hx⟩:=Z1 ag;have hw:=ZE (k:=i) (by omega);have hs:=Zhd (ps:=kP) (w:=w) (y:=h) (k:=0) (s:=(0,0,false,0)) hx;rw[KP] at hs;generalize lfF kP w h 0 (vs.take i) (0,0,false,0)=s at *;simp +contextual -implicitDefEqProofs (maxSteps:=10^7) only[go_sem,seval,↓gZ,hx,ag];refine Ya Xs Ms (st0:=?st1) (α:=Nat) (fun j=>[(26,.d (J (j:Int))),(11,.d (J (lfj kP w h i v s j).2.2.2))]) (fun j=>[(1,.box [(.d (J ((lfj kP w h i v s j).1))),(.d (J 0)),(.d (J ((lfj kP w h i v s j).2.1))),(.d (.bool ((lfj kP w h i v s j).2.2.1))),.own 4])]) (fun j=>j≤2) (fun j=>2-j) 0 ?hc2 (by omega) ?h02 ?step2
  case hc2=>simp +contextual -implicitDefEqProofs (maxSteps:=10^7) only[go_sem,seval,↓gZ]<;>exact rfl
  case h02=>rfl
  case step2=>
   intro j hj ab;have one:∀ (q:Nat) (b:Bool),q<2→lfj kP w h i v s (q+1)=lf1 kP w h i v (q==1) (lfj kP w h i v s q):=fun q b hq=>by
    rcases q with _ | _ | q
    ·rfl
    ·rfl
    ·omega
   by_cases ad:j<2
   ·have aa : (j:Int)<2:=by omega
    have ae:=ZE (k:=j) (by omega);have af:[D.bool false,D.bool true][j]?=some (.bool (j==1)):=by
     rcases j with _ | _ | j
     ·rfl
     ·rfl
     ·omega
    have e1:=Za1 kW kH kP i (j==1) w h;have hn:=one j true ad;generalize (j==1)=b at *;generalize lfj kP w h i v s j=s' at *;by_cases c1:s'.2.2.2<v
    ·by_cases c2:Qi kP i b w h=true
     ·rw[c2] at e1;rw[lf1,Kt ⟨c1,c2⟩] at hn;simp +contextual -implicitDefEqProofs (maxSteps:=10^7) only[go_sem,seval,↓gZ,ad,aa,af,c1,e1,ae];refine ab (j+1) _ (by omega) (by omega) ?_;simp +contextual -implicitDefEqProofs (maxSteps:=10^7) only[go_sem,seval,↓gZ,hn]
     ·rw[Lz] at c2;rw[c2] at e1;rw[lf1,Kp (by simp[c2])] at hn;simp +contextual -implicitDefEqProofs (maxSteps:=10^7) only[go_sem,seval,↓gZ,ad,aa,af,c1,e1,ae];refine ab (j+1) _ (by omega) (by omega) ?_;simp +contextual -implicitDefEqProofs (maxSteps:=10^7) only[go_sem,seval,↓gZ,hn]
    ·rw[lf1,Kp (fun h=>c1 h.1)] at hn;simp +contextual -implicitDefEqProofs (maxSteps:=10^7) only[go_sem,seval,↓gZ,ad,aa,af,c1,ae];refine ab (j+1) _ (by omega) (by omega) ?_;simp +contextual -implicitDefEqProofs (maxSteps:=10^7) only[go_sem,seval,↓gZ,hn]
   ·have:j=2:=by omega
    subst this;simp only[lfj] at ab ⊢;simp +contextual -implicitDefEqProofs (maxSteps:=10^7) only[go_sem,seval,↓gZ,hw];refine ih (i+1) _ (by omega) (by omega) ?_;simp +contextual -implicitDefEqProofs (maxSteps:=10^7) only[go_sem,seval,↓gZ,hs]
 ·have:i=vs.length:=by omega
  subst this;simp +contextual -implicitDefEqProofs (maxSteps:=10^7) only[go_sem,seval,↓gZ,KZ,Uu]
theorem Zhe (kW kH:Int) (kP:List Pane) (vs:List Int) (w h:Int) (hl:vs.length≤1000) (hP:kP.length<4611686018427387904):Zu Xs Ms Y2 [(.d (.agg [J kW,J kH,.sl (kP.map Pane.enc)])),.d (.sl (vs.map Qs)),(.d (J w)),(.d (J h))] []=some (.tup [.agg [(.d (J ((Uu kP vs w h).1))),(.d (J 0)),(.d (J ((Uu kP vs w h).2.1))),(.d (.bool ((Uu kP vs w h).2.2.1))),.own 0],(.d (J ((Uu kP vs w h).2.2.2)))],[.row 5 [] true false]):=by
 refine cE ?_;simp +contextual -implicitDefEqProofs (maxSteps:=10^7) only[go_sem,seval,↓gZ,Jc];refine LO (α:=Nat) (fun i=>[(12,.d (J (i:Int))),(11,.d (J (lfF kP w h 0 (vs.take i) (0,0,false,0)).2.2.2))]) (fun i=>[(0,.box [(.d (J ((lfF kP w h 0 (vs.take i) (0,0,false,0)).1))),(.d (J 0)),(.d (J ((lfF kP w h 0 (vs.take i) (0,0,false,0)).2.1))),(.d (.bool ((lfF kP w h 0 (vs.take i) (0,0,false,0)).2.2.1))),.own 3])]) (fun i=>i≤vs.length) (fun i=>vs.length-i) 0 (by omega) ?_;intro i hi ih;by_cases ab:i<vs.length
 ·obtain⟨v,hx⟩:=Z1 ab;have hw:=ZE (k:=i) (by omega);have hs:=Zhd (ps:=kP) (w:=w) (y:=h) (k:=0) (s:=(0,0,false,0)) hx;rw[KP] at hs;generalize lfF kP w h 0 (vs.take i) (0,0,false,0)=s at *;simp +contextual -implicitDefEqProofs (maxSteps:=10^7) only[go_sem,seval,↓gZ,hx,ab];refine Ya Xs Ms (st0:=?st1) (α:=Nat) (fun j=>[(13,.d (J (j:Int))),(11,.d (J (lfj kP w h i v s j).2.2.2))]) (fun j=>[(0,.box [(.d (J ((lfj kP w h i v s j).1))),(.d (J 0)),(.d (J ((lfj kP w h i v s j).2.1))),(.d (.bool ((lfj kP w h i v s j).2.2.1))),.own 3])]) (fun j=>j≤2) (fun j=>2-j) 0 ?hc2 (by omega) ?h02 ?step2
  case hc2=>simp +contextual -implicitDefEqProofs (maxSteps:=10^7) only[go_sem,seval,↓gZ]<;>exact rfl
  case h02=>rfl
  case step2=>
   intro j hj ad;have one:∀ (q:Nat) (b:Bool),q<2→lfj kP w h i v s (q+1)=lf1 kP w h i v (q==1) (lfj kP w h i v s q):=fun q b hq=>by
    rcases q with _ | _ | q
    ·rfl
    ·rfl
    ·omega
   by_cases ae:j<2
   ·have aa : (j:Int)<2:=by omega
    have af:=ZE (k:=j) (by omega);have ag:decide ((j:Int)=1)=(j==1):=by
     rcases j with _ | _ | j
     ·rfl
     ·rfl
     ·omega
    have e1:=Ze2 kW kH kP i (j==1) w h hP;simp only[BT.plan,Zs.enc_mk,Lk] at e1;have hn:=one j true ae;generalize (j==1)=b at *;generalize lfj kP w h i v s j=s' at *;by_cases c1:s'.2.2.2<v
    ·by_cases c2:Qi kP i b w h=true
     ·rw[c2] at e1;rw[lf1,Kt ⟨c1,c2⟩] at hn;simp +contextual -implicitDefEqProofs (maxSteps:=10^7) only[go_sem,seval,↓gZ,ae,aa,ag,hx,ab,c1,e1,af];refine ad (j+1) _ (by omega) (by omega) ?_;simp +contextual -implicitDefEqProofs (maxSteps:=10^7) only[go_sem,seval,↓gZ,hn]
     ·rw[Lz] at c2;rw[c2] at e1;rw[lf1,Kp (by simp[c2])] at hn;simp +contextual -implicitDefEqProofs (maxSteps:=10^7) only[go_sem,seval,↓gZ,ae,aa,ag,hx,ab,c1,e1,af];refine ad (j+1) _ (by omega) (by omega) ?_;simp +contextual -implicitDefEqProofs (maxSteps:=10^7) only[go_sem,seval,↓gZ,hn]
    ·rw[lf1,Kp (fun h=>c1 h.1)] at hn;simp +contextual -implicitDefEqProofs (maxSteps:=10^7) only[go_sem,seval,↓gZ,ae,aa,ag,hx,ab,c1,af];refine ad (j+1) _ (by omega) (by omega) ?_;simp +contextual -implicitDefEqProofs (maxSteps:=10^7) only[go_sem,seval,↓gZ,hn]
   ·have:j=2:=by omega
    subst this;simp only[lfj] at ad ⊢;simp +contextual -implicitDefEqProofs (maxSteps:=10^7) only[go_sem,seval,↓gZ,hw];refine ih (i+1) _ (by omega) (by omega) ?_;simp +contextual -implicitDefEqProofs (maxSteps:=10^7) only[go_sem,seval,↓gZ,hs]
 ·have:i=vs.length:=by omega
  subst this;simp +contextual -implicitDefEqProofs (maxSteps:=10^7) only[go_sem,seval,↓gZ,KZ,Uu]
def mx (g:Nat→Int) (m:Int):Nat→Int
 | 0=>m
 | n+1=>max (mx g m n) (g (n+1))
def ZbX (lf f:Nat→Nat→Int) (w h:Nat):Int:=mx (fun y=>f w y+f w (h-y)) (mx (fun x=>f x h+f (w-x) h) (lf w h) (w / 2)) (h / 2)
def VN (lf:Nat→Nat→Int):Nat→Nat→Nat→Int
 | 0,_,_=>0
 | n+1,w,h=>if w=0∨h=0 then 0 else ZbX lf (VN lf n) w h
def V (lf:Nat→Nat→Int) (w h:Nat):Int:=VN lf (w+h) w h
theorem Zhf {g g' : Nat→Int} {m m' : Int}:∀ {n:Nat},(∀ i,1≤i→i≤n→g i=g' i)→m=m'→mx g m n=mx g' m' n
 | 0,_,h=>h
 | n+1,hg,h=>by
  simp only[mx];rw[Zhf (fun i h1 h2=>hg i h1 (by omega)) h,hg (n+1) (by omega) (by omega)]
theorem ZeV {lf f g:Nat→Nat→Int} {w h:Nat} (aa:∀ a b,a+b<w+h→f a b=g a b):ZbX lf f w h=ZbX lf g w h:=by
 unfold ZbX;refine Zhf (fun i h1 h2=>?_) (Zhf (fun i h1 h2=>?_) rfl)
 ·rw[aa w i (by omega),aa w (h-i) (by omega)]
 ·rw[aa i h (by omega),aa (w-i) h (by omega)]
theorem ZqR (lf:Nat→Nat→Int):∀ (n w h:Nat),w+h≤n→VN lf n w h=VN lf (w+h) w h:=by
 intro n
 induction n using Nat.strongRecOn with
 | ind n ih=>
  intro w h hn;cases n with
  | zero=>
   have:w+h=0:=by omega
   rw[this]
  | succ n=>
   by_cases h0:w=0∨h=0
   ·cases hm:w+h with
    | zero=>simp[VN,h0]
    | succ m=>simp[VN,h0]
   ·obtain⟨m,hm⟩:∃ m,w+h=m+1:=⟨w+h-1,by omega⟩
    rw[hm];simp only[VN,Kp h0];refine ZeV fun a b aa=>?_;rw[ih n (by omega) a b (by omega),ih m (by omega) a b (by omega)]
theorem ZmB {lf:Nat→Nat→Int} {w h:Nat} (hw:1≤w) (hh:1≤h):V lf w h=ZbX lf (V lf) w h:=by
 obtain⟨m,hm⟩:∃ m,w+h=m+1:=⟨w+h-1,by omega⟩
 unfold V;rw[hm];simp only[VN,Kp (show ¬(w=0∨h=0) by omega)];exact ZeV fun a b aa=>ZqR lf m a b (by omega)
theorem Zcp {lf:Nat→Nat→Int} {w h:Nat} (h0:w=0∨h=0):V lf w h=0:=by
 unfold V;cases w+h with
 | zero=>rfl
 | succ m=>simp[VN,h0]
theorem ZpL {g:Nat→Int} {m B:Int} (h0:0≤m) (hm:m≤B):∀ {n:Nat},(∀ i,1≤i→i≤n→g i≤B)→m≤mx g m n∧mx g m n≤B
 | 0,_=>⟨Int.le_refl _,hm⟩
 | n+1,hg=>by
  have h1:=ZpL h0 hm (n:=n) fun i h1 h2=>hg i h1 (by omega);have h2:=hg (n+1) (by omega) (by omega);simp only[mx];omega
theorem V_bd {lf:Nat→Nat→Int} (aa:∀ w h,0≤lf w h∧lf w h≤1000):∀ (n w h:Nat),w+h≤n→0≤V lf w h∧V lf w h≤1000*((w*h:Nat):Int):=by
 intro n
 induction n with
 | zero=>intro w h hn;rw[Zcp (by omega)];omega
 | succ n ih=>
  intro w h hn;by_cases h0:w=0∨h=0
  ·rw[Zcp h0];omega
  ·rw[ZmB (by omega) (by omega)];have hl:=aa w h;have ab:1≤w*h:=Nat.mul_pos (by omega) (by omega);have b1:=ZpL (g:=fun x=>V lf x h+V lf (w-x) h) hl.1 (show lf w h≤1000*((w*h:Nat):Int) by omega) (n:=w / 2) fun i h1 h2=>by
    have p1:=(ih i h (by omega)).2;have p2:=(ih (w-i) h (by omega)).2;have e:w*h=i*h+(w-i)*h:=by rw[← KA];congr 1;omega
    show V lf i h+V lf (w-i) h≤_;rw[e];push_cast at p1 p2 ⊢;omega
   have b2:=ZpL (g:=fun y=>V lf w y+V lf w (h-y)) (show 0≤mx (fun x=>V lf x h+V lf (w-x) h) (lf w h) (w / 2) by omega) b1.2 (n:=h / 2) fun i h1 h2=>by
    have p1:=(ih w i (by omega)).2;have p2:=(ih w (h-i) (by omega)).2;have e:w*h=w*i+w*(h-i):=by rw[← Nat.mul_add];congr 1;omega
    show V lf w i+V lf w (h-i)≤_;rw[e];push_cast at p1 p2 ⊢;omega
   unfold ZbX;omega
def tv (lf:Nat→Nat→Int) (H w h i:Nat):Int:=if i % 17≤H∧(i / 17<w∨i / 17=w∧i % 17<h) then V lf (i / 17) (i % 17) else 0
def rowV (f:Nat→Int):List AV:=(List.range 289).map fun i=>.d (J (f i))
theorem WD (f:Nat→Int):(rowV f).length=289:=by simp[rowV]
theorem Zdo (f:Nat→Int) {x:Nat} (h:x<289):(rowV f)[x]?=some (.d (J (f x))):=by
 simp[rowV,h]
theorem Zjk:List.replicate 289 (AV.d (J 0))=rowV (fun _=>0):=by
 unfold rowV;rw[List.map_const',List.length_range]
theorem ZpM (f g:Nat→Int) {x:Nat} {v:Int} (h:x<289) (hx:g x=v) (hg:∀ i,i≠x→g i=f i):Zk (rowV f) x [.d (J v)]=rowV g:=by
 have e:Zk (rowV f) x [.d (J v)]=(rowV f).set x (.d (J v)):=by
  rw[List.set_eq_take_append_cons_drop,Kt (by rw[WD];exact h)];simp[Zk]
 rw[e];refine KW fun i=>?_;rw[K4,WD];by_cases h1:i<289
 ·by_cases h2:x=i
  ·subst h2;rw[Kt rfl,Kt h,Zdo _ h,hx]
  ·rw[Kp h2,Zdo _ h1,Zdo _ h1,hg i (Ne.symm h2)]
 ·rw[Kp (by omega)];simp[rowV,h1]
theorem Za5 (f:Nat→Int):ZaA (rowV f)=false:=by
 have h:∀ l:List Nat,ZaA (l.map fun x=>AV.d (J (f x)))=false:=fun l=>by
  induction l with
  | nil=>rfl
  | cons a l ih=>exact ih
 exact h _
theorem Uv (f:Nat→Int):QH (rowV f)=true:=by
 have h:∀ l:List Nat,QH (l.map fun x=>AV.d (J (f x)))=true:=fun l=>by
  induction l with
  | nil=>rfl
  | cons a l ih=>exact ih
 exact h _
theorem Zlt (g:Nat) (f:Nat→Int):(rowV f).map (ZbE g)=rowV f:=by
 unfold rowV;rw[List.map_map];exact Kw fun _ _=>rfl
theorem Z3 (f:Nat→Int):(rowV f).flatMap Zn=[]:=by
 unfold rowV;rw[List.flatMap_map];simp[Zn,Zf]
theorem Qq (g:Nat→Nat) (f:Nat→Int):(rowV f).map (UU g)=rowV f:=by
 unfold rowV;rw[List.map_map];exact Kw fun _ _=>rfl
theorem Z4 (g:List Nat) (f:Nat→Int):(rowV f).map (ZD g)=rowV f:=by
 unfold rowV;rw[List.map_map];exact Kw fun _ _=>rfl
theorem tv_new {lf:Nat→Nat→Int} {H w h:Nat} (hh:h≤H) (aa:h<17):tv lf H w (h+1) (17*w+h)=V lf w h:=by
 unfold tv;have e1:(17*w+h) / 17=w:=by omega
 have e2:(17*w+h) % 17=h:=by omega
 rw[e1,e2,Kt ⟨hh,.inr ⟨rfl,by omega⟩⟩]
theorem tv_old {lf:Nat→Nat→Int} {H w h i:Nat} (aa:h<17) (hi:i≠17*w+h):tv lf H w (h+1) i=tv lf H w h i:=by
 unfold tv;have:(i % 17≤H∧(i / 17<w∨i / 17=w∧i % 17<h+1))↔(i % 17≤H∧(i / 17<w∨i / 17=w∧i % 17<h)):=by omega
 simp only[this]
theorem ZqS {lf:Nat→Nat→Int} {H w h a b:Nat} (hb:b≤H) (ab:b<17) (aa:a<w∨a=w∧b<h):tv lf H w h (17*a+b)=V lf a b:=by
 unfold tv;have e1:(17*a+b) / 17=a:=by omega
 have e2:(17*a+b) % 17=b:=by omega
 rw[e1,e2,Kt ⟨hb,aa⟩]
theorem ZqT {lf:Nat→Nat→Int} {H w:Nat}:tv lf H w (H+1)=tv lf H (w+1) 1:=by
 funext i
 unfold tv;by_cases h0:i % 17=0
 ·rw[Zcp (.inr h0)];simp
 ·have:(i % 17≤H∧(i / 17<w∨i / 17=w∧i % 17<H+1))↔(i % 17≤H∧(i / 17<w+1∨i / 17=w+1∧i % 17<1)):=by omega
  simp only[this]
theorem ZpN {lf:Nat→Nat→Int} {H:Nat}:(fun _=>0)=tv lf H 1 1:=by
 funext i
 unfold tv;by_cases h:i % 17≤H∧(i / 17<1∨i / 17=1∧i % 17<1)
 ·rw[Kt h,Zcp (by omega)]
 ·rw[Kp h]
end Go.Proofs.Ytefabmohhbhlfaa
