/- Own text. -/
import Derived.Test.YtefabmohhbhlfaaBCode
import Derived.Test.YtefabmohhbhlfaaAbsParts
import Derived.Test.YtefabmohhbhlfaaBC8
import Derived.Test.YtefabmohhbhlfaaBC11
import Derived.Test.YtefabmohhbhlfaaBC14
import Derived.Test.YtefabmohhbhlfaaAbsOkD
namespace Go.Proofs.Ytefabmohhbhlfaa
open Go Go.Abs Go.Abs.E Go.Abs.L
open Nat (reduceMul reduceSub reduceLeDiff reduceEqDiff)
open Int (reduceLE reduceEq reduceToNat reduceNeg)
set_option linter.unusedSimpArgs false
set_option linter.unusedVariables false
set_option maxRecDepth 20000
set_option maxHeartbeats 4000000
def Zg9 (ps:List Pane):List Int→Int→Int
 | [],w=>w
 | i :: r,w=>Zg9 ps r (w-wI ps i)
def Zha (ps:List Pane):List (List Int)→Int→Int
 | [],h=>h
 | row :: rs,h=>Zha ps rs (h-hd0 ps row)
theorem ZeU {ps:List Pane} {i:Int} (hm:∃ m:Nat,i=(m:Int)∧m<ps.length):∀ {row:List Int} {w:Int},WN ps row w→wI ps i≤Zg9 ps row w→WN ps (row++[i]) w∧Zg9 ps (row++[i]) w=Zg9 ps row w-wI ps i
 | [],w,h,hi=>⟨⟨hm,hi,by unfold WN;unfold Zg9 at hi;omega⟩,rfl⟩
 | j :: r,w,h,hi=>by
  obtain⟨h1,h2,h3⟩:=h;obtain⟨k1,k2⟩:=ZeU hm h3 hi;exact⟨⟨h1,h2,k1⟩,k2⟩
theorem U9 {ps:List Pane} {W:Int} {row:List Int} (hn:row≠[]) (hr:WN ps row W):∀ {rs:List (List Int)} {h:Int},VS ps W rs h→hd0 ps row≤Zha ps rs h→VS ps W (rs++[row]) h∧Zha ps (rs++[row]) h=Zha ps rs h-hd0 ps row
 | [],h,hf,hi=>⟨⟨hn,hr,hi,by unfold VS;unfold Zha at hi;omega⟩,rfl⟩
 | r0 :: rs,h,hf,hi=>by
  obtain⟨h1,h2,h3,h4⟩:=hf;obtain⟨k1,k2⟩:=U9 hn hr h4 hi;exact⟨⟨h1,h2,h3,k1⟩,k2⟩
def okI (ps:List Pane) (W H:Int) (i:Int):Prop:=(∃ m:Nat,i=(m:Int)∧m<ps.length)∧0≤wI ps i∧wI ps i≤W∧0≤hI ps i∧hI ps i≤H
theorem Zfp {ps:List Pane} {W H:Int}:∀ {l:List Int} {row:List Int} {rows:List (List Int)} {r a:Int},(∀ i∈l,okI ps W H i)→row≠[]→WN ps row W→r=Zg9 ps row W→VS ps W rows H→hd0 ps row≤Zha ps rows H→a=Zha ps rows H-hd0 ps row →
  ∀ s∈goL ps W H row rows r a l,s≠[]∧VS ps W s H
 | [],row,rows,r,a,_,hn,hr,_,hs,hd,_,s,aa=>by
  simp only[goL,KC] at aa;subst aa;exact⟨by simp,(U9 hn hr hs hd).1⟩
 | i :: l,row,rows,r,a,ho,hn,hr,er,hs,hd,ea,s,aa=>by
  have ab:=ho i (by simp);have ae:∀ j∈l,okI ps W H j:=fun j hj=>ho j (by simp[hj]);have one:WN ps [i] W:=⟨ab.1,ab.2.2.1,by unfold WN;have:=ab.2.2.1;omega⟩
  have ad:W-wI ps i=Zg9 ps [i] W:=rfl;simp only[goL] at aa;by_cases c1:wI ps i≤r
  ·rw[Kt c1] at aa;obtain⟨k1,k2⟩:=ZeU ab.1 hr (by rw[← er];exact c1);have hh:hd0 ps (row++[i])=hd0 ps row:=by cases row with | nil=>exact absurd rfl hn | cons x t=>rfl
   exact Zfp ae (by simp) k1 (by rw[k2,er]) hs (by rw[hh];exact hd) (by rw[hh];exact ea) s aa
  ·rw[Kp c1] at aa;obtain⟨k1,k2⟩:=U9 hn hr hs hd;by_cases c2:hI ps i≤a
   ·rw[Kt c2] at aa;have af:hd0 ps [i]=hI ps i:=rfl;exact Zfp ae (by simp) one ad k1 (by rw[k2,af,← ea];exact c2) (by rw[k2,af,← ea]) s aa
   ·rw[Kp c2] at aa;rcases Ke.1 aa with rfl | aa
    ·exact⟨by simp,k1⟩
    ·have hH:(0:Int)≤H:=by have:=ab.2.2.2;omega
     exact Zfp (rows:=[]) ae (by simp) one ad hH ab.2.2.2.2 rfl s aa
theorem ZqN {ps:List Pane} {W H:Int} {l:List Int} (ho:∀ i∈l,okI ps W H i):∀ s∈shL ps W H l,s≠[]∧VS ps W s H:=fun s hs=>by
 cases l with
 | nil=>cases hs
 | cons i l=>
  have aa:=ho i (by simp);exact Zfp (rows:=[]) (fun j hj=>ho j (by simp[hj])) (by simp) (show WN ps [i] W from ⟨aa.1,aa.2.2.1,by unfold WN;have:=aa.2.2.1;omega⟩) rfl (show (0:Int)≤H by have:=aa.2.2.2;omega) aa.2.2.2.2 rfl s hs
theorem Zfq {ps:List Pane} {W H:Int}:∀ {l:List Int} {row:List Int} {rows:List (List Int)} {r a:Int},(goL ps W H row rows r a l).length≤l.length+1
 | [],_,_,_,_=>by simp[goL]
 | i :: l,row,rows,r,a=>by
  simp only[goL];split
  ·have:=Zfq (ps:=ps) (W:=W) (H:=H) (l:=l) (row:=row++[i]) (rows:=rows) (r:=r-wI ps i) (a:=a);simp only[Kk];omega
  ·split
   ·have:=Zfq (ps:=ps) (W:=W) (H:=H) (l:=l) (row:=[i]) (rows:=rows++[row]) (r:=W-wI ps i) (a:=a-hI ps i);simp only[Kk];omega
   ·have:=Zfq (ps:=ps) (W:=W) (H:=H) (l:=l) (row:=[i]) (rows:=[]) (r:=W-wI ps i) (a:=H-hI ps i);simp only[Kk];omega
theorem ZqO (ps:List Pane) (W H:Int) (l:List Int):(shL ps W H l).length≤l.length:=by
 cases l with
 | nil=>simp[shL]
 | cons i l=>simp only[shL,Kk];exact Zfq
def shO (k:ZM):List (List (List Int)):=shL k.Panes k.W k.H (XB (hI k.Panes) k.Panes.length)
def shP (k:ZM):List Zs:=if Wm k then (shO k).map fun s=>(Zco k.Panes k.W s k.H).plan else []
theorem ZqP {k:ZM} (hp:Wm k):∀ i∈XB (hI k.Panes) k.Panes.length,okI k.Panes k.W k.H i:=fun i hi=>by
 obtain⟨m,rfl,hm⟩:=Zbz _ hi;obtain⟨z,hz⟩:=Z1 hm;have h1:=Zg7 hp.1.2.2.2.2.2 z (Kg hz);have h2:=hp.2 z (Kg hz);refine⟨⟨m,rfl,hm⟩,?_⟩;rw[ZpC hz,Zje hz];omega
theorem ZqQ {k:ZM} (hp:Wm k):∀ s∈shO k,s≠[]∧VS k.Panes k.W s k.H:=ZqN (ZqP hp)
theorem Znl (k:ZM):(shO k).length≤k.Panes.length:=by
 have:=ZqO k.Panes k.W k.H (XB (hI k.Panes) k.Panes.length);rw[Zby] at this;exact this
@[go_sem] theorem encS_len (r:List (List Int)):(Zdn r).cells.length=1:=rfl
@[go_sem] theorem uni_encS (l:List (List (List Int))):uni 1 (l.map Zdn)=True:=eq_true (Wo l fun _=>rfl)
theorem Ze4 (kW kH:Int) (kP:List Pane) (hl:kP.length≤19):Zu Xs Ms YB [(.d (.agg [J kW,J kH,.sl (kP.map Pane.enc)]))] []=some (.own 0,[.row 5 ((shP (ZM.mk kW kH kP)).map Zs.enc) true false]):=by
 have e1:=Zg8 kW kH kP;unfold shP;by_cases hp:Wm (ZM.mk kW kH kP)
 ·rw[K2 hp] at e1;rw[Kt hp];have ho:okP kP:=Zg7 hp.1.2.2.2.2.2;have e2:=Zka kW kH kP hp hl;have aa:=ZqQ hp;have ab:=Znl (ZM.mk kW kH kP)
  change Zu Xs Ms Vp [(.d (.agg [J kW,J kH,.sl (kP.map Pane.enc)]))] []=some (.own 0,[.row 1 ((shO (ZM.mk kW kH kP)).map Zdn) true false]) at e2
  simp only at aa ab;generalize shO (ZM.mk kW kH kP)=S at *;have hW:kW≤200:=hp.1.2.1;have hH:kH≤200:=hp.1.2.2.2.1;refine cE ?_;simp +contextual -implicitDefEqProofs (maxSteps:=10^7) only[go_sem,seval,↓gZ,VZ,e1,e2];refine LO (α:=Nat) (fun i=>[(12,.d (J (i:Int)))]) (fun i=>[(1,.row 5 (((S.take i).map fun s=>(Zco kP kW s kH).plan).map Zs.enc) true false)]) (fun i=>i≤S.length) (fun i=>S.length-i) 0 (by omega) ?_;intro i hi ih;by_cases ad:i<S.length
  ·obtain⟨s,hs⟩:=Z1 ad;have hw:=ZE (k:=i) (by omega);obtain⟨f1,f2⟩:=aa s (Kg hs);obtain⟨o,a,q,t,ks,ae,e3⟩:=Za4 kW kH kP ho hW s kH f1 f2 hH;have af:(S.map Zdn)[i]?=some (.agg [.sl (s.map Zg6)]):=by rw[KJ,hs];rfl
   have hN:((S.take (i+1)).map fun s=>(Zco kP kW s kH).plan).map Zs.enc=((S.take i).map fun s=>(Zco kP kW s kH).plan).map Zs.enc++[Zs.enc (.mk o a q t ks)]:=by
    rw[Lq,hs,← ae];simp
   have r1:(i+1)*56≤140737488355328∧i≤140737488355327:=by omega
   have r2:(S.take i).length=i:=by simp;omega
   simp +contextual -implicitDefEqProofs (maxSteps:=10^7) only[go_sem,seval,↓gZ,ad,af,hw,e3,r1,r2];refine ih (i+1) _ (by omega) (by omega) ?_;simp +contextual -implicitDefEqProofs (maxSteps:=10^7) only[go_sem,seval,↓gZ,hN,Zs.enc_mk]
  ·have:i=S.length:=by omega
   subst this;simp +contextual -implicitDefEqProofs (maxSteps:=10^7) only[go_sem,seval,↓gZ,KZ]
 ·rw[Kv hp] at e1;rw[Kp hp];refine cE ?_;simp +contextual -implicitDefEqProofs (maxSteps:=10^7) only[go_sem,seval,↓gZ,VZ,e1]<;>rfl
def vb1 (W H:Int) (x:Pane) (v:Int):Int:=(v*W*H).tdiv (x.W*x.H)
def vbF (W H:Int):List Pane→List Int→Int→Int
 | x :: ps,v :: vs,n=>vbF W H ps vs (max n (vb1 W H x v))
 | _,_,n=>n
theorem Zls {W H:Int}:∀ {ps:List Pane} {vs:List Int} {i:Nat} {x:Pane} {v n:Int},ps[i]?=some x→vs[i]?=some v→vbF W H (ps.take (i+1)) (vs.take (i+1)) n=max (vbF W H (ps.take i) (vs.take i) n) (vb1 W H x v)
 | y :: ps,u :: vs,0,x,v,n,h1,h2=>by
  simp only[K5,Option.some.injEq] at h1 h2;subst h1 h2;simp[vbF]
 | y :: ps,u :: vs,i+1,x,v,n,h1,h2=>by
  simp only[KG] at h1 h2;simp only[List.take_succ_cons,vbF];exact Zls h1 h2
 | [],_,_,_,_,_,h1,_=>by simp at h1
 | _ :: _,[],_,_,_,_,_,h2=>by simp at h2
theorem ZpF {W H:Int}:∀ {ps:List Pane} {vs:List Int} {n:Int},n≤vbF W H ps vs n
 | [],_,_=>by simp[vbF]
 | _ :: _,[],_=>by simp[vbF]
 | x :: ps,v :: vs,n=>by
  simp only[vbF];have:=ZpF (W:=W) (H:=H) (ps:=ps) (vs:=vs) (n:=max n (vb1 W H x v));omega
theorem ZpG {W H:Int}:∀ {ps:List Pane} {vs:List Int} {i:Nat} {x:Pane} {v n:Int},ps[i]?=some x→vs[i]?=some v→vb1 W H x v≤vbF W H ps vs n
 | y :: ps,u :: vs,0,x,v,n,h1,h2=>by
  simp only[K5,Option.some.injEq] at h1 h2;subst h1 h2;simp only[vbF];have:=ZpF (W:=W) (H:=H) (ps:=ps) (vs:=vs) (n:=max n (vb1 W H y u));omega
 | y :: ps,u :: vs,i+1,x,v,n,h1,h2=>by
  simp only[KG] at h1 h2;simp only[vbF];exact ZpG h1 h2
 | [],_,_,_,_,_,h1,_=>by simp at h1
 | _ :: _,[],_,_,_,_,_,h2=>by simp at h2
theorem Zji:∀ (l:List (Int×Int)),l≠[]→(∀ q∈l,1≤q.2)→∃ q∈l,∀ r∈l,r.1*q.2≤q.1*r.2
 | [],h,_=>absurd rfl h
 | [q],_,_=>⟨q,by simp,fun r hr=>by simp at hr;subst hr;omega⟩
 | q :: p :: l,_,h=>by
  obtain⟨m,hm,aa⟩:=Zji (p :: l) (by simp) fun r hr=>h r (by simp[hr]);have hq:=h q (by simp);have ab:=h m (by simp[hm]);by_cases hc:q.1*m.2≤m.1*q.2
  ·refine⟨m,by simp[hm],fun r hr=>?_⟩;rcases Ke.1 hr with rfl | hr
   ·exact hc
   ·exact aa r hr
  ·refine⟨q,by simp,fun r hr=>?_⟩;rcases Ke.1 hr with rfl | hr
   ·omega
   ·have h1:=aa r hr;have ad:=h r (by simp[hr]);have h3:r.1*m.2*q.2≤m.1*r.2*q.2:=Int.mul_le_mul_of_nonneg_right h1 (by omega);have h4:m.1*q.2*r.2≤q.1*m.2*r.2:=Int.mul_le_mul_of_nonneg_right (by omega) (by omega);have h5:r.1*q.2*m.2≤q.1*r.2*m.2:=by
     have e1:r.1*q.2*m.2=r.1*m.2*q.2:=by rw[LU,Kab q.2,← LU]
     have e2:q.1*r.2*m.2=q.1*m.2*r.2:=by rw[LU,Kab r.2,← LU]
     have e3:m.1*r.2*q.2=m.1*q.2*r.2:=by rw[LU,Kab r.2,← LU]
     rw[e1,e2];rw[e3] at h3;omega
    exact Int.le_of_mul_le_mul_right h5 (by omega)
theorem ZmA {g:Nat→Int} {m a B:Int} (ha:0≤a) (hm:m*a≤B):∀ {n:Nat},(∀ i,1≤i→i≤n→g i*a≤B)→mx g m n*a≤B
 | 0,_=>hm
 | n+1,hg=>by
  have h1:=ZmA ha hm (n:=n) fun i h1 h2=>hg i h1 (by omega);have h2:=hg (n+1) (by omega) (by omega);simp only[mx];rcases Int.le_total (mx g m n) (g (n+1)) with h | h
  ·rw[Int.max_eq_right h];exact h2
  ·rw[Int.max_eq_left h];exact h1
theorem Zjj {g:Nat→Int} {m:Int}:∀ {n:Nat},m≤mx g m n∧∀ i,1≤i→i≤n→g i≤mx g m n
 | 0=>⟨Int.le_refl _,fun i h1 h2=>by omega⟩
 | n+1=>by
  obtain⟨h1,h2⟩:=Zjj (g:=g) (m:=m) (n:=n);simp only[mx];refine⟨by omega,fun i h3 h4=>?_⟩;by_cases hi:i=n+1
  ·subst hi;omega
  ·have:=h2 i h3 (by omega);omega
theorem V_mul {lf:Nat→Nat→Int} {a v:Int} (ha:0≤a) (hv:0≤v) (aa:∀ w h,1≤w→1≤h→lf w h*a≤v*((w*h:Nat):Int)):∀ (n w h:Nat),w+h≤n→V lf w h*a≤v*((w*h:Nat):Int):=by
 have zero:∀ w h:Nat,0≤v*((w*h:Nat):Int):=fun w h=>LQ hv (by omega);intro n
 induction n with
 | zero=>intro w h hn;rw[Zcp (by omega),Int.zero_mul];exact zero w h
 | succ n ih=>
  intro w h hn;by_cases h0:w=0∨h=0
  ·rw[Zcp h0,Int.zero_mul];exact zero w h
  ·rw[ZmB (by omega) (by omega)];unfold ZbX;refine ZmA ha (ZmA ha (aa w h (by omega) (by omega)) fun i h1 h2=>?_) fun i h1 h2=>?_
   ·have p1:=ih i h (by omega);have p2:=ih (w-i) h (by omega);have e:w*h=i*h+(w-i)*h:=by rw[← KA];congr 1;omega
    show (V lf i h+V lf (w-i) h)*a≤_;rw[e,Int.add_mul,Int.natCast_add,Int.mul_add];omega
   ·have p1:=ih w i (by omega);have p2:=ih w (h-i) (by omega);have e:w*h=w*i+w*(h-i):=by rw[← Nat.mul_add];congr 1;omega
    show (V lf w i+V lf w (h-i))*a≤_;rw[e,Int.add_mul,Int.natCast_add,Int.mul_add];omega
theorem ZbW {ps:List Pane} {i w h:Int} {t:Bool} (hf:Qi ps i t w h=true):∃ q,ps[i.toNat]?=some q∧0≤i∧q.W*q.H=w*h:=by
 unfold Qi at hf;rw[Kb,Kq] at hf;obtain⟨h0,hf⟩:=hf;cases hq:ps[i.toNat]? with
 | none=>rw[hq] at hf;cases hf
 | some q=>
  rw[hq] at hf;refine⟨q,rfl,h0,?_⟩;cases t with
  | true=>
   simp only[Kl,Kb,Kq] at hf;rw[← hf.1.2,← hf.2,Kab]
  | false=>
   simp only[Ka,Kj,Kq] at hf;rw[← hf.1,← hf.2]
theorem ZpH {ps:List Pane} {w h i v:Int} {t:Bool} {s:Lf}:s.2.2.2≤(lf1 ps w h i v t s).2.2.2∧(Qi ps i t w h=true→v≤(lf1 ps w h i v t s).2.2.2):=by
 unfold lf1;split
 ·rename_i hc;exact⟨by simp only;omega,fun _=>by simp only;omega⟩
 ·rename_i hc;exact⟨Int.le_refl _,fun hf=>by have:¬s.2.2.2<v:=fun h=>hc ⟨h,hf⟩;omega⟩
theorem ZpI {ps:List Pane} {w h:Int}:∀ {vs:List Int} {k:Nat} {s:Lf},s.2.2.2≤(lfF ps w h k vs s).2.2.2∧∀ (i:Nat) (v:Int) (t:Bool),vs[i]?=some v→Qi ps ((k+i:Nat):Int) t w h=true→v≤(lfF ps w h k vs s).2.2.2
 | [],k,s=>⟨Int.le_refl _,fun i v t h=>by simp at h⟩
 | x :: vs,k,s=>by
  simp only[lfF];have a1:=ZpH (ps:=ps) (w:=w) (h:=h) (i:=k) (v:=x) (t:=false) (s:=s);have a2:=ZpH (ps:=ps) (w:=w) (h:=h) (i:=k) (v:=x) (t:=true) (s:=lf1 ps w h k x false s);obtain⟨b1,b2⟩:=ZpI (ps:=ps) (w:=w) (h:=h) (vs:=vs) (k:=k+1) (s:=lf1 ps w h k x true (lf1 ps w h k x false s));refine⟨by omega,fun i v t hv hf=>?_⟩;cases i with
  | zero=>
   simp only[K5,Option.some.injEq] at hv;subst hv;rw[Lx] at hf;cases t with
   | false=>have:=a1.2 hf;omega
   | true=>have:=a2.2 hf;omega
  | succ i=>
   simp only[KG] at hv;exact b2 i v t hv (by rwa [show k+1+i=k+(i+1) by omega])
theorem V_cut {lf:Nat→Nat→Int} {w h:Nat} (hh:1≤h):∀ c,1≤c→c<w→V lf c h+V lf (w-c) h≤V lf w h:=fun c h1 h2=>by
 have aa:∀ c,1≤c→c≤w / 2→V lf c h+V lf (w-c) h≤V lf w h:=fun c h1 h2=>by
  rw[ZmB (w:=w) (by omega) hh];unfold ZbX;have a1:=(Zjj (g:=fun x=>V lf x h+V lf (w-x) h) (m:=lf w h) (n:=w / 2)).2 c h1 h2;have a2:=(Zjj (g:=fun y=>V lf w y+V lf w (h-y)) (m:=mx (fun x=>V lf x h+V lf (w-x) h) (lf w h) (w / 2)) (n:=h / 2)).1;omega
 by_cases hc:c≤w / 2
 ·exact aa c h1 hc
 ·have:=aa (w-c) (by omega) (by omega);rw[show w-(w-c)=c by omega] at this;omega
theorem ZpJ {lf:Nat→Nat→Int} {w h:Nat} (hw:1≤w):∀ c,1≤c→c<h→V lf w c+V lf w (h-c)≤V lf w h:=fun c h1 h2=>by
 have aa:∀ c,1≤c→c≤h / 2→V lf w c+V lf w (h-c)≤V lf w h:=fun c h1 h2=>by
  rw[ZmB hw (h:=h) (by omega)];unfold ZbX;have a1:=(Zjj (g:=fun y=>V lf w y+V lf w (h-y)) (m:=mx (fun x=>V lf x h+V lf (w-x) h) (lf w h) (w / 2)) (n:=h / 2)).2 c h1 h2;omega
 by_cases hc:c≤h / 2
 ·exact aa c h1 hc
 ·have:=aa (h-c) (by omega) (by omega);rw[show h-(h-c)=c by omega] at this;omega
theorem JB {ps:List Pane} {vs:List Int} (hl:vs.length=ps.length) (hv:∀ v∈vs,0≤v∧v≤1000):∀ (b:BT) (w h:Nat) (X Y:Int),1≤w→1≤h→Xi ps b w h=true→UD ((plc b X Y w h).map (Zed vs))≤vT ps vs w h
 | .waste,w,h,X,Y,_,_,_=>by
  simp only[plc,Lk,UD];exact(V_bd (Zkc (ps:=ps) hv) (w+h) w h (Kf _)).1
 | .pane i t,w,h,X,Y,hw,hh,hf=>by
  simp only[Xi] at hf;obtain⟨q,h1,h2,_⟩:=ZbW hf;have ae:i.toNat<vs.length:=by rw[hl];exact(Kd.1 h1).1
  obtain⟨v,ad⟩:=Z1 ae;simp only[plc,Ko,Lk,UD,Zed,Int.add_zero];rw[K8,ad,Option.getD_some];have a1:=(ZpI (ps:=ps) (w:=(w:Int)) (h:=(h:Int)) (vs:=vs) (k:=0) (s:=(0,0,false,0))).2 i.toNat v t ad (by rw[KP,Int.toNat_of_nonneg h2];exact hf)
  change v≤lfV ps vs w h at a1
  unfold vT;rw[ZmB hw hh];unfold ZbX;have a2:=(Zjj (g:=fun x=>V (lfV ps vs) x h+V (lfV ps vs) (w-x) h) (m:=lfV ps vs w h) (n:=w / 2)).1;have a3:=(Zjj (g:=fun y=>V (lfV ps vs) w y+V (lfV ps vs) w (h-y)) (m:=mx (fun x=>V (lfV ps vs) x h+V (lfV ps vs) (w-x) h) (lfV ps vs w h) (w / 2)) (n:=h / 2)).1;omega
 | .cut d c l r,w,h,X,Y,hw,hh,hf=>by
  cases d with
  | true=>
   simp only[Xi,Kl,Kb,Kq] at hf;obtain⟨⟨hc,ab⟩,aa⟩:=hf;obtain⟨n,rfl⟩:∃ n:Nat,c=(n:Int):=⟨c.toNat,by omega⟩
   have e:(w:Int)-n=((w-n:Nat):Int):=by omega
   rw[e] at aa;simp only[plc,Kl,Le,Zhj];have a1:=JB hl hv l n h X Y (by omega) hh ab;have a2:=JB hl hv r (w-n) h (X+n) Y (by omega) hh aa;rw[e];have:=V_cut (lf:=lfV ps vs) (w:=w) hh n (by omega) (by omega);unfold vT at *;omega
  | false=>
   simp only[Xi,Ka,Kj,Kb,Kq] at hf;obtain⟨⟨hc,ab⟩,aa⟩:=hf;obtain⟨n,rfl⟩:∃ n:Nat,c=(n:Int):=⟨c.toNat,by omega⟩
   have e:(h:Int)-n=((h-n:Nat):Int):=by omega
   rw[e] at aa;simp only[plc,Ka,Kj,Le,Zhj];have a1:=JB hl hv l w n X Y hw (by omega) ab;have a2:=JB hl hv r w (h-n) X (Y+n) hw (by omega) aa;rw[e];have:=ZpJ (lf:=lfV ps vs) (h:=h) hw n (by omega) (by omega);unfold vT at *;omega
theorem Znm {ps:List Pane} {vs:List Int} {i:Nat} {x:Pane} {v:Int} (h1:ps[i]?=some x) (h2:vs[i]?=some v):(v,x.W*x.H)∈List.zipWith (fun (x:Pane) v=>(v,x.W*x.H)) ps vs:=by
 refine Kg (i:=i) ?_;rw[List.getElem?_zipWith,h1,h2]
theorem ZpK {W H:Nat} {ps:List Pane} {vs:List Int} (ho:okP ps) (hl:vs.length=ps.length) (hv:Zh6 vs):vT ps vs W H≤vbF W H ps vs 0:=by
 have ah:∀ v∈vs,0≤v∧v≤1000:=fun v h=>by have:=hv v h;omega
 rcases ps with _ | ⟨p0,ai⟩
 ·have aj:vs=[]:=Kh (by simpa using hl);subst aj;have h0:=V_mul (lf:=lfV [] []) (a:=1) (v:=0) (by omega) (by omega) (fun w h _ _=>by
   have:lfV [] [] w h=0:=rfl;rw[this];omega) (W+H) W H (Kf _)
  have:vbF (W:Int) H [] [] 0=0:=rfl;unfold vT;omega
 ·obtain⟨ps,ad⟩:∃ ps,ps=p0 :: ai:=⟨_,rfl⟩
  rw[← ad] at ho hl ⊢;obtain⟨x0,ak⟩:=Z1 (l:=ps) (k:=0) (by rw[ad];simp);obtain⟨v0,ae⟩:=Z1 (l:=vs) (k:=0) (by rw[hl,ad];simp);have hz:=Znm ak ae;have aa:∀ x∈ps,1≤x.W*x.H:=fun x hx=>by
   have:=ho x hx;have:=LZ (a:=1) (b:=1) (c:=x.W) (d:=x.H) (by omega) (by omega) (by omega) (by omega);omega
  obtain⟨q,hq,af⟩:=Zji (List.zipWith (fun (x:Pane) v=>(v,x.W*x.H)) ps vs) (fun h=>by rw[h] at hz;cases hz) fun r hr=>by
   obtain⟨i,hi⟩:=List.mem_iff_getElem?.1 hr;rw[List.getElem?_zipWith] at hi;cases h1:ps[i]? with
   | none=>simp[h1] at hi
   | some x=>cases h2:vs[i]? with
    | none=>simp[h1,h2] at hi
    | some v=>simp only[h1,h2,Option.some.injEq] at hi;subst hi;exact aa x (Kg h1)
  obtain⟨i,hi⟩:=List.mem_iff_getElem?.1 hq;rw[List.getElem?_zipWith] at hi;cases h1:ps[i]? with
  | none=>simp[h1] at hi
  | some x=>cases h2:vs[i]? with
   | none=>simp[h1,h2] at hi
   | some v=>
    simp only[h1,h2,Option.some.injEq] at hi;subst hi;have ha:=aa x (Kg h1);have ag:=ah v (Kg h2);have hk:=V_mul (lf:=lfV ps vs) (a:=x.W*x.H) (v:=v) (by omega) ag.1 (fun w h hw hh=>by
     have ab:=Zjm (ps:=ps) (w:=(w:Int)) (h:=(h:Int)) (vs:=vs) (k:=0) (s:=(0,0,false,0)) (.inr rfl)
     change (Uu ps vs w h).1=1∨Uu ps vs w h=(0,0,false,0) at ab
     rcases ab with ab | ab
     ·obtain⟨f1,f2,f3⟩:=Zox ab;obtain⟨z,g1,g2,g3⟩:=ZbW f3;have:=af _ (Znm g1 f1);simp only at this;rw[g3] at this
      change lfV ps vs w h*_≤_ at this
      rw[Int.natCast_mul];exact this
     ·have:lfV ps vs w h=0:=by unfold lfV;rw[ab]
      rw[this,Int.zero_mul];exact LQ ag.1 (by omega)) (W+H) W H (Kf _)
    have hb:=ZpG (W:=(W:Int)) (H:=(H:Int)) (n:=0) h1 h2;have hd:vT ps vs W H≤vb1 W H x v:=by
     unfold vb1;rw[L2 (LQ (LQ ag.1 (by omega)) (by omega))];refine Int.le_ediv_of_mul_le (by omega) ?_;unfold vT;rw[LU,← Int.natCast_mul];exact hk
    omega
def vbI (k:ZM) (vs:List Int):Int:=if Uw k vs then vbF k.W k.H k.Panes vs 0 else -1
theorem vb1_bd {W H:Int} (hW:1≤W∧W≤16) (hH:1≤H∧H≤16) {x:Pane} {v:Int} (hx:1≤x.W∧x.W≤200∧1≤x.H∧x.H≤200) (hv:1≤v∧v≤1000):0≤vb1 W H x v∧vb1 W H x v≤256000∧0≤v*W∧v*W≤16000∧0≤v*W*H∧v*W*H≤256000∧1≤x.W*x.H∧x.W*x.H≤40000:=by
 have a1:v*W≤1000*16:=LZ hv.2 hW.2 (by omega) (by omega);have a0:0≤v*W:=LQ (by omega) (by omega);have a2:v*W*H≤16000*16:=LZ (by omega) hH.2 (by omega) (by omega);have a3:0≤v*W*H:=LQ a0 (by omega);have b1:1*1≤x.W*x.H:=LZ hx.1 hx.2.2.1 (by omega) (by omega);have b2:x.W*x.H≤200*200:=LZ hx.2.1 hx.2.2.2 (by omega) (by omega);unfold vb1;rw[L2 a3];have c0:=Int.ediv_nonneg a3 (show 0≤x.W*x.H by omega);have c1:=Int.ediv_le_self (x.W*x.H) a3;omega
theorem Ze5 (kW kH:Int) (kP:List Pane) (vs:List Int) (hl:vs.length≤1000):Zu Xs Ms YC [(.d (.agg [J kW,J kH,.sl (kP.map Pane.enc)])),.d (.sl (vs.map Qs))] []=some ((.d (J (vbI (ZM.mk kW kH kP) vs))),[]):=by
 have e1:=ZbY kW kH kP vs hl;unfold vbI;by_cases ht:Uw (ZM.mk kW kH kP) vs
 ·rw[K2 ht] at e1;rw[Kt ht];have hv:=ht.2.2;have af:vs.length=kP.length:=ht.2.1.2;have ho:okP kP:=Zg7 ht.1.1.2.2.2.2.2;have hW:1≤kW∧kW≤16:=⟨ht.1.1.1,ht.1.2.1⟩
  have hH:1≤kH∧kH≤16:=⟨ht.1.1.2.2.1,ht.1.2.2⟩
  refine cE ?_;simp +contextual -implicitDefEqProofs (maxSteps:=10^7) only[go_sem,seval,↓gZ,V0,e1];refine LO (α:=Nat) (fun i=>[(15,.d (J (i:Int))),(5,.d (J (vbF kW kH (kP.take i) (vs.take i) 0)))]) (fun _=>[]) (fun i=>i≤kP.length) (fun i=>kP.length-i) 0 (by omega) ?_;intro i hi ih;by_cases ad:i<kP.length
  ·obtain⟨⟨xW,xH,xT,xK⟩,hx⟩:=Z1 ad;have aa:i<vs.length:=by omega
   obtain⟨v,ab⟩:=Z1 aa;have hw:=ZE (k:=i) (by omega);have ag:=hv v (Kg ab);have ae:=ho _ (Kg hx);have hb:=vb1_bd hW hH ae ag;have hn:=Zls (W:=kW) (H:=kH) (n:=0) hx ab;simp only at hb ae;unfold vb1 at hb hn;simp only at hb hn;have w1:=wi (v*kW) (by omega) (by omega);have w2:=wi (v*kW*kH) (by omega) (by omega);have w3:=wi (xW*xH) (by omega) (by omega);have w4:=wi ((v*kW*kH).tdiv (xW*xH)) (by omega) (by omega);have w5:¬xW*xH=0:=by omega
   simp +contextual -implicitDefEqProofs (maxSteps:=10^7) only[go_sem,seval,↓gZ,hx,ad,aa,ab,hw,w1,w2,w3,w4,w5];refine ih (i+1) _ (by omega) (by omega) ?_;simp +contextual -implicitDefEqProofs (maxSteps:=10^7) only[go_sem,seval,↓gZ,hn]
  ·have:i=kP.length:=by omega
   subst this;have ah:vs.take kP.length=vs:=by rw[← af,KZ]
   simp +contextual -implicitDefEqProofs (maxSteps:=10^7) only[go_sem,seval,↓gZ,KZ,ah]
 ·rw[Kv ht] at e1;rw[Kp ht];refine cE ?_;simp +contextual -implicitDefEqProofs (maxSteps:=10^7) only[go_sem,seval,↓gZ,V0,e1]
def pvI (k:ZM) (p:Zs) (vs:List Int):Int:=if Uk k p=true then UD (((X5 k p).filterMap XH).map (Zed vs)) else -1
theorem Ze6 (kW kH:Int) (kP:List Pane) (p:Zs) (vs:List Int) (hl:vs.length=kP.length) (aa:Zh6 vs):Zu Xs Ms Xk [(.d (.agg [J kW,J kH,.sl (kP.map Pane.enc)])),.d p.enc,.d (.sl (vs.map Qs))] []=some ((.d (J (pvI (ZM.mk kW kH kP) p vs))),[]):=by
 unfold pvI;by_cases hv:Uk (ZM.mk kW kH kP) p=true
 ·rw[Kt hv];exact Zhk kW kH kP p vs hv hl aa
 ·rw[Kp hv];have e1:=Ut kW kH kP p;rw[Lz] at hv;rw[hv] at e1;obtain⟨o,a,q,t,ks⟩:=p;rw[Zs.enc_mk] at e1 ⊢;refine cE ?_;simp +contextual -implicitDefEqProofs (maxSteps:=10^7) only[go_sem,seval,↓gZ,Wt,e1]
theorem pvI_le {k:ZM} {vs:List Int} (ht:Uw k vs) (p:Zs):pvI k p vs≤bvI k vs:=by
 have ab:0≤bvI k vs:=by
  unfold bvI;rw[Kt ht];exact(V_bd (Zkc (ps:=k.Panes) fun v hv=>by have:=ht.2.2 v hv;omega) _ _ _ (Kf _)).1
 unfold pvI;by_cases hv:Uk k p=true
 ·rw[Kt hv];obtain⟨b,hb,hp,hw,hc,hf,aa⟩:=JV hv;obtain⟨W,H,h1,h2,h3,h4,h5,h6⟩:=ZbA ht;rw[aa,ZdO];unfold bvI;rw[Kt ht,h1,h2,K3,K3];rw[h1,h2] at hf;exact JB ht.2.1.2 (fun v hv=>by have:=ht.2.2 v hv;omega) b W H 0 0 h3 h5 hf
 ·rw[Kp hv];omega
theorem Zec (aa:List UInt8):Zu Xs Ms Va [.d (.sl (aa.map Wa))] []=some ((.d (.bool true)),[]):=by
 by_cases ab:(1048576:Int)<aa.length
 ·refine cE ?_;simp +contextual -implicitDefEqProofs (maxSteps:=10^7) only[go_sem,seval,↓gZ,XT,ab]
 ·obtain⟨W,H,ps,vs,hp,hv,ed⟩:=Zcq aa;have e1:=Zhi W H ps vs (by omega);have e2:=Zg4 W H ps vs (by omega) (by omega);by_cases ht:Uw ⟨W,H,ps⟩ vs
  ·have ai:0≤bvI ⟨W,H,ps⟩ vs:=by
    unfold bvI;rw[Kt ht];exact(V_bd (Zkc (ps:=ps) fun v hv=>by have:=ht.2.2 v hv;omega) _ _ _ (Kf _)).1
   have ae:¬bvI ⟨W,H,ps⟩ vs<0:=by omega
   have e3:=Ze4 W H ps (by omega);have e4:=Ze5 W H ps vs (by omega);have af:∀ p,pvI ⟨W,H,ps⟩ p vs≤bvI ⟨W,H,ps⟩ vs:=fun p=>pvI_le ht p;have e5:∀ p:Zs,Zu Xs Ms Xk [.d (.agg [J W,J H,.sl (ps.map Pane.enc)]),.d p.enc,.d (.sl (vs.map Qs))] []=some ((.d (J (pvI ⟨W,H,ps⟩ p vs))),[]):=fun p=>Ze6 W H ps p vs ht.2.1.2 ht.2.2;have ag:bvI ⟨W,H,ps⟩ vs≤vbI ⟨W,H,ps⟩ vs:=by
    obtain⟨W',H',h1,h2,_⟩:=ZbA ht;unfold bvI vbI;rw[Kt ht,Kt ht];simp only at h1 h2 ⊢;subst h1 h2;rw[K3,K3];exact ZpK (Zg7 ht.1.1.2.2.2.2.2) ht.2.1.2 ht.2.2
   have aj:(shP ⟨W,H,ps⟩).length≤7:=by
    unfold shP;split
    ·rw[KQ];exact Lv (Znl _) hp
    ·simp
   generalize shP ⟨W,H,ps⟩=S at *;generalize bvI ⟨W,H,ps⟩ vs=bv at *;generalize vbI ⟨W,H,ps⟩ vs=vb at *;refine cE ?_;simp +contextual -implicitDefEqProofs (maxSteps:=10^7) only[go_sem,seval,↓gZ,XT,ab,ed,e1,e2,ae,e3];refine LO (α:=Nat) (fun i=>[(7,.d (J (i:Int)))]) (fun _=>[]) (fun i=>i≤S.length) (fun i=>S.length-i) 0 (by omega) ?_;intro i hi ih;by_cases ad:i<S.length
   ·obtain⟨p,hx⟩:=Z1 ad;have hw:=ZE (k:=i) (by omega);have e6:=e5 p;have ah:¬bv<pvI ⟨W,H,ps⟩ p vs:=by have:=af p;omega
    obtain⟨o,a,q,t,ks⟩:=p;rw[Zs.enc_mk] at e6;simp +contextual -implicitDefEqProofs (maxSteps:=10^7) only[go_sem,seval,↓gZ,hx,ad,hw,e6,ah];refine ih (i+1) _ (by omega) (by omega) ?_;simp +contextual -implicitDefEqProofs (maxSteps:=10^7) only[go_sem,seval,↓gZ]
   ·simp +contextual -implicitDefEqProofs (maxSteps:=10^7) only[go_sem,seval,↓gZ,ad,e4,ag]
  ·have hb:bvI ⟨W,H,ps⟩ vs=-1:=by unfold bvI;rw[Kp ht]
   rw[hb] at e1 e2;refine cE ?_;simp +contextual -implicitDefEqProofs (maxSteps:=10^7) only[go_sem,seval,↓gZ,XT,ab,ed,e1,e2]
end Go.Proofs.Ytefabmohhbhlfaa
