/- Own text. -/
import Derived.Test.YtefabmohhbhlfaaCCode
import Derived.Test.YtefabmohhbhlfaaAbsParts
import Derived.Test.YtefabmohhbhlfaaAbsOkD
import Derived.Test.YtefabmohhbhlfaaCC14
import Derived.Test.YtefabmohhbhlfaaCC17
namespace Go.Proofs.Ytefabmohhbhlfaa
open Go Go.Abs Go.Abs.E Go.Abs.L
open Nat (reduceMul reduceSub reduceLeDiff reduceEqDiff)
open Int (reduceLE reduceEq reduceToNat reduceNeg)
set_option linter.unusedSimpArgs false
set_option linter.unusedVariables false
set_option maxRecDepth 20000
set_option maxHeartbeats 4000000
theorem Zp6 {k:ZO} {p:Zl} {b:BT} (hb:XH p=some b):VG k p=true↔VW k∧b.cnt≤255∧QC k.Panes b k.W k.H=true:=by
 unfold VG;rw[hb];simp only[Kb,Kl,and_assoc]
end Go.Proofs.Ytefabmohhbhlfaa
namespace Go.Proofs.Ytefabmohhbhlfaa
open Go Go.Abs Go.Abs.E Go.Abs.L
open Nat (reduceMul reduceSub reduceLeDiff reduceEqDiff)
open Int (reduceLE reduceEq reduceToNat reduceNeg)
set_option linter.unusedSimpArgs false
set_option linter.unusedVariables false
set_option maxRecDepth 20000
set_option maxHeartbeats 4000000
def ZiY (f:Int→Int) (l:List Int):Prop:=l.Pairwise fun a b=>f b≤f a
theorem Zmz {f:Int→Int} {l:List Int} {x:Int} (hs:ZiY f l):∀ {n:Nat},n≤l.length→(∀ (j:Nat) (y:Int),j<atS f l x n→l[j]?=some y→f x≤f y)∧(∀ (j:Nat) (y:Int),atS f l x n≤j→j<n→l[j]?=some y→f y<f x)
 | 0,_=>⟨fun j y h=>by simp[atS] at h,fun j y _ h=>by omega⟩
 | n+1,hn=>by
  obtain⟨z,hz⟩:=ZE (l:=l) (k:=n) (by omega);have aa:l.getD n 0=z:=by rw[Lu,hz];rfl
  simp only[atS,aa];by_cases hc:f z<f x
  ·rw[Ko hc];obtain⟨h1,h2⟩:=Zmz hs (x:=x) (n:=n) (by omega);refine⟨h1,fun j y h3 h4 h5=>?_⟩;by_cases hj:j=n
   ·subst hj;rw[hz] at h5;cases h5;exact hc
   ·exact h2 j y h3 (by omega) h5
  ·rw[Kn hc];refine⟨fun j y h3 h5=>?_,fun j y h3 h4=>by omega⟩;by_cases hj:j=n
   ·subst hj;rw[hz] at h5;cases h5;omega
   ·obtain⟨q1,q2⟩:=Kc.1 h5;obtain⟨q3,q4⟩:=Kc.1 hz;have:=List.pairwise_iff_getElem.1 hs j n q1 q3 (by omega);rw[q2,q4] at this;omega
theorem Zrd {f:Int→Int} {l:List Int} (x:Int) (hs:ZiY f l):ZiY f (Zk6 f l x):=by
 obtain⟨h1,h2⟩:=Zmz hs (x:=x) (n:=l.length) (Kh _);have aa:=hs;unfold ZiY at aa;rw[← Ll (atS f l x l.length) l,K5] at aa;have ad:=Zra f l x l.length;unfold Zk6 ZiY;rw[K5];refine⟨aa.1,K7.2 ⟨fun b hb=>?_,aa.2.1⟩,fun a ha b hb=>?_⟩
 ·obtain⟨i,hi⟩:=List.mem_iff_getElem?.1 hb;rw[KY] at hi;have:=h2 _ b (Nat.le_add_right _ i) (Kc.1 hi).1 hi;omega
 ·have ab:f x≤f a:=by
   obtain⟨i,hi⟩:=List.mem_iff_getElem?.1 ha;rw[KS] at hi;split at hi
   ·exact h1 i a (by assumption) hi
   ·cases hi
  rcases Kf.1 hb with rfl | hb
  ·exact ab
  ·exact aa.2.2 a ha b hb
theorem ZeT (f:Int→Int):∀ n,ZiY f (Qf f n)
 | 0=>List.Pairwise.nil
 | n+1=>Zrd _ (ZeT f n)
def okJ (ps:List Pane) (W H:Int) (i:Int):Prop:=(∃ m:Nat,i=(m:Int)∧m<ps.length)∧1≤wI ps i∧wI ps i≤W∧1≤hI ps i∧hI ps i≤H
theorem ZmA {ps:List Pane} {W H:Int} {i:Int} {l:List Int} {w h:Int} (hl:∀ j∈l,okJ ps W H j) (h1:wI ps i≤w) (h2:hI ps i≤h):tkR ps (i :: l) w h=i :: tkR ps l (w-wI ps i) h:=by
 simp only[tkR];rw[Kn (by omega)];split
 ·rename_i hw;rw[hw,Int.sub_self];cases l with
  | nil=>rfl
  | cons j l=>
   have:=hl j (by simp);simp only[tkR];rw[Ko (.inl (by unfold okJ at this;omega))]
 ·rfl
theorem Zre {ps:List Pane} {W H:Int}:∀ {n:Nat} {l:List Int},(∀ j∈l,okJ ps W H j)→tkS ps W n l 0=[]
 | 0,_,_=>rfl
 | _+1,[],_=>rfl
 | n+1,i :: l,hl=>by
  have:=hl i (by simp);simp only[tkS];rw[Ko (by unfold okJ at this;omega)]
theorem ZbH {ps:List Pane} {W H:Int} {l:List Int} (n:Nat) (hl:∀ j∈l,okJ ps W H j):∀ j∈l.drop n,okJ ps W H j:=fun j hj=>hl j (L1 hj)
theorem Zh0 {ps:List Pane} {W H:Int} {i:Int} {l:List Int} {h:Int} {n:Nat} (hi:okJ ps W H i) (hl:∀ j∈l,okJ ps W H j) (h2:hI ps i≤h):tkS ps W (n+1) (i :: l) h=(i :: tkR ps l (W-wI ps i) (hI ps i)) :: tkS ps W n (l.drop (tkR ps l (W-wI ps i) (hI ps i)).length) (h-hI ps i):=by
 have hr:=ZmA (l:=l) hl hi.2.2.1 (Kae (hI ps i));simp only[tkS];rw[Kn (by omega),hr];split
 ·rename_i hh;rw[hh,Int.sub_self,Zre (ZbH _ hl)]
 ·simp
theorem ZmB {ps:List Pane} {W H:Int}:∀ {n m:Nat} {l:List Int} {h:Int},(∀ j∈l,okJ ps W H j)→l.length≤n→l.length≤m→tkS ps W n l h=tkS ps W m l h
 | n,m,[],h,_,_,_=>by cases n<;>cases m<;>rfl
 | 0,m,i :: l,h,_,h1,_=>by simp at h1
 | n+1,0,i :: l,h,_,_,h2=>by simp at h2
 | n+1,m+1,i :: l,h,hl,h1,h2=>by
  have hi:=hl i (by simp);have aa : ∀ j∈l,okJ ps W H j:=fun j hj=>hl j (by simp[hj]);by_cases hc:hI ps i≤h
  ·rw[Zh0 hi aa hc,Zh0 hi aa hc];congr 1
   simp only[Kg] at h1 h2;exact ZmB (ZbH _ aa) (by rw[KB];omega) (by rw[KB];omega)
  ·simp only[tkS];rw[Ko (by omega),Ko (by omega)]
theorem ZmC {ps:List Pane} {W H:Int}:∀ {n m:Nat} {l:List Int},(∀ j∈l,okJ ps W H j)→l.length≤n→l.length≤m→shS ps W H n l=shS ps W H m l
 | n,m,[],_,_,_=>by cases n<;>cases m<;>rfl
 | 0,m,i :: l,_,h1,_=>by simp at h1
 | n+1,0,i :: l,_,_,h2=>by simp at h2
 | n+1,m+1,i :: l,hl,h1,h2=>by
  have hi:=hl i (by simp);have hp:=Zlb (ps:=ps) (W:=W) (i:=i) (l:=l) (h:=H) (n:=l.length) hi.2.2.1 hi.2.2.2.2;simp only[Kg] at h1 h2;simp only[shS,Kg];congr 1
  exact ZmC (ZbH _ hl) (by rw[KB,Kg];omega) (by rw[KB,Kg];omega)
def S0 (ps:List Pane) (W:Int) (l:List Int) (a:Int):List (List Int):=tkS ps W l.length l a
def H0 (ps:List Pane) (W H:Int) (l:List Int):List (List (List Int)):=shS ps W H l.length l
theorem Zlc {ps:List Pane} {W H:Int} {i:Int} {l:List Int} {h:Int} (hi:okJ ps W H i) (hl:∀ j∈l,okJ ps W H j) (h2:hI ps i≤h):S0 ps W (i :: l) h=(i :: tkR ps l (W-wI ps i) (hI ps i)) :: S0 ps W (l.drop (tkR ps l (W-wI ps i) (hI ps i)).length) (h-hI ps i):=by
 unfold S0;rw[Kg,Zh0 hi hl h2];congr 1
 exact ZmB (ZbH _ hl) (by rw[KB];omega) (Kh _)
theorem ZoV {ps:List Pane} {W H:Int} {i:Int} {l:List Int} (hi:okJ ps W H i) (hl:∀ j∈l,okJ ps W H j):H0 ps W H (i :: l)=S0 ps W (i :: l) H :: H0 ps W H ((i :: l).drop (S0 ps W (i :: l) H).flatten.length):=by
 have hp:=Zlb (ps:=ps) (W:=W) (i:=i) (l:=l) (h:=H) (n:=l.length) hi.2.2.1 hi.2.2.2.2;have aa:∀ j∈i :: l,okJ ps W H j:=fun j hj=>by
  rcases Kf.1 hj with rfl | hj
  ·exact hi
  ·exact hl j hj
 unfold H0 S0;simp only[Kg,shS];congr 1
 exact ZmC (ZbH _ aa) (by rw[KB,Kg];omega) (Kh _)
theorem Zld {ps:List Pane} {W H:Int}:∀ {l:List Int} {row:List Int} {rows:List (List Int)} {r a h:Int},(∀ j∈l,okJ ps W H j)→ZiY (hI ps) l→(∀ j∈l,hI ps j≤h) →
  goL ps W H row rows r a l=(rows++[row++tkR ps l r h]++S0 ps W (l.drop (tkR ps l r h).length) a) :: H0 ps W H ((l.drop (tkR ps l r h).length).drop (S0 ps W (l.drop (tkR ps l r h).length) a).flatten.length)
 | [],row,rows,r,a,h,_,_,_=>by simp[goL,tkR,S0,tkS,H0,shS]
 | i :: t,row,rows,r,a,h,hl,hs,hh=>by
  have hi:=hl i (by simp);have aa : ∀ j∈t,okJ ps W H j:=fun j hj=>hl j (by simp[hj]);obtain⟨s1,s2⟩:=K7.1 hs;simp only[goL];by_cases c1:wI ps i≤r
  ·rw[Ko c1,Zld (h:=h) aa s2 (fun j hj=>hh j (by simp[hj])),ZmA aa c1 (hh i (by simp))];simp
  ·rw[Kn c1];have hR:tkR ps (i :: t) r h=[]:=by
    simp only[tkR];rw[Ko (.inl (by omega))]
   rw[hR];simp only[KH,Kag,Lf];by_cases c2:hI ps i≤a
   ·rw[Ko c2,Zld (h:=hI ps i) aa s2 s1,Zlc hi aa c2];simp only[KA,Kj,Kg,Lz,KL,K4,Ly];congr 2
   ·rw[Kn c2];have hS:S0 ps W (i :: t) a=[]:=by
     unfold S0;simp only[Kg,tkS];rw[Ko (by omega)]
    rw[hS];simp only[List.flatten_nil,KH,Kag,Lf];congr 1
    rw[Zld (h:=hI ps i) aa s2 s1,ZoV hi aa,Zlc hi aa hi.2.2.2.2];simp only[KA,Kj,Kg,KL,K4,Ly];congr 2
theorem shL_eq {ps:List Pane} {W H:Int} {l:List Int} (hl:∀ j∈l,okJ ps W H j) (hs:ZiY (hI ps) l):shL ps W H l=shS ps W H l.length l:=by
 change _=H0 ps W H l
 cases l with
 | nil=>rfl
 | cons i t=>
  have hi:=hl i (by simp);have aa : ∀ j∈t,okJ ps W H j:=fun j hj=>hl j (by simp[hj]);obtain⟨s1,s2⟩:=K7.1 hs;rw[shL,Zld (h:=hI ps i) aa s2 s1,ZoV hi aa,Zlc hi aa hi.2.2.2.2];simp only[KA,Kj,Kg,KL,K4,Ly];congr 2
theorem ZdZ (ps:List Pane) (W H:Int):∀ (l row:List Int) (rows:List (List Int)) (r a:Int),((goL ps W H row rows r a l).map List.flatten).flatten=rows.flatten++row++l
 | [],row,rows,r,a=>by simp[goL]
 | i :: l,row,rows,r,a=>by
  simp only[goL];split
  ·rw[ZdZ ps W H l];simp
  ·split
   ·rw[ZdZ ps W H l];simp
   ·rw[Kq,KA,ZdZ ps W H l];simp
theorem Zh1 (ps:List Pane) (W H:Int) (l:List Int):((shL ps W H l).map List.flatten).flatten=l:=by
 cases l with
 | nil=>rfl
 | cons i l=>rw[shL,ZdZ];simp
def htS (ps:List Pane) (s:List (List Int)):Prop:=∀ row∈s,row≠[]∧∀ j∈row,hI ps j≤hd0 ps row
theorem Zle {ps:List Pane} {W H:Int}:∀ {l row:List Int} {rows:List (List Int)} {r a:Int},ZiY (hI ps) l→htS ps (rows++[row])→(∀ j∈l,hI ps j≤hd0 ps row)→∀ s∈goL ps W H row rows r a l,htS ps s
 | [],row,rows,r,a,_,hr,_,s,hs=>by
  simp only[goL,Kv] at hs;subst hs;exact hr
 | i :: l,row,rows,r,a,hs',hr,hl,s,hs=>by
  obtain⟨s1,s2⟩:=K7.1 hs';have aa:=hr row (by simp);have one:htS ps [[i]]:=fun q hq=>by
   simp only[Kv] at hq;subst hq;exact⟨by simp,fun j hj=>by simp only[Kv] at hj;subst hj;exact Kae _⟩
  simp only[goL] at hs;split at hs
  ·have hh:hd0 ps (row++[i])=hd0 ps row:=by cases row with | nil=>exact absurd rfl aa.1 | cons x t=>rfl
   refine Zle s2 (fun q hq=>?_) (fun j hj=>by rw[hh];exact hl j (by simp[hj])) s hs;rcases Kd.1 hq with hq | hq
   ·exact hr q (by simp[hq])
   ·simp only[Kv] at hq;subst hq;refine⟨by simp,fun j hj=>?_⟩;rw[hh];rcases Kd.1 hj with hj | hj
    ·exact aa.2 j hj
    ·simp only[Kv] at hj;subst hj;exact hl j (by simp)
  ·split at hs
   ·refine Zle (row:=[i]) s2 (fun q hq=>?_) s1 s hs;rcases Kd.1 hq with hq | hq
    ·exact hr q hq
    ·exact one q hq
   ·rcases Kf.1 hs with rfl | hs
    ·exact hr
    ·exact Zle (row:=[i]) (rows:=[]) s2 one s1 s hs
theorem shL_ht {ps:List Pane} {W H:Int} {l:List Int} (hs:ZiY (hI ps) l):∀ s∈shL ps W H l,htS ps s:=fun s h=>by
 cases l with
 | nil=>cases h
 | cons i l=>
  obtain⟨s1,s2⟩:=K7.1 hs;refine Zle (row:=[i]) (rows:=[]) s2 (fun q hq=>?_) s1 s h;simp only[K4,Kv] at hq;subst hq;exact⟨by simp,fun j hj=>by simp only[Kv] at hj;subst hj;exact Kae _⟩
theorem ZmD {ps:List Pane} {i:Int} (hm:∃ m:Nat,i=(m:Int)∧m<ps.length) {w h:Int} (hw:wI ps i=w) (hh:hI ps i=h):Xq ps i false w h=true:=by
 obtain⟨m,rfl,hm⟩:=hm;obtain⟨z,hz⟩:=ZE hm;rw[ZdV hz] at hw;rw[Jv hz] at hh;unfold Xq;rw[Int.toNat_natCast,hz];simp[hw,hh]
theorem Zp7 {ps:List Pane} {i:Int} (hm:∃ m:Nat,i=(m:Int)∧m<ps.length) (h1:1≤hI ps i) {h:Int} (hh:hI ps i≤h):QC ps (ZdX ps i h) (wI ps i) h=true:=by
 unfold ZdX;split
 ·simp only[QC,Ka,Ki,LF,Kb,Kl];exact⟨by omega,ZmD hm rfl rfl⟩
 ·simp only[QC];exact ZmD hm rfl (by omega)
theorem Zkd {ps:List Pane} {W H:Int}:∀ {row:List Int} {w h:Int},Wj ps row w→(∀ j∈row,okJ ps W H j)→(∀ j∈row,hI ps j≤h)→QC ps (J8 ps row w h) w h=true
 | [],w,h,_,_,_=>rfl
 | i :: r,w,h,hf,ho,hh=>by
  obtain⟨hm,hw,hr⟩:=hf;have aa:=ho i (by simp);have h1:=Zp7 hm aa.2.2.2.1 (hh i (by simp));simp only[J8];split
  ·rename_i he;rw[he] at h1;exact h1
  ·have ab:1≤wI ps i:=aa.2.1;simp only[QC,Kk,Kb,Kl];exact⟨⟨by omega,h1⟩,Zkd hr (fun j hj=>ho j (by simp[hj])) (fun j hj=>hh j (by simp[hj]))⟩
theorem ZfD {ps:List Pane} {W H:Int}:∀ {s:List (List Int)} {h:Int},YR ps W s h→htS ps s→(∀ row∈s,∀ j∈row,okJ ps W H j)→QC ps (ZS ps W s h) W h=true
 | [],h,_,_,_=>rfl
 | row :: s,h,hf,ht,ho=>by
  obtain⟨hn,hr,hh,hs⟩:=hf;obtain⟨_,h2⟩:=ht row (by simp);have h1:=Zkd hr (ho row (by simp)) h2;have hp:1≤hd0 ps row:=by
   cases row with
   | nil=>exact absurd rfl hn
   | cons i r=>exact(ho (i :: r) (by simp) i (by simp)).2.2.2.1
  simp only[ZS];split
  ·rename_i he;rw[← he];exact h1
  ·simp only[QC,Ka,Ki,Kb,Kl];exact⟨⟨by omega,h1⟩,ZfD hs (fun q hq=>ht q (by simp[hq])) (fun q hq=>ho q (by simp[hq]))⟩
theorem Zrf (ps:List Pane) (i h:Int):(ZdX ps i h).cnt≤3:=by unfold ZdX;split<;>simp[BT.cnt]
theorem ZmE (ps:List Pane):∀ (row:List Int) (w h:Int),(J8 ps row w h).cnt≤4*row.length+1
 | [],_,_=>by simp[J8,BT.cnt]
 | i :: r,w,h=>by
  have h1:=Zrf ps i h;have h2:=ZmE ps r (w-wI ps i) h;simp only[J8];split
  ·simp only[Kg];omega
  ·simp only[BT.cnt,Kg];omega
theorem Zh2 (ps:List Pane) (W:Int):∀ (s:List (List Int)) (h:Int),(∀ row∈s,row≠[])→(ZS ps W s h).cnt≤6*s.flatten.length+1
 | [],_,_=>by simp[ZS,BT.cnt]
 | row :: s,h,hn=>by
  have h1:=ZmE ps row W (hd0 ps row);have h2:=Zh2 ps W s (h-hd0 ps row) fun q hq=>hn q (by simp[hq]);have h3:1≤row.length:=List.length_pos_iff.2 (hn row (by simp));simp only[ZS,KA,Kj];split
  ·omega
  ·simp only[BT.cnt];omega
def arI (ps:List Pane):List Int→Int
 | []=>0
 | i :: l=>wI ps i*hI ps i+arI ps l
theorem Zlf (ps:List Pane):∀ (a b:List Int),arI ps (a++b)=arI ps a+arI ps b
 | [],b=>by simp[arI]
 | i :: a,b=>by simp only[KL,arI,Zlf ps a b];omega
theorem Zrg (ps:List Pane) {l m:List Int} (h:l.Perm m):arI ps l=arI ps m:=by
 induction h with
 | nil=>rfl
 | cons x _ ih=>simp only[arI,ih]
 | swap x y l=>simp only[arI];omega
 | trans _ _ h1 h2=>exact h1.trans h2
def arP (l:List L.Place):Int:=Xt (l.map L.Place.Box)
theorem ZoW (a b:List L.Place):arP (a++b)=arP a+arP b:=by unfold arP;rw[KX,Ut]
theorem ZmF {ps:List Pane} {i h:Int} (hh:hI ps i≤h) (X Y w:Int):arP (plc (ZdX ps i h) X Y w h)=w*hI ps i∧(plc (ZdX ps i h) X Y w h).length=1:=by
 unfold ZdX;split
 ·simp[plc,arP,Xt]
 ·have:hI ps i=h:=by omega
  simp[plc,arP,Xt,this]
theorem ZmG {ps:List Pane}:∀ {row:List Int} {w h:Int} (X Y:Int),(∀ j∈row,hI ps j≤h)→(∀ j∈row,1≤wI ps j)→Wj ps row w→arP (plc (J8 ps row w h) X Y w h)=arI ps row∧(plc (J8 ps row w h) X Y w h).length=row.length
 | [],w,h,X,Y,_,_,_=>⟨rfl,rfl⟩
 | i :: r,w,h,X,Y,hh,hw,hf=>by
  obtain⟨_,ab,hr⟩:=hf;simp only[J8];split
  ·rename_i he;obtain⟨k1,k2⟩:=ZmF (ps:=ps) (i:=i) (hh i (by simp)) X Y w;have aa:r=[]:=by
    cases r with
    | nil=>rfl
    | cons j r=>
     have:=hr.2.1;have:=hw j (by simp);omega
   subst aa;rw[k1,k2,← he];simp[arI]
  ·obtain⟨k1,k2⟩:=ZmF (ps:=ps) (i:=i) (hh i (by simp)) X Y (wI ps i);obtain⟨m1,m2⟩:=ZmG (ps:=ps) (row:=r) (w:=w-wI ps i) (h:=h) (X+wI ps i) Y (fun j hj=>hh j (by simp[hj])) (fun j hj=>hw j (by simp[hj])) hr;simp only[plc,Kk,ZoW,Kj,k1,k2,m1,m2,arI,Kg];exact⟨trivial,by omega⟩
theorem Zh3 {ps:List Pane} {W H:Int}:∀ {s:List (List Int)} {h:Int} (X Y:Int),YR ps W s h→htS ps s→(∀ row∈s,∀ j∈row,okJ ps W H j)→arP (plc (ZS ps W s h) X Y W h)=arI ps s.flatten∧(plc (ZS ps W s h) X Y W h).length=s.flatten.length
 | [],h,X,Y,_,_,_=>⟨rfl,rfl⟩
 | row :: s,h,X,Y,hf,ht,ho=>by
  obtain⟨hn,hr,hh,hs⟩:=hf;obtain⟨_,h2⟩:=ht row (by simp);obtain⟨k1,k2⟩:=ZmG (ps:=ps) (row:=row) (w:=W) (h:=hd0 ps row) X Y h2 (fun j hj=>(ho row (by simp) j hj).2.1) hr;simp only[ZS];split
  ·rename_i he;have aa:s=[]:=by
    cases s with
    | nil=>rfl
    | cons q s=>
     obtain⟨hq,_,ab,_⟩:=hs;cases q with
     | nil=>exact absurd rfl hq
     | cons j q=>
      have h3:=(ho (j :: q) (by simp) j (by simp)).2.2.2.1;have h4:hd0 ps (j :: q)=hI ps j:=rfl;omega
   subst aa;have e2:plc (J8 ps row W (hd0 ps row)) X Y W h=plc (J8 ps row W (hd0 ps row)) X Y W (hd0 ps row):=by rw[he]
   rw[e2,k1,k2];simp
  ·obtain⟨m1,m2⟩:=Zh3 (ps:=ps) (s:=s) (h:=h-hd0 ps row) X (Y+hd0 ps row) hs (fun q hq=>ht q (by simp[hq])) (fun q hq=>ho q (by simp[hq]));simp only[plc,Ka,Ki,ZoW,Kj,k1,k2,m1,m2,KA,Zlf];exact⟨trivial,trivial⟩
def arQ:List Pane→Int
 | []=>0
 | x :: l=>x.W*x.H+arQ l
theorem ZmH {l:List Pane} {i:Nat} {x:Pane} (h:l[i]?=some x):arQ (l.take (i+1))=arQ (l.take i)+x.W*x.H:=by
 have aa:∀ a b:List Pane,arQ (a++b)=arQ a+arQ b:=fun a b=>by
  induction a with
  | nil=>simp[arQ]
  | cons y a ih=>simp only[KL,arQ,ih];omega
 rw[KE,h,Kad,aa];simp[arQ]
theorem ZmI (ps:List Pane) (f:Int→Int):∀ n,n≤ps.length→arI ps (Qf f n)=arQ (ps.take n)
 | 0,_=>rfl
 | n+1,hn=>by
  obtain⟨x,hx⟩:=ZE (l:=ps) (k:=n) (by omega);rw[Qf,Zrg ps (ZeR f _ _),arI,ZmI ps f n (by omega),ZmH hx,ZdV hx,Jv hx];omega
theorem ZmJ {k:ZO} (hp:Xg k):∀ i∈Qf (hI k.Panes) k.Panes.length,okJ k.Panes k.W k.H i:=fun i hi=>by
 obtain⟨m,rfl,hm⟩:=WL _ hi;obtain⟨z,hz⟩:=ZE hm;have h1:=ZeS hp.1.2.2.2.2.2 z (Ke hz);have h2:=hp.2 z (Ke hz);refine⟨⟨m,rfl,hm⟩,?_⟩;rw[ZdV hz,Jv hz];omega
theorem shO_eq {k:ZO} (hp:Xg k):shS k.Panes k.W k.H k.Panes.length (Qf (hI k.Panes) k.Panes.length)=shO k:=by
 have:=shL_eq (ZmJ hp) (ZeT (hI k.Panes) k.Panes.length);rw[VO] at this;exact this.symm
theorem Zrh {k:ZO} (hp:Xg k) {s:List (List Int)} (hs:s∈shO k):∀ row∈s,∀ j∈row,okJ k.Panes k.W k.H j:=fun row hr j hj=>by
 refine ZmJ hp j ?_;rw[← Zh1 k.Panes k.W k.H (Qf (hI k.Panes) k.Panes.length),List.mem_flatten];exact⟨s.flatten,KV.2 ⟨s,hs,rfl⟩,List.mem_flatten.2 ⟨row,hr,hj⟩⟩
theorem ZfE {k:ZO} {s:List (List Int)} (hs:s∈shO k):s.flatten.length≤k.Panes.length:=by
 have h1:=Zh1 k.Panes k.W k.H (Qf (hI k.Panes) k.Panes.length);have h2:(((shO k).map List.flatten).flatten).length=k.Panes.length:=by
  unfold shO;rw[h1,VO]
 rw[List.length_flatten,List.map_map] at h2;have:s.flatten.length∈(shO k).map (List.length ∘ List.flatten):=KV.2 ⟨s,hs,rfl⟩;have aa:∀ (l:List Nat) (x:Nat),x∈l→x≤l.sum:=fun l x hx=>by
  induction l with
  | nil=>cases hx
  | cons y l ih=>
   simp only[List.sum_cons];rcases Kf.1 hx with rfl | hx
   ·omega
   ·have:=ih hx;omega
 have:=aa _ _ this;omega
structure Zri (k:ZO) (s:List (List Int)):Prop where
 v:VG k (ZS k.Panes k.W s k.H).plan=true
 c:(ZS k.Panes k.W s k.H).cnt≤255
 f:QC k.Panes (ZS k.Panes k.W s k.H) k.W k.H=true
 a:arP (plc (ZS k.Panes k.W s k.H) 0 0 k.W k.H)=arI k.Panes s.flatten
 l:(plc (ZS k.Panes k.W s k.H) 0 0 k.W k.H).length≤k.Panes.length
theorem sheetF {k:ZO} (hp:Xg k) (hl:k.Panes.length≤24) {s:List (List Int)} (hs:s∈shO k):Zri k s:=by
 have h1:=(ZoS hp s hs).2;have h2:=shL_ht (ZeT (hI k.Panes) k.Panes.length) s hs;have h3:=Zrh hp hs;have h4:=ZfE hs;have hf:=ZfD h1 h2 h3;have hc:=Zh2 k.Panes k.W s k.H fun row hr=>(h2 row hr).1;obtain⟨ha,hn⟩:=Zh3 (ps:=k.Panes) (W:=k.W) 0 0 h1 h2 h3;exact⟨(Zp6 (Uz _)).2 ⟨hp.1,by omega,hf⟩,by omega,hf,ha,by omega⟩
theorem Zrj {k:ZO}:arI k.Panes ((shO k).map List.flatten).flatten=arQ k.Panes:=by
 unfold shO;rw[Zh1,ZmI k.Panes _ _ (Kh _),Li]
end Go.Proofs.Ytefabmohhbhlfaa
