/- Own text. -/
import Derived.Test.YtefabmohhbhlfaaBCode
import Derived.Test.YtefabmohhbhlfaaAbsParts
import Derived.Test.YtefabmohhbhlfaaAbsOkD
namespace Go.Proofs.Ytefabmohhbhlfaa
open Go Go.Abs Go.Abs.E Go.Abs.L
open Nat (reduceMul reduceSub reduceLeDiff reduceEqDiff)
open Int (reduceLE reduceEq reduceToNat reduceNeg)
set_option linter.unusedSimpArgs false
set_option linter.unusedVariables false
set_option maxRecDepth 20000
set_option maxHeartbeats 4000000
def wI (ps:List Pane) (i:Int):Int:=(ps[i.toNat]?.map Pane.W).getD 0
def hI (ps:List Pane) (i:Int):Int:=(ps[i.toNat]?.map Pane.H).getD 0
theorem ZpC {ps:List Pane} {m:Nat} {x:Pane} (h:ps[m]?=some x):wI ps (m:Int)=x.W:=by simp[wI,h]
theorem Zje {ps:List Pane} {m:Nat} {x:Pane} (h:ps[m]?=some x):hI ps (m:Int)=x.H:=by simp[hI,h]
def atS (f:Int→Int) (l:List Int) (x:Int):Nat→Nat
 | 0=>0
 | n+1=>if f (l.getD n 0)<f x then atS f l x n else n+1
def insS (f:Int→Int) (l:List Int) (x:Int):List Int:=l.take (atS f l x l.length)++x :: l.drop (atS f l x l.length)
def XB (f:Int→Int):Nat→List Int
 | 0=>[]
 | n+1=>insS f (XB f n) (n:Int)
theorem Zjf (f:Int→Int) (l:List Int) (x:Int):(insS f l x).Perm (x :: l):=by
 unfold insS;refine List.perm_middle.trans ?_;rw[Ln]
theorem Zby (f:Int→Int):∀ n,(XB f n).length=n
 | 0=>rfl
 | n+1=>by rw[XB,(Zjf f _ _).length_eq,Kk,Zby f n]
theorem Zbz (f:Int→Int):∀ {n:Nat} {x:Int},x∈XB f n→∃ m:Nat,x=(m:Int)∧m<n
 | 0,x,h=>by cases h
 | n+1,x,h=>by
  rw[XB,(Zjf f _ _).mem_iff] at h;rcases Ke.1 h with rfl | h
  ·exact⟨n,rfl,by omega⟩
  ·obtain⟨m,h1,h2⟩:=Zbz f h;exact⟨m,h1,by omega⟩
def V4 (n i:Nat):List Int:=(List.range' i (n-i)).map fun (k:Nat)=>(k:Int)
theorem Zjg {n i:Nat} (h:i<n):V4 n i=(i:Int) :: V4 n (i+1):=by
 unfold V4;obtain⟨d,hd⟩:∃ d,n-i=d+1:=⟨n-i-1,by omega⟩
 rw[hd,List.range'_succ,Ko,show n-(i+1)=d by omega]
theorem Za3 (n i:Nat):(V4 n i).length=n-i:=by simp[V4]
def JA (L:List Int) (x:Int) (r:List Int) (j:Nat):List Int:=L.take j++x :: (L.drop j++r)
theorem Zlr (L:List Int) (x:Int) (r:List Int) (j:Nat):(JA L x r j).length=L.length+1+r.length:=by
 simp only[JA,Ki,Kk,KV,Lo];omega
theorem Znk {L:List Int} {x:Int} {r:List Int} {j:Nat} (h:j≤L.length):((JA L x r j).map Qs)[j]?=some (J x):=by
 rw[KJ];unfold JA;rw[Km (by simp;omega)];simp only[KV,LS h,Nat.sub_self,K5,KK];rfl
theorem Zop {L:List Int} {x y:Int} {r:List Int} {j:Nat} (h:L[j]?=some y):((JA L x r (j+1)).map Qs)[j]?=some (J y):=by
 have hj:=(Kd.1 h).1;rw[KJ];unfold JA;rw[Kn (by simp;omega),KS,Kt (by omega),h];rfl
theorem Zoq {L:List Int} {x y:Int} {r:List Int} {j:Nat} (h:L[j]?=some y):(((JA L x r (j+1)).map Qs).set (j+1) (J y)).set j (J x)=(JA L x r j).map Qs:=by
 obtain⟨hj,he⟩:=Kd.1 h;refine KW fun i=>?_;rw[K4,K4];have hl:((JA L x r (j+1)).map Qs).length=L.length+1+r.length:=by rw[KQ,Zlr]
 rw[LH,hl];by_cases h1:j=i
 ·subst h1;rw[Kt rfl,Kt (by omega),Znk (by omega)]
 ·rw[Kp h1];by_cases h2:j+1=i
  ·subst h2;rw[Kt rfl,Kt (by omega),KJ];unfold JA;rw[Km (by simp;omega)];simp only[KV,LS (show j≤L.length by omega),show j+1-j=1 by omega,KG];rw[Kn (by simp;omega),KX,Lx,h];rfl
  ·rw[Kp h2,KJ,KJ];congr 1
   unfold JA;by_cases h3:i<j
   ·rw[Kn (by simp;omega),Kn (by simp;omega),KS,KS,Kt (by omega),Kt h3]
   ·rw[Km (by simp;omega),Km (by simp;omega)];simp only[KV,LS (show j≤L.length by omega),LS (show j+1≤L.length by omega)];obtain⟨d,hd⟩:∃ d,i=j+2+d:=⟨i-(j+2),by omega⟩
    subst hd;rw[show j+2+d-(j+1)=d+1 by omega,show j+2+d-j=d+1+1 by omega,KG,KG,LF hj,KU,KG]
theorem Zg5 (W H:Int) (ps:List Pane) (a b:Nat) {x y:Pane} (ha:ps[a]?=some x) (hb:ps[b]?=some y) (hx:0≤x.H∧x.H≤200) (hy:0≤y.H∧y.H≤200):Zu Xs Ms QK [(.d (J ((a:Nat)))),(.d (J ((b:Nat)))),.ptr 0 0] [.box [(.d (J W)),(.d (J H)),(.d (.sl (ps.map Pane.enc)))]]=some ((.d (J (y.H-x.H))),[.box [(.d (J W)),(.d (J H)),(.d (.sl (ps.map Pane.enc)))]]):=by
 have w1:=wi (y.H-x.H) (by omega) (by omega);obtain⟨xW,xH,xT,xK⟩:=x;obtain⟨yW,yH,yT,yK⟩:=y;simp only at w1 ⊢;have aa:=(Kd.1 ha).1;have ab:=(Kd.1 hb).1;refine cE ?_;simp +contextual -implicitDefEqProofs (maxSteps:=10^7) only[go_sem,seval,↓gZ,Je,ha,hb,aa,ab,w1]
abbrev okP (ps:List Pane):Prop:=∀ x∈ps,1≤x.W∧x.W≤200∧1≤x.H∧x.H≤200
theorem Zor {L:List Int} {x:Int} {r:List Int}:JA L x r L.length=L++x :: r:=by simp[JA]
theorem ZpD {f:Int→Int} {L:List Int} {x:Int} {r:List Int} {j:Nat} (h:atS f L x L.length=j):JA L x r j=insS f L x++r:=by
 unfold insS JA;rw[h];simp
theorem Zmy (W H:Int) (ps:List Pane) (n:Nat) (hn:n≤ps.length) (hp:ps.length≤1000) (ho:okP ps):Zu Xs Ms Ze [.own 0,(.d (J 0)),(.d (J ((n:Nat)))),.clo QK [.ptr 1 0]] [.row 1 ((V4 n 0).map Qs) true false,.box [(.d (J W)),(.d (J H)),(.d (.sl (ps.map Pane.enc)))]]=some (.tup [],[.row 1 ((XB (hI ps) n).map Qs) true false,.box [(.d (J W)),(.d (J H)),(.d (.sl (ps.map Pane.enc)))]]):=by
 rcases n with _ | n0
 ·refine cE ?_;simp +contextual -implicitDefEqProofs (maxSteps:=10^7) only[go_sem,seval,↓gZ,Z6];refine Jm Xs Ms ?_;simp +contextual -implicitDefEqProofs (maxSteps:=10^7) only[go_sem,seval,↓gZ];rfl
 ·obtain⟨n,ah⟩:∃ n,n=n0+1:=⟨_,rfl⟩
  rw[← ah] at hn ⊢;have ai:V4 n 0=XB (hI ps) 1++V4 n 1:=by rw[Zjg (by omega)];rfl
  refine cE ?_;simp +contextual -implicitDefEqProofs (maxSteps:=10^7) only[go_sem,seval,↓gZ,Z6,ai];refine LO (α:=Nat) (fun i=>[(8,.d (J (i:Int)))]) (fun i=>[(0,.row 1 ((XB (hI ps) i++V4 n i).map Qs) true false)]) (fun i=>1≤i∧i≤n) (fun i=>n-i) 1 (by omega) ?_;intro i ⟨am,an⟩ ih;by_cases ad:i<n
  ·have ae:=ZE (k:=i) (by omega);have hL:=Zby (hI ps) i;have hd:XB (hI ps) i++V4 n i=JA (XB (hI ps) i) (i:Int) (V4 n (i+1)) i:=by
    rw[Zjg ad];have:=Zor (L:=XB (hI ps) i) (x:=(i:Int)) (r:=V4 n (i+1));rw[hL] at this;exact this.symm
   have af:=Za3 n (i+1);have ab:∀ y∈XB (hI ps) i,∃ m:Nat,y=(m:Int)∧m<i:=fun y hy=>Zbz _ hy;have aa:∀ j,atS (hI ps) (XB (hI ps) i) (i:Int) i=j→JA (XB (hI ps) i) (i:Int) (V4 n (i+1)) j=XB (hI ps) (i+1)++V4 n (i+1):=fun j hj=>by
    rw[ZpD (f:=hI ps) (by rw[hL];exact hj),XB]
   simp +contextual -implicitDefEqProofs (maxSteps:=10^7) only[go_sem,seval,↓gZ,ad,hd];generalize XB (hI ps) i=L at *;obtain⟨r,hr⟩:∃ r,V4 n (i+1)=r:=⟨_,rfl⟩
   simp only[hr] at hd af aa ⊢;obtain⟨x,hx⟩:=Z1 (l:=ps) (k:=i) (by omega);have ao:=ho x (Kg hx);have ag:∀ j,((JA L (i:Int) r j).map Qs).length=n:=fun j=>by rw[KQ,Zlr,hL,af];omega
   refine Ya Xs Ms (st0:=?st1) (α:=Nat) (fun j=>[(9,.d (J (j:Int)))]) (fun j=>[(0,.row 1 ((JA L (i:Int) r j).map Qs) true false)]) (fun j=>j≤i∧atS (hI ps) L (i:Int) i=atS (hI ps) L (i:Int) j) (fun j=>j) i ?hc2 ⟨Kf _,rfl⟩ ?h02 ?step2
   case hc2=>simp +contextual -implicitDefEqProofs (maxSteps:=10^7) only[go_sem,seval,↓gZ]<;>exact rfl
   case h02=>rfl
   case step2=>
    intro j ⟨hj,ha⟩ aj;rcases j with _ | j
    ·have hz:=aa 0 (by rw[ha];rfl);simp +contextual -implicitDefEqProofs (maxSteps:=10^7) only[go_sem,seval,↓gZ,ae];refine ih (i+1) _ ⟨by omega,by omega⟩ (by omega) ?_;simp +contextual -implicitDefEqProofs (maxSteps:=10^7) only[go_sem,seval,↓gZ,hz,hr]
    ·obtain⟨y,hy⟩:=Z1 (l:=L) (k:=j) (by omega);obtain⟨m,rfl,hm⟩:=ab y (Kg hy);obtain⟨z,hz⟩:=Z1 (l:=ps) (k:=m) (by omega);have ap:=ho z (Kg hz);have e1:=Zg5 W H ps i m hx hz (by omega) (by omega);have t1:=Znk (L:=L) (x:=(i:Int)) (r:=r) (j:=j+1) (by omega);have t2:=Zop (x:=(i:Int)) (r:=r) hy;have t3:(((JA L (i:Int) r (j+1)).map Qs).set (j+1) (J (m:Int)))[j]?=some (J (m:Int)):=by rw[K4,Kp (by omega)];exact t2
     have hw:=Zoq (x:=(i:Int)) (r:=r) hy;have g1:j+1<n:=by omega
     have g2:j<n:=by omega
     have g3:(0:Int)<((j+1:Nat):Int):=by omega
     have g4:IntKind.i64.wrap (((j+1:Nat):Int)-1)=(j:Int):=by rw[Xt (by omega) (by omega)];omega
     have ak:L.getD j 0=(m:Int):=by rw[K8,hy];rfl
     rw[atS,ak,Zje hz,Zje hx] at ha;by_cases c:z.H<x.H
     ·have c' : z.H-x.H<0:=by omega
      rw[Kt c] at ha;simp +contextual -implicitDefEqProofs (maxSteps:=10^7) only[go_sem,seval,↓gZ,g1,g2,g3,g4,t1,t2,t3,e1,c',ag,hw,LH,Lg];refine aj j _ ⟨by omega,ha⟩ (by omega) ?_;simp +contextual -implicitDefEqProofs (maxSteps:=10^7) only[go_sem,seval,↓gZ]
     ·have c' : ¬z.H-x.H<0:=by omega
      rw[Kp c] at ha;have hz:=aa (j+1) ha;simp +contextual -implicitDefEqProofs (maxSteps:=10^7) only[go_sem,seval,↓gZ,g1,g2,g3,g4,t1,t2,e1,c',ag,ae];refine ih (i+1) _ ⟨by omega,by omega⟩ (by omega) ?_;simp +contextual -implicitDefEqProofs (maxSteps:=10^7) only[go_sem,seval,↓gZ,hz,hr]
  ·have:i=n:=by omega
   subst this;have al:V4 i i=[]:=by unfold V4;rw[Nat.sub_self];rfl
   simp +contextual -implicitDefEqProofs (maxSteps:=10^7) only[go_sem,seval,↓gZ,al,LG]
theorem Zos (W H:Int) (ps:List Pane) (n:Nat) (hn:n≤ps.length) (hp:ps.length≤19) (ho:okP ps):Zu Xs Ms Zl [.own 0,(.d (J ((n:Nat)))),.clo QK [.ptr 1 0]] [.row 1 ((V4 n 0).map Qs) true false,.box [(.d (J W)),(.d (J H)),(.d (.sl (ps.map Pane.enc)))]]=some (.tup [],[.row 1 ((XB (hI ps) n).map Qs) true false,.box [(.d (J W)),(.d (J H)),(.d (.sl (ps.map Pane.enc)))]]):=by
 have e1:=Zmy W H ps n hn (by omega) ho;have g1:¬(20:Int)≤(n:Int):=by omega
 have g2:¬(20:Int)<(n:Int):=by omega
 refine cE ?_;simp +contextual -implicitDefEqProofs (maxSteps:=10^7) only[go_sem,seval,↓gZ,Xm];refine Jm Xs Ms ?_;simp +contextual -implicitDefEqProofs (maxSteps:=10^7) only[go_sem,seval,↓gZ,g1,e1];refine Jm Xs Ms ?_;simp +contextual -implicitDefEqProofs (maxSteps:=10^7) only[go_sem,seval,↓gZ,g2]
theorem Zh2 (W H:Int) (ps:List Pane) (n:Nat) (hn:n≤ps.length) (hp:ps.length≤19) (ho:okP ps):Zu Xs Ms Zj [.own 0,.clo QK [.ptr 1 0]] [.row 1 ((V4 n 0).map Qs) true false,.box [(.d (J W)),(.d (J H)),(.d (.sl (ps.map Pane.enc)))]]=some (.tup [],[.row 1 ((XB (hI ps) n).map Qs) true false,.box [(.d (J W)),(.d (J H)),(.d (.sl (ps.map Pane.enc)))]]):=by
 have e1:=Zos W H ps n hn hp ho;have hl:(V4 n 0).length=n:=by rw[Za3];rfl
 refine cE ?_;simp +contextual -implicitDefEqProofs (maxSteps:=10^7) only[go_sem,seval,↓gZ,Xb,e1,hl]
def Zal (n i:Nat):List Int:=V4 i 0++List.replicate (n-i) 0
theorem Zot {n i:Nat} (h:i<n):((Zal n i).map Qs).set i (J (i:Int))=(Zal n (i+1)).map Qs:=by
 have e1:V4 (i+1) 0=V4 i 0++[(i:Int)]:=by
  unfold V4;rw[Kaa,Kaa,List.range'_1_concat,Le,KP];rfl
 have hl:(V4 i 0).length=i:=by rw[Za3];rfl
 obtain⟨d,hd⟩:∃ d,n-i=d+1:=⟨n-i-1,by omega⟩
 unfold Zal;rw[e1,hd,show n-(i+1)=d by omega,Lt,Le,List.set_append_right _ _ (by rw[KQ,hl];exact Kf _),KQ,hl,Nat.sub_self,LJ,Le];rfl
theorem Zjh {n i:Nat} (h:i≤n):(Zal n i).length=n:=by
 unfold Zal;rw[Ki,Za3,List.length_replicate];omega
theorem ZpE {n i:Nat} (h:i<n):((Zal n i).map Qs)[i]?=some (J 0):=by
 have hl:(V4 i 0).length=i:=by rw[Za3];rfl
 obtain⟨d,hd⟩:∃ d,n-i=d+1:=⟨n-i-1,by omega⟩
 rw[KJ];unfold Zal;rw[Km (by rw[hl];exact Kf _),hl,Nat.sub_self,hd];rfl
theorem Zmz (n:Nat):List.replicate n (D.int .i64 0)=(Zal n 0).map Qs:=by
 unfold Zal V4;simp[Qs]
theorem Zj9 (W H:Int) (ps:List Pane) (n:Nat) (hn:n≤ps.length) (hp:ps.length≤19) (ho:okP ps):Zu Xs Ms Y3 [(.d (J ((n:Nat)))),.clo QK [.ptr 0 0]] [.box [(.d (J W)),(.d (J H)),(.d (.sl (ps.map Pane.enc)))]]=some (.own 1,[.box [(.d (J W)),(.d (J H)),(.d (.sl (ps.map Pane.enc)))],.row 1 ((XB (hI ps) n).map Qs) true false]):=by
 have e1:=Zh2 W H ps n hn hp ho;have r1:((n:Nat):Int)*8≤140737488355328∧((n:Nat):Int)≤140737488355328:=by omega
 have ab:=Zjh (n:=n) (i:=0) (by omega);refine cE ?_;simp +contextual -implicitDefEqProofs (maxSteps:=10^7) only[go_sem,seval,↓gZ,Jd,r1,Zmz,ab];refine LO (α:=Nat) (fun i=>[(11,.d (J (i:Int)))]) (fun i=>[(1,.row 1 ((Zal n i).map Qs) true false)]) (fun i=>i≤n) (fun i=>n-i) 0 (by omega) ?_;intro i hi ih;by_cases aa:i<n
 ·have ad:=ZE (k:=i) (by omega);have f1:=Zot aa;have f2:=ZpE aa;have f3:=Zjh hi;simp +contextual -implicitDefEqProofs (maxSteps:=10^7) only[go_sem,seval,↓gZ,aa,ad,f1,f2,f3,Lg];refine ih (i+1) _ (by omega) (by omega) ?_;simp +contextual -implicitDefEqProofs (maxSteps:=10^7) only[go_sem,seval,↓gZ]
 ·have:i=n:=by omega
  subst this;have f4:Zal i i=V4 i 0:=by unfold Zal;simp
  simp +contextual -implicitDefEqProofs (maxSteps:=10^7) only[go_sem,seval,↓gZ,f4,e1]
end Go.Proofs.Ytefabmohhbhlfaa
