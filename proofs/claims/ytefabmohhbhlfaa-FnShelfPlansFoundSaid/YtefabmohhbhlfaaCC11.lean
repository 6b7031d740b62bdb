/- Own text. -/
import Derived.Test.YtefabmohhbhlfaaCCode
import Derived.Test.YtefabmohhbhlfaaAbsParts
import Derived.Test.YtefabmohhbhlfaaCC9
import Derived.Test.YtefabmohhbhlfaaAbsOkD
namespace Go.Proofs.Ytefabmohhbhlfaa
open Go Go.Abs Go.Abs.E Go.Abs.L
open Nat (reduceMul reduceSub reduceLeDiff reduceEqDiff)
open Int (reduceLE reduceEq reduceToNat reduceNeg)
set_option linter.unusedSimpArgs false
set_option linter.unusedVariables false
set_option maxRecDepth 20000
set_option maxHeartbeats 4000000
def wI (ps:List Pane) (i:Int):Int:=(ps[i.toNat]?.map Pane.W).getD 0
def hI (ps:List Pane) (i:Int):Int:=(ps[i.toNat]?.map Pane.H).getD 0
theorem ZdV {ps:List Pane} {m:Nat} {x:Pane} (h:ps[m]?=some x):wI ps (m:Int)=x.W:=by simp[wI,h]
theorem Jv {ps:List Pane} {m:Nat} {x:Pane} (h:ps[m]?=some x):hI ps (m:Int)=x.H:=by simp[hI,h]
def atS (f:Int→Int) (l:List Int) (x:Int):Nat→Nat
 | 0=>0
 | n+1=>if f (l.getD n 0)<f x then atS f l x n else n+1
def Zk6 (f:Int→Int) (l:List Int) (x:Int):List Int:=l.take (atS f l x l.length)++x :: l.drop (atS f l x l.length)
def Qf (f:Int→Int):Nat→List Int
 | 0=>[]
 | n+1=>Zk6 f (Qf f n) (n:Int)
theorem Zra (f:Int→Int) (l:List Int) (x:Int):∀ n,atS f l x n≤n
 | 0=>Kh _
 | n+1=>by
  simp only[atS];split
  ·have:=Zra f l x n;omega
  ·exact Kh _
theorem ZeR (f:Int→Int) (l:List Int) (x:Int):(Zk6 f l x).Perm (x :: l):=by
 unfold Zk6;refine List.perm_middle.trans ?_;rw[Ll]
theorem VO (f:Int→Int):∀ n,(Qf f n).length=n
 | 0=>rfl
 | n+1=>by rw[Qf,(ZeR f _ _).length_eq,Kg,VO f n]
theorem WL (f:Int→Int):∀ {n:Nat} {x:Int},x∈Qf f n→∃ m:Nat,x=(m:Int)∧m<n
 | 0,x,h=>by cases h
 | n+1,x,h=>by
  rw[Qf,(ZeR f _ _).mem_iff] at h;rcases Kf.1 h with rfl | h
  ·exact⟨n,rfl,by omega⟩
  ·obtain⟨m,h1,h2⟩:=WL f h;exact⟨m,h1,by omega⟩
def Wt (n i:Nat):List Int:=(List.range' i (n-i)).map fun (k:Nat)=>(k:Int)
theorem Zkb {n i:Nat} (h:i<n):Wt n i=(i:Int) :: Wt n (i+1):=by
 unfold Wt;obtain⟨d,hd⟩:∃ d,n-i=d+1:=⟨n-i-1,by omega⟩
 rw[hd,List.range'_succ,Kq,show n-(i+1)=d by omega]
theorem ZbF (n i:Nat):(Wt n i).length=n-i:=by simp[Wt]
def J7 (L:List Int) (x:Int) (r:List Int) (j:Nat):List Int:=L.take j++x :: (L.drop j++r)
theorem Zmy (L:List Int) (x:Int) (r:List Int) (j:Nat):(J7 L x r j).length=L.length+1+r.length:=by
 simp only[J7,Kj,Kg,KP,KB];omega
theorem ZoR {L:List Int} {x:Int} {r:List Int} {j:Nat} (h:j≤L.length):((J7 L x r j).map Qn)[j]?=some (J x):=by
 rw[Kx];unfold J7;rw[Kp (by simp;omega)];simp only[KP,LY h,Nat.sub_self,LU,KW];rfl
theorem Zp1 {L:List Int} {x y:Int} {r:List Int} {j:Nat} (h:L[j]?=some y):((J7 L x r (j+1)).map Qn)[j]?=some (J y):=by
 have hj:=(Kc.1 h).1;rw[Kx];unfold J7;rw[Kr (by simp;omega),KS,Ko (by omega),h];rfl
theorem Zp2 {L:List Int} {x y:Int} {r:List Int} {j:Nat} (h:L[j]?=some y):(((J7 L x r (j+1)).map Qn).set (j+1) (J y)).set j (J x)=(J7 L x r j).map Qn:=by
 obtain⟨hj,he⟩:=Kc.1 h;refine Lj fun i=>?_;rw[LA,LA];have hl:((J7 L x r (j+1)).map Qn).length=L.length+1+r.length:=by rw[Kw,Zmy]
 rw[Kaa,hl];by_cases h1:j=i
 ·subst h1;rw[Ko rfl,Ko (by omega),ZoR (by omega)]
 ·rw[Kn h1];by_cases h2:j+1=i
  ·subst h2;rw[Ko rfl,Ko (by omega),Kx];unfold J7;rw[Kp (by simp;omega)];simp only[KP,LY (show j≤L.length by omega),show j+1-j=1 by omega,Lb];rw[Kr (by simp;omega),KY,LM,h];rfl
  ·rw[Kn h2,Kx,Kx];congr 1
   unfold J7;by_cases h3:i<j
   ·rw[Kr (by simp;omega),Kr (by simp;omega),KS,KS,Ko (by omega),Ko h3]
   ·rw[Kp (by simp;omega),Kp (by simp;omega)];simp only[KP,LY (show j≤L.length by omega),LY (show j+1≤L.length by omega)];obtain⟨d,hd⟩:∃ d,i=j+2+d:=⟨i-(j+2),by omega⟩
    subst hd;rw[show j+2+d-(j+1)=d+1 by omega,show j+2+d-j=d+1+1 by omega,Lb,Lb,K3 hj,KL,Lb]
theorem ZhU (W H:Int) (ps:List Pane) (a b:Nat) {x y:Pane} (ha:ps[a]?=some x) (hb:ps[b]?=some y) (hx:0≤x.H∧x.H≤200) (hy:0≤y.H∧y.H≤200):Zj Xs Ms QM [(.d (J ((a:Nat)))),(.d (J ((b:Nat)))),.ptr 0 0] [.box [(.d (J W)),(.d (J H)),(.d (.sl (ps.map Pane.enc)))]]=some ((.d (J (y.H-x.H))),[.box [(.d (J W)),(.d (J H)),(.d (.sl (ps.map Pane.enc)))]]):=by
 have w1:=wi (y.H-x.H) (by omega) (by omega);obtain⟨xW,xH,xT,xK⟩:=x;obtain⟨yW,yH,yT,yK⟩:=y;simp only at w1 ⊢;have aa:=(Kc.1 ha).1;have ab:=(Kc.1 hb).1;refine cE ?_;simp +contextual -implicitDefEqProofs (maxSteps:=10^7) only[go_sem,seval,↓gZ,JO,ha,hb,aa,ab,w1]
abbrev okP (ps:List Pane):Prop:=∀ x∈ps,1≤x.W∧x.W≤200∧1≤x.H∧x.H≤200
theorem Zp3 {L:List Int} {x:Int} {r:List Int}:J7 L x r L.length=L++x :: r:=by simp[J7]
theorem Zrb {f:Int→Int} {L:List Int} {x:Int} {r:List Int} {j:Nat} (h:atS f L x L.length=j):J7 L x r j=Zk6 f L x++r:=by
 unfold Zk6 J7;rw[h];simp
theorem ZnV (W H:Int) (ps:List Pane) (n:Nat) (hn:n≤ps.length) (hp:ps.length≤1000) (ho:okP ps):Zj Xs Ms Ze [.own 0,(.d (J 0)),(.d (J ((n:Nat)))),.clo QM [.ptr 1 0]] [.row 1 ((Wt n 0).map Qn) true false,.box [(.d (J W)),(.d (J H)),(.d (.sl (ps.map Pane.enc)))]]=some (.tup [],[.row 1 ((Qf (hI ps) n).map Qn) true false,.box [(.d (J W)),(.d (J H)),(.d (.sl (ps.map Pane.enc)))]]):=by
 rcases n with _ | n0
 ·refine cE ?_;simp +contextual -implicitDefEqProofs (maxSteps:=10^7) only[go_sem,seval,↓gZ,Qa];refine XK Xs Ms ?_;simp +contextual -implicitDefEqProofs (maxSteps:=10^7) only[go_sem,seval,↓gZ];rfl
 ·obtain⟨n,ah⟩:∃ n,n=n0+1:=⟨_,rfl⟩
  rw[← ah] at hn ⊢;have hb1:Wt n 0=Qf (hI ps) 1++Wt n 1:=by rw[Zkb (by omega)];rfl
  refine cE ?_;simp +contextual -implicitDefEqProofs (maxSteps:=10^7) only[go_sem,seval,↓gZ,Qa,hb1];refine LO (α:=Nat) (fun i=>[(8,.d (J (i:Int)))]) (fun i=>[(0,.row 1 ((Qf (hI ps) i++Wt n i).map Qn) true false)]) (fun i=>1≤i∧i≤n) (fun i=>n-i) 1 (by omega) ?_;intro i ⟨al,am⟩ ih;by_cases ad:i<n
  ·have ae:=ZD (k:=i) (by omega);have hL:=VO (hI ps) i;have hd:Qf (hI ps) i++Wt n i=J7 (Qf (hI ps) i) (i:Int) (Wt n (i+1)) i:=by
    rw[Zkb ad];have:=Zp3 (L:=Qf (hI ps) i) (x:=(i:Int)) (r:=Wt n (i+1));rw[hL] at this;exact this.symm
   have af:=ZbF n (i+1);have ab:∀ y∈Qf (hI ps) i,∃ m:Nat,y=(m:Int)∧m<i:=fun y hy=>WL _ hy;have aa:∀ j,atS (hI ps) (Qf (hI ps) i) (i:Int) i=j→J7 (Qf (hI ps) i) (i:Int) (Wt n (i+1)) j=Qf (hI ps) (i+1)++Wt n (i+1):=fun j hj=>by
    rw[Zrb (f:=hI ps) (by rw[hL];exact hj),Qf]
   simp +contextual -implicitDefEqProofs (maxSteps:=10^7) only[go_sem,seval,↓gZ,ad,hd];generalize Qf (hI ps) i=L at *;obtain⟨r,hr⟩:∃ r,Wt n (i+1)=r:=⟨_,rfl⟩
   simp only[hr] at hd af aa ⊢;obtain⟨x,hx⟩:=ZE (l:=ps) (k:=i) (by omega);have an:=ho x (Ke hx);have ag:∀ j,((J7 L (i:Int) r j).map Qn).length=n:=fun j=>by rw[Kw,Zmy,hL,af];omega
   refine WQ Xs Ms (st0:=?st1) (α:=Nat) (fun j=>[(9,.d (J (j:Int)))]) (fun j=>[(0,.row 1 ((J7 L (i:Int) r j).map Qn) true false)]) (fun j=>j≤i∧atS (hI ps) L (i:Int) i=atS (hI ps) L (i:Int) j) (fun j=>j) i ?hc2 ⟨Kh _,rfl⟩ ?h02 ?step2
   case hc2=>simp +contextual -implicitDefEqProofs (maxSteps:=10^7) only[go_sem,seval,↓gZ]<;>exact rfl
   case h02=>rfl
   case step2=>
    intro j ⟨hj,ha⟩ ai;rcases j with _ | j
    ·have hz:=aa 0 (by rw[ha];rfl);simp +contextual -implicitDefEqProofs (maxSteps:=10^7) only[go_sem,seval,↓gZ,ae];refine ih (i+1) _ ⟨by omega,by omega⟩ (by omega) ?_;simp +contextual -implicitDefEqProofs (maxSteps:=10^7) only[go_sem,seval,↓gZ,hz,hr]
    ·obtain⟨y,hy⟩:=ZE (l:=L) (k:=j) (by omega);obtain⟨m,rfl,hm⟩:=ab y (Ke hy);obtain⟨z,hz⟩:=ZE (l:=ps) (k:=m) (by omega);have ao:=ho z (Ke hz);have e1:=ZhU W H ps i m hx hz (by omega) (by omega);have t1:=ZoR (L:=L) (x:=(i:Int)) (r:=r) (j:=j+1) (by omega);have t2:=Zp1 (x:=(i:Int)) (r:=r) hy;have t3:(((J7 L (i:Int) r (j+1)).map Qn).set (j+1) (J (m:Int)))[j]?=some (J (m:Int)):=by rw[LA,Kn (by omega)];exact t2
     have hw:=Zp2 (x:=(i:Int)) (r:=r) hy;have g1:j+1<n:=by omega
     have g2:j<n:=by omega
     have g3:(0:Int)<((j+1:Nat):Int):=by omega
     have g4:IntKind.i64.wrap (((j+1:Nat):Int)-1)=(j:Int):=by rw[Xy (by omega) (by omega)];omega
     have aj:L.getD j 0=(m:Int):=by rw[Lu,hy];rfl
     rw[atS,aj,Jv hz,Jv hx] at ha;by_cases c:z.H<x.H
     ·have c' : z.H-x.H<0:=by omega
      rw[Ko c] at ha;simp +contextual -implicitDefEqProofs (maxSteps:=10^7) only[go_sem,seval,↓gZ,g1,g2,g3,g4,t1,t2,t3,e1,c',ag,hw,Kaa,LB];refine ai j _ ⟨by omega,ha⟩ (by omega) ?_;simp +contextual -implicitDefEqProofs (maxSteps:=10^7) only[go_sem,seval,↓gZ]
     ·have c' : ¬z.H-x.H<0:=by omega
      rw[Kn c] at ha;have hz:=aa (j+1) ha;simp +contextual -implicitDefEqProofs (maxSteps:=10^7) only[go_sem,seval,↓gZ,g1,g2,g3,g4,t1,t2,e1,c',ag,ae];refine ih (i+1) _ ⟨by omega,by omega⟩ (by omega) ?_;simp +contextual -implicitDefEqProofs (maxSteps:=10^7) only[go_sem,seval,↓gZ,hz,hr]
  ·have:i=n:=by omega
   subst this;have ak:Wt i i=[]:=by unfold Wt;rw[Nat.sub_self];rfl
   simp +contextual -implicitDefEqProofs (maxSteps:=10^7) only[go_sem,seval,↓gZ,ak,Lf]
theorem Zp4 (W H:Int) (ps:List Pane) (n:Nat) (hn:n≤ps.length) (hp:ps.length≤19) (ho:okP ps):Zj Xs Ms Zm [.own 0,(.d (J ((n:Nat)))),.clo QM [.ptr 1 0]] [.row 1 ((Wt n 0).map Qn) true false,.box [(.d (J W)),(.d (J H)),(.d (.sl (ps.map Pane.enc)))]]=some (.tup [],[.row 1 ((Qf (hI ps) n).map Qn) true false,.box [(.d (J W)),(.d (J H)),(.d (.sl (ps.map Pane.enc)))]]):=by
 have e1:=ZnV W H ps n hn (by omega) ho;have g1:¬(20:Int)≤(n:Int):=by omega
 have g2:¬(20:Int)<(n:Int):=by omega
 refine cE ?_;simp +contextual -implicitDefEqProofs (maxSteps:=10^7) only[go_sem,seval,↓gZ,XD];refine XK Xs Ms ?_;simp +contextual -implicitDefEqProofs (maxSteps:=10^7) only[go_sem,seval,↓gZ,g1,e1];refine XK Xs Ms ?_;simp +contextual -implicitDefEqProofs (maxSteps:=10^7) only[go_sem,seval,↓gZ,g2]
theorem ZiW (W H:Int) (ps:List Pane) (n:Nat) (hn:n≤ps.length) (hp:ps.length≤19) (ho:okP ps):Zj Xs Ms Zk [.own 0,.clo QM [.ptr 1 0]] [.row 1 ((Wt n 0).map Qn) true false,.box [(.d (J W)),(.d (J H)),(.d (.sl (ps.map Pane.enc)))]]=some (.tup [],[.row 1 ((Qf (hI ps) n).map Qn) true false,.box [(.d (J W)),(.d (J H)),(.d (.sl (ps.map Pane.enc)))]]):=by
 have e1:=Zp4 W H ps n hn hp ho;have hl:(Wt n 0).length=n:=by rw[ZbF];rfl
 refine cE ?_;simp +contextual -implicitDefEqProofs (maxSteps:=10^7) only[go_sem,seval,↓gZ,Xm,e1,hl]
def Za1 (n i:Nat):List Int:=Wt i 0++List.replicate (n-i) 0
theorem Zp5 {n i:Nat} (h:i<n):((Za1 n i).map Qn).set i (J (i:Int))=(Za1 n (i+1)).map Qn:=by
 have e1:Wt (i+1) 0=Wt i 0++[(i:Int)]:=by
  unfold Wt;rw[LV,LV,List.range'_1_concat,KX,Lo];rfl
 have hl:(Wt i 0).length=i:=by rw[ZbF];rfl
 obtain⟨d,hd⟩:∃ d,n-i=d+1:=⟨n-i-1,by omega⟩
 unfold Za1;rw[e1,hd,show n-(i+1)=d by omega,LC,KX,List.set_append_right _ _ (by rw[Kw,hl];exact Kh _),Kw,hl,Nat.sub_self,Lz,KX];rfl
theorem Zkc {n i:Nat} (h:i≤n):(Za1 n i).length=n:=by
 unfold Za1;rw[Kj,ZbF,List.length_replicate];omega
theorem Zrc {n i:Nat} (h:i<n):((Za1 n i).map Qn)[i]?=some (J 0):=by
 have hl:(Wt i 0).length=i:=by rw[ZbF];rfl
 obtain⟨d,hd⟩:∃ d,n-i=d+1:=⟨n-i-1,by omega⟩
 rw[Kx];unfold Za1;rw[Kp (by rw[hl];exact Kh _),hl,Nat.sub_self,hd];rfl
theorem ZnW (n:Nat):List.replicate n (D.int .i64 0)=(Za1 n 0).map Qn:=by
 unfold Za1 Wt;simp[Qn]
theorem Zk7 (W H:Int) (ps:List Pane) (n:Nat) (hn:n≤ps.length) (hp:ps.length≤19) (ho:okP ps):Zj Xs Ms Vq [(.d (J ((n:Nat)))),.clo QM [.ptr 0 0]] [.box [(.d (J W)),(.d (J H)),(.d (.sl (ps.map Pane.enc)))]]=some (.own 1,[.box [(.d (J W)),(.d (J H)),(.d (.sl (ps.map Pane.enc)))],.row 1 ((Qf (hI ps) n).map Qn) true false]):=by
 have e1:=ZiW W H ps n hn hp ho;have r1:((n:Nat):Int)*8≤140737488355328∧((n:Nat):Int)≤140737488355328:=by omega
 have ab:=Zkc (n:=n) (i:=0) (by omega);refine cE ?_;simp +contextual -implicitDefEqProofs (maxSteps:=10^7) only[go_sem,seval,↓gZ,JN,r1,ZnW,ab];refine LO (α:=Nat) (fun i=>[(11,.d (J (i:Int)))]) (fun i=>[(1,.row 1 ((Za1 n i).map Qn) true false)]) (fun i=>i≤n) (fun i=>n-i) 0 (by omega) ?_;intro i hi ih;by_cases aa:i<n
 ·have ad:=ZD (k:=i) (by omega);have f1:=Zp5 aa;have f2:=Zrc aa;have f3:=Zkc hi;simp +contextual -implicitDefEqProofs (maxSteps:=10^7) only[go_sem,seval,↓gZ,aa,ad,f1,f2,f3,LB];refine ih (i+1) _ (by omega) (by omega) ?_;simp +contextual -implicitDefEqProofs (maxSteps:=10^7) only[go_sem,seval,↓gZ]
 ·have:i=n:=by omega
  subst this;have f4:Za1 i i=Wt i 0:=by unfold Za1;simp
  simp +contextual -implicitDefEqProofs (maxSteps:=10^7) only[go_sem,seval,↓gZ,f4,e1]
end Go.Proofs.Ytefabmohhbhlfaa
