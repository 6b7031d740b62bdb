/- Own text. -/
import Derived.Test.YtbpekaejmjlmfaaGreatACode
import Derived.Test.YtbpekaejmjlmfaaGreatAbsParts
import Derived.Test.YtbpekaejmjlmfaaGreatAC19
import Derived.Test.YtbpekaejmjlmfaaGreatAC1
import Derived.Test.YtbpekaejmjlmfaaGreatAC16
namespace Go.Proofs.YtbpekaejmjlmfaaGreat
open Go Go.Abs Go.Abs.E Go.Abs.L
open Nat (reduceMul reduceSub reduceLeDiff reduceEqDiff)
open Int (reduceLE reduceEq reduceToNat reduceNeg)
set_option linter.unusedSimpArgs false
set_option linter.unusedVariables false
set_option maxRecDepth 20000
set_option maxHeartbeats 4000000
def Xp (K:List (Int×Int)) (n:Int):Nat:=(K.filter fun q=>q.2==n).length
def wts (K:List (Int×Int)):Int→List Int→List Int
 | _,[]=>[]
 | w,n :: r=>w :: wts K (w-1+Xp K n) r
def dlt (K:List (Int×Int)):List Int→Int
 | []=>0
 | n :: r=>(Xp K n:Int)-1+dlt K r
theorem JJ (K:List (Int×Int)):∀ (s r:List Int) (w:Int),wts K w (s++r)=wts K w s++wts K (w+dlt K s) r
 | [],r,w=>by simp[wts,dlt]
 | n :: s,r,w=>by
  simp only[KK,wts,dlt,JJ K s r];congr 3;omega
theorem ZcY (K:List (Int×Int)):∀ (s r:List Int),dlt K (s++r)=dlt K s+dlt K r
 | [],r=>by simp[dlt]
 | n :: s,r=>by simp only[KK,dlt,ZcY K s r];omega
def isC:BT→Nat
 | .cut _ _ _ _=>1
 | .waste=>0
 | .pane _ _=>0
theorem Zac (A B:List (Int×Int)) (m:Int):Xp (A++B) m=Xp A m+Xp B m:=by simp[Xp]
theorem ZcZ (q:Int×Int) (B:List (Int×Int)) (m:Int):Xp (q :: B) m=(if q.2=m then 1 else 0)+Xp B m:=by
 unfold Xp;by_cases h:q.2=m
 ·simp[h];omega
 ·simp[h]
theorem ZfD {B:List (Int×Int)} {m:Int} (h:∀ q∈B,q.2≠m):Xp B m=0:=by
 unfold Xp;rw[List.length_eq_zero_iff,List.filter_eq_nil_iff];intro q hq;simpa using h q hq
theorem ZsL:∀ (b:BT) (n a:Int),a<n→Xp (kn b n a) a=isC b
 | .waste,n,a,_=>rfl
 | .pane _ _,n,a,_=>rfl
 | .cut d c l r,n,a,h=>by
  rw[kn,ZcZ,Zac,Kl rfl,ZfD,ZfD]
  ·rfl
  ·intro q hq;have:=UX hq;omega
  ·intro q hq;have:=UX hq;omega
theorem ZCx {d:Bool} {c:Int} {l r:BT} {n a m:Int} (ha:a<n) (h1:n+1≤m) (h2:m<n+1+l.cnt):Xp (kn (.cut d c l r) n a) m=Xp (kn l (n+1) n) m:=by
 rw[kn,ZcZ,Zac,Ki (by simp only;omega),ZfD (B:=kn r (n+1+l.cnt) n)]
 ·omega
 ·intro q hq;have:=UX hq;omega
theorem ZCy {d:Bool} {c:Int} {l r:BT} {n a m:Int} (ha:a<n) (h1:n+1+l.cnt≤m) (h2:m<n+1+l.cnt+r.cnt):Xp (kn (.cut d c l r) n a) m=Xp (kn r (n+1+l.cnt) n) m:=by
 rw[kn,ZcZ,Zac,Ki (by simp only;omega),ZfD (B:=kn l (n+1) n)]
 ·omega
 ·intro q hq;have:=UX hq;omega
theorem ZCz {d:Bool} {c:Int} {l r:BT} {n a:Int} (ha:a<n):Xp (kn (.cut d c l r) n a) n=isC l+isC r:=by
 rw[kn,ZcZ,Zac,Ki (by simp only;omega),ZsL l (n+1) n (by omega),ZsL r (n+1+l.cnt) n (by omega)];omega
theorem ZoZ {b:BT}:isC b=1↔1≤X2 b:=by
 cases b with
 | cut d c l r=>
  have h1:=V5 l;have h2:=V5 r;simp only[isC,X2];split<;>simp<;>omega
 | _=>simp[isC,X2]
theorem Zxr {K:List (Int×Int)}:∀ {b:BT} {n a:Int},a<n→(∀ m,n≤m→m<n+b.cnt→Xp K m=Xp (kn b n a) m)→dlt K (Qw b n)=-(isC b:Int)∧∀ w:Int,(∀ v∈wts K w (Qw b n),v≤w-1+X2 b)∧(isC b=1→w-1+X2 b∈wts K w (Qw b n))
 | .waste,n,a,_,_=>by simp[Qw,dlt,isC,wts]
 | .pane _ _,n,a,_,_=>by simp[Qw,dlt,isC,wts]
 | .cut d c l r,n,a,ha,hK=>by
  simp only[BT.cnt] at hK;have h0:Xp K n=isC l+isC r:=by rw[hK n (by omega) (by omega),ZCz ha]
  obtain⟨dl,wl⟩:=Zxr (K:=K) (b:=l) (n:=n+1) (a:=n) (by omega) fun m h1 h2=>by rw[hK m (by omega) (by omega),ZCx ha h1 h2]
  obtain⟨dr,wr⟩:=Zxr (K:=K) (b:=r) (n:=n+1+l.cnt) (a:=n) (by omega) fun m h1 h2=>by rw[hK m (by omega) (by omega),ZCy ha h1 h2]
  have pl:=ZoZ (b:=l);have pr:=ZoZ (b:=r);have aa:isC l=0∨isC l=1:=by cases l<;>simp[isC]
  have ab:isC r=0∨isC r=1:=by cases r<;>simp[isC]
  have zl:isC l=0→X2 l=0:=fun h=>by have:=V5 l;omega
  have zr:isC r=0→X2 r=0:=fun h=>by have:=V5 r;omega
  have el:isC l=0→Qw l (n+1)=[]:=fun h=>by cases l<;>first | rfl | cases h
  have er:isC r=0→Qw r (n+1+l.cnt)=[]:=fun h=>by cases r<;>first | rfl | cases h
  have e1:isC (.cut d c l r)=1:=rfl;simp only[Qw,X2,e1];by_cases h:X2 r<X2 l
  ·simp only[h,Kk];have af:¬X2 l=X2 r:=by omega
   simp only[af,Kj];refine⟨by simp only[dlt,ZcY,dl,dr,h0];push_cast;omega,fun w=>⟨fun v hv=>?_,fun _=>?_⟩⟩
   ·simp only[wts,JJ,h0,dr,Kg,Kf] at hv;rcases hv with rfl | hv | hv
    ·omega
    ·rcases ab with ag | ah
     ·rw[er ag] at hv;simp[wts] at hv
     ·have:=(wr _).1 v hv;omega
    ·have:=(wl _).1 v hv;omega
   ·simp only[wts,JJ,h0,dr,Kg,Kf];right;right
    have:=(wl (w-1+((isC l+isC r:Nat):Int)+-(isC r:Int))).2 (by omega);have e:w-1+((isC l+isC r:Nat):Int)+-(isC r:Int)-1+X2 l=w-1+max (X2 l) (X2 r):=by omega
    rw[← e];exact this
  ·simp only[h,Kj];by_cases he:X2 l=X2 r
   ·simp only[he,Kk];refine⟨by simp only[dlt,ZcY,dl,dr,h0];push_cast;omega,fun w=>⟨fun v hv=>?_,fun _=>?_⟩⟩
    ·simp only[wts,JJ,h0,dl,Kg,Kf] at hv;rcases hv with rfl | hv | hv
     ·have:=V5 r;omega
     ·have:=(wl _).1 v hv;omega
     ·have:=(wr _).1 v hv;omega
    ·simp only[wts,JJ,h0,dl,Kg,Kf];rcases aa with ad | ae
     ·left;have:=zl ad;omega
     ·right;left
      have:=(wl (w-1+((isC l+isC r:Nat):Int))).2 ae;have ah:isC r=1:=by omega
      have e:w-1+((isC l+isC r:Nat):Int)-1+X2 l=w-1+(X2 r+1):=by omega
      rw[← e];exact this
   ·simp only[he,Kj];refine⟨by simp only[dlt,ZcY,dl,dr,h0];push_cast;omega,fun w=>⟨fun v hv=>?_,fun _=>?_⟩⟩
    ·simp only[wts,JJ,h0,dl,Kg,Kf] at hv;rcases hv with rfl | hv | hv
     ·have:=V5 l;omega
     ·rcases aa with ad | ae
      ·rw[el ad] at hv;simp[wts] at hv
      ·have:=(wl _).1 v hv;omega
     ·have:=(wr _).1 v hv;omega
    ·simp only[wts,JJ,h0,dl,Kg,Kf];right;right
     have:=(wr (w-1+((isC l+isC r:Nat):Int)+-(isC l:Int))).2 (by have:=V5 l;omega);have e:w-1+((isC l+isC r:Nat):Int)+-(isC l:Int)-1+X2 r=w-1+max (X2 l) (X2 r):=by omega
     rw[← e];exact this
def hiL:List Int→Int
 | []=>0
 | x :: r=>max (hiL r) x
theorem hiL_eq {l:List Int} {m:Int} (h0:0≤m) (h1:∀ v∈l,v≤m) (h2:m=0∨m∈l):hiL l=m:=by
 have aa:∀ l:List Int,0≤hiL l∧(∀ v∈l,v≤hiL l)∧∀ m:Int,0≤m→(∀ v∈l,v≤m)→hiL l≤m:=by
  intro l
  induction l with
  | nil=>simp[hiL]
  | cons x r ih=>
   obtain⟨k1,k2,k3⟩:=ih;refine⟨by simp only[hiL];omega,fun v hv=>?_,fun m hm hv=>?_⟩
   ·simp only[hiL];rcases Kg.1 hv with rfl | hv
    ·omega
    ·have:=k2 v hv;omega
   ·have:=k3 m hm fun v h=>hv v (by simp[h]);have:=hv x (by simp);simp only[hiL];omega
 obtain⟨k1,k2,k3⟩:=aa l;have:=k3 m h0 h1;rcases h2 with rfl | h2
 ·omega
 ·have:=k2 m h2;omega
theorem ZzL (b:BT):hiL (wts (kn b 0 (-1)) 1 (Qw b 0))=X2 b:=by
 obtain⟨_,h⟩:=Zxr (K:=kn b 0 (-1)) (b:=b) (n:=0) (a:=-1) (by decide) fun _ _ _=>rfl;obtain⟨h1,h2⟩:=h 1;have hp:=ZoZ (b:=b);have aa:isC b=0∨isC b=1:=by cases b<;>simp[isC]
 have hc:=V5 b;refine hiL_eq hc.1 (fun v hv=>by have:=h1 v hv;omega) ?_;rcases aa with h0 | h0
 ·left;omega
 ·right
  have:=h2 h0;have e:(1:Int)-1+X2 b=X2 b:=by omega
  rw[← e];exact this
def Y3 (q:Part):Option Int:=match q.plan with
 | .mk o _ _ _ _=>if o=2 then some q.box.H else if o=3 then some q.box.W else none
def Zba:BT→Int→Int→Int→Int→List Int
 | .cut d a l r,x,y,w,h=>(if d then h else w) :: if d then Zba l x y a h++Zba r (x+a) y (w-a) h else Zba l x y w a++Zba r x (y+a) w (h-a)
 | .waste,_,_,_,_=>[]
 | .pane _ _,_,_,_,_=>[]
theorem Zc0:∀ (b:BT) (x y w h:Int),(pt b x y w h).filterMap Y3=Zba b x y w h
 | .waste,x,y,w,h=>rfl
 | .pane i t,x,y,w,h=>rfl
 | .cut d a l r,x,y,w,h=>by
  cases d
  ·have e:Y3 ⟨(BT.cut false a l r).plan,⟨x,y,w,h⟩⟩=some w:=rfl;simp[pt,Zba,Lq,Le,e,Zc0]
  ·have e:Y3 ⟨(BT.cut true a l r).plan,⟨x,y,w,h⟩⟩=some h:=rfl;simp[pt,Zba,Lq,Le,e,Zc0]
theorem ZcG:∀ (b:BT) (x y w h n a:Int),(Zba b x y w h).length=(kn b n a).length
 | .waste,x,y,w,h,n,a=>rfl
 | .pane i t,x,y,w,h,n,a=>rfl
 | .cut d c l r,x,y,w,h,n,a=>by
  cases d
  ·simp only[Zba,kn,Km,Kp,Ka,Kj,ZcG l x y w c (n+1) n,ZcG r x (y+c) w (h-c) (n+1+l.cnt) n]
  ·simp only[Zba,kn,Km,Kp,Kk,ZcG l x y c h (n+1) n,ZcG r (x+c) y (w-c) h (n+1+l.cnt) n]
theorem ZbN {ps:List Pane}:∀ {b:BT} {x y w h:Int},QF ps b w h=true→0≤w→w≤200→0≤h→h≤200→∀ v∈Zba b x y w h,0≤v∧v≤200
 | .waste,x,y,w,h,_,_,_,_,_=>by simp[Zba]
 | .pane i t,x,y,w,h,_,_,_,_,_=>by simp[Zba]
 | .cut d c l r,x,y,w,h,hf,h1,h2,h3,h4=>by
  have hc:=ZvG hf;intro v hv;cases d
  ·simp only[Ka,Kj] at hc;simp only[QF,Kd,Ka,Kj,Kr] at hf;simp only[Zba,Ka,Kj,Kg,Kf] at hv;rcases hv with rfl | hv | hv
   ·omega
   ·exact ZbN hf.1.2 h1 h2 (by omega) (by omega) v hv
   ·exact ZbN hf.2 h1 h2 (by omega) (by omega) v hv
  ·simp only[Kk] at hc;simp only[QF,Kd,Kk,Kr] at hf;simp only[Zba,Kk,Kg,Kf] at hv;rcases hv with rfl | hv | hv
   ·omega
   ·exact ZbN hf.1.2 (by omega) (by omega) h3 h4 v hv
   ·exact ZbN hf.2 (by omega) (by omega) h3 h4 v hv
def Zc1:List Int→Int
 | []=>0
 | x :: r=>x+Zc1 r
theorem ZzM {l m:List Int} (h:l.Perm m):Zc1 l=Zc1 m:=by
 induction h with
 | nil=>rfl
 | cons x _ ih=>simp only[Zc1,ih]
 | swap x y l=>simp only[Zc1];omega
 | trans _ _ h1 h2=>exact h1.trans h2
theorem ZvJ:∀ (l:List Int) (k:Nat) (n:Int),ZO k l n<((k+l.length:Nat):Int)
 | [],k,n=>by simp[ZO];omega
 | x :: l,k,n=>by
  have:=ZvJ l (k+1) n;unfold ZO;simp only[Km];split<;>omega
def Zhb (N C:List Int) (m:Int):Int:=(C[(ZO 0 N m).toNat]?).getD 0
theorem ZvK:∀ {N:List Int} {k i:Nat} {m:Int},N.Nodup→N[i]?=some m→ZO k N m=((k+i:Nat):Int)
 | [],k,i,m,_,h=>by simp at h
 | x :: N,k,0,m,hn,h=>by simp at h;subst h;simp[ZO]
 | x :: N,k,i+1,m,hn,h=>by
  rw[KR] at hn;simp only[KF] at h;have hm:=Kb h;have hx:¬x=m:=fun e=>hn.1 (e ▸ hm);simp only[ZO,hx,Kj,ZvK hn.2 h];congr 1;omega
theorem ZzN {N C:List Int} (hn:N.Nodup) (hl:C.length=N.length):N.map (Zhb N C)=C:=by
 refine Lr fun i=>?_;rw[Lc];cases h:N[i]? with
 | none=>
  have:=List.getElem?_eq_none_iff.1 h;rw[KU (by omega)];rfl
 | some m=>
  have hi:=(Kc.1 h).1;obtain⟨c,hc⟩:=Zl (l:=C) (k:=i) (by omega);simp only[Ld,Zhb,ZvK hn h,K4,KA,hc,Option.getD_some]
theorem ZmE {α:Type} [DecidableEq α]:∀ {l m:List α},l.Nodup→(∀ x∈l,x∈m)→l.length=m.length→l.Perm m
 | [],m,_,_,h=>by rw[Ks h.symm]
 | x :: l,m,hn,hs,h=>by
  rw[KR] at hn;have hx:=hs x (by simp);have ih:=ZmE (l:=l) (m:=m.erase x) hn.2 (fun y hy=>(List.mem_erase_of_ne (by rintro rfl;exact hn.1 hy)).2 (hs y (by simp[hy]))) (by rw[List.length_erase_of_mem hx];simp only[Km] at h;omega);exact(ih.cons x).trans (List.perm_cons_erase hx).symm
theorem ZzO {b:BT} {s C:List Int} (ho:okS (kn b 0 (-1)) [] s=true) (hl:s.length=(kn b 0 (-1)).length) (hC:C.length=(kn b 0 (-1)).length):Zc1 (s.map (Zhb ((kn b 0 (-1)).map Prod.fst) C))=Zc1 C:=by
 obtain⟨h1,h2⟩:=Zon ho Lk;have hp:=ZmE (by simpa using h1) h2 (by simpa using hl);rw[ZzM (hp.map _),ZzN (Zg8 b 0 (-1)) (by simpa using hC)]
end Go.Proofs.YtbpekaejmjlmfaaGreat
namespace Go.Proofs.YtbpekaejmjlmfaaGreat
open Go Go.Abs Go.Abs.E Go.Abs.L
open Nat (reduceMul reduceSub reduceLeDiff reduceEqDiff)
open Int (reduceLE reduceEq reduceToNat reduceNeg)
set_option linter.unusedSimpArgs false
set_option linter.unusedVariables false
set_option maxRecDepth 20000
set_option maxHeartbeats 4000000
theorem Zhc (b:BT) (hc:b.cnt≤255):Zd Xs Ms Wj [.d b.plan.enc] []=some (.own 0,[.row 1 (((kn b 0 (-1)).map Prod.fst).map Qg) true false]):=by
 have e1:=Zct b.plan;have hk:Zg6 b.plan=kn b 0 (-1):=by unfold Zg6;rw[XA];simp only[hc,Kk]
 have ae:=JH b 0 (-1);rw[hk] at e1;obtain⟨q1,q2,q3,q4,q5,ad⟩:∃ a b' c d e,b.plan=.mk a b' c d e:=by cases hq:b.plan;exact⟨_,_,_,_,_,rfl⟩
 rw[ad,Ze.enc_mk] at e1 ⊢;generalize kn b 0 (-1)=K at *;refine cE ?_;simp +contextual -implicitDefEqProofs (maxSteps:=10^7) only[go_sem,seval,↓gZ,Zew,e1];refine LO (α:=Nat) (fun i=>[(15,.d (J (i:Int)))]) (fun i=>[(1,.row 1 (((K.take i).map Prod.fst).map Qg) true false)]) (fun i=>i≤K.length) (fun i=>K.length-i) 0 (by omega) ?_;intro i hi ih;by_cases aa:i<K.length
 ·obtain⟨⟨m,ab⟩,hx⟩:=Zl aa;have hw:=Zh (k:=i) (by omega);have hr:((K.take i).length+1)*8≤140737488355328∧(K.take i).length≤140737488355327:=by
   have:(K.take i).length≤i:=by simp;omega
   omega
  have ht:((K.take (i+1)).map Prod.fst).map Qg=((K.take i).map Prod.fst).map Qg++[J m]:=by
   rw[Kw,hx];simp[Qg]
  simp +contextual -implicitDefEqProofs (maxSteps:=10^7) only[go_sem,seval,↓gZ,hx,aa,hw,hr];refine ih (i+1) _ (by omega) (by omega) ?_;simp +contextual -implicitDefEqProofs (maxSteps:=10^7) only[go_sem,seval,↓gZ,ht]
 ·have:i=K.length:=by omega
  subst this;simp +contextual -implicitDefEqProofs (maxSteps:=10^7) only[go_sem,seval,↓gZ,Lo]
theorem ZvL {K:List (Int×Int)}:∀ {s:List Int} {i:Nat} {n w:Int},s[i]?=some n→wts K w (s.take (i+1))=wts K w (s.take i)++[w+dlt K (s.take i)]
 | [],i,n,w,h=>by simp at h
 | x :: s,0,n,w,h=>by simp[wts,dlt]
 | x :: s,i+1,n,w,h=>by
  simp only[KF] at h;have e:∀ d:Int,w-1+(Xp K x:Int)+d=w+((Xp K x:Int)-1+d):=fun d=>by omega
  simp only[L5,wts,dlt,ZvL h,KK,e]
theorem ZA8 {K:List (Int×Int)} {s:List Int} {i:Nat} {n:Int} (h:s[i]?=some n):dlt K (s.take (i+1))=dlt K (s.take i)+((Xp K n:Int)-1):=by
 rw[Kw,h,Ly,ZcY];simp[dlt]
theorem ZA9 {K:List (Int×Int)}:∀ (s:List Int),-(s.length:Int)≤dlt K s∧dlt K s≤(s.length:Int)*K.length
 | []=>by simp[dlt]
 | n :: s=>by
  have:=ZA9 (K:=K) s;have hc:Xp K n≤K.length:=LL _ _;simp only[dlt,Km];have e:((s.length+1:Nat):Int)*(K.length:Int)=(s.length:Int)*K.length+K.length:=by push_cast;rw[Int.add_mul];omega
  rw[e];constructor<;>omega
theorem Zxs {K:List (Int×Int)} {j:Nat} {q:Int×Int} {n:Int} (h:K[j]?=some q):Xp (K.take (j+1)) n=Xp (K.take j) n+if q.2=n then 1 else 0:=by
 rw[Kw,h,Ly,Zac,ZcZ];simp[Xp]
theorem Zt7 (K:List (Int×Int)):∀ (s:List Int) (w:Int),(wts K w s).length=s.length
 | [],_=>rfl
 | _ :: s,w=>by simp[wts,Zt7 K s]
theorem Zo0 (b:BT) (s:List Int) (hc:b.cnt≤255) (ho:okS (kn b 0 (-1)) [] s=true) (hl:s.length=(kn b 0 (-1)).length):Zd Xs Ms Jb [.d b.plan.enc,.d (.sl (s.map Qg))] []=some (.own 0,[.row 1 ((wts (kn b 0 (-1)) 1 s).map Qg) true false]):=by
 have e1:=Zct b.plan;have hk:Zg6 b.plan=kn b 0 (-1):=by unfold Zg6;rw[XA];simp only[hc,Kk]
 have am:=JH b 0 (-1);have e2:=ZgO b.plan s (by omega);have ae:wfP b.plan=true:=by
  have hz:=Ql 255 b;have:=b.cnt_pos;unfold wfP;rw[XA];exact Ke (by omega)
 rw[hk] at e1 e2;rw[ae,ho,Ke hl] at e2;simp only[Bool.and_self] at e2;obtain⟨q1,q2,q3,q4,q5,af⟩:∃ a b' c d e,b.plan=.mk a b' c d e:=by cases hq:b.plan;exact⟨_,_,_,_,_,rfl⟩
 rw[af,Ze.enc_mk] at e1 e2 ⊢;have ag:(kn b 0 (-1)).length≤255:=by omega
 clear ho hk ae af;generalize kn b 0 (-1)=K at *;have ah:∀ i,i≤s.length→-255≤dlt K (s.take i)∧dlt K (s.take i)≤65025:=fun i hi=>by
  obtain⟨k1,k2⟩:=ZA9 (K:=K) (s.take i);have an:(s.take i).length≤255:=by simp;omega
  have:((s.take i).length:Int)*(K.length:Int)≤255*255:=by
   refine Int.le_trans (Int.mul_le_mul_of_nonneg_right (by omega:((s.take i).length:Int)≤255) (by omega)) ?_;omega
  omega
 refine cE ?_;simp +contextual -implicitDefEqProofs (maxSteps:=10^7) only[go_sem,seval,↓gZ,Zey,e1,e2];refine XP Xs Ms (st0:=?st0) (α:=Nat) (fun i=>[(24,.d (J (i:Int))),(8,.d (J (1+dlt K (s.take i))))]) (fun i=>[(0,.row 1 ((wts K 1 (s.take i)).map Qg) true false)]) (fun i=>i≤s.length) (fun i=>s.length-i) 0 ?hc (by omega) ?h0 ?step
 case hc=>simp +contextual -implicitDefEqProofs (maxSteps:=10^7) only[go_sem,seval,↓gZ]<;>exact rfl
 case h0=>simp only[Kaj,wts,dlt];rfl
 case step=>
  intro i hi ih;by_cases ai:i<s.length
  ·obtain⟨n,hx⟩:=Zl ai;have hw:=Zh (k:=i) (by omega);have hb1:=ah i hi;have hb2:=ah (i+1) (by omega);have ao:=ZA8 (K:=K) hx;have al:=ZvL (K:=K) (w:=1) hx;have ap:=Zt7 K (s.take i) 1;have aq:(s.take i).length=i:=by simp;omega
   have hr:((wts K 1 (s.take i)).length+1)*8≤140737488355328∧(wts K 1 (s.take i)).length≤140737488355327:=by omega
   have w1:=wi (1+dlt K (s.take i)-1) (by omega) (by omega);simp +contextual -implicitDefEqProofs (maxSteps:=10^7) only[go_sem,seval,↓gZ,hx,ai,hw,hr,w1];refine XP Xs Ms (st0:=?st1) (α:=Nat) (fun j=>[(36,.d (J (j:Int))),(8,.d (J (1+dlt K (s.take i)-1+Xp (K.take j) n)))]) (fun _=>[]) (fun j=>j≤K.length) (fun j=>K.length-j) 0 ?hc2 (by omega) ?h02 ?step2
   case hc2=>simp +contextual -implicitDefEqProofs (maxSteps:=10^7) only[go_sem,seval,↓gZ]<;>exact rfl
   case h02=>simp only[Kaj,Xp,List.filter_nil,KI,Int.natCast_zero,Int.add_zero];rfl
   case step2=>
    intro j hj aj;by_cases aa:j<K.length
    ·obtain⟨⟨m,ab⟩,hy⟩:=Zl aa;have ak:=Zh (k:=j) (by omega);have ad:=Zxs (n:=n) hy;have ar:Xp (K.take j) n≤255:=by
      have h1:Xp (K.take j) n≤(K.take j).length:=LL _ _;have h2:(K.take j).length≤j:=by simp;omega
      omega
     simp only at ad;by_cases he:ab=n
     ·rw[Kl he] at ad;have w2:=wi (1+dlt K (s.take i)-1+((Xp (K.take j) n:Nat):Int)+1) (by omega) (by omega);have e3:1+dlt K (s.take i)-1+((Xp (K.take (j+1)) n:Nat):Int)=1+dlt K (s.take i)-1+((Xp (K.take j) n:Nat):Int)+1:=by omega
      simp +contextual -implicitDefEqProofs (maxSteps:=10^7) only[go_sem,seval,↓gZ,hy,aa,ak,he,w2];refine aj (j+1) _ (by omega) (by omega) ?_;simp +contextual -implicitDefEqProofs (maxSteps:=10^7) only[go_sem,seval,↓gZ,e3]
     ·rw[Ki he] at ad;have e6:((Xp (K.take (j+1)) n:Nat):Int)=((Xp (K.take j) n:Nat):Int):=by omega
      simp +contextual -implicitDefEqProofs (maxSteps:=10^7) only[go_sem,seval,↓gZ,hy,aa,ak,he];refine aj (j+1) _ (by omega) (by omega) ?_;simp +contextual -implicitDefEqProofs (maxSteps:=10^7) only[go_sem,seval,↓gZ,e6]
    ·have:j=K.length:=by omega
     subst this;have e4:1+dlt K (s.take (i+1))=1+dlt K (s.take i)-1+((Xp K n:Nat):Int):=by omega
     have e5:(wts K 1 (s.take (i+1))).map Qg=(wts K 1 (s.take i)).map Qg++[J (1+dlt K (s.take i))]:=by rw[al,KG];rfl
     simp +contextual -implicitDefEqProofs (maxSteps:=10^7) only[go_sem,seval,↓gZ,Lo,hw];refine ih (i+1) _ (by omega) (by omega) ?_;simp +contextual -implicitDefEqProofs (maxSteps:=10^7) only[go_sem,seval,↓gZ,e4,e5]
  ·have:i=s.length:=by omega
   subst this;simp +contextual -implicitDefEqProofs (maxSteps:=10^7) only[go_sem,seval,↓gZ,Lo]
theorem ZBa {l:List Int} {i:Nat} {x:Int} (h:l[i]?=some x):hiL (l.take (i+1))=max (hiL (l.take i)) x:=by
 have aa:∀ (a:List Int),hiL (a++[x])=max (hiL a) x:=by
  intro a
  induction a with
  | nil=>simp[hiL]
  | cons y a ih=>simp only[KK,hiL,ih];omega
 rw[Kw,h,Ly,aa]
theorem Zt8 (l:List Int) (hl:l.length≤1048576):Zd Xs Ms ZbS [.d (.sl (l.map Qg))] []=some ((.d (J (hiL l))),[]):=by
 refine cE ?_;simp +contextual -implicitDefEqProofs (maxSteps:=10^7) only[go_sem,seval,↓gZ,Zho];refine LO (α:=Nat) (fun i=>[(4,.d (J (i:Int))),(3,.d (J (hiL (l.take i))))]) (fun _=>[]) (fun i=>i≤l.length) (fun i=>l.length-i) 0 (by omega) ?_;intro i hi ih;by_cases aa:i<l.length
 ·obtain⟨x,hx⟩:=Zl aa;have hw:=Zh (k:=i) (by omega);have hm:=ZBa hx;simp +contextual -implicitDefEqProofs (maxSteps:=10^7) only[go_sem,seval,↓gZ,hx,aa,hw];refine ih (i+1) _ (by omega) (by omega) ?_;simp +contextual -implicitDefEqProofs (maxSteps:=10^7) only[go_sem,seval,↓gZ,hm]
 ·have:i=l.length:=by omega
  subst this;simp +contextual -implicitDefEqProofs (maxSteps:=10^7) only[go_sem,seval,↓gZ,Lo]
theorem ZnF (b:BT) (hc:b.cnt≤255):Zd Xs Ms WW [.d b.plan.enc] []=some ((.d (J (X2 b))),[]):=by
 have hs:=Wi b.plan;rw[XA] at hs;have hz:=Ql 255 b;have e4:Zu 255 (some b)=(b.cnt:Int):=by omega
 have h0:¬(b.cnt:Int)<0:=by omega
 rw[e4] at hs;have e1:=Y2 b (by omega);obtain⟨q1,q2,q3,q4,q5,aa⟩:∃ a b' c d e,b.plan=.mk a b' c d e:=by cases hq:b.plan;exact⟨_,_,_,_,_,rfl⟩
 rw[aa,Ze.enc_mk] at hs e1 ⊢;refine cE ?_;simp +contextual -implicitDefEqProofs (maxSteps:=10^7) only[go_sem,seval,↓gZ,Zdf,hs,h0,e1]
theorem ZgR (kW kH:Int) (kP:List Pane) (p:Ze):Zd Xs Ms Vq [(.d (.agg [J kW,J kH,.sl (kP.map Pane.enc)])),.d p.enc] []=some (.own 0,[.row 1 (((ZU (Zs.mk kW kH kP) p).filterMap Y3).map Qg) true false]):=by
 have hv:=Zcu kW kH kP p;have hn:=JI (Zs.mk kW kH kP) p;generalize (!Q6 (Zs.mk kW kH kP) p)=e at hv;generalize ZU (Zs.mk kW kH kP) p=ps at hv hn ⊢;obtain⟨o,a,q,t,ks⟩:=p;rw[Ze.enc_mk] at hv ⊢;refine cE ?_;simp +contextual -implicitDefEqProofs (maxSteps:=10^7) only[go_sem,seval,↓gZ,Zdg,hv];refine LO (α:=Nat) (fun k=>[(12,.d (J (k:Int)))]) (fun k=>[(1,.row 1 (((ps.take k).filterMap Y3).map Qg) true false)]) (fun k=>k≤ps.length) (fun k=>ps.length-k) 0 (by omega) ?_;intro k hk ih;by_cases aa:k<ps.length
 ·obtain⟨x,hx⟩:=Zl aa;have hw:=Zh (k:=k) (by omega);have hm:=Za1 (f:=Y3) hx;have ab:((ps.take k).filterMap Y3).length≤k:=Kt (Kn _ _) (by simp;omega);have hr:(((ps.take k).filterMap Y3).length+1)*8≤140737488355328∧((ps.take k).filterMap Y3).length≤140737488355327:=by omega
  obtain⟨⟨o',a',q',t',ad⟩,⟨X,Y,W,H⟩⟩:=x;simp only[Y3] at hm;by_cases h2:o'=2
  ·rw[Kl h2] at hm;have e5:((ps.take (k+1)).filterMap Y3).map Qg=((ps.take k).filterMap Y3).map Qg++[J H]:=by rw[hm,KG];rfl
   simp +contextual -implicitDefEqProofs (maxSteps:=10^7) only[go_sem,seval,↓gZ,hx,aa,hw,h2,hr];refine ih (k+1) _ (by omega) (by omega) ?_;simp +contextual -implicitDefEqProofs (maxSteps:=10^7) only[go_sem,seval,↓gZ,e5]
  ·rw[Ki h2] at hm;by_cases h3:o'=3
   ·rw[Kl h3] at hm;have e5:((ps.take (k+1)).filterMap Y3).map Qg=((ps.take k).filterMap Y3).map Qg++[J W]:=by rw[hm,KG];rfl
    simp +contextual -implicitDefEqProofs (maxSteps:=10^7) only[go_sem,seval,↓gZ,hx,aa,hw,h2,h3,hr];refine ih (k+1) _ (by omega) (by omega) ?_;simp +contextual -implicitDefEqProofs (maxSteps:=10^7) only[go_sem,seval,↓gZ,e5]
   ·rw[Ki h3] at hm;have e5:((ps.take (k+1)).filterMap Y3).map Qg=((ps.take k).filterMap Y3).map Qg:=by rw[hm];simp
    simp +contextual -implicitDefEqProofs (maxSteps:=10^7) only[go_sem,seval,↓gZ,hx,aa,hw,h2,h3];refine ih (k+1) _ (by omega) (by omega) ?_;simp +contextual -implicitDefEqProofs (maxSteps:=10^7) only[go_sem,seval,↓gZ,e5]
 ·have:k=ps.length:=by omega
  subst this;simp +contextual -implicitDefEqProofs (maxSteps:=10^7) only[go_sem,seval,↓gZ,Lo]
theorem Zlz (l:List Int) (n:Int) (hl:l.length<4611686018427387904):Zd Xs Ms YS [.d (.sl (l.map Qg)),(.d (J n))] []=some ((.d (J (ZO 0 l n))),[]):=by
 refine cE ?_;simp +contextual -implicitDefEqProofs (maxSteps:=10^7) only[go_sem,seval,↓gZ,ZaD];refine LO (α:=Nat) (fun k=>[(8,.d (J (k:Int)))]) (fun _=>[]) (fun k=>k≤l.length∧ZO k (l.drop k) n=ZO 0 l n) (fun k=>l.length-k) 0 ⟨by omega,rfl⟩ ?_;intro k ⟨hk,hp⟩ ih;by_cases aa:k<l.length
 ·obtain⟨x,hx⟩:=Zl aa;rw[Zg1 hx] at hp;have hw:=Zh (k:=k) (by omega);by_cases h:x=n
  ·rw[Kl h] at hp;subst h;simp +contextual -implicitDefEqProofs (maxSteps:=10^7) only[go_sem,seval,↓gZ,hx,aa,hw];try (rw[← hp])
  ·rw[Ki h] at hp;have h' : ¬n=x:=fun e=>h e.symm;simp +contextual -implicitDefEqProofs (maxSteps:=10^7) only[go_sem,seval,↓gZ,hx,aa,hw,h,h'];refine ih (k+1) _ ⟨by omega,hp⟩ (by omega) ?_;simp +contextual -implicitDefEqProofs (maxSteps:=10^7) only[go_sem,seval,↓gZ]
 ·have:k=l.length:=by omega
  subst this;simp +contextual -implicitDefEqProofs (maxSteps:=10^7) only[go_sem,seval,↓gZ];rw[← hp];simp[ZO]
theorem ZlA (kW kH:Int) (kP:List Pane) (b:BT) (s:List Int) (hv:Q6 (Zs.mk kW kH kP) b.plan=true) (hc:b.cnt≤255) (ho:okS (kn b 0 (-1)) [] s=true) (hl:s.length=(kn b 0 (-1)).length) :
  Zd Xs Ms V9 [(.d (.agg [J kW,J kH,.sl (kP.map Pane.enc)])),.d b.plan.enc,.d (.sl (s.map Qg))] []=some (.own 0,[.row 1 ((s.map (Zhb ((kn b 0 (-1)).map Prod.fst) ((ZU (Zs.mk kW kH kP) b.plan).filterMap Y3))).map Qg) true false]):=by
 have e1:=WS kW kH kP b.plan;rw[hv] at e1;have am:=JH b 0 (-1);have hk:Zg6 b.plan=kn b 0 (-1):=by unfold Zg6;rw[XA];simp only[hc,Kk]
 have ad:wfP b.plan=true:=by
  have hz:=Ql 255 b;have:=b.cnt_pos;unfold wfP;rw[XA];exact Ke (by omega)
 have e2:=ZgO b.plan s (by omega);rw[hk,ad,ho,Ke hl] at e2;simp only[Bool.and_self] at e2;have e3:=Zhc b hc;have e4:=ZgR kW kH kP b.plan;have aj:((ZU (Zs.mk kW kH kP) b.plan).filterMap Y3).length=(kn b 0 (-1)).length:=by
  have ae:ZU (Zs.mk kW kH kP) b.plan=pt b 0 0 kW kH:=by
   unfold ZU;unfold Q6 at hv;rw[XA] at hv ⊢;simp only at hv ⊢;rw[Kl hv]
  rw[ae,Zc0,ZcG]
 obtain⟨_,aa⟩:=Zon ho Lk;obtain⟨q1,q2,q3,q4,q5,ab⟩:∃ a b' c d e,b.plan=.mk a b' c d e:=by cases hq:b.plan;exact⟨_,_,_,_,_,rfl⟩
 rw[ab] at aj;rw[ab,Ze.enc_mk] at e1 e2 e3 e4 ⊢;have af:(kn b 0 (-1)).length≤255:=by omega
 have an:((kn b 0 (-1)).map Prod.fst).length=(kn b 0 (-1)).length:=Kv _;clear ho hk ad ab hv;generalize (kn b 0 (-1)).map Prod.fst=N at *;generalize (kn b 0 (-1)).length=nk at *;generalize (ZU (Zs.mk kW kH kP) (.mk q1 q2 q3 q4 q5)).filterMap Y3=C at *;refine cE ?_;simp +contextual -implicitDefEqProofs (maxSteps:=10^7) only[go_sem,seval,↓gZ,Zcb,e1,e2,e3,e4];refine LO (α:=Nat) (fun i=>[(29,.d (J (i:Int)))]) (fun i=>[(0,.row 1 (((s.take i).map (Zhb N C)).map Qg) true false)]) (fun i=>i≤s.length) (fun i=>s.length-i) 0 (by omega) ?_;intro i hi ih;by_cases ag:i<s.length
 ·obtain⟨m,hx⟩:=Zl ag;have hw:=Zh (k:=i) (by omega);have ak:=aa m (Kb hx);have ei:=Zlz N m (by omega);have ao:=(ZsK N 0 m).1 ak;have ae:=ZvJ N 0 m;obtain⟨j,hj⟩:∃ j:Nat,ZO 0 N m=(j:Int):=⟨(ZO 0 N m).toNat,by omega⟩
  rw[hj] at ei;have ah:j<C.length:=by omega
  obtain⟨c,ai⟩:=Zl ah;have al:Zhb N C m=c:=by unfold Zhb;rw[hj,KA,ai];rfl
  have ap:(s.take i).length≤i:=by simp;omega
  have hr:((s.take i).length+1)*8≤140737488355328∧(s.take i).length≤140737488355327:=by omega
  have e5:((s.take (i+1)).map (Zhb N C)).map Qg=((s.take i).map (Zhb N C)).map Qg++[J c]:=by
   rw[Kw,hx];simp[al,Qg]
  simp +contextual -implicitDefEqProofs (maxSteps:=10^7) only[go_sem,seval,↓gZ,hx,ag,hw,ei,ai,ah,hr];refine ih (i+1) _ (by omega) (by omega) ?_;simp +contextual -implicitDefEqProofs (maxSteps:=10^7) only[go_sem,seval,↓gZ,e5]
 ·have:i=s.length:=by omega
  subst this;simp +contextual -implicitDefEqProofs (maxSteps:=10^7) only[go_sem,seval,↓gZ,Lo]
theorem ZzP {l:List Int} {i:Nat} {x:Int} (h:l[i]?=some x):Zc1 (l.take (i+1))=Zc1 (l.take i)+x:=by
 have aa:∀ (a:List Int),Zc1 (a++[x])=Zc1 a+x:=by
  intro a
  induction a with
  | nil=>simp[Zc1]
  | cons y a ih=>simp only[KK,Zc1,ih];omega
 rw[Kw,h,Ly,aa]
theorem Zy1:∀ {l:List Int},(∀ v∈l,0≤v∧v≤200)→0≤Zc1 l∧Zc1 l≤200*(l.length:Int)
 | [],_=>by simp[Zc1]
 | x :: l,h=>by
  have h1:=h x (by simp);have h2:=Zy1 (l:=l) fun v hv=>h v (by simp[hv]);simp only[Zc1,Km];push_cast;omega
theorem Zo1 (l:List Int) (hl:l.length≤1048576) (hv:∀ v∈l,0≤v∧v≤200):Zd Xs Ms ZcJ [.d (.sl (l.map Qg))] []=some ((.d (J (Zc1 l))),[]):=by
 refine cE ?_;simp +contextual -implicitDefEqProofs (maxSteps:=10^7) only[go_sem,seval,↓gZ,ZlL];refine LO (α:=Nat) (fun i=>[(4,.d (J (i:Int))),(3,.d (J (Zc1 (l.take i))))]) (fun _=>[]) (fun i=>i≤l.length) (fun i=>l.length-i) 0 (by omega) ?_;intro i hi ih;by_cases aa:i<l.length
 ·obtain⟨x,hx⟩:=Zl aa;have hw:=Zh (k:=i) (by omega);have hm:=ZzP hx;have hb:=Zy1 (l:=l.take i) fun v h=>hv v (K8 h);have ab:=hv x (Kb hx);have ad:(l.take i).length≤i:=by simp;omega
  have w1:=wi (Zc1 (l.take i)+x) (by omega) (by omega);simp +contextual -implicitDefEqProofs (maxSteps:=10^7) only[go_sem,seval,↓gZ,hx,aa,hw,w1];refine ih (i+1) _ (by omega) (by omega) ?_;simp +contextual -implicitDefEqProofs (maxSteps:=10^7) only[go_sem,seval,↓gZ,hm]
 ·have:i=l.length:=by omega
  subst this;simp +contextual -implicitDefEqProofs (maxSteps:=10^7) only[go_sem,seval,↓gZ,Lo]
theorem ZCA {s:Zm} {e:Zx} (hv:ZE s) (h:Vp s=some e):∃ (k:Zs) (b:BT),Zs2 s e.label=some k∧e.plan=b.plan∧Q6 k b.plan=true∧b.cnt≤255∧VW k∧QF k.Panes b k.W k.H=true:=by
 obtain⟨u,n,j,x,q,t,b,F⟩:=ZmD hv h;obtain⟨B,hB,h1,hw,h2,hf,_⟩:=QR F.good.1;refine⟨⟨q.W,q.H,s.Opn.map Zc.Pane⟩,B,?_,h1,by rw[← h1];exact F.good.1,h2,hw,hf⟩;have hl:e.label=q.Label:=by rw[F.fe];rfl
 have aa:=F.lab;rw[hl];unfold Zs2;rw[Kl hv,Zbl aa F.fq]
structure StepF (k:Zs) (b:BT) (T1 T2:List Box) (A C1 C2:List Int):Prop where
 r1:Zke k b.plan (Qw b 0)=some T1
 r2:Zke k b.plan ((kn b 0 (-1)).map Prod.fst)=some T2
 len:T1.length≤255∧T2.length≤255∧A.length≤255∧C1.length≤255∧C2.length≤255
 same:(∀ x∈T1,x∈T2)∧T1.length=T2.length
 vb:∀ x∈T1,VB x
 area:QT T1=k.W*k.H
 wt:A=wts (kn b 0 (-1)) 1 (Qw b 0)
 hi:hiL A=X2 b
 c1:C1=(Qw b 0).map (Zhb ((kn b 0 (-1)).map Prod.fst) ((ZU k b.plan).filterMap Y3))
 c2:C2=(ZU k b.plan).filterMap Y3
 s1:∀ v∈C1,0≤v∧v≤200
 s2:∀ v∈C2,0≤v∧v≤200
 tot:Zc1 C1=Zc1 C2
theorem Zxt {l m:List Box} (h:l.Perm m):QT l=QT m:=by
 induction h with
 | nil=>rfl
 | cons x _ ih=>simp only[QT,ih]
 | swap x y l=>simp only[QT];omega
 | trans _ _ h1 h2=>exact h1.trans h2
theorem stepF {k:Zs} {b:BT} (hv:Q6 k b.plan=true) (hc:b.cnt≤255) (hw:VW k) (hf:QF k.Panes b k.W k.H=true):∃ T1 T2 A C1 C2,StepF k b T1 T2 A C1 C2:=by
 obtain⟨W,H,ps⟩:=k;simp only at hf;have hg:Zeq ⟨0,0,W,H⟩:=by simp only[VW] at hw;unfold Zeq;simp only;omega
 obtain⟨b1,b2⟩:=Zy0 b;have n1:=ZA7 b;have ai:=JH b 0 (-1);have aj:=Zxq b 0 (-1);have ak:=Zjq b 0 (-1) ⟨0,0,W,H⟩;have p1:=ZoV (g:=⟨0,0,W,H⟩) hf hg b1 b2;have p2:=ZoV (g:=⟨0,0,W,H⟩) hf hg n1 (Kv _);have aa:ZU ⟨W,H,ps⟩ b.plan=pt b 0 0 W H:=by
  have:=hv;unfold Q6 at this;unfold ZU;rw[XA] at this ⊢;simp only at this ⊢;rw[Kl this]
 have ad:(Zba b 0 0 W H).length=(kn b 0 (-1)).length:=ZcG b 0 0 W H 0 (-1);have ae:∀ v∈Zba b 0 0 W H,0≤v∧v≤200:=ZbN hf (by simp only[VW] at hw;omega) (by simp only[VW] at hw;omega) (by simp only[VW] at hw;omega) (by simp only[VW] at hw;omega);have rr:∀ s,okS (kn b 0 (-1)) [] s=true→Zke ⟨W,H,ps⟩ b.plan s=some (goS b ⟨0,0,W,H⟩ [⟨0,0,W,H⟩] s):=fun s hs=>by
  unfold Zke;rw[XA];simp only[hv,hs,Bool.and_self,Kk]
 have af:∀ x∈ZfB b ⟨0,0,W,H⟩,VB x:=fun x hx=>by
  have ab:∀ q∈kn b 0 (-1),q.1∈(kn b 0 (-1)).map Prod.fst:=fun q hq=>KX.2 ⟨q,hq,rfl⟩;have ag:=(ZfC ab).mem_iff.2 hx;obtain⟨i1,i2⟩:=(Zt5 (n:=0) (g:=⟨0,0,W,H⟩) hf hg).1 x ag;simp only[VW] at hw;unfold ZT at i1;unfold Zeq at i2;simp only at i1;simp only[VB];omega
 refine⟨_,_,_,_,_,{ r1:=rr _ b1,r2:=rr _ n1,len:=?_,same:=⟨fun x hx=>p2.mem_iff.2 (p1.mem_iff.1 hx),p1.length_eq.trans p2.length_eq.symm⟩,vb:=fun x hx=>af x (p1.mem_iff.1 hx),area:=?_,wt:=rfl,hi:=ZzL b,c1:=rfl,c2:=rfl,s1:=?_,s2:=?_,tot:=?_ }⟩
 ·have l1:=p1.length_eq;have l2:=p2.length_eq;have l3:=Zt7 (kn b 0 (-1)) (Qw b 0) 1;rw[aa,Zc0,Kv,ad];omega
 ·rw[Zxt p1];unfold ZfB;rw[UP,Int.add_comm];exact ZhU (ps:=ps)
 ·intro v ah;obtain⟨m,_,rfl⟩:=KX.1 ah;rw[aa,Zc0];unfold Zhb;cases h:(Zba b 0 0 W H)[(ZO 0 ((kn b 0 (-1)).map Prod.fst) m).toNat]? with
  | none=>simp
  | some c=>exact ae c (Kb h)
 ·rw[aa,Zc0];exact ae
 ·exact ZzO b1 b2 (by rw[aa,Zc0];exact ad)
theorem Zfc (ab:List UInt8):Zd Xs Ms Yd [.d (.sl (ab.map ZaU))] []=some ((.d (.bool true)),[]):=by
 by_cases aa:(1048576:Int)<ab.length
 ·refine cE ?_;simp +contextual -implicitDefEqProofs (maxSteps:=10^7) only[go_sem,seval,↓gZ,QL,aa]
 ·obtain⟨r,ed,S,O,D,L,C,f,g,h,m,hA,rfl⟩:=Zg5 ab;by_cases hc:ZE ⟨S,O,D,L,C⟩∧0≤m∧m≤40
  ·obtain⟨hv,ar,am⟩:=hc;obtain⟨n,rfl⟩:∃ n:Nat,m=(n:Int):=⟨m.toNat,by omega⟩
   have e1:=Zlu S O D L C n hv (by omega);have e2:=Zlv S O D L C n hv (by omega);obtain⟨g1,g2,g3⟩:=Zvy (n:=n) hv;cases hw:U6 n ⟨S,O,D,L,C⟩ with
   | mk z l=>
    rw[hw] at e1 e2 g1 g2 g3;simp only at g1 g2 g3;obtain⟨zS,zO,zD,zL,zC⟩:=z;unfold wtT at e1;unfold wtV at e2;simp only at e1 e2;have e3:=Ze6 zS zO zD zL zC (V7 g1);have e4:=ZcV l (by omega) g2;by_cases af:l.length=0
    ·have ad : (l.length:Int)=0:=by omega
     refine cE ?_;simp +contextual -implicitDefEqProofs (maxSteps:=10^7) only[go_sem,seval,↓gZ,QL,aa,ed,e1,e2,e3,e4,af,ad]
    ·have ad : ¬(l.length:Int)=0:=by omega
     refine cE ?_;simp +contextual -implicitDefEqProofs (maxSteps:=10^7) only[go_sem,seval,↓gZ,QL,aa,ed,e1,e2,e3,e4,af,ad];refine LO (α:=Nat×Zm×Bool×Bool×Bool) (fun s=>[(10,.d (J (s.1:Int)))]) (fun s=>[(0,.box [.own 3,.own 4,.own 5,(.d (J (s.2.1.Lost))),(.d (J (s.2.1.Came)))]),(3,.row 4 (s.2.1.Stock.map Zb.enc) true s.2.2.1),(4,.row 5 (s.2.1.Opn.map Zc.enc) true s.2.2.2.1),(5,.row 5 (s.2.1.Done.map Zc.enc) true s.2.2.2.2)]) (fun s=>s.1≤l.length∧ZE s.2.1∧U6 (n-s.1) s.2.1=(⟨zS,zO,zD,zL,zC⟩,l.drop s.1)) (fun s=>l.length-s.1) (0,⟨S,O,D,L,C⟩,f,g,h) ⟨by simp,hv,by simpa using hw⟩ ?_;intro⟨i,⟨yS,yO,yD,yL,yC⟩,b1,b2,b3⟩ ⟨hi,hy,hp⟩ ih
     simp only at hi hy hp;by_cases ag:i<l.length
     ·obtain⟨e,he⟩:=Zl ag;have an:=Zh (k:=i) (by omega);have hd:l.drop i=e :: l.drop (i+1):=by
       obtain⟨h1,h2⟩:=Kc.1 he;rw[Ku h1,h2]
      rw[hd] at hp;obtain⟨kk,u,hk,hn,ao,hu,ap⟩:=ZzG hy hp;obtain⟨k,B,ah,hB,ai,ae,aj,aq⟩:=ZCA hy hn;obtain⟨T1,T2,A,C1,C2,F⟩:=stepF ai ae aj aq;obtain⟨K,Lb,⟨X,Y,W,H⟩,⟨⟨pW,pH,pT,pK⟩,Ct⟩,⟨o,a,q,t,ks⟩⟩:=e;obtain⟨kW,kH,kP⟩:=k;simp only at hB ah;obtain⟨ak,al⟩:=Zy0 B;have au:=ZA7 B;have av:=JH B 0 (-1);have aw:(Qw B 0).length≤255:=by omega
      have ax:((kn B 0 (-1)).map Prod.fst).length≤255:=by rw[Kv];omega
      have ew:=ZfI yS yO yD yL yC Lb;have ea:=Jx yS yO yD yL yC K Lb X Y W H pW pH pT pK Ct o a q t ks;rw[Kl hy,ao] at ea;have c1:=ZoW B ae;have c2:=ZiY kW kH kP B.plan (Qw B 0) (by omega);have c3:=Zhc B ae;have c4:=ZiY kW kH kP B.plan ((kn B 0 (-1)).map Prod.fst) (by omega);have c5:=ZoX T1 T2 F.same.1 F.same.2 (by have:=F.len;omega);have c6:=ZzQ T1 F.vb (by have:=F.len;omega);have c7:=Zo0 B (Qw B 0) ae ak al;have c8:=Zt8 A (by have:=F.len;omega);have c9:=ZnF B ae;have d1:=ZlA kW kH kP B (Qw B 0) ai ae ak al;have d2:=ZgR kW kH kP B.plan;have d3:=Zo1 C1 (by have:=F.len;omega) F.s1;have d4:=Zo1 C2 (by have:=F.len;omega) F.s2
      simp only[VW] at aj;have ay:0≤kW*kH∧kW*kH≤40000:=by
       have h1:0≤kW*kH:=L8 (by omega) (by omega);have h2:kW*kH≤200*200:=L9 (by omega) (by omega) (by omega) (by omega);omega
      have w1:=wi (kW*kH) (by omega) (by omega);rw[ah,wkV] at ew;rw[F.r1,rsV] at c2;rw[F.r2,rsV] at c4;rw[F.area] at c6;rw[← F.wt] at c7;rw[F.hi] at c8;rw[← F.c1] at d1;rw[← F.c2] at d2;rw[F.tot] at d3;simp only at ew;rw[← hB,Ze.enc_mk] at c1 c2 c3 c4 c7 c9 d1 d2;obtain⟨uS,uO,uD,uL,uC⟩:=u;unfold shT at ea;simp only at ea;clear F;generalize Qw B 0=s1 at *;generalize (kn B 0 (-1)).map Prod.fst=s2 at *;generalize Zc1 C2=tl at *;generalize X2 B=tb at *;simp +contextual -implicitDefEqProofs (maxSteps:=10^7) only[go_sem,seval,↓gZ,ag,he,an,ew,c1,c2,c3,c4,c5,c6,c7,c8,c9,d1,d2,d3,d4,w1,ea];refine ih (i+1,⟨uS,uO,uD,uL,uC⟩,false,false,false) _ ⟨by simp only;omega,hu,?_⟩ (by simp only;omega) ?_
      ·have:n-(i+1)=kk:=by omega
       simp only[this];exact ap
      ·simp +contextual -implicitDefEqProofs (maxSteps:=10^7) only[go_sem,seval,↓gZ]
     ·have:i=l.length:=by omega
      subst this;rw[List.drop_length] at hp;obtain⟨he,_⟩:=ZA0 hy hp;cases he;simp +contextual -implicitDefEqProofs (maxSteps:=10^7) only[go_sem,seval,↓gZ,e3]
  ·have e1:=Zkc S O D L C m hc;have e2:=Zkd S O D L C m (ZBf hA).1 hc;unfold wtV at e1 e2;have e3:=Ze6 [] [] [] 0 0 (V7 Zpo);have e4:=ZcV [] (by simp) (by simp);simp only[Kz] at e1 e2 e3 e4;refine cE ?_;simp +contextual -implicitDefEqProofs (maxSteps:=10^7) only[go_sem,seval,↓gZ,QL,aa,ed,e1,e2,e3,e4]
end Go.Proofs.YtbpekaejmjlmfaaGreat
