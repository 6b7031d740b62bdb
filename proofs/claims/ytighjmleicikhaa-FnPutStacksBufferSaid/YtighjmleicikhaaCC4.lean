/- Own text. -/
import Derived.Test.YtighjmleicikhaaCCode
import Derived.Test.YtighjmleicikhaaAbsParts
import Derived.Test.YtighjmleicikhaaCC3
import Derived.Test.YtighjmleicikhaaCC2
namespace Go.Proofs.Ytighjmleicikhaa
open Go Go.Abs Go.Abs.E Go.Abs.L
open Nat (reduceMul reduceSub reduceLeDiff reduceEqDiff)
open Int (reduceLE reduceEq reduceToNat reduceNeg)
set_option linter.unusedSimpArgs false
set_option linter.unusedVariables false
set_option maxRecDepth 20000
set_option maxHeartbeats 4000000
def fIz (t:List Int) (x:Int):Int:=if fI t x<t.length then (fI t x:Int) else -1
theorem ZhL:∀ {t:List Int} {k:Nat} {x y:Int},t[k]?=some y→k≤fI t x→(x<y→fI t x=k)∧(¬x<y→k+1≤fI t x)
 | [],k,x,y,h,_=>by simp at h
 | z :: t,0,x,y,h,_=>by
  simp only[Lh,Option.some.injEq] at h;subst h;constructor
  ·intro h;simp[fI,h]
  ·intro h;simp only[fI,h,Kh];omega
 | z :: t,k+1,x,y,h,hk=>by
  simp only[K6] at h;by_cases hz:x<z
  ·simp[fI,hz] at hk
  ·simp only[fI,hz,Kh] at hk ⊢;obtain⟨h1,h2⟩:=ZhL (x:=x) h (by omega);exact⟨fun h=>by have:=h1 h;omega,fun h=>by have:=h2 h;omega⟩
theorem ZcL (t n:Int):Zu Xs Ms QW [(.d (J t)),.ptr 0 0] [.box [(.d (J n))]]=some ((.d (.bool (decide (n<t)))),[.box [(.d (J n))]]):=by
 refine cE ?_;simp +contextual -implicitDefEqProofs (maxSteps:=10^7) only[go_sem,seval,↓gZ,VZ];try exact fin_b (by omega)
theorem Zi7 (l:List Int) (n:Int) (hl:l.length<4611686018427387904):Zu Xs Ms Qs [.d (.sl (l.map Zs)),.clo QW [.ptr 0 0]] [.box [(.d (J n))]]=some ((.d (J (fIz l n))),[.box [(.d (J n))]]):=by
 refine cE ?_;simp +contextual -implicitDefEqProofs (maxSteps:=10^7) only[go_sem,seval,↓gZ,XD];refine LO (α:=Nat) (fun k=>[(8,.d (J (k:Int)))]) (fun _=>[]) (fun k=>k≤l.length∧k≤fI l n) (fun k=>l.length-k) 0 ⟨by omega,by omega⟩ ?_;intro k ⟨hk,hp⟩ ih;by_cases aa:k<l.length
 ·obtain⟨x,hx⟩:=ZW aa;have hw:=ZF (k:=k) (by omega);have e1:=ZcL x n;obtain⟨g1,g2⟩:=ZhL (x:=n) hx hp;by_cases h:n<x
  ·rw[Ku h] at e1;have hz:fIz l n=(k:Int):=by unfold fIz;rw[g1 h,Kw aa]
   simp +contextual -implicitDefEqProofs (maxSteps:=10^7) only[go_sem,seval,↓gZ,hx,aa,hw,e1,hz]
  ·rw[Kr h] at e1;simp +contextual -implicitDefEqProofs (maxSteps:=10^7) only[go_sem,seval,↓gZ,hx,aa,hw,e1];refine ih (k+1) _ ⟨by omega,g2 h⟩ (by omega) ?_;simp +contextual -implicitDefEqProofs (maxSteps:=10^7) only[go_sem,seval,↓gZ]
 ·have:k=l.length:=by omega
  subst this;have hz:fIz l n=-1:=by unfold fIz;rw[Kn (by omega)]
  simp +contextual -implicitDefEqProofs (maxSteps:=10^7) only[go_sem,seval,↓gZ,hz]
theorem Zfq (l:List Int) (hl:l.length≤1000):Zu Xs Ms Yq [.d (.sl (l.map Zs))] []=some (.own 0,[.row 1 ((if QT l then stT [] l else []).map Zs) true false]):=by
 have e1:=QA l hl;by_cases ho:QT l
 ·rw[Ku ho] at e1;rw[Kw ho];refine cE ?_;simp +contextual -implicitDefEqProofs (maxSteps:=10^7) only[go_sem,seval,↓gZ,Vy,e1];refine LO (α:=Nat) (fun i=>[(13,.d (J (i:Int)))]) (fun i=>[(1,.row 1 ((stT [] (l.take i)).map Zs) true false),(0,.row 1 ((tpT [] (l.take i)).map Zs) true false)]) (fun i=>i≤l.length) (fun i=>l.length-i) 0 (by omega) ?_;intro i hi ih;by_cases aa:i<l.length
  ·obtain⟨x,hx⟩:=ZW aa;have hw:=ZF (k:=i) (by omega);obtain⟨t1,t2⟩:=Zfl l [] hx;have h1:=ZhG (l.take i) [];have h2:=Zb8 (l.take i) [];have h3:(l.take i).length≤i:=by simp;omega
   simp only[Lm,KO] at h1;have h4:=Zi4 (tpT [] (l.take i)) x;have e2:=Zi7 (tpT [] (l.take i)) x (by omega);have ha:=Znj (tpT [] (l.take i)) x;unfold upT at t2;generalize tpT [] (l.take i)=T at *;generalize stT [] (l.take i)=S at *;have hr:(S.length+1)*8≤140737488355328∧S.length≤140737488355327:=by omega
   have ab:(T.length+1)*8≤140737488355328∧T.length≤140737488355327:=by omega
   have e5:(stT [] (l.take (i+1))).map Zs=S.map Zs++[J (fI T x)]:=by rw[t1,K3];rfl
   by_cases c:fI T x<T.length
   ·have hz:fIz T x=(fI T x:Int):=by unfold fIz;rw[Kw c]
    have hn:¬(fI T x:Int)<0:=by omega
    rw[Kw c] at t2;have e6:(tpT [] (l.take (i+1))).map Zs=(T.map Zs).set (fI T x) (J x):=by rw[t2,LZ];rfl
    rw[hz] at e2;obtain⟨y,hy⟩:=ZW c;simp +contextual -implicitDefEqProofs (maxSteps:=10^7) only[go_sem,seval,↓gZ,hx,aa,hw,e2,hn,hr,c,hy];refine ih (i+1) _ (by omega) (by omega) ?_;simp +contextual -implicitDefEqProofs (maxSteps:=10^7) only[go_sem,seval,↓gZ,e5,e6,Lg]
   ·have hz:fIz T x=-1:=by unfold fIz;rw[Kn c]
    have hT:fI T x=T.length:=by omega
    rw[Kn c] at t2;rw[hT] at e5;have e6:(tpT [] (l.take (i+1))).map Zs=(T.map Zs++[D.int .i64 x]).set T.length (J x):=by rw[t2];simp[Zs]
    rw[hz] at e2;have ad:T.length<T.length+1:=by omega
    have ae:(T.map Zs++[D.int .i64 x])[T.length]?=some (J x):=by simp
    simp +contextual -implicitDefEqProofs (maxSteps:=10^7) only[go_sem,seval,↓gZ,hx,aa,hw,e2,hr,ab,ad,ae];refine ih (i+1) _ (by omega) (by omega) ?_;simp +contextual -implicitDefEqProofs (maxSteps:=10^7) only[go_sem,seval,↓gZ,e5,e6,Lg]
  ·have:i=l.length:=by omega
   subst this;simp +contextual -implicitDefEqProofs (maxSteps:=10^7) only[go_sem,seval,↓gZ,Lp]
 ·rw[Kr ho] at e1;rw[Kn ho];refine cE ?_;simp +contextual -implicitDefEqProofs (maxSteps:=10^7) only[go_sem,seval,↓gZ,Vy,e1]
theorem Zfr (l:List Int) (hl:l.length≤1000) (hn:l.Nodup):Zu Xs Ms Yu [.d (.sl (l.map Zs))] []=some (.own 0,[.row 1 ((stT [] l).map Zs) true false]):=by
 refine cE ?_;simp +contextual -implicitDefEqProofs (maxSteps:=10^7) only[go_sem,seval,↓gZ,Ui];refine LO (α:=Nat) (fun i=>[(5,.d (J (i:Int)))]) (fun i=>[(0,.row 1 ((stT [] (l.take i)).map Zs) true false),(1,.row 1 ((tpT [] (l.take i)).map Zs) true false)]) (fun i=>i≤l.length) (fun i=>l.length-i) 0 (by omega) ?_;intro i hi ih;by_cases aa:i<l.length
 ·obtain⟨x,hx⟩:=ZW aa;have hw:=ZF (k:=i) (by omega);obtain⟨t1,t2⟩:=Zfl l [] hx;have h1:=ZhG (l.take i) [];have h2:=Zb8 (l.take i) [];have h3:(l.take i).length≤i:=by simp;omega
  simp only[Lm,KO] at h1;have h4:=Zi4 (tpT [] (l.take i)) x;have ae:∀ y∈tpT [] (l.take i),y≠x:=fun y hy=>by
   rcases ZkY _ _ hy with h | h
   ·cases h
   ·rintro rfl;exact Zfo hx h hn
  unfold upT at t2;generalize tpT [] (l.take i)=T at *;generalize stT [] (l.take i)=S at *;have hr:(S.length+1)*8≤140737488355328∧S.length≤140737488355327:=by omega
  have af:(T.length+1)*8≤140737488355328∧T.length≤140737488355327:=by omega
  have e5:(stT [] (l.take (i+1))).map Zs=S.map Zs++[J (fI T x)]:=by rw[t1,K3];rfl
  simp +contextual -implicitDefEqProofs (maxSteps:=10^7) only[go_sem,seval,↓gZ,hx,aa];refine Vv Xs Ms (st0:=?st1) (α:=Nat) (fun k=>[(6,.d (J (k:Int)))]) (fun _=>[]) (fun k=>k≤fI T x) (fun k=>fI T x-k) 0 ?hc2 (by omega) ?h02 ?step2
  case hc2=>simp +contextual -implicitDefEqProofs (maxSteps:=10^7) only[go_sem,seval,↓gZ]<;>exact rfl
  case h02=>rfl
  case step2=>
   intro k hk ag;have ah:=ZF (k:=k) (by omega);by_cases c1:k<T.length
   ·obtain⟨y,hy⟩:=ZW c1;obtain⟨g1,g2⟩:=ZhL (x:=x) hy hk;have am:=ae y (Kl hy);by_cases c2:x<y
    ·have ab:=g1 c2;have c3:¬y<x:=by omega
     rw[ab] at t2 e5;rw[Kw c1] at t2;have e6:(tpT [] (l.take (i+1))).map Zs=(T.map Zs).set k (J x):=by rw[t2,LZ];rfl
     have ai:¬k=T.length:=by omega
     have ad:¬(k:Int)=T.length:=by omega
     simp +contextual -implicitDefEqProofs (maxSteps:=10^7) only[go_sem,seval,↓gZ,hx,aa,hw,hy,c1,c3,ai,ad,hr];refine ih (i+1) _ (by omega) (by omega) ?_;simp +contextual -implicitDefEqProofs (maxSteps:=10^7) only[go_sem,seval,↓gZ,e5,e6,Lg]
    ·have c3:y<x:=by omega
     have:=g2 c2;simp +contextual -implicitDefEqProofs (maxSteps:=10^7) only[go_sem,seval,↓gZ,hx,aa,hw,hy,c1,c3,ah];refine ag (k+1) _ (by omega) (by omega) ?_;simp +contextual -implicitDefEqProofs (maxSteps:=10^7) only[go_sem,seval,↓gZ]
   ·have aj:k=T.length:=by omega
    have ab:fI T x=T.length:=by omega
    subst aj;rw[Kn (by omega)] at t2;rw[ab] at e5;have e6:(tpT [] (l.take (i+1))).map Zs=(T.map Zs++[D.int .i64 0]).set T.length (J x):=by rw[t2];simp[Zs]
    have ak:T.length<T.length+1:=by omega
    have al:(T.map Zs++[D.int .i64 0])[T.length]?=some (J 0):=by simp
    simp +contextual -implicitDefEqProofs (maxSteps:=10^7) only[go_sem,seval,↓gZ,hx,aa,hw,hr,af,ak,al];refine ih (i+1) _ (by omega) (by omega) ?_;simp +contextual -implicitDefEqProofs (maxSteps:=10^7) only[go_sem,seval,↓gZ,e5,e6,Lg]
 ·have:i=l.length:=by omega
  subst this;simp +contextual -implicitDefEqProofs (maxSteps:=10^7) only[go_sem,seval,↓gZ,Lp]
theorem Zfs (l:List Int) (hl:l.length≤1000):Zu Xs Ms Xz [.d (.sl (l.map Zs))] []=some (.own 0,[.row 1 ((if QT l then stT [] l else []).map Zs) true false]):=by
 have e1:=Zfp l hl;by_cases ho:QT l
 ·rw[Ku ho] at e1;rw[Kw ho];have e2:=Zfr l hl ho.2.1;refine cE ?_;simp +contextual -implicitDefEqProofs (maxSteps:=10^7) only[go_sem,seval,↓gZ,VA,e1,e2]
 ·rw[Kr ho] at e1;rw[Kn ho];refine cE ?_;simp +contextual -implicitDefEqProofs (maxSteps:=10^7) only[go_sem,seval,↓gZ,VA,e1]
theorem Uz (l st:List Int) (ho:QT l) (hs:st.length=l.length) (hb:∀ s∈st,0≤s∧s<24):Zu Xs Ms QX [.d (.sl (l.map Zs)),.d (.sl (st.map Zs))] []=some ((.d (.bool true)),[]):=by
 have ae:=ho.1;have e1:=QA l (by omega);rw[Ku ho] at e1;refine cE ?_;simp +contextual -implicitDefEqProofs (maxSteps:=10^7) only[go_sem,seval,↓gZ,V0,e1,hs];refine Vv Xs Ms (st0:=?st0) (α:=Nat) (fun i=>[(19,.d (J (i:Int)))]) (fun _=>[]) (fun i=>i≤st.length) (fun i=>st.length-i) 0 ?hc (by omega) ?h0 ?step
 case hc=>simp +contextual -implicitDefEqProofs (maxSteps:=10^7) only[go_sem,seval,↓gZ]<;>exact rfl
 case h0=>simp only[hs];rfl
 case step=>
  intro i hi ih;by_cases aa:i<l.length
  ·obtain⟨x,hx⟩:=ZW (l:=st) (k:=i) (by omega);have hw:=ZF (k:=i) (by omega);obtain⟨h1,h2⟩:=hb x (Kl hx);have ab : ¬x<0:=by omega
   have ad : ¬24≤x:=by omega
   simp +contextual -implicitDefEqProofs (maxSteps:=10^7) only[go_sem,seval,↓gZ,hx,hs,aa,hw,ab,ad];refine ih (i+1) _ (by omega) (by omega) ?_;simp +contextual -implicitDefEqProofs (maxSteps:=10^7) only[go_sem,seval,↓gZ,hs]
  ·have:i=l.length:=by omega
   subst this;simp +contextual -implicitDefEqProofs (maxSteps:=10^7) only[go_sem,seval,↓gZ,hs]
theorem Zdu {l:List Int} {j:Nat} {y:Int} (f:Int→Bool) (h:l[j]?=some y):((l.take (j+1)).filter f).length=((l.take j).filter f).length+if f y=true then 1 else 0:=by
 rw[KD,h,Option.toList_some,List.filter_append,Ko];by_cases hf:f y=true
 ·simp[hf]
 ·simp[hf]
theorem Zi8 (p:Int→Int→Bool) {l:List Int} {i:Nat} {x:Int} (h:l[i]?=some x):prs p l (i+1)=prs p l i+((l.take i).filter fun y=>p y x).length:=by
 simp only[prs,KY,h,LR]
theorem ZgT (l:List Int) (f:Int→Bool) (j:Nat):((l.take j).filter f).length≤j:=Ly (List.length_filter_le _ _) (by simp;omega)
theorem sq_bd {n i:Nat} (h:i≤n) (hn:n≤24):i*i≤576:=Nat.mul_le_mul (show i≤24 by omega) (show i≤24 by omega)
abbrev upP (y x:Int):Bool:=decide (y<x)
abbrev dnP (y x:Int):Bool:=decide (x<y)
theorem Zk1 {n k:Nat} (h:k<n):(List.replicate n (D.int .i64 0))[k]?=some (J 0):=by simp[h]
theorem ZhM (l:List Int) (ho:QT l):Zu Xs Ms VK [.d (.sl (l.map Zs)),.d (.sl (List.replicate l.length (J 0)))] []=some ((.d (J ((prs upP l l.length:Nat)))),[]):=by
 have ai:=ho.1;have e1:=Uz l (List.replicate l.length 0) ho (by simp) (fun s hs=>by have:=(List.mem_replicate.1 hs).2;omega);rw[List.map_replicate] at e1;simp only[Zs] at e1;refine cE ?_;simp +contextual -implicitDefEqProofs (maxSteps:=10^7) only[go_sem,seval,↓gZ,JY,e1];refine LO (α:=Nat) (fun i=>[(14,.d (J (i:Int))),(5,.d (J ((prs upP l i:Nat):Int)))]) (fun _=>[]) (fun i=>i≤l.length) (fun i=>l.length-i) 0 (by omega) ?_;intro i hi ih;by_cases aa:i<l.length
 ·obtain⟨x,hx⟩:=ZW aa;have hw:=ZF (k:=i) (by omega);have aj:=Zke upP l i;have ak:=sq_bd hi ai;have hp:=Zi8 upP hx;have ad:=Zk1 aa;simp +contextual -implicitDefEqProofs (maxSteps:=10^7) only[go_sem,seval,↓gZ,hx,aa];refine Vv Xs Ms (st0:=?st1) (α:=Nat) (fun j=>[(18,.d (J (j:Int))),(5,.d (J ((prs upP l i+((l.take j).filter fun y=>upP y x).length:Nat):Int)))]) (fun _=>[]) (fun j=>j≤i) (fun j=>i-j) 0 ?hc2 (by omega) ?h02 ?step2
  case hc2=>simp +contextual -implicitDefEqProofs (maxSteps:=10^7) only[go_sem,seval,↓gZ]<;>exact rfl
  case h02=>simp only[Ls,List.filter_nil,Lm,Lq];rfl
  case step2=>
   intro j hj ae;by_cases af:j<i
   ·obtain⟨y,hy⟩:=ZW (l:=l) (k:=j) (by omega);have ag:=ZF (k:=j) (by omega);have ab:j<l.length:=by omega
    have ah:=Zk1 ab;have hf:=Zdu (fun y=>upP y x) hy;have al:=ZgT l (fun y=>upP y x) j;by_cases c:y<x
    ·have c1:upP y x=true:=Ku c;simp only[c1,Ki] at hf;have w1:=ZF (k:=prs upP l i+((l.take j).filter fun y=>upP y x).length) (by omega);have e5:prs upP l i+((l.take (j+1)).filter fun y=>upP y x).length=prs upP l i+((l.take j).filter fun y=>upP y x).length+1:=by omega
     simp +contextual -implicitDefEqProofs (maxSteps:=10^7) only[go_sem,seval,↓gZ,af,ab,aa,hx,hy,ah,ad,c,w1,ag];refine ae (j+1) _ (by omega) (by omega) ?_;simp +contextual -implicitDefEqProofs (maxSteps:=10^7) only[go_sem,seval,↓gZ,e5]
    ·have c1:upP y x=false:=Kr c;simp only[c1,Ka,Kh] at hf;have e5:prs upP l i+((l.take (j+1)).filter fun y=>upP y x).length=prs upP l i+((l.take j).filter fun y=>upP y x).length:=by omega
     simp +contextual -implicitDefEqProofs (maxSteps:=10^7) only[go_sem,seval,↓gZ,af,ab,aa,hx,hy,ah,ad,c,ag];refine ae (j+1) _ (by omega) (by omega) ?_;simp +contextual -implicitDefEqProofs (maxSteps:=10^7) only[go_sem,seval,↓gZ,e5]
   ·have:j=i:=by omega
    subst this;simp +contextual -implicitDefEqProofs (maxSteps:=10^7) only[go_sem,seval,↓gZ,hw];refine ih (j+1) _ (by omega) (by omega) ?_;simp +contextual -implicitDefEqProofs (maxSteps:=10^7) only[go_sem,seval,↓gZ,hp]
 ·have:i=l.length:=by omega
  subst this;simp +contextual -implicitDefEqProofs (maxSteps:=10^7) only[go_sem,seval,↓gZ]
theorem ZfP (l:List Int) (ho:QT l):Zu Xs Ms Y7 [.d (.sl (l.map Zs))] []=some ((.d (J ((prs dnP l l.length:Nat)))),[]):=by
 have ag:=ho.1;have e1:=QA l (by omega);rw[Ku ho] at e1;refine cE ?_;simp +contextual -implicitDefEqProofs (maxSteps:=10^7) only[go_sem,seval,↓gZ,Jb,e1];refine LO (α:=Nat) (fun i=>[(11,.d (J (i:Int))),(3,.d (J ((prs dnP l i:Nat):Int)))]) (fun _=>[]) (fun i=>i≤l.length) (fun i=>l.length-i) 0 (by omega) ?_;intro i hi ih;by_cases aa:i<l.length
 ·obtain⟨x,hx⟩:=ZW aa;have hw:=ZF (k:=i) (by omega);have ah:=Zke dnP l i;have ai:=sq_bd hi ag;have hp:=Zi8 dnP hx;simp +contextual -implicitDefEqProofs (maxSteps:=10^7) only[go_sem,seval,↓gZ,hx,aa];refine Vv Xs Ms (st0:=?st1) (α:=Nat) (fun j=>[(15,.d (J (j:Int))),(3,.d (J ((prs dnP l i+((l.take j).filter fun y=>dnP y x).length:Nat):Int)))]) (fun _=>[]) (fun j=>j≤i) (fun j=>i-j) 0 ?hc2 (by omega) ?h02 ?step2
  case hc2=>simp +contextual -implicitDefEqProofs (maxSteps:=10^7) only[go_sem,seval,↓gZ]<;>exact rfl
  case h02=>simp only[Ls,List.filter_nil,Lm,Lq];rfl
  case step2=>
   intro j hj ab;by_cases ad:j<i
   ·obtain⟨y,hy⟩:=ZW (l:=l) (k:=j) (by omega);have ae:=ZF (k:=j) (by omega);have af:j<l.length:=by omega
    have hf:=Zdu (fun y=>dnP y x) hy;have aj:=ZgT l (fun y=>dnP y x) j;by_cases c:x<y
    ·have c1:dnP y x=true:=Ku c;simp only[c1,Ki] at hf;have w1:=ZF (k:=prs dnP l i+((l.take j).filter fun y=>dnP y x).length) (by omega);have e5:prs dnP l i+((l.take (j+1)).filter fun y=>dnP y x).length=prs dnP l i+((l.take j).filter fun y=>dnP y x).length+1:=by omega
     simp +contextual -implicitDefEqProofs (maxSteps:=10^7) only[go_sem,seval,↓gZ,ad,af,aa,hx,hy,c,w1,ae];refine ab (j+1) _ (by omega) (by omega) ?_;simp +contextual -implicitDefEqProofs (maxSteps:=10^7) only[go_sem,seval,↓gZ,e5]
    ·have c1:dnP y x=false:=Kr c;simp only[c1,Ka,Kh] at hf;have e5:prs dnP l i+((l.take (j+1)).filter fun y=>dnP y x).length=prs dnP l i+((l.take j).filter fun y=>dnP y x).length:=by omega
     simp +contextual -implicitDefEqProofs (maxSteps:=10^7) only[go_sem,seval,↓gZ,ad,af,aa,hx,hy,c,ae];refine ab (j+1) _ (by omega) (by omega) ?_;simp +contextual -implicitDefEqProofs (maxSteps:=10^7) only[go_sem,seval,↓gZ,e5]
   ·have:j=i:=by omega
    subst this;simp +contextual -implicitDefEqProofs (maxSteps:=10^7) only[go_sem,seval,↓gZ,hw];refine ih (j+1) _ (by omega) (by omega) ?_;simp +contextual -implicitDefEqProofs (maxSteps:=10^7) only[go_sem,seval,↓gZ,hp]
 ·have:i=l.length:=by omega
  subst this;simp +contextual -implicitDefEqProofs (maxSteps:=10^7) only[go_sem,seval,↓gZ]
theorem Zkh (l st:List Int) (hl:l.length≤24) (hs:st.length=l.length) (a:Nat) (x s:Int) (hx:l[a]?=some x) (ab:st[a]?=some s) (hd:∀ j y,a<j→st[j]?=some s→l[j]?=some y→y<x) :
  Zu Xs Ms UA [.d (.sl (l.map Zs)),.d (.sl (st.map Zs)),(.d (J s)),(.d (J x))] []=some ((.d (J ((a:Nat)))),[]):=by
 have ha:=(Kb.1 hx).1;have w0:IntKind.i64.wrap ((l.length:Int)-1)=((l.length-1:Nat):Int):=by rw[XX (by omega) (by omega)];omega
 refine cE ?_;simp +contextual -implicitDefEqProofs (maxSteps:=10^7) only[go_sem,seval,↓gZ,ZcO,w0];refine LO (α:=Nat) (fun i=>[(9,.d (J (i:Int)))]) (fun _=>[]) (fun i=>a≤i∧i<l.length) (fun i=>i) (l.length-1) ⟨by omega,by omega⟩ ?_;intro i ⟨hi,aa⟩ ih;obtain⟨y,hy⟩:=ZW aa;obtain⟨t,ht⟩:=ZW (l:=st) (k:=i) (by omega);by_cases ad:i=a
 ·subst ad;rw[hx] at hy;cases hy;simp +contextual -implicitDefEqProofs (maxSteps:=10^7) only[go_sem,seval,↓gZ,hx,ab,hs,aa]
 ·have hw:IntKind.i64.wrap ((i:Int)-1)=((i-1:Nat):Int):=by rw[XX (by omega) (by omega)];omega
  by_cases c1:t=s
  ·subst c1;have:=hd i y (by omega) ht hy;have c2:¬x≤y:=by omega
   simp +contextual -implicitDefEqProofs (maxSteps:=10^7) only[go_sem,seval,↓gZ,hy,ht,hs,aa,c2,hw];refine ih (i-1) _ ⟨by omega,by omega⟩ (by omega) ?_;simp +contextual -implicitDefEqProofs (maxSteps:=10^7) only[go_sem,seval,↓gZ]
  ·simp +contextual -implicitDefEqProofs (maxSteps:=10^7) only[go_sem,seval,↓gZ,hy,ht,hs,aa,c1,hw];refine ih (i-1) _ ⟨by omega,by omega⟩ (by omega) ?_;simp +contextual -implicitDefEqProofs (maxSteps:=10^7) only[go_sem,seval,↓gZ]
theorem JX:∀ {l:List Int} {n:Int} (k:Nat),n∈l→∃ j:Nat,Z3 k l n=((k+j:Nat):Int)∧l[j]?=some n
 | [],n,k,h=>by cases h
 | x :: l,n,k,h=>by
  by_cases hx:x=n
  ·exact⟨0,by simp[Z3,hx],by simp[hx]⟩
  ·obtain⟨j,h1,h2⟩:=JX (k+1) ((Ke.1 h).resolve_left fun e=>hx e.symm);exact⟨j+1,by simp only[Z3,hx,Kh];rw[h1];congr 1;omega,by simpa using h2⟩
theorem ZcM (l:List Int) (n:Int) (hl:l.length<4611686018427387904):Zu Xs Ms Q6 [.d (.sl (l.map Zs)),(.d (J n))] []=some ((.d (J (Z3 0 l n))),[]):=by
 refine cE ?_;simp +contextual -implicitDefEqProofs (maxSteps:=10^7) only[go_sem,seval,↓gZ,Va];refine LO (α:=Nat) (fun k=>[(8,.d (J (k:Int)))]) (fun _=>[]) (fun k=>k≤l.length∧Z3 k (l.drop k) n=Z3 0 l n) (fun k=>l.length-k) 0 ⟨by omega,rfl⟩ ?_;intro k ⟨hk,hp⟩ ih;by_cases aa:k<l.length
 ·obtain⟨x,hx⟩:=ZW aa;rw[JW hx] at hp;have hw:=ZF (k:=k) (by omega);by_cases h:x=n
  ·rw[Kw h] at hp;subst h;simp +contextual -implicitDefEqProofs (maxSteps:=10^7) only[go_sem,seval,↓gZ,hx,aa,hw];try (rw[← hp])
  ·rw[Kn h] at hp;have h' : ¬n=x:=fun e=>h e.symm;simp +contextual -implicitDefEqProofs (maxSteps:=10^7) only[go_sem,seval,↓gZ,hx,aa,hw,h,h'];refine ih (k+1) _ ⟨by omega,hp⟩ (by omega) ?_;simp +contextual -implicitDefEqProofs (maxSteps:=10^7) only[go_sem,seval,↓gZ]
 ·have:k=l.length:=by omega
  subst this;simp +contextual -implicitDefEqProofs (maxSteps:=10^7) only[go_sem,seval,↓gZ];rw[← hp];simp[Z3]
theorem Zdz (l:List Int) (ho:QT l):Zu Xs Ms X6 [.d (.sl (l.map Zs)),.d (.sl ((stT [] l).map Zs))] []=some (.tup [.own 0,(.d (.bool true))],[.row 1 ((rng l.length).map Zs) true false]):=by
 have ag:=ho.1;have ae:=Zb8 l [];have e1:=Uz l (stT [] l) ho ae (fun s hs=>by have:=Znk l [] s hs;simp only[Lm,KO] at this;omega);have ab:∀ i:Nat,i<l.length→(i:Int)∈l:=fun i hi=>(Zfk ho.2).mem_iff.2 (Zb6.2 ⟨by omega,by omega⟩);have aa:=@Zi5 l [];generalize stT [] l=S at *;refine cE ?_;simp +contextual -implicitDefEqProofs (maxSteps:=10^7) only[go_sem,seval,↓gZ,WG,e1];refine LO (α:=Nat) (fun i=>[(15,.d (J (i:Int)))]) (fun i=>[(0,.row 1 ((rng i).map Zs) true false)]) (fun i=>i≤l.length) (fun i=>l.length-i) 0 (by omega) ?_;intro i hi ih;by_cases af:i<l.length
 ·have hw:=ZF (k:=i) (by omega);obtain⟨j,hj,ad⟩:=JX 0 (ab i af);rw[KO] at hj;have e2:=ZcM l i (by omega);rw[hj] at e2;have ai:=(Kb.1 ad).1;obtain⟨s,hs⟩:=ZW (l:=S) (k:=j) (by omega);have e3:=Zkh l S ag ae j i s ad hs fun q y h1 h2 h3=>aa h1 hs h2 ad h3;have aj:=Zaq i;have hr:((rng i).length+1)*8≤140737488355328∧(rng i).length≤140737488355327:=by omega
  have e5:(rng (i+1)).map Zs=(rng i).map Zs++[J (i:Int)]:=by rw[Zb5,K3];rfl
  have ah:j<S.length:=by omega
  simp +contextual -implicitDefEqProofs (maxSteps:=10^7) only[go_sem,seval,↓gZ,af,hw,e2,hs,ah,e3,hr];refine ih (i+1) _ (by omega) (by omega) ?_;simp +contextual -implicitDefEqProofs (maxSteps:=10^7) only[go_sem,seval,↓gZ,e5]
 ·have:i=l.length:=by omega
  subst this;simp +contextual -implicitDefEqProofs (maxSteps:=10^7) only[go_sem,seval,↓gZ]
theorem U9 (l:List Int) (hl:l.length≤1000):Zu Xs Ms YN [.d (.sl (l.map Zs))] []=some ((.d (.bool (inO l))),[]):=by
 refine cE ?_;simp +contextual -implicitDefEqProofs (maxSteps:=10^7) only[go_sem,seval,↓gZ,J1];refine LO (α:=Nat) (fun i=>[(7,.d (J (i:Int)))]) (fun _=>[]) (fun i=>i≤l.length∧l.take i=rng i) (fun i=>l.length-i) 0 ⟨by omega,rfl⟩ ?_;intro i ⟨hi,hp⟩ ih;by_cases aa:i<l.length
 ·obtain⟨x,hx⟩:=ZW aa;have hw:=ZF (k:=i) (by omega);by_cases c:x=(i:Int)
  ·simp +contextual -implicitDefEqProofs (maxSteps:=10^7) only[go_sem,seval,↓gZ,hx,aa,hw,c];refine ih (i+1) _ ⟨by omega,by rw[KD,hx,hp,Zb5,c];rfl⟩ (by omega) ?_;simp +contextual -implicitDefEqProofs (maxSteps:=10^7) only[go_sem,seval,↓gZ]
  ·have ad:inO l=false:=Kr fun e=>c (by rw[e,Zoa aa] at hx;exact(Option.some.inj hx).symm);simp +contextual -implicitDefEqProofs (maxSteps:=10^7) only[go_sem,seval,↓gZ,hx,aa,hw,c,ad]
 ·have:i=l.length:=by omega
  subst this;rw[Lp] at hp;have ab:inO l=true:=Zkf.2 hp;simp +contextual -implicitDefEqProofs (maxSteps:=10^7) only[go_sem,seval,↓gZ,ab]
end Go.Proofs.Ytighjmleicikhaa
