/- Own text. -/
import Derived.Test.YtefabmohhbhlfaaACode
import Derived.Test.YtefabmohhbhlfaaAbsParts
import Derived.Test.YtefabmohhbhlfaaAC11
import Derived.Test.YtefabmohhbhlfaaAbsOkD
namespace Go.Proofs.Ytefabmohhbhlfaa
open Go Go.Abs Go.Abs.E Go.Abs.L
open Nat (reduceMul reduceSub reduceLeDiff reduceEqDiff)
open Int (reduceLE reduceEq reduceToNat reduceNeg)
set_option linter.unusedSimpArgs false
set_option linter.unusedVariables false
set_option maxRecDepth 20000
set_option maxHeartbeats 4000000
theorem ZhX (b:BT) (hc:b.cnt≤255):Zi Xs Ms YF [.d b.plan.enc] []=some (.own 0,[.row 1 (((kn b 0 (-1)).map Prod.fst).map Qp) true false]):=by
 have e1:=Jc b.plan;have hk:Zd2 b.plan=kn b 0 (-1):=by unfold Zd2;rw[QN];simp only[hc,Kg]
 have ae:=Wz b 0 (-1);rw[hk] at e1;obtain⟨q1,q2,q3,q4,q5,ad⟩:∃ a b' c d e,b.plan=.mk a b' c d e:=by cases hq:b.plan;exact⟨_,_,_,_,_,rfl⟩
 rw[ad,Zh.enc_mk] at e1 ⊢;generalize kn b 0 (-1)=K at *;refine cE ?_;simp +contextual -implicitDefEqProofs (maxSteps:=10^7) only[go_sem,seval,↓gZ,Zau,e1];refine LO (α:=Nat) (fun i=>[(15,.d (J (i:Int)))]) (fun i=>[(1,.row 1 (((K.take i).map Prod.fst).map Qp) true false)]) (fun i=>i≤K.length) (fun i=>K.length-i) 0 (by omega) ?_;intro i hi ih;by_cases aa:i<K.length
 ·obtain⟨⟨m,ab⟩,hx⟩:=ZY aa;have hw:=Zn (k:=i) (by omega);have hr:((K.take i).length+1)*8≤140737488355328∧(K.take i).length≤140737488355327:=by
   have:(K.take i).length≤i:=by simp;omega
   omega
  have ht:((K.take (i+1)).map Prod.fst).map Qp=((K.take i).map Prod.fst).map Qp++[J m]:=by
   rw[KC,hx];simp[Qp]
  simp +contextual -implicitDefEqProofs (maxSteps:=10^7) only[go_sem,seval,↓gZ,hx,aa,hw,hr];refine ih (i+1) _ (by omega) (by omega) ?_;simp +contextual -implicitDefEqProofs (maxSteps:=10^7) only[go_sem,seval,↓gZ,ht]
 ·have:i=K.length:=by omega
  subst this;simp +contextual -implicitDefEqProofs (maxSteps:=10^7) only[go_sem,seval,↓gZ,Ll]
theorem ZmW {K:List (Int×Int)}:∀ {s:List Int} {i:Nat} {n w:Int},s[i]?=some n→wts K w (s.take (i+1))=wts K w (s.take i)++[w+dlt K (s.take i)]
 | [],i,n,w,h=>by simp at h
 | x :: s,0,n,w,h=>by simp[wts,dlt]
 | x :: s,i+1,n,w,h=>by
  simp only[K3] at h;have e:∀ d:Int,w-1+(QS K x:Int)+d=w+((QS K x:Int)-1+d):=fun d=>by omega
  simp only[List.take_succ_cons,wts,dlt,ZmW h,KN,e]
theorem ZrV {K:List (Int×Int)} {s:List Int} {i:Nat} {n:Int} (h:s[i]?=some n):dlt K (s.take (i+1))=dlt K (s.take i)+((QS K n:Int)-1):=by
 rw[KC,h,LC,Zd0];simp[dlt]
theorem ZrW {K:List (Int×Int)}:∀ (s:List Int),-(s.length:Int)≤dlt K s∧dlt K s≤(s.length:Int)*K.length
 | []=>by simp[dlt]
 | n :: s=>by
  have:=ZrW (K:=K) s;have hc:QS K n≤K.length:=LK _ _;simp only[dlt,Ki];have e:((s.length+1:Nat):Int)*(K.length:Int)=(s.length:Int)*K.length+K.length:=by push_cast;rw[Int.add_mul];omega
  rw[e];constructor<;>omega
theorem Zou {K:List (Int×Int)} {j:Nat} {q:Int×Int} {n:Int} (h:K[j]?=some q):QS (K.take (j+1)) n=QS (K.take j) n+if q.2=n then 1 else 0:=by
 rw[KC,h,LC,Wy,Jt];simp[QS]
theorem ZlV (K:List (Int×Int)):∀ (s:List Int) (w:Int),(wts K w s).length=s.length
 | [],_=>rfl
 | _ :: s,w=>by simp[wts,ZlV K s]
theorem ZhY (b:BT) (s:List Int) (hc:b.cnt≤255) (ho:okS (kn b 0 (-1)) [] s=true) (hl:s.length=(kn b 0 (-1)).length):Zi Xs Ms V1 [.d b.plan.enc,.d (.sl (s.map Qp))] []=some (.own 0,[.row 1 ((wts (kn b 0 (-1)) 1 s).map Qp) true false]):=by
 have e1:=Jc b.plan;have hk:Zd2 b.plan=kn b 0 (-1):=by unfold Zd2;rw[QN];simp only[hc,Kg]
 have am:=Wz b 0 (-1);have e2:=Zhg b.plan s (by omega);have ae:wfP b.plan=true:=by
  have hz:=Z1 255 b;have:=b.cnt_pos;unfold wfP;rw[QN];exact Kw (by omega)
 rw[hk] at e1 e2;rw[ae,ho,Kw hl] at e2;simp only[Bool.and_self] at e2;obtain⟨q1,q2,q3,q4,q5,af⟩:∃ a b' c d e,b.plan=.mk a b' c d e:=by cases hq:b.plan;exact⟨_,_,_,_,_,rfl⟩
 rw[af,Zh.enc_mk] at e1 e2 ⊢;have ag:(kn b 0 (-1)).length≤255:=by omega
 clear ho hk ae af;generalize kn b 0 (-1)=K at *;have ah:∀ i,i≤s.length→-255≤dlt K (s.take i)∧dlt K (s.take i)≤65025:=fun i hi=>by
  obtain⟨k1,k2⟩:=ZrW (K:=K) (s.take i);have an:(s.take i).length≤255:=by simp;omega
  have:((s.take i).length:Int)*(K.length:Int)≤255*255:=by
   refine Int.le_trans (Int.mul_le_mul_of_nonneg_right (by omega:((s.take i).length:Int)≤255) (by omega)) ?_;omega
  omega
 refine cE ?_;simp +contextual -implicitDefEqProofs (maxSteps:=10^7) only[go_sem,seval,↓gZ,Zax,e1,e2];refine Qw Xs Ms (st0:=?st0) (α:=Nat) (fun i=>[(24,.d (J (i:Int))),(8,.d (J (1+dlt K (s.take i))))]) (fun i=>[(0,.row 1 ((wts K 1 (s.take i)).map Qp) true false)]) (fun i=>i≤s.length) (fun i=>s.length-i) 0 ?hc (by omega) ?h0 ?step
 case hc=>simp +contextual -implicitDefEqProofs (maxSteps:=10^7) only[go_sem,seval,↓gZ]<;>exact rfl
 case h0=>simp only[L7,wts,dlt];rfl
 case step=>
  intro i hi ih;by_cases ai:i<s.length
  ·obtain⟨n,hx⟩:=ZY ai;have hw:=Zn (k:=i) (by omega);have hb1:=ah i hi;have hb2:=ah (i+1) (by omega);have ao:=ZrV (K:=K) hx;have al:=ZmW (K:=K) (w:=1) hx;have ap:=ZlV K (s.take i) 1;have aq:(s.take i).length=i:=by simp;omega
   have hr:((wts K 1 (s.take i)).length+1)*8≤140737488355328∧(wts K 1 (s.take i)).length≤140737488355327:=by omega
   have w1:=wi (1+dlt K (s.take i)-1) (by omega) (by omega);simp +contextual -implicitDefEqProofs (maxSteps:=10^7) only[go_sem,seval,↓gZ,hx,ai,hw,hr,w1];refine Qw Xs Ms (st0:=?st1) (α:=Nat) (fun j=>[(36,.d (J (j:Int))),(8,.d (J (1+dlt K (s.take i)-1+QS (K.take j) n)))]) (fun _=>[]) (fun j=>j≤K.length) (fun j=>K.length-j) 0 ?hc2 (by omega) ?h02 ?step2
   case hc2=>simp +contextual -implicitDefEqProofs (maxSteps:=10^7) only[go_sem,seval,↓gZ]<;>exact rfl
   case h02=>simp only[L7,QS,List.filter_nil,KD,Int.natCast_zero,Int.add_zero];rfl
   case step2=>
    intro j hj aj;by_cases aa:j<K.length
    ·obtain⟨⟨m,ab⟩,hy⟩:=ZY aa;have ak:=Zn (k:=j) (by omega);have ad:=Zou (n:=n) hy;have ar:QS (K.take j) n≤255:=by
      have h1:QS (K.take j) n≤(K.take j).length:=LK _ _;have h2:(K.take j).length≤j:=by simp;omega
      omega
     simp only at ad;by_cases he:ab=n
     ·rw[Km he] at ad;have w2:=wi (1+dlt K (s.take i)-1+((QS (K.take j) n:Nat):Int)+1) (by omega) (by omega);have e3:1+dlt K (s.take i)-1+((QS (K.take (j+1)) n:Nat):Int)=1+dlt K (s.take i)-1+((QS (K.take j) n:Nat):Int)+1:=by omega
      simp +contextual -implicitDefEqProofs (maxSteps:=10^7) only[go_sem,seval,↓gZ,hy,aa,ak,he,w2];refine aj (j+1) _ (by omega) (by omega) ?_;simp +contextual -implicitDefEqProofs (maxSteps:=10^7) only[go_sem,seval,↓gZ,e3]
     ·rw[Kl he] at ad;have e6:((QS (K.take (j+1)) n:Nat):Int)=((QS (K.take j) n:Nat):Int):=by omega
      simp +contextual -implicitDefEqProofs (maxSteps:=10^7) only[go_sem,seval,↓gZ,hy,aa,ak,he];refine aj (j+1) _ (by omega) (by omega) ?_;simp +contextual -implicitDefEqProofs (maxSteps:=10^7) only[go_sem,seval,↓gZ,e6]
    ·have:j=K.length:=by omega
     subst this;have e4:1+dlt K (s.take (i+1))=1+dlt K (s.take i)-1+((QS K n:Nat):Int):=by omega
     have e5:(wts K 1 (s.take (i+1))).map Qp=(wts K 1 (s.take i)).map Qp++[J (1+dlt K (s.take i))]:=by rw[al,KM];rfl
     simp +contextual -implicitDefEqProofs (maxSteps:=10^7) only[go_sem,seval,↓gZ,Ll,hw];refine ih (i+1) _ (by omega) (by omega) ?_;simp +contextual -implicitDefEqProofs (maxSteps:=10^7) only[go_sem,seval,↓gZ,e4,e5]
  ·have:i=s.length:=by omega
   subst this;simp +contextual -implicitDefEqProofs (maxSteps:=10^7) only[go_sem,seval,↓gZ,Ll]
theorem ZrX {l:List Int} {i:Nat} {x:Int} (h:l[i]?=some x):hiL (l.take (i+1))=max (hiL (l.take i)) x:=by
 have aa:∀ (a:List Int),hiL (a++[x])=max (hiL a) x:=by
  intro a
  induction a with
  | nil=>simp[hiL]
  | cons y a ih=>simp only[KN,hiL,ih];omega
 rw[KC,h,LC,aa]
theorem ZlW (l:List Int) (hl:l.length≤1048576):Zi Xs Ms UM [.d (.sl (l.map Qp))] []=some ((.d (J (hiL l))),[]):=by
 refine cE ?_;simp +contextual -implicitDefEqProofs (maxSteps:=10^7) only[go_sem,seval,↓gZ,Zci];refine LO (α:=Nat) (fun i=>[(4,.d (J (i:Int))),(3,.d (J (hiL (l.take i))))]) (fun _=>[]) (fun i=>i≤l.length) (fun i=>l.length-i) 0 (by omega) ?_;intro i hi ih;by_cases aa:i<l.length
 ·obtain⟨x,hx⟩:=ZY aa;have hw:=Zn (k:=i) (by omega);have hm:=ZrX hx;simp +contextual -implicitDefEqProofs (maxSteps:=10^7) only[go_sem,seval,↓gZ,hx,aa,hw];refine ih (i+1) _ (by omega) (by omega) ?_;simp +contextual -implicitDefEqProofs (maxSteps:=10^7) only[go_sem,seval,↓gZ,hm]
 ·have:i=l.length:=by omega
  subst this;simp +contextual -implicitDefEqProofs (maxSteps:=10^7) only[go_sem,seval,↓gZ,Ll]
theorem Zhh (b:BT) (hc:b.cnt≤255):Zi Xs Ms Y6 [.d b.plan.enc] []=some ((.d (J (X5 b))),[]):=by
 have hs:=XR b.plan;rw[QN] at hs;have hz:=Z1 255 b;have e4:Zl 255 (some b)=(b.cnt:Int):=by omega
 have h0:¬(b.cnt:Int)<0:=by omega
 rw[e4] at hs;have e1:=XS b (by omega);obtain⟨q1,q2,q3,q4,q5,aa⟩:∃ a b' c d e,b.plan=.mk a b' c d e:=by cases hq:b.plan;exact⟨_,_,_,_,_,rfl⟩
 rw[aa,Zh.enc_mk] at hs e1 ⊢;refine cE ?_;simp +contextual -implicitDefEqProofs (maxSteps:=10^7) only[go_sem,seval,↓gZ,Jy,hs,h0,e1]
end Go.Proofs.Ytefabmohhbhlfaa
