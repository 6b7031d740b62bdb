/- Own text. -/
import Derived.Test.YtcefneehgbiebaaGreatDoorACode
import Derived.Test.YtcefneehgbiebaaGreatDoorAbsParts
import Derived.Test.YtcefneehgbiebaaGreatDoorAC8
import Derived.Test.YtcefneehgbiebaaGreatDoorAC11
namespace Go.Proofs.YtcefneehgbiebaaGreatDoor
open Go Go.Abs Go.Abs.E Go.Abs.L
open Nat (reduceMul reduceSub reduceLeDiff reduceEqDiff)
open Int (reduceLE reduceEq reduceToNat reduceNeg)
set_option linter.unusedSimpArgs false
set_option linter.unusedVariables false
set_option maxRecDepth 20000
set_option maxHeartbeats 4000000
theorem ZpS {e:Zl} {v:Ev} (hv:Uq e=some v):v.ok∧v.ev.kind=e.kind:=by
 have aa:∀ n∈UU e,six n:=Classical.byContradiction fun h=>by rw[Zh3 h] at hv;cases hv
 obtain⟨b,hb,ab⟩:∃ b,QU e.plan=some b∧Zqc b:=Classical.byContradiction fun h=>by
  rw[Zc9 (e:=e) fun b hb hp=>h ⟨b,hb,hp⟩] at hv;cases hv
 rw[Zfc aa hb ab] at hv;simp only[UU,Ke,Ku,or_false,forall_eq_or_imp,forall_eq] at aa;obtain⟨n1,n2,n3,n4,n5,n6,n7,n8,n9,ae⟩:=aa;have ad:Zp8 e.line:=⟨ae,n7,n8,n9⟩
 simp only[six] at n2 n3 n4 n5 n6;unfold Zb7 at hv;by_cases k0:e.kind=0
 ·rw[Kh k0] at hv;split at hv
  ·cases hv;exact⟨⟨by omega,by omega,by omega⟩,k0.symm⟩
  ·cases hv
 rw[Kd k0] at hv;by_cases k1:e.kind=1
 ·rw[Kh k1] at hv;cases hv;exact⟨⟨by omega,by omega,by omega,by omega,by omega⟩,k1.symm⟩
 rw[Kd k1] at hv;by_cases k2:e.kind=2
 ·rw[Kh k2] at hv;cases hv;exact⟨ad,k2.symm⟩
 rw[Kd k2] at hv;by_cases k3:e.kind=3
 ·rw[Kh k3] at hv;cases hv;exact⟨⟨by omega,ab⟩,k3.symm⟩
 rw[Kd k3] at hv;by_cases k4:e.kind=4
 ·rw[Kh k4] at hv;cases hv;exact⟨ad,k4.symm⟩
 rw[Kd k4] at hv;by_cases k5:e.kind=5
 ·rw[Kh k5] at hv;cases hv;exact⟨by show e.label.toNat≤999999;omega,k5.symm⟩
 ·rw[Kd k5] at hv;cases hv
theorem Zzp {v:Ev} (h:v.ok):v.words.length≤6∧∀ w∈v.words,w.length≤1600:=by
 have nl:∀ n:Nat,n≤999999→(num n).length≤1600:=fun n hn=>by have:=YC 5 n (by omega);omega
 have ln:∀ l:Zc,Zp8 l→(Xq l).length=5∧∀ w∈Xq l,w.length≤1600:=by
  intro l hl;obtain⟨h1,h2,h3,h4⟩:=hl;simp only[six] at h1 h2 h3 h4;refine⟨rfl,fun w hw=>?_⟩;simp only[Xq,Ke,Ku,or_false] at hw;rcases hw with rfl | rfl | rfl | rfl | rfl
  ·exact nl _ (by omega)
  ·exact nl _ (by omega)
  ·exact nl _ (by omega)
  ·cases l.Pane.Turns<;>decide
  ·exact nl _ (by omega)
 cases v with
 | sheet l w g=>
  obtain⟨h1,h2,h3⟩:=h;refine⟨by simp[Ev.words],fun x hx=>?_⟩;simp only[Ev.words,Ke,Ku,or_false] at hx;rcases hx with rfl | rfl | rfl | rfl
  ·decide
  ·exact nl _ h1
  ·exact nl _ h2
  ·exact nl _ h3
 | flaw l a b w g=>
  obtain⟨h1,h2,h3,h4,h5⟩:=h;refine⟨by simp[Ev.words],fun x hx=>?_⟩;simp only[Ev.words,Ke,Ku,or_false] at hx;rcases hx with rfl | rfl | rfl | rfl | rfl | rfl
  ·decide
  ·exact nl _ h1
  ·exact nl _ h2
  ·exact nl _ h3
  ·exact nl _ h4
  ·exact nl _ h5
 | order n=>
  obtain⟨g1,g2⟩:=ln n h;refine⟨by simp only[Ev.words,Ko];omega,fun x hx=>?_⟩;rcases Ke.1 hx with rfl | hx
  ·decide
  ·exact g2 x hx
 | cut l b=>
  obtain⟨h1,h2⟩:=h;refine⟨by simp[Ev.words],fun x hx=>?_⟩;simp only[Ev.words,Ke,Ku,or_false] at hx;rcases hx with rfl | rfl | rfl
  ·decide
  ·exact nl _ h1
  ·exact h2.2.2
 | brk n=>
  obtain⟨g1,g2⟩:=ln n h;refine⟨by simp only[Ev.words,Ko];omega,fun x hx=>?_⟩;rcases Ke.1 hx with rfl | hx
  ·decide
  ·exact g2 x hx
 | scrap l=>
  refine⟨by simp[Ev.words],fun x hx=>?_⟩;simp only[Ev.words,Ke,Ku,or_false] at hx;rcases hx with rfl | rfl
  ·decide
  ·exact nl _ h
theorem Zl2 {v:Ev} (h:v.ok):v.text.length≤20000:=by
 obtain⟨h1,h2⟩:=Zzp h;have h3:=Znt 32 1600 v.words h2;have:v.words.length*1601≤6*1601:=KD _ h1;unfold Ev.text;omega
theorem ZyA (v:Ev):(v.text==[])=false:=by cases v<;>rfl
def UP:List Zl→Option (List Ev)
 | []=>some []
 | e :: r=>(Uq e).bind fun v=>(UP r).bind fun vs=>some (v :: vs)
theorem Zf8 (e:Zl):∀ l:List Zl,UP (l++[e])=(UP l).bind fun vs=>(Uq e).bind fun v=>some (vs++[v])
 | []=>by simp only[Lg,UP];cases Uq e<;>rfl
 | x :: l=>by
  simp only[Kv,UP,Zf8 e l];cases Uq x with
  | none=>rfl
  | some v=>cases UP l with
   | none=>rfl
   | some vs=>cases Uq e<;>rfl
theorem Zlg {e:Zl} (h:Uq e=none):∀ {l:List Zl},e∈l→UP l=none
 | x :: l,hm=>by
  rcases Ke.1 hm with rfl | hm
  ·simp[UP,h]
  ·simp only[UP,Zlg h hm];cases Uq x<;>rfl
theorem Zh5:∀ {l:List Zl} {vs:List Ev},UP l=some vs→vs.length=l.length∧∀ v∈vs,v.ok
 | [],vs,h=>by cases h;simp
 | e :: l,vs,h=>by
  simp only[UP,KQ] at h;obtain⟨v,h1,aa,h2,h3⟩:=h;cases h3;obtain⟨g1,g2⟩:=Zh5 h2;refine⟨by simp[g1],fun x hx=>?_⟩;rcases Ke.1 hx with rfl | hx
  ·exact(ZpS h1).1
  ·exact g2 x hx
def Zsq (l:List Zl):List UInt8:=if l.length≤40 then match UP l with
 | some vs=>Qd vs
 | none=>[] else []
theorem ZyB {l:List Zl} (h:¬l.length≤40):Zsq l=[]:=Kd h
theorem ZjC {l:List Zl} (h:UP l=none):Zsq l=[]:=by unfold Zsq;rw[h];exact ite_self _
theorem ZjD {l:List Zl} {vs:List Ev} (h:l.length≤40) (hv:UP l=some vs):Zsq l=Qd vs:=by unfold Zsq;rw[Kh h,hv]
theorem Zf9 (v:Ev) (l:List Ev):Qd (v :: l)=v.text++10 :: Qd l:=Zd2 ..
theorem Zlh (v:Ev) (l:List Ev):Qd (l++[v])=Qd l++(v.text++[10]):=Zvi ..
theorem Zfd:∀ {l:List Ev},(∀ v∈l,v.ok)→(Qd l).length≤20001*l.length
 | [],_=>by simp[Qd,Zf5]
 | v :: l,h=>by
  have ih:=Zfd (l:=l) fun x hx=>h x (by simp[hx]);have:=Zl2 (h v (by simp));rw[Zf9];simp only[Kp,Ko];omega
theorem ZAC (v:Ev):0<v.text.length:=by
 have:=ZyA v;cases h:v.text with
 | nil=>rw[h] at this;cases this
 | cons _ _=>simp
theorem Zhe (l:List Zl):Ze Xs Ms Vt [(.d (.sl (l.map Zl.enc)))] []=some (.d (.str (Zsq l)),[]):=by
 by_cases af:l.length≤40
 ·have aa : ¬(40:Int)<(l.length:Int):=by omega
  refine cE ?_;simp +contextual -implicitDefEqProofs (maxSteps:=10^7) only[go_sem,seval,↓gZ,Zax,aa];refine LO (α:=Nat×List Ev) (fun a=>[(12,.d (J (a.1:Int)))]) (fun a=>[(0,.box [.bnil 0 TB,.bbuf 5 (Qd a.2)])]) (fun a=>a.1≤l.length∧UP (l.take a.1)=some a.2) (fun a=>l.length-a.1) (0,[]) ⟨by simp,rfl⟩ ?_;intro⟨k,vs⟩ ⟨hk,hv⟩ ih;simp only at hk hv ih ⊢;obtain⟨g1,g2⟩:=Zh5 hv;have hb:=Zfd g2;have al:vs.length≤40:=by rw[g1];simp;omega
  by_cases ad:k<l.length
  ·obtain⟨e,he⟩:=Zq ad;have ab : (k:Int)<(l.length:Int):=by omega
   have w:=Zj (k:=k) (by omega);have ag:e∈l:=Kc he;have ah:l.take (k+1)=l.take k++[e]:=by rw[KP,he];rfl
   obtain⟨K,L,⟨X,Y,W,H⟩,⟨⟨pW,pH,pT,pK⟩,C⟩,⟨o,a,q,t,ks⟩⟩:=e;have e1:=Znu K L X Y W H pW pH pT pK C o a q t ks;cases hx:Uq ⟨K,L,⟨X,Y,W,H⟩,⟨⟨pW,pH,pT,pK⟩,C⟩,.mk o a q t ks⟩ with
   | none=>
    rw[ZcX hx] at e1;rw[ZjC (Zlg hx ag)];simp +contextual -implicitDefEqProofs (maxSteps:=10^7) only[go_sem,seval,↓gZ,ab,ad,he,w,e1]
   | some v=>
    rw[Za8 hx] at e1;have ai:=(ZpS hx).1;have aj:=ZyA v;have ae:=ZAC v;have am:=Zl2 ai;have e2:=Yf (Qd vs) v.text ae (by omega);have e3:=Qq (Qd vs++v.text) 10 10 rfl (by simp;omega);have ak:=Zlh v vs;generalize v.text=tx at *;simp +contextual -implicitDefEqProofs (maxSteps:=10^7) only[go_sem,seval,↓gZ,ab,ad,he,w,e1,aj,e2,e3];refine ih (k+1,vs++[v]) _ ⟨by simp only;omega,?_⟩ (by simp only;omega) ?_
    ·simp only;rw[ah,Zf8,hv,hx];rfl
    ·simp +contextual -implicitDefEqProofs (maxSteps:=10^7) only[go_sem,seval,↓gZ,ak,KN]
  ·have:k=l.length:=by omega
   subst this;rw[KY] at hv;rw[ZjD af hv];have e4:=Zd7 (Qd vs);simp +contextual -implicitDefEqProofs (maxSteps:=10^7) only[go_sem,seval,↓gZ,e4]
 ·have aa : (40:Int)<(l.length:Int):=by omega
  rw[ZyB af];refine cE ?_;simp +contextual -implicitDefEqProofs (maxSteps:=10^7) only[go_sem,seval,↓gZ,Zax,aa]
theorem Zhf (l:List Zl):Ze Xs Ms XQ [(.d (.sl (l.map Zl.enc)))] []=some (.d (.str (Zsq l)),[]):=by
 by_cases ae:l.length≤40
 ·have aa : ¬(40:Int)<(l.length:Int):=by omega
  refine cE ?_;simp +contextual -implicitDefEqProofs (maxSteps:=10^7) only[go_sem,seval,↓gZ,Zay,aa];refine LO (α:=Nat×List Ev) (fun a=>[(4,.d (J (a.1:Int))),(3,.d (.str (Qd a.2)))]) (fun _=>[]) (fun a=>a.1≤l.length∧UP (l.take a.1)=some a.2) (fun a=>l.length-a.1) (0,[]) ⟨by simp,rfl⟩ ?_;intro⟨k,vs⟩ ⟨hk,hv⟩ ih;simp only at hk hv ih ⊢;obtain⟨g1,g2⟩:=Zh5 hv;have hb:=Zfd g2;have aj:vs.length≤40:=by rw[g1];simp;omega
  by_cases ad:k<l.length
  ·obtain⟨e,he⟩:=Zq ad;have ab : (k:Int)<(l.length:Int):=by omega
   have w:=Zj (k:=k) (by omega);have af:e∈l:=Kc he;have ag:l.take (k+1)=l.take k++[e]:=by rw[KP,he];rfl
   obtain⟨K,L,⟨X,Y,W,H⟩,⟨⟨pW,pH,pT,pK⟩,C⟩,⟨o,a,q,t,ks⟩⟩:=e;have e1:=Zj6 K L X Y W H pW pH pT pK C o a q t ks;cases hx:Uq ⟨K,L,⟨X,Y,W,H⟩,⟨⟨pW,pH,pT,pK⟩,C⟩,.mk o a q t ks⟩ with
   | none=>
    rw[hx,KC] at e1;rw[ZjC (Zlg hx af)];simp +contextual -implicitDefEqProofs (maxSteps:=10^7) only[go_sem,seval,↓gZ,ab,ad,he,w,e1]
   | some v=>
    rw[hx,Lx] at e1;have e2:=Zqf K L X Y W H pW pH pT pK C o a q t ks v hx;have ah:=(ZpS hx).1;have ak:=Zl2 ah;have ai:=Zlh v vs;have b1:(Qd vs).length+v.text.length≤1152921504606846976:=by omega
    have b2:(Qd vs).length+v.text.length+1≤1152921504606846976:=by omega
    generalize v.text=tx at *;simp +contextual -implicitDefEqProofs (maxSteps:=10^7) only[go_sem,seval,↓gZ,ab,ad,he,w,e1,e2,b1,b2];refine ih (k+1,vs++[v]) _ ⟨by simp only;omega,?_⟩ (by simp only;omega) ?_
    ·simp only;rw[ag,Zf8,hv,hx];rfl
    ·simp +contextual -implicitDefEqProofs (maxSteps:=10^7) only[go_sem,seval,↓gZ,ai,KN]
  ·have:k=l.length:=by omega
   subst this;rw[KY] at hv;rw[ZjD ae hv];simp +contextual -implicitDefEqProofs (maxSteps:=10^7) only[go_sem,seval,↓gZ]
 ·have aa : (40:Int)<(l.length:Int):=by omega
  rw[ZyB ae];refine cE ?_;simp +contextual -implicitDefEqProofs (maxSteps:=10^7) only[go_sem,seval,↓gZ,Zay,aa]
def Zqi:Nat→List (List UInt8)→List Ev
 | _,[]=>[]
 | _,[_]=>[]
 | k,x :: y :: r=>if 40≤k then [] else match Zso x with
  | none=>[]
  | some v=>v :: Zqi (k+1) (y :: r)
def Zw2 (s:List UInt8):List Ev:=Zqi 0 (Z8 10 s)
theorem Zs1:∀ {n k:Nat} {s:List UInt8},s.length<n→Zqe n k s=Zqi k (Z8 10 s)
 | 0,k,s,h=>by omega
 | n+1,k,s,h=>by
  rw[Zqe,Zc0];cases hi:QI 10 s with
  | none=>simp only[Zqi,ite_self]
  | some i=>
   simp only;have aa:=ZcZ 10 (s.drop (i+1));obtain⟨_,_,ab⟩:=ZbL hi;have ih:=Zs1 (n:=n) (k:=k+1) (s:=s.drop (i+1)) (by simp;omega);cases hs:Z8 10 (s.drop (i+1)) with
   | nil=>exact absurd hs aa
   | cons y r=>
    rw[hs] at ih;rw[Zqi];split
    ·rfl
    ·cases Zso (s.take i) with
     | none=>rfl
     | some v=>simp only;rw[ih]
theorem Zs2 (s:List UInt8):Zw2 s=Zqe (s.length+1) 0 s:=(Zs1 (by omega)).symm
theorem Zfe (s:List UInt8) (hs:s.length≤1000000):Ze Xs Ms YL [.d (.str s)] []=some (.own 0,[.row 16 (((Zw2 s).map Ev.ev).map Zl.enc) true false]):=by
 refine cE ?_;simp +contextual -implicitDefEqProofs (maxSteps:=10^7) only[go_sem,seval,↓gZ,Zca];refine LO (α:=List UInt8×List Ev) (fun a=>[(0,.d (.str a.1))]) (fun a=>[(0,.row 16 ((a.2.map Ev.ev).map Zl.enc) true false)]) (fun a=>a.1.length≤s.length∧Zw2 s=a.2++Zqi a.2.length (Z8 10 a.1)) (fun a=>a.1.length) (s,[]) ⟨by simp,by simp[Zw2]⟩ ?_;intro⟨t,vs⟩ ⟨hk,hp⟩ ih;simp only at hk hp ih ⊢;have e1:=Zc7 t 10 (by omega);rw[Zc0] at hp;by_cases ae:vs.length<40
 ·have aa : (vs.length:Int)<40:=by omega
  have ad:(vs.length+1)*144≤140737488355328∧vs.length≤140737488355327:=by omega
  cases hi:QI 10 t with
  | none=>
   rw[hi] at e1 hp;simp only at e1 hp;simp only[Zqi,KU] at hp;rw[hp];simp +contextual -implicitDefEqProofs (maxSteps:=10^7) only[go_sem,seval,↓gZ,ae,aa,e1]
  | some i=>
   rw[hi] at e1 hp;simp only at e1 hp;obtain⟨_,_,ah⟩:=ZbL hi;have ag:=ZcZ 10 (t.drop (i+1));obtain⟨K,L,X,Y,W,H,pW,pH,pT,pK,C,o,a,q,tt,ks,e2,h2⟩:=Zpl (t.take i) (by simp;omega);have ab:Zw2 s=vs++match Zso (t.take i) with
     | none=>[]
     | some v=>v :: Zqi (vs.length+1) (Z8 10 (t.drop (i+1))):=by
    cases hsp:Z8 10 (t.drop (i+1)) with
    | nil=>exact absurd hsp ag
    | cons y r=>rw[hsp,Zqi,Kd (by omega)] at hp;exact hp
   cases hv:Zso (t.take i) with
   | none=>
    rw[hv] at e2 ab;simp only[KC] at e2;simp only[KU] at ab;rw[ab];simp +contextual -implicitDefEqProofs (maxSteps:=10^7) only[go_sem,seval,↓gZ,ae,aa,e1,e2]
   | some v=>
    rw[hv] at e2 ab h2;simp only[Lx] at e2;simp only[evM] at ab h2;simp +contextual -implicitDefEqProofs (maxSteps:=10^7) only[go_sem,seval,↓gZ,ae,aa,e1,e2,ad];refine ih (t.drop (i+1),vs++[v]) _ ⟨by simp;omega,?_⟩ (by simp;omega) ?_
    ·simp only[KN,List.singleton_append,Kp,Ko,KL,K5];exact ab
    ·simp +contextual -implicitDefEqProofs (maxSteps:=10^7) only[go_sem,seval,↓gZ,Lc,Kk,Kw,← h2]
 ·have aa : ¬(vs.length:Int)<40:=by omega
  have af:∀ ls,Zqi vs.length ls=[]:=by
   intro ls
   match ls with
   | []=>rfl
   | [_]=>rfl
   | x :: y :: r=>rw[Zqi,Kh (by omega)]
  rw[af,KU] at hp;rw[hp];simp +contextual -implicitDefEqProofs (maxSteps:=10^7) only[go_sem,seval,↓gZ,ae,aa]
theorem evS_ev {s:Zs} {e:Zl} {v:Ev} (hv:Uq e=some v):evS s e=evS s v.ev:=by
 have aa:∀ n∈UU e,six n:=Classical.byContradiction fun h=>by rw[Zh3 h] at hv;cases hv
 obtain⟨b,hb,ad⟩:∃ b,QU e.plan=some b∧Zqc b:=Classical.byContradiction fun h=>by
  rw[Zc9 (e:=e) fun b hb hp=>h ⟨b,hb,hp⟩] at hv;cases hv
 have ab:=UM hb;rw[Zfc aa hb ad] at hv;simp only[UU,Ke,Ku,or_false,forall_eq_or_imp,forall_eq] at aa;obtain⟨n1,n2,n3,n4,n5,n6,n7,n8,n9,af⟩:=aa;obtain⟨K,L,⟨X,Y,W,H⟩,n,p⟩:=e;simp only at n1 n2 n3 n4 n5 n6 ab;have tL:=Ld n2.1;have tX:=Ld n3.1;have tY:=Ld n4.1;have tW:=Ld n5.1;have tH:=Ld n6.1;unfold Zb7 at hv;simp only at hv;by_cases k0:K=0
 ·rw[Kh k0] at hv;split at hv
  ·rename_i ae;obtain⟨rfl,rfl⟩:=ae;cases hv;subst k0;simp only[Ev.ev,tL,tW,tH];simp[evS]
  ·cases hv
 rw[Kd k0] at hv;by_cases k1:K=1
 ·rw[Kh k1] at hv;cases hv;subst k1;simp only[Ev.ev,tL,tX,tY,tW,tH];simp[evS]
 rw[Kd k1] at hv;by_cases k2:K=2
 ·rw[Kh k2] at hv;cases hv;subst k2;rfl
 rw[Kd k2] at hv;by_cases k3:K=3
 ·rw[Kh k3] at hv;cases hv;subst k3;simp only[Ev.ev,tL,← ab];simp[evS,Zfg]
 rw[Kd k3] at hv;by_cases k4:K=4
 ·rw[Kh k4] at hv;cases hv;subst k4;rfl
 rw[Kd k4] at hv;by_cases k5:K=5
 ·rw[Kh k5] at hv;cases hv;subst k5;simp only[Ev.ev,tL];simp[evS]
 ·rw[Kd k5] at hv;cases hv
theorem ZBY {s:Zs} {e:Zl} {v:Ev} (hv:Uq e=some v):QP s e=QP s v.ev:=by unfold QP;rw[evS_ev hv]
theorem Zqj:∀ {l:List Zl} {vs:List Ev} {s:Zs},UP l=some vs→runL s l=runL s (vs.map Ev.ev)
 | [],vs,s,h=>by cases h;rfl
 | e :: l,vs,s,h=>by
  simp only[UP,KQ] at h;obtain⟨v,h1,aa,h2,h3⟩:=h;cases h3;simp only[Kk,runL,ZBY h1];cases QP s v.ev with
  | none=>rfl
  | some t=>exact Zqj h2
theorem Zzq {l:List Ev} (ab:l.length≤40) (ho:∀ v∈l,v.ok):Zw2 (Qd l)=l:=by
 have aa:∀ m:List Ev,m.length≤(Qd m).length:=by
  intro m
  induction m with
  | nil=>simp
  | cons v m ih=>rw[Zf9];simp only[Kp,Ko];omega
 have:=Zns (n:=(Qd l).length+1) (k:=0) (l:=l) (s:=[]) (by have:=aa l;omega) (by omega) ho;rw[KU] at this;rw[Zs2,this];have:Zqe ((Qd l).length+1-l.length) (0+l.length) []=[]:=by
  cases (Qd l).length+1-l.length with
  | zero=>rfl
  | succ n=>rw[Zqe];split<;>rfl
 rw[this,KU]
def PDrF (r:AV×List Zm):Prop:=∃ (l:List Zl),(∀ e∈l,EvI e)∧l.length≤16 ∧
 ((∃ b,r=(.own 0,[.row 16 (l.map Zl.enc) b false]))∨∃ e0,r=(.ownv 0 1 l.length,[.row 16 ((e0 :: l).map Zl.enc) true false]))
theorem Zcr (aa:List UInt8):∃ r,Ze Xs Ms Xw [.d (.sl (aa.map JM))] []=some r∧PDrF r:=by
 have hb:(aa.take 2000).length≤2000:=by simp;omega
 have en:=Zp6 aa;obtain⟨r,e1,l,p',h1,h2,h3,h4,hr⟩:=Zuq (aa.take 2000) hb 0 (by omega);simp only[cast0] at e1;generalize aa.take 2000=bs at *;rcases hr with ⟨b,rfl⟩ | ⟨e0,rfl⟩
 ·cases b
  ·refine cW ?_;simp +contextual -implicitDefEqProofs (maxSteps:=10^7) only[go_sem,seval,↓gZ,Yx,en,e1];exact⟨l,h1,h2,.inl ⟨_,rfl⟩⟩
  ·refine cW ?_;simp +contextual -implicitDefEqProofs (maxSteps:=10^7) only[go_sem,seval,↓gZ,Yx,en,e1];exact⟨l,h1,h2,.inl ⟨_,rfl⟩⟩
 ·refine cW ?_;simp +contextual -implicitDefEqProofs (maxSteps:=10^7) only[go_sem,seval,↓gZ,Yx,en,e1];exact⟨l,h1,h2,.inr ⟨e0,rfl⟩⟩
theorem Zvo {l:List Ev} (h:l≠[]):(Qd l==[])=false:=by
 cases l with
 | nil=>exact absurd rfl h
 | cons v l=>rw[Zf9];cases v.text<;>rfl
theorem Zl3 (ad:List UInt8):Ze Xs Ms Ur [.d (.sl (ad.map JM))] []=some ((.d (.bool true)),[]):=by
 by_cases hc:ad.length≤1048576
 ·have ae : ¬(1048576:Int)<(ad.length:Int):=by omega
  obtain⟨r,ed,l,hE,al,hr⟩:=Zcr ad;have e1:=Zhe l;have e2:=Zhf l;have ah:∀ e0,List.take l.length (List.drop 1 (e0 :: l))=l:=fun _=>by simp
  have ai:List.take l.length l=l:=KY;by_cases af:Zsq l=[]
  ·rw[af] at e1 e2;rcases hr with ⟨b,rfl⟩ | ⟨e0,rfl⟩
   ·refine cE ?_;cases b with
    | false=>simp +contextual -implicitDefEqProofs (maxSteps:=10^7) only[go_sem,seval,↓gZ,Z9,ae,ed,e1,e2]
    | true=>simp +contextual -implicitDefEqProofs (maxSteps:=10^7) only[go_sem,seval,↓gZ,Z9,ae,ed,e1,e2]
   ·refine cE ?_;simp +contextual -implicitDefEqProofs (maxSteps:=10^7) only[go_sem,seval,↓gZ,Z9,ae,ed,e1,e2,ah,ai]
  ·obtain⟨vs,aj⟩:∃ vs,UP l=some vs:=by
    cases h:UP l with
    | none=>exact absurd (ZjC h) af
    | some vs=>exact⟨vs,rfl⟩
   obtain⟨g1,g2⟩:=Zh5 aj;rw[ZjD (by omega) aj] at e1 e2 af;have ag:(Qd vs==[])=false:=Zvo fun h=>af (by rw[h];rfl);have aa:(Qd vs != Qd vs)=false:=by simp
   have an:=Zfd g2;have e3:=Zfe (Qd vs) (by omega);rw[Zzq (by omega) g2] at e3;have e4:=ZcF l (by omega);have e5:=ZcF (vs.map Ev.ev) (by simp;omega);have am:ZnN l=runL ⟨[],[],[],0,0⟩ l:=by unfold ZnN;rw[Kh (by omega)]
   have ak:ZnN (vs.map Ev.ev)=runL ⟨[],[],[],0,0⟩ l:=by unfold ZnN;rw[Kh (by simp;omega),← Zqj aj]
   rw[am] at e4;rw[ak] at e5;generalize Qd vs=tx at *;have ab:vs.length=l.length:=g1;cases ha:runL ⟨[],[],[],0,0⟩ l with
   | none=>
    rw[ha] at e4 e5;unfold shV at e4 e5;have e6:=Zbf [] [] [] 0 0 (U1 Zbe);simp only[Kw] at e4 e5 e6;rcases hr with ⟨b,rfl⟩ | ⟨e0,rfl⟩
    ·refine cE ?_;cases b with
     | false=>simp +contextual -implicitDefEqProofs (maxSteps:=10^7) only[go_sem,seval,↓gZ,Z9,ae,ed,e1,e2,ag,aa,e3,e4,e5,e6,ab,ZcW,Ze9,bne_self_eq_false,beq_self_eq_true]
     | true=>simp +contextual -implicitDefEqProofs (maxSteps:=10^7) only[go_sem,seval,↓gZ,Z9,ae,ed,e1,e2,ag,aa,e3,e4,e5,e6,ab,ZcW,Ze9,bne_self_eq_false,beq_self_eq_true]
    ·refine cE ?_;simp +contextual -implicitDefEqProofs (maxSteps:=10^7) only[go_sem,seval,↓gZ,Z9,ae,ed,e1,e2,ah,ai,ag,aa,e3,e4,e5,e6,ab,ZcW,Ze9,bne_self_eq_false,beq_self_eq_true]
   | some z=>
    rw[ha] at e4 e5;have hz:=Zge Zbe ha;obtain⟨zS,zO,zD,zL,zC⟩:=z;unfold shV at e4 e5;simp only at e4 e5;have e6:=Zbf zS zO zD zL zC (U1 hz);rcases hr with ⟨b,rfl⟩ | ⟨e0,rfl⟩
    ·refine cE ?_;cases b with
     | false=>simp +contextual -implicitDefEqProofs (maxSteps:=10^7) only[go_sem,seval,↓gZ,Z9,ae,ed,e1,e2,ag,aa,e3,e4,e5,e6,ab,ZcW,Ze9,bne_self_eq_false,beq_self_eq_true]
     | true=>simp +contextual -implicitDefEqProofs (maxSteps:=10^7) only[go_sem,seval,↓gZ,Z9,ae,ed,e1,e2,ag,aa,e3,e4,e5,e6,ab,ZcW,Ze9,bne_self_eq_false,beq_self_eq_true]
    ·refine cE ?_;simp +contextual -implicitDefEqProofs (maxSteps:=10^7) only[go_sem,seval,↓gZ,Z9,ae,ed,e1,e2,ah,ai,ag,aa,e3,e4,e5,e6,ab,ZcW,Ze9,bne_self_eq_false,beq_self_eq_true]
 ·have ae : (1048576:Int)<(ad.length:Int):=by omega
  refine cE ?_;simp +contextual -implicitDefEqProofs (maxSteps:=10^7) only[go_sem,seval,↓gZ,Z9,ae]
theorem Zw3 {ws:List Ev} {v:Ev} (ab:ws.length≤40) (ho:∀ x∈ws,x.ok):Zw2 (Qd ws++v.text)=ws:=by
 have aa:∀ m:List Ev,m.length≤(Qd m).length:=by
  intro m
  induction m with
  | nil=>simp
  | cons v m ih=>rw[Zf9];simp only[Kp,Ko];omega
 have:=Zns (n:=(Qd ws++v.text).length+1) (k:=0) (l:=ws) (s:=v.text) (by have:=aa ws;simp only[Kp];omega) (by omega) ho;rw[Zs2,this];have hi:QI 10 v.text=none:=Zih.2 (Zyz v);have:Zqe ((Qd ws++v.text).length+1-ws.length) (0+ws.length) v.text=[]:=by
  cases (Qd ws++v.text).length+1-ws.length with
  | zero=>rfl
  | succ n=>rw[Zqe,hi];split<;>rfl
 rw[this,KU]
theorem Zga (aa:List UInt8):Ze Xs Ms YD [.d (.sl (aa.map JM))] []=some ((.d (.bool true)),[]):=by
 by_cases hc:aa.length≤1048576
 ·have ab : ¬(1048576:Int)<(aa.length:Int):=by omega
  obtain⟨r,ed,l,hE,ap,hr⟩:=Zcr aa;have e1:=Zhe l;have e2:=Zhf l;have e4:=ZcF l (by omega);have ay:ZnN l=runL ⟨[],[],[],0,0⟩ l:=by unfold ZnN;rw[Kh (by omega)]
  rw[ay] at e4;have aj:∀ e0,List.take l.length (List.drop 1 (e0 :: l))=l:=fun _=>by simp
  have am:List.take l.length l=l:=KY;have an:∀ t:List UInt8,(t != t)=false:=fun t=>by simp
  have ag:∀ t:List UInt8,(t==t)=true:=fun t=>by simp
  cases ha:runL ⟨[],[],[],0,0⟩ l with
  | none=>
   rw[ha] at e4;unfold shV at e4;simp only[Kw] at e4;generalize Zsq l=tx at *;rcases hr with ⟨b,rfl⟩ | ⟨e0,rfl⟩
   ·refine cE ?_;cases b with
    | false=>simp +contextual -implicitDefEqProofs (maxSteps:=10^7) only[go_sem,seval,↓gZ,ZL,ab,ed,e1,e2,e4,an,ag,beq_self_eq_true]
    | true=>simp +contextual -implicitDefEqProofs (maxSteps:=10^7) only[go_sem,seval,↓gZ,ZL,ab,ed,e1,e2,e4,an,ag,beq_self_eq_true]
   ·refine cE ?_;simp +contextual -implicitDefEqProofs (maxSteps:=10^7) only[go_sem,seval,↓gZ,ZL,ab,ed,e1,e2,e4,aj,am,an,ag,beq_self_eq_true]
  | some z=>
   rw[ha] at e4;have hz:=Zge Zbe ha;obtain⟨zS,zO,zD,zL,zC⟩:=z;have e6:=Zbf zS zO zD zL zC (U1 hz);unfold shV at e4;simp only at e4;by_cases ae:Zsq l=[]
   ·rw[ae] at e1 e2;rcases hr with ⟨b,rfl⟩ | ⟨e0,rfl⟩
    ·refine cE ?_;cases b with
     | false=>simp +contextual -implicitDefEqProofs (maxSteps:=10^7) only[go_sem,seval,↓gZ,ZL,ab,ed,e1,e2,e4]
     | true=>simp +contextual -implicitDefEqProofs (maxSteps:=10^7) only[go_sem,seval,↓gZ,ZL,ab,ed,e1,e2,e4]
    ·refine cE ?_;simp +contextual -implicitDefEqProofs (maxSteps:=10^7) only[go_sem,seval,↓gZ,ZL,ab,ed,e1,e2,e4,aj,am]
   ·obtain⟨vs,ak⟩:∃ vs,UP l=some vs:=by
     cases h:UP l with
     | none=>exact absurd (ZjC h) ae
     | some vs=>exact⟨vs,rfl⟩
    rw[ZjD (by omega) ak] at e1 e2 ae;rcases ZqN l with rfl | ⟨m,e,rfl⟩
    ·cases ak;exact absurd rfl ae
    ·rw[Zf8] at ak;simp only[KQ] at ak;obtain⟨ws,hw,v,hv,h3⟩:=ak;cases h3;obtain⟨g1,g2⟩:=Zh5 hw;simp only[Kp,Ko,KL] at ap;have az:=(ZpS hv).1;have a2:=Zfd g2;have a3:=Zl2 az;have aq:(Qd (ws++[v])==[])=false:=Zvo (by simp);have ad:=an (Qd (ws++[v]));have ax:Qd (ws++[v])=(Qd ws++v.text)++[10]:=by rw[Zlh,KN]
     have al:(Qd (ws++[v])).length=(Qd ws).length+v.text.length+1:=by rw[ax];simp;omega
     have ar:IntKind.i64.wrap (((Qd (ws++[v])).length:Int)-1)=((Qd ws++v.text).length:Int):=by rw[wi _ (by omega) (by omega),al];simp only[Kp];omega
     have ah:((Qd ws++v.text).length:Int)≤((Qd (ws++[v])).length:Int):=by rw[al];simp only[Kp];omega
     have ai:List.take (Qd ws++v.text).length (Qd (ws++[v]))=Qd ws++v.text:=by rw[ax,List.take_append_of_le_length (Kt _),KY]
     have e3:=Zfe (Qd ws++v.text) (by simp;omega);rw[Zw3 (by omega) g2] at e3;have a4:∀ t:Int,t=(Qd ws++v.text).length→0≤t:=fun t h=>by omega
     have af:=ha;rw[ZoC] at af;cases hm:runL ⟨[],[],[],0,0⟩ m with
     | none=>rw[hm] at af;cases af
     | some y=>
      rw[hm] at af;simp only[runL] at af;have hy:=Zge Zbe hm;cases hap:QP y e with
      | none=>rw[hap] at af;cases af
      | some u=>
       rw[hap] at af;cases af;have e5:=ZcF (ws.map Ev.ev) (by simp;omega);have a0:ZnN (ws.map Ev.ev)=runL ⟨[],[],[],0,0⟩ m:=by unfold ZnN;rw[Kh (by simp;omega),← Zqj hw]
       rw[a0,hm] at e5;obtain⟨yS,yO,yD,yL,yC⟩:=y;obtain⟨K,Lb,⟨X,Y,W,H⟩,⟨⟨pW,pH,pT,pK⟩,Ct⟩,⟨o,a,q,t,ks⟩⟩:=e;have e7:=Zhn yS yO yD yL yC K Lb X Y W H pW pH pT pK Ct o a q t ks;rw[Kh hy,hap] at e7;unfold shV at e5 e7;simp only at e5 e7;have au:IntKind.i64.wrap (((m.length+1:Nat):Int)-1)=(m.length:Int):=by rw[wi _ (by omega) (by omega)];omega
       have av:m.length<m.length+1:=by omega
       have aw:m.length≤m.length+1:=by omega
       have hg:(m++[(⟨K,Lb,⟨X,Y,W,H⟩,⟨⟨pW,pH,pT,pK⟩,Ct⟩,.mk o a q t ks⟩:Zl)])[m.length]?=some ⟨K,Lb,⟨X,Y,W,H⟩,⟨⟨pW,pH,pT,pK⟩,Ct⟩,.mk o a q t ks⟩:=by simp
       have ao:(m++[(⟨K,Lb,⟨X,Y,W,H⟩,⟨⟨pW,pH,pT,pK⟩,Ct⟩,.mk o a q t ks⟩:Zl)]).length=m.length+1:=by simp
       generalize hL:m++[(⟨K,Lb,⟨X,Y,W,H⟩,⟨⟨pW,pH,pT,pK⟩,Ct⟩,.mk o a q t ks⟩:Zl)]=LL at *;generalize Qd ws++v.text=tx at *;generalize Qd (ws++[v])=ty at *;rcases hr with ⟨b,rfl⟩ | ⟨e0,rfl⟩
       ·refine cE ?_;cases b with
        | false=>simp +contextual -implicitDefEqProofs (maxSteps:=10^7) only[go_sem,seval,↓gZ,ZL,ZlM,ab,ed,e1,e2,e3,e4,e5,e6,e7,aq,ad,ar,ah,ai,ao,au,av,aw,hg,g1,Kaa,LA,beq_self_eq_true]
        | true=>simp +contextual -implicitDefEqProofs (maxSteps:=10^7) only[go_sem,seval,↓gZ,ZL,ZlM,ab,ed,e1,e2,e3,e4,e5,e6,e7,aq,ad,ar,ah,ai,ao,au,av,aw,hg,g1,Kaa,LA,beq_self_eq_true]
       ·have aj:=aj e0;have a1:(Zl.enc e0 :: LL.map Zl.enc)[1+m.length]?=some (Zl.enc ⟨K,Lb,⟨X,Y,W,H⟩,⟨⟨pW,pH,pT,pK⟩,Ct⟩,.mk o a q t ks⟩):=by rw[Nat.add_comm];simp[hg]
        rw[ao] at aj am;refine cE ?_;simp +contextual -implicitDefEqProofs (maxSteps:=10^7) only[go_sem,seval,↓gZ,ZL,ZlM,ab,ed,e1,e2,e3,e4,e5,e6,e7,aj,am,KY,aq,ad,ar,ah,ai,ao,au,av,aw,a1,g1,Ko,Nat.add_zero,LA,Nat.add_sub_cancel,beq_self_eq_true]
 ·have ab : (1048576:Int)<(aa.length:Int):=by omega
  refine cE ?_;simp +contextual -implicitDefEqProofs (maxSteps:=10^7) only[go_sem,seval,↓gZ,ZL,ab]
end Go.Proofs.YtcefneehgbiebaaGreatDoor
