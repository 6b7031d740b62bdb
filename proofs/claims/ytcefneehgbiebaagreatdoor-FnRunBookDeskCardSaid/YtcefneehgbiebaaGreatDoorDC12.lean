/- Own text. -/
import Derived.Test.YtcefneehgbiebaaGreatDoorDCode
import Derived.Test.YtcefneehgbiebaaGreatDoorAbsParts
import Derived.Test.YtcefneehgbiebaaGreatDoorDC8
import Derived.Test.YtcefneehgbiebaaGreatDoorDC11
namespace Go.Proofs.YtcefneehgbiebaaGreatDoor
open Go Go.Abs Go.Abs.E Go.Abs.L
open Nat (reduceMul reduceSub reduceLeDiff reduceEqDiff)
open Int (reduceLE reduceEq reduceToNat reduceNeg)
set_option linter.unusedSimpArgs false
set_option linter.unusedVariables false
set_option maxRecDepth 20000
set_option maxHeartbeats 4000000
theorem Zux {e:Zl} {v:Ev} (hv:Up e=some v):v.ok∧v.ev.kind=e.kind:=by
 have aa:∀ n∈UO e,six n:=Classical.byContradiction fun h=>by rw[Zhv h] at hv;cases hv
 obtain⟨b,hb,ab⟩:∃ b,QP e.plan=some b∧ZpN b:=Classical.byContradiction fun h=>by
  rw[Zdr (e:=e) fun b hb hp=>h ⟨b,hb,hp⟩] at hv;cases hv
 rw[Zfo aa hb ab] at hv;simp only[UO,Kd,Ku,or_false,forall_eq_or_imp,forall_eq] at aa;obtain⟨n1,n2,n3,n4,n5,n6,n7,n8,n9,ae⟩:=aa;have ad:ZpJ e.line:=⟨ae,n7,n8,n9⟩
 simp only[six] at n2 n3 n4 n5 n6;unfold Zcc at hv;by_cases k0:e.kind=0
 ·rw[Kh k0] at hv;split at hv
  ·cases hv;exact⟨⟨by omega,by omega,by omega⟩,k0.symm⟩
  ·cases hv
 rw[Ke k0] at hv;by_cases k1:e.kind=1
 ·rw[Kh k1] at hv;cases hv;exact⟨⟨by omega,by omega,by omega,by omega,by omega⟩,k1.symm⟩
 rw[Ke k1] at hv;by_cases k2:e.kind=2
 ·rw[Kh k2] at hv;cases hv;exact⟨ad,k2.symm⟩
 rw[Ke k2] at hv;by_cases k3:e.kind=3
 ·rw[Kh k3] at hv;cases hv;exact⟨⟨by omega,ab⟩,k3.symm⟩
 rw[Ke k3] at hv;by_cases k4:e.kind=4
 ·rw[Kh k4] at hv;cases hv;exact⟨ad,k4.symm⟩
 rw[Ke k4] at hv;by_cases k5:e.kind=5
 ·rw[Kh k5] at hv;cases hv;exact⟨by show e.label.toNat≤999999;omega,k5.symm⟩
 ·rw[Ke k5] at hv;cases hv
theorem ZAl {v:Ev} (h:v.ok):v.words.length≤6∧∀ w∈v.words,w.length≤1600:=by
 have nl:∀ n:Nat,n≤999999→(num n).length≤1600:=fun n hn=>by have:=X6 5 n (by omega);omega
 have ln:∀ l:Zc,ZpJ l→(Xt l).length=5∧∀ w∈Xt l,w.length≤1600:=by
  intro l hl;obtain⟨h1,h2,h3,h4⟩:=hl;simp only[six] at h1 h2 h3 h4;refine⟨rfl,fun w hw=>?_⟩;simp only[Xt,Kd,Ku,or_false] at hw;rcases hw with rfl | rfl | rfl | rfl | rfl
  ·exact nl _ (by omega)
  ·exact nl _ (by omega)
  ·exact nl _ (by omega)
  ·cases l.Pane.Turns<;>decide
  ·exact nl _ (by omega)
 cases v with
 | sheet l w g=>
  obtain⟨h1,h2,h3⟩:=h;refine⟨by simp[Ev.words],fun x hx=>?_⟩;simp only[Ev.words,Kd,Ku,or_false] at hx;rcases hx with rfl | rfl | rfl | rfl
  ·decide
  ·exact nl _ h1
  ·exact nl _ h2
  ·exact nl _ h3
 | flaw l a b w g=>
  obtain⟨h1,h2,h3,h4,h5⟩:=h;refine⟨by simp[Ev.words],fun x hx=>?_⟩;simp only[Ev.words,Kd,Ku,or_false] at hx;rcases hx with rfl | rfl | rfl | rfl | rfl | rfl
  ·decide
  ·exact nl _ h1
  ·exact nl _ h2
  ·exact nl _ h3
  ·exact nl _ h4
  ·exact nl _ h5
 | order n=>
  obtain⟨g1,g2⟩:=ln n h;refine⟨by simp only[Ev.words,Kp];omega,fun x hx=>?_⟩;rcases Kd.1 hx with rfl | hx
  ·decide
  ·exact g2 x hx
 | cut l b=>
  obtain⟨h1,h2⟩:=h;refine⟨by simp[Ev.words],fun x hx=>?_⟩;simp only[Ev.words,Kd,Ku,or_false] at hx;rcases hx with rfl | rfl | rfl
  ·decide
  ·exact nl _ h1
  ·exact h2.2.2
 | brk n=>
  obtain⟨g1,g2⟩:=ln n h;refine⟨by simp only[Ev.words,Kp];omega,fun x hx=>?_⟩;rcases Kd.1 hx with rfl | hx
  ·decide
  ·exact g2 x hx
 | scrap l=>
  refine⟨by simp[Ev.words],fun x hx=>?_⟩;simp only[Ev.words,Kd,Ku,or_false] at hx;rcases hx with rfl | rfl
  ·decide
  ·exact nl _ h
theorem ZpS {v:Ev} (h:v.ok):v.text.length≤20000:=by
 obtain⟨h1,h2⟩:=ZAl h;have h3:=ZlJ 32 1600 v.words h2;have:v.words.length*1601≤6*1601:=KF _ h1;unfold Ev.text;omega
theorem Zy4 (v:Ev):(v.text==[])=false:=by cases v<;>rfl
def JO:List Zl→Option (List Ev)
 | []=>some []
 | e :: r=>(Up e).bind fun v=>(JO r).bind fun vs=>some (v :: vs)
theorem Zjy (e:Zl):∀ l:List Zl,JO (l++[e])=(JO l).bind fun vs=>(Up e).bind fun v=>some (vs++[v])
 | []=>by simp only[Le,JO];cases Up e<;>rfl
 | x :: l=>by
  simp only[Kv,JO,Zjy e l];cases Up x with
  | none=>rfl
  | some v=>cases JO l with
   | none=>rfl
   | some vs=>cases Up e<;>rfl
theorem Zjz {e:Zl} (h:Up e=none):∀ {l:List Zl},e∈l→JO l=none
 | x :: l,hm=>by
  rcases Kd.1 hm with rfl | hm
  ·simp[JO,h]
  ·simp only[JO,Zjz h hm];cases Up x<;>rfl
theorem ZkD:∀ {l:List Zl} {vs:List Ev},JO l=some vs→vs.length=l.length∧∀ v∈vs,v.ok
 | [],vs,h=>by cases h;simp
 | e :: l,vs,h=>by
  simp only[JO,KV] at h;obtain⟨v,h1,aa,h2,h3⟩:=h;cases h3;obtain⟨g1,g2⟩:=ZkD h2;refine⟨by simp[g1],fun x hx=>?_⟩;rcases Kd.1 hx with rfl | hx
  ·exact(Zux h1).1
  ·exact g2 x hx
def Zuy (l:List Zl):List UInt8:=if l.length≤40 then match JO l with
 | some vs=>QV vs
 | none=>[] else []
theorem Zy5 {l:List Zl} (h:¬l.length≤40):Zuy l=[]:=Ke h
theorem ZlM {l:List Zl} (h:JO l=none):Zuy l=[]:=by unfold Zuy;rw[h];exact ite_self _
theorem ZlN {l:List Zl} {vs:List Ev} (h:l.length≤40) (hv:JO l=some vs):Zuy l=QV vs:=by unfold Zuy;rw[Kh h,hv]
theorem ZjA (v:Ev) (l:List Ev):QV (v :: l)=v.text++10 :: QV l:=JN ..
theorem ZpT (v:Ev) (l:List Ev):QV (l++[v])=QV l++(v.text++[10]):=ZmT ..
theorem Ziq:∀ {l:List Ev},(∀ v∈l,v.ok)→(QV l).length≤20001*l.length
 | [],_=>by simp[QV,UN]
 | v :: l,h=>by
  have ih:=Ziq (l:=l) fun x hx=>h x (by simp[hx]);have:=ZpS (h v (by simp));rw[ZjA];simp only[Kr,Kp];omega
theorem ZBD (v:Ev):0<v.text.length:=by
 have:=Zy4 v;cases h:v.text with
 | nil=>rw[h] at this;cases this
 | cons _ _=>simp
theorem Zng (l:List Zl):Ze Xs Ms W3 [(.d (.sl (l.map Zl.enc)))] []=some (.d (.str (Zuy l)),[]):=by
 by_cases af:l.length≤40
 ·have aa : ¬(40:Int)<(l.length:Int):=by omega
  refine cE ?_;simp +contextual -implicitDefEqProofs (maxSteps:=10^7) only[go_sem,seval,↓gZ,ZaN,aa];refine LO (α:=Nat×List Ev) (fun a=>[(12,.d (J (a.1:Int)))]) (fun a=>[(0,.box [.bnil 0 TB,.bbuf 5 (QV a.2)])]) (fun a=>a.1≤l.length∧JO (l.take a.1)=some a.2) (fun a=>l.length-a.1) (0,[]) ⟨by simp,rfl⟩ ?_;intro⟨k,vs⟩ ⟨hk,hv⟩ ih;simp only at hk hv ih ⊢;obtain⟨g1,g2⟩:=ZkD hv;have hb:=Ziq g2;have al:vs.length≤40:=by rw[g1];simp;omega
  by_cases ad:k<l.length
  ·obtain⟨e,he⟩:=Zs ad;have ab : (k:Int)<(l.length:Int):=by omega
   have w:=Zj (k:=k) (by omega);have ag:e∈l:=Kc he;have ah:l.take (k+1)=l.take k++[e]:=by rw[KL,he];rfl
   obtain⟨K,L,⟨X,Y,W,H⟩,⟨⟨pW,pH,pT,pK⟩,C⟩,⟨o,a,q,t,ks⟩⟩:=e;have e1:=ZlK K L X Y W H pW pH pT pK C o a q t ks;cases hx:Up ⟨K,L,⟨X,Y,W,H⟩,⟨⟨pW,pH,pT,pK⟩,C⟩,.mk o a q t ks⟩ with
   | none=>
    rw[ZcS hx] at e1;rw[ZlM (Zjz hx ag)];simp +contextual -implicitDefEqProofs (maxSteps:=10^7) only[go_sem,seval,↓gZ,ab,ad,he,w,e1]
   | some v=>
    rw[Zbk hx] at e1;have ai:=(Zux hx).1;have aj:=Zy4 v;have ae:=ZBD v;have am:=ZpS ai;have e2:=Xh (QV vs) v.text ae (by omega);have e3:=Z9 (QV vs++v.text) 10 10 rfl (by simp;omega);have ak:=ZpT v vs;generalize v.text=tx at *;simp +contextual -implicitDefEqProofs (maxSteps:=10^7) only[go_sem,seval,↓gZ,ab,ad,he,w,e1,aj,e2,e3];refine ih (k+1,vs++[v]) _ ⟨by simp only;omega,?_⟩ (by simp only;omega) ?_
    ·simp only;rw[ah,Zjy,hv,hx];rfl
    ·simp +contextual -implicitDefEqProofs (maxSteps:=10^7) only[go_sem,seval,↓gZ,ak,KE]
  ·have:k=l.length:=by omega
   subst this;rw[K1] at hv;rw[ZlN af hv];have e4:=Zas (QV vs);simp +contextual -implicitDefEqProofs (maxSteps:=10^7) only[go_sem,seval,↓gZ,e4]
 ·have aa : (40:Int)<(l.length:Int):=by omega
  rw[Zy5 af];refine cE ?_;simp +contextual -implicitDefEqProofs (maxSteps:=10^7) only[go_sem,seval,↓gZ,ZaN,aa]
theorem Znh (l:List Zl):Ze Xs Ms Vu [(.d (.sl (l.map Zl.enc)))] []=some (.d (.str (Zuy l)),[]):=by
 by_cases ae:l.length≤40
 ·have aa : ¬(40:Int)<(l.length:Int):=by omega
  refine cE ?_;simp +contextual -implicitDefEqProofs (maxSteps:=10^7) only[go_sem,seval,↓gZ,ZaO,aa];refine LO (α:=Nat×List Ev) (fun a=>[(4,.d (J (a.1:Int))),(3,.d (.str (QV a.2)))]) (fun _=>[]) (fun a=>a.1≤l.length∧JO (l.take a.1)=some a.2) (fun a=>l.length-a.1) (0,[]) ⟨by simp,rfl⟩ ?_;intro⟨k,vs⟩ ⟨hk,hv⟩ ih;simp only at hk hv ih ⊢;obtain⟨g1,g2⟩:=ZkD hv;have hb:=Ziq g2;have aj:vs.length≤40:=by rw[g1];simp;omega
  by_cases ad:k<l.length
  ·obtain⟨e,he⟩:=Zs ad;have ab : (k:Int)<(l.length:Int):=by omega
   have w:=Zj (k:=k) (by omega);have af:e∈l:=Kc he;have ag:l.take (k+1)=l.take k++[e]:=by rw[KL,he];rfl
   obtain⟨K,L,⟨X,Y,W,H⟩,⟨⟨pW,pH,pT,pK⟩,C⟩,⟨o,a,q,t,ks⟩⟩:=e;have e1:=Ziy K L X Y W H pW pH pT pK C o a q t ks;cases hx:Up ⟨K,L,⟨X,Y,W,H⟩,⟨⟨pW,pH,pT,pK⟩,C⟩,.mk o a q t ks⟩ with
   | none=>
    rw[hx,KD] at e1;rw[ZlM (Zjz hx af)];simp +contextual -implicitDefEqProofs (maxSteps:=10^7) only[go_sem,seval,↓gZ,ab,ad,he,w,e1]
   | some v=>
    rw[hx,Ly] at e1;have e2:=ZpP K L X Y W H pW pH pT pK C o a q t ks v hx;have ah:=(Zux hx).1;have ak:=ZpS ah;have ai:=ZpT v vs;have b1:(QV vs).length+v.text.length≤1152921504606846976:=by omega
    have b2:(QV vs).length+v.text.length+1≤1152921504606846976:=by omega
    generalize v.text=tx at *;simp +contextual -implicitDefEqProofs (maxSteps:=10^7) only[go_sem,seval,↓gZ,ab,ad,he,w,e1,e2,b1,b2];refine ih (k+1,vs++[v]) _ ⟨by simp only;omega,?_⟩ (by simp only;omega) ?_
    ·simp only;rw[ag,Zjy,hv,hx];rfl
    ·simp +contextual -implicitDefEqProofs (maxSteps:=10^7) only[go_sem,seval,↓gZ,ai,KE]
  ·have:k=l.length:=by omega
   subst this;rw[K1] at hv;rw[ZlN ae hv];simp +contextual -implicitDefEqProofs (maxSteps:=10^7) only[go_sem,seval,↓gZ]
 ·have aa : (40:Int)<(l.length:Int):=by omega
  rw[Zy5 ae];refine cE ?_;simp +contextual -implicitDefEqProofs (maxSteps:=10^7) only[go_sem,seval,↓gZ,ZaO,aa]
def ZpU:Nat→List (List UInt8)→List Ev
 | _,[]=>[]
 | _,[_]=>[]
 | k,x :: y :: r=>if 40≤k then [] else match Zrm x with
  | none=>[]
  | some v=>v :: ZpU (k+1) (y :: r)
def Zni (s:List UInt8):List Ev:=ZpU 0 (Z8 10 s)
theorem Ztn:∀ {n k:Nat} {s:List UInt8},s.length<n→Zix n k s=ZpU k (Z8 10 s)
 | 0,k,s,h=>by omega
 | n+1,k,s,h=>by
  rw[Zix,ZcV];cases hi:QS 10 s with
  | none=>simp only[ZpU,ite_self]
  | some i=>
   simp only;have aa:=ZcU 10 (s.drop (i+1));obtain⟨_,_,ab⟩:=Zaq hi;have ih:=Ztn (n:=n) (k:=k+1) (s:=s.drop (i+1)) (by simp;omega);cases hs:Z8 10 (s.drop (i+1)) with
   | nil=>exact absurd hs aa
   | cons y r=>
    rw[hs] at ih;rw[ZpU];split
    ·rfl
    ·cases Zrm (s.take i) with
     | none=>rfl
     | some v=>simp only;rw[ih]
theorem Zto (s:List UInt8):Zni s=Zix (s.length+1) 0 s:=(Ztn (by omega)).symm
theorem ZAm (s:List UInt8):∃ r,s=QV (Zni s)++r∧(Zni s).length≤40∧∀ v∈Zni s,v.ok:=by
 obtain⟨r,h1,h2,h3⟩:=Ztl (n:=s.length+1) (k:=0) (s:=s);rw[← Zto] at h1 h2 h3;exact⟨r,h1,by omega,h3⟩
theorem ZlO (s:List UInt8) (hs:s.length≤1000000):Ze Xs Ms Wh [.d (.str s)] []=some (.own 0,[.row 16 (((Zni s).map Ev.ev).map Zl.enc) true false]):=by
 refine cE ?_;simp +contextual -implicitDefEqProofs (maxSteps:=10^7) only[go_sem,seval,↓gZ,Zce];refine LO (α:=List UInt8×List Ev) (fun a=>[(0,.d (.str a.1))]) (fun a=>[(0,.row 16 ((a.2.map Ev.ev).map Zl.enc) true false)]) (fun a=>a.1.length≤s.length∧Zni s=a.2++ZpU a.2.length (Z8 10 a.1)) (fun a=>a.1.length) (s,[]) ⟨by simp,by simp[Zni]⟩ ?_;intro⟨t,vs⟩ ⟨hk,hp⟩ ih;simp only at hk hp ih ⊢;have e1:=Zdp t 10 (by omega);rw[ZcV] at hp;by_cases ae:vs.length<40
 ·have aa : (vs.length:Int)<40:=by omega
  have ad:(vs.length+1)*144≤140737488355328∧vs.length≤140737488355327:=by omega
  cases hi:QS 10 t with
  | none=>
   rw[hi] at e1 hp;simp only at e1 hp;simp only[ZpU,KY] at hp;rw[hp];simp +contextual -implicitDefEqProofs (maxSteps:=10^7) only[go_sem,seval,↓gZ,ae,aa,e1]
  | some i=>
   rw[hi] at e1 hp;simp only at e1 hp;obtain⟨_,_,ah⟩:=Zaq hi;have ag:=ZcU 10 (t.drop (i+1));obtain⟨K,L,X,Y,W,H,pW,pH,pT,pK,C,o,a,q,tt,ks,e2,h2⟩:=Znf (t.take i) (by simp;omega);have ab:Zni s=vs++match Zrm (t.take i) with
     | none=>[]
     | some v=>v :: ZpU (vs.length+1) (Z8 10 (t.drop (i+1))):=by
    cases hsp:Z8 10 (t.drop (i+1)) with
    | nil=>exact absurd hsp ag
    | cons y r=>rw[hsp,ZpU,Ke (by omega)] at hp;exact hp
   cases hv:Zrm (t.take i) with
   | none=>
    rw[hv] at e2 ab;simp only[KD] at e2;simp only[KY] at ab;rw[ab];simp +contextual -implicitDefEqProofs (maxSteps:=10^7) only[go_sem,seval,↓gZ,ae,aa,e1,e2]
   | some v=>
    rw[hv] at e2 ab h2;simp only[Ly] at e2;simp only[evM] at ab h2;simp +contextual -implicitDefEqProofs (maxSteps:=10^7) only[go_sem,seval,↓gZ,ae,aa,e1,e2,ad];refine ih (t.drop (i+1),vs++[v]) _ ⟨by simp;omega,?_⟩ (by simp;omega) ?_
    ·simp only[KE,List.singleton_append,Kr,Kp,KO,La];exact ab
    ·simp +contextual -implicitDefEqProofs (maxSteps:=10^7) only[go_sem,seval,↓gZ,K9,Kj,Kx,← h2]
 ·have aa : ¬(vs.length:Int)<40:=by omega
  have af:∀ ls,ZpU vs.length ls=[]:=by
   intro ls
   match ls with
   | []=>rfl
   | [_]=>rfl
   | x :: y :: r=>rw[ZpU,Kh (by omega)]
  rw[af,KY] at hp;rw[hp];simp +contextual -implicitDefEqProofs (maxSteps:=10^7) only[go_sem,seval,↓gZ,ae,aa]
theorem evS_ev {s:Zq} {e:Zl} {v:Ev} (hv:Up e=some v):evS s e=evS s v.ev:=by
 have aa:∀ n∈UO e,six n:=Classical.byContradiction fun h=>by rw[Zhv h] at hv;cases hv
 obtain⟨b,hb,ad⟩:∃ b,QP e.plan=some b∧ZpN b:=Classical.byContradiction fun h=>by
  rw[Zdr (e:=e) fun b hb hp=>h ⟨b,hb,hp⟩] at hv;cases hv
 have ab:=Uj hb;rw[Zfo aa hb ad] at hv;simp only[UO,Kd,Ku,or_false,forall_eq_or_imp,forall_eq] at aa;obtain⟨n1,n2,n3,n4,n5,n6,n7,n8,n9,af⟩:=aa;obtain⟨K,L,⟨X,Y,W,H⟩,n,p⟩:=e;simp only at n1 n2 n3 n4 n5 n6 ab;have tL:=K7 n2.1;have tX:=K7 n3.1;have tY:=K7 n4.1;have tW:=K7 n5.1;have tH:=K7 n6.1;unfold Zcc at hv;simp only at hv;by_cases k0:K=0
 ·rw[Kh k0] at hv;split at hv
  ·rename_i ae;obtain⟨rfl,rfl⟩:=ae;cases hv;subst k0;simp only[Ev.ev,tL,tW,tH];simp[evS]
  ·cases hv
 rw[Ke k0] at hv;by_cases k1:K=1
 ·rw[Kh k1] at hv;cases hv;subst k1;simp only[Ev.ev,tL,tX,tY,tW,tH];simp[evS]
 rw[Ke k1] at hv;by_cases k2:K=2
 ·rw[Kh k2] at hv;cases hv;subst k2;rfl
 rw[Ke k2] at hv;by_cases k3:K=3
 ·rw[Kh k3] at hv;cases hv;subst k3;simp only[Ev.ev,tL,← ab];simp[evS,Zfq]
 rw[Ke k3] at hv;by_cases k4:K=4
 ·rw[Kh k4] at hv;cases hv;subst k4;rfl
 rw[Ke k4] at hv;by_cases k5:K=5
 ·rw[Kh k5] at hv;cases hv;subst k5;simp only[Ev.ev,tL];simp[evS]
 ·rw[Ke k5] at hv;cases hv
theorem ZCR {s:Zq} {e:Zl} {v:Ev} (hv:Up e=some v):QW s e=QW s v.ev:=by unfold QW;rw[evS_ev hv]
theorem Zwi:∀ {l:List Zl} {vs:List Ev} {s:Zq},JO l=some vs→runL s l=runL s (vs.map Ev.ev)
 | [],vs,s,h=>by cases h;rfl
 | e :: l,vs,s,h=>by
  simp only[JO,KV] at h;obtain⟨v,h1,aa,h2,h3⟩:=h;cases h3;simp only[Kj,runL,ZCR h1];cases QW s v.ev with
  | none=>rfl
  | some t=>exact Zwi h2
theorem ZAn {l:List Ev} (ab:l.length≤40) (ho:∀ v∈l,v.ok):Zni (QV l)=l:=by
 have aa:∀ m:List Ev,m.length≤(QV m).length:=by
  intro m
  induction m with
  | nil=>simp
  | cons v m ih=>rw[ZjA];simp only[Kr,Kp];omega
 have:=Ztm (n:=(QV l).length+1) (k:=0) (l:=l) (s:=[]) (by have:=aa l;omega) (by omega) ho;rw[KY] at this;rw[Zto,this];have:Zix ((QV l).length+1-l.length) (0+l.length) []=[]:=by
  cases (QV l).length+1-l.length with
  | zero=>rfl
  | succ n=>rw[Zix];split<;>rfl
 rw[this,KY]
def PDrF (r:AV×List Zm):Prop:=∃ (l:List Zl),(∀ e∈l,EvI e)∧l.length≤16 ∧
 ((∃ b,r=(.own 0,[.row 16 (l.map Zl.enc) b false]))∨∃ e0,r=(.ownv 0 1 l.length,[.row 16 ((e0 :: l).map Zl.enc) true false]))
theorem Ziz (aa:List UInt8):∃ r,Ze Xs Ms Yr [.d (.sl (aa.map JX))] []=some r∧PDrF r:=by
 have hb:(aa.take 2000).length≤2000:=by simp;omega
 have en:=ZpH aa;obtain⟨r,e1,l,p',h1,h2,h3,h4,hr⟩:=ZuI (aa.take 2000) hb 0 (by omega);simp only[cast0] at e1;generalize aa.take 2000=bs at *;rcases hr with ⟨b,rfl⟩ | ⟨e0,rfl⟩
 ·cases b
  ·refine cW ?_;simp +contextual -implicitDefEqProofs (maxSteps:=10^7) only[go_sem,seval,↓gZ,Yz,en,e1];exact⟨l,h1,h2,.inl ⟨_,rfl⟩⟩
  ·refine cW ?_;simp +contextual -implicitDefEqProofs (maxSteps:=10^7) only[go_sem,seval,↓gZ,Yz,en,e1];exact⟨l,h1,h2,.inl ⟨_,rfl⟩⟩
 ·refine cW ?_;simp +contextual -implicitDefEqProofs (maxSteps:=10^7) only[go_sem,seval,↓gZ,Yz,en,e1];exact⟨l,h1,h2,.inr ⟨e0,rfl⟩⟩
theorem ZBE {l:List Ev} (h:l≠[]):(QV l==[])=false:=by
 cases l with
 | nil=>exact absurd rfl h
 | cons v l=>rw[ZjA];cases v.text<;>rfl
def Yc:List Zc→List Pane
 | []=>[]
 | x :: l=>List.replicate x.Count.toNat x.Pane++Yc l
theorem ZmW (x:Zc):∀ l:List Zc,Yc (l++[x])=Yc l++List.replicate x.Count.toNat x.Pane
 | []=>by simp[Yc]
 | y :: l=>by simp only[Kv,Yc,ZmW x l,KE]
theorem Zbl:∀ {l:List Zc},(∀ x∈l,1≤x.Count∧x.Count≤24)→(Yc l).length≤24*l.length
 | [],_=>by simp[Yc]
 | x :: l,h=>by
  have ih:=Zbl (l:=l) fun y hy=>h y (by simp[hy]);have:=h x (by simp);simp only[Yc,Kr,L0,Kp];omega
theorem ZcF (l:List Zc) (hv:ZaY l):Ze Xs Ms VN [(.d (.sl (l.map Zc.enc)))] []=some (.own 0,[.row 4 ((Yc l).map Pane.enc) true false]):=by
 have e0:=Jr l;rw[Ki hv] at e0;have am:=hv.1;have aa:=QO hv;refine cE ?_;simp +contextual -implicitDefEqProofs (maxSteps:=10^7) only[go_sem,seval,↓gZ,ZhM,e0];refine LO (α:=Nat) (fun k=>[(11,.d (J (k:Int)))]) (fun k=>[(0,.row 4 ((Yc (l.take k)).map Pane.enc) true false)]) (fun k=>k≤l.length) (fun k=>l.length-k) 0 (by omega) ?_;intro k hk ih;by_cases af:k<l.length
 ·obtain⟨x,hx⟩:=Zs af;have ad : (k:Int)<(l.length:Int):=by omega
  have w:=Zj (k:=k) (by omega);have ah:l.take (k+1)=l.take k++[x]:=by rw[KL,hx];rfl
  have ag:=aa x (Kc hx);have an:=Zbl (l:=l.take k) fun y hy=>(aa y (K0 hy)).2;have ao:(l.take k).length≤8:=by simp;omega
  obtain⟨⟨W,H,T,K⟩,C⟩:=x;obtain⟨n,hn⟩:∃ n:Nat,C=n:=⟨C.toNat,by simp only at ag;omega⟩
  subst hn;simp only at ag;have ai:Yc (l.take (k+1))=Yc (l.take k)++List.replicate n ⟨W,H,T,K⟩:=by rw[ah,ZmW];rfl
  simp +contextual -implicitDefEqProofs (maxSteps:=10^7) only[go_sem,seval,↓gZ,ad,af,hx,w];refine Zh5 Xs Ms (st0:=?st1) (α:=Nat) (fun j=>[(17,.d (J (j:Int)))]) (fun j=>[(1,.row 4 ((Yc (l.take k)++List.replicate j (Pane.mk W H T K)).map Pane.enc) true false)]) (fun j=>j≤n) (fun j=>n-j) 0 ?hc2 (by omega) ?h02 ?step2
  case hc2=>simp +contextual -implicitDefEqProofs (maxSteps:=10^7) only[go_sem,seval,↓gZ]<;>exact rfl
  case h02=>simp only[List.replicate_zero,KY];rfl
  case step2=>
   intro j hj aj;by_cases ak:j<n
   ·have ae : (j:Int)<(n:Int):=by omega
    have w2:=Zj (k:=j) (by omega);have ab:((Yc (l.take k)++List.replicate j (Pane.mk W H T K)).length+1)*32≤140737488355328∧(Yc (l.take k)++List.replicate j (Pane.mk W H T K)).length+1≤140737488355328:=by simp only[Kr,L0];omega
    have al:Yc (l.take k)++List.replicate (j+1) (Pane.mk W H T K)=(Yc (l.take k)++List.replicate j (Pane.mk W H T K))++[Pane.mk W H T K]:=by rw[List.replicate_succ',KE]
    generalize Yc (l.take k)++List.replicate j (Pane.mk W H T K)=qs at *;simp +contextual -implicitDefEqProofs (maxSteps:=10^7) only[go_sem,seval,↓gZ,ae,ak,w2,ab];refine aj (j+1) _ (by omega) (by omega) ?_;simp +contextual -implicitDefEqProofs (maxSteps:=10^7) only[go_sem,seval,↓gZ,al,K9,Kj,Kx]
   ·have:j=n:=by omega
    subst this;simp +contextual -implicitDefEqProofs (maxSteps:=10^7) only[go_sem,seval,↓gZ,w];refine ih (k+1) _ (by omega) (by omega) ?_;simp +contextual -implicitDefEqProofs (maxSteps:=10^7) only[go_sem,seval,↓gZ,ai]
 ·have:k=l.length:=by omega
  subst this;simp +contextual -implicitDefEqProofs (maxSteps:=10^7) only[go_sem,seval,↓gZ,K1]
def Zwj:List (List UInt8):=[[115,116,111,99,107],[111,112,101,110],[100,111,110,101],[108,111,115,116],[99,97,109,101]]
theorem ZlP:Zwj.length=5:=rfl
def ZiU (s:Zq):List Nat:=[s.Stock.length,(Yc s.Opn).length,(Yc s.Done).length,s.Lost.toNat,s.Came.toNat]
theorem Zwk (sS:List Zb) (sO sD:List Zc) (sL sC:Int) (hv:ZS (Zq.mk sS sO sD sL sC)) (k:Nat) (w:List UInt8) (n:Nat) (hw:Zwj[k]?=some w) (hn:(ZiU (Zq.mk sS sO sD sL sC))[k]?=some n) :
  Ze Xs Ms ZdC [(.d (.agg [.sl (sS.map Zb.enc),.sl (sO.map Zc.enc),.sl (sD.map Zc.enc),J sL,J sC])),.d (.str w)] []=some (.d (.str (num n)),[]):=by
 obtain⟨v1,v2,v3,h1,h2,h3,h4,h5⟩:=hv;simp only at v1 v2 v3 h1 h2 h3 h4 h5;have p2:=ZcF sO v2;have p3:=ZcF sD v3;have l2:=Zbl fun x hx=>(QO v2 x hx).2;have l3:=Zbl fun x hx=>(QO v3 x hx).2;have b2:=v2.1;have b3:=v3.1;have b1:=v1.1;have hk:k<5:=(Kb.1 hw).1;have aa:(([111,112,101,110]:List UInt8)==[115,116,111,99,107])=false:=rfl;have ab:(([100,111,110,101]:List UInt8)==[115,116,111,99,107])=false:=rfl;have ad:(([100,111,110,101]:List UInt8)==[111,112,101,110])=false:=rfl;have ae:(([108,111,115,116]:List UInt8)==[115,116,111,99,107])=false:=rfl;have af:(([108,111,115,116]:List UInt8)==[111,112,101,110])=false:=rfl
 have ag:(([108,111,115,116]:List UInt8)==[100,111,110,101])=false:=rfl;have ah:(([99,97,109,101]:List UInt8)==[115,116,111,99,107])=false:=rfl;have ai:(([99,97,109,101]:List UInt8)==[111,112,101,110])=false:=rfl;have aj:(([99,97,109,101]:List UInt8)==[100,111,110,101])=false:=rfl;have ak:(([99,97,109,101]:List UInt8)==[108,111,115,116])=false:=rfl;have hc:k=0∨k=1∨k=2∨k=3∨k=4:=by omega
 rcases hc with rfl | rfl | rfl | rfl | rfl
 ·cases hw;cases hn;have e:=Qg (sS.length:Int) (by omega) (by omega);rw[KB] at e;refine cE ?_;simp +contextual -implicitDefEqProofs (maxSteps:=10^7) only[go_sem,seval,↓gZ,JH,e]
 ·cases hw;cases hn;have e:=Qg ((Yc sO).length:Int) (by omega) (by omega);rw[KB] at e;refine cE ?_;simp +contextual -implicitDefEqProofs (maxSteps:=10^7) only[go_sem,seval,↓gZ,JH,p2,e,aa]
 ·cases hw;cases hn;have e:=Qg ((Yc sD).length:Int) (by omega) (by omega);rw[KB] at e;refine cE ?_;simp +contextual -implicitDefEqProofs (maxSteps:=10^7) only[go_sem,seval,↓gZ,JH,p3,e,ab,ad]
 ·cases hw;cases hn;have e:=Qg sL h1 (by omega);refine cE ?_;simp +contextual -implicitDefEqProofs (maxSteps:=10^7) only[go_sem,seval,↓gZ,JH,e,ae,af,ag]
 ·cases hw;cases hn;have e:=Qg sC h3 (by omega);refine cE ?_;simp +contextual -implicitDefEqProofs (maxSteps:=10^7) only[go_sem,seval,↓gZ,JH,e,ah,ai,aj,ak]
def We (ns:List Nat):List UInt8:=UN num ns
theorem ZmX {s:Zq} (hv:ZS s):∀ n∈ZiU s,n≤900000:=by
 obtain⟨v1,v2,v3,h1,h2,h3,h4,h5⟩:=hv;have l2:=Zbl fun x hx=>(QO v2 x hx).2;have l3:=Zbl fun x hx=>(QO v3 x hx).2;have b2:=v2.1;have b3:=v3.1;have b1:=v1.1;intro n hn;simp only[ZiU,Kd,Ku,or_false] at hn;rcases hn with rfl | rfl | rfl | rfl | rfl<;>omega
theorem ZlQ:∀ {ns:List Nat},(∀ n∈ns,n≤900000)→(We ns).length≤7*ns.length
 | [],_=>by simp[We,UN]
 | n :: r,h=>by
  have ih:=ZlQ (ns:=r) fun x hx=>h x (by simp[hx]);have:=X6 5 n (by have:=h n (by simp);omega);rw[We,JN,← We];simp only[Kr,Kp];omega
theorem ZpV {ns:List Nat} {k n:Nat} (h:ns[k]?=some n):We (ns.take (k+1))=We (ns.take k)++(num n++[10]):=by
 rw[KL,h];exact ZmT ..
theorem Zuz (aa:List UInt8) (hb:aa.length≤1000000) (sS:List Zb) (sO sD:List Zc) (sL sC:Int) (hr:ZrD ((Zni aa).map Ev.ev)=some (Zq.mk sS sO sD sL sC)) (hv:ZS (Zq.mk sS sO sD sL sC)) :
  Ze Xs Ms ZbQ [.d (.str aa),.d (.sl (Zwj.map .str))] []=some (.d (.str (We (ZiU (Zq.mk sS sO sD sL sC)))),[]):=by
 have e1:=ZlO aa hb;obtain⟨_,_,ag,_⟩:=ZAm aa;have e2:=ZkS ((Zni aa).map Ev.ev) (by simp;omega);rw[hr] at e2;unfold shV at e2;simp only at e2;have ad:=ZmX hv;have ah:(ZiU (Zq.mk sS sO sD sL sC)).length=5:=rfl;have ha:=Zwk sS sO sD sL sC hv;generalize ZiU (Zq.mk sS sO sD sL sC)=ns at *;refine cE ?_;simp +contextual -implicitDefEqProofs (maxSteps:=10^7) only[go_sem,seval,↓gZ,ZhN,e1,e2,ZlP];refine LO (α:=Nat) (fun k=>[(21,.d (J (k:Int)))]) (fun k=>[(0,.box [.bnil 0 TB,.bbuf 5 (We (ns.take k))])]) (fun k=>k≤5) (fun k=>5-k) 0 (by omega) ?_;intro k hk ih;by_cases ae:k<5
 ·have ab : (k:Int)<5:=by omega
  have w:=Zj (k:=k) (by omega);obtain⟨x,hx⟩:∃ x,Zwj[k]?=some x:=⟨_,Kn (by rw[ZlP];exact ae)⟩
  obtain⟨n,hn⟩:∃ n,ns[k]?=some n:=⟨_,Kn (by omega)⟩
  have e3:=ha k x n hx hn;have ai:=X6 5 n (by have:=ad n (Kc hn);omega);have af:=Zom n;have ht:=ZpV hn;have aj:=ZlQ (ns:=ns.take k) fun y hy=>ad y (K0 hy);have ak:(ns.take k).length≤5:=by simp;omega
  have e4:=Xh (We (ns.take k)) (num n) af (by omega);have e5:=Z9 (We (ns.take k)++num n) 10 10 rfl (by simp;omega);generalize num n=t at *;simp +contextual -implicitDefEqProofs (maxSteps:=10^7) only[go_sem,seval,↓gZ,ab,ae,ZlP,hx,w,e3,e4,e5];refine ih (k+1) _ (by omega) (by omega) ?_;simp +contextual -implicitDefEqProofs (maxSteps:=10^7) only[go_sem,seval,↓gZ,ht,KE]
 ·have:k=5:=by omega
  subst this;have e6:=Zas (We (ns.take 5));rw[KN (by omega)] at e6 ⊢;simp +contextual -implicitDefEqProofs (maxSteps:=10^7) only[go_sem,seval,↓gZ,e6]
theorem ZjB (ab:List UInt8):Ze Xs Ms WQ [.d (.sl (ab.map JX))] []=some ((.d (.bool true)),[]):=by
 by_cases hc:ab.length≤1048576
 ·have ad : ¬(1048576:Int)<(ab.length:Int):=by omega
  obtain⟨r,ed,l,hE,a5,hr⟩:=Ziz ab;have e1:=Zng l;have e2:=Znh l;have e4:=ZkS l (by omega);have aw:ZrD l=runL ⟨[],[],[],0,0⟩ l:=by unfold ZrD;rw[Kh (by omega)]
  rw[aw] at e4;have al:∀ e0,List.take l.length (List.drop 1 (e0 :: l))=l:=fun _=>by simp
  have am:List.take l.length l=l:=K1;have ak:∀ t:List UInt8,(t != t)=false:=fun t=>by simp
  have aa:∀ t:List UInt8,(t==t)=true:=fun t=>by simp
  cases ha:runL ⟨[],[],[],0,0⟩ l with
  | none=>
   rw[ha] at e4;unfold shV at e4;simp only[Kx] at e4;generalize Zuy l=tx at *;rcases hr with ⟨b,rfl⟩ | ⟨e0,rfl⟩
   ·refine cE ?_;cases b with
    | false=>simp +contextual -implicitDefEqProofs (maxSteps:=10^7) only[go_sem,seval,↓gZ,Qn,ad,ed,e1,e2,e4,ak,aa,beq_self_eq_true]
    | true=>simp +contextual -implicitDefEqProofs (maxSteps:=10^7) only[go_sem,seval,↓gZ,Qn,ad,ed,e1,e2,e4,ak,aa,beq_self_eq_true]
   ·refine cE ?_;simp +contextual -implicitDefEqProofs (maxSteps:=10^7) only[go_sem,seval,↓gZ,Qn,ad,ed,e1,e2,e4,al,am,ak,aa,beq_self_eq_true]
  | some z=>
   rw[ha] at e4;have hz:=Zqo ZjI ha;obtain⟨zS,zO,zD,zL,zC⟩:=z;unfold shV at e4;simp only at e4;by_cases ae:Zuy l=[]
   ·rw[ae] at e1 e2;rcases hr with ⟨b,rfl⟩ | ⟨e0,rfl⟩
    ·refine cE ?_;cases b with
     | false=>simp +contextual -implicitDefEqProofs (maxSteps:=10^7) only[go_sem,seval,↓gZ,Qn,ad,ed,e1,e2,e4]
     | true=>simp +contextual -implicitDefEqProofs (maxSteps:=10^7) only[go_sem,seval,↓gZ,Qn,ad,ed,e1,e2,e4]
    ·refine cE ?_;simp +contextual -implicitDefEqProofs (maxSteps:=10^7) only[go_sem,seval,↓gZ,Qn,ad,ed,e1,e2,e4,al,am]
   ·obtain⟨vs,an⟩:∃ vs,JO l=some vs:=by
     cases h:JO l with
     | none=>exact absurd (ZlM h) ae
     | some vs=>exact⟨vs,rfl⟩
    obtain⟨g1,g2⟩:=ZkD an;rw[ZlN (by omega) an] at e1 e2 ae;have a6:(QV vs==[])=false:=ZBE fun h=>ae (by rw[h];rfl);have be:=Ziq g2;have ax:ZrD ((Zni (QV vs)).map Ev.ev)=some ⟨zS,zO,zD,zL,zC⟩:=by
     rw[ZAn (by omega) g2];unfold ZrD;rw[Kh (by simp;omega),← Zwi an,ha]
    have e5:=Zuz (QV vs) (by omega) zS zO zD zL zC ax hz;have p2:=ZcF zO hz.2.1;have p3:=ZcF zD hz.2.2.1;have ag:=ak (QV vs);generalize QV vs=tx at *;have ay:([.str [115,116,111,99,107],.str [111,112,101,110],.str [100,111,110,101],.str [108,111,115,116],.str [99,97,109,101]]:List D)=Zwj.map .str:=rfl;have az:(zL.toNat:Int)=zL:=K7 hz.2.2.2.1;have a0:(zC.toNat:Int)=zC:=K7 hz.2.2.2.2.2.1;have a7:([J (zS.length:Int),J ((Yc zO).length:Int),J ((Yc zD).length:Int),J zL,J zC]:List D)=((ZiU ⟨zS,zO,zD,zL,zC⟩).map fun n:Nat=>(n:Int)).map YA:=by
     simp only[ZiU,Kj,Kx,az,a0];rfl
    have a1:=ZmX hz;have ao:(ZiU ⟨zS,zO,zD,zL,zC⟩).length=5:=rfl;rw[← ay] at e5;generalize ZiU ⟨zS,zO,zD,zL,zC⟩=ns at *;clear az a0 ha ax aw ay;have bf:=ZlQ a1;have aa:=aa (We ns);rcases hr with ⟨_ | _,rfl⟩ | ⟨e0,rfl⟩
    all_goals
     refine cE ?_;simp +contextual -implicitDefEqProofs (maxSteps:=10^7) only[go_sem,seval,↓gZ,Qn,ad,ed,e1,e2,e4,al,am,a6,ag,p2,p3,e5];rw[a7];refine LO (α:=Nat) (fun k=>[(11,.d (J (k:Int))),(10,.d (J ((We (ns.take k)).length:Nat)))]) (fun _=>[]) (fun k=>k≤5) (fun k=>5-k) 0 (by omega) ?_
     ·skip
      intro k hk ih;by_cases a2:k<5
      ·have ah : (k:Int)<5:=by omega
       have w:=Zj (k:=k) (by omega);obtain⟨n,hn⟩:∃ n,ns[k]?=some n:=⟨_,Kn (by omega)⟩
       have ht:=ZpV hn;have a8:=Zza n;have a9:=Zol n;have bg:=Zom n;have bh:=a1 n (Kc hn);have af:We ns=We (ns.take k)++(num n++10 :: We (ns.drop (k+1))):=by
        have h1:ns=ns.take k++n :: ns.drop (k+1):=by
         obtain⟨h1,h2⟩:=Kb.1 hn;rw[← h2,← Kw h1,Lx]
        conv=>lhs;rw[h1]
        simp only[We,UN,K9,Kj,LM,KK,KE,Kv,Le]
       have a':=congrArg List.length af;simp only[Kr,Kp] at a';have ba:∀ j c,(num n)[j]?=some c→(We ns)[(We (ns.take k)).length+j]?=some c:=fun j c hj=>by
        rw[af,KQ (by omega),Lz,K8 (Kb.1 hj).1];exact hj
       have ai:(We ns)[(We (ns.take k)).length+(num n).length]?=some 10:=by
        rw[af,KQ (by omega),Lz,KQ (by omega),Nat.sub_self];rfl
       have bb:(We (ns.take (k+1))).length=(We (ns.take k)).length+(num n).length+1:=by rw[ht];simp;omega
       generalize We (ns.take k)=t0 at *;generalize We ns=tz at *;generalize bi:num n=ds at *;simp +contextual -implicitDefEqProofs (maxSteps:=10^7) only[go_sem,seval,↓gZ,ah,a2,ao,w];refine LO (α:=Nat) (fun j=>[(12,.d (J (val (ds.take j):Nat))),(10,.d (J ((t0.length+j:Nat):Int)))]) (fun _=>[]) (fun j=>j≤ds.length) (fun j=>ds.length-j) 0 (by omega) ?_
       ·skip
        intro j hj bc;have a3:((t0.length+j:Nat):Int)<(tz.length:Int):=by omega
        have a4:t0.length+j<tz.length:=by omega
        have wa:=Zj (k:=t0.length+j) (by omega);by_cases bd:j<ds.length
        ·obtain⟨c,aj⟩:∃ c,ds[j]?=some c:=⟨_,Kn bd⟩
         have hg:=ba j c aj;have bj:=(ZkW c).1 (a9 c (Kc aj));have ap:¬(c.toNat:Int)=10:=by omega
         have hm:=ZBw ds (j+1);rw[ZkX aj] at hm;have bk:=ZkX aj;have w1:=wi (10*(val (ds.take j):Nat)) (by omega) (by omega);have w2:=wu8 ((c.toNat:Int)-48) (by omega) (by omega);have w3:=wi ((c.toNat:Int)-48) (by omega) (by omega);have w4:IntKind.i64.wrap (10*(val (ds.take j):Nat)+((c.toNat:Int)-48))=((val (ds.take (j+1)):Nat):Int):=by
          rw[wi _ (by omega) (by omega),ZkX aj];omega
         simp +contextual -implicitDefEqProofs (maxSteps:=10^7) only[go_sem,seval,↓gZ,a3,a4,hg,ap,w1,w2,w3,w4,wa];refine bc (j+1) _ (by omega) (by omega) ?_;simp +contextual -implicitDefEqProofs (maxSteps:=10^7) only[go_sem,seval,↓gZ,Li]
        ·have:j=ds.length:=by omega
         subst this;rw[K1];have aq:¬((t0.length+ds.length:Nat):Int)=(t0.length:Int):=by omega
         have ar:¬((t0.length+ds.length:Nat):Int)=(tz.length:Int):=by omega
         have au:¬t0.length+ds.length=t0.length:=by omega
         have av:¬t0.length+ds.length=tz.length:=by omega
         simp +contextual -implicitDefEqProofs (maxSteps:=10^7) only[go_sem,seval,↓gZ,a3,a4,ai,aq,ar,au,av,a8,hn,a2,ah,ao,wa,w];refine ih (k+1) _ (by omega) (by omega) ?_;simp +contextual -implicitDefEqProofs (maxSteps:=10^7) only[go_sem,seval,↓gZ,bb]
      ·have:k=5:=by omega
       subst this;rw[KN (by omega)];simp +contextual -implicitDefEqProofs (maxSteps:=10^7) only[go_sem,seval,↓gZ,ao,aa]
 ·have ad : (1048576:Int)<(ab.length:Int):=by omega
  refine cE ?_;simp +contextual -implicitDefEqProofs (maxSteps:=10^7) only[go_sem,seval,↓gZ,Qn,ad]
end Go.Proofs.YtcefneehgbiebaaGreatDoor
