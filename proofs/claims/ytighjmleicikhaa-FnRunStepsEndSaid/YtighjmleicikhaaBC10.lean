/- Own text. -/
import Derived.Test.YtighjmleicikhaaBCode
import Derived.Test.YtighjmleicikhaaAbsParts
import Derived.Test.YtighjmleicikhaaBC4
import Derived.Test.YtighjmleicikhaaBC8
import Derived.Test.YtighjmleicikhaaBC9
import Derived.Test.YtighjmleicikhaaAbsOkD
namespace Go.Proofs.Ytighjmleicikhaa
open Go Go.Abs Go.Abs.E Go.Abs.L
open Nat (reduceMul reduceSub reduceLeDiff reduceEqDiff)
open Int (reduceLE reduceEq reduceToNat reduceNeg)
set_option linter.unusedSimpArgs false
set_option linter.unusedVariables false
set_option maxRecDepth 20000
set_option maxHeartbeats 4000000
theorem Zj9 {dn:List Int}:∀ {b:BT} {n a:Int},(∃ q∈kn b n a,q.1∉dn)→(a<0∨a∈dn)→∃ q∈kn b n a,q.1∉dn∧(q.2<0∨q.2∈dn)
 | .waste,n,a,⟨q,hq,_⟩,_=>by simp[kn] at hq
 | .pane _ _,n,a,⟨q,hq,_⟩,_=>by simp[kn] at hq
 | .cut d c l r,n,a,⟨q,hq,hm⟩,ha=>by
  by_cases hn:n∈dn
  ·simp only[kn,Ke,Kd] at hq;rcases hq with rfl | hq | hq
   ·exact absurd hn hm
   ·obtain⟨x,h1,h2⟩:=Zj9 ⟨q,hq,hm⟩ (.inr hn);exact⟨x,by simp[kn,h1],h2⟩
   ·obtain⟨x,h1,h2⟩:=Zj9 ⟨q,hq,hm⟩ (.inr hn);exact⟨x,by simp[kn,h1],h2⟩
  ·exact⟨(n,a),by simp[kn],hn,ha⟩
theorem ZoC {b:BT} {s:List Int} (hl:s.length<(kn b 0 (-1)).length):∃ (j:Nat) (q:Int×Int),(kn b 0 (-1))[j]?=some q∧q.1∉s∧(q.2<0∨q.2∈s):=by
 have:∃ q∈kn b 0 (-1),q.1∉s:=by
  by_cases h:∀ q∈kn b 0 (-1),q.1∈s
  ·have h2:=ZfQ (ZbH b 0 (-1)) (m:=s) fun x hx=>by
    obtain⟨q,hq,rfl⟩:=KU.1 hx;exact h q hq
   simp only[KG] at h2;omega
  ·simp only[Classical.not_forall] at h;obtain⟨q,h1,h2⟩:=h;exact⟨q,h1,h2⟩
 obtain⟨q,h1,h2⟩:=Zj9 this (.inl (by decide));obtain⟨j,hj⟩:=Lq h1;exact⟨j,q,hj,h2⟩
theorem Zhq (bs:List UInt8) (hb:bs.length≤2000) (p:Nat) (hp:p<900000000) (b:BT) (hc:b.cnt≤255):∃ (out:List Int) (p' : Nat),p'≤p+255∧out.length≤255 ∧
  Zl Xs Ms Yk [.ptr 0 0,.d b.plan.enc] [.box [.d (.sl (bs.map Xc)),(.d (J p))]]=some (.own 1,[.box [.d (.sl (bs.map Xc)),(.d (J (p')))],.row 1 (out.map Xa) true false]):=by
 have e2:=VJ b 0 (-1) (by omega) (by omega);have e3:=JA b 0 (-1) (by omega) (by omega);have a1:=XV b 0 (-1);have ap:=Zd3 hc;have ae:=@ZoC b;have aq:=ZbH b 0 (-1);have hQ:∃ r,Zl Xs Ms Yk [.ptr 0 0,.d b.plan.enc] [.box [.d (.sl (bs.map Xc)),(.d (J p))]]=some r∧∃ (out:List Int) (p' : Nat),p'≤p+255∧out.length≤255∧r=(.own 1,[.box [.d (.sl (bs.map Xc)),(.d (J (p')))],.row 1 (out.map Xa) true false]):=by
  obtain⟨q1,q2,q3,q4,q5,ar⟩:∃ a b' c d e,b.plan=.mk a b' c d e:=by cases hq:b.plan;exact⟨_,_,_,_,_,rfl⟩
  rw[ar,Ze.enc_mk] at e2 e3 ⊢;generalize hK:kn b 0 (-1)=K at *;refine cW ?_;simp +contextual -implicitDefEqProofs (maxSteps:=10^7) only[go_sem,seval,↓gZ,JT,e2,e3];refine LO (α:=List Int×Nat) (fun _=>[]) (fun s=>[(1,.row 1 (s.1.map Xa) true false),(0,.box [.d (.sl (bs.map Xc)),(.d (J (s.2)))])]) (fun s=>s.1.length≤K.length∧okS K [] s.1=true∧s.2≤p+s.1.length) (fun s=>K.length-s.1.length) ([],p) ⟨by simp,rfl,by simp⟩ ?_;intro⟨out,pp⟩ ⟨hl,ho,hpp⟩ ih;simp only at hl ho hpp;by_cases ah:out.length<K.length
  ·have aa : (out.length:Int)<(K.length:Int):=by omega
   have ep:=Xl bs pp (K.length:Int) hb (by omega);have a2:=Vq bs pp (K.length:Int);have au:=Zaa bs pp (K.length:Int) (by omega);obtain⟨k0,av⟩:∃ k:Nat,Xw bs pp (K.length:Int)=(k:Int):=⟨(Xw bs pp (K.length:Int)).toNat,by omega⟩
   rw[av] at ep au;obtain⟨j,q,hj,aw,ax⟩:=ae ah;have a3:=(Kc.1 hj).1;simp +contextual -implicitDefEqProofs (maxSteps:=10^7) only[go_sem,seval,↓gZ,ah,aa,ep];refine Zdt Xs Ms (st0:=?st1) (α:=Nat) (fun k=>[(8,.d (J (k:Int)))]) (fun _=>[]) (fun k=>k<K.length) (fun k=>if k≤j then j-k else j+K.length-k) k0 ?hc2 (by omega) ?h02 ?step2
   case hc2=>simp +contextual -implicitDefEqProofs (maxSteps:=10^7) only[go_sem,seval,↓gZ]<;>exact rfl
   case h02=>rfl
   case step2=>
    intro k hk aj;obtain⟨⟨m,ab⟩,hx⟩:=Qx hk;have ay:=ap _ (Kr hx);simp only at ay;have em:=Wq out m (by omega);have ea:=Wq out ab (by omega);have pm:=Zae out 0 m;have pa:=Zae out 0 ab;have ak:=wi ((k:Int)+1) (by omega) (by omega);have af:¬(K.length:Int)=0:=by omega
    by_cases ad:m∉out∧(ab<0∨ab∈out)
    ·have k1:=pm.2 ad.1;rw[k1] at em;have az:okN K out m=true:=ZpP (Kr hx) aq ad.1 ad.2;have hr:(out.length+1)*8≤140737488355328∧out.length≤140737488355327:=by omega
     have al:okS K [] (out++[m])=true:=by rw[ZaQ,ho,KO];simp only[okS,Le,az,Bool.and_self]
     by_cases h0:ab<0
     ·have ai : ¬0≤ab:=by omega
      simp +contextual -implicitDefEqProofs (maxSteps:=10^7) only[go_sem,seval,↓gZ,hx,hk,em,ai,hr];refine ih (out++[m],pp+1) _ ⟨by simp;omega,al,by simp;omega⟩ (by simp;omega) ?_;simp +contextual -implicitDefEqProofs (maxSteps:=10^7) only[go_sem,seval,↓gZ,Lf]
     ·have ai : 0≤ab:=by omega
      have k2:=pa.1 (ad.2.resolve_left h0);have a0 : ¬QG 0 out ab<0:=by omega
      simp +contextual -implicitDefEqProofs (maxSteps:=10^7) only[go_sem,seval,↓gZ,hx,hk,em,ai,ea,a0,hr];refine ih (out++[m],pp+1) _ ⟨by simp;omega,al,by simp;omega⟩ (by simp;omega) ?_;simp +contextual -implicitDefEqProofs (maxSteps:=10^7) only[go_sem,seval,↓gZ,Lf]
    ·have a4:k≠j:=fun e=>by
      subst e;rw[hx] at hj;cases hj;exact ad ⟨aw,ax⟩
     have ag:((k:Int)+1).tmod (K.length:Int)=(((k+1) % K.length:Nat):Int):=by
      rw[Int.tmod_eq_emod_of_nonneg (by omega)];push_cast;rfl
     have am:(k+1) % K.length<K.length:=Nat.mod_lt _ (by omega);have an:(if (k+1) % K.length≤j then j-(k+1) % K.length else j+K.length-(k+1) % K.length)<(if k≤j then j-k else j+K.length-k):=by
      rcases KN (k+1) K.length with h | h
      ·rw[Nat.mod_eq_of_lt h];split<;>split<;>omega
      ·have:k+1=K.length:=by omega
       rw[this,Nat.mod_self];split<;>split<;>omega
     have ao:=wi (((k+1) % K.length:Nat):Int) (by omega) (by omega);by_cases hm:m∈out
     ·have k1:=pm.1 hm;simp +contextual -implicitDefEqProofs (maxSteps:=10^7) only[go_sem,seval,↓gZ,hx,hk,em,k1,ak,af,ag,ao];refine aj ((k+1) % K.length) _ am an ?_;simp +contextual -implicitDefEqProofs (maxSteps:=10^7) only[go_sem,seval,↓gZ]
     ·have k1:=pm.2 hm;rw[k1] at em;have h0:0≤ab:=by
       rcases Int.lt_or_le ab 0 with h | h
       ·exact absurd ⟨hm,.inl h⟩ ad
       ·exact h
      have k2:=pa.2 fun h=>ad ⟨hm,.inr h⟩;rw[k2] at ea;simp +contextual -implicitDefEqProofs (maxSteps:=10^7) only[go_sem,seval,↓gZ,hx,hk,em,h0,ea,ak,af,ag,ao];refine aj ((k+1) % K.length) _ am an ?_;simp +contextual -implicitDefEqProofs (maxSteps:=10^7) only[go_sem,seval,↓gZ]
  ·have aa : ¬(out.length:Int)<(K.length:Int):=by omega
   simp +contextual -implicitDefEqProofs (maxSteps:=10^7) only[go_sem,seval,↓gZ,ah,aa];exact⟨out,pp,by omega,by omega,rfl⟩
 obtain⟨r,h1,out,p',h2,h3,rfl⟩:=hQ;exact⟨out,p',h2,h3,h1⟩
theorem Zka (bs:List UInt8) (hb:bs.length≤2000) (p:Nat) (hp:p<900000000):∃ (K:AV) (p' : Nat) (W H:Int) (ps:List Pane) (o a q:Int) (t:Bool) (ks:List Ze),p'≤p+210∧ps.length≤24∧(K=.own 2∨K=.ownv 2 0 1∧ks.length=2) ∧
  Zl Xs Ms Ud [.ptr 0 0] [.box [.d (.sl (bs.map Xc)),(.d (J p))]]=some (.tup [.agg [(.d (J W)),(.d (J H)),.own 1],.agg [(.d (J o)),(.d (J a)),(.d (J q)),(.d (.bool t)),K]],[.box [.d (.sl (bs.map Xc)),(.d (J (p')))],.row 4 (ps.map Pane.enc) true false,.row 5 (ks.map Ze.enc) true false]):=by
 obtain⟨W,H,b,p',ps,o,a,q,t,ks,aa,h1,h2,h3,h4,h5,h6,h7,h8,h9,e1⟩:=ZcC bs hb p hp;have e2:=Xl bs p' 20 hb (by omega);obtain⟨c,hc⟩:∃ c,Xw bs p' 20=c:=⟨_,rfl⟩
 rw[hc] at e2;have ab:ks.length=0∨ks.length=2:=by
  cases b with
  | waste=>simp only[BT.plan,Ze.mk.injEq] at aa;left;rw[← aa.2.2.2.2];rfl
  | pane i t=>simp only[BT.plan,Ze.mk.injEq] at aa;left;rw[← aa.2.2.2.2];rfl
  | cut d a l r=>simp only[BT.plan,Ze.mk.injEq] at aa;right;rw[← aa.2.2.2.2];rfl
 by_cases c0:c=0
 ·obtain⟨v,_,e3⟩:=Ja bs (p'+1) [0,201,W+1] hb (by omega) (by simp);have w1:=wi (W+1) (by omega) (by omega);simp only[Km,Ku,Xa] at e3;refine⟨.own 2,p'+2,v,H,ps,o,a,q,t,ks,by omega,h7,.inl rfl,?_⟩;refine cE ?_;simp +contextual -implicitDefEqProofs (maxSteps:=10^7) only[go_sem,seval,↓gZ,Xk,e1,e2,c0,w1,e3]
 by_cases c1:c=1
 ·obtain⟨v,_,e3⟩:=Ja bs (p'+1) [0,200,-1] hb (by omega) (by simp);simp only[Km,Ku,Xa] at e3;refine⟨.own 2,p'+2,W,H,ps,o,v,q,t,ks,by omega,h7,.inl rfl,?_⟩;refine cE ?_;simp +contextual -implicitDefEqProofs (maxSteps:=10^7) only[go_sem,seval,↓gZ,Xk,e1,e2,c0,c1,e3]
 by_cases c2:c=2
 ·obtain⟨v,_,e3⟩:=Ja bs (p'+1) [4,-1,1,0] hb (by omega) (by simp);simp only[Km,Ku,Xa] at e3;refine⟨.own 2,p'+2,W,H,ps,v,a,q,t,ks,by omega,h7,.inl rfl,?_⟩;refine cE ?_;simp +contextual -implicitDefEqProofs (maxSteps:=10^7) only[go_sem,seval,↓gZ,Xk,e1,e2,c0,c1,c2,e3]
 by_cases c3:c=3
 ·rcases ab with ab | ab
  ·have hn:¬(0:Int)<(ks.length:Int):=by omega
   refine⟨.own 2,p'+1,W,H,ps,o,a,q,t,ks,by omega,h7,.inl rfl,?_⟩;refine cE ?_;simp +contextual -implicitDefEqProofs (maxSteps:=10^7) only[go_sem,seval,↓gZ,Xk,e1,e2,c0,c1,c2,c3,hn]
  ·have hn:(0:Int)<(ks.length:Int):=by omega
   have ad:(1:Int)≤(ks.length:Int):=by omega
   refine⟨.ownv 2 0 1,p'+1,W,H,ps,o,a,q,t,ks,by omega,h7,.inr ⟨rfl,ab⟩,?_⟩;refine cE ?_;simp +contextual -implicitDefEqProofs (maxSteps:=10^7) only[go_sem,seval,↓gZ,Xk,e1,e2,c0,c1,c2,c3,hn,ad]
 by_cases c4:c=4
 ·obtain⟨v,_,e3⟩:=Ja bs (p'+1) [1,30,-1] hb (by omega) (by simp);simp only[Km,Ku,Xa] at e3;refine⟨.own 2,p'+2,W,H,ps,o,a,v,t,ks,by omega,h7,.inl rfl,?_⟩;refine cE ?_;simp +contextual -implicitDefEqProofs (maxSteps:=10^7) only[go_sem,seval,↓gZ,Xk,e1,e2,c0,c1,c2,c3,c4,e3]
 by_cases c5:c=5
 ·refine⟨.own 2,p'+1,W,H,ps,o,a,q,!t,ks,by omega,h7,.inl rfl,?_⟩;refine cE ?_;simp +contextual -implicitDefEqProofs (maxSteps:=10^7) only[go_sem,seval,↓gZ,Xk,e1,e2,c0,c1,c2,c3,c4,c5]
 ·refine⟨.own 2,p'+1,W,H,ps,o,a,q,t,ks,by omega,h7,.inl rfl,?_⟩;refine cE ?_;simp +contextual -implicitDefEqProofs (maxSteps:=10^7) only[go_sem,seval,↓gZ,Xk,e1,e2,c0,c1,c2,c3,c4,c5]
end Go.Proofs.Ytighjmleicikhaa
