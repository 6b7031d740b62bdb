/- Own text. -/
import Derived.Test.YtcefneehgbiebaaGreatDoorDCode
import Derived.Test.YtcefneehgbiebaaGreatDoorAbsParts
import Derived.Test.YtcefneehgbiebaaGreatDoorDC7
namespace Go.Proofs.YtcefneehgbiebaaGreatDoor
open Go Go.Abs Go.Abs.E Go.Abs.L
open Nat (reduceMul reduceSub reduceLeDiff reduceEqDiff)
open Int (reduceLE reduceEq reduceToNat reduceNeg)
set_option linter.unusedSimpArgs false
set_option linter.unusedVariables false
set_option maxRecDepth 20000
set_option maxHeartbeats 4000000
def EvI (e:Zl):Prop:=e.kind=0→I5 e.box.W∧I5 e.box.H
def runL:Zq→List Zl→Option Zq
 | s,[]=>some s
 | s,e :: l=>match QW s e with
  | some t=>runL t l
  | none=>none
def ZrD (l:List Zl):Option Zq:=if l.length≤40 then runL ⟨[],[],[],0,0⟩ l else none
theorem ZAt {s:Zq} {l:List Zl} {k:Nat} {e:Zl} (hx:l[k]?=some e):runL s (l.drop k)=match QW s e with
  | some t=>runL t (l.drop (k+1))
  | none=>none:=by
 obtain⟨h1,h2⟩:=Kb.1 hx;rw[Kw h1,h2,runL]
theorem ZBN {s:Zq} {l:List Zl}:runL s (l.drop l.length)=some s:=by simp[runL]
theorem Zqo:∀ {l:List Zl} {s t:Zq},ZS s→runL s l=some t→ZS t
 | [],s,t,hv,h=>by cases h;exact hv
 | e :: l,s,t,hv,h=>by
  unfold runL at h;cases ha:QW s e with
  | none=>rw[ha] at h;cases h
  | some u=>rw[ha] at h;exact Zqo (ZjH ha) h
theorem ZkS (l:List Zl) (hl:l.length≤1000000):Ze Xs Ms JQ [(.d (.sl (l.map Zl.enc)))] []=some (shV (ZrD l)):=by
 by_cases ab:(40:Int)<(l.length:Int)
 ·have hr:ZrD l=none:=by unfold ZrD;rw[Ke (by omega)]
  rw[hr];unfold shV;refine cE ?_;simp +contextual -implicitDefEqProofs (maxSteps:=10^7) only[go_sem,seval,↓gZ,Zea,ab]
 ·have hr:ZrD l=runL ⟨[],[],[],0,0⟩ l:=by unfold ZrD;rw[Kh (by omega)]
  rw[hr];refine cE ?_;simp +contextual -implicitDefEqProofs (maxSteps:=10^7) only[go_sem,seval,↓gZ,Zea,ab];refine LO (α:=Nat×Zq) (fun s=>[(15,.d (J (s.1:Int)))]) (fun s=>[(0,.box [.own 2,.own 3,.own 4,(.d (J (s.2.Lost))),(.d (J (s.2.Came)))]),(2,.row 4 (s.2.Stock.map Zb.enc) true false),(3,.row 5 (s.2.Opn.map Zc.enc) true false),(4,.row 5 (s.2.Done.map Zc.enc) true false)]) (fun s=>s.1≤l.length∧ZS s.2∧runL s.2 (l.drop s.1)=runL ⟨[],[],[],0,0⟩ l) (fun s=>l.length-s.1) (0,⟨[],[],[],0,0⟩) ⟨by simp,ZjI,by simp⟩ ?_;intro⟨i,⟨S,O,D,L,C⟩⟩ ⟨hi,hv,hp⟩ ih;simp only at hi hv hp;by_cases aa:i<l.length
  ·obtain⟨e,he⟩:=Zs aa;have hw:=Zj (k:=i) (by omega);rw[ZAt he] at hp;obtain⟨K,Lb,⟨X,Y,W,H⟩,⟨⟨pW,pH,pT,pK⟩,Ct⟩,⟨o,a,q,t,ks⟩⟩:=e;have ea:=ZnF S O D L C K Lb X Y W H pW pH pT pK Ct o a q t ks;rw[Kh hv] at ea;cases hap:QW ⟨S,O,D,L,C⟩ ⟨K,Lb,⟨X,Y,W,H⟩,⟨⟨pW,pH,pT,pK⟩,Ct⟩,.mk o a q t ks⟩ with
   | none=>
    rw[hap] at ea hp;simp only at hp;unfold shV at ea;rw[← hp];unfold shV;simp +contextual -implicitDefEqProofs (maxSteps:=10^7) only[go_sem,seval,↓gZ,aa,he,hw,ea]
   | some u=>
    have ad:=ZjH hap;rw[hap] at ea hp;simp only at hp;obtain⟨S',O',D',L',C'⟩:=u;unfold shV at ea;simp only at ea;simp +contextual -implicitDefEqProofs (maxSteps:=10^7) only[go_sem,seval,↓gZ,aa,he,hw,ea];refine ih (i+1,⟨S',O',D',L',C'⟩) _ ⟨by simp only;omega,ad,hp⟩ (by simp only;omega) ?_;simp +contextual -implicitDefEqProofs (maxSteps:=10^7) only[go_sem,seval,↓gZ]
  ·have:i=l.length:=by omega
   subst this;rw[ZBN] at hp;rw[← hp];unfold shV;simp +contextual -implicitDefEqProofs (maxSteps:=10^7) only[go_sem,seval,↓gZ]
def PBook2 (bs:List UInt8) (p:Nat) (r:AV×List Zm):Prop:=∃ (out:List Zl) (S:List Zb) (O D:List Zc) (L C:Int) (f:Bool) (p' : Nat),ZS ⟨S,O,D,L,C⟩∧(∀ e∈out,EvI e)∧out.length≤16∧p≤p'∧p'≤p+200 ∧
 r=(.tup [.own 1,.agg [.own 2,.own 3,.own 4,(.d (J L)),(.d (J C))]],[.box [.d (.sl (bs.map JX)),(.d (J (p')))],.row 16 (out.map Zl.enc) true false,.row 4 (S.map Zb.enc) true f,.row 5 (O.map Zc.enc) true f,.row 5 (D.map Zc.enc) true f])
theorem Zqp (bs:List UInt8) (hb:bs.length≤2000) (p:Nat) (hp:p<700000000) (aa:Int):∃ r,Ze Xs Ms Zaw [.ptr 0 0,(.d (J aa))] [.box [.d (.sl (bs.map JX)),(.d (J p))]]=some r∧PBook2 bs p r:=by
 obtain⟨n,hn,eN⟩:=Zfl bs p [8,12,5,16,0,2] hb (by omega) (by decide);have ab : 0≤n∧n≤16:=by simp only[Kd,Ku,or_false] at hn;omega
 simp only[Kj,Kx,YA] at eN;refine cW ?_;simp +contextual -implicitDefEqProofs (maxSteps:=10^7) only[go_sem,seval,↓gZ,Zgk,eN];refine LO (α:=Int×List Zl×Zq×Nat×Bool) (fun s=>[(8,.d (J s.1))]) (fun s=>[(0,.box [.d (.sl (bs.map JX)),(.d (J (s.2.2.2.1)))]),(1,.row 16 (s.2.1.map Zl.enc) true false),(2,.box [.own 4,.own 5,.own 6,(.d (J (s.2.2.1.Lost))),(.d (J (s.2.2.1.Came)))]),(4,.row 4 (s.2.2.1.Stock.map Zb.enc) true s.2.2.2.2),(5,.row 5 (s.2.2.1.Opn.map Zc.enc) true s.2.2.2.2),(6,.row 5 (s.2.2.1.Done.map Zc.enc) true s.2.2.2.2)]) (fun s=>0≤s.1∧s.1≤16∧(s.2.1.length:Int)≤16-s.1∧ZS s.2.2.1∧(∀ e∈s.2.1,EvI e)∧p+1≤s.2.2.2.1∧(s.2.2.2.1:Int)≤p+1+10*(16-s.1)) (fun s=>s.1.toNat) (n,[],⟨[],[],[],0,0⟩,p+1,false) ⟨ab.1,ab.2,by simp;omega,ZjI,by simp,by simp,by simp;omega⟩ ?_
 intro⟨m,out,⟨S,O,D,L,C⟩,pp,f⟩ ⟨i1,i2,i3,i4,iE,i5,i6⟩ ih;simp only at i1 i2 i3 i4 iE i5 i6;by_cases hm:0<m
 ·by_cases ho:(out.length:Int)<aa
  ·obtain⟨r,eE,K,Lb,X,Y,W,H,pW,pH,pT,pK,Ct,o,a,q,t,ks,p',g1,g2,g3,rfl⟩:=Zqf bs hb pp (by omega) S O D L C (Zy6 i4);have ea:=Znn S O D L C K Lb X Y W H pW pH pT pK Ct o a q t ks i4 (fun e=>(g1 e).1) (fun e=>(g1 e).2);have hw:=wi (m-1) (by omega) (by omega);have hr:(out.length+1)*144≤140737488355328∧out.length≤140737488355327:=by omega
   cases hap:QW ⟨S,O,D,L,C⟩ ⟨K,Lb,⟨X,Y,W,H⟩,⟨⟨pW,pH,pT,pK⟩,Ct⟩,.mk o a q t ks⟩ with
   | none=>
    rw[hap] at ea;unfold shV at ea;simp +contextual -implicitDefEqProofs (maxSteps:=10^7) only[go_sem,seval,↓gZ,hm,ho,eE,ea,hw,hr];refine ih (m-1,out,⟨S,O,D,L,C⟩,p',true) _ ⟨by simp only;omega,by simp only;omega,by simp only;omega,i4,iE,by simp only;omega,by simp only;omega⟩ (by simp only;omega) ?_;simp +contextual -implicitDefEqProofs (maxSteps:=10^7) only[go_sem,seval,↓gZ]
   | some u=>
    have ad:=ZjH hap;rw[hap] at ea;obtain⟨S',O',D',L',C'⟩:=u;unfold shV at ea;simp only at ea;simp +contextual -implicitDefEqProofs (maxSteps:=10^7) only[go_sem,seval,↓gZ,hm,ho,eE,ea,hw,hr];refine ih (m-1,out++[⟨K,Lb,⟨X,Y,W,H⟩,⟨⟨pW,pH,pT,pK⟩,Ct⟩,.mk o a q t ks⟩],⟨S',O',D',L',C'⟩,p',false) _ ⟨by simp only;omega,by simp only;omega,by simp only[Kr,Kp,KO];omega,ad,(fun e he=>by
     rcases Kg.1 he with he | he
     ·exact iE e he
     ·rw[KC.1 he];exact g1),by simp only;omega,by simp only;omega⟩ (by simp only;omega) ?_
    simp +contextual -implicitDefEqProofs (maxSteps:=10^7) only[go_sem,seval,↓gZ,K9]
  ·simp +contextual -implicitDefEqProofs (maxSteps:=10^7) only[go_sem,seval,↓gZ,hm,ho];exact⟨out,S,O,D,L,C,f,pp,i4,iE,by omega,by omega,by omega,rfl⟩
 ·simp +contextual -implicitDefEqProofs (maxSteps:=10^7) only[go_sem,seval,↓gZ,hm];exact⟨out,S,O,D,L,C,f,pp,i4,iE,by omega,by omega,by omega,rfl⟩
def PAnyB (bs:List UInt8) (p:Nat) (r:AV×List Zm):Prop:=∃ (l:List Zl) (p' : Nat),(∀ e∈l,EvI e)∧l.length≤16∧p≤p'∧p'≤p+300 ∧
 ((∃ b,r=(.own 1,[.box [.d (.sl (bs.map JX)),(.d (J (p')))],.row 16 (l.map Zl.enc) b false]))∨∃ e0,r=(.ownv 1 1 l.length,[.box [.d (.sl (bs.map JX)),(.d (J (p')))],.row 16 ((e0 :: l).map Zl.enc) true false]))
theorem ZuI (bs:List UInt8) (hb:bs.length≤2000) (p:Nat) (hp:p<600000000):∃ r,Ze Xs Ms ZbS [.ptr 0 0] [.box [.d (.sl (bs.map JX)),(.d (J p))]]=some r∧PAnyB bs p r:=by
 obtain⟨r,eB,out,S,O,D,L,C,f,p',hv,hE,h1,h2,h3,rfl⟩:=Zqp bs hb p (by omega) 30;have c0:=Qq bs p' 10 hb (by omega);generalize QR bs p' 10=c at c0;refine cW ?_;by_cases hl:(1:Int)<(out.length:Int)
 ·by_cases k0:c=0
  ·subst k0;have af:(1:Int)≤(out.length:Int):=by omega
   simp +contextual -implicitDefEqProofs (maxSteps:=10^7) only[go_sem,seval,↓gZ,Ud,Zm8,eB,hl,c0,af];cases out with
   | nil=>simp at hl
   | cons e0 l=>exact⟨l,p'+1,fun e he=>hE e (by simp[he]),by simp only[Kp] at h1;omega,by omega,by omega,.inr ⟨e0,rfl⟩⟩
  ·by_cases k1:c=1
   ·subst k1;obtain⟨e0,ab⟩:∃ e,out[0]?=some e:=Zs (by omega);obtain⟨m,hm⟩:∃ m:Nat,out.length=m+1:=⟨out.length-1,by omega⟩
    obtain⟨e1,ad⟩:∃ e,out[m]?=some e:=Zs (by omega);have ag:=hE e0 (Kc ab);have ah:=hE e1 (Kc ad);have hw:=wi ((out.length:Int)-1) (by omega) (by omega);have aa:(out.length:Int)-1=(m:Int):=by omega
    have ai:¬0=m:=by omega
    have aj:m<out.length:=by omega
    have ak:0<out.length:=by omega
    rw[aa] at hw;have av:IntKind.i64.wrap (((m+1:Nat):Int)-1)=(m:Int):=by rw[← hm,aa];exact hw
    obtain⟨K,Lb,⟨X,Y,W,H⟩,⟨⟨pW,pH,pT,pK⟩,Ct⟩,⟨o,a,q,t,ks⟩⟩:=e0;obtain⟨K2,al,⟨X2,Y2,W2,H2⟩,⟨⟨am,an,ao,ap⟩,aq⟩,⟨o2,a2,q2,t2,ar⟩⟩:=e1;simp +contextual -implicitDefEqProofs (maxSteps:=10^7) only[go_sem,seval,↓gZ,Ud,eB,hl,c0,ab,ad,aa,hw,ai,aj,ak,LB,List.length_set];refine⟨(out.set 0 ⟨K2,al,⟨X2,Y2,W2,H2⟩,⟨⟨am,an,ao,ap⟩,aq⟩,.mk o2 a2 q2 t2 ar⟩).set m ⟨K,Lb,⟨X,Y,W,H⟩,⟨⟨pW,pH,pT,pK⟩,Ct⟩,.mk o a q t ks⟩,p'+1,fun e he=>?_,by simpa using h1,by omega,by omega,.inl ⟨false,?_⟩⟩
    ·rcases Lh he with he | rfl
     ·rcases Lh he with he | rfl
      ·exact hE e he
      ·exact ah
     ·exact ag
    ·simp only[LJ,Zl.enc_mk]
   ·by_cases k2:c=2
    ·subst k2;have u0:=Qq bs (p'+1) out.length hb (by omega);have u1:=U0 bs (p'+1) out.length;have u2:=Zfk bs (p'+1) out.length (by omega);obtain⟨i,hi⟩:∃ i:Nat,QR bs (p'+1) (out.length:Int)=(i:Int):=⟨(QR bs (p'+1) (out.length:Int)).toNat,by omega⟩
     rw[hi] at u0 u2;have ae:i<out.length:=by omega
     obtain⟨e,he⟩:=Zs ae;obtain⟨v,aw,eV⟩:=Zfl bs (p'+1+1) [1,0,1000000] hb (by omega) (by decide);simp only[Kj,Kx,YA] at eV;have au:=hE e (Kc he);obtain⟨K,Lb,⟨X,Y,W,H⟩,⟨⟨pW,pH,pT,pK⟩,Ct⟩,⟨o,a,q,t,ks⟩⟩:=e;simp +contextual -implicitDefEqProofs (maxSteps:=10^7) only[go_sem,seval,↓gZ,Ud,eB,hl,c0,u0,ae,he,eV];refine⟨out.set i ⟨K,v,⟨X,Y,W,H⟩,⟨⟨pW,pH,pT,pK⟩,Ct⟩,.mk o a q t ks⟩,p'+1+1+1,fun e he=>?_,by simpa using h1,by omega,by omega,.inl ⟨true,?_⟩⟩
     ·rcases Lh he with he | rfl
      ·exact hE e he
      ·exact au
     ·simp only[LJ,Zl.enc_mk];try rfl
    ·simp +contextual -implicitDefEqProofs (maxSteps:=10^7) only[go_sem,seval,↓gZ,Ud,eB,hl,c0,k0,k1,k2];exact⟨out,p'+1,hE,h1,by omega,by omega,.inl ⟨true,rfl⟩⟩
 ·simp +contextual -implicitDefEqProofs (maxSteps:=10^7) only[go_sem,seval,↓gZ,Ud,eB,hl];exact⟨out,p',hE,h1,by omega,by omega,.inl ⟨true,rfl⟩⟩
end Go.Proofs.YtcefneehgbiebaaGreatDoor
