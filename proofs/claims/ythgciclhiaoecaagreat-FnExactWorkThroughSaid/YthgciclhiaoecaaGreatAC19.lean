/- Own text. -/
import Derived.Test.YthgciclhiaoecaaGreatACode
import Derived.Test.YthgciclhiaoecaaGreatAbsParts
import Derived.Test.YthgciclhiaoecaaGreatAC5
import Derived.Test.YthgciclhiaoecaaGreatAC16
import Derived.Test.YthgciclhiaoecaaGreatAbsOkD
import Derived.Test.YthgciclhiaoecaaGreatAC10
import Derived.Test.YthgciclhiaoecaaGreatAC13
import Derived.Test.YthgciclhiaoecaaGreatAC14
import Derived.Test.YthgciclhiaoecaaGreatAC17
namespace Go.Proofs.YthgciclhiaoecaaGreat
open Go Go.Abs Go.Abs.E Go.Abs.L
open Nat (reduceMul reduceSub reduceLeDiff reduceEqDiff)
open Int (reduceLE reduceEq reduceToNat reduceNeg)
set_option linter.unusedSimpArgs false
set_option linter.unusedVariables false
set_option maxRecDepth 20000
set_option maxHeartbeats 4000000
theorem ok_Sm {s:Zq} (h:s.ok) (hs:ZiX s.Stock s.Opn s.Done≤1048576):Zcc s:=by
 unfold ZiX at hs;refine⟨by omega,fun x hx=>?_,by omega,by omega⟩;have h1:=h.1.2 x hx;have h2:=Zis (f:=Zbj) hx;have h3:Zbj x=x.Flaws.length:=rfl;exact⟨by omega,h1.2.1,h1.2.2.1⟩
theorem VSt_sm {l:List Zb} (h:VSt l):l.length≤20∧∀ x∈l,Zbj x≤6:=
 ⟨h.1,fun x hx=>(Z0 h.2 x hx).1.2.2.2.2.2.2⟩
theorem Zvu {s:Zq} (h:ZF s):s.Stock.length≤20∧(∀ x∈s.Stock,Zbj x≤6)∧s.Opn.length≤1000∧s.Done.length≤1000:=by
 have h1:=VSt_sm h.1;have h2:=h.2.1.1;have h3:=h.2.2.1.1;exact⟨h1.1,h1.2,by omega,by omega⟩
theorem Zp2 (O D:List Zc) (L C k:Int) (h3:O.length≤1099511627776) (h4:D.length≤1099511627776) (h0:0≤k) (hk:k≤281474976710656):Zd Xs Ms Z8 [.agg [.own 0,.own 1,.own 2,(.d (J L)),(.d (J C))],(.d (J k))] [.row 4 [] true false,.row 5 (O.map Zc.enc) true false,.row 5 (D.map Zc.enc) true false] =
  some ((.d (J (k+((5*O.length:Nat):Int)+((5*D.length:Nat):Int)))),[.row 4 [] true false,.row 5 ((mks VU 5 O.length k).map Zc.enc) true false,.row 5 ((mks VU 5 D.length (k+((5*O.length:Nat):Int))).map Zc.enc) true false]):=by
 have e1:=ZmU k;have e2:=Jf O h3 k h0 (by omega);have e3:=Jf D h4 (k+((5*O.length:Nat):Int)) (by omega) (by omega);refine cE ?_;simp +contextual -implicitDefEqProofs (maxSteps:=10^7) only[go_sem,seval,↓gZ,ZbF,e1,e2,e3]
end Go.Proofs.YthgciclhiaoecaaGreat
namespace Go.Proofs.YthgciclhiaoecaaGreat
open Go Go.Abs Go.Abs.E Go.Abs.L
open Nat (reduceMul reduceSub reduceLeDiff reduceEqDiff)
open Int (reduceLE reduceEq reduceToNat reduceNeg)
set_option linter.unusedSimpArgs false
set_option linter.unusedVariables false
set_option maxRecDepth 20000
set_option maxHeartbeats 4000000
theorem Uz (qL qW qH:Int) (qF:List Box) (w h:Int) (hq:VPc (Zb.mk qL qW qH qF)) (hw:1≤w∧w≤200) (hh:1≤h∧h≤200):Zd Xs Ms XG [(.d (.agg [J qL,J qW,J qH,.sl (qF.map Box.enc)])),(.d (J w)),(.d (J h))] []=some (fcV (QY (Zb.mk qL qW qH qF) w h)):=by
 have e0:=QR qL qW qH qF;rw[Kh hq] at e0;have hF:∀ f∈qF,VB f:=fun f hf=>(hq.2 f hf).1;obtain⟨_,_,af,ag,ah,ai,aj⟩:=hq.1;simp only at af ag ah ai aj;clear hq;have n1:¬w<1:=by omega
 have n2:¬(200:Int)<w:=by omega
 have n3:¬h<1:=by omega
 have n4:¬(200:Int)<h:=by omega
 unfold QY;simp only;refine cE ?_;simp +contextual -implicitDefEqProofs (maxSteps:=10^7) only[go_sem,seval,↓gZ,Zcy,e0,n1,n2,n3,n4];refine LO (α:=Nat) (fun y=>[(8,.d (J (y:Int)))]) (fun _=>[]) (fun y=>(y:Int)≤qH∧Zqm qF qW qH w h (qH.toNat+1-y) y=Zqm qF qW qH w h (qH.toNat+1) 0) (fun y=>qH.toNat+1-y) 0 ⟨by omega,by simp⟩ ?_;intro y ⟨hy,hp⟩ ih;obtain⟨n,hn⟩:∃ n,qH.toNat+1-y=n+1:=⟨qH.toNat-y,by omega⟩
 rw[hn,Zqm] at hp;have wy:=wi ((y:Int)+h) (by omega) (by omega);by_cases ad:(y:Int)+h≤qH
 ·rw[Kj ad] at hp;simp +contextual -implicitDefEqProofs (maxSteps:=10^7) only[go_sem,seval,↓gZ,wy,ad];refine Qw Xs Ms (st0:=?st1) (α:=Nat) (fun x=>[(9,.d (J (x:Int)))]) (fun _=>[]) (fun x=>(x:Int)≤qW∧Zql qF qW w h y (qW.toNat+1-x) x=Zql qF qW w h y (qW.toNat+1) 0) (fun x=>qW.toNat+1-x) 0 ?hc2 ⟨by omega,by simp⟩ ?h02 ?step2
  case hc2=>simp +contextual -implicitDefEqProofs (maxSteps:=10^7) only[go_sem,seval,↓gZ]<;>exact rfl
  case h02=>rfl
  case step2=>
   intro x ⟨hx,aa⟩ ak;obtain⟨m,hm⟩:∃ m,qW.toNat+1-x=m+1:=⟨qW.toNat-x,by omega⟩
   rw[hm,Zql] at aa;have wx:=wi ((x:Int)+w) (by omega) (by omega);have al:=Zh (k:=x) (by omega);have am:=Zh (k:=y) (by omega);by_cases ab:(x:Int)+w≤qW
   ·rw[Kj ab] at aa;have ec:=ZgL qF x y w h hF (by simp only[VB];omega) (by omega);by_cases ae:Z5 qF ⟨x,y,w,h⟩
    ·rw[Kj ae] at aa;rw[← aa] at hp;simp only at hp;rw[Kh ae] at ec;simp +contextual -implicitDefEqProofs (maxSteps:=10^7) only[go_sem,seval,↓gZ,wx,ab,ec,Bool.not_true];rw[← hp];rfl
    ·rw[Kg ae] at aa;rw[Ki ae] at ec;simp +contextual -implicitDefEqProofs (maxSteps:=10^7) only[go_sem,seval,↓gZ,wx,ab,ec,al,Bool.not_false];refine ak (x+1) _ ⟨by omega,?_⟩ (by omega) ?_
     ·rw[← aa];have:qW.toNat+1-(x+1)=m:=by omega
      rw[this];rfl
     ·simp +contextual -implicitDefEqProofs (maxSteps:=10^7) only[go_sem,seval,↓gZ]
   ·rw[Kg ab] at aa;rw[← aa] at hp;simp only at hp;simp +contextual -implicitDefEqProofs (maxSteps:=10^7) only[go_sem,seval,↓gZ,wx,ab,am];refine ih (y+1) _ ⟨by omega,?_⟩ (by omega) ?_
    ·rw[← hp];have:qH.toNat+1-(y+1)=n:=by omega
     rw[this];rfl
    ·simp +contextual -implicitDefEqProofs (maxSteps:=10^7) only[go_sem,seval,↓gZ]
 ·rw[Kg ad] at hp;simp +contextual -implicitDefEqProofs (maxSteps:=10^7) only[go_sem,seval,↓gZ,wy,ad];rw[← hp];rfl
theorem Zp3 (qL qW qH:Int) (qF:List Box) (pW pH:Int) (pT:Bool) (pK:Int) (hq:VPc (Zb.mk qL qW qH qF)) (hp:VP (Pane.mk pW pH pT pK)):Zd Xs Ms Uj [(.d (.agg [J qL,J qW,J qH,.sl (qF.map Box.enc)])),(.d (.agg [J pW,J pH,.bool pT,J pK]))] []=some ((.d (.bool (okP (Pane.mk pW pH pT pK) (Zb.mk qL qW qH qF)))),[]):=by
 have aa:1≤pW∧pW≤200∧1≤pH∧pH≤200:=⟨hp.1,hp.2.1,hp.2.2.1,hp.2.2.2.1⟩
 have f1:=Uz qL qW qH qF pW pH hq ⟨aa.1,aa.2.1⟩ aa.2.2;have f2:=Uz qL qW qH qF pH pW hq aa.2.2 ⟨aa.1,aa.2.1⟩;have ab:okP (Pane.mk pW pH pT pK) (Zb.mk qL qW qH qF)=((QY ⟨qL,qW,qH,qF⟩ pW pH).isSome || (pT&&(QY ⟨qL,qW,qH,qF⟩ pH pW).isSome)):=rfl;rw[ab];cases h1:QY ⟨qL,qW,qH,qF⟩ pW pH with
 | some b1=>
  rw[h1] at f1;unfold fcV at f1;obtain⟨bX,bY,bW,bH⟩:=b1;refine cE ?_;simp +contextual -implicitDefEqProofs (maxSteps:=10^7) only[go_sem,seval,↓gZ,VM,f1,Lm,Bool.true_or]
 | none=>
  rw[h1] at f1;unfold fcV at f1;cases pT with
  | false=>
   refine cE ?_;simp +contextual -implicitDefEqProofs (maxSteps:=10^7) only[go_sem,seval,↓gZ,VM,f1,KQ,LN,Bool.false_and]
  | true=>
   cases h2:QY ⟨qL,qW,qH,qF⟩ pH pW with
   | some b2=>
    rw[h2] at f2;unfold fcV at f2;obtain⟨bX,bY,bW,bH⟩:=b2;refine cE ?_;simp +contextual -implicitDefEqProofs (maxSteps:=10^7) only[go_sem,seval,↓gZ,VM,f1,f2,KQ,Lm,LN,Kaf]
   | none=>
    rw[h2] at f2;unfold fcV at f2;refine cE ?_;simp +contextual -implicitDefEqProofs (maxSteps:=10^7) only[go_sem,seval,↓gZ,VM,f1,f2,KQ,LN,Kaf]
theorem Zp4 (l:List Zb) (pW pH:Int) (pT:Bool) (pK:Int) (hv:VSt l) (hp:VP (Pane.mk pW pH pT pK)):Zd Xs Ms Uf [(.d (.sl (l.map Zb.enc))),(.d (.agg [J pW,J pH,.bool pT,J pK]))] []=some ((.d (J (Zs7 l (Pane.mk pW pH pT pK)))),[]):=by
 have e1:=Yo l;have e2:=U9 pW pH pT pK;rw[Kh hv] at e1;rw[Kh hp] at e2;have ab:=fun x hx=>Z0 hv.2 x hx;have af:=hv.1;unfold Zs7;rw[Kj ⟨hv,hp⟩];refine cE ?_;simp +contextual -implicitDefEqProofs (maxSteps:=10^7) only[go_sem,seval,↓gZ,ZdJ,e1,e2];refine LO (α:=Nat×Int×Int×Int) (fun s=>[(20,.d (J (s.1:Int))),(5,.d (J s.2.2.1)),(6,.d (J s.2.2.2))]) (fun _=>[]) (fun s=>s.1≤l.length∧Zbn l (Pane.mk pW pH pT pK) (l.drop s.1) s.1 s.2.1=Zdf l (Pane.mk pW pH pT pK)∧((s.2.1=-1∧s.2.2.1=0)∨∃ (j:Nat) (y:Zb),s.2.1=(j:Int)∧l[j]?=some y∧s.2.2.1=y.Label∧s.2.2.2=y.W*y.H)) (fun s=>l.length-s.1) (0,-1,0,0) ⟨by simp,by simp[Zdf],.inl ⟨rfl,rfl⟩⟩ ?_
 intro⟨i,b,lb,ls⟩ ⟨hi,hq,hb⟩ ih;simp only at hi hq hb;by_cases aa:i<l.length
 ·obtain⟨x,hx⟩:=Zo aa;have hw:=Zh (k:=i) (by omega);rw[ZnZ hx] at hq;have ae:=ab x (Kb hx);have f1:=Zp3 x.Label x.W x.H x.Flaws pW pH pT pK ae hp;have ag:=ae.1;have ah:0≤x.W*x.H∧x.W*x.H≤40000:=J4 (b:=⟨0,0,x.W,x.H⟩) (by simp only[VB];omega);obtain⟨L,W,H,F⟩:=x;simp only at f1 ah hq ag;have u1:=wi (W*H) (by omega) (by omega);by_cases hc:lb=0∨W*H<ls
  ·have ai:b<0∨W*H<ZeV l b:=by
    rcases hb with ⟨h1,h2⟩ | ⟨j,y,h1,h2,h3,h4⟩
    ·left;omega
    ·have:=(ab y (Kb h2)).1;right
     unfold ZeV;rw[h1,Kz,h2];simp only;rcases hc with hc | hc
     ·omega
     ·omega
   by_cases ad:okP (Pane.mk pW pH pT pK) ⟨L,W,H,F⟩=true
   ·rw[ad] at f1;rw[Kj ⟨ad,ai⟩] at hq;rcases hc with hc | hc
    ·simp +contextual -implicitDefEqProofs (maxSteps:=10^7) only[go_sem,seval,↓gZ,hx,aa,hw,f1,u1,hc];refine ih (i+1,(i:Int),L,W*H) _ ⟨by simp only;omega,hq,.inr ⟨i,⟨L,W,H,F⟩,rfl,hx,rfl,rfl⟩⟩ (by simp only;omega) ?_;simp +contextual -implicitDefEqProofs (maxSteps:=10^7) only[go_sem,seval,↓gZ]
    ·by_cases h0:lb=0
     ·simp +contextual -implicitDefEqProofs (maxSteps:=10^7) only[go_sem,seval,↓gZ,hx,aa,hw,f1,u1,h0];refine ih (i+1,(i:Int),L,W*H) _ ⟨by simp only;omega,hq,.inr ⟨i,⟨L,W,H,F⟩,rfl,hx,rfl,rfl⟩⟩ (by simp only;omega) ?_;simp +contextual -implicitDefEqProofs (maxSteps:=10^7) only[go_sem,seval,↓gZ]
     ·simp +contextual -implicitDefEqProofs (maxSteps:=10^7) only[go_sem,seval,↓gZ,hx,aa,hw,f1,u1,h0,hc];refine ih (i+1,(i:Int),L,W*H) _ ⟨by simp only;omega,hq,.inr ⟨i,⟨L,W,H,F⟩,rfl,hx,rfl,rfl⟩⟩ (by simp only;omega) ?_;simp +contextual -implicitDefEqProofs (maxSteps:=10^7) only[go_sem,seval,↓gZ]
   ·rw[Kg (fun h=>ad h.1)] at hq;simp only[LL] at ad;rw[ad] at f1;by_cases h0:lb=0
    ·simp +contextual -implicitDefEqProofs (maxSteps:=10^7) only[go_sem,seval,↓gZ,hx,aa,hw,f1,u1,h0];refine ih (i+1,b,0,ls) _ ⟨by simp only;omega,hq,by rw[h0] at hb;exact hb⟩ (by simp only;omega) ?_;simp +contextual -implicitDefEqProofs (maxSteps:=10^7) only[go_sem,seval,↓gZ]
    ·have hc:W*H<ls:=hc.resolve_left h0;simp +contextual -implicitDefEqProofs (maxSteps:=10^7) only[go_sem,seval,↓gZ,hx,aa,hw,f1,u1,h0,hc];refine ih (i+1,b,lb,ls) _ ⟨by simp only;omega,hq,hb⟩ (by simp only;omega) ?_;simp +contextual -implicitDefEqProofs (maxSteps:=10^7) only[go_sem,seval,↓gZ]
  ·have h0:¬lb=0:=fun h=>hc (.inl h);have h1:¬W*H<ls:=fun h=>hc (.inr h);rw[Kg (fun h=>by
    rcases hb with ⟨h2,h3⟩ | ⟨j,y,h2,h3,h4,h5⟩
    ·exact h0 h3
    ·rcases h.2 with h6 | h6
     ·omega
     ·unfold ZeV at h6;rw[h2,Kz,h3] at h6;simp only at h6;omega)] at hq
   simp +contextual -implicitDefEqProofs (maxSteps:=10^7) only[go_sem,seval,↓gZ,hx,aa,hw,f1,u1,h0,h1];refine ih (i+1,b,lb,ls) _ ⟨by simp only;omega,hq,hb⟩ (by simp only;omega) ?_;simp +contextual -implicitDefEqProofs (maxSteps:=10^7) only[go_sem,seval,↓gZ]
 ·have:i=l.length:=by omega
  subst this;rw[Zqn] at hq;rcases hb with ⟨h1,h2⟩ | ⟨j,y,h1,h2,h3,h4⟩
  ·have hn:Zdf l (Pane.mk pW pH pT pK)<0:=by omega
   simp +contextual -implicitDefEqProofs (maxSteps:=10^7) only[go_sem,seval,↓gZ];rw[Kj hn,h2]
  ·have hn:¬Zdf l (Pane.mk pW pH pT pK)<0:=by omega
   simp +contextual -implicitDefEqProofs (maxSteps:=10^7) only[go_sem,seval,↓gZ];rw[Kg hn,← hq,h1,Kz,h2,h3]
mutual
theorem Ze.enc_inj:∀ (p q:Ze),p.enc=q.enc→p=q
 | .mk o a i t ks,.mk o' a' i' t' ks',h=>by
  rw[Ze.enc_mk,Ze.enc_mk] at h;injection h with h;simp only[List.cons.injEq,D.int.injEq,D.bool.injEq,D.sl.injEq,true_and,and_true] at h;obtain⟨rfl,rfl,rfl,rfl,h⟩:=h;rw[Ze.encL_inj ks ks' h]
theorem Ze.encL_inj:∀ (l m:List Ze),l.map Ze.enc=m.map Ze.enc→l=m
 | [],[],_=>rfl
 | [],_ :: _,h=>by simp at h
 | _ :: _,[],h=>by simp at h
 | x :: l,y :: m,h=>by
  rw[Ko,Ko] at h;injection h with h1 h2;rw[Ze.enc_inj x y h1,Ze.encL_inj l m h2]
end
theorem Zy6 {X:Option BT} {p:Ze} (h:plV X=Ji p):∃ b,X=some b∧b.plan=p:=by
 obtain⟨o,a,q,t,ks⟩:=p;cases X with
 | none=>simp[plV,Ji] at h
 | some b=>
  obtain⟨o',a',q',t',aa,eb⟩:=Zcf b;simp only[plV,Ji,eb] at h;simp only[Prod.mk.injEq,AV.tup.injEq,List.cons.injEq,AV.agg.injEq,AV.d.injEq,D.int.injEq,D.bool.injEq,Zn.row.injEq,true_and,and_true] at h;obtain⟨⟨rfl,rfl,rfl,rfl⟩,h⟩:=h;exact⟨b,rfl,by rw[eb,Ze.encL_inj _ _ h]⟩
theorem ZAw {k:Zt} {c:L.Place} (hw:VW k) (hc:Zb5 k c):plT (popL k [c])=plT (some (Qs c.Pane c.Turned c.Box.X c.Box.Y c.Box.W c.Box.H 0 0 k.W k.H))∧VPl k [c]:=by
 have hv:VPl k [c]:=by
  refine⟨⟨hw,by simp⟩,fun d hd=>?_,?_⟩
  ·rw[KP.1 hd];exact hc
  ·unfold Zf0;simp
 refine⟨?_,hv⟩;obtain⟨h1,h2,h3,h4⟩:=ZsO hv;have hG:=Zsz (k.W+k.H).toNat [c] 0 0 k.W k.H h1 h2 (Kl _) (by simp);have hi:=h2 c (by simp);obtain⟨P,T,⟨X,Y,W,H⟩⟩:=c;have hO:=Zjc P T X Y W H 0 0 k.W k.H (by simp only[VB] at h1;simp only[VB,QA] at hi;unfold Zcd;omega);have h:some (plV (YQ (k.W+k.H).toNat [⟨P,T,⟨X,Y,W,H⟩⟩] ⟨0,0,k.W,k.H⟩))=some (Ji (Qs P T X Y W H 0 0 k.W k.H).plan):=hG.symm.trans hO;unfold popL;rw[Kj hv];obtain⟨b,hb,aa⟩:=Zy6 (Option.some.inj h);rw[hb];simp only[plT,aa]
def nxT:Option Zz→AV×List Zn
 | some ⟨k,l,⟨x,y,w,h⟩,⟨⟨pw,ph,pt,pk⟩,c⟩,.mk o a q t ks⟩=>(.tup [.agg [(.d (J k)),(.d (J l)),(.d (J x)),(.d (J y)),(.d (J w)),(.d (J h)),(.d (J pw)),(.d (J ph)),(.d (.bool pt)),(.d (J pk)),(.d (J c)),(.d (J o)),(.d (J a)),(.d (J q)),(.d (.bool t)),.own 0],(.d (.bool true))],[plO ks])
 | none=>(.tup [.agg [(.d (J 0)),(.d (J 0)),(.d (J 0)),(.d (J 0)),(.d (J 0)),(.d (J 0)),(.d (J 0)),(.d (J 0)),(.d (.bool false)),(.d (J 0)),(.d (J 0)),(.d (J 0)),(.d (J 0)),(.d (J 0)),(.d (.bool false)),.own 0],(.d (.bool false))],[.row 5 [] true false])
def cfV (ok:Bool):Zz→AV×List Zn
 | ⟨k,l,⟨x,y,w,h⟩,⟨⟨pw,ph,pt,pk⟩,c⟩,.mk o a q t ks⟩=>(.tup [.agg [(.d (J k)),(.d (J l)),(.d (J x)),(.d (J y)),(.d (J w)),(.d (J h)),(.d (J pw)),(.d (J ph)),(.d (.bool pt)),(.d (J pk)),(.d (J c)),(.d (J o)),(.d (J a)),(.d (J q)),(.d (.bool t)),.own 0],(.d (.bool ok))],[plO ks])
theorem Zvv (sS:List Zb) (sO sD:List Zc) (sL sC:Int) (qL qW qH:Int) (qF:List Box) (i:Nat) (pW pH:Int) (pT:Bool) (pK:Int) (hv:ZF (Zq.mk sS sO sD sL sC)) (a:Nat) (ha:sS[a]?=some (Zb.mk qL qW qH qF)) (y:Zc) (hy:sO[i]?=some y) (ai:y.Pane=(Pane.mk pW pH pT pK)) (af:okP (Pane.mk pW pH pT pK) (Zb.mk qL qW qH qF)=true) :
  ∃ (t:Bool) (b:Box),((QY (Zb.mk qL qW qH qF) pW pH=some b∧t=false)∨(QY (Zb.mk qL qW qH qF) pW pH=none∧QY (Zb.mk qL qW qH qF) pH pW=some b∧t=true))∧Zb5 ⟨qW,qH,sO.map Zc.Pane⟩ ⟨i,t,b⟩∧VW ⟨qW,qH,sO.map Zc.Pane⟩ ∧
   Zd Xs Ms Zcg [(.d (.agg [.sl (sS.map Zb.enc),.sl (sO.map Zc.enc),.sl (sD.map Zc.enc),J sL,J sC])),(.d (.agg [J qL,J qW,J qH,.sl (qF.map Box.enc)])),(.d (J i)),(.d (.agg [J pW,J pH,.bool pT,J pK]))] []=some (cfV (Ye (Zq.mk sS sO sD sL sC) (Zm5 i t b (Zb.mk qL qW qH qF))).isSome (Zm5 i t b (Zb.mk qL qW qH qF))):=by
 have ag:=Z0 hv.1.2 _ (Kb ha);have al:=ag.1;simp only at al;have hp:VP (Pane.mk pW pH pT pK):=by rw[← ai];exact(Q3 hv.2.1 y (Kb hy)).1
 have ae:1≤pW∧pW≤200∧1≤pH∧pH≤200:=⟨hp.1,hp.2.1,hp.2.2.1,hp.2.2.2.1⟩
 have e1:=Zlt sS sO sD sL sC qL;unfold Zyt at e1;have ab:=Zlr (k:=0) hv.1.2 ha;rw[LH] at ab;rw[Kj hv] at e1;simp only at ab;simp only[Zem ab ha] at e1;unfold wkV at e1;simp only at e1;have f1:=Uz qL qW qH qF pW pH ag ⟨ae.1,ae.2.1⟩ ae.2.2;have f2:=Uz qL qW qH qF pH pW ag ae.2.2 ⟨ae.1,ae.2.1⟩;have am:=hv.2.1.1;simp only at am;have ah:VW ⟨qW,qH,sO.map Zc.Pane⟩:=by
  refine⟨by simp only;omega,by simp only;omega,by simp only;omega,by simp only;omega,by simp;omega,fun z hz=>?_⟩;obtain⟨x,hx,rfl⟩:=Li.1 hz;exact(Q3 hv.2.1 x hx).1
 have aj:(sO.map Zc.Pane)[i]?=some (Pane.mk pW pH pT pK):=by rw[Ld,hy,← ai];rfl
 have ak:∀ (t:Bool) (b:Box),Zb5 ⟨qW,qH,sO.map Zc.Pane⟩ ⟨i,t,b⟩→∃ (o a' p' : Int) (t' : Bool) (ks:List Ze),(Qs i t b.X b.Y b.W b.H 0 0 qW qH).plan=.mk o a' p' t' ks ∧
   Zd Xs Ms Ya [.d (.agg [J qW,J qH,.sl ((sO.map Zc.Pane).map Pane.enc)]),.d (.sl [.agg [J (i:Int),.bool t,J b.X,J b.Y,J b.W,J b.H]])] []=some (.tup [.agg [(.d (J o)),(.d (J (a'))),(.d (J (p'))),(.d (.bool (t'))),.own 0],(.d (.bool true))],[plO ks]):=by
  intro t b hc;have e:=Zk5 qW qH (sO.map Zc.Pane) [⟨i,t,b⟩];rw[(ZAw ah hc).1] at e;simp only[plT] at e;cases hpp:(Qs i t b.X b.Y b.W b.H 0 0 qW qH).plan with
  | mk o a' p' t' ks=>
   rw[hpp] at e;exact⟨o,a',p',t',ks,rfl,e⟩
 cases h1:QY (Zb.mk qL qW qH qF) pW pH with
 | some b=>
  obtain⟨g1,g2,g3,g4,g5,g6,_⟩:=Za1 h1;simp only at g2 g4;have hc:Zb5 ⟨qW,qH,sO.map Zc.Pane⟩ ⟨i,false,b⟩:=by
   refine⟨⟨?_,?_⟩,?_⟩
   ·simp only[VB];omega
   ·simp only[QA];omega
   ·simp[XT,aj,g5,g6]
  refine⟨false,b,.inl ⟨rfl,rfl⟩,hc,ah,?_⟩;obtain⟨o,a',p',t',ks,k1,k2⟩:=ak false b hc;rw[h1] at f1;have e5:=Zbi sS sO sD sL sC 3 qL 0 0 0 0 0 0 false 0 0 o a' p' t' ks;rw[Kj hv] at e5;unfold Zm5;simp only[k1];obtain⟨bX,bY,bW,bH⟩:=b;unfold fcV at f1;simp only at f1 k2;cases hap:Ye (Zq.mk sS sO sD sL sC) ⟨3,qL,⟨0,0,0,0⟩,⟨⟨0,0,false,0⟩,0⟩,.mk o a' p' t' ks⟩ with
  | none=>
   rw[hap] at e5;unfold shT at e5;unfold cfV;refine cE ?_;by_cases aa:ks=[]
   ·subst aa;simp only[KM] at e5;simp +contextual -implicitDefEqProofs (maxSteps:=10^7) only[go_sem,seval,↓gZ,YM,e1,f1,k2,e5,KQ]
   ·have ad:=ZmK aa;simp +contextual -implicitDefEqProofs (maxSteps:=10^7) only[go_sem,seval,↓gZ,YM,e1,f1,k2,e5,KQ,ad]
  | some u=>
   rw[hap] at e5;obtain⟨a1,a2,a3,a4,a5⟩:=u;unfold shT at e5;simp only at e5;unfold cfV;refine cE ?_;by_cases aa:ks=[]
   ·subst aa;simp only[KM] at e5;simp +contextual -implicitDefEqProofs (maxSteps:=10^7) only[go_sem,seval,↓gZ,YM,e1,f1,k2,e5,Lm]
   ·have ad:=ZmK aa;simp +contextual -implicitDefEqProofs (maxSteps:=10^7) only[go_sem,seval,↓gZ,YM,e1,f1,k2,e5,Lm,ad]
 | none=>
  unfold okP at af;simp only[h1,KQ,LN,Kd] at af;obtain⟨hT,hs⟩:=af;subst hT;cases h2:QY (Zb.mk qL qW qH qF) pH pW with
  | none=>rw[h2] at hs;cases hs
  | some b=>
   obtain⟨g1,g2,g3,g4,g5,g6,_⟩:=Za1 h2;simp only at g2 g4;have an:¬pW=pH:=fun h=>by rw[h] at h1 h2;rw[h1] at h2;cases h2
   have hc:Zb5 ⟨qW,qH,sO.map Zc.Pane⟩ ⟨i,true,b⟩:=by
    refine⟨⟨?_,?_⟩,?_⟩
    ·simp only[VB];omega
    ·simp only[QA];omega
    ·simp[XT,aj,g5,g6,an]
   refine⟨true,b,.inr ⟨rfl,rfl,rfl⟩,hc,ah,?_⟩;obtain⟨o,a',p',t',ks,k1,k2⟩:=ak true b hc;rw[h1] at f1;rw[h2] at f2;have e5:=Zbi sS sO sD sL sC 3 qL 0 0 0 0 0 0 false 0 0 o a' p' t' ks;rw[Kj hv] at e5;unfold Zm5;simp only[k1];obtain⟨bX,bY,bW,bH⟩:=b;unfold fcV at f1 f2;simp only at f1 f2 k2;cases hap:Ye (Zq.mk sS sO sD sL sC) ⟨3,qL,⟨0,0,0,0⟩,⟨⟨0,0,false,0⟩,0⟩,.mk o a' p' t' ks⟩ with
   | none=>
    rw[hap] at e5;unfold shT at e5;unfold cfV;refine cE ?_;by_cases aa:ks=[]
    ·subst aa;simp only[KM] at e5;simp +contextual -implicitDefEqProofs (maxSteps:=10^7) only[go_sem,seval,↓gZ,YM,e1,f1,f2,k2,e5,KQ]
    ·have ad:=ZmK aa;simp +contextual -implicitDefEqProofs (maxSteps:=10^7) only[go_sem,seval,↓gZ,YM,e1,f1,f2,k2,e5,KQ,ad]
   | some u=>
    rw[hap] at e5;obtain⟨a1,a2,a3,a4,a5⟩:=u;unfold shT at e5;simp only at e5;unfold cfV;refine cE ?_;by_cases aa:ks=[]
    ·subst aa;simp only[KM] at e5;simp +contextual -implicitDefEqProofs (maxSteps:=10^7) only[go_sem,seval,↓gZ,YM,e1,f1,f2,k2,e5,Lm]
    ·have ad:=ZmK aa;simp +contextual -implicitDefEqProofs (maxSteps:=10^7) only[go_sem,seval,↓gZ,YM,e1,f1,f2,k2,e5,Lm,ad]
theorem Zsn (sS:List Zb) (sO sD:List Zc) (sL sC:Int) (hv:¬ZF (Zq.mk sS sO sD sL sC)):Zd Xs Ms Yu [(.d (.agg [.sl (sS.map Zb.enc),.sl (sO.map Zc.enc),.sl (sD.map Zc.enc),J sL,J sC]))] []=some (nxT none):=by
 have e1:=ZN sS sO sD sL sC;rw[Ki hv] at e1;unfold nxT;refine cE ?_;simp +contextual -implicitDefEqProofs (maxSteps:=10^7) only[go_sem,seval,↓gZ,Zdh,e1]
theorem Zld (sS:List Zb) (sO sD:List Zc) (sL sC:Int) (hv:ZF (Zq.mk sS sO sD sL sC)):Zd Xs Ms Yu [(.d (.agg [.sl (sS.map Zb.enc),.sl (sO.map Zc.enc),.sl (sD.map Zc.enc),J sL,J sC]))] []=some (nxT (WZ (Zq.mk sS sO sD sL sC))):=by
 have e1:=ZN sS sO sD sL sC;rw[Kh hv] at e1;have ai:=hv.2.1.1;have af:=hv.1.1;simp only at ai af;refine cE ?_;simp +contextual -implicitDefEqProofs (maxSteps:=10^7) only[go_sem,seval,↓gZ,Zdh,e1];refine LO (α:=Nat) (fun i=>[(17,.d (J (i:Int)))]) (fun _=>[]) (fun i=>i≤sO.length∧Wc (Zq.mk sS sO sD sL sC) (sO.drop i) i=WZ (Zq.mk sS sO sD sL sC)) (fun i=>sO.length-i) 0 ⟨by omega,by simp[WZ]⟩ ?_;intro i ⟨hi,hp⟩ ih;by_cases aa:i<sO.length
 ·obtain⟨x,hx⟩:=Zo aa;have hw:=Zh (k:=i) (by omega);rw[ZgV hx] at hp;have ag:=Q3 hv.2.1 x (Kb hx);have aj:=hx;obtain⟨⟨W,H,T,K⟩,C⟩:=x;simp only at ag;have ef:=Zp4 sS W H T K hv.1 ag.1;unfold Zs7 at ef;rw[Kj ⟨hv.1,ag.1⟩] at ef;unfold Zqr at hp;simp only at hp;rcases Zqo sS ⟨W,H,T,K⟩ with h0 | ⟨j,q,hj,hq,ak⟩
  ·rw[Kj h0] at ef hp;simp only at hp;simp +contextual -implicitDefEqProofs (maxSteps:=10^7) only[go_sem,seval,↓gZ,hx,aa,hw,ef];refine ih (i+1) _ ⟨by omega,hp⟩ (by omega) ?_;simp +contextual -implicitDefEqProofs (maxSteps:=10^7) only[go_sem,seval,↓gZ]
  ·have al:¬(j:Int)<0:=by omega
   rw[hj,Kg al,Kz,hq] at ef hp;simp only at hp ef;have am:=Z0 hv.1.2 q (Kb hq);have ae:=(Kc.1 hq).1;have el:=Yc sS q.Label (by omega);rw[Zlr hv.1.2 hq,LH] at el;have ab:0<q.Label:=by have:=am.1;omega
   obtain⟨qL,qW,qH,qF⟩:=q;simp only at ef el hp ab;obtain⟨t,b,hb,_,_,ec⟩:=Zvv sS sO sD sL sC qL qW qH qF i W H T K hv j hq _ aj rfl ak;have hp:(if (Ye (Zq.mk sS sO sD sL sC) (Zm5 i t b ⟨qL,qW,qH,qF⟩)).isSome=true then some (Zm5 i t b ⟨qL,qW,qH,qF⟩) else Wc (Zq.mk sS sO sD sL sC) (sO.drop (i+1)) (i+1))=WZ (Zq.mk sS sO sD sL sC):=by
    rcases hb with ⟨k1,rfl⟩ | ⟨k1,k2,rfl⟩
    ·rw[k1] at hp;exact hp
    ·rw[k1,k2] at hp;exact hp
   unfold Zm5 at ec hp;cases hpp:(Qs i t b.X b.Y b.W b.H 0 0 qW qH).plan with
   | mk o a p t' ks=>
    simp only[hpp] at ec hp;unfold cfV at ec;simp only at ec;cases hap:Ye (Zq.mk sS sO sD sL sC) ⟨3,qL,⟨0,0,0,0⟩,⟨⟨0,0,false,0⟩,0⟩,.mk o a p t' ks⟩ with
    | none=>
     rw[hap] at ec hp;simp only[KQ,Ka,Kk] at ec hp;by_cases ad:ks=[]
     ·subst ad;simp +contextual -implicitDefEqProofs (maxSteps:=10^7) only[go_sem,seval,↓gZ,hx,aa,hw,ef,el,ec,ab,ae,hq,Zyo];refine ih (i+1) _ ⟨by omega,hp⟩ (by omega) ?_;simp +contextual -implicitDefEqProofs (maxSteps:=10^7) only[go_sem,seval,↓gZ]
     ·have ah:=ZmK ad;simp +contextual -implicitDefEqProofs (maxSteps:=10^7) only[go_sem,seval,↓gZ,hx,aa,hw,ef,el,ec,ab,ae,hq,ah];refine ih (i+1) _ ⟨by omega,hp⟩ (by omega) ?_;simp +contextual -implicitDefEqProofs (maxSteps:=10^7) only[go_sem,seval,↓gZ]
    | some u=>
     rw[hap] at ec hp;simp only[Lm,Km] at ec hp;rw[← hp];unfold nxT;by_cases ad:ks=[]
     ·subst ad;simp +contextual -implicitDefEqProofs (maxSteps:=10^7) only[go_sem,seval,↓gZ,hx,aa,hw,ef,el,ec,ab,ae,hq,Zyo]
     ·have ah:=ZmK ad;simp +contextual -implicitDefEqProofs (maxSteps:=10^7) only[go_sem,seval,↓gZ,hx,aa,hw,ef,el,ec,ab,ae,hq,ah]
 ·have:i=sO.length:=by omega
  subst this;rw[Zqs] at hp;rw[← hp];unfold nxT;simp +contextual -implicitDefEqProofs (maxSteps:=10^7) only[go_sem,seval,↓gZ]
theorem Zuh (sS:List Zb) (sO sD:List Zc) (sL sC:Int) (hs:Zcc (Zq.mk sS sO sD sL sC)):Zd Xs Ms Za2 [(.d (.agg [.sl (sS.map Zb.enc),.sl (sO.map Zc.enc),.sl (sD.map Zc.enc),J sL,J sC]))] []=some (nxV (if ZF (Zq.mk sS sO sD sL sC) then WZ (Zq.mk sS sO sD sL sC) else none)):=by
 have e1:=Jh sS sO sD sL sC hs;by_cases hv:ZF (Zq.mk sS sO sD sL sC)
 ·rw[Kh hv] at e1;rw[Kj hv];have e2:=Zls sS sO sD sL sC (Zur hv);cases hn:WZ (Zq.mk sS sO sD sL sC) with
  | none=>
   rw[hn] at e2;unfold nxV at e2 ⊢;refine cE ?_;simp +contextual -implicitDefEqProofs (maxSteps:=10^7) only[go_sem,seval,↓gZ,Za8,e1,e2]
  | some e=>
   rw[hn] at e2;obtain⟨K,Lb,⟨X,Y,W,H⟩,⟨⟨pW,pH,pT,pK⟩,Ct⟩,⟨o,a,q,t,ks⟩⟩:=e;unfold nxV at e2 ⊢;refine cE ?_;simp +contextual -implicitDefEqProofs (maxSteps:=10^7) only[go_sem,seval,↓gZ,Za8,e1,e2]
 ·rw[Ki hv] at e1;rw[Kg hv];unfold nxV;refine cE ?_;simp +contextual -implicitDefEqProofs (maxSteps:=10^7) only[go_sem,seval,↓gZ,Za8,e1]
def Zle:List Int→Int
 | []=>0
 | x :: l=>x+Zle l
theorem Zvw:∀ {u:List Int} {n:Nat} {v w:Int},u[n]?=some v→Zle (u.set n w)=Zle u-v+w
 | [],n,v,w,h=>by simp at h
 | x :: u,0,v,w,h=>by
  simp only[KL,Option.some.injEq] at h;subst h;simp only[Kab,Zle];omega
 | x :: u,n+1,v,w,h=>by
  simp only[KH] at h;simp only[Kad,Zle,Zvw h];omega
theorem ZsS:∀ (l:List L.Place) (u:List Int),(∀ c∈l,∃ n:Nat,c.Pane=(n:Int)∧n<u.length)→Zle (Ud u l)=Zle u+l.length
 | [],u,_=>by simp[Ud]
 | x :: l,u,h=>by
  obtain⟨n,h1,h2⟩:=h x (by simp);obtain⟨v,hv⟩:=Zo h2;rw[Ud,h1,Kz,hv,ZsS l _ (fun c hc=>by
   obtain⟨m,a,b⟩:=h c (by simp[hc]);exact⟨m,a,by simpa using b⟩),Zvw hv]
  simp only[Option.getD_some,Kq];omega
theorem Zvx:∀ n:Nat,Zle (List.replicate n 0)=0
 | 0=>rfl
 | n+1=>by simp[LI,Zle,Zvx n]
theorem Zy7 {k:Zt} {p:Ze} (hv:Y5 k p=true):Zle (Zbw k p)=((Qm k p).filterMap QX).length:=by
 obtain⟨b,hb,ae,af,ab,aa,ad⟩:=QM hv;unfold Zbw;rw[ad,Yt,ZsS _ _ (fun c hc=>by
  obtain⟨n,h1,h2⟩:=Za0 aa c hc;exact⟨n,h1,by simpa using h2⟩),Zvx]
 omega
theorem Zkf:∀ {ps:List Pane} {us:List Int} {o d o' d' : List Zc},us.length=ps.length→YV ps us o d=some (o',d')→Qr d'=Qr d+Zle us
 | [],us,o,d,o',d',hl,h=>by
  cases us with
  | nil=>unfold YV at h;cases h;simp[Zle]
  | cons c us=>simp at hl
 | p :: ps,[],o,d,o',d',hl,h=>by simp at hl
 | p :: ps,c :: us,o,d,o',d',hl,h=>by
  rw[YV] at h;simp only[Kq,Nat.add_right_cancel_iff] at hl;split at h
  ·rename_i h0;rw[Zkf hl h,Zle,h0];omega
  ·split at h
   ·rw[Zkf hl h,ZbT,Zle];omega
   ·cases h
theorem ZCd {i:Int} {t:Bool} {X Y W H bX bY bW bH:Int} (h:Zcd X Y W H bX bY bW bH):plc (Qs i t X Y W H bX bY bW bH) bX bY bW bH=[⟨i,t,⟨X,Y,W,H⟩⟩]:=by
 have h0:=h;unfold Zcd at h0;have q4:∀ (y h' : Int),y=Y→Y+H≤y+h'→plc (if Y+H<Y+h' then BT.cut false H (.pane i t) .waste else .pane i t) X y W h'=[⟨i,t,⟨X,Y,W,H⟩⟩]:=by
  intro y h' e e2;subst e;split
  ·simp[plc]
  ·have:h'=H:=by omega
   simp[plc,this]
 have q3:plc (if bY<Y then BT.cut false (Y-bY) .waste (if Y+H<bY+bH then BT.cut false H (.pane i t) .waste else .pane i t) else (if Y+H<bY+bH then BT.cut false H (.pane i t) .waste else .pane i t)) X bY W bH=[⟨i,t,⟨X,Y,W,H⟩⟩]:=by
  split
  ·have e:Y+H<bY+bH↔Y+H<Y+(bH-(Y-bY)):=by omega
   simp only[plc,Ka,Kk,LS,e];exact q4 _ _ (by omega) (by omega)
  ·have e:bY=Y:=by omega
   subst e;exact q4 _ _ rfl (by omega)
 have q2:∀ (x w' : Int),x=X→X+W≤x+w'→plc (if X+W<X+w' then BT.cut true W (if bY<Y then BT.cut false (Y-bY) .waste (if Y+H<bY+bH then BT.cut false H (.pane i t) .waste else .pane i t) else (if Y+H<bY+bH then BT.cut false H (.pane i t) .waste else .pane i t)) .waste else (if bY<Y then BT.cut false (Y-bY) .waste (if Y+H<bY+bH then BT.cut false H (.pane i t) .waste else .pane i t) else (if Y+H<bY+bH then BT.cut false H (.pane i t) .waste else .pane i t))) x bY w' bH=[⟨i,t,⟨X,Y,W,H⟩⟩]:=by
  intro x w' e e2;subst e;split
  ·simp only[plc,Km,KE,q3]
  ·have:w'=W:=by omega
   rw[this];exact q3
 unfold Qs;simp only;split
 ·have e:X+W<bX+bW↔X+W<X+(bW-(X-bX)):=by omega
  simp only[plc,Km,LS,e];exact q2 _ _ (by omega) (by omega)
 ·have e:bX=X:=by omega
  subst e;exact q2 _ _ rfl (by omega)
theorem ZnV {s:Zq} (hv:ZF s):∀ {m:Nat} {i:Nat} {e:Zz},s.Opn.length-i=m→Wc s (s.Opn.drop i) i=some e→∃ (n j:Nat) (x:Zc) (q:Zb) (t:Bool) (b:Box),s.Opn[n]?=some x∧s.Stock[j]?=some q∧e=Zm5 n t b q∧((QY q x.Pane.W x.Pane.H=some b∧t=false)∨(QY q x.Pane.W x.Pane.H=none∧QY q x.Pane.H x.Pane.W=some b∧t=true))∧okP x.Pane q=true∧∃ u,Ye s e=some u
 | 0,i,e,hm,h=>by
  rw[List.drop_eq_nil_of_le (by omega)] at h;simp[Wc] at h
 | m+1,i,e,hm,h=>by
  obtain⟨x,hx⟩:=Zo (l:=s.Opn) (k:=i) (by omega);rw[ZgV hx] at h;have nx:=fun h=>ZnV hv (m:=m) (i:=i+1) (e:=e) (by omega) h;unfold Zqr at h;rcases Zqo s.Stock x.Pane with h0 | ⟨j,q,hj,hq,aa⟩
  ·rw[Kj h0] at h;exact nx h
  ·rw[hj,Kg (by omega),Kz,hq] at h;simp only at h;cases h1:QY q x.Pane.W x.Pane.H with
   | some b=>
    rw[h1] at h;simp only at h;split at h
    ·rename_i ha;cases h;exact⟨i,j,x,q,false,b,hx,hq,rfl,.inl ⟨h1,rfl⟩,aa,KX.1 ha⟩
    ·exact nx h
   | none=>
    rw[h1] at h;simp only at h;cases h2:QY q x.Pane.H x.Pane.W with
    | some b=>
     rw[h2] at h;simp only at h;split at h
     ·rename_i ha;cases h;exact⟨i,j,x,q,true,b,hx,hq,rfl,.inr ⟨h1,h2,rfl⟩,aa,KX.1 ha⟩
     ·exact nx h
    | none=>rw[h2] at h;exact nx h
structure NFacts (s:Zq) (e:Zz) (u:Zq) (n j:Nat) (x:Zc) (q:Zb) (t:Bool) (b:Box):Prop where
 fx:s.Opn[n]?=some x
 fq:s.Stock[j]?=some q
 lab:QI 0 s.Stock q.Label=(j:Int)
 fe:e=Zm5 n t b q
 ap:Ye s e=some u
 vw:VW ⟨q.W,q.H,s.Opn.map Zc.Pane⟩
 pl:Zb5 ⟨q.W,q.H,s.Opn.map Zc.Pane⟩ ⟨n,t,b⟩
 good:Vh q ⟨q.W,q.H,s.Opn.map Zc.Pane⟩ e.plan
 places:(Qm ⟨q.W,q.H,s.Opn.map Zc.Pane⟩ e.plan).filterMap QX=[⟨n,t,b⟩]
 clr:Z5 q.Flaws b
 done:Qr u.Done=Qr s.Done+1
 opn:Qr u.Opn=Qr s.Opn-1
theorem ZnW {s:Zq} {e:Zz} (hv:ZF s) (h:WZ s=some e):∃ u n j x q t b,NFacts s e u n j x q t b:=by
 obtain⟨n,j,x,q,t,b,hx,hq,he,hb,af,u,hu⟩:=ZnV hv (i:=0) rfl (by simpa [WZ] using h);have aj:=Z0 hv.1.2 q (Kb hq);have ar:=aj.1;have hp:=(Q3 hv.2.1 x (Kb hx)).1;have au:1≤x.Pane.W∧x.Pane.W≤200∧1≤x.Pane.H∧x.Pane.H≤200:=⟨hp.1,hp.2.1,hp.2.2.1,hp.2.2.2.1⟩
 have av:=hv.2.1.1;have ak:VW ⟨q.W,q.H,s.Opn.map Zc.Pane⟩:=by
  refine⟨by simp only;omega,by simp only;omega,by simp only;omega,by simp only;omega,by simp;omega,fun z hz=>?_⟩;obtain⟨y,hy,rfl⟩:=Li.1 hz;exact(Q3 hv.2.1 y hy).1
 have ai:(s.Opn.map Zc.Pane)[n]?=some x.Pane:=by rw[Ld,hx];rfl
 have ad:=Zlr (k:=0) hv.1.2 hq;rw[LH] at ad;have ag:Z5 q.Flaws b∧Zb5 ⟨q.W,q.H,s.Opn.map Zc.Pane⟩ ⟨n,t,b⟩:=by
  rcases hb with ⟨k1,rfl⟩ | ⟨k1,k2,rfl⟩
  ·obtain⟨g1,g2,g3,g4,g5,g6,g7⟩:=Za1 k1;refine⟨g7,⟨?_,?_⟩,?_⟩
   ·simp only[VB];omega
   ·simp only[QA];omega
   ·simp[XT,ai,g5,g6]
  ·obtain⟨g1,g2,g3,g4,g5,g6,g7⟩:=Za1 k2;have al:¬x.Pane.W=x.Pane.H:=fun h=>by rw[h] at k1 k2;rw[k1] at k2;cases k2
   unfold okP at af;simp only[k1,KQ,LN,Kd] at af;refine⟨g7,⟨?_,?_⟩,?_⟩
   ·simp only[VB];omega
   ·simp only[QA];omega
   ·simp[XT,ai,g5,g6,al,af.1]
 have am:Zcd b.X b.Y b.W b.H 0 0 q.W q.H:=by
  have:=ag.2.1;simp only[VB,QA] at this;unfold Zcd;omega
 have hf:=Zw1 hv hu;have hk:e.kind=3:=by rw[he];rfl
 obtain⟨ab,_⟩:=Zvq hu;have an:evS s e=Zda s e:=by unfold evS;rw[Kg (by omega),Kg (by omega),Kg (by omega),Kg (by omega),Kg (by omega),Kj hk]
 rw[an] at ab;have ao:e.label=q.Label:=by rw[he];rfl
 have ap:e.plan=(Qs n t b.X b.Y b.W b.H 0 0 q.W q.H).plan:=by rw[he];rfl
 unfold Zda at ab;rw[ao,ad,Kz,hq] at ab;simp only at ab;cases hst:ZaZ s.Stock q.Label ⟨q.W,q.H,s.Opn.map Zc.Pane⟩ e.plan 5 with
 | none=>rw[hst] at ab;cases ab
 | some R=>
  rw[hst] at ab;simp only at ab;have ae:Vh q ⟨q.W,q.H,s.Opn.map Zc.Pane⟩ e.plan:=by
   unfold ZaZ at hst;split at hst
   ·rw[ad,Kz,hq] at hst;simp only at hst;split at hst
    ·rename_i hg;exact hg.1
    ·cases hst
   ·cases hst
  have ah:=ae.1;have aa:(Qm ⟨q.W,q.H,s.Opn.map Zc.Pane⟩ e.plan).filterMap QX=[⟨n,t,b⟩]:=by
   obtain⟨B,hB,aw,_,_,_,aq⟩:=QM ah;rw[ap,Znx] at hB;cases hB;rw[aq,Yt];exact ZCd am
  split at ab
  ·split at ab
   ·cases ab
   ·rename_i o d hg;cases ab;have hd:=Zkf (by rw[(Zde ah).1]) hg;rw[Zy7 ah,aa] at hd;have hc:=hf.cnt;rw[Kg (by omega)] at hc;simp only[Kq,Ln] at hd;have hc:Qr o+Qr d=Qr s.Opn+Qr s.Done+0:=hc;exact⟨_,n,j,x,q,t,b,hx,hq,ad,he,hu,ak,ag.2,ae,aa,ag.1,(by show Qr d=_;omega),(by show Qr o=_;omega)⟩
  ·cases ab
theorem nodes_cntB:∀ b:BT,b.plan.nodes=b.cnt
 | .waste=>rfl
 | .pane _ _=>rfl
 | .cut _ _ l r=>by
  have h1:=nodes_cntB l;have h2:=nodes_cntB r;simp only[BT.plan,Ze.nodes,Ze.nodes.nodesL,BT.cnt] at h1 h2 ⊢;omega
theorem Zvy {s:Zq} {e:Zz} (hv:ZF s) (h:WZ s=some e):Zlc e≤255:=by
 obtain⟨u,n,j,x,q,t,b,F⟩:=ZnW hv h;obtain⟨B,_,h1,_,h2,_⟩:=QM F.good.1;have h3:=nodes_cntB B;unfold Zlc;rw[h1];omega
theorem ZiY (s:Zq) (ho:s.ok):Zd Xs Ms Yf [.d s.enc] []=some ((.d (.bool true)),[]):=by
 have af:=ok_Sm ho;obtain⟨S,O,D,L,C⟩:=s;obtain⟨⟨h1,ag⟩,⟨h2,_⟩,⟨h3,_⟩,_,_⟩:=ho;simp only at h1 ag h2 h3 af;have e1:=ZnT S O D L C h1 (fun p hp=>(ag p hp).2.2.2.1) h2 h3 1048576 (by decide) (by decide);by_cases hs:((ZiX S O D:Nat):Int)≤1048576
 ·rw[Jd hs] at e1;have aa : ZiX S O D≤1048576:=by omega
  have ab:¬(1048576:Int)-((ZiX S O D:Nat):Int)<0:=by omega
  have ad:=af aa;have aj:=Zir S;have ah:∀ p∈S,Zbj p≤1048576:=fun p hp=>by have:=Zis (f:=Zbj) hp;unfold ZiX at aa;omega
  have ae : ∀ p∈S,Zbj p≤1099511627776:=fun p hp=>by have:=ah p hp;omega
  have hl:S.length≤1048576∧O.length≤1048576∧D.length≤1048576∧Zs Zbj S≤1048576:=by unfold ZiX at aa;omega
  have e2:=ZnU S O D L C hl.1 ah hl.2.1 hl.2.2.1;have e3:=Zuh S O D L C ad;have e4:Zd Xs Ms Yu [.d (.agg [.sl (S.map Zb.enc),.sl (O.map Zc.enc),.sl (D.map Zc.enc),J L,J C])] []=some (nxT (if ZF ⟨S,O,D,L,C⟩ then WZ ⟨S,O,D,L,C⟩ else none)):=by
   by_cases hv:ZF ⟨S,O,D,L,C⟩
   ·rw[Kj hv];exact Zld S O D L C hv
   ·rw[Kg hv];exact Zsn S O D L C hv
  have e5:=ZaM S O D L C (by omega) ae (by omega) (by omega);have e6:=ZdE S O D L C (by omega) (by omega) (by omega) (by omega) 1 (by decide) (by decide);have hm:¬(1:Int)+(Zs pcN S:Nat)+((5*O.length:Nat):Int)+((5*D.length:Nat):Int)<0:=by omega
  generalize (1:Int)+(Zs pcN S:Nat)+((5*O.length:Nat):Int)+((5*D.length:Nat):Int)=mk at e6 hm;generalize ZiX S O D=sz at *;generalize hw:(if ZF ⟨S,O,D,L,C⟩ then WZ ⟨S,O,D,L,C⟩ else none)=w at e3 e4;cases w with
  | none=>
   unfold nxV at e3;unfold nxT at e4;have e7:=Zb6 0 0 0 0 0 0 0 0 false 0 0 0 0 0 false [] (by simp[nL,Ze.nodes.nodesL]);have e8:=Zf5 0 0 0 0 0 0 0 0 false 0 0 0 0 0 false 1;have e9:=ZgK 0 0 0 0 0 0 0 0 false 0 0 0 0 0 false [] (by simp[nL,Ze.nodes.nodesL]) 1 (by decide) (by decide);simp only[KM,nL,Ze.nodes.nodesL,Ua,Kas,K0,Ls] at e7 e9;refine cE ?_;simp +contextual -implicitDefEqProofs (maxSteps:=10^7) only[go_sem,seval,↓gZ,Xn,e1,ab,e2,e3,e4,e5,e6,hm,e7,e8,e9,bNe,bne_self_eq_false]
  | some e=>
   have ai:Zlc e≤255:=by
    split at hw
    ·rename_i hv;exact Zvy hv hw
    ·cases hw
   obtain⟨K,Lb,⟨X,Y,W,H⟩,⟨⟨pW,pH,pT,pK⟩,Ct⟩,⟨o,a,q,t,ks⟩⟩:=e;have hn:nL ks≤255:=by simp only[Zlc,Ze.nodes,nL] at ai ⊢;omega
   unfold nxV at e3;unfold nxT at e4;simp only at e3 e4;have e7:=Zb6 K Lb X Y W H pW pH pT pK Ct o a q t ks (by omega);have e9:=ZgK K Lb X Y W H pW pH pT pK Ct o a q t ks (by omega) 1 (by decide) (by decide);have y1:¬(1:Int)+((4*nL ks:Nat):Int)<0:=by omega
   clear hw;cases ks with
   | nil=>
    have e8:=Zf5 K Lb X Y W H pW pH pT pK Ct o a q t 1;simp only[plO,KM,nL,Ze.nodes.nodesL,Ua,Kas,K0,Ls] at e3 e4 e7 e9;refine cE ?_;simp +contextual -implicitDefEqProofs (maxSteps:=10^7) only[go_sem,seval,↓gZ,Xn,e1,ab,e2,e3,e4,e5,e6,hm,e7,e8,e9,bNe,bne_self_eq_false]
   | cons x r=>
    have e8:=Zp1 K Lb X Y W H pW pH pT pK Ct o a q t (x :: r) (by omega) 1 (by decide) (by decide);simp only[plO] at e4;generalize (1:Int)+((4*nL (x :: r):Nat):Int)=g4 at *;generalize Ua (x :: r) 1=R2 at *;generalize x :: r=R at *;refine cE ?_;simp +contextual -implicitDefEqProofs (maxSteps:=10^7) only[go_sem,seval,↓gZ,Xn,e1,ab,e2,e3,e4,e5,e6,hm,e7,e8,e9,y1,bNe,bne_self_eq_false]
 ·rw[Je hs] at e1;refine cE ?_;simp +contextual -implicitDefEqProofs (maxSteps:=10^7) only[go_sem,seval,↓gZ,Xn,e1]
end Go.Proofs.YthgciclhiaoecaaGreat
