/- Own text. -/
import Derived.Test.YthgciclhiaoecaaGreatACode
import Derived.Test.YthgciclhiaoecaaGreatAbsParts
import Derived.Test.YthgciclhiaoecaaGreatAC7
import Derived.Test.YthgciclhiaoecaaGreatAbsOkD
namespace Go.Proofs.YthgciclhiaoecaaGreat
open Go Go.Abs Go.Abs.E Go.Abs.L
open Nat (reduceMul reduceSub reduceLeDiff reduceEqDiff)
open Int (reduceLE reduceEq reduceToNat reduceNeg)
set_option linter.unusedSimpArgs false
set_option linter.unusedVariables false
set_option maxRecDepth 20000
set_option maxHeartbeats 4000000
def Zql (F:List Box) (W w h y:Int):Nat→Int→Option Box
 | 0,_=>none
 | n+1,x=>if x+w≤W then (if Z5 F ⟨x,y,w,h⟩ then some ⟨x,y,w,h⟩ else Zql F W w h y n (x+1)) else none
def Zqm (F:List Box) (W H w h:Int):Nat→Int→Option Box
 | 0,_=>none
 | n+1,y=>if y+h≤H then (match Zql F W w h y (W.toNat+1) 0 with
  | some b=>some b
  | none=>Zqm F W H w h n (y+1)) else none
def QY (q:Zb) (w h:Int):Option Box:=Zqm q.Flaws q.W q.H w h (q.H.toNat+1) 0
theorem Zs5 {F:List Box} {W w h y:Int}:∀ {n:Nat} {x:Int} {b:Box},Zql F W w h y n x=some b→x≤b.X∧b.X+w≤W∧b.Y=y∧b.W=w∧b.H=h∧Z5 F b
 | 0,x,b,e=>by simp[Zql] at e
 | n+1,x,b,e=>by
  unfold Zql at e;split at e
  ·split at e
   ·cases e;exact⟨Kam _,by assumption,rfl,rfl,rfl,by assumption⟩
   ·obtain⟨h1,h2⟩:=Zs5 e;exact⟨by omega,h2⟩
  ·cases e
theorem Zs6 {F:List Box} {W H w h:Int}:∀ {n:Nat} {y:Int} {b:Box},Zqm F W H w h n y=some b→0≤b.X∧b.X+w≤W∧y≤b.Y∧b.Y+h≤H∧b.W=w∧b.H=h∧Z5 F b
 | 0,y,b,e=>by simp[Zqm] at e
 | n+1,y,b,e=>by
  unfold Zqm at e;split at e
  ·rename_i hy;split at e
   ·rename_i c hc;cases e;obtain⟨h1,h2,h3,h4,h5,h6⟩:=Zs5 hc;exact⟨h1,h2,by omega,by omega,h4,h5,h6⟩
   ·obtain⟨h1,h2,h3,h4⟩:=Zs6 e;exact⟨h1,h2,by omega,h4⟩
  ·cases e
theorem Za1 {q:Zb} {w h:Int} {b:Box} (e:QY q w h=some b):0≤b.X∧b.X+w≤q.W∧0≤b.Y∧b.Y+h≤q.H∧b.W=w∧b.H=h∧Z5 q.Flaws b:=Zs6 e
def fcV:Option Box→AV×List Zn
 | some b=>(.tup [.d b.enc,(.d (.bool true))],[])
 | none=>(.tup [.d (.agg [J 0,J 0,J 0,J 0]),(.d (.bool false))],[])
theorem UB (qL qW qH:Int) (qF:List Box) (w h:Int) (hq:VPc (Zb.mk qL qW qH qF)) (hw:1≤w∧w≤200) (hh:1≤h∧h≤200):Zd Xs Ms XE [(.d (.agg [J qL,J qW,J qH,.sl (qF.map Box.enc)])),(.d (J w)),(.d (J h))] []=some (fcV (QY (Zb.mk qL qW qH qF) w h)):=by
 have hF:∀ f∈qF,VB f:=fun f hf=>(hq.2 f hf).1;obtain⟨_,_,af,ag,ah,ai,aj⟩:=hq.1;simp only at af ag ah ai aj;clear hq;unfold QY;simp only;refine cE ?_;simp +contextual -implicitDefEqProofs (maxSteps:=10^7) only[go_sem,seval,↓gZ,Zcx];refine LO (α:=Nat) (fun y=>[(8,.d (J (y:Int)))]) (fun _=>[]) (fun y=>(y:Int)≤qH∧Zqm qF qW qH w h (qH.toNat+1-y) y=Zqm qF qW qH w h (qH.toNat+1) 0) (fun y=>qH.toNat+1-y) 0 ⟨by omega,by simp⟩ ?_;intro y ⟨hy,hp⟩ ih;obtain⟨n,hn⟩:∃ n,qH.toNat+1-y=n+1:=⟨qH.toNat-y,by omega⟩
 rw[hn,Zqm] at hp;have wy:=wi ((y:Int)+h) (by omega) (by omega);by_cases ad:(y:Int)+h≤qH
 ·rw[Kj ad] at hp;simp +contextual -implicitDefEqProofs (maxSteps:=10^7) only[go_sem,seval,↓gZ,wy,ad];refine Qw Xs Ms (st0:=?st1) (α:=Nat) (fun x=>[(9,.d (J (x:Int)))]) (fun _=>[]) (fun x=>(x:Int)≤qW∧Zql qF qW w h y (qW.toNat+1-x) x=Zql qF qW w h y (qW.toNat+1) 0) (fun x=>qW.toNat+1-x) 0 ?hc2 ⟨by omega,by simp⟩ ?h02 ?step2
  case hc2=>simp +contextual -implicitDefEqProofs (maxSteps:=10^7) only[go_sem,seval,↓gZ]<;>exact rfl
  case h02=>rfl
  case step2=>
   intro x ⟨hx,aa⟩ ak;obtain⟨m,hm⟩:∃ m,qW.toNat+1-x=m+1:=⟨qW.toNat-x,by omega⟩
   rw[hm,Zql] at aa;have wx:=wi ((x:Int)+w) (by omega) (by omega);have al:=Zh (k:=x) (by omega);have am:=Zh (k:=y) (by omega);by_cases ab:(x:Int)+w≤qW
   ·rw[Kj ab] at aa;have ec:=Zlg qL qW qH qF x y w h hF (by simp only[VB];omega) (by omega);by_cases ae:Z5 qF ⟨x,y,w,h⟩
    ·rw[Kj ae] at aa;rw[← aa] at hp;simp only at hp;rw[Kh ae] at ec;simp +contextual -implicitDefEqProofs (maxSteps:=10^7) only[go_sem,seval,↓gZ,wx,ab,ec];rw[← hp];rfl
    ·rw[Kg ae] at aa;rw[Ki ae] at ec;simp +contextual -implicitDefEqProofs (maxSteps:=10^7) only[go_sem,seval,↓gZ,wx,ab,ec,al];refine ak (x+1) _ ⟨by omega,?_⟩ (by omega) ?_
     ·rw[← aa];have:qW.toNat+1-(x+1)=m:=by omega
      rw[this];rfl
     ·simp +contextual -implicitDefEqProofs (maxSteps:=10^7) only[go_sem,seval,↓gZ]
   ·rw[Kg ab] at aa;rw[← aa] at hp;simp only at hp;simp +contextual -implicitDefEqProofs (maxSteps:=10^7) only[go_sem,seval,↓gZ,wx,ab,am];refine ih (y+1) _ ⟨by omega,?_⟩ (by omega) ?_
    ·rw[← hp];have:qH.toNat+1-(y+1)=n:=by omega
     rw[this];rfl
    ·simp +contextual -implicitDefEqProofs (maxSteps:=10^7) only[go_sem,seval,↓gZ]
 ·rw[Kg ad] at hp;simp +contextual -implicitDefEqProofs (maxSteps:=10^7) only[go_sem,seval,↓gZ,wy,ad];rw[← hp];rfl
def okP (p:Pane) (q:Zb):Bool:=(QY q p.W p.H).isSome || (p.Turns&&(QY q p.H p.W).isSome)
def ZeV (l:List Zb) (b:Int):Int:=match l[b.toNat]? with
 | some q=>q.W*q.H
 | none=>0
def Zbn (L:List Zb) (p:Pane):List Zb→Nat→Int→Int
 | [],_,b=>b
 | x :: r,i,b=>Zbn L p r (i+1) (if okP p x=true∧(b<0∨x.W*x.H<ZeV L b) then (i:Int) else b)
theorem ZnZ {L l:List Zb} {p:Pane} {k i:Nat} {x:Zb} {b:Int} (hx:l[k]?=some x):Zbn L p (l.drop k) i b=Zbn L p (l.drop (k+1)) (i+1) (if okP p x=true∧(b<0∨x.W*x.H<ZeV L b) then (i:Int) else b):=by
 obtain⟨h1,h2⟩:=Kc.1 hx;rw[Ks h1,h2,Zbn]
theorem Zqn {L l:List Zb} {p:Pane} {i:Nat} {b:Int}:Zbn L p (l.drop l.length) i b=b:=by simp[Zbn]
def Zdf (L:List Zb) (p:Pane):Int:=Zbn L p L 0 (-1)
def Zs7 (L:List Zb) (p:Pane):Int:=if VSt L∧VP p then (if Zdf L p<0 then 0 else match L[(Zdf L p).toNat]? with
 | some q=>q.Label
 | none=>0) else 0
theorem Zs8 (L:List Zb) (p:Pane):∀ (l:List Zb) (i:Nat) (b:Int),(∀ (j:Nat) (x:Zb),l[j]?=some x→L[i+j]?=some x)→(b<0∨∃ (j:Nat) (x:Zb),b=(j:Int)∧L[j]?=some x∧okP p x=true)→Zbn L p l i b<0∨∃ (j:Nat) (x:Zb),Zbn L p l i b=(j:Int)∧L[j]?=some x∧okP p x=true
 | [],i,b,_,hb=>hb
 | x :: r,i,b,hl,hb=>by
  unfold Zbn;refine Zs8 L p r (i+1) _ (fun j y hy=>by have:=hl (j+1) y (by simpa using hy);rw[show i+1+j=i+(j+1) by omega];exact this) ?_;split
  ·rename_i hc;exact .inr ⟨i,x,rfl,by have:=hl 0 x (by simp);simpa using this,hc.1⟩
  ·exact hb
theorem Zqo (L:List Zb) (p:Pane):Zdf L p<0∨∃ (j:Nat) (x:Zb),Zdf L p=(j:Int)∧L[j]?=some x∧okP p x=true:=
 Zs8 L p L 0 (-1) (fun j x h=>by simpa using h) (.inl (by omega))
theorem Zqp (l:List Zb) (pW pH:Int) (pT:Bool) (pK:Int) (hv:VSt l) (hp:VP (Pane.mk pW pH pT pK)):Zd Xs Ms Ug [(.d (.sl (l.map Zb.enc))),(.d (.agg [J pW,J pH,.bool pT,J pK]))] []=some ((.d (J (Zs7 l (Pane.mk pW pH pT pK)))),[]):=by
 have e1:=UA l (by have:=hv.1;omega) (fun x hx=>⟨by have:=(ZbU hv).2 x hx;omega,Zln (Z0 hv.2 x hx)⟩);have e2:=Zb3 pW pH pT pK;rw[Kh hv] at e1;rw[Kh hp] at e2;have ad:=fun x hx=>Z0 hv.2 x hx;have aj:=hv.1;unfold Zs7;rw[Kj ⟨hv,hp⟩];have ae:1≤pW∧pW≤200∧1≤pH∧pH≤200:=⟨hp.1,hp.2.1,hp.2.2.1,hp.2.2.2.1⟩
 clear hv hp;refine cE ?_;simp +contextual -implicitDefEqProofs (maxSteps:=10^7) only[go_sem,seval,↓gZ,ZdO,e1,e2];refine LO (α:=Nat×Int) (fun s=>[(6,.d (J (s.1:Int))),(5,.d (J s.2))]) (fun _=>[]) (fun s=>s.1≤l.length∧Zbn l (Pane.mk pW pH pT pK) (l.drop s.1) s.1 s.2=Zdf l (Pane.mk pW pH pT pK)∧(s.2=-1∨∃ j:Nat,s.2=(j:Int)∧j<l.length)) (fun s=>l.length-s.1) (0,-1) ⟨by simp,by simp[Zdf],.inl rfl⟩ ?_;intro⟨i,b⟩ ⟨hi,hq,hb⟩ ih;simp only at hi hq hb;by_cases ab:i<l.length
 ·obtain⟨x,hx⟩:=Zo ab;have hw:=Zh (k:=i) (by omega);rw[ZnZ hx] at hq;have ag:=ad x (Kb hx);have f1:=UB x.Label x.W x.H x.Flaws pW pH ag ⟨ae.1,ae.2.1⟩ ae.2.2;have f2:=UB x.Label x.W x.H x.Flaws pH pW ag ae.2.2 ⟨ae.1,ae.2.1⟩;have am:=ag.1;have ak:0≤x.W*x.H∧x.W*x.H≤40000:=J4 (b:=⟨0,0,x.W,x.H⟩) (by simp only[VB];omega);have aa:okP (Pane.mk pW pH pT pK) x=((QY ⟨x.Label,x.W,x.H,x.Flaws⟩ pW pH).isSome || (pT&&(QY ⟨x.Label,x.W,x.H,x.Flaws⟩ pH pW).isSome)):=rfl;obtain⟨L,W,H,F⟩:=x;simp only at f1 f2 ak aa;have u1:=wi (W*H) (by omega) (by omega);cases h1:QY ⟨L,W,H,F⟩ pW pH with
  | some b1=>
   rw[h1] at f1 aa;unfold fcV at f1;simp only[Lm,Bool.true_or] at aa;obtain⟨bX,bY,bW,bH⟩:=b1;rcases hb with hb | ⟨j,hb,hj⟩
   ·subst hb;rw[Kj ⟨aa,.inl (by omega)⟩] at hq;simp +contextual -implicitDefEqProofs (maxSteps:=10^7) only[go_sem,seval,↓gZ,hx,ab,hw,f1];refine ih (i+1,(i:Int)) _ ⟨by simp only;omega,hq,.inr ⟨i,rfl,ab⟩⟩ (by simp only;omega) ?_;simp +contextual -implicitDefEqProofs (maxSteps:=10^7) only[go_sem,seval,↓gZ]
   ·subst hb;obtain⟨y,hy⟩:=Zo hj;have al:=(ad y (Kb hy)).1;have ah:0≤y.W*y.H∧y.W*y.H≤40000:=J4 (b:=⟨0,0,y.W,y.H⟩) (by simp only[VB];omega);have af:¬(j:Int)<0:=by omega
    have ai:ZeV l (j:Int)=y.W*y.H:=by unfold ZeV;rw[Kz,hy]
    rw[ai] at hq;obtain⟨yL,yW,yH,yF⟩:=y;simp only at ah hq;have u2:=wi (yW*yH) (by omega) (by omega);by_cases hc:W*H<yW*yH
    ·rw[Kj ⟨aa,.inr hc⟩] at hq;simp +contextual -implicitDefEqProofs (maxSteps:=10^7) only[go_sem,seval,↓gZ,hx,ab,hw,af,hj,hy,u1,u2,hc,f1];refine ih (i+1,(i:Int)) _ ⟨by simp only;omega,hq,.inr ⟨i,rfl,ab⟩⟩ (by simp only;omega) ?_;simp +contextual -implicitDefEqProofs (maxSteps:=10^7) only[go_sem,seval,↓gZ]
    ·rw[Kg (fun h=>by rcases h.2 with h | h<;>omega)] at hq;simp +contextual -implicitDefEqProofs (maxSteps:=10^7) only[go_sem,seval,↓gZ,hx,ab,hw,af,hj,hy,u1,u2,hc,f1];refine ih (i+1,(j:Int)) _ ⟨by simp only;omega,hq,.inr ⟨j,rfl,hj⟩⟩ (by simp only;omega) ?_;simp +contextual -implicitDefEqProofs (maxSteps:=10^7) only[go_sem,seval,↓gZ]
  | none=>
   rw[h1] at f1 aa;unfold fcV at f1;cases pT with
   | false=>
    simp only[KQ,Bool.false_and,Bool.or_self] at aa;rw[Kg (fun h=>by rw[aa] at h;exact absurd h.1 (by simp))] at hq;simp +contextual -implicitDefEqProofs (maxSteps:=10^7) only[go_sem,seval,↓gZ,hx,ab,hw,f1];refine ih (i+1,b) _ ⟨by simp only;omega,hq,hb⟩ (by simp only;omega) ?_;simp +contextual -implicitDefEqProofs (maxSteps:=10^7) only[go_sem,seval,↓gZ]
   | true=>
    cases h2:QY ⟨L,W,H,F⟩ pH pW with
    | none=>
     rw[h2] at f2 aa;unfold fcV at f2;simp only[KQ,Kaf,Bool.or_self] at aa;rw[Kg (fun h=>by rw[aa] at h;exact absurd h.1 (by simp))] at hq;simp +contextual -implicitDefEqProofs (maxSteps:=10^7) only[go_sem,seval,↓gZ,hx,ab,hw,f1,f2];refine ih (i+1,b) _ ⟨by simp only;omega,hq,hb⟩ (by simp only;omega) ?_;simp +contextual -implicitDefEqProofs (maxSteps:=10^7) only[go_sem,seval,↓gZ]
    | some b2=>
     rw[h2] at f2 aa;unfold fcV at f2;simp only[Lm,KQ,Kaf,LN] at aa;obtain⟨bX,bY,bW,bH⟩:=b2;rcases hb with hb | ⟨j,hb,hj⟩
     ·subst hb;rw[Kj ⟨aa,.inl (by omega)⟩] at hq;simp +contextual -implicitDefEqProofs (maxSteps:=10^7) only[go_sem,seval,↓gZ,hx,ab,hw,f1,f2];refine ih (i+1,(i:Int)) _ ⟨by simp only;omega,hq,.inr ⟨i,rfl,ab⟩⟩ (by simp only;omega) ?_;simp +contextual -implicitDefEqProofs (maxSteps:=10^7) only[go_sem,seval,↓gZ]
     ·subst hb;obtain⟨y,hy⟩:=Zo hj;have al:=(ad y (Kb hy)).1;have ah:0≤y.W*y.H∧y.W*y.H≤40000:=J4 (b:=⟨0,0,y.W,y.H⟩) (by simp only[VB];omega);have af:¬(j:Int)<0:=by omega
      have ai:ZeV l (j:Int)=y.W*y.H:=by unfold ZeV;rw[Kz,hy]
      rw[ai] at hq;obtain⟨yL,yW,yH,yF⟩:=y;simp only at ah hq;have u2:=wi (yW*yH) (by omega) (by omega);by_cases hc:W*H<yW*yH
      ·rw[Kj ⟨aa,.inr hc⟩] at hq;simp +contextual -implicitDefEqProofs (maxSteps:=10^7) only[go_sem,seval,↓gZ,hx,ab,hw,af,hj,hy,u1,u2,hc,f1,f2];refine ih (i+1,(i:Int)) _ ⟨by simp only;omega,hq,.inr ⟨i,rfl,ab⟩⟩ (by simp only;omega) ?_;simp +contextual -implicitDefEqProofs (maxSteps:=10^7) only[go_sem,seval,↓gZ]
      ·rw[Kg (fun h=>by rcases h.2 with h | h<;>omega)] at hq;simp +contextual -implicitDefEqProofs (maxSteps:=10^7) only[go_sem,seval,↓gZ,hx,ab,hw,af,hj,hy,u1,u2,hc,f1,f2];refine ih (i+1,(j:Int)) _ ⟨by simp only;omega,hq,.inr ⟨j,rfl,hj⟩⟩ (by simp only;omega) ?_;simp +contextual -implicitDefEqProofs (maxSteps:=10^7) only[go_sem,seval,↓gZ]
 ·have:i=l.length:=by omega
  subst this;rw[Zqn] at hq;subst hq;rcases hb with hb | ⟨j,hb,hj⟩
  ·have h0:Zdf l (Pane.mk pW pH pT pK)<0:=by omega
   simp +contextual -implicitDefEqProofs (maxSteps:=10^7) only[go_sem,seval,↓gZ,hb]
  ·have h0:¬Zdf l (Pane.mk pW pH pT pK)<0:=by omega
   have h1:¬(j:Int)<0:=by omega
   obtain⟨y,hy⟩:=Zo hj;simp only[hb,Kg h1,Kz,hy];obtain⟨yL,yW,yH,yF⟩:=y;simp +contextual -implicitDefEqProofs (maxSteps:=10^7) only[go_sem,seval,↓gZ,h1,hj,hy]
def Vc (lo hi fr to:Int):List Int:=(if fr<lo∧lo<to then [lo] else [])++(if fr<hi∧hi<to then [hi] else [])
theorem Zza {lo hi fr to x:Int} (h:x∈Vc lo hi fr to):x<to:=by
 unfold Vc at h;rcases Ke.1 h with h | h
 ·split at h
  ·simp at h;omega
  ·simp at h
 ·split at h
  ·simp at h;omega
  ·simp at h
theorem Zm4 (lo hi fr to:Int):(Vc lo hi fr to).length≤2:=by
 unfold Vc;split<;>split<;>simp
theorem Zzb {lo hi fr t:Int} (hl:lo<hi) (hf:fr<t) (h:t=lo∨t=hi):Vc lo hi fr (t+1)=Vc lo hi fr t++[t]:=by
 unfold Vc;rcases h with h | h
 ·rw[Kj (show fr<lo∧lo<t+1 by omega),Kg (show ¬(fr<hi∧hi<t+1) by omega),Kg (show ¬(fr<lo∧lo<t) by omega),Kg (show ¬(fr<hi∧hi<t) by omega),h];rfl
 ·rw[Kj (show fr<hi∧hi<t+1 by omega),Kg (show ¬(fr<hi∧hi<t) by omega)];by_cases h2:fr<lo
  ·rw[Kj (show fr<lo∧lo<t+1 by omega),Kj (show fr<lo∧lo<t by omega),h];rfl
  ·rw[Kg (show ¬(fr<lo∧lo<t+1) by omega),Kg (show ¬(fr<lo∧lo<t) by omega),h];rfl
theorem ZAy {lo hi fr t:Int} (h:¬(t=lo∨t=hi)):Vc lo hi fr (t+1)=Vc lo hi fr t:=by
 unfold Vc;have h1:(fr<lo∧lo<t+1)=(fr<lo∧lo<t):=propext (by omega);have h2:(fr<hi∧hi<t+1)=(fr<hi∧hi<t):=propext (by omega);simp only[h1,h2]
theorem Zlq:∀ (l:List Int) (k:Nat) (n:Int),n∉l→Xk k l n=-1
 | [],_,_,_=>rfl
 | x :: l,k,n,h=>by
  simp only[Kf,not_or] at h;unfold Xk;rw[Kg (fun e=>h.1 e.symm),Zlq l (k+1) n h.2]
theorem Zqq (cP:Int) (cT:Bool) (cX cY cW cH:Int) (op lo n fr to:Int) (ho:(op=2∧lo=cX∧n=cW)∨(op=3∧lo=cY∧n=cH)) (hc:0≤cX∧cX≤1000∧0≤cY∧cY≤1000∧1≤cW∧cW≤1000∧1≤cH∧cH≤1000) (h0:0≤fr) (h1:fr<to) (h2:to≤1000):Zd Xs Ms ZbW [.d (.sl [.agg [J cP,.bool cT,J cX,J cY,J cW,J cH]]),(.d (J op)),(.d (J fr)),(.d (J to))] []=some (.own 0,[.row 1 ((Vc lo (lo+n) fr to).map ZcM) true false]):=by
 have w0:=wi (fr+1) (by omega) (by omega);have wx:=wi (cX+cW) (by omega) (by omega);have wy:=wi (cY+cH) (by omega) (by omega);have hn:lo<lo+n:=by omega
 have ae:Vc lo (lo+n) fr (fr+1)=[]:=by unfold Vc;rw[Kg (by omega),Kg (by omega)];rfl
 refine cE ?_;simp +contextual -implicitDefEqProofs (maxSteps:=10^7) only[go_sem,seval,↓gZ,Ziz,w0];refine Qw Xs Ms (st0:=?st0) (α:=Int) (fun t=>[(10,.d (J t))]) (fun t=>[(0,.row 1 ((Vc lo (lo+n) fr t).map ZcM) true false)]) (fun t=>fr+1≤t∧t≤to) (fun t=>(to-t).toNat) (fr+1) ?hc (by omega) ?h0 ?step
 case hc=>simp +contextual -implicitDefEqProofs (maxSteps:=10^7) only[go_sem,seval,↓gZ]<;>exact rfl
 case h0=>rw[ae];rfl
 case step=>
  intro t ⟨ag,ah⟩ ih;by_cases ab:t<to
  ·have wt:=wi (t+1) (by omega) (by omega);have ai:=Zm4 lo (lo+n) fr t;have hr:((Vc lo (lo+n) fr t).length+1)*8≤140737488355328∧(Vc lo (lo+n) fr t).length≤140737488355327:=by omega
   have ad:=Zk3 (Vc lo (lo+n) fr t) t (by omega);rw[Zlq _ _ _ (fun h=>by have:=Zza h;omega)] at ad;by_cases hm:t=lo∨t=lo+n
   ·have hy:=Zzb hn (show fr<t by omega) hm;have af:(1:Int)+0=1:=rfl;rcases ho with ⟨o1,o2,o3⟩ | ⟨o1,o2,o3⟩
    ·have aa : (t=cX∨t=cX+cW):=by omega
     simp +contextual -implicitDefEqProofs (maxSteps:=10^7) only[go_sem,seval,↓gZ,ab];refine ZP Xs Ms ?_;simp +contextual -implicitDefEqProofs (maxSteps:=10^7) only[go_sem,seval,↓gZ,wx,o1,aa,ad,hr,← KZ];refine ZP Xs Ms ?_;simp +contextual -implicitDefEqProofs (maxSteps:=10^7) only[go_sem,seval,↓gZ,wt];refine ih (t+1) _ (by omega) (by omega) ?_;simp +contextual -implicitDefEqProofs (maxSteps:=10^7) only[go_sem,seval,↓gZ,hy,o1,KU,Ko,KM]
    ·have aa : (t=cY∨t=cY+cH):=by omega
     simp +contextual -implicitDefEqProofs (maxSteps:=10^7) only[go_sem,seval,↓gZ,ab];refine ZP Xs Ms ?_;simp +contextual -implicitDefEqProofs (maxSteps:=10^7) only[go_sem,seval,↓gZ,wx,wy,o1,aa,ad,hr,← KZ];refine ZP Xs Ms ?_;simp +contextual -implicitDefEqProofs (maxSteps:=10^7) only[go_sem,seval,↓gZ,wt];refine ih (t+1) _ (by omega) (by omega) ?_;simp +contextual -implicitDefEqProofs (maxSteps:=10^7) only[go_sem,seval,↓gZ,hy,o1,KU,Ko,KM]
   ·have hy:=ZAy (fr:=fr) hm;rcases ho with ⟨o1,o2,o3⟩ | ⟨o1,o2,o3⟩
    ·have aa : ¬(t=cX∨t=cX+cW):=by omega
     simp +contextual -implicitDefEqProofs (maxSteps:=10^7) only[go_sem,seval,↓gZ,ab];refine ZP Xs Ms ?_;simp +contextual -implicitDefEqProofs (maxSteps:=10^7) only[go_sem,seval,↓gZ,wx,o1,aa,← KZ];refine ZP Xs Ms ?_;simp +contextual -implicitDefEqProofs (maxSteps:=10^7) only[go_sem,seval,↓gZ,wt];refine ih (t+1) _ (by omega) (by omega) ?_;simp +contextual -implicitDefEqProofs (maxSteps:=10^7) only[go_sem,seval,↓gZ,hy,o1]
    ·have aa : ¬(t=cY∨t=cY+cH):=by omega
     simp +contextual -implicitDefEqProofs (maxSteps:=10^7) only[go_sem,seval,↓gZ,ab];refine ZP Xs Ms ?_;simp +contextual -implicitDefEqProofs (maxSteps:=10^7) only[go_sem,seval,↓gZ,wx,wy,o1,aa,← KZ];refine ZP Xs Ms ?_;simp +contextual -implicitDefEqProofs (maxSteps:=10^7) only[go_sem,seval,↓gZ,wt];refine ih (t+1) _ (by omega) (by omega) ?_;simp +contextual -implicitDefEqProofs (maxSteps:=10^7) only[go_sem,seval,↓gZ,hy,o1]
  ·have:t=to:=by omega
   subst this;simp +contextual -implicitDefEqProofs (maxSteps:=10^7) only[go_sem,seval,↓gZ]
theorem Ziw (cP:Int) (cT:Bool) (cX cY cW cH:Int) (op lo n t:Int) (f:Bool) (ho:(op=2∧lo=cX∧n=cW)∨(op=3∧lo=cY∧n=cH)) (hc:0≤cX∧cX≤1000∧0≤cY∧cY≤1000∧1≤cW∧cW≤1000∧1≤cH∧cH≤1000) (hn:¬(lo<t∧t<lo+n)):Zd Xs Ms Zck [.d (.sl [.agg [J cP,.bool cT,J cX,J cY,J cW,J cH]]),(.d (J op)),(.d (J t)),(.d (.bool f))] [] =
  some (.tup [.own 0,(.d (.bool true))],[.row 6 (if f=decide (lo+n≤t) then [.agg [J cP,.bool cT,J cX,J cY,J cW,J cH]] else []) true false]):=by
 have wx:=wi (cX+cW) (by omega) (by omega);have wy:=wi (cY+cH) (by omega) (by omega);have bb:∀ a b:Bool,Znu .eql true (.d (.bool a)) (.d (.bool b))=QJ (.d (.bool (a==b))):=fun _ _=>rfl;refine cE ?_;rcases ho with ⟨o1,o2,o3⟩ | ⟨o1,o2,o3⟩
 ·have aa : ¬(cX<t∧t<cX+cW):=by omega
  have he:(lo+n≤t)=(cX+cW≤t):=propext (by omega);simp only[he];simp +contextual -implicitDefEqProofs (maxSteps:=10^7) only[go_sem,seval,↓gZ,Zg6];refine ZP Xs Ms ?_;by_cases hf:f=decide (cX+cW≤t)
  ·have hg:(f==decide (cX+cW≤t))=true:=by rw[hf];simp
   rw[Kj hf];simp +contextual -implicitDefEqProofs (maxSteps:=10^7) only[go_sem,seval,↓gZ,wx,o1,aa,bb,hg,← KV];refine ZP Xs Ms ?_;simp +contextual -implicitDefEqProofs (maxSteps:=10^7) only[go_sem,seval,↓gZ]
  ·have hg:(f==decide (cX+cW≤t))=false:=by simpa using hf
   rw[Kg hf];simp +contextual -implicitDefEqProofs (maxSteps:=10^7) only[go_sem,seval,↓gZ,wx,o1,aa,bb,hg,← KV];refine ZP Xs Ms ?_;simp +contextual -implicitDefEqProofs (maxSteps:=10^7) only[go_sem,seval,↓gZ]
 ·have aa : ¬(cY<t∧t<cY+cH):=by omega
  have he:(lo+n≤t)=(cY+cH≤t):=propext (by omega);simp only[he];simp +contextual -implicitDefEqProofs (maxSteps:=10^7) only[go_sem,seval,↓gZ,Zg6];refine ZP Xs Ms ?_;by_cases hf:f=decide (cY+cH≤t)
  ·have hg:(f==decide (cY+cH≤t))=true:=by rw[hf];simp
   rw[Kj hf];simp +contextual -implicitDefEqProofs (maxSteps:=10^7) only[go_sem,seval,↓gZ,wx,wy,o1,aa,bb,hg,← KV];refine ZP Xs Ms ?_;simp +contextual -implicitDefEqProofs (maxSteps:=10^7) only[go_sem,seval,↓gZ]
  ·have hg:(f==decide (cY+cH≤t))=false:=by simpa using hf
   rw[Kg hf];simp +contextual -implicitDefEqProofs (maxSteps:=10^7) only[go_sem,seval,↓gZ,wx,wy,o1,aa,bb,hg,← KV];refine ZP Xs Ms ?_;simp +contextual -implicitDefEqProofs (maxSteps:=10^7) only[go_sem,seval,↓gZ]
def Ji:Ze→AV×List Zn
 | .mk o a q t ks=>(.tup [.agg [(.d (J o)),(.d (J a)),(.d (J q)),(.d (.bool t)),.own 0],(.d (.bool true))],[.row 5 (ks.map Ze.enc) true false])
theorem ZaO (bX bY bW bH:Int):Zd Xs Ms Z3 [.d (.sl []),(.d (.agg [J bX,J bY,J bW,J bH]))] []=some (Ji BT.waste.plan):=by
 simp only[BT.plan,Ji];refine cE ?_;simp +contextual -implicitDefEqProofs (maxSteps:=10^7) only[go_sem,seval,↓gZ,Yw]
theorem ZgR (cP:Int) (cT:Bool) (cX cY cW cH:Int):Zd Xs Ms Z3 [.d (.sl [.agg [J cP,.bool cT,J cX,J cY,J cW,J cH]]),.d (.agg [J cX,J cY,J cW,J cH])] []=some (Ji (BT.pane cP cT).plan):=by
 simp only[BT.plan,Ji];refine cE ?_;simp +contextual -implicitDefEqProofs (maxSteps:=10^7) only[go_sem,seval,↓gZ,Yw]
theorem Jj (A B:List D) (bX bY bW bH:Int) (d:Bool) (a:Int) (l r:BT) (hA:uni 6 A) (hB:uni 6 B) (h1:R64 (bX+a)) (h2:R64 (bY+a)) (h3:R64 (bW-a)) (h4:R64 (bH-a))
  (hl:Zd Xs Ms Z3 [.d (.sl A),if d then .d (.agg [J bX,J bY,J a,J bH]) else .d (.agg [J bX,J bY,J bW,J a])] []=some (Ji l.plan))
  (hr:Zd Xs Ms Z3 [.d (.sl B),if d then .d (.agg [J (bX+a),J bY,J (bW-a),J bH]) else .d (.agg [J bX,J (bY+a),J bW,J (bH-a)])] []=some (Ji r.plan)) :
  Zd Xs Ms X5 [.d (.sl A),.d (.sl B),(.d (.agg [J bX,J bY,J bW,J bH])),(.d (J (Ql d))),(.d (J a))] []=some (Ji (BT.cut d a l r).plan):=by
 have w1:=wi (bX+a) h1.1 h1.2;have w2:=wi (bY+a) h2.1 h2.2;have w3:=wi (bW-a) h3.1 h3.2;have w4:=wi (bH-a) h4.1 h4.2;obtain⟨lo,la,lq,lt,lk,el⟩:∃ o a q t ks,l.plan=.mk o a q t ks:=by cases l.plan;exact⟨_,_,_,_,_,rfl⟩
 obtain⟨ro,ra,rq,rt,rk,er⟩:∃ o a q t ks,r.plan=.mk o a q t ks:=by cases r.plan;exact⟨_,_,_,_,_,rfl⟩
 rw[el] at hl;rw[er] at hr;simp only[BT.plan,el,er,Ji] at hl hr ⊢;cases d with
 | true=>
  simp only[Km,Ql] at hl hr ⊢;refine cE ?_;simp +contextual -implicitDefEqProofs (maxSteps:=10^7) only[go_sem,seval,↓gZ,QD,w1,w3,hl,hr,hA,hB]
 | false=>
  simp only[Ka,Kk,Ql] at hl hr ⊢;refine cE ?_;simp +contextual -implicitDefEqProofs (maxSteps:=10^7) only[go_sem,seval,↓gZ,QD,w1,w2,w3,w4,hl,hr,hA,hB]
theorem Jk (cP:Int) (cT:Bool) (cX cY cW cH:Int) (bX bY bW bH:Int) (d:Bool) (x:Int) (r:List Int) (P:Ze) (hc:0≤cX∧cX≤1000∧0≤cY∧cY≤1000∧1≤cW∧cW≤1000∧1≤cH∧cH≤1000) (hb:0≤bX∧0≤bY∧1≤bW∧1≤bH∧bX+bW≤1000∧bY+bH≤1000) (ad:¬(cX=bX∧cY=bY∧cW=bW∧cH=bH))
  (h2:d=false→Vc cX (cX+cW) bX (bX+bW)=[])
  (he:(if d then Vc cX (cX+cW) bX (bX+bW) else Vc cY (cY+cH) bY (bY+bH))=x :: r)
  (hn:if d then ¬(cX<x∧x<cX+cW) else ¬(cY<x∧x<cY+cH)) (hx:if d then bX<x∧x<bX+bW else bY<x∧x<bY+bH)
  (hp:Zd Xs Ms X5 [.d (.sl (if true=decide ((if d then cX+cW else cY+cH)≤x) then [.agg [J cP,.bool cT,J cX,J cY,J cW,J cH]] else [])),.d (.sl (if false=decide ((if d then cX+cW else cY+cH)≤x) then [.agg [J cP,.bool cT,J cX,J cY,J cW,J cH]] else [])),(.d (.agg [J bX,J bY,J bW,J bH])),(.d (J (Ql d))),(.d (J (x-(if d then bX else bY))))] []=some (Ji P)) :
  Zd Xs Ms Z3 [.d (.sl [.agg [J cP,.bool cT,J cX,J cY,J cW,J cH]]),(.d (.agg [J bX,J bY,J bW,J bH]))] []=some (Ji P):=by
 have w1:=wi (bX+bW) (by omega) (by omega);have w2:=wi (bY+bH) (by omega) (by omega);have c2:(0:Int)<((2:Nat):Int):=by omega
 obtain⟨o,a,q,t,ks⟩:=P;simp only[Ji] at hp ⊢;have e2:=Zqq cP cT cX cY cW cH 2 cX cW bX (bX+bW) (.inl ⟨rfl,rfl,rfl⟩) hc hb.1 (by omega) (by omega);have e3:=Zqq cP cT cX cY cW cH 3 cY cH bY (bY+bH) (.inr ⟨rfl,rfl,rfl⟩) hc hb.2.1 (by omega) (by omega);have ae:r=[]∨∃ y,r=[y]:=by
  have h1:(x :: r).length≤2:=by
   rw[← he];cases d
   ·exact Zm4 _ _ _ _
   ·exact Zm4 _ _ _ _
  match r,h1 with
  | [],_=>exact .inl rfl
  | [y],_=>exact .inr ⟨y,rfl⟩
  | y :: z :: r,h1=>simp at h1
 cases d with
 | true=>
  simp only[Km,Ql] at he hn hx hp;rw[he] at e2;have w3:=wi (x-bX) (by omega) (by omega);have p1:=Ziw cP cT cX cY cW cH 2 cX cW x true (.inl ⟨rfl,rfl,rfl⟩) hc hn;have p2:=Ziw cP cT cX cY cW cH 2 cX cW x false (.inl ⟨rfl,rfl,rfl⟩) hc hn;generalize aa:(if true=decide (cX+cW≤x) then [D.agg [J cP,.bool cT,J cX,J cY,J cW,J cH]] else [])=A at p1 hp;have hA:uni 6 A:=by rw[← aa];split<;>simp[uni,D.cells]
  generalize ab:(if false=decide (cX+cW≤x) then [D.agg [J cP,.bool cT,J cX,J cY,J cW,J cH]] else [])=B at p2 hp;have hB:uni 6 B:=by rw[← ab];split<;>simp[uni,D.cells]
  refine cE ?_;simp +contextual -implicitDefEqProofs (maxSteps:=10^7) only[go_sem,seval,↓gZ,Yw,ad,← KV];refine ZP Xs Ms ?_;rcases ae with rfl | ⟨y,rfl⟩
  ·simp only[Ko,KM,ZcM] at e2;simp +contextual -implicitDefEqProofs (maxSteps:=10^7) only[go_sem,seval,↓gZ,w1,e2];refine ZP Xs Ms ?_;simp +contextual -implicitDefEqProofs (maxSteps:=10^7) only[go_sem,seval,↓gZ,p1,p2,w3,hp,hA,hB,c2]
  ·simp only[Ko,KM,ZcM] at e2;simp +contextual -implicitDefEqProofs (maxSteps:=10^7) only[go_sem,seval,↓gZ,w1,e2];refine ZP Xs Ms ?_;simp +contextual -implicitDefEqProofs (maxSteps:=10^7) only[go_sem,seval,↓gZ,p1,p2,w3,hp,hA,hB,c2]
 | false=>
  simp only[Ka,Kk,Ql] at he hn hx hp;rw[h2 rfl] at e2;rw[he] at e3;simp only[KM] at e2;have w3:=wi (x-bY) (by omega) (by omega);have p1:=Ziw cP cT cX cY cW cH 3 cY cH x true (.inr ⟨rfl,rfl,rfl⟩) hc hn;have p2:=Ziw cP cT cX cY cW cH 3 cY cH x false (.inr ⟨rfl,rfl,rfl⟩) hc hn;generalize aa:(if true=decide (cY+cH≤x) then [D.agg [J cP,.bool cT,J cX,J cY,J cW,J cH]] else [])=A at p1 hp;have hA:uni 6 A:=by rw[← aa];split<;>simp[uni,D.cells]
  generalize ab:(if false=decide (cY+cH≤x) then [D.agg [J cP,.bool cT,J cX,J cY,J cW,J cH]] else [])=B at p2 hp;have hB:uni 6 B:=by rw[← ab];split<;>simp[uni,D.cells]
  refine cE ?_;simp +contextual -implicitDefEqProofs (maxSteps:=10^7) only[go_sem,seval,↓gZ,Yw,ad,← KV];refine ZP Xs Ms ?_;simp +contextual -implicitDefEqProofs (maxSteps:=10^7) only[go_sem,seval,↓gZ,w1,e2];refine ZP Xs Ms ?_;simp +contextual -implicitDefEqProofs (maxSteps:=10^7) only[go_sem,seval,↓gZ];refine ZP Xs Ms ?_;rcases ae with rfl | ⟨y,rfl⟩
  ·simp only[Ko,KM,ZcM] at e3;simp +contextual -implicitDefEqProofs (maxSteps:=10^7) only[go_sem,seval,↓gZ,w1,w2,e3];refine ZP Xs Ms ?_;simp +contextual -implicitDefEqProofs (maxSteps:=10^7) only[go_sem,seval,↓gZ,p1,p2,w3,hp,hA,hB,c2]
  ·simp only[Ko,KM,ZcM] at e3;simp +contextual -implicitDefEqProofs (maxSteps:=10^7) only[go_sem,seval,↓gZ,w1,w2,e3];refine ZP Xs Ms ?_;simp +contextual -implicitDefEqProofs (maxSteps:=10^7) only[go_sem,seval,↓gZ,p1,p2,w3,hp,hA,hB,c2]
def Qs (i:Int) (t:Bool) (X Y W H bX bY bW bH:Int):BT:=
 let t4:=if Y+H<bY+bH then BT.cut false H (.pane i t) .waste else .pane i t
 let t3:=if bY<Y then BT.cut false (Y-bY) .waste t4 else t4
 let t2:=if X+W<bX+bW then BT.cut true W t3 .waste else t3
 if bX<X then BT.cut true (X-bX) .waste t2 else t2
def Zcd (X Y W H bX bY bW bH:Int):Prop:=0≤bX∧bX≤X∧0≤bY∧bY≤Y∧1≤W∧1≤H∧X+W≤bX+bW∧Y+H≤bY+bH∧bX+bW≤1000∧bY+bH≤1000
theorem ZgS (cP:Int) (cT:Bool) (cX cY cW cH:Int) (bH:Int) (h:Zcd cX cY cW cH cX cY cW bH):Zd Xs Ms Z3 [.d (.sl [.agg [J cP,.bool cT,J cX,J cY,J cW,J cH]]),.d (.agg [J cX,J cY,J cW,J bH])] []=some (Ji (Qs cP cT cX cY cW cH cX cY cW bH).plan):=by
 have hh:=h;unfold Zcd at h;unfold Qs;rw[Kg (show ¬cX<cX by omega),Kg (show ¬cX+cW<cX+cW by omega),Kg (show ¬cY<cY by omega)];by_cases hl:cY+cH<cY+bH
 ·rw[Kj hl];have hb:=Jj [D.agg [J cP,.bool cT,J cX,J cY,J cW,J cH]] [] cX cY cW bH false cH (.pane cP cT) .waste (by simp[uni,D.cells]) (by simp[uni]) (by unfold R64;omega) (by unfold R64;omega) (by unfold R64;omega) (by unfold R64;omega) (ZgR _ _ _ _ _ _) (ZaO _ _ _ _);refine Jk cP cT cX cY cW cH cX cY cW bH false (cY+cH) [] _ (by omega) (by omega) (by omega) (fun _=>?_) ?_ ?_ ?_ ?_
  ·unfold Vc;rw[Kg (by omega),Kg (by omega)];rfl
  ·simp only[Ka,Kk];unfold Vc;rw[Kg (by omega),Kj (by omega)];rfl
  ·simp only[Ka,Kk];omega
  ·simp only[Ka,Kk];omega
  ·simp only[Ka,Kk,Kam,decide_true,Km];rw[show cY+cH-cY=cH by omega];exact hb
 ·rw[Kg hl];have:bH=cH:=by omega
  subst this;exact ZgR _ _ _ _ _ _
theorem ZgT (cP:Int) (cT:Bool) (cX cY cW cH:Int) (bY bH:Int) (h:Zcd cX cY cW cH cX bY cW bH):Zd Xs Ms Z3 [.d (.sl [.agg [J cP,.bool cT,J cX,J cY,J cW,J cH]]),.d (.agg [J cX,J bY,J cW,J bH])] []=some (Ji (Qs cP cT cX cY cW cH cX bY cW bH).plan):=by
 by_cases hl:bY<cY
 ·have h4:=ZgS cP cT cX cY cW cH (bY+bH-cY) (by unfold Zcd at h ⊢;omega);unfold Zcd at h;have e:Qs cP cT cX cY cW cH cX bY cW bH=.cut false (cY-bY) .waste (Qs cP cT cX cY cW cH cX cY cW (bY+bH-cY)):=by
   unfold Qs;rw[Kg (show ¬cX<cX by omega),Kg (show ¬cX+cW<cX+cW by omega),Kj hl,Kg (show ¬cX<cX by omega),Kg (show ¬cX+cW<cX+cW by omega),Kg (show ¬cY<cY by omega),show cY+(bY+bH-cY)=bY+bH by omega]
  rw[e];generalize Qs cP cT cX cY cW cH cX cY cW (bY+bH-cY)=Q at h4 ⊢;have hb:=Jj [] [D.agg [J cP,.bool cT,J cX,J cY,J cW,J cH]] cX bY cW bH false (cY-bY) .waste Q (by simp[uni]) (by simp[uni,D.cells]) (by unfold R64;omega) (by unfold R64;omega) (by unfold R64;omega) (by unfold R64;omega) (ZaO _ _ _ _) (by
   simp only[Ka,Kk];rw[show bY+(cY-bY)=cY by omega,show bH-(cY-bY)=bY+bH-cY by omega];exact h4)
  refine Jk cP cT cX cY cW cH cX bY cW bH false cY (if cY+cH<bY+bH then [cY+cH] else []) _ (by omega) (by omega) (by omega) (fun _=>?_) ?_ ?_ ?_ ?_
  ·unfold Vc;rw[Kg (by omega),Kg (by omega)];rfl
  ·simp only[Ka,Kk];unfold Vc;rw[Kj (by omega)];by_cases h5:cY+cH<bY+bH
   ·rw[Kj (by omega),Kj h5];rfl
   ·rw[Kg (by omega),Kg h5];rfl
  ·simp only[Ka,Kk];omega
  ·simp only[Ka,Kk];omega
  ·simp only[Ka,Kk];rw[Ki (show ¬cY+cH≤cY by omega)];simp only[Kax,Kk,Km];exact hb
 ·unfold Zcd at h;have:bY=cY:=by omega
  subst this;exact ZgS cP cT cX bY cW cH bH (by unfold Zcd;omega)
theorem ZgU (cP:Int) (cT:Bool) (cX cY cW cH:Int) (bY bW bH:Int) (h:Zcd cX cY cW cH cX bY bW bH):Zd Xs Ms Z3 [.d (.sl [.agg [J cP,.bool cT,J cX,J cY,J cW,J cH]]),.d (.agg [J cX,J bY,J bW,J bH])] []=some (Ji (Qs cP cT cX cY cW cH cX bY bW bH).plan):=by
 by_cases hl:cX+cW<cX+bW
 ·have h3:=ZgT cP cT cX cY cW cH bY bH (by unfold Zcd at h ⊢;omega);unfold Zcd at h;have e:Qs cP cT cX cY cW cH cX bY bW bH=.cut true cW (Qs cP cT cX cY cW cH cX bY cW bH) .waste:=by
   unfold Qs;rw[Kg (show ¬cX<cX by omega),Kj hl,Kg (show ¬cX<cX by omega),Kg (show ¬cX+cW<cX+cW by omega)]
  rw[e];generalize Qs cP cT cX cY cW cH cX bY cW bH=Q at h3 ⊢;have hb:=Jj [D.agg [J cP,.bool cT,J cX,J cY,J cW,J cH]] [] cX bY bW bH true cW Q .waste (by simp[uni,D.cells]) (by simp[uni]) (by unfold R64;omega) (by unfold R64;omega) (by unfold R64;omega) (by unfold R64;omega) (by simp only[Km];exact h3) (ZaO _ _ _ _);refine Jk cP cT cX cY cW cH cX bY bW bH true (cX+cW) [] _ (by omega) (by omega) (by omega) (fun e=>by cases e) ?_ ?_ ?_ ?_
  ·simp only[Km];unfold Vc;rw[Kg (by omega),Kj (by omega)];rfl
  ·simp only[Km];omega
  ·simp only[Km];omega
  ·simp only[Km,Kam,decide_true,Ka,Kk];rw[show cX+cW-cX=cW by omega];exact hb
 ·unfold Zcd at h;have:bW=cW:=by omega
  subst this;exact ZgT cP cT cX cY bW cH bY bH (by unfold Zcd;omega)
theorem Zjc (cP:Int) (cT:Bool) (cX cY cW cH:Int) (bX bY bW bH:Int) (h:Zcd cX cY cW cH bX bY bW bH):Zd Xs Ms Z3 [.d (.sl [.agg [J cP,.bool cT,J cX,J cY,J cW,J cH]]),.d (.agg [J bX,J bY,J bW,J bH])] []=some (Ji (Qs cP cT cX cY cW cH bX bY bW bH).plan):=by
 by_cases hl:bX<cX
 ·have h2:=ZgU cP cT cX cY cW cH bY (bX+bW-cX) bH (by unfold Zcd at h ⊢;omega);unfold Zcd at h;have e:Qs cP cT cX cY cW cH bX bY bW bH=.cut true (cX-bX) .waste (Qs cP cT cX cY cW cH cX bY (bX+bW-cX) bH):=by
   unfold Qs;rw[Kj hl,Kg (show ¬cX<cX by omega),show cX+(bX+bW-cX)=bX+bW by omega]
  rw[e];generalize Qs cP cT cX cY cW cH cX bY (bX+bW-cX) bH=Q at h2 ⊢;have hb:=Jj [] [D.agg [J cP,.bool cT,J cX,J cY,J cW,J cH]] bX bY bW bH true (cX-bX) .waste Q (by simp[uni]) (by simp[uni,D.cells]) (by unfold R64;omega) (by unfold R64;omega) (by unfold R64;omega) (by unfold R64;omega) (ZaO _ _ _ _) (by
   simp only[Km];rw[show bX+(cX-bX)=cX by omega,show bW-(cX-bX)=bX+bW-cX by omega];exact h2)
  refine Jk cP cT cX cY cW cH bX bY bW bH true cX (if cX+cW<bX+bW then [cX+cW] else []) _ (by omega) (by omega) (by omega) (fun e=>by cases e) ?_ ?_ ?_ ?_
  ·simp only[Km];unfold Vc;rw[Kj (by omega)];by_cases h5:cX+cW<bX+bW
   ·rw[Kj (by omega),Kj h5];rfl
   ·rw[Kg (by omega),Kg h5];rfl
  ·simp only[Km];omega
  ·simp only[Km];omega
  ·simp only[Km];rw[Ki (show ¬cX+cW≤cX by omega)];simp only[Kax,Kk,Km];exact hb
 ·unfold Zcd at h;have:bX=cX:=by omega
  subst this;exact ZgU cP cT bX cY cW cH bY bW bH (by unfold Zcd;omega)
@[go_sem] theorem rep_5 {α:Type} (a:α):List.replicate 5 a=[a,a,a,a,a]:=rfl
@[go_sem] theorem rep_8 {α:Type} (a:α):List.replicate 8 a=[a,a,a,a,a,a,a,a]:=rfl
@[go_sem] theorem rep_15 {α:Type} (a:α):List.replicate 15 a=[a,a,a,a,a,a,a,a,a,a,a,a,a,a,a]:=rfl
theorem ZvN:∀ {l:List Zb} {b:Int},Xp b l→∀ x∈l,b<x.Label
 | [],_,_,x,hx=>by simp at hx
 | y :: l,b,h,x,hx=>by
  rcases Kf.1 hx with rfl | hx
  ·exact h.2.1
  ·have:=ZvN h.2.2 x hx;have:=h.2.1;omega
theorem Zlr:∀ {l:List Zb} {b:Int} {k j:Nat} {x:Zb},Xp b l→l[j]?=some x→QI k l x.Label=((k+j:Nat):Int)
 | [],_,k,j,x,_,hx=>by simp at hx
 | y :: l,b,k,0,x,h,hx=>by
  simp only[KL,Option.some.injEq] at hx;subst hx;simp[QI]
 | y :: l,b,k,j+1,x,h,hx=>by
  simp only[KH] at hx;have h1:=ZvN h.2.2 x (Kb hx);unfold QI;rw[Kg (by omega),Zlr (k:=k+1) h.2.2 hx];congr 1
  omega
def Zm5 (i:Nat) (t:Bool) (b:Box) (q:Zb):Zz:=⟨3,q.Label,⟨0,0,0,0⟩,⟨⟨0,0,false,0⟩,0⟩,(Qs i t b.X b.Y b.W b.H 0 0 q.W q.H).plan⟩
def Zqr (s:Zq) (i:Nat) (x:Zc):Option Zz:=
 if Zdf s.Stock x.Pane<0 then none else match s.Stock[(Zdf s.Stock x.Pane).toNat]? with
 | none=>none
 | some q=>match QY q x.Pane.W x.Pane.H with
  | some b=>some (Zm5 i false b q)
  | none=>match QY q x.Pane.H x.Pane.W with
   | some b=>some (Zm5 i true b q)
   | none=>none
def Wc (s:Zq):List Zc→Nat→Option Zz
 | [],_=>none
 | x :: r,i=>match Zqr s i x with
  | some e=>if (Ye s e).isSome=true then some e else Wc s r (i+1)
  | none=>Wc s r (i+1)
def WZ (s:Zq):Option Zz:=Wc s s.Opn 0
theorem ZgV {s:Zq} {l:List Zc} {k i:Nat} {x:Zc} (hx:l[k]?=some x):Wc s (l.drop k) i=match Zqr s i x with
  | some e=>if (Ye s e).isSome=true then some e else Wc s (l.drop (k+1)) (i+1)
  | none=>Wc s (l.drop (k+1)) (i+1):=by
 obtain⟨h1,h2⟩:=Kc.1 hx;rw[Ks h1,h2,Wc]
theorem Zqs {s:Zq} {l:List Zc} {i:Nat}:Wc s (l.drop l.length) i=none:=by simp[Wc]
def nxV:Option Zz→AV×List Zn
 | some ⟨k,l,⟨x,y,w,h⟩,⟨⟨pw,ph,pt,pk⟩,c⟩,.mk o a q t ks⟩=>(.tup [.agg [(.d (J k)),(.d (J l)),(.d (J x)),(.d (J y)),(.d (J w)),(.d (J h)),(.d (J pw)),(.d (J ph)),(.d (.bool pt)),(.d (J pk)),(.d (J c)),(.d (J o)),(.d (J a)),(.d (J q)),(.d (.bool t)),.own 0],(.d (.bool true))],[.row 5 (ks.map Ze.enc) true false])
 | none=>(.tup [.agg [(.d (J 0)),(.d (J 0)),(.d (J 0)),(.d (J 0)),(.d (J 0)),(.d (J 0)),(.d (J 0)),(.d (J 0)),(.d (.bool false)),(.d (J 0)),(.d (J 0)),(.d (J 0)),(.d (J 0)),(.d (J 0)),(.d (.bool false)),.own 0],(.d (.bool false))],[.row 5 [] true false])
theorem Zls (sS:List Zb) (sO sD:List Zc) (sL sC:Int) (hv:WSh (Zq.mk sS sO sD sL sC)):Zd Xs Ms US [(.d (.agg [.sl (sS.map Zb.enc),.sl (sO.map Zc.enc),.sl (sD.map Zc.enc),J sL,J sC]))] []=some (nxV (WZ (Zq.mk sS sO sD sL sC))):=by
 have ak:=hv.2.1;have ag:=hv.1.1;simp only at ak ag;refine cE ?_;simp +contextual -implicitDefEqProofs (maxSteps:=10^7) only[go_sem,seval,↓gZ,ZgY];refine LO (α:=Nat) (fun i=>[(4,.d (J (i:Int)))]) (fun _=>[]) (fun i=>i≤sO.length∧Wc (Zq.mk sS sO sD sL sC) (sO.drop i) i=WZ (Zq.mk sS sO sD sL sC)) (fun i=>sO.length-i) 0 ⟨by omega,by simp[WZ]⟩ ?_;intro i ⟨hi,hp⟩ ih;by_cases ab:i<sO.length
 ·obtain⟨x,hx⟩:=Zo ab;have hw:=Zh (k:=i) (by omega);rw[ZgV hx] at hp;have aa:=hv.2.2.1 x (Kb hx);obtain⟨⟨W,H,T,K⟩,C⟩:=x;simp only at aa;have ad:1≤W∧W≤200∧1≤H∧H≤200:=⟨aa.1.1,aa.1.2.1,aa.1.2.2.1,aa.1.2.2.2.1⟩
  have ef:=Zqp sS W H T K hv.1 aa.1;unfold Zs7 at ef;rw[Kj ⟨hv.1,aa.1⟩] at ef;unfold Zqr at hp;simp only at hp;rcases Zqo sS ⟨W,H,T,K⟩ with h0 | ⟨j,q,hj,hq,ah⟩
  ·rw[Kj h0] at ef hp;simp only at hp;simp +contextual -implicitDefEqProofs (maxSteps:=10^7) only[go_sem,seval,↓gZ,hx,ab,hw,ef];refine ih (i+1) _ ⟨by omega,hp⟩ (by omega) ?_;simp +contextual -implicitDefEqProofs (maxSteps:=10^7) only[go_sem,seval,↓gZ]
  ·have al:¬(j:Int)<0:=by omega
   rw[hj,Kg al,Kz,hq] at ef hp;simp only at hp ef;have ai:=Z0 hv.1.2 q (Kb hq);have af:=(Kc.1 hq).1;have el:=Zb8 sS q.Label (by omega);rw[Zlr hv.1.2 hq,LH] at el;have f1:=UB q.Label q.W q.H q.Flaws W H ai ⟨ad.1,ad.2.1⟩ ad.2.2;have f2:=UB q.Label q.W q.H q.Flaws H W ai ad.2.2 ⟨ad.1,ad.2.1⟩;have am:=ai.1;have aj:∀ (t:Bool) (w h:Int) (b:Box),1≤w→1≤h→QY q w h=some b→∃ (o a p:Int) (t' : Bool) (ks:List Ze),(Qs i t b.X b.Y b.W b.H 0 0 q.W q.H).plan=.mk o a p t' ks∧Zd Xs Ms Z3 [.d (.sl [.agg [J i,.bool t,J b.X,J b.Y,J b.W,J b.H]]),.d (.agg [J 0,J 0,J q.W,J q.H])] []=some (.tup [.agg [(.d (J o)),(.d (J a)),(.d (J p)),(.d (.bool (t'))),.own 0],(.d (.bool true))],[.row 5 (ks.map Ze.enc) true false]):=fun t w h b an ao hb=>by
    obtain⟨g1,g2,g3,g4,g5,g6,_⟩:=Za1 hb;have e:=Zjc i t b.X b.Y b.W b.H 0 0 q.W q.H (by unfold Zcd;omega);cases hpp:(Qs i t b.X b.Y b.W b.H 0 0 q.W q.H).plan with
    | mk o a p t' ks=>
     rw[hpp] at e;exact⟨o,a,p,t',ks,rfl,e⟩
   have ae:¬q.Label=0:=by omega
   obtain⟨qL,qW,qH,qF⟩:=q;simp only at ef el f1 f2 aj ae hp;cases h1:QY ⟨qL,qW,qH,qF⟩ W H with
   | some b=>
    obtain⟨o,a,p,t',ks,e1,e2⟩:=aj false W H b (by omega) (by omega) h1;rw[h1] at f1 hp;unfold Zm5 at hp;simp only[e1] at hp;have ea:=Zaq sS sO sD sL sC 3 qL 0 0 0 0 0 0 false 0 0 o a p t' ks hv rfl;obtain⟨bX,bY,bW,bH⟩:=b;unfold fcV at f1;simp only at f1 e2 hp;cases hap:Ye (Zq.mk sS sO sD sL sC) ⟨3,qL,⟨0,0,0,0⟩,⟨⟨0,0,false,0⟩,0⟩,.mk o a p t' ks⟩ with
    | none=>
     rw[hap] at ea hp;simp only[KQ,Ka,Kk] at hp;unfold shV at ea;simp +contextual -implicitDefEqProofs (maxSteps:=10^7) only[go_sem,seval,↓gZ,hx,ab,hw,ef,el,f1,e2,ea,ae,af,hq];refine ih (i+1) _ ⟨by omega,hp⟩ (by omega) ?_;simp +contextual -implicitDefEqProofs (maxSteps:=10^7) only[go_sem,seval,↓gZ]
    | some u=>
     rw[hap] at ea hp;simp only[Lm,Km] at hp;rw[← hp];unfold shV at ea;unfold nxV;simp +contextual -implicitDefEqProofs (maxSteps:=10^7) only[go_sem,seval,↓gZ,hx,ab,hw,ef,el,f1,e2,ea,ae,af,hq]
   | none=>
    rw[h1] at f1 hp;unfold fcV at f1;simp only at hp;cases h2:QY ⟨qL,qW,qH,qF⟩ H W with
    | none=>
     exfalso
     unfold okP at ah;simp only[h1,h2] at ah;simp at ah
    | some b=>
     obtain⟨o,a,p,t',ks,e1,e2⟩:=aj true H W b (by omega) (by omega) h2;rw[h2] at f2 hp;unfold Zm5 at hp;simp only[e1] at hp;have ea:=Zaq sS sO sD sL sC 3 qL 0 0 0 0 0 0 false 0 0 o a p t' ks hv rfl;obtain⟨bX,bY,bW,bH⟩:=b;unfold fcV at f2;simp only at f2 e2 hp;cases hap:Ye (Zq.mk sS sO sD sL sC) ⟨3,qL,⟨0,0,0,0⟩,⟨⟨0,0,false,0⟩,0⟩,.mk o a p t' ks⟩ with
     | none=>
      rw[hap] at ea hp;simp only[KQ,Ka,Kk] at hp;unfold shV at ea;simp +contextual -implicitDefEqProofs (maxSteps:=10^7) only[go_sem,seval,↓gZ,hx,ab,hw,ef,el,f1,f2,e2,ea,ae,af,hq];refine ih (i+1) _ ⟨by omega,hp⟩ (by omega) ?_;simp +contextual -implicitDefEqProofs (maxSteps:=10^7) only[go_sem,seval,↓gZ]
     | some u=>
      rw[hap] at ea hp;simp only[Lm,Km] at hp;rw[← hp];unfold shV at ea;unfold nxV;simp +contextual -implicitDefEqProofs (maxSteps:=10^7) only[go_sem,seval,↓gZ,hx,ab,hw,ef,el,f1,f2,e2,ea,ae,af,hq]
 ·have:i=sO.length:=by omega
  subst this;rw[Zqs] at hp;rw[← hp];unfold nxV;simp +contextual -implicitDefEqProofs (maxSteps:=10^7) only[go_sem,seval,↓gZ]
theorem Zxa {s:Zq} {i:Nat} {x:Zc} {e:Zz} (h:Zqr s i x=some e):e.kind=3:=by
 unfold Zqr at h;split at h
 ·cases h
 ·split at h
  ·cases h
  ·split at h
   ·cases h;rfl
   ·split at h
    ·cases h;rfl
    ·cases h
theorem ZgW {s:Zq}:∀ {l:List Zc} {i:Nat} {e:Zz},Wc s l i=some e→e.kind=3
 | [],i,e,h=>by simp[Wc] at h
 | x :: l,i,e,h=>by
  unfold Wc at h;split at h
  ·split at h
   ·cases h;exact Zxa (by assumption)
   ·exact ZgW h
  ·exact ZgW h
def Zyt (s:Zq) (n:Int):Option Zt:=if ZF s then (match ZvM s.Stock n with
 | some (_,q)=>some ⟨q.W,q.H,s.Opn.map Zc.Pane⟩
 | none=>none) else none
def wkV:Option Zt→AV×List Zn
 | some k=>(.tup [.agg [(.d (J (k.W))),(.d (J (k.H))),.own 0],(.d (.bool true))],[.row 4 (k.Panes.map Pane.enc) true false])
 | none=>(.tup [.agg [(.d (J 0)),(.d (J 0)),.own 0],(.d (.bool false))],[.row 4 [] true false])
theorem Zlt (sS:List Zb) (sO sD:List Zc) (sL sC:Int) (n:Int):Zd Xs Ms UV [(.d (.agg [.sl (sS.map Zb.enc),.sl (sO.map Zc.enc),.sl (sD.map Zc.enc),J sL,J sC])),(.d (J n))] []=some (wkV (Zyt (Zq.mk sS sO sD sL sC) n)):=by
 have e1:=ZN sS sO sD sL sC;unfold Zyt;by_cases hv:ZF (Zq.mk sS sO sD sL sC)
 ·rw[Kh hv] at e1;rw[Kj hv];have ab:=hv.1.1;have h8:=hv.2.1.1;simp only at ab h8;have e2:=Yc sS n (by omega);by_cases hf:QI 0 sS n<0
  ·rw[Ziv hf];unfold wkV;refine cE ?_;simp +contextual -implicitDefEqProofs (maxSteps:=10^7) only[go_sem,seval,↓gZ,Za9,e1,e2,hf]
  ·obtain⟨a,x,ha,hx⟩:=Zcb (by omega:0≤QI 0 sS n);rw[Zem ha hx];rw[ha] at e2;have ad:¬(a:Int)<0:=by omega
   have aa:=(Kc.1 hx).1;obtain⟨xL,xW,xH,xF⟩:=x;unfold wkV;refine cE ?_;simp +contextual -implicitDefEqProofs (maxSteps:=10^7) only[go_sem,seval,↓gZ,Za9,e1,e2,ad,aa,hx];refine LO (α:=Nat) (fun i=>[(37,.d (J (i:Int)))]) (fun i=>[(2,.row 4 (((sO.take i).map Zc.Pane).map Pane.enc) true false)]) (fun i=>i≤sO.length) (fun i=>sO.length-i) 0 (by omega) ?_;intro i hi ih;by_cases aa:i<sO.length
   ·obtain⟨x,hx⟩:=Zo aa;have hw:=Zh (k:=i) (by omega);have hm:=Zao hx;have ae:(sO.take i).length≤i:=by simp;omega
    have hr:((sO.take i).length+1)*32≤140737488355328∧(sO.take i).length≤140737488355327:=by omega
    obtain⟨⟨W,H,T,K⟩,C⟩:=x;simp only at hm;simp +contextual -implicitDefEqProofs (maxSteps:=10^7) only[go_sem,seval,↓gZ,hx,aa,hw,hr];refine ih (i+1) _ (by omega) (by omega) ?_;simp +contextual -implicitDefEqProofs (maxSteps:=10^7) only[go_sem,seval,↓gZ,hm]
    first | rfl | (simp;done) | (simp;rfl)
   ·have:i=sO.length:=by omega
    subst this;simp +contextual -implicitDefEqProofs (maxSteps:=10^7) only[go_sem,seval,↓gZ];simp
 ·rw[Ki hv] at e1;rw[Kg hv];unfold wkV;refine cE ?_;simp +contextual -implicitDefEqProofs (maxSteps:=10^7) only[go_sem,seval,↓gZ,Za9,e1]
end Go.Proofs.YthgciclhiaoecaaGreat
