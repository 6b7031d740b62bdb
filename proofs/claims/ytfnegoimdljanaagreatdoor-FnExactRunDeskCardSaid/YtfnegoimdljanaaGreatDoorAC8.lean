/- Own text. -/
import Derived.Test.YtfnegoimdljanaaGreatDoorACode
import Derived.Test.YtfnegoimdljanaaGreatDoorAC1
import Derived.Test.YtfnegoimdljanaaGreatDoorAC7
import Derived.Test.YtfnegoimdljanaaGreatDoorAbsOkD
namespace Go.Proofs.YtfnegoimdljanaaGreatDoor
open Go Go.Abs Go.Abs.E Go.Abs.L
set_option linter.unusedSimpArgs false
set_option linter.unusedVariables false
set_option maxRecDepth 20000
set_option maxHeartbeats 4000000
def ZrT (F:List Box) (W w h y:Int):Nat→Int→Option Box
 | 0,_=>none
 | n+1,x=>if x+w≤W then (if Z6 F ⟨x,y,w,h⟩ then some ⟨x,y,w,h⟩ else ZrT F W w h y n (x+1)) else none
def ZrU (F:List Box) (W H w h:Int):Nat→Int→Option Box
 | 0,_=>none
 | n+1,y=>if y+h≤H then (match ZrT F W w h y (W.toNat+1) 0 with
  | some b=>some b
  | none=>ZrU F W H w h n (y+1)) else none
def Xk (q:Zb) (w h:Int):Option Box:=ZrU q.Flaws q.W q.H w h (q.H.toNat+1) 0
theorem Zv3 {F:List Box} {W w h y:Int}:∀ {n:Nat} {x:Int} {b:Box},ZrT F W w h y n x=some b→x≤b.X∧b.X+w≤W∧b.Y=y∧b.W=w∧b.H=h∧Z6 F b
 | 0,x,b,e=>by simp[ZrT] at e
 | n+1,x,b,e=>by
  unfold ZrT at e;split at e
  ·split at e
   ·cases e;exact⟨Kag _,by assumption,rfl,rfl,rfl,by assumption⟩
   ·obtain⟨h1,h2⟩:=Zv3 e;exact⟨by omega,h2⟩
  ·cases e
theorem Zv4 {F:List Box} {W H w h:Int}:∀ {n:Nat} {y:Int} {b:Box},ZrU F W H w h n y=some b→0≤b.X∧b.X+w≤W∧y≤b.Y∧b.Y+h≤H∧b.W=w∧b.H=h∧Z6 F b
 | 0,y,b,e=>by simp[ZrU] at e
 | n+1,y,b,e=>by
  unfold ZrU at e;split at e
  ·rename_i hy;split at e
   ·rename_i c hc;cases e;obtain⟨h1,h2,h3,h4,h5,h6⟩:=Zv3 hc;exact⟨h1,h2,by omega,by omega,h4,h5,h6⟩
   ·obtain⟨h1,h2,h3,h4⟩:=Zv4 e;exact⟨h1,h2,by omega,h4⟩
  ·cases e
theorem ZbX {q:Zb} {w h:Int} {b:Box} (e:Xk q w h=some b):0≤b.X∧b.X+w≤q.W∧0≤b.Y∧b.Y+h≤q.H∧b.W=w∧b.H=h∧Z6 q.Flaws b:=Zv4 e
def fcV:Option Box→AV×List Zm
 | some b=>(.tup [.d b.enc,(.d (.bool true))],[])
 | none=>(.tup [.d (.agg [J 0,J 0,J 0,J 0]),(.d (.bool false))],[])
theorem UW (qL qW qH:Int) (qF:List Box) (w h:Int) (hq:VPc (Zb.mk qL qW qH qF)) (hw:1≤w∧w≤200) (hh:1≤h∧h≤200):Zd Xs Ms 98 [(.d (.agg [J qL,J qW,J qH,.sl (qF.map Box.enc)])),(.d (J w)),(.d (J h))] []=some (fcV (Xk (Zb.mk qL qW qH qF) w h)):=by
 have hF:∀ f∈qF,VB f:=fun f hf=>(hq.2 f hf).1;obtain⟨_,_,af,ag,ah,ai,aj⟩:=hq.1;simp only at af ag ah ai aj;clear hq;unfold Xk;simp only;refine cE ?_;simp +contextual -implicitDefEqProofs (maxSteps:=10^7) only[go_sem,seval,Zeb];refine LO (α:=Nat) (fun y=>[(8,.d (J (y:Int)))]) (fun _=>[]) (fun y=>(y:Int)≤qH∧ZrU qF qW qH w h (qH.toNat+1-y) y=ZrU qF qW qH w h (qH.toNat+1) 0) (fun y=>qH.toNat+1-y) 0 ⟨by omega,by simp⟩ ?_;intro y ⟨hy,hp⟩ ih;obtain⟨n,hn⟩:∃ n,qH.toNat+1-y=n+1:=⟨qH.toNat-y,by omega⟩
 rw[hn,ZrU] at hp;have wy:=wi ((y:Int)+h) (by omega) (by omega);by_cases ad:(y:Int)+h≤qH
 ·rw[Kg ad] at hp;simp +contextual -implicitDefEqProofs only[go_sem,seval,wy,ad];refine XR Xs Ms (st0:=?st1) (α:=Nat) (fun x=>[(9,.d (J (x:Int)))]) (fun _=>[]) (fun x=>(x:Int)≤qW∧ZrT qF qW w h y (qW.toNat+1-x) x=ZrT qF qW w h y (qW.toNat+1) 0) (fun x=>qW.toNat+1-x) 0 ?hc2 ⟨by omega,by simp⟩ ?h02 ?step2
  case hc2=>simp +contextual -implicitDefEqProofs only[go_sem,seval]<;>exact rfl
  case h02=>rfl
  case step2=>
   intro x ⟨hx,aa⟩ ak;obtain⟨m,hm⟩:∃ m,qW.toNat+1-x=m+1:=⟨qW.toNat-x,by omega⟩
   rw[hm,ZrT] at aa;have wx:=wi ((x:Int)+w) (by omega) (by omega);have al:=Zg (k:=x) (by omega);have am:=Zg (k:=y) (by omega);by_cases ab:(x:Int)+w≤qW
   ·rw[Kg ab] at aa;have ec:=Zmb qL qW qH qF x y w h hF (by simp only[VB];omega) (by omega);by_cases ae:Z6 qF ⟨x,y,w,h⟩
    ·rw[Kg ae] at aa;rw[← aa] at hp;simp only at hp;rw[Kh ae] at ec;simp +contextual -implicitDefEqProofs only[go_sem,seval,wx,ab,ec];rw[← hp];rfl
    ·rw[Kd ae] at aa;rw[Kj ae] at ec;simp +contextual -implicitDefEqProofs only[go_sem,seval,wx,ab,ec,al];refine ak (x+1) _ ⟨by omega,?_⟩ (by omega) ?_
     ·rw[← aa];have:qW.toNat+1-(x+1)=m:=by omega
      rw[this];rfl
     ·simp +contextual -implicitDefEqProofs only[go_sem,seval]
   ·rw[Kd ab] at aa;rw[← aa] at hp;simp only at hp;simp +contextual -implicitDefEqProofs only[go_sem,seval,wx,ab,am];refine ih (y+1) _ ⟨by omega,?_⟩ (by omega) ?_
    ·rw[← hp];have:qH.toNat+1-(y+1)=n:=by omega
     rw[this];rfl
    ·simp +contextual -implicitDefEqProofs only[go_sem,seval]
 ·rw[Kd ad] at hp;simp +contextual -implicitDefEqProofs only[go_sem,seval,wy,ad];rw[← hp];rfl
def okP (p:Pane) (q:Zb):Bool:=(Xk q p.W p.H).isSome || (p.Turns&&(Xk q p.H p.W).isSome)
def ZgZ (l:List Zb) (b:Int):Int:=match l[b.toNat]? with
 | some q=>q.W*q.H
 | none=>0
def Zcg (L:List Zb) (p:Pane):List Zb→Nat→Int→Int
 | [],_,b=>b
 | x :: r,i,b=>Zcg L p r (i+1) (if okP p x=true∧(b<0∨x.W*x.H<ZgZ L b) then (i:Int) else b)
theorem ZoY {L l:List Zb} {p:Pane} {k i:Nat} {x:Zb} {b:Int} (hx:l[k]?=some x):Zcg L p (l.drop k) i b=Zcg L p (l.drop (k+1)) (i+1) (if okP p x=true∧(b<0∨x.W*x.H<ZgZ L b) then (i:Int) else b):=by
 obtain⟨h1,h2⟩:=Kb.1 hx;rw[Ku h1,h2,Zcg]
theorem ZrV {L l:List Zb} {p:Pane} {i:Nat} {b:Int}:Zcg L p (l.drop l.length) i b=b:=by simp[Zcg]
def ZeP (L:List Zb) (p:Pane):Int:=Zcg L p L 0 (-1)
def Zv5 (L:List Zb) (p:Pane):Int:=if VSt L∧VP p then (if ZeP L p<0 then 0 else match L[(ZeP L p).toNat]? with
 | some q=>q.Label
 | none=>0) else 0
theorem Zv6 (L:List Zb) (p:Pane):∀ (l:List Zb) (i:Nat) (b:Int),(∀ (j:Nat) (x:Zb),l[j]?=some x→L[i+j]?=some x)→(b<0∨∃ (j:Nat) (x:Zb),b=(j:Int)∧L[j]?=some x∧okP p x=true)→Zcg L p l i b<0∨∃ (j:Nat) (x:Zb),Zcg L p l i b=(j:Int)∧L[j]?=some x∧okP p x=true
 | [],i,b,_,hb=>hb
 | x :: r,i,b,hl,hb=>by
  unfold Zcg;refine Zv6 L p r (i+1) _ (fun j y hy=>by have:=hl (j+1) y (by simpa using hy);rw[show i+1+j=i+(j+1) by omega];exact this) ?_;split
  ·rename_i hc;exact .inr ⟨i,x,rfl,by have:=hl 0 x (by simp);simpa using this,hc.1⟩
  ·exact hb
theorem ZrW (L:List Zb) (p:Pane):ZeP L p<0∨∃ (j:Nat) (x:Zb),ZeP L p=(j:Int)∧L[j]?=some x∧okP p x=true:=
 Zv6 L p L 0 (-1) (fun j x h=>by simpa using h) (.inl (by omega))
theorem ZrX (l:List Zb) (pW pH:Int) (pT:Bool) (pK:Int) (hv:VSt l) (hp:VP (Pane.mk pW pH pT pK)):Zd Xs Ms 96 [(.d (.sl (l.map Zb.enc))),(.d (.agg [J pW,J pH,.bool pT,J pK]))] []=some ((.d (J (Zv5 l (Pane.mk pW pH pT pK)))),[]):=by
 have e1:=YQ l (by have:=hv.1;omega) (fun x hx=>⟨by have:=(Zdz hv).2 x hx;omega,Zmk (ZW hv.2 x hx)⟩);have e2:=Vf pW pH pT pK;rw[Kh hv] at e1;rw[Kh hp] at e2;have ad:=fun x hx=>ZW hv.2 x hx;have aj:=hv.1;unfold Zv5;rw[Kg ⟨hv,hp⟩];have ae:1≤pW∧pW≤200∧1≤pH∧pH≤200:=⟨hp.1,hp.2.1,hp.2.2.1,hp.2.2.2.1⟩
 clear hv hp;refine cE ?_;simp +contextual -implicitDefEqProofs (maxSteps:=10^7) only[go_sem,seval,ZfE,e1,e2];refine LO (α:=Nat×Int) (fun s=>[(6,.d (J (s.1:Int))),(5,.d (J s.2))]) (fun _=>[]) (fun s=>s.1≤l.length∧Zcg l (Pane.mk pW pH pT pK) (l.drop s.1) s.1 s.2=ZeP l (Pane.mk pW pH pT pK)∧(s.2=-1∨∃ j:Nat,s.2=(j:Int)∧j<l.length)) (fun s=>l.length-s.1) (0,-1) ⟨by simp,by simp[ZeP],.inl rfl⟩ ?_;intro⟨i,b⟩ ⟨hi,hq,hb⟩ ih;simp only at hi hq hb;by_cases ab:i<l.length
 ·obtain⟨x,hx⟩:=Zp ab;have hw:=Zg (k:=i) (by omega);rw[ZoY hx] at hq;have ag:=ad x (Kc hx);have f1:=UW x.Label x.W x.H x.Flaws pW pH ag ⟨ae.1,ae.2.1⟩ ae.2.2;have f2:=UW x.Label x.W x.H x.Flaws pH pW ag ae.2.2 ⟨ae.1,ae.2.1⟩;have am:=ag.1;have ak:0≤x.W*x.H∧x.W*x.H≤40000:=Jy (b:=⟨0,0,x.W,x.H⟩) (by simp only[VB];omega);have aa:okP (Pane.mk pW pH pT pK) x=((Xk ⟨x.Label,x.W,x.H,x.Flaws⟩ pW pH).isSome || (pT&&(Xk ⟨x.Label,x.W,x.H,x.Flaws⟩ pH pW).isSome)):=rfl;obtain⟨L,W,H,F⟩:=x;simp only at f1 f2 ak aa;have u1:=wi (W*H) (by omega) (by omega);cases h1:Xk ⟨L,W,H,F⟩ pW pH with
  | some b1=>
   rw[h1] at f1 aa;unfold fcV at f1;simp only[K4,Bool.true_or] at aa;obtain⟨bX,bY,bW,bH⟩:=b1;rcases hb with hb | ⟨j,hb,hj⟩
   ·subst hb;rw[Kg ⟨aa,.inl (by omega)⟩] at hq;simp +contextual -implicitDefEqProofs only[go_sem,seval,hx,ab,hw,f1];refine ih (i+1,(i:Int)) _ ⟨by simp only;omega,hq,.inr ⟨i,rfl,ab⟩⟩ (by simp only;omega) ?_;simp +contextual -implicitDefEqProofs only[go_sem,seval]
   ·subst hb;obtain⟨y,hy⟩:=Zp hj;have al:=(ad y (Kc hy)).1;have ah:0≤y.W*y.H∧y.W*y.H≤40000:=Jy (b:=⟨0,0,y.W,y.H⟩) (by simp only[VB];omega);have af:¬(j:Int)<0:=by omega
    have ai:ZgZ l (j:Int)=y.W*y.H:=by unfold ZgZ;rw[Ky,hy]
    rw[ai] at hq;obtain⟨yL,yW,yH,yF⟩:=y;simp only at ah hq;have u2:=wi (yW*yH) (by omega) (by omega);by_cases hc:W*H<yW*yH
    ·rw[Kg ⟨aa,.inr hc⟩] at hq;simp +contextual -implicitDefEqProofs only[go_sem,seval,hx,ab,hw,af,hj,hy,u1,u2,hc,f1];refine ih (i+1,(i:Int)) _ ⟨by simp only;omega,hq,.inr ⟨i,rfl,ab⟩⟩ (by simp only;omega) ?_;simp +contextual -implicitDefEqProofs only[go_sem,seval]
    ·rw[Kd (fun h=>by rcases h.2 with h | h<;>omega)] at hq;simp +contextual -implicitDefEqProofs only[go_sem,seval,hx,ab,hw,af,hj,hy,u1,u2,hc,f1];refine ih (i+1,(j:Int)) _ ⟨by simp only;omega,hq,.inr ⟨j,rfl,hj⟩⟩ (by simp only;omega) ?_;simp +contextual -implicitDefEqProofs only[go_sem,seval]
  | none=>
   rw[h1] at f1 aa;unfold fcV at f1;cases pT with
   | false=>
    simp only[Kw,Bool.false_and,Bool.or_self] at aa;rw[Kd (fun h=>by rw[aa] at h;exact absurd h.1 (by simp))] at hq;simp +contextual -implicitDefEqProofs only[go_sem,seval,hx,ab,hw,f1];refine ih (i+1,b) _ ⟨by simp only;omega,hq,hb⟩ (by simp only;omega) ?_;simp +contextual -implicitDefEqProofs only[go_sem,seval]
   | true=>
    cases h2:Xk ⟨L,W,H,F⟩ pH pW with
    | none=>
     rw[h2] at f2 aa;unfold fcV at f2;simp only[Kw,Kak,Bool.or_self] at aa;rw[Kd (fun h=>by rw[aa] at h;exact absurd h.1 (by simp))] at hq;simp +contextual -implicitDefEqProofs only[go_sem,seval,hx,ab,hw,f1,f2];refine ih (i+1,b) _ ⟨by simp only;omega,hq,hb⟩ (by simp only;omega) ?_;simp +contextual -implicitDefEqProofs only[go_sem,seval]
    | some b2=>
     rw[h2] at f2 aa;unfold fcV at f2;simp only[K4,Kw,Kak,LR] at aa;obtain⟨bX,bY,bW,bH⟩:=b2;rcases hb with hb | ⟨j,hb,hj⟩
     ·subst hb;rw[Kg ⟨aa,.inl (by omega)⟩] at hq;simp +contextual -implicitDefEqProofs only[go_sem,seval,hx,ab,hw,f1,f2];refine ih (i+1,(i:Int)) _ ⟨by simp only;omega,hq,.inr ⟨i,rfl,ab⟩⟩ (by simp only;omega) ?_;simp +contextual -implicitDefEqProofs only[go_sem,seval]
     ·subst hb;obtain⟨y,hy⟩:=Zp hj;have al:=(ad y (Kc hy)).1;have ah:0≤y.W*y.H∧y.W*y.H≤40000:=Jy (b:=⟨0,0,y.W,y.H⟩) (by simp only[VB];omega);have af:¬(j:Int)<0:=by omega
      have ai:ZgZ l (j:Int)=y.W*y.H:=by unfold ZgZ;rw[Ky,hy]
      rw[ai] at hq;obtain⟨yL,yW,yH,yF⟩:=y;simp only at ah hq;have u2:=wi (yW*yH) (by omega) (by omega);by_cases hc:W*H<yW*yH
      ·rw[Kg ⟨aa,.inr hc⟩] at hq;simp +contextual -implicitDefEqProofs only[go_sem,seval,hx,ab,hw,af,hj,hy,u1,u2,hc,f1,f2];refine ih (i+1,(i:Int)) _ ⟨by simp only;omega,hq,.inr ⟨i,rfl,ab⟩⟩ (by simp only;omega) ?_;simp +contextual -implicitDefEqProofs only[go_sem,seval]
      ·rw[Kd (fun h=>by rcases h.2 with h | h<;>omega)] at hq;simp +contextual -implicitDefEqProofs only[go_sem,seval,hx,ab,hw,af,hj,hy,u1,u2,hc,f1,f2];refine ih (i+1,(j:Int)) _ ⟨by simp only;omega,hq,.inr ⟨j,rfl,hj⟩⟩ (by simp only;omega) ?_;simp +contextual -implicitDefEqProofs only[go_sem,seval]
 ·have:i=l.length:=by omega
  subst this;rw[ZrV] at hq;subst hq;rcases hb with hb | ⟨j,hb,hj⟩
  ·have h0:ZeP l (Pane.mk pW pH pT pK)<0:=by omega
   simp +contextual -implicitDefEqProofs only[go_sem,seval,hb]
  ·have h0:¬ZeP l (Pane.mk pW pH pT pK)<0:=by omega
   have h1:¬(j:Int)<0:=by omega
   obtain⟨y,hy⟩:=Zp hj;simp only[hb,Kd h1,Ky,hy];obtain⟨yL,yW,yH,yF⟩:=y;simp +contextual -implicitDefEqProofs only[go_sem,seval,h1,hj,hy]
def Vx (lo hi fr to:Int):List Int:=(if fr<lo∧lo<to then [lo] else [])++(if fr<hi∧hi<to then [hi] else [])
theorem ZDQ {lo hi fr to x:Int} (h:x∈Vx lo hi fr to):x<to:=by
 unfold Vx at h;rcases Ki.1 h with h | h
 ·split at h
  ·simp at h;omega
  ·simp at h
 ·split at h
  ·simp at h;omega
  ·simp at h
theorem ZnW (lo hi fr to:Int):(Vx lo hi fr to).length≤2:=by
 unfold Vx;split<;>split<;>simp
theorem ZDR {lo hi fr t:Int} (hl:lo<hi) (hf:fr<t) (h:t=lo∨t=hi):Vx lo hi fr (t+1)=Vx lo hi fr t++[t]:=by
 unfold Vx;rcases h with h | h
 ·rw[Kg (show fr<lo∧lo<t+1 by omega),Kd (show ¬(fr<hi∧hi<t+1) by omega),Kd (show ¬(fr<lo∧lo<t) by omega),Kd (show ¬(fr<hi∧hi<t) by omega),h];rfl
 ·rw[Kg (show fr<hi∧hi<t+1 by omega),Kd (show ¬(fr<hi∧hi<t) by omega)];by_cases h2:fr<lo
  ·rw[Kg (show fr<lo∧lo<t+1 by omega),Kg (show fr<lo∧lo<t by omega),h];rfl
  ·rw[Kd (show ¬(fr<lo∧lo<t+1) by omega),Kd (show ¬(fr<lo∧lo<t) by omega),h];rfl
theorem ZFm {lo hi fr t:Int} (h:¬(t=lo∨t=hi)):Vx lo hi fr (t+1)=Vx lo hi fr t:=by
 unfold Vx;have h1:(fr<lo∧lo<t+1)=(fr<lo∧lo<t):=propext (by omega);have h2:(fr<hi∧hi<t+1)=(fr<hi∧hi<t):=propext (by omega);simp only[h1,h2]
theorem Zmq:∀ (l:List Int) (k:Nat) (n:Int),n∉l→XJ k l n=-1
 | [],_,_,_=>rfl
 | x :: l,k,n,h=>by
  simp only[Ke,not_or] at h;unfold XJ;rw[Kd (fun e=>h.1 e.symm),Zmq l (k+1) n h.2]
theorem ZrY (cP:Int) (cT:Bool) (cX cY cW cH:Int) (op lo n fr to:Int) (ho:(op=2∧lo=cX∧n=cW)∨(op=3∧lo=cY∧n=cH)) (hc:0≤cX∧cX≤1000∧0≤cY∧cY≤1000∧1≤cW∧cW≤1000∧1≤cH∧cH≤1000) (h0:0≤fr) (h1:fr<to) (h2:to≤1000):Zd Xs Ms 138 [.d (.sl [.agg [J cP,.bool cT,J cX,J cY,J cW,J cH]]),(.d (J op)),(.d (J fr)),(.d (J to))] []=some (.own 0,[.row 1 ((Vx lo (lo+n) fr to).map X3) true false]):=by
 have w0:=wi (fr+1) (by omega) (by omega);have wx:=wi (cX+cW) (by omega) (by omega);have wy:=wi (cY+cH) (by omega) (by omega);have hn:lo<lo+n:=by omega
 have ae:Vx lo (lo+n) fr (fr+1)=[]:=by unfold Vx;rw[Kd (by omega),Kd (by omega)];rfl
 refine cE ?_;simp +contextual -implicitDefEqProofs (maxSteps:=10^7) only[go_sem,seval,ZjX,w0];refine XR Xs Ms (st0:=?st0) (α:=Int) (fun t=>[(10,.d (J t))]) (fun t=>[(0,.row 1 ((Vx lo (lo+n) fr t).map X3) true false)]) (fun t=>fr+1≤t∧t≤to) (fun t=>(to-t).toNat) (fr+1) ?hc (by omega) ?h0 ?step
 case hc=>simp +contextual -implicitDefEqProofs only[go_sem,seval]<;>exact rfl
 case h0=>rw[ae];rfl
 case step=>
  intro t ⟨ag,ah⟩ ih;by_cases ab:t<to
  ·have wt:=wi (t+1) (by omega) (by omega);have ai:=ZnW lo (lo+n) fr t;have hr:((Vx lo (lo+n) fr t).length+1)*8≤140737488355328∧(Vx lo (lo+n) fr t).length≤140737488355327:=by omega
   have ad:=ZlZ (Vx lo (lo+n) fr t) t (by omega);rw[Zmq _ _ _ (fun h=>by have:=ZDQ h;omega)] at ad;by_cases hm:t=lo∨t=lo+n
   ·have hy:=ZDR hn (show fr<t by omega) hm;have af:(1:Int)+0=1:=rfl;rcases ho with ⟨o1,o2,o3⟩ | ⟨o1,o2,o3⟩
    ·have aa : (t=cX∨t=cX+cW):=by omega
     simp +contextual -implicitDefEqProofs only[go_sem,seval,ab];refine ZE Xs Ms ?_;simp +contextual -implicitDefEqProofs only[go_sem,seval,wx,o1,aa,ad,hr,← Lh];refine ZE Xs Ms ?_;simp +contextual -implicitDefEqProofs only[go_sem,seval,wt];refine ih (t+1) _ (by omega) (by omega) ?_;simp +contextual -implicitDefEqProofs only[go_sem,seval,hy,o1,KI,Kk,Ks]
    ·have aa : (t=cY∨t=cY+cH):=by omega
     simp +contextual -implicitDefEqProofs only[go_sem,seval,ab];refine ZE Xs Ms ?_;simp +contextual -implicitDefEqProofs only[go_sem,seval,wx,wy,o1,aa,ad,hr,← Lh];refine ZE Xs Ms ?_;simp +contextual -implicitDefEqProofs only[go_sem,seval,wt];refine ih (t+1) _ (by omega) (by omega) ?_;simp +contextual -implicitDefEqProofs only[go_sem,seval,hy,o1,KI,Kk,Ks]
   ·have hy:=ZFm (fr:=fr) hm;rcases ho with ⟨o1,o2,o3⟩ | ⟨o1,o2,o3⟩
    ·have aa : ¬(t=cX∨t=cX+cW):=by omega
     simp +contextual -implicitDefEqProofs only[go_sem,seval,ab];refine ZE Xs Ms ?_;simp +contextual -implicitDefEqProofs only[go_sem,seval,wx,o1,aa,← Lh];refine ZE Xs Ms ?_;simp +contextual -implicitDefEqProofs only[go_sem,seval,wt];refine ih (t+1) _ (by omega) (by omega) ?_;simp +contextual -implicitDefEqProofs only[go_sem,seval,hy,o1]
    ·have aa : ¬(t=cY∨t=cY+cH):=by omega
     simp +contextual -implicitDefEqProofs only[go_sem,seval,ab];refine ZE Xs Ms ?_;simp +contextual -implicitDefEqProofs only[go_sem,seval,wx,wy,o1,aa,← Lh];refine ZE Xs Ms ?_;simp +contextual -implicitDefEqProofs only[go_sem,seval,wt];refine ih (t+1) _ (by omega) (by omega) ?_;simp +contextual -implicitDefEqProofs only[go_sem,seval,hy,o1]
  ·have:t=to:=by omega
   subst this;simp +contextual -implicitDefEqProofs only[go_sem,seval]
theorem ZjS (cP:Int) (cT:Bool) (cX cY cW cH:Int) (op lo n t:Int) (f:Bool) (ho:(op=2∧lo=cX∧n=cW)∨(op=3∧lo=cY∧n=cH)) (hc:0≤cX∧cX≤1000∧0≤cY∧cY≤1000∧1≤cW∧cW≤1000∧1≤cH∧cH≤1000) (hn:¬(lo<t∧t<lo+n)):Zd Xs Ms 139 [.d (.sl [.agg [J cP,.bool cT,J cX,J cY,J cW,J cH]]),(.d (J op)),(.d (J t)),(.d (.bool f))] [] =
  some (.tup [.own 0,(.d (.bool true))],[.row 6 (if f=decide (lo+n≤t) then [.agg [J cP,.bool cT,J cX,J cY,J cW,J cH]] else []) true false]):=by
 have wx:=wi (cX+cW) (by omega) (by omega);have wy:=wi (cY+cH) (by omega) (by omega);have bb:∀ a b:Bool,ZqH .eql true (.d (.bool a)) (.d (.bool b))=QV (.d (.bool (a==b))):=fun _ _=>rfl;refine cE ?_;rcases ho with ⟨o1,o2,o3⟩ | ⟨o1,o2,o3⟩
 ·have aa : ¬(cX<t∧t<cX+cW):=by omega
  have he:(lo+n≤t)=(cX+cW≤t):=propext (by omega);simp only[he];simp +contextual -implicitDefEqProofs only[go_sem,seval,ZiQ];refine ZE Xs Ms ?_;by_cases hf:f=decide (cX+cW≤t)
  ·have hg:(f==decide (cX+cW≤t))=true:=by rw[hf];simp
   rw[Kg hf];simp +contextual -implicitDefEqProofs only[go_sem,seval,wx,o1,aa,bb,hg,← Ld];refine ZE Xs Ms ?_;simp +contextual -implicitDefEqProofs only[go_sem,seval]
  ·have hg:(f==decide (cX+cW≤t))=false:=by simpa using hf
   rw[Kd hf];simp +contextual -implicitDefEqProofs only[go_sem,seval,wx,o1,aa,bb,hg,← Ld];refine ZE Xs Ms ?_;simp +contextual -implicitDefEqProofs only[go_sem,seval]
 ·have aa : ¬(cY<t∧t<cY+cH):=by omega
  have he:(lo+n≤t)=(cY+cH≤t):=propext (by omega);simp only[he];simp +contextual -implicitDefEqProofs only[go_sem,seval,ZiQ];refine ZE Xs Ms ?_;by_cases hf:f=decide (cY+cH≤t)
  ·have hg:(f==decide (cY+cH≤t))=true:=by rw[hf];simp
   rw[Kg hf];simp +contextual -implicitDefEqProofs only[go_sem,seval,wx,wy,o1,aa,bb,hg,← Ld];refine ZE Xs Ms ?_;simp +contextual -implicitDefEqProofs only[go_sem,seval]
  ·have hg:(f==decide (cY+cH≤t))=false:=by simpa using hf
   rw[Kd hf];simp +contextual -implicitDefEqProofs only[go_sem,seval,wx,wy,o1,aa,bb,hg,← Ld];refine ZE Xs Ms ?_;simp +contextual -implicitDefEqProofs only[go_sem,seval]
def JG:Ze→AV×List Zm
 | .mk o a q t ks=>(.tup [.agg [(.d (J o)),(.d (J a)),(.d (J q)),(.d (.bool t)),.own 0],(.d (.bool true))],[.row 5 (ks.map Ze.enc) true false])
theorem Zbb (bX bY bW bH:Int):Zd Xs Ms 99 [.d (.sl []),(.d (.agg [J bX,J bY,J bW,J bH]))] []=some (JG BT.waste.plan):=by
 simp only[BT.plan,JG];refine cE ?_;simp +contextual -implicitDefEqProofs (maxSteps:=10^7) only[go_sem,seval,YU]
theorem ZiH (cP:Int) (cT:Bool) (cX cY cW cH:Int):Zd Xs Ms 99 [.d (.sl [.agg [J cP,.bool cT,J cX,J cY,J cW,J cH]]),.d (.agg [J cX,J cY,J cW,J cH])] []=some (JG (BT.pane cP cT).plan):=by
 simp only[BT.plan,JG];refine cE ?_;simp +contextual -implicitDefEqProofs (maxSteps:=10^7) only[go_sem,seval,YU]
theorem JH (A B:List D) (bX bY bW bH:Int) (d:Bool) (a:Int) (l r:BT) (hA:uni 6 A) (hB:uni 6 B) (h1:R64 (bX+a)) (h2:R64 (bY+a)) (h3:R64 (bW-a)) (h4:R64 (bH-a))
  (hl:Zd Xs Ms 99 [.d (.sl A),if d then .d (.agg [J bX,J bY,J a,J bH]) else .d (.agg [J bX,J bY,J bW,J a])] []=some (JG l.plan))
  (hr:Zd Xs Ms 99 [.d (.sl B),if d then .d (.agg [J (bX+a),J bY,J (bW-a),J bH]) else .d (.agg [J bX,J (bY+a),J bW,J (bH-a)])] []=some (JG r.plan)) :
  Zd Xs Ms 140 [.d (.sl A),.d (.sl B),(.d (.agg [J bX,J bY,J bW,J bH])),(.d (J (Qb d))),(.d (J a))] []=some (JG (BT.cut d a l r).plan):=by
 have w1:=wi (bX+a) h1.1 h1.2;have w2:=wi (bY+a) h2.1 h2.2;have w3:=wi (bW-a) h3.1 h3.2;have w4:=wi (bH-a) h4.1 h4.2;obtain⟨lo,la,lq,lt,lk,el⟩:∃ o a q t ks,l.plan=.mk o a q t ks:=by cases l.plan;exact⟨_,_,_,_,_,rfl⟩
 obtain⟨ro,ra,rq,rt,rk,er⟩:∃ o a q t ks,r.plan=.mk o a q t ks:=by cases r.plan;exact⟨_,_,_,_,_,rfl⟩
 rw[el] at hl;rw[er] at hr;simp only[BT.plan,el,er,JG] at hl hr ⊢;cases d with
 | true=>
  simp only[Km,Qb] at hl hr ⊢;refine cE ?_;simp +contextual -implicitDefEqProofs (maxSteps:=10^7) only[go_sem,seval,QL,w1,w3,hl,hr,hA,hB]
 | false=>
  simp only[Ka,Kn,Qb] at hl hr ⊢;refine cE ?_;simp +contextual -implicitDefEqProofs (maxSteps:=10^7) only[go_sem,seval,QL,w1,w2,w3,w4,hl,hr,hA,hB]
theorem JI (cP:Int) (cT:Bool) (cX cY cW cH:Int) (bX bY bW bH:Int) (d:Bool) (x:Int) (r:List Int) (P:Ze) (hc:0≤cX∧cX≤1000∧0≤cY∧cY≤1000∧1≤cW∧cW≤1000∧1≤cH∧cH≤1000) (hb:0≤bX∧0≤bY∧1≤bW∧1≤bH∧bX+bW≤1000∧bY+bH≤1000) (ad:¬(cX=bX∧cY=bY∧cW=bW∧cH=bH))
  (h2:d=false→Vx cX (cX+cW) bX (bX+bW)=[])
  (he:(if d then Vx cX (cX+cW) bX (bX+bW) else Vx cY (cY+cH) bY (bY+bH))=x :: r)
  (hn:if d then ¬(cX<x∧x<cX+cW) else ¬(cY<x∧x<cY+cH)) (hx:if d then bX<x∧x<bX+bW else bY<x∧x<bY+bH)
  (hp:Zd Xs Ms 140 [.d (.sl (if true=decide ((if d then cX+cW else cY+cH)≤x) then [.agg [J cP,.bool cT,J cX,J cY,J cW,J cH]] else [])),.d (.sl (if false=decide ((if d then cX+cW else cY+cH)≤x) then [.agg [J cP,.bool cT,J cX,J cY,J cW,J cH]] else [])),(.d (.agg [J bX,J bY,J bW,J bH])),(.d (J (Qb d))),(.d (J (x-(if d then bX else bY))))] []=some (JG P)) :
  Zd Xs Ms 99 [.d (.sl [.agg [J cP,.bool cT,J cX,J cY,J cW,J cH]]),(.d (.agg [J bX,J bY,J bW,J bH]))] []=some (JG P):=by
 have w1:=wi (bX+bW) (by omega) (by omega);have w2:=wi (bY+bH) (by omega) (by omega);have c2:(0:Int)<((2:Nat):Int):=by omega
 obtain⟨o,a,q,t,ks⟩:=P;simp only[JG] at hp ⊢;have e2:=ZrY cP cT cX cY cW cH 2 cX cW bX (bX+bW) (.inl ⟨rfl,rfl,rfl⟩) hc hb.1 (by omega) (by omega);have e3:=ZrY cP cT cX cY cW cH 3 cY cH bY (bY+bH) (.inr ⟨rfl,rfl,rfl⟩) hc hb.2.1 (by omega) (by omega);have ae:r=[]∨∃ y,r=[y]:=by
  have h1:(x :: r).length≤2:=by
   rw[← he];cases d
   ·exact ZnW _ _ _ _
   ·exact ZnW _ _ _ _
  match r,h1 with
  | [],_=>exact .inl rfl
  | [y],_=>exact .inr ⟨y,rfl⟩
  | y :: z :: r,h1=>simp at h1
 cases d with
 | true=>
  simp only[Km,Qb] at he hn hx hp;rw[he] at e2;have w3:=wi (x-bX) (by omega) (by omega);have p1:=ZjS cP cT cX cY cW cH 2 cX cW x true (.inl ⟨rfl,rfl,rfl⟩) hc hn;have p2:=ZjS cP cT cX cY cW cH 2 cX cW x false (.inl ⟨rfl,rfl,rfl⟩) hc hn;generalize aa:(if true=decide (cX+cW≤x) then [D.agg [J cP,.bool cT,J cX,J cY,J cW,J cH]] else [])=A at p1 hp;have hA:uni 6 A:=by rw[← aa];split<;>simp[uni,D.cells]
  generalize ab:(if false=decide (cX+cW≤x) then [D.agg [J cP,.bool cT,J cX,J cY,J cW,J cH]] else [])=B at p2 hp;have hB:uni 6 B:=by rw[← ab];split<;>simp[uni,D.cells]
  refine cE ?_;simp +contextual -implicitDefEqProofs (maxSteps:=10^7) only[go_sem,seval,YU,ad,← Ld];refine ZE Xs Ms ?_;rcases ae with rfl | ⟨y,rfl⟩
  ·simp only[Kk,Ks,X3] at e2;simp +contextual -implicitDefEqProofs only[go_sem,seval,w1,e2];refine ZE Xs Ms ?_;simp +contextual -implicitDefEqProofs only[go_sem,seval,p1,p2,w3,hp,hA,hB,c2]
  ·simp only[Kk,Ks,X3] at e2;simp +contextual -implicitDefEqProofs only[go_sem,seval,w1,e2];refine ZE Xs Ms ?_;simp +contextual -implicitDefEqProofs only[go_sem,seval,p1,p2,w3,hp,hA,hB,c2]
 | false=>
  simp only[Ka,Kn,Qb] at he hn hx hp;rw[h2 rfl] at e2;rw[he] at e3;simp only[Ks] at e2;have w3:=wi (x-bY) (by omega) (by omega);have p1:=ZjS cP cT cX cY cW cH 3 cY cH x true (.inr ⟨rfl,rfl,rfl⟩) hc hn;have p2:=ZjS cP cT cX cY cW cH 3 cY cH x false (.inr ⟨rfl,rfl,rfl⟩) hc hn;generalize aa:(if true=decide (cY+cH≤x) then [D.agg [J cP,.bool cT,J cX,J cY,J cW,J cH]] else [])=A at p1 hp;have hA:uni 6 A:=by rw[← aa];split<;>simp[uni,D.cells]
  generalize ab:(if false=decide (cY+cH≤x) then [D.agg [J cP,.bool cT,J cX,J cY,J cW,J cH]] else [])=B at p2 hp;have hB:uni 6 B:=by rw[← ab];split<;>simp[uni,D.cells]
  refine cE ?_;simp +contextual -implicitDefEqProofs (maxSteps:=10^7) only[go_sem,seval,YU,ad,← Ld];refine ZE Xs Ms ?_;simp +contextual -implicitDefEqProofs only[go_sem,seval,w1,e2];refine ZE Xs Ms ?_;simp +contextual -implicitDefEqProofs only[go_sem,seval];refine ZE Xs Ms ?_;rcases ae with rfl | ⟨y,rfl⟩
  ·simp only[Kk,Ks,X3] at e3;simp +contextual -implicitDefEqProofs only[go_sem,seval,w1,w2,e3];refine ZE Xs Ms ?_;simp +contextual -implicitDefEqProofs only[go_sem,seval,p1,p2,w3,hp,hA,hB,c2]
  ·simp only[Kk,Ks,X3] at e3;simp +contextual -implicitDefEqProofs only[go_sem,seval,w1,w2,e3];refine ZE Xs Ms ?_;simp +contextual -implicitDefEqProofs only[go_sem,seval,p1,p2,w3,hp,hA,hB,c2]
def Qd (i:Int) (t:Bool) (X Y W H bX bY bW bH:Int):BT:=
 let t4:=if Y+H<bY+bH then BT.cut false H (.pane i t) .waste else .pane i t
 let t3:=if bY<Y then BT.cut false (Y-bY) .waste t4 else t4
 let t2:=if X+W<bX+bW then BT.cut true W t3 .waste else t3
 if bX<X then BT.cut true (X-bX) .waste t2 else t2
def ZdX (X Y W H bX bY bW bH:Int):Prop:=0≤bX∧bX≤X∧0≤bY∧bY≤Y∧1≤W∧1≤H∧X+W≤bX+bW∧Y+H≤bY+bH∧bX+bW≤1000∧bY+bH≤1000
theorem ZiI (cP:Int) (cT:Bool) (cX cY cW cH:Int) (bH:Int) (h:ZdX cX cY cW cH cX cY cW bH):Zd Xs Ms 99 [.d (.sl [.agg [J cP,.bool cT,J cX,J cY,J cW,J cH]]),.d (.agg [J cX,J cY,J cW,J bH])] []=some (JG (Qd cP cT cX cY cW cH cX cY cW bH).plan):=by
 have hh:=h;unfold ZdX at h;unfold Qd;rw[Kd (show ¬cX<cX by omega),Kd (show ¬cX+cW<cX+cW by omega),Kd (show ¬cY<cY by omega)];by_cases hl:cY+cH<cY+bH
 ·rw[Kg hl];have hb:=JH [D.agg [J cP,.bool cT,J cX,J cY,J cW,J cH]] [] cX cY cW bH false cH (.pane cP cT) .waste (by simp[uni,D.cells]) (by simp[uni]) (by unfold R64;omega) (by unfold R64;omega) (by unfold R64;omega) (by unfold R64;omega) (ZiH _ _ _ _ _ _) (Zbb _ _ _ _);refine JI cP cT cX cY cW cH cX cY cW bH false (cY+cH) [] _ (by omega) (by omega) (by omega) (fun _=>?_) ?_ ?_ ?_ ?_
  ·unfold Vx;rw[Kd (by omega),Kd (by omega)];rfl
  ·simp only[Ka,Kn];unfold Vx;rw[Kd (by omega),Kg (by omega)];rfl
  ·simp only[Ka,Kn];omega
  ·simp only[Ka,Kn];omega
  ·simp only[Ka,Kn,Kag,decide_true,Km];rw[show cY+cH-cY=cH by omega];exact hb
 ·rw[Kd hl];have:bH=cH:=by omega
  subst this;exact ZiH _ _ _ _ _ _
theorem ZiJ (cP:Int) (cT:Bool) (cX cY cW cH:Int) (bY bH:Int) (h:ZdX cX cY cW cH cX bY cW bH):Zd Xs Ms 99 [.d (.sl [.agg [J cP,.bool cT,J cX,J cY,J cW,J cH]]),.d (.agg [J cX,J bY,J cW,J bH])] []=some (JG (Qd cP cT cX cY cW cH cX bY cW bH).plan):=by
 by_cases hl:bY<cY
 ·have h4:=ZiI cP cT cX cY cW cH (bY+bH-cY) (by unfold ZdX at h ⊢;omega);unfold ZdX at h;have e:Qd cP cT cX cY cW cH cX bY cW bH=.cut false (cY-bY) .waste (Qd cP cT cX cY cW cH cX cY cW (bY+bH-cY)):=by
   unfold Qd;rw[Kd (show ¬cX<cX by omega),Kd (show ¬cX+cW<cX+cW by omega),Kg hl,Kd (show ¬cX<cX by omega),Kd (show ¬cX+cW<cX+cW by omega),Kd (show ¬cY<cY by omega),show cY+(bY+bH-cY)=bY+bH by omega]
  rw[e];generalize Qd cP cT cX cY cW cH cX cY cW (bY+bH-cY)=Q at h4 ⊢;have hb:=JH [] [D.agg [J cP,.bool cT,J cX,J cY,J cW,J cH]] cX bY cW bH false (cY-bY) .waste Q (by simp[uni]) (by simp[uni,D.cells]) (by unfold R64;omega) (by unfold R64;omega) (by unfold R64;omega) (by unfold R64;omega) (Zbb _ _ _ _) (by
   simp only[Ka,Kn];rw[show bY+(cY-bY)=cY by omega,show bH-(cY-bY)=bY+bH-cY by omega];exact h4)
  refine JI cP cT cX cY cW cH cX bY cW bH false cY (if cY+cH<bY+bH then [cY+cH] else []) _ (by omega) (by omega) (by omega) (fun _=>?_) ?_ ?_ ?_ ?_
  ·unfold Vx;rw[Kd (by omega),Kd (by omega)];rfl
  ·simp only[Ka,Kn];unfold Vx;rw[Kg (by omega)];by_cases h5:cY+cH<bY+bH
   ·rw[Kg (by omega),Kg h5];rfl
   ·rw[Kd (by omega),Kd h5];rfl
  ·simp only[Ka,Kn];omega
  ·simp only[Ka,Kn];omega
  ·simp only[Ka,Kn];rw[Kj (show ¬cY+cH≤cY by omega)];simp only[KaD,Kn,Km];exact hb
 ·unfold ZdX at h;have:bY=cY:=by omega
  subst this;exact ZiI cP cT cX bY cW cH bH (by unfold ZdX;omega)
theorem ZiK (cP:Int) (cT:Bool) (cX cY cW cH:Int) (bY bW bH:Int) (h:ZdX cX cY cW cH cX bY bW bH):Zd Xs Ms 99 [.d (.sl [.agg [J cP,.bool cT,J cX,J cY,J cW,J cH]]),.d (.agg [J cX,J bY,J bW,J bH])] []=some (JG (Qd cP cT cX cY cW cH cX bY bW bH).plan):=by
 by_cases hl:cX+cW<cX+bW
 ·have h3:=ZiJ cP cT cX cY cW cH bY bH (by unfold ZdX at h ⊢;omega);unfold ZdX at h;have e:Qd cP cT cX cY cW cH cX bY bW bH=.cut true cW (Qd cP cT cX cY cW cH cX bY cW bH) .waste:=by
   unfold Qd;rw[Kd (show ¬cX<cX by omega),Kg hl,Kd (show ¬cX<cX by omega),Kd (show ¬cX+cW<cX+cW by omega)]
  rw[e];generalize Qd cP cT cX cY cW cH cX bY cW bH=Q at h3 ⊢;have hb:=JH [D.agg [J cP,.bool cT,J cX,J cY,J cW,J cH]] [] cX bY bW bH true cW Q .waste (by simp[uni,D.cells]) (by simp[uni]) (by unfold R64;omega) (by unfold R64;omega) (by unfold R64;omega) (by unfold R64;omega) (by simp only[Km];exact h3) (Zbb _ _ _ _);refine JI cP cT cX cY cW cH cX bY bW bH true (cX+cW) [] _ (by omega) (by omega) (by omega) (fun e=>by cases e) ?_ ?_ ?_ ?_
  ·simp only[Km];unfold Vx;rw[Kd (by omega),Kg (by omega)];rfl
  ·simp only[Km];omega
  ·simp only[Km];omega
  ·simp only[Km,Kag,decide_true,Ka,Kn];rw[show cX+cW-cX=cW by omega];exact hb
 ·unfold ZdX at h;have:bW=cW:=by omega
  subst this;exact ZiJ cP cT cX cY bW cH bY bH (by unfold ZdX;omega)
theorem ZkJ (cP:Int) (cT:Bool) (cX cY cW cH:Int) (bX bY bW bH:Int) (h:ZdX cX cY cW cH bX bY bW bH):Zd Xs Ms 99 [.d (.sl [.agg [J cP,.bool cT,J cX,J cY,J cW,J cH]]),.d (.agg [J bX,J bY,J bW,J bH])] []=some (JG (Qd cP cT cX cY cW cH bX bY bW bH).plan):=by
 by_cases hl:bX<cX
 ·have h2:=ZiK cP cT cX cY cW cH bY (bX+bW-cX) bH (by unfold ZdX at h ⊢;omega);unfold ZdX at h;have e:Qd cP cT cX cY cW cH bX bY bW bH=.cut true (cX-bX) .waste (Qd cP cT cX cY cW cH cX bY (bX+bW-cX) bH):=by
   unfold Qd;rw[Kg hl,Kd (show ¬cX<cX by omega),show cX+(bX+bW-cX)=bX+bW by omega]
  rw[e];generalize Qd cP cT cX cY cW cH cX bY (bX+bW-cX) bH=Q at h2 ⊢;have hb:=JH [] [D.agg [J cP,.bool cT,J cX,J cY,J cW,J cH]] bX bY bW bH true (cX-bX) .waste Q (by simp[uni]) (by simp[uni,D.cells]) (by unfold R64;omega) (by unfold R64;omega) (by unfold R64;omega) (by unfold R64;omega) (Zbb _ _ _ _) (by
   simp only[Km];rw[show bX+(cX-bX)=cX by omega,show bW-(cX-bX)=bX+bW-cX by omega];exact h2)
  refine JI cP cT cX cY cW cH bX bY bW bH true cX (if cX+cW<bX+bW then [cX+cW] else []) _ (by omega) (by omega) (by omega) (fun e=>by cases e) ?_ ?_ ?_ ?_
  ·simp only[Km];unfold Vx;rw[Kg (by omega)];by_cases h5:cX+cW<bX+bW
   ·rw[Kg (by omega),Kg h5];rfl
   ·rw[Kd (by omega),Kd h5];rfl
  ·simp only[Km];omega
  ·simp only[Km];omega
  ·simp only[Km];rw[Kj (show ¬cX+cW≤cX by omega)];simp only[KaD,Kn,Km];exact hb
 ·unfold ZdX at h;have:bX=cX:=by omega
  subst this;exact ZiK cP cT bX cY cW cH bY bW bH (by unfold ZdX;omega)
@[go_sem] theorem rep_5 {α:Type} (a:α):List.replicate 5 a=[a,a,a,a,a]:=rfl
@[go_sem] theorem rep_8 {α:Type} (a:α):List.replicate 8 a=[a,a,a,a,a,a,a,a]:=rfl
@[go_sem] theorem rep_15 {α:Type} (a:α):List.replicate 15 a=[a,a,a,a,a,a,a,a,a,a,a,a,a,a,a]:=rfl
theorem Zzy:∀ {l:List Zb} {b:Int},XL b l→∀ x∈l,b<x.Label
 | [],_,_,x,hx=>by simp at hx
 | y :: l,b,h,x,hx=>by
  rcases Ke.1 hx with rfl | hx
  ·exact h.2.1
  ·have:=Zzy h.2.2 x hx;have:=h.2.1;omega
theorem Zmr:∀ {l:List Zb} {b:Int} {k j:Nat} {x:Zb},XL b l→l[j]?=some x→QB k l x.Label=((k+j:Nat):Int)
 | [],_,k,j,x,_,hx=>by simp at hx
 | y :: l,b,k,0,x,h,hx=>by
  simp only[KX,Option.some.injEq] at hx;subst hx;simp[QB]
 | y :: l,b,k,j+1,x,h,hx=>by
  simp only[KY] at hx;have h1:=Zzy h.2.2 x (Kc hx);unfold QB;rw[Kd (by omega),Zmr (k:=k+1) h.2.2 hx];congr 1
  omega
def Zlg (i:Nat) (t:Bool) (b:Box) (q:Zb):Zn:=⟨3,q.Label,⟨0,0,0,0⟩,⟨⟨0,0,false,0⟩,0⟩,(Qd i t b.X b.Y b.W b.H 0 0 q.W q.H).plan⟩
def Zzz (s:Zq) (i:Nat) (x:Zc):Option Zn:=
 if ZeP s.Stock x.Pane<0 then none else match s.Stock[(ZeP s.Stock x.Pane).toNat]? with
 | none=>none
 | some q=>match Xk q x.Pane.W x.Pane.H with
  | some b=>some (Zlg i false b q)
  | none=>match Xk q x.Pane.H x.Pane.W with
   | some b=>some (Zlg i true b q)
   | none=>none
def JJ (s:Zq):List Zc→Nat→Option Zn
 | [],_=>none
 | x :: r,i=>match Zzz s i x with
  | some e=>if (Qt s e).isSome=true then some e else JJ s r (i+1)
  | none=>JJ s r (i+1)
def ZeQ (s:Zq):Option Zn:=JJ s s.Opn 0
theorem ZiL {s:Zq} {l:List Zc} {k i:Nat} {x:Zc} (hx:l[k]?=some x):JJ s (l.drop k) i=match Zzz s i x with
  | some e=>if (Qt s e).isSome=true then some e else JJ s (l.drop (k+1)) (i+1)
  | none=>JJ s (l.drop (k+1)) (i+1):=by
 obtain⟨h1,h2⟩:=Kb.1 hx;rw[Ku h1,h2,JJ]
theorem ZrZ {s:Zq} {l:List Zc} {i:Nat}:JJ s (l.drop l.length) i=none:=by simp[JJ]
def nxV:Option Zn→AV×List Zm
 | some ⟨k,l,⟨x,y,w,h⟩,⟨⟨pw,ph,pt,pk⟩,c⟩,.mk o a q t ks⟩=>(.tup [.agg [(.d (J k)),(.d (J l)),(.d (J x)),(.d (J y)),(.d (J w)),(.d (J h)),(.d (J pw)),(.d (J ph)),(.d (.bool pt)),(.d (J pk)),(.d (J c)),(.d (J o)),(.d (J a)),(.d (J q)),(.d (.bool t)),.own 0],(.d (.bool true))],[.row 5 (ks.map Ze.enc) true false])
 | none=>(.tup [.agg [(.d (J 0)),(.d (J 0)),(.d (J 0)),(.d (J 0)),(.d (J 0)),(.d (J 0)),(.d (J 0)),(.d (J 0)),(.d (.bool false)),(.d (J 0)),(.d (J 0)),(.d (J 0)),(.d (J 0)),(.d (J 0)),(.d (.bool false)),.own 0],(.d (.bool false))],[.row 5 [] true false])
theorem ZxB (sS:List Zb) (sO sD:List Zc) (sL sC:Int) (hv:WSh (Zq.mk sS sO sD sL sC)):Zd Xs Ms 51 [(.d (.agg [.sl (sS.map Zb.enc),.sl (sO.map Zc.enc),.sl (sD.map Zc.enc),J sL,J sC]))] []=some (nxV (ZeQ (Zq.mk sS sO sD sL sC))):=by
 have ak:=hv.2.1;have ag:=hv.1.1;simp only at ak ag;refine cE ?_;simp +contextual -implicitDefEqProofs (maxSteps:=10^7) only[go_sem,seval,ZiN];refine LO (α:=Nat) (fun i=>[(4,.d (J (i:Int)))]) (fun _=>[]) (fun i=>i≤sO.length∧JJ (Zq.mk sS sO sD sL sC) (sO.drop i) i=ZeQ (Zq.mk sS sO sD sL sC)) (fun i=>sO.length-i) 0 ⟨by omega,by simp[ZeQ]⟩ ?_;intro i ⟨hi,hp⟩ ih;by_cases ab:i<sO.length
 ·obtain⟨x,hx⟩:=Zp ab;have hw:=Zg (k:=i) (by omega);rw[ZiL hx] at hp;have aa:=hv.2.2.1 x (Kc hx);obtain⟨⟨W,H,T,K⟩,C⟩:=x;simp only at aa;have ad:1≤W∧W≤200∧1≤H∧H≤200:=⟨aa.1.1,aa.1.2.1,aa.1.2.2.1,aa.1.2.2.2.1⟩
  have ef:=ZrX sS W H T K hv.1 aa.1;unfold Zv5 at ef;rw[Kg ⟨hv.1,aa.1⟩] at ef;unfold Zzz at hp;simp only at hp;rcases ZrW sS ⟨W,H,T,K⟩ with h0 | ⟨j,q,hj,hq,ah⟩
  ·rw[Kg h0] at ef hp;simp only at hp;simp +contextual -implicitDefEqProofs (maxSteps:=10^7) only[go_sem,seval,hx,ab,hw,ef];refine ih (i+1) _ ⟨by omega,hp⟩ (by omega) ?_;simp +contextual -implicitDefEqProofs (maxSteps:=10^7) only[go_sem,seval]
  ·have al:¬(j:Int)<0:=by omega
   rw[hj,Kd al,Ky,hq] at ef hp;simp only at hp ef;have ai:=ZW hv.1.2 q (Kc hq);have af:=(Kb.1 hq).1;have el:=XX sS q.Label (by omega);rw[Zmr hv.1.2 hq,K7] at el;have f1:=UW q.Label q.W q.H q.Flaws W H ai ⟨ad.1,ad.2.1⟩ ad.2.2;have f2:=UW q.Label q.W q.H q.Flaws H W ai ad.2.2 ⟨ad.1,ad.2.1⟩;have am:=ai.1;have aj:∀ (t:Bool) (w h:Int) (b:Box),1≤w→1≤h→Xk q w h=some b→∃ (o a p:Int) (t' : Bool) (ks:List Ze),(Qd i t b.X b.Y b.W b.H 0 0 q.W q.H).plan=.mk o a p t' ks∧Zd Xs Ms 99 [.d (.sl [.agg [J i,.bool t,J b.X,J b.Y,J b.W,J b.H]]),.d (.agg [J 0,J 0,J q.W,J q.H])] []=some (.tup [.agg [(.d (J o)),(.d (J a)),(.d (J p)),(.d (.bool (t'))),.own 0],(.d (.bool true))],[.row 5 (ks.map Ze.enc) true false]):=fun t w h b an ao hb=>by
    obtain⟨g1,g2,g3,g4,g5,g6,_⟩:=ZbX hb;have e:=ZkJ i t b.X b.Y b.W b.H 0 0 q.W q.H (by unfold ZdX;omega);cases hpp:(Qd i t b.X b.Y b.W b.H 0 0 q.W q.H).plan with
    | mk o a p t' ks=>
     rw[hpp] at e;exact⟨o,a,p,t',ks,rfl,e⟩
   have ae:¬q.Label=0:=by omega
   obtain⟨qL,qW,qH,qF⟩:=q;simp only at ef el f1 f2 aj ae hp;cases h1:Xk ⟨qL,qW,qH,qF⟩ W H with
   | some b=>
    obtain⟨o,a,p,t',ks,e1,e2⟩:=aj false W H b (by omega) (by omega) h1;rw[h1] at f1 hp;unfold Zlg at hp;simp only[e1] at hp;have ea:=ZaM sS sO sD sL sC 3 qL 0 0 0 0 0 0 false 0 0 o a p t' ks hv rfl;obtain⟨bX,bY,bW,bH⟩:=b;unfold fcV at f1;simp only at f1 e2 hp;cases hap:Qt (Zq.mk sS sO sD sL sC) ⟨3,qL,⟨0,0,0,0⟩,⟨⟨0,0,false,0⟩,0⟩,.mk o a p t' ks⟩ with
    | none=>
     rw[hap] at ea hp;simp only[Kw,Ka,Kn] at hp;unfold shV at ea;simp +contextual -implicitDefEqProofs (maxSteps:=10^7) only[go_sem,seval,hx,ab,hw,ef,el,f1,e2,ea,ae,af,hq];refine ih (i+1) _ ⟨by omega,hp⟩ (by omega) ?_;simp +contextual -implicitDefEqProofs (maxSteps:=10^7) only[go_sem,seval]
    | some u=>
     rw[hap] at ea hp;simp only[K4,Km] at hp;rw[← hp];unfold shV at ea;unfold nxV;simp +contextual -implicitDefEqProofs (maxSteps:=10^7) only[go_sem,seval,hx,ab,hw,ef,el,f1,e2,ea,ae,af,hq]
   | none=>
    rw[h1] at f1 hp;unfold fcV at f1;simp only at hp;cases h2:Xk ⟨qL,qW,qH,qF⟩ H W with
    | none=>
     exfalso
     unfold okP at ah;simp only[h1,h2] at ah;simp at ah
    | some b=>
     obtain⟨o,a,p,t',ks,e1,e2⟩:=aj true H W b (by omega) (by omega) h2;rw[h2] at f2 hp;unfold Zlg at hp;simp only[e1] at hp;have ea:=ZaM sS sO sD sL sC 3 qL 0 0 0 0 0 0 false 0 0 o a p t' ks hv rfl;obtain⟨bX,bY,bW,bH⟩:=b;unfold fcV at f2;simp only at f2 e2 hp;cases hap:Qt (Zq.mk sS sO sD sL sC) ⟨3,qL,⟨0,0,0,0⟩,⟨⟨0,0,false,0⟩,0⟩,.mk o a p t' ks⟩ with
     | none=>
      rw[hap] at ea hp;simp only[Kw,Ka,Kn] at hp;unfold shV at ea;simp +contextual -implicitDefEqProofs (maxSteps:=10^7) only[go_sem,seval,hx,ab,hw,ef,el,f1,f2,e2,ea,ae,af,hq];refine ih (i+1) _ ⟨by omega,hp⟩ (by omega) ?_;simp +contextual -implicitDefEqProofs (maxSteps:=10^7) only[go_sem,seval]
     | some u=>
      rw[hap] at ea hp;simp only[K4,Km] at hp;rw[← hp];unfold shV at ea;unfold nxV;simp +contextual -implicitDefEqProofs (maxSteps:=10^7) only[go_sem,seval,hx,ab,hw,ef,el,f1,f2,e2,ea,ae,af,hq]
 ·have:i=sO.length:=by omega
  subst this;rw[ZrZ] at hp;rw[← hp];unfold nxV;simp +contextual -implicitDefEqProofs (maxSteps:=10^7) only[go_sem,seval]
theorem Zlh:ZK ⟨[],[],[],0,0⟩:=by
 refine⟨⟨by simp,trivial⟩,⟨by simp,trivial,by simp[Qp]⟩,⟨by simp,trivial,by simp[Qp]⟩,?_⟩;simp[Y8,Zaz]
def ZCP (s:Zq) (n:Int):Option Zw:=if ZK s then (match Zzx s.Stock n with
 | some (_,q)=>some ⟨q.W,q.H,s.Opn.map Zc.Pane⟩
 | none=>none) else none
def wkV:Option Zw→AV×List Zm
 | some k=>(.tup [.agg [(.d (J (k.W))),(.d (J (k.H))),.own 0],(.d (.bool true))],[.row 4 (k.Panes.map Pane.enc) true false])
 | none=>(.tup [.agg [(.d (J 0)),(.d (J 0)),.own 0],(.d (.bool false))],[.row 4 [] true false])
theorem Zms (sS:List Zb) (sO sD:List Zc) (sL sC:Int) (n:Int):Zd Xs Ms 83 [(.d (.agg [.sl (sS.map Zb.enc),.sl (sO.map Zc.enc),.sl (sD.map Zc.enc),J sL,J sC])),(.d (J n))] []=some (wkV (ZCP (Zq.mk sS sO sD sL sC) n)):=by
 have e1:=Z7 sS sO sD sL sC;unfold ZCP;by_cases hv:ZK (Zq.mk sS sO sD sL sC)
 ·rw[Kh hv] at e1;rw[Kg hv];have ab:=hv.1.1;have h8:=hv.2.1.1;simp only at ab h8;have e2:=YA sS n (by omega);by_cases hf:QB 0 sS n<0
  ·rw[Zgp hf];unfold wkV;refine cE ?_;simp +contextual -implicitDefEqProofs (maxSteps:=10^7) only[go_sem,seval,Zb5,e1,e2,hf]
  ·obtain⟨a,x,ha,hx⟩:=ZbV (by omega:0≤QB 0 sS n);rw[ZdB ha hx];rw[ha] at e2;have ad:¬(a:Int)<0:=by omega
   have aa:=(Kb.1 hx).1;obtain⟨xL,xW,xH,xF⟩:=x;unfold wkV;refine cE ?_;simp +contextual -implicitDefEqProofs (maxSteps:=10^7) only[go_sem,seval,Zb5,e1,e2,ad,aa,hx];refine LO (α:=Nat) (fun i=>[(37,.d (J (i:Int)))]) (fun i=>[(2,.row 4 (((sO.take i).map Zc.Pane).map Pane.enc) true false)]) (fun i=>i≤sO.length) (fun i=>sO.length-i) 0 (by omega) ?_;intro i hi ih;by_cases aa:i<sO.length
   ·obtain⟨x,hx⟩:=Zp aa;have hw:=Zg (k:=i) (by omega);have hm:=ZaK hx;have ae:(sO.take i).length≤i:=by simp;omega
    have hr:((sO.take i).length+1)*32≤140737488355328∧(sO.take i).length≤140737488355327:=by omega
    obtain⟨⟨W,H,T,K⟩,C⟩:=x;simp only at hm;simp +contextual -implicitDefEqProofs only[go_sem,seval,hx,aa,hw,hr];refine ih (i+1) _ (by omega) (by omega) ?_;simp +contextual -implicitDefEqProofs only[go_sem,seval,hm]
    first | rfl | (simp;done) | (simp;rfl)
   ·have:i=sO.length:=by omega
    subst this;simp +contextual -implicitDefEqProofs only[go_sem,seval];simp
 ·rw[Kj hv] at e1;rw[Kd hv];unfold wkV;refine cE ?_;simp +contextual -implicitDefEqProofs (maxSteps:=10^7) only[go_sem,seval,Zb5,e1]
end Go.Proofs.YtfnegoimdljanaaGreatDoor
