import Derived.Test.YtfnegoimdljanaaGreatDoorCC7
set_option linter.unusedSimpArgs false
set_option linter.unusedVariables false
namespace Go.Proofs.YtfnegoimdljanaaGreatDoor
open Go Go.Abs Go.Abs.E Go.Abs.L
set_option maxRecDepth 20000
set_option maxHeartbeats 4000000
def Zrs (F:List Box) (W w h y:Int):Nat→Int→Option Box
 | 0,_=>none
 | n+1,x=>if x+w≤W then (if Z3 F ⟨x,y,w,h⟩ then some ⟨x,y,w,h⟩ else Zrs F W w h y n (x+1)) else none
def Zrt (F:List Box) (W H w h:Int):Nat→Int→Option Box
 | 0,_=>none
 | n+1,y=>if y+h≤H then (match Zrs F W w h y (W.toNat+1) 0 with
  | some b=>some b
  | none=>Zrt F W H w h n (y+1)) else none
def Q5 (q:Zb) (w h:Int):Option Box:=Zrt q.Flaws q.W q.H w h (q.H.toNat+1) 0
theorem ZtQ {F:List Box} {W w h y:Int}:∀ {n:Nat} {x:Int} {b:Box},Zrs F W w h y n x=some b→x≤b.X∧b.X+w≤W∧b.Y=y∧b.W=w∧b.H=h∧Z3 F b
 | 0,x,b,e=>by simp[Zrs] at e
 | n+1,x,b,e=>by
  unfold Zrs at e;split at e
  ·split at e
   ·cases e;exact⟨Kab _,by assumption,rfl,rfl,rfl,by assumption⟩
   ·obtain⟨h1,h2⟩:=ZtQ e;exact⟨o_,h2⟩
  ·cases e
theorem ZtR {F:List Box} {W H w h:Int}:∀ {n:Nat} {y:Int} {b:Box},Zrt F W H w h n y=some b→0≤b.X∧b.X+w≤W∧y≤b.Y∧b.Y+h≤H∧b.W=w∧b.H=h∧Z3 F b
 | 0,y,b,e=>by simp[Zrt] at e
 | n+1,y,b,e=>by
  unfold Zrt at e;split at e
  ·rename_i hy;split at e
   ·rename_i c hc;cases e;obtain⟨h1,h2,h3,h4,h5,h6⟩:=ZtQ hc;exact⟨h1,h2,o_,o_,h4,h5,h6⟩
   ·obtain⟨h1,h2,h3,h4⟩:=ZtR e;exact⟨h1,h2,o_,h4⟩
  ·cases e
theorem Zau {q:Zb} {w h:Int} {b:Box} (e:Q5 q w h=some b):0≤b.X∧b.X+w≤q.W∧0≤b.Y∧b.Y+h≤q.H∧b.W=w∧b.H=h∧Z3 q.Flaws b:=ZtR e
def fcV:Option Box→AV×List Zk
 | some b=>(.tup [.d b.enc,(.d (.bool true))],[])
 | none=>(.tup [.d (.agg [J 0,J 0,J 0,J 0]),(.d (.bool false))],[])
theorem W8 (qL qW qH:Int) (qF:List Box) (w h:Int) (hq:VPc (Zb.mk qL qW qH qF)) (hw:1≤w∧w≤200) (hh:1≤h∧h≤200):v_ 98 [(.d (.agg [J qL,J qW,J qH,.sl (qF.map Box.enc)])),(.d (J w)),(.d (J h))] []=some (fcV (Q5 (Zb.mk qL qW qH qF) w h)):=by
 have hF:∀ f∈qF,VB f:=fun f hf=>(hq.2 f hf).1;obtain⟨_,_,af,ag,ah,ai,aj⟩:=hq.1;simp only at af ag ah ai aj;clear hq;unfold Q5;simp only;refine cE ?_;simp (maxSteps:=10^7) +contextual -implicitDefEqProofs only[go_sem,seval,ZhN];refine LO (α:=Nat) (fun y=>[(8,.d (J (y:Int)))]) (fun _=>[]) (fun y=>(y:Int)≤qH∧Zrt qF qW qH w h (qH.toNat+1-y) y=Zrt qF qW qH w h (qH.toNat+1) 0) (fun y=>qH.toNat+1-y) 0 ⟨o_,by simp⟩ ?_;intro y ⟨hy,hp⟩ ih;obtain⟨n,hn⟩:∃ n,qH.toNat+1-y=n+1:=⟨qH.toNat-y,o_⟩
 rw[hn,Zrt] at hp;have wy:=wi ((y:Int)+h) o_ o_;by_cases ad:(y:Int)+h≤qH
 ·rw[Kj ad] at hp;simp (maxSteps:=10^7) +contextual -implicitDefEqProofs only[go_sem,seval,wy,ad];refine Yh Xs Ms (st0:=?st1) (α:=Nat) (fun x=>[(9,.d (J (x:Int)))]) (fun _=>[]) (fun x=>(x:Int)≤qW∧Zrs qF qW w h y (qW.toNat+1-x) x=Zrs qF qW w h y (qW.toNat+1) 0) (fun x=>qW.toNat+1-x) 0 ?hc2 ⟨o_,by simp⟩ ?h02 ?step2
  case hc2=>simp (maxSteps:=10^7) +contextual -implicitDefEqProofs only[go_sem,seval]<;>exact rfl
  case h02=>rfl
  case step2=>
   intro x ⟨hx,aa⟩ ak;obtain⟨m,hm⟩:∃ m,qW.toNat+1-x=m+1:=⟨qW.toNat-x,o_⟩
   rw[hm,Zrs] at aa;have wx:=wi ((x:Int)+w) o_ o_;have al:=Zh (k:=x) o_;have am:=Zh (k:=y) o_;by_cases ab:(x:Int)+w≤qW
   ·rw[Kj ab] at aa;have ec:=Zle qL qW qH qF x y w h hF (by simp only[VB];omega) o_;by_cases ae:Z3 qF ⟨x,y,w,h⟩
    ·rw[Kj ae] at aa;rw[← aa] at hp;simp only at hp;rw[Kg ae] at ec;simp (maxSteps:=10^7) +contextual -implicitDefEqProofs only[go_sem,seval,wx,ab,ec];rw[← hp];rfl
    ·rw[Ke ae] at aa;rw[Ki ae] at ec;simp (maxSteps:=10^7) +contextual -implicitDefEqProofs only[go_sem,seval,wx,ab,ec,al];refine ak (x+1) _ ⟨o_,?_⟩ o_ ?_
     ·rw[← aa];have:qW.toNat+1-(x+1)=m:=o_
      rw[this];rfl
     ·simp (maxSteps:=10^7) +contextual -implicitDefEqProofs only[go_sem,seval]
   ·rw[Ke ab] at aa;rw[← aa] at hp;simp only at hp;simp (maxSteps:=10^7) +contextual -implicitDefEqProofs only[go_sem,seval,wx,ab,am];refine ih (y+1) _ ⟨o_,?_⟩ o_ ?_
    ·rw[← hp];have:qH.toNat+1-(y+1)=n:=o_
     rw[this];rfl
    ·simp (maxSteps:=10^7) +contextual -implicitDefEqProofs only[go_sem,seval]
 ·rw[Ke ad] at hp;simp (maxSteps:=10^7) +contextual -implicitDefEqProofs only[go_sem,seval,wy,ad];rw[← hp];rfl
def okP (p:Pane) (q:Zb):Bool:=(Q5 q p.W p.H).isSome || (p.Turns&&(Q5 q p.H p.W).isSome)
def Zfw (l:List Zb) (b:Int):Int:=match l[b.toNat]? with
 | some q=>q.W*q.H
 | none=>0
def ZaI (L:List Zb) (p:Pane):List Zb→Nat→Int→Int
 | [],_,b=>b
 | x :: r,i,b=>ZaI L p r (i+1) (if okP p x=true∧(b<0∨x.W*x.H<Zfw L b) then (i:Int) else b)
theorem Zn1 {L l:List Zb} {p:Pane} {k i:Nat} {x:Zb} {b:Int} (hx:l[k]?=some x):ZaI L p (l.drop k) i b=ZaI L p (l.drop (k+1)) (i+1) (if okP p x=true∧(b<0∨x.W*x.H<Zfw L b) then (i:Int) else b):=by
 obtain⟨h1,h2⟩:=Kc.1 hx;rw[Kx h1,h2,ZaI]
theorem Zru {L l:List Zb} {p:Pane} {i:Nat} {b:Int}:ZaI L p (l.drop l.length) i b=b:=by simp[ZaI]
def Zdf (L:List Zb) (p:Pane):Int:=ZaI L p L 0 (-1)
def ZtS (L:List Zb) (p:Pane):Int:=if VSt L∧VP p then (if Zdf L p<0 then 0 else match L[(Zdf L p).toNat]? with
 | some q=>q.Label
 | none=>0) else 0
theorem ZtT (L:List Zb) (p:Pane):∀ (l:List Zb) (i:Nat) (b:Int),(∀ (j:Nat) (x:Zb),l[j]?=some x→L[i+j]?=some x)→(b<0∨∃ (j:Nat) (x:Zb),b=(j:Int)∧L[j]?=some x∧okP p x=true)→ZaI L p l i b<0∨∃ (j:Nat) (x:Zb),ZaI L p l i b=(j:Int)∧L[j]?=some x∧okP p x=true
 | [],i,b,_,hb=>hb
 | x :: r,i,b,hl,hb=>by
  unfold ZaI;refine ZtT L p r (i+1) _ (fun j y hy=>by have:=hl (j+1) y (by simpa using hy);rw[show i+1+j=i+(j+1) by omega];exact this) ?_;split
  ·rename_i hc;exact .inr ⟨i,x,rfl,by have:=hl 0 x (by simp);simpa using this,hc.1⟩
  ·exact hb
theorem Zrv (L:List Zb) (p:Pane):Zdf L p<0∨∃ (j:Nat) (x:Zb),Zdf L p=(j:Int)∧L[j]?=some x∧okP p x=true:=
 ZtT L p L 0 (-1) (fun j x h=>by simpa using h) (.inl o_)
theorem Zrw (l:List Zb) (pW pH:Int) (pT:Bool) (pK:Int) (hv:VSt l) (hp:VP (Pane.mk pW pH pT pK)):v_ 96 [(.d (.sl (l.map Zb.enc))),(.d (.agg [J pW,J pH,.bool pT,J pK]))] []=some ((.d (J (ZtS l (Pane.mk pW pH pT pK)))),[]):=by
 have e1:=Yn l (by have:=hv.1;omega) (fun x hx=>⟨by have:=(Zbw hv).2 x hx;omega,Zlq (ZU hv.2 x hx)⟩);have e2:=YP pW pH pT pK;rw[Kg hv] at e1;rw[Kg hp] at e2;have ad:=fun x hx=>ZU hv.2 x hx;have aj:=hv.1;unfold ZtS;rw[Kj ⟨hv,hp⟩];have ae:1≤pW∧pW≤200∧1≤pH∧pH≤200:=⟨hp.1,hp.2.1,hp.2.2.1,hp.2.2.2.1⟩
 clear hv hp;refine cE ?_;simp (maxSteps:=10^7) +contextual -implicitDefEqProofs only[go_sem,seval,Zjo,e1,e2];refine LO (α:=Nat×Int) (fun s=>[(6,.d (J (s.1:Int))),(5,.d (J s.2))]) (fun _=>[]) (fun s=>s.1≤l.length∧ZaI l (Pane.mk pW pH pT pK) (l.drop s.1) s.1 s.2=Zdf l (Pane.mk pW pH pT pK)∧(s.2=-1∨∃ j:Nat,s.2=(j:Int)∧j<l.length)) (fun s=>l.length-s.1) (0,-1) ⟨by simp,by simp[Zdf],.inl rfl⟩ ?_;intro⟨i,b⟩ ⟨hi,hq,hb⟩ ih;simp only at hi hq hb;by_cases ab:i<l.length
 ·obtain⟨x,hx⟩:=Zp ab;have hw:=Zh (k:=i) o_;rw[Zn1 hx] at hq;have ag:=ad x (Kb hx);have f1:=W8 x.Label x.W x.H x.Flaws pW pH ag ⟨ae.1,ae.2.1⟩ ae.2.2;have f2:=W8 x.Label x.W x.H x.Flaws pH pW ag ae.2.2 ⟨ae.1,ae.2.1⟩;have am:=ag.1;have ak:0≤x.W*x.H∧x.W*x.H≤40000:=UY (b:=⟨0,0,x.W,x.H⟩) (by simp only[VB];omega);have aa:okP (Pane.mk pW pH pT pK) x=((Q5 ⟨x.Label,x.W,x.H,x.Flaws⟩ pW pH).isSome || (pT&&(Q5 ⟨x.Label,x.W,x.H,x.Flaws⟩ pH pW).isSome)):=rfl;obtain⟨L,W,H,F⟩:=x;simp only at f1 f2 ak aa;have u1:=wi (W*H) o_ o_;cases h1:Q5 ⟨L,W,H,F⟩ pW pH with
  | some b1=>
   rw[h1] at f1 aa;unfold fcV at f1;simp only[Lg,Bool.true_or] at aa;obtain⟨bX,bY,bW,bH⟩:=b1;rcases hb with hb | ⟨j,hb,hj⟩
   ·subst hb;rw[Kj ⟨aa,.inl o_⟩] at hq;simp (maxSteps:=10^7) +contextual -implicitDefEqProofs only[go_sem,seval,hx,ab,hw,f1];refine ih (i+1,(i:Int)) _ ⟨p_,hq,.inr ⟨i,rfl,ab⟩⟩ p_ ?_;simp (maxSteps:=10^7) +contextual -implicitDefEqProofs only[go_sem,seval]
   ·subst hb;obtain⟨y,hy⟩:=Zp hj;have al:=(ad y (Kb hy)).1;have ah:0≤y.W*y.H∧y.W*y.H≤40000:=UY (b:=⟨0,0,y.W,y.H⟩) (by simp only[VB];omega);have af:¬(j:Int)<0:=o_
    have ai:Zfw l (j:Int)=y.W*y.H:=by unfold Zfw;rw[Ky,hy]
    rw[ai] at hq;obtain⟨yL,yW,yH,yF⟩:=y;simp only at ah hq;have u2:=wi (yW*yH) o_ o_;by_cases hc:W*H<yW*yH
    ·rw[Kj ⟨aa,.inr hc⟩] at hq;simp (maxSteps:=10^7) +contextual -implicitDefEqProofs only[go_sem,seval,hx,ab,hw,af,hj,hy,u1,u2,hc,f1];refine ih (i+1,(i:Int)) _ ⟨p_,hq,.inr ⟨i,rfl,ab⟩⟩ p_ ?_;simp (maxSteps:=10^7) +contextual -implicitDefEqProofs only[go_sem,seval]
    ·rw[Ke (fun h=>by rcases h.2 with h | h<;>omega)] at hq;simp (maxSteps:=10^7) +contextual -implicitDefEqProofs only[go_sem,seval,hx,ab,hw,af,hj,hy,u1,u2,hc,f1];refine ih (i+1,(j:Int)) _ ⟨p_,hq,.inr ⟨j,rfl,hj⟩⟩ p_ ?_;simp (maxSteps:=10^7) +contextual -implicitDefEqProofs only[go_sem,seval]
  | none=>
   rw[h1] at f1 aa;unfold fcV at f1;cases pT with
   | false=>
    simp only[KP,Bool.false_and,Bool.or_self] at aa;rw[Ke (fun h=>by rw[aa] at h;exact absurd h.1 (by simp))] at hq;simp (maxSteps:=10^7) +contextual -implicitDefEqProofs only[go_sem,seval,hx,ab,hw,f1];refine ih (i+1,b) _ ⟨p_,hq,hb⟩ p_ ?_;simp (maxSteps:=10^7) +contextual -implicitDefEqProofs only[go_sem,seval]
   | true=>
    cases h2:Q5 ⟨L,W,H,F⟩ pH pW with
    | none=>
     rw[h2] at f2 aa;unfold fcV at f2;simp only[KP,Kaf,Bool.or_self] at aa;rw[Ke (fun h=>by rw[aa] at h;exact absurd h.1 (by simp))] at hq;simp (maxSteps:=10^7) +contextual -implicitDefEqProofs only[go_sem,seval,hx,ab,hw,f1,f2];refine ih (i+1,b) _ ⟨p_,hq,hb⟩ p_ ?_;simp (maxSteps:=10^7) +contextual -implicitDefEqProofs only[go_sem,seval]
    | some b2=>
     rw[h2] at f2 aa;unfold fcV at f2;simp only[Lg,KP,Kaf,LN] at aa;obtain⟨bX,bY,bW,bH⟩:=b2;rcases hb with hb | ⟨j,hb,hj⟩
     ·subst hb;rw[Kj ⟨aa,.inl o_⟩] at hq;simp (maxSteps:=10^7) +contextual -implicitDefEqProofs only[go_sem,seval,hx,ab,hw,f1,f2];refine ih (i+1,(i:Int)) _ ⟨p_,hq,.inr ⟨i,rfl,ab⟩⟩ p_ ?_;simp (maxSteps:=10^7) +contextual -implicitDefEqProofs only[go_sem,seval]
     ·subst hb;obtain⟨y,hy⟩:=Zp hj;have al:=(ad y (Kb hy)).1;have ah:0≤y.W*y.H∧y.W*y.H≤40000:=UY (b:=⟨0,0,y.W,y.H⟩) (by simp only[VB];omega);have af:¬(j:Int)<0:=o_
      have ai:Zfw l (j:Int)=y.W*y.H:=by unfold Zfw;rw[Ky,hy]
      rw[ai] at hq;obtain⟨yL,yW,yH,yF⟩:=y;simp only at ah hq;have u2:=wi (yW*yH) o_ o_;by_cases hc:W*H<yW*yH
      ·rw[Kj ⟨aa,.inr hc⟩] at hq;simp (maxSteps:=10^7) +contextual -implicitDefEqProofs only[go_sem,seval,hx,ab,hw,af,hj,hy,u1,u2,hc,f1,f2];refine ih (i+1,(i:Int)) _ ⟨p_,hq,.inr ⟨i,rfl,ab⟩⟩ p_ ?_;simp (maxSteps:=10^7) +contextual -implicitDefEqProofs only[go_sem,seval]
      ·rw[Ke (fun h=>by rcases h.2 with h | h<;>omega)] at hq;simp (maxSteps:=10^7) +contextual -implicitDefEqProofs only[go_sem,seval,hx,ab,hw,af,hj,hy,u1,u2,hc,f1,f2];refine ih (i+1,(j:Int)) _ ⟨p_,hq,.inr ⟨j,rfl,hj⟩⟩ p_ ?_;simp (maxSteps:=10^7) +contextual -implicitDefEqProofs only[go_sem,seval]
 ·have:i=l.length:=o_
  subst this;rw[Zru] at hq;subst hq;rcases hb with hb | ⟨j,hb,hj⟩
  ·have h0:Zdf l (Pane.mk pW pH pT pK)<0:=o_
   simp (maxSteps:=10^7) +contextual -implicitDefEqProofs only[go_sem,seval,hb]
  ·have h0:¬Zdf l (Pane.mk pW pH pT pK)<0:=o_
   have h1:¬(j:Int)<0:=o_
   obtain⟨y,hy⟩:=Zp hj;simp only[hb,Ke h1,Ky,hy];obtain⟨yL,yW,yH,yF⟩:=y;simp (maxSteps:=10^7) +contextual -implicitDefEqProofs only[go_sem,seval,h1,hj,hy]
def Y0 (lo hi fr to:Int):List Int:=(if fr<lo∧lo<to then [lo] else [])++(if fr<hi∧hi<to then [hi] else [])
theorem ZAv {lo hi fr to x:Int} (h:x∈Y0 lo hi fr to):x<to:=by
 unfold Y0 at h;rcases Kh.1 h with h | h
 ·split at h
  ·simp at h;omega
  ·simp at h
 ·split at h
  ·simp at h;omega
  ·simp at h
theorem Zm8 (lo hi fr to:Int):(Y0 lo hi fr to).length≤2:=by
 unfold Y0;split<;>split<;>simp
theorem ZAw {lo hi fr t:Int} (hl:lo<hi) (hf:fr<t) (h:t=lo∨t=hi):Y0 lo hi fr (t+1)=Y0 lo hi fr t++[t]:=by
 unfold Y0;rcases h with h | h
 ·rw[Kj (show fr<lo∧lo<t+1 by omega),Ke (show ¬(fr<hi∧hi<t+1) by omega),Ke (show ¬(fr<lo∧lo<t) by omega),Ke (show ¬(fr<hi∧hi<t) by omega),h];rfl
 ·rw[Kj (show fr<hi∧hi<t+1 by omega),Ke (show ¬(fr<hi∧hi<t) by omega)];by_cases h2:fr<lo
  ·rw[Kj (show fr<lo∧lo<t+1 by omega),Kj (show fr<lo∧lo<t by omega),h];rfl
  ·rw[Ke (show ¬(fr<lo∧lo<t+1) by omega),Ke (show ¬(fr<lo∧lo<t) by omega),h];rfl
theorem ZB0 {lo hi fr t:Int} (h:¬(t=lo∨t=hi)):Y0 lo hi fr (t+1)=Y0 lo hi fr t:=by
 unfold Y0;have h1:(fr<lo∧lo<t+1)=(fr<lo∧lo<t):=propext o_;have h2:(fr<hi∧hi<t+1)=(fr<hi∧hi<t):=propext o_;simp only[h1,h2]
theorem Zlx:∀ (l:List Int) (k:Nat) (n:Int),n∉l→Xt k l n=-1
 | [],_,_,_=>rfl
 | x :: l,k,n,h=>by
  simp only[Kd,not_or] at h;unfold Xt;rw[Ke (fun e=>h.1 e.symm),Zlx l (k+1) n h.2]
theorem Zrx (cP:Int) (cT:Bool) (cX cY cW cH:Int) (op lo n fr to:Int) (ho:(op=2∧lo=cX∧n=cW)∨(op=3∧lo=cY∧n=cH)) (hc:0≤cX∧cX≤1000∧0≤cY∧cY≤1000∧1≤cW∧cW≤1000∧1≤cH∧cH≤1000) (h0:0≤fr) (h1:fr<to) (h2:to≤1000):v_ 138 [.d (.sl [.agg [J cP,.bool cT,J cX,J cY,J cW,J cH]]),(.d (J op)),(.d (J fr)),(.d (J to))] []=some (.own 0,[.row 1 ((Y0 lo (lo+n) fr to).map Yi) true false]):=by
 have w0:=wi (fr+1) o_ o_;have wx:=wi (cX+cW) o_ o_;have wy:=wi (cY+cH) o_ o_;have hn:lo<lo+n:=o_
 have ae:Y0 lo (lo+n) fr (fr+1)=[]:=by unfold Y0;rw[Ke o_,Ke o_];rfl
 refine cE ?_;simp (maxSteps:=10^7) +contextual -implicitDefEqProofs only[go_sem,seval,Znc,w0];refine Yh Xs Ms (st0:=?st0) (α:=Int) (fun t=>[(10,.d (J t))]) (fun t=>[(0,.row 1 ((Y0 lo (lo+n) fr t).map Yi) true false)]) (fun t=>fr+1≤t∧t≤to) (fun t=>(to-t).toNat) (fr+1) ?hc o_ ?h0 ?step
 case hc=>simp (maxSteps:=10^7) +contextual -implicitDefEqProofs only[go_sem,seval]<;>exact rfl
 case h0=>rw[ae];rfl
 case step=>
  intro t ⟨ag,ah⟩ ih;by_cases ab:t<to
  ·have wt:=wi (t+1) o_ o_;have ai:=Zm8 lo (lo+n) fr t;have hr:((Y0 lo (lo+n) fr t).length+1)*8≤140737488355328∧(Y0 lo (lo+n) fr t).length≤140737488355327:=o_
   have ad:=Zk7 (Y0 lo (lo+n) fr t) t o_;rw[Zlx _ _ _ (fun h=>by have:=ZAv h;omega)] at ad;by_cases hm:t=lo∨t=lo+n
   ·have hy:=ZAw hn (show fr<t by omega) hm;have af:(1:Int)+0=1:=rfl;rcases ho with ⟨o1,o2,o3⟩ | ⟨o1,o2,o3⟩
    ·have aa : (t=cX∨t=cX+cW):=o_
     simp (maxSteps:=10^7) +contextual -implicitDefEqProofs only[go_sem,seval,ab];refine ZB Xs Ms ?_;simp (maxSteps:=10^7) +contextual -implicitDefEqProofs only[go_sem,seval,wx,o1,aa,ad,hr,← La];refine ZB Xs Ms ?_;simp (maxSteps:=10^7) +contextual -implicitDefEqProofs only[go_sem,seval,wt];refine ih (t+1) _ o_ o_ ?_;simp (maxSteps:=10^7) +contextual -implicitDefEqProofs only[go_sem,seval,hy,o1,KJ,Kk,Kt]
    ·have aa : (t=cY∨t=cY+cH):=o_
     simp (maxSteps:=10^7) +contextual -implicitDefEqProofs only[go_sem,seval,ab];refine ZB Xs Ms ?_;simp (maxSteps:=10^7) +contextual -implicitDefEqProofs only[go_sem,seval,wx,wy,o1,aa,ad,hr,← La];refine ZB Xs Ms ?_;simp (maxSteps:=10^7) +contextual -implicitDefEqProofs only[go_sem,seval,wt];refine ih (t+1) _ o_ o_ ?_;simp (maxSteps:=10^7) +contextual -implicitDefEqProofs only[go_sem,seval,hy,o1,KJ,Kk,Kt]
   ·have hy:=ZB0 (fr:=fr) hm;rcases ho with ⟨o1,o2,o3⟩ | ⟨o1,o2,o3⟩
    ·have aa : ¬(t=cX∨t=cX+cW):=o_
     simp (maxSteps:=10^7) +contextual -implicitDefEqProofs only[go_sem,seval,ab];refine ZB Xs Ms ?_;simp (maxSteps:=10^7) +contextual -implicitDefEqProofs only[go_sem,seval,wx,o1,aa,← La];refine ZB Xs Ms ?_;simp (maxSteps:=10^7) +contextual -implicitDefEqProofs only[go_sem,seval,wt];refine ih (t+1) _ o_ o_ ?_;simp (maxSteps:=10^7) +contextual -implicitDefEqProofs only[go_sem,seval,hy,o1]
    ·have aa : ¬(t=cY∨t=cY+cH):=o_
     simp (maxSteps:=10^7) +contextual -implicitDefEqProofs only[go_sem,seval,ab];refine ZB Xs Ms ?_;simp (maxSteps:=10^7) +contextual -implicitDefEqProofs only[go_sem,seval,wx,wy,o1,aa,← La];refine ZB Xs Ms ?_;simp (maxSteps:=10^7) +contextual -implicitDefEqProofs only[go_sem,seval,wt];refine ih (t+1) _ o_ o_ ?_;simp (maxSteps:=10^7) +contextual -implicitDefEqProofs only[go_sem,seval,hy,o1]
  ·have:t=to:=o_
   subst this;simp (maxSteps:=10^7) +contextual -implicitDefEqProofs only[go_sem,seval]
theorem ZiC (cP:Int) (cT:Bool) (cX cY cW cH:Int) (op lo n t:Int) (f:Bool) (ho:(op=2∧lo=cX∧n=cW)∨(op=3∧lo=cY∧n=cH)) (hc:0≤cX∧cX≤1000∧0≤cY∧cY≤1000∧1≤cW∧cW≤1000∧1≤cH∧cH≤1000) (hn:¬(lo<t∧t<lo+n)):v_ 139 [.d (.sl [.agg [J cP,.bool cT,J cX,J cY,J cW,J cH]]),(.d (J op)),(.d (J t)),(.d (.bool f))] [] =
  some (.tup [.own 0,(.d (.bool true))],[.row 6 (if f=decide (lo+n≤t) then [.agg [J cP,.bool cT,J cX,J cY,J cW,J cH]] else []) true false]):=by
 have wx:=wi (cX+cW) o_ o_;have wy:=wi (cY+cH) o_ o_;have bb:∀ a b:Bool,ZgQ .eql true (.d (.bool a)) (.d (.bool b))=Qp (.d (.bool (a==b))):=fun _ _=>rfl;refine cE ?_;rcases ho with ⟨o1,o2,o3⟩ | ⟨o1,o2,o3⟩
 ·have aa : ¬(cX<t∧t<cX+cW):=o_
  have he:(lo+n≤t)=(cX+cW≤t):=propext o_;simp only[he];simp (maxSteps:=10^7) +contextual -implicitDefEqProofs only[go_sem,seval,ZlK];refine ZB Xs Ms ?_;by_cases hf:f=decide (cX+cW≤t)
  ·have hg:(f==decide (cX+cW≤t))=true:=by rw[hf];simp
   rw[Kj hf];simp (maxSteps:=10^7) +contextual -implicitDefEqProofs only[go_sem,seval,wx,o1,aa,bb,hg,← K6];refine ZB Xs Ms ?_;simp (maxSteps:=10^7) +contextual -implicitDefEqProofs only[go_sem,seval]
  ·have hg:(f==decide (cX+cW≤t))=false:=by simpa using hf
   rw[Ke hf];simp (maxSteps:=10^7) +contextual -implicitDefEqProofs only[go_sem,seval,wx,o1,aa,bb,hg,← K6];refine ZB Xs Ms ?_;simp (maxSteps:=10^7) +contextual -implicitDefEqProofs only[go_sem,seval]
 ·have aa : ¬(cY<t∧t<cY+cH):=o_
  have he:(lo+n≤t)=(cY+cH≤t):=propext o_;simp only[he];simp (maxSteps:=10^7) +contextual -implicitDefEqProofs only[go_sem,seval,ZlK];refine ZB Xs Ms ?_;by_cases hf:f=decide (cY+cH≤t)
  ·have hg:(f==decide (cY+cH≤t))=true:=by rw[hf];simp
   rw[Kj hf];simp (maxSteps:=10^7) +contextual -implicitDefEqProofs only[go_sem,seval,wx,wy,o1,aa,bb,hg,← K6];refine ZB Xs Ms ?_;simp (maxSteps:=10^7) +contextual -implicitDefEqProofs only[go_sem,seval]
  ·have hg:(f==decide (cY+cH≤t))=false:=by simpa using hf
   rw[Ke hf];simp (maxSteps:=10^7) +contextual -implicitDefEqProofs only[go_sem,seval,wx,wy,o1,aa,bb,hg,← K6];refine ZB Xs Ms ?_;simp (maxSteps:=10^7) +contextual -implicitDefEqProofs only[go_sem,seval]
def U7:Zf→AV×List Zk
 | .mk o a q t ks=>(.tup [.agg [(.d (J o)),(.d (J a)),(.d (J q)),(.d (.bool t)),.own 0],(.d (.bool true))],[.row 5 (ks.map Zf.enc) true false])
theorem Zab (bX bY bW bH:Int):v_ 99 [.d (.sl []),(.d (.agg [J bX,J bY,J bW,J bH]))] []=some (U7 BT.waste.plan):=by
 simp only[BT.plan,U7];refine cE ?_;simp (maxSteps:=10^7) +contextual -implicitDefEqProofs only[go_sem,seval,Y1]
theorem Zhr (cP:Int) (cT:Bool) (cX cY cW cH:Int):v_ 99 [.d (.sl [.agg [J cP,.bool cT,J cX,J cY,J cW,J cH]]),.d (.agg [J cX,J cY,J cW,J cH])] []=some (U7 (BT.pane cP cT).plan):=by
 simp only[BT.plan,U7];refine cE ?_;simp (maxSteps:=10^7) +contextual -implicitDefEqProofs only[go_sem,seval,Y1]
theorem U8 (A B:List D) (bX bY bW bH:Int) (d:Bool) (a:Int) (l r:BT) (hA:uni 6 A) (hB:uni 6 B) (h1:R64 (bX+a)) (h2:R64 (bY+a)) (h3:R64 (bW-a)) (h4:R64 (bH-a))
  (hl:v_ 99 [.d (.sl A),if d then .d (.agg [J bX,J bY,J a,J bH]) else .d (.agg [J bX,J bY,J bW,J a])] []=some (U7 l.plan))
  (hr:v_ 99 [.d (.sl B),if d then .d (.agg [J (bX+a),J bY,J (bW-a),J bH]) else .d (.agg [J bX,J (bY+a),J bW,J (bH-a)])] []=some (U7 r.plan)) :
  v_ 140 [.d (.sl A),.d (.sl B),(.d (.agg [J bX,J bY,J bW,J bH])),(.d (J (Z8 d))),(.d (J a))] []=some (U7 (BT.cut d a l r).plan):=by
 have w1:=wi (bX+a) h1.1 h1.2;have w2:=wi (bY+a) h2.1 h2.2;have w3:=wi (bW-a) h3.1 h3.2;have w4:=wi (bH-a) h4.1 h4.2;obtain⟨lo,la,lq,lt,lk,el⟩:∃ o a q t ks,l.plan=.mk o a q t ks:=by cases l.plan;exact⟨_,_,_,_,_,rfl⟩
 obtain⟨ro,ra,rq,rt,rk,er⟩:∃ o a q t ks,r.plan=.mk o a q t ks:=by cases r.plan;exact⟨_,_,_,_,_,rfl⟩
 rw[el] at hl;rw[er] at hr;simp only[BT.plan,el,er,U7] at hl hr ⊢;cases d with
 | true=>
  simp only[Kl,Z8] at hl hr ⊢;refine cE ?_;simp (maxSteps:=10^7) +contextual -implicitDefEqProofs only[go_sem,seval,QR,w1,w3,hl,hr,hA,hB]
 | false=>
  simp only[Ka,Km,Z8] at hl hr ⊢;refine cE ?_;simp (maxSteps:=10^7) +contextual -implicitDefEqProofs only[go_sem,seval,QR,w1,w2,w3,w4,hl,hr,hA,hB]
theorem U9 (cP:Int) (cT:Bool) (cX cY cW cH:Int) (bX bY bW bH:Int) (d:Bool) (x:Int) (r:List Int) (P:Zf) (hc:0≤cX∧cX≤1000∧0≤cY∧cY≤1000∧1≤cW∧cW≤1000∧1≤cH∧cH≤1000) (hb:0≤bX∧0≤bY∧1≤bW∧1≤bH∧bX+bW≤1000∧bY+bH≤1000) (ad:¬(cX=bX∧cY=bY∧cW=bW∧cH=bH))
  (h2:d=false→Y0 cX (cX+cW) bX (bX+bW)=[])
  (he:(if d then Y0 cX (cX+cW) bX (bX+bW) else Y0 cY (cY+cH) bY (bY+bH))=x :: r)
  (hn:if d then ¬(cX<x∧x<cX+cW) else ¬(cY<x∧x<cY+cH)) (hx:if d then bX<x∧x<bX+bW else bY<x∧x<bY+bH)
  (hp:v_ 140 [.d (.sl (if true=decide ((if d then cX+cW else cY+cH)≤x) then [.agg [J cP,.bool cT,J cX,J cY,J cW,J cH]] else [])),.d (.sl (if false=decide ((if d then cX+cW else cY+cH)≤x) then [.agg [J cP,.bool cT,J cX,J cY,J cW,J cH]] else [])),(.d (.agg [J bX,J bY,J bW,J bH])),(.d (J (Z8 d))),(.d (J (x-(if d then bX else bY))))] []=some (U7 P)) :
  v_ 99 [.d (.sl [.agg [J cP,.bool cT,J cX,J cY,J cW,J cH]]),(.d (.agg [J bX,J bY,J bW,J bH]))] []=some (U7 P):=by
 have w1:=wi (bX+bW) o_ o_;have w2:=wi (bY+bH) o_ o_;have c2:(0:Int)<((2:Nat):Int):=o_
 obtain⟨o,a,q,t,ks⟩:=P;simp only[U7] at hp ⊢;have e2:=Zrx cP cT cX cY cW cH 2 cX cW bX (bX+bW) (.inl ⟨rfl,rfl,rfl⟩) hc hb.1 o_ o_;have e3:=Zrx cP cT cX cY cW cH 3 cY cH bY (bY+bH) (.inr ⟨rfl,rfl,rfl⟩) hc hb.2.1 o_ o_;have ae:r=[]∨∃ y,r=[y]:=by
  have h1:(x :: r).length≤2:=by
   rw[← he];cases d
   ·exact Zm8 _ _ _ _
   ·exact Zm8 _ _ _ _
  match r,h1 with
  | [],_=>exact .inl rfl
  | [y],_=>exact .inr ⟨y,rfl⟩
  | y :: z :: r,h1=>simp at h1
 cases d with
 | true=>
  simp only[Kl,Z8] at he hn hx hp;rw[he] at e2;have w3:=wi (x-bX) o_ o_;have p1:=ZiC cP cT cX cY cW cH 2 cX cW x true (.inl ⟨rfl,rfl,rfl⟩) hc hn;have p2:=ZiC cP cT cX cY cW cH 2 cX cW x false (.inl ⟨rfl,rfl,rfl⟩) hc hn;generalize aa:(if true=decide (cX+cW≤x) then [D.agg [J cP,.bool cT,J cX,J cY,J cW,J cH]] else [])=A at p1 hp;have hA:uni 6 A:=by rw[← aa];split<;>simp[uni,D.cells]
  generalize ab:(if false=decide (cX+cW≤x) then [D.agg [J cP,.bool cT,J cX,J cY,J cW,J cH]] else [])=B at p2 hp;have hB:uni 6 B:=by rw[← ab];split<;>simp[uni,D.cells]
  refine cE ?_;simp (maxSteps:=10^7) +contextual -implicitDefEqProofs only[go_sem,seval,Y1,ad,← K6];refine ZB Xs Ms ?_;rcases ae with rfl | ⟨y,rfl⟩
  ·simp only[Kk,Kt,Yi] at e2;simp (maxSteps:=10^7) +contextual -implicitDefEqProofs only[go_sem,seval,w1,e2];refine ZB Xs Ms ?_;simp (maxSteps:=10^7) +contextual -implicitDefEqProofs only[go_sem,seval,p1,p2,w3,hp,hA,hB,c2]
  ·simp only[Kk,Kt,Yi] at e2;simp (maxSteps:=10^7) +contextual -implicitDefEqProofs only[go_sem,seval,w1,e2];refine ZB Xs Ms ?_;simp (maxSteps:=10^7) +contextual -implicitDefEqProofs only[go_sem,seval,p1,p2,w3,hp,hA,hB,c2]
 | false=>
  simp only[Ka,Km,Z8] at he hn hx hp;rw[h2 rfl] at e2;rw[he] at e3;simp only[Kt] at e2;have w3:=wi (x-bY) o_ o_;have p1:=ZiC cP cT cX cY cW cH 3 cY cH x true (.inr ⟨rfl,rfl,rfl⟩) hc hn;have p2:=ZiC cP cT cX cY cW cH 3 cY cH x false (.inr ⟨rfl,rfl,rfl⟩) hc hn;generalize aa:(if true=decide (cY+cH≤x) then [D.agg [J cP,.bool cT,J cX,J cY,J cW,J cH]] else [])=A at p1 hp;have hA:uni 6 A:=by rw[← aa];split<;>simp[uni,D.cells]
  generalize ab:(if false=decide (cY+cH≤x) then [D.agg [J cP,.bool cT,J cX,J cY,J cW,J cH]] else [])=B at p2 hp;have hB:uni 6 B:=by rw[← ab];split<;>simp[uni,D.cells]
  refine cE ?_;simp (maxSteps:=10^7) +contextual -implicitDefEqProofs only[go_sem,seval,Y1,ad,← K6];refine ZB Xs Ms ?_;simp (maxSteps:=10^7) +contextual -implicitDefEqProofs only[go_sem,seval,w1,e2];refine ZB Xs Ms ?_;simp (maxSteps:=10^7) +contextual -implicitDefEqProofs only[go_sem,seval];refine ZB Xs Ms ?_;rcases ae with rfl | ⟨y,rfl⟩
  ·simp only[Kk,Kt,Yi] at e3;simp (maxSteps:=10^7) +contextual -implicitDefEqProofs only[go_sem,seval,w1,w2,e3];refine ZB Xs Ms ?_;simp (maxSteps:=10^7) +contextual -implicitDefEqProofs only[go_sem,seval,p1,p2,w3,hp,hA,hB,c2]
  ·simp only[Kk,Kt,Yi] at e3;simp (maxSteps:=10^7) +contextual -implicitDefEqProofs only[go_sem,seval,w1,w2,e3];refine ZB Xs Ms ?_;simp (maxSteps:=10^7) +contextual -implicitDefEqProofs only[go_sem,seval,p1,p2,w3,hp,hA,hB,c2]
def Z5 (i:Int) (t:Bool) (X Y W H bX bY bW bH:Int):BT:=
 let t4:=if Y+H<bY+bH then BT.cut false H (.pane i t) .waste else .pane i t
 let t3:=if bY<Y then BT.cut false (Y-bY) .waste t4 else t4
 let t2:=if X+W<bX+bW then BT.cut true W t3 .waste else t3
 if bX<X then BT.cut true (X-bX) .waste t2 else t2
def Zcf (X Y W H bX bY bW bH:Int):Prop:=0≤bX∧bX≤X∧0≤bY∧bY≤Y∧1≤W∧1≤H∧X+W≤bX+bW∧Y+H≤bY+bH∧bX+bW≤1000∧bY+bH≤1000
theorem Zhs (cP:Int) (cT:Bool) (cX cY cW cH:Int) (bH:Int) (h:Zcf cX cY cW cH cX cY cW bH):v_ 99 [.d (.sl [.agg [J cP,.bool cT,J cX,J cY,J cW,J cH]]),.d (.agg [J cX,J cY,J cW,J bH])] []=some (U7 (Z5 cP cT cX cY cW cH cX cY cW bH).plan):=by
 have hh:=h;unfold Zcf at h;unfold Z5;rw[Ke (show ¬cX<cX by omega),Ke (show ¬cX+cW<cX+cW by omega),Ke (show ¬cY<cY by omega)];by_cases hl:cY+cH<cY+bH
 ·rw[Kj hl];have hb:=U8 [D.agg [J cP,.bool cT,J cX,J cY,J cW,J cH]] [] cX cY cW bH false cH (.pane cP cT) .waste (by simp[uni,D.cells]) (by simp[uni]) (by unfold R64;omega) (by unfold R64;omega) (by unfold R64;omega) (by unfold R64;omega) (Zhr _ _ _ _ _ _) (Zab _ _ _ _);refine U9 cP cT cX cY cW cH cX cY cW bH false (cY+cH) [] _ o_ o_ o_ (fun _=>?_) ?_ ?_ ?_ ?_
  ·unfold Y0;rw[Ke o_,Ke o_];rfl
  ·simp only[Ka,Km];unfold Y0;rw[Ke o_,Kj o_];rfl
  ·simp only[Ka,Km];omega
  ·simp only[Ka,Km];omega
  ·simp only[Ka,Km,Kab,decide_true,Kl];rw[show cY+cH-cY=cH by omega];exact hb
 ·rw[Ke hl];have:bH=cH:=o_
  subst this;exact Zhr _ _ _ _ _ _
theorem Zht (cP:Int) (cT:Bool) (cX cY cW cH:Int) (bY bH:Int) (h:Zcf cX cY cW cH cX bY cW bH):v_ 99 [.d (.sl [.agg [J cP,.bool cT,J cX,J cY,J cW,J cH]]),.d (.agg [J cX,J bY,J cW,J bH])] []=some (U7 (Z5 cP cT cX cY cW cH cX bY cW bH).plan):=by
 by_cases hl:bY<cY
 ·have h4:=Zhs cP cT cX cY cW cH (bY+bH-cY) (by unfold Zcf at h ⊢;omega);unfold Zcf at h;have e:Z5 cP cT cX cY cW cH cX bY cW bH=.cut false (cY-bY) .waste (Z5 cP cT cX cY cW cH cX cY cW (bY+bH-cY)):=by
   unfold Z5;rw[Ke (show ¬cX<cX by omega),Ke (show ¬cX+cW<cX+cW by omega),Kj hl,Ke (show ¬cX<cX by omega),Ke (show ¬cX+cW<cX+cW by omega),Ke (show ¬cY<cY by omega),show cY+(bY+bH-cY)=bY+bH by omega]
  rw[e];generalize Z5 cP cT cX cY cW cH cX cY cW (bY+bH-cY)=Q at h4 ⊢;have hb:=U8 [] [D.agg [J cP,.bool cT,J cX,J cY,J cW,J cH]] cX bY cW bH false (cY-bY) .waste Q (by simp[uni]) (by simp[uni,D.cells]) (by unfold R64;omega) (by unfold R64;omega) (by unfold R64;omega) (by unfold R64;omega) (Zab _ _ _ _) (by
   simp only[Ka,Km];rw[show bY+(cY-bY)=cY by omega,show bH-(cY-bY)=bY+bH-cY by omega];exact h4)
  refine U9 cP cT cX cY cW cH cX bY cW bH false cY (if cY+cH<bY+bH then [cY+cH] else []) _ o_ o_ o_ (fun _=>?_) ?_ ?_ ?_ ?_
  ·unfold Y0;rw[Ke o_,Ke o_];rfl
  ·simp only[Ka,Km];unfold Y0;rw[Kj o_];by_cases h5:cY+cH<bY+bH
   ·rw[Kj o_,Kj h5];rfl
   ·rw[Ke o_,Ke h5];rfl
  ·simp only[Ka,Km];omega
  ·simp only[Ka,Km];omega
  ·simp only[Ka,Km];rw[Ki (show ¬cY+cH≤cY by omega)];simp only[Kav,Km,Kl];exact hb
 ·unfold Zcf at h;have:bY=cY:=o_
  subst this;exact Zhs cP cT cX bY cW cH bH (by unfold Zcf;omega)
theorem Zhu (cP:Int) (cT:Bool) (cX cY cW cH:Int) (bY bW bH:Int) (h:Zcf cX cY cW cH cX bY bW bH):v_ 99 [.d (.sl [.agg [J cP,.bool cT,J cX,J cY,J cW,J cH]]),.d (.agg [J cX,J bY,J bW,J bH])] []=some (U7 (Z5 cP cT cX cY cW cH cX bY bW bH).plan):=by
 by_cases hl:cX+cW<cX+bW
 ·have h3:=Zht cP cT cX cY cW cH bY bH (by unfold Zcf at h ⊢;omega);unfold Zcf at h;have e:Z5 cP cT cX cY cW cH cX bY bW bH=.cut true cW (Z5 cP cT cX cY cW cH cX bY cW bH) .waste:=by
   unfold Z5;rw[Ke (show ¬cX<cX by omega),Kj hl,Ke (show ¬cX<cX by omega),Ke (show ¬cX+cW<cX+cW by omega)]
  rw[e];generalize Z5 cP cT cX cY cW cH cX bY cW bH=Q at h3 ⊢;have hb:=U8 [D.agg [J cP,.bool cT,J cX,J cY,J cW,J cH]] [] cX bY bW bH true cW Q .waste (by simp[uni,D.cells]) (by simp[uni]) (by unfold R64;omega) (by unfold R64;omega) (by unfold R64;omega) (by unfold R64;omega) (by simp only[Kl];exact h3) (Zab _ _ _ _);refine U9 cP cT cX cY cW cH cX bY bW bH true (cX+cW) [] _ o_ o_ o_ (fun e=>by cases e) ?_ ?_ ?_ ?_
  ·simp only[Kl];unfold Y0;rw[Ke o_,Kj o_];rfl
  ·simp only[Kl];omega
  ·simp only[Kl];omega
  ·simp only[Kl,Kab,decide_true,Ka,Km];rw[show cX+cW-cX=cW by omega];exact hb
 ·unfold Zcf at h;have:bW=cW:=o_
  subst this;exact Zht cP cT cX cY bW cH bY bH (by unfold Zcf;omega)
theorem Zi9 (cP:Int) (cT:Bool) (cX cY cW cH:Int) (bX bY bW bH:Int) (h:Zcf cX cY cW cH bX bY bW bH):v_ 99 [.d (.sl [.agg [J cP,.bool cT,J cX,J cY,J cW,J cH]]),.d (.agg [J bX,J bY,J bW,J bH])] []=some (U7 (Z5 cP cT cX cY cW cH bX bY bW bH).plan):=by
 by_cases hl:bX<cX
 ·have h2:=Zhu cP cT cX cY cW cH bY (bX+bW-cX) bH (by unfold Zcf at h ⊢;omega);unfold Zcf at h;have e:Z5 cP cT cX cY cW cH bX bY bW bH=.cut true (cX-bX) .waste (Z5 cP cT cX cY cW cH cX bY (bX+bW-cX) bH):=by
   unfold Z5;rw[Kj hl,Ke (show ¬cX<cX by omega),show cX+(bX+bW-cX)=bX+bW by omega]
  rw[e];generalize Z5 cP cT cX cY cW cH cX bY (bX+bW-cX) bH=Q at h2 ⊢;have hb:=U8 [] [D.agg [J cP,.bool cT,J cX,J cY,J cW,J cH]] bX bY bW bH true (cX-bX) .waste Q (by simp[uni]) (by simp[uni,D.cells]) (by unfold R64;omega) (by unfold R64;omega) (by unfold R64;omega) (by unfold R64;omega) (Zab _ _ _ _) (by
   simp only[Kl];rw[show bX+(cX-bX)=cX by omega,show bW-(cX-bX)=bX+bW-cX by omega];exact h2)
  refine U9 cP cT cX cY cW cH bX bY bW bH true cX (if cX+cW<bX+bW then [cX+cW] else []) _ o_ o_ o_ (fun e=>by cases e) ?_ ?_ ?_ ?_
  ·simp only[Kl];unfold Y0;rw[Kj o_];by_cases h5:cX+cW<bX+bW
   ·rw[Kj o_,Kj h5];rfl
   ·rw[Ke o_,Ke h5];rfl
  ·simp only[Kl];omega
  ·simp only[Kl];omega
  ·simp only[Kl];rw[Ki (show ¬cX+cW≤cX by omega)];simp only[Kav,Km,Kl];exact hb
 ·unfold Zcf at h;have:bX=cX:=o_
  subst this;exact Zhu cP cT bX cY cW cH bY bW bH (by unfold Zcf;omega)
@[go_sem] theorem rep_5 {α:Type} (a:α):List.replicate 5 a=[a,a,a,a,a]:=rfl
@[go_sem] theorem rep_8 {α:Type} (a:α):List.replicate 8 a=[a,a,a,a,a,a,a,a]:=rfl
@[go_sem] theorem rep_15 {α:Type} (a:α):List.replicate 15 a=[a,a,a,a,a,a,a,a,a,a,a,a,a,a,a]:=rfl
theorem ZwO:∀ {l:List Zb} {b:Int},Xv b l→∀ x∈l,b<x.Label
 | [],_,_,x,hx=>by simp at hx
 | y :: l,b,h,x,hx=>by
  rcases Kd.1 hx with rfl | hx
  ·exact h.2.1
  ·have:=ZwO h.2.2 x hx;have:=h.2.1;omega
theorem Zly:∀ {l:List Zb} {b:Int} {k j:Nat} {x:Zb},Xv b l→l[j]?=some x→Qz k l x.Label=((k+j:Nat):Int)
 | [],_,k,j,x,_,hx=>by simp at hx
 | y :: l,b,k,0,x,h,hx=>by
  simp only[KT,Option.some.injEq] at hx;subst hx;simp[Qz]
 | y :: l,b,k,j+1,x,h,hx=>by
  simp only[KU] at hx;have h1:=ZwO h.2.2 x (Kb hx);unfold Qz;rw[Ke o_,Zly (k:=k+1) h.2.2 hx];congr 1
  omega
def Zj4 (i:Nat) (t:Bool) (b:Box) (q:Zb):Zo:=⟨3,q.Label,⟨0,0,0,0⟩,⟨⟨0,0,false,0⟩,0⟩,(Z5 i t b.X b.Y b.W b.H 0 0 q.W q.H).plan⟩
def Zry (s:Zm) (i:Nat) (x:Zc):Option Zo:=
 if Zdf s.Stock x.Pane<0 then none else match s.Stock[(Zdf s.Stock x.Pane).toNat]? with
 | none=>none
 | some q=>match Q5 q x.Pane.W x.Pane.H with
  | some b=>some (Zj4 i false b q)
  | none=>match Q5 q x.Pane.H x.Pane.W with
   | some b=>some (Zj4 i true b q)
   | none=>none
def Wa (s:Zm):List Zc→Nat→Option Zo
 | [],_=>none
 | x :: r,i=>match Zry s i x with
  | some e=>if (Qu s e).isSome=true then some e else Wa s r (i+1)
  | none=>Wa s r (i+1)
def Vo (s:Zm):Option Zo:=Wa s s.Opn 0
theorem Zhv {s:Zm} {l:List Zc} {k i:Nat} {x:Zc} (hx:l[k]?=some x):Wa s (l.drop k) i=match Zry s i x with
  | some e=>if (Qu s e).isSome=true then some e else Wa s (l.drop (k+1)) (i+1)
  | none=>Wa s (l.drop (k+1)) (i+1):=by
 obtain⟨h1,h2⟩:=Kc.1 hx;rw[Kx h1,h2,Wa]
theorem Zrz {s:Zm} {l:List Zc} {i:Nat}:Wa s (l.drop l.length) i=none:=by simp[Wa]
def nxV:Option Zo→AV×List Zk
 | some ⟨k,l,⟨x,y,w,h⟩,⟨⟨pw,ph,pt,pk⟩,c⟩,.mk o a q t ks⟩=>(.tup [.agg [(.d (J k)),(.d (J l)),(.d (J x)),(.d (J y)),(.d (J w)),(.d (J h)),(.d (J pw)),(.d (J ph)),(.d (.bool pt)),(.d (J pk)),(.d (J c)),(.d (J o)),(.d (J a)),(.d (J q)),(.d (.bool t)),.own 0],(.d (.bool true))],[.row 5 (ks.map Zf.enc) true false])
 | none=>(.tup [.agg [(.d (J 0)),(.d (J 0)),(.d (J 0)),(.d (J 0)),(.d (J 0)),(.d (J 0)),(.d (J 0)),(.d (J 0)),(.d (.bool false)),(.d (J 0)),(.d (J 0)),(.d (J 0)),(.d (J 0)),(.d (J 0)),(.d (.bool false)),.own 0],(.d (.bool false))],[.row 5 [] true false])
theorem Zlz (sS:List Zb) (sO sD:List Zc) (sL sC:Int) (hv:WSh (Zm.mk sS sO sD sL sC)):v_ 51 [(.d (.agg [.sl (sS.map Zb.enc),.sl (sO.map Zc.enc),.sl (sD.map Zc.enc),J sL,J sC]))] []=some (nxV (Vo (Zm.mk sS sO sD sL sC))):=by
 have ak:=hv.2.1;have ag:=hv.1.1;simp only at ak ag;refine cE ?_;simp +contextual -implicitDefEqProofs (maxSteps:=10^7) only[go_sem,seval,Zn4];refine LO (α:=Nat) (fun i=>[(4,.d (J (i:Int)))]) (fun _=>[]) (fun i=>i≤sO.length∧Wa (Zm.mk sS sO sD sL sC) (sO.drop i) i=Vo (Zm.mk sS sO sD sL sC)) (fun i=>sO.length-i) 0 ⟨o_,by simp[Vo]⟩ ?_;intro i ⟨hi,hp⟩ ih;by_cases ab:i<sO.length
 ·obtain⟨x,hx⟩:=Zp ab;have hw:=Zh (k:=i) o_;rw[Zhv hx] at hp;have aa:=hv.2.2.1 x (Kb hx);obtain⟨⟨W,H,T,K⟩,C⟩:=x;simp only at aa;have ad:1≤W∧W≤200∧1≤H∧H≤200:=⟨aa.1.1,aa.1.2.1,aa.1.2.2.1,aa.1.2.2.2.1⟩
  have ef:=Zrw sS W H T K hv.1 aa.1;unfold ZtS at ef;rw[Kj ⟨hv.1,aa.1⟩] at ef;unfold Zry at hp;simp only at hp;rcases Zrv sS ⟨W,H,T,K⟩ with h0 | ⟨j,q,hj,hq,ah⟩
  ·rw[Kj h0] at ef hp;simp only at hp;simp +contextual -implicitDefEqProofs (maxSteps:=10^7) only[go_sem,seval,hx,ab,hw,ef];refine ih (i+1) _ ⟨o_,hp⟩ o_ ?_;simp +contextual -implicitDefEqProofs (maxSteps:=10^7) only[go_sem,seval]
  ·have al:¬(j:Int)<0:=o_
   rw[hj,Ke al,Ky,hq] at ef hp;simp only at hp ef;have ai:=ZU hv.1.2 q (Kb hq);have af:=(Kc.1 hq).1;have el:=Yb sS q.Label o_;rw[Zly hv.1.2 hq,K8] at el;have f1:=W8 q.Label q.W q.H q.Flaws W H ai ⟨ad.1,ad.2.1⟩ ad.2.2;have f2:=W8 q.Label q.W q.H q.Flaws H W ai ad.2.2 ⟨ad.1,ad.2.1⟩;have am:=ai.1;have aj:∀ (t:Bool) (w h:Int) (b:Box),1≤w→1≤h→Q5 q w h=some b→∃ (o a p:Int) (t' : Bool) (ks:List Zf),(Z5 i t b.X b.Y b.W b.H 0 0 q.W q.H).plan=.mk o a p t' ks∧v_ 99 [.d (.sl [.agg [J i,.bool t,J b.X,J b.Y,J b.W,J b.H]]),.d (.agg [J 0,J 0,J q.W,J q.H])] []=some (.tup [.agg [(.d (J o)),(.d (J a)),(.d (J p)),(.d (.bool (t'))),.own 0],(.d (.bool true))],[.row 5 (ks.map Zf.enc) true false]):=fun t w h b an ao hb=>by
    obtain⟨g1,g2,g3,g4,g5,g6,_⟩:=Zau hb;have e:=Zi9 i t b.X b.Y b.W b.H 0 0 q.W q.H (by unfold Zcf;omega);cases hpp:(Z5 i t b.X b.Y b.W b.H 0 0 q.W q.H).plan with
    | mk o a p t' ks=>
     rw[hpp] at e;exact⟨o,a,p,t',ks,rfl,e⟩
   have ae:¬q.Label=0:=o_
   obtain⟨qL,qW,qH,qF⟩:=q;simp only at ef el f1 f2 aj ae hp;cases h1:Q5 ⟨qL,qW,qH,qF⟩ W H with
   | some b=>
    obtain⟨o,a,p,t',ks,e1,e2⟩:=aj false W H b o_ o_ h1;rw[h1] at f1 hp;unfold Zj4 at hp;simp only[e1] at hp;have ea:=Ws sS sO sD sL sC 3 qL 0 0 0 0 0 0 false 0 0 o a p t' ks hv rfl;obtain⟨bX,bY,bW,bH⟩:=b;unfold fcV at f1;simp only at f1 e2 hp;cases hap:Qu (Zm.mk sS sO sD sL sC) ⟨3,qL,⟨0,0,0,0⟩,⟨⟨0,0,false,0⟩,0⟩,.mk o a p t' ks⟩ with
    | none=>
     rw[hap] at ea hp;simp only[KP,Ka,Km] at hp;unfold shV at ea;simp +contextual -implicitDefEqProofs (maxSteps:=10^7) only[go_sem,seval,hx,ab,hw,ef,el,f1,e2,ea,ae,af,hq];refine ih (i+1) _ ⟨o_,hp⟩ o_ ?_;simp +contextual -implicitDefEqProofs (maxSteps:=10^7) only[go_sem,seval]
    | some u=>
     rw[hap] at ea hp;simp only[Lg,Kl] at hp;rw[← hp];unfold shV at ea;unfold nxV;simp +contextual -implicitDefEqProofs (maxSteps:=10^7) only[go_sem,seval,hx,ab,hw,ef,el,f1,e2,ea,ae,af,hq]
   | none=>
    rw[h1] at f1 hp;unfold fcV at f1;simp only at hp;cases h2:Q5 ⟨qL,qW,qH,qF⟩ H W with
    | none=>
     exfalso
     unfold okP at ah;simp only[h1,h2] at ah;simp at ah
    | some b=>
     obtain⟨o,a,p,t',ks,e1,e2⟩:=aj true H W b o_ o_ h2;rw[h2] at f2 hp;unfold Zj4 at hp;simp only[e1] at hp;have ea:=Ws sS sO sD sL sC 3 qL 0 0 0 0 0 0 false 0 0 o a p t' ks hv rfl;obtain⟨bX,bY,bW,bH⟩:=b;unfold fcV at f2;simp only at f2 e2 hp;cases hap:Qu (Zm.mk sS sO sD sL sC) ⟨3,qL,⟨0,0,0,0⟩,⟨⟨0,0,false,0⟩,0⟩,.mk o a p t' ks⟩ with
     | none=>
      rw[hap] at ea hp;simp only[KP,Ka,Km] at hp;unfold shV at ea;simp +contextual -implicitDefEqProofs (maxSteps:=10^7) only[go_sem,seval,hx,ab,hw,ef,el,f1,f2,e2,ea,ae,af,hq];refine ih (i+1) _ ⟨o_,hp⟩ o_ ?_;simp +contextual -implicitDefEqProofs (maxSteps:=10^7) only[go_sem,seval]
     | some u=>
      rw[hap] at ea hp;simp only[Lg,Kl] at hp;rw[← hp];unfold shV at ea;unfold nxV;simp +contextual -implicitDefEqProofs (maxSteps:=10^7) only[go_sem,seval,hx,ab,hw,ef,el,f1,f2,e2,ea,ae,af,hq]
 ·have:i=sO.length:=o_
  subst this;rw[Zrz] at hp;rw[← hp];unfold nxV;simp +contextual -implicitDefEqProofs (maxSteps:=10^7) only[go_sem,seval]
theorem Zyf {s:Zm} {i:Nat} {x:Zc} {e:Zo} (h:Zry s i x=some e):e.kind=3:=by
 unfold Zry at h;split at h
 ·cases h
 ·split at h
  ·cases h
  ·split at h
   ·cases h;rfl
   ·split at h
    ·cases h;rfl
    ·cases h
theorem Zdg {s:Zm}:∀ {l:List Zc} {i:Nat} {e:Zo},Wa s l i=some e→e.kind=3
 | [],i,e,h=>by simp[Wa] at h
 | x :: l,i,e,h=>by
  unfold Wa at h;split at h
  ·split at h
   ·cases h;exact Zyf (by assumption)
   ·exact Zdg h
  ·exact Zdg h
theorem Zja (bs:List UInt8) (hb:bs.length≤2000) (p:Nat) (hp:p<900000000):∃ (W H:Int) (T:Bool) (K:Int),v_ 188 [.ptr 0 0] [.box [.d (.sl (bs.map UF)),(.d (J p))]]=some (.d (.agg [J W,J H,.bool T,J K]),[.box [.d (.sl (bs.map UF)),(.d (J ((p+4:Nat))))]]):=by
 have p1:=Qn bs p 8 hb o_;have p2:=Qn bs (p+1) 8 hb o_;have p3:=Qn bs (p+2) 2 hb o_;have p4:=Qn bs (p+3) 3 hb o_;generalize QY bs p 8=a1 at p1;generalize QY bs (p+1) 8=a2 at p2;generalize QY bs (p+2) 2=a3 at p3;generalize QY bs (p+3) 3=a4 at p4;refine⟨IntKind.i64.wrap (1+a1),IntKind.i64.wrap (1+a2),decide (a3=0),a4,?_⟩;refine cE ?_;simp (maxSteps:=10^7) +contextual -implicitDefEqProofs only[go_sem,seval,ZlN,p1,p2,p3,p4]
def PEv (bs:List UInt8) (p:Nat) (r:AV×List Zk):Prop:=∃ (K L X Y W H pW pH:Int) (pT:Bool) (pK C o a q:Int) (t:Bool) (ks:List Zf) (p' : Nat),(K=0→I5 W∧I5 H)∧p≤p'∧p'≤p+10 ∧
 r=(.agg [(.d (J K)),(.d (J L)),(.d (J X)),(.d (J Y)),(.d (J W)),(.d (J H)),(.d (J pW)),(.d (J pH)),(.d (.bool pT)),(.d (J pK)),(.d (J C)),(.d (J o)),(.d (J a)),(.d (J q)),(.d (.bool t)),.own 1],[.box [.d (.sl (bs.map UF)),(.d (J (p')))],.row 5 (ks.map Zf.enc) true false])
theorem ZrA (bs:List UInt8) (hb:bs.length≤2000) (p:Nat) (hp:p<800000000) (sS:List Zb) (sO sD:List Zc) (sL sC:Int) (hv:WSh (Zm.mk sS sO sD sL sC)):∃ r,v_ 130 [.ptr 0 0,(.d (.agg [.sl (sS.map Zb.enc),.sl (sO.map Zc.enc),.sl (sD.map Zc.enc),J sL,J sC]))] [.box [.d (.sl (bs.map UF)),(.d (J p))]]=some r∧PEv bs p r:=by
 have ah:=hv.1.1;have h8:=hv.2.2.2.1.1;simp only at ah h8;have eL:=Zhm sS o_;have eN:=Zlz sS sO sD sL sC hv;have af:=fun e=>@Zdg (Zm.mk sS sO sD sL sC) sO 0 e;generalize Vm sS=ll at eL;refine cW ?_;by_cases h0:(0:Int)<(sS.length:Int)
 ·have u0:=Qn bs p sS.length hb o_;have u1:=J7 bs p sS.length;have u2:=Ziv bs p sS.length o_;obtain⟨i,hi⟩:∃ i:Nat,QY bs p (sS.length:Int)=(i:Int):=⟨(QY bs p (sS.length:Int)).toNat,o_⟩
  rw[hi] at u0 u2;have aa:i<sS.length:=o_
  obtain⟨x,hx⟩:=Zp aa;obtain⟨lb,qW,qH,qF⟩:=x;obtain⟨p1,ai⟩:∃ p1,p1=p+1:=⟨_,rfl⟩
  rw[← ai] at u0;have c0:=Qn bs p1 9 hb o_;generalize QY bs p1 9=c at c0;by_cases ab:c=0∨c=1
  ·obtain⟨W,hW,eW⟩:=ZbZ bs (p1+1) [20,12,30,8] hb o_ (by decide);obtain⟨H,hH,eH⟩:=ZbZ bs (p1+2) [16,10,24,8] hb o_ (by decide);have iW:I5 W:=by simp only[Kd,KC,or_false] at hW;unfold I5;omega
   have iH:I5 H:=by simp only[Kd,KC,or_false] at hH;unfold I5;omega
   simp only[Kk,Kt,Yi] at eW eH;rcases ab with rfl | rfl
   ·simp (maxSteps:=10^7) +contextual -implicitDefEqProofs only[go_sem,seval,Zu,h0,u0,aa,hx,c0,eL,eW,eH];exact⟨0,(IntKind.i64.wrap (ll+1)),0,0,W,H,0,0,false,0,0,0,0,0,false,[],(p1+3),fun _=>⟨iW,iH⟩,o_,o_,rfl⟩
   ·simp (maxSteps:=10^7) +contextual -implicitDefEqProofs only[go_sem,seval,Zu,h0,u0,aa,hx,c0,eL,eW,eH];exact⟨0,(IntKind.i64.wrap (ll+1)),0,0,W,H,0,0,false,0,0,0,0,0,false,[],(p1+3),fun _=>⟨iW,iH⟩,o_,o_,rfl⟩
  ·have k0:¬c=0:=fun h=>ab (.inl h);have k1:¬c=1:=fun h=>ab (.inr h);by_cases k2:c=2
   ·obtain⟨X,Y,W,H,eB⟩:=Zlo bs hb (p1+1) o_ 8 8;subst k2;simp (maxSteps:=10^7) +contextual -implicitDefEqProofs only[go_sem,seval,Zu,h0,u0,aa,hx,c0,eB];exact⟨1,lb,X,Y,W,H,0,0,false,0,0,0,0,0,false,[],(p1+5),(fun e=>by cases e),o_,o_,rfl⟩
   ·by_cases ad:c=3∨c=4
    ·obtain⟨W,H,T,K,eP⟩:=Zja bs hb (p1+1) o_;have c5:=Qn bs (p1+5) 3 hb o_;generalize QY bs (p1+5) 3=v at c5;rcases ad with rfl | rfl
     ·simp (maxSteps:=10^7) +contextual -implicitDefEqProofs only[go_sem,seval,Zu,h0,u0,aa,hx,c0,eP,c5];exact⟨2,0,0,0,0,0,W,H,T,K,(IntKind.i64.wrap (1+v)),0,0,0,false,[],(p1+6),(fun e=>by cases e),o_,o_,rfl⟩
     ·simp (maxSteps:=10^7) +contextual -implicitDefEqProofs only[go_sem,seval,Zu,h0,u0,aa,hx,c0,eP,c5];exact⟨2,0,0,0,0,0,W,H,T,K,(IntKind.i64.wrap (1+v)),0,0,0,false,[],(p1+6),(fun e=>by cases e),o_,o_,rfl⟩
    ·have k3:¬c=3:=fun h=>ad (.inl h);have k4:¬c=4:=fun h=>ad (.inr h);by_cases k5:c=5
     ·subst k5;by_cases hd:(0:Int)<(sD.length:Int)
      ·have d0:=Qn bs (p1+1) sD.length hb o_;have d1:=J7 bs (p1+1) sD.length;have d2:=Ziv bs (p1+1) sD.length o_;obtain⟨j,hj⟩:∃ j:Nat,QY bs (p1+1) (sD.length:Int)=(j:Int):=⟨(QY bs (p1+1) (sD.length:Int)).toNat,o_⟩
       rw[hj] at d0 d2;have ag:j<sD.length:=o_
       obtain⟨z,hz⟩:=Zp ag;obtain⟨⟨W,H,T,K⟩,C⟩:=z;have d3:=Qn bs (p1+2) C hb o_;generalize QY bs (p1+2) C=v at d3;simp (maxSteps:=10^7) +contextual -implicitDefEqProofs only[go_sem,seval,Zu,h0,u0,aa,hx,c0,hd,d0,ag,hz,d3];exact⟨4,0,0,0,0,0,W,H,T,K,(IntKind.i64.wrap (1+v)),0,0,0,false,[],(p1+3),(fun e=>by cases e),o_,o_,rfl⟩
      ·skip
       cases hN:Vo (Zm.mk sS sO sD sL sC) with
       | none=>
        rw[hN] at eN;unfold nxV at eN;simp (maxSteps:=10^7) +contextual -implicitDefEqProofs only[go_sem,seval,Zu,h0,u0,aa,hx,c0,hd,eN,eL];exact⟨0,(IntKind.i64.wrap (ll+2)),0,0,15,11,0,0,false,0,0,0,0,0,false,[],(p1+1),fun _=>⟨by unfold I5;omega,by unfold I5;omega⟩,o_,o_,rfl⟩
       | some e=>
        have hk:=af e hN;rw[hN] at eN;obtain⟨k,l,⟨x,y,w,h⟩,⟨⟨pw,ph,pt,pk⟩,c9⟩,⟨o,a,q,t,ks⟩⟩:=e;unfold nxV at eN;simp only at eN hk;simp (maxSteps:=10^7) +contextual -implicitDefEqProofs only[go_sem,seval,Zu,h0,u0,aa,hx,c0,hd,eN];exact⟨k,l,x,y,w,h,pw,ph,pt,pk,c9,o,a,q,t,ks,(p1+1),fun e=>by omega,o_,o_,rfl⟩
     ·by_cases k6:c=6
      ·subst k6;have d3:=Qn bs (p1+1) 3 hb o_;generalize QY bs (p1+1) 3=v at d3;by_cases ae:v=0
       ·subst ae;simp (maxSteps:=10^7) +contextual -implicitDefEqProofs only[go_sem,seval,Zu,h0,u0,aa,hx,c0,d3];exact⟨5,lb,0,0,0,0,0,0,false,0,0,0,0,0,false,[],(p1+2),(fun e=>by cases e),o_,o_,rfl⟩
       ·skip
        cases hN:Vo (Zm.mk sS sO sD sL sC) with
        | none=>
         rw[hN] at eN;unfold nxV at eN;simp (maxSteps:=10^7) +contextual -implicitDefEqProofs only[go_sem,seval,Zu,h0,u0,aa,hx,c0,d3,ae,eN,eL];exact⟨0,(IntKind.i64.wrap (ll+2)),0,0,15,11,0,0,false,0,0,0,0,0,false,[],(p1+2),fun _=>⟨by unfold I5;omega,by unfold I5;omega⟩,o_,o_,rfl⟩
        | some e=>
         have hk:=af e hN;rw[hN] at eN;obtain⟨k,l,⟨x,y,w,h⟩,⟨⟨pw,ph,pt,pk⟩,c9⟩,⟨o,a,q,t,ks⟩⟩:=e;unfold nxV at eN;simp only at eN hk;simp (maxSteps:=10^7) +contextual -implicitDefEqProofs only[go_sem,seval,Zu,h0,u0,aa,hx,c0,d3,ae,eN];exact⟨k,l,x,y,w,h,pw,ph,pt,pk,c9,o,a,q,t,ks,(p1+2),fun e=>by omega,o_,o_,rfl⟩
      ·skip
       cases hN:Vo (Zm.mk sS sO sD sL sC) with
       | none=>
        rw[hN] at eN;unfold nxV at eN;simp (maxSteps:=10^7) +contextual -implicitDefEqProofs only[go_sem,seval,Zu,h0,u0,aa,hx,c0,k0,k1,k2,k3,k4,k5,k6,eN,eL];exact⟨0,(IntKind.i64.wrap (ll+2)),0,0,15,11,0,0,false,0,0,0,0,0,false,[],(p1+1),fun _=>⟨by unfold I5;omega,by unfold I5;omega⟩,o_,o_,rfl⟩
       | some e=>
        have hk:=af e hN;rw[hN] at eN;obtain⟨k,l,⟨x,y,w,h⟩,⟨⟨pw,ph,pt,pk⟩,c9⟩,⟨o,a,q,t,ks⟩⟩:=e;unfold nxV at eN;simp only at eN hk;simp (maxSteps:=10^7) +contextual -implicitDefEqProofs only[go_sem,seval,Zu,h0,u0,aa,hx,c0,k0,k1,k2,k3,k4,k5,k6,eN];exact⟨k,l,x,y,w,h,pw,ph,pt,pk,c9,o,a,q,t,ks,(p1+1),fun e=>by omega,o_,o_,rfl⟩
 ·skip
  have c0:=Qn bs p 9 hb o_;generalize QY bs p 9=c at c0;by_cases ab:c=0∨c=1
  ·obtain⟨W,hW,eW⟩:=ZbZ bs (p+1) [20,12,30,8] hb o_ (by decide);obtain⟨H,hH,eH⟩:=ZbZ bs (p+2) [16,10,24,8] hb o_ (by decide);have iW:I5 W:=by simp only[Kd,KC,or_false] at hW;unfold I5;omega
   have iH:I5 H:=by simp only[Kd,KC,or_false] at hH;unfold I5;omega
   simp only[Kk,Kt,Yi] at eW eH;rcases ab with rfl | rfl
   ·simp (maxSteps:=10^7) +contextual -implicitDefEqProofs only[go_sem,seval,Zu,h0,c0,eL,eW,eH];exact⟨0,(IntKind.i64.wrap (ll+1)),0,0,W,H,0,0,false,0,0,0,0,0,false,[],(p+3),fun _=>⟨iW,iH⟩,o_,o_,rfl⟩
   ·simp (maxSteps:=10^7) +contextual -implicitDefEqProofs only[go_sem,seval,Zu,h0,c0,eL,eW,eH];exact⟨0,(IntKind.i64.wrap (ll+1)),0,0,W,H,0,0,false,0,0,0,0,0,false,[],(p+3),fun _=>⟨iW,iH⟩,o_,o_,rfl⟩
  ·have k0:¬c=0:=fun h=>ab (.inl h);have k1:¬c=1:=fun h=>ab (.inr h);by_cases k2:c=2
   ·obtain⟨X,Y,W,H,eB⟩:=Zlo bs hb (p+1) o_ 8 8;subst k2;simp (maxSteps:=10^7) +contextual -implicitDefEqProofs only[go_sem,seval,Zu,h0,c0,eB];exact⟨1,1,X,Y,W,H,0,0,false,0,0,0,0,0,false,[],(p+5),(fun e=>by cases e),o_,o_,rfl⟩
   ·by_cases ad:c=3∨c=4
    ·obtain⟨W,H,T,K,eP⟩:=Zja bs hb (p+1) o_;have c5:=Qn bs (p+5) 3 hb o_;generalize QY bs (p+5) 3=v at c5;rcases ad with rfl | rfl
     ·simp (maxSteps:=10^7) +contextual -implicitDefEqProofs only[go_sem,seval,Zu,h0,c0,eP,c5];exact⟨2,0,0,0,0,0,W,H,T,K,(IntKind.i64.wrap (1+v)),0,0,0,false,[],(p+6),(fun e=>by cases e),o_,o_,rfl⟩
     ·simp (maxSteps:=10^7) +contextual -implicitDefEqProofs only[go_sem,seval,Zu,h0,c0,eP,c5];exact⟨2,0,0,0,0,0,W,H,T,K,(IntKind.i64.wrap (1+v)),0,0,0,false,[],(p+6),(fun e=>by cases e),o_,o_,rfl⟩
    ·have k3:¬c=3:=fun h=>ad (.inl h);have k4:¬c=4:=fun h=>ad (.inr h);by_cases k5:c=5
     ·subst k5;by_cases hd:(0:Int)<(sD.length:Int)
      ·have d0:=Qn bs (p+1) sD.length hb o_;have d1:=J7 bs (p+1) sD.length;have d2:=Ziv bs (p+1) sD.length o_;obtain⟨j,hj⟩:∃ j:Nat,QY bs (p+1) (sD.length:Int)=(j:Int):=⟨(QY bs (p+1) (sD.length:Int)).toNat,o_⟩
       rw[hj] at d0 d2;have ag:j<sD.length:=o_
       obtain⟨z,hz⟩:=Zp ag;obtain⟨⟨W,H,T,K⟩,C⟩:=z;have d3:=Qn bs (p+2) C hb o_;generalize QY bs (p+2) C=v at d3;simp (maxSteps:=10^7) +contextual -implicitDefEqProofs only[go_sem,seval,Zu,h0,c0,hd,d0,ag,hz,d3];exact⟨4,0,0,0,0,0,W,H,T,K,(IntKind.i64.wrap (1+v)),0,0,0,false,[],(p+3),(fun e=>by cases e),o_,o_,rfl⟩
      ·skip
       cases hN:Vo (Zm.mk sS sO sD sL sC) with
       | none=>
        rw[hN] at eN;unfold nxV at eN;simp (maxSteps:=10^7) +contextual -implicitDefEqProofs only[go_sem,seval,Zu,h0,c0,hd,eN,eL];exact⟨0,(IntKind.i64.wrap (ll+2)),0,0,15,11,0,0,false,0,0,0,0,0,false,[],(p+1),fun _=>⟨by unfold I5;omega,by unfold I5;omega⟩,o_,o_,rfl⟩
       | some e=>
        have hk:=af e hN;rw[hN] at eN;obtain⟨k,l,⟨x,y,w,h⟩,⟨⟨pw,ph,pt,pk⟩,c9⟩,⟨o,a,q,t,ks⟩⟩:=e;unfold nxV at eN;simp only at eN hk;simp (maxSteps:=10^7) +contextual -implicitDefEqProofs only[go_sem,seval,Zu,h0,c0,hd,eN];exact⟨k,l,x,y,w,h,pw,ph,pt,pk,c9,o,a,q,t,ks,(p+1),fun e=>by omega,o_,o_,rfl⟩
     ·by_cases k6:c=6
      ·subst k6;have d3:=Qn bs (p+1) 3 hb o_;generalize QY bs (p+1) 3=v at d3;by_cases ae:v=0
       ·subst ae;simp (maxSteps:=10^7) +contextual -implicitDefEqProofs only[go_sem,seval,Zu,h0,c0,d3];exact⟨5,1,0,0,0,0,0,0,false,0,0,0,0,0,false,[],(p+2),(fun e=>by cases e),o_,o_,rfl⟩
       ·skip
        cases hN:Vo (Zm.mk sS sO sD sL sC) with
        | none=>
         rw[hN] at eN;unfold nxV at eN;simp (maxSteps:=10^7) +contextual -implicitDefEqProofs only[go_sem,seval,Zu,h0,c0,d3,ae,eN,eL];exact⟨0,(IntKind.i64.wrap (ll+2)),0,0,15,11,0,0,false,0,0,0,0,0,false,[],(p+2),fun _=>⟨by unfold I5;omega,by unfold I5;omega⟩,o_,o_,rfl⟩
        | some e=>
         have hk:=af e hN;rw[hN] at eN;obtain⟨k,l,⟨x,y,w,h⟩,⟨⟨pw,ph,pt,pk⟩,c9⟩,⟨o,a,q,t,ks⟩⟩:=e;unfold nxV at eN;simp only at eN hk;simp (maxSteps:=10^7) +contextual -implicitDefEqProofs only[go_sem,seval,Zu,h0,c0,d3,ae,eN];exact⟨k,l,x,y,w,h,pw,ph,pt,pk,c9,o,a,q,t,ks,(p+2),fun e=>by omega,o_,o_,rfl⟩
      ·skip
       cases hN:Vo (Zm.mk sS sO sD sL sC) with
       | none=>
        rw[hN] at eN;unfold nxV at eN;simp (maxSteps:=10^7) +contextual -implicitDefEqProofs only[go_sem,seval,Zu,h0,c0,k0,k1,k2,k3,k4,k5,k6,eN,eL];exact⟨0,(IntKind.i64.wrap (ll+2)),0,0,15,11,0,0,false,0,0,0,0,0,false,[],(p+1),fun _=>⟨by unfold I5;omega,by unfold I5;omega⟩,o_,o_,rfl⟩
       | some e=>
        have hk:=af e hN;rw[hN] at eN;obtain⟨k,l,⟨x,y,w,h⟩,⟨⟨pw,ph,pt,pk⟩,c9⟩,⟨o,a,q,t,ks⟩⟩:=e;unfold nxV at eN;simp only at eN hk;simp (maxSteps:=10^7) +contextual -implicitDefEqProofs only[go_sem,seval,Zu,h0,c0,k0,k1,k2,k3,k4,k5,k6,eN];exact⟨k,l,x,y,w,h,pw,ph,pt,pk,c9,o,a,q,t,ks,(p+1),fun e=>by omega,o_,o_,rfl⟩
theorem ZrB:ZE ⟨[],[],[],0,0⟩:=by
 refine⟨⟨by simp,trivial⟩,⟨by simp,trivial,by simp[Qo]⟩,⟨by simp,trivial,by simp[Qo]⟩,?_⟩;simp[YH,Jw]
def PBook (bs:List UInt8) (p:Nat) (r:AV×List Zk):Prop:=∃ (out:List Zo) (S:List Zb) (O D:List Zc) (L C:Int) (f:Bool) (p' : Nat),ZE ⟨S,O,D,L,C⟩∧out.length≤16∧p≤p'∧p'≤p+200 ∧
 r=(.tup [.own 1,.agg [.own 2,.own 3,.own 4,(.d (J L)),(.d (J C))]],[.box [.d (.sl (bs.map UF)),(.d (J (p')))],.row 16 (out.map Zo.enc) true false,.row 4 (S.map Zb.enc) true f,.row 5 (O.map Zc.enc) true f,.row 5 (D.map Zc.enc) true f])
theorem Zsk (bs:List UInt8) (hb:bs.length≤2000) (p:Nat) (hp:p<700000000) (aa:Int):∃ r,v_ 90 [.ptr 0 0,(.d (J aa))] [.box [.d (.sl (bs.map UF)),(.d (J p))]]=some r∧PBook bs p r:=by
 obtain⟨n,hn,eN⟩:=ZbZ bs p [8,12,5,16,0,2] hb o_ (by decide);have ab : 0≤n∧n≤16:=by simp only[Kd,KC,or_false] at hn;omega
 simp only[Kk,Kt,Yi] at eN;refine cW ?_;simp (maxSteps:=10^7) +contextual -implicitDefEqProofs only[go_sem,seval,ZlS,eN];refine LO (α:=Int×List Zo×Zm×Nat×Bool) (fun s=>[(8,.d (J s.1))]) (fun s=>[(0,.box [.d (.sl (bs.map UF)),(.d (J (s.2.2.2.1)))]),(1,.row 16 (s.2.1.map Zo.enc) true false),(2,.box [.own 4,.own 5,.own 6,(.d (J (s.2.2.1.Lost))),(.d (J (s.2.2.1.Came)))]),(4,.row 4 (s.2.2.1.Stock.map Zb.enc) true s.2.2.2.2),(5,.row 5 (s.2.2.1.Opn.map Zc.enc) true s.2.2.2.2),(6,.row 5 (s.2.2.1.Done.map Zc.enc) true s.2.2.2.2)]) (fun s=>0≤s.1∧s.1≤16∧(s.2.1.length:Int)≤16-s.1∧ZE s.2.2.1∧p+1≤s.2.2.2.1∧(s.2.2.2.1:Int)≤p+1+10*(16-s.1)) (fun s=>s.1.toNat) (n,[],⟨[],[],[],0,0⟩,p+1,false) ⟨ab.1,ab.2,by simp;omega,ZrB,by simp,by simp;omega⟩ ?_
 intro⟨m,out,⟨S,O,D,L,C⟩,pp,f⟩ ⟨i1,i2,i3,i4,i5,i6⟩ ih;simp only at i1 i2 i3 i4 i5 i6;by_cases hm:0<m
 ·by_cases ho:(out.length:Int)<aa
  ·obtain⟨r,eE,K,Lb,X,Y,W,H,pW,pH,pT,pK,Ct,o,a,q,t,ks,p',g1,g2,g3,rfl⟩:=ZrA bs hb pp o_ S O D L C (Zlw i4);have ea:=ZoN S O D L C K Lb X Y W H pW pH pT pK Ct o a q t ks i4 (fun e=>(g1 e).1) (fun e=>(g1 e).2);have hw:=wi (m-1) o_ o_;have hr:(out.length+1)*144≤140737488355328∧out.length≤140737488355327:=o_
   cases hap:Qu ⟨S,O,D,L,C⟩ ⟨K,Lb,⟨X,Y,W,H⟩,⟨⟨pW,pH,pT,pK⟩,Ct⟩,.mk o a q t ks⟩ with
   | none=>
    rw[hap] at ea;unfold shV at ea;simp (maxSteps:=10^7) +contextual -implicitDefEqProofs only[go_sem,seval,hm,ho,eE,ea,hw,hr];refine ih (m-1,out,⟨S,O,D,L,C⟩,p',true) _ ⟨p_,p_,p_,i4,p_,p_⟩ p_ ?_;simp (maxSteps:=10^7) +contextual -implicitDefEqProofs only[go_sem,seval]
   | some u=>
    have ad:=Zce hap;rw[hap] at ea;obtain⟨S',O',D',L',C'⟩:=u;unfold shV at ea;simp only at ea;simp (maxSteps:=10^7) +contextual -implicitDefEqProofs only[go_sem,seval,hm,ho,eE,ea,hw,hr];refine ih (m-1,out++[⟨K,Lb,⟨X,Y,W,H⟩,⟨⟨pW,pH,pT,pK⟩,Ct⟩,.mk o a q t ks⟩],⟨S',O',D',L',C'⟩,p',false) _ ⟨p_,p_,by simp only[Kr,Kn,KL];omega,ad,p_,p_⟩ p_ ?_;simp (maxSteps:=10^7) +contextual -implicitDefEqProofs only[go_sem,seval,KJ]
  ·simp (maxSteps:=10^7) +contextual -implicitDefEqProofs only[go_sem,seval,hm,ho];exact⟨out,S,O,D,L,C,f,pp,i4,o_,o_,o_,rfl⟩
 ·simp (maxSteps:=10^7) +contextual -implicitDefEqProofs only[go_sem,seval,hm];exact⟨out,S,O,D,L,C,f,pp,i4,o_,o_,o_,rfl⟩
abbrev AnyS (s:Zm):Prop:=WSh s
theorem ZB1 {s:Zm} (h:AnyS s):SmS s:=Zu1 h
theorem ZAx {s:Zm} (h:ZE s):AnyS s:=Zlw h
def PAny (bs:List UInt8) (p:Nat) (r:AV×List Zk):Prop:=∃ (S:List Zb) (O D:List Zc) (L C:Int) (f g h:Bool) (p' : Nat),AnyS ⟨S,O,D,L,C⟩∧p≤p'∧p'≤p+300 ∧
 r=(.agg [.own 1,.own 2,.own 3,(.d (J L)),(.d (J C))],[.box [.d (.sl (bs.map UF)),(.d (J (p')))],.row 4 (S.map Zb.enc) true f,.row 5 (O.map Zc.enc) true g,.row 5 (D.map Zc.enc) true h])
theorem Zu2 (bs:List UInt8) (hb:bs.length≤2000) (p:Nat) (hp:p<600000000):∃ r,v_ 46 [.ptr 0 0] [.box [.d (.sl (bs.map UF)),(.d (J p))]]=some r∧PAny bs p r:=by
 obtain⟨r,eB,out,S,O,D,L,C,f,p',hv,h1,h2,h3,rfl⟩:=Zsk bs hb p o_ 20;have ab:=ZAx hv;obtain⟨_,hO,_,ah,ae,ai,aj,_⟩:=hv;have af:=hO.1;obtain⟨a1,a2,a3,aa,a4,a5,a6,a7⟩:=ab;simp only at a1 a2 a3 aa a4 a5 a6 a7 af ae;have c0:=Qn bs p' 20 hb o_;generalize QY bs p' 20=c at c0;refine cW ?_;by_cases k0:c=0
 ·subst k0;have w:=wi (L+1) o_ o_;simp (maxSteps:=10^7) +contextual -implicitDefEqProofs only[go_sem,seval,Zaw,eB,c0,w];exact⟨S,O,D,L+1,C,_,_,_,p'+1,⟨a1,a2,a3,aa,p_,p_,a6,a7⟩,o_,o_,rfl⟩
 ·by_cases k1:c=1
  ·subst k1;obtain⟨v,ag,eV⟩:=ZbZ bs (p'+1) [-1,900001,0] hb o_ (by decide);have ad : -1≤v∧v≤900001:=by simp only[Kd,KC,or_false] at ag;omega
   simp only[Kk,Kt,Yi] at eV;simp (maxSteps:=10^7) +contextual -implicitDefEqProofs only[go_sem,seval,Zaw,eB,c0,eV];exact⟨S,O,D,L,v,_,_,_,p'+2,⟨a1,a2,a3,aa,a4,a5,ad.1,ad.2⟩,o_,o_,rfl⟩
  ·by_cases k2:c=2
   ·subst k2;have r1:O.length*40≤140737488355328∧O.length≤140737488355328:=o_
    have r2:(O.length+1)*40≤140737488355328∧O.length≤140737488355327:=o_
    simp (maxSteps:=10^7) +contextual -implicitDefEqProofs only[go_sem,seval,Zaw,Zod,eB,c0,r1,r2];refine⟨S,O++[⟨⟨1,1,false,0⟩,0⟩],D,L,C,f,false,f,p'+1,⟨a1,by simp only[Kr,Kn,KL];omega,fun x hx=>by
     rcases Kh.1 hx with hx | hx
     ·exact a3 x hx
     ·rw[KG.1 hx];simp only[VP];omega,aa,a4,a5,a6,a7⟩,o_,o_,?_⟩
    simp[Zc.enc]
   ·simp (maxSteps:=10^7) +contextual -implicitDefEqProofs only[go_sem,seval,Zaw,eB,c0,k0,k1,k2];exact⟨S,O,D,L,C,_,_,_,p'+1,⟨a1,a2,a3,aa,a4,a5,a6,a7⟩,o_,o_,rfl⟩
def Zza (s:Zm) (n:Int):Option Zt:=if ZE s then (match ZwN s.Stock n with
 | some (_,q)=>some ⟨q.W,q.H,s.Opn.map Zc.Pane⟩
 | none=>none) else none
def wkV:Option Zt→AV×List Zk
 | some k=>(.tup [.agg [(.d (J (k.W))),(.d (J (k.H))),.own 0],(.d (.bool true))],[.row 4 (k.Panes.map Pane.enc) true false])
 | none=>(.tup [.agg [(.d (J 0)),(.d (J 0)),.own 0],(.d (.bool false))],[.row 4 [] true false])
theorem ZlA (sS:List Zb) (sO sD:List Zc) (sL sC:Int) (n:Int):v_ 83 [(.d (.agg [.sl (sS.map Zb.enc),.sl (sO.map Zc.enc),.sl (sD.map Zc.enc),J sL,J sC])),(.d (J n))] []=some (wkV (Zza (Zm.mk sS sO sD sL sC) n)):=by
 have e1:=ZT sS sO sD sL sC;unfold Zza;by_cases hv:ZE (Zm.mk sS sO sD sL sC)
 ·rw[Kg hv] at e1;rw[Kj hv];have ab:=hv.1.1;have h8:=hv.2.1.1;simp only at ab h8;have e2:=Ya sS n o_;by_cases hf:Qz 0 sS n<0
  ·rw[ZeD hf];unfold wkV;refine cE ?_;simp (maxSteps:=10^7) +contextual -implicitDefEqProofs only[go_sem,seval,Zdl,e1,e2,hf]
  ·obtain⟨a,x,ha,hx⟩:=Zas (by omega:0≤Qz 0 sS n);rw[Zby ha hx];rw[ha] at e2;have ad:¬(a:Int)<0:=o_
   have aa:=(Kc.1 hx).1;obtain⟨xL,xW,xH,xF⟩:=x;unfold wkV;refine cE ?_;simp (maxSteps:=10^7) +contextual -implicitDefEqProofs only[go_sem,seval,Zdl,e1,e2,ad,aa,hx];refine LO (α:=Nat) (fun i=>[(37,.d (J (i:Int)))]) (fun i=>[(2,.row 4 (((sO.take i).map Zc.Pane).map Pane.enc) true false)]) (fun i=>i≤sO.length) (fun i=>sO.length-i) 0 o_ ?_;intro i hi ih;by_cases aa:i<sO.length
   ·obtain⟨x,hx⟩:=Zp aa;have hw:=Zh (k:=i) o_;have hm:=JY hx;have ae:(sO.take i).length≤i:=by simp;omega
    have hr:((sO.take i).length+1)*32≤140737488355328∧(sO.take i).length≤140737488355327:=o_
    obtain⟨⟨W,H,T,K⟩,C⟩:=x;simp only at hm;simp (maxSteps:=10^7) +contextual -implicitDefEqProofs only[go_sem,seval,hx,aa,hw,hr];refine ih (i+1) _ o_ o_ ?_;simp (maxSteps:=10^7) +contextual -implicitDefEqProofs only[go_sem,seval,hm]
    first | rfl | (simp;done) | (simp;rfl)
   ·have:i=sO.length:=o_
    subst this;simp (maxSteps:=10^7) +contextual -implicitDefEqProofs only[go_sem,seval];simp
 ·rw[Ki hv] at e1;rw[Ke hv];unfold wkV;refine cE ?_;simp (maxSteps:=10^7) +contextual -implicitDefEqProofs only[go_sem,seval,Zdl,e1]
end Go.Proofs.YtfnegoimdljanaaGreatDoor
