/- Own text. -/
import Derived.Test.YtbpekaejmjlmfaaGreatACode
import Derived.Test.YtbpekaejmjlmfaaGreatAbsParts
import Derived.Test.YtbpekaejmjlmfaaGreatAC7
import Derived.Test.YtbpekaejmjlmfaaGreatAC1
namespace Go.Proofs.YtbpekaejmjlmfaaGreat
open Go Go.Abs Go.Abs.E Go.Abs.L
open Nat (reduceMul reduceSub reduceLeDiff reduceEqDiff)
open Int (reduceLE reduceEq reduceToNat reduceNeg)
set_option linter.unusedSimpArgs false
set_option linter.unusedVariables false
set_option maxRecDepth 20000
set_option maxHeartbeats 4000000
def Zpf (F:List Box) (W w h y:Int):Nat→Int→Option Box
 | 0,_=>none
 | n+1,x=>if x+w≤W then (if Qd F ⟨x,y,w,h⟩ then some ⟨x,y,w,h⟩ else Zpf F W w h y n (x+1)) else none
def Zpg (F:List Box) (W H w h:Int):Nat→Int→Option Box
 | 0,_=>none
 | n+1,y=>if y+h≤H then (match Zpf F W w h y (W.toNat+1) 0 with
  | some b=>some b
  | none=>Zpg F W H w h n (y+1)) else none
def Q9 (q:Zb) (w h:Int):Option Box:=Zpg q.Flaws q.W q.H w h (q.H.toNat+1) 0
theorem ZsY {F:List Box} {W w h y:Int}:∀ {n:Nat} {x:Int} {b:Box},Zpf F W w h y n x=some b→x≤b.X∧b.X+w≤W∧b.Y=y∧b.W=w∧b.H=h∧Qd F b
 | 0,x,b,e=>by simp[Zpf] at e
 | n+1,x,b,e=>by
  unfold Zpf at e;split at e
  ·split at e
   ·cases e;exact⟨Kaa _,by assumption,rfl,rfl,rfl,by assumption⟩
   ·obtain⟨h1,h2⟩:=ZsY e;exact⟨by omega,h2⟩
  ·cases e
theorem ZsZ {F:List Box} {W H w h:Int}:∀ {n:Nat} {y:Int} {b:Box},Zpg F W H w h n y=some b→0≤b.X∧b.X+w≤W∧y≤b.Y∧b.Y+h≤H∧b.W=w∧b.H=h∧Qd F b
 | 0,y,b,e=>by simp[Zpg] at e
 | n+1,y,b,e=>by
  unfold Zpg at e;split at e
  ·rename_i hy;split at e
   ·rename_i c hc;cases e;obtain⟨h1,h2,h3,h4,h5,h6⟩:=ZsY hc;exact⟨h1,h2,by omega,by omega,h4,h5,h6⟩
   ·obtain⟨h1,h2,h3,h4⟩:=ZsZ e;exact⟨h1,h2,by omega,h4⟩
  ·cases e
theorem ZbR {q:Zb} {w h:Int} {b:Box} (e:Q9 q w h=some b):0≤b.X∧b.X+w≤q.W∧0≤b.Y∧b.Y+h≤q.H∧b.W=w∧b.H=h∧Qd q.Flaws b:=ZsZ e
def fcV:Option Box→AV×List Zn
 | some b=>(.tup [.d b.enc,(.d (.bool true))],[])
 | none=>(.tup [.d (.agg [J 0,J 0,J 0,J 0]),(.d (.bool false))],[])
theorem JA (qL qW qH:Int) (qF:List Box) (w h:Int) (hq:VPc (Zb.mk qL qW qH qF)) (hw:1≤w∧w≤200) (hh:1≤h∧h≤200):Zd Xs Ms XV [(.d (.agg [J qL,J qW,J qH,.sl (qF.map Box.enc)])),(.d (J w)),(.d (J h))] []=some (fcV (Q9 (Zb.mk qL qW qH qF) w h)):=by
 have hF:∀ f∈qF,VB f:=fun f hf=>(hq.2 f hf).1;obtain⟨_,_,af,ag,ah,ai,aj⟩:=hq.1;simp only at af ag ah ai aj;clear hq;unfold Q9;simp only;refine cE ?_;simp +contextual -implicitDefEqProofs (maxSteps:=10^7) only[go_sem,seval,↓gZ,Zdm];refine LO (α:=Nat) (fun y=>[(8,.d (J (y:Int)))]) (fun _=>[]) (fun y=>(y:Int)≤qH∧Zpg qF qW qH w h (qH.toNat+1-y) y=Zpg qF qW qH w h (qH.toNat+1) 0) (fun y=>qH.toNat+1-y) 0 ⟨by omega,by simp⟩ ?_;intro y ⟨hy,hp⟩ ih;obtain⟨n,hn⟩:∃ n,qH.toNat+1-y=n+1:=⟨qH.toNat-y,by omega⟩
 rw[hn,Zpg] at hp;have wy:=wi ((y:Int)+h) (by omega) (by omega);by_cases ad:(y:Int)+h≤qH
 ·rw[Kl ad] at hp;simp +contextual -implicitDefEqProofs (maxSteps:=10^7) only[go_sem,seval,↓gZ,wy,ad];refine XP Xs Ms (st0:=?st1) (α:=Nat) (fun x=>[(9,.d (J (x:Int)))]) (fun _=>[]) (fun x=>(x:Int)≤qW∧Zpf qF qW w h y (qW.toNat+1-x) x=Zpf qF qW w h y (qW.toNat+1) 0) (fun x=>qW.toNat+1-x) 0 ?hc2 ⟨by omega,by simp⟩ ?h02 ?step2
  case hc2=>simp +contextual -implicitDefEqProofs (maxSteps:=10^7) only[go_sem,seval,↓gZ]<;>exact rfl
  case h02=>rfl
  case step2=>
   intro x ⟨hx,aa⟩ ak;obtain⟨m,hm⟩:∃ m,qW.toNat+1-x=m+1:=⟨qW.toNat-x,by omega⟩
   rw[hm,Zpf] at aa;have wx:=wi ((x:Int)+w) (by omega) (by omega);have al:=Zh (k:=x) (by omega);have am:=Zh (k:=y) (by omega);by_cases ab:(x:Int)+w≤qW
   ·rw[Kl ab] at aa;have ec:=Zkg qL qW qH qF x y w h hF (by simp only[VB];omega) (by omega);by_cases ae:Qd qF ⟨x,y,w,h⟩
    ·rw[Kl ae] at aa;rw[← aa] at hp;simp only at hp;rw[Ke ae] at ec;simp +contextual -implicitDefEqProofs (maxSteps:=10^7) only[go_sem,seval,↓gZ,wx,ab,ec];rw[← hp];rfl
    ·rw[Ki ae] at aa;rw[Kh ae] at ec;simp +contextual -implicitDefEqProofs (maxSteps:=10^7) only[go_sem,seval,↓gZ,wx,ab,ec,al];refine ak (x+1) _ ⟨by omega,?_⟩ (by omega) ?_
     ·rw[← aa];have:qW.toNat+1-(x+1)=m:=by omega
      rw[this];rfl
     ·simp +contextual -implicitDefEqProofs (maxSteps:=10^7) only[go_sem,seval,↓gZ]
   ·rw[Ki ab] at aa;rw[← aa] at hp;simp only at hp;simp +contextual -implicitDefEqProofs (maxSteps:=10^7) only[go_sem,seval,↓gZ,wx,ab,am];refine ih (y+1) _ ⟨by omega,?_⟩ (by omega) ?_
    ·rw[← hp];have:qH.toNat+1-(y+1)=n:=by omega
     rw[this];rfl
    ·simp +contextual -implicitDefEqProofs (maxSteps:=10^7) only[go_sem,seval,↓gZ]
 ·rw[Ki ad] at hp;simp +contextual -implicitDefEqProofs (maxSteps:=10^7) only[go_sem,seval,↓gZ,wy,ad];rw[← hp];rfl
def okP (p:Pane) (q:Zb):Bool:=(Q9 q p.W p.H).isSome || (p.Turns&&(Q9 q p.H p.W).isSome)
def ZfH (l:List Zb) (b:Int):Int:=match l[b.toNat]? with
 | some q=>q.W*q.H
 | none=>0
def Zb8 (L:List Zb) (p:Pane):List Zb→Nat→Int→Int
 | [],_,b=>b
 | x :: r,i,b=>Zb8 L p r (i+1) (if okP p x=true∧(b<0∨x.W*x.H<ZfH L b) then (i:Int) else b)
theorem ZmH {L l:List Zb} {p:Pane} {k i:Nat} {x:Zb} {b:Int} (hx:l[k]?=some x):Zb8 L p (l.drop k) i b=Zb8 L p (l.drop (k+1)) (i+1) (if okP p x=true∧(b<0∨x.W*x.H<ZfH L b) then (i:Int) else b):=by
 obtain⟨h1,h2⟩:=Kc.1 hx;rw[Ku h1,h2,Zb8]
theorem Zph {L l:List Zb} {p:Pane} {i:Nat} {b:Int}:Zb8 L p (l.drop l.length) i b=b:=by simp[Zb8]
def Zd3 (L:List Zb) (p:Pane):Int:=Zb8 L p L 0 (-1)
def Zs0 (L:List Zb) (p:Pane):Int:=if VSt L∧VP p then (if Zd3 L p<0 then 0 else match L[(Zd3 L p).toNat]? with
 | some q=>q.Label
 | none=>0) else 0
theorem Zs1 (L:List Zb) (p:Pane):∀ (l:List Zb) (i:Nat) (b:Int),(∀ (j:Nat) (x:Zb),l[j]?=some x→L[i+j]?=some x)→(b<0∨∃ (j:Nat) (x:Zb),b=(j:Int)∧L[j]?=some x∧okP p x=true)→Zb8 L p l i b<0∨∃ (j:Nat) (x:Zb),Zb8 L p l i b=(j:Int)∧L[j]?=some x∧okP p x=true
 | [],i,b,_,hb=>hb
 | x :: r,i,b,hl,hb=>by
  unfold Zb8;refine Zs1 L p r (i+1) _ (fun j y hy=>by have:=hl (j+1) y (by simpa using hy);rw[show i+1+j=i+(j+1) by omega];exact this) ?_;split
  ·rename_i hc;exact .inr ⟨i,x,rfl,by have:=hl 0 x (by simp);simpa using this,hc.1⟩
  ·exact hb
theorem Zpi (L:List Zb) (p:Pane):Zd3 L p<0∨∃ (j:Nat) (x:Zb),Zd3 L p=(j:Int)∧L[j]?=some x∧okP p x=true:=
 Zs1 L p L 0 (-1) (fun j x h=>by simpa using h) (.inl (by omega))
theorem Zpj (l:List Zb) (pW pH:Int) (pT:Bool) (pK:Int) (hv:VSt l) (hp:VP (Pane.mk pW pH pT pK)):Zd Xs Ms Jg [(.d (.sl (l.map Zb.enc))),(.d (.agg [J pW,J pH,.bool pT,J pK]))] []=some ((.d (J (Zs0 l (Pane.mk pW pH pT pK)))),[]):=by
 have e1:=YI l (by have:=hv.1;omega) (fun x hx=>⟨by have:=(ZcH hv).2 x hx;omega,Zkl (Z3 hv.2 x hx)⟩);have e2:=Vl pW pH pT pK;rw[Ke hv] at e1;rw[Ke hp] at e2;have ad:=fun x hx=>Z3 hv.2 x hx;have aj:=hv.1;unfold Zs0;rw[Kl ⟨hv,hp⟩];have ae:1≤pW∧pW≤200∧1≤pH∧pH≤200:=⟨hp.1,hp.2.1,hp.2.2.1,hp.2.2.2.1⟩
 clear hv hp;refine cE ?_;simp +contextual -implicitDefEqProofs (maxSteps:=10^7) only[go_sem,seval,↓gZ,ZeE,e1,e2];refine LO (α:=Nat×Int) (fun s=>[(6,.d (J (s.1:Int))),(5,.d (J s.2))]) (fun _=>[]) (fun s=>s.1≤l.length∧Zb8 l (Pane.mk pW pH pT pK) (l.drop s.1) s.1 s.2=Zd3 l (Pane.mk pW pH pT pK)∧(s.2=-1∨∃ j:Nat,s.2=(j:Int)∧j<l.length)) (fun s=>l.length-s.1) (0,-1) ⟨by simp,by simp[Zd3],.inl rfl⟩ ?_;intro⟨i,b⟩ ⟨hi,hq,hb⟩ ih;simp only at hi hq hb;by_cases ab:i<l.length
 ·obtain⟨x,hx⟩:=Zl ab;have hw:=Zh (k:=i) (by omega);rw[ZmH hx] at hq;have ag:=ad x (Kb hx);have f1:=JA x.Label x.W x.H x.Flaws pW pH ag ⟨ae.1,ae.2.1⟩ ae.2.2;have f2:=JA x.Label x.W x.H x.Flaws pH pW ag ae.2.2 ⟨ae.1,ae.2.1⟩;have am:=ag.1;have ak:0≤x.W*x.H∧x.W*x.H≤40000:=JF (b:=⟨0,0,x.W,x.H⟩) (by simp only[VB];omega);have aa:okP (Pane.mk pW pH pT pK) x=((Q9 ⟨x.Label,x.W,x.H,x.Flaws⟩ pW pH).isSome || (pT&&(Q9 ⟨x.Label,x.W,x.H,x.Flaws⟩ pH pW).isSome)):=rfl;obtain⟨L,W,H,F⟩:=x;simp only at f1 f2 ak aa;have u1:=wi (W*H) (by omega) (by omega);cases h1:Q9 ⟨L,W,H,F⟩ pW pH with
  | some b1=>
   rw[h1] at f1 aa;unfold fcV at f1;simp only[Li,Kau] at aa;obtain⟨bX,bY,bW,bH⟩:=b1;rcases hb with hb | ⟨j,hb,hj⟩
   ·subst hb;rw[Kl ⟨aa,.inl (by omega)⟩] at hq;simp +contextual -implicitDefEqProofs (maxSteps:=10^7) only[go_sem,seval,↓gZ,hx,ab,hw,f1];refine ih (i+1,(i:Int)) _ ⟨by simp only;omega,hq,.inr ⟨i,rfl,ab⟩⟩ (by simp only;omega) ?_;simp +contextual -implicitDefEqProofs (maxSteps:=10^7) only[go_sem,seval,↓gZ]
   ·subst hb;obtain⟨y,hy⟩:=Zl hj;have al:=(ad y (Kb hy)).1;have ah:0≤y.W*y.H∧y.W*y.H≤40000:=JF (b:=⟨0,0,y.W,y.H⟩) (by simp only[VB];omega);have af:¬(j:Int)<0:=by omega
    have ai:ZfH l (j:Int)=y.W*y.H:=by unfold ZfH;rw[KA,hy]
    rw[ai] at hq;obtain⟨yL,yW,yH,yF⟩:=y;simp only at ah hq;have u2:=wi (yW*yH) (by omega) (by omega);by_cases hc:W*H<yW*yH
    ·rw[Kl ⟨aa,.inr hc⟩] at hq;simp +contextual -implicitDefEqProofs (maxSteps:=10^7) only[go_sem,seval,↓gZ,hx,ab,hw,af,hj,hy,u1,u2,hc,f1];refine ih (i+1,(i:Int)) _ ⟨by simp only;omega,hq,.inr ⟨i,rfl,ab⟩⟩ (by simp only;omega) ?_;simp +contextual -implicitDefEqProofs (maxSteps:=10^7) only[go_sem,seval,↓gZ]
    ·rw[Ki (fun h=>by rcases h.2 with h | h<;>omega)] at hq;simp +contextual -implicitDefEqProofs (maxSteps:=10^7) only[go_sem,seval,↓gZ,hx,ab,hw,af,hj,hy,u1,u2,hc,f1];refine ih (i+1,(j:Int)) _ ⟨by simp only;omega,hq,.inr ⟨j,rfl,hj⟩⟩ (by simp only;omega) ?_;simp +contextual -implicitDefEqProofs (maxSteps:=10^7) only[go_sem,seval,↓gZ]
  | none=>
   rw[h1] at f1 aa;unfold fcV at f1;cases pT with
   | false=>
    simp only[KY,LU,Bool.or_self] at aa;rw[Ki (fun h=>by rw[aa] at h;exact absurd h.1 (by simp))] at hq;simp +contextual -implicitDefEqProofs (maxSteps:=10^7) only[go_sem,seval,↓gZ,hx,ab,hw,f1];refine ih (i+1,b) _ ⟨by simp only;omega,hq,hb⟩ (by simp only;omega) ?_;simp +contextual -implicitDefEqProofs (maxSteps:=10^7) only[go_sem,seval,↓gZ]
   | true=>
    cases h2:Q9 ⟨L,W,H,F⟩ pH pW with
    | none=>
     rw[h2] at f2 aa;unfold fcV at f2;simp only[KY,Lf,Bool.or_self] at aa;rw[Ki (fun h=>by rw[aa] at h;exact absurd h.1 (by simp))] at hq;simp +contextual -implicitDefEqProofs (maxSteps:=10^7) only[go_sem,seval,↓gZ,hx,ab,hw,f1,f2];refine ih (i+1,b) _ ⟨by simp only;omega,hq,hb⟩ (by simp only;omega) ?_;simp +contextual -implicitDefEqProofs (maxSteps:=10^7) only[go_sem,seval,↓gZ]
    | some b2=>
     rw[h2] at f2 aa;unfold fcV at f2;simp only[Li,KY,Lf,Lv] at aa;obtain⟨bX,bY,bW,bH⟩:=b2;rcases hb with hb | ⟨j,hb,hj⟩
     ·subst hb;rw[Kl ⟨aa,.inl (by omega)⟩] at hq;simp +contextual -implicitDefEqProofs (maxSteps:=10^7) only[go_sem,seval,↓gZ,hx,ab,hw,f1,f2];refine ih (i+1,(i:Int)) _ ⟨by simp only;omega,hq,.inr ⟨i,rfl,ab⟩⟩ (by simp only;omega) ?_;simp +contextual -implicitDefEqProofs (maxSteps:=10^7) only[go_sem,seval,↓gZ]
     ·subst hb;obtain⟨y,hy⟩:=Zl hj;have al:=(ad y (Kb hy)).1;have ah:0≤y.W*y.H∧y.W*y.H≤40000:=JF (b:=⟨0,0,y.W,y.H⟩) (by simp only[VB];omega);have af:¬(j:Int)<0:=by omega
      have ai:ZfH l (j:Int)=y.W*y.H:=by unfold ZfH;rw[KA,hy]
      rw[ai] at hq;obtain⟨yL,yW,yH,yF⟩:=y;simp only at ah hq;have u2:=wi (yW*yH) (by omega) (by omega);by_cases hc:W*H<yW*yH
      ·rw[Kl ⟨aa,.inr hc⟩] at hq;simp +contextual -implicitDefEqProofs (maxSteps:=10^7) only[go_sem,seval,↓gZ,hx,ab,hw,af,hj,hy,u1,u2,hc,f1,f2];refine ih (i+1,(i:Int)) _ ⟨by simp only;omega,hq,.inr ⟨i,rfl,ab⟩⟩ (by simp only;omega) ?_;simp +contextual -implicitDefEqProofs (maxSteps:=10^7) only[go_sem,seval,↓gZ]
      ·rw[Ki (fun h=>by rcases h.2 with h | h<;>omega)] at hq;simp +contextual -implicitDefEqProofs (maxSteps:=10^7) only[go_sem,seval,↓gZ,hx,ab,hw,af,hj,hy,u1,u2,hc,f1,f2];refine ih (i+1,(j:Int)) _ ⟨by simp only;omega,hq,.inr ⟨j,rfl,hj⟩⟩ (by simp only;omega) ?_;simp +contextual -implicitDefEqProofs (maxSteps:=10^7) only[go_sem,seval,↓gZ]
 ·have:i=l.length:=by omega
  subst this;rw[Zph] at hq;subst hq;rcases hb with hb | ⟨j,hb,hj⟩
  ·have h0:Zd3 l (Pane.mk pW pH pT pK)<0:=by omega
   simp +contextual -implicitDefEqProofs (maxSteps:=10^7) only[go_sem,seval,↓gZ,hb]
  ·have h0:¬Zd3 l (Pane.mk pW pH pT pK)<0:=by omega
   have h1:¬(j:Int)<0:=by omega
   obtain⟨y,hy⟩:=Zl hj;simp only[hb,Ki h1,KA,hy];obtain⟨yL,yW,yH,yF⟩:=y;simp +contextual -implicitDefEqProofs (maxSteps:=10^7) only[go_sem,seval,↓gZ,h1,hj,hy]
def VJ (lo hi fr to:Int):List Int:=(if fr<lo∧lo<to then [lo] else [])++(if fr<hi∧hi<to then [hi] else [])
theorem ZzR {lo hi fr to x:Int} (h:x∈VJ lo hi fr to):x<to:=by
 unfold VJ at h;rcases Kf.1 h with h | h
 ·split at h
  ·simp at h;omega
  ·simp at h
 ·split at h
  ·simp at h;omega
  ·simp at h
theorem ZlI (lo hi fr to:Int):(VJ lo hi fr to).length≤2:=by
 unfold VJ;split<;>split<;>simp
theorem ZzS {lo hi fr t:Int} (hl:lo<hi) (hf:fr<t) (h:t=lo∨t=hi):VJ lo hi fr (t+1)=VJ lo hi fr t++[t]:=by
 unfold VJ;rcases h with h | h
 ·rw[Kl (show fr<lo∧lo<t+1 by omega),Ki (show ¬(fr<hi∧hi<t+1) by omega),Ki (show ¬(fr<lo∧lo<t) by omega),Ki (show ¬(fr<hi∧hi<t) by omega),h];rfl
 ·rw[Kl (show fr<hi∧hi<t+1 by omega),Ki (show ¬(fr<hi∧hi<t) by omega)];by_cases h2:fr<lo
  ·rw[Kl (show fr<lo∧lo<t+1 by omega),Kl (show fr<lo∧lo<t by omega),h];rfl
  ·rw[Ki (show ¬(fr<lo∧lo<t+1) by omega),Ki (show ¬(fr<lo∧lo<t) by omega),h];rfl
theorem ZBe {lo hi fr t:Int} (h:¬(t=lo∨t=hi)):VJ lo hi fr (t+1)=VJ lo hi fr t:=by
 unfold VJ;have h1:(fr<lo∧lo<t+1)=(fr<lo∧lo<t):=propext (by omega);have h2:(fr<hi∧hi<t+1)=(fr<hi∧hi<t):=propext (by omega);simp only[h1,h2]
theorem Zks:∀ (l:List Int) (k:Nat) (n:Int),n∉l→ZO k l n=-1
 | [],_,_,_=>rfl
 | x :: l,k,n,h=>by
  simp only[Kg,not_or] at h;unfold ZO;rw[Ki (fun e=>h.1 e.symm),Zks l (k+1) n h.2]
theorem Zpk (cP:Int) (cT:Bool) (cX cY cW cH:Int) (op lo n fr to:Int) (ho:(op=2∧lo=cX∧n=cW)∨(op=3∧lo=cY∧n=cH)) (hc:0≤cX∧cX≤1000∧0≤cY∧cY≤1000∧1≤cW∧cW≤1000∧1≤cH∧cH≤1000) (h0:0≤fr) (h1:fr<to) (h2:to≤1000):Zd Xs Ms ZcK [.d (.sl [.agg [J cP,.bool cT,J cX,J cY,J cW,J cH]]),(.d (J op)),(.d (J fr)),(.d (J to))] []=some (.own 0,[.row 1 ((VJ lo (lo+n) fr to).map Qg) true false]):=by
 have w0:=wi (fr+1) (by omega) (by omega);have wx:=wi (cX+cW) (by omega) (by omega);have wy:=wi (cY+cH) (by omega) (by omega);have hn:lo<lo+n:=by omega
 have ae:VJ lo (lo+n) fr (fr+1)=[]:=by unfold VJ;rw[Ki (by omega),Ki (by omega)];rfl
 refine cE ?_;simp +contextual -implicitDefEqProofs (maxSteps:=10^7) only[go_sem,seval,↓gZ,Zio,w0];refine XP Xs Ms (st0:=?st0) (α:=Int) (fun t=>[(10,.d (J t))]) (fun t=>[(0,.row 1 ((VJ lo (lo+n) fr t).map Qg) true false)]) (fun t=>fr+1≤t∧t≤to) (fun t=>(to-t).toNat) (fr+1) ?hc (by omega) ?h0 ?step
 case hc=>simp +contextual -implicitDefEqProofs (maxSteps:=10^7) only[go_sem,seval,↓gZ]<;>exact rfl
 case h0=>rw[ae];rfl
 case step=>
  intro t ⟨ag,ah⟩ ih;by_cases ab:t<to
  ·have wt:=wi (t+1) (by omega) (by omega);have ai:=ZlI lo (lo+n) fr t;have hr:((VJ lo (lo+n) fr t).length+1)*8≤140737488355328∧(VJ lo (lo+n) fr t).length≤140737488355327:=by omega
   have ad:=Zj7 (VJ lo (lo+n) fr t) t (by omega);rw[Zks _ _ _ (fun h=>by have:=ZzR h;omega)] at ad;by_cases hm:t=lo∨t=lo+n
   ·have hy:=ZzS hn (show fr<t by omega) hm;have af:(1:Int)+0=1:=rfl;rcases ho with ⟨o1,o2,o3⟩ | ⟨o1,o2,o3⟩
    ·have aa : (t=cX∨t=cX+cW):=by omega
     simp +contextual -implicitDefEqProofs (maxSteps:=10^7) only[go_sem,seval,↓gZ,ab];refine ZN Xs Ms ?_;simp +contextual -implicitDefEqProofs (maxSteps:=10^7) only[go_sem,seval,↓gZ,wx,o1,aa,ad,hr,← K5];refine ZN Xs Ms ?_;simp +contextual -implicitDefEqProofs (maxSteps:=10^7) only[go_sem,seval,↓gZ,wt];refine ih (t+1) _ (by omega) (by omega) ?_;simp +contextual -implicitDefEqProofs (maxSteps:=10^7) only[go_sem,seval,↓gZ,hy,o1,KG,Ko,Kz]
    ·have aa : (t=cY∨t=cY+cH):=by omega
     simp +contextual -implicitDefEqProofs (maxSteps:=10^7) only[go_sem,seval,↓gZ,ab];refine ZN Xs Ms ?_;simp +contextual -implicitDefEqProofs (maxSteps:=10^7) only[go_sem,seval,↓gZ,wx,wy,o1,aa,ad,hr,← K5];refine ZN Xs Ms ?_;simp +contextual -implicitDefEqProofs (maxSteps:=10^7) only[go_sem,seval,↓gZ,wt];refine ih (t+1) _ (by omega) (by omega) ?_;simp +contextual -implicitDefEqProofs (maxSteps:=10^7) only[go_sem,seval,↓gZ,hy,o1,KG,Ko,Kz]
   ·have hy:=ZBe (fr:=fr) hm;rcases ho with ⟨o1,o2,o3⟩ | ⟨o1,o2,o3⟩
    ·have aa : ¬(t=cX∨t=cX+cW):=by omega
     simp +contextual -implicitDefEqProofs (maxSteps:=10^7) only[go_sem,seval,↓gZ,ab];refine ZN Xs Ms ?_;simp +contextual -implicitDefEqProofs (maxSteps:=10^7) only[go_sem,seval,↓gZ,wx,o1,aa,← K5];refine ZN Xs Ms ?_;simp +contextual -implicitDefEqProofs (maxSteps:=10^7) only[go_sem,seval,↓gZ,wt];refine ih (t+1) _ (by omega) (by omega) ?_;simp +contextual -implicitDefEqProofs (maxSteps:=10^7) only[go_sem,seval,↓gZ,hy,o1]
    ·have aa : ¬(t=cY∨t=cY+cH):=by omega
     simp +contextual -implicitDefEqProofs (maxSteps:=10^7) only[go_sem,seval,↓gZ,ab];refine ZN Xs Ms ?_;simp +contextual -implicitDefEqProofs (maxSteps:=10^7) only[go_sem,seval,↓gZ,wx,wy,o1,aa,← K5];refine ZN Xs Ms ?_;simp +contextual -implicitDefEqProofs (maxSteps:=10^7) only[go_sem,seval,↓gZ,wt];refine ih (t+1) _ (by omega) (by omega) ?_;simp +contextual -implicitDefEqProofs (maxSteps:=10^7) only[go_sem,seval,↓gZ,hy,o1]
  ·have:t=to:=by omega
   subst this;simp +contextual -implicitDefEqProofs (maxSteps:=10^7) only[go_sem,seval,↓gZ]
theorem Zil (cP:Int) (cT:Bool) (cX cY cW cH:Int) (op lo n t:Int) (f:Bool) (ho:(op=2∧lo=cX∧n=cW)∨(op=3∧lo=cY∧n=cH)) (hc:0≤cX∧cX≤1000∧0≤cY∧cY≤1000∧1≤cW∧cW≤1000∧1≤cH∧cH≤1000) (hn:¬(lo<t∧t<lo+n)):Zd Xs Ms Zc9 [.d (.sl [.agg [J cP,.bool cT,J cX,J cY,J cW,J cH]]),(.d (J op)),(.d (J t)),(.d (.bool f))] [] =
  some (.tup [.own 0,(.d (.bool true))],[.row 6 (if f=decide (lo+n≤t) then [.agg [J cP,.bool cT,J cX,J cY,J cW,J cH]] else []) true false]):=by
 have wx:=wi (cX+cW) (by omega) (by omega);have wy:=wi (cY+cH) (by omega) (by omega);have bb:∀ a b:Bool,ZjT .eql true (.d (.bool a)) (.d (.bool b))=QD (.d (.bool (a==b))):=fun _ _=>rfl;refine cE ?_;rcases ho with ⟨o1,o2,o3⟩ | ⟨o1,o2,o3⟩
 ·have aa : ¬(cX<t∧t<cX+cW):=by omega
  have he:(lo+n≤t)=(cX+cW≤t):=propext (by omega);simp only[he];simp +contextual -implicitDefEqProofs (maxSteps:=10^7) only[go_sem,seval,↓gZ,Zhu];refine ZN Xs Ms ?_;by_cases hf:f=decide (cX+cW≤t)
  ·have hg:(f==decide (cX+cW≤t))=true:=by rw[hf];simp
   rw[Kl hf];simp +contextual -implicitDefEqProofs (maxSteps:=10^7) only[go_sem,seval,↓gZ,wx,o1,aa,bb,hg,← KV];refine ZN Xs Ms ?_;simp +contextual -implicitDefEqProofs (maxSteps:=10^7) only[go_sem,seval,↓gZ]
  ·have hg:(f==decide (cX+cW≤t))=false:=by simpa using hf
   rw[Ki hf];simp +contextual -implicitDefEqProofs (maxSteps:=10^7) only[go_sem,seval,↓gZ,wx,o1,aa,bb,hg,← KV];refine ZN Xs Ms ?_;simp +contextual -implicitDefEqProofs (maxSteps:=10^7) only[go_sem,seval,↓gZ]
 ·have aa : ¬(cY<t∧t<cY+cH):=by omega
  have he:(lo+n≤t)=(cY+cH≤t):=propext (by omega);simp only[he];simp +contextual -implicitDefEqProofs (maxSteps:=10^7) only[go_sem,seval,↓gZ,Zhu];refine ZN Xs Ms ?_;by_cases hf:f=decide (cY+cH≤t)
  ·have hg:(f==decide (cY+cH≤t))=true:=by rw[hf];simp
   rw[Kl hf];simp +contextual -implicitDefEqProofs (maxSteps:=10^7) only[go_sem,seval,↓gZ,wx,wy,o1,aa,bb,hg,← KV];refine ZN Xs Ms ?_;simp +contextual -implicitDefEqProofs (maxSteps:=10^7) only[go_sem,seval,↓gZ]
  ·have hg:(f==decide (cY+cH≤t))=false:=by simpa using hf
   rw[Ki hf];simp +contextual -implicitDefEqProofs (maxSteps:=10^7) only[go_sem,seval,↓gZ,wx,wy,o1,aa,bb,hg,← KV];refine ZN Xs Ms ?_;simp +contextual -implicitDefEqProofs (maxSteps:=10^7) only[go_sem,seval,↓gZ]
def Zae:Ze→AV×List Zn
 | .mk o a q t ks=>(.tup [.agg [(.d (J o)),(.d (J a)),(.d (J q)),(.d (.bool t)),.own 0],(.d (.bool true))],[.row 5 (ks.map Ze.enc) true false])
theorem ZbE (bX bY bW bH:Int):Zd Xs Ms Qb [.d (.sl []),(.d (.agg [J bX,J bY,J bW,J bH]))] []=some (Zae BT.waste.plan):=by
 simp only[BT.plan,Zae];refine cE ?_;simp +contextual -implicitDefEqProofs (maxSteps:=10^7) only[go_sem,seval,↓gZ,YU]
theorem Zhi (cP:Int) (cT:Bool) (cX cY cW cH:Int):Zd Xs Ms Qb [.d (.sl [.agg [J cP,.bool cT,J cX,J cY,J cW,J cH]]),.d (.agg [J cX,J cY,J cW,J cH])] []=some (Zae (BT.pane cP cT).plan):=by
 simp only[BT.plan,Zae];refine cE ?_;simp +contextual -implicitDefEqProofs (maxSteps:=10^7) only[go_sem,seval,↓gZ,YU]
theorem Zaf (A B:List D) (bX bY bW bH:Int) (d:Bool) (a:Int) (l r:BT) (hA:uni 6 A) (hB:uni 6 B) (h1:R64 (bX+a)) (h2:R64 (bY+a)) (h3:R64 (bW-a)) (h4:R64 (bH-a))
  (hl:Zd Xs Ms Qb [.d (.sl A),if d then .d (.agg [J bX,J bY,J a,J bH]) else .d (.agg [J bX,J bY,J bW,J a])] []=some (Zae l.plan))
  (hr:Zd Xs Ms Qb [.d (.sl B),if d then .d (.agg [J (bX+a),J bY,J (bW-a),J bH]) else .d (.agg [J bX,J (bY+a),J bW,J (bH-a)])] []=some (Zae r.plan)) :
  Zd Xs Ms Yp [.d (.sl A),.d (.sl B),(.d (.agg [J bX,J bY,J bW,J bH])),(.d (J (Z9 d))),(.d (J a))] []=some (Zae (BT.cut d a l r).plan):=by
 have w1:=wi (bX+a) h1.1 h1.2;have w2:=wi (bY+a) h2.1 h2.2;have w3:=wi (bW-a) h3.1 h3.2;have w4:=wi (bH-a) h4.1 h4.2;obtain⟨lo,la,lq,lt,lk,el⟩:∃ o a q t ks,l.plan=.mk o a q t ks:=by cases l.plan;exact⟨_,_,_,_,_,rfl⟩
 obtain⟨ro,ra,rq,rt,rk,er⟩:∃ o a q t ks,r.plan=.mk o a q t ks:=by cases r.plan;exact⟨_,_,_,_,_,rfl⟩
 rw[el] at hl;rw[er] at hr;simp only[BT.plan,el,er,Zae] at hl hr ⊢;cases d with
 | true=>
  simp only[Kk,Z9] at hl hr ⊢;refine cE ?_;simp +contextual -implicitDefEqProofs (maxSteps:=10^7) only[go_sem,seval,↓gZ,QK,w1,w3,hl,hr,hA,hB]
 | false=>
  simp only[Ka,Kj,Z9] at hl hr ⊢;refine cE ?_;simp +contextual -implicitDefEqProofs (maxSteps:=10^7) only[go_sem,seval,↓gZ,QK,w1,w2,w3,w4,hl,hr,hA,hB]
theorem Zag (cP:Int) (cT:Bool) (cX cY cW cH:Int) (bX bY bW bH:Int) (d:Bool) (x:Int) (r:List Int) (P:Ze) (hc:0≤cX∧cX≤1000∧0≤cY∧cY≤1000∧1≤cW∧cW≤1000∧1≤cH∧cH≤1000) (hb:0≤bX∧0≤bY∧1≤bW∧1≤bH∧bX+bW≤1000∧bY+bH≤1000) (ad:¬(cX=bX∧cY=bY∧cW=bW∧cH=bH))
  (h2:d=false→VJ cX (cX+cW) bX (bX+bW)=[])
  (he:(if d then VJ cX (cX+cW) bX (bX+bW) else VJ cY (cY+cH) bY (bY+bH))=x :: r)
  (hn:if d then ¬(cX<x∧x<cX+cW) else ¬(cY<x∧x<cY+cH)) (hx:if d then bX<x∧x<bX+bW else bY<x∧x<bY+bH)
  (hp:Zd Xs Ms Yp [.d (.sl (if true=decide ((if d then cX+cW else cY+cH)≤x) then [.agg [J cP,.bool cT,J cX,J cY,J cW,J cH]] else [])),.d (.sl (if false=decide ((if d then cX+cW else cY+cH)≤x) then [.agg [J cP,.bool cT,J cX,J cY,J cW,J cH]] else [])),(.d (.agg [J bX,J bY,J bW,J bH])),(.d (J (Z9 d))),(.d (J (x-(if d then bX else bY))))] []=some (Zae P)) :
  Zd Xs Ms Qb [.d (.sl [.agg [J cP,.bool cT,J cX,J cY,J cW,J cH]]),(.d (.agg [J bX,J bY,J bW,J bH]))] []=some (Zae P):=by
 have w1:=wi (bX+bW) (by omega) (by omega);have w2:=wi (bY+bH) (by omega) (by omega);have c2:(0:Int)<((2:Nat):Int):=by omega
 obtain⟨o,a,q,t,ks⟩:=P;simp only[Zae] at hp ⊢;have e2:=Zpk cP cT cX cY cW cH 2 cX cW bX (bX+bW) (.inl ⟨rfl,rfl,rfl⟩) hc hb.1 (by omega) (by omega);have e3:=Zpk cP cT cX cY cW cH 3 cY cH bY (bY+bH) (.inr ⟨rfl,rfl,rfl⟩) hc hb.2.1 (by omega) (by omega);have ae:r=[]∨∃ y,r=[y]:=by
  have h1:(x :: r).length≤2:=by
   rw[← he];cases d
   ·exact ZlI _ _ _ _
   ·exact ZlI _ _ _ _
  match r,h1 with
  | [],_=>exact .inl rfl
  | [y],_=>exact .inr ⟨y,rfl⟩
  | y :: z :: r,h1=>simp at h1
 cases d with
 | true=>
  simp only[Kk,Z9] at he hn hx hp;rw[he] at e2;have w3:=wi (x-bX) (by omega) (by omega);have p1:=Zil cP cT cX cY cW cH 2 cX cW x true (.inl ⟨rfl,rfl,rfl⟩) hc hn;have p2:=Zil cP cT cX cY cW cH 2 cX cW x false (.inl ⟨rfl,rfl,rfl⟩) hc hn;generalize aa:(if true=decide (cX+cW≤x) then [D.agg [J cP,.bool cT,J cX,J cY,J cW,J cH]] else [])=A at p1 hp;have hA:uni 6 A:=by rw[← aa];split<;>simp[uni,D.cells]
  generalize ab:(if false=decide (cX+cW≤x) then [D.agg [J cP,.bool cT,J cX,J cY,J cW,J cH]] else [])=B at p2 hp;have hB:uni 6 B:=by rw[← ab];split<;>simp[uni,D.cells]
  refine cE ?_;simp +contextual -implicitDefEqProofs (maxSteps:=10^7) only[go_sem,seval,↓gZ,YU,ad,← KV];refine ZN Xs Ms ?_;rcases ae with rfl | ⟨y,rfl⟩
  ·simp only[Ko,Kz,Qg] at e2;simp +contextual -implicitDefEqProofs (maxSteps:=10^7) only[go_sem,seval,↓gZ,w1,e2];refine ZN Xs Ms ?_;simp +contextual -implicitDefEqProofs (maxSteps:=10^7) only[go_sem,seval,↓gZ,p1,p2,w3,hp,hA,hB,c2]
  ·simp only[Ko,Kz,Qg] at e2;simp +contextual -implicitDefEqProofs (maxSteps:=10^7) only[go_sem,seval,↓gZ,w1,e2];refine ZN Xs Ms ?_;simp +contextual -implicitDefEqProofs (maxSteps:=10^7) only[go_sem,seval,↓gZ,p1,p2,w3,hp,hA,hB,c2]
 | false=>
  simp only[Ka,Kj,Z9] at he hn hx hp;rw[h2 rfl] at e2;rw[he] at e3;simp only[Kz] at e2;have w3:=wi (x-bY) (by omega) (by omega);have p1:=Zil cP cT cX cY cW cH 3 cY cH x true (.inr ⟨rfl,rfl,rfl⟩) hc hn;have p2:=Zil cP cT cX cY cW cH 3 cY cH x false (.inr ⟨rfl,rfl,rfl⟩) hc hn;generalize aa:(if true=decide (cY+cH≤x) then [D.agg [J cP,.bool cT,J cX,J cY,J cW,J cH]] else [])=A at p1 hp;have hA:uni 6 A:=by rw[← aa];split<;>simp[uni,D.cells]
  generalize ab:(if false=decide (cY+cH≤x) then [D.agg [J cP,.bool cT,J cX,J cY,J cW,J cH]] else [])=B at p2 hp;have hB:uni 6 B:=by rw[← ab];split<;>simp[uni,D.cells]
  refine cE ?_;simp +contextual -implicitDefEqProofs (maxSteps:=10^7) only[go_sem,seval,↓gZ,YU,ad,← KV];refine ZN Xs Ms ?_;simp +contextual -implicitDefEqProofs (maxSteps:=10^7) only[go_sem,seval,↓gZ,w1,e2];refine ZN Xs Ms ?_;simp +contextual -implicitDefEqProofs (maxSteps:=10^7) only[go_sem,seval,↓gZ];refine ZN Xs Ms ?_;rcases ae with rfl | ⟨y,rfl⟩
  ·simp only[Ko,Kz,Qg] at e3;simp +contextual -implicitDefEqProofs (maxSteps:=10^7) only[go_sem,seval,↓gZ,w1,w2,e3];refine ZN Xs Ms ?_;simp +contextual -implicitDefEqProofs (maxSteps:=10^7) only[go_sem,seval,↓gZ,p1,p2,w3,hp,hA,hB,c2]
  ·simp only[Ko,Kz,Qg] at e3;simp +contextual -implicitDefEqProofs (maxSteps:=10^7) only[go_sem,seval,↓gZ,w1,w2,e3];refine ZN Xs Ms ?_;simp +contextual -implicitDefEqProofs (maxSteps:=10^7) only[go_sem,seval,↓gZ,p1,p2,w3,hp,hA,hB,c2]
def Qx (i:Int) (t:Bool) (X Y W H bX bY bW bH:Int):BT:=
 let t4:=if Y+H<bY+bH then BT.cut false H (.pane i t) .waste else .pane i t
 let t3:=if bY<Y then BT.cut false (Y-bY) .waste t4 else t4
 let t2:=if X+W<bX+bW then BT.cut true W t3 .waste else t3
 if bX<X then BT.cut true (X-bX) .waste t2 else t2
def Zc5 (X Y W H bX bY bW bH:Int):Prop:=0≤bX∧bX≤X∧0≤bY∧bY≤Y∧1≤W∧1≤H∧X+W≤bX+bW∧Y+H≤bY+bH∧bX+bW≤1000∧bY+bH≤1000
theorem Zhj (cP:Int) (cT:Bool) (cX cY cW cH:Int) (bH:Int) (h:Zc5 cX cY cW cH cX cY cW bH):Zd Xs Ms Qb [.d (.sl [.agg [J cP,.bool cT,J cX,J cY,J cW,J cH]]),.d (.agg [J cX,J cY,J cW,J bH])] []=some (Zae (Qx cP cT cX cY cW cH cX cY cW bH).plan):=by
 have hh:=h;unfold Zc5 at h;unfold Qx;rw[Ki (show ¬cX<cX by omega),Ki (show ¬cX+cW<cX+cW by omega),Ki (show ¬cY<cY by omega)];by_cases hl:cY+cH<cY+bH
 ·rw[Kl hl];have hb:=Zaf [D.agg [J cP,.bool cT,J cX,J cY,J cW,J cH]] [] cX cY cW bH false cH (.pane cP cT) .waste (by simp[uni,D.cells]) (by simp[uni]) (by unfold R64;omega) (by unfold R64;omega) (by unfold R64;omega) (by unfold R64;omega) (Zhi _ _ _ _ _ _) (ZbE _ _ _ _);refine Zag cP cT cX cY cW cH cX cY cW bH false (cY+cH) [] _ (by omega) (by omega) (by omega) (fun _=>?_) ?_ ?_ ?_ ?_
  ·unfold VJ;rw[Ki (by omega),Ki (by omega)];rfl
  ·simp only[Ka,Kj];unfold VJ;rw[Ki (by omega),Kl (by omega)];rfl
  ·simp only[Ka,Kj];omega
  ·simp only[Ka,Kj];omega
  ·simp only[Ka,Kj,Kaa,decide_true,Kk];rw[show cY+cH-cY=cH by omega];exact hb
 ·rw[Ki hl];have:bH=cH:=by omega
  subst this;exact Zhi _ _ _ _ _ _
theorem Zhk (cP:Int) (cT:Bool) (cX cY cW cH:Int) (bY bH:Int) (h:Zc5 cX cY cW cH cX bY cW bH):Zd Xs Ms Qb [.d (.sl [.agg [J cP,.bool cT,J cX,J cY,J cW,J cH]]),.d (.agg [J cX,J bY,J cW,J bH])] []=some (Zae (Qx cP cT cX cY cW cH cX bY cW bH).plan):=by
 by_cases hl:bY<cY
 ·have h4:=Zhj cP cT cX cY cW cH (bY+bH-cY) (by unfold Zc5 at h ⊢;omega);unfold Zc5 at h;have e:Qx cP cT cX cY cW cH cX bY cW bH=.cut false (cY-bY) .waste (Qx cP cT cX cY cW cH cX cY cW (bY+bH-cY)):=by
   unfold Qx;rw[Ki (show ¬cX<cX by omega),Ki (show ¬cX+cW<cX+cW by omega),Kl hl,Ki (show ¬cX<cX by omega),Ki (show ¬cX+cW<cX+cW by omega),Ki (show ¬cY<cY by omega),show cY+(bY+bH-cY)=bY+bH by omega]
  rw[e];generalize Qx cP cT cX cY cW cH cX cY cW (bY+bH-cY)=Q at h4 ⊢;have hb:=Zaf [] [D.agg [J cP,.bool cT,J cX,J cY,J cW,J cH]] cX bY cW bH false (cY-bY) .waste Q (by simp[uni]) (by simp[uni,D.cells]) (by unfold R64;omega) (by unfold R64;omega) (by unfold R64;omega) (by unfold R64;omega) (ZbE _ _ _ _) (by
   simp only[Ka,Kj];rw[show bY+(cY-bY)=cY by omega,show bH-(cY-bY)=bY+bH-cY by omega];exact h4)
  refine Zag cP cT cX cY cW cH cX bY cW bH false cY (if cY+cH<bY+bH then [cY+cH] else []) _ (by omega) (by omega) (by omega) (fun _=>?_) ?_ ?_ ?_ ?_
  ·unfold VJ;rw[Ki (by omega),Ki (by omega)];rfl
  ·simp only[Ka,Kj];unfold VJ;rw[Kl (by omega)];by_cases h5:cY+cH<bY+bH
   ·rw[Kl (by omega),Kl h5];rfl
   ·rw[Ki (by omega),Ki h5];rfl
  ·simp only[Ka,Kj];omega
  ·simp only[Ka,Kj];omega
  ·simp only[Ka,Kj];rw[Kh (show ¬cY+cH≤cY by omega)];simp only[Kat,Kj,Kk];exact hb
 ·unfold Zc5 at h;have:bY=cY:=by omega
  subst this;exact Zhj cP cT cX bY cW cH bH (by unfold Zc5;omega)
theorem Zhl (cP:Int) (cT:Bool) (cX cY cW cH:Int) (bY bW bH:Int) (h:Zc5 cX cY cW cH cX bY bW bH):Zd Xs Ms Qb [.d (.sl [.agg [J cP,.bool cT,J cX,J cY,J cW,J cH]]),.d (.agg [J cX,J bY,J bW,J bH])] []=some (Zae (Qx cP cT cX cY cW cH cX bY bW bH).plan):=by
 by_cases hl:cX+cW<cX+bW
 ·have h3:=Zhk cP cT cX cY cW cH bY bH (by unfold Zc5 at h ⊢;omega);unfold Zc5 at h;have e:Qx cP cT cX cY cW cH cX bY bW bH=.cut true cW (Qx cP cT cX cY cW cH cX bY cW bH) .waste:=by
   unfold Qx;rw[Ki (show ¬cX<cX by omega),Kl hl,Ki (show ¬cX<cX by omega),Ki (show ¬cX+cW<cX+cW by omega)]
  rw[e];generalize Qx cP cT cX cY cW cH cX bY cW bH=Q at h3 ⊢;have hb:=Zaf [D.agg [J cP,.bool cT,J cX,J cY,J cW,J cH]] [] cX bY bW bH true cW Q .waste (by simp[uni,D.cells]) (by simp[uni]) (by unfold R64;omega) (by unfold R64;omega) (by unfold R64;omega) (by unfold R64;omega) (by simp only[Kk];exact h3) (ZbE _ _ _ _);refine Zag cP cT cX cY cW cH cX bY bW bH true (cX+cW) [] _ (by omega) (by omega) (by omega) (fun e=>by cases e) ?_ ?_ ?_ ?_
  ·simp only[Kk];unfold VJ;rw[Ki (by omega),Kl (by omega)];rfl
  ·simp only[Kk];omega
  ·simp only[Kk];omega
  ·simp only[Kk,Kaa,decide_true,Ka,Kj];rw[show cX+cW-cX=cW by omega];exact hb
 ·unfold Zc5 at h;have:bW=cW:=by omega
  subst this;exact Zhk cP cT cX cY bW cH bY bH (by unfold Zc5;omega)
theorem Zi4 (cP:Int) (cT:Bool) (cX cY cW cH:Int) (bX bY bW bH:Int) (h:Zc5 cX cY cW cH bX bY bW bH):Zd Xs Ms Qb [.d (.sl [.agg [J cP,.bool cT,J cX,J cY,J cW,J cH]]),.d (.agg [J bX,J bY,J bW,J bH])] []=some (Zae (Qx cP cT cX cY cW cH bX bY bW bH).plan):=by
 by_cases hl:bX<cX
 ·have h2:=Zhl cP cT cX cY cW cH bY (bX+bW-cX) bH (by unfold Zc5 at h ⊢;omega);unfold Zc5 at h;have e:Qx cP cT cX cY cW cH bX bY bW bH=.cut true (cX-bX) .waste (Qx cP cT cX cY cW cH cX bY (bX+bW-cX) bH):=by
   unfold Qx;rw[Kl hl,Ki (show ¬cX<cX by omega),show cX+(bX+bW-cX)=bX+bW by omega]
  rw[e];generalize Qx cP cT cX cY cW cH cX bY (bX+bW-cX) bH=Q at h2 ⊢;have hb:=Zaf [] [D.agg [J cP,.bool cT,J cX,J cY,J cW,J cH]] bX bY bW bH true (cX-bX) .waste Q (by simp[uni]) (by simp[uni,D.cells]) (by unfold R64;omega) (by unfold R64;omega) (by unfold R64;omega) (by unfold R64;omega) (ZbE _ _ _ _) (by
   simp only[Kk];rw[show bX+(cX-bX)=cX by omega,show bW-(cX-bX)=bX+bW-cX by omega];exact h2)
  refine Zag cP cT cX cY cW cH bX bY bW bH true cX (if cX+cW<bX+bW then [cX+cW] else []) _ (by omega) (by omega) (by omega) (fun e=>by cases e) ?_ ?_ ?_ ?_
  ·simp only[Kk];unfold VJ;rw[Kl (by omega)];by_cases h5:cX+cW<bX+bW
   ·rw[Kl (by omega),Kl h5];rfl
   ·rw[Ki (by omega),Ki h5];rfl
  ·simp only[Kk];omega
  ·simp only[Kk];omega
  ·simp only[Kk];rw[Kh (show ¬cX+cW≤cX by omega)];simp only[Kat,Kj,Kk];exact hb
 ·unfold Zc5 at h;have:bX=cX:=by omega
  subst this;exact Zhl cP cT bX cY cW cH bY bW bH (by unfold Zc5;omega)
@[go_sem] theorem rep_5 {α:Type} (a:α):List.replicate 5 a=[a,a,a,a,a]:=rfl
@[go_sem] theorem rep_8 {α:Type} (a:α):List.replicate 8 a=[a,a,a,a,a,a,a,a]:=rfl
@[go_sem] theorem rep_15 {α:Type} (a:α):List.replicate 15 a=[a,a,a,a,a,a,a,a,a,a,a,a,a,a,a]:=rfl
theorem ZvX:∀ {l:List Zb} {b:Int},XC b l→∀ x∈l,b<x.Label
 | [],_,_,x,hx=>by simp at hx
 | y :: l,b,h,x,hx=>by
  rcases Kg.1 hx with rfl | hx
  ·exact h.2.1
  ·have:=ZvX h.2.2 x hx;have:=h.2.1;omega
theorem Zkt:∀ {l:List Zb} {b:Int} {k j:Nat} {x:Zb},XC b l→l[j]?=some x→QB k l x.Label=((k+j:Nat):Int)
 | [],_,k,j,x,_,hx=>by simp at hx
 | y :: l,b,k,0,x,h,hx=>by
  simp only[K3,Option.some.injEq] at hx;subst hx;simp[QB]
 | y :: l,b,k,j+1,x,h,hx=>by
  simp only[KF] at hx;have h1:=ZvX h.2.2 x (Kb hx);unfold QB;rw[Ki (by omega),Zkt (k:=k+1) h.2.2 hx];congr 1
  omega
def ZlJ (i:Nat) (t:Bool) (b:Box) (q:Zb):Zx:=⟨3,q.Label,⟨0,0,0,0⟩,⟨⟨0,0,false,0⟩,0⟩,(Qx i t b.X b.Y b.W b.H 0 0 q.W q.H).plan⟩
def Zpl (s:Zm) (i:Nat) (x:Zc):Option Zx:=
 if Zd3 s.Stock x.Pane<0 then none else match s.Stock[(Zd3 s.Stock x.Pane).toNat]? with
 | none=>none
 | some q=>match Q9 q x.Pane.W x.Pane.H with
  | some b=>some (ZlJ i false b q)
  | none=>match Q9 q x.Pane.H x.Pane.W with
   | some b=>some (ZlJ i true b q)
   | none=>none
def WT (s:Zm):List Zc→Nat→Option Zx
 | [],_=>none
 | x :: r,i=>match Zpl s i x with
  | some e=>if (QE s e).isSome=true then some e else WT s r (i+1)
  | none=>WT s r (i+1)
def Vp (s:Zm):Option Zx:=WT s s.Opn 0
theorem Zhm {s:Zm} {l:List Zc} {k i:Nat} {x:Zc} (hx:l[k]?=some x):WT s (l.drop k) i=match Zpl s i x with
  | some e=>if (QE s e).isSome=true then some e else WT s (l.drop (k+1)) (i+1)
  | none=>WT s (l.drop (k+1)) (i+1):=by
 obtain⟨h1,h2⟩:=Kc.1 hx;rw[Ku h1,h2,WT]
theorem Zpm {s:Zm} {l:List Zc} {i:Nat}:WT s (l.drop l.length) i=none:=by simp[WT]
def nxV:Option Zx→AV×List Zn
 | some ⟨k,l,⟨x,y,w,h⟩,⟨⟨pw,ph,pt,pk⟩,c⟩,.mk o a q t ks⟩=>(.tup [.agg [(.d (J k)),(.d (J l)),(.d (J x)),(.d (J y)),(.d (J w)),(.d (J h)),(.d (J pw)),(.d (J ph)),(.d (.bool pt)),(.d (J pk)),(.d (J c)),(.d (J o)),(.d (J a)),(.d (J q)),(.d (.bool t)),.own 0],(.d (.bool true))],[.row 5 (ks.map Ze.enc) true false])
 | none=>(.tup [.agg [(.d (J 0)),(.d (J 0)),(.d (J 0)),(.d (J 0)),(.d (J 0)),(.d (J 0)),(.d (J 0)),(.d (J 0)),(.d (.bool false)),(.d (J 0)),(.d (J 0)),(.d (J 0)),(.d (J 0)),(.d (J 0)),(.d (.bool false)),.own 0],(.d (.bool false))],[.row 5 [] true false])
theorem Zku (sS:List Zb) (sO sD:List Zc) (sL sC:Int) (hv:WSh (Zm.mk sS sO sD sL sC)):Zd Xs Ms JT [(.d (.agg [.sl (sS.map Zb.enc),.sl (sO.map Zc.enc),.sl (sD.map Zc.enc),J sL,J sC]))] []=some (nxV (Vp (Zm.mk sS sO sD sL sC))):=by
 have ak:=hv.2.1;have ag:=hv.1.1;simp only at ak ag;refine cE ?_;simp +contextual -implicitDefEqProofs (maxSteps:=10^7) only[go_sem,seval,↓gZ,Zhr];refine LO (α:=Nat) (fun i=>[(4,.d (J (i:Int)))]) (fun _=>[]) (fun i=>i≤sO.length∧WT (Zm.mk sS sO sD sL sC) (sO.drop i) i=Vp (Zm.mk sS sO sD sL sC)) (fun i=>sO.length-i) 0 ⟨by omega,by simp[Vp]⟩ ?_;intro i ⟨hi,hp⟩ ih;by_cases ab:i<sO.length
 ·obtain⟨x,hx⟩:=Zl ab;have hw:=Zh (k:=i) (by omega);rw[Zhm hx] at hp;have aa:=hv.2.2.1 x (Kb hx);obtain⟨⟨W,H,T,K⟩,C⟩:=x;simp only at aa;have ad:1≤W∧W≤200∧1≤H∧H≤200:=⟨aa.1.1,aa.1.2.1,aa.1.2.2.1,aa.1.2.2.2.1⟩
  have ef:=Zpj sS W H T K hv.1 aa.1;unfold Zs0 at ef;rw[Kl ⟨hv.1,aa.1⟩] at ef;unfold Zpl at hp;simp only at hp;rcases Zpi sS ⟨W,H,T,K⟩ with h0 | ⟨j,q,hj,hq,ah⟩
  ·rw[Kl h0] at ef hp;simp only at hp;simp +contextual -implicitDefEqProofs (maxSteps:=10^7) only[go_sem,seval,↓gZ,hx,ab,hw,ef];refine ih (i+1) _ ⟨by omega,hp⟩ (by omega) ?_;simp +contextual -implicitDefEqProofs (maxSteps:=10^7) only[go_sem,seval,↓gZ]
  ·have al:¬(j:Int)<0:=by omega
   rw[hj,Ki al,KA,hq] at ef hp;simp only at hp ef;have ai:=Z3 hv.1.2 q (Kb hq);have af:=(Kc.1 hq).1;have el:=Yv sS q.Label (by omega);rw[Zkt hv.1.2 hq,K4] at el;have f1:=JA q.Label q.W q.H q.Flaws W H ai ⟨ad.1,ad.2.1⟩ ad.2.2;have f2:=JA q.Label q.W q.H q.Flaws H W ai ad.2.2 ⟨ad.1,ad.2.1⟩;have am:=ai.1;have aj:∀ (t:Bool) (w h:Int) (b:Box),1≤w→1≤h→Q9 q w h=some b→∃ (o a p:Int) (t' : Bool) (ks:List Ze),(Qx i t b.X b.Y b.W b.H 0 0 q.W q.H).plan=.mk o a p t' ks∧Zd Xs Ms Qb [.d (.sl [.agg [J i,.bool t,J b.X,J b.Y,J b.W,J b.H]]),.d (.agg [J 0,J 0,J q.W,J q.H])] []=some (.tup [.agg [(.d (J o)),(.d (J a)),(.d (J p)),(.d (.bool (t'))),.own 0],(.d (.bool true))],[.row 5 (ks.map Ze.enc) true false]):=fun t w h b an ao hb=>by
    obtain⟨g1,g2,g3,g4,g5,g6,_⟩:=ZbR hb;have e:=Zi4 i t b.X b.Y b.W b.H 0 0 q.W q.H (by unfold Zc5;omega);cases hpp:(Qx i t b.X b.Y b.W b.H 0 0 q.W q.H).plan with
    | mk o a p t' ks=>
     rw[hpp] at e;exact⟨o,a,p,t',ks,rfl,e⟩
   have ae:¬q.Label=0:=by omega
   obtain⟨qL,qW,qH,qF⟩:=q;simp only at ef el f1 f2 aj ae hp;cases h1:Q9 ⟨qL,qW,qH,qF⟩ W H with
   | some b=>
    obtain⟨o,a,p,t',ks,e1,e2⟩:=aj false W H b (by omega) (by omega) h1;rw[h1] at f1 hp;unfold ZlJ at hp;simp only[e1] at hp;have ea:=Us sS sO sD sL sC 3 qL 0 0 0 0 0 0 false 0 0 o a p t' ks hv rfl;obtain⟨bX,bY,bW,bH⟩:=b;unfold fcV at f1;simp only at f1 e2 hp;cases hap:QE (Zm.mk sS sO sD sL sC) ⟨3,qL,⟨0,0,0,0⟩,⟨⟨0,0,false,0⟩,0⟩,.mk o a p t' ks⟩ with
    | none=>
     rw[hap] at ea hp;simp only[KY,Ka,Kj] at hp;unfold shV at ea;simp +contextual -implicitDefEqProofs (maxSteps:=10^7) only[go_sem,seval,↓gZ,hx,ab,hw,ef,el,f1,e2,ea,ae,af,hq];refine ih (i+1) _ ⟨by omega,hp⟩ (by omega) ?_;simp +contextual -implicitDefEqProofs (maxSteps:=10^7) only[go_sem,seval,↓gZ]
    | some u=>
     rw[hap] at ea hp;simp only[Li,Kk] at hp;rw[← hp];unfold shV at ea;unfold nxV;simp +contextual -implicitDefEqProofs (maxSteps:=10^7) only[go_sem,seval,↓gZ,hx,ab,hw,ef,el,f1,e2,ea,ae,af,hq]
   | none=>
    rw[h1] at f1 hp;unfold fcV at f1;simp only at hp;cases h2:Q9 ⟨qL,qW,qH,qF⟩ H W with
    | none=>
     exfalso
     unfold okP at ah;simp only[h1,h2] at ah;simp at ah
    | some b=>
     obtain⟨o,a,p,t',ks,e1,e2⟩:=aj true H W b (by omega) (by omega) h2;rw[h2] at f2 hp;unfold ZlJ at hp;simp only[e1] at hp;have ea:=Us sS sO sD sL sC 3 qL 0 0 0 0 0 0 false 0 0 o a p t' ks hv rfl;obtain⟨bX,bY,bW,bH⟩:=b;unfold fcV at f2;simp only at f2 e2 hp;cases hap:QE (Zm.mk sS sO sD sL sC) ⟨3,qL,⟨0,0,0,0⟩,⟨⟨0,0,false,0⟩,0⟩,.mk o a p t' ks⟩ with
     | none=>
      rw[hap] at ea hp;simp only[KY,Ka,Kj] at hp;unfold shV at ea;simp +contextual -implicitDefEqProofs (maxSteps:=10^7) only[go_sem,seval,↓gZ,hx,ab,hw,ef,el,f1,f2,e2,ea,ae,af,hq];refine ih (i+1) _ ⟨by omega,hp⟩ (by omega) ?_;simp +contextual -implicitDefEqProofs (maxSteps:=10^7) only[go_sem,seval,↓gZ]
     | some u=>
      rw[hap] at ea hp;simp only[Li,Kk] at hp;rw[← hp];unfold shV at ea;unfold nxV;simp +contextual -implicitDefEqProofs (maxSteps:=10^7) only[go_sem,seval,↓gZ,hx,ab,hw,ef,el,f1,f2,e2,ea,ae,af,hq]
 ·have:i=sO.length:=by omega
  subst this;rw[Zpm] at hp;rw[← hp];unfold nxV;simp +contextual -implicitDefEqProofs (maxSteps:=10^7) only[go_sem,seval,↓gZ]
theorem ZxC {s:Zm} {i:Nat} {x:Zc} {e:Zx} (h:Zpl s i x=some e):e.kind=3:=by
 unfold Zpl at h;split at h
 ·cases h
 ·split at h
  ·cases h
  ·split at h
   ·cases h;rfl
   ·split at h
    ·cases h;rfl
    ·cases h
theorem Zd4 {s:Zm}:∀ {l:List Zc} {i:Nat} {e:Zx},WT s l i=some e→e.kind=3
 | [],i,e,h=>by simp[WT] at h
 | x :: l,i,e,h=>by
  unfold WT at h;split at h
  ·split at h
   ·cases h;exact ZxC (by assumption)
   ·exact Zd4 h
  ·exact Zd4 h
theorem Zi5 (bs:List UInt8) (hb:bs.length≤2000) (p:Nat) (hp:p<900000000):∃ (W H:Int) (T:Bool) (K:Int),Zd Xs Ms Zas [.ptr 0 0] [.box [.d (.sl (bs.map ZaU)),(.d (J p))]]=some (.d (.agg [J W,J H,.bool T,J K]),[.box [.d (.sl (bs.map ZaU)),(.d (J ((p+4:Nat))))]]):=by
 have p1:=Qp bs p 8 hb (by omega);have p2:=Qp bs (p+1) 8 hb (by omega);have p3:=Qp bs (p+2) 2 hb (by omega);have p4:=Qp bs (p+3) 3 hb (by omega);generalize Q1 bs p 8=a1 at p1;generalize Q1 bs (p+1) 8=a2 at p2;generalize Q1 bs (p+2) 2=a3 at p3;generalize Q1 bs (p+3) 3=a4 at p4;refine⟨IntKind.i64.wrap (1+a1),IntKind.i64.wrap (1+a2),decide (a3=0),a4,?_⟩;refine cE ?_;simp +contextual -implicitDefEqProofs (maxSteps:=10^7) only[go_sem,seval,↓gZ,ZfV,p1,p2,p3,p4]
def PEv (bs:List UInt8) (p:Nat) (r:AV×List Zn):Prop:=∃ (K L X Y W H pW pH:Int) (pT:Bool) (pK C o a q:Int) (t:Bool) (ks:List Ze) (p' : Nat),(K=0→I5 W∧I5 H)∧p≤p'∧p'≤p+10 ∧
 r=(.agg [(.d (J K)),(.d (J L)),(.d (J X)),(.d (J Y)),(.d (J W)),(.d (J H)),(.d (J pW)),(.d (J pH)),(.d (.bool pT)),(.d (J pK)),(.d (J C)),(.d (J o)),(.d (J a)),(.d (J q)),(.d (.bool t)),.own 1],[.box [.d (.sl (bs.map ZaU)),(.d (J (p')))],.row 5 (ks.map Ze.enc) true false])
theorem Zpn (bs:List UInt8) (hb:bs.length≤2000) (p:Nat) (hp:p<800000000) (sS:List Zb) (sO sD:List Zc) (sL sC:Int) (hv:WSh (Zm.mk sS sO sD sL sC)):∃ r,Zd Xs Ms Jh [.ptr 0 0,(.d (.agg [.sl (sS.map Zb.enc),.sl (sO.map Zc.enc),.sl (sD.map Zc.enc),J sL,J sC]))] [.box [.d (.sl (bs.map ZaU)),(.d (J p))]]=some r∧PEv bs p r:=by
 have ah:=hv.1.1;have h8:=hv.2.2.2.1.1;simp only at ah h8;have eL:=Zhd sS (by omega);have eN:=Zku sS sO sD sL sC hv;have af:=fun e=>@Zd4 (Zm.mk sS sO sD sL sC) sO 0 e;generalize V6 sS=ll at eL;refine cW ?_;by_cases h0:(0:Int)<(sS.length:Int)
 ·have u0:=Qp bs p sS.length hb (by omega);have u1:=ZbB bs p sS.length;have u2:=Zie bs p sS.length (by omega);obtain⟨i,hi⟩:∃ i:Nat,Q1 bs p (sS.length:Int)=(i:Int):=⟨(Q1 bs p (sS.length:Int)).toNat,by omega⟩
  rw[hi] at u0 u2;have aa:i<sS.length:=by omega
  obtain⟨x,hx⟩:=Zl aa;obtain⟨lb,qW,qH,qF⟩:=x;obtain⟨p1,ai⟩:∃ p1,p1=p+1:=⟨_,rfl⟩
  rw[← ai] at u0;have c0:=Qp bs p1 9 hb (by omega);generalize Q1 bs p1 9=c at c0;by_cases ab:c=0∨c=1
  ·obtain⟨W,hW,eW⟩:=ZcS bs (p1+1) [20,12,30,8] hb (by omega) (by decide);obtain⟨H,hH,eH⟩:=ZcS bs (p1+2) [16,10,24,8] hb (by omega) (by decide);have iW:I5 W:=by simp only[Kg,Ln,or_false] at hW;unfold I5;omega
   have iH:I5 H:=by simp only[Kg,Ln,or_false] at hH;unfold I5;omega
   simp only[Ko,Kz,Qg] at eW eH;rcases ab with rfl | rfl
   ·simp +contextual -implicitDefEqProofs (maxSteps:=10^7) only[go_sem,seval,↓gZ,Zv,h0,u0,aa,hx,c0,eL,eW,eH];exact⟨0,(IntKind.i64.wrap (ll+1)),0,0,W,H,0,0,false,0,0,0,0,0,false,[],(p1+3),fun _=>⟨iW,iH⟩,by omega,by omega,rfl⟩
   ·simp +contextual -implicitDefEqProofs (maxSteps:=10^7) only[go_sem,seval,↓gZ,Zv,h0,u0,aa,hx,c0,eL,eW,eH];exact⟨0,(IntKind.i64.wrap (ll+1)),0,0,W,H,0,0,false,0,0,0,0,0,false,[],(p1+3),fun _=>⟨iW,iH⟩,by omega,by omega,rfl⟩
  ·have k0:¬c=0:=fun h=>ab (.inl h);have k1:¬c=1:=fun h=>ab (.inr h);by_cases k2:c=2
   ·obtain⟨X,Y,W,H,eB⟩:=Zkj bs hb (p1+1) (by omega) 8 8;subst k2;simp +contextual -implicitDefEqProofs (maxSteps:=10^7) only[go_sem,seval,↓gZ,Zv,h0,u0,aa,hx,c0,eB];exact⟨1,lb,X,Y,W,H,0,0,false,0,0,0,0,0,false,[],(p1+5),(fun e=>by cases e),by omega,by omega,rfl⟩
   ·by_cases ad:c=3∨c=4
    ·obtain⟨W,H,T,K,eP⟩:=Zi5 bs hb (p1+1) (by omega);have c5:=Qp bs (p1+5) 3 hb (by omega);generalize Q1 bs (p1+5) 3=v at c5;rcases ad with rfl | rfl
     ·simp +contextual -implicitDefEqProofs (maxSteps:=10^7) only[go_sem,seval,↓gZ,Zv,h0,u0,aa,hx,c0,eP,c5];exact⟨2,0,0,0,0,0,W,H,T,K,(IntKind.i64.wrap (1+v)),0,0,0,false,[],(p1+6),(fun e=>by cases e),by omega,by omega,rfl⟩
     ·simp +contextual -implicitDefEqProofs (maxSteps:=10^7) only[go_sem,seval,↓gZ,Zv,h0,u0,aa,hx,c0,eP,c5];exact⟨2,0,0,0,0,0,W,H,T,K,(IntKind.i64.wrap (1+v)),0,0,0,false,[],(p1+6),(fun e=>by cases e),by omega,by omega,rfl⟩
    ·have k3:¬c=3:=fun h=>ad (.inl h);have k4:¬c=4:=fun h=>ad (.inr h);by_cases k5:c=5
     ·subst k5;by_cases hd:(0:Int)<(sD.length:Int)
      ·have d0:=Qp bs (p1+1) sD.length hb (by omega);have d1:=ZbB bs (p1+1) sD.length;have d2:=Zie bs (p1+1) sD.length (by omega);obtain⟨j,hj⟩:∃ j:Nat,Q1 bs (p1+1) (sD.length:Int)=(j:Int):=⟨(Q1 bs (p1+1) (sD.length:Int)).toNat,by omega⟩
       rw[hj] at d0 d2;have ag:j<sD.length:=by omega
       obtain⟨z,hz⟩:=Zl ag;obtain⟨⟨W,H,T,K⟩,C⟩:=z;have d3:=Qp bs (p1+2) C hb (by omega);generalize Q1 bs (p1+2) C=v at d3;simp +contextual -implicitDefEqProofs (maxSteps:=10^7) only[go_sem,seval,↓gZ,Zv,h0,u0,aa,hx,c0,hd,d0,ag,hz,d3];exact⟨4,0,0,0,0,0,W,H,T,K,(IntKind.i64.wrap (1+v)),0,0,0,false,[],(p1+3),(fun e=>by cases e),by omega,by omega,rfl⟩
      ·skip
       cases hN:Vp (Zm.mk sS sO sD sL sC) with
       | none=>
        rw[hN] at eN;unfold nxV at eN;simp +contextual -implicitDefEqProofs (maxSteps:=10^7) only[go_sem,seval,↓gZ,Zv,h0,u0,aa,hx,c0,hd,eN,eL];exact⟨0,(IntKind.i64.wrap (ll+2)),0,0,15,11,0,0,false,0,0,0,0,0,false,[],(p1+1),fun _=>⟨by unfold I5;omega,by unfold I5;omega⟩,by omega,by omega,rfl⟩
       | some e=>
        have hk:=af e hN;rw[hN] at eN;obtain⟨k,l,⟨x,y,w,h⟩,⟨⟨pw,ph,pt,pk⟩,c9⟩,⟨o,a,q,t,ks⟩⟩:=e;unfold nxV at eN;simp only at eN hk;simp +contextual -implicitDefEqProofs (maxSteps:=10^7) only[go_sem,seval,↓gZ,Zv,h0,u0,aa,hx,c0,hd,eN];exact⟨k,l,x,y,w,h,pw,ph,pt,pk,c9,o,a,q,t,ks,(p1+1),fun e=>by omega,by omega,by omega,rfl⟩
     ·by_cases k6:c=6
      ·subst k6;have d3:=Qp bs (p1+1) 3 hb (by omega);generalize Q1 bs (p1+1) 3=v at d3;by_cases ae:v=0
       ·subst ae;simp +contextual -implicitDefEqProofs (maxSteps:=10^7) only[go_sem,seval,↓gZ,Zv,h0,u0,aa,hx,c0,d3];exact⟨5,lb,0,0,0,0,0,0,false,0,0,0,0,0,false,[],(p1+2),(fun e=>by cases e),by omega,by omega,rfl⟩
       ·skip
        cases hN:Vp (Zm.mk sS sO sD sL sC) with
        | none=>
         rw[hN] at eN;unfold nxV at eN;simp +contextual -implicitDefEqProofs (maxSteps:=10^7) only[go_sem,seval,↓gZ,Zv,h0,u0,aa,hx,c0,d3,ae,eN,eL];exact⟨0,(IntKind.i64.wrap (ll+2)),0,0,15,11,0,0,false,0,0,0,0,0,false,[],(p1+2),fun _=>⟨by unfold I5;omega,by unfold I5;omega⟩,by omega,by omega,rfl⟩
        | some e=>
         have hk:=af e hN;rw[hN] at eN;obtain⟨k,l,⟨x,y,w,h⟩,⟨⟨pw,ph,pt,pk⟩,c9⟩,⟨o,a,q,t,ks⟩⟩:=e;unfold nxV at eN;simp only at eN hk;simp +contextual -implicitDefEqProofs (maxSteps:=10^7) only[go_sem,seval,↓gZ,Zv,h0,u0,aa,hx,c0,d3,ae,eN];exact⟨k,l,x,y,w,h,pw,ph,pt,pk,c9,o,a,q,t,ks,(p1+2),fun e=>by omega,by omega,by omega,rfl⟩
      ·skip
       cases hN:Vp (Zm.mk sS sO sD sL sC) with
       | none=>
        rw[hN] at eN;unfold nxV at eN;simp +contextual -implicitDefEqProofs (maxSteps:=10^7) only[go_sem,seval,↓gZ,Zv,h0,u0,aa,hx,c0,k0,k1,k2,k3,k4,k5,k6,eN,eL];exact⟨0,(IntKind.i64.wrap (ll+2)),0,0,15,11,0,0,false,0,0,0,0,0,false,[],(p1+1),fun _=>⟨by unfold I5;omega,by unfold I5;omega⟩,by omega,by omega,rfl⟩
       | some e=>
        have hk:=af e hN;rw[hN] at eN;obtain⟨k,l,⟨x,y,w,h⟩,⟨⟨pw,ph,pt,pk⟩,c9⟩,⟨o,a,q,t,ks⟩⟩:=e;unfold nxV at eN;simp only at eN hk;simp +contextual -implicitDefEqProofs (maxSteps:=10^7) only[go_sem,seval,↓gZ,Zv,h0,u0,aa,hx,c0,k0,k1,k2,k3,k4,k5,k6,eN];exact⟨k,l,x,y,w,h,pw,ph,pt,pk,c9,o,a,q,t,ks,(p1+1),fun e=>by omega,by omega,by omega,rfl⟩
 ·skip
  have c0:=Qp bs p 9 hb (by omega);generalize Q1 bs p 9=c at c0;by_cases ab:c=0∨c=1
  ·obtain⟨W,hW,eW⟩:=ZcS bs (p+1) [20,12,30,8] hb (by omega) (by decide);obtain⟨H,hH,eH⟩:=ZcS bs (p+2) [16,10,24,8] hb (by omega) (by decide);have iW:I5 W:=by simp only[Kg,Ln,or_false] at hW;unfold I5;omega
   have iH:I5 H:=by simp only[Kg,Ln,or_false] at hH;unfold I5;omega
   simp only[Ko,Kz,Qg] at eW eH;rcases ab with rfl | rfl
   ·simp +contextual -implicitDefEqProofs (maxSteps:=10^7) only[go_sem,seval,↓gZ,Zv,h0,c0,eL,eW,eH];exact⟨0,(IntKind.i64.wrap (ll+1)),0,0,W,H,0,0,false,0,0,0,0,0,false,[],(p+3),fun _=>⟨iW,iH⟩,by omega,by omega,rfl⟩
   ·simp +contextual -implicitDefEqProofs (maxSteps:=10^7) only[go_sem,seval,↓gZ,Zv,h0,c0,eL,eW,eH];exact⟨0,(IntKind.i64.wrap (ll+1)),0,0,W,H,0,0,false,0,0,0,0,0,false,[],(p+3),fun _=>⟨iW,iH⟩,by omega,by omega,rfl⟩
  ·have k0:¬c=0:=fun h=>ab (.inl h);have k1:¬c=1:=fun h=>ab (.inr h);by_cases k2:c=2
   ·obtain⟨X,Y,W,H,eB⟩:=Zkj bs hb (p+1) (by omega) 8 8;subst k2;simp +contextual -implicitDefEqProofs (maxSteps:=10^7) only[go_sem,seval,↓gZ,Zv,h0,c0,eB];exact⟨1,1,X,Y,W,H,0,0,false,0,0,0,0,0,false,[],(p+5),(fun e=>by cases e),by omega,by omega,rfl⟩
   ·by_cases ad:c=3∨c=4
    ·obtain⟨W,H,T,K,eP⟩:=Zi5 bs hb (p+1) (by omega);have c5:=Qp bs (p+5) 3 hb (by omega);generalize Q1 bs (p+5) 3=v at c5;rcases ad with rfl | rfl
     ·simp +contextual -implicitDefEqProofs (maxSteps:=10^7) only[go_sem,seval,↓gZ,Zv,h0,c0,eP,c5];exact⟨2,0,0,0,0,0,W,H,T,K,(IntKind.i64.wrap (1+v)),0,0,0,false,[],(p+6),(fun e=>by cases e),by omega,by omega,rfl⟩
     ·simp +contextual -implicitDefEqProofs (maxSteps:=10^7) only[go_sem,seval,↓gZ,Zv,h0,c0,eP,c5];exact⟨2,0,0,0,0,0,W,H,T,K,(IntKind.i64.wrap (1+v)),0,0,0,false,[],(p+6),(fun e=>by cases e),by omega,by omega,rfl⟩
    ·have k3:¬c=3:=fun h=>ad (.inl h);have k4:¬c=4:=fun h=>ad (.inr h);by_cases k5:c=5
     ·subst k5;by_cases hd:(0:Int)<(sD.length:Int)
      ·have d0:=Qp bs (p+1) sD.length hb (by omega);have d1:=ZbB bs (p+1) sD.length;have d2:=Zie bs (p+1) sD.length (by omega);obtain⟨j,hj⟩:∃ j:Nat,Q1 bs (p+1) (sD.length:Int)=(j:Int):=⟨(Q1 bs (p+1) (sD.length:Int)).toNat,by omega⟩
       rw[hj] at d0 d2;have ag:j<sD.length:=by omega
       obtain⟨z,hz⟩:=Zl ag;obtain⟨⟨W,H,T,K⟩,C⟩:=z;have d3:=Qp bs (p+2) C hb (by omega);generalize Q1 bs (p+2) C=v at d3;simp +contextual -implicitDefEqProofs (maxSteps:=10^7) only[go_sem,seval,↓gZ,Zv,h0,c0,hd,d0,ag,hz,d3];exact⟨4,0,0,0,0,0,W,H,T,K,(IntKind.i64.wrap (1+v)),0,0,0,false,[],(p+3),(fun e=>by cases e),by omega,by omega,rfl⟩
      ·skip
       cases hN:Vp (Zm.mk sS sO sD sL sC) with
       | none=>
        rw[hN] at eN;unfold nxV at eN;simp +contextual -implicitDefEqProofs (maxSteps:=10^7) only[go_sem,seval,↓gZ,Zv,h0,c0,hd,eN,eL];exact⟨0,(IntKind.i64.wrap (ll+2)),0,0,15,11,0,0,false,0,0,0,0,0,false,[],(p+1),fun _=>⟨by unfold I5;omega,by unfold I5;omega⟩,by omega,by omega,rfl⟩
       | some e=>
        have hk:=af e hN;rw[hN] at eN;obtain⟨k,l,⟨x,y,w,h⟩,⟨⟨pw,ph,pt,pk⟩,c9⟩,⟨o,a,q,t,ks⟩⟩:=e;unfold nxV at eN;simp only at eN hk;simp +contextual -implicitDefEqProofs (maxSteps:=10^7) only[go_sem,seval,↓gZ,Zv,h0,c0,hd,eN];exact⟨k,l,x,y,w,h,pw,ph,pt,pk,c9,o,a,q,t,ks,(p+1),fun e=>by omega,by omega,by omega,rfl⟩
     ·by_cases k6:c=6
      ·subst k6;have d3:=Qp bs (p+1) 3 hb (by omega);generalize Q1 bs (p+1) 3=v at d3;by_cases ae:v=0
       ·subst ae;simp +contextual -implicitDefEqProofs (maxSteps:=10^7) only[go_sem,seval,↓gZ,Zv,h0,c0,d3];exact⟨5,1,0,0,0,0,0,0,false,0,0,0,0,0,false,[],(p+2),(fun e=>by cases e),by omega,by omega,rfl⟩
       ·skip
        cases hN:Vp (Zm.mk sS sO sD sL sC) with
        | none=>
         rw[hN] at eN;unfold nxV at eN;simp +contextual -implicitDefEqProofs (maxSteps:=10^7) only[go_sem,seval,↓gZ,Zv,h0,c0,d3,ae,eN,eL];exact⟨0,(IntKind.i64.wrap (ll+2)),0,0,15,11,0,0,false,0,0,0,0,0,false,[],(p+2),fun _=>⟨by unfold I5;omega,by unfold I5;omega⟩,by omega,by omega,rfl⟩
        | some e=>
         have hk:=af e hN;rw[hN] at eN;obtain⟨k,l,⟨x,y,w,h⟩,⟨⟨pw,ph,pt,pk⟩,c9⟩,⟨o,a,q,t,ks⟩⟩:=e;unfold nxV at eN;simp only at eN hk;simp +contextual -implicitDefEqProofs (maxSteps:=10^7) only[go_sem,seval,↓gZ,Zv,h0,c0,d3,ae,eN];exact⟨k,l,x,y,w,h,pw,ph,pt,pk,c9,o,a,q,t,ks,(p+2),fun e=>by omega,by omega,by omega,rfl⟩
      ·skip
       cases hN:Vp (Zm.mk sS sO sD sL sC) with
       | none=>
        rw[hN] at eN;unfold nxV at eN;simp +contextual -implicitDefEqProofs (maxSteps:=10^7) only[go_sem,seval,↓gZ,Zv,h0,c0,k0,k1,k2,k3,k4,k5,k6,eN,eL];exact⟨0,(IntKind.i64.wrap (ll+2)),0,0,15,11,0,0,false,0,0,0,0,0,false,[],(p+1),fun _=>⟨by unfold I5;omega,by unfold I5;omega⟩,by omega,by omega,rfl⟩
       | some e=>
        have hk:=af e hN;rw[hN] at eN;obtain⟨k,l,⟨x,y,w,h⟩,⟨⟨pw,ph,pt,pk⟩,c9⟩,⟨o,a,q,t,ks⟩⟩:=e;unfold nxV at eN;simp only at eN hk;simp +contextual -implicitDefEqProofs (maxSteps:=10^7) only[go_sem,seval,↓gZ,Zv,h0,c0,k0,k1,k2,k3,k4,k5,k6,eN];exact⟨k,l,x,y,w,h,pw,ph,pt,pk,c9,o,a,q,t,ks,(p+1),fun e=>by omega,by omega,by omega,rfl⟩
theorem Zpo:ZE ⟨[],[],[],0,0⟩:=by
 refine⟨⟨by simp,trivial⟩,⟨by simp,trivial,by simp[Qq]⟩,⟨by simp,trivial,by simp[Qq]⟩,?_⟩;simp[Vg,Za6]
def PBook (bs:List UInt8) (p:Nat) (r:AV×List Zn):Prop:=∃ (out:List Zx) (S:List Zb) (O D:List Zc) (L C:Int) (f:Bool) (p' : Nat),ZE ⟨S,O,D,L,C⟩∧out.length≤16∧p≤p'∧p'≤p+200 ∧
 r=(.tup [.own 1,.agg [.own 2,.own 3,.own 4,(.d (J L)),(.d (J C))]],[.box [.d (.sl (bs.map ZaU)),(.d (J (p')))],.row 16 (out.map Zx.enc) true false,.row 4 (S.map Zb.enc) true f,.row 5 (O.map Zc.enc) true f,.row 5 (D.map Zc.enc) true f])
theorem ZrM (bs:List UInt8) (hb:bs.length≤2000) (p:Nat) (hp:p<700000000) (aa:Int):∃ r,Zd Xs Ms Zai [.ptr 0 0,(.d (J aa))] [.box [.d (.sl (bs.map ZaU)),(.d (J p))]]=some r∧PBook bs p r:=by
 obtain⟨n,hn,eN⟩:=ZcS bs p [8,12,5,16,0,2] hb (by omega) (by decide);have ab : 0≤n∧n≤16:=by simp only[Kg,Ln,or_false] at hn;omega
 simp only[Ko,Kz,Qg] at eN;refine cW ?_;simp +contextual -implicitDefEqProofs (maxSteps:=10^7) only[go_sem,seval,↓gZ,ZfN,eN];refine LO (α:=Int×List Zx×Zm×Nat×Bool) (fun s=>[(8,.d (J s.1))]) (fun s=>[(0,.box [.d (.sl (bs.map ZaU)),(.d (J (s.2.2.2.1)))]),(1,.row 16 (s.2.1.map Zx.enc) true false),(2,.box [.own 4,.own 5,.own 6,(.d (J (s.2.2.1.Lost))),(.d (J (s.2.2.1.Came)))]),(4,.row 4 (s.2.2.1.Stock.map Zb.enc) true s.2.2.2.2),(5,.row 5 (s.2.2.1.Opn.map Zc.enc) true s.2.2.2.2),(6,.row 5 (s.2.2.1.Done.map Zc.enc) true s.2.2.2.2)]) (fun s=>0≤s.1∧s.1≤16∧(s.2.1.length:Int)≤16-s.1∧ZE s.2.2.1∧p+1≤s.2.2.2.1∧(s.2.2.2.1:Int)≤p+1+10*(16-s.1)) (fun s=>s.1.toNat) (n,[],⟨[],[],[],0,0⟩,p+1,false) ⟨ab.1,ab.2,by simp;omega,Zpo,by simp,by simp;omega⟩ ?_
 intro⟨m,out,⟨S,O,D,L,C⟩,pp,f⟩ ⟨i1,i2,i3,i4,i5,i6⟩ ih;simp only at i1 i2 i3 i4 i5 i6;by_cases hm:0<m
 ·by_cases ho:(out.length:Int)<aa
  ·obtain⟨r,eE,K,Lb,X,Y,W,H,pW,pH,pT,pK,Ct,o,a,q,t,ks,p',g1,g2,g3,rfl⟩:=Zpn bs hb pp (by omega) S O D L C (Zkr i4);have ea:=ZnM S O D L C K Lb X Y W H pW pH pT pK Ct o a q t ks i4 (fun e=>(g1 e).1) (fun e=>(g1 e).2);have hw:=wi (m-1) (by omega) (by omega);have hr:(out.length+1)*144≤140737488355328∧out.length≤140737488355327:=by omega
   cases hap:QE ⟨S,O,D,L,C⟩ ⟨K,Lb,⟨X,Y,W,H⟩,⟨⟨pW,pH,pT,pK⟩,Ct⟩,.mk o a q t ks⟩ with
   | none=>
    rw[hap] at ea;unfold shV at ea;simp +contextual -implicitDefEqProofs (maxSteps:=10^7) only[go_sem,seval,↓gZ,hm,ho,eE,ea,hw,hr];refine ih (m-1,out,⟨S,O,D,L,C⟩,p',true) _ ⟨by simp only;omega,by simp only;omega,by simp only;omega,i4,by simp only;omega,by simp only;omega⟩ (by simp only;omega) ?_;simp +contextual -implicitDefEqProofs (maxSteps:=10^7) only[go_sem,seval,↓gZ]
   | some u=>
    have ad:=Zjw hap;rw[hap] at ea;obtain⟨S',O',D',L',C'⟩:=u;unfold shV at ea;simp only at ea;simp +contextual -implicitDefEqProofs (maxSteps:=10^7) only[go_sem,seval,↓gZ,hm,ho,eE,ea,hw,hr];refine ih (m-1,out++[⟨K,Lb,⟨X,Y,W,H⟩,⟨⟨pW,pH,pT,pK⟩,Ct⟩,.mk o a q t ks⟩],⟨S',O',D',L',C'⟩,p',false) _ ⟨by simp only;omega,by simp only;omega,by simp only[Kp,Km,KI];omega,ad,by simp only;omega,by simp only;omega⟩ (by simp only;omega) ?_;simp +contextual -implicitDefEqProofs (maxSteps:=10^7) only[go_sem,seval,↓gZ,KG]
  ·simp +contextual -implicitDefEqProofs (maxSteps:=10^7) only[go_sem,seval,↓gZ,hm,ho];exact⟨out,S,O,D,L,C,f,pp,i4,by omega,by omega,by omega,rfl⟩
 ·simp +contextual -implicitDefEqProofs (maxSteps:=10^7) only[go_sem,seval,↓gZ,hm];exact⟨out,S,O,D,L,C,f,pp,i4,by omega,by omega,by omega,rfl⟩
abbrev AnyS (s:Zm):Prop:=WSh s
theorem ZBf {s:Zm} (h:AnyS s):SmS s:=Zug h
theorem ZzT {s:Zm} (h:ZE s):AnyS s:=Zkr h
def PAny (bs:List UInt8) (p:Nat) (r:AV×List Zn):Prop:=∃ (S:List Zb) (O D:List Zc) (L C:Int) (f g h:Bool) (p' : Nat),AnyS ⟨S,O,D,L,C⟩∧p≤p'∧p'≤p+300 ∧
 r=(.agg [.own 1,.own 2,.own 3,(.d (J L)),(.d (J C))],[.box [.d (.sl (bs.map ZaU)),(.d (J (p')))],.row 4 (S.map Zb.enc) true f,.row 5 (O.map Zc.enc) true g,.row 5 (D.map Zc.enc) true h])
theorem Zuh (bs:List UInt8) (hb:bs.length≤2000) (p:Nat) (hp:p<600000000):∃ r,Zd Xs Ms ZbT [.ptr 0 0] [.box [.d (.sl (bs.map ZaU)),(.d (J p))]]=some r∧PAny bs p r:=by
 obtain⟨r,eB,out,S,O,D,L,C,f,p',hv,h1,h2,h3,rfl⟩:=ZrM bs hb p (by omega) 20;have ab:=ZzT hv;obtain⟨_,hO,_,ah,ae,ai,aj,_⟩:=hv;have af:=hO.1;obtain⟨a1,a2,a3,aa,a4,a5,a6,a7⟩:=ab;simp only at a1 a2 a3 aa a4 a5 a6 a7 af ae;have c0:=Qp bs p' 20 hb (by omega);generalize Q1 bs p' 20=c at c0;refine cW ?_;by_cases k0:c=0
 ·subst k0;have w:=wi (L+1) (by omega) (by omega);simp +contextual -implicitDefEqProofs (maxSteps:=10^7) only[go_sem,seval,↓gZ,JY,eB,c0,w];exact⟨S,O,D,L+1,C,_,_,_,p'+1,⟨a1,a2,a3,aa,by simp only;omega,by simp only;omega,a6,a7⟩,by omega,by omega,rfl⟩
 ·by_cases k1:c=1
  ·subst k1;obtain⟨v,ag,eV⟩:=ZcS bs (p'+1) [-1,900001,0] hb (by omega) (by decide);have ad : -1≤v∧v≤900001:=by simp only[Kg,Ln,or_false] at ag;omega
   simp only[Ko,Kz,Qg] at eV;simp +contextual -implicitDefEqProofs (maxSteps:=10^7) only[go_sem,seval,↓gZ,JY,eB,c0,eV];exact⟨S,O,D,L,v,_,_,_,p'+2,⟨a1,a2,a3,aa,a4,a5,ad.1,ad.2⟩,by omega,by omega,rfl⟩
  ·by_cases k2:c=2
   ·subst k2;have r1:O.length*40≤140737488355328∧O.length≤140737488355328:=by omega
    have r2:(O.length+1)*40≤140737488355328∧O.length≤140737488355327:=by omega
    simp +contextual -implicitDefEqProofs (maxSteps:=10^7) only[go_sem,seval,↓gZ,JY,Zq2,eB,c0,r1,r2];refine⟨S,O++[⟨⟨1,1,false,0⟩,0⟩],D,L,C,f,false,f,p'+1,⟨a1,by simp only[Kp,Km,KI];omega,fun x hx=>by
     rcases Kf.1 hx with hx | hx
     ·exact a3 x hx
     ·rw[KH.1 hx];simp only[VP];omega,aa,a4,a5,a6,a7⟩,by omega,by omega,?_⟩
    simp[Zc.enc]
   ·simp +contextual -implicitDefEqProofs (maxSteps:=10^7) only[go_sem,seval,↓gZ,JY,eB,c0,k0,k1,k2];exact⟨S,O,D,L,C,_,_,_,p'+1,⟨a1,a2,a3,aa,a4,a5,a6,a7⟩,by omega,by omega,rfl⟩
def Zs2 (s:Zm) (n:Int):Option Zs:=if ZE s then (match ZvW s.Stock n with
 | some (_,q)=>some ⟨q.W,q.H,s.Opn.map Zc.Pane⟩
 | none=>none) else none
def wkV:Option Zs→AV×List Zn
 | some k=>(.tup [.agg [(.d (J (k.W))),(.d (J (k.H))),.own 0],(.d (.bool true))],[.row 4 (k.Panes.map Pane.enc) true false])
 | none=>(.tup [.agg [(.d (J 0)),(.d (J 0)),.own 0],(.d (.bool false))],[.row 4 [] true false])
theorem ZfI (sS:List Zb) (sO sD:List Zc) (sL sC:Int) (n:Int):Zd Xs Ms WV [(.d (.agg [.sl (sS.map Zb.enc),.sl (sO.map Zc.enc),.sl (sD.map Zc.enc),J sL,J sC])),(.d (J n))] []=some (wkV (Zs2 (Zm.mk sS sO sD sL sC) n)):=by
 have e1:=ZZ sS sO sD sL sC;unfold Zs2;by_cases hv:ZE (Zm.mk sS sO sD sL sC)
 ·rw[Ke hv] at e1;rw[Kl hv];have ab:=hv.1.1;have h8:=hv.2.1.1;simp only at ab h8;have e2:=Yu sS n (by omega);by_cases hf:QB 0 sS n<0
  ·rw[Zfd hf];unfold wkV;refine cE ?_;simp +contextual -implicitDefEqProofs (maxSteps:=10^7) only[go_sem,seval,↓gZ,ZbX,e1,e2,hf]
  ·obtain⟨a,x,ha,hx⟩:=ZbP (by omega:0≤QB 0 sS n);rw[Zbl ha hx];rw[ha] at e2;have ad:¬(a:Int)<0:=by omega
   have aa:=(Kc.1 hx).1;obtain⟨xL,xW,xH,xF⟩:=x;unfold wkV;refine cE ?_;simp +contextual -implicitDefEqProofs (maxSteps:=10^7) only[go_sem,seval,↓gZ,ZbX,e1,e2,ad,aa,hx];refine LO (α:=Nat) (fun i=>[(37,.d (J (i:Int)))]) (fun i=>[(2,.row 4 (((sO.take i).map Zc.Pane).map Pane.enc) true false)]) (fun i=>i≤sO.length) (fun i=>sO.length-i) 0 (by omega) ?_;intro i hi ih;by_cases aa:i<sO.length
   ·obtain⟨x,hx⟩:=Zl aa;have hw:=Zh (k:=i) (by omega);have hm:=Zbk hx;have ae:(sO.take i).length≤i:=by simp;omega
    have hr:((sO.take i).length+1)*32≤140737488355328∧(sO.take i).length≤140737488355327:=by omega
    obtain⟨⟨W,H,T,K⟩,C⟩:=x;simp only at hm;simp +contextual -implicitDefEqProofs (maxSteps:=10^7) only[go_sem,seval,↓gZ,hx,aa,hw,hr];refine ih (i+1) _ (by omega) (by omega) ?_;simp +contextual -implicitDefEqProofs (maxSteps:=10^7) only[go_sem,seval,↓gZ,hm]
    first | rfl | (simp;done) | (simp;rfl)
   ·have:i=sO.length:=by omega
    subst this;simp +contextual -implicitDefEqProofs (maxSteps:=10^7) only[go_sem,seval,↓gZ];simp
 ·rw[Kh hv] at e1;rw[Ki hv];unfold wkV;refine cE ?_;simp +contextual -implicitDefEqProofs (maxSteps:=10^7) only[go_sem,seval,↓gZ,ZbX,e1]
end Go.Proofs.YtbpekaejmjlmfaaGreat
