/- Own text. -/
import Derived.Test.YtbpekaejmjlmfaaGreatACode
import Derived.Test.YtbpekaejmjlmfaaGreatAbsParts
import Derived.Test.YtbpekaejmjlmfaaGreatAC5
import Derived.Test.YtbpekaejmjlmfaaGreatAC1
namespace Go.Proofs.YtbpekaejmjlmfaaGreat
open Go Go.Abs Go.Abs.E Go.Abs.L
open Nat (reduceMul reduceSub reduceLeDiff reduceEqDiff)
open Int (reduceLE reduceEq reduceToNat reduceNeg)
set_option linter.unusedSimpArgs false
set_option linter.unusedVariables false
set_option maxRecDepth 20000
set_option maxHeartbeats 4000000
theorem Zhh (l:List Zc) (pW pH:Int) (pT:Bool) (pK:Int) (c:Int) (hl:l.length≤1048576) (hc:∀ x∈l,R64 (x.Count-c)):Zd Xs Ms Wn [(.d (.sl (l.map Zc.enc))),(.d (.agg [J pW,J pH,.bool pT,J pK])),(.d (J c))] [] =
  some (.tup [.own 0,(.d (.bool (Xe (Pane.mk pW pH pT pK) c false l)))],[.row 5 ((XS l (Pane.mk pW pH pT pK) c).map Zc.enc) true false]):=by
 refine cE ?_;simp +contextual -implicitDefEqProofs (maxSteps:=10^7) only[go_sem,seval,↓gZ,ZeM];refine LO (α:=Nat×Bool) (fun s=>[(10,.d (J (s.1:Int))),(9,.d (.bool s.2))]) (fun s=>[(0,.row 5 ((XS (l.take s.1) (Pane.mk pW pH pT pK) c).map Zc.enc) true false)]) (fun s=>s.1≤l.length∧Xe (Pane.mk pW pH pT pK) c s.2 (l.drop s.1)=Xe (Pane.mk pW pH pT pK) c false l) (fun s=>l.length-s.1) (0,false) ⟨by simp,by simp⟩ ?_;intro⟨i,b⟩ ⟨hi,hp⟩ ih;simp only at hi hp;by_cases aa:i<l.length
 ·obtain⟨x,hx⟩:=Zl aa;have hw:=Zh (k:=i) (by omega);have hm:=ZxB (Pane.mk pW pH pT pK) c hx;have ad:(XS (l.take i) (Pane.mk pW pH pT pK) c).length≤i:=Kt (Kn _ _) (by simp;omega);have hr:((XS (l.take i) (Pane.mk pW pH pT pK) c).length+1)*40≤140737488355328∧(XS (l.take i) (Pane.mk pW pH pT pK) c).length≤140737488355327:=by omega
  have ab:=hc x (Kb hx);rw[ZvS hx] at hp;obtain⟨⟨W,H,T,K⟩,C⟩:=x;simp only[Zhg] at hm hp ab;have u0:=wi (C-c) ab.1 ab.2;by_cases he:(⟨W,H,T,K⟩:Pane)=(Pane.mk pW pH pT pK)
  ·rw[Kl he] at hm hp;have ae:=he;simp only[Pane.mk.injEq] at he;by_cases h0:0<C-c
   ·have h1:0≤C-c:=by omega
    rw[Kl h0] at hm;rw[Ke h1] at hp;simp +contextual -implicitDefEqProofs (maxSteps:=10^7) only[go_sem,seval,↓gZ,hx,aa,hw,he,u0,h0,h1,hr];refine ih (i+1,true) _ ⟨by simp only;omega,hp⟩ (by simp only;omega) ?_;simp +contextual -implicitDefEqProofs (maxSteps:=10^7) only[go_sem,seval,↓gZ,hm,Ly];try (simp[Zc.enc,he];done)
   ·rw[Ki h0] at hm;by_cases h1:0≤C-c
    ·rw[Ke h1] at hp;simp +contextual -implicitDefEqProofs (maxSteps:=10^7) only[go_sem,seval,↓gZ,hx,aa,hw,he,u0,h0,h1,hr];refine ih (i+1,true) _ ⟨by simp only;omega,hp⟩ (by simp only;omega) ?_;simp +contextual -implicitDefEqProofs (maxSteps:=10^7) only[go_sem,seval,↓gZ,hm,Option.toList_none,KJ]
    ·rw[Kh h1] at hp;simp +contextual -implicitDefEqProofs (maxSteps:=10^7) only[go_sem,seval,↓gZ,hx,aa,hw,he,u0,h0,h1,hr];refine ih (i+1,false) _ ⟨by simp only;omega,hp⟩ (by simp only;omega) ?_;simp +contextual -implicitDefEqProofs (maxSteps:=10^7) only[go_sem,seval,↓gZ,hm,Option.toList_none,KJ]
  ·rw[Ki he] at hm hp;simp only[Pane.mk.injEq] at he;by_cases h0:0<C
   ·rw[Kl h0] at hm;simp +contextual -implicitDefEqProofs (maxSteps:=10^7) only[go_sem,seval,↓gZ,hx,aa,hw,he,h0,hr];refine ih (i+1,b) _ ⟨by simp only;omega,hp⟩ (by simp only;omega) ?_;simp +contextual -implicitDefEqProofs (maxSteps:=10^7) only[go_sem,seval,↓gZ,hm,Ly];try (simp[Zc.enc];done)
   ·rw[Ki h0] at hm;simp +contextual -implicitDefEqProofs (maxSteps:=10^7) only[go_sem,seval,↓gZ,hx,aa,hw,he,h0,hr];refine ih (i+1,b) _ ⟨by simp only;omega,hp⟩ (by simp only;omega) ?_;simp +contextual -implicitDefEqProofs (maxSteps:=10^7) only[go_sem,seval,↓gZ,hm,Option.toList_none,KJ]
 ·have:i=l.length:=by omega
  subst this;rw[ZxA] at hp;simp +contextual -implicitDefEqProofs (maxSteps:=10^7) only[go_sem,seval,↓gZ,hp];simp
theorem ZBb (l:List Zc) (i:Nat) (W H:Int) (T:Bool) (K C:Int):(l.map Zc.enc).set i (.agg [J W,J H,.bool T,J K,J C])=(l.set i ⟨⟨W,H,T,K⟩,C⟩).map Zc.enc:=(Kan (f:=Zc.enc) (l:=l) (i:=i) (a:=⟨⟨W,H,T,K⟩,C⟩)).symm
theorem Zet (l:List Zc) (pW pH:Int) (pT:Bool) (pK:Int) (c:Int) (hl:l.length≤1048576) (hc:∀ x∈l,R64 (x.Count+c)):Zd Xs Ms Uy [(.d (.sl (l.map Zc.enc))),(.d (.agg [J pW,J pH,.bool pT,J pK])),(.d (J c))] [] =
  some (.own 0,[.row 5 ((Yw (Pane.mk pW pH pT pK) c l).map Zc.enc) true false]):=by
 have ag:l.length*40≤140737488355328∧l.length≤140737488355328:=by omega
 have ah:(l.length+1)*40≤140737488355328∧l.length≤140737488355327:=by omega
 refine cE ?_;simp +contextual -implicitDefEqProofs (maxSteps:=10^7) only[go_sem,seval,↓gZ,ZfR,ag];refine LO (α:=Nat) (fun k=>[(8,.d (J (k:Int)))]) (fun _=>[]) (fun k=>k≤l.length∧(Pane.mk pW pH pT pK)∉(l.take k).map Zc.Pane) (fun k=>l.length-k) 0 ⟨by simp,by simp⟩ ?_;intro k ⟨hk,hp⟩ ih;by_cases aa:k<l.length
 ·obtain⟨x,hx⟩:=Zl aa;have hw:=Zh (k:=k) (by omega);have ab:=hc x (Kb hx);have ad:=Zbk hx;have ae:=Zud (Pane.mk pW pH pT pK) c l k x hx;obtain⟨⟨W,H,T,K⟩,C⟩:=x;simp only at ab ad ae;have u0:=wi (C+c) ab.1 ab.2;by_cases he:(⟨W,H,T,K⟩:Pane)=(Pane.mk pW pH pT pK)
  ·rw[ae he hp];have af:=he;simp only[Pane.mk.injEq] at he;simp +contextual -implicitDefEqProofs (maxSteps:=10^7) only[go_sem,seval,↓gZ,hx,aa,hw,he,u0,ZBb];try (simp[he];done)
  ·have af:=he;simp only[Pane.mk.injEq] at he;simp +contextual -implicitDefEqProofs (maxSteps:=10^7) only[go_sem,seval,↓gZ,hx,aa,hw,he];refine ih (k+1) _ ⟨by omega,?_⟩ (by omega) ?_
   ·rw[ad,Kf];intro h;rcases h with h | h
    ·exact hp h
    ·exact af (KH.1 h).symm
   ·simp +contextual -implicitDefEqProofs (maxSteps:=10^7) only[go_sem,seval,↓gZ]
 ·have:k=l.length:=by omega
  subst this;rw[KB (Kq _)] at hp;rw[Zue (Pane.mk pW pH pT pK) c l hp];simp +contextual -implicitDefEqProofs (maxSteps:=10^7) only[go_sem,seval,↓gZ,ah];try (simp[Zc.enc];done)
theorem ZrI (l:List Zb) (qL qW qH:Int) (qF:List Box) (hl:l.length≤100000) (hF:∀ x∈l,x.Flaws.length≤1048576) (hq:qF.length≤1048576):Zd Xs Ms Zav [(.d (.sl (l.map Zb.enc))),(.d (.agg [J qL,J qW,J qH,.sl (qF.map Box.enc)]))] [] =
  some (.own 0,[.row 4 ((QC (Zb.mk qL qW qH qF) l).map Zb.enc) true false]):=by
 have eq:=Vn qL qW qH qF hq;refine cE ?_;simp +contextual -implicitDefEqProofs (maxSteps:=10^7) only[go_sem,seval,↓gZ,Zf1];refine LO (α:=Nat×Bool×List Zb) (fun s=>[(7,.d (J (s.1:Int))),(6,.d (.bool s.2.1))]) (fun s=>[(0,.row 4 (s.2.2.map Zb.enc) true false)]) (fun s=>s.1≤l.length∧s.2.2++(if s.2.1 then l.drop s.1 else QC (Zb.mk qL qW qH qF) (l.drop s.1))=QC (Zb.mk qL qW qH qF) l∧s.2.2.length≤s.1+s.2.1.toNat) (fun s=>l.length-s.1) (0,false,[]) ⟨by simp,by simp,by simp⟩ ?_;intro⟨i,b,o⟩ ⟨hi,hp,ho⟩ ih;simp only at hi hp ho;have hb:=Bool.toNat_le b;by_cases aa:i<l.length
 ·obtain⟨x,hx⟩:=Zl aa;have hw:=Zh (k:=i) (by omega);have hr:(o.length+1)*48≤140737488355328∧o.length≤140737488355327:=by omega
  have ab:∀ n:Nat,n=o.length+1→(n+1)*48≤140737488355328∧n≤140737488355327:=fun n hn=>by omega
  have ab:=ab _ rfl;have ad:o.length≤140737488355326:=by omega
  have e:=Vn x.Label x.W x.H x.Flaws (hF x (Kb hx));rw[Zpa hx] at hp;have hd:l.drop i=x :: l.drop (i+1):=by
   obtain⟨h1,h2⟩:=Kc.1 hx;rw[Ku h1,h2]
  obtain⟨L,W,H,F⟩:=x;simp only at e hp;cases b with
  | true=>
   simp only[Bool.toNat_true] at ho;rw[Kl rfl] at hp;simp +contextual -implicitDefEqProofs (maxSteps:=10^7) only[go_sem,seval,↓gZ,hx,aa,hw,e,hr];refine ih (i+1,true,o++[⟨L,W,H,F⟩]) _ ⟨by simp only;omega,?_,by simp;omega⟩ (by simp only;omega) ?_
   ·rw[← hp,hd];simp
   ·simp +contextual -implicitDefEqProofs (maxSteps:=10^7) only[go_sem,seval,↓gZ];try (simp[Zb.enc];done)
  | false=>
   simp only[Bool.toNat_false] at ho;rw[Ki (by simp)] at hp;by_cases hc:qL<L
   ·rw[Kl hc] at hp;simp +contextual -implicitDefEqProofs (maxSteps:=10^7) only[go_sem,seval,↓gZ,hx,aa,hw,e,eq,hc,hr,ab,ad];refine ih (i+1,true,o++[(Zb.mk qL qW qH qF),⟨L,W,H,F⟩]) _ ⟨by simp only;omega,?_,by simp;omega⟩ (by simp only;omega) ?_
    ·rw[← hp,hd];simp
    ·simp +contextual -implicitDefEqProofs (maxSteps:=10^7) only[go_sem,seval,↓gZ];try (simp[Zb.enc];done)
   ·rw[Ki hc] at hp;simp +contextual -implicitDefEqProofs (maxSteps:=10^7) only[go_sem,seval,↓gZ,hx,aa,hw,e,hc,hr];refine ih (i+1,false,o++[⟨L,W,H,F⟩]) _ ⟨by simp only;omega,?_,by simp;omega⟩ (by simp only;omega) ?_
    ·rw[← hp];simp
    ·simp +contextual -implicitDefEqProofs (maxSteps:=10^7) only[go_sem,seval,↓gZ];try (simp[Zb.enc];done)
 ·have:i=l.length:=by omega
  subst this;have hr:(o.length+1)*48≤140737488355328∧o.length≤140737488355327:=by omega
  cases b with
  | true=>
   simp at hp;simp +contextual -implicitDefEqProofs (maxSteps:=10^7) only[go_sem,seval,↓gZ];rw[hp]
  | false=>
   simp[QC] at hp;simp +contextual -implicitDefEqProofs (maxSteps:=10^7) only[go_sem,seval,↓gZ,eq,hr];rw[← hp];try (simp[Zb.enc];done)
def Wz (p:Zb) (l:List Zb):Prop:=(VSt l∧VPc p)∧VSt (QC p l)
instance (p:Zb) (l:List Zb):Decidable (Wz p l):=by unfold Wz;infer_instance
theorem Zi3 (l:List Zb) (qL qW qH:Int) (qF:List Box) (hl:l.length≤100000) (hS:∀ x∈l,x.Flaws.length≤1048576∧R64 x.W∧R64 x.H) (hq:qF.length≤1048576∧R64 qW∧R64 qH):Zd Xs Ms Ux [(.d (.sl (l.map Zb.enc))),(.d (.agg [J qL,J qW,J qH,.sl (qF.map Box.enc)]))] [] =
  some (.tup [.own 0,(.d (.bool (decide (Wz (Zb.mk qL qW qH qF) l))))],[.row 4 ((if Wz (Zb.mk qL qW qH qF) l then QC (Zb.mk qL qW qH qF) l else []).map Zb.enc) true false]):=by
 have e1:=YI l (by omega) (fun x hx=>⟨by have:=(hS x hx).1;omega,(hS x hx).2⟩);have e2:=ZgP qL qW qH qF (by omega) hq.2.1 hq.2.2;have e3:=ZrI l qL qW qH qF hl (fun x hx=>(hS x hx).1) hq.1;have e4:=YI (QC (Zb.mk qL qW qH qF) l) (by rw[ZlF];omega) (fun x hx=>by
  rcases ZsS _ _ _ hx with rfl | hx
  ·exact⟨by simp only;omega,hq.2⟩
  ·exact⟨by have:=(hS x hx).1;omega,(hS x hx).2⟩)
 refine cE ?_;by_cases v1:VSt l
 ·rw[Ke v1] at e1;by_cases v2:VPc (Zb.mk qL qW qH qF)
  ·rw[Ke v2] at e2;by_cases v3:VSt (QC (Zb.mk qL qW qH qF) l)
   ·rw[Ke v3] at e4;have h:Wz (Zb.mk qL qW qH qF) l:=⟨⟨v1,v2⟩,v3⟩
    rw[Ke h,Kl h];simp +contextual -implicitDefEqProofs (maxSteps:=10^7) only[go_sem,seval,↓gZ,UI,e1,e2,e3,e4]
   ·rw[Kh v3] at e4;have h:¬Wz (Zb.mk qL qW qH qF) l:=fun h=>v3 h.2;rw[Kh h,Ki h];simp +contextual -implicitDefEqProofs (maxSteps:=10^7) only[go_sem,seval,↓gZ,UI,e1,e2,e3,e4]
  ·rw[Kh v2] at e2;have h:¬Wz (Zb.mk qL qW qH qF) l:=fun h=>v2 h.1.2;rw[Kh h,Ki h];simp +contextual -implicitDefEqProofs (maxSteps:=10^7) only[go_sem,seval,↓gZ,UI,e1,e2]
 ·rw[Kh v1] at e1;have h:¬Wz (Zb.mk qL qW qH qF) l:=fun h=>v1 h.1.1;rw[Kh h,Ki h];simp +contextual -implicitDefEqProofs (maxSteps:=10^7) only[go_sem,seval,↓gZ,UI,e1]
theorem Zuf (l:List Zb) (hl:l.length≤1048576) (hF:∀ x∈l,x.Flaws.length≤1048576):Zd Xs Ms VM [(.d (.sl (l.map Zb.enc))),(.d (J ((-1))))] []=some (.own 0,[.row 4 (l.map Zb.enc) true false]):=by
 refine cE ?_;simp +contextual -implicitDefEqProofs (maxSteps:=10^7) only[go_sem,seval,↓gZ,Zd6];refine LO (α:=Nat) (fun i=>[(6,.d (J (i:Int)))]) (fun i=>[(0,.row 4 ((l.take i).map Zb.enc) true false)]) (fun i=>i≤l.length) (fun i=>l.length-i) 0 (by omega) ?_;intro i hi ih;by_cases aa:i<l.length
 ·obtain⟨x,hx⟩:=Zl aa;have hw:=Zh (k:=i) (by omega);have ab:¬(i:Int)=-1:=by omega
  have hm:l.take (i+1)=l.take i++[x]:=by rw[Kw,hx];simp
  have ad:(l.take i).length≤i:=by simp;omega
  have hr:((l.take i).length+1)*48≤140737488355328∧(l.take i).length≤140737488355327:=by omega
  have e:=Vn x.Label x.W x.H x.Flaws (hF x (Kb hx));obtain⟨L,W,H,F⟩:=x;simp only at e;simp +contextual -implicitDefEqProofs (maxSteps:=10^7) only[go_sem,seval,↓gZ,hx,aa,hw,ab,e,hr];refine ih (i+1) _ (by omega) (by omega) ?_;simp +contextual -implicitDefEqProofs (maxSteps:=10^7) only[go_sem,seval,↓gZ,hm]
  first | rfl | (simp;done) | (simp;rfl)
 ·have:i=l.length:=by omega
  subst this;simp +contextual -implicitDefEqProofs (maxSteps:=10^7) only[go_sem,seval,↓gZ];simp
theorem Y4 (sS:List Zb) (sO sD:List Zc) (sL sC:Int) (hs:JK (Zm.mk sS sO sD sL sC)):Zd Xs Ms Uv [(.d (.agg [.sl (sS.map Zb.enc),.sl (sO.map Zc.enc),.sl (sD.map Zc.enc),J sL,J sC]))] []=some (.agg [.own 0,.own 1,.own 2,(.d (J sL)),(.d (J sC))],[.row 4 (sS.map Zb.enc) true false,.row 5 (sO.map Zc.enc) true false,.row 5 (sD.map Zc.enc) true false]):=by
 obtain⟨h1,h2,h3,h4⟩:=hs;simp only at h1 h2 h3 h4;have e1:=Zuf sS h1 (fun x hx=>(h2 x hx).1);have r1:sO.length*40≤140737488355328∧sO.length≤140737488355328:=by omega
 have r2:sD.length*40≤140737488355328∧sD.length≤140737488355328:=by omega
 refine cE ?_;simp +contextual -implicitDefEqProofs (maxSteps:=10^7) only[go_sem,seval,↓gZ,ZfL,Zq2,e1,r1,r2]
theorem ZvU (sS:List Zb) (sO sD:List Zc) (sL sC:Int) (a:Nat) (qL qW qH:Int) (qF:List Box) (hx:sS[a]?=some (Zb.mk qL qW qH qF)) (hl:sO.length≤1048576) (hS:sS.length≤1048576):Zd Xs Ms Zda [(.d (.agg [.sl (sS.map Zb.enc),.sl (sO.map Zc.enc),.sl (sD.map Zc.enc),J sL,J sC])),(.d (J a))] []=some (.agg [(.d (J qW)),(.d (J qH)),.own 0],[.row 4 ((sO.map Zc.Pane).map Pane.enc) true false]):=by
 have aa:=(Kc.1 hx).1;refine cE ?_;simp +contextual -implicitDefEqProofs (maxSteps:=10^7) only[go_sem,seval,↓gZ,ZjA,hx,aa];refine LO (α:=Nat) (fun i=>[(6,.d (J (i:Int)))]) (fun i=>[(3,.row 4 (((sO.take i).map Zc.Pane).map Pane.enc) true false)]) (fun i=>i≤sO.length) (fun i=>sO.length-i) 0 (by omega) ?_;intro i hi ih;by_cases aa:i<sO.length
 ·obtain⟨x,hx⟩:=Zl aa;have hw:=Zh (k:=i) (by omega);have hm:=Zbk hx;have ab:(sO.take i).length≤i:=by simp;omega
  have hr:((sO.take i).length+1)*32≤140737488355328∧(sO.take i).length≤140737488355327:=by omega
  obtain⟨⟨W,H,T,K⟩,C⟩:=x;simp only at hm;simp +contextual -implicitDefEqProofs (maxSteps:=10^7) only[go_sem,seval,↓gZ,hx,aa,hw,hr];refine ih (i+1) _ (by omega) (by omega) ?_;simp +contextual -implicitDefEqProofs (maxSteps:=10^7) only[go_sem,seval,↓gZ,hm]
  first | rfl | (simp;done) | (simp;rfl)
 ·have:i=sO.length:=by omega
  subst this;simp +contextual -implicitDefEqProofs (maxSteps:=10^7) only[go_sem,seval,↓gZ];simp
def SmS (s:Zm):Prop:=JK s∧s.Stock.length≤100000∧-1000000000≤s.Lost∧s.Lost≤1000000000∧-1000000000≤s.Came∧s.Came≤1000000000
theorem ZlG {s:Zm} (h:ZE s):SmS s:=⟨V7 h,by have:=h.1.1;omega,by have:=h.2.2.2.1;omega,by have:=h.2.2.2.2.1;omega,by have:=h.2.2.2.2.2.1;omega,by have:=h.2.2.2.2.2.2.1;omega⟩
def I5 (n:Int):Prop:=-100000≤n∧n≤100000
theorem ZBc {a b:Int} (ha:I5 a) (hb:I5 b) : -10000000000≤a*b∧a*b≤10000000000:=by
 unfold I5 at ha hb;have h1:a.natAbs≤100000:=by omega
 have h2:b.natAbs≤100000:=by omega
 have h3:(a*b).natAbs≤100000*100000:=by rw[Int.natAbs_mul];exact Nat.mul_le_mul h1 h2
 omega
theorem ZBd {a:Int} (h:I5 a):R64 a:=by unfold I5 at h;unfold R64;omega
theorem Zjs (sS:List Zb) (sO sD:List Zc) (sL sC:Int) (eK eL eX eY eW eH aa ab:Int) (ad:Bool) (ae eC eo ea ep:Int) (et:Bool) (ek:List Ze) (hs:SmS (Zm.mk sS sO sD sL sC)) (hk:eK=0) (hW:I5 eW) (hH:I5 eH):Zd Xs Ms XW [(.d (.agg [.sl (sS.map Zb.enc),.sl (sO.map Zc.enc),.sl (sD.map Zc.enc),J sL,J sC])),(.d (.agg [J eK,J eL,J eX,J eY,J eW,J eH,J aa,J ab,.bool ad,J ae,J eC,J eo,J ea,J ep,.bool et,.sl (ek.map Ze.enc)]))] [] =
  some (.tup [.agg [.own 0,.d (.sl (sO.map Zc.enc)),.d (.sl (sD.map Zc.enc)),(.d (J sL)),(.d (J (sC+eW*eH)))],(.d (.bool (decide ((Wz ⟨eL,eW,eH,[]⟩ sS∧eX=0)∧eY=0))))],[.row 4 ((if Wz ⟨eL,eW,eH,[]⟩ sS then QC ⟨eL,eW,eH,[]⟩ sS else []).map Zb.enc) true false]):=by
 obtain⟨⟨h1,h2,h3,h4⟩,h5,h6,h7,h8,h9⟩:=hs;simp only at h1 h2 h3 h4 h5 h6 h7 h8 h9;subst hk;have hm:=ZBc hW hH;have e1:=Yv sS eL (by omega);have e2:=Zi3 sS eL eW eH [] h5 h2 ⟨by simp,ZBd hW,ZBd hH⟩;have u1:=wi (eW*eH) (by omega) (by omega);have u2:=wi (sC+eW*eH) (by omega) (by omega);simp only[Kz] at e2;generalize (if Wz ⟨eL,eW,eH,[]⟩ sS then QC ⟨eL,eW,eH,[]⟩ sS else [])=R at e2 ⊢;by_cases v1:Wz ⟨eL,eW,eH,[]⟩ sS
 ·rw[Ke v1] at e2;refine cE ?_;by_cases v2:eX=0
  ·simp +contextual -implicitDefEqProofs (maxSteps:=10^7) only[go_sem,seval,↓gZ,XZ,e1,e2,u1,u2,v2]
   all_goals simp[v1]
  ·simp +contextual -implicitDefEqProofs (maxSteps:=10^7) only[go_sem,seval,↓gZ,XZ,e1,e2,u1,u2,v2]
   all_goals simp
 ·rw[Kh v1] at e2;refine cE ?_;simp +contextual -implicitDefEqProofs (maxSteps:=10^7) only[go_sem,seval,↓gZ,XZ,e1,e2,u1,u2,v1]
theorem ZnK (sS:List Zb) (sO sD:List Zc) (sL sC:Int) (eK eL eX eY eW eH aa ab:Int) (ad:Bool) (ae eC eo ea ep:Int) (et:Bool) (ek:List Ze) (hs:SmS (Zm.mk sS sO sD sL sC)) (hk:¬eK=0) (hf:QB 0 sS eL<0):Zd Xs Ms XW [(.d (.agg [.sl (sS.map Zb.enc),.sl (sO.map Zc.enc),.sl (sD.map Zc.enc),J sL,J sC])),(.d (.agg [J eK,J eL,J eX,J eY,J eW,J eH,J aa,J ab,.bool ad,J ae,J eC,J eo,J ea,J ep,.bool et,.sl (ek.map Ze.enc)]))] [] =
  some (.tup [.agg [.own 0,.own 1,.own 2,(.d (J 0)),(.d (J 0))],(.d (.bool false))],[.row 4 [] true false,.row 5 [] true false,.row 5 [] true false]):=by
 have e1:=Yv sS eL (by have:=hs.2.1;simp only at this;omega);refine cE ?_;simp +contextual -implicitDefEqProofs (maxSteps:=10^7) only[go_sem,seval,↓gZ,XZ,e1,hk,hf]
theorem Zjt (sS:List Zb) (sO sD:List Zc) (sL sC:Int) (eK eL eX eY eW eH aa ab:Int) (ad:Bool) (ae eC eo ea ep:Int) (et:Bool) (ek:List Ze) (hs:SmS (Zm.mk sS sO sD sL sC)) (hk:eK=5) (a:Nat) (hf:QB 0 sS eL=(a:Int)) (qL qW qH:Int) (qF:List Box) (hx:sS[a]?=some (Zb.mk qL qW qH qF)) (hW:I5 qW) (hH:I5 qH):Zd Xs Ms XW [(.d (.agg [.sl (sS.map Zb.enc),.sl (sO.map Zc.enc),.sl (sD.map Zc.enc),J sL,J sC])),(.d (.agg [J eK,J eL,J eX,J eY,J eW,J eH,J aa,J ab,.bool ad,J ae,J eC,J eo,J ea,J ep,.bool et,.sl (ek.map Ze.enc)]))] [] =
  some (.tup [.agg [.own 0,.d (.sl (sO.map Zc.enc)),.d (.sl (sD.map Zc.enc)),(.d (J (sL+qW*qH))),(.d (J sC))],(.d (.bool true))],[.row 4 ((sS.eraseIdx a).map Zb.enc) true false]):=by
 obtain⟨⟨h1,h2,h3,h4⟩,h5,h6,h7,h8,h9⟩:=hs;simp only at h1 h2 h3 h4 h5 h6 h7 h8 h9;subst hk;have hm:=ZBc hW hH;have e1:=Yv sS eL (by omega);rw[hf] at e1;have af:=(Kc.1 hx).1;have h0:¬(a:Int)<0:=by omega
 have e2:=Vn qL qW qH qF (h2 _ (Kb hx)).1;have e3:=ZfE sS a h1 (fun x hx=>(h2 x hx).1);have u1:=wi (qW*qH) (by omega) (by omega);have u2:=wi (sL+qW*qH) (by omega) (by omega);refine cE ?_;simp +contextual -implicitDefEqProofs (maxSteps:=10^7) only[go_sem,seval,↓gZ,XZ,e1,e2,e3,h0,af,hx,u1,u2]
theorem Zkm (sS:List Zb) (sO sD:List Zc) (sL sC:Int) (eK eL eX eY eW eH ab ad:Int) (ae:Bool) (af eC eo ea ep:Int) (et:Bool) (ek:List Ze) (hv:ZE (Zm.mk sS sO sD sL sC)) (hk:eK=1) (a:Nat) (hf:QB 0 sS eL=(a:Int)) (qL qW qH:Int) (qF:List Box) (hx:sS[a]?=some (Zb.mk qL qW qH qF)):Zd Xs Ms XW [(.d (.agg [.sl (sS.map Zb.enc),.sl (sO.map Zc.enc),.sl (sD.map Zc.enc),J sL,J sC])),(.d (.agg [J eK,J eL,J eX,J eY,J eW,J eH,J ab,J ad,.bool ae,J af,J eC,J eo,J ea,J ep,.bool et,.sl (ek.map Ze.enc)]))] [] =
  some (.tup [.agg [.own 0,.d (.sl (sO.map Zc.enc)),.d (.sl (sD.map Zc.enc)),(.d (J sL)),(.d (J sC))],(.d (.bool (decide (Wz ⟨qL,qW,qH,qF++[⟨eX,eY,eW,eH⟩]⟩ (sS.eraseIdx a)))))],[.row 4 ((if Wz ⟨qL,qW,qH,qF++[⟨eX,eY,eW,eH⟩]⟩ (sS.eraseIdx a) then QC ⟨qL,qW,qH,qF++[⟨eX,eY,eW,eH⟩]⟩ (sS.eraseIdx a) else []).map Zb.enc) true false]):=by
 obtain⟨⟨h1,h2,h3,h4⟩,h5,h6,h7,h8,h9⟩:=ZlG hv;simp only at h1 h2 h3 h4 h5 h6 h7 h8 h9;subst hk;have e1:=Yv sS eL (by omega);rw[hf] at e1;have ag:=(Kc.1 hx).1;have h0:¬(a:Int)<0:=by omega
 have aa:=h2 _ (Kb hx);simp only at aa;have ai:=ZlC sS a;have e2:=Vn qL qW qH qF aa.1;have e3:=ZfE sS a h1 (fun x hx=>(h2 x hx).1);have hr:(qF.length+1)*32≤140737488355328∧qF.length≤140737488355327:=by omega
 have ah:=(Z3 hv.1.2 _ (Kb hx)).1.2.2.2.2.2.2;simp only at ah;have e4:=Zi3 (sS.eraseIdx a) qL qW qH (qF++[⟨eX,eY,eW,eH⟩]) (by omega) (fun x hx=>h2 x (L4 hx)) ⟨by simp;omega,aa.2⟩;rw[KG] at e4;simp only[Ko,Kz,Box.enc] at e4;generalize (if Wz ⟨qL,qW,qH,qF++[⟨eX,eY,eW,eH⟩]⟩ (sS.eraseIdx a) then QC ⟨qL,qW,qH,qF++[⟨eX,eY,eW,eH⟩]⟩ (sS.eraseIdx a) else [])=R at e4 ⊢;generalize decide (Wz ⟨qL,qW,qH,qF++[⟨eX,eY,eW,eH⟩]⟩ (sS.eraseIdx a))=V at e4 ⊢;refine cE ?_;simp +contextual -implicitDefEqProofs (maxSteps:=10^7) only[go_sem,seval,↓gZ,XZ,e1,e2,e3,e4,h0,ag,hx,hr]
def V8 (l:Zc):Prop:=VP l.Pane∧1≤l.Count∧l.Count≤24
instance (l:Zc):Decidable (V8 l):=by unfold V8;infer_instance
theorem ZnL (sS:List Zb) (sO sD:List Zc) (sL sC:Int) (eK eL eX eY eW eH aa ab:Int) (ad:Bool) (ae eC eo ea ep:Int) (et:Bool) (ek:List Ze) (hl:¬V8 ⟨⟨aa,ab,ad,ae⟩,eC⟩):Zd Xs Ms Y8 [(.d (.agg [.sl (sS.map Zb.enc),.sl (sO.map Zc.enc),.sl (sD.map Zc.enc),J sL,J sC])),(.d (.agg [J eK,J eL,J eX,J eY,J eW,J eH,J aa,J ab,.bool ad,J ae,J eC,J eo,J ea,J ep,.bool et,.sl (ek.map Ze.enc)]))] [] =
  some (.tup [.agg [.own 0,.own 1,.own 2,(.d (J 0)),(.d (J 0))],(.d (.bool false))],[.row 4 [] true false,.row 5 [] true false,.row 5 [] true false]):=by
 have e1:=Vl aa ab ad ae;have e2:=ZK eC 1 24;refine cE ?_;by_cases v1:VP ⟨aa,ab,ad,ae⟩
 ·have v2:¬(1≤eC∧eC≤24):=fun h=>hl ⟨v1,h⟩;rw[Ke v1] at e1;rw[Kh v2] at e2;simp +contextual -implicitDefEqProofs (maxSteps:=10^7) only[go_sem,seval,↓gZ,Wt,e1,e2]
 ·rw[Kh v1] at e1;simp +contextual -implicitDefEqProofs (maxSteps:=10^7) only[go_sem,seval,↓gZ,Wt,e1]
theorem Zkn (sS:List Zb) (sO sD:List Zc) (sL sC:Int) (eK eL eX eY eW eH aa ab:Int) (ad:Bool) (ae eC eo ea ep:Int) (et:Bool) (ek:List Ze) (hv:ZE (Zm.mk sS sO sD sL sC)) (hl:V8 ⟨⟨aa,ab,ad,ae⟩,eC⟩) (hk:eK=2):Zd Xs Ms Y8 [(.d (.agg [.sl (sS.map Zb.enc),.sl (sO.map Zc.enc),.sl (sD.map Zc.enc),J sL,J sC])),(.d (.agg [J eK,J eL,J eX,J eY,J eW,J eH,J aa,J ab,.bool ad,J ae,J eC,J eo,J ea,J ep,.bool et,.sl (ek.map Ze.enc)]))] [] =
  some (.tup [.agg [.d (.sl (sS.map Zb.enc)),.own 0,.d (.sl (sD.map Zc.enc)),(.d (J sL)),(.d (J sC))],(.d (.bool true))],[.row 5 ((Yw ⟨aa,ab,ad,ae⟩ eC sO).map Zc.enc) true false]):=by
 have e1:=Vl aa ab ad ae;have e2:=ZK eC 1 24;rw[Ke hl.1] at e1;rw[Ke hl.2] at e2;subst hk;have e3:=Zet sO aa ab ad ae eC (by have:=hv.2.1.1;simp only at this;omega) (fun x hx=>by have:=(QO hv.2.1 x hx).2;have:=hl.2;simp only at this;unfold R64;omega);refine cE ?_;simp +contextual -implicitDefEqProofs (maxSteps:=10^7) only[go_sem,seval,↓gZ,Wt,e1,e2,e3]
theorem Zko (sS:List Zb) (sO sD:List Zc) (sL sC:Int) (eK eL eX eY eW eH aa ab:Int) (ad:Bool) (ae eC eo ea ep:Int) (et:Bool) (ek:List Ze) (hv:ZE (Zm.mk sS sO sD sL sC)) (hl:V8 ⟨⟨aa,ab,ad,ae⟩,eC⟩) (hk:¬eK=2):Zd Xs Ms Y8 [(.d (.agg [.sl (sS.map Zb.enc),.sl (sO.map Zc.enc),.sl (sD.map Zc.enc),J sL,J sC])),(.d (.agg [J eK,J eL,J eX,J eY,J eW,J eH,J aa,J ab,.bool ad,J ae,J eC,J eo,J ea,J ep,.bool et,.sl (ek.map Ze.enc)]))] [] =
  some (.tup [.agg [.d (.sl (sS.map Zb.enc)),.own 0,.own 1,(.d (J (sL+eC*aa*ab))),(.d (J sC))],(.d (.bool (Xe ⟨aa,ab,ad,ae⟩ eC false sD)))],[.row 5 ((Yw ⟨aa,ab,ad,ae⟩ eC sO).map Zc.enc) true false,.row 5 ((XS sD ⟨aa,ab,ad,ae⟩ eC).map Zc.enc) true false]):=by
 have e1:=Vl aa ab ad ae;have e2:=ZK eC 1 24;rw[Ke hl.1] at e1;rw[Ke hl.2] at e2;have af:=ZcI hl;have h6:=hv.2.2.2;simp only at af h6;have e3:=Zet sO aa ab ad ae eC (by have:=hv.2.1.1;simp only at this;omega) (fun x hx=>by have:=(QO hv.2.1 x hx).2;have:=hl.2;simp only at this;unfold R64;omega);have e4:=Zhh sD aa ab ad ae eC (by have:=hv.2.2.1.1;simp only at this;omega) (fun x hx=>by have:=(QO hv.2.2.1 x hx).2;have:=hl.2;simp only at this;unfold R64;omega);have u0:=wi (eC*aa) (by omega) (by omega);have u1:=wi (eC*aa*ab) (by omega) (by omega);have u2:=wi (sL+eC*aa*ab) (by omega) (by omega)
 refine cE ?_;simp +contextual -implicitDefEqProofs (maxSteps:=10^7) only[go_sem,seval,↓gZ,Wt,e1,e2,e3,e4,hk,u0,u1,u2]
theorem ZbQ {ps:List Pane}:∀ {b:BT} {x y w h:Int},QF ps b w h=true→∀ c∈plc b x y w h,∃ n:Nat,c.Pane=(n:Int)∧n<ps.length
 | .waste,x,y,w,h,hf,c,hc=>by simp[plc] at hc
 | .pane i t,x,y,w,h,hf,c,hc=>by
  simp only[plc,KH] at hc;subst hc;simp only[QF,Yc,Kd,Kr] at hf;refine⟨i.toNat,by simp only;omega,?_⟩;rcases K9 i.toNat ps.length with h1 | h1
  ·exact h1
  ·rw[KU h1] at hf;exact absurd hf.2 (by simp)
 | .cut d a l r,x,y,w,h,hf,c,hc=>by
  cases d
  ·simp only[QF,Kd,Ka,Kj] at hf;simp only[plc,Ka,Kj,Kf] at hc;rcases hc with hc | hc
   ·exact ZbQ hf.1.2 c hc
   ·exact ZbQ hf.2 c hc
  ·simp only[QF,Kd,Kk] at hf;simp only[plc,Kk,Kf] at hc;rcases hc with hc | hc
   ·exact ZbQ hf.1.2 c hc
   ·exact ZbQ hf.2 c hc
def U7:List Int→List L.Place→List Int
 | u,[]=>u
 | u,x :: l=>U7 (u.set x.Pane.toNat (u[x.Pane.toNat]?.getD 0+1)) l
theorem Zpe {u:List Int} {l:List L.Place} {k:Nat} {x:L.Place} (hx:l[k]?=some x):U7 u (l.drop k)=U7 (u.set x.Pane.toNat (u[x.Pane.toNat]?.getD 0+1)) (l.drop (k+1)):=by
 obtain⟨h1,h2⟩:=Kc.1 hx;rw[Ku h1,h2,U7]
theorem ZsT {u:List Int} {l:List L.Place}:U7 u (l.drop l.length)=u:=by simp[U7]
theorem ZsU:∀ (l:List L.Place) (u:List Int),(U7 u l).length=u.length
 | [],u=>rfl
 | x :: l,u=>by rw[U7,ZsU l];simp
theorem ZsV:∀ (l:List L.Place) (u:List Int) (m:Int),(∀ v∈u,0≤v∧v≤m)→∀ v∈U7 u l,0≤v∧v≤m+l.length
 | [],u,m,h,v,hv=>by have:=h v hv;simp;omega
 | x :: l,u,m,h,v,hv=>by
  have:=ZsV l _ (m+1) (fun w hw=>by
   rcases List.mem_or_eq_of_mem_set hw with h1 | rfl
   ·have:=h w h1;omega
   ·cases hg:u[x.Pane.toNat]? with
    | none=>
     simp;have h0:∀ z:Int,0≤z→1≤z+1:=by omega
     by_cases hu:u=[]
     ·subst hu;simp at hw
     ·obtain⟨z,hz⟩:=List.exists_mem_of_ne_nil u hu;have:=h z hz;omega
    | some z=>have:=h z (Kb hg);simp;omega) v hv
  simp only[Km];omega
theorem Zoo (u:List Int) (i:Nat) (v:Int):(u.map Qg).set i (J v)=(u.set i v).map Qg:=(Kan (f:=Qg) (l:=u) (i:=i) (a:=v)).symm
theorem rep_int (n:Nat):List.replicate n (D.int .i64 0)=(List.replicate n (0:Int)).map Qg:=by simp[Qg]
def Zck (k:Zs) (p:Ze):List Int:=U7 (List.replicate k.Panes.length 0) ((ZU k p).filterMap Q8)
theorem Zd2 {k:Zs} {p:Ze} (hv:Q6 k p=true):(Zck k p).length=k.Panes.length∧∀ v∈Zck k p,0≤v∧v≤255:=by
 obtain⟨b,hb,ae,af,ab,ad,aa⟩:=QR hv;have hl:((ZU k p).filterMap Q8).length≤255:=by
  have:=Kn Q8 (ZU k p);rw[aa,WD] at this;rw[aa];omega
 refine⟨by unfold Zck;rw[ZsU];simp,fun v h=>?_⟩;have:=ZsV _ _ 0 (fun w hw=>by rw[L3 hw];omega) v h;omega
theorem ZvV (kW kH:Int) (kP:List Pane) (p:Ze) (hv:Q6 (Zs.mk kW kH kP) p=true):Zd Xs Ms Zdb [(.d (.agg [J kW,J kH,.sl (kP.map Pane.enc)])),.d p.enc] []=some (.own 0,[.row 1 ((Zck (Zs.mk kW kH kP) p).map Qg) true false]):=by
 obtain⟨b,hb,af,ad,aj,aa,ab⟩:=QR hv;simp only at aa ab;have e:=Zi0 kW kH kP p b af (by simp only[VW,inB] at ad ⊢;omega) aa (by omega);have ag:=ZbQ (x:=0) (y:=0) aa;have an:kP.length≤24:=ad.2.2.2.2.1;have ak:(plc b 0 0 kW kH).length≤255:=by
  have:=Kn Q8 (ZU (Zs.mk kW kH kP) p);rw[ab,WD,YR] at this;omega
 unfold Zck;rw[ab,YR];generalize plc b 0 0 kW kH=L at e ag ak ⊢;have al:(kP.length:Int)*((8:Nat):Int)≤((140737488355328:Nat):Int)∧kP.length≤140737488355328:=by omega
 have ae:(kP.length:Int)*8≤140737488355328∧(kP.length:Int)≤140737488355328:=by omega
 clear hv hb af ad ab aa;obtain⟨o,a,q,t,ks⟩:=p;rw[Ze.enc_mk] at e ⊢;refine cE ?_;simp +contextual -implicitDefEqProofs (maxSteps:=10^7) only[go_sem,seval,↓gZ,ZjB,e,rep_int,al,ae];refine LO (α:=Nat×List Int) (fun s=>[(7,.d (J (s.1:Int)))]) (fun s=>[(1,.row 1 (s.2.map Qg) true false)]) (fun s=>s.1≤L.length∧s.2.length=kP.length∧(∀ v∈s.2,0≤v∧v≤s.1)∧U7 s.2 (L.drop s.1)=U7 (List.replicate kP.length 0) L) (fun s=>L.length-s.1) (0,List.replicate kP.length 0) ⟨by simp,by simp,fun w hw=>by rw[L3 hw];simp,by simp⟩ ?_;intro⟨i,u⟩ ⟨hi,hul,huv,hp⟩ ih;simp only at hi hul huv hp;by_cases ah:i<L.length
 ·obtain⟨x,hx⟩:=Zl ah;have hw:=Zh (k:=i) (by omega);obtain⟨n,hn,am⟩:=ag x (Kb hx);rw[Zpe hx,hn] at hp;obtain⟨q',t',⟨X,Y,W,H⟩⟩:=x;simp only at hn;subst hn;have ai:n<u.length:=by omega
  obtain⟨z,hz⟩:=Zl ai;have ao:=huv z (Kb hz);have u1:=wi (z+1) (by omega) (by omega);rw[KA,hz] at hp;simp +contextual -implicitDefEqProofs (maxSteps:=10^7) only[go_sem,seval,↓gZ,hx,ah,hw,am,ai,hz,u1,Zoo,hul];refine ih (i+1,u.set n (z+1)) _ ⟨by simp only;omega,by simpa using hul,fun v hv=>?_,hp⟩ (by simp only;omega) ?_
  ·simp only;rcases List.mem_or_eq_of_mem_set hv with h1 | rfl
   ·have:=huv v h1;omega
   ·omega
  ·simp +contextual -implicitDefEqProofs (maxSteps:=10^7) only[go_sem,seval,↓gZ,List.headD_cons,Zoo]
 ·have:i=L.length:=by omega
  subst this;rw[ZsT] at hp;simp +contextual -implicitDefEqProofs (maxSteps:=10^7) only[go_sem,seval,↓gZ,hp]
def Zju:BT→Bool
 | .waste=>false
 | .pane _ _=>true
 | .cut _ _ l r=>Zju l || Zju r
theorem ZfG:∀ (b:BT),Zd Xs Ms W0 [.d b.plan.enc] []=some ((.d (.bool (Zju b))),[])
 | .waste=>by
  simp only[BT.plan,Ze.enc_mk];refine cE ?_;simp +contextual -implicitDefEqProofs (maxSteps:=10^7) only[go_sem,seval,↓gZ,Zb0,Xd,Zju]
 | .pane i t=>by
  simp only[BT.plan,Ze.enc_mk];refine cE ?_;simp +contextual -implicitDefEqProofs (maxSteps:=10^7) only[go_sem,seval,↓gZ,Zb0,Xd,Zju]
 | .cut d a l r=>by
  have e1:=ZfG l;have e2:=ZfG r;simp only[BT.plan,Ze.enc_mk];cases hb:Zju l<;>rw[hb] at e1<;>cases d <;>
  ·refine cE ?_;simp +contextual -implicitDefEqProofs (maxSteps:=10^7) only[go_sem,seval,↓gZ,Zb0,Xd,Zju,Z9,e1,e2,hb,Lj,Kau,Lv]
theorem ZrJ (kW kH:Int) (kP:List Pane) (p:Ze) (Zj:Int) (hv:Q6 (Zs.mk kW kH kP) p=true) (h1:1≤Zj) (h2:Zj≤200):Zd Xs Ms Zao [(.d (.agg [J kW,J kH,.sl (kP.map Pane.enc)])),.d p.enc,(.d (J Zj))] [] =
  some ((.d (J (QT (Zel (Zs.mk kW kH kP) p Zj)))),[]):=by
 obtain⟨b,hb,ai,af,aj,aa,ad⟩:=QR hv;have am:kP.length≤24:=af.2.2.2.2.1;have ev:=Zg3 kW kH kP p (by omega);rw[hv] at ev;have er:=ZK Zj 1 200;rw[Ke (show 1≤Zj∧Zj≤200 from ⟨h1,h2⟩)] at er;simp only at aa ad;have ep:=Zi1 kW kH kP p b ai (by simp only[VW,inB] at af ⊢;omega) aa (by omega);have ab:=ZcP hv;have ag:((ZU (Zs.mk kW kH kP) p).filterMap X7).length≤255:=by
  have:=Kn X7 (ZU (Zs.mk kW kH kP) p);rw[ad,WD] at this;rw[ad];omega
 rw[← Zfr,← ad] at ep;unfold Zel;generalize (ZU (Zs.mk kW kH kP) p).filterMap X7=L at ep ab ag ⊢;clear hv hb ai af ad aa;obtain⟨o,a,n,t,ks⟩:=p;rw[Ze.enc_mk] at ev ep ⊢;refine cE ?_;simp +contextual -implicitDefEqProofs (maxSteps:=10^7) only[go_sem,seval,↓gZ,ZfS,ev,ep,er];refine LO (α:=Nat) (fun i=>[(9,.d (J (i:Int))),(7,.d (J (QT ((L.take i).filterMap (Jt Zj)))))]) (fun _=>[]) (fun i=>i≤L.length) (fun i=>L.length-i) 0 (by omega) ?_;intro i hi ih;by_cases ah:i<L.length
 ·obtain⟨x,hx⟩:=Zl ah;have hw:=Zh (k:=i) (by omega);have hm:=Za1 (f:=Jt Zj) hx;have ak:=ab x (Kb hx);have ha:=ZdN (l:=(L.take i).filterMap (Jt Zj)) (fun c hc=>by
   obtain⟨d,hd,ae⟩:=Ls.1 hc;unfold Jt at ae;split at ae
   ·cases ae;exact ab c (K8 hd)
   ·cases ae)
  have an:((L.take i).filterMap (Jt Zj)).length≤i:=Kt (Kn _ _) (by simp;omega);have al:=JF ak;obtain⟨X,Y,W,H⟩:=x;simp only at al;have w0:=wi (W*H) (by omega) (by omega);have w1:=wi (QT ((L.take i).filterMap (Jt Zj))+W*H) (by omega) (by omega);have es:=ZcX X Y W H Zj;simp only[Jt] at hm;by_cases ho:W<Zj∨H<Zj
  ·rw[Kl ho] at hm;rw[Kh (show ¬(Zj≤W∧Zj≤H) by omega)] at es;simp +contextual -implicitDefEqProofs (maxSteps:=10^7) only[go_sem,seval,↓gZ,hx,ah,hw,es,w0,w1];refine ih (i+1) _ (by omega) (by omega) ?_;simp +contextual -implicitDefEqProofs (maxSteps:=10^7) only[go_sem,seval,↓gZ,hm,UP,Option.toList,QT]
   first | rfl | (simp;done) | (simp;rfl)
  ·rw[Ki ho] at hm;rw[Ke (show Zj≤W∧Zj≤H by omega)] at es;simp +contextual -implicitDefEqProofs (maxSteps:=10^7) only[go_sem,seval,↓gZ,hx,ah,hw,es];refine ih (i+1) _ (by omega) (by omega) ?_;simp +contextual -implicitDefEqProofs (maxSteps:=10^7) only[go_sem,seval,↓gZ,hm,Option.toList,KJ]
 ·have:i=L.length:=by omega
  subst this;simp +contextual -implicitDefEqProofs (maxSteps:=10^7) only[go_sem,seval,↓gZ];simp
def Vo:List Pane→List Int→List Zc→List Zc→Option (List Zc×List Zc)
 | p :: ps,c :: us,o,d=>if c=0 then Vo ps us o d else if Xe p c false o=true then Vo ps us (XS o p c) (Yw p c d) else none
 | [],_,o,d=>some (o,d)
 | _,[],o,d=>some (o,d)
theorem Zjv {ps:List Pane} {us:List Int} {o d:List Zc} {k:Nat} {p:Pane} {c:Int} (hp:ps[k]?=some p) (hu:us[k]?=some c):Vo (ps.drop k) (us.drop k) o d=if c=0 then Vo (ps.drop (k+1)) (us.drop (k+1)) o d else if Xe p c false o=true then Vo (ps.drop (k+1)) (us.drop (k+1)) (XS o p c) (Yw p c d) else none:=by
 obtain⟨h1,h2⟩:=Kc.1 hp;obtain⟨h3,h4⟩:=Kc.1 hu;rw[Ku h1,h2,Ku h3,h4,Vo]
theorem ZsW {ps:List Pane} {us:List Int} {o d:List Zc}:Vo (ps.drop ps.length) us o d=some (o,d):=by
 rw[List.drop_length];unfold Vo;rfl
theorem ZlH {l:List Zc} {p:Pane} {c hi:Int} (hc:0≤c) (h:∀ x∈l,x.Count≤hi):∀ y∈XS l p c,0≤y.Count∧y.Count≤hi:=fun y hy=>by
 obtain⟨x,hx,e⟩:=Ls.1 hy;have:=h x hx;unfold Zhg at e;split at e
 ·split at e
  ·cases e;simp only;omega
  ·cases e
 ·split at e
  ·cases e;omega
  ·cases e
theorem Zkp {p:Pane} {c hi:Int} (hc:0≤c) (hh:0≤hi):∀ {l:List Zc},(∀ x∈l,0≤x.Count∧x.Count≤hi)→∀ y∈Yw p c l,0≤y.Count∧y.Count≤hi+c
 | [],h,y,hy=>by simp[Yw] at hy;subst hy;simp only;omega
 | x :: l,h,y,hy=>by
  have h1:=h x (by simp);unfold Yw at hy;split at hy
  ·rcases Kg.1 hy with rfl | hy
   ·simp only;omega
   ·have:=h y (by simp[hy]);omega
  ·rcases Kg.1 hy with rfl | hy
   ·omega
   ·exact Zkp hc hh (fun z hz=>h z (by simp[hz])) y hy
def ZrK (p:Ze):Bool:=match Xz p with
 | some b=>Zju b
 | none=>false
def ZdW (s:Zm) (e:Zx):Option Zm:=
 match s.Stock[(QB 0 s.Stock e.label).toNat]? with
 | none=>none
 | some x=>match ZbO s.Stock e.label ⟨x.W,x.H,s.Opn.map Zc.Pane⟩ e.plan 5 with
  | none=>none
  | some R=>if ZrK e.plan=true then
    match Vo (s.Opn.map Zc.Pane) (Zck ⟨x.W,x.H,s.Opn.map Zc.Pane⟩ e.plan) s.Opn s.Done with
    | none=>none
    | some (o,d)=>some ⟨R,o,d,s.Lost+QT (Zel ⟨x.W,x.H,s.Opn.map Zc.Pane⟩ e.plan 5),s.Came⟩
   else none
def shV:Option Zm→AV×List Zn
 | some s=>(.tup [.agg [.own 0,.own 1,.own 2,(.d (J (s.Lost))),(.d (J (s.Came)))],(.d (.bool true))],[.row 4 (s.Stock.map Zb.enc) true false,.row 5 (s.Opn.map Zc.enc) true false,.row 5 (s.Done.map Zc.enc) true false])
 | none=>(.tup [.agg [.own 0,.own 1,.own 2,(.d (J 0)),(.d (J 0))],(.d (.bool false))],[.row 4 [] true false,.row 5 [] true false,.row 5 [] true false])
theorem ZsX {l:List Zb} {n:Int} {k:Zs} {p:Ze} {Zj:Int} (h:QB 0 l n<0):ZbO l n k p Zj=none:=by
 unfold ZbO;rw[Ki (fun h'=>by omega)]
theorem Zkq {l:List Zb} {n:Int} {k:Zs} {p:Ze} {Zj:Int} {R:List Zb} (h:ZbO l n k p Zj=some R):Q6 k p=true∧VSt R∧VSt l:=by
 unfold ZbO at h;split at h
 ·rename_i hc;split at h
  ·rename_i x hx;split at h
   ·rename_i hg;cases h;exact⟨hg.1.1,hg.2,hc.1⟩
   ·cases h
  ·cases h
 ·cases h
def WSh (s:Zm):Prop:=VSt s.Stock∧s.Opn.length≤9∧(∀ x∈s.Opn,VP x.Pane∧0≤x.Count∧x.Count≤24)∧Zbj s.Done∧-1≤s.Lost∧s.Lost≤900001∧-1≤s.Came∧s.Came≤900001
theorem Zkr {s:Zm} (h:ZE s):WSh s:=⟨h.1,by have:=h.2.1.1;omega,fun x hx=>by have:=QO h.2.1 x hx;exact⟨this.1,by omega,this.2.2⟩,h.2.2.1,by have:=h.2.2.2;omega,by have:=h.2.2.2;omega,by have:=h.2.2.2;omega,by have:=h.2.2.2;omega⟩
theorem Zug {s:Zm} (h:WSh s):SmS s:=by
 obtain⟨h1,h2,_,h3,h4,h5,h6,h7⟩:=h;exact⟨⟨by have:=h1.1;omega,fun x hx=>⟨(ZcH h1).2 x hx,Zkl (Z3 h1.2 x hx)⟩,by omega,by have:=h3.1;omega⟩,by have:=h1.1;omega,by omega,by omega,by omega,by omega⟩
theorem ZrL (sS:List Zb) (sO sD:List Zc) (sL sC:Int) (eK eL eX eY eW eH af ag:Int) (ah:Bool) (ai eC eo ea ep:Int) (et:Bool) (ek:List Ze) (hv:WSh (Zm.mk sS sO sD sL sC)):Zd Xs Ms Zak [(.d (.agg [.sl (sS.map Zb.enc),.sl (sO.map Zc.enc),.sl (sD.map Zc.enc),J sL,J sC])),(.d (.agg [J eK,J eL,J eX,J eY,J eW,J eH,J af,J ag,.bool ah,J ai,J eC,J eo,J ea,J ep,.bool et,.sl (ek.map Ze.enc)]))] []=some (shV (ZdW (Zm.mk sS sO sD sL sC) (Zx.mk eK eL (Box.mk eX eY eW eH) (Zc.mk (Pane.mk af ag ah ai) eC) (Ze.mk eo ea ep et ek)))):=by
 obtain⟨⟨h1,h2,h3,h4⟩,h5,h6,h7,h8,h9⟩:=Zug hv;simp only at h1 h2 h3 h4 h5 h6 h7 h8 h9;have ao:=hv.2.1;have hO:=hv.2.2.1;have hD:=hv.2.2.2.1;simp only at hO hD ao;have ay:=hD.1;have e1:=Yv sS eL (by omega);by_cases hf:QB 0 sS eL<0
 ·have ec:ZdW (Zm.mk sS sO sD sL sC) (Zx.mk eK eL (Box.mk eX eY eW eH) (Zc.mk (Pane.mk af ag ah ai) eC) (Ze.mk eo ea ep et ek))=none:=by
   unfold ZdW;simp only;split
   ·rfl
   ·rw[ZsX hf]
  rw[ec];unfold shV;refine cE ?_;simp +contextual -implicitDefEqProofs (maxSteps:=10^7) only[go_sem,seval,↓gZ,UF,e1,hf]
 ·obtain⟨a,x,ha,hx⟩:=ZbP (by omega:0≤QB 0 sS eL);rw[ha] at e1;have al:¬(a:Int)<0:=by omega
  have az:=(Kc.1 hx).1;have e3:=ZrF sS eL x.W x.H (sO.map Zc.Pane) (.mk eo ea ep et ek) 5 (by have:=hv.1.1;simp only at this;omega) (fun y hy=>by
   have:=Z3 hv.1.2 y hy;exact⟨Kt this.1.2.2.2.2.2.2 (by decide),Zkl this⟩) (by simp;omega)
  have ap:ZdW (Zm.mk sS sO sD sL sC) (Zx.mk eK eL (Box.mk eX eY eW eH) (Zc.mk (Pane.mk af ag ah ai) eC) (Ze.mk eo ea ep et ek))=match ZbO sS eL ⟨x.W,x.H,sO.map Zc.Pane⟩ (.mk eo ea ep et ek) 5 with
   | none=>none
   | some R=>if ZrK (.mk eo ea ep et ek)=true then
     match Vo (sO.map Zc.Pane) (Zck ⟨x.W,x.H,sO.map Zc.Pane⟩ (.mk eo ea ep et ek)) sO sD with
     | none=>none
     | some (o,d)=>some ⟨R,o,d,sL+QT (Zel ⟨x.W,x.H,sO.map Zc.Pane⟩ (.mk eo ea ep et ek) 5),sC⟩
    else none:=by
   unfold ZdW;simp only[ha,KA,hx]
  rw[ap];clear ap;obtain⟨xL,xW,xH,xF⟩:=x;simp only at e3 ⊢;have e2:=ZvU sS sO sD sL sC a xL xW xH xF hx h3 h1;cases hcs:ZbO sS eL ⟨xW,xH,sO.map Zc.Pane⟩ (.mk eo ea ep et ek) 5 with
  | none=>
   rw[hcs] at e3;unfold Zub at e3;simp only;unfold shV;rw[Ze.enc_mk] at e3;refine cE ?_;simp +contextual -implicitDefEqProofs (maxSteps:=10^7) only[go_sem,seval,↓gZ,UF,e1,al,e2,e3]
  | some R=>
   obtain⟨aa,a0,_⟩:=Zkq hcs;rw[hcs] at e3;unfold Zub at e3;simp only;obtain⟨b,hb,au,a1,am,av,aw⟩:=QR aa;have e4:=ZfG b;rw[← au] at e4;have hh:ZrK (.mk eo ea ep et ek)=Zju b:=by unfold ZrK;rw[hb]
   rw[hh];have e5:=ZrJ xW xH (sO.map Zc.Pane) (.mk eo ea ep et ek) 5 aa (by omega) (by omega);have e6:=ZvV xW xH (sO.map Zc.Pane) (.mk eo ea ep et ek) aa;have hu:=Zd2 aa;have ax:=ZdN (l:=Zel ⟨xW,xH,sO.map Zc.Pane⟩ (.mk eo ea ep et ek) 5) (fun c hc=>by
    obtain⟨z,hz,aj⟩:=Ls.1 hc;unfold Jt at aj;split at aj
    ·cases aj;exact ZcP aa c hz
    ·cases aj)
   have a2:(Zel ⟨xW,xH,sO.map Zc.Pane⟩ (.mk eo ea ep et ek) 5).length≤255:=by
    refine Kt (Kn _ _) (Kt (Kn _ _) ?_);rw[aw,WD];exact am
   generalize QT (Zel ⟨xW,xH,sO.map Zc.Pane⟩ (.mk eo ea ep et ek) 5)=A at e5 ax ⊢;generalize Zck ⟨xW,xH,sO.map Zc.Pane⟩ (.mk eo ea ep et ek)=us at e6 hu ⊢;rw[Ze.enc_mk] at e3 e4 e5 e6;simp only[Kv] at hu;have u1:=wi (sL+A) (by omega) (by omega);have r1:sO.length*40≤140737488355328∧sO.length≤140737488355328:=by omega
   have r2:sD.length*40≤140737488355328∧sD.length≤140737488355328:=by omega
   cases hhb:Zju b with
   | false=>
    rw[hhb] at e4;rw[Ki (by simp)];unfold shV;refine cE ?_;simp +contextual -implicitDefEqProofs (maxSteps:=10^7) only[go_sem,seval,↓gZ,UF,e1,al,e2,e3,e4]
   | true=>
    rw[hhb] at e4;rw[Kl rfl];refine cE ?_;simp +contextual -implicitDefEqProofs (maxSteps:=10^7) only[go_sem,seval,↓gZ,UF,Zq2,e1,al,e2,e3,e4,e5,e6,u1,r1,r2];refine LO (α:=Nat×List Zc×List Zc) (fun s=>[(12,.d (J (s.1:Int)))]) (fun s=>[(5,.row 5 (s.2.1.map Zc.enc) true false),(6,.row 5 (s.2.2.map Zc.enc) true false)]) (fun s=>s.1≤us.length∧Vo ((sO.map Zc.Pane).drop s.1) (us.drop s.1) s.2.1 s.2.2=Vo (sO.map Zc.Pane) us sO sD∧s.2.1.length≤9∧s.2.2.length≤8+s.1∧(∀ x∈s.2.1,0≤x.Count∧x.Count≤24)∧(∀ x∈s.2.2,0≤x.Count∧x.Count≤24+255*(s.1:Int))) (fun s=>us.length-s.1) (0,sO,sD) ⟨by simp,by simp,ao,by simp only;omega,fun x hx=>by have:=hO x hx;omega,fun x hx=>by have:=QO hD x hx;simp only;omega⟩ ?_
    intro⟨i,o,d⟩ ⟨hi,hp,ho8,hd8,hoc,hdc⟩ ih;simp only at hi hp ho8 hd8 hoc hdc;by_cases ab:i<us.length
    ·obtain⟨c,hc⟩:=Zl ab;have an:i<sO.length:=by omega
     obtain⟨y,hy⟩:=Zl an;have hw:=Zh (k:=i) (by omega);have aq:=hu.2 c (Kb hc);have ak:(sO.map Zc.Pane)[i]?=some y.Pane:=by rw[Lc,hy];rfl
     rw[Zjv ak hc] at hp;obtain⟨⟨W,H,T,K⟩,C⟩:=y;simp only at hp ak;by_cases ad:c=0
     ·rw[Kl ad] at hp;simp +contextual -implicitDefEqProofs (maxSteps:=10^7) only[go_sem,seval,↓gZ,ab,hc,ad,hw];refine ih (i+1,o,d) _ ⟨by simp only;omega,hp,ho8,by simp only;omega,hoc,fun x hx=>by have:=hdc x hx;simp only;omega⟩ (by simp only;omega) ?_;simp +contextual -implicitDefEqProofs (maxSteps:=10^7) only[go_sem,seval,↓gZ]
     ·rw[Ki ad] at hp;have et:=Zhh o W H T K c (by omega) (fun x hx=>by have:=hoc x hx;unfold R64;omega);have ea:=Zet d W H T K c (by omega) (fun x hx=>by have:=hdc x hx;unfold R64;omega);by_cases ae:Xe ⟨W,H,T,K⟩ c false o=true
      ·rw[Kl ae] at hp;rw[ae] at et;simp +contextual -implicitDefEqProofs (maxSteps:=10^7) only[go_sem,seval,↓gZ,ab,hc,ad,hw,an,hy,ak,et,ea];refine ih (i+1,XS o ⟨W,H,T,K⟩ c,Yw ⟨W,H,T,K⟩ c d) _ ⟨by simp only;omega,hp,Kt (Kn _ _) ho8,Kt (Zc4 _ _ _) (by simp only;omega),ZlH aq.1 (fun x hx=>(hoc x hx).2),fun x hx=>?_⟩ (by simp only;omega) ?_
       ·have:=Zkp aq.1 (by omega) hdc x hx;simp only;omega
       ·simp +contextual -implicitDefEqProofs (maxSteps:=10^7) only[go_sem,seval,↓gZ]
      ·rw[Ki ae] at hp;simp only[LB] at ae;rw[ae] at et;simp +contextual -implicitDefEqProofs (maxSteps:=10^7) only[go_sem,seval,↓gZ,ab,hc,ad,hw,an,hy,ak,et,ea];rw[← hp];rfl
    ·have:i=sO.length:=by omega
     subst this;have ar:=@ZsW (sO.map Zc.Pane) (us.drop sO.length) o d;rw[Kv] at ar;rw[ar] at hp;rw[← hp];simp +contextual -implicitDefEqProofs (maxSteps:=10^7) only[go_sem,seval,↓gZ,ab];rfl
end Go.Proofs.YtbpekaejmjlmfaaGreat
