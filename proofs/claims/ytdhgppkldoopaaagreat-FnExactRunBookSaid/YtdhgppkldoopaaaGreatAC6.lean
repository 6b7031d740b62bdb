/- Own text. -/
import Derived.Test.YtdhgppkldoopaaaGreatACode
import Derived.Test.YtdhgppkldoopaaaGreatAbsParts
import Derived.Test.YtdhgppkldoopaaaGreatAC5
import Derived.Test.YtdhgppkldoopaaaGreatAbsOkD
namespace Go.Proofs.YtdhgppkldoopaaaGreat
open Go Go.Abs Go.Abs.E Go.Abs.L
open Nat (reduceMul reduceSub reduceLeDiff reduceEqDiff)
open Int (reduceLE reduceEq reduceToNat reduceNeg)
set_option linter.unusedSimpArgs false
set_option linter.unusedVariables false
set_option maxRecDepth 20000
set_option maxHeartbeats 4000000
theorem ZfO (l:List Zc) (pW pH:Int) (pT:Bool) (pK:Int) (c:Int) (hl:l.length≤1048576) (hc:∀ x∈l,R64 (x.Count-c)):Zf Xs Ms Vk [(.d (.sl (l.map Zc.enc))),(.d (.agg [J pW,J pH,.bool pT,J pK])),(.d (J c))] [] =
  some (.tup [.own 0,(.d (.bool (Q3 (Pane.mk pW pH pT pK) c false l)))],[.row 5 ((Xz l (Pane.mk pW pH pT pK) c).map Zc.enc) true false]):=by
 refine cE ?_;simp +contextual -implicitDefEqProofs (maxSteps:=10^7) only[go_sem,seval,↓gZ,ZcV];refine LO (α:=Nat×Bool) (fun s=>[(10,.d (J (s.1:Int))),(9,.d (.bool s.2))]) (fun s=>[(0,.row 5 ((Xz (l.take s.1) (Pane.mk pW pH pT pK) c).map Zc.enc) true false)]) (fun s=>s.1≤l.length∧Q3 (Pane.mk pW pH pT pK) c s.2 (l.drop s.1)=Q3 (Pane.mk pW pH pT pK) c false l) (fun s=>l.length-s.1) (0,false) ⟨by simp,by simp⟩ ?_;intro⟨i,b⟩ ⟨hi,hp⟩ ih;simp only at hi hp;by_cases aa:i<l.length
 ·obtain⟨x,hx⟩:=Zr aa;have hw:=Zj (k:=i) (by omega);have hm:=ZuW (Pane.mk pW pH pT pK) c hx;have ad:(Xz (l.take i) (Pane.mk pW pH pT pK) c).length≤i:=Kv (Ki _ _) (by simp;omega);have hr:((Xz (l.take i) (Pane.mk pW pH pT pK) c).length+1)*40≤140737488355328∧(Xz (l.take i) (Pane.mk pW pH pT pK) c).length≤140737488355327:=by omega
  have ab:=hc x (Kb hx);rw[Ztz hx] at hp;obtain⟨⟨W,H,T,K⟩,C⟩:=x;simp only[ZfN] at hm hp ab;have u0:=wi (C-c) ab.1 ab.2;by_cases he:(⟨W,H,T,K⟩:Pane)=(Pane.mk pW pH pT pK)
  ·rw[Kl he] at hm hp;have ae:=he;simp only[Pane.mk.injEq] at he;by_cases h0:0<C-c
   ·have h1:0≤C-c:=by omega
    rw[Kl h0] at hm;rw[Kg h1] at hp;simp +contextual -implicitDefEqProofs (maxSteps:=10^7) only[go_sem,seval,↓gZ,hx,aa,hw,he,u0,h0,h1,hr];refine ih (i+1,true) _ ⟨by simp only;omega,hp⟩ (by simp only;omega) ?_;simp +contextual -implicitDefEqProofs (maxSteps:=10^7) only[go_sem,seval,↓gZ,hm,Option.toList_some];try (simp[Zc.enc,he];done)
   ·rw[Kj h0] at hm;by_cases h1:0≤C-c
    ·rw[Kg h1] at hp;simp +contextual -implicitDefEqProofs (maxSteps:=10^7) only[go_sem,seval,↓gZ,hx,aa,hw,he,u0,h0,h1,hr];refine ih (i+1,true) _ ⟨by simp only;omega,hp⟩ (by simp only;omega) ?_;simp +contextual -implicitDefEqProofs (maxSteps:=10^7) only[go_sem,seval,↓gZ,hm,Option.toList_none,Ln]
    ·rw[Kh h1] at hp;simp +contextual -implicitDefEqProofs (maxSteps:=10^7) only[go_sem,seval,↓gZ,hx,aa,hw,he,u0,h0,h1,hr];refine ih (i+1,false) _ ⟨by simp only;omega,hp⟩ (by simp only;omega) ?_;simp +contextual -implicitDefEqProofs (maxSteps:=10^7) only[go_sem,seval,↓gZ,hm,Option.toList_none,Ln]
  ·rw[Kj he] at hm hp;simp only[Pane.mk.injEq] at he;by_cases h0:0<C
   ·rw[Kl h0] at hm;simp +contextual -implicitDefEqProofs (maxSteps:=10^7) only[go_sem,seval,↓gZ,hx,aa,hw,he,h0,hr];refine ih (i+1,b) _ ⟨by simp only;omega,hp⟩ (by simp only;omega) ?_;simp +contextual -implicitDefEqProofs (maxSteps:=10^7) only[go_sem,seval,↓gZ,hm,Option.toList_some];try (simp[Zc.enc];done)
   ·rw[Kj h0] at hm;simp +contextual -implicitDefEqProofs (maxSteps:=10^7) only[go_sem,seval,↓gZ,hx,aa,hw,he,h0,hr];refine ih (i+1,b) _ ⟨by simp only;omega,hp⟩ (by simp only;omega) ?_;simp +contextual -implicitDefEqProofs (maxSteps:=10^7) only[go_sem,seval,↓gZ,hm,Option.toList_none,Ln]
 ·have:i=l.length:=by omega
  subst this;rw[ZuV] at hp;simp +contextual -implicitDefEqProofs (maxSteps:=10^7) only[go_sem,seval,↓gZ,hp];simp
theorem Zx7 (l:List Zc) (i:Nat) (W H:Int) (T:Bool) (K C:Int):(l.map Zc.enc).set i (.agg [J W,J H,.bool T,J K,J C])=(l.set i ⟨⟨W,H,T,K⟩,C⟩).map Zc.enc:=(LJ (f:=Zc.enc) (l:=l) (i:=i) (a:=⟨⟨W,H,T,K⟩,C⟩)).symm
theorem ZcH (l:List Zc) (pW pH:Int) (pT:Bool) (pK:Int) (c:Int) (hl:l.length≤1048576) (hc:∀ x∈l,R64 (x.Count+c)):Zf Xs Ms Wm [(.d (.sl (l.map Zc.enc))),(.d (.agg [J pW,J pH,.bool pT,J pK])),(.d (J c))] [] =
  some (.own 0,[.row 5 ((Yb (Pane.mk pW pH pT pK) c l).map Zc.enc) true false]):=by
 have ag:l.length*40≤140737488355328∧l.length≤140737488355328:=by omega
 have ah:(l.length+1)*40≤140737488355328∧l.length≤140737488355327:=by omega
 refine cE ?_;simp +contextual -implicitDefEqProofs (maxSteps:=10^7) only[go_sem,seval,↓gZ,Zeg,ag];refine LO (α:=Nat) (fun k=>[(8,.d (J (k:Int)))]) (fun _=>[]) (fun k=>k≤l.length∧(Pane.mk pW pH pT pK)∉(l.take k).map Zc.Pane) (fun k=>l.length-k) 0 ⟨by simp,by simp⟩ ?_;intro k ⟨hk,hp⟩ ih;by_cases aa:k<l.length
 ·obtain⟨x,hx⟩:=Zr aa;have hw:=Zj (k:=k) (by omega);have ab:=hc x (Kb hx);have ad:=JN hx;have ae:=Zsj (Pane.mk pW pH pT pK) c l k x hx;obtain⟨⟨W,H,T,K⟩,C⟩:=x;simp only at ab ad ae;have u0:=wi (C+c) ab.1 ab.2;by_cases he:(⟨W,H,T,K⟩:Pane)=(Pane.mk pW pH pT pK)
  ·rw[ae he hp];have af:=he;simp only[Pane.mk.injEq] at he;simp +contextual -implicitDefEqProofs (maxSteps:=10^7) only[go_sem,seval,↓gZ,hx,aa,hw,he,u0,Zx7];try (simp[he];done)
  ·have af:=he;simp only[Pane.mk.injEq] at he;simp +contextual -implicitDefEqProofs (maxSteps:=10^7) only[go_sem,seval,↓gZ,hx,aa,hw,he];refine ih (k+1) _ ⟨by omega,?_⟩ (by omega) ?_
   ·rw[ad,Ke];intro h;rcases h with h | h
    ·exact hp h
    ·exact af (KL.1 h).symm
   ·simp +contextual -implicitDefEqProofs (maxSteps:=10^7) only[go_sem,seval,↓gZ]
 ·have:k=l.length:=by omega
  subst this;rw[Lo (Kk _)] at hp;rw[Zsk (Pane.mk pW pH pT pK) c l hp];simp +contextual -implicitDefEqProofs (maxSteps:=10^7) only[go_sem,seval,↓gZ,ah];try (simp[Zc.enc];done)
theorem Zqz (l:List Zb) (qL qW qH:Int) (qF:List Box) (hl:l.length≤100000) (hF:∀ x∈l,x.Flaws.length≤1048576) (hq:qF.length≤1048576):Zf Xs Ms U3 [(.d (.sl (l.map Zb.enc))),(.d (.agg [J qL,J qW,J qH,.sl (qF.map Box.enc)]))] [] =
  some (.own 0,[.row 4 ((Qq (Zb.mk qL qW qH qF) l).map Zb.enc) true false]):=by
 have eq:=YF qL qW qH qF hq;refine cE ?_;simp +contextual -implicitDefEqProofs (maxSteps:=10^7) only[go_sem,seval,↓gZ,Zen];refine LO (α:=Nat×Bool×List Zb) (fun s=>[(7,.d (J (s.1:Int))),(6,.d (.bool s.2.1))]) (fun s=>[(0,.row 4 (s.2.2.map Zb.enc) true false)]) (fun s=>s.1≤l.length∧s.2.2++(if s.2.1 then l.drop s.1 else Qq (Zb.mk qL qW qH qF) (l.drop s.1))=Qq (Zb.mk qL qW qH qF) l∧s.2.2.length≤s.1+s.2.1.toNat) (fun s=>l.length-s.1) (0,false,[]) ⟨by simp,by simp,by simp⟩ ?_;intro⟨i,b,o⟩ ⟨hi,hp,ho⟩ ih;simp only at hi hp ho;have hb:=Bool.toNat_le b;by_cases aa:i<l.length
 ·obtain⟨x,hx⟩:=Zr aa;have hw:=Zj (k:=i) (by omega);have hr:(o.length+1)*48≤140737488355328∧o.length≤140737488355327:=by omega
  have ab:∀ n:Nat,n=o.length+1→(n+1)*48≤140737488355328∧n≤140737488355327:=fun n hn=>by omega
  have ab:=ab _ rfl;have ad:o.length≤140737488355326:=by omega
  have e:=YF x.Label x.W x.H x.Flaws (hF x (Kb hx));rw[Zor hx] at hp;have hd:l.drop i=x :: l.drop (i+1):=by
   obtain⟨h1,h2⟩:=Ka.1 hx;rw[Kw h1,h2]
  obtain⟨L,W,H,F⟩:=x;simp only at e hp;cases b with
  | true=>
   simp only[Bool.toNat_true] at ho;rw[Kl rfl] at hp;simp +contextual -implicitDefEqProofs (maxSteps:=10^7) only[go_sem,seval,↓gZ,hx,aa,hw,e,hr];refine ih (i+1,true,o++[⟨L,W,H,F⟩]) _ ⟨by simp only;omega,?_,by simp;omega⟩ (by simp only;omega) ?_
   ·rw[← hp,hd];simp
   ·simp +contextual -implicitDefEqProofs (maxSteps:=10^7) only[go_sem,seval,↓gZ];try (simp[Zb.enc];done)
  | false=>
   simp only[Bool.toNat_false] at ho;rw[Kj (by simp)] at hp;by_cases hc:qL<L
   ·rw[Kl hc] at hp;simp +contextual -implicitDefEqProofs (maxSteps:=10^7) only[go_sem,seval,↓gZ,hx,aa,hw,e,eq,hc,hr,ab,ad];refine ih (i+1,true,o++[(Zb.mk qL qW qH qF),⟨L,W,H,F⟩]) _ ⟨by simp only;omega,?_,by simp;omega⟩ (by simp only;omega) ?_
    ·rw[← hp,hd];simp
    ·simp +contextual -implicitDefEqProofs (maxSteps:=10^7) only[go_sem,seval,↓gZ];try (simp[Zb.enc];done)
   ·rw[Kj hc] at hp;simp +contextual -implicitDefEqProofs (maxSteps:=10^7) only[go_sem,seval,↓gZ,hx,aa,hw,e,hc,hr];refine ih (i+1,false,o++[⟨L,W,H,F⟩]) _ ⟨by simp only;omega,?_,by simp;omega⟩ (by simp only;omega) ?_
    ·rw[← hp];simp
    ·simp +contextual -implicitDefEqProofs (maxSteps:=10^7) only[go_sem,seval,↓gZ];try (simp[Zb.enc];done)
 ·have:i=l.length:=by omega
  subst this;have hr:(o.length+1)*48≤140737488355328∧o.length≤140737488355327:=by omega
  cases b with
  | true=>
   simp at hp;simp +contextual -implicitDefEqProofs (maxSteps:=10^7) only[go_sem,seval,↓gZ];rw[hp]
  | false=>
   simp[Qq] at hp;simp +contextual -implicitDefEqProofs (maxSteps:=10^7) only[go_sem,seval,↓gZ,eq,hr];rw[← hp];try (simp[Zb.enc];done)
def Va (p:Zb) (l:List Zb):Prop:=(VSt l∧VPc p)∧VSt (Qq p l)
instance (p:Zb) (l:List Zb):Decidable (Va p l):=by unfold Va;infer_instance
theorem ZcI (l:List Zb) (qL qW qH:Int) (qF:List Box) (hl:l.length≤100000) (hS:∀ x∈l,x.Flaws.length≤1048576∧R64 x.W∧R64 x.H) (hq:qF.length≤1048576∧R64 qW∧R64 qH):Zf Xs Ms Wl [(.d (.sl (l.map Zb.enc))),(.d (.agg [J qL,J qW,J qH,.sl (qF.map Box.enc)]))] [] =
  some (.tup [.own 0,(.d (.bool (decide (Va (Zb.mk qL qW qH qF) l))))],[.row 4 ((if Va (Zb.mk qL qW qH qF) l then Qq (Zb.mk qL qW qH qF) l else []).map Zb.enc) true false]):=by
 have e1:=Y9 l (by omega) (fun x hx=>⟨by have:=(hS x hx).1;omega,(hS x hx).2⟩);have e2:=Zfa qL qW qH qF (by omega) hq.2.1 hq.2.2;have e3:=Zqz l qL qW qH qF hl (fun x hx=>(hS x hx).1) hq.1;have e4:=Y9 (Qq (Zb.mk qL qW qH qF) l) (by rw[Zln];omega) (fun x hx=>by
  rcases Zq0 _ _ _ hx with rfl | hx
  ·exact⟨by simp only;omega,hq.2⟩
  ·exact⟨by have:=(hS x hx).1;omega,(hS x hx).2⟩)
 refine cE ?_;by_cases v1:VSt l
 ·rw[Kg v1] at e1;by_cases v2:VPc (Zb.mk qL qW qH qF)
  ·rw[Kg v2] at e2;by_cases v3:VSt (Qq (Zb.mk qL qW qH qF) l)
   ·rw[Kg v3] at e4;have h:Va (Zb.mk qL qW qH qF) l:=⟨⟨v1,v2⟩,v3⟩
    rw[Kg h,Kl h];simp +contextual -implicitDefEqProofs (maxSteps:=10^7) only[go_sem,seval,↓gZ,Wv,e1,e2,e3,e4]
   ·rw[Kh v3] at e4;have h:¬Va (Zb.mk qL qW qH qF) l:=fun h=>v3 h.2;rw[Kh h,Kj h];simp +contextual -implicitDefEqProofs (maxSteps:=10^7) only[go_sem,seval,↓gZ,Wv,e1,e2,e3,e4]
  ·rw[Kh v2] at e2;have h:¬Va (Zb.mk qL qW qH qF) l:=fun h=>v2 h.1.2;rw[Kh h,Kj h];simp +contextual -implicitDefEqProofs (maxSteps:=10^7) only[go_sem,seval,↓gZ,Wv,e1,e2]
 ·rw[Kh v1] at e1;have h:¬Va (Zb.mk qL qW qH qF) l:=fun h=>v1 h.1.1;rw[Kh h,Kj h];simp +contextual -implicitDefEqProofs (maxSteps:=10^7) only[go_sem,seval,↓gZ,Wv,e1]
theorem Zsl (l:List Zb) (hl:l.length≤1048576) (hF:∀ x∈l,x.Flaws.length≤1048576):Zf Xs Ms YS [(.d (.sl (l.map Zb.enc))),(.d (J ((-1))))] []=some (.own 0,[.row 4 (l.map Zb.enc) true false]):=by
 refine cE ?_;simp +contextual -implicitDefEqProofs (maxSteps:=10^7) only[go_sem,seval,↓gZ,Zck];refine LO (α:=Nat) (fun i=>[(6,.d (J (i:Int)))]) (fun i=>[(0,.row 4 ((l.take i).map Zb.enc) true false)]) (fun i=>i≤l.length) (fun i=>l.length-i) 0 (by omega) ?_;intro i hi ih;by_cases aa:i<l.length
 ·obtain⟨x,hx⟩:=Zr aa;have hw:=Zj (k:=i) (by omega);have ab:¬(i:Int)=-1:=by omega
  have hm:l.take (i+1)=l.take i++[x]:=by rw[KK,hx];simp
  have ad:(l.take i).length≤i:=by simp;omega
  have hr:((l.take i).length+1)*48≤140737488355328∧(l.take i).length≤140737488355327:=by omega
  have e:=YF x.Label x.W x.H x.Flaws (hF x (Kb hx));obtain⟨L,W,H,F⟩:=x;simp only at e;simp +contextual -implicitDefEqProofs (maxSteps:=10^7) only[go_sem,seval,↓gZ,hx,aa,hw,ab,e,hr];refine ih (i+1) _ (by omega) (by omega) ?_;simp +contextual -implicitDefEqProofs (maxSteps:=10^7) only[go_sem,seval,↓gZ,hm]
  first | rfl | (simp;done) | (simp;rfl)
 ·have:i=l.length:=by omega
  subst this;simp +contextual -implicitDefEqProofs (maxSteps:=10^7) only[go_sem,seval,↓gZ];simp
theorem Vg (sS:List Zb) (sO sD:List Zc) (sL sC:Int) (hs:Ub (Zs.mk sS sO sD sL sC)):Zf Xs Ms UU [(.d (.agg [.sl (sS.map Zb.enc),.sl (sO.map Zc.enc),.sl (sD.map Zc.enc),J sL,J sC]))] []=some (.agg [.own 0,.own 1,.own 2,(.d (J sL)),(.d (J sC))],[.row 4 (sS.map Zb.enc) true false,.row 5 (sO.map Zc.enc) true false,.row 5 (sD.map Zc.enc) true false]):=by
 obtain⟨h1,h2,h3,h4⟩:=hs;simp only at h1 h2 h3 h4;have e1:=Zsl sS h1 (fun x hx=>(h2 x hx).1);have r1:sO.length*40≤140737488355328∧sO.length≤140737488355328:=by omega
 have r2:sD.length*40≤140737488355328∧sD.length≤140737488355328:=by omega
 refine cE ?_;simp +contextual -implicitDefEqProofs (maxSteps:=10^7) only[go_sem,seval,↓gZ,Zee,ZqP,e1,r1,r2]
theorem ZtB (sS:List Zb) (sO sD:List Zc) (sL sC:Int) (a:Nat) (qL qW qH:Int) (qF:List Box) (hx:sS[a]?=some (Zb.mk qL qW qH qF)) (hl:sO.length≤1048576) (hS:sS.length≤1048576):Zf Xs Ms Zbw [(.d (.agg [.sl (sS.map Zb.enc),.sl (sO.map Zc.enc),.sl (sD.map Zc.enc),J sL,J sC])),(.d (J a))] []=some (.agg [(.d (J qW)),(.d (J qH)),.own 0],[.row 4 ((sO.map Zc.Pane).map Pane.enc) true false]):=by
 have aa:=(Ka.1 hx).1;refine cE ?_;simp +contextual -implicitDefEqProofs (maxSteps:=10^7) only[go_sem,seval,↓gZ,Zi7,hx,aa];refine LO (α:=Nat) (fun i=>[(6,.d (J (i:Int)))]) (fun i=>[(3,.row 4 (((sO.take i).map Zc.Pane).map Pane.enc) true false)]) (fun i=>i≤sO.length) (fun i=>sO.length-i) 0 (by omega) ?_;intro i hi ih;by_cases aa:i<sO.length
 ·obtain⟨x,hx⟩:=Zr aa;have hw:=Zj (k:=i) (by omega);have hm:=JN hx;have ab:(sO.take i).length≤i:=by simp;omega
  have hr:((sO.take i).length+1)*32≤140737488355328∧(sO.take i).length≤140737488355327:=by omega
  obtain⟨⟨W,H,T,K⟩,C⟩:=x;simp only at hm;simp +contextual -implicitDefEqProofs (maxSteps:=10^7) only[go_sem,seval,↓gZ,hx,aa,hw,hr];refine ih (i+1) _ (by omega) (by omega) ?_;simp +contextual -implicitDefEqProofs (maxSteps:=10^7) only[go_sem,seval,↓gZ,hm]
  first | rfl | (simp;done) | (simp;rfl)
 ·have:i=sO.length:=by omega
  subst this;simp +contextual -implicitDefEqProofs (maxSteps:=10^7) only[go_sem,seval,↓gZ];simp
def SmS (s:Zs):Prop:=Ub s∧s.Stock.length≤100000∧-1000000000≤s.Lost∧s.Lost≤1000000000∧-1000000000≤s.Came∧s.Came≤1000000000
theorem Zhe {s:Zs} (h:ZM s):SmS s:=⟨Zbp h,by have:=h.1.1;omega,by have:=h.2.2.2.1;omega,by have:=h.2.2.2.2.1;omega,by have:=h.2.2.2.2.2.1;omega,by have:=h.2.2.2.2.2.2.1;omega⟩
def I5 (n:Int):Prop:=-100000≤n∧n≤100000
theorem Zx8 {a b:Int} (ha:I5 a) (hb:I5 b) : -10000000000≤a*b∧a*b≤10000000000:=by
 unfold I5 at ha hb;have h1:a.natAbs≤100000:=by omega
 have h2:b.natAbs≤100000:=by omega
 have h3:(a*b).natAbs≤100000*100000:=by rw[Int.natAbs_mul];exact Nat.mul_le_mul h1 h2
 omega
theorem Zx9 {a:Int} (h:I5 a):R64 a:=by unfold I5 at h;unfold R64;omega
theorem ZiU (sS:List Zb) (sO sD:List Zc) (sL sC:Int) (eK eL eX eY eW eH aa ab:Int) (ad:Bool) (ae eC eo ea ep:Int) (et:Bool) (ek:List Zd) (hs:SmS (Zs.mk sS sO sD sL sC)) (hk:eK=0) (hW:I5 eW) (hH:I5 eH):Zf Xs Ms QU [(.d (.agg [.sl (sS.map Zb.enc),.sl (sO.map Zc.enc),.sl (sD.map Zc.enc),J sL,J sC])),(.d (.agg [J eK,J eL,J eX,J eY,J eW,J eH,J aa,J ab,.bool ad,J ae,J eC,J eo,J ea,J ep,.bool et,.sl (ek.map Zd.enc)]))] [] =
  some (.tup [.agg [.own 0,.d (.sl (sO.map Zc.enc)),.d (.sl (sD.map Zc.enc)),(.d (J sL)),(.d (J (sC+eW*eH)))],(.d (.bool (decide ((Va ⟨eL,eW,eH,[]⟩ sS∧eX=0)∧eY=0))))],[.row 4 ((if Va ⟨eL,eW,eH,[]⟩ sS then Qq ⟨eL,eW,eH,[]⟩ sS else []).map Zb.enc) true false]):=by
 obtain⟨⟨h1,h2,h3,h4⟩,h5,h6,h7,h8,h9⟩:=hs;simp only at h1 h2 h3 h4 h5 h6 h7 h8 h9;subst hk;have hm:=Zx8 hW hH;have e1:=XW sS eL (by omega);have e2:=ZcI sS eL eW eH [] h5 h2 ⟨by simp,Zx9 hW,Zx9 hH⟩;have u1:=wi (eW*eH) (by omega) (by omega);have u2:=wi (sC+eW*eH) (by omega) (by omega);simp only[KX] at e2;generalize (if Va ⟨eL,eW,eH,[]⟩ sS then Qq ⟨eL,eW,eH,[]⟩ sS else [])=R at e2 ⊢;by_cases v1:Va ⟨eL,eW,eH,[]⟩ sS
 ·rw[Kg v1] at e2;refine cE ?_;by_cases v2:eX=0
  ·simp +contextual -implicitDefEqProofs (maxSteps:=10^7) only[go_sem,seval,↓gZ,QV,e1,e2,u1,u2,v2]
   all_goals simp[v1]
  ·simp +contextual -implicitDefEqProofs (maxSteps:=10^7) only[go_sem,seval,↓gZ,QV,e1,e2,u1,u2,v2]
   all_goals simp
 ·rw[Kh v1] at e2;refine cE ?_;simp +contextual -implicitDefEqProofs (maxSteps:=10^7) only[go_sem,seval,↓gZ,QV,e1,e2,u1,u2,v1]
theorem ZnG (sS:List Zb) (sO sD:List Zc) (sL sC:Int) (eK eL eX eY eW eH aa ab:Int) (ad:Bool) (ae eC eo ea ep:Int) (et:Bool) (ek:List Zd) (hs:SmS (Zs.mk sS sO sD sL sC)) (hk:¬eK=0) (hf:Qu 0 sS eL<0):Zf Xs Ms QU [(.d (.agg [.sl (sS.map Zb.enc),.sl (sO.map Zc.enc),.sl (sD.map Zc.enc),J sL,J sC])),(.d (.agg [J eK,J eL,J eX,J eY,J eW,J eH,J aa,J ab,.bool ad,J ae,J eC,J eo,J ea,J ep,.bool et,.sl (ek.map Zd.enc)]))] [] =
  some (.tup [.agg [.own 0,.own 1,.own 2,(.d (J 0)),(.d (J 0))],(.d (.bool false))],[.row 4 [] true false,.row 5 [] true false,.row 5 [] true false]):=by
 have e1:=XW sS eL (by have:=hs.2.1;simp only at this;omega);refine cE ?_;simp +contextual -implicitDefEqProofs (maxSteps:=10^7) only[go_sem,seval,↓gZ,QV,e1,hk,hf]
theorem ZiV (sS:List Zb) (sO sD:List Zc) (sL sC:Int) (eK eL eX eY eW eH aa ab:Int) (ad:Bool) (ae eC eo ea ep:Int) (et:Bool) (ek:List Zd) (hs:SmS (Zs.mk sS sO sD sL sC)) (hk:eK=5) (a:Nat) (hf:Qu 0 sS eL=(a:Int)) (qL qW qH:Int) (qF:List Box) (hx:sS[a]?=some (Zb.mk qL qW qH qF)) (hW:I5 qW) (hH:I5 qH):Zf Xs Ms QU [(.d (.agg [.sl (sS.map Zb.enc),.sl (sO.map Zc.enc),.sl (sD.map Zc.enc),J sL,J sC])),(.d (.agg [J eK,J eL,J eX,J eY,J eW,J eH,J aa,J ab,.bool ad,J ae,J eC,J eo,J ea,J ep,.bool et,.sl (ek.map Zd.enc)]))] [] =
  some (.tup [.agg [.own 0,.d (.sl (sO.map Zc.enc)),.d (.sl (sD.map Zc.enc)),(.d (J (sL+qW*qH))),(.d (J sC))],(.d (.bool true))],[.row 4 ((sS.eraseIdx a).map Zb.enc) true false]):=by
 obtain⟨⟨h1,h2,h3,h4⟩,h5,h6,h7,h8,h9⟩:=hs;simp only at h1 h2 h3 h4 h5 h6 h7 h8 h9;subst hk;have hm:=Zx8 hW hH;have e1:=XW sS eL (by omega);rw[hf] at e1;have af:=(Ka.1 hx).1;have h0:¬(a:Int)<0:=by omega
 have e2:=YF qL qW qH qF (h2 _ (Kb hx)).1;have e3:=ZdY sS a h1 (fun x hx=>(h2 x hx).1);have u1:=wi (qW*qH) (by omega) (by omega);have u2:=wi (sL+qW*qH) (by omega) (by omega);refine cE ?_;simp +contextual -implicitDefEqProofs (maxSteps:=10^7) only[go_sem,seval,↓gZ,QV,e1,e2,e3,h0,af,hx,u1,u2]
theorem ZjX (sS:List Zb) (sO sD:List Zc) (sL sC:Int) (eK eL eX eY eW eH ab ad:Int) (ae:Bool) (af eC eo ea ep:Int) (et:Bool) (ek:List Zd) (hv:ZM (Zs.mk sS sO sD sL sC)) (hk:eK=1) (a:Nat) (hf:Qu 0 sS eL=(a:Int)) (qL qW qH:Int) (qF:List Box) (hx:sS[a]?=some (Zb.mk qL qW qH qF)):Zf Xs Ms QU [(.d (.agg [.sl (sS.map Zb.enc),.sl (sO.map Zc.enc),.sl (sD.map Zc.enc),J sL,J sC])),(.d (.agg [J eK,J eL,J eX,J eY,J eW,J eH,J ab,J ad,.bool ae,J af,J eC,J eo,J ea,J ep,.bool et,.sl (ek.map Zd.enc)]))] [] =
  some (.tup [.agg [.own 0,.d (.sl (sO.map Zc.enc)),.d (.sl (sD.map Zc.enc)),(.d (J sL)),(.d (J sC))],(.d (.bool (decide (Va ⟨qL,qW,qH,qF++[⟨eX,eY,eW,eH⟩]⟩ (sS.eraseIdx a)))))],[.row 4 ((if Va ⟨qL,qW,qH,qF++[⟨eX,eY,eW,eH⟩]⟩ (sS.eraseIdx a) then Qq ⟨qL,qW,qH,qF++[⟨eX,eY,eW,eH⟩]⟩ (sS.eraseIdx a) else []).map Zb.enc) true false]):=by
 obtain⟨⟨h1,h2,h3,h4⟩,h5,h6,h7,h8,h9⟩:=Zhe hv;simp only at h1 h2 h3 h4 h5 h6 h7 h8 h9;subst hk;have e1:=XW sS eL (by omega);rw[hf] at e1;have ag:=(Ka.1 hx).1;have h0:¬(a:Int)<0:=by omega
 have aa:=h2 _ (Kb hx);simp only at aa;have ai:=Zlk sS a;have e2:=YF qL qW qH qF aa.1;have e3:=ZdY sS a h1 (fun x hx=>(h2 x hx).1);have hr:(qF.length+1)*32≤140737488355328∧qF.length≤140737488355327:=by omega
 have ah:=(Qo hv.1.2 _ (Kb hx)).1.2.2.2.2.2.2;simp only at ah;have e4:=ZcI (sS.eraseIdx a) qL qW qH (qF++[⟨eX,eY,eW,eH⟩]) (by omega) (fun x hx=>h2 x (LQ hx)) ⟨by simp;omega,aa.2⟩;rw[Kak] at e4;simp only[Kp,KX,Box.enc] at e4;generalize (if Va ⟨qL,qW,qH,qF++[⟨eX,eY,eW,eH⟩]⟩ (sS.eraseIdx a) then Qq ⟨qL,qW,qH,qF++[⟨eX,eY,eW,eH⟩]⟩ (sS.eraseIdx a) else [])=R at e4 ⊢;generalize decide (Va ⟨qL,qW,qH,qF++[⟨eX,eY,eW,eH⟩]⟩ (sS.eraseIdx a))=V at e4 ⊢;refine cE ?_;simp +contextual -implicitDefEqProofs (maxSteps:=10^7) only[go_sem,seval,↓gZ,QV,e1,e2,e3,e4,h0,ag,hx,hr]
def VD (l:Zc):Prop:=VP l.Pane∧1≤l.Count∧l.Count≤24
instance (l:Zc):Decidable (VD l):=by unfold VD;infer_instance
theorem ZnH (sS:List Zb) (sO sD:List Zc) (sL sC:Int) (eK eL eX eY eW eH aa ab:Int) (ad:Bool) (ae eC eo ea ep:Int) (et:Bool) (ek:List Zd) (hl:¬VD ⟨⟨aa,ab,ad,ae⟩,eC⟩):Zf Xs Ms Yo [(.d (.agg [.sl (sS.map Zb.enc),.sl (sO.map Zc.enc),.sl (sD.map Zc.enc),J sL,J sC])),(.d (.agg [J eK,J eL,J eX,J eY,J eW,J eH,J aa,J ab,.bool ad,J ae,J eC,J eo,J ea,J ep,.bool et,.sl (ek.map Zd.enc)]))] [] =
  some (.tup [.agg [.own 0,.own 1,.own 2,(.d (J 0)),(.d (J 0))],(.d (.bool false))],[.row 4 [] true false,.row 5 [] true false,.row 5 [] true false]):=by
 have e1:=VO aa ab ad ae;have e2:=ZH eC 1 24;refine cE ?_;by_cases v1:VP ⟨aa,ab,ad,ae⟩
 ·have v2:¬(1≤eC∧eC≤24):=fun h=>hl ⟨v1,h⟩;rw[Kg v1] at e1;rw[Kh v2] at e2;simp +contextual -implicitDefEqProofs (maxSteps:=10^7) only[go_sem,seval,↓gZ,Vn,e1,e2]
 ·rw[Kh v1] at e1;simp +contextual -implicitDefEqProofs (maxSteps:=10^7) only[go_sem,seval,↓gZ,Vn,e1]
theorem ZjY (sS:List Zb) (sO sD:List Zc) (sL sC:Int) (eK eL eX eY eW eH aa ab:Int) (ad:Bool) (ae eC eo ea ep:Int) (et:Bool) (ek:List Zd) (hv:ZM (Zs.mk sS sO sD sL sC)) (hl:VD ⟨⟨aa,ab,ad,ae⟩,eC⟩) (hk:eK=2):Zf Xs Ms Yo [(.d (.agg [.sl (sS.map Zb.enc),.sl (sO.map Zc.enc),.sl (sD.map Zc.enc),J sL,J sC])),(.d (.agg [J eK,J eL,J eX,J eY,J eW,J eH,J aa,J ab,.bool ad,J ae,J eC,J eo,J ea,J ep,.bool et,.sl (ek.map Zd.enc)]))] [] =
  some (.tup [.agg [.d (.sl (sS.map Zb.enc)),.own 0,.d (.sl (sD.map Zc.enc)),(.d (J sL)),(.d (J sC))],(.d (.bool true))],[.row 5 ((Yb ⟨aa,ab,ad,ae⟩ eC sO).map Zc.enc) true false]):=by
 have e1:=VO aa ab ad ae;have e2:=ZH eC 1 24;rw[Kg hl.1] at e1;rw[Kg hl.2] at e2;subst hk;have e3:=ZcH sO aa ab ad ae eC (by have:=hv.2.1.1;simp only at this;omega) (fun x hx=>by have:=(Xq hv.2.1 x hx).2;have:=hl.2;simp only at this;unfold R64;omega);refine cE ?_;simp +contextual -implicitDefEqProofs (maxSteps:=10^7) only[go_sem,seval,↓gZ,Vn,e1,e2,e3]
theorem ZjZ (sS:List Zb) (sO sD:List Zc) (sL sC:Int) (eK eL eX eY eW eH aa ab:Int) (ad:Bool) (ae eC eo ea ep:Int) (et:Bool) (ek:List Zd) (hv:ZM (Zs.mk sS sO sD sL sC)) (hl:VD ⟨⟨aa,ab,ad,ae⟩,eC⟩) (hk:¬eK=2):Zf Xs Ms Yo [(.d (.agg [.sl (sS.map Zb.enc),.sl (sO.map Zc.enc),.sl (sD.map Zc.enc),J sL,J sC])),(.d (.agg [J eK,J eL,J eX,J eY,J eW,J eH,J aa,J ab,.bool ad,J ae,J eC,J eo,J ea,J ep,.bool et,.sl (ek.map Zd.enc)]))] [] =
  some (.tup [.agg [.d (.sl (sS.map Zb.enc)),.own 0,.own 1,(.d (J (sL+eC*aa*ab))),(.d (J sC))],(.d (.bool (Q3 ⟨aa,ab,ad,ae⟩ eC false sD)))],[.row 5 ((Yb ⟨aa,ab,ad,ae⟩ eC sO).map Zc.enc) true false,.row 5 ((Xz sD ⟨aa,ab,ad,ae⟩ eC).map Zc.enc) true false]):=by
 have e1:=VO aa ab ad ae;have e2:=ZH eC 1 24;rw[Kg hl.1] at e1;rw[Kg hl.2] at e2;have af:=Zdq hl;have h6:=hv.2.2.2;simp only at af h6;have e3:=ZcH sO aa ab ad ae eC (by have:=hv.2.1.1;simp only at this;omega) (fun x hx=>by have:=(Xq hv.2.1 x hx).2;have:=hl.2;simp only at this;unfold R64;omega);have e4:=ZfO sD aa ab ad ae eC (by have:=hv.2.2.1.1;simp only at this;omega) (fun x hx=>by have:=(Xq hv.2.2.1 x hx).2;have:=hl.2;simp only at this;unfold R64;omega);have u0:=wi (eC*aa) (by omega) (by omega);have u1:=wi (eC*aa*ab) (by omega) (by omega);have u2:=wi (sL+eC*aa*ab) (by omega) (by omega)
 refine cE ?_;simp +contextual -implicitDefEqProofs (maxSteps:=10^7) only[go_sem,seval,↓gZ,Vn,e1,e2,e3,e4,hk,u0,u1,u2]
theorem Zbq {ps:List Pane}:∀ {b:BT} {x y w h:Int},XI ps b w h=true→∀ c∈plc b x y w h,∃ n:Nat,c.Pane=(n:Int)∧n<ps.length
 | .waste,x,y,w,h,hf,c,hc=>by simp[plc] at hc
 | .pane i t,x,y,w,h,hf,c,hc=>by
  simp only[plc,KL] at hc;subst hc;simp only[XI,Jt,Kd,Ku] at hf;refine⟨i.toNat,by simp only;omega,?_⟩;rcases KN i.toNat ps.length with h1 | h1
  ·exact h1
  ·rw[KF h1] at hf;exact absurd hf.2 (by simp)
 | .cut d a l r,x,y,w,h,hf,c,hc=>by
  cases d
  ·simp only[XI,Kd,Kc,Ko] at hf;simp only[plc,Kc,Ko,Ke] at hc;rcases hc with hc | hc
   ·exact Zbq hf.1.2 c hc
   ·exact Zbq hf.2 c hc
  ·simp only[XI,Kd,Kn] at hf;simp only[plc,Kn,Ke] at hc;rcases hc with hc | hc
   ·exact Zbq hf.1.2 c hc
   ·exact Zbq hf.2 c hc
def JE:List Int→List L.Place→List Int
 | u,[]=>u
 | u,x :: l=>JE (u.set x.Pane.toNat (u[x.Pane.toNat]?.getD 0+1)) l
theorem Zov {u:List Int} {l:List L.Place} {k:Nat} {x:L.Place} (hx:l[k]?=some x):JE u (l.drop k)=JE (u.set x.Pane.toNat (u[x.Pane.toNat]?.getD 0+1)) (l.drop (k+1)):=by
 obtain⟨h1,h2⟩:=Ka.1 hx;rw[Kw h1,h2,JE]
theorem Zq1 {u:List Int} {l:List L.Place}:JE u (l.drop l.length)=u:=by simp[JE]
theorem Zq2:∀ (l:List L.Place) (u:List Int),(JE u l).length=u.length
 | [],u=>rfl
 | x :: l,u=>by rw[JE,Zq2 l];simp
theorem Zq3:∀ (l:List L.Place) (u:List Int) (m:Int),(∀ v∈u,0≤v∧v≤m)→∀ v∈JE u l,0≤v∧v≤m+l.length
 | [],u,m,h,v,hv=>by have:=h v hv;simp;omega
 | x :: l,u,m,h,v,hv=>by
  have:=Zq3 l _ (m+1) (fun w hw=>by
   rcases List.mem_or_eq_of_mem_set hw with h1 | rfl
   ·have:=h w h1;omega
   ·cases hg:u[x.Pane.toNat]? with
    | none=>
     simp;have h0:∀ z:Int,0≤z→1≤z+1:=by omega
     by_cases hu:u=[]
     ·subst hu;simp at hw
     ·obtain⟨z,hz⟩:=List.exists_mem_of_ne_nil u hu;have:=h z hz;omega
    | some z=>have:=h z (Kb hg);simp;omega) v hv
  simp only[Ks];omega
theorem ZnP (u:List Int) (i:Nat) (v:Int):(u.map ZgJ).set i (J v)=(u.set i v).map ZgJ:=(LJ (f:=ZgJ) (l:=u) (i:=i) (a:=v)).symm
theorem rep_int (n:Nat):List.replicate n (D.int .i64 0)=(List.replicate n (0:Int)).map ZgJ:=by simp[ZgJ]
def Zcd (k:ZD) (p:Zd):List Int:=JE (List.replicate k.Panes.length 0) ((Qy k p).filterMap Xn)
theorem Zml {k:ZD} {p:Zd} (hv:YU k p=true):(Zcd k p).length=k.Panes.length∧∀ v∈Zcd k p,0≤v∧v≤255:=by
 obtain⟨b,hb,ae,af,ab,ad,aa⟩:=Xd hv;have hl:((Qy k p).filterMap Xn).length≤255:=by
  have:=Ki Xn (Qy k p);rw[aa,Ju] at this;rw[aa];omega
 refine⟨by unfold Zcd;rw[Zq2];simp,fun v h=>?_⟩;have:=Zq3 _ _ 0 (fun w hw=>by rw[LP hw];omega) v h;omega
theorem ZtC (kW kH:Int) (kP:List Pane) (p:Zd) (hv:YU (ZD.mk kW kH kP) p=true):Zf Xs Ms Zbx [(.d (.agg [J kW,J kH,.sl (kP.map Pane.enc)])),.d p.enc] []=some (.own 0,[.row 1 ((Zcd (ZD.mk kW kH kP) p).map ZgJ) true false]):=by
 obtain⟨b,hb,af,ad,aj,aa,ab⟩:=Xd hv;simp only at aa ab;have e:=ZhO kW kH kP p b af (by simp only[VW,inB] at ad ⊢;omega) aa (by omega);have ag:=Zbq (x:=0) (y:=0) aa;have an:kP.length≤24:=ad.2.2.2.2.1;have ak:(plc b 0 0 kW kH).length≤255:=by
  have:=Ki Xn (Qy (ZD.mk kW kH kP) p);rw[ab,Ju,Vr] at this;omega
 unfold Zcd;rw[ab,Vr];generalize plc b 0 0 kW kH=L at e ag ak ⊢;have al:(kP.length:Int)*((8:Nat):Int)≤((140737488355328:Nat):Int)∧kP.length≤140737488355328:=by omega
 have ae:(kP.length:Int)*8≤140737488355328∧(kP.length:Int)≤140737488355328:=by omega
 clear hv hb af ad ab aa;obtain⟨o,a,q,t,ks⟩:=p;rw[Zd.enc_mk] at e ⊢;refine cE ?_;simp +contextual -implicitDefEqProofs (maxSteps:=10^7) only[go_sem,seval,↓gZ,Zi8,e,rep_int,al,ae];refine LO (α:=Nat×List Int) (fun s=>[(7,.d (J (s.1:Int)))]) (fun s=>[(1,.row 1 (s.2.map ZgJ) true false)]) (fun s=>s.1≤L.length∧s.2.length=kP.length∧(∀ v∈s.2,0≤v∧v≤s.1)∧JE s.2 (L.drop s.1)=JE (List.replicate kP.length 0) L) (fun s=>L.length-s.1) (0,List.replicate kP.length 0) ⟨by simp,by simp,fun w hw=>by rw[LP hw];simp,by simp⟩ ?_;intro⟨i,u⟩ ⟨hi,hul,huv,hp⟩ ih;simp only at hi hul huv hp;by_cases ah:i<L.length
 ·obtain⟨x,hx⟩:=Zr ah;have hw:=Zj (k:=i) (by omega);obtain⟨n,hn,am⟩:=ag x (Kb hx);rw[Zov hx,hn] at hp;obtain⟨q',t',⟨X,Y,W,H⟩⟩:=x;simp only at hn;subst hn;have ai:n<u.length:=by omega
  obtain⟨z,hz⟩:=Zr ai;have ao:=huv z (Kb hz);have u1:=wi (z+1) (by omega) (by omega);rw[Le,hz] at hp;simp +contextual -implicitDefEqProofs (maxSteps:=10^7) only[go_sem,seval,↓gZ,hx,ah,hw,am,ai,hz,u1,ZnP,hul];refine ih (i+1,u.set n (z+1)) _ ⟨by simp only;omega,by simpa using hul,fun v hv=>?_,hp⟩ (by simp only;omega) ?_
  ·simp only;rcases List.mem_or_eq_of_mem_set hv with h1 | rfl
   ·have:=huv v h1;omega
   ·omega
  ·simp +contextual -implicitDefEqProofs (maxSteps:=10^7) only[go_sem,seval,↓gZ,List.headD_cons,ZnP]
 ·have:i=L.length:=by omega
  subst this;rw[Zq1] at hp;simp +contextual -implicitDefEqProofs (maxSteps:=10^7) only[go_sem,seval,↓gZ,hp]
def ZiW:BT→Bool
 | .waste=>false
 | .pane _ _=>true
 | .cut _ _ l r=>ZiW l || ZiW r
theorem Zd0:∀ (b:BT),Zf Xs Ms VZ [.d b.plan.enc] []=some ((.d (.bool (ZiW b))),[])
 | .waste=>by
  simp only[BT.plan,Zd.enc_mk];refine cE ?_;simp +contextual -implicitDefEqProofs (maxSteps:=10^7) only[go_sem,seval,↓gZ,Zau,QS,ZiW]
 | .pane i t=>by
  simp only[BT.plan,Zd.enc_mk];refine cE ?_;simp +contextual -implicitDefEqProofs (maxSteps:=10^7) only[go_sem,seval,↓gZ,Zau,QS,ZiW]
 | .cut d a l r=>by
  have e1:=Zd0 l;have e2:=Zd0 r;simp only[BT.plan,Zd.enc_mk];cases hb:ZiW l<;>rw[hb] at e1<;>cases d <;>
  ·refine cE ?_;simp +contextual -implicitDefEqProofs (maxSteps:=10^7) only[go_sem,seval,↓gZ,Zau,QS,ZiW,Za4,e1,e2,hb,Lt,Bool.true_or,Bool.false_or]
theorem ZqA (kW kH:Int) (kP:List Pane) (p:Zd) (Zi:Int) (hv:YU (ZD.mk kW kH kP) p=true) (h1:1≤Zi) (h2:Zi≤200):Zf Xs Ms UX [(.d (.agg [J kW,J kH,.sl (kP.map Pane.enc)])),.d p.enc,(.d (J Zi))] [] =
  some ((.d (J (XJ (ZdL (ZD.mk kW kH kP) p Zi)))),[]):=by
 obtain⟨b,hb,ai,af,aj,aa,ad⟩:=Xd hv;have am:kP.length≤24:=af.2.2.2.2.1;have ev:=ZfG kW kH kP p (by omega);rw[hv] at ev;have er:=ZH Zi 1 200;rw[Kg (show 1≤Zi∧Zi≤200 from ⟨h1,h2⟩)] at er;simp only at aa ad;have ep:=ZhP kW kH kP p b ai (by simp only[VW,inB] at af ⊢;omega) aa (by omega);have ab:=ZdM hv;have ag:((Qy (ZD.mk kW kH kP) p).filterMap XD).length≤255:=by
  have:=Ki XD (Qy (ZD.mk kW kH kP) p);rw[ad,Ju] at this;rw[ad];omega
 rw[← ZdJ,← ad] at ep;unfold ZdL;generalize (Qy (ZD.mk kW kH kP) p).filterMap XD=L at ep ab ag ⊢;clear hv hb ai af ad aa;obtain⟨o,a,n,t,ks⟩:=p;rw[Zd.enc_mk] at ev ep ⊢;refine cE ?_;simp +contextual -implicitDefEqProofs (maxSteps:=10^7) only[go_sem,seval,↓gZ,Zeh,ev,ep,er];refine LO (α:=Nat) (fun i=>[(9,.d (J (i:Int))),(7,.d (J (XJ ((L.take i).filterMap (Uw Zi)))))]) (fun _=>[]) (fun i=>i≤L.length) (fun i=>L.length-i) 0 (by omega) ?_;intro i hi ih;by_cases ah:i<L.length
 ·obtain⟨x,hx⟩:=Zr ah;have hw:=Zj (k:=i) (by omega);have hm:=Zaf (f:=Uw Zi) hx;have ak:=ab x (Kb hx);have ha:=ZgU (l:=(L.take i).filterMap (Uw Zi)) (fun c hc=>by
   obtain⟨d,hd,ae⟩:=Lu.1 hc;unfold Uw at ae;split at ae
   ·cases ae;exact ab c (KY hd)
   ·cases ae)
  have an:((L.take i).filterMap (Uw Zi)).length≤i:=Kv (Ki _ _) (by simp;omega);have al:=Zhx ak;obtain⟨X,Y,W,H⟩:=x;simp only at al;have w0:=wi (W*H) (by omega) (by omega);have w1:=wi (XJ ((L.take i).filterMap (Uw Zi))+W*H) (by omega) (by omega);have es:=Zbk X Y W H Zi;simp only[Uw] at hm;by_cases ho:W<Zi∨H<Zi
  ·rw[Kl ho] at hm;rw[Kh (show ¬(Zi≤W∧Zi≤H) by omega)] at es;simp +contextual -implicitDefEqProofs (maxSteps:=10^7) only[go_sem,seval,↓gZ,hx,ah,hw,es,w0,w1];refine ih (i+1) _ (by omega) (by omega) ?_;simp +contextual -implicitDefEqProofs (maxSteps:=10^7) only[go_sem,seval,↓gZ,hm,Za6,Option.toList,XJ]
   first | rfl | (simp;done) | (simp;rfl)
  ·rw[Kj ho] at hm;rw[Kg (show Zi≤W∧Zi≤H by omega)] at es;simp +contextual -implicitDefEqProofs (maxSteps:=10^7) only[go_sem,seval,↓gZ,hx,ah,hw,es];refine ih (i+1) _ (by omega) (by omega) ?_;simp +contextual -implicitDefEqProofs (maxSteps:=10^7) only[go_sem,seval,↓gZ,hm,Option.toList,Ln]
 ·have:i=L.length:=by omega
  subst this;simp +contextual -implicitDefEqProofs (maxSteps:=10^7) only[go_sem,seval,↓gZ];simp
def WP:List Pane→List Int→List Zc→List Zc→Option (List Zc×List Zc)
 | p :: ps,c :: us,o,d=>if c=0 then WP ps us o d else if Q3 p c false o=true then WP ps us (Xz o p c) (Yb p c d) else none
 | [],_,o,d=>some (o,d)
 | _,[],o,d=>some (o,d)
theorem ZiX {ps:List Pane} {us:List Int} {o d:List Zc} {k:Nat} {p:Pane} {c:Int} (hp:ps[k]?=some p) (hu:us[k]?=some c):WP (ps.drop k) (us.drop k) o d=if c=0 then WP (ps.drop (k+1)) (us.drop (k+1)) o d else if Q3 p c false o=true then WP (ps.drop (k+1)) (us.drop (k+1)) (Xz o p c) (Yb p c d) else none:=by
 obtain⟨h1,h2⟩:=Ka.1 hp;obtain⟨h3,h4⟩:=Ka.1 hu;rw[Kw h1,h2,Kw h3,h4,WP]
theorem Zq4 {ps:List Pane} {us:List Int} {o d:List Zc}:WP (ps.drop ps.length) us o d=some (o,d):=by
 rw[List.drop_length];unfold WP;rfl
theorem Zlo {l:List Zc} {p:Pane} {c hi:Int} (hc:0≤c) (h:∀ x∈l,x.Count≤hi):∀ y∈Xz l p c,0≤y.Count∧y.Count≤hi:=fun y hy=>by
 obtain⟨x,hx,e⟩:=Lu.1 hy;have:=h x hx;unfold ZfN at e;split at e
 ·split at e
  ·cases e;simp only;omega
  ·cases e
 ·split at e
  ·cases e;omega
  ·cases e
theorem Zj0 {p:Pane} {c hi:Int} (hc:0≤c) (hh:0≤hi):∀ {l:List Zc},(∀ x∈l,0≤x.Count∧x.Count≤hi)→∀ y∈Yb p c l,0≤y.Count∧y.Count≤hi+c
 | [],h,y,hy=>by simp[Yb] at hy;subst hy;simp only;omega
 | x :: l,h,y,hy=>by
  have h1:=h x (by simp);unfold Yb at hy;split at hy
  ·rcases Kf.1 hy with rfl | hy
   ·simp only;omega
   ·have:=h y (by simp[hy]);omega
  ·rcases Kf.1 hy with rfl | hy
   ·omega
   ·exact Zj0 hc hh (fun z hz=>h z (by simp[hz])) y hy
def ZqB (p:Zd):Bool:=match X2 p with
 | some b=>ZiW b
 | none=>false
def Zd1 (s:Zs) (e:Zt):Option Zs:=
 match s.Stock[(Qu 0 s.Stock e.label).toNat]? with
 | none=>none
 | some x=>match Zbn s.Stock e.label ⟨x.W,x.H,s.Opn.map Zc.Pane⟩ e.plan 5 with
  | none=>none
  | some R=>if ZqB e.plan=true then
    match WP (s.Opn.map Zc.Pane) (Zcd ⟨x.W,x.H,s.Opn.map Zc.Pane⟩ e.plan) s.Opn s.Done with
    | none=>none
    | some (o,d)=>some ⟨R,o,d,s.Lost+XJ (ZdL ⟨x.W,x.H,s.Opn.map Zc.Pane⟩ e.plan 5),s.Came⟩
   else none
def shV:Option Zs→AV×List Zn
 | some s=>(.tup [.agg [.own 0,.own 1,.own 2,(.d (J (s.Lost))),(.d (J (s.Came)))],(.d (.bool true))],[.row 4 (s.Stock.map Zb.enc) true false,.row 5 (s.Opn.map Zc.enc) true false,.row 5 (s.Done.map Zc.enc) true false])
 | none=>(.tup [.agg [.own 0,.own 1,.own 2,(.d (J 0)),(.d (J 0))],(.d (.bool false))],[.row 4 [] true false,.row 5 [] true false,.row 5 [] true false])
theorem Zq5 {l:List Zb} {n:Int} {k:ZD} {p:Zd} {Zi:Int} (h:Qu 0 l n<0):Zbn l n k p Zi=none:=by
 unfold Zbn;rw[Kj (fun h'=>by omega)]
theorem Zow {l:List Zb} {n:Int} {k:ZD} {p:Zd} {Zi:Int} {R:List Zb} (h:Zbn l n k p Zi=some R):YU k p=true∧VSt R∧VSt l:=by
 unfold Zbn at h;split at h
 ·rename_i hc;split at h
  ·rename_i x hx;split at h
   ·rename_i hg;cases h;exact⟨hg.1.1,hg.2,hc.1⟩
   ·cases h
  ·cases h
 ·cases h
def WSh (s:Zs):Prop:=VSt s.Stock∧s.Opn.length≤9∧(∀ x∈s.Opn,VP x.Pane∧0≤x.Count∧x.Count≤24)∧JM s.Done∧-1≤s.Lost∧s.Lost≤900001∧-1≤s.Came∧s.Came≤900001
theorem ZzP {s:Zs} (h:ZM s):WSh s:=⟨h.1,by have:=h.2.1.1;omega,fun x hx=>by have:=Xq h.2.1 x hx;exact⟨this.1,by omega,this.2.2⟩,h.2.2.1,by have:=h.2.2.2;omega,by have:=h.2.2.2;omega,by have:=h.2.2.2;omega,by have:=h.2.2.2;omega⟩
theorem Zwa {s:Zs} (h:WSh s):SmS s:=by
 obtain⟨h1,h2,_,h3,h4,h5,h6,h7⟩:=h;exact⟨⟨by have:=h1.1;omega,fun x hx=>⟨(Zdp h1).2 x hx,ZnO (Qo h1.2 x hx)⟩,by omega,by have:=h3.1;omega⟩,by have:=h1.1;omega,by omega,by omega,by omega,by omega⟩
theorem ZqC (sS:List Zb) (sO sD:List Zc) (sL sC:Int) (eK eL eX eY eW eH af ag:Int) (ah:Bool) (ai eC eo ea ep:Int) (et:Bool) (ek:List Zd) (hv:WSh (Zs.mk sS sO sD sL sC)):Zf Xs Ms UT [(.d (.agg [.sl (sS.map Zb.enc),.sl (sO.map Zc.enc),.sl (sD.map Zc.enc),J sL,J sC])),(.d (.agg [J eK,J eL,J eX,J eY,J eW,J eH,J af,J ag,.bool ah,J ai,J eC,J eo,J ea,J ep,.bool et,.sl (ek.map Zd.enc)]))] []=some (shV (Zd1 (Zs.mk sS sO sD sL sC) (Zt.mk eK eL (Box.mk eX eY eW eH) (Zc.mk (Pane.mk af ag ah ai) eC) (Zd.mk eo ea ep et ek)))):=by
 obtain⟨⟨h1,h2,h3,h4⟩,h5,h6,h7,h8,h9⟩:=Zwa hv;simp only at h1 h2 h3 h4 h5 h6 h7 h8 h9;have ao:=hv.2.1;have hO:=hv.2.2.1;have hD:=hv.2.2.2.1;simp only at hO hD ao;have ay:=hD.1;have e1:=XW sS eL (by omega);by_cases hf:Qu 0 sS eL<0
 ·have ec:Zd1 (Zs.mk sS sO sD sL sC) (Zt.mk eK eL (Box.mk eX eY eW eH) (Zc.mk (Pane.mk af ag ah ai) eC) (Zd.mk eo ea ep et ek))=none:=by
   unfold Zd1;simp only;split
   ·rfl
   ·rw[Zq5 hf]
  rw[ec];unfold shV;refine cE ?_;simp +contextual -implicitDefEqProofs (maxSteps:=10^7) only[go_sem,seval,↓gZ,Ws,e1,hf]
 ·obtain⟨a,x,ha,hx⟩:=Zai (by omega:0≤Qu 0 sS eL);rw[ha] at e1;have al:¬(a:Int)<0:=by omega
  have az:=(Ka.1 hx).1;have e3:=Zqw sS eL x.W x.H (sO.map Zc.Pane) (.mk eo ea ep et ek) 5 (by have:=hv.1.1;simp only at this;omega) (fun y hy=>by
   have:=Qo hv.1.2 y hy;exact⟨Nat.le_trans this.1.2.2.2.2.2.2 (by decide),ZnO this⟩) (by simp;omega)
  have ap:Zd1 (Zs.mk sS sO sD sL sC) (Zt.mk eK eL (Box.mk eX eY eW eH) (Zc.mk (Pane.mk af ag ah ai) eC) (Zd.mk eo ea ep et ek))=match Zbn sS eL ⟨x.W,x.H,sO.map Zc.Pane⟩ (.mk eo ea ep et ek) 5 with
   | none=>none
   | some R=>if ZqB (.mk eo ea ep et ek)=true then
     match WP (sO.map Zc.Pane) (Zcd ⟨x.W,x.H,sO.map Zc.Pane⟩ (.mk eo ea ep et ek)) sO sD with
     | none=>none
     | some (o,d)=>some ⟨R,o,d,sL+XJ (ZdL ⟨x.W,x.H,sO.map Zc.Pane⟩ (.mk eo ea ep et ek) 5),sC⟩
    else none:=by
   unfold Zd1;simp only[ha,Le,hx]
  rw[ap];clear ap;obtain⟨xL,xW,xH,xF⟩:=x;simp only at e3 ⊢;have e2:=ZtB sS sO sD sL sC a xL xW xH xF hx h3 h1;cases hcs:Zbn sS eL ⟨xW,xH,sO.map Zc.Pane⟩ (.mk eo ea ep et ek) 5 with
  | none=>
   rw[hcs] at e3;unfold Zsh at e3;simp only;unfold shV;rw[Zd.enc_mk] at e3;refine cE ?_;simp +contextual -implicitDefEqProofs (maxSteps:=10^7) only[go_sem,seval,↓gZ,Ws,e1,al,e2,e3]
  | some R=>
   obtain⟨aa,a0,_⟩:=Zow hcs;rw[hcs] at e3;unfold Zsh at e3;simp only;obtain⟨b,hb,au,a1,am,av,aw⟩:=Xd aa;have e4:=Zd0 b;rw[← au] at e4;have hh:ZqB (.mk eo ea ep et ek)=ZiW b:=by unfold ZqB;rw[hb]
   rw[hh];have e5:=ZqA xW xH (sO.map Zc.Pane) (.mk eo ea ep et ek) 5 aa (by omega) (by omega);have e6:=ZtC xW xH (sO.map Zc.Pane) (.mk eo ea ep et ek) aa;have hu:=Zml aa;have ax:=ZgU (l:=ZdL ⟨xW,xH,sO.map Zc.Pane⟩ (.mk eo ea ep et ek) 5) (fun c hc=>by
    obtain⟨z,hz,aj⟩:=Lu.1 hc;unfold Uw at aj;split at aj
    ·cases aj;exact ZdM aa c hz
    ·cases aj)
   have a2:(ZdL ⟨xW,xH,sO.map Zc.Pane⟩ (.mk eo ea ep et ek) 5).length≤255:=by
    refine Kv (Ki _ _) (Kv (Ki _ _) ?_);rw[aw,Ju];exact am
   generalize XJ (ZdL ⟨xW,xH,sO.map Zc.Pane⟩ (.mk eo ea ep et ek) 5)=A at e5 ax ⊢;generalize Zcd ⟨xW,xH,sO.map Zc.Pane⟩ (.mk eo ea ep et ek)=us at e6 hu ⊢;rw[Zd.enc_mk] at e3 e4 e5 e6;simp only[KQ] at hu;have u1:=wi (sL+A) (by omega) (by omega);have r1:sO.length*40≤140737488355328∧sO.length≤140737488355328:=by omega
   have r2:sD.length*40≤140737488355328∧sD.length≤140737488355328:=by omega
   cases hhb:ZiW b with
   | false=>
    rw[hhb] at e4;rw[Kj (by simp)];unfold shV;refine cE ?_;simp +contextual -implicitDefEqProofs (maxSteps:=10^7) only[go_sem,seval,↓gZ,Ws,e1,al,e2,e3,e4]
   | true=>
    rw[hhb] at e4;rw[Kl rfl];refine cE ?_;simp +contextual -implicitDefEqProofs (maxSteps:=10^7) only[go_sem,seval,↓gZ,Ws,ZqP,e1,al,e2,e3,e4,e5,e6,u1,r1,r2];refine LO (α:=Nat×List Zc×List Zc) (fun s=>[(12,.d (J (s.1:Int)))]) (fun s=>[(5,.row 5 (s.2.1.map Zc.enc) true false),(6,.row 5 (s.2.2.map Zc.enc) true false)]) (fun s=>s.1≤us.length∧WP ((sO.map Zc.Pane).drop s.1) (us.drop s.1) s.2.1 s.2.2=WP (sO.map Zc.Pane) us sO sD∧s.2.1.length≤9∧s.2.2.length≤8+s.1∧(∀ x∈s.2.1,0≤x.Count∧x.Count≤24)∧(∀ x∈s.2.2,0≤x.Count∧x.Count≤24+255*(s.1:Int))) (fun s=>us.length-s.1) (0,sO,sD) ⟨by simp,by simp,ao,by simp only;omega,fun x hx=>by have:=hO x hx;omega,fun x hx=>by have:=Xq hD x hx;simp only;omega⟩ ?_
    intro⟨i,o,d⟩ ⟨hi,hp,ho8,hd8,hoc,hdc⟩ ih;simp only at hi hp ho8 hd8 hoc hdc;by_cases ab:i<us.length
    ·obtain⟨c,hc⟩:=Zr ab;have an:i<sO.length:=by omega
     obtain⟨y,hy⟩:=Zr an;have hw:=Zj (k:=i) (by omega);have aq:=hu.2 c (Kb hc);have ak:(sO.map Zc.Pane)[i]?=some y.Pane:=by rw[Lj,hy];rfl
     rw[ZiX ak hc] at hp;obtain⟨⟨W,H,T,K⟩,C⟩:=y;simp only at hp ak;by_cases ad:c=0
     ·rw[Kl ad] at hp;simp +contextual -implicitDefEqProofs (maxSteps:=10^7) only[go_sem,seval,↓gZ,ab,hc,ad,hw];refine ih (i+1,o,d) _ ⟨by simp only;omega,hp,ho8,by simp only;omega,hoc,fun x hx=>by have:=hdc x hx;simp only;omega⟩ (by simp only;omega) ?_;simp +contextual -implicitDefEqProofs (maxSteps:=10^7) only[go_sem,seval,↓gZ]
     ·rw[Kj ad] at hp;have et:=ZfO o W H T K c (by omega) (fun x hx=>by have:=hoc x hx;unfold R64;omega);have ea:=ZcH d W H T K c (by omega) (fun x hx=>by have:=hdc x hx;unfold R64;omega);by_cases ae:Q3 ⟨W,H,T,K⟩ c false o=true
      ·rw[Kl ae] at hp;rw[ae] at et;simp +contextual -implicitDefEqProofs (maxSteps:=10^7) only[go_sem,seval,↓gZ,ab,hc,ad,hw,an,hy,ak,et,ea];refine ih (i+1,Xz o ⟨W,H,T,K⟩ c,Yb ⟨W,H,T,K⟩ c d) _ ⟨by simp only;omega,hp,Kv (Ki _ _) ho8,Kv (Zbo _ _ _) (by simp only;omega),Zlo aq.1 (fun x hx=>(hoc x hx).2),fun x hx=>?_⟩ (by simp only;omega) ?_
       ·have:=Zj0 aq.1 (by omega) hdc x hx;simp only;omega
       ·simp +contextual -implicitDefEqProofs (maxSteps:=10^7) only[go_sem,seval,↓gZ]
      ·rw[Kj ae] at hp;simp only[LH] at ae;rw[ae] at et;simp +contextual -implicitDefEqProofs (maxSteps:=10^7) only[go_sem,seval,↓gZ,ab,hc,ad,hw,an,hy,ak,et,ea];rw[← hp];rfl
    ·have:i=sO.length:=by omega
     subst this;have ar:=@Zq4 (sO.map Zc.Pane) (us.drop sO.length) o d;rw[KQ] at ar;rw[ar] at hp;rw[← hp];simp +contextual -implicitDefEqProofs (maxSteps:=10^7) only[go_sem,seval,↓gZ,ab];rfl
end Go.Proofs.YtdhgppkldoopaaaGreat
