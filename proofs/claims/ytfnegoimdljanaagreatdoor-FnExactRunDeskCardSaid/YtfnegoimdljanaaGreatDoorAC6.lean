/- Own text. -/
import Derived.Test.YtfnegoimdljanaaGreatDoorACode
import Derived.Test.YtfnegoimdljanaaGreatDoorAC1
import Derived.Test.YtfnegoimdljanaaGreatDoorAC5
import Derived.Test.YtfnegoimdljanaaGreatDoorAbsOkD
namespace Go.Proofs.YtfnegoimdljanaaGreatDoor
open Go Go.Abs Go.Abs.E Go.Abs.L
set_option linter.unusedSimpArgs false
set_option linter.unusedVariables false
set_option maxRecDepth 20000
set_option maxHeartbeats 4000000
theorem ZiG (l:List Zc) (pW pH:Int) (pT:Bool) (pK:Int) (c:Int) (hl:l.length≤1048576) (hc:∀ x∈l,R64 (x.Count-c)):Zd Xs Ms 143 [(.d (.sl (l.map Zc.enc))),(.d (.agg [J pW,J pH,.bool pT,J pK])),(.d (J c))] [] =
  some (.tup [.own 0,(.d (.bool (Xr (Pane.mk pW pH pT pK) c false l)))],[.row 5 ((XY l (Pane.mk pW pH pT pK) c).map Zc.enc) true false]):=by
 refine cE ?_;simp +contextual -implicitDefEqProofs only[go_sem,seval,ZfC];refine LO (α:=Nat×Bool) (fun s=>[(10,.d (J (s.1:Int))),(9,.d (.bool s.2))]) (fun s=>[(0,.row 5 ((XY (l.take s.1) (Pane.mk pW pH pT pK) c).map Zc.enc) true false)]) (fun s=>s.1≤l.length∧Xr (Pane.mk pW pH pT pK) c s.2 (l.drop s.1)=Xr (Pane.mk pW pH pT pK) c false l) (fun s=>l.length-s.1) (0,false) ⟨by simp,by simp⟩ ?_;intro⟨i,b⟩ ⟨hi,hp⟩ ih;simp only at hi hp;by_cases aa:i<l.length
 ·obtain⟨x,hx⟩:=Zp aa;have hw:=Zg (k:=i) (by omega);have hm:=ZBo (Pane.mk pW pH pT pK) c hx;have ad:(XY (l.take i) (Pane.mk pW pH pT pK) c).length≤i:=Kx (Kr _ _) (by simp;omega);have hr:((XY (l.take i) (Pane.mk pW pH pT pK) c).length+1)*40≤140737488355328∧(XY (l.take i) (Pane.mk pW pH pT pK) c).length≤140737488355327:=by omega
  have ab:=hc x (Kc hx);rw[Zzt hx] at hp;obtain⟨⟨W,H,T,K⟩,C⟩:=x;simp only[ZiF] at hm hp ab;have u0:=wi (C-c) ab.1 ab.2;by_cases he:(⟨W,H,T,K⟩:Pane)=(Pane.mk pW pH pT pK)
  ·rw[Kg he] at hm hp;have ae:=he;simp only[Pane.mk.injEq] at he;by_cases h0:0<C-c
   ·have h1:0≤C-c:=by omega
    rw[Kg h0] at hm;rw[Kh h1] at hp;simp +contextual -implicitDefEqProofs only[go_sem,seval,hx,aa,hw,he,u0,h0,h1,hr];refine ih (i+1,true) _ ⟨by simp only;omega,hp⟩ (by simp only;omega) ?_;simp +contextual -implicitDefEqProofs only[go_sem,seval,hm,L3];try (simp[Zc.enc,he];done)
   ·rw[Kd h0] at hm;by_cases h1:0≤C-c
    ·rw[Kh h1] at hp;simp +contextual -implicitDefEqProofs only[go_sem,seval,hx,aa,hw,he,u0,h0,h1,hr];refine ih (i+1,true) _ ⟨by simp only;omega,hp⟩ (by simp only;omega) ?_;simp +contextual -implicitDefEqProofs only[go_sem,seval,hm,Option.toList_none,KF]
    ·rw[Kj h1] at hp;simp +contextual -implicitDefEqProofs only[go_sem,seval,hx,aa,hw,he,u0,h0,h1,hr];refine ih (i+1,false) _ ⟨by simp only;omega,hp⟩ (by simp only;omega) ?_;simp +contextual -implicitDefEqProofs only[go_sem,seval,hm,Option.toList_none,KF]
  ·rw[Kd he] at hm hp;simp only[Pane.mk.injEq] at he;by_cases h0:0<C
   ·rw[Kg h0] at hm;simp +contextual -implicitDefEqProofs only[go_sem,seval,hx,aa,hw,he,h0,hr];refine ih (i+1,b) _ ⟨by simp only;omega,hp⟩ (by simp only;omega) ?_;simp +contextual -implicitDefEqProofs only[go_sem,seval,hm,L3];try (simp[Zc.enc];done)
   ·rw[Kd h0] at hm;simp +contextual -implicitDefEqProofs only[go_sem,seval,hx,aa,hw,he,h0,hr];refine ih (i+1,b) _ ⟨by simp only;omega,hp⟩ (by simp only;omega) ?_;simp +contextual -implicitDefEqProofs only[go_sem,seval,hm,Option.toList_none,KF]
 ·have:i=l.length:=by omega
  subst this;rw[ZBn] at hp;simp +contextual -implicitDefEqProofs only[go_sem,seval,hp];simp
theorem ZFj (l:List Zc) (i:Nat) (W H:Int) (T:Bool) (K C:Int):(l.map Zc.enc).set i (.agg [J W,J H,.bool T,J K,J C])=(l.set i ⟨⟨W,H,T,K⟩,C⟩).map Zc.enc:=(Kax (f:=Zc.enc) (l:=l) (i:=i) (a:=⟨⟨W,H,T,K⟩,C⟩)).symm
theorem Zfz (l:List Zc) (pW pH:Int) (pT:Bool) (pK:Int) (c:Int) (hl:l.length≤1048576) (hc:∀ x∈l,R64 (x.Count+c)):Zd Xs Ms 142 [(.d (.sl (l.map Zc.enc))),(.d (.agg [J pW,J pH,.bool pT,J pK])),(.d (J c))] [] =
  some (.own 0,[.row 5 ((YB (Pane.mk pW pH pT pK) c l).map Zc.enc) true false]):=by
 have ag:l.length*40≤140737488355328∧l.length≤140737488355328:=by omega
 have ah:(l.length+1)*40≤140737488355328∧l.length≤140737488355327:=by omega
 refine cE ?_;simp +contextual -implicitDefEqProofs only[go_sem,seval,Zg9,ag];refine LO (α:=Nat) (fun k=>[(8,.d (J (k:Int)))]) (fun _=>[]) (fun k=>k≤l.length∧(Pane.mk pW pH pT pK)∉(l.take k).map Zc.Pane) (fun k=>l.length-k) 0 ⟨by simp,by simp⟩ ?_;intro k ⟨hk,hp⟩ ih;by_cases aa:k<l.length
 ·obtain⟨x,hx⟩:=Zp aa;have hw:=Zg (k:=k) (by omega);have ab:=hc x (Kc hx);have ad:=ZaK hx;have ae:=Zxy (Pane.mk pW pH pT pK) c l k x hx;obtain⟨⟨W,H,T,K⟩,C⟩:=x;simp only at ab ad ae;have u0:=wi (C+c) ab.1 ab.2;by_cases he:(⟨W,H,T,K⟩:Pane)=(Pane.mk pW pH pT pK)
  ·rw[ae he hp];have af:=he;simp only[Pane.mk.injEq] at he;simp +contextual -implicitDefEqProofs only[go_sem,seval,hx,aa,hw,he,u0,ZFj];try (simp[he];done)
  ·have af:=he;simp only[Pane.mk.injEq] at he;simp +contextual -implicitDefEqProofs only[go_sem,seval,hx,aa,hw,he];refine ih (k+1) _ ⟨by omega,?_⟩ (by omega) ?_
   ·rw[ad,Ki];intro h;rcases h with h | h
    ·exact hp h
    ·exact af (KE.1 h).symm
   ·simp +contextual -implicitDefEqProofs only[go_sem,seval]
 ·have:k=l.length:=by omega
  subst this;rw[KJ (Kp _)] at hp;rw[Zxz (Pane.mk pW pH pT pK) c l hp];simp +contextual -implicitDefEqProofs only[go_sem,seval,ah];try (simp[Zc.enc];done)
theorem ZuB (l:List Zb) (qL qW qH:Int) (qF:List Box) (hl:l.length≤100000) (hF:∀ x∈l,x.Flaws.length≤1048576) (hq:qF.length≤1048576):Zd Xs Ms 193 [(.d (.sl (l.map Zb.enc))),(.d (.agg [J qL,J qW,J qH,.sl (qF.map Box.enc)]))] [] =
  some (.own 0,[.row 4 ((QC (Zb.mk qL qW qH qF) l).map Zb.enc) true false]):=by
 have eq:=Vg qL qW qH qF hq;refine cE ?_;simp +contextual -implicitDefEqProofs only[go_sem,seval,Zhm];refine LO (α:=Nat×Bool×List Zb) (fun s=>[(7,.d (J (s.1:Int))),(6,.d (.bool s.2.1))]) (fun s=>[(0,.row 4 (s.2.2.map Zb.enc) true false)]) (fun s=>s.1≤l.length∧s.2.2++(if s.2.1 then l.drop s.1 else QC (Zb.mk qL qW qH qF) (l.drop s.1))=QC (Zb.mk qL qW qH qF) l∧s.2.2.length≤s.1+s.2.1.toNat) (fun s=>l.length-s.1) (0,false,[]) ⟨by simp,by simp,by simp⟩ ?_;intro⟨i,b,o⟩ ⟨hi,hp,ho⟩ ih;simp only at hi hp ho;have hb:=Bool.toNat_le b;by_cases aa:i<l.length
 ·obtain⟨x,hx⟩:=Zp aa;have hw:=Zg (k:=i) (by omega);have hr:(o.length+1)*48≤140737488355328∧o.length≤140737488355327:=by omega
  have ab:∀ n:Nat,n=o.length+1→(n+1)*48≤140737488355328∧n≤140737488355327:=fun n hn=>by omega
  have ab:=ab _ rfl;have ad:o.length≤140737488355326:=by omega
  have e:=Vg x.Label x.W x.H x.Flaws (hF x (Kc hx));rw[ZrO hx] at hp;have hd:l.drop i=x :: l.drop (i+1):=by
   obtain⟨h1,h2⟩:=Kb.1 hx;rw[Ku h1,h2]
  obtain⟨L,W,H,F⟩:=x;simp only at e hp;cases b with
  | true=>
   simp only[Bool.toNat_true] at ho;rw[Kg rfl] at hp;simp +contextual -implicitDefEqProofs only[go_sem,seval,hx,aa,hw,e,hr];refine ih (i+1,true,o++[⟨L,W,H,F⟩]) _ ⟨by simp only;omega,?_,by simp;omega⟩ (by simp only;omega) ?_
   ·rw[← hp,hd];simp
   ·simp +contextual -implicitDefEqProofs only[go_sem,seval];try (simp[Zb.enc];done)
  | false=>
   simp only[Bool.toNat_false] at ho;rw[Kd (by simp)] at hp;by_cases hc:qL<L
   ·rw[Kg hc] at hp;simp +contextual -implicitDefEqProofs only[go_sem,seval,hx,aa,hw,e,eq,hc,hr,ab,ad];refine ih (i+1,true,o++[(Zb.mk qL qW qH qF),⟨L,W,H,F⟩]) _ ⟨by simp only;omega,?_,by simp;omega⟩ (by simp only;omega) ?_
    ·rw[← hp,hd];simp
    ·simp +contextual -implicitDefEqProofs only[go_sem,seval];try (simp[Zb.enc];done)
   ·rw[Kd hc] at hp;simp +contextual -implicitDefEqProofs only[go_sem,seval,hx,aa,hw,e,hc,hr];refine ih (i+1,false,o++[⟨L,W,H,F⟩]) _ ⟨by simp only;omega,?_,by simp;omega⟩ (by simp only;omega) ?_
    ·rw[← hp];simp
    ·simp +contextual -implicitDefEqProofs only[go_sem,seval];try (simp[Zb.enc];done)
 ·have:i=l.length:=by omega
  subst this;have hr:(o.length+1)*48≤140737488355328∧o.length≤140737488355327:=by omega
  cases b with
  | true=>
   simp at hp;simp +contextual -implicitDefEqProofs only[go_sem,seval];rw[hp]
  | false=>
   simp[QC] at hp;simp +contextual -implicitDefEqProofs only[go_sem,seval,eq,hr];rw[← hp];try (simp[Zb.enc];done)
def VC (p:Zb) (l:List Zb):Prop:=(VSt l∧VPc p)∧VSt (QC p l)
instance (p:Zb) (l:List Zb):Decidable (VC p l):=by unfold VC;infer_instance
theorem ZfA (l:List Zb) (qL qW qH:Int) (qF:List Box) (hl:l.length≤100000) (hS:∀ x∈l,x.Flaws.length≤1048576∧R64 x.W∧R64 x.H) (hq:qF.length≤1048576∧R64 qW∧R64 qH):Zd Xs Ms 141 [(.d (.sl (l.map Zb.enc))),(.d (.agg [J qL,J qW,J qH,.sl (qF.map Box.enc)]))] [] =
  some (.tup [.own 0,(.d (.bool (decide (VC (Zb.mk qL qW qH qF) l))))],[.row 4 ((if VC (Zb.mk qL qW qH qF) l then QC (Zb.mk qL qW qH qF) l else []).map Zb.enc) true false]):=by
 have e1:=YQ l (by omega) (fun x hx=>⟨by have:=(hS x hx).1;omega,(hS x hx).2⟩);have e2:=Zic qL qW qH qF (by omega) hq.2.1 hq.2.2;have e3:=ZuB l qL qW qH qF hl (fun x hx=>(hS x hx).1) hq.1;have e4:=YQ (QC (Zb.mk qL qW qH qF) l) (by rw[ZnU];omega) (fun x hx=>by
  rcases ZvX _ _ _ hx with rfl | hx
  ·exact⟨by simp only;omega,hq.2⟩
  ·exact⟨by have:=(hS x hx).1;omega,(hS x hx).2⟩)
 refine cE ?_;by_cases v1:VSt l
 ·rw[Kh v1] at e1;by_cases v2:VPc (Zb.mk qL qW qH qF)
  ·rw[Kh v2] at e2;by_cases v3:VSt (QC (Zb.mk qL qW qH qF) l)
   ·rw[Kh v3] at e4;have h:VC (Zb.mk qL qW qH qF) l:=⟨⟨v1,v2⟩,v3⟩
    rw[Kh h,Kg h];simp +contextual -implicitDefEqProofs only[go_sem,seval,Ul,e1,e2,e3,e4]
   ·rw[Kj v3] at e4;have h:¬VC (Zb.mk qL qW qH qF) l:=fun h=>v3 h.2;rw[Kj h,Kd h];simp +contextual -implicitDefEqProofs only[go_sem,seval,Ul,e1,e2,e3,e4]
  ·rw[Kj v2] at e2;have h:¬VC (Zb.mk qL qW qH qF) l:=fun h=>v2 h.1.2;rw[Kj h,Kd h];simp +contextual -implicitDefEqProofs only[go_sem,seval,Ul,e1,e2]
 ·rw[Kj v1] at e1;have h:¬VC (Zb.mk qL qW qH qF) l:=fun h=>v1 h.1.1;rw[Kj h,Kd h];simp +contextual -implicitDefEqProofs only[go_sem,seval,Ul,e1]
theorem ZxA (l:List Zb) (hl:l.length≤1048576) (hF:∀ x∈l,x.Flaws.length≤1048576):Zd Xs Ms 95 [(.d (.sl (l.map Zb.enc))),(.d (J ((-1))))] []=some (.own 0,[.row 4 (l.map Zb.enc) true false]):=by
 refine cE ?_;simp +contextual -implicitDefEqProofs only[go_sem,seval,Zfc];refine LO (α:=Nat) (fun i=>[(6,.d (J (i:Int)))]) (fun i=>[(0,.row 4 ((l.take i).map Zb.enc) true false)]) (fun i=>i≤l.length) (fun i=>l.length-i) 0 (by omega) ?_;intro i hi ih;by_cases aa:i<l.length
 ·obtain⟨x,hx⟩:=Zp aa;have hw:=Zg (k:=i) (by omega);have ab:¬(i:Int)=-1:=by omega
  have hm:l.take (i+1)=l.take i++[x]:=by rw[KB,hx];simp
  have ad:(l.take i).length≤i:=by simp;omega
  have hr:((l.take i).length+1)*48≤140737488355328∧(l.take i).length≤140737488355327:=by omega
  have e:=Vg x.Label x.W x.H x.Flaws (hF x (Kc hx));obtain⟨L,W,H,F⟩:=x;simp only at e;simp +contextual -implicitDefEqProofs only[go_sem,seval,hx,aa,hw,ab,e,hr];refine ih (i+1) _ (by omega) (by omega) ?_;simp +contextual -implicitDefEqProofs only[go_sem,seval,hm]
  first | rfl | (simp;done) | (simp;rfl)
 ·have:i=l.length:=by omega
  subst this;simp +contextual -implicitDefEqProofs only[go_sem,seval];simp
theorem V7 (sS:List Zb) (sO sD:List Zc) (sL sC:Int) (hs:ZaL (Zq.mk sS sO sD sL sC)):Zd Xs Ms 50 [(.d (.agg [.sl (sS.map Zb.enc),.sl (sO.map Zc.enc),.sl (sD.map Zc.enc),J sL,J sC]))] []=some (.agg [.own 0,.own 1,.own 2,(.d (J sL)),(.d (J sC))],[.row 4 (sS.map Zb.enc) true false,.row 5 (sO.map Zc.enc) true false,.row 5 (sD.map Zc.enc) true false]):=by
 obtain⟨h1,h2,h3,h4⟩:=hs;simp only at h1 h2 h3 h4;have e1:=ZxA sS h1 (fun x hx=>(h2 x hx).1);have r1:sO.length*40≤140737488355328∧sO.length≤140737488355328:=by omega
 have r2:sD.length*40≤140737488355328∧sD.length≤140737488355328:=by omega
 refine cE ?_;simp +contextual -implicitDefEqProofs only[go_sem,seval,Zht,ZtE,e1,r1,r2]
theorem Zzv (sS:List Zb) (sO sD:List Zc) (sL sC:Int) (a:Nat) (qL qW qH:Int) (qF:List Box) (hx:sS[a]?=some (Zb.mk qL qW qH qF)) (hl:sO.length≤1048576) (hS:sS.length≤1048576):Zd Xs Ms 144 [(.d (.agg [.sl (sS.map Zb.enc),.sl (sO.map Zc.enc),.sl (sD.map Zc.enc),J sL,J sC])),(.d (J a))] []=some (.agg [(.d (J qW)),(.d (J qH)),.own 0],[.row 4 ((sO.map Zc.Pane).map Pane.enc) true false]):=by
 have aa:=(Kb.1 hx).1;refine cE ?_;simp +contextual -implicitDefEqProofs only[go_sem,seval,Zlo,hx,aa];refine LO (α:=Nat) (fun i=>[(6,.d (J (i:Int)))]) (fun i=>[(3,.row 4 (((sO.take i).map Zc.Pane).map Pane.enc) true false)]) (fun i=>i≤sO.length) (fun i=>sO.length-i) 0 (by omega) ?_;intro i hi ih;by_cases aa:i<sO.length
 ·obtain⟨x,hx⟩:=Zp aa;have hw:=Zg (k:=i) (by omega);have hm:=ZaK hx;have ab:(sO.take i).length≤i:=by simp;omega
  have hr:((sO.take i).length+1)*32≤140737488355328∧(sO.take i).length≤140737488355327:=by omega
  obtain⟨⟨W,H,T,K⟩,C⟩:=x;simp only at hm;simp +contextual -implicitDefEqProofs only[go_sem,seval,hx,aa,hw,hr];refine ih (i+1) _ (by omega) (by omega) ?_;simp +contextual -implicitDefEqProofs only[go_sem,seval,hm]
  first | rfl | (simp;done) | (simp;rfl)
 ·have:i=sO.length:=by omega
  subst this;simp +contextual -implicitDefEqProofs only[go_sem,seval];simp
def SmS (s:Zq):Prop:=ZaL s∧s.Stock.length≤100000∧-1000000000≤s.Lost∧s.Lost≤1000000000∧-1000000000≤s.Came∧s.Came≤1000000000
theorem ZjR {s:Zq} (h:ZK s):SmS s:=⟨ZdW h,by have:=h.1.1;omega,by have:=h.2.2.2.1;omega,by have:=h.2.2.2.2.1;omega,by have:=h.2.2.2.2.2.1;omega,by have:=h.2.2.2.2.2.2.1;omega⟩
def I5 (n:Int):Prop:=-100000≤n∧n≤100000
theorem ZFk {a b:Int} (ha:I5 a) (hb:I5 b) : -10000000000≤a*b∧a*b≤10000000000:=by
 unfold I5 at ha hb;have h1:a.natAbs≤100000:=by omega
 have h2:b.natAbs≤100000:=by omega
 have h3:(a*b).natAbs≤100000*100000:=by rw[Int.natAbs_mul];exact Nat.mul_le_mul h1 h2
 omega
theorem ZFl {a:Int} (h:I5 a):R64 a:=by unfold I5 at h;unfold R64;omega
theorem Zlc (sS:List Zb) (sO sD:List Zc) (sL sC:Int) (eK eL eX eY eW eH aa ab:Int) (ad:Bool) (ae eC eo ea ep:Int) (et:Bool) (ek:List Ze) (hs:SmS (Zq.mk sS sO sD sL sC)) (hk:eK=0) (hW:I5 eW) (hH:I5 eH):Zd Xs Ms 100 [(.d (.agg [.sl (sS.map Zb.enc),.sl (sO.map Zc.enc),.sl (sD.map Zc.enc),J sL,J sC])),(.d (.agg [J eK,J eL,J eX,J eY,J eW,J eH,J aa,J ab,.bool ad,J ae,J eC,J eo,J ea,J ep,.bool et,.sl (ek.map Ze.enc)]))] [] =
  some (.tup [.agg [.own 0,.d (.sl (sO.map Zc.enc)),.d (.sl (sD.map Zc.enc)),(.d (J sL)),(.d (J (sC+eW*eH)))],(.d (.bool (decide ((VC ⟨eL,eW,eH,[]⟩ sS∧eX=0)∧eY=0))))],[.row 4 ((if VC ⟨eL,eW,eH,[]⟩ sS then QC ⟨eL,eW,eH,[]⟩ sS else []).map Zb.enc) true false]):=by
 obtain⟨⟨h1,h2,h3,h4⟩,h5,h6,h7,h8,h9⟩:=hs;simp only at h1 h2 h3 h4 h5 h6 h7 h8 h9;subst hk;have hm:=ZFk hW hH;have e1:=XX sS eL (by omega);have e2:=ZfA sS eL eW eH [] h5 h2 ⟨by simp,ZFl hW,ZFl hH⟩;have u1:=wi (eW*eH) (by omega) (by omega);have u2:=wi (sC+eW*eH) (by omega) (by omega);simp only[Ks] at e2;generalize (if VC ⟨eL,eW,eH,[]⟩ sS then QC ⟨eL,eW,eH,[]⟩ sS else [])=R at e2 ⊢;by_cases v1:VC ⟨eL,eW,eH,[]⟩ sS
 ·rw[Kh v1] at e2;refine cE ?_;by_cases v2:eX=0
  ·simp +contextual -implicitDefEqProofs only[go_sem,seval,Xx,e1,e2,u1,u2,v2]
   all_goals simp[v1]
  ·simp +contextual -implicitDefEqProofs only[go_sem,seval,Xx,e1,e2,u1,u2,v2]
   all_goals simp
 ·rw[Kj v1] at e2;refine cE ?_;simp +contextual -implicitDefEqProofs only[go_sem,seval,Xx,e1,e2,u1,u2,v1]
theorem Zp6 (sS:List Zb) (sO sD:List Zc) (sL sC:Int) (eK eL eX eY eW eH aa ab:Int) (ad:Bool) (ae eC eo ea ep:Int) (et:Bool) (ek:List Ze) (hs:SmS (Zq.mk sS sO sD sL sC)) (hk:¬eK=0) (hf:QB 0 sS eL<0):Zd Xs Ms 100 [(.d (.agg [.sl (sS.map Zb.enc),.sl (sO.map Zc.enc),.sl (sD.map Zc.enc),J sL,J sC])),(.d (.agg [J eK,J eL,J eX,J eY,J eW,J eH,J aa,J ab,.bool ad,J ae,J eC,J eo,J ea,J ep,.bool et,.sl (ek.map Ze.enc)]))] [] =
  some (.tup [.agg [.own 0,.own 1,.own 2,(.d (J 0)),(.d (J 0))],(.d (.bool false))],[.row 4 [] true false,.row 5 [] true false,.row 5 [] true false]):=by
 have e1:=XX sS eL (by have:=hs.2.1;simp only at this;omega);refine cE ?_;simp +contextual -implicitDefEqProofs only[go_sem,seval,Xx,e1,hk,hf]
theorem Zld (sS:List Zb) (sO sD:List Zc) (sL sC:Int) (eK eL eX eY eW eH aa ab:Int) (ad:Bool) (ae eC eo ea ep:Int) (et:Bool) (ek:List Ze) (hs:SmS (Zq.mk sS sO sD sL sC)) (hk:eK=5) (a:Nat) (hf:QB 0 sS eL=(a:Int)) (qL qW qH:Int) (qF:List Box) (hx:sS[a]?=some (Zb.mk qL qW qH qF)) (hW:I5 qW) (hH:I5 qH):Zd Xs Ms 100 [(.d (.agg [.sl (sS.map Zb.enc),.sl (sO.map Zc.enc),.sl (sD.map Zc.enc),J sL,J sC])),(.d (.agg [J eK,J eL,J eX,J eY,J eW,J eH,J aa,J ab,.bool ad,J ae,J eC,J eo,J ea,J ep,.bool et,.sl (ek.map Ze.enc)]))] [] =
  some (.tup [.agg [.own 0,.d (.sl (sO.map Zc.enc)),.d (.sl (sD.map Zc.enc)),(.d (J (sL+qW*qH))),(.d (J sC))],(.d (.bool true))],[.row 4 ((sS.eraseIdx a).map Zb.enc) true false]):=by
 obtain⟨⟨h1,h2,h3,h4⟩,h5,h6,h7,h8,h9⟩:=hs;simp only at h1 h2 h3 h4 h5 h6 h7 h8 h9;subst hk;have hm:=ZFk hW hH;have e1:=XX sS eL (by omega);rw[hf] at e1;have af:=(Kb.1 hx).1;have h0:¬(a:Int)<0:=by omega
 have e2:=Vg qL qW qH qF (h2 _ (Kc hx)).1;have e3:=ZgV sS a h1 (fun x hx=>(h2 x hx).1);have u1:=wi (qW*qH) (by omega) (by omega);have u2:=wi (sL+qW*qH) (by omega) (by omega);refine cE ?_;simp +contextual -implicitDefEqProofs only[go_sem,seval,Xx,e1,e2,e3,h0,af,hx,u1,u2]
theorem Zml (sS:List Zb) (sO sD:List Zc) (sL sC:Int) (eK eL eX eY eW eH ab ad:Int) (ae:Bool) (af eC eo ea ep:Int) (et:Bool) (ek:List Ze) (hv:ZK (Zq.mk sS sO sD sL sC)) (hk:eK=1) (a:Nat) (hf:QB 0 sS eL=(a:Int)) (qL qW qH:Int) (qF:List Box) (hx:sS[a]?=some (Zb.mk qL qW qH qF)):Zd Xs Ms 100 [(.d (.agg [.sl (sS.map Zb.enc),.sl (sO.map Zc.enc),.sl (sD.map Zc.enc),J sL,J sC])),(.d (.agg [J eK,J eL,J eX,J eY,J eW,J eH,J ab,J ad,.bool ae,J af,J eC,J eo,J ea,J ep,.bool et,.sl (ek.map Ze.enc)]))] [] =
  some (.tup [.agg [.own 0,.d (.sl (sO.map Zc.enc)),.d (.sl (sD.map Zc.enc)),(.d (J sL)),(.d (J sC))],(.d (.bool (decide (VC ⟨qL,qW,qH,qF++[⟨eX,eY,eW,eH⟩]⟩ (sS.eraseIdx a)))))],[.row 4 ((if VC ⟨qL,qW,qH,qF++[⟨eX,eY,eW,eH⟩]⟩ (sS.eraseIdx a) then QC ⟨qL,qW,qH,qF++[⟨eX,eY,eW,eH⟩]⟩ (sS.eraseIdx a) else []).map Zb.enc) true false]):=by
 obtain⟨⟨h1,h2,h3,h4⟩,h5,h6,h7,h8,h9⟩:=ZjR hv;simp only at h1 h2 h3 h4 h5 h6 h7 h8 h9;subst hk;have e1:=XX sS eL (by omega);rw[hf] at e1;have ag:=(Kb.1 hx).1;have h0:¬(a:Int)<0:=by omega
 have aa:=h2 _ (Kc hx);simp only at aa;have ai:=ZnR sS a;have e2:=Vg qL qW qH qF aa.1;have e3:=ZgV sS a h1 (fun x hx=>(h2 x hx).1);have hr:(qF.length+1)*32≤140737488355328∧qF.length≤140737488355327:=by omega
 have ah:=(ZW hv.1.2 _ (Kc hx)).1.2.2.2.2.2.2;simp only at ah;have e4:=ZfA (sS.eraseIdx a) qL qW qH (qF++[⟨eX,eY,eW,eH⟩]) (by omega) (fun x hx=>h2 x (Kae hx)) ⟨by simp;omega,aa.2⟩;rw[KI] at e4;simp only[Kk,Ks,Box.enc] at e4;generalize (if VC ⟨qL,qW,qH,qF++[⟨eX,eY,eW,eH⟩]⟩ (sS.eraseIdx a) then QC ⟨qL,qW,qH,qF++[⟨eX,eY,eW,eH⟩]⟩ (sS.eraseIdx a) else [])=R at e4 ⊢;generalize decide (VC ⟨qL,qW,qH,qF++[⟨eX,eY,eW,eH⟩]⟩ (sS.eraseIdx a))=V at e4 ⊢;refine cE ?_;simp +contextual -implicitDefEqProofs only[go_sem,seval,Xx,e1,e2,e3,e4,h0,ag,hx,hr]
def VT (l:Zc):Prop:=VP l.Pane∧1≤l.Count∧l.Count≤24
instance (l:Zc):Decidable (VT l):=by unfold VT;infer_instance
theorem Zp7 (sS:List Zb) (sO sD:List Zc) (sL sC:Int) (eK eL eX eY eW eH aa ab:Int) (ad:Bool) (ae eC eo ea ep:Int) (et:Bool) (ek:List Ze) (hl:¬VT ⟨⟨aa,ab,ad,ae⟩,eC⟩):Zd Xs Ms 101 [(.d (.agg [.sl (sS.map Zb.enc),.sl (sO.map Zc.enc),.sl (sD.map Zc.enc),J sL,J sC])),(.d (.agg [J eK,J eL,J eX,J eY,J eW,J eH,J aa,J ab,.bool ad,J ae,J eC,J eo,J ea,J ep,.bool et,.sl (ek.map Ze.enc)]))] [] =
  some (.tup [.agg [.own 0,.own 1,.own 2,(.d (J 0)),(.d (J 0))],(.d (.bool false))],[.row 4 [] true false,.row 5 [] true false,.row 5 [] true false]):=by
 have e1:=Vf aa ab ad ae;have e2:=Zv eC 1 24;refine cE ?_;by_cases v1:VP ⟨aa,ab,ad,ae⟩
 ·have v2:¬(1≤eC∧eC≤24):=fun h=>hl ⟨v1,h⟩;rw[Kh v1] at e1;rw[Kj v2] at e2;simp +contextual -implicitDefEqProofs only[go_sem,seval,Wc,e1,e2]
 ·rw[Kj v1] at e1;simp +contextual -implicitDefEqProofs only[go_sem,seval,Wc,e1]
theorem Zmm (sS:List Zb) (sO sD:List Zc) (sL sC:Int) (eK eL eX eY eW eH aa ab:Int) (ad:Bool) (ae eC eo ea ep:Int) (et:Bool) (ek:List Ze) (hv:ZK (Zq.mk sS sO sD sL sC)) (hl:VT ⟨⟨aa,ab,ad,ae⟩,eC⟩) (hk:eK=2):Zd Xs Ms 101 [(.d (.agg [.sl (sS.map Zb.enc),.sl (sO.map Zc.enc),.sl (sD.map Zc.enc),J sL,J sC])),(.d (.agg [J eK,J eL,J eX,J eY,J eW,J eH,J aa,J ab,.bool ad,J ae,J eC,J eo,J ea,J ep,.bool et,.sl (ek.map Ze.enc)]))] [] =
  some (.tup [.agg [.d (.sl (sS.map Zb.enc)),.own 0,.d (.sl (sD.map Zc.enc)),(.d (J sL)),(.d (J sC))],(.d (.bool true))],[.row 5 ((YB ⟨aa,ab,ad,ae⟩ eC sO).map Zc.enc) true false]):=by
 have e1:=Vf aa ab ad ae;have e2:=Zv eC 1 24;rw[Kh hl.1] at e1;rw[Kh hl.2] at e2;subst hk;have e3:=Zfz sO aa ab ad ae eC (by have:=hv.2.1.1;simp only at this;omega) (fun x hx=>by have:=(Z5 hv.2.1 x hx).2;have:=hl.2;simp only at this;unfold R64;omega);refine cE ?_;simp +contextual -implicitDefEqProofs only[go_sem,seval,Wc,e1,e2,e3]
theorem Zmn (sS:List Zb) (sO sD:List Zc) (sL sC:Int) (eK eL eX eY eW eH aa ab:Int) (ad:Bool) (ae eC eo ea ep:Int) (et:Bool) (ek:List Ze) (hv:ZK (Zq.mk sS sO sD sL sC)) (hl:VT ⟨⟨aa,ab,ad,ae⟩,eC⟩) (hk:¬eK=2):Zd Xs Ms 101 [(.d (.agg [.sl (sS.map Zb.enc),.sl (sO.map Zc.enc),.sl (sD.map Zc.enc),J sL,J sC])),(.d (.agg [J eK,J eL,J eX,J eY,J eW,J eH,J aa,J ab,.bool ad,J ae,J eC,J eo,J ea,J ep,.bool et,.sl (ek.map Ze.enc)]))] [] =
  some (.tup [.agg [.d (.sl (sS.map Zb.enc)),.own 0,.own 1,(.d (J (sL+eC*aa*ab))),(.d (J sC))],(.d (.bool (Xr ⟨aa,ab,ad,ae⟩ eC false sD)))],[.row 5 ((YB ⟨aa,ab,ad,ae⟩ eC sO).map Zc.enc) true false,.row 5 ((XY sD ⟨aa,ab,ad,ae⟩ eC).map Zc.enc) true false]):=by
 have e1:=Vf aa ab ad ae;have e2:=Zv eC 1 24;rw[Kh hl.1] at e1;rw[Kh hl.2] at e2;have af:=ZdA hl;have h6:=hv.2.2.2;simp only at af h6;have e3:=Zfz sO aa ab ad ae eC (by have:=hv.2.1.1;simp only at this;omega) (fun x hx=>by have:=(Z5 hv.2.1 x hx).2;have:=hl.2;simp only at this;unfold R64;omega);have e4:=ZiG sD aa ab ad ae eC (by have:=hv.2.2.1.1;simp only at this;omega) (fun x hx=>by have:=(Z5 hv.2.2.1 x hx).2;have:=hl.2;simp only at this;unfold R64;omega);have u0:=wi (eC*aa) (by omega) (by omega);have u1:=wi (eC*aa*ab) (by omega) (by omega);have u2:=wi (sL+eC*aa*ab) (by omega) (by omega)
 refine cE ?_;simp +contextual -implicitDefEqProofs only[go_sem,seval,Wc,e1,e2,e3,e4,hk,u0,u1,u2]
theorem ZbW {ps:List Pane}:∀ {b:BT} {x y w h:Int},XN ps b w h=true→∀ c∈plc b x y w h,∃ n:Nat,c.Pane=(n:Int)∧n<ps.length
 | .waste,x,y,w,h,hf,c,hc=>by simp[plc] at hc
 | .pane i t,x,y,w,h,hf,c,hc=>by
  simp only[plc,KE] at hc;subst hc;simp only[XN,XU,Kf,Ko] at hf;refine⟨i.toNat,by simp only;omega,?_⟩;rcases K3 i.toNat ps.length with h1 | h1
  ·exact h1
  ·rw[K8 h1] at hf;exact absurd hf.2 (by simp)
 | .cut d a l r,x,y,w,h,hf,c,hc=>by
  cases d
  ·simp only[XN,Kf,Ka,Kn] at hf;simp only[plc,Ka,Kn,Ki] at hc;rcases hc with hc | hc
   ·exact ZbW hf.1.2 c hc
   ·exact ZbW hf.2 c hc
  ·simp only[XN,Kf,Km] at hf;simp only[plc,Km,Ki] at hc;rcases hc with hc | hc
   ·exact ZbW hf.1.2 c hc
   ·exact ZbW hf.2 c hc
def UE:List Int→List L.Place→List Int
 | u,[]=>u
 | u,x :: l=>UE (u.set x.Pane.toNat (u[x.Pane.toNat]?.getD 0+1)) l
theorem ZrS {u:List Int} {l:List L.Place} {k:Nat} {x:L.Place} (hx:l[k]?=some x):UE u (l.drop k)=UE (u.set x.Pane.toNat (u[x.Pane.toNat]?.getD 0+1)) (l.drop (k+1)):=by
 obtain⟨h1,h2⟩:=Kb.1 hx;rw[Ku h1,h2,UE]
theorem ZvY {u:List Int} {l:List L.Place}:UE u (l.drop l.length)=u:=by simp[UE]
theorem ZvZ:∀ (l:List L.Place) (u:List Int),(UE u l).length=u.length
 | [],u=>rfl
 | x :: l,u=>by rw[UE,ZvZ l];simp
theorem Zv0:∀ (l:List L.Place) (u:List Int) (m:Int),(∀ v∈u,0≤v∧v≤m)→∀ v∈UE u l,0≤v∧v≤m+l.length
 | [],u,m,h,v,hv=>by have:=h v hv;simp;omega
 | x :: l,u,m,h,v,hv=>by
  have:=Zv0 l _ (m+1) (fun w hw=>by
   rcases List.mem_or_eq_of_mem_set hw with h1 | rfl
   ·have:=h w h1;omega
   ·cases hg:u[x.Pane.toNat]? with
    | none=>
     simp;have h0:∀ z:Int,0≤z→1≤z+1:=by omega
     by_cases hu:u=[]
     ·subst hu;simp at hw
     ·obtain⟨z,hz⟩:=List.exists_mem_of_ne_nil u hu;have:=h z hz;omega
    | some z=>have:=h z (Kc hg);simp;omega) v hv
  simp only[Kl];omega
theorem ZqO (u:List Int) (i:Nat) (v:Int):(u.map X3).set i (J v)=(u.set i v).map X3:=(Kax (f:=X3) (l:=u) (i:=i) (a:=v)).symm
theorem rep_int (n:Nat):List.replicate n (D.int .i64 0)=(List.replicate n (0:Int)).map X3:=by simp[X3]
def Zcx (k:Zw) (p:Ze):List Int:=UE (List.replicate k.Panes.length 0) ((Qs k p).filterMap Xi)
theorem ZeO {k:Zw} {p:Ze} (hv:Ve k p=true):(Zcx k p).length=k.Panes.length∧∀ v∈Zcx k p,0≤v∧v≤255:=by
 obtain⟨b,hb,ae,af,ab,ad,aa⟩:=QW hv;have hl:((Qs k p).filterMap Xi).length≤255:=by
  have:=Kr Xi (Qs k p);rw[aa,Jx] at this;rw[aa];omega
 refine⟨by unfold Zcx;rw[ZvZ];simp,fun v h=>?_⟩;have:=Zv0 _ _ 0 (fun w hw=>by rw[Kac hw];omega) v h;omega
theorem Zzw (kW kH:Int) (kP:List Pane) (p:Ze) (hv:Ve (Zw.mk kW kH kP) p=true):Zd Xs Ms 148 [(.d (.agg [J kW,J kH,.sl (kP.map Pane.enc)])),.d p.enc] []=some (.own 0,[.row 1 ((Zcx (Zw.mk kW kH kP) p).map X3) true false]):=by
 obtain⟨b,hb,af,ad,aj,aa,ab⟩:=QW hv;simp only at aa ab;have e:=ZkG kW kH kP p b af (by simp only[VW,inB] at ad ⊢;omega) aa (by omega);have ag:=ZbW (x:=0) (y:=0) aa;have an:kP.length≤24:=ad.2.2.2.2.1;have ak:(plc b 0 0 kW kH).length≤255:=by
  have:=Kr Xi (Qs (Zw.mk kW kH kP) p);rw[ab,Jx,YN] at this;omega
 unfold Zcx;rw[ab,YN];generalize plc b 0 0 kW kH=L at e ag ak ⊢;have al:(kP.length:Int)*((8:Nat):Int)≤((140737488355328:Nat):Int)∧kP.length≤140737488355328:=by omega
 have ae:(kP.length:Int)*8≤140737488355328∧(kP.length:Int)≤140737488355328:=by omega
 clear hv hb af ad ab aa;obtain⟨o,a,q,t,ks⟩:=p;rw[Ze.enc_mk] at e ⊢;refine cE ?_;simp +contextual -implicitDefEqProofs only[go_sem,seval,Zlp,e,rep_int,al,ae];refine LO (α:=Nat×List Int) (fun s=>[(7,.d (J (s.1:Int)))]) (fun s=>[(1,.row 1 (s.2.map X3) true false)]) (fun s=>s.1≤L.length∧s.2.length=kP.length∧(∀ v∈s.2,0≤v∧v≤s.1)∧UE s.2 (L.drop s.1)=UE (List.replicate kP.length 0) L) (fun s=>L.length-s.1) (0,List.replicate kP.length 0) ⟨by simp,by simp,fun w hw=>by rw[Kac hw];simp,by simp⟩ ?_;intro⟨i,u⟩ ⟨hi,hul,huv,hp⟩ ih;simp only at hi hul huv hp;by_cases ah:i<L.length
 ·obtain⟨x,hx⟩:=Zp ah;have hw:=Zg (k:=i) (by omega);obtain⟨n,hn,am⟩:=ag x (Kc hx);rw[ZrS hx,hn] at hp;obtain⟨q',t',⟨X,Y,W,H⟩⟩:=x;simp only at hn;subst hn;have ai:n<u.length:=by omega
  obtain⟨z,hz⟩:=Zp ai;have ao:=huv z (Kc hz);have u1:=wi (z+1) (by omega) (by omega);rw[Ky,hz] at hp;simp +contextual -implicitDefEqProofs only[go_sem,seval,hx,ah,hw,am,ai,hz,u1,ZqO,hul];refine ih (i+1,u.set n (z+1)) _ ⟨by simp only;omega,by simpa using hul,fun v hv=>?_,hp⟩ (by simp only;omega) ?_
  ·simp only;rcases List.mem_or_eq_of_mem_set hv with h1 | rfl
   ·have:=huv v h1;omega
   ·omega
  ·simp +contextual -implicitDefEqProofs only[go_sem,seval,KaB,ZqO]
 ·have:i=L.length:=by omega
  subst this;rw[ZvY] at hp;simp +contextual -implicitDefEqProofs only[go_sem,seval,hp]
def Zle:BT→Bool
 | .waste=>false
 | .pane _ _=>true
 | .cut _ _ l r=>Zle l || Zle r
theorem ZgX:∀ (b:BT),Zd Xs Ms 146 [.d b.plan.enc] []=some ((.d (.bool (Zle b))),[])
 | .waste=>by
  simp only[BT.plan,Ze.enc_mk];refine cE ?_;simp +contextual -implicitDefEqProofs only[go_sem,seval,Zb3,Xo,Zle]
 | .pane i t=>by
  simp only[BT.plan,Ze.enc_mk];refine cE ?_;simp +contextual -implicitDefEqProofs only[go_sem,seval,Zb3,Xo,Zle]
 | .cut d a l r=>by
  have e1:=ZgX l;have e2:=ZgX r;simp only[BT.plan,Ze.enc_mk];cases hb:Zle l<;>rw[hb] at e1<;>cases d <;>
  ·refine cE ?_;simp +contextual -implicitDefEqProofs only[go_sem,seval,Zb3,Xo,Zle,Qb,e1,e2,hb,Lx,Bool.true_or,LR]
theorem ZuC (kW kH:Int) (kP:List Pane) (p:Ze) (Zk:Int) (hv:Ve (Zw.mk kW kH kP) p=true) (h1:1≤Zk) (h2:Zk≤200):Zd Xs Ms 147 [(.d (.agg [J kW,J kH,.sl (kP.map Pane.enc)])),.d p.enc,(.d (J Zk))] [] =
  some ((.d (J (Yf (ZeK (Zw.mk kW kH kP) p Zk)))),[]):=by
 obtain⟨b,hb,ai,af,aj,aa,ad⟩:=QW hv;have am:kP.length≤24:=af.2.2.2.2.1;have ev:=Ziq kW kH kP p (by omega);rw[hv] at ev;have er:=Zv Zk 1 200;rw[Kh (show 1≤Zk∧Zk≤200 from ⟨h1,h2⟩)] at er;simp only at aa ad;have ep:=ZkH kW kH kP p b ai (by simp only[VW,inB] at af ⊢;omega) aa (by omega);have ab:=Zdw hv;have ag:((Qs (Zw.mk kW kH kP) p).filterMap X4).length≤255:=by
  have:=Kr X4 (Qs (Zw.mk kW kH kP) p);rw[ad,Jx] at this;rw[ad];omega
 rw[← Zga,← ad] at ep;unfold ZeK;generalize (Qs (Zw.mk kW kH kP) p).filterMap X4=L at ep ab ag ⊢;clear hv hb ai af ad aa;obtain⟨o,a,n,t,ks⟩:=p;rw[Ze.enc_mk] at ev ep ⊢;refine cE ?_;simp +contextual -implicitDefEqProofs only[go_sem,seval,Zhu,ev,ep,er];refine LO (α:=Nat) (fun i=>[(9,.d (J (i:Int))),(7,.d (J (Yf ((L.take i).filterMap (UB Zk)))))]) (fun _=>[]) (fun i=>i≤L.length) (fun i=>L.length-i) 0 (by omega) ?_;intro i hi ih;by_cases ah:i<L.length
 ·obtain⟨x,hx⟩:=Zp ah;have hw:=Zg (k:=i) (by omega);have hm:=Za7 (f:=UB Zk) hx;have ak:=ab x (Kc hx);have ha:=Zgc (l:=(L.take i).filterMap (UB Zk)) (fun c hc=>by
   obtain⟨d,hd,ae⟩:=Lw.1 hc;unfold UB at ae;split at ae
   ·cases ae;exact ab c (Lg hd)
   ·cases ae)
  have an:((L.take i).filterMap (UB Zk)).length≤i:=Kx (Kr _ _) (by simp;omega);have al:=Jy ak;obtain⟨X,Y,W,H⟩:=x;simp only at al;have w0:=wi (W*H) (by omega) (by omega);have w1:=wi (Yf ((L.take i).filterMap (UB Zk))+W*H) (by omega) (by omega);have es:=ZdR X Y W H Zk;simp only[UB] at hm;by_cases ho:W<Zk∨H<Zk
  ·rw[Kg ho] at hm;rw[Kj (show ¬(Zk≤W∧Zk≤H) by omega)] at es;simp +contextual -implicitDefEqProofs only[go_sem,seval,hx,ah,hw,es,w0,w1];refine ih (i+1) _ (by omega) (by omega) ?_;simp +contextual -implicitDefEqProofs only[go_sem,seval,hm,ZcE,Option.toList,Yf]
   first | rfl | (simp;done) | (simp;rfl)
  ·rw[Kd ho] at hm;rw[Kh (show Zk≤W∧Zk≤H by omega)] at es;simp +contextual -implicitDefEqProofs only[go_sem,seval,hx,ah,hw,es];refine ih (i+1) _ (by omega) (by omega) ?_;simp +contextual -implicitDefEqProofs only[go_sem,seval,hm,Option.toList,KF]
 ·have:i=L.length:=by omega
  subst this;simp +contextual -implicitDefEqProofs only[go_sem,seval];simp
def Vi:List Pane→List Int→List Zc→List Zc→Option (List Zc×List Zc)
 | p :: ps,c :: us,o,d=>if c=0 then Vi ps us o d else if Xr p c false o=true then Vi ps us (XY o p c) (YB p c d) else none
 | [],_,o,d=>some (o,d)
 | _,[],o,d=>some (o,d)
theorem Zlf {ps:List Pane} {us:List Int} {o d:List Zc} {k:Nat} {p:Pane} {c:Int} (hp:ps[k]?=some p) (hu:us[k]?=some c):Vi (ps.drop k) (us.drop k) o d=if c=0 then Vi (ps.drop (k+1)) (us.drop (k+1)) o d else if Xr p c false o=true then Vi (ps.drop (k+1)) (us.drop (k+1)) (XY o p c) (YB p c d) else none:=by
 obtain⟨h1,h2⟩:=Kb.1 hp;obtain⟨h3,h4⟩:=Kb.1 hu;rw[Ku h1,h2,Ku h3,h4,Vi]
theorem Zv1 {ps:List Pane} {us:List Int} {o d:List Zc}:Vi (ps.drop ps.length) us o d=some (o,d):=by
 rw[List.drop_length];unfold Vi;rfl
theorem ZnV {l:List Zc} {p:Pane} {c hi:Int} (hc:0≤c) (h:∀ x∈l,x.Count≤hi):∀ y∈XY l p c,0≤y.Count∧y.Count≤hi:=fun y hy=>by
 obtain⟨x,hx,e⟩:=Lw.1 hy;have:=h x hx;unfold ZiF at e;split at e
 ·split at e
  ·cases e;simp only;omega
  ·cases e
 ·split at e
  ·cases e;omega
  ·cases e
theorem Zmo {p:Pane} {c hi:Int} (hc:0≤c) (hh:0≤hi):∀ {l:List Zc},(∀ x∈l,0≤x.Count∧x.Count≤hi)→∀ y∈YB p c l,0≤y.Count∧y.Count≤hi+c
 | [],h,y,hy=>by simp[YB] at hy;subst hy;simp only;omega
 | x :: l,h,y,hy=>by
  have h1:=h x (by simp);unfold YB at hy;split at hy
  ·rcases Ke.1 hy with rfl | hy
   ·simp only;omega
   ·have:=h y (by simp[hy]);omega
  ·rcases Ke.1 hy with rfl | hy
   ·omega
   ·exact Zmo hc hh (fun z hz=>h z (by simp[hz])) y hy
def ZuD (p:Ze):Bool:=match QU p with
 | some b=>Zle b
 | none=>false
def ZeG (s:Zq) (e:Zn):Option Zq:=
 match s.Stock[(QB 0 s.Stock e.label).toNat]? with
 | none=>none
 | some x=>match ZbU s.Stock e.label ⟨x.W,x.H,s.Opn.map Zc.Pane⟩ e.plan 5 with
  | none=>none
  | some R=>if ZuD e.plan=true then
    match Vi (s.Opn.map Zc.Pane) (Zcx ⟨x.W,x.H,s.Opn.map Zc.Pane⟩ e.plan) s.Opn s.Done with
    | none=>none
    | some (o,d)=>some ⟨R,o,d,s.Lost+Yf (ZeK ⟨x.W,x.H,s.Opn.map Zc.Pane⟩ e.plan 5),s.Came⟩
   else none
def shV:Option Zq→AV×List Zm
 | some s=>(.tup [.agg [.own 0,.own 1,.own 2,(.d (J (s.Lost))),(.d (J (s.Came)))],(.d (.bool true))],[.row 4 (s.Stock.map Zb.enc) true false,.row 5 (s.Opn.map Zc.enc) true false,.row 5 (s.Done.map Zc.enc) true false])
 | none=>(.tup [.agg [.own 0,.own 1,.own 2,(.d (J 0)),(.d (J 0))],(.d (.bool false))],[.row 4 [] true false,.row 5 [] true false,.row 5 [] true false])
theorem Zv2 {l:List Zb} {n:Int} {k:Zw} {p:Ze} {Zk:Int} (h:QB 0 l n<0):ZbU l n k p Zk=none:=by
 unfold ZbU;rw[Kd (fun h'=>by omega)]
theorem Zmp {l:List Zb} {n:Int} {k:Zw} {p:Ze} {Zk:Int} {R:List Zb} (h:ZbU l n k p Zk=some R):Ve k p=true∧VSt R∧VSt l:=by
 unfold ZbU at h;split at h
 ·rename_i hc;split at h
  ·rename_i x hx;split at h
   ·rename_i hg;cases h;exact⟨hg.1.1,hg.2,hc.1⟩
   ·cases h
  ·cases h
 ·cases h
def WSh (s:Zq):Prop:=VSt s.Stock∧s.Opn.length≤9∧(∀ x∈s.Opn,VP x.Pane∧0≤x.Count∧x.Count≤24)∧JF s.Done∧-1≤s.Lost∧s.Lost≤900001∧-1≤s.Came∧s.Came≤900001
theorem ZCN {s:Zq} (h:ZK s):WSh s:=⟨h.1,by have:=h.2.1.1;omega,fun x hx=>by have:=Z5 h.2.1 x hx;exact⟨this.1,by omega,this.2.2⟩,h.2.2.1,by have:=h.2.2.2;omega,by have:=h.2.2.2;omega,by have:=h.2.2.2;omega,by have:=h.2.2.2;omega⟩
theorem ZCO {s:Zq} (h:WSh s):SmS s:=by
 obtain⟨h1,h2,_,h3,h4,h5,h6,h7⟩:=h;exact⟨⟨by have:=h1.1;omega,fun x hx=>⟨(Zdz h1).2 x hx,Zmk (ZW h1.2 x hx)⟩,by omega,by have:=h3.1;omega⟩,by have:=h1.1;omega,by omega,by omega,by omega,by omega⟩
theorem ZuE (sS:List Zb) (sO sD:List Zc) (sL sC:Int) (eK eL eX eY eW eH af ag:Int) (ah:Bool) (ai eC eo ea ep:Int) (et:Bool) (ek:List Ze) (hv:WSh (Zq.mk sS sO sD sL sC)):Zd Xs Ms 102 [(.d (.agg [.sl (sS.map Zb.enc),.sl (sO.map Zc.enc),.sl (sD.map Zc.enc),J sL,J sC])),(.d (.agg [J eK,J eL,J eX,J eY,J eW,J eH,J af,J ag,.bool ah,J ai,J eC,J eo,J ea,J ep,.bool et,.sl (ek.map Ze.enc)]))] []=some (shV (ZeG (Zq.mk sS sO sD sL sC) (Zn.mk eK eL (Box.mk eX eY eW eH) (Zc.mk (Pane.mk af ag ah ai) eC) (Ze.mk eo ea ep et ek)))):=by
 obtain⟨⟨h1,h2,h3,h4⟩,h5,h6,h7,h8,h9⟩:=ZCO hv;simp only at h1 h2 h3 h4 h5 h6 h7 h8 h9;have ao:=hv.2.1;have hO:=hv.2.2.1;have hD:=hv.2.2.2.1;simp only at hO hD ao;have ax:=hD.1;have e1:=XX sS eL (by omega);by_cases hf:QB 0 sS eL<0
 ·have ec:ZeG (Zq.mk sS sO sD sL sC) (Zn.mk eK eL (Box.mk eX eY eW eH) (Zc.mk (Pane.mk af ag ah ai) eC) (Ze.mk eo ea ep et ek))=none:=by
   unfold ZeG;simp only;split
   ·rfl
   ·rw[Zv2 hf]
  rw[ec];unfold shV;refine cE ?_;simp +contextual -implicitDefEqProofs only[go_sem,seval,Ug,e1,hf]
 ·obtain⟨a,x,ha,hx⟩:=ZbV (by omega:0≤QB 0 sS eL);rw[ha] at e1;have al:¬(a:Int)<0:=by omega
  have ay:=(Kb.1 hx).1;have e3:=Zuy sS eL x.W x.H (sO.map Zc.Pane) (.mk eo ea ep et ek) 5 (by have:=hv.1.1;simp only at this;omega) (fun y hy=>by
   have:=ZW hv.1.2 y hy;exact⟨Kx this.1.2.2.2.2.2.2 (by decide),Zmk this⟩) (by simp;omega)
  have ap:ZeG (Zq.mk sS sO sD sL sC) (Zn.mk eK eL (Box.mk eX eY eW eH) (Zc.mk (Pane.mk af ag ah ai) eC) (Ze.mk eo ea ep et ek))=match ZbU sS eL ⟨x.W,x.H,sO.map Zc.Pane⟩ (.mk eo ea ep et ek) 5 with
   | none=>none
   | some R=>if ZuD (.mk eo ea ep et ek)=true then
     match Vi (sO.map Zc.Pane) (Zcx ⟨x.W,x.H,sO.map Zc.Pane⟩ (.mk eo ea ep et ek)) sO sD with
     | none=>none
     | some (o,d)=>some ⟨R,o,d,sL+Yf (ZeK ⟨x.W,x.H,sO.map Zc.Pane⟩ (.mk eo ea ep et ek) 5),sC⟩
    else none:=by
   unfold ZeG;simp only[ha,Ky,hx]
  rw[ap];clear ap;obtain⟨xL,xW,xH,xF⟩:=x;simp only at e3 ⊢;have e2:=Zzv sS sO sD sL sC a xL xW xH xF hx h3 h1;cases hcs:ZbU sS eL ⟨xW,xH,sO.map Zc.Pane⟩ (.mk eo ea ep et ek) 5 with
  | none=>
   rw[hcs] at e3;unfold Zxw at e3;simp only;unfold shV;rw[Ze.enc_mk] at e3;refine cE ?_;simp +contextual -implicitDefEqProofs only[go_sem,seval,Ug,e1,al,e2,e3]
  | some R=>
   obtain⟨aa,az,_⟩:=Zmp hcs;rw[hcs] at e3;unfold Zxw at e3;simp only;obtain⟨b,hb,ar,a0,am,au,av⟩:=QW aa;have e4:=ZgX b;rw[← ar] at e4;have hh:ZuD (.mk eo ea ep et ek)=Zle b:=by unfold ZuD;rw[hb]
   rw[hh];have e5:=ZuC xW xH (sO.map Zc.Pane) (.mk eo ea ep et ek) 5 aa (by omega) (by omega);have e6:=Zzw xW xH (sO.map Zc.Pane) (.mk eo ea ep et ek) aa;have hu:=ZeO aa;have aw:=Zgc (l:=ZeK ⟨xW,xH,sO.map Zc.Pane⟩ (.mk eo ea ep et ek) 5) (fun c hc=>by
    obtain⟨z,hz,aj⟩:=Lw.1 hc;unfold UB at aj;split at aj
    ·cases aj;exact Zdw aa c hz
    ·cases aj)
   have a1:(ZeK ⟨xW,xH,sO.map Zc.Pane⟩ (.mk eo ea ep et ek) 5).length≤255:=by
    refine Kx (Kr _ _) (Kx (Kr _ _) ?_);rw[av,Jx];exact am
   generalize Yf (ZeK ⟨xW,xH,sO.map Zc.Pane⟩ (.mk eo ea ep et ek) 5)=A at e5 aw ⊢;generalize Zcx ⟨xW,xH,sO.map Zc.Pane⟩ (.mk eo ea ep et ek)=us at e6 hu ⊢;rw[Ze.enc_mk] at e3 e4 e5 e6;simp only[KC] at hu;have u1:=wi (sL+A) (by omega) (by omega);have r1:sO.length*40≤140737488355328∧sO.length≤140737488355328:=by omega
   have r2:sD.length*40≤140737488355328∧sD.length≤140737488355328:=by omega
   cases hhb:Zle b with
   | false=>
    rw[hhb] at e4;rw[Kd (by simp)];unfold shV;refine cE ?_;simp +contextual -implicitDefEqProofs only[go_sem,seval,Ug,e1,al,e2,e3,e4]
   | true=>
    rw[hhb] at e4;rw[Kg rfl];refine cE ?_;simp +contextual -implicitDefEqProofs (maxSteps:=10^7) only[go_sem,seval,Ug,ZtE,e1,al,e2,e3,e4,e5,e6,u1,r1,r2];refine LO (α:=Nat×List Zc×List Zc) (fun s=>[(12,.d (J (s.1:Int)))]) (fun s=>[(5,.row 5 (s.2.1.map Zc.enc) true false),(6,.row 5 (s.2.2.map Zc.enc) true false)]) (fun s=>s.1≤us.length∧Vi ((sO.map Zc.Pane).drop s.1) (us.drop s.1) s.2.1 s.2.2=Vi (sO.map Zc.Pane) us sO sD∧s.2.1.length≤9∧s.2.2.length≤8+s.1∧(∀ x∈s.2.1,0≤x.Count∧x.Count≤24)∧(∀ x∈s.2.2,0≤x.Count∧x.Count≤24+255*(s.1:Int))) (fun s=>us.length-s.1) (0,sO,sD) ⟨by simp,by simp,ao,by simp only;omega,fun x hx=>by have:=hO x hx;omega,fun x hx=>by have:=Z5 hD x hx;simp only;omega⟩ ?_
    intro⟨i,o,d⟩ ⟨hi,hp,ho8,hd8,hoc,hdc⟩ ih;simp only at hi hp ho8 hd8 hoc hdc;by_cases ab:i<us.length
    ·obtain⟨c,hc⟩:=Zp ab;have an:i<sO.length:=by omega
     obtain⟨y,hy⟩:=Zp an;have hw:=Zg (k:=i) (by omega);have hcb:=hu.2 c (Kc hc);have ak:(sO.map Zc.Pane)[i]?=some y.Pane:=by rw[K0,hy];rfl
     rw[Zlf ak hc] at hp;obtain⟨⟨W,H,T,K⟩,C⟩:=y;simp only at hp ak;by_cases ad:c=0
     ·rw[Kg ad] at hp;simp +contextual -implicitDefEqProofs only[go_sem,seval,ab,hc,ad,hw];refine ih (i+1,o,d) _ ⟨by simp only;omega,hp,ho8,by simp only;omega,hoc,fun x hx=>by have:=hdc x hx;simp only;omega⟩ (by simp only;omega) ?_;simp +contextual -implicitDefEqProofs only[go_sem,seval]
     ·rw[Kd ad] at hp;have et:=ZiG o W H T K c (by omega) (fun x hx=>by have:=hoc x hx;unfold R64;omega);have ea:=Zfz d W H T K c (by omega) (fun x hx=>by have:=hdc x hx;unfold R64;omega);by_cases ae:Xr ⟨W,H,T,K⟩ c false o=true
      ·rw[Kg ae] at hp;rw[ae] at et;simp +contextual -implicitDefEqProofs only[go_sem,seval,ab,hc,ad,hw,an,hy,ak,et,ea];refine ih (i+1,XY o ⟨W,H,T,K⟩ c,YB ⟨W,H,T,K⟩ c d) _ ⟨by simp only;omega,hp,Kx (Kr _ _) ho8,Kx (ZdV _ _ _) (by simp only;omega),ZnV hcb.1 (fun x hx=>(hoc x hx).2),fun x hx=>?_⟩ (by simp only;omega) ?_
       ·have:=Zmo hcb.1 (by omega) hdc x hx;simp only;omega
       ·simp +contextual -implicitDefEqProofs only[go_sem,seval]
      ·rw[Kd ae] at hp;simp only[LD] at ae;rw[ae] at et;simp +contextual -implicitDefEqProofs only[go_sem,seval,ab,hc,ad,hw,an,hy,ak,et,ea];rw[← hp];rfl
    ·have:i=sO.length:=by omega
     subst this;have aq:=@Zv1 (sO.map Zc.Pane) (us.drop sO.length) o d;rw[KC] at aq;rw[aq] at hp;rw[← hp];simp +contextual -implicitDefEqProofs only[go_sem,seval,ab];rfl
end Go.Proofs.YtfnegoimdljanaaGreatDoor
