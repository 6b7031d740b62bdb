import Derived.Test.YtfnegoimdljanaaGreatDoorBC5
set_option linter.unusedSimpArgs false
set_option linter.unusedVariables false
namespace Go.Proofs.YtfnegoimdljanaaGreatDoor
open Go Go.Abs Go.Abs.E Go.Abs.L
set_option maxRecDepth 20000
set_option maxHeartbeats 4000000
theorem Zii (l:List Zc) (pW pH:Int) (pT:Bool) (pK:Int) (c:Int) (hl:l.length≤1048576) (hc:∀ x∈l,R64 (x.Count-c)):v_ 143 [(.d (.sl (l.map Zc.enc))),(.d (.agg [J pW,J pH,.bool pT,J pK])),(.d (J c))] [] =
  some (.tup [.own 0,(.d (.bool (Xr (Pane.mk pW pH pT pK) c false l)))],[.row 5 ((XW l (Pane.mk pW pH pT pK) c).map Zc.enc) true false]):=by
 refine cE ?_;simp (maxSteps:=10^7) +contextual -implicitDefEqProofs only[go_sem,seval,Zkd];refine LO (α:=Nat×Bool) (fun s=>[(10,.d (J (s.1:Int))),(9,.d (.bool s.2))]) (fun s=>[(0,.row 5 ((XW (l.take s.1) (Pane.mk pW pH pT pK) c).map Zc.enc) true false)]) (fun s=>s.1≤l.length∧Xr (Pane.mk pW pH pT pK) c s.2 (l.drop s.1)=Xr (Pane.mk pW pH pT pK) c false l) (fun s=>l.length-s.1) (0,false) ⟨by simp,by simp⟩ ?_;intro⟨i,b⟩ ⟨hi,hp⟩ ih;simp only at hi hp;by_cases aa:i<l.length
 ·obtain⟨x,hx⟩:=Zn aa;have hw:=Zg (k:=i) o_;have hm:=Zz7 (Pane.mk pW pH pT pK) c hx;have ad:(XW (l.take i) (Pane.mk pW pH pT pK) c).length≤i:=Ky (Ks _ _) (by simp;omega);have hr:((XW (l.take i) (Pane.mk pW pH pT pK) c).length+1)*40≤140737488355328∧(XW (l.take i) (Pane.mk pW pH pT pK) c).length≤140737488355327:=o_
  have ab:=hc x (Kb hx);rw[Zyt hx] at hp;obtain⟨⟨W,H,T,K⟩,C⟩:=x;simp only[Zih] at hm hp ab;have u0:=wi (C-c) ab.1 ab.2;by_cases he:(⟨W,H,T,K⟩:Pane)=(Pane.mk pW pH pT pK)
  ·rw[Kg he] at hm hp;have ae:=he;simp only[Pane.mk.injEq] at he;by_cases h0:0<C-c
   ·have h1:0≤C-c:=o_
    rw[Kg h0] at hm;rw[Ki h1] at hp;simp +contextual -implicitDefEqProofs only[go_sem,seval,hx,aa,hw,he,u0,h0,h1,hr];refine ih (i+1,true) _ ⟨p_,hp⟩ p_ ?_;simp +contextual -implicitDefEqProofs only[go_sem,seval,hm,LS];try (simp[Zc.enc,he];done)
   ·rw[Kd h0] at hm;by_cases h1:0≤C-c
    ·rw[Ki h1] at hp;simp +contextual -implicitDefEqProofs only[go_sem,seval,hx,aa,hw,he,u0,h0,h1,hr];refine ih (i+1,true) _ ⟨p_,hp⟩ p_ ?_;simp +contextual -implicitDefEqProofs only[go_sem,seval,hm,Option.toList_none,KE]
    ·rw[Kk h1] at hp;simp +contextual -implicitDefEqProofs only[go_sem,seval,hx,aa,hw,he,u0,h0,h1,hr];refine ih (i+1,false) _ ⟨p_,hp⟩ p_ ?_;simp +contextual -implicitDefEqProofs only[go_sem,seval,hm,Option.toList_none,KE]
  ·rw[Kd he] at hm hp;simp only[Pane.mk.injEq] at he;by_cases h0:0<C
   ·rw[Kg h0] at hm;simp +contextual -implicitDefEqProofs only[go_sem,seval,hx,aa,hw,he,h0,hr];refine ih (i+1,b) _ ⟨p_,hp⟩ p_ ?_;simp +contextual -implicitDefEqProofs only[go_sem,seval,hm,LS];try (simp[Zc.enc];done)
   ·rw[Kd h0] at hm;simp +contextual -implicitDefEqProofs only[go_sem,seval,hx,aa,hw,he,h0,hr];refine ih (i+1,b) _ ⟨p_,hp⟩ p_ ?_;simp +contextual -implicitDefEqProofs only[go_sem,seval,hm,Option.toList_none,KE]
 ·have:i=l.length:=o_
  subst this;rw[Zz6] at hp;simp +contextual -implicitDefEqProofs only[go_sem,seval,hp];simp
theorem ZDV (l:List Zc) (i:Nat) (W H:Int) (T:Bool) (K C:Int):(l.map Zc.enc).set i (.agg [J W,J H,.bool T,J K,J C])=(l.set i ⟨⟨W,H,T,K⟩,C⟩).map Zc.enc:=(Kad (f:=Zc.enc) (l:=l) (i:=i) (a:=⟨⟨W,H,T,K⟩,C⟩)).symm
theorem Zd7 (l:List Zc) (pW pH:Int) (pT:Bool) (pK:Int) (c:Int) (hl:l.length≤1048576) (hc:∀ x∈l,R64 (x.Count+c)):v_ 142 [(.d (.sl (l.map Zc.enc))),(.d (.agg [J pW,J pH,.bool pT,J pK])),(.d (J c))] [] =
  some (.own 0,[.row 5 ((Yz (Pane.mk pW pH pT pK) c l).map Zc.enc) true false]):=by
 have ag:l.length*40≤140737488355328∧l.length≤140737488355328:=o_
 have ah:(l.length+1)*40≤140737488355328∧l.length≤140737488355327:=o_
 refine cE ?_;simp (maxSteps:=10^7) +contextual -implicitDefEqProofs only[go_sem,seval,ZmS,ag];refine LO (α:=Nat) (fun k=>[(8,.d (J (k:Int)))]) (fun _=>[]) (fun k=>k≤l.length∧(Pane.mk pW pH pT pK)∉(l.take k).map Zc.Pane) (fun k=>l.length-k) 0 ⟨by simp,by simp⟩ ?_;intro k ⟨hk,hp⟩ ih;by_cases aa:k<l.length
 ·obtain⟨x,hx⟩:=Zn aa;have hw:=Zg (k:=k) o_;have ab:=hc x (Kb hx);have ad:=Zan hx;have ae:=Zww (Pane.mk pW pH pT pK) c l k x hx;obtain⟨⟨W,H,T,K⟩,C⟩:=x;simp only at ab ad ae;have u0:=wi (C+c) ab.1 ab.2;by_cases he:(⟨W,H,T,K⟩:Pane)=(Pane.mk pW pH pT pK)
  ·rw[ae he hp];have af:=he;simp only[Pane.mk.injEq] at he;simp +contextual -implicitDefEqProofs only[go_sem,seval,hx,aa,hw,he,u0,ZDV];try (simp[he];done)
  ·have af:=he;simp only[Pane.mk.injEq] at he;simp +contextual -implicitDefEqProofs only[go_sem,seval,hx,aa,hw,he];refine ih (k+1) _ ⟨o_,?_⟩ o_ ?_
   ·rw[ad,Kj];intro h;rcases h with h | h
    ·exact hp h
    ·exact af (KD.1 h).symm
   ·simp +contextual -implicitDefEqProofs only[go_sem,seval]
 ·have:k=l.length:=o_
  subst this;rw[KH (Kr _)] at hp;rw[Zwx (Pane.mk pW pH pT pK) c l hp];simp +contextual -implicitDefEqProofs only[go_sem,seval,ah];try (simp[Zc.enc];done)
theorem ZtO (l:List Zb) (qL qW qH:Int) (qF:List Box) (hl:l.length≤100000) (hF:∀ x∈l,x.Flaws.length≤1048576) (hq:qF.length≤1048576):v_ 193 [(.d (.sl (l.map Zb.enc))),(.d (.agg [J qL,J qW,J qH,.sl (qF.map Box.enc)]))] [] =
  some (.own 0,[.row 4 ((QF (Zb.mk qL qW qH qF) l).map Zb.enc) true false]):=by
 have eq:=Vc qL qW qH qF hq;refine cE ?_;simp (maxSteps:=10^7) +contextual -implicitDefEqProofs only[go_sem,seval,Zm6];refine LO (α:=Nat×Bool×List Zb) (fun s=>[(7,.d (J (s.1:Int))),(6,.d (.bool s.2.1))]) (fun s=>[(0,.row 4 (s.2.2.map Zb.enc) true false)]) (fun s=>s.1≤l.length∧s.2.2++(if s.2.1 then l.drop s.1 else QF (Zb.mk qL qW qH qF) (l.drop s.1))=QF (Zb.mk qL qW qH qF) l∧s.2.2.length≤s.1+s.2.1.toNat) (fun s=>l.length-s.1) (0,false,[]) ⟨by simp,by simp,by simp⟩ ?_;intro⟨i,b,o⟩ ⟨hi,hp,ho⟩ ih;simp only at hi hp ho;have hb:=Bool.toNat_le b;by_cases aa:i<l.length
 ·obtain⟨x,hx⟩:=Zn aa;have hw:=Zg (k:=i) o_;have hr:(o.length+1)*48≤140737488355328∧o.length≤140737488355327:=o_
  have ab:∀ n:Nat,n=o.length+1→(n+1)*48≤140737488355328∧n≤140737488355327:=fun n hn=>by omega
  have ab:=ab _ rfl;have ad:o.length≤140737488355326:=o_
  have e:=Vc x.Label x.W x.H x.Flaws (hF x (Kb hx));rw[ZsU hx] at hp;have hd:l.drop i=x :: l.drop (i+1):=by
   obtain⟨h1,h2⟩:=Kc.1 hx;rw[Ku h1,h2]
  obtain⟨L,W,H,F⟩:=x;simp only at e hp;cases b with
  | true=>
   simp only[Bool.toNat_true] at ho;rw[Kg rfl] at hp;simp +contextual -implicitDefEqProofs only[go_sem,seval,hx,aa,hw,e,hr];refine ih (i+1,true,o++[⟨L,W,H,F⟩]) _ ⟨p_,?_,by simp;omega⟩ p_ ?_
   ·rw[← hp,hd];simp
   ·simp +contextual -implicitDefEqProofs only[go_sem,seval];try (simp[Zb.enc];done)
  | false=>
   simp only[Bool.toNat_false] at ho;rw[Kd (by simp)] at hp;by_cases hc:qL<L
   ·rw[Kg hc] at hp;simp +contextual -implicitDefEqProofs only[go_sem,seval,hx,aa,hw,e,eq,hc,hr,ab,ad];refine ih (i+1,true,o++[(Zb.mk qL qW qH qF),⟨L,W,H,F⟩]) _ ⟨p_,?_,by simp;omega⟩ p_ ?_
    ·rw[← hp,hd];simp
    ·simp +contextual -implicitDefEqProofs only[go_sem,seval];try (simp[Zb.enc];done)
   ·rw[Kd hc] at hp;simp +contextual -implicitDefEqProofs only[go_sem,seval,hx,aa,hw,e,hc,hr];refine ih (i+1,false,o++[⟨L,W,H,F⟩]) _ ⟨p_,?_,by simp;omega⟩ p_ ?_
    ·rw[← hp];simp
    ·simp +contextual -implicitDefEqProofs only[go_sem,seval];try (simp[Zb.enc];done)
 ·have:i=l.length:=o_
  subst this;have hr:(o.length+1)*48≤140737488355328∧o.length≤140737488355327:=o_
  cases b with
  | true=>
   simp at hp;simp +contextual -implicitDefEqProofs only[go_sem,seval];rw[hp]
  | false=>
   simp[QF] at hp;simp +contextual -implicitDefEqProofs only[go_sem,seval,eq,hr];rw[← hp];try (simp[Zb.enc];done)
def Vy (p:Zb) (l:List Zb):Prop:=(VSt l∧VPc p)∧VSt (QF p l)
instance (p:Zb) (l:List Zb):Decidable (Vy p l):=by unfold Vy;infer_instance
theorem Zd8 (l:List Zb) (qL qW qH:Int) (qF:List Box) (hl:l.length≤100000) (hS:∀ x∈l,x.Flaws.length≤1048576∧R64 x.W∧R64 x.H) (hq:qF.length≤1048576∧R64 qW∧R64 qH):v_ 141 [(.d (.sl (l.map Zb.enc))),(.d (.agg [J qL,J qW,J qH,.sl (qF.map Box.enc)]))] [] =
  some (.tup [.own 0,(.d (.bool (decide (Vy (Zb.mk qL qW qH qF) l))))],[.row 4 ((if Vy (Zb.mk qL qW qH qF) l then QF (Zb.mk qL qW qH qF) l else []).map Zb.enc) true false]):=by
 have e1:=YI l o_ (fun x hx=>⟨by have:=(hS x hx).1;omega,(hS x hx).2⟩);have e2:=Zg6 qL qW qH qF o_ hq.2.1 hq.2.2;have e3:=ZtO l qL qW qH qF hl (fun x hx=>(hS x hx).1) hq.1;have e4:=YI (QF (Zb.mk qL qW qH qF) l) (by rw[Zok];omega) (fun x hx=>by
  rcases Zvg _ _ _ hx with rfl | hx
  ·exact⟨p_,hq.2⟩
  ·exact⟨by have:=(hS x hx).1;omega,(hS x hx).2⟩)
 refine cE ?_;by_cases v1:VSt l
 ·rw[Ki v1] at e1;by_cases v2:VPc (Zb.mk qL qW qH qF)
  ·rw[Ki v2] at e2;by_cases v3:VSt (QF (Zb.mk qL qW qH qF) l)
   ·rw[Ki v3] at e4;have h:Vy (Zb.mk qL qW qH qF) l:=⟨⟨v1,v2⟩,v3⟩
    rw[Ki h,Kg h];simp +contextual -implicitDefEqProofs only[go_sem,seval,JQ,e1,e2,e3,e4]
   ·rw[Kk v3] at e4;have h:¬Vy (Zb.mk qL qW qH qF) l:=fun h=>v3 h.2;rw[Kk h,Kd h];simp +contextual -implicitDefEqProofs only[go_sem,seval,JQ,e1,e2,e3,e4]
  ·rw[Kk v2] at e2;have h:¬Vy (Zb.mk qL qW qH qF) l:=fun h=>v2 h.1.2;rw[Kk h,Kd h];simp +contextual -implicitDefEqProofs only[go_sem,seval,JQ,e1,e2]
 ·rw[Kk v1] at e1;have h:¬Vy (Zb.mk qL qW qH qF) l:=fun h=>v1 h.1.1;rw[Kk h,Kd h];simp +contextual -implicitDefEqProofs only[go_sem,seval,JQ,e1]
theorem Zwy (l:List Zb) (hl:l.length≤1048576) (hF:∀ x∈l,x.Flaws.length≤1048576):v_ 95 [(.d (.sl (l.map Zb.enc))),(.d (J ((-1))))] []=some (.own 0,[.row 4 (l.map Zb.enc) true false]):=by
 refine cE ?_;simp (maxSteps:=10^7) +contextual -implicitDefEqProofs only[go_sem,seval,ZiO];refine LO (α:=Nat) (fun i=>[(6,.d (J (i:Int)))]) (fun i=>[(0,.row 4 ((l.take i).map Zb.enc) true false)]) (fun i=>i≤l.length) (fun i=>l.length-i) 0 o_ ?_;intro i hi ih;by_cases aa:i<l.length
 ·obtain⟨x,hx⟩:=Zn aa;have hw:=Zg (k:=i) o_;have ab:¬(i:Int)=-1:=o_
  have hm:l.take (i+1)=l.take i++[x]:=by rw[KB,hx];simp
  have ad:(l.take i).length≤i:=by simp;omega
  have hr:((l.take i).length+1)*48≤140737488355328∧(l.take i).length≤140737488355327:=o_
  have e:=Vc x.Label x.W x.H x.Flaws (hF x (Kb hx));obtain⟨L,W,H,F⟩:=x;simp only at e;simp +contextual -implicitDefEqProofs only[go_sem,seval,hx,aa,hw,ab,e,hr];refine ih (i+1) _ o_ o_ ?_;simp +contextual -implicitDefEqProofs only[go_sem,seval,hm]
  first | rfl | (simp;done) | (simp;rfl)
 ·have:i=l.length:=o_
  subst this;simp +contextual -implicitDefEqProofs only[go_sem,seval];simp
theorem VU (sS:List Zb) (sO sD:List Zc) (sL sC:Int) (hs:Zao (Zo.mk sS sO sD sL sC)):v_ 50 [(.d (.agg [.sl (sS.map Zb.enc),.sl (sO.map Zc.enc),.sl (sD.map Zc.enc),J sL,J sC]))] []=some (.agg [.own 0,.own 1,.own 2,(.d (J sL)),(.d (J sC))],[.row 4 (sS.map Zb.enc) true false,.row 5 (sO.map Zc.enc) true false,.row 5 (sD.map Zc.enc) true false]):=by
 obtain⟨h1,h2,h3,h4⟩:=hs;simp only at h1 h2 h3 h4;have e1:=Zwy sS h1 (fun x hx=>(h2 x hx).1);have r1:sO.length*40≤140737488355328∧sO.length≤140737488355328:=o_
 have r2:sD.length*40≤140737488355328∧sD.length≤140737488355328:=o_
 refine cE ?_;simp (maxSteps:=10^7) +contextual -implicitDefEqProofs only[go_sem,seval,Znc,ZlV,e1,r1,r2]
theorem Zyv (sS:List Zb) (sO sD:List Zc) (sL sC:Int) (a:Nat) (qL qW qH:Int) (qF:List Box) (hx:sS[a]?=some (Zb.mk qL qW qH qF)) (hl:sO.length≤1048576) (hS:sS.length≤1048576):v_ 144 [(.d (.agg [.sl (sS.map Zb.enc),.sl (sO.map Zc.enc),.sl (sD.map Zc.enc),J sL,J sC])),(.d (J a))] []=some (.agg [(.d (J qW)),(.d (J qH)),.own 0],[.row 4 ((sO.map Zc.Pane).map Pane.enc) true false]):=by
 have aa:=(Kc.1 hx).1;refine cE ?_;simp (maxSteps:=10^7) +contextual -implicitDefEqProofs only[go_sem,seval,Ztc,hx,aa];refine LO (α:=Nat) (fun i=>[(6,.d (J (i:Int)))]) (fun i=>[(3,.row 4 (((sO.take i).map Zc.Pane).map Pane.enc) true false)]) (fun i=>i≤sO.length) (fun i=>sO.length-i) 0 o_ ?_;intro i hi ih;by_cases aa:i<sO.length
 ·obtain⟨x,hx⟩:=Zn aa;have hw:=Zg (k:=i) o_;have hm:=Zan hx;have ab:(sO.take i).length≤i:=by simp;omega
  have hr:((sO.take i).length+1)*32≤140737488355328∧(sO.take i).length≤140737488355327:=o_
  obtain⟨⟨W,H,T,K⟩,C⟩:=x;simp only at hm;simp +contextual -implicitDefEqProofs only[go_sem,seval,hx,aa,hw,hr];refine ih (i+1) _ o_ o_ ?_;simp +contextual -implicitDefEqProofs only[go_sem,seval,hm]
  first | rfl | (simp;done) | (simp;rfl)
 ·have:i=sO.length:=o_
  subst this;simp +contextual -implicitDefEqProofs only[go_sem,seval];simp
def SmS (s:Zo):Prop:=Zao s∧s.Stock.length≤100000∧-1000000000≤s.Lost∧s.Lost≤1000000000∧-1000000000≤s.Came∧s.Came≤1000000000
theorem ZjD {s:Zo} (h:ZI s):SmS s:=⟨ZcJ h,by have:=h.1.1;omega,by have:=h.2.2.2.1;omega,by have:=h.2.2.2.2.1;omega,by have:=h.2.2.2.2.2.1;omega,by have:=h.2.2.2.2.2.2.1;omega⟩
def I5 (n:Int):Prop:=-100000≤n∧n≤100000
theorem ZDW {a b:Int} (ha:I5 a) (hb:I5 b) : -10000000000≤a*b∧a*b≤10000000000:=by
 unfold I5 at ha hb;have h1:a.natAbs≤100000:=o_
 have h2:b.natAbs≤100000:=o_
 have h3:(a*b).natAbs≤100000*100000:=by rw[Int.natAbs_mul];exact Nat.mul_le_mul h1 h2
 omega
theorem ZDX {a:Int} (h:I5 a):R64 a:=by unfold I5 at h;unfold R64;omega
theorem Zk8 (sS:List Zb) (sO sD:List Zc) (sL sC:Int) (eK eL eX eY eW eH aa ab:Int) (ad:Bool) (ae eC eo ea ep:Int) (et:Bool) (ek:List Ze) (hs:SmS (Zo.mk sS sO sD sL sC)) (hk:eK=0) (hW:I5 eW) (hH:I5 eH):v_ 100 [(.d (.agg [.sl (sS.map Zb.enc),.sl (sO.map Zc.enc),.sl (sD.map Zc.enc),J sL,J sC])),(.d (.agg [J eK,J eL,J eX,J eY,J eW,J eH,J aa,J ab,.bool ad,J ae,J eC,J eo,J ea,J ep,.bool et,.sl (ek.map Ze.enc)]))] [] =
  some (.tup [.agg [.own 0,.d (.sl (sO.map Zc.enc)),.d (.sl (sD.map Zc.enc)),(.d (J sL)),(.d (J (sC+eW*eH)))],(.d (.bool (decide ((Vy ⟨eL,eW,eH,[]⟩ sS∧eX=0)∧eY=0))))],[.row 4 ((if Vy ⟨eL,eW,eH,[]⟩ sS then QF ⟨eL,eW,eH,[]⟩ sS else []).map Zb.enc) true false]):=by
 obtain⟨⟨h1,h2,h3,h4⟩,h5,h6,h7,h8,h9⟩:=hs;simp only at h1 h2 h3 h4 h5 h6 h7 h8 h9;subst hk;have hm:=ZDW hW hH;have e1:=XV sS eL o_;have e2:=Zd8 sS eL eW eH [] h5 h2 ⟨by simp,ZDX hW,ZDX hH⟩;have u1:=wi (eW*eH) o_ o_;have u2:=wi (sC+eW*eH) o_ o_;simp only[Kp] at e2;generalize (if Vy ⟨eL,eW,eH,[]⟩ sS then QF ⟨eL,eW,eH,[]⟩ sS else [])=R at e2 ⊢;by_cases v1:Vy ⟨eL,eW,eH,[]⟩ sS
 ·rw[Ki v1] at e2;refine cE ?_;by_cases v2:eX=0
  ·simp +contextual -implicitDefEqProofs only[go_sem,seval,XX,e1,e2,u1,u2,v2]
   all_goals simp[v1]
  ·simp +contextual -implicitDefEqProofs only[go_sem,seval,XX,e1,e2,u1,u2,v2]
   all_goals simp
 ·rw[Kk v1] at e2;refine cE ?_;simp (maxSteps:=10^7) +contextual -implicitDefEqProofs only[go_sem,seval,XX,e1,e2,u1,u2,v1]
theorem Zp2 (sS:List Zb) (sO sD:List Zc) (sL sC:Int) (eK eL eX eY eW eH aa ab:Int) (ad:Bool) (ae eC eo ea ep:Int) (et:Bool) (ek:List Ze) (hs:SmS (Zo.mk sS sO sD sL sC)) (hk:¬eK=0) (hf:QD 0 sS eL<0):v_ 100 [(.d (.agg [.sl (sS.map Zb.enc),.sl (sO.map Zc.enc),.sl (sD.map Zc.enc),J sL,J sC])),(.d (.agg [J eK,J eL,J eX,J eY,J eW,J eH,J aa,J ab,.bool ad,J ae,J eC,J eo,J ea,J ep,.bool et,.sl (ek.map Ze.enc)]))] [] =
  some (.tup [.agg [.own 0,.own 1,.own 2,(.d (J 0)),(.d (J 0))],(.d (.bool false))],[.row 4 [] true false,.row 5 [] true false,.row 5 [] true false]):=by
 have e1:=XV sS eL (by have:=hs.2.1;simp only at this;omega);refine cE ?_;simp (maxSteps:=10^7) +contextual -implicitDefEqProofs only[go_sem,seval,XX,e1,hk,hf]
theorem Zk9 (sS:List Zb) (sO sD:List Zc) (sL sC:Int) (eK eL eX eY eW eH aa ab:Int) (ad:Bool) (ae eC eo ea ep:Int) (et:Bool) (ek:List Ze) (hs:SmS (Zo.mk sS sO sD sL sC)) (hk:eK=5) (a:Nat) (hf:QD 0 sS eL=(a:Int)) (qL qW qH:Int) (qF:List Box) (hx:sS[a]?=some (Zb.mk qL qW qH qF)) (hW:I5 qW) (hH:I5 qH):v_ 100 [(.d (.agg [.sl (sS.map Zb.enc),.sl (sO.map Zc.enc),.sl (sD.map Zc.enc),J sL,J sC])),(.d (.agg [J eK,J eL,J eX,J eY,J eW,J eH,J aa,J ab,.bool ad,J ae,J eC,J eo,J ea,J ep,.bool et,.sl (ek.map Ze.enc)]))] [] =
  some (.tup [.agg [.own 0,.d (.sl (sO.map Zc.enc)),.d (.sl (sD.map Zc.enc)),(.d (J (sL+qW*qH))),(.d (J sC))],(.d (.bool true))],[.row 4 ((sS.eraseIdx a).map Zb.enc) true false]):=by
 obtain⟨⟨h1,h2,h3,h4⟩,h5,h6,h7,h8,h9⟩:=hs;simp only at h1 h2 h3 h4 h5 h6 h7 h8 h9;subst hk;have hm:=ZDW hW hH;have e1:=XV sS eL o_;rw[hf] at e1;have af:=(Kc.1 hx).1;have h0:¬(a:Int)<0:=o_
 have e2:=Vc qL qW qH qF (h2 _ (Kb hx)).1;have e3:=Zgd sS a h1 (fun x hx=>(h2 x hx).1);have u1:=wi (qW*qH) o_ o_;have u2:=wi (sL+qW*qH) o_ o_;refine cE ?_;simp (maxSteps:=10^7) +contextual -implicitDefEqProofs only[go_sem,seval,XX,e1,e2,e3,h0,af,hx,u1,u2]
theorem ZmJ (sS:List Zb) (sO sD:List Zc) (sL sC:Int) (eK eL eX eY eW eH ab ad:Int) (ae:Bool) (af eC eo ea ep:Int) (et:Bool) (ek:List Ze) (hv:ZI (Zo.mk sS sO sD sL sC)) (hk:eK=1) (a:Nat) (hf:QD 0 sS eL=(a:Int)) (qL qW qH:Int) (qF:List Box) (hx:sS[a]?=some (Zb.mk qL qW qH qF)):v_ 100 [(.d (.agg [.sl (sS.map Zb.enc),.sl (sO.map Zc.enc),.sl (sD.map Zc.enc),J sL,J sC])),(.d (.agg [J eK,J eL,J eX,J eY,J eW,J eH,J ab,J ad,.bool ae,J af,J eC,J eo,J ea,J ep,.bool et,.sl (ek.map Ze.enc)]))] [] =
  some (.tup [.agg [.own 0,.d (.sl (sO.map Zc.enc)),.d (.sl (sD.map Zc.enc)),(.d (J sL)),(.d (J sC))],(.d (.bool (decide (Vy ⟨qL,qW,qH,qF++[⟨eX,eY,eW,eH⟩]⟩ (sS.eraseIdx a)))))],[.row 4 ((if Vy ⟨qL,qW,qH,qF++[⟨eX,eY,eW,eH⟩]⟩ (sS.eraseIdx a) then QF ⟨qL,qW,qH,qF++[⟨eX,eY,eW,eH⟩]⟩ (sS.eraseIdx a) else []).map Zb.enc) true false]):=by
 obtain⟨⟨h1,h2,h3,h4⟩,h5,h6,h7,h8,h9⟩:=ZjD hv;simp only at h1 h2 h3 h4 h5 h6 h7 h8 h9;subst hk;have e1:=XV sS eL o_;rw[hf] at e1;have ag:=(Kc.1 hx).1;have h0:¬(a:Int)<0:=o_
 have aa:=h2 _ (Kb hx);simp only at aa;have ai:=Zoh sS a;have e2:=Vc qL qW qH qF aa.1;have e3:=Zgd sS a h1 (fun x hx=>(h2 x hx).1);have hr:(qF.length+1)*32≤140737488355328∧qF.length≤140737488355327:=o_
 have ah:=(ZW hv.1.2 _ (Kb hx)).1.2.2.2.2.2.2;simp only at ah;have e4:=Zd8 (sS.eraseIdx a) qL qW qH (qF++[⟨eX,eY,eW,eH⟩]) o_ (fun x hx=>h2 x (Kag hx)) ⟨by simp;omega,aa.2⟩;rw[KJ] at e4;simp only[Kh,Kp,Box.enc] at e4;generalize (if Vy ⟨qL,qW,qH,qF++[⟨eX,eY,eW,eH⟩]⟩ (sS.eraseIdx a) then QF ⟨qL,qW,qH,qF++[⟨eX,eY,eW,eH⟩]⟩ (sS.eraseIdx a) else [])=R at e4 ⊢;generalize decide (Vy ⟨qL,qW,qH,qF++[⟨eX,eY,eW,eH⟩]⟩ (sS.eraseIdx a))=V at e4 ⊢;refine cE ?_;simp (maxSteps:=10^7) +contextual -implicitDefEqProofs only[go_sem,seval,XX,e1,e2,e3,e4,h0,ag,hx,hr]
def VL (l:Zc):Prop:=VP l.Pane∧1≤l.Count∧l.Count≤24
instance (l:Zc):Decidable (VL l):=by unfold VL;infer_instance
theorem Zp3 (sS:List Zb) (sO sD:List Zc) (sL sC:Int) (eK eL eX eY eW eH aa ab:Int) (ad:Bool) (ae eC eo ea ep:Int) (et:Bool) (ek:List Ze) (hl:¬VL ⟨⟨aa,ab,ad,ae⟩,eC⟩):v_ 101 [(.d (.agg [.sl (sS.map Zb.enc),.sl (sO.map Zc.enc),.sl (sD.map Zc.enc),J sL,J sC])),(.d (.agg [J eK,J eL,J eX,J eY,J eW,J eH,J aa,J ab,.bool ad,J ae,J eC,J eo,J ea,J ep,.bool et,.sl (ek.map Ze.enc)]))] [] =
  some (.tup [.agg [.own 0,.own 1,.own 2,(.d (J 0)),(.d (J 0))],(.d (.bool false))],[.row 4 [] true false,.row 5 [] true false,.row 5 [] true false]):=by
 have e1:=Vb aa ab ad ae;have e2:=Zu eC 1 24;refine cE ?_;by_cases v1:VP ⟨aa,ab,ad,ae⟩
 ·have v2:¬(1≤eC∧eC≤24):=fun h=>hl ⟨v1,h⟩;rw[Ki v1] at e1;rw[Kk v2] at e2;simp +contextual -implicitDefEqProofs only[go_sem,seval,Uq,e1,e2]
 ·rw[Kk v1] at e1;simp +contextual -implicitDefEqProofs only[go_sem,seval,Uq,e1]
theorem ZmK (sS:List Zb) (sO sD:List Zc) (sL sC:Int) (eK eL eX eY eW eH aa ab:Int) (ad:Bool) (ae eC eo ea ep:Int) (et:Bool) (ek:List Ze) (hv:ZI (Zo.mk sS sO sD sL sC)) (hl:VL ⟨⟨aa,ab,ad,ae⟩,eC⟩) (hk:eK=2):v_ 101 [(.d (.agg [.sl (sS.map Zb.enc),.sl (sO.map Zc.enc),.sl (sD.map Zc.enc),J sL,J sC])),(.d (.agg [J eK,J eL,J eX,J eY,J eW,J eH,J aa,J ab,.bool ad,J ae,J eC,J eo,J ea,J ep,.bool et,.sl (ek.map Ze.enc)]))] [] =
  some (.tup [.agg [.d (.sl (sS.map Zb.enc)),.own 0,.d (.sl (sD.map Zc.enc)),(.d (J sL)),(.d (J sC))],(.d (.bool true))],[.row 5 ((Yz ⟨aa,ab,ad,ae⟩ eC sO).map Zc.enc) true false]):=by
 have e1:=Vb aa ab ad ae;have e2:=Zu eC 1 24;rw[Ki hl.1] at e1;rw[Ki hl.2] at e2;subst hk;have e3:=Zd7 sO aa ab ad ae eC (by have:=hv.2.1.1;simp only at this;omega) (fun x hx=>by have:=(Z5 hv.2.1 x hx).2;have:=hl.2;simp only at this;unfold R64;omega);refine cE ?_;simp (maxSteps:=10^7) +contextual -implicitDefEqProofs only[go_sem,seval,Uq,e1,e2,e3]
theorem ZmL (sS:List Zb) (sO sD:List Zc) (sL sC:Int) (eK eL eX eY eW eH aa ab:Int) (ad:Bool) (ae eC eo ea ep:Int) (et:Bool) (ek:List Ze) (hv:ZI (Zo.mk sS sO sD sL sC)) (hl:VL ⟨⟨aa,ab,ad,ae⟩,eC⟩) (hk:¬eK=2):v_ 101 [(.d (.agg [.sl (sS.map Zb.enc),.sl (sO.map Zc.enc),.sl (sD.map Zc.enc),J sL,J sC])),(.d (.agg [J eK,J eL,J eX,J eY,J eW,J eH,J aa,J ab,.bool ad,J ae,J eC,J eo,J ea,J ep,.bool et,.sl (ek.map Ze.enc)]))] [] =
  some (.tup [.agg [.d (.sl (sS.map Zb.enc)),.own 0,.own 1,(.d (J (sL+eC*aa*ab))),(.d (J sC))],(.d (.bool (Xr ⟨aa,ab,ad,ae⟩ eC false sD)))],[.row 5 ((Yz ⟨aa,ab,ad,ae⟩ eC sO).map Zc.enc) true false,.row 5 ((XW sD ⟨aa,ab,ad,ae⟩ eC).map Zc.enc) true false]):=by
 have e1:=Vb aa ab ad ae;have e2:=Zu eC 1 24;rw[Ki hl.1] at e1;rw[Ki hl.2] at e2;have af:=ZbX hl;have h6:=hv.2.2.2;simp only at af h6;have e3:=Zd7 sO aa ab ad ae eC (by have:=hv.2.1.1;simp only at this;omega) (fun x hx=>by have:=(Z5 hv.2.1 x hx).2;have:=hl.2;simp only at this;unfold R64;omega);have e4:=Zii sD aa ab ad ae eC (by have:=hv.2.2.1.1;simp only at this;omega) (fun x hx=>by have:=(Z5 hv.2.2.1 x hx).2;have:=hl.2;simp only at this;unfold R64;omega);have u0:=wi (eC*aa) o_ o_;have u1:=wi (eC*aa*ab) o_ o_;have u2:=wi (sL+eC*aa*ab) o_ o_
 refine cE ?_;simp (maxSteps:=10^7) +contextual -implicitDefEqProofs only[go_sem,seval,Uq,e1,e2,e3,e4,hk,u0,u1,u2]
theorem ZaS {ps:List Pane}:∀ {b:BT} {x y w h:Int},XM ps b w h=true→∀ c∈plc b x y w h,∃ n:Nat,c.Pane=(n:Int)∧n<ps.length
 | .waste,x,y,w,h,hf,c,hc=>by simp[plc] at hc
 | .pane i t,x,y,w,h,hf,c,hc=>by
  simp only[plc,KD] at hc;subst hc;simp only[XM,XS,Kf,Ko] at hf;refine⟨i.toNat,p_,?_⟩;rcases K7 i.toNat ps.length with h1 | h1
  ·exact h1
  ·rw[K8 h1] at hf;exact absurd hf.2 (by simp)
 | .cut d a l r,x,y,w,h,hf,c,hc=>by
  cases d
  ·simp only[XM,Kf,Ka,Kn] at hf;simp only[plc,Ka,Kn,Kj] at hc;rcases hc with hc | hc
   ·exact ZaS hf.1.2 c hc
   ·exact ZaS hf.2 c hc
  ·simp only[XM,Kf,Km] at hf;simp only[plc,Km,Kj] at hc;rcases hc with hc | hc
   ·exact ZaS hf.1.2 c hc
   ·exact ZaS hf.2 c hc
def Uk:List Int→List L.Place→List Int
 | u,[]=>u
 | u,x :: l=>Uk (u.set x.Pane.toNat (u[x.Pane.toNat]?.getD 0+1)) l
theorem ZsY {u:List Int} {l:List L.Place} {k:Nat} {x:L.Place} (hx:l[k]?=some x):Uk u (l.drop k)=Uk (u.set x.Pane.toNat (u[x.Pane.toNat]?.getD 0+1)) (l.drop (k+1)):=by
 obtain⟨h1,h2⟩:=Kc.1 hx;rw[Ku h1,h2,Uk]
theorem Zvh {u:List Int} {l:List L.Place}:Uk u (l.drop l.length)=u:=by simp[Uk]
theorem Zvi:∀ (l:List L.Place) (u:List Int),(Uk u l).length=u.length
 | [],u=>rfl
 | x :: l,u=>by rw[Uk,Zvi l];simp
theorem Zvj:∀ (l:List L.Place) (u:List Int) (m:Int),(∀ v∈u,0≤v∧v≤m)→∀ v∈Uk u l,0≤v∧v≤m+l.length
 | [],u,m,h,v,hv=>by have:=h v hv;simp;omega
 | x :: l,u,m,h,v,hv=>by
  have:=Zvj l _ (m+1) (fun w hw=>by
   rcases Ly hw with h1 | rfl
   ·have:=h w h1;omega
   ·cases hg:u[x.Pane.toNat]? with
    | none=>
     simp;have h0:∀ z:Int,0≤z→1≤z+1:=o_
     by_cases hu:u=[]
     ·subst hu;simp at hw
     ·obtain⟨z,hz⟩:=List.exists_mem_of_ne_nil u hu;have:=h z hz;omega
    | some z=>have:=h z (Kb hg);simp;omega) v hv
  simp only[Kl];omega
theorem Zql (u:List Int) (i:Nat) (v:Int):(u.map XA).set i (J v)=(u.set i v).map XA:=(Kad (f:=XA) (l:=u) (i:=i) (a:=v)).symm
theorem rep_int (n:Nat):List.replicate n (D.int .i64 0)=(List.replicate n (0:Int)).map XA:=by simp[XA]
def Zbq (k:Zv) (p:Ze):List Int:=Uk (List.replicate k.Panes.length 0) ((Qx k p).filterMap Xd)
theorem ZdF {k:Zv} {p:Ze} (hv:Va k p=true):(Zbq k p).length=k.Panes.length∧∀ v∈Zbq k p,0≤v∧v≤255:=by
 obtain⟨b,hb,ae,af,ab,ad,aa⟩:=QU hv;have hl:((Qx k p).filterMap Xd).length≤255:=by
  have:=Ks Xd (Qx k p);rw[aa,Jp] at this;rw[aa];omega
 refine⟨by unfold Zbq;rw[Zvi];simp,fun v h=>?_⟩;have:=Zvj _ _ 0 (fun w hw=>by rw[Kaf hw];omega) v h;omega
theorem Zyw (kW kH:Int) (kP:List Pane) (p:Ze) (hv:Va (Zv.mk kW kH kP) p=true):v_ 148 [(.d (.agg [J kW,J kH,.sl (kP.map Pane.enc)])),.d p.enc] []=some (.own 0,[.row 1 ((Zbq (Zv.mk kW kH kP) p).map XA) true false]):=by
 obtain⟨b,hb,af,ad,aj,aa,ab⟩:=QU hv;simp only at aa ab;have e:=Zj7 kW kH kP p b af (by simp only[VW,inB] at ad ⊢;omega) aa o_;have ag:=ZaS (x:=0) (y:=0) aa;have an:kP.length≤24:=ad.2.2.2.2.1;have ak:(plc b 0 0 kW kH).length≤255:=by
  have:=Ks Xd (Qx (Zv.mk kW kH kP) p);rw[ab,Jp,YF] at this;omega
 unfold Zbq;rw[ab,YF];generalize plc b 0 0 kW kH=L at e ag ak ⊢;have al:(kP.length:Int)*((8:Nat):Int)≤((140737488355328:Nat):Int)∧kP.length≤140737488355328:=o_
 have ae:(kP.length:Int)*8≤140737488355328∧(kP.length:Int)≤140737488355328:=o_
 clear hv hb af ad ab aa;obtain⟨o,a,q,t,ks⟩:=p;rw[Ze.enc_mk] at e ⊢;refine cE ?_;simp (maxSteps:=10^7) +contextual -implicitDefEqProofs only[go_sem,seval,Ztd,e,rep_int,al,ae];refine LO (α:=Nat×List Int) (fun s=>[(7,.d (J (s.1:Int)))]) (fun s=>[(1,.row 1 (s.2.map XA) true false)]) (fun s=>s.1≤L.length∧s.2.length=kP.length∧(∀ v∈s.2,0≤v∧v≤s.1)∧Uk s.2 (L.drop s.1)=Uk (List.replicate kP.length 0) L) (fun s=>L.length-s.1) (0,List.replicate kP.length 0) ⟨by simp,by simp,fun w hw=>by rw[Kaf hw];simp,by simp⟩ ?_;intro⟨i,u⟩ ⟨hi,hul,huv,hp⟩ ih;simp only at hi hul huv hp;by_cases ah:i<L.length
 ·obtain⟨x,hx⟩:=Zn ah;have hw:=Zg (k:=i) o_;obtain⟨n,hn,am⟩:=ag x (Kb hx);rw[ZsY hx,hn] at hp;obtain⟨q',t',⟨X,Y,W,H⟩⟩:=x;simp only at hn;subst hn;have ai:n<u.length:=o_
  obtain⟨z,hz⟩:=Zn ai;have ao:=huv z (Kb hz);have u1:=wi (z+1) o_ o_;rw[Kz,hz] at hp;simp +contextual -implicitDefEqProofs only[go_sem,seval,hx,ah,hw,am,ai,hz,u1,Zql,hul];refine ih (i+1,u.set n (z+1)) _ ⟨p_,by simpa using hul,fun v hv=>?_,hp⟩ p_ ?_
  ·simp only;rcases Ly hv with h1 | rfl
   ·have:=huv v h1;omega
   ·omega
  ·simp +contextual -implicitDefEqProofs only[go_sem,seval,List.headD_cons,Zql]
 ·have:i=L.length:=o_
  subst this;rw[Zvh] at hp;simp +contextual -implicitDefEqProofs only[go_sem,seval,hp]
def Zla:BT→Bool
 | .waste=>false
 | .pane _ _=>true
 | .cut _ _ l r=>Zla l || Zla r
theorem Zgf:∀ (b:BT),v_ 146 [.d b.plan.enc] []=some ((.d (.bool (Zla b))),[])
 | .waste=>by
  simp only[BT.plan,Ze.enc_mk];refine cE ?_;simp (maxSteps:=10^7) +contextual -implicitDefEqProofs only[go_sem,seval,ZdK,Xo,Zla]
 | .pane i t=>by
  simp only[BT.plan,Ze.enc_mk];refine cE ?_;simp (maxSteps:=10^7) +contextual -implicitDefEqProofs only[go_sem,seval,ZdK,Xo,Zla]
 | .cut d a l r=>by
  have e1:=Zgf l;have e2:=Zgf r;simp only[BT.plan,Ze.enc_mk];cases hb:Zla l<;>rw[hb] at e1<;>cases d <;>
  ·refine cE ?_;simp (maxSteps:=10^7) +contextual -implicitDefEqProofs only[go_sem,seval,ZdK,Xo,Zla,Qb,e1,e2,hb,Lx,Bool.true_or,LU]
theorem ZtP (kW kH:Int) (kP:List Pane) (p:Ze) (Zj:Int) (hv:Va (Zv.mk kW kH kP) p=true) (h1:1≤Zj) (h2:Zj≤200):v_ 147 [(.d (.agg [J kW,J kH,.sl (kP.map Pane.enc)])),.d p.enc,(.d (J Zj))] [] =
  some ((.d (J (Yb (Zdz (Zv.mk kW kH kP) p Zj)))),[]):=by
 obtain⟨b,hb,ai,af,aj,aa,ad⟩:=QU hv;have am:kP.length≤24:=af.2.2.2.2.1;have ev:=Zh2 kW kH kP p o_;rw[hv] at ev;have er:=Zu Zj 1 200;rw[Ki (show 1≤Zj∧Zj≤200 from ⟨h1,h2⟩)] at er;simp only at aa ad;have ep:=Zj8 kW kH kP p b ai (by simp only[VW,inB] at af ⊢;omega) aa o_;have ab:=ZbT hv;have ag:((Qx (Zv.mk kW kH kP) p).filterMap X5).length≤255:=by
  have:=Ks X5 (Qx (Zv.mk kW kH kP) p);rw[ad,Jp] at this;rw[ad];omega
 rw[← Ze2,← ad] at ep;unfold Zdz;generalize (Qx (Zv.mk kW kH kP) p).filterMap X5=L at ep ab ag ⊢;clear hv hb ai af ad aa;obtain⟨o,a,n,t,ks⟩:=p;rw[Ze.enc_mk] at ev ep ⊢;refine cE ?_;simp (maxSteps:=10^7) +contextual -implicitDefEqProofs only[go_sem,seval,Zm4,ev,ep,er];refine LO (α:=Nat) (fun i=>[(9,.d (J (i:Int))),(7,.d (J (Yb ((L.take i).filterMap (Ug Zj)))))]) (fun _=>[]) (fun i=>i≤L.length) (fun i=>L.length-i) 0 o_ ?_;intro i hi ih;by_cases ah:i<L.length
 ·obtain⟨x,hx⟩:=Zn ah;have hw:=Zg (k:=i) o_;have hm:=Zav (f:=Ug Zj) hx;have ak:=ab x (Kb hx);have ha:=Ze4 (l:=(L.take i).filterMap (Ug Zj)) (fun c hc=>by
   obtain⟨d,hd,ae⟩:=Lw.1 hc;unfold Ug at ae;split at ae
   ·cases ae;exact ab c (Lh hd)
   ·cases ae)
  have an:((L.take i).filterMap (Ug Zj)).length≤i:=Ky (Ks _ _) (by simp;omega);have al:=Jq ak;obtain⟨X,Y,W,H⟩:=x;simp only at al;have w0:=wi (W*H) o_ o_;have w1:=wi (Yb ((L.take i).filterMap (Ug Zj))+W*H) o_ o_;have es:=Zcz X Y W H Zj;simp only[Ug] at hm;by_cases ho:W<Zj∨H<Zj
  ·rw[Kg ho] at hm;rw[Kk (show ¬(Zj≤W∧Zj≤H) by omega)] at es;simp +contextual -implicitDefEqProofs only[go_sem,seval,hx,ah,hw,es,w0,w1];refine ih (i+1) _ o_ o_ ?_;simp +contextual -implicitDefEqProofs only[go_sem,seval,hm,Zbz,Option.toList,Yb]
   first | rfl | (simp;done) | (simp;rfl)
  ·rw[Kd ho] at hm;rw[Ki (show Zj≤W∧Zj≤H by omega)] at es;simp +contextual -implicitDefEqProofs only[go_sem,seval,hx,ah,hw,es];refine ih (i+1) _ o_ o_ ?_;simp +contextual -implicitDefEqProofs only[go_sem,seval,hm,Option.toList,KE]
 ·have:i=L.length:=o_
  subst this;simp +contextual -implicitDefEqProofs only[go_sem,seval];simp
def Ve:List Pane→List Int→List Zc→List Zc→Option (List Zc×List Zc)
 | p :: ps,c :: us,o,d=>if c=0 then Ve ps us o d else if Xr p c false o=true then Ve ps us (XW o p c) (Yz p c d) else none
 | [],_,o,d=>some (o,d)
 | _,[],o,d=>some (o,d)
theorem Zlb {ps:List Pane} {us:List Int} {o d:List Zc} {k:Nat} {p:Pane} {c:Int} (hp:ps[k]?=some p) (hu:us[k]?=some c):Ve (ps.drop k) (us.drop k) o d=if c=0 then Ve (ps.drop (k+1)) (us.drop (k+1)) o d else if Xr p c false o=true then Ve (ps.drop (k+1)) (us.drop (k+1)) (XW o p c) (Yz p c d) else none:=by
 obtain⟨h1,h2⟩:=Kc.1 hp;obtain⟨h3,h4⟩:=Kc.1 hu;rw[Ku h1,h2,Ku h3,h4,Ve]
theorem Zvk {ps:List Pane} {us:List Int} {o d:List Zc}:Ve (ps.drop ps.length) us o d=some (o,d):=by
 rw[List.drop_length];unfold Ve;rfl
theorem Zol {l:List Zc} {p:Pane} {c hi:Int} (hc:0≤c) (h:∀ x∈l,x.Count≤hi):∀ y∈XW l p c,0≤y.Count∧y.Count≤hi:=fun y hy=>by
 obtain⟨x,hx,e⟩:=Lw.1 hy;have:=h x hx;unfold Zih at e;split at e
 ·split at e
  ·cases e;simp only;omega
  ·cases e
 ·split at e
  ·cases e;omega
  ·cases e
theorem ZmM {p:Pane} {c hi:Int} (hc:0≤c) (hh:0≤hi):∀ {l:List Zc},(∀ x∈l,0≤x.Count∧x.Count≤hi)→∀ y∈Yz p c l,0≤y.Count∧y.Count≤hi+c
 | [],h,y,hy=>by simp[Yz] at hy;subst hy;simp only;omega
 | x :: l,h,y,hy=>by
  have h1:=h x (by simp);unfold Yz at hy;split at hy
  ·rcases Ke.1 hy with rfl | hy
   ·simp only;omega
   ·have:=h y (by simp[hy]);omega
  ·rcases Ke.1 hy with rfl | hy
   ·omega
   ·exact ZmM hc hh (fun z hz=>h z (by simp[hz])) y hy
def ZtQ (p:Ze):Bool:=match QS p with
 | some b=>Zla b
 | none=>false
def Zdj (s:Zo) (e:Zl):Option Zo:=
 match s.Stock[(QD 0 s.Stock e.label).toNat]? with
 | none=>none
 | some x=>match ZaQ s.Stock e.label ⟨x.W,x.H,s.Opn.map Zc.Pane⟩ e.plan 5 with
  | none=>none
  | some R=>if ZtQ e.plan=true then
    match Ve (s.Opn.map Zc.Pane) (Zbq ⟨x.W,x.H,s.Opn.map Zc.Pane⟩ e.plan) s.Opn s.Done with
    | none=>none
    | some (o,d)=>some ⟨R,o,d,s.Lost+Yb (Zdz ⟨x.W,x.H,s.Opn.map Zc.Pane⟩ e.plan 5),s.Came⟩
   else none
def shV:Option Zo→AV×List Zm
 | some s=>(.tup [.agg [.own 0,.own 1,.own 2,(.d (J (s.Lost))),(.d (J (s.Came)))],(.d (.bool true))],[.row 4 (s.Stock.map Zb.enc) true false,.row 5 (s.Opn.map Zc.enc) true false,.row 5 (s.Done.map Zc.enc) true false])
 | none=>(.tup [.agg [.own 0,.own 1,.own 2,(.d (J 0)),(.d (J 0))],(.d (.bool false))],[.row 4 [] true false,.row 5 [] true false,.row 5 [] true false])
theorem Zvl {l:List Zb} {n:Int} {k:Zv} {p:Ze} {Zj:Int} (h:QD 0 l n<0):ZaQ l n k p Zj=none:=by
 unfold ZaQ;rw[Kd (fun h'=>by omega)]
theorem ZmN {l:List Zb} {n:Int} {k:Zv} {p:Ze} {Zj:Int} {R:List Zb} (h:ZaQ l n k p Zj=some R):Va k p=true∧VSt R∧VSt l:=by
 unfold ZaQ at h;split at h
 ·rename_i hc;split at h
  ·rename_i x hx;split at h
   ·rename_i hg;cases h;exact⟨hg.1.1,hg.2,hc.1⟩
   ·cases h
  ·cases h
 ·cases h
def WSh (s:Zo):Prop:=VSt s.Stock∧s.Opn.length≤9∧(∀ x∈s.Opn,VP x.Pane∧0≤x.Count∧x.Count≤24)∧Jz s.Done∧-1≤s.Lost∧s.Lost≤900001∧-1≤s.Came∧s.Came≤900001
theorem Zwz {s:Zo} (h:ZI s):WSh s:=⟨h.1,by have:=h.2.1.1;omega,fun x hx=>by have:=Z5 h.2.1 x hx;exact⟨this.1,o_,this.2.2⟩,h.2.2.1,by have:=h.2.2.2;omega,by have:=h.2.2.2;omega,by have:=h.2.2.2;omega,by have:=h.2.2.2;omega⟩
theorem ZA9 {s:Zo} (h:WSh s):SmS s:=by
 obtain⟨h1,h2,_,h3,h4,h5,h6,h7⟩:=h;exact⟨⟨by have:=h1.1;omega,fun x hx=>⟨(ZbW h1).2 x hx,ZmI (ZW h1.2 x hx)⟩,o_,by have:=h3.1;omega⟩,by have:=h1.1;omega,o_,o_,o_,o_⟩
theorem ZtR (sS:List Zb) (sO sD:List Zc) (sL sC:Int) (eK eL eX eY eW eH af ag:Int) (ah:Bool) (ai eC eo ea ep:Int) (et:Bool) (ek:List Ze) (hv:WSh (Zo.mk sS sO sD sL sC)):v_ 102 [(.d (.agg [.sl (sS.map Zb.enc),.sl (sO.map Zc.enc),.sl (sD.map Zc.enc),J sL,J sC])),(.d (.agg [J eK,J eL,J eX,J eY,J eW,J eH,J af,J ag,.bool ah,J ai,J eC,J eo,J ea,J ep,.bool et,.sl (ek.map Ze.enc)]))] []=some (shV (Zdj (Zo.mk sS sO sD sL sC) (Zl.mk eK eL (Box.mk eX eY eW eH) (Zc.mk (Pane.mk af ag ah ai) eC) (Ze.mk eo ea ep et ek)))):=by
 obtain⟨⟨h1,h2,h3,h4⟩,h5,h6,h7,h8,h9⟩:=ZA9 hv;simp only at h1 h2 h3 h4 h5 h6 h7 h8 h9;have ao:=hv.2.1;have hO:=hv.2.2.1;have hD:=hv.2.2.2.1;simp only at hO hD ao;have ax:=hD.1;have e1:=XV sS eL o_;by_cases hf:QD 0 sS eL<0
 ·have ec:Zdj (Zo.mk sS sO sD sL sC) (Zl.mk eK eL (Box.mk eX eY eW eH) (Zc.mk (Pane.mk af ag ah ai) eC) (Ze.mk eo ea ep et ek))=none:=by
   unfold Zdj;simp only;split
   ·rfl
   ·rw[Zvl hf]
  rw[ec];unfold shV;refine cE ?_;simp (maxSteps:=10^7) +contextual -implicitDefEqProofs only[go_sem,seval,JS,e1,hf]
 ·obtain⟨a,x,ha,hx⟩:=ZaR (by omega:0≤QD 0 sS eL);rw[ha] at e1;have al:¬(a:Int)<0:=o_
  have ay:=(Kc.1 hx).1;have e3:=ZtL sS eL x.W x.H (sO.map Zc.Pane) (.mk eo ea ep et ek) 5 (by have:=hv.1.1;simp only at this;omega) (fun y hy=>by
   have:=ZW hv.1.2 y hy;exact⟨Ky this.1.2.2.2.2.2.2 (by decide),ZmI this⟩) (by simp;omega)
  have ap:Zdj (Zo.mk sS sO sD sL sC) (Zl.mk eK eL (Box.mk eX eY eW eH) (Zc.mk (Pane.mk af ag ah ai) eC) (Ze.mk eo ea ep et ek))=match ZaQ sS eL ⟨x.W,x.H,sO.map Zc.Pane⟩ (.mk eo ea ep et ek) 5 with
   | none=>none
   | some R=>if ZtQ (.mk eo ea ep et ek)=true then
     match Ve (sO.map Zc.Pane) (Zbq ⟨x.W,x.H,sO.map Zc.Pane⟩ (.mk eo ea ep et ek)) sO sD with
     | none=>none
     | some (o,d)=>some ⟨R,o,d,sL+Yb (Zdz ⟨x.W,x.H,sO.map Zc.Pane⟩ (.mk eo ea ep et ek) 5),sC⟩
    else none:=by
   unfold Zdj;simp only[ha,Kz,hx]
  rw[ap];clear ap;obtain⟨xL,xW,xH,xF⟩:=x;simp only at e3 ⊢;have e2:=Zyv sS sO sD sL sC a xL xW xH xF hx h3 h1;cases hcs:ZaQ sS eL ⟨xW,xH,sO.map Zc.Pane⟩ (.mk eo ea ep et ek) 5 with
  | none=>
   rw[hcs] at e3;unfold Zwu at e3;simp only;unfold shV;rw[Ze.enc_mk] at e3;refine cE ?_;simp (maxSteps:=10^7) +contextual -implicitDefEqProofs only[go_sem,seval,JS,e1,al,e2,e3]
  | some R=>
   obtain⟨aa,az,_⟩:=ZmN hcs;rw[hcs] at e3;unfold Zwu at e3;simp only;obtain⟨b,hb,ar,a0,am,au,av⟩:=QU aa;have e4:=Zgf b;rw[← ar] at e4;have hh:ZtQ (.mk eo ea ep et ek)=Zla b:=by unfold ZtQ;rw[hb]
   rw[hh];have e5:=ZtP xW xH (sO.map Zc.Pane) (.mk eo ea ep et ek) 5 aa o_ o_;have e6:=Zyw xW xH (sO.map Zc.Pane) (.mk eo ea ep et ek) aa;have hu:=ZdF aa;have aw:=Ze4 (l:=Zdz ⟨xW,xH,sO.map Zc.Pane⟩ (.mk eo ea ep et ek) 5) (fun c hc=>by
    obtain⟨z,hz,aj⟩:=Lw.1 hc;unfold Ug at aj;split at aj
    ·cases aj;exact ZbT aa c hz
    ·cases aj)
   have a1:(Zdz ⟨xW,xH,sO.map Zc.Pane⟩ (.mk eo ea ep et ek) 5).length≤255:=by
    refine Ky (Ks _ _) (Ky (Ks _ _) ?_);rw[av,Jp];exact am
   generalize Yb (Zdz ⟨xW,xH,sO.map Zc.Pane⟩ (.mk eo ea ep et ek) 5)=A at e5 aw ⊢;generalize Zbq ⟨xW,xH,sO.map Zc.Pane⟩ (.mk eo ea ep et ek)=us at e6 hu ⊢;rw[Ze.enc_mk] at e3 e4 e5 e6;simp only[KG] at hu;have u1:=wi (sL+A) o_ o_;have r1:sO.length*40≤140737488355328∧sO.length≤140737488355328:=o_
   have r2:sD.length*40≤140737488355328∧sD.length≤140737488355328:=o_
   cases hhb:Zla b with
   | false=>
    rw[hhb] at e4;rw[Kd (by simp)];unfold shV;refine cE ?_;simp (maxSteps:=10^7) +contextual -implicitDefEqProofs only[go_sem,seval,JS,e1,al,e2,e3,e4]
   | true=>
    rw[hhb] at e4;rw[Kg rfl];refine cE ?_;simp (maxSteps:=10^7) +contextual -implicitDefEqProofs only[go_sem,seval,JS,ZlV,e1,al,e2,e3,e4,e5,e6,u1,r1,r2];refine LO (α:=Nat×List Zc×List Zc) (fun s=>[(12,.d (J (s.1:Int)))]) (fun s=>[(5,.row 5 (s.2.1.map Zc.enc) true false),(6,.row 5 (s.2.2.map Zc.enc) true false)]) (fun s=>s.1≤us.length∧Ve ((sO.map Zc.Pane).drop s.1) (us.drop s.1) s.2.1 s.2.2=Ve (sO.map Zc.Pane) us sO sD∧s.2.1.length≤9∧s.2.2.length≤8+s.1∧(∀ x∈s.2.1,0≤x.Count∧x.Count≤24)∧(∀ x∈s.2.2,0≤x.Count∧x.Count≤24+255*(s.1:Int))) (fun s=>us.length-s.1) (0,sO,sD) ⟨by simp,by simp,ao,p_,fun x hx=>by have:=hO x hx;omega,fun x hx=>by have:=Z5 hD x hx;simp only;omega⟩ ?_
    intro⟨i,o,d⟩ ⟨hi,hp,ho8,hd8,hoc,hdc⟩ ih;simp only at hi hp ho8 hd8 hoc hdc;by_cases ab:i<us.length
    ·obtain⟨c,hc⟩:=Zn ab;have an:i<sO.length:=o_
     obtain⟨y,hy⟩:=Zn an;have hw:=Zg (k:=i) o_;have hcb:=hu.2 c (Kb hc);have ak:(sO.map Zc.Pane)[i]?=some y.Pane:=by rw[La,hy];rfl
     rw[Zlb ak hc] at hp;obtain⟨⟨W,H,T,K⟩,C⟩:=y;simp only at hp ak;by_cases ad:c=0
     ·rw[Kg ad] at hp;simp +contextual -implicitDefEqProofs only[go_sem,seval,ab,hc,ad,hw];refine ih (i+1,o,d) _ ⟨p_,hp,ho8,p_,hoc,fun x hx=>by have:=hdc x hx;simp only;omega⟩ p_ ?_;simp +contextual -implicitDefEqProofs only[go_sem,seval]
     ·rw[Kd ad] at hp;have et:=Zii o W H T K c o_ (fun x hx=>by have:=hoc x hx;unfold R64;omega);have ea:=Zd7 d W H T K c o_ (fun x hx=>by have:=hdc x hx;unfold R64;omega);by_cases ae:Xr ⟨W,H,T,K⟩ c false o=true
      ·rw[Kg ae] at hp;rw[ae] at et;simp +contextual -implicitDefEqProofs only[go_sem,seval,ab,hc,ad,hw,an,hy,ak,et,ea];refine ih (i+1,XW o ⟨W,H,T,K⟩ c,Yz ⟨W,H,T,K⟩ c d) _ ⟨p_,hp,Ky (Ks _ _) ho8,Ky (ZcI _ _ _) p_,Zol hcb.1 (fun x hx=>(hoc x hx).2),fun x hx=>?_⟩ p_ ?_
       ·have:=ZmM hcb.1 o_ hdc x hx;simp only;omega
       ·simp +contextual -implicitDefEqProofs only[go_sem,seval]
      ·rw[Kd ae] at hp;simp only[LD] at ae;rw[ae] at et;simp +contextual -implicitDefEqProofs only[go_sem,seval,ab,hc,ad,hw,an,hy,ak,et,ea];rw[← hp];rfl
    ·have:i=sO.length:=o_
     subst this;have aq:=@Zvk (sO.map Zc.Pane) (us.drop sO.length) o d;rw[KG] at aq;rw[aq] at hp;rw[← hp];simp +contextual -implicitDefEqProofs only[go_sem,seval,ab];rfl
end Go.Proofs.YtfnegoimdljanaaGreatDoor
