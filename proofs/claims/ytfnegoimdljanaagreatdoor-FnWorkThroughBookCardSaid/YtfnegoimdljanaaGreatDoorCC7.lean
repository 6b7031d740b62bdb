import Derived.Test.YtfnegoimdljanaaGreatDoorCC5
set_option linter.unusedSimpArgs false
set_option linter.unusedVariables false
namespace Go.Proofs.YtfnegoimdljanaaGreatDoor
open Go Go.Abs Go.Abs.E Go.Abs.L
set_option maxRecDepth 20000
set_option maxHeartbeats 4000000
theorem Zhq (l:List Zc) (pW pH:Int) (pT:Bool) (pK:Int) (c:Int) (hl:l.length≤1048576) (hc:∀ x∈l,R64 (x.Count-c)):v_ 143 [(.d (.sl (l.map Zc.enc))),(.d (.agg [J pW,J pH,.bool pT,J pK])),(.d (J c))] [] =
  some (.tup [.own 0,(.d (.bool (Xe (Pane.mk pW pH pT pK) c false l)))],[.row 5 ((XF l (Pane.mk pW pH pT pK) c).map Zc.enc) true false]):=by
 refine cE ?_;simp (maxSteps:=10^7) +contextual -implicitDefEqProofs only[go_sem,seval,Zjc];refine LO (α:=Nat×Bool) (fun s=>[(10,.d (J (s.1:Int))),(9,.d (.bool s.2))]) (fun s=>[(0,.row 5 ((XF (l.take s.1) (Pane.mk pW pH pT pK) c).map Zc.enc) true false)]) (fun s=>s.1≤l.length∧Xe (Pane.mk pW pH pT pK) c s.2 (l.drop s.1)=Xe (Pane.mk pW pH pT pK) c false l) (fun s=>l.length-s.1) (0,false) ⟨by simp,by simp⟩ ?_;intro⟨i,b⟩ ⟨hi,hp⟩ ih;simp only at hi hp;by_cases aa:i<l.length
 ·obtain⟨x,hx⟩:=Zp aa;have hw:=Zh (k:=i) o_;have hm:=Zye (Pane.mk pW pH pT pK) c hx;have ad:(XF (l.take i) (Pane.mk pW pH pT pK) c).length≤i:=Ku (Kq _ _) (by simp;omega);have hr:((XF (l.take i) (Pane.mk pW pH pT pK) c).length+1)*40≤140737488355328∧(XF (l.take i) (Pane.mk pW pH pT pK) c).length≤140737488355327:=o_
  have ab:=hc x (Kb hx);rw[ZwJ hx] at hp;obtain⟨⟨W,H,T,K⟩,C⟩:=x;simp only[Zhp] at hm hp ab;have u0:=wi (C-c) ab.1 ab.2;by_cases he:(⟨W,H,T,K⟩:Pane)=(Pane.mk pW pH pT pK)
  ·rw[Kj he] at hm hp;have ae:=he;simp only[Pane.mk.injEq] at he;by_cases h0:0<C-c
   ·have h1:0≤C-c:=o_
    rw[Kj h0] at hm;rw[Kg h1] at hp;simp (maxSteps:=10^7) +contextual -implicitDefEqProofs only[go_sem,seval,hx,aa,hw,he,u0,h0,h1,hr];refine ih (i+1,true) _ ⟨p_,hp⟩ p_ ?_;simp (maxSteps:=10^7) +contextual -implicitDefEqProofs only[go_sem,seval,hm,Kax];try (simp[Zc.enc,he];done)
   ·rw[Ke h0] at hm;by_cases h1:0≤C-c
    ·rw[Kg h1] at hp;simp (maxSteps:=10^7) +contextual -implicitDefEqProofs only[go_sem,seval,hx,aa,hw,he,u0,h0,h1,hr];refine ih (i+1,true) _ ⟨p_,hp⟩ p_ ?_;simp (maxSteps:=10^7) +contextual -implicitDefEqProofs only[go_sem,seval,hm,Option.toList_none,KD]
    ·rw[Ki h1] at hp;simp (maxSteps:=10^7) +contextual -implicitDefEqProofs only[go_sem,seval,hx,aa,hw,he,u0,h0,h1,hr];refine ih (i+1,false) _ ⟨p_,hp⟩ p_ ?_;simp (maxSteps:=10^7) +contextual -implicitDefEqProofs only[go_sem,seval,hm,Option.toList_none,KD]
  ·rw[Ke he] at hm hp;simp only[Pane.mk.injEq] at he;by_cases h0:0<C
   ·rw[Kj h0] at hm;simp (maxSteps:=10^7) +contextual -implicitDefEqProofs only[go_sem,seval,hx,aa,hw,he,h0,hr];refine ih (i+1,b) _ ⟨p_,hp⟩ p_ ?_;simp (maxSteps:=10^7) +contextual -implicitDefEqProofs only[go_sem,seval,hm,Kax];try (simp[Zc.enc];done)
   ·rw[Ke h0] at hm;simp (maxSteps:=10^7) +contextual -implicitDefEqProofs only[go_sem,seval,hx,aa,hw,he,h0,hr];refine ih (i+1,b) _ ⟨p_,hp⟩ p_ ?_;simp (maxSteps:=10^7) +contextual -implicitDefEqProofs only[go_sem,seval,hm,Option.toList_none,KD]
 ·have:i=l.length:=o_
  subst this;rw[Zyd] at hp;simp (maxSteps:=10^7) +contextual -implicitDefEqProofs only[go_sem,seval,hp];simp
theorem ZBX (l:List Zc) (i:Nat) (W H:Int) (T:Bool) (K C:Int):(l.map Zc.enc).set i (.agg [J W,J H,.bool T,J K,J C])=(l.set i ⟨⟨W,H,T,K⟩,C⟩).map Zc.enc:=(Kas (f:=Zc.enc) (l:=l) (i:=i) (a:=⟨⟨W,H,T,K⟩,C⟩)).symm
theorem ZdG (l:List Zc) (pW pH:Int) (pT:Bool) (pK:Int) (c:Int) (hl:l.length≤1048576) (hc:∀ x∈l,R64 (x.Count+c)):v_ 142 [(.d (.sl (l.map Zc.enc))),(.d (.agg [J pW,J pH,.bool pT,J pK])),(.d (J c))] [] =
  some (.own 0,[.row 5 ((Yc (Pane.mk pW pH pT pK) c l).map Zc.enc) true false]):=by
 have ag:l.length*40≤140737488355328∧l.length≤140737488355328:=o_
 have ah:(l.length+1)*40≤140737488355328∧l.length≤140737488355327:=o_
 refine cE ?_;simp (maxSteps:=10^7) +contextual -implicitDefEqProofs only[go_sem,seval,ZlB,ag];refine LO (α:=Nat) (fun k=>[(8,.d (J (k:Int)))]) (fun _=>[]) (fun k=>k≤l.length∧(Pane.mk pW pH pT pK)∉(l.take k).map Zc.Pane) (fun k=>l.length-k) 0 ⟨by simp,by simp⟩ ?_;intro k ⟨hk,hp⟩ ih;by_cases aa:k<l.length
 ·obtain⟨x,hx⟩:=Zp aa;have hw:=Zh (k:=k) o_;have ab:=hc x (Kb hx);have ad:=JY hx;have ae:=ZuY (Pane.mk pW pH pT pK) c l k x hx;obtain⟨⟨W,H,T,K⟩,C⟩:=x;simp only at ab ad ae;have u0:=wi (C+c) ab.1 ab.2;by_cases he:(⟨W,H,T,K⟩:Pane)=(Pane.mk pW pH pT pK)
  ·rw[ae he hp];have af:=he;simp only[Pane.mk.injEq] at he;simp (maxSteps:=10^7) +contextual -implicitDefEqProofs only[go_sem,seval,hx,aa,hw,he,u0,ZBX];try (simp[he];done)
  ·have af:=he;simp only[Pane.mk.injEq] at he;simp (maxSteps:=10^7) +contextual -implicitDefEqProofs only[go_sem,seval,hx,aa,hw,he];refine ih (k+1) _ ⟨o_,?_⟩ o_ ?_
   ·rw[ad,Kh];intro h;rcases h with h | h
    ·exact hp h
    ·exact af (KG.1 h).symm
   ·simp (maxSteps:=10^7) +contextual -implicitDefEqProofs only[go_sem,seval]
 ·have:k=l.length:=o_
  subst this;rw[Kw (Kp _)] at hp;rw[ZuZ (Pane.mk pW pH pT pK) c l hp];simp (maxSteps:=10^7) +contextual -implicitDefEqProofs only[go_sem,seval,ah];try (simp[Zc.enc];done)
theorem Zsg (l:List Zb) (qL qW qH:Int) (qF:List Box) (hl:l.length≤100000) (hF:∀ x∈l,x.Flaws.length≤1048576) (hq:qF.length≤1048576):v_ 193 [(.d (.sl (l.map Zb.enc))),(.d (.agg [J qL,J qW,J qH,.sl (qF.map Box.enc)]))] [] =
  some (.own 0,[.row 4 ((QB (Zb.mk qL qW qH qF) l).map Zb.enc) true false]):=by
 have eq:=YQ qL qW qH qF hq;refine cE ?_;simp (maxSteps:=10^7) +contextual -implicitDefEqProofs only[go_sem,seval,ZlU];refine LO (α:=Nat×Bool×List Zb) (fun s=>[(7,.d (J (s.1:Int))),(6,.d (.bool s.2.1))]) (fun s=>[(0,.row 4 (s.2.2.map Zb.enc) true false)]) (fun s=>s.1≤l.length∧s.2.2++(if s.2.1 then l.drop s.1 else QB (Zb.mk qL qW qH qF) (l.drop s.1))=QB (Zb.mk qL qW qH qF) l∧s.2.2.length≤s.1+s.2.1.toNat) (fun s=>l.length-s.1) (0,false,[]) ⟨by simp,by simp,by simp⟩ ?_;intro⟨i,b,o⟩ ⟨hi,hp,ho⟩ ih;simp only at hi hp ho;have hb:=Bool.toNat_le b;by_cases aa:i<l.length
 ·obtain⟨x,hx⟩:=Zp aa;have hw:=Zh (k:=i) o_;have hr:(o.length+1)*48≤140737488355328∧o.length≤140737488355327:=o_
  have ab:∀ n:Nat,n=o.length+1→(n+1)*48≤140737488355328∧n≤140737488355327:=fun n hn=>by omega
  have ab:=ab _ rfl;have ad:o.length≤140737488355326:=o_
  have e:=YQ x.Label x.W x.H x.Flaws (hF x (Kb hx));rw[Zrn hx] at hp;have hd:l.drop i=x :: l.drop (i+1):=by
   obtain⟨h1,h2⟩:=Kc.1 hx;rw[Kx h1,h2]
  obtain⟨L,W,H,F⟩:=x;simp only at e hp;cases b with
  | true=>
   simp only[Bool.toNat_true] at ho;rw[Kj rfl] at hp;simp (maxSteps:=10^7) +contextual -implicitDefEqProofs only[go_sem,seval,hx,aa,hw,e,hr];refine ih (i+1,true,o++[⟨L,W,H,F⟩]) _ ⟨p_,?_,by simp;omega⟩ p_ ?_
   ·rw[← hp,hd];simp
   ·simp (maxSteps:=10^7) +contextual -implicitDefEqProofs only[go_sem,seval];try (simp[Zb.enc];done)
  | false=>
   simp only[Bool.toNat_false] at ho;rw[Ke (by simp)] at hp;by_cases hc:qL<L
   ·rw[Kj hc] at hp;simp (maxSteps:=10^7) +contextual -implicitDefEqProofs only[go_sem,seval,hx,aa,hw,e,eq,hc,hr,ab,ad];refine ih (i+1,true,o++[(Zb.mk qL qW qH qF),⟨L,W,H,F⟩]) _ ⟨p_,?_,by simp;omega⟩ p_ ?_
    ·rw[← hp,hd];simp
    ·simp (maxSteps:=10^7) +contextual -implicitDefEqProofs only[go_sem,seval];try (simp[Zb.enc];done)
   ·rw[Ke hc] at hp;simp (maxSteps:=10^7) +contextual -implicitDefEqProofs only[go_sem,seval,hx,aa,hw,e,hc,hr];refine ih (i+1,false,o++[⟨L,W,H,F⟩]) _ ⟨p_,?_,by simp;omega⟩ p_ ?_
    ·rw[← hp];simp
    ·simp (maxSteps:=10^7) +contextual -implicitDefEqProofs only[go_sem,seval];try (simp[Zb.enc];done)
 ·have:i=l.length:=o_
  subst this;have hr:(o.length+1)*48≤140737488355328∧o.length≤140737488355327:=o_
  cases b with
  | true=>
   simp at hp;simp (maxSteps:=10^7) +contextual -implicitDefEqProofs only[go_sem,seval];rw[hp]
  | false=>
   simp[QB] at hp;simp (maxSteps:=10^7) +contextual -implicitDefEqProofs only[go_sem,seval,eq,hr];rw[← hp];try (simp[Zb.enc];done)
def VA (p:Zb) (l:List Zb):Prop:=(VSt l∧VPc p)∧VSt (QB p l)
instance (p:Zb) (l:List Zb):Decidable (VA p l):=by unfold VA;infer_instance
theorem Zi8 (l:List Zb) (qL qW qH:Int) (qF:List Box) (hl:l.length≤100000) (hS:∀ x∈l,x.Flaws.length≤1048576∧R64 x.W∧R64 x.H) (hq:qF.length≤1048576∧R64 qW∧R64 qH):v_ 141 [(.d (.sl (l.map Zb.enc))),(.d (.agg [J qL,J qW,J qH,.sl (qF.map Box.enc)]))] [] =
  some (.tup [.own 0,(.d (.bool (decide (VA (Zb.mk qL qW qH qF) l))))],[.row 4 ((if VA (Zb.mk qL qW qH qF) l then QB (Zb.mk qL qW qH qF) l else []).map Zb.enc) true false]):=by
 have e1:=Yn l o_ (fun x hx=>⟨by have:=(hS x hx).1;omega,(hS x hx).2⟩);have e2:=Zgd qL qW qH qF o_ hq.2.1 hq.2.2;have e3:=Zsg l qL qW qH qF hl (fun x hx=>(hS x hx).1) hq.1;have e4:=Yn (QB (Zb.mk qL qW qH qF) l) (by rw[Zm5];omega) (fun x hx=>by
  rcases ZtK _ _ _ hx with rfl | hx
  ·exact⟨p_,hq.2⟩
  ·exact⟨by have:=(hS x hx).1;omega,(hS x hx).2⟩)
 refine cE ?_;by_cases v1:VSt l
 ·rw[Kg v1] at e1;by_cases v2:VPc (Zb.mk qL qW qH qF)
  ·rw[Kg v2] at e2;by_cases v3:VSt (QB (Zb.mk qL qW qH qF) l)
   ·rw[Kg v3] at e4;have h:VA (Zb.mk qL qW qH qF) l:=⟨⟨v1,v2⟩,v3⟩
    rw[Kg h,Kj h];simp (maxSteps:=10^7) +contextual -implicitDefEqProofs only[go_sem,seval,Jq,e1,e2,e3,e4]
   ·rw[Ki v3] at e4;have h:¬VA (Zb.mk qL qW qH qF) l:=fun h=>v3 h.2;rw[Ki h,Ke h];simp (maxSteps:=10^7) +contextual -implicitDefEqProofs only[go_sem,seval,Jq,e1,e2,e3,e4]
  ·rw[Ki v2] at e2;have h:¬VA (Zb.mk qL qW qH qF) l:=fun h=>v2 h.1.2;rw[Ki h,Ke h];simp (maxSteps:=10^7) +contextual -implicitDefEqProofs only[go_sem,seval,Jq,e1,e2]
 ·rw[Ki v1] at e1;have h:¬VA (Zb.mk qL qW qH qF) l:=fun h=>v1 h.1.1;rw[Ki h,Ke h];simp (maxSteps:=10^7) +contextual -implicitDefEqProofs only[go_sem,seval,Jq,e1]
theorem Zu0 (l:List Zb) (hl:l.length≤1048576) (hF:∀ x∈l,x.Flaws.length≤1048576):v_ 95 [(.d (.sl (l.map Zb.enc))),(.d (J ((-1))))] []=some (.own 0,[.row 4 (l.map Zb.enc) true false]):=by
 refine cE ?_;simp (maxSteps:=10^7) +contextual -implicitDefEqProofs only[go_sem,seval,ZhS];refine LO (α:=Nat) (fun i=>[(6,.d (J (i:Int)))]) (fun i=>[(0,.row 4 ((l.take i).map Zb.enc) true false)]) (fun i=>i≤l.length) (fun i=>l.length-i) 0 o_ ?_;intro i hi ih;by_cases aa:i<l.length
 ·obtain⟨x,hx⟩:=Zp aa;have hw:=Zh (k:=i) o_;have ab:¬(i:Int)=-1:=o_
  have hm:l.take (i+1)=l.take i++[x]:=by rw[KH,hx];simp
  have ad:(l.take i).length≤i:=by simp;omega
  have hr:((l.take i).length+1)*48≤140737488355328∧(l.take i).length≤140737488355327:=o_
  have e:=YQ x.Label x.W x.H x.Flaws (hF x (Kb hx));obtain⟨L,W,H,F⟩:=x;simp only at e;simp (maxSteps:=10^7) +contextual -implicitDefEqProofs only[go_sem,seval,hx,aa,hw,ab,e,hr];refine ih (i+1) _ o_ o_ ?_;simp (maxSteps:=10^7) +contextual -implicitDefEqProofs only[go_sem,seval,hm]
  first | rfl | (simp;done) | (simp;rfl)
 ·have:i=l.length:=o_
  subst this;simp (maxSteps:=10^7) +contextual -implicitDefEqProofs only[go_sem,seval];simp
theorem Yz (sS:List Zb) (sO sD:List Zc) (sL sC:Int) (hs:Un (Zm.mk sS sO sD sL sC)):v_ 50 [(.d (.agg [.sl (sS.map Zb.enc),.sl (sO.map Zc.enc),.sl (sD.map Zc.enc),J sL,J sC]))] []=some (.agg [.own 0,.own 1,.own 2,(.d (J sL)),(.d (J sC))],[.row 4 (sS.map Zb.enc) true false,.row 5 (sO.map Zc.enc) true false,.row 5 (sD.map Zc.enc) true false]):=by
 obtain⟨h1,h2,h3,h4⟩:=hs;simp only at h1 h2 h3 h4;have e1:=Zu0 sS h1 (fun x hx=>(h2 x hx).1);have r1:sO.length*40≤140737488355328∧sO.length≤140737488355328:=o_
 have r2:sD.length*40≤140737488355328∧sD.length≤140737488355328:=o_
 refine cE ?_;simp (maxSteps:=10^7) +contextual -implicitDefEqProofs only[go_sem,seval,ZlD,Zod,e1,r1,r2]
theorem ZwL (sS:List Zb) (sO sD:List Zc) (sL sC:Int) (a:Nat) (qL qW qH:Int) (qF:List Box) (hx:sS[a]?=some (Zb.mk qL qW qH qF)) (hl:sO.length≤1048576) (hS:sS.length≤1048576):v_ 144 [(.d (.agg [.sl (sS.map Zb.enc),.sl (sO.map Zc.enc),.sl (sD.map Zc.enc),J sL,J sC])),(.d (J a))] []=some (.agg [(.d (J qW)),(.d (J qH)),.own 0],[.row 4 ((sO.map Zc.Pane).map Pane.enc) true false]):=by
 have aa:=(Kc.1 hx).1;refine cE ?_;simp (maxSteps:=10^7) +contextual -implicitDefEqProofs only[go_sem,seval,ZrE,hx,aa];refine LO (α:=Nat) (fun i=>[(6,.d (J (i:Int)))]) (fun i=>[(3,.row 4 (((sO.take i).map Zc.Pane).map Pane.enc) true false)]) (fun i=>i≤sO.length) (fun i=>sO.length-i) 0 o_ ?_;intro i hi ih;by_cases aa:i<sO.length
 ·obtain⟨x,hx⟩:=Zp aa;have hw:=Zh (k:=i) o_;have hm:=JY hx;have ab:(sO.take i).length≤i:=by simp;omega
  have hr:((sO.take i).length+1)*32≤140737488355328∧(sO.take i).length≤140737488355327:=o_
  obtain⟨⟨W,H,T,K⟩,C⟩:=x;simp only at hm;simp (maxSteps:=10^7) +contextual -implicitDefEqProofs only[go_sem,seval,hx,aa,hw,hr];refine ih (i+1) _ o_ o_ ?_;simp (maxSteps:=10^7) +contextual -implicitDefEqProofs only[go_sem,seval,hm]
  first | rfl | (simp;done) | (simp;rfl)
 ·have:i=sO.length:=o_
  subst this;simp (maxSteps:=10^7) +contextual -implicitDefEqProofs only[go_sem,seval];simp
def SmS (s:Zm):Prop:=Un s∧s.Stock.length≤100000∧-1000000000≤s.Lost∧s.Lost≤1000000000∧-1000000000≤s.Came∧s.Came≤1000000000
theorem Zm6 {s:Zm} (h:ZE s):SmS s:=⟨YR h,by have:=h.1.1;omega,by have:=h.2.2.2.1;omega,by have:=h.2.2.2.2.1;omega,by have:=h.2.2.2.2.2.1;omega,by have:=h.2.2.2.2.2.2.1;omega⟩
def I5 (n:Int):Prop:=-100000≤n∧n≤100000
theorem ZBY {a b:Int} (ha:I5 a) (hb:I5 b) : -10000000000≤a*b∧a*b≤10000000000:=by
 unfold I5 at ha hb;have h1:a.natAbs≤100000:=o_
 have h2:b.natAbs≤100000:=o_
 have h3:(a*b).natAbs≤100000*100000:=by rw[Int.natAbs_mul];exact Nat.mul_le_mul h1 h2
 omega
theorem ZBZ {a:Int} (h:I5 a):R64 a:=by unfold I5 at h;unfold R64;omega
theorem Zj0 (sS:List Zb) (sO sD:List Zc) (sL sC:Int) (eK eL eX eY eW eH aa ab:Int) (ad:Bool) (ae eC eo ea ep:Int) (et:Bool) (ek:List Zf) (hs:SmS (Zm.mk sS sO sD sL sC)) (hk:eK=0) (hW:I5 eW) (hH:I5 eH):v_ 100 [(.d (.agg [.sl (sS.map Zb.enc),.sl (sO.map Zc.enc),.sl (sD.map Zc.enc),J sL,J sC])),(.d (.agg [J eK,J eL,J eX,J eY,J eW,J eH,J aa,J ab,.bool ad,J ae,J eC,J eo,J ea,J ep,.bool et,.sl (ek.map Zf.enc)]))] [] =
  some (.tup [.agg [.own 0,.d (.sl (sO.map Zc.enc)),.d (.sl (sD.map Zc.enc)),(.d (J sL)),(.d (J (sC+eW*eH)))],(.d (.bool (decide ((VA ⟨eL,eW,eH,[]⟩ sS∧eX=0)∧eY=0))))],[.row 4 ((if VA ⟨eL,eW,eH,[]⟩ sS then QB ⟨eL,eW,eH,[]⟩ sS else []).map Zb.enc) true false]):=by
 obtain⟨⟨h1,h2,h3,h4⟩,h5,h6,h7,h8,h9⟩:=hs;simp only at h1 h2 h3 h4 h5 h6 h7 h8 h9;subst hk;have hm:=ZBY hW hH;have e1:=Yb sS eL o_;have e2:=Zi8 sS eL eW eH [] h5 h2 ⟨by simp,ZBZ hW,ZBZ hH⟩;have u1:=wi (eW*eH) o_ o_;have u2:=wi (sC+eW*eH) o_ o_;simp only[Kt] at e2;generalize (if VA ⟨eL,eW,eH,[]⟩ sS then QB ⟨eL,eW,eH,[]⟩ sS else [])=R at e2 ⊢;by_cases v1:VA ⟨eL,eW,eH,[]⟩ sS
 ·rw[Kg v1] at e2;refine cE ?_;by_cases v2:eX=0
  ·simp (maxSteps:=10^7) +contextual -implicitDefEqProofs only[go_sem,seval,Yf,e1,e2,u1,u2,v2]
   all_goals simp[v1]
  ·simp (maxSteps:=10^7) +contextual -implicitDefEqProofs only[go_sem,seval,Yf,e1,e2,u1,u2,v2]
   all_goals simp
 ·rw[Ki v1] at e2;refine cE ?_;simp (maxSteps:=10^7) +contextual -implicitDefEqProofs only[go_sem,seval,Yf,e1,e2,u1,u2,v1]
theorem ZoL (sS:List Zb) (sO sD:List Zc) (sL sC:Int) (eK eL eX eY eW eH aa ab:Int) (ad:Bool) (ae eC eo ea ep:Int) (et:Bool) (ek:List Zf) (hs:SmS (Zm.mk sS sO sD sL sC)) (hk:¬eK=0) (hf:Qz 0 sS eL<0):v_ 100 [(.d (.agg [.sl (sS.map Zb.enc),.sl (sO.map Zc.enc),.sl (sD.map Zc.enc),J sL,J sC])),(.d (.agg [J eK,J eL,J eX,J eY,J eW,J eH,J aa,J ab,.bool ad,J ae,J eC,J eo,J ea,J ep,.bool et,.sl (ek.map Zf.enc)]))] [] =
  some (.tup [.agg [.own 0,.own 1,.own 2,(.d (J 0)),(.d (J 0))],(.d (.bool false))],[.row 4 [] true false,.row 5 [] true false,.row 5 [] true false]):=by
 have e1:=Yb sS eL (by have:=hs.2.1;simp only at this;omega);refine cE ?_;simp (maxSteps:=10^7) +contextual -implicitDefEqProofs only[go_sem,seval,Yf,e1,hk,hf]
theorem Zj1 (sS:List Zb) (sO sD:List Zc) (sL sC:Int) (eK eL eX eY eW eH aa ab:Int) (ad:Bool) (ae eC eo ea ep:Int) (et:Bool) (ek:List Zf) (hs:SmS (Zm.mk sS sO sD sL sC)) (hk:eK=5) (a:Nat) (hf:Qz 0 sS eL=(a:Int)) (qL qW qH:Int) (qF:List Box) (hx:sS[a]?=some (Zb.mk qL qW qH qF)) (hW:I5 qW) (hH:I5 qH):v_ 100 [(.d (.agg [.sl (sS.map Zb.enc),.sl (sO.map Zc.enc),.sl (sD.map Zc.enc),J sL,J sC])),(.d (.agg [J eK,J eL,J eX,J eY,J eW,J eH,J aa,J ab,.bool ad,J ae,J eC,J eo,J ea,J ep,.bool et,.sl (ek.map Zf.enc)]))] [] =
  some (.tup [.agg [.own 0,.d (.sl (sO.map Zc.enc)),.d (.sl (sD.map Zc.enc)),(.d (J (sL+qW*qH))),(.d (J sC))],(.d (.bool true))],[.row 4 ((sS.eraseIdx a).map Zb.enc) true false]):=by
 obtain⟨⟨h1,h2,h3,h4⟩,h5,h6,h7,h8,h9⟩:=hs;simp only at h1 h2 h3 h4 h5 h6 h7 h8 h9;subst hk;have hm:=ZBY hW hH;have e1:=Yb sS eL o_;rw[hf] at e1;have af:=(Kc.1 hx).1;have h0:¬(a:Int)<0:=o_
 have e2:=YQ qL qW qH qF (h2 _ (Kb hx)).1;have e3:=Zft sS a h1 (fun x hx=>(h2 x hx).1);have u1:=wi (qW*qH) o_ o_;have u2:=wi (sL+qW*qH) o_ o_;refine cE ?_;simp (maxSteps:=10^7) +contextual -implicitDefEqProofs only[go_sem,seval,Yf,e1,e2,e3,h0,af,hx,u1,u2]
theorem Zlr (sS:List Zb) (sO sD:List Zc) (sL sC:Int) (eK eL eX eY eW eH ab ad:Int) (ae:Bool) (af eC eo ea ep:Int) (et:Bool) (ek:List Zf) (hv:ZE (Zm.mk sS sO sD sL sC)) (hk:eK=1) (a:Nat) (hf:Qz 0 sS eL=(a:Int)) (qL qW qH:Int) (qF:List Box) (hx:sS[a]?=some (Zb.mk qL qW qH qF)):v_ 100 [(.d (.agg [.sl (sS.map Zb.enc),.sl (sO.map Zc.enc),.sl (sD.map Zc.enc),J sL,J sC])),(.d (.agg [J eK,J eL,J eX,J eY,J eW,J eH,J ab,J ad,.bool ae,J af,J eC,J eo,J ea,J ep,.bool et,.sl (ek.map Zf.enc)]))] [] =
  some (.tup [.agg [.own 0,.d (.sl (sO.map Zc.enc)),.d (.sl (sD.map Zc.enc)),(.d (J sL)),(.d (J sC))],(.d (.bool (decide (VA ⟨qL,qW,qH,qF++[⟨eX,eY,eW,eH⟩]⟩ (sS.eraseIdx a)))))],[.row 4 ((if VA ⟨qL,qW,qH,qF++[⟨eX,eY,eW,eH⟩]⟩ (sS.eraseIdx a) then QB ⟨qL,qW,qH,qF++[⟨eX,eY,eW,eH⟩]⟩ (sS.eraseIdx a) else []).map Zb.enc) true false]):=by
 obtain⟨⟨h1,h2,h3,h4⟩,h5,h6,h7,h8,h9⟩:=Zm6 hv;simp only at h1 h2 h3 h4 h5 h6 h7 h8 h9;subst hk;have e1:=Yb sS eL o_;rw[hf] at e1;have ag:=(Kc.1 hx).1;have h0:¬(a:Int)<0:=o_
 have aa:=h2 _ (Kb hx);simp only at aa;have ai:=Zm2 sS a;have e2:=YQ qL qW qH qF aa.1;have e3:=Zft sS a h1 (fun x hx=>(h2 x hx).1);have hr:(qF.length+1)*32≤140737488355328∧qF.length≤140737488355327:=o_
 have ah:=(ZU hv.1.2 _ (Kb hx)).1.2.2.2.2.2.2;simp only at ah;have e4:=Zi8 (sS.eraseIdx a) qL qW qH (qF++[⟨eX,eY,eW,eH⟩]) o_ (fun x hx=>h2 x (L8 hx)) ⟨by simp;omega,aa.2⟩;rw[KJ] at e4;simp only[Kk,Kt,Box.enc] at e4;generalize (if VA ⟨qL,qW,qH,qF++[⟨eX,eY,eW,eH⟩]⟩ (sS.eraseIdx a) then QB ⟨qL,qW,qH,qF++[⟨eX,eY,eW,eH⟩]⟩ (sS.eraseIdx a) else [])=R at e4 ⊢;generalize decide (VA ⟨qL,qW,qH,qF++[⟨eX,eY,eW,eH⟩]⟩ (sS.eraseIdx a))=V at e4 ⊢;refine cE ?_;simp (maxSteps:=10^7) +contextual -implicitDefEqProofs only[go_sem,seval,Yf,e1,e2,e3,e4,h0,ag,hx,hr]
def Vn (l:Zc):Prop:=VP l.Pane∧1≤l.Count∧l.Count≤24
instance (l:Zc):Decidable (Vn l):=by unfold Vn;infer_instance
theorem ZoM (sS:List Zb) (sO sD:List Zc) (sL sC:Int) (eK eL eX eY eW eH aa ab:Int) (ad:Bool) (ae eC eo ea ep:Int) (et:Bool) (ek:List Zf) (hl:¬Vn ⟨⟨aa,ab,ad,ae⟩,eC⟩):v_ 101 [(.d (.agg [.sl (sS.map Zb.enc),.sl (sO.map Zc.enc),.sl (sD.map Zc.enc),J sL,J sC])),(.d (.agg [J eK,J eL,J eX,J eY,J eW,J eH,J aa,J ab,.bool ad,J ae,J eC,J eo,J ea,J ep,.bool et,.sl (ek.map Zf.enc)]))] [] =
  some (.tup [.agg [.own 0,.own 1,.own 2,(.d (J 0)),(.d (J 0))],(.d (.bool false))],[.row 4 [] true false,.row 5 [] true false,.row 5 [] true false]):=by
 have e1:=YP aa ab ad ae;have e2:=ZI eC 1 24;refine cE ?_;by_cases v1:VP ⟨aa,ab,ad,ae⟩
 ·have v2:¬(1≤eC∧eC≤24):=fun h=>hl ⟨v1,h⟩;rw[Kg v1] at e1;rw[Ki v2] at e2;simp (maxSteps:=10^7) +contextual -implicitDefEqProofs only[go_sem,seval,WY,e1,e2]
 ·rw[Ki v1] at e1;simp (maxSteps:=10^7) +contextual -implicitDefEqProofs only[go_sem,seval,WY,e1]
theorem Zls (sS:List Zb) (sO sD:List Zc) (sL sC:Int) (eK eL eX eY eW eH aa ab:Int) (ad:Bool) (ae eC eo ea ep:Int) (et:Bool) (ek:List Zf) (hv:ZE (Zm.mk sS sO sD sL sC)) (hl:Vn ⟨⟨aa,ab,ad,ae⟩,eC⟩) (hk:eK=2):v_ 101 [(.d (.agg [.sl (sS.map Zb.enc),.sl (sO.map Zc.enc),.sl (sD.map Zc.enc),J sL,J sC])),(.d (.agg [J eK,J eL,J eX,J eY,J eW,J eH,J aa,J ab,.bool ad,J ae,J eC,J eo,J ea,J ep,.bool et,.sl (ek.map Zf.enc)]))] [] =
  some (.tup [.agg [.d (.sl (sS.map Zb.enc)),.own 0,.d (.sl (sD.map Zc.enc)),(.d (J sL)),(.d (J sC))],(.d (.bool true))],[.row 5 ((Yc ⟨aa,ab,ad,ae⟩ eC sO).map Zc.enc) true false]):=by
 have e1:=YP aa ab ad ae;have e2:=ZI eC 1 24;rw[Kg hl.1] at e1;rw[Kg hl.2] at e2;subst hk;have e3:=ZdG sO aa ab ad ae eC (by have:=hv.2.1.1;simp only at this;omega) (fun x hx=>by have:=(QK hv.2.1 x hx).2;have:=hl.2;simp only at this;unfold R64;omega);refine cE ?_;simp (maxSteps:=10^7) +contextual -implicitDefEqProofs only[go_sem,seval,WY,e1,e2,e3]
theorem Zlt (sS:List Zb) (sO sD:List Zc) (sL sC:Int) (eK eL eX eY eW eH aa ab:Int) (ad:Bool) (ae eC eo ea ep:Int) (et:Bool) (ek:List Zf) (hv:ZE (Zm.mk sS sO sD sL sC)) (hl:Vn ⟨⟨aa,ab,ad,ae⟩,eC⟩) (hk:¬eK=2):v_ 101 [(.d (.agg [.sl (sS.map Zb.enc),.sl (sO.map Zc.enc),.sl (sD.map Zc.enc),J sL,J sC])),(.d (.agg [J eK,J eL,J eX,J eY,J eW,J eH,J aa,J ab,.bool ad,J ae,J eC,J eo,J ea,J ep,.bool et,.sl (ek.map Zf.enc)]))] [] =
  some (.tup [.agg [.d (.sl (sS.map Zb.enc)),.own 0,.own 1,(.d (J (sL+eC*aa*ab))),(.d (J sC))],(.d (.bool (Xe ⟨aa,ab,ad,ae⟩ eC false sD)))],[.row 5 ((Yc ⟨aa,ab,ad,ae⟩ eC sO).map Zc.enc) true false,.row 5 ((XF sD ⟨aa,ab,ad,ae⟩ eC).map Zc.enc) true false]):=by
 have e1:=YP aa ab ad ae;have e2:=ZI eC 1 24;rw[Kg hl.1] at e1;rw[Kg hl.2] at e2;have af:=Zbx hl;have h6:=hv.2.2.2;simp only at af h6;have e3:=ZdG sO aa ab ad ae eC (by have:=hv.2.1.1;simp only at this;omega) (fun x hx=>by have:=(QK hv.2.1 x hx).2;have:=hl.2;simp only at this;unfold R64;omega);have e4:=Zhq sD aa ab ad ae eC (by have:=hv.2.2.1.1;simp only at this;omega) (fun x hx=>by have:=(QK hv.2.2.1 x hx).2;have:=hl.2;simp only at this;unfold R64;omega);have u0:=wi (eC*aa) o_ o_;have u1:=wi (eC*aa*ab) o_ o_;have u2:=wi (sL+eC*aa*ab) o_ o_
 refine cE ?_;simp (maxSteps:=10^7) +contextual -implicitDefEqProofs only[go_sem,seval,WY,e1,e2,e3,e4,hk,u0,u1,u2]
theorem Zat {ps:List Pane}:∀ {b:BT} {x y w h:Int},Xy ps b w h=true→∀ c∈plc b x y w h,∃ n:Nat,c.Pane=(n:Int)∧n<ps.length
 | .waste,x,y,w,h,hf,c,hc=>by simp[plc] at hc
 | .pane i t,x,y,w,h,hf,c,hc=>by
  simp only[plc,KG] at hc;subst hc;simp only[Xy,XD,Kf,Ko] at hf;refine⟨i.toNat,p_,?_⟩;rcases K7 i.toNat ps.length with h1 | h1
  ·exact h1
  ·rw[KZ h1] at hf;exact absurd hf.2 (by simp)
 | .cut d a l r,x,y,w,h,hf,c,hc=>by
  cases d
  ·simp only[Xy,Kf,Ka,Km] at hf;simp only[plc,Ka,Km,Kh] at hc;rcases hc with hc | hc
   ·exact Zat hf.1.2 c hc
   ·exact Zat hf.2 c hc
  ·simp only[Xy,Kf,Kl] at hf;simp only[plc,Kl,Kh] at hc;rcases hc with hc | hc
   ·exact Zat hf.1.2 c hc
   ·exact Zat hf.2 c hc
def WR:List Int→List L.Place→List Int
 | u,[]=>u
 | u,x :: l=>WR (u.set x.Pane.toNat (u[x.Pane.toNat]?.getD 0+1)) l
theorem Zrr {u:List Int} {l:List L.Place} {k:Nat} {x:L.Place} (hx:l[k]?=some x):WR u (l.drop k)=WR (u.set x.Pane.toNat (u[x.Pane.toNat]?.getD 0+1)) (l.drop (k+1)):=by
 obtain⟨h1,h2⟩:=Kc.1 hx;rw[Kx h1,h2,WR]
theorem ZtL {u:List Int} {l:List L.Place}:WR u (l.drop l.length)=u:=by simp[WR]
theorem ZtM:∀ (l:List L.Place) (u:List Int),(WR u l).length=u.length
 | [],u=>rfl
 | x :: l,u=>by rw[WR,ZtM l];simp
theorem ZtN:∀ (l:List L.Place) (u:List Int) (m:Int),(∀ v∈u,0≤v∧v≤m)→∀ v∈WR u l,0≤v∧v≤m+l.length
 | [],u,m,h,v,hv=>by have:=h v hv;simp;omega
 | x :: l,u,m,h,v,hv=>by
  have:=ZtN l _ (m+1) (fun w hw=>by
   rcases List.mem_or_eq_of_mem_set hw with h1 | rfl
   ·have:=h w h1;omega
   ·cases hg:u[x.Pane.toNat]? with
    | none=>
     simp;have h0:∀ z:Int,0≤z→1≤z+1:=o_
     by_cases hu:u=[]
     ·subst hu;simp at hw
     ·obtain⟨z,hz⟩:=List.exists_mem_of_ne_nil u hu;have:=h z hz;omega
    | some z=>have:=h z (Kb hg);simp;omega) v hv
  simp only[Kn];omega
theorem Zo2 (u:List Int) (i:Nat) (v:Int):(u.map Yi).set i (J v)=(u.set i v).map Yi:=(Kas (f:=Yi) (l:=u) (i:=i) (a:=v)).symm
theorem rep_int (n:Nat):List.replicate n (D.int .i64 0)=(List.replicate n (0:Int)).map Yi:=by simp[Yi]
def ZaY (k:Zt) (p:Zf):List Int:=WR (List.replicate k.Panes.length 0) ((Qt k p).filterMap Q3)
theorem Zde {k:Zt} {p:Zf} (hv:YO k p=true):(ZaY k p).length=k.Panes.length∧∀ v∈ZaY k p,0≤v∧v≤255:=by
 obtain⟨b,hb,ae,af,ab,ad,aa⟩:=QM hv;have hl:((Qt k p).filterMap Q3).length≤255:=by
  have:=Kq Q3 (Qt k p);rw[aa,UX] at this;rw[aa];omega
 refine⟨by unfold ZaY;rw[ZtM];simp,fun v h=>?_⟩;have:=ZtN _ _ 0 (fun w hw=>by rw[L7 hw];omega) v h;omega
theorem ZwM (kW kH:Int) (kP:List Pane) (p:Zf) (hv:YO (Zt.mk kW kH kP) p=true):v_ 148 [(.d (.agg [J kW,J kH,.sl (kP.map Pane.enc)])),.d p.enc] []=some (.own 0,[.row 1 ((ZaY (Zt.mk kW kH kP) p).map Yi) true false]):=by
 obtain⟨b,hb,af,ad,aj,aa,ab⟩:=QM hv;simp only at aa ab;have e:=Zi5 kW kH kP p b af (by simp only[VW,inB] at ad ⊢;omega) aa o_;have ag:=Zat (x:=0) (y:=0) aa;have an:kP.length≤24:=ad.2.2.2.2.1;have ak:(plc b 0 0 kW kH).length≤255:=by
  have:=Kq Q3 (Qt (Zt.mk kW kH kP) p);rw[ab,UX,Yl] at this;omega
 unfold ZaY;rw[ab,Yl];generalize plc b 0 0 kW kH=L at e ag ak ⊢;have al:(kP.length:Int)*((8:Nat):Int)≤((140737488355328:Nat):Int)∧kP.length≤140737488355328:=o_
 have ae:(kP.length:Int)*8≤140737488355328∧(kP.length:Int)≤140737488355328:=o_
 clear hv hb af ad ab aa;obtain⟨o,a,q,t,ks⟩:=p;rw[Zf.enc_mk] at e ⊢;refine cE ?_;simp (maxSteps:=10^7) +contextual -implicitDefEqProofs only[go_sem,seval,ZrF,e,rep_int,al,ae];refine LO (α:=Nat×List Int) (fun s=>[(7,.d (J (s.1:Int)))]) (fun s=>[(1,.row 1 (s.2.map Yi) true false)]) (fun s=>s.1≤L.length∧s.2.length=kP.length∧(∀ v∈s.2,0≤v∧v≤s.1)∧WR s.2 (L.drop s.1)=WR (List.replicate kP.length 0) L) (fun s=>L.length-s.1) (0,List.replicate kP.length 0) ⟨by simp,by simp,fun w hw=>by rw[L7 hw];simp,by simp⟩ ?_;intro⟨i,u⟩ ⟨hi,hul,huv,hp⟩ ih;simp only at hi hul huv hp;by_cases ah:i<L.length
 ·obtain⟨x,hx⟩:=Zp ah;have hw:=Zh (k:=i) o_;obtain⟨n,hn,am⟩:=ag x (Kb hx);rw[Zrr hx,hn] at hp;obtain⟨q',t',⟨X,Y,W,H⟩⟩:=x;simp only at hn;subst hn;have ai:n<u.length:=o_
  obtain⟨z,hz⟩:=Zp ai;have ao:=huv z (Kb hz);have u1:=wi (z+1) o_ o_;rw[Ky,hz] at hp;simp (maxSteps:=10^7) +contextual -implicitDefEqProofs only[go_sem,seval,hx,ah,hw,am,ai,hz,u1,Zo2,hul];refine ih (i+1,u.set n (z+1)) _ ⟨p_,by simpa using hul,fun v hv=>?_,hp⟩ p_ ?_
  ·simp only;rcases List.mem_or_eq_of_mem_set hv with h1 | rfl
   ·have:=huv v h1;omega
   ·omega
  ·simp (maxSteps:=10^7) +contextual -implicitDefEqProofs only[go_sem,seval,List.headD_cons,Zo2]
 ·have:i=L.length:=o_
  subst this;rw[ZtL] at hp;simp (maxSteps:=10^7) +contextual -implicitDefEqProofs only[go_sem,seval,hp]
def Zj2:BT→Bool
 | .waste=>false
 | .pane _ _=>true
 | .cut _ _ l r=>Zj2 l || Zj2 r
theorem Zfv:∀ (b:BT),v_ 146 [.d b.plan.enc] []=some ((.d (.bool (Zj2 b))),[])
 | .waste=>by
  simp only[BT.plan,Zf.enc_mk];refine cE ?_;simp (maxSteps:=10^7) +contextual -implicitDefEqProofs only[go_sem,seval,Zdm,Xd,Zj2]
 | .pane i t=>by
  simp only[BT.plan,Zf.enc_mk];refine cE ?_;simp (maxSteps:=10^7) +contextual -implicitDefEqProofs only[go_sem,seval,Zdm,Xd,Zj2]
 | .cut d a l r=>by
  have e1:=Zfv l;have e2:=Zfv r;simp only[BT.plan,Zf.enc_mk];cases hb:Zj2 l<;>rw[hb] at e1<;>cases d <;>
  ·refine cE ?_;simp (maxSteps:=10^7) +contextual -implicitDefEqProofs only[go_sem,seval,Zdm,Xd,Zj2,Z8,e1,e2,hb,Lt,Bool.true_or,LN]
theorem Zsh (kW kH:Int) (kP:List Pane) (p:Zf) (Zj:Int) (hv:YO (Zt.mk kW kH kP) p=true) (h1:1≤Zj) (h2:Zj≤200):v_ 147 [(.d (.agg [J kW,J kH,.sl (kP.map Pane.enc)])),.d p.enc,(.d (J Zj))] [] =
  some ((.d (J (XS (Zc5 (Zt.mk kW kH kP) p Zj)))),[]):=by
 obtain⟨b,hb,ai,af,aj,aa,ad⟩:=QM hv;have am:kP.length≤24:=af.2.2.2.2.1;have ev:=Zha kW kH kP p o_;rw[hv] at ev;have er:=ZI Zj 1 200;rw[Kg (show 1≤Zj∧Zj≤200 from ⟨h1,h2⟩)] at er;simp only at aa ad;have ep:=Zi6 kW kH kP p b ai (by simp only[VW,inB] at af ⊢;omega) aa o_;have ab:=Zbq hv;have ag:((Qt (Zt.mk kW kH kP) p).filterMap XM).length≤255:=by
  have:=Kq XM (Qt (Zt.mk kW kH kP) p);rw[ad,UX] at this;rw[ad];omega
 rw[← Zer,← ad] at ep;unfold Zc5;generalize (Qt (Zt.mk kW kH kP) p).filterMap XM=L at ep ab ag ⊢;clear hv hb ai af ad aa;obtain⟨o,a,n,t,ks⟩:=p;rw[Zf.enc_mk] at ev ep ⊢;refine cE ?_;simp (maxSteps:=10^7) +contextual -implicitDefEqProofs only[go_sem,seval,ZlX,ev,ep,er];refine LO (α:=Nat) (fun i=>[(9,.d (J (i:Int))),(7,.d (J (XS ((L.take i).filterMap (WM Zj)))))]) (fun _=>[]) (fun i=>i≤L.length) (fun i=>L.length-i) 0 o_ ?_;intro i hi ih;by_cases ah:i<L.length
 ·obtain⟨x,hx⟩:=Zp ah;have hw:=Zh (k:=i) o_;have hm:=J5 (f:=WM Zj) hx;have ak:=ab x (Kb hx);have ha:=Zet (l:=(L.take i).filterMap (WM Zj)) (fun c hc=>by
   obtain⟨d,hd,ae⟩:=Ls.1 hc;unfold WM at ae;split at ae
   ·cases ae;exact ab c (KY hd)
   ·cases ae)
  have an:((L.take i).filterMap (WM Zj)).length≤i:=Ku (Kq _ _) (by simp;omega);have al:=UY ak;obtain⟨X,Y,W,H⟩:=x;simp only at al;have w0:=wi (W*H) o_ o_;have w1:=wi (XS ((L.take i).filterMap (WM Zj))+W*H) o_ o_;have es:=Zb6 X Y W H Zj;simp only[WM] at hm;by_cases ho:W<Zj∨H<Zj
  ·rw[Kj ho] at hm;rw[Ki (show ¬(Zj≤W∧Zj≤H) by omega)] at es;simp (maxSteps:=10^7) +contextual -implicitDefEqProofs only[go_sem,seval,hx,ah,hw,es,w0,w1];refine ih (i+1) _ o_ o_ ?_;simp (maxSteps:=10^7) +contextual -implicitDefEqProofs only[go_sem,seval,hm,Za8,Option.toList,XS]
   first | rfl | (simp;done) | (simp;rfl)
  ·rw[Ke ho] at hm;rw[Kg (show Zj≤W∧Zj≤H by omega)] at es;simp (maxSteps:=10^7) +contextual -implicitDefEqProofs only[go_sem,seval,hx,ah,hw,es];refine ih (i+1) _ o_ o_ ?_;simp (maxSteps:=10^7) +contextual -implicitDefEqProofs only[go_sem,seval,hm,Option.toList,KD]
 ·have:i=L.length:=o_
  subst this;simp (maxSteps:=10^7) +contextual -implicitDefEqProofs only[go_sem,seval];simp
def YS:List Pane→List Int→List Zc→List Zc→Option (List Zc×List Zc)
 | p :: ps,c :: us,o,d=>if c=0 then YS ps us o d else if Xe p c false o=true then YS ps us (XF o p c) (Yc p c d) else none
 | [],_,o,d=>some (o,d)
 | _,[],o,d=>some (o,d)
theorem Zj3 {ps:List Pane} {us:List Int} {o d:List Zc} {k:Nat} {p:Pane} {c:Int} (hp:ps[k]?=some p) (hu:us[k]?=some c):YS (ps.drop k) (us.drop k) o d=if c=0 then YS (ps.drop (k+1)) (us.drop (k+1)) o d else if Xe p c false o=true then YS (ps.drop (k+1)) (us.drop (k+1)) (XF o p c) (Yc p c d) else none:=by
 obtain⟨h1,h2⟩:=Kc.1 hp;obtain⟨h3,h4⟩:=Kc.1 hu;rw[Kx h1,h2,Kx h3,h4,YS]
theorem ZtO {ps:List Pane} {us:List Int} {o d:List Zc}:YS (ps.drop ps.length) us o d=some (o,d):=by
 rw[List.drop_length];unfold YS;rfl
theorem Zm7 {l:List Zc} {p:Pane} {c hi:Int} (hc:0≤c) (h:∀ x∈l,x.Count≤hi):∀ y∈XF l p c,0≤y.Count∧y.Count≤hi:=fun y hy=>by
 obtain⟨x,hx,e⟩:=Ls.1 hy;have:=h x hx;unfold Zhp at e;split at e
 ·split at e
  ·cases e;simp only;omega
  ·cases e
 ·split at e
  ·cases e;omega
  ·cases e
theorem Zlu {p:Pane} {c hi:Int} (hc:0≤c) (hh:0≤hi):∀ {l:List Zc},(∀ x∈l,0≤x.Count∧x.Count≤hi)→∀ y∈Yc p c l,0≤y.Count∧y.Count≤hi+c
 | [],h,y,hy=>by simp[Yc] at hy;subst hy;simp only;omega
 | x :: l,h,y,hy=>by
  have h1:=h x (by simp);unfold Yc at hy;split at hy
  ·rcases Kd.1 hy with rfl | hy
   ·simp only;omega
   ·have:=h y (by simp[hy]);omega
  ·rcases Kd.1 hy with rfl | hy
   ·omega
   ·exact Zlu hc hh (fun z hz=>h z (by simp[hz])) y hy
def Zsi (p:Zf):Bool:=match Q8 p with
 | some b=>Zj2 b
 | none=>false
def ZcP (s:Zm) (e:Zo):Option Zm:=
 match s.Stock[(Qz 0 s.Stock e.label).toNat]? with
 | none=>none
 | some x=>match Zar s.Stock e.label ⟨x.W,x.H,s.Opn.map Zc.Pane⟩ e.plan 5 with
  | none=>none
  | some R=>if Zsi e.plan=true then
    match YS (s.Opn.map Zc.Pane) (ZaY ⟨x.W,x.H,s.Opn.map Zc.Pane⟩ e.plan) s.Opn s.Done with
    | none=>none
    | some (o,d)=>some ⟨R,o,d,s.Lost+XS (Zc5 ⟨x.W,x.H,s.Opn.map Zc.Pane⟩ e.plan 5),s.Came⟩
   else none
def shV:Option Zm→AV×List Zk
 | some s=>(.tup [.agg [.own 0,.own 1,.own 2,(.d (J (s.Lost))),(.d (J (s.Came)))],(.d (.bool true))],[.row 4 (s.Stock.map Zb.enc) true false,.row 5 (s.Opn.map Zc.enc) true false,.row 5 (s.Done.map Zc.enc) true false])
 | none=>(.tup [.agg [.own 0,.own 1,.own 2,(.d (J 0)),(.d (J 0))],(.d (.bool false))],[.row 4 [] true false,.row 5 [] true false,.row 5 [] true false])
theorem ZtP {l:List Zb} {n:Int} {k:Zt} {p:Zf} {Zj:Int} (h:Qz 0 l n<0):Zar l n k p Zj=none:=by
 unfold Zar;rw[Ke (fun h'=>by omega)]
theorem Zlv {l:List Zb} {n:Int} {k:Zt} {p:Zf} {Zj:Int} {R:List Zb} (h:Zar l n k p Zj=some R):YO k p=true∧VSt R∧VSt l:=by
 unfold Zar at h;split at h
 ·rename_i hc;split at h
  ·rename_i x hx;split at h
   ·rename_i hg;cases h;exact⟨hg.1.1,hg.2,hc.1⟩
   ·cases h
  ·cases h
 ·cases h
def WSh (s:Zm):Prop:=VSt s.Stock∧s.Opn.length≤9∧(∀ x∈s.Opn,VP x.Pane∧0≤x.Count∧x.Count≤24)∧JX s.Done∧-1≤s.Lost∧s.Lost≤900001∧-1≤s.Came∧s.Came≤900001
theorem Zlw {s:Zm} (h:ZE s):WSh s:=⟨h.1,by have:=h.2.1.1;omega,fun x hx=>by have:=QK h.2.1 x hx;exact⟨this.1,o_,this.2.2⟩,h.2.2.1,by have:=h.2.2.2;omega,by have:=h.2.2.2;omega,by have:=h.2.2.2;omega,by have:=h.2.2.2;omega⟩
theorem Zu1 {s:Zm} (h:WSh s):SmS s:=by
 obtain⟨h1,h2,_,h3,h4,h5,h6,h7⟩:=h;exact⟨⟨by have:=h1.1;omega,fun x hx=>⟨(Zbw h1).2 x hx,Zlq (ZU h1.2 x hx)⟩,o_,by have:=h3.1;omega⟩,by have:=h1.1;omega,o_,o_,o_,o_⟩
theorem Zsj (sS:List Zb) (sO sD:List Zc) (sL sC:Int) (eK eL eX eY eW eH af ag:Int) (ah:Bool) (ai eC eo ea ep:Int) (et:Bool) (ek:List Zf) (hv:WSh (Zm.mk sS sO sD sL sC)):v_ 102 [(.d (.agg [.sl (sS.map Zb.enc),.sl (sO.map Zc.enc),.sl (sD.map Zc.enc),J sL,J sC])),(.d (.agg [J eK,J eL,J eX,J eY,J eW,J eH,J af,J ag,.bool ah,J ai,J eC,J eo,J ea,J ep,.bool et,.sl (ek.map Zf.enc)]))] []=some (shV (ZcP (Zm.mk sS sO sD sL sC) (Zo.mk eK eL (Box.mk eX eY eW eH) (Zc.mk (Pane.mk af ag ah ai) eC) (Zf.mk eo ea ep et ek)))):=by
 obtain⟨⟨h1,h2,h3,h4⟩,h5,h6,h7,h8,h9⟩:=Zu1 hv;simp only at h1 h2 h3 h4 h5 h6 h7 h8 h9;have ao:=hv.2.1;have hO:=hv.2.2.1;have hD:=hv.2.2.2.1;simp only at hO hD ao;have ay:=hD.1;have e1:=Yb sS eL o_;by_cases hf:Qz 0 sS eL<0
 ·have ec:ZcP (Zm.mk sS sO sD sL sC) (Zo.mk eK eL (Box.mk eX eY eW eH) (Zc.mk (Pane.mk af ag ah ai) eC) (Zf.mk eo ea ep et ek))=none:=by
   unfold ZcP;simp only;split
   ·rfl
   ·rw[ZtP hf]
  rw[ec];unfold shV;refine cE ?_;simp (maxSteps:=10^7) +contextual -implicitDefEqProofs only[go_sem,seval,Jp,e1,hf]
 ·obtain⟨a,x,ha,hx⟩:=Zas (by omega:0≤Qz 0 sS eL);rw[ha] at e1;have al:¬(a:Int)<0:=o_
  have az:=(Kc.1 hx).1;have e3:=Zsd sS eL x.W x.H (sO.map Zc.Pane) (.mk eo ea ep et ek) 5 (by have:=hv.1.1;simp only at this;omega) (fun y hy=>by
   have:=ZU hv.1.2 y hy;exact⟨Ku this.1.2.2.2.2.2.2 (by decide),Zlq this⟩) (by simp;omega)
  have ap:ZcP (Zm.mk sS sO sD sL sC) (Zo.mk eK eL (Box.mk eX eY eW eH) (Zc.mk (Pane.mk af ag ah ai) eC) (Zf.mk eo ea ep et ek))=match Zar sS eL ⟨x.W,x.H,sO.map Zc.Pane⟩ (.mk eo ea ep et ek) 5 with
   | none=>none
   | some R=>if Zsi (.mk eo ea ep et ek)=true then
     match YS (sO.map Zc.Pane) (ZaY ⟨x.W,x.H,sO.map Zc.Pane⟩ (.mk eo ea ep et ek)) sO sD with
     | none=>none
     | some (o,d)=>some ⟨R,o,d,sL+XS (Zc5 ⟨x.W,x.H,sO.map Zc.Pane⟩ (.mk eo ea ep et ek) 5),sC⟩
    else none:=by
   unfold ZcP;simp only[ha,Ky,hx]
  rw[ap];clear ap;obtain⟨xL,xW,xH,xF⟩:=x;simp only at e3 ⊢;have e2:=ZwL sS sO sD sL sC a xL xW xH xF hx h3 h1;cases hcs:Zar sS eL ⟨xW,xH,sO.map Zc.Pane⟩ (.mk eo ea ep et ek) 5 with
  | none=>
   rw[hcs] at e3;unfold ZuW at e3;simp only;unfold shV;rw[Zf.enc_mk] at e3;refine cE ?_;simp (maxSteps:=10^7) +contextual -implicitDefEqProofs only[go_sem,seval,Jp,e1,al,e2,e3]
  | some R=>
   obtain⟨aa,a0,_⟩:=Zlv hcs;rw[hcs] at e3;unfold ZuW at e3;simp only;obtain⟨b,hb,au,a1,am,av,aw⟩:=QM aa;have e4:=Zfv b;rw[← au] at e4;have hh:Zsi (.mk eo ea ep et ek)=Zj2 b:=by unfold Zsi;rw[hb]
   rw[hh];have e5:=Zsh xW xH (sO.map Zc.Pane) (.mk eo ea ep et ek) 5 aa o_ o_;have e6:=ZwM xW xH (sO.map Zc.Pane) (.mk eo ea ep et ek) aa;have hu:=Zde aa;have ax:=Zet (l:=Zc5 ⟨xW,xH,sO.map Zc.Pane⟩ (.mk eo ea ep et ek) 5) (fun c hc=>by
    obtain⟨z,hz,aj⟩:=Ls.1 hc;unfold WM at aj;split at aj
    ·cases aj;exact Zbq aa c hz
    ·cases aj)
   have a2:(Zc5 ⟨xW,xH,sO.map Zc.Pane⟩ (.mk eo ea ep et ek) 5).length≤255:=by
    refine Ku (Kq _ _) (Ku (Kq _ _) ?_);rw[aw,UX];exact am
   generalize XS (Zc5 ⟨xW,xH,sO.map Zc.Pane⟩ (.mk eo ea ep et ek) 5)=A at e5 ax ⊢;generalize ZaY ⟨xW,xH,sO.map Zc.Pane⟩ (.mk eo ea ep et ek)=us at e6 hu ⊢;rw[Zf.enc_mk] at e3 e4 e5 e6;simp only[KB] at hu;have u1:=wi (sL+A) o_ o_;have r1:sO.length*40≤140737488355328∧sO.length≤140737488355328:=o_
   have r2:sD.length*40≤140737488355328∧sD.length≤140737488355328:=o_
   cases hhb:Zj2 b with
   | false=>
    rw[hhb] at e4;rw[Ke (by simp)];unfold shV;refine cE ?_;simp (maxSteps:=10^7) +contextual -implicitDefEqProofs only[go_sem,seval,Jp,e1,al,e2,e3,e4]
   | true=>
    rw[hhb] at e4;rw[Kj rfl];refine cE ?_;simp (maxSteps:=10^7) +contextual -implicitDefEqProofs only[go_sem,seval,Jp,Zod,e1,al,e2,e3,e4,e5,e6,u1,r1,r2];refine LO (α:=Nat×List Zc×List Zc) (fun s=>[(12,.d (J (s.1:Int)))]) (fun s=>[(5,.row 5 (s.2.1.map Zc.enc) true false),(6,.row 5 (s.2.2.map Zc.enc) true false)]) (fun s=>s.1≤us.length∧YS ((sO.map Zc.Pane).drop s.1) (us.drop s.1) s.2.1 s.2.2=YS (sO.map Zc.Pane) us sO sD∧s.2.1.length≤9∧s.2.2.length≤8+s.1∧(∀ x∈s.2.1,0≤x.Count∧x.Count≤24)∧(∀ x∈s.2.2,0≤x.Count∧x.Count≤24+255*(s.1:Int))) (fun s=>us.length-s.1) (0,sO,sD) ⟨by simp,by simp,ao,p_,fun x hx=>by have:=hO x hx;omega,fun x hx=>by have:=QK hD x hx;simp only;omega⟩ ?_
    intro⟨i,o,d⟩ ⟨hi,hp,ho8,hd8,hoc,hdc⟩ ih;simp only at hi hp ho8 hd8 hoc hdc;by_cases ab:i<us.length
    ·obtain⟨c,hc⟩:=Zp ab;have an:i<sO.length:=o_
     obtain⟨y,hy⟩:=Zp an;have hw:=Zh (k:=i) o_;have aq:=hu.2 c (Kb hc);have ak:(sO.map Zc.Pane)[i]?=some y.Pane:=by rw[Ld,hy];rfl
     rw[Zj3 ak hc] at hp;obtain⟨⟨W,H,T,K⟩,C⟩:=y;simp only at hp ak;by_cases ad:c=0
     ·rw[Kj ad] at hp;simp (maxSteps:=10^7) +contextual -implicitDefEqProofs only[go_sem,seval,ab,hc,ad,hw];refine ih (i+1,o,d) _ ⟨p_,hp,ho8,p_,hoc,fun x hx=>by have:=hdc x hx;simp only;omega⟩ p_ ?_;simp (maxSteps:=10^7) +contextual -implicitDefEqProofs only[go_sem,seval]
     ·rw[Ke ad] at hp;have et:=Zhq o W H T K c o_ (fun x hx=>by have:=hoc x hx;unfold R64;omega);have ea:=ZdG d W H T K c o_ (fun x hx=>by have:=hdc x hx;unfold R64;omega);by_cases ae:Xe ⟨W,H,T,K⟩ c false o=true
      ·rw[Kj ae] at hp;rw[ae] at et;simp (maxSteps:=10^7) +contextual -implicitDefEqProofs only[go_sem,seval,ab,hc,ad,hw,an,hy,ak,et,ea];refine ih (i+1,XF o ⟨W,H,T,K⟩ c,Yc ⟨W,H,T,K⟩ c d) _ ⟨p_,hp,Ku (Kq _ _) ho8,Ku (Zcd _ _ _) p_,Zm7 aq.1 (fun x hx=>(hoc x hx).2),fun x hx=>?_⟩ p_ ?_
       ·have:=Zlu aq.1 o_ hdc x hx;simp only;omega
       ·simp (maxSteps:=10^7) +contextual -implicitDefEqProofs only[go_sem,seval]
      ·rw[Ke ae] at hp;simp only[Lz] at ae;rw[ae] at et;simp (maxSteps:=10^7) +contextual -implicitDefEqProofs only[go_sem,seval,ab,hc,ad,hw,an,hy,ak,et,ea];rw[← hp];rfl
    ·have:i=sO.length:=o_
     subst this;have ar:=@ZtO (sO.map Zc.Pane) (us.drop sO.length) o d;rw[KB] at ar;rw[ar] at hp;rw[← hp];simp (maxSteps:=10^7) +contextual -implicitDefEqProofs only[go_sem,seval,ab];rfl
end Go.Proofs.YtfnegoimdljanaaGreatDoor
namespace Go.Proofs.YtfnegoimdljanaaGreatDoor
open Go Go.Abs Go.Abs.E Go.Abs.L
set_option maxRecDepth 20000
set_option maxHeartbeats 4000000
def ZwN (l:List Zb) (n:Int):Option (Nat×Zb):=if 0≤Qz 0 l n then (l[(Qz 0 l n).toNat]?).map (fun x=>((Qz 0 l n).toNat,x)) else none
theorem ZeD {l:List Zb} {n:Int} (h:Qz 0 l n<0):ZwN l n=none:=by unfold ZwN;rw[Ke o_]
theorem Zby {l:List Zb} {n:Int} {a:Nat} {x:Zb} (h:Qz 0 l n=(a:Int)) (hx:l[a]?=some x):ZwN l n=some (a,x):=by
 unfold ZwN;rw[h,Kj o_,Ky,hx];rfl
def evS (s:Zm) (e:Zo):Option Zm:=
 if e.kind=0 then (if (VA ⟨e.label,e.box.W,e.box.H,[]⟩ s.Stock∧e.box.X=0)∧e.box.Y=0 then some { s with Stock:=QB ⟨e.label,e.box.W,e.box.H,[]⟩ s.Stock,Came:=s.Came+e.box.W*e.box.H } else none)
 else if e.kind=1 then (match ZwN s.Stock e.label with
  | none=>none
  | some (a,q)=>if VA { q with Flaws:=q.Flaws++[e.box] } (s.Stock.eraseIdx a) then some { s with Stock:=QB { q with Flaws:=q.Flaws++[e.box] } (s.Stock.eraseIdx a) } else none)
 else if e.kind=5 then (match ZwN s.Stock e.label with
  | none=>none
  | some (a,q)=>some { s with Stock:=s.Stock.eraseIdx a,Lost:=s.Lost+q.W*q.H })
 else if e.kind=2 then (if Vn e.line then some { s with Opn:=Yc e.line.Pane e.line.Count s.Opn } else none)
 else if e.kind=4 then (if Vn e.line∧Xe e.line.Pane e.line.Count false s.Done=true then some { s with Opn:=Yc e.line.Pane e.line.Count s.Opn,Done:=XF s.Done e.line.Pane e.line.Count,Lost:=s.Lost+e.line.Count*e.line.Pane.W*e.line.Pane.H } else none)
 else if e.kind=3 then ZcP s e
 else none
def YA (t:Option Zm):Option Zm:=match t with
 | some t=>if ZE t then some t else none
 | none=>none
def Qu (s:Zm) (e:Zo):Option Zm:=YA (evS s e)
theorem Zce {s t:Zm} {e:Zo} (h:Qu s e=some t):ZE t:=by
 unfold Qu YA at h;split at h
 ·split at h
  ·cases h;assumption
  ·cases h
 ·cases h
theorem ZeE {s t:Zm} (h:Un s) (ho:t.Opn.length≤1048576) (hd:t.Done.length≤1048576) (hs:VSt t.Stock):Un t:=
 ⟨by have:=hs.1;omega,fun x hx=>⟨(Zbw hs).2 x hx,Zlq (ZU hs.2 x hx)⟩,ho,hd⟩
theorem ZDf {s t:Zm} {e:Zo} (hv:WSh s) (h:ZcP s e=some t):VSt t.Stock∧t.Opn.length≤9∧t.Done.length≤1048576:=by
 have aa:∀ (ps:List Pane) (us:List Int) (o d o' d' : List Zc),YS ps us o d=some (o',d')→o'.length≤o.length∧d'.length≤d.length+ps.length:=by
  intro ps
  induction ps with
  | nil=>intro us o d o' d' h;unfold YS at h;cases h;simp
  | cons p ps ih=>
   intro us o d o' d' h;cases us with
   | nil=>unfold YS at h;cases h;simp
   | cons c us=>
    rw[YS] at h;split at h
    ·have:=ih _ _ _ _ _ h;simp;omega
    ·split at h
     ·have:=ih _ _ _ _ _ h;have h2:=Kq (Zhp p c) o;have h3:=Zcd p c d;unfold XF at this;simp;omega
     ·cases h
 unfold ZcP at h;split at h
 ·cases h
 ·split at h
  ·cases h
  ·rename_i R hR;obtain⟨_,ab,_⟩:=Zlv hR;split at h
   ·split at h
    ·cases h
    ·rename_i o d hg;cases h;have:=aa _ _ _ _ _ _ hg;have h8:=hv.2.1;have h9:=hv.2.2.2.1.1;rw[KB] at this;exact⟨ab,p_,p_⟩
   ·cases h
theorem Ws (sS:List Zb) (sO sD:List Zc) (sL sC:Int) (eK eL eX eY eW eH aa ab:Int) (ad:Bool) (ae eC eo ea ep:Int) (et:Bool) (ek:List Zf) (hv:WSh (Zm.mk sS sO sD sL sC)) (k3:eK=3):v_ 52 [(.d (.agg [.sl (sS.map Zb.enc),.sl (sO.map Zc.enc),.sl (sD.map Zc.enc),J sL,J sC])),(.d (.agg [J eK,J eL,J eX,J eY,J eW,J eH,J aa,J ab,.bool ad,J ae,J eC,J eo,J ea,J ep,.bool et,.sl (ek.map Zf.enc)]))] []=some (shV (Qu (Zm.mk sS sO sD sL sC) (Zo.mk eK eL (Box.mk eX eY eW eH) (Zc.mk (Pane.mk aa ab ad ae) eC) (Zf.mk eo ea ep et ek)))):=by
 have aj:=(Zu1 hv).1;have af:=Zsj sS sO sD sL sC eK eL eX eY eW eH aa ab ad ae eC eo ea ep et ek hv;subst k3;have ee:Qu (Zm.mk sS sO sD sL sC) (Zo.mk 3 eL ⟨eX,eY,eW,eH⟩ ⟨⟨aa,ab,ad,ae⟩,eC⟩ (.mk eo ea ep et ek))=YA (ZcP (Zm.mk sS sO sD sL sC) (Zo.mk 3 eL ⟨eX,eY,eW,eH⟩ ⟨⟨aa,ab,ad,ae⟩,eC⟩ (.mk eo ea ep et ek))):=by
  unfold Qu evS;simp
 rw[ee];have ah:=fun t=>ZDf (t:=t) (e:=Zo.mk 3 eL ⟨eX,eY,eW,eH⟩ ⟨⟨aa,ab,ad,ae⟩,eC⟩ (.mk eo ea ep et ek)) hv;cases hc:ZcP (Zm.mk sS sO sD sL sC) (Zo.mk 3 eL ⟨eX,eY,eW,eH⟩ ⟨⟨aa,ab,ad,ae⟩,eC⟩ (.mk eo ea ep et ek)) with
 | none=>
  rw[hc] at af;unfold YA shV at *;simp only;refine cE ?_;simp +contextual -implicitDefEqProofs (maxSteps:=10^7) only[go_sem,seval,ZC,af]
 | some t=>
  obtain⟨g1,g2,g3⟩:=ah t hc;rw[hc] at af;have ai:Un t:=ZeE aj o_ g3 g1;obtain⟨tS,tO,tD,tL,tC⟩:=t;have e1:=XG _ _ _ _ _ ai;have e2:=Yz _ _ _ _ _ ai;unfold YA;unfold shV at af;simp only at af;by_cases ag:ZE (Zm.mk tS tO tD tL tC)
  ·rw[Kg ag] at e1;simp only[Kj ag];unfold shV;refine cE ?_;simp +contextual -implicitDefEqProofs (maxSteps:=10^7) only[go_sem,seval,ZC,af,e1,e2]
  ·rw[Ki ag] at e1;simp only[Ke ag];unfold shV;refine cE ?_;simp +contextual -implicitDefEqProofs (maxSteps:=10^7) only[go_sem,seval,ZC,af,e1]
theorem ZoN (sS:List Zb) (sO sD:List Zc) (sL sC:Int) (eK eL eX eY eW eH ab ad:Int) (ae:Bool) (af eC eo ea ep:Int) (et:Bool) (ek:List Zf) (hv:ZE (Zm.mk sS sO sD sL sC)) (hW:eK=0→I5 eW) (hH:eK=0→I5 eH):v_ 52 [(.d (.agg [.sl (sS.map Zb.enc),.sl (sO.map Zc.enc),.sl (sD.map Zc.enc),J sL,J sC])),(.d (.agg [J eK,J eL,J eX,J eY,J eW,J eH,J ab,J ad,.bool ae,J af,J eC,J eo,J ea,J ep,.bool et,.sl (ek.map Zf.enc)]))] []=some (shV (Qu (Zm.mk sS sO sD sL sC) (Zo.mk eK eL (Box.mk eX eY eW eH) (Zc.mk (Pane.mk ab ad ae af) eC) (Zf.mk eo ea ep et ek)))):=by
 have hS:=Zm6 hv;have ai:=hS.1;have an:=hv.2.1.1;have ao:=hv.2.2.1.1;simp only at an ao;by_cases k0:eK=0
 ·have aa:=Zj0 sS sO sD sL sC eK eL eX eY eW eH ab ad ae af eC eo ea ep et ek hS k0 (hW k0) (hH k0);rw[k0] at aa;by_cases hr:(VA ⟨eL,eW,eH,[]⟩ sS∧eX=0)∧eY=0
  ·have ee:Qu (Zm.mk sS sO sD sL sC) (Zo.mk eK eL (Box.mk eX eY eW eH) (Zc.mk (Pane.mk ab ad ae af) eC) (Zf.mk eo ea ep et ek))=YA (some (Zm.mk (QB ⟨eL,eW,eH,[]⟩ sS) sO sD sL (sC+eW*eH))):=by unfold Qu evS;simp only[k0,hr,Kl,and_self]
   rw[ee];rw[Kg hr,Kj hr.1.1] at aa;have ah:Un (Zm.mk (QB ⟨eL,eW,eH,[]⟩ sS) sO sD sL (sC+eW*eH)):=ZeE ai p_ p_ hr.1.1.2;have e1:=XG _ _ _ _ _ ah;have e2:=Yz _ _ _ _ _ ah;unfold YA;generalize QB ⟨eL,eW,eH,[]⟩ sS=Q at aa e1 e2 ⊢;by_cases ag:ZE (Zm.mk Q sO sD sL (sC+eW*eH))
   ·rw[Kg ag] at e1;simp only[Kj ag];unfold shV;refine cE ?_;simp +contextual -implicitDefEqProofs (maxSteps:=10^7) only[go_sem,seval,ZC,k0,aa,e1,e2]
   ·rw[Ki ag] at e1;simp only[Ke ag];unfold shV;refine cE ?_;simp +contextual -implicitDefEqProofs (maxSteps:=10^7) only[go_sem,seval,ZC,k0,aa,e1]
  ·have ee:Qu (Zm.mk sS sO sD sL sC) (Zo.mk eK eL (Box.mk eX eY eW eH) (Zc.mk (Pane.mk ab ad ae af) eC) (Zf.mk eo ea ep et ek))=none:=by unfold Qu evS;simp only[k0,Kl];rw[Ke hr];rfl
   rw[ee];rw[Ki hr] at aa;unfold shV;refine cE ?_;simp +contextual -implicitDefEqProofs (maxSteps:=10^7) only[go_sem,seval,ZC,k0,aa]
 ·by_cases aj:eK=1∨eK=5
  ·by_cases hf:Qz 0 sS eL<0
   ·have aa:=ZoL sS sO sD sL sC eK eL eX eY eW eH ab ad ae af eC eo ea ep et ek hS k0 hf;have ee:Qu (Zm.mk sS sO sD sL sC) (Zo.mk eK eL (Box.mk eX eY eW eH) (Zc.mk (Pane.mk ab ad ae af) eC) (Zf.mk eo ea ep et ek))=none:=by
     unfold Qu evS;rcases aj with k1 | k1<;>simp[k1,ZeD hf,YA]
    rw[ee];unfold shV;refine cE ?_;rcases aj with k1 | k1
    ·rw[k1] at aa;simp +contextual -implicitDefEqProofs (maxSteps:=10^7) only[go_sem,seval,ZC,k1,aa]
    ·rw[k1] at aa;simp +contextual -implicitDefEqProofs (maxSteps:=10^7) only[go_sem,seval,ZC,k1,aa]
   ·obtain⟨a,x,ha,hx⟩:=Zas (by omega:0≤Qz 0 sS eL);have al:=Zby ha hx;obtain⟨xL,xW,xH,xF⟩:=x;have am:=ZU hv.1.2 _ (Kb hx);by_cases k1:eK=1
    ·have aa:=Zlr sS sO sD sL sC eK eL eX eY eW eH ab ad ae af eC eo ea ep et ek hv k1 a ha xL xW xH xF hx;rw[k1] at aa;by_cases hr:VA ⟨xL,xW,xH,xF++[⟨eX,eY,eW,eH⟩]⟩ (sS.eraseIdx a)
     ·have ee:Qu (Zm.mk sS sO sD sL sC) (Zo.mk eK eL (Box.mk eX eY eW eH) (Zc.mk (Pane.mk ab ad ae af) eC) (Zf.mk eo ea ep et ek))=YA (some (Zm.mk (QB ⟨xL,xW,xH,xF++[⟨eX,eY,eW,eH⟩]⟩ (sS.eraseIdx a)) sO sD sL sC)):=by
       unfold Qu evS;simp[k1,al,hr]
      rw[ee];rw[Kg hr,Kj hr] at aa;have ah:Un (Zm.mk (QB ⟨xL,xW,xH,xF++[⟨eX,eY,eW,eH⟩]⟩ (sS.eraseIdx a)) sO sD sL sC):=ZeE ai p_ p_ hr.2;have e1:=XG _ _ _ _ _ ah;have e2:=Yz _ _ _ _ _ ah;unfold YA;generalize QB ⟨xL,xW,xH,xF++[⟨eX,eY,eW,eH⟩]⟩ (sS.eraseIdx a)=Q at aa e1 e2 ⊢;by_cases ag:ZE (Zm.mk Q sO sD sL sC)
      ·rw[Kg ag] at e1;simp only[Kj ag];unfold shV;refine cE ?_;simp +contextual -implicitDefEqProofs (maxSteps:=10^7) only[go_sem,seval,ZC,k1,aa,e1,e2]
      ·rw[Ki ag] at e1;simp only[Ke ag];unfold shV;refine cE ?_;simp +contextual -implicitDefEqProofs (maxSteps:=10^7) only[go_sem,seval,ZC,k1,aa,e1]
     ·have ee:Qu (Zm.mk sS sO sD sL sC) (Zo.mk eK eL (Box.mk eX eY eW eH) (Zc.mk (Pane.mk ab ad ae af) eC) (Zf.mk eo ea ep et ek))=none:=by
       unfold Qu evS;simp[k1,al,hr,YA]
      rw[ee];rw[Ki hr] at aa;unfold shV;refine cE ?_;simp +contextual -implicitDefEqProofs (maxSteps:=10^7) only[go_sem,seval,ZC,k1,aa]
    ·have k5:eK=5:=o_
     have aa:=Zj1 sS sO sD sL sC eK eL eX eY eW eH ab ad ae af eC eo ea ep et ek hS k5 a ha xL xW xH xF hx (by have:=am.1;simp only at this;unfold I5;omega) (by have:=am.1;simp only at this;unfold I5;omega);rw[k5] at aa;have ee:Qu (Zm.mk sS sO sD sL sC) (Zo.mk eK eL (Box.mk eX eY eW eH) (Zc.mk (Pane.mk ab ad ae af) eC) (Zf.mk eo ea ep et ek))=YA (some (Zm.mk (sS.eraseIdx a) sO sD (sL+xW*xH) sC)):=by
      unfold Qu evS;simp[k5,al]
     rw[ee];have ah:Un (Zm.mk (sS.eraseIdx a) sO sD (sL+xW*xH) sC):=⟨by have:=Zm2 sS a;have:=ai.1;simp only at this ⊢;omega,fun y hy=>ai.2.1 y (L8 hy),ai.2.2⟩
     have e1:=XG _ _ _ _ _ ah;have e2:=Yz _ _ _ _ _ ah;unfold YA;generalize sS.eraseIdx a=Q at aa e1 e2 ⊢;by_cases ag:ZE (Zm.mk Q sO sD (sL+xW*xH) sC)
     ·rw[Kg ag] at e1;simp only[Kj ag];unfold shV;refine cE ?_;simp +contextual -implicitDefEqProofs (maxSteps:=10^7) only[go_sem,seval,ZC,k5,aa,e1,e2]
     ·rw[Ki ag] at e1;simp only[Ke ag];unfold shV;refine cE ?_;simp +contextual -implicitDefEqProofs (maxSteps:=10^7) only[go_sem,seval,ZC,k5,aa,e1]
  ·have k1:¬eK=1:=fun h=>aj (.inl h);have k5:¬eK=5:=fun h=>aj (.inr h);by_cases ak:eK=2∨eK=4
   ·by_cases hl:Vn ⟨⟨ab,ad,ae,af⟩,eC⟩
    ·by_cases k2:eK=2
     ·have aa:=Zls sS sO sD sL sC eK eL eX eY eW eH ab ad ae af eC eo ea ep et ek hv hl k2;rw[k2] at aa;have ee:Qu (Zm.mk sS sO sD sL sC) (Zo.mk eK eL (Box.mk eX eY eW eH) (Zc.mk (Pane.mk ab ad ae af) eC) (Zf.mk eo ea ep et ek))=YA (some (Zm.mk sS (Yc ⟨ab,ad,ae,af⟩ eC sO) sD sL sC)):=by
       unfold Qu evS;simp[k2,hl]
      rw[ee];have ah:Un (Zm.mk sS (Yc ⟨ab,ad,ae,af⟩ eC sO) sD sL sC):=ZeE ai (Ku (Zcd _ _ _) o_) p_ hv.1;have e1:=XG _ _ _ _ _ ah;have e2:=Yz _ _ _ _ _ ah;unfold YA;generalize Yc ⟨ab,ad,ae,af⟩ eC sO=Q at aa e1 e2 ⊢;by_cases ag:ZE (Zm.mk sS Q sD sL sC)
      ·rw[Kg ag] at e1;simp only[Kj ag];unfold shV;refine cE ?_;simp +contextual -implicitDefEqProofs (maxSteps:=10^7) only[go_sem,seval,ZC,k2,aa,e1,e2]
      ·rw[Ki ag] at e1;simp only[Ke ag];unfold shV;refine cE ?_;simp +contextual -implicitDefEqProofs (maxSteps:=10^7) only[go_sem,seval,ZC,k2,aa,e1]
     ·have k4:eK=4:=o_
      have aa:=Zlt sS sO sD sL sC eK eL eX eY eW eH ab ad ae af eC eo ea ep et ek hv hl k2;rw[k4] at aa;by_cases ht:Xe ⟨ab,ad,ae,af⟩ eC false sD=true
      ·rw[ht] at aa;have ee:Qu (Zm.mk sS sO sD sL sC) (Zo.mk eK eL (Box.mk eX eY eW eH) (Zc.mk (Pane.mk ab ad ae af) eC) (Zf.mk eo ea ep et ek))=YA (some (Zm.mk sS (Yc ⟨ab,ad,ae,af⟩ eC sO) (XF sD ⟨ab,ad,ae,af⟩ eC) (sL+eC*ab*ad) sC)):=by
        unfold Qu evS;simp[k4,hl,ht]
       rw[ee];have ah:Un (Zm.mk sS (Yc ⟨ab,ad,ae,af⟩ eC sO) (XF sD ⟨ab,ad,ae,af⟩ eC) (sL+eC*ab*ad) sC):=ZeE ai (Ku (Zcd _ _ _) o_) (Ku (Kq _ _) o_) hv.1;have e1:=XG _ _ _ _ _ ah;have e2:=Yz _ _ _ _ _ ah;unfold YA;generalize Yc ⟨ab,ad,ae,af⟩ eC sO=Q at aa e1 e2 ⊢;generalize XF sD ⟨ab,ad,ae,af⟩ eC=R at aa e1 e2 ⊢;by_cases ag:ZE (Zm.mk sS Q R (sL+eC*ab*ad) sC)
       ·rw[Kg ag] at e1;simp only[Kj ag];unfold shV;refine cE ?_;simp +contextual -implicitDefEqProofs (maxSteps:=10^7) only[go_sem,seval,ZC,k4,aa,e1,e2]
       ·rw[Ki ag] at e1;simp only[Ke ag];unfold shV;refine cE ?_;simp +contextual -implicitDefEqProofs (maxSteps:=10^7) only[go_sem,seval,ZC,k4,aa,e1]
      ·have ee:Qu (Zm.mk sS sO sD sL sC) (Zo.mk eK eL (Box.mk eX eY eW eH) (Zc.mk (Pane.mk ab ad ae af) eC) (Zf.mk eo ea ep et ek))=none:=by
        unfold Qu evS;simp[k4,ht,YA]
       rw[ee];simp only[Lz] at ht;rw[ht] at aa;unfold shV;refine cE ?_;simp +contextual -implicitDefEqProofs (maxSteps:=10^7) only[go_sem,seval,ZC,k4,aa]
    ·have aa:=ZoM sS sO sD sL sC eK eL eX eY eW eH ab ad ae af eC eo ea ep et ek hl;have ee:Qu (Zm.mk sS sO sD sL sC) (Zo.mk eK eL (Box.mk eX eY eW eH) (Zc.mk (Pane.mk ab ad ae af) eC) (Zf.mk eo ea ep et ek))=none:=by
      unfold Qu evS;rcases ak with k2 | k2<;>simp[k2,hl,YA]
     rw[ee];unfold shV;refine cE ?_;rcases ak with k2 | k2
     ·rw[k2] at aa;simp +contextual -implicitDefEqProofs (maxSteps:=10^7) only[go_sem,seval,ZC,k2,aa]
     ·rw[k2] at aa;simp +contextual -implicitDefEqProofs (maxSteps:=10^7) only[go_sem,seval,ZC,k2,aa]
   ·have k2:¬eK=2:=fun h=>ak (.inl h);have k4:¬eK=4:=fun h=>ak (.inr h);by_cases k3:eK=3
    ·exact Ws sS sO sD sL sC eK eL eX eY eW eH ab ad ae af eC eo ea ep et ek (Zlw hv) k3
    ·have ee:Qu (Zm.mk sS sO sD sL sC) (Zo.mk eK eL (Box.mk eX eY eW eH) (Zc.mk (Pane.mk ab ad ae af) eC) (Zf.mk eo ea ep et ek))=none:=by
      unfold Qu evS;simp[k0,k1,k5,k2,k4,k3,YA]
     rw[ee];unfold shV;refine cE ?_;simp +contextual -implicitDefEqProofs (maxSteps:=10^7) only[go_sem,seval,ZC,k0,k1,k5,k2,k4,k3]
end Go.Proofs.YtfnegoimdljanaaGreatDoor
