/- Own text. -/
import Derived.Test.YthgciclhiaoecaaGreatACode
import Derived.Test.YthgciclhiaoecaaGreatAbsParts
import Derived.Test.YthgciclhiaoecaaGreatAC5
import Derived.Test.YthgciclhiaoecaaGreatAbsOkD
namespace Go.Proofs.YthgciclhiaoecaaGreat
open Go Go.Abs Go.Abs.E Go.Abs.L
open Nat (reduceMul reduceSub reduceLeDiff reduceEqDiff)
open Int (reduceLE reduceEq reduceToNat reduceNeg)
set_option linter.unusedSimpArgs false
set_option linter.unusedVariables false
set_option maxRecDepth 20000
set_option maxHeartbeats 4000000
theorem Zqi (l:List Zc) (pW pH:Int) (pT:Bool) (pK:Int) (c:Int) (hl:l.length≤1048576) (hc:∀ x∈l,R64 (x.Count-c)):Zd Xs Ms Un [(.d (.sl (l.map Zc.enc))),(.d (.agg [J pW,J pH,.bool pT,J pK])),(.d (J c))] [] =
  some (.tup [.own 0,(.d (.bool (Xl (Pane.mk pW pH pT pK) c false l)))],[.row 5 ((Yd l (Pane.mk pW pH pT pK) c).map Zc.enc) true false]):=by
 refine cE ?_;simp +contextual -implicitDefEqProofs (maxSteps:=10^7) only[go_sem,seval,↓gZ,ZdZ];refine LO (α:=Nat×Bool) (fun s=>[(10,.d (J (s.1:Int))),(9,.d (.bool s.2))]) (fun s=>[(0,.row 5 ((Yd (l.take s.1) (Pane.mk pW pH pT pK) c).map Zc.enc) true false)]) (fun s=>s.1≤l.length∧Xl (Pane.mk pW pH pT pK) c s.2 (l.drop s.1)=Xl (Pane.mk pW pH pT pK) c false l) (fun s=>l.length-s.1) (0,false) ⟨by simp,by simp⟩ ?_;intro⟨i,b⟩ ⟨hi,hp⟩ ih;simp only at hi hp;by_cases aa:i<l.length
 ·obtain⟨x,hx⟩:=Zo aa;have hw:=Zh (k:=i) (by omega);have hm:=Zw9 (Pane.mk pW pH pT pK) c hx;have ad:(Yd (l.take i) (Pane.mk pW pH pT pK) c).length≤i:=Kr (Kn _ _) (by simp;omega);have hr:((Yd (l.take i) (Pane.mk pW pH pT pK) c).length+1)*40≤140737488355328∧(Yd (l.take i) (Pane.mk pW pH pT pK) c).length≤140737488355327:=by omega
  have ab:=hc x (Kb hx);rw[ZvI hx] at hp;obtain⟨⟨W,H,T,K⟩,C⟩:=x;simp only[ZgP] at hm hp ab;have u0:=wi (C-c) ab.1 ab.2;by_cases he:(⟨W,H,T,K⟩:Pane)=(Pane.mk pW pH pT pK)
  ·rw[Kj he] at hm hp;have ae:=he;simp only[Pane.mk.injEq] at he;by_cases h0:0<C-c
   ·have h1:0≤C-c:=by omega
    rw[Kj h0] at hm;rw[Kh h1] at hp;simp +contextual -implicitDefEqProofs (maxSteps:=10^7) only[go_sem,seval,↓gZ,hx,aa,hw,he,u0,h0,h1,hr];refine ih (i+1,true) _ ⟨by simp only;omega,hp⟩ (by simp only;omega) ?_;simp +contextual -implicitDefEqProofs (maxSteps:=10^7) only[go_sem,seval,↓gZ,hm,Option.toList_some];try (simp[Zc.enc,he];done)
   ·rw[Kg h0] at hm;by_cases h1:0≤C-c
    ·rw[Kh h1] at hp;simp +contextual -implicitDefEqProofs (maxSteps:=10^7) only[go_sem,seval,↓gZ,hx,aa,hw,he,u0,h0,h1,hr];refine ih (i+1,true) _ ⟨by simp only;omega,hp⟩ (by simp only;omega) ?_;simp +contextual -implicitDefEqProofs (maxSteps:=10^7) only[go_sem,seval,↓gZ,hm,Option.toList_none,KE]
    ·rw[Ki h1] at hp;simp +contextual -implicitDefEqProofs (maxSteps:=10^7) only[go_sem,seval,↓gZ,hx,aa,hw,he,u0,h0,h1,hr];refine ih (i+1,false) _ ⟨by simp only;omega,hp⟩ (by simp only;omega) ?_;simp +contextual -implicitDefEqProofs (maxSteps:=10^7) only[go_sem,seval,↓gZ,hm,Option.toList_none,KE]
  ·rw[Kg he] at hm hp;simp only[Pane.mk.injEq] at he;by_cases h0:0<C
   ·rw[Kj h0] at hm;simp +contextual -implicitDefEqProofs (maxSteps:=10^7) only[go_sem,seval,↓gZ,hx,aa,hw,he,h0,hr];refine ih (i+1,b) _ ⟨by simp only;omega,hp⟩ (by simp only;omega) ?_;simp +contextual -implicitDefEqProofs (maxSteps:=10^7) only[go_sem,seval,↓gZ,hm,Option.toList_some];try (simp[Zc.enc];done)
   ·rw[Kg h0] at hm;simp +contextual -implicitDefEqProofs (maxSteps:=10^7) only[go_sem,seval,↓gZ,hx,aa,hw,he,h0,hr];refine ih (i+1,b) _ ⟨by simp only;omega,hp⟩ (by simp only;omega) ?_;simp +contextual -implicitDefEqProofs (maxSteps:=10^7) only[go_sem,seval,↓gZ,hm,Option.toList_none,KE]
 ·have:i=l.length:=by omega
  subst this;rw[Zw8] at hp;simp +contextual -implicitDefEqProofs (maxSteps:=10^7) only[go_sem,seval,↓gZ,hp];simp
theorem ZAx (l:List Zc) (i:Nat) (W H:Int) (T:Bool) (K C:Int):(l.map Zc.enc).set i (.agg [J W,J H,.bool T,J K,J C])=(l.set i ⟨⟨W,H,T,K⟩,C⟩).map Zc.enc:=(L0 (f:=Zc.enc) (l:=l) (i:=i) (a:=⟨⟨W,H,T,K⟩,C⟩)).symm
theorem Zsv (l:List Zc) (pW pH:Int) (pT:Bool) (pK:Int) (c:Int) (hl:l.length≤1048576) (hc:∀ x∈l,R64 (x.Count+c)):Zd Xs Ms Jt [(.d (.sl (l.map Zc.enc))),(.d (.agg [J pW,J pH,.bool pT,J pK])),(.d (J c))] [] =
  some (.own 0,[.row 5 ((Vi (Pane.mk pW pH pT pK) c l).map Zc.enc) true false]):=by
 have ag:l.length*40≤140737488355328∧l.length≤140737488355328:=by omega
 have ah:(l.length+1)*40≤140737488355328∧l.length≤140737488355327:=by omega
 refine cE ?_;simp +contextual -implicitDefEqProofs (maxSteps:=10^7) only[go_sem,seval,↓gZ,Ze9,ag];refine LO (α:=Nat) (fun k=>[(8,.d (J (k:Int)))]) (fun _=>[]) (fun k=>k≤l.length∧(Pane.mk pW pH pT pK)∉(l.take k).map Zc.Pane) (fun k=>l.length-k) 0 ⟨by simp,by simp⟩ ?_;intro k ⟨hk,hp⟩ ih;by_cases aa:k<l.length
 ·obtain⟨x,hx⟩:=Zo aa;have hw:=Zh (k:=k) (by omega);have ab:=hc x (Kb hx);have ad:=Zao hx;have ae:=Zuo (Pane.mk pW pH pT pK) c l k x hx;obtain⟨⟨W,H,T,K⟩,C⟩:=x;simp only at ab ad ae;have u0:=wi (C+c) ab.1 ab.2;by_cases he:(⟨W,H,T,K⟩:Pane)=(Pane.mk pW pH pT pK)
  ·rw[ae he hp];have af:=he;simp only[Pane.mk.injEq] at he;simp +contextual -implicitDefEqProofs (maxSteps:=10^7) only[go_sem,seval,↓gZ,hx,aa,hw,he,u0,ZAx];try (simp[he];done)
  ·have af:=he;simp only[Pane.mk.injEq] at he;simp +contextual -implicitDefEqProofs (maxSteps:=10^7) only[go_sem,seval,↓gZ,hx,aa,hw,he];refine ih (k+1) _ ⟨by omega,?_⟩ (by omega) ?_
   ·rw[ad,Ke];intro h;rcases h with h | h
    ·exact hp h
    ·exact af (KP.1 h).symm
   ·simp +contextual -implicitDefEqProofs (maxSteps:=10^7) only[go_sem,seval,↓gZ]
 ·have:k=l.length:=by omega
  subst this;rw[KC (Kl _)] at hp;rw[Zup (Pane.mk pW pH pT pK) c l hp];simp +contextual -implicitDefEqProofs (maxSteps:=10^7) only[go_sem,seval,↓gZ,ah];try (simp[Zc.enc];done)
def ZdH (p:Zb) (l:List Zb):Prop:=(VSt l∧VPc p)∧VSt (YP p l)
instance (p:Zb) (l:List Zb):Decidable (ZdH p l):=by unfold ZdH;infer_instance
theorem Zuq (l:List Zb) (hl:l.length≤1048576) (hF:∀ x∈l,x.Flaws.length≤1048576):Zd Xs Ms Wg [(.d (.sl (l.map Zb.enc))),(.d (J ((-1))))] []=some (.own 0,[.row 4 (l.map Zb.enc) true false]):=by
 refine cE ?_;simp +contextual -implicitDefEqProofs (maxSteps:=10^7) only[go_sem,seval,↓gZ,Zdk];refine LO (α:=Nat) (fun i=>[(6,.d (J (i:Int)))]) (fun i=>[(0,.row 4 ((l.take i).map Zb.enc) true false)]) (fun i=>i≤l.length) (fun i=>l.length-i) 0 (by omega) ?_;intro i hi ih;by_cases aa:i<l.length
 ·obtain⟨x,hx⟩:=Zo aa;have hw:=Zh (k:=i) (by omega);have ab:¬(i:Int)=-1:=by omega
  have hm:l.take (i+1)=l.take i++[x]:=by rw[Ky,hx];simp
  have ad:(l.take i).length≤i:=by simp;omega
  have hr:((l.take i).length+1)*48≤140737488355328∧(l.take i).length≤140737488355327:=by omega
  have e:=ZgM x.Label x.W x.H x.Flaws (hF x (Kb hx));obtain⟨L,W,H,F⟩:=x;simp only at e;simp +contextual -implicitDefEqProofs (maxSteps:=10^7) only[go_sem,seval,↓gZ,hx,aa,hw,ab,e,hr];refine ih (i+1) _ (by omega) (by omega) ?_;simp +contextual -implicitDefEqProofs (maxSteps:=10^7) only[go_sem,seval,↓gZ,hm]
  first | rfl | (simp;done) | (simp;rfl)
 ·have:i=l.length:=by omega
  subst this;simp +contextual -implicitDefEqProofs (maxSteps:=10^7) only[go_sem,seval,↓gZ];simp
theorem Zjb (sS:List Zb) (sO sD:List Zc) (sL sC:Int) (hs:Zcc (Zq.mk sS sO sD sL sC)):Zd Xs Ms WH [(.d (.agg [.sl (sS.map Zb.enc),.sl (sO.map Zc.enc),.sl (sD.map Zc.enc),J sL,J sC]))] []=some (.agg [.own 0,.own 1,.own 2,(.d (J sL)),(.d (J sC))],[.row 4 (sS.map Zb.enc) true false,.row 5 (sO.map Zc.enc) true false,.row 5 (sD.map Zc.enc) true false]):=by
 obtain⟨h1,h2,h3,h4⟩:=hs;simp only at h1 h2 h3 h4;have e1:=Zuq sS h1 (fun x hx=>(h2 x hx).1);have r1:sO.length*40≤140737488355328∧sO.length≤140737488355328:=by omega
 have r2:sD.length*40≤140737488355328∧sD.length≤140737488355328:=by omega
 refine cE ?_;simp +contextual -implicitDefEqProofs (maxSteps:=10^7) only[go_sem,seval,↓gZ,Ze2,ZsM,e1,r1,r2]
theorem ZvK (sS:List Zb) (sO sD:List Zc) (sL sC:Int) (a:Nat) (qL qW qH:Int) (qF:List Box) (hx:sS[a]?=some (Zb.mk qL qW qH qF)) (hl:sO.length≤1048576) (hS:sS.length≤1048576):Zd Xs Ms Zco [(.d (.agg [.sl (sS.map Zb.enc),.sl (sO.map Zc.enc),.sl (sD.map Zc.enc),J sL,J sC])),(.d (J a))] []=some (.agg [(.d (J qW)),(.d (J qH)),.own 0],[.row 4 ((sO.map Zc.Pane).map Pane.enc) true false]):=by
 have aa:=(Kc.1 hx).1;refine cE ?_;simp +contextual -implicitDefEqProofs (maxSteps:=10^7) only[go_sem,seval,↓gZ,Zku,hx,aa];refine LO (α:=Nat) (fun i=>[(6,.d (J (i:Int)))]) (fun i=>[(3,.row 4 (((sO.take i).map Zc.Pane).map Pane.enc) true false)]) (fun i=>i≤sO.length) (fun i=>sO.length-i) 0 (by omega) ?_;intro i hi ih;by_cases aa:i<sO.length
 ·obtain⟨x,hx⟩:=Zo aa;have hw:=Zh (k:=i) (by omega);have hm:=Zao hx;have ab:(sO.take i).length≤i:=by simp;omega
  have hr:((sO.take i).length+1)*32≤140737488355328∧(sO.take i).length≤140737488355327:=by omega
  obtain⟨⟨W,H,T,K⟩,C⟩:=x;simp only at hm;simp +contextual -implicitDefEqProofs (maxSteps:=10^7) only[go_sem,seval,↓gZ,hx,aa,hw,hr];refine ih (i+1) _ (by omega) (by omega) ?_;simp +contextual -implicitDefEqProofs (maxSteps:=10^7) only[go_sem,seval,↓gZ,hm]
  first | rfl | (simp;done) | (simp;rfl)
 ·have:i=sO.length:=by omega
  subst this;simp +contextual -implicitDefEqProofs (maxSteps:=10^7) only[go_sem,seval,↓gZ];simp
def SmS (s:Zq):Prop:=Zcc s∧s.Stock.length≤100000∧-1000000000≤s.Lost∧s.Lost≤1000000000∧-1000000000≤s.Came∧s.Came≤1000000000
theorem Zy8 {s:Zq} (h:ZF s):SmS s:=⟨Ub h,by have:=h.1.1;omega,by have:=h.2.2.2.1;omega,by have:=h.2.2.2.2.1;omega,by have:=h.2.2.2.2.2.1;omega,by have:=h.2.2.2.2.2.2.1;omega⟩
def Uc (l:Zc):Prop:=VP l.Pane∧1≤l.Count∧l.Count≤24
instance (l:Zc):Decidable (Uc l):=by unfold Uc;infer_instance
theorem Za0 {ps:List Pane}:∀ {b:BT} {x y w h:Int},XU ps b w h=true→∀ c∈plc b x y w h,∃ n:Nat,c.Pane=(n:Int)∧n<ps.length
 | .waste,x,y,w,h,hf,c,hc=>by simp[plc] at hc
 | .pane i t,x,y,w,h,hf,c,hc=>by
  simp only[plc,KP] at hc;subst hc;simp only[XU,XT,Kd,Kt] at hf;refine⟨i.toNat,by simp only;omega,?_⟩;rcases KY i.toNat ps.length with h1 | h1
  ·exact h1
  ·rw[KN h1] at hf;exact absurd hf.2 (by simp)
 | .cut d a l r,x,y,w,h,hf,c,hc=>by
  cases d
  ·simp only[XU,Kd,Ka,Kk] at hf;simp only[plc,Ka,Kk,Ke] at hc;rcases hc with hc | hc
   ·exact Za0 hf.1.2 c hc
   ·exact Za0 hf.2 c hc
  ·simp only[XU,Kd,Km] at hf;simp only[plc,Km,Ke] at hc;rcases hc with hc | hc
   ·exact Za0 hf.1.2 c hc
   ·exact Za0 hf.2 c hc
def Ud:List Int→List L.Place→List Int
 | u,[]=>u
 | u,x :: l=>Ud (u.set x.Pane.toNat (u[x.Pane.toNat]?.getD 0+1)) l
theorem Zqj {u:List Int} {l:List L.Place} {k:Nat} {x:L.Place} (hx:l[k]?=some x):Ud u (l.drop k)=Ud (u.set x.Pane.toNat (u[x.Pane.toNat]?.getD 0+1)) (l.drop (k+1)):=by
 obtain⟨h1,h2⟩:=Kc.1 hx;rw[Ks h1,h2,Ud]
theorem Zs0 {u:List Int} {l:List L.Place}:Ud u (l.drop l.length)=u:=by simp[Ud]
theorem Zs1:∀ (l:List L.Place) (u:List Int),(Ud u l).length=u.length
 | [],u=>rfl
 | x :: l,u=>by rw[Ud,Zs1 l];simp
theorem Zs2:∀ (l:List L.Place) (u:List Int) (m:Int),(∀ v∈u,0≤v∧v≤m)→∀ v∈Ud u l,0≤v∧v≤m+l.length
 | [],u,m,h,v,hv=>by have:=h v hv;simp;omega
 | x :: l,u,m,h,v,hv=>by
  have:=Zs2 l _ (m+1) (fun w hw=>by
   rcases List.mem_or_eq_of_mem_set hw with h1 | rfl
   ·have:=h w h1;omega
   ·cases hg:u[x.Pane.toNat]? with
    | none=>
     simp;have h0:∀ z:Int,0≤z→1≤z+1:=by omega
     by_cases hu:u=[]
     ·subst hu;simp at hw
     ·obtain⟨z,hz⟩:=List.exists_mem_of_ne_nil u hu;have:=h z hz;omega
    | some z=>have:=h z (Kb hg);simp;omega) v hv
  simp only[Kq];omega
theorem Zps (u:List Int) (i:Nat) (v:Int):(u.map ZcM).set i (J v)=(u.set i v).map ZcM:=(L0 (f:=ZcM) (l:=u) (i:=i) (a:=v)).symm
theorem rep_int (n:Nat):List.replicate n (D.int .i64 0)=(List.replicate n (0:Int)).map ZcM:=by simp[ZcM]
def Zbw (k:Zt) (p:Ze):List Int:=Ud (List.replicate k.Panes.length 0) ((Qm k p).filterMap QX)
theorem Zde {k:Zt} {p:Ze} (hv:Y5 k p=true):(Zbw k p).length=k.Panes.length∧∀ v∈Zbw k p,0≤v∧v≤255:=by
 obtain⟨b,hb,ae,af,ab,ad,aa⟩:=QM hv;have hl:((Qm k p).filterMap QX).length≤255:=by
  have:=Kn QX (Qm k p);rw[aa,J3] at this;rw[aa];omega
 refine⟨by unfold Zbw;rw[Zs1];simp,fun v h=>?_⟩;have:=Zs2 _ _ 0 (fun w hw=>by rw[L6 hw];omega) v h;omega
theorem ZvL (kW kH:Int) (kP:List Pane) (p:Ze) (hv:Y5 (Zt.mk kW kH kP) p=true):Zd Xs Ms Zcp [(.d (.agg [J kW,J kH,.sl (kP.map Pane.enc)])),.d p.enc] []=some (.own 0,[.row 1 ((Zbw (Zt.mk kW kH kP) p).map ZcM) true false]):=by
 obtain⟨b,hb,af,ad,aj,aa,ab⟩:=QM hv;simp only at aa ab;have e:=Zi8 kW kH kP p b af (by simp only[VW,inB] at ad ⊢;omega) aa (by omega);have ag:=Za0 (x:=0) (y:=0) aa;have an:kP.length≤24:=ad.2.2.2.2.1;have ak:(plc b 0 0 kW kH).length≤255:=by
  have:=Kn QX (Qm (Zt.mk kW kH kP) p);rw[ab,J3,Yt] at this;omega
 unfold Zbw;rw[ab,Yt];generalize plc b 0 0 kW kH=L at e ag ak ⊢;have al:(kP.length:Int)*((8:Nat):Int)≤((140737488355328:Nat):Int)∧kP.length≤140737488355328:=by omega
 have ae:(kP.length:Int)*8≤140737488355328∧(kP.length:Int)≤140737488355328:=by omega
 clear hv hb af ad ab aa;obtain⟨o,a,q,t,ks⟩:=p;rw[Ze.enc_mk] at e ⊢;refine cE ?_;simp +contextual -implicitDefEqProofs (maxSteps:=10^7) only[go_sem,seval,↓gZ,Zkv,e,rep_int,al,ae];refine LO (α:=Nat×List Int) (fun s=>[(7,.d (J (s.1:Int)))]) (fun s=>[(1,.row 1 (s.2.map ZcM) true false)]) (fun s=>s.1≤L.length∧s.2.length=kP.length∧(∀ v∈s.2,0≤v∧v≤s.1)∧Ud s.2 (L.drop s.1)=Ud (List.replicate kP.length 0) L) (fun s=>L.length-s.1) (0,List.replicate kP.length 0) ⟨by simp,by simp,fun w hw=>by rw[L6 hw];simp,by simp⟩ ?_;intro⟨i,u⟩ ⟨hi,hul,huv,hp⟩ ih;simp only at hi hul huv hp;by_cases ah:i<L.length
 ·obtain⟨x,hx⟩:=Zo ah;have hw:=Zh (k:=i) (by omega);obtain⟨n,hn,am⟩:=ag x (Kb hx);rw[Zqj hx,hn] at hp;obtain⟨q',t',⟨X,Y,W,H⟩⟩:=x;simp only at hn;subst hn;have ai:n<u.length:=by omega
  obtain⟨z,hz⟩:=Zo ai;have ao:=huv z (Kb hz);have u1:=wi (z+1) (by omega) (by omega);rw[Kz,hz] at hp;simp +contextual -implicitDefEqProofs (maxSteps:=10^7) only[go_sem,seval,↓gZ,hx,ah,hw,am,ai,hz,u1,Zps,hul];refine ih (i+1,u.set n (z+1)) _ ⟨by simp only;omega,by simpa using hul,fun v hv=>?_,hp⟩ (by simp only;omega) ?_
  ·simp only;rcases List.mem_or_eq_of_mem_set hv with h1 | rfl
   ·have:=huv v h1;omega
   ·omega
  ·simp +contextual -implicitDefEqProofs (maxSteps:=10^7) only[go_sem,seval,↓gZ,List.headD_cons,Zps]
 ·have:i=L.length:=by omega
  subst this;rw[Zs0] at hp;simp +contextual -implicitDefEqProofs (maxSteps:=10^7) only[go_sem,seval,↓gZ,hp]
def Zkh:BT→Bool
 | .waste=>false
 | .pane _ _=>true
 | .cut _ _ l r=>Zkh l || Zkh r
theorem ZeU:∀ (b:BT),Zd Xs Ms Wi [.d b.plan.enc] []=some ((.d (.bool (Zkh b))),[])
 | .waste=>by
  simp only[BT.plan,Ze.enc_mk];refine cE ?_;simp +contextual -implicitDefEqProofs (maxSteps:=10^7) only[go_sem,seval,↓gZ,Zba,Q1,Zkh]
 | .pane i t=>by
  simp only[BT.plan,Ze.enc_mk];refine cE ?_;simp +contextual -implicitDefEqProofs (maxSteps:=10^7) only[go_sem,seval,↓gZ,Zba,Q1,Zkh]
 | .cut d a l r=>by
  have e1:=ZeU l;have e2:=ZeU r;simp only[BT.plan,Ze.enc_mk];cases hb:Zkh l<;>rw[hb] at e1<;>cases d <;>
  ·refine cE ?_;simp +contextual -implicitDefEqProofs (maxSteps:=10^7) only[go_sem,seval,↓gZ,Zba,Q1,Zkh,Ql,e1,e2,hb,LA,Bool.true_or,LN]
theorem Zsw (kW kH:Int) (kP:List Pane) (p:Ze) (Zj:Int) (hv:Y5 (Zt.mk kW kH kP) p=true) (h1:1≤Zj) (h2:Zj≤200):Zd Xs Ms Jv [(.d (.agg [J kW,J kH,.sl (kP.map Pane.enc)])),.d p.enc,(.d (J Zj))] [] =
  some ((.d (J (XV (ZdA (Zt.mk kW kH kP) p Zj)))),[]):=by
 obtain⟨b,hb,ai,af,aj,aa,ad⟩:=QM hv;have am:kP.length≤24:=af.2.2.2.2.1;have ev:=ZgG kW kH kP p (by omega);rw[hv] at ev;have er:=ZJ Zj 1 200;rw[Kh (show 1≤Zj∧Zj≤200 from ⟨h1,h2⟩)] at er;simp only at aa ad;have ep:=Zi9 kW kH kP p b ai (by simp only[VW,inB] at af ⊢;omega) aa (by omega);have ab:=Zb0 hv;have ag:((Qm (Zt.mk kW kH kP) p).filterMap XM).length≤255:=by
  have:=Kn XM (Qm (Zt.mk kW kH kP) p);rw[ad,J3] at this;rw[ad];omega
 rw[← ZeI,← ad] at ep;unfold ZdA;generalize (Qm (Zt.mk kW kH kP) p).filterMap XM=L at ep ab ag ⊢;clear hv hb ai af ad aa;obtain⟨o,a,n,t,ks⟩:=p;rw[Ze.enc_mk] at ev ep ⊢;refine cE ?_;simp +contextual -implicitDefEqProofs (maxSteps:=10^7) only[go_sem,seval,↓gZ,Zfa,ev,ep,er];refine LO (α:=Nat) (fun i=>[(9,.d (J (i:Int))),(7,.d (J (XV ((L.take i).filterMap (Uw Zj)))))]) (fun _=>[]) (fun i=>i≤L.length) (fun i=>L.length-i) 0 (by omega) ?_;intro i hi ih;by_cases ah:i<L.length
 ·obtain⟨x,hx⟩:=Zo ah;have hw:=Zh (k:=i) (by omega);have hm:=ZaX (f:=Uw Zj) hx;have ak:=ab x (Kb hx);have ha:=ZeK (l:=(L.take i).filterMap (Uw Zj)) (fun c hc=>by
   obtain⟨d,hd,ae⟩:=Lu.1 hc;unfold Uw at ae;split at ae
   ·cases ae;exact ab c (Lk hd)
   ·cases ae)
  have an:((L.take i).filterMap (Uw Zj)).length≤i:=Kr (Kn _ _) (by simp;omega);have al:=J4 ak;obtain⟨X,Y,W,H⟩:=x;simp only at al;have w0:=wi (W*H) (by omega) (by omega);have w1:=wi (XV ((L.take i).filterMap (Uw Zj))+W*H) (by omega) (by omega);have es:=Zb7 X Y W H Zj;simp only[Uw] at hm;by_cases ho:W<Zj∨H<Zj
  ·rw[Kj ho] at hm;rw[Ki (show ¬(Zj≤W∧Zj≤H) by omega)] at es;simp +contextual -implicitDefEqProofs (maxSteps:=10^7) only[go_sem,seval,↓gZ,hx,ah,hw,es,w0,w1];refine ih (i+1) _ (by omega) (by omega) ?_;simp +contextual -implicitDefEqProofs (maxSteps:=10^7) only[go_sem,seval,↓gZ,hm,ZbP,Option.toList,XV]
   first | rfl | (simp;done) | (simp;rfl)
  ·rw[Kg ho] at hm;rw[Kh (show Zj≤W∧Zj≤H by omega)] at es;simp +contextual -implicitDefEqProofs (maxSteps:=10^7) only[go_sem,seval,↓gZ,hx,ah,hw,es];refine ih (i+1) _ (by omega) (by omega) ?_;simp +contextual -implicitDefEqProofs (maxSteps:=10^7) only[go_sem,seval,↓gZ,hm,Option.toList,KE]
 ·have:i=L.length:=by omega
  subst this;simp +contextual -implicitDefEqProofs (maxSteps:=10^7) only[go_sem,seval,↓gZ];simp
def YV:List Pane→List Int→List Zc→List Zc→Option (List Zc×List Zc)
 | p :: ps,c :: us,o,d=>if c=0 then YV ps us o d else if Xl p c false o=true then YV ps us (Yd o p c) (Vi p c d) else none
 | [],_,o,d=>some (o,d)
 | _,[],o,d=>some (o,d)
theorem Zki {ps:List Pane} {us:List Int} {o d:List Zc} {k:Nat} {p:Pane} {c:Int} (hp:ps[k]?=some p) (hu:us[k]?=some c):YV (ps.drop k) (us.drop k) o d=if c=0 then YV (ps.drop (k+1)) (us.drop (k+1)) o d else if Xl p c false o=true then YV (ps.drop (k+1)) (us.drop (k+1)) (Yd o p c) (Vi p c d) else none:=by
 obtain⟨h1,h2⟩:=Kc.1 hp;obtain⟨h3,h4⟩:=Kc.1 hu;rw[Ks h1,h2,Ks h3,h4,YV]
theorem Zs3 {ps:List Pane} {us:List Int} {o d:List Zc}:YV (ps.drop ps.length) us o d=some (o,d):=by
 rw[List.drop_length];unfold YV;rfl
theorem Zm3 {l:List Zc} {p:Pane} {c hi:Int} (hc:0≤c) (h:∀ x∈l,x.Count≤hi):∀ y∈Yd l p c,0≤y.Count∧y.Count≤hi:=fun y hy=>by
 obtain⟨x,hx,e⟩:=Lu.1 hy;have:=h x hx;unfold ZgP at e;split at e
 ·split at e
  ·cases e;simp only;omega
  ·cases e
 ·split at e
  ·cases e;omega
  ·cases e
theorem Zlo {p:Pane} {c hi:Int} (hc:0≤c) (hh:0≤hi):∀ {l:List Zc},(∀ x∈l,0≤x.Count∧x.Count≤hi)→∀ y∈Vi p c l,0≤y.Count∧y.Count≤hi+c
 | [],h,y,hy=>by simp[Vi] at hy;subst hy;simp only;omega
 | x :: l,h,y,hy=>by
  have h1:=h x (by simp);unfold Vi at hy;split at hy
  ·rcases Kf.1 hy with rfl | hy
   ·simp only;omega
   ·have:=h y (by simp[hy]);omega
  ·rcases Kf.1 hy with rfl | hy
   ·omega
   ·exact Zlo hc hh (fun z hz=>h z (by simp[hz])) y hy
def Zsx (p:Ze):Bool:=match Yj p with
 | some b=>Zkh b
 | none=>false
def Zda (s:Zq) (e:Zz):Option Zq:=
 match s.Stock[(QI 0 s.Stock e.label).toNat]? with
 | none=>none
 | some x=>match ZaZ s.Stock e.label ⟨x.W,x.H,s.Opn.map Zc.Pane⟩ e.plan 5 with
  | none=>none
  | some R=>if Zsx e.plan=true then
    match YV (s.Opn.map Zc.Pane) (Zbw ⟨x.W,x.H,s.Opn.map Zc.Pane⟩ e.plan) s.Opn s.Done with
    | none=>none
    | some (o,d)=>some ⟨R,o,d,s.Lost+XV (ZdA ⟨x.W,x.H,s.Opn.map Zc.Pane⟩ e.plan 5),s.Came⟩
   else none
def shV:Option Zq→AV×List Zn
 | some s=>(.tup [.agg [.own 0,.own 1,.own 2,(.d (J (s.Lost))),(.d (J (s.Came)))],(.d (.bool true))],[.row 4 (s.Stock.map Zb.enc) true false,.row 5 (s.Opn.map Zc.enc) true false,.row 5 (s.Done.map Zc.enc) true false])
 | none=>(.tup [.agg [.own 0,.own 1,.own 2,(.d (J 0)),(.d (J 0))],(.d (.bool false))],[.row 4 [] true false,.row 5 [] true false,.row 5 [] true false])
theorem Zs4 {l:List Zb} {n:Int} {k:Zt} {p:Ze} {Zj:Int} (h:QI 0 l n<0):ZaZ l n k p Zj=none:=by
 unfold ZaZ;rw[Kg (fun h'=>by omega)]
theorem Zlp {l:List Zb} {n:Int} {k:Zt} {p:Ze} {Zj:Int} {R:List Zb} (h:ZaZ l n k p Zj=some R):Y5 k p=true∧VSt R∧VSt l:=by
 unfold ZaZ at h;split at h
 ·rename_i hc;split at h
  ·rename_i x hx;split at h
   ·rename_i hg;cases h;exact⟨hg.1.1,hg.2,hc.1⟩
   ·cases h
  ·cases h
 ·cases h
def WSh (s:Zq):Prop:=VSt s.Stock∧s.Opn.length≤9∧(∀ x∈s.Opn,VP x.Pane∧0≤x.Count∧x.Count≤24)∧Zan s.Done∧-1≤s.Lost∧s.Lost≤900001∧-1≤s.Came∧s.Came≤900001
theorem Zur {s:Zq} (h:ZF s):WSh s:=⟨h.1,by have:=h.2.1.1;omega,fun x hx=>by have:=Q3 h.2.1 x hx;exact⟨this.1,by omega,this.2.2⟩,h.2.2.1,by have:=h.2.2.2;omega,by have:=h.2.2.2;omega,by have:=h.2.2.2;omega,by have:=h.2.2.2;omega⟩
theorem Zys {s:Zq} (h:WSh s):SmS s:=by
 obtain⟨h1,h2,_,h3,h4,h5,h6,h7⟩:=h;exact⟨⟨by have:=h1.1;omega,fun x hx=>⟨(ZbU h1).2 x hx,Zln (Z0 h1.2 x hx)⟩,by omega,by have:=h3.1;omega⟩,by have:=h1.1;omega,by omega,by omega,by omega,by omega⟩
theorem Zsy (sS:List Zb) (sO sD:List Zc) (sL sC:Int) (eK eL eX eY eW eH af ag:Int) (ah:Bool) (ai eC eo ea ep:Int) (et:Bool) (ek:List Ze) (hv:WSh (Zq.mk sS sO sD sL sC)):Zd Xs Ms Jr [(.d (.agg [.sl (sS.map Zb.enc),.sl (sO.map Zc.enc),.sl (sD.map Zc.enc),J sL,J sC])),(.d (.agg [J eK,J eL,J eX,J eY,J eW,J eH,J af,J ag,.bool ah,J ai,J eC,J eo,J ea,J ep,.bool et,.sl (ek.map Ze.enc)]))] []=some (shV (Zda (Zq.mk sS sO sD sL sC) (Zz.mk eK eL (Box.mk eX eY eW eH) (Zc.mk (Pane.mk af ag ah ai) eC) (Ze.mk eo ea ep et ek)))):=by
 obtain⟨⟨h1,h2,h3,h4⟩,h5,h6,h7,h8,h9⟩:=Zys hv;simp only at h1 h2 h3 h4 h5 h6 h7 h8 h9;have ao:=hv.2.1;have hO:=hv.2.2.1;have hD:=hv.2.2.2.1;simp only at hO hD ao;have ay:=hD.1;have e1:=Zb8 sS eL (by omega);by_cases hf:QI 0 sS eL<0
 ·have ec:Zda (Zq.mk sS sO sD sL sC) (Zz.mk eK eL (Box.mk eX eY eW eH) (Zc.mk (Pane.mk af ag ah ai) eC) (Ze.mk eo ea ep et ek))=none:=by
   unfold Zda;simp only;split
   ·rfl
   ·rw[Zs4 hf]
  rw[ec];unfold shV;refine cE ?_;simp +contextual -implicitDefEqProofs (maxSteps:=10^7) only[go_sem,seval,↓gZ,WO,e1,hf]
 ·obtain⟨a,x,ha,hx⟩:=Zcb (by omega:0≤QI 0 sS eL);rw[ha] at e1;have al:¬(a:Int)<0:=by omega
  have az:=(Kc.1 hx).1;have e3:=Zss sS eL x.W x.H (sO.map Zc.Pane) (.mk eo ea ep et ek) 5 (by have:=hv.1.1;simp only at this;omega) (fun y hy=>by
   have:=Z0 hv.1.2 y hy;exact⟨Kr this.1.2.2.2.2.2.2 (by decide),Zln this⟩) (by simp;omega)
  have ap:Zda (Zq.mk sS sO sD sL sC) (Zz.mk eK eL (Box.mk eX eY eW eH) (Zc.mk (Pane.mk af ag ah ai) eC) (Ze.mk eo ea ep et ek))=match ZaZ sS eL ⟨x.W,x.H,sO.map Zc.Pane⟩ (.mk eo ea ep et ek) 5 with
   | none=>none
   | some R=>if Zsx (.mk eo ea ep et ek)=true then
     match YV (sO.map Zc.Pane) (Zbw ⟨x.W,x.H,sO.map Zc.Pane⟩ (.mk eo ea ep et ek)) sO sD with
     | none=>none
     | some (o,d)=>some ⟨R,o,d,sL+XV (ZdA ⟨x.W,x.H,sO.map Zc.Pane⟩ (.mk eo ea ep et ek) 5),sC⟩
    else none:=by
   unfold Zda;simp only[ha,Kz,hx]
  rw[ap];clear ap;obtain⟨xL,xW,xH,xF⟩:=x;simp only at e3 ⊢;have e2:=ZvK sS sO sD sL sC a xL xW xH xF hx h3 h1;cases hcs:ZaZ sS eL ⟨xW,xH,sO.map Zc.Pane⟩ (.mk eo ea ep et ek) 5 with
  | none=>
   rw[hcs] at e3;unfold Zum at e3;simp only;unfold shV;rw[Ze.enc_mk] at e3;refine cE ?_;simp +contextual -implicitDefEqProofs (maxSteps:=10^7) only[go_sem,seval,↓gZ,WO,e1,al,e2,e3]
  | some R=>
   obtain⟨aa,a0,_⟩:=Zlp hcs;rw[hcs] at e3;unfold Zum at e3;simp only;obtain⟨b,hb,au,a1,am,av,aw⟩:=QM aa;have e4:=ZeU b;rw[← au] at e4;have hh:Zsx (.mk eo ea ep et ek)=Zkh b:=by unfold Zsx;rw[hb]
   rw[hh];have e5:=Zsw xW xH (sO.map Zc.Pane) (.mk eo ea ep et ek) 5 aa (by omega) (by omega);have e6:=ZvL xW xH (sO.map Zc.Pane) (.mk eo ea ep et ek) aa;have hu:=Zde aa;have ax:=ZeK (l:=ZdA ⟨xW,xH,sO.map Zc.Pane⟩ (.mk eo ea ep et ek) 5) (fun c hc=>by
    obtain⟨z,hz,aj⟩:=Lu.1 hc;unfold Uw at aj;split at aj
    ·cases aj;exact Zb0 aa c hz
    ·cases aj)
   have a2:(ZdA ⟨xW,xH,sO.map Zc.Pane⟩ (.mk eo ea ep et ek) 5).length≤255:=by
    refine Kr (Kn _ _) (Kr (Kn _ _) ?_);rw[aw,J3];exact am
   generalize XV (ZdA ⟨xW,xH,sO.map Zc.Pane⟩ (.mk eo ea ep et ek) 5)=A at e5 ax ⊢;generalize Zbw ⟨xW,xH,sO.map Zc.Pane⟩ (.mk eo ea ep et ek)=us at e6 hu ⊢;rw[Ze.enc_mk] at e3 e4 e5 e6;simp only[KB] at hu;have u1:=wi (sL+A) (by omega) (by omega);have r1:sO.length*40≤140737488355328∧sO.length≤140737488355328:=by omega
   have r2:sD.length*40≤140737488355328∧sD.length≤140737488355328:=by omega
   cases hhb:Zkh b with
   | false=>
    rw[hhb] at e4;rw[Kg (by simp)];unfold shV;refine cE ?_;simp +contextual -implicitDefEqProofs (maxSteps:=10^7) only[go_sem,seval,↓gZ,WO,e1,al,e2,e3,e4]
   | true=>
    rw[hhb] at e4;rw[Kj rfl];refine cE ?_;simp +contextual -implicitDefEqProofs (maxSteps:=10^7) only[go_sem,seval,↓gZ,WO,ZsM,e1,al,e2,e3,e4,e5,e6,u1,r1,r2];refine LO (α:=Nat×List Zc×List Zc) (fun s=>[(12,.d (J (s.1:Int)))]) (fun s=>[(5,.row 5 (s.2.1.map Zc.enc) true false),(6,.row 5 (s.2.2.map Zc.enc) true false)]) (fun s=>s.1≤us.length∧YV ((sO.map Zc.Pane).drop s.1) (us.drop s.1) s.2.1 s.2.2=YV (sO.map Zc.Pane) us sO sD∧s.2.1.length≤9∧s.2.2.length≤8+s.1∧(∀ x∈s.2.1,0≤x.Count∧x.Count≤24)∧(∀ x∈s.2.2,0≤x.Count∧x.Count≤24+255*(s.1:Int))) (fun s=>us.length-s.1) (0,sO,sD) ⟨by simp,by simp,ao,by simp only;omega,fun x hx=>by have:=hO x hx;omega,fun x hx=>by have:=Q3 hD x hx;simp only;omega⟩ ?_
    intro⟨i,o,d⟩ ⟨hi,hp,ho8,hd8,hoc,hdc⟩ ih;simp only at hi hp ho8 hd8 hoc hdc;by_cases ab:i<us.length
    ·obtain⟨c,hc⟩:=Zo ab;have an:i<sO.length:=by omega
     obtain⟨y,hy⟩:=Zo an;have hw:=Zh (k:=i) (by omega);have aq:=hu.2 c (Kb hc);have ak:(sO.map Zc.Pane)[i]?=some y.Pane:=by rw[Ld,hy];rfl
     rw[Zki ak hc] at hp;obtain⟨⟨W,H,T,K⟩,C⟩:=y;simp only at hp ak;by_cases ad:c=0
     ·rw[Kj ad] at hp;simp +contextual -implicitDefEqProofs (maxSteps:=10^7) only[go_sem,seval,↓gZ,ab,hc,ad,hw];refine ih (i+1,o,d) _ ⟨by simp only;omega,hp,ho8,by simp only;omega,hoc,fun x hx=>by have:=hdc x hx;simp only;omega⟩ (by simp only;omega) ?_;simp +contextual -implicitDefEqProofs (maxSteps:=10^7) only[go_sem,seval,↓gZ]
     ·rw[Kg ad] at hp;have et:=Zqi o W H T K c (by omega) (fun x hx=>by have:=hoc x hx;unfold R64;omega);have ea:=Zsv d W H T K c (by omega) (fun x hx=>by have:=hdc x hx;unfold R64;omega);by_cases ae:Xl ⟨W,H,T,K⟩ c false o=true
      ·rw[Kj ae] at hp;rw[ae] at et;simp +contextual -implicitDefEqProofs (maxSteps:=10^7) only[go_sem,seval,↓gZ,ab,hc,ad,hw,an,hy,ak,et,ea];refine ih (i+1,Yd o ⟨W,H,T,K⟩ c,Vi ⟨W,H,T,K⟩ c d) _ ⟨by simp only;omega,hp,Kr (Kn _ _) ho8,Kr (ZgQ _ _ _) (by simp only;omega),Zm3 aq.1 (fun x hx=>(hoc x hx).2),fun x hx=>?_⟩ (by simp only;omega) ?_
       ·have:=Zlo aq.1 (by omega) hdc x hx;simp only;omega
       ·simp +contextual -implicitDefEqProofs (maxSteps:=10^7) only[go_sem,seval,↓gZ]
      ·rw[Kg ae] at hp;simp only[LL] at ae;rw[ae] at et;simp +contextual -implicitDefEqProofs (maxSteps:=10^7) only[go_sem,seval,↓gZ,ab,hc,ad,hw,an,hy,ak,et,ea];rw[← hp];rfl
    ·have:i=sO.length:=by omega
     subst this;have ar:=@Zs3 (sO.map Zc.Pane) (us.drop sO.length) o d;rw[KB] at ar;rw[ar] at hp;rw[← hp];simp +contextual -implicitDefEqProofs (maxSteps:=10^7) only[go_sem,seval,↓gZ,ab];rfl
end Go.Proofs.YthgciclhiaoecaaGreat
