/- Own text. -/
import Derived.Test.YtdhgppkldoopaaaGreatACode
import Derived.Test.YtdhgppkldoopaaaGreatAbsParts
import Derived.Test.YtdhgppkldoopaaaGreatAC7
import Derived.Test.YtdhgppkldoopaaaGreatAbsOkD
import Derived.Test.YtdhgppkldoopaaaGreatAC9
namespace Go.Proofs.YtdhgppkldoopaaaGreat
open Go Go.Abs Go.Abs.E Go.Abs.L
open Nat (reduceMul reduceSub reduceLeDiff reduceEqDiff)
open Int (reduceLE reduceEq reduceToNat reduceNeg)
set_option linter.unusedSimpArgs false
set_option linter.unusedVariables false
set_option maxRecDepth 20000
set_option maxHeartbeats 4000000
@[go_sem] theorem rep_5 {α:Type} (a:α):List.replicate 5 a=[a,a,a,a,a]:=rfl
@[go_sem] theorem rep_8 {α:Type} (a:α):List.replicate 8 a=[a,a,a,a,a,a,a,a]:=rfl
@[go_sem] theorem rep_15 {α:Type} (a:α):List.replicate 15 a=[a,a,a,a,a,a,a,a,a,a,a,a,a,a,a]:=rfl
theorem ZiR:ZM ⟨[],[],[],0,0⟩:=by
 refine⟨⟨by simp,trivial⟩,⟨by simp,trivial,by simp[WH]⟩,⟨by simp,trivial,by simp[WH]⟩,?_⟩;simp[Yy,Jz]
def Zx4 (s:Zs) (n:Int):Option ZD:=if ZM s then (match ZuX s.Stock n with
 | some (_,q)=>some ⟨q.W,q.H,s.Opn.map Zc.Pane⟩
 | none=>none) else none
def wkV:Option ZD→AV×List Zn
 | some k=>(.tup [.agg [(.d (J (k.W))),(.d (J (k.H))),.own 0],(.d (.bool true))],[.row 4 (k.Panes.map Pane.enc) true false])
 | none=>(.tup [.agg [(.d (J 0)),(.d (J 0)),.own 0],(.d (.bool false))],[.row 4 [] true false])
theorem Zr2 (sS:List Zb) (sO sD:List Zc) (sL sC:Int) (n:Int):Zf Xs Ms Zar [(.d (.agg [.sl (sS.map Zb.enc),.sl (sO.map Zc.enc),.sl (sD.map Zc.enc),J sL,J sC])),(.d (J n))] []=some (wkV (Zx4 (Zs.mk sS sO sD sL sC) n)):=by
 have e1:=Z5 sS sO sD sL sC;unfold Zx4;by_cases hv:ZM (Zs.mk sS sO sD sL sC)
 ·rw[Kg hv] at e1;rw[Kl hv];have ab:=hv.1.1;have h8:=hv.2.1.1;simp only at ab h8;have e2:=YE sS n (by omega);by_cases hf:Qu 0 sS n<0
  ·rw[Zdr hf];unfold wkV;refine cE ?_;simp +contextual -implicitDefEqProofs (maxSteps:=10^7) only[go_sem,seval,↓gZ,Zav,e1,e2,hf]
  ·obtain⟨a,x,ha,hx⟩:=Zai (by omega:0≤Qu 0 sS n);rw[Zds ha hx];rw[ha] at e2;have ad:¬(a:Int)<0:=by omega
   have aa:=(Ka.1 hx).1;obtain⟨xL,xW,xH,xF⟩:=x;unfold wkV;refine cE ?_;simp +contextual -implicitDefEqProofs (maxSteps:=10^7) only[go_sem,seval,↓gZ,Zav,e1,e2,ad,aa,hx];refine LO (α:=Nat) (fun i=>[(37,.d (J (i:Int)))]) (fun i=>[(2,.row 4 (((sO.take i).map Zc.Pane).map Pane.enc) true false)]) (fun i=>i≤sO.length) (fun i=>sO.length-i) 0 (by omega) ?_;intro i hi ih;by_cases aa:i<sO.length
   ·obtain⟨x,hx⟩:=Zr aa;have hw:=Zj (k:=i) (by omega);have hm:=JN hx;have ae:(sO.take i).length≤i:=by simp;omega
    have hr:((sO.take i).length+1)*32≤140737488355328∧(sO.take i).length≤140737488355327:=by omega
    obtain⟨⟨W,H,T,K⟩,C⟩:=x;simp only at hm;simp +contextual -implicitDefEqProofs (maxSteps:=10^7) only[go_sem,seval,↓gZ,hx,aa,hw,hr];refine ih (i+1) _ (by omega) (by omega) ?_;simp +contextual -implicitDefEqProofs (maxSteps:=10^7) only[go_sem,seval,↓gZ,hm]
    first | rfl | (simp;done) | (simp;rfl)
   ·have:i=sO.length:=by omega
    subst this;simp +contextual -implicitDefEqProofs (maxSteps:=10^7) only[go_sem,seval,↓gZ];simp
 ·rw[Kh hv] at e1;rw[Kj hv];unfold wkV;refine cE ?_;simp +contextual -implicitDefEqProofs (maxSteps:=10^7) only[go_sem,seval,↓gZ,Zav,e1]
end Go.Proofs.YtdhgppkldoopaaaGreat
namespace Go.Proofs.YtdhgppkldoopaaaGreat
open Go Go.Abs Go.Abs.E Go.Abs.L
open Nat (reduceMul reduceSub reduceLeDiff reduceEqDiff)
open Int (reduceLE reduceEq reduceToNat reduceNeg)
set_option linter.unusedSimpArgs false
set_option linter.unusedVariables false
set_option maxRecDepth 20000
set_option maxHeartbeats 4000000
theorem Zte (kW kH:Int) (kP:List Pane) (p:Zd) (hv:YU (ZD.mk kW kH kP) p=true):Zf Xs Ms Zbz [(.d (.agg [J kW,J kH,.sl (kP.map Pane.enc)])),.d p.enc] []=some (.own 0,[.row 1 ((Zcd (ZD.mk kW kH kP) p).map ZgJ) true false]):=by
 have ev:=UH kW kH kP p;rw[hv] at ev;have e:=ZcF kW kH kP p;obtain⟨b,hb,ai,ae,aj,aa,ab⟩:=Xd hv;simp only at aa ab;have af:=Zbq (x:=0) (y:=0) aa;have an:kP.length≤24:=ae.2.2.2.2.1;have ak:(plc b 0 0 kW kH).length≤255:=by
  have:=Ki Xn (Qy (ZD.mk kW kH kP) p);rw[ab,Ju,Vr] at this;omega
 unfold Zcd;rw[ab,Vr] at e ⊢;generalize plc b 0 0 kW kH=L at e af ak ⊢;have al:(kP.length:Int)*((8:Nat):Int)≤((140737488355328:Nat):Int)∧kP.length≤140737488355328:=by omega
 have ad:(kP.length:Int)*8≤140737488355328∧(kP.length:Int)≤140737488355328:=by omega
 clear hv hb ai ae ab aa;obtain⟨o,a,q,t,ks⟩:=p;rw[Zd.enc_mk] at e ev ⊢;refine cE ?_;simp +contextual -implicitDefEqProofs (maxSteps:=10^7) only[go_sem,seval,↓gZ,Zja,ev,e,rep_int,al,ad];refine LO (α:=Nat×List Int) (fun s=>[(20,.d (J (s.1:Int)))]) (fun s=>[(1,.row 1 (s.2.map ZgJ) true false)]) (fun s=>s.1≤L.length∧s.2.length=kP.length∧(∀ v∈s.2,0≤v∧v≤s.1)∧JE s.2 (L.drop s.1)=JE (List.replicate kP.length 0) L) (fun s=>L.length-s.1) (0,List.replicate kP.length 0) ⟨by simp,by simp,fun w hw=>by rw[LP hw];omega,by simp⟩ ?_;intro⟨i,u⟩ ⟨hi,hul,huv,hp⟩ ih;simp only at hi hul huv hp;by_cases ag:i<L.length
 ·obtain⟨x,hx⟩:=Zr ag;have hw:=Zj (k:=i) (by omega);obtain⟨n,hn,am⟩:=af x (Kb hx);rw[Zov hx,hn] at hp;obtain⟨q',t',⟨X,Y,W,H⟩⟩:=x;simp only at hn;subst hn;have ah:n<u.length:=by omega
  obtain⟨z,hz⟩:=Zr ah;have ao:=huv z (Kb hz);have u1:=wi (z+1) (by omega) (by omega);rw[Le,hz] at hp;simp +contextual -implicitDefEqProofs (maxSteps:=10^7) only[go_sem,seval,↓gZ,hx,ag,hw,am,ah,hz,u1,ZnP,hul];refine ih (i+1,u.set n (z+1)) _ ⟨by simp only;omega,by simpa using hul,fun v hv=>?_,hp⟩ (by simp only;omega) ?_
  ·simp only;rcases List.mem_or_eq_of_mem_set hv with h1 | rfl
   ·have:=huv v h1;omega
   ·omega
  ·simp +contextual -implicitDefEqProofs (maxSteps:=10^7) only[go_sem,seval,↓gZ,List.headD_cons,ZnP]
 ·have:i=L.length:=by omega
  subst this;rw[Zq1] at hp;simp +contextual -implicitDefEqProofs (maxSteps:=10^7) only[go_sem,seval,↓gZ,hp]
theorem Zdm:∀ (b:BT) (x y w h:Int),ZiW b=false↔plc b x y w h=[]
 | .waste,x,y,w,h=>by simp[ZiW,plc]
 | .pane i t,x,y,w,h=>by simp[ZiW,plc]
 | .cut d a l r,x,y,w,h=>by
  cases d
  ·simp only[ZiW,plc,L9,Kc,Ko,LZ,Zdm l x y w a,Zdm r x (y+a) w (h-a)]
  ·simp only[ZiW,plc,L9,Kn,LZ,Zdm l x y a h,Zdm r (x+a) y (w-a) h]
theorem Zn3:∀ (l:List L.Place) (u:List Int) (i:Nat) (v:Int),u[i]?=some v→∃ z,(JE u l)[i]?=some z∧v≤z
 | [],u,i,v,h=>⟨v,h,Int.le_refl _⟩
 | x :: l,u,i,v,h=>by
  rw[JE];by_cases hi:x.Pane.toNat=i
  ·obtain⟨z,h1,h2⟩:=Zn3 l (u.set x.Pane.toNat (u[x.Pane.toNat]?.getD 0+1)) i (v+1) (by
    rw[hi,h,LD];have:=(Ka.1 h).1;simp[this])
   exact⟨z,h1,by omega⟩
  ·obtain⟨z,h1,h2⟩:=Zn3 l (u.set x.Pane.toNat (u[x.Pane.toNat]?.getD 0+1)) i v (by
    rw[KW hi,h])
   exact⟨z,h1,h2⟩
theorem ZwK {l:List L.Place} {u:List Int} (hl:l≠[]) (hu:∀ v∈u,0≤v) (hn:∀ c∈l,∃ n:Nat,c.Pane=(n:Int)∧n<u.length):∃ v∈JE u l,v≠0:=by
 cases l with
 | nil=>exact absurd rfl hl
 | cons x l=>
  obtain⟨n,h1,h2⟩:=hn x (by simp);obtain⟨v,hv⟩:=Zr h2;have h0:=hu v (Kb hv);rw[JE,h1,Le,hv];obtain⟨z,h3,h4⟩:=Zn3 l (u.set n (v+1)) n (v+1) (by rw[LD];simp[h2]);refine⟨z,Kb (by simpa using h3),by omega⟩
theorem ZwL {k:ZD} {p:Zd} (hv:YU k p=true) (hp:ZqB p=true):∃ v∈Zcd k p,v≠0:=by
 obtain⟨b,hb,ae,af,ab,aa,ad⟩:=Xd hv;unfold ZqB at hp;rw[hb] at hp;simp only at hp;unfold Zcd;rw[ad,Vr];refine ZwK (fun h=>?_) (fun v hv=>by rw[LP hv];omega) (fun c hc=>?_)
 ·rw[(Zdm b _ _ _ _).2 h] at hp;cases hp
 ·obtain⟨n,h1,h2⟩:=Zbq aa c hc;exact⟨n,h1,by simpa using h2⟩
theorem ZuO {k:ZD} {p:Zd} (hv:YU k p=true):(((Qy k p).filterMap Xn).length=0)↔ZqB p=false:=by
 obtain⟨b,hb,ae,af,aa,ab,ad⟩:=Xd hv;unfold ZqB;rw[hb,ad,Vr,List.length_eq_zero_iff];exact(Zdm b _ _ _ _).symm
def cpV (S:List Zb) (O D:List Zc) (L C:Int):Option Zs→AV×List Zn
 | some t=>((.d (.bool true)),[.box [.own 4,.own 5,.own 6,(.d (J (t.Lost))),(.d (J (t.Came)))],.tree 4 4 (S.map Zb.enc) none,.row 5 (O.map Zc.enc) true false,.row 5 (D.map Zc.enc) true false,.tree 4 4 (t.Stock.map Zb.enc) none,.row 5 (t.Opn.map Zc.enc) true false,.row 5 (t.Done.map Zc.enc) true false])
 | none=>((.d (.bool false)),[.box [.own 1,.own 2,.own 3,(.d (J L)),(.d (J C))],.tree 4 4 (S.map Zb.enc) none,.row 5 (O.map Zc.enc) true false,.row 5 (D.map Zc.enc) true false])
theorem Zqh (sS:List Zb) (sO sD:List Zc) (sL sC:Int) (eK eL eX eY eW eH ah ai:Int) (aj:Bool) (ak eC eo ea ep:Int) (et:Bool) (ek:List Zd) (hv:ZM (Zs.mk sS sO sD sL sC)):Zf Xs Ms UV [.ptr 0 0,(.d (.agg [J eK,J eL,J eX,J eY,J eW,J eH,J ah,J ai,.bool aj,J ak,J eC,J eo,J ea,J ep,.bool et,.sl (ek.map Zd.enc)]))] [.box [.own 1,.own 2,.own 3,(.d (J sL)),(.d (J sC))],.tree 4 4 (sS.map Zb.enc) none,.row 5 (sO.map Zc.enc) true false,.row 5 (sD.map Zc.enc) true false]=some (cpV sS sO sD sL sC (Zd1 (Zs.mk sS sO sD sL sC) (Zt.mk eK eL (Box.mk eX eY eW eH) (Zc.mk (Pane.mk ah ai aj ak) eC) (Zd.mk eo ea ep et ek)))):=by
 obtain⟨⟨h1,h2,h3,h4⟩,h5,h6,h7,h8,h9⟩:=Zhe hv;simp only at h1 h2 h3 h4 h5 h6 h7 h8 h9;have hO:=hv.2.1;have hD:=hv.2.2.1;simp only at hO hD;have az:=hO.1;have a4:=hD.1;have e1:=Zr2 sS sO sD sL sC eL;unfold Zx4 at e1;rw[Kl hv] at e1;by_cases hf:Qu 0 sS eL<0
 ·have ec:Zd1 (Zs.mk sS sO sD sL sC) (Zt.mk eK eL (Box.mk eX eY eW eH) (Zc.mk (Pane.mk ah ai aj ak) eC) (Zd.mk eo ea ep et ek))=none:=by
   unfold Zd1;simp only;split
   ·rfl
   ·rw[Zq5 hf]
  rw[ec];simp only[Zdr hf] at e1;unfold wkV at e1;simp only at e1;unfold cpV;refine cE ?_;simp +contextual -implicitDefEqProofs (maxSteps:=10^7) only[go_sem,seval,↓gZ,Wu,e1]
 ·obtain⟨a,x,ha,hx⟩:=Zai (by omega:0≤Qu 0 sS eL);simp only[Zds ha hx] at e1;unfold wkV at e1;simp only at e1;have e3:=Zqv sS eL x.W x.H (sO.map Zc.Pane) (.mk eo ea ep et ek) 5;have aw:Zd1 (Zs.mk sS sO sD sL sC) (Zt.mk eK eL (Box.mk eX eY eW eH) (Zc.mk (Pane.mk ah ai aj ak) eC) (Zd.mk eo ea ep et ek))=match Zbn sS eL ⟨x.W,x.H,sO.map Zc.Pane⟩ (.mk eo ea ep et ek) 5 with
   | none=>none
   | some R=>if ZqB (.mk eo ea ep et ek)=true then
     match WP (sO.map Zc.Pane) (Zcd ⟨x.W,x.H,sO.map Zc.Pane⟩ (.mk eo ea ep et ek)) sO sD with
     | none=>none
     | some (o,d)=>some ⟨R,o,d,sL+XJ (ZdL ⟨x.W,x.H,sO.map Zc.Pane⟩ (.mk eo ea ep et ek) 5),sC⟩
    else none:=by
   unfold Zd1;simp only[ha,Le,hx];try rfl
  rw[aw];clear aw;obtain⟨xL,xW,xH,xF⟩:=x;simp only at e1 e3 ⊢;cases hcs:Zbn sS eL ⟨xW,xH,sO.map Zc.Pane⟩ (.mk eo ea ep et ek) 5 with
  | none=>
   rw[hcs] at e3;unfold Zsi at e3;simp only;unfold cpV;rw[Zd.enc_mk] at e3;refine cE ?_;simp +contextual -implicitDefEqProofs (maxSteps:=10^7) only[go_sem,seval,↓gZ,Wu,e1,e3]
  | some R=>
   obtain⟨ab,a5,_⟩:=Zow hcs;rw[hcs] at e3;unfold Zsi at e3;simp only;have e4:=ZcF xW xH (sO.map Zc.Pane) (.mk eo ea ep et ek);have ad:=ZuO ab;have e5:=Zqt xW xH (sO.map Zc.Pane) (.mk eo ea ep et ek) 5 ab (by omega) (by omega);have e6:=Zte xW xH (sO.map Zc.Pane) (.mk eo ea ep et ek) ab;have hu:=Zml ab;obtain⟨b,hb,a6,a7,aq,a0,a1⟩:=Xd ab;have a2:=ZgU (l:=ZdL ⟨xW,xH,sO.map Zc.Pane⟩ (.mk eo ea ep et ek) 5) (fun c hc=>by
    obtain⟨z,hz,al⟩:=Lu.1 hc;unfold Uw at al;split at al
    ·cases al;exact ZdM ab c hz
    ·cases al)
   have a8:(ZdL ⟨xW,xH,sO.map Zc.Pane⟩ (.mk eo ea ep et ek) 5).length≤255:=by
    refine Kv (Ki _ _) (Kv (Ki _ _) ?_);rw[a1,Ju];exact aq
   have ax:=ZwL ab;generalize XJ (ZdL ⟨xW,xH,sO.map Zc.Pane⟩ (.mk eo ea ep et ek) 5)=A at e5 a2 ⊢;generalize Zcd ⟨xW,xH,sO.map Zc.Pane⟩ (.mk eo ea ep et ek)=us at e6 hu ax ⊢;generalize (Qy ⟨xW,xH,sO.map Zc.Pane⟩ (.mk eo ea ep et ek)).filterMap Xn=pl at e4 ad;rw[Zd.enc_mk] at e3 e4 e5 e6;simp only[KQ] at hu;have u1:=wi (sL+A) (by omega) (by omega);cases hhb:ZqB (.mk eo ea ep et ek) with
   | false=>
    have ar:((pl.length:Int)=0):=by have:=ad.2 hhb;omega
    rw[Kj (by simp)];unfold cpV;refine cE ?_;simp +contextual -implicitDefEqProofs (maxSteps:=10^7) only[go_sem,seval,↓gZ,Wu,e1,e3,e4,ar]
   | true=>
    have ar:¬((pl.length:Int)=0):=fun h=>by
     have h1:pl.length=0:=by omega
     rw[ad.1 h1] at hhb;cases hhb
    obtain⟨vz,a3,au⟩:=ax hhb;rw[Kl rfl];refine cE ?_;simp +contextual -implicitDefEqProofs (maxSteps:=10^7) only[go_sem,seval,↓gZ,Wu,e1,e3,e4,e6,ar];refine LO (α:=Nat) (fun s=>[(65,.d (J (s:Int)))]) (fun _=>[]) (fun i=>i≤us.length∧WP ((sO.map Zc.Pane).drop i) (us.drop i) sO sD=WP (sO.map Zc.Pane) us sO sD∧∀ v∈us.take i,v=0) (fun i=>us.length-i) 0 ⟨by omega,rfl,by simp⟩ ?_;intro i ⟨hi,hp,av⟩ ih;by_cases am:i<us.length
    ·obtain⟨c,hc⟩:=Zr am;have an:i<sO.length:=by omega
     obtain⟨y,hy⟩:=Zr an;have hw:=Zj (k:=i) (by omega);have ae:=hu.2 c (Kb hc);have af:(sO.map Zc.Pane)[i]?=some y.Pane:=by rw[Lj,hy];rfl
     rw[ZiX af hc] at hp;obtain⟨⟨W,H,T,K⟩,C⟩:=y;simp only at hp af;by_cases aa:c=0
     ·rw[Kl aa] at hp;simp +contextual -implicitDefEqProofs (maxSteps:=10^7) only[go_sem,seval,↓gZ,am,an,hy,hc,aa,hw];refine ih (i+1) _ ⟨by omega,hp,fun v hv=>?_⟩ (by omega) ?_
      ·rw[KK,hc,Ke] at hv;rcases hv with hv | hv
       ·exact av v hv
       ·simp at hv;omega
      ·simp +contextual -implicitDefEqProofs (maxSteps:=10^7) only[go_sem,seval,↓gZ]
     ·rw[Kj aa] at hp;have et:=Zaa sO W H T K c (by omega) (Zj1 hO) (fun x hx=>by have:=(Xq hO x hx).2;unfold R64;omega);have ea:=ZaT sD W H T K c (by omega) (fun x hx=>by have:=(Xq hD x hx).2;unfold R64;omega);unfold tkV at et;by_cases ag:Q3 ⟨W,H,T,K⟩ c false sO=true
      ·rw[Kl ag] at hp et;simp +contextual -implicitDefEqProofs (maxSteps:=10^7) only[go_sem,seval,↓gZ,am,an,hy,hc,aa,hw,et,ea];refine YC Xs Ms (st0:=?st1) (α:=Nat×List Zc×List Zc) (fun s=>[(65,.d (J (s.1:Int)))]) (fun s=>[(4,.row 5 (s.2.2.map Zc.enc) true false),(5,.row 5 (s.2.1.map Zc.enc) true false)]) (fun s=>s.1≤us.length∧WP ((sO.map Zc.Pane).drop s.1) (us.drop s.1) s.2.1 s.2.2=WP (sO.map Zc.Pane) us sO sD∧s.2.1.length≤8∧s.2.2.length≤8+s.1∧UL s.2.1∧UL s.2.2∧(∀ x∈s.2.1,0≤x.Count∧x.Count≤24)∧(∀ x∈s.2.2,0≤x.Count∧x.Count≤24+255*s.1)) (fun s=>us.length-s.1) (i+1,Xz sO ⟨W,H,T,K⟩ c,Yb ⟨W,H,T,K⟩ c sD) ?hc2 ⟨by simp only;omega,hp,Kv (Ki _ _) az,Kv (Zbo _ _ _) (by simp only;omega),ZtF (Zj1 hO),Zwb (Zj1 hD) (by omega),Zlo ae.1 (fun x hx=>(Xq hO x hx).2.2),fun x hx=>by
        have:=Zj0 (hi:=24) ae.1 (by omega) (fun x hx=>by have:=(Xq hD x hx).2;omega) x hx;simp only;omega⟩ ?h02 ?step2
       case hc2=>simp +contextual -implicitDefEqProofs (maxSteps:=10^7) only[go_sem,seval,↓gZ]<;>exact rfl
       case h02=>rfl
       case step2=>
        intro⟨j,o,d⟩ ⟨hj,hp,ho8,hd8,uo,ud,hoc,hdc⟩ ih;simp only at hj hp ho8 hd8 uo ud hoc hdc;by_cases ao:j<us.length
        ·obtain⟨c,hc⟩:=Zr ao;have ap:j<sO.length:=by omega
         obtain⟨y,hy⟩:=Zr ap;have hw:=Zj (k:=j) (by omega);have ae:=hu.2 c (Kb hc);have af:(sO.map Zc.Pane)[j]?=some y.Pane:=by rw[Lj,hy];rfl
         rw[ZiX af hc] at hp;obtain⟨⟨W,H,T,K⟩,C⟩:=y;simp only at hp af;by_cases aa:c=0
         ·rw[Kl aa] at hp;simp +contextual -implicitDefEqProofs (maxSteps:=10^7) only[go_sem,seval,↓gZ,ao,ap,hy,hc,aa,hw];refine ih (j+1,o,d) _ ⟨by simp only;omega,hp,ho8,by simp only;omega,uo,ud,hoc,fun x hx=>by have:=hdc x hx;simp only;omega⟩ (by simp only;omega) ?_;simp +contextual -implicitDefEqProofs (maxSteps:=10^7) only[go_sem,seval,↓gZ]
         ·rw[Kj aa] at hp;have et:=Zaa o W H T K c (by omega) uo (fun x hx=>by have:=hoc x hx;unfold R64;omega);have ea:=ZaT d W H T K c (by omega) (fun x hx=>by have:=hdc x hx;unfold R64;omega);unfold tkV at et;by_cases ag:Q3 ⟨W,H,T,K⟩ c false o=true
          ·rw[Kl ag] at hp et;simp +contextual -implicitDefEqProofs (maxSteps:=10^7) only[go_sem,seval,↓gZ,ao,ap,hy,hc,aa,hw,et,ea];refine ih (j+1,Xz o ⟨W,H,T,K⟩ c,Yb ⟨W,H,T,K⟩ c d) _ ⟨by simp only;omega,hp,Kv (Ki _ _) ho8,Kv (Zbo _ _ _) (by simp only;omega),ZtF uo,Zwb ud (by omega),Zlo ae.1 (fun x hx=>(hoc x hx).2),fun x hx=>?_⟩ (by simp only;omega) ?_
           ·have:=Zj0 ae.1 (by omega) hdc x hx;simp only;omega
           ·simp +contextual -implicitDefEqProofs (maxSteps:=10^7) only[go_sem,seval,↓gZ]
          ·rw[Kj ag] at hp et;simp +contextual -implicitDefEqProofs (maxSteps:=10^7) only[go_sem,seval,↓gZ,ao,ap,hy,hc,aa,hw,et];rw[← hp];rfl
        ·have:j=sO.length:=by omega
         subst this;have ay:=@Zq4 (sO.map Zc.Pane) (us.drop sO.length) o d;rw[KQ] at ay;rw[ay] at hp;rw[← hp];unfold cpV;simp +contextual -implicitDefEqProofs (maxSteps:=10^7) only[go_sem,seval,↓gZ,e5,u1]
      ·rw[Kj ag] at hp et;simp +contextual -implicitDefEqProofs (maxSteps:=10^7) only[go_sem,seval,↓gZ,am,an,hy,hc,aa,hw,et];rw[← hp];rfl
    ·have:us.take i=us:=Lo (by omega);rw[this] at av;exact absurd (av vz a3) au
end Go.Proofs.YtdhgppkldoopaaaGreat
