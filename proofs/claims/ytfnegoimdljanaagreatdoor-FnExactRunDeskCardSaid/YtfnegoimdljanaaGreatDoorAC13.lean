/- Own text. -/
import Derived.Test.YtfnegoimdljanaaGreatDoorACode
import Derived.Test.YtfnegoimdljanaaGreatDoorAC1
import Derived.Test.YtfnegoimdljanaaGreatDoorAC8
import Derived.Test.YtfnegoimdljanaaGreatDoorAC11
import Derived.Test.YtfnegoimdljanaaGreatDoorAbsOkD
namespace Go.Proofs.YtfnegoimdljanaaGreatDoor
open Go Go.Abs Go.Abs.E Go.Abs.L
set_option linter.unusedSimpArgs false
set_option linter.unusedVariables false
set_option maxRecDepth 20000
set_option maxHeartbeats 4000000
theorem ZyT (kW kH:Int) (kP:List Pane) (p:Ze) (hv:Ve (Zw.mk kW kH kP) p=true):Zd Xs Ms 156 [(.d (.agg [J kW,J kH,.sl (kP.map Pane.enc)])),.d p.enc] []=some (.own 0,[.row 1 ((Zcx (Zw.mk kW kH kP) p).map X3) true false]):=by
 have ev:=JC kW kH kP p;rw[hv] at ev;have e:=Zfw kW kH kP p;obtain⟨b,hb,ai,ae,aj,aa,ab⟩:=QW hv;simp only at aa ab;have af:=ZbW (x:=0) (y:=0) aa;have an:kP.length≤24:=ae.2.2.2.2.1;have ak:(plc b 0 0 kW kH).length≤255:=by
  have:=Kr Xi (Qs (Zw.mk kW kH kP) p);rw[ab,Jx,YN] at this;omega
 unfold Zcx;rw[ab,YN] at e ⊢;generalize plc b 0 0 kW kH=L at e af ak ⊢;have al:(kP.length:Int)*((8:Nat):Int)≤((140737488355328:Nat):Int)∧kP.length≤140737488355328:=by omega
 have ad:(kP.length:Int)*8≤140737488355328∧(kP.length:Int)≤140737488355328:=by omega
 clear hv hb ai ae ab aa;obtain⟨o,a,q,t,ks⟩:=p;rw[Ze.enc_mk] at e ev ⊢;refine cE ?_;simp +contextual -implicitDefEqProofs (maxSteps:=10^7) only[go_sem,seval,Zlr,ev,e,rep_int,al,ad];refine LO (α:=Nat×List Int) (fun s=>[(20,.d (J (s.1:Int)))]) (fun s=>[(1,.row 1 (s.2.map X3) true false)]) (fun s=>s.1≤L.length∧s.2.length=kP.length∧(∀ v∈s.2,0≤v∧v≤s.1)∧UE s.2 (L.drop s.1)=UE (List.replicate kP.length 0) L) (fun s=>L.length-s.1) (0,List.replicate kP.length 0) ⟨by simp,by simp,fun w hw=>by rw[Kac hw];omega,by simp⟩ ?_;intro⟨i,u⟩ ⟨hi,hul,huv,hp⟩ ih;simp only at hi hul huv hp;by_cases ag:i<L.length
 ·obtain⟨x,hx⟩:=Zp ag;have hw:=Zg (k:=i) (by omega);obtain⟨n,hn,am⟩:=af x (Kc hx);rw[ZrS hx,hn] at hp;obtain⟨q',t',⟨X,Y,W,H⟩⟩:=x;simp only at hn;subst hn;have ah:n<u.length:=by omega
  obtain⟨z,hz⟩:=Zp ah;have ao:=huv z (Kc hz);have u1:=wi (z+1) (by omega) (by omega);rw[Ky,hz] at hp;simp +contextual -implicitDefEqProofs only[go_sem,seval,hx,ag,hw,am,ah,hz,u1,ZqO,hul];refine ih (i+1,u.set n (z+1)) _ ⟨by simp only;omega,by simpa using hul,fun v hv=>?_,hp⟩ (by simp only;omega) ?_
  ·simp only;rcases List.mem_or_eq_of_mem_set hv with h1 | rfl
   ·have:=huv v h1;omega
   ·omega
  ·simp +contextual -implicitDefEqProofs only[go_sem,seval,KaB,ZqO]
 ·have:i=L.length:=by omega
  subst this;rw[ZvY] at hp;simp +contextual -implicitDefEqProofs only[go_sem,seval,hp]
theorem Zgd:∀ (b:BT) (x y w h:Int),Zle b=false↔plc b x y w h=[]
 | .waste,x,y,w,h=>by simp[Zle,plc]
 | .pane i t,x,y,w,h=>by simp[Zle,plc]
 | .cut d a l r,x,y,w,h=>by
  cases d
  ·simp only[Zle,plc,Kap,Ka,Kn,Kai,Zgd l x y w a,Zgd r x (y+a) w (h-a)]
  ·simp only[Zle,plc,Kap,Km,Kai,Zgd l x y a h,Zgd r (x+a) y (w-a) h]
theorem Zre:∀ (l:List L.Place) (u:List Int) (i:Nat) (v:Int),u[i]?=some v→∃ z,(UE u l)[i]?=some z∧v≤z
 | [],u,i,v,h=>⟨v,h,Kag _⟩
 | x :: l,u,i,v,h=>by
  rw[UE];by_cases hi:x.Pane.toNat=i
  ·obtain⟨z,h1,h2⟩:=Zre l (u.set x.Pane.toNat (u[x.Pane.toNat]?.getD 0+1)) i (v+1) (by
    rw[hi,h,LV];have:=(Kb.1 h).1;simp[this])
   exact⟨z,h1,by omega⟩
  ·obtain⟨z,h1,h2⟩:=Zre l (u.set x.Pane.toNat (u[x.Pane.toNat]?.getD 0+1)) i v (by
    rw[Lp hi,h])
   exact⟨z,h1,h2⟩
theorem ZDC {l:List L.Place} {u:List Int} (hl:l≠[]) (hu:∀ v∈u,0≤v) (hn:∀ c∈l,∃ n:Nat,c.Pane=(n:Int)∧n<u.length):∃ v∈UE u l,v≠0:=by
 cases l with
 | nil=>exact absurd rfl hl
 | cons x l=>
  obtain⟨n,h1,h2⟩:=hn x (by simp);obtain⟨v,hv⟩:=Zp h2;have h0:=hu v (Kc hv);rw[UE,h1,Ky,hv];obtain⟨z,h3,h4⟩:=Zre l (u.set n (v+1)) n (v+1) (by rw[LV];simp[h2]);refine⟨z,Kc (by simpa using h3),by omega⟩
theorem ZvC {k:Zw} {p:Ze} (hv:Ve k p=true) (hp:ZuD p=true):∃ v∈Zcx k p,v≠0:=by
 obtain⟨b,hb,ae,af,ab,aa,ad⟩:=QW hv;unfold ZuD at hp;rw[hb] at hp;simp only at hp;unfold Zcx;rw[ad,YN];refine ZDC (fun h=>?_) (fun v hv=>by rw[Kac hv];omega) (fun c hc=>?_)
 ·rw[(Zgd b _ _ _ _).2 h] at hp;cases hp
 ·obtain⟨n,h1,h2⟩:=ZbW aa c hc;exact⟨n,h1,by simpa using h2⟩
theorem ZA4 {k:Zw} {p:Ze} (hv:Ve k p=true):(((Qs k p).filterMap Xi).length=0)↔ZuD p=false:=by
 obtain⟨b,hb,ae,af,aa,ab,ad⟩:=QW hv;unfold ZuD;rw[hb,ad,YN,List.length_eq_zero_iff];exact(Zgd b _ _ _ _).symm
def cpV (S:List Zb) (O D:List Zc) (L C:Int):Option Zq→AV×List Zm
 | some t=>((.d (.bool true)),[.box [.own 4,.own 5,.own 6,(.d (J (t.Lost))),(.d (J (t.Came)))],.tree 4 4 (S.map Zb.enc) none,.row 5 (O.map Zc.enc) true false,.row 5 (D.map Zc.enc) true false,.tree 4 4 (t.Stock.map Zb.enc) none,.row 5 (t.Opn.map Zc.enc) true false,.row 5 (t.Done.map Zc.enc) true false])
 | none=>((.d (.bool false)),[.box [.own 1,.own 2,.own 3,(.d (J L)),(.d (J C))],.tree 4 4 (S.map Zb.enc) none,.row 5 (O.map Zc.enc) true false,.row 5 (D.map Zc.enc) true false])
theorem Zuk (sS:List Zb) (sO sD:List Zc) (sL sC:Int) (eK eL eX eY eW eH ag ah:Int) (ai:Bool) (aj eC eo ea ep:Int) (et:Bool) (ek:List Ze) (hv:ZK (Zq.mk sS sO sD sL sC)):Zd Xs Ms 108 [.ptr 0 0,(.d (.agg [J eK,J eL,J eX,J eY,J eW,J eH,J ag,J ah,.bool ai,J aj,J eC,J eo,J ea,J ep,.bool et,.sl (ek.map Ze.enc)]))] [.box [.own 1,.own 2,.own 3,(.d (J sL)),(.d (J sC))],.tree 4 4 (sS.map Zb.enc) none,.row 5 (sO.map Zc.enc) true false,.row 5 (sD.map Zc.enc) true false]=some (cpV sS sO sD sL sC (ZeG (Zq.mk sS sO sD sL sC) (Zn.mk eK eL (Box.mk eX eY eW eH) (Zc.mk (Pane.mk ag ah ai aj) eC) (Ze.mk eo ea ep et ek)))):=by
 obtain⟨⟨h1,h2,h3,h4⟩,h5,h6,h7,h8,h9⟩:=ZjR hv;simp only at h1 h2 h3 h4 h5 h6 h7 h8 h9;have hO:=hv.2.1;have hD:=hv.2.2.1;simp only at hO hD;have ay:=hO.1;have a3:=hD.1;have e1:=Zms sS sO sD sL sC eL;unfold ZCP at e1;rw[Kg hv] at e1;by_cases hf:QB 0 sS eL<0
 ·have ec:ZeG (Zq.mk sS sO sD sL sC) (Zn.mk eK eL (Box.mk eX eY eW eH) (Zc.mk (Pane.mk ag ah ai aj) eC) (Ze.mk eo ea ep et ek))=none:=by
   unfold ZeG;simp only;split
   ·rfl
   ·rw[Zv2 hf]
  rw[ec];simp only[Zgp hf] at e1;unfold wkV at e1;simp only at e1;unfold cpV;refine cE ?_;simp +contextual -implicitDefEqProofs (maxSteps:=10^7) only[go_sem,seval,Uf,e1]
 ·obtain⟨a,x,ha,hx⟩:=ZbV (by omega:0≤QB 0 sS eL);simp only[ZdB ha hx] at e1;unfold wkV at e1;simp only at e1;have e3:=Zux sS eL x.W x.H (sO.map Zc.Pane) (.mk eo ea ep et ek) 5;have av:ZeG (Zq.mk sS sO sD sL sC) (Zn.mk eK eL (Box.mk eX eY eW eH) (Zc.mk (Pane.mk ag ah ai aj) eC) (Ze.mk eo ea ep et ek))=match ZbU sS eL ⟨x.W,x.H,sO.map Zc.Pane⟩ (.mk eo ea ep et ek) 5 with
   | none=>none
   | some R=>if ZuD (.mk eo ea ep et ek)=true then
     match Vi (sO.map Zc.Pane) (Zcx ⟨x.W,x.H,sO.map Zc.Pane⟩ (.mk eo ea ep et ek)) sO sD with
     | none=>none
     | some (o,d)=>some ⟨R,o,d,sL+Yf (ZeK ⟨x.W,x.H,sO.map Zc.Pane⟩ (.mk eo ea ep et ek) 5),sC⟩
    else none:=by
   unfold ZeG;simp only[ha,Ky,hx];try rfl
  rw[av];clear av;obtain⟨xL,xW,xH,xF⟩:=x;simp only at e1 e3 ⊢;cases hcs:ZbU sS eL ⟨xW,xH,sO.map Zc.Pane⟩ (.mk eo ea ep et ek) 5 with
  | none=>
   rw[hcs] at e3;unfold Zxx at e3;simp only;unfold cpV;rw[Ze.enc_mk] at e3;refine cE ?_;simp +contextual -implicitDefEqProofs (maxSteps:=10^7) only[go_sem,seval,Uf,e1,e3]
  | some R=>
   obtain⟨ab,a4,_⟩:=Zmp hcs;rw[hcs] at e3;unfold Zxx at e3;simp only;have e4:=Zfw xW xH (sO.map Zc.Pane) (.mk eo ea ep et ek);have ad:=ZA4 ab;have e5:=Zuu xW xH (sO.map Zc.Pane) (.mk eo ea ep et ek) 5 ab (by omega) (by omega);have e6:=ZyT xW xH (sO.map Zc.Pane) (.mk eo ea ep et ek) ab;have hu:=ZeO ab;obtain⟨b,hb,a5,a6,ap,az,a0⟩:=QW ab;have a1:=Zgc (l:=ZeK ⟨xW,xH,sO.map Zc.Pane⟩ (.mk eo ea ep et ek) 5) (fun c hc=>by
    obtain⟨z,hz,ak⟩:=Lw.1 hc;unfold UB at ak;split at ak
    ·cases ak;exact Zdw ab c hz
    ·cases ak)
   have a7:(ZeK ⟨xW,xH,sO.map Zc.Pane⟩ (.mk eo ea ep et ek) 5).length≤255:=by
    refine Kx (Kr _ _) (Kx (Kr _ _) ?_);rw[a0,Jx];exact ap
   have aw:=ZvC ab;generalize Yf (ZeK ⟨xW,xH,sO.map Zc.Pane⟩ (.mk eo ea ep et ek) 5)=A at e5 a1 ⊢;generalize Zcx ⟨xW,xH,sO.map Zc.Pane⟩ (.mk eo ea ep et ek)=us at e6 hu aw ⊢;generalize (Qs ⟨xW,xH,sO.map Zc.Pane⟩ (.mk eo ea ep et ek)).filterMap Xi=pl at e4 ad;rw[Ze.enc_mk] at e3 e4 e5 e6;simp only[KC] at hu;have u1:=wi (sL+A) (by omega) (by omega);cases hhb:ZuD (.mk eo ea ep et ek) with
   | false=>
    have aq:((pl.length:Int)=0):=by have:=ad.2 hhb;omega
    rw[Kd (by simp)];unfold cpV;refine cE ?_;simp +contextual -implicitDefEqProofs (maxSteps:=10^7) only[go_sem,seval,Uf,e1,e3,e4,aq]
   | true=>
    have aq:¬((pl.length:Int)=0):=fun h=>by
     have h1:pl.length=0:=by omega
     rw[ad.1 h1] at hhb;cases hhb
    obtain⟨vz,a2,ar⟩:=aw hhb;rw[Kg rfl];refine cE ?_;simp +contextual -implicitDefEqProofs (maxSteps:=10^7) only[go_sem,seval,Uf,e1,e3,e4,e6,aq];refine LO (α:=Nat) (fun s=>[(65,.d (J (s:Int)))]) (fun _=>[]) (fun i=>i≤us.length∧Vi ((sO.map Zc.Pane).drop i) (us.drop i) sO sD=Vi (sO.map Zc.Pane) us sO sD∧∀ v∈us.take i,v=0) (fun i=>us.length-i) 0 ⟨by omega,rfl,by simp⟩ ?_;intro i ⟨hi,hp,au⟩ ih;by_cases al:i<us.length
    ·obtain⟨c,hc⟩:=Zp al;have am:i<sO.length:=by omega
     obtain⟨y,hy⟩:=Zp am;have hw:=Zg (k:=i) (by omega);have hcb:=hu.2 c (Kc hc);have ae:(sO.map Zc.Pane)[i]?=some y.Pane:=by rw[K0,hy];rfl
     rw[Zlf ae hc] at hp;obtain⟨⟨W,H,T,K⟩,C⟩:=y;simp only at hp ae;by_cases aa:c=0
     ·rw[Kg aa] at hp;simp +contextual -implicitDefEqProofs only[go_sem,seval,al,am,hy,hc,aa,hw];refine ih (i+1) _ ⟨by omega,hp,fun v hv=>?_⟩ (by omega) ?_
      ·rw[KB,hc,Ki] at hv;rcases hv with hv | hv
       ·exact au v hv
       ·simp at hv;omega
      ·simp +contextual -implicitDefEqProofs only[go_sem,seval]
     ·rw[Kd aa] at hp;have et:=Za9 sO W H T K c (by omega) (ZgP hO) (fun x hx=>by have:=(Z5 hO x hx).2;unfold R64;omega);have ea:=ZcH sD W H T K c (by omega) (fun x hx=>by have:=(Z5 hD x hx).2;unfold R64;omega);unfold tkV at et;by_cases af:Xr ⟨W,H,T,K⟩ c false sO=true
      ·rw[Kg af] at hp et;simp +contextual -implicitDefEqProofs only[go_sem,seval,al,am,hy,hc,aa,hw,et,ea];refine XR Xs Ms (st0:=?st1) (α:=Nat×List Zc×List Zc) (fun s=>[(65,.d (J (s.1:Int)))]) (fun s=>[(4,.row 5 (s.2.2.map Zc.enc) true false),(5,.row 5 (s.2.1.map Zc.enc) true false)]) (fun s=>s.1≤us.length∧Vi ((sO.map Zc.Pane).drop s.1) (us.drop s.1) s.2.1 s.2.2=Vi (sO.map Zc.Pane) us sO sD∧s.2.1.length≤8∧s.2.2.length≤8+s.1∧UL s.2.1∧UL s.2.2∧(∀ x∈s.2.1,0≤x.Count∧x.Count≤24)∧(∀ x∈s.2.2,0≤x.Count∧x.Count≤24+255*s.1)) (fun s=>us.length-s.1) (i+1,XY sO ⟨W,H,T,K⟩ c,YB ⟨W,H,T,K⟩ c sD) ?hc2 ⟨by simp only;omega,hp,Kx (Kr _ _) ay,Kx (ZdV _ _ _) (by simp only;omega),Zra (ZgP hO),ZCB (ZgP hD) (by omega),ZnV hcb.1 (fun x hx=>(Z5 hO x hx).2.2),fun x hx=>by
        have:=Zmo (hi:=24) hcb.1 (by omega) (fun x hx=>by have:=(Z5 hD x hx).2;omega) x hx;simp only;omega⟩ ?h02 ?step2
       case hc2=>simp +contextual -implicitDefEqProofs only[go_sem,seval]<;>exact rfl
       case h02=>rfl
       case step2=>
        intro⟨j,o,d⟩ ⟨hj,hp,ho8,hd8,uo,ud,hoc,hdc⟩ ih;simp only at hj hp ho8 hd8 uo ud hoc hdc;by_cases an:j<us.length
        ·obtain⟨c,hc⟩:=Zp an;have ao:j<sO.length:=by omega
         obtain⟨y,hy⟩:=Zp ao;have hw:=Zg (k:=j) (by omega);have hcb:=hu.2 c (Kc hc);have ae:(sO.map Zc.Pane)[j]?=some y.Pane:=by rw[K0,hy];rfl
         rw[Zlf ae hc] at hp;obtain⟨⟨W,H,T,K⟩,C⟩:=y;simp only at hp ae;by_cases aa:c=0
         ·rw[Kg aa] at hp;simp +contextual -implicitDefEqProofs only[go_sem,seval,an,ao,hy,hc,aa,hw];refine ih (j+1,o,d) _ ⟨by simp only;omega,hp,ho8,by simp only;omega,uo,ud,hoc,fun x hx=>by have:=hdc x hx;simp only;omega⟩ (by simp only;omega) ?_;simp +contextual -implicitDefEqProofs only[go_sem,seval]
         ·rw[Kd aa] at hp;have et:=Za9 o W H T K c (by omega) uo (fun x hx=>by have:=hoc x hx;unfold R64;omega);have ea:=ZcH d W H T K c (by omega) (fun x hx=>by have:=hdc x hx;unfold R64;omega);unfold tkV at et;by_cases af:Xr ⟨W,H,T,K⟩ c false o=true
          ·rw[Kg af] at hp et;simp +contextual -implicitDefEqProofs only[go_sem,seval,an,ao,hy,hc,aa,hw,et,ea];refine ih (j+1,XY o ⟨W,H,T,K⟩ c,YB ⟨W,H,T,K⟩ c d) _ ⟨by simp only;omega,hp,Kx (Kr _ _) ho8,Kx (ZdV _ _ _) (by simp only;omega),Zra uo,ZCB ud (by omega),ZnV hcb.1 (fun x hx=>(hoc x hx).2),fun x hx=>?_⟩ (by simp only;omega) ?_
           ·have:=Zmo hcb.1 (by omega) hdc x hx;simp only;omega
           ·simp +contextual -implicitDefEqProofs only[go_sem,seval]
          ·rw[Kd af] at hp et;simp +contextual -implicitDefEqProofs only[go_sem,seval,an,ao,hy,hc,aa,hw,et];rw[← hp];rfl
        ·have:j=sO.length:=by omega
         subst this;have ax:=@Zv1 (sO.map Zc.Pane) (us.drop sO.length) o d;rw[KC] at ax;rw[ax] at hp;rw[← hp];unfold cpV;simp +contextual -implicitDefEqProofs only[go_sem,seval,e5,u1]
      ·rw[Kd af] at hp et;simp +contextual -implicitDefEqProofs only[go_sem,seval,al,am,hy,hc,aa,hw,et];rw[← hp];rfl
    ·have:us.take i=us:=KJ (by omega);rw[this] at au;exact absurd (au vz a2) ar
end Go.Proofs.YtfnegoimdljanaaGreatDoor
namespace Go.Proofs.YtfnegoimdljanaaGreatDoor
open Go Go.Abs Go.Abs.E Go.Abs.L
set_option linter.unusedSimpArgs false
set_option linter.unusedVariables false
set_option maxRecDepth 20000
set_option maxHeartbeats 4000000
theorem ZvD {q x:Zb}:∀ {l:List Zb} {b:Int} {a:Nat},XL b l→l[a]?=some x→q.Label=x.Label→QC q (l.eraseIdx a)=l.set a q
 | [],b,a,_,h,_=>by simp at h
 | y :: l,b,0,hs,h,e=>by
  simp only[KX,Option.some.injEq] at h;subst h;simp only[List.eraseIdx_cons_zero,Kah];cases l with
  | nil=>rfl
  | cons z l=>
   have:=hs.2.2.2.1;unfold QC;rw[Kg (by omega)]
 | y :: l,b,a+1,hs,h,e=>by
  simp only[KY] at h;have ih:=ZvD hs.2.2 h e;have:=ZjL hs.2.2 x (Kc h);simp only[List.eraseIdx_cons_succ,Kaj];unfold QC;rw[Kd (by omega),ih]
theorem ZDD {s:Zq} {e:Zn} {a:Nat} {q:Zb} (hv:ZK s) (hk:e.kind=1) (ha:QB 0 s.Stock e.label=(a:Int)) (hx:s.Stock[a]?=some q) :
  Qt s e=Y0 (some { s with Stock:=s.Stock.set a { q with Flaws:=q.Flaws++[e.box] } }):=by
 have h1:=ZvD (q := { q with Flaws:=q.Flaws++[e.box] }) hv.1.2 hx rfl;have h2:XL 0 (s.Stock.eraseIdx a):=ZiE a hv.1.2;unfold Qt evS;rw[Kd (by omega),Kg hk];simp only[ZdB ha hx];by_cases hr:VC { q with Flaws:=q.Flaws++[e.box] } (s.Stock.eraseIdx a)
 ·rw[Kg hr,h1]
 ·rw[Kd hr];unfold Y0;simp only;rw[Kd];intro hs;refine hr ⟨⟨⟨?_,h2⟩,?_⟩,?_⟩
  ·have:=hv.1.1;rw[List.length_eraseIdx];split<;>omega
  ·exact ZW hs.1.2 _ (Kc (i:=a) (by rw[LV];simp[(Kb.1 hx).1]))
  ·rw[h1];exact hs.1
theorem ZpL (sS:List Zb) (sO sD:List Zc) (sL sC:Int) (eK eL eX eY eW eH aa ab:Int) (ad:Bool) (ae eC eo ea ep:Int) (et:Bool) (ek:List Ze) (hv:ZK (Zq.mk sS sO sD sL sC)) (h0:eK=0) (ha:VC ⟨eL,eW,eH,[]⟩ sS) (hx:eX=0) (hy:eY=0):Zd Xs Ms 56 [.ptr 0 0,(.d (.agg [J eK,J eL,J eX,J eY,J eW,J eH,J aa,J ab,.bool ad,J ae,J eC,J eo,J ea,J ep,.bool et,.sl (ek.map Ze.enc)]))] [.box [.own 1,.own 2,.own 3,(.d (J sL)),(.d (J sC))],.tree 4 4 (sS.map Zb.enc) none,.row 5 (sO.map Zc.enc) true false,.row 5 (sD.map Zc.enc) true false]=some ((.d (.bool true)),[.box [.own 4,.own 2,.own 3,(.d (J sL)),(.d (J (sC+eW*eH)))],.tree 4 4 (sS.map Zb.enc) none,.row 5 (sO.map Zc.enc) true false,.row 5 (sD.map Zc.enc) true false,.tree 4 4 ((QC ⟨eL,eW,eH,[]⟩ sS).map Zb.enc) none]):=by
 have e1:=Zrd sS sO sD sL sC eK eL eX eY eW eH aa ab ad ae eC eo ea ep et ek hv ha hx hy;subst h0;generalize QC ⟨eL,eW,eH,[]⟩ sS=Q at *;refine cE ?_;simp +contextual -implicitDefEqProofs (maxSteps:=10^7) only[go_sem,seval,Z2,e1]
theorem ZpM (sS:List Zb) (sO sD:List Zc) (sL sC:Int) (eK eL eX eY eW eH aa ab:Int) (ad:Bool) (ae eC eo ea ep:Int) (et:Bool) (ek:List Ze) (hv:ZK (Zq.mk sS sO sD sL sC)) (h0:eK=0) (hl:sS.length≤100000) (hn:¬((VC ⟨eL,eW,eH,[]⟩ sS∧eX=0)∧eY=0)):Zd Xs Ms 56 [.ptr 0 0,(.d (.agg [J eK,J eL,J eX,J eY,J eW,J eH,J aa,J ab,.bool ad,J ae,J eC,J eo,J ea,J ep,.bool et,.sl (ek.map Ze.enc)]))] [.box [.own 1,.own 2,.own 3,(.d (J sL)),(.d (J sC))],.tree 4 4 (sS.map Zb.enc) none,.row 5 (sO.map Zc.enc) true false,.row 5 (sD.map Zc.enc) true false]=some ((.d (.bool false)),[.box [.own 1,.own 2,.own 3,(.d (J sL)),(.d (J sC))],.tree 4 4 (sS.map Zb.enc) none,.row 5 (sO.map Zc.enc) true false,.row 5 (sD.map Zc.enc) true false]):=by
 have e1:=Zui sS sO sD sL sC eK eL eX eY eW eH aa ab ad ae eC eo ea ep et ek hl hn;subst h0;refine cE ?_;simp +contextual -implicitDefEqProofs (maxSteps:=10^7) only[go_sem,seval,Z2,e1]
theorem ZpN (sS:List Zb) (sO sD:List Zc) (sL sC:Int) (eK eL eX eY eW eH aa ab:Int) (ad:Bool) (ae eC eo ea ep:Int) (et:Bool) (ek:List Ze) (hv:ZK (Zq.mk sS sO sD sL sC)) (h0:eK=1) (hl:sS.length≤100000) (a:Nat) (ha:QB 0 sS eL=(a:Int)) (xL xW xH:Int) (xF:List Box) (hx:sS[a]?=some (Zb.mk xL xW xH xF)) (hF:xF.length≤1000):Zd Xs Ms 56 [.ptr 0 0,(.d (.agg [J eK,J eL,J eX,J eY,J eW,J eH,J aa,J ab,.bool ad,J ae,J eC,J eo,J ea,J ep,.bool et,.sl (ek.map Ze.enc)]))] [.box [.own 1,.own 2,.own 3,(.d (J sL)),(.d (J sC))],.tree 4 4 (sS.map Zb.enc) none,.row 5 (sO.map Zc.enc) true false,.row 5 (sD.map Zc.enc) true false]=some ((.d (.bool true)),[.box [.own 1,.own 2,.own 3,(.d (J sL)),(.d (J sC))],.tree 4 4 ((sS.set a ⟨xL,xW,xH,xF++[⟨eX,eY,eW,eH⟩]⟩).map Zb.enc) none,.row 5 (sO.map Zc.enc) true false,.row 5 (sD.map Zc.enc) true false]):=by
 have e1:=Zuj sS sO sD sL sC eK eL eX eY eW eH aa ab ad ae eC eo ea ep et ek hl a ha xL xW xH xF hx hF;subst h0;generalize sS.set a ⟨xL,xW,xH,xF++[⟨eX,eY,eW,eH⟩]⟩=Q at *;refine cE ?_;simp +contextual -implicitDefEqProofs (maxSteps:=10^7) only[go_sem,seval,Z2,e1]
theorem ZpO (sS:List Zb) (sO sD:List Zc) (sL sC:Int) (eK eL eX eY eW eH aa ab:Int) (ad:Bool) (ae eC eo ea ep:Int) (et:Bool) (ek:List Ze) (hv:ZK (Zq.mk sS sO sD sL sC)) (h0:eK=1) (hl:sS.length≤100000) (hn:QB 0 sS eL<0):Zd Xs Ms 56 [.ptr 0 0,(.d (.agg [J eK,J eL,J eX,J eY,J eW,J eH,J aa,J ab,.bool ad,J ae,J eC,J eo,J ea,J ep,.bool et,.sl (ek.map Ze.enc)]))] [.box [.own 1,.own 2,.own 3,(.d (J sL)),(.d (J sC))],.tree 4 4 (sS.map Zb.enc) none,.row 5 (sO.map Zc.enc) true false,.row 5 (sD.map Zc.enc) true false]=some ((.d (.bool false)),[.box [.own 1,.own 2,.own 3,(.d (J sL)),(.d (J sC))],.tree 4 4 (sS.map Zb.enc) none,.row 5 (sO.map Zc.enc) true false,.row 5 (sD.map Zc.enc) true false]):=by
 have e1:=Zxd sS sO sD sL sC eK eL eX eY eW eH aa ab ad ae eC eo ea ep et ek hl hn;subst h0;refine cE ?_;simp +contextual -implicitDefEqProofs (maxSteps:=10^7) only[go_sem,seval,Z2,e1]
theorem ZpP (sS:List Zb) (sO sD:List Zc) (sL sC:Int) (eK eL eX eY eW eH aa ab:Int) (ad:Bool) (ae eC eo ea ep:Int) (et:Bool) (ek:List Ze) (hv:ZK (Zq.mk sS sO sD sL sC)) (h0:eK=2) (hn:VT ⟨⟨aa,ab,ad,ae⟩,eC⟩):Zd Xs Ms 56 [.ptr 0 0,(.d (.agg [J eK,J eL,J eX,J eY,J eW,J eH,J aa,J ab,.bool ad,J ae,J eC,J eo,J ea,J ep,.bool et,.sl (ek.map Ze.enc)]))] [.box [.own 1,.own 2,.own 3,(.d (J sL)),(.d (J sC))],.tree 4 4 (sS.map Zb.enc) none,.row 5 (sO.map Zc.enc) true false,.row 5 (sD.map Zc.enc) true false]=some ((.d (.bool true)),[.box [.own 1,.own 4,.own 3,(.d (J sL)),(.d (J sC))],.tree 4 4 (sS.map Zb.enc) none,.row 5 (sO.map Zc.enc) true false,.row 5 (sD.map Zc.enc) true false,.row 5 ((YB ⟨aa,ab,ad,ae⟩ eC sO).map Zc.enc) true false]):=by
 have e1:=Znv sS sO sD sL sC eK eL eX eY eW eH aa ab ad ae eC eo ea ep et ek hv hn;subst h0;generalize YB ⟨aa,ab,ad,ae⟩ eC sO=Q at *;refine cE ?_;simp +contextual -implicitDefEqProofs (maxSteps:=10^7) only[go_sem,seval,Z2,e1]
theorem ZpQ (sS:List Zb) (sO sD:List Zc) (sL sC:Int) (eK eL eX eY eW eH aa ab:Int) (ad:Bool) (ae eC eo ea ep:Int) (et:Bool) (ek:List Ze) (hv:ZK (Zq.mk sS sO sD sL sC)) (h0:eK=2) (hn:¬VT ⟨⟨aa,ab,ad,ae⟩,eC⟩):Zd Xs Ms 56 [.ptr 0 0,(.d (.agg [J eK,J eL,J eX,J eY,J eW,J eH,J aa,J ab,.bool ad,J ae,J eC,J eo,J ea,J ep,.bool et,.sl (ek.map Ze.enc)]))] [.box [.own 1,.own 2,.own 3,(.d (J sL)),(.d (J sC))],.tree 4 4 (sS.map Zb.enc) none,.row 5 (sO.map Zc.enc) true false,.row 5 (sD.map Zc.enc) true false]=some ((.d (.bool false)),[.box [.own 1,.own 2,.own 3,(.d (J sL)),(.d (J sC))],.tree 4 4 (sS.map Zb.enc) none,.row 5 (sO.map Zc.enc) true false,.row 5 (sD.map Zc.enc) true false]):=by
 have e1:=ZpI sS sO sD sL sC eK eL eX eY eW eH aa ab ad ae eC eo ea ep et ek hn;subst h0;refine cE ?_;simp +contextual -implicitDefEqProofs (maxSteps:=10^7) only[go_sem,seval,Z2,e1]
theorem ZpR (sS:List Zb) (sO sD:List Zc) (sL sC:Int) (eK eL eX eY eW eH aa ab:Int) (ad:Bool) (ae eC eo ea ep:Int) (et:Bool) (ek:List Ze) (hv:ZK (Zq.mk sS sO sD sL sC)) (h0:eK=4) (hl:VT ⟨⟨aa,ab,ad,ae⟩,eC⟩) (hk:Xr ⟨aa,ab,ad,ae⟩ eC false sD=true):Zd Xs Ms 56 [.ptr 0 0,(.d (.agg [J eK,J eL,J eX,J eY,J eW,J eH,J aa,J ab,.bool ad,J ae,J eC,J eo,J ea,J ep,.bool et,.sl (ek.map Ze.enc)]))] [.box [.own 1,.own 2,.own 3,(.d (J sL)),(.d (J sC))],.tree 4 4 (sS.map Zb.enc) none,.row 5 (sO.map Zc.enc) true false,.row 5 (sD.map Zc.enc) true false]=some ((.d (.bool true)),[.box [.own 1,.own 4,.own 5,(.d (J (sL+eC*aa*ab))),(.d (J sC))],.tree 4 4 (sS.map Zb.enc) none,.row 5 (sO.map Zc.enc) true false,.row 5 (sD.map Zc.enc) true false,.row 5 ((YB ⟨aa,ab,ad,ae⟩ eC sO).map Zc.enc) true false,.row 5 ((XY sD ⟨aa,ab,ad,ae⟩ eC).map Zc.enc) true false]):=by
 have e1:=Znw sS sO sD sL sC eK eL eX eY eW eH aa ab ad ae eC eo ea ep et ek hv hl hk;subst h0;generalize YB ⟨aa,ab,ad,ae⟩ eC sO=Q at *;generalize XY sD ⟨aa,ab,ad,ae⟩ eC=Q2 at *;refine cE ?_;simp +contextual -implicitDefEqProofs (maxSteps:=10^7) only[go_sem,seval,Z2,e1]
theorem ZpS (sS:List Zb) (sO sD:List Zc) (sL sC:Int) (eK eL eX eY eW eH aa ab:Int) (ad:Bool) (ae eC eo ea ep:Int) (et:Bool) (ek:List Ze) (hv:ZK (Zq.mk sS sO sD sL sC)) (h0:eK=4) (hn:¬(VT ⟨⟨aa,ab,ad,ae⟩,eC⟩∧Xr ⟨aa,ab,ad,ae⟩ eC false sD=true)):Zd Xs Ms 56 [.ptr 0 0,(.d (.agg [J eK,J eL,J eX,J eY,J eW,J eH,J aa,J ab,.bool ad,J ae,J eC,J eo,J ea,J ep,.bool et,.sl (ek.map Ze.enc)]))] [.box [.own 1,.own 2,.own 3,(.d (J sL)),(.d (J sC))],.tree 4 4 (sS.map Zb.enc) none,.row 5 (sO.map Zc.enc) true false,.row 5 (sD.map Zc.enc) true false]=some ((.d (.bool false)),[.box [.own 1,.own 2,.own 3,(.d (J sL)),(.d (J sC))],.tree 4 4 (sS.map Zb.enc) none,.row 5 (sO.map Zc.enc) true false,.row 5 (sD.map Zc.enc) true false]):=by
 have e1:=ZpJ sS sO sD sL sC eK eL eX eY eW eH aa ab ad ae eC eo ea ep et ek hv hn;subst h0;refine cE ?_;simp +contextual -implicitDefEqProofs (maxSteps:=10^7) only[go_sem,seval,Z2,e1]
theorem ZpT (sS:List Zb) (sO sD:List Zc) (sL sC:Int) (eK eL eX eY eW eH aa ab:Int) (ad:Bool) (ae eC eo ea ep:Int) (et:Bool) (ek:List Ze) (hv:ZK (Zq.mk sS sO sD sL sC)) (h0:eK=5) (a:Nat) (ha:QB 0 sS eL=(a:Int)) (xL xW xH:Int) (xF:List Box) (hx:sS[a]?=some (Zb.mk xL xW xH xF)):Zd Xs Ms 56 [.ptr 0 0,(.d (.agg [J eK,J eL,J eX,J eY,J eW,J eH,J aa,J ab,.bool ad,J ae,J eC,J eo,J ea,J ep,.bool et,.sl (ek.map Ze.enc)]))] [.box [.own 1,.own 2,.own 3,(.d (J sL)),(.d (J sC))],.tree 4 4 (sS.map Zb.enc) none,.row 5 (sO.map Zc.enc) true false,.row 5 (sD.map Zc.enc) true false]=some ((.d (.bool true)),[.box [.own 4,.own 2,.own 3,(.d (J (sL+xW*xH))),(.d (J sC))],.tree 4 4 (sS.map Zb.enc) none,.row 5 (sO.map Zc.enc) true false,.row 5 (sD.map Zc.enc) true false,.tree 4 4 ((sS.eraseIdx a).map Zb.enc) none]):=by
 have e1:=Znx sS sO sD sL sC eK eL eX eY eW eH aa ab ad ae eC eo ea ep et ek hv a ha xL xW xH xF hx;subst h0;generalize sS.eraseIdx a=Q at *;refine cE ?_;simp +contextual -implicitDefEqProofs (maxSteps:=10^7) only[go_sem,seval,Z2,e1]
theorem ZpU (sS:List Zb) (sO sD:List Zc) (sL sC:Int) (eK eL eX eY eW eH aa ab:Int) (ad:Bool) (ae eC eo ea ep:Int) (et:Bool) (ek:List Ze) (hv:ZK (Zq.mk sS sO sD sL sC)) (h0:eK=5) (hn:QB 0 sS eL<0):Zd Xs Ms 56 [.ptr 0 0,(.d (.agg [J eK,J eL,J eX,J eY,J eW,J eH,J aa,J ab,.bool ad,J ae,J eC,J eo,J ea,J ep,.bool et,.sl (ek.map Ze.enc)]))] [.box [.own 1,.own 2,.own 3,(.d (J sL)),(.d (J sC))],.tree 4 4 (sS.map Zb.enc) none,.row 5 (sO.map Zc.enc) true false,.row 5 (sD.map Zc.enc) true false]=some ((.d (.bool false)),[.box [.own 1,.own 2,.own 3,(.d (J sL)),(.d (J sC))],.tree 4 4 (sS.map Zb.enc) none,.row 5 (sO.map Zc.enc) true false,.row 5 (sD.map Zc.enc) true false]):=by
 have e1:=ZpK sS sO sD sL sC eK eL eX eY eW eH aa ab ad ae eC eo ea ep et ek hn;subst h0;refine cE ?_;simp +contextual -implicitDefEqProofs (maxSteps:=10^7) only[go_sem,seval,Z2,e1]
theorem Zrf (sS:List Zb) (sO sD:List Zc) (sL sC:Int) (eK eL eX eY eW eH aa ab:Int) (ad:Bool) (ae eC eo ea ep:Int) (et:Bool) (ek:List Ze) (hv:ZK (Zq.mk sS sO sD sL sC)) (h0:eK=3):Zd Xs Ms 56 [.ptr 0 0,(.d (.agg [J eK,J eL,J eX,J eY,J eW,J eH,J aa,J ab,.bool ad,J ae,J eC,J eo,J ea,J ep,.bool et,.sl (ek.map Ze.enc)]))] [.box [.own 1,.own 2,.own 3,(.d (J sL)),(.d (J sC))],.tree 4 4 (sS.map Zb.enc) none,.row 5 (sO.map Zc.enc) true false,.row 5 (sD.map Zc.enc) true false]=some (cpV sS sO sD sL sC (ZeG (Zq.mk sS sO sD sL sC) (Zn.mk eK eL (Box.mk eX eY eW eH) (Zc.mk (Pane.mk aa ab ad ae) eC) (Ze.mk eo ea ep et ek)))):=by
 have e1:=Zuk sS sO sD sL sC eK eL eX eY eW eH aa ab ad ae eC eo ea ep et ek hv;subst h0;generalize ZeG (Zq.mk sS sO sD sL sC) (Zn.mk 3 eL (Box.mk eX eY eW eH) (Zc.mk (Pane.mk aa ab ad ae) eC) (Ze.mk eo ea ep et ek))=t at *;cases t with
 | none=>
  unfold cpV at e1 ⊢;refine cE ?_;simp +contextual -implicitDefEqProofs (maxSteps:=10^7) only[go_sem,seval,Z2,e1]
 | some t=>
  unfold cpV at e1 ⊢;obtain⟨a,b,c,d,f⟩:=t;simp only at e1 ⊢;refine cE ?_;simp +contextual -implicitDefEqProofs (maxSteps:=10^7) only[go_sem,seval,Z2,e1]
theorem Zrg (sS:List Zb) (sO sD:List Zc) (sL sC:Int) (eK eL eX eY eW eH aa ab:Int) (ad:Bool) (ae eC eo ea ep:Int) (et:Bool) (ek:List Ze) (h0:¬eK=0) (h1:¬eK=1) (h2:¬eK=2) (h3:¬eK=3) (h4:¬eK=4) (h5:¬eK=5):Zd Xs Ms 56 [.ptr 0 0,(.d (.agg [J eK,J eL,J eX,J eY,J eW,J eH,J aa,J ab,.bool ad,J ae,J eC,J eo,J ea,J ep,.bool et,.sl (ek.map Ze.enc)]))] [.box [.own 1,.own 2,.own 3,(.d (J sL)),(.d (J sC))],.tree 4 4 (sS.map Zb.enc) none,.row 5 (sO.map Zc.enc) true false,.row 5 (sD.map Zc.enc) true false]=some ((.d (.bool false)),[.box [.own 1,.own 2,.own 3,(.d (J sL)),(.d (J sC))],.tree 4 4 (sS.map Zb.enc) none,.row 5 (sO.map Zc.enc) true false,.row 5 (sD.map Zc.enc) true false]):=by
 refine cE ?_;simp +contextual -implicitDefEqProofs (maxSteps:=10^7) only[go_sem,seval,Z2,h0,h1,h2,h3,h4,h5]
def shT:Option Zq→AV×List Zm
 | some s=>(.tup [.agg [.own 0,.own 1,.own 2,(.d (J (s.Lost))),(.d (J (s.Came)))],(.d (.bool true))],[.tree 4 4 (s.Stock.map Zb.enc) none,.row 5 (s.Opn.map Zc.enc) true false,.row 5 (s.Done.map Zc.enc) true false])
 | none=>(.tup [.agg [.own 0,.own 1,.own 2,(.d (J 0)),(.d (J 0))],(.d (.bool false))],[.row 4 [] true false,.row 5 [] true false,.row 5 [] true false])
theorem Zny (sS:List Zb) (sO sD:List Zc) (sL sC:Int) (eK eL eX eY eW eH aa ab:Int) (ad:Bool) (ae eC eo ea ep:Int) (et:Bool) (ek:List Ze) (hv:¬ZK (Zq.mk sS sO sD sL sC)):Zd Xs Ms 24 [(.d (.agg [.sl (sS.map Zb.enc),.sl (sO.map Zc.enc),.sl (sD.map Zc.enc),J sL,J sC])),(.d (.agg [J eK,J eL,J eX,J eY,J eW,J eH,J aa,J ab,.bool ad,J ae,J eC,J eo,J ea,J ep,.bool et,.sl (ek.map Ze.enc)]))] []=some (shT none):=by
 have e1:=Z7 sS sO sD sL sC;rw[Kj hv] at e1;unfold shT;refine cE ?_;simp +contextual -implicitDefEqProofs (maxSteps:=10^7) only[go_sem,seval,Z9,e1]
theorem Yb (sS:List Zb) (sO sD:List Zc) (sL sC:Int) (eK eL eX eY eW eH aa ab:Int) (ad:Bool) (ae eC eo ea ep:Int) (et:Bool) (ek:List Ze) (hv:ZK (Zq.mk sS sO sD sL sC)) (hc:Zd Xs Ms 56 [.ptr 0 0,(.d (.agg [J eK,J eL,J eX,J eY,J eW,J eH,J aa,J ab,.bool ad,J ae,J eC,J eo,J ea,J ep,.bool et,.sl (ek.map Ze.enc)]))] [.box [.own 1,.own 2,.own 3,(.d (J sL)),(.d (J sC))],.tree 4 4 (sS.map Zb.enc) none,.row 5 (sO.map Zc.enc) true false,.row 5 (sD.map Zc.enc) true false]=some ((.d (.bool false)),[.box [.own 1,.own 2,.own 3,(.d (J sL)),(.d (J sC))],.tree 4 4 (sS.map Zb.enc) none,.row 5 (sO.map Zc.enc) true false,.row 5 (sD.map Zc.enc) true false])):Zd Xs Ms 24 [(.d (.agg [.sl (sS.map Zb.enc),.sl (sO.map Zc.enc),.sl (sD.map Zc.enc),J sL,J sC])),(.d (.agg [J eK,J eL,J eX,J eY,J eW,J eH,J aa,J ab,.bool ad,J ae,J eC,J eo,J ea,J ep,.bool et,.sl (ek.map Ze.enc)]))] []=some (shT none):=by
 have e1:=Z7 sS sO sD sL sC;rw[Kh hv] at e1;have e2:=V4 sS sO sD sL sC (ZdW hv);unfold shT;refine cE ?_;simp +contextual -implicitDefEqProofs (maxSteps:=10^7) only[go_sem,seval,Z9,e1,e2,hc]
theorem Zh9 (sS:List Zb) (sO sD:List Zc) (sL sC:Int) (eK eL eX eY eW eH ab ad:Int) (ae:Bool) (af eC eo ea ep:Int) (et:Bool) (ek:List Ze) (hv:ZK (Zq.mk sS sO sD sL sC)) (tS:List Zb) (tO tD:List Zc) (tL tC:Int) (hc:Zd Xs Ms 56 [.ptr 0 0,(.d (.agg [J eK,J eL,J eX,J eY,J eW,J eH,J ab,J ad,.bool ae,J af,J eC,J eo,J ea,J ep,.bool et,.sl (ek.map Ze.enc)]))] [.box [.own 1,.own 2,.own 3,(.d (J sL)),(.d (J sC))],.tree 4 4 (sS.map Zb.enc) none,.row 5 (sO.map Zc.enc) true false,.row 5 (sD.map Zc.enc) true false]=some ((.d (.bool true)),[.box [.own 4,.own 2,.own 3,(.d (J tL)),(.d (J tC))],.tree 4 4 (sS.map Zb.enc) none,.row 5 (sO.map Zc.enc) true false,.row 5 (sD.map Zc.enc) true false,.tree 4 4 (tS.map Zb.enc) none])):Zd Xs Ms 24 [(.d (.agg [.sl (sS.map Zb.enc),.sl (sO.map Zc.enc),.sl (sD.map Zc.enc),J sL,J sC])),(.d (.agg [J eK,J eL,J eX,J eY,J eW,J eH,J ab,J ad,.bool ae,J af,J eC,J eo,J ea,J ep,.bool et,.sl (ek.map Ze.enc)]))] []=some (shT (Y0 (some ⟨tS,sO,sD,tL,tC⟩))):=by
 have e1:=Z7 sS sO sD sL sC;rw[Kh hv] at e1;have e2:=V4 sS sO sD sL sC (ZdW hv);have e3:=Z7 tS sO sD tL tC;unfold Y0;by_cases aa:ZK ⟨tS,sO,sD,tL,tC⟩
 ·rw[Kh aa] at e3;simp only[Kg aa];unfold shT;refine cE ?_;simp +contextual -implicitDefEqProofs (maxSteps:=10^7) only[go_sem,seval,Z9,e1,e2,hc,e3]
 ·rw[Kj aa] at e3;simp only[Kd aa];unfold shT;refine cE ?_;simp +contextual -implicitDefEqProofs (maxSteps:=10^7) only[go_sem,seval,Z9,e1,e2,hc,e3]
theorem ZpV (sS:List Zb) (sO sD:List Zc) (sL sC:Int) (eK eL eX eY eW eH ab ad:Int) (ae:Bool) (af eC eo ea ep:Int) (et:Bool) (ek:List Ze) (hv:ZK (Zq.mk sS sO sD sL sC)) (tS:List Zb) (tO tD:List Zc) (tL tC:Int) (hc:Zd Xs Ms 56 [.ptr 0 0,(.d (.agg [J eK,J eL,J eX,J eY,J eW,J eH,J ab,J ad,.bool ae,J af,J eC,J eo,J ea,J ep,.bool et,.sl (ek.map Ze.enc)]))] [.box [.own 1,.own 2,.own 3,(.d (J sL)),(.d (J sC))],.tree 4 4 (sS.map Zb.enc) none,.row 5 (sO.map Zc.enc) true false,.row 5 (sD.map Zc.enc) true false]=some ((.d (.bool true)),[.box [.own 1,.own 2,.own 3,(.d (J tL)),(.d (J tC))],.tree 4 4 (tS.map Zb.enc) none,.row 5 (sO.map Zc.enc) true false,.row 5 (sD.map Zc.enc) true false])):Zd Xs Ms 24 [(.d (.agg [.sl (sS.map Zb.enc),.sl (sO.map Zc.enc),.sl (sD.map Zc.enc),J sL,J sC])),(.d (.agg [J eK,J eL,J eX,J eY,J eW,J eH,J ab,J ad,.bool ae,J af,J eC,J eo,J ea,J ep,.bool et,.sl (ek.map Ze.enc)]))] []=some (shT (Y0 (some ⟨tS,sO,sD,tL,tC⟩))):=by
 have e1:=Z7 sS sO sD sL sC;rw[Kh hv] at e1;have e2:=V4 sS sO sD sL sC (ZdW hv);have e3:=Z7 tS sO sD tL tC;unfold Y0;by_cases aa:ZK ⟨tS,sO,sD,tL,tC⟩
 ·rw[Kh aa] at e3;simp only[Kg aa];unfold shT;refine cE ?_;simp +contextual -implicitDefEqProofs (maxSteps:=10^7) only[go_sem,seval,Z9,e1,e2,hc,e3]
 ·rw[Kj aa] at e3;simp only[Kd aa];unfold shT;refine cE ?_;simp +contextual -implicitDefEqProofs (maxSteps:=10^7) only[go_sem,seval,Z9,e1,e2,hc,e3]
theorem ZpW (sS:List Zb) (sO sD:List Zc) (sL sC:Int) (eK eL eX eY eW eH ab ad:Int) (ae:Bool) (af eC eo ea ep:Int) (et:Bool) (ek:List Ze) (hv:ZK (Zq.mk sS sO sD sL sC)) (tS:List Zb) (tO tD:List Zc) (tL tC:Int) (hc:Zd Xs Ms 56 [.ptr 0 0,(.d (.agg [J eK,J eL,J eX,J eY,J eW,J eH,J ab,J ad,.bool ae,J af,J eC,J eo,J ea,J ep,.bool et,.sl (ek.map Ze.enc)]))] [.box [.own 1,.own 2,.own 3,(.d (J sL)),(.d (J sC))],.tree 4 4 (sS.map Zb.enc) none,.row 5 (sO.map Zc.enc) true false,.row 5 (sD.map Zc.enc) true false]=some ((.d (.bool true)),[.box [.own 1,.own 4,.own 3,(.d (J tL)),(.d (J tC))],.tree 4 4 (sS.map Zb.enc) none,.row 5 (sO.map Zc.enc) true false,.row 5 (sD.map Zc.enc) true false,.row 5 (tO.map Zc.enc) true false])):Zd Xs Ms 24 [(.d (.agg [.sl (sS.map Zb.enc),.sl (sO.map Zc.enc),.sl (sD.map Zc.enc),J sL,J sC])),(.d (.agg [J eK,J eL,J eX,J eY,J eW,J eH,J ab,J ad,.bool ae,J af,J eC,J eo,J ea,J ep,.bool et,.sl (ek.map Ze.enc)]))] []=some (shT (Y0 (some ⟨sS,tO,sD,tL,tC⟩))):=by
 have e1:=Z7 sS sO sD sL sC;rw[Kh hv] at e1;have e2:=V4 sS sO sD sL sC (ZdW hv);have e3:=Z7 sS tO sD tL tC;unfold Y0;by_cases aa:ZK ⟨sS,tO,sD,tL,tC⟩
 ·rw[Kh aa] at e3;simp only[Kg aa];unfold shT;refine cE ?_;simp +contextual -implicitDefEqProofs (maxSteps:=10^7) only[go_sem,seval,Z9,e1,e2,hc,e3]
 ·rw[Kj aa] at e3;simp only[Kd aa];unfold shT;refine cE ?_;simp +contextual -implicitDefEqProofs (maxSteps:=10^7) only[go_sem,seval,Z9,e1,e2,hc,e3]
theorem ZpX (sS:List Zb) (sO sD:List Zc) (sL sC:Int) (eK eL eX eY eW eH ab ad:Int) (ae:Bool) (af eC eo ea ep:Int) (et:Bool) (ek:List Ze) (hv:ZK (Zq.mk sS sO sD sL sC)) (tS:List Zb) (tO tD:List Zc) (tL tC:Int) (hc:Zd Xs Ms 56 [.ptr 0 0,(.d (.agg [J eK,J eL,J eX,J eY,J eW,J eH,J ab,J ad,.bool ae,J af,J eC,J eo,J ea,J ep,.bool et,.sl (ek.map Ze.enc)]))] [.box [.own 1,.own 2,.own 3,(.d (J sL)),(.d (J sC))],.tree 4 4 (sS.map Zb.enc) none,.row 5 (sO.map Zc.enc) true false,.row 5 (sD.map Zc.enc) true false]=some ((.d (.bool true)),[.box [.own 1,.own 4,.own 5,(.d (J tL)),(.d (J tC))],.tree 4 4 (sS.map Zb.enc) none,.row 5 (sO.map Zc.enc) true false,.row 5 (sD.map Zc.enc) true false,.row 5 (tO.map Zc.enc) true false,.row 5 (tD.map Zc.enc) true false])):Zd Xs Ms 24 [(.d (.agg [.sl (sS.map Zb.enc),.sl (sO.map Zc.enc),.sl (sD.map Zc.enc),J sL,J sC])),(.d (.agg [J eK,J eL,J eX,J eY,J eW,J eH,J ab,J ad,.bool ae,J af,J eC,J eo,J ea,J ep,.bool et,.sl (ek.map Ze.enc)]))] []=some (shT (Y0 (some ⟨sS,tO,tD,tL,tC⟩))):=by
 have e1:=Z7 sS sO sD sL sC;rw[Kh hv] at e1;have e2:=V4 sS sO sD sL sC (ZdW hv);have e3:=Z7 sS tO tD tL tC;unfold Y0;by_cases aa:ZK ⟨sS,tO,tD,tL,tC⟩
 ·rw[Kh aa] at e3;simp only[Kg aa];unfold shT;refine cE ?_;simp +contextual -implicitDefEqProofs (maxSteps:=10^7) only[go_sem,seval,Z9,e1,e2,hc,e3]
 ·rw[Kj aa] at e3;simp only[Kd aa];unfold shT;refine cE ?_;simp +contextual -implicitDefEqProofs (maxSteps:=10^7) only[go_sem,seval,Z9,e1,e2,hc,e3]
theorem ZpY (sS:List Zb) (sO sD:List Zc) (sL sC:Int) (eK eL eX eY eW eH ab ad:Int) (ae:Bool) (af eC eo ea ep:Int) (et:Bool) (ek:List Ze) (hv:ZK (Zq.mk sS sO sD sL sC)) (tS:List Zb) (tO tD:List Zc) (tL tC:Int) (hc:Zd Xs Ms 56 [.ptr 0 0,(.d (.agg [J eK,J eL,J eX,J eY,J eW,J eH,J ab,J ad,.bool ae,J af,J eC,J eo,J ea,J ep,.bool et,.sl (ek.map Ze.enc)]))] [.box [.own 1,.own 2,.own 3,(.d (J sL)),(.d (J sC))],.tree 4 4 (sS.map Zb.enc) none,.row 5 (sO.map Zc.enc) true false,.row 5 (sD.map Zc.enc) true false]=some ((.d (.bool true)),[.box [.own 4,.own 5,.own 6,(.d (J tL)),(.d (J tC))],.tree 4 4 (sS.map Zb.enc) none,.row 5 (sO.map Zc.enc) true false,.row 5 (sD.map Zc.enc) true false,.tree 4 4 (tS.map Zb.enc) none,.row 5 (tO.map Zc.enc) true false,.row 5 (tD.map Zc.enc) true false])):Zd Xs Ms 24 [(.d (.agg [.sl (sS.map Zb.enc),.sl (sO.map Zc.enc),.sl (sD.map Zc.enc),J sL,J sC])),(.d (.agg [J eK,J eL,J eX,J eY,J eW,J eH,J ab,J ad,.bool ae,J af,J eC,J eo,J ea,J ep,.bool et,.sl (ek.map Ze.enc)]))] []=some (shT (Y0 (some ⟨tS,tO,tD,tL,tC⟩))):=by
 have e1:=Z7 sS sO sD sL sC;rw[Kh hv] at e1;have e2:=V4 sS sO sD sL sC (ZdW hv);have e3:=Z7 tS tO tD tL tC;unfold Y0;by_cases aa:ZK ⟨tS,tO,tD,tL,tC⟩
 ·rw[Kh aa] at e3;simp only[Kg aa];unfold shT;refine cE ?_;simp +contextual -implicitDefEqProofs (maxSteps:=10^7) only[go_sem,seval,Z9,e1,e2,hc,e3]
 ·rw[Kj aa] at e3;simp only[Kd aa];unfold shT;refine cE ?_;simp +contextual -implicitDefEqProofs (maxSteps:=10^7) only[go_sem,seval,Z9,e1,e2,hc,e3]
theorem Zcd (sS:List Zb) (sO sD:List Zc) (sL sC:Int) (eK eL eX eY eW eH aa ab:Int) (ad:Bool) (ae eC eo ea ep:Int) (et:Bool) (ek:List Ze):Zd Xs Ms 24 [(.d (.agg [.sl (sS.map Zb.enc),.sl (sO.map Zc.enc),.sl (sD.map Zc.enc),J sL,J sC])),(.d (.agg [J eK,J eL,J eX,J eY,J eW,J eH,J aa,J ab,.bool ad,J ae,J eC,J eo,J ea,J ep,.bool et,.sl (ek.map Ze.enc)]))] []=some (shT (if ZK (Zq.mk sS sO sD sL sC) then Qt (Zq.mk sS sO sD sL sC) (Zn.mk eK eL (Box.mk eX eY eW eH) (Zc.mk (Pane.mk aa ab ad ae) eC) (Ze.mk eo ea ep et ek)) else none)):=by
 by_cases hv:ZK (Zq.mk sS sO sD sL sC)
 ·rw[Kg hv];have af:sS.length≤100000:=by have:=hv.1.1;simp only at this;omega
  by_cases k0:eK=0
  ·by_cases hr:(VC ⟨eL,eW,eH,[]⟩ sS∧eX=0)∧eY=0
   ·have ee:Qt (Zq.mk sS sO sD sL sC) (Zn.mk eK eL (Box.mk eX eY eW eH) (Zc.mk (Pane.mk aa ab ad ae) eC) (Ze.mk eo ea ep et ek))=Y0 (some (Zq.mk (QC ⟨eL,eW,eH,[]⟩ sS) sO sD sL (sC+eW*eH))):=by unfold Qt evS;simp only[k0,hr,Km,and_self]
    rw[ee];exact Zh9 sS sO sD sL sC eK eL eX eY eW eH aa ab ad ae eC eo ea ep et ek hv _ sO sD _ _ (ZpL sS sO sD sL sC eK eL eX eY eW eH aa ab ad ae eC eo ea ep et ek hv k0 hr.1.1 hr.1.2 hr.2)
   ·have ee:Qt (Zq.mk sS sO sD sL sC) (Zn.mk eK eL (Box.mk eX eY eW eH) (Zc.mk (Pane.mk aa ab ad ae) eC) (Ze.mk eo ea ep et ek))=none:=by unfold Qt evS;simp only[k0,Km];rw[Kd hr];rfl
    rw[ee];exact Yb sS sO sD sL sC eK eL eX eY eW eH aa ab ad ae eC eo ea ep et ek hv (ZpM sS sO sD sL sC eK eL eX eY eW eH aa ab ad ae eC eo ea ep et ek hv k0 af hr)
  ·by_cases k1:eK=1
   ·by_cases hf:QB 0 sS eL<0
    ·have ee:Qt (Zq.mk sS sO sD sL sC) (Zn.mk eK eL (Box.mk eX eY eW eH) (Zc.mk (Pane.mk aa ab ad ae) eC) (Ze.mk eo ea ep et ek))=none:=by unfold Qt evS;simp[k1,Zgp hf,Y0]
     rw[ee];exact Yb sS sO sD sL sC eK eL eX eY eW eH aa ab ad ae eC eo ea ep et ek hv (ZpO sS sO sD sL sC eK eL eX eY eW eH aa ab ad ae eC eo ea ep et ek hv k1 af hf)
    ·obtain⟨a,x,ha,hx⟩:=ZbV (by omega:0≤QB 0 sS eL);have ag:=(ZW hv.1.2 x (Kc hx)).1;obtain⟨xL,xW,xH,xF⟩:=x;simp only at ag;rw[ZDD hv k1 ha hx];exact ZpV sS sO sD sL sC eK eL eX eY eW eH aa ab ad ae eC eo ea ep et ek hv _ sO sD _ _ (ZpN sS sO sD sL sC eK eL eX eY eW eH aa ab ad ae eC eo ea ep et ek hv k1 af a ha xL xW xH xF hx (by omega))
   ·by_cases k5:eK=5
    ·by_cases hf:QB 0 sS eL<0
     ·have ee:Qt (Zq.mk sS sO sD sL sC) (Zn.mk eK eL (Box.mk eX eY eW eH) (Zc.mk (Pane.mk aa ab ad ae) eC) (Ze.mk eo ea ep et ek))=none:=by unfold Qt evS;simp[k5,Zgp hf,Y0]
      rw[ee];exact Yb sS sO sD sL sC eK eL eX eY eW eH aa ab ad ae eC eo ea ep et ek hv (ZpU sS sO sD sL sC eK eL eX eY eW eH aa ab ad ae eC eo ea ep et ek hv k5 hf)
     ·obtain⟨a,x,ha,hx⟩:=ZbV (by omega:0≤QB 0 sS eL);obtain⟨xL,xW,xH,xF⟩:=x;have ee:Qt (Zq.mk sS sO sD sL sC) (Zn.mk eK eL (Box.mk eX eY eW eH) (Zc.mk (Pane.mk aa ab ad ae) eC) (Ze.mk eo ea ep et ek))=Y0 (some (Zq.mk (sS.eraseIdx a) sO sD (sL+xW*xH) sC)):=by unfold Qt evS;simp[k5,ZdB ha hx]
      rw[ee];exact Zh9 sS sO sD sL sC eK eL eX eY eW eH aa ab ad ae eC eo ea ep et ek hv _ sO sD _ _ (ZpT sS sO sD sL sC eK eL eX eY eW eH aa ab ad ae eC eo ea ep et ek hv k5 a ha xL xW xH xF hx)
    ·by_cases k2:eK=2
     ·by_cases hl:VT ⟨⟨aa,ab,ad,ae⟩,eC⟩
      ·have ee:Qt (Zq.mk sS sO sD sL sC) (Zn.mk eK eL (Box.mk eX eY eW eH) (Zc.mk (Pane.mk aa ab ad ae) eC) (Ze.mk eo ea ep et ek))=Y0 (some (Zq.mk sS (YB ⟨aa,ab,ad,ae⟩ eC sO) sD sL sC)):=by unfold Qt evS;simp[k2,hl]
       rw[ee];exact ZpW sS sO sD sL sC eK eL eX eY eW eH aa ab ad ae eC eo ea ep et ek hv sS _ sD _ _ (ZpP sS sO sD sL sC eK eL eX eY eW eH aa ab ad ae eC eo ea ep et ek hv k2 hl)
      ·have ee:Qt (Zq.mk sS sO sD sL sC) (Zn.mk eK eL (Box.mk eX eY eW eH) (Zc.mk (Pane.mk aa ab ad ae) eC) (Ze.mk eo ea ep et ek))=none:=by unfold Qt evS;simp[k2,hl,Y0]
       rw[ee];exact Yb sS sO sD sL sC eK eL eX eY eW eH aa ab ad ae eC eo ea ep et ek hv (ZpQ sS sO sD sL sC eK eL eX eY eW eH aa ab ad ae eC eo ea ep et ek hv k2 hl)
     ·by_cases k4:eK=4
      ·by_cases hl:VT ⟨⟨aa,ab,ad,ae⟩,eC⟩∧Xr ⟨aa,ab,ad,ae⟩ eC false sD=true
       ·have ee:Qt (Zq.mk sS sO sD sL sC) (Zn.mk eK eL (Box.mk eX eY eW eH) (Zc.mk (Pane.mk aa ab ad ae) eC) (Ze.mk eo ea ep et ek))=Y0 (some (Zq.mk sS (YB ⟨aa,ab,ad,ae⟩ eC sO) (XY sD ⟨aa,ab,ad,ae⟩ eC) (sL+eC*aa*ab) sC)):=by unfold Qt evS;simp[k4,hl]
        rw[ee];exact ZpX sS sO sD sL sC eK eL eX eY eW eH aa ab ad ae eC eo ea ep et ek hv sS _ _ _ _ (ZpR sS sO sD sL sC eK eL eX eY eW eH aa ab ad ae eC eo ea ep et ek hv k4 hl.1 hl.2)
       ·have ee:Qt (Zq.mk sS sO sD sL sC) (Zn.mk eK eL (Box.mk eX eY eW eH) (Zc.mk (Pane.mk aa ab ad ae) eC) (Ze.mk eo ea ep et ek))=none:=by unfold Qt evS;simp only[k4];simp[hl,Y0]
        rw[ee];exact Yb sS sO sD sL sC eK eL eX eY eW eH aa ab ad ae eC eo ea ep et ek hv (ZpS sS sO sD sL sC eK eL eX eY eW eH aa ab ad ae eC eo ea ep et ek hv k4 hl)
      ·by_cases k3:eK=3
       ·have hc:=Zrf sS sO sD sL sC eK eL eX eY eW eH aa ab ad ae eC eo ea ep et ek hv k3;have ee:Qt (Zq.mk sS sO sD sL sC) (Zn.mk eK eL (Box.mk eX eY eW eH) (Zc.mk (Pane.mk aa ab ad ae) eC) (Ze.mk eo ea ep et ek))=Y0 (ZeG (Zq.mk sS sO sD sL sC) (Zn.mk eK eL (Box.mk eX eY eW eH) (Zc.mk (Pane.mk aa ab ad ae) eC) (Ze.mk eo ea ep et ek))):=by unfold Qt evS;simp[k3]
        rw[ee];generalize ZeG (Zq.mk sS sO sD sL sC) (Zn.mk eK eL (Box.mk eX eY eW eH) (Zc.mk (Pane.mk aa ab ad ae) eC) (Ze.mk eo ea ep et ek))=t at hc;cases t with
        | none=>exact Yb sS sO sD sL sC eK eL eX eY eW eH aa ab ad ae eC eo ea ep et ek hv hc
        | some t=>
         obtain⟨a,b,c,d,f⟩:=t;exact ZpY sS sO sD sL sC eK eL eX eY eW eH aa ab ad ae eC eo ea ep et ek hv a b c d f hc
       ·have ee:Qt (Zq.mk sS sO sD sL sC) (Zn.mk eK eL (Box.mk eX eY eW eH) (Zc.mk (Pane.mk aa ab ad ae) eC) (Ze.mk eo ea ep et ek))=none:=by unfold Qt evS;simp[k0,k1,k2,k3,k4,k5,Y0]
        rw[ee];exact Yb sS sO sD sL sC eK eL eX eY eW eH aa ab ad ae eC eo ea ep et ek hv (Zrg sS sO sD sL sC eK eL eX eY eW eH aa ab ad ae eC eo ea ep et ek k0 k1 k2 k3 k4 k5)
 ·rw[Kd hv];exact Zny sS sO sD sL sC eK eL eX eY eW eH aa ab ad ae eC eo ea ep et ek hv
end Go.Proofs.YtfnegoimdljanaaGreatDoor
