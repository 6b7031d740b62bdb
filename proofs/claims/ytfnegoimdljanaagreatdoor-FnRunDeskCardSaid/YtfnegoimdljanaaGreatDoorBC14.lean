import Derived.Test.YtfnegoimdljanaaGreatDoorBC8
import Derived.Test.YtfnegoimdljanaaGreatDoorBC11
set_option linter.unusedSimpArgs false
set_option linter.unusedVariables false
namespace Go.Proofs.YtfnegoimdljanaaGreatDoor
open Go Go.Abs Go.Abs.E Go.Abs.L
set_option maxRecDepth 20000
set_option maxHeartbeats 4000000
theorem ZxO (kW kH:Int) (kP:List Pane) (p:Ze) (hv:Va (Zv.mk kW kH kP) p=true):v_ 156 [(.d (.agg [J kW,J kH,.sl (kP.map Pane.enc)])),.d p.enc] []=some (.own 0,[.row 1 ((Zbq (Zv.mk kW kH kP) p).map XA) true false]):=by
 have ev:=Ju kW kH kP p;rw[hv] at ev;have e:=Zd4 kW kH kP p;obtain⟨b,hb,ai,ae,aj,aa,ab⟩:=QU hv;simp only at aa ab;have af:=ZaS (x:=0) (y:=0) aa;have an:kP.length≤24:=ae.2.2.2.2.1;have ak:(plc b 0 0 kW kH).length≤255:=by
  have:=Ks Xd (Qx (Zv.mk kW kH kP) p);rw[ab,Jp,YF] at this;omega
 unfold Zbq;rw[ab,YF] at e ⊢;generalize plc b 0 0 kW kH=L at e af ak ⊢;have al:(kP.length:Int)*((8:Nat):Int)≤((140737488355328:Nat):Int)∧kP.length≤140737488355328:=o_
 have ad:(kP.length:Int)*8≤140737488355328∧(kP.length:Int)≤140737488355328:=o_
 clear hv hb ai ae ab aa;obtain⟨o,a,q,t,ks⟩:=p;rw[Ze.enc_mk] at e ev ⊢;refine cE ?_;simp (maxSteps:=9^7) +contextual -implicitDefEqProofs only[go_sem,seval,Zta,ev,e,rep_int,al,ad];refine LO (α:=Nat×List Int) (fun s=>[(20,.d (J (s.1:Int)))]) (fun s=>[(1,.row 1 (s.2.map XA) true false)]) (fun s=>s.1≤L.length∧s.2.length=kP.length∧(∀ v∈s.2,0≤v∧v≤s.1)∧Uk s.2 (L.drop s.1)=Uk (List.replicate kP.length 0) L) (fun s=>L.length-s.1) (0,List.replicate kP.length 0) ⟨by simp,by simp,fun w hw=>by rw[Kaf hw];omega,by simp⟩ ?_;intro⟨i,u⟩ ⟨hi,hul,huv,hp⟩ ih;simp only at hi hul huv hp;by_cases ag:i<L.length
 ·obtain⟨x,hx⟩:=Zn ag;have hw:=Zg (k:=i) o_;obtain⟨n,hn,am⟩:=af x (Kb hx);rw[ZsY hx,hn] at hp;obtain⟨q',t',⟨X,Y,W,H⟩⟩:=x;simp only at hn;subst hn;have ah:n<u.length:=o_
  obtain⟨z,hz⟩:=Zn ah;have ao:=huv z (Kb hz);have u1:=wi (z+1) o_ o_;rw[Kz,hz] at hp;simp (maxSteps:=9^7) +contextual -implicitDefEqProofs only[go_sem,seval,hx,ag,hw,am,ah,hz,u1,Zql,hul];refine ih (i+1,u.set n (z+1)) _ ⟨p_,by simpa using hul,fun v hv=>?_,hp⟩ p_ ?_
  ·simp only;rcases Ly hv with h1 | rfl
   ·have:=huv v h1;omega
   ·omega
  ·simp (maxSteps:=9^7) +contextual -implicitDefEqProofs only[go_sem,seval,List.headD_cons,Zql]
 ·have:i=L.length:=o_
  subst this;rw[Zvh] at hp;simp (maxSteps:=9^7) +contextual -implicitDefEqProofs only[go_sem,seval,hp]
theorem Ze5:∀ (b:BT) (x y w h:Int),Zla b=false↔plc b x y w h=[]
 | .waste,x,y,w,h=>by simp[Zla,plc]
 | .pane i t,x,y,w,h=>by simp[Zla,plc]
 | .cut d a l r,x,y,w,h=>by
  cases d
  ·simp only[Zla,plc,Kar,Ka,Kn,Kaj,Ze5 l x y w a,Ze5 r x (y+a) w (h-a)]
  ·simp only[Zla,plc,Kar,Km,Kaj,Ze5 l x y a h,Ze5 r (x+a) y (w-a) h]
theorem Zsa:∀ (l:List L.Place) (u:List Int) (i:Nat) (v:Int),u[i]?=some v→∃ z,(Uk u l)[i]?=some z∧v≤z
 | [],u,i,v,h=>⟨v,h,Kai _⟩
 | x :: l,u,i,v,h=>by
  rw[Uk];by_cases hi:x.Pane.toNat=i
  ·obtain⟨z,h1,h2⟩:=Zsa l (u.set x.Pane.toNat (u[x.Pane.toNat]?.getD 0+1)) i (v+1) (by
    rw[hi,h,LJ];have:=(Kc.1 h).1;simp[this])
   exact⟨z,h1,o_⟩
  ·obtain⟨z,h1,h2⟩:=Zsa l (u.set x.Pane.toNat (u[x.Pane.toNat]?.getD 0+1)) i v (by
    rw[Lp hi,h])
   exact⟨z,h1,h2⟩
theorem ZCb {l:List L.Place} {u:List Int} (hl:l≠[]) (hu:∀ v∈u,0≤v) (hn:∀ c∈l,∃ n:Nat,c.Pane=(n:Int)∧n<u.length):∃ v∈Uk u l,v≠0:=by
 cases l with
 | nil=>exact absurd rfl hl
 | cons x l=>
  obtain⟨n,h1,h2⟩:=hn x (by simp);obtain⟨v,hv⟩:=Zn h2;have h0:=hu v (Kb hv);rw[Uk,h1,Kz,hv];obtain⟨z,h3,h4⟩:=Zsa l (u.set n (v+1)) n (v+1) (by rw[LJ];simp[h2]);refine⟨z,Kb (by simpa using h3),o_⟩
theorem ZuS {k:Zv} {p:Ze} (hv:Va k p=true) (hp:ZtQ p=true):∃ v∈Zbq k p,v≠0:=by
 obtain⟨b,hb,ae,af,ab,aa,ad⟩:=QU hv;unfold ZtQ at hp;rw[hb] at hp;simp only at hp;unfold Zbq;rw[ad,YF];refine ZCb (fun h=>?_) (fun v hv=>by rw[Kaf hv];omega) (fun c hc=>?_)
 ·rw[(Ze5 b _ _ _ _).2 h] at hp;cases hp
 ·obtain⟨n,h1,h2⟩:=ZaS aa c hc;exact⟨n,h1,by simpa using h2⟩
theorem ZzH {k:Zv} {p:Ze} (hv:Va k p=true):(((Qx k p).filterMap Xd).length=0)↔ZtQ p=false:=by
 obtain⟨b,hb,ae,af,aa,ab,ad⟩:=QU hv;unfold ZtQ;rw[hb,ad,YF,List.length_eq_zero_iff];exact(Ze5 b _ _ _ _).symm
def cpV (S:List Zb) (O D:List Zc) (L C:Int):Option Zo→AV×List Zm
 | some t=>((.d (.bool true)),[.box [.own 4,.own 5,.own 6,(.d (J (t.Lost))),(.d (J (t.Came)))],.tree 4 4 (S.map Zb.enc) none,.row 5 (O.map Zc.enc) true false,.row 5 (D.map Zc.enc) true false,.tree 4 4 (t.Stock.map Zb.enc) none,.row 5 (t.Opn.map Zc.enc) true false,.row 5 (t.Done.map Zc.enc) true false])
 | none=>((.d (.bool false)),[.box [.own 1,.own 2,.own 3,(.d (J L)),(.d (J C))],.tree 4 4 (S.map Zb.enc) none,.row 5 (O.map Zc.enc) true false,.row 5 (D.map Zc.enc) true false])
theorem Ztt (sS:List Zb) (sO sD:List Zc) (sL sC:Int) (eK eL eX eY eW eH ag ah:Int) (ai:Bool) (aj eC eo ea ep:Int) (et:Bool) (ek:List Ze) (hv:ZI (Zo.mk sS sO sD sL sC)):v_ 108 [.ptr 0 0,(.d (.agg [J eK,J eL,J eX,J eY,J eW,J eH,J ag,J ah,.bool ai,J aj,J eC,J eo,J ea,J ep,.bool et,.sl (ek.map Ze.enc)]))] [.box [.own 1,.own 2,.own 3,(.d (J sL)),(.d (J sC))],.tree 4 4 (sS.map Zb.enc) none,.row 5 (sO.map Zc.enc) true false,.row 5 (sD.map Zc.enc) true false]=some (cpV sS sO sD sL sC (Zdj (Zo.mk sS sO sD sL sC) (Zl.mk eK eL (Box.mk eX eY eW eH) (Zc.mk (Pane.mk ag ah ai aj) eC) (Ze.mk eo ea ep et ek)))):=by
 obtain⟨⟨h1,h2,h3,h4⟩,h5,h6,h7,h8,h9⟩:=ZjD hv;simp only at h1 h2 h3 h4 h5 h6 h7 h8 h9;have hO:=hv.2.1;have hD:=hv.2.2.1;simp only at hO hD;have ay:=hO.1;have a3:=hD.1;have e1:=ZmR sS sO sD sL sC eL;unfold ZBa at e1;rw[Kg hv] at e1;by_cases hf:QD 0 sS eL<0
 ·have ec:Zdj (Zo.mk sS sO sD sL sC) (Zl.mk eK eL (Box.mk eX eY eW eH) (Zc.mk (Pane.mk ag ah ai aj) eC) (Ze.mk eo ea ep et ek))=none:=by
   unfold Zdj;simp only;split
   ·rfl
   ·rw[Zvl hf]
  rw[ec];simp only[Zfm hf] at e1;unfold wkV at e1;simp only at e1;unfold cpV;refine cE ?_;simp (maxSteps:=9^7) +contextual -implicitDefEqProofs only[go_sem,seval,JP,e1]
 ·obtain⟨a,x,ha,hx⟩:=ZaR (by omega:0≤QD 0 sS eL);simp only[ZbY ha hx] at e1;unfold wkV at e1;simp only at e1;have e3:=ZtK sS eL x.W x.H (sO.map Zc.Pane) (.mk eo ea ep et ek) 5;have av:Zdj (Zo.mk sS sO sD sL sC) (Zl.mk eK eL (Box.mk eX eY eW eH) (Zc.mk (Pane.mk ag ah ai aj) eC) (Ze.mk eo ea ep et ek))=match ZaQ sS eL ⟨x.W,x.H,sO.map Zc.Pane⟩ (.mk eo ea ep et ek) 5 with
   | none=>none
   | some R=>if ZtQ (.mk eo ea ep et ek)=true then
     match Ve (sO.map Zc.Pane) (Zbq ⟨x.W,x.H,sO.map Zc.Pane⟩ (.mk eo ea ep et ek)) sO sD with
     | none=>none
     | some (o,d)=>some ⟨R,o,d,sL+Yb (Zdz ⟨x.W,x.H,sO.map Zc.Pane⟩ (.mk eo ea ep et ek) 5),sC⟩
    else none:=by
   unfold Zdj;simp only[ha,Kz,hx];try rfl
  rw[av];clear av;obtain⟨xL,xW,xH,xF⟩:=x;simp only at e1 e3 ⊢;cases hcs:ZaQ sS eL ⟨xW,xH,sO.map Zc.Pane⟩ (.mk eo ea ep et ek) 5 with
  | none=>
   rw[hcs] at e3;unfold Zwv at e3;simp only;unfold cpV;rw[Ze.enc_mk] at e3;refine cE ?_;simp (maxSteps:=9^7) +contextual -implicitDefEqProofs only[go_sem,seval,JP,e1,e3]
  | some R=>
   obtain⟨ab,a4,_⟩:=ZmN hcs;rw[hcs] at e3;unfold Zwv at e3;simp only;have e4:=Zd4 xW xH (sO.map Zc.Pane) (.mk eo ea ep et ek);have ad:=ZzH ab;have e5:=ZtE xW xH (sO.map Zc.Pane) (.mk eo ea ep et ek) 5 ab o_ o_;have e6:=ZxO xW xH (sO.map Zc.Pane) (.mk eo ea ep et ek) ab;have hu:=ZdF ab;obtain⟨b,hb,a5,a6,ap,az,a0⟩:=QU ab;have a1:=Ze4 (l:=Zdz ⟨xW,xH,sO.map Zc.Pane⟩ (.mk eo ea ep et ek) 5) (fun c hc=>by
    obtain⟨z,hz,ak⟩:=Lw.1 hc;unfold Ug at ak;split at ak
    ·cases ak;exact ZbT ab c hz
    ·cases ak)
   have a7:(Zdz ⟨xW,xH,sO.map Zc.Pane⟩ (.mk eo ea ep et ek) 5).length≤255:=by
    refine Ky (Ks _ _) (Ky (Ks _ _) ?_);rw[a0,Jp];exact ap
   have aw:=ZuS ab;generalize Yb (Zdz ⟨xW,xH,sO.map Zc.Pane⟩ (.mk eo ea ep et ek) 5)=A at e5 a1 ⊢;generalize Zbq ⟨xW,xH,sO.map Zc.Pane⟩ (.mk eo ea ep et ek)=us at e6 hu aw ⊢;generalize (Qx ⟨xW,xH,sO.map Zc.Pane⟩ (.mk eo ea ep et ek)).filterMap Xd=pl at e4 ad;rw[Ze.enc_mk] at e3 e4 e5 e6;simp only[KG] at hu;have u1:=wi (sL+A) o_ o_;cases hhb:ZtQ (.mk eo ea ep et ek) with
   | false=>
    have aq:((pl.length:Int)=0):=by have:=ad.2 hhb;omega
    rw[Kd (by simp)];unfold cpV;refine cE ?_;simp (maxSteps:=9^7) +contextual -implicitDefEqProofs only[go_sem,seval,JP,e1,e3,e4,aq]
   | true=>
    have aq:¬((pl.length:Int)=0):=fun h=>by
     have h1:pl.length=0:=o_
     rw[ad.1 h1] at hhb;cases hhb
    obtain⟨vz,a2,ar⟩:=aw hhb;rw[Kg rfl];refine cE ?_;simp (maxSteps:=9^7) +contextual -implicitDefEqProofs only[go_sem,seval,JP,e1,e3,e4,e6,aq];refine LO (α:=Nat) (fun s=>[(65,.d (J (s:Int)))]) (fun _=>[]) (fun i=>i≤us.length∧Ve ((sO.map Zc.Pane).drop i) (us.drop i) sO sD=Ve (sO.map Zc.Pane) us sO sD∧∀ v∈us.take i,v=0) (fun i=>us.length-i) 0 ⟨o_,rfl,by simp⟩ ?_;intro i ⟨hi,hp,au⟩ ih;by_cases al:i<us.length
    ·obtain⟨c,hc⟩:=Zn al;have am:i<sO.length:=o_
     obtain⟨y,hy⟩:=Zn am;have hw:=Zg (k:=i) o_;have hcb:=hu.2 c (Kb hc);have ae:(sO.map Zc.Pane)[i]?=some y.Pane:=by rw[La,hy];rfl
     rw[Zlb ae hc] at hp;obtain⟨⟨W,H,T,K⟩,C⟩:=y;simp only at hp ae;by_cases aa:c=0
     ·rw[Kg aa] at hp;simp (maxSteps:=9^7) +contextual -implicitDefEqProofs only[go_sem,seval,al,am,hy,hc,aa,hw];refine ih (i+1) _ ⟨o_,hp,fun v hv=>?_⟩ o_ ?_
      ·rw[KB,hc,Kj] at hv;rcases hv with hv | hv
       ·exact au v hv
       ·simp at hv;omega
      ·simp (maxSteps:=9^7) +contextual -implicitDefEqProofs only[go_sem,seval]
     ·rw[Kd aa] at hp;have et:=Zax sO W H T K c o_ (Zf4 hO) (fun x hx=>by have:=(Z5 hO x hx).2;unfold R64;omega);have ea:=ZbC sD W H T K c o_ (fun x hx=>by have:=(Z5 hD x hx).2;unfold R64;omega);unfold tkV at et;by_cases af:Xr ⟨W,H,T,K⟩ c false sO=true
      ·rw[Kg af] at hp et;simp (maxSteps:=9^7) +contextual -implicitDefEqProofs only[go_sem,seval,al,am,hy,hc,aa,hw,et,ea];refine X1 Xs Ms (st0:=?st1) (α:=Nat×List Zc×List Zc) (fun s=>[(65,.d (J (s.1:Int)))]) (fun s=>[(4,.row 5 (s.2.2.map Zc.enc) true false),(5,.row 5 (s.2.1.map Zc.enc) true false)]) (fun s=>s.1≤us.length∧Ve ((sO.map Zc.Pane).drop s.1) (us.drop s.1) s.2.1 s.2.2=Ve (sO.map Zc.Pane) us sO sD∧s.2.1.length≤8∧s.2.2.length≤8+s.1∧UL s.2.1∧UL s.2.2∧(∀ x∈s.2.1,0≤x.Count∧x.Count≤24)∧(∀ x∈s.2.2,0≤x.Count∧x.Count≤24+255*s.1)) (fun s=>us.length-s.1) (i+1,XW sO ⟨W,H,T,K⟩ c,Yz ⟨W,H,T,K⟩ c sD) ?hc2 ⟨p_,hp,Ky (Ks _ _) ay,Ky (ZcI _ _ _) p_,Zr6 (Zf4 hO),ZAY (Zf4 hD) o_,Zol hcb.1 (fun x hx=>(Z5 hO x hx).2.2),fun x hx=>by
        have:=ZmM (hi:=24) hcb.1 o_ (fun x hx=>by have:=(Z5 hD x hx).2;omega) x hx;simp only;omega⟩ ?h02 ?step2
       case hc2=>simp (maxSteps:=9^7) +contextual -implicitDefEqProofs only[go_sem,seval]<;>exact rfl
       case h02=>rfl
       case step2=>
        intro⟨j,o,d⟩ ⟨hj,hp,ho8,hd8,uo,ud,hoc,hdc⟩ ih;simp only at hj hp ho8 hd8 uo ud hoc hdc;by_cases an:j<us.length
        ·obtain⟨c,hc⟩:=Zn an;have ao:j<sO.length:=o_
         obtain⟨y,hy⟩:=Zn ao;have hw:=Zg (k:=j) o_;have hcb:=hu.2 c (Kb hc);have ae:(sO.map Zc.Pane)[j]?=some y.Pane:=by rw[La,hy];rfl
         rw[Zlb ae hc] at hp;obtain⟨⟨W,H,T,K⟩,C⟩:=y;simp only at hp ae;by_cases aa:c=0
         ·rw[Kg aa] at hp;simp (maxSteps:=9^7) +contextual -implicitDefEqProofs only[go_sem,seval,an,ao,hy,hc,aa,hw];refine ih (j+1,o,d) _ ⟨p_,hp,ho8,p_,uo,ud,hoc,fun x hx=>by have:=hdc x hx;simp only;omega⟩ p_ ?_;simp (maxSteps:=9^7) +contextual -implicitDefEqProofs only[go_sem,seval]
         ·rw[Kd aa] at hp;have et:=Zax o W H T K c o_ uo (fun x hx=>by have:=hoc x hx;unfold R64;omega);have ea:=ZbC d W H T K c o_ (fun x hx=>by have:=hdc x hx;unfold R64;omega);unfold tkV at et;by_cases af:Xr ⟨W,H,T,K⟩ c false o=true
          ·rw[Kg af] at hp et;simp (maxSteps:=9^7) +contextual -implicitDefEqProofs only[go_sem,seval,an,ao,hy,hc,aa,hw,et,ea];refine ih (j+1,XW o ⟨W,H,T,K⟩ c,Yz ⟨W,H,T,K⟩ c d) _ ⟨p_,hp,Ky (Ks _ _) ho8,Ky (ZcI _ _ _) p_,Zr6 uo,ZAY ud o_,Zol hcb.1 (fun x hx=>(hoc x hx).2),fun x hx=>?_⟩ p_ ?_
           ·have:=ZmM hcb.1 o_ hdc x hx;simp only;omega
           ·simp (maxSteps:=9^7) +contextual -implicitDefEqProofs only[go_sem,seval]
          ·rw[Kd af] at hp et;simp (maxSteps:=9^7) +contextual -implicitDefEqProofs only[go_sem,seval,an,ao,hy,hc,aa,hw,et];rw[← hp];rfl
        ·have:j=sO.length:=o_
         subst this;have ax:=@Zvk (sO.map Zc.Pane) (us.drop sO.length) o d;rw[KG] at ax;rw[ax] at hp;rw[← hp];unfold cpV;simp (maxSteps:=9^7) +contextual -implicitDefEqProofs only[go_sem,seval,e5,u1]
      ·rw[Kd af] at hp et;simp (maxSteps:=9^7) +contextual -implicitDefEqProofs only[go_sem,seval,al,am,hy,hc,aa,hw,et];rw[← hp];rfl
    ·have:us.take i=us:=KH o_;rw[this] at au;exact absurd (au vz a2) ar
end Go.Proofs.YtfnegoimdljanaaGreatDoor
namespace Go.Proofs.YtfnegoimdljanaaGreatDoor
open Go Go.Abs Go.Abs.E Go.Abs.L
set_option maxRecDepth 20000
set_option maxHeartbeats 4000000
theorem ZuT {q x:Zb}:∀ {l:List Zb} {b:Int} {a:Nat},XJ b l→l[a]?=some x→q.Label=x.Label→QF q (l.eraseIdx a)=l.set a q
 | [],b,a,_,h,_=>by simp at h
 | y :: l,b,0,hs,h,e=>by
  simp only[KX,Option.some.injEq] at h;subst h;simp only[List.eraseIdx_cons_zero,KaC];cases l with
  | nil=>rfl
  | cons z l=>
   have:=hs.2.2.2.1;unfold QF;rw[Kg o_]
 | y :: l,b,a+1,hs,h,e=>by
  simp only[KY] at h;have ih:=ZuT hs.2.2 h e;have:=Zjv hs.2.2 x (Kb h);simp only[List.eraseIdx_cons_succ,Kak];unfold QF;rw[Kd o_,ih]
theorem ZCc {s:Zo} {e:Zl} {a:Nat} {q:Zb} (hv:ZI s) (hk:e.kind=1) (ha:QD 0 s.Stock e.label=(a:Int)) (hx:s.Stock[a]?=some q) :
  Qs s e=YW (some { s with Stock:=s.Stock.set a { q with Flaws:=q.Flaws++[e.box] } }):=by
 have h1:=ZuT (q := { q with Flaws:=q.Flaws++[e.box] }) hv.1.2 hx rfl;have h2:XJ 0 (s.Stock.eraseIdx a):=Zig a hv.1.2;unfold Qs evS;rw[Kd o_,Kg hk];simp only[ZbY ha hx];by_cases hr:Vy { q with Flaws:=q.Flaws++[e.box] } (s.Stock.eraseIdx a)
 ·rw[Kg hr,h1]
 ·rw[Kd hr];unfold YW;simp only;rw[Kd];intro hs;refine hr ⟨⟨⟨?_,h2⟩,?_⟩,?_⟩
  ·have:=hv.1.1;rw[List.length_eraseIdx];split<;>omega
  ·exact ZW hs.1.2 _ (Kb (i:=a) (by rw[LJ];simp[(Kc.1 hx).1]))
  ·rw[h1];exact hs.1
theorem ZpC (sS:List Zb) (sO sD:List Zc) (sL sC:Int) (eK eL eX eY eW eH aa ab:Int) (ad:Bool) (ae eC eo ea ep:Int) (et:Bool) (ek:List Ze) (hv:ZI (Zo.mk sS sO sD sL sC)) (h0:eK=0) (ha:Vy ⟨eL,eW,eH,[]⟩ sS) (hx:eX=0) (hy:eY=0):v_ 56 [.ptr 0 0,(.d (.agg [J eK,J eL,J eX,J eY,J eW,J eH,J aa,J ab,.bool ad,J ae,J eC,J eo,J ea,J ep,.bool et,.sl (ek.map Ze.enc)]))] [.box [.own 1,.own 2,.own 3,(.d (J sL)),(.d (J sC))],.tree 4 4 (sS.map Zb.enc) none,.row 5 (sO.map Zc.enc) true false,.row 5 (sD.map Zc.enc) true false]=some ((.d (.bool true)),[.box [.own 4,.own 2,.own 3,(.d (J sL)),(.d (J (sC+eW*eH)))],.tree 4 4 (sS.map Zb.enc) none,.row 5 (sO.map Zc.enc) true false,.row 5 (sD.map Zc.enc) true false,.tree 4 4 ((QF ⟨eL,eW,eH,[]⟩ sS).map Zb.enc) none]):=by
 have e1:=Zr9 sS sO sD sL sC eK eL eX eY eW eH aa ab ad ae eC eo ea ep et ek hv ha hx hy;subst h0;generalize QF ⟨eL,eW,eH,[]⟩ sS=Q at *;refine cE ?_;simp (maxSteps:=9^7) +contextual -implicitDefEqProofs only[go_sem,seval,Qa,e1]
theorem ZpD (sS:List Zb) (sO sD:List Zc) (sL sC:Int) (eK eL eX eY eW eH aa ab:Int) (ad:Bool) (ae eC eo ea ep:Int) (et:Bool) (ek:List Ze) (hv:ZI (Zo.mk sS sO sD sL sC)) (h0:eK=0) (hl:sS.length≤100000) (hn:¬((Vy ⟨eL,eW,eH,[]⟩ sS∧eX=0)∧eY=0)):v_ 56 [.ptr 0 0,(.d (.agg [J eK,J eL,J eX,J eY,J eW,J eH,J aa,J ab,.bool ad,J ae,J eC,J eo,J ea,J ep,.bool et,.sl (ek.map Ze.enc)]))] [.box [.own 1,.own 2,.own 3,(.d (J sL)),(.d (J sC))],.tree 4 4 (sS.map Zb.enc) none,.row 5 (sO.map Zc.enc) true false,.row 5 (sD.map Zc.enc) true false]=some ((.d (.bool false)),[.box [.own 1,.own 2,.own 3,(.d (J sL)),(.d (J sC))],.tree 4 4 (sS.map Zb.enc) none,.row 5 (sO.map Zc.enc) true false,.row 5 (sD.map Zc.enc) true false]):=by
 have e1:=Ztr sS sO sD sL sC eK eL eX eY eW eH aa ab ad ae eC eo ea ep et ek hl hn;subst h0;refine cE ?_;simp (maxSteps:=9^7) +contextual -implicitDefEqProofs only[go_sem,seval,Qa,e1]
theorem ZpE (sS:List Zb) (sO sD:List Zc) (sL sC:Int) (eK eL eX eY eW eH aa ab:Int) (ad:Bool) (ae eC eo ea ep:Int) (et:Bool) (ek:List Ze) (hv:ZI (Zo.mk sS sO sD sL sC)) (h0:eK=1) (hl:sS.length≤100000) (a:Nat) (ha:QD 0 sS eL=(a:Int)) (xL xW xH:Int) (xF:List Box) (hx:sS[a]?=some (Zb.mk xL xW xH xF)) (hF:xF.length≤1000):v_ 56 [.ptr 0 0,(.d (.agg [J eK,J eL,J eX,J eY,J eW,J eH,J aa,J ab,.bool ad,J ae,J eC,J eo,J ea,J ep,.bool et,.sl (ek.map Ze.enc)]))] [.box [.own 1,.own 2,.own 3,(.d (J sL)),(.d (J sC))],.tree 4 4 (sS.map Zb.enc) none,.row 5 (sO.map Zc.enc) true false,.row 5 (sD.map Zc.enc) true false]=some ((.d (.bool true)),[.box [.own 1,.own 2,.own 3,(.d (J sL)),(.d (J sC))],.tree 4 4 ((sS.set a ⟨xL,xW,xH,xF++[⟨eX,eY,eW,eH⟩]⟩).map Zb.enc) none,.row 5 (sO.map Zc.enc) true false,.row 5 (sD.map Zc.enc) true false]):=by
 have e1:=Zts sS sO sD sL sC eK eL eX eY eW eH aa ab ad ae eC eo ea ep et ek hl a ha xL xW xH xF hx hF;subst h0;generalize sS.set a ⟨xL,xW,xH,xF++[⟨eX,eY,eW,eH⟩]⟩=Q at *;refine cE ?_;simp (maxSteps:=9^7) +contextual -implicitDefEqProofs only[go_sem,seval,Qa,e1]
theorem ZpF (sS:List Zb) (sO sD:List Zc) (sL sC:Int) (eK eL eX eY eW eH aa ab:Int) (ad:Bool) (ae eC eo ea ep:Int) (et:Bool) (ek:List Ze) (hv:ZI (Zo.mk sS sO sD sL sC)) (h0:eK=1) (hl:sS.length≤100000) (hn:QD 0 sS eL<0):v_ 56 [.ptr 0 0,(.d (.agg [J eK,J eL,J eX,J eY,J eW,J eH,J aa,J ab,.bool ad,J ae,J eC,J eo,J ea,J ep,.bool et,.sl (ek.map Ze.enc)]))] [.box [.own 1,.own 2,.own 3,(.d (J sL)),(.d (J sC))],.tree 4 4 (sS.map Zb.enc) none,.row 5 (sO.map Zc.enc) true false,.row 5 (sD.map Zc.enc) true false]=some ((.d (.bool false)),[.box [.own 1,.own 2,.own 3,(.d (J sL)),(.d (J sC))],.tree 4 4 (sS.map Zb.enc) none,.row 5 (sO.map Zc.enc) true false,.row 5 (sD.map Zc.enc) true false]):=by
 have e1:=Zwc sS sO sD sL sC eK eL eX eY eW eH aa ab ad ae eC eo ea ep et ek hl hn;subst h0;refine cE ?_;simp (maxSteps:=9^7) +contextual -implicitDefEqProofs only[go_sem,seval,Qa,e1]
theorem ZpG (sS:List Zb) (sO sD:List Zc) (sL sC:Int) (eK eL eX eY eW eH aa ab:Int) (ad:Bool) (ae eC eo ea ep:Int) (et:Bool) (ek:List Ze) (hv:ZI (Zo.mk sS sO sD sL sC)) (h0:eK=2) (hn:VL ⟨⟨aa,ab,ad,ae⟩,eC⟩):v_ 56 [.ptr 0 0,(.d (.agg [J eK,J eL,J eX,J eY,J eW,J eH,J aa,J ab,.bool ad,J ae,J eC,J eo,J ea,J ep,.bool et,.sl (ek.map Ze.enc)]))] [.box [.own 1,.own 2,.own 3,(.d (J sL)),(.d (J sC))],.tree 4 4 (sS.map Zb.enc) none,.row 5 (sO.map Zc.enc) true false,.row 5 (sD.map Zc.enc) true false]=some ((.d (.bool true)),[.box [.own 1,.own 4,.own 3,(.d (J sL)),(.d (J sC))],.tree 4 4 (sS.map Zb.enc) none,.row 5 (sO.map Zc.enc) true false,.row 5 (sD.map Zc.enc) true false,.row 5 ((Yz ⟨aa,ab,ad,ae⟩ eC sO).map Zc.enc) true false]):=by
 have e1:=ZnV sS sO sD sL sC eK eL eX eY eW eH aa ab ad ae eC eo ea ep et ek hv hn;subst h0;generalize Yz ⟨aa,ab,ad,ae⟩ eC sO=Q at *;refine cE ?_;simp (maxSteps:=9^7) +contextual -implicitDefEqProofs only[go_sem,seval,Qa,e1]
theorem ZpH (sS:List Zb) (sO sD:List Zc) (sL sC:Int) (eK eL eX eY eW eH aa ab:Int) (ad:Bool) (ae eC eo ea ep:Int) (et:Bool) (ek:List Ze) (hv:ZI (Zo.mk sS sO sD sL sC)) (h0:eK=2) (hn:¬VL ⟨⟨aa,ab,ad,ae⟩,eC⟩):v_ 56 [.ptr 0 0,(.d (.agg [J eK,J eL,J eX,J eY,J eW,J eH,J aa,J ab,.bool ad,J ae,J eC,J eo,J ea,J ep,.bool et,.sl (ek.map Ze.enc)]))] [.box [.own 1,.own 2,.own 3,(.d (J sL)),(.d (J sC))],.tree 4 4 (sS.map Zb.enc) none,.row 5 (sO.map Zc.enc) true false,.row 5 (sD.map Zc.enc) true false]=some ((.d (.bool false)),[.box [.own 1,.own 2,.own 3,(.d (J sL)),(.d (J sC))],.tree 4 4 (sS.map Zb.enc) none,.row 5 (sO.map Zc.enc) true false,.row 5 (sD.map Zc.enc) true false]):=by
 have e1:=Zpz sS sO sD sL sC eK eL eX eY eW eH aa ab ad ae eC eo ea ep et ek hn;subst h0;refine cE ?_;simp (maxSteps:=9^7) +contextual -implicitDefEqProofs only[go_sem,seval,Qa,e1]
theorem ZpI (sS:List Zb) (sO sD:List Zc) (sL sC:Int) (eK eL eX eY eW eH aa ab:Int) (ad:Bool) (ae eC eo ea ep:Int) (et:Bool) (ek:List Ze) (hv:ZI (Zo.mk sS sO sD sL sC)) (h0:eK=4) (hl:VL ⟨⟨aa,ab,ad,ae⟩,eC⟩) (hk:Xr ⟨aa,ab,ad,ae⟩ eC false sD=true):v_ 56 [.ptr 0 0,(.d (.agg [J eK,J eL,J eX,J eY,J eW,J eH,J aa,J ab,.bool ad,J ae,J eC,J eo,J ea,J ep,.bool et,.sl (ek.map Ze.enc)]))] [.box [.own 1,.own 2,.own 3,(.d (J sL)),(.d (J sC))],.tree 4 4 (sS.map Zb.enc) none,.row 5 (sO.map Zc.enc) true false,.row 5 (sD.map Zc.enc) true false]=some ((.d (.bool true)),[.box [.own 1,.own 4,.own 5,(.d (J (sL+eC*aa*ab))),(.d (J sC))],.tree 4 4 (sS.map Zb.enc) none,.row 5 (sO.map Zc.enc) true false,.row 5 (sD.map Zc.enc) true false,.row 5 ((Yz ⟨aa,ab,ad,ae⟩ eC sO).map Zc.enc) true false,.row 5 ((XW sD ⟨aa,ab,ad,ae⟩ eC).map Zc.enc) true false]):=by
 have e1:=ZnW sS sO sD sL sC eK eL eX eY eW eH aa ab ad ae eC eo ea ep et ek hv hl hk;subst h0;generalize Yz ⟨aa,ab,ad,ae⟩ eC sO=Q at *;generalize XW sD ⟨aa,ab,ad,ae⟩ eC=Q2 at *;refine cE ?_;simp (maxSteps:=9^7) +contextual -implicitDefEqProofs only[go_sem,seval,Qa,e1]
theorem ZpJ (sS:List Zb) (sO sD:List Zc) (sL sC:Int) (eK eL eX eY eW eH aa ab:Int) (ad:Bool) (ae eC eo ea ep:Int) (et:Bool) (ek:List Ze) (hv:ZI (Zo.mk sS sO sD sL sC)) (h0:eK=4) (hn:¬(VL ⟨⟨aa,ab,ad,ae⟩,eC⟩∧Xr ⟨aa,ab,ad,ae⟩ eC false sD=true)):v_ 56 [.ptr 0 0,(.d (.agg [J eK,J eL,J eX,J eY,J eW,J eH,J aa,J ab,.bool ad,J ae,J eC,J eo,J ea,J ep,.bool et,.sl (ek.map Ze.enc)]))] [.box [.own 1,.own 2,.own 3,(.d (J sL)),(.d (J sC))],.tree 4 4 (sS.map Zb.enc) none,.row 5 (sO.map Zc.enc) true false,.row 5 (sD.map Zc.enc) true false]=some ((.d (.bool false)),[.box [.own 1,.own 2,.own 3,(.d (J sL)),(.d (J sC))],.tree 4 4 (sS.map Zb.enc) none,.row 5 (sO.map Zc.enc) true false,.row 5 (sD.map Zc.enc) true false]):=by
 have e1:=ZpA sS sO sD sL sC eK eL eX eY eW eH aa ab ad ae eC eo ea ep et ek hv hn;subst h0;refine cE ?_;simp (maxSteps:=9^7) +contextual -implicitDefEqProofs only[go_sem,seval,Qa,e1]
theorem ZpK (sS:List Zb) (sO sD:List Zc) (sL sC:Int) (eK eL eX eY eW eH aa ab:Int) (ad:Bool) (ae eC eo ea ep:Int) (et:Bool) (ek:List Ze) (hv:ZI (Zo.mk sS sO sD sL sC)) (h0:eK=5) (a:Nat) (ha:QD 0 sS eL=(a:Int)) (xL xW xH:Int) (xF:List Box) (hx:sS[a]?=some (Zb.mk xL xW xH xF)):v_ 56 [.ptr 0 0,(.d (.agg [J eK,J eL,J eX,J eY,J eW,J eH,J aa,J ab,.bool ad,J ae,J eC,J eo,J ea,J ep,.bool et,.sl (ek.map Ze.enc)]))] [.box [.own 1,.own 2,.own 3,(.d (J sL)),(.d (J sC))],.tree 4 4 (sS.map Zb.enc) none,.row 5 (sO.map Zc.enc) true false,.row 5 (sD.map Zc.enc) true false]=some ((.d (.bool true)),[.box [.own 4,.own 2,.own 3,(.d (J (sL+xW*xH))),(.d (J sC))],.tree 4 4 (sS.map Zb.enc) none,.row 5 (sO.map Zc.enc) true false,.row 5 (sD.map Zc.enc) true false,.tree 4 4 ((sS.eraseIdx a).map Zb.enc) none]):=by
 have e1:=ZnX sS sO sD sL sC eK eL eX eY eW eH aa ab ad ae eC eo ea ep et ek hv a ha xL xW xH xF hx;subst h0;generalize sS.eraseIdx a=Q at *;refine cE ?_;simp (maxSteps:=9^7) +contextual -implicitDefEqProofs only[go_sem,seval,Qa,e1]
theorem ZpL (sS:List Zb) (sO sD:List Zc) (sL sC:Int) (eK eL eX eY eW eH aa ab:Int) (ad:Bool) (ae eC eo ea ep:Int) (et:Bool) (ek:List Ze) (hv:ZI (Zo.mk sS sO sD sL sC)) (h0:eK=5) (hn:QD 0 sS eL<0):v_ 56 [.ptr 0 0,(.d (.agg [J eK,J eL,J eX,J eY,J eW,J eH,J aa,J ab,.bool ad,J ae,J eC,J eo,J ea,J ep,.bool et,.sl (ek.map Ze.enc)]))] [.box [.own 1,.own 2,.own 3,(.d (J sL)),(.d (J sC))],.tree 4 4 (sS.map Zb.enc) none,.row 5 (sO.map Zc.enc) true false,.row 5 (sD.map Zc.enc) true false]=some ((.d (.bool false)),[.box [.own 1,.own 2,.own 3,(.d (J sL)),(.d (J sC))],.tree 4 4 (sS.map Zb.enc) none,.row 5 (sO.map Zc.enc) true false,.row 5 (sD.map Zc.enc) true false]):=by
 have e1:=ZpB sS sO sD sL sC eK eL eX eY eW eH aa ab ad ae eC eo ea ep et ek hn;subst h0;refine cE ?_;simp (maxSteps:=9^7) +contextual -implicitDefEqProofs only[go_sem,seval,Qa,e1]
theorem Zsb (sS:List Zb) (sO sD:List Zc) (sL sC:Int) (eK eL eX eY eW eH aa ab:Int) (ad:Bool) (ae eC eo ea ep:Int) (et:Bool) (ek:List Ze) (hv:ZI (Zo.mk sS sO sD sL sC)) (h0:eK=3):v_ 56 [.ptr 0 0,(.d (.agg [J eK,J eL,J eX,J eY,J eW,J eH,J aa,J ab,.bool ad,J ae,J eC,J eo,J ea,J ep,.bool et,.sl (ek.map Ze.enc)]))] [.box [.own 1,.own 2,.own 3,(.d (J sL)),(.d (J sC))],.tree 4 4 (sS.map Zb.enc) none,.row 5 (sO.map Zc.enc) true false,.row 5 (sD.map Zc.enc) true false]=some (cpV sS sO sD sL sC (Zdj (Zo.mk sS sO sD sL sC) (Zl.mk eK eL (Box.mk eX eY eW eH) (Zc.mk (Pane.mk aa ab ad ae) eC) (Ze.mk eo ea ep et ek)))):=by
 have e1:=Ztt sS sO sD sL sC eK eL eX eY eW eH aa ab ad ae eC eo ea ep et ek hv;subst h0;generalize Zdj (Zo.mk sS sO sD sL sC) (Zl.mk 3 eL (Box.mk eX eY eW eH) (Zc.mk (Pane.mk aa ab ad ae) eC) (Ze.mk eo ea ep et ek))=t at *;cases t with
 | none=>
  unfold cpV at e1 ⊢;refine cE ?_;simp (maxSteps:=9^7) +contextual -implicitDefEqProofs only[go_sem,seval,Qa,e1]
 | some t=>
  unfold cpV at e1 ⊢;obtain⟨a,b,c,d,f⟩:=t;simp only at e1 ⊢;refine cE ?_;simp (maxSteps:=9^7) +contextual -implicitDefEqProofs only[go_sem,seval,Qa,e1]
theorem Zsc (sS:List Zb) (sO sD:List Zc) (sL sC:Int) (eK eL eX eY eW eH aa ab:Int) (ad:Bool) (ae eC eo ea ep:Int) (et:Bool) (ek:List Ze) (h0:¬eK=0) (h1:¬eK=1) (h2:¬eK=2) (h3:¬eK=3) (h4:¬eK=4) (h5:¬eK=5):v_ 56 [.ptr 0 0,(.d (.agg [J eK,J eL,J eX,J eY,J eW,J eH,J aa,J ab,.bool ad,J ae,J eC,J eo,J ea,J ep,.bool et,.sl (ek.map Ze.enc)]))] [.box [.own 1,.own 2,.own 3,(.d (J sL)),(.d (J sC))],.tree 4 4 (sS.map Zb.enc) none,.row 5 (sO.map Zc.enc) true false,.row 5 (sD.map Zc.enc) true false]=some ((.d (.bool false)),[.box [.own 1,.own 2,.own 3,(.d (J sL)),(.d (J sC))],.tree 4 4 (sS.map Zb.enc) none,.row 5 (sO.map Zc.enc) true false,.row 5 (sD.map Zc.enc) true false]):=by
 refine cE ?_;simp (maxSteps:=9^7) +contextual -implicitDefEqProofs only[go_sem,seval,Qa,h0,h1,h2,h3,h4,h5]
def shT:Option Zo→AV×List Zm
 | some s=>(.tup [.agg [.own 0,.own 1,.own 2,(.d (J (s.Lost))),(.d (J (s.Came)))],(.d (.bool true))],[.tree 4 4 (s.Stock.map Zb.enc) none,.row 5 (s.Opn.map Zc.enc) true false,.row 5 (s.Done.map Zc.enc) true false])
 | none=>(.tup [.agg [.own 0,.own 1,.own 2,(.d (J 0)),(.d (J 0))],(.d (.bool false))],[.row 4 [] true false,.row 5 [] true false,.row 5 [] true false])
theorem ZnY (sS:List Zb) (sO sD:List Zc) (sL sC:Int) (eK eL eX eY eW eH aa ab:Int) (ad:Bool) (ae eC eo ea ep:Int) (et:Bool) (ek:List Ze) (hv:¬ZI (Zo.mk sS sO sD sL sC)):v_ 24 [(.d (.agg [.sl (sS.map Zb.enc),.sl (sO.map Zc.enc),.sl (sD.map Zc.enc),J sL,J sC])),(.d (.agg [J eK,J eL,J eX,J eY,J eW,J eH,J aa,J ab,.bool ad,J ae,J eC,J eo,J ea,J ep,.bool et,.sl (ek.map Ze.enc)]))] []=some (shT none):=by
 have e1:=Z9 sS sO sD sL sC;rw[Kk hv] at e1;unfold shT;refine cE ?_;simp (maxSteps:=9^7) +contextual -implicitDefEqProofs only[go_sem,seval,Qi,e1]
theorem X8 (sS:List Zb) (sO sD:List Zc) (sL sC:Int) (eK eL eX eY eW eH aa ab:Int) (ad:Bool) (ae eC eo ea ep:Int) (et:Bool) (ek:List Ze) (hv:ZI (Zo.mk sS sO sD sL sC)) (hc:v_ 56 [.ptr 0 0,(.d (.agg [J eK,J eL,J eX,J eY,J eW,J eH,J aa,J ab,.bool ad,J ae,J eC,J eo,J ea,J ep,.bool et,.sl (ek.map Ze.enc)]))] [.box [.own 1,.own 2,.own 3,(.d (J sL)),(.d (J sC))],.tree 4 4 (sS.map Zb.enc) none,.row 5 (sO.map Zc.enc) true false,.row 5 (sD.map Zc.enc) true false]=some ((.d (.bool false)),[.box [.own 1,.own 2,.own 3,(.d (J sL)),(.d (J sC))],.tree 4 4 (sS.map Zb.enc) none,.row 5 (sO.map Zc.enc) true false,.row 5 (sD.map Zc.enc) true false])):v_ 24 [(.d (.agg [.sl (sS.map Zb.enc),.sl (sO.map Zc.enc),.sl (sD.map Zc.enc),J sL,J sC])),(.d (.agg [J eK,J eL,J eX,J eY,J eW,J eH,J aa,J ab,.bool ad,J ae,J eC,J eo,J ea,J ep,.bool et,.sl (ek.map Ze.enc)]))] []=some (shT none):=by
 have e1:=Z9 sS sO sD sL sC;rw[Ki hv] at e1;have e2:=VR sS sO sD sL sC (ZcJ hv);unfold shT;refine cE ?_;simp (maxSteps:=9^7) +contextual -implicitDefEqProofs only[go_sem,seval,Qi,e1,e2,hc]
theorem Zg2 (sS:List Zb) (sO sD:List Zc) (sL sC:Int) (eK eL eX eY eW eH ab ad:Int) (ae:Bool) (af eC eo ea ep:Int) (et:Bool) (ek:List Ze) (hv:ZI (Zo.mk sS sO sD sL sC)) (tS:List Zb) (tO tD:List Zc) (tL tC:Int) (hc:v_ 56 [.ptr 0 0,(.d (.agg [J eK,J eL,J eX,J eY,J eW,J eH,J ab,J ad,.bool ae,J af,J eC,J eo,J ea,J ep,.bool et,.sl (ek.map Ze.enc)]))] [.box [.own 1,.own 2,.own 3,(.d (J sL)),(.d (J sC))],.tree 4 4 (sS.map Zb.enc) none,.row 5 (sO.map Zc.enc) true false,.row 5 (sD.map Zc.enc) true false]=some ((.d (.bool true)),[.box [.own 4,.own 2,.own 3,(.d (J tL)),(.d (J tC))],.tree 4 4 (sS.map Zb.enc) none,.row 5 (sO.map Zc.enc) true false,.row 5 (sD.map Zc.enc) true false,.tree 4 4 (tS.map Zb.enc) none])):v_ 24 [(.d (.agg [.sl (sS.map Zb.enc),.sl (sO.map Zc.enc),.sl (sD.map Zc.enc),J sL,J sC])),(.d (.agg [J eK,J eL,J eX,J eY,J eW,J eH,J ab,J ad,.bool ae,J af,J eC,J eo,J ea,J ep,.bool et,.sl (ek.map Ze.enc)]))] []=some (shT (YW (some ⟨tS,sO,sD,tL,tC⟩))):=by
 have e1:=Z9 sS sO sD sL sC;rw[Ki hv] at e1;have e2:=VR sS sO sD sL sC (ZcJ hv);have e3:=Z9 tS sO sD tL tC;unfold YW;by_cases aa:ZI ⟨tS,sO,sD,tL,tC⟩
 ·rw[Ki aa] at e3;simp only[Kg aa];unfold shT;refine cE ?_;simp (maxSteps:=9^7) +contextual -implicitDefEqProofs only[go_sem,seval,Qi,e1,e2,hc,e3]
 ·rw[Kk aa] at e3;simp only[Kd aa];unfold shT;refine cE ?_;simp (maxSteps:=9^7) +contextual -implicitDefEqProofs only[go_sem,seval,Qi,e1,e2,hc,e3]
theorem ZpM (sS:List Zb) (sO sD:List Zc) (sL sC:Int) (eK eL eX eY eW eH ab ad:Int) (ae:Bool) (af eC eo ea ep:Int) (et:Bool) (ek:List Ze) (hv:ZI (Zo.mk sS sO sD sL sC)) (tS:List Zb) (tO tD:List Zc) (tL tC:Int) (hc:v_ 56 [.ptr 0 0,(.d (.agg [J eK,J eL,J eX,J eY,J eW,J eH,J ab,J ad,.bool ae,J af,J eC,J eo,J ea,J ep,.bool et,.sl (ek.map Ze.enc)]))] [.box [.own 1,.own 2,.own 3,(.d (J sL)),(.d (J sC))],.tree 4 4 (sS.map Zb.enc) none,.row 5 (sO.map Zc.enc) true false,.row 5 (sD.map Zc.enc) true false]=some ((.d (.bool true)),[.box [.own 1,.own 2,.own 3,(.d (J tL)),(.d (J tC))],.tree 4 4 (tS.map Zb.enc) none,.row 5 (sO.map Zc.enc) true false,.row 5 (sD.map Zc.enc) true false])):v_ 24 [(.d (.agg [.sl (sS.map Zb.enc),.sl (sO.map Zc.enc),.sl (sD.map Zc.enc),J sL,J sC])),(.d (.agg [J eK,J eL,J eX,J eY,J eW,J eH,J ab,J ad,.bool ae,J af,J eC,J eo,J ea,J ep,.bool et,.sl (ek.map Ze.enc)]))] []=some (shT (YW (some ⟨tS,sO,sD,tL,tC⟩))):=by
 have e1:=Z9 sS sO sD sL sC;rw[Ki hv] at e1;have e2:=VR sS sO sD sL sC (ZcJ hv);have e3:=Z9 tS sO sD tL tC;unfold YW;by_cases aa:ZI ⟨tS,sO,sD,tL,tC⟩
 ·rw[Ki aa] at e3;simp only[Kg aa];unfold shT;refine cE ?_;simp (maxSteps:=9^7) +contextual -implicitDefEqProofs only[go_sem,seval,Qi,e1,e2,hc,e3]
 ·rw[Kk aa] at e3;simp only[Kd aa];unfold shT;refine cE ?_;simp (maxSteps:=9^7) +contextual -implicitDefEqProofs only[go_sem,seval,Qi,e1,e2,hc,e3]
theorem ZpN (sS:List Zb) (sO sD:List Zc) (sL sC:Int) (eK eL eX eY eW eH ab ad:Int) (ae:Bool) (af eC eo ea ep:Int) (et:Bool) (ek:List Ze) (hv:ZI (Zo.mk sS sO sD sL sC)) (tS:List Zb) (tO tD:List Zc) (tL tC:Int) (hc:v_ 56 [.ptr 0 0,(.d (.agg [J eK,J eL,J eX,J eY,J eW,J eH,J ab,J ad,.bool ae,J af,J eC,J eo,J ea,J ep,.bool et,.sl (ek.map Ze.enc)]))] [.box [.own 1,.own 2,.own 3,(.d (J sL)),(.d (J sC))],.tree 4 4 (sS.map Zb.enc) none,.row 5 (sO.map Zc.enc) true false,.row 5 (sD.map Zc.enc) true false]=some ((.d (.bool true)),[.box [.own 1,.own 4,.own 3,(.d (J tL)),(.d (J tC))],.tree 4 4 (sS.map Zb.enc) none,.row 5 (sO.map Zc.enc) true false,.row 5 (sD.map Zc.enc) true false,.row 5 (tO.map Zc.enc) true false])):v_ 24 [(.d (.agg [.sl (sS.map Zb.enc),.sl (sO.map Zc.enc),.sl (sD.map Zc.enc),J sL,J sC])),(.d (.agg [J eK,J eL,J eX,J eY,J eW,J eH,J ab,J ad,.bool ae,J af,J eC,J eo,J ea,J ep,.bool et,.sl (ek.map Ze.enc)]))] []=some (shT (YW (some ⟨sS,tO,sD,tL,tC⟩))):=by
 have e1:=Z9 sS sO sD sL sC;rw[Ki hv] at e1;have e2:=VR sS sO sD sL sC (ZcJ hv);have e3:=Z9 sS tO sD tL tC;unfold YW;by_cases aa:ZI ⟨sS,tO,sD,tL,tC⟩
 ·rw[Ki aa] at e3;simp only[Kg aa];unfold shT;refine cE ?_;simp (maxSteps:=9^7) +contextual -implicitDefEqProofs only[go_sem,seval,Qi,e1,e2,hc,e3]
 ·rw[Kk aa] at e3;simp only[Kd aa];unfold shT;refine cE ?_;simp (maxSteps:=9^7) +contextual -implicitDefEqProofs only[go_sem,seval,Qi,e1,e2,hc,e3]
theorem ZpO (sS:List Zb) (sO sD:List Zc) (sL sC:Int) (eK eL eX eY eW eH ab ad:Int) (ae:Bool) (af eC eo ea ep:Int) (et:Bool) (ek:List Ze) (hv:ZI (Zo.mk sS sO sD sL sC)) (tS:List Zb) (tO tD:List Zc) (tL tC:Int) (hc:v_ 56 [.ptr 0 0,(.d (.agg [J eK,J eL,J eX,J eY,J eW,J eH,J ab,J ad,.bool ae,J af,J eC,J eo,J ea,J ep,.bool et,.sl (ek.map Ze.enc)]))] [.box [.own 1,.own 2,.own 3,(.d (J sL)),(.d (J sC))],.tree 4 4 (sS.map Zb.enc) none,.row 5 (sO.map Zc.enc) true false,.row 5 (sD.map Zc.enc) true false]=some ((.d (.bool true)),[.box [.own 1,.own 4,.own 5,(.d (J tL)),(.d (J tC))],.tree 4 4 (sS.map Zb.enc) none,.row 5 (sO.map Zc.enc) true false,.row 5 (sD.map Zc.enc) true false,.row 5 (tO.map Zc.enc) true false,.row 5 (tD.map Zc.enc) true false])):v_ 24 [(.d (.agg [.sl (sS.map Zb.enc),.sl (sO.map Zc.enc),.sl (sD.map Zc.enc),J sL,J sC])),(.d (.agg [J eK,J eL,J eX,J eY,J eW,J eH,J ab,J ad,.bool ae,J af,J eC,J eo,J ea,J ep,.bool et,.sl (ek.map Ze.enc)]))] []=some (shT (YW (some ⟨sS,tO,tD,tL,tC⟩))):=by
 have e1:=Z9 sS sO sD sL sC;rw[Ki hv] at e1;have e2:=VR sS sO sD sL sC (ZcJ hv);have e3:=Z9 sS tO tD tL tC;unfold YW;by_cases aa:ZI ⟨sS,tO,tD,tL,tC⟩
 ·rw[Ki aa] at e3;simp only[Kg aa];unfold shT;refine cE ?_;simp (maxSteps:=9^7) +contextual -implicitDefEqProofs only[go_sem,seval,Qi,e1,e2,hc,e3]
 ·rw[Kk aa] at e3;simp only[Kd aa];unfold shT;refine cE ?_;simp (maxSteps:=9^7) +contextual -implicitDefEqProofs only[go_sem,seval,Qi,e1,e2,hc,e3]
theorem ZpP (sS:List Zb) (sO sD:List Zc) (sL sC:Int) (eK eL eX eY eW eH ab ad:Int) (ae:Bool) (af eC eo ea ep:Int) (et:Bool) (ek:List Ze) (hv:ZI (Zo.mk sS sO sD sL sC)) (tS:List Zb) (tO tD:List Zc) (tL tC:Int) (hc:v_ 56 [.ptr 0 0,(.d (.agg [J eK,J eL,J eX,J eY,J eW,J eH,J ab,J ad,.bool ae,J af,J eC,J eo,J ea,J ep,.bool et,.sl (ek.map Ze.enc)]))] [.box [.own 1,.own 2,.own 3,(.d (J sL)),(.d (J sC))],.tree 4 4 (sS.map Zb.enc) none,.row 5 (sO.map Zc.enc) true false,.row 5 (sD.map Zc.enc) true false]=some ((.d (.bool true)),[.box [.own 4,.own 5,.own 6,(.d (J tL)),(.d (J tC))],.tree 4 4 (sS.map Zb.enc) none,.row 5 (sO.map Zc.enc) true false,.row 5 (sD.map Zc.enc) true false,.tree 4 4 (tS.map Zb.enc) none,.row 5 (tO.map Zc.enc) true false,.row 5 (tD.map Zc.enc) true false])):v_ 24 [(.d (.agg [.sl (sS.map Zb.enc),.sl (sO.map Zc.enc),.sl (sD.map Zc.enc),J sL,J sC])),(.d (.agg [J eK,J eL,J eX,J eY,J eW,J eH,J ab,J ad,.bool ae,J af,J eC,J eo,J ea,J ep,.bool et,.sl (ek.map Ze.enc)]))] []=some (shT (YW (some ⟨tS,tO,tD,tL,tC⟩))):=by
 have e1:=Z9 sS sO sD sL sC;rw[Ki hv] at e1;have e2:=VR sS sO sD sL sC (ZcJ hv);have e3:=Z9 tS tO tD tL tC;unfold YW;by_cases aa:ZI ⟨tS,tO,tD,tL,tC⟩
 ·rw[Ki aa] at e3;simp only[Kg aa];unfold shT;refine cE ?_;simp (maxSteps:=9^7) +contextual -implicitDefEqProofs only[go_sem,seval,Qi,e1,e2,hc,e3]
 ·rw[Kk aa] at e3;simp only[Kd aa];unfold shT;refine cE ?_;simp (maxSteps:=9^7) +contextual -implicitDefEqProofs only[go_sem,seval,Qi,e1,e2,hc,e3]
theorem Za4 (sS:List Zb) (sO sD:List Zc) (sL sC:Int) (eK eL eX eY eW eH aa ab:Int) (ad:Bool) (ae eC eo ea ep:Int) (et:Bool) (ek:List Ze):v_ 24 [(.d (.agg [.sl (sS.map Zb.enc),.sl (sO.map Zc.enc),.sl (sD.map Zc.enc),J sL,J sC])),(.d (.agg [J eK,J eL,J eX,J eY,J eW,J eH,J aa,J ab,.bool ad,J ae,J eC,J eo,J ea,J ep,.bool et,.sl (ek.map Ze.enc)]))] []=some (shT (if ZI (Zo.mk sS sO sD sL sC) then Qs (Zo.mk sS sO sD sL sC) (Zl.mk eK eL (Box.mk eX eY eW eH) (Zc.mk (Pane.mk aa ab ad ae) eC) (Ze.mk eo ea ep et ek)) else none)):=by
 by_cases hv:ZI (Zo.mk sS sO sD sL sC)
 ·rw[Kg hv];have af:sS.length≤100000:=by have:=hv.1.1;simp only at this;omega
  by_cases k0:eK=0
  ·by_cases hr:(Vy ⟨eL,eW,eH,[]⟩ sS∧eX=0)∧eY=0
   ·have ee:Qs (Zo.mk sS sO sD sL sC) (Zl.mk eK eL (Box.mk eX eY eW eH) (Zc.mk (Pane.mk aa ab ad ae) eC) (Ze.mk eo ea ep et ek))=YW (some (Zo.mk (QF ⟨eL,eW,eH,[]⟩ sS) sO sD sL (sC+eW*eH))):=by unfold Qs evS;simp only[k0,hr,Km,and_self]
    rw[ee];exact Zg2 sS sO sD sL sC eK eL eX eY eW eH aa ab ad ae eC eo ea ep et ek hv _ sO sD _ _ (ZpC sS sO sD sL sC eK eL eX eY eW eH aa ab ad ae eC eo ea ep et ek hv k0 hr.1.1 hr.1.2 hr.2)
   ·have ee:Qs (Zo.mk sS sO sD sL sC) (Zl.mk eK eL (Box.mk eX eY eW eH) (Zc.mk (Pane.mk aa ab ad ae) eC) (Ze.mk eo ea ep et ek))=none:=by unfold Qs evS;simp only[k0,Km];rw[Kd hr];rfl
    rw[ee];exact X8 sS sO sD sL sC eK eL eX eY eW eH aa ab ad ae eC eo ea ep et ek hv (ZpD sS sO sD sL sC eK eL eX eY eW eH aa ab ad ae eC eo ea ep et ek hv k0 af hr)
  ·by_cases k1:eK=1
   ·by_cases hf:QD 0 sS eL<0
    ·have ee:Qs (Zo.mk sS sO sD sL sC) (Zl.mk eK eL (Box.mk eX eY eW eH) (Zc.mk (Pane.mk aa ab ad ae) eC) (Ze.mk eo ea ep et ek))=none:=by unfold Qs evS;simp[k1,Zfm hf,YW]
     rw[ee];exact X8 sS sO sD sL sC eK eL eX eY eW eH aa ab ad ae eC eo ea ep et ek hv (ZpF sS sO sD sL sC eK eL eX eY eW eH aa ab ad ae eC eo ea ep et ek hv k1 af hf)
    ·obtain⟨a,x,ha,hx⟩:=ZaR (by omega:0≤QD 0 sS eL);have ag:=(ZW hv.1.2 x (Kb hx)).1;obtain⟨xL,xW,xH,xF⟩:=x;simp only at ag;rw[ZCc hv k1 ha hx];exact ZpM sS sO sD sL sC eK eL eX eY eW eH aa ab ad ae eC eo ea ep et ek hv _ sO sD _ _ (ZpE sS sO sD sL sC eK eL eX eY eW eH aa ab ad ae eC eo ea ep et ek hv k1 af a ha xL xW xH xF hx o_)
   ·by_cases k5:eK=5
    ·by_cases hf:QD 0 sS eL<0
     ·have ee:Qs (Zo.mk sS sO sD sL sC) (Zl.mk eK eL (Box.mk eX eY eW eH) (Zc.mk (Pane.mk aa ab ad ae) eC) (Ze.mk eo ea ep et ek))=none:=by unfold Qs evS;simp[k5,Zfm hf,YW]
      rw[ee];exact X8 sS sO sD sL sC eK eL eX eY eW eH aa ab ad ae eC eo ea ep et ek hv (ZpL sS sO sD sL sC eK eL eX eY eW eH aa ab ad ae eC eo ea ep et ek hv k5 hf)
     ·obtain⟨a,x,ha,hx⟩:=ZaR (by omega:0≤QD 0 sS eL);obtain⟨xL,xW,xH,xF⟩:=x;have ee:Qs (Zo.mk sS sO sD sL sC) (Zl.mk eK eL (Box.mk eX eY eW eH) (Zc.mk (Pane.mk aa ab ad ae) eC) (Ze.mk eo ea ep et ek))=YW (some (Zo.mk (sS.eraseIdx a) sO sD (sL+xW*xH) sC)):=by unfold Qs evS;simp[k5,ZbY ha hx]
      rw[ee];exact Zg2 sS sO sD sL sC eK eL eX eY eW eH aa ab ad ae eC eo ea ep et ek hv _ sO sD _ _ (ZpK sS sO sD sL sC eK eL eX eY eW eH aa ab ad ae eC eo ea ep et ek hv k5 a ha xL xW xH xF hx)
    ·by_cases k2:eK=2
     ·by_cases hl:VL ⟨⟨aa,ab,ad,ae⟩,eC⟩
      ·have ee:Qs (Zo.mk sS sO sD sL sC) (Zl.mk eK eL (Box.mk eX eY eW eH) (Zc.mk (Pane.mk aa ab ad ae) eC) (Ze.mk eo ea ep et ek))=YW (some (Zo.mk sS (Yz ⟨aa,ab,ad,ae⟩ eC sO) sD sL sC)):=by unfold Qs evS;simp[k2,hl]
       rw[ee];exact ZpN sS sO sD sL sC eK eL eX eY eW eH aa ab ad ae eC eo ea ep et ek hv sS _ sD _ _ (ZpG sS sO sD sL sC eK eL eX eY eW eH aa ab ad ae eC eo ea ep et ek hv k2 hl)
      ·have ee:Qs (Zo.mk sS sO sD sL sC) (Zl.mk eK eL (Box.mk eX eY eW eH) (Zc.mk (Pane.mk aa ab ad ae) eC) (Ze.mk eo ea ep et ek))=none:=by unfold Qs evS;simp[k2,hl,YW]
       rw[ee];exact X8 sS sO sD sL sC eK eL eX eY eW eH aa ab ad ae eC eo ea ep et ek hv (ZpH sS sO sD sL sC eK eL eX eY eW eH aa ab ad ae eC eo ea ep et ek hv k2 hl)
     ·by_cases k4:eK=4
      ·by_cases hl:VL ⟨⟨aa,ab,ad,ae⟩,eC⟩∧Xr ⟨aa,ab,ad,ae⟩ eC false sD=true
       ·have ee:Qs (Zo.mk sS sO sD sL sC) (Zl.mk eK eL (Box.mk eX eY eW eH) (Zc.mk (Pane.mk aa ab ad ae) eC) (Ze.mk eo ea ep et ek))=YW (some (Zo.mk sS (Yz ⟨aa,ab,ad,ae⟩ eC sO) (XW sD ⟨aa,ab,ad,ae⟩ eC) (sL+eC*aa*ab) sC)):=by unfold Qs evS;simp[k4,hl]
        rw[ee];exact ZpO sS sO sD sL sC eK eL eX eY eW eH aa ab ad ae eC eo ea ep et ek hv sS _ _ _ _ (ZpI sS sO sD sL sC eK eL eX eY eW eH aa ab ad ae eC eo ea ep et ek hv k4 hl.1 hl.2)
       ·have ee:Qs (Zo.mk sS sO sD sL sC) (Zl.mk eK eL (Box.mk eX eY eW eH) (Zc.mk (Pane.mk aa ab ad ae) eC) (Ze.mk eo ea ep et ek))=none:=by unfold Qs evS;simp only[k4];simp[hl,YW]
        rw[ee];exact X8 sS sO sD sL sC eK eL eX eY eW eH aa ab ad ae eC eo ea ep et ek hv (ZpJ sS sO sD sL sC eK eL eX eY eW eH aa ab ad ae eC eo ea ep et ek hv k4 hl)
      ·by_cases k3:eK=3
       ·have hc:=Zsb sS sO sD sL sC eK eL eX eY eW eH aa ab ad ae eC eo ea ep et ek hv k3;have ee:Qs (Zo.mk sS sO sD sL sC) (Zl.mk eK eL (Box.mk eX eY eW eH) (Zc.mk (Pane.mk aa ab ad ae) eC) (Ze.mk eo ea ep et ek))=YW (Zdj (Zo.mk sS sO sD sL sC) (Zl.mk eK eL (Box.mk eX eY eW eH) (Zc.mk (Pane.mk aa ab ad ae) eC) (Ze.mk eo ea ep et ek))):=by unfold Qs evS;simp[k3]
        rw[ee];generalize Zdj (Zo.mk sS sO sD sL sC) (Zl.mk eK eL (Box.mk eX eY eW eH) (Zc.mk (Pane.mk aa ab ad ae) eC) (Ze.mk eo ea ep et ek))=t at hc;cases t with
        | none=>exact X8 sS sO sD sL sC eK eL eX eY eW eH aa ab ad ae eC eo ea ep et ek hv hc
        | some t=>
         obtain⟨a,b,c,d,f⟩:=t;exact ZpP sS sO sD sL sC eK eL eX eY eW eH aa ab ad ae eC eo ea ep et ek hv a b c d f hc
       ·have ee:Qs (Zo.mk sS sO sD sL sC) (Zl.mk eK eL (Box.mk eX eY eW eH) (Zc.mk (Pane.mk aa ab ad ae) eC) (Ze.mk eo ea ep et ek))=none:=by unfold Qs evS;simp[k0,k1,k2,k3,k4,k5,YW]
        rw[ee];exact X8 sS sO sD sL sC eK eL eX eY eW eH aa ab ad ae eC eo ea ep et ek hv (Zsc sS sO sD sL sC eK eL eX eY eW eH aa ab ad ae eC eo ea ep et ek k0 k1 k2 k3 k4 k5)
 ·rw[Kd hv];exact ZnY sS sO sD sL sC eK eL eX eY eW eH aa ab ad ae eC eo ea ep et ek hv
end Go.Proofs.YtfnegoimdljanaaGreatDoor
namespace Go.Proofs.YtfnegoimdljanaaGreatDoor
open Go Go.Abs Go.Abs.E Go.Abs.L
set_option maxRecDepth 20000
set_option maxHeartbeats 4000000
theorem ZbU (p:Pane) (c:Int):∀ (l:List Zc),Qr (Yz p c l)=Qr l+c
 | []=>by simp[Yz,Qr]
 | x :: l=>by
  unfold Yz;split
  ·simp only[Qr];omega
  ·simp only[Qr,ZbU p c l];omega
theorem ZxP:∀ {l:List Zc} {a:Nat} {x y:Zc},l[a]?=some x→Qr (l.set a y)=Qr l-x.Count+y.Count
 | [],a,x,y,h=>by simp at h
 | z :: l,0,x,y,h=>by
  simp only[KX,Option.some.injEq] at h;subst h;simp only[KaC,Qr];omega
 | z :: l,a+1,x,y,h=>by
  simp only[KY] at h;simp only[Kak,Qr,ZxP h];omega
theorem Zsd:∀ {l:List Zc} {a:Nat} {x:Zc},l[a]?=some x→Qr (l.eraseIdx a)=Qr l-x.Count
 | [],a,x,h=>by simp at h
 | z :: l,0,x,h=>by
  simp only[KX,Option.some.injEq] at h;subst h;simp only[List.eraseIdx_cons_zero,Qr];omega
 | z :: l,a+1,x,h=>by
  simp only[KY] at h;simp only[List.eraseIdx_cons_succ,Qr,Zsd h];omega
theorem Zse {l:List Zc} {p:Pane} {c:Int} (hu:UL l) (h:Xr p c false l=true):Qr (XW l p c)=Qr l-c:=by
 by_cases hf:Vm 0 l p<0
 ·rw[Zju (Zmk hf)] at h;cases h
 ·obtain⟨a,x,h1,h2,h3,h4⟩:=Zjt (by omega:0≤Vm 0 l p);obtain⟨k1,k2⟩:=Zr5 (c:=c) hu h2 h3;rw[k1,Ko] at h;rw[k2];split
  ·rw[ZxP h2];simp only;omega
  ·rw[Zsd h2];omega
theorem ZnZ:∀ {ps:List Pane} {us:List Int} {o d o' d' : List Zc},us.length=ps.length→Ve ps us o d=some (o',d')→UL o→(∀ v∈us,0≤v) →
  Qr o'+Qr d'=Qr o+Qr d∧Qr d≤Qr d'∧((∃ v∈us,v≠0)→Qr d<Qr d')
 | [],us,o,d,o',d',hl,h,hu,hv=>by
  cases us with
  | nil=>unfold Ve at h;cases h;simp
  | cons c us=>simp at hl
 | p :: ps,[],o,d,o',d',hl,h,hu,hv=>by simp at hl
 | p :: ps,c :: us,o,d,o',d',hl,h,hu,hv=>by
  rw[Ve] at h;simp only[Kl,Nat.add_right_cancel_iff] at hl;have hc:=hv c (by simp);split at h
  ·rename_i h0;obtain⟨a,b,e⟩:=ZnZ hl h hu (fun v h=>hv v (by simp[h]));refine⟨a,b,fun ⟨v,hm,hn⟩=>?_⟩;rcases Ke.1 hm with rfl | hm
   ·exact absurd h0 hn
   ·exact e ⟨v,hm,hn⟩
  ·rename_i h0;split at h
   ·rename_i ht;obtain⟨a,b,e⟩:=ZnZ hl h (Zr6 hu) (fun v h=>hv v (by simp[h]));rw[Zse hu ht,ZbU] at a;rw[ZbU] at b;exact⟨o_,o_,fun _=>by omega⟩
   ·cases h
structure AFacts (s:Zo) (e:Zl) (t:Zo):Prop where
 vs:ZI t
 came:t.Came=s.Came+(if e.kind=0 then e.box.W*e.box.H else 0)
 lost:s.Lost≤t.Lost
 cnt:Qr t.Opn+Qr t.Done=Qr s.Opn+Qr s.Done+(if e.kind=2 then e.line.Count else 0)
 lt:Qr t.Done<Qr s.Done↔e.kind=4
 gt:Qr s.Done<Qr t.Done↔e.kind=3
 sheet:e.kind=0→Vy ⟨e.label,e.box.W,e.box.H,[]⟩ s.Stock∧e.box.X=0∧e.box.Y=0∧t = { s with Stock:=QF ⟨e.label,e.box.W,e.box.H,[]⟩ s.Stock,Came:=s.Came+e.box.W*e.box.H }
 ord:e.kind=2→VL e.line
theorem ZxQ {s t:Zo} {e:Zl} (h:Qs s e=some t):evS s e=some t∧ZI t:=by
 have hv:=ZcK h;unfold Qs YW at h;split at h
 ·split at h
  ·cases h;exact⟨by assumption,hv⟩
  ·cases h
 ·cases h
theorem ZzI {s t:Zo} {e:Zl} (hs:ZI s) (h:Qs s e=some t):AFacts s e t:=by
 obtain⟨h,hv⟩:=ZxQ h;unfold evS at h;split at h
 ·rename_i k;split at h
  ·rename_i hr;cases h;exact⟨hv,by simp[k],Kai _,by simp[k],by simp[k],by simp[k],fun _=>⟨hr.1.1,hr.1.2,hr.2,rfl⟩,fun h=>by omega⟩
  ·cases h
 ·rename_i k0;split at h
  ·rename_i k;split at h
   ·cases h
   ·split at h
    ·cases h;exact⟨hv,by simp[k],Kai _,by simp[k],by simp[k],by simp[k],fun h=>absurd h k0,fun h=>by omega⟩
    ·cases h
  ·rename_i k1;split at h
   ·rename_i k;split at h
    ·cases h
    ·rename_i a q hq;cases h;have ae:q∈s.Stock:=by
      unfold Zyx at hq;split at hq
      ·obtain⟨x,hx,e⟩:=Option.map_eq_some_iff.1 hq;cases e;exact Kb hx
      ·cases hq
     have af:=(ZW hs.1.2 q ae).1;have:=Jq (b:=⟨0,0,q.W,q.H⟩) (by simp only[VB];omega);simp only at this;exact⟨hv,by simp[k],p_,by simp[k],by simp[k],by simp[k],fun h=>absurd h k0,fun h=>by omega⟩
   ·rename_i k5;split at h
    ·rename_i k;split at h
     ·rename_i hl;cases h;have hc:=hl.2;refine⟨hv,by simp[k],Kai _,?_,by simp[k],by simp[k],fun h=>absurd h k0,fun _=>hl⟩;simp only[ZbU,k,Km];omega
     ·cases h
    ·rename_i k2;split at h
     ·rename_i k;split at h
      ·rename_i hl;cases h;have hc:=hl.1.2;have ha:=ZbX hl.1;have h1:=Zse (Zf4 hs.2.2.1) hl.2;refine⟨hv,by simp[k],p_,?_,?_,?_,fun h=>absurd h k0,fun h=>absurd h k2⟩
       ·simp only[ZbU,h1,k];simp;omega
       ·simp only[h1,k,iff_true];omega
       ·simp only[h1,k];omega
      ·cases h
     ·rename_i k4;split at h
      ·rename_i k;unfold Zdj at h;split at h
       ·cases h
       ·rename_i x hx;split at h
        ·cases h
        ·rename_i R hR;obtain⟨ab,_,_⟩:=ZmN hR;split at h
         ·rename_i hp;split at h
          ·cases h
          ·rename_i o d hg;cases h;have hu:=ZdF ab;have ad:=ZuS ab hp;obtain⟨a,b,c⟩:=ZnZ (by rw[hu.1]) hg (Zf4 hs.2.1) (fun v h=>(hu.2 v h).1);have c:=c ad;have ag:=Ze4 (l:=Zdz ⟨x.W,x.H,s.Opn.map Zc.Pane⟩ e.plan 5) (fun c hc=>by
            obtain⟨z,hz,aa⟩:=Lw.1 hc;unfold Ug at aa;split at aa
            ·cases aa;exact ZbT ab c hz
            ·cases aa)
           refine⟨hv,by simp[k],p_,?_,?_,?_,fun h=>absurd h k0,fun h=>absurd h k2⟩
           ·simp only[k];simp;omega
           ·simp only[k];omega
           ·simp only[k,iff_true];omega
         ·cases h
      ·cases h
theorem ZjI (sS:List Zb) (sO sD:List Zc) (sL sC:Int) (eK eL eX eY eW eH aa ab:Int) (ad:Bool) (ae eC eo ea ep:Int) (et:Bool) (ek:List Ze) (hs:SmS (Zo.mk sS sO sD sL sC)) (hk:eK=0) (hW:R64 eW) (hH:R64 eH) (hn:¬Vy ⟨eL,eW,eH,[]⟩ sS):∃ c:Int,v_ 100 [(.d (.agg [.sl (sS.map Zb.enc),.sl (sO.map Zc.enc),.sl (sD.map Zc.enc),J sL,J sC])),(.d (.agg [J eK,J eL,J eX,J eY,J eW,J eH,J aa,J ab,.bool ad,J ae,J eC,J eo,J ea,J ep,.bool et,.sl (ek.map Ze.enc)]))] [] =
  some (.tup [.agg [.own 0,.d (.sl (sO.map Zc.enc)),.d (.sl (sD.map Zc.enc)),(.d (J sL)),(.d (J c))],(.d (.bool false))],[.row 4 [] true false]):=by
 obtain⟨⟨h1,h2,h3,h4⟩,h5,h6,h7,h8,h9⟩:=hs;simp only at h1 h2 h3 h4 h5 h6 h7 h8 h9;subst hk;have e1:=XV sS eL o_;have e2:=Zd8 sS eL eW eH [] h5 h2 ⟨by simp,hW,hH⟩;simp only[Kp] at e2;rw[Kk hn,Kd hn] at e2;simp only[Kp] at e2;refine⟨IntKind.i64.wrap (sC+IntKind.i64.wrap (eW*eH)),?_⟩;refine cE ?_;simp (maxSteps:=9^7) +contextual -implicitDefEqProofs only[go_sem,seval,XX,e1,e2]
theorem Zn0 (sS:List Zb) (sO sD:List Zc) (sL sC:Int) (eK eL eX eY eW eH aa ab:Int) (ad:Bool) (ae eC eo ea ep:Int) (et:Bool) (ek:List Ze) (hv:ZI (Zo.mk sS sO sD sL sC)) (hW:R64 eW) (hH:R64 eH):v_ 52 [(.d (.agg [.sl (sS.map Zb.enc),.sl (sO.map Zc.enc),.sl (sD.map Zc.enc),J sL,J sC])),(.d (.agg [J eK,J eL,J eX,J eY,J eW,J eH,J aa,J ab,.bool ad,J ae,J eC,J eo,J ea,J ep,.bool et,.sl (ek.map Ze.enc)]))] []=some (shV (Qs (Zo.mk sS sO sD sL sC) (Zl.mk eK eL (Box.mk eX eY eW eH) (Zc.mk (Pane.mk aa ab ad ae) eC) (Ze.mk eo ea ep et ek)))):=by
 by_cases k0:eK=0
 ·by_cases ha:Vy ⟨eL,eW,eH,[]⟩ sS
  ·have hp:=ha.1.2.1;simp only at hp;exact Za8 sS sO sD sL sC eK eL eX eY eW eH aa ab ad ae eC eo ea ep et ek hv (fun _=>by unfold I5;omega) (fun _=>by unfold I5;omega)
  ·obtain⟨c,af⟩:=ZjI sS sO sD sL sC eK eL eX eY eW eH aa ab ad ae eC eo ea ep et ek (ZjD hv) k0 hW hH ha;rw[k0] at af;have ee:Qs (Zo.mk sS sO sD sL sC) (Zl.mk eK eL (Box.mk eX eY eW eH) (Zc.mk (Pane.mk aa ab ad ae) eC) (Ze.mk eo ea ep et ek))=none:=by unfold Qs evS;simp only[k0,Km];rw[Kd (fun h=>ha h.1.1)];rfl
   rw[ee];unfold shV;refine cE ?_;simp (maxSteps:=9^7) +contextual -implicitDefEqProofs (maxSteps:=9^7) only[go_sem,seval,ZB,k0,af]
 ·exact Za8 sS sO sD sL sC eK eL eX eY eW eH aa ab ad ae eC eo ea ep et ek hv (fun h=>absurd h k0) (fun h=>absurd h k0)
def EvI (e:Zl):Prop:=e.kind=0→I5 e.box.W∧I5 e.box.H
def runL:Zo→List Zl→Option Zo
 | s,[]=>some s
 | s,e :: l=>match Qs s e with
  | some t=>runL t l
  | none=>none
def Zf5 (l:List Zl):Option Zo:=if l.length≤40 then runL ⟨[],[],[],0,0⟩ l else none
theorem ZuU {s:Zo} {l:List Zl} {k:Nat} {e:Zl} (hx:l[k]?=some e):runL s (l.drop k)=match Qs s e with
  | some t=>runL t (l.drop (k+1))
  | none=>none:=by
 obtain⟨h1,h2⟩:=Kc.1 hx;rw[Ku h1,h2,runL]
theorem ZxR {s:Zo} {l:List Zl}:runL s (l.drop l.length)=some s:=by simp[runL]
theorem Zsf:∀ {l:List Zl} {s t:Zo},ZI s→runL s l=some t→ZI t
 | [],s,t,hv,h=>by cases h;exact hv
 | e :: l,s,t,hv,h=>by
  unfold runL at h;cases ha:Qs s e with
  | none=>rw[ha] at h;cases h
  | some u=>rw[ha] at h;exact Zsf (ZcK ha) h
def shO (r:Option Zo) (x:AV×List Zm):Prop:=match r with
 | none=>x=shT none
 | some s=>∃ o,Tr4 s.Stock o∧x=(.tup [.agg [.own 0,.own 1,.own 2,(.d (J (s.Lost))),(.d (J (s.Came)))],(.d (.bool true))],[o,.row 5 (s.Opn.map Zc.enc) true false,.row 5 (s.Done.map Zc.enc) true false])
def stO (b:Bool) (S:List Zb):Zm:=if b=true then .tree 4 4 (S.map Zb.enc) none else .row 4 [] true false
theorem ZxS (S:List Zb):stO true S=.tree 4 4 (S.map Zb.enc) none:=rfl
theorem ZDA (S:List Zb):stO false S=.row 4 [] true false:=rfl
theorem Zml (l:List Zl) (hl:l.length≤1048576):∃ r,v_ 13 [(.d (.sl (l.map Zl.enc)))] []=some r∧shO (Zf5 l) r:=by
 by_cases ab:(40:Int)<(l.length:Int)
 ·have hr:Zf5 l=none:=by unfold Zf5;rw[Kd o_]
  rw[hr];unfold shO;refine cW ?_;simp (maxSteps:=9^7) +contextual -implicitDefEqProofs only[go_sem,seval,ZiR,ab,shT]
 ·have hr:Zf5 l=runL ⟨[],[],[],0,0⟩ l:=by unfold Zf5;rw[Kg o_]
  rw[hr];refine cW ?_;simp (maxSteps:=9^7) +contextual -implicitDefEqProofs only[go_sem,seval,ZiR,ab];refine LO (α:=Nat×Bool×Zo) (fun s=>[(15,.d (J (s.1:Int)))]) (fun s=>[(0,.box [.own 2,.own 3,.own 4,(.d (J (s.2.2.Lost))),(.d (J (s.2.2.Came)))]),(2,stO s.2.1 s.2.2.Stock),(3,.row 5 (s.2.2.Opn.map Zc.enc) true false),(4,.row 5 (s.2.2.Done.map Zc.enc) true false)]) (fun s=>s.1≤l.length∧ZI s.2.2∧(s.2.1=false→s.2.2.Stock=[])∧runL s.2.2 (l.drop s.1)=runL ⟨[],[],[],0,0⟩ l) (fun s=>l.length-s.1) (0,false,⟨[],[],[],0,0⟩) ⟨by simp,Zgh,by simp,by simp⟩ ?_;intro⟨i,b,⟨S,O,D,L,C⟩⟩ ⟨hi,hv,hb,hp⟩ ih;simp only at hi hv hb hp
  by_cases aa:i<l.length
  ·obtain⟨e,he⟩:=Zn aa;have hw:=Zg (k:=i) o_;rw[ZuU he] at hp;obtain⟨K,Lb,⟨X,Y,W,H⟩,⟨⟨pW,pH,pT,pK⟩,Ct⟩,⟨o,a,q,t,ks⟩⟩:=e;have ea:=Za4 S O D L C K Lb X Y W H pW pH pT pK Ct o a q t ks;rw[Kg hv] at ea;cases hap:Qs ⟨S,O,D,L,C⟩ ⟨K,Lb,⟨X,Y,W,H⟩,⟨⟨pW,pH,pT,pK⟩,Ct⟩,.mk o a q t ks⟩ with
   | none=>
    rw[hap] at ea hp;simp only at hp;unfold shT at ea;rw[← hp];cases b with
    | true=>simp (maxSteps:=9^7) +contextual -implicitDefEqProofs only[go_sem,seval,aa,he,hw,ea,shO,shT,ZxS]
    | false=>
     have hS:=hb rfl;subst hS;simp only[Kp] at ea;simp (maxSteps:=9^7) +contextual -implicitDefEqProofs only[go_sem,seval,aa,he,hw,ea,shO,shT,ZDA]
   | some u=>
    have ad:=ZcK hap;rw[hap] at ea hp;simp only at hp;obtain⟨S',O',D',L',C'⟩:=u;unfold shT at ea;simp only at ea;cases b with
    | true=>
     simp (maxSteps:=9^7) +contextual -implicitDefEqProofs only[go_sem,seval,aa,he,hw,ea,ZxS];refine ih (i+1,true,⟨S',O',D',L',C'⟩) _ ⟨p_,ad,by simp,hp⟩ p_ ?_;simp (maxSteps:=9^7) +contextual -implicitDefEqProofs only[go_sem,seval,ZxS]
    | false=>
     have hS:=hb rfl;subst hS;simp only[Kp] at ea;simp (maxSteps:=9^7) +contextual -implicitDefEqProofs only[go_sem,seval,aa,he,hw,ea,ZDA];refine ih (i+1,true,⟨S',O',D',L',C'⟩) _ ⟨p_,ad,by simp,hp⟩ p_ ?_;simp (maxSteps:=9^7) +contextual -implicitDefEqProofs only[go_sem,seval,ZxS]
  ·have:i=l.length:=o_
   subst this;rw[ZxR] at hp;rw[← hp];cases b with
   | true=>
    simp (maxSteps:=9^7) +contextual -implicitDefEqProofs only[go_sem,seval,ZxS,shO];exact⟨_,.inl rfl,rfl⟩
   | false=>
    have hS:=hb rfl;subst hS;simp (maxSteps:=9^7) +contextual -implicitDefEqProofs only[go_sem,seval,ZDA,shO];exact⟨_,.inr ⟨rfl,rfl⟩,rfl⟩
theorem Zwd (l:List Zl) (hl:l.length≤1048576) (hE:∀ e∈l,R64 e.box.W∧R64 e.box.H):v_ 25 [(.d (.sl (l.map Zl.enc)))] []=some (shV (runL ⟨[],[],[],0,0⟩ l)):=by
 refine cE ?_;simp (maxSteps:=9^7) +contextual -implicitDefEqProofs only[go_sem,seval,Zpl];refine LO (α:=Nat×Zo) (fun s=>[(5,.d (J (s.1:Int)))]) (fun s=>[(0,.box [.own 2,.own 3,.own 4,(.d (J (s.2.Lost))),(.d (J (s.2.Came)))]),(2,.row 4 (s.2.Stock.map Zb.enc) true false),(3,.row 5 (s.2.Opn.map Zc.enc) true false),(4,.row 5 (s.2.Done.map Zc.enc) true false)]) (fun s=>s.1≤l.length∧ZI s.2∧runL s.2 (l.drop s.1)=runL ⟨[],[],[],0,0⟩ l) (fun s=>l.length-s.1) (0,⟨[],[],[],0,0⟩) ⟨by simp,Zgh,by simp⟩ ?_;intro⟨i,⟨S,O,D,L,C⟩⟩ ⟨hi,hv,hp⟩ ih;simp only at hi hv hp;by_cases aa:i<l.length
 ·obtain⟨e,he⟩:=Zn aa;have hw:=Zg (k:=i) o_;have ab:=hE e (Kb he);rw[ZuU he] at hp;obtain⟨K,Lb,⟨X,Y,W,H⟩,⟨⟨pW,pH,pT,pK⟩,Ct⟩,⟨o,a,q,t,ks⟩⟩:=e;have ea:=Zn0 S O D L C K Lb X Y W H pW pH pT pK Ct o a q t ks hv ab.1 ab.2;cases hap:Qs ⟨S,O,D,L,C⟩ ⟨K,Lb,⟨X,Y,W,H⟩,⟨⟨pW,pH,pT,pK⟩,Ct⟩,.mk o a q t ks⟩ with
  | none=>
   rw[hap] at ea hp;simp only at hp;unfold shV at ea;rw[← hp];unfold shV;simp (maxSteps:=9^7) +contextual -implicitDefEqProofs only[go_sem,seval,aa,he,hw,ea]
  | some u=>
   have ad:=ZcK hap;rw[hap] at ea hp;simp only at hp;obtain⟨S',O',D',L',C'⟩:=u;unfold shV at ea;simp only at ea;simp (maxSteps:=9^7) +contextual -implicitDefEqProofs only[go_sem,seval,aa,he,hw,ea];refine ih (i+1,⟨S',O',D',L',C'⟩) _ ⟨p_,ad,hp⟩ p_ ?_;simp (maxSteps:=9^7) +contextual -implicitDefEqProofs only[go_sem,seval]
 ·have:i=l.length:=o_
  subst this;rw[ZxR] at hp;rw[← hp];unfold shV;simp (maxSteps:=9^7) +contextual -implicitDefEqProofs only[go_sem,seval]
def PBook2 (bs:List UInt8) (p:Nat) (r:AV×List Zm):Prop:=∃ (out:List Zl) (S:List Zb) (O D:List Zc) (L C:Int) (f:Bool) (p' : Nat),ZI ⟨S,O,D,L,C⟩∧(∀ e∈out,EvI e)∧out.length≤16∧p≤p'∧p'≤p+200 ∧
 r=(.tup [.own 1,.agg [.own 2,.own 3,.own 4,(.d (J L)),(.d (J C))]],[.box [.d (.sl (bs.map YU)),(.d (J (p')))],.row 16 (out.map Zl.enc) true false,.row 4 (S.map Zb.enc) true f,.row 5 (O.map Zc.enc) true f,.row 5 (D.map Zc.enc) true f])
theorem Zsg (bs:List UInt8) (hb:bs.length≤2000) (p:Nat) (hp:p<700000000) (aa:Int):∃ r,v_ 90 [.ptr 0 0,(.d (J aa))] [.box [.d (.sl (bs.map YU)),(.d (J p))]]=some r∧PBook2 bs p r:=by
 obtain⟨n,hn,eN⟩:=Zcq bs p [8,12,5,16,0,2] hb o_ (by decide);have ab : 0≤n∧n≤16:=by simp only[Ke,Kx,or_false] at hn;omega
 simp only[Kh,Kp,XA] at eN;refine cW ?_;simp (maxSteps:=9^7) +contextual -implicitDefEqProofs only[go_sem,seval,Zm2,eN];refine LO (α:=Int×List Zl×Zo×Nat×Bool) (fun s=>[(8,.d (J s.1))]) (fun s=>[(0,.box [.d (.sl (bs.map YU)),(.d (J (s.2.2.2.1)))]),(1,.row 16 (s.2.1.map Zl.enc) true false),(2,.box [.own 4,.own 5,.own 6,(.d (J (s.2.2.1.Lost))),(.d (J (s.2.2.1.Came)))]),(4,.row 4 (s.2.2.1.Stock.map Zb.enc) true s.2.2.2.2),(5,.row 5 (s.2.2.1.Opn.map Zc.enc) true s.2.2.2.2),(6,.row 5 (s.2.2.1.Done.map Zc.enc) true s.2.2.2.2)]) (fun s=>0≤s.1∧s.1≤16∧(s.2.1.length:Int)≤16-s.1∧ZI s.2.2.1∧(∀ e∈s.2.1,EvI e)∧p+1≤s.2.2.2.1∧(s.2.2.2.1:Int)≤p+1+10*(16-s.1)) (fun s=>s.1.toNat) (n,[],⟨[],[],[],0,0⟩,p+1,false) ⟨ab.1,ab.2,by simp;omega,Zgh,by simp,by simp,by simp;omega⟩ ?_
 intro⟨m,out,⟨S,O,D,L,C⟩,pp,f⟩ ⟨i1,i2,i3,i4,iE,i5,i6⟩ ih;simp only at i1 i2 i3 i4 iE i5 i6;by_cases hm:0<m
 ·by_cases ho:(out.length:Int)<aa
  ·obtain⟨r,eE,K,Lb,X,Y,W,H,pW,pH,pT,pK,Ct,o,a,q,t,ks,p',g1,g2,g3,rfl⟩:=Zs7 bs hb pp o_ S O D L C (Zwz i4);have ea:=Za8 S O D L C K Lb X Y W H pW pH pT pK Ct o a q t ks i4 (fun e=>(g1 e).1) (fun e=>(g1 e).2);have hw:=wi (m-1) o_ o_;have hr:(out.length+1)*144≤140737488355328∧out.length≤140737488355327:=o_
   cases hap:Qs ⟨S,O,D,L,C⟩ ⟨K,Lb,⟨X,Y,W,H⟩,⟨⟨pW,pH,pT,pK⟩,Ct⟩,.mk o a q t ks⟩ with
   | none=>
    rw[hap] at ea;unfold shV at ea;simp (maxSteps:=9^7) +contextual -implicitDefEqProofs only[go_sem,seval,hm,ho,eE,ea,hw,hr];refine ih (m-1,out,⟨S,O,D,L,C⟩,p',true) _ ⟨p_,p_,p_,i4,iE,p_,p_⟩ p_ ?_;simp (maxSteps:=9^7) +contextual -implicitDefEqProofs only[go_sem,seval]
   | some u=>
    have ad:=ZcK hap;rw[hap] at ea;obtain⟨S',O',D',L',C'⟩:=u;unfold shV at ea;simp only at ea;simp (maxSteps:=9^7) +contextual -implicitDefEqProofs only[go_sem,seval,hm,ho,eE,ea,hw,hr];refine ih (m-1,out++[⟨K,Lb,⟨X,Y,W,H⟩,⟨⟨pW,pH,pT,pK⟩,Ct⟩,.mk o a q t ks⟩],⟨S',O',D',L',C'⟩,p',false) _ ⟨p_,p_,by simp only[Kq,Kl,KO];omega,ad,(fun e he=>by
     rcases Kj.1 he with he | he
     ·exact iE e he
     ·rw[KD.1 he];exact g1),p_,p_⟩ p_ ?_
    simp (maxSteps:=9^7) +contextual -implicitDefEqProofs only[go_sem,seval,KJ]
  ·simp (maxSteps:=9^7) +contextual -implicitDefEqProofs only[go_sem,seval,hm,ho];exact⟨out,S,O,D,L,C,f,pp,i4,iE,o_,o_,o_,rfl⟩
 ·simp (maxSteps:=9^7) +contextual -implicitDefEqProofs only[go_sem,seval,hm];exact⟨out,S,O,D,L,C,f,pp,i4,iE,o_,o_,o_,rfl⟩
def PAnyB (bs:List UInt8) (p:Nat) (r:AV×List Zm):Prop:=∃ (l:List Zl) (p' : Nat),(∀ e∈l,EvI e)∧l.length≤16∧p≤p'∧p'≤p+300 ∧
 ((∃ b,r=(.own 1,[.box [.d (.sl (bs.map YU)),(.d (J (p')))],.row 16 (l.map Zl.enc) b false]))∨∃ e0,r=(.ownv 1 1 l.length,[.box [.d (.sl (bs.map YU)),(.d (J (p')))],.row 16 ((e0 :: l).map Zl.enc) true false]))
theorem Zwe (bs:List UInt8) (hb:bs.length≤2000) (p:Nat) (hp:p<600000000):∃ r,v_ 66 [.ptr 0 0] [.box [.d (.sl (bs.map YU)),(.d (J p))]]=some r∧PAnyB bs p r:=by
 obtain⟨r,eB,out,S,O,D,L,C,f,p',hv,hE,h1,h2,h3,rfl⟩:=Zsg bs hb p o_ 30;have c0:=ZV bs p' 10 hb o_;generalize Qc bs p' 10=c at c0;refine cW ?_;by_cases hl:(1:Int)<(out.length:Int)
 ·by_cases k0:c=0
  ·subst k0;have af:(1:Int)≤(out.length:Int):=o_
   simp (maxSteps:=9^7) +contextual -implicitDefEqProofs only[go_sem,seval,U1,ZlV,eB,hl,c0,af];cases out with
   | nil=>simp at hl
   | cons e0 l=>exact⟨l,p'+1,fun e he=>hE e (by simp[he]),by simp only[Kl] at h1;omega,o_,o_,.inr ⟨e0,rfl⟩⟩
  ·by_cases k1:c=1
   ·subst k1;obtain⟨e0,ab⟩:∃ e,out[0]?=some e:=Zn o_;obtain⟨m,hm⟩:∃ m:Nat,out.length=m+1:=⟨out.length-1,o_⟩
    obtain⟨e1,ad⟩:∃ e,out[m]?=some e:=Zn o_;have ag:=hE e0 (Kb ab);have ah:=hE e1 (Kb ad);have hw:=wi ((out.length:Int)-1) o_ o_;have aa:(out.length:Int)-1=(m:Int):=o_
    have ai:¬0=m:=o_
    have aj:m<out.length:=o_
    have ak:0<out.length:=o_
    rw[aa] at hw;have av:IntKind.i64.wrap (((m+1:Nat):Int)-1)=(m:Int):=by rw[← hm,aa];exact hw
    obtain⟨K,Lb,⟨X,Y,W,H⟩,⟨⟨pW,pH,pT,pK⟩,Ct⟩,⟨o,a,q,t,ks⟩⟩:=e0;obtain⟨K2,al,⟨X2,Y2,W2,H2⟩,⟨⟨am,an,ao,ap⟩,aq⟩,⟨o2,a2,q2,t2,ar⟩⟩:=e1;simp (maxSteps:=9^7) +contextual -implicitDefEqProofs only[go_sem,seval,U1,eB,hl,c0,ab,ad,aa,hw,ai,aj,ak,LJ,List.length_set];refine⟨(out.set 0 ⟨K2,al,⟨X2,Y2,W2,H2⟩,⟨⟨am,an,ao,ap⟩,aq⟩,.mk o2 a2 q2 t2 ar⟩).set m ⟨K,Lb,⟨X,Y,W,H⟩,⟨⟨pW,pH,pT,pK⟩,Ct⟩,.mk o a q t ks⟩,p'+1,fun e he=>?_,by simpa using h1,o_,o_,.inl ⟨false,?_⟩⟩
    ·rcases Ly he with he | rfl
     ·rcases Ly he with he | rfl
      ·exact hE e he
      ·exact ah
     ·exact ag
    ·simp only[Kad,Zl.enc_mk]
   ·by_cases k2:c=2
    ·subst k2;have u0:=ZV bs (p'+1) out.length hb o_;have u1:=XN bs (p'+1) out.length;have u2:=WQ bs (p'+1) out.length o_;obtain⟨i,hi⟩:∃ i:Nat,Qc bs (p'+1) (out.length:Int)=(i:Int):=⟨(Qc bs (p'+1) (out.length:Int)).toNat,o_⟩
     rw[hi] at u0 u2;have ae:i<out.length:=o_
     obtain⟨e,he⟩:=Zn ae;obtain⟨v,aw,eV⟩:=Zcq bs (p'+1+1) [1,0,1000000] hb o_ (by decide);simp only[Kh,Kp,XA] at eV;have au:=hE e (Kb he);obtain⟨K,Lb,⟨X,Y,W,H⟩,⟨⟨pW,pH,pT,pK⟩,Ct⟩,⟨o,a,q,t,ks⟩⟩:=e;simp (maxSteps:=9^7) +contextual -implicitDefEqProofs only[go_sem,seval,U1,eB,hl,c0,u0,ae,he,eV];refine⟨out.set i ⟨K,v,⟨X,Y,W,H⟩,⟨⟨pW,pH,pT,pK⟩,Ct⟩,.mk o a q t ks⟩,p'+1+1+1,fun e he=>?_,by simpa using h1,o_,o_,.inl ⟨true,?_⟩⟩
     ·rcases Ly he with he | rfl
      ·exact hE e he
      ·exact au
     ·simp only[Kad,Zl.enc_mk];try rfl
    ·simp (maxSteps:=9^7) +contextual -implicitDefEqProofs only[go_sem,seval,U1,eB,hl,c0,k0,k1,k2];exact⟨out,p'+1,hE,h1,o_,o_,.inl ⟨true,rfl⟩⟩
 ·simp (maxSteps:=9^7) +contextual -implicitDefEqProofs only[go_sem,seval,U1,eB,hl];exact⟨out,p',hE,h1,o_,o_,.inl ⟨true,rfl⟩⟩
end Go.Proofs.YtfnegoimdljanaaGreatDoor
