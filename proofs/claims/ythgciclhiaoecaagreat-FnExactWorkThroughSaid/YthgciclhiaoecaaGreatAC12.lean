/- Own text. -/
import Derived.Test.YthgciclhiaoecaaGreatACode
import Derived.Test.YthgciclhiaoecaaGreatAbsParts
import Derived.Test.YthgciclhiaoecaaGreatAC8
import Derived.Test.YthgciclhiaoecaaGreatAC11
import Derived.Test.YthgciclhiaoecaaGreatAbsOkD
namespace Go.Proofs.YthgciclhiaoecaaGreat
open Go Go.Abs Go.Abs.E Go.Abs.L
open Nat (reduceMul reduceSub reduceLeDiff reduceEqDiff)
open Int (reduceLE reduceEq reduceToNat reduceNeg)
set_option linter.unusedSimpArgs false
set_option linter.unusedVariables false
set_option maxRecDepth 20000
set_option maxHeartbeats 4000000
theorem Zvo (kW kH:Int) (kP:List Pane) (p:Ze) (hv:Y5 (Zt.mk kW kH kP) p=true):Zd Xs Ms Zcq [(.d (.agg [J kW,J kH,.sl (kP.map Pane.enc)])),.d p.enc] []=some (.own 0,[.row 1 ((Zbw (Zt.mk kW kH kP) p).map ZcM) true false]):=by
 have ev:=Jc kW kH kP p;rw[hv] at ev;have e:=ZdF kW kH kP p;obtain⟨b,hb,ai,ae,aj,aa,ab⟩:=QM hv;simp only at aa ab;have af:=Za0 (x:=0) (y:=0) aa;have an:kP.length≤24:=ae.2.2.2.2.1;have ak:(plc b 0 0 kW kH).length≤255:=by
  have:=Kn QX (Qm (Zt.mk kW kH kP) p);rw[ab,J3,Yt] at this;omega
 unfold Zbw;rw[ab,Yt] at e ⊢;generalize plc b 0 0 kW kH=L at e af ak ⊢;have al:(kP.length:Int)*((8:Nat):Int)≤((140737488355328:Nat):Int)∧kP.length≤140737488355328:=by omega
 have ad:(kP.length:Int)*8≤140737488355328∧(kP.length:Int)≤140737488355328:=by omega
 clear hv hb ai ae ab aa;obtain⟨o,a,q,t,ks⟩:=p;rw[Ze.enc_mk] at e ev ⊢;refine cE ?_;simp +contextual -implicitDefEqProofs (maxSteps:=10^7) only[go_sem,seval,↓gZ,Zkw,ev,e,rep_int,al,ad];refine LO (α:=Nat×List Int) (fun s=>[(20,.d (J (s.1:Int)))]) (fun s=>[(1,.row 1 (s.2.map ZcM) true false)]) (fun s=>s.1≤L.length∧s.2.length=kP.length∧(∀ v∈s.2,0≤v∧v≤s.1)∧Ud s.2 (L.drop s.1)=Ud (List.replicate kP.length 0) L) (fun s=>L.length-s.1) (0,List.replicate kP.length 0) ⟨by simp,by simp,fun w hw=>by rw[L6 hw];omega,by simp⟩ ?_;intro⟨i,u⟩ ⟨hi,hul,huv,hp⟩ ih;simp only at hi hul huv hp;by_cases ag:i<L.length
 ·obtain⟨x,hx⟩:=Zo ag;have hw:=Zh (k:=i) (by omega);obtain⟨n,hn,am⟩:=af x (Kb hx);rw[Zqj hx,hn] at hp;obtain⟨q',t',⟨X,Y,W,H⟩⟩:=x;simp only at hn;subst hn;have ah:n<u.length:=by omega
  obtain⟨z,hz⟩:=Zo ah;have ao:=huv z (Kb hz);have u1:=wi (z+1) (by omega) (by omega);rw[Kz,hz] at hp;simp +contextual -implicitDefEqProofs (maxSteps:=10^7) only[go_sem,seval,↓gZ,hx,ag,hw,am,ah,hz,u1,Zps,hul];refine ih (i+1,u.set n (z+1)) _ ⟨by simp only;omega,by simpa using hul,fun v hv=>?_,hp⟩ (by simp only;omega) ?_
  ·simp only;rcases List.mem_or_eq_of_mem_set hv with h1 | rfl
   ·have:=huv v h1;omega
   ·omega
  ·simp +contextual -implicitDefEqProofs (maxSteps:=10^7) only[go_sem,seval,↓gZ,List.headD_cons,Zps]
 ·have:i=L.length:=by omega
  subst this;rw[Zs0] at hp;simp +contextual -implicitDefEqProofs (maxSteps:=10^7) only[go_sem,seval,↓gZ,hp]
theorem Zej:∀ (b:BT) (x y w h:Int),Zkh b=false↔plc b x y w h=[]
 | .waste,x,y,w,h=>by simp[Zkh,plc]
 | .pane i t,x,y,w,h=>by simp[Zkh,plc]
 | .cut d a l r,x,y,w,h=>by
  cases d
  ·simp only[Zkh,plc,Kal,Ka,Kk,Kac,Zej l x y w a,Zej r x (y+a) w (h-a)]
  ·simp only[Zkh,plc,Kal,Km,Kac,Zej l x y a h,Zej r (x+a) y (w-a) h]
theorem ZpN:∀ (l:List L.Place) (u:List Int) (i:Nat) (v:Int),u[i]?=some v→∃ z,(Ud u l)[i]?=some z∧v≤z
 | [],u,i,v,h=>⟨v,h,Kam _⟩
 | x :: l,u,i,v,h=>by
  rw[Ud];by_cases hi:x.Pane.toNat=i
  ·obtain⟨z,h1,h2⟩:=ZpN l (u.set x.Pane.toNat (u[x.Pane.toNat]?.getD 0+1)) i (v+1) (by
    rw[hi,h,LQ];have:=(Kc.1 h).1;simp[this])
   exact⟨z,h1,by omega⟩
  ·obtain⟨z,h1,h2⟩:=ZpN l (u.set x.Pane.toNat (u[x.Pane.toNat]?.getD 0+1)) i v (by
    rw[Lj hi,h])
   exact⟨z,h1,h2⟩
theorem Zy4 {l:List L.Place} {u:List Int} (hl:l≠[]) (hu:∀ v∈u,0≤v) (hn:∀ c∈l,∃ n:Nat,c.Pane=(n:Int)∧n<u.length):∃ v∈Ud u l,v≠0:=by
 cases l with
 | nil=>exact absurd rfl hl
 | cons x l=>
  obtain⟨n,h1,h2⟩:=hn x (by simp);obtain⟨v,hv⟩:=Zo h2;have h0:=hu v (Kb hv);rw[Ud,h1,Kz,hv];obtain⟨z,h3,h4⟩:=ZpN l (u.set n (v+1)) n (v+1) (by rw[LQ];simp[h2]);refine⟨z,Kb (by simpa using h3),by omega⟩
theorem ZsP {k:Zt} {p:Ze} (hv:Y5 k p=true) (hp:Zsx p=true):∃ v∈Zbw k p,v≠0:=by
 obtain⟨b,hb,ae,af,ab,aa,ad⟩:=QM hv;unfold Zsx at hp;rw[hb] at hp;simp only at hp;unfold Zbw;rw[ad,Yt];refine Zy4 (fun h=>?_) (fun v hv=>by rw[L6 hv];omega) (fun c hc=>?_)
 ·rw[(Zej b _ _ _ _).2 h] at hp;cases hp
 ·obtain⟨n,h1,h2⟩:=Za0 aa c hc;exact⟨n,h1,by simpa using h2⟩
theorem Zw0 {k:Zt} {p:Ze} (hv:Y5 k p=true):(((Qm k p).filterMap QX).length=0)↔Zsx p=false:=by
 obtain⟨b,hb,ae,af,aa,ab,ad⟩:=QM hv;unfold Zsx;rw[hb,ad,Yt,List.length_eq_zero_iff];exact(Zej b _ _ _ _).symm
def cpV (S:List Zb) (O D:List Zc) (L C:Int):Option Zq→AV×List Zn
 | some t=>((.d (.bool true)),[.box [.own 4,.own 5,.own 6,(.d (J (t.Lost))),(.d (J (t.Came)))],.tree 4 4 (S.map Zb.enc) none,.row 5 (O.map Zc.enc) true false,.row 5 (D.map Zc.enc) true false,.tree 4 4 (t.Stock.map Zb.enc) none,.row 5 (t.Opn.map Zc.enc) true false,.row 5 (t.Done.map Zc.enc) true false])
 | none=>((.d (.bool false)),[.box [.own 1,.own 2,.own 3,(.d (J L)),(.d (J C))],.tree 4 4 (S.map Zb.enc) none,.row 5 (O.map Zc.enc) true false,.row 5 (D.map Zc.enc) true false])
theorem Zse (sS:List Zb) (sO sD:List Zc) (sL sC:Int) (eK eL eX eY eW eH ah ai:Int) (aj:Bool) (ak eC eo ea ep:Int) (et:Bool) (ek:List Ze) (hv:ZF (Zq.mk sS sO sD sL sC)):Zd Xs Ms Jw [.ptr 0 0,(.d (.agg [J eK,J eL,J eX,J eY,J eW,J eH,J ah,J ai,.bool aj,J ak,J eC,J eo,J ea,J ep,.bool et,.sl (ek.map Ze.enc)]))] [.box [.own 1,.own 2,.own 3,(.d (J sL)),(.d (J sC))],.tree 4 4 (sS.map Zb.enc) none,.row 5 (sO.map Zc.enc) true false,.row 5 (sD.map Zc.enc) true false]=some (cpV sS sO sD sL sC (Zda (Zq.mk sS sO sD sL sC) (Zz.mk eK eL (Box.mk eX eY eW eH) (Zc.mk (Pane.mk ah ai aj ak) eC) (Ze.mk eo ea ep et ek)))):=by
 obtain⟨⟨h1,h2,h3,h4⟩,h5,h6,h7,h8,h9⟩:=Zy8 hv;simp only at h1 h2 h3 h4 h5 h6 h7 h8 h9;have hO:=hv.2.1;have hD:=hv.2.2.1;simp only at hO hD;have az:=hO.1;have a4:=hD.1;have e1:=Zlt sS sO sD sL sC eL;unfold Zyt at e1;rw[Kj hv] at e1;by_cases hf:QI 0 sS eL<0
 ·have ec:Zda (Zq.mk sS sO sD sL sC) (Zz.mk eK eL (Box.mk eX eY eW eH) (Zc.mk (Pane.mk ah ai aj ak) eC) (Ze.mk eo ea ep et ek))=none:=by
   unfold Zda;simp only;split
   ·rfl
   ·rw[Zs4 hf]
  rw[ec];simp only[Ziv hf] at e1;unfold wkV at e1;simp only at e1;unfold cpV;refine cE ?_;simp +contextual -implicitDefEqProofs (maxSteps:=10^7) only[go_sem,seval,↓gZ,WQ,e1]
 ·obtain⟨a,x,ha,hx⟩:=Zcb (by omega:0≤QI 0 sS eL);simp only[Zem ha hx] at e1;unfold wkV at e1;simp only at e1;have e3:=Zsr sS eL x.W x.H (sO.map Zc.Pane) (.mk eo ea ep et ek) 5;have aw:Zda (Zq.mk sS sO sD sL sC) (Zz.mk eK eL (Box.mk eX eY eW eH) (Zc.mk (Pane.mk ah ai aj ak) eC) (Ze.mk eo ea ep et ek))=match ZaZ sS eL ⟨x.W,x.H,sO.map Zc.Pane⟩ (.mk eo ea ep et ek) 5 with
   | none=>none
   | some R=>if Zsx (.mk eo ea ep et ek)=true then
     match YV (sO.map Zc.Pane) (Zbw ⟨x.W,x.H,sO.map Zc.Pane⟩ (.mk eo ea ep et ek)) sO sD with
     | none=>none
     | some (o,d)=>some ⟨R,o,d,sL+XV (ZdA ⟨x.W,x.H,sO.map Zc.Pane⟩ (.mk eo ea ep et ek) 5),sC⟩
    else none:=by
   unfold Zda;simp only[ha,Kz,hx];try rfl
  rw[aw];clear aw;obtain⟨xL,xW,xH,xF⟩:=x;simp only at e1 e3 ⊢;cases hcs:ZaZ sS eL ⟨xW,xH,sO.map Zc.Pane⟩ (.mk eo ea ep et ek) 5 with
  | none=>
   rw[hcs] at e3;unfold Zun at e3;simp only;unfold cpV;rw[Ze.enc_mk] at e3;refine cE ?_;simp +contextual -implicitDefEqProofs (maxSteps:=10^7) only[go_sem,seval,↓gZ,WQ,e1,e3]
  | some R=>
   obtain⟨ab,a5,_⟩:=Zlp hcs;rw[hcs] at e3;unfold Zun at e3;simp only;have e4:=ZdF xW xH (sO.map Zc.Pane) (.mk eo ea ep et ek);have ad:=Zw0 ab;have e5:=Zsp xW xH (sO.map Zc.Pane) (.mk eo ea ep et ek) 5 ab (by omega) (by omega);have e6:=Zvo xW xH (sO.map Zc.Pane) (.mk eo ea ep et ek) ab;have hu:=Zde ab;obtain⟨b,hb,a6,a7,aq,a0,a1⟩:=QM ab;have a2:=ZeK (l:=ZdA ⟨xW,xH,sO.map Zc.Pane⟩ (.mk eo ea ep et ek) 5) (fun c hc=>by
    obtain⟨z,hz,al⟩:=Lu.1 hc;unfold Uw at al;split at al
    ·cases al;exact Zb0 ab c hz
    ·cases al)
   have a8:(ZdA ⟨xW,xH,sO.map Zc.Pane⟩ (.mk eo ea ep et ek) 5).length≤255:=by
    refine Kr (Kn _ _) (Kr (Kn _ _) ?_);rw[a1,J3];exact aq
   have ax:=ZsP ab;generalize XV (ZdA ⟨xW,xH,sO.map Zc.Pane⟩ (.mk eo ea ep et ek) 5)=A at e5 a2 ⊢;generalize Zbw ⟨xW,xH,sO.map Zc.Pane⟩ (.mk eo ea ep et ek)=us at e6 hu ax ⊢;generalize (Qm ⟨xW,xH,sO.map Zc.Pane⟩ (.mk eo ea ep et ek)).filterMap QX=pl at e4 ad;rw[Ze.enc_mk] at e3 e4 e5 e6;simp only[KB] at hu;have u1:=wi (sL+A) (by omega) (by omega);cases hhb:Zsx (.mk eo ea ep et ek) with
   | false=>
    have ar:((pl.length:Int)=0):=by have:=ad.2 hhb;omega
    rw[Kg (by simp)];unfold cpV;refine cE ?_;simp +contextual -implicitDefEqProofs (maxSteps:=10^7) only[go_sem,seval,↓gZ,WQ,e1,e3,e4,ar]
   | true=>
    have ar:¬((pl.length:Int)=0):=fun h=>by
     have h1:pl.length=0:=by omega
     rw[ad.1 h1] at hhb;cases hhb
    obtain⟨vz,a3,au⟩:=ax hhb;rw[Kj rfl];refine cE ?_;simp +contextual -implicitDefEqProofs (maxSteps:=10^7) only[go_sem,seval,↓gZ,WQ,e1,e3,e4,e6,ar];refine LO (α:=Nat) (fun s=>[(65,.d (J (s:Int)))]) (fun _=>[]) (fun i=>i≤us.length∧YV ((sO.map Zc.Pane).drop i) (us.drop i) sO sD=YV (sO.map Zc.Pane) us sO sD∧∀ v∈us.take i,v=0) (fun i=>us.length-i) 0 ⟨by omega,rfl,by simp⟩ ?_;intro i ⟨hi,hp,av⟩ ih;by_cases am:i<us.length
    ·obtain⟨c,hc⟩:=Zo am;have an:i<sO.length:=by omega
     obtain⟨y,hy⟩:=Zo an;have hw:=Zh (k:=i) (by omega);have ae:=hu.2 c (Kb hc);have af:(sO.map Zc.Pane)[i]?=some y.Pane:=by rw[Ld,hy];rfl
     rw[Zki af hc] at hp;obtain⟨⟨W,H,T,K⟩,C⟩:=y;simp only at hp af;by_cases aa:c=0
     ·rw[Kj aa] at hp;simp +contextual -implicitDefEqProofs (maxSteps:=10^7) only[go_sem,seval,↓gZ,am,an,hy,hc,aa,hw];refine ih (i+1) _ ⟨by omega,hp,fun v hv=>?_⟩ (by omega) ?_
      ·rw[Ky,hc,Ke] at hv;rcases hv with hv | hv
       ·exact av v hv
       ·simp at hv;omega
      ·simp +contextual -implicitDefEqProofs (maxSteps:=10^7) only[go_sem,seval,↓gZ]
     ·rw[Kg aa] at hp;have et:=ZaL sO W H T K c (by omega) (ZeR hO) (fun x hx=>by have:=(Q3 hO x hx).2;unfold R64;omega);have ea:=ZbD sD W H T K c (by omega) (fun x hx=>by have:=(Q3 hD x hx).2;unfold R64;omega);unfold tkV at et;by_cases ag:Xl ⟨W,H,T,K⟩ c false sO=true
      ·rw[Kj ag] at hp et;simp +contextual -implicitDefEqProofs (maxSteps:=10^7) only[go_sem,seval,↓gZ,am,an,hy,hc,aa,hw,et,ea];refine Qw Xs Ms (st0:=?st1) (α:=Nat×List Zc×List Zc) (fun s=>[(65,.d (J (s.1:Int)))]) (fun s=>[(4,.row 5 (s.2.2.map Zc.enc) true false),(5,.row 5 (s.2.1.map Zc.enc) true false)]) (fun s=>s.1≤us.length∧YV ((sO.map Zc.Pane).drop s.1) (us.drop s.1) s.2.1 s.2.2=YV (sO.map Zc.Pane) us sO sD∧s.2.1.length≤8∧s.2.2.length≤8+s.1∧UL s.2.1∧UL s.2.2∧(∀ x∈s.2.1,0≤x.Count∧x.Count≤24)∧(∀ x∈s.2.2,0≤x.Count∧x.Count≤24+255*s.1)) (fun s=>us.length-s.1) (i+1,Yd sO ⟨W,H,T,K⟩ c,Vi ⟨W,H,T,K⟩ c sD) ?hc2 ⟨by simp only;omega,hp,Kr (Kn _ _) az,Kr (ZgQ _ _ _) (by simp only;omega),ZpJ (ZeR hO),Zyp (ZeR hD) (by omega),Zm3 ae.1 (fun x hx=>(Q3 hO x hx).2.2),fun x hx=>by
        have:=Zlo (hi:=24) ae.1 (by omega) (fun x hx=>by have:=(Q3 hD x hx).2;omega) x hx;simp only;omega⟩ ?h02 ?step2
       case hc2=>simp +contextual -implicitDefEqProofs (maxSteps:=10^7) only[go_sem,seval,↓gZ]<;>exact rfl
       case h02=>rfl
       case step2=>
        intro⟨j,o,d⟩ ⟨hj,hp,ho8,hd8,uo,ud,hoc,hdc⟩ ih;simp only at hj hp ho8 hd8 uo ud hoc hdc;by_cases ao:j<us.length
        ·obtain⟨c,hc⟩:=Zo ao;have ap:j<sO.length:=by omega
         obtain⟨y,hy⟩:=Zo ap;have hw:=Zh (k:=j) (by omega);have ae:=hu.2 c (Kb hc);have af:(sO.map Zc.Pane)[j]?=some y.Pane:=by rw[Ld,hy];rfl
         rw[Zki af hc] at hp;obtain⟨⟨W,H,T,K⟩,C⟩:=y;simp only at hp af;by_cases aa:c=0
         ·rw[Kj aa] at hp;simp +contextual -implicitDefEqProofs (maxSteps:=10^7) only[go_sem,seval,↓gZ,ao,ap,hy,hc,aa,hw];refine ih (j+1,o,d) _ ⟨by simp only;omega,hp,ho8,by simp only;omega,uo,ud,hoc,fun x hx=>by have:=hdc x hx;simp only;omega⟩ (by simp only;omega) ?_;simp +contextual -implicitDefEqProofs (maxSteps:=10^7) only[go_sem,seval,↓gZ]
         ·rw[Kg aa] at hp;have et:=ZaL o W H T K c (by omega) uo (fun x hx=>by have:=hoc x hx;unfold R64;omega);have ea:=ZbD d W H T K c (by omega) (fun x hx=>by have:=hdc x hx;unfold R64;omega);unfold tkV at et;by_cases ag:Xl ⟨W,H,T,K⟩ c false o=true
          ·rw[Kj ag] at hp et;simp +contextual -implicitDefEqProofs (maxSteps:=10^7) only[go_sem,seval,↓gZ,ao,ap,hy,hc,aa,hw,et,ea];refine ih (j+1,Yd o ⟨W,H,T,K⟩ c,Vi ⟨W,H,T,K⟩ c d) _ ⟨by simp only;omega,hp,Kr (Kn _ _) ho8,Kr (ZgQ _ _ _) (by simp only;omega),ZpJ uo,Zyp ud (by omega),Zm3 ae.1 (fun x hx=>(hoc x hx).2),fun x hx=>?_⟩ (by simp only;omega) ?_
           ·have:=Zlo ae.1 (by omega) hdc x hx;simp only;omega
           ·simp +contextual -implicitDefEqProofs (maxSteps:=10^7) only[go_sem,seval,↓gZ]
          ·rw[Kg ag] at hp et;simp +contextual -implicitDefEqProofs (maxSteps:=10^7) only[go_sem,seval,↓gZ,ao,ap,hy,hc,aa,hw,et];rw[← hp];rfl
        ·have:j=sO.length:=by omega
         subst this;have ay:=@Zs3 (sO.map Zc.Pane) (us.drop sO.length) o d;rw[KB] at ay;rw[ay] at hp;rw[← hp];unfold cpV;simp +contextual -implicitDefEqProofs (maxSteps:=10^7) only[go_sem,seval,↓gZ,e5,u1]
      ·rw[Kg ag] at hp et;simp +contextual -implicitDefEqProofs (maxSteps:=10^7) only[go_sem,seval,↓gZ,am,an,hy,hc,aa,hw,et];rw[← hp];rfl
    ·have:us.take i=us:=KC (by omega);rw[this] at av;exact absurd (av vz a3) au
end Go.Proofs.YthgciclhiaoecaaGreat
