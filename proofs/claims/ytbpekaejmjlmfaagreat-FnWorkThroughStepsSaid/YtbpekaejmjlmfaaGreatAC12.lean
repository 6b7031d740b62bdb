/- Own text. -/
import Derived.Test.YtbpekaejmjlmfaaGreatACode
import Derived.Test.YtbpekaejmjlmfaaGreatAbsParts
import Derived.Test.YtbpekaejmjlmfaaGreatAC8
import Derived.Test.YtbpekaejmjlmfaaGreatAC11
import Derived.Test.YtbpekaejmjlmfaaGreatAC1
namespace Go.Proofs.YtbpekaejmjlmfaaGreat
open Go Go.Abs Go.Abs.E Go.Abs.L
open Nat (reduceMul reduceSub reduceLeDiff reduceEqDiff)
open Int (reduceLE reduceEq reduceToNat reduceNeg)
set_option linter.unusedSimpArgs false
set_option linter.unusedVariables false
set_option maxRecDepth 20000
set_option maxHeartbeats 4000000
theorem Zvs (kW kH:Int) (kP:List Pane) (p:Ze) (hv:Q6 (Zs.mk kW kH kP) p=true):Zd Xs Ms Zdc [(.d (.agg [J kW,J kH,.sl (kP.map Pane.enc)])),.d p.enc] []=some (.own 0,[.row 1 ((Zck (Zs.mk kW kH kP) p).map Qg) true false]):=by
 have ev:=WS kW kH kP p;rw[hv] at ev;have e:=Zer kW kH kP p;obtain⟨b,hb,ai,ae,aj,aa,ab⟩:=QR hv;simp only at aa ab;have af:=ZbQ (x:=0) (y:=0) aa;have an:kP.length≤24:=ae.2.2.2.2.1;have ak:(plc b 0 0 kW kH).length≤255:=by
  have:=Kn Q8 (ZU (Zs.mk kW kH kP) p);rw[ab,WD,YR] at this;omega
 unfold Zck;rw[ab,YR] at e ⊢;generalize plc b 0 0 kW kH=L at e af ak ⊢;have al:(kP.length:Int)*((8:Nat):Int)≤((140737488355328:Nat):Int)∧kP.length≤140737488355328:=by omega
 have ad:(kP.length:Int)*8≤140737488355328∧(kP.length:Int)≤140737488355328:=by omega
 clear hv hb ai ae ab aa;obtain⟨o,a,q,t,ks⟩:=p;rw[Ze.enc_mk] at e ev ⊢;refine cE ?_;simp +contextual -implicitDefEqProofs (maxSteps:=10^7) only[go_sem,seval,↓gZ,ZjC,ev,e,rep_int,al,ad];refine LO (α:=Nat×List Int) (fun s=>[(20,.d (J (s.1:Int)))]) (fun s=>[(1,.row 1 (s.2.map Qg) true false)]) (fun s=>s.1≤L.length∧s.2.length=kP.length∧(∀ v∈s.2,0≤v∧v≤s.1)∧U7 s.2 (L.drop s.1)=U7 (List.replicate kP.length 0) L) (fun s=>L.length-s.1) (0,List.replicate kP.length 0) ⟨by simp,by simp,fun w hw=>by rw[L3 hw];omega,by simp⟩ ?_;intro⟨i,u⟩ ⟨hi,hul,huv,hp⟩ ih;simp only at hi hul huv hp;by_cases ag:i<L.length
 ·obtain⟨x,hx⟩:=Zl ag;have hw:=Zh (k:=i) (by omega);obtain⟨n,hn,am⟩:=af x (Kb hx);rw[Zpe hx,hn] at hp;obtain⟨q',t',⟨X,Y,W,H⟩⟩:=x;simp only at hn;subst hn;have ah:n<u.length:=by omega
  obtain⟨z,hz⟩:=Zl ah;have ao:=huv z (Kb hz);have u1:=wi (z+1) (by omega) (by omega);rw[KA,hz] at hp;simp +contextual -implicitDefEqProofs (maxSteps:=10^7) only[go_sem,seval,↓gZ,hx,ag,hw,am,ah,hz,u1,Zoo,hul];refine ih (i+1,u.set n (z+1)) _ ⟨by simp only;omega,by simpa using hul,fun v hv=>?_,hp⟩ (by simp only;omega) ?_
  ·simp only;rcases List.mem_or_eq_of_mem_set hv with h1 | rfl
   ·have:=huv v h1;omega
   ·omega
  ·simp +contextual -implicitDefEqProofs (maxSteps:=10^7) only[go_sem,seval,↓gZ,List.headD_cons,Zoo]
 ·have:i=L.length:=by omega
  subst this;rw[ZsT] at hp;simp +contextual -implicitDefEqProofs (maxSteps:=10^7) only[go_sem,seval,↓gZ,hp]
theorem Ze5:∀ (b:BT) (x y w h:Int),Zju b=false↔plc b x y w h=[]
 | .waste,x,y,w,h=>by simp[Zju,plc]
 | .pane i t,x,y,w,h=>by simp[Zju,plc]
 | .cut d a l r,x,y,w,h=>by
  cases d
  ·simp only[Zju,plc,Kah,Ka,Kj,Kab,Ze5 l x y w a,Ze5 r x (y+a) w (h-a)]
  ·simp only[Zju,plc,Kah,Kk,Kab,Ze5 l x y a h,Ze5 r (x+a) y (w-a) h]
theorem ZoJ:∀ (l:List L.Place) (u:List Int) (i:Nat) (v:Int),u[i]?=some v→∃ z,(U7 u l)[i]?=some z∧v≤z
 | [],u,i,v,h=>⟨v,h,Kaa _⟩
 | x :: l,u,i,v,h=>by
  rw[U7];by_cases hi:x.Pane.toNat=i
  ·obtain⟨z,h1,h2⟩:=ZoJ l (u.set x.Pane.toNat (u[x.Pane.toNat]?.getD 0+1)) i (v+1) (by
    rw[hi,h,LI];have:=(Kc.1 h).1;simp[this])
   exact⟨z,h1,by omega⟩
  ·obtain⟨z,h1,h2⟩:=ZoJ l (u.set x.Pane.toNat (u[x.Pane.toNat]?.getD 0+1)) i v (by
    rw[Lg hi,h])
   exact⟨z,h1,h2⟩
theorem ZzC {l:List L.Place} {u:List Int} (hl:l≠[]) (hu:∀ v∈u,0≤v) (hn:∀ c∈l,∃ n:Nat,c.Pane=(n:Int)∧n<u.length):∃ v∈U7 u l,v≠0:=by
 cases l with
 | nil=>exact absurd rfl hl
 | cons x l=>
  obtain⟨n,h1,h2⟩:=hn x (by simp);obtain⟨v,hv⟩:=Zl h2;have h0:=hu v (Kb hv);rw[U7,h1,KA,hv];obtain⟨z,h3,h4⟩:=ZoJ l (u.set n (v+1)) n (v+1) (by rw[LI];simp[h2]);refine⟨z,Kb (by simpa using h3),by omega⟩
theorem ZsH {k:Zs} {p:Ze} (hv:Q6 k p=true) (hp:ZrK p=true):∃ v∈Zck k p,v≠0:=by
 obtain⟨b,hb,ae,af,ab,aa,ad⟩:=QR hv;unfold ZrK at hp;rw[hb] at hp;simp only at hp;unfold Zck;rw[ad,YR];refine ZzC (fun h=>?_) (fun v hv=>by rw[L3 hv];omega) (fun c hc=>?_)
 ·rw[(Ze5 b _ _ _ _).2 h] at hp;cases hp
 ·obtain⟨n,h1,h2⟩:=ZbQ aa c hc;exact⟨n,h1,by simpa using h2⟩
theorem Zxo {k:Zs} {p:Ze} (hv:Q6 k p=true):(((ZU k p).filterMap Q8).length=0)↔ZrK p=false:=by
 obtain⟨b,hb,ae,af,aa,ab,ad⟩:=QR hv;unfold ZrK;rw[hb,ad,YR,List.length_eq_zero_iff];exact(Ze5 b _ _ _ _).symm
def cpV (S:List Zb) (O D:List Zc) (L C:Int):Option Zm→AV×List Zn
 | some t=>((.d (.bool true)),[.box [.own 4,.own 5,.own 6,(.d (J (t.Lost))),(.d (J (t.Came)))],.tree 4 4 (S.map Zb.enc) none,.row 5 (O.map Zc.enc) true false,.row 5 (D.map Zc.enc) true false,.tree 4 4 (t.Stock.map Zb.enc) none,.row 5 (t.Opn.map Zc.enc) true false,.row 5 (t.Done.map Zc.enc) true false])
 | none=>((.d (.bool false)),[.box [.own 1,.own 2,.own 3,(.d (J L)),(.d (J C))],.tree 4 4 (S.map Zb.enc) none,.row 5 (O.map Zc.enc) true false,.row 5 (D.map Zc.enc) true false])
theorem Zry (sS:List Zb) (sO sD:List Zc) (sL sC:Int) (eK eL eX eY eW eH ah ai:Int) (aj:Bool) (ak eC eo ea ep:Int) (et:Bool) (ek:List Ze) (hv:ZE (Zm.mk sS sO sD sL sC)):Zd Xs Ms Zam [.ptr 0 0,(.d (.agg [J eK,J eL,J eX,J eY,J eW,J eH,J ah,J ai,.bool aj,J ak,J eC,J eo,J ea,J ep,.bool et,.sl (ek.map Ze.enc)]))] [.box [.own 1,.own 2,.own 3,(.d (J sL)),(.d (J sC))],.tree 4 4 (sS.map Zb.enc) none,.row 5 (sO.map Zc.enc) true false,.row 5 (sD.map Zc.enc) true false]=some (cpV sS sO sD sL sC (ZdW (Zm.mk sS sO sD sL sC) (Zx.mk eK eL (Box.mk eX eY eW eH) (Zc.mk (Pane.mk ah ai aj ak) eC) (Ze.mk eo ea ep et ek)))):=by
 obtain⟨⟨h1,h2,h3,h4⟩,h5,h6,h7,h8,h9⟩:=ZlG hv;simp only at h1 h2 h3 h4 h5 h6 h7 h8 h9;have hO:=hv.2.1;have hD:=hv.2.2.1;simp only at hO hD;have az:=hO.1;have a4:=hD.1;have e1:=ZfI sS sO sD sL sC eL;unfold Zs2 at e1;rw[Kl hv] at e1;by_cases hf:QB 0 sS eL<0
 ·have ec:ZdW (Zm.mk sS sO sD sL sC) (Zx.mk eK eL (Box.mk eX eY eW eH) (Zc.mk (Pane.mk ah ai aj ak) eC) (Ze.mk eo ea ep et ek))=none:=by
   unfold ZdW;simp only;split
   ·rfl
   ·rw[ZsX hf]
  rw[ec];simp only[Zfd hf] at e1;unfold wkV at e1;simp only at e1;unfold cpV;refine cE ?_;simp +contextual -implicitDefEqProofs (maxSteps:=10^7) only[go_sem,seval,↓gZ,UH,e1]
 ·obtain⟨a,x,ha,hx⟩:=ZbP (by omega:0≤QB 0 sS eL);simp only[Zbl ha hx] at e1;unfold wkV at e1;simp only at e1;have e3:=ZrE sS eL x.W x.H (sO.map Zc.Pane) (.mk eo ea ep et ek) 5;have aw:ZdW (Zm.mk sS sO sD sL sC) (Zx.mk eK eL (Box.mk eX eY eW eH) (Zc.mk (Pane.mk ah ai aj ak) eC) (Ze.mk eo ea ep et ek))=match ZbO sS eL ⟨x.W,x.H,sO.map Zc.Pane⟩ (.mk eo ea ep et ek) 5 with
   | none=>none
   | some R=>if ZrK (.mk eo ea ep et ek)=true then
     match Vo (sO.map Zc.Pane) (Zck ⟨x.W,x.H,sO.map Zc.Pane⟩ (.mk eo ea ep et ek)) sO sD with
     | none=>none
     | some (o,d)=>some ⟨R,o,d,sL+QT (Zel ⟨x.W,x.H,sO.map Zc.Pane⟩ (.mk eo ea ep et ek) 5),sC⟩
    else none:=by
   unfold ZdW;simp only[ha,KA,hx];try rfl
  rw[aw];clear aw;obtain⟨xL,xW,xH,xF⟩:=x;simp only at e1 e3 ⊢;cases hcs:ZbO sS eL ⟨xW,xH,sO.map Zc.Pane⟩ (.mk eo ea ep et ek) 5 with
  | none=>
   rw[hcs] at e3;unfold Zuc at e3;simp only;unfold cpV;rw[Ze.enc_mk] at e3;refine cE ?_;simp +contextual -implicitDefEqProofs (maxSteps:=10^7) only[go_sem,seval,↓gZ,UH,e1,e3]
  | some R=>
   obtain⟨ab,a5,_⟩:=Zkq hcs;rw[hcs] at e3;unfold Zuc at e3;simp only;have e4:=Zer xW xH (sO.map Zc.Pane) (.mk eo ea ep et ek);have ad:=Zxo ab;have e5:=ZrC xW xH (sO.map Zc.Pane) (.mk eo ea ep et ek) 5 ab (by omega) (by omega);have e6:=Zvs xW xH (sO.map Zc.Pane) (.mk eo ea ep et ek) ab;have hu:=Zd2 ab;obtain⟨b,hb,a6,a7,aq,a0,a1⟩:=QR ab;have a2:=ZdN (l:=Zel ⟨xW,xH,sO.map Zc.Pane⟩ (.mk eo ea ep et ek) 5) (fun c hc=>by
    obtain⟨z,hz,al⟩:=Ls.1 hc;unfold Jt at al;split at al
    ·cases al;exact ZcP ab c hz
    ·cases al)
   have a8:(Zel ⟨xW,xH,sO.map Zc.Pane⟩ (.mk eo ea ep et ek) 5).length≤255:=by
    refine Kt (Kn _ _) (Kt (Kn _ _) ?_);rw[a1,WD];exact aq
   have ax:=ZsH ab;generalize QT (Zel ⟨xW,xH,sO.map Zc.Pane⟩ (.mk eo ea ep et ek) 5)=A at e5 a2 ⊢;generalize Zck ⟨xW,xH,sO.map Zc.Pane⟩ (.mk eo ea ep et ek)=us at e6 hu ax ⊢;generalize (ZU ⟨xW,xH,sO.map Zc.Pane⟩ (.mk eo ea ep et ek)).filterMap Q8=pl at e4 ad;rw[Ze.enc_mk] at e3 e4 e5 e6;simp only[Kv] at hu;have u1:=wi (sL+A) (by omega) (by omega);cases hhb:ZrK (.mk eo ea ep et ek) with
   | false=>
    have ar:((pl.length:Int)=0):=by have:=ad.2 hhb;omega
    rw[Ki (by simp)];unfold cpV;refine cE ?_;simp +contextual -implicitDefEqProofs (maxSteps:=10^7) only[go_sem,seval,↓gZ,UH,e1,e3,e4,ar]
   | true=>
    have ar:¬((pl.length:Int)=0):=fun h=>by
     have h1:pl.length=0:=by omega
     rw[ad.1 h1] at hhb;cases hhb
    obtain⟨vz,a3,au⟩:=ax hhb;rw[Kl rfl];refine cE ?_;simp +contextual -implicitDefEqProofs (maxSteps:=10^7) only[go_sem,seval,↓gZ,UH,e1,e3,e4,e6,ar];refine LO (α:=Nat) (fun s=>[(65,.d (J (s:Int)))]) (fun _=>[]) (fun i=>i≤us.length∧Vo ((sO.map Zc.Pane).drop i) (us.drop i) sO sD=Vo (sO.map Zc.Pane) us sO sD∧∀ v∈us.take i,v=0) (fun i=>us.length-i) 0 ⟨by omega,rfl,by simp⟩ ?_;intro i ⟨hi,hp,av⟩ ih;by_cases am:i<us.length
    ·obtain⟨c,hc⟩:=Zl am;have an:i<sO.length:=by omega
     obtain⟨y,hy⟩:=Zl an;have hw:=Zh (k:=i) (by omega);have ae:=hu.2 c (Kb hc);have af:(sO.map Zc.Pane)[i]?=some y.Pane:=by rw[Lc,hy];rfl
     rw[Zjv af hc] at hp;obtain⟨⟨W,H,T,K⟩,C⟩:=y;simp only at hp af;by_cases aa:c=0
     ·rw[Kl aa] at hp;simp +contextual -implicitDefEqProofs (maxSteps:=10^7) only[go_sem,seval,↓gZ,am,an,hy,hc,aa,hw];refine ih (i+1) _ ⟨by omega,hp,fun v hv=>?_⟩ (by omega) ?_
      ·rw[Kw,hc,Kf] at hv;rcases hv with hv | hv
       ·exact av v hv
       ·simp at hv;omega
      ·simp +contextual -implicitDefEqProofs (maxSteps:=10^7) only[go_sem,seval,↓gZ]
     ·rw[Ki aa] at hp;have et:=ZbC sO W H T K c (by omega) (Zfz hO) (fun x hx=>by have:=(QO hO x hx).2;unfold R64;omega);have ea:=Zcr sD W H T K c (by omega) (fun x hx=>by have:=(QO hD x hx).2;unfold R64;omega);unfold tkV at et;by_cases ag:Xe ⟨W,H,T,K⟩ c false sO=true
      ·rw[Kl ag] at hp et;simp +contextual -implicitDefEqProofs (maxSteps:=10^7) only[go_sem,seval,↓gZ,am,an,hy,hc,aa,hw,et,ea];refine XP Xs Ms (st0:=?st1) (α:=Nat×List Zc×List Zc) (fun s=>[(65,.d (J (s.1:Int)))]) (fun s=>[(4,.row 5 (s.2.2.map Zc.enc) true false),(5,.row 5 (s.2.1.map Zc.enc) true false)]) (fun s=>s.1≤us.length∧Vo ((sO.map Zc.Pane).drop s.1) (us.drop s.1) s.2.1 s.2.2=Vo (sO.map Zc.Pane) us sO sD∧s.2.1.length≤8∧s.2.2.length≤8+s.1∧UL s.2.1∧UL s.2.2∧(∀ x∈s.2.1,0≤x.Count∧x.Count≤24)∧(∀ x∈s.2.2,0≤x.Count∧x.Count≤24+255*s.1)) (fun s=>us.length-s.1) (i+1,XS sO ⟨W,H,T,K⟩ c,Yw ⟨W,H,T,K⟩ c sD) ?hc2 ⟨by simp only;omega,hp,Kt (Kn _ _) az,Kt (Zc4 _ _ _) (by simp only;omega),ZoF (Zfz hO),ZyT (Zfz hD) (by omega),ZlH ae.1 (fun x hx=>(QO hO x hx).2.2),fun x hx=>by
        have:=Zkp (hi:=24) ae.1 (by omega) (fun x hx=>by have:=(QO hD x hx).2;omega) x hx;simp only;omega⟩ ?h02 ?step2
       case hc2=>simp +contextual -implicitDefEqProofs (maxSteps:=10^7) only[go_sem,seval,↓gZ]<;>exact rfl
       case h02=>rfl
       case step2=>
        intro⟨j,o,d⟩ ⟨hj,hp,ho8,hd8,uo,ud,hoc,hdc⟩ ih;simp only at hj hp ho8 hd8 uo ud hoc hdc;by_cases ao:j<us.length
        ·obtain⟨c,hc⟩:=Zl ao;have ap:j<sO.length:=by omega
         obtain⟨y,hy⟩:=Zl ap;have hw:=Zh (k:=j) (by omega);have ae:=hu.2 c (Kb hc);have af:(sO.map Zc.Pane)[j]?=some y.Pane:=by rw[Lc,hy];rfl
         rw[Zjv af hc] at hp;obtain⟨⟨W,H,T,K⟩,C⟩:=y;simp only at hp af;by_cases aa:c=0
         ·rw[Kl aa] at hp;simp +contextual -implicitDefEqProofs (maxSteps:=10^7) only[go_sem,seval,↓gZ,ao,ap,hy,hc,aa,hw];refine ih (j+1,o,d) _ ⟨by simp only;omega,hp,ho8,by simp only;omega,uo,ud,hoc,fun x hx=>by have:=hdc x hx;simp only;omega⟩ (by simp only;omega) ?_;simp +contextual -implicitDefEqProofs (maxSteps:=10^7) only[go_sem,seval,↓gZ]
         ·rw[Ki aa] at hp;have et:=ZbC o W H T K c (by omega) uo (fun x hx=>by have:=hoc x hx;unfold R64;omega);have ea:=Zcr d W H T K c (by omega) (fun x hx=>by have:=hdc x hx;unfold R64;omega);unfold tkV at et;by_cases ag:Xe ⟨W,H,T,K⟩ c false o=true
          ·rw[Kl ag] at hp et;simp +contextual -implicitDefEqProofs (maxSteps:=10^7) only[go_sem,seval,↓gZ,ao,ap,hy,hc,aa,hw,et,ea];refine ih (j+1,XS o ⟨W,H,T,K⟩ c,Yw ⟨W,H,T,K⟩ c d) _ ⟨by simp only;omega,hp,Kt (Kn _ _) ho8,Kt (Zc4 _ _ _) (by simp only;omega),ZoF uo,ZyT ud (by omega),ZlH ae.1 (fun x hx=>(hoc x hx).2),fun x hx=>?_⟩ (by simp only;omega) ?_
           ·have:=Zkp ae.1 (by omega) hdc x hx;simp only;omega
           ·simp +contextual -implicitDefEqProofs (maxSteps:=10^7) only[go_sem,seval,↓gZ]
          ·rw[Ki ag] at hp et;simp +contextual -implicitDefEqProofs (maxSteps:=10^7) only[go_sem,seval,↓gZ,ao,ap,hy,hc,aa,hw,et];rw[← hp];rfl
        ·have:j=sO.length:=by omega
         subst this;have ay:=@ZsW (sO.map Zc.Pane) (us.drop sO.length) o d;rw[Kv] at ay;rw[ay] at hp;rw[← hp];unfold cpV;simp +contextual -implicitDefEqProofs (maxSteps:=10^7) only[go_sem,seval,↓gZ,e5,u1]
      ·rw[Ki ag] at hp et;simp +contextual -implicitDefEqProofs (maxSteps:=10^7) only[go_sem,seval,↓gZ,am,an,hy,hc,aa,hw,et];rw[← hp];rfl
    ·have:us.take i=us:=KB (by omega);rw[this] at av;exact absurd (av vz a3) au
end Go.Proofs.YtbpekaejmjlmfaaGreat
