/- Own text. -/
import Derived.Test.YtfnegoimdljanaaGreatDoorACode
import Derived.Test.YtfnegoimdljanaaGreatDoorAC1
import Derived.Test.YtfnegoimdljanaaGreatDoorAC6
import Derived.Test.YtfnegoimdljanaaGreatDoorAbsOkD
namespace Go.Proofs.YtfnegoimdljanaaGreatDoor
open Go Go.Abs Go.Abs.E Go.Abs.L
set_option linter.unusedSimpArgs false
set_option linter.unusedVariables false
set_option maxRecDepth 20000
set_option maxHeartbeats 4000000
def Zzx (l:List Zb) (n:Int):Option (Nat×Zb):=if 0≤QB 0 l n then (l[(QB 0 l n).toNat]?).map (fun x=>((QB 0 l n).toNat,x)) else none
theorem Zgp {l:List Zb} {n:Int} (h:QB 0 l n<0):Zzx l n=none:=by unfold Zzx;rw[Kd (by omega)]
theorem ZdB {l:List Zb} {n:Int} {a:Nat} {x:Zb} (h:QB 0 l n=(a:Int)) (hx:l[a]?=some x):Zzx l n=some (a,x):=by
 unfold Zzx;rw[h,Kg (by omega),Ky,hx];rfl
def evS (s:Zq) (e:Zn):Option Zq:=
 if e.kind=0 then (if (VC ⟨e.label,e.box.W,e.box.H,[]⟩ s.Stock∧e.box.X=0)∧e.box.Y=0 then some { s with Stock:=QC ⟨e.label,e.box.W,e.box.H,[]⟩ s.Stock,Came:=s.Came+e.box.W*e.box.H } else none)
 else if e.kind=1 then (match Zzx s.Stock e.label with
  | none=>none
  | some (a,q)=>if VC { q with Flaws:=q.Flaws++[e.box] } (s.Stock.eraseIdx a) then some { s with Stock:=QC { q with Flaws:=q.Flaws++[e.box] } (s.Stock.eraseIdx a) } else none)
 else if e.kind=5 then (match Zzx s.Stock e.label with
  | none=>none
  | some (a,q)=>some { s with Stock:=s.Stock.eraseIdx a,Lost:=s.Lost+q.W*q.H })
 else if e.kind=2 then (if VT e.line then some { s with Opn:=YB e.line.Pane e.line.Count s.Opn } else none)
 else if e.kind=4 then (if VT e.line∧Xr e.line.Pane e.line.Count false s.Done=true then some { s with Opn:=YB e.line.Pane e.line.Count s.Opn,Done:=XY s.Done e.line.Pane e.line.Count,Lost:=s.Lost+e.line.Count*e.line.Pane.W*e.line.Pane.H } else none)
 else if e.kind=3 then ZeG s e
 else none
def Y0 (t:Option Zq):Option Zq:=match t with
 | some t=>if ZK t then some t else none
 | none=>none
def Qt (s:Zq) (e:Zn):Option Zq:=Y0 (evS s e)
theorem ZgY {s t:Zq} {e:Zn} (h:Qt s e=some t):ZK t:=by
 unfold Qt Y0 at h;split at h
 ·split at h
  ·cases h;assumption
  ·cases h
 ·cases h
theorem Zgq {s t:Zq} (h:ZaL s) (ho:t.Opn.length≤1048576) (hd:t.Done.length≤1048576) (hs:VSt t.Stock):ZaL t:=
 ⟨by have:=hs.1;omega,fun x hx=>⟨(Zdz hs).2 x hx,Zmk (ZW hs.2 x hx)⟩,ho,hd⟩
theorem ZGP {s t:Zq} {e:Zn} (hv:WSh s) (h:ZeG s e=some t):VSt t.Stock∧t.Opn.length≤9∧t.Done.length≤1048576:=by
 have aa:∀ (ps:List Pane) (us:List Int) (o d o' d' : List Zc),Vi ps us o d=some (o',d')→o'.length≤o.length∧d'.length≤d.length+ps.length:=by
  intro ps
  induction ps with
  | nil=>intro us o d o' d' h;unfold Vi at h;cases h;simp
  | cons p ps ih=>
   intro us o d o' d' h;cases us with
   | nil=>unfold Vi at h;cases h;simp
   | cons c us=>
    rw[Vi] at h;split at h
    ·have:=ih _ _ _ _ _ h;simp;omega
    ·split at h
     ·have:=ih _ _ _ _ _ h;have h2:=Kr (ZiF p c) o;have h3:=ZdV p c d;unfold XY at this;simp;omega
     ·cases h
 unfold ZeG at h;split at h
 ·cases h
 ·split at h
  ·cases h
  ·rename_i R hR;obtain⟨_,ab,_⟩:=Zmp hR;split at h
   ·split at h
    ·cases h
    ·rename_i o d hg;cases h;have:=aa _ _ _ _ _ _ hg;have h8:=hv.2.1;have h9:=hv.2.2.2.1.1;rw[KC] at this;exact⟨ab,by simp only;omega,by simp only;omega⟩
   ·cases h
theorem ZaM (sS:List Zb) (sO sD:List Zc) (sL sC:Int) (eK eL eX eY eW eH aa ab:Int) (ad:Bool) (ae eC eo ea ep:Int) (et:Bool) (ek:List Ze) (hv:WSh (Zq.mk sS sO sD sL sC)) (k3:eK=3):Zd Xs Ms 52 [(.d (.agg [.sl (sS.map Zb.enc),.sl (sO.map Zc.enc),.sl (sD.map Zc.enc),J sL,J sC])),(.d (.agg [J eK,J eL,J eX,J eY,J eW,J eH,J aa,J ab,.bool ad,J ae,J eC,J eo,J ea,J ep,.bool et,.sl (ek.map Ze.enc)]))] []=some (shV (Qt (Zq.mk sS sO sD sL sC) (Zn.mk eK eL (Box.mk eX eY eW eH) (Zc.mk (Pane.mk aa ab ad ae) eC) (Ze.mk eo ea ep et ek)))):=by
 have aj:=(ZCO hv).1;have af:=ZuE sS sO sD sL sC eK eL eX eY eW eH aa ab ad ae eC eo ea ep et ek hv;subst k3;have ee:Qt (Zq.mk sS sO sD sL sC) (Zn.mk 3 eL ⟨eX,eY,eW,eH⟩ ⟨⟨aa,ab,ad,ae⟩,eC⟩ (.mk eo ea ep et ek))=Y0 (ZeG (Zq.mk sS sO sD sL sC) (Zn.mk 3 eL ⟨eX,eY,eW,eH⟩ ⟨⟨aa,ab,ad,ae⟩,eC⟩ (.mk eo ea ep et ek))):=by
  unfold Qt evS;simp
 rw[ee];have ah:=fun t=>ZGP (t:=t) (e:=Zn.mk 3 eL ⟨eX,eY,eW,eH⟩ ⟨⟨aa,ab,ad,ae⟩,eC⟩ (.mk eo ea ep et ek)) hv;cases hc:ZeG (Zq.mk sS sO sD sL sC) (Zn.mk 3 eL ⟨eX,eY,eW,eH⟩ ⟨⟨aa,ab,ad,ae⟩,eC⟩ (.mk eo ea ep et ek)) with
 | none=>
  rw[hc] at af;unfold Y0 shV at *;simp only;refine cE ?_;simp +contextual -implicitDefEqProofs (maxSteps:=10^7) only[go_sem,seval,Zx,af]
 | some t=>
  obtain⟨g1,g2,g3⟩:=ah t hc;rw[hc] at af;have ai:ZaL t:=Zgq aj (by omega) g3 g1;obtain⟨tS,tO,tD,tL,tC⟩:=t;have e1:=Vh _ _ _ _ _ ai;have e2:=V7 _ _ _ _ _ ai;unfold Y0;unfold shV at af;simp only at af;by_cases ag:ZK (Zq.mk tS tO tD tL tC)
  ·rw[Kh ag] at e1;simp only[Kg ag];unfold shV;refine cE ?_;simp +contextual -implicitDefEqProofs (maxSteps:=10^7) only[go_sem,seval,Zx,af,e1,e2]
  ·rw[Kj ag] at e1;simp only[Kd ag];unfold shV;refine cE ?_;simp +contextual -implicitDefEqProofs (maxSteps:=10^7) only[go_sem,seval,Zx,af,e1]
theorem Zig (sS:List Zb) (sO sD:List Zc) (sL sC:Int) (eK eL eX eY eW eH ab ad:Int) (ae:Bool) (af eC eo ea ep:Int) (et:Bool) (ek:List Ze) (hv:ZK (Zq.mk sS sO sD sL sC)) (hW:eK=0→I5 eW) (hH:eK=0→I5 eH):Zd Xs Ms 52 [(.d (.agg [.sl (sS.map Zb.enc),.sl (sO.map Zc.enc),.sl (sD.map Zc.enc),J sL,J sC])),(.d (.agg [J eK,J eL,J eX,J eY,J eW,J eH,J ab,J ad,.bool ae,J af,J eC,J eo,J ea,J ep,.bool et,.sl (ek.map Ze.enc)]))] []=some (shV (Qt (Zq.mk sS sO sD sL sC) (Zn.mk eK eL (Box.mk eX eY eW eH) (Zc.mk (Pane.mk ab ad ae af) eC) (Ze.mk eo ea ep et ek)))):=by
 have hS:=ZjR hv;have ai:=hS.1;have an:=hv.2.1.1;have ao:=hv.2.2.1.1;simp only at an ao;by_cases k0:eK=0
 ·have aa:=Zlc sS sO sD sL sC eK eL eX eY eW eH ab ad ae af eC eo ea ep et ek hS k0 (hW k0) (hH k0);rw[k0] at aa;by_cases hr:(VC ⟨eL,eW,eH,[]⟩ sS∧eX=0)∧eY=0
  ·have ee:Qt (Zq.mk sS sO sD sL sC) (Zn.mk eK eL (Box.mk eX eY eW eH) (Zc.mk (Pane.mk ab ad ae af) eC) (Ze.mk eo ea ep et ek))=Y0 (some (Zq.mk (QC ⟨eL,eW,eH,[]⟩ sS) sO sD sL (sC+eW*eH))):=by unfold Qt evS;simp only[k0,hr,Km,and_self]
   rw[ee];rw[Kh hr,Kg hr.1.1] at aa;have ah:ZaL (Zq.mk (QC ⟨eL,eW,eH,[]⟩ sS) sO sD sL (sC+eW*eH)):=Zgq ai (by simp only;omega) (by simp only;omega) hr.1.1.2;have e1:=Vh _ _ _ _ _ ah;have e2:=V7 _ _ _ _ _ ah;unfold Y0;generalize QC ⟨eL,eW,eH,[]⟩ sS=Q at aa e1 e2 ⊢;by_cases ag:ZK (Zq.mk Q sO sD sL (sC+eW*eH))
   ·rw[Kh ag] at e1;simp only[Kg ag];unfold shV;refine cE ?_;simp +contextual -implicitDefEqProofs (maxSteps:=10^7) only[go_sem,seval,Zx,k0,aa,e1,e2]
   ·rw[Kj ag] at e1;simp only[Kd ag];unfold shV;refine cE ?_;simp +contextual -implicitDefEqProofs (maxSteps:=10^7) only[go_sem,seval,Zx,k0,aa,e1]
  ·have ee:Qt (Zq.mk sS sO sD sL sC) (Zn.mk eK eL (Box.mk eX eY eW eH) (Zc.mk (Pane.mk ab ad ae af) eC) (Ze.mk eo ea ep et ek))=none:=by unfold Qt evS;simp only[k0,Km];rw[Kd hr];rfl
   rw[ee];rw[Kj hr] at aa;unfold shV;refine cE ?_;simp +contextual -implicitDefEqProofs (maxSteps:=10^7) only[go_sem,seval,Zx,k0,aa]
 ·by_cases aj:eK=1∨eK=5
  ·by_cases hf:QB 0 sS eL<0
   ·have aa:=Zp6 sS sO sD sL sC eK eL eX eY eW eH ab ad ae af eC eo ea ep et ek hS k0 hf;have ee:Qt (Zq.mk sS sO sD sL sC) (Zn.mk eK eL (Box.mk eX eY eW eH) (Zc.mk (Pane.mk ab ad ae af) eC) (Ze.mk eo ea ep et ek))=none:=by
     unfold Qt evS;rcases aj with k1 | k1<;>simp[k1,Zgp hf,Y0]
    rw[ee];unfold shV;refine cE ?_;rcases aj with k1 | k1
    ·rw[k1] at aa;simp +contextual -implicitDefEqProofs (maxSteps:=10^7) only[go_sem,seval,Zx,k1,aa]
    ·rw[k1] at aa;simp +contextual -implicitDefEqProofs (maxSteps:=10^7) only[go_sem,seval,Zx,k1,aa]
   ·obtain⟨a,x,ha,hx⟩:=ZbV (by omega:0≤QB 0 sS eL);have al:=ZdB ha hx;obtain⟨xL,xW,xH,xF⟩:=x;have am:=ZW hv.1.2 _ (Kc hx);by_cases k1:eK=1
    ·have aa:=Zml sS sO sD sL sC eK eL eX eY eW eH ab ad ae af eC eo ea ep et ek hv k1 a ha xL xW xH xF hx;rw[k1] at aa;by_cases hr:VC ⟨xL,xW,xH,xF++[⟨eX,eY,eW,eH⟩]⟩ (sS.eraseIdx a)
     ·have ee:Qt (Zq.mk sS sO sD sL sC) (Zn.mk eK eL (Box.mk eX eY eW eH) (Zc.mk (Pane.mk ab ad ae af) eC) (Ze.mk eo ea ep et ek))=Y0 (some (Zq.mk (QC ⟨xL,xW,xH,xF++[⟨eX,eY,eW,eH⟩]⟩ (sS.eraseIdx a)) sO sD sL sC)):=by
       unfold Qt evS;simp[k1,al,hr]
      rw[ee];rw[Kh hr,Kg hr] at aa;have ah:ZaL (Zq.mk (QC ⟨xL,xW,xH,xF++[⟨eX,eY,eW,eH⟩]⟩ (sS.eraseIdx a)) sO sD sL sC):=Zgq ai (by simp only;omega) (by simp only;omega) hr.2;have e1:=Vh _ _ _ _ _ ah;have e2:=V7 _ _ _ _ _ ah;unfold Y0;generalize QC ⟨xL,xW,xH,xF++[⟨eX,eY,eW,eH⟩]⟩ (sS.eraseIdx a)=Q at aa e1 e2 ⊢;by_cases ag:ZK (Zq.mk Q sO sD sL sC)
      ·rw[Kh ag] at e1;simp only[Kg ag];unfold shV;refine cE ?_;simp +contextual -implicitDefEqProofs (maxSteps:=10^7) only[go_sem,seval,Zx,k1,aa,e1,e2]
      ·rw[Kj ag] at e1;simp only[Kd ag];unfold shV;refine cE ?_;simp +contextual -implicitDefEqProofs (maxSteps:=10^7) only[go_sem,seval,Zx,k1,aa,e1]
     ·have ee:Qt (Zq.mk sS sO sD sL sC) (Zn.mk eK eL (Box.mk eX eY eW eH) (Zc.mk (Pane.mk ab ad ae af) eC) (Ze.mk eo ea ep et ek))=none:=by
       unfold Qt evS;simp[k1,al,hr,Y0]
      rw[ee];rw[Kj hr] at aa;unfold shV;refine cE ?_;simp +contextual -implicitDefEqProofs (maxSteps:=10^7) only[go_sem,seval,Zx,k1,aa]
    ·have k5:eK=5:=by omega
     have aa:=Zld sS sO sD sL sC eK eL eX eY eW eH ab ad ae af eC eo ea ep et ek hS k5 a ha xL xW xH xF hx (by have:=am.1;simp only at this;unfold I5;omega) (by have:=am.1;simp only at this;unfold I5;omega);rw[k5] at aa;have ee:Qt (Zq.mk sS sO sD sL sC) (Zn.mk eK eL (Box.mk eX eY eW eH) (Zc.mk (Pane.mk ab ad ae af) eC) (Ze.mk eo ea ep et ek))=Y0 (some (Zq.mk (sS.eraseIdx a) sO sD (sL+xW*xH) sC)):=by
      unfold Qt evS;simp[k5,al]
     rw[ee];have ah:ZaL (Zq.mk (sS.eraseIdx a) sO sD (sL+xW*xH) sC):=⟨by have:=ZnR sS a;have:=ai.1;simp only at this ⊢;omega,fun y hy=>ai.2.1 y (Kae hy),ai.2.2⟩
     have e1:=Vh _ _ _ _ _ ah;have e2:=V7 _ _ _ _ _ ah;unfold Y0;generalize sS.eraseIdx a=Q at aa e1 e2 ⊢;by_cases ag:ZK (Zq.mk Q sO sD (sL+xW*xH) sC)
     ·rw[Kh ag] at e1;simp only[Kg ag];unfold shV;refine cE ?_;simp +contextual -implicitDefEqProofs (maxSteps:=10^7) only[go_sem,seval,Zx,k5,aa,e1,e2]
     ·rw[Kj ag] at e1;simp only[Kd ag];unfold shV;refine cE ?_;simp +contextual -implicitDefEqProofs (maxSteps:=10^7) only[go_sem,seval,Zx,k5,aa,e1]
  ·have k1:¬eK=1:=fun h=>aj (.inl h);have k5:¬eK=5:=fun h=>aj (.inr h);by_cases ak:eK=2∨eK=4
   ·by_cases hl:VT ⟨⟨ab,ad,ae,af⟩,eC⟩
    ·by_cases k2:eK=2
     ·have aa:=Zmm sS sO sD sL sC eK eL eX eY eW eH ab ad ae af eC eo ea ep et ek hv hl k2;rw[k2] at aa;have ee:Qt (Zq.mk sS sO sD sL sC) (Zn.mk eK eL (Box.mk eX eY eW eH) (Zc.mk (Pane.mk ab ad ae af) eC) (Ze.mk eo ea ep et ek))=Y0 (some (Zq.mk sS (YB ⟨ab,ad,ae,af⟩ eC sO) sD sL sC)):=by
       unfold Qt evS;simp[k2,hl]
      rw[ee];have ah:ZaL (Zq.mk sS (YB ⟨ab,ad,ae,af⟩ eC sO) sD sL sC):=Zgq ai (Kx (ZdV _ _ _) (by omega)) (by simp only;omega) hv.1;have e1:=Vh _ _ _ _ _ ah;have e2:=V7 _ _ _ _ _ ah;unfold Y0;generalize YB ⟨ab,ad,ae,af⟩ eC sO=Q at aa e1 e2 ⊢;by_cases ag:ZK (Zq.mk sS Q sD sL sC)
      ·rw[Kh ag] at e1;simp only[Kg ag];unfold shV;refine cE ?_;simp +contextual -implicitDefEqProofs (maxSteps:=10^7) only[go_sem,seval,Zx,k2,aa,e1,e2]
      ·rw[Kj ag] at e1;simp only[Kd ag];unfold shV;refine cE ?_;simp +contextual -implicitDefEqProofs (maxSteps:=10^7) only[go_sem,seval,Zx,k2,aa,e1]
     ·have k4:eK=4:=by omega
      have aa:=Zmn sS sO sD sL sC eK eL eX eY eW eH ab ad ae af eC eo ea ep et ek hv hl k2;rw[k4] at aa;by_cases ht:Xr ⟨ab,ad,ae,af⟩ eC false sD=true
      ·rw[ht] at aa;have ee:Qt (Zq.mk sS sO sD sL sC) (Zn.mk eK eL (Box.mk eX eY eW eH) (Zc.mk (Pane.mk ab ad ae af) eC) (Ze.mk eo ea ep et ek))=Y0 (some (Zq.mk sS (YB ⟨ab,ad,ae,af⟩ eC sO) (XY sD ⟨ab,ad,ae,af⟩ eC) (sL+eC*ab*ad) sC)):=by
        unfold Qt evS;simp[k4,hl,ht]
       rw[ee];have ah:ZaL (Zq.mk sS (YB ⟨ab,ad,ae,af⟩ eC sO) (XY sD ⟨ab,ad,ae,af⟩ eC) (sL+eC*ab*ad) sC):=Zgq ai (Kx (ZdV _ _ _) (by omega)) (Kx (Kr _ _) (by omega)) hv.1;have e1:=Vh _ _ _ _ _ ah;have e2:=V7 _ _ _ _ _ ah;unfold Y0;generalize YB ⟨ab,ad,ae,af⟩ eC sO=Q at aa e1 e2 ⊢;generalize XY sD ⟨ab,ad,ae,af⟩ eC=R at aa e1 e2 ⊢;by_cases ag:ZK (Zq.mk sS Q R (sL+eC*ab*ad) sC)
       ·rw[Kh ag] at e1;simp only[Kg ag];unfold shV;refine cE ?_;simp +contextual -implicitDefEqProofs (maxSteps:=10^7) only[go_sem,seval,Zx,k4,aa,e1,e2]
       ·rw[Kj ag] at e1;simp only[Kd ag];unfold shV;refine cE ?_;simp +contextual -implicitDefEqProofs (maxSteps:=10^7) only[go_sem,seval,Zx,k4,aa,e1]
      ·have ee:Qt (Zq.mk sS sO sD sL sC) (Zn.mk eK eL (Box.mk eX eY eW eH) (Zc.mk (Pane.mk ab ad ae af) eC) (Ze.mk eo ea ep et ek))=none:=by
        unfold Qt evS;simp[k4,ht,Y0]
       rw[ee];simp only[LD] at ht;rw[ht] at aa;unfold shV;refine cE ?_;simp +contextual -implicitDefEqProofs (maxSteps:=10^7) only[go_sem,seval,Zx,k4,aa]
    ·have aa:=Zp7 sS sO sD sL sC eK eL eX eY eW eH ab ad ae af eC eo ea ep et ek hl;have ee:Qt (Zq.mk sS sO sD sL sC) (Zn.mk eK eL (Box.mk eX eY eW eH) (Zc.mk (Pane.mk ab ad ae af) eC) (Ze.mk eo ea ep et ek))=none:=by
      unfold Qt evS;rcases ak with k2 | k2<;>simp[k2,hl,Y0]
     rw[ee];unfold shV;refine cE ?_;rcases ak with k2 | k2
     ·rw[k2] at aa;simp +contextual -implicitDefEqProofs (maxSteps:=10^7) only[go_sem,seval,Zx,k2,aa]
     ·rw[k2] at aa;simp +contextual -implicitDefEqProofs (maxSteps:=10^7) only[go_sem,seval,Zx,k2,aa]
   ·have k2:¬eK=2:=fun h=>ak (.inl h);have k4:¬eK=4:=fun h=>ak (.inr h);by_cases k3:eK=3
    ·exact ZaM sS sO sD sL sC eK eL eX eY eW eH ab ad ae af eC eo ea ep et ek (ZCN hv) k3
    ·have ee:Qt (Zq.mk sS sO sD sL sC) (Zn.mk eK eL (Box.mk eX eY eW eH) (Zc.mk (Pane.mk ab ad ae af) eC) (Ze.mk eo ea ep et ek))=none:=by
      unfold Qt evS;simp[k0,k1,k5,k2,k4,k3,Y0]
     rw[ee];unfold shV;refine cE ?_;simp +contextual -implicitDefEqProofs (maxSteps:=10^7) only[go_sem,seval,Zx,k0,k1,k5,k2,k4,k3]
end Go.Proofs.YtfnegoimdljanaaGreatDoor
