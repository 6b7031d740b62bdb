import Derived.Test.YtfnegoimdljanaaGreatDoorBC6
set_option linter.unusedSimpArgs false
set_option linter.unusedVariables false
namespace Go.Proofs.YtfnegoimdljanaaGreatDoor
open Go Go.Abs Go.Abs.E Go.Abs.L
set_option maxRecDepth 20000
set_option maxHeartbeats 4000000
def Zyx (l:List Zb) (n:Int):Option (Nat×Zb):=if 0≤QD 0 l n then (l[(QD 0 l n).toNat]?).map (fun x=>((QD 0 l n).toNat,x)) else none
theorem Zfm {l:List Zb} {n:Int} (h:QD 0 l n<0):Zyx l n=none:=by unfold Zyx;rw[Kd o_]
theorem ZbY {l:List Zb} {n:Int} {a:Nat} {x:Zb} (h:QD 0 l n=(a:Int)) (hx:l[a]?=some x):Zyx l n=some (a,x):=by
 unfold Zyx;rw[h,Kg o_,Kz,hx];rfl
def evS (s:Zo) (e:Zl):Option Zo:=
 if e.kind=0 then (if (Vy ⟨e.label,e.box.W,e.box.H,[]⟩ s.Stock∧e.box.X=0)∧e.box.Y=0 then some { s with Stock:=QF ⟨e.label,e.box.W,e.box.H,[]⟩ s.Stock,Came:=s.Came+e.box.W*e.box.H } else none)
 else if e.kind=1 then (match Zyx s.Stock e.label with
  | none=>none
  | some (a,q)=>if Vy { q with Flaws:=q.Flaws++[e.box] } (s.Stock.eraseIdx a) then some { s with Stock:=QF { q with Flaws:=q.Flaws++[e.box] } (s.Stock.eraseIdx a) } else none)
 else if e.kind=5 then (match Zyx s.Stock e.label with
  | none=>none
  | some (a,q)=>some { s with Stock:=s.Stock.eraseIdx a,Lost:=s.Lost+q.W*q.H })
 else if e.kind=2 then (if VL e.line then some { s with Opn:=Yz e.line.Pane e.line.Count s.Opn } else none)
 else if e.kind=4 then (if VL e.line∧Xr e.line.Pane e.line.Count false s.Done=true then some { s with Opn:=Yz e.line.Pane e.line.Count s.Opn,Done:=XW s.Done e.line.Pane e.line.Count,Lost:=s.Lost+e.line.Count*e.line.Pane.W*e.line.Pane.H } else none)
 else if e.kind=3 then Zdj s e
 else none
def YW (t:Option Zo):Option Zo:=match t with
 | some t=>if ZI t then some t else none
 | none=>none
def Qs (s:Zo) (e:Zl):Option Zo:=YW (evS s e)
theorem ZcK {s t:Zo} {e:Zl} (h:Qs s e=some t):ZI t:=by
 unfold Qs YW at h;split at h
 ·split at h
  ·cases h;assumption
  ·cases h
 ·cases h
theorem Zfn {s t:Zo} (h:Zao s) (ho:t.Opn.length≤1048576) (hd:t.Done.length≤1048576) (hs:VSt t.Stock):Zao t:=
 ⟨by have:=hs.1;omega,fun x hx=>⟨(ZbW hs).2 x hx,ZmI (ZW hs.2 x hx)⟩,ho,hd⟩
theorem ZE5 {s t:Zo} {e:Zl} (hv:WSh s) (h:Zdj s e=some t):VSt t.Stock∧t.Opn.length≤9∧t.Done.length≤1048576:=by
 have aa:∀ (ps:List Pane) (us:List Int) (o d o' d' : List Zc),Ve ps us o d=some (o',d')→o'.length≤o.length∧d'.length≤d.length+ps.length:=by
  intro ps
  induction ps with
  | nil=>intro us o d o' d' h;unfold Ve at h;cases h;simp
  | cons p ps ih=>
   intro us o d o' d' h;cases us with
   | nil=>unfold Ve at h;cases h;simp
   | cons c us=>
    rw[Ve] at h;split at h
    ·have:=ih _ _ _ _ _ h;simp;omega
    ·split at h
     ·have:=ih _ _ _ _ _ h;have h2:=Ks (Zih p c) o;have h3:=ZcI p c d;unfold XW at this;simp;omega
     ·cases h
 unfold Zdj at h;split at h
 ·cases h
 ·split at h
  ·cases h
  ·rename_i R hR;obtain⟨_,ab,_⟩:=ZmN hR;split at h
   ·split at h
    ·cases h
    ·rename_i o d hg;cases h;have:=aa _ _ _ _ _ _ hg;have h8:=hv.2.1;have h9:=hv.2.2.2.1.1;rw[KG] at this;exact⟨ab,p_,p_⟩
   ·cases h
theorem Zap (sS:List Zb) (sO sD:List Zc) (sL sC:Int) (eK eL eX eY eW eH aa ab:Int) (ad:Bool) (ae eC eo ea ep:Int) (et:Bool) (ek:List Ze) (hv:WSh (Zo.mk sS sO sD sL sC)) (k3:eK=3):v_ 52 [(.d (.agg [.sl (sS.map Zb.enc),.sl (sO.map Zc.enc),.sl (sD.map Zc.enc),J sL,J sC])),(.d (.agg [J eK,J eL,J eX,J eY,J eW,J eH,J aa,J ab,.bool ad,J ae,J eC,J eo,J ea,J ep,.bool et,.sl (ek.map Ze.enc)]))] []=some (shV (Qs (Zo.mk sS sO sD sL sC) (Zl.mk eK eL (Box.mk eX eY eW eH) (Zc.mk (Pane.mk aa ab ad ae) eC) (Ze.mk eo ea ep et ek)))):=by
 have aj:=(ZA9 hv).1;have af:=ZtR sS sO sD sL sC eK eL eX eY eW eH aa ab ad ae eC eo ea ep et ek hv;subst k3;have ee:Qs (Zo.mk sS sO sD sL sC) (Zl.mk 3 eL ⟨eX,eY,eW,eH⟩ ⟨⟨aa,ab,ad,ae⟩,eC⟩ (.mk eo ea ep et ek))=YW (Zdj (Zo.mk sS sO sD sL sC) (Zl.mk 3 eL ⟨eX,eY,eW,eH⟩ ⟨⟨aa,ab,ad,ae⟩,eC⟩ (.mk eo ea ep et ek))):=by
  unfold Qs evS;simp
 rw[ee];have ah:=fun t=>ZE5 (t:=t) (e:=Zl.mk 3 eL ⟨eX,eY,eW,eH⟩ ⟨⟨aa,ab,ad,ae⟩,eC⟩ (.mk eo ea ep et ek)) hv;cases hc:Zdj (Zo.mk sS sO sD sL sC) (Zl.mk 3 eL ⟨eX,eY,eW,eH⟩ ⟨⟨aa,ab,ad,ae⟩,eC⟩ (.mk eo ea ep et ek)) with
 | none=>
  rw[hc] at af;unfold YW shV at *;simp only;refine cE ?_;simp (maxSteps:=9^7) +contextual -implicitDefEqProofs (maxSteps:=9^7) only[go_sem,seval,ZB,af]
 | some t=>
  obtain⟨g1,g2,g3⟩:=ah t hc;rw[hc] at af;have ai:Zao t:=Zfn aj o_ g3 g1;obtain⟨tS,tO,tD,tL,tC⟩:=t;have e1:=Vd _ _ _ _ _ ai;have e2:=VU _ _ _ _ _ ai;unfold YW;unfold shV at af;simp only at af;by_cases ag:ZI (Zo.mk tS tO tD tL tC)
  ·rw[Ki ag] at e1;simp only[Kg ag];unfold shV;refine cE ?_;simp (maxSteps:=9^7) +contextual -implicitDefEqProofs (maxSteps:=9^7) only[go_sem,seval,ZB,af,e1,e2]
  ·rw[Kk ag] at e1;simp only[Kd ag];unfold shV;refine cE ?_;simp (maxSteps:=9^7) +contextual -implicitDefEqProofs (maxSteps:=9^7) only[go_sem,seval,ZB,af,e1]
theorem Za8 (sS:List Zb) (sO sD:List Zc) (sL sC:Int) (eK eL eX eY eW eH ab ad:Int) (ae:Bool) (af eC eo ea ep:Int) (et:Bool) (ek:List Ze) (hv:ZI (Zo.mk sS sO sD sL sC)) (hW:eK=0→I5 eW) (hH:eK=0→I5 eH):v_ 52 [(.d (.agg [.sl (sS.map Zb.enc),.sl (sO.map Zc.enc),.sl (sD.map Zc.enc),J sL,J sC])),(.d (.agg [J eK,J eL,J eX,J eY,J eW,J eH,J ab,J ad,.bool ae,J af,J eC,J eo,J ea,J ep,.bool et,.sl (ek.map Ze.enc)]))] []=some (shV (Qs (Zo.mk sS sO sD sL sC) (Zl.mk eK eL (Box.mk eX eY eW eH) (Zc.mk (Pane.mk ab ad ae af) eC) (Ze.mk eo ea ep et ek)))):=by
 have hS:=ZjD hv;have ai:=hS.1;have an:=hv.2.1.1;have ao:=hv.2.2.1.1;simp only at an ao;by_cases k0:eK=0
 ·have aa:=Zk8 sS sO sD sL sC eK eL eX eY eW eH ab ad ae af eC eo ea ep et ek hS k0 (hW k0) (hH k0);rw[k0] at aa;by_cases hr:(Vy ⟨eL,eW,eH,[]⟩ sS∧eX=0)∧eY=0
  ·have ee:Qs (Zo.mk sS sO sD sL sC) (Zl.mk eK eL (Box.mk eX eY eW eH) (Zc.mk (Pane.mk ab ad ae af) eC) (Ze.mk eo ea ep et ek))=YW (some (Zo.mk (QF ⟨eL,eW,eH,[]⟩ sS) sO sD sL (sC+eW*eH))):=by unfold Qs evS;simp only[k0,hr,Km,and_self]
   rw[ee];rw[Ki hr,Kg hr.1.1] at aa;have ah:Zao (Zo.mk (QF ⟨eL,eW,eH,[]⟩ sS) sO sD sL (sC+eW*eH)):=Zfn ai p_ p_ hr.1.1.2;have e1:=Vd _ _ _ _ _ ah;have e2:=VU _ _ _ _ _ ah;unfold YW;generalize QF ⟨eL,eW,eH,[]⟩ sS=Q at aa e1 e2 ⊢;by_cases ag:ZI (Zo.mk Q sO sD sL (sC+eW*eH))
   ·rw[Ki ag] at e1;simp only[Kg ag];unfold shV;refine cE ?_;simp (maxSteps:=9^7) +contextual -implicitDefEqProofs (maxSteps:=9^7) only[go_sem,seval,ZB,k0,aa,e1,e2]
   ·rw[Kk ag] at e1;simp only[Kd ag];unfold shV;refine cE ?_;simp (maxSteps:=9^7) +contextual -implicitDefEqProofs (maxSteps:=9^7) only[go_sem,seval,ZB,k0,aa,e1]
  ·have ee:Qs (Zo.mk sS sO sD sL sC) (Zl.mk eK eL (Box.mk eX eY eW eH) (Zc.mk (Pane.mk ab ad ae af) eC) (Ze.mk eo ea ep et ek))=none:=by unfold Qs evS;simp only[k0,Km];rw[Kd hr];rfl
   rw[ee];rw[Kk hr] at aa;unfold shV;refine cE ?_;simp (maxSteps:=9^7) +contextual -implicitDefEqProofs (maxSteps:=9^7) only[go_sem,seval,ZB,k0,aa]
 ·by_cases aj:eK=1∨eK=5
  ·by_cases hf:QD 0 sS eL<0
   ·have aa:=Zp2 sS sO sD sL sC eK eL eX eY eW eH ab ad ae af eC eo ea ep et ek hS k0 hf;have ee:Qs (Zo.mk sS sO sD sL sC) (Zl.mk eK eL (Box.mk eX eY eW eH) (Zc.mk (Pane.mk ab ad ae af) eC) (Ze.mk eo ea ep et ek))=none:=by
     unfold Qs evS;rcases aj with k1 | k1<;>simp[k1,Zfm hf,YW]
    rw[ee];unfold shV;refine cE ?_;rcases aj with k1 | k1
    ·rw[k1] at aa;simp +contextual -implicitDefEqProofs (maxSteps:=9^7) only[go_sem,seval,ZB,k1,aa]
    ·rw[k1] at aa;simp +contextual -implicitDefEqProofs (maxSteps:=9^7) only[go_sem,seval,ZB,k1,aa]
   ·obtain⟨a,x,ha,hx⟩:=ZaR (by omega:0≤QD 0 sS eL);have al:=ZbY ha hx;obtain⟨xL,xW,xH,xF⟩:=x;have am:=ZW hv.1.2 _ (Kb hx);by_cases k1:eK=1
    ·have aa:=ZmJ sS sO sD sL sC eK eL eX eY eW eH ab ad ae af eC eo ea ep et ek hv k1 a ha xL xW xH xF hx;rw[k1] at aa;by_cases hr:Vy ⟨xL,xW,xH,xF++[⟨eX,eY,eW,eH⟩]⟩ (sS.eraseIdx a)
     ·have ee:Qs (Zo.mk sS sO sD sL sC) (Zl.mk eK eL (Box.mk eX eY eW eH) (Zc.mk (Pane.mk ab ad ae af) eC) (Ze.mk eo ea ep et ek))=YW (some (Zo.mk (QF ⟨xL,xW,xH,xF++[⟨eX,eY,eW,eH⟩]⟩ (sS.eraseIdx a)) sO sD sL sC)):=by
       unfold Qs evS;simp[k1,al,hr]
      rw[ee];rw[Ki hr,Kg hr] at aa;have ah:Zao (Zo.mk (QF ⟨xL,xW,xH,xF++[⟨eX,eY,eW,eH⟩]⟩ (sS.eraseIdx a)) sO sD sL sC):=Zfn ai p_ p_ hr.2;have e1:=Vd _ _ _ _ _ ah;have e2:=VU _ _ _ _ _ ah;unfold YW;generalize QF ⟨xL,xW,xH,xF++[⟨eX,eY,eW,eH⟩]⟩ (sS.eraseIdx a)=Q at aa e1 e2 ⊢;by_cases ag:ZI (Zo.mk Q sO sD sL sC)
      ·rw[Ki ag] at e1;simp only[Kg ag];unfold shV;refine cE ?_;simp (maxSteps:=9^7) +contextual -implicitDefEqProofs (maxSteps:=9^7) only[go_sem,seval,ZB,k1,aa,e1,e2]
      ·rw[Kk ag] at e1;simp only[Kd ag];unfold shV;refine cE ?_;simp (maxSteps:=9^7) +contextual -implicitDefEqProofs (maxSteps:=9^7) only[go_sem,seval,ZB,k1,aa,e1]
     ·have ee:Qs (Zo.mk sS sO sD sL sC) (Zl.mk eK eL (Box.mk eX eY eW eH) (Zc.mk (Pane.mk ab ad ae af) eC) (Ze.mk eo ea ep et ek))=none:=by
       unfold Qs evS;simp[k1,al,hr,YW]
      rw[ee];rw[Kk hr] at aa;unfold shV;refine cE ?_;simp (maxSteps:=9^7) +contextual -implicitDefEqProofs (maxSteps:=9^7) only[go_sem,seval,ZB,k1,aa]
    ·have k5:eK=5:=o_
     have aa:=Zk9 sS sO sD sL sC eK eL eX eY eW eH ab ad ae af eC eo ea ep et ek hS k5 a ha xL xW xH xF hx (by have:=am.1;simp only at this;unfold I5;omega) (by have:=am.1;simp only at this;unfold I5;omega);rw[k5] at aa;have ee:Qs (Zo.mk sS sO sD sL sC) (Zl.mk eK eL (Box.mk eX eY eW eH) (Zc.mk (Pane.mk ab ad ae af) eC) (Ze.mk eo ea ep et ek))=YW (some (Zo.mk (sS.eraseIdx a) sO sD (sL+xW*xH) sC)):=by
      unfold Qs evS;simp[k5,al]
     rw[ee];have ah:Zao (Zo.mk (sS.eraseIdx a) sO sD (sL+xW*xH) sC):=⟨by have:=Zoh sS a;have:=ai.1;simp only at this ⊢;omega,fun y hy=>ai.2.1 y (Kag hy),ai.2.2⟩
     have e1:=Vd _ _ _ _ _ ah;have e2:=VU _ _ _ _ _ ah;unfold YW;generalize sS.eraseIdx a=Q at aa e1 e2 ⊢;by_cases ag:ZI (Zo.mk Q sO sD (sL+xW*xH) sC)
     ·rw[Ki ag] at e1;simp only[Kg ag];unfold shV;refine cE ?_;simp (maxSteps:=9^7) +contextual -implicitDefEqProofs (maxSteps:=9^7) only[go_sem,seval,ZB,k5,aa,e1,e2]
     ·rw[Kk ag] at e1;simp only[Kd ag];unfold shV;refine cE ?_;simp (maxSteps:=9^7) +contextual -implicitDefEqProofs (maxSteps:=9^7) only[go_sem,seval,ZB,k5,aa,e1]
  ·have k1:¬eK=1:=fun h=>aj (.inl h);have k5:¬eK=5:=fun h=>aj (.inr h);by_cases ak:eK=2∨eK=4
   ·by_cases hl:VL ⟨⟨ab,ad,ae,af⟩,eC⟩
    ·by_cases k2:eK=2
     ·have aa:=ZmK sS sO sD sL sC eK eL eX eY eW eH ab ad ae af eC eo ea ep et ek hv hl k2;rw[k2] at aa;have ee:Qs (Zo.mk sS sO sD sL sC) (Zl.mk eK eL (Box.mk eX eY eW eH) (Zc.mk (Pane.mk ab ad ae af) eC) (Ze.mk eo ea ep et ek))=YW (some (Zo.mk sS (Yz ⟨ab,ad,ae,af⟩ eC sO) sD sL sC)):=by
       unfold Qs evS;simp[k2,hl]
      rw[ee];have ah:Zao (Zo.mk sS (Yz ⟨ab,ad,ae,af⟩ eC sO) sD sL sC):=Zfn ai (Ky (ZcI _ _ _) o_) p_ hv.1;have e1:=Vd _ _ _ _ _ ah;have e2:=VU _ _ _ _ _ ah;unfold YW;generalize Yz ⟨ab,ad,ae,af⟩ eC sO=Q at aa e1 e2 ⊢;by_cases ag:ZI (Zo.mk sS Q sD sL sC)
      ·rw[Ki ag] at e1;simp only[Kg ag];unfold shV;refine cE ?_;simp (maxSteps:=9^7) +contextual -implicitDefEqProofs (maxSteps:=9^7) only[go_sem,seval,ZB,k2,aa,e1,e2]
      ·rw[Kk ag] at e1;simp only[Kd ag];unfold shV;refine cE ?_;simp (maxSteps:=9^7) +contextual -implicitDefEqProofs (maxSteps:=9^7) only[go_sem,seval,ZB,k2,aa,e1]
     ·have k4:eK=4:=o_
      have aa:=ZmL sS sO sD sL sC eK eL eX eY eW eH ab ad ae af eC eo ea ep et ek hv hl k2;rw[k4] at aa;by_cases ht:Xr ⟨ab,ad,ae,af⟩ eC false sD=true
      ·rw[ht] at aa;have ee:Qs (Zo.mk sS sO sD sL sC) (Zl.mk eK eL (Box.mk eX eY eW eH) (Zc.mk (Pane.mk ab ad ae af) eC) (Ze.mk eo ea ep et ek))=YW (some (Zo.mk sS (Yz ⟨ab,ad,ae,af⟩ eC sO) (XW sD ⟨ab,ad,ae,af⟩ eC) (sL+eC*ab*ad) sC)):=by
        unfold Qs evS;simp[k4,hl,ht]
       rw[ee];have ah:Zao (Zo.mk sS (Yz ⟨ab,ad,ae,af⟩ eC sO) (XW sD ⟨ab,ad,ae,af⟩ eC) (sL+eC*ab*ad) sC):=Zfn ai (Ky (ZcI _ _ _) o_) (Ky (Ks _ _) o_) hv.1;have e1:=Vd _ _ _ _ _ ah;have e2:=VU _ _ _ _ _ ah;unfold YW;generalize Yz ⟨ab,ad,ae,af⟩ eC sO=Q at aa e1 e2 ⊢;generalize XW sD ⟨ab,ad,ae,af⟩ eC=R at aa e1 e2 ⊢;by_cases ag:ZI (Zo.mk sS Q R (sL+eC*ab*ad) sC)
       ·rw[Ki ag] at e1;simp only[Kg ag];unfold shV;refine cE ?_;simp (maxSteps:=9^7) +contextual -implicitDefEqProofs (maxSteps:=9^7) only[go_sem,seval,ZB,k4,aa,e1,e2]
       ·rw[Kk ag] at e1;simp only[Kd ag];unfold shV;refine cE ?_;simp (maxSteps:=9^7) +contextual -implicitDefEqProofs (maxSteps:=9^7) only[go_sem,seval,ZB,k4,aa,e1]
      ·have ee:Qs (Zo.mk sS sO sD sL sC) (Zl.mk eK eL (Box.mk eX eY eW eH) (Zc.mk (Pane.mk ab ad ae af) eC) (Ze.mk eo ea ep et ek))=none:=by
        unfold Qs evS;simp[k4,ht,YW]
       rw[ee];simp only[LD] at ht;rw[ht] at aa;unfold shV;refine cE ?_;simp (maxSteps:=9^7) +contextual -implicitDefEqProofs (maxSteps:=9^7) only[go_sem,seval,ZB,k4,aa]
    ·have aa:=Zp3 sS sO sD sL sC eK eL eX eY eW eH ab ad ae af eC eo ea ep et ek hl;have ee:Qs (Zo.mk sS sO sD sL sC) (Zl.mk eK eL (Box.mk eX eY eW eH) (Zc.mk (Pane.mk ab ad ae af) eC) (Ze.mk eo ea ep et ek))=none:=by
      unfold Qs evS;rcases ak with k2 | k2<;>simp[k2,hl,YW]
     rw[ee];unfold shV;refine cE ?_;rcases ak with k2 | k2
     ·rw[k2] at aa;simp +contextual -implicitDefEqProofs (maxSteps:=9^7) only[go_sem,seval,ZB,k2,aa]
     ·rw[k2] at aa;simp +contextual -implicitDefEqProofs (maxSteps:=9^7) only[go_sem,seval,ZB,k2,aa]
   ·have k2:¬eK=2:=fun h=>ak (.inl h);have k4:¬eK=4:=fun h=>ak (.inr h);by_cases k3:eK=3
    ·exact Zap sS sO sD sL sC eK eL eX eY eW eH ab ad ae af eC eo ea ep et ek (Zwz hv) k3
    ·have ee:Qs (Zo.mk sS sO sD sL sC) (Zl.mk eK eL (Box.mk eX eY eW eH) (Zc.mk (Pane.mk ab ad ae af) eC) (Ze.mk eo ea ep et ek))=none:=by
      unfold Qs evS;simp[k0,k1,k5,k2,k4,k3,YW]
     rw[ee];unfold shV;refine cE ?_;simp (maxSteps:=9^7) +contextual -implicitDefEqProofs (maxSteps:=9^7) only[go_sem,seval,ZB,k0,k1,k5,k2,k4,k3]
end Go.Proofs.YtfnegoimdljanaaGreatDoor
namespace Go.Proofs.YtfnegoimdljanaaGreatDoor
open Go Go.Abs Go.Abs.E Go.Abs.L
set_option maxRecDepth 20000
set_option maxHeartbeats 4000000
def ZsZ (F:List Box) (W w h y:Int):Nat→Int→Option Box
 | 0,_=>none
 | n+1,x=>if x+w≤W then (if Z8 F ⟨x,y,w,h⟩ then some ⟨x,y,w,h⟩ else ZsZ F W w h y n (x+1)) else none
def Zs0 (F:List Box) (W H w h:Int):Nat→Int→Option Box
 | 0,_=>none
 | n+1,y=>if y+h≤H then (match ZsZ F W w h y (W.toNat+1) 0 with
  | some b=>some b
  | none=>Zs0 F W H w h n (y+1)) else none
def Xh (q:Zb) (w h:Int):Option Box:=Zs0 q.Flaws q.W q.H w h (q.H.toNat+1) 0
theorem Zvm {F:List Box} {W w h y:Int}:∀ {n:Nat} {x:Int} {b:Box},ZsZ F W w h y n x=some b→x≤b.X∧b.X+w≤W∧b.Y=y∧b.W=w∧b.H=h∧Z8 F b
 | 0,x,b,e=>by simp[ZsZ] at e
 | n+1,x,b,e=>by
  unfold ZsZ at e;split at e
  ·split at e
   ·cases e;exact⟨Kai _,by assumption,rfl,rfl,rfl,by assumption⟩
   ·obtain⟨h1,h2⟩:=Zvm e;exact⟨o_,h2⟩
  ·cases e
theorem Zvn {F:List Box} {W H w h:Int}:∀ {n:Nat} {y:Int} {b:Box},Zs0 F W H w h n y=some b→0≤b.X∧b.X+w≤W∧y≤b.Y∧b.Y+h≤H∧b.W=w∧b.H=h∧Z8 F b
 | 0,y,b,e=>by simp[Zs0] at e
 | n+1,y,b,e=>by
  unfold Zs0 at e;split at e
  ·rename_i hy;split at e
   ·rename_i c hc;cases e;obtain⟨h1,h2,h3,h4,h5,h6⟩:=Zvm hc;exact⟨h1,h2,o_,o_,h4,h5,h6⟩
   ·obtain⟨h1,h2,h3,h4⟩:=Zvn e;exact⟨h1,h2,o_,h4⟩
  ·cases e
theorem ZaT {q:Zb} {w h:Int} {b:Box} (e:Xh q w h=some b):0≤b.X∧b.X+w≤q.W∧0≤b.Y∧b.Y+h≤q.H∧b.W=w∧b.H=h∧Z8 q.Flaws b:=Zvn e
def fcV:Option Box→AV×List Zm
 | some b=>(.tup [.d b.enc,(.d (.bool true))],[])
 | none=>(.tup [.d (.agg [J 0,J 0,J 0,J 0]),(.d (.bool false))],[])
theorem UC (qL qW qH:Int) (qF:List Box) (w h:Int) (hq:VPc (Zb.mk qL qW qH qF)) (hw:1≤w∧w≤200) (hh:1≤h∧h≤200):v_ 98 [(.d (.agg [J qL,J qW,J qH,.sl (qF.map Box.enc)])),(.d (J w)),(.d (J h))] []=some (fcV (Xh (Zb.mk qL qW qH qF) w h)):=by
 have hF:∀ f∈qF,VB f:=fun f hf=>(hq.2 f hf).1;obtain⟨_,_,af,ag,ah,ai,aj⟩:=hq.1;simp only at af ag ah ai aj;clear hq;unfold Xh;simp only;refine cE ?_;simp (maxSteps:=9^7) +contextual -implicitDefEqProofs only[go_sem,seval,ZiZ];refine LO (α:=Nat) (fun y=>[(8,.d (J (y:Int)))]) (fun _=>[]) (fun y=>(y:Int)≤qH∧Zs0 qF qW qH w h (qH.toNat+1-y) y=Zs0 qF qW qH w h (qH.toNat+1) 0) (fun y=>qH.toNat+1-y) 0 ⟨o_,by simp⟩ ?_;intro y ⟨hy,hp⟩ ih;obtain⟨n,hn⟩:∃ n,qH.toNat+1-y=n+1:=⟨qH.toNat-y,o_⟩
 rw[hn,Zs0] at hp;have wy:=wi ((y:Int)+h) o_ o_;by_cases ad:(y:Int)+h≤qH
 ·rw[Kg ad] at hp;simp +contextual -implicitDefEqProofs only[go_sem,seval,wy,ad];refine X1 Xs Ms (st0:=?st1) (α:=Nat) (fun x=>[(9,.d (J (x:Int)))]) (fun _=>[]) (fun x=>(x:Int)≤qW∧ZsZ qF qW w h y (qW.toNat+1-x) x=ZsZ qF qW w h y (qW.toNat+1) 0) (fun x=>qW.toNat+1-x) 0 ?hc2 ⟨o_,by simp⟩ ?h02 ?step2
  case hc2=>simp +contextual -implicitDefEqProofs only[go_sem,seval]<;>exact rfl
  case h02=>rfl
  case step2=>
   intro x ⟨hx,aa⟩ ak;obtain⟨m,hm⟩:∃ m,qW.toNat+1-x=m+1:=⟨qW.toNat-x,o_⟩
   rw[hm,ZsZ] at aa;have wx:=wi ((x:Int)+w) o_ o_;have al:=Zg (k:=x) o_;have am:=Zg (k:=y) o_;by_cases ab:(x:Int)+w≤qW
   ·rw[Kg ab] at aa;have ec:=Zmx qL qW qH qF x y w h hF (by simp only[VB];omega) o_;by_cases ae:Z8 qF ⟨x,y,w,h⟩
    ·rw[Kg ae] at aa;rw[← aa] at hp;simp only at hp;rw[Ki ae] at ec;simp +contextual -implicitDefEqProofs only[go_sem,seval,wx,ab,ec];rw[← hp];rfl
    ·rw[Kd ae] at aa;rw[Kk ae] at ec;simp +contextual -implicitDefEqProofs only[go_sem,seval,wx,ab,ec,al];refine ak (x+1) _ ⟨o_,?_⟩ o_ ?_
     ·rw[← aa];have:qW.toNat+1-(x+1)=m:=o_
      rw[this];rfl
     ·simp +contextual -implicitDefEqProofs only[go_sem,seval]
   ·rw[Kd ab] at aa;rw[← aa] at hp;simp only at hp;simp +contextual -implicitDefEqProofs only[go_sem,seval,wx,ab,am];refine ih (y+1) _ ⟨o_,?_⟩ o_ ?_
    ·rw[← hp];have:qH.toNat+1-(y+1)=n:=o_
     rw[this];rfl
    ·simp +contextual -implicitDefEqProofs only[go_sem,seval]
 ·rw[Kd ad] at hp;simp +contextual -implicitDefEqProofs only[go_sem,seval,wy,ad];rw[← hp];rfl
def okP (p:Pane) (q:Zb):Bool:=(Xh q p.W p.H).isSome || (p.Turns&&(Xh q p.H p.W).isSome)
def Zgg (l:List Zb) (b:Int):Int:=match l[b.toNat]? with
 | some q=>q.W*q.H
 | none=>0
def Za9 (L:List Zb) (p:Pane):List Zb→Nat→Int→Int
 | [],_,b=>b
 | x :: r,i,b=>Za9 L p r (i+1) (if okP p x=true∧(b<0∨x.W*x.H<Zgg L b) then (i:Int) else b)
theorem Zpe {L l:List Zb} {p:Pane} {k i:Nat} {x:Zb} {b:Int} (hx:l[k]?=some x):Za9 L p (l.drop k) i b=Za9 L p (l.drop (k+1)) (i+1) (if okP p x=true∧(b<0∨x.W*x.H<Zgg L b) then (i:Int) else b):=by
 obtain⟨h1,h2⟩:=Kc.1 hx;rw[Ku h1,h2,Za9]
theorem Zs1 {L l:List Zb} {p:Pane} {i:Nat} {b:Int}:Za9 L p (l.drop l.length) i b=b:=by simp[Za9]
def ZdG (L:List Zb) (p:Pane):Int:=Za9 L p L 0 (-1)
def Zvo (L:List Zb) (p:Pane):Int:=if VSt L∧VP p then (if ZdG L p<0 then 0 else match L[(ZdG L p).toNat]? with
 | some q=>q.Label
 | none=>0) else 0
theorem Zvp (L:List Zb) (p:Pane):∀ (l:List Zb) (i:Nat) (b:Int),(∀ (j:Nat) (x:Zb),l[j]?=some x→L[i+j]?=some x)→(b<0∨∃ (j:Nat) (x:Zb),b=(j:Int)∧L[j]?=some x∧okP p x=true)→Za9 L p l i b<0∨∃ (j:Nat) (x:Zb),Za9 L p l i b=(j:Int)∧L[j]?=some x∧okP p x=true
 | [],i,b,_,hb=>hb
 | x :: r,i,b,hl,hb=>by
  unfold Za9;refine Zvp L p r (i+1) _ (fun j y hy=>by have:=hl (j+1) y (by simpa using hy);rw[show i+1+j=i+(j+1) by omega];exact this) ?_;split
  ·rename_i hc;exact .inr ⟨i,x,rfl,by have:=hl 0 x (by simp);simpa using this,hc.1⟩
  ·exact hb
theorem Zs2 (L:List Zb) (p:Pane):ZdG L p<0∨∃ (j:Nat) (x:Zb),ZdG L p=(j:Int)∧L[j]?=some x∧okP p x=true:=
 Zvp L p L 0 (-1) (fun j x h=>by simpa using h) (.inl o_)
theorem Zs3 (l:List Zb) (pW pH:Int) (pT:Bool) (pK:Int) (hv:VSt l) (hp:VP (Pane.mk pW pH pT pK)):v_ 96 [(.d (.sl (l.map Zb.enc))),(.d (.agg [J pW,J pH,.bool pT,J pK]))] []=some ((.d (J (Zvo l (Pane.mk pW pH pT pK)))),[]):=by
 have e1:=YI l (by have:=hv.1;omega) (fun x hx=>⟨by have:=(ZbW hv).2 x hx;omega,ZmI (ZW hv.2 x hx)⟩);have e2:=Vb pW pH pT pK;rw[Ki hv] at e1;rw[Ki hp] at e2;have ad:=fun x hx=>ZW hv.2 x hx;have aj:=hv.1;unfold Zvo;rw[Kg ⟨hv,hp⟩];have ae:1≤pW∧pW≤200∧1≤pH∧pH≤200:=⟨hp.1,hp.2.1,hp.2.2.1,hp.2.2.2.1⟩
 clear hv hp;refine cE ?_;simp (maxSteps:=9^7) +contextual -implicitDefEqProofs only[go_sem,seval,Zkj,e1,e2];refine LO (α:=Nat×Int) (fun s=>[(6,.d (J (s.1:Int))),(5,.d (J s.2))]) (fun _=>[]) (fun s=>s.1≤l.length∧Za9 l (Pane.mk pW pH pT pK) (l.drop s.1) s.1 s.2=ZdG l (Pane.mk pW pH pT pK)∧(s.2=-1∨∃ j:Nat,s.2=(j:Int)∧j<l.length)) (fun s=>l.length-s.1) (0,-1) ⟨by simp,by simp[ZdG],.inl rfl⟩ ?_;intro⟨i,b⟩ ⟨hi,hq,hb⟩ ih;simp only at hi hq hb;by_cases ab:i<l.length
 ·obtain⟨x,hx⟩:=Zn ab;have hw:=Zg (k:=i) o_;rw[Zpe hx] at hq;have ag:=ad x (Kb hx);have f1:=UC x.Label x.W x.H x.Flaws pW pH ag ⟨ae.1,ae.2.1⟩ ae.2.2;have f2:=UC x.Label x.W x.H x.Flaws pH pW ag ae.2.2 ⟨ae.1,ae.2.1⟩;have am:=ag.1;have ak:0≤x.W*x.H∧x.W*x.H≤40000:=Jq (b:=⟨0,0,x.W,x.H⟩) (by simp only[VB];omega);have aa:okP (Pane.mk pW pH pT pK) x=((Xh ⟨x.Label,x.W,x.H,x.Flaws⟩ pW pH).isSome || (pT&&(Xh ⟨x.Label,x.W,x.H,x.Flaws⟩ pH pW).isSome)):=rfl;obtain⟨L,W,H,F⟩:=x;simp only at f1 f2 ak aa;have u1:=wi (W*H) o_ o_;cases h1:Xh ⟨L,W,H,F⟩ pW pH with
  | some b1=>
   rw[h1] at f1 aa;unfold fcV at f1;simp only[KV,Bool.true_or] at aa;obtain⟨bX,bY,bW,bH⟩:=b1;rcases hb with hb | ⟨j,hb,hj⟩
   ·subst hb;rw[Kg ⟨aa,.inl o_⟩] at hq;simp +contextual -implicitDefEqProofs only[go_sem,seval,hx,ab,hw,f1];refine ih (i+1,(i:Int)) _ ⟨p_,hq,.inr ⟨i,rfl,ab⟩⟩ p_ ?_;simp +contextual -implicitDefEqProofs only[go_sem,seval]
   ·subst hb;obtain⟨y,hy⟩:=Zn hj;have al:=(ad y (Kb hy)).1;have ah:0≤y.W*y.H∧y.W*y.H≤40000:=Jq (b:=⟨0,0,y.W,y.H⟩) (by simp only[VB];omega);have af:¬(j:Int)<0:=o_
    have ai:Zgg l (j:Int)=y.W*y.H:=by unfold Zgg;rw[Kz,hy]
    rw[ai] at hq;obtain⟨yL,yW,yH,yF⟩:=y;simp only at ah hq;have u2:=wi (yW*yH) o_ o_;by_cases hc:W*H<yW*yH
    ·rw[Kg ⟨aa,.inr hc⟩] at hq;simp +contextual -implicitDefEqProofs only[go_sem,seval,hx,ab,hw,af,hj,hy,u1,u2,hc,f1];refine ih (i+1,(i:Int)) _ ⟨p_,hq,.inr ⟨i,rfl,ab⟩⟩ p_ ?_;simp +contextual -implicitDefEqProofs only[go_sem,seval]
    ·rw[Kd (fun h=>by rcases h.2 with h | h<;>omega)] at hq;simp +contextual -implicitDefEqProofs only[go_sem,seval,hx,ab,hw,af,hj,hy,u1,u2,hc,f1];refine ih (i+1,(j:Int)) _ ⟨p_,hq,.inr ⟨j,rfl,hj⟩⟩ p_ ?_;simp +contextual -implicitDefEqProofs only[go_sem,seval]
  | none=>
   rw[h1] at f1 aa;unfold fcV at f1;cases pT with
   | false=>
    simp only[Kv,Bool.false_and,Bool.or_self] at aa;rw[Kd (fun h=>by rw[aa] at h;exact absurd h.1 (by simp))] at hq;simp +contextual -implicitDefEqProofs only[go_sem,seval,hx,ab,hw,f1];refine ih (i+1,b) _ ⟨p_,hq,hb⟩ p_ ?_;simp +contextual -implicitDefEqProofs only[go_sem,seval]
   | true=>
    cases h2:Xh ⟨L,W,H,F⟩ pH pW with
    | none=>
     rw[h2] at f2 aa;unfold fcV at f2;simp only[Kv,Kal,Bool.or_self] at aa;rw[Kd (fun h=>by rw[aa] at h;exact absurd h.1 (by simp))] at hq;simp +contextual -implicitDefEqProofs only[go_sem,seval,hx,ab,hw,f1,f2];refine ih (i+1,b) _ ⟨p_,hq,hb⟩ p_ ?_;simp +contextual -implicitDefEqProofs only[go_sem,seval]
    | some b2=>
     rw[h2] at f2 aa;unfold fcV at f2;simp only[KV,Kv,Kal,LU] at aa;obtain⟨bX,bY,bW,bH⟩:=b2;rcases hb with hb | ⟨j,hb,hj⟩
     ·subst hb;rw[Kg ⟨aa,.inl o_⟩] at hq;simp +contextual -implicitDefEqProofs only[go_sem,seval,hx,ab,hw,f1,f2];refine ih (i+1,(i:Int)) _ ⟨p_,hq,.inr ⟨i,rfl,ab⟩⟩ p_ ?_;simp +contextual -implicitDefEqProofs only[go_sem,seval]
     ·subst hb;obtain⟨y,hy⟩:=Zn hj;have al:=(ad y (Kb hy)).1;have ah:0≤y.W*y.H∧y.W*y.H≤40000:=Jq (b:=⟨0,0,y.W,y.H⟩) (by simp only[VB];omega);have af:¬(j:Int)<0:=o_
      have ai:Zgg l (j:Int)=y.W*y.H:=by unfold Zgg;rw[Kz,hy]
      rw[ai] at hq;obtain⟨yL,yW,yH,yF⟩:=y;simp only at ah hq;have u2:=wi (yW*yH) o_ o_;by_cases hc:W*H<yW*yH
      ·rw[Kg ⟨aa,.inr hc⟩] at hq;simp +contextual -implicitDefEqProofs only[go_sem,seval,hx,ab,hw,af,hj,hy,u1,u2,hc,f1,f2];refine ih (i+1,(i:Int)) _ ⟨p_,hq,.inr ⟨i,rfl,ab⟩⟩ p_ ?_;simp +contextual -implicitDefEqProofs only[go_sem,seval]
      ·rw[Kd (fun h=>by rcases h.2 with h | h<;>omega)] at hq;simp +contextual -implicitDefEqProofs only[go_sem,seval,hx,ab,hw,af,hj,hy,u1,u2,hc,f1,f2];refine ih (i+1,(j:Int)) _ ⟨p_,hq,.inr ⟨j,rfl,hj⟩⟩ p_ ?_;simp +contextual -implicitDefEqProofs only[go_sem,seval]
 ·have:i=l.length:=o_
  subst this;rw[Zs1] at hq;subst hq;rcases hb with hb | ⟨j,hb,hj⟩
  ·have h0:ZdG l (Pane.mk pW pH pT pK)<0:=o_
   simp +contextual -implicitDefEqProofs only[go_sem,seval,hb]
  ·have h0:¬ZdG l (Pane.mk pW pH pT pK)<0:=o_
   have h1:¬(j:Int)<0:=o_
   obtain⟨y,hy⟩:=Zn hj;simp only[hb,Kd h1,Kz,hy];obtain⟨yL,yW,yH,yF⟩:=y;simp +contextual -implicitDefEqProofs only[go_sem,seval,h1,hj,hy]
def Vn (lo hi fr to:Int):List Int:=(if fr<lo∧lo<to then [lo] else [])++(if fr<hi∧hi<to then [hi] else [])
theorem ZCw {lo hi fr to x:Int} (h:x∈Vn lo hi fr to):x<to:=by
 unfold Vn at h;rcases Kj.1 h with h | h
 ·split at h
  ·simp at h;omega
  ·simp at h
 ·split at h
  ·simp at h;omega
  ·simp at h
theorem Zom (lo hi fr to:Int):(Vn lo hi fr to).length≤2:=by
 unfold Vn;split<;>split<;>simp
theorem ZCx {lo hi fr t:Int} (hl:lo<hi) (hf:fr<t) (h:t=lo∨t=hi):Vn lo hi fr (t+1)=Vn lo hi fr t++[t]:=by
 unfold Vn;rcases h with h | h
 ·rw[Kg (show fr<lo∧lo<t+1 by omega),Kd (show ¬(fr<hi∧hi<t+1) by omega),Kd (show ¬(fr<lo∧lo<t) by omega),Kd (show ¬(fr<hi∧hi<t) by omega),h];rfl
 ·rw[Kg (show fr<hi∧hi<t+1 by omega),Kd (show ¬(fr<hi∧hi<t) by omega)];by_cases h2:fr<lo
  ·rw[Kg (show fr<lo∧lo<t+1 by omega),Kg (show fr<lo∧lo<t by omega),h];rfl
  ·rw[Kd (show ¬(fr<lo∧lo<t+1) by omega),Kd (show ¬(fr<lo∧lo<t) by omega),h];rfl
theorem ZDY {lo hi fr t:Int} (h:¬(t=lo∨t=hi)):Vn lo hi fr (t+1)=Vn lo hi fr t:=by
 unfold Vn;have h1:(fr<lo∧lo<t+1)=(fr<lo∧lo<t):=propext o_;have h2:(fr<hi∧hi<t+1)=(fr<hi∧hi<t):=propext o_;simp only[h1,h2]
theorem ZmO:∀ (l:List Int) (k:Nat) (n:Int),n∉l→XH k l n=-1
 | [],_,_,_=>rfl
 | x :: l,k,n,h=>by
  simp only[Ke,not_or] at h;unfold XH;rw[Kd (fun e=>h.1 e.symm),ZmO l (k+1) n h.2]
theorem Zs4 (cP:Int) (cT:Bool) (cX cY cW cH:Int) (op lo n fr to:Int) (ho:(op=2∧lo=cX∧n=cW)∨(op=3∧lo=cY∧n=cH)) (hc:0≤cX∧cX≤1000∧0≤cY∧cY≤1000∧1≤cW∧cW≤1000∧1≤cH∧cH≤1000) (h0:0≤fr) (h1:fr<to) (h2:to≤1000):v_ 138 [.d (.sl [.agg [J cP,.bool cT,J cX,J cY,J cW,J cH]]),(.d (J op)),(.d (J fr)),(.d (J to))] []=some (.own 0,[.row 1 ((Vn lo (lo+n) fr to).map XA) true false]):=by
 have w0:=wi (fr+1) o_ o_;have wx:=wi (cX+cW) o_ o_;have wy:=wi (cY+cH) o_ o_;have hn:lo<lo+n:=o_
 have ae:Vn lo (lo+n) fr (fr+1)=[]:=by unfold Vn;rw[Kd o_,Kd o_];rfl
 refine cE ?_;simp (maxSteps:=9^7) +contextual -implicitDefEqProofs only[go_sem,seval,Zoq,w0];refine X1 Xs Ms (st0:=?st0) (α:=Int) (fun t=>[(10,.d (J t))]) (fun t=>[(0,.row 1 ((Vn lo (lo+n) fr t).map XA) true false)]) (fun t=>fr+1≤t∧t≤to) (fun t=>(to-t).toNat) (fr+1) ?hc o_ ?h0 ?step
 case hc=>simp +contextual -implicitDefEqProofs only[go_sem,seval]<;>exact rfl
 case h0=>rw[ae];rfl
 case step=>
  intro t ⟨ag,ah⟩ ih;by_cases ab:t<to
  ·have wt:=wi (t+1) o_ o_;have ai:=Zom lo (lo+n) fr t;have hr:((Vn lo (lo+n) fr t).length+1)*8≤140737488355328∧(Vn lo (lo+n) fr t).length≤140737488355327:=o_
   have ad:=Zmj (Vn lo (lo+n) fr t) t o_;rw[ZmO _ _ _ (fun h=>by have:=ZCw h;omega)] at ad;by_cases hm:t=lo∨t=lo+n
   ·have hy:=ZCx hn (show fr<t by omega) hm;have af:(1:Int)+0=1:=rfl;rcases ho with ⟨o1,o2,o3⟩ | ⟨o1,o2,o3⟩
    ·have aa : (t=cX∨t=cX+cW):=o_
     simp +contextual -implicitDefEqProofs only[go_sem,seval,ab];refine ZE Xs Ms ?_;simp +contextual -implicitDefEqProofs only[go_sem,seval,wx,o1,aa,ad,hr,← Li];refine ZE Xs Ms ?_;simp +contextual -implicitDefEqProofs only[go_sem,seval,wt];refine ih (t+1) _ o_ o_ ?_;simp +contextual -implicitDefEqProofs only[go_sem,seval,hy,o1,KJ,Kh,Kp]
    ·have aa : (t=cY∨t=cY+cH):=o_
     simp +contextual -implicitDefEqProofs only[go_sem,seval,ab];refine ZE Xs Ms ?_;simp +contextual -implicitDefEqProofs only[go_sem,seval,wx,wy,o1,aa,ad,hr,← Li];refine ZE Xs Ms ?_;simp +contextual -implicitDefEqProofs only[go_sem,seval,wt];refine ih (t+1) _ o_ o_ ?_;simp +contextual -implicitDefEqProofs only[go_sem,seval,hy,o1,KJ,Kh,Kp]
   ·have hy:=ZDY (fr:=fr) hm;rcases ho with ⟨o1,o2,o3⟩ | ⟨o1,o2,o3⟩
    ·have aa : ¬(t=cX∨t=cX+cW):=o_
     simp +contextual -implicitDefEqProofs only[go_sem,seval,ab];refine ZE Xs Ms ?_;simp +contextual -implicitDefEqProofs only[go_sem,seval,wx,o1,aa,← Li];refine ZE Xs Ms ?_;simp +contextual -implicitDefEqProofs only[go_sem,seval,wt];refine ih (t+1) _ o_ o_ ?_;simp +contextual -implicitDefEqProofs only[go_sem,seval,hy,o1]
    ·have aa : ¬(t=cY∨t=cY+cH):=o_
     simp +contextual -implicitDefEqProofs only[go_sem,seval,ab];refine ZE Xs Ms ?_;simp +contextual -implicitDefEqProofs only[go_sem,seval,wx,wy,o1,aa,← Li];refine ZE Xs Ms ?_;simp +contextual -implicitDefEqProofs only[go_sem,seval,wt];refine ih (t+1) _ o_ o_ ?_;simp +contextual -implicitDefEqProofs only[go_sem,seval,hy,o1]
  ·have:t=to:=o_
   subst this;simp +contextual -implicitDefEqProofs only[go_sem,seval]
theorem ZjE (cP:Int) (cT:Bool) (cX cY cW cH:Int) (op lo n t:Int) (f:Bool) (ho:(op=2∧lo=cX∧n=cW)∨(op=3∧lo=cY∧n=cH)) (hc:0≤cX∧cX≤1000∧0≤cY∧cY≤1000∧1≤cW∧cW≤1000∧1≤cH∧cH≤1000) (hn:¬(lo<t∧t<lo+n)):v_ 139 [.d (.sl [.agg [J cP,.bool cT,J cX,J cY,J cW,J cH]]),(.d (J op)),(.d (J t)),(.d (.bool f))] [] =
  some (.tup [.own 0,(.d (.bool true))],[.row 6 (if f=decide (lo+n≤t) then [.agg [J cP,.bool cT,J cX,J cY,J cW,J cH]] else []) true false]):=by
 have wx:=wi (cX+cW) o_ o_;have wy:=wi (cY+cH) o_ o_;have bb:∀ a b:Bool,Zpu .eql true (.d (.bool a)) (.d (.bool b))=QR (.d (.bool (a==b))):=fun _ _=>rfl;refine cE ?_;rcases ho with ⟨o1,o2,o3⟩ | ⟨o1,o2,o3⟩
 ·have aa : ¬(cX<t∧t<cX+cW):=o_
  have he:(lo+n≤t)=(cX+cW≤t):=propext o_;simp only[he];simp +contextual -implicitDefEqProofs only[go_sem,seval,Zne];refine ZE Xs Ms ?_;by_cases hf:f=decide (cX+cW≤t)
  ·have hg:(f==decide (cX+cW≤t))=true:=by rw[hf];simp
   rw[Kg hf];simp +contextual -implicitDefEqProofs only[go_sem,seval,wx,o1,aa,bb,hg,← Lf];refine ZE Xs Ms ?_;simp +contextual -implicitDefEqProofs only[go_sem,seval]
  ·have hg:(f==decide (cX+cW≤t))=false:=by simpa using hf
   rw[Kd hf];simp +contextual -implicitDefEqProofs only[go_sem,seval,wx,o1,aa,bb,hg,← Lf];refine ZE Xs Ms ?_;simp +contextual -implicitDefEqProofs only[go_sem,seval]
 ·have aa : ¬(cY<t∧t<cY+cH):=o_
  have he:(lo+n≤t)=(cY+cH≤t):=propext o_;simp only[he];simp +contextual -implicitDefEqProofs only[go_sem,seval,Zne];refine ZE Xs Ms ?_;by_cases hf:f=decide (cY+cH≤t)
  ·have hg:(f==decide (cY+cH≤t))=true:=by rw[hf];simp
   rw[Kg hf];simp +contextual -implicitDefEqProofs only[go_sem,seval,wx,wy,o1,aa,bb,hg,← Lf];refine ZE Xs Ms ?_;simp +contextual -implicitDefEqProofs only[go_sem,seval]
  ·have hg:(f==decide (cY+cH≤t))=false:=by simpa using hf
   rw[Kd hf];simp +contextual -implicitDefEqProofs only[go_sem,seval,wx,wy,o1,aa,bb,hg,← Lf];refine ZE Xs Ms ?_;simp +contextual -implicitDefEqProofs only[go_sem,seval]
def JA:Ze→AV×List Zm
 | .mk o a q t ks=>(.tup [.agg [(.d (J o)),(.d (J a)),(.d (J q)),(.d (.bool t)),.own 0],(.d (.bool true))],[.row 5 (ks.map Ze.enc) true false])
theorem Zaz (bX bY bW bH:Int):v_ 99 [.d (.sl []),(.d (.agg [J bX,J bY,J bW,J bH]))] []=some (JA BT.waste.plan):=by
 simp only[BT.plan,JA];refine cE ?_;simp (maxSteps:=9^7) +contextual -implicitDefEqProofs only[go_sem,seval,Vo]
theorem Zij (cP:Int) (cT:Bool) (cX cY cW cH:Int):v_ 99 [.d (.sl [.agg [J cP,.bool cT,J cX,J cY,J cW,J cH]]),.d (.agg [J cX,J cY,J cW,J cH])] []=some (JA (BT.pane cP cT).plan):=by
 simp only[BT.plan,JA];refine cE ?_;simp (maxSteps:=9^7) +contextual -implicitDefEqProofs only[go_sem,seval,Vo]
theorem JB (A B:List D) (bX bY bW bH:Int) (d:Bool) (a:Int) (l r:BT) (hA:uni 6 A) (hB:uni 6 B) (h1:R64 (bX+a)) (h2:R64 (bY+a)) (h3:R64 (bW-a)) (h4:R64 (bH-a))
  (hl:v_ 99 [.d (.sl A),if d then .d (.agg [J bX,J bY,J a,J bH]) else .d (.agg [J bX,J bY,J bW,J a])] []=some (JA l.plan))
  (hr:v_ 99 [.d (.sl B),if d then .d (.agg [J (bX+a),J bY,J (bW-a),J bH]) else .d (.agg [J bX,J (bY+a),J bW,J (bH-a)])] []=some (JA r.plan)) :
  v_ 140 [.d (.sl A),.d (.sl B),(.d (.agg [J bX,J bY,J bW,J bH])),(.d (J (Qb d))),(.d (J a))] []=some (JA (BT.cut d a l r).plan):=by
 have w1:=wi (bX+a) h1.1 h1.2;have w2:=wi (bY+a) h2.1 h2.2;have w3:=wi (bW-a) h3.1 h3.2;have w4:=wi (bH-a) h4.1 h4.2;obtain⟨lo,la,lq,lt,lk,el⟩:∃ o a q t ks,l.plan=.mk o a q t ks:=by cases l.plan;exact⟨_,_,_,_,_,rfl⟩
 obtain⟨ro,ra,rq,rt,rk,er⟩:∃ o a q t ks,r.plan=.mk o a q t ks:=by cases r.plan;exact⟨_,_,_,_,_,rfl⟩
 rw[el] at hl;rw[er] at hr;simp only[BT.plan,el,er,JA] at hl hr ⊢;cases d with
 | true=>
  simp only[Km,Qb] at hl hr ⊢;refine cE ?_;simp (maxSteps:=9^7) +contextual -implicitDefEqProofs only[go_sem,seval,Q1,w1,w3,hl,hr,hA,hB]
 | false=>
  simp only[Ka,Kn,Qb] at hl hr ⊢;refine cE ?_;simp (maxSteps:=9^7) +contextual -implicitDefEqProofs only[go_sem,seval,Q1,w1,w2,w3,w4,hl,hr,hA,hB]
theorem JC (cP:Int) (cT:Bool) (cX cY cW cH:Int) (bX bY bW bH:Int) (d:Bool) (x:Int) (r:List Int) (P:Ze) (hc:0≤cX∧cX≤1000∧0≤cY∧cY≤1000∧1≤cW∧cW≤1000∧1≤cH∧cH≤1000) (hb:0≤bX∧0≤bY∧1≤bW∧1≤bH∧bX+bW≤1000∧bY+bH≤1000) (ad:¬(cX=bX∧cY=bY∧cW=bW∧cH=bH))
  (h2:d=false→Vn cX (cX+cW) bX (bX+bW)=[])
  (he:(if d then Vn cX (cX+cW) bX (bX+bW) else Vn cY (cY+cH) bY (bY+bH))=x :: r)
  (hn:if d then ¬(cX<x∧x<cX+cW) else ¬(cY<x∧x<cY+cH)) (hx:if d then bX<x∧x<bX+bW else bY<x∧x<bY+bH)
  (hp:v_ 140 [.d (.sl (if true=decide ((if d then cX+cW else cY+cH)≤x) then [.agg [J cP,.bool cT,J cX,J cY,J cW,J cH]] else [])),.d (.sl (if false=decide ((if d then cX+cW else cY+cH)≤x) then [.agg [J cP,.bool cT,J cX,J cY,J cW,J cH]] else [])),(.d (.agg [J bX,J bY,J bW,J bH])),(.d (J (Qb d))),(.d (J (x-(if d then bX else bY))))] []=some (JA P)) :
  v_ 99 [.d (.sl [.agg [J cP,.bool cT,J cX,J cY,J cW,J cH]]),(.d (.agg [J bX,J bY,J bW,J bH]))] []=some (JA P):=by
 have w1:=wi (bX+bW) o_ o_;have w2:=wi (bY+bH) o_ o_;have c2:(0:Int)<((2:Nat):Int):=o_
 obtain⟨o,a,q,t,ks⟩:=P;simp only[JA] at hp ⊢;have e2:=Zs4 cP cT cX cY cW cH 2 cX cW bX (bX+bW) (.inl ⟨rfl,rfl,rfl⟩) hc hb.1 o_ o_;have e3:=Zs4 cP cT cX cY cW cH 3 cY cH bY (bY+bH) (.inr ⟨rfl,rfl,rfl⟩) hc hb.2.1 o_ o_;have ae:r=[]∨∃ y,r=[y]:=by
  have h1:(x :: r).length≤2:=by
   rw[← he];cases d
   ·exact Zom _ _ _ _
   ·exact Zom _ _ _ _
  match r,h1 with
  | [],_=>exact .inl rfl
  | [y],_=>exact .inr ⟨y,rfl⟩
  | y :: z :: r,h1=>simp at h1
 cases d with
 | true=>
  simp only[Km,Qb] at he hn hx hp;rw[he] at e2;have w3:=wi (x-bX) o_ o_;have p1:=ZjE cP cT cX cY cW cH 2 cX cW x true (.inl ⟨rfl,rfl,rfl⟩) hc hn;have p2:=ZjE cP cT cX cY cW cH 2 cX cW x false (.inl ⟨rfl,rfl,rfl⟩) hc hn;generalize aa:(if true=decide (cX+cW≤x) then [D.agg [J cP,.bool cT,J cX,J cY,J cW,J cH]] else [])=A at p1 hp;have hA:uni 6 A:=by rw[← aa];split<;>simp[uni,D.cells]
  generalize ab:(if false=decide (cX+cW≤x) then [D.agg [J cP,.bool cT,J cX,J cY,J cW,J cH]] else [])=B at p2 hp;have hB:uni 6 B:=by rw[← ab];split<;>simp[uni,D.cells]
  refine cE ?_;simp (maxSteps:=9^7) +contextual -implicitDefEqProofs only[go_sem,seval,Vo,ad,← Lf];refine ZE Xs Ms ?_;rcases ae with rfl | ⟨y,rfl⟩
  ·simp only[Kh,Kp,XA] at e2;simp +contextual -implicitDefEqProofs only[go_sem,seval,w1,e2];refine ZE Xs Ms ?_;simp +contextual -implicitDefEqProofs only[go_sem,seval,p1,p2,w3,hp,hA,hB,c2]
  ·simp only[Kh,Kp,XA] at e2;simp +contextual -implicitDefEqProofs only[go_sem,seval,w1,e2];refine ZE Xs Ms ?_;simp +contextual -implicitDefEqProofs only[go_sem,seval,p1,p2,w3,hp,hA,hB,c2]
 | false=>
  simp only[Ka,Kn,Qb] at he hn hx hp;rw[h2 rfl] at e2;rw[he] at e3;simp only[Kp] at e2;have w3:=wi (x-bY) o_ o_;have p1:=ZjE cP cT cX cY cW cH 3 cY cH x true (.inr ⟨rfl,rfl,rfl⟩) hc hn;have p2:=ZjE cP cT cX cY cW cH 3 cY cH x false (.inr ⟨rfl,rfl,rfl⟩) hc hn;generalize aa:(if true=decide (cY+cH≤x) then [D.agg [J cP,.bool cT,J cX,J cY,J cW,J cH]] else [])=A at p1 hp;have hA:uni 6 A:=by rw[← aa];split<;>simp[uni,D.cells]
  generalize ab:(if false=decide (cY+cH≤x) then [D.agg [J cP,.bool cT,J cX,J cY,J cW,J cH]] else [])=B at p2 hp;have hB:uni 6 B:=by rw[← ab];split<;>simp[uni,D.cells]
  refine cE ?_;simp (maxSteps:=9^7) +contextual -implicitDefEqProofs only[go_sem,seval,Vo,ad,← Lf];refine ZE Xs Ms ?_;simp +contextual -implicitDefEqProofs only[go_sem,seval,w1,e2];refine ZE Xs Ms ?_;simp +contextual -implicitDefEqProofs only[go_sem,seval];refine ZE Xs Ms ?_;rcases ae with rfl | ⟨y,rfl⟩
  ·simp only[Kh,Kp,XA] at e3;simp +contextual -implicitDefEqProofs only[go_sem,seval,w1,w2,e3];refine ZE Xs Ms ?_;simp +contextual -implicitDefEqProofs only[go_sem,seval,p1,p2,w3,hp,hA,hB,c2]
  ·simp only[Kh,Kp,XA] at e3;simp +contextual -implicitDefEqProofs only[go_sem,seval,w1,w2,e3];refine ZE Xs Ms ?_;simp +contextual -implicitDefEqProofs only[go_sem,seval,p1,p2,w3,hp,hA,hB,c2]
def Qf (i:Int) (t:Bool) (X Y W H bX bY bW bH:Int):BT:=
 let t4:=if Y+H<bY+bH then BT.cut false H (.pane i t) .waste else .pane i t
 let t3:=if bY<Y then BT.cut false (Y-bY) .waste t4 else t4
 let t2:=if X+W<bX+bW then BT.cut true W t3 .waste else t3
 if bX<X then BT.cut true (X-bX) .waste t2 else t2
def ZcL (X Y W H bX bY bW bH:Int):Prop:=0≤bX∧bX≤X∧0≤bY∧bY≤Y∧1≤W∧1≤H∧X+W≤bX+bW∧Y+H≤bY+bH∧bX+bW≤1000∧bY+bH≤1000
theorem Zik (cP:Int) (cT:Bool) (cX cY cW cH:Int) (bH:Int) (h:ZcL cX cY cW cH cX cY cW bH):v_ 99 [.d (.sl [.agg [J cP,.bool cT,J cX,J cY,J cW,J cH]]),.d (.agg [J cX,J cY,J cW,J bH])] []=some (JA (Qf cP cT cX cY cW cH cX cY cW bH).plan):=by
 have hh:=h;unfold ZcL at h;unfold Qf;rw[Kd (show ¬cX<cX by omega),Kd (show ¬cX+cW<cX+cW by omega),Kd (show ¬cY<cY by omega)];by_cases hl:cY+cH<cY+bH
 ·rw[Kg hl];have hb:=JB [D.agg [J cP,.bool cT,J cX,J cY,J cW,J cH]] [] cX cY cW bH false cH (.pane cP cT) .waste (by simp[uni,D.cells]) (by simp[uni]) (by unfold R64;omega) (by unfold R64;omega) (by unfold R64;omega) (by unfold R64;omega) (Zij _ _ _ _ _ _) (Zaz _ _ _ _);refine JC cP cT cX cY cW cH cX cY cW bH false (cY+cH) [] _ o_ o_ o_ (fun _=>?_) ?_ ?_ ?_ ?_
  ·unfold Vn;rw[Kd o_,Kd o_];rfl
  ·simp only[Ka,Kn];unfold Vn;rw[Kd o_,Kg o_];rfl
  ·simp only[Ka,Kn];omega
  ·simp only[Ka,Kn];omega
  ·simp only[Ka,Kn,Kai,decide_true,Km];rw[show cY+cH-cY=cH by omega];exact hb
 ·rw[Kd hl];have:bH=cH:=o_
  subst this;exact Zij _ _ _ _ _ _
theorem Zil (cP:Int) (cT:Bool) (cX cY cW cH:Int) (bY bH:Int) (h:ZcL cX cY cW cH cX bY cW bH):v_ 99 [.d (.sl [.agg [J cP,.bool cT,J cX,J cY,J cW,J cH]]),.d (.agg [J cX,J bY,J cW,J bH])] []=some (JA (Qf cP cT cX cY cW cH cX bY cW bH).plan):=by
 by_cases hl:bY<cY
 ·have h4:=Zik cP cT cX cY cW cH (bY+bH-cY) (by unfold ZcL at h ⊢;omega);unfold ZcL at h;have e:Qf cP cT cX cY cW cH cX bY cW bH=.cut false (cY-bY) .waste (Qf cP cT cX cY cW cH cX cY cW (bY+bH-cY)):=by
   unfold Qf;rw[Kd (show ¬cX<cX by omega),Kd (show ¬cX+cW<cX+cW by omega),Kg hl,Kd (show ¬cX<cX by omega),Kd (show ¬cX+cW<cX+cW by omega),Kd (show ¬cY<cY by omega),show cY+(bY+bH-cY)=bY+bH by omega]
  rw[e];generalize Qf cP cT cX cY cW cH cX cY cW (bY+bH-cY)=Q at h4 ⊢;have hb:=JB [] [D.agg [J cP,.bool cT,J cX,J cY,J cW,J cH]] cX bY cW bH false (cY-bY) .waste Q (by simp[uni]) (by simp[uni,D.cells]) (by unfold R64;omega) (by unfold R64;omega) (by unfold R64;omega) (by unfold R64;omega) (Zaz _ _ _ _) (by
   simp only[Ka,Kn];rw[show bY+(cY-bY)=cY by omega,show bH-(cY-bY)=bY+bH-cY by omega];exact h4)
  refine JC cP cT cX cY cW cH cX bY cW bH false cY (if cY+cH<bY+bH then [cY+cH] else []) _ o_ o_ o_ (fun _=>?_) ?_ ?_ ?_ ?_
  ·unfold Vn;rw[Kd o_,Kd o_];rfl
  ·simp only[Ka,Kn];unfold Vn;rw[Kg o_];by_cases h5:cY+cH<bY+bH
   ·rw[Kg o_,Kg h5];rfl
   ·rw[Kd o_,Kd h5];rfl
  ·simp only[Ka,Kn];omega
  ·simp only[Ka,Kn];omega
  ·simp only[Ka,Kn];rw[Kk (show ¬cY+cH≤cY by omega)];simp only[KaB,Kn,Km];exact hb
 ·unfold ZcL at h;have:bY=cY:=o_
  subst this;exact Zik cP cT cX bY cW cH bH (by unfold ZcL;omega)
theorem Zim (cP:Int) (cT:Bool) (cX cY cW cH:Int) (bY bW bH:Int) (h:ZcL cX cY cW cH cX bY bW bH):v_ 99 [.d (.sl [.agg [J cP,.bool cT,J cX,J cY,J cW,J cH]]),.d (.agg [J cX,J bY,J bW,J bH])] []=some (JA (Qf cP cT cX cY cW cH cX bY bW bH).plan):=by
 by_cases hl:cX+cW<cX+bW
 ·have h3:=Zil cP cT cX cY cW cH bY bH (by unfold ZcL at h ⊢;omega);unfold ZcL at h;have e:Qf cP cT cX cY cW cH cX bY bW bH=.cut true cW (Qf cP cT cX cY cW cH cX bY cW bH) .waste:=by
   unfold Qf;rw[Kd (show ¬cX<cX by omega),Kg hl,Kd (show ¬cX<cX by omega),Kd (show ¬cX+cW<cX+cW by omega)]
  rw[e];generalize Qf cP cT cX cY cW cH cX bY cW bH=Q at h3 ⊢;have hb:=JB [D.agg [J cP,.bool cT,J cX,J cY,J cW,J cH]] [] cX bY bW bH true cW Q .waste (by simp[uni,D.cells]) (by simp[uni]) (by unfold R64;omega) (by unfold R64;omega) (by unfold R64;omega) (by unfold R64;omega) (by simp only[Km];exact h3) (Zaz _ _ _ _);refine JC cP cT cX cY cW cH cX bY bW bH true (cX+cW) [] _ o_ o_ o_ (fun e=>by cases e) ?_ ?_ ?_ ?_
  ·simp only[Km];unfold Vn;rw[Kd o_,Kg o_];rfl
  ·simp only[Km];omega
  ·simp only[Km];omega
  ·simp only[Km,Kai,decide_true,Ka,Kn];rw[show cX+cW-cX=cW by omega];exact hb
 ·unfold ZcL at h;have:bW=cW:=o_
  subst this;exact Zil cP cT cX cY bW cH bY bH (by unfold ZcL;omega)
theorem Zka (cP:Int) (cT:Bool) (cX cY cW cH:Int) (bX bY bW bH:Int) (h:ZcL cX cY cW cH bX bY bW bH):v_ 99 [.d (.sl [.agg [J cP,.bool cT,J cX,J cY,J cW,J cH]]),.d (.agg [J bX,J bY,J bW,J bH])] []=some (JA (Qf cP cT cX cY cW cH bX bY bW bH).plan):=by
 by_cases hl:bX<cX
 ·have h2:=Zim cP cT cX cY cW cH bY (bX+bW-cX) bH (by unfold ZcL at h ⊢;omega);unfold ZcL at h;have e:Qf cP cT cX cY cW cH bX bY bW bH=.cut true (cX-bX) .waste (Qf cP cT cX cY cW cH cX bY (bX+bW-cX) bH):=by
   unfold Qf;rw[Kg hl,Kd (show ¬cX<cX by omega),show cX+(bX+bW-cX)=bX+bW by omega]
  rw[e];generalize Qf cP cT cX cY cW cH cX bY (bX+bW-cX) bH=Q at h2 ⊢;have hb:=JB [] [D.agg [J cP,.bool cT,J cX,J cY,J cW,J cH]] bX bY bW bH true (cX-bX) .waste Q (by simp[uni]) (by simp[uni,D.cells]) (by unfold R64;omega) (by unfold R64;omega) (by unfold R64;omega) (by unfold R64;omega) (Zaz _ _ _ _) (by
   simp only[Km];rw[show bX+(cX-bX)=cX by omega,show bW-(cX-bX)=bX+bW-cX by omega];exact h2)
  refine JC cP cT cX cY cW cH bX bY bW bH true cX (if cX+cW<bX+bW then [cX+cW] else []) _ o_ o_ o_ (fun e=>by cases e) ?_ ?_ ?_ ?_
  ·simp only[Km];unfold Vn;rw[Kg o_];by_cases h5:cX+cW<bX+bW
   ·rw[Kg o_,Kg h5];rfl
   ·rw[Kd o_,Kd h5];rfl
  ·simp only[Km];omega
  ·simp only[Km];omega
  ·simp only[Km];rw[Kk (show ¬cX+cW≤cX by omega)];simp only[KaB,Kn,Km];exact hb
 ·unfold ZcL at h;have:bX=cX:=o_
  subst this;exact Zim cP cT bX cY cW cH bY bW bH (by unfold ZcL;omega)
@[go_sem] theorem rep_5 {α:Type} (a:α):List.replicate 5 a=[a,a,a,a,a]:=rfl
@[go_sem] theorem rep_8 {α:Type} (a:α):List.replicate 8 a=[a,a,a,a,a,a,a,a]:=rfl
@[go_sem] theorem rep_15 {α:Type} (a:α):List.replicate 15 a=[a,a,a,a,a,a,a,a,a,a,a,a,a,a,a]:=rfl
theorem Zyy:∀ {l:List Zb} {b:Int},XJ b l→∀ x∈l,b<x.Label
 | [],_,_,x,hx=>by simp at hx
 | y :: l,b,h,x,hx=>by
  rcases Ke.1 hx with rfl | hx
  ·exact h.2.1
  ·have:=Zyy h.2.2 x hx;have:=h.2.1;omega
theorem ZmP:∀ {l:List Zb} {b:Int} {k j:Nat} {x:Zb},XJ b l→l[j]?=some x→QD k l x.Label=((k+j:Nat):Int)
 | [],_,k,j,x,_,hx=>by simp at hx
 | y :: l,b,k,0,x,h,hx=>by
  simp only[KX,Option.some.injEq] at hx;subst hx;simp[QD]
 | y :: l,b,k,j+1,x,h,hx=>by
  simp only[KY] at hx;have h1:=Zyy h.2.2 x (Kb hx);unfold QD;rw[Kd o_,ZmP (k:=k+1) h.2.2 hx];congr 1
  omega
def Zlc (i:Nat) (t:Bool) (b:Box) (q:Zb):Zl:=⟨3,q.Label,⟨0,0,0,0⟩,⟨⟨0,0,false,0⟩,0⟩,(Qf i t b.X b.Y b.W b.H 0 0 q.W q.H).plan⟩
def Zs5 (s:Zo) (i:Nat) (x:Zc):Option Zl:=
 if ZdG s.Stock x.Pane<0 then none else match s.Stock[(ZdG s.Stock x.Pane).toNat]? with
 | none=>none
 | some q=>match Xh q x.Pane.W x.Pane.H with
  | some b=>some (Zlc i false b q)
  | none=>match Xh q x.Pane.H x.Pane.W with
   | some b=>some (Zlc i true b q)
   | none=>none
def Wz (s:Zo):List Zc→Nat→Option Zl
 | [],_=>none
 | x :: r,i=>match Zs5 s i x with
  | some e=>if (Qs s e).isSome=true then some e else Wz s r (i+1)
  | none=>Wz s r (i+1)
def WA (s:Zo):Option Zl:=Wz s s.Opn 0
theorem Zin {s:Zo} {l:List Zc} {k i:Nat} {x:Zc} (hx:l[k]?=some x):Wz s (l.drop k) i=match Zs5 s i x with
  | some e=>if (Qs s e).isSome=true then some e else Wz s (l.drop (k+1)) (i+1)
  | none=>Wz s (l.drop (k+1)) (i+1):=by
 obtain⟨h1,h2⟩:=Kc.1 hx;rw[Ku h1,h2,Wz]
theorem Zs6 {s:Zo} {l:List Zc} {i:Nat}:Wz s (l.drop l.length) i=none:=by simp[Wz]
def nxV:Option Zl→AV×List Zm
 | some ⟨k,l,⟨x,y,w,h⟩,⟨⟨pw,ph,pt,pk⟩,c⟩,.mk o a q t ks⟩=>(.tup [.agg [(.d (J k)),(.d (J l)),(.d (J x)),(.d (J y)),(.d (J w)),(.d (J h)),(.d (J pw)),(.d (J ph)),(.d (.bool pt)),(.d (J pk)),(.d (J c)),(.d (J o)),(.d (J a)),(.d (J q)),(.d (.bool t)),.own 0],(.d (.bool true))],[.row 5 (ks.map Ze.enc) true false])
 | none=>(.tup [.agg [(.d (J 0)),(.d (J 0)),(.d (J 0)),(.d (J 0)),(.d (J 0)),(.d (J 0)),(.d (J 0)),(.d (J 0)),(.d (.bool false)),(.d (J 0)),(.d (J 0)),(.d (J 0)),(.d (J 0)),(.d (J 0)),(.d (.bool false)),.own 0],(.d (.bool false))],[.row 5 [] true false])
theorem ZmQ (sS:List Zb) (sO sD:List Zc) (sL sC:Int) (hv:WSh (Zo.mk sS sO sD sL sC)):v_ 51 [(.d (.agg [.sl (sS.map Zb.enc),.sl (sO.map Zc.enc),.sl (sD.map Zc.enc),J sL,J sC]))] []=some (nxV (WA (Zo.mk sS sO sD sL sC))):=by
 have ak:=hv.2.1;have ag:=hv.1.1;simp only at ak ag;refine cE ?_;simp (maxSteps:=9^7) +contextual -implicitDefEqProofs (maxSteps:=9^7) only[go_sem,seval,Zpf];refine LO (α:=Nat) (fun i=>[(4,.d (J (i:Int)))]) (fun _=>[]) (fun i=>i≤sO.length∧Wz (Zo.mk sS sO sD sL sC) (sO.drop i) i=WA (Zo.mk sS sO sD sL sC)) (fun i=>sO.length-i) 0 ⟨o_,by simp[WA]⟩ ?_;intro i ⟨hi,hp⟩ ih;by_cases ab:i<sO.length
 ·obtain⟨x,hx⟩:=Zn ab;have hw:=Zg (k:=i) o_;rw[Zin hx] at hp;have aa:=hv.2.2.1 x (Kb hx);obtain⟨⟨W,H,T,K⟩,C⟩:=x;simp only at aa;have ad:1≤W∧W≤200∧1≤H∧H≤200:=⟨aa.1.1,aa.1.2.1,aa.1.2.2.1,aa.1.2.2.2.1⟩
  have ef:=Zs3 sS W H T K hv.1 aa.1;unfold Zvo at ef;rw[Kg ⟨hv.1,aa.1⟩] at ef;unfold Zs5 at hp;simp only at hp;rcases Zs2 sS ⟨W,H,T,K⟩ with h0 | ⟨j,q,hj,hq,ah⟩
  ·rw[Kg h0] at ef hp;simp only at hp;simp +contextual -implicitDefEqProofs (maxSteps:=9^7) only[go_sem,seval,hx,ab,hw,ef];refine ih (i+1) _ ⟨o_,hp⟩ o_ ?_;simp +contextual -implicitDefEqProofs (maxSteps:=9^7) only[go_sem,seval]
  ·have al:¬(j:Int)<0:=o_
   rw[hj,Kd al,Kz,hq] at ef hp;simp only at hp ef;have ai:=ZW hv.1.2 q (Kb hq);have af:=(Kc.1 hq).1;have el:=XV sS q.Label o_;rw[ZmP hv.1.2 hq,K0] at el;have f1:=UC q.Label q.W q.H q.Flaws W H ai ⟨ad.1,ad.2.1⟩ ad.2.2;have f2:=UC q.Label q.W q.H q.Flaws H W ai ad.2.2 ⟨ad.1,ad.2.1⟩;have am:=ai.1;have aj:∀ (t:Bool) (w h:Int) (b:Box),1≤w→1≤h→Xh q w h=some b→∃ (o a p:Int) (t' : Bool) (ks:List Ze),(Qf i t b.X b.Y b.W b.H 0 0 q.W q.H).plan=.mk o a p t' ks∧v_ 99 [.d (.sl [.agg [J i,.bool t,J b.X,J b.Y,J b.W,J b.H]]),.d (.agg [J 0,J 0,J q.W,J q.H])] []=some (.tup [.agg [(.d (J o)),(.d (J a)),(.d (J p)),(.d (.bool (t'))),.own 0],(.d (.bool true))],[.row 5 (ks.map Ze.enc) true false]):=fun t w h b an ao hb=>by
    obtain⟨g1,g2,g3,g4,g5,g6,_⟩:=ZaT hb;have e:=Zka i t b.X b.Y b.W b.H 0 0 q.W q.H (by unfold ZcL;omega);cases hpp:(Qf i t b.X b.Y b.W b.H 0 0 q.W q.H).plan with
    | mk o a p t' ks=>
     rw[hpp] at e;exact⟨o,a,p,t',ks,rfl,e⟩
   have ae:¬q.Label=0:=o_
   obtain⟨qL,qW,qH,qF⟩:=q;simp only at ef el f1 f2 aj ae hp;cases h1:Xh ⟨qL,qW,qH,qF⟩ W H with
   | some b=>
    obtain⟨o,a,p,t',ks,e1,e2⟩:=aj false W H b o_ o_ h1;rw[h1] at f1 hp;unfold Zlc at hp;simp only[e1] at hp;have ea:=Zap sS sO sD sL sC 3 qL 0 0 0 0 0 0 false 0 0 o a p t' ks hv rfl;obtain⟨bX,bY,bW,bH⟩:=b;unfold fcV at f1;simp only at f1 e2 hp;cases hap:Qs (Zo.mk sS sO sD sL sC) ⟨3,qL,⟨0,0,0,0⟩,⟨⟨0,0,false,0⟩,0⟩,.mk o a p t' ks⟩ with
    | none=>
     rw[hap] at ea hp;simp only[Kv,Ka,Kn] at hp;unfold shV at ea;simp +contextual -implicitDefEqProofs (maxSteps:=9^7) only[go_sem,seval,hx,ab,hw,ef,el,f1,e2,ea,ae,af,hq];refine ih (i+1) _ ⟨o_,hp⟩ o_ ?_;simp +contextual -implicitDefEqProofs (maxSteps:=9^7) only[go_sem,seval]
    | some u=>
     rw[hap] at ea hp;simp only[KV,Km] at hp;rw[← hp];unfold shV at ea;unfold nxV;simp +contextual -implicitDefEqProofs (maxSteps:=9^7) only[go_sem,seval,hx,ab,hw,ef,el,f1,e2,ea,ae,af,hq]
   | none=>
    rw[h1] at f1 hp;unfold fcV at f1;simp only at hp;cases h2:Xh ⟨qL,qW,qH,qF⟩ H W with
    | none=>
     exfalso
     unfold okP at ah;simp only[h1,h2] at ah;simp at ah
    | some b=>
     obtain⟨o,a,p,t',ks,e1,e2⟩:=aj true H W b o_ o_ h2;rw[h2] at f2 hp;unfold Zlc at hp;simp only[e1] at hp;have ea:=Zap sS sO sD sL sC 3 qL 0 0 0 0 0 0 false 0 0 o a p t' ks hv rfl;obtain⟨bX,bY,bW,bH⟩:=b;unfold fcV at f2;simp only at f2 e2 hp;cases hap:Qs (Zo.mk sS sO sD sL sC) ⟨3,qL,⟨0,0,0,0⟩,⟨⟨0,0,false,0⟩,0⟩,.mk o a p t' ks⟩ with
     | none=>
      rw[hap] at ea hp;simp only[Kv,Ka,Kn] at hp;unfold shV at ea;simp +contextual -implicitDefEqProofs (maxSteps:=9^7) only[go_sem,seval,hx,ab,hw,ef,el,f1,f2,e2,ea,ae,af,hq];refine ih (i+1) _ ⟨o_,hp⟩ o_ ?_;simp +contextual -implicitDefEqProofs (maxSteps:=9^7) only[go_sem,seval]
     | some u=>
      rw[hap] at ea hp;simp only[KV,Km] at hp;rw[← hp];unfold shV at ea;unfold nxV;simp +contextual -implicitDefEqProofs (maxSteps:=9^7) only[go_sem,seval,hx,ab,hw,ef,el,f1,f2,e2,ea,ae,af,hq]
 ·have:i=sO.length:=o_
  subst this;rw[Zs6] at hp;rw[← hp];unfold nxV;simp +contextual -implicitDefEqProofs (maxSteps:=9^7) only[go_sem,seval]
theorem Zz8 {s:Zo} {i:Nat} {x:Zc} {e:Zl} (h:Zs5 s i x=some e):e.kind=3:=by
 unfold Zs5 at h;split at h
 ·cases h
 ·split at h
  ·cases h
  ·split at h
   ·cases h;rfl
   ·split at h
    ·cases h;rfl
    ·cases h
theorem Zio {s:Zo}:∀ {l:List Zc} {i:Nat} {e:Zl},Wz s l i=some e→e.kind=3
 | [],i,e,h=>by simp[Wz] at h
 | x :: l,i,e,h=>by
  unfold Wz at h;split at h
  ·split at h
   ·cases h;exact Zz8 (by assumption)
   ·exact Zio h
  ·exact Zio h
theorem Zkb (bs:List UInt8) (hb:bs.length≤2000) (p:Nat) (hp:p<900000000):∃ (W H:Int) (T:Bool) (K:Int),v_ 188 [.ptr 0 0] [.box [.d (.sl (bs.map YU)),(.d (J p))]]=some (.d (.agg [J W,J H,.bool T,J K]),[.box [.d (.sl (bs.map YU)),(.d (J ((p+4:Nat))))]]):=by
 have p1:=ZV bs p 8 hb o_;have p2:=ZV bs (p+1) 8 hb o_;have p3:=ZV bs (p+2) 2 hb o_;have p4:=ZV bs (p+3) 3 hb o_;generalize Qc bs p 8=a1 at p1;generalize Qc bs (p+1) 8=a2 at p2;generalize Qc bs (p+2) 2=a3 at p3;generalize Qc bs (p+3) 3=a4 at p4;refine⟨IntKind.i64.wrap (1+a1),IntKind.i64.wrap (1+a2),decide (a3=0),a4,?_⟩;refine cE ?_;simp (maxSteps:=9^7) +contextual -implicitDefEqProofs only[go_sem,seval,ZmX,p1,p2,p3,p4]
def PEv (bs:List UInt8) (p:Nat) (r:AV×List Zm):Prop:=∃ (K L X Y W H pW pH:Int) (pT:Bool) (pK C o a q:Int) (t:Bool) (ks:List Ze) (p' : Nat),(K=0→I5 W∧I5 H)∧p≤p'∧p'≤p+10 ∧
 r=(.agg [(.d (J K)),(.d (J L)),(.d (J X)),(.d (J Y)),(.d (J W)),(.d (J H)),(.d (J pW)),(.d (J pH)),(.d (.bool pT)),(.d (J pK)),(.d (J C)),(.d (J o)),(.d (J a)),(.d (J q)),(.d (.bool t)),.own 1],[.box [.d (.sl (bs.map YU)),(.d (J (p')))],.row 5 (ks.map Ze.enc) true false])
theorem Zs7 (bs:List UInt8) (hb:bs.length≤2000) (p:Nat) (hp:p<800000000) (sS:List Zb) (sO sD:List Zc) (sL sC:Int) (hv:WSh (Zo.mk sS sO sD sL sC)):∃ r,v_ 130 [.ptr 0 0,(.d (.agg [.sl (sS.map Zb.enc),.sl (sO.map Zc.enc),.sl (sD.map Zc.enc),J sL,J sC]))] [.box [.d (.sl (bs.map YU)),(.d (J p))]]=some r∧PEv bs p r:=by
 have ah:=hv.1.1;have h8:=hv.2.2.2.1.1;simp only at ah h8;have eL:=Zie sS o_;have eN:=ZmQ sS sO sD sL sC hv;have af:=fun e=>@Zio (Zo.mk sS sO sD sL sC) sO 0 e;generalize VK sS=ll at eL;refine cW ?_;by_cases h0:(0:Int)<(sS.length:Int)
 ·have u0:=ZV bs p sS.length hb o_;have u1:=XN bs p sS.length;have u2:=WQ bs p sS.length o_;obtain⟨i,hi⟩:∃ i:Nat,Qc bs p (sS.length:Int)=(i:Int):=⟨(Qc bs p (sS.length:Int)).toNat,o_⟩
  rw[hi] at u0 u2;have aa:i<sS.length:=o_
  obtain⟨x,hx⟩:=Zn aa;obtain⟨lb,qW,qH,qF⟩:=x;obtain⟨p1,ai⟩:∃ p1,p1=p+1:=⟨_,rfl⟩
  rw[← ai] at u0;have c0:=ZV bs p1 9 hb o_;generalize Qc bs p1 9=c at c0;by_cases ab:c=0∨c=1
  ·obtain⟨W,hW,eW⟩:=Zcq bs (p1+1) [20,12,30,8] hb o_ (by decide);obtain⟨H,hH,eH⟩:=Zcq bs (p1+2) [16,10,24,8] hb o_ (by decide);have iW:I5 W:=by simp only[Ke,Kx,or_false] at hW;unfold I5;omega
   have iH:I5 H:=by simp only[Ke,Kx,or_false] at hH;unfold I5;omega
   simp only[Kh,Kp,XA] at eW eH;rcases ab with rfl | rfl
   ·simp (maxSteps:=9^7) +contextual -implicitDefEqProofs only[go_sem,seval,Zw,h0,u0,aa,hx,c0,eL,eW,eH];exact⟨0,(IntKind.i64.wrap (ll+1)),0,0,W,H,0,0,false,0,0,0,0,0,false,[],(p1+3),fun _=>⟨iW,iH⟩,o_,o_,rfl⟩
   ·simp (maxSteps:=9^7) +contextual -implicitDefEqProofs only[go_sem,seval,Zw,h0,u0,aa,hx,c0,eL,eW,eH];exact⟨0,(IntKind.i64.wrap (ll+1)),0,0,W,H,0,0,false,0,0,0,0,0,false,[],(p1+3),fun _=>⟨iW,iH⟩,o_,o_,rfl⟩
  ·have k0:¬c=0:=fun h=>ab (.inl h);have k1:¬c=1:=fun h=>ab (.inr h);by_cases k2:c=2
   ·obtain⟨X,Y,W,H,eB⟩:=ZmG bs hb (p1+1) o_ 8 8;subst k2;simp (maxSteps:=9^7) +contextual -implicitDefEqProofs only[go_sem,seval,Zw,h0,u0,aa,hx,c0,eB];exact⟨1,lb,X,Y,W,H,0,0,false,0,0,0,0,0,false,[],(p1+5),(fun e=>by cases e),o_,o_,rfl⟩
   ·by_cases ad:c=3∨c=4
    ·obtain⟨W,H,T,K,eP⟩:=Zkb bs hb (p1+1) o_;have c5:=ZV bs (p1+5) 3 hb o_;generalize Qc bs (p1+5) 3=v at c5;rcases ad with rfl | rfl
     ·simp (maxSteps:=9^7) +contextual -implicitDefEqProofs only[go_sem,seval,Zw,h0,u0,aa,hx,c0,eP,c5];exact⟨2,0,0,0,0,0,W,H,T,K,(IntKind.i64.wrap (1+v)),0,0,0,false,[],(p1+6),(fun e=>by cases e),o_,o_,rfl⟩
     ·simp (maxSteps:=9^7) +contextual -implicitDefEqProofs only[go_sem,seval,Zw,h0,u0,aa,hx,c0,eP,c5];exact⟨2,0,0,0,0,0,W,H,T,K,(IntKind.i64.wrap (1+v)),0,0,0,false,[],(p1+6),(fun e=>by cases e),o_,o_,rfl⟩
    ·have k3:¬c=3:=fun h=>ad (.inl h);have k4:¬c=4:=fun h=>ad (.inr h);by_cases k5:c=5
     ·subst k5;by_cases hd:(0:Int)<(sD.length:Int)
      ·have d0:=ZV bs (p1+1) sD.length hb o_;have d1:=XN bs (p1+1) sD.length;have d2:=WQ bs (p1+1) sD.length o_;obtain⟨j,hj⟩:∃ j:Nat,Qc bs (p1+1) (sD.length:Int)=(j:Int):=⟨(Qc bs (p1+1) (sD.length:Int)).toNat,o_⟩
       rw[hj] at d0 d2;have ag:j<sD.length:=o_
       obtain⟨z,hz⟩:=Zn ag;obtain⟨⟨W,H,T,K⟩,C⟩:=z;have d3:=ZV bs (p1+2) C hb o_;generalize Qc bs (p1+2) C=v at d3;simp (maxSteps:=9^7) +contextual -implicitDefEqProofs only[go_sem,seval,Zw,h0,u0,aa,hx,c0,hd,d0,ag,hz,d3];exact⟨4,0,0,0,0,0,W,H,T,K,(IntKind.i64.wrap (1+v)),0,0,0,false,[],(p1+3),(fun e=>by cases e),o_,o_,rfl⟩
      ·skip
       cases hN:WA (Zo.mk sS sO sD sL sC) with
       | none=>
        rw[hN] at eN;unfold nxV at eN;simp (maxSteps:=9^7) +contextual -implicitDefEqProofs only[go_sem,seval,Zw,h0,u0,aa,hx,c0,hd,eN,eL];exact⟨0,(IntKind.i64.wrap (ll+2)),0,0,15,11,0,0,false,0,0,0,0,0,false,[],(p1+1),fun _=>⟨by unfold I5;omega,by unfold I5;omega⟩,o_,o_,rfl⟩
       | some e=>
        have hk:=af e hN;rw[hN] at eN;obtain⟨k,l,⟨x,y,w,h⟩,⟨⟨pw,ph,pt,pk⟩,c9⟩,⟨o,a,q,t,ks⟩⟩:=e;unfold nxV at eN;simp only at eN hk;simp (maxSteps:=9^7) +contextual -implicitDefEqProofs only[go_sem,seval,Zw,h0,u0,aa,hx,c0,hd,eN];exact⟨k,l,x,y,w,h,pw,ph,pt,pk,c9,o,a,q,t,ks,(p1+1),fun e=>by omega,o_,o_,rfl⟩
     ·by_cases k6:c=6
      ·subst k6;have d3:=ZV bs (p1+1) 3 hb o_;generalize Qc bs (p1+1) 3=v at d3;by_cases ae:v=0
       ·subst ae;simp (maxSteps:=9^7) +contextual -implicitDefEqProofs only[go_sem,seval,Zw,h0,u0,aa,hx,c0,d3];exact⟨5,lb,0,0,0,0,0,0,false,0,0,0,0,0,false,[],(p1+2),(fun e=>by cases e),o_,o_,rfl⟩
       ·skip
        cases hN:WA (Zo.mk sS sO sD sL sC) with
        | none=>
         rw[hN] at eN;unfold nxV at eN;simp (maxSteps:=9^7) +contextual -implicitDefEqProofs only[go_sem,seval,Zw,h0,u0,aa,hx,c0,d3,ae,eN,eL];exact⟨0,(IntKind.i64.wrap (ll+2)),0,0,15,11,0,0,false,0,0,0,0,0,false,[],(p1+2),fun _=>⟨by unfold I5;omega,by unfold I5;omega⟩,o_,o_,rfl⟩
        | some e=>
         have hk:=af e hN;rw[hN] at eN;obtain⟨k,l,⟨x,y,w,h⟩,⟨⟨pw,ph,pt,pk⟩,c9⟩,⟨o,a,q,t,ks⟩⟩:=e;unfold nxV at eN;simp only at eN hk;simp (maxSteps:=9^7) +contextual -implicitDefEqProofs only[go_sem,seval,Zw,h0,u0,aa,hx,c0,d3,ae,eN];exact⟨k,l,x,y,w,h,pw,ph,pt,pk,c9,o,a,q,t,ks,(p1+2),fun e=>by omega,o_,o_,rfl⟩
      ·skip
       cases hN:WA (Zo.mk sS sO sD sL sC) with
       | none=>
        rw[hN] at eN;unfold nxV at eN;simp (maxSteps:=9^7) +contextual -implicitDefEqProofs only[go_sem,seval,Zw,h0,u0,aa,hx,c0,k0,k1,k2,k3,k4,k5,k6,eN,eL];exact⟨0,(IntKind.i64.wrap (ll+2)),0,0,15,11,0,0,false,0,0,0,0,0,false,[],(p1+1),fun _=>⟨by unfold I5;omega,by unfold I5;omega⟩,o_,o_,rfl⟩
       | some e=>
        have hk:=af e hN;rw[hN] at eN;obtain⟨k,l,⟨x,y,w,h⟩,⟨⟨pw,ph,pt,pk⟩,c9⟩,⟨o,a,q,t,ks⟩⟩:=e;unfold nxV at eN;simp only at eN hk;simp (maxSteps:=9^7) +contextual -implicitDefEqProofs only[go_sem,seval,Zw,h0,u0,aa,hx,c0,k0,k1,k2,k3,k4,k5,k6,eN];exact⟨k,l,x,y,w,h,pw,ph,pt,pk,c9,o,a,q,t,ks,(p1+1),fun e=>by omega,o_,o_,rfl⟩
 ·skip
  have c0:=ZV bs p 9 hb o_;generalize Qc bs p 9=c at c0;by_cases ab:c=0∨c=1
  ·obtain⟨W,hW,eW⟩:=Zcq bs (p+1) [20,12,30,8] hb o_ (by decide);obtain⟨H,hH,eH⟩:=Zcq bs (p+2) [16,10,24,8] hb o_ (by decide);have iW:I5 W:=by simp only[Ke,Kx,or_false] at hW;unfold I5;omega
   have iH:I5 H:=by simp only[Ke,Kx,or_false] at hH;unfold I5;omega
   simp only[Kh,Kp,XA] at eW eH;rcases ab with rfl | rfl
   ·simp (maxSteps:=9^7) +contextual -implicitDefEqProofs only[go_sem,seval,Zw,h0,c0,eL,eW,eH];exact⟨0,(IntKind.i64.wrap (ll+1)),0,0,W,H,0,0,false,0,0,0,0,0,false,[],(p+3),fun _=>⟨iW,iH⟩,o_,o_,rfl⟩
   ·simp (maxSteps:=9^7) +contextual -implicitDefEqProofs only[go_sem,seval,Zw,h0,c0,eL,eW,eH];exact⟨0,(IntKind.i64.wrap (ll+1)),0,0,W,H,0,0,false,0,0,0,0,0,false,[],(p+3),fun _=>⟨iW,iH⟩,o_,o_,rfl⟩
  ·have k0:¬c=0:=fun h=>ab (.inl h);have k1:¬c=1:=fun h=>ab (.inr h);by_cases k2:c=2
   ·obtain⟨X,Y,W,H,eB⟩:=ZmG bs hb (p+1) o_ 8 8;subst k2;simp (maxSteps:=9^7) +contextual -implicitDefEqProofs only[go_sem,seval,Zw,h0,c0,eB];exact⟨1,1,X,Y,W,H,0,0,false,0,0,0,0,0,false,[],(p+5),(fun e=>by cases e),o_,o_,rfl⟩
   ·by_cases ad:c=3∨c=4
    ·obtain⟨W,H,T,K,eP⟩:=Zkb bs hb (p+1) o_;have c5:=ZV bs (p+5) 3 hb o_;generalize Qc bs (p+5) 3=v at c5;rcases ad with rfl | rfl
     ·simp (maxSteps:=9^7) +contextual -implicitDefEqProofs only[go_sem,seval,Zw,h0,c0,eP,c5];exact⟨2,0,0,0,0,0,W,H,T,K,(IntKind.i64.wrap (1+v)),0,0,0,false,[],(p+6),(fun e=>by cases e),o_,o_,rfl⟩
     ·simp (maxSteps:=9^7) +contextual -implicitDefEqProofs only[go_sem,seval,Zw,h0,c0,eP,c5];exact⟨2,0,0,0,0,0,W,H,T,K,(IntKind.i64.wrap (1+v)),0,0,0,false,[],(p+6),(fun e=>by cases e),o_,o_,rfl⟩
    ·have k3:¬c=3:=fun h=>ad (.inl h);have k4:¬c=4:=fun h=>ad (.inr h);by_cases k5:c=5
     ·subst k5;by_cases hd:(0:Int)<(sD.length:Int)
      ·have d0:=ZV bs (p+1) sD.length hb o_;have d1:=XN bs (p+1) sD.length;have d2:=WQ bs (p+1) sD.length o_;obtain⟨j,hj⟩:∃ j:Nat,Qc bs (p+1) (sD.length:Int)=(j:Int):=⟨(Qc bs (p+1) (sD.length:Int)).toNat,o_⟩
       rw[hj] at d0 d2;have ag:j<sD.length:=o_
       obtain⟨z,hz⟩:=Zn ag;obtain⟨⟨W,H,T,K⟩,C⟩:=z;have d3:=ZV bs (p+2) C hb o_;generalize Qc bs (p+2) C=v at d3;simp (maxSteps:=9^7) +contextual -implicitDefEqProofs only[go_sem,seval,Zw,h0,c0,hd,d0,ag,hz,d3];exact⟨4,0,0,0,0,0,W,H,T,K,(IntKind.i64.wrap (1+v)),0,0,0,false,[],(p+3),(fun e=>by cases e),o_,o_,rfl⟩
      ·skip
       cases hN:WA (Zo.mk sS sO sD sL sC) with
       | none=>
        rw[hN] at eN;unfold nxV at eN;simp (maxSteps:=9^7) +contextual -implicitDefEqProofs only[go_sem,seval,Zw,h0,c0,hd,eN,eL];exact⟨0,(IntKind.i64.wrap (ll+2)),0,0,15,11,0,0,false,0,0,0,0,0,false,[],(p+1),fun _=>⟨by unfold I5;omega,by unfold I5;omega⟩,o_,o_,rfl⟩
       | some e=>
        have hk:=af e hN;rw[hN] at eN;obtain⟨k,l,⟨x,y,w,h⟩,⟨⟨pw,ph,pt,pk⟩,c9⟩,⟨o,a,q,t,ks⟩⟩:=e;unfold nxV at eN;simp only at eN hk;simp (maxSteps:=9^7) +contextual -implicitDefEqProofs only[go_sem,seval,Zw,h0,c0,hd,eN];exact⟨k,l,x,y,w,h,pw,ph,pt,pk,c9,o,a,q,t,ks,(p+1),fun e=>by omega,o_,o_,rfl⟩
     ·by_cases k6:c=6
      ·subst k6;have d3:=ZV bs (p+1) 3 hb o_;generalize Qc bs (p+1) 3=v at d3;by_cases ae:v=0
       ·subst ae;simp (maxSteps:=9^7) +contextual -implicitDefEqProofs only[go_sem,seval,Zw,h0,c0,d3];exact⟨5,1,0,0,0,0,0,0,false,0,0,0,0,0,false,[],(p+2),(fun e=>by cases e),o_,o_,rfl⟩
       ·skip
        cases hN:WA (Zo.mk sS sO sD sL sC) with
        | none=>
         rw[hN] at eN;unfold nxV at eN;simp (maxSteps:=9^7) +contextual -implicitDefEqProofs only[go_sem,seval,Zw,h0,c0,d3,ae,eN,eL];exact⟨0,(IntKind.i64.wrap (ll+2)),0,0,15,11,0,0,false,0,0,0,0,0,false,[],(p+2),fun _=>⟨by unfold I5;omega,by unfold I5;omega⟩,o_,o_,rfl⟩
        | some e=>
         have hk:=af e hN;rw[hN] at eN;obtain⟨k,l,⟨x,y,w,h⟩,⟨⟨pw,ph,pt,pk⟩,c9⟩,⟨o,a,q,t,ks⟩⟩:=e;unfold nxV at eN;simp only at eN hk;simp (maxSteps:=9^7) +contextual -implicitDefEqProofs only[go_sem,seval,Zw,h0,c0,d3,ae,eN];exact⟨k,l,x,y,w,h,pw,ph,pt,pk,c9,o,a,q,t,ks,(p+2),fun e=>by omega,o_,o_,rfl⟩
      ·skip
       cases hN:WA (Zo.mk sS sO sD sL sC) with
       | none=>
        rw[hN] at eN;unfold nxV at eN;simp (maxSteps:=9^7) +contextual -implicitDefEqProofs only[go_sem,seval,Zw,h0,c0,k0,k1,k2,k3,k4,k5,k6,eN,eL];exact⟨0,(IntKind.i64.wrap (ll+2)),0,0,15,11,0,0,false,0,0,0,0,0,false,[],(p+1),fun _=>⟨by unfold I5;omega,by unfold I5;omega⟩,o_,o_,rfl⟩
       | some e=>
        have hk:=af e hN;rw[hN] at eN;obtain⟨k,l,⟨x,y,w,h⟩,⟨⟨pw,ph,pt,pk⟩,c9⟩,⟨o,a,q,t,ks⟩⟩:=e;unfold nxV at eN;simp only at eN hk;simp (maxSteps:=9^7) +contextual -implicitDefEqProofs only[go_sem,seval,Zw,h0,c0,k0,k1,k2,k3,k4,k5,k6,eN];exact⟨k,l,x,y,w,h,pw,ph,pt,pk,c9,o,a,q,t,ks,(p+1),fun e=>by omega,o_,o_,rfl⟩
theorem Zgh:ZI ⟨[],[],[],0,0⟩:=by
 refine⟨⟨by simp,trivial⟩,⟨by simp,trivial,by simp[Qr]⟩,⟨by simp,trivial,by simp[Qr]⟩,?_⟩;simp[Y5,J0]
def ZBa (s:Zo) (n:Int):Option Zv:=if ZI s then (match Zyx s.Stock n with
 | some (_,q)=>some ⟨q.W,q.H,s.Opn.map Zc.Pane⟩
 | none=>none) else none
def wkV:Option Zv→AV×List Zm
 | some k=>(.tup [.agg [(.d (J (k.W))),(.d (J (k.H))),.own 0],(.d (.bool true))],[.row 4 (k.Panes.map Pane.enc) true false])
 | none=>(.tup [.agg [(.d (J 0)),(.d (J 0)),.own 0],(.d (.bool false))],[.row 4 [] true false])
theorem ZmR (sS:List Zb) (sO sD:List Zc) (sL sC:Int) (n:Int):v_ 83 [(.d (.agg [.sl (sS.map Zb.enc),.sl (sO.map Zc.enc),.sl (sD.map Zc.enc),J sL,J sC])),(.d (J n))] []=some (wkV (ZBa (Zo.mk sS sO sD sL sC) n)):=by
 have e1:=Z9 sS sO sD sL sC;unfold ZBa;by_cases hv:ZI (Zo.mk sS sO sD sL sC)
 ·rw[Ki hv] at e1;rw[Kg hv];have ab:=hv.1.1;have h8:=hv.2.1.1;simp only at ab h8;have e2:=Yy sS n o_;by_cases hf:QD 0 sS n<0
  ·rw[Zfm hf];unfold wkV;refine cE ?_;simp (maxSteps:=9^7) +contextual -implicitDefEqProofs only[go_sem,seval,ZdN,e1,e2,hf]
  ·obtain⟨a,x,ha,hx⟩:=ZaR (by omega:0≤QD 0 sS n);rw[ZbY ha hx];rw[ha] at e2;have ad:¬(a:Int)<0:=o_
   have aa:=(Kc.1 hx).1;obtain⟨xL,xW,xH,xF⟩:=x;unfold wkV;refine cE ?_;simp (maxSteps:=9^7) +contextual -implicitDefEqProofs only[go_sem,seval,ZdN,e1,e2,ad,aa,hx];refine LO (α:=Nat) (fun i=>[(37,.d (J (i:Int)))]) (fun i=>[(2,.row 4 (((sO.take i).map Zc.Pane).map Pane.enc) true false)]) (fun i=>i≤sO.length) (fun i=>sO.length-i) 0 o_ ?_;intro i hi ih;by_cases aa:i<sO.length
   ·obtain⟨x,hx⟩:=Zn aa;have hw:=Zg (k:=i) o_;have hm:=Zan hx;have ae:(sO.take i).length≤i:=by simp;omega
    have hr:((sO.take i).length+1)*32≤140737488355328∧(sO.take i).length≤140737488355327:=o_
    obtain⟨⟨W,H,T,K⟩,C⟩:=x;simp only at hm;simp +contextual -implicitDefEqProofs only[go_sem,seval,hx,aa,hw,hr];refine ih (i+1) _ o_ o_ ?_;simp +contextual -implicitDefEqProofs only[go_sem,seval,hm]
    first | rfl | (simp;done) | (simp;rfl)
   ·have:i=sO.length:=o_
    subst this;simp +contextual -implicitDefEqProofs only[go_sem,seval];simp
 ·rw[Kk hv] at e1;rw[Kd hv];unfold wkV;refine cE ?_;simp (maxSteps:=9^7) +contextual -implicitDefEqProofs only[go_sem,seval,ZdN,e1]
end Go.Proofs.YtfnegoimdljanaaGreatDoor
