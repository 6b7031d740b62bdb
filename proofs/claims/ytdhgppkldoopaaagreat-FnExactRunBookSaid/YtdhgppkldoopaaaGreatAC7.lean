/- Own text. -/
import Derived.Test.YtdhgppkldoopaaaGreatACode
import Derived.Test.YtdhgppkldoopaaaGreatAbsParts
import Derived.Test.YtdhgppkldoopaaaGreatAC6
import Derived.Test.YtdhgppkldoopaaaGreatAbsOkD
namespace Go.Proofs.YtdhgppkldoopaaaGreat
open Go Go.Abs Go.Abs.E Go.Abs.L
open Nat (reduceMul reduceSub reduceLeDiff reduceEqDiff)
open Int (reduceLE reduceEq reduceToNat reduceNeg)
set_option linter.unusedSimpArgs false
set_option linter.unusedVariables false
set_option maxRecDepth 20000
set_option maxHeartbeats 4000000
def ZuX (l:List Zb) (n:Int):Option (Nat×Zb):=if 0≤Qu 0 l n then (l[(Qu 0 l n).toNat]?).map (fun x=>((Qu 0 l n).toNat,x)) else none
theorem Zdr {l:List Zb} {n:Int} (h:Qu 0 l n<0):ZuX l n=none:=by unfold ZuX;rw[Kj (by omega)]
theorem Zds {l:List Zb} {n:Int} {a:Nat} {x:Zb} (h:Qu 0 l n=(a:Int)) (hx:l[a]?=some x):ZuX l n=some (a,x):=by
 unfold ZuX;rw[h,Kl (by omega),Le,hx];rfl
def evS (s:Zs) (e:Zt):Option Zs:=
 if e.kind=0 then (if (Va ⟨e.label,e.box.W,e.box.H,[]⟩ s.Stock∧e.box.X=0)∧e.box.Y=0 then some { s with Stock:=Qq ⟨e.label,e.box.W,e.box.H,[]⟩ s.Stock,Came:=s.Came+e.box.W*e.box.H } else none)
 else if e.kind=1 then (match ZuX s.Stock e.label with
  | none=>none
  | some (a,q)=>if Va { q with Flaws:=q.Flaws++[e.box] } (s.Stock.eraseIdx a) then some { s with Stock:=Qq { q with Flaws:=q.Flaws++[e.box] } (s.Stock.eraseIdx a) } else none)
 else if e.kind=5 then (match ZuX s.Stock e.label with
  | none=>none
  | some (a,q)=>some { s with Stock:=s.Stock.eraseIdx a,Lost:=s.Lost+q.W*q.H })
 else if e.kind=2 then (if VD e.line then some { s with Opn:=Yb e.line.Pane e.line.Count s.Opn } else none)
 else if e.kind=4 then (if VD e.line∧Q3 e.line.Pane e.line.Count false s.Done=true then some { s with Opn:=Yb e.line.Pane e.line.Count s.Opn,Done:=Xz s.Done e.line.Pane e.line.Count,Lost:=s.Lost+e.line.Count*e.line.Pane.W*e.line.Pane.H } else none)
 else if e.kind=3 then Zd1 s e
 else none
def Ym (t:Option Zs):Option Zs:=match t with
 | some t=>if ZM t then some t else none
 | none=>none
def QF (s:Zs) (e:Zt):Option Zs:=Ym (evS s e)
theorem Zd2 {s t:Zs} {e:Zt} (h:QF s e=some t):ZM t:=by
 unfold QF Ym at h;split at h
 ·split at h
  ·cases h;assumption
  ·cases h
 ·cases h
theorem Zdt {s t:Zs} (h:Ub s) (ho:t.Opn.length≤1048576) (hd:t.Done.length≤1048576) (hs:VSt t.Stock):Ub t:=
 ⟨by have:=hs.1;omega,fun x hx=>⟨(Zdp hs).2 x hx,ZnO (Qo hs.2 x hx)⟩,ho,hd⟩
theorem ZzQ {s t:Zs} {e:Zt} (hv:WSh s) (h:Zd1 s e=some t):VSt t.Stock∧t.Opn.length≤9∧t.Done.length≤1048576:=by
 have aa:∀ (ps:List Pane) (us:List Int) (o d o' d' : List Zc),WP ps us o d=some (o',d')→o'.length≤o.length∧d'.length≤d.length+ps.length:=by
  intro ps
  induction ps with
  | nil=>intro us o d o' d' h;unfold WP at h;cases h;simp
  | cons p ps ih=>
   intro us o d o' d' h;cases us with
   | nil=>unfold WP at h;cases h;simp
   | cons c us=>
    rw[WP] at h;split at h
    ·have:=ih _ _ _ _ _ h;simp;omega
    ·split at h
     ·have:=ih _ _ _ _ _ h;have h2:=Ki (ZfN p c) o;have h3:=Zbo p c d;unfold Xz at this;simp;omega
     ·cases h
 unfold Zd1 at h;split at h
 ·cases h
 ·split at h
  ·cases h
  ·rename_i R hR;obtain⟨_,ab,_⟩:=Zow hR;split at h
   ·split at h
    ·cases h
    ·rename_i o d hg;cases h;have:=aa _ _ _ _ _ _ hg;have h8:=hv.2.1;have h9:=hv.2.2.2.1.1;rw[KQ] at this;exact⟨ab,by simp only;omega,by simp only;omega⟩
   ·cases h
theorem Zlp (sS:List Zb) (sO sD:List Zc) (sL sC:Int) (eK eL eX eY eW eH aa ab:Int) (ad:Bool) (ae eC eo ea ep:Int) (et:Bool) (ek:List Zd) (hv:WSh (Zs.mk sS sO sD sL sC)) (k3:eK=3):Zf Xs Ms Xr [(.d (.agg [.sl (sS.map Zb.enc),.sl (sO.map Zc.enc),.sl (sD.map Zc.enc),J sL,J sC])),(.d (.agg [J eK,J eL,J eX,J eY,J eW,J eH,J aa,J ab,.bool ad,J ae,J eC,J eo,J ea,J ep,.bool et,.sl (ek.map Zd.enc)]))] []=some (shV (QF (Zs.mk sS sO sD sL sC) (Zt.mk eK eL (Box.mk eX eY eW eH) (Zc.mk (Pane.mk aa ab ad ae) eC) (Zd.mk eo ea ep et ek)))):=by
 have aj:=(Zwa hv).1;have af:=ZqC sS sO sD sL sC eK eL eX eY eW eH aa ab ad ae eC eo ea ep et ek hv;subst k3;have ee:QF (Zs.mk sS sO sD sL sC) (Zt.mk 3 eL ⟨eX,eY,eW,eH⟩ ⟨⟨aa,ab,ad,ae⟩,eC⟩ (.mk eo ea ep et ek))=Ym (Zd1 (Zs.mk sS sO sD sL sC) (Zt.mk 3 eL ⟨eX,eY,eW,eH⟩ ⟨⟨aa,ab,ad,ae⟩,eC⟩ (.mk eo ea ep et ek))):=by
  unfold QF evS;simp
 rw[ee];have ah:=fun t=>ZzQ (t:=t) (e:=Zt.mk 3 eL ⟨eX,eY,eW,eH⟩ ⟨⟨aa,ab,ad,ae⟩,eC⟩ (.mk eo ea ep et ek)) hv;cases hc:Zd1 (Zs.mk sS sO sD sL sC) (Zt.mk 3 eL ⟨eX,eY,eW,eH⟩ ⟨⟨aa,ab,ad,ae⟩,eC⟩ (.mk eo ea ep et ek)) with
 | none=>
  rw[hc] at af;unfold Ym shV at *;simp only;refine cE ?_;simp +contextual -implicitDefEqProofs (maxSteps:=10^7) only[go_sem,seval,↓gZ,Zu,af]
 | some t=>
  obtain⟨g1,g2,g3⟩:=ah t hc;rw[hc] at af;have ai:Ub t:=Zdt aj (by omega) g3 g1;obtain⟨tS,tO,tD,tL,tC⟩:=t;have e1:=XX _ _ _ _ _ ai;have e2:=Vg _ _ _ _ _ ai;unfold Ym;unfold shV at af;simp only at af;by_cases ag:ZM (Zs.mk tS tO tD tL tC)
  ·rw[Kg ag] at e1;simp only[Kl ag];unfold shV;refine cE ?_;simp +contextual -implicitDefEqProofs (maxSteps:=10^7) only[go_sem,seval,↓gZ,Zu,af,e1,e2]
  ·rw[Kh ag] at e1;simp only[Kj ag];unfold shV;refine cE ?_;simp +contextual -implicitDefEqProofs (maxSteps:=10^7) only[go_sem,seval,↓gZ,Zu,af,e1]
theorem Zfe (sS:List Zb) (sO sD:List Zc) (sL sC:Int) (eK eL eX eY eW eH ab ad:Int) (ae:Bool) (af eC eo ea ep:Int) (et:Bool) (ek:List Zd) (hv:ZM (Zs.mk sS sO sD sL sC)) (hW:eK=0→I5 eW) (hH:eK=0→I5 eH):Zf Xs Ms Xr [(.d (.agg [.sl (sS.map Zb.enc),.sl (sO.map Zc.enc),.sl (sD.map Zc.enc),J sL,J sC])),(.d (.agg [J eK,J eL,J eX,J eY,J eW,J eH,J ab,J ad,.bool ae,J af,J eC,J eo,J ea,J ep,.bool et,.sl (ek.map Zd.enc)]))] []=some (shV (QF (Zs.mk sS sO sD sL sC) (Zt.mk eK eL (Box.mk eX eY eW eH) (Zc.mk (Pane.mk ab ad ae af) eC) (Zd.mk eo ea ep et ek)))):=by
 have hS:=Zhe hv;have ai:=hS.1;have an:=hv.2.1.1;have ao:=hv.2.2.1.1;simp only at an ao;by_cases k0:eK=0
 ·have aa:=ZiU sS sO sD sL sC eK eL eX eY eW eH ab ad ae af eC eo ea ep et ek hS k0 (hW k0) (hH k0);rw[k0] at aa;by_cases hr:(Va ⟨eL,eW,eH,[]⟩ sS∧eX=0)∧eY=0
  ·have ee:QF (Zs.mk sS sO sD sL sC) (Zt.mk eK eL (Box.mk eX eY eW eH) (Zc.mk (Pane.mk ab ad ae af) eC) (Zd.mk eo ea ep et ek))=Ym (some (Zs.mk (Qq ⟨eL,eW,eH,[]⟩ sS) sO sD sL (sC+eW*eH))):=by unfold QF evS;simp only[k0,hr,Kn,and_self]
   rw[ee];rw[Kg hr,Kl hr.1.1] at aa;have ah:Ub (Zs.mk (Qq ⟨eL,eW,eH,[]⟩ sS) sO sD sL (sC+eW*eH)):=Zdt ai (by simp only;omega) (by simp only;omega) hr.1.1.2;have e1:=XX _ _ _ _ _ ah;have e2:=Vg _ _ _ _ _ ah;unfold Ym;generalize Qq ⟨eL,eW,eH,[]⟩ sS=Q at aa e1 e2 ⊢;by_cases ag:ZM (Zs.mk Q sO sD sL (sC+eW*eH))
   ·rw[Kg ag] at e1;simp only[Kl ag];unfold shV;refine cE ?_;simp +contextual -implicitDefEqProofs (maxSteps:=10^7) only[go_sem,seval,↓gZ,Zu,k0,aa,e1,e2]
   ·rw[Kh ag] at e1;simp only[Kj ag];unfold shV;refine cE ?_;simp +contextual -implicitDefEqProofs (maxSteps:=10^7) only[go_sem,seval,↓gZ,Zu,k0,aa,e1]
  ·have ee:QF (Zs.mk sS sO sD sL sC) (Zt.mk eK eL (Box.mk eX eY eW eH) (Zc.mk (Pane.mk ab ad ae af) eC) (Zd.mk eo ea ep et ek))=none:=by unfold QF evS;simp only[k0,Kn];rw[Kj hr];rfl
   rw[ee];rw[Kh hr] at aa;unfold shV;refine cE ?_;simp +contextual -implicitDefEqProofs (maxSteps:=10^7) only[go_sem,seval,↓gZ,Zu,k0,aa]
 ·by_cases aj:eK=1∨eK=5
  ·by_cases hf:Qu 0 sS eL<0
   ·have aa:=ZnG sS sO sD sL sC eK eL eX eY eW eH ab ad ae af eC eo ea ep et ek hS k0 hf;have ee:QF (Zs.mk sS sO sD sL sC) (Zt.mk eK eL (Box.mk eX eY eW eH) (Zc.mk (Pane.mk ab ad ae af) eC) (Zd.mk eo ea ep et ek))=none:=by
     unfold QF evS;rcases aj with k1 | k1<;>simp[k1,Zdr hf,Ym]
    rw[ee];unfold shV;refine cE ?_;rcases aj with k1 | k1
    ·rw[k1] at aa;simp +contextual -implicitDefEqProofs (maxSteps:=10^7) only[go_sem,seval,↓gZ,Zu,k1,aa]
    ·rw[k1] at aa;simp +contextual -implicitDefEqProofs (maxSteps:=10^7) only[go_sem,seval,↓gZ,Zu,k1,aa]
   ·obtain⟨a,x,ha,hx⟩:=Zai (by omega:0≤Qu 0 sS eL);have al:=Zds ha hx;obtain⟨xL,xW,xH,xF⟩:=x;have am:=Qo hv.1.2 _ (Kb hx);by_cases k1:eK=1
    ·have aa:=ZjX sS sO sD sL sC eK eL eX eY eW eH ab ad ae af eC eo ea ep et ek hv k1 a ha xL xW xH xF hx;rw[k1] at aa;by_cases hr:Va ⟨xL,xW,xH,xF++[⟨eX,eY,eW,eH⟩]⟩ (sS.eraseIdx a)
     ·have ee:QF (Zs.mk sS sO sD sL sC) (Zt.mk eK eL (Box.mk eX eY eW eH) (Zc.mk (Pane.mk ab ad ae af) eC) (Zd.mk eo ea ep et ek))=Ym (some (Zs.mk (Qq ⟨xL,xW,xH,xF++[⟨eX,eY,eW,eH⟩]⟩ (sS.eraseIdx a)) sO sD sL sC)):=by
       unfold QF evS;simp[k1,al,hr]
      rw[ee];rw[Kg hr,Kl hr] at aa;have ah:Ub (Zs.mk (Qq ⟨xL,xW,xH,xF++[⟨eX,eY,eW,eH⟩]⟩ (sS.eraseIdx a)) sO sD sL sC):=Zdt ai (by simp only;omega) (by simp only;omega) hr.2;have e1:=XX _ _ _ _ _ ah;have e2:=Vg _ _ _ _ _ ah;unfold Ym;generalize Qq ⟨xL,xW,xH,xF++[⟨eX,eY,eW,eH⟩]⟩ (sS.eraseIdx a)=Q at aa e1 e2 ⊢;by_cases ag:ZM (Zs.mk Q sO sD sL sC)
      ·rw[Kg ag] at e1;simp only[Kl ag];unfold shV;refine cE ?_;simp +contextual -implicitDefEqProofs (maxSteps:=10^7) only[go_sem,seval,↓gZ,Zu,k1,aa,e1,e2]
      ·rw[Kh ag] at e1;simp only[Kj ag];unfold shV;refine cE ?_;simp +contextual -implicitDefEqProofs (maxSteps:=10^7) only[go_sem,seval,↓gZ,Zu,k1,aa,e1]
     ·have ee:QF (Zs.mk sS sO sD sL sC) (Zt.mk eK eL (Box.mk eX eY eW eH) (Zc.mk (Pane.mk ab ad ae af) eC) (Zd.mk eo ea ep et ek))=none:=by
       unfold QF evS;simp[k1,al,hr,Ym]
      rw[ee];rw[Kh hr] at aa;unfold shV;refine cE ?_;simp +contextual -implicitDefEqProofs (maxSteps:=10^7) only[go_sem,seval,↓gZ,Zu,k1,aa]
    ·have k5:eK=5:=by omega
     have aa:=ZiV sS sO sD sL sC eK eL eX eY eW eH ab ad ae af eC eo ea ep et ek hS k5 a ha xL xW xH xF hx (by have:=am.1;simp only at this;unfold I5;omega) (by have:=am.1;simp only at this;unfold I5;omega);rw[k5] at aa;have ee:QF (Zs.mk sS sO sD sL sC) (Zt.mk eK eL (Box.mk eX eY eW eH) (Zc.mk (Pane.mk ab ad ae af) eC) (Zd.mk eo ea ep et ek))=Ym (some (Zs.mk (sS.eraseIdx a) sO sD (sL+xW*xH) sC)):=by
      unfold QF evS;simp[k5,al]
     rw[ee];have ah:Ub (Zs.mk (sS.eraseIdx a) sO sD (sL+xW*xH) sC):=⟨by have:=Zlk sS a;have:=ai.1;simp only at this ⊢;omega,fun y hy=>ai.2.1 y (LQ hy),ai.2.2⟩
     have e1:=XX _ _ _ _ _ ah;have e2:=Vg _ _ _ _ _ ah;unfold Ym;generalize sS.eraseIdx a=Q at aa e1 e2 ⊢;by_cases ag:ZM (Zs.mk Q sO sD (sL+xW*xH) sC)
     ·rw[Kg ag] at e1;simp only[Kl ag];unfold shV;refine cE ?_;simp +contextual -implicitDefEqProofs (maxSteps:=10^7) only[go_sem,seval,↓gZ,Zu,k5,aa,e1,e2]
     ·rw[Kh ag] at e1;simp only[Kj ag];unfold shV;refine cE ?_;simp +contextual -implicitDefEqProofs (maxSteps:=10^7) only[go_sem,seval,↓gZ,Zu,k5,aa,e1]
  ·have k1:¬eK=1:=fun h=>aj (.inl h);have k5:¬eK=5:=fun h=>aj (.inr h);by_cases ak:eK=2∨eK=4
   ·by_cases hl:VD ⟨⟨ab,ad,ae,af⟩,eC⟩
    ·by_cases k2:eK=2
     ·have aa:=ZjY sS sO sD sL sC eK eL eX eY eW eH ab ad ae af eC eo ea ep et ek hv hl k2;rw[k2] at aa;have ee:QF (Zs.mk sS sO sD sL sC) (Zt.mk eK eL (Box.mk eX eY eW eH) (Zc.mk (Pane.mk ab ad ae af) eC) (Zd.mk eo ea ep et ek))=Ym (some (Zs.mk sS (Yb ⟨ab,ad,ae,af⟩ eC sO) sD sL sC)):=by
       unfold QF evS;simp[k2,hl]
      rw[ee];have ah:Ub (Zs.mk sS (Yb ⟨ab,ad,ae,af⟩ eC sO) sD sL sC):=Zdt ai (Kv (Zbo _ _ _) (by omega)) (by simp only;omega) hv.1;have e1:=XX _ _ _ _ _ ah;have e2:=Vg _ _ _ _ _ ah;unfold Ym;generalize Yb ⟨ab,ad,ae,af⟩ eC sO=Q at aa e1 e2 ⊢;by_cases ag:ZM (Zs.mk sS Q sD sL sC)
      ·rw[Kg ag] at e1;simp only[Kl ag];unfold shV;refine cE ?_;simp +contextual -implicitDefEqProofs (maxSteps:=10^7) only[go_sem,seval,↓gZ,Zu,k2,aa,e1,e2]
      ·rw[Kh ag] at e1;simp only[Kj ag];unfold shV;refine cE ?_;simp +contextual -implicitDefEqProofs (maxSteps:=10^7) only[go_sem,seval,↓gZ,Zu,k2,aa,e1]
     ·have k4:eK=4:=by omega
      have aa:=ZjZ sS sO sD sL sC eK eL eX eY eW eH ab ad ae af eC eo ea ep et ek hv hl k2;rw[k4] at aa;by_cases ht:Q3 ⟨ab,ad,ae,af⟩ eC false sD=true
      ·rw[ht] at aa;have ee:QF (Zs.mk sS sO sD sL sC) (Zt.mk eK eL (Box.mk eX eY eW eH) (Zc.mk (Pane.mk ab ad ae af) eC) (Zd.mk eo ea ep et ek))=Ym (some (Zs.mk sS (Yb ⟨ab,ad,ae,af⟩ eC sO) (Xz sD ⟨ab,ad,ae,af⟩ eC) (sL+eC*ab*ad) sC)):=by
        unfold QF evS;simp[k4,hl,ht]
       rw[ee];have ah:Ub (Zs.mk sS (Yb ⟨ab,ad,ae,af⟩ eC sO) (Xz sD ⟨ab,ad,ae,af⟩ eC) (sL+eC*ab*ad) sC):=Zdt ai (Kv (Zbo _ _ _) (by omega)) (Kv (Ki _ _) (by omega)) hv.1;have e1:=XX _ _ _ _ _ ah;have e2:=Vg _ _ _ _ _ ah;unfold Ym;generalize Yb ⟨ab,ad,ae,af⟩ eC sO=Q at aa e1 e2 ⊢;generalize Xz sD ⟨ab,ad,ae,af⟩ eC=R at aa e1 e2 ⊢;by_cases ag:ZM (Zs.mk sS Q R (sL+eC*ab*ad) sC)
       ·rw[Kg ag] at e1;simp only[Kl ag];unfold shV;refine cE ?_;simp +contextual -implicitDefEqProofs (maxSteps:=10^7) only[go_sem,seval,↓gZ,Zu,k4,aa,e1,e2]
       ·rw[Kh ag] at e1;simp only[Kj ag];unfold shV;refine cE ?_;simp +contextual -implicitDefEqProofs (maxSteps:=10^7) only[go_sem,seval,↓gZ,Zu,k4,aa,e1]
      ·have ee:QF (Zs.mk sS sO sD sL sC) (Zt.mk eK eL (Box.mk eX eY eW eH) (Zc.mk (Pane.mk ab ad ae af) eC) (Zd.mk eo ea ep et ek))=none:=by
        unfold QF evS;simp[k4,ht,Ym]
       rw[ee];simp only[LH] at ht;rw[ht] at aa;unfold shV;refine cE ?_;simp +contextual -implicitDefEqProofs (maxSteps:=10^7) only[go_sem,seval,↓gZ,Zu,k4,aa]
    ·have aa:=ZnH sS sO sD sL sC eK eL eX eY eW eH ab ad ae af eC eo ea ep et ek hl;have ee:QF (Zs.mk sS sO sD sL sC) (Zt.mk eK eL (Box.mk eX eY eW eH) (Zc.mk (Pane.mk ab ad ae af) eC) (Zd.mk eo ea ep et ek))=none:=by
      unfold QF evS;rcases ak with k2 | k2<;>simp[k2,hl,Ym]
     rw[ee];unfold shV;refine cE ?_;rcases ak with k2 | k2
     ·rw[k2] at aa;simp +contextual -implicitDefEqProofs (maxSteps:=10^7) only[go_sem,seval,↓gZ,Zu,k2,aa]
     ·rw[k2] at aa;simp +contextual -implicitDefEqProofs (maxSteps:=10^7) only[go_sem,seval,↓gZ,Zu,k2,aa]
   ·have k2:¬eK=2:=fun h=>ak (.inl h);have k4:¬eK=4:=fun h=>ak (.inr h);by_cases k3:eK=3
    ·exact Zlp sS sO sD sL sC eK eL eX eY eW eH ab ad ae af eC eo ea ep et ek (ZzP hv) k3
    ·have ee:QF (Zs.mk sS sO sD sL sC) (Zt.mk eK eL (Box.mk eX eY eW eH) (Zc.mk (Pane.mk ab ad ae af) eC) (Zd.mk eo ea ep et ek))=none:=by
      unfold QF evS;simp[k0,k1,k5,k2,k4,k3,Ym]
     rw[ee];unfold shV;refine cE ?_;simp +contextual -implicitDefEqProofs (maxSteps:=10^7) only[go_sem,seval,↓gZ,Zu,k0,k1,k5,k2,k4,k3]
end Go.Proofs.YtdhgppkldoopaaaGreat
