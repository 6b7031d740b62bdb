/- Own text. -/
import Derived.Test.YthgciclhiaoecaaGreatACode
import Derived.Test.YthgciclhiaoecaaGreatAbsParts
import Derived.Test.YthgciclhiaoecaaGreatAC6
import Derived.Test.YthgciclhiaoecaaGreatAbsOkD
namespace Go.Proofs.YthgciclhiaoecaaGreat
open Go Go.Abs Go.Abs.E Go.Abs.L
open Nat (reduceMul reduceSub reduceLeDiff reduceEqDiff)
open Int (reduceLE reduceEq reduceToNat reduceNeg)
set_option linter.unusedSimpArgs false
set_option linter.unusedVariables false
set_option maxRecDepth 20000
set_option maxHeartbeats 4000000
def ZvM (l:List Zb) (n:Int):Option (Nat×Zb):=if 0≤QI 0 l n then (l[(QI 0 l n).toNat]?).map (fun x=>((QI 0 l n).toNat,x)) else none
theorem Ziv {l:List Zb} {n:Int} (h:QI 0 l n<0):ZvM l n=none:=by unfold ZvM;rw[Kg (by omega)]
theorem Zem {l:List Zb} {n:Int} {a:Nat} {x:Zb} (h:QI 0 l n=(a:Int)) (hx:l[a]?=some x):ZvM l n=some (a,x):=by
 unfold ZvM;rw[h,Kj (by omega),Kz,hx];rfl
def evS (s:Zq) (e:Zz):Option Zq:=
 if e.kind=0 then (if (ZdH ⟨e.label,e.box.W,e.box.H,[]⟩ s.Stock∧e.box.X=0)∧e.box.Y=0 then some { s with Stock:=YP ⟨e.label,e.box.W,e.box.H,[]⟩ s.Stock,Came:=s.Came+e.box.W*e.box.H } else none)
 else if e.kind=1 then (match ZvM s.Stock e.label with
  | none=>none
  | some (a,q)=>if ZdH { q with Flaws:=q.Flaws++[e.box] } (s.Stock.eraseIdx a) then some { s with Stock:=YP { q with Flaws:=q.Flaws++[e.box] } (s.Stock.eraseIdx a) } else none)
 else if e.kind=5 then (match ZvM s.Stock e.label with
  | none=>none
  | some (a,q)=>some { s with Stock:=s.Stock.eraseIdx a,Lost:=s.Lost+q.W*q.H })
 else if e.kind=2 then (if Uc e.line then some { s with Opn:=Vi e.line.Pane e.line.Count s.Opn } else none)
 else if e.kind=4 then (if Uc e.line∧Xl e.line.Pane e.line.Count false s.Done=true then some { s with Opn:=Vi e.line.Pane e.line.Count s.Opn,Done:=Yd s.Done e.line.Pane e.line.Count,Lost:=s.Lost+e.line.Count*e.line.Pane.W*e.line.Pane.H } else none)
 else if e.kind=3 then Zda s e
 else none
def J9 (t:Option Zq):Option Zq:=match t with
 | some t=>if ZF t then some t else none
 | none=>none
def Ye (s:Zq) (e:Zz):Option Zq:=J9 (evS s e)
theorem Zqk {s t:Zq} {e:Zz} (h:Ye s e=some t):ZF t:=by
 unfold Ye J9 at h;split at h
 ·split at h
  ·cases h;assumption
  ·cases h
 ·cases h
theorem Zy9 {s t:Zq} (h:Zcc s) (ho:t.Opn.length≤1048576) (hd:t.Done.length≤1048576) (hs:VSt t.Stock):Zcc t:=
 ⟨by have:=hs.1;omega,fun x hx=>⟨(ZbU hs).2 x hx,Zln (Z0 hs.2 x hx)⟩,ho,hd⟩
theorem ZCf {s t:Zq} {e:Zz} (hv:WSh s) (h:Zda s e=some t):VSt t.Stock∧t.Opn.length≤9∧t.Done.length≤1048576:=by
 have aa:∀ (ps:List Pane) (us:List Int) (o d o' d' : List Zc),YV ps us o d=some (o',d')→o'.length≤o.length∧d'.length≤d.length+ps.length:=by
  intro ps
  induction ps with
  | nil=>intro us o d o' d' h;unfold YV at h;cases h;simp
  | cons p ps ih=>
   intro us o d o' d' h;cases us with
   | nil=>unfold YV at h;cases h;simp
   | cons c us=>
    rw[YV] at h;split at h
    ·have:=ih _ _ _ _ _ h;simp;omega
    ·split at h
     ·have:=ih _ _ _ _ _ h;have h2:=Kn (ZgP p c) o;have h3:=ZgQ p c d;unfold Yd at this;simp;omega
     ·cases h
 unfold Zda at h;split at h
 ·cases h
 ·split at h
  ·cases h
  ·rename_i R hR;obtain⟨_,ab,_⟩:=Zlp hR;split at h
   ·split at h
    ·cases h
    ·rename_i o d hg;cases h;have:=aa _ _ _ _ _ _ hg;have h8:=hv.2.1;have h9:=hv.2.2.2.1.1;rw[KB] at this;exact⟨ab,by simp only;omega,by simp only;omega⟩
   ·cases h
theorem Zaq (sS:List Zb) (sO sD:List Zc) (sL sC:Int) (eK eL eX eY eW eH aa ab:Int) (ad:Bool) (ae eC eo ea ep:Int) (et:Bool) (ek:List Ze) (hv:WSh (Zq.mk sS sO sD sL sC)) (k3:eK=3):Zd Xs Ms YX [(.d (.agg [.sl (sS.map Zb.enc),.sl (sO.map Zc.enc),.sl (sD.map Zc.enc),J sL,J sC])),(.d (.agg [J eK,J eL,J eX,J eY,J eW,J eH,J aa,J ab,.bool ad,J ae,J eC,J eo,J ea,J ep,.bool et,.sl (ek.map Ze.enc)]))] []=some (shV (Ye (Zq.mk sS sO sD sL sC) (Zz.mk eK eL (Box.mk eX eY eW eH) (Zc.mk (Pane.mk aa ab ad ae) eC) (Ze.mk eo ea ep et ek)))):=by
 have aj:=(Zys hv).1;have af:=Zsy sS sO sD sL sC eK eL eX eY eW eH aa ab ad ae eC eo ea ep et ek hv;subst k3;have ee:Ye (Zq.mk sS sO sD sL sC) (Zz.mk 3 eL ⟨eX,eY,eW,eH⟩ ⟨⟨aa,ab,ad,ae⟩,eC⟩ (.mk eo ea ep et ek))=J9 (Zda (Zq.mk sS sO sD sL sC) (Zz.mk 3 eL ⟨eX,eY,eW,eH⟩ ⟨⟨aa,ab,ad,ae⟩,eC⟩ (.mk eo ea ep et ek))):=by
  unfold Ye evS;simp
 rw[ee];have ah:=fun t=>ZCf (t:=t) (e:=Zz.mk 3 eL ⟨eX,eY,eW,eH⟩ ⟨⟨aa,ab,ad,ae⟩,eC⟩ (.mk eo ea ep et ek)) hv;cases hc:Zda (Zq.mk sS sO sD sL sC) (Zz.mk 3 eL ⟨eX,eY,eW,eH⟩ ⟨⟨aa,ab,ad,ae⟩,eC⟩ (.mk eo ea ep et ek)) with
 | none=>
  rw[hc] at af;unfold J9 shV at *;simp only;refine cE ?_;simp +contextual -implicitDefEqProofs (maxSteps:=10^7) only[go_sem,seval,↓gZ,Wp,af]
 | some t=>
  obtain⟨g1,g2,g3⟩:=ah t hc;rw[hc] at af;have ai:Zcc t:=Zy9 aj (by omega) g3 g1;obtain⟨tS,tO,tD,tL,tC⟩:=t;have e1:=Jh _ _ _ _ _ ai;have e2:=Zjb _ _ _ _ _ ai;unfold J9;unfold shV at af;simp only at af;by_cases ag:ZF (Zq.mk tS tO tD tL tC)
  ·rw[Kh ag] at e1;simp only[Kj ag];unfold shV;refine cE ?_;simp +contextual -implicitDefEqProofs (maxSteps:=10^7) only[go_sem,seval,↓gZ,Wp,af,e1,e2]
  ·rw[Ki ag] at e1;simp only[Kg ag];unfold shV;refine cE ?_;simp +contextual -implicitDefEqProofs (maxSteps:=10^7) only[go_sem,seval,↓gZ,Wp,af,e1]
end Go.Proofs.YthgciclhiaoecaaGreat
