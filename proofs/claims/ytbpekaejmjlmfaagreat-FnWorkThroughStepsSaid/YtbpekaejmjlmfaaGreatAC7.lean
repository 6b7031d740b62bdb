/- Own text. -/
import Derived.Test.YtbpekaejmjlmfaaGreatACode
import Derived.Test.YtbpekaejmjlmfaaGreatAbsParts
import Derived.Test.YtbpekaejmjlmfaaGreatAC6
import Derived.Test.YtbpekaejmjlmfaaGreatAC1
namespace Go.Proofs.YtbpekaejmjlmfaaGreat
open Go Go.Abs Go.Abs.E Go.Abs.L
open Nat (reduceMul reduceSub reduceLeDiff reduceEqDiff)
open Int (reduceLE reduceEq reduceToNat reduceNeg)
set_option linter.unusedSimpArgs false
set_option linter.unusedVariables false
set_option maxRecDepth 20000
set_option maxHeartbeats 4000000
def ZvW (l:List Zb) (n:Int):Option (Nat×Zb):=if 0≤QB 0 l n then (l[(QB 0 l n).toNat]?).map (fun x=>((QB 0 l n).toNat,x)) else none
theorem Zfd {l:List Zb} {n:Int} (h:QB 0 l n<0):ZvW l n=none:=by unfold ZvW;rw[Ki (by omega)]
theorem Zbl {l:List Zb} {n:Int} {a:Nat} {x:Zb} (h:QB 0 l n=(a:Int)) (hx:l[a]?=some x):ZvW l n=some (a,x):=by
 unfold ZvW;rw[h,Kl (by omega),KA,hx];rfl
def evS (s:Zm) (e:Zx):Option Zm:=
 if e.kind=0 then (if (Wz ⟨e.label,e.box.W,e.box.H,[]⟩ s.Stock∧e.box.X=0)∧e.box.Y=0 then some { s with Stock:=QC ⟨e.label,e.box.W,e.box.H,[]⟩ s.Stock,Came:=s.Came+e.box.W*e.box.H } else none)
 else if e.kind=1 then (match ZvW s.Stock e.label with
  | none=>none
  | some (a,q)=>if Wz { q with Flaws:=q.Flaws++[e.box] } (s.Stock.eraseIdx a) then some { s with Stock:=QC { q with Flaws:=q.Flaws++[e.box] } (s.Stock.eraseIdx a) } else none)
 else if e.kind=5 then (match ZvW s.Stock e.label with
  | none=>none
  | some (a,q)=>some { s with Stock:=s.Stock.eraseIdx a,Lost:=s.Lost+q.W*q.H })
 else if e.kind=2 then (if V8 e.line then some { s with Opn:=Yw e.line.Pane e.line.Count s.Opn } else none)
 else if e.kind=4 then (if V8 e.line∧Xe e.line.Pane e.line.Count false s.Done=true then some { s with Opn:=Yw e.line.Pane e.line.Count s.Opn,Done:=XS s.Done e.line.Pane e.line.Count,Lost:=s.Lost+e.line.Count*e.line.Pane.W*e.line.Pane.H } else none)
 else if e.kind=3 then ZdW s e
 else none
def Y5 (t:Option Zm):Option Zm:=match t with
 | some t=>if ZE t then some t else none
 | none=>none
def QE (s:Zm) (e:Zx):Option Zm:=Y5 (evS s e)
theorem Zjw {s t:Zm} {e:Zx} (h:QE s e=some t):ZE t:=by
 unfold QE Y5 at h;split at h
 ·split at h
  ·cases h;assumption
  ·cases h
 ·cases h
theorem Zfe {s t:Zm} (h:JK s) (ho:t.Opn.length≤1048576) (hd:t.Done.length≤1048576) (hs:VSt t.Stock):JK t:=
 ⟨by have:=hs.1;omega,fun x hx=>⟨(ZcH hs).2 x hx,Zkl (Z3 hs.2 x hx)⟩,ho,hd⟩
theorem ZCC {s t:Zm} {e:Zx} (hv:WSh s) (h:ZdW s e=some t):VSt t.Stock∧t.Opn.length≤9∧t.Done.length≤1048576:=by
 have aa:∀ (ps:List Pane) (us:List Int) (o d o' d' : List Zc),Vo ps us o d=some (o',d')→o'.length≤o.length∧d'.length≤d.length+ps.length:=by
  intro ps
  induction ps with
  | nil=>intro us o d o' d' h;unfold Vo at h;cases h;simp
  | cons p ps ih=>
   intro us o d o' d' h;cases us with
   | nil=>unfold Vo at h;cases h;simp
   | cons c us=>
    rw[Vo] at h;split at h
    ·have:=ih _ _ _ _ _ h;simp;omega
    ·split at h
     ·have:=ih _ _ _ _ _ h;have h2:=Kn (Zhg p c) o;have h3:=Zc4 p c d;unfold XS at this;simp;omega
     ·cases h
 unfold ZdW at h;split at h
 ·cases h
 ·split at h
  ·cases h
  ·rename_i R hR;obtain⟨_,ab,_⟩:=Zkq hR;split at h
   ·split at h
    ·cases h
    ·rename_i o d hg;cases h;have:=aa _ _ _ _ _ _ hg;have h8:=hv.2.1;have h9:=hv.2.2.2.1.1;rw[Kv] at this;exact⟨ab,by simp only;omega,by simp only;omega⟩
   ·cases h
theorem Us (sS:List Zb) (sO sD:List Zc) (sL sC:Int) (eK eL eX eY eW eH aa ab:Int) (ad:Bool) (ae eC eo ea ep:Int) (et:Bool) (ek:List Ze) (hv:WSh (Zm.mk sS sO sD sL sC)) (k3:eK=3):Zd Xs Ms XU [(.d (.agg [.sl (sS.map Zb.enc),.sl (sO.map Zc.enc),.sl (sD.map Zc.enc),J sL,J sC])),(.d (.agg [J eK,J eL,J eX,J eY,J eW,J eH,J aa,J ab,.bool ad,J ae,J eC,J eo,J ea,J ep,.bool et,.sl (ek.map Ze.enc)]))] []=some (shV (QE (Zm.mk sS sO sD sL sC) (Zx.mk eK eL (Box.mk eX eY eW eH) (Zc.mk (Pane.mk aa ab ad ae) eC) (Ze.mk eo ea ep et ek)))):=by
 have aj:=(Zug hv).1;have af:=ZrL sS sO sD sL sC eK eL eX eY eW eH aa ab ad ae eC eo ea ep et ek hv;subst k3;have ee:QE (Zm.mk sS sO sD sL sC) (Zx.mk 3 eL ⟨eX,eY,eW,eH⟩ ⟨⟨aa,ab,ad,ae⟩,eC⟩ (.mk eo ea ep et ek))=Y5 (ZdW (Zm.mk sS sO sD sL sC) (Zx.mk 3 eL ⟨eX,eY,eW,eH⟩ ⟨⟨aa,ab,ad,ae⟩,eC⟩ (.mk eo ea ep et ek))):=by
  unfold QE evS;simp
 rw[ee];have ah:=fun t=>ZCC (t:=t) (e:=Zx.mk 3 eL ⟨eX,eY,eW,eH⟩ ⟨⟨aa,ab,ad,ae⟩,eC⟩ (.mk eo ea ep et ek)) hv;cases hc:ZdW (Zm.mk sS sO sD sL sC) (Zx.mk 3 eL ⟨eX,eY,eW,eH⟩ ⟨⟨aa,ab,ad,ae⟩,eC⟩ (.mk eo ea ep et ek)) with
 | none=>
  rw[hc] at af;unfold Y5 shV at *;simp only;refine cE ?_;simp +contextual -implicitDefEqProofs (maxSteps:=10^7) only[go_sem,seval,↓gZ,Zz,af]
 | some t=>
  obtain⟨g1,g2,g3⟩:=ah t hc;rw[hc] at af;have ai:JK t:=Zfe aj (by omega) g3 g1;obtain⟨tS,tO,tD,tL,tC⟩:=t;have e1:=XT _ _ _ _ _ ai;have e2:=Y4 _ _ _ _ _ ai;unfold Y5;unfold shV at af;simp only at af;by_cases ag:ZE (Zm.mk tS tO tD tL tC)
  ·rw[Ke ag] at e1;simp only[Kl ag];unfold shV;refine cE ?_;simp +contextual -implicitDefEqProofs (maxSteps:=10^7) only[go_sem,seval,↓gZ,Zz,af,e1,e2]
  ·rw[Kh ag] at e1;simp only[Ki ag];unfold shV;refine cE ?_;simp +contextual -implicitDefEqProofs (maxSteps:=10^7) only[go_sem,seval,↓gZ,Zz,af,e1]
theorem ZnM (sS:List Zb) (sO sD:List Zc) (sL sC:Int) (eK eL eX eY eW eH ab ad:Int) (ae:Bool) (af eC eo ea ep:Int) (et:Bool) (ek:List Ze) (hv:ZE (Zm.mk sS sO sD sL sC)) (hW:eK=0→I5 eW) (hH:eK=0→I5 eH):Zd Xs Ms XU [(.d (.agg [.sl (sS.map Zb.enc),.sl (sO.map Zc.enc),.sl (sD.map Zc.enc),J sL,J sC])),(.d (.agg [J eK,J eL,J eX,J eY,J eW,J eH,J ab,J ad,.bool ae,J af,J eC,J eo,J ea,J ep,.bool et,.sl (ek.map Ze.enc)]))] []=some (shV (QE (Zm.mk sS sO sD sL sC) (Zx.mk eK eL (Box.mk eX eY eW eH) (Zc.mk (Pane.mk ab ad ae af) eC) (Ze.mk eo ea ep et ek)))):=by
 have hS:=ZlG hv;have ai:=hS.1;have an:=hv.2.1.1;have ao:=hv.2.2.1.1;simp only at an ao;by_cases k0:eK=0
 ·have aa:=Zjs sS sO sD sL sC eK eL eX eY eW eH ab ad ae af eC eo ea ep et ek hS k0 (hW k0) (hH k0);rw[k0] at aa;by_cases hr:(Wz ⟨eL,eW,eH,[]⟩ sS∧eX=0)∧eY=0
  ·have ee:QE (Zm.mk sS sO sD sL sC) (Zx.mk eK eL (Box.mk eX eY eW eH) (Zc.mk (Pane.mk ab ad ae af) eC) (Ze.mk eo ea ep et ek))=Y5 (some (Zm.mk (QC ⟨eL,eW,eH,[]⟩ sS) sO sD sL (sC+eW*eH))):=by unfold QE evS;simp only[k0,hr,Kk,and_self]
   rw[ee];rw[Ke hr,Kl hr.1.1] at aa;have ah:JK (Zm.mk (QC ⟨eL,eW,eH,[]⟩ sS) sO sD sL (sC+eW*eH)):=Zfe ai (by simp only;omega) (by simp only;omega) hr.1.1.2;have e1:=XT _ _ _ _ _ ah;have e2:=Y4 _ _ _ _ _ ah;unfold Y5;generalize QC ⟨eL,eW,eH,[]⟩ sS=Q at aa e1 e2 ⊢;by_cases ag:ZE (Zm.mk Q sO sD sL (sC+eW*eH))
   ·rw[Ke ag] at e1;simp only[Kl ag];unfold shV;refine cE ?_;simp +contextual -implicitDefEqProofs (maxSteps:=10^7) only[go_sem,seval,↓gZ,Zz,k0,aa,e1,e2]
   ·rw[Kh ag] at e1;simp only[Ki ag];unfold shV;refine cE ?_;simp +contextual -implicitDefEqProofs (maxSteps:=10^7) only[go_sem,seval,↓gZ,Zz,k0,aa,e1]
  ·have ee:QE (Zm.mk sS sO sD sL sC) (Zx.mk eK eL (Box.mk eX eY eW eH) (Zc.mk (Pane.mk ab ad ae af) eC) (Ze.mk eo ea ep et ek))=none:=by unfold QE evS;simp only[k0,Kk];rw[Ki hr];rfl
   rw[ee];rw[Kh hr] at aa;unfold shV;refine cE ?_;simp +contextual -implicitDefEqProofs (maxSteps:=10^7) only[go_sem,seval,↓gZ,Zz,k0,aa]
 ·by_cases aj:eK=1∨eK=5
  ·by_cases hf:QB 0 sS eL<0
   ·have aa:=ZnK sS sO sD sL sC eK eL eX eY eW eH ab ad ae af eC eo ea ep et ek hS k0 hf;have ee:QE (Zm.mk sS sO sD sL sC) (Zx.mk eK eL (Box.mk eX eY eW eH) (Zc.mk (Pane.mk ab ad ae af) eC) (Ze.mk eo ea ep et ek))=none:=by
     unfold QE evS;rcases aj with k1 | k1<;>simp[k1,Zfd hf,Y5]
    rw[ee];unfold shV;refine cE ?_;rcases aj with k1 | k1
    ·rw[k1] at aa;simp +contextual -implicitDefEqProofs (maxSteps:=10^7) only[go_sem,seval,↓gZ,Zz,k1,aa]
    ·rw[k1] at aa;simp +contextual -implicitDefEqProofs (maxSteps:=10^7) only[go_sem,seval,↓gZ,Zz,k1,aa]
   ·obtain⟨a,x,ha,hx⟩:=ZbP (by omega:0≤QB 0 sS eL);have al:=Zbl ha hx;obtain⟨xL,xW,xH,xF⟩:=x;have am:=Z3 hv.1.2 _ (Kb hx);by_cases k1:eK=1
    ·have aa:=Zkm sS sO sD sL sC eK eL eX eY eW eH ab ad ae af eC eo ea ep et ek hv k1 a ha xL xW xH xF hx;rw[k1] at aa;by_cases hr:Wz ⟨xL,xW,xH,xF++[⟨eX,eY,eW,eH⟩]⟩ (sS.eraseIdx a)
     ·have ee:QE (Zm.mk sS sO sD sL sC) (Zx.mk eK eL (Box.mk eX eY eW eH) (Zc.mk (Pane.mk ab ad ae af) eC) (Ze.mk eo ea ep et ek))=Y5 (some (Zm.mk (QC ⟨xL,xW,xH,xF++[⟨eX,eY,eW,eH⟩]⟩ (sS.eraseIdx a)) sO sD sL sC)):=by
       unfold QE evS;simp[k1,al,hr]
      rw[ee];rw[Ke hr,Kl hr] at aa;have ah:JK (Zm.mk (QC ⟨xL,xW,xH,xF++[⟨eX,eY,eW,eH⟩]⟩ (sS.eraseIdx a)) sO sD sL sC):=Zfe ai (by simp only;omega) (by simp only;omega) hr.2;have e1:=XT _ _ _ _ _ ah;have e2:=Y4 _ _ _ _ _ ah;unfold Y5;generalize QC ⟨xL,xW,xH,xF++[⟨eX,eY,eW,eH⟩]⟩ (sS.eraseIdx a)=Q at aa e1 e2 ⊢;by_cases ag:ZE (Zm.mk Q sO sD sL sC)
      ·rw[Ke ag] at e1;simp only[Kl ag];unfold shV;refine cE ?_;simp +contextual -implicitDefEqProofs (maxSteps:=10^7) only[go_sem,seval,↓gZ,Zz,k1,aa,e1,e2]
      ·rw[Kh ag] at e1;simp only[Ki ag];unfold shV;refine cE ?_;simp +contextual -implicitDefEqProofs (maxSteps:=10^7) only[go_sem,seval,↓gZ,Zz,k1,aa,e1]
     ·have ee:QE (Zm.mk sS sO sD sL sC) (Zx.mk eK eL (Box.mk eX eY eW eH) (Zc.mk (Pane.mk ab ad ae af) eC) (Ze.mk eo ea ep et ek))=none:=by
       unfold QE evS;simp[k1,al,hr,Y5]
      rw[ee];rw[Kh hr] at aa;unfold shV;refine cE ?_;simp +contextual -implicitDefEqProofs (maxSteps:=10^7) only[go_sem,seval,↓gZ,Zz,k1,aa]
    ·have k5:eK=5:=by omega
     have aa:=Zjt sS sO sD sL sC eK eL eX eY eW eH ab ad ae af eC eo ea ep et ek hS k5 a ha xL xW xH xF hx (by have:=am.1;simp only at this;unfold I5;omega) (by have:=am.1;simp only at this;unfold I5;omega);rw[k5] at aa;have ee:QE (Zm.mk sS sO sD sL sC) (Zx.mk eK eL (Box.mk eX eY eW eH) (Zc.mk (Pane.mk ab ad ae af) eC) (Ze.mk eo ea ep et ek))=Y5 (some (Zm.mk (sS.eraseIdx a) sO sD (sL+xW*xH) sC)):=by
      unfold QE evS;simp[k5,al]
     rw[ee];have ah:JK (Zm.mk (sS.eraseIdx a) sO sD (sL+xW*xH) sC):=⟨by have:=ZlC sS a;have:=ai.1;simp only at this ⊢;omega,fun y hy=>ai.2.1 y (L4 hy),ai.2.2⟩
     have e1:=XT _ _ _ _ _ ah;have e2:=Y4 _ _ _ _ _ ah;unfold Y5;generalize sS.eraseIdx a=Q at aa e1 e2 ⊢;by_cases ag:ZE (Zm.mk Q sO sD (sL+xW*xH) sC)
     ·rw[Ke ag] at e1;simp only[Kl ag];unfold shV;refine cE ?_;simp +contextual -implicitDefEqProofs (maxSteps:=10^7) only[go_sem,seval,↓gZ,Zz,k5,aa,e1,e2]
     ·rw[Kh ag] at e1;simp only[Ki ag];unfold shV;refine cE ?_;simp +contextual -implicitDefEqProofs (maxSteps:=10^7) only[go_sem,seval,↓gZ,Zz,k5,aa,e1]
  ·have k1:¬eK=1:=fun h=>aj (.inl h);have k5:¬eK=5:=fun h=>aj (.inr h);by_cases ak:eK=2∨eK=4
   ·by_cases hl:V8 ⟨⟨ab,ad,ae,af⟩,eC⟩
    ·by_cases k2:eK=2
     ·have aa:=Zkn sS sO sD sL sC eK eL eX eY eW eH ab ad ae af eC eo ea ep et ek hv hl k2;rw[k2] at aa;have ee:QE (Zm.mk sS sO sD sL sC) (Zx.mk eK eL (Box.mk eX eY eW eH) (Zc.mk (Pane.mk ab ad ae af) eC) (Ze.mk eo ea ep et ek))=Y5 (some (Zm.mk sS (Yw ⟨ab,ad,ae,af⟩ eC sO) sD sL sC)):=by
       unfold QE evS;simp[k2,hl]
      rw[ee];have ah:JK (Zm.mk sS (Yw ⟨ab,ad,ae,af⟩ eC sO) sD sL sC):=Zfe ai (Kt (Zc4 _ _ _) (by omega)) (by simp only;omega) hv.1;have e1:=XT _ _ _ _ _ ah;have e2:=Y4 _ _ _ _ _ ah;unfold Y5;generalize Yw ⟨ab,ad,ae,af⟩ eC sO=Q at aa e1 e2 ⊢;by_cases ag:ZE (Zm.mk sS Q sD sL sC)
      ·rw[Ke ag] at e1;simp only[Kl ag];unfold shV;refine cE ?_;simp +contextual -implicitDefEqProofs (maxSteps:=10^7) only[go_sem,seval,↓gZ,Zz,k2,aa,e1,e2]
      ·rw[Kh ag] at e1;simp only[Ki ag];unfold shV;refine cE ?_;simp +contextual -implicitDefEqProofs (maxSteps:=10^7) only[go_sem,seval,↓gZ,Zz,k2,aa,e1]
     ·have k4:eK=4:=by omega
      have aa:=Zko sS sO sD sL sC eK eL eX eY eW eH ab ad ae af eC eo ea ep et ek hv hl k2;rw[k4] at aa;by_cases ht:Xe ⟨ab,ad,ae,af⟩ eC false sD=true
      ·rw[ht] at aa;have ee:QE (Zm.mk sS sO sD sL sC) (Zx.mk eK eL (Box.mk eX eY eW eH) (Zc.mk (Pane.mk ab ad ae af) eC) (Ze.mk eo ea ep et ek))=Y5 (some (Zm.mk sS (Yw ⟨ab,ad,ae,af⟩ eC sO) (XS sD ⟨ab,ad,ae,af⟩ eC) (sL+eC*ab*ad) sC)):=by
        unfold QE evS;simp[k4,hl,ht]
       rw[ee];have ah:JK (Zm.mk sS (Yw ⟨ab,ad,ae,af⟩ eC sO) (XS sD ⟨ab,ad,ae,af⟩ eC) (sL+eC*ab*ad) sC):=Zfe ai (Kt (Zc4 _ _ _) (by omega)) (Kt (Kn _ _) (by omega)) hv.1;have e1:=XT _ _ _ _ _ ah;have e2:=Y4 _ _ _ _ _ ah;unfold Y5;generalize Yw ⟨ab,ad,ae,af⟩ eC sO=Q at aa e1 e2 ⊢;generalize XS sD ⟨ab,ad,ae,af⟩ eC=R at aa e1 e2 ⊢;by_cases ag:ZE (Zm.mk sS Q R (sL+eC*ab*ad) sC)
       ·rw[Ke ag] at e1;simp only[Kl ag];unfold shV;refine cE ?_;simp +contextual -implicitDefEqProofs (maxSteps:=10^7) only[go_sem,seval,↓gZ,Zz,k4,aa,e1,e2]
       ·rw[Kh ag] at e1;simp only[Ki ag];unfold shV;refine cE ?_;simp +contextual -implicitDefEqProofs (maxSteps:=10^7) only[go_sem,seval,↓gZ,Zz,k4,aa,e1]
      ·have ee:QE (Zm.mk sS sO sD sL sC) (Zx.mk eK eL (Box.mk eX eY eW eH) (Zc.mk (Pane.mk ab ad ae af) eC) (Ze.mk eo ea ep et ek))=none:=by
        unfold QE evS;simp[k4,ht,Y5]
       rw[ee];simp only[LB] at ht;rw[ht] at aa;unfold shV;refine cE ?_;simp +contextual -implicitDefEqProofs (maxSteps:=10^7) only[go_sem,seval,↓gZ,Zz,k4,aa]
    ·have aa:=ZnL sS sO sD sL sC eK eL eX eY eW eH ab ad ae af eC eo ea ep et ek hl;have ee:QE (Zm.mk sS sO sD sL sC) (Zx.mk eK eL (Box.mk eX eY eW eH) (Zc.mk (Pane.mk ab ad ae af) eC) (Ze.mk eo ea ep et ek))=none:=by
      unfold QE evS;rcases ak with k2 | k2<;>simp[k2,hl,Y5]
     rw[ee];unfold shV;refine cE ?_;rcases ak with k2 | k2
     ·rw[k2] at aa;simp +contextual -implicitDefEqProofs (maxSteps:=10^7) only[go_sem,seval,↓gZ,Zz,k2,aa]
     ·rw[k2] at aa;simp +contextual -implicitDefEqProofs (maxSteps:=10^7) only[go_sem,seval,↓gZ,Zz,k2,aa]
   ·have k2:¬eK=2:=fun h=>ak (.inl h);have k4:¬eK=4:=fun h=>ak (.inr h);by_cases k3:eK=3
    ·exact Us sS sO sD sL sC eK eL eX eY eW eH ab ad ae af eC eo ea ep et ek (Zkr hv) k3
    ·have ee:QE (Zm.mk sS sO sD sL sC) (Zx.mk eK eL (Box.mk eX eY eW eH) (Zc.mk (Pane.mk ab ad ae af) eC) (Ze.mk eo ea ep et ek))=none:=by
      unfold QE evS;simp[k0,k1,k5,k2,k4,k3,Y5]
     rw[ee];unfold shV;refine cE ?_;simp +contextual -implicitDefEqProofs (maxSteps:=10^7) only[go_sem,seval,↓gZ,Zz,k0,k1,k5,k2,k4,k3]
end Go.Proofs.YtbpekaejmjlmfaaGreat
