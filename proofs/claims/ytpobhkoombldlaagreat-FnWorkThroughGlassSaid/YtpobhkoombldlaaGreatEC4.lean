/- Contracts of the functions,by the abstract semantics. -/
import Derived.Test.YtpobhkoombldlaaGreatECode
import Derived.Test.YtpobhkoombldlaaGreatAbsParts
import Derived.Test.YtpobhkoombldlaaGreatEC3
namespace Go.Proofs.YtpobhkoombldlaaGreat
open Go Go.Abs Go.Abs.E Go.Abs.L
open Nat (reduceMul reduceSub reduceLeDiff reduceEqDiff)
open Int (reduceLE reduceEq reduceToNat reduceNeg)
set_option linter.unusedSimpArgs false
set_option linter.unusedVariables false
set_option maxRecDepth 20000
set_option maxHeartbeats 4000000
def Vo:List Pane→List Int→List Zc→List Zc→Option (List Zc×List Zc)
 | p :: ps,c :: us,o,d=>if c=0 then Vo ps us o d else if Xy p c false o=true then Vo ps us (Yc o p c) (XP p c d) else none
 | [],_,o,d=>some (o,d)
 | _,[],o,d=>some (o,d)
theorem Zk2 {ps:List Pane} {us:List Int} {o d:List Zc} {k:Nat} {p:Pane} {c:Int} (hp:ps[k]?=some p) (hu:us[k]?=some c):Vo (ps.drop k) (us.drop k) o d=if c=0 then Vo (ps.drop (k+1)) (us.drop (k+1)) o d else if Xy p c false o=true then Vo (ps.drop (k+1)) (us.drop (k+1)) (Yc o p c) (XP p c d) else none:=by
 obtain⟨h1,h2⟩:=List.getElem?_eq_some_iff.1 hp
 obtain⟨h3,h4⟩:=List.getElem?_eq_some_iff.1 hu
 rw[List.drop_eq_getElem_cons h1,h2,List.drop_eq_getElem_cons h3,h4,Vo]
theorem Zth {ps:List Pane} {us:List Int} {o d:List Zc}:Vo (ps.drop ps.length) us o d=some (o,d):=by
 rw[List.drop_length];unfold Vo;rfl
theorem Zng {l:List Zc} {p:Pane} {c hi:Int} (hc:0≤c) (h:∀ x∈l,x.Count≤hi):∀ y∈Yc l p c,0≤y.Count∧y.Count≤hi:=fun y hy=>by
 obtain⟨x,hx,e⟩:=List.mem_filterMap.1 hy
 have:=h x hx
 unfold ZfC at e
 split at e
 ·split at e
  ·cases e;simp only;omega
  ·cases e
 ·split at e
  ·cases e;omega
  ·cases e
theorem Zl5 {p:Pane} {c hi:Int} (hc:0≤c) (hh:0≤hi):∀ {l:List Zc},(∀ x∈l,0≤x.Count∧x.Count≤hi)→∀ y∈XP p c l,0≤y.Count∧y.Count≤hi+c
 | [],h,y,hy=>by simp[XP] at hy;subst hy;simp only;omega
 | x :: l,h,y,hy=>by
  have h1:=h x (by simp)
  unfold XP at hy
  split at hy
  ·rcases List.mem_cons.1 hy with rfl | hy
   ·simp only;omega
   ·have:=h y (by simp[hy]);omega
  ·rcases List.mem_cons.1 hy with rfl | hy
   ·omega
   ·exact Zl5 hc hh (fun z hz=>h z (by simp[hz])) y hy
def ZrQ (p:Zh):Bool:=match Y1 p with
 | some b=>Zk1 b
 | none=>false
def Zdu (s:Zo) (e:ZF):Option Zo:=
 match s.Stock[(QJ 0 s.Stock e.label).toNat]? with
 | none=>none
 | some x=>match ZcB s.Stock e.label ⟨x.W,x.H,s.Opn.map Zc.Pane⟩ e.plan 5 with
  | none=>none
  | some R=>if ZrQ e.plan=true then
    match Vo (s.Opn.map Zc.Pane) (Zdi ⟨x.W,x.H,s.Opn.map Zc.Pane⟩ e.plan) s.Opn s.Done with
    | none=>none
    | some (o,d)=>some ⟨R,o,d,s.Lost+YK (ZeB ⟨x.W,x.H,s.Opn.map Zc.Pane⟩ e.plan 5),s.Came⟩
   else none
def shV:Option Zo→AV×List Zt
 | some s=>(.tup [.agg [.own 0,.own 1,.own 2,(.d (J (s.Lost))),(.d (J (s.Came)))],(.d (.bool true))],[.row 4 (s.Stock.map Zb.enc) true false,.row 5 (s.Opn.map Zc.enc) true false,.row 5 (s.Done.map Zc.enc) true false])
 | none=>(.tup [.agg [.own 0,.own 1,.own 2,(.d (J 0)),(.d (J 0))],(.d (.bool false))],[.row 4 [] true false,.row 5 [] true false,.row 5 [] true false])
theorem Zti {l:List Zb} {n:Int} {k:ZD} {p:Zh} {Zk:Int} (h:QJ 0 l n<0):ZcB l n k p Zk=none:=by
 unfold ZcB
 rw[if_neg (fun h'=>by omega)]
theorem Zh2 {l:List Zb} {n:Int} {k:ZD} {p:Zh} {Zk:Int} {R:List Zb} (h:ZcB l n k p Zk=some R):Wm k p=true∧VSt R∧VSt l:=by
 unfold ZcB at h
 split at h
 ·rename_i hc
  split at h
  ·rename_i x hx
   split at h
   ·rename_i hg
    cases h
    exact⟨hg.1.1,hg.2,hc.1⟩
   ·cases h
  ·cases h
 ·cases h
def WSh (s:Zo):Prop:=VSt s.Stock∧s.Opn.length≤9∧(∀ x∈s.Opn,VP x.Pane∧0≤x.Count∧x.Count≤24)∧VD s.Done∧-1≤s.Lost∧s.Lost≤900001∧-1≤s.Came∧s.Came≤900001
theorem Zl6 {s:Zo} (h:ZH s):WSh s:=⟨h.1,by have:=h.2.1.1;omega,fun x hx=>by have:=Z7 h.2.1 x hx;exact⟨this.1,by omega,this.2.2⟩,h.2.2.1,by have:=h.2.2.2;omega,by have:=h.2.2.2;omega,by have:=h.2.2.2;omega,by have:=h.2.2.2;omega⟩
theorem Zuj {s:Zo} (h:WSh s):SmS s:=by
 obtain⟨h1,h2,_,h3,h4,h5,h6,h7⟩:=h
 exact⟨⟨by have:=h1.1;omega,fun x hx=>⟨(ZdF h1).2 x hx,Zl1 (Z8 h1.2 x hx)⟩,by omega,by have:=h3.1;omega⟩,by have:=h1.1;omega,by omega,by omega,by omega,by omega⟩
theorem ZrR (sS:List Zb) (sO sD:List Zc) (sL sC:Int) (eK eL eX eY eW eH epW epH:Int) (epT:Bool) (epK eC eo ea ep:Int) (et:Bool) (ek:List Zh) (hv:WSh (Zo.mk sS sO sD sL sC)):Zg Xs Ms Ju [(.d (.agg [.sl (sS.map Zb.enc),.sl (sO.map Zc.enc),.sl (sD.map Zc.enc),J sL,J sC])),(.d (.agg [J eK,J eL,J eX,J eY,J eW,J eH,J epW,J epH,.bool epT,J epK,J eC,J eo,J ea,J ep,.bool et,.sl (ek.map Zh.enc)]))] []=some (shV (Zdu (Zo.mk sS sO sD sL sC) (ZF.mk eK eL (Box.mk eX eY eW eH) (Zc.mk (Pane.mk epW epH epT epK) eC) (Zh.mk eo ea ep et ek)))):=by
 obtain⟨⟨h1,h2,h3,h4⟩,h5,h6,h7,h8,h9⟩:=Zuj hv
 simp only at h1 h2 h3 h4 h5 h6 h7 h8 h9
 have hO9:=hv.2.1
 have hO:=hv.2.2.1
 have hD:=hv.2.2.2.1
 simp only at hO hD hO9
 have hD8:=hD.1
 have e1:=Y5 sS eL (by omega)
 by_cases hf:QJ 0 sS eL<0
 ·have ec:Zdu (Zo.mk sS sO sD sL sC) (ZF.mk eK eL (Box.mk eX eY eW eH) (Zc.mk (Pane.mk epW epH epT epK) eC) (Zh.mk eo ea ep et ek))=none:=by
   unfold Zdu
   simp only
   split
   ·rfl
   ·rw[Zti hf]
  rw[ec]
  unfold shV
  refine Zd Xs Ms X0 Zdx (by show 2≤_;decide) ?_
  simp +contextual -implicitDefEqProofs (maxSteps:=10^7) only[go_sem,seval,↓gZ,X0,e1,hf]
 ·obtain⟨a,x,ha,hx⟩:=ZcC (by omega:0≤QJ 0 sS eL)
  rw[ha] at e1
  have ha0:¬(a:Int)<0:=by omega
  have hlt:=(List.getElem?_eq_some_iff.1 hx).1
  have e3:=ZrL sS eL x.W x.H (sO.map Zc.Pane) (.mk eo ea ep et ek) 5 (by have:=hv.1.1;simp only at this;omega) (fun y hy=>by
   have:=Z8 hv.1.2 y hy
   exact⟨this.1.2.2.2.2.2.2,Zl1 this⟩) (by simp;omega)
  have ecs:Zdu (Zo.mk sS sO sD sL sC) (ZF.mk eK eL (Box.mk eX eY eW eH) (Zc.mk (Pane.mk epW epH epT epK) eC) (Zh.mk eo ea ep et ek))=match ZcB sS eL ⟨x.W,x.H,sO.map Zc.Pane⟩ (.mk eo ea ep et ek) 5 with
   | none=>none
   | some R=>if ZrQ (.mk eo ea ep et ek)=true then
     match Vo (sO.map Zc.Pane) (Zdi ⟨x.W,x.H,sO.map Zc.Pane⟩ (.mk eo ea ep et ek)) sO sD with
     | none=>none
     | some (o,d)=>some ⟨R,o,d,sL+YK (ZeB ⟨x.W,x.H,sO.map Zc.Pane⟩ (.mk eo ea ep et ek) 5),sC⟩
    else none:=by
   unfold Zdu
   simp only[ha,Int.toNat_natCast,hx]
  rw[ecs]
  clear ecs
  obtain⟨xL,xW,xH,xF⟩:=x
  simp only at e3 ⊢
  have e2:=ZvZ sS sO sD sL sC a xL xW xH xF hx h3 h1
  cases hcs:ZcB sS eL ⟨xW,xH,sO.map Zc.Pane⟩ (.mk eo ea ep et ek) 5 with
  | none=>
   rw[hcs] at e3
   unfold Zhl at e3
   simp only
   unfold shV
   rw[Zh.enc_mk] at e3
   refine Zd Xs Ms X0 Zdx (by show 2≤_;decide) ?_
   simp +contextual -implicitDefEqProofs (maxSteps:=10^7) only[go_sem,seval,↓gZ,X0,e1,ha0,e2,e3]
  | some R=>
   obtain⟨hvp,hvR,_⟩:=Zh2 hcs
   rw[hcs] at e3
   unfold Zhl at e3
   simp only
   obtain⟨b,hb,hpb,hvw,hcnt,hfit,hpt⟩:=Xp hvp
   have e4:=Zgw b
   rw[← hpb] at e4
   have hh:ZrQ (.mk eo ea ep et ek)=Zk1 b:=by unfold ZrQ;rw[hb]
   rw[hh]
   have e5:=ZrP xW xH (sO.map Zc.Pane) (.mk eo ea ep et ek) 5 hvp (by omega) (by omega)
   have e6:=Zv0 xW xH (sO.map Zc.Pane) (.mk eo ea ep et ek) hvp
   have hu:=ZcF hvp
   have hla:=Zfv (l:=ZeB ⟨xW,xH,sO.map Zc.Pane⟩ (.mk eo ea ep et ek) 5) (fun c hc=>by
    obtain⟨z,hz,hzc⟩:=List.mem_filterMap.1 hc
    unfold JW at hzc
    split at hzc
    ·cases hzc;exact ZdE hvp c hz
    ·cases hzc)
   have hll:(ZeB ⟨xW,xH,sO.map Zc.Pane⟩ (.mk eo ea ep et ek) 5).length≤255:=by
    refine Nat.le_trans (List.length_filterMap_le _ _) (Nat.le_trans (List.length_filterMap_le _ _) ?_)
    rw[hpt,ZaY];exact hcnt
   generalize YK (ZeB ⟨xW,xH,sO.map Zc.Pane⟩ (.mk eo ea ep et ek) 5)=A at e5 hla ⊢
   generalize Zdi ⟨xW,xH,sO.map Zc.Pane⟩ (.mk eo ea ep et ek)=us at e6 hu ⊢
   rw[Zh.enc_mk] at e3 e4 e5 e6
   simp only[List.length_map] at hu
   have u1:=wi (sL+A) (by omega) (by omega)
   have r1:sO.length*40≤140737488355328∧sO.length≤140737488355328:=by omega
   have r2:sD.length*40≤140737488355328∧sD.length≤140737488355328:=by omega
   cases hhb:Zk1 b with
   | false=>
    rw[hhb] at e4
    rw[if_neg (by simp)]
    unfold shV
    refine Zd Xs Ms X0 Zdx (by show 2≤_;decide) ?_
    simp +contextual -implicitDefEqProofs (maxSteps:=10^7) only[go_sem,seval,↓gZ,X0,e1,ha0,e2,e3,e4]
   | true=>
    rw[hhb] at e4
    rw[if_pos rfl]
    refine Zd Xs Ms X0 Zdx (by show 2≤_;decide) ?_
    simp +contextual -implicitDefEqProofs (maxSteps:=10^7) only[go_sem,seval,↓gZ,X0,ZpU,e1,ha0,e2,e3,e4,e5,e6,u1,r1,r2]
    refine Zr Xs Ms (st0:=?st0) (α:=Nat×List Zc×List Zc) (fun s=>[(12,.d (J (s.1:Int)))]) (fun s=>[(5,.row 5 (s.2.1.map Zc.enc) true false),(6,.row 5 (s.2.2.map Zc.enc) true false)]) (fun s=>s.1≤us.length∧Vo ((sO.map Zc.Pane).drop s.1) (us.drop s.1) s.2.1 s.2.2=Vo (sO.map Zc.Pane) us sO sD∧s.2.1.length≤9∧s.2.2.length≤8+s.1∧(∀ x∈s.2.1,0≤x.Count∧x.Count≤24)∧(∀ x∈s.2.2,0≤x.Count∧x.Count≤24+255*(s.1:Int))) (fun s=>us.length-s.1) (0,sO,sD) ?hc ⟨by simp,by simp,hO9,by simp only;omega,fun x hx=>by have:=hO x hx;omega,fun x hx=>by have:=Z7 hD x hx;simp only;omega⟩ ?h0 ?step
    case hc=>simp +contextual -implicitDefEqProofs (maxSteps:=10^7) only[go_sem,seval,↓gZ]<;>exact rfl
    case h0=>rfl
    case step=>
     intro⟨i,o,d⟩ ⟨hi,hp,ho8,hd8,hoc,hdc⟩ ih
     simp only at hi hp ho8 hd8 hoc hdc
     by_cases hil:i<us.length
     ·obtain⟨c,hc⟩:=Zp hil
      have hiO:i<sO.length:=by omega
      obtain⟨y,hy⟩:=Zp hiO
      have hw:=Zl (k:=i) (by omega)
      have hcb:=hu.2 c (List.mem_of_getElem? hc)
      have hpy:(sO.map Zc.Pane)[i]?=some y.Pane:=by rw[List.getElem?_map,hy];rfl
      rw[Zk2 hpy hc] at hp
      obtain⟨⟨W,H,T,K⟩,C⟩:=y
      simp only at hp hpy
      by_cases hc0:c=0
      ·rw[if_pos hc0] at hp
       simp +contextual -implicitDefEqProofs (maxSteps:=10^7) only[go_sem,seval,↓gZ,hil,hc,hc0,hw]
       refine ih (i+1,o,d) _ ⟨by simp only;omega,hp,ho8,by simp only;omega,hoc,fun x hx=>by have:=hdc x hx;simp only;omega⟩ (by simp only;omega) ?_
       simp +contextual -implicitDefEqProofs (maxSteps:=10^7) only[go_sem,seval,↓gZ]
      ·rw[if_neg hc0] at hp
       have et:=Zh1 o W H T K c (by omega) (fun x hx=>by have:=hoc x hx;unfold R64;omega)
       have ea:=Ze6 d W H T K c (by omega) (fun x hx=>by have:=hdc x hx;unfold R64;omega)
       by_cases hto:Xy ⟨W,H,T,K⟩ c false o=true
       ·rw[if_pos hto] at hp
        rw[hto] at et
        simp +contextual -implicitDefEqProofs (maxSteps:=10^7) only[go_sem,seval,↓gZ,hil,hc,hc0,hw,hiO,hy,hpy,et,ea]
        refine ih (i+1,Yc o ⟨W,H,T,K⟩ c,XP ⟨W,H,T,K⟩ c d) _ ⟨by simp only;omega,hp,Nat.le_trans (List.length_filterMap_le _ _) ho8,Nat.le_trans (ZcD _ _ _) (by simp only;omega),Zng hcb.1 (fun x hx=>(hoc x hx).2),fun x hx=>?_⟩ (by simp only;omega) ?_
        ·have:=Zl5 hcb.1 (by omega) hdc x hx
         simp only
         omega
        ·simp +contextual -implicitDefEqProofs (maxSteps:=10^7) only[go_sem,seval,↓gZ]
       ·rw[if_neg hto] at hp
        simp only[Bool.not_eq_true] at hto
        rw[hto] at et
        simp +contextual -implicitDefEqProofs (maxSteps:=10^7) only[go_sem,seval,↓gZ,hil,hc,hc0,hw,hiO,hy,hpy,et,ea]
        rw[← hp]
        rfl
     ·have:i=sO.length:=by omega
      subst this
      have hce:=@Zth (sO.map Zc.Pane) (us.drop sO.length) o d
      rw[List.length_map] at hce
      rw[hce] at hp
      rw[← hp]
      simp +contextual -implicitDefEqProofs (maxSteps:=10^7) only[go_sem,seval,↓gZ,hil]
      rfl
def Zv1 (l:List Zb) (n:Int):Option (Nat×Zb):=if 0≤QJ 0 l n then (l[(QJ 0 l n).toNat]?).map (fun x=>((QJ 0 l n).toNat,x)) else none
theorem ZfD {l:List Zb} {n:Int} (h:QJ 0 l n<0):Zv1 l n=none:=by unfold Zv1;rw[if_neg (by omega)]
theorem ZdH {l:List Zb} {n:Int} {a:Nat} {x:Zb} (h:QJ 0 l n=(a:Int)) (hx:l[a]?=some x):Zv1 l n=some (a,x):=by
 unfold Zv1
 rw[h,if_pos (by omega),Int.toNat_natCast,hx];rfl
def evS (s:Zo) (e:ZF):Option Zo:=
 if e.kind=0 then (if (Uv ⟨e.label,e.box.W,e.box.H,[]⟩ s.Stock∧e.box.X=0)∧e.box.Y=0 then some { s with Stock:=QL ⟨e.label,e.box.W,e.box.H,[]⟩ s.Stock,Came:=s.Came+e.box.W*e.box.H } else none)
 else if e.kind=1 then (match Zv1 s.Stock e.label with
  | none=>none
  | some (a,q)=>if Uv { q with Flaws:=q.Flaws++[e.box] } (s.Stock.eraseIdx a) then some { s with Stock:=QL { q with Flaws:=q.Flaws++[e.box] } (s.Stock.eraseIdx a) } else none)
 else if e.kind=5 then (match Zv1 s.Stock e.label with
  | none=>none
  | some (a,q)=>some { s with Stock:=s.Stock.eraseIdx a,Lost:=s.Lost+q.W*q.H })
 else if e.kind=2 then (if Ub e.line then some { s with Opn:=XP e.line.Pane e.line.Count s.Opn } else none)
 else if e.kind=4 then (if Ub e.line∧Xy e.line.Pane e.line.Count false s.Done=true then some { s with Opn:=XP e.line.Pane e.line.Count s.Opn,Done:=Yc s.Done e.line.Pane e.line.Count,Lost:=s.Lost+e.line.Count*e.line.Pane.W*e.line.Pane.H } else none)
 else if e.kind=3 then Zdu s e
 else none
def VZ (t:Option Zo):Option Zo:=match t with
 | some t=>if ZH t then some t else none
 | none=>none
def QK (s:Zo) (e:ZF):Option Zo:=VZ (evS s e)
theorem Zgx {s t:Zo} {e:ZF} (h:QK s e=some t):ZH t:=by
 unfold QK VZ at h
 split at h
 ·split at h
  ·cases h;assumption
  ·cases h
 ·cases h
theorem ZfE {s t:Zo} (h:ZaE s) (ho:t.Opn.length≤1000000) (hd:t.Done.length≤1000000) (hs:VSt t.Stock):ZaE t:=
 ⟨by have:=hs.1;omega,fun x hx=>⟨(ZdF hs).2 x hx,Zl1 (Z8 hs.2 x hx)⟩,ho,hd⟩
theorem ZCr {s t:Zo} {e:ZF} (hv:WSh s) (h:Zdu s e=some t):VSt t.Stock∧t.Opn.length≤9∧t.Done.length≤1000000:=by
 have hgo:∀ (ps:List Pane) (us:List Int) (o d o' d' : List Zc),Vo ps us o d=some (o',d')→o'.length≤o.length∧d'.length≤d.length+ps.length:=by
  intro ps
  induction ps with
  | nil=>intro us o d o' d' h;unfold Vo at h;cases h;simp
  | cons p ps ih=>
   intro us o d o' d' h
   cases us with
   | nil=>unfold Vo at h;cases h;simp
   | cons c us=>
    rw[Vo] at h
    split at h
    ·have:=ih _ _ _ _ _ h;simp;omega
    ·split at h
     ·have:=ih _ _ _ _ _ h
      have h2:=List.length_filterMap_le (ZfC p c) o
      have h3:=ZcD p c d
      unfold Yc at this
      simp;omega
     ·cases h
 unfold Zdu at h
 split at h
 ·cases h
 ·split at h
  ·cases h
  ·rename_i R hR
   obtain⟨_,hvR,_⟩:=Zh2 hR
   split at h
   ·split at h
    ·cases h
    ·rename_i o d hg
     cases h
     have:=hgo _ _ _ _ _ _ hg
     have h8:=hv.2.1
     have h9:=hv.2.2.2.1.1
     rw[List.length_map] at this
     exact⟨hvR,by simp only;omega,by simp only;omega⟩
   ·cases h
theorem Jm (sS:List Zb) (sO sD:List Zc) (sL sC:Int) (eK eL eX eY eW eH epW epH:Int) (epT:Bool) (epK eC eo ea ep:Int) (et:Bool) (ek:List Zh) (hv:WSh (Zo.mk sS sO sD sL sC)) (k3:eK=3):Zg Xs Ms XS [(.d (.agg [.sl (sS.map Zb.enc),.sl (sO.map Zc.enc),.sl (sD.map Zc.enc),J sL,J sC])),(.d (.agg [J eK,J eL,J eX,J eY,J eW,J eH,J epW,J epH,.bool epT,J epK,J eC,J eo,J ea,J ep,.bool et,.sl (ek.map Zh.enc)]))] []=some (shV (QK (Zo.mk sS sO sD sL sC) (ZF.mk eK eL (Box.mk eX eY eW eH) (Zc.mk (Pane.mk epW epH epT epK) eC) (Zh.mk eo ea ep et ek)))):=by
 have hsm:=(Zuj hv).1
 have hpe:=ZrR sS sO sD sL sC eK eL eX eY eW eH epW epH epT epK eC eo ea ep et ek hv
 subst k3
 have ee:QK (Zo.mk sS sO sD sL sC) (ZF.mk 3 eL ⟨eX,eY,eW,eH⟩ ⟨⟨epW,epH,epT,epK⟩,eC⟩ (.mk eo ea ep et ek))=VZ (Zdu (Zo.mk sS sO sD sL sC) (ZF.mk 3 eL ⟨eX,eY,eW,eH⟩ ⟨⟨epW,epH,epT,epK⟩,eC⟩ (.mk eo ea ep et ek))):=by
  unfold QK evS
  simp
 rw[ee]
 have hcsm:=fun t=>ZCr (t:=t) (e:=ZF.mk 3 eL ⟨eX,eY,eW,eH⟩ ⟨⟨epW,epH,epT,epK⟩,eC⟩ (.mk eo ea ep et ek)) hv
 cases hc:Zdu (Zo.mk sS sO sD sL sC) (ZF.mk 3 eL ⟨eX,eY,eW,eH⟩ ⟨⟨epW,epH,epT,epK⟩,eC⟩ (.mk eo ea ep et ek)) with
 | none=>
  rw[hc] at hpe
  unfold VZ shV at *
  simp only
  refine Zd Xs Ms Zm ZV (by show 2≤_;decide) ?_
  simp +contextual -implicitDefEqProofs (maxSteps:=10^7) only[go_sem,seval,↓gZ,Zm,hpe]
 | some t=>
  obtain⟨g1,g2,g3⟩:=hcsm t hc
  rw[hc] at hpe
  have hst:ZaE t:=ZfE hsm (by omega) g3 g1
  obtain⟨tS,tO,tD,tL,tC⟩:=t
  have e1:=Yx _ _ _ _ _ hst
  have e2:=VY _ _ _ _ _ hst
  unfold VZ
  unfold shV at hpe
  simp only at hpe
  by_cases hvt:ZH (Zo.mk tS tO tD tL tC)
  ·rw[decide_eq_true hvt] at e1
   simp only[if_pos hvt]
   unfold shV
   refine Zd Xs Ms Zm ZV (by show 2≤_;decide) ?_
   simp +contextual -implicitDefEqProofs (maxSteps:=10^7) only[go_sem,seval,↓gZ,Zm,hpe,e1,e2]
  ·rw[decide_eq_false hvt] at e1
   simp only[if_neg hvt]
   unfold shV
   refine Zd Xs Ms Zm ZV (by show 2≤_;decide) ?_
   simp +contextual -implicitDefEqProofs (maxSteps:=10^7) only[go_sem,seval,↓gZ,Zm,hpe,e1]
theorem Zou (sS:List Zb) (sO sD:List Zc) (sL sC:Int) (eK eL eX eY eW eH epW epH:Int) (epT:Bool) (epK eC eo ea ep:Int) (et:Bool) (ek:List Zh) (hv:ZH (Zo.mk sS sO sD sL sC)) (hW:eK=0→I5 eW) (hH:eK=0→I5 eH):Zg Xs Ms XS [(.d (.agg [.sl (sS.map Zb.enc),.sl (sO.map Zc.enc),.sl (sD.map Zc.enc),J sL,J sC])),(.d (.agg [J eK,J eL,J eX,J eY,J eW,J eH,J epW,J epH,.bool epT,J epK,J eC,J eo,J ea,J ep,.bool et,.sl (ek.map Zh.enc)]))] []=some (shV (QK (Zo.mk sS sO sD sL sC) (ZF.mk eK eL (Box.mk eX eY eW eH) (Zc.mk (Pane.mk epW epH epT epK) eC) (Zh.mk eo ea ep et ek)))):=by
 have hS:=Znf hv
 have hsm:=hS.1
 have hO8:=hv.2.1.1
 have hD8:=hv.2.2.1.1
 simp only at hO8 hD8
 by_cases k0:eK=0
 ·have hpe:=ZkZ sS sO sD sL sC eK eL eX eY eW eH epW epH epT epK eC eo ea ep et ek hS k0 (hW k0) (hH k0)
  rw[k0] at hpe
  by_cases hr:(Uv ⟨eL,eW,eH,[]⟩ sS∧eX=0)∧eY=0
  ·have ee:QK (Zo.mk sS sO sD sL sC) (ZF.mk eK eL (Box.mk eX eY eW eH) (Zc.mk (Pane.mk epW epH epT epK) eC) (Zh.mk eo ea ep et ek))=VZ (some (Zo.mk (QL ⟨eL,eW,eH,[]⟩ sS) sO sD sL (sC+eW*eH))):=by unfold QK evS;simp only[k0,hr,if_true,and_self]
   rw[ee]
   rw[decide_eq_true hr,if_pos hr.1.1] at hpe
   have hst:ZaE (Zo.mk (QL ⟨eL,eW,eH,[]⟩ sS) sO sD sL (sC+eW*eH)):=ZfE hsm (by simp only;omega) (by simp only;omega) hr.1.1.2
   have e1:=Yx _ _ _ _ _ hst
   have e2:=VY _ _ _ _ _ hst
   unfold VZ
   generalize QL ⟨eL,eW,eH,[]⟩ sS=Q at hpe e1 e2 ⊢
   by_cases hvt:ZH (Zo.mk Q sO sD sL (sC+eW*eH))
   ·rw[decide_eq_true hvt] at e1
    simp only[if_pos hvt]
    unfold shV
    refine Zd Xs Ms Zm ZV (by show 2≤_;decide) ?_
    simp +contextual -implicitDefEqProofs (maxSteps:=10^7) only[go_sem,seval,↓gZ,Zm,k0,hpe,e1,e2]
   ·rw[decide_eq_false hvt] at e1
    simp only[if_neg hvt]
    unfold shV
    refine Zd Xs Ms Zm ZV (by show 2≤_;decide) ?_
    simp +contextual -implicitDefEqProofs (maxSteps:=10^7) only[go_sem,seval,↓gZ,Zm,k0,hpe,e1]
  ·have ee:QK (Zo.mk sS sO sD sL sC) (ZF.mk eK eL (Box.mk eX eY eW eH) (Zc.mk (Pane.mk epW epH epT epK) eC) (Zh.mk eo ea ep et ek))=none:=by unfold QK evS;simp only[k0,if_true];rw[if_neg hr];rfl
   rw[ee]
   rw[decide_eq_false hr] at hpe
   unfold shV
   refine Zd Xs Ms Zm ZV (by show 2≤_;decide) ?_
   simp +contextual -implicitDefEqProofs (maxSteps:=10^7) only[go_sem,seval,↓gZ,Zm,k0,hpe]
 ·by_cases k15:eK=1∨eK=5
  ·by_cases hf:QJ 0 sS eL<0
   ·have hpe:=Zos sS sO sD sL sC eK eL eX eY eW eH epW epH epT epK eC eo ea ep et ek hS k0 hf
    have ee:QK (Zo.mk sS sO sD sL sC) (ZF.mk eK eL (Box.mk eX eY eW eH) (Zc.mk (Pane.mk epW epH epT epK) eC) (Zh.mk eo ea ep et ek))=none:=by
     unfold QK evS
     rcases k15 with k1 | k1<;>simp[k1,ZfD hf,VZ]
    rw[ee]
    unfold shV
    refine Zd Xs Ms Zm ZV (by show 2≤_;decide) ?_
    rcases k15 with k1 | k1
    ·rw[k1] at hpe
     simp +contextual -implicitDefEqProofs (maxSteps:=10^7) only[go_sem,seval,↓gZ,Zm,k1,hpe]
    ·rw[k1] at hpe
     simp +contextual -implicitDefEqProofs (maxSteps:=10^7) only[go_sem,seval,↓gZ,Zm,k1,hpe]
   ·obtain⟨a,x,ha,hx⟩:=ZcC (by omega:0≤QJ 0 sS eL)
    have hpa:=ZdH ha hx
    obtain⟨xL,xW,xH,xF⟩:=x
    have hxv:=Z8 hv.1.2 _ (List.mem_of_getElem? hx)
    by_cases k1:eK=1
    ·have hpe:=Zl2 sS sO sD sL sC eK eL eX eY eW eH epW epH epT epK eC eo ea ep et ek hv k1 a ha xL xW xH xF hx
     rw[k1] at hpe
     by_cases hr:Uv ⟨xL,xW,xH,xF++[⟨eX,eY,eW,eH⟩]⟩ (sS.eraseIdx a)
     ·have ee:QK (Zo.mk sS sO sD sL sC) (ZF.mk eK eL (Box.mk eX eY eW eH) (Zc.mk (Pane.mk epW epH epT epK) eC) (Zh.mk eo ea ep et ek))=VZ (some (Zo.mk (QL ⟨xL,xW,xH,xF++[⟨eX,eY,eW,eH⟩]⟩ (sS.eraseIdx a)) sO sD sL sC)):=by
       unfold QK evS
       simp[k1,hpa,hr]
      rw[ee]
      rw[decide_eq_true hr,if_pos hr] at hpe
      have hst:ZaE (Zo.mk (QL ⟨xL,xW,xH,xF++[⟨eX,eY,eW,eH⟩]⟩ (sS.eraseIdx a)) sO sD sL sC):=ZfE hsm (by simp only;omega) (by simp only;omega) hr.2
      have e1:=Yx _ _ _ _ _ hst
      have e2:=VY _ _ _ _ _ hst
      unfold VZ
      generalize QL ⟨xL,xW,xH,xF++[⟨eX,eY,eW,eH⟩]⟩ (sS.eraseIdx a)=Q at hpe e1 e2 ⊢
      by_cases hvt:ZH (Zo.mk Q sO sD sL sC)
      ·rw[decide_eq_true hvt] at e1
       simp only[if_pos hvt]
       unfold shV
       refine Zd Xs Ms Zm ZV (by show 2≤_;decide) ?_
       simp +contextual -implicitDefEqProofs (maxSteps:=10^7) only[go_sem,seval,↓gZ,Zm,k1,hpe,e1,e2]
      ·rw[decide_eq_false hvt] at e1
       simp only[if_neg hvt]
       unfold shV
       refine Zd Xs Ms Zm ZV (by show 2≤_;decide) ?_
       simp +contextual -implicitDefEqProofs (maxSteps:=10^7) only[go_sem,seval,↓gZ,Zm,k1,hpe,e1]
     ·have ee:QK (Zo.mk sS sO sD sL sC) (ZF.mk eK eL (Box.mk eX eY eW eH) (Zc.mk (Pane.mk epW epH epT epK) eC) (Zh.mk eo ea ep et ek))=none:=by
       unfold QK evS
       simp[k1,hpa,hr,VZ]
      rw[ee]
      rw[decide_eq_false hr] at hpe
      unfold shV
      refine Zd Xs Ms Zm ZV (by show 2≤_;decide) ?_
      simp +contextual -implicitDefEqProofs (maxSteps:=10^7) only[go_sem,seval,↓gZ,Zm,k1,hpe]
    ·have k5:eK=5:=by omega
     have hpe:=Zk0 sS sO sD sL sC eK eL eX eY eW eH epW epH epT epK eC eo ea ep et ek hS k5 a ha xL xW xH xF hx (by have:=hxv.1;simp only at this;unfold I5;omega) (by have:=hxv.1;simp only at this;unfold I5;omega)
     rw[k5] at hpe
     have ee:QK (Zo.mk sS sO sD sL sC) (ZF.mk eK eL (Box.mk eX eY eW eH) (Zc.mk (Pane.mk epW epH epT epK) eC) (Zh.mk eo ea ep et ek))=VZ (some (Zo.mk (sS.eraseIdx a) sO sD (sL+xW*xH) sC)):=by
      unfold QK evS
      simp[k5,hpa]
     rw[ee]
     have hst:ZaE (Zo.mk (sS.eraseIdx a) sO sD (sL+xW*xH) sC):=⟨by have:=Zna sS a;have:=hsm.1;simp only at this ⊢;omega,fun y hy=>hsm.2.1 y (List.mem_of_mem_eraseIdx hy),hsm.2.2⟩
     have e1:=Yx _ _ _ _ _ hst
     have e2:=VY _ _ _ _ _ hst
     unfold VZ
     generalize sS.eraseIdx a=Q at hpe e1 e2 ⊢
     by_cases hvt:ZH (Zo.mk Q sO sD (sL+xW*xH) sC)
     ·rw[decide_eq_true hvt] at e1
      simp only[if_pos hvt]
      unfold shV
      refine Zd Xs Ms Zm ZV (by show 2≤_;decide) ?_
      simp +contextual -implicitDefEqProofs (maxSteps:=10^7) only[go_sem,seval,↓gZ,Zm,k5,hpe,e1,e2]
     ·rw[decide_eq_false hvt] at e1
      simp only[if_neg hvt]
      unfold shV
      refine Zd Xs Ms Zm ZV (by show 2≤_;decide) ?_
      simp +contextual -implicitDefEqProofs (maxSteps:=10^7) only[go_sem,seval,↓gZ,Zm,k5,hpe,e1]
  ·have k1:¬eK=1:=fun h=>k15 (.inl h)
   have k5:¬eK=5:=fun h=>k15 (.inr h)
   by_cases k24:eK=2∨eK=4
   ·by_cases hl:Ub ⟨⟨epW,epH,epT,epK⟩,eC⟩
    ·by_cases k2:eK=2
     ·have hpe:=Zl3 sS sO sD sL sC eK eL eX eY eW eH epW epH epT epK eC eo ea ep et ek hv hl k2
      rw[k2] at hpe
      have ee:QK (Zo.mk sS sO sD sL sC) (ZF.mk eK eL (Box.mk eX eY eW eH) (Zc.mk (Pane.mk epW epH epT epK) eC) (Zh.mk eo ea ep et ek))=VZ (some (Zo.mk sS (XP ⟨epW,epH,epT,epK⟩ eC sO) sD sL sC)):=by
       unfold QK evS
       simp[k2,hl]
      rw[ee]
      have hst:ZaE (Zo.mk sS (XP ⟨epW,epH,epT,epK⟩ eC sO) sD sL sC):=ZfE hsm (Nat.le_trans (ZcD _ _ _) (by omega)) (by simp only;omega) hv.1
      have e1:=Yx _ _ _ _ _ hst
      have e2:=VY _ _ _ _ _ hst
      unfold VZ
      generalize XP ⟨epW,epH,epT,epK⟩ eC sO=Q at hpe e1 e2 ⊢
      by_cases hvt:ZH (Zo.mk sS Q sD sL sC)
      ·rw[decide_eq_true hvt] at e1
       simp only[if_pos hvt]
       unfold shV
       refine Zd Xs Ms Zm ZV (by show 2≤_;decide) ?_
       simp +contextual -implicitDefEqProofs (maxSteps:=10^7) only[go_sem,seval,↓gZ,Zm,k2,hpe,e1,e2]
      ·rw[decide_eq_false hvt] at e1
       simp only[if_neg hvt]
       unfold shV
       refine Zd Xs Ms Zm ZV (by show 2≤_;decide) ?_
       simp +contextual -implicitDefEqProofs (maxSteps:=10^7) only[go_sem,seval,↓gZ,Zm,k2,hpe,e1]
     ·have k4:eK=4:=by omega
      have hpe:=Zl4 sS sO sD sL sC eK eL eX eY eW eH epW epH epT epK eC eo ea ep et ek hv hl k2
      rw[k4] at hpe
      by_cases ht:Xy ⟨epW,epH,epT,epK⟩ eC false sD=true
      ·rw[ht] at hpe
       have ee:QK (Zo.mk sS sO sD sL sC) (ZF.mk eK eL (Box.mk eX eY eW eH) (Zc.mk (Pane.mk epW epH epT epK) eC) (Zh.mk eo ea ep et ek))=VZ (some (Zo.mk sS (XP ⟨epW,epH,epT,epK⟩ eC sO) (Yc sD ⟨epW,epH,epT,epK⟩ eC) (sL+eC*epW*epH) sC)):=by
        unfold QK evS
        simp[k4,hl,ht]
       rw[ee]
       have hst:ZaE (Zo.mk sS (XP ⟨epW,epH,epT,epK⟩ eC sO) (Yc sD ⟨epW,epH,epT,epK⟩ eC) (sL+eC*epW*epH) sC):=ZfE hsm (Nat.le_trans (ZcD _ _ _) (by omega)) (Nat.le_trans (List.length_filterMap_le _ _) (by omega)) hv.1
       have e1:=Yx _ _ _ _ _ hst
       have e2:=VY _ _ _ _ _ hst
       unfold VZ
       generalize XP ⟨epW,epH,epT,epK⟩ eC sO=Q at hpe e1 e2 ⊢
       generalize Yc sD ⟨epW,epH,epT,epK⟩ eC=R at hpe e1 e2 ⊢
       by_cases hvt:ZH (Zo.mk sS Q R (sL+eC*epW*epH) sC)
       ·rw[decide_eq_true hvt] at e1
        simp only[if_pos hvt]
        unfold shV
        refine Zd Xs Ms Zm ZV (by show 2≤_;decide) ?_
        simp +contextual -implicitDefEqProofs (maxSteps:=10^7) only[go_sem,seval,↓gZ,Zm,k4,hpe,e1,e2]
       ·rw[decide_eq_false hvt] at e1
        simp only[if_neg hvt]
        unfold shV
        refine Zd Xs Ms Zm ZV (by show 2≤_;decide) ?_
        simp +contextual -implicitDefEqProofs (maxSteps:=10^7) only[go_sem,seval,↓gZ,Zm,k4,hpe,e1]
      ·have ee:QK (Zo.mk sS sO sD sL sC) (ZF.mk eK eL (Box.mk eX eY eW eH) (Zc.mk (Pane.mk epW epH epT epK) eC) (Zh.mk eo ea ep et ek))=none:=by
        unfold QK evS
        simp[k4,ht,VZ]
       rw[ee]
       simp only[Bool.not_eq_true] at ht
       rw[ht] at hpe
       unfold shV
       refine Zd Xs Ms Zm ZV (by show 2≤_;decide) ?_
       simp +contextual -implicitDefEqProofs (maxSteps:=10^7) only[go_sem,seval,↓gZ,Zm,k4,hpe]
    ·have hpe:=Zot sS sO sD sL sC eK eL eX eY eW eH epW epH epT epK eC eo ea ep et ek hl
     have ee:QK (Zo.mk sS sO sD sL sC) (ZF.mk eK eL (Box.mk eX eY eW eH) (Zc.mk (Pane.mk epW epH epT epK) eC) (Zh.mk eo ea ep et ek))=none:=by
      unfold QK evS
      rcases k24 with k2 | k2<;>simp[k2,hl,VZ]
     rw[ee]
     unfold shV
     refine Zd Xs Ms Zm ZV (by show 2≤_;decide) ?_
     rcases k24 with k2 | k2
     ·rw[k2] at hpe
      simp +contextual -implicitDefEqProofs (maxSteps:=10^7) only[go_sem,seval,↓gZ,Zm,k2,hpe]
     ·rw[k2] at hpe
      simp +contextual -implicitDefEqProofs (maxSteps:=10^7) only[go_sem,seval,↓gZ,Zm,k2,hpe]
   ·have k2:¬eK=2:=fun h=>k24 (.inl h)
    have k4:¬eK=4:=fun h=>k24 (.inr h)
    by_cases k3:eK=3
    ·exact Jm sS sO sD sL sC eK eL eX eY eW eH epW epH epT epK eC eo ea ep et ek (Zl6 hv) k3
    ·have ee:QK (Zo.mk sS sO sD sL sC) (ZF.mk eK eL (Box.mk eX eY eW eH) (Zc.mk (Pane.mk epW epH epT epK) eC) (Zh.mk eo ea ep et ek))=none:=by
      unfold QK evS
      simp[k0,k1,k5,k2,k4,k3,VZ]
     rw[ee]
     unfold shV
     refine Zd Xs Ms Zm ZV (by show 2≤_;decide) ?_
     simp +contextual -implicitDefEqProofs (maxSteps:=10^7) only[go_sem,seval,↓gZ,Zm,k0,k1,k5,k2,k4,k3]
def Zqx (F:List Box) (W w h y:Int):Nat→Int→Option Box
 | 0,_=>none
 | n+1,x=>if x+w≤W then (if Qg F ⟨x,y,w,h⟩ then some ⟨x,y,w,h⟩ else Zqx F W w h y n (x+1)) else none
def Zqy (F:List Box) (W H w h:Int):Nat→Int→Option Box
 | 0,_=>none
 | n+1,y=>if y+h≤H then (match Zqx F W w h y (W.toNat+1) 0 with
  | some b=>some b
  | none=>Zqy F W H w h n (y+1)) else none
def Xz (q:Zb) (w h:Int):Option Box:=Zqy q.Flaws q.W q.H w h (q.H.toNat+1) 0
theorem Ztj {F:List Box} {W w h y:Int}:∀ {n:Nat} {x:Int} {b:Box},Zqx F W w h y n x=some b→x≤b.X∧b.X+w≤W∧b.Y=y∧b.W=w∧b.H=h∧Qg F b
 | 0,x,b,e=>by simp[Zqx] at e
 | n+1,x,b,e=>by
  unfold Zqx at e
  split at e
  ·split at e
   ·cases e;exact⟨Int.le_refl _,by assumption,rfl,rfl,rfl,by assumption⟩
   ·obtain⟨h1,h2⟩:=Ztj e
    exact⟨by omega,h2⟩
  ·cases e
theorem Ztk {F:List Box} {W H w h:Int}:∀ {n:Nat} {y:Int} {b:Box},Zqy F W H w h n y=some b→0≤b.X∧b.X+w≤W∧y≤b.Y∧b.Y+h≤H∧b.W=w∧b.H=h∧Qg F b
 | 0,y,b,e=>by simp[Zqy] at e
 | n+1,y,b,e=>by
  unfold Zqy at e
  split at e
  ·rename_i hy
   split at e
   ·rename_i c hc
    cases e
    obtain⟨h1,h2,h3,h4,h5,h6⟩:=Ztj hc
    exact⟨h1,h2,by omega,by omega,h4,h5,h6⟩
   ·obtain⟨h1,h2,h3,h4⟩:=Ztk e
    exact⟨h1,h2,by omega,h4⟩
  ·cases e
theorem ZcG {q:Zb} {w h:Int} {b:Box} (e:Xz q w h=some b):0≤b.X∧b.X+w≤q.W∧0≤b.Y∧b.Y+h≤q.H∧b.W=w∧b.H=h∧Qg q.Flaws b:=Ztk e
def fcV:Option Box→AV×List Zt
 | some b=>(.tup [.d b.enc,(.d (.bool true))],[])
 | none=>(.tup [.d (.agg [J 0,J 0,J 0,J 0]),(.d (.bool false))],[])
theorem Zar (qL qW qH:Int) (qF:List Box) (w h:Int) (hq:VPc (Zb.mk qL qW qH qF)) (hw:1≤w∧w≤200) (hh:1≤h∧h≤200):Zg Xs Ms XV [(.d (.agg [J qL,J qW,J qH,.sl (qF.map Box.enc)])),(.d (J w)),(.d (J h))] []=some (fcV (Xz (Zb.mk qL qW qH qF) w h)):=by
 have hF:∀ f∈qF,VB f:=fun f hf=>(hq.2 f hf).1
 obtain⟨_,_,hW1,hW2,hH1,hH2,hF6⟩:=hq.1
 simp only at hW1 hW2 hH1 hH2 hF6
 clear hq
 unfold Xz
 simp only
 refine Zd Xs Ms U8 Zrb (by show 3≤_;decide) ?_
 simp +contextual -implicitDefEqProofs (maxSteps:=10^7) only[go_sem,seval,↓gZ,U8]
 refine Zr Xs Ms (st0:=?st0) (α:=Nat) (fun y=>[(8,.d (J (y:Int)))]) (fun _=>[]) (fun y=>(y:Int)≤qH∧Zqy qF qW qH w h (qH.toNat+1-y) y=Zqy qF qW qH w h (qH.toNat+1) 0) (fun y=>qH.toNat+1-y) 0 ?hc ⟨by omega,by simp⟩ ?h0 ?step
 case hc=>simp +contextual -implicitDefEqProofs (maxSteps:=10^7) only[go_sem,seval,↓gZ]<;>exact rfl
 case h0=>rfl
 case step=>
  intro y ⟨hy,hp⟩ ih
  obtain⟨n,hn⟩:∃ n,qH.toNat+1-y=n+1:=⟨qH.toNat-y,by omega⟩
  rw[hn,Zqy] at hp
  have wy:=wi ((y:Int)+h) (by omega) (by omega)
  by_cases hyl:(y:Int)+h≤qH
  ·rw[if_pos hyl] at hp
   simp +contextual -implicitDefEqProofs (maxSteps:=10^7) only[go_sem,seval,↓gZ,wy,hyl]
   refine Zr Xs Ms (st0:=?st1) (α:=Nat) (fun x=>[(9,.d (J (x:Int)))]) (fun _=>[]) (fun x=>(x:Int)≤qW∧Zqx qF qW w h y (qW.toNat+1-x) x=Zqx qF qW w h y (qW.toNat+1) 0) (fun x=>qW.toNat+1-x) 0 ?hc2 ⟨by omega,by simp⟩ ?h02 ?step2
   case hc2=>simp +contextual -implicitDefEqProofs (maxSteps:=10^7) only[go_sem,seval,↓gZ]<;>exact rfl
   case h02=>rfl
   case step2=>
    intro x ⟨hx,hpx⟩ ih2
    obtain⟨m,hm⟩:∃ m,qW.toNat+1-x=m+1:=⟨qW.toNat-x,by omega⟩
    rw[hm,Zqx] at hpx
    have wx:=wi ((x:Int)+w) (by omega) (by omega)
    have hsx:=Zl (k:=x) (by omega)
    have hsy:=Zl (k:=y) (by omega)
    by_cases hxl:(x:Int)+w≤qW
    ·rw[if_pos hxl] at hpx
     have ec:=ZlW qL qW qH qF x y w h hF (by simp only[VB];omega) (by omega)
     by_cases hcl:Qg qF ⟨x,y,w,h⟩
     ·rw[if_pos hcl] at hpx
      rw[← hpx] at hp
      simp only at hp
      rw[decide_eq_true hcl] at ec
      simp +contextual -implicitDefEqProofs (maxSteps:=10^7) only[go_sem,seval,↓gZ,wx,hxl,ec]
      rw[← hp]
      rfl
     ·rw[if_neg hcl] at hpx
      rw[decide_eq_false hcl] at ec
      simp +contextual -implicitDefEqProofs (maxSteps:=10^7) only[go_sem,seval,↓gZ,wx,hxl,ec,hsx]
      refine ih2 (x+1) _ ⟨by omega,?_⟩ (by omega) ?_
      ·rw[← hpx]
       have:qW.toNat+1-(x+1)=m:=by omega
       rw[this]
       rfl
      ·simp +contextual -implicitDefEqProofs (maxSteps:=10^7) only[go_sem,seval,↓gZ]
    ·rw[if_neg hxl] at hpx
     rw[← hpx] at hp
     simp only at hp
     simp +contextual -implicitDefEqProofs (maxSteps:=10^7) only[go_sem,seval,↓gZ,wx,hxl,hsy]
     refine ih (y+1) _ ⟨by omega,?_⟩ (by omega) ?_
     ·rw[← hp]
      have:qH.toNat+1-(y+1)=n:=by omega
      rw[this]
      rfl
     ·simp +contextual -implicitDefEqProofs (maxSteps:=10^7) only[go_sem,seval,↓gZ]
  ·rw[if_neg hyl] at hp
   simp +contextual -implicitDefEqProofs (maxSteps:=10^7) only[go_sem,seval,↓gZ,wy,hyl]
   rw[← hp]
   rfl
def okP (p:Pane) (q:Zb):Bool:=(Xz q p.W p.H).isSome || (p.Turns&&(Xz q p.H p.W).isSome)
def Zgy (l:List Zb) (b:Int):Int:=match l[b.toNat]? with
 | some q=>q.W*q.H
 | none=>0
def Zc4 (L:List Zb) (p:Pane):List Zb→Nat→Int→Int
 | [],_,b=>b
 | x :: r,i,b=>Zc4 L p r (i+1) (if okP p x=true∧(b<0∨x.W*x.H<Zgy L b) then (i:Int) else b)
theorem Zn0 {L l:List Zb} {p:Pane} {k i:Nat} {x:Zb} {b:Int} (hx:l[k]?=some x):Zc4 L p (l.drop k) i b=Zc4 L p (l.drop (k+1)) (i+1) (if okP p x=true∧(b<0∨x.W*x.H<Zgy L b) then (i:Int) else b):=by
 obtain⟨h1,h2⟩:=List.getElem?_eq_some_iff.1 hx
 rw[List.drop_eq_getElem_cons h1,h2,Zc4]
theorem Zqz {L l:List Zb} {p:Pane} {i:Nat} {b:Int}:Zc4 L p (l.drop l.length) i b=b:=by simp[Zc4]
def ZeI (L:List Zb) (p:Pane):Int:=Zc4 L p L 0 (-1)
def Ztl (L:List Zb) (p:Pane):Int:=if VSt L∧VP p then (if ZeI L p<0 then 0 else match L[(ZeI L p).toNat]? with
 | some q=>q.Label
 | none=>0) else 0
theorem Ztm (L:List Zb) (p:Pane):∀ (l:List Zb) (i:Nat) (b:Int),(∀ (j:Nat) (x:Zb),l[j]?=some x→L[i+j]?=some x)→(b<0∨∃ (j:Nat) (x:Zb),b=(j:Int)∧L[j]?=some x∧okP p x=true)→Zc4 L p l i b<0∨∃ (j:Nat) (x:Zb),Zc4 L p l i b=(j:Int)∧L[j]?=some x∧okP p x=true
 | [],i,b,_,hb=>hb
 | x :: r,i,b,hl,hb=>by
  unfold Zc4
  refine Ztm L p r (i+1) _ (fun j y hy=>by have:=hl (j+1) y (by simpa using hy);rw[show i+1+j=i+(j+1) by omega];exact this) ?_
  split
  ·rename_i hc
   exact .inr ⟨i,x,rfl,by have:=hl 0 x (by simp);simpa using this,hc.1⟩
  ·exact hb
theorem ZqA (L:List Zb) (p:Pane):ZeI L p<0∨∃ (j:Nat) (x:Zb),ZeI L p=(j:Int)∧L[j]?=some x∧okP p x=true:=
 Ztm L p L 0 (-1) (fun j x h=>by simpa using h) (.inl (by omega))
theorem ZqB (l:List Zb) (pW pH:Int) (pT:Bool) (pK:Int) (hv:VSt l) (hp:VP (Pane.mk pW pH pT pK)):Zg Xs Ms Ul [(.d (.sl (l.map Zb.enc))),(.d (.agg [J pW,J pH,.bool pT,J pK]))] []=some ((.d (J (Ztl l (Pane.mk pW pH pT pK)))),[]):=by
 have e1:=Vs l (by have:=hv.1;omega) (fun x hx=>⟨by have:=(ZdF hv).2 x hx;omega,Zl1 (Z8 hv.2 x hx)⟩)
 have e2:=Wr pW pH pT pK
 rw[decide_eq_true hv] at e1
 rw[decide_eq_true hp] at e2
 have hval:=fun x hx=>Z8 hv.2 x hx
 have hl20:=hv.1
 unfold Ztl
 rw[if_pos ⟨hv,hp⟩]
 have hpw:1≤pW∧pW≤200∧1≤pH∧pH≤200:=⟨hp.1,hp.2.1,hp.2.2.1,hp.2.2.2.1⟩
 clear hv hp
 refine Zd Xs Ms Zad Zsb (by show 2≤_;decide) ?_
 simp +contextual -implicitDefEqProofs (maxSteps:=10^7) only[go_sem,seval,↓gZ,Zad,e1,e2]
 refine Zr Xs Ms (st0:=?st0) (α:=Nat×Int) (fun s=>[(6,.d (J (s.1:Int))),(5,.d (J s.2))]) (fun _=>[]) (fun s=>s.1≤l.length∧Zc4 l (Pane.mk pW pH pT pK) (l.drop s.1) s.1 s.2=ZeI l (Pane.mk pW pH pT pK)∧(s.2=-1∨∃ j:Nat,s.2=(j:Int)∧j<l.length)) (fun s=>l.length-s.1) (0,-1) ?hc ⟨by simp,by simp[ZeI],.inl rfl⟩ ?h0 ?step
 case hc=>simp +contextual -implicitDefEqProofs (maxSteps:=10^7) only[go_sem,seval,↓gZ]<;>exact rfl
 case h0=>rfl
 case step=>
  intro⟨i,b⟩ ⟨hi,hq,hb⟩ ih
  simp only at hi hq hb
  by_cases hlt:i<l.length
  ·obtain⟨x,hx⟩:=Zp hlt
   have hw:=Zl (k:=i) (by omega)
   rw[Zn0 hx] at hq
   have hvx:=hval x (List.mem_of_getElem? hx)
   have f1:=Zar x.Label x.W x.H x.Flaws pW pH hvx ⟨hpw.1,hpw.2.1⟩ hpw.2.2
   have f2:=Zar x.Label x.W x.H x.Flaws pH pW hvx hpw.2.2 ⟨hpw.1,hpw.2.1⟩
   have hx1:=hvx.1
   have hxa:0≤x.W*x.H∧x.W*x.H≤40000:=ZaZ (b:=⟨0,0,x.W,x.H⟩) (by simp only[VB];omega)
   have hok:okP (Pane.mk pW pH pT pK) x=((Xz ⟨x.Label,x.W,x.H,x.Flaws⟩ pW pH).isSome || (pT&&(Xz ⟨x.Label,x.W,x.H,x.Flaws⟩ pH pW).isSome)):=rfl
   obtain⟨L,W,H,F⟩:=x
   simp only at f1 f2 hxa hok
   have u1:=wi (W*H) (by omega) (by omega)
   cases h1:Xz ⟨L,W,H,F⟩ pW pH with
   | some b1=>
    rw[h1] at f1 hok
    unfold fcV at f1
    simp only[Option.isSome_some,Bool.true_or] at hok
    obtain⟨bX,bY,bW,bH⟩:=b1
    rcases hb with hb | ⟨j,hb,hj⟩
    ·subst hb
     rw[if_pos ⟨hok,.inl (by omega)⟩] at hq
     simp +contextual -implicitDefEqProofs (maxSteps:=10^7) only[go_sem,seval,↓gZ,hx,hlt,hw,f1]
     refine ih (i+1,(i:Int)) _ ⟨by simp only;omega,hq,.inr ⟨i,rfl,hlt⟩⟩ (by simp only;omega) ?_
     simp +contextual -implicitDefEqProofs (maxSteps:=10^7) only[go_sem,seval,↓gZ]
    ·subst hb
     obtain⟨y,hy⟩:=Zp hj
     have hvy:=(hval y (List.mem_of_getElem? hy)).1
     have hya:0≤y.W*y.H∧y.W*y.H≤40000:=ZaZ (b:=⟨0,0,y.W,y.H⟩) (by simp only[VB];omega)
     have hj0:¬(j:Int)<0:=by omega
     have har:Zgy l (j:Int)=y.W*y.H:=by unfold Zgy;rw[Int.toNat_natCast,hy]
     rw[har] at hq
     obtain⟨yL,yW,yH,yF⟩:=y
     simp only at hya hq
     have u2:=wi (yW*yH) (by omega) (by omega)
     by_cases hc:W*H<yW*yH
     ·rw[if_pos ⟨hok,.inr hc⟩] at hq
      simp +contextual -implicitDefEqProofs (maxSteps:=10^7) only[go_sem,seval,↓gZ,hx,hlt,hw,hj0,hj,hy,u1,u2,hc,f1]
      refine ih (i+1,(i:Int)) _ ⟨by simp only;omega,hq,.inr ⟨i,rfl,hlt⟩⟩ (by simp only;omega) ?_
      simp +contextual -implicitDefEqProofs (maxSteps:=10^7) only[go_sem,seval,↓gZ]
     ·rw[if_neg (fun h=>by rcases h.2 with h | h<;>omega)] at hq
      simp +contextual -implicitDefEqProofs (maxSteps:=10^7) only[go_sem,seval,↓gZ,hx,hlt,hw,hj0,hj,hy,u1,u2,hc,f1]
      refine ih (i+1,(j:Int)) _ ⟨by simp only;omega,hq,.inr ⟨j,rfl,hj⟩⟩ (by simp only;omega) ?_
      simp +contextual -implicitDefEqProofs (maxSteps:=10^7) only[go_sem,seval,↓gZ]
   | none=>
    rw[h1] at f1 hok
    unfold fcV at f1
    cases pT with
    | false=>
     simp only[Option.isSome_none,Bool.false_and,Bool.or_self] at hok
     rw[if_neg (fun h=>by rw[hok] at h;exact absurd h.1 (by simp))] at hq
     simp +contextual -implicitDefEqProofs (maxSteps:=10^7) only[go_sem,seval,↓gZ,hx,hlt,hw,f1]
     refine ih (i+1,b) _ ⟨by simp only;omega,hq,hb⟩ (by simp only;omega) ?_
     simp +contextual -implicitDefEqProofs (maxSteps:=10^7) only[go_sem,seval,↓gZ]
    | true=>
     cases h2:Xz ⟨L,W,H,F⟩ pH pW with
     | none=>
      rw[h2] at f2 hok
      unfold fcV at f2
      simp only[Option.isSome_none,Bool.true_and,Bool.or_self] at hok
      rw[if_neg (fun h=>by rw[hok] at h;exact absurd h.1 (by simp))] at hq
      simp +contextual -implicitDefEqProofs (maxSteps:=10^7) only[go_sem,seval,↓gZ,hx,hlt,hw,f1,f2]
      refine ih (i+1,b) _ ⟨by simp only;omega,hq,hb⟩ (by simp only;omega) ?_
      simp +contextual -implicitDefEqProofs (maxSteps:=10^7) only[go_sem,seval,↓gZ]
     | some b2=>
      rw[h2] at f2 hok
      unfold fcV at f2
      simp only[Option.isSome_some,Option.isSome_none,Bool.true_and,Bool.false_or] at hok
      obtain⟨bX,bY,bW,bH⟩:=b2
      rcases hb with hb | ⟨j,hb,hj⟩
      ·subst hb
       rw[if_pos ⟨hok,.inl (by omega)⟩] at hq
       simp +contextual -implicitDefEqProofs (maxSteps:=10^7) only[go_sem,seval,↓gZ,hx,hlt,hw,f1,f2]
       refine ih (i+1,(i:Int)) _ ⟨by simp only;omega,hq,.inr ⟨i,rfl,hlt⟩⟩ (by simp only;omega) ?_
       simp +contextual -implicitDefEqProofs (maxSteps:=10^7) only[go_sem,seval,↓gZ]
      ·subst hb
       obtain⟨y,hy⟩:=Zp hj
       have hvy:=(hval y (List.mem_of_getElem? hy)).1
       have hya:0≤y.W*y.H∧y.W*y.H≤40000:=ZaZ (b:=⟨0,0,y.W,y.H⟩) (by simp only[VB];omega)
       have hj0:¬(j:Int)<0:=by omega
       have har:Zgy l (j:Int)=y.W*y.H:=by unfold Zgy;rw[Int.toNat_natCast,hy]
       rw[har] at hq
       obtain⟨yL,yW,yH,yF⟩:=y
       simp only at hya hq
       have u2:=wi (yW*yH) (by omega) (by omega)
       by_cases hc:W*H<yW*yH
       ·rw[if_pos ⟨hok,.inr hc⟩] at hq
        simp +contextual -implicitDefEqProofs (maxSteps:=10^7) only[go_sem,seval,↓gZ,hx,hlt,hw,hj0,hj,hy,u1,u2,hc,f1,f2]
        refine ih (i+1,(i:Int)) _ ⟨by simp only;omega,hq,.inr ⟨i,rfl,hlt⟩⟩ (by simp only;omega) ?_
        simp +contextual -implicitDefEqProofs (maxSteps:=10^7) only[go_sem,seval,↓gZ]
       ·rw[if_neg (fun h=>by rcases h.2 with h | h<;>omega)] at hq
        simp +contextual -implicitDefEqProofs (maxSteps:=10^7) only[go_sem,seval,↓gZ,hx,hlt,hw,hj0,hj,hy,u1,u2,hc,f1,f2]
        refine ih (i+1,(j:Int)) _ ⟨by simp only;omega,hq,.inr ⟨j,rfl,hj⟩⟩ (by simp only;omega) ?_
        simp +contextual -implicitDefEqProofs (maxSteps:=10^7) only[go_sem,seval,↓gZ]
  ·have:i=l.length:=by omega
   subst this
   rw[Zqz] at hq
   subst hq
   rcases hb with hb | ⟨j,hb,hj⟩
   ·have h0:ZeI l (Pane.mk pW pH pT pK)<0:=by omega
    simp +contextual -implicitDefEqProofs (maxSteps:=10^7) only[go_sem,seval,↓gZ,hb]
   ·have h0:¬ZeI l (Pane.mk pW pH pT pK)<0:=by omega
    have h1:¬(j:Int)<0:=by omega
    obtain⟨y,hy⟩:=Zp hj
    simp only[hb,if_neg h1,Int.toNat_natCast,hy]
    obtain⟨yL,yW,yH,yF⟩:=y
    simp +contextual -implicitDefEqProofs (maxSteps:=10^7) only[go_sem,seval,↓gZ,h1,hj,hy]
def WI (lo hi fr to:Int):List Int:=(if fr<lo∧lo<to then [lo] else [])++(if fr<hi∧hi<to then [hi] else [])
theorem Zzj {lo hi fr to x:Int} (h:x∈WI lo hi fr to):x<to:=by
 unfold WI at h
 rcases List.mem_append.1 h with h | h
 ·split at h
  ·simp at h;omega
  ·simp at h
 ·split at h
  ·simp at h;omega
  ·simp at h
theorem Znh (lo hi fr to:Int):(WI lo hi fr to).length≤2:=by
 unfold WI
 split<;>split<;>simp
theorem Zzk {lo hi fr t:Int} (hl:lo<hi) (hf:fr<t) (h:t=lo∨t=hi):WI lo hi fr (t+1)=WI lo hi fr t++[t]:=by
 unfold WI
 rcases h with h | h
 ·rw[if_pos (show fr<lo∧lo<t+1 by omega),if_neg (show ¬(fr<hi∧hi<t+1) by omega),if_neg (show ¬(fr<lo∧lo<t) by omega),if_neg (show ¬(fr<hi∧hi<t) by omega),h];rfl
 ·rw[if_pos (show fr<hi∧hi<t+1 by omega),if_neg (show ¬(fr<hi∧hi<t) by omega)]
  by_cases h2:fr<lo
  ·rw[if_pos (show fr<lo∧lo<t+1 by omega),if_pos (show fr<lo∧lo<t by omega),h];rfl
  ·rw[if_neg (show ¬(fr<lo∧lo<t+1) by omega),if_neg (show ¬(fr<lo∧lo<t) by omega),h];rfl
theorem ZAy {lo hi fr t:Int} (h:¬(t=lo∨t=hi)):WI lo hi fr (t+1)=WI lo hi fr t:=by
 unfold WI
 have h1:(fr<lo∧lo<t+1)=(fr<lo∧lo<t):=propext (by omega)
 have h2:(fr<hi∧hi<t+1)=(fr<hi∧hi<t):=propext (by omega)
 simp only[h1,h2]
theorem Zl7:∀ (l:List Int) (k:Nat) (n:Int),n∉l→Yh k l n=-1
 | [],_,_,_=>rfl
 | x :: l,k,n,h=>by
  simp only[List.mem_cons,not_or] at h
  unfold Yh
  rw[if_neg (fun e=>h.1 e.symm),Zl7 l (k+1) n h.2]
theorem ZqC (cP:Int) (cT:Bool) (cX cY cW cH:Int) (op lo n fr to:Int) (ho:(op=2∧lo=cX∧n=cW)∨(op=3∧lo=cY∧n=cH)) (hc:0≤cX∧cX≤1000∧0≤cY∧cY≤1000∧1≤cW∧cW≤1000∧1≤cH∧cH≤1000) (h0:0≤fr) (h1:fr<to) (h2:to≤1000):Zg Xs Ms Zcc [.d (.sl [.agg [J cP,.bool cT,J cX,J cY,J cW,J cH]]),(.d (J op)),(.d (J fr)),(.d (J to))] []=some (.own 0,[.row 1 ((WI lo (lo+n) fr to).map ZbI) true false]):=by
 have w0:=wi (fr+1) (by omega) (by omega)
 have wx:=wi (cX+cW) (by omega) (by omega)
 have wy:=wi (cY+cH) (by omega) (by omega)
 have hn:lo<lo+n:=by omega
 have he0:WI lo (lo+n) fr (fr+1)=[]:=by unfold WI;rw[if_neg (by omega),if_neg (by omega)];rfl
 refine Zd Xs Ms Zcg Ztu (by show 4≤_;decide) ?_
 simp +contextual -implicitDefEqProofs (maxSteps:=10^7) only[go_sem,seval,↓gZ,Zcg,w0]
 refine Zr Xs Ms (st0:=?st0) (α:=Int) (fun t=>[(10,.d (J t))]) (fun t=>[(0,.row 1 ((WI lo (lo+n) fr t).map ZbI) true false)]) (fun t=>fr+1≤t∧t≤to) (fun t=>(to-t).toNat) (fr+1) ?hc (by omega) ?h0 ?step
 case hc=>simp +contextual -implicitDefEqProofs (maxSteps:=10^7) only[go_sem,seval,↓gZ]<;>exact rfl
 case h0=>rw[he0];rfl
 case step=>
  intro t ⟨ht1,ht2⟩ ih
  by_cases hlt:t<to
  ·have wt:=wi (t+1) (by omega) (by omega)
   have hel:=Znh lo (lo+n) fr t
   have hr:((WI lo (lo+n) fr t).length+1)*8≤140737488355328∧(WI lo (lo+n) fr t).length≤140737488355327:=by omega
   have epl:=ZlU (WI lo (lo+n) fr t) t (by omega)
   rw[Zl7 _ _ _ (fun h=>by have:=Zzj h;omega)] at epl
   by_cases hm:t=lo∨t=lo+n
   ·have hy:=Zzk hn (show fr<t by omega) hm
    have hfin:(1:Int)+0=1:=rfl
    rcases ho with ⟨o1,o2,o3⟩ | ⟨o1,o2,o3⟩
    ·have hm' : (t=cX∨t=cX+cW):=by omega
     simp +contextual -implicitDefEqProofs (maxSteps:=10^7) only[go_sem,seval,↓gZ,hlt]
     refine ZU Xs Ms ?_
     simp +contextual -implicitDefEqProofs (maxSteps:=10^7) only[go_sem,seval,↓gZ,wx,o1,hm',epl,hr,← Bool.decide_or]
     refine ZU Xs Ms ?_
     simp +contextual -implicitDefEqProofs (maxSteps:=10^7) only[go_sem,seval,↓gZ,wt]
     refine ih (t+1) _ (by omega) (by omega) ?_
     simp +contextual -implicitDefEqProofs (maxSteps:=10^7) only[go_sem,seval,↓gZ,hy,o1,List.map_append,List.map_cons,List.map_nil]
    ·have hm' : (t=cY∨t=cY+cH):=by omega
     simp +contextual -implicitDefEqProofs (maxSteps:=10^7) only[go_sem,seval,↓gZ,hlt]
     refine ZU Xs Ms ?_
     simp +contextual -implicitDefEqProofs (maxSteps:=10^7) only[go_sem,seval,↓gZ,wx,wy,o1,hm',epl,hr,← Bool.decide_or]
     refine ZU Xs Ms ?_
     simp +contextual -implicitDefEqProofs (maxSteps:=10^7) only[go_sem,seval,↓gZ,wt]
     refine ih (t+1) _ (by omega) (by omega) ?_
     simp +contextual -implicitDefEqProofs (maxSteps:=10^7) only[go_sem,seval,↓gZ,hy,o1,List.map_append,List.map_cons,List.map_nil]
   ·have hy:=ZAy (fr:=fr) hm
    rcases ho with ⟨o1,o2,o3⟩ | ⟨o1,o2,o3⟩
    ·have hm' : ¬(t=cX∨t=cX+cW):=by omega
     simp +contextual -implicitDefEqProofs (maxSteps:=10^7) only[go_sem,seval,↓gZ,hlt]
     refine ZU Xs Ms ?_
     simp +contextual -implicitDefEqProofs (maxSteps:=10^7) only[go_sem,seval,↓gZ,wx,o1,hm',← Bool.decide_or]
     refine ZU Xs Ms ?_
     simp +contextual -implicitDefEqProofs (maxSteps:=10^7) only[go_sem,seval,↓gZ,wt]
     refine ih (t+1) _ (by omega) (by omega) ?_
     simp +contextual -implicitDefEqProofs (maxSteps:=10^7) only[go_sem,seval,↓gZ,hy,o1]
    ·have hm' : ¬(t=cY∨t=cY+cH):=by omega
     simp +contextual -implicitDefEqProofs (maxSteps:=10^7) only[go_sem,seval,↓gZ,hlt]
     refine ZU Xs Ms ?_
     simp +contextual -implicitDefEqProofs (maxSteps:=10^7) only[go_sem,seval,↓gZ,wx,wy,o1,hm',← Bool.decide_or]
     refine ZU Xs Ms ?_
     simp +contextual -implicitDefEqProofs (maxSteps:=10^7) only[go_sem,seval,↓gZ,wt]
     refine ih (t+1) _ (by omega) (by omega) ?_
     simp +contextual -implicitDefEqProofs (maxSteps:=10^7) only[go_sem,seval,↓gZ,hy,o1]
  ·have:t=to:=by omega
   subst this
   simp +contextual -implicitDefEqProofs (maxSteps:=10^7) only[go_sem,seval,↓gZ]
theorem Zjh (cP:Int) (cT:Bool) (cX cY cW cH:Int) (op lo n t:Int) (f:Bool) (ho:(op=2∧lo=cX∧n=cW)∨(op=3∧lo=cY∧n=cH)) (hc:0≤cX∧cX≤1000∧0≤cY∧cY≤1000∧1≤cW∧cW≤1000∧1≤cH∧cH≤1000) (hn:¬(lo<t∧t<lo+n)):Zg Xs Ms ZcK [.d (.sl [.agg [J cP,.bool cT,J cX,J cY,J cW,J cH]]),(.d (J op)),(.d (J t)),(.d (.bool f))] [] =
  some (.tup [.own 0,(.d (.bool true))],[.row 6 (if f=decide (lo+n≤t) then [.agg [J cP,.bool cT,J cX,J cY,J cW,J cH]] else []) true false]):=by
 have wx:=wi (cX+cW) (by omega) (by omega)
 have wy:=wi (cY+cH) (by omega) (by omega)
 have bb:∀ a b:Bool,Zfp .eql true (.d (.bool a)) (.d (.bool b))=Qs (.d (.bool (a==b))):=fun _ _=>rfl
 refine Zd Xs Ms ZcS Zws (by show 4≤_;decide) ?_
 rcases ho with ⟨o1,o2,o3⟩ | ⟨o1,o2,o3⟩
 ·have hn' : ¬(cX<t∧t<cX+cW):=by omega
  have he:(lo+n≤t)=(cX+cW≤t):=propext (by omega)
  simp only[he]
  simp +contextual -implicitDefEqProofs (maxSteps:=10^7) only[go_sem,seval,↓gZ,ZcS]
  refine ZU Xs Ms ?_
  by_cases hf:f=decide (cX+cW≤t)
  ·have hg:(f==decide (cX+cW≤t))=true:=by rw[hf];simp
   rw[if_pos hf]
   simp +contextual -implicitDefEqProofs (maxSteps:=10^7) only[go_sem,seval,↓gZ,wx,o1,hn',bb,hg,← Bool.decide_and]
   refine ZU Xs Ms ?_
   simp +contextual -implicitDefEqProofs (maxSteps:=10^7) only[go_sem,seval,↓gZ]
  ·have hg:(f==decide (cX+cW≤t))=false:=by simpa using hf
   rw[if_neg hf]
   simp +contextual -implicitDefEqProofs (maxSteps:=10^7) only[go_sem,seval,↓gZ,wx,o1,hn',bb,hg,← Bool.decide_and]
   refine ZU Xs Ms ?_
   simp +contextual -implicitDefEqProofs (maxSteps:=10^7) only[go_sem,seval,↓gZ]
 ·have hn' : ¬(cY<t∧t<cY+cH):=by omega
  have he:(lo+n≤t)=(cY+cH≤t):=propext (by omega)
  simp only[he]
  simp +contextual -implicitDefEqProofs (maxSteps:=10^7) only[go_sem,seval,↓gZ,ZcS]
  refine ZU Xs Ms ?_
  by_cases hf:f=decide (cY+cH≤t)
  ·have hg:(f==decide (cY+cH≤t))=true:=by rw[hf];simp
   rw[if_pos hf]
   simp +contextual -implicitDefEqProofs (maxSteps:=10^7) only[go_sem,seval,↓gZ,wx,wy,o1,hn',bb,hg,← Bool.decide_and]
   refine ZU Xs Ms ?_
   simp +contextual -implicitDefEqProofs (maxSteps:=10^7) only[go_sem,seval,↓gZ]
  ·have hg:(f==decide (cY+cH≤t))=false:=by simpa using hf
   rw[if_neg hf]
   simp +contextual -implicitDefEqProofs (maxSteps:=10^7) only[go_sem,seval,↓gZ,wx,wy,o1,hn',bb,hg,← Bool.decide_and]
   refine ZU Xs Ms ?_
   simp +contextual -implicitDefEqProofs (maxSteps:=10^7) only[go_sem,seval,↓gZ]
def ZcH:Zh→AV×List Zt
 | .mk o a q t ks=>(.tup [.agg [(.d (J o)),(.d (J a)),(.d (J q)),(.d (.bool t)),.own 0],(.d (.bool true))],[.row 5 (ks.map Zh.enc) true false])
theorem Zcq (bX bY bW bH:Int):Zg Xs Ms Qf [.d (.sl []),(.d (.agg [J bX,J bY,J bW,J bH]))] []=some (ZcH BT.waste.plan):=by
 simp only[BT.plan,ZcH]
 refine Zd Xs Ms Qu UR (by show 2≤_;decide) ?_
 simp +contextual -implicitDefEqProofs (maxSteps:=10^7) only[go_sem,seval,↓gZ,Qu]
theorem Zh3 (cP:Int) (cT:Bool) (cX cY cW cH:Int):Zg Xs Ms Qf [.d (.sl [.agg [J cP,.bool cT,J cX,J cY,J cW,J cH]]),.d (.agg [J cX,J cY,J cW,J cH])] []=some (ZcH (BT.pane cP cT).plan):=by
 simp only[BT.plan,ZcH]
 refine Zd Xs Ms Qu UR (by show 2≤_;decide) ?_
 simp +contextual -implicitDefEqProofs (maxSteps:=10^7) only[go_sem,seval,↓gZ,Qu]
theorem Zbd (A B:List D) (bX bY bW bH:Int) (d:Bool) (a:Int) (l r:BT) (hA:uni 6 A) (hB:uni 6 B) (h1:R64 (bX+a)) (h2:R64 (bY+a)) (h3:R64 (bW-a)) (h4:R64 (bH-a))
  (hl:Zg Xs Ms Qf [.d (.sl A),if d then .d (.agg [J bX,J bY,J a,J bH]) else .d (.agg [J bX,J bY,J bW,J a])] []=some (ZcH l.plan))
  (hr:Zg Xs Ms Qf [.d (.sl B),if d then .d (.agg [J (bX+a),J bY,J (bW-a),J bH]) else .d (.agg [J bX,J (bY+a),J bW,J (bH-a)])] []=some (ZcH r.plan)) :
  Zg Xs Ms Yr [.d (.sl A),.d (.sl B),(.d (.agg [J bX,J bY,J bW,J bH])),(.d (J (QF d))),(.d (J a))] []=some (ZcH (BT.cut d a l r).plan):=by
 have w1:=wi (bX+a) h1.1 h1.2
 have w2:=wi (bY+a) h2.1 h2.2
 have w3:=wi (bW-a) h3.1 h3.2
 have w4:=wi (bH-a) h4.1 h4.2
 obtain⟨lo,la,lq,lt,lk,el⟩:∃ o a q t ks,l.plan=.mk o a q t ks:=by cases l.plan;exact⟨_,_,_,_,_,rfl⟩
 obtain⟨ro,ra,rq,rt,rk,er⟩:∃ o a q t ks,r.plan=.mk o a q t ks:=by cases r.plan;exact⟨_,_,_,_,_,rfl⟩
 rw[el] at hl
 rw[er] at hr
 simp only[BT.plan,el,er,ZcH] at hl hr ⊢
 cases d with
 | true=>
  simp only[if_true,QF] at hl hr ⊢
  refine Zd Xs Ms ZO XC (by show 5≤_;decide) ?_
  simp +contextual -implicitDefEqProofs (maxSteps:=10^7) only[go_sem,seval,↓gZ,ZO,w1,w3,hl,hr,hA,hB]
 | false=>
  simp only[Bool.false_eq_true,if_false,QF] at hl hr ⊢
  refine Zd Xs Ms ZO XC (by show 5≤_;decide) ?_
  simp +contextual -implicitDefEqProofs (maxSteps:=10^7) only[go_sem,seval,↓gZ,ZO,w1,w2,w3,w4,hl,hr,hA,hB]
end Go.Proofs.YtpobhkoombldlaaGreat
