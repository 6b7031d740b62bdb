/- Contracts of the functions,by the abstract semantics. -/
import Derived.Test.YtpobhkoombldlaaGreatDCode
import Derived.Test.YtpobhkoombldlaaGreatAbsParts
import Derived.Test.YtpobhkoombldlaaGreatDC6
namespace Go.Proofs.YtpobhkoombldlaaGreat
open Go Go.Abs Go.Abs.E Go.Abs.L
open Nat (reduceMul reduceSub reduceLeDiff reduceEqDiff)
open Int (reduceLE reduceEq reduceToNat reduceNeg)
set_option linter.unusedSimpArgs false
set_option linter.unusedVariables false
set_option maxRecDepth 20000
set_option maxHeartbeats 4000000
theorem Zwk (kW kH:Int) (kP:List Pane) (p:Zh) (hv:Wm (ZE.mk kW kH kP) p=true):Zg Xs Ms Zdz [(.d (.agg [J kW,J kH,.sl (kP.map Pane.enc)])),.d p.enc] []=some (.own 0,[.row 1 ((Zfh (ZE.mk kW kH kP) p).map ZbN) true false]):=by
 have ev:=Zb3 kW kH kP p
 rw[hv] at ev
 have e:=ZdO kW kH kP p
 obtain⟨b,hb,hpb,hvw,hcnt,hfit,hpt⟩:=Xm hv
 simp only at hfit hpt
 have hpn:=ZeF (x:=0) (y:=0) hfit
 have hkl:kP.length≤24:=hvw.2.2.2.2.1
 have hln:(plc b 0 0 kW kH).length≤255:=by
  have:=List.length_filterMap_le Xr (QF (ZE.mk kW kH kP) p)
  rw[hpt,ZbS,Vt] at this
  omega
 unfold Zfh
 rw[hpt,Vt] at e ⊢
 generalize plc b 0 0 kW kH=L at e hpn hln ⊢
 have hmk:(kP.length:Int)*((8:Nat):Int)≤((140737488355328:Nat):Int)∧kP.length≤140737488355328:=by omega
 have hmk2:(kP.length:Int)*8≤140737488355328∧(kP.length:Int)≤140737488355328:=by omega
 clear hv hb hpb hvw hpt hfit
 obtain⟨o,a,q,t,ks⟩:=p
 rw[Zh.enc_mk] at e ev ⊢
 refine Zd Xs Ms ZgG ZxS (by show 2≤_;decide) ?_
 simp +contextual -implicitDefEqProofs (maxSteps:=10^7) only[go_sem,seval,↓gZ,ZgG,ev,e,rep_int,hmk,hmk2]
 refine Zr Xs Ms (st0:=?st0) (α:=Nat×List Int) (fun s=>[(20,.d (J (s.1:Int)))]) (fun s=>[(1,.row 1 (s.2.map ZbN) true false)]) (fun s=>s.1≤L.length∧s.2.length=kP.length∧(∀ v∈s.2,0≤v∧v≤s.1)∧Zaq s.2 (L.drop s.1)=Zaq (List.replicate kP.length 0) L) (fun s=>L.length-s.1) (0,List.replicate kP.length 0) ?hc ⟨by simp,by simp,fun w hw=>by rw[List.eq_of_mem_replicate hw];omega,by simp⟩ ?h0 ?step
 case hc=>simp +contextual -implicitDefEqProofs (maxSteps:=10^7) only[go_sem,seval,↓gZ]<;>exact rfl
 case h0=>rfl
 case step=>
  intro⟨i,u⟩ ⟨hi,hul,huv,hp⟩ ih
  simp only at hi hul huv hp
  by_cases hlt:i<L.length
  ·obtain⟨x,hx⟩:=Zp hlt
   have hw:=Zk (k:=i) (by omega)
   obtain⟨n,hn,hnl⟩:=hpn x (List.mem_of_getElem? hx)
   rw[ZqQ hx,hn] at hp
   obtain⟨q',t',⟨X,Y,W,H⟩⟩:=x
   simp only at hn
   subst hn
   have hnu:n<u.length:=by omega
   obtain⟨z,hz⟩:=Zp hnu
   have hzb:=huv z (List.mem_of_getElem? hz)
   have u1:=wi (z+1) (by omega) (by omega)
   rw[Int.toNat_natCast,hz] at hp
   simp +contextual -implicitDefEqProofs (maxSteps:=10^7) only[go_sem,seval,↓gZ,hx,hlt,hw,hnl,hnu,hz,u1,Zpm,hul]
   refine ih (i+1,u.set n (z+1)) _ ⟨by simp only;omega,by simpa using hul,fun v hv=>?_,hp⟩ (by simp only;omega) ?_
   ·simp only
    rcases List.mem_or_eq_of_mem_set hv with h1 | rfl
    ·have:=huv v h1;omega
    ·omega
   ·simp +contextual -implicitDefEqProofs (maxSteps:=10^7) only[go_sem,seval,↓gZ,List.headD_cons,Zpm]
  ·have:i=L.length:=by omega
   subst this
   rw[Ztp] at hp
   simp +contextual -implicitDefEqProofs (maxSteps:=10^7) only[go_sem,seval,↓gZ,hp]
theorem Zh9:∀ (b:BT) (x y w h:Int),ZlO b=false↔plc b x y w h=[]
 | .waste,x,y,w,h=>by simp[ZlO,plc]
 | .pane i t,x,y,w,h=>by simp[ZlO,plc]
 | .cut d a l r,x,y,w,h=>by
  cases d
  ·simp only[ZlO,plc,Bool.or_eq_false_iff,Bool.false_eq_true,if_false,List.append_eq_nil_iff,Zh9 l x y w a,Zh9 r x (y+a) w (h-a)]
  ·simp only[ZlO,plc,Bool.or_eq_false_iff,if_true,List.append_eq_nil_iff,Zh9 l x y a h,Zh9 r (x+a) y (w-a) h]
theorem Zq9:∀ (l:List L.Place) (u:List Int) (i:Nat) (v:Int),u[i]?=some v→∃ z,(Zaq u l)[i]?=some z∧v≤z
 | [],u,i,v,h=>⟨v,h,Int.le_refl _⟩
 | x :: l,u,i,v,h=>by
  rw[Zaq]
  by_cases hi:x.Pane.toNat=i
  ·obtain⟨z,h1,h2⟩:=Zq9 l (u.set x.Pane.toNat (u[x.Pane.toNat]?.getD 0+1)) i (v+1) (by
    rw[hi,h,List.getElem?_set]
    have:=(List.getElem?_eq_some_iff.1 h).1
    simp[this])
   exact⟨z,h1,by omega⟩
  ·obtain⟨z,h1,h2⟩:=Zq9 l (u.set x.Pane.toNat (u[x.Pane.toNat]?.getD 0+1)) i v (by
    rw[List.getElem?_set_ne hi,h])
   exact⟨z,h1,h2⟩
theorem Zzx {l:List L.Place} {u:List Int} (hl:l≠[]) (hu:∀ v∈u,0≤v) (hn:∀ c∈l,∃ n:Nat,c.Pane=(n:Int)∧n<u.length):∃ v∈Zaq u l,v≠0:=by
 cases l with
 | nil=>exact absurd rfl hl
 | cons x l=>
  obtain⟨n,h1,h2⟩:=hn x (by simp)
  obtain⟨v,hv⟩:=Zp h2
  have h0:=hu v (List.mem_of_getElem? hv)
  rw[Zaq,h1,Int.toNat_natCast,hv]
  obtain⟨z,h3,h4⟩:=Zq9 l (u.set n (v+1)) n (v+1) (by rw[List.getElem?_set];simp[h2])
  refine⟨z,List.mem_of_getElem? (by simpa using h3),by omega⟩
theorem ZtC {k:ZE} {p:Zh} (hv:Wm k p=true) (hp:Zr4 p=true):∃ v∈Zfh k p,v≠0:=by
 obtain⟨b,hb,hpb,hvw,hcnt,hfit,hpt⟩:=Xm hv
 unfold Zr4 at hp
 rw[hb] at hp
 simp only at hp
 unfold Zfh
 rw[hpt,Vt]
 refine Zzx (fun h=>?_) (fun v hv=>by rw[List.eq_of_mem_replicate hv];omega) (fun c hc=>?_)
 ·rw[(Zh9 b _ _ _ _).2 h] at hp;cases hp
 ·obtain⟨n,h1,h2⟩:=ZeF hfit c hc
  exact⟨n,h1,by simpa using h2⟩
theorem ZxR {k:ZE} {p:Zh} (hv:Wm k p=true):(((QF k p).filterMap Xr).length=0)↔Zr4 p=false:=by
 obtain⟨b,hb,hpb,hvw,hcnt,hfit,hpt⟩:=Xm hv
 unfold Zr4
 rw[hb,hpt,Vt,List.length_eq_zero_iff]
 exact(Zh9 b _ _ _ _).symm
def cpV (S:List Zb) (O D:List Zc) (L C:Int):Option Zo→AV×List Zt
 | some t=>((.d (.bool true)),[.box [.own 4,.own 5,.own 6,(.d (J (t.Lost))),(.d (J (t.Came)))],.deep 4 4 (S.map Zb.enc) none,.row 5 (O.map Zc.enc) true false,.row 5 (D.map Zc.enc) true false,.row 4 (t.Stock.map Zb.enc) true false,.row 5 (t.Opn.map Zc.enc) true false,.row 5 (t.Done.map Zc.enc) true false])
 | none=>((.d (.bool false)),[.box [.own 1,.own 2,.own 3,(.d (J L)),(.d (J C))],.deep 4 4 (S.map Zb.enc) none,.row 5 (O.map Zc.enc) true false,.row 5 (D.map Zc.enc) true false])
theorem Zsb (sS:List Zb) (sO sD:List Zc) (sL sC:Int) (eK eL eX eY eW eH epW epH:Int) (epT:Bool) (epK eC eo ea ep:Int) (et:Bool) (ek:List Zh) (hv:ZL (Zo.mk sS sO sD sL sC)):Zg Xs Ms JH [.ptr 0 0,(.d (.agg [J eK,J eL,J eX,J eY,J eW,J eH,J epW,J epH,.bool epT,J epK,J eC,J eo,J ea,J ep,.bool et,.sl (ek.map Zh.enc)]))] [.box [.own 1,.own 2,.own 3,(.d (J sL)),(.d (J sC))],.deep 4 4 (sS.map Zb.enc) none,.row 5 (sO.map Zc.enc) true false,.row 5 (sD.map Zc.enc) true false]=some (cpV sS sO sD sL sC (ZgL (Zo.mk sS sO sD sL sC) (Zv.mk eK eL (Box.mk eX eY eW eH) (Zc.mk (Pane.mk epW epH epT epK) eC) (Zh.mk eo ea ep et ek)))):=by
 obtain⟨⟨h1,h2,h3,h4⟩,h5,h6,h7,h8,h9⟩:=ZnM hv
 simp only at h1 h2 h3 h4 h5 h6 h7 h8 h9
 have hO:=hv.2.1
 have hD:=hv.2.2.1
 simp only at hO hD
 have hO8:=hO.1
 have hD8:=hD.1
 have e1:=ZiM sS sO sD sL sC eL
 unfold Zwd at e1
 rw[if_pos hv] at e1
 by_cases hf:QK 0 sS eL<0
 ·have ec:ZgL (Zo.mk sS sO sD sL sC) (Zv.mk eK eL (Box.mk eX eY eW eH) (Zc.mk (Pane.mk epW epH epT epK) eC) (Zh.mk eo ea ep et ek))=none:=by
   unfold ZgL
   simp only
   split
   ·rfl
   ·rw[Ztt hf]
  rw[ec]
  simp only[Zh4 hf] at e1
  unfold wkV at e1
  simp only at e1
  unfold cpV
  refine Zd Xs Ms XR Zfx (by show 2≤_;decide) ?_
  simp +contextual -implicitDefEqProofs (maxSteps:=10^7) only[go_sem,seval,↓gZ,XR,e1]
 ·obtain⟨a,x,ha,hx⟩:=ZeE (by omega:0≤QK 0 sS eL)
  simp only[Zdu ha hx] at e1
  unfold wkV at e1
  simp only at e1
  have e3:=ZrY sS eL x.W x.H (sO.map Zc.Pane) (.mk eo ea ep et ek) 5
  have ecs:ZgL (Zo.mk sS sO sD sL sC) (Zv.mk eK eL (Box.mk eX eY eW eH) (Zc.mk (Pane.mk epW epH epT epK) eC) (Zh.mk eo ea ep et ek))=match ZeD sS eL ⟨x.W,x.H,sO.map Zc.Pane⟩ (.mk eo ea ep et ek) 5 with
   | none=>none
   | some R=>if Zr4 (.mk eo ea ep et ek)=true then
     match Wt (sO.map Zc.Pane) (Zfh ⟨x.W,x.H,sO.map Zc.Pane⟩ (.mk eo ea ep et ek)) sO sD with
     | none=>none
     | some (o,d)=>some ⟨R,o,d,sL+YG (ZgX ⟨x.W,x.H,sO.map Zc.Pane⟩ (.mk eo ea ep et ek) 5),sC⟩
    else none:=by
   unfold ZgL
   simp only[ha,Int.toNat_natCast,hx]
   try rfl
  rw[ecs]
  clear ecs
  obtain⟨xL,xW,xH,xF⟩:=x
  simp only at e1 e3 ⊢
  cases hcs:ZeD sS eL ⟨xW,xH,sO.map Zc.Pane⟩ (.mk eo ea ep et ek) 5 with
  | none=>
   rw[hcs] at e3
   unfold Zjc at e3
   simp only
   unfold cpV
   rw[Zh.enc_mk] at e3
   refine Zd Xs Ms XR Zfx (by show 2≤_;decide) ?_
   simp +contextual -implicitDefEqProofs (maxSteps:=10^7) only[go_sem,seval,↓gZ,XR,e1,e3]
  | some R=>
   obtain⟨hvp,hvR,_⟩:=ZmV hcs
   rw[hcs] at e3
   unfold Zjc at e3
   simp only
   have e4:=ZdO xW xH (sO.map Zc.Pane) (.mk eo ea ep et ek)
   have hnil:=ZxR hvp
   have e5:=ZrW xW xH (sO.map Zc.Pane) (.mk eo ea ep et ek) 5 hvp (by omega) (by omega)
   have e6:=Zwk xW xH (sO.map Zc.Pane) (.mk eo ea ep et ek) hvp
   have hu:=Zg2 hvp
   obtain⟨b,hb,hpb,hvw,hcnt,hfit,hpt⟩:=Xm hvp
   have hla:=ZhW (l:=ZgX ⟨xW,xH,sO.map Zc.Pane⟩ (.mk eo ea ep et ek) 5) (fun c hc=>by
    obtain⟨z,hz,hzc⟩:=List.mem_filterMap.1 hc
    unfold Zah at hzc
    split at hzc
    ·cases hzc;exact Zf1 hvp c hz
    ·cases hzc)
   have hll:(ZgX ⟨xW,xH,sO.map Zc.Pane⟩ (.mk eo ea ep et ek) 5).length≤255:=by
    refine Nat.le_trans (List.length_filterMap_le _ _) (Nat.le_trans (List.length_filterMap_le _ _) ?_)
    rw[hpt,ZbS];exact hcnt
   have hup:=ZtC hvp
   generalize YG (ZgX ⟨xW,xH,sO.map Zc.Pane⟩ (.mk eo ea ep et ek) 5)=A at e5 hla ⊢
   generalize Zfh ⟨xW,xH,sO.map Zc.Pane⟩ (.mk eo ea ep et ek)=us at e6 hu hup ⊢
   generalize (QF ⟨xW,xH,sO.map Zc.Pane⟩ (.mk eo ea ep et ek)).filterMap Xr=pl at e4 hnil
   rw[Zh.enc_mk] at e3 e4 e5 e6
   simp only[List.length_map] at hu
   have u1:=wi (sL+A) (by omega) (by omega)
   cases hhb:Zr4 (.mk eo ea ep et ek) with
   | false=>
    have hpl:((pl.length:Int)=0):=by have:=hnil.2 hhb;omega
    rw[if_neg (by simp)]
    unfold cpV
    refine Zd Xs Ms XR Zfx (by show 2≤_;decide) ?_
    simp +contextual -implicitDefEqProofs (maxSteps:=10^7) only[go_sem,seval,↓gZ,XR,e1,e3,e4,hpl]
   | true=>
    have hpl:¬((pl.length:Int)=0):=fun h=>by
     have h1:pl.length=0:=by omega
     rw[hnil.1 h1] at hhb;cases hhb
    obtain⟨vz,hvz,hvz0⟩:=hup hhb
    rw[if_pos rfl]
    refine Zd Xs Ms XR Zfx (by show 2≤_;decide) ?_
    simp +contextual -implicitDefEqProofs (maxSteps:=10^7) only[go_sem,seval,↓gZ,XR,e1,e3,e4,e6,hpl]
    refine Zr Xs Ms (st0:=?st0) (α:=Nat) (fun s=>[(65,.d (J (s:Int)))]) (fun _=>[]) (fun i=>i≤us.length∧Wt ((sO.map Zc.Pane).drop i) (us.drop i) sO sD=Wt (sO.map Zc.Pane) us sO sD∧∀ v∈us.take i,v=0) (fun i=>us.length-i) 0 ?hc ⟨by omega,rfl,by simp⟩ ?h0 ?step
    case hc=>simp +contextual -implicitDefEqProofs (maxSteps:=10^7) only[go_sem,seval,↓gZ]<;>exact rfl
    case h0=>rfl
    case step=>
     intro i ⟨hi,hp,hz0⟩ ih
     by_cases hil:i<us.length
     ·obtain⟨c,hc⟩:=Zp hil
      have hiO:i<sO.length:=by omega
      obtain⟨y,hy⟩:=Zp hiO
      have hw:=Zk (k:=i) (by omega)
      have hcb:=hu.2 c (List.mem_of_getElem? hc)
      have hpy:(sO.map Zc.Pane)[i]?=some y.Pane:=by rw[List.getElem?_map,hy];rfl
      rw[ZlP hpy hc] at hp
      obtain⟨⟨W,H,T,K⟩,C⟩:=y
      simp only at hp hpy
      by_cases hc0:c=0
      ·rw[if_pos hc0] at hp
       simp +contextual -implicitDefEqProofs (maxSteps:=10^7) only[go_sem,seval,↓gZ,hil,hiO,hy,hc,hc0,hw]
       refine ih (i+1) _ ⟨by omega,hp,fun v hv=>?_⟩ (by omega) ?_
       ·rw[List.take_add_one,hc,List.mem_append] at hv
        rcases hv with hv | hv
        ·exact hz0 v hv
        ·simp at hv;omega
       ·simp +contextual -implicitDefEqProofs (maxSteps:=10^7) only[go_sem,seval,↓gZ]
      ·rw[if_neg hc0] at hp
       have et:=ZdQ sO W H T K c (by omega) (ZiO hO) (fun x hx=>by have:=(Qb hO x hx).2;unfold R64;omega)
       have ea:=Zfu sD W H T K c (by omega) (fun x hx=>by have:=(Qb hD x hx).2;unfold R64;omega)
       unfold tkV at et
       by_cases hto:XI ⟨W,H,T,K⟩ c false sO=true
       ·rw[if_pos hto] at hp et
        simp +contextual -implicitDefEqProofs (maxSteps:=10^7) only[go_sem,seval,↓gZ,hil,hiO,hy,hc,hc0,hw,et,ea]
        refine Zr Xs Ms (st0:=?st1) (α:=Nat×List Zc×List Zc) (fun s=>[(65,.d (J (s.1:Int)))]) (fun s=>[(4,.row 5 (s.2.2.map Zc.enc) true false),(5,.row 5 (s.2.1.map Zc.enc) true false)]) (fun s=>s.1≤us.length∧Wt ((sO.map Zc.Pane).drop s.1) (us.drop s.1) s.2.1 s.2.2=Wt (sO.map Zc.Pane) us sO sD∧s.2.1.length≤8∧s.2.2.length≤8+s.1∧UL s.2.1∧UL s.2.2∧(∀ x∈s.2.1,0≤x.Count∧x.Count≤24)∧(∀ x∈s.2.2,0≤x.Count∧x.Count≤24+255*s.1)) (fun s=>us.length-s.1) (i+1,Yr sO ⟨W,H,T,K⟩ c,Y6 ⟨W,H,T,K⟩ c sD) ?hc2 ⟨by simp only;omega,hp,Nat.le_trans (List.length_filterMap_le _ _) hO8,Nat.le_trans (ZgC _ _ _) (by simp only;omega),Zq5 (ZiO hO),Zyx (ZiO hD) (by omega),ZnN hcb.1 (fun x hx=>(Qb hO x hx).2.2),fun x hx=>by
         have:=ZmU (hi:=24) hcb.1 (by omega) (fun x hx=>by have:=(Qb hD x hx).2;omega) x hx
         simp only
         omega⟩ ?h02 ?step2
        case hc2=>simp +contextual -implicitDefEqProofs (maxSteps:=10^7) only[go_sem,seval,↓gZ]<;>exact rfl
        case h02=>rfl
        case step2=>
         intro⟨j,o,d⟩ ⟨hj,hp,ho8,hd8,uo,ud,hoc,hdc⟩ ih
         simp only at hj hp ho8 hd8 uo ud hoc hdc
         by_cases hjl:j<us.length
         ·obtain⟨c,hc⟩:=Zp hjl
          have hjO:j<sO.length:=by omega
          obtain⟨y,hy⟩:=Zp hjO
          have hw:=Zk (k:=j) (by omega)
          have hcb:=hu.2 c (List.mem_of_getElem? hc)
          have hpy:(sO.map Zc.Pane)[j]?=some y.Pane:=by rw[List.getElem?_map,hy];rfl
          rw[ZlP hpy hc] at hp
          obtain⟨⟨W,H,T,K⟩,C⟩:=y
          simp only at hp hpy
          by_cases hc0:c=0
          ·rw[if_pos hc0] at hp
           simp +contextual -implicitDefEqProofs (maxSteps:=10^7) only[go_sem,seval,↓gZ,hjl,hjO,hy,hc,hc0,hw]
           refine ih (j+1,o,d) _ ⟨by simp only;omega,hp,ho8,by simp only;omega,uo,ud,hoc,fun x hx=>by have:=hdc x hx;simp only;omega⟩ (by simp only;omega) ?_
           simp +contextual -implicitDefEqProofs (maxSteps:=10^7) only[go_sem,seval,↓gZ]
          ·rw[if_neg hc0] at hp
           have et:=ZdQ o W H T K c (by omega) uo (fun x hx=>by have:=hoc x hx;unfold R64;omega)
           have ea:=Zfu d W H T K c (by omega) (fun x hx=>by have:=hdc x hx;unfold R64;omega)
           unfold tkV at et
           by_cases hto:XI ⟨W,H,T,K⟩ c false o=true
           ·rw[if_pos hto] at hp et
            simp +contextual -implicitDefEqProofs (maxSteps:=10^7) only[go_sem,seval,↓gZ,hjl,hjO,hy,hc,hc0,hw,et,ea]
            refine ih (j+1,Yr o ⟨W,H,T,K⟩ c,Y6 ⟨W,H,T,K⟩ c d) _ ⟨by simp only;omega,hp,Nat.le_trans (List.length_filterMap_le _ _) ho8,Nat.le_trans (ZgC _ _ _) (by simp only;omega),Zq5 uo,Zyx ud (by omega),ZnN hcb.1 (fun x hx=>(hoc x hx).2),fun x hx=>?_⟩ (by simp only;omega) ?_
            ·have:=ZmU hcb.1 (by omega) hdc x hx
             simp only
             omega
            ·simp +contextual -implicitDefEqProofs (maxSteps:=10^7) only[go_sem,seval,↓gZ]
           ·rw[if_neg hto] at hp et
            simp +contextual -implicitDefEqProofs (maxSteps:=10^7) only[go_sem,seval,↓gZ,hjl,hjO,hy,hc,hc0,hw,et]
            rw[← hp]
            rfl
         ·have:j=sO.length:=by omega
          subst this
          have hce:=@Zts (sO.map Zc.Pane) (us.drop sO.length) o d
          rw[List.length_map] at hce
          rw[hce] at hp
          rw[← hp]
          unfold cpV
          simp +contextual -implicitDefEqProofs (maxSteps:=10^7) only[go_sem,seval,↓gZ,e5,u1]
       ·rw[if_neg hto] at hp et
        simp +contextual -implicitDefEqProofs (maxSteps:=10^7) only[go_sem,seval,↓gZ,hil,hiO,hy,hc,hc0,hw,et]
        rw[← hp]
        rfl
     ·have:us.take i=us:=List.take_of_length_le (by omega)
      rw[this] at hz0
      exact absurd (hz0 vz hvz) hvz0
theorem ZtD {q x:Zb}:∀ {l:List Zb} {b:Int} {a:Nat},Yb b l→l[a]?=some x→q.Label=x.Label→QL q (l.eraseIdx a)=l.set a q
 | [],b,a,_,h,_=>by simp at h
 | y :: l,b,0,hs,h,e=>by
  simp only[List.getElem?_cons_zero,Option.some.injEq] at h
  subst h
  simp only[List.eraseIdx_cons_zero,List.set_cons_zero]
  cases l with
  | nil=>rfl
  | cons z l=>
   have:=hs.2.2.2.1
   unfold QL
   rw[if_pos (by omega)]
 | y :: l,b,a+1,hs,h,e=>by
  simp only[List.getElem?_cons_succ] at h
  have ih:=ZtD hs.2.2 h e
  have:=ZkK hs.2.2 x (List.mem_of_getElem? h)
  simp only[List.eraseIdx_cons_succ,List.set_cons_succ]
  unfold QL
  rw[if_neg (by omega),ih]
theorem Zzy {s:Zo} {e:Zv} {a:Nat} {q:Zb} (hv:ZL s) (hk:e.kind=1) (ha:QK 0 s.Stock e.label=(a:Int)) (hx:s.Stock[a]?=some q) :
  QB s e=V2 (some { s with Stock:=s.Stock.set a { q with Flaws:=q.Flaws++[e.box] } }):=by
 have h1:=ZtD (q := { q with Flaws:=q.Flaws++[e.box] }) hv.1.2 hx rfl
 have h2:Yb 0 (s.Stock.eraseIdx a):=ZjP a hv.1.2
 unfold QB evS
 rw[if_neg (by omega),if_pos hk]
 simp only[Zdu ha hx]
 by_cases hr:UC { q with Flaws:=q.Flaws++[e.box] } (s.Stock.eraseIdx a)
 ·rw[if_pos hr,h1]
 ·rw[if_neg hr]
  unfold V2
  simp only
  rw[if_neg]
  intro hs
  refine hr ⟨⟨⟨?_,h2⟩,?_⟩,?_⟩
  ·have:=hv.1.1
   rw[List.length_eraseIdx];split<;>omega
  ·exact ZY hs.1.2 _ (List.mem_of_getElem? (i:=a) (by rw[List.getElem?_set];simp[(List.getElem?_eq_some_iff.1 hx).1]))
  ·rw[h1];exact hs.1
theorem ZoX (sS:List Zb) (sO sD:List Zc) (sL sC:Int) (eK eL eX eY eW eH epW epH:Int) (epT:Bool) (epK eC eo ea ep:Int) (et:Bool) (ek:List Zh) (hv:ZL (Zo.mk sS sO sD sL sC)) (h0:eK=0) (ha:UC ⟨eL,eW,eH,[]⟩ sS) (hx:eX=0) (hy:eY=0):Zg Xs Ms ZG [.ptr 0 0,(.d (.agg [J eK,J eL,J eX,J eY,J eW,J eH,J epW,J epH,.bool epT,J epK,J eC,J eo,J ea,J ep,.bool et,.sl (ek.map Zh.enc)]))] [.box [.own 1,.own 2,.own 3,(.d (J sL)),(.d (J sC))],.deep 4 4 (sS.map Zb.enc) none,.row 5 (sO.map Zc.enc) true false,.row 5 (sD.map Zc.enc) true false]=some ((.d (.bool true)),[.box [.own 4,.own 2,.own 3,(.d (J sL)),(.d (J (sC+eW*eH)))],.deep 4 4 (sS.map Zb.enc) none,.row 5 (sO.map Zc.enc) true false,.row 5 (sD.map Zc.enc) true false,.row 4 ((QL ⟨eL,eW,eH,[]⟩ sS).map Zb.enc) true false]):=by
 have e1:=Zq8 sS sO sD sL sC eK eL eX eY eW eH epW epH epT epK eC eo ea ep et ek hv ha hx hy
 subst h0
 generalize QL ⟨eL,eW,eH,[]⟩ sS=Q at *
 refine Zd Xs Ms Zw Qr (by show 2≤_;decide) ?_
 simp +contextual -implicitDefEqProofs (maxSteps:=10^7) only[go_sem,seval,↓gZ,Zw,e1]
theorem ZoY (sS:List Zb) (sO sD:List Zc) (sL sC:Int) (eK eL eX eY eW eH epW epH:Int) (epT:Bool) (epK eC eo ea ep:Int) (et:Bool) (ek:List Zh) (hv:ZL (Zo.mk sS sO sD sL sC)) (h0:eK=0) (hl:sS.length≤100000) (hn:¬((UC ⟨eL,eW,eH,[]⟩ sS∧eX=0)∧eY=0)):Zg Xs Ms ZG [.ptr 0 0,(.d (.agg [J eK,J eL,J eX,J eY,J eW,J eH,J epW,J epH,.bool epT,J epK,J eC,J eo,J ea,J ep,.bool et,.sl (ek.map Zh.enc)]))] [.box [.own 1,.own 2,.own 3,(.d (J sL)),(.d (J sC))],.deep 4 4 (sS.map Zb.enc) none,.row 5 (sO.map Zc.enc) true false,.row 5 (sD.map Zc.enc) true false]=some ((.d (.bool false)),[.box [.own 1,.own 2,.own 3,(.d (J sL)),(.d (J sC))],.deep 4 4 (sS.map Zb.enc) none,.row 5 (sO.map Zc.enc) true false,.row 5 (sD.map Zc.enc) true false]):=by
 have e1:=Zr9 sS sO sD sL sC eK eL eX eY eW eH epW epH epT epK eC eo ea ep et ek hl hn
 subst h0
 refine Zd Xs Ms Zw Qr (by show 2≤_;decide) ?_
 simp +contextual -implicitDefEqProofs (maxSteps:=10^7) only[go_sem,seval,↓gZ,Zw,e1]
theorem ZoZ (sS:List Zb) (sO sD:List Zc) (sL sC:Int) (eK eL eX eY eW eH epW epH:Int) (epT:Bool) (epK eC eo ea ep:Int) (et:Bool) (ek:List Zh) (hv:ZL (Zo.mk sS sO sD sL sC)) (h0:eK=1) (hl:sS.length≤100000) (a:Nat) (ha:QK 0 sS eL=(a:Int)) (xL xW xH:Int) (xF:List Box) (hx:sS[a]?=some (Zb.mk xL xW xH xF)) (hF:xF.length≤1000):Zg Xs Ms ZG [.ptr 0 0,(.d (.agg [J eK,J eL,J eX,J eY,J eW,J eH,J epW,J epH,.bool epT,J epK,J eC,J eo,J ea,J ep,.bool et,.sl (ek.map Zh.enc)]))] [.box [.own 1,.own 2,.own 3,(.d (J sL)),(.d (J sC))],.deep 4 4 (sS.map Zb.enc) none,.row 5 (sO.map Zc.enc) true false,.row 5 (sD.map Zc.enc) true false]=some ((.d (.bool true)),[.box [.own 1,.own 2,.own 3,(.d (J sL)),(.d (J sC))],.row 4 ((sS.set a ⟨xL,xW,xH,xF++[⟨eX,eY,eW,eH⟩]⟩).map Zb.enc) true false,.row 5 (sO.map Zc.enc) true false,.row 5 (sD.map Zc.enc) true false]):=by
 have e1:=Zsa sS sO sD sL sC eK eL eX eY eW eH epW epH epT epK eC eo ea ep et ek hl a ha xL xW xH xF hx hF
 subst h0
 generalize sS.set a ⟨xL,xW,xH,xF++[⟨eX,eY,eW,eH⟩]⟩=Q at *
 refine Zd Xs Ms Zw Qr (by show 2≤_;decide) ?_
 simp +contextual -implicitDefEqProofs (maxSteps:=10^7) only[go_sem,seval,↓gZ,Zw,e1]
theorem Zo0 (sS:List Zb) (sO sD:List Zc) (sL sC:Int) (eK eL eX eY eW eH epW epH:Int) (epT:Bool) (epK eC eo ea ep:Int) (et:Bool) (ek:List Zh) (hv:ZL (Zo.mk sS sO sD sL sC)) (h0:eK=1) (hl:sS.length≤100000) (hn:QK 0 sS eL<0):Zg Xs Ms ZG [.ptr 0 0,(.d (.agg [J eK,J eL,J eX,J eY,J eW,J eH,J epW,J epH,.bool epT,J epK,J eC,J eo,J ea,J ep,.bool et,.sl (ek.map Zh.enc)]))] [.box [.own 1,.own 2,.own 3,(.d (J sL)),(.d (J sC))],.deep 4 4 (sS.map Zb.enc) none,.row 5 (sO.map Zc.enc) true false,.row 5 (sD.map Zc.enc) true false]=some ((.d (.bool false)),[.box [.own 1,.own 2,.own 3,(.d (J sL)),(.d (J sC))],.deep 4 4 (sS.map Zb.enc) none,.row 5 (sO.map Zc.enc) true false,.row 5 (sD.map Zc.enc) true false]):=by
 have e1:=Zux sS sO sD sL sC eK eL eX eY eW eH epW epH epT epK eC eo ea ep et ek hl hn
 subst h0
 refine Zd Xs Ms Zw Qr (by show 2≤_;decide) ?_
 simp +contextual -implicitDefEqProofs (maxSteps:=10^7) only[go_sem,seval,↓gZ,Zw,e1]
theorem Zo1 (sS:List Zb) (sO sD:List Zc) (sL sC:Int) (eK eL eX eY eW eH epW epH:Int) (epT:Bool) (epK eC eo ea ep:Int) (et:Bool) (ek:List Zh) (hv:ZL (Zo.mk sS sO sD sL sC)) (h0:eK=2) (hn:Ui ⟨⟨epW,epH,epT,epK⟩,eC⟩):Zg Xs Ms ZG [.ptr 0 0,(.d (.agg [J eK,J eL,J eX,J eY,J eW,J eH,J epW,J epH,.bool epT,J epK,J eC,J eo,J ea,J ep,.bool et,.sl (ek.map Zh.enc)]))] [.box [.own 1,.own 2,.own 3,(.d (J sL)),(.d (J sC))],.deep 4 4 (sS.map Zb.enc) none,.row 5 (sO.map Zc.enc) true false,.row 5 (sD.map Zc.enc) true false]=some ((.d (.bool true)),[.box [.own 1,.own 4,.own 3,(.d (J sL)),(.d (J sC))],.deep 4 4 (sS.map Zb.enc) none,.row 5 (sO.map Zc.enc) true false,.row 5 (sD.map Zc.enc) true false,.row 5 ((Y6 ⟨epW,epH,epT,epK⟩ eC sO).map Zc.enc) true false]):=by
 have e1:=ZnR sS sO sD sL sC eK eL eX eY eW eH epW epH epT epK eC eo ea ep et ek hv hn
 subst h0
 generalize Y6 ⟨epW,epH,epT,epK⟩ eC sO=Q at *
 refine Zd Xs Ms Zw Qr (by show 2≤_;decide) ?_
 simp +contextual -implicitDefEqProofs (maxSteps:=10^7) only[go_sem,seval,↓gZ,Zw,e1]
theorem Zo2 (sS:List Zb) (sO sD:List Zc) (sL sC:Int) (eK eL eX eY eW eH epW epH:Int) (epT:Bool) (epK eC eo ea ep:Int) (et:Bool) (ek:List Zh) (hv:ZL (Zo.mk sS sO sD sL sC)) (h0:eK=2) (hn:¬Ui ⟨⟨epW,epH,epT,epK⟩,eC⟩):Zg Xs Ms ZG [.ptr 0 0,(.d (.agg [J eK,J eL,J eX,J eY,J eW,J eH,J epW,J epH,.bool epT,J epK,J eC,J eo,J ea,J ep,.bool et,.sl (ek.map Zh.enc)]))] [.box [.own 1,.own 2,.own 3,(.d (J sL)),(.d (J sC))],.deep 4 4 (sS.map Zb.enc) none,.row 5 (sO.map Zc.enc) true false,.row 5 (sD.map Zc.enc) true false]=some ((.d (.bool false)),[.box [.own 1,.own 2,.own 3,(.d (J sL)),(.d (J sC))],.deep 4 4 (sS.map Zb.enc) none,.row 5 (sO.map Zc.enc) true false,.row 5 (sD.map Zc.enc) true false]):=by
 have e1:=ZoU sS sO sD sL sC eK eL eX eY eW eH epW epH epT epK eC eo ea ep et ek hn
 subst h0
 refine Zd Xs Ms Zw Qr (by show 2≤_;decide) ?_
 simp +contextual -implicitDefEqProofs (maxSteps:=10^7) only[go_sem,seval,↓gZ,Zw,e1]
theorem Zo3 (sS:List Zb) (sO sD:List Zc) (sL sC:Int) (eK eL eX eY eW eH epW epH:Int) (epT:Bool) (epK eC eo ea ep:Int) (et:Bool) (ek:List Zh) (hv:ZL (Zo.mk sS sO sD sL sC)) (h0:eK=4) (hl:Ui ⟨⟨epW,epH,epT,epK⟩,eC⟩) (hk:XI ⟨epW,epH,epT,epK⟩ eC false sD=true):Zg Xs Ms ZG [.ptr 0 0,(.d (.agg [J eK,J eL,J eX,J eY,J eW,J eH,J epW,J epH,.bool epT,J epK,J eC,J eo,J ea,J ep,.bool et,.sl (ek.map Zh.enc)]))] [.box [.own 1,.own 2,.own 3,(.d (J sL)),(.d (J sC))],.deep 4 4 (sS.map Zb.enc) none,.row 5 (sO.map Zc.enc) true false,.row 5 (sD.map Zc.enc) true false]=some ((.d (.bool true)),[.box [.own 1,.own 4,.own 5,(.d (J (sL+eC*epW*epH))),(.d (J sC))],.deep 4 4 (sS.map Zb.enc) none,.row 5 (sO.map Zc.enc) true false,.row 5 (sD.map Zc.enc) true false,.row 5 ((Y6 ⟨epW,epH,epT,epK⟩ eC sO).map Zc.enc) true false,.row 5 ((Yr sD ⟨epW,epH,epT,epK⟩ eC).map Zc.enc) true false]):=by
 have e1:=ZnS sS sO sD sL sC eK eL eX eY eW eH epW epH epT epK eC eo ea ep et ek hv hl hk
 subst h0
 generalize Y6 ⟨epW,epH,epT,epK⟩ eC sO=Q at *
 generalize Yr sD ⟨epW,epH,epT,epK⟩ eC=Q2 at *
 refine Zd Xs Ms Zw Qr (by show 2≤_;decide) ?_
 simp +contextual -implicitDefEqProofs (maxSteps:=10^7) only[go_sem,seval,↓gZ,Zw,e1]
theorem Zo4 (sS:List Zb) (sO sD:List Zc) (sL sC:Int) (eK eL eX eY eW eH epW epH:Int) (epT:Bool) (epK eC eo ea ep:Int) (et:Bool) (ek:List Zh) (hv:ZL (Zo.mk sS sO sD sL sC)) (h0:eK=4) (hn:¬(Ui ⟨⟨epW,epH,epT,epK⟩,eC⟩∧XI ⟨epW,epH,epT,epK⟩ eC false sD=true)):Zg Xs Ms ZG [.ptr 0 0,(.d (.agg [J eK,J eL,J eX,J eY,J eW,J eH,J epW,J epH,.bool epT,J epK,J eC,J eo,J ea,J ep,.bool et,.sl (ek.map Zh.enc)]))] [.box [.own 1,.own 2,.own 3,(.d (J sL)),(.d (J sC))],.deep 4 4 (sS.map Zb.enc) none,.row 5 (sO.map Zc.enc) true false,.row 5 (sD.map Zc.enc) true false]=some ((.d (.bool false)),[.box [.own 1,.own 2,.own 3,(.d (J sL)),(.d (J sC))],.deep 4 4 (sS.map Zb.enc) none,.row 5 (sO.map Zc.enc) true false,.row 5 (sD.map Zc.enc) true false]):=by
 have e1:=ZoV sS sO sD sL sC eK eL eX eY eW eH epW epH epT epK eC eo ea ep et ek hv hn
 subst h0
 refine Zd Xs Ms Zw Qr (by show 2≤_;decide) ?_
 simp +contextual -implicitDefEqProofs (maxSteps:=10^7) only[go_sem,seval,↓gZ,Zw,e1]
theorem Zo5 (sS:List Zb) (sO sD:List Zc) (sL sC:Int) (eK eL eX eY eW eH epW epH:Int) (epT:Bool) (epK eC eo ea ep:Int) (et:Bool) (ek:List Zh) (hv:ZL (Zo.mk sS sO sD sL sC)) (h0:eK=5) (a:Nat) (ha:QK 0 sS eL=(a:Int)) (xL xW xH:Int) (xF:List Box) (hx:sS[a]?=some (Zb.mk xL xW xH xF)):Zg Xs Ms ZG [.ptr 0 0,(.d (.agg [J eK,J eL,J eX,J eY,J eW,J eH,J epW,J epH,.bool epT,J epK,J eC,J eo,J ea,J ep,.bool et,.sl (ek.map Zh.enc)]))] [.box [.own 1,.own 2,.own 3,(.d (J sL)),(.d (J sC))],.deep 4 4 (sS.map Zb.enc) none,.row 5 (sO.map Zc.enc) true false,.row 5 (sD.map Zc.enc) true false]=some ((.d (.bool true)),[.box [.own 4,.own 2,.own 3,(.d (J (sL+xW*xH))),(.d (J sC))],.deep 4 4 (sS.map Zb.enc) none,.row 5 (sO.map Zc.enc) true false,.row 5 (sD.map Zc.enc) true false,.row 4 ((sS.eraseIdx a).map Zb.enc) true false]):=by
 have e1:=ZnT sS sO sD sL sC eK eL eX eY eW eH epW epH epT epK eC eo ea ep et ek hv a ha xL xW xH xF hx
 subst h0
 generalize sS.eraseIdx a=Q at *
 refine Zd Xs Ms Zw Qr (by show 2≤_;decide) ?_
 simp +contextual -implicitDefEqProofs (maxSteps:=10^7) only[go_sem,seval,↓gZ,Zw,e1]
theorem Zo6 (sS:List Zb) (sO sD:List Zc) (sL sC:Int) (eK eL eX eY eW eH epW epH:Int) (epT:Bool) (epK eC eo ea ep:Int) (et:Bool) (ek:List Zh) (hv:ZL (Zo.mk sS sO sD sL sC)) (h0:eK=5) (hn:QK 0 sS eL<0):Zg Xs Ms ZG [.ptr 0 0,(.d (.agg [J eK,J eL,J eX,J eY,J eW,J eH,J epW,J epH,.bool epT,J epK,J eC,J eo,J ea,J ep,.bool et,.sl (ek.map Zh.enc)]))] [.box [.own 1,.own 2,.own 3,(.d (J sL)),(.d (J sC))],.deep 4 4 (sS.map Zb.enc) none,.row 5 (sO.map Zc.enc) true false,.row 5 (sD.map Zc.enc) true false]=some ((.d (.bool false)),[.box [.own 1,.own 2,.own 3,(.d (J sL)),(.d (J sC))],.deep 4 4 (sS.map Zb.enc) none,.row 5 (sO.map Zc.enc) true false,.row 5 (sD.map Zc.enc) true false]):=by
 have e1:=ZoW sS sO sD sL sC eK eL eX eY eW eH epW epH epT epK eC eo ea ep et ek hn
 subst h0
 refine Zd Xs Ms Zw Qr (by show 2≤_;decide) ?_
 simp +contextual -implicitDefEqProofs (maxSteps:=10^7) only[go_sem,seval,↓gZ,Zw,e1]
theorem Zra (sS:List Zb) (sO sD:List Zc) (sL sC:Int) (eK eL eX eY eW eH epW epH:Int) (epT:Bool) (epK eC eo ea ep:Int) (et:Bool) (ek:List Zh) (hv:ZL (Zo.mk sS sO sD sL sC)) (h0:eK=3):Zg Xs Ms ZG [.ptr 0 0,(.d (.agg [J eK,J eL,J eX,J eY,J eW,J eH,J epW,J epH,.bool epT,J epK,J eC,J eo,J ea,J ep,.bool et,.sl (ek.map Zh.enc)]))] [.box [.own 1,.own 2,.own 3,(.d (J sL)),(.d (J sC))],.deep 4 4 (sS.map Zb.enc) none,.row 5 (sO.map Zc.enc) true false,.row 5 (sD.map Zc.enc) true false]=some (cpV sS sO sD sL sC (ZgL (Zo.mk sS sO sD sL sC) (Zv.mk eK eL (Box.mk eX eY eW eH) (Zc.mk (Pane.mk epW epH epT epK) eC) (Zh.mk eo ea ep et ek)))):=by
 have e1:=Zsb sS sO sD sL sC eK eL eX eY eW eH epW epH epT epK eC eo ea ep et ek hv
 subst h0
 generalize ZgL (Zo.mk sS sO sD sL sC) (Zv.mk 3 eL (Box.mk eX eY eW eH) (Zc.mk (Pane.mk epW epH epT epK) eC) (Zh.mk eo ea ep et ek))=t at *
 cases t with
 | none=>
  unfold cpV at e1 ⊢
  refine Zd Xs Ms Zw Qr (by show 2≤_;decide) ?_
  simp +contextual -implicitDefEqProofs (maxSteps:=10^7) only[go_sem,seval,↓gZ,Zw,e1]
 | some t=>
  unfold cpV at e1 ⊢
  obtain⟨a,b,c,d,f⟩:=t
  simp only at e1 ⊢
  refine Zd Xs Ms Zw Qr (by show 2≤_;decide) ?_
  simp +contextual -implicitDefEqProofs (maxSteps:=10^7) only[go_sem,seval,↓gZ,Zw,e1]
theorem Zrb (sS:List Zb) (sO sD:List Zc) (sL sC:Int) (eK eL eX eY eW eH epW epH:Int) (epT:Bool) (epK eC eo ea ep:Int) (et:Bool) (ek:List Zh) (h0:¬eK=0) (h1:¬eK=1) (h2:¬eK=2) (h3:¬eK=3) (h4:¬eK=4) (h5:¬eK=5):Zg Xs Ms ZG [.ptr 0 0,(.d (.agg [J eK,J eL,J eX,J eY,J eW,J eH,J epW,J epH,.bool epT,J epK,J eC,J eo,J ea,J ep,.bool et,.sl (ek.map Zh.enc)]))] [.box [.own 1,.own 2,.own 3,(.d (J sL)),(.d (J sC))],.deep 4 4 (sS.map Zb.enc) none,.row 5 (sO.map Zc.enc) true false,.row 5 (sD.map Zc.enc) true false]=some ((.d (.bool false)),[.box [.own 1,.own 2,.own 3,(.d (J sL)),(.d (J sC))],.deep 4 4 (sS.map Zb.enc) none,.row 5 (sO.map Zc.enc) true false,.row 5 (sD.map Zc.enc) true false]):=by
 refine Zd Xs Ms Zw Qr (by show 2≤_;decide) ?_
 simp +contextual -implicitDefEqProofs (maxSteps:=10^7) only[go_sem,seval,↓gZ,Zw,h0,h1,h2,h3,h4,h5]
theorem ZnU (sS:List Zb) (sO sD:List Zc) (sL sC:Int) (eK eL eX eY eW eH epW epH:Int) (epT:Bool) (epK eC eo ea ep:Int) (et:Bool) (ek:List Zh) (hv:¬ZL (Zo.mk sS sO sD sL sC)):Zg Xs Ms Z1 [(.d (.agg [.sl (sS.map Zb.enc),.sl (sO.map Zc.enc),.sl (sD.map Zc.enc),J sL,J sC])),(.d (.agg [J eK,J eL,J eX,J eY,J eW,J eH,J epW,J epH,.bool epT,J epK,J eC,J eo,J ea,J ep,.bool et,.sl (ek.map Zh.enc)]))] []=some (shV none):=by
 have e1:=Qc sS sO sD sL sC
 rw[decide_eq_false hv] at e1
 unfold shV
 refine Zd Xs Ms ZA QC (by show 2≤_;decide) ?_
 simp +contextual -implicitDefEqProofs (maxSteps:=10^7) only[go_sem,seval,↓gZ,ZA,e1]
theorem YA (sS:List Zb) (sO sD:List Zc) (sL sC:Int) (eK eL eX eY eW eH epW epH:Int) (epT:Bool) (epK eC eo ea ep:Int) (et:Bool) (ek:List Zh) (hv:ZL (Zo.mk sS sO sD sL sC)) (hc:Zg Xs Ms ZG [.ptr 0 0,(.d (.agg [J eK,J eL,J eX,J eY,J eW,J eH,J epW,J epH,.bool epT,J epK,J eC,J eo,J ea,J ep,.bool et,.sl (ek.map Zh.enc)]))] [.box [.own 1,.own 2,.own 3,(.d (J sL)),(.d (J sC))],.deep 4 4 (sS.map Zb.enc) none,.row 5 (sO.map Zc.enc) true false,.row 5 (sD.map Zc.enc) true false]=some ((.d (.bool false)),[.box [.own 1,.own 2,.own 3,(.d (J sL)),(.d (J sC))],.deep 4 4 (sS.map Zb.enc) none,.row 5 (sO.map Zc.enc) true false,.row 5 (sD.map Zc.enc) true false])):Zg Xs Ms Z1 [(.d (.agg [.sl (sS.map Zb.enc),.sl (sO.map Zc.enc),.sl (sD.map Zc.enc),J sL,J sC])),(.d (.agg [J eK,J eL,J eX,J eY,J eW,J eH,J epW,J epH,.bool epT,J epK,J eC,J eo,J ea,J ep,.bool et,.sl (ek.map Zh.enc)]))] []=some (shV none):=by
 have e1:=Qc sS sO sD sL sC
 rw[decide_eq_true hv] at e1
 have e2:=Uo sS sO sD sL sC (UZ hv)
 unfold shV
 refine Zd Xs Ms ZA QC (by show 2≤_;decide) ?_
 simp +contextual -implicitDefEqProofs (maxSteps:=10^7) only[go_sem,seval,↓gZ,ZA,e1,e2,hc]
theorem Zi7 (sS:List Zb) (sO sD:List Zc) (sL sC:Int) (eK eL eX eY eW eH epW epH:Int) (epT:Bool) (epK eC eo ea ep:Int) (et:Bool) (ek:List Zh) (hv:ZL (Zo.mk sS sO sD sL sC)) (tS:List Zb) (tO tD:List Zc) (tL tC:Int) (hc:Zg Xs Ms ZG [.ptr 0 0,(.d (.agg [J eK,J eL,J eX,J eY,J eW,J eH,J epW,J epH,.bool epT,J epK,J eC,J eo,J ea,J ep,.bool et,.sl (ek.map Zh.enc)]))] [.box [.own 1,.own 2,.own 3,(.d (J sL)),(.d (J sC))],.deep 4 4 (sS.map Zb.enc) none,.row 5 (sO.map Zc.enc) true false,.row 5 (sD.map Zc.enc) true false]=some ((.d (.bool true)),[.box [.own 4,.own 2,.own 3,(.d (J tL)),(.d (J tC))],.deep 4 4 (sS.map Zb.enc) none,.row 5 (sO.map Zc.enc) true false,.row 5 (sD.map Zc.enc) true false,.row 4 (tS.map Zb.enc) true false])):Zg Xs Ms Z1 [(.d (.agg [.sl (sS.map Zb.enc),.sl (sO.map Zc.enc),.sl (sD.map Zc.enc),J sL,J sC])),(.d (.agg [J eK,J eL,J eX,J eY,J eW,J eH,J epW,J epH,.bool epT,J epK,J eC,J eo,J ea,J ep,.bool et,.sl (ek.map Zh.enc)]))] []=some (shV (V2 (some ⟨tS,sO,sD,tL,tC⟩))):=by
 have e1:=Qc sS sO sD sL sC
 rw[decide_eq_true hv] at e1
 have e2:=Uo sS sO sD sL sC (UZ hv)
 have e3:=Qc tS sO sD tL tC
 unfold V2
 by_cases hvt:ZL ⟨tS,sO,sD,tL,tC⟩
 ·rw[decide_eq_true hvt] at e3
  simp only[if_pos hvt]
  unfold shV
  refine Zd Xs Ms ZA QC (by show 2≤_;decide) ?_
  simp +contextual -implicitDefEqProofs (maxSteps:=10^7) only[go_sem,seval,↓gZ,ZA,e1,e2,hc,e3]
 ·rw[decide_eq_false hvt] at e3
  simp only[if_neg hvt]
  unfold shV
  refine Zd Xs Ms ZA QC (by show 2≤_;decide) ?_
  simp +contextual -implicitDefEqProofs (maxSteps:=10^7) only[go_sem,seval,↓gZ,ZA,e1,e2,hc,e3]
theorem Zo7 (sS:List Zb) (sO sD:List Zc) (sL sC:Int) (eK eL eX eY eW eH epW epH:Int) (epT:Bool) (epK eC eo ea ep:Int) (et:Bool) (ek:List Zh) (hv:ZL (Zo.mk sS sO sD sL sC)) (tS:List Zb) (tO tD:List Zc) (tL tC:Int) (hc:Zg Xs Ms ZG [.ptr 0 0,(.d (.agg [J eK,J eL,J eX,J eY,J eW,J eH,J epW,J epH,.bool epT,J epK,J eC,J eo,J ea,J ep,.bool et,.sl (ek.map Zh.enc)]))] [.box [.own 1,.own 2,.own 3,(.d (J sL)),(.d (J sC))],.deep 4 4 (sS.map Zb.enc) none,.row 5 (sO.map Zc.enc) true false,.row 5 (sD.map Zc.enc) true false]=some ((.d (.bool true)),[.box [.own 1,.own 2,.own 3,(.d (J tL)),(.d (J tC))],.row 4 (tS.map Zb.enc) true false,.row 5 (sO.map Zc.enc) true false,.row 5 (sD.map Zc.enc) true false])):Zg Xs Ms Z1 [(.d (.agg [.sl (sS.map Zb.enc),.sl (sO.map Zc.enc),.sl (sD.map Zc.enc),J sL,J sC])),(.d (.agg [J eK,J eL,J eX,J eY,J eW,J eH,J epW,J epH,.bool epT,J epK,J eC,J eo,J ea,J ep,.bool et,.sl (ek.map Zh.enc)]))] []=some (shV (V2 (some ⟨tS,sO,sD,tL,tC⟩))):=by
 have e1:=Qc sS sO sD sL sC
 rw[decide_eq_true hv] at e1
 have e2:=Uo sS sO sD sL sC (UZ hv)
 have e3:=Qc tS sO sD tL tC
 unfold V2
 by_cases hvt:ZL ⟨tS,sO,sD,tL,tC⟩
 ·rw[decide_eq_true hvt] at e3
  simp only[if_pos hvt]
  unfold shV
  refine Zd Xs Ms ZA QC (by show 2≤_;decide) ?_
  simp +contextual -implicitDefEqProofs (maxSteps:=10^7) only[go_sem,seval,↓gZ,ZA,e1,e2,hc,e3]
 ·rw[decide_eq_false hvt] at e3
  simp only[if_neg hvt]
  unfold shV
  refine Zd Xs Ms ZA QC (by show 2≤_;decide) ?_
  simp +contextual -implicitDefEqProofs (maxSteps:=10^7) only[go_sem,seval,↓gZ,ZA,e1,e2,hc,e3]
theorem Zo8 (sS:List Zb) (sO sD:List Zc) (sL sC:Int) (eK eL eX eY eW eH epW epH:Int) (epT:Bool) (epK eC eo ea ep:Int) (et:Bool) (ek:List Zh) (hv:ZL (Zo.mk sS sO sD sL sC)) (tS:List Zb) (tO tD:List Zc) (tL tC:Int) (hc:Zg Xs Ms ZG [.ptr 0 0,(.d (.agg [J eK,J eL,J eX,J eY,J eW,J eH,J epW,J epH,.bool epT,J epK,J eC,J eo,J ea,J ep,.bool et,.sl (ek.map Zh.enc)]))] [.box [.own 1,.own 2,.own 3,(.d (J sL)),(.d (J sC))],.deep 4 4 (sS.map Zb.enc) none,.row 5 (sO.map Zc.enc) true false,.row 5 (sD.map Zc.enc) true false]=some ((.d (.bool true)),[.box [.own 1,.own 4,.own 3,(.d (J tL)),(.d (J tC))],.deep 4 4 (sS.map Zb.enc) none,.row 5 (sO.map Zc.enc) true false,.row 5 (sD.map Zc.enc) true false,.row 5 (tO.map Zc.enc) true false])):Zg Xs Ms Z1 [(.d (.agg [.sl (sS.map Zb.enc),.sl (sO.map Zc.enc),.sl (sD.map Zc.enc),J sL,J sC])),(.d (.agg [J eK,J eL,J eX,J eY,J eW,J eH,J epW,J epH,.bool epT,J epK,J eC,J eo,J ea,J ep,.bool et,.sl (ek.map Zh.enc)]))] []=some (shV (V2 (some ⟨sS,tO,sD,tL,tC⟩))):=by
 have e1:=Qc sS sO sD sL sC
 rw[decide_eq_true hv] at e1
 have e2:=Uo sS sO sD sL sC (UZ hv)
 have e3:=Qc sS tO sD tL tC
 unfold V2
 by_cases hvt:ZL ⟨sS,tO,sD,tL,tC⟩
 ·rw[decide_eq_true hvt] at e3
  simp only[if_pos hvt]
  unfold shV
  refine Zd Xs Ms ZA QC (by show 2≤_;decide) ?_
  simp +contextual -implicitDefEqProofs (maxSteps:=10^7) only[go_sem,seval,↓gZ,ZA,e1,e2,hc,e3]
 ·rw[decide_eq_false hvt] at e3
  simp only[if_neg hvt]
  unfold shV
  refine Zd Xs Ms ZA QC (by show 2≤_;decide) ?_
  simp +contextual -implicitDefEqProofs (maxSteps:=10^7) only[go_sem,seval,↓gZ,ZA,e1,e2,hc,e3]
theorem Zo9 (sS:List Zb) (sO sD:List Zc) (sL sC:Int) (eK eL eX eY eW eH epW epH:Int) (epT:Bool) (epK eC eo ea ep:Int) (et:Bool) (ek:List Zh) (hv:ZL (Zo.mk sS sO sD sL sC)) (tS:List Zb) (tO tD:List Zc) (tL tC:Int) (hc:Zg Xs Ms ZG [.ptr 0 0,(.d (.agg [J eK,J eL,J eX,J eY,J eW,J eH,J epW,J epH,.bool epT,J epK,J eC,J eo,J ea,J ep,.bool et,.sl (ek.map Zh.enc)]))] [.box [.own 1,.own 2,.own 3,(.d (J sL)),(.d (J sC))],.deep 4 4 (sS.map Zb.enc) none,.row 5 (sO.map Zc.enc) true false,.row 5 (sD.map Zc.enc) true false]=some ((.d (.bool true)),[.box [.own 1,.own 4,.own 5,(.d (J tL)),(.d (J tC))],.deep 4 4 (sS.map Zb.enc) none,.row 5 (sO.map Zc.enc) true false,.row 5 (sD.map Zc.enc) true false,.row 5 (tO.map Zc.enc) true false,.row 5 (tD.map Zc.enc) true false])):Zg Xs Ms Z1 [(.d (.agg [.sl (sS.map Zb.enc),.sl (sO.map Zc.enc),.sl (sD.map Zc.enc),J sL,J sC])),(.d (.agg [J eK,J eL,J eX,J eY,J eW,J eH,J epW,J epH,.bool epT,J epK,J eC,J eo,J ea,J ep,.bool et,.sl (ek.map Zh.enc)]))] []=some (shV (V2 (some ⟨sS,tO,tD,tL,tC⟩))):=by
 have e1:=Qc sS sO sD sL sC
 rw[decide_eq_true hv] at e1
 have e2:=Uo sS sO sD sL sC (UZ hv)
 have e3:=Qc sS tO tD tL tC
 unfold V2
 by_cases hvt:ZL ⟨sS,tO,tD,tL,tC⟩
 ·rw[decide_eq_true hvt] at e3
  simp only[if_pos hvt]
  unfold shV
  refine Zd Xs Ms ZA QC (by show 2≤_;decide) ?_
  simp +contextual -implicitDefEqProofs (maxSteps:=10^7) only[go_sem,seval,↓gZ,ZA,e1,e2,hc,e3]
 ·rw[decide_eq_false hvt] at e3
  simp only[if_neg hvt]
  unfold shV
  refine Zd Xs Ms ZA QC (by show 2≤_;decide) ?_
  simp +contextual -implicitDefEqProofs (maxSteps:=10^7) only[go_sem,seval,↓gZ,ZA,e1,e2,hc,e3]
theorem Zpa (sS:List Zb) (sO sD:List Zc) (sL sC:Int) (eK eL eX eY eW eH epW epH:Int) (epT:Bool) (epK eC eo ea ep:Int) (et:Bool) (ek:List Zh) (hv:ZL (Zo.mk sS sO sD sL sC)) (tS:List Zb) (tO tD:List Zc) (tL tC:Int) (hc:Zg Xs Ms ZG [.ptr 0 0,(.d (.agg [J eK,J eL,J eX,J eY,J eW,J eH,J epW,J epH,.bool epT,J epK,J eC,J eo,J ea,J ep,.bool et,.sl (ek.map Zh.enc)]))] [.box [.own 1,.own 2,.own 3,(.d (J sL)),(.d (J sC))],.deep 4 4 (sS.map Zb.enc) none,.row 5 (sO.map Zc.enc) true false,.row 5 (sD.map Zc.enc) true false]=some ((.d (.bool true)),[.box [.own 4,.own 5,.own 6,(.d (J tL)),(.d (J tC))],.deep 4 4 (sS.map Zb.enc) none,.row 5 (sO.map Zc.enc) true false,.row 5 (sD.map Zc.enc) true false,.row 4 (tS.map Zb.enc) true false,.row 5 (tO.map Zc.enc) true false,.row 5 (tD.map Zc.enc) true false])):Zg Xs Ms Z1 [(.d (.agg [.sl (sS.map Zb.enc),.sl (sO.map Zc.enc),.sl (sD.map Zc.enc),J sL,J sC])),(.d (.agg [J eK,J eL,J eX,J eY,J eW,J eH,J epW,J epH,.bool epT,J epK,J eC,J eo,J ea,J ep,.bool et,.sl (ek.map Zh.enc)]))] []=some (shV (V2 (some ⟨tS,tO,tD,tL,tC⟩))):=by
 have e1:=Qc sS sO sD sL sC
 rw[decide_eq_true hv] at e1
 have e2:=Uo sS sO sD sL sC (UZ hv)
 have e3:=Qc tS tO tD tL tC
 unfold V2
 by_cases hvt:ZL ⟨tS,tO,tD,tL,tC⟩
 ·rw[decide_eq_true hvt] at e3
  simp only[if_pos hvt]
  unfold shV
  refine Zd Xs Ms ZA QC (by show 2≤_;decide) ?_
  simp +contextual -implicitDefEqProofs (maxSteps:=10^7) only[go_sem,seval,↓gZ,ZA,e1,e2,hc,e3]
 ·rw[decide_eq_false hvt] at e3
  simp only[if_neg hvt]
  unfold shV
  refine Zd Xs Ms ZA QC (by show 2≤_;decide) ?_
  simp +contextual -implicitDefEqProofs (maxSteps:=10^7) only[go_sem,seval,↓gZ,ZA,e1,e2,hc,e3]
theorem Uj (sS:List Zb) (sO sD:List Zc) (sL sC:Int) (eK eL eX eY eW eH epW epH:Int) (epT:Bool) (epK eC eo ea ep:Int) (et:Bool) (ek:List Zh):Zg Xs Ms Z1 [(.d (.agg [.sl (sS.map Zb.enc),.sl (sO.map Zc.enc),.sl (sD.map Zc.enc),J sL,J sC])),(.d (.agg [J eK,J eL,J eX,J eY,J eW,J eH,J epW,J epH,.bool epT,J epK,J eC,J eo,J ea,J ep,.bool et,.sl (ek.map Zh.enc)]))] []=some (shV (if ZL (Zo.mk sS sO sD sL sC) then QB (Zo.mk sS sO sD sL sC) (Zv.mk eK eL (Box.mk eX eY eW eH) (Zc.mk (Pane.mk epW epH epT epK) eC) (Zh.mk eo ea ep et ek)) else none)):=by
 by_cases hv:ZL (Zo.mk sS sO sD sL sC)
 ·rw[if_pos hv]
  have h20:sS.length≤100000:=by have:=hv.1.1;simp only at this;omega
  by_cases k0:eK=0
  ·by_cases hr:(UC ⟨eL,eW,eH,[]⟩ sS∧eX=0)∧eY=0
   ·have ee:QB (Zo.mk sS sO sD sL sC) (Zv.mk eK eL (Box.mk eX eY eW eH) (Zc.mk (Pane.mk epW epH epT epK) eC) (Zh.mk eo ea ep et ek))=V2 (some (Zo.mk (QL ⟨eL,eW,eH,[]⟩ sS) sO sD sL (sC+eW*eH))):=by unfold QB evS;simp only[k0,hr,if_true,and_self]
    rw[ee]
    exact Zi7 sS sO sD sL sC eK eL eX eY eW eH epW epH epT epK eC eo ea ep et ek hv _ sO sD _ _ (ZoX sS sO sD sL sC eK eL eX eY eW eH epW epH epT epK eC eo ea ep et ek hv k0 hr.1.1 hr.1.2 hr.2)
   ·have ee:QB (Zo.mk sS sO sD sL sC) (Zv.mk eK eL (Box.mk eX eY eW eH) (Zc.mk (Pane.mk epW epH epT epK) eC) (Zh.mk eo ea ep et ek))=none:=by unfold QB evS;simp only[k0,if_true];rw[if_neg hr];rfl
    rw[ee]
    exact YA sS sO sD sL sC eK eL eX eY eW eH epW epH epT epK eC eo ea ep et ek hv (ZoY sS sO sD sL sC eK eL eX eY eW eH epW epH epT epK eC eo ea ep et ek hv k0 h20 hr)
  ·by_cases k1:eK=1
   ·by_cases hf:QK 0 sS eL<0
    ·have ee:QB (Zo.mk sS sO sD sL sC) (Zv.mk eK eL (Box.mk eX eY eW eH) (Zc.mk (Pane.mk epW epH epT epK) eC) (Zh.mk eo ea ep et ek))=none:=by unfold QB evS;simp[k1,Zh4 hf,V2]
     rw[ee]
     exact YA sS sO sD sL sC eK eL eX eY eW eH epW epH epT epK eC eo ea ep et ek hv (Zo0 sS sO sD sL sC eK eL eX eY eW eH epW epH epT epK eC eo ea ep et ek hv k1 h20 hf)
    ·obtain⟨a,x,ha,hx⟩:=ZeE (by omega:0≤QK 0 sS eL)
     have hxv:=(ZY hv.1.2 x (List.mem_of_getElem? hx)).1
     obtain⟨xL,xW,xH,xF⟩:=x
     simp only at hxv
     rw[Zzy hv k1 ha hx]
     exact Zo7 sS sO sD sL sC eK eL eX eY eW eH epW epH epT epK eC eo ea ep et ek hv _ sO sD _ _ (ZoZ sS sO sD sL sC eK eL eX eY eW eH epW epH epT epK eC eo ea ep et ek hv k1 h20 a ha xL xW xH xF hx (by omega))
   ·by_cases k5:eK=5
    ·by_cases hf:QK 0 sS eL<0
     ·have ee:QB (Zo.mk sS sO sD sL sC) (Zv.mk eK eL (Box.mk eX eY eW eH) (Zc.mk (Pane.mk epW epH epT epK) eC) (Zh.mk eo ea ep et ek))=none:=by unfold QB evS;simp[k5,Zh4 hf,V2]
      rw[ee]
      exact YA sS sO sD sL sC eK eL eX eY eW eH epW epH epT epK eC eo ea ep et ek hv (Zo6 sS sO sD sL sC eK eL eX eY eW eH epW epH epT epK eC eo ea ep et ek hv k5 hf)
     ·obtain⟨a,x,ha,hx⟩:=ZeE (by omega:0≤QK 0 sS eL)
      obtain⟨xL,xW,xH,xF⟩:=x
      have ee:QB (Zo.mk sS sO sD sL sC) (Zv.mk eK eL (Box.mk eX eY eW eH) (Zc.mk (Pane.mk epW epH epT epK) eC) (Zh.mk eo ea ep et ek))=V2 (some (Zo.mk (sS.eraseIdx a) sO sD (sL+xW*xH) sC)):=by unfold QB evS;simp[k5,Zdu ha hx]
      rw[ee]
      exact Zi7 sS sO sD sL sC eK eL eX eY eW eH epW epH epT epK eC eo ea ep et ek hv _ sO sD _ _ (Zo5 sS sO sD sL sC eK eL eX eY eW eH epW epH epT epK eC eo ea ep et ek hv k5 a ha xL xW xH xF hx)
    ·by_cases k2:eK=2
     ·by_cases hl:Ui ⟨⟨epW,epH,epT,epK⟩,eC⟩
      ·have ee:QB (Zo.mk sS sO sD sL sC) (Zv.mk eK eL (Box.mk eX eY eW eH) (Zc.mk (Pane.mk epW epH epT epK) eC) (Zh.mk eo ea ep et ek))=V2 (some (Zo.mk sS (Y6 ⟨epW,epH,epT,epK⟩ eC sO) sD sL sC)):=by unfold QB evS;simp[k2,hl]
       rw[ee]
       exact Zo8 sS sO sD sL sC eK eL eX eY eW eH epW epH epT epK eC eo ea ep et ek hv sS _ sD _ _ (Zo1 sS sO sD sL sC eK eL eX eY eW eH epW epH epT epK eC eo ea ep et ek hv k2 hl)
      ·have ee:QB (Zo.mk sS sO sD sL sC) (Zv.mk eK eL (Box.mk eX eY eW eH) (Zc.mk (Pane.mk epW epH epT epK) eC) (Zh.mk eo ea ep et ek))=none:=by unfold QB evS;simp[k2,hl,V2]
       rw[ee]
       exact YA sS sO sD sL sC eK eL eX eY eW eH epW epH epT epK eC eo ea ep et ek hv (Zo2 sS sO sD sL sC eK eL eX eY eW eH epW epH epT epK eC eo ea ep et ek hv k2 hl)
     ·by_cases k4:eK=4
      ·by_cases hl:Ui ⟨⟨epW,epH,epT,epK⟩,eC⟩∧XI ⟨epW,epH,epT,epK⟩ eC false sD=true
       ·have ee:QB (Zo.mk sS sO sD sL sC) (Zv.mk eK eL (Box.mk eX eY eW eH) (Zc.mk (Pane.mk epW epH epT epK) eC) (Zh.mk eo ea ep et ek))=V2 (some (Zo.mk sS (Y6 ⟨epW,epH,epT,epK⟩ eC sO) (Yr sD ⟨epW,epH,epT,epK⟩ eC) (sL+eC*epW*epH) sC)):=by unfold QB evS;simp[k4,hl]
        rw[ee]
        exact Zo9 sS sO sD sL sC eK eL eX eY eW eH epW epH epT epK eC eo ea ep et ek hv sS _ _ _ _ (Zo3 sS sO sD sL sC eK eL eX eY eW eH epW epH epT epK eC eo ea ep et ek hv k4 hl.1 hl.2)
       ·have ee:QB (Zo.mk sS sO sD sL sC) (Zv.mk eK eL (Box.mk eX eY eW eH) (Zc.mk (Pane.mk epW epH epT epK) eC) (Zh.mk eo ea ep et ek))=none:=by unfold QB evS;simp only[k4];simp[hl,V2]
        rw[ee]
        exact YA sS sO sD sL sC eK eL eX eY eW eH epW epH epT epK eC eo ea ep et ek hv (Zo4 sS sO sD sL sC eK eL eX eY eW eH epW epH epT epK eC eo ea ep et ek hv k4 hl)
      ·by_cases k3:eK=3
       ·have hc:=Zra sS sO sD sL sC eK eL eX eY eW eH epW epH epT epK eC eo ea ep et ek hv k3
        have ee:QB (Zo.mk sS sO sD sL sC) (Zv.mk eK eL (Box.mk eX eY eW eH) (Zc.mk (Pane.mk epW epH epT epK) eC) (Zh.mk eo ea ep et ek))=V2 (ZgL (Zo.mk sS sO sD sL sC) (Zv.mk eK eL (Box.mk eX eY eW eH) (Zc.mk (Pane.mk epW epH epT epK) eC) (Zh.mk eo ea ep et ek))):=by unfold QB evS;simp[k3]
        rw[ee]
        generalize ZgL (Zo.mk sS sO sD sL sC) (Zv.mk eK eL (Box.mk eX eY eW eH) (Zc.mk (Pane.mk epW epH epT epK) eC) (Zh.mk eo ea ep et ek))=t at hc
        cases t with
        | none=>exact YA sS sO sD sL sC eK eL eX eY eW eH epW epH epT epK eC eo ea ep et ek hv hc
        | some t=>
         obtain⟨a,b,c,d,f⟩:=t
         exact Zpa sS sO sD sL sC eK eL eX eY eW eH epW epH epT epK eC eo ea ep et ek hv a b c d f hc
       ·have ee:QB (Zo.mk sS sO sD sL sC) (Zv.mk eK eL (Box.mk eX eY eW eH) (Zc.mk (Pane.mk epW epH epT epK) eC) (Zh.mk eo ea ep et ek))=none:=by unfold QB evS;simp[k0,k1,k2,k3,k4,k5,V2]
        rw[ee]
        exact YA sS sO sD sL sC eK eL eX eY eW eH epW epH epT epK eC eo ea ep et ek hv (Zrb sS sO sD sL sC eK eL eX eY eW eH epW epH epT epK eC eo ea ep et ek k0 k1 k2 k3 k4 k5)
 ·rw[if_neg hv]
  exact ZnU sS sO sD sL sC eK eL eX eY eW eH epW epH epT epK eC eo ea ep et ek hv
theorem Zf4 (p:Pane) (c:Int):∀ (l:List Zc),Qg (Y6 p c l)=Qg l+c
 | []=>by simp[Y6,Qg]
 | x :: l=>by
  unfold Y6
  split
  ·simp only[Qg];omega
  ·simp only[Qg,Zf4 p c l];omega
theorem Zwl:∀ {l:List Zc} {a:Nat} {x y:Zc},l[a]?=some x→Qg (l.set a y)=Qg l-x.Count+y.Count
 | [],a,x,y,h=>by simp at h
 | z :: l,0,x,y,h=>by
  simp only[List.getElem?_cons_zero,Option.some.injEq] at h
  subst h
  simp only[List.set_cons_zero,Qg];omega
 | z :: l,a+1,x,y,h=>by
  simp only[List.getElem?_cons_succ] at h
  simp only[List.set_cons_succ,Qg,Zwl h];omega
theorem Zrc:∀ {l:List Zc} {a:Nat} {x:Zc},l[a]?=some x→Qg (l.eraseIdx a)=Qg l-x.Count
 | [],a,x,h=>by simp at h
 | z :: l,0,x,h=>by
  simp only[List.getElem?_cons_zero,Option.some.injEq] at h
  subst h
  simp only[List.eraseIdx_cons_zero,Qg];omega
 | z :: l,a+1,x,h=>by
  simp only[List.getElem?_cons_succ] at h
  simp only[List.eraseIdx_cons_succ,Qg,Zrc h];omega
theorem Zrd {l:List Zc} {p:Pane} {c:Int} (hu:UL l) (h:XI p c false l=true):Qg (Yr l p c)=Qg l-c:=by
 by_cases hf:WL 0 l p<0
 ·rw[ZkJ (Zm1 hf)] at h;cases h
 ·obtain⟨a,x,h1,h2,h3,h4⟩:=ZkI (by omega:0≤WL 0 l p)
  obtain⟨k1,k2⟩:=Zq4 (c:=c) hu h2 h3
  rw[k1,decide_eq_true_eq] at h
  rw[k2]
  split
  ·rw[Zwl h2];simp only;omega
  ·rw[Zrc h2];omega
theorem ZnV:∀ {ps:List Pane} {us:List Int} {o d o' d' : List Zc},us.length=ps.length→Wt ps us o d=some (o',d')→UL o→(∀ v∈us,0≤v) →
  Qg o'+Qg d'=Qg o+Qg d∧Qg d≤Qg d'∧((∃ v∈us,v≠0)→Qg d<Qg d')
 | [],us,o,d,o',d',hl,h,hu,hv=>by
  cases us with
  | nil=>unfold Wt at h;cases h;simp
  | cons c us=>simp at hl
 | p :: ps,[],o,d,o',d',hl,h,hu,hv=>by simp at hl
 | p :: ps,c :: us,o,d,o',d',hl,h,hu,hv=>by
  rw[Wt] at h
  simp only[List.length_cons,Nat.add_right_cancel_iff] at hl
  have hc:=hv c (by simp)
  split at h
  ·rename_i h0
   obtain⟨a,b,e⟩:=ZnV hl h hu (fun v h=>hv v (by simp[h]))
   refine⟨a,b,fun ⟨v,hm,hn⟩=>?_⟩
   rcases List.mem_cons.1 hm with rfl | hm
   ·exact absurd h0 hn
   ·exact e ⟨v,hm,hn⟩
  ·rename_i h0
   split at h
   ·rename_i ht
    obtain⟨a,b,e⟩:=ZnV hl h (Zq5 hu) (fun v h=>hv v (by simp[h]))
    rw[Zrd hu ht,Zf4] at a
    rw[Zf4] at b
    exact⟨by omega,by omega,fun _=>by omega⟩
   ·cases h
structure AFacts (s:Zo) (e:Zv) (t:Zo):Prop where
 vs:ZL t
 came:t.Came=s.Came+(if e.kind=0 then e.box.W*e.box.H else 0)
 lost:s.Lost≤t.Lost
 cnt:Qg t.Opn+Qg t.Done=Qg s.Opn+Qg s.Done+(if e.kind=2 then e.line.Count else 0)
 lt:Qg t.Done<Qg s.Done↔e.kind=4
 gt:Qg s.Done<Qg t.Done↔e.kind=3
 sheet:e.kind=0→UC ⟨e.label,e.box.W,e.box.H,[]⟩ s.Stock∧e.box.X=0∧e.box.Y=0∧t = { s with Stock:=QL ⟨e.label,e.box.W,e.box.H,[]⟩ s.Stock,Came:=s.Came+e.box.W*e.box.H }
 ord:e.kind=2→Ui e.line
theorem Zwm {s t:Zo} {e:Zv} (h:QB s e=some t):evS s e=some t∧ZL t:=by
 have hv:=U0 h
 unfold QB V2 at h
 split at h
 ·split at h
  ·cases h;exact⟨by assumption,hv⟩
  ·cases h
 ·cases h
theorem ZlU {s t:Zo} {e:Zv} (hs:ZL s) (h:QB s e=some t):AFacts s e t:=by
 obtain⟨h,hv⟩:=Zwm h
 unfold evS at h
 split at h
 ·rename_i k
  split at h
  ·rename_i hr
   cases h
   exact⟨hv,by simp[k],Int.le_refl _,by simp[k],by simp[k],by simp[k],fun _=>⟨hr.1.1,hr.1.2,hr.2,rfl⟩,fun h=>by omega⟩
  ·cases h
 ·rename_i k0
  split at h
  ·rename_i k
   split at h
   ·cases h
   ·split at h
    ·cases h
     exact⟨hv,by simp[k],Int.le_refl _,by simp[k],by simp[k],by simp[k],fun h=>absurd h k0,fun h=>by omega⟩
    ·cases h
  ·rename_i k1
   split at h
   ·rename_i k
    split at h
    ·cases h
    ·rename_i a q hq
     cases h
     have hqm:q∈s.Stock:=by
      unfold Zwa at hq
      split at hq
      ·obtain⟨x,hx,e⟩:=Option.map_eq_some_iff.1 hq
       cases e
       exact List.mem_of_getElem? hx
      ·cases hq
     have hqv:=(ZY hs.1.2 q hqm).1
     have:=Jy (b:=⟨0,0,q.W,q.H⟩) (by simp only[VB];omega)
     simp only at this
     exact⟨hv,by simp[k],by simp only;omega,by simp[k],by simp[k],by simp[k],fun h=>absurd h k0,fun h=>by omega⟩
   ·rename_i k5
    split at h
    ·rename_i k
     split at h
     ·rename_i hl
      cases h
      have hc:=hl.2
      refine⟨hv,by simp[k],Int.le_refl _,?_,by simp[k],by simp[k],fun h=>absurd h k0,fun _=>hl⟩
      simp only[Zf4,k,if_true];omega
     ·cases h
    ·rename_i k2
     split at h
     ·rename_i k
      split at h
      ·rename_i hl
       cases h
       have hc:=hl.1.2
       have ha:=Zf3 hl.1
       have h1:=Zrd (ZiO hs.2.2.1) hl.2
       refine⟨hv,by simp[k],by simp only;omega,?_,?_,?_,fun h=>absurd h k0,fun h=>absurd h k2⟩
       ·simp only[Zf4,h1,k];simp;omega
       ·simp only[h1,k,iff_true];omega
       ·simp only[h1,k];omega
      ·cases h
     ·rename_i k4
      split at h
      ·rename_i k
       unfold ZgL at h
       split at h
       ·cases h
       ·rename_i x hx
        split at h
        ·cases h
        ·rename_i R hR
         obtain⟨hvp,_,_⟩:=ZmV hR
         split at h
         ·rename_i hp
          split at h
          ·cases h
          ·rename_i o d hg
           cases h
           have hu:=Zg2 hvp
           have hpos:=ZtC hvp hp
           obtain⟨a,b,c⟩:=ZnV (by rw[hu.1]) hg (ZiO hs.2.1) (fun v h=>(hu.2 v h).1)
           have c:=c hpos
           have hla:=ZhW (l:=ZgX ⟨x.W,x.H,s.Opn.map Zc.Pane⟩ e.plan 5) (fun c hc=>by
            obtain⟨z,hz,hzc⟩:=List.mem_filterMap.1 hc
            unfold Zah at hzc
            split at hzc
            ·cases hzc;exact Zf1 hvp c hz
            ·cases hzc)
           refine⟨hv,by simp[k],by simp only;omega,?_,?_,?_,fun h=>absurd h k0,fun h=>absurd h k2⟩
           ·simp only[k];simp;omega
           ·simp only[k];omega
           ·simp only[k,iff_true];omega
         ·cases h
      ·cases h
theorem Zg5 (a:List Zc) (ha:a.length<4611686018427387904):Zg Xs Ms Y9 [(.d (.sl (a.map Zc.enc))),(.d (.sl (a.map Zc.enc)))] []=some ((.d (.bool true)),[]):=by
 refine Zd Xs Ms Jg Zro (by show 2≤_;decide) ?_
 simp +contextual -implicitDefEqProofs (maxSteps:=10^7) only[go_sem,seval,↓gZ,Jg]
 refine Zr Xs Ms (st0:=?st0) (α:=Nat) (fun k=>[(5,.d (J (k:Int)))]) (fun _=>[]) (fun k=>k≤a.length) (fun k=>a.length-k) 0 ?hc (by omega) ?h0 ?step
 case hc=>simp +contextual -implicitDefEqProofs (maxSteps:=10^7) only[go_sem,seval,↓gZ]<;>exact rfl
 case h0=>rfl
 case step=>
  intro k hk ih
  by_cases hlt:k<a.length
  ·obtain⟨x,hx⟩:=Zp hlt
   have hw:=Zk (k:=k) (by omega)
   simp +contextual -implicitDefEqProofs (maxSteps:=10^7) only[go_sem,seval,↓gZ,hx,hlt,hw]
   refine ih (k+1) _ (by omega) (by omega) ?_
   simp +contextual -implicitDefEqProofs (maxSteps:=10^7) only[go_sem,seval,↓gZ]
  ·have:k=a.length:=by omega
   subst this
   simp +contextual -implicitDefEqProofs (maxSteps:=10^7) only[go_sem,seval,↓gZ]
theorem JC (sS:List Zb) (sO sD:List Zc) (sL sC:Int) (hs:Zbv (Zo.mk sS sO sD sL sC)):Zg Xs Ms Xa [(.d (.agg [.sl (sS.map Zb.enc),.sl (sO.map Zc.enc),.sl (sD.map Zc.enc),J sL,J sC])),(.d (.agg [.sl (sS.map Zb.enc),.sl (sO.map Zc.enc),.sl (sD.map Zc.enc),J sL,J sC]))] []=some ((.d (.bool true)),[]):=by
 obtain⟨h1,h2,h3,h4⟩:=hs
 simp only at h1 h2 h3 h4
 have e1:=ZoM sS sS (by omega) (fun x hx=>by have:=(h2 x hx).1;omega)
 rw[decide_eq_true rfl] at e1
 have e2:=Zg5 sO (by omega)
 have e3:=Zg5 sD (by omega)
 refine Zd Xs Ms Zav Zsd (by show 2≤_;decide) ?_
 simp +contextual -implicitDefEqProofs (maxSteps:=10^7) only[go_sem,seval,↓gZ,Zav,e1,e2,e3]
theorem Zdw (l:List Zc) (h:Zdb l):Zg Xs Ms Wv [(.d (.sl (l.map Zc.enc)))] []=some ((.d (J (Qg l))),[]):=by
 have h8:=h.1
 have hb:=h.2.2
 have hall:=fun x hx=>(Qb h x hx).2.1
 refine Zd Xs Ms Zic ZzA (by show 1≤_;decide) ?_
 simp +contextual -implicitDefEqProofs (maxSteps:=10^7) only[go_sem,seval,↓gZ,Zic]
 refine Zr Xs Ms (st0:=?st0) (α:=Nat) (fun k=>[(4,.d (J (k:Int))),(3,.d (J (Qg (l.take k))))]) (fun _=>[]) (fun k=>k≤l.length) (fun k=>l.length-k) 0 ?hc (by omega) ?h0 ?step
 case hc=>simp +contextual -implicitDefEqProofs (maxSteps:=10^7) only[go_sem,seval,↓gZ]<;>exact rfl
 case h0=>rfl
 case step=>
  intro k hk ih
  by_cases hlt:k<l.length
  ·obtain⟨x,hx⟩:=Zp hlt
   have hw:=Zk (k:=k) (by omega)
   have ht:=ZnK hx
   have h1:=ZjR (i:=k) hall
   have h2:=ZjR (i:=k+1) hall
   have h3:=UY (l:=l.take k) (fun y hy=>hall y (List.mem_of_mem_take hy))
   have hx1:=hall x (List.mem_of_getElem? hx)
   obtain⟨⟨W,H,T,K⟩,C⟩:=x
   simp only at ht hx1
   have u0:=wi (Qg (l.take k)+C) (by omega) (by omega)
   simp +contextual -implicitDefEqProofs (maxSteps:=10^7) only[go_sem,seval,↓gZ,hx,hlt,hw,u0]
   refine ih (k+1) _ (by omega) (by omega) ?_
   simp +contextual -implicitDefEqProofs (maxSteps:=10^7) only[go_sem,seval,↓gZ,ht]
  ·have:k=l.length:=by omega
   subst this
   simp +contextual -implicitDefEqProofs (maxSteps:=10^7) only[go_sem,seval,↓gZ,List.take_length]
def EvI (e:Zv):Prop:=e.kind=0→I5 e.box.W∧I5 e.box.H
def runL:Zo→List Zv→Option Zo
 | s,[]=>some s
 | s,e :: l=>match QB s e with
  | some t=>runL t l
  | none=>none
def ZnW (l:List Zv):Option Zo:=if l.length≤40 then runL ⟨[],[],[],0,0⟩ l else none
theorem ZtE {s:Zo} {l:List Zv} {k:Nat} {e:Zv} (hx:l[k]?=some e):runL s (l.drop k)=match QB s e with
  | some t=>runL t (l.drop (k+1))
  | none=>none:=by
 obtain⟨h1,h2⟩:=List.getElem?_eq_some_iff.1 hx
 rw[List.drop_eq_getElem_cons h1,h2,runL]
theorem Zwn {s:Zo} {l:List Zv}:runL s (l.drop l.length)=some s:=by simp[runL]
theorem Zg6:∀ {l m:List Zv} {s:Zo},runL s (l++m)=match runL s l with
  | some t=>runL t m
  | none=>none
 | [],m,s=>by simp[runL]
 | e :: l,m,s=>by
  simp only[List.cons_append,runL]
  cases QB s e with
  | none=>rfl
  | some t=>exact Zg6
theorem ZiP:∀ {l:List Zv} {s t:Zo},ZL s→runL s l=some t→ZL t
 | [],s,t,hv,h=>by cases h;exact hv
 | e :: l,s,t,hv,h=>by
  unfold runL at h
  cases ha:QB s e with
  | none=>rw[ha] at h;cases h
  | some u=>rw[ha] at h;exact ZiP (U0 ha) h
theorem ZtF {l:List Zv} {k:Nat} {e:Zv} {s t:Zo} (hx:l[k]?=some e) (h:runL s l=some t):∃ y u,runL s (l.take k)=some y∧QB y e=some u∧runL s (l.take (k+1))=some u:=by
 have e1:l=l.take k++e :: l.drop (k+1):=by
  obtain⟨h1,h2⟩:=List.getElem?_eq_some_iff.1 hx
  rw[← h2,← List.drop_eq_getElem_cons h1,List.take_append_drop]
 have e2:l.take (k+1)=l.take k++[e]:=by rw[List.take_add_one,hx];rfl
 rw[e1,Zg6] at h
 rw[e2,Zg6]
 cases h3:runL s (l.take k) with
 | none=>rw[h3] at h;cases h
 | some y=>
  rw[h3] at h
  simp only[runL] at h
  cases h4:QB y e with
  | none=>rw[h4] at h;cases h
  | some u=>exact⟨y,u,rfl,h4,by simp[runL,h4]⟩
theorem ZiQ (l:List Zv) (hl:l.length≤1000000):Zg Xs Ms WN [(.d (.sl (l.map Zv.enc)))] []=some (shV (ZnW l)):=by
 by_cases h40:(40:Int)<(l.length:Int)
 ·have hr:ZnW l=none:=by unfold ZnW;rw[if_neg (by omega)]
  rw[hr]
  unfold shV
  refine Zd Xs Ms Jc ZoA (by show 1≤_;decide) ?_
  simp +contextual -implicitDefEqProofs (maxSteps:=10^7) only[go_sem,seval,↓gZ,Jc,h40]
 ·have hr:ZnW l=runL ⟨[],[],[],0,0⟩ l:=by unfold ZnW;rw[if_pos (by omega)]
  rw[hr]
  refine Zd Xs Ms Jc ZoA (by show 1≤_;decide) ?_
  simp +contextual -implicitDefEqProofs (maxSteps:=10^7) only[go_sem,seval,↓gZ,Jc,h40]
  refine Zr Xs Ms (st0:=?st0) (α:=Nat×Zo) (fun s=>[(15,.d (J (s.1:Int)))]) (fun s=>[(0,.box [.own 2,.own 3,.own 4,(.d (J (s.2.Lost))),(.d (J (s.2.Came)))]),(2,.row 4 (s.2.Stock.map Zb.enc) true false),(3,.row 5 (s.2.Opn.map Zc.enc) true false),(4,.row 5 (s.2.Done.map Zc.enc) true false)]) (fun s=>s.1≤l.length∧ZL s.2∧runL s.2 (l.drop s.1)=runL ⟨[],[],[],0,0⟩ l) (fun s=>l.length-s.1) (0,⟨[],[],[],0,0⟩) ?hc ⟨by simp,Y8,by simp⟩ ?h0 ?step
  case hc=>simp +contextual -implicitDefEqProofs (maxSteps:=10^7) only[go_sem,seval,↓gZ]<;>exact rfl
  case h0=>rfl
  case step=>
   intro⟨i,⟨S,O,D,L,C⟩⟩ ⟨hi,hv,hp⟩ ih
   simp only at hi hv hp
   by_cases hlt:i<l.length
   ·obtain⟨e,he⟩:=Zp hlt
    have hw:=Zk (k:=i) (by omega)
    rw[ZtE he] at hp
    obtain⟨K,Lb,⟨X,Y,W,H⟩,⟨⟨pW,pH,pT,pK⟩,Ct⟩,⟨o,a,q,t,ks⟩⟩:=e
    have ea:=Uj S O D L C K Lb X Y W H pW pH pT pK Ct o a q t ks
    rw[if_pos hv] at ea
    cases hap:QB ⟨S,O,D,L,C⟩ ⟨K,Lb,⟨X,Y,W,H⟩,⟨⟨pW,pH,pT,pK⟩,Ct⟩,.mk o a q t ks⟩ with
    | none=>
     rw[hap] at ea hp
     simp only at hp
     unfold shV at ea
     rw[← hp]
     unfold shV
     simp +contextual -implicitDefEqProofs (maxSteps:=10^7) only[go_sem,seval,↓gZ,hlt,he,hw,ea]
    | some u=>
     have hvu:=U0 hap
     rw[hap] at ea hp
     simp only at hp
     obtain⟨S',O',D',L',C'⟩:=u
     unfold shV at ea
     simp only at ea
     simp +contextual -implicitDefEqProofs (maxSteps:=10^7) only[go_sem,seval,↓gZ,hlt,he,hw,ea]
     refine ih (i+1,⟨S',O',D',L',C'⟩) _ ⟨by simp only;omega,hvu,hp⟩ (by simp only;omega) ?_
     simp +contextual -implicitDefEqProofs (maxSteps:=10^7) only[go_sem,seval,↓gZ]
   ·have:i=l.length:=by omega
    subst this
    rw[Zwn] at hp
    rw[← hp]
    unfold shV
    simp +contextual -implicitDefEqProofs (maxSteps:=10^7) only[go_sem,seval,↓gZ]
theorem Zuy (l:List Zv) (hl:l.length≤1000000) (hE:∀ e∈l,EvI e):Zg Xs Ms ZbF [(.d (.sl (l.map Zv.enc)))] []=some (shV (runL ⟨[],[],[],0,0⟩ l)):=by
 refine Zd Xs Ms ZeJ Zwu (by show 1≤_;decide) ?_
 simp +contextual -implicitDefEqProofs (maxSteps:=10^7) only[go_sem,seval,↓gZ,ZeJ]
 refine Zr Xs Ms (st0:=?st0) (α:=Nat×Zo) (fun s=>[(5,.d (J (s.1:Int)))]) (fun s=>[(0,.box [.own 2,.own 3,.own 4,(.d (J (s.2.Lost))),(.d (J (s.2.Came)))]),(2,.row 4 (s.2.Stock.map Zb.enc) true false),(3,.row 5 (s.2.Opn.map Zc.enc) true false),(4,.row 5 (s.2.Done.map Zc.enc) true false)]) (fun s=>s.1≤l.length∧ZL s.2∧runL s.2 (l.drop s.1)=runL ⟨[],[],[],0,0⟩ l) (fun s=>l.length-s.1) (0,⟨[],[],[],0,0⟩) ?hc ⟨by simp,Y8,by simp⟩ ?h0 ?step
 case hc=>simp +contextual -implicitDefEqProofs (maxSteps:=10^7) only[go_sem,seval,↓gZ]<;>exact rfl
 case h0=>rfl
 case step=>
  intro⟨i,⟨S,O,D,L,C⟩⟩ ⟨hi,hv,hp⟩ ih
  simp only at hi hv hp
  by_cases hlt:i<l.length
  ·obtain⟨e,he⟩:=Zp hlt
   have hw:=Zk (k:=i) (by omega)
   have hEe:=hE e (List.mem_of_getElem? he)
   rw[ZtE he] at hp
   obtain⟨K,Lb,⟨X,Y,W,H⟩,⟨⟨pW,pH,pT,pK⟩,Ct⟩,⟨o,a,q,t,ks⟩⟩:=e
   have ea:=Ze3 S O D L C K Lb X Y W H pW pH pT pK Ct o a q t ks hv (fun h=>(hEe h).1) (fun h=>(hEe h).2)
   cases hap:QB ⟨S,O,D,L,C⟩ ⟨K,Lb,⟨X,Y,W,H⟩,⟨⟨pW,pH,pT,pK⟩,Ct⟩,.mk o a q t ks⟩ with
   | none=>
    rw[hap] at ea hp
    simp only at hp
    unfold shV at ea
    rw[← hp]
    unfold shV
    simp +contextual -implicitDefEqProofs (maxSteps:=10^7) only[go_sem,seval,↓gZ,hlt,he,hw,ea]
   | some u=>
    have hvu:=U0 hap
    rw[hap] at ea hp
    simp only at hp
    obtain⟨S',O',D',L',C'⟩:=u
    unfold shV at ea
    simp only at ea
    simp +contextual -implicitDefEqProofs (maxSteps:=10^7) only[go_sem,seval,↓gZ,hlt,he,hw,ea]
    refine ih (i+1,⟨S',O',D',L',C'⟩) _ ⟨by simp only;omega,hvu,hp⟩ (by simp only;omega) ?_
    simp +contextual -implicitDefEqProofs (maxSteps:=10^7) only[go_sem,seval,↓gZ]
  ·have:i=l.length:=by omega
   subst this
   rw[Zwn] at hp
   rw[← hp]
   unfold shV
   simp +contextual -implicitDefEqProofs (maxSteps:=10^7) only[go_sem,seval,↓gZ]
theorem Zm2 (l:List Zv) (hl:l.length≤1000000) (hE:∀ e∈l,EvI e):Zg Xs Ms U5 [(.d (.sl (l.map Zv.enc)))] []=some (shV (ZnW l)):=by
 have e1:=Zuy l hl hE
 unfold ZnW
 by_cases h40:(40:Int)<(l.length:Int)
 ·rw[if_neg (by omega)]
  unfold shV
  refine Zd Xs Ms VS Zj2 (by show 1≤_;decide) ?_
  simp +contextual -implicitDefEqProofs (maxSteps:=10^7) only[go_sem,seval,↓gZ,VS,h40]
 ·rw[if_pos (by omega)]
  cases hr:runL ⟨[],[],[],0,0⟩ l with
  | none=>
   rw[hr] at e1
   unfold shV at e1 ⊢
   refine Zd Xs Ms VS Zj2 (by show 1≤_;decide) ?_
   simp +contextual -implicitDefEqProofs (maxSteps:=10^7) only[go_sem,seval,↓gZ,VS,h40,e1]
  | some u=>
   obtain⟨S',O',D',L',C'⟩:=u
   rw[hr] at e1
   unfold shV at e1 ⊢
   simp only at e1 ⊢
   refine Zd Xs Ms VS Zj2 (by show 1≤_;decide) ?_
   simp +contextual -implicitDefEqProofs (maxSteps:=10^7) only[go_sem,seval,↓gZ,VS,h40,e1]
def PBook2 (bs:List UInt8) (p:Nat) (r:AV×List Zt):Prop:=∃ (out:List Zv) (S:List Zb) (O D:List Zc) (L C:Int) (f:Bool) (p' : Nat),ZL ⟨S,O,D,L,C⟩∧(∀ e∈out,EvI e)∧out.length≤16∧p≤p'∧p'≤p+200 ∧
 r=(.tup [.own 1,.agg [.own 2,.own 3,.own 4,(.d (J L)),(.d (J C))]],[.box [.d (.sl (bs.map WT)),(.d (J (p')))],.row 16 (out.map Zv.enc) true false,.row 4 (S.map Zb.enc) true f,.row 5 (O.map Zc.enc) true f,.row 5 (D.map Zc.enc) true f])
theorem Zre (bs:List UInt8) (hb:bs.length≤2000) (p:Nat) (hp:p<700000000) (most:Int):∃ r,Zg Xs Ms VM [.ptr 0 0,(.d (J most))] [.box [.d (.sl (bs.map WT)),(.d (J p))]]=some r∧PBook2 bs p r:=by
 obtain⟨n,hn,eN⟩:=ZeC bs p [8,12,5,16,0,2] hb (by omega) (by decide)
 have hn' : 0≤n∧n≤16:=by simp only[List.mem_cons,List.not_mem_nil,or_false] at hn;omega
 simp only[List.map_cons,List.map_nil,ZbN] at eN
 refine Zjm Xs Ms W8 Zm5 (by show 2≤_;decide) ?_
 simp +contextual -implicitDefEqProofs (maxSteps:=10^7) only[go_sem,seval,↓gZ,W8,eN]
 refine Zr Xs Ms (st0:=?st0) (α:=Int×List Zv×Zo×Nat×Bool) (fun s=>[(8,.d (J s.1))]) (fun s=>[(0,.box [.d (.sl (bs.map WT)),(.d (J (s.2.2.2.1)))]),(1,.row 16 (s.2.1.map Zv.enc) true false),(2,.box [.own 4,.own 5,.own 6,(.d (J (s.2.2.1.Lost))),(.d (J (s.2.2.1.Came)))]),(4,.row 4 (s.2.2.1.Stock.map Zb.enc) true s.2.2.2.2),(5,.row 5 (s.2.2.1.Opn.map Zc.enc) true s.2.2.2.2),(6,.row 5 (s.2.2.1.Done.map Zc.enc) true s.2.2.2.2)]) (fun s=>0≤s.1∧s.1≤16∧(s.2.1.length:Int)≤16-s.1∧ZL s.2.2.1∧(∀ e∈s.2.1,EvI e)∧p+1≤s.2.2.2.1∧(s.2.2.2.1:Int)≤p+1+10*(16-s.1)) (fun s=>s.1.toNat) (n,[],⟨[],[],[],0,0⟩,p+1,false) ?hc ⟨hn'.1,hn'.2,by simp;omega,Y8,by simp,by simp,by simp;omega⟩ ?h0 ?step
 case hc=>simp +contextual -implicitDefEqProofs (maxSteps:=10^7) only[go_sem,seval,↓gZ]<;>exact rfl
 case h0=>rfl
 case step=>
  intro⟨m,out,⟨S,O,D,L,C⟩,pp,f⟩ ⟨i1,i2,i3,i4,iE,i5,i6⟩ ih
  simp only at i1 i2 i3 i4 iE i5 i6
  by_cases hm:0<m
  ·by_cases ho:(out.length:Int)<most
   ·obtain⟨r,eE,K,Lb,X,Y,W,H,pW,pH,pT,pK,Ct,o,a,q,t,ks,p',g1,g2,g3,rfl⟩:=Zj1 bs hb pp (by omega) S O D L C (ZmW i4)
    have ea:=Ze3 S O D L C K Lb X Y W H pW pH pT pK Ct o a q t ks i4 (fun e=>(g1 e).1) (fun e=>(g1 e).2)
    have hw:=wi (m-1) (by omega) (by omega)
    have hr:(out.length+1)*144≤140737488355328∧out.length≤140737488355327:=by omega
    cases hap:QB ⟨S,O,D,L,C⟩ ⟨K,Lb,⟨X,Y,W,H⟩,⟨⟨pW,pH,pT,pK⟩,Ct⟩,.mk o a q t ks⟩ with
    | none=>
     rw[hap] at ea
     unfold shV at ea
     simp +contextual -implicitDefEqProofs (maxSteps:=10^7) only[go_sem,seval,↓gZ,hm,ho,eE,ea,hw,hr]
     refine ih (m-1,out,⟨S,O,D,L,C⟩,p',true) _ ⟨by simp only;omega,by simp only;omega,by simp only;omega,i4,iE,by simp only;omega,by simp only;omega⟩ (by simp only;omega) ?_
     simp +contextual -implicitDefEqProofs (maxSteps:=10^7) only[go_sem,seval,↓gZ]
    | some u=>
     have hvu:=U0 hap
     rw[hap] at ea
     obtain⟨S',O',D',L',C'⟩:=u
     unfold shV at ea
     simp only at ea
     simp +contextual -implicitDefEqProofs (maxSteps:=10^7) only[go_sem,seval,↓gZ,hm,ho,eE,ea,hw,hr]
     refine ih (m-1,out++[⟨K,Lb,⟨X,Y,W,H⟩,⟨⟨pW,pH,pT,pK⟩,Ct⟩,.mk o a q t ks⟩],⟨S',O',D',L',C'⟩,p',false) _ ⟨by simp only;omega,by simp only;omega,by simp only[List.length_append,List.length_cons,List.length_nil];omega,hvu,(fun e he=>by
      rcases List.mem_append.1 he with he | he
      ·exact iE e he
      ·rw[List.mem_singleton.1 he];exact g1),by simp only;omega,by simp only;omega⟩ (by simp only;omega) ?_
     simp +contextual -implicitDefEqProofs (maxSteps:=10^7) only[go_sem,seval,↓gZ,List.map_append]
   ·simp +contextual -implicitDefEqProofs (maxSteps:=10^7) only[go_sem,seval,↓gZ,hm,ho]
    exact⟨out,S,O,D,L,C,f,pp,i4,iE,by omega,by omega,by omega,rfl⟩
  ·simp +contextual -implicitDefEqProofs (maxSteps:=10^7) only[go_sem,seval,↓gZ,hm]
   exact⟨out,S,O,D,L,C,f,pp,i4,iE,by omega,by omega,by omega,rfl⟩
def PAnyB (bs:List UInt8) (p:Nat) (r:AV×List Zt):Prop:=∃ (l:List Zv) (p' : Nat),(∀ e∈l,EvI e)∧l.length≤16∧p≤p'∧p'≤p+300 ∧
 ((∃ b,r=(.own 1,[.box [.d (.sl (bs.map WT)),(.d (J (p')))],.row 16 (l.map Zv.enc) b false]))∨∃ e0,r=(.ownv 1 1 l.length,[.box [.d (.sl (bs.map WT)),(.d (J (p')))],.row 16 ((e0 :: l).map Zv.enc) true false]))
theorem Zuz (bs:List UInt8) (hb:bs.length≤2000) (p:Nat) (hp:p<600000000):∃ r,Zg Xs Ms ZbE [.ptr 0 0] [.box [.d (.sl (bs.map WT)),(.d (J p))]]=some r∧PAnyB bs p r:=by
 obtain⟨r,eB,out,S,O,D,L,C,f,p',hv,hE,h1,h2,h3,rfl⟩:=Zre bs hb p (by omega) 30
 have c0:=Qq bs p' 10 hb (by omega)
 generalize QW bs p' 10=c at c0
 refine Zjm Xs Ms VV Zwt (by show 1≤_;decide) ?_
 by_cases hl:(1:Int)<(out.length:Int)
 ·by_cases k0:c=0
  ·subst k0
   have hle:(1:Int)≤(out.length:Int):=by omega
   simp +contextual -implicitDefEqProofs (maxSteps:=10^7) only[go_sem,seval,↓gZ,VV,Zmr,eB,hl,c0,hle]
   cases out with
   | nil=>simp at hl
   | cons e0 l=>exact⟨l,p'+1,fun e he=>hE e (by simp[he]),by simp only[List.length_cons] at h1;omega,by omega,by omega,.inr ⟨e0,rfl⟩⟩
  ·by_cases k1:c=1
   ·subst k1
    obtain⟨e0,he0⟩:∃ e,out[0]?=some e:=Zp (by omega)
    obtain⟨m,hm⟩:∃ m:Nat,out.length=m+1:=⟨out.length-1,by omega⟩
    obtain⟨e1,he1⟩:∃ e,out[m]?=some e:=Zp (by omega)
    have hE0:=hE e0 (List.mem_of_getElem? he0)
    have hE1:=hE e1 (List.mem_of_getElem? he1)
    have hw:=wi ((out.length:Int)-1) (by omega) (by omega)
    have hw2:(out.length:Int)-1=(m:Int):=by omega
    have hm0:¬0=m:=by omega
    have hml:m<out.length:=by omega
    have h0l:0<out.length:=by omega
    rw[hw2] at hw
    have hwm:IntKind.i64.wrap (((m+1:Nat):Int)-1)=(m:Int):=by rw[← hm,hw2];exact hw
    obtain⟨K,Lb,⟨X,Y,W,H⟩,⟨⟨pW,pH,pT,pK⟩,Ct⟩,⟨o,a,q,t,ks⟩⟩:=e0
    obtain⟨K2,Lb2,⟨X2,Y2,W2,H2⟩,⟨⟨pW2,pH2,pT2,pK2⟩,Ct2⟩,⟨o2,a2,q2,t2,ks2⟩⟩:=e1
    simp +contextual -implicitDefEqProofs (maxSteps:=10^7) only[go_sem,seval,↓gZ,VV,eB,hl,c0,he0,he1,hw2,hw,hm0,hml,h0l,List.getElem?_set,List.length_set]
    refine⟨(out.set 0 ⟨K2,Lb2,⟨X2,Y2,W2,H2⟩,⟨⟨pW2,pH2,pT2,pK2⟩,Ct2⟩,.mk o2 a2 q2 t2 ks2⟩).set m ⟨K,Lb,⟨X,Y,W,H⟩,⟨⟨pW,pH,pT,pK⟩,Ct⟩,.mk o a q t ks⟩,p'+1,fun e he=>?_,by simpa using h1,by omega,by omega,.inl ⟨false,?_⟩⟩
    ·rcases List.mem_or_eq_of_mem_set he with he | rfl
     ·rcases List.mem_or_eq_of_mem_set he with he | rfl
      ·exact hE e he
      ·exact hE1
     ·exact hE0
    ·simp only[List.map_set,Zv.enc_mk]
   ·by_cases k2:c=2
    ·subst k2
     have u0:=Qq bs (p'+1) out.length hb (by omega)
     have u1:=Zam bs (p'+1) out.length
     have u2:=Zh3 bs (p'+1) out.length (by omega)
     obtain⟨i,hi⟩:∃ i:Nat,QW bs (p'+1) (out.length:Int)=(i:Int):=⟨(QW bs (p'+1) (out.length:Int)).toNat,by omega⟩
     rw[hi] at u0 u2
     have hil:i<out.length:=by omega
     obtain⟨e,he⟩:=Zp hil
     obtain⟨v,hv1,eV⟩:=ZeC bs (p'+1+1) [1,0,1000000] hb (by omega) (by decide)
     simp only[List.map_cons,List.map_nil,ZbN] at eV
     have hEe:=hE e (List.mem_of_getElem? he)
     obtain⟨K,Lb,⟨X,Y,W,H⟩,⟨⟨pW,pH,pT,pK⟩,Ct⟩,⟨o,a,q,t,ks⟩⟩:=e
     simp +contextual -implicitDefEqProofs (maxSteps:=10^7) only[go_sem,seval,↓gZ,VV,eB,hl,c0,u0,hil,he,eV]
     refine⟨out.set i ⟨K,v,⟨X,Y,W,H⟩,⟨⟨pW,pH,pT,pK⟩,Ct⟩,.mk o a q t ks⟩,p'+1+1+1,fun e he=>?_,by simpa using h1,by omega,by omega,.inl ⟨true,?_⟩⟩
     ·rcases List.mem_or_eq_of_mem_set he with he | rfl
      ·exact hE e he
      ·exact hEe
     ·simp only[List.map_set,Zv.enc_mk]
      try rfl
    ·simp +contextual -implicitDefEqProofs (maxSteps:=10^7) only[go_sem,seval,↓gZ,VV,eB,hl,c0,k0,k1,k2]
     exact⟨out,p'+1,hE,h1,by omega,by omega,.inl ⟨true,rfl⟩⟩
 ·simp +contextual -implicitDefEqProofs (maxSteps:=10^7) only[go_sem,seval,↓gZ,VV,eB,hl]
  exact⟨out,p',hE,h1,by omega,by omega,.inl ⟨true,rfl⟩⟩
theorem Zrf {α:Type}:∀ (l:List α),l=[]∨∃ m e,l=m++[e]
 | []=>.inl rfl
 | x :: l=>by
  rcases Zrf l with rfl | ⟨m,e,rfl⟩
  ·exact .inr ⟨[],x,rfl⟩
  ·exact .inr ⟨x :: m,e,rfl⟩
def PDrB (r:AV×List Zt):Prop:=∃ (l:List Zv),(∀ e∈l,EvI e)∧l.length≤16 ∧
 ((∃ b,r=(.own 0,[.row 16 (l.map Zv.enc) b false]))∨∃ e0,r=(.ownv 0 1 l.length,[.row 16 ((e0 :: l).map Zv.enc) true false]))
theorem Zia (code:List UInt8):∃ r,Zg Xs Ms YB [.d (.sl (code.map WT))] []=some r∧PDrB r:=by
 have hb:(code.take 2000).length≤2000:=by simp;omega
 have en:=ZjK code
 obtain⟨r,e1,l,p',h1,h2,h3,h4,hr⟩:=Zuz (code.take 2000) hb 0 (by omega)
 simp only[cast0] at e1
 generalize code.take 2000=bs at *
 rcases hr with ⟨b,rfl⟩ | ⟨e0,rfl⟩
 ·cases b
  ·refine Zjm Xs Ms Xi Ze6 (by show 1≤_;decide) ?_
   simp +contextual -implicitDefEqProofs (maxSteps:=10^7) only[go_sem,seval,↓gZ,Xi,en,e1]
   exact⟨l,h1,h2,.inl ⟨_,rfl⟩⟩
  ·refine Zjm Xs Ms Xi Ze6 (by show 1≤_;decide) ?_
   simp +contextual -implicitDefEqProofs (maxSteps:=10^7) only[go_sem,seval,↓gZ,Xi,en,e1]
   exact⟨l,h1,h2,.inl ⟨_,rfl⟩⟩
 ·refine Zjm Xs Ms Xi Ze6 (by show 1≤_;decide) ?_
  simp +contextual -implicitDefEqProofs (maxSteps:=10^7) only[go_sem,seval,↓gZ,Xi,en,e1]
  exact⟨l,h1,h2,.inr ⟨e0,rfl⟩⟩
theorem Zrg (code:List UInt8):Zg Xs Ms Zat [.d (.sl (code.map WT))] []=some ((.d (.bool true)),[]):=by
 have nb:∀ a b:Bool,Zfn .neq true (.d (.bool a)) (.d (.bool b))=Qm (.d (.bool (!(a==b)))):=fun _ _=>rfl
 have bb:∀ a b:Bool,Zfn .eql true (.d (.bool a)) (.d (.bool b))=Qm (.d (.bool (a==b))):=fun _ _=>rfl
 by_cases hlen:(1048576:Int)<code.length
 ·refine Zd Xs Ms Z6 V3 (by show 1≤_;decide) ?_
  simp +contextual -implicitDefEqProofs (maxSteps:=10^7) only[go_sem,seval,↓gZ,Z6,hlen]
 ·obtain⟨r,ed,l,hE,hl16,hr⟩:=Zia code
  have e1:=ZiQ l (by omega)
  have e2:=Zm2 l (by omega) hE
  have hrb:ZnW l=runL ⟨[],[],[],0,0⟩ l:=by unfold ZnW;rw[if_pos (by omega)]
  rw[hrb] at e1 e2
  cases ha:runL ⟨[],[],[],0,0⟩ l with
  | none=>
   rw[ha] at e1 e2
   unfold shV at e1 e2
   have e3:=JC [] [] [] 0 0 (UZ Y8)
   simp only[List.map_nil] at e1 e2 e3
   rcases hr with ⟨b,rfl⟩ | ⟨e0,rfl⟩
   ·refine Zd Xs Ms Z6 V3 (by show 1≤_;decide) ?_
    simp +contextual -implicitDefEqProofs (maxSteps:=10^7) only[go_sem,seval,↓gZ,Z6,nb,bb,hlen,ed,e1,e2,e3]
   ·have hdt:List.take l.length (List.drop 1 (e0 :: l))=l:=by simp
    refine Zd Xs Ms Z6 V3 (by show 1≤_;decide) ?_
    simp +contextual -implicitDefEqProofs (maxSteps:=10^7) only[go_sem,seval,↓gZ,Z6,nb,bb,hlen,ed,hdt,List.take_length,e1,e2,e3]
  | some z=>
   rw[ha] at e1 e2
   have hz:=ZiP Y8 ha
   obtain⟨zS,zO,zD,zL,zC⟩:=z
   have e3:=JC zS zO zD zL zC (UZ hz)
   unfold shV at e1 e2
   simp only at e1 e2
   rcases Zrf l with rfl | ⟨m,e,rfl⟩
   ·cases ha
    simp only[List.map_nil] at e1 e2 e3
    rcases hr with ⟨b,rfl⟩ | ⟨e0,rfl⟩
    ·refine Zd Xs Ms Z6 V3 (by show 1≤_;decide) ?_
     simp +contextual -implicitDefEqProofs (maxSteps:=10^7) only[go_sem,seval,↓gZ,Z6,nb,bb,hlen,ed,e1,e2,e3,List.map_nil,List.length_nil]
    ·refine Zd Xs Ms Z6 V3 (by show 1≤_;decide) ?_
     simp +contextual -implicitDefEqProofs (maxSteps:=10^7) only[go_sem,seval,↓gZ,Z6,nb,bb,hlen,ed,e1,e2,e3,List.map_nil,List.length_nil,List.take_zero]
   ·have ha2:=ha
    rw[Zg6] at ha2
    cases hm:runL ⟨[],[],[],0,0⟩ m with
    | none=>rw[hm] at ha2;cases ha2
    | some y=>
     rw[hm] at ha2
     simp only[runL] at ha2
     have hy:=ZiP Y8 hm
     cases hap:QB y e with
     | none=>rw[hap] at ha2;cases ha2
     | some u=>
      rw[hap] at ha2
      cases ha2
      simp only[List.length_append,List.length_cons,List.length_nil] at hl16
      have e4:=ZiQ m (by omega)
      have hrm:ZnW m=runL ⟨[],[],[],0,0⟩ m:=by unfold ZnW;rw[if_pos (by omega)]
      rw[hrm,hm] at e4
      obtain⟨yS,yO,yD,yL,yC⟩:=y
      obtain⟨K,Lb,⟨X,Y,W,H⟩,⟨⟨pW,pH,pT,pK⟩,Ct⟩,⟨o,a,q,t,ks⟩⟩:=e
      have e5:=Uj yS yO yD yL yC K Lb X Y W H pW pH pT pK Ct o a q t ks
      rw[if_pos hy,hap] at e5
      unfold shV at e4 e5
      simp only at e4 e5
      have hn0:¬((m.length:Int)+1=0):=by omega
      have hn1:¬(((m.length+1:Nat):Int)=0):=by omega
      have hw:IntKind.i64.wrap (((m.length+1:Nat):Int)-1)=(m.length:Int):=by rw[wi _ (by omega) (by omega)];omega
      have hlt:m.length<m.length+1:=by omega
      have hle:m.length≤m.length+1:=by omega
      have hg:(m++[(⟨K,Lb,⟨X,Y,W,H⟩,⟨⟨pW,pH,pT,pK⟩,Ct⟩,.mk o a q t ks⟩:Zv)])[m.length]?=some ⟨K,Lb,⟨X,Y,W,H⟩,⟨⟨pW,pH,pT,pK⟩,Ct⟩,.mk o a q t ks⟩:=by simp
      have htk:List.take m.length (m++[(⟨K,Lb,⟨X,Y,W,H⟩,⟨⟨pW,pH,pT,pK⟩,Ct⟩,.mk o a q t ks⟩:Zv)])=m:=by simp
      have hll:(m++[(⟨K,Lb,⟨X,Y,W,H⟩,⟨⟨pW,pH,pT,pK⟩,Ct⟩,.mk o a q t ks⟩:Zv)]).length=m.length+1:=by simp
      generalize hL:m++[(⟨K,Lb,⟨X,Y,W,H⟩,⟨⟨pW,pH,pT,pK⟩,Ct⟩,.mk o a q t ks⟩:Zv)]=LL at *
      rcases hr with ⟨b,rfl⟩ | ⟨e0,rfl⟩
      ·refine Zd Xs Ms Z6 V3 (by show 1≤_;decide) ?_
       simp +contextual -implicitDefEqProofs (maxSteps:=10^7) only[go_sem,seval,↓gZ,Z6,Zmr,nb,bb,hlen,ed,e1,e2,e3,e4,e5,hll,hn1,hw,hlt,hle,hg,htk,List.drop_zero,Nat.sub_zero]
      ·have hdt:List.take LL.length (List.drop 1 (e0 :: LL))=LL:=by simp
       have hdt2:List.take m.length (List.drop 1 (e0 :: LL))=m:=by simp[htk]
       have hg2:(Zv.enc e0 :: LL.map Zv.enc)[1+m.length]?=some (Zv.enc ⟨K,Lb,⟨X,Y,W,H⟩,⟨⟨pW,pH,pT,pK⟩,Ct⟩,.mk o a q t ks⟩):=by rw[Nat.add_comm];simp[hg]
       rw[hll] at hdt
       have hdt3:List.take (m.length+1) LL=LL:=by rw[← hll,List.take_length]
       refine Zd Xs Ms Z6 V3 (by show 1≤_;decide) ?_
       simp +contextual -implicitDefEqProofs (maxSteps:=10^7) only[go_sem,seval,↓gZ,Z6,Zmr,nb,bb,hlen,ed,hdt,hdt2,hdt3,List.take_length,e1,e2,e3,e4,e5,hll,hn1,hw,hlt,hle,hg2,htk,List.length_cons,Nat.add_zero,Nat.sub_zero,Nat.add_sub_cancel]
theorem ZlV (code:List UInt8):Zg Xs Ms VI [.d (.sl (code.map WT))] []=some ((.d (.bool true)),[]):=by
 have nb:∀ a b:Bool,Zfn .neq true (.d (.bool a)) (.d (.bool b))=Qm (.d (.bool (!(a==b)))):=fun _ _=>rfl
 have bb:∀ a b:Bool,Zfn .eql true (.d (.bool a)) (.d (.bool b))=Qm (.d (.bool (a==b))):=fun _ _=>rfl
 by_cases hlen:(1048576:Int)<code.length
 ·refine Zd Xs Ms ZZ VF (by show 1≤_;decide) ?_
  simp +contextual -implicitDefEqProofs (maxSteps:=10^7) only[go_sem,seval,↓gZ,ZZ,hlen]
 ·obtain⟨r,ed,l,hE,hl16,hr⟩:=Zia code
  have e1:=ZiQ l (by omega)
  have e2:=Zm2 l (by omega) hE
  have hrb:ZnW l=runL ⟨[],[],[],0,0⟩ l:=by unfold ZnW;rw[if_pos (by omega)]
  rw[hrb] at e1 e2
  cases ha:runL ⟨[],[],[],0,0⟩ l with
  | none=>
   rw[ha] at e1 e2
   unfold shV at e1 e2
   have e3:=JC [] [] [] 0 0 (UZ Y8)
   simp only[List.map_nil] at e1 e2 e3
   rcases hr with ⟨b,rfl⟩ | ⟨e0,rfl⟩
   ·refine Zd Xs Ms ZZ VF (by show 1≤_;decide) ?_
    simp +contextual -implicitDefEqProofs (maxSteps:=10^7) only[go_sem,seval,↓gZ,ZZ,nb,bb,hlen,ed,e1,e2,e3]
   ·have hdt:List.take l.length (List.drop 1 (e0 :: l))=l:=by simp
    refine Zd Xs Ms ZZ VF (by show 1≤_;decide) ?_
    simp +contextual -implicitDefEqProofs (maxSteps:=10^7) only[go_sem,seval,↓gZ,ZZ,nb,bb,hlen,ed,hdt,List.take_length,e1,e2,e3]
  | some z=>
   rw[ha] at e1 e2
   have hz:=ZiP Y8 ha
   obtain⟨zS,zO,zD,zL,zC⟩:=z
   have e3:=JC zS zO zD zL zC (UZ hz)
   unfold shV at e1 e2
   simp only at e1 e2
   have e4:=ZjQ zS hz.1
   have e5:=ZjT zD hz.2.2.1
   have e6:=Zdw zO hz.2.1
   have e7:=Zdw zD hz.2.2.1
   have hb1:=hz.2.2.2.2.2.2.2
   have hb2:=hz.2.2.2
   simp only at hb1 hb2
   have g1:=(Zb4 (ZqN hz.1)).1
   have g2:=(ZlL hz.2.2.1).1
   have g3:=UY (l:=zO) (fun x hx=>(Qb hz.2.1 x hx).2.1)
   have g4:=UY (l:=zD) (fun x hx=>(Qb hz.2.2.1 x hx).2.1)
   have g5:=hz.2.1.2.2
   have g6:=hz.2.2.1.2.2
   simp only at g1 g2 g5 g6
   have u1:=wi (Vr zS+ZbI zD) (by omega) (by omega)
   have u2:=wi (Vr zS+ZbI zD+zL) (by omega) (by omega)
   have u3:=wi (Qg zO+Qg zD) (by omega) (by omega)
   have u4:=wi zC (by omega) (by omega)
   rcases hr with ⟨b,rfl⟩ | ⟨e0,rfl⟩
   ·refine Zd Xs Ms ZZ VF (by show 1≤_;decide) ?_
    simp +contextual -implicitDefEqProofs (maxSteps:=10^7) only[go_sem,seval,↓gZ,ZZ,nb,bb,hlen,ed,e1,e2,e3]
    refine Zr Xs Ms (st0:=?st0) (α:=Nat×Zo) (fun s=>[(10,.d (J (s.1:Int))),(8,.d (J s.2.Came)),(9,.d (J (Qg s.2.Opn+Qg s.2.Done)))]) (fun _=>[]) (fun s=>s.1≤l.length∧ZL s.2∧runL ⟨[],[],[],0,0⟩ (l.take s.1)=some s.2) (fun s=>l.length-s.1) (0,⟨[],[],[],0,0⟩) ?hc ⟨by simp,Y8,by simp[runL]⟩ ?h0 ?step
    case hc=>simp +contextual -implicitDefEqProofs (maxSteps:=10^7) only[go_sem,seval,↓gZ]<;>exact rfl
    case h0=>rfl
    case step=>
     intro⟨i,y⟩ ⟨hi,hy,hp⟩ ih
     simp only at hi hy hp
     by_cases hlt:i<l.length
     ·obtain⟨e,he⟩:=Zp hlt
      have hw:=Zk (k:=i) (by omega)
      obtain⟨y',u,k1,k2,k3⟩:=ZtF he ha
      rw[hp] at k1
      cases k1
      have hf:=ZlU hy k2
      have hu:=hf.vs
      have hc:=hf.came
      have hn:=hf.cnt
      have hsh:=hf.sheet
      have b1:=hu.2.2.2
      have b2:=hy.2.2.2
      have q1:=UY (l:=u.Opn) (fun x hx=>(Qb hu.2.1 x hx).2.1)
      have q2:=UY (l:=u.Done) (fun x hx=>(Qb hu.2.2.1 x hx).2.1)
      have q3:=hu.2.1.2.2
      have q4:=hu.2.2.1.2.2
      have hx:l[i]?=some e:=he
      obtain⟨K,Lb,⟨X,Y,W,H⟩,⟨⟨pW,pH,pT,pK⟩,Ct⟩,⟨o,a,q,t,ks⟩⟩:=e
      simp only at hc hn hsh hx
      by_cases k0:K=0
      ·subst k0
       obtain⟨hr,_⟩:=hsh rfl
       have hp2:=hr.1.2.1
       simp only at hp2
       have hwh:=Jy (b:=⟨0,0,W,H⟩) (by simp only[VB];omega)
       simp only at hwh
       simp only[if_true] at hc
       rw[if_neg (by decide)] at hn
       have u0:=wi (W*H) (by omega) (by omega)
       have u1:=wi (y.Came+W*H) (by omega) (by omega)
       have d2:¬(0:Int)=2:=by decide
       simp +contextual -implicitDefEqProofs (maxSteps:=10^7) only[go_sem,seval,↓gZ,hlt,hx,hw,u0,u1,d2]
       refine ih (i+1,u) _ ⟨by simp only;omega,hu,k3⟩ (by simp only;omega) ?_
       simp +contextual -implicitDefEqProofs (maxSteps:=10^7) only[go_sem,seval,↓gZ,hc,hn,Int.add_zero]
      ·rw[if_neg k0] at hc
       by_cases k2:K=2
       ·subst k2
        simp only[if_true] at hn
        have u1:=wi (Qg y.Opn+Qg y.Done+Ct) (by omega) (by omega)
        simp +contextual -implicitDefEqProofs (maxSteps:=10^7) only[go_sem,seval,↓gZ,hlt,hx,hw,k0,u1]
        refine ih (i+1,u) _ ⟨by simp only;omega,hu,k3⟩ (by simp only;omega) ?_
        simp +contextual -implicitDefEqProofs (maxSteps:=10^7) only[go_sem,seval,↓gZ,hc,hn,Int.add_zero]
       ·rw[if_neg k2] at hn
        simp +contextual -implicitDefEqProofs (maxSteps:=10^7) only[go_sem,seval,↓gZ,hlt,hx,hw,k0,k2]
        refine ih (i+1,u) _ ⟨by simp only;omega,hu,k3⟩ (by simp only;omega) ?_
        simp +contextual -implicitDefEqProofs (maxSteps:=10^7) only[go_sem,seval,↓gZ,hc,hn,Int.add_zero]
     ·have:i=l.length:=by omega
      subst this
      rw[List.take_length,ha] at hp
      cases hp
      simp only at *
      simp +contextual -implicitDefEqProofs (maxSteps:=10^7) only[go_sem,seval,↓gZ,e4,e5,e6,e7,u1,u2,u3,u4,hb1]
   ·have hdt:List.take l.length (List.drop 1 (e0 :: l))=l:=by simp
    refine Zd Xs Ms ZZ VF (by show 1≤_;decide) ?_
    simp +contextual -implicitDefEqProofs (maxSteps:=10^7) only[go_sem,seval,↓gZ,ZZ,nb,bb,hlen,ed,hdt,List.take_length,e1,e2,e3]
    refine Zr Xs Ms (st0:=?st1) (α:=Nat×Zo) (fun s=>[(10,.d (J (s.1:Int))),(8,.d (J s.2.Came)),(9,.d (J (Qg s.2.Opn+Qg s.2.Done)))]) (fun _=>[]) (fun s=>s.1≤l.length∧ZL s.2∧runL ⟨[],[],[],0,0⟩ (l.take s.1)=some s.2) (fun s=>l.length-s.1) (0,⟨[],[],[],0,0⟩) ?hc2 ⟨by simp,Y8,by simp[runL]⟩ ?h02 ?step2
    case hc2=>simp +contextual -implicitDefEqProofs (maxSteps:=10^7) only[go_sem,seval,↓gZ]<;>exact rfl
    case h02=>rfl
    case step2=>
     intro⟨i,y⟩ ⟨hi,hy,hp⟩ ih
     simp only at hi hy hp
     by_cases hlt:i<l.length
     ·obtain⟨e,he⟩:=Zp hlt
      have hw:=Zk (k:=i) (by omega)
      obtain⟨y',u,k1,k2,k3⟩:=ZtF he ha
      rw[hp] at k1
      cases k1
      have hf:=ZlU hy k2
      have hu:=hf.vs
      have hc:=hf.came
      have hn:=hf.cnt
      have hsh:=hf.sheet
      have b1:=hu.2.2.2
      have b2:=hy.2.2.2
      have q1:=UY (l:=u.Opn) (fun x hx=>(Qb hu.2.1 x hx).2.1)
      have q2:=UY (l:=u.Done) (fun x hx=>(Qb hu.2.2.1 x hx).2.1)
      have q3:=hu.2.1.2.2
      have q4:=hu.2.2.1.2.2
      have hx:(Zv.enc e0 :: l.map Zv.enc)[1+i]?=some (Zv.enc e):=by rw[Nat.add_comm];simp[he]
      obtain⟨K,Lb,⟨X,Y,W,H⟩,⟨⟨pW,pH,pT,pK⟩,Ct⟩,⟨o,a,q,t,ks⟩⟩:=e
      simp only at hc hn hsh hx
      by_cases k0:K=0
      ·subst k0
       obtain⟨hr,_⟩:=hsh rfl
       have hp2:=hr.1.2.1
       simp only at hp2
       have hwh:=Jy (b:=⟨0,0,W,H⟩) (by simp only[VB];omega)
       simp only at hwh
       simp only[if_true] at hc
       rw[if_neg (by decide)] at hn
       have u0:=wi (W*H) (by omega) (by omega)
       have u1:=wi (y.Came+W*H) (by omega) (by omega)
       have d2:¬(0:Int)=2:=by decide
       simp +contextual -implicitDefEqProofs (maxSteps:=10^7) only[go_sem,seval,↓gZ,hlt,hx,hw,u0,u1,d2,hdt,Nat.add_zero,List.length_cons]
       refine ih (i+1,u) _ ⟨by simp only;omega,hu,k3⟩ (by simp only;omega) ?_
       simp +contextual -implicitDefEqProofs (maxSteps:=10^7) only[go_sem,seval,↓gZ,hc,hn,Int.add_zero]
      ·rw[if_neg k0] at hc
       by_cases k2:K=2
       ·subst k2
        simp only[if_true] at hn
        have u1:=wi (Qg y.Opn+Qg y.Done+Ct) (by omega) (by omega)
        simp +contextual -implicitDefEqProofs (maxSteps:=10^7) only[go_sem,seval,↓gZ,hlt,hx,hw,k0,u1,hdt,Nat.add_zero,List.length_cons]
        refine ih (i+1,u) _ ⟨by simp only;omega,hu,k3⟩ (by simp only;omega) ?_
        simp +contextual -implicitDefEqProofs (maxSteps:=10^7) only[go_sem,seval,↓gZ,hc,hn,Int.add_zero]
       ·rw[if_neg k2] at hn
        simp +contextual -implicitDefEqProofs (maxSteps:=10^7) only[go_sem,seval,↓gZ,hlt,hx,hw,k0,k2,hdt,Nat.add_zero,List.length_cons]
        refine ih (i+1,u) _ ⟨by simp only;omega,hu,k3⟩ (by simp only;omega) ?_
        simp +contextual -implicitDefEqProofs (maxSteps:=10^7) only[go_sem,seval,↓gZ,hc,hn,Int.add_zero]
     ·have:i=l.length:=by omega
      subst this
      rw[List.take_length,ha] at hp
      cases hp
      simp only at *
      simp +contextual -implicitDefEqProofs (maxSteps:=10^7) only[go_sem,seval,↓gZ,hdt,Nat.add_zero,List.length_cons,e4,e5,e6,e7,u1,u2,u3,u4,hb1]
theorem ZaU (qL qW qH:Int) (qF:List Box) (w h:Int) (hq:VPc (Zb.mk qL qW qH qF)) (hw:1≤w∧w≤200) (hh:1≤h∧h≤200):Zg Xs Ms XN [(.d (.agg [J qL,J qW,J qH,.sl (qF.map Box.enc)])),(.d (J w)),(.d (J h))] []=some (fcV (Xt (Zb.mk qL qW qH qF) w h)):=by
 have e0:=QT qL qW qH qF
 rw[decide_eq_true hq] at e0
 have hF:∀ f∈qF,VB f:=fun f hf=>(hq.2 f hf).1
 obtain⟨_,_,hW1,hW2,hH1,hH2,hF6⟩:=hq.1
 simp only at hW1 hW2 hH1 hH2 hF6
 clear hq
 have n1:¬w<1:=by omega
 have n2:¬(200:Int)<w:=by omega
 have n3:¬h<1:=by omega
 have n4:¬(200:Int)<h:=by omega
 unfold Xt
 simp only
 refine Zd Xs Ms Jm Zrt (by show 3≤_;decide) ?_
 simp +contextual -implicitDefEqProofs (maxSteps:=10^7) only[go_sem,seval,↓gZ,Jm,e0,n1,n2,n3,n4]
 refine Zr Xs Ms (st0:=?st0) (α:=Nat) (fun y=>[(8,.d (J (y:Int)))]) (fun _=>[]) (fun y=>(y:Int)≤qH∧ZqS qF qW qH w h (qH.toNat+1-y) y=ZqS qF qW qH w h (qH.toNat+1) 0) (fun y=>qH.toNat+1-y) 0 ?hc ⟨by omega,by simp⟩ ?h0 ?step
 case hc=>simp +contextual -implicitDefEqProofs (maxSteps:=10^7) only[go_sem,seval,↓gZ]<;>exact rfl
 case h0=>rfl
 case step=>
  intro y ⟨hy,hp⟩ ih
  obtain⟨n,hn⟩:∃ n,qH.toNat+1-y=n+1:=⟨qH.toNat-y,by omega⟩
  rw[hn,ZqS] at hp
  have wy:=wi ((y:Int)+h) (by omega) (by omega)
  by_cases hyl:(y:Int)+h≤qH
  ·rw[if_pos hyl] at hp
   simp +contextual -implicitDefEqProofs (maxSteps:=10^7) only[go_sem,seval,↓gZ,wy,hyl]
   refine Zr Xs Ms (st0:=?st1) (α:=Nat) (fun x=>[(9,.d (J (x:Int)))]) (fun _=>[]) (fun x=>(x:Int)≤qW∧ZqR qF qW w h y (qW.toNat+1-x) x=ZqR qF qW w h y (qW.toNat+1) 0) (fun x=>qW.toNat+1-x) 0 ?hc2 ⟨by omega,by simp⟩ ?h02 ?step2
   case hc2=>simp +contextual -implicitDefEqProofs (maxSteps:=10^7) only[go_sem,seval,↓gZ]<;>exact rfl
   case h02=>rfl
   case step2=>
    intro x ⟨hx,hpx⟩ ih2
    obtain⟨m,hm⟩:∃ m,qW.toNat+1-x=m+1:=⟨qW.toNat-x,by omega⟩
    rw[hm,ZqR] at hpx
    have wx:=wi ((x:Int)+w) (by omega) (by omega)
    have hsx:=Zk (k:=x) (by omega)
    have hsy:=Zk (k:=y) (by omega)
    by_cases hxl:(x:Int)+w≤qW
    ·rw[if_pos hxl] at hpx
     have ec:=Zgz qF x y w h hF (by simp only[VB];omega) (by omega)
     by_cases hcl:Qf qF ⟨x,y,w,h⟩
     ·rw[if_pos hcl] at hpx
      rw[← hpx] at hp
      simp only at hp
      rw[decide_eq_true hcl] at ec
      simp +contextual -implicitDefEqProofs (maxSteps:=10^7) only[go_sem,seval,↓gZ,wx,hxl,ec,Bool.not_true]
      rw[← hp]
      rfl
     ·rw[if_neg hcl] at hpx
      rw[decide_eq_false hcl] at ec
      simp +contextual -implicitDefEqProofs (maxSteps:=10^7) only[go_sem,seval,↓gZ,wx,hxl,ec,hsx,Bool.not_false]
      refine ih2 (x+1) _ ⟨by omega,?_⟩ (by omega) ?_
      ·rw[← hpx]
       have:qW.toNat+1-(x+1)=m:=by omega
       rw[this]
       rfl
      ·simp +contextual -implicitDefEqProofs (maxSteps:=10^7) only[go_sem,seval,↓gZ]
    ·rw[if_neg hxl] at hpx
     rw[← hpx] at hp
     simp only at hp
     simp +contextual -implicitDefEqProofs (maxSteps:=10^7) only[go_sem,seval,↓gZ,wx,hxl,hsy]
     refine ih (y+1) _ ⟨by omega,?_⟩ (by omega) ?_
     ·rw[← hp]
      have:qH.toNat+1-(y+1)=n:=by omega
      rw[this]
      rfl
     ·simp +contextual -implicitDefEqProofs (maxSteps:=10^7) only[go_sem,seval,↓gZ]
  ·rw[if_neg hyl] at hp
   simp +contextual -implicitDefEqProofs (maxSteps:=10^7) only[go_sem,seval,↓gZ,wy,hyl]
   rw[← hp]
   rfl
theorem Zrh (qL qW qH:Int) (qF:List Box) (pW pH:Int) (pT:Bool) (pK:Int) (hq:VPc (Zb.mk qL qW qH qF)) (hp:VP (Pane.mk pW pH pT pK)):Zg Xs Ms Ur [(.d (.agg [J qL,J qW,J qH,.sl (qF.map Box.enc)])),(.d (.agg [J pW,J pH,.bool pT,J pK]))] []=some ((.d (.bool (okP (Pane.mk pW pH pT pK) (Zb.mk qL qW qH qF)))),[]):=by
 have hpw:1≤pW∧pW≤200∧1≤pH∧pH≤200:=⟨hp.1,hp.2.1,hp.2.2.1,hp.2.2.2.1⟩
 have f1:=ZaU qL qW qH qF pW pH hq ⟨hpw.1,hpw.2.1⟩ hpw.2.2
 have f2:=ZaU qL qW qH qF pH pW hq hpw.2.2 ⟨hpw.1,hpw.2.1⟩
 have hok:okP (Pane.mk pW pH pT pK) (Zb.mk qL qW qH qF)=((Xt ⟨qL,qW,qH,qF⟩ pW pH).isSome || (pT&&(Xt ⟨qL,qW,qH,qF⟩ pH pW).isSome)):=rfl
 rw[hok]
 cases h1:Xt ⟨qL,qW,qH,qF⟩ pW pH with
 | some b1=>
  rw[h1] at f1
  unfold fcV at f1
  obtain⟨bX,bY,bW,bH⟩:=b1
  refine Zd Xs Ms Xf ZdS (by show 2≤_;decide) ?_
  simp +contextual -implicitDefEqProofs (maxSteps:=10^7) only[go_sem,seval,↓gZ,Xf,f1,Option.isSome_some,Bool.true_or]
 | none=>
  rw[h1] at f1
  unfold fcV at f1
  cases pT with
  | false=>
   refine Zd Xs Ms Xf ZdS (by show 2≤_;decide) ?_
   simp +contextual -implicitDefEqProofs (maxSteps:=10^7) only[go_sem,seval,↓gZ,Xf,f1,Option.isSome_none,Bool.false_or,Bool.false_and]
  | true=>
   cases h2:Xt ⟨qL,qW,qH,qF⟩ pH pW with
   | some b2=>
    rw[h2] at f2
    unfold fcV at f2
    obtain⟨bX,bY,bW,bH⟩:=b2
    refine Zd Xs Ms Xf ZdS (by show 2≤_;decide) ?_
    simp +contextual -implicitDefEqProofs (maxSteps:=10^7) only[go_sem,seval,↓gZ,Xf,f1,f2,Option.isSome_none,Option.isSome_some,Bool.false_or,Bool.true_and]
   | none=>
    rw[h2] at f2
    unfold fcV at f2
    refine Zd Xs Ms Xf ZdS (by show 2≤_;decide) ?_
    simp +contextual -implicitDefEqProofs (maxSteps:=10^7) only[go_sem,seval,↓gZ,Xf,f1,f2,Option.isSome_none,Bool.false_or,Bool.true_and]
theorem Zri (l:List Zb) (pW pH:Int) (pT:Bool) (pK:Int) (hv:VSt l) (hp:VP (Pane.mk pW pH pT pK)):Zg Xs Ms Uq [(.d (.sl (l.map Zb.enc))),(.d (.agg [J pW,J pH,.bool pT,J pK]))] []=some ((.d (J (Ztw l (Pane.mk pW pH pT pK)))),[]):=by
 have e1:=Vv l
 have e2:=Zb0 pW pH pT pK
 rw[decide_eq_true hv] at e1
 rw[decide_eq_true hp] at e2
 have hval:=fun x hx=>ZY hv.2 x hx
 have hl20:=hv.1
 unfold Ztw
 rw[if_pos ⟨hv,hp⟩]
 refine Zd Xs Ms Zay Zsk (by show 2≤_;decide) ?_
 simp +contextual -implicitDefEqProofs (maxSteps:=10^7) only[go_sem,seval,↓gZ,Zay,e1,e2]
 refine Zr Xs Ms (st0:=?st0) (α:=Nat×Int×Int×Int) (fun s=>[(20,.d (J (s.1:Int))),(5,.d (J s.2.2.1)),(6,.d (J s.2.2.2))]) (fun _=>[]) (fun s=>s.1≤l.length∧Ze4 l (Pane.mk pW pH pT pK) (l.drop s.1) s.1 s.2.1=Zg3 l (Pane.mk pW pH pT pK)∧((s.2.1=-1∧s.2.2.1=0)∨∃ (j:Nat) (y:Zb),s.2.1=(j:Int)∧l[j]?=some y∧s.2.2.1=y.Label∧s.2.2.2=y.W*y.H)) (fun s=>l.length-s.1) (0,-1,0,0) ?hc ⟨by simp,by simp[Zg3],.inl ⟨rfl,rfl⟩⟩ ?h0 ?step
 case hc=>simp +contextual -implicitDefEqProofs (maxSteps:=10^7) only[go_sem,seval,↓gZ]<;>exact rfl
 case h0=>rfl
 case step=>
  intro⟨i,b,lb,ls⟩ ⟨hi,hq,hb⟩ ih
  simp only at hi hq hb
  by_cases hlt:i<l.length
  ·obtain⟨x,hx⟩:=Zp hlt
   have hw:=Zk (k:=i) (by omega)
   rw[Zov hx] at hq
   have hvx:=hval x (List.mem_of_getElem? hx)
   have f1:=Zrh x.Label x.W x.H x.Flaws pW pH pT pK hvx hp
   have hx1:=hvx.1
   have hxa:0≤x.W*x.H∧x.W*x.H≤40000:=Jy (b:=⟨0,0,x.W,x.H⟩) (by simp only[VB];omega)
   obtain⟨L,W,H,F⟩:=x
   simp only at f1 hxa hq hx1
   have u1:=wi (W*H) (by omega) (by omega)
   by_cases hc:lb=0∨W*H<ls
   ·have hcb:b<0∨W*H<ZiL l b:=by
     rcases hb with ⟨h1,h2⟩ | ⟨j,y,h1,h2,h3,h4⟩
     ·left;omega
     ·have:=(hval y (List.mem_of_getElem? h2)).1
      right
      unfold ZiL
      rw[h1,Int.toNat_natCast,h2]
      simp only
      rcases hc with hc | hc
      ·omega
      ·omega
    by_cases hok:okP (Pane.mk pW pH pT pK) ⟨L,W,H,F⟩=true
    ·rw[hok] at f1
     rw[if_pos ⟨hok,hcb⟩] at hq
     rcases hc with hc | hc
     ·simp +contextual -implicitDefEqProofs (maxSteps:=10^7) only[go_sem,seval,↓gZ,hx,hlt,hw,f1,u1,hc]
      refine ih (i+1,(i:Int),L,W*H) _ ⟨by simp only;omega,hq,.inr ⟨i,⟨L,W,H,F⟩,rfl,hx,rfl,rfl⟩⟩ (by simp only;omega) ?_
      simp +contextual -implicitDefEqProofs (maxSteps:=10^7) only[go_sem,seval,↓gZ]
     ·by_cases h0:lb=0
      ·simp +contextual -implicitDefEqProofs (maxSteps:=10^7) only[go_sem,seval,↓gZ,hx,hlt,hw,f1,u1,h0]
       refine ih (i+1,(i:Int),L,W*H) _ ⟨by simp only;omega,hq,.inr ⟨i,⟨L,W,H,F⟩,rfl,hx,rfl,rfl⟩⟩ (by simp only;omega) ?_
       simp +contextual -implicitDefEqProofs (maxSteps:=10^7) only[go_sem,seval,↓gZ]
      ·simp +contextual -implicitDefEqProofs (maxSteps:=10^7) only[go_sem,seval,↓gZ,hx,hlt,hw,f1,u1,h0,hc]
       refine ih (i+1,(i:Int),L,W*H) _ ⟨by simp only;omega,hq,.inr ⟨i,⟨L,W,H,F⟩,rfl,hx,rfl,rfl⟩⟩ (by simp only;omega) ?_
       simp +contextual -implicitDefEqProofs (maxSteps:=10^7) only[go_sem,seval,↓gZ]
    ·rw[if_neg (fun h=>hok h.1)] at hq
     simp only[Bool.not_eq_true] at hok
     rw[hok] at f1
     by_cases h0:lb=0
     ·simp +contextual -implicitDefEqProofs (maxSteps:=10^7) only[go_sem,seval,↓gZ,hx,hlt,hw,f1,u1,h0]
      refine ih (i+1,b,0,ls) _ ⟨by simp only;omega,hq,by rw[h0] at hb;exact hb⟩ (by simp only;omega) ?_
      simp +contextual -implicitDefEqProofs (maxSteps:=10^7) only[go_sem,seval,↓gZ]
     ·have hc:W*H<ls:=hc.resolve_left h0
      simp +contextual -implicitDefEqProofs (maxSteps:=10^7) only[go_sem,seval,↓gZ,hx,hlt,hw,f1,u1,h0,hc]
      refine ih (i+1,b,lb,ls) _ ⟨by simp only;omega,hq,hb⟩ (by simp only;omega) ?_
      simp +contextual -implicitDefEqProofs (maxSteps:=10^7) only[go_sem,seval,↓gZ]
   ·have h0:¬lb=0:=fun h=>hc (.inl h)
    have h1:¬W*H<ls:=fun h=>hc (.inr h)
    rw[if_neg (fun h=>by
     rcases hb with ⟨h2,h3⟩ | ⟨j,y,h2,h3,h4,h5⟩
     ·exact h0 h3
     ·rcases h.2 with h6 | h6
      ·omega
      ·unfold ZiL at h6
       rw[h2,Int.toNat_natCast,h3] at h6
       simp only at h6
       omega)] at hq
    simp +contextual -implicitDefEqProofs (maxSteps:=10^7) only[go_sem,seval,↓gZ,hx,hlt,hw,f1,u1,h0,h1]
    refine ih (i+1,b,lb,ls) _ ⟨by simp only;omega,hq,hb⟩ (by simp only;omega) ?_
    simp +contextual -implicitDefEqProofs (maxSteps:=10^7) only[go_sem,seval,↓gZ]
  ·have:i=l.length:=by omega
   subst this
   rw[ZqT] at hq
   rcases hb with ⟨h1,h2⟩ | ⟨j,y,h1,h2,h3,h4⟩
   ·have hn:Zg3 l (Pane.mk pW pH pT pK)<0:=by omega
    simp +contextual -implicitDefEqProofs (maxSteps:=10^7) only[go_sem,seval,↓gZ]
    rw[if_pos hn,h2]
   ·have hn:¬Zg3 l (Pane.mk pW pH pT pK)<0:=by omega
    simp +contextual -implicitDefEqProofs (maxSteps:=10^7) only[go_sem,seval,↓gZ]
    rw[if_neg hn,← hq,h1,Int.toNat_natCast,h2,h3]
theorem Zrj {k:ZE} {c:L.Place} (hw:VW k) (hc:ZlT k c):plV (popL k [c])=Zb6 (Qk c.Pane c.Turned c.Box.X c.Box.Y c.Box.W c.Box.H 0 0 k.W k.H).plan∧VPl k [c]:=by
 have hv:VPl k [c]:=by
  refine⟨⟨hw,by simp⟩,fun d hd=>?_,?_⟩
  ·rw[List.mem_singleton.1 hd];exact hc
  ·unfold Zi5;simp
 refine⟨?_,hv⟩
 obtain⟨h1,h2,h3,h4⟩:=ZtB hv
 have hG:=Zr7 (k.W+k.H).toNat [c] 0 0 k.W k.H h1 h2 (Nat.le_refl _) (by simp)
 have hi:=h2 c (by simp)
 obtain⟨P,T,⟨X,Y,W,H⟩⟩:=c
 have hO:=Zk9 P T X Y W H 0 0 k.W k.H (by simp only[VB] at h1;simp only[VB,QJ] at hi;unfold ZgD;omega)
 have h:some (plV (Wi (k.W+k.H).toNat [⟨P,T,⟨X,Y,W,H⟩⟩] ⟨0,0,k.W,k.H⟩))=some (Zb6 (Qk P T X Y W H 0 0 k.W k.H).plan):=hG.symm.trans hO
 unfold popL
 rw[if_pos hv]
 exact Option.some.inj h
def cfV (ok:Bool):Zv→AV×List Zt
 | ⟨k,l,⟨x,y,w,h⟩,⟨⟨pw,ph,pt,pk⟩,c⟩,.mk o a q t ks⟩=>(.tup [.agg [(.d (J k)),(.d (J l)),(.d (J x)),(.d (J y)),(.d (J w)),(.d (J h)),(.d (J pw)),(.d (J ph)),(.d (.bool pt)),(.d (J pk)),(.d (J c)),(.d (J o)),(.d (J a)),(.d (J q)),(.d (.bool t)),.own 0],(.d (.bool ok))],[.row 5 (ks.map Zh.enc) true false])
theorem Zwo (sS:List Zb) (sO sD:List Zc) (sL sC:Int) (qL qW qH:Int) (qF:List Box) (i:Nat) (pW pH:Int) (pT:Bool) (pK:Int) (hv:ZL (Zo.mk sS sO sD sL sC)) (a:Nat) (ha:sS[a]?=some (Zb.mk qL qW qH qF)) (y:Zc) (hy:sO[i]?=some y) (hyp:y.Pane=(Pane.mk pW pH pT pK)) (hok:okP (Pane.mk pW pH pT pK) (Zb.mk qL qW qH qF)=true) :
  ∃ (t:Bool) (b:Box),((Xt (Zb.mk qL qW qH qF) pW pH=some b∧t=false)∨(Xt (Zb.mk qL qW qH qF) pW pH=none∧Xt (Zb.mk qL qW qH qF) pH pW=some b∧t=true))∧ZlT ⟨qW,qH,sO.map Zc.Pane⟩ ⟨i,t,b⟩∧VW ⟨qW,qH,sO.map Zc.Pane⟩ ∧
   Zg Xs Ms Zdy [(.d (.agg [.sl (sS.map Zb.enc),.sl (sO.map Zc.enc),.sl (sD.map Zc.enc),J sL,J sC])),(.d (.agg [J qL,J qW,J qH,.sl (qF.map Box.enc)])),(.d (J i)),(.d (.agg [J pW,J pH,.bool pT,J pK]))] []=some (cfV (QB (Zo.mk sS sO sD sL sC) (ZlQ i t b (Zb.mk qL qW qH qF))).isSome (ZlQ i t b (Zb.mk qL qW qH qF))):=by
 have hqv:=ZY hv.1.2 _ (List.mem_of_getElem? ha)
 have hxv:=hqv.1
 simp only at hxv
 have hp:VP (Pane.mk pW pH pT pK):=by rw[← hyp];exact(Qb hv.2.1 y (List.mem_of_getElem? hy)).1
 have hpw:1≤pW∧pW≤200∧1≤pH∧pH≤200:=⟨hp.1,hp.2.1,hp.2.2.1,hp.2.2.2.1⟩
 have e1:=ZiM sS sO sD sL sC qL
 unfold Zwd at e1
 have hlab:=ZmY (k:=0) hv.1.2 ha
 rw[Nat.zero_add] at hlab
 rw[if_pos hv] at e1
 simp only at hlab
 simp only[Zdu hlab ha] at e1
 unfold wkV at e1
 simp only at e1
 have f1:=ZaU qL qW qH qF pW pH hqv ⟨hpw.1,hpw.2.1⟩ hpw.2.2
 have f2:=ZaU qL qW qH qF pH pW hqv hpw.2.2 ⟨hpw.1,hpw.2.1⟩
 have hO8:=hv.2.1.1
 simp only at hO8
 have hvw:VW ⟨qW,qH,sO.map Zc.Pane⟩:=by
  refine⟨by simp only;omega,by simp only;omega,by simp only;omega,by simp only;omega,by simp;omega,fun z hz=>?_⟩
  obtain⟨x,hx,rfl⟩:=List.mem_map.1 hz
  exact(Qb hv.2.1 x hx).1
 have hpi:(sO.map Zc.Pane)[i]?=some (Pane.mk pW pH pT pK):=by rw[List.getElem?_map,hy,← hyp];rfl
 have fin:∀ (t:Bool) (b:Box),ZlT ⟨qW,qH,sO.map Zc.Pane⟩ ⟨i,t,b⟩→∃ (o a' p' : Int) (t' : Bool) (ks:List Zh),(Qk i t b.X b.Y b.W b.H 0 0 qW qH).plan=.mk o a' p' t' ks ∧
   Zg Xs Ms Xp [.d (.agg [J qW,J qH,.sl ((sO.map Zc.Pane).map Pane.enc)]),.d (.sl [.agg [J (i:Int),.bool t,J b.X,J b.Y,J b.W,J b.H]])] []=some (.tup [.agg [(.d (J o)),(.d (J (a'))),(.d (J (p'))),(.d (.bool (t'))),.own 0],(.d (.bool true))],[.row 5 (ks.map Zh.enc) true false]):=by
  intro t b hc
  have e:=Zb9 qW qH (sO.map Zc.Pane) [⟨i,t,b⟩]
  rw[(Zrj hvw hc).1] at e
  simp only at e
  cases hpp:(Qk i t b.X b.Y b.W b.H 0 0 qW qH).plan with
  | mk o a' p' t' ks=>
   rw[hpp] at e
   exact⟨o,a',p',t',ks,rfl,e⟩
 cases h1:Xt (Zb.mk qL qW qH qF) pW pH with
 | some b=>
  obtain⟨g1,g2,g3,g4,g5,g6,_⟩:=ZeG h1
  simp only at g2 g4
  have hc:ZlT ⟨qW,qH,sO.map Zc.Pane⟩ ⟨i,false,b⟩:=by
   refine⟨⟨?_,?_⟩,?_⟩
   ·simp only[VB];omega
   ·simp only[QJ];omega
   ·simp[YH,hpi,g5,g6]
  refine⟨false,b,.inl ⟨rfl,rfl⟩,hc,hvw,?_⟩
  obtain⟨o,a',p',t',ks,k1,k2⟩:=fin false b hc
  rw[h1] at f1
  have e5:=Uj sS sO sD sL sC 3 qL 0 0 0 0 0 0 false 0 0 o a' p' t' ks
  rw[if_pos hv] at e5
  unfold ZlQ
  simp only[k1]
  obtain⟨bX,bY,bW,bH⟩:=b
  unfold fcV at f1
  simp only at f1 k2
  cases hap:QB (Zo.mk sS sO sD sL sC) ⟨3,qL,⟨0,0,0,0⟩,⟨⟨0,0,false,0⟩,0⟩,.mk o a' p' t' ks⟩ with
  | none=>
   rw[hap] at e5
   unfold shV at e5
   unfold cfV
   refine Zd Xs Ms Vk ZiR (by show 4≤_;decide) ?_
   simp +contextual -implicitDefEqProofs (maxSteps:=10^7) only[go_sem,seval,↓gZ,Vk,e1,f1,k2,e5,Option.isSome_none]
  | some u=>
   rw[hap] at e5
   obtain⟨a1,a2,a3,a4,a5⟩:=u
   unfold shV at e5
   simp only at e5
   unfold cfV
   refine Zd Xs Ms Vk ZiR (by show 4≤_;decide) ?_
   simp +contextual -implicitDefEqProofs (maxSteps:=10^7) only[go_sem,seval,↓gZ,Vk,e1,f1,k2,e5,Option.isSome_some]
 | none=>
  unfold okP at hok
  simp only[h1,Option.isSome_none,Bool.false_or,Bool.and_eq_true] at hok
  obtain⟨hT,hs⟩:=hok
  subst hT
  cases h2:Xt (Zb.mk qL qW qH qF) pH pW with
  | none=>rw[h2] at hs;cases hs
  | some b=>
   obtain⟨g1,g2,g3,g4,g5,g6,_⟩:=ZeG h2
   simp only at g2 g4
   have hne:¬pW=pH:=fun h=>by rw[h] at h1 h2;rw[h1] at h2;cases h2
   have hc:ZlT ⟨qW,qH,sO.map Zc.Pane⟩ ⟨i,true,b⟩:=by
    refine⟨⟨?_,?_⟩,?_⟩
    ·simp only[VB];omega
    ·simp only[QJ];omega
    ·simp[YH,hpi,g5,g6,hne]
   refine⟨true,b,.inr ⟨rfl,rfl,rfl⟩,hc,hvw,?_⟩
   obtain⟨o,a',p',t',ks,k1,k2⟩:=fin true b hc
   rw[h1] at f1
   rw[h2] at f2
   have e5:=Uj sS sO sD sL sC 3 qL 0 0 0 0 0 0 false 0 0 o a' p' t' ks
   rw[if_pos hv] at e5
   unfold ZlQ
   simp only[k1]
   obtain⟨bX,bY,bW,bH⟩:=b
   unfold fcV at f1 f2
   simp only at f1 f2 k2
   cases hap:QB (Zo.mk sS sO sD sL sC) ⟨3,qL,⟨0,0,0,0⟩,⟨⟨0,0,false,0⟩,0⟩,.mk o a' p' t' ks⟩ with
   | none=>
    rw[hap] at e5
    unfold shV at e5
    unfold cfV
    refine Zd Xs Ms Vk ZiR (by show 4≤_;decide) ?_
    simp +contextual -implicitDefEqProofs (maxSteps:=10^7) only[go_sem,seval,↓gZ,Vk,e1,f1,f2,k2,e5,Option.isSome_none]
   | some u=>
    rw[hap] at e5
    obtain⟨a1,a2,a3,a4,a5⟩:=u
    unfold shV at e5
    simp only at e5
    unfold cfV
    refine Zd Xs Ms Vk ZiR (by show 4≤_;decide) ?_
    simp +contextual -implicitDefEqProofs (maxSteps:=10^7) only[go_sem,seval,↓gZ,Vk,e1,f1,f2,k2,e5,Option.isSome_some]
theorem Zlg (sS:List Zb) (sO sD:List Zc) (sL sC:Int) (hv:¬ZL (Zo.mk sS sO sD sL sC)):Zg Xs Ms YU [(.d (.agg [.sl (sS.map Zb.enc),.sl (sO.map Zc.enc),.sl (sD.map Zc.enc),J sL,J sC]))] []=some (nxV none):=by
 have e1:=Qc sS sO sD sL sC
 rw[decide_eq_false hv] at e1
 unfold nxV
 refine Zd Xs Ms Jd ZoB (by show 1≤_;decide) ?_
 simp +contextual -implicitDefEqProofs (maxSteps:=10^7) only[go_sem,seval,↓gZ,Jd,e1]
theorem Zfv (sS:List Zb) (sO sD:List Zc) (sL sC:Int) (hv:ZL (Zo.mk sS sO sD sL sC)):Zg Xs Ms YU [(.d (.agg [.sl (sS.map Zb.enc),.sl (sO.map Zc.enc),.sl (sD.map Zc.enc),J sL,J sC]))] []=some (nxV (Zar (Zo.mk sS sO sD sL sC))):=by
 have e1:=Qc sS sO sD sL sC
 rw[decide_eq_true hv] at e1
 have hO8:=hv.2.1.1
 have hS20:=hv.1.1
 simp only at hO8 hS20
 refine Zd Xs Ms Jd ZoB (by show 1≤_;decide) ?_
 simp +contextual -implicitDefEqProofs (maxSteps:=10^7) only[go_sem,seval,↓gZ,Jd,e1]
 refine Zr Xs Ms (st0:=?st0) (α:=Nat) (fun i=>[(17,.d (J (i:Int)))]) (fun _=>[]) (fun i=>i≤sO.length∧U1 (Zo.mk sS sO sD sL sC) (sO.drop i) i=Zar (Zo.mk sS sO sD sL sC)) (fun i=>sO.length-i) 0 ?hc ⟨by omega,by simp[Zar]⟩ ?h0 ?step
 case hc=>simp +contextual -implicitDefEqProofs (maxSteps:=10^7) only[go_sem,seval,↓gZ]<;>exact rfl
 case h0=>rfl
 case step=>
  intro i ⟨hi,hp⟩ ih
  by_cases hlt:i<sO.length
  ·obtain⟨x,hx⟩:=Zp hlt
   have hw:=Zk (k:=i) (by omega)
   rw[ZjZ hx] at hp
   have hxv:=Qb hv.2.1 x (List.mem_of_getElem? hx)
   have hxx:=hx
   obtain⟨⟨W,H,T,K⟩,C⟩:=x
   simp only at hxv
   have ef:=Zri sS W H T K hv.1 hxv.1
   unfold Ztw at ef
   rw[if_pos ⟨hv.1,hxv.1⟩] at ef
   unfold ZqX at hp
   simp only at hp
   rcases ZqU sS ⟨W,H,T,K⟩ with h0 | ⟨j,q,hj,hq,hok⟩
   ·rw[if_pos h0] at ef hp
    simp only at hp
    simp +contextual -implicitDefEqProofs (maxSteps:=10^7) only[go_sem,seval,↓gZ,hx,hlt,hw,ef]
    refine ih (i+1) _ ⟨by omega,hp⟩ (by omega) ?_
    simp +contextual -implicitDefEqProofs (maxSteps:=10^7) only[go_sem,seval,↓gZ]
   ·have hj0:¬(j:Int)<0:=by omega
    rw[hj,if_neg hj0,Int.toNat_natCast,hq] at ef hp
    simp only at hp ef
    have hqv:=ZY hv.1.2 q (List.mem_of_getElem? hq)
    have hjl:=(List.getElem?_eq_some_iff.1 hq).1
    have el:=Y4 sS q.Label (by omega)
    rw[ZmY hv.1.2 hq,Nat.zero_add] at el
    have hl1:0<q.Label:=by have:=hqv.1;omega
    obtain⟨qL,qW,qH,qF⟩:=q
    simp only at ef el hp hl1
    obtain⟨t,b,hb,_,_,ec⟩:=Zwo sS sO sD sL sC qL qW qH qF i W H T K hv j hq _ hxx rfl hok
    have hp:(if (QB (Zo.mk sS sO sD sL sC) (ZlQ i t b ⟨qL,qW,qH,qF⟩)).isSome=true then some (ZlQ i t b ⟨qL,qW,qH,qF⟩) else U1 (Zo.mk sS sO sD sL sC) (sO.drop (i+1)) (i+1))=Zar (Zo.mk sS sO sD sL sC):=by
     rcases hb with ⟨k1,rfl⟩ | ⟨k1,k2,rfl⟩
     ·rw[k1] at hp;exact hp
     ·rw[k1,k2] at hp;exact hp
    unfold ZlQ at ec hp
    cases hpp:(Qk i t b.X b.Y b.W b.H 0 0 qW qH).plan with
    | mk o a p t' ks=>
     simp only[hpp] at ec hp
     unfold cfV at ec
     simp only at ec
     cases hap:QB (Zo.mk sS sO sD sL sC) ⟨3,qL,⟨0,0,0,0⟩,⟨⟨0,0,false,0⟩,0⟩,.mk o a p t' ks⟩ with
     | none=>
      rw[hap] at ec hp
      simp only[Option.isSome_none,Bool.false_eq_true,if_false] at ec hp
      simp +contextual -implicitDefEqProofs (maxSteps:=10^7) only[go_sem,seval,↓gZ,hx,hlt,hw,ef,el,ec,hl1,hjl,hq]
      refine ih (i+1) _ ⟨by omega,hp⟩ (by omega) ?_
      simp +contextual -implicitDefEqProofs (maxSteps:=10^7) only[go_sem,seval,↓gZ]
     | some u=>
      rw[hap] at ec hp
      simp only[Option.isSome_some,if_true] at ec hp
      rw[← hp]
      unfold nxV
      simp +contextual -implicitDefEqProofs (maxSteps:=10^7) only[go_sem,seval,↓gZ,hx,hlt,hw,ef,el,ec,hl1,hjl,hq]
  ·have:i=sO.length:=by omega
   subst this
   rw[ZqY] at hp
   rw[← hp]
   unfold nxV
   simp +contextual -implicitDefEqProofs (maxSteps:=10^7) only[go_sem,seval,↓gZ]
theorem Zm3 (sS:List Zb) (sO sD:List Zc) (sL sC:Int) (hs:Zbv (Zo.mk sS sO sD sL sC)):Zg Xs Ms VK [(.d (.agg [.sl (sS.map Zb.enc),.sl (sO.map Zc.enc),.sl (sD.map Zc.enc),J sL,J sC]))] []=some (nxV (if ZL (Zo.mk sS sO sD sL sC) then Zar (Zo.mk sS sO sD sL sC) else none)):=by
 have e1:=Y7 sS sO sD sL sC hs
 by_cases hv:ZL (Zo.mk sS sO sD sL sC)
 ·rw[decide_eq_true hv] at e1
  rw[if_pos hv]
  have e2:=ZmZ sS sO sD sL sC (ZmW hv)
  cases hn:Zar (Zo.mk sS sO sD sL sC) with
  | none=>
   rw[hn] at e2
   unfold nxV at e2 ⊢
   refine Zd Xs Ms VT Zj3 (by show 1≤_;decide) ?_
   simp +contextual -implicitDefEqProofs (maxSteps:=10^7) only[go_sem,seval,↓gZ,VT,e1,e2]
  | some e=>
   rw[hn] at e2
   obtain⟨K,Lb,⟨X,Y,W,H⟩,⟨⟨pW,pH,pT,pK⟩,Ct⟩,⟨o,a,q,t,ks⟩⟩:=e
   unfold nxV at e2 ⊢
   refine Zd Xs Ms VT Zj3 (by show 1≤_;decide) ?_
   simp +contextual -implicitDefEqProofs (maxSteps:=10^7) only[go_sem,seval,↓gZ,VT,e1,e2]
 ·rw[decide_eq_false hv] at e1
  rw[if_neg hv]
  unfold nxV
  refine Zd Xs Ms VT Zj3 (by show 1≤_;decide) ?_
  simp +contextual -implicitDefEqProofs (maxSteps:=10^7) only[go_sem,seval,↓gZ,VT,e1]
def Zm4:List Int→Int
 | []=>0
 | x :: l=>x+Zm4 l
theorem Zwp:∀ {u:List Int} {n:Nat} {v w:Int},u[n]?=some v→Zm4 (u.set n w)=Zm4 u-v+w
 | [],n,v,w,h=>by simp at h
 | x :: u,0,v,w,h=>by
  simp only[List.getElem?_cons_zero,Option.some.injEq] at h
  subst h
  simp only[List.set_cons_zero,Zm4];omega
 | x :: u,n+1,v,w,h=>by
  simp only[List.getElem?_cons_succ] at h
  simp only[List.set_cons_succ,Zm4,Zwp h];omega
theorem ZtG:∀ (l:List L.Place) (u:List Int),(∀ c∈l,∃ n:Nat,c.Pane=(n:Int)∧n<u.length)→Zm4 (Zaq u l)=Zm4 u+l.length
 | [],u,_=>by simp[Zaq]
 | x :: l,u,h=>by
  obtain⟨n,h1,h2⟩:=h x (by simp)
  obtain⟨v,hv⟩:=Zp h2
  rw[Zaq,h1,Int.toNat_natCast,hv,ZtG l _ (fun c hc=>by
   obtain⟨m,a,b⟩:=h c (by simp[hc])
   exact⟨m,a,by simpa using b⟩),Zwp hv]
  simp only[Option.getD_some,List.length_cons];omega
theorem Zwq:∀ n:Nat,Zm4 (List.replicate n 0)=0
 | 0=>rfl
 | n+1=>by simp[List.replicate_succ,Zm4,Zwq n]
theorem Zzz {k:ZE} {p:Zh} (hv:Wm k p=true):Zm4 (Zfh k p)=((QF k p).filterMap Xr).length:=by
 obtain⟨b,hb,hpb,hvw,hcnt,hfit,hpt⟩:=Xm hv
 unfold Zfh
 rw[hpt,Vt,ZtG _ _ (fun c hc=>by
  obtain⟨n,h1,h2⟩:=ZeF hfit c hc
  exact⟨n,h1,by simpa using h2⟩),Zwq]
 omega
theorem ZlW:∀ {ps:List Pane} {us:List Int} {o d o' d' : List Zc},us.length=ps.length→Wt ps us o d=some (o',d')→Qg d'=Qg d+Zm4 us
 | [],us,o,d,o',d',hl,h=>by
  cases us with
  | nil=>unfold Wt at h;cases h;simp[Zm4]
  | cons c us=>simp at hl
 | p :: ps,[],o,d,o',d',hl,h=>by simp at hl
 | p :: ps,c :: us,o,d,o',d',hl,h=>by
  rw[Wt] at h
  simp only[List.length_cons,Nat.add_right_cancel_iff] at hl
  split at h
  ·rename_i h0
   rw[ZlW hl h,Zm4,h0];omega
  ·split at h
   ·rw[ZlW hl h,Zf4,Zm4];omega
   ·cases h
theorem ZCv {i:Int} {t:Bool} {X Y W H bX bY bW bH:Int} (h:ZgD X Y W H bX bY bW bH):plc (Qk i t X Y W H bX bY bW bH) bX bY bW bH=[⟨i,t,⟨X,Y,W,H⟩⟩]:=by
 have h0:=h
 unfold ZgD at h0
 have q4:∀ (y h' : Int),y=Y→Y+H≤y+h'→plc (if Y+H<Y+h' then BT.cut false H (.pane i t) .waste else .pane i t) X y W h'=[⟨i,t,⟨X,Y,W,H⟩⟩]:=by
  intro y h' e e2
  subst e
  split
  ·simp[plc]
  ·have:h'=H:=by omega
   simp[plc,this]
 have q3:plc (if bY<Y then BT.cut false (Y-bY) .waste (if Y+H<bY+bH then BT.cut false H (.pane i t) .waste else .pane i t) else (if Y+H<bY+bH then BT.cut false H (.pane i t) .waste else .pane i t)) X bY W bH=[⟨i,t,⟨X,Y,W,H⟩⟩]:=by
  split
  ·have e:Y+H<bY+bH↔Y+H<Y+(bH-(Y-bY)):=by omega
   simp only[plc,Bool.false_eq_true,if_false,List.nil_append,e]
   exact q4 _ _ (by omega) (by omega)
  ·have e:bY=Y:=by omega
   subst e
   exact q4 _ _ rfl (by omega)
 have q2:∀ (x w' : Int),x=X→X+W≤x+w'→plc (if X+W<X+w' then BT.cut true W (if bY<Y then BT.cut false (Y-bY) .waste (if Y+H<bY+bH then BT.cut false H (.pane i t) .waste else .pane i t) else (if Y+H<bY+bH then BT.cut false H (.pane i t) .waste else .pane i t)) .waste else (if bY<Y then BT.cut false (Y-bY) .waste (if Y+H<bY+bH then BT.cut false H (.pane i t) .waste else .pane i t) else (if Y+H<bY+bH then BT.cut false H (.pane i t) .waste else .pane i t))) x bY w' bH=[⟨i,t,⟨X,Y,W,H⟩⟩]:=by
  intro x w' e e2
  subst e
  split
  ·simp only[plc,if_true,List.append_nil,q3]
  ·have:w'=W:=by omega
   rw[this];exact q3
 unfold Qk
 simp only
 split
 ·have e:X+W<bX+bW↔X+W<X+(bW-(X-bX)):=by omega
  simp only[plc,if_true,List.nil_append,e]
  exact q2 _ _ (by omega) (by omega)
 ·have e:bX=X:=by omega
  subst e
  exact q2 _ _ rfl (by omega)
theorem Zoy {s:Zo} (hv:ZL s):∀ {m:Nat} {i:Nat} {e:Zv},s.Opn.length-i=m→U1 s (s.Opn.drop i) i=some e→∃ (n j:Nat) (x:Zc) (q:Zb) (t:Bool) (b:Box),s.Opn[n]?=some x∧s.Stock[j]?=some q∧e=ZlQ n t b q∧((Xt q x.Pane.W x.Pane.H=some b∧t=false)∨(Xt q x.Pane.W x.Pane.H=none∧Xt q x.Pane.H x.Pane.W=some b∧t=true))∧okP x.Pane q=true∧∃ u,QB s e=some u
 | 0,i,e,hm,h=>by
  rw[List.drop_eq_nil_of_le (by omega)] at h
  simp[U1] at h
 | m+1,i,e,hm,h=>by
  obtain⟨x,hx⟩:=Zp (l:=s.Opn) (k:=i) (by omega)
  rw[ZjZ hx] at h
  have nx:=fun h=>Zoy hv (m:=m) (i:=i+1) (e:=e) (by omega) h
  unfold ZqX at h
  rcases ZqU s.Stock x.Pane with h0 | ⟨j,q,hj,hq,hok⟩
  ·rw[if_pos h0] at h;exact nx h
  ·rw[hj,if_neg (by omega),Int.toNat_natCast,hq] at h
   simp only at h
   cases h1:Xt q x.Pane.W x.Pane.H with
   | some b=>
    rw[h1] at h
    simp only at h
    split at h
    ·rename_i ha
     cases h
     exact⟨i,j,x,q,false,b,hx,hq,rfl,.inl ⟨h1,rfl⟩,hok,Option.isSome_iff_exists.1 ha⟩
    ·exact nx h
   | none=>
    rw[h1] at h
    simp only at h
    cases h2:Xt q x.Pane.H x.Pane.W with
    | some b=>
     rw[h2] at h
     simp only at h
     split at h
     ·rename_i ha
      cases h
      exact⟨i,j,x,q,true,b,hx,hq,rfl,.inr ⟨h1,h2,rfl⟩,hok,Option.isSome_iff_exists.1 ha⟩
     ·exact nx h
    | none=>rw[h2] at h;exact nx h
structure NFacts (s:Zo) (e:Zv) (u:Zo) (n j:Nat) (x:Zc) (q:Zb) (t:Bool) (b:Box):Prop where
 fx:s.Opn[n]?=some x
 fq:s.Stock[j]?=some q
 lab:QK 0 s.Stock q.Label=(j:Int)
 fe:e=ZlQ n t b q
 ap:QB s e=some u
 vw:VW ⟨q.W,q.H,s.Opn.map Zc.Pane⟩
 pl:ZlT ⟨q.W,q.H,s.Opn.map Zc.Pane⟩ ⟨n,t,b⟩
 good:WJ q ⟨q.W,q.H,s.Opn.map Zc.Pane⟩ e.plan
 places:(QF ⟨q.W,q.H,s.Opn.map Zc.Pane⟩ e.plan).filterMap Xr=[⟨n,t,b⟩]
 clr:Qf q.Flaws b
 done:Qg u.Done=Qg s.Done+1
 opn:Qg u.Opn=Qg s.Opn-1
theorem Zoz {s:Zo} {e:Zv} (hv:ZL s) (h:Zar s=some e):∃ u n j x q t b,NFacts s e u n j x q t b:=by
 obtain⟨n,j,x,q,t,b,hx,hq,he,hb,hok,u,hu⟩:=Zoy hv (i:=0) rfl (by simpa [Zar] using h)
 have hqv:=ZY hv.1.2 q (List.mem_of_getElem? hq)
 have hxv:=hqv.1
 have hp:=(Qb hv.2.1 x (List.mem_of_getElem? hx)).1
 have hpw:1≤x.Pane.W∧x.Pane.W≤200∧1≤x.Pane.H∧x.Pane.H≤200:=⟨hp.1,hp.2.1,hp.2.2.1,hp.2.2.2.1⟩
 have hO8:=hv.2.1.1
 have hvw:VW ⟨q.W,q.H,s.Opn.map Zc.Pane⟩:=by
  refine⟨by simp only;omega,by simp only;omega,by simp only;omega,by simp only;omega,by simp;omega,fun z hz=>?_⟩
  obtain⟨y,hy,rfl⟩:=List.mem_map.1 hz
  exact(Qb hv.2.1 y hy).1
 have hpi:(s.Opn.map Zc.Pane)[n]?=some x.Pane:=by rw[List.getElem?_map,hx];rfl
 have hlab:=ZmY (k:=0) hv.1.2 hq
 rw[Nat.zero_add] at hlab
 have hbb:Qf q.Flaws b∧ZlT ⟨q.W,q.H,s.Opn.map Zc.Pane⟩ ⟨n,t,b⟩:=by
  rcases hb with ⟨k1,rfl⟩ | ⟨k1,k2,rfl⟩
  ·obtain⟨g1,g2,g3,g4,g5,g6,g7⟩:=ZeG k1
   refine⟨g7,⟨?_,?_⟩,?_⟩
   ·simp only[VB];omega
   ·simp only[QJ];omega
   ·simp[YH,hpi,g5,g6]
  ·obtain⟨g1,g2,g3,g4,g5,g6,g7⟩:=ZeG k2
   have hne:¬x.Pane.W=x.Pane.H:=fun h=>by rw[h] at k1 k2;rw[k1] at k2;cases k2
   unfold okP at hok
   simp only[k1,Option.isSome_none,Bool.false_or,Bool.and_eq_true] at hok
   refine⟨g7,⟨?_,?_⟩,?_⟩
   ·simp only[VB];omega
   ·simp only[QJ];omega
   ·simp[YH,hpi,g5,g6,hne,hok.1]
 have hin:ZgD b.X b.Y b.W b.H 0 0 q.W q.H:=by
  have:=hbb.2.1
  simp only[VB,QJ] at this
  unfold ZgD;omega
 have hf:=ZlU hv hu
 have hk:e.kind=3:=by rw[he];rfl
 obtain⟨hev,_⟩:=Zwm hu
 have hcs:evS s e=ZgL s e:=by unfold evS;rw[if_neg (by omega),if_neg (by omega),if_neg (by omega),if_neg (by omega),if_neg (by omega),if_pos hk]
 rw[hcs] at hev
 have hel:e.label=q.Label:=by rw[he];rfl
 have hep:e.plan=(Qk n t b.X b.Y b.W b.H 0 0 q.W q.H).plan:=by rw[he];rfl
 unfold ZgL at hev
 rw[hel,hlab,Int.toNat_natCast,hq] at hev
 simp only at hev
 cases hst:ZeD s.Stock q.Label ⟨q.W,q.H,s.Opn.map Zc.Pane⟩ e.plan 5 with
 | none=>rw[hst] at hev;cases hev
 | some R=>
  rw[hst] at hev
  simp only at hev
  have hgood:WJ q ⟨q.W,q.H,s.Opn.map Zc.Pane⟩ e.plan:=by
   unfold ZeD at hst
   split at hst
   ·rw[hlab,Int.toNat_natCast,hq] at hst
    simp only at hst
    split at hst
    ·rename_i hg;exact hg.1
    ·cases hst
   ·cases hst
  have hvp:=hgood.1
  have hplaces:(QF ⟨q.W,q.H,s.Opn.map Zc.Pane⟩ e.plan).filterMap Xr=[⟨n,t,b⟩]:=by
   obtain⟨B,hB,hpb,_,_,_,hpt⟩:=Xm hvp
   rw[hep,Znp] at hB
   cases hB
   rw[hpt,Vt]
   exact ZCv hin
  split at hev
  ·split at hev
   ·cases hev
   ·rename_i o d hg
    cases hev
    have hd:=ZlW (by rw[(Zg2 hvp).1]) hg
    rw[Zzz hvp,hplaces] at hd
    have hc:=hf.cnt
    rw[if_neg (by omega)] at hc
    simp only[List.length_cons,List.length_nil] at hd
    have hc:Qg o+Qg d=Qg s.Opn+Qg s.Done+0:=hc
    exact⟨_,n,j,x,q,t,b,hx,hq,hlab,he,hu,hvw,hbb.2,hgood,hplaces,hbb.1,(by show Qg d=_;omega),(by show Qg o=_;omega)⟩
  ·cases hev
theorem UK (K Lb X Y W H pW pH:Int) (pT:Bool) (pK Ct:Int) (B:BT):Zg Xs Ms XK [.d (Zv.enc ⟨K,Lb,⟨X,Y,W,H⟩,⟨⟨pW,pH,pT,pK⟩,Ct⟩,B.plan⟩),.d (Zv.enc ⟨K,Lb,⟨X,Y,W,H⟩,⟨⟨pW,pH,pT,pK⟩,Ct⟩,B.plan⟩)] []=some ((.d (.bool true)),[]):=by
 have e1:=Wu B
 cases hB:B.plan with
 | mk o a q t ks=>
  rw[hB,Zh.enc_mk] at e1
  rw[Zv.enc_mk]
  refine Zd Xs Ms Je Zrl (by show 2≤_;decide) ?_
  simp +contextual -implicitDefEqProofs (maxSteps:=10^7) only[go_sem,seval,↓gZ,Je,e1]
theorem Zsc (qL qW qH:Int) (qF:List Box) (bX bY bW bH:Int) (hq:VPc (Zb.mk qL qW qH qF)) (hb:VB (Box.mk bX bY bW bH)) (hi:QJ (Box.mk bX bY bW bH) ⟨0,0,qW,qH⟩) (hc:Qf qF (Box.mk bX bY bW bH)):Zg Xs Ms ZbC [(.d (.agg [J qL,J qW,J qH,.sl (qF.map Box.enc)])),(.d (.agg [J bX,J bY,J bW,J bH]))] []=some ((.d (.bool true)),[]):=by
 have e0:=QT qL qW qH qF
 rw[decide_eq_true hq] at e0
 have e1:=Zap qL qW qH qF
 have hx:=hq.1
 simp only at hx
 have e2:=Zal bX bY bW bH 0 0 qW qH
 rw[decide_eq_true ⟨hb,by simp only[VB];omega,hi⟩] at e2
 have e3:=Zgz qF bX bY bW bH (fun f hf=>(hq.2 f hf).1) hb (by omega)
 rw[decide_eq_true hc] at e3
 refine Zd Xs Ms ZeI Zwr (by show 2≤_;decide) ?_
 simp +contextual -implicitDefEqProofs (maxSteps:=10^7) only[go_sem,seval,↓gZ,ZeI,e0,e1,e2,e3,Bool.not_true]
theorem Zib (code:List UInt8):∃ r,Zg Xs Ms YC [.d (.sl (code.map WT))] []=some r∧PDrS r:=by
 have hb:(code.take 2000).length≤2000:=by simp;omega
 have en:=ZjK code
 obtain⟨r,e1,S,O,D,L,C,f,g,h,p',h1,h2,h3,rfl⟩:=Zuw (code.take 2000) hb 0 (by omega)
 simp only[cast0] at e1
 generalize code.take 2000=bs at *
 refine Zjm Xs Ms Uk Zpb (by show 1≤_;decide) ?_
 simp +contextual -implicitDefEqProofs (maxSteps:=10^7) only[go_sem,seval,↓gZ,Uk,en,e1]
 exact⟨S,O,D,L,C,_,_,_,h1,rfl⟩
theorem Zrk (code:List UInt8):Zg Xs Ms Zau [.d (.sl (code.map WT))] []=some ((.d (.bool true)),[]):=by
 have nb:∀ a b:Bool,Zfn .neq true (.d (.bool a)) (.d (.bool b))=Qm (.d (.bool (!(a==b)))):=fun _ _=>rfl
 have bb:∀ a b:Bool,Zfn .eql true (.d (.bool a)) (.d (.bool b))=Qm (.d (.bool (a==b))):=fun _ _=>rfl
 by_cases hlen:(1048576:Int)<code.length
 ·refine Zd Xs Ms Ym Zhy (by show 1≤_;decide) ?_
  simp +contextual -implicitDefEqProofs (maxSteps:=10^7) only[go_sem,seval,↓gZ,Ym,hlen]
 ·obtain⟨r,ed,S,O,D,L,C,f,g,h,hA,rfl⟩:=Zib code
  have e2:=Zm3 S O D L C (Zwc hA).1
  have hn:(∃ e,ZL (Zo.mk S O D L C)∧Zar (Zo.mk S O D L C)=some e)∨(Zg Xs Ms YU [.d (.agg [.sl (S.map Zb.enc),.sl (O.map Zc.enc),.sl (D.map Zc.enc),J L,J C])] []=some (nxV none)∧Zg Xs Ms VK [.d (.agg [.sl (S.map Zb.enc),.sl (O.map Zc.enc),.sl (D.map Zc.enc),J L,J C])] []=some (nxV none)):=by
   by_cases hv:ZL (Zo.mk S O D L C)
   ·rw[if_pos hv] at e2
    have e1:=Zfv S O D L C hv
    cases hx:Zar (Zo.mk S O D L C) with
    | some e=>exact .inl ⟨e,hv,rfl⟩
    | none=>rw[hx] at e1 e2;exact .inr ⟨e1,e2⟩
   ·rw[if_neg hv] at e2
    exact .inr ⟨Zlg S O D L C hv,e2⟩
  rcases hn with ⟨e,hv,hx⟩ | ⟨e1,e2⟩
  ·rw[if_pos hv,hx] at e2
   have e1:=Zfv S O D L C hv
   rw[hx] at e1
   obtain⟨u,n,j,x,q,t,b,F⟩:=Zoz hv hx
   have hap:=F.ap
   have hu:=U0 hap
   have hee:=F.fe
   have h1:=F.fq
   have h2:=F.lab
   have h3:=F.vw
   have h4:=F.pl
   have h5:=F.good
   have h6:=F.places
   have h7:=F.clr
   have h8:=F.done
   have h9:=F.opn
   have hqv:=ZY hv.1.2 q (List.mem_of_getElem? h1)
   obtain⟨qL,qW,qH,qF⟩:=q
   obtain⟨bX,bY,bW,bH⟩:=b
   unfold ZlQ at hee
   simp only at hee h1 h2 h3 h4 h5 h6 h7 hqv
   have e3:=UK 3 qL 0 0 0 0 0 0 false 0 0 (Qk n t bX bY bW bH 0 0 qW qH)
   have e9:=Wu (Qk n t bX bY bW bH 0 0 qW qH)
   have ep:=Zb9 qW qH (O.map Zc.Pane) [⟨n,t,⟨bX,bY,bW,bH⟩⟩]
   rw[(Zrj h3 h4).1] at ep
   simp only at ep
   cases hpp:(Qk n t bX bY bW bH 0 0 qW qH).plan with
   | mk o a p t' ks=>
    rw[hpp,Zv.enc_mk] at e3
    rw[hpp,Zh.enc_mk] at e9
    rw[hpp] at hee ep
    unfold Zb6 at ep
    subst hee
    unfold nxV at e1 e2
    simp only at e1 e2 h5 h6
    have e4:=Uj S O D L C 3 qL 0 0 0 0 0 0 false 0 0 o a p t' ks
    rw[if_pos hv,hap] at e4
    obtain⟨zS,zO,zD,zL,zC⟩:=u
    unfold shV at e4
    simp only at e4 h8 h9
    have c1:=Zdw zO hu.2.1
    have c2:=Zdw zD hu.2.2.1
    have c3:=Zdw O hv.2.1
    have c4:=Zdw D hv.2.2.1
    have g1:=UY (l:=O) (fun x hx=>(Qb hv.2.1 x hx).2.1)
    have g2:=UY (l:=D) (fun x hx=>(Qb hv.2.2.1 x hx).2.1)
    have g3:=hv.2.1.2.2
    have g4:=hv.2.2.1.2.2
    simp only at g3 g4
    have u1:=wi (Qg O-1) (by omega) (by omega)
    have u2:=wi (Qg D+1) (by omega) (by omega)
    refine Zd Xs Ms Ym Zhy (by show 1≤_;decide) ?_
    simp +contextual -implicitDefEqProofs (maxSteps:=10^7) only[go_sem,seval,↓gZ,Ym,nb,bb,hlen,ed,e1,e2,e3,e4,c1,c2,c3,c4,u1,u2,h8,h9]
  ·unfold nxV at e1 e2
   have e3:=UK 0 0 0 0 0 0 0 0 false 0 0 .waste
   simp only[BT.plan,Zv.enc_mk,List.map_nil] at e3
   refine Zd Xs Ms Ym Zhy (by show 1≤_;decide) ?_
   simp +contextual -implicitDefEqProofs (maxSteps:=10^7) only[go_sem,seval,↓gZ,Ym,nb,bb,hlen,ed,e1,e2,e3]
theorem ZlX (code:List UInt8):Zg Xs Ms VJ [.d (.sl (code.map WT))] []=some ((.d (.bool true)),[]):=by
 have nb:∀ a b:Bool,Zfn .neq true (.d (.bool a)) (.d (.bool b))=Qm (.d (.bool (!(a==b)))):=fun _ _=>rfl
 have bb:∀ a b:Bool,Zfn .eql true (.d (.bool a)) (.d (.bool b))=Qm (.d (.bool (a==b))):=fun _ _=>rfl
 by_cases hlen:(1048576:Int)<code.length
 ·refine Zd Xs Ms QI Zcb (by show 1≤_;decide) ?_
  simp +contextual -implicitDefEqProofs (maxSteps:=10^7) only[go_sem,seval,↓gZ,QI,hlen]
 ·obtain⟨r,ed,S,O,D,L,C,f,g,h,hA,rfl⟩:=Zib code
  have e2:=Zm3 S O D L C (Zwc hA).1
  have hn:(∃ e,ZL (Zo.mk S O D L C)∧Zar (Zo.mk S O D L C)=some e)∨(Zg Xs Ms YU [.d (.agg [.sl (S.map Zb.enc),.sl (O.map Zc.enc),.sl (D.map Zc.enc),J L,J C])] []=some (nxV none)∧Zg Xs Ms VK [.d (.agg [.sl (S.map Zb.enc),.sl (O.map Zc.enc),.sl (D.map Zc.enc),J L,J C])] []=some (nxV none)):=by
   by_cases hv:ZL (Zo.mk S O D L C)
   ·rw[if_pos hv] at e2
    have e1:=Zfv S O D L C hv
    cases hx:Zar (Zo.mk S O D L C) with
    | some e=>exact .inl ⟨e,hv,rfl⟩
    | none=>rw[hx] at e1 e2;exact .inr ⟨e1,e2⟩
   ·rw[if_neg hv] at e2
    exact .inr ⟨Zlg S O D L C hv,e2⟩
  rcases hn with ⟨e,hv,hx⟩ | ⟨e1,e2⟩
  ·rw[if_pos hv,hx] at e2
   have e1:=Zfv S O D L C hv
   rw[hx] at e1
   obtain⟨u,n,j,x,q,t,b,F⟩:=Zoz hv hx
   have hap:=F.ap
   have hu:=U0 hap
   have hee:=F.fe
   have h1:=F.fq
   have h2:=F.lab
   have h3:=F.vw
   have h4:=F.pl
   have h5:=F.good
   have h6:=F.places
   have h7:=F.clr
   have h8:=F.done
   have h9:=F.opn
   have hqv:=ZY hv.1.2 q (List.mem_of_getElem? h1)
   obtain⟨qL,qW,qH,qF⟩:=q
   obtain⟨bX,bY,bW,bH⟩:=b
   unfold ZlQ at hee
   simp only at hee h1 h2 h3 h4 h5 h6 h7 hqv
   have e3:=UK 3 qL 0 0 0 0 0 0 false 0 0 (Qk n t bX bY bW bH 0 0 qW qH)
   have e9:=Wu (Qk n t bX bY bW bH 0 0 qW qH)
   have ep:=Zb9 qW qH (O.map Zc.Pane) [⟨n,t,⟨bX,bY,bW,bH⟩⟩]
   rw[(Zrj h3 h4).1] at ep
   simp only at ep
   cases hpp:(Qk n t bX bY bW bH 0 0 qW qH).plan with
   | mk o a p t' ks=>
    rw[hpp,Zv.enc_mk] at e3
    rw[hpp,Zh.enc_mk] at e9
    rw[hpp] at hee ep
    unfold Zb6 at ep
    subst hee
    unfold nxV at e1 e2
    simp only at e1 e2 h5 h6
    have e4:=ZiM S O D L C qL
    unfold Zwd at e4
    rw[if_pos hv] at e4
    simp only[Zdu h2 h1] at e4
    unfold wkV at e4
    simp only at e4
    have e5:=Ze1 S qL hv.1 j h2 qL qW qH qF h1
    have e6:=ZdO qW qH (O.map Zc.Pane) (.mk o a p t' ks)
    rw[h6,Zh.enc_mk] at e6
    have e7:=Zk6 qL qW qH qF qW qH (O.map Zc.Pane) (.mk o a p t' ks)
    rw[decide_eq_true ⟨hqv,h5⟩,Zh.enc_mk] at e7
    have e8:=Zsc qL qW qH qF bX bY bW bH hqv h4.1.1 h4.1.2 h7
    simp only[List.map_cons,List.map_nil,Place.enc] at e6 ep
    refine Zd Xs Ms QI Zcb (by show 1≤_;decide) ?_
    simp +contextual -implicitDefEqProofs (maxSteps:=10^7) only[go_sem,seval,↓gZ,QI,nb,bb,hlen,ed,e1,e2,e3,e4,e5,e6,ep,e7,e8,e9]
  ·unfold nxV at e1 e2
   have e3:=UK 0 0 0 0 0 0 0 0 false 0 0 .waste
   simp only[BT.plan,Zv.enc_mk,List.map_nil] at e3
   refine Zd Xs Ms QI Zcb (by show 1≤_;decide) ?_
   simp +contextual -implicitDefEqProofs (maxSteps:=10^7) only[go_sem,seval,↓gZ,QI,nb,bb,hlen,ed,e1,e2,e3]
end Go.Proofs.YtpobhkoombldlaaGreat
