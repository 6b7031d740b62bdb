/- Contracts of the functions,by the abstract semantics. -/
import Derived.Test.YtpobhkoombldlaaGreatECode
import Derived.Test.YtpobhkoombldlaaGreatAbsParts
import Derived.Test.YtpobhkoombldlaaGreatEC6
namespace Go.Proofs.YtpobhkoombldlaaGreat
open Go Go.Abs Go.Abs.E Go.Abs.L
open Nat (reduceMul reduceSub reduceLeDiff reduceEqDiff)
open Int (reduceLE reduceEq reduceToNat reduceNeg)
set_option linter.unusedSimpArgs false
set_option linter.unusedVariables false
set_option maxRecDepth 20000
set_option maxHeartbeats 4000000
theorem Zwa (kW kH:Int) (kP:List Pane) (p:Zh) (hv:Wm (ZD.mk kW kH kP) p=true):Zg Xs Ms Zb9 [(.d (.agg [J kW,J kH,.sl (kP.map Pane.enc)])),.d p.enc] []=some (.own 0,[.row 1 ((Zdi (ZD.mk kW kH kP) p).map ZbI) true false]):=by
 have ev:=Zba kW kH kP p
 rw[hv] at ev
 have e:=Ze4 kW kH kP p
 obtain⟨b,hb,hpb,hvw,hcnt,hfit,hpt⟩:=Xp hv
 simp only at hfit hpt
 have hpn:=ZcE (x:=0) (y:=0) hfit
 have hkl:kP.length≤24:=hvw.2.2.2.2.1
 have hln:(plc b 0 0 kW kH).length≤255:=by
  have:=List.length_filterMap_le Xw (QE (ZD.mk kW kH kP) p)
  rw[hpt,ZaY,Vq] at this
  omega
 unfold Zdi
 rw[hpt,Vq] at e ⊢
 generalize plc b 0 0 kW kH=L at e hpn hln ⊢
 have hmk:(kP.length:Int)*((8:Nat):Int)≤((140737488355328:Nat):Int)∧kP.length≤140737488355328:=by omega
 have hmk2:(kP.length:Int)*8≤140737488355328∧(kP.length:Int)≤140737488355328:=by omega
 clear hv hb hpb hvw hpt hfit
 obtain⟨o,a,q,t,ks⟩:=p
 rw[Zh.enc_mk] at e ev ⊢
 refine Zd Xs Ms Zej ZxJ (by show 2≤_;decide) ?_
 simp +contextual -implicitDefEqProofs (maxSteps:=10^7) only[go_sem,seval,↓gZ,Zej,ev,e,rep_int,hmk,hmk2]
 refine Zr Xs Ms (st0:=?st0) (α:=Nat×List Int) (fun s=>[(20,.d (J (s.1:Int)))]) (fun s=>[(1,.row 1 (s.2.map ZbI) true false)]) (fun s=>s.1≤L.length∧s.2.length=kP.length∧(∀ v∈s.2,0≤v∧v≤s.1)∧J2 s.2 (L.drop s.1)=J2 (List.replicate kP.length 0) L) (fun s=>L.length-s.1) (0,List.replicate kP.length 0) ?hc ⟨by simp,by simp,fun w hw=>by rw[List.eq_of_mem_replicate hw];omega,by simp⟩ ?h0 ?step
 case hc=>simp +contextual -implicitDefEqProofs (maxSteps:=10^7) only[go_sem,seval,↓gZ]<;>exact rfl
 case h0=>rfl
 case step=>
  intro⟨i,u⟩ ⟨hi,hul,huv,hp⟩ ih
  simp only at hi hul huv hp
  by_cases hlt:i<L.length
  ·obtain⟨x,hx⟩:=Zp hlt
   have hw:=Zl (k:=i) (by omega)
   obtain⟨n,hn,hnl⟩:=hpn x (List.mem_of_getElem? hx)
   rw[Zqw hx,hn] at hp
   obtain⟨q',t',⟨X,Y,W,H⟩⟩:=x
   simp only at hn
   subst hn
   have hnu:n<u.length:=by omega
   obtain⟨z,hz⟩:=Zp hnu
   have hzb:=huv z (List.mem_of_getElem? hz)
   have u1:=wi (z+1) (by omega) (by omega)
   rw[Int.toNat_natCast,hz] at hp
   simp +contextual -implicitDefEqProofs (maxSteps:=10^7) only[go_sem,seval,↓gZ,hx,hlt,hw,hnl,hnu,hz,u1,Zo1,hul]
   refine ih (i+1,u.set n (z+1)) _ ⟨by simp only;omega,by simpa using hul,fun v hv=>?_,hp⟩ (by simp only;omega) ?_
   ·simp only
    rcases List.mem_or_eq_of_mem_set hv with h1 | rfl
    ·have:=huv v h1;omega
    ·omega
   ·simp +contextual -implicitDefEqProofs (maxSteps:=10^7) only[go_sem,seval,↓gZ,List.headD_cons,Zo1]
  ·have:i=L.length:=by omega
   subst this
   rw[Zte] at hp
   simp +contextual -implicitDefEqProofs (maxSteps:=10^7) only[go_sem,seval,↓gZ,hp]
theorem ZfK:∀ (b:BT) (x y w h:Int),Zk1 b=false↔plc b x y w h=[]
 | .waste,x,y,w,h=>by simp[Zk1,plc]
 | .pane i t,x,y,w,h=>by simp[Zk1,plc]
 | .cut d a l r,x,y,w,h=>by
  cases d
  ·simp only[Zk1,plc,Bool.or_eq_false_iff,Bool.false_eq_true,if_false,List.append_eq_nil_iff,ZfK l x y w a,ZfK r x (y+a) w (h-a)]
  ·simp only[Zk1,plc,Bool.or_eq_false_iff,if_true,List.append_eq_nil_iff,ZfK l x y a h,ZfK r (x+a) y (w-a) h]
theorem ZqN:∀ (l:List L.Place) (u:List Int) (i:Nat) (v:Int),u[i]?=some v→∃ z,(J2 u l)[i]?=some z∧v≤z
 | [],u,i,v,h=>⟨v,h,Int.le_refl _⟩
 | x :: l,u,i,v,h=>by
  rw[J2]
  by_cases hi:x.Pane.toNat=i
  ·obtain⟨z,h1,h2⟩:=ZqN l (u.set x.Pane.toNat (u[x.Pane.toNat]?.getD 0+1)) i (v+1) (by
    rw[hi,h,List.getElem?_set]
    have:=(List.getElem?_eq_some_iff.1 h).1
    simp[this])
   exact⟨z,h1,by omega⟩
  ·obtain⟨z,h1,h2⟩:=ZqN l (u.set x.Pane.toNat (u[x.Pane.toNat]?.getD 0+1)) i v (by
    rw[List.getElem?_set_ne hi,h])
   exact⟨z,h1,h2⟩
theorem Zzo {l:List L.Place} {u:List Int} (hl:l≠[]) (hu:∀ v∈u,0≤v) (hn:∀ c∈l,∃ n:Nat,c.Pane=(n:Int)∧n<u.length):∃ v∈J2 u l,v≠0:=by
 cases l with
 | nil=>exact absurd rfl hl
 | cons x l=>
  obtain⟨n,h1,h2⟩:=hn x (by simp)
  obtain⟨v,hv⟩:=Zp h2
  have h0:=hu v (List.mem_of_getElem? hv)
  rw[J2,h1,Int.toNat_natCast,hv]
  obtain⟨z,h3,h4⟩:=ZqN l (u.set n (v+1)) n (v+1) (by rw[List.getElem?_set];simp[h2])
  refine⟨z,List.mem_of_getElem? (by simpa using h3),by omega⟩
theorem Ztr {k:ZD} {p:Zh} (hv:Wm k p=true) (hp:ZrQ p=true):∃ v∈Zdi k p,v≠0:=by
 obtain⟨b,hb,hpb,hvw,hcnt,hfit,hpt⟩:=Xp hv
 unfold ZrQ at hp
 rw[hb] at hp
 simp only at hp
 unfold Zdi
 rw[hpt,Vq]
 refine Zzo (fun h=>?_) (fun v hv=>by rw[List.eq_of_mem_replicate hv];omega) (fun c hc=>?_)
 ·rw[(ZfK b _ _ _ _).2 h] at hp;cases hp
 ·obtain⟨n,h1,h2⟩:=ZcE hfit c hc
  exact⟨n,h1,by simpa using h2⟩
theorem ZxI {k:ZD} {p:Zh} (hv:Wm k p=true):(((QE k p).filterMap Xw).length=0)↔ZrQ p=false:=by
 obtain⟨b,hb,hpb,hvw,hcnt,hfit,hpt⟩:=Xp hv
 unfold ZrQ
 rw[hb,hpt,Vq,List.length_eq_zero_iff]
 exact(ZfK b _ _ _ _).symm
def cpV (S:List Zb) (O D:List Zc) (L C:Int):Option Zo→AV×List Zt
 | some t=>((.d (.bool true)),[.box [.own 4,.own 5,.own 6,(.d (J (t.Lost))),(.d (J (t.Came)))],.deep 4 4 (S.map Zb.enc) none,.row 5 (O.map Zc.enc) true false,.row 5 (D.map Zc.enc) true false,.row 4 (t.Stock.map Zb.enc) true false,.row 5 (t.Opn.map Zc.enc) true false,.row 5 (t.Done.map Zc.enc) true false])
 | none=>((.d (.bool false)),[.box [.own 1,.own 2,.own 3,(.d (J L)),(.d (J C))],.deep 4 4 (S.map Zb.enc) none,.row 5 (O.map Zc.enc) true false,.row 5 (D.map Zc.enc) true false])
theorem ZrX (sS:List Zb) (sO sD:List Zc) (sL sC:Int) (eK eL eX eY eW eH epW epH:Int) (epT:Bool) (epK eC eo ea ep:Int) (et:Bool) (ek:List Zh) (hv:ZH (Zo.mk sS sO sD sL sC)):Zg Xs Ms Js [.ptr 0 0,(.d (.agg [J eK,J eL,J eX,J eY,J eW,J eH,J epW,J epH,.bool epT,J epK,J eC,J eo,J ea,J ep,.bool et,.sl (ek.map Zh.enc)]))] [.box [.own 1,.own 2,.own 3,(.d (J sL)),(.d (J sC))],.deep 4 4 (sS.map Zb.enc) none,.row 5 (sO.map Zc.enc) true false,.row 5 (sD.map Zc.enc) true false]=some (cpV sS sO sD sL sC (Zdu (Zo.mk sS sO sD sL sC) (ZF.mk eK eL (Box.mk eX eY eW eH) (Zc.mk (Pane.mk epW epH epT epK) eC) (Zh.mk eo ea ep et ek)))):=by
 obtain⟨⟨h1,h2,h3,h4⟩,h5,h6,h7,h8,h9⟩:=Znf hv
 simp only at h1 h2 h3 h4 h5 h6 h7 h8 h9
 have hO:=hv.2.1
 have hD:=hv.2.2.1
 simp only at hO hD
 have hO8:=hO.1
 have hD8:=hD.1
 have e1:=Zma sS sO sD sL sC eL
 unfold Zyn at e1
 rw[if_pos hv] at e1
 by_cases hf:QJ 0 sS eL<0
 ·have ec:Zdu (Zo.mk sS sO sD sL sC) (ZF.mk eK eL (Box.mk eX eY eW eH) (Zc.mk (Pane.mk epW epH epT epK) eC) (Zh.mk eo ea ep et ek))=none:=by
   unfold Zdu
   simp only
   split
   ·rfl
   ·rw[Zti hf]
  rw[ec]
  simp only[ZfD hf] at e1
  unfold wkV at e1
  simp only at e1
  unfold cpV
  refine Zd Xs Ms XY Zdw (by show 2≤_;decide) ?_
  simp +contextual -implicitDefEqProofs (maxSteps:=10^7) only[go_sem,seval,↓gZ,XY,e1]
 ·obtain⟨a,x,ha,hx⟩:=ZcC (by omega:0≤QJ 0 sS eL)
  simp only[ZdH ha hx] at e1
  unfold wkV at e1
  simp only at e1
  have e3:=ZrK sS eL x.W x.H (sO.map Zc.Pane) (.mk eo ea ep et ek) 5
  have ecs:Zdu (Zo.mk sS sO sD sL sC) (ZF.mk eK eL (Box.mk eX eY eW eH) (Zc.mk (Pane.mk epW epH epT epK) eC) (Zh.mk eo ea ep et ek))=match ZcB sS eL ⟨x.W,x.H,sO.map Zc.Pane⟩ (.mk eo ea ep et ek) 5 with
   | none=>none
   | some R=>if ZrQ (.mk eo ea ep et ek)=true then
     match Vo (sO.map Zc.Pane) (Zdi ⟨x.W,x.H,sO.map Zc.Pane⟩ (.mk eo ea ep et ek)) sO sD with
     | none=>none
     | some (o,d)=>some ⟨R,o,d,sL+YK (ZeB ⟨x.W,x.H,sO.map Zc.Pane⟩ (.mk eo ea ep et ek) 5),sC⟩
    else none:=by
   unfold Zdu
   simp only[ha,Int.toNat_natCast,hx]
   try rfl
  rw[ecs]
  clear ecs
  obtain⟨xL,xW,xH,xF⟩:=x
  simp only at e1 e3 ⊢
  cases hcs:ZcB sS eL ⟨xW,xH,sO.map Zc.Pane⟩ (.mk eo ea ep et ek) 5 with
  | none=>
   rw[hcs] at e3
   unfold Zhl at e3
   simp only
   unfold cpV
   rw[Zh.enc_mk] at e3
   refine Zd Xs Ms XY Zdw (by show 2≤_;decide) ?_
   simp +contextual -implicitDefEqProofs (maxSteps:=10^7) only[go_sem,seval,↓gZ,XY,e1,e3]
  | some R=>
   obtain⟨hvp,hvR,_⟩:=Zh2 hcs
   rw[hcs] at e3
   unfold Zhl at e3
   simp only
   have e4:=Ze4 xW xH (sO.map Zc.Pane) (.mk eo ea ep et ek)
   have hnil:=ZxI hvp
   have e5:=ZrI xW xH (sO.map Zc.Pane) (.mk eo ea ep et ek) 5 hvp (by omega) (by omega)
   have e6:=Zwa xW xH (sO.map Zc.Pane) (.mk eo ea ep et ek) hvp
   have hu:=ZcF hvp
   obtain⟨b,hb,hpb,hvw,hcnt,hfit,hpt⟩:=Xp hvp
   have hla:=Zfv (l:=ZeB ⟨xW,xH,sO.map Zc.Pane⟩ (.mk eo ea ep et ek) 5) (fun c hc=>by
    obtain⟨z,hz,hzc⟩:=List.mem_filterMap.1 hc
    unfold JW at hzc
    split at hzc
    ·cases hzc;exact ZdE hvp c hz
    ·cases hzc)
   have hll:(ZeB ⟨xW,xH,sO.map Zc.Pane⟩ (.mk eo ea ep et ek) 5).length≤255:=by
    refine Nat.le_trans (List.length_filterMap_le _ _) (Nat.le_trans (List.length_filterMap_le _ _) ?_)
    rw[hpt,ZaY];exact hcnt
   have hup:=Ztr hvp
   generalize YK (ZeB ⟨xW,xH,sO.map Zc.Pane⟩ (.mk eo ea ep et ek) 5)=A at e5 hla ⊢
   generalize Zdi ⟨xW,xH,sO.map Zc.Pane⟩ (.mk eo ea ep et ek)=us at e6 hu hup ⊢
   generalize (QE ⟨xW,xH,sO.map Zc.Pane⟩ (.mk eo ea ep et ek)).filterMap Xw=pl at e4 hnil
   rw[Zh.enc_mk] at e3 e4 e5 e6
   simp only[List.length_map] at hu
   have u1:=wi (sL+A) (by omega) (by omega)
   cases hhb:ZrQ (.mk eo ea ep et ek) with
   | false=>
    have hpl:((pl.length:Int)=0):=by have:=hnil.2 hhb;omega
    rw[if_neg (by simp)]
    unfold cpV
    refine Zd Xs Ms XY Zdw (by show 2≤_;decide) ?_
    simp +contextual -implicitDefEqProofs (maxSteps:=10^7) only[go_sem,seval,↓gZ,XY,e1,e3,e4,hpl]
   | true=>
    have hpl:¬((pl.length:Int)=0):=fun h=>by
     have h1:pl.length=0:=by omega
     rw[hnil.1 h1] at hhb;cases hhb
    obtain⟨vz,hvz,hvz0⟩:=hup hhb
    rw[if_pos rfl]
    refine Zd Xs Ms XY Zdw (by show 2≤_;decide) ?_
    simp +contextual -implicitDefEqProofs (maxSteps:=10^7) only[go_sem,seval,↓gZ,XY,e1,e3,e4,e6,hpl]
    refine Zr Xs Ms (st0:=?st0) (α:=Nat) (fun s=>[(65,.d (J (s:Int)))]) (fun _=>[]) (fun i=>i≤us.length∧Vo ((sO.map Zc.Pane).drop i) (us.drop i) sO sD=Vo (sO.map Zc.Pane) us sO sD∧∀ v∈us.take i,v=0) (fun i=>us.length-i) 0 ?hc ⟨by omega,rfl,by simp⟩ ?h0 ?step
    case hc=>simp +contextual -implicitDefEqProofs (maxSteps:=10^7) only[go_sem,seval,↓gZ]<;>exact rfl
    case h0=>rfl
    case step=>
     intro i ⟨hi,hp,hz0⟩ ih
     by_cases hil:i<us.length
     ·obtain⟨c,hc⟩:=Zp hil
      have hiO:i<sO.length:=by omega
      obtain⟨y,hy⟩:=Zp hiO
      have hw:=Zl (k:=i) (by omega)
      have hcb:=hu.2 c (List.mem_of_getElem? hc)
      have hpy:(sO.map Zc.Pane)[i]?=some y.Pane:=by rw[List.getElem?_map,hy];rfl
      rw[Zk2 hpy hc] at hp
      obtain⟨⟨W,H,T,K⟩,C⟩:=y
      simp only at hp hpy
      by_cases hc0:c=0
      ·rw[if_pos hc0] at hp
       simp +contextual -implicitDefEqProofs (maxSteps:=10^7) only[go_sem,seval,↓gZ,hil,hiO,hy,hc,hc0,hw]
       refine ih (i+1) _ ⟨by omega,hp,fun v hv=>?_⟩ (by omega) ?_
       ·rw[List.take_add_one,hc,List.mem_append] at hv
        rcases hv with hv | hv
        ·exact hz0 v hv
        ·simp at hv;omega
       ·simp +contextual -implicitDefEqProofs (maxSteps:=10^7) only[go_sem,seval,↓gZ]
      ·rw[if_neg hc0] at hp
       have et:=Zcr sO W H T K c (by omega) (Zas hO) (fun x hx=>by have:=(Z7 hO x hx).2;unfold R64;omega)
       have ea:=Zbf sD W H T K c (by omega) (fun x hx=>by have:=(Z7 hD x hx).2;unfold R64;omega)
       unfold tkV at et
       by_cases hto:Xy ⟨W,H,T,K⟩ c false sO=true
       ·rw[if_pos hto] at hp et
        simp +contextual -implicitDefEqProofs (maxSteps:=10^7) only[go_sem,seval,↓gZ,hil,hiO,hy,hc,hc0,hw,et,ea]
        refine Zr Xs Ms (st0:=?st1) (α:=Nat×List Zc×List Zc) (fun s=>[(65,.d (J (s.1:Int)))]) (fun s=>[(4,.row 5 (s.2.2.map Zc.enc) true false),(5,.row 5 (s.2.1.map Zc.enc) true false)]) (fun s=>s.1≤us.length∧Vo ((sO.map Zc.Pane).drop s.1) (us.drop s.1) s.2.1 s.2.2=Vo (sO.map Zc.Pane) us sO sD∧s.2.1.length≤8∧s.2.2.length≤8+s.1∧UL s.2.1∧UL s.2.2∧(∀ x∈s.2.1,0≤x.Count∧x.Count≤24)∧(∀ x∈s.2.2,0≤x.Count∧x.Count≤24+255*s.1)) (fun s=>us.length-s.1) (i+1,Yc sO ⟨W,H,T,K⟩ c,XP ⟨W,H,T,K⟩ c sD) ?hc2 ⟨by simp only;omega,hp,Nat.le_trans (List.length_filterMap_le _ _) hO8,Nat.le_trans (ZcD _ _ _) (by simp only;omega),Zme (Zas hO),Zul (Zas hD) (by omega),Zng hcb.1 (fun x hx=>(Z7 hO x hx).2.2),fun x hx=>by
         have:=Zl5 (hi:=24) hcb.1 (by omega) (fun x hx=>by have:=(Z7 hD x hx).2;omega) x hx
         simp only
         omega⟩ ?h02 ?step2
        case hc2=>simp +contextual -implicitDefEqProofs (maxSteps:=10^7) only[go_sem,seval,↓gZ]<;>exact rfl
        case h02=>rfl
        case step2=>
         intro⟨j,o,d⟩ ⟨hj,hp,ho8,hd8,uo,ud,hoc,hdc⟩ ih
         simp only at hj hp ho8 hd8 uo ud hoc hdc
         by_cases hjl:j<us.length
         ·obtain⟨c,hc⟩:=Zp hjl
          have hjO:j<sO.length:=by omega
          obtain⟨y,hy⟩:=Zp hjO
          have hw:=Zl (k:=j) (by omega)
          have hcb:=hu.2 c (List.mem_of_getElem? hc)
          have hpy:(sO.map Zc.Pane)[j]?=some y.Pane:=by rw[List.getElem?_map,hy];rfl
          rw[Zk2 hpy hc] at hp
          obtain⟨⟨W,H,T,K⟩,C⟩:=y
          simp only at hp hpy
          by_cases hc0:c=0
          ·rw[if_pos hc0] at hp
           simp +contextual -implicitDefEqProofs (maxSteps:=10^7) only[go_sem,seval,↓gZ,hjl,hjO,hy,hc,hc0,hw]
           refine ih (j+1,o,d) _ ⟨by simp only;omega,hp,ho8,by simp only;omega,uo,ud,hoc,fun x hx=>by have:=hdc x hx;simp only;omega⟩ (by simp only;omega) ?_
           simp +contextual -implicitDefEqProofs (maxSteps:=10^7) only[go_sem,seval,↓gZ]
          ·rw[if_neg hc0] at hp
           have et:=Zcr o W H T K c (by omega) uo (fun x hx=>by have:=hoc x hx;unfold R64;omega)
           have ea:=Zbf d W H T K c (by omega) (fun x hx=>by have:=hdc x hx;unfold R64;omega)
           unfold tkV at et
           by_cases hto:Xy ⟨W,H,T,K⟩ c false o=true
           ·rw[if_pos hto] at hp et
            simp +contextual -implicitDefEqProofs (maxSteps:=10^7) only[go_sem,seval,↓gZ,hjl,hjO,hy,hc,hc0,hw,et,ea]
            refine ih (j+1,Yc o ⟨W,H,T,K⟩ c,XP ⟨W,H,T,K⟩ c d) _ ⟨by simp only;omega,hp,Nat.le_trans (List.length_filterMap_le _ _) ho8,Nat.le_trans (ZcD _ _ _) (by simp only;omega),Zme uo,Zul ud (by omega),Zng hcb.1 (fun x hx=>(hoc x hx).2),fun x hx=>?_⟩ (by simp only;omega) ?_
            ·have:=Zl5 hcb.1 (by omega) hdc x hx
             simp only
             omega
            ·simp +contextual -implicitDefEqProofs (maxSteps:=10^7) only[go_sem,seval,↓gZ]
           ·rw[if_neg hto] at hp et
            simp +contextual -implicitDefEqProofs (maxSteps:=10^7) only[go_sem,seval,↓gZ,hjl,hjO,hy,hc,hc0,hw,et]
            rw[← hp]
            rfl
         ·have:j=sO.length:=by omega
          subst this
          have hce:=@Zth (sO.map Zc.Pane) (us.drop sO.length) o d
          rw[List.length_map] at hce
          rw[hce] at hp
          rw[← hp]
          unfold cpV
          simp +contextual -implicitDefEqProofs (maxSteps:=10^7) only[go_sem,seval,↓gZ,e5,u1]
       ·rw[if_neg hto] at hp et
        simp +contextual -implicitDefEqProofs (maxSteps:=10^7) only[go_sem,seval,↓gZ,hil,hiO,hy,hc,hc0,hw,et]
        rw[← hp]
        rfl
     ·have:us.take i=us:=List.take_of_length_le (by omega)
      rw[this] at hz0
      exact absurd (hz0 vz hvz) hvz0
theorem Zts {q x:Zb}:∀ {l:List Zb} {b:Int} {a:Nat},Yk b l→l[a]?=some x→q.Label=x.Label→QL q (l.eraseIdx a)=l.set a q
 | [],b,a,_,h,_=>by simp at h
 | y :: l,b,0,hs,h,e=>by
  simp only[List.getElem?_cons_zero,Option.some.injEq] at h
  subst h
  simp only[List.eraseIdx_cons_zero,List.set_cons_zero]
  cases l with
  | nil=>rfl
  | cons z l=>
   have:=hs.2.2.2.1
   unfold QL
   rw[if_pos (by omega)]
 | y :: l,b,a+1,hs,h,e=>by
  simp only[List.getElem?_cons_succ] at h
  have ih:=Zts hs.2.2 h e
  have:=Zjk hs.2.2 x (List.mem_of_getElem? h)
  simp only[List.eraseIdx_cons_succ,List.set_cons_succ]
  unfold QL
  rw[if_neg (by omega),ih]
theorem Zzp {s:Zo} {e:ZF} {a:Nat} {q:Zb} (hv:ZH s) (hk:e.kind=1) (ha:QJ 0 s.Stock e.label=(a:Int)) (hx:s.Stock[a]?=some q) :
  QK s e=VZ (some { s with Stock:=s.Stock.set a { q with Flaws:=q.Flaws++[e.box] } }):=by
 have h1:=Zts (q := { q with Flaws:=q.Flaws++[e.box] }) hv.1.2 hx rfl
 have h2:Yk 0 (s.Stock.eraseIdx a):=ZhX a hv.1.2
 unfold QK evS
 rw[if_neg (by omega),if_pos hk]
 simp only[ZdH ha hx]
 by_cases hr:Uv { q with Flaws:=q.Flaws++[e.box] } (s.Stock.eraseIdx a)
 ·rw[if_pos hr,h1]
 ·rw[if_neg hr]
  unfold VZ
  simp only
  rw[if_neg]
  intro hs
  refine hr ⟨⟨⟨?_,h2⟩,?_⟩,?_⟩
  ·have:=hv.1.1
   rw[List.length_eraseIdx];split<;>omega
  ·exact Z8 hs.1.2 _ (List.mem_of_getElem? (i:=a) (by rw[List.getElem?_set];simp[(List.getElem?_eq_some_iff.1 hx).1]))
  ·rw[h1];exact hs.1
theorem ZoB (sS:List Zb) (sO sD:List Zc) (sL sC:Int) (eK eL eX eY eW eH epW epH:Int) (epT:Bool) (epK eC eo ea ep:Int) (et:Bool) (ek:List Zh) (hv:ZH (Zo.mk sS sO sD sL sC)) (h0:eK=0) (ha:Uv ⟨eL,eW,eH,[]⟩ sS) (hx:eX=0) (hy:eY=0):Zg Xs Ms ZI [.ptr 0 0,(.d (.agg [J eK,J eL,J eX,J eY,J eW,J eH,J epW,J epH,.bool epT,J epK,J eC,J eo,J ea,J ep,.bool et,.sl (ek.map Zh.enc)]))] [.box [.own 1,.own 2,.own 3,(.d (J sL)),(.d (J sC))],.deep 4 4 (sS.map Zb.enc) none,.row 5 (sO.map Zc.enc) true false,.row 5 (sD.map Zc.enc) true false]=some ((.d (.bool true)),[.box [.own 4,.own 2,.own 3,(.d (J sL)),(.d (J (sC+eW*eH)))],.deep 4 4 (sS.map Zb.enc) none,.row 5 (sO.map Zc.enc) true false,.row 5 (sD.map Zc.enc) true false,.row 4 ((QL ⟨eL,eW,eH,[]⟩ sS).map Zb.enc) true false]):=by
 have e1:=ZqM sS sO sD sL sC eK eL eX eY eW eH epW epH epT epK eC eo ea ep et ek hv ha hx hy
 subst h0
 generalize QL ⟨eL,eW,eH,[]⟩ sS=Q at *
 refine Zd Xs Ms Zv Qn (by show 2≤_;decide) ?_
 simp +contextual -implicitDefEqProofs (maxSteps:=10^7) only[go_sem,seval,↓gZ,Zv,e1]
theorem ZoC (sS:List Zb) (sO sD:List Zc) (sL sC:Int) (eK eL eX eY eW eH epW epH:Int) (epT:Bool) (epK eC eo ea ep:Int) (et:Bool) (ek:List Zh) (hv:ZH (Zo.mk sS sO sD sL sC)) (h0:eK=0) (hl:sS.length≤100000) (hn:¬((Uv ⟨eL,eW,eH,[]⟩ sS∧eX=0)∧eY=0)):Zg Xs Ms ZI [.ptr 0 0,(.d (.agg [J eK,J eL,J eX,J eY,J eW,J eH,J epW,J epH,.bool epT,J epK,J eC,J eo,J ea,J ep,.bool et,.sl (ek.map Zh.enc)]))] [.box [.own 1,.own 2,.own 3,(.d (J sL)),(.d (J sC))],.deep 4 4 (sS.map Zb.enc) none,.row 5 (sO.map Zc.enc) true false,.row 5 (sD.map Zc.enc) true false]=some ((.d (.bool false)),[.box [.own 1,.own 2,.own 3,(.d (J sL)),(.d (J sC))],.deep 4 4 (sS.map Zb.enc) none,.row 5 (sO.map Zc.enc) true false,.row 5 (sD.map Zc.enc) true false]):=by
 have e1:=ZrV sS sO sD sL sC eK eL eX eY eW eH epW epH epT epK eC eo ea ep et ek hl hn
 subst h0
 refine Zd Xs Ms Zv Qn (by show 2≤_;decide) ?_
 simp +contextual -implicitDefEqProofs (maxSteps:=10^7) only[go_sem,seval,↓gZ,Zv,e1]
theorem ZoD (sS:List Zb) (sO sD:List Zc) (sL sC:Int) (eK eL eX eY eW eH epW epH:Int) (epT:Bool) (epK eC eo ea ep:Int) (et:Bool) (ek:List Zh) (hv:ZH (Zo.mk sS sO sD sL sC)) (h0:eK=1) (hl:sS.length≤100000) (a:Nat) (ha:QJ 0 sS eL=(a:Int)) (xL xW xH:Int) (xF:List Box) (hx:sS[a]?=some (Zb.mk xL xW xH xF)) (hF:xF.length≤1000):Zg Xs Ms ZI [.ptr 0 0,(.d (.agg [J eK,J eL,J eX,J eY,J eW,J eH,J epW,J epH,.bool epT,J epK,J eC,J eo,J ea,J ep,.bool et,.sl (ek.map Zh.enc)]))] [.box [.own 1,.own 2,.own 3,(.d (J sL)),(.d (J sC))],.deep 4 4 (sS.map Zb.enc) none,.row 5 (sO.map Zc.enc) true false,.row 5 (sD.map Zc.enc) true false]=some ((.d (.bool true)),[.box [.own 1,.own 2,.own 3,(.d (J sL)),(.d (J sC))],.row 4 ((sS.set a ⟨xL,xW,xH,xF++[⟨eX,eY,eW,eH⟩]⟩).map Zb.enc) true false,.row 5 (sO.map Zc.enc) true false,.row 5 (sD.map Zc.enc) true false]):=by
 have e1:=ZrW sS sO sD sL sC eK eL eX eY eW eH epW epH epT epK eC eo ea ep et ek hl a ha xL xW xH xF hx hF
 subst h0
 generalize sS.set a ⟨xL,xW,xH,xF++[⟨eX,eY,eW,eH⟩]⟩=Q at *
 refine Zd Xs Ms Zv Qn (by show 2≤_;decide) ?_
 simp +contextual -implicitDefEqProofs (maxSteps:=10^7) only[go_sem,seval,↓gZ,Zv,e1]
theorem ZoE (sS:List Zb) (sO sD:List Zc) (sL sC:Int) (eK eL eX eY eW eH epW epH:Int) (epT:Bool) (epK eC eo ea ep:Int) (et:Bool) (ek:List Zh) (hv:ZH (Zo.mk sS sO sD sL sC)) (h0:eK=1) (hl:sS.length≤100000) (hn:QJ 0 sS eL<0):Zg Xs Ms ZI [.ptr 0 0,(.d (.agg [J eK,J eL,J eX,J eY,J eW,J eH,J epW,J epH,.bool epT,J epK,J eC,J eo,J ea,J ep,.bool et,.sl (ek.map Zh.enc)]))] [.box [.own 1,.own 2,.own 3,(.d (J sL)),(.d (J sC))],.deep 4 4 (sS.map Zb.enc) none,.row 5 (sO.map Zc.enc) true false,.row 5 (sD.map Zc.enc) true false]=some ((.d (.bool false)),[.box [.own 1,.own 2,.own 3,(.d (J sL)),(.d (J sC))],.deep 4 4 (sS.map Zb.enc) none,.row 5 (sO.map Zc.enc) true false,.row 5 (sD.map Zc.enc) true false]):=by
 have e1:=Zum sS sO sD sL sC eK eL eX eY eW eH epW epH epT epK eC eo ea ep et ek hl hn
 subst h0
 refine Zd Xs Ms Zv Qn (by show 2≤_;decide) ?_
 simp +contextual -implicitDefEqProofs (maxSteps:=10^7) only[go_sem,seval,↓gZ,Zv,e1]
theorem ZoF (sS:List Zb) (sO sD:List Zc) (sL sC:Int) (eK eL eX eY eW eH epW epH:Int) (epT:Bool) (epK eC eo ea ep:Int) (et:Bool) (ek:List Zh) (hv:ZH (Zo.mk sS sO sD sL sC)) (h0:eK=2) (hn:Ub ⟨⟨epW,epH,epT,epK⟩,eC⟩):Zg Xs Ms ZI [.ptr 0 0,(.d (.agg [J eK,J eL,J eX,J eY,J eW,J eH,J epW,J epH,.bool epT,J epK,J eC,J eo,J ea,J ep,.bool et,.sl (ek.map Zh.enc)]))] [.box [.own 1,.own 2,.own 3,(.d (J sL)),(.d (J sC))],.deep 4 4 (sS.map Zb.enc) none,.row 5 (sO.map Zc.enc) true false,.row 5 (sD.map Zc.enc) true false]=some ((.d (.bool true)),[.box [.own 1,.own 4,.own 3,(.d (J sL)),(.d (J sC))],.deep 4 4 (sS.map Zb.enc) none,.row 5 (sO.map Zc.enc) true false,.row 5 (sD.map Zc.enc) true false,.row 5 ((XP ⟨epW,epH,epT,epK⟩ eC sO).map Zc.enc) true false]):=by
 have e1:=Znl sS sO sD sL sC eK eL eX eY eW eH epW epH epT epK eC eo ea ep et ek hv hn
 subst h0
 generalize XP ⟨epW,epH,epT,epK⟩ eC sO=Q at *
 refine Zd Xs Ms Zv Qn (by show 2≤_;decide) ?_
 simp +contextual -implicitDefEqProofs (maxSteps:=10^7) only[go_sem,seval,↓gZ,Zv,e1]
theorem ZoG (sS:List Zb) (sO sD:List Zc) (sL sC:Int) (eK eL eX eY eW eH epW epH:Int) (epT:Bool) (epK eC eo ea ep:Int) (et:Bool) (ek:List Zh) (hv:ZH (Zo.mk sS sO sD sL sC)) (h0:eK=2) (hn:¬Ub ⟨⟨epW,epH,epT,epK⟩,eC⟩):Zg Xs Ms ZI [.ptr 0 0,(.d (.agg [J eK,J eL,J eX,J eY,J eW,J eH,J epW,J epH,.bool epT,J epK,J eC,J eo,J ea,J ep,.bool et,.sl (ek.map Zh.enc)]))] [.box [.own 1,.own 2,.own 3,(.d (J sL)),(.d (J sC))],.deep 4 4 (sS.map Zb.enc) none,.row 5 (sO.map Zc.enc) true false,.row 5 (sD.map Zc.enc) true false]=some ((.d (.bool false)),[.box [.own 1,.own 2,.own 3,(.d (J sL)),(.d (J sC))],.deep 4 4 (sS.map Zb.enc) none,.row 5 (sO.map Zc.enc) true false,.row 5 (sD.map Zc.enc) true false]):=by
 have e1:=Zoy sS sO sD sL sC eK eL eX eY eW eH epW epH epT epK eC eo ea ep et ek hn
 subst h0
 refine Zd Xs Ms Zv Qn (by show 2≤_;decide) ?_
 simp +contextual -implicitDefEqProofs (maxSteps:=10^7) only[go_sem,seval,↓gZ,Zv,e1]
theorem ZoH (sS:List Zb) (sO sD:List Zc) (sL sC:Int) (eK eL eX eY eW eH epW epH:Int) (epT:Bool) (epK eC eo ea ep:Int) (et:Bool) (ek:List Zh) (hv:ZH (Zo.mk sS sO sD sL sC)) (h0:eK=4) (hl:Ub ⟨⟨epW,epH,epT,epK⟩,eC⟩) (hk:Xy ⟨epW,epH,epT,epK⟩ eC false sD=true):Zg Xs Ms ZI [.ptr 0 0,(.d (.agg [J eK,J eL,J eX,J eY,J eW,J eH,J epW,J epH,.bool epT,J epK,J eC,J eo,J ea,J ep,.bool et,.sl (ek.map Zh.enc)]))] [.box [.own 1,.own 2,.own 3,(.d (J sL)),(.d (J sC))],.deep 4 4 (sS.map Zb.enc) none,.row 5 (sO.map Zc.enc) true false,.row 5 (sD.map Zc.enc) true false]=some ((.d (.bool true)),[.box [.own 1,.own 4,.own 5,(.d (J (sL+eC*epW*epH))),(.d (J sC))],.deep 4 4 (sS.map Zb.enc) none,.row 5 (sO.map Zc.enc) true false,.row 5 (sD.map Zc.enc) true false,.row 5 ((XP ⟨epW,epH,epT,epK⟩ eC sO).map Zc.enc) true false,.row 5 ((Yc sD ⟨epW,epH,epT,epK⟩ eC).map Zc.enc) true false]):=by
 have e1:=Znm sS sO sD sL sC eK eL eX eY eW eH epW epH epT epK eC eo ea ep et ek hv hl hk
 subst h0
 generalize XP ⟨epW,epH,epT,epK⟩ eC sO=Q at *
 generalize Yc sD ⟨epW,epH,epT,epK⟩ eC=Q2 at *
 refine Zd Xs Ms Zv Qn (by show 2≤_;decide) ?_
 simp +contextual -implicitDefEqProofs (maxSteps:=10^7) only[go_sem,seval,↓gZ,Zv,e1]
theorem ZoI (sS:List Zb) (sO sD:List Zc) (sL sC:Int) (eK eL eX eY eW eH epW epH:Int) (epT:Bool) (epK eC eo ea ep:Int) (et:Bool) (ek:List Zh) (hv:ZH (Zo.mk sS sO sD sL sC)) (h0:eK=4) (hn:¬(Ub ⟨⟨epW,epH,epT,epK⟩,eC⟩∧Xy ⟨epW,epH,epT,epK⟩ eC false sD=true)):Zg Xs Ms ZI [.ptr 0 0,(.d (.agg [J eK,J eL,J eX,J eY,J eW,J eH,J epW,J epH,.bool epT,J epK,J eC,J eo,J ea,J ep,.bool et,.sl (ek.map Zh.enc)]))] [.box [.own 1,.own 2,.own 3,(.d (J sL)),(.d (J sC))],.deep 4 4 (sS.map Zb.enc) none,.row 5 (sO.map Zc.enc) true false,.row 5 (sD.map Zc.enc) true false]=some ((.d (.bool false)),[.box [.own 1,.own 2,.own 3,(.d (J sL)),(.d (J sC))],.deep 4 4 (sS.map Zb.enc) none,.row 5 (sO.map Zc.enc) true false,.row 5 (sD.map Zc.enc) true false]):=by
 have e1:=Zoz sS sO sD sL sC eK eL eX eY eW eH epW epH epT epK eC eo ea ep et ek hv hn
 subst h0
 refine Zd Xs Ms Zv Qn (by show 2≤_;decide) ?_
 simp +contextual -implicitDefEqProofs (maxSteps:=10^7) only[go_sem,seval,↓gZ,Zv,e1]
theorem ZoJ (sS:List Zb) (sO sD:List Zc) (sL sC:Int) (eK eL eX eY eW eH epW epH:Int) (epT:Bool) (epK eC eo ea ep:Int) (et:Bool) (ek:List Zh) (hv:ZH (Zo.mk sS sO sD sL sC)) (h0:eK=5) (a:Nat) (ha:QJ 0 sS eL=(a:Int)) (xL xW xH:Int) (xF:List Box) (hx:sS[a]?=some (Zb.mk xL xW xH xF)):Zg Xs Ms ZI [.ptr 0 0,(.d (.agg [J eK,J eL,J eX,J eY,J eW,J eH,J epW,J epH,.bool epT,J epK,J eC,J eo,J ea,J ep,.bool et,.sl (ek.map Zh.enc)]))] [.box [.own 1,.own 2,.own 3,(.d (J sL)),(.d (J sC))],.deep 4 4 (sS.map Zb.enc) none,.row 5 (sO.map Zc.enc) true false,.row 5 (sD.map Zc.enc) true false]=some ((.d (.bool true)),[.box [.own 4,.own 2,.own 3,(.d (J (sL+xW*xH))),(.d (J sC))],.deep 4 4 (sS.map Zb.enc) none,.row 5 (sO.map Zc.enc) true false,.row 5 (sD.map Zc.enc) true false,.row 4 ((sS.eraseIdx a).map Zb.enc) true false]):=by
 have e1:=Znn sS sO sD sL sC eK eL eX eY eW eH epW epH epT epK eC eo ea ep et ek hv a ha xL xW xH xF hx
 subst h0
 generalize sS.eraseIdx a=Q at *
 refine Zd Xs Ms Zv Qn (by show 2≤_;decide) ?_
 simp +contextual -implicitDefEqProofs (maxSteps:=10^7) only[go_sem,seval,↓gZ,Zv,e1]
theorem ZoK (sS:List Zb) (sO sD:List Zc) (sL sC:Int) (eK eL eX eY eW eH epW epH:Int) (epT:Bool) (epK eC eo ea ep:Int) (et:Bool) (ek:List Zh) (hv:ZH (Zo.mk sS sO sD sL sC)) (h0:eK=5) (hn:QJ 0 sS eL<0):Zg Xs Ms ZI [.ptr 0 0,(.d (.agg [J eK,J eL,J eX,J eY,J eW,J eH,J epW,J epH,.bool epT,J epK,J eC,J eo,J ea,J ep,.bool et,.sl (ek.map Zh.enc)]))] [.box [.own 1,.own 2,.own 3,(.d (J sL)),(.d (J sC))],.deep 4 4 (sS.map Zb.enc) none,.row 5 (sO.map Zc.enc) true false,.row 5 (sD.map Zc.enc) true false]=some ((.d (.bool false)),[.box [.own 1,.own 2,.own 3,(.d (J sL)),(.d (J sC))],.deep 4 4 (sS.map Zb.enc) none,.row 5 (sO.map Zc.enc) true false,.row 5 (sD.map Zc.enc) true false]):=by
 have e1:=ZoA sS sO sD sL sC eK eL eX eY eW eH epW epH epT epK eC eo ea ep et ek hn
 subst h0
 refine Zd Xs Ms Zv Qn (by show 2≤_;decide) ?_
 simp +contextual -implicitDefEqProofs (maxSteps:=10^7) only[go_sem,seval,↓gZ,Zv,e1]
theorem ZqO (sS:List Zb) (sO sD:List Zc) (sL sC:Int) (eK eL eX eY eW eH epW epH:Int) (epT:Bool) (epK eC eo ea ep:Int) (et:Bool) (ek:List Zh) (hv:ZH (Zo.mk sS sO sD sL sC)) (h0:eK=3):Zg Xs Ms ZI [.ptr 0 0,(.d (.agg [J eK,J eL,J eX,J eY,J eW,J eH,J epW,J epH,.bool epT,J epK,J eC,J eo,J ea,J ep,.bool et,.sl (ek.map Zh.enc)]))] [.box [.own 1,.own 2,.own 3,(.d (J sL)),(.d (J sC))],.deep 4 4 (sS.map Zb.enc) none,.row 5 (sO.map Zc.enc) true false,.row 5 (sD.map Zc.enc) true false]=some (cpV sS sO sD sL sC (Zdu (Zo.mk sS sO sD sL sC) (ZF.mk eK eL (Box.mk eX eY eW eH) (Zc.mk (Pane.mk epW epH epT epK) eC) (Zh.mk eo ea ep et ek)))):=by
 have e1:=ZrX sS sO sD sL sC eK eL eX eY eW eH epW epH epT epK eC eo ea ep et ek hv
 subst h0
 generalize Zdu (Zo.mk sS sO sD sL sC) (ZF.mk 3 eL (Box.mk eX eY eW eH) (Zc.mk (Pane.mk epW epH epT epK) eC) (Zh.mk eo ea ep et ek))=t at *
 cases t with
 | none=>
  unfold cpV at e1 ⊢
  refine Zd Xs Ms Zv Qn (by show 2≤_;decide) ?_
  simp +contextual -implicitDefEqProofs (maxSteps:=10^7) only[go_sem,seval,↓gZ,Zv,e1]
 | some t=>
  unfold cpV at e1 ⊢
  obtain⟨a,b,c,d,f⟩:=t
  simp only at e1 ⊢
  refine Zd Xs Ms Zv Qn (by show 2≤_;decide) ?_
  simp +contextual -implicitDefEqProofs (maxSteps:=10^7) only[go_sem,seval,↓gZ,Zv,e1]
theorem ZqP (sS:List Zb) (sO sD:List Zc) (sL sC:Int) (eK eL eX eY eW eH epW epH:Int) (epT:Bool) (epK eC eo ea ep:Int) (et:Bool) (ek:List Zh) (h0:¬eK=0) (h1:¬eK=1) (h2:¬eK=2) (h3:¬eK=3) (h4:¬eK=4) (h5:¬eK=5):Zg Xs Ms ZI [.ptr 0 0,(.d (.agg [J eK,J eL,J eX,J eY,J eW,J eH,J epW,J epH,.bool epT,J epK,J eC,J eo,J ea,J ep,.bool et,.sl (ek.map Zh.enc)]))] [.box [.own 1,.own 2,.own 3,(.d (J sL)),(.d (J sC))],.deep 4 4 (sS.map Zb.enc) none,.row 5 (sO.map Zc.enc) true false,.row 5 (sD.map Zc.enc) true false]=some ((.d (.bool false)),[.box [.own 1,.own 2,.own 3,(.d (J sL)),(.d (J sC))],.deep 4 4 (sS.map Zb.enc) none,.row 5 (sO.map Zc.enc) true false,.row 5 (sD.map Zc.enc) true false]):=by
 refine Zd Xs Ms Zv Qn (by show 2≤_;decide) ?_
 simp +contextual -implicitDefEqProofs (maxSteps:=10^7) only[go_sem,seval,↓gZ,Zv,h0,h1,h2,h3,h4,h5]
theorem Zno (sS:List Zb) (sO sD:List Zc) (sL sC:Int) (eK eL eX eY eW eH epW epH:Int) (epT:Bool) (epK eC eo ea ep:Int) (et:Bool) (ek:List Zh) (hv:¬ZH (Zo.mk sS sO sD sL sC)):Zg Xs Ms Qd [(.d (.agg [.sl (sS.map Zb.enc),.sl (sO.map Zc.enc),.sl (sD.map Zc.enc),J sL,J sC])),(.d (.agg [J eK,J eL,J eX,J eY,J eW,J eH,J epW,J epH,.bool epT,J epK,J eC,J eo,J ea,J ep,.bool et,.sl (ek.map Zh.enc)]))] []=some (shV none):=by
 have e1:=ZN sS sO sD sL sC
 rw[decide_eq_false hv] at e1
 unfold shV
 refine Zd Xs Ms Zy Qy (by show 2≤_;decide) ?_
 simp +contextual -implicitDefEqProofs (maxSteps:=10^7) only[go_sem,seval,↓gZ,Zy,e1]
theorem YF (sS:List Zb) (sO sD:List Zc) (sL sC:Int) (eK eL eX eY eW eH epW epH:Int) (epT:Bool) (epK eC eo ea ep:Int) (et:Bool) (ek:List Zh) (hv:ZH (Zo.mk sS sO sD sL sC)) (hc:Zg Xs Ms ZI [.ptr 0 0,(.d (.agg [J eK,J eL,J eX,J eY,J eW,J eH,J epW,J epH,.bool epT,J epK,J eC,J eo,J ea,J ep,.bool et,.sl (ek.map Zh.enc)]))] [.box [.own 1,.own 2,.own 3,(.d (J sL)),(.d (J sC))],.deep 4 4 (sS.map Zb.enc) none,.row 5 (sO.map Zc.enc) true false,.row 5 (sD.map Zc.enc) true false]=some ((.d (.bool false)),[.box [.own 1,.own 2,.own 3,(.d (J sL)),(.d (J sC))],.deep 4 4 (sS.map Zb.enc) none,.row 5 (sO.map Zc.enc) true false,.row 5 (sD.map Zc.enc) true false])):Zg Xs Ms Qd [(.d (.agg [.sl (sS.map Zb.enc),.sl (sO.map Zc.enc),.sl (sD.map Zc.enc),J sL,J sC])),(.d (.agg [J eK,J eL,J eX,J eY,J eW,J eH,J epW,J epH,.bool epT,J epK,J eC,J eo,J ea,J ep,.bool et,.sl (ek.map Zh.enc)]))] []=some (shV none):=by
 have e1:=ZN sS sO sD sL sC
 rw[decide_eq_true hv] at e1
 have e2:=V0 sS sO sD sL sC (VE hv)
 unfold shV
 refine Zd Xs Ms Zy Qy (by show 2≤_;decide) ?_
 simp +contextual -implicitDefEqProofs (maxSteps:=10^7) only[go_sem,seval,↓gZ,Zy,e1,e2,hc]
theorem ZgN (sS:List Zb) (sO sD:List Zc) (sL sC:Int) (eK eL eX eY eW eH epW epH:Int) (epT:Bool) (epK eC eo ea ep:Int) (et:Bool) (ek:List Zh) (hv:ZH (Zo.mk sS sO sD sL sC)) (tS:List Zb) (tO tD:List Zc) (tL tC:Int) (hc:Zg Xs Ms ZI [.ptr 0 0,(.d (.agg [J eK,J eL,J eX,J eY,J eW,J eH,J epW,J epH,.bool epT,J epK,J eC,J eo,J ea,J ep,.bool et,.sl (ek.map Zh.enc)]))] [.box [.own 1,.own 2,.own 3,(.d (J sL)),(.d (J sC))],.deep 4 4 (sS.map Zb.enc) none,.row 5 (sO.map Zc.enc) true false,.row 5 (sD.map Zc.enc) true false]=some ((.d (.bool true)),[.box [.own 4,.own 2,.own 3,(.d (J tL)),(.d (J tC))],.deep 4 4 (sS.map Zb.enc) none,.row 5 (sO.map Zc.enc) true false,.row 5 (sD.map Zc.enc) true false,.row 4 (tS.map Zb.enc) true false])):Zg Xs Ms Qd [(.d (.agg [.sl (sS.map Zb.enc),.sl (sO.map Zc.enc),.sl (sD.map Zc.enc),J sL,J sC])),(.d (.agg [J eK,J eL,J eX,J eY,J eW,J eH,J epW,J epH,.bool epT,J epK,J eC,J eo,J ea,J ep,.bool et,.sl (ek.map Zh.enc)]))] []=some (shV (VZ (some ⟨tS,sO,sD,tL,tC⟩))):=by
 have e1:=ZN sS sO sD sL sC
 rw[decide_eq_true hv] at e1
 have e2:=V0 sS sO sD sL sC (VE hv)
 have e3:=ZN tS sO sD tL tC
 unfold VZ
 by_cases hvt:ZH ⟨tS,sO,sD,tL,tC⟩
 ·rw[decide_eq_true hvt] at e3
  simp only[if_pos hvt]
  unfold shV
  refine Zd Xs Ms Zy Qy (by show 2≤_;decide) ?_
  simp +contextual -implicitDefEqProofs (maxSteps:=10^7) only[go_sem,seval,↓gZ,Zy,e1,e2,hc,e3]
 ·rw[decide_eq_false hvt] at e3
  simp only[if_neg hvt]
  unfold shV
  refine Zd Xs Ms Zy Qy (by show 2≤_;decide) ?_
  simp +contextual -implicitDefEqProofs (maxSteps:=10^7) only[go_sem,seval,↓gZ,Zy,e1,e2,hc,e3]
theorem ZoL (sS:List Zb) (sO sD:List Zc) (sL sC:Int) (eK eL eX eY eW eH epW epH:Int) (epT:Bool) (epK eC eo ea ep:Int) (et:Bool) (ek:List Zh) (hv:ZH (Zo.mk sS sO sD sL sC)) (tS:List Zb) (tO tD:List Zc) (tL tC:Int) (hc:Zg Xs Ms ZI [.ptr 0 0,(.d (.agg [J eK,J eL,J eX,J eY,J eW,J eH,J epW,J epH,.bool epT,J epK,J eC,J eo,J ea,J ep,.bool et,.sl (ek.map Zh.enc)]))] [.box [.own 1,.own 2,.own 3,(.d (J sL)),(.d (J sC))],.deep 4 4 (sS.map Zb.enc) none,.row 5 (sO.map Zc.enc) true false,.row 5 (sD.map Zc.enc) true false]=some ((.d (.bool true)),[.box [.own 1,.own 2,.own 3,(.d (J tL)),(.d (J tC))],.row 4 (tS.map Zb.enc) true false,.row 5 (sO.map Zc.enc) true false,.row 5 (sD.map Zc.enc) true false])):Zg Xs Ms Qd [(.d (.agg [.sl (sS.map Zb.enc),.sl (sO.map Zc.enc),.sl (sD.map Zc.enc),J sL,J sC])),(.d (.agg [J eK,J eL,J eX,J eY,J eW,J eH,J epW,J epH,.bool epT,J epK,J eC,J eo,J ea,J ep,.bool et,.sl (ek.map Zh.enc)]))] []=some (shV (VZ (some ⟨tS,sO,sD,tL,tC⟩))):=by
 have e1:=ZN sS sO sD sL sC
 rw[decide_eq_true hv] at e1
 have e2:=V0 sS sO sD sL sC (VE hv)
 have e3:=ZN tS sO sD tL tC
 unfold VZ
 by_cases hvt:ZH ⟨tS,sO,sD,tL,tC⟩
 ·rw[decide_eq_true hvt] at e3
  simp only[if_pos hvt]
  unfold shV
  refine Zd Xs Ms Zy Qy (by show 2≤_;decide) ?_
  simp +contextual -implicitDefEqProofs (maxSteps:=10^7) only[go_sem,seval,↓gZ,Zy,e1,e2,hc,e3]
 ·rw[decide_eq_false hvt] at e3
  simp only[if_neg hvt]
  unfold shV
  refine Zd Xs Ms Zy Qy (by show 2≤_;decide) ?_
  simp +contextual -implicitDefEqProofs (maxSteps:=10^7) only[go_sem,seval,↓gZ,Zy,e1,e2,hc,e3]
theorem ZoM (sS:List Zb) (sO sD:List Zc) (sL sC:Int) (eK eL eX eY eW eH epW epH:Int) (epT:Bool) (epK eC eo ea ep:Int) (et:Bool) (ek:List Zh) (hv:ZH (Zo.mk sS sO sD sL sC)) (tS:List Zb) (tO tD:List Zc) (tL tC:Int) (hc:Zg Xs Ms ZI [.ptr 0 0,(.d (.agg [J eK,J eL,J eX,J eY,J eW,J eH,J epW,J epH,.bool epT,J epK,J eC,J eo,J ea,J ep,.bool et,.sl (ek.map Zh.enc)]))] [.box [.own 1,.own 2,.own 3,(.d (J sL)),(.d (J sC))],.deep 4 4 (sS.map Zb.enc) none,.row 5 (sO.map Zc.enc) true false,.row 5 (sD.map Zc.enc) true false]=some ((.d (.bool true)),[.box [.own 1,.own 4,.own 3,(.d (J tL)),(.d (J tC))],.deep 4 4 (sS.map Zb.enc) none,.row 5 (sO.map Zc.enc) true false,.row 5 (sD.map Zc.enc) true false,.row 5 (tO.map Zc.enc) true false])):Zg Xs Ms Qd [(.d (.agg [.sl (sS.map Zb.enc),.sl (sO.map Zc.enc),.sl (sD.map Zc.enc),J sL,J sC])),(.d (.agg [J eK,J eL,J eX,J eY,J eW,J eH,J epW,J epH,.bool epT,J epK,J eC,J eo,J ea,J ep,.bool et,.sl (ek.map Zh.enc)]))] []=some (shV (VZ (some ⟨sS,tO,sD,tL,tC⟩))):=by
 have e1:=ZN sS sO sD sL sC
 rw[decide_eq_true hv] at e1
 have e2:=V0 sS sO sD sL sC (VE hv)
 have e3:=ZN sS tO sD tL tC
 unfold VZ
 by_cases hvt:ZH ⟨sS,tO,sD,tL,tC⟩
 ·rw[decide_eq_true hvt] at e3
  simp only[if_pos hvt]
  unfold shV
  refine Zd Xs Ms Zy Qy (by show 2≤_;decide) ?_
  simp +contextual -implicitDefEqProofs (maxSteps:=10^7) only[go_sem,seval,↓gZ,Zy,e1,e2,hc,e3]
 ·rw[decide_eq_false hvt] at e3
  simp only[if_neg hvt]
  unfold shV
  refine Zd Xs Ms Zy Qy (by show 2≤_;decide) ?_
  simp +contextual -implicitDefEqProofs (maxSteps:=10^7) only[go_sem,seval,↓gZ,Zy,e1,e2,hc,e3]
theorem ZoN (sS:List Zb) (sO sD:List Zc) (sL sC:Int) (eK eL eX eY eW eH epW epH:Int) (epT:Bool) (epK eC eo ea ep:Int) (et:Bool) (ek:List Zh) (hv:ZH (Zo.mk sS sO sD sL sC)) (tS:List Zb) (tO tD:List Zc) (tL tC:Int) (hc:Zg Xs Ms ZI [.ptr 0 0,(.d (.agg [J eK,J eL,J eX,J eY,J eW,J eH,J epW,J epH,.bool epT,J epK,J eC,J eo,J ea,J ep,.bool et,.sl (ek.map Zh.enc)]))] [.box [.own 1,.own 2,.own 3,(.d (J sL)),(.d (J sC))],.deep 4 4 (sS.map Zb.enc) none,.row 5 (sO.map Zc.enc) true false,.row 5 (sD.map Zc.enc) true false]=some ((.d (.bool true)),[.box [.own 1,.own 4,.own 5,(.d (J tL)),(.d (J tC))],.deep 4 4 (sS.map Zb.enc) none,.row 5 (sO.map Zc.enc) true false,.row 5 (sD.map Zc.enc) true false,.row 5 (tO.map Zc.enc) true false,.row 5 (tD.map Zc.enc) true false])):Zg Xs Ms Qd [(.d (.agg [.sl (sS.map Zb.enc),.sl (sO.map Zc.enc),.sl (sD.map Zc.enc),J sL,J sC])),(.d (.agg [J eK,J eL,J eX,J eY,J eW,J eH,J epW,J epH,.bool epT,J epK,J eC,J eo,J ea,J ep,.bool et,.sl (ek.map Zh.enc)]))] []=some (shV (VZ (some ⟨sS,tO,tD,tL,tC⟩))):=by
 have e1:=ZN sS sO sD sL sC
 rw[decide_eq_true hv] at e1
 have e2:=V0 sS sO sD sL sC (VE hv)
 have e3:=ZN sS tO tD tL tC
 unfold VZ
 by_cases hvt:ZH ⟨sS,tO,tD,tL,tC⟩
 ·rw[decide_eq_true hvt] at e3
  simp only[if_pos hvt]
  unfold shV
  refine Zd Xs Ms Zy Qy (by show 2≤_;decide) ?_
  simp +contextual -implicitDefEqProofs (maxSteps:=10^7) only[go_sem,seval,↓gZ,Zy,e1,e2,hc,e3]
 ·rw[decide_eq_false hvt] at e3
  simp only[if_neg hvt]
  unfold shV
  refine Zd Xs Ms Zy Qy (by show 2≤_;decide) ?_
  simp +contextual -implicitDefEqProofs (maxSteps:=10^7) only[go_sem,seval,↓gZ,Zy,e1,e2,hc,e3]
theorem ZoO (sS:List Zb) (sO sD:List Zc) (sL sC:Int) (eK eL eX eY eW eH epW epH:Int) (epT:Bool) (epK eC eo ea ep:Int) (et:Bool) (ek:List Zh) (hv:ZH (Zo.mk sS sO sD sL sC)) (tS:List Zb) (tO tD:List Zc) (tL tC:Int) (hc:Zg Xs Ms ZI [.ptr 0 0,(.d (.agg [J eK,J eL,J eX,J eY,J eW,J eH,J epW,J epH,.bool epT,J epK,J eC,J eo,J ea,J ep,.bool et,.sl (ek.map Zh.enc)]))] [.box [.own 1,.own 2,.own 3,(.d (J sL)),(.d (J sC))],.deep 4 4 (sS.map Zb.enc) none,.row 5 (sO.map Zc.enc) true false,.row 5 (sD.map Zc.enc) true false]=some ((.d (.bool true)),[.box [.own 4,.own 5,.own 6,(.d (J tL)),(.d (J tC))],.deep 4 4 (sS.map Zb.enc) none,.row 5 (sO.map Zc.enc) true false,.row 5 (sD.map Zc.enc) true false,.row 4 (tS.map Zb.enc) true false,.row 5 (tO.map Zc.enc) true false,.row 5 (tD.map Zc.enc) true false])):Zg Xs Ms Qd [(.d (.agg [.sl (sS.map Zb.enc),.sl (sO.map Zc.enc),.sl (sD.map Zc.enc),J sL,J sC])),(.d (.agg [J eK,J eL,J eX,J eY,J eW,J eH,J epW,J epH,.bool epT,J epK,J eC,J eo,J ea,J ep,.bool et,.sl (ek.map Zh.enc)]))] []=some (shV (VZ (some ⟨tS,tO,tD,tL,tC⟩))):=by
 have e1:=ZN sS sO sD sL sC
 rw[decide_eq_true hv] at e1
 have e2:=V0 sS sO sD sL sC (VE hv)
 have e3:=ZN tS tO tD tL tC
 unfold VZ
 by_cases hvt:ZH ⟨tS,tO,tD,tL,tC⟩
 ·rw[decide_eq_true hvt] at e3
  simp only[if_pos hvt]
  unfold shV
  refine Zd Xs Ms Zy Qy (by show 2≤_;decide) ?_
  simp +contextual -implicitDefEqProofs (maxSteps:=10^7) only[go_sem,seval,↓gZ,Zy,e1,e2,hc,e3]
 ·rw[decide_eq_false hvt] at e3
  simp only[if_neg hvt]
  unfold shV
  refine Zd Xs Ms Zy Qy (by show 2≤_;decide) ?_
  simp +contextual -implicitDefEqProofs (maxSteps:=10^7) only[go_sem,seval,↓gZ,Zy,e1,e2,hc,e3]
theorem Zau (sS:List Zb) (sO sD:List Zc) (sL sC:Int) (eK eL eX eY eW eH epW epH:Int) (epT:Bool) (epK eC eo ea ep:Int) (et:Bool) (ek:List Zh):Zg Xs Ms Qd [(.d (.agg [.sl (sS.map Zb.enc),.sl (sO.map Zc.enc),.sl (sD.map Zc.enc),J sL,J sC])),(.d (.agg [J eK,J eL,J eX,J eY,J eW,J eH,J epW,J epH,.bool epT,J epK,J eC,J eo,J ea,J ep,.bool et,.sl (ek.map Zh.enc)]))] []=some (shV (if ZH (Zo.mk sS sO sD sL sC) then QK (Zo.mk sS sO sD sL sC) (ZF.mk eK eL (Box.mk eX eY eW eH) (Zc.mk (Pane.mk epW epH epT epK) eC) (Zh.mk eo ea ep et ek)) else none)):=by
 by_cases hv:ZH (Zo.mk sS sO sD sL sC)
 ·rw[if_pos hv]
  have h20:sS.length≤100000:=by have:=hv.1.1;simp only at this;omega
  by_cases k0:eK=0
  ·by_cases hr:(Uv ⟨eL,eW,eH,[]⟩ sS∧eX=0)∧eY=0
   ·have ee:QK (Zo.mk sS sO sD sL sC) (ZF.mk eK eL (Box.mk eX eY eW eH) (Zc.mk (Pane.mk epW epH epT epK) eC) (Zh.mk eo ea ep et ek))=VZ (some (Zo.mk (QL ⟨eL,eW,eH,[]⟩ sS) sO sD sL (sC+eW*eH))):=by unfold QK evS;simp only[k0,hr,if_true,and_self]
    rw[ee]
    exact ZgN sS sO sD sL sC eK eL eX eY eW eH epW epH epT epK eC eo ea ep et ek hv _ sO sD _ _ (ZoB sS sO sD sL sC eK eL eX eY eW eH epW epH epT epK eC eo ea ep et ek hv k0 hr.1.1 hr.1.2 hr.2)
   ·have ee:QK (Zo.mk sS sO sD sL sC) (ZF.mk eK eL (Box.mk eX eY eW eH) (Zc.mk (Pane.mk epW epH epT epK) eC) (Zh.mk eo ea ep et ek))=none:=by unfold QK evS;simp only[k0,if_true];rw[if_neg hr];rfl
    rw[ee]
    exact YF sS sO sD sL sC eK eL eX eY eW eH epW epH epT epK eC eo ea ep et ek hv (ZoC sS sO sD sL sC eK eL eX eY eW eH epW epH epT epK eC eo ea ep et ek hv k0 h20 hr)
  ·by_cases k1:eK=1
   ·by_cases hf:QJ 0 sS eL<0
    ·have ee:QK (Zo.mk sS sO sD sL sC) (ZF.mk eK eL (Box.mk eX eY eW eH) (Zc.mk (Pane.mk epW epH epT epK) eC) (Zh.mk eo ea ep et ek))=none:=by unfold QK evS;simp[k1,ZfD hf,VZ]
     rw[ee]
     exact YF sS sO sD sL sC eK eL eX eY eW eH epW epH epT epK eC eo ea ep et ek hv (ZoE sS sO sD sL sC eK eL eX eY eW eH epW epH epT epK eC eo ea ep et ek hv k1 h20 hf)
    ·obtain⟨a,x,ha,hx⟩:=ZcC (by omega:0≤QJ 0 sS eL)
     have hxv:=(Z8 hv.1.2 x (List.mem_of_getElem? hx)).1
     obtain⟨xL,xW,xH,xF⟩:=x
     simp only at hxv
     rw[Zzp hv k1 ha hx]
     exact ZoL sS sO sD sL sC eK eL eX eY eW eH epW epH epT epK eC eo ea ep et ek hv _ sO sD _ _ (ZoD sS sO sD sL sC eK eL eX eY eW eH epW epH epT epK eC eo ea ep et ek hv k1 h20 a ha xL xW xH xF hx (by omega))
   ·by_cases k5:eK=5
    ·by_cases hf:QJ 0 sS eL<0
     ·have ee:QK (Zo.mk sS sO sD sL sC) (ZF.mk eK eL (Box.mk eX eY eW eH) (Zc.mk (Pane.mk epW epH epT epK) eC) (Zh.mk eo ea ep et ek))=none:=by unfold QK evS;simp[k5,ZfD hf,VZ]
      rw[ee]
      exact YF sS sO sD sL sC eK eL eX eY eW eH epW epH epT epK eC eo ea ep et ek hv (ZoK sS sO sD sL sC eK eL eX eY eW eH epW epH epT epK eC eo ea ep et ek hv k5 hf)
     ·obtain⟨a,x,ha,hx⟩:=ZcC (by omega:0≤QJ 0 sS eL)
      obtain⟨xL,xW,xH,xF⟩:=x
      have ee:QK (Zo.mk sS sO sD sL sC) (ZF.mk eK eL (Box.mk eX eY eW eH) (Zc.mk (Pane.mk epW epH epT epK) eC) (Zh.mk eo ea ep et ek))=VZ (some (Zo.mk (sS.eraseIdx a) sO sD (sL+xW*xH) sC)):=by unfold QK evS;simp[k5,ZdH ha hx]
      rw[ee]
      exact ZgN sS sO sD sL sC eK eL eX eY eW eH epW epH epT epK eC eo ea ep et ek hv _ sO sD _ _ (ZoJ sS sO sD sL sC eK eL eX eY eW eH epW epH epT epK eC eo ea ep et ek hv k5 a ha xL xW xH xF hx)
    ·by_cases k2:eK=2
     ·by_cases hl:Ub ⟨⟨epW,epH,epT,epK⟩,eC⟩
      ·have ee:QK (Zo.mk sS sO sD sL sC) (ZF.mk eK eL (Box.mk eX eY eW eH) (Zc.mk (Pane.mk epW epH epT epK) eC) (Zh.mk eo ea ep et ek))=VZ (some (Zo.mk sS (XP ⟨epW,epH,epT,epK⟩ eC sO) sD sL sC)):=by unfold QK evS;simp[k2,hl]
       rw[ee]
       exact ZoM sS sO sD sL sC eK eL eX eY eW eH epW epH epT epK eC eo ea ep et ek hv sS _ sD _ _ (ZoF sS sO sD sL sC eK eL eX eY eW eH epW epH epT epK eC eo ea ep et ek hv k2 hl)
      ·have ee:QK (Zo.mk sS sO sD sL sC) (ZF.mk eK eL (Box.mk eX eY eW eH) (Zc.mk (Pane.mk epW epH epT epK) eC) (Zh.mk eo ea ep et ek))=none:=by unfold QK evS;simp[k2,hl,VZ]
       rw[ee]
       exact YF sS sO sD sL sC eK eL eX eY eW eH epW epH epT epK eC eo ea ep et ek hv (ZoG sS sO sD sL sC eK eL eX eY eW eH epW epH epT epK eC eo ea ep et ek hv k2 hl)
     ·by_cases k4:eK=4
      ·by_cases hl:Ub ⟨⟨epW,epH,epT,epK⟩,eC⟩∧Xy ⟨epW,epH,epT,epK⟩ eC false sD=true
       ·have ee:QK (Zo.mk sS sO sD sL sC) (ZF.mk eK eL (Box.mk eX eY eW eH) (Zc.mk (Pane.mk epW epH epT epK) eC) (Zh.mk eo ea ep et ek))=VZ (some (Zo.mk sS (XP ⟨epW,epH,epT,epK⟩ eC sO) (Yc sD ⟨epW,epH,epT,epK⟩ eC) (sL+eC*epW*epH) sC)):=by unfold QK evS;simp[k4,hl]
        rw[ee]
        exact ZoN sS sO sD sL sC eK eL eX eY eW eH epW epH epT epK eC eo ea ep et ek hv sS _ _ _ _ (ZoH sS sO sD sL sC eK eL eX eY eW eH epW epH epT epK eC eo ea ep et ek hv k4 hl.1 hl.2)
       ·have ee:QK (Zo.mk sS sO sD sL sC) (ZF.mk eK eL (Box.mk eX eY eW eH) (Zc.mk (Pane.mk epW epH epT epK) eC) (Zh.mk eo ea ep et ek))=none:=by unfold QK evS;simp only[k4];simp[hl,VZ]
        rw[ee]
        exact YF sS sO sD sL sC eK eL eX eY eW eH epW epH epT epK eC eo ea ep et ek hv (ZoI sS sO sD sL sC eK eL eX eY eW eH epW epH epT epK eC eo ea ep et ek hv k4 hl)
      ·by_cases k3:eK=3
       ·have hc:=ZqO sS sO sD sL sC eK eL eX eY eW eH epW epH epT epK eC eo ea ep et ek hv k3
        have ee:QK (Zo.mk sS sO sD sL sC) (ZF.mk eK eL (Box.mk eX eY eW eH) (Zc.mk (Pane.mk epW epH epT epK) eC) (Zh.mk eo ea ep et ek))=VZ (Zdu (Zo.mk sS sO sD sL sC) (ZF.mk eK eL (Box.mk eX eY eW eH) (Zc.mk (Pane.mk epW epH epT epK) eC) (Zh.mk eo ea ep et ek))):=by unfold QK evS;simp[k3]
        rw[ee]
        generalize Zdu (Zo.mk sS sO sD sL sC) (ZF.mk eK eL (Box.mk eX eY eW eH) (Zc.mk (Pane.mk epW epH epT epK) eC) (Zh.mk eo ea ep et ek))=t at hc
        cases t with
        | none=>exact YF sS sO sD sL sC eK eL eX eY eW eH epW epH epT epK eC eo ea ep et ek hv hc
        | some t=>
         obtain⟨a,b,c,d,f⟩:=t
         exact ZoO sS sO sD sL sC eK eL eX eY eW eH epW epH epT epK eC eo ea ep et ek hv a b c d f hc
       ·have ee:QK (Zo.mk sS sO sD sL sC) (ZF.mk eK eL (Box.mk eX eY eW eH) (Zc.mk (Pane.mk epW epH epT epK) eC) (Zh.mk eo ea ep et ek))=none:=by unfold QK evS;simp[k0,k1,k2,k3,k4,k5,VZ]
        rw[ee]
        exact YF sS sO sD sL sC eK eL eX eY eW eH epW epH epT epK eC eo ea ep et ek hv (ZqP sS sO sD sL sC eK eL eX eY eW eH epW epH epT epK eC eo ea ep et ek k0 k1 k2 k3 k4 k5)
 ·rw[if_neg hv]
  exact Zno sS sO sD sL sC eK eL eX eY eW eH epW epH epT epK eC eo ea ep et ek hv
theorem Zb5 (p:Pane) (c:Int):∀ (l:List Zc),Z4 (XP p c l)=Z4 l+c
 | []=>by simp[XP,Z4]
 | x :: l=>by
  unfold XP
  split
  ·simp only[Z4];omega
  ·simp only[Z4,Zb5 p c l];omega
theorem Zwb:∀ {l:List Zc} {a:Nat} {x y:Zc},l[a]?=some x→Z4 (l.set a y)=Z4 l-x.Count+y.Count
 | [],a,x,y,h=>by simp at h
 | z :: l,0,x,y,h=>by
  simp only[List.getElem?_cons_zero,Option.some.injEq] at h
  subst h
  simp only[List.set_cons_zero,Z4];omega
 | z :: l,a+1,x,y,h=>by
  simp only[List.getElem?_cons_succ] at h
  simp only[List.set_cons_succ,Z4,Zwb h];omega
theorem ZqQ:∀ {l:List Zc} {a:Nat} {x:Zc},l[a]?=some x→Z4 (l.eraseIdx a)=Z4 l-x.Count
 | [],a,x,h=>by simp at h
 | z :: l,0,x,h=>by
  simp only[List.getElem?_cons_zero,Option.some.injEq] at h
  subst h
  simp only[List.eraseIdx_cons_zero,Z4];omega
 | z :: l,a+1,x,h=>by
  simp only[List.getElem?_cons_succ] at h
  simp only[List.eraseIdx_cons_succ,Z4,ZqQ h];omega
theorem ZqR {l:List Zc} {p:Pane} {c:Int} (hu:UL l) (h:Xy p c false l=true):Z4 (Yc l p c)=Z4 l-c:=by
 by_cases hf:Wg 0 l p<0
 ·rw[ZfJ (Zh8 hf)] at h;cases h
 ·obtain⟨a,x,h1,h2,h3,h4⟩:=ZfI (by omega:0≤Wg 0 l p)
  obtain⟨k1,k2⟩:=Zmd (c:=c) hu h2 h3
  rw[k1,decide_eq_true_eq] at h
  rw[k2]
  split
  ·rw[Zwb h2];simp only;omega
  ·rw[ZqQ h2];omega
theorem Znp:∀ {ps:List Pane} {us:List Int} {o d o' d' : List Zc},us.length=ps.length→Vo ps us o d=some (o',d')→UL o→(∀ v∈us,0≤v) →
  Z4 o'+Z4 d'=Z4 o+Z4 d∧Z4 d≤Z4 d'∧((∃ v∈us,v≠0)→Z4 d<Z4 d')
 | [],us,o,d,o',d',hl,h,hu,hv=>by
  cases us with
  | nil=>unfold Vo at h;cases h;simp
  | cons c us=>simp at hl
 | p :: ps,[],o,d,o',d',hl,h,hu,hv=>by simp at hl
 | p :: ps,c :: us,o,d,o',d',hl,h,hu,hv=>by
  rw[Vo] at h
  simp only[List.length_cons,Nat.add_right_cancel_iff] at hl
  have hc:=hv c (by simp)
  split at h
  ·rename_i h0
   obtain⟨a,b,e⟩:=Znp hl h hu (fun v h=>hv v (by simp[h]))
   refine⟨a,b,fun ⟨v,hm,hn⟩=>?_⟩
   rcases List.mem_cons.1 hm with rfl | hm
   ·exact absurd h0 hn
   ·exact e ⟨v,hm,hn⟩
  ·rename_i h0
   split at h
   ·rename_i ht
    obtain⟨a,b,e⟩:=Znp hl h (Zme hu) (fun v h=>hv v (by simp[h]))
    rw[ZqR hu ht,Zb5] at a
    rw[Zb5] at b
    exact⟨by omega,by omega,fun _=>by omega⟩
   ·cases h
structure AFacts (s:Zo) (e:ZF) (t:Zo):Prop where
 vs:ZH t
 came:t.Came=s.Came+(if e.kind=0 then e.box.W*e.box.H else 0)
 lost:s.Lost≤t.Lost
 cnt:Z4 t.Opn+Z4 t.Done=Z4 s.Opn+Z4 s.Done+(if e.kind=2 then e.line.Count else 0)
 lt:Z4 t.Done<Z4 s.Done↔e.kind=4
 gt:Z4 s.Done<Z4 t.Done↔e.kind=3
 sheet:e.kind=0→Uv ⟨e.label,e.box.W,e.box.H,[]⟩ s.Stock∧e.box.X=0∧e.box.Y=0∧t = { s with Stock:=QL ⟨e.label,e.box.W,e.box.H,[]⟩ s.Stock,Came:=s.Came+e.box.W*e.box.H }
 ord:e.kind=2→Ub e.line
theorem ZqS {s t:Zo} {e:ZF} (h:QK s e=some t):evS s e=some t∧ZH t:=by
 have hv:=Zgx h
 unfold QK VZ at h
 split at h
 ·split at h
  ·cases h;exact⟨by assumption,hv⟩
  ·cases h
 ·cases h
theorem ZqT {s t:Zo} {e:ZF} (hs:ZH s) (h:QK s e=some t):AFacts s e t:=by
 obtain⟨h,hv⟩:=ZqS h
 unfold evS at h
 split at h
 ·rename_i k
  split at h
  ·rename_i hr
   cases h
   exact⟨hv,by simp[k],Int.le_refl _,by simp[k],by simp[k],by simp[k],fun _=>⟨hr.1.1,hr.1.2,hr.2,rfl⟩,fun h=>by omega⟩
  ·cases h
 ·rename_i k0
  split at h
  ·rename_i k
   split at h
   ·cases h
   ·split at h
    ·cases h
     exact⟨hv,by simp[k],Int.le_refl _,by simp[k],by simp[k],by simp[k],fun h=>absurd h k0,fun h=>by omega⟩
    ·cases h
  ·rename_i k1
   split at h
   ·rename_i k
    split at h
    ·cases h
    ·rename_i a q hq
     cases h
     have hqm:q∈s.Stock:=by
      unfold Zv1 at hq
      split at hq
      ·obtain⟨x,hx,e⟩:=Option.map_eq_some_iff.1 hq
       cases e
       exact List.mem_of_getElem? hx
      ·cases hq
     have hqv:=(Z8 hs.1.2 q hqm).1
     have:=ZaZ (b:=⟨0,0,q.W,q.H⟩) (by simp only[VB];omega)
     simp only at this
     exact⟨hv,by simp[k],by simp only;omega,by simp[k],by simp[k],by simp[k],fun h=>absurd h k0,fun h=>by omega⟩
   ·rename_i k5
    split at h
    ·rename_i k
     split at h
     ·rename_i hl
      cases h
      have hc:=hl.2
      refine⟨hv,by simp[k],Int.le_refl _,?_,by simp[k],by simp[k],fun h=>absurd h k0,fun _=>hl⟩
      simp only[Zb5,k,if_true];omega
     ·cases h
    ·rename_i k2
     split at h
     ·rename_i k
      split at h
      ·rename_i hl
       cases h
       have hc:=hl.1.2
       have ha:=ZdG hl.1
       have h1:=ZqR (Zas hs.2.2.1) hl.2
       refine⟨hv,by simp[k],by simp only;omega,?_,?_,?_,fun h=>absurd h k0,fun h=>absurd h k2⟩
       ·simp only[Zb5,h1,k];simp;omega
       ·simp only[h1,k,iff_true];omega
       ·simp only[h1,k];omega
      ·cases h
     ·rename_i k4
      split at h
      ·rename_i k
       unfold Zdu at h
       split at h
       ·cases h
       ·rename_i x hx
        split at h
        ·cases h
        ·rename_i R hR
         obtain⟨hvp,_,_⟩:=Zh2 hR
         split at h
         ·rename_i hp
          split at h
          ·cases h
          ·rename_i o d hg
           cases h
           have hu:=ZcF hvp
           have hpos:=Ztr hvp hp
           obtain⟨a,b,c⟩:=Znp (by rw[hu.1]) hg (Zas hs.2.1) (fun v h=>(hu.2 v h).1)
           have c:=c hpos
           have hla:=Zfv (l:=ZeB ⟨x.W,x.H,s.Opn.map Zc.Pane⟩ e.plan 5) (fun c hc=>by
            obtain⟨z,hz,hzc⟩:=List.mem_filterMap.1 hc
            unfold JW at hzc
            split at hzc
            ·cases hzc;exact ZdE hvp c hz
            ·cases hzc)
           refine⟨hv,by simp[k],by simp only;omega,?_,?_,?_,fun h=>absurd h k0,fun h=>absurd h k2⟩
           ·simp only[k];simp;omega
           ·simp only[k];omega
           ·simp only[k,iff_true];omega
         ·cases h
      ·cases h
theorem ZeK (a:List Zc) (ha:a.length<4611686018427387904):Zg Xs Ms Y7 [(.d (.sl (a.map Zc.enc))),(.d (.sl (a.map Zc.enc)))] []=some ((.d (.bool true)),[]):=by
 refine Zd Xs Ms U1 Zq5 (by show 2≤_;decide) ?_
 simp +contextual -implicitDefEqProofs (maxSteps:=10^7) only[go_sem,seval,↓gZ,U1]
 refine Zr Xs Ms (st0:=?st0) (α:=Nat) (fun k=>[(5,.d (J (k:Int)))]) (fun _=>[]) (fun k=>k≤a.length) (fun k=>a.length-k) 0 ?hc (by omega) ?h0 ?step
 case hc=>simp +contextual -implicitDefEqProofs (maxSteps:=10^7) only[go_sem,seval,↓gZ]<;>exact rfl
 case h0=>rfl
 case step=>
  intro k hk ih
  by_cases hlt:k<a.length
  ·obtain⟨x,hx⟩:=Zp hlt
   have hw:=Zl (k:=k) (by omega)
   simp +contextual -implicitDefEqProofs (maxSteps:=10^7) only[go_sem,seval,↓gZ,hx,hlt,hw]
   refine ih (k+1) _ (by omega) (by omega) ?_
   simp +contextual -implicitDefEqProofs (maxSteps:=10^7) only[go_sem,seval,↓gZ]
  ·have:k=a.length:=by omega
   subst this
   simp +contextual -implicitDefEqProofs (maxSteps:=10^7) only[go_sem,seval,↓gZ]
theorem Jn (sS:List Zb) (sO sD:List Zc) (sL sC:Int) (hs:ZaE (Zo.mk sS sO sD sL sC)):Zg Xs Ms XD [(.d (.agg [.sl (sS.map Zb.enc),.sl (sO.map Zc.enc),.sl (sD.map Zc.enc),J sL,J sC])),(.d (.agg [.sl (sS.map Zb.enc),.sl (sO.map Zc.enc),.sl (sD.map Zc.enc),J sL,J sC]))] []=some ((.d (.bool true)),[]):=by
 obtain⟨h1,h2,h3,h4⟩:=hs
 simp only at h1 h2 h3 h4
 have e1:=Zop sS sS (by omega) (fun x hx=>by have:=(h2 x hx).1;omega)
 rw[decide_eq_true rfl] at e1
 have e2:=ZeK sO (by omega)
 have e3:=ZeK sD (by omega)
 refine Zd Xs Ms J4 ZrY (by show 2≤_;decide) ?_
 simp +contextual -implicitDefEqProofs (maxSteps:=10^7) only[go_sem,seval,↓gZ,J4,e1,e2,e3]
theorem ZqU (l:List Zc) (h:VD l):Zg Xs Ms Zb7 [(.d (.sl (l.map Zc.enc)))] []=some ((.d (J (Z4 l))),[]):=by
 have h8:=h.1
 have hb:=h.2.2
 have hall:=fun x hx=>(Z7 h x hx).2.1
 refine Zd Xs Ms ZfP Zzu (by show 1≤_;decide) ?_
 simp +contextual -implicitDefEqProofs (maxSteps:=10^7) only[go_sem,seval,↓gZ,ZfP]
 refine Zr Xs Ms (st0:=?st0) (α:=Nat) (fun k=>[(4,.d (J (k:Int))),(3,.d (J (Z4 (l.take k))))]) (fun _=>[]) (fun k=>k≤l.length) (fun k=>l.length-k) 0 ?hc (by omega) ?h0 ?step
 case hc=>simp +contextual -implicitDefEqProofs (maxSteps:=10^7) only[go_sem,seval,↓gZ]<;>exact rfl
 case h0=>rfl
 case step=>
  intro k hk ih
  by_cases hlt:k<l.length
  ·obtain⟨x,hx⟩:=Zp hlt
   have hw:=Zl (k:=k) (by omega)
   have ht:=Znd hx
   have h1:=ZeH (i:=k) hall
   have h2:=ZeH (i:=k+1) hall
   have h3:=ZhZ (l:=l.take k) (fun y hy=>hall y (List.mem_of_mem_take hy))
   have hx1:=hall x (List.mem_of_getElem? hx)
   obtain⟨⟨W,H,T,K⟩,C⟩:=x
   simp only at ht hx1
   have u0:=wi (Z4 (l.take k)+C) (by omega) (by omega)
   simp +contextual -implicitDefEqProofs (maxSteps:=10^7) only[go_sem,seval,↓gZ,hx,hlt,hw,u0]
   refine ih (k+1) _ (by omega) (by omega) ?_
   simp +contextual -implicitDefEqProofs (maxSteps:=10^7) only[go_sem,seval,↓gZ,ht]
  ·have:k=l.length:=by omega
   subst this
   simp +contextual -implicitDefEqProofs (maxSteps:=10^7) only[go_sem,seval,↓gZ,List.take_length]
theorem Zav (qL qW qH:Int) (qF:List Box) (w h:Int) (hq:VPc (Zb.mk qL qW qH qF)) (hw:1≤w∧w≤200) (hh:1≤h∧h≤200):Zg Xs Ms XU [(.d (.agg [J qL,J qW,J qH,.sl (qF.map Box.enc)])),(.d (J w)),(.d (J h))] []=some (fcV (Xz (Zb.mk qL qW qH qF) w h)):=by
 have e0:=Xj qL qW qH qF
 rw[decide_eq_true hq] at e0
 have hF:∀ f∈qF,VB f:=fun f hf=>(hq.2 f hf).1
 obtain⟨_,_,hW1,hW2,hH1,hH2,hF6⟩:=hq.1
 simp only at hW1 hW2 hH1 hH2 hF6
 clear hq
 have n1:¬w<1:=by omega
 have n2:¬(200:Int)<w:=by omega
 have n3:¬h<1:=by omega
 have n4:¬(200:Int)<h:=by omega
 unfold Xz
 simp only
 refine Zd Xs Ms U7 Zra (by show 3≤_;decide) ?_
 simp +contextual -implicitDefEqProofs (maxSteps:=10^7) only[go_sem,seval,↓gZ,U7,e0,n1,n2,n3,n4]
 refine Zr Xs Ms (st0:=?st0) (α:=Nat) (fun y=>[(8,.d (J (y:Int)))]) (fun _=>[]) (fun y=>(y:Int)≤qH∧Zqy qF qW qH w h (qH.toNat+1-y) y=Zqy qF qW qH w h (qH.toNat+1) 0) (fun y=>qH.toNat+1-y) 0 ?hc ⟨by omega,by simp⟩ ?h0 ?step
 case hc=>simp +contextual -implicitDefEqProofs (maxSteps:=10^7) only[go_sem,seval,↓gZ]<;>exact rfl
 case h0=>rfl
 case step=>
  intro y ⟨hy,hp⟩ ih
  obtain⟨n,hn⟩:∃ n,qH.toNat+1-y=n+1:=⟨qH.toNat-y,by omega⟩
  rw[hn,Zqy] at hp
  have wy:=wi ((y:Int)+h) (by omega) (by omega)
  by_cases hyl:(y:Int)+h≤qH
  ·rw[if_pos hyl] at hp
   simp +contextual -implicitDefEqProofs (maxSteps:=10^7) only[go_sem,seval,↓gZ,wy,hyl]
   refine Zr Xs Ms (st0:=?st1) (α:=Nat) (fun x=>[(9,.d (J (x:Int)))]) (fun _=>[]) (fun x=>(x:Int)≤qW∧Zqx qF qW w h y (qW.toNat+1-x) x=Zqx qF qW w h y (qW.toNat+1) 0) (fun x=>qW.toNat+1-x) 0 ?hc2 ⟨by omega,by simp⟩ ?h02 ?step2
   case hc2=>simp +contextual -implicitDefEqProofs (maxSteps:=10^7) only[go_sem,seval,↓gZ]<;>exact rfl
   case h02=>rfl
   case step2=>
    intro x ⟨hx,hpx⟩ ih2
    obtain⟨m,hm⟩:∃ m,qW.toNat+1-x=m+1:=⟨qW.toNat-x,by omega⟩
    rw[hm,Zqx] at hpx
    have wx:=wi ((x:Int)+w) (by omega) (by omega)
    have hsx:=Zl (k:=x) (by omega)
    have hsy:=Zl (k:=y) (by omega)
    by_cases hxl:(x:Int)+w≤qW
    ·rw[if_pos hxl] at hpx
     have ec:=ZhU qF x y w h hF (by simp only[VB];omega) (by omega)
     by_cases hcl:Qg qF ⟨x,y,w,h⟩
     ·rw[if_pos hcl] at hpx
      rw[← hpx] at hp
      simp only at hp
      rw[decide_eq_true hcl] at ec
      simp +contextual -implicitDefEqProofs (maxSteps:=10^7) only[go_sem,seval,↓gZ,wx,hxl,ec,Bool.not_true]
      rw[← hp]
      rfl
     ·rw[if_neg hcl] at hpx
      rw[decide_eq_false hcl] at ec
      simp +contextual -implicitDefEqProofs (maxSteps:=10^7) only[go_sem,seval,↓gZ,wx,hxl,ec,hsx,Bool.not_false]
      refine ih2 (x+1) _ ⟨by omega,?_⟩ (by omega) ?_
      ·rw[← hpx]
       have:qW.toNat+1-(x+1)=m:=by omega
       rw[this]
       rfl
      ·simp +contextual -implicitDefEqProofs (maxSteps:=10^7) only[go_sem,seval,↓gZ]
    ·rw[if_neg hxl] at hpx
     rw[← hpx] at hp
     simp only at hp
     simp +contextual -implicitDefEqProofs (maxSteps:=10^7) only[go_sem,seval,↓gZ,wx,hxl,hsy]
     refine ih (y+1) _ ⟨by omega,?_⟩ (by omega) ?_
     ·rw[← hp]
      have:qH.toNat+1-(y+1)=n:=by omega
      rw[this]
      rfl
     ·simp +contextual -implicitDefEqProofs (maxSteps:=10^7) only[go_sem,seval,↓gZ]
  ·rw[if_neg hyl] at hp
   simp +contextual -implicitDefEqProofs (maxSteps:=10^7) only[go_sem,seval,↓gZ,wy,hyl]
   rw[← hp]
   rfl
theorem ZqV (qL qW qH:Int) (qF:List Box) (pW pH:Int) (pT:Bool) (pK:Int) (hq:VPc (Zb.mk qL qW qH qF)) (hp:VP (Pane.mk pW pH pT pK)):Zg Xs Ms Uk [(.d (.agg [J qL,J qW,J qH,.sl (qF.map Box.enc)])),(.d (.agg [J pW,J pH,.bool pT,J pK]))] []=some ((.d (.bool (okP (Pane.mk pW pH pT pK) (Zb.mk qL qW qH qF)))),[]):=by
 have hpw:1≤pW∧pW≤200∧1≤pH∧pH≤200:=⟨hp.1,hp.2.1,hp.2.2.1,hp.2.2.2.1⟩
 have f1:=Zav qL qW qH qF pW pH hq ⟨hpw.1,hpw.2.1⟩ hpw.2.2
 have f2:=Zav qL qW qH qF pH pW hq hpw.2.2 ⟨hpw.1,hpw.2.1⟩
 have hok:okP (Pane.mk pW pH pT pK) (Zb.mk qL qW qH qF)=((Xz ⟨qL,qW,qH,qF⟩ pW pH).isSome || (pT&&(Xz ⟨qL,qW,qH,qF⟩ pH pW).isSome)):=rfl
 rw[hok]
 cases h1:Xz ⟨qL,qW,qH,qF⟩ pW pH with
 | some b1=>
  rw[h1] at f1
  unfold fcV at f1
  obtain⟨bX,bY,bW,bH⟩:=b1
  refine Zd Xs Ms Xg Zct (by show 2≤_;decide) ?_
  simp +contextual -implicitDefEqProofs (maxSteps:=10^7) only[go_sem,seval,↓gZ,Xg,f1,Option.isSome_some,Bool.true_or]
 | none=>
  rw[h1] at f1
  unfold fcV at f1
  cases pT with
  | false=>
   refine Zd Xs Ms Xg Zct (by show 2≤_;decide) ?_
   simp +contextual -implicitDefEqProofs (maxSteps:=10^7) only[go_sem,seval,↓gZ,Xg,f1,Option.isSome_none,Bool.false_or,Bool.false_and]
  | true=>
   cases h2:Xz ⟨qL,qW,qH,qF⟩ pH pW with
   | some b2=>
    rw[h2] at f2
    unfold fcV at f2
    obtain⟨bX,bY,bW,bH⟩:=b2
    refine Zd Xs Ms Xg Zct (by show 2≤_;decide) ?_
    simp +contextual -implicitDefEqProofs (maxSteps:=10^7) only[go_sem,seval,↓gZ,Xg,f1,f2,Option.isSome_none,Option.isSome_some,Bool.false_or,Bool.true_and]
   | none=>
    rw[h2] at f2
    unfold fcV at f2
    refine Zd Xs Ms Xg Zct (by show 2≤_;decide) ?_
    simp +contextual -implicitDefEqProofs (maxSteps:=10^7) only[go_sem,seval,↓gZ,Xg,f1,f2,Option.isSome_none,Bool.false_or,Bool.true_and]
theorem ZqW (l:List Zb) (pW pH:Int) (pT:Bool) (pK:Int) (hv:VSt l) (hp:VP (Pane.mk pW pH pT pK)):Zg Xs Ms Uj [(.d (.sl (l.map Zb.enc))),(.d (.agg [J pW,J pH,.bool pT,J pK]))] []=some ((.d (J (Ztl l (Pane.mk pW pH pT pK)))),[]):=by
 have e1:=Vr l
 have e2:=Za7 pW pH pT pK
 rw[decide_eq_true hv] at e1
 rw[decide_eq_true hp] at e2
 have hval:=fun x hx=>Z8 hv.2 x hx
 have hl20:=hv.1
 unfold Ztl
 rw[if_pos ⟨hv,hp⟩]
 refine Zd Xs Ms J7 Zr5 (by show 2≤_;decide) ?_
 simp +contextual -implicitDefEqProofs (maxSteps:=10^7) only[go_sem,seval,↓gZ,J7,e1,e2]
 refine Zr Xs Ms (st0:=?st0) (α:=Nat×Int×Int×Int) (fun s=>[(20,.d (J (s.1:Int))),(5,.d (J s.2.2.1)),(6,.d (J s.2.2.2))]) (fun _=>[]) (fun s=>s.1≤l.length∧Zc4 l (Pane.mk pW pH pT pK) (l.drop s.1) s.1 s.2.1=ZeI l (Pane.mk pW pH pT pK)∧((s.2.1=-1∧s.2.2.1=0)∨∃ (j:Nat) (y:Zb),s.2.1=(j:Int)∧l[j]?=some y∧s.2.2.1=y.Label∧s.2.2.2=y.W*y.H)) (fun s=>l.length-s.1) (0,-1,0,0) ?hc ⟨by simp,by simp[ZeI],.inl ⟨rfl,rfl⟩⟩ ?h0 ?step
 case hc=>simp +contextual -implicitDefEqProofs (maxSteps:=10^7) only[go_sem,seval,↓gZ]<;>exact rfl
 case h0=>rfl
 case step=>
  intro⟨i,b,lb,ls⟩ ⟨hi,hq,hb⟩ ih
  simp only at hi hq hb
  by_cases hlt:i<l.length
  ·obtain⟨x,hx⟩:=Zp hlt
   have hw:=Zl (k:=i) (by omega)
   rw[Zn0 hx] at hq
   have hvx:=hval x (List.mem_of_getElem? hx)
   have f1:=ZqV x.Label x.W x.H x.Flaws pW pH pT pK hvx hp
   have hx1:=hvx.1
   have hxa:0≤x.W*x.H∧x.W*x.H≤40000:=ZaZ (b:=⟨0,0,x.W,x.H⟩) (by simp only[VB];omega)
   obtain⟨L,W,H,F⟩:=x
   simp only at f1 hxa hq hx1
   have u1:=wi (W*H) (by omega) (by omega)
   by_cases hc:lb=0∨W*H<ls
   ·have hcb:b<0∨W*H<Zgy l b:=by
     rcases hb with ⟨h1,h2⟩ | ⟨j,y,h1,h2,h3,h4⟩
     ·left;omega
     ·have:=(hval y (List.mem_of_getElem? h2)).1
      right
      unfold Zgy
      rw[h1,Int.toNat_natCast,h2]
      simp only
      rcases hc with hc | hc
      ·omega
      ·omega
    by_cases hok:okP (Pane.mk pW pH pT pK) ⟨L,W,H,F⟩=true
    ·rw[hok] at f1
     rw[if_pos ⟨hok,hcb⟩] at hq
     rcases hc with hc | hc
     ·simp +contextual -implicitDefEqProofs (maxSteps:=10^7) only[go_sem,seval,↓gZ,hx,hlt,hw,f1,u1,hc]
      refine ih (i+1,(i:Int),L,W*H) _ ⟨by simp only;omega,hq,.inr ⟨i,⟨L,W,H,F⟩,rfl,hx,rfl,rfl⟩⟩ (by simp only;omega) ?_
      simp +contextual -implicitDefEqProofs (maxSteps:=10^7) only[go_sem,seval,↓gZ]
     ·by_cases h0:lb=0
      ·simp +contextual -implicitDefEqProofs (maxSteps:=10^7) only[go_sem,seval,↓gZ,hx,hlt,hw,f1,u1,h0]
       refine ih (i+1,(i:Int),L,W*H) _ ⟨by simp only;omega,hq,.inr ⟨i,⟨L,W,H,F⟩,rfl,hx,rfl,rfl⟩⟩ (by simp only;omega) ?_
       simp +contextual -implicitDefEqProofs (maxSteps:=10^7) only[go_sem,seval,↓gZ]
      ·simp +contextual -implicitDefEqProofs (maxSteps:=10^7) only[go_sem,seval,↓gZ,hx,hlt,hw,f1,u1,h0,hc]
       refine ih (i+1,(i:Int),L,W*H) _ ⟨by simp only;omega,hq,.inr ⟨i,⟨L,W,H,F⟩,rfl,hx,rfl,rfl⟩⟩ (by simp only;omega) ?_
       simp +contextual -implicitDefEqProofs (maxSteps:=10^7) only[go_sem,seval,↓gZ]
    ·rw[if_neg (fun h=>hok h.1)] at hq
     simp only[Bool.not_eq_true] at hok
     rw[hok] at f1
     by_cases h0:lb=0
     ·simp +contextual -implicitDefEqProofs (maxSteps:=10^7) only[go_sem,seval,↓gZ,hx,hlt,hw,f1,u1,h0]
      refine ih (i+1,b,0,ls) _ ⟨by simp only;omega,hq,by rw[h0] at hb;exact hb⟩ (by simp only;omega) ?_
      simp +contextual -implicitDefEqProofs (maxSteps:=10^7) only[go_sem,seval,↓gZ]
     ·have hc:W*H<ls:=hc.resolve_left h0
      simp +contextual -implicitDefEqProofs (maxSteps:=10^7) only[go_sem,seval,↓gZ,hx,hlt,hw,f1,u1,h0,hc]
      refine ih (i+1,b,lb,ls) _ ⟨by simp only;omega,hq,hb⟩ (by simp only;omega) ?_
      simp +contextual -implicitDefEqProofs (maxSteps:=10^7) only[go_sem,seval,↓gZ]
   ·have h0:¬lb=0:=fun h=>hc (.inl h)
    have h1:¬W*H<ls:=fun h=>hc (.inr h)
    rw[if_neg (fun h=>by
     rcases hb with ⟨h2,h3⟩ | ⟨j,y,h2,h3,h4,h5⟩
     ·exact h0 h3
     ·rcases h.2 with h6 | h6
      ·omega
      ·unfold Zgy at h6
       rw[h2,Int.toNat_natCast,h3] at h6
       simp only at h6
       omega)] at hq
    simp +contextual -implicitDefEqProofs (maxSteps:=10^7) only[go_sem,seval,↓gZ,hx,hlt,hw,f1,u1,h0,h1]
    refine ih (i+1,b,lb,ls) _ ⟨by simp only;omega,hq,hb⟩ (by simp only;omega) ?_
    simp +contextual -implicitDefEqProofs (maxSteps:=10^7) only[go_sem,seval,↓gZ]
  ·have:i=l.length:=by omega
   subst this
   rw[Zqz] at hq
   rcases hb with ⟨h1,h2⟩ | ⟨j,y,h1,h2,h3,h4⟩
   ·have hn:ZeI l (Pane.mk pW pH pT pK)<0:=by omega
    simp +contextual -implicitDefEqProofs (maxSteps:=10^7) only[go_sem,seval,↓gZ]
    rw[if_pos hn,h2]
   ·have hn:¬ZeI l (Pane.mk pW pH pT pK)<0:=by omega
    simp +contextual -implicitDefEqProofs (maxSteps:=10^7) only[go_sem,seval,↓gZ]
    rw[if_neg hn,← hq,h1,Int.toNat_natCast,h2,h3]
theorem ZAC {k:ZD} {c:L.Place} (hw:VW k) (hc:Zk6 k c):plV (popL k [c])=ZcH (QI c.Pane c.Turned c.Box.X c.Box.Y c.Box.W c.Box.H 0 0 k.W k.H).plan∧VPl k [c]:=by
 have hv:VPl k [c]:=by
  refine⟨⟨hw,by simp⟩,fun d hd=>?_,?_⟩
  ·rw[List.mem_singleton.1 hd];exact hc
  ·unfold ZgM;simp
 refine⟨?_,hv⟩
 obtain⟨h1,h2,h3,h4⟩:=Ztq hv
 have hG:=ZrT (k.W+k.H).toNat [c] 0 0 k.W k.H h1 h2 (Nat.le_refl _) (by simp)
 have hi:=h2 c (by simp)
 obtain⟨P,T,⟨X,Y,W,H⟩⟩:=c
 have hO:=ZjK P T X Y W H 0 0 k.W k.H (by simp only[VB] at h1;simp only[VB,QP] at hi;unfold Zeg;omega)
 have h:some (plV (Wi (k.W+k.H).toNat [⟨P,T,⟨X,Y,W,H⟩⟩] ⟨0,0,k.W,k.H⟩))=some (ZcH (QI P T X Y W H 0 0 k.W k.H).plan):=hG.symm.trans hO
 unfold popL
 rw[if_pos hv]
 exact Option.some.inj h
def cfV (ok:Bool):ZF→AV×List Zt
 | ⟨k,l,⟨x,y,w,h⟩,⟨⟨pw,ph,pt,pk⟩,c⟩,.mk o a q t ks⟩=>(.tup [.agg [(.d (J k)),(.d (J l)),(.d (J x)),(.d (J y)),(.d (J w)),(.d (J h)),(.d (J pw)),(.d (J ph)),(.d (.bool pt)),(.d (J pk)),(.d (J c)),(.d (J o)),(.d (J a)),(.d (J q)),(.d (.bool t)),.own 0],(.d (.bool ok))],[.row 5 (ks.map Zh.enc) true false])
theorem Zwc (sS:List Zb) (sO sD:List Zc) (sL sC:Int) (qL qW qH:Int) (qF:List Box) (i:Nat) (pW pH:Int) (pT:Bool) (pK:Int) (hv:ZH (Zo.mk sS sO sD sL sC)) (a:Nat) (ha:sS[a]?=some (Zb.mk qL qW qH qF)) (y:Zc) (hy:sO[i]?=some y) (hyp:y.Pane=(Pane.mk pW pH pT pK)) (hok:okP (Pane.mk pW pH pT pK) (Zb.mk qL qW qH qF)=true) :
  ∃ (t:Bool) (b:Box),((Xz (Zb.mk qL qW qH qF) pW pH=some b∧t=false)∨(Xz (Zb.mk qL qW qH qF) pW pH=none∧Xz (Zb.mk qL qW qH qF) pH pW=some b∧t=true))∧Zk6 ⟨qW,qH,sO.map Zc.Pane⟩ ⟨i,t,b⟩∧VW ⟨qW,qH,sO.map Zc.Pane⟩ ∧
   Zg Xs Ms Zb8 [(.d (.agg [.sl (sS.map Zb.enc),.sl (sO.map Zc.enc),.sl (sD.map Zc.enc),J sL,J sC])),(.d (.agg [J qL,J qW,J qH,.sl (qF.map Box.enc)])),(.d (J i)),(.d (.agg [J pW,J pH,.bool pT,J pK]))] []=some (cfV (QK (Zo.mk sS sO sD sL sC) (Zni i t b (Zb.mk qL qW qH qF))).isSome (Zni i t b (Zb.mk qL qW qH qF))):=by
 have hqv:=Z8 hv.1.2 _ (List.mem_of_getElem? ha)
 have hxv:=hqv.1
 simp only at hxv
 have hp:VP (Pane.mk pW pH pT pK):=by rw[← hyp];exact(Z7 hv.2.1 y (List.mem_of_getElem? hy)).1
 have hpw:1≤pW∧pW≤200∧1≤pH∧pH≤200:=⟨hp.1,hp.2.1,hp.2.2.1,hp.2.2.2.1⟩
 have e1:=Zma sS sO sD sL sC qL
 unfold Zyn at e1
 have hlab:=Zl8 (k:=0) hv.1.2 ha
 rw[Nat.zero_add] at hlab
 rw[if_pos hv] at e1
 simp only at hlab
 simp only[ZdH hlab ha] at e1
 unfold wkV at e1
 simp only at e1
 have f1:=Zav qL qW qH qF pW pH hqv ⟨hpw.1,hpw.2.1⟩ hpw.2.2
 have f2:=Zav qL qW qH qF pH pW hqv hpw.2.2 ⟨hpw.1,hpw.2.1⟩
 have hO8:=hv.2.1.1
 simp only at hO8
 have hvw:VW ⟨qW,qH,sO.map Zc.Pane⟩:=by
  refine⟨by simp only;omega,by simp only;omega,by simp only;omega,by simp only;omega,by simp;omega,fun z hz=>?_⟩
  obtain⟨x,hx,rfl⟩:=List.mem_map.1 hz
  exact(Z7 hv.2.1 x hx).1
 have hpi:(sO.map Zc.Pane)[i]?=some (Pane.mk pW pH pT pK):=by rw[List.getElem?_map,hy,← hyp];rfl
 have fin:∀ (t:Bool) (b:Box),Zk6 ⟨qW,qH,sO.map Zc.Pane⟩ ⟨i,t,b⟩→∃ (o a' p' : Int) (t' : Bool) (ks:List Zh),(QI i t b.X b.Y b.W b.H 0 0 qW qH).plan=.mk o a' p' t' ks ∧
   Zg Xs Ms Yi [.d (.agg [J qW,J qH,.sl ((sO.map Zc.Pane).map Pane.enc)]),.d (.sl [.agg [J (i:Int),.bool t,J b.X,J b.Y,J b.W,J b.H]])] []=some (.tup [.agg [(.d (J o)),(.d (J (a'))),(.d (J (p'))),(.d (.bool (t'))),.own 0],(.d (.bool true))],[.row 5 (ks.map Zh.enc) true false]):=by
  intro t b hc
  have e:=Zmc qW qH (sO.map Zc.Pane) [⟨i,t,b⟩]
  rw[(ZAC hvw hc).1] at e
  simp only at e
  cases hpp:(QI i t b.X b.Y b.W b.H 0 0 qW qH).plan with
  | mk o a' p' t' ks=>
   rw[hpp] at e
   exact⟨o,a',p',t',ks,rfl,e⟩
 cases h1:Xz (Zb.mk qL qW qH qF) pW pH with
 | some b=>
  obtain⟨g1,g2,g3,g4,g5,g6,_⟩:=ZcG h1
  simp only at g2 g4
  have hc:Zk6 ⟨qW,qH,sO.map Zc.Pane⟩ ⟨i,false,b⟩:=by
   refine⟨⟨?_,?_⟩,?_⟩
   ·simp only[VB];omega
   ·simp only[QP];omega
   ·simp[YL,hpi,g5,g6]
  refine⟨false,b,.inl ⟨rfl,rfl⟩,hc,hvw,?_⟩
  obtain⟨o,a',p',t',ks,k1,k2⟩:=fin false b hc
  rw[h1] at f1
  have e5:=Zau sS sO sD sL sC 3 qL 0 0 0 0 0 0 false 0 0 o a' p' t' ks
  rw[if_pos hv] at e5
  unfold Zni
  simp only[k1]
  obtain⟨bX,bY,bW,bH⟩:=b
  unfold fcV at f1
  simp only at f1 k2
  cases hap:QK (Zo.mk sS sO sD sL sC) ⟨3,qL,⟨0,0,0,0⟩,⟨⟨0,0,false,0⟩,0⟩,.mk o a' p' t' ks⟩ with
  | none=>
   rw[hap] at e5
   unfold shV at e5
   unfold cfV
   refine Zd Xs Ms Vi ZgB (by show 4≤_;decide) ?_
   simp +contextual -implicitDefEqProofs (maxSteps:=10^7) only[go_sem,seval,↓gZ,Vi,e1,f1,k2,e5,Option.isSome_none]
  | some u=>
   rw[hap] at e5
   obtain⟨a1,a2,a3,a4,a5⟩:=u
   unfold shV at e5
   simp only at e5
   unfold cfV
   refine Zd Xs Ms Vi ZgB (by show 4≤_;decide) ?_
   simp +contextual -implicitDefEqProofs (maxSteps:=10^7) only[go_sem,seval,↓gZ,Vi,e1,f1,k2,e5,Option.isSome_some]
 | none=>
  unfold okP at hok
  simp only[h1,Option.isSome_none,Bool.false_or,Bool.and_eq_true] at hok
  obtain⟨hT,hs⟩:=hok
  subst hT
  cases h2:Xz (Zb.mk qL qW qH qF) pH pW with
  | none=>rw[h2] at hs;cases hs
  | some b=>
   obtain⟨g1,g2,g3,g4,g5,g6,_⟩:=ZcG h2
   simp only at g2 g4
   have hne:¬pW=pH:=fun h=>by rw[h] at h1 h2;rw[h1] at h2;cases h2
   have hc:Zk6 ⟨qW,qH,sO.map Zc.Pane⟩ ⟨i,true,b⟩:=by
    refine⟨⟨?_,?_⟩,?_⟩
    ·simp only[VB];omega
    ·simp only[QP];omega
    ·simp[YL,hpi,g5,g6,hne]
   refine⟨true,b,.inr ⟨rfl,rfl,rfl⟩,hc,hvw,?_⟩
   obtain⟨o,a',p',t',ks,k1,k2⟩:=fin true b hc
   rw[h1] at f1
   rw[h2] at f2
   have e5:=Zau sS sO sD sL sC 3 qL 0 0 0 0 0 0 false 0 0 o a' p' t' ks
   rw[if_pos hv] at e5
   unfold Zni
   simp only[k1]
   obtain⟨bX,bY,bW,bH⟩:=b
   unfold fcV at f1 f2
   simp only at f1 f2 k2
   cases hap:QK (Zo.mk sS sO sD sL sC) ⟨3,qL,⟨0,0,0,0⟩,⟨⟨0,0,false,0⟩,0⟩,.mk o a' p' t' ks⟩ with
   | none=>
    rw[hap] at e5
    unfold shV at e5
    unfold cfV
    refine Zd Xs Ms Vi ZgB (by show 4≤_;decide) ?_
    simp +contextual -implicitDefEqProofs (maxSteps:=10^7) only[go_sem,seval,↓gZ,Vi,e1,f1,f2,k2,e5,Option.isSome_none]
   | some u=>
    rw[hap] at e5
    obtain⟨a1,a2,a3,a4,a5⟩:=u
    unfold shV at e5
    simp only at e5
    unfold cfV
    refine Zd Xs Ms Vi ZgB (by show 4≤_;decide) ?_
    simp +contextual -implicitDefEqProofs (maxSteps:=10^7) only[go_sem,seval,↓gZ,Vi,e1,f1,f2,k2,e5,Option.isSome_some]
theorem Zbg (sS:List Zb) (sO sD:List Zc) (sL sC:Int) (hv:ZH (Zo.mk sS sO sD sL sC)):Zg Xs Ms WJ [(.d (.agg [.sl (sS.map Zb.enc),.sl (sO.map Zc.enc),.sl (sD.map Zc.enc),J sL,J sC]))] []=some (nxV (Wh (Zo.mk sS sO sD sL sC))):=by
 have e1:=ZN sS sO sD sL sC
 rw[decide_eq_true hv] at e1
 have hO8:=hv.2.1.1
 have hS20:=hv.1.1
 simp only at hO8 hS20
 refine Zd Xs Ms ZcL Zwj (by show 1≤_;decide) ?_
 simp +contextual -implicitDefEqProofs (maxSteps:=10^7) only[go_sem,seval,↓gZ,ZcL,e1]
 refine Zr Xs Ms (st0:=?st0) (α:=Nat) (fun i=>[(17,.d (J (i:Int)))]) (fun _=>[]) (fun i=>i≤sO.length∧UO (Zo.mk sS sO sD sL sC) (sO.drop i) i=Wh (Zo.mk sS sO sD sL sC)) (fun i=>sO.length-i) 0 ?hc ⟨by omega,by simp[Wh]⟩ ?h0 ?step
 case hc=>simp +contextual -implicitDefEqProofs (maxSteps:=10^7) only[go_sem,seval,↓gZ]<;>exact rfl
 case h0=>rfl
 case step=>
  intro i ⟨hi,hp⟩ ih
  by_cases hlt:i<sO.length
  ·obtain⟨x,hx⟩:=Zp hlt
   have hw:=Zl (k:=i) (by omega)
   rw[Zh7 hx] at hp
   have hxv:=Z7 hv.2.1 x (List.mem_of_getElem? hx)
   have hxx:=hx
   obtain⟨⟨W,H,T,K⟩,C⟩:=x
   simp only at hxv
   have ef:=ZqW sS W H T K hv.1 hxv.1
   unfold Ztl at ef
   rw[if_pos ⟨hv.1,hxv.1⟩] at ef
   unfold ZqD at hp
   simp only at hp
   rcases ZqA sS ⟨W,H,T,K⟩ with h0 | ⟨j,q,hj,hq,hok⟩
   ·rw[if_pos h0] at ef hp
    simp only at hp
    simp +contextual -implicitDefEqProofs (maxSteps:=10^7) only[go_sem,seval,↓gZ,hx,hlt,hw,ef]
    refine ih (i+1) _ ⟨by omega,hp⟩ (by omega) ?_
    simp +contextual -implicitDefEqProofs (maxSteps:=10^7) only[go_sem,seval,↓gZ]
   ·have hj0:¬(j:Int)<0:=by omega
    rw[hj,if_neg hj0,Int.toNat_natCast,hq] at ef hp
    simp only at hp ef
    have hqv:=Z8 hv.1.2 q (List.mem_of_getElem? hq)
    have hjl:=(List.getElem?_eq_some_iff.1 hq).1
    have el:=Y4 sS q.Label (by omega)
    rw[Zl8 hv.1.2 hq,Nat.zero_add] at el
    have hl1:0<q.Label:=by have:=hqv.1;omega
    obtain⟨qL,qW,qH,qF⟩:=q
    simp only at ef el hp hl1
    obtain⟨t,b,hb,_,_,ec⟩:=Zwc sS sO sD sL sC qL qW qH qF i W H T K hv j hq _ hxx rfl hok
    have hp:(if (QK (Zo.mk sS sO sD sL sC) (Zni i t b ⟨qL,qW,qH,qF⟩)).isSome=true then some (Zni i t b ⟨qL,qW,qH,qF⟩) else UO (Zo.mk sS sO sD sL sC) (sO.drop (i+1)) (i+1))=Wh (Zo.mk sS sO sD sL sC):=by
     rcases hb with ⟨k1,rfl⟩ | ⟨k1,k2,rfl⟩
     ·rw[k1] at hp;exact hp
     ·rw[k1,k2] at hp;exact hp
    unfold Zni at ec hp
    cases hpp:(QI i t b.X b.Y b.W b.H 0 0 qW qH).plan with
    | mk o a p t' ks=>
     simp only[hpp] at ec hp
     unfold cfV at ec
     simp only at ec
     cases hap:QK (Zo.mk sS sO sD sL sC) ⟨3,qL,⟨0,0,0,0⟩,⟨⟨0,0,false,0⟩,0⟩,.mk o a p t' ks⟩ with
     | none=>
      rw[hap] at ec hp
      simp only[Option.isSome_none,Bool.false_eq_true,if_false] at ec hp
      simp +contextual -implicitDefEqProofs (maxSteps:=10^7) only[go_sem,seval,↓gZ,hx,hlt,hw,ef,el,ec,hl1,hjl,hq]
      refine ih (i+1) _ ⟨by omega,hp⟩ (by omega) ?_
      simp +contextual -implicitDefEqProofs (maxSteps:=10^7) only[go_sem,seval,↓gZ]
     | some u=>
      rw[hap] at ec hp
      simp only[Option.isSome_some,if_true] at ec hp
      rw[← hp]
      unfold nxV
      simp +contextual -implicitDefEqProofs (maxSteps:=10^7) only[go_sem,seval,↓gZ,hx,hlt,hw,ef,el,ec,hl1,hjl,hq]
  ·have:i=sO.length:=by omega
   subst this
   rw[ZqE] at hp
   rw[← hp]
   unfold nxV
   simp +contextual -implicitDefEqProofs (maxSteps:=10^7) only[go_sem,seval,↓gZ]
def Zmf:List Int→Int
 | []=>0
 | x :: l=>x+Zmf l
theorem Zwd:∀ {u:List Int} {n:Nat} {v w:Int},u[n]?=some v→Zmf (u.set n w)=Zmf u-v+w
 | [],n,v,w,h=>by simp at h
 | x :: u,0,v,w,h=>by
  simp only[List.getElem?_cons_zero,Option.some.injEq] at h
  subst h
  simp only[List.set_cons_zero,Zmf];omega
 | x :: u,n+1,v,w,h=>by
  simp only[List.getElem?_cons_succ] at h
  simp only[List.set_cons_succ,Zmf,Zwd h];omega
theorem Ztt:∀ (l:List L.Place) (u:List Int),(∀ c∈l,∃ n:Nat,c.Pane=(n:Int)∧n<u.length)→Zmf (J2 u l)=Zmf u+l.length
 | [],u,_=>by simp[J2]
 | x :: l,u,h=>by
  obtain⟨n,h1,h2⟩:=h x (by simp)
  obtain⟨v,hv⟩:=Zp h2
  rw[J2,h1,Int.toNat_natCast,hv,Ztt l _ (fun c hc=>by
   obtain⟨m,a,b⟩:=h c (by simp[hc])
   exact⟨m,a,by simpa using b⟩),Zwd hv]
  simp only[Option.getD_some,List.length_cons];omega
theorem Zwe:∀ n:Nat,Zmf (List.replicate n 0)=0
 | 0=>rfl
 | n+1=>by simp[List.replicate_succ,Zmf,Zwe n]
theorem Zzq {k:ZD} {p:Zh} (hv:Wm k p=true):Zmf (Zdi k p)=((QE k p).filterMap Xw).length:=by
 obtain⟨b,hb,hpb,hvw,hcnt,hfit,hpt⟩:=Xp hv
 unfold Zdi
 rw[hpt,Vq,Ztt _ _ (fun c hc=>by
  obtain⟨n,h1,h2⟩:=ZcE hfit c hc
  exact⟨n,h1,by simpa using h2⟩),Zwe]
 omega
theorem Zk8:∀ {ps:List Pane} {us:List Int} {o d o' d' : List Zc},us.length=ps.length→Vo ps us o d=some (o',d')→Z4 d'=Z4 d+Zmf us
 | [],us,o,d,o',d',hl,h=>by
  cases us with
  | nil=>unfold Vo at h;cases h;simp[Zmf]
  | cons c us=>simp at hl
 | p :: ps,[],o,d,o',d',hl,h=>by simp at hl
 | p :: ps,c :: us,o,d,o',d',hl,h=>by
  rw[Vo] at h
  simp only[List.length_cons,Nat.add_right_cancel_iff] at hl
  split at h
  ·rename_i h0
   rw[Zk8 hl h,Zmf,h0];omega
  ·split at h
   ·rw[Zk8 hl h,Zb5,Zmf];omega
   ·cases h
theorem ZCt {i:Int} {t:Bool} {X Y W H bX bY bW bH:Int} (h:Zeg X Y W H bX bY bW bH):plc (QI i t X Y W H bX bY bW bH) bX bY bW bH=[⟨i,t,⟨X,Y,W,H⟩⟩]:=by
 have h0:=h
 unfold Zeg at h0
 have q4:∀ (y h' : Int),y=Y→Y+H≤y+h'→plc (if Y+H<Y+h' then BT.cut false H (.pane i t) .waste else .pane i t) X y W h'=[⟨i,t,⟨X,Y,W,H⟩⟩]:=by
  intro y h' e e2
  subst e
  split
  ·simp[plc]
  ·have:h'=H:=by omega
   simp[plc,this]
 have q3:plc (if bY<Y then BT.cut false (Y-bY) .waste (if Y+H<bY+bH then BT.cut false H (.pane i t) .waste else .pane i t) else (if Y+H<bY+bH then BT.cut false H (.pane i t) .waste else .pane i t)) X bY W bH=[⟨i,t,⟨X,Y,W,H⟩⟩]:=by
  split
  ·have e:Y+H<bY+bH↔Y+H<Y+(bH-(Y-bY)):=by omega
   simp only[plc,Bool.false_eq_true,if_false,List.nil_append,e]
   exact q4 _ _ (by omega) (by omega)
  ·have e:bY=Y:=by omega
   subst e
   exact q4 _ _ rfl (by omega)
 have q2:∀ (x w' : Int),x=X→X+W≤x+w'→plc (if X+W<X+w' then BT.cut true W (if bY<Y then BT.cut false (Y-bY) .waste (if Y+H<bY+bH then BT.cut false H (.pane i t) .waste else .pane i t) else (if Y+H<bY+bH then BT.cut false H (.pane i t) .waste else .pane i t)) .waste else (if bY<Y then BT.cut false (Y-bY) .waste (if Y+H<bY+bH then BT.cut false H (.pane i t) .waste else .pane i t) else (if Y+H<bY+bH then BT.cut false H (.pane i t) .waste else .pane i t))) x bY w' bH=[⟨i,t,⟨X,Y,W,H⟩⟩]:=by
  intro x w' e e2
  subst e
  split
  ·simp only[plc,if_true,List.append_nil,q3]
  ·have:w'=W:=by omega
   rw[this];exact q3
 unfold QI
 simp only
 split
 ·have e:X+W<bX+bW↔X+W<X+(bW-(X-bX)):=by omega
  simp only[plc,if_true,List.nil_append,e]
  exact q2 _ _ (by omega) (by omega)
 ·have e:bX=X:=by omega
  subst e
  exact q2 _ _ rfl (by omega)
theorem Zn3 {s:Zo} (hv:ZH s):∀ {m:Nat} {i:Nat} {e:ZF},s.Opn.length-i=m→UO s (s.Opn.drop i) i=some e→∃ (n j:Nat) (x:Zc) (q:Zb) (t:Bool) (b:Box),s.Opn[n]?=some x∧s.Stock[j]?=some q∧e=Zni n t b q∧((Xz q x.Pane.W x.Pane.H=some b∧t=false)∨(Xz q x.Pane.W x.Pane.H=none∧Xz q x.Pane.H x.Pane.W=some b∧t=true))∧okP x.Pane q=true∧∃ u,QK s e=some u
 | 0,i,e,hm,h=>by
  rw[List.drop_eq_nil_of_le (by omega)] at h
  simp[UO] at h
 | m+1,i,e,hm,h=>by
  obtain⟨x,hx⟩:=Zp (l:=s.Opn) (k:=i) (by omega)
  rw[Zh7 hx] at h
  have nx:=fun h=>Zn3 hv (m:=m) (i:=i+1) (e:=e) (by omega) h
  unfold ZqD at h
  rcases ZqA s.Stock x.Pane with h0 | ⟨j,q,hj,hq,hok⟩
  ·rw[if_pos h0] at h;exact nx h
  ·rw[hj,if_neg (by omega),Int.toNat_natCast,hq] at h
   simp only at h
   cases h1:Xz q x.Pane.W x.Pane.H with
   | some b=>
    rw[h1] at h
    simp only at h
    split at h
    ·rename_i ha
     cases h
     exact⟨i,j,x,q,false,b,hx,hq,rfl,.inl ⟨h1,rfl⟩,hok,Option.isSome_iff_exists.1 ha⟩
    ·exact nx h
   | none=>
    rw[h1] at h
    simp only at h
    cases h2:Xz q x.Pane.H x.Pane.W with
    | some b=>
     rw[h2] at h
     simp only at h
     split at h
     ·rename_i ha
      cases h
      exact⟨i,j,x,q,true,b,hx,hq,rfl,.inr ⟨h1,h2,rfl⟩,hok,Option.isSome_iff_exists.1 ha⟩
     ·exact nx h
    | none=>rw[h2] at h;exact nx h
structure NFacts (s:Zo) (e:ZF) (u:Zo) (n j:Nat) (x:Zc) (q:Zb) (t:Bool) (b:Box):Prop where
 fx:s.Opn[n]?=some x
 fq:s.Stock[j]?=some q
 lab:QJ 0 s.Stock q.Label=(j:Int)
 fe:e=Zni n t b q
 ap:QK s e=some u
 vw:VW ⟨q.W,q.H,s.Opn.map Zc.Pane⟩
 pl:Zk6 ⟨q.W,q.H,s.Opn.map Zc.Pane⟩ ⟨n,t,b⟩
 good:WG q ⟨q.W,q.H,s.Opn.map Zc.Pane⟩ e.plan
 places:(QE ⟨q.W,q.H,s.Opn.map Zc.Pane⟩ e.plan).filterMap Xw=[⟨n,t,b⟩]
 clr:Qg q.Flaws b
 done:Z4 u.Done=Z4 s.Done+1
 opn:Z4 u.Opn=Z4 s.Opn-1
theorem Zn4 {s:Zo} {e:ZF} (hv:ZH s) (h:Wh s=some e):∃ u n j x q t b,NFacts s e u n j x q t b:=by
 obtain⟨n,j,x,q,t,b,hx,hq,he,hb,hok,u,hu⟩:=Zn3 hv (i:=0) rfl (by simpa [Wh] using h)
 have hqv:=Z8 hv.1.2 q (List.mem_of_getElem? hq)
 have hxv:=hqv.1
 have hp:=(Z7 hv.2.1 x (List.mem_of_getElem? hx)).1
 have hpw:1≤x.Pane.W∧x.Pane.W≤200∧1≤x.Pane.H∧x.Pane.H≤200:=⟨hp.1,hp.2.1,hp.2.2.1,hp.2.2.2.1⟩
 have hO8:=hv.2.1.1
 have hvw:VW ⟨q.W,q.H,s.Opn.map Zc.Pane⟩:=by
  refine⟨by simp only;omega,by simp only;omega,by simp only;omega,by simp only;omega,by simp;omega,fun z hz=>?_⟩
  obtain⟨y,hy,rfl⟩:=List.mem_map.1 hz
  exact(Z7 hv.2.1 y hy).1
 have hpi:(s.Opn.map Zc.Pane)[n]?=some x.Pane:=by rw[List.getElem?_map,hx];rfl
 have hlab:=Zl8 (k:=0) hv.1.2 hq
 rw[Nat.zero_add] at hlab
 have hbb:Qg q.Flaws b∧Zk6 ⟨q.W,q.H,s.Opn.map Zc.Pane⟩ ⟨n,t,b⟩:=by
  rcases hb with ⟨k1,rfl⟩ | ⟨k1,k2,rfl⟩
  ·obtain⟨g1,g2,g3,g4,g5,g6,g7⟩:=ZcG k1
   refine⟨g7,⟨?_,?_⟩,?_⟩
   ·simp only[VB];omega
   ·simp only[QP];omega
   ·simp[YL,hpi,g5,g6]
  ·obtain⟨g1,g2,g3,g4,g5,g6,g7⟩:=ZcG k2
   have hne:¬x.Pane.W=x.Pane.H:=fun h=>by rw[h] at k1 k2;rw[k1] at k2;cases k2
   unfold okP at hok
   simp only[k1,Option.isSome_none,Bool.false_or,Bool.and_eq_true] at hok
   refine⟨g7,⟨?_,?_⟩,?_⟩
   ·simp only[VB];omega
   ·simp only[QP];omega
   ·simp[YL,hpi,g5,g6,hne,hok.1]
 have hin:Zeg b.X b.Y b.W b.H 0 0 q.W q.H:=by
  have:=hbb.2.1
  simp only[VB,QP] at this
  unfold Zeg;omega
 have hf:=ZqT hv hu
 have hk:e.kind=3:=by rw[he];rfl
 obtain⟨hev,_⟩:=ZqS hu
 have hcs:evS s e=Zdu s e:=by unfold evS;rw[if_neg (by omega),if_neg (by omega),if_neg (by omega),if_neg (by omega),if_neg (by omega),if_pos hk]
 rw[hcs] at hev
 have hel:e.label=q.Label:=by rw[he];rfl
 have hep:e.plan=(QI n t b.X b.Y b.W b.H 0 0 q.W q.H).plan:=by rw[he];rfl
 unfold Zdu at hev
 rw[hel,hlab,Int.toNat_natCast,hq] at hev
 simp only at hev
 cases hst:ZcB s.Stock q.Label ⟨q.W,q.H,s.Opn.map Zc.Pane⟩ e.plan 5 with
 | none=>rw[hst] at hev;cases hev
 | some R=>
  rw[hst] at hev
  simp only at hev
  have hgood:WG q ⟨q.W,q.H,s.Opn.map Zc.Pane⟩ e.plan:=by
   unfold ZcB at hst
   split at hst
   ·rw[hlab,Int.toNat_natCast,hq] at hst
    simp only at hst
    split at hst
    ·rename_i hg;exact hg.1
    ·cases hst
   ·cases hst
  have hvp:=hgood.1
  have hplaces:(QE ⟨q.W,q.H,s.Opn.map Zc.Pane⟩ e.plan).filterMap Xw=[⟨n,t,b⟩]:=by
   obtain⟨B,hB,hpb,_,_,_,hpt⟩:=Xp hvp
   rw[hep,ZmR] at hB
   cases hB
   rw[hpt,Vq]
   exact ZCt hin
  split at hev
  ·split at hev
   ·cases hev
   ·rename_i o d hg
    cases hev
    have hd:=Zk8 (by rw[(ZcF hvp).1]) hg
    rw[Zzq hvp,hplaces] at hd
    have hc:=hf.cnt
    rw[if_neg (by omega)] at hc
    simp only[List.length_cons,List.length_nil] at hd
    have hc:Z4 o+Z4 d=Z4 s.Opn+Z4 s.Done+0:=hc
    exact⟨_,n,j,x,q,t,b,hx,hq,hlab,he,hu,hvw,hbb.2,hgood,hplaces,hbb.1,(by show Z4 d=_;omega),(by show Z4 o=_;omega)⟩
  ·cases hev
theorem ZeL (K Lb X Y W H pW pH:Int) (pT:Bool) (pK Ct:Int) (B:BT):Zg Xs Ms Y6 [.d (ZF.enc ⟨K,Lb,⟨X,Y,W,H⟩,⟨⟨pW,pH,pT,pK⟩,Ct⟩,B.plan⟩),.d (ZF.enc ⟨K,Lb,⟨X,Y,W,H⟩,⟨⟨pW,pH,pT,pK⟩,Ct⟩,B.plan⟩)] []=some ((.d (.bool true)),[]):=by
 have e1:=Zb4 B
 cases hB:B.plan with
 | mk o a q t ks=>
  rw[hB,Zh.enc_mk] at e1
  rw[ZF.enc_mk]
  refine Zd Xs Ms UZ Zq2 (by show 2≤_;decide) ?_
  simp +contextual -implicitDefEqProofs (maxSteps:=10^7) only[go_sem,seval,↓gZ,UZ,e1]
def V1:Nat→Zo→Zo×List ZF
 | 0,s=>(s,[])
 | n+1,s=>match Wh s with
  | some e=>(match QK s e with
   | some u=>((V1 n u).1,e :: (V1 n u).2)
   | none=>(s,[]))
  | none=>(s,[])
theorem ZdI {n:Nat} {s u:Zo} {e:ZF} (h1:Wh s=some e) (h2:QK s e=some u):V1 (n+1) s=((V1 n u).1,e :: (V1 n u).2):=by
 rw[V1,h1];simp only[h2]
theorem ZdJ {n:Nat} {s:Zo} (h1:Wh s=none):V1 n s=(s,[]):=by
 cases n with
 | zero=>rfl
 | succ n=>rw[V1,h1]
theorem Zh9 {s:Zo} {e:ZF} (hv:ZH s) (h:Wh s=some e):∃ u,QK s e=some u∧ZH u∧∃ B:BT,e.plan=B.plan:=by
 obtain⟨u,n,j,x,q,t,b,F⟩:=Zn4 hv h
 exact⟨u,F.ap,Zgx F.ap,QI n t b.X b.Y b.W b.H 0 0 q.W q.H,by rw[F.fe];rfl⟩
theorem ZqX:∀ {n:Nat} {s:Zo},ZH s→ZH (V1 n s).1∧(∀ e∈(V1 n s).2,∃ B:BT,e.plan=B.plan)∧(V1 n s).2.length≤n
 | 0,s,hv=>⟨hv,by simp[V1],by simp[V1]⟩
 | n+1,s,hv=>by
  cases h:Wh s with
  | none=>rw[ZdJ h];exact⟨hv,by simp,by simp⟩
  | some e=>
   obtain⟨u,h1,h2,h3⟩:=Zh9 hv h
   rw[ZdI h h1]
   obtain⟨g1,g2,g3⟩:=ZqX (n:=n) h2
   refine⟨g1,fun x hx=>?_,by simp only[List.length_cons];omega⟩
   rcases List.mem_cons.1 hx with rfl | hx
   ·exact h3
   ·exact g2 x hx
theorem Zzr {n:Nat} {s o:Zo} {e:ZF} {l:List ZF} (hv:ZH s) (h:V1 n s=(o,e :: l)):∃ m u,n=m+1∧Wh s=some e∧QK s e=some u∧ZH u∧V1 m u=(o,l):=by
 cases n with
 | zero=>simp[V1] at h
 | succ n=>
  cases hn:Wh s with
  | none=>rw[ZdJ hn] at h;simp at h
  | some e' =>
   obtain⟨u,h1,h2,_⟩:=Zh9 hv hn
   rw[ZdI hn h1] at h
   simp only[Prod.mk.injEq,List.cons.injEq] at h
   obtain⟨h3,rfl,h4⟩:=h
   exact⟨n,u,rfl,rfl,h1,h2,Prod.ext h3 h4⟩
theorem ZAD {n:Nat} {s o:Zo} (hv:ZH s) (h:V1 n s=(o,[])):s=o∧(n=0∨Wh s=none):=by
 cases n with
 | zero=>simp[V1] at h;exact⟨h,.inl rfl⟩
 | succ n=>
  cases hn:Wh s with
  | none=>rw[ZdJ hn] at h;simp at h;exact⟨h,.inr rfl⟩
  | some e' =>
   obtain⟨u,h1,h2,_⟩:=Zh9 hv hn
   rw[ZdI hn h1] at h
   simp at h
def wtV (r:Zo×List ZF):AV×List Zt:=(.tup [.agg [.own 0,.own 1,.own 2,(.d (J (r.1.Lost))),(.d (J (r.1.Came)))],.own 3],[.row 4 (r.1.Stock.map Zb.enc) true false,.row 5 (r.1.Opn.map Zc.enc) true false,.row 5 (r.1.Done.map Zc.enc) true false,.row 16 (r.2.map ZF.enc) true false])
theorem ZeM (sS:List Zb) (sO sD:List Zc) (sL sC:Int) (m:Int) (h:¬(ZH (Zo.mk sS sO sD sL sC)∧0≤m∧m≤40)):Zg Xs Ms X6 [(.d (.agg [.sl (sS.map Zb.enc),.sl (sO.map Zc.enc),.sl (sD.map Zc.enc),J sL,J sC])),(.d (J m))] []=some (wtV (⟨[],[],[],0,0⟩,[])):=by
 have e1:=ZN sS sO sD sL sC
 unfold wtV
 by_cases hv:ZH (Zo.mk sS sO sD sL sC)
 ·rw[decide_eq_true hv] at e1
  by_cases h1:m<0
  ·refine Zd Xs Ms QA Zaw (by show 2≤_;decide) ?_
   simp +contextual -implicitDefEqProofs (maxSteps:=10^7) only[go_sem,seval,↓gZ,QA,e1,h1]
  ·have h2:(40:Int)<m:=by
    rcases Int.lt_or_le 40 m with h2 | h2
    ·exact h2
    ·exact absurd ⟨hv,by omega,h2⟩ h
   refine Zd Xs Ms QA Zaw (by show 2≤_;decide) ?_
   simp +contextual -implicitDefEqProofs (maxSteps:=10^7) only[go_sem,seval,↓gZ,QA,e1,h1,h2]
 ·rw[decide_eq_false hv] at e1
  refine Zd Xs Ms QA Zaw (by show 2≤_;decide) ?_
  simp +contextual -implicitDefEqProofs (maxSteps:=10^7) only[go_sem,seval,↓gZ,QA,e1]
theorem ZfL (sS:List Zb) (sO sD:List Zc) (sL sC:Int) (m:Nat) (hv:ZH (Zo.mk sS sO sD sL sC)) (hm:m≤40):Zg Xs Ms X6 [(.d (.agg [.sl (sS.map Zb.enc),.sl (sO.map Zc.enc),.sl (sD.map Zc.enc),J sL,J sC])),(.d (J ((m:Int))))] []=some (wtV (V1 m (Zo.mk sS sO sD sL sC))):=by
 have e1:=ZN sS sO sD sL sC
 rw[decide_eq_true hv] at e1
 have e2:=V0 sS sO sD sL sC (VE hv)
 have h1:¬(m:Int)<0:=by omega
 have h2:¬(40:Int)<(m:Int):=by omega
 refine Zd Xs Ms QA Zaw (by show 2≤_;decide) ?_
 simp +contextual -implicitDefEqProofs (maxSteps:=10^7) only[go_sem,seval,↓gZ,QA,e1,e2,h1,h2]
 refine Zr Xs Ms (st0:=?st0) (α:=Zo×List ZF) (fun _=>[]) (fun s=>[(0,.row 16 (s.2.map ZF.enc) true false),(1,.box [.own 3,.own 4,.own 5,(.d (J (s.1.Lost))),(.d (J (s.1.Came)))]),(3,.row 4 (s.1.Stock.map Zb.enc) true false),(4,.row 5 (s.1.Opn.map Zc.enc) true false),(5,.row 5 (s.1.Done.map Zc.enc) true false)]) (fun s=>ZH s.1∧s.2.length≤m∧(V1 m (Zo.mk sS sO sD sL sC)).1=(V1 (m-s.2.length) s.1).1∧(V1 m (Zo.mk sS sO sD sL sC)).2=s.2++(V1 (m-s.2.length) s.1).2) (fun s=>m-s.2.length) ((Zo.mk sS sO sD sL sC),[]) ?hc ⟨hv,by simp,by simp,by simp⟩ ?h0 ?step
 case hc=>simp +contextual -implicitDefEqProofs (maxSteps:=10^7) only[go_sem,seval,↓gZ]<;>exact rfl
 case h0=>rfl
 case step=>
  intro⟨⟨S,O,D,L,C⟩,l⟩ ⟨hv,hl,hp,hq⟩ ih
  simp only at hv hl hp hq
  by_cases hlt:l.length<m
  ·obtain⟨k,hk⟩:∃ k,m-l.length=k+1:=⟨m-l.length-1,by omega⟩
   rw[hk] at hp hq
   have en:=Zbg S O D L C hv
   have hr:(l.length+1)*144≤140737488355328∧l.length≤140737488355327:=by omega
   cases hn:Wh ⟨S,O,D,L,C⟩ with
   | none=>
    rw[ZdJ hn] at hp hq
    rw[hn] at en
    unfold nxV at en
    unfold wtV
    rw[hp,hq]
    simp +contextual -implicitDefEqProofs (maxSteps:=10^7) only[go_sem,seval,↓gZ,hlt,en,List.append_nil]
   | some e=>
    obtain⟨u,hap,hu,_⟩:=Zh9 hv hn
    rw[ZdI hn hap] at hp hq
    rw[hn] at en
    obtain⟨K,Lb,⟨X,Y,W,H⟩,⟨⟨pW,pH,pT,pK⟩,Ct⟩,⟨o,a,q,t,ks⟩⟩:=e
    have ea:=Zau S O D L C K Lb X Y W H pW pH pT pK Ct o a q t ks
    rw[if_pos hv,hap] at ea
    obtain⟨S',O',D',L',C'⟩:=u
    unfold shV at ea
    unfold nxV at en
    simp only at ea en
    simp +contextual -implicitDefEqProofs (maxSteps:=10^7) only[go_sem,seval,↓gZ,hlt,en,ea,hr]
    refine ih (⟨S',O',D',L',C'⟩,l++[⟨K,Lb,⟨X,Y,W,H⟩,⟨⟨pW,pH,pT,pK⟩,Ct⟩,.mk o a q t ks⟩]) _ ⟨hu,by simp;omega,?_,?_⟩ (by simp;omega) ?_
    ·have:m-(l++[(⟨K,Lb,⟨X,Y,W,H⟩,⟨⟨pW,pH,pT,pK⟩,Ct⟩,.mk o a q t ks⟩:ZF)]).length=k:=by simp;omega
     simp only[this];exact hp
    ·have:m-(l++[(⟨K,Lb,⟨X,Y,W,H⟩,⟨⟨pW,pH,pT,pK⟩,Ct⟩,.mk o a q t ks⟩:ZF)]).length=k:=by simp;omega
     simp only[this];rw[hq];simp
    ·simp +contextual -implicitDefEqProofs (maxSteps:=10^7) only[go_sem,seval,↓gZ,List.map_append]
  ·have:m-l.length=0:=by omega
   rw[this] at hp hq
   simp only[V1,List.append_nil] at hp hq
   unfold wtV
   rw[hp,hq]
   simp +contextual -implicitDefEqProofs (maxSteps:=10^7) only[go_sem,seval,↓gZ,hlt]
theorem ZeN (sS:List Zb) (sO sD:List Zc) (sL sC:Int) (m:Int) (hs:ZaE (Zo.mk sS sO sD sL sC)) (h:¬(ZH (Zo.mk sS sO sD sL sC)∧0≤m∧m≤40)):Zg Xs Ms X7 [(.d (.agg [.sl (sS.map Zb.enc),.sl (sO.map Zc.enc),.sl (sD.map Zc.enc),J sL,J sC])),(.d (J m))] []=some (wtV (⟨[],[],[],0,0⟩,[])):=by
 have e1:=Yx sS sO sD sL sC hs
 have e2:=ZQ m 0 40
 unfold wtV
 by_cases hv:ZH (Zo.mk sS sO sD sL sC)
 ·rw[decide_eq_true hv] at e1
  have hr:¬(0≤m∧m≤40):=fun hr=>h ⟨hv,hr⟩
  rw[decide_eq_false hr] at e2
  refine Zd Xs Ms Xl Zc7 (by show 2≤_;decide) ?_
  simp +contextual -implicitDefEqProofs (maxSteps:=10^7) only[go_sem,seval,↓gZ,Xl,e1,e2]
 ·rw[decide_eq_false hv] at e1
  refine Zd Xs Ms Xl Zc7 (by show 2≤_;decide) ?_
  simp +contextual -implicitDefEqProofs (maxSteps:=10^7) only[go_sem,seval,↓gZ,Xl,e1]
theorem ZfM (sS:List Zb) (sO sD:List Zc) (sL sC:Int) (m:Nat) (hv:ZH (Zo.mk sS sO sD sL sC)) (hm:m≤40):Zg Xs Ms X7 [(.d (.agg [.sl (sS.map Zb.enc),.sl (sO.map Zc.enc),.sl (sD.map Zc.enc),J sL,J sC])),(.d (J ((m:Int))))] []=some (wtV (V1 m (Zo.mk sS sO sD sL sC))):=by
 have e1:=Yx sS sO sD sL sC (VE hv)
 rw[decide_eq_true hv] at e1
 have e2:=VY sS sO sD sL sC (VE hv)
 have e3:=ZQ (m:Int) 0 40
 rw[decide_eq_true (by omega)] at e3
 refine Zd Xs Ms Xl Zc7 (by show 2≤_;decide) ?_
 simp +contextual -implicitDefEqProofs (maxSteps:=10^7) only[go_sem,seval,↓gZ,Xl,e1,e2,e3]
 refine Zr Xs Ms (st0:=?st0) (α:=Zo×List ZF) (fun _=>[]) (fun s=>[(0,.row 16 (s.2.map ZF.enc) true false),(2,.box [.own 6,.own 7,.own 8,(.d (J (s.1.Lost))),(.d (J (s.1.Came)))]),(6,.row 4 (s.1.Stock.map Zb.enc) true false),(7,.row 5 (s.1.Opn.map Zc.enc) true false),(8,.row 5 (s.1.Done.map Zc.enc) true false)]) (fun s=>ZH s.1∧s.2.length≤m∧(V1 m (Zo.mk sS sO sD sL sC)).1=(V1 (m-s.2.length) s.1).1∧(V1 m (Zo.mk sS sO sD sL sC)).2=s.2++(V1 (m-s.2.length) s.1).2) (fun s=>m-s.2.length) ((Zo.mk sS sO sD sL sC),[]) ?hc ⟨hv,by simp,by simp,by simp⟩ ?h0 ?step
 case hc=>simp +contextual -implicitDefEqProofs (maxSteps:=10^7) only[go_sem,seval,↓gZ]<;>exact rfl
 case h0=>rfl
 case step=>
  intro⟨⟨S,O,D,L,C⟩,l⟩ ⟨hv,hl,hp,hq⟩ ih
  simp only at hv hl hp hq
  by_cases hlt:l.length<m
  ·obtain⟨k,hk⟩:∃ k,m-l.length=k+1:=⟨m-l.length-1,by omega⟩
   rw[hk] at hp hq
   have en:=Zl9 S O D L C (Zl6 hv)
   have hr:(l.length+1)*144≤140737488355328∧l.length≤140737488355327:=by omega
   cases hn:Wh ⟨S,O,D,L,C⟩ with
   | none=>
    rw[ZdJ hn] at hp hq
    rw[hn] at en
    unfold nxV at en
    unfold wtV
    rw[hp,hq]
    simp +contextual -implicitDefEqProofs (maxSteps:=10^7) only[go_sem,seval,↓gZ,hlt,en,List.append_nil]
   | some e=>
    obtain⟨u,hap,hu,_⟩:=Zh9 hv hn
    have hek:e.kind=3:=ZcI hn
    rw[ZdI hn hap] at hp hq
    rw[hn] at en
    obtain⟨K,Lb,⟨X,Y,W,H⟩,⟨⟨pW,pH,pT,pK⟩,Ct⟩,⟨o,a,q,t,ks⟩⟩:=e
    simp only at hek
    have ea:=Jm S O D L C K Lb X Y W H pW pH pT pK Ct o a q t ks (Zl6 hv) hek
    rw[hap] at ea
    obtain⟨S',O',D',L',C'⟩:=u
    unfold shV at ea
    unfold nxV at en
    simp only at ea en
    simp +contextual -implicitDefEqProofs (maxSteps:=10^7) only[go_sem,seval,↓gZ,hlt,en,ea,hr]
    refine ih (⟨S',O',D',L',C'⟩,l++[⟨K,Lb,⟨X,Y,W,H⟩,⟨⟨pW,pH,pT,pK⟩,Ct⟩,.mk o a q t ks⟩]) _ ⟨hu,by simp;omega,?_,?_⟩ (by simp;omega) ?_
    ·have:m-(l++[(⟨K,Lb,⟨X,Y,W,H⟩,⟨⟨pW,pH,pT,pK⟩,Ct⟩,.mk o a q t ks⟩:ZF)]).length=k:=by simp;omega
     simp only[this];exact hp
    ·have:m-(l++[(⟨K,Lb,⟨X,Y,W,H⟩,⟨⟨pW,pH,pT,pK⟩,Ct⟩,.mk o a q t ks⟩:ZF)]).length=k:=by simp;omega
     simp only[this];rw[hq];simp
    ·simp +contextual -implicitDefEqProofs (maxSteps:=10^7) only[go_sem,seval,↓gZ,List.map_append]
  ·have:m-l.length=0:=by omega
   rw[this] at hp hq
   simp only[V1,List.append_nil] at hp hq
   unfold wtV
   rw[hp,hq]
   simp +contextual -implicitDefEqProofs (maxSteps:=10^7) only[go_sem,seval,↓gZ,hlt]
def PDrWT (r:AV×List Zt):Prop:=∃ (S:List Zb) (O D:List Zc) (L C:Int) (f g h:Bool) (m:Int),AnyS ⟨S,O,D,L,C⟩ ∧
 r=(.tup [.agg [.own 0,.own 1,.own 2,(.d (J L)),(.d (J C))],(.d (J m))],[.row 4 (S.map Zb.enc) true f,.row 5 (O.map Zc.enc) true g,.row 5 (D.map Zc.enc) true h])
theorem ZcJ (code:List UInt8):∃ r,Zg Xs Ms Q3 [.d (.sl (code.map ZaP))] []=some r∧PDrWT r:=by
 have hb:(code.take 2000).length≤2000:=by simp;omega
 have en:=Zqk code
 obtain⟨r,e1,S,O,D,L,C,f,g,h,p',h1,h2,h3,rfl⟩:=Zuk (code.take 2000) hb 0 (by omega)
 simp only[cast0] at e1
 generalize code.take 2000=bs at *
 obtain⟨m,hm,eV⟩:=Zec bs p' [40,10,2,0,41,-1] hb (by omega) (by decide)
 simp only[List.map_cons,List.map_nil,ZbI] at eV
 refine ZsE Xs Ms YP Zjq (by show 1≤_;decide) ?_
 simp +contextual -implicitDefEqProofs (maxSteps:=10^7) only[go_sem,seval,↓gZ,YP,en,e1,eV]
 exact⟨S,O,D,L,C,_,_,_,m,h1,rfl⟩
theorem WQ (l:List ZF) (hl:l.length≤1000000) (h:∀ e∈l,∃ B:BT,e.plan=B.plan):Zg Xs Ms Xk [(.d (.sl (l.map ZF.enc))),(.d (.sl (l.map ZF.enc)))] []=some ((.d (.bool true)),[]):=by
 refine Zd Xs Ms Uc ZoP (by show 2≤_;decide) ?_
 simp +contextual -implicitDefEqProofs (maxSteps:=10^7) only[go_sem,seval,↓gZ,Uc]
 refine Zr Xs Ms (st0:=?st0) (α:=Nat) (fun k=>[(5,.d (J (k:Int)))]) (fun _=>[]) (fun k=>k≤l.length) (fun k=>l.length-k) 0 ?hc (by omega) ?h0 ?step
 case hc=>simp +contextual -implicitDefEqProofs (maxSteps:=10^7) only[go_sem,seval,↓gZ]<;>exact rfl
 case h0=>rfl
 case step=>
  intro k hk ih
  by_cases hlt:k<l.length
  ·obtain⟨e,he⟩:=Zp hlt
   have hw:=Zl (k:=k) (by omega)
   obtain⟨B,hB⟩:=h e (List.mem_of_getElem? he)
   obtain⟨K,Lb,⟨X,Y,W,H⟩,⟨⟨pW,pH,pT,pK⟩,Ct⟩,⟨o,a,q,t,ks⟩⟩:=e
   simp only at hB
   have e1:=ZeL K Lb X Y W H pW pH pT pK Ct B
   rw[← hB,ZF.enc_mk] at e1
   simp +contextual -implicitDefEqProofs (maxSteps:=10^7) only[go_sem,seval,↓gZ,he,hlt,hw,e1]
   refine ih (k+1) _ (by omega) (by omega) ?_
   simp +contextual -implicitDefEqProofs (maxSteps:=10^7) only[go_sem,seval,↓gZ]
  ·have:k=l.length:=by omega
   subst this
   simp +contextual -implicitDefEqProofs (maxSteps:=10^7) only[go_sem,seval,↓gZ]
theorem Zk9 (code:List UInt8):Zg Xs Ms VI [.d (.sl (code.map ZaP))] []=some ((.d (.bool true)),[]):=by
 have nb:∀ a b:Bool,Zfp .neq true (.d (.bool a)) (.d (.bool b))=Qs (.d (.bool (!(a==b)))):=fun _ _=>rfl
 have bb:∀ a b:Bool,Zfp .eql true (.d (.bool a)) (.d (.bool b))=Qs (.d (.bool (a==b))):=fun _ _=>rfl
 by_cases hlen:(1048576:Int)<code.length
 ·refine Zd Xs Ms Z0 VF (by show 1≤_;decide) ?_
  simp +contextual -implicitDefEqProofs (maxSteps:=10^7) only[go_sem,seval,↓gZ,Z0,hlen]
 ·obtain⟨r,ed,S,O,D,L,C,f,g,h,m,hA,rfl⟩:=ZcJ code
  by_cases hc:ZH ⟨S,O,D,L,C⟩∧0≤m∧m≤40
  ·obtain⟨hv,hm0,hm40⟩:=hc
   obtain⟨n,rfl⟩:∃ n:Nat,m=(n:Int):=⟨m.toNat,by omega⟩
   have e1:=ZfL S O D L C n hv (by omega)
   have e2:=ZfM S O D L C n hv (by omega)
   obtain⟨g1,g2,g3⟩:=ZqX (n:=n) hv
   cases hw:V1 n ⟨S,O,D,L,C⟩ with
   | mk z l=>
    rw[hw] at e1 e2 g1 g2 g3
    simp only at g1 g2 g3
    obtain⟨zS,zO,zD,zL,zC⟩:=z
    unfold wtV at e1 e2
    simp only at e1 e2
    have e3:=Jn zS zO zD zL zC (VE g1)
    have e4:=WQ l (by omega) g2
    have e5:=ZN S O D L C
    rw[decide_eq_true hv] at e5
    have n1:¬(n:Int)<0:=by omega
    have n2:¬(40:Int)<(n:Int):=by omega
    refine Zd Xs Ms Z0 VF (by show 1≤_;decide) ?_
    simp +contextual -implicitDefEqProofs (maxSteps:=10^7) only[go_sem,seval,↓gZ,Z0,nb,bb,hlen,ed,e1,e2,e3,e4,e5,n1,n2]
    refine Zr Xs Ms (st0:=?st0) (α:=Nat×Zo×Bool×Bool×Bool) (fun s=>[(10,.d (J (s.1:Int)))]) (fun s=>[(0,.box [.own 3,.own 4,.own 5,(.d (J (s.2.1.Lost))),(.d (J (s.2.1.Came)))]),(3,.row 4 (s.2.1.Stock.map Zb.enc) true s.2.2.1),(4,.row 5 (s.2.1.Opn.map Zc.enc) true s.2.2.2.1),(5,.row 5 (s.2.1.Done.map Zc.enc) true s.2.2.2.2)]) (fun s=>s.1≤l.length∧ZH s.2.1∧V1 (n-s.1) s.2.1=(⟨zS,zO,zD,zL,zC⟩,l.drop s.1)) (fun s=>l.length-s.1) (0,⟨S,O,D,L,C⟩,f,g,h) ?hc ⟨by simp,hv,by simpa using hw⟩ ?h0 ?step
    case hc=>simp +contextual -implicitDefEqProofs (maxSteps:=10^7) only[go_sem,seval,↓gZ]<;>exact rfl
    case h0=>rfl
    case step=>
     intro⟨i,⟨yS,yO,yD,yL,yC⟩,b1,b2,b3⟩ ⟨hi,hy,hp⟩ ih
     simp only at hi hy hp
     by_cases hlt:i<l.length
     ·obtain⟨e,he⟩:=Zp hlt
      have hwr:=Zl (k:=i) (by omega)
      have hd:l.drop i=e :: l.drop (i+1):=by
       obtain⟨h1,h2⟩:=List.getElem?_eq_some_iff.1 he
       rw[List.drop_eq_getElem_cons h1,h2]
      rw[hd] at hp
      obtain⟨k,u,hk,hn,hap,hu,hwu⟩:=Zzr hy hp
      obtain⟨B,hB⟩:=g2 e (List.mem_of_getElem? he)
      have en:=Zbg yS yO yD yL yC hy
      rw[hn] at en
      obtain⟨K,Lb,⟨X,Y,W,H⟩,⟨⟨pW,pH,pT,pK⟩,Ct⟩,⟨o,a,q,t,ks⟩⟩:=e
      simp only at hB
      have ea:=Zau yS yO yD yL yC K Lb X Y W H pW pH pT pK Ct o a q t ks
      rw[if_pos hy,hap] at ea
      have ee:=ZeL K Lb X Y W H pW pH pT pK Ct B
      rw[← hB,ZF.enc_mk] at ee
      obtain⟨uS,uO,uD,uL,uC⟩:=u
      unfold nxV at en
      unfold shV at ea
      simp only at en ea
      simp +contextual -implicitDefEqProofs (maxSteps:=10^7) only[go_sem,seval,↓gZ,hlt,he,hwr,en,ea,ee]
      refine ih (i+1,⟨uS,uO,uD,uL,uC⟩,false,false,false) _ ⟨by simp only;omega,hu,?_⟩ (by simp only;omega) ?_
      ·have:n-(i+1)=k:=by omega
       simp only[this];exact hwu
      ·simp +contextual -implicitDefEqProofs (maxSteps:=10^7) only[go_sem,seval,↓gZ]
     ·have:i=l.length:=by omega
      subst this
      rw[List.drop_length] at hp
      obtain⟨he,hor⟩:=ZAD hy hp
      cases he
      have g3' : (l.length:Int)≤(n:Int):=by omega
      rcases hor with hor | hor
      ·have hln:l.length=n:=by omega
       have hln' : ((l.length:Int)=(n:Int)):=by omega
       cases hx:Wh ⟨zS,zO,zD,zL,zC⟩ with
       | none=>
        have en:=Zbg zS zO zD zL zC hy
        rw[hx] at en
        unfold nxV at en
        simp +contextual -implicitDefEqProofs (maxSteps:=10^7) only[go_sem,seval,↓gZ,en,e3,g3,hln,Nat.le_refl,Int.le_refl]
       | some e=>
        have en:=Zbg zS zO zD zL zC hy
        rw[hx] at en
        obtain⟨K,Lb,⟨X,Y,W,H⟩,⟨⟨pW,pH,pT,pK⟩,Ct⟩,⟨o,a,q,t,ks⟩⟩:=e
        unfold nxV at en
        simp only at en
        simp +contextual -implicitDefEqProofs (maxSteps:=10^7) only[go_sem,seval,↓gZ,en,e3,g3,hln,Nat.le_refl,Int.le_refl]
      ·have en:=Zbg zS zO zD zL zC hy
       rw[hor] at en
       unfold nxV at en
       by_cases hln:l.length=n
       ·simp +contextual -implicitDefEqProofs (maxSteps:=10^7) only[go_sem,seval,↓gZ,en,e3,g3,hln,Nat.le_refl,Int.le_refl]
       ·simp +contextual -implicitDefEqProofs (maxSteps:=10^7) only[go_sem,seval,↓gZ,en,e3,g3,hln]
  ·have e1:=ZeM S O D L C m hc
   have e2:=ZeN S O D L C m (Zv3 hA).1 hc
   unfold wtV at e1 e2
   have e3:=Jn [] [] [] 0 0 (VE Zk3)
   have e4:=WQ [] (by simp) (by simp)
   have e5:=ZN S O D L C
   simp only[List.map_nil] at e1 e2 e3 e4
   by_cases hv:ZH ⟨S,O,D,L,C⟩
   ·rw[decide_eq_true hv] at e5
    by_cases n1:m<0
    ·refine Zd Xs Ms Z0 VF (by show 1≤_;decide) ?_
     simp +contextual -implicitDefEqProofs (maxSteps:=10^7) only[go_sem,seval,↓gZ,Z0,nb,bb,hlen,ed,e1,e2,e3,e4,e5,n1]
    ·have n2:(40:Int)<m:=by
      rcases Int.lt_or_le 40 m with h2 | h2
      ·exact h2
      ·exact absurd ⟨hv,by omega,h2⟩ hc
     refine Zd Xs Ms Z0 VF (by show 1≤_;decide) ?_
     simp +contextual -implicitDefEqProofs (maxSteps:=10^7) only[go_sem,seval,↓gZ,Z0,nb,bb,hlen,ed,e1,e2,e3,e4,e5,n1,n2]
   ·rw[decide_eq_false hv] at e5
    refine Zd Xs Ms Z0 VF (by show 1≤_;decide) ?_
    simp +contextual -implicitDefEqProofs (maxSteps:=10^7) only[go_sem,seval,↓gZ,Z0,nb,bb,hlen,ed,e1,e2,e3,e4,e5]
def mrg (a b:List Zc):List Zc:=b.foldl (fun s x=>XP x.Pane x.Count s) a
theorem Zwf {a b:List Zc} {i:Nat} {x:Zc} (hx:b[i]?=some x):mrg a (b.take (i+1))=XP x.Pane x.Count (mrg a (b.take i)):=by
 unfold mrg
 rw[List.take_add_one,hx,List.foldl_append];rfl
theorem Znq (p:Pane) (c:Int):∀ (l:List Zc),Xx (XP p c l)=Xx l+c*p.W*p.H
 | []=>by simp[XP,Xx]
 | x :: l=>by
  unfold XP
  split
  ·rename_i h
   subst h
   simp only[Xx,Int.add_mul];omega
  ·simp only[Xx,Znq p c l];omega
theorem Zia:∀ (b a:List Zc),Z4 (mrg a b)=Z4 a+Z4 b∧Xx (mrg a b)=Xx a+Xx b
 | [],a=>by simp[mrg,Z4,Xx]
 | x :: b,a=>by
  have h:=Zia b (XP x.Pane x.Count a)
  have e:mrg a (x :: b)=mrg (XP x.Pane x.Count a) b:=rfl
  rw[e,h.1,h.2,Zb5,Znq]
  simp only[Z4,Xx];omega
theorem ZqY (p:Pane) (c:Int) (l:List Zc) (q:Pane):q∈(XP p c l).map Zc.Pane↔q∈l.map Zc.Pane∨q=p:=by
 rw[Zk7]
 split
 ·rename_i h
  exact⟨.inl,fun h'=>h'.elim id fun e=>by rw[e];exact h⟩
 ·rw[List.mem_append,List.mem_singleton]
theorem Zmg:∀ (b a:List Zc) (q:Pane),q∈(mrg a b).map Zc.Pane↔q∈a.map Zc.Pane∨q∈b.map Zc.Pane
 | [],a,q=>by simp[mrg]
 | x :: b,a,q=>by
  have e:mrg a (x :: b)=mrg (XP x.Pane x.Count a) b:=rfl
  rw[e,Zmg b,ZqY,List.map_cons,List.mem_cons]
  constructor
  ·rintro ((h | h) | h)
   ·exact .inl h
   ·exact .inr (.inl h)
   ·exact .inr (.inr h)
  ·rintro (h | h | h)
   ·exact .inl (.inl h)
   ·exact .inl (.inr h)
   ·exact .inr h
theorem ZqZ:∀ (b a:List Zc),UL a→(∀ x∈b,1≤x.Count)→UL (mrg a b)
 | [],a,h,_=>h
 | x :: b,a,h,hb=>ZqZ b (XP x.Pane x.Count a) (Zul h (hb x (by simp))) fun y hy=>hb y (by simp[hy])
theorem ZCu {p:Pane} {c:Int} (hp:VP p):∀ {l:List Zc},(∀ x∈l,VP x.Pane)→∀ x∈XP p c l,VP x.Pane:=by
 intro l h x hx
 have:=(ZqY p c l x.Pane).1 (List.mem_map_of_mem hx)
 rcases this with h1 | h1
 ·obtain⟨y,hy,e⟩:=List.mem_map.1 h1
  rw[← e];exact h y hy
 ·rw[h1];exact hp
theorem ZAE:∀ (b a:List Zc),(∀ x∈a,VP x.Pane)→(∀ x∈b,VP x.Pane)→∀ x∈mrg a b,VP x.Pane
 | [],a,h,_=>h
 | y :: b,a,h,hb=>ZAE b (XP y.Pane y.Count a) (ZCu (hb y (by simp)) h) fun z hz=>hb z (by simp[hz])
theorem ZgA:∀ {l:List Zc},(∀ x∈l,1≤x.Count)→∀ x∈l,x.Count≤Z4 l
 | [],_,x,hx=>by simp at hx
 | y :: l,h,x,hx=>by
  have h0:=ZhZ (l:=l) fun z hz=>h z (by simp[hz])
  have hy:=h y (by simp)
  simp only[Z4]
  rcases List.mem_cons.1 hx with rfl | hx
  ·omega
  ·have:=ZgA (l:=l) (fun z hz=>h z (by simp[hz])) x hx
   omega
theorem Zyp:∀ {l:List Zc} {q:List Pane},(l.map Zc.Pane).Nodup→(∀ p∈l.map Zc.Pane,p∉q)→(∀ x∈l,VP x.Pane∧1≤x.Count∧x.Count≤24)→Zjp q l
 | [],_,_,_,_=>trivial
 | x :: l,q,h1,h2,h3=>by
  rw[List.map_cons,List.nodup_cons] at h1
  have h0:=h3 x (by simp)
  refine⟨h0.1,h2 _ (by simp),h0.2.1,h0.2.2,Zyp h1.2 (fun p hp hq=>?_) (fun y hy=>h3 y (by simp[hy]))⟩
  rcases List.mem_append.1 hq with hq | hq
  ·exact h2 p (by simp[hp]) hq
  ·rw[List.mem_singleton] at hq
   subst hq
   exact h1.1 hp
theorem Zwg {a b:List Zc} (ha:VD a) (hb:VD b):VD (mrg a b)↔(mrg a b).length≤8∧Z4 a+Z4 b≤24:=by
 have hu:=ZqZ b a (Zas ha) (fun x hx=>(Z7 hb x hx).2.1)
 have hp:=ZAE b a (fun x hx=>(Z7 ha x hx).1) (fun x hx=>(Z7 hb x hx).1)
 have hs:=(Zia b a).1
 constructor
 ·intro h;exact⟨h.1,by rw[← hs];exact h.2.2⟩
 ·rintro ⟨h1,h2⟩
  refine⟨h1,Zyp hu.1 (by simp) (fun x hx=>⟨hp x hx,hu.2 x hx,?_⟩),by rw[hs];exact h2⟩
  have:=ZgA hu.2 x hx
  omega
theorem Znr {α:Type} [DecidableEq α]:∀ {l m:List α},l.Nodup→(∀ x∈l,x∈m)→l.length≤m.length
 | [],_,_,_=>Nat.zero_le _
 | x :: l,m,h,hs=>by
  rw[List.nodup_cons] at h
  have hx:=hs x (by simp)
  have:=Znr (m:=m.erase x) h.2 (fun y hy=>(List.mem_erase_of_ne (fun e=>h.1 (by rw[← e];exact hy))).2 (hs y (by simp[hy])))
  rw[List.length_erase_of_mem hx] at this
  have hm:0<m.length:=List.length_pos_of_mem hx
  simp only[List.length_cons];omega
theorem ZAF {a b c d:List Zc} (ha:VD a) (hb:VD b) (hc:VD c) (hd:VD d) (h1:Z4 a+Z4 b=Z4 c+Z4 d) (h3:∀ q,(q∈a.map Zc.Pane∨q∈b.map Zc.Pane)↔(q∈c.map Zc.Pane∨q∈d.map Zc.Pane)):VD (mrg a b)↔VD (mrg c d):=by
 have u1:=ZqZ b a (Zas ha) (fun x hx=>(Z7 hb x hx).2.1)
 have u2:=ZqZ d c (Zas hc) (fun x hx=>(Z7 hd x hx).2.1)
 have hl:(mrg a b).length=(mrg c d).length:=by
  have e1:=Znr u1.1 (m:=(mrg c d).map Zc.Pane) (fun q hq=>(Zmg d c q).2 ((h3 q).1 ((Zmg b a q).1 hq)))
  have e2:=Znr u2.1 (m:=(mrg a b).map Zc.Pane) (fun q hq=>(Zmg b a q).2 ((h3 q).2 ((Zmg d c q).1 hq)))
  simp only[List.length_map] at e1 e2
  omega
 rw[Zwg ha hb,Zwg hc hd,hl,h1]
theorem Zzs {l:List Zc} {p q:Pane} {c:Int} (hu:UL l) (hq:q≠p):q∈(Yc l p c).map Zc.Pane↔q∈l.map Zc.Pane:=by
 constructor
 ·intro h
  obtain⟨y,hy,e⟩:=List.mem_map.1 h
  obtain⟨x,hx,e2⟩:=List.mem_filterMap.1 hy
  refine List.mem_map.2 ⟨x,hx,?_⟩
  unfold ZfC at e2
  split at e2
  ·split at e2
   ·cases e2;exact e
   ·cases e2
  ·split at e2
   ·cases e2;exact e
   ·cases e2
 ·intro h
  obtain⟨x,hx,e⟩:=List.mem_map.1 h
  refine List.mem_map.2 ⟨x,List.mem_filterMap.2 ⟨x,hx,?_⟩,e⟩
  unfold ZfC
  rw[if_neg (fun h=>hq (by rw[← e,h])),if_pos (by have:=hu.2 x hx;omega)]
theorem Zwh:∀ {l:List Zc} {a:Nat} {x y:Zc},l[a]?=some x→Xx (l.set a y)=Xx l-x.Count*x.Pane.W*x.Pane.H+y.Count*y.Pane.W*y.Pane.H
 | [],a,x,y,h=>by simp at h
 | z :: l,0,x,y,h=>by
  simp only[List.getElem?_cons_zero,Option.some.injEq] at h
  subst h
  simp only[List.set_cons_zero,Xx];omega
 | z :: l,a+1,x,y,h=>by
  simp only[List.getElem?_cons_succ] at h
  simp only[List.set_cons_succ,Xx,Zwh h];omega
theorem Zq0:∀ {l:List Zc} {a:Nat} {x:Zc},l[a]?=some x→Xx (l.eraseIdx a)=Xx l-x.Count*x.Pane.W*x.Pane.H
 | [],a,x,h=>by simp at h
 | z :: l,0,x,h=>by
  simp only[List.getElem?_cons_zero,Option.some.injEq] at h
  subst h
  simp only[List.eraseIdx_cons_zero,Xx];omega
 | z :: l,a+1,x,h=>by
  simp only[List.getElem?_cons_succ] at h
  simp only[List.eraseIdx_cons_succ,Xx,Zq0 h];omega
theorem Zwi {l:List Zc} {p:Pane} {c:Int} (hu:UL l) (h:Xy p c false l=true):Xx (Yc l p c)=Xx l-c*p.W*p.H∧p∈l.map Zc.Pane:=by
 by_cases hf:Wg 0 l p<0
 ·rw[ZfJ (Zh8 hf)] at h;cases h
 ·obtain⟨a,x,h1,h2,h3,h4⟩:=ZfI (by omega:0≤Wg 0 l p)
  obtain⟨k1,k2⟩:=Zmd (c:=c) hu h2 h3
  rw[k1,decide_eq_true_eq] at h
  refine⟨?_,by rw[← h3];exact List.mem_map_of_mem (List.mem_of_getElem? h2)⟩
  rw[k2]
  split
  ·rw[Zwh h2]
   simp only[h3,Int.sub_mul];omega
  ·have e:x.Count=c:=by omega
   rw[Zq0 h2,e,h3]
theorem Zns:∀ {ps:List Pane} {us:List Int} {o d o' d' : List Zc},us.length=ps.length→Vo ps us o d=some (o',d')→UL o →
  Xx o'+Xx d'=Xx o+Xx d∧∀ q,(q∈o'.map Zc.Pane∨q∈d'.map Zc.Pane)↔(q∈o.map Zc.Pane∨q∈d.map Zc.Pane)
 | [],us,o,d,o',d',hl,h,hu=>by
  cases us with
  | nil=>unfold Vo at h;cases h;exact⟨rfl,fun _=>Iff.rfl⟩
  | cons c us=>simp at hl
 | p :: ps,[],o,d,o',d',hl,h,hu=>by simp at hl
 | p :: ps,c :: us,o,d,o',d',hl,h,hu=>by
  rw[Vo] at h
  simp only[List.length_cons,Nat.add_right_cancel_iff] at hl
  split at h
  ·exact Zns hl h hu
  ·split at h
   ·rename_i ht
    obtain⟨f1,f2⟩:=Zwi hu ht
    obtain⟨a,b⟩:=Zns hl h (Zme hu)
    rw[f1,Znq] at a
    refine⟨by omega,fun q=>?_⟩
    rw[b q,ZqY]
    by_cases hq:q=p
    ·subst hq
     exact⟨fun _=>.inl f2,fun _=>.inr (.inr rfl)⟩
    ·rw[Zzs hu hq]
     constructor
     ·rintro (h | h | h)
      ·exact .inl h
      ·exact .inr h
      ·exact absurd h hq
     ·rintro (h | h)
      ·exact .inl h
      ·exact .inr (.inl h)
   ·cases h
theorem Zzt {s u:Zo} {e:ZF} (hv:ZH s) (hk:e.kind=3) (h:QK s e=some u):Xx u.Opn+Xx u.Done=Xx s.Opn+Xx s.Done∧∀ q,(q∈u.Opn.map Zc.Pane∨q∈u.Done.map Zc.Pane)↔(q∈s.Opn.map Zc.Pane∨q∈s.Done.map Zc.Pane):=by
 obtain⟨hev,_⟩:=ZqS h
 have hcs:evS s e=Zdu s e:=by unfold evS;rw[if_neg (by omega),if_neg (by omega),if_neg (by omega),if_neg (by omega),if_neg (by omega),if_pos hk]
 rw[hcs] at hev
 unfold Zdu at hev
 split at hev
 ·cases hev
 ·rename_i x hx
  split at hev
  ·cases hev
  ·rename_i R hR
   obtain⟨hvp,_,_⟩:=Zh2 hR
   split at hev
   ·split at hev
    ·cases hev
    ·rename_i o d hg
     cases hev
     exact Zns (by rw[(ZcF hvp).1]) hg (Zas hv.2.1)
   ·cases hev
theorem Zq1:∀ {n:Nat} {s:Zo},ZH s→(V1 n s).1.Came=s.Came∧Z4 (V1 n s).1.Done=Z4 s.Done+(V1 n s).2.length∧Z4 (V1 n s).1.Opn+Z4 (V1 n s).1.Done=Z4 s.Opn+Z4 s.Done∧Xx (V1 n s).1.Opn+Xx (V1 n s).1.Done=Xx s.Opn+Xx s.Done∧∀ q,(q∈(V1 n s).1.Opn.map Zc.Pane∨q∈(V1 n s).1.Done.map Zc.Pane)↔(q∈s.Opn.map Zc.Pane∨q∈s.Done.map Zc.Pane)
 | 0,s,hv=>⟨rfl,by simp[V1],rfl,rfl,fun _=>Iff.rfl⟩
 | n+1,s,hv=>by
  cases h:Wh s with
  | none=>rw[ZdJ h];exact⟨rfl,by simp,rfl,rfl,fun _=>Iff.rfl⟩
  | some e=>
   obtain⟨u,n',j,x,q,t,b,F⟩:=Zn4 hv h
   have hu:=Zgx F.ap
   have hk:e.kind=3:=ZcI h
   have hf:=ZqT hv F.ap
   have hc:=hf.came
   rw[if_neg (by omega)] at hc
   have hd:=F.done
   have ho:=F.opn
   obtain⟨m1,m2⟩:=Zzt hv hk F.ap
   obtain⟨g1,g2,g3,g4,g5⟩:=Zq1 (n:=n) hu
   rw[ZdI h F.ap]
   exact⟨by simp only;omega,by simp only[List.length_cons];omega,by simp only;omega,by simp only;omega,fun q=>(g5 q).trans (m2 q)⟩
theorem ZfN (a b:List Zc) (ha:VD a) (hb:VD b):Zg Xs Ms YG [(.d (.sl (a.map Zc.enc))),(.d (.sl (b.map Zc.enc)))] []=some (.tup [.own 0,(.d (.bool (decide (VD (mrg a b)))))],[.row 5 ((if VD (mrg a b) then mrg a b else []).map Zc.enc) true false]):=by
 have e1:=Vt a
 have e2:=Vt b
 rw[decide_eq_true ha] at e1
 rw[decide_eq_true hb] at e2
 have ha8:=ha.1
 have hb8:=hb.1
 have e3:=Zc6 a (by omega)
 have hcnt:∀ i,∀ x∈mrg a (b.take i),1≤x.Count∧x.Count≤48:=fun i x hx=>by
  have hu:=ZqZ (b.take i) a (Zas ha) (fun x hx=>(Z7 hb x (List.mem_of_mem_take hx)).2.1)
  have h1:=ZgA hu.2 x hx
  rw[(Zia (b.take i) a).1] at h1
  have h2:=ZeH (i:=i) (fun x hx=>(Z7 hb x hx).2.1)
  have h3:=ha.2.2
  have h4:=hb.2.2
  exact⟨hu.2 x hx,by omega⟩
 have hlen:∀ i,(mrg a (b.take i)).length≤8+i:=by
  intro i
  induction i with
  | zero=>simpa [mrg] using ha8
  | succ i ih=>
   cases hx:b[i]? with
   | none=>rw[List.take_add_one,hx];simp;omega
   | some x=>
    rw[Zwf hx]
    have:=ZcD x.Pane x.Count (mrg a (b.take i))
    omega
 refine Zd Xs Ms Ud ZoQ (by show 2≤_;decide) ?_
 simp +contextual -implicitDefEqProofs (maxSteps:=10^7) only[go_sem,seval,↓gZ,Ud,e1,e2,e3]
 refine Zr Xs Ms (st0:=?st0) (α:=Nat) (fun k=>[(21,.d (J (k:Int)))]) (fun k=>[(0,.row 5 ((mrg a (b.take k)).map Zc.enc) true false)]) (fun k=>k≤b.length) (fun k=>b.length-k) 0 ?hc (by omega) ?h0 ?step
 case hc=>simp +contextual -implicitDefEqProofs (maxSteps:=10^7) only[go_sem,seval,↓gZ]<;>exact rfl
 case h0=>rfl
 case step=>
  intro k hk ih
  by_cases hlt:k<b.length
  ·obtain⟨x,hx⟩:=Zp hlt
   have hw:=Zl (k:=k) (by omega)
   have hm:=Zwf (a:=a) hx
   have hxc:=(Z7 hb x (List.mem_of_getElem? hx)).2
   obtain⟨⟨W,H,T,K⟩,C⟩:=x
   simp only at hm hxc
   have e4:=Zbf (mrg a (b.take k)) W H T K C (by have:=hlen k;omega) (fun y hy=>by have:=hcnt k y hy;unfold R64;omega)
   simp +contextual -implicitDefEqProofs (maxSteps:=10^7) only[go_sem,seval,↓gZ,hlt,hx,hw,e4]
   refine ih (k+1) _ (by omega) (by omega) ?_
   simp +contextual -implicitDefEqProofs (maxSteps:=10^7) only[go_sem,seval,↓gZ,hm]
  ·have:k=b.length:=by omega
   subst this
   have e5:=Vt (mrg a b)
   by_cases hv:VD (mrg a b)
   ·rw[decide_eq_true hv] at e5
    rw[decide_eq_true hv,if_pos hv]
    simp +contextual -implicitDefEqProofs (maxSteps:=10^7) only[go_sem,seval,↓gZ,List.take_length,e5]
   ·rw[decide_eq_false hv] at e5
    rw[decide_eq_false hv,if_neg hv]
    simp +contextual -implicitDefEqProofs (maxSteps:=10^7) only[go_sem,seval,↓gZ,List.take_length,e5]
theorem ZfO (code:List UInt8):Zg Xs Ms XR [.d (.sl (code.map ZaP))] []=some ((.d (.bool true)),[]):=by
 have nb:∀ a b:Bool,Zfp .neq true (.d (.bool a)) (.d (.bool b))=Qs (.d (.bool (!(a==b)))):=fun _ _=>rfl
 have bb:∀ a b:Bool,Zfp .eql true (.d (.bool a)) (.d (.bool b))=Qs (.d (.bool (a==b))):=fun _ _=>rfl
 by_cases hlen:(1048576:Int)<code.length
 ·refine Zd Xs Ms ZA QW (by show 1≤_;decide) ?_
  simp +contextual -implicitDefEqProofs (maxSteps:=10^7) only[go_sem,seval,↓gZ,ZA,hlen]
 ·obtain⟨r,ed,S,O,D,L,C,f,g,h,m,hA,rfl⟩:=ZcJ code
  by_cases hc:ZH ⟨S,O,D,L,C⟩∧0≤m∧m≤40
  ·obtain⟨hv,hm0,hm40⟩:=hc
   obtain⟨n,rfl⟩:∃ n:Nat,m=(n:Int):=⟨m.toNat,by omega⟩
   have e1:=ZfL S O D L C n hv (by omega)
   have e2:=ZfM S O D L C n hv (by omega)
   obtain⟨g1,g2,g3⟩:=ZqX (n:=n) hv
   obtain⟨k1,k2,k3,k4,k5⟩:=Zq1 (n:=n) hv
   cases hw:V1 n ⟨S,O,D,L,C⟩ with
   | mk z l=>
    rw[hw] at e1 e2 g1 g2 g3 k1 k2 k3 k4 k5
    obtain⟨zS,zO,zD,zL,zC⟩:=z
    simp only at g1 g2 g3 k1 k2 k3 k4 k5
    have k1:=k1.symm
    subst k1
    unfold wtV at e1 e2
    simp only at e1 e2
    have e3:=Jn zS zO zD zL C (VE g1)
    have e4:=WQ l (by omega) g2
    have e5:=ZN S O D L C
    rw[decide_eq_true hv] at e5
    have n1:¬(n:Int)<0:=by omega
    have n2:¬(40:Int)<(n:Int):=by omega
    have a1:=ZjI zS zO zD zL C
    have a2:=ZjI S O D L C
    have s1:shA (Zo.mk zS zO zD zL C)=C:=by unfold shA;rw[if_pos g1]
    have s2:shA (Zo.mk S O D L C)=C:=by unfold shA;rw[if_pos hv]
    rw[s1] at a1
    rw[s2] at a2
    have c1:=ZqU zD g1.2.2.1
    have c2:=ZqU D hv.2.2.1
    rw[k2] at c1
    have b1:=hv.2.2.1.2.2
    have b2:=ZhZ (l:=D) (fun x hx=>(Z7 hv.2.2.1 x hx).2.1)
    simp only at b1
    have u1:=wi (Z4 D+l.length) (by omega) (by omega)
    have mo:=ZfN O D hv.2.1 hv.2.2.1
    have mz:=ZfN zO zD g1.2.1 g1.2.2.1
    have hs:=ZAF g1.2.1 g1.2.2.1 hv.2.1 hv.2.2.1 k3 k5
    simp only at hs
    by_cases hvo:VD (mrg O D)
    ·have hvz:=hs.2 hvo
     have o1:=Zbc (mrg O D) hvo
     have o2:=Zbc (mrg zO zD) hvz
     rw[(Zia D O).2] at o1
     rw[(Zia zD zO).2,k4] at o2
     rw[decide_eq_true hvo,if_pos hvo] at mo
     rw[decide_eq_true hvz,if_pos hvz] at mz
     generalize mrg O D=M1 at *
     generalize mrg zO zD=M2 at *
     refine Zd Xs Ms ZA QW (by show 1≤_;decide) ?_
     simp +contextual -implicitDefEqProofs (maxSteps:=10^7) only[go_sem,seval,↓gZ,ZA,nb,bb,hlen,ed,e1,e2,e3,e4,e5,n1,n2,a1,a2,c1,c2,u1,mo,mz,o1,o2]
    ·have hvz:¬VD (mrg zO zD):=fun h=>hvo (hs.1 h)
     rw[decide_eq_false hvo,if_neg hvo] at mo
     rw[decide_eq_false hvz,if_neg hvz] at mz
     simp only[List.map_nil] at mo mz
     refine Zd Xs Ms ZA QW (by show 1≤_;decide) ?_
     simp +contextual -implicitDefEqProofs (maxSteps:=10^7) only[go_sem,seval,↓gZ,ZA,nb,bb,hlen,ed,e1,e2,e3,e4,e5,n1,n2,a1,a2,c1,c2,u1,mo,mz]
  ·have e1:=ZeM S O D L C m hc
   have e2:=ZeN S O D L C m (Zv3 hA).1 hc
   unfold wtV at e1 e2
   have e3:=Jn [] [] [] 0 0 (VE Zk3)
   have e4:=WQ [] (by simp) (by simp)
   have e5:=ZN S O D L C
   simp only[List.map_nil] at e1 e2 e3 e4
   by_cases hv:ZH ⟨S,O,D,L,C⟩
   ·rw[decide_eq_true hv] at e5
    by_cases n1:m<0
    ·refine Zd Xs Ms ZA QW (by show 1≤_;decide) ?_
     simp +contextual -implicitDefEqProofs (maxSteps:=10^7) only[go_sem,seval,↓gZ,ZA,nb,bb,hlen,ed,e1,e2,e3,e4,e5,n1]
    ·have n2:(40:Int)<m:=by
      rcases Int.lt_or_le 40 m with h2 | h2
      ·exact h2
      ·exact absurd ⟨hv,by omega,h2⟩ hc
     refine Zd Xs Ms ZA QW (by show 1≤_;decide) ?_
     simp +contextual -implicitDefEqProofs (maxSteps:=10^7) only[go_sem,seval,↓gZ,ZA,nb,bb,hlen,ed,e1,e2,e3,e4,e5,n1,n2]
   ·rw[decide_eq_false hv] at e5
    refine Zd Xs Ms ZA QW (by show 1≤_;decide) ?_
    simp +contextual -implicitDefEqProofs (maxSteps:=10^7) only[go_sem,seval,↓gZ,ZA,nb,bb,hlen,ed,e1,e2,e3,e4,e5]
end Go.Proofs.YtpobhkoombldlaaGreat
