/- Own text. -/
import Derived.Test.YtgpiffflfkoocaaDoorACode
import Derived.Test.YtgpiffflfkoocaaDoorAbsParts
import Derived.Test.YtgpiffflfkoocaaDoorAC6
import Derived.Test.YtgpiffflfkoocaaDoorAbsOkD
namespace Go.Proofs.YtgpiffflfkoocaaDoor
open Go Go.Abs Go.Abs.E Go.Abs.L
open Nat (reduceMul reduceSub reduceLeDiff reduceEqDiff)
open Int (reduceLE reduceEq reduceToNat reduceNeg)
set_option linter.unusedSimpArgs false
set_option linter.unusedVariables false
set_option maxRecDepth 20000
set_option maxHeartbeats 4000000
def XE (e:Zw) (b:BT):Option Ev:=
 if e.kind=0 then (if e.box.X=0∧e.box.Y=0 then some (.sheet e.label.toNat e.box.W.toNat e.box.H.toNat) else none)
 else if e.kind=1 then some (.flaw e.label.toNat e.box.X.toNat e.box.Y.toNat e.box.W.toNat e.box.H.toNat)
 else if e.kind=2 then some (.order e.line)
 else if e.kind=3 then some (.cut e.label.toNat b)
 else if e.kind=4 then some (.brk e.line)
 else if e.kind=5 then some (.scrap e.label.toNat)
 else none
def Js (e:Zw):Option Ev:=if ∀ n∈Yy e,six n then
  match QV e.plan with
  | some b=>if Ze4 b then XE e b else none
  | none=>none
 else none
theorem Zd2 {e:Zw} (h:¬∀ n∈Yy e,six n):Js e=none:=by unfold Js;rw[Kf h]
theorem Zbx {e:Zw} (h:∀ b,QV e.plan=some b→¬Ze4 b):Js e=none:=by
 unfold Js;split
 ·cases hb:QV e.plan with
  | none=>rfl
  | some b=>simp only;rw[Kf (h b hb)]
 ·rfl
theorem Yv {e:Zw} {b:BT} (h:∀ n∈Yy e,six n) (hb:QV e.plan=some b) (hp:Ze4 b):Js e=XE e b:=by
 unfold Js;rw[Ko h,hb];simp only;rw[Ko hp]
theorem Zbi:Zj Xs Ms Xx [] []=some (.own 0,[.row 1 [.str QA,.str Q1,.str Xi,.str UT,.str Xj,.str QY] true false]):=by
 refine cE ?_;simp +contextual -implicitDefEqProofs (maxSteps:=10^7) only[go_sem,seval,↓gZ,U0]
 all_goals rfl
def Ze5 (e:Zw):List Int:=[e.label,e.box.X,e.box.Y,e.box.W,e.box.H,e.line.Count,e.line.Pane.W,e.line.Pane.H,e.line.Pane.Kind]
theorem ZpP {e:Zw} (h:¬∀ n∈Ze5 e,six n):Js e=none:=by
 refine Zd2 fun h'=>h fun n hn=>h' n ?_;simp only[Ze5,Yy,Ke,KI,or_false] at hn ⊢;rcases hn with h | h | h | h | h | h | h | h | h<;>simp[h]
theorem ZpQ {e:Zw} (h:∀ n∈Ze5 e,six n) (hk:0≤e.kind∧e.kind≤5):∀ n∈Yy e,six n:=by
 intro n hn;simp only[Yy,Ke,KI,or_false] at hn;rcases hn with rfl | hn
 ·exact⟨hk.1,by omega⟩
 ·refine h n ?_;simp only[Ze5,Ke,KI,or_false];rcases hn with h | h | h | h | h | h | h | h | h<;>simp[h]
theorem Zme {e:Zw} {b:BT} (hk:0≤e.kind∧e.kind≤5) (h0:e.kind=0→e.box.X=0∧e.box.Y=0):(XE e b).isSome=true:=by
 unfold XE;by_cases k0:e.kind=0
 ·rw[Ko k0,Ko (h0 k0)];rfl
 rw[Kf k0];by_cases k1:e.kind=1
 ·rw[Ko k1];rfl
 rw[Kf k1];by_cases k2:e.kind=2
 ·rw[Ko k2];rfl
 rw[Kf k2];by_cases k3:e.kind=3
 ·rw[Ko k3];rfl
 rw[Kf k3];by_cases k4:e.kind=4
 ·rw[Ko k4];rfl
 rw[Kf k4,Ko (by omega)];rfl
theorem Zmf {e:Zw} {b:BT} (hk:¬(0≤e.kind∧e.kind≤5)):XE e b=none:=by
 unfold XE;rw[Kf (by omega),Kf (by omega),Kf (by omega),Kf (by omega),Kf (by omega),Kf (by omega)]
theorem Zf1 {e:Zw} (h:∀ b,XE e b=none):Js e=none:=by
 unfold Js;split
 ·split
  ·split
   ·exact h _
   ·rfl
  ·rfl
 ·rfl
theorem ZcM (eK eL eX eY eW eH aa ab:Int) (ae:Bool) (ad eC eo ea ep:Int) (et:Bool) (ek:List Ze):Zj Xs Ms Xu [(.d (.agg [J eK,J eL,J eX,J eY,J eW,J eH,J aa,J ab,.bool ae,J ad,J eC,J eo,J ea,J ep,.bool et,.sl (ek.map Ze.enc)]))] []=some ((.d (.bool ((Js (Zw.mk eK eL (Box.mk eX eY eW eH) (QG.mk (Pane.mk aa ab ae ad) eC) (Ze.mk eo ea ep et ek))).isSome))),[]):=by
 obtain⟨xs,aq⟩:∃ xs,xs=Ze5 (Zw.mk eK eL (Box.mk eX eY eW eH) (QG.mk (Pane.mk aa ab ae ad) eC) (Ze.mk eo ea ep et ek)):=⟨_,rfl⟩
 have a1:xs.length=9:=by rw[aq];rfl
 refine cE ?_;simp +contextual -implicitDefEqProofs (maxSteps:=10^7) only[go_sem,seval,↓gZ,VL];have au:([J eL,J eX,J eY,J eW,J eH,J eC,J aa,J ab,J ad]:List D)=xs.map U8:=by rw[aq];rfl
 rw[au];refine LO (α:=Nat) (fun k=>[(4,.d (J (k:Int)))]) (fun _=>[]) (fun k=>k≤9∧∀ n∈xs.take k,six n) (fun k=>9-k) 0 (by simp) ?_;intro k ⟨hk,hp⟩ ih;by_cases av:k<xs.length
 ·obtain⟨x,hx⟩:=VR av;have al : (k:Int)<9:=by omega
  have ah:k<9:=by omega
  have am:(k:Int)<(xs.length:Int):=by omega
  have az:=ZM (k:=k) (by omega);have e1:=XL x 0 999999;by_cases hs:six x
  ·rw[decide_eq_true (show 0≤x∧x≤999999 from hs)] at e1;simp +contextual -implicitDefEqProofs (maxSteps:=10^7) only[go_sem,seval,↓gZ,al,av,ah,am,hx,az,U8,e1];refine ih (k+1) _ ⟨by omega,?_⟩ (by omega) ?_
   ·intro n hn;rw[LH,hx] at hn;rcases Kd.1 hn with hn | hn
    ·exact hp n hn
    ·simp only[Option.toList_some,Kz] at hn;rw[hn];exact hs
   ·simp +contextual -implicitDefEqProofs (maxSteps:=10^7) only[go_sem,seval,↓gZ]
  ·rw[decide_eq_false (show ¬(0≤x∧x≤999999) from hs)] at e1;have ag:Js (Zw.mk eK eL (Box.mk eX eY eW eH) (QG.mk (Pane.mk aa ab ae ad) eC) (Ze.mk eo ea ep et ek))=none:=ZpP fun h=>hs (h x (by rw[← aq];exact Kp hx));rw[ag];simp +contextual -implicitDefEqProofs (maxSteps:=10^7) only[go_sem,seval,↓gZ,al,av,ah,am,hx,az,U8,e1,Ky]
 ·have a2:k=9:=by omega
  subst a2;have aw:∀ n∈Ze5 (Zw.mk eK eL (Box.mk eX eY eW eH) (QG.mk (Pane.mk aa ab ae ad) eC) (Ze.mk eo ea ep et ek)),six n:=by
   intro n hn;rw[← aq] at hn;refine hp n ?_;rw[Lz (by omega)];exact hn
  have af:¬(9:Int)<(xs.length:Int):=by omega
  have e1:=XL eK 0 5;have e2:=ZcT (.mk eo ea ep et ek);rw[Ze.enc_mk] at e2;by_cases an:eK=0∧¬(eX=0∧eY=0)
  ·obtain⟨k0,a0⟩:=an;have ag:Js (Zw.mk eK eL (Box.mk eX eY eW eH) (QG.mk (Pane.mk aa ab ae ad) eC) (Ze.mk eo ea ep et ek))=none:=Zf1 fun b=>by unfold XE;rw[Ko k0,Kf a0]
   rw[ag];subst k0;by_cases hX:eX=0
   ·have hY:¬eY=0:=fun h=>a0 ⟨hX,h⟩;simp +contextual -implicitDefEqProofs (maxSteps:=10^7) only[go_sem,seval,↓gZ,af,hX,hY,Ky]
   ·simp +contextual -implicitDefEqProofs (maxSteps:=10^7) only[go_sem,seval,↓gZ,af,hX,Ky]
  have aj:eK=0→eX=0∧eY=0:=fun h=>Classical.byContradiction fun h'=>an ⟨h,h'⟩;have a3:∀ R:Prop,R→R:=fun _ h=>h;by_cases ak:0≤eK∧eK≤5
  ·rw[decide_eq_true ak] at e1;have ao:=ZpQ (e:=(Zw.mk eK eL (Box.mk eX eY eW eH) (QG.mk (Pane.mk aa ab ae ad) eC) (Ze.mk eo ea ep et ek))) aw ak;cases hT:QV (.mk eo ea ep et ek) with
   | none=>
    rw[hT,show Zn 255 none=-1 from rfl] at e2;have ag:Js (Zw.mk eK eL (Box.mk eX eY eW eH) (QG.mk (Pane.mk aa ab ae ad) eC) (Ze.mk eo ea ep et ek))=none:=Zbx fun b hb=>by rw[show QV (Zw.plan (Zw.mk eK eL (Box.mk eX eY eW eH) (QG.mk (Pane.mk aa ab ae ad) eC) (Ze.mk eo ea ep et ek)))=QV (.mk eo ea ep et ek) from rfl,hT] at hb;cases hb
    rw[ag];by_cases k0:eK=0
    ·obtain⟨hX,hY⟩:=aj k0;subst k0 hX hY;simp +contextual -implicitDefEqProofs (maxSteps:=10^7) only[go_sem,seval,↓gZ,af,e1,e2,Ky]
    ·simp +contextual -implicitDefEqProofs (maxSteps:=10^7) only[go_sem,seval,↓gZ,af,k0,e1,e2,Ky]
   | some b=>
    have ax:=ZcC hT;rw[hT] at e2;by_cases ai:Ze4 b
    ·have hz:0<Zn 255 (some b):=by
      have:=b.cnt_pos;have:=ai.1;rcases Q7 255 b with ⟨_,h⟩ | ⟨h,_⟩
      ·rw[h];omega
      ·omega
     have e3:=YO b;have e4:=Yu b ai.2.1 (by have:=ai.1;omega);rw[← ax,Ze.enc_mk] at e3 e4;rw[ai.2.1] at e3;have hl:=ai.2.2;have ap : ((shw b).length:Int)≤1600:=by omega
     have ay:(Js (Zw.mk eK eL (Box.mk eX eY eW eH) (QG.mk (Pane.mk aa ab ae ad) eC) (Ze.mk eo ea ep et ek))).isSome=true:=by
      rw[Yv ao hT ai];exact Zme ak aj
     rw[ay];by_cases k0:eK=0
     ·obtain⟨hX,hY⟩:=aj k0;subst k0 hX hY;simp +contextual -implicitDefEqProofs (maxSteps:=10^7) only[go_sem,seval,↓gZ,af,e1,e2,hz,e3,e4,ap]
     ·simp +contextual -implicitDefEqProofs (maxSteps:=10^7) only[go_sem,seval,↓gZ,af,k0,e1,e2,hz,e3,e4,ap]
    ·have ag:Js (Zw.mk eK eL (Box.mk eX eY eW eH) (QG.mk (Pane.mk aa ab ae ad) eC) (Ze.mk eo ea ep et ek))=none:=Zbx fun b' hb=>by
      rw[show QV (Zw.plan (Zw.mk eK eL (Box.mk eX eY eW eH) (QG.mk (Pane.mk aa ab ae ad) eC) (Ze.mk eo ea ep et ek)))=QV (.mk eo ea ep et ek) from rfl,hT] at hb;cases hb;exact ai
     rw[ag];have e3:=YO b;rw[← ax,Ze.enc_mk] at e3;rcases Q7 255 b with ⟨hc,hz⟩ | ⟨hc,hz⟩
     ·rw[hz] at e2;have ar : (0:Int)<b.cnt:=by have:=b.cnt_pos;omega
      cases hcb:Vn b with
      | false=>
       rw[hcb] at e3;by_cases k0:eK=0
       ·obtain⟨hX,hY⟩:=aj k0;subst k0 hX hY;simp +contextual -implicitDefEqProofs (maxSteps:=10^7) only[go_sem,seval,↓gZ,af,e1,e2,ar,e3,Ky]
       ·simp +contextual -implicitDefEqProofs (maxSteps:=10^7) only[go_sem,seval,↓gZ,af,k0,e1,e2,ar,e3,Ky]
      | true=>
       rw[hcb] at e3;have e4:=Yu b hcb (by omega);rw[← ax,Ze.enc_mk] at e4;have ap : ¬((shw b).length:Int)≤1600:=fun h=>ai ⟨by omega,hcb,by omega⟩;by_cases k0:eK=0
       ·obtain⟨hX,hY⟩:=aj k0;subst k0 hX hY;simp +contextual -implicitDefEqProofs (maxSteps:=10^7) only[go_sem,seval,↓gZ,af,e1,e2,ar,e3,e4,ap,Ky]
       ·simp +contextual -implicitDefEqProofs (maxSteps:=10^7) only[go_sem,seval,↓gZ,af,k0,e1,e2,ar,e3,e4,ap,Ky]
     ·rw[hz] at e2;by_cases k0:eK=0
      ·obtain⟨hX,hY⟩:=aj k0;subst k0 hX hY;simp +contextual -implicitDefEqProofs (maxSteps:=10^7) only[go_sem,seval,↓gZ,af,e1,e2,Ky]
      ·simp +contextual -implicitDefEqProofs (maxSteps:=10^7) only[go_sem,seval,↓gZ,af,k0,e1,e2,Ky]
  ·rw[decide_eq_false ak] at e1;have ag:Js (Zw.mk eK eL (Box.mk eX eY eW eH) (QG.mk (Pane.mk aa ab ae ad) eC) (Ze.mk eo ea ep et ek))=none:=Zf1 fun b=>Zmf ak;rw[ag];have k0:¬eK=0:=fun h=>ak ⟨by omega,by omega⟩;simp +contextual -implicitDefEqProofs (maxSteps:=10^7) only[go_sem,seval,↓gZ,af,k0,e1,Ky]
theorem Zby (n:Int) (h:six n):Zj Xs Ms ZE [(.d (J n))] []=some (.d (.str (num n.toNat)),[]):=by
 have e:=Yc n.toNat (by have:=h.2;have:=h.1;omega);rw[KD h.1] at e;exact e
theorem Zht (eK eL eX eY eW eH aa ab:Int) (ad:Bool) (ae eC eo ea ep:Int) (et:Bool) (ek:List Ze) (v:Ev) (hv:Js (Zw.mk eK eL (Box.mk eX eY eW eH) (QG.mk (Pane.mk aa ab ad ae) eC) (Ze.mk eo ea ep et ek))=some v):Zj Xs Ms Vs [(.d (.agg [J eK,J eL,J eX,J eY,J eW,J eH,J aa,J ab,.bool ad,J ae,J eC,J eo,J ea,J ep,.bool et,.sl (ek.map Ze.enc)]))] []=some (.d (.str v.text),[]):=by
 have af:∀ n∈Yy (Zw.mk eK eL (Box.mk eX eY eW eH) (QG.mk (Pane.mk aa ab ad ae) eC) (Ze.mk eo ea ep et ek)),six n:=Classical.byContradiction fun h=>by rw[Zd2 h] at hv;cases hv
 obtain⟨b,hb,ah⟩:∃ b,QV (.mk eo ea ep et ek)=some b∧Ze4 b:=Classical.byContradiction fun h=>by
  rw[Zbx (e:=(Zw.mk eK eL (Box.mk eX eY eW eH) (QG.mk (Pane.mk aa ab ad ae) eC) (Ze.mk eo ea ep et ek))) fun b hb hp=>h ⟨b,hb,hp⟩] at hv;cases hv
 have am:=ZcC hb;rw[Yv af hb ah] at hv;have e0:=Zbi;simp only[Yy,Ke,KI,or_false,forall_eq_or_imp,forall_eq] at af;obtain⟨n1,n2,n3,n4,n5,n6,n7,n8,n9,an⟩:=af;have ai:=Zby eL n2;have ao:=Zby eX n3;have ap:=Zby eY n4;have aj:=Zby eW n5;have ak:=Zby eH n6;have lL:=Zbw eL n2;have lX:=Zbw eX n3;have lY:=Zbw eY n4;have lW:=Zbw eW n5;have lH:=Zbw eH n6;have al:Zl7 ⟨⟨aa,ab,ad,ae⟩,eC⟩:=⟨an,n7,n8,n9⟩
 have e4:=Zjn aa ab ad ae eC al;have aq:=ZfZ ⟨⟨aa,ab,ad,ae⟩,eC⟩ al;have e5:=Yu b ah.2.1 (by have:=ah.1;omega);rw[← am,Ze.enc_mk] at e5;have ar:=ah.2.2;have au:(Zde ⟨⟨aa,ab,ad,ae⟩,eC⟩).length≤40:=aq;unfold XE at hv;simp only at hv;by_cases k0:eK=0
 ·rw[Ko k0] at hv;split at hv
  ·cases hv;subst k0;have ht:Ev.text (.sheet eL.toNat eW.toNat eH.toNat)=QA++[32]++num eL.toNat++[32]++num eW.toNat++[32]++num eH.toNat:=by simp[Ev.text,Ev.words,UQ]
   rw[ht];generalize num eL.toNat=a at *;generalize num eW.toNat=c at *;generalize num eH.toNat=d at *;have ag:QA.length=5:=rfl;have b0:QA.length+1≤1152921504606846976:=by omega
   have b1:QA.length+1+a.length≤1152921504606846976:=by omega
   have b2:QA.length+1+a.length+1≤1152921504606846976:=by omega
   have b3:QA.length+1+a.length+1+c.length≤1152921504606846976:=by omega
   have b4:QA.length+1+a.length+1+c.length+1≤1152921504606846976:=by omega
   have b5:QA.length+1+a.length+1+c.length+1+d.length≤1152921504606846976:=by omega
   refine cE ?_;simp +contextual -implicitDefEqProofs (maxSteps:=10^7) only[go_sem,seval,↓gZ,Xq,e0,ai,aj,ak,b0,b1,b2,b3,b4,b5]
  ·cases hv
 rw[Kf k0] at hv;by_cases k1:eK=1
 ·rw[Ko k1] at hv;cases hv;subst k1;have ht:Ev.text (.flaw eL.toNat eX.toNat eY.toNat eW.toNat eH.toNat)=Q1++[32]++num eL.toNat++[32]++num eX.toNat++[32]++num eY.toNat++[32]++num eW.toNat++[32]++num eH.toNat:=by simp[Ev.text,Ev.words,UQ]
  rw[ht];generalize num eL.toNat=a at *;generalize num eX.toNat=x at *;generalize num eY.toNat=y at *;generalize num eW.toNat=c at *;generalize num eH.toNat=d at *;have ag:Q1.length=4:=rfl;have b0:Q1.length+1≤1152921504606846976:=by omega
  have b1:Q1.length+1+a.length≤1152921504606846976:=by omega
  have b2:Q1.length+1+a.length+1≤1152921504606846976:=by omega
  have b3:Q1.length+1+a.length+1+x.length≤1152921504606846976:=by omega
  have b4:Q1.length+1+a.length+1+x.length+1≤1152921504606846976:=by omega
  have b5:Q1.length+1+a.length+1+x.length+1+y.length≤1152921504606846976:=by omega
  have b6:Q1.length+1+a.length+1+x.length+1+y.length+1≤1152921504606846976:=by omega
  have b7:Q1.length+1+a.length+1+x.length+1+y.length+1+c.length≤1152921504606846976:=by omega
  have b8:Q1.length+1+a.length+1+x.length+1+y.length+1+c.length+1≤1152921504606846976:=by omega
  have b9:Q1.length+1+a.length+1+x.length+1+y.length+1+c.length+1+d.length≤1152921504606846976:=by omega
  refine cE ?_;simp +contextual -implicitDefEqProofs (maxSteps:=10^7) only[go_sem,seval,↓gZ,Xq,e0,ai,ao,ap,aj,ak,b0,b1,b2,b3,b4,b5,b6,b7,b8,b9]
 rw[Kf k1] at hv;by_cases k2:eK=2
 ·rw[Ko k2] at hv;cases hv;subst k2;have ht:Ev.text (.order ⟨⟨aa,ab,ad,ae⟩,eC⟩)=Xi++[32]++Zde ⟨⟨aa,ab,ad,ae⟩,eC⟩:=rfl;rw[ht];generalize Zde ⟨⟨aa,ab,ad,ae⟩,eC⟩=a at *;have ag:Xi.length=5:=rfl;have b0:Xi.length+1≤1152921504606846976:=by omega
  have b1:Xi.length+1+a.length≤1152921504606846976:=by omega
  refine cE ?_;simp +contextual -implicitDefEqProofs (maxSteps:=10^7) only[go_sem,seval,↓gZ,Xq,e0,e4,b0,b1]
 rw[Kf k2] at hv;by_cases k3:eK=3
 ·rw[Ko k3] at hv;cases hv;subst k3;have ht:Ev.text (.cut eL.toNat b)=UT++[32]++num eL.toNat++[32]++shw b:=by simp[Ev.text,Ev.words,UQ]
  rw[ht];generalize num eL.toNat=a at *;generalize shw b=c at *;have ag:UT.length=3:=rfl;have b0:UT.length+1≤1152921504606846976:=by omega
  have b1:UT.length+1+a.length≤1152921504606846976:=by omega
  have b2:UT.length+1+a.length+1≤1152921504606846976:=by omega
  have b3:UT.length+1+a.length+1+c.length≤1152921504606846976:=by omega
  refine cE ?_;simp +contextual -implicitDefEqProofs (maxSteps:=10^7) only[go_sem,seval,↓gZ,Xq,e0,ai,e5,b0,b1,b2,b3]
 rw[Kf k3] at hv;by_cases k4:eK=4
 ·rw[Ko k4] at hv;cases hv;subst k4;have ht:Ev.text (.brk ⟨⟨aa,ab,ad,ae⟩,eC⟩)=Xj++[32]++Zde ⟨⟨aa,ab,ad,ae⟩,eC⟩:=rfl;rw[ht];generalize Zde ⟨⟨aa,ab,ad,ae⟩,eC⟩=a at *;have ag:Xj.length=5:=rfl;have b0:Xj.length+1≤1152921504606846976:=by omega
  have b1:Xj.length+1+a.length≤1152921504606846976:=by omega
  refine cE ?_;simp +contextual -implicitDefEqProofs (maxSteps:=10^7) only[go_sem,seval,↓gZ,Xq,e0,e4,b0,b1]
 rw[Kf k4] at hv;by_cases k5:eK=5
 ·rw[Ko k5] at hv;cases hv;subst k5;have ht:Ev.text (.scrap eL.toNat)=QY++[32]++num eL.toNat:=rfl;rw[ht];generalize num eL.toNat=a at *;have ag:QY.length=5:=rfl;have b0:QY.length+1≤1152921504606846976:=by omega
  have b1:QY.length+1+a.length≤1152921504606846976:=by omega
  refine cE ?_;simp +contextual -implicitDefEqProofs (maxSteps:=10^7) only[go_sem,seval,↓gZ,Xq,e0,ai,b0,b1]
 ·rw[Kf k5] at hv;cases hv
def evZ:Zw:=⟨0,0,bx0,ln0,BT.waste.plan⟩
def evM (m:Option Ev):Zw:=match m with
 | some v=>v.ev
 | none=>evZ
def PeR (res:Option (AV×List Zf)) (m:Option Ev):Prop:=∃ (K L X Y W H pW pH:Int) (pT:Bool) (pK C o a q:Int) (t:Bool) (ks:List Ze),
 res=some (.tup [.agg [(.d (J K)),(.d (J L)),(.d (J X)),(.d (J Y)),(.d (J W)),(.d (J H)),(.d (J pW)),(.d (J pH)),(.d (.bool pT)),(.d (J pK)),(.d (J C)),(.d (J o)),(.d (J a)),(.d (J q)),(.d (.bool t)),.own 0],(.d (.bool (m.isSome)))],[.row 5 (ks.map Ze.enc) true false]) ∧
 Zw.mk K L ⟨X,Y,W,H⟩ ⟨⟨pW,pH,pT,pK⟩,C⟩ (.mk o a q t ks)=evM m
theorem ZnI {res:Option (AV×List Zf)} (h:res=some (.tup [.agg [(.d (J 0)),(.d (J 0)),(.d (J 0)),(.d (J 0)),(.d (J 0)),(.d (J 0)),(.d (J 0)),(.d (J 0)),(.d (.bool false)),(.d (J 0)),(.d (J 0)),(.d (J 0)),(.d (J 0)),(.d (J 0)),(.d (.bool false)),.own 0],(.d (.bool false))],[.row 5 [] true false])):PeR res none:=
 ⟨0,0,0,0,0,0,0,0,false,0,0,0,0,0,false,[],h,rfl⟩
def PeT (res:Option (AV×List Zf)) (m:Option Ev):Prop:=∃ (K L X Y W H pW pH:Int) (pT:Bool) (pK C o a q:Int) (t:Bool) (ks:List Ze),
 res=some (.tup [.agg [(.d (J K)),(.d (J L)),(.d (J X)),(.d (J Y)),(.d (J W)),(.d (J H)),(.d (J pW)),(.d (J pH)),(.d (.bool pT)),(.d (J pK)),(.d (J C)),(.d (J o)),(.d (J a)),(.d (J q)),(.d (.bool t)),.own 0],(.d (.bool (m.isSome)))],[plO ks]) ∧
 Zw.mk K L ⟨X,Y,W,H⟩ ⟨⟨pW,pH,pT,pK⟩,C⟩ (.mk o a q t ks)=evM m
theorem Zdg {res:Option (AV×List Zf)} (h:res=some (.tup [.agg [(.d (J 0)),(.d (J 0)),(.d (J 0)),(.d (J 0)),(.d (J 0)),(.d (J 0)),(.d (J 0)),(.d (J 0)),(.d (.bool false)),(.d (J 0)),(.d (J 0)),(.d (J 0)),(.d (J 0)),(.d (J 0)),(.d (.bool false)),.own 0],(.d (.bool false))],[.row 5 [] true false])):PeT res none:=
 ⟨0,0,0,0,0,0,0,0,false,0,0,0,0,0,false,[],h,rfl⟩
def rcM (s:List UInt8):Option Ev:=match QI 32 s with
 | none=>none
 | some i=>(rd (s.take i)).bind fun l=>(J5 (s.drop (i+1))).bind fun b=>some (.cut l b)
theorem Zri:J5 []=none:=rfl
theorem Zk5 (s:List UInt8) (hs:s.length≤1048576):PeT (Zj Xs Ms WZ [.d (.str s)] []) (rcM s):=by
 have e1:=US s 32 hs;unfold rcM;cases hi:QI 32 s with
 | none=>
  rw[hi] at e1;simp only at e1 ⊢;have e2:=VE s;obtain⟨o,a,q,t,ks,e3,h3⟩:=Zbs [] (by simp);rw[Zri] at e3;simp only[Ky] at e3;refine Zdg ?_;cases hr:rd s with
  | none=>
   rw[hr] at e2;simp only[ZaB] at e2;refine cE ?_;cases ks<;>simp +contextual -implicitDefEqProofs (maxSteps:=10^7) only[go_sem,seval,↓gZ,YT,e1,e2,e3]
  | some v=>
   rw[hr] at e2;simp only[ZaB] at e2;refine cE ?_;cases ks<;>simp +contextual -implicitDefEqProofs (maxSteps:=10^7) only[go_sem,seval,↓gZ,YT,e1,e2,e3]
 | some i=>
  rw[hi] at e1;simp only at e1 ⊢;have e2:=VE (s.take i);obtain⟨o,a,q,t,ks,e3,h3⟩:=Zbs (s.drop (i+1)) (by simp;omega);cases hr:rd (s.take i) with
  | none=>
   rw[hr] at e2;simp only[ZaB] at e2;refine Zdg ?_;refine cE ?_;cases ks<;>simp +contextual -implicitDefEqProofs (maxSteps:=10^7) only[go_sem,seval,↓gZ,YT,e1,e2,e3]
  | some v=>
   rw[hr] at e2;simp only[ZaB] at e2;cases hp:J5 (s.drop (i+1)) with
   | none=>
    rw[hp] at e3;simp only[Ky] at e3;refine Zdg ?_;refine cE ?_;cases ks<;>simp +contextual -implicitDefEqProofs (maxSteps:=10^7) only[go_sem,seval,↓gZ,YT,e1,e2,e3]
   | some b=>
    rw[hp] at e3 h3;simp only[L9] at e3;refine⟨3,v,0,0,0,0,0,0,false,0,0,o,a,q,t,ks,?_,?_⟩
    ·refine cE ?_;cases ks<;>simp +contextual -implicitDefEqProofs (maxSteps:=10^7) only[go_sem,seval,↓gZ,YT,e1,e2,e3]
     all_goals rfl
    ·rw[h3];rfl
theorem Zd3 (w:List UInt8) (vs:List Nat) (hl:vs.length≤2000000):PeT (Zj Xs Ms X3 [.d (.str w),.d (.sl ((vs.map fun n:Nat=>(n:Int)).map U8))] []) (ZaE w vs):=by
 by_cases h3:w=QA∧vs.length=3
 ·obtain⟨rfl,h⟩:=h3;obtain⟨a,b,c,rfl⟩:∃ a b c,vs=[a,b,c]:=by
   match vs,h with
   | [a,b,c],_=>exact⟨a,b,c,rfl⟩
  refine⟨0,a,0,0,b,c,0,0,false,0,0,0,0,0,false,[],?_,rfl⟩;simp only[Ki,Ku,U8,QA];refine cE ?_;simp +contextual -implicitDefEqProofs (maxSteps:=10^7) only[go_sem,seval,↓gZ,Qj]
  all_goals rfl
 by_cases h5:w=Q1∧vs.length=5
 ·obtain⟨rfl,h⟩:=h5;obtain⟨a,b,c,d,f,rfl⟩:∃ a b c d f,vs=[a,b,c,d,f]:=by
   match vs,h with
   | [a,b,c,d,f],_=>exact⟨a,b,c,d,f,rfl⟩
  refine⟨1,a,b,c,d,f,0,0,false,0,0,0,0,0,false,[],?_,rfl⟩;have q1:(Q1==[115,104,101,101,116])=false:=rfl;have q2:(Q1==[102,108,97,119])=true:=rfl;simp only[Ki,Ku,U8];refine cE ?_;simp +contextual -implicitDefEqProofs (maxSteps:=10^7) only[go_sem,seval,↓gZ,Qj,q1,q2]
  all_goals rfl
 by_cases h1:w=QY∧vs.length=1
 ·obtain⟨rfl,h⟩:=h1;obtain⟨a,rfl⟩:∃ a,vs=[a]:=by
   match vs,h with
   | [a],_=>exact⟨a,rfl⟩
  refine⟨5,a,0,0,0,0,0,0,false,0,0,0,0,0,false,[],?_,rfl⟩;have q1:(QY==[115,104,101,101,116])=false:=rfl;have q2:(QY==[102,108,97,119])=false:=rfl;have q3:(QY==[115,99,114,97,112])=true:=rfl;simp only[Ki,Ku,U8];refine cE ?_;simp +contextual -implicitDefEqProofs (maxSteps:=10^7) only[go_sem,seval,↓gZ,Qj,q1,q2,q3]
  all_goals rfl
 ·have aa:ZaE w vs=none:=by
   unfold ZaE;split
   ·rw[Kf (fun e=>h1 ⟨e,rfl⟩)]
   ·rw[Kf (fun e=>h3 ⟨e,rfl⟩)]
   ·rw[Kf (fun e=>h5 ⟨e,rfl⟩)]
   ·rfl
  rw[aa];refine Zdg ?_;have p1:(w==[115,104,101,101,116])=true→¬(vs.length:Int)=3:=fun h e=>h3 ⟨by simpa [QA] using h,by omega⟩;have p2:(w==[102,108,97,119])=true→¬(vs.length:Int)=5:=fun h e=>h5 ⟨by simpa [Q1] using h,by omega⟩;have p3:(w==[115,99,114,97,112])=true→¬(vs.length:Int)=1:=fun h e=>h1 ⟨by simpa [QY] using h,by omega⟩;cases q1:(w==[115,104,101,101,116]) with
  | true=>
   have e:w=QA:=by simpa [QA] using q1
   have q2:(w==[102,108,97,119])=false:=by rw[e];rfl
   have q3:(w==[115,99,114,97,112])=false:=by rw[e];rfl
   have p1:=p1 q1;refine cE ?_;simp +contextual -implicitDefEqProofs (maxSteps:=10^7) only[go_sem,seval,↓gZ,Qj,q1,q2,q3,p1,Lj]
  | false=>
   cases q2:(w==[102,108,97,119]) with
   | true=>
    have e:w=Q1:=by simpa [Q1] using q2
    have q3:(w==[115,99,114,97,112])=false:=by rw[e];rfl
    have p2:=p2 q2;refine cE ?_;simp +contextual -implicitDefEqProofs (maxSteps:=10^7) only[go_sem,seval,↓gZ,Qj,q1,q2,q3,p2,Lj]
   | false=>
    cases q3:(w==[115,99,114,97,112]) with
    | true=>
     have p3:=p3 q3;refine cE ?_;simp +contextual -implicitDefEqProofs (maxSteps:=10^7) only[go_sem,seval,↓gZ,Qj,q1,q2,q3,p3,Lj]
    | false=>
     refine cE ?_;simp +contextual -implicitDefEqProofs (maxSteps:=10^7) only[go_sem,seval,↓gZ,Qj,q1,q2,q3]
theorem Zdh:∀ ws:List (List UInt8),Xt ws=(W7 ws).map fun ns=>ns.map fun n:Nat=>(n:Int)
 | []=>rfl
 | w :: r=>by
  simp only[Xt,W7,Zdh r];cases rd w with
  | none=>rfl
  | some v=>cases W7 r<;>rfl
theorem Zmg (s:List UInt8):ZoW (Zt 32 s)=rcM s:=by
 rw[UI];unfold rcM;cases hi:QI 32 s with
 | none=>rfl
 | some i=>
  simp only;rw[UI 32 (s.drop (i+1))];cases hj:QI 32 (s.drop (i+1)) with
  | none=>rfl
  | some j=>
   simp only;have aa:J5 (s.drop (i+1))=none:=by
    cases hp:J5 (s.drop (i+1)) with
    | none=>rfl
    | some b=>
     obtain⟨_,h2,_⟩:=Zcm.1 hp;obtain⟨h3,_⟩:=Wa hj;have h4:(32:UInt8)∉shw b:=Zk4 rfl (by decide) b;rw[← h2] at h4;exact absurd (by rw[h3];simp) h4
   rw[aa];have ab:=Y7 32 ((s.drop (i+1)).drop (j+1));cases hs:Zt 32 ((s.drop (i+1)).drop (j+1)) with
   | nil=>exact absurd hs ab
   | cons x r=>cases rd (s.take i)<;>rfl
def Zhu (w rest:List UInt8):Option Ev:=if w=Xi then (J8 (Zt 32 rest)).bind fun n=>some (.order n)
 else if w=Xj then (J8 (Zt 32 rest)).bind fun n=>some (.brk n)
 else if w=UT then rcM rest else (W7 (Zt 32 rest)).bind (ZaE w)
theorem Zrj (s:List UInt8):Zac s=match QI 32 s with
  | none=>Zhu s []
  | some i=>Zhu (s.take i) (s.drop (i+1)):=by
 unfold Zac Zhu;rw[UI];cases hi:QI 32 s with
 | none=>
  simp only[Y8];by_cases h1:s=Xi
  ·rw[Ko h1,Ko h1];rfl
  rw[Kf h1,Kf h1];by_cases h2:s=Xj
  ·rw[Ko h2,Ko h2];rfl
  rw[Kf h2,Kf h2];by_cases h3:s=UT
  ·rw[Ko h3,Ko h3];rfl
  rw[Kf h3,Kf h3];rfl
 | some i=>
  simp only[Y8,Zmg]
theorem ZgH (s:List UInt8) (hs:s.length≤1048576):PeT (Zj Xs Ms X2 [.d (.str s)] []) (Zac s):=by
 have e1:=US s 32 hs;have ab:∀ (w aa:List UInt8) (f:Bool),aa.length≤s.length→Zj Xs Ms Xo [.d (.str s),.d (.str [32])] []=some (.tup [.d (.str w),.d (.str aa),(.d (.bool f))],[])→PeT (Zj Xs Ms X2 [.d (.str s)] []) (Zhu w aa):=by
  intro w aa f hr e1;have e2:=Zjm aa (by omega);unfold Zhu;by_cases h1:w=Xi∨w=Xj
  ·rcases h1 with rfl | rfl
   ·rw[Ko rfl];have q1:(Xi==[111,114,100,101,114])=true:=rfl;have q2:(Xi==[98,114,101,97,107])=false:=rfl;cases hl:J8 (Zt 32 aa) with
    | none=>
     rw[hl] at e2;simp only[rlV] at e2;refine Zdg ?_;refine cE ?_;simp +contextual -implicitDefEqProofs (maxSteps:=10^7) only[go_sem,seval,↓gZ,QK,e1,q1,q2,e2]
    | some l=>
     obtain⟨⟨W,H,T,K⟩,C⟩:=l;rw[hl] at e2;simp only[rlV,QG.enc] at e2;refine⟨2,0,0,0,0,0,W,H,T,K,C,0,0,0,false,[],?_,rfl⟩;refine cE ?_;simp +contextual -implicitDefEqProofs (maxSteps:=10^7) only[go_sem,seval,↓gZ,QK,e1,q1,q2,e2]
     all_goals rfl
   ·rw[Kf (by decide),Ko rfl];have q1:(Xj==[111,114,100,101,114])=false:=rfl;have q2:(Xj==[98,114,101,97,107])=true:=rfl;cases hl:J8 (Zt 32 aa) with
    | none=>
     rw[hl] at e2;simp only[rlV] at e2;refine Zdg ?_;refine cE ?_;simp +contextual -implicitDefEqProofs (maxSteps:=10^7) only[go_sem,seval,↓gZ,QK,e1,q1,q2,e2]
    | some l=>
     obtain⟨⟨W,H,T,K⟩,C⟩:=l;rw[hl] at e2;simp only[rlV,QG.enc] at e2;refine⟨4,0,0,0,0,0,W,H,T,K,C,0,0,0,false,[],?_,rfl⟩;refine cE ?_;simp +contextual -implicitDefEqProofs (maxSteps:=10^7) only[go_sem,seval,↓gZ,QK,e1,q1,q2,e2]
     all_goals rfl
  have n1:¬w=Xi:=fun h=>h1 (.inl h);have n2:¬w=Xj:=fun h=>h1 (.inr h);have q1:(w==[111,114,100,101,114])=false:=by simpa [Xi] using n1
  have q2:(w==[98,114,101,97,107])=false:=by simpa [Xj] using n2
  rw[Kf n1,Kf n2];by_cases h3:w=UT
  ·rw[Ko h3];have q3:(w==[99,117,116])=true:=by rw[h3];rfl
   obtain⟨K,L,X,Y,W,H,pW,pH,pT,pK,C,o,a,q,t,ks,e3,h⟩:=Zk5 aa (by omega);refine⟨K,L,X,Y,W,H,pW,pH,pT,pK,C,o,a,q,t,ks,?_,h⟩;refine cE ?_;cases ks<;>simp +contextual -implicitDefEqProofs (maxSteps:=10^7) only[go_sem,seval,↓gZ,QK,e1,q1,q2,q3,e3]
  ·rw[Kf h3];have q3:(w==[99,117,116])=false:=by simpa [UT] using h3
   have e3:=Zaa aa 32 (by omega);have hc:(Zt 32 aa).length≤1048577:=by rw[J9];have:aa.count 32≤aa.length:=L0;omega
   generalize Zt 32 aa=ws at e3 hc;have e4:=Zab ws (by omega);have ad:List.take ws.length (List.map D.str ws)=List.map D.str ws:=Lz (by simp);rw[Zdh] at e4;cases hn:W7 ws with
   | none=>
    rw[hn] at e4;simp only[Option.map_none,rnV] at e4;refine Zdg ?_;refine cE ?_;simp +contextual -implicitDefEqProofs (maxSteps:=10^7) only[go_sem,seval,↓gZ,QK,e1,q1,q2,q3,e3,e4,ad,List.drop_zero]
   | some ns=>
    rw[hn] at e4;simp only[KP,rnV] at e4;have ae:ns.length≤1048577:=by
     have:=(Zbv hn).1;rw[this,Lj] at hc;exact hc
    simp only[KF];obtain⟨K,L,X,Y,W,H,pW,pH,pT,pK,C,o,a,q,t,ks,e5,h⟩:=Zd3 w ns (by omega);refine⟨K,L,X,Y,W,H,pW,pH,pT,pK,C,o,a,q,t,ks,?_,h⟩;refine cE ?_;cases ks<;>simp +contextual -implicitDefEqProofs (maxSteps:=10^7) only[go_sem,seval,↓gZ,QK,e1,q1,q2,q3,e3,e4,ad,List.drop_zero,e5]
 rw[Zrj];cases hi:QI 32 s with
 | none=>
  rw[hi] at e1;exact ab _ _ _ (by simp) e1
 | some i=>
  rw[hi] at e1;exact ab _ _ _ (by simp) e1
theorem UV:Ze4 .waste:=⟨by decide,rfl,by decide⟩
theorem ZsA {v:Ev} (h:v.ok):Js v.ev=some v:=by
 cases v with
 | sheet l w g=>
  obtain⟨h1,h2,h3⟩:=h;rw[Yv (b:=.waste) (by simp[Yy,Ev.ev,six,ln0];omega) (XK .waste) UV];simp[XE,Ev.ev]
 | flaw l x y w g=>
  obtain⟨h1,h2,h3,h4,h5⟩:=h;rw[Yv (b:=.waste) (by simp[Yy,Ev.ev,six,ln0];omega) (XK .waste) UV];simp[XE,Ev.ev]
 | order n=>
  obtain⟨h1,h2,h3,h4⟩:=h;simp only[six] at h1 h2 h3 h4;rw[Yv (b:=.waste) (by simp[Yy,Ev.ev,six,bx0];omega) (XK .waste) UV];simp[XE,Ev.ev]
 | cut l b=>
  obtain⟨h1,h2⟩:=h;rw[Yv (b:=b) (by simp[Yy,Ev.ev,six,bx0,ln0];omega) (XK b) h2];simp[XE,Ev.ev]
 | brk n=>
  obtain⟨h1,h2,h3,h4⟩:=h;simp only[six] at h1 h2 h3 h4;rw[Yv (b:=.waste) (by simp[Yy,Ev.ev,six,bx0];omega) (XK .waste) UV];simp[XE,Ev.ev]
 | scrap l=>
  have h1:l≤999999:=h;rw[Yv (b:=.waste) (by simp[Yy,Ev.ev,six,bx0,ln0];omega) (XK .waste) UV];simp[XE,Ev.ev]
theorem ZsB {e:Zw} {v:Ev} (hv:Js e=some v):v.ok∧v.ev.kind=e.kind:=by
 have aa:∀ n∈Yy e,six n:=Classical.byContradiction fun h=>by rw[Zd2 h] at hv;cases hv
 obtain⟨b,hb,ab⟩:∃ b,QV e.plan=some b∧Ze4 b:=Classical.byContradiction fun h=>by
  rw[Zbx (e:=e) fun b hb hp=>h ⟨b,hb,hp⟩] at hv;cases hv
 rw[Yv aa hb ab] at hv;simp only[Yy,Ke,KI,or_false,forall_eq_or_imp,forall_eq] at aa;obtain⟨n1,n2,n3,n4,n5,n6,n7,n8,n9,ae⟩:=aa;have ad:Zl7 e.line:=⟨ae,n7,n8,n9⟩
 simp only[six] at n2 n3 n4 n5 n6;unfold XE at hv;by_cases k0:e.kind=0
 ·rw[Ko k0] at hv;split at hv
  ·cases hv;exact⟨⟨by omega,by omega,by omega⟩,k0.symm⟩
  ·cases hv
 rw[Kf k0] at hv;by_cases k1:e.kind=1
 ·rw[Ko k1] at hv;cases hv;exact⟨⟨by omega,by omega,by omega,by omega,by omega⟩,k1.symm⟩
 rw[Kf k1] at hv;by_cases k2:e.kind=2
 ·rw[Ko k2] at hv;cases hv;exact⟨ad,k2.symm⟩
 rw[Kf k2] at hv;by_cases k3:e.kind=3
 ·rw[Ko k3] at hv;cases hv;exact⟨⟨by omega,ab⟩,k3.symm⟩
 rw[Kf k3] at hv;by_cases k4:e.kind=4
 ·rw[Ko k4] at hv;cases hv;exact⟨ad,k4.symm⟩
 rw[Kf k4] at hv;by_cases k5:e.kind=5
 ·rw[Ko k5] at hv;cases hv;exact⟨by show e.label.toNat≤999999;omega,k5.symm⟩
 ·rw[Kf k5] at hv;cases hv
end Go.Proofs.YtgpiffflfkoocaaDoor
