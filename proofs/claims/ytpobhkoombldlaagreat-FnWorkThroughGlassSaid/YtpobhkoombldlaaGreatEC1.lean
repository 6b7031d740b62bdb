/- Contracts of the functions,by the abstract semantics. -/
import Derived.Test.YtpobhkoombldlaaGreatECode
import Derived.Test.YtpobhkoombldlaaGreatAbsParts
namespace Go.Proofs.YtpobhkoombldlaaGreat
open Go Go.Abs Go.Abs.E Go.Abs.L
open Nat (reduceMul reduceSub reduceLeDiff reduceEqDiff)
open Int (reduceLE reduceEq reduceToNat reduceNeg)
set_option linter.unusedSimpArgs false
set_option linter.unusedVariables false
set_option maxRecDepth 20000
set_option maxHeartbeats 4000000
theorem ZQ (n lo hi:Int):Zg Xs Ms ZS [(.d (J n)),(.d (J lo)),(.d (J hi))] []=some ((.d (.bool ((decide (lo≤n∧n≤hi))))),[]):=by
 refine Zd Xs Ms ZcO Zwn (by show 3≤_;decide) ?_
 simp +contextual -implicitDefEqProofs (maxSteps:=10^7) only[go_sem,seval,↓gZ,ZcO]
theorem ZjC (bX bY bW bH:Int):Zg Xs Ms JC [(.d (.agg [J bX,J bY,J bW,J bH]))] []=some ((.d (.bool ((decide (VB (Box.mk bX bY bW bH)))))),[]):=by
 refine Zd Xs Ms ZbA ZuF (by show 1≤_;decide) ?_
 simp +contextual -implicitDefEqProofs (maxSteps:=10^7) only[go_sem,seval,↓gZ,ZbA,ZQ]
 have h1:=wi (200-bW);have h2:=wi (200-bH)
 exact Zdd (by simp only[VB];omega)
theorem YV (bX bY bW bH:Int):Zg Xs Ms Yp [(.d (.agg [J bX,J bY,J bW,J bH]))] []=some ((.d (.bool ((decide (VB (Box.mk bX bY bW bH)))))),[]):=by
 refine Zd Xs Ms Zbt Zux (by show 1≤_;decide) ?_
 simp +contextual -implicitDefEqProofs (maxSteps:=10^7) only[go_sem,seval,↓gZ,Zbt]
 have h1:=wi (200-bW);have h2:=wi (200-bH)
 exact⟨fun h=>Zhw (by simp only[VB];omega),fun h=>Zdd (by simp only[VB];omega)⟩
theorem ZrE (aX aY aW aH:Int) (bX bY bW bH:Int) (ha:VB (Box.mk aX aY aW aH)) (h1:R64 bX) (h2:R64 bY) (h3:R64 (bX+bW)) (h4:R64 (bY+bH)):Zg Xs Ms JD [(.d (.agg [J aX,J aY,J aW,J aH])),(.d (.agg [J bX,J bY,J bW,J bH]))] []=some ((.d (.bool ((decide (QP (Box.mk aX aY aW aH) (Box.mk bX bY bW bH)))))),[]):=by
 refine Zd Xs Ms ZbB ZuG (by show 2≤_;decide) ?_
 simp only[VB] at ha
 have e1:=wi (aX+aW) (by omega) (by omega);have e2:=wi (aY+aH) (by omega) (by omega);have e3:=wi (bX+bW) h3.1 h3.2;have e4:=wi (bY+bH) h4.1 h4.2
 simp +contextual -implicitDefEqProofs (maxSteps:=10^7) only[go_sem,seval,↓gZ,ZbB,e1,e2,e3,e4]
 exact Zdd (by simp only[QP];omega)
theorem ZlT (aX aY aW aH:Int) (bX bY bW bH:Int) (ha:VB (Box.mk aX aY aW aH)) (hb:VB (Box.mk bX bY bW bH)) (hm:YS (Box.mk aX aY aW aH) (Box.mk bX bY bW bH)):Zg Xs Ms UY [(.d (.agg [J aX,J aY,J aW,J aH])),(.d (.agg [J bX,J bY,J bW,J bH]))] []=some (.tup [.d (ZgD (Box.mk aX aY aW aH) (Box.mk bX bY bW bH)).enc,(.d (.bool true))],[]):=by
 refine Zd Xs Ms ZaF Zrj (by show 2≤_;decide) ?_
 simp only[VB,YS] at ha hb hm
 have e1:=wi (aX+aW) (by omega) (by omega);have e2:=wi (aY+aH) (by omega) (by omega);have e3:=wi (bX+bW) (by omega) (by omega);have e4:=wi (bY+bH) (by omega) (by omega)
 have e5:=wi (min (aX+aW) (bX+bW)-max aX bX) (by omega) (by omega)
 have e6:=wi (min (aY+aH) (bY+bH)-max aY bY) (by omega) (by omega)
 have n1:¬(min (aX+aW) (bX+bW)-max aX bX≤0):=by omega
 have n2:¬(min (aY+aH) (bY+bH)-max aY bY≤0):=by omega
 simp +contextual -implicitDefEqProofs (maxSteps:=10^7) only[go_sem,seval,↓gZ,ZaF,e1,e2,e3,e4,e5,e6,n1,n2,ZgD]
theorem ZnY (aX aY aW aH:Int) (bX bY bW bH:Int) (ha:VB (Box.mk aX aY aW aH)) (hb:VB (Box.mk bX bY bW bH)) (hm:¬YS (Box.mk aX aY aW aH) (Box.mk bX bY bW bH)):Zg Xs Ms UY [(.d (.agg [J aX,J aY,J aW,J aH])),(.d (.agg [J bX,J bY,J bW,J bH]))] []=some (.tup [.d (Box.enc ⟨0,0,0,0⟩),(.d (.bool false))],[]):=by
 refine Zd Xs Ms ZaF Zrj (by show 2≤_;decide) ?_
 simp only[VB,YS] at ha hb hm
 have e1:=wi (aX+aW) (by omega) (by omega);have e2:=wi (aY+aH) (by omega) (by omega);have e3:=wi (bX+bW) (by omega) (by omega);have e4:=wi (bY+bH) (by omega) (by omega)
 have e5:=wi (min (aX+aW) (bX+bW)-max aX bX) (by omega) (by omega)
 have e6:=wi (min (aY+aH) (bY+bH)-max aY bY) (by omega) (by omega)
 have n1:min (aX+aW) (bX+bW)-max aX bX≤0∨min (aY+aH) (bY+bH)-max aY bY≤0:=by omega
 simp +contextual -implicitDefEqProofs (maxSteps:=10^7) only[go_sem,seval,↓gZ,ZaF,e1,e2,e3,e4,e5,e6]
 omega
theorem Zdr (aX aY aW aH:Int) (bX bY bW bH:Int) (ha:VB (Box.mk aX aY aW aH)) (hb:VB (Box.mk bX bY bW bH)) (hm:YS (Box.mk aX aY aW aH) (Box.mk bX bY bW bH)):Zg Xs Ms V8 [(.d (.agg [J aX,J aY,J aW,J aH])),(.d (.agg [J bX,J bY,J bW,J bH]))] []=some (.tup [.d (ZgD (Box.mk aX aY aW aH) (Box.mk bX bY bW bH)).enc,(.d (.bool true))],[]):=by
 refine Zd Xs Ms W5 Zrd (by show 2≤_;decide) ?_
 have ha':=ha;have hb':=hb
 simp only[VB,YS] at ha' hb' hm
 have e1:=wi (aX+aW) (by omega) (by omega);have e2:=wi (aY+aH) (by omega) (by omega);have e3:=wi (bX+bW) (by omega) (by omega);have e4:=wi (bY+bH) (by omega) (by omega)
 have e5:=wi (min (aX+aW) (bX+bW)-max aX bX) (by omega) (by omega)
 have e6:=wi (min (aY+aH) (bY+bH)-max aY bY) (by omega) (by omega)
 have n1:¬(min (aX+aW) (bX+bW)≤max aX bX):=by omega
 have n2:¬(min (aY+aH) (bY+bH)≤max aY bY):=by omega
 simp +contextual -implicitDefEqProofs (maxSteps:=10^7) only[go_sem,seval,↓gZ,W5,YV,ha,hb,e1,e2,e3,e4,e5,e6,n1,n2,ZgD]
theorem ZeG (aX aY aW aH:Int) (bX bY bW bH:Int) (hm:¬(VB (Box.mk aX aY aW aH)∧VB (Box.mk bX bY bW bH)∧YS (Box.mk aX aY aW aH) (Box.mk bX bY bW bH))):Zg Xs Ms V8 [(.d (.agg [J aX,J aY,J aW,J aH])),(.d (.agg [J bX,J bY,J bW,J bH]))] []=some (.tup [.d (Box.enc ⟨0,0,0,0⟩),(.d (.bool false))],[]):=by
 refine Zd Xs Ms W5 Zrd (by show 2≤_;decide) ?_
 by_cases ha:VB (Box.mk aX aY aW aH)
 ·by_cases hb:VB (Box.mk bX bY bW bH)
  ·have ha':=ha;have hb':=hb
   simp only[ha,hb,true_and] at hm
   simp only[VB,YS] at ha' hb' hm
   have e1:=wi (aX+aW) (by omega) (by omega);have e2:=wi (aY+aH) (by omega) (by omega);have e3:=wi (bX+bW) (by omega) (by omega);have e4:=wi (bY+bH) (by omega) (by omega)
   simp +contextual -implicitDefEqProofs (maxSteps:=10^7) only[go_sem,seval,↓gZ,W5,YV,ha,hb,e1,e2,e3,e4]
   omega
  ·simp +contextual -implicitDefEqProofs (maxSteps:=10^7) only[go_sem,seval,↓gZ,W5,YV,ha,hb]
 ·simp +contextual -implicitDefEqProofs (maxSteps:=10^7) only[go_sem,seval,↓gZ,W5,YV,ha]
theorem Zcn (aX aY aW aH:Int) (bX bY bW bH:Int):Zg Xs Ms YR [(.d (.agg [J aX,J aY,J aW,J aH])),(.d (.agg [J bX,J bY,J bW,J bH]))] []=some ((.d (.bool ((decide (VB (Box.mk aX aY aW aH)∧VB (Box.mk bX bY bW bH)∧QP (Box.mk aX aY aW aH) (Box.mk bX bY bW bH)))))),[]):=by
 refine Zd Xs Ms JI Zuq (by show 2≤_;decide) ?_
 by_cases hm:VB (Box.mk aX aY aW aH)∧VB (Box.mk bX bY bW bH)∧YS (Box.mk aX aY aW aH) (Box.mk bX bY bW bH)
 ·obtain⟨ha,hb,hm⟩:=hm
  simp +contextual -implicitDefEqProofs (maxSteps:=10^7) only[go_sem,seval,↓gZ,JI,Zdr _ _ _ _ _ _ _ _ ha hb hm,ZgD]
  simp only[VB] at ha hb;simp only[YS] at hm
  exact Zdd (by simp only[VB,QP];omega)
 ·simp +contextual -implicitDefEqProofs (maxSteps:=10^7) only[go_sem,seval,↓gZ,JI,ZeG _ _ _ _ _ _ _ _ hm]
  have:¬(VB (Box.mk aX aY aW aH)∧VB (Box.mk bX bY bW bH)∧QP (Box.mk aX aY aW aH) (Box.mk bX bY bW bH)):=by
   intro⟨h1,h2,h3⟩
   refine hm ⟨h1,h2,?_⟩
   simp only[VB,QP] at h1 h2 h3
   simp only[YS]
   omega
  exact Zhw this
theorem Wr (pW pH:Int) (pT:Bool) (pK:Int):Zg Xs Ms Yq [(.d (.agg [J pW,J pH,.bool pT,J pK]))] []=some ((.d (.bool ((decide (VP (Pane.mk pW pH pT pK)))))),[]):=by
 refine Zd Xs Ms Zaf Zse (by show 1≤_;decide) ?_
 simp +contextual -implicitDefEqProofs (maxSteps:=10^7) only[go_sem,seval,↓gZ,Zaf,ZQ]
 first | exact Zdd (by simp only[VP];omega) | skip
theorem Za7 (pW pH:Int) (pT:Bool) (pK:Int):Zg Xs Ms Yo [(.d (.agg [J pW,J pH,.bool pT,J pK]))] []=some ((.d (.bool ((decide (VP (Pane.mk pW pH pT pK)))))),[]):=by
 refine Zd Xs Ms Zac Zsa (by show 1≤_;decide) ?_
 simp +contextual -implicitDefEqProofs (maxSteps:=10^7) only[go_sem,seval,↓gZ,Zac]
 first | exact Zdd (by simp only[VP];omega) | skip
def Yh:Nat→List Int→Int→Int
 | _,[],_=>-1
 | k,x :: l,n=>if x=n then (k:Int) else Yh (k+1) l n
theorem Zqj {l:List Int} {k:Nat} {x n:Int} (hx:l[k]?=some x):Yh k (l.drop k) n=if x=n then (k:Int) else Yh (k+1) (l.drop (k+1)) n:=by
 have h:=(List.getElem?_eq_some_iff.1 hx)
 obtain⟨h1,h2⟩:=h
 rw[List.drop_eq_getElem_cons h1,h2,Yh]
theorem ZlU (l:List Int) (n:Int) (hl:l.length<4611686018427387904):Zg Xs Ms ZaN [.d (.sl (l.map ZbI)),(.d (J n))] []=some ((.d (J (Yh 0 l n))),[]):=by
 refine Zd Xs Ms ZcT Zwt (by show 2≤_;decide) ?_
 simp +contextual -implicitDefEqProofs (maxSteps:=10^7) only[go_sem,seval,↓gZ,ZcT]
 refine Zr Xs Ms (st0:=?st0) (α:=Nat) (fun k=>[(5,.d (J (k:Int)))]) (fun _=>[]) (fun k=>k≤l.length∧Yh k (l.drop k) n=Yh 0 l n) (fun k=>l.length-k) 0 ?hc ⟨by omega,rfl⟩ ?h0 ?step
 case hc=>simp +contextual -implicitDefEqProofs (maxSteps:=10^7) only[go_sem,seval,↓gZ];exact rfl
 case h0=>rfl
 case step=>
  intro k ⟨hk,hp⟩ ih
  by_cases hlt:k<l.length
  ·obtain⟨x,hx⟩:=Zp hlt
   rw[Zqj hx] at hp
   have hw:=Zl (k:=k) (by omega)
   simp +contextual -implicitDefEqProofs (maxSteps:=10^7) only[go_sem,seval,↓gZ,hx,hlt,hw]
   refine⟨fun h=>?_,fun h=>ih (k+1) _ ⟨by omega,?_⟩ (by omega) ?_⟩
   ·rw[if_pos h] at hp;rw[← hp]
   ·rw[if_neg h] at hp;exact hp
   ·simp +contextual -implicitDefEqProofs (maxSteps:=10^7) only[go_sem,seval,↓gZ]
  ·have:k=l.length:=by omega
   subst this
   simp +contextual -implicitDefEqProofs (maxSteps:=10^7) only[go_sem,seval,↓gZ]
   rw[← hp]
   simp[Yh]
theorem Zqk (bs:List UInt8):Zg Xs Ms Uh [.d (.sl (bs.map ZaP))] []=some (.ptr 0 0,[.box [.d (.sl ((bs.take 2000).map ZaP)),(.d (J 0))]]):=by
 refine Zd Xs Ms Uq Zr2 (by show 1≤_;decide) ?_
 by_cases h:2000<bs.length
 ·have h1:(2000:Int)<bs.length:=by omega
  have h2:(2000:Int)≤bs.length:=by omega
  simp +contextual -implicitDefEqProofs (maxSteps:=10^7) only[go_sem,seval,↓gZ,Uq,h1,h2]
 ·have h1:¬(2000:Int)<bs.length:=by omega
  have h2:bs.take 2000=bs:=List.take_of_length_le (by omega)
  simp +contextual -implicitDefEqProofs (maxSteps:=10^7) only[go_sem,seval,↓gZ,Uq,h1,h2]
theorem Zjf (bs:List UInt8) (p:Nat) (n:Int) (hb:bs.length≤2000) (hp:p<1099511627776) :
  ∃ v:Int,Zg Xs Ms ZG [.ptr 0 0,(.d (J n))] [.box [.d (.sl (bs.map ZaP)),(.d (J p))]]=some ((.d (J v)),[.box [.d (.sl (bs.map ZaP)),(.d (J ((p+1:Nat))))]])∧0≤v∧(1≤n→v<n):=by
 have hw:=Zl (k:=p) (by omega)
 by_cases hn:n<1
 ·refine⟨0,?_,by omega,by omega⟩
  refine Zd Xs Ms QB Zax (by show 2≤_;decide) ?_
  simp +contextual -implicitDefEqProofs (maxSteps:=10^7) only[go_sem,seval,↓gZ,QB,hw,hn]
 ·by_cases hl:bs.length=0
  ·refine⟨0,?_,by omega,by omega⟩
   refine Zd Xs Ms QB Zax (by show 2≤_;decide) ?_
   simp +contextual -implicitDefEqProofs (maxSteps:=10^7) only[go_sem,seval,↓gZ,QB,hw,hn,hl]
  ·have hl' : ¬(bs.length:Int)=0:=by omega
   have hs:IntKind.i64.wrap (((p+1:Nat):Int)-1)=(p:Int):=by rw[JO (by omega) (by omega)];omega
   have hn0:¬n=0:=by omega
   by_cases hlt:p<bs.length
   ·obtain⟨x,hx⟩:=Zp hlt
    have hx2:(x.toNat:Int)<256:=by have:=x.toNat_lt;omega
    have hwx:IntKind.i64.wrap (x.toNat:Int)=(x.toNat:Int):=JO (by omega) (by omega)
    refine⟨(x.toNat:Int).tmod n,?_,Int.tmod_nonneg _ (by omega),fun _=>Int.tmod_lt_of_pos _ (by omega)⟩
    refine Zd Xs Ms QB Zax (by show 2≤_;decide) ?_
    simp +contextual -implicitDefEqProofs (maxSteps:=10^7) only[go_sem,seval,↓gZ,QB,hw,hn,hl',hs,hlt,hx,ZaP,hwx,hn0]
   ·have hlen:0<bs.length:=by omega
    obtain⟨x,hx⟩:=Zp (l:=bs) (k:=p % bs.length) (Nat.mod_lt _ hlen)
    obtain⟨y,hy⟩:=Zp (l:=bs) (k:=(p*7+3) % bs.length) (Nat.mod_lt _ hlen)
    have hx2:(x.toNat:Int)<256:=by have:=x.toNat_lt;omega
    have hy2:(y.toNat:Int)<256:=by have:=y.toNat_lt;omega
    have e1:((p:Int)).tmod (bs.length:Int)=((p % bs.length:Nat):Int):=(Int.ofNat_tmod p bs.length).symm
    have e2:IntKind.i64.wrap ((p:Int)*7)=((p*7:Nat):Int):=by rw[JO (by omega) (by omega)];omega
    have e3:IntKind.i64.wrap (((p*7:Nat):Int)+3)=((p*7+3:Nat):Int):=by rw[JO (by omega) (by omega)];omega
    have e4:((p*7+3:Nat):Int).tmod (bs.length:Int)=(((p*7+3) % bs.length:Nat):Int):=(Int.ofNat_tmod _ _).symm
    obtain⟨q,hqe,hq⟩:∃ q:Nat,q=p / bs.length∧q≤p:=⟨_,rfl,Nat.div_le_self _ _⟩
    have e5:((p:Int)).tdiv (bs.length:Int)=(q:Int):=by rw[hqe];exact(Int.ofNat_tdiv p bs.length).symm
    clear hqe
    have w1:IntKind.i64.wrap (x.toNat:Int)=(x.toNat:Int):=JO (by omega) (by omega)
    have w2:IntKind.i64.wrap (y.toNat:Int)=(y.toNat:Int):=JO (by omega) (by omega)
    have w3:=wi ((x.toNat:Int)*131) (by omega) (by omega)
    have w4:=wi ((y.toNat:Int)*1117) (by omega) (by omega)
    have w5:=wi ((x.toNat:Int)*131+(y.toNat:Int)*1117) (by omega) (by omega)
    have w6:=wi ((p:Int)*29) (by omega) (by omega)
    have w7:=wi ((x.toNat:Int)*131+(y.toNat:Int)*1117+(p:Int)*29) (by omega) (by omega)
    have w8:=wi ((q:Int)) (by omega) (by omega)
    have w9:=wi ((q:Int)*53) (by omega) (by omega)
    have w10:=wi ((x.toNat:Int)*131+(y.toNat:Int)*1117+(p:Int)*29+(q:Int)*53) (by omega) (by omega)
    obtain⟨t,ht⟩:∃ t:Int,t=(x.toNat:Int)*131+(y.toNat:Int)*1117+(p:Int)*29+(q:Int)*53:=⟨_,rfl⟩
    have ht0:0≤t:=by omega
    have ht1:t<4611686018427387904:=by omega
    have hd0:0≤t.tdiv 64:=Int.tdiv_nonneg ht0 (by omega)
    have hd1:t.tdiv 64<4611686018427387904:=by
     rw[Int.tdiv_eq_ediv_of_nonneg ht0];omega
    have w11:=wi (t.tdiv 64) (by omega) (by omega)
    obtain⟨z,hz0,hz1,hz⟩:=Zy0 ht0 ht1 hd0 hd1
    rw[← ht] at w10
    refine⟨z.tmod n,?_,Int.tmod_nonneg _ hz0,fun _=>Int.tmod_lt_of_pos _ (by omega)⟩
    have hxb:ZaR .xor .i64 .i64 t (t.tdiv 64)=some (.d (J z)):=by simp only[ZaR,JP,asD,Zj,if_true,hz]
    refine Zd Xs Ms QB Zax (by show 2≤_;decide) ?_
    simp +contextual -implicitDefEqProofs (maxSteps:=10^7) only[go_sem,seval,↓gZ,QB,hw,hn,hl',hs,hlt,ZaP,hn0,e1,e2,e3,e4,e5,hx,hy,w1,w2,w3,w4,w5,w6,w7,w8,w9,w10,← ht,w11,hxb]
open Classical in
noncomputable def Xr (bs:List UInt8) (p:Nat) (n:Int):Int:=if h:bs.length≤2000∧p<1099511627776 then (Zjf bs p n h.1 h.2).choose else 0
theorem QC (bs:List UInt8) (p:Nat) (n:Int) (hb:bs.length≤2000) (hp:p<1099511627776) :
  Zg Xs Ms ZG [.ptr 0 0,(.d (J n))] [.box [.d (.sl (bs.map ZaP)),(.d (J p))]]=some ((.d (J (Xr bs p n))),[.box [.d (.sl (bs.map ZaP)),(.d (J ((p+1:Nat))))]]):=by
 have h:bs.length≤2000∧p<1099511627776:=⟨hb,hp⟩
 unfold Xr
 rw[dif_pos h]
 exact(Zjf bs p n hb hp).choose_spec.1
theorem Zco (bs:List UInt8) (p:Nat) (n:Int):0≤Xr bs p n:=by
 unfold Xr
 split
 ·rename_i h;exact(Zjf bs p n h.1 h.2).choose_spec.2.1
 ·omega
theorem Zjg (bs:List UInt8) (p:Nat) (n:Int) (hn:1≤n):Xr bs p n<n:=by
 unfold Xr
 split
 ·rename_i h;exact(Zjf bs p n h.1 h.2).choose_spec.2.2 hn
 ·omega
theorem Zec (bs:List UInt8) (p:Nat) (l:List Int) (hb:bs.length≤2000) (hp:p<1099511627776) (hl:1≤l.length) :
  ∃ v:Int,v∈l∧Zg Xs Ms Xb [.ptr 0 0,.d (.sl (l.map ZbI))] [.box [.d (.sl (bs.map ZaP)),(.d (J p))]]=some ((.d (J v)),[.box [.d (.sl (bs.map ZaP)),(.d (J ((p+1:Nat))))]]):=by
 have h0:=Zco bs p l.length
 have h1:=Zjg bs p l.length (by omega)
 obtain⟨i,hi⟩:∃ i:Nat,Xr bs p (l.length:Int)=(i:Int):=⟨(Xr bs p (l.length:Int)).toNat,by omega⟩
 obtain⟨v,hv⟩:=Zp (l:=l) (k:=i) (by omega)
 refine⟨v,List.mem_of_getElem? hv,?_⟩
 refine Zd Xs Ms U0 Zq3 (by show 2≤_;decide) ?_
 simp +contextual -implicitDefEqProofs (maxSteps:=10^7) only[go_sem,seval,↓gZ,U0,QC bs p _ hb hp,hi,hv]
theorem XO (pO pA pP:Int) (pT:Bool) (pK:List D):Zg Xs Ms Zcd [.d (.agg [J pO,J pA,J pP,.bool pT,.sl pK])] []=some ((.d (.bool (decide (pO=2∨pO=3)))),[]):=by
 refine Zd Xs Ms ZfR Zzy (by show 1≤_;decide) ?_
 simp +contextual -implicitDefEqProofs (maxSteps:=10^7) only[go_sem,seval,↓gZ,ZfR]
theorem UM (pO pA pP:Int) (pT:Bool) (pK:List D):Zg Xs Ms ZdK [.d (.agg [J pO,J pA,J pP,.bool pT,.sl pK])] []=some ((.d (.bool (decide (pO=2∨pO=3)))),[]):=by
 refine Zd Xs Ms ZfQ Zzx (by show 1≤_;decide) ?_
 simp +contextual -implicitDefEqProofs (maxSteps:=10^7) only[go_sem,seval,↓gZ,ZfQ]
theorem Zed:∀ (n:Nat) (p:Zh),p.nodes≤n→Zg Xs Ms VR [.d p.enc] []=some ((.d (J (ZE 255 (Y1 p)))),[])
 | 0,.mk o a p t ks,hn=>by simp[Zh.nodes] at hn
 | n+1,.mk o a p t ks,hn=>by
  by_cases ho:o=2∨o=3
  ·by_cases hk:ks.length=2
   ·obtain⟨x,hx⟩:=Zp (l:=ks) (k:=0) (by omega)
    obtain⟨y,hy⟩:=Zp (l:=ks) (k:=1) (by omega)
    have ihx:=Zed n x (Zi7 hn hx)
    have ihy:=Zed n y (Zi7 hn hy)
    rw[ZsR ho hk hx hy]
    obtain⟨lx,hlx⟩:∃ l,l=Y1 x:=⟨_,rfl⟩
    obtain⟨ly,hly⟩:∃ l,l=Y1 y:=⟨_,rfl⟩
    rw[← hlx] at ihx ⊢
    rw[← hly] at ihy ⊢
    have rx:=Zdp 255 (by omega) lx
    have ry:=Zdp 255 (by omega) ly
    have hk2:(ks.length:Int)=2:=by omega
    by_cases hp:p=0
    ·cases t with
     | true=>
      have hb:=Zgh 255 o a p true lx ly (by simp)
      rw[hb]
      refine Zd Xs Ms ZR XQ (by show 1≤_;decide) ?_
      simp +contextual -implicitDefEqProofs (maxSteps:=10^7) only[go_sem,seval,↓gZ,ZR,XO,ho,hp]
     | false=>
      subst hp
      rw[Zw9]
      obtain⟨sx,hsx⟩:∃ s,s=ZE 255 lx:=⟨_,rfl⟩
      obtain⟨sy,hsy⟩:∃ s,s=ZE 255 ly:=⟨_,rfl⟩
      rw[← hsx] at ihx rx ⊢
      rw[← hsy] at ihy ry ⊢
      have w1:=wi (1+sx) (by omega) (by omega)
      have w2:=wi (1+sx+sy) (by omega) (by omega)
      refine Zd Xs Ms ZR XQ (by show 1≤_;decide) ?_
      simp +contextual -implicitDefEqProofs (maxSteps:=10^7) only[go_sem,seval,↓gZ,ZR,XO,ho,hk2]
      refine ZU Xs Ms ?_
      simp +contextual -implicitDefEqProofs (maxSteps:=10^7) only[go_sem,seval,↓gZ,hk2,hx,hy,ihx,ihy,w1,w2]
      intro h
      refine ZU Xs Ms ?_
      simp +contextual -implicitDefEqProofs (maxSteps:=10^7) only[go_sem,seval,↓gZ,hk2,hx,hy,ihx,ihy,w1,w2,h]
      intro h'
      refine ZU Xs Ms ?_
      simp +contextual -implicitDefEqProofs (maxSteps:=10^7) only[go_sem,seval,↓gZ,hk2,hx,hy,ihx,ihy,w1,w2,h,h']
    ·have hb:=Zgh 255 o a p t lx ly (by simp[hp])
     rw[hb]
     refine Zd Xs Ms ZR XQ (by show 1≤_;decide) ?_
     simp +contextual -implicitDefEqProofs (maxSteps:=10^7) only[go_sem,seval,↓gZ,ZR,XO,ho,hp]
   ·rw[ZmQ _ _ _ _ _ ho hk]
    refine Zd Xs Ms ZR XQ (by show 1≤_;decide) ?_
    have hk' : ¬(ks.length:Int)=2:=by omega
    simp +contextual -implicitDefEqProofs (maxSteps:=10^7) only[go_sem,seval,↓gZ,ZR,XO,ho,hk',ZE]
  ·rw[ZpQ ho]
   by_cases h1:ks.length=0∧a=0∧o=1
   ·rw[if_pos h1]
    obtain⟨h1,rfl,rfl⟩:=h1
    refine Zd Xs Ms ZR XQ (by show 1≤_;decide) ?_
    simp +contextual -implicitDefEqProofs (maxSteps:=10^7) only[go_sem,seval,↓gZ,ZR,XO,ho,h1,ZE,BT.cnt]
    refine ZU Xs Ms ?_
    simp +contextual -implicitDefEqProofs (maxSteps:=10^7) only[go_sem,seval,↓gZ,h1]
   ·rw[if_neg h1]
    by_cases h2:ks.length=0∧a=0∧o=0∧p=0∧t=false
    ·rw[if_pos h2]
     obtain⟨h2,rfl,rfl,rfl,rfl⟩:=h2
     refine Zd Xs Ms ZR XQ (by show 1≤_;decide) ?_
     simp +contextual -implicitDefEqProofs (maxSteps:=10^7) only[go_sem,seval,↓gZ,ZR,XO,ho,h2,ZE,BT.cnt]
     refine ZU Xs Ms ?_
     simp +contextual -implicitDefEqProofs (maxSteps:=10^7) only[go_sem,seval,↓gZ,h2]
    ·rw[if_neg h2]
     by_cases c1:ks.length=0
     ·by_cases c2:a=0
      ·by_cases c3:o=1
       ·exact absurd ⟨c1,c2,c3⟩ h1
       ·by_cases c4:o=0
        ·by_cases c5:p=0
         ·cases t with
          | false=>exact absurd ⟨c1,c2,c4,c5,rfl⟩ h2
          | true=>
           refine Zd Xs Ms ZR XQ (by show 1≤_;decide) ?_
           simp +contextual -implicitDefEqProofs (maxSteps:=10^7) only[go_sem,seval,↓gZ,ZR,XO,ho,c1,c2,c3,c4,c5,ZE]
         ·refine Zd Xs Ms ZR XQ (by show 1≤_;decide) ?_
          simp +contextual -implicitDefEqProofs (maxSteps:=10^7) only[go_sem,seval,↓gZ,ZR,XO,ho,c1,c2,c3,c4,c5,ZE]
        ·refine Zd Xs Ms ZR XQ (by show 1≤_;decide) ?_
         simp +contextual -implicitDefEqProofs (maxSteps:=10^7) only[go_sem,seval,↓gZ,ZR,XO,ho,c1,c2,c3,c4,ZE]
      ·refine Zd Xs Ms ZR XQ (by show 1≤_;decide) ?_
       simp +contextual -implicitDefEqProofs (maxSteps:=10^7) only[go_sem,seval,↓gZ,ZR,XO,ho,c1,c2,ZE]
     ·have c1' : ¬(ks.length:Int)=0:=by omega
      refine Zd Xs Ms ZR XQ (by show 1≤_;decide) ?_
      simp +contextual -implicitDefEqProofs (maxSteps:=10^7) only[go_sem,seval,↓gZ,ZR,XO,ho,c1',ZE]
theorem ZrF (p:Zh):Zg Xs Ms VR [.d p.enc] []=some ((.d (J (ZE 255 (Y1 p)))),[]):=Zed _ p (Nat.le_refl _)
theorem Zom (ps:List Pane) (hl:ps.length<4611686018427387904):Zg Xs Ms Wz [(.d (.sl (ps.map Pane.enc)))] []=some ((.d (.bool (decide (ps.length≤24∧VPs ps)))),[]):=by
 refine Zd Xs Ms Jf Zrm (by show 1≤_;decide) ?_
 simp +contextual -implicitDefEqProofs (maxSteps:=10^7) only[go_sem,seval,↓gZ,Jf]
 refine Zr Xs Ms (st0:=?st0) (α:=Nat) (fun k=>[(3,.d (J (k:Int)))]) (fun _=>[]) (fun k=>k≤ps.length∧(VPs ps↔VPs (ps.drop k))) (fun k=>ps.length-k) 0 ?hc ⟨by omega,by simp⟩ ?h0 ?step
 case hc=>simp +contextual -implicitDefEqProofs (maxSteps:=10^7) only[go_sem,seval,↓gZ];exact rfl
 case h0=>rfl
 case step=>
  intro k ⟨hk,hp⟩ ih
  by_cases hlt:k<ps.length
  ·obtain⟨x,hx⟩:=Zp hlt
   rw[ZvB hx] at hp
   have hw:=Zl (k:=k) (by omega)
   simp +contextual -implicitDefEqProofs (maxSteps:=10^7) only[go_sem,seval,↓gZ,hx,hlt,hw,Wr]
   refine⟨fun h=>Zhw (fun hh=>h (hp.1 hh.2).1),fun h=>ih (k+1) _ ⟨by omega,?_⟩ (by omega) ?_⟩
   ·rw[hp];exact⟨fun hh=>hh.2,fun hh=>⟨h,hh⟩⟩
   ·simp +contextual -implicitDefEqProofs (maxSteps:=10^7) only[go_sem,seval,↓gZ]
  ·have:k=ps.length:=by omega
   subst this
   simp +contextual -implicitDefEqProofs (maxSteps:=10^7) only[go_sem,seval,↓gZ]
   have hv:VPs ps:=hp.2 (by simp[VPs])
   exact Zdd ⟨fun h=>⟨by omega,hv⟩,fun h=>by omega⟩
theorem Za8 (kW kH:Int) (kP:List Pane) (hl:kP.length<4611686018427387904):Zg Xs Ms Up [(.d (.agg [J kW,J kH,.sl (kP.map Pane.enc)]))] []=some ((.d (.bool (decide (VW (ZD.mk kW kH kP))))),[]):=by
 refine Zd Xs Ms Zal Zsk (by show 1≤_;decide) ?_
 simp +contextual -implicitDefEqProofs (maxSteps:=10^7) only[go_sem,seval,↓gZ,Zal,ZQ,Zom kP hl]
 exact Zdd (by simp only[VW,and_assoc])
theorem UN (kW kH:Int) (kP:List Pane):Zg Xs Ms V6 [(.d (.agg [J kW,J kH,.sl (kP.map Pane.enc)]))] []=some ((.d (.bool (decide (VW (ZD.mk kW kH kP))))),[]):=by
 refine Zd Xs Ms Ur Zsd (by show 1≤_;decide) ?_
 by_cases h0:((((kW<1∨200<kW)∨kH<1)∨200<kH)∨(24:Int)<kP.length)
 ·simp +contextual -implicitDefEqProofs (maxSteps:=10^7) only[go_sem,seval,↓gZ,Ur,h0]
  exact Zhw (by simp only[VW];omega)
 ·simp +contextual -implicitDefEqProofs (maxSteps:=10^7) only[go_sem,seval,↓gZ,Ur,h0]
  refine Zr Xs Ms (st0:=?st0) (α:=Nat) (fun k=>[(32,.d (J (k:Int)))]) (fun _=>[]) (fun k=>k≤kP.length∧(VPs kP↔VPs (kP.drop k))) (fun k=>kP.length-k) 0 ?hc ⟨by omega,by simp⟩ ?h0 ?step
  case hc=>simp +contextual -implicitDefEqProofs (maxSteps:=10^7) only[go_sem,seval,↓gZ];exact rfl
  case h0=>rfl
  case step=>
   intro k ⟨hk,hp⟩ ih
   by_cases hlt:k<kP.length
   ·obtain⟨x,hx⟩:=Zp hlt
    rw[ZvB hx] at hp
    have hw:=Zl (k:=k) (by omega)
    simp +contextual -implicitDefEqProofs (maxSteps:=10^7) only[go_sem,seval,↓gZ,hx,hlt,hw,Za7]
    refine⟨fun h=>Zhw (fun hh=>h (hp.1 hh.2.2.2.2.2).1),fun h=>ih (k+1) _ ⟨by omega,?_⟩ (by omega) ?_⟩
    ·rw[hp];exact⟨fun hh=>hh.2,fun hh=>⟨h,hh⟩⟩
    ·simp +contextual -implicitDefEqProofs (maxSteps:=10^7) only[go_sem,seval,↓gZ,h0]
   ·have:k=kP.length:=by omega
    subst this
    simp +contextual -implicitDefEqProofs (maxSteps:=10^7) only[go_sem,seval,↓gZ]
    have hv:VPs kP:=hp.2 (by simp[VPs])
    exact Zx9 (by simp only[VW];exact⟨by omega,by omega,by omega,by omega,by omega,hv⟩)
theorem Zb1:∀ (n:Nat) (p:Zh),p.nodes≤n→∀ m:Int,-10≤m→m≤255→Zg Xs Ms Yy [.d p.enc,(.d (J m))] []=some ((.d (J (ZE m (Y1 p)))),[])
 | 0,.mk o a p t ks,hn,m,_,_=>by simp[Zh.nodes] at hn
 | n+1,.mk o a p t ks,hn,m,hm1,hm2=>by
  by_cases hm:m<1
  ·rw[Zxa hm]
   refine Zd Xs Ms Zs Qz (by show 2≤_;decide) ?_
   simp +contextual -implicitDefEqProofs (maxSteps:=10^7) only[go_sem,seval,↓gZ,Zs,hm]
  by_cases ho:o=2∨o=3
  ·have ho0:¬o=0:=by omega
   have ho1:¬o=1:=by omega
   by_cases hk:ks.length=2
   ·obtain⟨x,hx⟩:=Zp (l:=ks) (k:=0) (by omega)
    obtain⟨y,hy⟩:=Zp (l:=ks) (k:=1) (by omega)
    rw[ZsR ho hk hx hy]
    have hk2:(ks.length:Int)=2:=by omega
    by_cases hp:p=0
    ·cases t with
     | true=>
      have hb:=Zgh m o a p true (Y1 x) (Y1 y) (by simp)
      rw[hb]
      refine Zd Xs Ms Zs Qz (by show 2≤_;decide) ?_
      rcases ho with ho | ho<;>simp +contextual -implicitDefEqProofs (maxSteps:=10^7) only[go_sem,seval,↓gZ,Zs,ho,hp,hm,hk2]
     | false=>
      subst hp
      rw[ZvA]
      have ihx:=Zb1 n x (Zi7 hn hx) (m-1) (by omega) (by omega)
      have rx:=Zdp (m-1) (by omega) (Y1 x)
      have ihy:=Zb1 n y (Zi7 hn hy) (m-1-ZE (m-1) (Y1 x)) (by omega) (by omega)
      have ry:=Zdp (m-1-ZE (m-1) (Y1 x)) (by omega) (Y1 y)
      obtain⟨sy,hsy⟩:∃ s,s=ZE (m-1-ZE (m-1) (Y1 x)) (Y1 y):=⟨_,rfl⟩
      rw[← hsy] at ihy ry ⊢
      obtain⟨sx,hsx⟩:∃ s,s=ZE (m-1) (Y1 x):=⟨_,rfl⟩
      rw[← hsx] at ihx ihy rx ry ⊢
      clear hsx hsy
      have w0:=wi (m-1) (by omega) (by omega)
      have w1:=wi (m-1-sx) (by omega) (by omega)
      have w2:=wi (1+sx) (by omega) (by omega)
      have w3:=wi (1+sx+sy) (by omega) (by omega)
      refine Zd Xs Ms Zs Qz (by show 2≤_;decide) ?_
      rcases ho with ho | ho<;>simp +contextual -implicitDefEqProofs (maxSteps:=10^7) only[go_sem,seval,↓gZ,Zs,ho,hm,hk2,hx,hy,ihx,ihy,w0,w1,w2,w3]
    ·have hb:=Zgh m o a p t (Y1 x) (Y1 y) (by simp[hp])
     rw[hb]
     refine Zd Xs Ms Zs Qz (by show 2≤_;decide) ?_
     rcases ho with ho | ho<;>simp +contextual -implicitDefEqProofs (maxSteps:=10^7) only[go_sem,seval,↓gZ,Zs,ho,hp,hm,hk2]
   ·rw[ZmQ _ _ _ _ _ ho hk]
    have hk' : ¬(ks.length:Int)=2:=by omega
    refine Zd Xs Ms Zs Qz (by show 2≤_;decide) ?_
    rcases ho with ho | ho<;>simp +contextual -implicitDefEqProofs (maxSteps:=10^7) only[go_sem,seval,↓gZ,Zs,ho,hk',hm,ZE]
  ·rw[ZpQ ho]
   have h2' : ¬o=2:=by omega
   have h3' : ¬o=3:=by omega
   have hm' : (1:Int)≤m:=by omega
   by_cases h1:ks.length=0∧a=0∧o=1
   ·rw[if_pos h1]
    obtain⟨h1,rfl,rfl⟩:=h1
    refine Zd Xs Ms Zs Qz (by show 2≤_;decide) ?_
    simp +contextual -implicitDefEqProofs (maxSteps:=10^7) only[go_sem,seval,↓gZ,Zs,h1,hm,ZE,BT.cnt,hm']
   ·rw[if_neg h1]
    by_cases h2:ks.length=0∧a=0∧o=0∧p=0∧t=false
    ·rw[if_pos h2]
     obtain⟨h2,rfl,rfl,rfl,rfl⟩:=h2
     refine Zd Xs Ms Zs Qz (by show 2≤_;decide) ?_
     simp +contextual -implicitDefEqProofs (maxSteps:=10^7) only[go_sem,seval,↓gZ,Zs,h2,hm,ZE,BT.cnt,hm']
    ·rw[if_neg h2]
     by_cases c1:ks.length=0
     ·by_cases c2:a=0
      ·by_cases c3:o=1
       ·exact absurd ⟨c1,c2,c3⟩ h1
       ·by_cases c4:o=0
        ·by_cases c5:p=0
         ·cases t with
          | false=>exact absurd ⟨c1,c2,c4,c5,rfl⟩ h2
          | true=>
           refine Zd Xs Ms Zs Qz (by show 2≤_;decide) ?_
           simp +contextual -implicitDefEqProofs (maxSteps:=10^7) only[go_sem,seval,↓gZ,Zs,hm,c1,c2,c3,c4,c5,ZE]
         ·refine Zd Xs Ms Zs Qz (by show 2≤_;decide) ?_
          simp +contextual -implicitDefEqProofs (maxSteps:=10^7) only[go_sem,seval,↓gZ,Zs,hm,c1,c2,c3,c4,c5,ZE]
        ·refine Zd Xs Ms Zs Qz (by show 2≤_;decide) ?_
         simp +contextual -implicitDefEqProofs (maxSteps:=10^7) only[go_sem,seval,↓gZ,Zs,hm,c1,c2,c3,c4,h2',h3',ZE]
      ·refine Zd Xs Ms Zs Qz (by show 2≤_;decide) ?_
       by_cases c3:o=1
       ·simp +contextual -implicitDefEqProofs (maxSteps:=10^7) only[go_sem,seval,↓gZ,Zs,hm,c1,c2,c3,ZE]
       ·by_cases c4:o=0
        ·simp +contextual -implicitDefEqProofs (maxSteps:=10^7) only[go_sem,seval,↓gZ,Zs,hm,c1,c2,c3,c4,ZE]
        ·simp +contextual -implicitDefEqProofs (maxSteps:=10^7) only[go_sem,seval,↓gZ,Zs,hm,c1,c2,c3,c4,h2',h3',ZE]
     ·have c1' : ¬(ks.length:Int)=0:=by omega
      refine Zd Xs Ms Zs Qz (by show 2≤_;decide) ?_
      by_cases c3:o=1
      ·simp +contextual -implicitDefEqProofs (maxSteps:=10^7) only[go_sem,seval,↓gZ,Zs,hm,c1',c3,ZE]
      ·by_cases c4:o=0
       ·simp +contextual -implicitDefEqProofs (maxSteps:=10^7) only[go_sem,seval,↓gZ,Zs,hm,c1',c3,c4,ZE]
       ·simp +contextual -implicitDefEqProofs (maxSteps:=10^7) only[go_sem,seval,↓gZ,Zs,hm,c1',c3,c4,h2',h3',ZE]
theorem ZrG (p:Zh):Zg Xs Ms Jv [.d p.enc] []=some ((.d (J (ZE 255 (Y1 p)))),[]):=by
 have h:=Zb1 _ p (Nat.le_refl _) 255 (by omega) (by omega)
 obtain⟨o,a,q,t,ks⟩:=p
 rw[Zh.enc_mk] at h ⊢
 refine Zd Xs Ms Zbu Zuy (by show 1≤_;decide) ?_
 simp +contextual -implicitDefEqProofs (maxSteps:=10^7) only[go_sem,seval,↓gZ,Zbu,h]
theorem Zds (kW kH:Int) (kP:List Pane):Zg Xs Ms VK [(.d (.agg [J kW,J kH,.sl (kP.map Pane.enc)]))] []=some (.d (.agg [J 0,J 0,J kW,J kH]),[]):=by
 refine Zd Xs Ms ZcN Zwm (by show 1≤_;decide) ?_
 simp +contextual -implicitDefEqProofs (maxSteps:=10^7) only[go_sem,seval,↓gZ,ZcN]
theorem ZjD {ps:List Pane} {i:Int} {t:Bool} {w h:Int} {k:Nat} {q:Pane} (hi:i=(k:Int)) (hq:ps[k]?=some q):YL ps i t w h=if t then q.Turns&&decide (¬q.W=q.H)&&decide (q.H=w)&&decide (q.W=h) else decide (q.W=w∧q.H=h):=by
 subst hi
 simp[YL,hq]
theorem Zgt {ps:List Pane} {i:Int} {t:Bool} {w h:Int} (hi:i<0∨(ps.length:Int)≤i):YL ps i t w h=false:=by
 unfold YL
 rcases hi with hi | hi
 ·have:¬0≤i:=by omega
  simp[this]
 ·have:ps[i.toNat]?=none:=List.getElem?_eq_none (by omega)
  simp[this]
theorem ZhS (kW kH:Int) (kP:List Pane) (i:Int) (t:Bool) (w h:Int):Zg Xs Ms V7 [(.d (.agg [J kW,J kH,.sl (kP.map Pane.enc)])),(.d (J i)),(.d (.bool t)),(.d (J w)),(.d (J h))] []=some ((.d (.bool (YL kP i t w h))),[]):=by
 by_cases h0:i<0
 ·rw[Zgt (.inl h0)]
  refine Zd Xs Ms XK Zfa (by show 5≤_;decide) ?_
  simp +contextual -implicitDefEqProofs (maxSteps:=10^7) only[go_sem,seval,↓gZ,XK,h0]
 ·by_cases h1:(kP.length:Int)≤i
  ·rw[Zgt (.inr h1)]
   refine Zd Xs Ms XK Zfa (by show 5≤_;decide) ?_
   simp +contextual -implicitDefEqProofs (maxSteps:=10^7) only[go_sem,seval,↓gZ,XK,h0,h1]
  ·obtain⟨n,rfl⟩:∃ n:Nat,i=(n:Int):=⟨i.toNat,by omega⟩
   obtain⟨q,hq⟩:=Zp (l:=kP) (k:=n) (by omega)
   have hn:¬kP.length≤n:=by omega
   have hn' : n<kP.length:=by omega
   have hn0:¬(n:Int)<0:=by omega
   rw[ZjD rfl hq]
   refine Zd Xs Ms XK Zfa (by show 5≤_;decide) ?_
   cases t
   ·simp +contextual -implicitDefEqProofs (maxSteps:=10^7) only[go_sem,seval,↓gZ,XK,hn0,hn,hq,hn']
   ·simp +contextual -implicitDefEqProofs (maxSteps:=10^7) only[go_sem,seval,↓gZ,XK,hn0,hn,hq,hn']
theorem Zc3 (o a p:Int) (t:Bool) (ks:List D) (gX gY gW gH:Int) (ho:o=2) (h1:R64 (gX+a)) (h2:R64 (gW-a)):Zg Xs Ms Ys [.d (.agg [J o,J a,J p,.bool t,.sl ks]),(.d (.agg [J gX,J gY,J gW,J gH]))] [] =
  some (.tup [.d (.agg [J gX,J gY,J a,J gH]),.d (.agg [J (gX+a),J gY,J (gW-a),J gH])],[]):=by
 have w1:=wi (gX+a) h1.1 h1.2
 have w2:=wi (gW-a) h2.1 h2.2
 refine Zd Xs Ms X2 Zdz (by show 2≤_;decide) ?_
 simp +contextual -implicitDefEqProofs (maxSteps:=10^7) only[go_sem,seval,↓gZ,X2,ho,w1,w2]
theorem Za9 (o a p:Int) (t:Bool) (ks:List D) (gX gY gW gH:Int) (ho:¬o=2) (h1:R64 (gY+a)) (h2:R64 (gH-a)):Zg Xs Ms Ys [.d (.agg [J o,J a,J p,.bool t,.sl ks]),(.d (.agg [J gX,J gY,J gW,J gH]))] [] =
  some (.tup [.d (.agg [J gX,J gY,J gW,J a]),.d (.agg [J gX,J (gY+a),J gW,J (gH-a)])],[]):=by
 have w1:=wi (gY+a) h1.1 h1.2
 have w2:=wi (gH-a) h2.1 h2.2
 refine Zd Xs Ms X2 Zdz (by show 2≤_;decide) ?_
 simp +contextual -implicitDefEqProofs (maxSteps:=10^7) only[go_sem,seval,↓gZ,X2,ho,w1,w2]
def inB (g:Box):Prop:=0≤g.X∧0≤g.Y∧0≤g.W∧0≤g.H∧g.X+g.W≤1000∧g.Y+g.H≤1000
theorem J0 (kW kH:Int) (kP:List Pane):∀ (b:BT) (gX gY gW gH:Int),inB (Box.mk gX gY gW gH)→Zg Xs Ms VO [(.d (.agg [J kW,J kH,.sl (kP.map Pane.enc)])),.d b.plan.enc,(.d (.agg [J gX,J gY,J gW,J gH]))] []=some ((.d (.bool (YM kP b gW gH))),[])
 | .waste,gX,gY,gW,gH,hg=>by
  simp only[BT.plan,Zh.enc_mk]
  refine Zd Xs Ms Z6 VH (by show 3≤_;decide) ?_
  simp +contextual -implicitDefEqProofs (maxSteps:=10^7) only[go_sem,seval,↓gZ,Z6,YM]
 | .pane i t,gX,gY,gW,gH,hg=>by
  simp only[BT.plan,Zh.enc_mk]
  refine Zd Xs Ms Z6 VH (by show 3≤_;decide) ?_
  simp +contextual -implicitDefEqProofs (maxSteps:=10^7) only[go_sem,seval,↓gZ,Z6,ZhS,YM]
 | .cut d a l r,gX,gY,gW,gH,hg=>by
  simp only[inB] at hg
  simp only[BT.plan,Zh.enc_mk]
  cases d with
  | true=>
   by_cases h1:a<1
   ·have h2:¬(1≤a∧a≤gW-1):=by omega
    refine Zd Xs Ms Z6 VH (by show 3≤_;decide) ?_
    simp +contextual -implicitDefEqProofs (maxSteps:=10^7) only[go_sem,seval,↓gZ,Z6,YM,QF,h1,h2]
   ·by_cases h2:gW≤a
    ·have h3:¬(1≤a∧a≤gW-1):=by omega
     refine Zd Xs Ms Z6 VH (by show 3≤_;decide) ?_
     simp +contextual -implicitDefEqProofs (maxSteps:=10^7) only[go_sem,seval,↓gZ,Z6,YM,QF,h1,h2,h3]
    ·have h3:1≤a∧a≤gW-1:=by omega
     have e0:=Zc3 2 a 0 false [l.plan.enc,r.plan.enc] gX gY gW gH rfl ⟨by omega,by omega⟩ ⟨by omega,by omega⟩
     have e1:=J0 kW kH kP l gX gY a gH (by simp only[inB];omega)
     have e2:=J0 kW kH kP r (gX+a) gY (gW-a) gH (by simp only[inB];omega)
     refine Zd Xs Ms Z6 VH (by show 3≤_;decide) ?_
     simp +contextual -implicitDefEqProofs (maxSteps:=10^7) only[go_sem,seval,↓gZ,Z6,YM,QF,h1,h2,h3,e0,e1,e2]
  | false=>
   by_cases h1:a<1
   ·have h2:¬(1≤a∧a≤gH-1):=by omega
    refine Zd Xs Ms Z6 VH (by show 3≤_;decide) ?_
    simp +contextual -implicitDefEqProofs (maxSteps:=10^7) only[go_sem,seval,↓gZ,Z6,YM,QF,h1,h2]
   ·by_cases h2:gH≤a
    ·have h3:¬(1≤a∧a≤gH-1):=by omega
     refine Zd Xs Ms Z6 VH (by show 3≤_;decide) ?_
     simp +contextual -implicitDefEqProofs (maxSteps:=10^7) only[go_sem,seval,↓gZ,Z6,YM,QF,h1,h2,h3]
    ·have h3:1≤a∧a≤gH-1:=by omega
     have e0:=Za9 3 a 0 false [l.plan.enc,r.plan.enc] gX gY gW gH (by decide) ⟨by omega,by omega⟩ ⟨by omega,by omega⟩
     have e1:=J0 kW kH kP l gX gY gW a (by simp only[inB];omega)
     have e2:=J0 kW kH kP r gX (gY+a) gW (gH-a) (by simp only[inB];omega)
     refine Zd Xs Ms Z6 VH (by show 3≤_;decide) ?_
     simp +contextual -implicitDefEqProofs (maxSteps:=10^7) only[go_sem,seval,↓gZ,Z6,YM,QF,h1,h2,h3,e0,e1,e2]
theorem Zon (kW kH:Int) (kP:List Pane) (i:Int) (t:Bool) (w h:Int) (hl:kP.length<4611686018427387904):Zg Xs Ms XW [(.d (.agg [J kW,J kH,.sl (kP.map Pane.enc)])),.d (BT.pane i t).plan.enc,(.d (J w)),(.d (J h))] []=some ((.d (.bool (YL kP i t w h))),[]):=by
 have hw:=wi ((kP.length:Int)-1) (by omega) (by omega)
 simp only[BT.plan,Zh.enc_mk]
 by_cases h0:0≤i∧i≤(kP.length:Int)-1
 ·obtain⟨n,rfl⟩:∃ n:Nat,i=(n:Int):=⟨i.toNat,by omega⟩
  obtain⟨q,hq⟩:=Zp (l:=kP) (k:=n) (by omega)
  rw[ZjD rfl hq]
  refine Zd Xs Ms Qe WS (by show 4≤_;decide) ?_
  cases t
  ·simp +contextual -implicitDefEqProofs (maxSteps:=10^7) only[go_sem,seval,↓gZ,Qe,ZQ,h0,hw,hq]
  ·simp +contextual -implicitDefEqProofs (maxSteps:=10^7) only[go_sem,seval,↓gZ,Qe,ZQ,h0,hw,hq]
 ·rw[Zgt (by omega)]
  refine Zd Xs Ms Qe WS (by show 4≤_;decide) ?_
  simp +contextual -implicitDefEqProofs (maxSteps:=10^7) only[go_sem,seval,↓gZ,Qe,ZQ,h0,hw]
theorem J1 (kW kH:Int) (kP:List Pane) (hl:kP.length<4611686018427387904):∀ (b:BT) (w h:Int),0≤w→w≤1000→0≤h→h≤1000→Zg Xs Ms XW [(.d (.agg [J kW,J kH,.sl (kP.map Pane.enc)])),.d b.plan.enc,(.d (J w)),(.d (J h))] []=some ((.d (.bool (YM kP b w h))),[])
 | .waste,w,h,hw0,hw1,hh0,hh1=>by
  simp only[BT.plan,Zh.enc_mk]
  refine Zd Xs Ms Qe WS (by show 4≤_;decide) ?_
  simp +contextual -implicitDefEqProofs (maxSteps:=10^7) only[go_sem,seval,↓gZ,Qe,YM]
 | .pane i t,w,h,hw0,hw1,hh0,hh1=>Zon kW kH kP i t w h hl
 | .cut d a l r,w,h,hw0,hw1,hh0,hh1=>by
  have w1:=wi (w-1) (by omega) (by omega)
  have w2:=wi (h-1) (by omega) (by omega)
  simp only[BT.plan,Zh.enc_mk]
  cases d with
  | true=>
   by_cases h3:1≤a∧a≤w-1
   ·have w3:=wi (w-a) (by omega) (by omega)
    have e1:=J1 kW kH kP hl l a h (by omega) (by omega) hh0 hh1
    have e2:=J1 kW kH kP hl r (w-a) h (by omega) (by omega) hh0 hh1
    refine Zd Xs Ms Qe WS (by show 4≤_;decide) ?_
    simp +contextual -implicitDefEqProofs (maxSteps:=10^7) only[go_sem,seval,↓gZ,Qe,YM,QF,h3,ZQ,w1,w2,w3,e1,e2]
   ·refine Zd Xs Ms Qe WS (by show 4≤_;decide) ?_
    simp +contextual -implicitDefEqProofs (maxSteps:=10^7) only[go_sem,seval,↓gZ,Qe,YM,QF,h3,ZQ,w1,w2]
  | false=>
   by_cases h3:1≤a∧a≤h-1
   ·have w3:=wi (h-a) (by omega) (by omega)
    have e1:=J1 kW kH kP hl l w a hw0 hw1 (by omega) (by omega)
    have e2:=J1 kW kH kP hl r w (h-a) hw0 hw1 (by omega) (by omega)
    refine Zd Xs Ms Qe WS (by show 4≤_;decide) ?_
    simp +contextual -implicitDefEqProofs (maxSteps:=10^7) only[go_sem,seval,↓gZ,Qe,YM,QF,h3,ZQ,w1,w2,w3,e1,e2]
   ·refine Zd Xs Ms Qe WS (by show 4≤_;decide) ?_
    simp +contextual -implicitDefEqProofs (maxSteps:=10^7) only[go_sem,seval,↓gZ,Qe,YM,QF,h3,ZQ,w1,w2]
theorem Zba (kW kH:Int) (kP:List Pane) (p:Zh):Zg Xs Ms Yn [(.d (.agg [J kW,J kH,.sl (kP.map Pane.enc)])),.d p.enc] []=some ((.d (.bool (Wm (ZD.mk kW kH kP) p))),[]):=by
 have hs:=ZrG p
 unfold Wm
 cases hb:Y1 p with
 | none=>
  obtain⟨o,a,q,t,ks⟩:=p
  rw[hb] at hs
  rw[Zh.enc_mk] at hs ⊢
  refine Zd Xs Ms Xf Zcs (by show 2≤_;decide) ?_
  simp +contextual -implicitDefEqProofs (maxSteps:=10^7) only[go_sem,seval,↓gZ,Xf,UN,hs,ZE]
 | some b=>
  have hp:=Zi6 hb
  rw[hb] at hs
  have hc:=b.cnt_pos
  have hz:=Vy 255 b
  by_cases hv:VW (ZD.mk kW kH kP)
  ·have hv':=hv
   simp only[VW] at hv'
   have hf:=J0 kW kH kP b 0 0 kW kH (by simp only[inB];omega)
   rw[← hp] at hf
   obtain⟨o,a,q,t,ks⟩:=p
   rw[Zh.enc_mk] at hs hf ⊢
   by_cases h2:b.cnt≤255
   ·have h3:ZE 255 (some b)=b.cnt:=by omega
    have h4:(0:Int)<b.cnt:=by omega
    rw[h3] at hs
    refine Zd Xs Ms Xf Zcs (by show 2≤_;decide) ?_
    simp +contextual -implicitDefEqProofs (maxSteps:=10^7) only[go_sem,seval,↓gZ,Xf,UN,Zds,hs,hf,hv,h2,h4]
   ·have h3:ZE 255 (some b)=-1:=by omega
    rw[h3] at hs
    refine Zd Xs Ms Xf Zcs (by show 2≤_;decide) ?_
    simp +contextual -implicitDefEqProofs (maxSteps:=10^7) only[go_sem,seval,↓gZ,Xf,UN,hs,hv,h2]
  ·obtain⟨o,a,q,t,ks⟩:=p
   rw[Zh.enc_mk] at hs ⊢
   refine Zd Xs Ms Xf Zcs (by show 2≤_;decide) ?_
   simp +contextual -implicitDefEqProofs (maxSteps:=10^7) only[go_sem,seval,↓gZ,Xf,UN,hs,hv]
theorem ZhT (kW kH:Int) (kP:List Pane) (p:Zh) (hl:kP.length<4611686018427387904):Zg Xs Ms Wa [(.d (.agg [J kW,J kH,.sl (kP.map Pane.enc)])),.d p.enc] []=some ((.d (.bool (Wm (ZD.mk kW kH kP) p))),[]):=by
 have hs:=ZrF p
 unfold Wm
 cases hb:Y1 p with
 | none=>
  obtain⟨o,a,q,t,ks⟩:=p
  rw[hb] at hs
  rw[Zh.enc_mk] at hs ⊢
  refine Zd Xs Ms Xh Zcu (by show 2≤_;decide) ?_
  simp +contextual -implicitDefEqProofs (maxSteps:=10^7) only[go_sem,seval,↓gZ,Xh,Za8 kW kH kP hl,hs,ZE]
 | some b=>
  have hp:=Zi6 hb
  rw[hb] at hs
  have hc:=b.cnt_pos
  have hz:=Vy 255 b
  by_cases hv:VW (ZD.mk kW kH kP)
  ·have hv':=hv
   simp only[VW] at hv'
   have hf:=J1 kW kH kP hl b kW kH (by omega) (by omega) (by omega) (by omega)
   rw[← hp] at hf
   obtain⟨o,a,q,t,ks⟩:=p
   rw[Zh.enc_mk] at hs hf ⊢
   by_cases h2:b.cnt≤255
   ·have h3:ZE 255 (some b)=b.cnt:=by omega
    have h4:(0:Int)<b.cnt:=by omega
    rw[h3] at hs
    refine Zd Xs Ms Xh Zcu (by show 2≤_;decide) ?_
    simp +contextual -implicitDefEqProofs (maxSteps:=10^7) only[go_sem,seval,↓gZ,Xh,Za8 kW kH kP hl,hs,hf,hv,h2,h4]
   ·have h3:ZE 255 (some b)=-1:=by omega
    rw[h3] at hs
    refine Zd Xs Ms Xh Zcu (by show 2≤_;decide) ?_
    simp +contextual -implicitDefEqProofs (maxSteps:=10^7) only[go_sem,seval,↓gZ,Xh,Za8 kW kH kP hl,hs,hv,h2]
  ·obtain⟨o,a,q,t,ks⟩:=p
   rw[Zh.enc_mk] at hs ⊢
   refine Zd Xs Ms Xh Zcu (by show 2≤_;decide) ?_
   simp +contextual -implicitDefEqProofs (maxSteps:=10^7) only[go_sem,seval,↓gZ,Xh,Za8 kW kH kP hl,hs,hv]
end Go.Proofs.YtpobhkoombldlaaGreat
