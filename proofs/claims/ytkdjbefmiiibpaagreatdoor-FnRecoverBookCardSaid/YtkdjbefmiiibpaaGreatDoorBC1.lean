/- Contracts of the functions,by the abstract semantics. -/
import Derived.Test.YtkdjbefmiiibpaaGreatDoorBCode
import Derived.Test.YtkdjbefmiiibpaaGreatDoorAbsParts
namespace Go.Proofs.YtkdjbefmiiibpaaGreatDoor
open Go Go.Abs Go.Abs.E Go.Abs.L
open Nat (reduceMul reduceSub reduceLeDiff reduceEqDiff)
open Int (reduceLE reduceEq reduceToNat reduceNeg)
set_option linter.unusedSimpArgs false
set_option linter.unusedVariables false
set_option maxRecDepth 20000
set_option maxHeartbeats 4000000
theorem ZA (n lo hi:Int):Zh Xs Ms ZK [(.d (J n)),(.d (J lo)),(.d (J hi))] []=some ((.d (.bool ((decide (lo≤n∧n≤hi))))),[]):=by
 refine Zb Xs Ms ZcG ZvU (by show 3≤_;decide) ?_
 simp +contextual -implicitDefEqProofs (maxSteps:=10^7) only[go_sem,seval,↓gZ,ZcG]
theorem Zkg (bX bY bW bH:Int):Zh Xs Ms JA [(.d (.agg [J bX,J bY,J bW,J bH]))] []=some ((.d (.bool ((decide (VB (Box.mk bX bY bW bH)))))),[]):=by
 refine Zb Xs Ms Zbt Zt5 (by show 1≤_;decide) ?_
 simp +contextual -implicitDefEqProofs (maxSteps:=10^7) only[go_sem,seval,↓gZ,Zbt,ZA]
 have h1:=wi (200-bW);have h2:=wi (200-bH)
 exact Zlq (by simp only[VB];omega)
theorem ZqY (aX aY aW aH:Int) (bX bY bW bH:Int) (ha:VB (Box.mk aX aY aW aH)) (h1:R64 bX) (h2:R64 bY) (h3:R64 (bX+bW)) (h4:R64 (bY+bH)):Zh Xs Ms JB [(.d (.agg [J aX,J aY,J aW,J aH])),(.d (.agg [J bX,J bY,J bW,J bH]))] []=some ((.d (.bool ((decide (Zfx (Box.mk aX aY aW aH) (Box.mk bX bY bW bH)))))),[]):=by
 refine Zb Xs Ms Zbu Zt6 (by show 2≤_;decide) ?_
 simp only[VB] at ha
 have e1:=wi (aX+aW) (by omega) (by omega);have e2:=wi (aY+aH) (by omega) (by omega);have e3:=wi (bX+bW) h3.1 h3.2;have e4:=wi (bY+bH) h4.1 h4.2
 simp +contextual -implicitDefEqProofs (maxSteps:=10^7) only[go_sem,seval,↓gZ,Zbu,e1,e2,e3,e4]
 exact Zlq (by simp only[Zfx];omega)
theorem ZlV (aX aY aW aH:Int) (bX bY bW bH:Int) (ha:VB (Box.mk aX aY aW aH)) (hb:VB (Box.mk bX bY bW bH)) (hm:Zh5 (Box.mk aX aY aW aH) (Box.mk bX bY bW bH)):Zh Xs Ms UW [(.d (.agg [J aX,J aY,J aW,J aH])),(.d (.agg [J bX,J bY,J bW,J bH]))] []=some (.tup [.d (Zr4 (Box.mk aX aY aW aH) (Box.mk bX bY bW bH)).enc,(.d (.bool true))],[]):=by
 refine Zb Xs Ms ZaB ZqJ (by show 2≤_;decide) ?_
 simp only[VB,Zh5] at ha hb hm
 have e1:=wi (aX+aW) (by omega) (by omega);have e2:=wi (aY+aH) (by omega) (by omega);have e3:=wi (bX+bW) (by omega) (by omega);have e4:=wi (bY+bH) (by omega) (by omega)
 have e5:=wi (min (aX+aW) (bX+bW)-max aX bX) (by omega) (by omega)
 have e6:=wi (min (aY+aH) (bY+bH)-max aY bY) (by omega) (by omega)
 have n1:¬(min (aX+aW) (bX+bW)-max aX bX≤0):=by omega
 have n2:¬(min (aY+aH) (bY+bH)-max aY bY≤0):=by omega
 simp +contextual -implicitDefEqProofs (maxSteps:=10^7) only[go_sem,seval,↓gZ,ZaB,e1,e2,e3,e4,e5,e6,n1,n2,Zr4]
theorem ZnP (aX aY aW aH:Int) (bX bY bW bH:Int) (ha:VB (Box.mk aX aY aW aH)) (hb:VB (Box.mk bX bY bW bH)) (hm:¬Zh5 (Box.mk aX aY aW aH) (Box.mk bX bY bW bH)):Zh Xs Ms UW [(.d (.agg [J aX,J aY,J aW,J aH])),(.d (.agg [J bX,J bY,J bW,J bH]))] []=some (.tup [.d (Box.enc ⟨0,0,0,0⟩),(.d (.bool false))],[]):=by
 refine Zb Xs Ms ZaB ZqJ (by show 2≤_;decide) ?_
 simp only[VB,Zh5] at ha hb hm
 have e1:=wi (aX+aW) (by omega) (by omega);have e2:=wi (aY+aH) (by omega) (by omega);have e3:=wi (bX+bW) (by omega) (by omega);have e4:=wi (bY+bH) (by omega) (by omega)
 have e5:=wi (min (aX+aW) (bX+bW)-max aX bX) (by omega) (by omega)
 have e6:=wi (min (aY+aH) (bY+bH)-max aY bY) (by omega) (by omega)
 have n1:min (aX+aW) (bX+bW)-max aX bX≤0∨min (aY+aH) (bY+bH)-max aY bY≤0:=by omega
 simp +contextual -implicitDefEqProofs (maxSteps:=10^7) only[go_sem,seval,↓gZ,ZaB,e1,e2,e3,e4,e5,e6]
 omega
theorem Wr (pW pH:Int) (pT:Bool) (pK:Int):Zh Xs Ms Yw [(.d (.agg [J pW,J pH,.bool pT,J pK]))] []=some ((.d (.bool ((decide (VP (Pane.mk pW pH pT pK)))))),[]):=by
 refine Zb Xs Ms J6 Zru (by show 1≤_;decide) ?_
 simp +contextual -implicitDefEqProofs (maxSteps:=10^7) only[go_sem,seval,↓gZ,J6,ZA]
 first | exact Zlq (by simp only[VP];omega) | skip
def Ug:Nat→List Int→Int→Int
 | _,[],_=>-1
 | k,x :: l,n=>if x=n then (k:Int) else Ug (k+1) l n
theorem Zp1 {l:List Int} {k:Nat} {x n:Int} (hx:l[k]?=some x):Ug k (l.drop k) n=if x=n then (k:Int) else Ug (k+1) (l.drop (k+1)) n:=by
 have h:=(List.getElem?_eq_some_iff.1 hx)
 obtain⟨h1,h2⟩:=h
 rw[List.drop_eq_getElem_cons h1,h2,Ug]
theorem ZtB (l:List Int) (n:Int) (hl:l.length<4611686018427387904):Zh Xs Ms ZaR [.d (.sl (l.map YL)),(.d (J n))] []=some ((.d (J (Ug 0 l n))),[]):=by
 refine Zb Xs Ms ZcL Zv0 (by show 2≤_;decide) ?_
 simp +contextual -implicitDefEqProofs (maxSteps:=10^7) only[go_sem,seval,↓gZ,ZcL]
 refine ZQ Xs Ms (st0:=?st0) (α:=Nat) (fun k=>[(5,.d (J (k:Int)))]) (fun _=>[]) (fun k=>k≤l.length∧Ug k (l.drop k) n=Ug 0 l n) (fun k=>l.length-k) 0 ?hc ⟨by omega,rfl⟩ ?h0 ?step
 case hc=>simp +contextual -implicitDefEqProofs (maxSteps:=10^7) only[go_sem,seval,↓gZ];exact rfl
 case h0=>rfl
 case step=>
  intro k ⟨hk,hp⟩ ih
  by_cases hlt:k<l.length
  ·obtain⟨x,hx⟩:=ZU hlt
   rw[Zp1 hx] at hp
   have hw:=Zm (k:=k) (by omega)
   simp +contextual -implicitDefEqProofs (maxSteps:=10^7) only[go_sem,seval,↓gZ,hx,hlt,hw]
   refine⟨fun h=>?_,fun h=>ih (k+1) _ ⟨by omega,?_⟩ (by omega) ?_⟩
   ·rw[if_pos h] at hp;rw[← hp]
   ·rw[if_neg h] at hp;exact hp
   ·simp +contextual -implicitDefEqProofs (maxSteps:=10^7) only[go_sem,seval,↓gZ]
  ·have:k=l.length:=by omega
   subst this
   simp +contextual -implicitDefEqProofs (maxSteps:=10^7) only[go_sem,seval,↓gZ]
   rw[← hp]
   simp[Ug]
theorem ZiV (bs:List UInt8):Zh Xs Ms V3 [.d (.sl (bs.map VM))] []=some (.ptr 0 0,[.box [.d (.sl ((bs.take 2000).map VM)),(.d (J 0))]]):=by
 refine Zb Xs Ms Uw Zrk (by show 1≤_;decide) ?_
 by_cases h:2000<bs.length
 ·have h1:(2000:Int)<bs.length:=by omega
  have h2:(2000:Int)≤bs.length:=by omega
  simp +contextual -implicitDefEqProofs (maxSteps:=10^7) only[go_sem,seval,↓gZ,Uw,h1,h2]
 ·have h1:¬(2000:Int)<bs.length:=by omega
  have h2:bs.take 2000=bs:=List.take_of_length_le (by omega)
  simp +contextual -implicitDefEqProofs (maxSteps:=10^7) only[go_sem,seval,↓gZ,Uw,h1,h2]
theorem ZjP (bs:List UInt8) (p:Nat) (n:Int) (hb:bs.length≤2000) (hp:p<1099511627776) :
  ∃ v:Int,Zh Xs Ms Zr [.ptr 0 0,(.d (J n))] [.box [.d (.sl (bs.map VM)),(.d (J p))]]=some ((.d (J v)),[.box [.d (.sl (bs.map VM)),(.d (J ((p+1:Nat))))]])∧0≤v∧(1≤n→v<n):=by
 have hw:=Zm (k:=p) (by omega)
 by_cases hn:n<1
 ·refine⟨0,?_,by omega,by omega⟩
  refine Zb Xs Ms QN Zam (by show 2≤_;decide) ?_
  simp +contextual -implicitDefEqProofs (maxSteps:=10^7) only[go_sem,seval,↓gZ,QN,hw,hn]
 ·by_cases hl:bs.length=0
  ·refine⟨0,?_,by omega,by omega⟩
   refine Zb Xs Ms QN Zam (by show 2≤_;decide) ?_
   simp +contextual -implicitDefEqProofs (maxSteps:=10^7) only[go_sem,seval,↓gZ,QN,hw,hn,hl]
  ·have hl' : ¬(bs.length:Int)=0:=by omega
   have hs:IntKind.i64.wrap (((p+1:Nat):Int)-1)=(p:Int):=by rw[Zap (by omega) (by omega)];omega
   have hn0:¬n=0:=by omega
   by_cases hlt:p<bs.length
   ·obtain⟨x,hx⟩:=ZU hlt
    have hx2:(x.toNat:Int)<256:=by have:=x.toNat_lt;omega
    have hwx:IntKind.i64.wrap (x.toNat:Int)=(x.toNat:Int):=Zap (by omega) (by omega)
    refine⟨(x.toNat:Int).tmod n,?_,Int.tmod_nonneg _ (by omega),fun _=>Int.tmod_lt_of_pos _ (by omega)⟩
    refine Zb Xs Ms QN Zam (by show 2≤_;decide) ?_
    simp +contextual -implicitDefEqProofs (maxSteps:=10^7) only[go_sem,seval,↓gZ,QN,hw,hn,hl',hs,hlt,hx,VM,hwx,hn0]
   ·have hlen:0<bs.length:=by omega
    obtain⟨x,hx⟩:=ZU (l:=bs) (k:=p % bs.length) (Nat.mod_lt _ hlen)
    obtain⟨y,hy⟩:=ZU (l:=bs) (k:=(p*7+3) % bs.length) (Nat.mod_lt _ hlen)
    have hx2:(x.toNat:Int)<256:=by have:=x.toNat_lt;omega
    have hy2:(y.toNat:Int)<256:=by have:=y.toNat_lt;omega
    have e1:((p:Int)).tmod (bs.length:Int)=((p % bs.length:Nat):Int):=(Int.ofNat_tmod p bs.length).symm
    have e2:IntKind.i64.wrap ((p:Int)*7)=((p*7:Nat):Int):=by rw[Zap (by omega) (by omega)];omega
    have e3:IntKind.i64.wrap (((p*7:Nat):Int)+3)=((p*7+3:Nat):Int):=by rw[Zap (by omega) (by omega)];omega
    have e4:((p*7+3:Nat):Int).tmod (bs.length:Int)=(((p*7+3) % bs.length:Nat):Int):=(Int.ofNat_tmod _ _).symm
    obtain⟨q,hqe,hq⟩:∃ q:Nat,q=p / bs.length∧q≤p:=⟨_,rfl,Nat.div_le_self _ _⟩
    have e5:((p:Int)).tdiv (bs.length:Int)=(q:Int):=by rw[hqe];exact(Int.ofNat_tdiv p bs.length).symm
    clear hqe
    have w1:IntKind.i64.wrap (x.toNat:Int)=(x.toNat:Int):=Zap (by omega) (by omega)
    have w2:IntKind.i64.wrap (y.toNat:Int)=(y.toNat:Int):=Zap (by omega) (by omega)
    have w3:=wi ((x.toNat:Int)*131) (by omega) (by omega)
    have w4:=wi ((y.toNat:Int)*1117) (by omega) (by omega)
    have w5:=wi ((x.toNat:Int)*131+(y.toNat:Int)*1117) (by omega) (by omega)
    have w6:=wi ((p:Int)*29) (by omega) (by omega)
    have w7:=wi ((x.toNat:Int)*131+(y.toNat:Int)*1117+(p:Int)*29) (by omega) (by omega)
    have w8:=wi ((q:Int)) (by omega) (by omega)
    have w9:=wi ((q:Int)*53) (by omega) (by omega)
    have w10:=wi ((x.toNat:Int)*131+(y.toNat:Int)*1117+(p:Int)*29+(q:Int)*53) (by omega) (by omega)
    obtain⟨t,ht⟩:∃ t:Int,t=(x.toNat:Int)*131+(y.toNat:Int)*1117+(p:Int)*29+(q:Int)*53:=⟨_,rfl⟩
    have ht0:0≤t:=by omega
    have ht1:t<4611686018427387904:=by omega
    have hd0:0≤t.tdiv 64:=Int.tdiv_nonneg ht0 (by omega)
    have hd1:t.tdiv 64<4611686018427387904:=by
     rw[Int.tdiv_eq_ediv_of_nonneg ht0];omega
    have w11:=wi (t.tdiv 64) (by omega) (by omega)
    obtain⟨z,hz0,hz1,hz⟩:=Zzi ht0 ht1 hd0 hd1
    rw[← ht] at w10
    refine⟨z.tmod n,?_,Int.tmod_nonneg _ hz0,fun _=>Int.tmod_lt_of_pos _ (by omega)⟩
    have hxb:ZaV .xor .i64 .i64 t (t.tdiv 64)=some (.d (J z)):=by simp only[ZaV,JP,asD,Zf,if_true,hz]
    refine Zb Xs Ms QN Zam (by show 2≤_;decide) ?_
    simp +contextual -implicitDefEqProofs (maxSteps:=10^7) only[go_sem,seval,↓gZ,QN,hw,hn,hl',hs,hlt,VM,hn0,e1,e2,e3,e4,e5,hx,hy,w1,w2,w3,w4,w5,w6,w7,w8,w9,w10,← ht,w11,hxb]
open Classical in
noncomputable def Qq (bs:List UInt8) (p:Nat) (n:Int):Int:=if h:bs.length≤2000∧p<1099511627776 then (ZjP bs p n h.1 h.2).choose else 0
theorem Qa (bs:List UInt8) (p:Nat) (n:Int) (hb:bs.length≤2000) (hp:p<1099511627776) :
  Zh Xs Ms Zr [.ptr 0 0,(.d (J n))] [.box [.d (.sl (bs.map VM)),(.d (J p))]]=some ((.d (J (Qq bs p n))),[.box [.d (.sl (bs.map VM)),(.d (J ((p+1:Nat))))]]):=by
 have h:bs.length≤2000∧p<1099511627776:=⟨hb,hp⟩
 unfold Qq
 rw[dif_pos h]
 exact(ZjP bs p n hb hp).choose_spec.1
theorem Va (bs:List UInt8) (p:Nat) (n:Int):0≤Qq bs p n:=by
 unfold Qq
 split
 ·rename_i h;exact(ZjP bs p n h.1 h.2).choose_spec.2.1
 ·omega
theorem ZaK (bs:List UInt8) (p:Nat) (n:Int) (hn:1≤n):Qq bs p n<n:=by
 unfold Qq
 split
 ·rename_i h;exact(ZjP bs p n h.1 h.2).choose_spec.2.2 hn
 ·omega
theorem Zek (bs:List UInt8) (p:Nat) (l:List Int) (hb:bs.length≤2000) (hp:p<1099511627776) (hl:1≤l.length) :
  ∃ v:Int,v∈l∧Zh Xs Ms XW [.ptr 0 0,.d (.sl (l.map YL))] [.box [.d (.sl (bs.map VM)),(.d (J p))]]=some ((.d (J v)),[.box [.d (.sl (bs.map VM)),(.d (J ((p+1:Nat))))]]):=by
 have h0:=Va bs p l.length
 have h1:=ZaK bs p l.length (by omega)
 obtain⟨i,hi⟩:∃ i:Nat,Qq bs p (l.length:Int)=(i:Int):=⟨(Qq bs p (l.length:Int)).toNat,by omega⟩
 obtain⟨v,hv⟩:=ZU (l:=l) (k:=i) (by omega)
 refine⟨v,List.mem_of_getElem? hv,?_⟩
 refine Zb Xs Ms UZ Zqx (by show 2≤_;decide) ?_
 simp +contextual -implicitDefEqProofs (maxSteps:=10^7) only[go_sem,seval,↓gZ,UZ,Qa bs p _ hb hp,hi,hv]
theorem XR (pO pA pP:Int) (pT:Bool) (pK:List D):Zh Xs Ms Zb4 [.d (.agg [J pO,J pA,J pP,.bool pT,.sl pK])] []=some ((.d (.bool (decide (pO=2∨pO=3)))),[]):=by
 refine Zb Xs Ms Zg2 Zz4 (by show 1≤_;decide) ?_
 simp +contextual -implicitDefEqProofs (maxSteps:=10^7) only[go_sem,seval,↓gZ,Zg2]
theorem Zel:∀ (n:Nat) (p:Zj),p.nodes≤n→Zh Xs Ms Yu [.d p.enc] []=some ((.d (J (ZC 255 (Xi p)))),[])
 | 0,.mk o a p t ks,hn=>by simp[Zj.nodes] at hn
 | n+1,.mk o a p t ks,hn=>by
  by_cases ho:o=2∨o=3
  ·by_cases hk:ks.length=2
   ·obtain⟨x,hx⟩:=ZU (l:=ks) (k:=0) (by omega)
    obtain⟨y,hy⟩:=ZU (l:=ks) (k:=1) (by omega)
    have ihx:=Zel n x (ZjD hn hx)
    have ihy:=Zel n y (ZjD hn hy)
    rw[Zr7 ho hk hx hy]
    obtain⟨lx,hlx⟩:∃ l,l=Xi x:=⟨_,rfl⟩
    obtain⟨ly,hly⟩:∃ l,l=Xi y:=⟨_,rfl⟩
    rw[← hlx] at ihx ⊢
    rw[← hly] at ihy ⊢
    have rx:=ZdB 255 (by omega) lx
    have ry:=ZdB 255 (by omega) ly
    have hk2:(ks.length:Int)=2:=by omega
    by_cases hp:p=0
    ·cases t with
     | true=>
      have hb:=Zhq 255 o a p true lx ly (by simp)
      rw[hb]
      refine Zb Xs Ms ZP XT (by show 1≤_;decide) ?_
      simp +contextual -implicitDefEqProofs (maxSteps:=10^7) only[go_sem,seval,↓gZ,ZP,XR,ho,hp]
     | false=>
      subst hp
      rw[ZwE]
      obtain⟨sx,hsx⟩:∃ s,s=ZC 255 lx:=⟨_,rfl⟩
      obtain⟨sy,hsy⟩:∃ s,s=ZC 255 ly:=⟨_,rfl⟩
      rw[← hsx] at ihx rx ⊢
      rw[← hsy] at ihy ry ⊢
      have w1:=wi (1+sx) (by omega) (by omega)
      have w2:=wi (1+sx+sy) (by omega) (by omega)
      refine Zb Xs Ms ZP XT (by show 1≤_;decide) ?_
      simp +contextual -implicitDefEqProofs (maxSteps:=10^7) only[go_sem,seval,↓gZ,ZP,XR,ho,hk2]
      refine ZM Xs Ms ?_
      simp +contextual -implicitDefEqProofs (maxSteps:=10^7) only[go_sem,seval,↓gZ,hk2,hx,hy,ihx,ihy,w1,w2]
      intro h
      refine ZM Xs Ms ?_
      simp +contextual -implicitDefEqProofs (maxSteps:=10^7) only[go_sem,seval,↓gZ,hk2,hx,hy,ihx,ihy,w1,w2,h]
      intro h'
      refine ZM Xs Ms ?_
      simp +contextual -implicitDefEqProofs (maxSteps:=10^7) only[go_sem,seval,↓gZ,hk2,hx,hy,ihx,ihy,w1,w2,h,h']
    ·have hb:=Zhq 255 o a p t lx ly (by simp[hp])
     rw[hb]
     refine Zb Xs Ms ZP XT (by show 1≤_;decide) ?_
     simp +contextual -implicitDefEqProofs (maxSteps:=10^7) only[go_sem,seval,↓gZ,ZP,XR,ho,hp]
   ·rw[ZmE _ _ _ _ _ ho hk]
    refine Zb Xs Ms ZP XT (by show 1≤_;decide) ?_
    have hk' : ¬(ks.length:Int)=2:=by omega
    simp +contextual -implicitDefEqProofs (maxSteps:=10^7) only[go_sem,seval,↓gZ,ZP,XR,ho,hk',ZC]
  ·rw[Zpo ho]
   by_cases h1:ks.length=0∧a=0∧o=1
   ·rw[if_pos h1]
    obtain⟨h1,rfl,rfl⟩:=h1
    refine Zb Xs Ms ZP XT (by show 1≤_;decide) ?_
    simp +contextual -implicitDefEqProofs (maxSteps:=10^7) only[go_sem,seval,↓gZ,ZP,XR,ho,h1,ZC,BT.cnt]
    refine ZM Xs Ms ?_
    simp +contextual -implicitDefEqProofs (maxSteps:=10^7) only[go_sem,seval,↓gZ,h1]
   ·rw[if_neg h1]
    by_cases h2:ks.length=0∧a=0∧o=0∧p=0∧t=false
    ·rw[if_pos h2]
     obtain⟨h2,rfl,rfl,rfl,rfl⟩:=h2
     refine Zb Xs Ms ZP XT (by show 1≤_;decide) ?_
     simp +contextual -implicitDefEqProofs (maxSteps:=10^7) only[go_sem,seval,↓gZ,ZP,XR,ho,h2,ZC,BT.cnt]
     refine ZM Xs Ms ?_
     simp +contextual -implicitDefEqProofs (maxSteps:=10^7) only[go_sem,seval,↓gZ,h2]
    ·rw[if_neg h2]
     by_cases c1:ks.length=0
     ·by_cases c2:a=0
      ·by_cases c3:o=1
       ·exact absurd ⟨c1,c2,c3⟩ h1
       ·by_cases c4:o=0
        ·by_cases c5:p=0
         ·cases t with
          | false=>exact absurd ⟨c1,c2,c4,c5,rfl⟩ h2
          | true=>
           refine Zb Xs Ms ZP XT (by show 1≤_;decide) ?_
           simp +contextual -implicitDefEqProofs (maxSteps:=10^7) only[go_sem,seval,↓gZ,ZP,XR,ho,c1,c2,c3,c4,c5,ZC]
         ·refine Zb Xs Ms ZP XT (by show 1≤_;decide) ?_
          simp +contextual -implicitDefEqProofs (maxSteps:=10^7) only[go_sem,seval,↓gZ,ZP,XR,ho,c1,c2,c3,c4,c5,ZC]
        ·refine Zb Xs Ms ZP XT (by show 1≤_;decide) ?_
         simp +contextual -implicitDefEqProofs (maxSteps:=10^7) only[go_sem,seval,↓gZ,ZP,XR,ho,c1,c2,c3,c4,ZC]
      ·refine Zb Xs Ms ZP XT (by show 1≤_;decide) ?_
       simp +contextual -implicitDefEqProofs (maxSteps:=10^7) only[go_sem,seval,↓gZ,ZP,XR,ho,c1,c2,ZC]
     ·have c1' : ¬(ks.length:Int)=0:=by omega
      refine Zb Xs Ms ZP XT (by show 1≤_;decide) ?_
      simp +contextual -implicitDefEqProofs (maxSteps:=10^7) only[go_sem,seval,↓gZ,ZP,XR,ho,c1',ZC]
theorem ZfK (p:Zj):Zh Xs Ms Yu [.d p.enc] []=some ((.d (J (ZC 255 (Xi p)))),[]):=Zel _ p (Nat.le_refl _)
theorem Zn5 (ps:List Pane) (hl:ps.length<4611686018427387904):Zh Xs Ms WC [(.d (.sl (ps.map Pane.enc)))] []=some ((.d (.bool (decide (ps.length≤24∧VPs ps)))),[]):=by
 refine Zb Xs Ms U8 ZqK (by show 1≤_;decide) ?_
 simp +contextual -implicitDefEqProofs (maxSteps:=10^7) only[go_sem,seval,↓gZ,U8]
 refine ZQ Xs Ms (st0:=?st0) (α:=Nat) (fun k=>[(3,.d (J (k:Int)))]) (fun _=>[]) (fun k=>k≤ps.length∧(VPs ps↔VPs (ps.drop k))) (fun k=>ps.length-k) 0 ?hc ⟨by omega,by simp⟩ ?h0 ?step
 case hc=>simp +contextual -implicitDefEqProofs (maxSteps:=10^7) only[go_sem,seval,↓gZ];exact rfl
 case h0=>rfl
 case step=>
  intro k ⟨hk,hp⟩ ih
  by_cases hlt:k<ps.length
  ·obtain⟨x,hx⟩:=ZU hlt
   rw[ZAR hx] at hp
   have hw:=Zm (k:=k) (by omega)
   simp +contextual -implicitDefEqProofs (maxSteps:=10^7) only[go_sem,seval,↓gZ,hx,hlt,hw,Wr]
   refine⟨fun h=>Zx1 (fun hh=>h (hp.1 hh.2).1),fun h=>ih (k+1) _ ⟨by omega,?_⟩ (by omega) ?_⟩
   ·rw[hp];exact⟨fun hh=>hh.2,fun hh=>⟨h,hh⟩⟩
   ·simp +contextual -implicitDefEqProofs (maxSteps:=10^7) only[go_sem,seval,↓gZ]
  ·have:k=ps.length:=by omega
   subst this
   simp +contextual -implicitDefEqProofs (maxSteps:=10^7) only[go_sem,seval,↓gZ]
   have hv:VPs ps:=hp.2 (by simp[VPs])
   exact Zlq ⟨fun h=>⟨by omega,hv⟩,fun h=>by omega⟩
theorem Za8 (kW kH:Int) (kP:List Pane) (hl:kP.length<4611686018427387904):Zh Xs Ms Uv [(.d (.agg [J kW,J kH,.sl (kP.map Pane.enc)]))] []=some ((.d (.bool (decide (VW (XJ.mk kW kH kP))))),[]):=by
 refine Zb Xs Ms Zab Zrz (by show 1≤_;decide) ?_
 simp +contextual -implicitDefEqProofs (maxSteps:=10^7) only[go_sem,seval,↓gZ,Zab,ZA,Zn5 kP hl]
 exact Zlq (by simp only[VW,and_assoc])
theorem ZbU:∀ (n:Nat) (p:Zj),p.nodes≤n→∀ m:Int,-10≤m→m≤255→Zh Xs Ms YJ [.d p.enc,(.d (J m))] []=some ((.d (J (ZC m (Xi p)))),[])
 | 0,.mk o a p t ks,hn,m,_,_=>by simp[Zj.nodes] at hn
 | n+1,.mk o a p t ks,hn,m,hm1,hm2=>by
  by_cases hm:m<1
  ·rw[ZwF hm]
   refine Zb Xs Ms Zs QL (by show 2≤_;decide) ?_
   simp +contextual -implicitDefEqProofs (maxSteps:=10^7) only[go_sem,seval,↓gZ,Zs,hm]
  by_cases ho:o=2∨o=3
  ·have ho0:¬o=0:=by omega
   have ho1:¬o=1:=by omega
   by_cases hk:ks.length=2
   ·obtain⟨x,hx⟩:=ZU (l:=ks) (k:=0) (by omega)
    obtain⟨y,hy⟩:=ZU (l:=ks) (k:=1) (by omega)
    rw[Zr7 ho hk hx hy]
    have hk2:(ks.length:Int)=2:=by omega
    by_cases hp:p=0
    ·cases t with
     | true=>
      have hb:=Zhq m o a p true (Xi x) (Xi y) (by simp)
      rw[hb]
      refine Zb Xs Ms Zs QL (by show 2≤_;decide) ?_
      rcases ho with ho | ho<;>simp +contextual -implicitDefEqProofs (maxSteps:=10^7) only[go_sem,seval,↓gZ,Zs,ho,hp,hm,hk2]
     | false=>
      subst hp
      rw[ZuU]
      have ihx:=ZbU n x (ZjD hn hx) (m-1) (by omega) (by omega)
      have rx:=ZdB (m-1) (by omega) (Xi x)
      have ihy:=ZbU n y (ZjD hn hy) (m-1-ZC (m-1) (Xi x)) (by omega) (by omega)
      have ry:=ZdB (m-1-ZC (m-1) (Xi x)) (by omega) (Xi y)
      obtain⟨sy,hsy⟩:∃ s,s=ZC (m-1-ZC (m-1) (Xi x)) (Xi y):=⟨_,rfl⟩
      rw[← hsy] at ihy ry ⊢
      obtain⟨sx,hsx⟩:∃ s,s=ZC (m-1) (Xi x):=⟨_,rfl⟩
      rw[← hsx] at ihx ihy rx ry ⊢
      clear hsx hsy
      have w0:=wi (m-1) (by omega) (by omega)
      have w1:=wi (m-1-sx) (by omega) (by omega)
      have w2:=wi (1+sx) (by omega) (by omega)
      have w3:=wi (1+sx+sy) (by omega) (by omega)
      refine Zb Xs Ms Zs QL (by show 2≤_;decide) ?_
      rcases ho with ho | ho<;>simp +contextual -implicitDefEqProofs (maxSteps:=10^7) only[go_sem,seval,↓gZ,Zs,ho,hm,hk2,hx,hy,ihx,ihy,w0,w1,w2,w3]
    ·have hb:=Zhq m o a p t (Xi x) (Xi y) (by simp[hp])
     rw[hb]
     refine Zb Xs Ms Zs QL (by show 2≤_;decide) ?_
     rcases ho with ho | ho<;>simp +contextual -implicitDefEqProofs (maxSteps:=10^7) only[go_sem,seval,↓gZ,Zs,ho,hp,hm,hk2]
   ·rw[ZmE _ _ _ _ _ ho hk]
    have hk' : ¬(ks.length:Int)=2:=by omega
    refine Zb Xs Ms Zs QL (by show 2≤_;decide) ?_
    rcases ho with ho | ho<;>simp +contextual -implicitDefEqProofs (maxSteps:=10^7) only[go_sem,seval,↓gZ,Zs,ho,hk',hm,ZC]
  ·rw[Zpo ho]
   have h2' : ¬o=2:=by omega
   have h3' : ¬o=3:=by omega
   have hm' : (1:Int)≤m:=by omega
   by_cases h1:ks.length=0∧a=0∧o=1
   ·rw[if_pos h1]
    obtain⟨h1,rfl,rfl⟩:=h1
    refine Zb Xs Ms Zs QL (by show 2≤_;decide) ?_
    simp +contextual -implicitDefEqProofs (maxSteps:=10^7) only[go_sem,seval,↓gZ,Zs,h1,hm,ZC,BT.cnt,hm']
   ·rw[if_neg h1]
    by_cases h2:ks.length=0∧a=0∧o=0∧p=0∧t=false
    ·rw[if_pos h2]
     obtain⟨h2,rfl,rfl,rfl,rfl⟩:=h2
     refine Zb Xs Ms Zs QL (by show 2≤_;decide) ?_
     simp +contextual -implicitDefEqProofs (maxSteps:=10^7) only[go_sem,seval,↓gZ,Zs,h2,hm,ZC,BT.cnt,hm']
    ·rw[if_neg h2]
     by_cases c1:ks.length=0
     ·by_cases c2:a=0
      ·by_cases c3:o=1
       ·exact absurd ⟨c1,c2,c3⟩ h1
       ·by_cases c4:o=0
        ·by_cases c5:p=0
         ·cases t with
          | false=>exact absurd ⟨c1,c2,c4,c5,rfl⟩ h2
          | true=>
           refine Zb Xs Ms Zs QL (by show 2≤_;decide) ?_
           simp +contextual -implicitDefEqProofs (maxSteps:=10^7) only[go_sem,seval,↓gZ,Zs,hm,c1,c2,c3,c4,c5,ZC]
         ·refine Zb Xs Ms Zs QL (by show 2≤_;decide) ?_
          simp +contextual -implicitDefEqProofs (maxSteps:=10^7) only[go_sem,seval,↓gZ,Zs,hm,c1,c2,c3,c4,c5,ZC]
        ·refine Zb Xs Ms Zs QL (by show 2≤_;decide) ?_
         simp +contextual -implicitDefEqProofs (maxSteps:=10^7) only[go_sem,seval,↓gZ,Zs,hm,c1,c2,c3,c4,h2',h3',ZC]
      ·refine Zb Xs Ms Zs QL (by show 2≤_;decide) ?_
       by_cases c3:o=1
       ·simp +contextual -implicitDefEqProofs (maxSteps:=10^7) only[go_sem,seval,↓gZ,Zs,hm,c1,c2,c3,ZC]
       ·by_cases c4:o=0
        ·simp +contextual -implicitDefEqProofs (maxSteps:=10^7) only[go_sem,seval,↓gZ,Zs,hm,c1,c2,c3,c4,ZC]
        ·simp +contextual -implicitDefEqProofs (maxSteps:=10^7) only[go_sem,seval,↓gZ,Zs,hm,c1,c2,c3,c4,h2',h3',ZC]
     ·have c1' : ¬(ks.length:Int)=0:=by omega
      refine Zb Xs Ms Zs QL (by show 2≤_;decide) ?_
      by_cases c3:o=1
      ·simp +contextual -implicitDefEqProofs (maxSteps:=10^7) only[go_sem,seval,↓gZ,Zs,hm,c1',c3,ZC]
      ·by_cases c4:o=0
       ·simp +contextual -implicitDefEqProofs (maxSteps:=10^7) only[go_sem,seval,↓gZ,Zs,hm,c1',c3,c4,ZC]
       ·simp +contextual -implicitDefEqProofs (maxSteps:=10^7) only[go_sem,seval,↓gZ,Zs,hm,c1',c3,c4,h2',h3',ZC]
theorem Zkh (p:Zj):Zh Xs Ms WR [.d p.enc] []=some ((.d (J (ZC 255 (Xi p)))),[]):=by
 have h:=ZbU _ p (Nat.le_refl _) 255 (by omega) (by omega)
 obtain⟨o,a,q,t,ks⟩:=p
 rw[Zj.enc_mk] at h ⊢
 refine Zb Xs Ms Zbi ZtT (by show 1≤_;decide) ?_
 simp +contextual -implicitDefEqProofs (maxSteps:=10^7) only[go_sem,seval,↓gZ,Zbi,h]
theorem ZqZ {ps:List Pane} {i:Int} {t:Bool} {w h:Int} {k:Nat} {q:Pane} (hi:i=(k:Int)) (hq:ps[k]?=some q):Zcu ps i t w h=if t then q.Turns&&decide (¬q.W=q.H)&&decide (q.H=w)&&decide (q.W=h) else decide (q.W=w∧q.H=h):=by
 subst hi
 simp[Zcu,hq]
theorem ZtC {ps:List Pane} {i:Int} {t:Bool} {w h:Int} (hi:i<0∨(ps.length:Int)≤i):Zcu ps i t w h=false:=by
 unfold Zcu
 rcases hi with hi | hi
 ·have:¬0≤i:=by omega
  simp[this]
 ·have:ps[i.toNat]?=none:=List.getElem?_eq_none (by omega)
  simp[this]
def inB (g:Box):Prop:=0≤g.X∧0≤g.Y∧0≤g.W∧0≤g.H∧g.X+g.W≤1000∧g.Y+g.H≤1000
theorem Zn6 (kW kH:Int) (kP:List Pane) (i:Int) (t:Bool) (w h:Int) (hl:kP.length<4611686018427387904):Zh Xs Ms X0 [(.d (.agg [J kW,J kH,.sl (kP.map Pane.enc)])),.d (BT.pane i t).plan.enc,(.d (J w)),(.d (J h))] []=some ((.d (.bool (Zcu kP i t w h))),[]):=by
 have hw:=wi ((kP.length:Int)-1) (by omega) (by omega)
 simp only[BT.plan,Zj.enc_mk]
 by_cases h0:0≤i∧i≤(kP.length:Int)-1
 ·obtain⟨n,rfl⟩:∃ n:Nat,i=(n:Int):=⟨i.toNat,by omega⟩
  obtain⟨q,hq⟩:=ZU (l:=kP) (k:=n) (by omega)
  rw[ZqZ rfl hq]
  refine Zb Xs Ms Qh WO (by show 4≤_;decide) ?_
  cases t
  ·simp +contextual -implicitDefEqProofs (maxSteps:=10^7) only[go_sem,seval,↓gZ,Qh,ZA,h0,hw,hq]
  ·simp +contextual -implicitDefEqProofs (maxSteps:=10^7) only[go_sem,seval,↓gZ,Qh,ZA,h0,hw,hq]
 ·rw[ZtC (by omega)]
  refine Zb Xs Ms Qh WO (by show 4≤_;decide) ?_
  simp +contextual -implicitDefEqProofs (maxSteps:=10^7) only[go_sem,seval,↓gZ,Qh,ZA,h0,hw]
theorem JY (kW kH:Int) (kP:List Pane) (hl:kP.length<4611686018427387904):∀ (b:BT) (w h:Int),0≤w→w≤1000→0≤h→h≤1000→Zh Xs Ms X0 [(.d (.agg [J kW,J kH,.sl (kP.map Pane.enc)])),.d b.plan.enc,(.d (J w)),(.d (J h))] []=some ((.d (.bool (Je kP b w h))),[])
 | .waste,w,h,hw0,hw1,hh0,hh1=>by
  simp only[BT.plan,Zj.enc_mk]
  refine Zb Xs Ms Qh WO (by show 4≤_;decide) ?_
  simp +contextual -implicitDefEqProofs (maxSteps:=10^7) only[go_sem,seval,↓gZ,Qh,Je]
 | .pane i t,w,h,hw0,hw1,hh0,hh1=>Zn6 kW kH kP i t w h hl
 | .cut d a l r,w,h,hw0,hw1,hh0,hh1=>by
  have w1:=wi (w-1) (by omega) (by omega)
  have w2:=wi (h-1) (by omega) (by omega)
  simp only[BT.plan,Zj.enc_mk]
  cases d with
  | true=>
   by_cases h3:1≤a∧a≤w-1
   ·have w3:=wi (w-a) (by omega) (by omega)
    have e1:=JY kW kH kP hl l a h (by omega) (by omega) hh0 hh1
    have e2:=JY kW kH kP hl r (w-a) h (by omega) (by omega) hh0 hh1
    refine Zb Xs Ms Qh WO (by show 4≤_;decide) ?_
    simp +contextual -implicitDefEqProofs (maxSteps:=10^7) only[go_sem,seval,↓gZ,Qh,Je,Zby,h3,ZA,w1,w2,w3,e1,e2]
   ·refine Zb Xs Ms Qh WO (by show 4≤_;decide) ?_
    simp +contextual -implicitDefEqProofs (maxSteps:=10^7) only[go_sem,seval,↓gZ,Qh,Je,Zby,h3,ZA,w1,w2]
  | false=>
   by_cases h3:1≤a∧a≤h-1
   ·have w3:=wi (h-a) (by omega) (by omega)
    have e1:=JY kW kH kP hl l w a hw0 hw1 (by omega) (by omega)
    have e2:=JY kW kH kP hl r w (h-a) hw0 hw1 (by omega) (by omega)
    refine Zb Xs Ms Qh WO (by show 4≤_;decide) ?_
    simp +contextual -implicitDefEqProofs (maxSteps:=10^7) only[go_sem,seval,↓gZ,Qh,Je,Zby,h3,ZA,w1,w2,w3,e1,e2]
   ·refine Zb Xs Ms Qh WO (by show 4≤_;decide) ?_
    simp +contextual -implicitDefEqProofs (maxSteps:=10^7) only[go_sem,seval,↓gZ,Qh,Je,Zby,h3,ZA,w1,w2]
theorem ZiW (kW kH:Int) (kP:List Pane) (p:Zj) (hl:kP.length<4611686018427387904):Zh Xs Ms V9 [(.d (.agg [J kW,J kH,.sl (kP.map Pane.enc)])),.d p.enc] []=some ((.d (.bool (ZgG (XJ.mk kW kH kP) p))),[]):=by
 have hs:=ZfK p
 unfold ZgG
 cases hb:Xi p with
 | none=>
  obtain⟨o,a,q,t,ks⟩:=p
  rw[hb] at hs
  rw[Zj.enc_mk] at hs ⊢
  refine Zb Xs Ms Xp Zcp (by show 2≤_;decide) ?_
  simp +contextual -implicitDefEqProofs (maxSteps:=10^7) only[go_sem,seval,↓gZ,Xp,Za8 kW kH kP hl,hs,ZC]
 | some b=>
  have hp:=ZbL hb
  rw[hb] at hs
  have hc:=b.cnt_pos
  have hz:=Xz 255 b
  by_cases hv:VW (XJ.mk kW kH kP)
  ·have hv':=hv
   simp only[VW] at hv'
   have hf:=JY kW kH kP hl b kW kH (by omega) (by omega) (by omega) (by omega)
   rw[← hp] at hf
   obtain⟨o,a,q,t,ks⟩:=p
   rw[Zj.enc_mk] at hs hf ⊢
   by_cases h2:b.cnt≤255
   ·have h3:ZC 255 (some b)=b.cnt:=by omega
    have h4:(0:Int)<b.cnt:=by omega
    rw[h3] at hs
    refine Zb Xs Ms Xp Zcp (by show 2≤_;decide) ?_
    simp +contextual -implicitDefEqProofs (maxSteps:=10^7) only[go_sem,seval,↓gZ,Xp,Za8 kW kH kP hl,hs,hf,hv,h2,h4]
   ·have h3:ZC 255 (some b)=-1:=by omega
    rw[h3] at hs
    refine Zb Xs Ms Xp Zcp (by show 2≤_;decide) ?_
    simp +contextual -implicitDefEqProofs (maxSteps:=10^7) only[go_sem,seval,↓gZ,Xp,Za8 kW kH kP hl,hs,hv,h2]
  ·obtain⟨o,a,q,t,ks⟩:=p
   rw[Zj.enc_mk] at hs ⊢
   refine Zb Xs Ms Xp Zcp (by show 2≤_;decide) ?_
   simp +contextual -implicitDefEqProofs (maxSteps:=10^7) only[go_sem,seval,↓gZ,Xp,Za8 kW kH kP hl,hs,hv]
end Go.Proofs.YtkdjbefmiiibpaaGreatDoor
