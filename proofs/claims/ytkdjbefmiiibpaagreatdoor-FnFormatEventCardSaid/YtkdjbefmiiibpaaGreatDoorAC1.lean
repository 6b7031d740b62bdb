/- Contracts of the functions,by the abstract semantics. -/
import Derived.Test.YtkdjbefmiiibpaaGreatDoorACode
import Derived.Test.YtkdjbefmiiibpaaGreatDoorAbsParts
namespace Go.Proofs.YtkdjbefmiiibpaaGreatDoor
open Go Go.Abs Go.Abs.E Go.Abs.L
open Nat (reduceMul reduceSub reduceLeDiff reduceEqDiff)
open Int (reduceLE reduceEq reduceToNat reduceNeg)
set_option linter.unusedSimpArgs false
set_option linter.unusedVariables false
set_option maxRecDepth 20000
set_option maxHeartbeats 4000000
theorem Zv (n lo hi:Int):Zk Xs Ms ZH [(.d (J n)),(.d (J lo)),(.d (J hi))] []=some ((.d (.bool ((decide (lo≤n∧n≤hi))))),[]):=by
 refine Zc Xs Ms ZaN Zrn (by show 3≤_;decide) ?_
 simp +contextual -implicitDefEqProofs (maxSteps:=10^7) only[go_sem,seval,↓gZ,ZaN]
theorem Zgm (bX bY bW bH:Int):Zk Xs Ms Uh [(.d (.agg [J bX,J bY,J bW,J bH]))] []=some ((.d (.bool ((decide (VB (Box.mk bX bY bW bH)))))),[]):=by
 refine Zc Xs Ms JO ZpZ (by show 1≤_;decide) ?_
 simp +contextual -implicitDefEqProofs (maxSteps:=10^7) only[go_sem,seval,↓gZ,JO,Zv]
 have h1:=wi (200-bW);have h2:=wi (200-bH)
 exact Zh4 (by simp only[VB];omega)
theorem Zm9 (aX aY aW aH:Int) (bX bY bW bH:Int) (ha:VB (Box.mk aX aY aW aH)) (h1:R64 bX) (h2:R64 bY) (h3:R64 (bX+bW)) (h4:R64 (bY+bH)):Zk Xs Ms Ui [(.d (.agg [J aX,J aY,J aW,J aH])),(.d (.agg [J bX,J bY,J bW,J bH]))] []=some ((.d (.bool ((decide (ZcV (Box.mk aX aY aW aH) (Box.mk bX bY bW bH)))))),[]):=by
 refine Zc Xs Ms JP Zp0 (by show 2≤_;decide) ?_
 simp only[VB] at ha
 have e1:=wi (aX+aW) (by omega) (by omega);have e2:=wi (aY+aH) (by omega) (by omega);have e3:=wi (bX+bW) h3.1 h3.2;have e4:=wi (bY+bH) h4.1 h4.2
 simp +contextual -implicitDefEqProofs (maxSteps:=10^7) only[go_sem,seval,↓gZ,JP,e1,e2,e3,e4]
 exact Zh4 (by simp only[ZcV];omega)
theorem Zhp (aX aY aW aH:Int) (bX bY bW bH:Int) (ha:VB (Box.mk aX aY aW aH)) (hb:VB (Box.mk bX bY bW bH)) (hm:ZeD (Box.mk aX aY aW aH) (Box.mk bX bY bW bH)):Zk Xs Ms WH [(.d (.agg [J aX,J aY,J aW,J aH])),(.d (.agg [J bX,J bY,J bW,J bH]))] []=some (.tup [.d (Zo2 (Box.mk aX aY aW aH) (Box.mk bX bY bW bH)).enc,(.d (.bool true))],[]):=by
 refine Zc Xs Ms U6 Zlq (by show 2≤_;decide) ?_
 simp only[VB,ZeD] at ha hb hm
 have e1:=wi (aX+aW) (by omega) (by omega);have e2:=wi (aY+aH) (by omega) (by omega);have e3:=wi (bX+bW) (by omega) (by omega);have e4:=wi (bY+bH) (by omega) (by omega)
 have e5:=wi (min (aX+aW) (bX+bW)-max aX bX) (by omega) (by omega)
 have e6:=wi (min (aY+aH) (bY+bH)-max aY bY) (by omega) (by omega)
 have n1:¬(min (aX+aW) (bX+bW)-max aX bX≤0):=by omega
 have n2:¬(min (aY+aH) (bY+bH)-max aY bY≤0):=by omega
 simp +contextual -implicitDefEqProofs (maxSteps:=10^7) only[go_sem,seval,↓gZ,U6,e1,e2,e3,e4,e5,e6,n1,n2,Zo2]
theorem Zjt (aX aY aW aH:Int) (bX bY bW bH:Int) (ha:VB (Box.mk aX aY aW aH)) (hb:VB (Box.mk bX bY bW bH)) (hm:¬ZeD (Box.mk aX aY aW aH) (Box.mk bX bY bW bH)):Zk Xs Ms WH [(.d (.agg [J aX,J aY,J aW,J aH])),(.d (.agg [J bX,J bY,J bW,J bH]))] []=some (.tup [.d (Box.enc ⟨0,0,0,0⟩),(.d (.bool false))],[]):=by
 refine Zc Xs Ms U6 Zlq (by show 2≤_;decide) ?_
 simp only[VB,ZeD] at ha hb hm
 have e1:=wi (aX+aW) (by omega) (by omega);have e2:=wi (aY+aH) (by omega) (by omega);have e3:=wi (bX+bW) (by omega) (by omega);have e4:=wi (bY+bH) (by omega) (by omega)
 have e5:=wi (min (aX+aW) (bX+bW)-max aX bX) (by omega) (by omega)
 have e6:=wi (min (aY+aH) (bY+bH)-max aY bY) (by omega) (by omega)
 have n1:min (aX+aW) (bX+bW)-max aX bX≤0∨min (aY+aH) (bY+bH)-max aY bY≤0:=by omega
 simp +contextual -implicitDefEqProofs (maxSteps:=10^7) only[go_sem,seval,↓gZ,U6,e1,e2,e3,e4,e5,e6]
 omega
theorem Vh (pW pH:Int) (pT:Bool) (pK:Int):Zk Xs Ms XT [(.d (.agg [J pW,J pH,.bool pT,J pK]))] []=some ((.d (.bool ((decide (VP (Pane.mk pW pH pT pK)))))),[]):=by
 refine Zc Xs Ms UE ZnA (by show 1≤_;decide) ?_
 simp +contextual -implicitDefEqProofs (maxSteps:=10^7) only[go_sem,seval,↓gZ,UE,Zv]
 first | exact Zh4 (by simp only[VP];omega) | skip
def V6:Nat→List Int→Int→Int
 | _,[],_=>-1
 | k,x :: l,n=>if x=n then (k:Int) else V6 (k+1) l n
theorem ZkU {l:List Int} {k:Nat} {x n:Int} (hx:l[k]?=some x):V6 k (l.drop k) n=if x=n then (k:Int) else V6 (k+1) (l.drop (k+1)) n:=by
 have h:=(List.getElem?_eq_some_iff.1 hx)
 obtain⟨h1,h2⟩:=h
 rw[List.drop_eq_getElem_cons h1,h2,V6]
theorem Zpu (l:List Int) (n:Int) (hl:l.length<4611686018427387904):Zk Xs Ms Jk [.d (.sl (l.map YF)),(.d (J n))] []=some ((.d (J (V6 0 l n))),[]):=by
 refine Zc Xs Ms ZaR Zrr (by show 2≤_;decide) ?_
 simp +contextual -implicitDefEqProofs (maxSteps:=10^7) only[go_sem,seval,↓gZ,ZaR]
 refine Qb Xs Ms (st0:=?st0) (α:=Nat) (fun k=>[(5,.d (J (k:Int)))]) (fun _=>[]) (fun k=>k≤l.length∧V6 k (l.drop k) n=V6 0 l n) (fun k=>l.length-k) 0 ?hc ⟨by omega,rfl⟩ ?h0 ?step
 case hc=>simp +contextual -implicitDefEqProofs (maxSteps:=10^7) only[go_sem,seval,↓gZ];exact rfl
 case h0=>rfl
 case step=>
  intro k ⟨hk,hp⟩ ih
  by_cases hlt:k<l.length
  ·obtain⟨x,hx⟩:=Z4 hlt
   rw[ZkU hx] at hp
   have hw:=ZD (k:=k) (by omega)
   simp +contextual -implicitDefEqProofs (maxSteps:=10^7) only[go_sem,seval,↓gZ,hx,hlt,hw]
   refine⟨fun h=>?_,fun h=>ih (k+1) _ ⟨by omega,?_⟩ (by omega) ?_⟩
   ·rw[if_pos h] at hp;rw[← hp]
   ·rw[if_neg h] at hp;exact hp
   ·simp +contextual -implicitDefEqProofs (maxSteps:=10^7) only[go_sem,seval,↓gZ]
  ·have:k=l.length:=by omega
   subst this
   simp +contextual -implicitDefEqProofs (maxSteps:=10^7) only[go_sem,seval,↓gZ]
   rw[← hp]
   simp[V6]
theorem ZkV (bs:List UInt8):Zk Xs Ms Wd [.d (.sl (bs.map Jr))] []=some (.ptr 0 0,[.box [.d (.sl ((bs.take 2000).map Jr)),(.d (J 0))]]):=by
 refine Zc Xs Ms Wk Znt (by show 1≤_;decide) ?_
 by_cases h:2000<bs.length
 ·have h1:(2000:Int)<bs.length:=by omega
  have h2:(2000:Int)≤bs.length:=by omega
  simp +contextual -implicitDefEqProofs (maxSteps:=10^7) only[go_sem,seval,↓gZ,Wk,h1,h2]
 ·have h1:¬(2000:Int)<bs.length:=by omega
  have h2:bs.take 2000=bs:=List.take_of_length_le (by omega)
  simp +contextual -implicitDefEqProofs (maxSteps:=10^7) only[go_sem,seval,↓gZ,Wk,h1,h2]
theorem ZfF (bs:List UInt8) (p:Nat) (n:Int) (hb:bs.length≤2000) (hp:p<1099511627776) :
  ∃ v:Int,Zk Xs Ms Zx [.ptr 0 0,(.d (J n))] [.box [.d (.sl (bs.map Jr)),(.d (J p))]]=some ((.d (J v)),[.box [.d (.sl (bs.map Jr)),(.d (J ((p+1:Nat))))]])∧0≤v∧(1≤n→v<n):=by
 have hw:=ZD (k:=p) (by omega)
 by_cases hn:n<1
 ·refine⟨0,?_,by omega,by omega⟩
  refine Zc Xs Ms QD UW (by show 2≤_;decide) ?_
  simp +contextual -implicitDefEqProofs (maxSteps:=10^7) only[go_sem,seval,↓gZ,QD,hw,hn]
 ·by_cases hl:bs.length=0
  ·refine⟨0,?_,by omega,by omega⟩
   refine Zc Xs Ms QD UW (by show 2≤_;decide) ?_
   simp +contextual -implicitDefEqProofs (maxSteps:=10^7) only[go_sem,seval,↓gZ,QD,hw,hn,hl]
  ·have hl' : ¬(bs.length:Int)=0:=by omega
   have hs:IntKind.i64.wrap (((p+1:Nat):Int)-1)=(p:Int):=by rw[Ja (by omega) (by omega)];omega
   have hn0:¬n=0:=by omega
   by_cases hlt:p<bs.length
   ·obtain⟨x,hx⟩:=Z4 hlt
    have hx2:(x.toNat:Int)<256:=by have:=x.toNat_lt;omega
    have hwx:IntKind.i64.wrap (x.toNat:Int)=(x.toNat:Int):=Ja (by omega) (by omega)
    refine⟨(x.toNat:Int).tmod n,?_,Int.tmod_nonneg _ (by omega),fun _=>Int.tmod_lt_of_pos _ (by omega)⟩
    refine Zc Xs Ms QD UW (by show 2≤_;decide) ?_
    simp +contextual -implicitDefEqProofs (maxSteps:=10^7) only[go_sem,seval,↓gZ,QD,hw,hn,hl',hs,hlt,hx,Jr,hwx,hn0]
   ·have hlen:0<bs.length:=by omega
    obtain⟨x,hx⟩:=Z4 (l:=bs) (k:=p % bs.length) (Nat.mod_lt _ hlen)
    obtain⟨y,hy⟩:=Z4 (l:=bs) (k:=(p*7+3) % bs.length) (Nat.mod_lt _ hlen)
    have hx2:(x.toNat:Int)<256:=by have:=x.toNat_lt;omega
    have hy2:(y.toNat:Int)<256:=by have:=y.toNat_lt;omega
    have e1:((p:Int)).tmod (bs.length:Int)=((p % bs.length:Nat):Int):=(Int.ofNat_tmod p bs.length).symm
    have e2:IntKind.i64.wrap ((p:Int)*7)=((p*7:Nat):Int):=by rw[Ja (by omega) (by omega)];omega
    have e3:IntKind.i64.wrap (((p*7:Nat):Int)+3)=((p*7+3:Nat):Int):=by rw[Ja (by omega) (by omega)];omega
    have e4:((p*7+3:Nat):Int).tmod (bs.length:Int)=(((p*7+3) % bs.length:Nat):Int):=(Int.ofNat_tmod _ _).symm
    obtain⟨q,hqe,hq⟩:∃ q:Nat,q=p / bs.length∧q≤p:=⟨_,rfl,Nat.div_le_self _ _⟩
    have e5:((p:Int)).tdiv (bs.length:Int)=(q:Int):=by rw[hqe];exact(Int.ofNat_tdiv p bs.length).symm
    clear hqe
    have w1:IntKind.i64.wrap (x.toNat:Int)=(x.toNat:Int):=Ja (by omega) (by omega)
    have w2:IntKind.i64.wrap (y.toNat:Int)=(y.toNat:Int):=Ja (by omega) (by omega)
    have w3:=wi ((x.toNat:Int)*131) (by omega) (by omega)
    have w4:=wi ((y.toNat:Int)*1117) (by omega) (by omega)
    have w5:=wi ((x.toNat:Int)*131+(y.toNat:Int)*1117) (by omega) (by omega)
    have w6:=wi ((p:Int)*29) (by omega) (by omega)
    have w7:=wi ((x.toNat:Int)*131+(y.toNat:Int)*1117+(p:Int)*29) (by omega) (by omega)
    have w8:=wi ((q:Int)) (by omega) (by omega)
    have w9:=wi ((q:Int)*53) (by omega) (by omega)
    have w10:=wi ((x.toNat:Int)*131+(y.toNat:Int)*1117+(p:Int)*29+(q:Int)*53) (by omega) (by omega)
    obtain⟨t,ht⟩:∃ t:Int,t=(x.toNat:Int)*131+(y.toNat:Int)*1117+(p:Int)*29+(q:Int)*53:=⟨_,rfl⟩
    have ht0:0≤t:=by omega
    have ht1:t<4611686018427387904:=by omega
    have hd0:0≤t.tdiv 64:=Int.tdiv_nonneg ht0 (by omega)
    have hd1:t.tdiv 64<4611686018427387904:=by
     rw[Int.tdiv_eq_ediv_of_nonneg ht0];omega
    have w11:=wi (t.tdiv 64) (by omega) (by omega)
    obtain⟨z,hz0,hz1,hz⟩:=Zv9 ht0 ht1 hd0 hd1
    rw[← ht] at w10
    refine⟨z.tmod n,?_,Int.tmod_nonneg _ hz0,fun _=>Int.tmod_lt_of_pos _ (by omega)⟩
    have hxb:JT .xor .i64 .i64 t (t.tdiv 64)=some (.d (J z)):=by simp only[JT,UK,asD,Ze,if_true,hz]
    refine Zc Xs Ms QD UW (by show 2≤_;decide) ?_
    simp +contextual -implicitDefEqProofs (maxSteps:=10^7) only[go_sem,seval,↓gZ,QD,hw,hn,hl',hs,hlt,Jr,hn0,e1,e2,e3,e4,e5,hx,hy,w1,w2,w3,w4,w5,w6,w7,w8,w9,w10,← ht,w11,hxb]
open Classical in
noncomputable def Q4 (bs:List UInt8) (p:Nat) (n:Int):Int:=if h:bs.length≤2000∧p<1099511627776 then (ZfF bs p n h.1 h.2).choose else 0
theorem Qw (bs:List UInt8) (p:Nat) (n:Int) (hb:bs.length≤2000) (hp:p<1099511627776) :
  Zk Xs Ms Zx [.ptr 0 0,(.d (J n))] [.box [.d (.sl (bs.map Jr)),(.d (J p))]]=some ((.d (J (Q4 bs p n))),[.box [.d (.sl (bs.map Jr)),(.d (J ((p+1:Nat))))]]):=by
 have h:bs.length≤2000∧p<1099511627776:=⟨hb,hp⟩
 unfold Q4
 rw[dif_pos h]
 exact(ZfF bs p n hb hp).choose_spec.1
theorem ZaA (bs:List UInt8) (p:Nat) (n:Int):0≤Q4 bs p n:=by
 unfold Q4
 split
 ·rename_i h;exact(ZfF bs p n h.1 h.2).choose_spec.2.1
 ·omega
theorem ZfG (bs:List UInt8) (p:Nat) (n:Int) (hn:1≤n):Q4 bs p n<n:=by
 unfold Q4
 split
 ·rename_i h;exact(ZfF bs p n h.1 h.2).choose_spec.2.2 hn
 ·omega
theorem Uy (bs:List UInt8) (p:Nat) (l:List Int) (hb:bs.length≤2000) (hp:p<1099511627776) (hl:1≤l.length) :
  ∃ v:Int,v∈l∧Zk Xs Ms Qm [.ptr 0 0,.d (.sl (l.map YF))] [.box [.d (.sl (bs.map Jr)),(.d (J p))]]=some ((.d (J v)),[.box [.d (.sl (bs.map Jr)),(.d (J ((p+1:Nat))))]]):=by
 have h0:=ZaA bs p l.length
 have h1:=ZfG bs p l.length (by omega)
 obtain⟨i,hi⟩:∃ i:Nat,Q4 bs p (l.length:Int)=(i:Int):=⟨(Q4 bs p (l.length:Int)).toNat,by omega⟩
 obtain⟨v,hv⟩:=Z4 (l:=l) (k:=i) (by omega)
 refine⟨v,List.mem_of_getElem? hv,?_⟩
 refine Zc Xs Ms WI Zlf (by show 2≤_;decide) ?_
 simp +contextual -implicitDefEqProofs (maxSteps:=10^7) only[go_sem,seval,↓gZ,WI,Qw bs p _ hb hp,hi,hv]
theorem Xp (pO pA pP:Int) (pT:Bool) (pK:List D):Zk Xs Ms Zag [.d (.agg [J pO,J pA,J pP,.bool pT,.sl pK])] []=some ((.d (.bool (decide (pO=2∨pO=3)))),[]):=by
 refine Zc Xs Ms Zdg Zvt (by show 1≤_;decide) ?_
 simp +contextual -implicitDefEqProofs (maxSteps:=10^7) only[go_sem,seval,↓gZ,Zdg]
theorem ZbK:∀ (n:Nat) (p:Zj),p.nodes≤n→Zk Xs Ms Yk [.d p.enc] []=some ((.d (J (ZB 255 (Xb p)))),[])
 | 0,.mk o a p t ks,hn=>by simp[Zj.nodes] at hn
 | n+1,.mk o a p t ks,hn=>by
  by_cases ho:o=2∨o=3
  ·by_cases hk:ks.length=2
   ·obtain⟨x,hx⟩:=Z4 (l:=ks) (k:=0) (by omega)
    obtain⟨y,hy⟩:=Z4 (l:=ks) (k:=1) (by omega)
    have ihx:=ZbK n x (Zf0 hn hx)
    have ihy:=ZbK n y (Zf0 hn hy)
    rw[Zo5 ho hk hx hy]
    obtain⟨lx,hlx⟩:∃ l,l=Xb x:=⟨_,rfl⟩
    obtain⟨ly,hly⟩:∃ l,l=Xb y:=⟨_,rfl⟩
    rw[← hlx] at ihx ⊢
    rw[← hly] at ihy ⊢
    have rx:=ZbB 255 (by omega) lx
    have ry:=ZbB 255 (by omega) ly
    have hk2:(ks.length:Int)=2:=by omega
    by_cases hp:p=0
    ·cases t with
     | true=>
      have hb:=Zej 255 o a p true lx ly (by simp)
      rw[hb]
      refine Zc Xs Ms ZK Xq (by show 1≤_;decide) ?_
      simp +contextual -implicitDefEqProofs (maxSteps:=10^7) only[go_sem,seval,↓gZ,ZK,Xp,ho,hp]
     | false=>
      subst hp
      rw[ZtR]
      obtain⟨sx,hsx⟩:∃ s,s=ZB 255 lx:=⟨_,rfl⟩
      obtain⟨sy,hsy⟩:∃ s,s=ZB 255 ly:=⟨_,rfl⟩
      rw[← hsx] at ihx rx ⊢
      rw[← hsy] at ihy ry ⊢
      have w1:=wi (1+sx) (by omega) (by omega)
      have w2:=wi (1+sx+sy) (by omega) (by omega)
      refine Zc Xs Ms ZK Xq (by show 1≤_;decide) ?_
      simp +contextual -implicitDefEqProofs (maxSteps:=10^7) only[go_sem,seval,↓gZ,ZK,Xp,ho,hk2]
      refine ZS Xs Ms ?_
      simp +contextual -implicitDefEqProofs (maxSteps:=10^7) only[go_sem,seval,↓gZ,hk2,hx,hy,ihx,ihy,w1,w2]
      intro h
      refine ZS Xs Ms ?_
      simp +contextual -implicitDefEqProofs (maxSteps:=10^7) only[go_sem,seval,↓gZ,hk2,hx,hy,ihx,ihy,w1,w2,h]
      intro h'
      refine ZS Xs Ms ?_
      simp +contextual -implicitDefEqProofs (maxSteps:=10^7) only[go_sem,seval,↓gZ,hk2,hx,hy,ihx,ihy,w1,w2,h,h']
    ·have hb:=Zej 255 o a p t lx ly (by simp[hp])
     rw[hb]
     refine Zc Xs Ms ZK Xq (by show 1≤_;decide) ?_
     simp +contextual -implicitDefEqProofs (maxSteps:=10^7) only[go_sem,seval,↓gZ,ZK,Xp,ho,hp]
   ·rw[Zja _ _ _ _ _ ho hk]
    refine Zc Xs Ms ZK Xq (by show 1≤_;decide) ?_
    have hk' : ¬(ks.length:Int)=2:=by omega
    simp +contextual -implicitDefEqProofs (maxSteps:=10^7) only[go_sem,seval,↓gZ,ZK,Xp,ho,hk',ZB]
  ·rw[ZmA ho]
   by_cases h1:ks.length=0∧a=0∧o=1
   ·rw[if_pos h1]
    obtain⟨h1,rfl,rfl⟩:=h1
    refine Zc Xs Ms ZK Xq (by show 1≤_;decide) ?_
    simp +contextual -implicitDefEqProofs (maxSteps:=10^7) only[go_sem,seval,↓gZ,ZK,Xp,ho,h1,ZB,BT.cnt]
    refine ZS Xs Ms ?_
    simp +contextual -implicitDefEqProofs (maxSteps:=10^7) only[go_sem,seval,↓gZ,h1]
   ·rw[if_neg h1]
    by_cases h2:ks.length=0∧a=0∧o=0∧p=0∧t=false
    ·rw[if_pos h2]
     obtain⟨h2,rfl,rfl,rfl,rfl⟩:=h2
     refine Zc Xs Ms ZK Xq (by show 1≤_;decide) ?_
     simp +contextual -implicitDefEqProofs (maxSteps:=10^7) only[go_sem,seval,↓gZ,ZK,Xp,ho,h2,ZB,BT.cnt]
     refine ZS Xs Ms ?_
     simp +contextual -implicitDefEqProofs (maxSteps:=10^7) only[go_sem,seval,↓gZ,h2]
    ·rw[if_neg h2]
     by_cases c1:ks.length=0
     ·by_cases c2:a=0
      ·by_cases c3:o=1
       ·exact absurd ⟨c1,c2,c3⟩ h1
       ·by_cases c4:o=0
        ·by_cases c5:p=0
         ·cases t with
          | false=>exact absurd ⟨c1,c2,c4,c5,rfl⟩ h2
          | true=>
           refine Zc Xs Ms ZK Xq (by show 1≤_;decide) ?_
           simp +contextual -implicitDefEqProofs (maxSteps:=10^7) only[go_sem,seval,↓gZ,ZK,Xp,ho,c1,c2,c3,c4,c5,ZB]
         ·refine Zc Xs Ms ZK Xq (by show 1≤_;decide) ?_
          simp +contextual -implicitDefEqProofs (maxSteps:=10^7) only[go_sem,seval,↓gZ,ZK,Xp,ho,c1,c2,c3,c4,c5,ZB]
        ·refine Zc Xs Ms ZK Xq (by show 1≤_;decide) ?_
         simp +contextual -implicitDefEqProofs (maxSteps:=10^7) only[go_sem,seval,↓gZ,ZK,Xp,ho,c1,c2,c3,c4,ZB]
      ·refine Zc Xs Ms ZK Xq (by show 1≤_;decide) ?_
       simp +contextual -implicitDefEqProofs (maxSteps:=10^7) only[go_sem,seval,↓gZ,ZK,Xp,ho,c1,c2,ZB]
     ·have c1' : ¬(ks.length:Int)=0:=by omega
      refine Zc Xs Ms ZK Xq (by show 1≤_;decide) ?_
      simp +contextual -implicitDefEqProofs (maxSteps:=10^7) only[go_sem,seval,↓gZ,ZK,Xp,ho,c1',ZB]
theorem Zgn (p:Zj):Zk Xs Ms Yk [.d p.enc] []=some ((.d (J (ZB 255 (Xb p)))),[]):=ZbK _ p (Nat.le_refl _)
theorem Zj7 (ps:List Pane) (hl:ps.length<4611686018427387904):Zk Xs Ms Vq [(.d (.sl (ps.map Pane.enc)))] []=some ((.d (.bool (decide (ps.length≤24∧VPs ps)))),[]):=by
 refine Zc Xs Ms WQ Zlr (by show 1≤_;decide) ?_
 simp +contextual -implicitDefEqProofs (maxSteps:=10^7) only[go_sem,seval,↓gZ,WQ]
 refine Qb Xs Ms (st0:=?st0) (α:=Nat) (fun k=>[(3,.d (J (k:Int)))]) (fun _=>[]) (fun k=>k≤ps.length∧(VPs ps↔VPs (ps.drop k))) (fun k=>ps.length-k) 0 ?hc ⟨by omega,by simp⟩ ?h0 ?step
 case hc=>simp +contextual -implicitDefEqProofs (maxSteps:=10^7) only[go_sem,seval,↓gZ];exact rfl
 case h0=>rfl
 case step=>
  intro k ⟨hk,hp⟩ ih
  by_cases hlt:k<ps.length
  ·obtain⟨x,hx⟩:=Z4 hlt
   rw[ZxX hx] at hp
   have hw:=ZD (k:=k) (by omega)
   simp +contextual -implicitDefEqProofs (maxSteps:=10^7) only[go_sem,seval,↓gZ,hx,hlt,hw,Vh]
   refine⟨fun h=>ZuP (fun hh=>h (hp.1 hh.2).1),fun h=>ih (k+1) _ ⟨by omega,?_⟩ (by omega) ?_⟩
   ·rw[hp];exact⟨fun hh=>hh.2,fun hh=>⟨h,hh⟩⟩
   ·simp +contextual -implicitDefEqProofs (maxSteps:=10^7) only[go_sem,seval,↓gZ]
  ·have:k=ps.length:=by omega
   subst this
   simp +contextual -implicitDefEqProofs (maxSteps:=10^7) only[go_sem,seval,↓gZ]
   have hv:VPs ps:=hp.2 (by simp[VPs])
   exact Zh4 ⟨fun h=>⟨by omega,hv⟩,fun h=>by omega⟩
theorem Jt (kW kH:Int) (kP:List Pane) (hl:kP.length<4611686018427387904):Zk Xs Ms Wj [(.d (.agg [J kW,J kH,.sl (kP.map Pane.enc)]))] []=some ((.d (.bool (decide (VW (Xk.mk kW kH kP))))),[]):=by
 refine Zc Xs Ms UJ ZnF (by show 1≤_;decide) ?_
 simp +contextual -implicitDefEqProofs (maxSteps:=10^7) only[go_sem,seval,↓gZ,UJ,Zv,Zj7 kP hl]
 exact Zh4 (by simp only[VW,and_assoc])
theorem Zab:∀ (n:Nat) (p:Zj),p.nodes≤n→∀ m:Int,-10≤m→m≤255→Zk Xs Ms X2 [.d p.enc,(.d (J m))] []=some ((.d (J (ZB m (Xb p)))),[])
 | 0,.mk o a p t ks,hn,m,_,_=>by simp[Zj.nodes] at hn
 | n+1,.mk o a p t ks,hn,m,hm1,hm2=>by
  by_cases hm:m<1
  ·rw[ZtS hm]
   refine Zc Xs Ms Zn QB (by show 2≤_;decide) ?_
   simp +contextual -implicitDefEqProofs (maxSteps:=10^7) only[go_sem,seval,↓gZ,Zn,hm]
  by_cases ho:o=2∨o=3
  ·have ho0:¬o=0:=by omega
   have ho1:¬o=1:=by omega
   by_cases hk:ks.length=2
   ·obtain⟨x,hx⟩:=Z4 (l:=ks) (k:=0) (by omega)
    obtain⟨y,hy⟩:=Z4 (l:=ks) (k:=1) (by omega)
    rw[Zo5 ho hk hx hy]
    have hk2:(ks.length:Int)=2:=by omega
    by_cases hp:p=0
    ·cases t with
     | true=>
      have hb:=Zej m o a p true (Xb x) (Xb y) (by simp)
      rw[hb]
      refine Zc Xs Ms Zn QB (by show 2≤_;decide) ?_
      rcases ho with ho | ho<;>simp +contextual -implicitDefEqProofs (maxSteps:=10^7) only[go_sem,seval,↓gZ,Zn,ho,hp,hm,hk2]
     | false=>
      subst hp
      rw[Zsl]
      have ihx:=Zab n x (Zf0 hn hx) (m-1) (by omega) (by omega)
      have rx:=ZbB (m-1) (by omega) (Xb x)
      have ihy:=Zab n y (Zf0 hn hy) (m-1-ZB (m-1) (Xb x)) (by omega) (by omega)
      have ry:=ZbB (m-1-ZB (m-1) (Xb x)) (by omega) (Xb y)
      obtain⟨sy,hsy⟩:∃ s,s=ZB (m-1-ZB (m-1) (Xb x)) (Xb y):=⟨_,rfl⟩
      rw[← hsy] at ihy ry ⊢
      obtain⟨sx,hsx⟩:∃ s,s=ZB (m-1) (Xb x):=⟨_,rfl⟩
      rw[← hsx] at ihx ihy rx ry ⊢
      clear hsx hsy
      have w0:=wi (m-1) (by omega) (by omega)
      have w1:=wi (m-1-sx) (by omega) (by omega)
      have w2:=wi (1+sx) (by omega) (by omega)
      have w3:=wi (1+sx+sy) (by omega) (by omega)
      refine Zc Xs Ms Zn QB (by show 2≤_;decide) ?_
      rcases ho with ho | ho<;>simp +contextual -implicitDefEqProofs (maxSteps:=10^7) only[go_sem,seval,↓gZ,Zn,ho,hm,hk2,hx,hy,ihx,ihy,w0,w1,w2,w3]
    ·have hb:=Zej m o a p t (Xb x) (Xb y) (by simp[hp])
     rw[hb]
     refine Zc Xs Ms Zn QB (by show 2≤_;decide) ?_
     rcases ho with ho | ho<;>simp +contextual -implicitDefEqProofs (maxSteps:=10^7) only[go_sem,seval,↓gZ,Zn,ho,hp,hm,hk2]
   ·rw[Zja _ _ _ _ _ ho hk]
    have hk' : ¬(ks.length:Int)=2:=by omega
    refine Zc Xs Ms Zn QB (by show 2≤_;decide) ?_
    rcases ho with ho | ho<;>simp +contextual -implicitDefEqProofs (maxSteps:=10^7) only[go_sem,seval,↓gZ,Zn,ho,hk',hm,ZB]
  ·rw[ZmA ho]
   have h2' : ¬o=2:=by omega
   have h3' : ¬o=3:=by omega
   have hm' : (1:Int)≤m:=by omega
   by_cases h1:ks.length=0∧a=0∧o=1
   ·rw[if_pos h1]
    obtain⟨h1,rfl,rfl⟩:=h1
    refine Zc Xs Ms Zn QB (by show 2≤_;decide) ?_
    simp +contextual -implicitDefEqProofs (maxSteps:=10^7) only[go_sem,seval,↓gZ,Zn,h1,hm,ZB,BT.cnt,hm']
   ·rw[if_neg h1]
    by_cases h2:ks.length=0∧a=0∧o=0∧p=0∧t=false
    ·rw[if_pos h2]
     obtain⟨h2,rfl,rfl,rfl,rfl⟩:=h2
     refine Zc Xs Ms Zn QB (by show 2≤_;decide) ?_
     simp +contextual -implicitDefEqProofs (maxSteps:=10^7) only[go_sem,seval,↓gZ,Zn,h2,hm,ZB,BT.cnt,hm']
    ·rw[if_neg h2]
     by_cases c1:ks.length=0
     ·by_cases c2:a=0
      ·by_cases c3:o=1
       ·exact absurd ⟨c1,c2,c3⟩ h1
       ·by_cases c4:o=0
        ·by_cases c5:p=0
         ·cases t with
          | false=>exact absurd ⟨c1,c2,c4,c5,rfl⟩ h2
          | true=>
           refine Zc Xs Ms Zn QB (by show 2≤_;decide) ?_
           simp +contextual -implicitDefEqProofs (maxSteps:=10^7) only[go_sem,seval,↓gZ,Zn,hm,c1,c2,c3,c4,c5,ZB]
         ·refine Zc Xs Ms Zn QB (by show 2≤_;decide) ?_
          simp +contextual -implicitDefEqProofs (maxSteps:=10^7) only[go_sem,seval,↓gZ,Zn,hm,c1,c2,c3,c4,c5,ZB]
        ·refine Zc Xs Ms Zn QB (by show 2≤_;decide) ?_
         simp +contextual -implicitDefEqProofs (maxSteps:=10^7) only[go_sem,seval,↓gZ,Zn,hm,c1,c2,c3,c4,h2',h3',ZB]
      ·refine Zc Xs Ms Zn QB (by show 2≤_;decide) ?_
       by_cases c3:o=1
       ·simp +contextual -implicitDefEqProofs (maxSteps:=10^7) only[go_sem,seval,↓gZ,Zn,hm,c1,c2,c3,ZB]
       ·by_cases c4:o=0
        ·simp +contextual -implicitDefEqProofs (maxSteps:=10^7) only[go_sem,seval,↓gZ,Zn,hm,c1,c2,c3,c4,ZB]
        ·simp +contextual -implicitDefEqProofs (maxSteps:=10^7) only[go_sem,seval,↓gZ,Zn,hm,c1,c2,c3,c4,h2',h3',ZB]
     ·have c1' : ¬(ks.length:Int)=0:=by omega
      refine Zc Xs Ms Zn QB (by show 2≤_;decide) ?_
      by_cases c3:o=1
      ·simp +contextual -implicitDefEqProofs (maxSteps:=10^7) only[go_sem,seval,↓gZ,Zn,hm,c1',c3,ZB]
      ·by_cases c4:o=0
       ·simp +contextual -implicitDefEqProofs (maxSteps:=10^7) only[go_sem,seval,↓gZ,Zn,hm,c1',c3,c4,ZB]
       ·simp +contextual -implicitDefEqProofs (maxSteps:=10^7) only[go_sem,seval,↓gZ,Zn,hm,c1',c3,c4,h2',h3',ZB]
theorem Zgo (p:Zj):Zk Xs Ms VL [.d p.enc] []=some ((.d (J (ZB 255 (Xb p)))),[]):=by
 have h:=Zab _ p (Nat.le_refl _) 255 (by omega) (by omega)
 obtain⟨o,a,q,t,ks⟩:=p
 rw[Zj.enc_mk] at h ⊢
 refine Zc Xs Ms JD ZpN (by show 1≤_;decide) ?_
 simp +contextual -implicitDefEqProofs (maxSteps:=10^7) only[go_sem,seval,↓gZ,JD,h]
theorem Zna {ps:List Pane} {i:Int} {t:Bool} {w h:Int} {k:Nat} {q:Pane} (hi:i=(k:Int)) (hq:ps[k]?=some q):ZaW ps i t w h=if t then q.Turns&&decide (¬q.W=q.H)&&decide (q.H=w)&&decide (q.W=h) else decide (q.W=w∧q.H=h):=by
 subst hi
 simp[ZaW,hq]
theorem Zpv {ps:List Pane} {i:Int} {t:Bool} {w h:Int} (hi:i<0∨(ps.length:Int)≤i):ZaW ps i t w h=false:=by
 unfold ZaW
 rcases hi with hi | hi
 ·have:¬0≤i:=by omega
  simp[this]
 ·have:ps[i.toNat]?=none:=List.getElem?_eq_none (by omega)
  simp[this]
def inB (g:Box):Prop:=0≤g.X∧0≤g.Y∧0≤g.W∧0≤g.H∧g.X+g.W≤1000∧g.Y+g.H≤1000
theorem Zj8 (kW kH:Int) (kP:List Pane) (i:Int) (t:Bool) (w h:Int) (hl:kP.length<4611686018427387904):Zk Xs Ms Xv [(.d (.agg [J kW,J kH,.sl (kP.map Pane.enc)])),.d (BT.pane i t).plan.enc,(.d (J w)),(.d (J h))] []=some ((.d (.bool (ZaW kP i t w h))),[]):=by
 have hw:=wi ((kP.length:Int)-1) (by omega) (by omega)
 simp only[BT.plan,Zj.enc_mk]
 by_cases h0:0≤i∧i≤(kP.length:Int)-1
 ·obtain⟨n,rfl⟩:∃ n:Nat,i=(n:Int):=⟨i.toNat,by omega⟩
  obtain⟨q,hq⟩:=Z4 (l:=kP) (k:=n) (by omega)
  rw[Zna rfl hq]
  refine Zc Xs Ms Qa VI (by show 4≤_;decide) ?_
  cases t
  ·simp +contextual -implicitDefEqProofs (maxSteps:=10^7) only[go_sem,seval,↓gZ,Qa,Zv,h0,hw,hq]
  ·simp +contextual -implicitDefEqProofs (maxSteps:=10^7) only[go_sem,seval,↓gZ,Qa,Zv,h0,hw,hq]
 ·rw[Zpv (by omega)]
  refine Zc Xs Ms Qa VI (by show 4≤_;decide) ?_
  simp +contextual -implicitDefEqProofs (maxSteps:=10^7) only[go_sem,seval,↓gZ,Qa,Zv,h0,hw]
theorem Uz (kW kH:Int) (kP:List Pane) (hl:kP.length<4611686018427387904):∀ (b:BT) (w h:Int),0≤w→w≤1000→0≤h→h≤1000→Zk Xs Ms Xv [(.d (.agg [J kW,J kH,.sl (kP.map Pane.enc)])),.d b.plan.enc,(.d (J w)),(.d (J h))] []=some ((.d (.bool (Uo kP b w h))),[])
 | .waste,w,h,hw0,hw1,hh0,hh1=>by
  simp only[BT.plan,Zj.enc_mk]
  refine Zc Xs Ms Qa VI (by show 4≤_;decide) ?_
  simp +contextual -implicitDefEqProofs (maxSteps:=10^7) only[go_sem,seval,↓gZ,Qa,Uo]
 | .pane i t,w,h,hw0,hw1,hh0,hh1=>Zj8 kW kH kP i t w h hl
 | .cut d a l r,w,h,hw0,hw1,hh0,hh1=>by
  have w1:=wi (w-1) (by omega) (by omega)
  have w2:=wi (h-1) (by omega) (by omega)
  simp only[BT.plan,Zj.enc_mk]
  cases d with
  | true=>
   by_cases h3:1≤a∧a≤w-1
   ·have w3:=wi (w-a) (by omega) (by omega)
    have e1:=Uz kW kH kP hl l a h (by omega) (by omega) hh0 hh1
    have e2:=Uz kW kH kP hl r (w-a) h (by omega) (by omega) hh0 hh1
    refine Zc Xs Ms Qa VI (by show 4≤_;decide) ?_
    simp +contextual -implicitDefEqProofs (maxSteps:=10^7) only[go_sem,seval,↓gZ,Qa,Uo,Za6,h3,Zv,w1,w2,w3,e1,e2]
   ·refine Zc Xs Ms Qa VI (by show 4≤_;decide) ?_
    simp +contextual -implicitDefEqProofs (maxSteps:=10^7) only[go_sem,seval,↓gZ,Qa,Uo,Za6,h3,Zv,w1,w2]
  | false=>
   by_cases h3:1≤a∧a≤h-1
   ·have w3:=wi (h-a) (by omega) (by omega)
    have e1:=Uz kW kH kP hl l w a hw0 hw1 (by omega) (by omega)
    have e2:=Uz kW kH kP hl r w (h-a) hw0 hw1 (by omega) (by omega)
    refine Zc Xs Ms Qa VI (by show 4≤_;decide) ?_
    simp +contextual -implicitDefEqProofs (maxSteps:=10^7) only[go_sem,seval,↓gZ,Qa,Uo,Za6,h3,Zv,w1,w2,w3,e1,e2]
   ·refine Zc Xs Ms Qa VI (by show 4≤_;decide) ?_
    simp +contextual -implicitDefEqProofs (maxSteps:=10^7) only[go_sem,seval,↓gZ,Qa,Uo,Za6,h3,Zv,w1,w2]
theorem ZeM (kW kH:Int) (kP:List Pane) (p:Zj) (hl:kP.length<4611686018427387904):Zk Xs Ms Y7 [(.d (.agg [J kW,J kH,.sl (kP.map Pane.enc)])),.d p.enc] []=some ((.d (.bool (ZdF (Xk.mk kW kH kP) p))),[]):=by
 have hs:=Zgn p
 unfold ZdF
 cases hb:Xb p with
 | none=>
  obtain⟨o,a,q,t,ks⟩:=p
  rw[hb] at hs
  rw[Zj.enc_mk] at hs ⊢
  refine Zc Xs Ms Q6 ZaC (by show 2≤_;decide) ?_
  simp +contextual -implicitDefEqProofs (maxSteps:=10^7) only[go_sem,seval,↓gZ,Q6,Jt kW kH kP hl,hs,ZB]
 | some b=>
  have hp:=ZbI hb
  rw[hb] at hs
  have hc:=b.cnt_pos
  have hz:=XG 255 b
  by_cases hv:VW (Xk.mk kW kH kP)
  ·have hv':=hv
   simp only[VW] at hv'
   have hf:=Uz kW kH kP hl b kW kH (by omega) (by omega) (by omega) (by omega)
   rw[← hp] at hf
   obtain⟨o,a,q,t,ks⟩:=p
   rw[Zj.enc_mk] at hs hf ⊢
   by_cases h2:b.cnt≤255
   ·have h3:ZB 255 (some b)=b.cnt:=by omega
    have h4:(0:Int)<b.cnt:=by omega
    rw[h3] at hs
    refine Zc Xs Ms Q6 ZaC (by show 2≤_;decide) ?_
    simp +contextual -implicitDefEqProofs (maxSteps:=10^7) only[go_sem,seval,↓gZ,Q6,Jt kW kH kP hl,hs,hf,hv,h2,h4]
   ·have h3:ZB 255 (some b)=-1:=by omega
    rw[h3] at hs
    refine Zc Xs Ms Q6 ZaC (by show 2≤_;decide) ?_
    simp +contextual -implicitDefEqProofs (maxSteps:=10^7) only[go_sem,seval,↓gZ,Q6,Jt kW kH kP hl,hs,hv,h2]
  ·obtain⟨o,a,q,t,ks⟩:=p
   rw[Zj.enc_mk] at hs ⊢
   refine Zc Xs Ms Q6 ZaC (by show 2≤_;decide) ?_
   simp +contextual -implicitDefEqProofs (maxSteps:=10^7) only[go_sem,seval,↓gZ,Q6,Jt kW kH kP hl,hs,hv]
end Go.Proofs.YtkdjbefmiiibpaaGreatDoor
