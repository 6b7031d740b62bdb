/- Own text. -/
import Derived.Test.YtbpekaejmjlmfaaGreatAbsLib
import Derived.Test.YtbpekaejmjlmfaaGreatACode
import Derived.Test.YtbpekaejmjlmfaaGreatAbsParts
set_option linter.unusedVariables false
set_option linter.unusedSimpArgs false
namespace Go.Abs.L
open Go Go.Abs
def I64 (z:Int):Prop:=-9223372036854775808≤z∧z<9223372036854775808
def Box.ok (b:Box):Prop:=I64 b.X∧I64 b.Y∧I64 b.W∧I64 b.H
def Pane.ok (p:Pane):Prop:=I64 p.W∧I64 p.H∧I64 p.Kind
def Zc.ok (l:Zc):Prop:=l.Pane.ok∧I64 l.Count
def Zs.ok (k:Zs):Prop:=I64 k.W∧I64 k.H∧k.Panes.length≤maxLen∧∀ p∈k.Panes,p.ok
def Place.ok (p:Place):Prop:=I64 p.Pane∧p.Box.ok
def Zb.ok (p:Zb):Prop:=I64 p.Label∧I64 p.W∧I64 p.H∧p.Flaws.length≤maxLen∧∀ b∈p.Flaws,b.ok
def Zm.ok (s:Zm):Prop:=(s.Stock.length≤maxLen∧∀ p∈s.Stock,p.ok)∧(s.Opn.length≤maxLen∧∀ l∈s.Opn,l.ok)∧(s.Done.length≤maxLen∧∀ l∈s.Done,l.ok)∧I64 s.Lost∧I64 s.Came
inductive Ze.ok:Ze→Prop
 | mk {o a p:Int} {t:Bool} {ks:List Ze}:I64 o→I64 a→I64 p→ks.length≤maxLen→(∀ k∈ks,Ze.ok k)→Ze.ok (.mk o a p t ks)
end Go.Abs.L
namespace Go.Proofs.YtbpekaejmjlmfaaGreat
open Go Go.Abs Go.Abs.E Go.Abs.L
open Nat (reduceMul reduceSub reduceLeDiff reduceEqDiff)
open Int (reduceLE reduceEq reduceToNat reduceNeg)
set_option linter.unusedSimpArgs false
set_option linter.unusedVariables false
set_option maxRecDepth 20000
set_option maxHeartbeats 4000000
theorem ZK (n lo hi:Int):Zd Xs Ms ZM [(.d (J n)),(.d (J lo)),(.d (J hi))] []=some ((.d (.bool ((decide (lo≤n∧n≤hi))))),[]):=by
 refine cE ?_;simp +contextual -implicitDefEqProofs (maxSteps:=10^7) only[go_sem,seval,↓gZ,Zhq]
theorem ZiT (bX bY bW bH:Int):Zd Xs Ms Zat [(.d (.agg [J bX,J bY,J bW,J bH]))] []=some ((.d (.bool ((decide (VB (Box.mk bX bY bW bH)))))),[]):=by
 refine cE ?_;simp +contextual -implicitDefEqProofs (maxSteps:=10^7) only[go_sem,seval,↓gZ,ZfY,ZK];have h1:=wi (200-bW);have h2:=wi (200-bH);exact Zcn (by simp only[VB];omega)
theorem Yk (bX bY bW bH:Int):Zd Xs Ms Yg [(.d (.agg [J bX,J bY,J bW,J bH]))] []=some ((.d (.bool ((decide (VB (Box.mk bX bY bW bH)))))),[]):=by
 refine cE ?_;simp +contextual -implicitDefEqProofs (maxSteps:=10^7) only[go_sem,seval,↓gZ,ZfW];have h1:=wi (200-bW);have h2:=wi (200-bH);exact⟨fun h=>ZhK (by simp only[VB];omega),fun h=>Zcn (by simp only[VB];omega)⟩
theorem Zru (aX aY aW aH:Int) (bX bY bW bH:Int) (ha:VB (Box.mk aX aY aW aH)) (h1:R64 bX) (h2:R64 bY) (h3:R64 (bX+bW)) (h4:R64 (bY+bH)):Zd Xs Ms Zau [(.d (.agg [J aX,J aY,J aW,J aH])),(.d (.agg [J bX,J bY,J bW,J bH]))] []=some ((.d (.bool ((decide (ZT (Box.mk aX aY aW aH) (Box.mk bX bY bW bH)))))),[]):=by
 refine cE ?_;simp only[VB] at ha;have e1:=wi (aX+aW) (by omega) (by omega);have e2:=wi (aY+aH) (by omega) (by omega);have e3:=wi (bX+bW) h3.1 h3.2;have e4:=wi (bY+bH) h4.1 h4.2;simp +contextual -implicitDefEqProofs (maxSteps:=10^7) only[go_sem,seval,↓gZ,ZfZ,e1,e2,e3,e4];exact Zcn (by simp only[ZT];omega)
theorem Zj6 (aX aY aW aH:Int) (bX bY bW bH:Int) (ha:VB (Box.mk aX aY aW aH)) (hb:VB (Box.mk bX bY bW bH)) (hm:Xu (Box.mk aX aY aW aH) (Box.mk bX bY bW bH)):Zd Xs Ms JM [(.d (.agg [J aX,J aY,J aW,J aH])),(.d (.agg [J bX,J bY,J bW,J bH]))] []=some (.tup [.d (ZgX (Box.mk aX aY aW aH) (Box.mk bX bY bW bH)).enc,(.d (.bool true))],[]):=by
 refine cE ?_;simp only[VB,Xu] at ha hb hm;have e1:=wi (aX+aW) (by omega) (by omega);have e2:=wi (aY+aH) (by omega) (by omega);have e3:=wi (bX+bW) (by omega) (by omega);have e4:=wi (bY+bH) (by omega) (by omega);have e5:=wi (min (aX+aW) (bX+bW)-max aX bX) (by omega) (by omega);have e6:=wi (min (aY+aH) (bY+bH)-max aY bY) (by omega) (by omega);have n1:¬(min (aX+aW) (bX+bW)-max aX bX≤0):=by omega
 have n2:¬(min (aY+aH) (bY+bH)-max aY bY≤0):=by omega
 simp +contextual -implicitDefEqProofs (maxSteps:=10^7) only[go_sem,seval,↓gZ,Zf0,e1,e2,e3,e4,e5,e6,n1,n2,ZgX]
theorem ZmA (aX aY aW aH:Int) (bX bY bW bH:Int) (ha:VB (Box.mk aX aY aW aH)) (hb:VB (Box.mk bX bY bW bH)) (hm:¬Xu (Box.mk aX aY aW aH) (Box.mk bX bY bW bH)):Zd Xs Ms JM [(.d (.agg [J aX,J aY,J aW,J aH])),(.d (.agg [J bX,J bY,J bW,J bH]))] []=some (.tup [.d (Box.enc ⟨0,0,0,0⟩),(.d (.bool false))],[]):=by
 refine cE ?_;simp only[VB,Xu] at ha hb hm;have e1:=wi (aX+aW) (by omega) (by omega);have e2:=wi (aY+aH) (by omega) (by omega);have e3:=wi (bX+bW) (by omega) (by omega);have e4:=wi (bY+bH) (by omega) (by omega);have e5:=wi (min (aX+aW) (bX+bW)-max aX bX) (by omega) (by omega);have e6:=wi (min (aY+aH) (bY+bH)-max aY bY) (by omega) (by omega);have n1:min (aX+aW) (bX+bW)-max aX bX≤0∨min (aY+aH) (bY+bH)-max aY bY≤0:=by omega
 simp +contextual -implicitDefEqProofs (maxSteps:=10^7) only[go_sem,seval,↓gZ,Zf0,e1,e2,e3,e4,e5,e6];omega
theorem Zcp (aX aY aW aH:Int) (bX bY bW bH:Int) (ha:VB (Box.mk aX aY aW aH)) (hb:VB (Box.mk bX bY bW bH)) (hm:Xu (Box.mk aX aY aW aH) (Box.mk bX bY bW bH)):Zd Xs Ms VV [(.d (.agg [J aX,J aY,J aW,J aH])),(.d (.agg [J bX,J bY,J bW,J bH]))] []=some (.tup [.d (ZgX (Box.mk aX aY aW aH) (Box.mk bX bY bW bH)).enc,(.d (.bool true))],[]):=by
 refine cE ?_;have aa:=ha;have ab:=hb;simp only[VB,Xu] at aa ab hm;have e1:=wi (aX+aW) (by omega) (by omega);have e2:=wi (aY+aH) (by omega) (by omega);have e3:=wi (bX+bW) (by omega) (by omega);have e4:=wi (bY+bH) (by omega) (by omega);have e5:=wi (min (aX+aW) (bX+bW)-max aX bX) (by omega) (by omega);have e6:=wi (min (aY+aH) (bY+bH)-max aY bY) (by omega) (by omega);have n1:¬(min (aX+aW) (bX+bW)≤max aX bX):=by omega
 have n2:¬(min (aY+aH) (bY+bH)≤max aY bY):=by omega
 simp +contextual -implicitDefEqProofs (maxSteps:=10^7) only[go_sem,seval,↓gZ,Zbn,Yk,ha,hb,e1,e2,e3,e4,e5,e6,n1,n2,ZgX]
theorem ZdY (aX aY aW aH:Int) (bX bY bW bH:Int) (hm:¬(VB (Box.mk aX aY aW aH)∧VB (Box.mk bX bY bW bH)∧Xu (Box.mk aX aY aW aH) (Box.mk bX bY bW bH))):Zd Xs Ms VV [(.d (.agg [J aX,J aY,J aW,J aH])),(.d (.agg [J bX,J bY,J bW,J bH]))] []=some (.tup [.d (Box.enc ⟨0,0,0,0⟩),(.d (.bool false))],[]):=by
 refine cE ?_;by_cases ha:VB (Box.mk aX aY aW aH)
 ·by_cases hb:VB (Box.mk bX bY bW bH)
  ·have aa:=ha;have ab:=hb;simp only[ha,hb,true_and] at hm;simp only[VB,Xu] at aa ab hm;have e1:=wi (aX+aW) (by omega) (by omega);have e2:=wi (aY+aH) (by omega) (by omega);have e3:=wi (bX+bW) (by omega) (by omega);have e4:=wi (bY+bH) (by omega) (by omega);simp +contextual -implicitDefEqProofs (maxSteps:=10^7) only[go_sem,seval,↓gZ,Zbn,Yk,ha,hb,e1,e2,e3,e4];omega
  ·simp +contextual -implicitDefEqProofs (maxSteps:=10^7) only[go_sem,seval,↓gZ,Zbn,Yk,ha,hb]
 ·simp +contextual -implicitDefEqProofs (maxSteps:=10^7) only[go_sem,seval,↓gZ,Zbn,Yk,ha]
theorem ZbA (aX aY aW aH:Int) (bX bY bW bH:Int):Zd Xs Ms YT [(.d (.agg [J aX,J aY,J aW,J aH])),(.d (.agg [J bX,J bY,J bW,J bH]))] []=some ((.d (.bool ((decide (VB (Box.mk aX aY aW aH)∧VB (Box.mk bX bY bW bH)∧ZT (Box.mk aX aY aW aH) (Box.mk bX bY bW bH)))))),[]):=by
 refine cE ?_;by_cases hm:VB (Box.mk aX aY aW aH)∧VB (Box.mk bX bY bW bH)∧Xu (Box.mk aX aY aW aH) (Box.mk bX bY bW bH)
 ·obtain⟨ha,hb,hm⟩:=hm;simp +contextual -implicitDefEqProofs (maxSteps:=10^7) only[go_sem,seval,↓gZ,Zcw,Zcp _ _ _ _ _ _ _ _ ha hb hm,ZgX];simp only[VB] at ha hb;simp only[Xu] at hm;exact Zcn (by simp only[VB,ZT];omega)
 ·simp +contextual -implicitDefEqProofs (maxSteps:=10^7) only[go_sem,seval,↓gZ,Zcw,ZdY _ _ _ _ _ _ _ _ hm];have:¬(VB (Box.mk aX aY aW aH)∧VB (Box.mk bX bY bW bH)∧ZT (Box.mk aX aY aW aH) (Box.mk bX bY bW bH)):=by
   intro⟨h1,h2,h3⟩;refine hm ⟨h1,h2,?_⟩;simp only[VB,ZT] at h1 h2 h3;simp only[Xu];omega
  exact ZhK this
theorem Vl (pW pH:Int) (pT:Bool) (pK:Int):Zd Xs Ms Yo [(.d (.agg [J pW,J pH,.bool pT,J pK]))] []=some ((.d (.bool ((decide (VP (Pane.mk pW pH pT pK)))))),[]):=by
 refine cE ?_;simp +contextual -implicitDefEqProofs (maxSteps:=10^7) only[go_sem,seval,↓gZ,ZeI,ZK]
 first | exact Zcn (by simp only[VP];omega) | skip
theorem J7 (pW pH:Int) (pT:Bool) (pK:Int):Zd Xs Ms Yn [(.d (.agg [J pW,J pH,.bool pT,J pK]))] []=some ((.d (.bool ((decide (VP (Pane.mk pW pH pT pK)))))),[]):=by
 refine cE ?_;simp +contextual -implicitDefEqProofs (maxSteps:=10^7) only[go_sem,seval,↓gZ,ZeG]
 first | exact Zcn (by simp only[VP];omega) | skip
def ZO:Nat→List Int→Int→Int
 | _,[],_=>-1
 | k,x :: l,n=>if x=n then (k:Int) else ZO (k+1) l n
theorem Zg1 {l:List Int} {k:Nat} {x n:Int} (hx:l[k]?=some x):ZO k (l.drop k) n=if x=n then (k:Int) else ZO (k+1) (l.drop (k+1)) n:=by
 have h:=(Kc.1 hx)
 obtain⟨h1,h2⟩:=h;rw[Ku h1,h2,ZO]
theorem Zj7 (l:List Int) (n:Int) (hl:l.length<4611686018427387904):Zd Xs Ms ZbW [.d (.sl (l.map Qg)),(.d (J n))] []=some ((.d (J (ZO 0 l n))),[]):=by
 refine cE ?_;simp +contextual -implicitDefEqProofs (maxSteps:=10^7) only[go_sem,seval,↓gZ,Zhx];refine LO (α:=Nat) (fun k=>[(5,.d (J (k:Int)))]) (fun _=>[]) (fun k=>k≤l.length∧ZO k (l.drop k) n=ZO 0 l n) (fun k=>l.length-k) 0 ⟨by omega,rfl⟩ ?_;intro k ⟨hk,hp⟩ ih;by_cases aa:k<l.length
 ·obtain⟨x,hx⟩:=Zl aa;rw[Zg1 hx] at hp;have hw:=Zh (k:=k) (by omega);simp +contextual -implicitDefEqProofs (maxSteps:=10^7) only[go_sem,seval,↓gZ,hx,aa,hw];refine⟨fun h=>?_,fun h=>ih (k+1) _ ⟨by omega,?_⟩ (by omega) ?_⟩
  ·rw[Kl h] at hp;rw[← hp]
  ·rw[Ki h] at hp;exact hp
  ·simp +contextual -implicitDefEqProofs (maxSteps:=10^7) only[go_sem,seval,↓gZ]
 ·have:k=l.length:=by omega
  subst this;simp +contextual -implicitDefEqProofs (maxSteps:=10^7) only[go_sem,seval,↓gZ];rw[← hp];simp[ZO]
theorem ZoA (bs:List UInt8):Zd Xs Ms Jc [.d (.sl (bs.map ZaU))] []=some (.ptr 0 0,[.box [.d (.sl ((bs.take 2000).map ZaU)),(.d (J 0))]]):=by
 refine cE ?_;by_cases h:2000<bs.length
 ·have h1:(2000:Int)<bs.length:=by omega
  have h2:(2000:Int)≤bs.length:=by omega
  simp +contextual -implicitDefEqProofs (maxSteps:=10^7) only[go_sem,seval,↓gZ,ZbF,h1,h2]
 ·have h1:¬(2000:Int)<bs.length:=by omega
  have h2:bs.take 2000=bs:=KB (by omega);simp +contextual -implicitDefEqProofs (maxSteps:=10^7) only[go_sem,seval,↓gZ,ZbF,h1,h2]
theorem Zid (bs:List UInt8) (p:Nat) (n:Int) (hb:bs.length≤2000) (hp:p<1099511627776) :
  ∃ v:Int,Zd Xs Ms ZB [.ptr 0 0,(.d (J n))] [.box [.d (.sl (bs.map ZaU)),(.d (J p))]]=some ((.d (J v)),[.box [.d (.sl (bs.map ZaU)),(.d (J ((p+1:Nat))))]])∧0≤v∧(1≤n→v<n):=by
 have hw:=Zh (k:=p) (by omega);by_cases hn:n<1
 ·refine⟨0,?_,by omega,by omega⟩;refine cE ?_;simp +contextual -implicitDefEqProofs (maxSteps:=10^7) only[go_sem,seval,↓gZ,YQ,hw,hn]
 ·by_cases hl:bs.length=0
  ·refine⟨0,?_,by omega,by omega⟩;refine cE ?_;simp +contextual -implicitDefEqProofs (maxSteps:=10^7) only[go_sem,seval,↓gZ,YQ,hw,hn,hl]
  ·have ae : ¬(bs.length:Int)=0:=by omega
   have hs:IntKind.i64.wrap (((p+1:Nat):Int)-1)=(p:Int):=by rw[U1 (by omega) (by omega)];omega
   have af:¬n=0:=by omega
   by_cases ab:p<bs.length
   ·obtain⟨x,hx⟩:=Zl ab;have ai:(x.toNat:Int)<256:=by have:=x.toNat_lt;omega
    have aj:IntKind.i64.wrap (x.toNat:Int)=(x.toNat:Int):=U1 (by omega) (by omega);refine⟨(x.toNat:Int).tmod n,?_,Int.tmod_nonneg _ (by omega),fun _=>Int.tmod_lt_of_pos _ (by omega)⟩;refine cE ?_;simp +contextual -implicitDefEqProofs (maxSteps:=10^7) only[go_sem,seval,↓gZ,YQ,hw,hn,ae,hs,ab,hx,ZaU,aj,af]
   ·have aa:0<bs.length:=by omega
    obtain⟨x,hx⟩:=Zl (l:=bs) (k:=p % bs.length) (Nat.mod_lt _ aa);obtain⟨y,hy⟩:=Zl (l:=bs) (k:=(p*7+3) % bs.length) (Nat.mod_lt _ aa);have ai:(x.toNat:Int)<256:=by have:=x.toNat_lt;omega
    have aq:(y.toNat:Int)<256:=by have:=y.toNat_lt;omega
    have e1:((p:Int)).tmod (bs.length:Int)=((p % bs.length:Nat):Int):=(Int.ofNat_tmod p bs.length).symm;have e2:IntKind.i64.wrap ((p:Int)*7)=((p*7:Nat):Int):=by rw[U1 (by omega) (by omega)];omega
    have e3:IntKind.i64.wrap (((p*7:Nat):Int)+3)=((p*7+3:Nat):Int):=by rw[U1 (by omega) (by omega)];omega
    have e4:((p*7+3:Nat):Int).tmod (bs.length:Int)=(((p*7+3) % bs.length:Nat):Int):=(Int.ofNat_tmod _ _).symm;obtain⟨q,ag,hq⟩:∃ q:Nat,q=p / bs.length∧q≤p:=⟨_,rfl,Nat.div_le_self _ _⟩
    have e5:((p:Int)).tdiv (bs.length:Int)=(q:Int):=by rw[ag];exact(Int.ofNat_tdiv p bs.length).symm
    clear ag;have w1:IntKind.i64.wrap (x.toNat:Int)=(x.toNat:Int):=U1 (by omega) (by omega);have w2:IntKind.i64.wrap (y.toNat:Int)=(y.toNat:Int):=U1 (by omega) (by omega);have w3:=wi ((x.toNat:Int)*131) (by omega) (by omega);have w4:=wi ((y.toNat:Int)*1117) (by omega) (by omega);have w5:=wi ((x.toNat:Int)*131+(y.toNat:Int)*1117) (by omega) (by omega);have w6:=wi ((p:Int)*29) (by omega) (by omega);have w7:=wi ((x.toNat:Int)*131+(y.toNat:Int)*1117+(p:Int)*29) (by omega) (by omega);have w8:=wi ((q:Int)) (by omega) (by omega);have w9:=wi ((q:Int)*53) (by omega) (by omega);have ah:=wi ((x.toNat:Int)*131+(y.toNat:Int)*1117+(p:Int)*29+(q:Int)*53) (by omega) (by omega)
    obtain⟨t,ht⟩:∃ t:Int,t=(x.toNat:Int)*131+(y.toNat:Int)*1117+(p:Int)*29+(q:Int)*53:=⟨_,rfl⟩
    have ad:0≤t:=by omega
    have ak:t<4611686018427387904:=by omega
    have al:0≤t.tdiv 64:=Int.tdiv_nonneg ad (by omega);have am:t.tdiv 64<4611686018427387904:=by
     rw[Int.tdiv_eq_ediv_of_nonneg ad];omega
    have an:=wi (t.tdiv 64) (by omega) (by omega);obtain⟨z,ao,ar,hz⟩:=ZAw ad ak al am;rw[← ht] at ah;refine⟨z.tmod n,?_,Int.tmod_nonneg _ ao,fun _=>Int.tmod_lt_of_pos _ (by omega)⟩;have ap:ZaM .xor .i64 .i64 t (t.tdiv 64)=some (.d (J z)):=by simp only[ZaM,Jp,asD,Zg,Kk,hz]
    refine cE ?_;simp +contextual -implicitDefEqProofs (maxSteps:=10^7) only[go_sem,seval,↓gZ,YQ,hw,hn,ae,hs,ab,ZaU,af,e1,e2,e3,e4,e5,hx,hy,w1,w2,w3,w4,w5,w6,w7,w8,w9,ah,← ht,an,ap]
open Classical in
noncomputable def Q1 (bs:List UInt8) (p:Nat) (n:Int):Int:=if h:bs.length≤2000∧p<1099511627776 then (Zid bs p n h.1 h.2).choose else 0
theorem Qp (bs:List UInt8) (p:Nat) (n:Int) (hb:bs.length≤2000) (hp:p<1099511627776) :
  Zd Xs Ms ZB [.ptr 0 0,(.d (J n))] [.box [.d (.sl (bs.map ZaU)),(.d (J p))]]=some ((.d (J (Q1 bs p n))),[.box [.d (.sl (bs.map ZaU)),(.d (J ((p+1:Nat))))]]):=by
 have h:bs.length≤2000∧p<1099511627776:=⟨hb,hp⟩
 unfold Q1;rw[dif_pos h];exact(Zid bs p n hb hp).choose_spec.1
theorem ZbB (bs:List UInt8) (p:Nat) (n:Int):0≤Q1 bs p n:=by
 unfold Q1;split
 ·rename_i h;exact(Zid bs p n h.1 h.2).choose_spec.2.1
 ·omega
theorem Zie (bs:List UInt8) (p:Nat) (n:Int) (hn:1≤n):Q1 bs p n<n:=by
 unfold Q1;split
 ·rename_i h;exact(Zid bs p n h.1 h.2).choose_spec.2.2 hn
 ·omega
theorem ZcS (bs:List UInt8) (p:Nat) (l:List Int) (hb:bs.length≤2000) (hp:p<1099511627776) (hl:1≤l.length) :
  ∃ v:Int,v∈l∧Zd Xs Ms Xf [.ptr 0 0,.d (.sl (l.map Qg))] [.box [.d (.sl (bs.map ZaU)),(.d (J p))]]=some ((.d (J v)),[.box [.d (.sl (bs.map ZaU)),(.d (J ((p+1:Nat))))]]):=by
 have h0:=ZbB bs p l.length;have h1:=Zie bs p l.length (by omega);obtain⟨i,hi⟩:∃ i:Nat,Q1 bs p (l.length:Int)=(i:Int):=⟨(Q1 bs p (l.length:Int)).toNat,by omega⟩
 obtain⟨v,hv⟩:=Zl (l:=l) (k:=i) (by omega);refine⟨v,Kb hv,?_⟩;refine cE ?_;simp +contextual -implicitDefEqProofs (maxSteps:=10^7) only[go_sem,seval,↓gZ,Zdh,Qp bs p _ hb hp,hi,hv]
theorem Xd (pO pA pP:Int) (pT:Bool) (pK:List D):Zd Xs Ms ZcL [.d (.agg [J pO,J pA,J pP,.bool pT,.sl pK])] []=some ((.d (.bool (decide (pO=2∨pO=3)))),[]):=by
 refine cE ?_;simp +contextual -implicitDefEqProofs (maxSteps:=10^7) only[go_sem,seval,↓gZ,ZlN]
theorem Zr (pO pA pP:Int) (pT:Bool) (pK:List D):Zd Xs Ms JU [.d (.agg [J pO,J pA,J pP,.bool pT,.sl pK])] []=some ((.d (.bool (decide (pO=2∨pO=3)))),[]):=by
 refine cE ?_;simp +contextual -implicitDefEqProofs (maxSteps:=10^7) only[go_sem,seval,↓gZ,ZlM]
theorem ZcT:∀ (n:Nat) (p:Ze),p.nodes≤n→Zd Xs Ms VX [.d p.enc] []=some ((.d (J (Zu 255 (Xz p)))),[])
 | 0,.mk o a p t ks,hn=>by simp[Ze.nodes] at hn
 | n+1,.mk o a p t ks,hn=>by
  by_cases ho:o=2∨o=3
  ·by_cases hk:ks.length=2
   ·obtain⟨x,hx⟩:=Zl (l:=ks) (k:=0) (by omega);obtain⟨y,hy⟩:=Zl (l:=ks) (k:=1) (by omega);have aa:=ZcT n x (ZiF hn hx);have ab:=ZcT n y (ZiF hn hy);rw[ZtB ho hk hx hy];obtain⟨lx,ae⟩:∃ l,l=Xz x:=⟨_,rfl⟩
    obtain⟨ly,af⟩:∃ l,l=Xz y:=⟨_,rfl⟩
    rw[← ae] at aa ⊢;rw[← af] at ab ⊢;have rx:=ZcC 255 (by omega) lx;have ry:=ZcC 255 (by omega) ly;have ad:(ks.length:Int)=2:=by omega
    by_cases hp:p=0
    ·cases t with
     | true=>
      have hb:=Zgw 255 o a p true lx ly (by simp);rw[hb];refine cE ?_;simp +contextual -implicitDefEqProofs (maxSteps:=10^7) only[go_sem,seval,↓gZ,QM,Xd,ho,hp]
     | false=>
      subst hp;rw[Zyj];obtain⟨sx,ag⟩:∃ s,s=Zu 255 lx:=⟨_,rfl⟩
      obtain⟨sy,ah⟩:∃ s,s=Zu 255 ly:=⟨_,rfl⟩
      rw[← ag] at aa rx ⊢;rw[← ah] at ab ry ⊢;have w1:=wi (1+sx) (by omega) (by omega);have w2:=wi (1+sx+sy) (by omega) (by omega);refine cE ?_;simp +contextual -implicitDefEqProofs (maxSteps:=10^7) only[go_sem,seval,↓gZ,QM,Xd,ho,ad];refine ZN Xs Ms ?_;simp +contextual -implicitDefEqProofs (maxSteps:=10^7) only[go_sem,seval,↓gZ,ad,hx,hy,aa,ab,w1,w2];intro h;refine ZN Xs Ms ?_;simp +contextual -implicitDefEqProofs (maxSteps:=10^7) only[go_sem,seval,↓gZ,ad,hx,hy,aa,ab,w1,w2,h];intro h';refine ZN Xs Ms ?_;simp +contextual -implicitDefEqProofs (maxSteps:=10^7) only[go_sem,seval,↓gZ,ad,hx,hy,aa,ab,w1,w2,h,h']
    ·have hb:=Zgw 255 o a p t lx ly (by simp[hp]);rw[hb];refine cE ?_;simp +contextual -implicitDefEqProofs (maxSteps:=10^7) only[go_sem,seval,↓gZ,QM,Xd,ho,hp]
   ·rw[Zmg _ _ _ _ _ ho hk];refine cE ?_;have ai : ¬(ks.length:Int)=2:=by omega
    simp +contextual -implicitDefEqProofs (maxSteps:=10^7) only[go_sem,seval,↓gZ,QM,Xd,ho,ai,Zu]
  ·rw[ZqU ho];by_cases h1:ks.length=0∧a=0∧o=1
   ·rw[Kl h1];obtain⟨h1,rfl,rfl⟩:=h1;refine cE ?_;simp +contextual -implicitDefEqProofs (maxSteps:=10^7) only[go_sem,seval,↓gZ,QM,Xd,ho,h1,Zu,BT.cnt];refine ZN Xs Ms ?_;simp +contextual -implicitDefEqProofs (maxSteps:=10^7) only[go_sem,seval,↓gZ,h1]
   ·rw[Ki h1];by_cases h2:ks.length=0∧a=0∧o=0∧p=0∧t=false
    ·rw[Kl h2];obtain⟨h2,rfl,rfl,rfl,rfl⟩:=h2;refine cE ?_;simp +contextual -implicitDefEqProofs (maxSteps:=10^7) only[go_sem,seval,↓gZ,QM,Xd,ho,h2,Zu,BT.cnt];refine ZN Xs Ms ?_;simp +contextual -implicitDefEqProofs (maxSteps:=10^7) only[go_sem,seval,↓gZ,h2]
    ·rw[Ki h2];by_cases c1:ks.length=0
     ·by_cases c2:a=0
      ·by_cases c3:o=1
       ·exact absurd ⟨c1,c2,c3⟩ h1
       ·by_cases c4:o=0
        ·by_cases c5:p=0
         ·cases t with
          | false=>exact absurd ⟨c1,c2,c4,c5,rfl⟩ h2
          | true=>
           refine cE ?_;simp +contextual -implicitDefEqProofs (maxSteps:=10^7) only[go_sem,seval,↓gZ,QM,Xd,ho,c1,c2,c3,c4,c5,Zu]
         ·refine cE ?_;simp +contextual -implicitDefEqProofs (maxSteps:=10^7) only[go_sem,seval,↓gZ,QM,Xd,ho,c1,c2,c3,c4,c5,Zu]
        ·refine cE ?_;simp +contextual -implicitDefEqProofs (maxSteps:=10^7) only[go_sem,seval,↓gZ,QM,Xd,ho,c1,c2,c3,c4,Zu]
      ·refine cE ?_;simp +contextual -implicitDefEqProofs (maxSteps:=10^7) only[go_sem,seval,↓gZ,QM,Xd,ho,c1,c2,Zu]
     ·have aj : ¬(ks.length:Int)=0:=by omega
      refine cE ?_;simp +contextual -implicitDefEqProofs (maxSteps:=10^7) only[go_sem,seval,↓gZ,QM,Xd,ho,aj,Zu]
theorem Zrv (p:Ze):Zd Xs Ms VX [.d p.enc] []=some ((.d (J (Zu 255 (Xz p)))),[]):=ZcT _ p (Kq _)
theorem Zni (ps:List Pane) (hl:ps.length<4611686018427387904):Zd Xs Ms W6 [(.d (.sl (ps.map Pane.enc)))] []=some ((.d (.bool (decide (ps.length≤24∧VPs ps)))),[]):=by
 refine cE ?_;simp +contextual -implicitDefEqProofs (maxSteps:=10^7) only[go_sem,seval,↓gZ,Zdv];refine LO (α:=Nat) (fun k=>[(3,.d (J (k:Int)))]) (fun _=>[]) (fun k=>k≤ps.length∧(VPs ps↔VPs (ps.drop k))) (fun k=>ps.length-k) 0 ⟨by omega,by simp⟩ ?_;intro k ⟨hk,hp⟩ ih;by_cases aa:k<ps.length
 ·obtain⟨x,hx⟩:=Zl aa;rw[ZwY hx] at hp;have hw:=Zh (k:=k) (by omega);simp +contextual -implicitDefEqProofs (maxSteps:=10^7) only[go_sem,seval,↓gZ,hx,aa,hw,Vl];refine⟨fun h=>ZhK (fun hh=>h (hp.1 hh.2).1),fun h=>ih (k+1) _ ⟨by omega,?_⟩ (by omega) ?_⟩
  ·rw[hp];exact⟨fun hh=>hh.2,fun hh=>⟨h,hh⟩⟩
  ·simp +contextual -implicitDefEqProofs (maxSteps:=10^7) only[go_sem,seval,↓gZ]
 ·have:k=ps.length:=by omega
  subst this;simp +contextual -implicitDefEqProofs (maxSteps:=10^7) only[go_sem,seval,↓gZ];have hv:VPs ps:=hp.2 (by simp[VPs]);exact Zcn ⟨fun h=>⟨by omega,hv⟩,fun h=>by omega⟩
theorem J8 (kW kH:Int) (kP:List Pane) (hl:kP.length<4611686018427387904):Zd Xs Ms Jm [(.d (.agg [J kW,J kH,.sl (kP.map Pane.enc)]))] []=some ((.d (.bool (decide (VW (Zs.mk kW kH kP))))),[]):=by
 refine cE ?_;simp +contextual -implicitDefEqProofs (maxSteps:=10^7) only[go_sem,seval,↓gZ,ZeP,ZK,Zni kP hl];exact Zcn (by simp only[VW,and_assoc])
theorem WR (kW kH:Int) (kP:List Pane):Zd Xs Ms Wm [(.d (.agg [J kW,J kH,.sl (kP.map Pane.enc)]))] []=some ((.d (.bool (decide (VW (Zs.mk kW kH kP))))),[]):=by
 refine cE ?_;by_cases h0:((((kW<1∨200<kW)∨kH<1)∨200<kH)∨(24:Int)<kP.length)
 ·simp +contextual -implicitDefEqProofs (maxSteps:=10^7) only[go_sem,seval,↓gZ,ZbG,h0];exact ZhK (by simp only[VW];omega)
 ·simp +contextual -implicitDefEqProofs (maxSteps:=10^7) only[go_sem,seval,↓gZ,ZbG,h0];refine LO (α:=Nat) (fun k=>[(32,.d (J (k:Int)))]) (fun _=>[]) (fun k=>k≤kP.length∧(VPs kP↔VPs (kP.drop k))) (fun k=>kP.length-k) 0 ⟨by omega,by simp⟩ ?_;intro k ⟨hk,hp⟩ ih;by_cases aa:k<kP.length
  ·obtain⟨x,hx⟩:=Zl aa;rw[ZwY hx] at hp;have hw:=Zh (k:=k) (by omega);simp +contextual -implicitDefEqProofs (maxSteps:=10^7) only[go_sem,seval,↓gZ,hx,aa,hw,J7];refine⟨fun h=>ZhK (fun hh=>h (hp.1 hh.2.2.2.2.2).1),fun h=>ih (k+1) _ ⟨by omega,?_⟩ (by omega) ?_⟩
   ·rw[hp];exact⟨fun hh=>hh.2,fun hh=>⟨h,hh⟩⟩
   ·simp +contextual -implicitDefEqProofs (maxSteps:=10^7) only[go_sem,seval,↓gZ,h0]
  ·have:k=kP.length:=by omega
   subst this;simp +contextual -implicitDefEqProofs (maxSteps:=10^7) only[go_sem,seval,↓gZ];have hv:VPs kP:=hp.2 (by simp[VPs]);exact Zzk (by simp only[VW];exact⟨by omega,by omega,by omega,by omega,by omega,hv⟩)
theorem Zbg:∀ (n:Nat) (p:Ze),p.nodes≤n→∀ m:Int,-10≤m→m≤255→Zd Xs Ms Yy [.d p.enc,(.d (J m))] []=some ((.d (J (Zu m (Xz p)))),[])
 | 0,.mk o a p t ks,hn,m,_,_=>by simp[Ze.nodes] at hn
 | n+1,.mk o a p t ks,hn,m,hm1,hm2=>by
  by_cases hm:m<1
  ·rw[Zyk hm];refine cE ?_;simp +contextual -implicitDefEqProofs (maxSteps:=10^7) only[go_sem,seval,↓gZ,ZQ,hm]
  by_cases ho:o=2∨o=3
  ·have al:¬o=0:=by omega
   have am:¬o=1:=by omega
   by_cases hk:ks.length=2
   ·obtain⟨x,hx⟩:=Zl (l:=ks) (k:=0) (by omega);obtain⟨y,hy⟩:=Zl (l:=ks) (k:=1) (by omega);rw[ZtB ho hk hx hy];have aa:(ks.length:Int)=2:=by omega
    by_cases hp:p=0
    ·cases t with
     | true=>
      have hb:=Zgw m o a p true (Xz x) (Xz y) (by simp);rw[hb];refine cE ?_;rcases ho with ho | ho<;>simp +contextual -implicitDefEqProofs (maxSteps:=10^7) only[go_sem,seval,↓gZ,ZQ,ho,hp,hm,aa]
     | false=>
      subst hp;rw[ZwX];have ag:=Zbg n x (ZiF hn hx) (m-1) (by omega) (by omega);have rx:=ZcC (m-1) (by omega) (Xz x);have ab:=Zbg n y (ZiF hn hy) (m-1-Zu (m-1) (Xz x)) (by omega) (by omega);have ry:=ZcC (m-1-Zu (m-1) (Xz x)) (by omega) (Xz y);obtain⟨sy,ah⟩:∃ s,s=Zu (m-1-Zu (m-1) (Xz x)) (Xz y):=⟨_,rfl⟩
      rw[← ah] at ab ry ⊢;obtain⟨sx,ai⟩:∃ s,s=Zu (m-1) (Xz x):=⟨_,rfl⟩
      rw[← ai] at ag ab rx ry ⊢;clear ai ah;have w0:=wi (m-1) (by omega) (by omega);have w1:=wi (m-1-sx) (by omega) (by omega);have w2:=wi (1+sx) (by omega) (by omega);have w3:=wi (1+sx+sy) (by omega) (by omega);refine cE ?_;rcases ho with ho | ho<;>simp +contextual -implicitDefEqProofs (maxSteps:=10^7) only[go_sem,seval,↓gZ,ZQ,ho,hm,aa,hx,hy,ag,ab,w0,w1,w2,w3]
    ·have hb:=Zgw m o a p t (Xz x) (Xz y) (by simp[hp]);rw[hb];refine cE ?_;rcases ho with ho | ho<;>simp +contextual -implicitDefEqProofs (maxSteps:=10^7) only[go_sem,seval,↓gZ,ZQ,ho,hp,hm,aa]
   ·rw[Zmg _ _ _ _ _ ho hk];have ak : ¬(ks.length:Int)=2:=by omega
    refine cE ?_;rcases ho with ho | ho<;>simp +contextual -implicitDefEqProofs (maxSteps:=10^7) only[go_sem,seval,↓gZ,ZQ,ho,ak,hm,Zu]
  ·rw[ZqU ho];have ad : ¬o=2:=by omega
   have ae : ¬o=3:=by omega
   have aj : (1:Int)≤m:=by omega
   by_cases h1:ks.length=0∧a=0∧o=1
   ·rw[Kl h1];obtain⟨h1,rfl,rfl⟩:=h1;refine cE ?_;simp +contextual -implicitDefEqProofs (maxSteps:=10^7) only[go_sem,seval,↓gZ,ZQ,h1,hm,Zu,BT.cnt,aj]
   ·rw[Ki h1];by_cases h2:ks.length=0∧a=0∧o=0∧p=0∧t=false
    ·rw[Kl h2];obtain⟨h2,rfl,rfl,rfl,rfl⟩:=h2;refine cE ?_;simp +contextual -implicitDefEqProofs (maxSteps:=10^7) only[go_sem,seval,↓gZ,ZQ,h2,hm,Zu,BT.cnt,aj]
    ·rw[Ki h2];by_cases c1:ks.length=0
     ·by_cases c2:a=0
      ·by_cases c3:o=1
       ·exact absurd ⟨c1,c2,c3⟩ h1
       ·by_cases c4:o=0
        ·by_cases c5:p=0
         ·cases t with
          | false=>exact absurd ⟨c1,c2,c4,c5,rfl⟩ h2
          | true=>
           refine cE ?_;simp +contextual -implicitDefEqProofs (maxSteps:=10^7) only[go_sem,seval,↓gZ,ZQ,hm,c1,c2,c3,c4,c5,Zu]
         ·refine cE ?_;simp +contextual -implicitDefEqProofs (maxSteps:=10^7) only[go_sem,seval,↓gZ,ZQ,hm,c1,c2,c3,c4,c5,Zu]
        ·refine cE ?_;simp +contextual -implicitDefEqProofs (maxSteps:=10^7) only[go_sem,seval,↓gZ,ZQ,hm,c1,c2,c3,c4,ad,ae,Zu]
      ·refine cE ?_;by_cases c3:o=1
       ·simp +contextual -implicitDefEqProofs (maxSteps:=10^7) only[go_sem,seval,↓gZ,ZQ,hm,c1,c2,c3,Zu]
       ·by_cases c4:o=0
        ·simp +contextual -implicitDefEqProofs (maxSteps:=10^7) only[go_sem,seval,↓gZ,ZQ,hm,c1,c2,c3,c4,Zu]
        ·simp +contextual -implicitDefEqProofs (maxSteps:=10^7) only[go_sem,seval,↓gZ,ZQ,hm,c1,c2,c3,c4,ad,ae,Zu]
     ·have af : ¬(ks.length:Int)=0:=by omega
      refine cE ?_;by_cases c3:o=1
      ·simp +contextual -implicitDefEqProofs (maxSteps:=10^7) only[go_sem,seval,↓gZ,ZQ,hm,af,c3,Zu]
      ·by_cases c4:o=0
       ·simp +contextual -implicitDefEqProofs (maxSteps:=10^7) only[go_sem,seval,↓gZ,ZQ,hm,af,c3,c4,Zu]
       ·simp +contextual -implicitDefEqProofs (maxSteps:=10^7) only[go_sem,seval,↓gZ,ZQ,hm,af,c3,c4,ad,ae,Zu]
theorem Wi (p:Ze):Zd Xs Ms Ye [.d p.enc] []=some ((.d (J (Zu 255 (Xz p)))),[]):=by
 have h:=Zbg _ p (Kq _) 255 (by omega) (by omega);obtain⟨o,a,q,t,ks⟩:=p;rw[Ze.enc_mk] at h ⊢;refine cE ?_;simp +contextual -implicitDefEqProofs (maxSteps:=10^7) only[go_sem,seval,↓gZ,ZfM,h]
theorem Zcq (kW kH:Int) (kP:List Pane):Zd Xs Ms VN [(.d (.agg [J kW,J kH,.sl (kP.map Pane.enc)]))] []=some (.d (.agg [J 0,J 0,J kW,J kH]),[]):=by
 refine cE ?_;simp +contextual -implicitDefEqProofs (maxSteps:=10^7) only[go_sem,seval,↓gZ,Zhs]
theorem ZiU {ps:List Pane} {i:Int} {t:Bool} {w h:Int} {k:Nat} {q:Pane} (hi:i=(k:Int)) (hq:ps[k]?=some q):Yc ps i t w h=if t then q.Turns&&decide (¬q.W=q.H)&&decide (q.H=w)&&decide (q.W=h) else decide (q.W=w∧q.H=h):=by
 subst hi;simp[Yc,hq]
theorem Zfy {ps:List Pane} {i:Int} {t:Bool} {w h:Int} (hi:i<0∨(ps.length:Int)≤i):Yc ps i t w h=false:=by
 unfold Yc;rcases hi with hi | hi
 ·have:¬0≤i:=by omega
  simp[this]
 ·have:ps[i.toNat]?=none:=KU (by omega);simp[this]
theorem Zg2 (kW kH:Int) (kP:List Pane) (i:Int) (t:Bool) (w h:Int):Zd Xs Ms Wo [(.d (.agg [J kW,J kH,.sl (kP.map Pane.enc)])),(.d (J i)),(.d (.bool t)),(.d (J w)),(.d (J h))] []=some ((.d (.bool (Yc kP i t w h))),[]):=by
 by_cases h0:i<0
 ·rw[Zfy (.inl h0)];refine cE ?_;simp +contextual -implicitDefEqProofs (maxSteps:=10^7) only[go_sem,seval,↓gZ,Wv,h0]
 ·by_cases h1:(kP.length:Int)≤i
  ·rw[Zfy (.inr h1)];refine cE ?_;simp +contextual -implicitDefEqProofs (maxSteps:=10^7) only[go_sem,seval,↓gZ,Wv,h0,h1]
  ·obtain⟨n,rfl⟩:∃ n:Nat,i=(n:Int):=⟨i.toNat,by omega⟩
   obtain⟨q,hq⟩:=Zl (l:=kP) (k:=n) (by omega);have hn:¬kP.length≤n:=by omega
   have aa : n<kP.length:=by omega
   have ab:¬(n:Int)<0:=by omega
   rw[ZiU rfl hq];refine cE ?_;cases t
   ·simp +contextual -implicitDefEqProofs (maxSteps:=10^7) only[go_sem,seval,↓gZ,Wv,ab,hn,hq,aa]
   ·simp +contextual -implicitDefEqProofs (maxSteps:=10^7) only[go_sem,seval,↓gZ,Wv,ab,hn,hq,aa]
theorem Jv (o a p:Int) (t:Bool) (ks:List D) (gX gY gW gH:Int) (ho:o=2) (h1:R64 (gX+a)) (h2:R64 (gW-a)):Zd Xs Ms Xg [.d (.agg [J o,J a,J p,.bool t,.sl ks]),(.d (.agg [J gX,J gY,J gW,J gH]))] [] =
  some (.tup [.d (.agg [J gX,J gY,J a,J gH]),.d (.agg [J (gX+a),J gY,J (gW-a),J gH])],[]):=by
 have w1:=wi (gX+a) h1.1 h1.2;have w2:=wi (gW-a) h2.1 h2.2;refine cE ?_;simp +contextual -implicitDefEqProofs (maxSteps:=10^7) only[go_sem,seval,↓gZ,UD,ho,w1,w2]
theorem WF (o a p:Int) (t:Bool) (ks:List D) (gX gY gW gH:Int) (ho:¬o=2) (h1:R64 (gY+a)) (h2:R64 (gH-a)):Zd Xs Ms Xg [.d (.agg [J o,J a,J p,.bool t,.sl ks]),(.d (.agg [J gX,J gY,J gW,J gH]))] [] =
  some (.tup [.d (.agg [J gX,J gY,J gW,J a]),.d (.agg [J gX,J (gY+a),J gW,J (gH-a)])],[]):=by
 have w1:=wi (gY+a) h1.1 h1.2;have w2:=wi (gH-a) h2.1 h2.2;refine cE ?_;simp +contextual -implicitDefEqProofs (maxSteps:=10^7) only[go_sem,seval,↓gZ,UD,ho,w1,w2]
def inB (g:Box):Prop:=0≤g.X∧0≤g.Y∧0≤g.W∧0≤g.H∧g.X+g.W≤1000∧g.Y+g.H≤1000
theorem U4 (kW kH:Int) (kP:List Pane):∀ (b:BT) (gX gY gW gH:Int),inB (Box.mk gX gY gW gH)→Zd Xs Ms VR [(.d (.agg [J kW,J kH,.sl (kP.map Pane.enc)])),.d b.plan.enc,(.d (.agg [J gX,J gY,J gW,J gH]))] []=some ((.d (.bool (QF kP b gW gH))),[])
 | .waste,gX,gY,gW,gH,hg=>by
  simp only[BT.plan,Ze.enc_mk];refine cE ?_;simp +contextual -implicitDefEqProofs (maxSteps:=10^7) only[go_sem,seval,↓gZ,XN,QF]
 | .pane i t,gX,gY,gW,gH,hg=>by
  simp only[BT.plan,Ze.enc_mk];refine cE ?_;simp +contextual -implicitDefEqProofs (maxSteps:=10^7) only[go_sem,seval,↓gZ,XN,Zg2,QF]
 | .cut d a l r,gX,gY,gW,gH,hg=>by
  simp only[inB] at hg;simp only[BT.plan,Ze.enc_mk];cases d with
  | true=>
   by_cases h1:a<1
   ·have h2:¬(1≤a∧a≤gW-1):=by omega
    refine cE ?_;simp +contextual -implicitDefEqProofs (maxSteps:=10^7) only[go_sem,seval,↓gZ,XN,QF,Z9,h1,h2]
   ·by_cases h2:gW≤a
    ·have h3:¬(1≤a∧a≤gW-1):=by omega
     refine cE ?_;simp +contextual -implicitDefEqProofs (maxSteps:=10^7) only[go_sem,seval,↓gZ,XN,QF,Z9,h1,h2,h3]
    ·have h3:1≤a∧a≤gW-1:=by omega
     have e0:=Jv 2 a 0 false [l.plan.enc,r.plan.enc] gX gY gW gH rfl ⟨by omega,by omega⟩ ⟨by omega,by omega⟩;have e1:=U4 kW kH kP l gX gY a gH (by simp only[inB];omega);have e2:=U4 kW kH kP r (gX+a) gY (gW-a) gH (by simp only[inB];omega);refine cE ?_;simp +contextual -implicitDefEqProofs (maxSteps:=10^7) only[go_sem,seval,↓gZ,XN,QF,Z9,h1,h2,h3,e0,e1,e2]
  | false=>
   by_cases h1:a<1
   ·have h2:¬(1≤a∧a≤gH-1):=by omega
    refine cE ?_;simp +contextual -implicitDefEqProofs (maxSteps:=10^7) only[go_sem,seval,↓gZ,XN,QF,Z9,h1,h2]
   ·by_cases h2:gH≤a
    ·have h3:¬(1≤a∧a≤gH-1):=by omega
     refine cE ?_;simp +contextual -implicitDefEqProofs (maxSteps:=10^7) only[go_sem,seval,↓gZ,XN,QF,Z9,h1,h2,h3]
    ·have h3:1≤a∧a≤gH-1:=by omega
     have e0:=WF 3 a 0 false [l.plan.enc,r.plan.enc] gX gY gW gH (by decide) ⟨by omega,by omega⟩ ⟨by omega,by omega⟩;have e1:=U4 kW kH kP l gX gY gW a (by simp only[inB];omega);have e2:=U4 kW kH kP r gX (gY+a) gW (gH-a) (by simp only[inB];omega);refine cE ?_;simp +contextual -implicitDefEqProofs (maxSteps:=10^7) only[go_sem,seval,↓gZ,XN,QF,Z9,h1,h2,h3,e0,e1,e2]
theorem Znj (kW kH:Int) (kP:List Pane) (i:Int) (t:Bool) (w h:Int) (hl:kP.length<4611686018427387904):Zd Xs Ms XL [(.d (.agg [J kW,J kH,.sl (kP.map Pane.enc)])),.d (BT.pane i t).plan.enc,(.d (J w)),(.d (J h))] []=some ((.d (.bool (Yc kP i t w h))),[]):=by
 have hw:=wi ((kP.length:Int)-1) (by omega) (by omega);simp only[BT.plan,Ze.enc_mk];by_cases h0:0≤i∧i≤(kP.length:Int)-1
 ·obtain⟨n,rfl⟩:∃ n:Nat,i=(n:Int):=⟨i.toNat,by omega⟩
  obtain⟨q,hq⟩:=Zl (l:=kP) (k:=n) (by omega);rw[ZiU rfl hq];refine cE ?_;cases t
  ·simp +contextual -implicitDefEqProofs (maxSteps:=10^7) only[go_sem,seval,↓gZ,XO,ZK,h0,hw,hq]
  ·simp +contextual -implicitDefEqProofs (maxSteps:=10^7) only[go_sem,seval,↓gZ,XO,ZK,h0,hw,hq]
 ·rw[Zfy (by omega)];refine cE ?_;simp +contextual -implicitDefEqProofs (maxSteps:=10^7) only[go_sem,seval,↓gZ,XO,ZK,h0,hw]
theorem U5 (kW kH:Int) (kP:List Pane) (hl:kP.length<4611686018427387904):∀ (b:BT) (w h:Int),0≤w→w≤1000→0≤h→h≤1000→Zd Xs Ms XL [(.d (.agg [J kW,J kH,.sl (kP.map Pane.enc)])),.d b.plan.enc,(.d (J w)),(.d (J h))] []=some ((.d (.bool (QF kP b w h))),[])
 | .waste,w,h,hw0,hw1,hh0,hh1=>by
  simp only[BT.plan,Ze.enc_mk];refine cE ?_;simp +contextual -implicitDefEqProofs (maxSteps:=10^7) only[go_sem,seval,↓gZ,XO,QF]
 | .pane i t,w,h,hw0,hw1,hh0,hh1=>Znj kW kH kP i t w h hl
 | .cut d a l r,w,h,hw0,hw1,hh0,hh1=>by
  have w1:=wi (w-1) (by omega) (by omega);have w2:=wi (h-1) (by omega) (by omega);simp only[BT.plan,Ze.enc_mk];cases d with
  | true=>
   by_cases h3:1≤a∧a≤w-1
   ·have w3:=wi (w-a) (by omega) (by omega);have e1:=U5 kW kH kP hl l a h (by omega) (by omega) hh0 hh1;have e2:=U5 kW kH kP hl r (w-a) h (by omega) (by omega) hh0 hh1;refine cE ?_;simp +contextual -implicitDefEqProofs (maxSteps:=10^7) only[go_sem,seval,↓gZ,XO,QF,Z9,h3,ZK,w1,w2,w3,e1,e2]
   ·refine cE ?_;simp +contextual -implicitDefEqProofs (maxSteps:=10^7) only[go_sem,seval,↓gZ,XO,QF,Z9,h3,ZK,w1,w2]
  | false=>
   by_cases h3:1≤a∧a≤h-1
   ·have w3:=wi (h-a) (by omega) (by omega);have e1:=U5 kW kH kP hl l w a hw0 hw1 (by omega) (by omega);have e2:=U5 kW kH kP hl r w (h-a) hw0 hw1 (by omega) (by omega);refine cE ?_;simp +contextual -implicitDefEqProofs (maxSteps:=10^7) only[go_sem,seval,↓gZ,XO,QF,Z9,h3,ZK,w1,w2,w3,e1,e2]
   ·refine cE ?_;simp +contextual -implicitDefEqProofs (maxSteps:=10^7) only[go_sem,seval,↓gZ,XO,QF,Z9,h3,ZK,w1,w2]
theorem WS (kW kH:Int) (kP:List Pane) (p:Ze):Zd Xs Ms XH [(.d (.agg [J kW,J kH,.sl (kP.map Pane.enc)])),.d p.enc] []=some ((.d (.bool (Q6 (Zs.mk kW kH kP) p))),[]):=by
 have hs:=Wi p;unfold Q6;cases hb:Xz p with
 | none=>
  obtain⟨o,a,q,t,ks⟩:=p;rw[hb] at hs;rw[Ze.enc_mk] at hs ⊢;refine cE ?_;simp +contextual -implicitDefEqProofs (maxSteps:=10^7) only[go_sem,seval,↓gZ,Ws,WR,hs,Zu]
 | some b=>
  have hp:=ZcO hb;rw[hb] at hs;have hc:=b.cnt_pos;have hz:=Ql 255 b;by_cases hv:VW (Zs.mk kW kH kP)
  ·have aa:=hv;simp only[VW] at aa;have hf:=U4 kW kH kP b 0 0 kW kH (by simp only[inB];omega);rw[← hp] at hf;obtain⟨o,a,q,t,ks⟩:=p;rw[Ze.enc_mk] at hs hf ⊢;by_cases h2:b.cnt≤255
   ·have h3:Zu 255 (some b)=b.cnt:=by omega
    have h4:(0:Int)<b.cnt:=by omega
    rw[h3] at hs;refine cE ?_;simp +contextual -implicitDefEqProofs (maxSteps:=10^7) only[go_sem,seval,↓gZ,Ws,WR,Zcq,hs,hf,hv,h2,h4]
   ·have h3:Zu 255 (some b)=-1:=by omega
    rw[h3] at hs;refine cE ?_;simp +contextual -implicitDefEqProofs (maxSteps:=10^7) only[go_sem,seval,↓gZ,Ws,WR,hs,hv,h2]
  ·obtain⟨o,a,q,t,ks⟩:=p;rw[Ze.enc_mk] at hs ⊢;refine cE ?_;simp +contextual -implicitDefEqProofs (maxSteps:=10^7) only[go_sem,seval,↓gZ,Ws,WR,hs,hv]
theorem Zg3 (kW kH:Int) (kP:List Pane) (p:Ze) (hl:kP.length<4611686018427387904):Zd Xs Ms Wq [(.d (.agg [J kW,J kH,.sl (kP.map Pane.enc)])),.d p.enc] []=some ((.d (.bool (Q6 (Zs.mk kW kH kP) p))),[]):=by
 have hs:=Zrv p;unfold Q6;cases hb:Xz p with
 | none=>
  obtain⟨o,a,q,t,ks⟩:=p;rw[hb] at hs;rw[Ze.enc_mk] at hs ⊢;refine cE ?_;simp +contextual -implicitDefEqProofs (maxSteps:=10^7) only[go_sem,seval,↓gZ,Ww,J8 kW kH kP hl,hs,Zu]
 | some b=>
  have hp:=ZcO hb;rw[hb] at hs;have hc:=b.cnt_pos;have hz:=Ql 255 b;by_cases hv:VW (Zs.mk kW kH kP)
  ·have aa:=hv;simp only[VW] at aa;have hf:=U5 kW kH kP hl b kW kH (by omega) (by omega) (by omega) (by omega);rw[← hp] at hf;obtain⟨o,a,q,t,ks⟩:=p;rw[Ze.enc_mk] at hs hf ⊢;by_cases h2:b.cnt≤255
   ·have h3:Zu 255 (some b)=b.cnt:=by omega
    have h4:(0:Int)<b.cnt:=by omega
    rw[h3] at hs;refine cE ?_;simp +contextual -implicitDefEqProofs (maxSteps:=10^7) only[go_sem,seval,↓gZ,Ww,J8 kW kH kP hl,hs,hf,hv,h2,h4]
   ·have h3:Zu 255 (some b)=-1:=by omega
    rw[h3] at hs;refine cE ?_;simp +contextual -implicitDefEqProofs (maxSteps:=10^7) only[go_sem,seval,↓gZ,Ww,J8 kW kH kP hl,hs,hv,h2]
  ·obtain⟨o,a,q,t,ks⟩:=p;rw[Ze.enc_mk] at hs ⊢;refine cE ?_;simp +contextual -implicitDefEqProofs (maxSteps:=10^7) only[go_sem,seval,↓gZ,Ww,J8 kW kH kP hl,hs,hv]
theorem aF {α:Type} {l:List α} {g:α→D} (h:∀ x,(g x).flat=true):Za7 D.flat (l.map g)=true:=by
 induction l with
 | nil=>rfl
 | cons x l ih=>simp[Za7,h,ih]
def plO:List Ze→Zn
 | []=>.row 5 [] true false
 | k :: r=>.tree 5 5 ((k :: r).map Ze.enc) none
@[go_sem] theorem ZyS:plO []=.row 5 [] true false:=rfl
@[go_sem] theorem plO_cons (k:Ze) (r:List Ze):plO (k :: r)=.tree 5 5 ((k :: r).map Ze.enc) none:=rfl
theorem Zlm:∀ {ks:List Ze},ks≠[]→plO ks=.tree 5 5 (ks.map Ze.enc) none
 | [],h=>absurd rfl h
 | _ :: _,_=>rfl
end Go.Proofs.YtbpekaejmjlmfaaGreat
