/- Own text. -/
import Derived.Test.YtefabmohhbhlfaaACode
import Derived.Test.YtefabmohhbhlfaaAbsParts
import Derived.Test.YtefabmohhbhlfaaAbsOkD
namespace Go.Proofs.Ytefabmohhbhlfaa
open Go Go.Abs Go.Abs.E Go.Abs.L
open Nat (reduceMul reduceSub reduceLeDiff reduceEqDiff)
open Int (reduceLE reduceEq reduceToNat reduceNeg)
set_option linter.unusedSimpArgs false
set_option linter.unusedVariables false
set_option maxRecDepth 20000
set_option maxHeartbeats 4000000
theorem Vs (n lo hi:Int):Zi Xs Ms QB [(.d (J n)),(.d (J lo)),(.d (J hi))] []=some ((.d (.bool ((decide (lo≤n∧n≤hi))))),[]):=by
 refine cE ?_;simp +contextual -implicitDefEqProofs (maxSteps:=10^7) only[go_sem,seval,↓gZ,Zck]
theorem YD (bX bY bW bH:Int):Zi Xs Ms XL [(.d (.agg [J bX,J bY,J bW,J bH]))] []=some ((.d (.bool ((decide (VB (Box.mk bX bY bW bH)))))),[]):=by
 refine cE ?_;simp +contextual -implicitDefEqProofs (maxSteps:=10^7) only[go_sem,seval,↓gZ,Zbp];have h1:=wi (200-bW);have h2:=wi (200-bH);exact⟨fun h=>ZnQ (by simp only[VB];omega),fun h=>Zjl (by simp only[VB];omega)⟩
theorem Zev (aX aY aW aH:Int) (bX bY bW bH:Int) (ha:VB (Box.mk aX aY aW aH)) (hb:VB (Box.mk bX bY bW bH)) (hm:XP (Box.mk aX aY aW aH) (Box.mk bX bY bW bH)):Zi Xs Ms Wi [(.d (.agg [J aX,J aY,J aW,J aH])),(.d (.agg [J bX,J bY,J bW,J bH]))] []=some (.tup [.d (Zln (Box.mk aX aY aW aH) (Box.mk bX bY bW bH)).enc,(.d (.bool true))],[]):=by
 refine cE ?_;have aa:=ha;have ab:=hb;simp only[VB,XP] at aa ab hm;have e1:=wi (aX+aW) (by omega) (by omega);have e2:=wi (aY+aH) (by omega) (by omega);have e3:=wi (bX+bW) (by omega) (by omega);have e4:=wi (bY+bH) (by omega) (by omega);have e5:=wi (min (aX+aW) (bX+bW)-max aX bX) (by omega) (by omega);have e6:=wi (min (aY+aH) (bY+bH)-max aY bY) (by omega) (by omega);have n1:¬(min (aX+aW) (bX+bW)≤max aX bX):=by omega
 have n2:¬(min (aY+aH) (bY+bH)≤max aY bY):=by omega
 simp +contextual -implicitDefEqProofs (maxSteps:=10^7) only[go_sem,seval,↓gZ,Uk,YD,ha,hb,e1,e2,e3,e4,e5,e6,n1,n2,Zln]
theorem Zgx (aX aY aW aH:Int) (bX bY bW bH:Int) (hm:¬(VB (Box.mk aX aY aW aH)∧VB (Box.mk bX bY bW bH)∧XP (Box.mk aX aY aW aH) (Box.mk bX bY bW bH))):Zi Xs Ms Wi [(.d (.agg [J aX,J aY,J aW,J aH])),(.d (.agg [J bX,J bY,J bW,J bH]))] []=some (.tup [.d (Box.enc ⟨0,0,0,0⟩),(.d (.bool false))],[]):=by
 refine cE ?_;by_cases ha:VB (Box.mk aX aY aW aH)
 ·by_cases hb:VB (Box.mk bX bY bW bH)
  ·have aa:=ha;have ab:=hb;simp only[ha,hb,true_and] at hm;simp only[VB,XP] at aa ab hm;have e1:=wi (aX+aW) (by omega) (by omega);have e2:=wi (aY+aH) (by omega) (by omega);have e3:=wi (bX+bW) (by omega) (by omega);have e4:=wi (bY+bH) (by omega) (by omega);simp +contextual -implicitDefEqProofs (maxSteps:=10^7) only[go_sem,seval,↓gZ,Uk,YD,ha,hb,e1,e2,e3,e4];omega
  ·simp +contextual -implicitDefEqProofs (maxSteps:=10^7) only[go_sem,seval,↓gZ,Uk,YD,ha,hb]
 ·simp +contextual -implicitDefEqProofs (maxSteps:=10^7) only[go_sem,seval,↓gZ,Uk,YD,ha]
theorem Zdz (aX aY aW aH:Int) (bX bY bW bH:Int):Zi Xs Ms VC [(.d (.agg [J aX,J aY,J aW,J aH])),(.d (.agg [J bX,J bY,J bW,J bH]))] []=some ((.d (.bool ((decide (VB (Box.mk aX aY aW aH)∧VB (Box.mk bX bY bW bH)∧ZQ (Box.mk aX aY aW aH) (Box.mk bX bY bW bH)))))),[]):=by
 refine cE ?_;by_cases hm:VB (Box.mk aX aY aW aH)∧VB (Box.mk bX bY bW bH)∧XP (Box.mk aX aY aW aH) (Box.mk bX bY bW bH)
 ·obtain⟨ha,hb,hm⟩:=hm;simp +contextual -implicitDefEqProofs (maxSteps:=10^7) only[go_sem,seval,↓gZ,Jd,Zev _ _ _ _ _ _ _ _ ha hb hm,Zln];simp only[VB] at ha hb;simp only[XP] at hm;exact Zjl (by simp only[VB,ZQ];omega)
 ·simp +contextual -implicitDefEqProofs (maxSteps:=10^7) only[go_sem,seval,↓gZ,Jd,Zgx _ _ _ _ _ _ _ _ hm];have:¬(VB (Box.mk aX aY aW aH)∧VB (Box.mk bX bY bW bH)∧ZQ (Box.mk aX aY aW aH) (Box.mk bX bY bW bH)):=by
   intro⟨h1,h2,h3⟩;refine hm ⟨h1,h2,?_⟩;simp only[VB,ZQ] at h1 h2 h3;simp only[XP];omega
  exact ZnQ this
theorem ZhO (pW pH:Int) (pT:Bool) (pK:Int):Zi Xs Ms V6 [(.d (.agg [J pW,J pH,.bool pT,J pK]))] []=some ((.d (.bool ((decide (VP (Pane.mk pW pH pT pK)))))),[]):=by
 refine cE ?_;simp +contextual -implicitDefEqProofs (maxSteps:=10^7) only[go_sem,seval,↓gZ,ZaC,Vs]
 first | exact Zjl (by simp only[VP];omega) | skip
theorem ZhP (pW pH:Int) (pT:Bool) (pK:Int):Zi Xs Ms V5 [(.d (.agg [J pW,J pH,.bool pT,J pK]))] []=some ((.d (.bool ((decide (VP (Pane.mk pW pH pT pK)))))),[]):=by
 refine cE ?_;simp +contextual -implicitDefEqProofs (maxSteps:=10^7) only[go_sem,seval,↓gZ,ZaB]
 first | exact Zjl (by simp only[VP];omega) | skip
theorem ZhQ (bs:List UInt8):Zi Xs Ms V2 [.d (.sl (bs.map Ua))] []=some (.ptr 0 0,[.box [.d (.sl ((bs.take 2000).map Ua)),(.d (J 0))]]):=by
 refine cE ?_;by_cases h:2000<bs.length
 ·have h1:(2000:Int)<bs.length:=by omega
  have h2:(2000:Int)≤bs.length:=by omega
  simp +contextual -implicitDefEqProofs (maxSteps:=10^7) only[go_sem,seval,↓gZ,UA,h1,h2]
 ·have h1:¬(2000:Int)<bs.length:=by omega
  have h2:bs.take 2000=bs:=KT (by omega);simp +contextual -implicitDefEqProofs (maxSteps:=10^7) only[go_sem,seval,↓gZ,UA,h1,h2]
theorem ZcX (bs:List UInt8) (p:Nat) (n:Int) (hb:bs.length≤2000) (hp:p<1099511627776) :
  ∃ v:Int,Zi Xs Ms ZI [.ptr 0 0,(.d (J n))] [.box [.d (.sl (bs.map Ua)),(.d (J p))]]=some ((.d (J v)),[.box [.d (.sl (bs.map Ua)),(.d (J ((p+1:Nat))))]])∧0≤v∧(1≤n→v<n):=by
 have hw:=Zn (k:=p) (by omega);by_cases hn:n<1
 ·refine⟨0,?_,by omega,by omega⟩;refine cE ?_;simp +contextual -implicitDefEqProofs (maxSteps:=10^7) only[go_sem,seval,↓gZ,XJ,hw,hn]
 ·by_cases hl:bs.length=0
  ·refine⟨0,?_,by omega,by omega⟩;refine cE ?_;simp +contextual -implicitDefEqProofs (maxSteps:=10^7) only[go_sem,seval,↓gZ,XJ,hw,hn,hl]
  ·have ae : ¬(bs.length:Int)=0:=by omega
   have hs:IntKind.i64.wrap (((p+1:Nat):Int)-1)=(p:Int):=by rw[XF (by omega) (by omega)];omega
   have af:¬n=0:=by omega
   by_cases ab:p<bs.length
   ·obtain⟨x,hx⟩:=ZY ab;have ai:(x.toNat:Int)<256:=by have:=x.toNat_lt;omega
    have aj:IntKind.i64.wrap (x.toNat:Int)=(x.toNat:Int):=XF (by omega) (by omega);refine⟨(x.toNat:Int).tmod n,?_,Int.tmod_nonneg _ (by omega),fun _=>Int.tmod_lt_of_pos _ (by omega)⟩;refine cE ?_;simp +contextual -implicitDefEqProofs (maxSteps:=10^7) only[go_sem,seval,↓gZ,XJ,hw,hn,ae,hs,ab,hx,Ua,aj,af]
   ·have aa:0<bs.length:=by omega
    obtain⟨x,hx⟩:=ZY (l:=bs) (k:=p % bs.length) (Nat.mod_lt _ aa);obtain⟨y,hy⟩:=ZY (l:=bs) (k:=(p*7+3) % bs.length) (Nat.mod_lt _ aa);have ai:(x.toNat:Int)<256:=by have:=x.toNat_lt;omega
    have aq:(y.toNat:Int)<256:=by have:=y.toNat_lt;omega
    have e1:((p:Int)).tmod (bs.length:Int)=((p % bs.length:Nat):Int):=(Int.ofNat_tmod p bs.length).symm;have e2:IntKind.i64.wrap ((p:Int)*7)=((p*7:Nat):Int):=by rw[XF (by omega) (by omega)];omega
    have e3:IntKind.i64.wrap (((p*7:Nat):Int)+3)=((p*7+3:Nat):Int):=by rw[XF (by omega) (by omega)];omega
    have e4:((p*7+3:Nat):Int).tmod (bs.length:Int)=(((p*7+3) % bs.length:Nat):Int):=(Int.ofNat_tmod _ _).symm;obtain⟨q,ag,hq⟩:∃ q:Nat,q=p / bs.length∧q≤p:=⟨_,rfl,Nat.div_le_self _ _⟩
    have e5:((p:Int)).tdiv (bs.length:Int)=(q:Int):=by rw[ag];exact(Int.ofNat_tdiv p bs.length).symm
    clear ag;have w1:IntKind.i64.wrap (x.toNat:Int)=(x.toNat:Int):=XF (by omega) (by omega);have w2:IntKind.i64.wrap (y.toNat:Int)=(y.toNat:Int):=XF (by omega) (by omega);have w3:=wi ((x.toNat:Int)*131) (by omega) (by omega);have w4:=wi ((y.toNat:Int)*1117) (by omega) (by omega);have w5:=wi ((x.toNat:Int)*131+(y.toNat:Int)*1117) (by omega) (by omega);have w6:=wi ((p:Int)*29) (by omega) (by omega);have w7:=wi ((x.toNat:Int)*131+(y.toNat:Int)*1117+(p:Int)*29) (by omega) (by omega);have w8:=wi ((q:Int)) (by omega) (by omega);have w9:=wi ((q:Int)*53) (by omega) (by omega);have ah:=wi ((x.toNat:Int)*131+(y.toNat:Int)*1117+(p:Int)*29+(q:Int)*53) (by omega) (by omega)
    obtain⟨t,ht⟩:∃ t:Int,t=(x.toNat:Int)*131+(y.toNat:Int)*1117+(p:Int)*29+(q:Int)*53:=⟨_,rfl⟩
    have ad:0≤t:=by omega
    have ak:t<4611686018427387904:=by omega
    have al:0≤t.tdiv 64:=Int.tdiv_nonneg ad (by omega);have am:t.tdiv 64<4611686018427387904:=by
     rw[Int.tdiv_eq_ediv_of_nonneg ad];omega
    have an:=wi (t.tdiv 64) (by omega) (by omega);obtain⟨z,ao,ar,hz⟩:=Zru ad ak al am;rw[← ht] at ah;refine⟨z.tmod n,?_,Int.tmod_nonneg _ ao,fun _=>Int.tmod_lt_of_pos _ (by omega)⟩;have ap:WQ .xor .i64 .i64 t (t.tdiv 64)=some (.d (J z)):=by simp only[WQ,V8,asD,Zc,Kg,hz]
    refine cE ?_;simp +contextual -implicitDefEqProofs (maxSteps:=10^7) only[go_sem,seval,↓gZ,XJ,hw,hn,ae,hs,ab,Ua,af,e1,e2,e3,e4,e5,hx,hy,w1,w2,w3,w4,w5,w6,w7,w8,w9,ah,← ht,an,ap]
open Classical in
noncomputable def Y5 (bs:List UInt8) (p:Nat) (n:Int):Int:=if h:bs.length≤2000∧p<1099511627776 then (ZcX bs p n h.1 h.2).choose else 0
theorem YE (bs:List UInt8) (p:Nat) (n:Int) (hb:bs.length≤2000) (hp:p<1099511627776) :
  Zi Xs Ms ZI [.ptr 0 0,(.d (J n))] [.box [.d (.sl (bs.map Ua)),(.d (J p))]]=some ((.d (J (Y5 bs p n))),[.box [.d (.sl (bs.map Ua)),(.d (J ((p+1:Nat))))]]):=by
 have h:bs.length≤2000∧p<1099511627776:=⟨hb,hp⟩
 unfold Y5;rw[dif_pos h];exact(ZcX bs p n hb hp).choose_spec.1
theorem Zaq (bs:List UInt8) (p:Nat) (n:Int):0≤Y5 bs p n:=by
 unfold Y5;split
 ·rename_i h;exact(ZcX bs p n h.1 h.2).choose_spec.2.1
 ·omega
theorem ZfH (bs:List UInt8) (p:Nat) (n:Int) (hn:1≤n):Y5 bs p n<n:=by
 unfold Y5;split
 ·rename_i h;exact(ZcX bs p n h.1 h.2).choose_spec.2.2 hn
 ·omega
theorem ZaQ (bs:List UInt8) (p:Nat) (l:List Int) (hb:bs.length≤2000) (hp:p<1099511627776) (hl:1≤l.length) :
  ∃ v:Int,v∈l∧Zi Xs Ms Qu [.ptr 0 0,.d (.sl (l.map Qp))] [.box [.d (.sl (bs.map Ua)),(.d (J p))]]=some ((.d (J v)),[.box [.d (.sl (bs.map Ua)),(.d (J ((p+1:Nat))))]]):=by
 have h0:=Zaq bs p l.length;have h1:=ZfH bs p l.length (by omega);obtain⟨i,hi⟩:∃ i:Nat,Y5 bs p (l.length:Int)=(i:Int):=⟨(Y5 bs p (l.length:Int)).toNat,by omega⟩
 obtain⟨v,hv⟩:=ZY (l:=l) (k:=i) (by omega);refine⟨v,Kp hv,?_⟩;refine cE ?_;simp +contextual -implicitDefEqProofs (maxSteps:=10^7) only[go_sem,seval,↓gZ,Jz,YE bs p _ hb hp,hi,hv]
theorem Xt (pO pA pP:Int) (pT:Bool) (pK:List D):Zi Xs Ms ZaZ [.d (.agg [J pO,J pA,J pP,.bool pT,.sl pK])] []=some ((.d (.bool (decide (pO=2∨pO=3)))),[]):=by
 refine cE ?_;simp +contextual -implicitDefEqProofs (maxSteps:=10^7) only[go_sem,seval,↓gZ,ZfQ]
theorem Zj (pO pA pP:Int) (pT:Bool) (pK:List D):Zi Xs Ms Wo [.d (.agg [J pO,J pA,J pP,.bool pT,.sl pK])] []=some ((.d (.bool (decide (pO=2∨pO=3)))),[]):=by
 refine cE ?_;simp +contextual -implicitDefEqProofs (maxSteps:=10^7) only[go_sem,seval,↓gZ,ZfR]
theorem Jr:∀ (n:Nat) (p:Zh),p.nodes≤n→Zi Xs Ms Yj [.d p.enc] []=some ((.d (J (Zl 255 (Xa p)))),[])
 | 0,.mk o a p t ks,hn=>by simp[Zh.nodes] at hn
 | n+1,.mk o a p t ks,hn=>by
  by_cases ho:o=2∨o=3
  ·by_cases hk:ks.length=2
   ·obtain⟨x,hx⟩:=ZY (l:=ks) (k:=0) (by omega);obtain⟨y,hy⟩:=ZY (l:=ks) (k:=1) (by omega);have aa:=Jr n x (Zdl hn hx);have ab:=Jr n y (Zdl hn hy);rw[Zlq ho hk hx hy];obtain⟨lx,ae⟩:∃ l,l=Xa x:=⟨_,rfl⟩
    obtain⟨ly,af⟩:∃ l,l=Xa y:=⟨_,rfl⟩
    rw[← ae] at aa ⊢;rw[← af] at ab ⊢;have rx:=Jk 255 (by omega) lx;have ry:=Jk 255 (by omega) ly;have ad:(ks.length:Int)=2:=by omega
    by_cases hp:p=0
    ·cases t with
     | true=>
      have hb:=ZbN 255 o a p true lx ly (by simp);rw[hb];refine cE ?_;simp +contextual -implicitDefEqProofs (maxSteps:=10^7) only[go_sem,seval,↓gZ,Qm,Xt,ho,hp]
     | false=>
      subst hp;rw[Zpa];obtain⟨sx,ag⟩:∃ s,s=Zl 255 lx:=⟨_,rfl⟩
      obtain⟨sy,ah⟩:∃ s,s=Zl 255 ly:=⟨_,rfl⟩
      rw[← ag] at aa rx ⊢;rw[← ah] at ab ry ⊢;have w1:=wi (1+sx) (by omega) (by omega);have w2:=wi (1+sx+sy) (by omega) (by omega);refine cE ?_;simp +contextual -implicitDefEqProofs (maxSteps:=10^7) only[go_sem,seval,↓gZ,Qm,Xt,ho,ad];refine QV Xs Ms ?_;simp +contextual -implicitDefEqProofs (maxSteps:=10^7) only[go_sem,seval,↓gZ,ad,hx,hy,aa,ab,w1,w2];intro h;refine QV Xs Ms ?_;simp +contextual -implicitDefEqProofs (maxSteps:=10^7) only[go_sem,seval,↓gZ,ad,hx,hy,aa,ab,w1,w2,h];intro h';refine QV Xs Ms ?_;simp +contextual -implicitDefEqProofs (maxSteps:=10^7) only[go_sem,seval,↓gZ,ad,hx,hy,aa,ab,w1,w2,h,h']
    ·have hb:=ZbN 255 o a p t lx ly (by simp[hp]);rw[hb];refine cE ?_;simp +contextual -implicitDefEqProofs (maxSteps:=10^7) only[go_sem,seval,↓gZ,Qm,Xt,ho,hp]
   ·rw[Zgc _ _ _ _ _ ho hk];refine cE ?_;have ai : ¬(ks.length:Int)=2:=by omega
    simp +contextual -implicitDefEqProofs (maxSteps:=10^7) only[go_sem,seval,↓gZ,Qm,Xt,ho,ai,Zl]
  ·rw[Zjx ho];by_cases h1:ks.length=0∧a=0∧o=1
   ·rw[Km h1];obtain⟨h1,rfl,rfl⟩:=h1;refine cE ?_;simp +contextual -implicitDefEqProofs (maxSteps:=10^7) only[go_sem,seval,↓gZ,Qm,Xt,ho,h1,Zl,BT.cnt];refine QV Xs Ms ?_;simp +contextual -implicitDefEqProofs (maxSteps:=10^7) only[go_sem,seval,↓gZ,h1]
   ·rw[Kl h1];by_cases h2:ks.length=0∧a=0∧o=0∧p=0∧t=false
    ·rw[Km h2];obtain⟨h2,rfl,rfl,rfl,rfl⟩:=h2;refine cE ?_;simp +contextual -implicitDefEqProofs (maxSteps:=10^7) only[go_sem,seval,↓gZ,Qm,Xt,ho,h2,Zl,BT.cnt];refine QV Xs Ms ?_;simp +contextual -implicitDefEqProofs (maxSteps:=10^7) only[go_sem,seval,↓gZ,h2]
    ·rw[Kl h2];by_cases c1:ks.length=0
     ·by_cases c2:a=0
      ·by_cases c3:o=1
       ·exact absurd ⟨c1,c2,c3⟩ h1
       ·by_cases c4:o=0
        ·by_cases c5:p=0
         ·cases t with
          | false=>exact absurd ⟨c1,c2,c4,c5,rfl⟩ h2
          | true=>
           refine cE ?_;simp +contextual -implicitDefEqProofs (maxSteps:=10^7) only[go_sem,seval,↓gZ,Qm,Xt,ho,c1,c2,c3,c4,c5,Zl]
         ·refine cE ?_;simp +contextual -implicitDefEqProofs (maxSteps:=10^7) only[go_sem,seval,↓gZ,Qm,Xt,ho,c1,c2,c3,c4,c5,Zl]
        ·refine cE ?_;simp +contextual -implicitDefEqProofs (maxSteps:=10^7) only[go_sem,seval,↓gZ,Qm,Xt,ho,c1,c2,c3,c4,Zl]
      ·refine cE ?_;simp +contextual -implicitDefEqProofs (maxSteps:=10^7) only[go_sem,seval,↓gZ,Qm,Xt,ho,c1,c2,Zl]
     ·have aj : ¬(ks.length:Int)=0:=by omega
      refine cE ?_;simp +contextual -implicitDefEqProofs (maxSteps:=10^7) only[go_sem,seval,↓gZ,Qm,Xt,ho,aj,Zl]
theorem Zka (p:Zh):Zi Xs Ms Yj [.d p.enc] []=some ((.d (J (Zl 255 (Xa p)))),[]):=Jr _ p (Kh _)
theorem Zhe (ps:List Pane) (hl:ps.length<4611686018427387904):Zi Xs Ms Y9 [(.d (.sl (ps.map Pane.enc)))] []=some ((.d (.bool (decide (ps.length≤24∧VPs ps)))),[]):=by
 refine cE ?_;simp +contextual -implicitDefEqProofs (maxSteps:=10^7) only[go_sem,seval,↓gZ,JB];refine LO (α:=Nat) (fun k=>[(3,.d (J (k:Int)))]) (fun _=>[]) (fun k=>k≤ps.length∧(VPs ps↔VPs (ps.drop k))) (fun k=>ps.length-k) 0 ⟨by omega,by simp⟩ ?_;intro k ⟨hk,hp⟩ ih;by_cases aa:k<ps.length
 ·obtain⟨x,hx⟩:=ZY aa;rw[Zn2 hx] at hp;have hw:=Zn (k:=k) (by omega);simp +contextual -implicitDefEqProofs (maxSteps:=10^7) only[go_sem,seval,↓gZ,hx,aa,hw,ZhO];refine⟨fun h=>ZnQ (fun hh=>h (hp.1 hh.2).1),fun h=>ih (k+1) _ ⟨by omega,?_⟩ (by omega) ?_⟩
  ·rw[hp];exact⟨fun hh=>hh.2,fun hh=>⟨h,hh⟩⟩
  ·simp +contextual -implicitDefEqProofs (maxSteps:=10^7) only[go_sem,seval,↓gZ]
 ·have:k=ps.length:=by omega
  subst this;simp +contextual -implicitDefEqProofs (maxSteps:=10^7) only[go_sem,seval,↓gZ];have hv:VPs ps:=hp.2 (by simp[VPs]);exact Zjl ⟨fun h=>⟨by omega,hv⟩,fun h=>by omega⟩
theorem ZhR (kW kH:Int) (kP:List Pane) (hl:kP.length<4611686018427387904):Zi Xs Ms V3 [(.d (.agg [J kW,J kH,.sl (kP.map Pane.enc)]))] []=some ((.d (.bool (decide (VW (ZN.mk kW kH kP))))),[]):=by
 refine cE ?_;simp +contextual -implicitDefEqProofs (maxSteps:=10^7) only[go_sem,seval,↓gZ,Zay,Vs,Zhe kP hl];exact Zjl (by simp only[VW,and_assoc])
theorem X4 (kW kH:Int) (kP:List Pane):Zi Xs Ms XU [(.d (.agg [J kW,J kH,.sl (kP.map Pane.enc)]))] []=some ((.d (.bool (decide (VW (ZN.mk kW kH kP))))),[]):=by
 refine cE ?_;by_cases h0:((((kW<1∨200<kW)∨kH<1)∨200<kH)∨(24:Int)<kP.length)
 ·simp +contextual -implicitDefEqProofs (maxSteps:=10^7) only[go_sem,seval,↓gZ,UB,h0];exact ZnQ (by simp only[VW];omega)
 ·simp +contextual -implicitDefEqProofs (maxSteps:=10^7) only[go_sem,seval,↓gZ,UB,h0];refine LO (α:=Nat) (fun k=>[(32,.d (J (k:Int)))]) (fun _=>[]) (fun k=>k≤kP.length∧(VPs kP↔VPs (kP.drop k))) (fun k=>kP.length-k) 0 ⟨by omega,by simp⟩ ?_;intro k ⟨hk,hp⟩ ih;by_cases aa:k<kP.length
  ·obtain⟨x,hx⟩:=ZY aa;rw[Zn2 hx] at hp;have hw:=Zn (k:=k) (by omega);simp +contextual -implicitDefEqProofs (maxSteps:=10^7) only[go_sem,seval,↓gZ,hx,aa,hw,ZhP];refine⟨fun h=>ZnQ (fun hh=>h (hp.1 hh.2.2.2.2.2).1),fun h=>ih (k+1) _ ⟨by omega,?_⟩ (by omega) ?_⟩
   ·rw[hp];exact⟨fun hh=>hh.2,fun hh=>⟨h,hh⟩⟩
   ·simp +contextual -implicitDefEqProofs (maxSteps:=10^7) only[go_sem,seval,↓gZ,h0]
  ·have:k=kP.length:=by omega
   subst this;simp +contextual -implicitDefEqProofs (maxSteps:=10^7) only[go_sem,seval,↓gZ];have hv:VPs kP:=hp.2 (by simp[VPs]);exact fin_t (by simp only[VW];exact⟨by omega,by omega,by omega,by omega,by omega,hv⟩)
theorem Uf:∀ (n:Nat) (p:Zh),p.nodes≤n→∀ m:Int,-10≤m→m≤255→Zi Xs Ms Xu [.d p.enc,(.d (J m))] []=some ((.d (J (Zl m (Xa p)))),[])
 | 0,.mk o a p t ks,hn,m,_,_=>by simp[Zh.nodes] at hn
 | n+1,.mk o a p t ks,hn,m,hm1,hm2=>by
  by_cases hm:m<1
  ·rw[Zpb hm];refine cE ?_;simp +contextual -implicitDefEqProofs (maxSteps:=10^7) only[go_sem,seval,↓gZ,ZB,hm]
  by_cases ho:o=2∨o=3
  ·have al:¬o=0:=by omega
   have am:¬o=1:=by omega
   by_cases hk:ks.length=2
   ·obtain⟨x,hx⟩:=ZY (l:=ks) (k:=0) (by omega);obtain⟨y,hy⟩:=ZY (l:=ks) (k:=1) (by omega);rw[Zlq ho hk hx hy];have aa:(ks.length:Int)=2:=by omega
    by_cases hp:p=0
    ·cases t with
     | true=>
      have hb:=ZbN m o a p true (Xa x) (Xa y) (by simp);rw[hb];refine cE ?_;rcases ho with ho | ho<;>simp +contextual -implicitDefEqProofs (maxSteps:=10^7) only[go_sem,seval,↓gZ,ZB,ho,hp,hm,aa]
     | false=>
      subst hp;rw[Zn1];have ag:=Uf n x (Zdl hn hx) (m-1) (by omega) (by omega);have rx:=Jk (m-1) (by omega) (Xa x);have ab:=Uf n y (Zdl hn hy) (m-1-Zl (m-1) (Xa x)) (by omega) (by omega);have ry:=Jk (m-1-Zl (m-1) (Xa x)) (by omega) (Xa y);obtain⟨sy,ah⟩:∃ s,s=Zl (m-1-Zl (m-1) (Xa x)) (Xa y):=⟨_,rfl⟩
      rw[← ah] at ab ry ⊢;obtain⟨sx,ai⟩:∃ s,s=Zl (m-1) (Xa x):=⟨_,rfl⟩
      rw[← ai] at ag ab rx ry ⊢;clear ai ah;have w0:=wi (m-1) (by omega) (by omega);have w1:=wi (m-1-sx) (by omega) (by omega);have w2:=wi (1+sx) (by omega) (by omega);have w3:=wi (1+sx+sy) (by omega) (by omega);refine cE ?_;rcases ho with ho | ho<;>simp +contextual -implicitDefEqProofs (maxSteps:=10^7) only[go_sem,seval,↓gZ,ZB,ho,hm,aa,hx,hy,ag,ab,w0,w1,w2,w3]
    ·have hb:=ZbN m o a p t (Xa x) (Xa y) (by simp[hp]);rw[hb];refine cE ?_;rcases ho with ho | ho<;>simp +contextual -implicitDefEqProofs (maxSteps:=10^7) only[go_sem,seval,↓gZ,ZB,ho,hp,hm,aa]
   ·rw[Zgc _ _ _ _ _ ho hk];have ak : ¬(ks.length:Int)=2:=by omega
    refine cE ?_;rcases ho with ho | ho<;>simp +contextual -implicitDefEqProofs (maxSteps:=10^7) only[go_sem,seval,↓gZ,ZB,ho,ak,hm,Zl]
  ·rw[Zjx ho];have ad : ¬o=2:=by omega
   have ae : ¬o=3:=by omega
   have aj : (1:Int)≤m:=by omega
   by_cases h1:ks.length=0∧a=0∧o=1
   ·rw[Km h1];obtain⟨h1,rfl,rfl⟩:=h1;refine cE ?_;simp +contextual -implicitDefEqProofs (maxSteps:=10^7) only[go_sem,seval,↓gZ,ZB,h1,hm,Zl,BT.cnt,aj]
   ·rw[Kl h1];by_cases h2:ks.length=0∧a=0∧o=0∧p=0∧t=false
    ·rw[Km h2];obtain⟨h2,rfl,rfl,rfl,rfl⟩:=h2;refine cE ?_;simp +contextual -implicitDefEqProofs (maxSteps:=10^7) only[go_sem,seval,↓gZ,ZB,h2,hm,Zl,BT.cnt,aj]
    ·rw[Kl h2];by_cases c1:ks.length=0
     ·by_cases c2:a=0
      ·by_cases c3:o=1
       ·exact absurd ⟨c1,c2,c3⟩ h1
       ·by_cases c4:o=0
        ·by_cases c5:p=0
         ·cases t with
          | false=>exact absurd ⟨c1,c2,c4,c5,rfl⟩ h2
          | true=>
           refine cE ?_;simp +contextual -implicitDefEqProofs (maxSteps:=10^7) only[go_sem,seval,↓gZ,ZB,hm,c1,c2,c3,c4,c5,Zl]
         ·refine cE ?_;simp +contextual -implicitDefEqProofs (maxSteps:=10^7) only[go_sem,seval,↓gZ,ZB,hm,c1,c2,c3,c4,c5,Zl]
        ·refine cE ?_;simp +contextual -implicitDefEqProofs (maxSteps:=10^7) only[go_sem,seval,↓gZ,ZB,hm,c1,c2,c3,c4,ad,ae,Zl]
      ·refine cE ?_;by_cases c3:o=1
       ·simp +contextual -implicitDefEqProofs (maxSteps:=10^7) only[go_sem,seval,↓gZ,ZB,hm,c1,c2,c3,Zl]
       ·by_cases c4:o=0
        ·simp +contextual -implicitDefEqProofs (maxSteps:=10^7) only[go_sem,seval,↓gZ,ZB,hm,c1,c2,c3,c4,Zl]
        ·simp +contextual -implicitDefEqProofs (maxSteps:=10^7) only[go_sem,seval,↓gZ,ZB,hm,c1,c2,c3,c4,ad,ae,Zl]
     ·have af : ¬(ks.length:Int)=0:=by omega
      refine cE ?_;by_cases c3:o=1
      ·simp +contextual -implicitDefEqProofs (maxSteps:=10^7) only[go_sem,seval,↓gZ,ZB,hm,af,c3,Zl]
      ·by_cases c4:o=0
       ·simp +contextual -implicitDefEqProofs (maxSteps:=10^7) only[go_sem,seval,↓gZ,ZB,hm,af,c3,c4,Zl]
       ·simp +contextual -implicitDefEqProofs (maxSteps:=10^7) only[go_sem,seval,↓gZ,ZB,hm,af,c3,c4,ad,ae,Zl]
theorem XR (p:Zh):Zi Xs Ms Q3 [.d p.enc] []=some ((.d (J (Zl 255 (Xa p)))),[]):=by
 have h:=Uf _ p (Kh _) 255 (by omega) (by omega);obtain⟨o,a,q,t,ks⟩:=p;rw[Zh.enc_mk] at h ⊢;refine cE ?_;simp +contextual -implicitDefEqProofs (maxSteps:=10^7) only[go_sem,seval,↓gZ,Zbn,h]
theorem Ja (kW kH:Int) (kP:List Pane):Zi Xs Ms Yg [(.d (.agg [J kW,J kH,.sl (kP.map Pane.enc)]))] []=some (.d (.agg [J 0,J 0,J kW,J kH]),[]):=by
 refine cE ?_;simp +contextual -implicitDefEqProofs (maxSteps:=10^7) only[go_sem,seval,↓gZ,Zcj]
theorem ZdA {ps:List Pane} {i:Int} {t:Bool} {w h:Int} {k:Nat} {q:Pane} (hi:i=(k:Int)) (hq:ps[k]?=some q):Qq ps i t w h=if t then q.Turns&&decide (¬q.W=q.H)&&decide (q.H=w)&&decide (q.W=h) else decide (q.W=w∧q.H=h):=by
 subst hi;simp[Qq,hq]
theorem Zbf {ps:List Pane} {i:Int} {t:Bool} {w h:Int} (hi:i<0∨(ps.length:Int)≤i):Qq ps i t w h=false:=by
 unfold Qq;rcases hi with hi | hi
 ·have:¬0≤i:=by omega
  simp[this]
 ·have:ps[i.toNat]?=none:=KR (by omega);simp[this]
theorem Js (kW kH:Int) (kP:List Pane) (i:Int) (t:Bool) (w h:Int):Zi Xs Ms XV [(.d (.agg [J kW,J kH,.sl (kP.map Pane.enc)])),(.d (J i)),(.d (.bool t)),(.d (J w)),(.d (J h))] []=some ((.d (.bool (Qq kP i t w h))),[]):=by
 by_cases h0:i<0
 ·rw[Zbf (.inl h0)];refine cE ?_;simp +contextual -implicitDefEqProofs (maxSteps:=10^7) only[go_sem,seval,↓gZ,YK,h0]
 ·by_cases h1:(kP.length:Int)≤i
  ·rw[Zbf (.inr h1)];refine cE ?_;simp +contextual -implicitDefEqProofs (maxSteps:=10^7) only[go_sem,seval,↓gZ,YK,h0,h1]
  ·obtain⟨n,rfl⟩:∃ n:Nat,i=(n:Int):=⟨i.toNat,by omega⟩
   obtain⟨q,hq⟩:=ZY (l:=kP) (k:=n) (by omega);have hn:¬kP.length≤n:=by omega
   have aa : n<kP.length:=by omega
   have ab:¬(n:Int)<0:=by omega
   rw[ZdA rfl hq];refine cE ?_;cases t
   ·simp +contextual -implicitDefEqProofs (maxSteps:=10^7) only[go_sem,seval,↓gZ,YK,ab,hn,hq,aa]
   ·simp +contextual -implicitDefEqProofs (maxSteps:=10^7) only[go_sem,seval,↓gZ,YK,ab,hn,hq,aa]
theorem Wc (o a p:Int) (t:Bool) (ks:List D) (gX gY gW gH:Int) (ho:o=2) (h1:R64 (gX+a)) (h2:R64 (gW-a)):Zi Xs Ms QH [.d (.agg [J o,J a,J p,.bool t,.sl ks]),(.d (.agg [J gX,J gY,J gW,J gH]))] [] =
  some (.tup [.d (.agg [J gX,J gY,J a,J gH]),.d (.agg [J (gX+a),J gY,J (gW-a),J gH])],[]):=by
 have w1:=wi (gX+a) h1.1 h1.2;have w2:=wi (gW-a) h2.1 h2.2;refine cE ?_;simp +contextual -implicitDefEqProofs (maxSteps:=10^7) only[go_sem,seval,↓gZ,VD,ho,w1,w2]
theorem YR (o a p:Int) (t:Bool) (ks:List D) (gX gY gW gH:Int) (ho:¬o=2) (h1:R64 (gY+a)) (h2:R64 (gH-a)):Zi Xs Ms QH [.d (.agg [J o,J a,J p,.bool t,.sl ks]),(.d (.agg [J gX,J gY,J gW,J gH]))] [] =
  some (.tup [.d (.agg [J gX,J gY,J gW,J a]),.d (.agg [J gX,J (gY+a),J gW,J (gH-a)])],[]):=by
 have w1:=wi (gY+a) h1.1 h1.2;have w2:=wi (gH-a) h2.1 h2.2;refine cE ?_;simp +contextual -implicitDefEqProofs (maxSteps:=10^7) only[go_sem,seval,↓gZ,VD,ho,w1,w2]
def inB (g:Box):Prop:=0≤g.X∧0≤g.Y∧0≤g.W∧0≤g.H∧g.X+g.W≤1000∧g.Y+g.H≤1000
theorem VV (kW kH:Int) (kP:List Pane):∀ (b:BT) (gX gY gW gH:Int),inB (Box.mk gX gY gW gH)→Zi Xs Ms Yk [(.d (.agg [J kW,J kH,.sl (kP.map Pane.enc)])),.d b.plan.enc,(.d (.agg [J gX,J gY,J gW,J gH]))] []=some ((.d (.bool (Qd kP b gW gH))),[])
 | .waste,gX,gY,gW,gH,hg=>by
  simp only[BT.plan,Zh.enc_mk];refine cE ?_;simp +contextual -implicitDefEqProofs (maxSteps:=10^7) only[go_sem,seval,↓gZ,Q5,Qd]
 | .pane i t,gX,gY,gW,gH,hg=>by
  simp only[BT.plan,Zh.enc_mk];refine cE ?_;simp +contextual -implicitDefEqProofs (maxSteps:=10^7) only[go_sem,seval,↓gZ,Q5,Js,Qd]
 | .cut d a l r,gX,gY,gW,gH,hg=>by
  simp only[inB] at hg;simp only[BT.plan,Zh.enc_mk];cases d with
  | true=>
   by_cases h1:a<1
   ·have h2:¬(1≤a∧a≤gW-1):=by omega
    refine cE ?_;simp +contextual -implicitDefEqProofs (maxSteps:=10^7) only[go_sem,seval,↓gZ,Q5,Qd,Yx,h1,h2]
   ·by_cases h2:gW≤a
    ·have h3:¬(1≤a∧a≤gW-1):=by omega
     refine cE ?_;simp +contextual -implicitDefEqProofs (maxSteps:=10^7) only[go_sem,seval,↓gZ,Q5,Qd,Yx,h1,h2,h3]
    ·have h3:1≤a∧a≤gW-1:=by omega
     have e0:=Wc 2 a 0 false [l.plan.enc,r.plan.enc] gX gY gW gH rfl ⟨by omega,by omega⟩ ⟨by omega,by omega⟩;have e1:=VV kW kH kP l gX gY a gH (by simp only[inB];omega);have e2:=VV kW kH kP r (gX+a) gY (gW-a) gH (by simp only[inB];omega);refine cE ?_;simp +contextual -implicitDefEqProofs (maxSteps:=10^7) only[go_sem,seval,↓gZ,Q5,Qd,Yx,h1,h2,h3,e0,e1,e2]
  | false=>
   by_cases h1:a<1
   ·have h2:¬(1≤a∧a≤gH-1):=by omega
    refine cE ?_;simp +contextual -implicitDefEqProofs (maxSteps:=10^7) only[go_sem,seval,↓gZ,Q5,Qd,Yx,h1,h2]
   ·by_cases h2:gH≤a
    ·have h3:¬(1≤a∧a≤gH-1):=by omega
     refine cE ?_;simp +contextual -implicitDefEqProofs (maxSteps:=10^7) only[go_sem,seval,↓gZ,Q5,Qd,Yx,h1,h2,h3]
    ·have h3:1≤a∧a≤gH-1:=by omega
     have e0:=YR 3 a 0 false [l.plan.enc,r.plan.enc] gX gY gW gH (by decide) ⟨by omega,by omega⟩ ⟨by omega,by omega⟩;have e1:=VV kW kH kP l gX gY gW a (by simp only[inB];omega);have e2:=VV kW kH kP r gX (gY+a) gW (gH-a) (by simp only[inB];omega);refine cE ?_;simp +contextual -implicitDefEqProofs (maxSteps:=10^7) only[go_sem,seval,↓gZ,Q5,Qd,Yx,h1,h2,h3,e0,e1,e2]
theorem Zhf (kW kH:Int) (kP:List Pane) (i:Int) (t:Bool) (w h:Int) (hl:kP.length<4611686018427387904):Zi Xs Ms Xn [(.d (.agg [J kW,J kH,.sl (kP.map Pane.enc)])),.d (BT.pane i t).plan.enc,(.d (J w)),(.d (J h))] []=some ((.d (.bool (Qq kP i t w h))),[]):=by
 have hw:=wi ((kP.length:Int)-1) (by omega) (by omega);simp only[BT.plan,Zh.enc_mk];by_cases h0:0≤i∧i≤(kP.length:Int)-1
 ·obtain⟨n,rfl⟩:∃ n:Nat,i=(n:Int):=⟨i.toNat,by omega⟩
  obtain⟨q,hq⟩:=ZY (l:=kP) (k:=n) (by omega);rw[ZdA rfl hq];refine cE ?_;cases t
  ·simp +contextual -implicitDefEqProofs (maxSteps:=10^7) only[go_sem,seval,↓gZ,WN,Vs,h0,hw,hq]
  ·simp +contextual -implicitDefEqProofs (maxSteps:=10^7) only[go_sem,seval,↓gZ,WN,Vs,h0,hw,hq]
 ·rw[Zbf (by omega)];refine cE ?_;simp +contextual -implicitDefEqProofs (maxSteps:=10^7) only[go_sem,seval,↓gZ,WN,Vs,h0,hw]
theorem Zca (kW kH:Int) (kP:List Pane) (p:Zh):Zi Xs Ms YG [(.d (.agg [J kW,J kH,.sl (kP.map Pane.enc)])),.d p.enc] []=some ((.d (.bool (Yy (ZN.mk kW kH kP) p))),[]):=by
 have hs:=XR p;unfold Yy;cases hb:Xa p with
 | none=>
  obtain⟨o,a,q,t,ks⟩:=p;rw[hb] at hs;rw[Zh.enc_mk] at hs ⊢;refine cE ?_;simp +contextual -implicitDefEqProofs (maxSteps:=10^7) only[go_sem,seval,↓gZ,YJ,X4,hs,Zl]
 | some b=>
  have hp:=Za8 hb;rw[hb] at hs;have hc:=b.cnt_pos;have hz:=Z1 255 b;by_cases hv:VW (ZN.mk kW kH kP)
  ·have aa:=hv;simp only[VW] at aa;have hf:=VV kW kH kP b 0 0 kW kH (by simp only[inB];omega);rw[← hp] at hf;obtain⟨o,a,q,t,ks⟩:=p;rw[Zh.enc_mk] at hs hf ⊢;by_cases h2:b.cnt≤255
   ·have h3:Zl 255 (some b)=b.cnt:=by omega
    have h4:(0:Int)<b.cnt:=by omega
    rw[h3] at hs;refine cE ?_;simp +contextual -implicitDefEqProofs (maxSteps:=10^7) only[go_sem,seval,↓gZ,YJ,X4,Ja,hs,hf,hv,h2,h4]
   ·have h3:Zl 255 (some b)=-1:=by omega
    rw[h3] at hs;refine cE ?_;simp +contextual -implicitDefEqProofs (maxSteps:=10^7) only[go_sem,seval,↓gZ,YJ,X4,hs,hv,h2]
  ·obtain⟨o,a,q,t,ks⟩:=p;rw[Zh.enc_mk] at hs ⊢;refine cE ?_;simp +contextual -implicitDefEqProofs (maxSteps:=10^7) only[go_sem,seval,↓gZ,YJ,X4,hs,hv]
def plO:List Zh→Zg
 | []=>.row 5 [] true false
 | k :: r=>.tree 5 5 ((k :: r).map Zh.enc) none
@[go_sem] theorem plO_nil:plO []=.row 5 [] true false:=rfl
@[go_sem] theorem plO_cons (k:Zh) (r:List Zh):plO (k :: r)=.tree 5 5 ((k :: r).map Zh.enc) none:=rfl
end Go.Proofs.Ytefabmohhbhlfaa
