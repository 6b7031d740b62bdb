/- Own text. -/
import Derived.Test.YtighjmleicikhaaBCode
import Derived.Test.YtighjmleicikhaaAbsParts
import Derived.Test.YtighjmleicikhaaAbsOkD
namespace Go.Proofs.Ytighjmleicikhaa
open Go Go.Abs Go.Abs.E Go.Abs.L
open Nat (reduceMul reduceSub reduceLeDiff reduceEqDiff)
open Int (reduceLE reduceEq reduceToNat reduceNeg)
set_option linter.unusedSimpArgs false
set_option linter.unusedVariables false
set_option maxRecDepth 20000
set_option maxHeartbeats 4000000
theorem Xf (n lo hi:Int):Zl Xs Ms QI [(.d (J n)),(.d (J lo)),(.d (J hi))] []=some ((.d (.bool ((decide (lo≤n∧n≤hi))))),[]):=by
 refine cE ?_;simp +contextual -implicitDefEqProofs (maxSteps:=10^7) only[go_sem,seval,↓gZ,ZbN]
theorem Zhj (pW pH:Int) (pT:Bool) (pK:Int):Zl Xs Ms VC [(.d (.agg [J pW,J pH,.bool pT,J pK]))] []=some ((.d (.bool ((decide (VP (Pane.mk pW pH pT pK)))))),[]):=by
 refine cE ?_;simp +contextual -implicitDefEqProofs (maxSteps:=10^7) only[go_sem,seval,↓gZ,JV,Xf]
 first | exact Znc (by simp only[VP];omega) | skip
theorem Zhk (pW pH:Int) (pT:Bool) (pK:Int):Zl Xs Ms VA [(.d (.agg [J pW,J pH,.bool pT,J pK]))] []=some ((.d (.bool ((decide (VP (Pane.mk pW pH pT pK)))))),[]):=by
 refine cE ?_;simp +contextual -implicitDefEqProofs (maxSteps:=10^7) only[go_sem,seval,↓gZ,JU]
 first | exact Znc (by simp only[VP];omega) | skip
def QG:Nat→List Int→Int→Int
 | _,[],_=>-1
 | k,x :: l,n=>if x=n then (k:Int) else QG (k+1) l n
theorem Zhl {l:List Int} {k:Nat} {x n:Int} (hx:l[k]?=some x):QG k (l.drop k) n=if x=n then (k:Int) else QG (k+1) (l.drop (k+1)) n:=by
 have h:=(Kc.1 hx)
 obtain⟨h1,h2⟩:=h;rw[KQ h1,h2,QG]
theorem Wq (l:List Int) (n:Int) (hl:l.length<4611686018427387904):Zl Xs Ms XF [.d (.sl (l.map Xa)),(.d (J n))] []=some ((.d (J (QG 0 l n))),[]):=by
 refine cE ?_;simp +contextual -implicitDefEqProofs (maxSteps:=10^7) only[go_sem,seval,↓gZ,ZbL];refine LO (α:=Nat) (fun k=>[(5,.d (J (k:Int)))]) (fun _=>[]) (fun k=>k≤l.length∧QG k (l.drop k) n=QG 0 l n) (fun k=>l.length-k) 0 ⟨by omega,rfl⟩ ?_;intro k ⟨hk,hp⟩ ih;by_cases aa:k<l.length
 ·obtain⟨x,hx⟩:=Qx aa;rw[Zhl hx] at hp;have hw:=ZY (k:=k) (by omega);simp +contextual -implicitDefEqProofs (maxSteps:=10^7) only[go_sem,seval,↓gZ,hx,aa,hw];refine⟨fun h=>?_,fun h=>ih (k+1) _ ⟨by omega,?_⟩ (by omega) ?_⟩
  ·rw[Kv h] at hp;rw[← hp]
  ·rw[Kp h] at hp;exact hp
  ·simp +contextual -implicitDefEqProofs (maxSteps:=10^7) only[go_sem,seval,↓gZ]
 ·have:k=l.length:=by omega
  subst this;simp +contextual -implicitDefEqProofs (maxSteps:=10^7) only[go_sem,seval,↓gZ];rw[← hp];simp[QG]
theorem Zhm (bs:List UInt8):Zl Xs Ms Vu [.d (.sl (bs.map Xc))] []=some (.ptr 0 0,[.box [.d (.sl ((bs.take 2000).map Xc)),(.d (J 0))]]):=by
 refine cE ?_;by_cases h:2000<bs.length
 ·have h1:(2000:Int)<bs.length:=by omega
  have h2:(2000:Int)≤bs.length:=by omega
  simp +contextual -implicitDefEqProofs (maxSteps:=10^7) only[go_sem,seval,↓gZ,W3,h1,h2]
 ·have h1:¬(2000:Int)<bs.length:=by omega
  have h2:bs.take 2000=bs:=K9 (by omega);simp +contextual -implicitDefEqProofs (maxSteps:=10^7) only[go_sem,seval,↓gZ,W3,h1,h2]
theorem Zcc (bs:List UInt8) (p:Nat) (n:Int) (hb:bs.length≤2000) (hp:p<1099511627776) :
  ∃ v:Int,Zl Xs Ms Zn [.ptr 0 0,(.d (J n))] [.box [.d (.sl (bs.map Xc)),(.d (J p))]]=some ((.d (J v)),[.box [.d (.sl (bs.map Xc)),(.d (J ((p+1:Nat))))]])∧0≤v∧(1≤n→v<n):=by
 have hw:=ZY (k:=p) (by omega);by_cases hn:n<1
 ·refine⟨0,?_,by omega,by omega⟩;refine cE ?_;simp +contextual -implicitDefEqProofs (maxSteps:=10^7) only[go_sem,seval,↓gZ,Xz,hw,hn]
 ·by_cases hl:bs.length=0
  ·refine⟨0,?_,by omega,by omega⟩;refine cE ?_;simp +contextual -implicitDefEqProofs (maxSteps:=10^7) only[go_sem,seval,↓gZ,Xz,hw,hn,hl]
  ·have ae : ¬(bs.length:Int)=0:=by omega
   have hs:IntKind.i64.wrap (((p+1:Nat):Int)-1)=(p:Int):=by rw[Yo (by omega) (by omega)];omega
   have af:¬n=0:=by omega
   by_cases ab:p<bs.length
   ·obtain⟨x,hx⟩:=Qx ab;have ai:(x.toNat:Int)<256:=by have:=x.toNat_lt;omega
    have aj:IntKind.i64.wrap (x.toNat:Int)=(x.toNat:Int):=Yo (by omega) (by omega);refine⟨(x.toNat:Int).tmod n,?_,Int.tmod_nonneg _ (by omega),fun _=>Int.tmod_lt_of_pos _ (by omega)⟩;refine cE ?_;simp +contextual -implicitDefEqProofs (maxSteps:=10^7) only[go_sem,seval,↓gZ,Xz,hw,hn,ae,hs,ab,hx,Xc,aj,af]
   ·have aa:0<bs.length:=by omega
    obtain⟨x,hx⟩:=Qx (l:=bs) (k:=p % bs.length) (Nat.mod_lt _ aa);obtain⟨y,hy⟩:=Qx (l:=bs) (k:=(p*7+3) % bs.length) (Nat.mod_lt _ aa);have ai:(x.toNat:Int)<256:=by have:=x.toNat_lt;omega
    have aq:(y.toNat:Int)<256:=by have:=y.toNat_lt;omega
    have e1:((p:Int)).tmod (bs.length:Int)=((p % bs.length:Nat):Int):=(Int.ofNat_tmod p bs.length).symm;have e2:IntKind.i64.wrap ((p:Int)*7)=((p*7:Nat):Int):=by rw[Yo (by omega) (by omega)];omega
    have e3:IntKind.i64.wrap (((p*7:Nat):Int)+3)=((p*7+3:Nat):Int):=by rw[Yo (by omega) (by omega)];omega
    have e4:((p*7+3:Nat):Int).tmod (bs.length:Int)=(((p*7+3) % bs.length:Nat):Int):=(Int.ofNat_tmod _ _).symm;obtain⟨q,ag,hq⟩:∃ q:Nat,q=p / bs.length∧q≤p:=⟨_,rfl,Nat.div_le_self _ _⟩
    have e5:((p:Int)).tdiv (bs.length:Int)=(q:Int):=by rw[ag];exact(Int.ofNat_tdiv p bs.length).symm
    clear ag;have w1:IntKind.i64.wrap (x.toNat:Int)=(x.toNat:Int):=Yo (by omega) (by omega);have w2:IntKind.i64.wrap (y.toNat:Int)=(y.toNat:Int):=Yo (by omega) (by omega);have w3:=wi ((x.toNat:Int)*131) (by omega) (by omega);have w4:=wi ((y.toNat:Int)*1117) (by omega) (by omega);have w5:=wi ((x.toNat:Int)*131+(y.toNat:Int)*1117) (by omega) (by omega);have w6:=wi ((p:Int)*29) (by omega) (by omega);have w7:=wi ((x.toNat:Int)*131+(y.toNat:Int)*1117+(p:Int)*29) (by omega) (by omega);have w8:=wi ((q:Int)) (by omega) (by omega);have w9:=wi ((q:Int)*53) (by omega) (by omega);have ah:=wi ((x.toNat:Int)*131+(y.toNat:Int)*1117+(p:Int)*29+(q:Int)*53) (by omega) (by omega)
    obtain⟨t,ht⟩:∃ t:Int,t=(x.toNat:Int)*131+(y.toNat:Int)*1117+(p:Int)*29+(q:Int)*53:=⟨_,rfl⟩
    have ad:0≤t:=by omega
    have ak:t<4611686018427387904:=by omega
    have al:0≤t.tdiv 64:=Int.tdiv_nonneg ad (by omega);have am:t.tdiv 64<4611686018427387904:=by
     rw[Int.tdiv_eq_ediv_of_nonneg ad];omega
    have an:=wi (t.tdiv 64) (by omega) (by omega);obtain⟨z,ao,ar,hz⟩:=Zod ad ak al am;rw[← ht] at ah;refine⟨z.tmod n,?_,Int.tmod_nonneg _ ao,fun _=>Int.tmod_lt_of_pos _ (by omega)⟩;have ap:V9 .xor .i64 .i64 t (t.tdiv 64)=some (.d (J z)):=by simp only[V9,Vm,asD,Zc,Kh,hz]
    refine cE ?_;simp +contextual -implicitDefEqProofs (maxSteps:=10^7) only[go_sem,seval,↓gZ,Xz,hw,hn,ae,hs,ab,Xc,af,e1,e2,e3,e4,e5,hx,hy,w1,w2,w3,w4,w5,w6,w7,w8,w9,ah,← ht,an,ap]
open Classical in
noncomputable def Xw (bs:List UInt8) (p:Nat) (n:Int):Int:=if h:bs.length≤2000∧p<1099511627776 then (Zcc bs p n h.1 h.2).choose else 0
theorem Xl (bs:List UInt8) (p:Nat) (n:Int) (hb:bs.length≤2000) (hp:p<1099511627776) :
  Zl Xs Ms Zn [.ptr 0 0,(.d (J n))] [.box [.d (.sl (bs.map Xc)),(.d (J p))]]=some ((.d (J (Xw bs p n))),[.box [.d (.sl (bs.map Xc)),(.d (J ((p+1:Nat))))]]):=by
 have h:bs.length≤2000∧p<1099511627776:=⟨hb,hp⟩
 unfold Xw;rw[dif_pos h];exact(Zcc bs p n hb hp).choose_spec.1
theorem Vq (bs:List UInt8) (p:Nat) (n:Int):0≤Xw bs p n:=by
 unfold Xw;split
 ·rename_i h;exact(Zcc bs p n h.1 h.2).choose_spec.2.1
 ·omega
theorem Zaa (bs:List UInt8) (p:Nat) (n:Int) (hn:1≤n):Xw bs p n<n:=by
 unfold Xw;split
 ·rename_i h;exact(Zcc bs p n h.1 h.2).choose_spec.2.2 hn
 ·omega
theorem Ja (bs:List UInt8) (p:Nat) (l:List Int) (hb:bs.length≤2000) (hp:p<1099511627776) (hl:1≤l.length) :
  ∃ v:Int,v∈l∧Zl Xs Ms Qe [.ptr 0 0,.d (.sl (l.map Xa))] [.box [.d (.sl (bs.map Xc)),(.d (J p))]]=some ((.d (J v)),[.box [.d (.sl (bs.map Xc)),(.d (J ((p+1:Nat))))]]):=by
 have h0:=Vq bs p l.length;have h1:=Zaa bs p l.length (by omega);obtain⟨i,hi⟩:∃ i:Nat,Xw bs p (l.length:Int)=(i:Int):=⟨(Xw bs p (l.length:Int)).toNat,by omega⟩
 obtain⟨v,hv⟩:=Qx (l:=l) (k:=i) (by omega);refine⟨v,Kr hv,?_⟩;refine cE ?_;simp +contextual -implicitDefEqProofs (maxSteps:=10^7) only[go_sem,seval,↓gZ,Jg,Xl bs p _ hb hp,hi,hv]
theorem ZP (pO pA pP:Int) (pT:Bool) (pK:List D):Zl Xs Ms V5 [.d (.agg [J pO,J pA,J pP,.bool pT,.sl pK])] []=some ((.d (.bool (decide (pO=2∨pO=3)))),[]):=by
 refine cE ?_;simp +contextual -implicitDefEqProofs (maxSteps:=10^7) only[go_sem,seval,↓gZ,ZeJ]
theorem Zj (pO pA pP:Int) (pT:Bool) (pK:List D):Zl Xs Ms V6 [.d (.agg [J pO,J pA,J pP,.bool pT,.sl pK])] []=some ((.d (.bool (decide (pO=2∨pO=3)))),[]):=by
 refine cE ?_;simp +contextual -implicitDefEqProofs (maxSteps:=10^7) only[go_sem,seval,↓gZ,ZeK]
theorem Jb:∀ (n:Nat) (p:Ze),p.nodes≤n→Zl Xs Ms Qs [.d p.enc] []=some ((.d (J (Zi 255 (Qp p)))),[])
 | 0,.mk o a p t ks,hn=>by simp[Ze.nodes] at hn
 | n+1,.mk o a p t ks,hn=>by
  by_cases ho:o=2∨o=3
  ·by_cases hk:ks.length=2
   ·obtain⟨x,hx⟩:=Qx (l:=ks) (k:=0) (by omega);obtain⟨y,hy⟩:=Qx (l:=ks) (k:=1) (by omega);have aa:=Jb n x (Zb1 hn hx);have ab:=Jb n y (Zb1 hn hy);rw[ZiP ho hk hx hy];obtain⟨lx,ae⟩:∃ l,l=Qp x:=⟨_,rfl⟩
    obtain⟨ly,af⟩:∃ l,l=Qp y:=⟨_,rfl⟩
    rw[← ae] at aa ⊢;rw[← af] at ab ⊢;have rx:=Uz 255 (by omega) lx;have ry:=Uz 255 (by omega) ly;have ad:(ks.length:Int)=2:=by omega
    by_cases hp:p=0
    ·cases t with
     | true=>
      have hb:=Zaz 255 o a p true lx ly (by simp);rw[hb];refine cE ?_;simp +contextual -implicitDefEqProofs (maxSteps:=10^7) only[go_sem,seval,↓gZ,Qg,ZP,ho,hp]
     | false=>
      subst hp;rw[Zmh];obtain⟨sx,ag⟩:∃ s,s=Zi 255 lx:=⟨_,rfl⟩
      obtain⟨sy,ah⟩:∃ s,s=Zi 255 ly:=⟨_,rfl⟩
      rw[← ag] at aa rx ⊢;rw[← ah] at ab ry ⊢;have w1:=wi (1+sx) (by omega) (by omega);have w2:=wi (1+sx+sy) (by omega) (by omega);refine cE ?_;simp +contextual -implicitDefEqProofs (maxSteps:=10^7) only[go_sem,seval,↓gZ,Qg,ZP,ho,ad];refine Qn Xs Ms ?_;simp +contextual -implicitDefEqProofs (maxSteps:=10^7) only[go_sem,seval,↓gZ,ad,hx,hy,aa,ab,w1,w2];intro h;refine Qn Xs Ms ?_;simp +contextual -implicitDefEqProofs (maxSteps:=10^7) only[go_sem,seval,↓gZ,ad,hx,hy,aa,ab,w1,w2,h];intro h';refine Qn Xs Ms ?_;simp +contextual -implicitDefEqProofs (maxSteps:=10^7) only[go_sem,seval,↓gZ,ad,hx,hy,aa,ab,w1,w2,h,h']
    ·have hb:=Zaz 255 o a p t lx ly (by simp[hp]);rw[hb];refine cE ?_;simp +contextual -implicitDefEqProofs (maxSteps:=10^7) only[go_sem,seval,↓gZ,Qg,ZP,ho,hp]
   ·rw[Zem _ _ _ _ _ ho hk];refine cE ?_;have ai : ¬(ks.length:Int)=2:=by omega
    simp +contextual -implicitDefEqProofs (maxSteps:=10^7) only[go_sem,seval,↓gZ,Qg,ZP,ho,ai,Zi]
  ·rw[ZgL ho];by_cases h1:ks.length=0∧a=0∧o=1
   ·rw[Kv h1];obtain⟨h1,rfl,rfl⟩:=h1;refine cE ?_;simp +contextual -implicitDefEqProofs (maxSteps:=10^7) only[go_sem,seval,↓gZ,Qg,ZP,ho,h1,Zi,BT.cnt];refine Qn Xs Ms ?_;simp +contextual -implicitDefEqProofs (maxSteps:=10^7) only[go_sem,seval,↓gZ,h1]
   ·rw[Kp h1];by_cases h2:ks.length=0∧a=0∧o=0∧p=0∧t=false
    ·rw[Kv h2];obtain⟨h2,rfl,rfl,rfl,rfl⟩:=h2;refine cE ?_;simp +contextual -implicitDefEqProofs (maxSteps:=10^7) only[go_sem,seval,↓gZ,Qg,ZP,ho,h2,Zi,BT.cnt];refine Qn Xs Ms ?_;simp +contextual -implicitDefEqProofs (maxSteps:=10^7) only[go_sem,seval,↓gZ,h2]
    ·rw[Kp h2];by_cases c1:ks.length=0
     ·by_cases c2:a=0
      ·by_cases c3:o=1
       ·exact absurd ⟨c1,c2,c3⟩ h1
       ·by_cases c4:o=0
        ·by_cases c5:p=0
         ·cases t with
          | false=>exact absurd ⟨c1,c2,c4,c5,rfl⟩ h2
          | true=>
           refine cE ?_;simp +contextual -implicitDefEqProofs (maxSteps:=10^7) only[go_sem,seval,↓gZ,Qg,ZP,ho,c1,c2,c3,c4,c5,Zi]
         ·refine cE ?_;simp +contextual -implicitDefEqProofs (maxSteps:=10^7) only[go_sem,seval,↓gZ,Qg,ZP,ho,c1,c2,c3,c4,c5,Zi]
        ·refine cE ?_;simp +contextual -implicitDefEqProofs (maxSteps:=10^7) only[go_sem,seval,↓gZ,Qg,ZP,ho,c1,c2,c3,c4,Zi]
      ·refine cE ?_;simp +contextual -implicitDefEqProofs (maxSteps:=10^7) only[go_sem,seval,↓gZ,Qg,ZP,ho,c1,c2,Zi]
     ·have aj : ¬(ks.length:Int)=0:=by omega
      refine cE ?_;simp +contextual -implicitDefEqProofs (maxSteps:=10^7) only[go_sem,seval,↓gZ,Qg,ZP,ho,aj,Zi]
theorem Yg (p:Ze):Zl Xs Ms Qs [.d p.enc] []=some ((.d (J (Zi 255 (Qp p)))),[]):=Jb _ p (Kj _)
theorem Zft (ps:List Pane) (hl:ps.length<4611686018427387904):Zl Xs Ms YZ [(.d (.sl (ps.map Pane.enc)))] []=some ((.d (.bool (decide (ps.length≤24∧VPs ps)))),[]):=by
 refine cE ?_;simp +contextual -implicitDefEqProofs (maxSteps:=10^7) only[go_sem,seval,↓gZ,Jj];refine LO (α:=Nat) (fun k=>[(3,.d (J (k:Int)))]) (fun _=>[]) (fun k=>k≤ps.length∧(VPs ps↔VPs (ps.drop k))) (fun k=>ps.length-k) 0 ⟨by omega,by simp⟩ ?_;intro k ⟨hk,hp⟩ ih;by_cases aa:k<ps.length
 ·obtain⟨x,hx⟩:=Qx aa;rw[Zk9 hx] at hp;have hw:=ZY (k:=k) (by omega);simp +contextual -implicitDefEqProofs (maxSteps:=10^7) only[go_sem,seval,↓gZ,hx,aa,hw,Zhj];refine⟨fun h=>Zpc (fun hh=>h (hp.1 hh.2).1),fun h=>ih (k+1) _ ⟨by omega,?_⟩ (by omega) ?_⟩
  ·rw[hp];exact⟨fun hh=>hh.2,fun hh=>⟨h,hh⟩⟩
  ·simp +contextual -implicitDefEqProofs (maxSteps:=10^7) only[go_sem,seval,↓gZ]
 ·have:k=ps.length:=by omega
  subst this;simp +contextual -implicitDefEqProofs (maxSteps:=10^7) only[go_sem,seval,↓gZ];have hv:VPs ps:=hp.2 (by simp[VPs]);exact Znc ⟨fun h=>⟨by omega,hv⟩,fun h=>by omega⟩
theorem Wr (kW kH:Int) (kP:List Pane) (hl:kP.length<4611686018427387904):Zl Xs Ms Vx [(.d (.agg [J kW,J kH,.sl (kP.map Pane.enc)]))] []=some ((.d (.bool (decide (VW (QR.mk kW kH kP))))),[]):=by
 refine cE ?_;simp +contextual -implicitDefEqProofs (maxSteps:=10^7) only[go_sem,seval,↓gZ,JS,Xf,Zft kP hl];exact Znc (by simp only[VW,and_assoc])
theorem Ws (kW kH:Int) (kP:List Pane):Zl Xs Ms Vy [(.d (.agg [J kW,J kH,.sl (kP.map Pane.enc)]))] []=some ((.d (.bool (decide (VW (QR.mk kW kH kP))))),[]):=by
 refine cE ?_;by_cases h0:((((kW<1∨200<kW)∨kH<1)∨200<kH)∨(24:Int)<kP.length)
 ·simp +contextual -implicitDefEqProofs (maxSteps:=10^7) only[go_sem,seval,↓gZ,W4,h0];exact Zpc (by simp only[VW];omega)
 ·simp +contextual -implicitDefEqProofs (maxSteps:=10^7) only[go_sem,seval,↓gZ,W4,h0];refine LO (α:=Nat) (fun k=>[(32,.d (J (k:Int)))]) (fun _=>[]) (fun k=>k≤kP.length∧(VPs kP↔VPs (kP.drop k))) (fun k=>kP.length-k) 0 ⟨by omega,by simp⟩ ?_;intro k ⟨hk,hp⟩ ih;by_cases aa:k<kP.length
  ·obtain⟨x,hx⟩:=Qx aa;rw[Zk9 hx] at hp;have hw:=ZY (k:=k) (by omega);simp +contextual -implicitDefEqProofs (maxSteps:=10^7) only[go_sem,seval,↓gZ,hx,aa,hw,Zhk];refine⟨fun h=>Zpc (fun hh=>h (hp.1 hh.2.2.2.2.2).1),fun h=>ih (k+1) _ ⟨by omega,?_⟩ (by omega) ?_⟩
   ·rw[hp];exact⟨fun hh=>hh.2,fun hh=>⟨h,hh⟩⟩
   ·simp +contextual -implicitDefEqProofs (maxSteps:=10^7) only[go_sem,seval,↓gZ,h0]
  ·have:k=kP.length:=by omega
   subst this;simp +contextual -implicitDefEqProofs (maxSteps:=10^7) only[go_sem,seval,↓gZ];have hv:VPs kP:=hp.2 (by simp[VPs]);exact fin_t (by simp only[VW];exact⟨by omega,by omega,by omega,by omega,by omega,hv⟩)
theorem WX:∀ (n:Nat) (p:Ze),p.nodes≤n→∀ m:Int,-10≤m→m≤255→Zl Xs Ms Xu [.d p.enc,(.d (J m))] []=some ((.d (J (Zi m (Qp p)))),[])
 | 0,.mk o a p t ks,hn,m,_,_=>by simp[Ze.nodes] at hn
 | n+1,.mk o a p t ks,hn,m,hm1,hm2=>by
  by_cases hm:m<1
  ·rw[Zmi hm];refine cE ?_;simp +contextual -implicitDefEqProofs (maxSteps:=10^7) only[go_sem,seval,↓gZ,Zy,hm]
  by_cases ho:o=2∨o=3
  ·have al:¬o=0:=by omega
   have am:¬o=1:=by omega
   by_cases hk:ks.length=2
   ·obtain⟨x,hx⟩:=Qx (l:=ks) (k:=0) (by omega);obtain⟨y,hy⟩:=Qx (l:=ks) (k:=1) (by omega);rw[ZiP ho hk hx hy];have aa:(ks.length:Int)=2:=by omega
    by_cases hp:p=0
    ·cases t with
     | true=>
      have hb:=Zaz m o a p true (Qp x) (Qp y) (by simp);rw[hb];refine cE ?_;rcases ho with ho | ho<;>simp +contextual -implicitDefEqProofs (maxSteps:=10^7) only[go_sem,seval,↓gZ,Zy,ho,hp,hm,aa]
     | false=>
      subst hp;rw[Zk8];have ag:=WX n x (Zb1 hn hx) (m-1) (by omega) (by omega);have rx:=Uz (m-1) (by omega) (Qp x);have ab:=WX n y (Zb1 hn hy) (m-1-Zi (m-1) (Qp x)) (by omega) (by omega);have ry:=Uz (m-1-Zi (m-1) (Qp x)) (by omega) (Qp y);obtain⟨sy,ah⟩:∃ s,s=Zi (m-1-Zi (m-1) (Qp x)) (Qp y):=⟨_,rfl⟩
      rw[← ah] at ab ry ⊢;obtain⟨sx,ai⟩:∃ s,s=Zi (m-1) (Qp x):=⟨_,rfl⟩
      rw[← ai] at ag ab rx ry ⊢;clear ai ah;have w0:=wi (m-1) (by omega) (by omega);have w1:=wi (m-1-sx) (by omega) (by omega);have w2:=wi (1+sx) (by omega) (by omega);have w3:=wi (1+sx+sy) (by omega) (by omega);refine cE ?_;rcases ho with ho | ho<;>simp +contextual -implicitDefEqProofs (maxSteps:=10^7) only[go_sem,seval,↓gZ,Zy,ho,hm,aa,hx,hy,ag,ab,w0,w1,w2,w3]
    ·have hb:=Zaz m o a p t (Qp x) (Qp y) (by simp[hp]);rw[hb];refine cE ?_;rcases ho with ho | ho<;>simp +contextual -implicitDefEqProofs (maxSteps:=10^7) only[go_sem,seval,↓gZ,Zy,ho,hp,hm,aa]
   ·rw[Zem _ _ _ _ _ ho hk];have ak : ¬(ks.length:Int)=2:=by omega
    refine cE ?_;rcases ho with ho | ho<;>simp +contextual -implicitDefEqProofs (maxSteps:=10^7) only[go_sem,seval,↓gZ,Zy,ho,ak,hm,Zi]
  ·rw[ZgL ho];have ad : ¬o=2:=by omega
   have ae : ¬o=3:=by omega
   have aj : (1:Int)≤m:=by omega
   by_cases h1:ks.length=0∧a=0∧o=1
   ·rw[Kv h1];obtain⟨h1,rfl,rfl⟩:=h1;refine cE ?_;simp +contextual -implicitDefEqProofs (maxSteps:=10^7) only[go_sem,seval,↓gZ,Zy,h1,hm,Zi,BT.cnt,aj]
   ·rw[Kp h1];by_cases h2:ks.length=0∧a=0∧o=0∧p=0∧t=false
    ·rw[Kv h2];obtain⟨h2,rfl,rfl,rfl,rfl⟩:=h2;refine cE ?_;simp +contextual -implicitDefEqProofs (maxSteps:=10^7) only[go_sem,seval,↓gZ,Zy,h2,hm,Zi,BT.cnt,aj]
    ·rw[Kp h2];by_cases c1:ks.length=0
     ·by_cases c2:a=0
      ·by_cases c3:o=1
       ·exact absurd ⟨c1,c2,c3⟩ h1
       ·by_cases c4:o=0
        ·by_cases c5:p=0
         ·cases t with
          | false=>exact absurd ⟨c1,c2,c4,c5,rfl⟩ h2
          | true=>
           refine cE ?_;simp +contextual -implicitDefEqProofs (maxSteps:=10^7) only[go_sem,seval,↓gZ,Zy,hm,c1,c2,c3,c4,c5,Zi]
         ·refine cE ?_;simp +contextual -implicitDefEqProofs (maxSteps:=10^7) only[go_sem,seval,↓gZ,Zy,hm,c1,c2,c3,c4,c5,Zi]
        ·refine cE ?_;simp +contextual -implicitDefEqProofs (maxSteps:=10^7) only[go_sem,seval,↓gZ,Zy,hm,c1,c2,c3,c4,ad,ae,Zi]
      ·refine cE ?_;by_cases c3:o=1
       ·simp +contextual -implicitDefEqProofs (maxSteps:=10^7) only[go_sem,seval,↓gZ,Zy,hm,c1,c2,c3,Zi]
       ·by_cases c4:o=0
        ·simp +contextual -implicitDefEqProofs (maxSteps:=10^7) only[go_sem,seval,↓gZ,Zy,hm,c1,c2,c3,c4,Zi]
        ·simp +contextual -implicitDefEqProofs (maxSteps:=10^7) only[go_sem,seval,↓gZ,Zy,hm,c1,c2,c3,c4,ad,ae,Zi]
     ·have af : ¬(ks.length:Int)=0:=by omega
      refine cE ?_;by_cases c3:o=1
      ·simp +contextual -implicitDefEqProofs (maxSteps:=10^7) only[go_sem,seval,↓gZ,Zy,hm,af,c3,Zi]
      ·by_cases c4:o=0
       ·simp +contextual -implicitDefEqProofs (maxSteps:=10^7) only[go_sem,seval,↓gZ,Zy,hm,af,c3,c4,Zi]
       ·simp +contextual -implicitDefEqProofs (maxSteps:=10^7) only[go_sem,seval,↓gZ,Zy,hm,af,c3,c4,ad,ae,Zi]
theorem Yh (p:Ze):Zl Xs Ms Xi [.d p.enc] []=some ((.d (J (Zi 255 (Qp p)))),[]):=by
 have h:=WX _ p (Kj _) 255 (by omega) (by omega);obtain⟨o,a,q,t,ks⟩:=p;rw[Ze.enc_mk] at h ⊢;refine cE ?_;simp +contextual -implicitDefEqProofs (maxSteps:=10^7) only[go_sem,seval,↓gZ,ZaV,h]
theorem ZdY (kW kH:Int) (kP:List Pane):Zl Xs Ms V4 [(.d (.agg [J kW,J kH,.sl (kP.map Pane.enc)]))] []=some (.d (.agg [J 0,J 0,J kW,J kH]),[]):=by
 refine cE ?_;simp +contextual -implicitDefEqProofs (maxSteps:=10^7) only[go_sem,seval,↓gZ,ZbM]
theorem ZcB {ps:List Pane} {i:Int} {t:Bool} {w h:Int} {k:Nat} {q:Pane} (hi:i=(k:Int)) (hq:ps[k]?=some q):ZW ps i t w h=if t then q.Turns&&decide (¬q.W=q.H)&&decide (q.H=w)&&decide (q.W=h) else decide (q.W=w∧q.H=h):=by
 subst hi;simp[ZW,hq]
theorem ZaO {ps:List Pane} {i:Int} {t:Bool} {w h:Int} (hi:i<0∨(ps.length:Int)≤i):ZW ps i t w h=false:=by
 unfold ZW;rcases hi with hi | hi
 ·have:¬0≤i:=by omega
  simp[this]
 ·have:ps[i.toNat]?=none:=KL (by omega);simp[this]
theorem Zhn (kW kH:Int) (kP:List Pane) (i:Int) (t:Bool) (w h:Int):Zl Xs Ms Vz [(.d (.agg [J kW,J kH,.sl (kP.map Pane.enc)])),(.d (J i)),(.d (.bool t)),(.d (J w)),(.d (J h))] []=some ((.d (.bool (ZW kP i t w h))),[]):=by
 by_cases h0:i<0
 ·rw[ZaO (.inl h0)];refine cE ?_;simp +contextual -implicitDefEqProofs (maxSteps:=10^7) only[go_sem,seval,↓gZ,Yn,h0]
 ·by_cases h1:(kP.length:Int)≤i
  ·rw[ZaO (.inr h1)];refine cE ?_;simp +contextual -implicitDefEqProofs (maxSteps:=10^7) only[go_sem,seval,↓gZ,Yn,h0,h1]
  ·obtain⟨n,rfl⟩:∃ n:Nat,i=(n:Int):=⟨i.toNat,by omega⟩
   obtain⟨q,hq⟩:=Qx (l:=kP) (k:=n) (by omega);have hn:¬kP.length≤n:=by omega
   have aa : n<kP.length:=by omega
   have ab:¬(n:Int)<0:=by omega
   rw[ZcB rfl hq];refine cE ?_;cases t
   ·simp +contextual -implicitDefEqProofs (maxSteps:=10^7) only[go_sem,seval,↓gZ,Yn,ab,hn,hq,aa]
   ·simp +contextual -implicitDefEqProofs (maxSteps:=10^7) only[go_sem,seval,↓gZ,Yn,ab,hn,hq,aa]
theorem VI (o a p:Int) (t:Bool) (ks:List D) (gX gY gW gH:Int) (ho:o=2) (h1:R64 (gX+a)) (h2:R64 (gW-a)):Zl Xs Ms Xh [.d (.agg [J o,J a,J p,.bool t,.sl ks]),(.d (.agg [J gX,J gY,J gW,J gH]))] [] =
  some (.tup [.d (.agg [J gX,J gY,J a,J gH]),.d (.agg [J (gX+a),J gY,J (gW-a),J gH])],[]):=by
 have w1:=wi (gX+a) h1.1 h1.2;have w2:=wi (gW-a) h2.1 h2.2;refine cE ?_;simp +contextual -implicitDefEqProofs (maxSteps:=10^7) only[go_sem,seval,↓gZ,UG,ho,w1,w2]
theorem YC (o a p:Int) (t:Bool) (ks:List D) (gX gY gW gH:Int) (ho:¬o=2) (h1:R64 (gY+a)) (h2:R64 (gH-a)):Zl Xs Ms Xh [.d (.agg [J o,J a,J p,.bool t,.sl ks]),(.d (.agg [J gX,J gY,J gW,J gH]))] [] =
  some (.tup [.d (.agg [J gX,J gY,J gW,J a]),.d (.agg [J gX,J (gY+a),J gW,J (gH-a)])],[]):=by
 have w1:=wi (gY+a) h1.1 h1.2;have w2:=wi (gH-a) h2.1 h2.2;refine cE ?_;simp +contextual -implicitDefEqProofs (maxSteps:=10^7) only[go_sem,seval,↓gZ,UG,ho,w1,w2]
def inB (g:Box):Prop:=0≤g.X∧0≤g.Y∧0≤g.W∧0≤g.H∧g.X+g.W≤1000∧g.Y+g.H≤1000
theorem Vr (kW kH:Int) (kP:List Pane):∀ (b:BT) (gX gY gW gH:Int),inB (Box.mk gX gY gW gH)→Zl Xs Ms X6 [(.d (.agg [J kW,J kH,.sl (kP.map Pane.enc)])),.d b.plan.enc,(.d (.agg [J gX,J gY,J gW,J gH]))] []=some ((.d (.bool (Z4 kP b gW gH))),[])
 | .waste,gX,gY,gW,gH,hg=>by
  simp only[BT.plan,Ze.enc_mk];refine cE ?_;simp +contextual -implicitDefEqProofs (maxSteps:=10^7) only[go_sem,seval,↓gZ,QT,Z4]
 | .pane i t,gX,gY,gW,gH,hg=>by
  simp only[BT.plan,Ze.enc_mk];refine cE ?_;simp +contextual -implicitDefEqProofs (maxSteps:=10^7) only[go_sem,seval,↓gZ,QT,Zhn,Z4]
 | .cut d a l r,gX,gY,gW,gH,hg=>by
  simp only[inB] at hg;simp only[BT.plan,Ze.enc_mk];cases d with
  | true=>
   by_cases h1:a<1
   ·have h2:¬(1≤a∧a≤gW-1):=by omega
    refine cE ?_;simp +contextual -implicitDefEqProofs (maxSteps:=10^7) only[go_sem,seval,↓gZ,QT,Z4,Q9,h1,h2]
   ·by_cases h2:gW≤a
    ·have h3:¬(1≤a∧a≤gW-1):=by omega
     refine cE ?_;simp +contextual -implicitDefEqProofs (maxSteps:=10^7) only[go_sem,seval,↓gZ,QT,Z4,Q9,h1,h2,h3]
    ·have h3:1≤a∧a≤gW-1:=by omega
     have e0:=VI 2 a 0 false [l.plan.enc,r.plan.enc] gX gY gW gH rfl ⟨by omega,by omega⟩ ⟨by omega,by omega⟩;have e1:=Vr kW kH kP l gX gY a gH (by simp only[inB];omega);have e2:=Vr kW kH kP r (gX+a) gY (gW-a) gH (by simp only[inB];omega);refine cE ?_;simp +contextual -implicitDefEqProofs (maxSteps:=10^7) only[go_sem,seval,↓gZ,QT,Z4,Q9,h1,h2,h3,e0,e1,e2]
  | false=>
   by_cases h1:a<1
   ·have h2:¬(1≤a∧a≤gH-1):=by omega
    refine cE ?_;simp +contextual -implicitDefEqProofs (maxSteps:=10^7) only[go_sem,seval,↓gZ,QT,Z4,Q9,h1,h2]
   ·by_cases h2:gH≤a
    ·have h3:¬(1≤a∧a≤gH-1):=by omega
     refine cE ?_;simp +contextual -implicitDefEqProofs (maxSteps:=10^7) only[go_sem,seval,↓gZ,QT,Z4,Q9,h1,h2,h3]
    ·have h3:1≤a∧a≤gH-1:=by omega
     have e0:=YC 3 a 0 false [l.plan.enc,r.plan.enc] gX gY gW gH (by decide) ⟨by omega,by omega⟩ ⟨by omega,by omega⟩;have e1:=Vr kW kH kP l gX gY gW a (by simp only[inB];omega);have e2:=Vr kW kH kP r gX (gY+a) gW (gH-a) (by simp only[inB];omega);refine cE ?_;simp +contextual -implicitDefEqProofs (maxSteps:=10^7) only[go_sem,seval,↓gZ,QT,Z4,Q9,h1,h2,h3,e0,e1,e2]
theorem Qr (kW kH:Int) (kP:List Pane) (i:Int) (t:Bool) (w h:Int) (hl:kP.length<4611686018427387904):Zl Xs Ms QD [(.d (.agg [J kW,J kH,.sl (kP.map Pane.enc)])),.d (BT.pane i t).plan.enc,(.d (J w)),(.d (J h))] []=some ((.d (.bool (ZW kP i t w h))),[]):=by
 have hw:=wi ((kP.length:Int)-1) (by omega) (by omega);simp only[BT.plan,Ze.enc_mk];by_cases h0:0≤i∧i≤(kP.length:Int)-1
 ·obtain⟨n,rfl⟩:∃ n:Nat,i=(n:Int):=⟨i.toNat,by omega⟩
  obtain⟨q,hq⟩:=Qx (l:=kP) (k:=n) (by omega);rw[ZcB rfl hq];refine cE ?_;cases t
  ·simp +contextual -implicitDefEqProofs (maxSteps:=10^7) only[go_sem,seval,↓gZ,QV,Xf,h0,hw,hq]
  ·simp +contextual -implicitDefEqProofs (maxSteps:=10^7) only[go_sem,seval,↓gZ,QV,Xf,h0,hw,hq]
 ·rw[ZaO (by omega)];refine cE ?_;simp +contextual -implicitDefEqProofs (maxSteps:=10^7) only[go_sem,seval,↓gZ,QV,Xf,h0,hw]
theorem Vs (kW kH:Int) (kP:List Pane) (hl:kP.length<4611686018427387904):∀ (b:BT) (w h:Int),0≤w→w≤1000→0≤h→h≤1000→Zl Xs Ms QD [(.d (.agg [J kW,J kH,.sl (kP.map Pane.enc)])),.d b.plan.enc,(.d (J w)),(.d (J h))] []=some ((.d (.bool (Z4 kP b w h))),[])
 | .waste,w,h,hw0,hw1,hh0,hh1=>by
  simp only[BT.plan,Ze.enc_mk];refine cE ?_;simp +contextual -implicitDefEqProofs (maxSteps:=10^7) only[go_sem,seval,↓gZ,QV,Z4]
 | .pane i t,w,h,hw0,hw1,hh0,hh1=>Qr kW kH kP i t w h hl
 | .cut d a l r,w,h,hw0,hw1,hh0,hh1=>by
  have w1:=wi (w-1) (by omega) (by omega);have w2:=wi (h-1) (by omega) (by omega);simp only[BT.plan,Ze.enc_mk];cases d with
  | true=>
   by_cases h3:1≤a∧a≤w-1
   ·have w3:=wi (w-a) (by omega) (by omega);have e1:=Vs kW kH kP hl l a h (by omega) (by omega) hh0 hh1;have e2:=Vs kW kH kP hl r (w-a) h (by omega) (by omega) hh0 hh1;refine cE ?_;simp +contextual -implicitDefEqProofs (maxSteps:=10^7) only[go_sem,seval,↓gZ,QV,Z4,Q9,h3,Xf,w1,w2,w3,e1,e2]
   ·refine cE ?_;simp +contextual -implicitDefEqProofs (maxSteps:=10^7) only[go_sem,seval,↓gZ,QV,Z4,Q9,h3,Xf,w1,w2]
  | false=>
   by_cases h3:1≤a∧a≤h-1
   ·have w3:=wi (h-a) (by omega) (by omega);have e1:=Vs kW kH kP hl l w a hw0 hw1 (by omega) (by omega);have e2:=Vs kW kH kP hl r w (h-a) hw0 hw1 (by omega) (by omega);refine cE ?_;simp +contextual -implicitDefEqProofs (maxSteps:=10^7) only[go_sem,seval,↓gZ,QV,Z4,Q9,h3,Xf,w1,w2,w3,e1,e2]
   ·refine cE ?_;simp +contextual -implicitDefEqProofs (maxSteps:=10^7) only[go_sem,seval,↓gZ,QV,Z4,Q9,h3,Xf,w1,w2]
theorem Zho (kW kH:Int) (kP:List Pane) (p:Ze):Zl Xs Ms Vv [(.d (.agg [J kW,J kH,.sl (kP.map Pane.enc)])),.d p.enc] []=some ((.d (.bool (XN (QR.mk kW kH kP) p))),[]):=by
 have hs:=Yh p;unfold XN;cases hb:Qp p with
 | none=>
  obtain⟨o,a,q,t,ks⟩:=p;rw[hb] at hs;rw[Ze.enc_mk] at hs ⊢;refine cE ?_;simp +contextual -implicitDefEqProofs (maxSteps:=10^7) only[go_sem,seval,↓gZ,Yl,Ws,hs,Zi]
 | some b=>
  have hp:=Y6 hb;rw[hb] at hs;have hc:=b.cnt_pos;have hz:=ZH 255 b;by_cases hv:VW (QR.mk kW kH kP)
  ·have aa:=hv;simp only[VW] at aa;have hf:=Vr kW kH kP b 0 0 kW kH (by simp only[inB];omega);rw[← hp] at hf;obtain⟨o,a,q,t,ks⟩:=p;rw[Ze.enc_mk] at hs hf ⊢;by_cases h2:b.cnt≤255
   ·have h3:Zi 255 (some b)=b.cnt:=by omega
    have h4:(0:Int)<b.cnt:=by omega
    rw[h3] at hs;refine cE ?_;simp +contextual -implicitDefEqProofs (maxSteps:=10^7) only[go_sem,seval,↓gZ,Yl,Ws,ZdY,hs,hf,hv,h2,h4]
   ·have h3:Zi 255 (some b)=-1:=by omega
    rw[h3] at hs;refine cE ?_;simp +contextual -implicitDefEqProofs (maxSteps:=10^7) only[go_sem,seval,↓gZ,Yl,Ws,hs,hv,h2]
  ·obtain⟨o,a,q,t,ks⟩:=p;rw[Ze.enc_mk] at hs ⊢;refine cE ?_;simp +contextual -implicitDefEqProofs (maxSteps:=10^7) only[go_sem,seval,↓gZ,Yl,Ws,hs,hv]
theorem Zhp (kW kH:Int) (kP:List Pane) (p:Ze) (hl:kP.length<4611686018427387904):Zl Xs Ms Vw [(.d (.agg [J kW,J kH,.sl (kP.map Pane.enc)])),.d p.enc] []=some ((.d (.bool (XN (QR.mk kW kH kP) p))),[]):=by
 have hs:=Yg p;unfold XN;cases hb:Qp p with
 | none=>
  obtain⟨o,a,q,t,ks⟩:=p;rw[hb] at hs;rw[Ze.enc_mk] at hs ⊢;refine cE ?_;simp +contextual -implicitDefEqProofs (maxSteps:=10^7) only[go_sem,seval,↓gZ,Ym,Wr kW kH kP hl,hs,Zi]
 | some b=>
  have hp:=Y6 hb;rw[hb] at hs;have hc:=b.cnt_pos;have hz:=ZH 255 b;by_cases hv:VW (QR.mk kW kH kP)
  ·have aa:=hv;simp only[VW] at aa;have hf:=Vs kW kH kP hl b kW kH (by omega) (by omega) (by omega) (by omega);rw[← hp] at hf;obtain⟨o,a,q,t,ks⟩:=p;rw[Ze.enc_mk] at hs hf ⊢;by_cases h2:b.cnt≤255
   ·have h3:Zi 255 (some b)=b.cnt:=by omega
    have h4:(0:Int)<b.cnt:=by omega
    rw[h3] at hs;refine cE ?_;simp +contextual -implicitDefEqProofs (maxSteps:=10^7) only[go_sem,seval,↓gZ,Ym,Wr kW kH kP hl,hs,hf,hv,h2,h4]
   ·have h3:Zi 255 (some b)=-1:=by omega
    rw[h3] at hs;refine cE ?_;simp +contextual -implicitDefEqProofs (maxSteps:=10^7) only[go_sem,seval,↓gZ,Ym,Wr kW kH kP hl,hs,hv,h2]
  ·obtain⟨o,a,q,t,ks⟩:=p;rw[Ze.enc_mk] at hs ⊢;refine cE ?_;simp +contextual -implicitDefEqProofs (maxSteps:=10^7) only[go_sem,seval,↓gZ,Ym,Wr kW kH kP hl,hs,hv]
theorem bNe (a b:Bool):Zfo .neq true (AV.d (.bool a)) (.d (.bool b))=Yq (some (AV.d (.bool (a != b)))):=by cases a<;>cases b<;>rfl
end Go.Proofs.Ytighjmleicikhaa
