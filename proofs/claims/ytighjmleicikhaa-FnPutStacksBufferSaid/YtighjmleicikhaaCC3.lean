/- Own text. -/
import Derived.Test.YtighjmleicikhaaCCode
import Derived.Test.YtighjmleicikhaaAbsParts
import Derived.Test.YtighjmleicikhaaCC2
namespace Go.Proofs.Ytighjmleicikhaa
open Go Go.Abs Go.Abs.E Go.Abs.L
open Nat (reduceMul reduceSub reduceLeDiff reduceEqDiff)
open Int (reduceLE reduceEq reduceToNat reduceNeg)
set_option linter.unusedSimpArgs false
set_option linter.unusedVariables false
set_option maxRecDepth 20000
set_option maxHeartbeats 4000000
theorem ZhI (n lo hi:Int):Zu Xs Ms VO [(.d (J n)),(.d (J lo)),(.d (J hi))] []=some ((.d (.bool ((decide (lo≤n∧n≤hi))))),[]):=by
 refine cE ?_;simp +contextual -implicitDefEqProofs (maxSteps:=10^7) only[go_sem,seval,↓gZ,J2]
def Z3:Nat→List Int→Int→Int
 | _,[],_=>-1
 | k,x :: l,n=>if x=n then (k:Int) else Z3 (k+1) l n
theorem JW {l:List Int} {k:Nat} {x n:Int} (hx:l[k]?=some x):Z3 k (l.drop k) n=if x=n then (k:Int) else Z3 (k+1) (l.drop (k+1)) n:=by
 have h:=(Kb.1 hx)
 obtain⟨h1,h2⟩:=h;rw[Lb h1,h2,Z3]
theorem ZhJ (l:List Int) (n:Int) (hl:l.length<4611686018427387904):Zu Xs Ms VL [.d (.sl (l.map Zs)),(.d (J n))] []=some ((.d (J (Z3 0 l n))),[]):=by
 refine cE ?_;simp +contextual -implicitDefEqProofs (maxSteps:=10^7) only[go_sem,seval,↓gZ,JZ];refine LO (α:=Nat) (fun k=>[(5,.d (J (k:Int)))]) (fun _=>[]) (fun k=>k≤l.length∧Z3 k (l.drop k) n=Z3 0 l n) (fun k=>l.length-k) 0 ⟨by omega,rfl⟩ ?_;intro k ⟨hk,hp⟩ ih;by_cases aa:k<l.length
 ·obtain⟨x,hx⟩:=ZW aa;rw[JW hx] at hp;have hw:=ZF (k:=k) (by omega);simp +contextual -implicitDefEqProofs (maxSteps:=10^7) only[go_sem,seval,↓gZ,hx,aa,hw];refine⟨fun h=>?_,fun h=>ih (k+1) _ ⟨by omega,?_⟩ (by omega) ?_⟩
  ·rw[Kw h] at hp;rw[← hp]
  ·rw[Kn h] at hp;exact hp
  ·simp +contextual -implicitDefEqProofs (maxSteps:=10^7) only[go_sem,seval,↓gZ]
 ·have:k=l.length:=by omega
  subst this;simp +contextual -implicitDefEqProofs (maxSteps:=10^7) only[go_sem,seval,↓gZ];rw[← hp];simp[Z3]
theorem Zfm (bs:List UInt8):Zu Xs Ms Ys [.d (.sl (bs.map VS))] []=some (.ptr 0 0,[.box [.d (.sl ((bs.take 2000).map VS)),(.d (J 0))]]):=by
 refine cE ?_;by_cases h:2000<bs.length
 ·have h1:(2000:Int)<bs.length:=by omega
  have h2:(2000:Int)≤bs.length:=by omega
  simp +contextual -implicitDefEqProofs (maxSteps:=10^7) only[go_sem,seval,↓gZ,VD,h1,h2]
 ·have h1:¬(2000:Int)<bs.length:=by omega
  have h2:bs.take 2000=bs:=La (by omega);simp +contextual -implicitDefEqProofs (maxSteps:=10^7) only[go_sem,seval,↓gZ,VD,h1,h2]
theorem Zar (bs:List UInt8) (p:Nat) (n:Int) (hb:bs.length≤2000) (hp:p<1099511627776) :
  ∃ v:Int,Zu Xs Ms Qc [.ptr 0 0,(.d (J n))] [.box [.d (.sl (bs.map VS)),(.d (J p))]]=some ((.d (J v)),[.box [.d (.sl (bs.map VS)),(.d (J ((p+1:Nat))))]])∧0≤v∧(1≤n→v<n):=by
 have hw:=ZF (k:=p) (by omega);by_cases hn:n<1
 ·refine⟨0,?_,by omega,by omega⟩;refine cE ?_;simp +contextual -implicitDefEqProofs (maxSteps:=10^7) only[go_sem,seval,↓gZ,QZ,hw,hn]
 ·by_cases hl:bs.length=0
  ·refine⟨0,?_,by omega,by omega⟩;refine cE ?_;simp +contextual -implicitDefEqProofs (maxSteps:=10^7) only[go_sem,seval,↓gZ,QZ,hw,hn,hl]
  ·have ae : ¬(bs.length:Int)=0:=by omega
   have hs:IntKind.i64.wrap (((p+1:Nat):Int)-1)=(p:Int):=by rw[XX (by omega) (by omega)];omega
   have af:¬n=0:=by omega
   by_cases ab:p<bs.length
   ·obtain⟨x,hx⟩:=ZW ab;have ai:(x.toNat:Int)<256:=by have:=x.toNat_lt;omega
    have aj:IntKind.i64.wrap (x.toNat:Int)=(x.toNat:Int):=XX (by omega) (by omega);refine⟨(x.toNat:Int).tmod n,?_,Int.tmod_nonneg _ (by omega),fun _=>Int.tmod_lt_of_pos _ (by omega)⟩;refine cE ?_;simp +contextual -implicitDefEqProofs (maxSteps:=10^7) only[go_sem,seval,↓gZ,QZ,hw,hn,ae,hs,ab,hx,VS,aj,af]
   ·have aa:0<bs.length:=by omega
    obtain⟨x,hx⟩:=ZW (l:=bs) (k:=p % bs.length) (Nat.mod_lt _ aa);obtain⟨y,hy⟩:=ZW (l:=bs) (k:=(p*7+3) % bs.length) (Nat.mod_lt _ aa);have ai:(x.toNat:Int)<256:=by have:=x.toNat_lt;omega
    have aq:(y.toNat:Int)<256:=by have:=y.toNat_lt;omega
    have e1:((p:Int)).tmod (bs.length:Int)=((p % bs.length:Nat):Int):=(Int.ofNat_tmod p bs.length).symm;have e2:IntKind.i64.wrap ((p:Int)*7)=((p*7:Nat):Int):=by rw[XX (by omega) (by omega)];omega
    have e3:IntKind.i64.wrap (((p*7:Nat):Int)+3)=((p*7+3:Nat):Int):=by rw[XX (by omega) (by omega)];omega
    have e4:((p*7+3:Nat):Int).tmod (bs.length:Int)=(((p*7+3) % bs.length:Nat):Int):=(Int.ofNat_tmod _ _).symm;obtain⟨q,ag,hq⟩:∃ q:Nat,q=p / bs.length∧q≤p:=⟨_,rfl,Nat.div_le_self _ _⟩
    have e5:((p:Int)).tdiv (bs.length:Int)=(q:Int):=by rw[ag];exact(Int.ofNat_tdiv p bs.length).symm
    clear ag;have w1:IntKind.i64.wrap (x.toNat:Int)=(x.toNat:Int):=XX (by omega) (by omega);have w2:IntKind.i64.wrap (y.toNat:Int)=(y.toNat:Int):=XX (by omega) (by omega);have w3:=wi ((x.toNat:Int)*131) (by omega) (by omega);have w4:=wi ((y.toNat:Int)*1117) (by omega) (by omega);have w5:=wi ((x.toNat:Int)*131+(y.toNat:Int)*1117) (by omega) (by omega);have w6:=wi ((p:Int)*29) (by omega) (by omega);have w7:=wi ((x.toNat:Int)*131+(y.toNat:Int)*1117+(p:Int)*29) (by omega) (by omega);have w8:=wi ((q:Int)) (by omega) (by omega);have w9:=wi ((q:Int)*53) (by omega) (by omega);have ah:=wi ((x.toNat:Int)*131+(y.toNat:Int)*1117+(p:Int)*29+(q:Int)*53) (by omega) (by omega)
    obtain⟨t,ht⟩:∃ t:Int,t=(x.toNat:Int)*131+(y.toNat:Int)*1117+(p:Int)*29+(q:Int)*53:=⟨_,rfl⟩
    have ad:0≤t:=by omega
    have ak:t<4611686018427387904:=by omega
    have al:0≤t.tdiv 64:=Int.tdiv_nonneg ad (by omega);have am:t.tdiv 64<4611686018427387904:=by
     rw[Int.tdiv_eq_ediv_of_nonneg ad];omega
    have an:=wi (t.tdiv 64) (by omega) (by omega);obtain⟨z,ao,ar,hz⟩:=ZlE ad ak al am;rw[← ht] at ah;refine⟨z.tmod n,?_,Int.tmod_nonneg _ ao,fun _=>Int.tmod_lt_of_pos _ (by omega)⟩;have ap:YR .xor .i64 .i64 t (t.tdiv 64)=some (.d (J z)):=by simp only[YR,Yl,asD,Zc,Ki,hz]
    refine cE ?_;simp +contextual -implicitDefEqProofs (maxSteps:=10^7) only[go_sem,seval,↓gZ,QZ,hw,hn,ae,hs,ab,VS,af,e1,e2,e3,e4,e5,hx,hy,w1,w2,w3,w4,w5,w6,w7,w8,w9,ah,← ht,an,ap]
open Classical in
noncomputable def Vt (bs:List UInt8) (p:Nat) (n:Int):Int:=if h:bs.length≤2000∧p<1099511627776 then (Zar bs p n h.1 h.2).choose else 0
theorem Zas (bs:List UInt8) (p:Nat) (n:Int) (hb:bs.length≤2000) (hp:p<1099511627776) :
  Zu Xs Ms Qc [.ptr 0 0,(.d (J n))] [.box [.d (.sl (bs.map VS)),(.d (J p))]]=some ((.d (J (Vt bs p n))),[.box [.d (.sl (bs.map VS)),(.d (J ((p+1:Nat))))]]):=by
 have h:bs.length≤2000∧p<1099511627776:=⟨hb,hp⟩
 unfold Vt;rw[dif_pos h];exact(Zar bs p n hb hp).choose_spec.1
theorem Ud (bs:List UInt8) (p:Nat) (n:Int):0≤Vt bs p n:=by
 unfold Vt;split
 ·rename_i h;exact(Zar bs p n h.1 h.2).choose_spec.2.1
 ·omega
theorem ZcK (bs:List UInt8) (p:Nat) (n:Int) (hn:1≤n):Vt bs p n<n:=by
 unfold Vt;split
 ·rename_i h;exact(Zar bs p n h.1 h.2).choose_spec.2.2 hn
 ·omega
theorem Zi6 (bs:List UInt8) (p:Nat) (l:List Int) (hb:bs.length≤2000) (hp:p<1099511627776) (hl:1≤l.length) :
  ∃ v:Int,v∈l∧Zu Xs Ms Xi [.ptr 0 0,.d (.sl (l.map Zs))] [.box [.d (.sl (bs.map VS)),(.d (J p))]]=some ((.d (J v)),[.box [.d (.sl (bs.map VS)),(.d (J ((p+1:Nat))))]]):=by
 have h0:=Ud bs p l.length;have h1:=ZcK bs p l.length (by omega);obtain⟨i,hi⟩:∃ i:Nat,Vt bs p (l.length:Int)=(i:Int):=⟨(Vt bs p (l.length:Int)).toNat,by omega⟩
 obtain⟨v,hv⟩:=ZW (l:=l) (k:=i) (by omega);refine⟨v,Kl hv,?_⟩;refine cE ?_;simp +contextual -implicitDefEqProofs (maxSteps:=10^7) only[go_sem,seval,↓gZ,WI,Zas bs p _ hb hp,hi,hv]
end Go.Proofs.Ytighjmleicikhaa
namespace Go.Proofs.Ytighjmleicikhaa
open Go Go.Abs Go.Abs.E Go.Abs.L
open Nat (reduceMul reduceSub reduceLeDiff reduceEqDiff)
open Int (reduceLE reduceEq reduceToNat reduceNeg)
set_option linter.unusedSimpArgs false
set_option linter.unusedVariables false
set_option maxRecDepth 20000
set_option maxHeartbeats 4000000
theorem WF (a b:List Int) (ha:a.length≤1048576):Zu Xs Ms Q9 [.d (.sl (a.map Zs)),.d (.sl (b.map Zs))] []=some ((.d (.bool (decide (a=b)))),[]):=by
 by_cases hl:a.length=b.length
 ·refine cE ?_;simp +contextual -implicitDefEqProofs (maxSteps:=10^7) only[go_sem,seval,↓gZ,Vz,hl];refine LO (α:=Nat) (fun i=>[(5,.d (J (i:Int)))]) (fun _=>[]) (fun i=>i≤a.length∧a.take i=b.take i) (fun i=>a.length-i) 0 ⟨by omega,by simp⟩ ?_;intro i ⟨hi,hp⟩ ih;by_cases ad:i<a.length
  ·obtain⟨x,hx⟩:=ZW ad;obtain⟨y,hy⟩:=ZW (l:=b) (k:=i) (by omega);have hw:=ZF (k:=i) (by omega);have aa:i<b.length:=by omega
   by_cases he:x=y
   ·simp +contextual -implicitDefEqProofs (maxSteps:=10^7) only[go_sem,seval,↓gZ,hx,hy,ad,aa,hl,he,hw];refine ih (i+1) _ ⟨by omega,by rw[KD,KD,hx,hy,hp,he]⟩ (by omega) ?_;simp +contextual -implicitDefEqProofs (maxSteps:=10^7) only[go_sem,seval,↓gZ]
   ·have ab:a≠b:=fun e=>he (by rw[e,hy] at hx;exact(Option.some.inj hx).symm);simp +contextual -implicitDefEqProofs (maxSteps:=10^7) only[go_sem,seval,↓gZ,hx,hy,ad,aa,hl,he,hw]
    first | exact fin_f ab | simp[ab]
  ·have:i=a.length:=by omega
   subst this;have:a=b:=by
    rw[Lp] at hp;rw[hp,hl,Lp]
   simp +contextual -implicitDefEqProofs (maxSteps:=10^7) only[go_sem,seval,↓gZ,hl]
   first | exact fin_t this | simp[this]
 ·have ab:a≠b:=fun e=>hl (by rw[e]);have ae:¬(a.length:Int)=b.length:=by omega
  rw[Kr ab];refine cE ?_;simp +contextual -implicitDefEqProofs (maxSteps:=10^7) only[go_sem,seval,↓gZ,Vz,ae]
def ZaO (l:List Int) (i:Nat):List D:=(List.range l.length).map fun (k:Nat)=>D.bool (decide ((k:Int)∈l.take i))
theorem Zkg (l:List Int):List.replicate l.length (D.bool false)=ZaO l 0:=by
 refine(List.eq_replicate_iff.2 ⟨by simp[ZaO],fun b hb=>?_⟩).symm;simp only[ZaO,Ls,K9] at hb;obtain⟨k,_,rfl⟩:=hb;simp
theorem Zat (l:List Int) (i:Nat):(ZaO l i).length=l.length:=by simp[ZaO]
theorem Zau {l:List Int} {i k:Nat} (h:k<l.length):(ZaO l i)[k]?=some (.bool (decide ((k:Int)∈l.take i))):=by simp[ZaO,LS h]
theorem Zl9 {l:List Int} {i k:Nat} (h:l[i]?=some (k:Int)):(ZaO l i).set k (.bool true)=ZaO l (i+1):=by
 refine Ld fun j=>?_;by_cases hj:j<l.length
 ·rw[List.getElem?_set];by_cases e:k=j
  ·subst e;rw[Kw rfl,Kw (by rw[Zat];exact hj),Zau hj,KD,h];simp
  ·rw[Kn e,Zau hj,Zau hj,KD,h];have:¬(j:Int)=(k:Int):=by omega
   simp[this]
 ·rw[KH (by simp[Zat];omega),KH (by rw[Zat];omega)]
theorem Zfn {l:List Int} {i:Nat} {x:Int} (h:l[i]?=some x) (hn:(l.take i).Nodup) (hx:x∉l.take i):(l.take (i+1)).Nodup:=by
 rw[KD,h,Option.toList_some,Lt];exact⟨hn,by simp,fun a ha b hb=>by simp at hb;subst hb;rintro rfl;exact hx ha⟩
theorem Zfo {l:List Int} {i:Nat} {x:Int} (h:l[i]?=some x) (hx:x∈l.take i):¬l.Nodup:=by
 intro hn;obtain⟨j,hj⟩:=KZ hx;rw[KU] at hj;split at hj
 ·obtain⟨h1,h2⟩:=Kb.1 hj;obtain⟨h3,h4⟩:=Kb.1 h;exact(List.pairwise_iff_getElem.1 hn) j i h1 h3 (by assumption) (by rw[h2,h4])
 ·cases hj
theorem Ue {l:List Int} {i:Nat} {x y:Int} (h:l[i]?=some x) (hy:y∈l.take (i+1)):y∈l.take i∨y=x:=by
 rw[KD,h] at hy;simpa using hy
theorem ZhK (l:List Int) (hl:l.length≤1000):Zu Xs Ms VN [.d (.sl (l.map Zs)),(.d (J ((l.length:Nat))))] []=some ((.d (.bool (decide (Jh l)))),[]):=by
 have hr:(l.length:Int)*1≤140737488355328∧(l.length:Int)≤140737488355328:=by omega
 have h0:¬(l.length:Int)<0:=by omega
 have hz:=Zkg l;refine cE ?_;simp +contextual -implicitDefEqProofs (maxSteps:=10^7) only[go_sem,seval,↓gZ,J0,hr,h0,hz];refine LO (α:=Nat) (fun i=>[(16,.d (J (i:Int)))]) (fun i=>[(0,.row 1 (ZaO l i) true false)]) (fun i=>i≤l.length∧(l.take i).Nodup∧∀ x∈l.take i,0≤x∧x<l.length) (fun i=>l.length-i) 0 ⟨by omega,by simp,by simp⟩ ?_;intro i ⟨hi,hn,hm⟩ ih;by_cases aa:i<l.length
 ·obtain⟨x,hx⟩:=ZW aa;have hw:=ZF (k:=i) (by omega);have af:=Kl hx;by_cases c1:x<0
  ·have ab:¬Jh l:=fun h=>by have:=(h.2 x af).1;omega
   rw[Kr ab];simp +contextual -implicitDefEqProofs (maxSteps:=10^7) only[go_sem,seval,↓gZ,hx,aa,c1]
  by_cases c2:(l.length:Int)≤x
  ·have ab:¬Jh l:=fun h=>by have:=(h.2 x af).2;omega
   rw[Kr ab];simp +contextual -implicitDefEqProofs (maxSteps:=10^7) only[go_sem,seval,↓gZ,hx,aa,c1,c2]
  obtain⟨k,rfl⟩:∃ k:Nat,x=(k:Int):=⟨x.toNat,by omega⟩
  have hk:k<l.length:=by omega
  have hg:=Zau (i:=i) hk;have ag:=Zat l i;have ad:=Zl9 hx;by_cases c3:(k:Int)∈l.take i
  ·have ab:¬Jh l:=fun h=>Zfo hx c3 h.1;rw[Ku c3] at hg;rw[Kr ab];simp +contextual -implicitDefEqProofs (maxSteps:=10^7) only[go_sem,seval,↓gZ,hx,aa,c1,c2,hg,hk,ag]
  ·rw[Kr c3] at hg;simp +contextual -implicitDefEqProofs (maxSteps:=10^7) only[go_sem,seval,↓gZ,hx,aa,c1,c2,hg,hk,ag,ad,hw];refine ih (i+1) _ ⟨by omega,Zfn hx hn c3,fun y hy=>?_⟩ (by omega) ?_
   ·rcases Ue hx hy with h | h
    ·exact hm y h
    ·omega
   ·simp +contextual -implicitDefEqProofs (maxSteps:=10^7) only[go_sem,seval,↓gZ,Lg,ad]
 ·have:i=l.length:=by omega
  subst this;rw[Lp] at hn hm;have ae:Jh l:=⟨hn,hm⟩
  rw[Ku ae];simp +contextual -implicitDefEqProofs (maxSteps:=10^7) only[go_sem,seval,↓gZ]
abbrev QT (l:List Int):Prop:=l.length≤24∧Jh l
theorem QA (l:List Int) (hl:l.length≤1000):Zu Xs Ms Z1 [.d (.sl (l.map Zs))] []=some ((.d (.bool (decide (QT l)))),[]):=by
 have e1:=ZhK l hl;by_cases h:l.length≤24
 ·have h' : (l.length:Int)≤24:=by omega
  have e2:decide (QT l)=decide (Jh l):=by
   by_cases h2:Jh l
   ·rw[Ku h2,Ku (⟨h,h2⟩:QT l)]
   ·rw[Kr h2,Kr fun h=>h2 h.2]
  rw[e2];refine cE ?_;simp +contextual -implicitDefEqProofs (maxSteps:=10^7) only[go_sem,seval,↓gZ,VC,h',h,e1]
 ·have h' : ¬(l.length:Int)≤24:=by omega
  have aa:¬QT l:=fun h2=>h h2.1;rw[Kr aa];refine cE ?_;simp +contextual -implicitDefEqProofs (maxSteps:=10^7) only[go_sem,seval,↓gZ,VC,h',h]
theorem Zdt:∀ (l:List Int) (k:Nat) (n:Int),(n∈l→0≤Z3 k l n)∧(n∉l→Z3 k l n=-1)
 | [],k,n=>⟨fun h=>(by cases h),fun _=>rfl⟩
 | x :: l,k,n=>by
  have ih:=Zdt l (k+1) n;refine⟨fun h=>?_,fun h=>?_⟩
  ·unfold Z3;split
   ·omega
   ·rename_i hx;exact ih.1 ((Ke.1 h).resolve_left fun e=>hx e.symm)
  ·unfold Z3;rw[Kn (fun e=>h (by simp[e])),ih.2 (fun e=>h (by simp[e]))]
theorem Zfp (l:List Int) (hl:l.length≤1000):Zu Xs Ms Yt [.d (.sl (l.map Zs))] []=some ((.d (.bool (decide (QT l)))),[]):=by
 refine cE ?_;simp +contextual -implicitDefEqProofs (maxSteps:=10^7) only[go_sem,seval,↓gZ,Uh];refine LO (α:=Nat) (fun i=>[(3,.d (J (i:Int)))]) (fun _=>[]) (fun i=>i≤l.length∧(l.take i).Nodup∧∀ x∈l.take i,0≤x∧x<l.length) (fun i=>l.length-i) 0 ⟨by omega,by simp,by simp⟩ ?_;intro i ⟨hi,hn,hm⟩ ih;by_cases aa:i<l.length
 ·obtain⟨x,hx⟩:=ZW aa;have hw:=ZF (k:=i) (by omega);have ae:=Kl hx;have w1:=wi ((l.length:Int)-1) (by omega) (by omega);have e1:=ZhI x 0 ((l.length:Int)-1);have e2:=ZhJ (l.take i) x (by simp;omega);have pm:=Zdt (l.take i) 0 x;have ab:(i:Int)≤(l.length:Int):=by omega
  by_cases c1:0≤x∧x≤(l.length:Int)-1
  ·rw[Ku c1] at e1;by_cases c3:x∈l.take i
   ·have ad:¬QT l:=fun h=>Zfo hx c3 h.2.1;have k1:=pm.1 c3;rw[Kr ad];simp +contextual -implicitDefEqProofs (maxSteps:=10^7) only[go_sem,seval,↓gZ,hx,aa,w1,e1,e2,k1,ab,hi]
   ·have k1:=pm.2 c3;rw[k1] at e2;simp +contextual -implicitDefEqProofs (maxSteps:=10^7) only[go_sem,seval,↓gZ,hx,aa,w1,e1,e2,ab,hi,hw];refine ih (i+1) _ ⟨by omega,Zfn hx hn c3,fun y hy=>?_⟩ (by omega) ?_
    ·rcases Ue hx hy with h | h
     ·exact hm y h
     ·omega
    ·simp +contextual -implicitDefEqProofs (maxSteps:=10^7) only[go_sem,seval,↓gZ]
  ·have ad:¬QT l:=fun h=>by have:=h.2.2 x ae;omega
   rw[Kr c1] at e1;rw[Kr ad];simp +contextual -implicitDefEqProofs (maxSteps:=10^7) only[go_sem,seval,↓gZ,hx,aa,w1,e1,ab,hi]
 ·have:i=l.length:=by omega
  subst this;rw[Lp] at hn hm;have e2:decide (QT l)=decide (l.length≤24):=by
   have h2:Jh l:=⟨hn,hm⟩
   by_cases h3:l.length≤24
   ·rw[Ku h3,Ku (⟨h3,h2⟩:QT l)]
   ·rw[Kr h3,Kr fun h=>h3 h.1]
  rw[e2];simp +contextual -implicitDefEqProofs (maxSteps:=10^7) only[go_sem,seval,↓gZ]
  first | done | exact fin_b (by omega)
end Go.Proofs.Ytighjmleicikhaa
