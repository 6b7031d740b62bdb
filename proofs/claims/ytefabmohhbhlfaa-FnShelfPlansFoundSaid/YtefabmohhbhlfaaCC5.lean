/- Own text. -/
import Derived.Test.YtefabmohhbhlfaaCCode
import Derived.Test.YtefabmohhbhlfaaAbsParts
import Derived.Test.YtefabmohhbhlfaaCC1
import Derived.Test.YtefabmohhbhlfaaCC4
import Derived.Test.YtefabmohhbhlfaaAbsOkD
namespace Go.Proofs.Ytefabmohhbhlfaa
open Go Go.Abs Go.Abs.E Go.Abs.L
open Nat (reduceMul reduceSub reduceLeDiff reduceEqDiff)
open Int (reduceLE reduceEq reduceToNat reduceNeg)
set_option linter.unusedSimpArgs false
set_option linter.unusedVariables false
set_option maxRecDepth 20000
set_option maxHeartbeats 4000000
def Apt (l:List L.Place):Prop:=l.Pairwise fun a c=>¬Ys a.Box c.Box
theorem ZmL {l:List L.Place} {d:Bool} {t:Int} {f:Bool} (h:Apt l):Apt (ZG d l t f):=List.Pairwise.filter _ h
theorem Zro {c:L.Place} {r:List L.Place} {b:Box} (ha:Apt (c :: r)) (hl:InL (c :: r) b) (h:c.Box=b):r=[]:=by
 cases r with
 | nil=>rfl
 | cons y r=>
  have h1:=(K7.1 ha).1 y (by simp);have h2:=hl y (by simp);have h3:=hl c (by simp);rw[h] at h1 h3;simp only[VB,Qt,Ys] at h1 h2 h3;omega
theorem Zn2 {l:List L.Place} {b:Box} {d:Bool} {x:Int} (hb:VB b) (h:InL l b) (hx:loP d b<x∧x<hiP d b) (hc:crs d l x=false):∀ c∈l,(VB c.Box∧VB (QJ d b (x-loP d b))∧Qt c.Box (QJ d b (x-loP d b)))↔hiP d c.Box≤x:=fun c hm=>by
 have h1:=h c hm;have h2:=Zd2 hc c hm;have h3:=(Zd3 hb h hx hc).1.1;cases d
 ·simp only[loP,hiP,QJ,Ka,Ki] at hx h2 h3 ⊢;simp only[VB,Qt] at h1 h3 ⊢;omega
 ·simp only[loP,hiP,QJ,Kk] at hx h2 h3 ⊢;simp only[VB,Qt] at h1 h3 ⊢;omega
theorem ZmM (bX bY bW bH:Int) (d:Bool) (a:Int) (hb:VB (Box.mk bX bY bW bH)) (ha:0≤a∧a≤400):Zj Xs Ms Q4 [.d (.agg [J (UT d),J a,J 0,.bool false,.sl []]),(.d (.agg [J bX,J bY,J bW,J bH]))] []=some (.tup [.d (QJ d (Box.mk bX bY bW bH) a).enc,.d (ZZ d (Box.mk bX bY bW bH) a).enc],[]):=by
 simp only[VB] at hb;have w1:=wi (bX+a) (by omega) (by omega);have w2:=wi (bY+a) (by omega) (by omega);have w3:=wi (bW-a) (by omega) (by omega);have w4:=wi (bH-a) (by omega) (by omega);cases d
 ·simp only[QJ,ZZ,Box.enc,UT,Ka,Ki];refine cE ?_;simp +contextual -implicitDefEqProofs (maxSteps:=10^7) only[go_sem,seval,↓gZ,Y9,w1,w2,w3,w4]
 ·simp only[QJ,ZZ,Box.enc,UT,Kk];refine cE ?_;simp +contextual -implicitDefEqProofs (maxSteps:=10^7) only[go_sem,seval,↓gZ,Y9,w1,w2,w3,w4]
def plT:Option BT→AV×List Zh
 | some b=>match b.plan with
  | .mk o a q t ks=>(.tup [.agg [(.d (J o)),(.d (J a)),(.d (J q)),(.d (.bool t)),.own 0],(.d (.bool true))],[plO ks])
 | none=>(.tup [.agg [(.d (J 0)),(.d (J 0)),(.d (J 0)),(.d (.bool false)),.own 0],(.d (.bool false))],[.row 5 [] true false])
theorem Zib (l:List L.Place) (bX bY bW bH:Int) (p q:Bool→Int→Option BT) (hb:VB (Box.mk bX bY bW bH)) (hl:InL l (Box.mk bX bY bW bH)) (aa:l.length≤1000)
  (h1:∀ d x,W6 l (Box.mk bX bY bW bH)=some (d,x)→Zj Xs Ms Qz [.d (.sl ((ZG d l x true).map Place.enc)),.d (QJ d (Box.mk bX bY bW bH) (x-loP d (Box.mk bX bY bW bH))).enc] []=some (plT (p d x)))
  (h2:∀ d x,W6 l (Box.mk bX bY bW bH)=some (d,x)→Zj Xs Ms Qz [.d (.sl ((ZG d l x false).map Place.enc)),.d (ZZ d (Box.mk bX bY bW bH) (x-loP d (Box.mk bX bY bW bH))).enc] []=some (plT (q d x))) :
  Zj Xs Ms Vr [(.d (.sl (l.map Place.enc))),(.d (.agg [J bX,J bY,J bW,J bH]))] []=some (plT (match W6 l (Box.mk bX bY bW bH) with
   | some (d,x)=>Zcy d (x-loP d (Box.mk bX bY bW bH)) (p d x) (q d x)
   | none=>none)):=by
 have ef:=Zi1 l bX bY bW bH hb aa (fun c hc=>(hl c hc).1);cases hc:W6 l (Box.mk bX bY bW bH) with
 | none=>
  rw[hc] at ef;unfold Zkg at ef;unfold plT;refine cE ?_;simp +contextual -implicitDefEqProofs (maxSteps:=10^7) only[go_sem,seval,↓gZ,WX,ef]
 | some dx=>
  obtain⟨d,x⟩:=dx;obtain⟨g1,g2,g3⟩:=U4 hc;have af:=Zn2 hb hl ⟨g1,g2⟩ g3;have k1:=h1 d x hc;have k2:=h2 d x hc;simp only[hc,Zkg] at ef;simp only;have ae:0≤x-loP d (Box.mk bX bY bW bH)∧x-loP d (Box.mk bX bY bW bH)≤400:=by
   simp only[VB] at hb;cases d<;>simp only[loP,hiP,Kk,Ka,Ki] at g1 g2 ⊢ <;> omega
  have es:=ZmM bX bY bW bH d (x-loP d (Box.mk bX bY bW bH)) hb ae;generalize x-loP d (Box.mk bX bY bW bH)=a at *;generalize p d x=p0 at k1 ⊢;generalize q d x=q0 at k2 ⊢;generalize QJ d (Box.mk bX bY bW bH) a=lb at *;generalize ZZ d (Box.mk bX bY bW bH) a=hb' at *;clear h1 h2 ae g1 g2 g3 hc;obtain⟨lX,lY,lW,lH⟩:=lb;obtain⟨hX,hY,hW,hH⟩:=hb';simp only[Box.enc] at es k1 k2;refine cE ?_;simp +contextual -implicitDefEqProofs (maxSteps:=10^7) only[go_sem,seval,↓gZ,WX,ef,es];refine LO (α:=Nat) (fun i=>[(33,.d (J (i:Int)))]) (fun i=>[(0,.row 6 ((ZG d (l.take i) x false).map Place.enc) true false),(1,.row 6 ((ZG d (l.take i) x true).map Place.enc) true false)]) (fun i=>i≤l.length) (fun i=>l.length-i) 0 (by omega) ?_
  intro i hi ih;by_cases ab:i<l.length
  ·obtain⟨c,hx⟩:=ZE ab;have hw:=ZD (k:=i) (by omega);have pt:=Zh9 (d:=d) (t:=x) (f:=true) hx;have pf:=Zh9 (d:=d) (t:=x) (f:=false) hx;have ad:=af c (Ke hx);have ag:(ZG d (l.take i) x true).length≤i:=Lp (List.length_filter_le _ _) (by simp;omega);have ah:(ZG d (l.take i) x false).length≤i:=Lp (List.length_filter_le _ _) (by simp;omega);have rt:((ZG d (l.take i) x true).length+1)*48≤140737488355328∧(ZG d (l.take i) x true).length≤140737488355327:=by omega
   have rf:((ZG d (l.take i) x false).length+1)*48≤140737488355328∧(ZG d (l.take i) x false).length≤140737488355327:=by omega
   obtain⟨P,T,⟨X,Y,W,H⟩⟩:=c;have ei:=Zcx X Y W H lX lY lW lH;simp only at pt pf ad;by_cases hh:hiP d ⟨X,Y,W,H⟩≤x
   ·rw[KN (ad.2 hh)] at ei;rw[KN hh] at pt pf;rw[Ko rfl] at pt;rw[Kn (by simp)] at pf;simp +contextual -implicitDefEqProofs (maxSteps:=10^7) only[go_sem,seval,↓gZ,hx,ab,hw,ei,rt];refine ih (i+1) _ (by omega) (by omega) ?_;rw[pt,pf];simp +contextual -implicitDefEqProofs (maxSteps:=10^7) only[go_sem,seval,↓gZ,KX,Lf]
   ·rw[Ky (fun h=>hh (ad.1 h))] at ei;rw[Ky hh] at pt pf;rw[Kn (by simp)] at pt;rw[Ko rfl] at pf;simp +contextual -implicitDefEqProofs (maxSteps:=10^7) only[go_sem,seval,↓gZ,hx,ab,hw,ei,rf];refine ih (i+1) _ (by omega) (by omega) ?_;rw[pt,pf];simp +contextual -implicitDefEqProofs (maxSteps:=10^7) only[go_sem,seval,↓gZ,KX,Lf]
  ·have:i=l.length:=by omega
   subst this;rw[KQ (Kh _)];cases p0 with
   | none=>
    unfold plT at k1;simp only[Zcy];unfold plT;simp +contextual -implicitDefEqProofs (maxSteps:=10^7) only[go_sem,seval,↓gZ,k1]
   | some bp=>
    obtain⟨po,pa,pq,pt,pk,ep⟩:=U5 bp;simp only[plT,ep] at k1;cases q0 with
    | none=>
     unfold plT at k2;simp only[Zcy];unfold plT;cases pk with
     | nil=>
      simp only[plO] at k1;simp +contextual -implicitDefEqProofs (maxSteps:=10^7) only[go_sem,seval,↓gZ,k1,k2]
     | cons p1 pr=>
      simp only[plO] at k1;simp +contextual -implicitDefEqProofs (maxSteps:=10^7) only[go_sem,seval,↓gZ,k1,k2]
    | some bq=>
     obtain⟨qo,qa,qq,qt,qk,eq⟩:=U5 bq;simp only[plT,eq] at k2;simp only[Zcy,plT,BT.plan,ep,eq,plO];cases pk with
     | nil=>
      simp only[plO] at k1;cases qk with
      | nil=>
       simp only[plO] at k2;simp +contextual -implicitDefEqProofs (maxSteps:=10^7) only[go_sem,seval,↓gZ,k1,k2]
      | cons q1 qr=>
       simp only[plO] at k2;simp +contextual -implicitDefEqProofs (maxSteps:=10^7) only[go_sem,seval,↓gZ,k1,k2]
     | cons p1 pr=>
      simp only[plO] at k1;cases qk with
      | nil=>
       simp only[plO] at k2;simp +contextual -implicitDefEqProofs (maxSteps:=10^7) only[go_sem,seval,↓gZ,k1,k2]
      | cons q1 qr=>
       simp only[plO] at k2;simp +contextual -implicitDefEqProofs (maxSteps:=10^7) only[go_sem,seval,↓gZ,k1,k2]
theorem ZfQ:∀ (n:Nat) (l:List L.Place) (bX bY bW bH:Int),VB (Box.mk bX bY bW bH)→InL l (Box.mk bX bY bW bH)→Apt l→(bW+bH).toNat≤n→l.length≤1000→Zj Xs Ms Qz [(.d (.sl (l.map Place.enc))),(.d (.agg [J bX,J bY,J bW,J bH]))] []=some (plT (Xv n l (Box.mk bX bY bW bH))):=by
 intro n
 induction n with
 | zero=>
  intro l bX bY bW bH hb _ _ hn _;simp only[VB] at hb;omega
 | succ n IH=>
  intro l bX bY bW bH hb hl ha hn ab;cases l with
  | nil=>
   simp only[Xv,plT,plO,BT.plan];refine cE ?_;simp +contextual -implicitDefEqProofs (maxSteps:=10^7) only[go_sem,seval,↓gZ,Xj]
  | cons c r=>
   by_cases hp:c.Box=(Box.mk bX bY bW bH)
   ·have hr:=Zro ha hl hp;subst hr;obtain⟨P,T,⟨X,Y,W,H⟩⟩:=c;simp only at hp;have ag:Xv (n+1) [⟨P,T,⟨X,Y,W,H⟩⟩] (Box.mk bX bY bW bH)=some (.pane P T):=by rw[Xv,Ko ⟨rfl,hp⟩]
    rw[ag];simp only[Box.mk.injEq] at hp;obtain⟨rfl,rfl,rfl,rfl⟩:=hp;simp only[plT,plO,BT.plan];refine cE ?_;simp +contextual -implicitDefEqProofs (maxSteps:=10^7) only[go_sem,seval,↓gZ,Xj]
   ·have aa:=Zib (c :: r) bX bY bW bH (fun d x=>Xv n (ZG d (c :: r) x true) (QJ d (Box.mk bX bY bW bH) (x-loP d (Box.mk bX bY bW bH)))) (fun d x=>Xv n (ZG d (c :: r) x false) (ZZ d (Box.mk bX bY bW bH) (x-loP d (Box.mk bX bY bW bH)))) hb hl ab
     (fun d x h=>by
      obtain⟨h1,h2,h3⟩:=U4 h;obtain⟨⟨g1,g2⟩,g3,g4⟩:=Zd3 hb hl ⟨h1,h2⟩ h3;obtain⟨s1,s2⟩:=Zia hb ⟨h1,h2⟩;simp only at s1 s2;exact IH _ _ _ _ _ g1 g2 (ZmL ha) (by omega) (Lp (Zkf _ _ _ _) ab))
     (fun d x h=>by
      obtain⟨h1,h2,h3⟩:=U4 h;obtain⟨⟨g1,g2⟩,g3,g4⟩:=Zd3 hb hl ⟨h1,h2⟩ h3;obtain⟨s1,s2⟩:=Zia hb ⟨h1,h2⟩;simp only at s1 s2;exact IH _ _ _ _ _ g3 g4 (ZmL ha) (by omega) (Lp (Zkf _ _ _ _) ab))
    have hX:Xv (n+1) (c :: r) (Box.mk bX bY bW bH)=match W6 (c :: r) (Box.mk bX bY bW bH) with
     | some (d,x)=>Zcy d (x-loP d (Box.mk bX bY bW bH)) (Xv n (ZG d (c :: r) x true) (QJ d (Box.mk bX bY bW bH) (x-loP d (Box.mk bX bY bW bH)))) (Xv n (ZG d (c :: r) x false) (ZZ d (Box.mk bX bY bW bH) (x-loP d (Box.mk bX bY bW bH))))
     | none=>none:=by rw[Xv,Kn (fun h=>hp h.2)];try rfl
    rw[← hX] at aa;clear hX IH hl ha;generalize Xv (n+1) (c :: r) (Box.mk bX bY bW bH)=X at aa ⊢;have ad:(c :: r)[0]?=some c:=rfl;have ae:¬(((c :: r).length:Nat):Int)=0:=by simp only[Kg];omega
    have af:0<(c :: r).length:=by simp
    generalize c :: r=l at *;obtain⟨P,T,⟨cX,cY,cW,cH⟩⟩:=c;simp only[Box.mk.injEq] at hp;cases X with
    | none=>
     unfold plT at aa ⊢;refine cE ?_;simp +contextual -implicitDefEqProofs (maxSteps:=10^7) only[go_sem,seval,↓gZ,Xj,ae,af,ad,hp,aa]
    | some bq=>
     obtain⟨qo,qa,qq,qt,qk,eq⟩:=U5 bq;simp only[plT,eq] at aa ⊢;cases qk with
     | nil=>
      simp only[plO] at aa ⊢;refine cE ?_;simp +contextual -implicitDefEqProofs (maxSteps:=10^7) only[go_sem,seval,↓gZ,Xj,ae,af,ad,hp,aa]
     | cons q1 qr=>
      simp only[plO] at aa ⊢;refine cE ?_;simp +contextual -implicitDefEqProofs (maxSteps:=10^7) only[go_sem,seval,↓gZ,Xj,ae,af,ad,hp,aa]
def J9 (l:List Box):Prop:=l.Pairwise fun a c=>¬Ys a c
instance (l:List Box):Decidable (J9 l):=by unfold J9;infer_instance
def ZfF (k:ZO) (c:L.Place):Prop:=(VB c.Box∧Qt c.Box ⟨0,0,k.W,k.H⟩)∧Xq k.Panes c.Pane c.Turned c.Box.W c.Box.H=true
instance (k:ZO) (c:L.Place):Decidable (ZfF k c):=by unfold ZfF;infer_instance
def VPl (k:ZO) (l:List L.Place):Prop:=(VW k∧l.length≤12)∧(∀ c∈l,ZfF k c)∧J9 (l.map L.Place.Box)
instance (k:ZO) (l:List L.Place):Decidable (VPl k l):=by unfold VPl;infer_instance
theorem Zic {a b:Box}:Ys a b↔Ys b a:=by unfold Ys;omega
theorem Zn3 {l:List Box} {i:Nat} {x:Box} (hx:l[i]?=some x) (h:J9 (l.take i)) (hn:∀ y∈l.take i,¬Ys x y):J9 (l.take (i+1)):=by
 unfold J9 at h ⊢;rw[KE,hx,K5];exact⟨h,by simp,fun a ha b hb=>by simp at hb;subst hb;exact fun hm=>hn a ha (Zic.1 hm)⟩
theorem Zp9 {l:List Box} {i j:Nat} {x y:Box} (aa:j<i) (hx:l[i]?=some x) (hy:l[j]?=some y) (hm:Ys x y):¬J9 l:=fun h=>by
 obtain⟨h1,rfl⟩:=Kc.1 hx;obtain⟨h2,rfl⟩:=Kc.1 hy;exact(List.pairwise_iff_getElem.1 h) j i h2 h1 aa (Zic.1 hm)
theorem ZfR (l:List Box) (hv:∀ b∈l,VB b) (hl:l.length≤24):Zj Xs Ms YX [(.d (.sl (l.map Box.enc)))] []=some ((.d (.bool true)),[]):=by
 have ab:¬(24:Int)<(l.length:Int):=by omega
 refine cE ?_;simp +contextual -implicitDefEqProofs (maxSteps:=10^7) only[go_sem,seval,↓gZ,Jc,ab];refine LO (α:=Nat) (fun i=>[(10,.d (J (i:Int)))]) (fun _=>[]) (fun i=>i≤l.length) (fun i=>l.length-i) 0 (by omega) ?_;intro i hi ih;by_cases aa:i<l.length
 ·obtain⟨x,hx⟩:=ZE aa;have hw:=ZD (k:=i) (by omega);have hb:=hv x (Ke hx);obtain⟨X,Y,W,H⟩:=x;have e:=Yf X Y W H;rw[KN hb] at e;simp +contextual -implicitDefEqProofs (maxSteps:=10^7) only[go_sem,seval,↓gZ,hx,aa,hw,e];refine ih (i+1) _ (by omega) (by omega) ?_;simp +contextual -implicitDefEqProofs (maxSteps:=10^7) only[go_sem,seval,↓gZ]
 ·simp +contextual -implicitDefEqProofs (maxSteps:=10^7) only[go_sem,seval,↓gZ,aa]
theorem ZfS (l:List Box) (hv:∀ b∈l,VB b) (hl:l.length≤24):Zj Xs Ms YW [(.d (.sl (l.map Box.enc)))] []=some ((.d (.bool (decide (J9 l)))),[]):=by
 have e1:=ZfR l hv hl;refine cE ?_;simp +contextual -implicitDefEqProofs (maxSteps:=10^7) only[go_sem,seval,↓gZ,Jb,e1];refine LO (α:=Nat) (fun i=>[(14,.d (J (i:Int)))]) (fun _=>[]) (fun i=>i≤l.length∧J9 (l.take i)) (fun i=>l.length-i) 0 ⟨by omega,by simp[J9]⟩ ?_;intro i ⟨hi,hp⟩ ih;by_cases af:i<l.length
 ·obtain⟨x,hx⟩:=ZE af;have hw:=ZD (k:=i) (by omega);have hb:=hv x (Ke hx);have ai:i≤l.length:=hi;have ab:(l.take i).length=i:=by simp;omega
  have ad:=Zn3 hx hp;obtain⟨X,Y,W,H⟩:=x;simp +contextual -implicitDefEqProofs (maxSteps:=10^7) only[go_sem,seval,↓gZ,hx,af,hw,ai];refine WQ Xs Ms (st0:=?st1) (α:=Nat) (fun j=>[(23,.d (J (j:Int)))]) (fun _=>[]) (fun j=>j≤i∧∀ y∈l.take j,¬Ys ⟨X,Y,W,H⟩ y) (fun j=>i-j) 0 ?hc2 ⟨by omega,by simp⟩ ?h02 ?step2
  case hc2=>simp +contextual -implicitDefEqProofs (maxSteps:=10^7) only[go_sem,seval,↓gZ]<;>exact rfl
  case h02=>rfl
  case step2=>
   intro j ⟨hj,hq⟩ aj;by_cases aa:j<i
   ·obtain⟨y,hy⟩:=ZE (l:=l) (k:=j) (by omega);have ag:=ZD (k:=j) (by omega);have ak:=hv y (Ke hy);have ah:(l.take i)[j]?=some y:=by rw[List.getElem?_take_of_lt aa];exact hy
    have ae:=Zp9 aa hx hy;have al:l.take (j+1)=l.take j++[y]:=by rw[KE,hy];simp
    obtain⟨X',Y',W',H'⟩:=y;by_cases hm:Ys ⟨X,Y,W,H⟩ ⟨X',Y',W',H'⟩
    ·have e:=ZdT X Y W H X' Y' W' H' hb ak hm;have hn:=ae hm;rw[Ky hn];simp +contextual -implicitDefEqProofs (maxSteps:=10^7) only[go_sem,seval,↓gZ,ah,aa,ab,ag,e,Kw,ZjE]
    ·have e:=ZfB X Y W H X' Y' W' H' (fun h=>hm h.2.2);simp +contextual -implicitDefEqProofs (maxSteps:=10^7) only[go_sem,seval,↓gZ,ah,aa,ab,ag,e,Kw];refine aj (j+1) _ ⟨by omega,?_⟩ (by omega) ?_
     ·rw[al];intro z hz;rcases Kd.1 hz with hz | hz
      ·exact hq z hz
      ·simp at hz;subst hz;exact hm
     ·simp +contextual -implicitDefEqProofs (maxSteps:=10^7) only[go_sem,seval,↓gZ,ab]
   ·have:j=i:=by omega
    subst this;simp +contextual -implicitDefEqProofs (maxSteps:=10^7) only[go_sem,seval,↓gZ,aa,ab,hw,Kw];refine ih (j+1) _ ⟨by omega,ad hq⟩ (by omega) ?_;simp +contextual -implicitDefEqProofs (maxSteps:=10^7) only[go_sem,seval,↓gZ]
 ·have:i=l.length:=by omega
  subst this;rw[KQ (Kh _)] at hp;rw[KN hp];simp +contextual -implicitDefEqProofs (maxSteps:=10^7) only[go_sem,seval,↓gZ]
theorem ZeU (kW kH:Int) (kP:List Pane) (l:List L.Place):Zj Xs Ms Yb [(.d (.agg [J kW,J kH,.sl (kP.map Pane.enc)])),(.d (.sl (l.map Place.enc)))] []=some ((.d (.bool (decide (VPl (ZO.mk kW kH kP) l)))),[]):=by
 have ew:=XO kW kH kP;by_cases hw:VW (ZO.mk kW kH kP)
 ·rw[KN hw] at ew;by_cases af:(12:Int)<(l.length:Int)
  ·have hn:¬VPl (ZO.mk kW kH kP) l:=fun h=>by have:=h.1.2;omega
   refine cE ?_;simp +contextual -implicitDefEqProofs (maxSteps:=10^7) only[go_sem,seval,↓gZ,Yc,ew,af,hn]
  ·have es:=Uw kW kH kP;have ah:l.length≤12:=by omega
   have ai:=hw;simp only[VW] at hw;have aj:VB ⟨0,0,kW,kH⟩:=by simp only[VB];omega
   refine cE ?_;simp +contextual -implicitDefEqProofs (maxSteps:=10^7) only[go_sem,seval,↓gZ,Yc,ew,af];refine LO (α:=Nat) (fun i=>[(19,.d (J (i:Int)))]) (fun i=>[(0,.row 4 (((l.take i).map L.Place.Box).map Box.enc) true false)]) (fun i=>i≤l.length∧∀ c∈l.take i,ZfF (ZO.mk kW kH kP) c) (fun i=>l.length-i) 0 ⟨by omega,by simp⟩ ?_;intro i ⟨hi,hp⟩ ih;by_cases aa:i<l.length
   ·obtain⟨c,hx⟩:=ZE aa;have ab:=ZD (k:=i) (by omega);have ag:l.take (i+1)=l.take i++[c]:=by rw[KE,hx];simp
    have ad:=Ke hx;have am:(l.take i).length≤i:=by simp;omega
    have hr:((l.take i).length+1)*32≤140737488355328∧(l.take i).length≤140737488355327:=by omega
    have ae:¬ZfF (ZO.mk kW kH kP) c→¬VPl (ZO.mk kW kH kP) l:=fun h h'=>h (h'.2.1 c ad);have ak:ZfF (ZO.mk kW kH kP) c→∀ z∈l.take (i+1),ZfF (ZO.mk kW kH kP) z:=fun h z hz=>by
     rw[ag] at hz;rcases Kd.1 hz with hz | hz
     ·exact hp z hz
     ·simp at hz;subst hz;exact h
    obtain⟨P,T,⟨X,Y,W,H⟩⟩:=c;have e1:=Yf X Y W H;have e2:=Zcx X Y W H 0 0 kW kH;have e3:=ZbE kW kH kP P T W H;by_cases v1:VB ⟨X,Y,W,H⟩
    ·rw[KN v1] at e1;by_cases v2:VB ⟨X,Y,W,H⟩∧VB ⟨0,0,kW,kH⟩∧Qt ⟨X,Y,W,H⟩ ⟨0,0,kW,kH⟩
     ·rw[KN v2] at e2;cases v3:Xq kP P T W H with
      | true=>
       rw[v3] at e3;have al:ZfF (ZO.mk kW kH kP) ⟨P,T,⟨X,Y,W,H⟩⟩:=⟨⟨v1,v2.2.2⟩,v3⟩
       simp +contextual -implicitDefEqProofs (maxSteps:=10^7) only[go_sem,seval,↓gZ,hx,aa,ab,e1,e2,e3,es,hr];refine ih (i+1) _ ⟨by omega,ak al⟩ (by omega) ?_;rw[ag,KX];simp +contextual -implicitDefEqProofs (maxSteps:=10^7) only[go_sem,seval,↓gZ,KX]
      | false=>
       rw[v3] at e3;have hn:=ae (fun h=>by have:=h.2;simp only at this;rw[v3] at this;cases this);rw[Ky hn];simp +contextual -implicitDefEqProofs (maxSteps:=10^7) only[go_sem,seval,↓gZ,hx,aa,ab,e1,e2,e3,es]
     ·rw[Ky v2] at e2;have hn:=ae (fun h=>v2 ⟨v1,aj,h.1.2⟩);rw[Ky hn];simp +contextual -implicitDefEqProofs (maxSteps:=10^7) only[go_sem,seval,↓gZ,hx,aa,ab,e1,e2,es]
    ·rw[Ky v1] at e1;have hn:=ae (fun h=>v1 h.1.1);rw[Ky hn];simp +contextual -implicitDefEqProofs (maxSteps:=10^7) only[go_sem,seval,↓gZ,hx,aa,ab,e1]
   ·have:i=l.length:=by omega
    subst this;rw[KQ (Kh _)] at hp ⊢;have ea:=ZfS (l.map L.Place.Box) (fun b hb=>by
     obtain⟨c,hc,rfl⟩:=KV.1 hb;exact(hp c hc).1.1) (by simp;omega)
    simp +contextual -implicitDefEqProofs (maxSteps:=10^7) only[go_sem,seval,↓gZ,ea];exact ZgZ ⟨fun h=>⟨⟨ai,ah⟩,hp,h⟩,fun h=>h.2.2⟩
 ·rw[Ky hw] at ew;have hn:¬VPl (ZO.mk kW kH kP) l:=fun h=>hw h.1.1;refine cE ?_;simp +contextual -implicitDefEqProofs (maxSteps:=10^7) only[go_sem,seval,↓gZ,Yc,ew,hn]
def ZfG:BT→Nat
 | .waste=>0
 | .pane _ _=>0
 | .cut _ _ l r=>1+ZfG l+ZfG r
theorem Zid:∀ (b:BT),b.cnt=2*ZfG b+1
 | .waste=>rfl
 | .pane _ _=>rfl
 | .cut _ _ l r=>by simp only[BT.cnt,ZfG,Zid l,Zid r];omega
def Zie (b c:Box):Nat:=(if b.X<c.X then 1 else 0)+(if c.X+c.W<b.X+b.W then 1 else 0)+(if b.Y<c.Y then 1 else 0)+(if c.Y+c.H<b.Y+b.H then 1 else 0)
def pot (b:Box):List L.Place→Nat
 | []=>0
 | c :: l=>Zie b c.Box+pot b l
theorem Zsk (b c:Box):Zie b c≤4:=by
 unfold Zie;split<;>split<;>split<;>split<;>omega
theorem Zrp (b:Box):∀ (l:List L.Place),pot b l≤4*l.length
 | []=>by simp[pot]
 | c :: l=>by
  have h1:=Zsk b c.Box;have h2:=Zrp b l;simp only[pot,Kg];omega
theorem Zrq {b c:Box} {d:Bool} {x:Int} (hc:VB c) (hi:Qt c b) (hx:loP d b<x∧x<hiP d b) (h:hiP d c≤x) :
  Zie (QJ d b (x-loP d b)) c+(if x=loP d c∨x=hiP d c then 1 else 0)≤Zie b c:=by
 simp only[VB] at hc;simp only[Qt] at hi;cases d
 ·simp only[loP,hiP,QJ,Zie,Ka,Ki] at hx h ⊢;have e:b.Y+(x-b.Y)=x:=by omega
  rw[e];by_cases h1:c.Y+c.H<x
  ·rw[Ko h1,Kn (show ¬(x=c.Y∨x=c.Y+c.H) by omega),Ko (show c.Y+c.H<b.Y+b.H by omega)];omega
  ·rw[Kn h1,Ko (show c.Y+c.H<b.Y+b.H by omega)];have hb1:(if x=c.Y∨x=c.Y+c.H then 1 else 0:Nat)≤1:=by split<;>omega
   omega
 ·simp only[loP,hiP,QJ,Zie,Kk] at hx h ⊢;have e:b.X+(x-b.X)=x:=by omega
  rw[e];by_cases h1:c.X+c.W<x
  ·rw[Ko h1,Kn (show ¬(x=c.X∨x=c.X+c.W) by omega),Ko (show c.X+c.W<b.X+b.W by omega)];omega
  ·rw[Kn h1,Ko (show c.X+c.W<b.X+b.W by omega)];have hb1:(if x=c.X∨x=c.X+c.W then 1 else 0:Nat)≤1:=by split<;>omega
   omega
theorem Zqa {b c:Box} {d:Bool} {x:Int} (hc:VB c) (hi:Qt c b) (hx:loP d b<x∧x<hiP d b) (h:x≤loP d c) :
  Zie (ZZ d b (x-loP d b)) c+(if x=loP d c∨x=hiP d c then 1 else 0)≤Zie b c:=by
 simp only[VB] at hc;simp only[Qt] at hi;cases d
 ·simp only[loP,hiP,ZZ,Zie,Ka,Ki] at hx h ⊢;have e:b.Y+(x-b.Y)=x:=by omega
  have e2:x+(b.H-(x-b.Y))=b.Y+b.H:=by omega
  rw[e,e2];by_cases h1:x<c.Y
  ·rw[Ko h1,Kn (show ¬(x=c.Y∨x=c.Y+c.H) by omega),Ko (show b.Y<c.Y by omega)];omega
  ·rw[Kn h1,Ko (show b.Y<c.Y by omega)];have hb1:(if x=c.Y∨x=c.Y+c.H then 1 else 0:Nat)≤1:=by split<;>omega
   omega
 ·simp only[loP,hiP,ZZ,Zie,Kk] at hx h ⊢;have e:b.X+(x-b.X)=x:=by omega
  have e2:x+(b.W-(x-b.X))=b.X+b.W:=by omega
  rw[e,e2];by_cases h1:x<c.X
  ·rw[Ko h1,Kn (show ¬(x=c.X∨x=c.X+c.W) by omega),Ko (show b.X<c.X by omega)];omega
  ·rw[Kn h1,Ko (show b.X<c.X by omega)];have hb1:(if x=c.X∨x=c.X+c.W then 1 else 0:Nat)≤1:=by split<;>omega
   omega
theorem ZoX {b:Box} {d:Bool} {x:Int} (hx:loP d b<x∧x<hiP d b):∀ (l:List L.Place),InL l b→crs d l x=false →
  pot (QJ d b (x-loP d b)) (ZG d l x true)+pot (ZZ d b (x-loP d b)) (ZG d l x false)+(if tch d l x=true then 1 else 0)≤pot b l
 | [],_,_=>by simp[pot,ZG,tch]
 | c :: l,hl,hc=>by
  have h0:=hl c (by simp);have aa:=Zd2 hc c (by simp);have hc2:crs d l x=false:=by
   have:=Lk.1 hc;exact Lk.2 fun y hy=>this y (by simp[hy])
  have ih:=ZoX hx l (fun y hy=>hl y (by simp[hy])) hc2;have ht:tch d (c :: l) x=(decide (x=loP d c.Box∨x=hiP d c.Box) || tch d l x):=by simp[tch]
  rw[ht];by_cases h:hiP d c.Box≤x
  ·have e1:ZG d (c :: l) x true=c :: ZG d l x true:=by unfold ZG;rw[LS,Ko (by simp[h])]
   have e2:ZG d (c :: l) x false=ZG d l x false:=by unfold ZG;rw[LS,Kn (by simp[h])]
   have hp:=Zrq h0.1 h0.2 hx h;rw[e1,e2];simp only[pot];by_cases hq:x=loP d c.Box∨x=hiP d c.Box
   ·rw[Ko hq] at hp;rw[KN hq,Bool.true_or,Ko rfl];split at ih<;>omega
   ·rw[Kn hq] at hp;rw[Ky hq,Bool.false_or];omega
  ·have e1:ZG d (c :: l) x true=ZG d l x true:=by unfold ZG;rw[LS,Kn (by simp[h])]
   have e2:ZG d (c :: l) x false=c :: ZG d l x false:=by unfold ZG;rw[LS,Ko (by simp[h])]
   have hp:=Zqa h0.1 h0.2 hx (by omega);rw[e1,e2];simp only[pot];by_cases hq:x=loP d c.Box∨x=hiP d c.Box
   ·rw[Ko hq] at hp;rw[KN hq,Bool.true_or,Ko rfl];split at ih<;>omega
   ·rw[Kn hq] at hp;rw[Ky hq,Bool.false_or];omega
theorem Zqb {l:List L.Place} {b:Box} {d:Bool} {x:Int} (h:W6 l b=some (d,x)):tch d l x=true:=by
 unfold W6 at h;split at h
 ·rename_i y hy;cases h;exact(WM hy).2.2.2
 ·split at h
  ·rename_i y hy;cases h;exact(WM hy).2.2.2
  ·cases h
theorem Zn4 (d:Bool) (l:List L.Place) (t:Int):(ZG d l t true++ZG d l t false).Perm l:=by
 have h:=List.filter_append_perm (fun c:L.Place=>true==decide (hiP d c.Box≤t)) l;have e:ZG d l t false=l.filter (fun c=>!(true==decide (hiP d c.Box≤t))):=by
  unfold ZG;congr 1
  funext c
  cases decide (hiP d c.Box≤t)<;>rfl
 rw[e];exact h
def Zif:BT→BT
 | .waste=>.waste
 | .pane i t=>.pane i t
 | .cut d a l r=>if Zi0 l=false∧Zi0 r=false then .waste else .cut d a (Zif l) (Zif r)
theorem Zn5 (ps:List Pane):∀ (n:Nat) (l:List L.Place) (b:Box) (t:BT),VB b→InL l b→(∀ c∈l,Xq ps c.Pane c.Turned c.Box.W c.Box.H=true)→Xv n l b=some t →
  QC ps t b.W b.H=true∧ZfG t≤pot b l∧(plc t b.X b.Y b.W b.H).Perm l∧Zif t=t∧(l≠[]→Zi0 t=true):=by
 intro n
 induction n with
 | zero=>intro l b t _ _ _ h;simp[Xv] at h
 | succ n IH=>
  intro l b t hb hl hf h;cases l with
  | nil=>
   simp only[Xv,Option.some.injEq] at h;subst h;exact⟨rfl,by simp[ZfG],by simp[plc],rfl,fun h=>absurd rfl h⟩
  | cons c r=>
   by_cases hp:r=[]∧c.Box=b
   ·rw[Xv,Ko hp] at h;obtain⟨rfl,ad⟩:=hp;simp only[Option.some.injEq] at h;subst h;have h1:=hf c (by simp);rw[ad] at h1;refine⟨h1,by simp[ZfG],?_,rfl,fun _=>rfl⟩;have:(⟨c.Pane,c.Turned,⟨b.X,b.Y,b.W,b.H⟩⟩:L.Place)=c:=by
     cases c;simp only at ad;rw[ad]
    simp only[plc,this];exact List.Perm.refl _
   ·cases hc:W6 (c :: r) b with
    | none=>rw[Zrn hp hc] at h;cases h
    | some dx=>
     obtain⟨d,x⟩:=dx;rw[Zke hp hc] at h;obtain⟨h1,h2,h3⟩:=U4 hc;obtain⟨⟨g1,g2⟩,g3,g4⟩:=Zd3 hb hl ⟨h1,h2⟩ h3;have ae:=ZoX ⟨h1,h2⟩ (c :: r) hl h3;rw[Ko (Zqb hc)] at ae;have aa:=Zn4 d (c :: r) x;cases hA:Xv n (ZG d (c :: r) x true) (QJ d b (x-loP d b)) with
     | none=>rw[hA] at h;simp[Zcy] at h
     | some A=>
      cases hB:Xv n (ZG d (c :: r) x false) (ZZ d b (x-loP d b)) with
      | none=>rw[hA,hB] at h;simp[Zcy] at h
      | some B=>
       rw[hA,hB] at h;simp only[Zcy,Option.some.injEq] at h;subst h;obtain⟨a1,a2,a3,a4,a5⟩:=IH _ _ A g1 g2 (fun y hy=>hf y (Le.1 hy).1) hA;obtain⟨b1,b2,b3,b4,b5⟩:=IH _ _ B g3 g4 (fun y hy=>hf y (Le.1 hy).1) hB;have ab:Zi0 A=true∨Zi0 B=true:=by
        by_cases hn:ZG d (c :: r) x true=[]
        ·refine .inr (b5 fun hm=>?_);rw[hn,hm] at aa;have:=aa.length_eq;simp at this
        ·exact .inl (a5 hn)
       have af:¬(Zi0 A=false∧Zi0 B=false):=fun hh=>by rcases ab with h' | h' <;> simp[hh.1,hh.2] at h'
       refine⟨?_,by simp only[ZfG];omega,?_,by rw[Zif,Kn af,a4,b4],fun _=>by simp only[Zi0,Lg];exact ab⟩
       ·cases d
        ·simp only[loP,hiP,QJ,ZZ,Ka,Ki] at h1 h2 a1 b1;simp only[QC,loP,Ka,Ki,a1,b1,LF,Kl];omega
        ·simp only[loP,hiP,QJ,ZZ,Kk] at h1 h2 a1 b1;simp only[QC,loP,Kk,a1,b1,LF,Kl];omega
       ·have ag:(plc (.cut d (x-loP d b) A B) b.X b.Y b.W b.H)=plc A (QJ d b (x-loP d b)).X (QJ d b (x-loP d b)).Y (QJ d b (x-loP d b)).W (QJ d b (x-loP d b)).H++plc B (ZZ d b (x-loP d b)).X (ZZ d b (x-loP d b)).Y (ZZ d b (x-loP d b)).W (ZZ d b (x-loP d b)).H:=by
         cases d<;>simp[plc,QJ,ZZ]
        rw[ag];exact(a3.append b3).trans aa
def Zqc (k:ZO) (l:List L.Place):Option BT:=if VPl k l then Xv (k.W+k.H).toNat l ⟨0,0,k.W,k.H⟩ else none
theorem Zkh {k:ZO} {l:List L.Place} (h:VPl k l):VB ⟨0,0,k.W,k.H⟩∧InL l ⟨0,0,k.W,k.H⟩∧Apt l∧(∀ c∈l,Xq k.Panes c.Pane c.Turned c.Box.W c.Box.H=true):=by
 obtain⟨⟨h1,h2⟩,h3,h4⟩:=h;refine⟨by simp only[VW] at h1;simp only[VB];omega,fun c hc=>(h3 c hc).1,?_,fun c hc=>(h3 c hc).2⟩;unfold J9 at h4;rw[List.pairwise_map] at h4;exact h4
theorem Zd4 (kW kH:Int) (kP:List Pane) (l:List L.Place):Zj Xs Ms XR [(.d (.agg [J kW,J kH,.sl (kP.map Pane.enc)])),(.d (.sl (l.map Place.enc)))] []=some (plT (Zqc (ZO.mk kW kH kP) l)):=by
 have e1:=ZeU kW kH kP l;unfold Zqc;by_cases hv:VPl (ZO.mk kW kH kP) l
 ·obtain⟨h1,h2,h3,_⟩:=Zkh hv;rw[KN hv] at e1;rw[Ko hv];have es:=Uw kW kH kP;have ep:=ZfQ (kW+kH).toNat l 0 0 kW kH h1 h2 h3 (Kh _) (by have:=hv.1.2;omega);generalize Xv (kW+kH).toNat l ⟨0,0,kW,kH⟩=X at ep ⊢;cases X with
  | none=>
   unfold plT at ep ⊢;refine cE ?_;simp +contextual -implicitDefEqProofs (maxSteps:=10^7) only[go_sem,seval,↓gZ,Q7,e1,es,ep]
  | some b=>
   obtain⟨o,a,q,t,ks,eb⟩:=U5 b;simp only[plT,eb] at ep ⊢;cases ks with
   | nil=>
    simp only[plO] at ep ⊢;refine cE ?_;simp +contextual -implicitDefEqProofs (maxSteps:=10^7) only[go_sem,seval,↓gZ,Q7,e1,es,ep]
   | cons k1 kr=>
    simp only[plO] at ep ⊢;refine cE ?_;simp +contextual -implicitDefEqProofs (maxSteps:=10^7) only[go_sem,seval,↓gZ,Q7,e1,es,ep]
 ·rw[Ky hv] at e1;rw[Kn hv];unfold plT;refine cE ?_;simp +contextual -implicitDefEqProofs (maxSteps:=10^7) only[go_sem,seval,↓gZ,Q7,e1]
theorem WN:∀ (b:BT),Zj Xs Ms Yg [.d b.plan.enc,.d b.plan.enc] []=some ((.d (.bool true)),[])
 | .waste=>by
  have nb:∀ a b:Bool,Zet .neq true (.d (.bool a)) (.d (.bool b))=Qe (.d (.bool (!(a==b)))):=fun _ _=>rfl;simp only[BT.plan,Zl.enc_mk];refine cE ?_;simp +contextual -implicitDefEqProofs (maxSteps:=10^7) only[go_sem,seval,↓gZ,Vu,nb,beq_self_eq_true];refine XK Xs Ms ?_;simp +contextual -implicitDefEqProofs (maxSteps:=10^7) only[go_sem,seval,↓gZ]
 | .pane i t=>by
  have nb:∀ a b:Bool,Zet .neq true (.d (.bool a)) (.d (.bool b))=Qe (.d (.bool (!(a==b)))):=fun _ _=>rfl;simp only[BT.plan,Zl.enc_mk];refine cE ?_;simp +contextual -implicitDefEqProofs (maxSteps:=10^7) only[go_sem,seval,↓gZ,Vu,nb,beq_self_eq_true];refine XK Xs Ms ?_;simp +contextual -implicitDefEqProofs (maxSteps:=10^7) only[go_sem,seval,↓gZ]
 | .cut d a l r=>by
  have nb:∀ a b:Bool,Zet .neq true (.d (.bool a)) (.d (.bool b))=Qe (.d (.bool (!(a==b)))):=fun _ _=>rfl;have e1:=WN l;have e2:=WN r;have c2:(1:Int)<((2:Nat):Int):=by omega
  have c3:(0:Int)<((2:Nat):Int):=by omega
  have c4:¬(2:Int)<((2:Nat):Int):=by omega
  simp only[BT.plan,Zl.enc_mk];refine cE ?_;simp +contextual -implicitDefEqProofs (maxSteps:=10^7) only[go_sem,seval,↓gZ,Vu,nb,beq_self_eq_true];refine XK Xs Ms ?_;simp +contextual -implicitDefEqProofs (maxSteps:=10^7) only[go_sem,seval,↓gZ,e1,c3];refine XK Xs Ms ?_;simp +contextual -implicitDefEqProofs (maxSteps:=10^7) only[go_sem,seval,↓gZ,e2,c2];refine XK Xs Ms ?_;simp +contextual -implicitDefEqProofs (maxSteps:=10^7) only[go_sem,seval,↓gZ,c4]
theorem Zn6 {k:ZO} {l:List L.Place} {t:BT} (h:Zqc k l=some t):VG k t.plan=true∧((Q2 k t.plan).filterMap Xr).Perm l∧Zif t=t∧t.cnt≤255:=by
 unfold Zqc at h;by_cases hv:VPl k l
 ·rw[Ko hv] at h;obtain⟨h1,h2,h3,h4⟩:=Zkh hv;obtain⟨g1,g2,g3,g4,_⟩:=Zn5 k.Panes _ l _ t h1 h2 h4 h;have hp:=Zrp ⟨0,0,k.W,k.H⟩ l;have hc:=Zid t;have hl:=hv.1.2;have aa:t.cnt≤255:=by omega
  refine⟨?_,?_,g4,aa⟩
  ·unfold VG;rw[Uz];simp only[hv.1.1,aa,decide_true,Bool.true_and];exact g1
  ·unfold Q2;rw[Uz];simp only[hv.1.1,aa,decide_true,Bool.true_and];rw[Ko (show QC k.Panes t k.W k.H=true from g1),Zew];exact g3
 ·rw[Kn hv] at h;cases h
end Go.Proofs.Ytefabmohhbhlfaa
