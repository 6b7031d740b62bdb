/- Own text. -/
import Derived.Test.YtefabmohhbhlfaaACode
import Derived.Test.YtefabmohhbhlfaaAbsParts
import Derived.Test.YtefabmohhbhlfaaAC1
import Derived.Test.YtefabmohhbhlfaaAC4
import Derived.Test.YtefabmohhbhlfaaAbsOkD
namespace Go.Proofs.Ytefabmohhbhlfaa
open Go Go.Abs Go.Abs.E Go.Abs.L
open Nat (reduceMul reduceSub reduceLeDiff reduceEqDiff)
open Int (reduceLE reduceEq reduceToNat reduceNeg)
set_option linter.unusedSimpArgs false
set_option linter.unusedVariables false
set_option maxRecDepth 20000
set_option maxHeartbeats 4000000
def Apt (l:List L.Place):Prop:=l.Pairwise fun a c=>¬XP a.Box c.Box
theorem Zm5 {l:List L.Place} {d:Bool} {t:Int} {f:Bool} (h:Apt l):Apt (ZJ d l t f):=List.Pairwise.filter _ h
theorem Zse {c:L.Place} {r:List L.Place} {b:Box} (ha:Apt (c :: r)) (hl:InL (c :: r) b) (h:c.Box=b):r=[]:=by
 cases r with
 | nil=>rfl
 | cons y r=>
  have h1:=(LI.1 ha).1 y (by simp);have h2:=hl y (by simp);have h3:=hl c (by simp);rw[h] at h1 h3;simp only[VB,ZQ,XP] at h1 h2 h3;omega
theorem Zoz {l:List L.Place} {b:Box} {d:Bool} {x:Int} (hb:VB b) (h:InL l b) (hx:loP d b<x∧x<hiP d b) (hc:crs d l x=false):∀ c∈l,(VB c.Box∧VB (QZ d b (x-loP d b))∧ZQ c.Box (QZ d b (x-loP d b)))↔hiP d c.Box≤x:=fun c hm=>by
 have h1:=h c hm;have h2:=ZeF hc c hm;have h3:=(ZeG hb h hx hc).1.1;cases d
 ·simp only[loP,hiP,QZ,Ka,Kf] at hx h2 h3 ⊢;simp only[VB,ZQ] at h1 h3 ⊢;omega
 ·simp only[loP,hiP,QZ,Kg] at hx h2 h3 ⊢;simp only[VB,ZQ] at h1 h3 ⊢;omega
theorem Zm6 (bX bY bW bH:Int) (d:Bool) (a:Int) (hb:VB (Box.mk bX bY bW bH)) (ha:0≤a∧a≤400):Zi Xs Ms QH [.d (.agg [J (Yx d),J a,J 0,.bool false,.sl []]),(.d (.agg [J bX,J bY,J bW,J bH]))] []=some (.tup [.d (QZ d (Box.mk bX bY bW bH) a).enc,.d (Z5 d (Box.mk bX bY bW bH) a).enc],[]):=by
 simp only[VB] at hb;have w1:=wi (bX+a) (by omega) (by omega);have w2:=wi (bY+a) (by omega) (by omega);have w3:=wi (bW-a) (by omega) (by omega);have w4:=wi (bH-a) (by omega) (by omega);cases d
 ·simp only[QZ,Z5,Box.enc,Yx,Ka,Kf];refine cE ?_;simp +contextual -implicitDefEqProofs (maxSteps:=10^7) only[go_sem,seval,↓gZ,VD,w1,w2,w3,w4]
 ·simp only[QZ,Z5,Box.enc,Yx,Kg];refine cE ?_;simp +contextual -implicitDefEqProofs (maxSteps:=10^7) only[go_sem,seval,↓gZ,VD,w1,w2,w3,w4]
def plT:Option BT→AV×List Zg
 | some b=>match b.plan with
  | .mk o a q t ks=>(.tup [.agg [(.d (J o)),(.d (J a)),(.d (J q)),(.d (.bool t)),.own 0],(.d (.bool true))],[plO ks])
 | none=>(.tup [.agg [(.d (J 0)),(.d (J 0)),(.d (J 0)),(.d (.bool false)),.own 0],(.d (.bool false))],[.row 5 [] true false])
theorem Zic (l:List L.Place) (bX bY bW bH:Int) (p q:Bool→Int→Option BT) (hb:VB (Box.mk bX bY bW bH)) (hl:InL l (Box.mk bX bY bW bH)) (aa:l.length≤1000)
  (h1:∀ d x,UK l (Box.mk bX bY bW bH)=some (d,x)→Zi Xs Ms QG [.d (.sl ((ZJ d l x true).map Place.enc)),.d (QZ d (Box.mk bX bY bW bH) (x-loP d (Box.mk bX bY bW bH))).enc] []=some (plT (p d x)))
  (h2:∀ d x,UK l (Box.mk bX bY bW bH)=some (d,x)→Zi Xs Ms QG [.d (.sl ((ZJ d l x false).map Place.enc)),.d (Z5 d (Box.mk bX bY bW bH) (x-loP d (Box.mk bX bY bW bH))).enc] []=some (plT (q d x))) :
  Zi Xs Ms V4 [(.d (.sl (l.map Place.enc))),(.d (.agg [J bX,J bY,J bW,J bH]))] []=some (plT (match UK l (Box.mk bX bY bW bH) with
   | some (d,x)=>ZdE d (x-loP d (Box.mk bX bY bW bH)) (p d x) (q d x)
   | none=>none)):=by
 have ef:=Zkg l bX bY bW bH hb aa (fun c hc=>(hl c hc).1);cases hc:UK l (Box.mk bX bY bW bH) with
 | none=>
  rw[hc] at ef;unfold ZkT at ef;unfold plT;refine cE ?_;simp +contextual -implicitDefEqProofs (maxSteps:=10^7) only[go_sem,seval,↓gZ,UC,ef]
 | some dx=>
  obtain⟨d,x⟩:=dx;obtain⟨g1,g2,g3⟩:=Jw hc;have af:=Zoz hb hl ⟨g1,g2⟩ g3;have k1:=h1 d x hc;have k2:=h2 d x hc;simp only[hc,ZkT] at ef;simp only;have ae:0≤x-loP d (Box.mk bX bY bW bH)∧x-loP d (Box.mk bX bY bW bH)≤400:=by
   simp only[VB] at hb;cases d<;>simp only[loP,hiP,Kg,Ka,Kf] at g1 g2 ⊢ <;> omega
  have es:=Zm6 bX bY bW bH d (x-loP d (Box.mk bX bY bW bH)) hb ae;generalize x-loP d (Box.mk bX bY bW bH)=a at *;generalize p d x=p0 at k1 ⊢;generalize q d x=q0 at k2 ⊢;generalize QZ d (Box.mk bX bY bW bH) a=lb at *;generalize Z5 d (Box.mk bX bY bW bH) a=hb' at *;clear h1 h2 ae g1 g2 g3 hc;obtain⟨lX,lY,lW,lH⟩:=lb;obtain⟨hX,hY,hW,hH⟩:=hb';simp only[Box.enc] at es k1 k2;refine cE ?_;simp +contextual -implicitDefEqProofs (maxSteps:=10^7) only[go_sem,seval,↓gZ,UC,ef,es];refine LO (α:=Nat) (fun i=>[(33,.d (J (i:Int)))]) (fun i=>[(0,.row 6 ((ZJ d (l.take i) x false).map Place.enc) true false),(1,.row 6 ((ZJ d (l.take i) x true).map Place.enc) true false)]) (fun i=>i≤l.length) (fun i=>l.length-i) 0 (by omega) ?_
  intro i hi ih;by_cases ab:i<l.length
  ·obtain⟨c,hx⟩:=ZY ab;have hw:=Zn (k:=i) (by omega);have pt:=Zia (d:=d) (t:=x) (f:=true) hx;have pf:=Zia (d:=d) (t:=x) (f:=false) hx;have ad:=af c (Kp hx);have ag:(ZJ d (l.take i) x true).length≤i:=Le (LK _ _) (by simp;omega);have lf1:(ZJ d (l.take i) x false).length≤i:=Le (LK _ _) (by simp;omega);have rt:((ZJ d (l.take i) x true).length+1)*48≤140737488355328∧(ZJ d (l.take i) x true).length≤140737488355327:=by omega
   have rf:((ZJ d (l.take i) x false).length+1)*48≤140737488355328∧(ZJ d (l.take i) x false).length≤140737488355327:=by omega
   obtain⟨P,T,⟨X,Y,W,H⟩⟩:=c;have ei:=Zdz X Y W H lX lY lW lH;simp only at pt pf ad;by_cases hh:hiP d ⟨X,Y,W,H⟩≤x
   ·rw[Kw (ad.2 hh)] at ei;rw[Kw hh] at pt pf;rw[Km rfl] at pt;rw[Kl (by simp)] at pf;simp +contextual -implicitDefEqProofs (maxSteps:=10^7) only[go_sem,seval,↓gZ,hx,ab,hw,ei,rt];refine ih (i+1) _ (by omega) (by omega) ?_;rw[pt,pf];simp +contextual -implicitDefEqProofs (maxSteps:=10^7) only[go_sem,seval,↓gZ,KM,K6]
   ·rw[Kq (fun h=>hh (ad.1 h))] at ei;rw[Kq hh] at pt pf;rw[Kl (by simp)] at pt;rw[Km rfl] at pf;simp +contextual -implicitDefEqProofs (maxSteps:=10^7) only[go_sem,seval,↓gZ,hx,ab,hw,ei,rf];refine ih (i+1) _ (by omega) (by omega) ?_;rw[pt,pf];simp +contextual -implicitDefEqProofs (maxSteps:=10^7) only[go_sem,seval,↓gZ,KM,K6]
  ·have:i=l.length:=by omega
   subst this;rw[KT (Kh _)];cases p0 with
   | none=>
    unfold plT at k1;simp only[ZdE];unfold plT;simp +contextual -implicitDefEqProofs (maxSteps:=10^7) only[go_sem,seval,↓gZ,k1]
   | some bp=>
    obtain⟨po,pa,pq,pt,pk,ep⟩:=Zcg bp;simp only[plT,ep] at k1;cases q0 with
    | none=>
     unfold plT at k2;simp only[ZdE];unfold plT;cases pk with
     | nil=>
      simp only[plO] at k1;simp +contextual -implicitDefEqProofs (maxSteps:=10^7) only[go_sem,seval,↓gZ,k1,k2]
     | cons p1 pr=>
      simp only[plO] at k1;simp +contextual -implicitDefEqProofs (maxSteps:=10^7) only[go_sem,seval,↓gZ,k1,k2]
    | some bq=>
     obtain⟨qo,qa,qq,qt,qk,eq⟩:=Zcg bq;simp only[plT,eq] at k2;simp only[ZdE,plT,BT.plan,ep,eq,plO];cases pk with
     | nil=>
      simp only[plO] at k1;cases qk with
      | nil=>
       simp only[plO] at k2;simp +contextual -implicitDefEqProofs (maxSteps:=10^7) only[go_sem,seval,↓gZ,k1,k2]
      | cons q1 qr=>
       simp only[plO] at k2;simp +contextual -implicitDefEqProofs (maxSteps:=10^7) only[go_sem,seval,↓gZ,k1,k2]
     | cons p1 pr=>
      simp only[plO] at k1;cases qk with
      | nil=>
       simp only[plO] at k2;simp +contextual -implicitDefEqProofs (maxSteps:=10^7) only[go_sem,seval,↓gZ,k1,k2]
      | cons q1 qr=>
       simp only[plO] at k2;simp +contextual -implicitDefEqProofs (maxSteps:=10^7) only[go_sem,seval,↓gZ,k1,k2]
theorem Zhk:∀ (n:Nat) (l:List L.Place) (bX bY bW bH:Int),VB (Box.mk bX bY bW bH)→InL l (Box.mk bX bY bW bH)→Apt l→(bW+bH).toNat≤n→l.length≤1000→Zi Xs Ms QG [(.d (.sl (l.map Place.enc))),(.d (.agg [J bX,J bY,J bW,J bH]))] []=some (plT (XK n l (Box.mk bX bY bW bH))):=by
 intro n
 induction n with
 | zero=>
  intro l bX bY bW bH hb _ _ hn _;simp only[VB] at hb;omega
 | succ n IH=>
  intro l bX bY bW bH hb hl ha hn ab;cases l with
  | nil=>
   simp only[XK,plT,plO,BT.plan];refine cE ?_;simp +contextual -implicitDefEqProofs (maxSteps:=10^7) only[go_sem,seval,↓gZ,Xv]
  | cons c r=>
   by_cases hp:c.Box=(Box.mk bX bY bW bH)
   ·have hr:=Zse ha hl hp;subst hr;obtain⟨P,T,⟨X,Y,W,H⟩⟩:=c;simp only at hp;have ag:XK (n+1) [⟨P,T,⟨X,Y,W,H⟩⟩] (Box.mk bX bY bW bH)=some (.pane P T):=by rw[XK,Km ⟨rfl,hp⟩]
    rw[ag];simp only[Box.mk.injEq] at hp;obtain⟨rfl,rfl,rfl,rfl⟩:=hp;simp only[plT,plO,BT.plan];refine cE ?_;simp +contextual -implicitDefEqProofs (maxSteps:=10^7) only[go_sem,seval,↓gZ,Xv]
   ·have aa:=Zic (c :: r) bX bY bW bH (fun d x=>XK n (ZJ d (c :: r) x true) (QZ d (Box.mk bX bY bW bH) (x-loP d (Box.mk bX bY bW bH)))) (fun d x=>XK n (ZJ d (c :: r) x false) (Z5 d (Box.mk bX bY bW bH) (x-loP d (Box.mk bX bY bW bH)))) hb hl ab
     (fun d x h=>by
      obtain⟨h1,h2,h3⟩:=Jw h;obtain⟨⟨g1,g2⟩,g3,g4⟩:=ZeG hb hl ⟨h1,h2⟩ h3;obtain⟨s1,s2⟩:=Zib hb ⟨h1,h2⟩;simp only at s1 s2;exact IH _ _ _ _ _ g1 g2 (Zm5 ha) (by omega) (Le (ZkS _ _ _ _) ab))
     (fun d x h=>by
      obtain⟨h1,h2,h3⟩:=Jw h;obtain⟨⟨g1,g2⟩,g3,g4⟩:=ZeG hb hl ⟨h1,h2⟩ h3;obtain⟨s1,s2⟩:=Zib hb ⟨h1,h2⟩;simp only at s1 s2;exact IH _ _ _ _ _ g3 g4 (Zm5 ha) (by omega) (Le (ZkS _ _ _ _) ab))
    have hX:XK (n+1) (c :: r) (Box.mk bX bY bW bH)=match UK (c :: r) (Box.mk bX bY bW bH) with
     | some (d,x)=>ZdE d (x-loP d (Box.mk bX bY bW bH)) (XK n (ZJ d (c :: r) x true) (QZ d (Box.mk bX bY bW bH) (x-loP d (Box.mk bX bY bW bH)))) (XK n (ZJ d (c :: r) x false) (Z5 d (Box.mk bX bY bW bH) (x-loP d (Box.mk bX bY bW bH))))
     | none=>none:=by rw[XK,Kl (fun h=>hp h.2)];try rfl
    rw[← hX] at aa;clear hX IH hl ha;generalize XK (n+1) (c :: r) (Box.mk bX bY bW bH)=X at aa ⊢;have ad:(c :: r)[0]?=some c:=rfl;have ae:¬(((c :: r).length:Nat):Int)=0:=by simp only[Ki];omega
    have af:0<(c :: r).length:=by simp
    generalize c :: r=l at *;obtain⟨P,T,⟨cX,cY,cW,cH⟩⟩:=c;simp only[Box.mk.injEq] at hp;cases X with
    | none=>
     unfold plT at aa ⊢;refine cE ?_;simp +contextual -implicitDefEqProofs (maxSteps:=10^7) only[go_sem,seval,↓gZ,Xv,ae,af,ad,hp,aa]
    | some bq=>
     obtain⟨qo,qa,qq,qt,qk,eq⟩:=Zcg bq;simp only[plT,eq] at aa ⊢;cases qk with
     | nil=>
      simp only[plO] at aa ⊢;refine cE ?_;simp +contextual -implicitDefEqProofs (maxSteps:=10^7) only[go_sem,seval,↓gZ,Xv,ae,af,ad,hp,aa]
     | cons q1 qr=>
      simp only[plO] at aa ⊢;refine cE ?_;simp +contextual -implicitDefEqProofs (maxSteps:=10^7) only[go_sem,seval,↓gZ,Xv,ae,af,ad,hp,aa]
def ZaU (l:List Box):Prop:=l.Pairwise fun a c=>¬XP a c
instance (l:List Box):Decidable (ZaU l):=by unfold ZaU;infer_instance
def ZgB (k:ZN) (c:L.Place):Prop:=(VB c.Box∧ZQ c.Box ⟨0,0,k.W,k.H⟩)∧Qq k.Panes c.Pane c.Turned c.Box.W c.Box.H=true
instance (k:ZN) (c:L.Place):Decidable (ZgB k c):=by unfold ZgB;infer_instance
def VPl (k:ZN) (l:List L.Place):Prop:=(VW k∧l.length≤12)∧(∀ c∈l,ZgB k c)∧ZaU (l.map L.Place.Box)
instance (k:ZN) (l:List L.Place):Decidable (VPl k l):=by unfold VPl;infer_instance
theorem Zid {a b:Box}:XP a b↔XP b a:=by unfold XP;omega
theorem ZoA {l:List Box} {i:Nat} {x:Box} (hx:l[i]?=some x) (h:ZaU (l.take i)) (hn:∀ y∈l.take i,¬XP x y):ZaU (l.take (i+1)):=by
 unfold ZaU at h ⊢;rw[KC,hx,Lb];exact⟨h,by simp,fun a ha b hb=>by simp at hb;subst hb;exact fun hm=>hn a ha (Zid.1 hm)⟩
theorem ZqN {l:List Box} {i j:Nat} {x y:Box} (aa:j<i) (hx:l[i]?=some x) (hy:l[j]?=some y) (hm:XP x y):¬ZaU l:=fun h=>by
 obtain⟨h1,rfl⟩:=Kd.1 hx;obtain⟨h2,rfl⟩:=Kd.1 hy;exact(List.pairwise_iff_getElem.1 h) j i h2 h1 aa (Zid.1 hm)
theorem Zhl (l:List Box) (hv:∀ b∈l,VB b) (hl:l.length≤24):Zi Xs Ms Vb [(.d (.sl (l.map Box.enc)))] []=some ((.d (.bool true)),[]):=by
 have ab:¬(24:Int)<(l.length:Int):=by omega
 refine cE ?_;simp +contextual -implicitDefEqProofs (maxSteps:=10^7) only[go_sem,seval,↓gZ,JD,ab];refine LO (α:=Nat) (fun i=>[(10,.d (J (i:Int)))]) (fun _=>[]) (fun i=>i≤l.length) (fun i=>l.length-i) 0 (by omega) ?_;intro i hi ih;by_cases aa:i<l.length
 ·obtain⟨x,hx⟩:=ZY aa;have hw:=Zn (k:=i) (by omega);have hb:=hv x (Kp hx);obtain⟨X,Y,W,H⟩:=x;have e:=YD X Y W H;rw[Kw hb] at e;simp +contextual -implicitDefEqProofs (maxSteps:=10^7) only[go_sem,seval,↓gZ,hx,aa,hw,e];refine ih (i+1) _ (by omega) (by omega) ?_;simp +contextual -implicitDefEqProofs (maxSteps:=10^7) only[go_sem,seval,↓gZ]
 ·simp +contextual -implicitDefEqProofs (maxSteps:=10^7) only[go_sem,seval,↓gZ,aa]
theorem Zhm (l:List Box) (hv:∀ b∈l,VB b) (hl:l.length≤24):Zi Xs Ms Va [(.d (.sl (l.map Box.enc)))] []=some ((.d (.bool (decide (ZaU l)))),[]):=by
 have e1:=Zhl l hv hl;refine cE ?_;simp +contextual -implicitDefEqProofs (maxSteps:=10^7) only[go_sem,seval,↓gZ,JC,e1];refine LO (α:=Nat) (fun i=>[(14,.d (J (i:Int)))]) (fun _=>[]) (fun i=>i≤l.length∧ZaU (l.take i)) (fun i=>l.length-i) 0 ⟨by omega,by simp[ZaU]⟩ ?_;intro i ⟨hi,hp⟩ ih;by_cases af:i<l.length
 ·obtain⟨x,hx⟩:=ZY af;have hw:=Zn (k:=i) (by omega);have hb:=hv x (Kp hx);have ai:i≤l.length:=hi;have ab:(l.take i).length=i:=by simp;omega
  have ad:=ZoA hx hp;obtain⟨X,Y,W,H⟩:=x;simp +contextual -implicitDefEqProofs (maxSteps:=10^7) only[go_sem,seval,↓gZ,hx,af,hw,ai];refine Qw Xs Ms (st0:=?st1) (α:=Nat) (fun j=>[(23,.d (J (j:Int)))]) (fun _=>[]) (fun j=>j≤i∧∀ y∈l.take j,¬XP ⟨X,Y,W,H⟩ y) (fun j=>i-j) 0 ?hc2 ⟨by omega,by simp⟩ ?h02 ?step2
  case hc2=>simp +contextual -implicitDefEqProofs (maxSteps:=10^7) only[go_sem,seval,↓gZ]<;>exact rfl
  case h02=>rfl
  case step2=>
   intro j ⟨hj,hq⟩ aj;by_cases aa:j<i
   ·obtain⟨y,hy⟩:=ZY (l:=l) (k:=j) (by omega);have ag:=Zn (k:=j) (by omega);have ak:=hv y (Kp hy);have ah:(l.take i)[j]?=some y:=by rw[List.getElem?_take_of_lt aa];exact hy
    have ae:=ZqN aa hx hy;have al:l.take (j+1)=l.take j++[y]:=by rw[KC,hy];simp
    obtain⟨X',Y',W',H'⟩:=y;by_cases hm:XP ⟨X,Y,W,H⟩ ⟨X',Y',W',H'⟩
    ·have e:=Zev X Y W H X' Y' W' H' hb ak hm;have hn:=ae hm;rw[Kq hn];simp +contextual -implicitDefEqProofs (maxSteps:=10^7) only[go_sem,seval,↓gZ,ah,aa,ab,ag,e,Kt,Zln]
    ·have e:=Zgx X Y W H X' Y' W' H' (fun h=>hm h.2.2);simp +contextual -implicitDefEqProofs (maxSteps:=10^7) only[go_sem,seval,↓gZ,ah,aa,ab,ag,e,Kt];refine aj (j+1) _ ⟨by omega,?_⟩ (by omega) ?_
     ·rw[al];intro z hz;rcases Kc.1 hz with hz | hz
      ·exact hq z hz
      ·simp at hz;subst hz;exact hm
     ·simp +contextual -implicitDefEqProofs (maxSteps:=10^7) only[go_sem,seval,↓gZ,ab]
   ·have:j=i:=by omega
    subst this;simp +contextual -implicitDefEqProofs (maxSteps:=10^7) only[go_sem,seval,↓gZ,aa,ab,hw,Kt];refine ih (j+1) _ ⟨by omega,ad hq⟩ (by omega) ?_;simp +contextual -implicitDefEqProofs (maxSteps:=10^7) only[go_sem,seval,↓gZ]
 ·have:i=l.length:=by omega
  subst this;rw[KT (Kh _)] at hp;rw[Kw hp];simp +contextual -implicitDefEqProofs (maxSteps:=10^7) only[go_sem,seval,↓gZ]
theorem ZfN (kW kH:Int) (kP:List Pane) (l:List L.Place):Zi Xs Ms Ys [(.d (.agg [J kW,J kH,.sl (kP.map Pane.enc)])),(.d (.sl (l.map Place.enc)))] []=some ((.d (.bool (decide (VPl (ZN.mk kW kH kP) l)))),[]):=by
 have ew:=X4 kW kH kP;by_cases hw:VW (ZN.mk kW kH kP)
 ·rw[Kw hw] at ew;by_cases af:(12:Int)<(l.length:Int)
  ·have hn:¬VPl (ZN.mk kW kH kP) l:=fun h=>by have:=h.1.2;omega
   refine cE ?_;simp +contextual -implicitDefEqProofs (maxSteps:=10^7) only[go_sem,seval,↓gZ,Yt,ew,af,hn]
  ·have es:=Ja kW kH kP;have ah:l.length≤12:=by omega
   have ai:=hw;simp only[VW] at hw;have aj:VB ⟨0,0,kW,kH⟩:=by simp only[VB];omega
   refine cE ?_;simp +contextual -implicitDefEqProofs (maxSteps:=10^7) only[go_sem,seval,↓gZ,Yt,ew,af];refine LO (α:=Nat) (fun i=>[(19,.d (J (i:Int)))]) (fun i=>[(0,.row 4 (((l.take i).map L.Place.Box).map Box.enc) true false)]) (fun i=>i≤l.length∧∀ c∈l.take i,ZgB (ZN.mk kW kH kP) c) (fun i=>l.length-i) 0 ⟨by omega,by simp⟩ ?_;intro i ⟨hi,hp⟩ ih;by_cases aa:i<l.length
   ·obtain⟨c,hx⟩:=ZY aa;have ab:=Zn (k:=i) (by omega);have ag:l.take (i+1)=l.take i++[c]:=by rw[KC,hx];simp
    have ad:=Kp hx;have am:(l.take i).length≤i:=by simp;omega
    have hr:((l.take i).length+1)*32≤140737488355328∧(l.take i).length≤140737488355327:=by omega
    have ae:¬ZgB (ZN.mk kW kH kP) c→¬VPl (ZN.mk kW kH kP) l:=fun h h'=>h (h'.2.1 c ad);have ak:ZgB (ZN.mk kW kH kP) c→∀ z∈l.take (i+1),ZgB (ZN.mk kW kH kP) z:=fun h z hz=>by
     rw[ag] at hz;rcases Kc.1 hz with hz | hz
     ·exact hp z hz
     ·simp at hz;subst hz;exact h
    obtain⟨P,T,⟨X,Y,W,H⟩⟩:=c;have e1:=YD X Y W H;have e2:=Zdz X Y W H 0 0 kW kH;have e3:=Js kW kH kP P T W H;by_cases v1:VB ⟨X,Y,W,H⟩
    ·rw[Kw v1] at e1;by_cases v2:VB ⟨X,Y,W,H⟩∧VB ⟨0,0,kW,kH⟩∧ZQ ⟨X,Y,W,H⟩ ⟨0,0,kW,kH⟩
     ·rw[Kw v2] at e2;cases v3:Qq kP P T W H with
      | true=>
       rw[v3] at e3;have al:ZgB (ZN.mk kW kH kP) ⟨P,T,⟨X,Y,W,H⟩⟩:=⟨⟨v1,v2.2.2⟩,v3⟩
       simp +contextual -implicitDefEqProofs (maxSteps:=10^7) only[go_sem,seval,↓gZ,hx,aa,ab,e1,e2,e3,es,hr];refine ih (i+1) _ ⟨by omega,ak al⟩ (by omega) ?_;rw[ag,KM];simp +contextual -implicitDefEqProofs (maxSteps:=10^7) only[go_sem,seval,↓gZ,KM]
      | false=>
       rw[v3] at e3;have hn:=ae (fun h=>by have:=h.2;simp only at this;rw[v3] at this;cases this);rw[Kq hn];simp +contextual -implicitDefEqProofs (maxSteps:=10^7) only[go_sem,seval,↓gZ,hx,aa,ab,e1,e2,e3,es]
     ·rw[Kq v2] at e2;have hn:=ae (fun h=>v2 ⟨v1,aj,h.1.2⟩);rw[Kq hn];simp +contextual -implicitDefEqProofs (maxSteps:=10^7) only[go_sem,seval,↓gZ,hx,aa,ab,e1,e2,es]
    ·rw[Kq v1] at e1;have hn:=ae (fun h=>v1 h.1.1);rw[Kq hn];simp +contextual -implicitDefEqProofs (maxSteps:=10^7) only[go_sem,seval,↓gZ,hx,aa,ab,e1]
   ·have:i=l.length:=by omega
    subst this;rw[KT (Kh _)] at hp ⊢;have ea:=Zhm (l.map L.Place.Box) (fun b hb=>by
     obtain⟨c,hc,rfl⟩:=KQ.1 hb;exact(hp c hc).1.1) (by simp;omega)
    simp +contextual -implicitDefEqProofs (maxSteps:=10^7) only[go_sem,seval,↓gZ,ea];exact Zjl ⟨fun h=>⟨⟨ai,ah⟩,hp,h⟩,fun h=>h.2.2⟩
 ·rw[Kq hw] at ew;have hn:¬VPl (ZN.mk kW kH kP) l:=fun h=>hw h.1.1;refine cE ?_;simp +contextual -implicitDefEqProofs (maxSteps:=10^7) only[go_sem,seval,↓gZ,Yt,ew,hn]
def ZgC:BT→Nat
 | .waste=>0
 | .pane _ _=>0
 | .cut _ _ l r=>1+ZgC l+ZgC r
theorem Zie:∀ (b:BT),b.cnt=2*ZgC b+1
 | .waste=>rfl
 | .pane _ _=>rfl
 | .cut _ _ l r=>by simp only[BT.cnt,ZgC,Zie l,Zie r];omega
def Zif (b c:Box):Nat:=(if b.X<c.X then 1 else 0)+(if c.X+c.W<b.X+b.W then 1 else 0)+(if b.Y<c.Y then 1 else 0)+(if c.Y+c.H<b.Y+b.H then 1 else 0)
def pot (b:Box):List L.Place→Nat
 | []=>0
 | c :: l=>Zif b c.Box+pot b l
theorem ZtO (b c:Box):Zif b c≤4:=by
 unfold Zif;split<;>split<;>split<;>split<;>omega
theorem Zsf (b:Box):∀ (l:List L.Place),pot b l≤4*l.length
 | []=>by simp[pot]
 | c :: l=>by
  have h1:=ZtO b c.Box;have h2:=Zsf b l;simp only[pot,Ki];omega
theorem Zsg {b c:Box} {d:Bool} {x:Int} (hc:VB c) (hi:ZQ c b) (hx:loP d b<x∧x<hiP d b) (h:hiP d c≤x) :
  Zif (QZ d b (x-loP d b)) c+(if x=loP d c∨x=hiP d c then 1 else 0)≤Zif b c:=by
 simp only[VB] at hc;simp only[ZQ] at hi;cases d
 ·simp only[loP,hiP,QZ,Zif,Ka,Kf] at hx h ⊢;have e:b.Y+(x-b.Y)=x:=by omega
  rw[e];by_cases h1:c.Y+c.H<x
  ·rw[Km h1,Kl (show ¬(x=c.Y∨x=c.Y+c.H) by omega),Km (show c.Y+c.H<b.Y+b.H by omega)];omega
  ·rw[Kl h1,Km (show c.Y+c.H<b.Y+b.H by omega)];have hb1:(if x=c.Y∨x=c.Y+c.H then 1 else 0:Nat)≤1:=by split<;>omega
   omega
 ·simp only[loP,hiP,QZ,Zif,Kg] at hx h ⊢;have e:b.X+(x-b.X)=x:=by omega
  rw[e];by_cases h1:c.X+c.W<x
  ·rw[Km h1,Kl (show ¬(x=c.X∨x=c.X+c.W) by omega),Km (show c.X+c.W<b.X+b.W by omega)];omega
  ·rw[Kl h1,Km (show c.X+c.W<b.X+b.W by omega)];have hb1:(if x=c.X∨x=c.X+c.W then 1 else 0:Nat)≤1:=by split<;>omega
   omega
theorem ZqO {b c:Box} {d:Bool} {x:Int} (hc:VB c) (hi:ZQ c b) (hx:loP d b<x∧x<hiP d b) (h:x≤loP d c) :
  Zif (Z5 d b (x-loP d b)) c+(if x=loP d c∨x=hiP d c then 1 else 0)≤Zif b c:=by
 simp only[VB] at hc;simp only[ZQ] at hi;cases d
 ·simp only[loP,hiP,Z5,Zif,Ka,Kf] at hx h ⊢;have e:b.Y+(x-b.Y)=x:=by omega
  have e2:x+(b.H-(x-b.Y))=b.Y+b.H:=by omega
  rw[e,e2];by_cases h1:x<c.Y
  ·rw[Km h1,Kl (show ¬(x=c.Y∨x=c.Y+c.H) by omega),Km (show b.Y<c.Y by omega)];omega
  ·rw[Kl h1,Km (show b.Y<c.Y by omega)];have hb1:(if x=c.Y∨x=c.Y+c.H then 1 else 0:Nat)≤1:=by split<;>omega
   omega
 ·simp only[loP,hiP,Z5,Zif,Kg] at hx h ⊢;have e:b.X+(x-b.X)=x:=by omega
  have e2:x+(b.W-(x-b.X))=b.X+b.W:=by omega
  rw[e,e2];by_cases h1:x<c.X
  ·rw[Km h1,Kl (show ¬(x=c.X∨x=c.X+c.W) by omega),Km (show b.X<c.X by omega)];omega
  ·rw[Kl h1,Km (show b.X<c.X by omega)];have hb1:(if x=c.X∨x=c.X+c.W then 1 else 0:Nat)≤1:=by split<;>omega
   omega
theorem ZpT {b:Box} {d:Bool} {x:Int} (hx:loP d b<x∧x<hiP d b):∀ (l:List L.Place),InL l b→crs d l x=false →
  pot (QZ d b (x-loP d b)) (ZJ d l x true)+pot (Z5 d b (x-loP d b)) (ZJ d l x false)+(if tch d l x=true then 1 else 0)≤pot b l
 | [],_,_=>by simp[pot,ZJ,tch]
 | c :: l,hl,hc=>by
  have h0:=hl c (by simp);have aa:=ZeF hc c (by simp);have hc2:crs d l x=false:=by
   have:=Lp.1 hc;exact Lp.2 fun y hy=>this y (by simp[hy])
  have ih:=ZpT hx l (fun y hy=>hl y (by simp[hy])) hc2;have ht:tch d (c :: l) x=(decide (x=loP d c.Box∨x=hiP d c.Box) || tch d l x):=by simp[tch]
  rw[ht];by_cases h:hiP d c.Box≤x
  ·have e1:ZJ d (c :: l) x true=c :: ZJ d l x true:=by unfold ZJ;rw[LY,Km (by simp[h])]
   have e2:ZJ d (c :: l) x false=ZJ d l x false:=by unfold ZJ;rw[LY,Kl (by simp[h])]
   have hp:=Zsg h0.1 h0.2 hx h;rw[e1,e2];simp only[pot];by_cases hq:x=loP d c.Box∨x=hiP d c.Box
   ·rw[Km hq] at hp;rw[Kw hq,Bool.true_or,Km rfl];split at ih<;>omega
   ·rw[Kl hq] at hp;rw[Kq hq,Bool.false_or];omega
  ·have e1:ZJ d (c :: l) x true=ZJ d l x true:=by unfold ZJ;rw[LY,Kl (by simp[h])]
   have e2:ZJ d (c :: l) x false=c :: ZJ d l x false:=by unfold ZJ;rw[LY,Km (by simp[h])]
   have hp:=ZqO h0.1 h0.2 hx (by omega);rw[e1,e2];simp only[pot];by_cases hq:x=loP d c.Box∨x=hiP d c.Box
   ·rw[Km hq] at hp;rw[Kw hq,Bool.true_or,Km rfl];split at ih<;>omega
   ·rw[Kl hq] at hp;rw[Kq hq,Bool.false_or];omega
theorem ZqP {l:List L.Place} {b:Box} {d:Bool} {x:Int} (h:UK l b=some (d,x)):tch d l x=true:=by
 unfold UK at h;split at h
 ·rename_i y hy;cases h;exact(Uh hy).2.2.2
 ·split at h
  ·rename_i y hy;cases h;exact(Uh hy).2.2.2
  ·cases h
theorem ZoB (d:Bool) (l:List L.Place) (t:Int):(ZJ d l t true++ZJ d l t false).Perm l:=by
 have h:=List.filter_append_perm (fun c:L.Place=>true==decide (hiP d c.Box≤t)) l;have e:ZJ d l t false=l.filter (fun c=>!(true==decide (hiP d c.Box≤t))):=by
  unfold ZJ;congr 1
  funext c
  cases decide (hiP d c.Box≤t)<;>rfl
 rw[e];exact h
def Zig:BT→BT
 | .waste=>.waste
 | .pane i t=>.pane i t
 | .cut d a l r=>if Zkf l=false∧Zkf r=false then .waste else .cut d a (Zig l) (Zig r)
theorem ZoC (ps:List Pane):∀ (n:Nat) (l:List L.Place) (b:Box) (t:BT),VB b→InL l b→(∀ c∈l,Qq ps c.Pane c.Turned c.Box.W c.Box.H=true)→XK n l b=some t →
  Qd ps t b.W b.H=true∧ZgC t≤pot b l∧(plc t b.X b.Y b.W b.H).Perm l∧Zig t=t∧(l≠[]→Zkf t=true):=by
 intro n
 induction n with
 | zero=>intro l b t _ _ _ h;simp[XK] at h
 | succ n IH=>
  intro l b t hb hl hf h;cases l with
  | nil=>
   simp only[XK,Option.some.injEq] at h;subst h;exact⟨rfl,by simp[ZgC],by simp[plc],rfl,fun h=>absurd rfl h⟩
  | cons c r=>
   by_cases hp:r=[]∧c.Box=b
   ·rw[XK,Km hp] at h;obtain⟨rfl,ad⟩:=hp;simp only[Option.some.injEq] at h;subst h;have h1:=hf c (by simp);rw[ad] at h1;refine⟨h1,by simp[ZgC],?_,rfl,fun _=>rfl⟩;have:(⟨c.Pane,c.Turned,⟨b.X,b.Y,b.W,b.H⟩⟩:L.Place)=c:=by
     cases c;simp only at ad;rw[ad]
    simp only[plc,this];exact List.Perm.refl _
   ·cases hc:UK (c :: r) b with
    | none=>rw[Zsd hp hc] at h;cases h
    | some dx=>
     obtain⟨d,x⟩:=dx;rw[ZkR hp hc] at h;obtain⟨h1,h2,h3⟩:=Jw hc;obtain⟨⟨g1,g2⟩,g3,g4⟩:=ZeG hb hl ⟨h1,h2⟩ h3;have ae:=ZpT ⟨h1,h2⟩ (c :: r) hl h3;rw[Km (ZqP hc)] at ae;have aa:=ZoB d (c :: r) x;cases hA:XK n (ZJ d (c :: r) x true) (QZ d b (x-loP d b)) with
     | none=>rw[hA] at h;simp[ZdE] at h
     | some A=>
      cases hB:XK n (ZJ d (c :: r) x false) (Z5 d b (x-loP d b)) with
      | none=>rw[hA,hB] at h;simp[ZdE] at h
      | some B=>
       rw[hA,hB] at h;simp only[ZdE,Option.some.injEq] at h;subst h;obtain⟨a1,a2,a3,a4,a5⟩:=IH _ _ A g1 g2 (fun y hy=>hf y (Lk.1 hy).1) hA;obtain⟨b1,b2,b3,b4,b5⟩:=IH _ _ B g3 g4 (fun y hy=>hf y (Lk.1 hy).1) hB;have ab:Zkf A=true∨Zkf B=true:=by
        by_cases hn:ZJ d (c :: r) x true=[]
        ·refine .inr (b5 fun hm=>?_);rw[hn,hm] at aa;have:=aa.length_eq;simp at this
        ·exact .inl (a5 hn)
       have af:¬(Zkf A=false∧Zkf B=false):=fun hh=>by rcases ab with h' | h' <;> simp[hh.1,hh.2] at h'
       refine⟨?_,by simp only[ZgC];omega,?_,by rw[Zig,Kl af,a4,b4],fun _=>by simp only[Zkf,K5];exact ab⟩
       ·cases d
        ·simp only[loP,hiP,QZ,Z5,Ka,Kf] at h1 h2 a1 b1;simp only[Qd,loP,Ka,Kf,a1,b1,LD,Kj];omega
        ·simp only[loP,hiP,QZ,Z5,Kg] at h1 h2 a1 b1;simp only[Qd,loP,Kg,a1,b1,LD,Kj];omega
       ·have ag:(plc (.cut d (x-loP d b) A B) b.X b.Y b.W b.H)=plc A (QZ d b (x-loP d b)).X (QZ d b (x-loP d b)).Y (QZ d b (x-loP d b)).W (QZ d b (x-loP d b)).H++plc B (Z5 d b (x-loP d b)).X (Z5 d b (x-loP d b)).Y (Z5 d b (x-loP d b)).W (Z5 d b (x-loP d b)).H:=by
         cases d<;>simp[plc,QZ,Z5]
        rw[ag];exact(a3.append b3).trans aa
def ZqQ (k:ZN) (l:List L.Place):Option BT:=if VPl k l then XK (k.W+k.H).toNat l ⟨0,0,k.W,k.H⟩ else none
theorem ZkU {k:ZN} {l:List L.Place} (h:VPl k l):VB ⟨0,0,k.W,k.H⟩∧InL l ⟨0,0,k.W,k.H⟩∧Apt l∧(∀ c∈l,Qq k.Panes c.Pane c.Turned c.Box.W c.Box.H=true):=by
 obtain⟨⟨h1,h2⟩,h3,h4⟩:=h;refine⟨by simp only[VW] at h1;simp only[VB];omega,fun c hc=>(h3 c hc).1,?_,fun c hc=>(h3 c hc).2⟩;unfold ZaU at h4;rw[List.pairwise_map] at h4;exact h4
theorem ZeH (kW kH:Int) (kP:List Pane) (l:List L.Place):Zi Xs Ms X7 [(.d (.agg [J kW,J kH,.sl (kP.map Pane.enc)])),(.d (.sl (l.map Place.enc)))] []=some (plT (ZqQ (ZN.mk kW kH kP) l)):=by
 have e1:=ZfN kW kH kP l;unfold ZqQ;by_cases hv:VPl (ZN.mk kW kH kP) l
 ·obtain⟨h1,h2,h3,_⟩:=ZkU hv;rw[Kw hv] at e1;rw[Km hv];have es:=Ja kW kH kP;have ep:=Zhk (kW+kH).toNat l 0 0 kW kH h1 h2 h3 (Kh _) (by have:=hv.1.2;omega);generalize XK (kW+kH).toNat l ⟨0,0,kW,kH⟩=X at ep ⊢;cases X with
  | none=>
   unfold plT at ep ⊢;refine cE ?_;simp +contextual -implicitDefEqProofs (maxSteps:=10^7) only[go_sem,seval,↓gZ,Xq,e1,es,ep]
  | some b=>
   obtain⟨o,a,q,t,ks,eb⟩:=Zcg b;simp only[plT,eb] at ep ⊢;cases ks with
   | nil=>
    simp only[plO] at ep ⊢;refine cE ?_;simp +contextual -implicitDefEqProofs (maxSteps:=10^7) only[go_sem,seval,↓gZ,Xq,e1,es,ep]
   | cons k1 kr=>
    simp only[plO] at ep ⊢;refine cE ?_;simp +contextual -implicitDefEqProofs (maxSteps:=10^7) only[go_sem,seval,↓gZ,Xq,e1,es,ep]
 ·rw[Kq hv] at e1;rw[Kl hv];unfold plT;refine cE ?_;simp +contextual -implicitDefEqProofs (maxSteps:=10^7) only[go_sem,seval,↓gZ,Xq,e1]
theorem Vt:∀ (b:BT),Zi Xs Ms XT [.d b.plan.enc,.d b.plan.enc] []=some ((.d (.bool true)),[])
 | .waste=>by
  have nb:∀ a b:Bool,Zei .neq true (.d (.bool a)) (.d (.bool b))=Qf (.d (.bool (!(a==b)))):=fun _ _=>rfl;simp only[BT.plan,Zh.enc_mk];refine cE ?_;simp +contextual -implicitDefEqProofs (maxSteps:=10^7) only[go_sem,seval,↓gZ,V7,nb,beq_self_eq_true];refine QV Xs Ms ?_;simp +contextual -implicitDefEqProofs (maxSteps:=10^7) only[go_sem,seval,↓gZ]
 | .pane i t=>by
  have nb:∀ a b:Bool,Zei .neq true (.d (.bool a)) (.d (.bool b))=Qf (.d (.bool (!(a==b)))):=fun _ _=>rfl;simp only[BT.plan,Zh.enc_mk];refine cE ?_;simp +contextual -implicitDefEqProofs (maxSteps:=10^7) only[go_sem,seval,↓gZ,V7,nb,beq_self_eq_true];refine QV Xs Ms ?_;simp +contextual -implicitDefEqProofs (maxSteps:=10^7) only[go_sem,seval,↓gZ]
 | .cut d a l r=>by
  have nb:∀ a b:Bool,Zei .neq true (.d (.bool a)) (.d (.bool b))=Qf (.d (.bool (!(a==b)))):=fun _ _=>rfl;have e1:=Vt l;have e2:=Vt r;have c2:(1:Int)<((2:Nat):Int):=by omega
  have c3:(0:Int)<((2:Nat):Int):=by omega
  have c4:¬(2:Int)<((2:Nat):Int):=by omega
  simp only[BT.plan,Zh.enc_mk];refine cE ?_;simp +contextual -implicitDefEqProofs (maxSteps:=10^7) only[go_sem,seval,↓gZ,V7,nb,beq_self_eq_true];refine QV Xs Ms ?_;simp +contextual -implicitDefEqProofs (maxSteps:=10^7) only[go_sem,seval,↓gZ,e1,c3];refine QV Xs Ms ?_;simp +contextual -implicitDefEqProofs (maxSteps:=10^7) only[go_sem,seval,↓gZ,e2,c2];refine QV Xs Ms ?_;simp +contextual -implicitDefEqProofs (maxSteps:=10^7) only[go_sem,seval,↓gZ,c4]
theorem ZoD {k:ZN} {l:List L.Place} {t:BT} (h:ZqQ k l=some t):Yy k t.plan=true∧((Xb k t.plan).filterMap X2).Perm l∧Zig t=t∧t.cnt≤255:=by
 unfold ZqQ at h;by_cases hv:VPl k l
 ·rw[Km hv] at h;obtain⟨h1,h2,h3,h4⟩:=ZkU hv;obtain⟨g1,g2,g3,g4,_⟩:=ZoC k.Panes _ l _ t h1 h2 h4 h;have hp:=Zsf ⟨0,0,k.W,k.H⟩ l;have hc:=Zie t;have hl:=hv.1.2;have aa:t.cnt≤255:=by omega
  refine⟨?_,?_,g4,aa⟩
  ·unfold Yy;rw[QN];simp only[hv.1.1,aa,decide_true,La];exact g1
  ·unfold Xb;rw[QN];simp only[hv.1.1,aa,decide_true,La];rw[Km (show Qd k.Panes t k.W k.H=true from g1),Jo];exact g3
 ·rw[Kl hv] at h;cases h
end Go.Proofs.Ytefabmohhbhlfaa
