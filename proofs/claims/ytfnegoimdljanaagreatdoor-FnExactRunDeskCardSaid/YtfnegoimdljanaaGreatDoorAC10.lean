/- Own text. -/
import Derived.Test.YtfnegoimdljanaaGreatDoorACode
import Derived.Test.YtfnegoimdljanaaGreatDoorAC1
import Derived.Test.YtfnegoimdljanaaGreatDoorAC9
import Derived.Test.YtfnegoimdljanaaGreatDoorAbsOkD
namespace Go.Proofs.YtfnegoimdljanaaGreatDoor
open Go Go.Abs Go.Abs.E Go.Abs.L
set_option linter.unusedSimpArgs false
set_option linter.unusedVariables false
set_option maxRecDepth 20000
set_option maxHeartbeats 4000000
def Apt (l:List L.Place):Prop:=l.Pairwise fun a c=>¬Yt a.Box c.Box
theorem ZyP {l:List L.Place} {d:Bool} {t:Int} {f:Bool} (h:Apt l):Apt (Yo d l t f):=List.Pairwise.filter _ h
theorem ZEY {c:L.Place} {r:List L.Place} {b:Box} (ha:Apt (c :: r)) (hl:InL (c :: r) b) (h:c.Box=b):r=[]:=by
 cases r with
 | nil=>rfl
 | cons y r=>
  have h1:=(L0.1 ha).1 y (by simp);have h2:=hl y (by simp);have h3:=hl c (by simp);rw[h] at h1 h3;simp only[VB,QI,Yt] at h1 h2 h3;omega
theorem ZA2 {l:List L.Place} {b:Box} {d:Bool} {x:Int} (hb:VB b) (h:InL l b) (hx:loP d b<x∧x<hiP d b) (hc:crs d l x=false):∀ c∈l,(VB c.Box∧VB (Zch d b (x-loP d b))∧QI c.Box (Zch d b (x-loP d b)))↔hiP d c.Box≤x:=fun c hm=>by
 have h1:=h c hm;have h2:=ZCQ hc c hm;have h3:=(ZqP hb h hx hc).1.1;cases d
 ·simp only[loP,hiP,Zch,Ka,Kn] at hx h2 h3 ⊢;simp only[VB,QI] at h1 h3 ⊢;omega
 ·simp only[loP,hiP,Zch,Km] at hx h2 h3 ⊢;simp only[VB,QI] at h1 h3 ⊢;omega
theorem ZyQ (bX bY bW bH:Int) (d:Bool) (a:Int) (hb:VB (Box.mk bX bY bW bH)) (ha:0≤a∧a≤400):Zd Xs Ms 222 [.d (.agg [J (Qb d),J a,J 0,.bool false,.sl []]),(.d (.agg [J bX,J bY,J bW,J bH]))] []=some (.tup [.d (Zch d (Box.mk bX bY bW bH) a).enc,.d (UF d (Box.mk bX bY bW bH) a).enc],[]):=by
 simp only[VB] at hb;have w1:=wi (bX+a) (by omega) (by omega);have w2:=wi (bY+a) (by omega) (by omega);have w3:=wi (bW-a) (by omega) (by omega);have w4:=wi (bH-a) (by omega) (by omega);cases d
 ·simp only[Zch,UF,Box.enc,Qb,Ka,Kn];refine cE ?_;simp +contextual -implicitDefEqProofs only[go_sem,seval,Uk,w1,w2,w3,w4]
 ·simp only[Zch,UF,Box.enc,Qb,Km];refine cE ?_;simp +contextual -implicitDefEqProofs only[go_sem,seval,Uk,w1,w2,w3,w4]
def plT:Option BT→AV×List Zm
 | some b=>match b.plan with
  | .mk o a q t ks=>(.tup [.agg [(.d (J o)),(.d (J a)),(.d (J q)),(.d (.bool t)),.own 0],(.d (.bool true))],[plO ks])
 | none=>(.tup [.agg [(.d (J 0)),(.d (J 0)),(.d (J 0)),(.d (.bool false)),.own 0],(.d (.bool false))],[.row 5 [] true false])
theorem Zq6 (l:List L.Place) (bX bY bW bH:Int) (p q:Bool→Int→Option BT) (hb:VB (Box.mk bX bY bW bH)) (hl:InL l (Box.mk bX bY bW bH)) (aa:l.length≤1000)
  (h1:∀ d x,ZdY l (Box.mk bX bY bW bH)=some (d,x)→Zd Xs Ms 126 [.d (.sl ((Yo d l x true).map Place.enc)),.d (Zch d (Box.mk bX bY bW bH) (x-loP d (Box.mk bX bY bW bH))).enc] []=some (plT (p d x)))
  (h2:∀ d x,ZdY l (Box.mk bX bY bW bH)=some (d,x)→Zd Xs Ms 126 [.d (.sl ((Yo d l x false).map Place.enc)),.d (UF d (Box.mk bX bY bW bH) (x-loP d (Box.mk bX bY bW bH))).enc] []=some (plT (q d x))) :
  Zd Xs Ms 184 [(.d (.sl (l.map Place.enc))),(.d (.agg [J bX,J bY,J bW,J bH]))] []=some (plT (match ZdY l (Box.mk bX bY bW bH) with
   | some (d,x)=>Zih d (x-loP d (Box.mk bX bY bW bH)) (p d x) (q d x)
   | none=>none)):=by
 have ef:=ZuG l bX bY bW bH hb aa (fun c hc=>(hl c hc).1);cases hc:ZdY l (Box.mk bX bY bW bH) with
 | none=>
  rw[hc] at ef;unfold Zv9 at ef;unfold plT;refine cE ?_;simp +contextual -implicitDefEqProofs only[go_sem,seval,ZbI,ef]
 | some dx=>
  obtain⟨d,x⟩:=dx;obtain⟨g1,g2,g3⟩:=Zg0 hc;have af:=ZA2 hb hl ⟨g1,g2⟩ g3;have k1:=h1 d x hc;have k2:=h2 d x hc;simp only[hc,Zv9] at ef;simp only;have ae:0≤x-loP d (Box.mk bX bY bW bH)∧x-loP d (Box.mk bX bY bW bH)≤400:=by
   simp only[VB] at hb;cases d<;>simp only[loP,hiP,Km,Ka,Kn] at g1 g2 ⊢ <;> omega
  have es:=ZyQ bX bY bW bH d (x-loP d (Box.mk bX bY bW bH)) hb ae;generalize x-loP d (Box.mk bX bY bW bH)=a at *;generalize p d x=p0 at k1 ⊢;generalize q d x=q0 at k2 ⊢;generalize Zch d (Box.mk bX bY bW bH) a=lb at *;generalize UF d (Box.mk bX bY bW bH) a=hb' at *;clear h1 h2 ae g1 g2 g3 hc;obtain⟨lX,lY,lW,lH⟩:=lb;obtain⟨hX,hY,hW,hH⟩:=hb';simp only[Box.enc] at es k1 k2;refine cE ?_;simp +contextual -implicitDefEqProofs only[go_sem,seval,ZbI,ef,es];refine LO (α:=Nat) (fun i=>[(33,.d (J (i:Int)))]) (fun i=>[(0,.row 6 ((Yo d (l.take i) x false).map Place.enc) true false),(1,.row 6 ((Yo d (l.take i) x true).map Place.enc) true false)]) (fun i=>i≤l.length) (fun i=>l.length-i) 0 (by omega) ?_
  intro i hi ih;by_cases ab:i<l.length
  ·obtain⟨c,hx⟩:=Zp ab;have hw:=Zg (k:=i) (by omega);have pt:=Zli (d:=d) (t:=x) (f:=true) hx;have pf:=Zli (d:=d) (t:=x) (f:=false) hx;have ad:=af c (Kc hx);have ag:(Yo d (l.take i) x true).length≤i:=Kx (Kal _ _) (by simp;omega);have ah:(Yo d (l.take i) x false).length≤i:=Kx (Kal _ _) (by simp;omega);have rt:((Yo d (l.take i) x true).length+1)*48≤140737488355328∧(Yo d (l.take i) x true).length≤140737488355327:=by omega
   have rf:((Yo d (l.take i) x false).length+1)*48≤140737488355328∧(Yo d (l.take i) x false).length≤140737488355327:=by omega
   obtain⟨P,T,⟨X,Y,W,H⟩⟩:=c;have ei:=Za8 X Y W H lX lY lW lH;simp only at pt pf ad;by_cases hh:hiP d ⟨X,Y,W,H⟩≤x
   ·rw[Kh (ad.2 hh)] at ei;rw[Kh hh] at pt pf;rw[Kg rfl] at pt;rw[Kd (by simp)] at pf;simp +contextual -implicitDefEqProofs only[go_sem,seval,hx,ab,hw,ei,rt];refine ih (i+1) _ (by omega) (by omega) ?_;rw[pt,pf];simp +contextual -implicitDefEqProofs only[go_sem,seval,KI,KF]
   ·rw[Kj (fun h=>hh (ad.1 h))] at ei;rw[Kj hh] at pt pf;rw[Kd (by simp)] at pt;rw[Kg rfl] at pf;simp +contextual -implicitDefEqProofs only[go_sem,seval,hx,ab,hw,ei,rf];refine ih (i+1) _ (by omega) (by omega) ?_;rw[pt,pf];simp +contextual -implicitDefEqProofs only[go_sem,seval,KI,KF]
  ·have:i=l.length:=by omega
   subst this;rw[KJ (Kp _)];cases p0 with
   | none=>
    unfold plT at k1;simp only[Zih];unfold plT;simp +contextual -implicitDefEqProofs only[go_sem,seval,k1]
   | some bp=>
    obtain⟨po,pa,pq,pt,pk,ep⟩:=ZdZ bp;simp only[plT,ep] at k1;cases q0 with
    | none=>
     unfold plT at k2;simp only[Zih];unfold plT;cases pk with
     | nil=>
      simp only[plO] at k1;simp +contextual -implicitDefEqProofs only[go_sem,seval,k1,k2]
     | cons p1 pr=>
      simp only[plO] at k1;simp +contextual -implicitDefEqProofs only[go_sem,seval,k1,k2]
    | some bq=>
     obtain⟨qo,qa,qq,qt,qk,eq⟩:=ZdZ bq;simp only[plT,eq] at k2;simp only[Zih,plT,BT.plan,ep,eq,plO];cases pk with
     | nil=>
      simp only[plO] at k1;cases qk with
      | nil=>
       simp only[plO] at k2;simp +contextual -implicitDefEqProofs only[go_sem,seval,k1,k2]
      | cons q1 qr=>
       simp only[plO] at k2;simp +contextual -implicitDefEqProofs only[go_sem,seval,k1,k2]
     | cons p1 pr=>
      simp only[plO] at k1;cases qk with
      | nil=>
       simp only[plO] at k2;simp +contextual -implicitDefEqProofs only[go_sem,seval,k1,k2]
      | cons q1 qr=>
       simp only[plO] at k2;simp +contextual -implicitDefEqProofs only[go_sem,seval,k1,k2]
theorem ZpF:∀ (n:Nat) (l:List L.Place) (bX bY bW bH:Int),VB (Box.mk bX bY bW bH)→InL l (Box.mk bX bY bW bH)→Apt l→(bW+bH).toNat≤n→l.length≤1000→Zd Xs Ms 126 [(.d (.sl (l.map Place.enc))),(.d (.agg [J bX,J bY,J bW,J bH]))] []=some (plT (Y9 n l (Box.mk bX bY bW bH))):=by
 intro n
 induction n with
 | zero=>
  intro l bX bY bW bH hb _ _ hn _;simp only[VB] at hb;omega
 | succ n IH=>
  intro l bX bY bW bH hb hl ha hn ab;cases l with
  | nil=>
   simp only[Y9,plT,plO,BT.plan];refine cE ?_;simp +contextual -implicitDefEqProofs only[go_sem,seval,YD]
  | cons c r=>
   by_cases hp:c.Box=(Box.mk bX bY bW bH)
   ·have hr:=ZEY ha hl hp;subst hr;obtain⟨P,T,⟨X,Y,W,H⟩⟩:=c;simp only at hp;have ag:Y9 (n+1) [⟨P,T,⟨X,Y,W,H⟩⟩] (Box.mk bX bY bW bH)=some (.pane P T):=by rw[Y9,Kg ⟨rfl,hp⟩]
    rw[ag];simp only[Box.mk.injEq] at hp;obtain⟨rfl,rfl,rfl,rfl⟩:=hp;simp only[plT,plO,BT.plan];refine cE ?_;simp +contextual -implicitDefEqProofs only[go_sem,seval,YD]
   ·have aa:=Zq6 (c :: r) bX bY bW bH (fun d x=>Y9 n (Yo d (c :: r) x true) (Zch d (Box.mk bX bY bW bH) (x-loP d (Box.mk bX bY bW bH)))) (fun d x=>Y9 n (Yo d (c :: r) x false) (UF d (Box.mk bX bY bW bH) (x-loP d (Box.mk bX bY bW bH)))) hb hl ab
     (fun d x h=>by
      obtain⟨h1,h2,h3⟩:=Zg0 h;obtain⟨⟨g1,g2⟩,g3,g4⟩:=ZqP hb hl ⟨h1,h2⟩ h3;obtain⟨s1,s2⟩:=Zr1 hb ⟨h1,h2⟩;simp only at s1 s2;exact IH _ _ _ _ _ g1 g2 (ZyP ha) (by omega) (Kx (ZjU _ _ _ _) ab))
     (fun d x h=>by
      obtain⟨h1,h2,h3⟩:=Zg0 h;obtain⟨⟨g1,g2⟩,g3,g4⟩:=ZqP hb hl ⟨h1,h2⟩ h3;obtain⟨s1,s2⟩:=Zr1 hb ⟨h1,h2⟩;simp only at s1 s2;exact IH _ _ _ _ _ g3 g4 (ZyP ha) (by omega) (Kx (ZjU _ _ _ _) ab))
    have hX:Y9 (n+1) (c :: r) (Box.mk bX bY bW bH)=match ZdY (c :: r) (Box.mk bX bY bW bH) with
     | some (d,x)=>Zih d (x-loP d (Box.mk bX bY bW bH)) (Y9 n (Yo d (c :: r) x true) (Zch d (Box.mk bX bY bW bH) (x-loP d (Box.mk bX bY bW bH)))) (Y9 n (Yo d (c :: r) x false) (UF d (Box.mk bX bY bW bH) (x-loP d (Box.mk bX bY bW bH))))
     | none=>none:=by rw[Y9,Kd (fun h=>hp h.2)];try rfl
    rw[← hX] at aa;clear hX IH hl ha;generalize Y9 (n+1) (c :: r) (Box.mk bX bY bW bH)=X at aa ⊢;have ad:(c :: r)[0]?=some c:=rfl;have ae:¬(((c :: r).length:Nat):Int)=0:=by simp only[Kl];omega
    have af:0<(c :: r).length:=by simp
    generalize c :: r=l at *;obtain⟨P,T,⟨cX,cY,cW,cH⟩⟩:=c;simp only[Box.mk.injEq] at hp;cases X with
    | none=>
     unfold plT at aa ⊢;refine cE ?_;simp +contextual -implicitDefEqProofs only[go_sem,seval,YD,ae,af,ad,hp,aa]
    | some bq=>
     obtain⟨qo,qa,qq,qt,qk,eq⟩:=ZdZ bq;simp only[plT,eq] at aa ⊢;cases qk with
     | nil=>
      simp only[plO] at aa ⊢;refine cE ?_;simp +contextual -implicitDefEqProofs only[go_sem,seval,YD,ae,af,ad,hp,aa]
     | cons q1 qr=>
      simp only[plO] at aa ⊢;refine cE ?_;simp +contextual -implicitDefEqProofs only[go_sem,seval,YD,ae,af,ad,hp,aa]
def Zh7 (l:List Box):Prop:=l.Pairwise fun a c=>¬Yt a c
instance (l:List Box):Decidable (Zh7 l):=by unfold Zh7;infer_instance
def ZdJ (k:Zw) (c:L.Place):Prop:=(VB c.Box∧QI c.Box ⟨0,0,k.W,k.H⟩)∧XU k.Panes c.Pane c.Turned c.Box.W c.Box.H=true
instance (k:Zw) (c:L.Place):Decidable (ZdJ k c):=by unfold ZdJ;infer_instance
def VPl (k:Zw) (l:List L.Place):Prop:=(VW k∧l.length≤12)∧(∀ c∈l,ZdJ k c)∧Zh7 (l.map L.Place.Box)
instance (k:Zw) (l:List L.Place):Decidable (VPl k l):=by unfold VPl;infer_instance
theorem Zq7 {a b:Box}:Yt a b↔Yt b a:=by unfold Yt;omega
theorem ZA3 {l:List Box} {i:Nat} {x:Box} (hx:l[i]?=some x) (h:Zh7 (l.take i)) (hn:∀ y∈l.take i,¬Yt x y):Zh7 (l.take (i+1)):=by
 unfold Zh7 at h ⊢;rw[KB,hx,LS];exact⟨h,by simp,fun a ha b hb=>by simp at hb;subst hb;exact fun hm=>hn a ha (Zq7.1 hm)⟩
theorem ZDB {l:List Box} {i j:Nat} {x y:Box} (aa:j<i) (hx:l[i]?=some x) (hy:l[j]?=some y) (hm:Yt x y):¬Zh7 l:=fun h=>by
 obtain⟨h1,rfl⟩:=Kb.1 hx;obtain⟨h2,rfl⟩:=Kb.1 hy;exact(List.pairwise_iff_getElem.1 h) j i h2 h1 aa (Zq7.1 hm)
theorem ZpG (l:List Box) (hv:∀ b∈l,VB b) (hl:l.length≤24):Zd Xs Ms 220 [(.d (.sl (l.map Box.enc)))] []=some ((.d (.bool true)),[]):=by
 have ab:¬(24:Int)<(l.length:Int):=by omega
 refine cE ?_;simp +contextual -implicitDefEqProofs only[go_sem,seval,Zd7,ab];refine LO (α:=Nat) (fun i=>[(10,.d (J (i:Int)))]) (fun _=>[]) (fun i=>i≤l.length) (fun i=>l.length-i) 0 (by omega) ?_;intro i hi ih;by_cases aa:i<l.length
 ·obtain⟨x,hx⟩:=Zp aa;have hw:=Zg (k:=i) (by omega);have hb:=hv x (Kc hx);obtain⟨X,Y,W,H⟩:=x;have e:=Yn X Y W H;rw[Kh hb] at e;simp +contextual -implicitDefEqProofs only[go_sem,seval,hx,aa,hw,e];refine ih (i+1) _ (by omega) (by omega) ?_;simp +contextual -implicitDefEqProofs only[go_sem,seval]
 ·simp +contextual -implicitDefEqProofs only[go_sem,seval,aa]
theorem ZpH (l:List Box) (hv:∀ b∈l,VB b) (hl:l.length≤24):Zd Xs Ms 183 [(.d (.sl (l.map Box.enc)))] []=some ((.d (.bool (decide (Zh7 l)))),[]):=by
 have e1:=ZpG l hv hl;refine cE ?_;simp +contextual -implicitDefEqProofs only[go_sem,seval,Zef,e1];refine LO (α:=Nat) (fun i=>[(14,.d (J (i:Int)))]) (fun _=>[]) (fun i=>i≤l.length∧Zh7 (l.take i)) (fun i=>l.length-i) 0 ⟨by omega,by simp[Zh7]⟩ ?_;intro i ⟨hi,hp⟩ ih;by_cases af:i<l.length
 ·obtain⟨x,hx⟩:=Zp af;have hw:=Zg (k:=i) (by omega);have hb:=hv x (Kc hx);have ai:i≤l.length:=hi;have ab:(l.take i).length=i:=by simp;omega
  have ad:=ZA3 hx hp;obtain⟨X,Y,W,H⟩:=x;simp +contextual -implicitDefEqProofs only[go_sem,seval,hx,af,hw,ai];refine XR Xs Ms (st0:=?st1) (α:=Nat) (fun j=>[(23,.d (J (j:Int)))]) (fun _=>[]) (fun j=>j≤i∧∀ y∈l.take j,¬Yt ⟨X,Y,W,H⟩ y) (fun j=>i-j) 0 ?hc2 ⟨by omega,by simp⟩ ?h02 ?step2
  case hc2=>simp +contextual -implicitDefEqProofs only[go_sem,seval]<;>exact rfl
  case h02=>rfl
  case step2=>
   intro j ⟨hj,hq⟩ aj;by_cases aa:j<i
   ·obtain⟨y,hy⟩:=Zp (l:=l) (k:=j) (by omega);have ag:=Zg (k:=j) (by omega);have ak:=hv y (Kc hy);have ah:(l.take i)[j]?=some y:=by rw[List.getElem?_take_of_lt aa];exact hy
    have ae:=ZDB aa hx hy;have al:l.take (j+1)=l.take j++[y]:=by rw[KB,hy];simp
    obtain⟨X',Y',W',H'⟩:=y;by_cases hm:Yt ⟨X,Y,W,H⟩ ⟨X',Y',W',H'⟩
    ·have e:=ZcF X Y W H X' Y' W' H' hb ak hm;have hn:=ae hm;rw[Kj hn];simp +contextual -implicitDefEqProofs only[go_sem,seval,ah,aa,ab,ag,e,KC,Zij]
    ·have e:=ZeL X Y W H X' Y' W' H' (fun h=>hm h.2.2);simp +contextual -implicitDefEqProofs only[go_sem,seval,ah,aa,ab,ag,e,KC];refine aj (j+1) _ ⟨by omega,?_⟩ (by omega) ?_
     ·rw[al];intro z hz;rcases Ki.1 hz with hz | hz
      ·exact hq z hz
      ·simp at hz;subst hz;exact hm
     ·simp +contextual -implicitDefEqProofs only[go_sem,seval,ab]
   ·have:j=i:=by omega
    subst this;simp +contextual -implicitDefEqProofs only[go_sem,seval,aa,ab,hw,KC];refine ih (j+1) _ ⟨by omega,ad hq⟩ (by omega) ?_;simp +contextual -implicitDefEqProofs only[go_sem,seval]
 ·have:i=l.length:=by omega
  subst this;rw[KJ (Kp _)] at hp;rw[Kh hp];simp +contextual -implicitDefEqProofs only[go_sem,seval]
theorem Znt (kW kH:Int) (kP:List Pane) (l:List L.Place):Zd Xs Ms 125 [(.d (.agg [J kW,J kH,.sl (kP.map Pane.enc)])),(.d (.sl (l.map Place.enc)))] []=some ((.d (.bool (decide (VPl (Zw.mk kW kH kP) l)))),[]):=by
 have ew:=WE kW kH kP;by_cases hw:VW (Zw.mk kW kH kP)
 ·rw[Kh hw] at ew;by_cases af:(12:Int)<(l.length:Int)
  ·have hn:¬VPl (Zw.mk kW kH kP) l:=fun h=>by have:=h.1.2;omega
   refine cE ?_;simp +contextual -implicitDefEqProofs only[go_sem,seval,VY,ew,af,hn]
  ·have es:=ZcG kW kH kP;have ah:l.length≤12:=by omega
   have ai:=hw;simp only[VW] at hw;have aj:VB ⟨0,0,kW,kH⟩:=by simp only[VB];omega
   refine cE ?_;simp +contextual -implicitDefEqProofs only[go_sem,seval,VY,ew,af];refine LO (α:=Nat) (fun i=>[(19,.d (J (i:Int)))]) (fun i=>[(0,.row 4 (((l.take i).map L.Place.Box).map Box.enc) true false)]) (fun i=>i≤l.length∧∀ c∈l.take i,ZdJ (Zw.mk kW kH kP) c) (fun i=>l.length-i) 0 ⟨by omega,by simp⟩ ?_;intro i ⟨hi,hp⟩ ih;by_cases aa:i<l.length
   ·obtain⟨c,hx⟩:=Zp aa;have ab:=Zg (k:=i) (by omega);have ag:l.take (i+1)=l.take i++[c]:=by rw[KB,hx];simp
    have ad:=Kc hx;have am:(l.take i).length≤i:=by simp;omega
    have hr:((l.take i).length+1)*32≤140737488355328∧(l.take i).length≤140737488355327:=by omega
    have ae:¬ZdJ (Zw.mk kW kH kP) c→¬VPl (Zw.mk kW kH kP) l:=fun h h'=>h (h'.2.1 c ad);have ak:ZdJ (Zw.mk kW kH kP) c→∀ z∈l.take (i+1),ZdJ (Zw.mk kW kH kP) z:=fun h z hz=>by
     rw[ag] at hz;rcases Ki.1 hz with hz | hz
     ·exact hp z hz
     ·simp at hz;subst hz;exact h
    obtain⟨P,T,⟨X,Y,W,H⟩⟩:=c;have e1:=Yn X Y W H;have e2:=Za8 X Y W H 0 0 kW kH;have e3:=Zip kW kH kP P T W H;by_cases v1:VB ⟨X,Y,W,H⟩
    ·rw[Kh v1] at e1;by_cases v2:VB ⟨X,Y,W,H⟩∧VB ⟨0,0,kW,kH⟩∧QI ⟨X,Y,W,H⟩ ⟨0,0,kW,kH⟩
     ·rw[Kh v2] at e2;cases v3:XU kP P T W H with
      | true=>
       rw[v3] at e3;have al:ZdJ (Zw.mk kW kH kP) ⟨P,T,⟨X,Y,W,H⟩⟩:=⟨⟨v1,v2.2.2⟩,v3⟩
       simp +contextual -implicitDefEqProofs only[go_sem,seval,hx,aa,ab,e1,e2,e3,es,hr];refine ih (i+1) _ ⟨by omega,ak al⟩ (by omega) ?_;rw[ag,KI];simp +contextual -implicitDefEqProofs only[go_sem,seval,KI]
      | false=>
       rw[v3] at e3;have hn:=ae (fun h=>by have:=h.2;simp only at this;rw[v3] at this;cases this);rw[Kj hn];simp +contextual -implicitDefEqProofs only[go_sem,seval,hx,aa,ab,e1,e2,e3,es]
     ·rw[Kj v2] at e2;have hn:=ae (fun h=>v2 ⟨v1,aj,h.1.2⟩);rw[Kj hn];simp +contextual -implicitDefEqProofs only[go_sem,seval,hx,aa,ab,e1,e2,es]
    ·rw[Kj v1] at e1;have hn:=ae (fun h=>v1 h.1.1);rw[Kj hn];simp +contextual -implicitDefEqProofs only[go_sem,seval,hx,aa,ab,e1]
   ·have:i=l.length:=by omega
    subst this;rw[KJ (Kp _)] at hp ⊢;have ea:=ZpH (l.map L.Place.Box) (fun b hb=>by
     obtain⟨c,hc,rfl⟩:=Li.1 hb;exact(hp c hc).1.1) (by simp;omega)
    simp +contextual -implicitDefEqProofs only[go_sem,seval,ea];exact Zel ⟨fun h=>⟨⟨ai,ah⟩,hp,h⟩,fun h=>h.2.2⟩
 ·rw[Kj hw] at ew;have hn:¬VPl (Zw.mk kW kH kP) l:=fun h=>hw h.1.1;refine cE ?_;simp +contextual -implicitDefEqProofs only[go_sem,seval,VY,ew,hn]
def popL (k:Zw) (l:List L.Place):Option BT:=if VPl k l then Y9 (k.W+k.H).toNat l ⟨0,0,k.W,k.H⟩ else none
theorem ZvB {k:Zw} {l:List L.Place} (h:VPl k l):VB ⟨0,0,k.W,k.H⟩∧InL l ⟨0,0,k.W,k.H⟩∧Apt l∧(∀ c∈l,XU k.Panes c.Pane c.Turned c.Box.W c.Box.H=true):=by
 obtain⟨⟨h1,h2⟩,h3,h4⟩:=h;refine⟨by simp only[VW] at h1;simp only[VB];omega,fun c hc=>(h3 c hc).1,?_,fun c hc=>(h3 c hc).2⟩;unfold Zh7 at h4;rw[List.pairwise_map] at h4;exact h4
theorem Zl0 (kW kH:Int) (kP:List Pane) (l:List L.Place):Zd Xs Ms 85 [(.d (.agg [J kW,J kH,.sl (kP.map Pane.enc)])),(.d (.sl (l.map Place.enc)))] []=some (plT (popL (Zw.mk kW kH kP) l)):=by
 have e1:=Znt kW kH kP l;unfold popL;by_cases hv:VPl (Zw.mk kW kH kP) l
 ·obtain⟨h1,h2,h3,_⟩:=ZvB hv;rw[Kh hv] at e1;rw[Kg hv];have es:=ZcG kW kH kP;have ep:=ZpF (kW+kH).toNat l 0 0 kW kH h1 h2 h3 (Kp _) (by have:=hv.1.2;omega);generalize Y9 (kW+kH).toNat l ⟨0,0,kW,kH⟩=X at ep ⊢;cases X with
  | none=>
   unfold plT at ep ⊢;refine cE ?_;simp +contextual -implicitDefEqProofs only[go_sem,seval,Yw,e1,es,ep]
  | some b=>
   obtain⟨o,a,q,t,ks,eb⟩:=ZdZ b;simp only[plT,eb] at ep ⊢;cases ks with
   | nil=>
    simp only[plO] at ep ⊢;refine cE ?_;simp +contextual -implicitDefEqProofs only[go_sem,seval,Yw,e1,es,ep]
   | cons k1 kr=>
    simp only[plO] at ep ⊢;refine cE ?_;simp +contextual -implicitDefEqProofs only[go_sem,seval,Yw,e1,es,ep]
 ·rw[Kj hv] at e1;rw[Kd hv];unfold plT;refine cE ?_;simp +contextual -implicitDefEqProofs only[go_sem,seval,Yw,e1]
end Go.Proofs.YtfnegoimdljanaaGreatDoor
