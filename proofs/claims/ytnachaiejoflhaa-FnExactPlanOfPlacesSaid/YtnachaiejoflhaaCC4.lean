/- Own text. -/
import Derived.Test.YtnachaiejoflhaaCCode
import Derived.Test.YtnachaiejoflhaaAbsParts
import Derived.Test.YtnachaiejoflhaaCC3
import Derived.Test.YtnachaiejoflhaaAbsOkD
namespace Go.Proofs.Ytnachaiejoflhaa
open Go Go.Abs Go.Abs.E Go.Abs.L
open Nat (reduceMul reduceSub reduceLeDiff reduceEqDiff)
open Int (reduceLE reduceEq reduceToNat reduceNeg)
set_option linter.unusedSimpArgs false
set_option linter.unusedVariables false
set_option maxRecDepth 20000
set_option maxHeartbeats 4000000
def Apt (l:List L.Place):Prop:=l.Pairwise fun a c=>¬Xl a.Box c.Box
theorem Zlt {l:List L.Place} {d:Bool} {t:Int} {f:Bool} (h:Apt l):Apt (ZM d l t f):=List.Pairwise.filter _ h
theorem ZpP {c:L.Place} {r:List L.Place} {b:Box} (ha:Apt (c :: r)) (hl:InL (c :: r) b) (h:c.Box=b):r=[]:=by
 cases r with
 | nil=>rfl
 | cons y r=>
  have h1:=(Lr.1 ha).1 y (by simp);have h2:=hl y (by simp);have h3:=hl c (by simp);rw[h] at h1 h3;simp only[VB,Qp,Xl] at h1 h2 h3;omega
theorem ZmP {l:List L.Place} {b:Box} {d:Bool} {x:Int} (hb:VB b) (h:InL l b) (hx:loP d b<x∧x<hiP d b) (hc:crs d l x=false):∀ c∈l,(VB c.Box∧VB (XV d b (x-loP d b))∧Qp c.Box (XV d b (x-loP d b)))↔hiP d c.Box≤x:=fun c hm=>by
 have h1:=h c hm;have h2:=ZjY hc c hm;have h3:=(Zdm hb h hx hc).1.1;cases d
 ·simp only[loP,hiP,XV,Ka,Kg] at hx h2 h3 ⊢;simp only[VB,Qp] at h1 h3 ⊢;omega
 ·simp only[loP,hiP,XV,Kh] at hx h2 h3 ⊢;simp only[VB,Qp] at h1 h3 ⊢;omega
theorem Zlu (bX bY bW bH:Int) (d:Bool) (a:Int) (hb:VB (Box.mk bX bY bW bH)) (ha:0≤a∧a≤400):Zi Xs Ms Vv [.d (.agg [J (QN d),J a,J 0,.bool false,.sl []]),(.d (.agg [J bX,J bY,J bW,J bH]))] []=some (.tup [.d (XV d (Box.mk bX bY bW bH) a).enc,.d (QW d (Box.mk bX bY bW bH) a).enc],[]):=by
 simp only[VB] at hb;have w1:=wi (bX+a) (by omega) (by omega);have w2:=wi (bY+a) (by omega) (by omega);have w3:=wi (bW-a) (by omega) (by omega);have w4:=wi (bH-a) (by omega) (by omega);cases d
 ·simp only[XV,QW,Box.enc,QN,Ka,Kg];refine cE ?_;simp +contextual -implicitDefEqProofs (maxSteps:=10^7) only[go_sem,seval,↓gZ,WL,w1,w2,w3,w4]
 ·simp only[XV,QW,Box.enc,QN,Kh];refine cE ?_;simp +contextual -implicitDefEqProofs (maxSteps:=10^7) only[go_sem,seval,↓gZ,WL,w1,w2,w3,w4]
def plO:List Zj→Zg
 | []=>.row 5 [] true false
 | k :: r=>.tree 5 5 ((k :: r).map Zj.enc) none
def plT:Option BT→AV×List Zg
 | some b=>match b.plan with
  | .mk o a q t ks=>(.tup [.agg [(.d (J o)),(.d (J a)),(.d (J q)),(.d (.bool t)),.own 0],(.d (.bool true))],[plO ks])
 | none=>(.tup [.agg [(.d (J 0)),(.d (J 0)),(.d (J 0)),(.d (.bool false)),.own 0],(.d (.bool false))],[.row 5 [] true false])
theorem Zg0 (l:List L.Place) (bX bY bW bH:Int) (p q:Bool→Int→Option BT) (hb:VB (Box.mk bX bY bW bH)) (hl:InL l (Box.mk bX bY bW bH)) (aa:l.length≤1000)
  (h1:∀ d x,VI l (Box.mk bX bY bW bH)=some (d,x)→Zi Xs Ms Qw [.d (.sl ((ZM d l x true).map Place.enc)),.d (XV d (Box.mk bX bY bW bH) (x-loP d (Box.mk bX bY bW bH))).enc] []=some (plT (p d x)))
  (h2:∀ d x,VI l (Box.mk bX bY bW bH)=some (d,x)→Zi Xs Ms Qw [.d (.sl ((ZM d l x false).map Place.enc)),.d (QW d (Box.mk bX bY bW bH) (x-loP d (Box.mk bX bY bW bH))).enc] []=some (plT (q d x))) :
  Zi Xs Ms YO [(.d (.sl (l.map Place.enc))),(.d (.agg [J bX,J bY,J bW,J bH]))] []=some (plT (match VI l (Box.mk bX bY bW bH) with
   | some (d,x)=>Uh d (x-loP d (Box.mk bX bY bW bH)) (p d x) (q d x)
   | none=>none)):=by
 have ef:=ZhC l bX bY bW bH hb aa (fun c hc=>(hl c hc).1);cases hc:VI l (Box.mk bX bY bW bH) with
 | none=>
  rw[hc] at ef;unfold Zi2 at ef;unfold plT;refine cE ?_;simp +contextual -implicitDefEqProofs (maxSteps:=10^7) only[go_sem,seval,↓gZ,V8,ef]
 | some dx=>
  obtain⟨d,x⟩:=dx;obtain⟨g1,g2,g3⟩:=Ui hc;have af:=ZmP hb hl ⟨g1,g2⟩ g3;have k1:=h1 d x hc;have k2:=h2 d x hc;simp only[hc,Zi2] at ef;simp only;have ae:0≤x-loP d (Box.mk bX bY bW bH)∧x-loP d (Box.mk bX bY bW bH)≤400:=by
   simp only[VB] at hb;cases d<;>simp only[loP,hiP,Kh,Ka,Kg] at g1 g2 ⊢ <;> omega
  have es:=Zlu bX bY bW bH d (x-loP d (Box.mk bX bY bW bH)) hb ae;generalize x-loP d (Box.mk bX bY bW bH)=a at *;generalize p d x=p0 at k1 ⊢;generalize q d x=q0 at k2 ⊢;generalize XV d (Box.mk bX bY bW bH) a=lb at *;generalize QW d (Box.mk bX bY bW bH) a=hb' at *;clear h1 h2 ae g1 g2 g3 hc;obtain⟨lX,lY,lW,lH⟩:=lb;obtain⟨hX,hY,hW,hH⟩:=hb';simp only[Box.enc] at es k1 k2;refine cE ?_;simp +contextual -implicitDefEqProofs (maxSteps:=10^7) only[go_sem,seval,↓gZ,V8,ef,es];refine LO (α:=Nat) (fun i=>[(33,.d (J (i:Int)))]) (fun i=>[(0,.row 6 ((ZM d (l.take i) x false).map Place.enc) true false),(1,.row 6 ((ZM d (l.take i) x true).map Place.enc) true false)]) (fun i=>i≤l.length) (fun i=>l.length-i) 0 (by omega) ?_
  intro i hi ih;by_cases ab:i<l.length
  ·obtain⟨c,hx⟩:=Qt ab;have hw:=ZB (k:=i) (by omega);have pt:=Zcm (d:=d) (t:=x) (f:=true) hx;have pf:=Zcm (d:=d) (t:=x) (f:=false) hx;have ad:=af c (Ki hx);have ag:(ZM d (l.take i) x true).length≤i:=K7 (LF _ _) (by simp;omega);have ah:(ZM d (l.take i) x false).length≤i:=K7 (LF _ _) (by simp;omega);have rt:((ZM d (l.take i) x true).length+1)*48≤140737488355328∧(ZM d (l.take i) x true).length≤140737488355327:=by omega
   have rf:((ZM d (l.take i) x false).length+1)*48≤140737488355328∧(ZM d (l.take i) x false).length≤140737488355327:=by omega
   obtain⟨P,T,⟨X,Y,W,H⟩⟩:=c;have ei:=ZbP X Y W H lX lY lW lH;simp only at pt pf ad;by_cases hh:hiP d ⟨X,Y,W,H⟩≤x
   ·rw[Kz (ad.2 hh)] at ei;rw[Kz hh] at pt pf;rw[Ko rfl] at pt;rw[Kk (by simp)] at pf;simp +contextual -implicitDefEqProofs (maxSteps:=10^7) only[go_sem,seval,↓gZ,hx,ab,hw,ei,rt];refine ih (i+1) _ (by omega) (by omega) ?_;rw[pt,pf];simp +contextual -implicitDefEqProofs (maxSteps:=10^7) only[go_sem,seval,↓gZ,KS,KY]
   ·rw[Kp (fun h=>hh (ad.1 h))] at ei;rw[Kp hh] at pt pf;rw[Kk (by simp)] at pt;rw[Ko rfl] at pf;simp +contextual -implicitDefEqProofs (maxSteps:=10^7) only[go_sem,seval,↓gZ,hx,ab,hw,ei,rf];refine ih (i+1) _ (by omega) (by omega) ?_;rw[pt,pf];simp +contextual -implicitDefEqProofs (maxSteps:=10^7) only[go_sem,seval,↓gZ,KS,KY]
  ·have:i=l.length:=by omega
   subst this;rw[Ky (Ke _)];cases p0 with
   | none=>
    unfold plT at k1;simp only[Uh];unfold plT;simp +contextual -implicitDefEqProofs (maxSteps:=10^7) only[go_sem,seval,↓gZ,k1]
   | some bp=>
    obtain⟨po,pa,pq,pt,pk,ep⟩:=Wf bp;simp only[plT,ep] at k1;cases q0 with
    | none=>
     unfold plT at k2;simp only[Uh];unfold plT;cases pk with
     | nil=>
      simp only[plO] at k1;simp +contextual -implicitDefEqProofs (maxSteps:=10^7) only[go_sem,seval,↓gZ,k1,k2]
     | cons p1 pr=>
      simp only[plO] at k1;simp +contextual -implicitDefEqProofs (maxSteps:=10^7) only[go_sem,seval,↓gZ,k1,k2]
    | some bq=>
     obtain⟨qo,qa,qq,qt,qk,eq⟩:=Wf bq;simp only[plT,eq] at k2;simp only[Uh,plT,BT.plan,ep,eq,plO];cases pk with
     | nil=>
      simp only[plO] at k1;cases qk with
      | nil=>
       simp only[plO] at k2;simp +contextual -implicitDefEqProofs (maxSteps:=10^7) only[go_sem,seval,↓gZ,k1,k2]
      | cons q1 qr=>
       simp only[plO] at k2;simp +contextual -implicitDefEqProofs (maxSteps:=10^7) only[go_sem,seval,↓gZ,k1,k2]
     | cons p1 pr=>
      simp only[plO] at k1;cases qk with
      | nil=>
       simp only[plO] at k2;simp +contextual -implicitDefEqProofs (maxSteps:=10^7) only[go_sem,seval,↓gZ,k1,k2]
      | cons q1 qr=>
       simp only[plO] at k2;simp +contextual -implicitDefEqProofs (maxSteps:=10^7) only[go_sem,seval,↓gZ,k1,k2]
theorem ZeY:∀ (n:Nat) (l:List L.Place) (bX bY bW bH:Int),VB (Box.mk bX bY bW bH)→InL l (Box.mk bX bY bW bH)→Apt l→(bW+bH).toNat≤n→l.length≤1000→Zi Xs Ms Qw [(.d (.sl (l.map Place.enc))),(.d (.agg [J bX,J bY,J bW,J bH]))] []=some (plT (QS n l (Box.mk bX bY bW bH))):=by
 intro n
 induction n with
 | zero=>
  intro l bX bY bW bH hb _ _ hn _;simp only[VB] at hb;omega
 | succ n IH=>
  intro l bX bY bW bH hb hl ha hn ab;cases l with
  | nil=>
   simp only[QS,plT,plO,BT.plan];refine cE ?_;simp +contextual -implicitDefEqProofs (maxSteps:=10^7) only[go_sem,seval,↓gZ,Q7]
  | cons c r=>
   by_cases hp:c.Box=(Box.mk bX bY bW bH)
   ·have hr:=ZpP ha hl hp;subst hr;obtain⟨P,T,⟨X,Y,W,H⟩⟩:=c;simp only at hp;have ag:QS (n+1) [⟨P,T,⟨X,Y,W,H⟩⟩] (Box.mk bX bY bW bH)=some (.pane P T):=by rw[QS,Ko ⟨rfl,hp⟩]
    rw[ag];simp only[Box.mk.injEq] at hp;obtain⟨rfl,rfl,rfl,rfl⟩:=hp;simp only[plT,plO,BT.plan];refine cE ?_;simp +contextual -implicitDefEqProofs (maxSteps:=10^7) only[go_sem,seval,↓gZ,Q7]
   ·have aa:=Zg0 (c :: r) bX bY bW bH (fun d x=>QS n (ZM d (c :: r) x true) (XV d (Box.mk bX bY bW bH) (x-loP d (Box.mk bX bY bW bH)))) (fun d x=>QS n (ZM d (c :: r) x false) (QW d (Box.mk bX bY bW bH) (x-loP d (Box.mk bX bY bW bH)))) hb hl ab
     (fun d x h=>by
      obtain⟨h1,h2,h3⟩:=Ui h;obtain⟨⟨g1,g2⟩,g3,g4⟩:=Zdm hb hl ⟨h1,h2⟩ h3;obtain⟨s1,s2⟩:=ZgZ hb ⟨h1,h2⟩;simp only at s1 s2;exact IH _ _ _ _ _ g1 g2 (Zlt ha) (by omega) (K7 (Zbu _ _ _ _) ab))
     (fun d x h=>by
      obtain⟨h1,h2,h3⟩:=Ui h;obtain⟨⟨g1,g2⟩,g3,g4⟩:=Zdm hb hl ⟨h1,h2⟩ h3;obtain⟨s1,s2⟩:=ZgZ hb ⟨h1,h2⟩;simp only at s1 s2;exact IH _ _ _ _ _ g3 g4 (Zlt ha) (by omega) (K7 (Zbu _ _ _ _) ab))
    have hX:QS (n+1) (c :: r) (Box.mk bX bY bW bH)=match VI (c :: r) (Box.mk bX bY bW bH) with
     | some (d,x)=>Uh d (x-loP d (Box.mk bX bY bW bH)) (QS n (ZM d (c :: r) x true) (XV d (Box.mk bX bY bW bH) (x-loP d (Box.mk bX bY bW bH)))) (QS n (ZM d (c :: r) x false) (QW d (Box.mk bX bY bW bH) (x-loP d (Box.mk bX bY bW bH))))
     | none=>none:=by rw[QS,Kk (fun h=>hp h.2)];try rfl
    rw[← hX] at aa;clear hX IH hl ha;generalize QS (n+1) (c :: r) (Box.mk bX bY bW bH)=X at aa ⊢;have ad:(c :: r)[0]?=some c:=rfl;have ae:¬(((c :: r).length:Nat):Int)=0:=by simp only[KC];omega
    have af:0<(c :: r).length:=by simp
    generalize c :: r=l at *;obtain⟨P,T,⟨cX,cY,cW,cH⟩⟩:=c;simp only[Box.mk.injEq] at hp;cases X with
    | none=>
     unfold plT at aa ⊢;refine cE ?_;simp +contextual -implicitDefEqProofs (maxSteps:=10^7) only[go_sem,seval,↓gZ,Q7,ae,af,ad,hp,aa]
    | some bq=>
     obtain⟨qo,qa,qq,qt,qk,eq⟩:=Wf bq;simp only[plT,eq] at aa ⊢;cases qk with
     | nil=>
      simp only[plO] at aa ⊢;refine cE ?_;simp +contextual -implicitDefEqProofs (maxSteps:=10^7) only[go_sem,seval,↓gZ,Q7,ae,af,ad,hp,aa]
     | cons q1 qr=>
      simp only[plO] at aa ⊢;refine cE ?_;simp +contextual -implicitDefEqProofs (maxSteps:=10^7) only[go_sem,seval,↓gZ,Q7,ae,af,ad,hp,aa]
def UG (l:List Box):Prop:=l.Pairwise fun a c=>¬Xl a c
instance (l:List Box):Decidable (UG l):=by unfold UG;infer_instance
def Jk (k:Qs) (c:L.Place):Prop:=(VB c.Box∧Qp c.Box ⟨0,0,k.W,k.H⟩)∧Xt k.Panes c.Pane c.Turned c.Box.W c.Box.H=true
instance (k:Qs) (c:L.Place):Decidable (Jk k c):=by unfold Jk;infer_instance
def VPl (k:Qs) (l:List L.Place):Prop:=(VW k∧l.length≤12)∧(∀ c∈l,Jk k c)∧UG (l.map L.Place.Box)
instance (k:Qs) (l:List L.Place):Decidable (VPl k l):=by unfold VPl;infer_instance
theorem Zg1 {a b:Box}:Xl a b↔Xl b a:=by unfold Xl;omega
theorem Zg2 {l:List Box} {i:Nat} {x:Box} (hx:l[i]?=some x) (h:UG (l.take i)) (hn:∀ y∈l.take i,¬Xl x y):UG (l.take (i+1)):=by
 unfold UG at h ⊢;rw[KG,hx,Lm];exact⟨h,by simp,fun a ha b hb=>by simp at hb;subst hb;exact fun hm=>hn a ha (Zg1.1 hm)⟩
theorem Zi3 {l:List Box} {i j:Nat} {x y:Box} (aa:j<i) (hx:l[i]?=some x) (hy:l[j]?=some y) (hm:Xl x y):¬UG l:=fun h=>by
 obtain⟨h1,rfl⟩:=Kd.1 hx;obtain⟨h2,rfl⟩:=Kd.1 hy;exact(List.pairwise_iff_getElem.1 h) j i h2 h1 aa (Zg1.1 hm)
theorem ZeZ (l:List Box) (hv:∀ b∈l,VB b) (hl:l.length≤24):Zi Xs Ms Yo [(.d (.sl (l.map Box.enc)))] []=some ((.d (.bool true)),[]):=by
 have ab:¬(24:Int)<(l.length:Int):=by omega
 refine cE ?_;simp +contextual -implicitDefEqProofs (maxSteps:=10^7) only[go_sem,seval,↓gZ,Uq,ab];refine LO (α:=Nat) (fun i=>[(10,.d (J (i:Int)))]) (fun _=>[]) (fun i=>i≤l.length) (fun i=>l.length-i) 0 (by omega) ?_;intro i hi ih;by_cases aa:i<l.length
 ·obtain⟨x,hx⟩:=Qt aa;have hw:=ZB (k:=i) (by omega);have hb:=hv x (Ki hx);obtain⟨X,Y,W,H⟩:=x;have e:=XP X Y W H;rw[Kz hb] at e;simp +contextual -implicitDefEqProofs (maxSteps:=10^7) only[go_sem,seval,↓gZ,hx,aa,hw,e];refine ih (i+1) _ (by omega) (by omega) ?_;simp +contextual -implicitDefEqProofs (maxSteps:=10^7) only[go_sem,seval,↓gZ]
 ·simp +contextual -implicitDefEqProofs (maxSteps:=10^7) only[go_sem,seval,↓gZ,aa]
theorem Ze0 (l:List Box) (hv:∀ b∈l,VB b) (hl:l.length≤24):Zi Xs Ms Ym [(.d (.sl (l.map Box.enc)))] []=some ((.d (.bool (decide (UG l)))),[]):=by
 have e1:=ZeZ l hv hl;refine cE ?_;simp +contextual -implicitDefEqProofs (maxSteps:=10^7) only[go_sem,seval,↓gZ,Uo,e1];refine LO (α:=Nat) (fun i=>[(14,.d (J (i:Int)))]) (fun _=>[]) (fun i=>i≤l.length∧UG (l.take i)) (fun i=>l.length-i) 0 ⟨by omega,by simp[UG]⟩ ?_;intro i ⟨hi,hp⟩ ih;by_cases af:i<l.length
 ·obtain⟨x,hx⟩:=Qt af;have hw:=ZB (k:=i) (by omega);have hb:=hv x (Ki hx);have ai:i≤l.length:=hi;have ab:(l.take i).length=i:=by simp;omega
  have ad:=Zg2 hx hp;obtain⟨X,Y,W,H⟩:=x;simp +contextual -implicitDefEqProofs (maxSteps:=10^7) only[go_sem,seval,↓gZ,hx,af,hw,ai];refine Xc Xs Ms (st0:=?st1) (α:=Nat) (fun j=>[(23,.d (J (j:Int)))]) (fun _=>[]) (fun j=>j≤i∧∀ y∈l.take j,¬Xl ⟨X,Y,W,H⟩ y) (fun j=>i-j) 0 ?hc2 ⟨by omega,by simp⟩ ?h02 ?step2
  case hc2=>simp +contextual -implicitDefEqProofs (maxSteps:=10^7) only[go_sem,seval,↓gZ]<;>exact rfl
  case h02=>rfl
  case step2=>
   intro j ⟨hj,hq⟩ aj;by_cases aa:j<i
   ·obtain⟨y,hy⟩:=Qt (l:=l) (k:=j) (by omega);have ag:=ZB (k:=j) (by omega);have ak:=hv y (Ki hy);have ah:(l.take i)[j]?=some y:=by rw[List.getElem?_take_of_lt aa];exact hy
    have ae:=Zi3 aa hx hy;have al:l.take (j+1)=l.take j++[y]:=by rw[KG,hy];simp
    obtain⟨X',Y',W',H'⟩:=y;by_cases hm:Xl ⟨X,Y,W,H⟩ ⟨X',Y',W',H'⟩
    ·have e:=Zdi X Y W H X' Y' W' H' hb ak hm;have hn:=ae hm;rw[Kp hn];simp +contextual -implicitDefEqProofs (maxSteps:=10^7) only[go_sem,seval,↓gZ,ah,aa,ab,ag,e,KH,ZcN]
    ·have e:=ZeN X Y W H X' Y' W' H' (fun h=>hm h.2.2);simp +contextual -implicitDefEqProofs (maxSteps:=10^7) only[go_sem,seval,↓gZ,ah,aa,ab,ag,e,KH];refine aj (j+1) _ ⟨by omega,?_⟩ (by omega) ?_
     ·rw[al];intro z hz;rcases Kc.1 hz with hz | hz
      ·exact hq z hz
      ·simp at hz;subst hz;exact hm
     ·simp +contextual -implicitDefEqProofs (maxSteps:=10^7) only[go_sem,seval,↓gZ,ab]
   ·have:j=i:=by omega
    subst this;simp +contextual -implicitDefEqProofs (maxSteps:=10^7) only[go_sem,seval,↓gZ,aa,ab,hw,KH];refine ih (j+1) _ ⟨by omega,ad hq⟩ (by omega) ?_;simp +contextual -implicitDefEqProofs (maxSteps:=10^7) only[go_sem,seval,↓gZ]
 ·have:i=l.length:=by omega
  subst this;rw[Ky (Ke _)] at hp;rw[Kz hp];simp +contextual -implicitDefEqProofs (maxSteps:=10^7) only[go_sem,seval,↓gZ]
theorem ZmQ (l:List Box) (hv:∀ b∈l,VB b) (hl:l.length≤1048576):Zi Xs Ms Jn [(.d (.sl (l.map Box.enc)))] []=some ((.d (.bool (decide (UG l)))),[]):=by
 refine cE ?_;simp +contextual -implicitDefEqProofs (maxSteps:=10^7) only[go_sem,seval,↓gZ,Zd6];refine LO (α:=Nat) (fun i=>[(3,.d (J (i:Int)))]) (fun _=>[]) (fun i=>i≤l.length∧UG (l.take i)) (fun i=>l.length-i) 0 ⟨by omega,by simp[UG]⟩ ?_;intro i ⟨hi,hp⟩ ih;by_cases aa:i<l.length
 ·obtain⟨x,hx⟩:=Qt aa;have hw:=ZB (k:=i) (by omega);have hb:=hv x (Ki hx);have ad:=Zg2 hx hp;obtain⟨X,Y,W,H⟩:=x;simp +contextual -implicitDefEqProofs (maxSteps:=10^7) only[go_sem,seval,↓gZ,aa];refine Xc Xs Ms (st0:=?st1) (α:=Nat) (fun j=>[(4,.d (J (j:Int)))]) (fun _=>[]) (fun j=>j≤i∧∀ y∈l.take j,¬Xl ⟨X,Y,W,H⟩ y) (fun j=>i-j) 0 ?hc2 ⟨by omega,by simp⟩ ?h02 ?step2
  case hc2=>simp +contextual -implicitDefEqProofs (maxSteps:=10^7) only[go_sem,seval,↓gZ]<;>exact rfl
  case h02=>rfl
  case step2=>
   intro j ⟨hj,hq⟩ ai;by_cases ab:j<i
   ·obtain⟨y,hy⟩:=Qt (l:=l) (k:=j) (by omega);have af:j<l.length:=by omega
    have ag:=ZB (k:=j) (by omega);have ah:=hv y (Ki hy);have ae:=Zi3 ab hx hy;have aj:l.take (j+1)=l.take j++[y]:=by rw[KG,hy];simp
    obtain⟨X',Y',W',H'⟩:=y;by_cases hm:Xl ⟨X,Y,W,H⟩ ⟨X',Y',W',H'⟩
    ·have e:=ZjU X Y W H X' Y' W' H' hb ah hm;have hn:=ae hm;rw[Kp hn];simp +contextual -implicitDefEqProofs (maxSteps:=10^7) only[go_sem,seval,↓gZ,hx,hy,aa,ab,af,ag,e,ZcN]
    ·have e:=Zll X Y W H X' Y' W' H' hb ah hm;simp +contextual -implicitDefEqProofs (maxSteps:=10^7) only[go_sem,seval,↓gZ,hx,hy,aa,ab,af,ag,e];refine ai (j+1) _ ⟨by omega,?_⟩ (by omega) ?_
     ·rw[aj];intro z hz;rcases Kc.1 hz with hz | hz
      ·exact hq z hz
      ·simp at hz;subst hz;exact hm
     ·simp +contextual -implicitDefEqProofs (maxSteps:=10^7) only[go_sem,seval,↓gZ]
   ·have:j=i:=by omega
    subst this;simp +contextual -implicitDefEqProofs (maxSteps:=10^7) only[go_sem,seval,↓gZ,ab,hw];refine ih (j+1) _ ⟨by omega,ad hq⟩ (by omega) ?_;simp +contextual -implicitDefEqProofs (maxSteps:=10^7) only[go_sem,seval,↓gZ]
 ·have:i=l.length:=by omega
  subst this;rw[Ky (Ke _)] at hp;rw[Kz hp];simp +contextual -implicitDefEqProofs (maxSteps:=10^7) only[go_sem,seval,↓gZ]
theorem Zd0 (kW kH:Int) (kP:List Pane) (l:List L.Place):Zi Xs Ms XL [(.d (.agg [J kW,J kH,.sl (kP.map Pane.enc)])),(.d (.sl (l.map Place.enc)))] []=some ((.d (.bool (decide (VPl (Qs.mk kW kH kP) l)))),[]):=by
 have ew:=ZgT kW kH kP;by_cases hw:VW (Qs.mk kW kH kP)
 ·rw[Kz hw] at ew;by_cases af:(12:Int)<(l.length:Int)
  ·have hn:¬VPl (Qs.mk kW kH kP) l:=fun h=>by have:=h.1.2;omega
   refine cE ?_;simp +contextual -implicitDefEqProofs (maxSteps:=10^7) only[go_sem,seval,↓gZ,XM,ew,af,hn]
  ·have es:=Zdj kW kH kP;have ah:l.length≤12:=by omega
   have ai:=hw;simp only[VW] at hw;have aj:VB ⟨0,0,kW,kH⟩:=by simp only[VB];omega
   refine cE ?_;simp +contextual -implicitDefEqProofs (maxSteps:=10^7) only[go_sem,seval,↓gZ,XM,ew,af];refine LO (α:=Nat) (fun i=>[(19,.d (J (i:Int)))]) (fun i=>[(0,.row 4 (((l.take i).map L.Place.Box).map Box.enc) true false)]) (fun i=>i≤l.length∧∀ c∈l.take i,Jk (Qs.mk kW kH kP) c) (fun i=>l.length-i) 0 ⟨by omega,by simp⟩ ?_;intro i ⟨hi,hp⟩ ih;by_cases aa:i<l.length
   ·obtain⟨c,hx⟩:=Qt aa;have ab:=ZB (k:=i) (by omega);have ag:l.take (i+1)=l.take i++[c]:=by rw[KG,hx];simp
    have ad:=Ki hx;have am:(l.take i).length≤i:=by simp;omega
    have hr:((l.take i).length+1)*32≤140737488355328∧(l.take i).length≤140737488355327:=by omega
    have ae:¬Jk (Qs.mk kW kH kP) c→¬VPl (Qs.mk kW kH kP) l:=fun h h'=>h (h'.2.1 c ad);have ak:Jk (Qs.mk kW kH kP) c→∀ z∈l.take (i+1),Jk (Qs.mk kW kH kP) z:=fun h z hz=>by
     rw[ag] at hz;rcases Kc.1 hz with hz | hz
     ·exact hp z hz
     ·simp at hz;subst hz;exact h
    obtain⟨P,T,⟨X,Y,W,H⟩⟩:=c;have e1:=XP X Y W H;have e2:=ZbP X Y W H 0 0 kW kH;have e3:=ZgU kW kH kP P T W H;by_cases v1:VB ⟨X,Y,W,H⟩
    ·rw[Kz v1] at e1;by_cases v2:VB ⟨X,Y,W,H⟩∧VB ⟨0,0,kW,kH⟩∧Qp ⟨X,Y,W,H⟩ ⟨0,0,kW,kH⟩
     ·rw[Kz v2] at e2;cases v3:Xt kP P T W H with
      | true=>
       rw[v3] at e3;have al:Jk (Qs.mk kW kH kP) ⟨P,T,⟨X,Y,W,H⟩⟩:=⟨⟨v1,v2.2.2⟩,v3⟩
       simp +contextual -implicitDefEqProofs (maxSteps:=10^7) only[go_sem,seval,↓gZ,hx,aa,ab,e1,e2,e3,es,hr];refine ih (i+1) _ ⟨by omega,ak al⟩ (by omega) ?_;rw[ag,KS];simp +contextual -implicitDefEqProofs (maxSteps:=10^7) only[go_sem,seval,↓gZ,KS]
      | false=>
       rw[v3] at e3;have hn:=ae (fun h=>by have:=h.2;simp only at this;rw[v3] at this;cases this);rw[Kp hn];simp +contextual -implicitDefEqProofs (maxSteps:=10^7) only[go_sem,seval,↓gZ,hx,aa,ab,e1,e2,e3,es]
     ·rw[Kp v2] at e2;have hn:=ae (fun h=>v2 ⟨v1,aj,h.1.2⟩);rw[Kp hn];simp +contextual -implicitDefEqProofs (maxSteps:=10^7) only[go_sem,seval,↓gZ,hx,aa,ab,e1,e2,es]
    ·rw[Kp v1] at e1;have hn:=ae (fun h=>v1 h.1.1);rw[Kp hn];simp +contextual -implicitDefEqProofs (maxSteps:=10^7) only[go_sem,seval,↓gZ,hx,aa,ab,e1]
   ·have:i=l.length:=by omega
    subst this;rw[Ky (Ke _)] at hp ⊢;have ea:=Ze0 (l.map L.Place.Box) (fun b hb=>by
     obtain⟨c,hc,rfl⟩:=KZ.1 hb;exact(hp c hc).1.1) (by simp;omega)
    simp +contextual -implicitDefEqProofs (maxSteps:=10^7) only[go_sem,seval,↓gZ,ea];exact ZbL ⟨fun h=>⟨⟨ai,ah⟩,hp,h⟩,fun h=>h.2.2⟩
 ·rw[Kp hw] at ew;have hn:¬VPl (Qs.mk kW kH kP) l:=fun h=>hw h.1.1;refine cE ?_;simp +contextual -implicitDefEqProofs (maxSteps:=10^7) only[go_sem,seval,↓gZ,XM,ew,hn]
theorem Zd1 (kW kH:Int) (kP:List Pane) (l:List L.Place) (hk:I64 kW∧I64 kH) (hP:kP.length≤1048576) (hl:l.length≤1048576):Zi Xs Ms XK [(.d (.agg [J kW,J kH,.sl (kP.map Pane.enc)])),(.d (.sl (l.map Place.enc)))] []=some ((.d (.bool (decide (VPl (Qs.mk kW kH kP) l)))),[]):=by
 have ew:=ZgS kW kH kP (by omega);obtain⟨⟨ai,aj⟩,ak,al⟩:=hk;refine cE ?_;simp +contextual -implicitDefEqProofs (maxSteps:=10^7) only[go_sem,seval,↓gZ,Wv];refine LO (α:=Nat) (fun i=>[(6,.d (J (i:Int)))]) (fun i=>[(0,.row 4 (((l.take i).map L.Place.Box).map Box.enc) true false)]) (fun i=>i≤l.length∧∀ c∈l.take i,Jk (Qs.mk kW kH kP) c) (fun i=>l.length-i) 0 ⟨by omega,by simp⟩ ?_;intro i ⟨hi,hp⟩ ih;by_cases aa:i<l.length
 ·obtain⟨c,hx⟩:=Qt aa;have ab:=ZB (k:=i) (by omega);have af:l.take (i+1)=l.take i++[c]:=by rw[KG,hx];simp
  have ad:=Ki hx;have am:(l.take i).length≤i:=by simp;omega
  have hr:((l.take i).length+1)*32≤140737488355328∧(l.take i).length≤140737488355327:=by omega
  have ae:¬Jk (Qs.mk kW kH kP) c→¬VPl (Qs.mk kW kH kP) l:=fun h h'=>h (h'.2.1 c ad);have ag:Jk (Qs.mk kW kH kP) c→∀ z∈l.take (i+1),Jk (Qs.mk kW kH kP) z:=fun h z hz=>by
   rw[af] at hz;rcases Kc.1 hz with hz | hz
   ·exact hp z hz
   ·simp at hz;subst hz;exact h
  obtain⟨P,T,⟨X,Y,W,H⟩⟩:=c;have e1:=Zhy X Y W H;by_cases v1:VB ⟨X,Y,W,H⟩
  ·rw[Kz v1] at e1;have e2:=Zhz X Y W H 0 0 kW kH v1 (by unfold R64;omega) (by unfold R64;omega) (by unfold R64;omega) (by unfold R64;omega);have e3:=YK kW kH kP (by omega) (.pane P T) W H (by simp only[VB] at v1;omega) (by simp only[VB] at v1;omega) (by simp only[VB] at v1;omega) (by simp only[VB] at v1;omega);simp only[BT.plan,Zj.enc_mk,Lv,Vc] at e3;by_cases v2:Qp ⟨X,Y,W,H⟩ ⟨0,0,kW,kH⟩
   ·rw[Kz v2] at e2;cases v3:Xt kP P T W H with
    | true=>
     rw[v3] at e3;have ah:Jk (Qs.mk kW kH kP) ⟨P,T,⟨X,Y,W,H⟩⟩:=⟨⟨v1,v2⟩,v3⟩
     simp +contextual -implicitDefEqProofs (maxSteps:=10^7) only[go_sem,seval,↓gZ,hx,aa,ab,e1,e2,e3,hr];refine ih (i+1) _ ⟨by omega,ag ah⟩ (by omega) ?_;rw[af,KS];simp +contextual -implicitDefEqProofs (maxSteps:=10^7) only[go_sem,seval,↓gZ,KS]
    | false=>
     rw[v3] at e3;have hn:=ae (fun h=>by have:=h.2;simp only at this;rw[v3] at this;cases this);rw[Kp hn];simp +contextual -implicitDefEqProofs (maxSteps:=10^7) only[go_sem,seval,↓gZ,hx,aa,ab,e1,e2,e3]
   ·rw[Kp v2] at e2;have hn:=ae (fun h=>v2 h.1.2);rw[Kp hn];simp +contextual -implicitDefEqProofs (maxSteps:=10^7) only[go_sem,seval,↓gZ,hx,aa,ab,e1,e2]
  ·rw[Kp v1] at e1;have hn:=ae (fun h=>v1 h.1.1);rw[Kp hn];simp +contextual -implicitDefEqProofs (maxSteps:=10^7) only[go_sem,seval,↓gZ,hx,aa,ab,e1]
 ·have:i=l.length:=by omega
  subst this;rw[Ky (Ke _)] at hp ⊢;have ea:=ZmQ (l.map L.Place.Box) (fun b hb=>by
   obtain⟨c,hc,rfl⟩:=KZ.1 hb;exact(hp c hc).1.1) (by simp;omega)
  by_cases v1:VW (Qs.mk kW kH kP)
  ·rw[Kz v1] at ew;by_cases v2:(l.length:Int)≤12
   ·simp +contextual -implicitDefEqProofs (maxSteps:=10^7) only[go_sem,seval,↓gZ,ea,ew,v2];exact ZbL ⟨fun h=>⟨⟨v1,by omega⟩,hp,h⟩,fun h=>h.2.2⟩
   ·have hn:¬VPl (Qs.mk kW kH kP) l:=fun h=>by have:=h.1.2;omega
    rw[Kp hn];simp +contextual -implicitDefEqProofs (maxSteps:=10^7) only[go_sem,seval,↓gZ,ew,v2]
  ·rw[Kp v1] at ew;have hn:¬VPl (Qs.mk kW kH kP) l:=fun h=>v1 h.1.1;rw[Kp hn];simp +contextual -implicitDefEqProofs (maxSteps:=10^7) only[go_sem,seval,↓gZ,ew]
def ZhD:BT→Bool
 | .waste=>false
 | .pane _ _=>true
 | .cut _ _ l r=>ZhD l || ZhD r
def ZeP:BT→Nat
 | .waste=>0
 | .pane _ _=>0
 | .cut _ _ l r=>1+ZeP l+ZeP r
theorem Zg3:∀ (b:BT),b.cnt=2*ZeP b+1
 | .waste=>rfl
 | .pane _ _=>rfl
 | .cut _ _ l r=>by simp only[BT.cnt,ZeP,Zg3 l,Zg3 r];omega
def Zg4 (b c:Box):Nat:=(if b.X<c.X then 1 else 0)+(if c.X+c.W<b.X+b.W then 1 else 0)+(if b.Y<c.Y then 1 else 0)+(if c.Y+c.H<b.Y+b.H then 1 else 0)
def pot (b:Box):List L.Place→Nat
 | []=>0
 | c :: l=>Zg4 b c.Box+pot b l
theorem Zrb (b c:Box):Zg4 b c≤4:=by
 unfold Zg4;split<;>split<;>split<;>split<;>omega
theorem ZpQ (b:Box):∀ (l:List L.Place),pot b l≤4*l.length
 | []=>by simp[pot]
 | c :: l=>by
  have h1:=Zrb b c.Box;have h2:=ZpQ b l;simp only[pot,KC];omega
theorem ZpR {b c:Box} {d:Bool} {x:Int} (hc:VB c) (hi:Qp c b) (hx:loP d b<x∧x<hiP d b) (h:hiP d c≤x) :
  Zg4 (XV d b (x-loP d b)) c+(if x=loP d c∨x=hiP d c then 1 else 0)≤Zg4 b c:=by
 simp only[VB] at hc;simp only[Qp] at hi;cases d
 ·simp only[loP,hiP,XV,Zg4,Ka,Kg] at hx h ⊢;have e:b.Y+(x-b.Y)=x:=by omega
  rw[e];by_cases h1:c.Y+c.H<x
  ·rw[Ko h1,Kk (show ¬(x=c.Y∨x=c.Y+c.H) by omega),Ko (show c.Y+c.H<b.Y+b.H by omega)];omega
  ·rw[Kk h1,Ko (show c.Y+c.H<b.Y+b.H by omega)];have hb1:(if x=c.Y∨x=c.Y+c.H then 1 else 0:Nat)≤1:=by split<;>omega
   omega
 ·simp only[loP,hiP,XV,Zg4,Kh] at hx h ⊢;have e:b.X+(x-b.X)=x:=by omega
  rw[e];by_cases h1:c.X+c.W<x
  ·rw[Ko h1,Kk (show ¬(x=c.X∨x=c.X+c.W) by omega),Ko (show c.X+c.W<b.X+b.W by omega)];omega
  ·rw[Kk h1,Ko (show c.X+c.W<b.X+b.W by omega)];have hb1:(if x=c.X∨x=c.X+c.W then 1 else 0:Nat)≤1:=by split<;>omega
   omega
theorem ZoF {b c:Box} {d:Bool} {x:Int} (hc:VB c) (hi:Qp c b) (hx:loP d b<x∧x<hiP d b) (h:x≤loP d c) :
  Zg4 (QW d b (x-loP d b)) c+(if x=loP d c∨x=hiP d c then 1 else 0)≤Zg4 b c:=by
 simp only[VB] at hc;simp only[Qp] at hi;cases d
 ·simp only[loP,hiP,QW,Zg4,Ka,Kg] at hx h ⊢;have e:b.Y+(x-b.Y)=x:=by omega
  have e2:x+(b.H-(x-b.Y))=b.Y+b.H:=by omega
  rw[e,e2];by_cases h1:x<c.Y
  ·rw[Ko h1,Kk (show ¬(x=c.Y∨x=c.Y+c.H) by omega),Ko (show b.Y<c.Y by omega)];omega
  ·rw[Kk h1,Ko (show b.Y<c.Y by omega)];have hb1:(if x=c.Y∨x=c.Y+c.H then 1 else 0:Nat)≤1:=by split<;>omega
   omega
 ·simp only[loP,hiP,QW,Zg4,Kh] at hx h ⊢;have e:b.X+(x-b.X)=x:=by omega
  have e2:x+(b.W-(x-b.X))=b.X+b.W:=by omega
  rw[e,e2];by_cases h1:x<c.X
  ·rw[Ko h1,Kk (show ¬(x=c.X∨x=c.X+c.W) by omega),Ko (show b.X<c.X by omega)];omega
  ·rw[Kk h1,Ko (show b.X<c.X by omega)];have hb1:(if x=c.X∨x=c.X+c.W then 1 else 0:Nat)≤1:=by split<;>omega
   omega
theorem ZnD {b:Box} {d:Bool} {x:Int} (hx:loP d b<x∧x<hiP d b):∀ (l:List L.Place),InL l b→crs d l x=false →
  pot (XV d b (x-loP d b)) (ZM d l x true)+pot (QW d b (x-loP d b)) (ZM d l x false)+(if tch d l x=true then 1 else 0)≤pot b l
 | [],_,_=>by simp[pot,ZM,tch]
 | c :: l,hl,hc=>by
  have h0:=hl c (by simp);have aa:=ZjY hc c (by simp);have hc2:crs d l x=false:=by
   have:=List.any_eq_false.1 hc;exact List.any_eq_false.2 fun y hy=>this y (by simp[hy])
  have ih:=ZnD hx l (fun y hy=>hl y (by simp[hy])) hc2;have ht:tch d (c :: l) x=(decide (x=loP d c.Box∨x=hiP d c.Box) || tch d l x):=by simp[tch]
  rw[ht];by_cases h:hiP d c.Box≤x
  ·have e1:ZM d (c :: l) x true=c :: ZM d l x true:=by unfold ZM;rw[Ly,Ko (by simp[h])]
   have e2:ZM d (c :: l) x false=ZM d l x false:=by unfold ZM;rw[Ly,Kk (by simp[h])]
   have hp:=ZpR h0.1 h0.2 hx h;rw[e1,e2];simp only[pot];by_cases hq:x=loP d c.Box∨x=hiP d c.Box
   ·rw[Ko hq] at hp;rw[Kz hq,Bool.true_or,Ko rfl];split at ih<;>omega
   ·rw[Kk hq] at hp;rw[Kp hq,Bool.false_or];omega
  ·have e1:ZM d (c :: l) x true=ZM d l x true:=by unfold ZM;rw[Ly,Kk (by simp[h])]
   have e2:ZM d (c :: l) x false=c :: ZM d l x false:=by unfold ZM;rw[Ly,Ko (by simp[h])]
   have hp:=ZoF h0.1 h0.2 hx (by omega);rw[e1,e2];simp only[pot];by_cases hq:x=loP d c.Box∨x=hiP d c.Box
   ·rw[Ko hq] at hp;rw[Kz hq,Bool.true_or,Ko rfl];split at ih<;>omega
   ·rw[Kk hq] at hp;rw[Kp hq,Bool.false_or];omega
theorem ZoG {l:List L.Place} {b:Box} {d:Bool} {x:Int} (h:VI l b=some (d,x)):tch d l x=true:=by
 unfold VI at h;split at h
 ·rename_i y hy;cases h;exact(VZ hy).2.2.2
 ·split at h
  ·rename_i y hy;cases h;exact(VZ hy).2.2.2
  ·cases h
theorem ZmR (d:Bool) (l:List L.Place) (t:Int):(ZM d l t true++ZM d l t false).Perm l:=by
 have h:=List.filter_append_perm (fun c:L.Place=>true==decide (hiP d c.Box≤t)) l;have e:ZM d l t false=l.filter (fun c=>!(true==decide (hiP d c.Box≤t))):=by
  unfold ZM;congr 1
  funext c
  cases decide (hiP d c.Box≤t)<;>rfl
 rw[e];exact h
def Zg5:BT→BT
 | .waste=>.waste
 | .pane i t=>.pane i t
 | .cut d a l r=>if ZhD l=false∧ZhD r=false then .waste else .cut d a (Zg5 l) (Zg5 r)
theorem ZmS (ps:List Pane):∀ (n:Nat) (l:List L.Place) (b:Box) (t:BT),VB b→InL l b→(∀ c∈l,Xt ps c.Pane c.Turned c.Box.W c.Box.H=true)→QS n l b=some t →
  Vc ps t b.W b.H=true∧ZeP t≤pot b l∧(plc t b.X b.Y b.W b.H).Perm l∧Zg5 t=t∧(l≠[]→ZhD t=true):=by
 intro n
 induction n with
 | zero=>intro l b t _ _ _ h;simp[QS] at h
 | succ n IH=>
  intro l b t hb hl hf h;cases l with
  | nil=>
   simp only[QS,Option.some.injEq] at h;subst h;exact⟨rfl,by simp[ZeP],by simp[plc],rfl,fun h=>absurd rfl h⟩
  | cons c r=>
   by_cases hp:r=[]∧c.Box=b
   ·rw[QS,Ko hp] at h;obtain⟨rfl,ad⟩:=hp;simp only[Option.some.injEq] at h;subst h;have h1:=hf c (by simp);rw[ad] at h1;refine⟨h1,by simp[ZeP],?_,rfl,fun _=>rfl⟩;have:(⟨c.Pane,c.Turned,⟨b.X,b.Y,b.W,b.H⟩⟩:L.Place)=c:=by
     cases c;simp only at ad;rw[ad]
    simp only[plc,this];exact List.Perm.refl _
   ·cases hc:VI (c :: r) b with
    | none=>rw[Zls hp hc] at h;cases h
    | some dx=>
     obtain⟨d,x⟩:=dx;rw[Zi1 hp hc] at h;obtain⟨h1,h2,h3⟩:=Ui hc;obtain⟨⟨g1,g2⟩,g3,g4⟩:=Zdm hb hl ⟨h1,h2⟩ h3;have ae:=ZnD ⟨h1,h2⟩ (c :: r) hl h3;rw[Ko (ZoG hc)] at ae;have aa:=ZmR d (c :: r) x;cases hA:QS n (ZM d (c :: r) x true) (XV d b (x-loP d b)) with
     | none=>rw[hA] at h;simp[Uh] at h
     | some A=>
      cases hB:QS n (ZM d (c :: r) x false) (QW d b (x-loP d b)) with
      | none=>rw[hA,hB] at h;simp[Uh] at h
      | some B=>
       rw[hA,hB] at h;simp only[Uh,Option.some.injEq] at h;subst h;obtain⟨a1,a2,a3,a4,a5⟩:=IH _ _ A g1 g2 (fun y hy=>hf y (Le.1 hy).1) hA;obtain⟨b1,b2,b3,b4,b5⟩:=IH _ _ B g3 g4 (fun y hy=>hf y (Le.1 hy).1) hB;have ab:ZhD A=true∨ZhD B=true:=by
        by_cases hn:ZM d (c :: r) x true=[]
        ·refine .inr (b5 fun hm=>?_);rw[hn,hm] at aa;have:=aa.length_eq;simp at this
        ·exact .inl (a5 hn)
       have af:¬(ZhD A=false∧ZhD B=false):=fun hh=>by rcases ab with h' | h' <;> simp[hh.1,hh.2] at h'
       refine⟨?_,by simp only[ZeP];omega,?_,by rw[Zg5,Kk af,a4,b4],fun _=>by simp only[ZhD,Lf];exact ab⟩
       ·cases d
        ·simp only[loP,hiP,XV,QW,Ka,Kg] at h1 h2 a1 b1;simp only[Vc,loP,Ka,Kg,a1,b1,Lw,Kr];omega
        ·simp only[loP,hiP,XV,QW,Kh] at h1 h2 a1 b1;simp only[Vc,loP,Kh,a1,b1,Lw,Kr];omega
       ·have ag:(plc (.cut d (x-loP d b) A B) b.X b.Y b.W b.H)=plc A (XV d b (x-loP d b)).X (XV d b (x-loP d b)).Y (XV d b (x-loP d b)).W (XV d b (x-loP d b)).H++plc B (QW d b (x-loP d b)).X (QW d b (x-loP d b)).Y (QW d b (x-loP d b)).W (QW d b (x-loP d b)).H:=by
         cases d<;>simp[plc,XV,QW]
        rw[ag];exact(a3.append b3).trans aa
def ZjZ (k:Qs) (l:List L.Place):Option BT:=if VPl k l then QS (k.W+k.H).toNat l ⟨0,0,k.W,k.H⟩ else none
theorem Zd2 {k:Qs} {l:List L.Place} (h:VPl k l):VB ⟨0,0,k.W,k.H⟩∧InL l ⟨0,0,k.W,k.H⟩∧Apt l∧(∀ c∈l,Xt k.Panes c.Pane c.Turned c.Box.W c.Box.H=true):=by
 obtain⟨⟨h1,h2⟩,h3,h4⟩:=h;refine⟨by simp only[VW] at h1;simp only[VB];omega,fun c hc=>(h3 c hc).1,?_,fun c hc=>(h3 c hc).2⟩;unfold UG at h4;rw[List.pairwise_map] at h4;exact h4
theorem Zdn (kW kH:Int) (kP:List Pane) (l:List L.Place):Zi Xs Ms Q0 [(.d (.agg [J kW,J kH,.sl (kP.map Pane.enc)])),(.d (.sl (l.map Place.enc)))] []=some (plT (ZjZ (Qs.mk kW kH kP) l)):=by
 have e1:=Zd0 kW kH kP l;unfold ZjZ;by_cases hv:VPl (Qs.mk kW kH kP) l
 ·obtain⟨h1,h2,h3,_⟩:=Zd2 hv;rw[Kz hv] at e1;rw[Ko hv];have es:=Zdj kW kH kP;have ep:=ZeY (kW+kH).toNat l 0 0 kW kH h1 h2 h3 (Ke _) (by have:=hv.1.2;omega);generalize QS (kW+kH).toNat l ⟨0,0,kW,kH⟩=X at ep ⊢;cases X with
  | none=>
   unfold plT at ep ⊢;refine cE ?_;simp +contextual -implicitDefEqProofs (maxSteps:=10^7) only[go_sem,seval,↓gZ,Q1,e1,es,ep]
  | some b=>
   obtain⟨o,a,q,t,ks,eb⟩:=Wf b;simp only[plT,eb] at ep ⊢;cases ks with
   | nil=>
    simp only[plO] at ep ⊢;refine cE ?_;simp +contextual -implicitDefEqProofs (maxSteps:=10^7) only[go_sem,seval,↓gZ,Q1,e1,es,ep]
   | cons k1 kr=>
    simp only[plO] at ep ⊢;refine cE ?_;simp +contextual -implicitDefEqProofs (maxSteps:=10^7) only[go_sem,seval,↓gZ,Q1,e1,es,ep]
 ·rw[Kp hv] at e1;rw[Kk hv];unfold plT;refine cE ?_;simp +contextual -implicitDefEqProofs (maxSteps:=10^7) only[go_sem,seval,↓gZ,Q1,e1]
theorem Zdo (kW kH:Int) (kP:List Pane) (l:List L.Place) (hk:I64 kW∧I64 kH) (hP:kP.length≤1048576) (hl:l.length≤1048576):Zi Xs Ms Xy [(.d (.agg [J kW,J kH,.sl (kP.map Pane.enc)])),(.d (.sl (l.map Place.enc)))] []=some (plV (ZjZ (Qs.mk kW kH kP) l)):=by
 have e1:=Zd1 kW kH kP l hk hP hl;unfold ZjZ;by_cases hv:VPl (Qs.mk kW kH kP) l
 ·obtain⟨h1,h2,h3,_⟩:=Zd2 hv;rw[Kz hv] at e1;rw[Ko hv];have ep:=ZhB (kW+kH).toNat l 0 0 kW kH h1 h2 (Ke _) (by have:=hv.1.2;omega);generalize QS (kW+kH).toNat l ⟨0,0,kW,kH⟩=X at ep ⊢;cases X with
  | none=>
   unfold plV at ep ⊢;refine cE ?_;simp +contextual -implicitDefEqProofs (maxSteps:=10^7) only[go_sem,seval,↓gZ,Xz,e1,ep]
  | some b=>
   obtain⟨o,a,q,t,ks,eb⟩:=Wf b;simp only[plV,eb] at ep ⊢;refine cE ?_;simp +contextual -implicitDefEqProofs (maxSteps:=10^7) only[go_sem,seval,↓gZ,Xz,e1,ep]
 ·rw[Kp hv] at e1;rw[Kk hv];unfold plV;refine cE ?_;simp +contextual -implicitDefEqProofs (maxSteps:=10^7) only[go_sem,seval,↓gZ,Xz,e1]
theorem ZmT {k:Qs} {l:List L.Place} {t:BT} (h:ZjZ k l=some t):Zgf k t.plan=true∧((JK k t.plan).filterMap Zfe).Perm l∧Zg5 t=t∧t.cnt≤255:=by
 unfold ZjZ at h;by_cases hv:VPl k l
 ·rw[Ko hv] at h;obtain⟨h1,h2,h3,h4⟩:=Zd2 hv;obtain⟨g1,g2,g3,g4,_⟩:=ZmS k.Panes _ l _ t h1 h2 h4 h;have hp:=ZpQ ⟨0,0,k.W,k.H⟩ l;have hc:=Zg3 t;have hl:=hv.1.2;have aa:t.cnt≤255:=by omega
  refine⟨?_,?_,g4,aa⟩
  ·unfold Zgf;rw[Zbk];simp only[hv.1.1,aa,decide_true,Bool.true_and];exact g1
  ·unfold JK;rw[Zbk];simp only[hv.1.1,aa,decide_true,Bool.true_and];rw[Ko (show Vc k.Panes t k.W k.H=true from g1),Zis];exact g3
 ·rw[Kk hv] at h;cases h
end Go.Proofs.Ytnachaiejoflhaa
