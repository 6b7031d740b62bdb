/- Own text. -/
import Derived.Test.YthgciclhiaoecaaGreatACode
import Derived.Test.YthgciclhiaoecaaGreatAbsParts
import Derived.Test.YthgciclhiaoecaaGreatAC9
import Derived.Test.YthgciclhiaoecaaGreatAbsOkD
namespace Go.Proofs.YthgciclhiaoecaaGreat
open Go Go.Abs Go.Abs.E Go.Abs.L
open Nat (reduceMul reduceSub reduceLeDiff reduceEqDiff)
open Int (reduceLE reduceEq reduceToNat reduceNeg)
set_option linter.unusedSimpArgs false
set_option linter.unusedVariables false
set_option maxRecDepth 20000
set_option maxHeartbeats 4000000
def Apt (l:List L.Place):Prop:=l.Pairwise fun a c=>¬X8 a.Box c.Box
theorem Zvk {l:List L.Place} {d:Bool} {t:Int} {f:Bool} (h:Apt l):Apt (X2 d l t f):=List.Pairwise.filter _ h
theorem ZAu {c:L.Place} {r:List L.Place} {b:Box} (ha:Apt (c :: r)) (hl:InL (c :: r) b) (h:c.Box=b):r=[]:=by
 cases r with
 | nil=>rfl
 | cons y r=>
  have h1:=(LX.1 ha).1 y (by simp);have h2:=hl y (by simp);have h3:=hl c (by simp);rw[h] at h1 h3;simp only[VB,QA,X8] at h1 h2 h3;omega
theorem ZwY {l:List L.Place} {b:Box} {d:Bool} {x:Int} (hb:VB b) (h:InL l b) (hx:loP d b<x∧x<hiP d b) (hc:crs d l x=false):∀ c∈l,(VB c.Box∧VB (Zbo d b (x-loP d b))∧QA c.Box (Zbo d b (x-loP d b)))↔hiP d c.Box≤x:=fun c hm=>by
 have h1:=h c hm;have h2:=Zyu hc c hm;have h3:=(Zpt hb h hx hc).1.1;cases d
 ·simp only[loP,hiP,Zbo,Ka,Kk] at hx h2 h3 ⊢;simp only[VB,QA] at h1 h3 ⊢;omega
 ·simp only[loP,hiP,Zbo,Km] at hx h2 h3 ⊢;simp only[VB,QA] at h1 h3 ⊢;omega
theorem Zvl (bX bY bW bH:Int) (d:Bool) (a:Int) (hb:VB (Box.mk bX bY bW bH)) (ha:0≤a∧a≤400):Zd Xs Ms XY [.d (.agg [J (Ql d),J a,J 0,.bool false,.sl []]),(.d (.agg [J bX,J bY,J bW,J bH]))] []=some (.tup [.d (Zbo d (Box.mk bX bY bW bH) a).enc,.d (Ue d (Box.mk bX bY bW bH) a).enc],[]):=by
 simp only[VB] at hb;have w1:=wi (bX+a) (by omega) (by omega);have w2:=wi (bY+a) (by omega) (by omega);have w3:=wi (bW-a) (by omega) (by omega);have w4:=wi (bH-a) (by omega) (by omega);cases d
 ·simp only[Zbo,Ue,Box.enc,Ql,Ka,Kk];refine cE ?_;simp +contextual -implicitDefEqProofs (maxSteps:=10^7) only[go_sem,seval,↓gZ,WT,w1,w2,w3,w4]
 ·simp only[Zbo,Ue,Box.enc,Ql,Km];refine cE ?_;simp +contextual -implicitDefEqProofs (maxSteps:=10^7) only[go_sem,seval,↓gZ,WT,w1,w2,w3,w4]
def plT:Option BT→AV×List Zn
 | some b=>match b.plan with
  | .mk o a q t ks=>(.tup [.agg [(.d (J o)),(.d (J a)),(.d (J q)),(.d (.bool t)),.own 0],(.d (.bool true))],[plO ks])
 | none=>(.tup [.agg [(.d (J 0)),(.d (J 0)),(.d (J 0)),(.d (.bool false)),.own 0],(.d (.bool false))],[.row 5 [] true false])
theorem ZpF (l:List L.Place) (bX bY bW bH:Int) (p q:Bool→Int→Option BT) (hb:VB (Box.mk bX bY bW bH)) (hl:InL l (Box.mk bX bY bW bH)) (aa:l.length≤1000)
  (h1:∀ d x,Zce l (Box.mk bX bY bW bH)=some (d,x)→Zd Xs Ms Q7 [.d (.sl ((X2 d l x true).map Place.enc)),.d (Zbo d (Box.mk bX bY bW bH) (x-loP d (Box.mk bX bY bW bH))).enc] []=some (plT (p d x)))
  (h2:∀ d x,Zce l (Box.mk bX bY bW bH)=some (d,x)→Zd Xs Ms Q7 [.d (.sl ((X2 d l x false).map Place.enc)),.d (Ue d (Box.mk bX bY bW bH) (x-loP d (Box.mk bX bY bW bH))).enc] []=some (plT (q d x))) :
  Zd Xs Ms Uo [(.d (.sl (l.map Place.enc))),(.d (.agg [J bX,J bY,J bW,J bH]))] []=some (plT (match Zce l (Box.mk bX bY bW bH) with
   | some (d,x)=>Zga d (x-loP d (Box.mk bX bY bW bH)) (p d x) (q d x)
   | none=>none)):=by
 have ef:=ZsA l bX bY bW bH hb aa (fun c hc=>(hl c hc).1);cases hc:Zce l (Box.mk bX bY bW bH) with
 | none=>
  rw[hc] at ef;unfold Ztb at ef;unfold plT;refine cE ?_;simp +contextual -implicitDefEqProofs (maxSteps:=10^7) only[go_sem,seval,↓gZ,ZaS,ef]
 | some dx=>
  obtain⟨d,x⟩:=dx;obtain⟨g1,g2,g3⟩:=ZeW hc;have af:=ZwY hb hl ⟨g1,g2⟩ g3;have k1:=h1 d x hc;have k2:=h2 d x hc;simp only[hc,Ztb] at ef;simp only;have ae:0≤x-loP d (Box.mk bX bY bW bH)∧x-loP d (Box.mk bX bY bW bH)≤400:=by
   simp only[VB] at hb;cases d<;>simp only[loP,hiP,Km,Ka,Kk] at g1 g2 ⊢ <;> omega
  have es:=Zvl bX bY bW bH d (x-loP d (Box.mk bX bY bW bH)) hb ae;generalize x-loP d (Box.mk bX bY bW bH)=a at *;generalize p d x=p0 at k1 ⊢;generalize q d x=q0 at k2 ⊢;generalize Zbo d (Box.mk bX bY bW bH) a=lb at *;generalize Ue d (Box.mk bX bY bW bH) a=hb' at *;clear h1 h2 ae g1 g2 g3 hc;obtain⟨lX,lY,lW,lH⟩:=lb;obtain⟨hX,hY,hW,hH⟩:=hb';simp only[Box.enc] at es k1 k2;refine cE ?_;simp +contextual -implicitDefEqProofs (maxSteps:=10^7) only[go_sem,seval,↓gZ,ZaS,ef,es];refine LO (α:=Nat) (fun i=>[(33,.d (J (i:Int)))]) (fun i=>[(0,.row 6 ((X2 d (l.take i) x false).map Place.enc) true false),(1,.row 6 ((X2 d (l.take i) x true).map Place.enc) true false)]) (fun i=>i≤l.length) (fun i=>l.length-i) 0 (by omega) ?_
  intro i hi ih;by_cases ab:i<l.length
  ·obtain⟨c,hx⟩:=Zo ab;have hw:=Zh (k:=i) (by omega);have pt:=Zkj (d:=d) (t:=x) (f:=true) hx;have pf:=Zkj (d:=d) (t:=x) (f:=false) hx;have ad:=af c (Kb hx);have ag:(X2 d (l.take i) x true).length≤i:=Kr (Kah _ _) (by simp;omega);have ah:(X2 d (l.take i) x false).length≤i:=Kr (Kah _ _) (by simp;omega);have rt:((X2 d (l.take i) x true).length+1)*48≤140737488355328∧(X2 d (l.take i) x true).length≤140737488355327:=by omega
   have rf:((X2 d (l.take i) x false).length+1)*48≤140737488355328∧(X2 d (l.take i) x false).length≤140737488355327:=by omega
   obtain⟨P,T,⟨X,Y,W,H⟩⟩:=c;have ei:=ZaJ X Y W H lX lY lW lH;simp only at pt pf ad;by_cases hh:hiP d ⟨X,Y,W,H⟩≤x
   ·rw[Kh (ad.2 hh)] at ei;rw[Kh hh] at pt pf;rw[Kj rfl] at pt;rw[Kg (by simp)] at pf;simp +contextual -implicitDefEqProofs (maxSteps:=10^7) only[go_sem,seval,↓gZ,hx,ab,hw,ei,rt];refine ih (i+1) _ (by omega) (by omega) ?_;rw[pt,pf];simp +contextual -implicitDefEqProofs (maxSteps:=10^7) only[go_sem,seval,↓gZ,KU,KE]
   ·rw[Ki (fun h=>hh (ad.1 h))] at ei;rw[Ki hh] at pt pf;rw[Kg (by simp)] at pt;rw[Kj rfl] at pf;simp +contextual -implicitDefEqProofs (maxSteps:=10^7) only[go_sem,seval,↓gZ,hx,ab,hw,ei,rf];refine ih (i+1) _ (by omega) (by omega) ?_;rw[pt,pf];simp +contextual -implicitDefEqProofs (maxSteps:=10^7) only[go_sem,seval,↓gZ,KU,KE]
  ·have:i=l.length:=by omega
   subst this;rw[KC (Kl _)];cases p0 with
   | none=>
    unfold plT at k1;simp only[Zga];unfold plT;simp +contextual -implicitDefEqProofs (maxSteps:=10^7) only[go_sem,seval,↓gZ,k1]
   | some bp=>
    obtain⟨po,pa,pq,pt,pk,ep⟩:=Zcf bp;simp only[plT,ep] at k1;cases q0 with
    | none=>
     unfold plT at k2;simp only[Zga];unfold plT;cases pk with
     | nil=>
      simp only[plO] at k1;simp +contextual -implicitDefEqProofs (maxSteps:=10^7) only[go_sem,seval,↓gZ,k1,k2]
     | cons p1 pr=>
      simp only[plO] at k1;simp +contextual -implicitDefEqProofs (maxSteps:=10^7) only[go_sem,seval,↓gZ,k1,k2]
    | some bq=>
     obtain⟨qo,qa,qq,qt,qk,eq⟩:=Zcf bq;simp only[plT,eq] at k2;simp only[Zga,plT,BT.plan,ep,eq,plO];cases pk with
     | nil=>
      simp only[plO] at k1;cases qk with
      | nil=>
       simp only[plO] at k2;simp +contextual -implicitDefEqProofs (maxSteps:=10^7) only[go_sem,seval,↓gZ,k1,k2]
      | cons q1 qr=>
       simp only[plO] at k2;simp +contextual -implicitDefEqProofs (maxSteps:=10^7) only[go_sem,seval,↓gZ,k1,k2]
     | cons p1 pr=>
      simp only[plO] at k1;cases qk with
      | nil=>
       simp only[plO] at k2;simp +contextual -implicitDefEqProofs (maxSteps:=10^7) only[go_sem,seval,↓gZ,k1,k2]
      | cons q1 qr=>
       simp only[plO] at k2;simp +contextual -implicitDefEqProofs (maxSteps:=10^7) only[go_sem,seval,↓gZ,k1,k2]
theorem ZoY:∀ (n:Nat) (l:List L.Place) (bX bY bW bH:Int),VB (Box.mk bX bY bW bH)→InL l (Box.mk bX bY bW bH)→Apt l→(bW+bH).toNat≤n→l.length≤1000→Zd Xs Ms Q7 [(.d (.sl (l.map Place.enc))),(.d (.agg [J bX,J bY,J bW,J bH]))] []=some (plT (YQ n l (Box.mk bX bY bW bH))):=by
 intro n
 induction n with
 | zero=>
  intro l bX bY bW bH hb _ _ hn _;simp only[VB] at hb;omega
 | succ n IH=>
  intro l bX bY bW bH hb hl ha hn ab;cases l with
  | nil=>
   simp only[YQ,plT,plO,BT.plan];refine cE ?_;simp +contextual -implicitDefEqProofs (maxSteps:=10^7) only[go_sem,seval,↓gZ,Yi]
  | cons c r=>
   by_cases hp:c.Box=(Box.mk bX bY bW bH)
   ·have hr:=ZAu ha hl hp;subst hr;obtain⟨P,T,⟨X,Y,W,H⟩⟩:=c;simp only at hp;have ag:YQ (n+1) [⟨P,T,⟨X,Y,W,H⟩⟩] (Box.mk bX bY bW bH)=some (.pane P T):=by rw[YQ,Kj ⟨rfl,hp⟩]
    rw[ag];simp only[Box.mk.injEq] at hp;obtain⟨rfl,rfl,rfl,rfl⟩:=hp;simp only[plT,plO,BT.plan];refine cE ?_;simp +contextual -implicitDefEqProofs (maxSteps:=10^7) only[go_sem,seval,↓gZ,Yi]
   ·have aa:=ZpF (c :: r) bX bY bW bH (fun d x=>YQ n (X2 d (c :: r) x true) (Zbo d (Box.mk bX bY bW bH) (x-loP d (Box.mk bX bY bW bH)))) (fun d x=>YQ n (X2 d (c :: r) x false) (Ue d (Box.mk bX bY bW bH) (x-loP d (Box.mk bX bY bW bH)))) hb hl ab
     (fun d x h=>by
      obtain⟨h1,h2,h3⟩:=ZeW h;obtain⟨⟨g1,g2⟩,g3,g4⟩:=Zpt hb hl ⟨h1,h2⟩ h3;obtain⟨s1,s2⟩:=Zqu hb ⟨h1,h2⟩;simp only at s1 s2;exact IH _ _ _ _ _ g1 g2 (Zvk ha) (by omega) (Kr (Ziy _ _ _ _) ab))
     (fun d x h=>by
      obtain⟨h1,h2,h3⟩:=ZeW h;obtain⟨⟨g1,g2⟩,g3,g4⟩:=Zpt hb hl ⟨h1,h2⟩ h3;obtain⟨s1,s2⟩:=Zqu hb ⟨h1,h2⟩;simp only at s1 s2;exact IH _ _ _ _ _ g3 g4 (Zvk ha) (by omega) (Kr (Ziy _ _ _ _) ab))
    have hX:YQ (n+1) (c :: r) (Box.mk bX bY bW bH)=match Zce (c :: r) (Box.mk bX bY bW bH) with
     | some (d,x)=>Zga d (x-loP d (Box.mk bX bY bW bH)) (YQ n (X2 d (c :: r) x true) (Zbo d (Box.mk bX bY bW bH) (x-loP d (Box.mk bX bY bW bH)))) (YQ n (X2 d (c :: r) x false) (Ue d (Box.mk bX bY bW bH) (x-loP d (Box.mk bX bY bW bH))))
     | none=>none:=by rw[YQ,Kg (fun h=>hp h.2)];try rfl
    rw[← hX] at aa;clear hX IH hl ha;generalize YQ (n+1) (c :: r) (Box.mk bX bY bW bH)=X at aa ⊢;have ad:(c :: r)[0]?=some c:=rfl;have ae:¬(((c :: r).length:Nat):Int)=0:=by simp only[Kq];omega
    have af:0<(c :: r).length:=by simp
    generalize c :: r=l at *;obtain⟨P,T,⟨cX,cY,cW,cH⟩⟩:=c;simp only[Box.mk.injEq] at hp;cases X with
    | none=>
     unfold plT at aa ⊢;refine cE ?_;simp +contextual -implicitDefEqProofs (maxSteps:=10^7) only[go_sem,seval,↓gZ,Yi,ae,af,ad,hp,aa]
    | some bq=>
     obtain⟨qo,qa,qq,qt,qk,eq⟩:=Zcf bq;simp only[plT,eq] at aa ⊢;cases qk with
     | nil=>
      simp only[plO] at aa ⊢;refine cE ?_;simp +contextual -implicitDefEqProofs (maxSteps:=10^7) only[go_sem,seval,↓gZ,Yi,ae,af,ad,hp,aa]
     | cons q1 qr=>
      simp only[plO] at aa ⊢;refine cE ?_;simp +contextual -implicitDefEqProofs (maxSteps:=10^7) only[go_sem,seval,↓gZ,Yi,ae,af,ad,hp,aa]
def Zf0 (l:List Box):Prop:=l.Pairwise fun a c=>¬X8 a c
instance (l:List Box):Decidable (Zf0 l):=by unfold Zf0;infer_instance
def Zb5 (k:Zt) (c:L.Place):Prop:=(VB c.Box∧QA c.Box ⟨0,0,k.W,k.H⟩)∧XT k.Panes c.Pane c.Turned c.Box.W c.Box.H=true
instance (k:Zt) (c:L.Place):Decidable (Zb5 k c):=by unfold Zb5;infer_instance
def VPl (k:Zt) (l:List L.Place):Prop:=(VW k∧l.length≤12)∧(∀ c∈l,Zb5 k c)∧Zf0 (l.map L.Place.Box)
instance (k:Zt) (l:List L.Place):Decidable (VPl k l):=by unfold VPl;infer_instance
theorem ZpG {a b:Box}:X8 a b↔X8 b a:=by unfold X8;omega
theorem ZwZ {l:List Box} {i:Nat} {x:Box} (hx:l[i]?=some x) (h:Zf0 (l.take i)) (hn:∀ y∈l.take i,¬X8 x y):Zf0 (l.take (i+1)):=by
 unfold Zf0 at h ⊢;rw[Ky,hx,LP];exact⟨h,by simp,fun a ha b hb=>by simp at hb;subst hb;exact fun hm=>hn a ha (ZpG.1 hm)⟩
theorem Zy3 {l:List Box} {i j:Nat} {x y:Box} (aa:j<i) (hx:l[i]?=some x) (hy:l[j]?=some y) (hm:X8 x y):¬Zf0 l:=fun h=>by
 obtain⟨h1,rfl⟩:=Kc.1 hx;obtain⟨h2,rfl⟩:=Kc.1 hy;exact(List.pairwise_iff_getElem.1 h) j i h2 h1 aa (ZpG.1 hm)
theorem ZoZ (l:List Box) (hv:∀ b∈l,VB b) (hl:l.length≤24):Zd Xs Ms Wl [(.d (.sl (l.map Box.enc)))] []=some ((.d (.bool true)),[]):=by
 have ab:¬(24:Int)<(l.length:Int):=by omega
 refine cE ?_;simp +contextual -implicitDefEqProofs (maxSteps:=10^7) only[go_sem,seval,↓gZ,ZcC,ab];refine LO (α:=Nat) (fun i=>[(10,.d (J (i:Int)))]) (fun _=>[]) (fun i=>i≤l.length) (fun i=>l.length-i) 0 (by omega) ?_;intro i hi ih;by_cases aa:i<l.length
 ·obtain⟨x,hx⟩:=Zo aa;have hw:=Zh (k:=i) (by omega);have hb:=hv x (Kb hx);obtain⟨X,Y,W,H⟩:=x;have e:=X1 X Y W H;rw[Kh hb] at e;simp +contextual -implicitDefEqProofs (maxSteps:=10^7) only[go_sem,seval,↓gZ,hx,aa,hw,e];refine ih (i+1) _ (by omega) (by omega) ?_;simp +contextual -implicitDefEqProofs (maxSteps:=10^7) only[go_sem,seval,↓gZ]
 ·simp +contextual -implicitDefEqProofs (maxSteps:=10^7) only[go_sem,seval,↓gZ,aa]
theorem Zo0 (l:List Box) (hv:∀ b∈l,VB b) (hl:l.length≤24):Zd Xs Ms Wj [(.d (.sl (l.map Box.enc)))] []=some ((.d (.bool (decide (Zf0 l)))),[]):=by
 have e1:=ZoZ l hv hl;refine cE ?_;simp +contextual -implicitDefEqProofs (maxSteps:=10^7) only[go_sem,seval,↓gZ,ZcB,e1];refine LO (α:=Nat) (fun i=>[(14,.d (J (i:Int)))]) (fun _=>[]) (fun i=>i≤l.length∧Zf0 (l.take i)) (fun i=>l.length-i) 0 ⟨by omega,by simp[Zf0]⟩ ?_;intro i ⟨hi,hp⟩ ih;by_cases af:i<l.length
 ·obtain⟨x,hx⟩:=Zo af;have hw:=Zh (k:=i) (by omega);have hb:=hv x (Kb hx);have ai:i≤l.length:=hi;have ab:(l.take i).length=i:=by simp;omega
  have ad:=ZwZ hx hp;obtain⟨X,Y,W,H⟩:=x;simp +contextual -implicitDefEqProofs (maxSteps:=10^7) only[go_sem,seval,↓gZ,hx,af,hw,ai];refine Qw Xs Ms (st0:=?st1) (α:=Nat) (fun j=>[(23,.d (J (j:Int)))]) (fun _=>[]) (fun j=>j≤i∧∀ y∈l.take j,¬X8 ⟨X,Y,W,H⟩ y) (fun j=>i-j) 0 ?hc2 ⟨by omega,by simp⟩ ?h02 ?step2
  case hc2=>simp +contextual -implicitDefEqProofs (maxSteps:=10^7) only[go_sem,seval,↓gZ]<;>exact rfl
  case h02=>rfl
  case step2=>
   intro j ⟨hj,hq⟩ aj;by_cases aa:j<i
   ·obtain⟨y,hy⟩:=Zo (l:=l) (k:=j) (by omega);have ag:=Zh (k:=j) (by omega);have ak:=hv y (Kb hy);have ah:(l.take i)[j]?=some y:=by rw[List.getElem?_take_of_lt aa];exact hy
    have ae:=Zy3 aa hx hy;have al:l.take (j+1)=l.take j++[y]:=by rw[Ky,hy];simp
    obtain⟨X',Y',W',H'⟩:=y;by_cases hm:X8 ⟨X,Y,W,H⟩ ⟨X',Y',W',H'⟩
    ·have e:=ZbB X Y W H X' Y' W' H' hb ak hm;have hn:=ae hm;rw[Ki hn];simp +contextual -implicitDefEqProofs (maxSteps:=10^7) only[go_sem,seval,↓gZ,ah,aa,ab,ag,e,KB,ZgC]
    ·have e:=Zdc X Y W H X' Y' W' H' (fun h=>hm h.2.2);simp +contextual -implicitDefEqProofs (maxSteps:=10^7) only[go_sem,seval,↓gZ,ah,aa,ab,ag,e,KB];refine aj (j+1) _ ⟨by omega,?_⟩ (by omega) ?_
     ·rw[al];intro z hz;rcases Ke.1 hz with hz | hz
      ·exact hq z hz
      ·simp at hz;subst hz;exact hm
     ·simp +contextual -implicitDefEqProofs (maxSteps:=10^7) only[go_sem,seval,↓gZ,ab]
   ·have:j=i:=by omega
    subst this;simp +contextual -implicitDefEqProofs (maxSteps:=10^7) only[go_sem,seval,↓gZ,aa,ab,hw,KB];refine ih (j+1) _ ⟨by omega,ad hq⟩ (by omega) ?_;simp +contextual -implicitDefEqProofs (maxSteps:=10^7) only[go_sem,seval,↓gZ]
 ·have:i=l.length:=by omega
  subst this;rw[KC (Kl _)] at hp;rw[Kh hp];simp +contextual -implicitDefEqProofs (maxSteps:=10^7) only[go_sem,seval,↓gZ]
theorem ZmL (kW kH:Int) (kP:List Pane) (l:List L.Place):Zd Xs Ms Vx [(.d (.agg [J kW,J kH,.sl (kP.map Pane.enc)])),(.d (.sl (l.map Place.enc)))] []=some ((.d (.bool (decide (VPl (Zt.mk kW kH kP) l)))),[]):=by
 have ew:=Wb kW kH kP;by_cases hw:VW (Zt.mk kW kH kP)
 ·rw[Kh hw] at ew;by_cases af:(12:Int)<(l.length:Int)
  ·have hn:¬VPl (Zt.mk kW kH kP) l:=fun h=>by have:=h.1.2;omega
   refine cE ?_;simp +contextual -implicitDefEqProofs (maxSteps:=10^7) only[go_sem,seval,↓gZ,Vz,ew,af,hn]
  ·have es:=ZbC kW kH kP;have ah:l.length≤12:=by omega
   have ai:=hw;simp only[VW] at hw;have aj:VB ⟨0,0,kW,kH⟩:=by simp only[VB];omega
   refine cE ?_;simp +contextual -implicitDefEqProofs (maxSteps:=10^7) only[go_sem,seval,↓gZ,Vz,ew,af];refine LO (α:=Nat) (fun i=>[(19,.d (J (i:Int)))]) (fun i=>[(0,.row 4 (((l.take i).map L.Place.Box).map Box.enc) true false)]) (fun i=>i≤l.length∧∀ c∈l.take i,Zb5 (Zt.mk kW kH kP) c) (fun i=>l.length-i) 0 ⟨by omega,by simp⟩ ?_;intro i ⟨hi,hp⟩ ih;by_cases aa:i<l.length
   ·obtain⟨c,hx⟩:=Zo aa;have ab:=Zh (k:=i) (by omega);have ag:l.take (i+1)=l.take i++[c]:=by rw[Ky,hx];simp
    have ad:=Kb hx;have am:(l.take i).length≤i:=by simp;omega
    have hr:((l.take i).length+1)*32≤140737488355328∧(l.take i).length≤140737488355327:=by omega
    have ae:¬Zb5 (Zt.mk kW kH kP) c→¬VPl (Zt.mk kW kH kP) l:=fun h h'=>h (h'.2.1 c ad);have ak:Zb5 (Zt.mk kW kH kP) c→∀ z∈l.take (i+1),Zb5 (Zt.mk kW kH kP) z:=fun h z hz=>by
     rw[ag] at hz;rcases Ke.1 hz with hz | hz
     ·exact hp z hz
     ·simp at hz;subst hz;exact h
    obtain⟨P,T,⟨X,Y,W,H⟩⟩:=c;have e1:=X1 X Y W H;have e2:=ZaJ X Y W H 0 0 kW kH;have e3:=ZgF kW kH kP P T W H;by_cases v1:VB ⟨X,Y,W,H⟩
    ·rw[Kh v1] at e1;by_cases v2:VB ⟨X,Y,W,H⟩∧VB ⟨0,0,kW,kH⟩∧QA ⟨X,Y,W,H⟩ ⟨0,0,kW,kH⟩
     ·rw[Kh v2] at e2;cases v3:XT kP P T W H with
      | true=>
       rw[v3] at e3;have al:Zb5 (Zt.mk kW kH kP) ⟨P,T,⟨X,Y,W,H⟩⟩:=⟨⟨v1,v2.2.2⟩,v3⟩
       simp +contextual -implicitDefEqProofs (maxSteps:=10^7) only[go_sem,seval,↓gZ,hx,aa,ab,e1,e2,e3,es,hr];refine ih (i+1) _ ⟨by omega,ak al⟩ (by omega) ?_;rw[ag,KU];simp +contextual -implicitDefEqProofs (maxSteps:=10^7) only[go_sem,seval,↓gZ,KU]
      | false=>
       rw[v3] at e3;have hn:=ae (fun h=>by have:=h.2;simp only at this;rw[v3] at this;cases this);rw[Ki hn];simp +contextual -implicitDefEqProofs (maxSteps:=10^7) only[go_sem,seval,↓gZ,hx,aa,ab,e1,e2,e3,es]
     ·rw[Ki v2] at e2;have hn:=ae (fun h=>v2 ⟨v1,aj,h.1.2⟩);rw[Ki hn];simp +contextual -implicitDefEqProofs (maxSteps:=10^7) only[go_sem,seval,↓gZ,hx,aa,ab,e1,e2,es]
    ·rw[Ki v1] at e1;have hn:=ae (fun h=>v1 h.1.1);rw[Ki hn];simp +contextual -implicitDefEqProofs (maxSteps:=10^7) only[go_sem,seval,↓gZ,hx,aa,ab,e1]
   ·have:i=l.length:=by omega
    subst this;rw[KC (Kl _)] at hp ⊢;have ea:=Zo0 (l.map L.Place.Box) (fun b hb=>by
     obtain⟨c,hc,rfl⟩:=Li.1 hb;exact(hp c hc).1.1) (by simp;omega)
    simp +contextual -implicitDefEqProofs (maxSteps:=10^7) only[go_sem,seval,↓gZ,ea];exact ZcL ⟨fun h=>⟨⟨ai,ah⟩,hp,h⟩,fun h=>h.2.2⟩
 ·rw[Ki hw] at ew;have hn:¬VPl (Zt.mk kW kH kP) l:=fun h=>hw h.1.1;refine cE ?_;simp +contextual -implicitDefEqProofs (maxSteps:=10^7) only[go_sem,seval,↓gZ,Vz,ew,hn]
def popL (k:Zt) (l:List L.Place):Option BT:=if VPl k l then YQ (k.W+k.H).toNat l ⟨0,0,k.W,k.H⟩ else none
theorem ZsO {k:Zt} {l:List L.Place} (h:VPl k l):VB ⟨0,0,k.W,k.H⟩∧InL l ⟨0,0,k.W,k.H⟩∧Apt l∧(∀ c∈l,XT k.Panes c.Pane c.Turned c.Box.W c.Box.H=true):=by
 obtain⟨⟨h1,h2⟩,h3,h4⟩:=h;refine⟨by simp only[VW] at h1;simp only[VB];omega,fun c hc=>(h3 c hc).1,?_,fun c hc=>(h3 c hc).2⟩;unfold Zf0 at h4;rw[List.pairwise_map] at h4;exact h4
theorem Zk5 (kW kH:Int) (kP:List Pane) (l:List L.Place):Zd Xs Ms Ya [(.d (.agg [J kW,J kH,.sl (kP.map Pane.enc)])),(.d (.sl (l.map Place.enc)))] []=some (plT (popL (Zt.mk kW kH kP) l)):=by
 have e1:=ZmL kW kH kP l;unfold popL;by_cases hv:VPl (Zt.mk kW kH kP) l
 ·obtain⟨h1,h2,h3,_⟩:=ZsO hv;rw[Kh hv] at e1;rw[Kj hv];have es:=ZbC kW kH kP;have ep:=ZoY (kW+kH).toNat l 0 0 kW kH h1 h2 h3 (Kl _) (by have:=hv.1.2;omega);generalize YQ (kW+kH).toNat l ⟨0,0,kW,kH⟩=X at ep ⊢;cases X with
  | none=>
   unfold plT at ep ⊢;refine cE ?_;simp +contextual -implicitDefEqProofs (maxSteps:=10^7) only[go_sem,seval,↓gZ,Yb,e1,es,ep]
  | some b=>
   obtain⟨o,a,q,t,ks,eb⟩:=Zcf b;simp only[plT,eb] at ep ⊢;cases ks with
   | nil=>
    simp only[plO] at ep ⊢;refine cE ?_;simp +contextual -implicitDefEqProofs (maxSteps:=10^7) only[go_sem,seval,↓gZ,Yb,e1,es,ep]
   | cons k1 kr=>
    simp only[plO] at ep ⊢;refine cE ?_;simp +contextual -implicitDefEqProofs (maxSteps:=10^7) only[go_sem,seval,↓gZ,Yb,e1,es,ep]
 ·rw[Ki hv] at e1;rw[Kg hv];unfold plT;refine cE ?_;simp +contextual -implicitDefEqProofs (maxSteps:=10^7) only[go_sem,seval,↓gZ,Yb,e1]
end Go.Proofs.YthgciclhiaoecaaGreat
