/- Own text. -/
import Derived.Test.YtbpekaejmjlmfaaGreatACode
import Derived.Test.YtbpekaejmjlmfaaGreatAbsParts
import Derived.Test.YtbpekaejmjlmfaaGreatAC9
import Derived.Test.YtbpekaejmjlmfaaGreatAC1
namespace Go.Proofs.YtbpekaejmjlmfaaGreat
open Go Go.Abs Go.Abs.E Go.Abs.L
open Nat (reduceMul reduceSub reduceLeDiff reduceEqDiff)
open Int (reduceLE reduceEq reduceToNat reduceNeg)
set_option linter.unusedSimpArgs false
set_option linter.unusedVariables false
set_option maxRecDepth 20000
set_option maxHeartbeats 4000000
def Apt (l:List L.Place):Prop:=l.Pairwise fun a c=>¬Xu a.Box c.Box
theorem Zvo {l:List L.Place} {d:Bool} {t:Int} {f:Bool} (h:Apt l):Apt (Ym d l t f):=List.Pairwise.filter _ h
theorem ZAX {c:L.Place} {r:List L.Place} {b:Box} (ha:Apt (c :: r)) (hl:InL (c :: r) b) (h:c.Box=b):r=[]:=by
 cases r with
 | nil=>rfl
 | cons y r=>
  have h1:=(LS.1 ha).1 y (by simp);have h2:=hl y (by simp);have h3:=hl c (by simp);rw[h] at h1 h3;simp only[VB,ZT,Xu] at h1 h2 h3;omega
theorem Zxm {l:List L.Place} {b:Box} {d:Bool} {x:Int} (hb:VB b) (h:InL l b) (hx:loP d b<x∧x<hiP d b) (hc:crs d l x=false):∀ c∈l,(VB c.Box∧VB (Zb9 d b (x-loP d b))∧ZT c.Box (Zb9 d b (x-loP d b)))↔hiP d c.Box≤x:=fun c hm=>by
 have h1:=h c hm;have h2:=Zy2 hc c hm;have h3:=(Zop hb h hx hc).1.1;cases d
 ·simp only[loP,hiP,Zb9,Ka,Kj] at hx h2 h3 ⊢;simp only[VB,ZT] at h1 h3 ⊢;omega
 ·simp only[loP,hiP,Zb9,Kk] at hx h2 h3 ⊢;simp only[VB,ZT] at h1 h3 ⊢;omega
theorem Zvp (bX bY bW bH:Int) (d:Bool) (a:Int) (hb:VB (Box.mk bX bY bW bH)) (ha:0≤a∧a≤400):Zd Xs Ms Xg [.d (.agg [J (Z9 d),J a,J 0,.bool false,.sl []]),(.d (.agg [J bX,J bY,J bW,J bH]))] []=some (.tup [.d (Zb9 d (Box.mk bX bY bW bH) a).enc,.d (U8 d (Box.mk bX bY bW bH) a).enc],[]):=by
 simp only[VB] at hb;have w1:=wi (bX+a) (by omega) (by omega);have w2:=wi (bY+a) (by omega) (by omega);have w3:=wi (bW-a) (by omega) (by omega);have w4:=wi (bH-a) (by omega) (by omega);cases d
 ·simp only[Zb9,U8,Box.enc,Z9,Ka,Kj];refine cE ?_;simp +contextual -implicitDefEqProofs (maxSteps:=10^7) only[go_sem,seval,↓gZ,UD,w1,w2,w3,w4]
 ·simp only[Zb9,U8,Box.enc,Z9,Kk];refine cE ?_;simp +contextual -implicitDefEqProofs (maxSteps:=10^7) only[go_sem,seval,↓gZ,UD,w1,w2,w3,w4]
def plT:Option BT→AV×List Zn
 | some b=>match b.plan with
  | .mk o a q t ks=>(.tup [.agg [(.d (J o)),(.d (J a)),(.d (J q)),(.d (.bool t)),.own 0],(.d (.bool true))],[plO ks])
 | none=>(.tup [.agg [(.d (J 0)),(.d (J 0)),(.d (J 0)),(.d (.bool false)),.own 0],(.d (.bool false))],[.row 5 [] true false])
theorem ZoB (l:List L.Place) (bX bY bW bH:Int) (p q:Bool→Int→Option BT) (hb:VB (Box.mk bX bY bW bH)) (hl:InL l (Box.mk bX bY bW bH)) (aa:l.length≤1000)
  (h1:∀ d x,Zc6 l (Box.mk bX bY bW bH)=some (d,x)→Zd Xs Ms Xj [.d (.sl ((Ym d l x true).map Place.enc)),.d (Zb9 d (Box.mk bX bY bW bH) (x-loP d (Box.mk bX bY bW bH))).enc] []=some (plT (p d x)))
  (h2:∀ d x,Zc6 l (Box.mk bX bY bW bH)=some (d,x)→Zd Xs Ms Xj [.d (.sl ((Ym d l x false).map Place.enc)),.d (U8 d (Box.mk bX bY bW bH) (x-loP d (Box.mk bX bY bW bH))).enc] []=some (plT (q d x))) :
  Zd Xs Ms Jl [(.d (.sl (l.map Place.enc))),(.d (.agg [J bX,J bY,J bW,J bH]))] []=some (plT (match Zc6 l (Box.mk bX bY bW bH) with
   | some (d,x)=>ZgV d (x-loP d (Box.mk bX bY bW bH)) (p d x) (q d x)
   | none=>none)):=by
 have ef:=ZrO l bX bY bW bH hb aa (fun c hc=>(hl c hc).1);cases hc:Zc6 l (Box.mk bX bY bW bH) with
 | none=>
  rw[hc] at ef;unfold Zs5 at ef;unfold plT;refine cE ?_;simp +contextual -implicitDefEqProofs (maxSteps:=10^7) only[go_sem,seval,↓gZ,ZbI,ef]
 | some dx=>
  obtain⟨d,x⟩:=dx;obtain⟨g1,g2,g3⟩:=ZfJ hc;have af:=Zxm hb hl ⟨g1,g2⟩ g3;have k1:=h1 d x hc;have k2:=h2 d x hc;simp only[hc,Zs5] at ef;simp only;have ae:0≤x-loP d (Box.mk bX bY bW bH)∧x-loP d (Box.mk bX bY bW bH)≤400:=by
   simp only[VB] at hb;cases d<;>simp only[loP,hiP,Kk,Ka,Kj] at g1 g2 ⊢ <;> omega
  have es:=Zvp bX bY bW bH d (x-loP d (Box.mk bX bY bW bH)) hb ae;generalize x-loP d (Box.mk bX bY bW bH)=a at *;generalize p d x=p0 at k1 ⊢;generalize q d x=q0 at k2 ⊢;generalize Zb9 d (Box.mk bX bY bW bH) a=lb at *;generalize U8 d (Box.mk bX bY bW bH) a=hb' at *;clear h1 h2 ae g1 g2 g3 hc;obtain⟨lX,lY,lW,lH⟩:=lb;obtain⟨hX,hY,hW,hH⟩:=hb';simp only[Box.enc] at es k1 k2;refine cE ?_;simp +contextual -implicitDefEqProofs (maxSteps:=10^7) only[go_sem,seval,↓gZ,ZbI,ef,es];refine LO (α:=Nat) (fun i=>[(33,.d (J (i:Int)))]) (fun i=>[(0,.row 6 ((Ym d (l.take i) x false).map Place.enc) true false),(1,.row 6 ((Ym d (l.take i) x true).map Place.enc) true false)]) (fun i=>i≤l.length) (fun i=>l.length-i) 0 (by omega) ?_
  intro i hi ih;by_cases ab:i<l.length
  ·obtain⟨c,hx⟩:=Zl ab;have hw:=Zh (k:=i) (by omega);have pt:=Zjx (d:=d) (t:=x) (f:=true) hx;have pf:=Zjx (d:=d) (t:=x) (f:=false) hx;have ad:=af c (Kb hx);have ag:(Ym d (l.take i) x true).length≤i:=Kt (LL _ _) (by simp;omega);have ah:(Ym d (l.take i) x false).length≤i:=Kt (LL _ _) (by simp;omega);have rt:((Ym d (l.take i) x true).length+1)*48≤140737488355328∧(Ym d (l.take i) x true).length≤140737488355327:=by omega
   have rf:((Ym d (l.take i) x false).length+1)*48≤140737488355328∧(Ym d (l.take i) x false).length≤140737488355327:=by omega
   obtain⟨P,T,⟨X,Y,W,H⟩⟩:=c;have ei:=ZbA X Y W H lX lY lW lH;simp only at pt pf ad;by_cases hh:hiP d ⟨X,Y,W,H⟩≤x
   ·rw[Ke (ad.2 hh)] at ei;rw[Ke hh] at pt pf;rw[Kl rfl] at pt;rw[Ki (by simp)] at pf;simp +contextual -implicitDefEqProofs (maxSteps:=10^7) only[go_sem,seval,↓gZ,hx,ab,hw,ei,rt];refine ih (i+1) _ (by omega) (by omega) ?_;rw[pt,pf];simp +contextual -implicitDefEqProofs (maxSteps:=10^7) only[go_sem,seval,↓gZ,KG,KJ]
   ·rw[Kh (fun h=>hh (ad.1 h))] at ei;rw[Kh hh] at pt pf;rw[Ki (by simp)] at pt;rw[Kl rfl] at pf;simp +contextual -implicitDefEqProofs (maxSteps:=10^7) only[go_sem,seval,↓gZ,hx,ab,hw,ei,rf];refine ih (i+1) _ (by omega) (by omega) ?_;rw[pt,pf];simp +contextual -implicitDefEqProofs (maxSteps:=10^7) only[go_sem,seval,↓gZ,KG,KJ]
  ·have:i=l.length:=by omega
   subst this;rw[KB (Kq _)];cases p0 with
   | none=>
    unfold plT at k1;simp only[ZgV];unfold plT;simp +contextual -implicitDefEqProofs (maxSteps:=10^7) only[go_sem,seval,↓gZ,k1]
   | some bp=>
    obtain⟨po,pa,pq,pt,pk,ep⟩:=Zc7 bp;simp only[plT,ep] at k1;cases q0 with
    | none=>
     unfold plT at k2;simp only[ZgV];unfold plT;cases pk with
     | nil=>
      simp only[plO] at k1;simp +contextual -implicitDefEqProofs (maxSteps:=10^7) only[go_sem,seval,↓gZ,k1,k2]
     | cons p1 pr=>
      simp only[plO] at k1;simp +contextual -implicitDefEqProofs (maxSteps:=10^7) only[go_sem,seval,↓gZ,k1,k2]
    | some bq=>
     obtain⟨qo,qa,qq,qt,qk,eq⟩:=Zc7 bq;simp only[plT,eq] at k2;simp only[ZgV,plT,BT.plan,ep,eq,plO];cases pk with
     | nil=>
      simp only[plO] at k1;cases qk with
      | nil=>
       simp only[plO] at k2;simp +contextual -implicitDefEqProofs (maxSteps:=10^7) only[go_sem,seval,↓gZ,k1,k2]
      | cons q1 qr=>
       simp only[plO] at k2;simp +contextual -implicitDefEqProofs (maxSteps:=10^7) only[go_sem,seval,↓gZ,k1,k2]
     | cons p1 pr=>
      simp only[plO] at k1;cases qk with
      | nil=>
       simp only[plO] at k2;simp +contextual -implicitDefEqProofs (maxSteps:=10^7) only[go_sem,seval,↓gZ,k1,k2]
      | cons q1 qr=>
       simp only[plO] at k2;simp +contextual -implicitDefEqProofs (maxSteps:=10^7) only[go_sem,seval,↓gZ,k1,k2]
theorem Znk:∀ (n:Nat) (l:List L.Place) (bX bY bW bH:Int),VB (Box.mk bX bY bW bH)→InL l (Box.mk bX bY bW bH)→Apt l→(bW+bH).toNat≤n→l.length≤1000→Zd Xs Ms Xj [(.d (.sl (l.map Place.enc))),(.d (.agg [J bX,J bY,J bW,J bH]))] []=some (plT (Vh n l (Box.mk bX bY bW bH))):=by
 intro n
 induction n with
 | zero=>
  intro l bX bY bW bH hb _ _ hn _;simp only[VB] at hb;omega
 | succ n IH=>
  intro l bX bY bW bH hb hl ha hn ab;cases l with
  | nil=>
   simp only[Vh,plT,plO,BT.plan];refine cE ?_;simp +contextual -implicitDefEqProofs (maxSteps:=10^7) only[go_sem,seval,↓gZ,Yz]
  | cons c r=>
   by_cases hp:c.Box=(Box.mk bX bY bW bH)
   ·have hr:=ZAX ha hl hp;subst hr;obtain⟨P,T,⟨X,Y,W,H⟩⟩:=c;simp only at hp;have ag:Vh (n+1) [⟨P,T,⟨X,Y,W,H⟩⟩] (Box.mk bX bY bW bH)=some (.pane P T):=by rw[Vh,Kl ⟨rfl,hp⟩]
    rw[ag];simp only[Box.mk.injEq] at hp;obtain⟨rfl,rfl,rfl,rfl⟩:=hp;simp only[plT,plO,BT.plan];refine cE ?_;simp +contextual -implicitDefEqProofs (maxSteps:=10^7) only[go_sem,seval,↓gZ,Yz]
   ·have aa:=ZoB (c :: r) bX bY bW bH (fun d x=>Vh n (Ym d (c :: r) x true) (Zb9 d (Box.mk bX bY bW bH) (x-loP d (Box.mk bX bY bW bH)))) (fun d x=>Vh n (Ym d (c :: r) x false) (U8 d (Box.mk bX bY bW bH) (x-loP d (Box.mk bX bY bW bH)))) hb hl ab
     (fun d x h=>by
      obtain⟨h1,h2,h3⟩:=ZfJ h;obtain⟨⟨g1,g2⟩,g3,g4⟩:=Zop hb hl ⟨h1,h2⟩ h3;obtain⟨s1,s2⟩:=Zpq hb ⟨h1,h2⟩;simp only at s1 s2;exact IH _ _ _ _ _ g1 g2 (Zvo ha) (by omega) (Kt (Zin _ _ _ _) ab))
     (fun d x h=>by
      obtain⟨h1,h2,h3⟩:=ZfJ h;obtain⟨⟨g1,g2⟩,g3,g4⟩:=Zop hb hl ⟨h1,h2⟩ h3;obtain⟨s1,s2⟩:=Zpq hb ⟨h1,h2⟩;simp only at s1 s2;exact IH _ _ _ _ _ g3 g4 (Zvo ha) (by omega) (Kt (Zin _ _ _ _) ab))
    have hX:Vh (n+1) (c :: r) (Box.mk bX bY bW bH)=match Zc6 (c :: r) (Box.mk bX bY bW bH) with
     | some (d,x)=>ZgV d (x-loP d (Box.mk bX bY bW bH)) (Vh n (Ym d (c :: r) x true) (Zb9 d (Box.mk bX bY bW bH) (x-loP d (Box.mk bX bY bW bH)))) (Vh n (Ym d (c :: r) x false) (U8 d (Box.mk bX bY bW bH) (x-loP d (Box.mk bX bY bW bH))))
     | none=>none:=by rw[Vh,Ki (fun h=>hp h.2)];try rfl
    rw[← hX] at aa;clear hX IH hl ha;generalize Vh (n+1) (c :: r) (Box.mk bX bY bW bH)=X at aa ⊢;have ad:(c :: r)[0]?=some c:=rfl;have ae:¬(((c :: r).length:Nat):Int)=0:=by simp only[Km];omega
    have af:0<(c :: r).length:=by simp
    generalize c :: r=l at *;obtain⟨P,T,⟨cX,cY,cW,cH⟩⟩:=c;simp only[Box.mk.injEq] at hp;cases X with
    | none=>
     unfold plT at aa ⊢;refine cE ?_;simp +contextual -implicitDefEqProofs (maxSteps:=10^7) only[go_sem,seval,↓gZ,Yz,ae,af,ad,hp,aa]
    | some bq=>
     obtain⟨qo,qa,qq,qt,qk,eq⟩:=Zc7 bq;simp only[plT,eq] at aa ⊢;cases qk with
     | nil=>
      simp only[plO] at aa ⊢;refine cE ?_;simp +contextual -implicitDefEqProofs (maxSteps:=10^7) only[go_sem,seval,↓gZ,Yz,ae,af,ad,hp,aa]
     | cons q1 qr=>
      simp only[plO] at aa ⊢;refine cE ?_;simp +contextual -implicitDefEqProofs (maxSteps:=10^7) only[go_sem,seval,↓gZ,Yz,ae,af,ad,hp,aa]
def ZgK (l:List Box):Prop:=l.Pairwise fun a c=>¬Xu a c
instance (l:List Box):Decidable (ZgK l):=by unfold ZgK;infer_instance
def ZcU (k:Zs) (c:L.Place):Prop:=(VB c.Box∧ZT c.Box ⟨0,0,k.W,k.H⟩)∧Yc k.Panes c.Pane c.Turned c.Box.W c.Box.H=true
instance (k:Zs) (c:L.Place):Decidable (ZcU k c):=by unfold ZcU;infer_instance
def VPl (k:Zs) (l:List L.Place):Prop:=(VW k∧l.length≤12)∧(∀ c∈l,ZcU k c)∧ZgK (l.map L.Place.Box)
instance (k:Zs) (l:List L.Place):Decidable (VPl k l):=by unfold VPl;infer_instance
theorem ZoC {a b:Box}:Xu a b↔Xu b a:=by unfold Xu;omega
theorem Zxn {l:List Box} {i:Nat} {x:Box} (hx:l[i]?=some x) (h:ZgK (l.take i)) (hn:∀ y∈l.take i,¬Xu x y):ZgK (l.take (i+1)):=by
 unfold ZgK at h ⊢;rw[Kw,hx,LA];exact⟨h,by simp,fun a ha b hb=>by simp at hb;subst hb;exact fun hm=>hn a ha (ZoC.1 hm)⟩
theorem ZzB {l:List Box} {i j:Nat} {x y:Box} (aa:j<i) (hx:l[i]?=some x) (hy:l[j]?=some y) (hm:Xu x y):¬ZgK l:=fun h=>by
 obtain⟨h1,rfl⟩:=Kc.1 hx;obtain⟨h2,rfl⟩:=Kc.1 hy;exact(List.pairwise_iff_getElem.1 h) j i h2 h1 aa (ZoC.1 hm)
theorem Znl (l:List Box) (hv:∀ b∈l,VB b) (hl:l.length≤24):Zd Xs Ms W5 [(.d (.sl (l.map Box.enc)))] []=some ((.d (.bool true)),[]):=by
 have ab:¬(24:Int)<(l.length:Int):=by omega
 refine cE ?_;simp +contextual -implicitDefEqProofs (maxSteps:=10^7) only[go_sem,seval,↓gZ,Zdu,ab];refine LO (α:=Nat) (fun i=>[(10,.d (J (i:Int)))]) (fun _=>[]) (fun i=>i≤l.length) (fun i=>l.length-i) 0 (by omega) ?_;intro i hi ih;by_cases aa:i<l.length
 ·obtain⟨x,hx⟩:=Zl aa;have hw:=Zh (k:=i) (by omega);have hb:=hv x (Kb hx);obtain⟨X,Y,W,H⟩:=x;have e:=Yk X Y W H;rw[Ke hb] at e;simp +contextual -implicitDefEqProofs (maxSteps:=10^7) only[go_sem,seval,↓gZ,hx,aa,hw,e];refine ih (i+1) _ (by omega) (by omega) ?_;simp +contextual -implicitDefEqProofs (maxSteps:=10^7) only[go_sem,seval,↓gZ]
 ·simp +contextual -implicitDefEqProofs (maxSteps:=10^7) only[go_sem,seval,↓gZ,aa]
theorem Znm (l:List Box) (hv:∀ b∈l,VB b) (hl:l.length≤24):Zd Xs Ms W3 [(.d (.sl (l.map Box.enc)))] []=some ((.d (.bool (decide (ZgK l)))),[]):=by
 have e1:=Znl l hv hl;refine cE ?_;simp +contextual -implicitDefEqProofs (maxSteps:=10^7) only[go_sem,seval,↓gZ,Zds,e1];refine LO (α:=Nat) (fun i=>[(14,.d (J (i:Int)))]) (fun _=>[]) (fun i=>i≤l.length∧ZgK (l.take i)) (fun i=>l.length-i) 0 ⟨by omega,by simp[ZgK]⟩ ?_;intro i ⟨hi,hp⟩ ih;by_cases af:i<l.length
 ·obtain⟨x,hx⟩:=Zl af;have hw:=Zh (k:=i) (by omega);have hb:=hv x (Kb hx);have ai:i≤l.length:=hi;have ab:(l.take i).length=i:=by simp;omega
  have ad:=Zxn hx hp;obtain⟨X,Y,W,H⟩:=x;simp +contextual -implicitDefEqProofs (maxSteps:=10^7) only[go_sem,seval,↓gZ,hx,af,hw,ai];refine XP Xs Ms (st0:=?st1) (α:=Nat) (fun j=>[(23,.d (J (j:Int)))]) (fun _=>[]) (fun j=>j≤i∧∀ y∈l.take j,¬Xu ⟨X,Y,W,H⟩ y) (fun j=>i-j) 0 ?hc2 ⟨by omega,by simp⟩ ?h02 ?step2
  case hc2=>simp +contextual -implicitDefEqProofs (maxSteps:=10^7) only[go_sem,seval,↓gZ]<;>exact rfl
  case h02=>rfl
  case step2=>
   intro j ⟨hj,hq⟩ aj;by_cases aa:j<i
   ·obtain⟨y,hy⟩:=Zl (l:=l) (k:=j) (by omega);have ag:=Zh (k:=j) (by omega);have ak:=hv y (Kb hy);have ah:(l.take i)[j]?=some y:=by rw[List.getElem?_take_of_lt aa];exact hy
    have ae:=ZzB aa hx hy;have al:l.take (j+1)=l.take j++[y]:=by rw[Kw,hy];simp
    obtain⟨X',Y',W',H'⟩:=y;by_cases hm:Xu ⟨X,Y,W,H⟩ ⟨X',Y',W',H'⟩
    ·have e:=Zcp X Y W H X' Y' W' H' hb ak hm;have hn:=ae hm;rw[Kh hn];simp +contextual -implicitDefEqProofs (maxSteps:=10^7) only[go_sem,seval,↓gZ,ah,aa,ab,ag,e,Kv,ZgX]
    ·have e:=ZdY X Y W H X' Y' W' H' (fun h=>hm h.2.2);simp +contextual -implicitDefEqProofs (maxSteps:=10^7) only[go_sem,seval,↓gZ,ah,aa,ab,ag,e,Kv];refine aj (j+1) _ ⟨by omega,?_⟩ (by omega) ?_
     ·rw[al];intro z hz;rcases Kf.1 hz with hz | hz
      ·exact hq z hz
      ·simp at hz;subst hz;exact hm
     ·simp +contextual -implicitDefEqProofs (maxSteps:=10^7) only[go_sem,seval,↓gZ,ab]
   ·have:j=i:=by omega
    subst this;simp +contextual -implicitDefEqProofs (maxSteps:=10^7) only[go_sem,seval,↓gZ,aa,ab,hw,Kv];refine ih (j+1) _ ⟨by omega,ad hq⟩ (by omega) ?_;simp +contextual -implicitDefEqProofs (maxSteps:=10^7) only[go_sem,seval,↓gZ]
 ·have:i=l.length:=by omega
  subst this;rw[KB (Kq _)] at hp;rw[Ke hp];simp +contextual -implicitDefEqProofs (maxSteps:=10^7) only[go_sem,seval,↓gZ]
theorem Zln (kW kH:Int) (kP:List Pane) (l:List L.Place):Zd Xs Ms Wa [(.d (.agg [J kW,J kH,.sl (kP.map Pane.enc)])),(.d (.sl (l.map Place.enc)))] []=some ((.d (.bool (decide (VPl (Zs.mk kW kH kP) l)))),[]):=by
 have ew:=WR kW kH kP;by_cases hw:VW (Zs.mk kW kH kP)
 ·rw[Ke hw] at ew;by_cases af:(12:Int)<(l.length:Int)
  ·have hn:¬VPl (Zs.mk kW kH kP) l:=fun h=>by have:=h.1.2;omega
   refine cE ?_;simp +contextual -implicitDefEqProofs (maxSteps:=10^7) only[go_sem,seval,↓gZ,Wc,ew,af,hn]
  ·have es:=Zcq kW kH kP;have ah:l.length≤12:=by omega
   have ai:=hw;simp only[VW] at hw;have aj:VB ⟨0,0,kW,kH⟩:=by simp only[VB];omega
   refine cE ?_;simp +contextual -implicitDefEqProofs (maxSteps:=10^7) only[go_sem,seval,↓gZ,Wc,ew,af];refine LO (α:=Nat) (fun i=>[(19,.d (J (i:Int)))]) (fun i=>[(0,.row 4 (((l.take i).map L.Place.Box).map Box.enc) true false)]) (fun i=>i≤l.length∧∀ c∈l.take i,ZcU (Zs.mk kW kH kP) c) (fun i=>l.length-i) 0 ⟨by omega,by simp⟩ ?_;intro i ⟨hi,hp⟩ ih;by_cases aa:i<l.length
   ·obtain⟨c,hx⟩:=Zl aa;have ab:=Zh (k:=i) (by omega);have ag:l.take (i+1)=l.take i++[c]:=by rw[Kw,hx];simp
    have ad:=Kb hx;have am:(l.take i).length≤i:=by simp;omega
    have hr:((l.take i).length+1)*32≤140737488355328∧(l.take i).length≤140737488355327:=by omega
    have ae:¬ZcU (Zs.mk kW kH kP) c→¬VPl (Zs.mk kW kH kP) l:=fun h h'=>h (h'.2.1 c ad);have ak:ZcU (Zs.mk kW kH kP) c→∀ z∈l.take (i+1),ZcU (Zs.mk kW kH kP) z:=fun h z hz=>by
     rw[ag] at hz;rcases Kf.1 hz with hz | hz
     ·exact hp z hz
     ·simp at hz;subst hz;exact h
    obtain⟨P,T,⟨X,Y,W,H⟩⟩:=c;have e1:=Yk X Y W H;have e2:=ZbA X Y W H 0 0 kW kH;have e3:=Zg2 kW kH kP P T W H;by_cases v1:VB ⟨X,Y,W,H⟩
    ·rw[Ke v1] at e1;by_cases v2:VB ⟨X,Y,W,H⟩∧VB ⟨0,0,kW,kH⟩∧ZT ⟨X,Y,W,H⟩ ⟨0,0,kW,kH⟩
     ·rw[Ke v2] at e2;cases v3:Yc kP P T W H with
      | true=>
       rw[v3] at e3;have al:ZcU (Zs.mk kW kH kP) ⟨P,T,⟨X,Y,W,H⟩⟩:=⟨⟨v1,v2.2.2⟩,v3⟩
       simp +contextual -implicitDefEqProofs (maxSteps:=10^7) only[go_sem,seval,↓gZ,hx,aa,ab,e1,e2,e3,es,hr];refine ih (i+1) _ ⟨by omega,ak al⟩ (by omega) ?_;rw[ag,KG];simp +contextual -implicitDefEqProofs (maxSteps:=10^7) only[go_sem,seval,↓gZ,KG]
      | false=>
       rw[v3] at e3;have hn:=ae (fun h=>by have:=h.2;simp only at this;rw[v3] at this;cases this);rw[Kh hn];simp +contextual -implicitDefEqProofs (maxSteps:=10^7) only[go_sem,seval,↓gZ,hx,aa,ab,e1,e2,e3,es]
     ·rw[Kh v2] at e2;have hn:=ae (fun h=>v2 ⟨v1,aj,h.1.2⟩);rw[Kh hn];simp +contextual -implicitDefEqProofs (maxSteps:=10^7) only[go_sem,seval,↓gZ,hx,aa,ab,e1,e2,es]
    ·rw[Kh v1] at e1;have hn:=ae (fun h=>v1 h.1.1);rw[Kh hn];simp +contextual -implicitDefEqProofs (maxSteps:=10^7) only[go_sem,seval,↓gZ,hx,aa,ab,e1]
   ·have:i=l.length:=by omega
    subst this;rw[KB (Kq _)] at hp ⊢;have ea:=Znm (l.map L.Place.Box) (fun b hb=>by
     obtain⟨c,hc,rfl⟩:=KX.1 hb;exact(hp c hc).1.1) (by simp;omega)
    simp +contextual -implicitDefEqProofs (maxSteps:=10^7) only[go_sem,seval,↓gZ,ea];exact Zcn ⟨fun h=>⟨⟨ai,ah⟩,hp,h⟩,fun h=>h.2.2⟩
 ·rw[Kh hw] at ew;have hn:¬VPl (Zs.mk kW kH kP) l:=fun h=>hw h.1.1;refine cE ?_;simp +contextual -implicitDefEqProofs (maxSteps:=10^7) only[go_sem,seval,↓gZ,Wc,ew,hn]
def popL (k:Zs) (l:List L.Place):Option BT:=if VPl k l then Vh (k.W+k.H).toNat l ⟨0,0,k.W,k.H⟩ else none
theorem ZsG {k:Zs} {l:List L.Place} (h:VPl k l):VB ⟨0,0,k.W,k.H⟩∧InL l ⟨0,0,k.W,k.H⟩∧Apt l∧(∀ c∈l,Yc k.Panes c.Pane c.Turned c.Box.W c.Box.H=true):=by
 obtain⟨⟨h1,h2⟩,h3,h4⟩:=h;refine⟨by simp only[VW] at h1;simp only[VB];omega,fun c hc=>(h3 c hc).1,?_,fun c hc=>(h3 c hc).2⟩;unfold ZgK at h4;rw[List.pairwise_map] at h4;exact h4
theorem Zj8 (kW kH:Int) (kP:List Pane) (l:List L.Place):Zd Xs Ms Ys [(.d (.agg [J kW,J kH,.sl (kP.map Pane.enc)])),(.d (.sl (l.map Place.enc)))] []=some (plT (popL (Zs.mk kW kH kP) l)):=by
 have e1:=Zln kW kH kP l;unfold popL;by_cases hv:VPl (Zs.mk kW kH kP) l
 ·obtain⟨h1,h2,h3,_⟩:=ZsG hv;rw[Ke hv] at e1;rw[Kl hv];have es:=Zcq kW kH kP;have ep:=Znk (kW+kH).toNat l 0 0 kW kH h1 h2 h3 (Kq _) (by have:=hv.1.2;omega);generalize Vh (kW+kH).toNat l ⟨0,0,kW,kH⟩=X at ep ⊢;cases X with
  | none=>
   unfold plT at ep ⊢;refine cE ?_;simp +contextual -implicitDefEqProofs (maxSteps:=10^7) only[go_sem,seval,↓gZ,Yt,e1,es,ep]
  | some b=>
   obtain⟨o,a,q,t,ks,eb⟩:=Zc7 b;simp only[plT,eb] at ep ⊢;cases ks with
   | nil=>
    simp only[plO] at ep ⊢;refine cE ?_;simp +contextual -implicitDefEqProofs (maxSteps:=10^7) only[go_sem,seval,↓gZ,Yt,e1,es,ep]
   | cons k1 kr=>
    simp only[plO] at ep ⊢;refine cE ?_;simp +contextual -implicitDefEqProofs (maxSteps:=10^7) only[go_sem,seval,↓gZ,Yt,e1,es,ep]
 ·rw[Kh hv] at e1;rw[Ki hv];unfold plT;refine cE ?_;simp +contextual -implicitDefEqProofs (maxSteps:=10^7) only[go_sem,seval,↓gZ,Yt,e1]
theorem Zbh:∀ (b:BT),Zd Xs Ms Wl [.d b.plan.enc,.d b.plan.enc] []=some ((.d (.bool true)),[])
 | .waste=>by
  have nb:∀ a b:Bool,ZjT .neq true (.d (.bool a)) (.d (.bool b))=QD (.d (.bool (!(a==b)))):=fun _ _=>rfl;simp only[BT.plan,Ze.enc_mk];refine cE ?_;simp +contextual -implicitDefEqProofs (maxSteps:=10^7) only[go_sem,seval,↓gZ,Jn,nb,beq_self_eq_true];refine ZN Xs Ms ?_;simp +contextual -implicitDefEqProofs (maxSteps:=10^7) only[go_sem,seval,↓gZ]
 | .pane i t=>by
  have nb:∀ a b:Bool,ZjT .neq true (.d (.bool a)) (.d (.bool b))=QD (.d (.bool (!(a==b)))):=fun _ _=>rfl;simp only[BT.plan,Ze.enc_mk];refine cE ?_;simp +contextual -implicitDefEqProofs (maxSteps:=10^7) only[go_sem,seval,↓gZ,Jn,nb,beq_self_eq_true];refine ZN Xs Ms ?_;simp +contextual -implicitDefEqProofs (maxSteps:=10^7) only[go_sem,seval,↓gZ]
 | .cut d a l r=>by
  have nb:∀ a b:Bool,ZjT .neq true (.d (.bool a)) (.d (.bool b))=QD (.d (.bool (!(a==b)))):=fun _ _=>rfl;have e1:=Zbh l;have e2:=Zbh r;have c2:(1:Int)<((2:Nat):Int):=by omega
  have c3:(0:Int)<((2:Nat):Int):=by omega
  have c4:¬(2:Int)<((2:Nat):Int):=by omega
  simp only[BT.plan,Ze.enc_mk];refine cE ?_;simp +contextual -implicitDefEqProofs (maxSteps:=10^7) only[go_sem,seval,↓gZ,Jn,nb,beq_self_eq_true];refine ZN Xs Ms ?_;simp +contextual -implicitDefEqProofs (maxSteps:=10^7) only[go_sem,seval,↓gZ,e1,c3];refine ZN Xs Ms ?_;simp +contextual -implicitDefEqProofs (maxSteps:=10^7) only[go_sem,seval,↓gZ,e2,c2];refine ZN Xs Ms ?_;simp +contextual -implicitDefEqProofs (maxSteps:=10^7) only[go_sem,seval,↓gZ,c4]
end Go.Proofs.YtbpekaejmjlmfaaGreat
