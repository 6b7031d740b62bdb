/- Own text. -/
import Derived.Test.YtefabmohhbhlfaaACode
import Derived.Test.YtefabmohhbhlfaaAbsParts
import Derived.Test.YtefabmohhbhlfaaAC5
import Derived.Test.YtefabmohhbhlfaaAC11
import Derived.Test.YtefabmohhbhlfaaAbsOkD
namespace Go.Proofs.Ytefabmohhbhlfaa
open Go Go.Abs Go.Abs.E Go.Abs.L
open Nat (reduceMul reduceSub reduceLeDiff reduceEqDiff)
open Int (reduceLE reduceEq reduceToNat reduceNeg)
set_option linter.unusedSimpArgs false
set_option linter.unusedVariables false
set_option maxRecDepth 20000
set_option maxHeartbeats 4000000
inductive GA:List L.Place→Box→Prop
 | nil (b:Box):GA [] b
 | one (c:L.Place):GA [c] c.Box
 | cut (d:Bool) (x:Int) {l:List L.Place} {b:Box}:loP d b<x→x<hiP d b→crs d l x=false→GA (ZJ d l x true) (QZ d b (x-loP d b))→GA (ZJ d l x false) (Z5 d b (x-loP d b))→GA l b
theorem Zbk (d e:Bool) (l:List L.Place) (x y:Int) (f g:Bool):ZJ d (ZJ e l y g) x f=ZJ e (ZJ d l x f) y g:=by
 unfold ZJ;rw[L0,L0];congr 1
 funext c
 exact Bool.and_comm _ _
theorem ZmY {d:Bool} {l:List L.Place} {x y:Int} (h:x≤y):ZJ d (ZJ d l y true) x true=ZJ d l x true:=by
 unfold ZJ;rw[L0];congr 1
 funext c
 by_cases h1:hiP d c.Box≤x
 ·have h2:hiP d c.Box≤y:=by omega
  simp[h1,h2]
 ·simp[h1]
theorem ZmZ {d:Bool} {l:List L.Place} {x y:Int} (h:x≤y):ZJ d (ZJ d l x false) y false=ZJ d l y false:=by
 unfold ZJ;rw[L0];congr 1
 funext c
 by_cases h1:hiP d c.Box≤y
 ·simp[h1]
 ·have h2:¬hiP d c.Box≤x:=by omega
  simp[h1,h2]
theorem UJ {d e:Bool} {l:List L.Place} {x y:Int} {f:Bool} (h:crs d l y=false):crs d (ZJ e l x f) y=false:=
 Lp.2 fun c hc=>Lp.1 h c (Lk.1 hc).1
theorem ZpO (d:Bool) (b:Box) (a:Int):loP d (QZ d b a)=loP d b∧hiP d (QZ d b a)=loP d b+a∧loP d (Z5 d b a)=loP d b+a∧hiP d (Z5 d b a)=hiP d b:=by
 cases d<;>simp only[loP,hiP,QZ,Z5,Kg,Ka,Kf,true_and]<;>omega
theorem ZpP (d:Bool) (b:Box) (a:Int):loP (!d) (QZ d b a)=loP (!d) b∧hiP (!d) (QZ d b a)=hiP (!d) b∧loP (!d) (Z5 d b a)=loP (!d) b∧hiP (!d) (Z5 d b a)=hiP (!d) b:=by
 cases d<;>simp[loP,hiP,QZ,Z5]
theorem ZpQ (d:Bool) (b:Box) (a e:Int):QZ d (QZ d b a) e=QZ d b e:=by cases d<;>rfl
theorem ZkP (d:Bool) (b:Box) (a e:Int):Z5 d (Z5 d b a) e=Z5 d b (a+e):=by
 cases d<;>simp only[Z5,Kg,Ka,Kf,Box.mk.injEq,true_and,and_true]<;>omega
theorem Zm0 (d:Bool) (b:Box) (a e:Int):Z5 d (QZ d b a) e=QZ d (Z5 d b e) (a-e):=by cases d<;>rfl
theorem ll (d:Bool) (b:Box) (a e:Int):QZ (!d) (QZ d b a) e=QZ d (QZ (!d) b e) a:=by cases d<;>rfl
theorem hl (d:Bool) (b:Box) (a e:Int):Z5 (!d) (QZ d b a) e=QZ d (Z5 (!d) b e) a:=by cases d<;>rfl
theorem lh (d:Bool) (b:Box) (a e:Int):QZ (!d) (Z5 d b a) e=Z5 d (QZ (!d) b e) a:=by cases d<;>rfl
theorem hh (d:Bool) (b:Box) (a e:Int):Z5 (!d) (Z5 d b a) e=Z5 d (Z5 (!d) b e) a:=by cases d<;>rfl
theorem GA_her {l:List L.Place} {b:Box} (h:GA l b):∀ (d:Bool) (x:Int),loP d b<x→x<hiP d b→crs d l x=false→GA (ZJ d l x true) (QZ d b (x-loP d b))∧GA (ZJ d l x false) (Z5 d b (x-loP d b)):=by
 induction h with
 | nil b=>exact fun d x _ _ _=>⟨.nil _,.nil _⟩
 | one c=>
  intro d x h1 h2 h3;exact absurd (ZeF h3 c (by simp)) (by omega)
 | @cut d' x' l b h1 h2 h3 hlo hhi ihl ihh=>
  intro d x g1 g2 g3;obtain⟨b1,b2,b3,b4⟩:=ZpO d' b (x' - loP d' b);by_cases hd:d=d'
  ·subst hd;obtain⟨c1,c2,c3,c4⟩:=ZpO d b (x-loP d b);rcases Int.lt_trichotomy x x' with ab | rfl | ad
   ·obtain⟨A,B⟩:=ihl d x (by rw[b1];exact g1) (by rw[b2];omega) (UJ g3);rw[b1] at A B;rw[ZmY (by omega),ZpQ] at A;rw[Zbk,Zm0] at B;refine⟨A,.cut d x' (by rw[c3];omega) (by rw[c4];exact h2) (UJ h3) ?_ ?_⟩
    ·rw[c3,show x' - (loP d b+(x-loP d b))=x' - loP d b-(x-loP d b) by omega];exact B
    ·rw[c3,ZmZ (by omega),ZkP,show x-loP d b+(x' - (loP d b+(x-loP d b)))=x' - loP d b by omega];exact hhi
   ·exact⟨hlo,hhi⟩
   ·obtain⟨A,B⟩:=ihh d x (by rw[b3];omega) (by rw[b4];exact g2) (UJ g3);rw[b3] at A B;rw[Zbk] at A;rw[ZmZ (by omega),ZkP,show x' - loP d b+(x-(loP d b+(x' - loP d b)))=x-loP d b by omega] at B;refine⟨.cut d x' (by rw[c1];exact h1) (by rw[c2];omega) (UJ h3) ?_ ?_,B⟩
    ·rw[c1,ZmY (by omega),ZpQ];exact hlo
    ·rw[c1,Zm0,show x-loP d b-(x' - loP d b)=x-(loP d b+(x' - loP d b)) by omega];exact A
  ·obtain rfl:d=!d':=by cases d<;>cases d' <;> simp_all
   obtain⟨c1,c2,c3,c4⟩:=ZpP d' b (x' - loP d' b);have aa:(!(!d'))=d':=Bool.not_not d';obtain⟨e1,e2,e3,e4⟩:=ZpP (!d') b (x-loP (!d') b);rw[aa] at e1 e2 e3 e4;obtain⟨A1,B1⟩:=ihl (!d') x (by rw[c1];exact g1) (by rw[c2];exact g2) (UJ g3);obtain⟨A2,B2⟩:=ihh (!d') x (by rw[c3];exact g1) (by rw[c4];exact g2) (UJ g3);rw[c1,Zbk] at A1 B1;rw[c3,Zbk] at A2 B2;rw[ll] at A1;rw[hl] at B1;rw[lh] at A2;rw[hh] at B2;refine⟨.cut d' x' (by rw[e1];exact h1) (by rw[e2];exact h2) (UJ h3) ?_ ?_,.cut d' x' (by rw[e3];exact h1) (by rw[e4];exact h2) (UJ h3) ?_ ?_⟩
   ·rw[e1];exact A1
   ·rw[e1];exact A2
   ·rw[e3];exact B1
   ·rw[e3];exact B2
theorem Zow (f:L.Place→Int) (p:L.Place→Prop):∀ (l:List L.Place),(∃ c∈l,p c)→∃ c∈l,p c∧∀ y∈l,p y→f c≤f y
 | [],⟨c,hc,_⟩=>by cases hc
 | z :: l,⟨c,hc,hp⟩=>by
  by_cases h:∃ c∈l,p c
  ·obtain⟨m,h1,h2,h3⟩:=Zow f p l h;by_cases hz:p z∧f z≤f m
   ·exact⟨z,by simp,hz.1,fun y hy aa=>by
     rcases Ke.1 hy with rfl | hy
     ·exact Int.le_refl _
     ·have:=h3 y hy aa;omega⟩
   ·exact⟨m,by simp[h1],h2,fun y hy aa=>by
     rcases Ke.1 hy with rfl | hy
     ·have:¬f y≤f m:=fun h=>hz ⟨aa,h⟩;omega
     ·exact h3 y hy aa⟩
  ·have ab:c=z:=by
    rcases Ke.1 hc with h1 | h1
    ·exact h1
    ·exact absurd ⟨c,h1,hp⟩ h
   subst ab;exact⟨c,by simp,hp,fun y hy aa=>by
    rcases Ke.1 hy with rfl | hy
    ·exact Int.le_refl _
    ·exact absurd ⟨y,hy,aa⟩ h⟩
theorem ZqJ {d:Bool} {l:List L.Place} {B0 B1 x:Int} (hn:l≠[]) (hs:∀ c∈l,B0≤loP d c.Box∧loP d c.Box<hiP d c.Box∧hiP d c.Box≤B1) (h0:B0<x) (h1:x<B1) (hc:crs d l x=false):∃ y,B0<y∧y<B1∧tch d l y=true∧crs d l y=false:=by
 have aa:=ZeF hc;by_cases h:∃ c∈l,x≤loP d c.Box
 ·obtain⟨c,g1,g2,g3⟩:=Zow (fun c=>loP d c.Box) (fun c=>x≤loP d c.Box) l h;have:=hs c g1;refine⟨loP d c.Box,by omega,by omega,Lt.2 ⟨c,g1,by simp⟩,Lp.2 fun y hy=>?_⟩;simp only[Kj];rcases aa y hy with h | h
  ·omega
  ·have:=g3 y hy h;omega
 ·obtain⟨c0,ab⟩:=List.exists_mem_of_ne_nil l hn;obtain⟨c,g1,_,g3⟩:=Zow (fun c=>- hiP d c.Box) (fun _=>True) l ⟨c0,ab,trivial⟩;have:=hs c g1;have ad:hiP d c.Box≤x:=by
   rcases aa c g1 with h2 | h2
   ·exact h2
   ·exact absurd ⟨c,g1,h2⟩ h
  refine⟨hiP d c.Box,by omega,by omega,Lt.2 ⟨c,g1,by simp⟩,Lp.2 fun y hy=>?_⟩;simp only[Kj];have:=g3 y hy trivial;omega
theorem ZfJ {d:Bool} {l:List L.Place} {fr:Int}:∀ {n:Nat},J5 d l fr n=none→∀ y,fr<y→y<fr+1+n→¬(tch d l y=true∧crs d l y=false)
 | 0,_,y,h1,h2=>by omega
 | n+1,h,y,h1,h2=>by
  unfold J5 at h;split at h
  ·cases h
  ·rename_i h0;split at h
   ·cases h
   ·rename_i hc;by_cases hy:y=fr+1+(n:Int)
    ·rw[hy];exact hc
    ·exact ZfJ h0 y h1 (by omega)
theorem Zm1 {l:List L.Place} {b:Box} (hb:VB b) (hl:InL l b) (hn:l≠[]) (h:GA l b) (h1:∀ c,l=[c]→c.Box≠b):∃ d x,UK l b=some (d,x):=by
 cases h with
 | nil=>exact absurd rfl hn
 | one c=>exact absurd rfl (h1 c rfl)
 | cut d x g1 g2 g3 _ _=>
  have hs:∀ c∈l,loP d b≤loP d c.Box∧loP d c.Box<hiP d c.Box∧hiP d c.Box≤hiP d b:=fun c hc=>by
   obtain⟨k1,k2⟩:=hl c hc;simp only[VB] at k1;simp only[ZQ] at k2;cases d<;>simp only[loP,hiP,Kg,Ka,Kf]<;>omega
  obtain⟨y,y1,y2,y3,y4⟩:=ZqJ hn hs g1 g2 g3;simp only[VB] at hb;unfold UK;cases d
  ·cases e1:J5 true l b.X (b.W-1).toNat with
   | some z=>exact⟨_,_,rfl⟩
   | none=>
    cases e2:J5 false l b.Y (b.H-1).toNat with
    | some z=>exact⟨_,_,rfl⟩
    | none=>
     simp only[loP,hiP,Ka,Kf] at y1 y2;exact absurd ⟨y3,y4⟩ (ZfJ e2 y y1 (by omega))
  ·cases e1:J5 true l b.X (b.W-1).toNat with
   | some z=>exact⟨_,_,rfl⟩
   | none=>
    simp only[loP,hiP,Kg] at y1 y2;exact absurd ⟨y3,y4⟩ (ZfJ e1 y y1 (by omega))
theorem Zm2:∀ (n:Nat) (l:List L.Place) (b:Box),VB b→InL l b→GA l b→(b.W+b.H).toNat≤n→∃ t,XK n l b=some t:=by
 intro n
 induction n with
 | zero=>intro l b hb _ _ hn;simp only[VB] at hb;omega
 | succ n IH=>
  intro l b hb hl hg hn;cases l with
  | nil=>exact⟨_,rfl⟩
  | cons c r=>
   by_cases hp:r=[]∧c.Box=b
   ·exact⟨_,by rw[XK,Km hp]⟩
   ·obtain⟨d,x,hc⟩:=Zm1 hb hl (by simp) hg fun c' e aa=>by
     cases e;exact hp ⟨rfl,aa⟩
    obtain⟨h1,h2,h3⟩:=Jw hc;obtain⟨⟨g1,g2⟩,g3,g4⟩:=ZeG hb hl ⟨h1,h2⟩ h3;obtain⟨A,B⟩:=GA_her hg d x h1 h2 h3;obtain⟨s1,s2⟩:=Zib hb ⟨h1,h2⟩;obtain⟨ta,ha⟩:=IH _ _ g1 g2 A (by omega);obtain⟨tb,aa⟩:=IH _ _ g3 g4 B (by omega);exact⟨_,by rw[ZkR hp hc,ha,aa];rfl⟩
theorem ZkQ {d:Bool} {A B:List L.Place} {x:Int} (hA:∀ c∈A,hiP d c.Box≤x) (hB:∀ c∈B,x<hiP d c.Box):ZJ d (A++B) x true=A∧ZJ d (A++B) x false=B:=by
 unfold ZJ;rw[Kai,Kai];refine⟨?_,?_⟩
 ·rw[LU.2 fun c hc=>by simp[hA c hc],List.filter_eq_nil_iff.2 fun c hc=>by have:=hB c hc;simp;omega,K6]
 ·rw[List.filter_eq_nil_iff.2 fun c hc=>by simp[hA c hc],LU.2 fun c hc=>by have:=hB c hc;simp;omega,Lz]
theorem Zh5 {ps:List Pane}:∀ {b:BT} {x y w h:Int},Qd ps b w h=true→1≤w→1≤h→GA (plc b x y w h) ⟨x,y,w,h⟩
 | .waste,x,y,w,h,_,_,_=>.nil _
 | .pane i t,x,y,w,h,_,_,_=>.one ⟨i,t,⟨x,y,w,h⟩⟩
 | .cut true a l r,x,y,w,h,hf,hw,hh=>by
  simp only[Qd,Kg,Kb,Kj] at hf;obtain⟨⟨⟨h1,h2⟩,hl⟩,hr⟩:=hf;have gl:=Zh5 (x:=x) (y:=y) hl (by omega) hh;have gr:=Zh5 (x:=x+a) (y:=y) hr (by omega) hh;have il:=W1 (x:=x) (y:=y) hl (by omega) hh;have ir:=W1 (x:=x+a) (y:=y) hr (by omega) hh;simp only[plc,Kg];obtain⟨e1,e2⟩:=ZkQ (d:=true) (A:=plc l x y a h) (B:=plc r (x+a) y (w-a) h) (x:=x+a) (fun c hc=>by have:=il c hc;simp only[UU] at this;simp only[hiP,Kg];omega) (fun c hc=>by have:=ir c hc;simp only[UU] at this;simp only[hiP,Kg];omega);refine .cut true (x+a) (by simp only[loP,Kg];omega) (by simp only[hiP,Kg];omega) (Lp.2 fun c hc=>?_) ?_ ?_
  ·simp only[Kj,loP,hiP,Kg];rcases Kc.1 hc with hc | hc
   ·have:=il c hc;simp only[UU] at this;omega
   ·have:=ir c hc;simp only[UU] at this;omega
  ·rw[e1];simp only[QZ,loP,Kg];rw[show x+a-x=a by omega];exact gl
  ·rw[e2];simp only[Z5,loP,Kg];rw[show x+a-x=a by omega];exact gr
 | .cut false a l r,x,y,w,h,hf,hw,hh=>by
  simp only[Qd,Ka,Kf,Kb,Kj] at hf;obtain⟨⟨⟨h1,h2⟩,hl⟩,hr⟩:=hf;have gl:=Zh5 (x:=x) (y:=y) hl hw (by omega);have gr:=Zh5 (x:=x) (y:=y+a) hr hw (by omega);have il:=W1 (x:=x) (y:=y) hl hw (by omega);have ir:=W1 (x:=x) (y:=y+a) hr hw (by omega);simp only[plc,Ka,Kf];obtain⟨e1,e2⟩:=ZkQ (d:=false) (A:=plc l x y w a) (B:=plc r x (y+a) w (h-a)) (x:=y+a) (fun c hc=>by have:=il c hc;simp only[UU] at this;simp only[hiP,Ka,Kf];omega) (fun c hc=>by have:=ir c hc;simp only[UU] at this;simp only[hiP,Ka,Kf];omega)
  refine .cut false (y+a) (by simp only[loP,Ka,Kf];omega) (by simp only[hiP,Ka,Kf];omega) (Lp.2 fun c hc=>?_) ?_ ?_
  ·simp only[Kj,loP,hiP,Ka,Kf];rcases Kc.1 hc with hc | hc
   ·have:=il c hc;simp only[UU] at this;omega
   ·have:=ir c hc;simp only[UU] at this;omega
  ·rw[e1];simp only[QZ,loP,Ka,Kf];rw[show y+a-y=a by omega];exact gl
  ·rw[e2];simp only[Z5,loP,Ka,Kf];rw[show y+a-y=a by omega];exact gr
theorem ZeB {ps:List Pane}:∀ {b:BT} {x y w h:Int},Qd ps b w h=true→∀ c∈plc b x y w h,Qq ps c.Pane c.Turned c.Box.W c.Box.H=true
 | .waste,x,y,w,h,_,c,hc=>by simp[plc] at hc
 | .pane i t,x,y,w,h,hf,c,hc=>by
  simp only[plc,KA] at hc;subst hc;exact hf
 | .cut true a l r,x,y,w,h,hf,c,hc=>by
  simp only[Qd,Kg,Kb] at hf;simp only[plc,Kg,Kc] at hc;rcases hc with hc | hc
  ·exact ZeB hf.1.2 c hc
  ·exact ZeB hf.2 c hc
 | .cut false a l r,x,y,w,h,hf,c,hc=>by
  simp only[Qd,Ka,Kf,Kb] at hf;simp only[plc,Ka,Kf,Kc] at hc;rcases hc with hc | hc
  ·exact ZeB hf.1.2 c hc
  ·exact ZeB hf.2 c hc
theorem ZaR {ps:List Pane}:∀ {b:BT} {x y w h:Int},Qd ps b w h=true→1≤w→1≤h→ZaU ((plc b x y w h).map L.Place.Box)
 | .waste,x,y,w,h,_,_,_=>List.Pairwise.nil
 | .pane i t,x,y,w,h,_,_,_=>by simp[plc,ZaU]
 | .cut true a l r,x,y,w,h,hf,hw,hh=>by
  simp only[Qd,Kg,Kb,Kj] at hf;obtain⟨⟨⟨h1,h2⟩,hl⟩,hr⟩:=hf;have il:=W1 (x:=x) (y:=y) hl (by omega) hh;have ir:=W1 (x:=x+a) (y:=y) hr (by omega) hh;simp only[plc,Kg,KM];refine Lb.2 ⟨ZaR hl (by omega) hh,ZaR hr (by omega) hh,fun p hp q hq hm=>?_⟩;obtain⟨c,hc,rfl⟩:=KQ.1 hp;obtain⟨e,he,rfl⟩:=KQ.1 hq;have k1:=il c hc;have k2:=ir e he;simp only[UU] at k1 k2;simp only[XP] at hm;omega
 | .cut false a l r,x,y,w,h,hf,hw,hh=>by
  simp only[Qd,Ka,Kf,Kb,Kj] at hf;obtain⟨⟨⟨h1,h2⟩,hl⟩,hr⟩:=hf;have il:=W1 (x:=x) (y:=y) hl hw (by omega);have ir:=W1 (x:=x) (y:=y+a) hr hw (by omega);simp only[plc,Ka,Kf,KM];refine Lb.2 ⟨ZaR hl hw (by omega),ZaR hr hw (by omega),fun p hp q hq hm=>?_⟩;obtain⟨c,hc,rfl⟩:=KQ.1 hp;obtain⟨e,he,rfl⟩:=KQ.1 hq;have k1:=il c hc;have k2:=ir e he;simp only[UU] at k1 k2;simp only[XP] at hm;omega
theorem Zox {k:ZN} {b:BT} (hv:VW k) (hf:Qd k.Panes b k.W k.H=true) (hl:(plc b 0 0 k.W k.H).length≤12):∃ t,ZqQ k (plc b 0 0 k.W k.H)=some t:=by
 have hd:1≤k.W∧k.W≤200∧1≤k.H∧k.H≤200:=by unfold VW at hv;omega
 have ae:=W1 (x:=0) (y:=0) hf (by omega) (by omega);have ad:=ZmC (p:=b.plan) hv hf;have aa:∀ c∈plc b 0 0 k.W k.H,ZQ c.Box ⟨0,0,k.W,k.H⟩:=fun c hc=>by
  have:=ae c hc;simp only[UU] at this;simp only[ZQ];omega
 have ab:VPl k (plc b 0 0 k.W k.H):=⟨⟨hv,hl⟩,fun c hc=>⟨⟨ad c hc,aa c hc⟩,ZeB hf c hc⟩,ZaR hf (by omega) (by omega)⟩
 unfold ZqQ;rw[Km ab];exact Zm2 _ _ _ (by simp only[VB];omega) (fun c hc=>⟨ad c hc,aa c hc⟩) (Zh5 hf (by omega) (by omega)) (Kh _)
def Zh6 (b:BT) (n a:Int):List Int:=(kn b n a).map Prod.fst
theorem Zr3 {K:List (Int×Int)}:∀ {b:BT} {n a:Int},a<n→(∀ m,n≤m→m<n+b.cnt→QS K m=QS (kn b n a) m)→dlt K (Zh6 b n a)=-(isC b:Int)∧∀ w:Int,isC b=1→∃ v∈wts K w (Zh6 b n a),w-1+X5 b≤v
 | .waste,n,a,_,_=>by simp[Zh6,kn,dlt,isC]
 | .pane _ _,n,a,_,_=>by simp[Zh6,kn,dlt,isC]
 | .cut d c l r,n,a,ha,hK=>by
  simp only[BT.cnt] at hK;have h0:QS K n=isC l+isC r:=by rw[hK n (by omega) (by omega),ZtH ha]
  obtain⟨dl,wl⟩:=Zr3 (K:=K) (b:=l) (n:=n+1) (a:=n) (by omega) fun m h1 h2=>by rw[hK m (by omega) (by omega),ZtF ha h1 h2]
  obtain⟨dr,wr⟩:=Zr3 (K:=K) (b:=r) (n:=n+1+l.cnt) (a:=n) (by omega) fun m h1 h2=>by rw[hK m (by omega) (by omega),ZtG ha h1 h2]
  have pl:=ZhW (b:=l);have pr:=ZhW (b:=r);have aa:isC l=0∨isC l=1:=by cases l<;>simp[isC]
  have ab:isC r=0∨isC r=1:=by cases r<;>simp[isC]
  have cl:=UH l;have cr:=UH r;have e1:isC (.cut d c l r)=1:=rfl;have e2:Zh6 (.cut d c l r) n a=n :: (Zh6 l (n+1) n++Zh6 r (n+1+l.cnt) n):=by simp[Zh6,kn]
  rw[e2,e1];refine⟨by simp only[dlt,Zd0,dl,dr,h0];push_cast;omega,fun w _=>?_⟩;simp only[wts,ZhV,h0,dl,X5];have hL:isC l=1→∃ v∈wts K (w-1+((isC l+isC r:Nat):Int)) (Zh6 l (n+1) n),w-1+(isC r:Int)+X5 l≤v:=fun h=>by
   obtain⟨v,h1,h2⟩:=wl (w-1+((isC l+isC r:Nat):Int)) h;exact⟨v,h1,by push_cast at h2;omega⟩
  have hR:isC r=1→∃ v∈wts K (w-1+((isC l+isC r:Nat):Int)+-(isC l:Int)) (Zh6 r (n+1+l.cnt) n),w-1+X5 r≤v:=fun h=>by
   obtain⟨v,h1,h2⟩:=wr (w-1+((isC l+isC r:Nat):Int)+-(isC l:Int)) h;exact⟨v,h1,by push_cast at h2;omega⟩
  by_cases he:X5 l=X5 r
  ·rw[Km he];rcases aa with ae | ad
   ·exact⟨w,K8 ..,by clear wl wr hL hR;omega⟩
   ·obtain⟨v,h1,h2⟩:=hL ad;exact⟨v,Ke.2 (.inr (Kc.2 (.inl h1))),by clear wl wr hL hR;omega⟩
  ·rw[Kl he];by_cases af:X5 r<X5 l
   ·obtain⟨v,h1,h2⟩:=hL (pl.2 (by clear wl wr hL hR;omega));exact⟨v,Ke.2 (.inr (Kc.2 (.inl h1))),by clear wl wr hL hR;omega⟩
   ·obtain⟨v,h1,h2⟩:=hR (pr.2 (by clear wl wr hL hR;omega));exact⟨v,Ke.2 (.inr (Kc.2 (.inr h1))),by clear wl wr hL hR;omega⟩
theorem Zr4:∀ {l:List Int} {v:Int},v∈l→v≤hiL l
 | [],v,h=>by cases h
 | x :: l,v,h=>by
  simp only[hiL];rcases Ke.1 h with rfl | h
  ·omega
  ·have:=Zr4 h;omega
theorem Zh7:∀ (l:List Int),0≤hiL l
 | []=>by simp[hiL]
 | x :: l=>by have:=Zh7 l;simp only[hiL];omega
theorem Zr5 (b:BT):X5 b≤hiL (wts (kn b 0 (-1)) 1 ((kn b 0 (-1)).map Prod.fst)):=by
 obtain⟨_,h⟩:=Zr3 (K:=kn b 0 (-1)) (b:=b) (n:=0) (a:=-1) (by decide) fun _ _ _=>rfl;by_cases hc:isC b=1
 ·obtain⟨v,h1,h2⟩:=h 1 hc;have:=Zr4 h1;unfold Zh6 at this;omega
 ·have:=ZhW (b:=b);have h2:=Zh7 (wts (kn b 0 (-1)) 1 ((kn b 0 (-1)).map Prod.fst));have:¬1≤X5 b:=fun h=>hc (this.2 h);omega
end Go.Proofs.Ytefabmohhbhlfaa
