/- Own text. -/
import Derived.Test.YtefabmohhbhlfaaCCode
import Derived.Test.YtefabmohhbhlfaaAbsParts
import Derived.Test.YtefabmohhbhlfaaCC5
import Derived.Test.YtefabmohhbhlfaaAbsOkD
namespace Go.Proofs.Ytefabmohhbhlfaa
open Go Go.Abs Go.Abs.E Go.Abs.L
open Nat (reduceMul reduceSub reduceLeDiff reduceEqDiff)
open Int (reduceLE reduceEq reduceToNat reduceNeg)
set_option linter.unusedSimpArgs false
set_option linter.unusedVariables false
set_option maxRecDepth 20000
set_option maxHeartbeats 4000000
inductive GA:List L.Place→Box→Prop
 | nil (b:Box):GA [] b
 | one (c:L.Place):GA [c] c.Box
 | cut (d:Bool) (x:Int) {l:List L.Place} {b:Box}:loP d b<x→x<hiP d b→crs d l x=false→GA (ZG d l x true) (QJ d b (x-loP d b))→GA (ZG d l x false) (ZZ d b (x-loP d b))→GA l b
theorem ZaQ (d e:Bool) (l:List L.Place) (x y:Int) (f g:Bool):ZG d (ZG e l y g) x f=ZG e (ZG d l x f) y g:=by
 unfold ZG;rw[LX,LX];congr 1
 funext c
 exact Bool.and_comm _ _
theorem ZmN {d:Bool} {l:List L.Place} {x y:Int} (h:x≤y):ZG d (ZG d l y true) x true=ZG d l x true:=by
 unfold ZG;rw[LX];congr 1
 funext c
 by_cases h1:hiP d c.Box≤x
 ·have h2:hiP d c.Box≤y:=by omega
  simp[h1,h2]
 ·simp[h1]
theorem ZmO {d:Bool} {l:List L.Place} {x y:Int} (h:x≤y):ZG d (ZG d l x false) y false=ZG d l y false:=by
 unfold ZG;rw[LX];congr 1
 funext c
 by_cases h1:hiP d c.Box≤y
 ·simp[h1]
 ·have h2:¬hiP d c.Box≤x:=by omega
  simp[h1,h2]
theorem W7 {d e:Bool} {l:List L.Place} {x y:Int} {f:Bool} (h:crs d l y=false):crs d (ZG e l x f) y=false:=
 Lk.2 fun c hc=>Lk.1 h c (Le.1 hc).1
theorem ZoY (d:Bool) (b:Box) (a:Int):loP d (QJ d b a)=loP d b∧hiP d (QJ d b a)=loP d b+a∧loP d (ZZ d b a)=loP d b+a∧hiP d (ZZ d b a)=hiP d b:=by
 cases d<;>simp only[loP,hiP,QJ,ZZ,Kk,Ka,Ki,true_and]<;>omega
theorem ZoZ (d:Bool) (b:Box) (a:Int):loP (!d) (QJ d b a)=loP (!d) b∧hiP (!d) (QJ d b a)=hiP (!d) b∧loP (!d) (ZZ d b a)=loP (!d) b∧hiP (!d) (ZZ d b a)=hiP (!d) b:=by
 cases d<;>simp[loP,hiP,QJ,ZZ]
theorem Zo0 (d:Bool) (b:Box) (a e:Int):QJ d (QJ d b a) e=QJ d b e:=by cases d<;>rfl
theorem Zki (d:Bool) (b:Box) (a e:Int):ZZ d (ZZ d b a) e=ZZ d b (a+e):=by
 cases d<;>simp only[ZZ,Kk,Ka,Ki,Box.mk.injEq,true_and,and_true]<;>omega
theorem ZmP (d:Bool) (b:Box) (a e:Int):ZZ d (QJ d b a) e=QJ d (ZZ d b e) (a-e):=by cases d<;>rfl
theorem ll (d:Bool) (b:Box) (a e:Int):QJ (!d) (QJ d b a) e=QJ d (QJ (!d) b e) a:=by cases d<;>rfl
theorem hl (d:Bool) (b:Box) (a e:Int):ZZ (!d) (QJ d b a) e=QJ d (ZZ (!d) b e) a:=by cases d<;>rfl
theorem lh (d:Bool) (b:Box) (a e:Int):QJ (!d) (ZZ d b a) e=ZZ d (QJ (!d) b e) a:=by cases d<;>rfl
theorem hh (d:Bool) (b:Box) (a e:Int):ZZ (!d) (ZZ d b a) e=ZZ d (ZZ (!d) b e) a:=by cases d<;>rfl
theorem GA_her {l:List L.Place} {b:Box} (h:GA l b):∀ (d:Bool) (x:Int),loP d b<x→x<hiP d b→crs d l x=false→GA (ZG d l x true) (QJ d b (x-loP d b))∧GA (ZG d l x false) (ZZ d b (x-loP d b)):=by
 induction h with
 | nil b=>exact fun d x _ _ _=>⟨.nil _,.nil _⟩
 | one c=>
  intro d x h1 h2 h3;exact absurd (Zd2 h3 c (by simp)) (by omega)
 | @cut d' x' l b h1 h2 h3 hlo hhi ihl ihh=>
  intro d x g1 g2 g3;obtain⟨b1,b2,b3,b4⟩:=ZoY d' b (x' - loP d' b);by_cases hd:d=d'
  ·subst hd;obtain⟨c1,c2,c3,c4⟩:=ZoY d b (x-loP d b);rcases Int.lt_trichotomy x x' with ab | rfl | ad
   ·obtain⟨A,B⟩:=ihl d x (by rw[b1];exact g1) (by rw[b2];omega) (W7 g3);rw[b1] at A B;rw[ZmN (by omega),Zo0] at A;rw[ZaQ,ZmP] at B;refine⟨A,.cut d x' (by rw[c3];omega) (by rw[c4];exact h2) (W7 h3) ?_ ?_⟩
    ·rw[c3,show x' - (loP d b+(x-loP d b))=x' - loP d b-(x-loP d b) by omega];exact B
    ·rw[c3,ZmO (by omega),Zki,show x-loP d b+(x' - (loP d b+(x-loP d b)))=x' - loP d b by omega];exact hhi
   ·exact⟨hlo,hhi⟩
   ·obtain⟨A,B⟩:=ihh d x (by rw[b3];omega) (by rw[b4];exact g2) (W7 g3);rw[b3] at A B;rw[ZaQ] at A;rw[ZmO (by omega),Zki,show x' - loP d b+(x-(loP d b+(x' - loP d b)))=x-loP d b by omega] at B;refine⟨.cut d x' (by rw[c1];exact h1) (by rw[c2];omega) (W7 h3) ?_ ?_,B⟩
    ·rw[c1,ZmN (by omega),Zo0];exact hlo
    ·rw[c1,ZmP,show x-loP d b-(x' - loP d b)=x-(loP d b+(x' - loP d b)) by omega];exact A
  ·obtain rfl:d=!d':=by cases d<;>cases d' <;> simp_all
   obtain⟨c1,c2,c3,c4⟩:=ZoZ d' b (x' - loP d' b);have aa:(!(!d'))=d':=Bool.not_not d';obtain⟨e1,e2,e3,e4⟩:=ZoZ (!d') b (x-loP (!d') b);rw[aa] at e1 e2 e3 e4;obtain⟨A1,B1⟩:=ihl (!d') x (by rw[c1];exact g1) (by rw[c2];exact g2) (W7 g3);obtain⟨A2,B2⟩:=ihh (!d') x (by rw[c3];exact g1) (by rw[c4];exact g2) (W7 g3);rw[c1,ZaQ] at A1 B1;rw[c3,ZaQ] at A2 B2;rw[ll] at A1;rw[hl] at B1;rw[lh] at A2;rw[hh] at B2;refine⟨.cut d' x' (by rw[e1];exact h1) (by rw[e2];exact h2) (W7 h3) ?_ ?_,.cut d' x' (by rw[e3];exact h1) (by rw[e4];exact h2) (W7 h3) ?_ ?_⟩
   ·rw[e1];exact A1
   ·rw[e1];exact A2
   ·rw[e3];exact B1
   ·rw[e3];exact B2
theorem Zn7 (f:L.Place→Int) (p:L.Place→Prop):∀ (l:List L.Place),(∃ c∈l,p c)→∃ c∈l,p c∧∀ y∈l,p y→f c≤f y
 | [],⟨c,hc,_⟩=>by cases hc
 | z :: l,⟨c,hc,hp⟩=>by
  by_cases h:∃ c∈l,p c
  ·obtain⟨m,h1,h2,h3⟩:=Zn7 f p l h;by_cases hz:p z∧f z≤f m
   ·exact⟨z,by simp,hz.1,fun y hy aa=>by
     rcases Kf.1 hy with rfl | hy
     ·exact Kae _
     ·have:=h3 y hy aa;omega⟩
   ·exact⟨m,by simp[h1],h2,fun y hy aa=>by
     rcases Kf.1 hy with rfl | hy
     ·have:¬f y≤f m:=fun h=>hz ⟨aa,h⟩;omega
     ·exact h3 y hy aa⟩
  ·have ab:c=z:=by
    rcases Kf.1 hc with h1 | h1
    ·exact h1
    ·exact absurd ⟨c,h1,hp⟩ h
   subst ab;exact⟨c,by simp,hp,fun y hy aa=>by
    rcases Kf.1 hy with rfl | hy
    ·exact Kae _
    ·exact absurd ⟨y,hy,aa⟩ h⟩
theorem Zqd {d:Bool} {l:List L.Place} {B0 B1 x:Int} (hn:l≠[]) (hs:∀ c∈l,B0≤loP d c.Box∧loP d c.Box<hiP d c.Box∧hiP d c.Box≤B1) (h0:B0<x) (h1:x<B1) (hc:crs d l x=false):∃ y,B0<y∧y<B1∧tch d l y=true∧crs d l y=false:=by
 have aa:=Zd2 hc;by_cases h:∃ c∈l,x≤loP d c.Box
 ·obtain⟨c,g1,g2,g3⟩:=Zn7 (fun c=>loP d c.Box) (fun c=>x≤loP d c.Box) l h;have:=hs c g1;refine⟨loP d c.Box,by omega,by omega,Lr.2 ⟨c,g1,by simp⟩,Lk.2 fun y hy=>?_⟩;simp only[Kl];rcases aa y hy with h | h
  ·omega
  ·have:=g3 y hy h;omega
 ·obtain⟨c0,ab⟩:=List.exists_mem_of_ne_nil l hn;obtain⟨c,g1,_,g3⟩:=Zn7 (fun c=>- hiP d c.Box) (fun _=>True) l ⟨c0,ab,trivial⟩;have:=hs c g1;have ad:hiP d c.Box≤x:=by
   rcases aa c g1 with h2 | h2
   ·exact h2
   ·exact absurd ⟨c,g1,h2⟩ h
  refine⟨hiP d c.Box,by omega,by omega,Lr.2 ⟨c,g1,by simp⟩,Lk.2 fun y hy=>?_⟩;simp only[Kl];have:=g3 y hy trivial;omega
theorem ZeV {d:Bool} {l:List L.Place} {fr:Int}:∀ {n:Nat},Jf d l fr n=none→∀ y,fr<y→y<fr+1+n→¬(tch d l y=true∧crs d l y=false)
 | 0,_,y,h1,h2=>by omega
 | n+1,h,y,h1,h2=>by
  unfold Jf at h;split at h
  ·cases h
  ·rename_i h0;split at h
   ·cases h
   ·rename_i hc;by_cases hy:y=fr+1+(n:Int)
    ·rw[hy];exact hc
    ·exact ZeV h0 y h1 (by omega)
theorem ZmQ {l:List L.Place} {b:Box} (hb:VB b) (hl:InL l b) (hn:l≠[]) (h:GA l b) (h1:∀ c,l=[c]→c.Box≠b):∃ d x,W6 l b=some (d,x):=by
 cases h with
 | nil=>exact absurd rfl hn
 | one c=>exact absurd rfl (h1 c rfl)
 | cut d x g1 g2 g3 _ _=>
  have hs:∀ c∈l,loP d b≤loP d c.Box∧loP d c.Box<hiP d c.Box∧hiP d c.Box≤hiP d b:=fun c hc=>by
   obtain⟨k1,k2⟩:=hl c hc;simp only[VB] at k1;simp only[Qt] at k2;cases d<;>simp only[loP,hiP,Kk,Ka,Ki]<;>omega
  obtain⟨y,y1,y2,y3,y4⟩:=Zqd hn hs g1 g2 g3;simp only[VB] at hb;unfold W6;cases d
  ·cases e1:Jf true l b.X (b.W-1).toNat with
   | some z=>exact⟨_,_,rfl⟩
   | none=>
    cases e2:Jf false l b.Y (b.H-1).toNat with
    | some z=>exact⟨_,_,rfl⟩
    | none=>
     simp only[loP,hiP,Ka,Ki] at y1 y2;exact absurd ⟨y3,y4⟩ (ZeV e2 y y1 (by omega))
  ·cases e1:Jf true l b.X (b.W-1).toNat with
   | some z=>exact⟨_,_,rfl⟩
   | none=>
    simp only[loP,hiP,Kk] at y1 y2;exact absurd ⟨y3,y4⟩ (ZeV e1 y y1 (by omega))
theorem ZmR:∀ (n:Nat) (l:List L.Place) (b:Box),VB b→InL l b→GA l b→(b.W+b.H).toNat≤n→∃ t,Xv n l b=some t:=by
 intro n
 induction n with
 | zero=>intro l b hb _ _ hn;simp only[VB] at hb;omega
 | succ n IH=>
  intro l b hb hl hg hn;cases l with
  | nil=>exact⟨_,rfl⟩
  | cons c r=>
   by_cases hp:r=[]∧c.Box=b
   ·exact⟨_,by rw[Xv,Ko hp]⟩
   ·obtain⟨d,x,hc⟩:=ZmQ hb hl (by simp) hg fun c' e aa=>by
     cases e;exact hp ⟨rfl,aa⟩
    obtain⟨h1,h2,h3⟩:=U4 hc;obtain⟨⟨g1,g2⟩,g3,g4⟩:=Zd3 hb hl ⟨h1,h2⟩ h3;obtain⟨A,B⟩:=GA_her hg d x h1 h2 h3;obtain⟨s1,s2⟩:=Zia hb ⟨h1,h2⟩;obtain⟨ta,ha⟩:=IH _ _ g1 g2 A (by omega);obtain⟨tb,aa⟩:=IH _ _ g3 g4 B (by omega);exact⟨_,by rw[Zke hp hc,ha,aa];rfl⟩
theorem Zkj {d:Bool} {A B:List L.Place} {x:Int} (hA:∀ c∈A,hiP d c.Box≤x) (hB:∀ c∈B,x<hiP d c.Box):ZG d (A++B) x true=A∧ZG d (A++B) x false=B:=by
 unfold ZG;rw[Kab,Kab];refine⟨?_,?_⟩
 ·rw[LQ.2 fun c hc=>by simp[hA c hc],List.filter_eq_nil_iff.2 fun c hc=>by have:=hB c hc;simp;omega,Lf]
 ·rw[List.filter_eq_nil_iff.2 fun c hc=>by simp[hA c hc],LQ.2 fun c hc=>by have:=hB c hc;simp;omega,K4]
theorem Zig {ps:List Pane}:∀ {b:BT} {x y w h:Int},QC ps b w h=true→1≤w→1≤h→GA (plc b x y w h) ⟨x,y,w,h⟩
 | .waste,x,y,w,h,_,_,_=>.nil _
 | .pane i t,x,y,w,h,_,_,_=>.one ⟨i,t,⟨x,y,w,h⟩⟩
 | .cut true a l r,x,y,w,h,hf,hw,hh=>by
  simp only[QC,Kk,Kb,Kl] at hf;obtain⟨⟨⟨h1,h2⟩,hl⟩,hr⟩:=hf;have gl:=Zig (x:=x) (y:=y) hl (by omega) hh;have gr:=Zig (x:=x+a) (y:=y) hr (by omega) hh;have il:=V9 (x:=x) (y:=y) hl (by omega) hh;have ir:=V9 (x:=x+a) (y:=y) hr (by omega) hh;simp only[plc,Kk];obtain⟨e1,e2⟩:=Zkj (d:=true) (A:=plc l x y a h) (B:=plc r (x+a) y (w-a) h) (x:=x+a) (fun c hc=>by have:=il c hc;simp only[W3] at this;simp only[hiP,Kk];omega) (fun c hc=>by have:=ir c hc;simp only[W3] at this;simp only[hiP,Kk];omega);refine .cut true (x+a) (by simp only[loP,Kk];omega) (by simp only[hiP,Kk];omega) (Lk.2 fun c hc=>?_) ?_ ?_
  ·simp only[Kl,loP,hiP,Kk];rcases Kd.1 hc with hc | hc
   ·have:=il c hc;simp only[W3] at this;omega
   ·have:=ir c hc;simp only[W3] at this;omega
  ·rw[e1];simp only[QJ,loP,Kk];rw[show x+a-x=a by omega];exact gl
  ·rw[e2];simp only[ZZ,loP,Kk];rw[show x+a-x=a by omega];exact gr
 | .cut false a l r,x,y,w,h,hf,hw,hh=>by
  simp only[QC,Ka,Ki,Kb,Kl] at hf;obtain⟨⟨⟨h1,h2⟩,hl⟩,hr⟩:=hf;have gl:=Zig (x:=x) (y:=y) hl hw (by omega);have gr:=Zig (x:=x) (y:=y+a) hr hw (by omega);have il:=V9 (x:=x) (y:=y) hl hw (by omega);have ir:=V9 (x:=x) (y:=y+a) hr hw (by omega);simp only[plc,Ka,Ki];obtain⟨e1,e2⟩:=Zkj (d:=false) (A:=plc l x y w a) (B:=plc r x (y+a) w (h-a)) (x:=y+a) (fun c hc=>by have:=il c hc;simp only[W3] at this;simp only[hiP,Ka,Ki];omega) (fun c hc=>by have:=ir c hc;simp only[W3] at this;simp only[hiP,Ka,Ki];omega)
  refine .cut false (y+a) (by simp only[loP,Ka,Ki];omega) (by simp only[hiP,Ka,Ki];omega) (Lk.2 fun c hc=>?_) ?_ ?_
  ·simp only[Kl,loP,hiP,Ka,Ki];rcases Kd.1 hc with hc | hc
   ·have:=il c hc;simp only[W3] at this;omega
   ·have:=ir c hc;simp only[W3] at this;omega
  ·rw[e1];simp only[QJ,loP,Ka,Ki];rw[show y+a-y=a by omega];exact gl
  ·rw[e2];simp only[ZZ,loP,Ka,Ki];rw[show y+a-y=a by omega];exact gr
theorem Zd5 {ps:List Pane}:∀ {b:BT} {x y w h:Int},QC ps b w h=true→∀ c∈plc b x y w h,Xq ps c.Pane c.Turned c.Box.W c.Box.H=true
 | .waste,x,y,w,h,_,c,hc=>by simp[plc] at hc
 | .pane i t,x,y,w,h,hf,c,hc=>by
  simp only[plc,Kv] at hc;subst hc;exact hf
 | .cut true a l r,x,y,w,h,hf,c,hc=>by
  simp only[QC,Kk,Kb] at hf;simp only[plc,Kk,Kd] at hc;rcases hc with hc | hc
  ·exact Zd5 hf.1.2 c hc
  ·exact Zd5 hf.2 c hc
 | .cut false a l r,x,y,w,h,hf,c,hc=>by
  simp only[QC,Ka,Ki,Kb] at hf;simp only[plc,Ka,Ki,Kd] at hc;rcases hc with hc | hc
  ·exact Zd5 hf.1.2 c hc
  ·exact Zd5 hf.2 c hc
theorem Zaa {ps:List Pane}:∀ {b:BT} {x y w h:Int},QC ps b w h=true→1≤w→1≤h→J9 ((plc b x y w h).map L.Place.Box)
 | .waste,x,y,w,h,_,_,_=>List.Pairwise.nil
 | .pane i t,x,y,w,h,_,_,_=>by simp[plc,J9]
 | .cut true a l r,x,y,w,h,hf,hw,hh=>by
  simp only[QC,Kk,Kb,Kl] at hf;obtain⟨⟨⟨h1,h2⟩,hl⟩,hr⟩:=hf;have il:=V9 (x:=x) (y:=y) hl (by omega) hh;have ir:=V9 (x:=x+a) (y:=y) hr (by omega) hh;simp only[plc,Kk,KX];refine K5.2 ⟨Zaa hl (by omega) hh,Zaa hr (by omega) hh,fun p hp q hq hm=>?_⟩;obtain⟨c,hc,rfl⟩:=KV.1 hp;obtain⟨e,he,rfl⟩:=KV.1 hq;have k1:=il c hc;have k2:=ir e he;simp only[W3] at k1 k2;simp only[Ys] at hm;omega
 | .cut false a l r,x,y,w,h,hf,hw,hh=>by
  simp only[QC,Ka,Ki,Kb,Kl] at hf;obtain⟨⟨⟨h1,h2⟩,hl⟩,hr⟩:=hf;have il:=V9 (x:=x) (y:=y) hl hw (by omega);have ir:=V9 (x:=x) (y:=y+a) hr hw (by omega);simp only[plc,Ka,Ki,KX];refine K5.2 ⟨Zaa hl hw (by omega),Zaa hr hw (by omega),fun p hp q hq hm=>?_⟩;obtain⟨c,hc,rfl⟩:=KV.1 hp;obtain⟨e,he,rfl⟩:=KV.1 hq;have k1:=il c hc;have k2:=ir e he;simp only[W3] at k1 k2;simp only[Ys] at hm;omega
theorem Zn8 {k:ZO} {b:BT} (hv:VW k) (hf:QC k.Panes b k.W k.H=true) (hl:(plc b 0 0 k.W k.H).length≤12):∃ t,Zqc k (plc b 0 0 k.W k.H)=some t:=by
 have hd:1≤k.W∧k.W≤200∧1≤k.H∧k.H≤200:=by unfold VW at hv;omega
 have ae:=V9 (x:=0) (y:=0) hf (by omega) (by omega);have ad:=Zdv (p:=b.plan) hv hf;have aa:∀ c∈plc b 0 0 k.W k.H,Qt c.Box ⟨0,0,k.W,k.H⟩:=fun c hc=>by
  have:=ae c hc;simp only[W3] at this;simp only[Qt];omega
 have ab:VPl k (plc b 0 0 k.W k.H):=⟨⟨hv,hl⟩,fun c hc=>⟨⟨ad c hc,aa c hc⟩,Zd5 hf c hc⟩,Zaa hf (by omega) (by omega)⟩
 unfold Zqc;rw[Ko ab];exact ZmR _ _ _ (by simp only[VB];omega) (fun c hc=>⟨ad c hc,aa c hc⟩) (Zig hf (by omega) (by omega)) (Kh _)
end Go.Proofs.Ytefabmohhbhlfaa
