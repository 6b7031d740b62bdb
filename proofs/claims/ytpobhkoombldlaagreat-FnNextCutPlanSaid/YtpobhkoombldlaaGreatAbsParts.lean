/- The parts of a plan. Own text. -/
import Derived.Test.YtpobhkoombldlaaGreatAbsPlan
set_option linter.unusedVariables false
set_option linter.unusedSimpArgs false
namespace Go.Abs.L
open Go Go.Abs Go.Abs.E
structure Part where
 plan:Zh
 box:Box
def Part.enc (p:Part):D:=.agg (p.plan.enc.cells++[.int .i64 p.box.X,.int .i64 p.box.Y,.int .i64 p.box.W,.int .i64 p.box.H])
@[go_sem] theorem Part.enc_mk (o a p:Int) (t:Bool) (ks:List Zh) (x y w h:Int):Part.enc ⟨.mk o a p t ks,⟨x,y,w,h⟩⟩ =
  .agg [.int .i64 o,.int .i64 a,.int .i64 p,.bool t,.sl (ks.map Zh.enc),.int .i64 x,.int .i64 y,.int .i64 w,.int .i64 h]:=by
 simp only[Part.enc,Zh.enc_mk];rfl
theorem Part.enc_len (p:Part):(Part.enc p).cells.length=9:=by
 show (p.plan.enc.cells++_).length=9
 rw[List.length_append,Zh.enc_len];rfl
@[go_sem] theorem uni_Part (l:List Part):uni 9 (l.map Part.enc)=True:=eq_true (ZdI l Part.enc_len)
def pt:BT→Int→Int→Int→Int→List Part
 | .waste,x,y,w,h=>[⟨BT.waste.plan,⟨x,y,w,h⟩⟩]
 | .pane i t,x,y,w,h=>[⟨(BT.pane i t).plan,⟨x,y,w,h⟩⟩]
 | .cut d a l r,x,y,w,h=>⟨(BT.cut d a l r).plan,⟨x,y,w,h⟩⟩ :: if d then pt l x y a h++pt r (x+a) y (w-a) h else pt l x y w a++pt r x (y+a) w (h-a)
def sp:BT→Int→Int→Int→Int→List Place
 | .waste,x,y,w,h=>[⟨-1,false,⟨x,y,w,h⟩⟩]
 | .pane i t,x,y,w,h=>[⟨i,t,⟨x,y,w,h⟩⟩]
 | .cut d a l r,x,y,w,h=>if d then sp l x y a h++sp r (x+a) y (w-a) h else sp l x y w a++sp r x (y+a) w (h-a)
def plc:BT→Int→Int→Int→Int→List Place
 | .waste,x,y,w,h=>[]
 | .pane i t,x,y,w,h=>[⟨i,t,⟨x,y,w,h⟩⟩]
 | .cut d a l r,x,y,w,h=>if d then plc l x y a h++plc r (x+a) y (w-a) h else plc l x y w a++plc r x (y+a) w (h-a)
def wst:BT→Int→Int→Int→Int→List Box
 | .waste,x,y,w,h=>[⟨x,y,w,h⟩]
 | .pane i t,x,y,w,h=>[]
 | .cut d a l r,x,y,w,h=>if d then wst l x y a h++wst r (x+a) y (w-a) h else wst l x y w a++wst r x (y+a) w (h-a)
def PN:BT→Prop
 | .waste=>True
 | .pane i _=>0≤i
 | .cut _ _ l r=>PN l∧PN r
def opP:Zh→Int
 | .mk o _ _ _ _=>o
def Xr (q:Part):Option Place:=match q.plan with
 | .mk o _ p t _=>if o=1 then some ⟨p,t,q.box⟩ else none
def Yz (q:Part):Option Box:=match q.plan with
 | .mk o _ _ _ _=>if o=0 then some q.box else none
theorem Vt:∀ (b:BT) (x y w h:Int),(pt b x y w h).filterMap Xr=plc b x y w h
 | .waste,x,y,w,h=>rfl
 | .pane i t,x,y,w,h=>rfl
 | .cut d a l r,x,y,w,h=>by
  have e:Xr ⟨(BT.cut d a l r).plan,⟨x,y,w,h⟩⟩=none:=by cases d<;>rfl
  cases d<;>simp[pt,plc,List.filterMap_append,List.filterMap_cons,e,Vt]
theorem ZhU:∀ (b:BT) (x y w h:Int),(pt b x y w h).filterMap Yz=wst b x y w h
 | .waste,x,y,w,h=>rfl
 | .pane i t,x,y,w,h=>rfl
 | .cut d a l r,x,y,w,h=>by
  have e:Yz ⟨(BT.cut d a l r).plan,⟨x,y,w,h⟩⟩=none:=by cases d<;>rfl
  cases d<;>simp[pt,wst,List.filterMap_append,List.filterMap_cons,e,ZhU]
def ZgV (q:Place):Option Place:=if 0≤q.Pane then some q else none
def ZgW (q:Place):Option Box:=if q.Pane<0 then some q.Box else none
theorem Znl:∀ (b:BT) (x y w h:Int),PN b→(sp b x y w h).filterMap ZgV=plc b x y w h
 | .waste,x,y,w,h,_=>rfl
 | .pane i t,x,y,w,h,hp=>by
  have hp:0≤i:=hp
  simp[sp,plc,ZgV,hp]
 | .cut d a l r,x,y,w,h,hp=>by
  cases d<;>simp[sp,plc,List.filterMap_append,Znl l _ _ _ _ hp.1,Znl r _ _ _ _ hp.2]
theorem Znm:∀ (b:BT) (x y w h:Int),PN b→(sp b x y w h).filterMap ZgW=wst b x y w h
 | .waste,x,y,w,h,_=>rfl
 | .pane i t,x,y,w,h,hp=>by
  have hp:¬i<0:=by have:0≤i:=hp;omega
  simp[sp,wst,ZgW,hp]
 | .cut d a l r,x,y,w,h,hp=>by
  cases d<;>simp[sp,wst,List.filterMap_append,Znm l _ _ _ _ hp.1,Znm r _ _ _ _ hp.2]
theorem ZbS:∀ (b:BT) (x y w h:Int),(pt b x y w h).length=b.cnt
 | .waste,x,y,w,h=>rfl
 | .pane i t,x,y,w,h=>rfl
 | .cut d a l r,x,y,w,h=>by
  cases d<;>simp[pt,BT.cnt,ZbS]<;>omega
theorem Zhp:∀ (b:BT) (x y w h:Int),(sp b x y w h).length≤b.cnt
 | .waste,x,y,w,h=>by simp[sp,BT.cnt]
 | .pane i t,x,y,w,h=>by simp[sp,BT.cnt]
 | .cut d a l r,x,y,w,h=>by
  cases d
  ·have h1:=Zhp l x y w a
   have h2:=Zhp r x (y+a) w (h-a)
   simp[sp,BT.cnt];omega
  ·have h1:=Zhp l x y a h
   have h2:=Zhp r (x+a) y (w-a) h
   simp[sp,BT.cnt];omega
theorem ZdL {α β:Type} {l:List α} {f:α→Option β} {k:Nat} {x:α} (hx:l[k]?=some x):(l.take (k+1)).filterMap f=(l.take k).filterMap f++(f x).toList:=by
 obtain⟨h1,h2⟩:=List.getElem?_eq_some_iff.1 hx
 rw[List.take_succ_eq_append_getElem h1,h2,List.filterMap_append]
 cases hf:f x<;>simp[hf]
theorem Zkt {ps:List Pane}:∀ {b:BT} {w h:Int},YI ps b w h=true→PN b
 | .waste,_,_,_=>trivial
 | .pane i t,w,h,hf=>by
  simp only[YI,YH,Bool.and_eq_true,decide_eq_true_eq] at hf
  exact hf.1
 | .cut d a l r,w,h,hf=>by
  cases d
  ·simp only[YI,Bool.and_eq_true,Bool.false_eq_true,if_false] at hf
   exact⟨Zkt hf.1.2,Zkt hf.2⟩
  ·simp only[YI,Bool.and_eq_true,if_true] at hf
   exact⟨Zkt hf.1.2,Zkt hf.2⟩
def QF (k:ZE) (p:Zh):List Part:=match Y0 p with
 | some b=>if decide (VW k)&&decide (b.cnt≤255)&&YI k.Panes b k.W k.H then pt b 0 0 k.W k.H else []
 | none=>[]
def Wm (k:ZE) (p:Zh):Bool:=match Y0 p with
 | some b=>decide (VW k)&&decide (b.cnt≤255)&&YI k.Panes b k.W k.H
 | none=>false
theorem Xm {k:ZE} {p:Zh} (h:Wm k p=true):∃ b,Y0 p=some b∧p=b.plan∧VW k∧b.cnt≤255∧YI k.Panes b k.W k.H=true∧QF k p=pt b 0 0 k.W k.H:=by
 have h':=h
 unfold Wm at h
 split at h
 ·rename_i b hb
  refine⟨b,hb,Zkv hb,?_⟩
  unfold QF
  rw[hb]
  dsimp only
  rw[if_pos h]
  simp only[Bool.and_eq_true,decide_eq_true_eq] at h
  exact⟨h.1.1,h.1.2,h.2,rfl⟩
 ·cases h
theorem ZhV {α:Type} {l:List α} {k:Nat} {x:α} (hx:l[k]?=some x) (P:α→Prop):(∀ y∈l.drop k,P y)↔P x∧∀ y∈l.drop (k+1),P y:=by
 obtain⟨h1,h2⟩:=List.getElem?_eq_some_iff.1 hx
 rw[List.drop_eq_getElem_cons h1,h2]
 simp
def Zgo (w h:Int) (f:Box):Prop:=VB f∧QJ f ⟨0,0,w,h⟩
instance (w h:Int) (f:Box):Decidable (Zgo w h f):=by unfold Zgo;infer_instance
def VPc (q:Zb):Prop:=(1≤q.Label∧q.Label≤9999∧1≤q.W∧q.W≤200∧1≤q.H∧q.H≤200∧q.Flaws.length≤6)∧∀ f∈q.Flaws,Zgo q.W q.H f
instance (q:Zb):Decidable (VPc q):=by unfold VPc;infer_instance
def Qf (fs:List Box) (b:Box):Prop:=∀ f∈fs,¬YP f b
instance (fs:List Box) (b:Box):Decidable (Qf fs b):=by unfold Qf;infer_instance
def WJ (q:Zb) (k:ZE) (p:Zh):Prop:=Wm k p=true∧k.W=q.W∧k.H=q.H∧∀ c∈(QF k p).filterMap Xr,Qf q.Flaws c.Box
instance (q:Zb) (k:ZE) (p:Zh):Decidable (WJ q k p):=by unfold WJ;infer_instance
def Zly (x y w h:Int) (c:Box):Prop:=1≤c.W∧1≤c.H∧x≤c.X∧y≤c.Y∧c.X+c.W≤x+w∧c.Y+c.H≤y+h
theorem Zp5 {ps:List Pane}:∀ {b:BT} {x y w h:Int},YI ps b w h=true→1≤w→1≤h→∀ c∈plc b x y w h,Zly x y w h c.Box
 | .waste,x,y,w,h,hf,h1,h2,c,hc=>by simp[plc] at hc
 | .pane i t,x,y,w,h,hf,h1,h2,c,hc=>by
  simp only[plc,List.mem_singleton] at hc
  subst hc
  simp only[Zly];omega
 | .cut d a l r,x,y,w,h,hf,h1,h2,c,hc=>by
  cases d
  ·simp only[YI,Bool.and_eq_true,Bool.false_eq_true,if_false,decide_eq_true_eq] at hf
   simp only[plc,Bool.false_eq_true,if_false,List.mem_append] at hc
   rcases hc with hc | hc
   ·have:=Zp5 hf.1.2 (by omega) (by omega) c hc
    simp only[Zly] at this ⊢;omega
   ·have:=Zp5 hf.2 (by omega) (by omega) c hc
    simp only[Zly] at this ⊢;omega
  ·simp only[YI,Bool.and_eq_true,if_true,decide_eq_true_eq] at hf
   simp only[plc,if_true,List.mem_append] at hc
   rcases hc with hc | hc
   ·have:=Zp5 hf.1.2 (by omega) (by omega) c hc
    simp only[Zly] at this ⊢;omega
   ·have:=Zp5 hf.2 (by omega) (by omega) c hc
    simp only[Zly] at this ⊢;omega
theorem Znn {ps:List Pane}:∀ {b:BT} {x y w h:Int},YI ps b w h=true→1≤w→1≤h→∀ c∈wst b x y w h,Zly x y w h c
 | .waste,x,y,w,h,hf,h1,h2,c,hc=>by
  simp only[wst,List.mem_singleton] at hc
  subst hc
  simp only[Zly];omega
 | .pane i t,x,y,w,h,hf,h1,h2,c,hc=>by simp[wst] at hc
 | .cut d a l r,x,y,w,h,hf,h1,h2,c,hc=>by
  cases d
  ·simp only[YI,Bool.and_eq_true,Bool.false_eq_true,if_false,decide_eq_true_eq] at hf
   simp only[wst,Bool.false_eq_true,if_false,List.mem_append] at hc
   rcases hc with hc | hc
   ·have:=Znn hf.1.2 (by omega) (by omega) c hc
    simp only[Zly] at this ⊢;omega
   ·have:=Znn hf.2 (by omega) (by omega) c hc
    simp only[Zly] at this ⊢;omega
  ·simp only[YI,Bool.and_eq_true,if_true,decide_eq_true_eq] at hf
   simp only[wst,if_true,List.mem_append] at hc
   rcases hc with hc | hc
   ·have:=Znn hf.1.2 (by omega) (by omega) c hc
    simp only[Zly] at this ⊢;omega
   ·have:=Znn hf.2 (by omega) (by omega) c hc
    simp only[Zly] at this ⊢;omega
def YG:List Box→Int
 | []=>0
 | c :: l=>c.W*c.H+YG l
theorem Zfp (a b:List Box):YG (a++b)=YG a+YG b:=by
 induction a with
 | nil=>simp[YG]
 | cons c l ih=>simp only[List.cons_append,YG,ih];omega
theorem Zmn {ps:List Pane}:∀ {b:BT} {x y w h:Int},YG (wst b x y w h)+YG ((plc b x y w h).map Place.Box)=w*h
 | .waste,x,y,w,h=>by simp[wst,plc,YG]
 | .pane i t,x,y,w,h=>by simp[wst,plc,YG]
 | .cut d a l r,x,y,w,h=>by
  cases d
  ·have h1:=Zmn (ps:=ps) (b:=l) (x:=x) (y:=y) (w:=w) (h:=a)
   have h2:=Zmn (ps:=ps) (b:=r) (x:=x) (y:=y+a) (w:=w) (h:=h-a)
   have h3:w*(h-a)=w*h-w*a:=Int.mul_sub w h a
   simp only[wst,plc,Bool.false_eq_true,if_false,Zfp,List.map_append]
   omega
  ·have h1:=Zmn (ps:=ps) (b:=l) (x:=x) (y:=y) (w:=a) (h:=h)
   have h2:=Zmn (ps:=ps) (b:=r) (x:=x+a) (y:=y) (w:=w-a) (h:=h)
   have h3:(w-a)*h=w*h-a*h:=Int.sub_mul w a h
   simp only[wst,plc,if_true,Zfp,List.map_append]
   omega
theorem Zph:∀ (b:BT) (x y w h:Int),(wst b x y w h).length≤b.cnt
 | .waste,x,y,w,h=>by simp[wst,BT.cnt]
 | .pane i t,x,y,w,h=>by simp[wst,BT.cnt]
 | .cut d a l r,x,y,w,h=>by
  cases d
  ·have h1:=Zph l x y w a
   have h2:=Zph r x (y+a) w (h-a)
   simp[wst,BT.cnt];omega
  ·have h1:=Zph l x y a h
   have h2:=Zph r (x+a) y (w-a) h
   simp[wst,BT.cnt];omega
theorem Zmo {k:ZE} {p:Zh} {b:BT} (hv:VW k) (hf:YI k.Panes b k.W k.H=true):∀ c∈plc b 0 0 k.W k.H,VB c.Box:=by
 intro c hc
 obtain⟨h1,h2,h3,h4,_⟩:=hv
 have:=Zp5 hf h1 h3 c hc
 simp only[Zly] at this
 simp only[VB];omega
theorem Zmp {k:ZE} {p:Zh} {b:BT} (hv:VW k) (hf:YI k.Panes b k.W k.H=true):∀ c∈wst b 0 0 k.W k.H,VB c:=by
 intro c hc
 obtain⟨h1,h2,h3,h4,_⟩:=hv
 have:=Znn hf h1 h3 c hc
 simp only[Zly] at this
 simp only[VB];omega
def Zt6 (b m:Box):Box:=⟨m.X-b.X,m.Y-b.Y,m.W,m.H⟩
def VA (b f:Box):Option Box:=if YP f b then some (Zt6 b (ZiX f b)) else none
def Zp6 (q:Zb) (b:Box) (label:Int):Zb:=⟨label,b.W,b.H,q.Flaws.filterMap (VA b)⟩
theorem Zxh {q:Zb} {b:Box} {label:Int} (hq:VPc q) (hb:VB b) (hi:QJ b ⟨0,0,q.W,q.H⟩) (h1:1≤label) (h2:label≤9999):VPc (Zp6 q b label):=by
 simp only[VB] at hb
 refine⟨⟨h1,h2,?_,?_,?_,?_,Nat.le_trans (List.length_filterMap_le _ _) hq.1.2.2.2.2.2.2⟩,?_⟩
 ·show 1≤b.W;omega
 ·show b.W≤200;omega
 ·show 1≤b.H;omega
 ·show b.H≤200;omega
 ·intro f hf
  obtain⟨g,hg,hgf⟩:=List.mem_filterMap.1 hf
  have hgv:=hq.2 g hg
  unfold VA at hgf
  split at hgf
  ·rename_i hm
   cases hgf
   simp only[Zgo,VB,QJ] at hgv
   simp only[YP] at hm
   simp only[Zgo,VB,QJ,Zt6,ZiX,Zp6]
   omega
  ·cases hgf
def Zag (Zl:Int) (b:Box):Option Box:=if Zl≤b.W∧Zl≤b.H then some b else none
def Zbt (q:Zb):Int→List Box→List Zb
 | _,[]=>[]
 | n,b :: l=>Zp6 q b n :: Zbt q (n+1) l
theorem Zjv (q:Zb):∀ (n:Int) (a b:List Box),Zbt q n (a++b)=Zbt q n a++Zbt q (n+a.length) b
 | n,[],b=>by simp[Zbt]
 | n,x :: a,b=>by
  simp only[List.cons_append,Zbt,Zjv q (n+1) a b,List.length_cons]
  congr 3
  omega
theorem Zgp (q:Zb):∀ (n:Int) (a:List Box),(Zbt q n a).length=a.length
 | n,[]=>rfl
 | n,x :: a=>by simp[Zbt,Zgp q (n+1) a]
theorem Zzc (q:Zb) (n:Int) {l:List Box} {i:Nat} {x:Box} (hx:l[i]?=some x):Zbt q n (l.take (i+1))=Zbt q n (l.take i)++[Zp6 q x (n+i)]:=by
 obtain⟨h1,h2⟩:=List.getElem?_eq_some_iff.1 hx
 rw[List.take_succ_eq_append_getElem h1,h2,Zjv]
 simp only[Zbt,List.length_take,Nat.min_eq_left (Nat.le_of_lt h1)]
def Xv (k:ZE) (p:Zh) (Zl:Int):List Box:=((QF k p).filterMap Yz).filterMap (Zag Zl)
theorem Zp7 {k:ZE} {p:Zh} {Zl:Int} (hv:Wm k p=true):∀ b∈Xv k p Zl,VB b∧QJ b ⟨0,0,k.W,k.H⟩:=by
 intro b hb
 obtain⟨t,_,_,hw,_,hf,hp⟩:=Xm hv
 unfold Xv at hb
 rw[hp,ZhU] at hb
 obtain⟨c,hc,hcb⟩:=List.mem_filterMap.1 hb
 unfold Zag at hcb
 split at hcb
 ·cases hcb
  refine⟨Zmp (p:=p) hw hf b hc,?_⟩
  obtain⟨h1,h2,h3,h4,_⟩:=hw
  have:=Znn hf h1 h3 b hc
  simp only[Zly] at this
  simp only[QJ];omega
 ·cases hcb
theorem Zku (k:ZE) (p:Zh) (Zl:Int):(Xv k p Zl).length≤255:=by
 unfold Xv
 refine Nat.le_trans (List.length_filterMap_le _ _) (Nat.le_trans (List.length_filterMap_le _ _) ?_)
 unfold QF
 split
 ·split
  ·rename_i h
   simp only[Bool.and_eq_true,decide_eq_true_eq] at h
   rw[ZbS];exact h.1.2
  ·simp
 ·simp
def remn (q:Zb) (k:ZE) (p:Zh) (Zl label:Int):List Zb:=
 if (VPc q∧WJ q k p)∧1≤Zl∧Zl≤200∧1≤label∧label≤9999∧(Xv k p Zl).length≤10000-label then Zbt q label (Xv k p Zl) else []
def Zah (Zl:Int) (b:Box):Option Box:=if b.W<Zl∨b.H<Zl then some b else none
def ZgX (k:ZE) (p:Zh) (Zl:Int):List Box:=((QF k p).filterMap Yz).filterMap (Zah Zl)
theorem Jy {b:Box} (h:VB b):0≤b.W*b.H∧b.W*b.H≤40000:=by
 simp only[VB] at h
 have h1:0≤b.W*b.H:=Int.mul_nonneg (by omega) (by omega)
 have h2:b.W*b.H≤200*200:=Int.mul_le_mul (by omega) (by omega) (by omega) (by omega)
 omega
theorem ZhW:∀ {l:List Box},(∀ b∈l,VB b)→0≤YG l∧YG l≤40000*l.length
 | [],_=>by simp[YG]
 | b :: l,h=>by
  have h1:=Jy (h b (by simp))
  have h2:=ZhW (l:=l) fun c hc=>h c (by simp[hc])
  simp only[YG,List.length_cons]
  omega
theorem Zp8 (Zl:Int):∀ (l:List Box),YG (l.filterMap (Zag Zl))+YG (l.filterMap (Zah Zl))=YG l
 | []=>by simp[YG]
 | b :: l=>by
  have ih:=Zp8 Zl l
  by_cases h:Zl≤b.W∧Zl≤b.H
  ·have h' : ¬(b.W<Zl∨b.H<Zl):=by omega
   simp only[List.filterMap_cons,Zag,Zah,if_pos h,if_neg h',YG]
   omega
  ·have h' : b.W<Zl∨b.H<Zl:=by omega
   simp only[List.filterMap_cons,Zag,Zah,if_neg h,if_pos h',YG]
   omega
theorem Zf1 {k:ZE} {p:Zh} (hv:Wm k p=true):∀ b∈(QF k p).filterMap Yz,VB b:=by
 obtain⟨t,_,_,hw,_,hf,hp⟩:=Xm hv
 rw[hp,ZhU]
 exact Zmp (p:=p) hw hf
attribute [go_sem] ite_self Bool.false_eq_true
end Go.Abs.L
