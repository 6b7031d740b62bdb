/- The parts of a plan. Own text. -/
import Derived.Test.YtpobhkoombldlaaGreatAbsPlan
set_option linter.unusedVariables false
set_option linter.unusedSimpArgs false
namespace Go.Abs.L
open Go Go.Abs Go.Abs.E
structure Part where
 plan:Zh
 box:Box
def Part.enc (p:Part):D:=.agg (p.plan.enc.cells++[.int .i64 p.box.X,.int .i64 p.box.Y,.int .i64 p.box.W,.int .i64 p.box.H])
@[go_sem] theorem Part.enc_mk (o a p:Int) (t:Bool) (ks:List Zh) (x y w h:Int):Part.enc ⟨.mk o a p t ks,⟨x,y,w,h⟩⟩ =
  .agg [.int .i64 o,.int .i64 a,.int .i64 p,.bool t,.sl (ks.map Zh.enc),.int .i64 x,.int .i64 y,.int .i64 w,.int .i64 h]:=by
 simp only[Part.enc,Zh.enc_mk];rfl
theorem Part.enc_len (p:Part):(Part.enc p).cells.length=9:=by
 show (p.plan.enc.cells++_).length=9
 rw[List.length_append,Zh.enc_len];rfl
@[go_sem] theorem uni_Part (l:List Part):uni 9 (l.map Part.enc)=True:=eq_true (Zci l Part.enc_len)
def pt:BT→Int→Int→Int→Int→List Part
 | .waste,x,y,w,h=>[⟨BT.waste.plan,⟨x,y,w,h⟩⟩]
 | .pane i t,x,y,w,h=>[⟨(BT.pane i t).plan,⟨x,y,w,h⟩⟩]
 | .cut d a l r,x,y,w,h=>⟨(BT.cut d a l r).plan,⟨x,y,w,h⟩⟩ :: if d then pt l x y a h++pt r (x+a) y (w-a) h else pt l x y w a++pt r x (y+a) w (h-a)
def sp:BT→Int→Int→Int→Int→List Place
 | .waste,x,y,w,h=>[⟨-1,false,⟨x,y,w,h⟩⟩]
 | .pane i t,x,y,w,h=>[⟨i,t,⟨x,y,w,h⟩⟩]
 | .cut d a l r,x,y,w,h=>if d then sp l x y a h++sp r (x+a) y (w-a) h else sp l x y w a++sp r x (y+a) w (h-a)
def plc:BT→Int→Int→Int→Int→List Place
 | .waste,x,y,w,h=>[]
 | .pane i t,x,y,w,h=>[⟨i,t,⟨x,y,w,h⟩⟩]
 | .cut d a l r,x,y,w,h=>if d then plc l x y a h++plc r (x+a) y (w-a) h else plc l x y w a++plc r x (y+a) w (h-a)
def wst:BT→Int→Int→Int→Int→List Box
 | .waste,x,y,w,h=>[⟨x,y,w,h⟩]
 | .pane i t,x,y,w,h=>[]
 | .cut d a l r,x,y,w,h=>if d then wst l x y a h++wst r (x+a) y (w-a) h else wst l x y w a++wst r x (y+a) w (h-a)
def PN:BT→Prop
 | .waste=>True
 | .pane i _=>0≤i
 | .cut _ _ l r=>PN l∧PN r
def opP:Zh→Int
 | .mk o _ _ _ _=>o
def Xw (q:Part):Option Place:=match q.plan with
 | .mk o _ p t _=>if o=1 then some ⟨p,t,q.box⟩ else none
def YE (q:Part):Option Box:=match q.plan with
 | .mk o _ _ _ _=>if o=0 then some q.box else none
theorem Vq:∀ (b:BT) (x y w h:Int),(pt b x y w h).filterMap Xw=plc b x y w h
 | .waste,x,y,w,h=>rfl
 | .pane i t,x,y,w,h=>rfl
 | .cut d a l r,x,y,w,h=>by
  have e:Xw ⟨(BT.cut d a l r).plan,⟨x,y,w,h⟩⟩=none:=by cases d<;>rfl
  cases d<;>simp[pt,plc,List.filterMap_append,List.filterMap_cons,e,Vq]
theorem Zft:∀ (b:BT) (x y w h:Int),(pt b x y w h).filterMap YE=wst b x y w h
 | .waste,x,y,w,h=>rfl
 | .pane i t,x,y,w,h=>rfl
 | .cut d a l r,x,y,w,h=>by
  have e:YE ⟨(BT.cut d a l r).plan,⟨x,y,w,h⟩⟩=none:=by cases d<;>rfl
  cases d<;>simp[pt,wst,List.filterMap_append,List.filterMap_cons,e,Zft]
def Zez (q:Place):Option Place:=if 0≤q.Pane then some q else none
def ZeA (q:Place):Option Box:=if q.Pane<0 then some q.Box else none
theorem ZmN:∀ (b:BT) (x y w h:Int),PN b→(sp b x y w h).filterMap Zez=plc b x y w h
 | .waste,x,y,w,h,_=>rfl
 | .pane i t,x,y,w,h,hp=>by
  have hp:0≤i:=hp
  simp[sp,plc,Zez,hp]
 | .cut d a l r,x,y,w,h,hp=>by
  cases d<;>simp[sp,plc,List.filterMap_append,ZmN l _ _ _ _ hp.1,ZmN r _ _ _ _ hp.2]
theorem ZmO:∀ (b:BT) (x y w h:Int),PN b→(sp b x y w h).filterMap ZeA=wst b x y w h
 | .waste,x,y,w,h,_=>rfl
 | .pane i t,x,y,w,h,hp=>by
  have hp:¬i<0:=by have:0≤i:=hp;omega
  simp[sp,wst,ZeA,hp]
 | .cut d a l r,x,y,w,h,hp=>by
  cases d<;>simp[sp,wst,List.filterMap_append,ZmO l _ _ _ _ hp.1,ZmO r _ _ _ _ hp.2]
theorem ZaY:∀ (b:BT) (x y w h:Int),(pt b x y w h).length=b.cnt
 | .waste,x,y,w,h=>rfl
 | .pane i t,x,y,w,h=>rfl
 | .cut d a l r,x,y,w,h=>by
  cases d<;>simp[pt,BT.cnt,ZaY]<;>omega
theorem ZeY:∀ (b:BT) (x y w h:Int),(sp b x y w h).length≤b.cnt
 | .waste,x,y,w,h=>by simp[sp,BT.cnt]
 | .pane i t,x,y,w,h=>by simp[sp,BT.cnt]
 | .cut d a l r,x,y,w,h=>by
  cases d
  ·have h1:=ZeY l x y w a
   have h2:=ZeY r x (y+a) w (h-a)
   simp[sp,BT.cnt];omega
  ·have h1:=ZeY l x y a h
   have h2:=ZeY r (x+a) y (w-a) h
   simp[sp,BT.cnt];omega
theorem Zcl {α β:Type} {l:List α} {f:α→Option β} {k:Nat} {x:α} (hx:l[k]?=some x):(l.take (k+1)).filterMap f=(l.take k).filterMap f++(f x).toList:=by
 obtain⟨h1,h2⟩:=List.getElem?_eq_some_iff.1 hx
 rw[List.take_succ_eq_append_getElem h1,h2,List.filterMap_append]
 cases hf:f x<;>simp[hf]
theorem Zi4 {ps:List Pane}:∀ {b:BT} {w h:Int},YM ps b w h=true→PN b
 | .waste,_,_,_=>trivial
 | .pane i t,w,h,hf=>by
  simp only[YM,YL,Bool.and_eq_true,decide_eq_true_eq] at hf
  exact hf.1
 | .cut d a l r,w,h,hf=>by
  cases d
  ·simp only[YM,Bool.and_eq_true,Bool.false_eq_true,if_false] at hf
   exact⟨Zi4 hf.1.2,Zi4 hf.2⟩
  ·simp only[YM,Bool.and_eq_true,if_true] at hf
   exact⟨Zi4 hf.1.2,Zi4 hf.2⟩
def QE (k:ZD) (p:Zh):List Part:=match Y1 p with
 | some b=>if decide (VW k)&&decide (b.cnt≤255)&&YM k.Panes b k.W k.H then pt b 0 0 k.W k.H else []
 | none=>[]
def Wm (k:ZD) (p:Zh):Bool:=match Y1 p with
 | some b=>decide (VW k)&&decide (b.cnt≤255)&&YM k.Panes b k.W k.H
 | none=>false
theorem Xp {k:ZD} {p:Zh} (h:Wm k p=true):∃ b,Y1 p=some b∧p=b.plan∧VW k∧b.cnt≤255∧YM k.Panes b k.W k.H=true∧QE k p=pt b 0 0 k.W k.H:=by
 have h':=h
 unfold Wm at h
 split at h
 ·rename_i b hb
  refine⟨b,hb,Zi6 hb,?_⟩
  unfold QE
  rw[hb]
  dsimp only
  rw[if_pos h]
  simp only[Bool.and_eq_true,decide_eq_true_eq] at h
  exact⟨h.1.1,h.1.2,h.2,rfl⟩
 ·cases h
theorem Zfu {α:Type} {l:List α} {k:Nat} {x:α} (hx:l[k]?=some x) (P:α→Prop):(∀ y∈l.drop k,P y)↔P x∧∀ y∈l.drop (k+1),P y:=by
 obtain⟨h1,h2⟩:=List.getElem?_eq_some_iff.1 hx
 rw[List.drop_eq_getElem_cons h1,h2]
 simp
def Zd2 (w h:Int) (f:Box):Prop:=VB f∧QP f ⟨0,0,w,h⟩
instance (w h:Int) (f:Box):Decidable (Zd2 w h f):=by unfold Zd2;infer_instance
def VPc (q:Zb):Prop:=(1≤q.Label∧q.Label≤9999∧1≤q.W∧q.W≤200∧1≤q.H∧q.H≤200∧q.Flaws.length≤6)∧∀ f∈q.Flaws,Zd2 q.W q.H f
instance (q:Zb):Decidable (VPc q):=by unfold VPc;infer_instance
def Qg (fs:List Box) (b:Box):Prop:=∀ f∈fs,¬YS f b
instance (fs:List Box) (b:Box):Decidable (Qg fs b):=by unfold Qg;infer_instance
def WG (q:Zb) (k:ZD) (p:Zh):Prop:=Wm k p=true∧k.W=q.W∧k.H=q.H∧∀ c∈(QE k p).filterMap Xw,Qg q.Flaws c.Box
instance (q:Zb) (k:ZD) (p:Zh):Decidable (WG q k p):=by unfold WG;infer_instance
def ZkM (x y w h:Int) (c:Box):Prop:=1≤c.W∧1≤c.H∧x≤c.X∧y≤c.Y∧c.X+c.W≤x+w∧c.Y+c.H≤y+h
theorem ZpK {ps:List Pane}:∀ {b:BT} {x y w h:Int},YM ps b w h=true→1≤w→1≤h→∀ c∈plc b x y w h,ZkM x y w h c.Box
 | .waste,x,y,w,h,hf,h1,h2,c,hc=>by simp[plc] at hc
 | .pane i t,x,y,w,h,hf,h1,h2,c,hc=>by
  simp only[plc,List.mem_singleton] at hc
  subst hc
  simp only[ZkM];omega
 | .cut d a l r,x,y,w,h,hf,h1,h2,c,hc=>by
  cases d
  ·simp only[YM,Bool.and_eq_true,Bool.false_eq_true,if_false,decide_eq_true_eq] at hf
   simp only[plc,Bool.false_eq_true,if_false,List.mem_append] at hc
   rcases hc with hc | hc
   ·have:=ZpK hf.1.2 (by omega) (by omega) c hc
    simp only[ZkM] at this ⊢;omega
   ·have:=ZpK hf.2 (by omega) (by omega) c hc
    simp only[ZkM] at this ⊢;omega
  ·simp only[YM,Bool.and_eq_true,if_true,decide_eq_true_eq] at hf
   simp only[plc,if_true,List.mem_append] at hc
   rcases hc with hc | hc
   ·have:=ZpK hf.1.2 (by omega) (by omega) c hc
    simp only[ZkM] at this ⊢;omega
   ·have:=ZpK hf.2 (by omega) (by omega) c hc
    simp only[ZkM] at this ⊢;omega
theorem ZmP {ps:List Pane}:∀ {b:BT} {x y w h:Int},YM ps b w h=true→1≤w→1≤h→∀ c∈wst b x y w h,ZkM x y w h c
 | .waste,x,y,w,h,hf,h1,h2,c,hc=>by
  simp only[wst,List.mem_singleton] at hc
  subst hc
  simp only[ZkM];omega
 | .pane i t,x,y,w,h,hf,h1,h2,c,hc=>by simp[wst] at hc
 | .cut d a l r,x,y,w,h,hf,h1,h2,c,hc=>by
  cases d
  ·simp only[YM,Bool.and_eq_true,Bool.false_eq_true,if_false,decide_eq_true_eq] at hf
   simp only[wst,Bool.false_eq_true,if_false,List.mem_append] at hc
   rcases hc with hc | hc
   ·have:=ZmP hf.1.2 (by omega) (by omega) c hc
    simp only[ZkM] at this ⊢;omega
   ·have:=ZmP hf.2 (by omega) (by omega) c hc
    simp only[ZkM] at this ⊢;omega
  ·simp only[YM,Bool.and_eq_true,if_true,decide_eq_true_eq] at hf
   simp only[wst,if_true,List.mem_append] at hc
   rcases hc with hc | hc
   ·have:=ZmP hf.1.2 (by omega) (by omega) c hc
    simp only[ZkM] at this ⊢;omega
   ·have:=ZmP hf.2 (by omega) (by omega) c hc
    simp only[ZkM] at this ⊢;omega
def YK:List Box→Int
 | []=>0
 | c :: l=>c.W*c.H+YK l
theorem Zdo (a b:List Box):YK (a++b)=YK a+YK b:=by
 induction a with
 | nil=>simp[YK]
 | cons c l ih=>simp only[List.cons_append,YK,ih];omega
theorem ZlA {ps:List Pane}:∀ {b:BT} {x y w h:Int},YK (wst b x y w h)+YK ((plc b x y w h).map Place.Box)=w*h
 | .waste,x,y,w,h=>by simp[wst,plc,YK]
 | .pane i t,x,y,w,h=>by simp[wst,plc,YK]
 | .cut d a l r,x,y,w,h=>by
  cases d
  ·have h1:=ZlA (ps:=ps) (b:=l) (x:=x) (y:=y) (w:=w) (h:=a)
   have h2:=ZlA (ps:=ps) (b:=r) (x:=x) (y:=y+a) (w:=w) (h:=h-a)
   have h3:w*(h-a)=w*h-w*a:=Int.mul_sub w h a
   simp only[wst,plc,Bool.false_eq_true,if_false,Zdo,List.map_append]
   omega
  ·have h1:=ZlA (ps:=ps) (b:=l) (x:=x) (y:=y) (w:=a) (h:=h)
   have h2:=ZlA (ps:=ps) (b:=r) (x:=x+a) (y:=y) (w:=w-a) (h:=h)
   have h3:(w-a)*h=w*h-a*h:=Int.sub_mul w a h
   simp only[wst,plc,if_true,Zdo,List.map_append]
   omega
theorem ZoW:∀ (b:BT) (x y w h:Int),(wst b x y w h).length≤b.cnt
 | .waste,x,y,w,h=>by simp[wst,BT.cnt]
 | .pane i t,x,y,w,h=>by simp[wst,BT.cnt]
 | .cut d a l r,x,y,w,h=>by
  cases d
  ·have h1:=ZoW l x y w a
   have h2:=ZoW r x (y+a) w (h-a)
   simp[wst,BT.cnt];omega
  ·have h1:=ZoW l x y a h
   have h2:=ZoW r (x+a) y (w-a) h
   simp[wst,BT.cnt];omega
theorem ZlB {k:ZD} {p:Zh} {b:BT} (hv:VW k) (hf:YM k.Panes b k.W k.H=true):∀ c∈plc b 0 0 k.W k.H,VB c.Box:=by
 intro c hc
 obtain⟨h1,h2,h3,h4,_⟩:=hv
 have:=ZpK hf h1 h3 c hc
 simp only[ZkM] at this
 simp only[VB];omega
theorem ZlC {k:ZD} {p:Zh} {b:BT} (hv:VW k) (hf:YM k.Panes b k.W k.H=true):∀ c∈wst b 0 0 k.W k.H,VB c:=by
 intro c hc
 obtain⟨h1,h2,h3,h4,_⟩:=hv
 have:=ZmP hf h1 h3 c hc
 simp only[ZkM] at this
 simp only[VB];omega
def ZtU (b m:Box):Box:=⟨m.X-b.X,m.Y-b.Y,m.W,m.H⟩
def Vx (b f:Box):Option Box:=if YS f b then some (ZtU b (ZgD f b)) else none
def ZpL (q:Zb) (b:Box) (label:Int):Zb:=⟨label,b.W,b.H,q.Flaws.filterMap (Vx b)⟩
theorem Zw8 {q:Zb} {b:Box} {label:Int} (hq:VPc q) (hb:VB b) (hi:QP b ⟨0,0,q.W,q.H⟩) (h1:1≤label) (h2:label≤9999):VPc (ZpL q b label):=by
 simp only[VB] at hb
 refine⟨⟨h1,h2,?_,?_,?_,?_,Nat.le_trans (List.length_filterMap_le _ _) hq.1.2.2.2.2.2.2⟩,?_⟩
 ·show 1≤b.W;omega
 ·show b.W≤200;omega
 ·show 1≤b.H;omega
 ·show b.H≤200;omega
 ·intro f hf
  obtain⟨g,hg,hgf⟩:=List.mem_filterMap.1 hf
  have hgv:=hq.2 g hg
  unfold Vx at hgf
  split at hgf
  ·rename_i hm
   cases hgf
   simp only[Zd2,VB,QP] at hgv
   simp only[YS] at hm
   simp only[Zd2,VB,QP,ZtU,ZgD,ZpL]
   omega
  ·cases hgf
def JV (Zk:Int) (b:Box):Option Box:=if Zk≤b.W∧Zk≤b.H then some b else none
def ZaC (q:Zb):Int→List Box→List Zb
 | _,[]=>[]
 | n,b :: l=>ZpL q b n :: ZaC q (n+1) l
theorem ZhD (q:Zb):∀ (n:Int) (a b:List Box),ZaC q n (a++b)=ZaC q n a++ZaC q (n+a.length) b
 | n,[],b=>by simp[ZaC]
 | n,x :: a,b=>by
  simp only[List.cons_append,ZaC,ZhD q (n+1) a b,List.length_cons]
  congr 3
  omega
theorem Zd3 (q:Zb):∀ (n:Int) (a:List Box),(ZaC q n a).length=a.length
 | n,[]=>rfl
 | n,x :: a=>by simp[ZaC,Zd3 q (n+1) a]
theorem Zy3 (q:Zb) (n:Int) {l:List Box} {i:Nat} {x:Box} (hx:l[i]?=some x):ZaC q n (l.take (i+1))=ZaC q n (l.take i)++[ZpL q x (n+i)]:=by
 obtain⟨h1,h2⟩:=List.getElem?_eq_some_iff.1 hx
 rw[List.take_succ_eq_append_getElem h1,h2,ZhD]
 simp only[ZaC,List.length_take,Nat.min_eq_left (Nat.le_of_lt h1)]
def XB (k:ZD) (p:Zh) (Zk:Int):List Box:=((QE k p).filterMap YE).filterMap (JV Zk)
theorem ZpM {k:ZD} {p:Zh} {Zk:Int} (hv:Wm k p=true):∀ b∈XB k p Zk,VB b∧QP b ⟨0,0,k.W,k.H⟩:=by
 intro b hb
 obtain⟨t,_,_,hw,_,hf,hp⟩:=Xp hv
 unfold XB at hb
 rw[hp,Zft] at hb
 obtain⟨c,hc,hcb⟩:=List.mem_filterMap.1 hb
 unfold JV at hcb
 split at hcb
 ·cases hcb
  refine⟨ZlC (p:=p) hw hf b hc,?_⟩
  obtain⟨h1,h2,h3,h4,_⟩:=hw
  have:=ZmP hf h1 h3 b hc
  simp only[ZkM] at this
  simp only[QP];omega
 ·cases hcb
theorem Zi5 (k:ZD) (p:Zh) (Zk:Int):(XB k p Zk).length≤255:=by
 unfold XB
 refine Nat.le_trans (List.length_filterMap_le _ _) (Nat.le_trans (List.length_filterMap_le _ _) ?_)
 unfold QE
 split
 ·split
  ·rename_i h
   simp only[Bool.and_eq_true,decide_eq_true_eq] at h
   rw[ZaY];exact h.1.2
  ·simp
 ·simp
def remn (q:Zb) (k:ZD) (p:Zh) (Zk label:Int):List Zb:=
 if (VPc q∧WG q k p)∧1≤Zk∧Zk≤200∧1≤label∧label≤9999∧(XB k p Zk).length≤10000-label then ZaC q label (XB k p Zk) else []
def JW (Zk:Int) (b:Box):Option Box:=if b.W<Zk∨b.H<Zk then some b else none
def ZeB (k:ZD) (p:Zh) (Zk:Int):List Box:=((QE k p).filterMap YE).filterMap (JW Zk)
theorem ZaZ {b:Box} (h:VB b):0≤b.W*b.H∧b.W*b.H≤40000:=by
 simp only[VB] at h
 have h1:0≤b.W*b.H:=Int.mul_nonneg (by omega) (by omega)
 have h2:b.W*b.H≤200*200:=Int.mul_le_mul (by omega) (by omega) (by omega) (by omega)
 omega
theorem Zfv:∀ {l:List Box},(∀ b∈l,VB b)→0≤YK l∧YK l≤40000*l.length
 | [],_=>by simp[YK]
 | b :: l,h=>by
  have h1:=ZaZ (h b (by simp))
  have h2:=Zfv (l:=l) fun c hc=>h c (by simp[hc])
  simp only[YK,List.length_cons]
  omega
theorem ZpN (Zk:Int):∀ (l:List Box),YK (l.filterMap (JV Zk))+YK (l.filterMap (JW Zk))=YK l
 | []=>by simp[YK]
 | b :: l=>by
  have ih:=ZpN Zk l
  by_cases h:Zk≤b.W∧Zk≤b.H
  ·have h' : ¬(b.W<Zk∨b.H<Zk):=by omega
   simp only[List.filterMap_cons,JV,JW,if_pos h,if_neg h',YK]
   omega
  ·have h' : b.W<Zk∨b.H<Zk:=by omega
   simp only[List.filterMap_cons,JV,JW,if_neg h,if_pos h',YK]
   omega
theorem ZdE {k:ZD} {p:Zh} (hv:Wm k p=true):∀ b∈(QE k p).filterMap YE,VB b:=by
 obtain⟨t,_,_,hw,_,hf,hp⟩:=Xp hv
 rw[hp,Zft]
 exact ZlC (p:=p) hw hf
attribute [go_sem] ite_self Bool.false_eq_true
end Go.Abs.L
