/- The parts of a plan. Own text. -/
import Derived.Test.YtemkonmgcoceaaaDoorAbsPlan
set_option linter.unusedVariables false
set_option linter.unusedSimpArgs false
namespace Go.Abs.L
open Go Go.Abs Go.Abs.E
structure Part where
 plan:Ze
 box:Box
def Part.enc (p:Part):D:=.agg (p.plan.enc.cells++[.int .i64 p.box.X,.int .i64 p.box.Y,.int .i64 p.box.W,.int .i64 p.box.H])
@[go_sem] theorem Part.enc_mk (o a p:Int) (t:Bool) (ks:List Ze) (x y w h:Int):Part.enc ⟨.mk o a p t ks,⟨x,y,w,h⟩⟩ =
  .agg [.int .i64 o,.int .i64 a,.int .i64 p,.bool t,.sl (ks.map Ze.enc),.int .i64 x,.int .i64 y,.int .i64 w,.int .i64 h]:=by
 simp only[Part.enc,Ze.enc_mk];rfl
theorem Part.enc_len (p:Part):(Part.enc p).cells.length=9:=by
 show (p.plan.enc.cells++_).length=9
 rw[List.length_append,Ze.enc_len];rfl
@[go_sem] theorem uni_Part (l:List Part):uni 9 (l.map Part.enc)=True:=eq_true (Uf l Part.enc_len)
def pt:BT→Int→Int→Int→Int→List Part
 | .waste,x,y,w,h=>[⟨BT.waste.plan,⟨x,y,w,h⟩⟩]
 | .pane i t,x,y,w,h=>[⟨(BT.pane i t).plan,⟨x,y,w,h⟩⟩]
 | .cut d a l r,x,y,w,h=>⟨(BT.cut d a l r).plan,⟨x,y,w,h⟩⟩ :: if d then pt l x y a h++pt r (x+a) y (w-a) h else pt l x y w a++pt r x (y+a) w (h-a)
def sp:BT→Int→Int→Int→Int→List Vy
 | .waste,x,y,w,h=>[⟨-1,false,⟨x,y,w,h⟩⟩]
 | .pane i t,x,y,w,h=>[⟨i,t,⟨x,y,w,h⟩⟩]
 | .cut d a l r,x,y,w,h=>if d then sp l x y a h++sp r (x+a) y (w-a) h else sp l x y w a++sp r x (y+a) w (h-a)
def plc:BT→Int→Int→Int→Int→List Vy
 | .waste,x,y,w,h=>[]
 | .pane i t,x,y,w,h=>[⟨i,t,⟨x,y,w,h⟩⟩]
 | .cut d a l r,x,y,w,h=>if d then plc l x y a h++plc r (x+a) y (w-a) h else plc l x y w a++plc r x (y+a) w (h-a)
def wst:BT→Int→Int→Int→Int→List Box
 | .waste,x,y,w,h=>[⟨x,y,w,h⟩]
 | .pane i t,x,y,w,h=>[]
 | .cut d a l r,x,y,w,h=>if d then wst l x y a h++wst r (x+a) y (w-a) h else wst l x y w a++wst r x (y+a) w (h-a)
def PN:BT→Prop
 | .waste=>True
 | .pane i _=>0≤i
 | .cut _ _ l r=>PN l∧PN r
def opP:Ze→Int
 | .mk o _ _ _ _=>o
def ZjE (q:Part):Option Vy:=match q.plan with
 | .mk o _ p t _=>if o=1 then some ⟨p,t,q.box⟩ else none
def ZdL (q:Part):Option Box:=match q.plan with
 | .mk o _ _ _ _=>if o=0 then some q.box else none
theorem Zoi:∀ (b:BT) (x y w h:Int),(pt b x y w h).filterMap ZjE=plc b x y w h
 | .waste,x,y,w,h=>rfl
 | .pane i t,x,y,w,h=>rfl
 | .cut d a l r,x,y,w,h=>by
  have e:ZjE ⟨(BT.cut d a l r).plan,⟨x,y,w,h⟩⟩=none:=by cases d<;>rfl
  cases d<;>simp[pt,plc,List.filterMap_append,List.filterMap_cons,e,Zoi]
theorem Zet:∀ (b:BT) (x y w h:Int),(pt b x y w h).filterMap ZdL=wst b x y w h
 | .waste,x,y,w,h=>rfl
 | .pane i t,x,y,w,h=>rfl
 | .cut d a l r,x,y,w,h=>by
  have e:ZdL ⟨(BT.cut d a l r).plan,⟨x,y,w,h⟩⟩=none:=by cases d<;>rfl
  cases d<;>simp[pt,wst,List.filterMap_append,List.filterMap_cons,e,Zet]
def Znf (q:Vy):Option Vy:=if 0≤q.Pane then some q else none
def Zng (q:Vy):Option Box:=if q.Pane<0 then some q.Box else none
theorem ZiD:∀ (b:BT) (x y w h:Int),PN b→(sp b x y w h).filterMap Znf=plc b x y w h
 | .waste,x,y,w,h,_=>rfl
 | .pane i t,x,y,w,h,hp=>by
  have hp:0≤i:=hp
  simp[sp,plc,Znf,hp]
 | .cut d a l r,x,y,w,h,hp=>by
  cases d<;>simp[sp,plc,List.filterMap_append,ZiD l _ _ _ _ hp.1,ZiD r _ _ _ _ hp.2]
theorem ZiE:∀ (b:BT) (x y w h:Int),PN b→(sp b x y w h).filterMap Zng=wst b x y w h
 | .waste,x,y,w,h,_=>rfl
 | .pane i t,x,y,w,h,hp=>by
  have hp:¬i<0:=by have:0≤i:=hp;omega
  simp[sp,wst,Zng,hp]
 | .cut d a l r,x,y,w,h,hp=>by
  cases d<;>simp[sp,wst,List.filterMap_append,ZiE l _ _ _ _ hp.1,ZiE r _ _ _ _ hp.2]
theorem Zpr:∀ (b:BT) (x y w h:Int),(pt b x y w h).length=b.cnt
 | .waste,x,y,w,h=>rfl
 | .pane i t,x,y,w,h=>rfl
 | .cut d a l r,x,y,w,h=>by
  cases d<;>simp[pt,BT.cnt,Zpr]<;>omega
theorem ZjF:∀ (b:BT) (x y w h:Int),(sp b x y w h).length≤b.cnt
 | .waste,x,y,w,h=>by simp[sp,BT.cnt]
 | .pane i t,x,y,w,h=>by simp[sp,BT.cnt]
 | .cut d a l r,x,y,w,h=>by
  cases d
  ·have h1:=ZjF l x y w a
   have h2:=ZjF r x (y+a) w (h-a)
   simp[sp,BT.cnt];omega
  ·have h1:=ZjF l x y a h
   have h2:=ZjF r (x+a) y (w-a) h
   simp[sp,BT.cnt];omega
theorem fm_take {α β:Type} {l:List α} {f:α→Option β} {k:Nat} {x:α} (hx:l[k]?=some x):(l.take (k+1)).filterMap f=(l.take k).filterMap f++(f x).toList:=by
 obtain⟨h1,h2⟩:=List.getElem?_eq_some_iff.1 hx
 rw[List.take_succ_eq_append_getElem h1,h2,List.filterMap_append]
 cases hf:f x<;>simp[hf]
theorem ZfL {ps:List Pane}:∀ {b:BT} {w h:Int},ZaH ps b w h=true→PN b
 | .waste,_,_,_=>trivial
 | .pane i t,w,h,hf=>by
  simp only[ZaH,Zk8,Bool.and_eq_true,decide_eq_true_eq] at hf
  exact hf.1
 | .cut d a l r,w,h,hf=>by
  cases d
  ·simp only[ZaH,Bool.and_eq_true,Bool.false_eq_true,if_false] at hf
   exact⟨ZfL hf.1.2,ZfL hf.2⟩
  ·simp only[ZaH,Bool.and_eq_true,if_true] at hf
   exact⟨ZfL hf.1.2,ZfL hf.2⟩
def ZcV (k:Ue) (p:Ze):List Part:=match QC p with
 | some b=>if decide (VW k)&&decide (b.cnt≤255)&&ZaH k.Panes b k.W k.H then pt b 0 0 k.W k.H else []
 | none=>[]
def Zk4 (k:Ue) (p:Ze):Bool:=match QC p with
 | some b=>decide (VW k)&&decide (b.cnt≤255)&&ZaH k.Panes b k.W k.H
 | none=>false
theorem ZgX {k:Ue} {p:Ze} (h:Zk4 k p=true):∃ b,QC p=some b∧p=b.plan∧VW k∧b.cnt≤255∧ZaH k.Panes b k.W k.H=true∧ZcV k p=pt b 0 0 k.W k.H:=by
 have h':=h
 unfold Zk4 at h
 split at h
 ·rename_i b hb
  refine⟨b,hb,Zab hb,?_⟩
  unfold ZcV
  rw[hb]
  dsimp only
  rw[if_pos h]
  simp only[Bool.and_eq_true,decide_eq_true_eq] at h
  exact⟨h.1.1,h.1.2,h.2,rfl⟩
 ·cases h
theorem all_drop {α:Type} {l:List α} {k:Nat} {x:α} (hx:l[k]?=some x) (P:α→Prop):(∀ y∈l.drop k,P y)↔P x∧∀ y∈l.drop (k+1),P y:=by
 obtain⟨h1,h2⟩:=List.getElem?_eq_some_iff.1 hx
 rw[List.drop_eq_getElem_cons h1,h2]
 simp
def ZgY (w h:Int) (f:Box):Prop:=VB f∧Zbr f ⟨0,0,w,h⟩
instance (w h:Int) (f:Box):Decidable (ZgY w h f):=by unfold ZgY;infer_instance
def VPc (q:XU):Prop:=(1≤q.Label∧q.Label≤9999∧1≤q.W∧q.W≤200∧1≤q.H∧q.H≤200∧q.Flaws.length≤6)∧∀ f∈q.Flaws,ZgY q.W q.H f
instance (q:XU):Decidable (VPc q):=by unfold VPc;infer_instance
def ZjG (fs:List Box) (b:Box):Prop:=∀ f∈fs,¬ZkV f b
instance (fs:List Box) (b:Box):Decidable (ZjG fs b):=by unfold ZjG;infer_instance
def Zps (q:XU) (k:Ue) (p:Ze):Prop:=Zk4 k p=true∧k.W=q.W∧k.H=q.H∧∀ c∈(ZcV k p).filterMap ZjE,ZjG q.Flaws c.Box
instance (q:XU) (k:Ue) (p:Ze):Decidable (Zps q k p):=by unfold Zps;infer_instance
def ZcW (x y w h:Int) (c:Box):Prop:=1≤c.W∧1≤c.H∧x≤c.X∧y≤c.Y∧c.X+c.W≤x+w∧c.Y+c.H≤y+h
theorem ZgZ {ps:List Pane}:∀ {b:BT} {x y w h:Int},ZaH ps b w h=true→1≤w→1≤h→∀ c∈plc b x y w h,ZcW x y w h c.Box
 | .waste,x,y,w,h,hf,h1,h2,c,hc=>by simp[plc] at hc
 | .pane i t,x,y,w,h,hf,h1,h2,c,hc=>by
  simp only[plc,List.mem_singleton] at hc
  subst hc
  simp only[ZcW];omega
 | .cut d a l r,x,y,w,h,hf,h1,h2,c,hc=>by
  cases d
  ·simp only[ZaH,Bool.and_eq_true,Bool.false_eq_true,if_false,decide_eq_true_eq] at hf
   simp only[plc,Bool.false_eq_true,if_false,List.mem_append] at hc
   rcases hc with hc | hc
   ·have:=ZgZ hf.1.2 (by omega) (by omega) c hc
    simp only[ZcW] at this ⊢;omega
   ·have:=ZgZ hf.2 (by omega) (by omega) c hc
    simp only[ZcW] at this ⊢;omega
  ·simp only[ZaH,Bool.and_eq_true,if_true,decide_eq_true_eq] at hf
   simp only[plc,if_true,List.mem_append] at hc
   rcases hc with hc | hc
   ·have:=ZgZ hf.1.2 (by omega) (by omega) c hc
    simp only[ZcW] at this ⊢;omega
   ·have:=ZgZ hf.2 (by omega) (by omega) c hc
    simp only[ZcW] at this ⊢;omega
theorem Zeu {ps:List Pane}:∀ {b:BT} {x y w h:Int},ZaH ps b w h=true→1≤w→1≤h→∀ c∈wst b x y w h,ZcW x y w h c
 | .waste,x,y,w,h,hf,h1,h2,c,hc=>by
  simp only[wst,List.mem_singleton] at hc
  subst hc
  simp only[ZcW];omega
 | .pane i t,x,y,w,h,hf,h1,h2,c,hc=>by simp[wst] at hc
 | .cut d a l r,x,y,w,h,hf,h1,h2,c,hc=>by
  cases d
  ·simp only[ZaH,Bool.and_eq_true,Bool.false_eq_true,if_false,decide_eq_true_eq] at hf
   simp only[wst,Bool.false_eq_true,if_false,List.mem_append] at hc
   rcases hc with hc | hc
   ·have:=Zeu hf.1.2 (by omega) (by omega) c hc
    simp only[ZcW] at this ⊢;omega
   ·have:=Zeu hf.2 (by omega) (by omega) c hc
    simp only[ZcW] at this ⊢;omega
  ·simp only[ZaH,Bool.and_eq_true,if_true,decide_eq_true_eq] at hf
   simp only[wst,if_true,List.mem_append] at hc
   rcases hc with hc | hc
   ·have:=Zeu hf.1.2 (by omega) (by omega) c hc
    simp only[ZcW] at this ⊢;omega
   ·have:=Zeu hf.2 (by omega) (by omega) c hc
    simp only[ZcW] at this ⊢;omega
def Vz:List Box→Int
 | []=>0
 | c :: l=>c.W*c.H+Vz l
theorem ZdM (a b:List Box):Vz (a++b)=Vz a+Vz b:=by
 induction a with
 | nil=>simp[Vz]
 | cons c l ih=>simp only[List.cons_append,Vz,ih];omega
theorem ZdN {ps:List Pane}:∀ {b:BT} {x y w h:Int},Vz (wst b x y w h)+Vz ((plc b x y w h).map Vy.Box)=w*h
 | .waste,x,y,w,h=>by simp[wst,plc,Vz]
 | .pane i t,x,y,w,h=>by simp[wst,plc,Vz]
 | .cut d a l r,x,y,w,h=>by
  cases d
  ·have h1:=ZdN (ps:=ps) (b:=l) (x:=x) (y:=y) (w:=w) (h:=a)
   have h2:=ZdN (ps:=ps) (b:=r) (x:=x) (y:=y+a) (w:=w) (h:=h-a)
   have h3:w*(h-a)=w*h-w*a:=Int.mul_sub w h a
   simp only[wst,plc,Bool.false_eq_true,if_false,ZdM,List.map_append]
   omega
  ·have h1:=ZdN (ps:=ps) (b:=l) (x:=x) (y:=y) (w:=a) (h:=h)
   have h2:=ZdN (ps:=ps) (b:=r) (x:=x+a) (y:=y) (w:=w-a) (h:=h)
   have h3:(w-a)*h=w*h-a*h:=Int.sub_mul w a h
   simp only[wst,plc,if_true,ZdM,List.map_append]
   omega
theorem ZfM:∀ (b:BT) (x y w h:Int),(wst b x y w h).length≤b.cnt
 | .waste,x,y,w,h=>by simp[wst,BT.cnt]
 | .pane i t,x,y,w,h=>by simp[wst,BT.cnt]
 | .cut d a l r,x,y,w,h=>by
  cases d
  ·have h1:=ZfM l x y w a
   have h2:=ZfM r x (y+a) w (h-a)
   simp[wst,BT.cnt];omega
  ·have h1:=ZfM l x y a h
   have h2:=ZfM r (x+a) y (w-a) h
   simp[wst,BT.cnt];omega
theorem ZqC {k:Ue} {p:Ze} {b:BT} (hv:VW k) (hf:ZaH k.Panes b k.W k.H=true):∀ c∈plc b 0 0 k.W k.H,VB c.Box:=by
 intro c hc
 obtain⟨h1,h2,h3,h4,_⟩:=hv
 have:=ZgZ hf h1 h3 c hc
 simp only[ZcW] at this
 simp only[VB];omega
theorem ZdO {k:Ue} {p:Ze} {b:BT} (hv:VW k) (hf:ZaH k.Panes b k.W k.H=true):∀ c∈wst b 0 0 k.W k.H,VB c:=by
 intro c hc
 obtain⟨h1,h2,h3,h4,_⟩:=hv
 have:=Zeu hf h1 h3 c hc
 simp only[ZcW] at this
 simp only[VB];omega
def Zpt (b m:Box):Box:=⟨m.X-b.X,m.Y-b.Y,m.W,m.H⟩
def Znh (b f:Box):Option Box:=if ZkV f b then some (Zpt b (meetB f b)) else none
def cutP (q:XU) (b:Box) (label:Int):XU:=⟨label,b.W,b.H,q.Flaws.filterMap (Znh b)⟩
theorem Zr6 {q:XU} {b:Box} {label:Int} (hq:VPc q) (hb:VB b) (hi:Zbr b ⟨0,0,q.W,q.H⟩) (h1:1≤label) (h2:label≤9999):VPc (cutP q b label):=by
 simp only[VB] at hb
 refine⟨⟨h1,h2,?_,?_,?_,?_,Nat.le_trans (List.length_filterMap_le _ _) hq.1.2.2.2.2.2.2⟩,?_⟩
 ·show 1≤b.W;omega
 ·show b.W≤200;omega
 ·show 1≤b.H;omega
 ·show b.H≤200;omega
 ·intro f hf
  obtain⟨g,hg,hgf⟩:=List.mem_filterMap.1 hf
  have hgv:=hq.2 g hg
  unfold Znh at hgf
  split at hgf
  ·rename_i hm
   cases hgf
   simp only[ZgY,VB,Zbr] at hgv
   simp only[ZkV] at hm
   simp only[ZgY,VB,Zbr,Zpt,meetB,cutP]
   omega
  ·cases hgf
def Zk5 (Xo:Int) (b:Box):Option Box:=if Xo≤b.W∧Xo≤b.H then some b else none
def ZfC (q:XU):Int→List Box→List XU
 | _,[]=>[]
 | n,b :: l=>cutP q b n :: ZfC q (n+1) l
theorem Zfl (q:XU):∀ (n:Int) (a b:List Box),ZfC q n (a++b)=ZfC q n a++ZfC q (n+a.length) b
 | n,[],b=>by simp[ZfC]
 | n,x :: a,b=>by
  simp only[List.cons_append,ZfC,Zfl q (n+1) a b,List.length_cons]
  congr 3
  omega
theorem Zpu (q:XU):∀ (n:Int) (a:List Box),(ZfC q n a).length=a.length
 | n,[]=>rfl
 | n,x :: a=>by simp[ZfC,Zpu q (n+1) a]
theorem cutN_take (q:XU) (n:Int) {l:List Box} {i:Nat} {x:Box} (hx:l[i]?=some x):ZfC q n (l.take (i+1))=ZfC q n (l.take i)++[cutP q x (n+i)]:=by
 obtain⟨h1,h2⟩:=List.getElem?_eq_some_iff.1 hx
 rw[List.take_succ_eq_append_getElem h1,h2,Zfl]
 simp only[ZfC,List.length_take,Nat.min_eq_left (Nat.le_of_lt h1)]
def ZiF (k:Ue) (p:Ze) (Xo:Int):List Box:=((ZcV k p).filterMap ZdL).filterMap (Zk5 Xo)
theorem keptL_in {k:Ue} {p:Ze} {Xo:Int} (hv:Zk4 k p=true):∀ b∈ZiF k p Xo,VB b∧Zbr b ⟨0,0,k.W,k.H⟩:=by
 intro b hb
 obtain⟨t,_,_,hw,_,hf,hp⟩:=ZgX hv
 unfold ZiF at hb
 rw[hp,Zet] at hb
 obtain⟨c,hc,hcb⟩:=List.mem_filterMap.1 hb
 unfold Zk5 at hcb
 split at hcb
 ·cases hcb
  refine⟨ZdO (p:=p) hw hf b hc,?_⟩
  obtain⟨h1,h2,h3,h4,_⟩:=hw
  have:=Zeu hf h1 h3 b hc
  simp only[ZcW] at this
  simp only[Zbr];omega
 ·cases hcb
theorem keptL_len (k:Ue) (p:Ze) (Xo:Int):(ZiF k p Xo).length≤255:=by
 unfold ZiF
 refine Nat.le_trans (List.length_filterMap_le _ _) (Nat.le_trans (List.length_filterMap_le _ _) ?_)
 unfold ZcV
 split
 ·split
  ·rename_i h
   simp only[Bool.and_eq_true,decide_eq_true_eq] at h
   rw[Zpr];exact h.1.2
  ·simp
 ·simp
def remn (q:XU) (k:Ue) (p:Ze) (Xo label:Int):List XU:=
 if (VPc q∧Zps q k p)∧1≤Xo∧Xo≤200∧1≤label∧label≤9999∧(ZiF k p Xo).length≤10000-label then ZfC q label (ZiF k p Xo) else []
def Zni (Xo:Int) (b:Box):Option Box:=if b.W<Xo∨b.H<Xo then some b else none
def lostL (k:Ue) (p:Ze) (Xo:Int):List Box:=((ZcV k p).filterMap ZdL).filterMap (Zni Xo)
theorem ZqD {b:Box} (h:VB b):0≤b.W*b.H∧b.W*b.H≤40000:=by
 simp only[VB] at h
 have h1:0≤b.W*b.H:=Int.mul_nonneg (by omega) (by omega)
 have h2:b.W*b.H≤200*200:=Int.mul_le_mul (by omega) (by omega) (by omega) (by omega)
 omega
theorem Zpv:∀ {l:List Box},(∀ b∈l,VB b)→0≤Vz l∧Vz l≤40000*l.length
 | [],_=>by simp[Vz]
 | b :: l,h=>by
  have h1:=ZqD (h b (by simp))
  have h2:=Zpv (l:=l) fun c hc=>h c (by simp[hc])
  simp only[Vz,List.length_cons]
  omega
theorem Zg0 (Xo:Int):∀ (l:List Box),Vz (l.filterMap (Zk5 Xo))+Vz (l.filterMap (Zni Xo))=Vz l
 | []=>by simp[Vz]
 | b :: l=>by
  have ih:=Zg0 Xo l
  by_cases h:Xo≤b.W∧Xo≤b.H
  ·have h' : ¬(b.W<Xo∨b.H<Xo):=by omega
   simp only[List.filterMap_cons,Zk5,Zni,if_pos h,if_neg h',Vz]
   omega
  ·have h' : b.W<Xo∨b.H<Xo:=by omega
   simp only[List.filterMap_cons,Zk5,Zni,if_neg h,if_pos h',Vz]
   omega
theorem wastes_VB {k:Ue} {p:Ze} (hv:Zk4 k p=true):∀ b∈(ZcV k p).filterMap ZdL,VB b:=by
 obtain⟨t,_,_,hw,_,hf,hp⟩:=ZgX hv
 rw[hp,Zet]
 exact ZdO (p:=p) hw hf
attribute [go_sem] ite_self Bool.false_eq_true
end Go.Abs.L
