/- The parts of a plan. Own text. -/
import Derived.Test.YtkdjbefmiiibpaaGreatDoorAbsLib
set_option linter.unusedVariables false
set_option linter.unusedSimpArgs false
namespace Go.Abs.L
open Go Go.Abs Go.Abs.E
inductive BT where
 | waste
 | pane (i:Int) (t:Bool)
 | cut (d:Bool) (a:Int) (l r:BT)
deriving DecidableEq,Inhabited
def Zby (d:Bool):Int:=if d then 2 else 3
def BT.plan:BT→Zj
 | .waste=>.mk 0 0 0 false []
 | .pane i t=>.mk 1 0 i t []
 | .cut d a l r=>.mk (Zby d) a 0 false [l.plan,r.plan]
def BT.cnt:BT→Nat
 | .waste=>1
 | .pane _ _=>1
 | .cut _ _ l r=>1+l.cnt+r.cnt
theorem BT.cnt_pos (b:BT):1≤b.cnt:=by cases b<;>simp[BT.cnt]<;>omega
def Zj.nodes:Zj→Nat
 | .mk _ _ _ _ ks=>1+nodesL ks
where nodesL:List Zj→Nat
 | []=>0
 | p :: r=>Zj.nodes p+nodesL r
def Zho (o a p:Int) (t:Bool) (l r:Option BT):Option BT:=match l,r with
 | some x,some y=>if p=0∧t=false then some (.cut (decide (o=2)) a x y) else none
 | _,_=>none
mutual
def Xi:Zj→Option BT
 | .mk o a p t ks=>if o=2∨o=3 then ZuT o a p t ks else
   if ks.length=0∧a=0∧o=1 then some (.pane p t) else
   if ks.length=0∧a=0∧o=0∧p=0∧t=false then some .waste else none
def ZuT (o a p:Int) (t:Bool):List Zj→Option BT
 | []=>none
 | x :: r=>Zx5 o a p t (Xi x) r
def Zx5 (o a p:Int) (t:Bool) (l:Option BT):List Zj→Option BT
 | []=>none
 | y :: r=>match r with
  | []=>Zho o a p t l (Xi y)
  | _=>none
end
theorem Zpm (o a p:Int) (t:Bool) (x y:Zj) (ho:o=2∨o=3):Xi (.mk o a p t [x,y])=Zho o a p t (Xi x) (Xi y):=by
 simp[Xi,ZuT,Zx5,ho]
theorem ZmE (o a p:Int) (t:Bool) (ks:List Zj) (ho:o=2∨o=3) (hk:ks.length≠2):Xi (.mk o a p t ks)=none:=by
 match ks,hk with
 | [],_=>simp[Xi,ZuT,ho]
 | [x],_=>simp[Xi,ZuT,Zx5,ho]
 | [x,y],h=>simp at h
 | x :: y :: z :: r,_=>simp[Xi,ZuT,Zx5,ho]
theorem Vh:∀ b:BT,Xi b.plan=some b
 | .waste=>by simp[BT.plan,Xi]
 | .pane i t=>by simp[BT.plan,Xi]
 | .cut d a l r=>by
  rw[BT.plan,Zpm _ _ _ _ _ _ (by cases d<;>simp[Zby]),Vh l,Vh r]
  cases d<;>simp[Zho,Zby]
theorem Zhp:∀ (n:Nat) (p:Zj) (b:BT),p.nodes≤n→Xi p=some b→p=b.plan
 | 0,.mk o a p t ks,b,hn,_=>by simp[Zj.nodes] at hn
 | n+1,.mk o a p t ks,b,hn,h=>by
  by_cases ho:o=2∨o=3
  ·by_cases hk:ks.length=2
   ·match ks,hk with
    | [x,y],_=>
     rw[Zpm _ _ _ _ _ _ ho] at h
     simp only[Zj.nodes,Zj.nodes.nodesL] at hn
     cases hx:Xi x with
     | none=>simp[hx,Zho] at h
     | some bx=>
      cases hy:Xi y with
      | none=>simp[hx,hy,Zho] at h
      | some bY=>
       have e1:=Zhp n x bx (by omega) hx
       have e2:=Zhp n y bY (by omega) hy
       simp only[hx,hy,Zho] at h
       split at h
       ·rename_i hc
        cases h
        obtain⟨rfl,rfl⟩:=hc
        rw[BT.plan,← e1,← e2]
        rcases ho with rfl | rfl<;>rfl
       ·cases h
   ·rw[ZmE _ _ _ _ _ ho hk] at h;cases h
  ·simp only[Xi,ho,if_false] at h
   split at h
   ·rename_i hc
    cases h
    obtain⟨h1,rfl,rfl⟩:=hc
    cases ks with
    | nil=>rfl
    | cons x r=>simp at h1
   ·split at h
    ·rename_i hc
     cases h
     obtain⟨h1,rfl,rfl,rfl,rfl⟩:=hc
     cases ks with
     | nil=>rfl
     | cons x r=>simp at h1
    ·cases h
theorem ZbL {p:Zj} {b:BT} (h:Xi p=some b):p=b.plan:=Zhp _ p b (Nat.le_refl _) h
theorem Zr7 {o a p:Int} {t:Bool} {ks:List Zj} {x y:Zj} (ho:o=2∨o=3) (hk:ks.length=2) (h0:ks[0]?=some x) (h1:ks[1]?=some y):Xi (.mk o a p t ks)=Zho o a p t (Xi x) (Xi y):=by
 match ks,hk with
 | [x',y'],_=>
  simp at h0 h1
  subst h0;subst h1
  exact Zpm _ _ _ _ _ _ ho
theorem Zpn:∀ {ks:List Zj} {i:Nat} {x:Zj},ks[i]?=some x→x.nodes≤Zj.nodes.nodesL ks
 | [],i,x,h=>by simp at h
 | y :: ks,0,x,h=>by simp at h;subst h;simp[Zj.nodes.nodesL]
 | y :: ks,i+1,x,h=>by
  have:=Zpn (ks:=ks) (i:=i) (x:=x) (by simpa using h)
  simp only[Zj.nodes.nodesL];omega
theorem ZjD {o a p:Int} {t:Bool} {ks:List Zj} {i:Nat} {x:Zj} {n:Nat} (hn:(Zj.mk o a p t ks).nodes≤n+1) (h:ks[i]?=some x):x.nodes≤n:=by
 have:=Zpn h
 simp only[Zj.nodes] at hn;omega
theorem Zj.enc_len (x:Zj):(Zj.enc x).cells.length=5:=by
 obtain⟨o,a,p,t,k⟩:=x;rw[Zj.enc_mk];rfl
theorem Zj.enc_agg (x:Zj):D.agg (Zj.enc x).cells=Zj.enc x:=by
 obtain⟨o,a,p,t,k⟩:=x;rw[Zj.enc_mk];rfl
theorem Zj.take_enc (x:Zj):(Zj.enc x).cells.take 5=(Zj.enc x).cells:=List.take_of_length_le (by rw[Zj.enc_len x];omega)
attribute [go_sem] Zj.enc_len Zj.enc_agg Zj.take_enc
theorem Zpo {o a p:Int} {t:Bool} {ks:List Zj} (ho:¬(o=2∨o=3)):Xi (.mk o a p t ks)=if ks.length=0∧a=0∧o=1 then some (.pane p t) else
   if ks.length=0∧a=0∧o=0∧p=0∧t=false then some .waste else none:=by
 simp only[Xi,ho,if_false]
def ZC (m:Int):Option BT→Int
 | some b=>if (b.cnt:Int)≤m then (b.cnt:Int) else -1
 | none=>-1
theorem ZdB (m:Int) (h0:0≤m) (b:Option BT) : -1≤ZC m b∧ZC m b≤m∧ZC m b≠0:=by
 cases b with
 | none=>simp[ZC];omega
 | some b=>
  have:=b.cnt_pos
  simp only[ZC]
  split<;>omega
theorem Xz (m:Int) (b:BT):((b.cnt:Int)≤m∧ZC m (some b)=b.cnt)∨(m<(b.cnt:Int)∧ZC m (some b)=-1):=by
 unfold ZC
 by_cases h:(b.cnt:Int)≤m
 ·left;exact⟨h,if_pos h⟩
 ·right;exact⟨by omega,if_neg h⟩
theorem Zhq (m o a p:Int) (t:Bool) (l r:Option BT) (h:¬(p=0∧t=false)):ZC m (Zho o a p t l r)=-1:=by
 cases l with
 | none=>rfl
 | some x=>cases r with
  | none=>rfl
  | some y=>simp only[Zho,if_neg h,ZC]
theorem ZwE (m o a:Int) (l r:Option BT):ZC m (Zho o a 0 false l r)=if ZC m l<0∨ZC m r<0∨m<1+ZC m l+ZC m r then -1 else 1+ZC m l+ZC m r:=by
 cases l with
 | none=>simp[Zho,ZC]
 | some x=>cases r with
  | none=>simp[Zho,ZC]
  | some y=>
   have h1:=x.cnt_pos
   have h2:=y.cnt_pos
   have e:(BT.cut (decide (o=2)) a x y).cnt=1+x.cnt+y.cnt:=rfl
   have e0:Zho o a 0 false (some x) (some y)=some (BT.cut (decide (o=2)) a x y):=by simp[Zho]
   rw[e0]
   have hx:=Xz m x
   have hy:=Xz m y
   have hc:=Xz m (BT.cut (decide (o=2)) a x y)
   rw[e] at hc
   generalize ZC m (some x)=sx at *
   generalize ZC m (some y)=sy at *
   generalize ZC m (some (BT.cut (decide (o=2)) a x y))=sc at *
   split<;>omega
theorem ZuU (m o a:Int) (l r:Option BT):ZC m (Zho o a 0 false l r)=if ZC (m-1) l<0∨ZC (m-1-ZC (m-1) l) r<0 then -1 else 1+ZC (m-1) l+ZC (m-1-ZC (m-1) l) r:=by
 cases l with
 | none=>simp[Zho,ZC]
 | some x=>cases r with
  | none=>simp[Zho,ZC]
  | some y=>
   have h1:=x.cnt_pos
   have h2:=y.cnt_pos
   have e:(BT.cut (decide (o=2)) a x y).cnt=1+x.cnt+y.cnt:=rfl
   have e0:Zho o a 0 false (some x) (some y)=some (BT.cut (decide (o=2)) a x y):=by simp[Zho]
   rw[e0]
   have hx:=Xz (m-1) x
   have hy:=Xz (m-1-ZC (m-1) (some x)) y
   have hc:=Xz m (BT.cut (decide (o=2)) a x y)
   rw[e] at hc
   generalize ZC (m-1-ZC (m-1) (some x)) (some y)=sy at *
   generalize ZC (m-1) (some x)=sx at *
   generalize ZC m (some (BT.cut (decide (o=2)) a x y))=sc at *
   split<;>omega
theorem ZwF {m:Int} (h:m<1) (b:Option BT):ZC m b=-1:=by
 cases b with
 | none=>rfl
 | some b=>
  have:=b.cnt_pos
  have:=Xz m b
  omega
def Zcu (ps:List Pane) (i:Int) (t:Bool) (w h:Int):Bool:=decide (0≤i)&&(match ps[i.toNat]? with
 | some q=>if t then q.Turns&&decide (¬q.W=q.H)&&decide (q.H=w)&&decide (q.W=h) else decide (q.W=w∧q.H=h)
 | none=>false)
def Je (ps:List Pane):BT→Int→Int→Bool
 | .waste,_,_=>true
 | .pane i t,w,h=>Zcu ps i t w h
 | .cut d a l r,w,h=>if d then decide (1≤a∧a≤w-1)&&Je ps l a h&&Je ps r (w-a) h
   else decide (1≤a∧a≤h-1)&&Je ps l w a&&Je ps r w (h-a)
def VPs (ps:List Pane):Prop:=∀ q∈ps,VP q
instance (ps:List Pane):Decidable (VPs ps):=by unfold VPs;infer_instance
def VW (k:XJ):Prop:=1≤k.W∧k.W≤200∧1≤k.H∧k.H≤200∧k.Panes.length≤24∧VPs k.Panes
instance (k:XJ):Decidable (VW k):=by unfold VW;infer_instance
theorem ZAR {ps:List Pane} {k:Nat} {x:Pane} (hx:ps[k]?=some x):VPs (ps.drop k)↔VP x∧VPs (ps.drop (k+1)):=by
 obtain⟨h1,h2⟩:=List.getElem?_eq_some_iff.1 hx
 rw[List.drop_eq_getElem_cons h1,h2]
 simp[VPs]
end Go.Abs.L
set_option linter.unusedVariables false
set_option linter.unusedSimpArgs false
namespace Go.Abs.L
open Go Go.Abs Go.Abs.E
structure Part where
 plan:Zj
 box:Box
def Part.enc (p:Part):D:=.agg (p.plan.enc.cells++[.int .i64 p.box.X,.int .i64 p.box.Y,.int .i64 p.box.W,.int .i64 p.box.H])
@[go_sem] theorem Part.enc_mk (o a p:Int) (t:Bool) (ks:List Zj) (x y w h:Int):Part.enc ⟨.mk o a p t ks,⟨x,y,w,h⟩⟩ =
  .agg [.int .i64 o,.int .i64 a,.int .i64 p,.bool t,.sl (ks.map Zj.enc),.int .i64 x,.int .i64 y,.int .i64 w,.int .i64 h]:=by
 simp only[Part.enc,Zj.enc_mk];rfl
theorem Part.enc_len (p:Part):(Part.enc p).cells.length=9:=by
 show (p.plan.enc.cells++_).length=9
 rw[List.length_append,Zj.enc_len];rfl
@[go_sem] theorem uni_Part (l:List Part):uni 9 (l.map Part.enc)=True:=eq_true (Zdy l Part.enc_len)
def pt:BT→Int→Int→Int→Int→List Part
 | .waste,x,y,w,h=>[⟨BT.waste.plan,⟨x,y,w,h⟩⟩]
 | .pane i t,x,y,w,h=>[⟨(BT.pane i t).plan,⟨x,y,w,h⟩⟩]
 | .cut d a l r,x,y,w,h=>⟨(BT.cut d a l r).plan,⟨x,y,w,h⟩⟩ :: if d then pt l x y a h++pt r (x+a) y (w-a) h else pt l x y w a++pt r x (y+a) w (h-a)
def sp:BT→Int→Int→Int→Int→List Place
 | .waste,x,y,w,h=>[⟨-1,false,⟨x,y,w,h⟩⟩]
 | .pane i t,x,y,w,h=>[⟨i,t,⟨x,y,w,h⟩⟩]
 | .cut d a l r,x,y,w,h=>if d then sp l x y a h++sp r (x+a) y (w-a) h else sp l x y w a++sp r x (y+a) w (h-a)
def plc:BT→Int→Int→Int→Int→List Place
 | .waste,x,y,w,h=>[]
 | .pane i t,x,y,w,h=>[⟨i,t,⟨x,y,w,h⟩⟩]
 | .cut d a l r,x,y,w,h=>if d then plc l x y a h++plc r (x+a) y (w-a) h else plc l x y w a++plc r x (y+a) w (h-a)
def wst:BT→Int→Int→Int→Int→List Box
 | .waste,x,y,w,h=>[⟨x,y,w,h⟩]
 | .pane i t,x,y,w,h=>[]
 | .cut d a l r,x,y,w,h=>if d then wst l x y a h++wst r (x+a) y (w-a) h else wst l x y w a++wst r x (y+a) w (h-a)
def PN:BT→Prop
 | .waste=>True
 | .pane i _=>0≤i
 | .cut _ _ l r=>PN l∧PN r
def opP:Zj→Int
 | .mk o _ _ _ _=>o
def Zhr (q:Part):Option Place:=match q.plan with
 | .mk o _ p t _=>if o=1 then some ⟨p,t,q.box⟩ else none
def ZdC (q:Part):Option Box:=match q.plan with
 | .mk o _ _ _ _=>if o=0 then some q.box else none
theorem ZgE:∀ (b:BT) (x y w h:Int),(pt b x y w h).filterMap Zhr=plc b x y w h
 | .waste,x,y,w,h=>rfl
 | .pane i t,x,y,w,h=>rfl
 | .cut d a l r,x,y,w,h=>by
  have e:Zhr ⟨(BT.cut d a l r).plan,⟨x,y,w,h⟩⟩=none:=by cases d<;>rfl
  cases d<;>simp[pt,plc,List.filterMap_append,List.filterMap_cons,e,ZgE]
theorem ZgF:∀ (b:BT) (x y w h:Int),(pt b x y w h).filterMap ZdC=wst b x y w h
 | .waste,x,y,w,h=>rfl
 | .pane i t,x,y,w,h=>rfl
 | .cut d a l r,x,y,w,h=>by
  have e:ZdC ⟨(BT.cut d a l r).plan,⟨x,y,w,h⟩⟩=none:=by cases d<;>rfl
  cases d<;>simp[pt,wst,List.filterMap_append,List.filterMap_cons,e,ZgF]
def Zfi (q:Place):Option Place:=if 0≤q.Pane then some q else none
def Zfj (q:Place):Option Box:=if q.Pane<0 then some q.Box else none
theorem ZmF:∀ (b:BT) (x y w h:Int),PN b→(sp b x y w h).filterMap Zfi=plc b x y w h
 | .waste,x,y,w,h,_=>rfl
 | .pane i t,x,y,w,h,hp=>by
  have hp:0≤i:=hp
  simp[sp,plc,Zfi,hp]
 | .cut d a l r,x,y,w,h,hp=>by
  cases d<;>simp[sp,plc,List.filterMap_append,ZmF l _ _ _ _ hp.1,ZmF r _ _ _ _ hp.2]
theorem ZmG:∀ (b:BT) (x y w h:Int),PN b→(sp b x y w h).filterMap Zfj=wst b x y w h
 | .waste,x,y,w,h,_=>rfl
 | .pane i t,x,y,w,h,hp=>by
  have hp:¬i<0:=by have:0≤i:=hp;omega
  simp[sp,wst,Zfj,hp]
 | .cut d a l r,x,y,w,h,hp=>by
  cases d<;>simp[sp,wst,List.filterMap_append,ZmG l _ _ _ _ hp.1,ZmG r _ _ _ _ hp.2]
theorem ZiE:∀ (b:BT) (x y w h:Int),(pt b x y w h).length=b.cnt
 | .waste,x,y,w,h=>rfl
 | .pane i t,x,y,w,h=>rfl
 | .cut d a l r,x,y,w,h=>by
  cases d<;>simp[pt,BT.cnt,ZiE]<;>omega
theorem ZfC:∀ (b:BT) (x y w h:Int),(sp b x y w h).length≤b.cnt
 | .waste,x,y,w,h=>by simp[sp,BT.cnt]
 | .pane i t,x,y,w,h=>by simp[sp,BT.cnt]
 | .cut d a l r,x,y,w,h=>by
  cases d
  ·have h1:=ZfC l x y w a
   have h2:=ZfC r x (y+a) w (h-a)
   simp[sp,BT.cnt];omega
  ·have h1:=ZfC l x y a h
   have h2:=ZfC r (x+a) y (w-a) h
   simp[sp,BT.cnt];omega
theorem Zlz {α β:Type} {l:List α} {f:α→Option β} {k:Nat} {x:α} (hx:l[k]?=some x):(l.take (k+1)).filterMap f=(l.take k).filterMap f++(f x).toList:=by
 obtain⟨h1,h2⟩:=List.getElem?_eq_some_iff.1 hx
 rw[List.take_succ_eq_append_getElem h1,h2,List.filterMap_append]
 cases hf:f x<;>simp[hf]
theorem ZjE {ps:List Pane}:∀ {b:BT} {w h:Int},Je ps b w h=true→PN b
 | .waste,_,_,_=>trivial
 | .pane i t,w,h,hf=>by
  simp only[Je,Zcu,Bool.and_eq_true,decide_eq_true_eq] at hf
  exact hf.1
 | .cut d a l r,w,h,hf=>by
  cases d
  ·simp only[Je,Bool.and_eq_true,Bool.false_eq_true,if_false] at hf
   exact⟨ZjE hf.1.2,ZjE hf.2⟩
  ·simp only[Je,Bool.and_eq_true,if_true] at hf
   exact⟨ZjE hf.1.2,ZjE hf.2⟩
def UK (k:XJ) (p:Zj):List Part:=match Xi p with
 | some b=>if decide (VW k)&&decide (b.cnt≤255)&&Je k.Panes b k.W k.H then pt b 0 0 k.W k.H else []
 | none=>[]
def ZgG (k:XJ) (p:Zj):Bool:=match Xi p with
 | some b=>decide (VW k)&&decide (b.cnt≤255)&&Je k.Panes b k.W k.H
 | none=>false
theorem UL {k:XJ} {p:Zj} (h:ZgG k p=true):∃ b,Xi p=some b∧p=b.plan∧VW k∧b.cnt≤255∧Je k.Panes b k.W k.H=true∧UK k p=pt b 0 0 k.W k.H:=by
 have h':=h
 unfold ZgG at h
 split at h
 ·rename_i b hb
  refine⟨b,hb,ZbL hb,?_⟩
  unfold UK
  rw[hb]
  dsimp only
  rw[if_pos h]
  simp only[Bool.and_eq_true,decide_eq_true_eq] at h
  exact⟨h.1.1,h.1.2,h.2,rfl⟩
 ·cases h
theorem Zpp {α:Type} {l:List α} {k:Nat} {x:α} (hx:l[k]?=some x) (P:α→Prop):(∀ y∈l.drop k,P y)↔P x∧∀ y∈l.drop (k+1),P y:=by
 obtain⟨h1,h2⟩:=List.getElem?_eq_some_iff.1 hx
 rw[List.drop_eq_getElem_cons h1,h2]
 simp
def ZiF (w h:Int) (f:Box):Prop:=VB f∧Zfx f ⟨0,0,w,h⟩
instance (w h:Int) (f:Box):Decidable (ZiF w h f):=by unfold ZiF;infer_instance
def VPc (q:Zd):Prop:=(1≤q.Label∧q.Label≤9999∧1≤q.W∧q.W≤200∧1≤q.H∧q.H≤200∧q.Flaws.length≤6)∧∀ f∈q.Flaws,ZiF q.W q.H f
instance (q:Zd):Decidable (VPc q):=by unfold VPc;infer_instance
def YQ (fs:List Box) (b:Box):Prop:=∀ f∈fs,¬Zh5 f b
instance (fs:List Box) (b:Box):Decidable (YQ fs b):=by unfold YQ;infer_instance
def Zh7 (q:Zd) (k:XJ) (p:Zj):Prop:=ZgG k p=true∧k.W=q.W∧k.H=q.H∧∀ c∈(UK k p).filterMap Zhr,YQ q.Flaws c.Box
instance (q:Zd) (k:XJ) (p:Zj):Decidable (Zh7 q k p):=by unfold Zh7;infer_instance
def ZkG (x y w h:Int) (c:Box):Prop:=1≤c.W∧1≤c.H∧x≤c.X∧y≤c.Y∧c.X+c.W≤x+w∧c.Y+c.H≤y+h
theorem Zpq {ps:List Pane}:∀ {b:BT} {x y w h:Int},Je ps b w h=true→1≤w→1≤h→∀ c∈plc b x y w h,ZkG x y w h c.Box
 | .waste,x,y,w,h,hf,h1,h2,c,hc=>by simp[plc] at hc
 | .pane i t,x,y,w,h,hf,h1,h2,c,hc=>by
  simp only[plc,List.mem_singleton] at hc
  subst hc
  simp only[ZkG];omega
 | .cut d a l r,x,y,w,h,hf,h1,h2,c,hc=>by
  cases d
  ·simp only[Je,Bool.and_eq_true,Bool.false_eq_true,if_false,decide_eq_true_eq] at hf
   simp only[plc,Bool.false_eq_true,if_false,List.mem_append] at hc
   rcases hc with hc | hc
   ·have:=Zpq hf.1.2 (by omega) (by omega) c hc
    simp only[ZkG] at this ⊢;omega
   ·have:=Zpq hf.2 (by omega) (by omega) c hc
    simp only[ZkG] at this ⊢;omega
  ·simp only[Je,Bool.and_eq_true,if_true,decide_eq_true_eq] at hf
   simp only[plc,if_true,List.mem_append] at hc
   rcases hc with hc | hc
   ·have:=Zpq hf.1.2 (by omega) (by omega) c hc
    simp only[ZkG] at this ⊢;omega
   ·have:=Zpq hf.2 (by omega) (by omega) c hc
    simp only[ZkG] at this ⊢;omega
theorem ZmH {ps:List Pane}:∀ {b:BT} {x y w h:Int},Je ps b w h=true→1≤w→1≤h→∀ c∈wst b x y w h,ZkG x y w h c
 | .waste,x,y,w,h,hf,h1,h2,c,hc=>by
  simp only[wst,List.mem_singleton] at hc
  subst hc
  simp only[ZkG];omega
 | .pane i t,x,y,w,h,hf,h1,h2,c,hc=>by simp[wst] at hc
 | .cut d a l r,x,y,w,h,hf,h1,h2,c,hc=>by
  cases d
  ·simp only[Je,Bool.and_eq_true,Bool.false_eq_true,if_false,decide_eq_true_eq] at hf
   simp only[wst,Bool.false_eq_true,if_false,List.mem_append] at hc
   rcases hc with hc | hc
   ·have:=ZmH hf.1.2 (by omega) (by omega) c hc
    simp only[ZkG] at this ⊢;omega
   ·have:=ZmH hf.2 (by omega) (by omega) c hc
    simp only[ZkG] at this ⊢;omega
  ·simp only[Je,Bool.and_eq_true,if_true,decide_eq_true_eq] at hf
   simp only[wst,if_true,List.mem_append] at hc
   rcases hc with hc | hc
   ·have:=ZmH hf.1.2 (by omega) (by omega) c hc
    simp only[ZkG] at this ⊢;omega
   ·have:=ZmH hf.2 (by omega) (by omega) c hc
    simp only[ZkG] at this ⊢;omega
def Wj:List Box→Int
 | []=>0
 | c :: l=>c.W*c.H+Wj l
theorem Zhs (a b:List Box):Wj (a++b)=Wj a+Wj b:=by
 induction a with
 | nil=>simp[Wj]
 | cons c l ih=>simp only[List.cons_append,Wj,ih];omega
theorem ZlA {ps:List Pane}:∀ {b:BT} {x y w h:Int},Wj (wst b x y w h)+Wj ((plc b x y w h).map Place.Box)=w*h
 | .waste,x,y,w,h=>by simp[wst,plc,Wj]
 | .pane i t,x,y,w,h=>by simp[wst,plc,Wj]
 | .cut d a l r,x,y,w,h=>by
  cases d
  ·have h1:=ZlA (ps:=ps) (b:=l) (x:=x) (y:=y) (w:=w) (h:=a)
   have h2:=ZlA (ps:=ps) (b:=r) (x:=x) (y:=y+a) (w:=w) (h:=h-a)
   have h3:w*(h-a)=w*h-w*a:=Int.mul_sub w h a
   simp only[wst,plc,Bool.false_eq_true,if_false,Zhs,List.map_append]
   omega
  ·have h1:=ZlA (ps:=ps) (b:=l) (x:=x) (y:=y) (w:=a) (h:=h)
   have h2:=ZlA (ps:=ps) (b:=r) (x:=x+a) (y:=y) (w:=w-a) (h:=h)
   have h3:(w-a)*h=w*h-a*h:=Int.sub_mul w a h
   simp only[wst,plc,if_true,Zhs,List.map_append]
   omega
theorem Zou:∀ (b:BT) (x y w h:Int),(wst b x y w h).length≤b.cnt
 | .waste,x,y,w,h=>by simp[wst,BT.cnt]
 | .pane i t,x,y,w,h=>by simp[wst,BT.cnt]
 | .cut d a l r,x,y,w,h=>by
  cases d
  ·have h1:=Zou l x y w a
   have h2:=Zou r x (y+a) w (h-a)
   simp[wst,BT.cnt];omega
  ·have h1:=Zou l x y a h
   have h2:=Zou r (x+a) y (w-a) h
   simp[wst,BT.cnt];omega
theorem Ztd {k:XJ} {p:Zj} {b:BT} (hv:VW k) (hf:Je k.Panes b k.W k.H=true):∀ c∈plc b 0 0 k.W k.H,VB c.Box:=by
 intro c hc
 obtain⟨h1,h2,h3,h4,_⟩:=hv
 have:=Zpq hf h1 h3 c hc
 simp only[ZkG] at this
 simp only[VB];omega
theorem ZlB {k:XJ} {p:Zj} {b:BT} (hv:VW k) (hf:Je k.Panes b k.W k.H=true):∀ c∈wst b 0 0 k.W k.H,VB c:=by
 intro c hc
 obtain⟨h1,h2,h3,h4,_⟩:=hv
 have:=ZmH hf h1 h3 c hc
 simp only[ZkG] at this
 simp only[VB];omega
def ZwG (b m:Box):Box:=⟨m.X-b.X,m.Y-b.Y,m.W,m.H⟩
def Zcm (b f:Box):Option Box:=if Zh5 f b then some (ZwG b (Zr4 f b)) else none
def ZwH (q:Zd) (b:Box) (label:Int):Zd:=⟨label,b.W,b.H,q.Flaws.filterMap (Zcm b)⟩
theorem ZFY {q:Zd} {b:Box} {label:Int} (hq:VPc q) (hb:VB b) (hi:Zfx b ⟨0,0,q.W,q.H⟩) (h1:1≤label) (h2:label≤9999):VPc (ZwH q b label):=by
 simp only[VB] at hb
 refine⟨⟨h1,h2,?_,?_,?_,?_,Nat.le_trans (List.length_filterMap_le _ _) hq.1.2.2.2.2.2.2⟩,?_⟩
 ·show 1≤b.W;omega
 ·show b.W≤200;omega
 ·show 1≤b.H;omega
 ·show b.H≤200;omega
 ·intro f hf
  obtain⟨g,hg,hgf⟩:=List.mem_filterMap.1 hf
  have hgv:=hq.2 g hg
  unfold Zcm at hgf
  split at hgf
  ·rename_i hm
   cases hgf
   simp only[ZiF,VB,Zfx] at hgv
   simp only[Zh5] at hm
   simp only[ZiF,VB,Zfx,ZwG,Zr4,ZwH]
   omega
  ·cases hgf
def Zea (ZB:Int) (b:Box):Option Box:=if ZB≤b.W∧ZB≤b.H then some b else none
def Zeb (q:Zd):Int→List Box→List Zd
 | _,[]=>[]
 | n,b :: l=>ZwH q b n :: Zeb q (n+1) l
theorem ZiG (q:Zd):∀ (n:Int) (a b:List Box),Zeb q n (a++b)=Zeb q n a++Zeb q (n+a.length) b
 | n,[],b=>by simp[Zeb]
 | n,x :: a,b=>by
  simp only[List.cons_append,Zeb,ZiG q (n+1) a b,List.length_cons]
  congr 3
  omega
theorem ZlC (q:Zd):∀ (n:Int) (a:List Box),(Zeb q n a).length=a.length
 | n,[]=>rfl
 | n,x :: a=>by simp[Zeb,ZlC q (n+1) a]
theorem cutN_take (q:Zd) (n:Int) {l:List Box} {i:Nat} {x:Box} (hx:l[i]?=some x):Zeb q n (l.take (i+1))=Zeb q n (l.take i)++[ZwH q x (n+i)]:=by
 obtain⟨h1,h2⟩:=List.getElem?_eq_some_iff.1 hx
 rw[List.take_succ_eq_append_getElem h1,h2,ZiG]
 simp only[Zeb,List.length_take,Nat.min_eq_left (Nat.le_of_lt h1)]
def Zcv (k:XJ) (p:Zj) (ZB:Int):List Box:=((UK k p).filterMap ZdC).filterMap (Zea ZB)
theorem ZAS {k:XJ} {p:Zj} {ZB:Int} (hv:ZgG k p=true):∀ b∈Zcv k p ZB,VB b∧Zfx b ⟨0,0,k.W,k.H⟩:=by
 intro b hb
 obtain⟨t,_,_,hw,_,hf,hp⟩:=UL hv
 unfold Zcv at hb
 rw[hp,ZgF] at hb
 obtain⟨c,hc,hcb⟩:=List.mem_filterMap.1 hb
 unfold Zea at hcb
 split at hcb
 ·cases hcb
  refine⟨ZlB (p:=p) hw hf b hc,?_⟩
  obtain⟨h1,h2,h3,h4,_⟩:=hw
  have:=ZmH hf h1 h3 b hc
  simp only[ZkG] at this
  simp only[Zfx];omega
 ·cases hcb
theorem Zr8 (k:XJ) (p:Zj) (ZB:Int):(Zcv k p ZB).length≤255:=by
 unfold Zcv
 refine Nat.le_trans (List.length_filterMap_le _ _) (Nat.le_trans (List.length_filterMap_le _ _) ?_)
 unfold UK
 split
 ·split
  ·rename_i h
   simp only[Bool.and_eq_true,decide_eq_true_eq] at h
   rw[ZiE];exact h.1.2
  ·simp
 ·simp
def remn (q:Zd) (k:XJ) (p:Zj) (ZB label:Int):List Zd:=
 if (VPc q∧Zh7 q k p)∧1≤ZB∧ZB≤200∧1≤label∧label≤9999∧(Zcv k p ZB).length≤10000-label then Zeb q label (Zcv k p ZB) else []
def Zh8 (ZB:Int) (b:Box):Option Box:=if b.W<ZB∨b.H<ZB then some b else none
def Zpr (k:XJ) (p:Zj) (ZB:Int):List Box:=((UK k p).filterMap ZdC).filterMap (Zh8 ZB)
theorem ZlD {b:Box} (h:VB b):0≤b.W*b.H∧b.W*b.H≤40000:=by
 simp only[VB] at h
 have h1:0≤b.W*b.H:=Int.mul_nonneg (by omega) (by omega)
 have h2:b.W*b.H≤200*200:=Int.mul_le_mul (by omega) (by omega) (by omega) (by omega)
 omega
theorem Zps:∀ {l:List Box},(∀ b∈l,VB b)→0≤Wj l∧Wj l≤40000*l.length
 | [],_=>by simp[Wj]
 | b :: l,h=>by
  have h1:=ZlD (h b (by simp))
  have h2:=Zps (l:=l) fun c hc=>h c (by simp[hc])
  simp only[Wj,List.length_cons]
  omega
theorem Zpt (ZB:Int):∀ (l:List Box),Wj (l.filterMap (Zea ZB))+Wj (l.filterMap (Zh8 ZB))=Wj l
 | []=>by simp[Wj]
 | b :: l=>by
  have ih:=Zpt ZB l
  by_cases h:ZB≤b.W∧ZB≤b.H
  ·have h' : ¬(b.W<ZB∨b.H<ZB):=by omega
   simp only[List.filterMap_cons,Zea,Zh8,if_pos h,if_neg h',Wj]
   omega
  ·have h' : b.W<ZB∨b.H<ZB:=by omega
   simp only[List.filterMap_cons,Zea,Zh8,if_neg h,if_pos h',Wj]
   omega
theorem ZmI {k:XJ} {p:Zj} (hv:ZgG k p=true):∀ b∈(UK k p).filterMap ZdC,VB b:=by
 obtain⟨t,_,_,hw,_,hf,hp⟩:=UL hv
 rw[hp,ZgF]
 exact ZlB (p:=p) hw hf
attribute [go_sem] ite_self Bool.false_eq_true
end Go.Abs.L
