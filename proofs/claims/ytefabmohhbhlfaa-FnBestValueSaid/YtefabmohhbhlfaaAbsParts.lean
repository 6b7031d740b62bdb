/- Own text. -/
import Derived.Test.YtefabmohhbhlfaaAbsLib
set_option linter.unusedVariables false
set_option linter.unusedSimpArgs false
namespace Go.Abs.L
open Go Go.Abs Go.Abs.E
inductive BT where
 | waste
 | pane (i:Int) (t:Bool)
 | cut (d:Bool) (a:Int) (l r:BT)
deriving DecidableEq,Inhabited
def ZaK (d:Bool):Int:=if d then 2 else 3
def BT.plan:BT→Zs
 | .waste=>.mk 0 0 0 false []
 | .pane i t=>.mk 1 0 i t []
 | .cut d a l r=>.mk (ZaK d) a 0 false [l.plan,r.plan]
def BT.cnt:BT→Nat
 | .waste=>1
 | .pane _ _=>1
 | .cut _ _ l r=>1+l.cnt+r.cnt
theorem BT.cnt_pos (b:BT):1≤b.cnt:=by cases b<;>simp[BT.cnt]<;>omega
def Zs.nodes:Zs→Nat
 | .mk _ _ _ _ ks=>1+nodesL ks
where nodesL:List Zs→Nat
 | []=>0
 | p :: r=>Zs.nodes p+nodesL r
def JT (o a p:Int) (t:Bool) (l r:Option BT):Option BT:=match l,r with
 | some x,some y=>if p=0∧t=false then some (.cut (decide (o=2)) a x y) else none
 | _,_=>none
mutual
def Xu:Zs→Option BT
 | .mk o a p t ks=>if o=2∨o=3 then Zk1 o a p t ks else
   if ks.length=0∧a=0∧o=1 then some (.pane p t) else
   if ks.length=0∧a=0∧o=0∧p=0∧t=false then some .waste else none
def Zk1 (o a p:Int) (t:Bool):List Zs→Option BT
 | []=>none
 | x :: r=>Zm0 o a p t (Xu x) r
def Zm0 (o a p:Int) (t:Bool) (l:Option BT):List Zs→Option BT
 | []=>none
 | y :: r=>match r with
  | []=>JT o a p t l (Xu y)
  | _=>none
end
theorem Zgj (o a p:Int) (t:Bool) (x y:Zs) (ho:o=2∨o=3):Xu (.mk o a p t [x,y])=JT o a p t (Xu x) (Xu y):=by
 simp[Xu,Zk1,Zm0,ho]
theorem ZiJ (o a p:Int) (t:Bool) (ks:List Zs) (ho:o=2∨o=3) (hk:ks.length≠2):Xu (.mk o a p t ks)=none:=by
 match ks,hk with
 | [],_=>simp[Xu,Zk1,ho]
 | [x],_=>simp[Xu,Zk1,Zm0,ho]
 | [x,y],h=>simp at h
 | x :: y :: z :: r,_=>simp[Xu,Zk1,Zm0,ho]
theorem ZiK:∀ b:BT,Xu b.plan=some b
 | .waste=>by simp[BT.plan,Xu]
 | .pane i t=>by simp[BT.plan,Xu]
 | .cut d a l r=>by
  rw[BT.plan,Zgj _ _ _ _ _ _ (by cases d<;>simp[ZaK]),ZiK l,ZiK r];cases d<;>simp[JT,ZaK]
theorem JU:∀ (n:Nat) (p:Zs) (b:BT),p.nodes≤n→Xu p=some b→p=b.plan
 | 0,.mk o a p t ks,b,hn,_=>by simp[Zs.nodes] at hn
 | n+1,.mk o a p t ks,b,hn,h=>by
  by_cases ho:o=2∨o=3
  ·by_cases hk:ks.length=2
   ·match ks,hk with
    | [x,y],_=>
     rw[Zgj _ _ _ _ _ _ ho] at h;simp only[Zs.nodes,Zs.nodes.nodesL] at hn;cases hx:Xu x with
     | none=>simp[hx,JT] at h
     | some bx=>
      cases hy:Xu y with
      | none=>simp[hx,hy,JT] at h
      | some bY=>
       have e1:=JU n x bx (by omega) hx;have e2:=JU n y bY (by omega) hy;simp only[hx,hy,JT] at h;split at h
       ·rename_i hc;cases h;obtain⟨rfl,rfl⟩:=hc;rw[BT.plan,← e1,← e2];rcases ho with rfl | rfl<;>rfl
       ·cases h
   ·rw[ZiJ _ _ _ _ _ ho hk] at h;cases h
  ·simp only[Xu,ho,Kj] at h;split at h
   ·rename_i hc;cases h;obtain⟨h1,rfl,rfl⟩:=hc;cases ks with
    | nil=>rfl
    | cons x r=>simp at h1
   ·split at h
    ·rename_i hc;cases h;obtain⟨h1,rfl,rfl,rfl,rfl⟩:=hc;cases ks with
     | nil=>rfl
     | cons x r=>simp at h1
    ·cases h
theorem ZdN {p:Zs} {b:BT} (h:Xu p=some b):p=b.plan:=JU _ p b (Kf _) h
theorem Zn2 {o a p:Int} {t:Bool} {ks:List Zs} {x y:Zs} (ho:o=2∨o=3) (hk:ks.length=2) (h0:ks[0]?=some x) (h1:ks[1]?=some y):Xu (.mk o a p t ks)=JT o a p t (Xu x) (Xu y):=by
 match ks,hk with
 | [x',y'],_=>
  simp at h0 h1;subst h0;subst h1;exact Zgj _ _ _ _ _ _ ho
theorem Zgk:∀ {ks:List Zs} {i:Nat} {x:Zs},ks[i]?=some x→x.nodes≤Zs.nodes.nodesL ks
 | [],i,x,h=>by simp at h
 | y :: ks,0,x,h=>by simp at h;subst h;simp[Zs.nodes.nodesL]
 | y :: ks,i+1,x,h=>by
  have:=Zgk (ks:=ks) (i:=i) (x:=x) (by simpa using h);simp only[Zs.nodes.nodesL];omega
theorem ZiL {o a p:Int} {t:Bool} {ks:List Zs} {i:Nat} {x:Zs} {n:Nat} (hn:(Zs.mk o a p t ks).nodes≤n+1) (h:ks[i]?=some x):x.nodes≤n:=by
 have:=Zgk h;simp only[Zs.nodes] at hn;omega
theorem Zs.enc_len (x:Zs):(Zs.enc x).cells.length=5:=by
 obtain⟨o,a,p,t,k⟩:=x;rw[Zs.enc_mk];rfl
theorem Zs.enc_agg (x:Zs):D.agg (Zs.enc x).cells=Zs.enc x:=by
 obtain⟨o,a,p,t,k⟩:=x;rw[Zs.enc_mk];rfl
theorem Zs.take_enc (x:Zs):(Zs.enc x).cells.take 5=(Zs.enc x).cells:=Lu (by rw[Zs.enc_len x];omega)
attribute [go_sem] Zs.enc_len Zs.enc_agg Zs.take_enc
theorem ZlZ {o a p:Int} {t:Bool} {ks:List Zs} (ho:¬(o=2∨o=3)):Xu (.mk o a p t ks)=if ks.length=0∧a=0∧o=1 then some (.pane p t) else
   if ks.length=0∧a=0∧o=0∧p=0∧t=false then some .waste else none:=by
 simp only[Xu,ho,Kj]
def Zx (m:Int):Option BT→Int
 | some b=>if (b.cnt:Int)≤m then (b.cnt:Int) else -1
 | none=>-1
theorem ZcV (m:Int) (h0:0≤m) (b:Option BT) : -1≤Zx m b∧Zx m b≤m∧Zx m b≠0:=by
 cases b with
 | none=>simp[Zx];omega
 | some b=>
  have:=b.cnt_pos;simp only[Zx];split<;>omega
theorem XA (m:Int) (b:BT):((b.cnt:Int)≤m∧Zx m (some b)=b.cnt)∨(m<(b.cnt:Int)∧Zx m (some b)=-1):=by
 unfold Zx;by_cases h:(b.cnt:Int)≤m
 ·left;exact⟨h,Kt h⟩
 ·right;exact⟨by omega,Kp h⟩
theorem Zgl (m o a p:Int) (t:Bool) (l r:Option BT) (h:¬(p=0∧t=false)):Zx m (JT o a p t l r)=-1:=by
 cases l with
 | none=>rfl
 | some x=>cases r with
  | none=>rfl
  | some y=>simp only[JT,Kp h,Zx]
theorem Zr2 (m o a:Int) (l r:Option BT):Zx m (JT o a 0 false l r)=if Zx m l<0∨Zx m r<0∨m<1+Zx m l+Zx m r then -1 else 1+Zx m l+Zx m r:=by
 cases l with
 | none=>simp[JT,Zx]
 | some x=>cases r with
  | none=>simp[JT,Zx]
  | some y=>
   have h1:=x.cnt_pos;have h2:=y.cnt_pos;have e:(BT.cut (decide (o=2)) a x y).cnt=1+x.cnt+y.cnt:=rfl;have e0:JT o a 0 false (some x) (some y)=some (BT.cut (decide (o=2)) a x y):=by simp[JT]
   rw[e0];have hx:=XA m x;have hy:=XA m y;have hc:=XA m (BT.cut (decide (o=2)) a x y);rw[e] at hc;generalize Zx m (some x)=sx at *;generalize Zx m (some y)=sy at *;generalize Zx m (some (BT.cut (decide (o=2)) a x y))=sc at *;split<;>omega
theorem Zk2 (m o a:Int) (l r:Option BT):Zx m (JT o a 0 false l r)=if Zx (m-1) l<0∨Zx (m-1-Zx (m-1) l) r<0 then -1 else 1+Zx (m-1) l+Zx (m-1-Zx (m-1) l) r:=by
 cases l with
 | none=>simp[JT,Zx]
 | some x=>cases r with
  | none=>simp[JT,Zx]
  | some y=>
   have h1:=x.cnt_pos;have h2:=y.cnt_pos;have e:(BT.cut (decide (o=2)) a x y).cnt=1+x.cnt+y.cnt:=rfl;have e0:JT o a 0 false (some x) (some y)=some (BT.cut (decide (o=2)) a x y):=by simp[JT]
   rw[e0];have hx:=XA (m-1) x;have hy:=XA (m-1-Zx (m-1) (some x)) y;have hc:=XA m (BT.cut (decide (o=2)) a x y);rw[e] at hc;generalize Zx (m-1-Zx (m-1) (some x)) (some y)=sy at *;generalize Zx (m-1) (some x)=sx at *;generalize Zx m (some (BT.cut (decide (o=2)) a x y))=sc at *;split<;>omega
theorem Zl0 {m:Int} (h:m<1) (b:Option BT):Zx m b=-1:=by
 cases b with
 | none=>rfl
 | some b=>
  have:=b.cnt_pos;have:=XA m b;omega
def Qi (ps:List Pane) (i:Int) (t:Bool) (w h:Int):Bool:=decide (0≤i)&&(match ps[i.toNat]? with
 | some q=>if t then q.Turns&&decide (¬q.W=q.H)&&decide (q.H=w)&&decide (q.W=h) else decide (q.W=w∧q.H=h)
 | none=>false)
def Xi (ps:List Pane):BT→Int→Int→Bool
 | .waste,_,_=>true
 | .pane i t,w,h=>Qi ps i t w h
 | .cut d a l r,w,h=>if d then decide (1≤a∧a≤w-1)&&Xi ps l a h&&Xi ps r (w-a) h
   else decide (1≤a∧a≤h-1)&&Xi ps l w a&&Xi ps r w (h-a)
def VPs (ps:List Pane):Prop:=∀ q∈ps,VP q
instance (ps:List Pane):Decidable (VPs ps):=by unfold VPs;infer_instance
def VW (k:ZM):Prop:=1≤k.W∧k.W≤200∧1≤k.H∧k.H≤200∧k.Panes.length≤24∧VPs k.Panes
instance (k:ZM):Decidable (VW k):=by unfold VW;infer_instance
theorem Zk3 {ps:List Pane} {k:Nat} {x:Pane} (hx:ps[k]?=some x):VPs (ps.drop k)↔VP x∧VPs (ps.drop (k+1)):=by
 obtain⟨h1,h2⟩:=Kd.1 hx;rw[LF h1,h2];simp[VPs]
end Go.Abs.L
set_option linter.unusedVariables false
set_option linter.unusedSimpArgs false
namespace Go.Abs.L
open Go Go.Abs Go.Abs.E
structure Part where
 plan:Zs
 box:Box
def Part.enc (p:Part):D:=.agg (p.plan.enc.cells++[.int .i64 p.box.X,.int .i64 p.box.Y,.int .i64 p.box.W,.int .i64 p.box.H])
@[go_sem] theorem Part.enc_mk (o a p:Int) (t:Bool) (ks:List Zs) (x y w h:Int):Part.enc ⟨.mk o a p t ks,⟨x,y,w,h⟩⟩ =
  .agg [.int .i64 o,.int .i64 a,.int .i64 p,.bool t,.sl (ks.map Zs.enc),.int .i64 x,.int .i64 y,.int .i64 w,.int .i64 h]:=by
 simp only[Part.enc,Zs.enc_mk];rfl
theorem Part.enc_len (p:Part):(Part.enc p).cells.length=9:=by
 show (p.plan.enc.cells++_).length=9;rw[Ki,Zs.enc_len];rfl
@[go_sem] theorem uni_Part (l:List Part):uni 9 (l.map Part.enc)=True:=eq_true (Wo l Part.enc_len)
def pt:BT→Int→Int→Int→Int→List Part
 | .waste,x,y,w,h=>[⟨BT.waste.plan,⟨x,y,w,h⟩⟩]
 | .pane i t,x,y,w,h=>[⟨(BT.pane i t).plan,⟨x,y,w,h⟩⟩]
 | .cut d a l r,x,y,w,h=>⟨(BT.cut d a l r).plan,⟨x,y,w,h⟩⟩ :: if d then pt l x y a h++pt r (x+a) y (w-a) h else pt l x y w a++pt r x (y+a) w (h-a)
def sp:BT→Int→Int→Int→Int→List Place
 | .waste,x,y,w,h=>[⟨-1,false,⟨x,y,w,h⟩⟩]
 | .pane i t,x,y,w,h=>[⟨i,t,⟨x,y,w,h⟩⟩]
 | .cut d a l r,x,y,w,h=>if d then sp l x y a h++sp r (x+a) y (w-a) h else sp l x y w a++sp r x (y+a) w (h-a)
def plc:BT→Int→Int→Int→Int→List Place
 | .waste,x,y,w,h=>[]
 | .pane i t,x,y,w,h=>[⟨i,t,⟨x,y,w,h⟩⟩]
 | .cut d a l r,x,y,w,h=>if d then plc l x y a h++plc r (x+a) y (w-a) h else plc l x y w a++plc r x (y+a) w (h-a)
def wst:BT→Int→Int→Int→Int→List Box
 | .waste,x,y,w,h=>[⟨x,y,w,h⟩]
 | .pane i t,x,y,w,h=>[]
 | .cut d a l r,x,y,w,h=>if d then wst l x y a h++wst r (x+a) y (w-a) h else wst l x y w a++wst r x (y+a) w (h-a)
def PN:BT→Prop
 | .waste=>True
 | .pane i _=>0≤i
 | .cut _ _ l r=>PN l∧PN r
def opP:Zs→Int
 | .mk o _ _ _ _=>o
def XH (q:Part):Option Place:=match q.plan with
 | .mk o _ p t _=>if o=1 then some ⟨p,t,q.box⟩ else none
def ZcW (q:Part):Option Box:=match q.plan with
 | .mk o _ _ _ _=>if o=0 then some q.box else none
theorem ZdO:∀ (b:BT) (x y w h:Int),(pt b x y w h).filterMap XH=plc b x y w h
 | .waste,x,y,w,h=>rfl
 | .pane i t,x,y,w,h=>rfl
 | .cut d a l r,x,y,w,h=>by
  have e:XH ⟨(BT.cut d a l r).plan,⟨x,y,w,h⟩⟩=none:=by cases d<;>rfl
  cases d<;>simp[pt,plc,LC,L5,e,ZdO]
theorem ZdP:∀ (b:BT) (x y w h:Int),(pt b x y w h).filterMap ZcW=wst b x y w h
 | .waste,x,y,w,h=>rfl
 | .pane i t,x,y,w,h=>rfl
 | .cut d a l r,x,y,w,h=>by
  have e:ZcW ⟨(BT.cut d a l r).plan,⟨x,y,w,h⟩⟩=none:=by cases d<;>rfl
  cases d<;>simp[pt,wst,LC,L5,e,ZdP]
def Zm1 (q:Place):Option Place:=if 0≤q.Pane then some q else none
def Zm2 (q:Place):Option Box:=if q.Pane<0 then some q.Box else none
theorem ZiM:∀ (b:BT) (x y w h:Int),PN b→(sp b x y w h).filterMap Zm1=plc b x y w h
 | .waste,x,y,w,h,_=>rfl
 | .pane i t,x,y,w,h,hp=>by
  have hp:0≤i:=hp;simp[sp,plc,Zm1,hp]
 | .cut d a l r,x,y,w,h,hp=>by
  cases d<;>simp[sp,plc,LC,ZiM l _ _ _ _ hp.1,ZiM r _ _ _ _ hp.2]
theorem ZiN:∀ (b:BT) (x y w h:Int),PN b→(sp b x y w h).filterMap Zm2=wst b x y w h
 | .waste,x,y,w,h,_=>rfl
 | .pane i t,x,y,w,h,hp=>by
  have hp:¬i<0:=by have:0≤i:=hp;omega
  simp[sp,wst,Zm2,hp]
 | .cut d a l r,x,y,w,h,hp=>by
  cases d<;>simp[sp,wst,LC,ZiN l _ _ _ _ hp.1,ZiN r _ _ _ _ hp.2]
theorem Zcc:∀ (b:BT) (x y w h:Int),(pt b x y w h).length=b.cnt
 | .waste,x,y,w,h=>rfl
 | .pane i t,x,y,w,h=>rfl
 | .cut d a l r,x,y,w,h=>by
  cases d<;>simp[pt,BT.cnt,Zcc]<;>omega
theorem ZjO:∀ (b:BT) (x y w h:Int),(sp b x y w h).length≤b.cnt
 | .waste,x,y,w,h=>by simp[sp,BT.cnt]
 | .pane i t,x,y,w,h=>by simp[sp,BT.cnt]
 | .cut d a l r,x,y,w,h=>by
  cases d
  ·have h1:=ZjO l x y w a;have h2:=ZjO r x (y+a) w (h-a);simp[sp,BT.cnt];omega
  ·have h1:=ZjO l x y a h;have h2:=ZjO r (x+a) y (w-a) h;simp[sp,BT.cnt];omega
theorem Zqu {α β:Type} {l:List α} {f:α→Option β} {k:Nat} {x:α} (hx:l[k]?=some x):(l.take (k+1)).filterMap f=(l.take k).filterMap f++(f x).toList:=by
 obtain⟨h1,h2⟩:=Kd.1 hx;rw[List.take_succ_eq_append_getElem h1,h2,LC];cases hf:f x<;>simp[hf]
theorem Zfj {ps:List Pane}:∀ {b:BT} {w h:Int},Xi ps b w h=true→PN b
 | .waste,_,_,_=>trivial
 | .pane i t,w,h,hf=>by
  simp only[Xi,Qi,Kb,Kq] at hf;exact hf.1
 | .cut d a l r,w,h,hf=>by
  cases d
  ·simp only[Xi,Kb,Ka,Kj] at hf;exact⟨Zfj hf.1.2,Zfj hf.2⟩
  ·simp only[Xi,Kb,Kl] at hf;exact⟨Zfj hf.1.2,Zfj hf.2⟩
def X5 (k:ZM) (p:Zs):List Part:=match Xu p with
 | some b=>if decide (VW k)&&decide (b.cnt≤255)&&Xi k.Panes b k.W k.H then pt b 0 0 k.W k.H else []
 | none=>[]
def Uk (k:ZM) (p:Zs):Bool:=match Xu p with
 | some b=>decide (VW k)&&decide (b.cnt≤255)&&Xi k.Panes b k.W k.H
 | none=>false
theorem JV {k:ZM} {p:Zs} (h:Uk k p=true):∃ b,Xu p=some b∧p=b.plan∧VW k∧b.cnt≤255∧Xi k.Panes b k.W k.H=true∧X5 k p=pt b 0 0 k.W k.H:=by
 have h':=h;unfold Uk at h;split at h
 ·rename_i b hb;refine⟨b,hb,ZdN hb,?_⟩;unfold X5;rw[hb];dsimp only;rw[Kt h];simp only[Kb,Kq] at h;exact⟨h.1.1,h.1.2,h.2,rfl⟩
 ·cases h
theorem all_drop {α:Type} {l:List α} {k:Nat} {x:α} (hx:l[k]?=some x) (P:α→Prop):(∀ y∈l.drop k,P y)↔P x∧∀ y∈l.drop (k+1),P y:=by
 obtain⟨h1,h2⟩:=Kd.1 hx;rw[LF h1,h2];simp
def Zgm (w h:Int) (f:Box):Prop:=VB f∧Zaz f ⟨0,0,w,h⟩
instance (w h:Int) (f:Box):Decidable (Zgm w h f):=by unfold Zgm;infer_instance
def VPc (q:XN):Prop:=(1≤q.Label∧q.Label≤9999∧1≤q.W∧q.W≤200∧1≤q.H∧q.H≤200∧q.Flaws.length≤6)∧∀ f∈q.Flaws,Zgm q.W q.H f
instance (q:XN):Decidable (VPc q):=by unfold VPc;infer_instance
def ZjP (fs:List Box) (b:Box):Prop:=∀ f∈fs,¬ZkR f b
instance (fs:List Box) (b:Box):Decidable (ZjP fs b):=by unfold ZjP;infer_instance
def Zo1 (q:XN) (k:ZM) (p:Zs):Prop:=Uk k p=true∧k.W=q.W∧k.H=q.H∧∀ c∈(X5 k p).filterMap XH,ZjP q.Flaws c.Box
instance (q:XN) (k:ZM) (p:Zs):Decidable (Zo1 q k p):=by unfold Zo1;infer_instance
def Zcd (x y w h:Int) (c:Box):Prop:=1≤c.W∧1≤c.H∧x≤c.X∧y≤c.Y∧c.X+c.W≤x+w∧c.Y+c.H≤y+h
theorem Zgn {ps:List Pane}:∀ {b:BT} {x y w h:Int},Xi ps b w h=true→1≤w→1≤h→∀ c∈plc b x y w h,Zcd x y w h c.Box
 | .waste,x,y,w,h,hf,h1,h2,c,hc=>by simp[plc] at hc
 | .pane i t,x,y,w,h,hf,h1,h2,c,hc=>by
  simp only[plc,KC] at hc;subst hc;simp only[Zcd];omega
 | .cut d a l r,x,y,w,h,hf,h1,h2,c,hc=>by
  cases d
  ·simp only[Xi,Kb,Ka,Kj,Kq] at hf;simp only[plc,Ka,Kj,Kc] at hc;rcases hc with hc | hc
   ·have:=Zgn hf.1.2 (by omega) (by omega) c hc;simp only[Zcd] at this ⊢;omega
   ·have:=Zgn hf.2 (by omega) (by omega) c hc;simp only[Zcd] at this ⊢;omega
  ·simp only[Xi,Kb,Kl,Kq] at hf;simp only[plc,Kl,Kc] at hc;rcases hc with hc | hc
   ·have:=Zgn hf.1.2 (by omega) (by omega) c hc;simp only[Zcd] at this ⊢;omega
   ·have:=Zgn hf.2 (by omega) (by omega) c hc;simp only[Zcd] at this ⊢;omega
theorem ZdQ {ps:List Pane}:∀ {b:BT} {x y w h:Int},Xi ps b w h=true→1≤w→1≤h→∀ c∈wst b x y w h,Zcd x y w h c
 | .waste,x,y,w,h,hf,h1,h2,c,hc=>by
  simp only[wst,KC] at hc;subst hc;simp only[Zcd];omega
 | .pane i t,x,y,w,h,hf,h1,h2,c,hc=>by simp[wst] at hc
 | .cut d a l r,x,y,w,h,hf,h1,h2,c,hc=>by
  cases d
  ·simp only[Xi,Kb,Ka,Kj,Kq] at hf;simp only[wst,Ka,Kj,Kc] at hc;rcases hc with hc | hc
   ·have:=ZdQ hf.1.2 (by omega) (by omega) c hc;simp only[Zcd] at this ⊢;omega
   ·have:=ZdQ hf.2 (by omega) (by omega) c hc;simp only[Zcd] at this ⊢;omega
  ·simp only[Xi,Kb,Kl,Kq] at hf;simp only[wst,Kl,Kc] at hc;rcases hc with hc | hc
   ·have:=ZdQ hf.1.2 (by omega) (by omega) c hc;simp only[Zcd] at this ⊢;omega
   ·have:=ZdQ hf.2 (by omega) (by omega) c hc;simp only[Zcd] at this ⊢;omega
def Vh:List Box→Int
 | []=>0
 | c :: l=>c.W*c.H+Vh l
theorem ZcX (a b:List Box):Vh (a++b)=Vh a+Vh b:=by
 induction a with
 | nil=>simp[Vh]
 | cons c l ih=>simp only[KU,Vh,ih];omega
theorem ZcY {ps:List Pane}:∀ {b:BT} {x y w h:Int},Vh (wst b x y w h)+Vh ((plc b x y w h).map Place.Box)=w*h
 | .waste,x,y,w,h=>by simp[wst,plc,Vh]
 | .pane i t,x,y,w,h=>by simp[wst,plc,Vh]
 | .cut d a l r,x,y,w,h=>by
  cases d
  ·have h1:=ZcY (ps:=ps) (b:=l) (x:=x) (y:=y) (w:=w) (h:=a);have h2:=ZcY (ps:=ps) (b:=r) (x:=x) (y:=y+a) (w:=w) (h:=h-a);have h3:w*(h-a)=w*h-w*a:=Int.mul_sub w h a;simp only[wst,plc,Ka,Kj,ZcX,Le];omega
  ·have h1:=ZcY (ps:=ps) (b:=l) (x:=x) (y:=y) (w:=a) (h:=h);have h2:=ZcY (ps:=ps) (b:=r) (x:=x+a) (y:=y) (w:=w-a) (h:=h);have h3:(w-a)*h=w*h-a*h:=Int.sub_mul w a h;simp only[wst,plc,Kl,ZcX,Le];omega
theorem Zfk:∀ (b:BT) (x y w h:Int),(wst b x y w h).length≤b.cnt
 | .waste,x,y,w,h=>by simp[wst,BT.cnt]
 | .pane i t,x,y,w,h=>by simp[wst,BT.cnt]
 | .cut d a l r,x,y,w,h=>by
  cases d
  ·have h1:=Zfk l x y w a;have h2:=Zfk r x (y+a) w (h-a);simp[wst,BT.cnt];omega
  ·have h1:=Zfk l x y a h;have h2:=Zfk r (x+a) y (w-a) h;simp[wst,BT.cnt];omega
theorem Zqv {k:ZM} {p:Zs} {b:BT} (hv:VW k) (hf:Xi k.Panes b k.W k.H=true):∀ c∈plc b 0 0 k.W k.H,VB c.Box:=by
 intro c hc;obtain⟨h1,h2,h3,h4,_⟩:=hv;have:=Zgn hf h1 h3 c hc;simp only[Zcd] at this;simp only[VB];omega
theorem ZcZ {k:ZM} {p:Zs} {b:BT} (hv:VW k) (hf:Xi k.Panes b k.W k.H=true):∀ c∈wst b 0 0 k.W k.H,VB c:=by
 intro c hc;obtain⟨h1,h2,h3,h4,_⟩:=hv;have:=ZdQ hf h1 h3 c hc;simp only[Zcd] at this;simp only[VB];omega
def Zo2 (b m:Box):Box:=⟨m.X-b.X,m.Y-b.Y,m.W,m.H⟩
def Zm3 (b f:Box):Option Box:=if ZkR f b then some (Zo2 b (meetB f b)) else none
def cutP (q:XN) (b:Box) (label:Int):XN:=⟨label,b.W,b.H,q.Flaws.filterMap (Zm3 b)⟩
theorem Zr3 {q:XN} {b:Box} {aa:Int} (hq:VPc q) (hb:VB b) (hi:Zaz b ⟨0,0,q.W,q.H⟩) (h1:1≤aa) (h2:aa≤9999):VPc (cutP q b aa):=by
 simp only[VB] at hb;refine⟨⟨h1,h2,?_,?_,?_,?_,Lv (Lp _ _) hq.1.2.2.2.2.2.2⟩,?_⟩
 ·show 1≤b.W;omega
 ·show b.W≤200;omega
 ·show 1≤b.H;omega
 ·show b.H≤200;omega
 ·intro f hf;obtain⟨g,hg,ab⟩:=List.mem_filterMap.1 hf;have ad:=hq.2 g hg;unfold Zm3 at ab;split at ab
  ·rename_i hm;cases ab;simp only[Zgm,VB,Zaz] at ad;simp only[ZkR] at hm;simp only[Zgm,VB,Zaz,Zo2,meetB,cutP];omega
  ·cases ab
def Zk4 (Q5:Int) (b:Box):Option Box:=if Q5≤b.W∧Q5≤b.H then some b else none
def ZeY (q:XN):Int→List Box→List XN
 | _,[]=>[]
 | n,b :: l=>cutP q b n :: ZeY q (n+1) l
theorem ZeK (q:XN):∀ (n:Int) (a b:List Box),ZeY q n (a++b)=ZeY q n a++ZeY q (n+a.length) b
 | n,[],b=>by simp[ZeY]
 | n,x :: a,b=>by
  simp only[KU,ZeY,ZeK q (n+1) a b,Kk];congr 3
  omega
theorem Zo3 (q:XN):∀ (n:Int) (a:List Box),(ZeY q n a).length=a.length
 | n,[]=>rfl
 | n,x :: a=>by simp[ZeY,Zo3 q (n+1) a]
theorem cutN_take (q:XN) (n:Int) {l:List Box} {i:Nat} {x:Box} (hx:l[i]?=some x):ZeY q n (l.take (i+1))=ZeY q n (l.take i)++[cutP q x (n+i)]:=by
 obtain⟨h1,h2⟩:=Kd.1 hx;rw[List.take_succ_eq_append_getElem h1,h2,ZeK];simp only[ZeY,KV,LS (Nat.le_of_lt h1)]
def ZiO (k:ZM) (p:Zs) (Q5:Int):List Box:=((X5 k p).filterMap ZcW).filterMap (Zk4 Q5)
theorem keptL_in {k:ZM} {p:Zs} {Q5:Int} (hv:Uk k p=true):∀ b∈ZiO k p Q5,VB b∧Zaz b ⟨0,0,k.W,k.H⟩:=by
 intro b hb;obtain⟨t,_,_,hw,_,hf,hp⟩:=JV hv;unfold ZiO at hb;rw[hp,ZdP] at hb;obtain⟨c,hc,aa⟩:=List.mem_filterMap.1 hb;unfold Zk4 at aa;split at aa
 ·cases aa;refine⟨ZcZ (p:=p) hw hf b hc,?_⟩;obtain⟨h1,h2,h3,h4,_⟩:=hw;have:=ZdQ hf h1 h3 b hc;simp only[Zcd] at this;simp only[Zaz];omega
 ·cases aa
theorem keptL_len (k:ZM) (p:Zs) (Q5:Int):(ZiO k p Q5).length≤255:=by
 unfold ZiO;refine Lv (Lp _ _) (Lv (Lp _ _) ?_);unfold X5;split
 ·split
  ·rename_i h;simp only[Kb,Kq] at h;rw[Zcc];exact h.1.2
  ·simp
 ·simp
def remn (q:XN) (k:ZM) (p:Zs) (Q5 label:Int):List XN:=
 if (VPc q∧Zo1 q k p)∧1≤Q5∧Q5≤200∧1≤label∧label≤9999∧(ZiO k p Q5).length≤10000-label then ZeY q label (ZiO k p Q5) else []
def Zm4 (Q5:Int) (b:Box):Option Box:=if b.W<Q5∨b.H<Q5 then some b else none
def lostL (k:ZM) (p:Zs) (Q5:Int):List Box:=((X5 k p).filterMap ZcW).filterMap (Zm4 Q5)
theorem Zqw {b:Box} (h:VB b):0≤b.W*b.H∧b.W*b.H≤40000:=by
 simp only[VB] at h;have h1:0≤b.W*b.H:=LQ (by omega) (by omega);have h2:b.W*b.H≤200*200:=LZ (by omega) (by omega) (by omega) (by omega);omega
theorem Zo4:∀ {l:List Box},(∀ b∈l,VB b)→0≤Vh l∧Vh l≤40000*l.length
 | [],_=>by simp[Vh]
 | b :: l,h=>by
  have h1:=Zqw (h b (by simp));have h2:=Zo4 (l:=l) fun c hc=>h c (by simp[hc]);simp only[Vh,Kk];omega
theorem Zgo (Q5:Int):∀ (l:List Box),Vh (l.filterMap (Zk4 Q5))+Vh (l.filterMap (Zm4 Q5))=Vh l
 | []=>by simp[Vh]
 | b :: l=>by
  have ih:=Zgo Q5 l;by_cases h:Q5≤b.W∧Q5≤b.H
  ·have h' : ¬(b.W<Q5∨b.H<Q5):=by omega
   simp only[L5,Zk4,Zm4,Kt h,Kp h',Vh];omega
  ·have h' : b.W<Q5∨b.H<Q5:=by omega
   simp only[L5,Zk4,Zm4,Kp h,Kt h',Vh];omega
theorem wastes_VB {k:ZM} {p:Zs} (hv:Uk k p=true):∀ b∈(X5 k p).filterMap ZcW,VB b:=by
 obtain⟨t,_,_,hw,_,hf,hp⟩:=JV hv;rw[hp,ZdP];exact ZcZ (p:=p) hw hf
attribute [go_sem] ite_self Bool.false_eq_true
end Go.Abs.L
