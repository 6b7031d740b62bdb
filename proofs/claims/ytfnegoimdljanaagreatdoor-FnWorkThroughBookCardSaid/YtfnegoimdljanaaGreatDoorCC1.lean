import Derived.Test.YtfnegoimdljanaaGreatDoorCCode
set_option linter.unusedSimpArgs false
set_option linter.unusedVariables false
namespace Go.Abs.L
open Go Go.Abs Go.Abs.E
inductive BT where
 | waste
 | pane (i:Int) (t:Bool)
 | cut (d:Bool) (a:Int) (l r:BT)
deriving DecidableEq,Inhabited
def Z8 (d:Bool):Int:=if d then 2 else 3
def BT.plan:BT→Zf
 | .waste=>.mk 0 0 0 false []
 | .pane i t=>.mk 1 0 i t []
 | .cut d a l r=>.mk (Z8 d) a 0 false [l.plan,r.plan]
def BT.cnt:BT→Nat
 | .waste=>1
 | .pane _ _=>1
 | .cut _ _ l r=>1+l.cnt+r.cnt
theorem BT.cnt_pos (b:BT):1≤b.cnt:=by cases b<;>simp[BT.cnt]<;>omega
def Zf.nodes:Zf→Nat
 | .mk _ _ _ _ ks=>1+nodesL ks
where nodesL:List Zf→Nat
 | []=>0
 | p :: r=>Zf.nodes p+nodesL r
def Zfe (o a p:Int) (t:Bool) (l r:Option BT):Option BT:=match l,r with
 | some x,some y=>if p=0∧t=false then some (.cut (decide (o=2)) a x y) else none
 | _,_=>none
mutual
def Q8:Zf→Option BT
 | .mk o a p t ks=>if o=2∨o=3 then Zv8 o a p t ks else
   if ks.length=0∧a=0∧o=1 then some (.pane p t) else
   if ks.length=0∧a=0∧o=0∧p=0∧t=false then some .waste else none
def Zv8 (o a p:Int) (t:Bool):List Zf→Option BT
 | []=>none
 | x :: r=>ZyZ o a p t (Q8 x) r
def ZyZ (o a p:Int) (t:Bool) (l:Option BT):List Zf→Option BT
 | []=>none
 | y :: r=>match r with
  | []=>Zfe o a p t l (Q8 y)
  | _=>none
end
theorem Zqz (o a p:Int) (t:Bool) (x y:Zf) (ho:o=2∨o=3):Q8 (.mk o a p t [x,y])=Zfe o a p t (Q8 x) (Q8 y):=by
 simp[Q8,Zv8,ZyZ,ho]
theorem ZmA (o a p:Int) (t:Bool) (ks:List Zf) (ho:o=2∨o=3) (hk:ks.length≠2):Q8 (.mk o a p t ks)=none:=by
 match ks,hk with
 | [],_=>simp[Q8,Zv8,ho]
 | [x],_=>simp[Q8,Zv8,ZyZ,ho]
 | [x,y],h=>simp at h
 | x :: y :: z :: r,_=>simp[Q8,Zv8,ZyZ,ho]
theorem Yk:∀ b:BT,Q8 b.plan=some b
 | .waste=>by simp[BT.plan,Q8]
 | .pane i t=>by simp[BT.plan,Q8]
 | .cut d a l r=>by
  rw[BT.plan,Zqz _ _ _ _ _ _ (by cases d<;>simp[Z8]),Yk l,Yk r];cases d<;>simp[Zfe,Z8]
theorem Zff:∀ (n:Nat) (p:Zf) (b:BT),p.nodes≤n→Q8 p=some b→p=b.plan
 | 0,.mk o a p t ks,b,hn,_=>by simp[Zf.nodes] at hn
 | n+1,.mk o a p t ks,b,hn,h=>by
  by_cases ho:o=2∨o=3
  ·by_cases hk:ks.length=2
   ·match ks,hk with
    | [x,y],_=>
     rw[Zqz _ _ _ _ _ _ ho] at h;simp only[Zf.nodes,Zf.nodes.nodesL] at hn;cases hx:Q8 x with
     | none=>simp[hx,Zfe] at h
     | some bx=>
      cases hy:Q8 y with
      | none=>simp[hx,hy,Zfe] at h
      | some bY=>
       have e1:=Zff n x bx o_ hx;have e2:=Zff n y bY o_ hy;simp only[hx,hy,Zfe] at h;split at h
       ·rename_i hc;cases h;obtain⟨rfl,rfl⟩:=hc;rw[BT.plan,← e1,← e2];rcases ho with rfl | rfl<;>rfl
       ·cases h
   ·rw[ZmA _ _ _ _ _ ho hk] at h;cases h
  ·simp only[Q8,ho,Km] at h;split at h
   ·rename_i hc;cases h;obtain⟨h1,rfl,rfl⟩:=hc;cases ks with
    | nil=>rfl
    | cons x r=>simp at h1
   ·split at h
    ·rename_i hc;cases h;obtain⟨h1,rfl,rfl,rfl,rfl⟩:=hc;cases ks with
     | nil=>rfl
     | cons x r=>simp at h1
    ·cases h
theorem Zbp {p:Zf} {b:BT} (h:Q8 p=some b):p=b.plan:=Zff _ p b (Kp _) h
theorem Ztl {o a p:Int} {t:Bool} {ks:List Zf} {x y:Zf} (ho:o=2∨o=3) (hk:ks.length=2) (h0:ks[0]?=some x) (h1:ks[1]?=some y):Q8 (.mk o a p t ks)=Zfe o a p t (Q8 x) (Q8 y):=by
 match ks,hk with
 | [x',y'],_=>
  simp at h0 h1;subst h0;subst h1;exact Zqz _ _ _ _ _ _ ho
theorem ZqA:∀ {ks:List Zf} {i:Nat} {x:Zf},ks[i]?=some x→x.nodes≤Zf.nodes.nodesL ks
 | [],i,x,h=>by simp at h
 | y :: ks,0,x,h=>by simp at h;subst h;simp[Zf.nodes.nodesL]
 | y :: ks,i+1,x,h=>by
  have:=ZqA (ks:=ks) (i:=i) (x:=x) (by simpa using h);simp only[Zf.nodes.nodesL];omega
theorem Zir {o a p:Int} {t:Bool} {ks:List Zf} {i:Nat} {x:Zf} {n:Nat} (hn:(Zf.mk o a p t ks).nodes≤n+1) (h:ks[i]?=some x):x.nodes≤n:=by
 have:=ZqA h;simp only[Zf.nodes] at hn;omega
theorem Zf.enc_len (x:Zf):(Zf.enc x).cells.length=5:=by
 obtain⟨o,a,p,t,k⟩:=x;rw[Zf.enc_mk];rfl
theorem Zf.enc_agg (x:Zf):D.agg (Zf.enc x).cells=Zf.enc x:=by
 obtain⟨o,a,p,t,k⟩:=x;rw[Zf.enc_mk];rfl
theorem Zf.take_enc (x:Zf):(Zf.enc x).cells.take 5=(Zf.enc x).cells:=Kw (by rw[Zf.enc_len x];omega)
attribute [go_sem] Zf.enc_len Zf.enc_agg Zf.take_enc
theorem ZqB {o a p:Int} {t:Bool} {ks:List Zf} (ho:¬(o=2∨o=3)):Q8 (.mk o a p t ks)=if ks.length=0∧a=0∧o=1 then some (.pane p t) else
   if ks.length=0∧a=0∧o=0∧p=0∧t=false then some .waste else none:=by
 simp only[Q8,ho,Km]
def Zv (m:Int):Option BT→Int
 | some b=>if (b.cnt:Int)≤m then (b.cnt:Int) else -1
 | none=>-1
theorem Za7 (m:Int) (h0:0≤m) (b:Option BT) : -1≤Zv m b∧Zv m b≤m∧Zv m b≠0:=by
 cases b with
 | none=>simp[Zv];omega
 | some b=>
  have:=b.cnt_pos;simp only[Zv];split<;>omega
theorem XC (m:Int) (b:BT):((b.cnt:Int)≤m∧Zv m (some b)=b.cnt)∨(m<(b.cnt:Int)∧Zv m (some b)=-1):=by
 unfold Zv;by_cases h:(b.cnt:Int)≤m
 ·left;exact⟨h,Kj h⟩
 ·right;exact⟨o_,Ke h⟩
theorem Zfg (m o a p:Int) (t:Bool) (l r:Option BT) (h:¬(p=0∧t=false)):Zv m (Zfe o a p t l r)=-1:=by
 cases l with
 | none=>rfl
 | some x=>cases r with
  | none=>rfl
  | some y=>simp only[Zfe,Ke h,Zv]
theorem ZxR (m o a:Int) (l r:Option BT):Zv m (Zfe o a 0 false l r)=if Zv m l<0∨Zv m r<0∨m<1+Zv m l+Zv m r then -1 else 1+Zv m l+Zv m r:=by
 cases l with
 | none=>simp[Zfe,Zv]
 | some x=>cases r with
  | none=>simp[Zfe,Zv]
  | some y=>
   have h1:=x.cnt_pos;have h2:=y.cnt_pos;have e:(BT.cut (decide (o=2)) a x y).cnt=1+x.cnt+y.cnt:=rfl;have e0:Zfe o a 0 false (some x) (some y)=some (BT.cut (decide (o=2)) a x y):=by simp[Zfe]
   rw[e0];have hx:=XC m x;have hy:=XC m y;have hc:=XC m (BT.cut (decide (o=2)) a x y);rw[e] at hc;generalize Zv m (some x)=sx at *;generalize Zv m (some y)=sy at *;generalize Zv m (some (BT.cut (decide (o=2)) a x y))=sc at *;split<;>omega
theorem Zv9 (m o a:Int) (l r:Option BT):Zv m (Zfe o a 0 false l r)=if Zv (m-1) l<0∨Zv (m-1-Zv (m-1) l) r<0 then -1 else 1+Zv (m-1) l+Zv (m-1-Zv (m-1) l) r:=by
 cases l with
 | none=>simp[Zfe,Zv]
 | some x=>cases r with
  | none=>simp[Zfe,Zv]
  | some y=>
   have h1:=x.cnt_pos;have h2:=y.cnt_pos;have e:(BT.cut (decide (o=2)) a x y).cnt=1+x.cnt+y.cnt:=rfl;have e0:Zfe o a 0 false (some x) (some y)=some (BT.cut (decide (o=2)) a x y):=by simp[Zfe]
   rw[e0];have hx:=XC (m-1) x;have hy:=XC (m-1-Zv (m-1) (some x)) y;have hc:=XC m (BT.cut (decide (o=2)) a x y);rw[e] at hc;generalize Zv (m-1-Zv (m-1) (some x)) (some y)=sy at *;generalize Zv (m-1) (some x)=sx at *;generalize Zv m (some (BT.cut (decide (o=2)) a x y))=sc at *;split<;>omega
theorem ZxS {m:Int} (h:m<1) (b:Option BT):Zv m b=-1:=by
 cases b with
 | none=>rfl
 | some b=>
  have:=b.cnt_pos;have:=XC m b;omega
def XD (ps:List Pane) (i:Int) (t:Bool) (w h:Int):Bool:=decide (0≤i)&&(match ps[i.toNat]? with
 | some q=>if t then q.Turns&&decide (¬q.W=q.H)&&decide (q.H=w)&&decide (q.W=h) else decide (q.W=w∧q.H=h)
 | none=>false)
def Xy (ps:List Pane):BT→Int→Int→Bool
 | .waste,_,_=>true
 | .pane i t,w,h=>XD ps i t w h
 | .cut d a l r,w,h=>if d then decide (1≤a∧a≤w-1)&&Xy ps l a h&&Xy ps r (w-a) h
   else decide (1≤a∧a≤h-1)&&Xy ps l w a&&Xy ps r w (h-a)
def VPs (ps:List Pane):Prop:=∀ q∈ps,VP q
instance (ps:List Pane):Decidable (VPs ps):=by unfold VPs;infer_instance
def VW (k:Zt):Prop:=1≤k.W∧k.W≤200∧1≤k.H∧k.H≤200∧k.Panes.length≤24∧VPs k.Panes
instance (k:Zt):Decidable (VW k):=by unfold VW;infer_instance
theorem Zwa {ps:List Pane} {k:Nat} {x:Pane} (hx:ps[k]?=some x):VPs (ps.drop k)↔VP x∧VPs (ps.drop (k+1)):=by
 obtain⟨h1,h2⟩:=Kc.1 hx;rw[Kx h1,h2];simp[VPs]
end Go.Abs.L
namespace Go.Abs.L
open Go Go.Abs Go.Abs.E
structure Part where
 plan:Zf
 box:Box
def Part.enc (p:Part):D:=.agg (p.plan.enc.cells++[.int .i64 p.box.X,.int .i64 p.box.Y,.int .i64 p.box.W,.int .i64 p.box.H])
@[go_sem] theorem Part.enc_mk (o a p:Int) (t:Bool) (ks:List Zf) (x y w h:Int):Part.enc ⟨.mk o a p t ks,⟨x,y,w,h⟩⟩ =
  .agg [.int .i64 o,.int .i64 a,.int .i64 p,.bool t,.sl (ks.map Zf.enc),.int .i64 x,.int .i64 y,.int .i64 w,.int .i64 h]:=by
 simp only[Part.enc,Zf.enc_mk];rfl
theorem Part.enc_len (p:Part):(Part.enc p).cells.length=9:=by
 show (p.plan.enc.cells++_).length=9;rw[Kr,Zf.enc_len];rfl
@[go_sem] theorem uni_Part (l:List Part):uni 9 (l.map Part.enc)=True:=eq_true (J2 l Part.enc_len)
def pt:BT→Int→Int→Int→Int→List Part
 | .waste,x,y,w,h=>[⟨BT.waste.plan,⟨x,y,w,h⟩⟩]
 | .pane i t,x,y,w,h=>[⟨(BT.pane i t).plan,⟨x,y,w,h⟩⟩]
 | .cut d a l r,x,y,w,h=>⟨(BT.cut d a l r).plan,⟨x,y,w,h⟩⟩ :: if d then pt l x y a h++pt r (x+a) y (w-a) h else pt l x y w a++pt r x (y+a) w (h-a)
def sp:BT→Int→Int→Int→Int→List Place
 | .waste,x,y,w,h=>[⟨-1,false,⟨x,y,w,h⟩⟩]
 | .pane i t,x,y,w,h=>[⟨i,t,⟨x,y,w,h⟩⟩]
 | .cut d a l r,x,y,w,h=>if d then sp l x y a h++sp r (x+a) y (w-a) h else sp l x y w a++sp r x (y+a) w (h-a)
def plc:BT→Int→Int→Int→Int→List Place
 | .waste,x,y,w,h=>[]
 | .pane i t,x,y,w,h=>[⟨i,t,⟨x,y,w,h⟩⟩]
 | .cut d a l r,x,y,w,h=>if d then plc l x y a h++plc r (x+a) y (w-a) h else plc l x y w a++plc r x (y+a) w (h-a)
def wst:BT→Int→Int→Int→Int→List Box
 | .waste,x,y,w,h=>[⟨x,y,w,h⟩]
 | .pane i t,x,y,w,h=>[]
 | .cut d a l r,x,y,w,h=>if d then wst l x y a h++wst r (x+a) y (w-a) h else wst l x y w a++wst r x (y+a) w (h-a)
def PN:BT→Prop
 | .waste=>True
 | .pane i _=>0≤i
 | .cut _ _ l r=>PN l∧PN r
def Q3 (q:Part):Option Place:=match q.plan with
 | .mk o _ p t _=>if o=1 then some ⟨p,t,q.box⟩ else none
def XM (q:Part):Option Box:=match q.plan with
 | .mk o _ _ _ _=>if o=0 then some q.box else none
theorem Yl:∀ (b:BT) (x y w h:Int),(pt b x y w h).filterMap Q3=plc b x y w h
 | .waste,x,y,w,h=>rfl
 | .pane i t,x,y,w,h=>rfl
 | .cut d a l r,x,y,w,h=>by
  have e:Q3 ⟨(BT.cut d a l r).plan,⟨x,y,w,h⟩⟩=none:=by cases d<;>rfl
  cases d<;>simp[pt,plc,LL,Lq,e,Yl]
theorem Zer:∀ (b:BT) (x y w h:Int),(pt b x y w h).filterMap XM=wst b x y w h
 | .waste,x,y,w,h=>rfl
 | .pane i t,x,y,w,h=>rfl
 | .cut d a l r,x,y,w,h=>by
  have e:XM ⟨(BT.cut d a l r).plan,⟨x,y,w,h⟩⟩=none:=by cases d<;>rfl
  cases d<;>simp[pt,wst,LL,Lq,e,Zer]
def Zc3 (q:Place):Option Place:=if 0≤q.Pane then some q else none
def Zc4 (q:Place):Option Box:=if q.Pane<0 then some q.Box else none
theorem ZmB:∀ (b:BT) (x y w h:Int),PN b→(sp b x y w h).filterMap Zc3=plc b x y w h
 | .waste,x,y,w,h,_=>rfl
 | .pane i t,x,y,w,h,hp=>by
  have hp:0≤i:=hp;simp[sp,plc,Zc3,hp]
 | .cut d a l r,x,y,w,h,hp=>by
  cases d<;>simp[sp,plc,LL,ZmB l _ _ _ _ hp.1,ZmB r _ _ _ _ hp.2]
theorem ZmC:∀ (b:BT) (x y w h:Int),PN b→(sp b x y w h).filterMap Zc4=wst b x y w h
 | .waste,x,y,w,h,_=>rfl
 | .pane i t,x,y,w,h,hp=>by
  have hp:¬i<0:=by have:0≤i:=hp;omega
  simp[sp,wst,Zc4,hp]
 | .cut d a l r,x,y,w,h,hp=>by
  cases d<;>simp[sp,wst,LL,ZmC l _ _ _ _ hp.1,ZmC r _ _ _ _ hp.2]
theorem UX:∀ (b:BT) (x y w h:Int),(pt b x y w h).length=b.cnt
 | .waste,x,y,w,h=>rfl
 | .pane i t,x,y,w,h=>rfl
 | .cut d a l r,x,y,w,h=>by
  cases d<;>simp[pt,BT.cnt,UX]<;>omega
theorem ZdA:∀ (b:BT) (x y w h:Int),(sp b x y w h).length≤b.cnt
 | .waste,x,y,w,h=>by simp[sp,BT.cnt]
 | .pane i t,x,y,w,h=>by simp[sp,BT.cnt]
 | .cut d a l r,x,y,w,h=>by
  cases d
  ·have h1:=ZdA l x y w a;have h2:=ZdA r x (y+a) w (h-a);simp[sp,BT.cnt];omega
  ·have h1:=ZdA l x y a h;have h2:=ZdA r (x+a) y (w-a) h;simp[sp,BT.cnt];omega
theorem J5 {α β:Type} {l:List α} {f:α→Option β} {k:Nat} {x:α} (hx:l[k]?=some x):(l.take (k+1)).filterMap f=(l.take k).filterMap f++(f x).toList:=by
 obtain⟨h1,h2⟩:=Kc.1 hx;rw[LG h1,h2,LL];cases hf:f x<;>simp[hf]
theorem Zis {ps:List Pane}:∀ {b:BT} {w h:Int},Xy ps b w h=true→PN b
 | .waste,_,_,_=>trivial
 | .pane i t,w,h,hf=>by
  simp only[Xy,XD,Kf,Ko] at hf;exact hf.1
 | .cut d a l r,w,h,hf=>by
  cases d
  ·simp only[Xy,Kf,Ka,Km] at hf;exact⟨Zis hf.1.2,Zis hf.2⟩
  ·simp only[Xy,Kf,Kl] at hf;exact⟨Zis hf.1.2,Zis hf.2⟩
def Qt (k:Zt) (p:Zf):List Part:=match Q8 p with
 | some b=>if decide (VW k)&&decide (b.cnt≤255)&&Xy k.Panes b k.W k.H then pt b 0 0 k.W k.H else []
 | none=>[]
def YO (k:Zt) (p:Zf):Bool:=match Q8 p with
 | some b=>decide (VW k)&&decide (b.cnt≤255)&&Xy k.Panes b k.W k.H
 | none=>false
theorem QM {k:Zt} {p:Zf} (h:YO k p=true):∃ b,Q8 p=some b∧p=b.plan∧VW k∧b.cnt≤255∧Xy k.Panes b k.W k.H=true∧Qt k p=pt b 0 0 k.W k.H:=by
 have h':=h;unfold YO at h;split at h
 ·rename_i b hb;refine⟨b,hb,Zbp hb,?_⟩;unfold Qt;rw[hb];dsimp only;rw[Kj h];simp only[Kf,Ko] at h;exact⟨h.1.1,h.1.2,h.2,rfl⟩
 ·cases h
theorem Zes {α:Type} {l:List α} {k:Nat} {x:α} (hx:l[k]?=some x) (P:α→Prop):(∀ y∈l.drop k,P y)↔P x∧∀ y∈l.drop (k+1),P y:=by
 obtain⟨h1,h2⟩:=Kc.1 hx;rw[Kx h1,h2];simp
def ZbX (w h:Int) (f:Box):Prop:=VB f∧QE f ⟨0,0,w,h⟩
instance (w h:Int) (f:Box):Decidable (ZbX w h f):=by unfold ZbX;infer_instance
def VPc (q:Zb):Prop:=(1≤q.Label∧q.Label≤9999∧1≤q.W∧q.W≤200∧1≤q.H∧q.H≤200∧q.Flaws.length≤6)∧∀ f∈q.Flaws,ZbX q.W q.H f
instance (q:Zb):Decidable (VPc q):=by unfold VPc;infer_instance
def Z3 (fs:List Box) (b:Box):Prop:=∀ f∈fs,¬XZ f b
instance (fs:List Box) (b:Box):Decidable (Z3 fs b):=by unfold Z3;infer_instance
def YY (q:Zb) (k:Zt) (p:Zf):Prop:=YO k p=true∧k.W=q.W∧k.H=q.H∧∀ c∈(Qt k p).filterMap Q3,Z3 q.Flaws c.Box
instance (q:Zb) (k:Zt) (p:Zf):Decidable (YY q k p):=by unfold YY;infer_instance
def ZjT (x y w h:Int) (c:Box):Prop:=1≤c.W∧1≤c.H∧x≤c.X∧y≤c.Y∧c.X+c.W≤x+w∧c.Y+c.H≤y+h
theorem ZqC {ps:List Pane}:∀ {b:BT} {x y w h:Int},Xy ps b w h=true→1≤w→1≤h→∀ c∈plc b x y w h,ZjT x y w h c.Box
 | .waste,x,y,w,h,hf,h1,h2,c,hc=>by simp[plc] at hc
 | .pane i t,x,y,w,h,hf,h1,h2,c,hc=>by
  simp only[plc,KG] at hc;subst hc;simp only[ZjT];omega
 | .cut d a l r,x,y,w,h,hf,h1,h2,c,hc=>by
  cases d
  ·simp only[Xy,Kf,Ka,Km,Ko] at hf;simp only[plc,Ka,Km,Kh] at hc;rcases hc with hc | hc
   ·have:=ZqC hf.1.2 o_ o_ c hc;simp only[ZjT] at this ⊢;omega
   ·have:=ZqC hf.2 o_ o_ c hc;simp only[ZjT] at this ⊢;omega
  ·simp only[Xy,Kf,Kl,Ko] at hf;simp only[plc,Kl,Kh] at hc;rcases hc with hc | hc
   ·have:=ZqC hf.1.2 o_ o_ c hc;simp only[ZjT] at this ⊢;omega
   ·have:=ZqC hf.2 o_ o_ c hc;simp only[ZjT] at this ⊢;omega
theorem ZmD {ps:List Pane}:∀ {b:BT} {x y w h:Int},Xy ps b w h=true→1≤w→1≤h→∀ c∈wst b x y w h,ZjT x y w h c
 | .waste,x,y,w,h,hf,h1,h2,c,hc=>by
  simp only[wst,KG] at hc;subst hc;simp only[ZjT];omega
 | .pane i t,x,y,w,h,hf,h1,h2,c,hc=>by simp[wst] at hc
 | .cut d a l r,x,y,w,h,hf,h1,h2,c,hc=>by
  cases d
  ·simp only[Xy,Kf,Ka,Km,Ko] at hf;simp only[wst,Ka,Km,Kh] at hc;rcases hc with hc | hc
   ·have:=ZmD hf.1.2 o_ o_ c hc;simp only[ZjT] at this ⊢;omega
   ·have:=ZmD hf.2 o_ o_ c hc;simp only[ZjT] at this ⊢;omega
  ·simp only[Xy,Kf,Kl,Ko] at hf;simp only[wst,Kl,Kh] at hc;rcases hc with hc | hc
   ·have:=ZmD hf.1.2 o_ o_ c hc;simp only[ZjT] at this ⊢;omega
   ·have:=ZmD hf.2 o_ o_ c hc;simp only[ZjT] at this ⊢;omega
def XS:List Box→Int
 | []=>0
 | c :: l=>c.W*c.H+XS l
theorem Za8 (a b:List Box):XS (a++b)=XS a+XS b:=by
 induction a with
 | nil=>simp[XS]
 | cons c l ih=>simp only[KA,XS,ih];omega
theorem Zk4 {k:Zt} {p:Zf} {b:BT} (hv:VW k) (hf:Xy k.Panes b k.W k.H=true):∀ c∈plc b 0 0 k.W k.H,VB c.Box:=by
 intro c hc;obtain⟨h1,h2,h3,h4,_⟩:=hv;have:=ZqC hf h1 h3 c hc;simp only[ZjT] at this;simp only[VB];omega
theorem Zk5 {k:Zt} {p:Zf} {b:BT} (hv:VW k) (hf:Xy k.Panes b k.W k.H=true):∀ c∈wst b 0 0 k.W k.H,VB c:=by
 intro c hc;obtain⟨h1,h2,h3,h4,_⟩:=hv;have:=ZmD hf h1 h3 c hc;simp only[ZjT] at this;simp only[VB];omega
def ZuH (b m:Box):Box:=⟨m.X-b.X,m.Y-b.Y,m.W,m.H⟩
def Yt (b f:Box):Option Box:=if XZ f b then some (ZuH b (Zf8 f b)) else none
def ZmE (q:Zb) (b:Box) (label:Int):Zb:=⟨label,b.W,b.H,q.Flaws.filterMap (Yt b)⟩
theorem ZxT {q:Zb} {b:Box} {label:Int} (hq:VPc q) (hb:VB b) (hi:QE b ⟨0,0,q.W,q.H⟩) (h1:1≤label) (h2:label≤9999):VPc (ZmE q b label):=by
 simp only[VB] at hb;refine⟨⟨h1,h2,?_,?_,?_,?_,Ku (Kq _ _) hq.1.2.2.2.2.2.2⟩,?_⟩
 ·show 1≤b.W;omega
 ·show b.W≤200;omega
 ·show 1≤b.H;omega
 ·show b.H≤200;omega
 ·intro f hf;obtain⟨g,hg,aa⟩:=Ls.1 hf;have ab:=hq.2 g hg;unfold Yt at aa;split at aa
  ·rename_i hm;cases aa;simp only[ZbX,VB,QE] at ab;simp only[XZ] at hm;simp only[ZbX,VB,QE,ZuH,Zf8,ZmE];omega
  ·cases aa
def WL (Zj:Int) (b:Box):Option Box:=if Zj≤b.W∧Zj≤b.H then some b else none
def Uj (q:Zb):Int→List Box→List Zb
 | _,[]=>[]
 | n,b :: l=>ZmE q b n :: Uj q (n+1) l
theorem Zg8 (q:Zb):∀ (n:Int) (a b:List Box),Uj q n (a++b)=Uj q n a++Uj q (n+a.length) b
 | n,[],b=>by simp[Uj]
 | n,x :: a,b=>by
  simp only[KA,Uj,Zg8 q (n+1) a b,Kn];congr 3
  omega
theorem ZbY (q:Zb):∀ (n:Int) (a:List Box),(Uj q n a).length=a.length
 | n,[]=>rfl
 | n,x :: a=>by simp[Uj,ZbY q (n+1) a]
theorem ZAh (q:Zb) (n:Int) {l:List Box} {i:Nat} {x:Box} (hx:l[i]?=some x):Uj q n (l.take (i+1))=Uj q n (l.take i)++[ZmE q x (n+i)]:=by
 obtain⟨h1,h2⟩:=Kc.1 hx;rw[LG h1,h2,Zg8];simp only[Uj,LB,Nat.min_eq_left (Nat.le_of_lt h1)]
def Q7 (k:Zt) (p:Zf) (Zj:Int):List Box:=((Qt k p).filterMap XM).filterMap (WL Zj)
theorem ZqD {k:Zt} {p:Zf} {Zj:Int} (hv:YO k p=true):∀ b∈Q7 k p Zj,VB b∧QE b ⟨0,0,k.W,k.H⟩:=by
 intro b hb;obtain⟨t,_,_,hw,_,hf,hp⟩:=QM hv;unfold Q7 at hb;rw[hp,Zer] at hb;obtain⟨c,hc,aa⟩:=Ls.1 hb;unfold WL at aa;split at aa
 ·cases aa;refine⟨Zk5 (p:=p) hw hf b hc,?_⟩;obtain⟨h1,h2,h3,h4,_⟩:=hw;have:=ZmD hf h1 h3 b hc;simp only[ZjT] at this;simp only[QE];omega
 ·cases aa
theorem Zit (k:Zt) (p:Zf) (Zj:Int):(Q7 k p Zj).length≤255:=by
 unfold Q7;refine Ku (Kq _ _) (Ku (Kq _ _) ?_);unfold Qt;split
 ·split
  ·rename_i h;simp only[Kf,Ko] at h;rw[UX];exact h.1.2
  ·simp
 ·simp
def WM (Zj:Int) (b:Box):Option Box:=if b.W<Zj∨b.H<Zj then some b else none
def Zc5 (k:Zt) (p:Zf) (Zj:Int):List Box:=((Qt k p).filterMap XM).filterMap (WM Zj)
theorem UY {b:Box} (h:VB b):0≤b.W*b.H∧b.W*b.H≤40000:=by
 simp only[VB] at h;have h1:0≤b.W*b.H:=Kan o_ o_;have h2:b.W*b.H≤200*200:=Kao o_ o_ o_ o_;omega
theorem Zet:∀ {l:List Box},(∀ b∈l,VB b)→0≤XS l∧XS l≤40000*l.length
 | [],_=>by simp[XS]
 | b :: l,h=>by
  have h1:=UY (h b (by simp));have h2:=Zet (l:=l) fun c hc=>h c (by simp[hc]);simp only[XS,Kn];omega
theorem Zbq {k:Zt} {p:Zf} (hv:YO k p=true):∀ b∈(Qt k p).filterMap XM,VB b:=by
 obtain⟨t,_,_,hw,_,hf,hp⟩:=QM hv;rw[hp,Zer];exact Zk5 (p:=p) hw hf
attribute [go_sem] ite_self Bool.false_eq_true
end Go.Abs.L
namespace Go.Abs.L
open Go Go.Abs
def I64 (z:Int):Prop:=-9223372036854775808≤z∧z<9223372036854775808
def Box.ok (b:Box):Prop:=I64 b.X∧I64 b.Y∧I64 b.W∧I64 b.H
def Pane.ok (p:Pane):Prop:=I64 p.W∧I64 p.H∧I64 p.Kind
def Zc.ok (l:Zc):Prop:=l.Pane.ok∧I64 l.Count
def Zt.ok (k:Zt):Prop:=I64 k.W∧I64 k.H∧k.Panes.length≤maxLen∧∀ p∈k.Panes,p.ok
def Place.ok (p:Place):Prop:=I64 p.Pane∧p.Box.ok
def Zb.ok (p:Zb):Prop:=I64 p.Label∧I64 p.W∧I64 p.H∧p.Flaws.length≤maxLen∧∀ b∈p.Flaws,b.ok
def Zm.ok (s:Zm):Prop:=(s.Stock.length≤maxLen∧∀ p∈s.Stock,p.ok)∧(s.Opn.length≤maxLen∧∀ l∈s.Opn,l.ok)∧(s.Done.length≤maxLen∧∀ l∈s.Done,l.ok)∧I64 s.Lost∧I64 s.Came
inductive Zf.ok:Zf→Prop
 | mk {o a p:Int} {t:Bool} {ks:List Zf}:I64 o→I64 a→I64 p→ks.length≤maxLen→(∀ k∈ks,Zf.ok k)→Zf.ok (.mk o a p t ks)
end Go.Abs.L
namespace Go.Proofs.YtfnegoimdljanaaGreatDoor
open Go Go.Abs Go.Abs.E Go.Abs.L
set_option maxRecDepth 20000
set_option maxHeartbeats 4000000
theorem ZI (n lo hi:Int):v_ 49 [(.d (J n)),(.d (J lo)),(.d (J hi))] []=some ((.d (.bool ((decide (lo≤n∧n≤hi))))),[]):=by
 refine cE ?_;simp (maxSteps:=10^7) +contextual -implicitDefEqProofs only[go_sem,seval,Zn8]
theorem ZiX (bX bY bW bH:Int):v_ 189 [(.d (.agg [J bX,J bY,J bW,J bH]))] []=some ((.d (.bool ((decide (VB (Box.mk bX bY bW bH)))))),[]):=by
 refine cE ?_;simp (maxSteps:=10^7) +contextual -implicitDefEqProofs only[go_sem,seval,ZlT,ZI];have h1:=wi (200-bW);have h2:=wi (200-bH);exact ZaU (by simp only[VB];omega)
theorem X0 (bX bY bW bH:Int):v_ 175 [(.d (.agg [J bX,J bY,J bW,J bH]))] []=some ((.d (.bool ((decide (VB (Box.mk bX bY bW bH)))))),[]):=by
 refine cE ?_;simp (maxSteps:=10^7) +contextual -implicitDefEqProofs only[go_sem,seval,ZlG];have h1:=wi (200-bW);have h2:=wi (200-bH);exact⟨fun h=>ZgH (by simp only[VB];omega),fun h=>ZaU (by simp only[VB];omega)⟩
theorem ZrU (aX aY aW aH:Int) (bX bY bW bH:Int) (ha:VB (Box.mk aX aY aW aH)) (h1:R64 bX) (h2:R64 bY) (h3:R64 (bX+bW)) (h4:R64 (bY+bH)):v_ 190 [(.d (.agg [J aX,J aY,J aW,J aH])),(.d (.agg [J bX,J bY,J bW,J bH]))] []=some ((.d (.bool ((decide (QE (Box.mk aX aY aW aH) (Box.mk bX bY bW bH)))))),[]):=by
 refine cE ?_;simp only[VB] at ha;have e1:=wi (aX+aW) o_ o_;have e2:=wi (aY+aH) o_ o_;have e3:=wi (bX+bW) h3.1 h3.2;have e4:=wi (bY+bH) h4.1 h4.2;simp (maxSteps:=10^7) +contextual -implicitDefEqProofs only[go_sem,seval,ZlY,e1,e2,e3,e4];exact ZaU (by simp only[QE];omega)
theorem Zk6 (aX aY aW aH:Int) (bX bY bW bH:Int) (ha:VB (Box.mk aX aY aW aH)) (hb:VB (Box.mk bX bY bW bH)) (hm:XZ (Box.mk aX aY aW aH) (Box.mk bX bY bW bH)):v_ 191 [(.d (.agg [J aX,J aY,J aW,J aH])),(.d (.agg [J bX,J bY,J bW,J bH]))] []=some (.tup [.d (Zf8 (Box.mk aX aY aW aH) (Box.mk bX bY bW bH)).enc,(.d (.bool true))],[]):=by
 refine cE ?_;simp only[VB,XZ] at ha hb hm;have e1:=wi (aX+aW) o_ o_;have e2:=wi (aY+aH) o_ o_;have e3:=wi (bX+bW) o_ o_;have e4:=wi (bY+bH) o_ o_;have e5:=wi (min (aX+aW) (bX+bW)-max aX bX) o_ o_;have e6:=wi (min (aY+aH) (bY+bH)-max aY bY) o_ o_;have n1:¬(min (aX+aW) (bX+bW)-max aX bX≤0):=o_
 have n2:¬(min (aY+aH) (bY+bH)-max aY bY≤0):=o_
 simp (maxSteps:=10^7) +contextual -implicitDefEqProofs only[go_sem,seval,Zkb,e1,e2,e3,e4,e5,e6,n1,n2,Zf8]
theorem ZnP (aX aY aW aH:Int) (bX bY bW bH:Int) (ha:VB (Box.mk aX aY aW aH)) (hb:VB (Box.mk bX bY bW bH)) (hm:¬XZ (Box.mk aX aY aW aH) (Box.mk bX bY bW bH)):v_ 191 [(.d (.agg [J aX,J aY,J aW,J aH])),(.d (.agg [J bX,J bY,J bW,J bH]))] []=some (.tup [.d (Box.enc ⟨0,0,0,0⟩),(.d (.bool false))],[]):=by
 refine cE ?_;simp only[VB,XZ] at ha hb hm;have e1:=wi (aX+aW) o_ o_;have e2:=wi (aY+aH) o_ o_;have e3:=wi (bX+bW) o_ o_;have e4:=wi (bY+bH) o_ o_;have e5:=wi (min (aX+aW) (bX+bW)-max aX bX) o_ o_;have e6:=wi (min (aY+aH) (bY+bH)-max aY bY) o_ o_;have n1:min (aX+aW) (bX+bW)-max aX bX≤0∨min (aY+aH) (bY+bH)-max aY bY≤0:=o_
 simp (maxSteps:=10^7) +contextual -implicitDefEqProofs only[go_sem,seval,Zkb,e1,e2,e3,e4,e5,e6];omega
theorem Za9 (aX aY aW aH:Int) (bX bY bW bH:Int) (ha:VB (Box.mk aX aY aW aH)) (hb:VB (Box.mk bX bY bW bH)) (hm:XZ (Box.mk aX aY aW aH) (Box.mk bX bY bW bH)):v_ 180 [(.d (.agg [J aX,J aY,J aW,J aH])),(.d (.agg [J bX,J bY,J bW,J bH]))] []=some (.tup [.d (Zf8 (Box.mk aX aY aW aH) (Box.mk bX bY bW bH)).enc,(.d (.bool true))],[]):=by
 refine cE ?_;have aa:=ha;have ab:=hb;simp only[VB,XZ] at aa ab hm;have e1:=wi (aX+aW) o_ o_;have e2:=wi (aY+aH) o_ o_;have e3:=wi (bX+bW) o_ o_;have e4:=wi (bY+bH) o_ o_;have e5:=wi (min (aX+aW) (bX+bW)-max aX bX) o_ o_;have e6:=wi (min (aY+aH) (bY+bH)-max aY bY) o_ o_;have n1:¬(min (aX+aW) (bX+bW)≤max aX bX):=o_
 have n2:¬(min (aY+aH) (bY+bH)≤max aY bY):=o_
 simp (maxSteps:=10^7) +contextual -implicitDefEqProofs only[go_sem,seval,ZcM,X0,ha,hb,e1,e2,e3,e4,e5,e6,n1,n2,Zf8]
theorem Zc6 (aX aY aW aH:Int) (bX bY bW bH:Int) (hm:¬(VB (Box.mk aX aY aW aH)∧VB (Box.mk bX bY bW bH)∧XZ (Box.mk aX aY aW aH) (Box.mk bX bY bW bH))):v_ 180 [(.d (.agg [J aX,J aY,J aW,J aH])),(.d (.agg [J bX,J bY,J bW,J bH]))] []=some (.tup [.d (Box.enc ⟨0,0,0,0⟩),(.d (.bool false))],[]):=by
 refine cE ?_;by_cases ha:VB (Box.mk aX aY aW aH)
 ·by_cases hb:VB (Box.mk bX bY bW bH)
  ·have aa:=ha;have ab:=hb;simp only[ha,hb,true_and] at hm;simp only[VB,XZ] at aa ab hm;have e1:=wi (aX+aW) o_ o_;have e2:=wi (aY+aH) o_ o_;have e3:=wi (bX+bW) o_ o_;have e4:=wi (bY+bH) o_ o_;simp (maxSteps:=10^7) +contextual -implicitDefEqProofs only[go_sem,seval,ZcM,X0,ha,hb,e1,e2,e3,e4];omega
  ·simp (maxSteps:=10^7) +contextual -implicitDefEqProofs only[go_sem,seval,ZcM,X0,ha,hb]
 ·simp (maxSteps:=10^7) +contextual -implicitDefEqProofs only[go_sem,seval,ZcM,X0,ha]
theorem J6 (aX aY aW aH:Int) (bX bY bW bH:Int):v_ 177 [(.d (.agg [J aX,J aY,J aW,J aH])),(.d (.agg [J bX,J bY,J bW,J bH]))] []=some ((.d (.bool ((decide (VB (Box.mk aX aY aW aH)∧VB (Box.mk bX bY bW bH)∧QE (Box.mk aX aY aW aH) (Box.mk bX bY bW bH)))))),[]):=by
 refine cE ?_;by_cases hm:VB (Box.mk aX aY aW aH)∧VB (Box.mk bX bY bW bH)∧XZ (Box.mk aX aY aW aH) (Box.mk bX bY bW bH)
 ·obtain⟨ha,hb,hm⟩:=hm;simp (maxSteps:=10^7) +contextual -implicitDefEqProofs only[go_sem,seval,Zf5,Za9 _ _ _ _ _ _ _ _ ha hb hm,Zf8];simp only[VB] at ha hb;simp only[XZ] at hm;exact ZaU (by simp only[VB,QE];omega)
 ·simp (maxSteps:=10^7) +contextual -implicitDefEqProofs only[go_sem,seval,Zf5,Zc6 _ _ _ _ _ _ _ _ hm];have:¬(VB (Box.mk aX aY aW aH)∧VB (Box.mk bX bY bW bH)∧QE (Box.mk aX aY aW aH) (Box.mk bX bY bW bH)):=by
   intro⟨h1,h2,h3⟩;refine hm ⟨h1,h2,?_⟩;simp only[VB,QE] at h1 h2 h3;simp only[XZ];omega
  exact ZgH this
theorem YP (pW pH:Int) (pT:Bool) (pK:Int):v_ 133 [(.d (.agg [J pW,J pH,.bool pT,J pK]))] []=some ((.d (.bool ((decide (VP (Pane.mk pW pH pT pK)))))),[]):=by
 refine cE ?_;simp (maxSteps:=10^7) +contextual -implicitDefEqProofs only[go_sem,seval,Zjs,ZI]
 first | exact ZaU (by simp only[VP];omega) | skip
theorem UZ (pW pH:Int) (pT:Bool) (pK:Int):v_ 79 [(.d (.agg [J pW,J pH,.bool pT,J pK]))] []=some ((.d (.bool ((decide (VP (Pane.mk pW pH pT pK)))))),[]):=by
 refine cE ?_;simp (maxSteps:=10^7) +contextual -implicitDefEqProofs only[go_sem,seval,Zje]
 first | exact ZaU (by simp only[VP];omega) | skip
def Xt:Nat→List Int→Int→Int
 | _,[],_=>-1
 | k,x :: l,n=>if x=n then (k:Int) else Xt (k+1) l n
theorem ZqF {l:List Int} {k:Nat} {x n:Int} (hx:l[k]?=some x):Xt k (l.drop k) n=if x=n then (k:Int) else Xt (k+1) (l.drop (k+1)) n:=by
 have h:=(Kc.1 hx)
 obtain⟨h1,h2⟩:=h;rw[Kx h1,h2,Xt]
theorem Zk7 (l:List Int) (n:Int) (hl:l.length<4611686018427387904):v_ 192 [.d (.sl (l.map Yi)),(.d (J n))] []=some ((.d (J (Xt 0 l n))),[]):=by
 refine cE ?_;simp (maxSteps:=10^7) +contextual -implicitDefEqProofs only[go_sem,seval,Zn6];refine LO (α:=Nat) (fun k=>[(5,.d (J (k:Int)))]) (fun _=>[]) (fun k=>k≤l.length∧Xt k (l.drop k) n=Xt 0 l n) (fun k=>l.length-k) 0 ⟨o_,rfl⟩ ?_;intro k ⟨hk,hp⟩ ih;by_cases aa:k<l.length
 ·obtain⟨x,hx⟩:=Zp aa;rw[ZqF hx] at hp;have hw:=Zh (k:=k) o_;simp (maxSteps:=10^7) +contextual -implicitDefEqProofs only[go_sem,seval,hx,aa,hw];refine⟨fun h=>?_,fun h=>ih (k+1) _ ⟨o_,?_⟩ o_ ?_⟩
  ·rw[Kj h] at hp;rw[← hp]
  ·rw[Ke h] at hp;exact hp
  ·simp (maxSteps:=10^7) +contextual -implicitDefEqProofs only[go_sem,seval]
 ·have:k=l.length:=o_
  subst this;simp (maxSteps:=10^7) +contextual -implicitDefEqProofs only[go_sem,seval];rw[← hp];simp[Xt]
theorem ZqG (bs:List UInt8):v_ 32 [.d (.sl (bs.map UF))] []=some (.ptr 0 0,[.box [.d (.sl ((bs.take 2000).map UF)),(.d (J 0))]]):=by
 refine cE ?_;by_cases h:2000<bs.length
 ·have h1:(2000:Int)<bs.length:=o_
  have h2:(2000:Int)≤bs.length:=o_
  simp (maxSteps:=10^7) +contextual -implicitDefEqProofs only[go_sem,seval,Zd8,h1,h2]
 ·have h1:¬(2000:Int)<bs.length:=o_
  have h2:bs.take 2000=bs:=Kw o_;simp (maxSteps:=10^7) +contextual -implicitDefEqProofs only[go_sem,seval,Zd8,h1,h2]
theorem Ziu (bs:List UInt8) (p:Nat) (n:Int) (hb:bs.length≤2000) (hp:p<1099511627776) :
  ∃ v:Int,v_ 67 [.ptr 0 0,(.d (J n))] [.box [.d (.sl (bs.map UF)),(.d (J p))]]=some ((.d (J v)),[.box [.d (.sl (bs.map UF)),(.d (J ((p+1:Nat))))]])∧0≤v∧(1≤n→v<n):=by
 have hw:=Zh (k:=p) o_;by_cases hn:n<1
 ·refine⟨0,?_,o_,o_⟩;refine cE ?_;simp (maxSteps:=10^7) +contextual -implicitDefEqProofs only[go_sem,seval,Vs,hw,hn]
 ·by_cases hl:bs.length=0
  ·refine⟨0,?_,o_,o_⟩;refine cE ?_;simp (maxSteps:=10^7) +contextual -implicitDefEqProofs only[go_sem,seval,Vs,hw,hn,hl]
  ·have ae : ¬(bs.length:Int)=0:=o_
   have hs:IntKind.i64.wrap (((p+1:Nat):Int)-1)=(p:Int):=by rw[WB o_ o_];omega
   have af:¬n=0:=o_
   by_cases ab:p<bs.length
   ·obtain⟨x,hx⟩:=Zp ab;have ai:(x.toNat:Int)<256:=by have:=x.toNat_lt;omega
    have aj:IntKind.i64.wrap (x.toNat:Int)=(x.toNat:Int):=WB o_ o_;refine⟨(x.toNat:Int).tmod n,?_,Int.tmod_nonneg _ o_,fun _=>Int.tmod_lt_of_pos _ o_⟩;refine cE ?_;simp (maxSteps:=10^7) +contextual -implicitDefEqProofs only[go_sem,seval,Vs,hw,hn,ae,hs,ab,hx,UF,aj,af]
   ·have aa:0<bs.length:=o_
    obtain⟨x,hx⟩:=Zp (l:=bs) (k:=p % bs.length) (Nat.mod_lt _ aa);obtain⟨y,hy⟩:=Zp (l:=bs) (k:=(p*7+3) % bs.length) (Nat.mod_lt _ aa);have ai:(x.toNat:Int)<256:=by have:=x.toNat_lt;omega
    have aq:(y.toNat:Int)<256:=by have:=y.toNat_lt;omega
    have e1:((p:Int)).tmod (bs.length:Int)=((p % bs.length:Nat):Int):=(Int.ofNat_tmod p bs.length).symm;have e2:IntKind.i64.wrap ((p:Int)*7)=((p*7:Nat):Int):=by rw[WB o_ o_];omega
    have e3:IntKind.i64.wrap (((p*7:Nat):Int)+3)=((p*7+3:Nat):Int):=by rw[WB o_ o_];omega
    have e4:((p*7+3:Nat):Int).tmod (bs.length:Int)=(((p*7+3) % bs.length:Nat):Int):=(Int.ofNat_tmod _ _).symm;obtain⟨q,ag,hq⟩:∃ q:Nat,q=p / bs.length∧q≤p:=⟨_,rfl,Nat.div_le_self _ _⟩
    have e5:((p:Int)).tdiv (bs.length:Int)=(q:Int):=by rw[ag];exact(Int.ofNat_tdiv p bs.length).symm
    clear ag;have w1:IntKind.i64.wrap (x.toNat:Int)=(x.toNat:Int):=WB o_ o_;have w2:IntKind.i64.wrap (y.toNat:Int)=(y.toNat:Int):=WB o_ o_;have w3:=wi ((x.toNat:Int)*131) o_ o_;have w4:=wi ((y.toNat:Int)*1117) o_ o_;have w5:=wi ((x.toNat:Int)*131+(y.toNat:Int)*1117) o_ o_;have w6:=wi ((p:Int)*29) o_ o_;have w7:=wi ((x.toNat:Int)*131+(y.toNat:Int)*1117+(p:Int)*29) o_ o_;have w8:=wi ((q:Int)) o_ o_;have w9:=wi ((q:Int)*53) o_ o_;have ah:=wi ((x.toNat:Int)*131+(y.toNat:Int)*1117+(p:Int)*29+(q:Int)*53) o_ o_
    obtain⟨t,ht⟩:∃ t:Int,t=(x.toNat:Int)*131+(y.toNat:Int)*1117+(p:Int)*29+(q:Int)*53:=⟨_,rfl⟩
    have ad:0≤t:=o_
    have ak:t<4611686018427387904:=o_
    have al:0≤t.tdiv 64:=Int.tdiv_nonneg ad o_;have am:t.tdiv 64<4611686018427387904:=by
     rw[Int.tdiv_eq_ediv_of_nonneg ad];omega
    have an:=wi (t.tdiv 64) o_ o_;obtain⟨z,ao,ar,hz⟩:=ZzN ad ak al am;rw[← ht] at ah;refine⟨z.tmod n,?_,Int.tmod_nonneg _ ao,fun _=>Int.tmod_lt_of_pos _ o_⟩;have ap:UJ .xor .i64 .i64 t (t.tdiv 64)=some (.d (J z)):=by simp only[UJ,WI,asD,Zg,Kl,hz]
    refine cE ?_;simp (maxSteps:=10^7) +contextual -implicitDefEqProofs only[go_sem,seval,Vs,hw,hn,ae,hs,ab,UF,af,e1,e2,e3,e4,e5,hx,hy,w1,w2,w3,w4,w5,w6,w7,w8,w9,ah,← ht,an,ap]
open Classical in
noncomputable def QY (bs:List UInt8) (p:Nat) (n:Int):Int:=if h:bs.length≤2000∧p<1099511627776 then (Ziu bs p n h.1 h.2).choose else 0
theorem Qn (bs:List UInt8) (p:Nat) (n:Int) (hb:bs.length≤2000) (hp:p<1099511627776) :
  v_ 67 [.ptr 0 0,(.d (J n))] [.box [.d (.sl (bs.map UF)),(.d (J p))]]=some ((.d (J (QY bs p n))),[.box [.d (.sl (bs.map UF)),(.d (J ((p+1:Nat))))]]):=by
 have h:bs.length≤2000∧p<1099511627776:=⟨hb,hp⟩
 unfold QY;rw[dif_pos h];exact(Ziu bs p n hb hp).choose_spec.1
theorem J7 (bs:List UInt8) (p:Nat) (n:Int):0≤QY bs p n:=by
 unfold QY;split
 ·rename_i h;exact(Ziu bs p n h.1 h.2).choose_spec.2.1
 ·omega
theorem Ziv (bs:List UInt8) (p:Nat) (n:Int) (hn:1≤n):QY bs p n<n:=by
 unfold QY;split
 ·rename_i h;exact(Ziu bs p n h.1 h.2).choose_spec.2.2 hn
 ·omega
theorem ZbZ (bs:List UInt8) (p:Nat) (l:List Int) (hb:bs.length≤2000) (hp:p<1099511627776) (hl:1≤l.length) :
  ∃ v:Int,v∈l∧v_ 34 [.ptr 0 0,.d (.sl (l.map Yi))] [.box [.d (.sl (bs.map UF)),(.d (J p))]]=some ((.d (J v)),[.box [.d (.sl (bs.map UF)),(.d (J ((p+1:Nat))))]]):=by
 have h0:=J7 bs p l.length;have h1:=Ziv bs p l.length o_;obtain⟨i,hi⟩:∃ i:Nat,QY bs p (l.length:Int)=(i:Int):=⟨(QY bs p (l.length:Int)).toNat,o_⟩
 obtain⟨v,hv⟩:=Zp (l:=l) (k:=i) o_;refine⟨v,Kb hv,?_⟩;refine cE ?_;simp (maxSteps:=10^7) +contextual -implicitDefEqProofs only[go_sem,seval,ZhQ,Qn bs p _ hb hp,hi,hv]
theorem Xd (pO pA pP:Int) (pT:Bool) (pK:List D):v_ 196 [.d (.agg [J pO,J pA,J pP,.bool pT,.sl pK])] []=some ((.d (.bool (decide (pO=2∨pO=3)))),[]):=by
 refine cE ?_;simp (maxSteps:=10^7) +contextual -implicitDefEqProofs only[go_sem,seval,ZtU]
theorem V6 (pO pA pP:Int) (pT:Bool) (pK:List D):v_ 245 [.d (.agg [J pO,J pA,J pP,.bool pT,.sl pK])] []=some ((.d (.bool (decide (pO=2∨pO=3)))),[]):=by
 refine cE ?_;simp (maxSteps:=10^7) +contextual -implicitDefEqProofs only[go_sem,seval,ZtV]
theorem Zb0:∀ (n:Nat) (p:Zf),p.nodes≤n→v_ 164 [.d p.enc] []=some ((.d (J (Zv 255 (Q8 p)))),[])
 | 0,.mk o a p t ks,hn=>by simp[Zf.nodes] at hn
 | n+1,.mk o a p t ks,hn=>by
  by_cases ho:o=2∨o=3
  ·by_cases hk:ks.length=2
   ·obtain⟨x,hx⟩:=Zp (l:=ks) (k:=0) o_;obtain⟨y,hy⟩:=Zp (l:=ks) (k:=1) o_;have aa:=Zb0 n x (Zir hn hx);have ab:=Zb0 n y (Zir hn hy);rw[Ztl ho hk hx hy];obtain⟨lx,ae⟩:∃ l,l=Q8 x:=⟨_,rfl⟩
    obtain⟨ly,af⟩:∃ l,l=Q8 y:=⟨_,rfl⟩
    rw[← ae] at aa ⊢;rw[← af] at ab ⊢;have rx:=Za7 255 o_ lx;have ry:=Za7 255 o_ ly;have ad:(ks.length:Int)=2:=o_
    by_cases hp:p=0
    ·cases t with
     | true=>
      have hb:=Zfg 255 o a p true lx ly (by simp);rw[hb];refine cE ?_;simp (maxSteps:=10^7) +contextual -implicitDefEqProofs only[go_sem,seval,QU,Xd,ho,hp]
     | false=>
      subst hp;rw[ZxR];obtain⟨sx,ag⟩:∃ s,s=Zv 255 lx:=⟨_,rfl⟩
      obtain⟨sy,ah⟩:∃ s,s=Zv 255 ly:=⟨_,rfl⟩
      rw[← ag] at aa rx ⊢;rw[← ah] at ab ry ⊢;have w1:=wi (1+sx) o_ o_;have w2:=wi (1+sx+sy) o_ o_;refine cE ?_;simp (maxSteps:=10^7) +contextual -implicitDefEqProofs only[go_sem,seval,QU,Xd,ho,ad];refine ZB Xs Ms ?_;simp (maxSteps:=10^7) +contextual -implicitDefEqProofs only[go_sem,seval,ad,hx,hy,aa,ab,w1,w2];intro h;refine ZB Xs Ms ?_;simp (maxSteps:=10^7) +contextual -implicitDefEqProofs only[go_sem,seval,ad,hx,hy,aa,ab,w1,w2,h];intro h';refine ZB Xs Ms ?_;simp (maxSteps:=10^7) +contextual -implicitDefEqProofs only[go_sem,seval,ad,hx,hy,aa,ab,w1,w2,h,h']
    ·have hb:=Zfg 255 o a p t lx ly (by simp[hp]);rw[hb];refine cE ?_;simp (maxSteps:=10^7) +contextual -implicitDefEqProofs only[go_sem,seval,QU,Xd,ho,hp]
   ·rw[ZmA _ _ _ _ _ ho hk];refine cE ?_;have ai : ¬(ks.length:Int)=2:=o_
    simp (maxSteps:=10^7) +contextual -implicitDefEqProofs only[go_sem,seval,QU,Xd,ho,ai,Zv]
  ·rw[ZqB ho];by_cases h1:ks.length=0∧a=0∧o=1
   ·rw[Kj h1];obtain⟨h1,rfl,rfl⟩:=h1;refine cE ?_;simp (maxSteps:=10^7) +contextual -implicitDefEqProofs only[go_sem,seval,QU,Xd,ho,h1,Zv,BT.cnt];refine ZB Xs Ms ?_;simp (maxSteps:=10^7) +contextual -implicitDefEqProofs only[go_sem,seval,h1]
   ·rw[Ke h1];by_cases h2:ks.length=0∧a=0∧o=0∧p=0∧t=false
    ·rw[Kj h2];obtain⟨h2,rfl,rfl,rfl,rfl⟩:=h2;refine cE ?_;simp (maxSteps:=10^7) +contextual -implicitDefEqProofs only[go_sem,seval,QU,Xd,ho,h2,Zv,BT.cnt];refine ZB Xs Ms ?_;simp (maxSteps:=10^7) +contextual -implicitDefEqProofs only[go_sem,seval,h2]
    ·rw[Ke h2];by_cases c1:ks.length=0
     ·by_cases c2:a=0
      ·by_cases c3:o=1
       ·exact absurd ⟨c1,c2,c3⟩ h1
       ·by_cases c4:o=0
        ·by_cases c5:p=0
         ·cases t with
          | false=>exact absurd ⟨c1,c2,c4,c5,rfl⟩ h2
          | true=>
           refine cE ?_;simp (maxSteps:=10^7) +contextual -implicitDefEqProofs only[go_sem,seval,QU,Xd,ho,c1,c2,c3,c4,c5,Zv]
         ·refine cE ?_;simp (maxSteps:=10^7) +contextual -implicitDefEqProofs only[go_sem,seval,QU,Xd,ho,c1,c2,c3,c4,c5,Zv]
        ·refine cE ?_;simp (maxSteps:=10^7) +contextual -implicitDefEqProofs only[go_sem,seval,QU,Xd,ho,c1,c2,c3,c4,Zv]
      ·refine cE ?_;simp (maxSteps:=10^7) +contextual -implicitDefEqProofs only[go_sem,seval,QU,Xd,ho,c1,c2,Zv]
     ·have aj : ¬(ks.length:Int)=0:=o_
      refine cE ?_;simp (maxSteps:=10^7) +contextual -implicitDefEqProofs only[go_sem,seval,QU,Xd,ho,aj,Zv]
theorem ZrV (p:Zf):v_ 164 [.d p.enc] []=some ((.d (J (Zv 255 (Q8 p)))),[]):=Zb0 _ p (Kp _)
theorem Zog (ps:List Pane) (hl:ps.length<4611686018427387904):v_ 244 [(.d (.sl (ps.map Pane.enc)))] []=some ((.d (.bool (decide (ps.length≤24∧VPs ps)))),[]):=by
 refine cE ?_;simp (maxSteps:=10^7) +contextual -implicitDefEqProofs only[go_sem,seval,ZhW];refine LO (α:=Nat) (fun k=>[(3,.d (J (k:Int)))]) (fun _=>[]) (fun k=>k≤ps.length∧(VPs ps↔VPs (ps.drop k))) (fun k=>ps.length-k) 0 ⟨o_,by simp⟩ ?_;intro k ⟨hk,hp⟩ ih;by_cases aa:k<ps.length
 ·obtain⟨x,hx⟩:=Zp aa;rw[Zwa hx] at hp;have hw:=Zh (k:=k) o_;simp (maxSteps:=10^7) +contextual -implicitDefEqProofs only[go_sem,seval,hx,aa,hw,YP];refine⟨fun h=>ZgH (fun hh=>h (hp.1 hh.2).1),fun h=>ih (k+1) _ ⟨o_,?_⟩ o_ ?_⟩
  ·rw[hp];exact⟨fun hh=>hh.2,fun hh=>⟨h,hh⟩⟩
  ·simp (maxSteps:=10^7) +contextual -implicitDefEqProofs only[go_sem,seval]
 ·have:k=ps.length:=o_
  subst this;simp (maxSteps:=10^7) +contextual -implicitDefEqProofs only[go_sem,seval];have hv:VPs ps:=hp.2 (by simp[VPs]);exact ZaU ⟨fun h=>⟨o_,hv⟩,fun h=>by omega⟩
theorem U0 (kW kH:Int) (kP:List Pane) (hl:kP.length<4611686018427387904):v_ 225 [(.d (.agg [J kW,J kH,.sl (kP.map Pane.enc)]))] []=some ((.d (.bool (decide (VW (Zt.mk kW kH kP))))),[]):=by
 refine cE ?_;simp (maxSteps:=10^7) +contextual -implicitDefEqProofs only[go_sem,seval,Zji,ZI,Zog kP hl];exact ZaU (by simp only[VW,and_assoc])
theorem V7 (kW kH:Int) (kP:List Pane):v_ 181 [(.d (.agg [J kW,J kH,.sl (kP.map Pane.enc)]))] []=some ((.d (.bool (decide (VW (Zt.mk kW kH kP))))),[]):=by
 refine cE ?_;by_cases h0:((((kW<1∨200<kW)∨kH<1)∨200<kH)∨(24:Int)<kP.length)
 ·simp (maxSteps:=10^7) +contextual -implicitDefEqProofs only[go_sem,seval,Zd9,h0];exact ZgH (by simp only[VW];omega)
 ·simp (maxSteps:=10^7) +contextual -implicitDefEqProofs only[go_sem,seval,Zd9,h0];refine LO (α:=Nat) (fun k=>[(32,.d (J (k:Int)))]) (fun _=>[]) (fun k=>k≤kP.length∧(VPs kP↔VPs (kP.drop k))) (fun k=>kP.length-k) 0 ⟨o_,by simp⟩ ?_;intro k ⟨hk,hp⟩ ih;by_cases aa:k<kP.length
  ·obtain⟨x,hx⟩:=Zp aa;rw[Zwa hx] at hp;have hw:=Zh (k:=k) o_;simp (maxSteps:=10^7) +contextual -implicitDefEqProofs only[go_sem,seval,hx,aa,hw,UZ];refine⟨fun h=>ZgH (fun hh=>h (hp.1 hh.2.2.2.2.2).1),fun h=>ih (k+1) _ ⟨o_,?_⟩ o_ ?_⟩
   ·rw[hp];exact⟨fun hh=>hh.2,fun hh=>⟨h,hh⟩⟩
   ·simp (maxSteps:=10^7) +contextual -implicitDefEqProofs only[go_sem,seval,h0]
  ·have:k=kP.length:=o_
   subst this;simp (maxSteps:=10^7) +contextual -implicitDefEqProofs only[go_sem,seval];have hv:VPs kP:=hp.2 (by simp[VPs]);exact ZyH (by simp only[VW];exact⟨o_,o_,o_,o_,o_,hv⟩)
theorem JQ:∀ (n:Nat) (p:Zf),p.nodes≤n→∀ m:Int,-10≤m→m≤255→v_ 128 [.d p.enc,(.d (J m))] []=some ((.d (J (Zv m (Q8 p)))),[])
 | 0,.mk o a p t ks,hn,m,_,_=>by simp[Zf.nodes] at hn
 | n+1,.mk o a p t ks,hn,m,hm1,hm2=>by
  by_cases hm:m<1
  ·rw[ZxS hm];refine cE ?_;simp (maxSteps:=10^7) +contextual -implicitDefEqProofs only[go_sem,seval,ZQ,hm]
  by_cases ho:o=2∨o=3
  ·have al:¬o=0:=o_
   have am:¬o=1:=o_
   by_cases hk:ks.length=2
   ·obtain⟨x,hx⟩:=Zp (l:=ks) (k:=0) o_;obtain⟨y,hy⟩:=Zp (l:=ks) (k:=1) o_;rw[Ztl ho hk hx hy];have aa:(ks.length:Int)=2:=o_
    by_cases hp:p=0
    ·cases t with
     | true=>
      have hb:=Zfg m o a p true (Q8 x) (Q8 y) (by simp);rw[hb];refine cE ?_;rcases ho with ho | ho<;>simp (maxSteps:=10^7) +contextual -implicitDefEqProofs only[go_sem,seval,ZQ,ho,hp,hm,aa]
     | false=>
      subst hp;rw[Zv9];have ag:=JQ n x (Zir hn hx) (m-1) o_ o_;have rx:=Za7 (m-1) o_ (Q8 x);have ab:=JQ n y (Zir hn hy) (m-1-Zv (m-1) (Q8 x)) o_ o_;have ry:=Za7 (m-1-Zv (m-1) (Q8 x)) o_ (Q8 y);obtain⟨sy,ah⟩:∃ s,s=Zv (m-1-Zv (m-1) (Q8 x)) (Q8 y):=⟨_,rfl⟩
      rw[← ah] at ab ry ⊢;obtain⟨sx,ai⟩:∃ s,s=Zv (m-1) (Q8 x):=⟨_,rfl⟩
      rw[← ai] at ag ab rx ry ⊢;clear ai ah;have w0:=wi (m-1) o_ o_;have w1:=wi (m-1-sx) o_ o_;have w2:=wi (1+sx) o_ o_;have w3:=wi (1+sx+sy) o_ o_;refine cE ?_;rcases ho with ho | ho<;>simp (maxSteps:=10^7) +contextual -implicitDefEqProofs only[go_sem,seval,ZQ,ho,hm,aa,hx,hy,ag,ab,w0,w1,w2,w3]
    ·have hb:=Zfg m o a p t (Q8 x) (Q8 y) (by simp[hp]);rw[hb];refine cE ?_;rcases ho with ho | ho<;>simp (maxSteps:=10^7) +contextual -implicitDefEqProofs only[go_sem,seval,ZQ,ho,hp,hm,aa]
   ·rw[ZmA _ _ _ _ _ ho hk];have ak : ¬(ks.length:Int)=2:=o_
    refine cE ?_;rcases ho with ho | ho<;>simp (maxSteps:=10^7) +contextual -implicitDefEqProofs only[go_sem,seval,ZQ,ho,ak,hm,Zv]
  ·rw[ZqB ho];have ad : ¬o=2:=o_
   have ae : ¬o=3:=o_
   have aj : (1:Int)≤m:=o_
   by_cases h1:ks.length=0∧a=0∧o=1
   ·rw[Kj h1];obtain⟨h1,rfl,rfl⟩:=h1;refine cE ?_;simp (maxSteps:=10^7) +contextual -implicitDefEqProofs only[go_sem,seval,ZQ,h1,hm,Zv,BT.cnt,aj]
   ·rw[Ke h1];by_cases h2:ks.length=0∧a=0∧o=0∧p=0∧t=false
    ·rw[Kj h2];obtain⟨h2,rfl,rfl,rfl,rfl⟩:=h2;refine cE ?_;simp (maxSteps:=10^7) +contextual -implicitDefEqProofs only[go_sem,seval,ZQ,h2,hm,Zv,BT.cnt,aj]
    ·rw[Ke h2];by_cases c1:ks.length=0
     ·by_cases c2:a=0
      ·by_cases c3:o=1
       ·exact absurd ⟨c1,c2,c3⟩ h1
       ·by_cases c4:o=0
        ·by_cases c5:p=0
         ·cases t with
          | false=>exact absurd ⟨c1,c2,c4,c5,rfl⟩ h2
          | true=>
           refine cE ?_;simp (maxSteps:=10^7) +contextual -implicitDefEqProofs only[go_sem,seval,ZQ,hm,c1,c2,c3,c4,c5,Zv]
         ·refine cE ?_;simp (maxSteps:=10^7) +contextual -implicitDefEqProofs only[go_sem,seval,ZQ,hm,c1,c2,c3,c4,c5,Zv]
        ·refine cE ?_;simp (maxSteps:=10^7) +contextual -implicitDefEqProofs only[go_sem,seval,ZQ,hm,c1,c2,c3,c4,ad,ae,Zv]
      ·refine cE ?_;by_cases c3:o=1
       ·simp (maxSteps:=10^7) +contextual -implicitDefEqProofs only[go_sem,seval,ZQ,hm,c1,c2,c3,Zv]
       ·by_cases c4:o=0
        ·simp (maxSteps:=10^7) +contextual -implicitDefEqProofs only[go_sem,seval,ZQ,hm,c1,c2,c3,c4,Zv]
        ·simp (maxSteps:=10^7) +contextual -implicitDefEqProofs only[go_sem,seval,ZQ,hm,c1,c2,c3,c4,ad,ae,Zv]
     ·have af : ¬(ks.length:Int)=0:=o_
      refine cE ?_;by_cases c3:o=1
      ·simp (maxSteps:=10^7) +contextual -implicitDefEqProofs only[go_sem,seval,ZQ,hm,af,c3,Zv]
      ·by_cases c4:o=0
       ·simp (maxSteps:=10^7) +contextual -implicitDefEqProofs only[go_sem,seval,ZQ,hm,af,c3,c4,Zv]
       ·simp (maxSteps:=10^7) +contextual -implicitDefEqProofs only[go_sem,seval,ZQ,hm,af,c3,c4,ad,ae,Zv]
theorem ZdB (p:Zf):v_ 86 [.d p.enc] []=some ((.d (J (Zv 255 (Q8 p)))),[]):=by
 have h:=JQ _ p (Kp _) 255 o_ o_;obtain⟨o,a,q,t,ks⟩:=p;rw[Zf.enc_mk] at h ⊢;refine cE ?_;simp (maxSteps:=10^7) +contextual -implicitDefEqProofs only[go_sem,seval,ZlV,h]
theorem Zba (kW kH:Int) (kP:List Pane):v_ 127 [(.d (.agg [J kW,J kH,.sl (kP.map Pane.enc)]))] []=some (.d (.agg [J 0,J 0,J kW,J kH]),[]):=by
 refine cE ?_;simp (maxSteps:=10^7) +contextual -implicitDefEqProofs only[go_sem,seval,Zn7]
theorem ZiY {ps:List Pane} {i:Int} {t:Bool} {w h:Int} {k:Nat} {q:Pane} (hi:i=(k:Int)) (hq:ps[k]?=some q):XD ps i t w h=if t then q.Turns&&decide (¬q.W=q.H)&&decide (q.H=w)&&decide (q.W=h) else decide (q.W=w∧q.H=h):=by
 subst hi;simp[XD,hq]
theorem Zfh {ps:List Pane} {i:Int} {t:Bool} {w h:Int} (hi:i<0∨(ps.length:Int)≤i):XD ps i t w h=false:=by
 unfold XD;rcases hi with hi | hi
 ·have:¬0≤i:=o_
  simp[this]
 ·have:ps[i.toNat]?=none:=KZ o_;simp[this]
theorem Zg9 (kW kH:Int) (kP:List Pane) (i:Int) (t:Bool) (w h:Int):v_ 182 [(.d (.agg [J kW,J kH,.sl (kP.map Pane.enc)])),(.d (J i)),(.d (.bool t)),(.d (J w)),(.d (J h))] []=some ((.d (.bool (XD kP i t w h))),[]):=by
 by_cases h0:i<0
 ·rw[Zfh (.inl h0)];refine cE ?_;simp (maxSteps:=10^7) +contextual -implicitDefEqProofs only[go_sem,seval,WX,h0]
 ·by_cases h1:(kP.length:Int)≤i
  ·rw[Zfh (.inr h1)];refine cE ?_;simp (maxSteps:=10^7) +contextual -implicitDefEqProofs only[go_sem,seval,WX,h0,h1]
  ·obtain⟨n,rfl⟩:∃ n:Nat,i=(n:Int):=⟨i.toNat,o_⟩
   obtain⟨q,hq⟩:=Zp (l:=kP) (k:=n) o_;have hn:¬kP.length≤n:=o_
   have aa : n<kP.length:=o_
   have ab:¬(n:Int)<0:=o_
   rw[ZiY rfl hq];refine cE ?_;cases t
   ·simp (maxSteps:=10^7) +contextual -implicitDefEqProofs only[go_sem,seval,WX,ab,hn,hq,aa]
   ·simp (maxSteps:=10^7) +contextual -implicitDefEqProofs only[go_sem,seval,WX,ab,hn,hq,aa]
theorem ZaE (o a p:Int) (t:Bool) (ks:List D) (gX gY gW gH:Int) (ho:o=2) (h1:R64 (gX+a)) (h2:R64 (gW-a)):v_ 222 [.d (.agg [J o,J a,J p,.bool t,.sl ks]),(.d (.agg [J gX,J gY,J gW,J gH]))] [] =
  some (.tup [.d (.agg [J gX,J gY,J a,J gH]),.d (.agg [J (gX+a),J gY,J (gW-a),J gH])],[]):=by
 have w1:=wi (gX+a) h1.1 h1.2;have w2:=wi (gW-a) h2.1 h2.2;refine cE ?_;simp (maxSteps:=10^7) +contextual -implicitDefEqProofs only[go_sem,seval,Jo,ho,w1,w2]
theorem U1 (o a p:Int) (t:Bool) (ks:List D) (gX gY gW gH:Int) (ho:¬o=2) (h1:R64 (gY+a)) (h2:R64 (gH-a)):v_ 222 [.d (.agg [J o,J a,J p,.bool t,.sl ks]),(.d (.agg [J gX,J gY,J gW,J gH]))] [] =
  some (.tup [.d (.agg [J gX,J gY,J gW,J a]),.d (.agg [J gX,J (gY+a),J gW,J (gH-a)])],[]):=by
 have w1:=wi (gY+a) h1.1 h1.2;have w2:=wi (gH-a) h2.1 h2.2;refine cE ?_;simp (maxSteps:=10^7) +contextual -implicitDefEqProofs only[go_sem,seval,Jo,ho,w1,w2]
def inB (g:Box):Prop:=0≤g.X∧0≤g.Y∧0≤g.W∧0≤g.H∧g.X+g.W≤1000∧g.Y+g.H≤1000
theorem WN (kW kH:Int) (kP:List Pane):∀ (b:BT) (gX gY gW gH:Int),inB (Box.mk gX gY gW gH)→v_ 231 [(.d (.agg [J kW,J kH,.sl (kP.map Pane.enc)])),.d b.plan.enc,(.d (.agg [J gX,J gY,J gW,J gH]))] []=some ((.d (.bool (Xy kP b gW gH))),[])
 | .waste,gX,gY,gW,gH,hg=>by
  simp only[BT.plan,Zf.enc_mk];refine cE ?_;simp (maxSteps:=10^7) +contextual -implicitDefEqProofs only[go_sem,seval,XY,Xy]
 | .pane i t,gX,gY,gW,gH,hg=>by
  simp only[BT.plan,Zf.enc_mk];refine cE ?_;simp (maxSteps:=10^7) +contextual -implicitDefEqProofs only[go_sem,seval,XY,Zg9,Xy]
 | .cut d a l r,gX,gY,gW,gH,hg=>by
  simp only[inB] at hg;simp only[BT.plan,Zf.enc_mk];cases d with
  | true=>
   by_cases h1:a<1
   ·have h2:¬(1≤a∧a≤gW-1):=o_
    refine cE ?_;simp (maxSteps:=10^7) +contextual -implicitDefEqProofs only[go_sem,seval,XY,Xy,Z8,h1,h2]
   ·by_cases h2:gW≤a
    ·have h3:¬(1≤a∧a≤gW-1):=o_
     refine cE ?_;simp (maxSteps:=10^7) +contextual -implicitDefEqProofs only[go_sem,seval,XY,Xy,Z8,h1,h2,h3]
    ·have h3:1≤a∧a≤gW-1:=o_
     have e0:=ZaE 2 a 0 false [l.plan.enc,r.plan.enc] gX gY gW gH rfl ⟨o_,o_⟩ ⟨o_,o_⟩;have e1:=WN kW kH kP l gX gY a gH (by simp only[inB];omega);have e2:=WN kW kH kP r (gX+a) gY (gW-a) gH (by simp only[inB];omega);refine cE ?_;simp (maxSteps:=10^7) +contextual -implicitDefEqProofs only[go_sem,seval,XY,Xy,Z8,h1,h2,h3,e0,e1,e2]
  | false=>
   by_cases h1:a<1
   ·have h2:¬(1≤a∧a≤gH-1):=o_
    refine cE ?_;simp (maxSteps:=10^7) +contextual -implicitDefEqProofs only[go_sem,seval,XY,Xy,Z8,h1,h2]
   ·by_cases h2:gH≤a
    ·have h3:¬(1≤a∧a≤gH-1):=o_
     refine cE ?_;simp (maxSteps:=10^7) +contextual -implicitDefEqProofs only[go_sem,seval,XY,Xy,Z8,h1,h2,h3]
    ·have h3:1≤a∧a≤gH-1:=o_
     have e0:=U1 3 a 0 false [l.plan.enc,r.plan.enc] gX gY gW gH (by decide) ⟨o_,o_⟩ ⟨o_,o_⟩;have e1:=WN kW kH kP l gX gY gW a (by simp only[inB];omega);have e2:=WN kW kH kP r gX (gY+a) gW (gH-a) (by simp only[inB];omega);refine cE ?_;simp (maxSteps:=10^7) +contextual -implicitDefEqProofs only[go_sem,seval,XY,Xy,Z8,h1,h2,h3,e0,e1,e2]
theorem Zoh (kW kH:Int) (kP:List Pane) (i:Int) (t:Bool) (w h:Int) (hl:kP.length<4611686018427387904):v_ 226 [(.d (.agg [J kW,J kH,.sl (kP.map Pane.enc)])),.d (BT.pane i t).plan.enc,(.d (J w)),(.d (J h))] []=some ((.d (.bool (XD kP i t w h))),[]):=by
 have hw:=wi ((kP.length:Int)-1) o_ o_;simp only[BT.plan,Zf.enc_mk];by_cases h0:0≤i∧i≤(kP.length:Int)-1
 ·obtain⟨n,rfl⟩:∃ n:Nat,i=(n:Int):=⟨i.toNat,o_⟩
  obtain⟨q,hq⟩:=Zp (l:=kP) (k:=n) o_;rw[ZiY rfl hq];refine cE ?_;cases t
  ·simp (maxSteps:=10^7) +contextual -implicitDefEqProofs only[go_sem,seval,XW,ZI,h0,hw,hq]
  ·simp (maxSteps:=10^7) +contextual -implicitDefEqProofs only[go_sem,seval,XW,ZI,h0,hw,hq]
 ·rw[Zfh o_];refine cE ?_;simp (maxSteps:=10^7) +contextual -implicitDefEqProofs only[go_sem,seval,XW,ZI,h0,hw]
theorem WO (kW kH:Int) (kP:List Pane) (hl:kP.length<4611686018427387904):∀ (b:BT) (w h:Int),0≤w→w≤1000→0≤h→h≤1000→v_ 226 [(.d (.agg [J kW,J kH,.sl (kP.map Pane.enc)])),.d b.plan.enc,(.d (J w)),(.d (J h))] []=some ((.d (.bool (Xy kP b w h))),[])
 | .waste,w,h,hw0,hw1,hh0,hh1=>by
  simp only[BT.plan,Zf.enc_mk];refine cE ?_;simp (maxSteps:=10^7) +contextual -implicitDefEqProofs only[go_sem,seval,XW,Xy]
 | .pane i t,w,h,hw0,hw1,hh0,hh1=>Zoh kW kH kP i t w h hl
 | .cut d a l r,w,h,hw0,hw1,hh0,hh1=>by
  have w1:=wi (w-1) o_ o_;have w2:=wi (h-1) o_ o_;simp only[BT.plan,Zf.enc_mk];cases d with
  | true=>
   by_cases h3:1≤a∧a≤w-1
   ·have w3:=wi (w-a) o_ o_;have e1:=WO kW kH kP hl l a h o_ o_ hh0 hh1;have e2:=WO kW kH kP hl r (w-a) h o_ o_ hh0 hh1;refine cE ?_;simp (maxSteps:=10^7) +contextual -implicitDefEqProofs only[go_sem,seval,XW,Xy,Z8,h3,ZI,w1,w2,w3,e1,e2]
   ·refine cE ?_;simp (maxSteps:=10^7) +contextual -implicitDefEqProofs only[go_sem,seval,XW,Xy,Z8,h3,ZI,w1,w2]
  | false=>
   by_cases h3:1≤a∧a≤h-1
   ·have w3:=wi (h-a) o_ o_;have e1:=WO kW kH kP hl l w a hw0 hw1 o_ o_;have e2:=WO kW kH kP hl r w (h-a) hw0 hw1 o_ o_;refine cE ?_;simp (maxSteps:=10^7) +contextual -implicitDefEqProofs only[go_sem,seval,XW,Xy,Z8,h3,ZI,w1,w2,w3,e1,e2]
   ·refine cE ?_;simp (maxSteps:=10^7) +contextual -implicitDefEqProofs only[go_sem,seval,XW,Xy,Z8,h3,ZI,w1,w2]
theorem U3 (kW kH:Int) (kP:List Pane) (p:Zf):v_ 205 [(.d (.agg [J kW,J kH,.sl (kP.map Pane.enc)])),.d p.enc] []=some ((.d (.bool (YO (Zt.mk kW kH kP) p))),[]):=by
 have hs:=ZdB p;unfold YO;cases hb:Q8 p with
 | none=>
  obtain⟨o,a,q,t,ks⟩:=p;rw[hb] at hs;rw[Zf.enc_mk] at hs ⊢;refine cE ?_;simp (maxSteps:=10^7) +contextual -implicitDefEqProofs only[go_sem,seval,WV,V7,hs,Zv]
 | some b=>
  have hp:=Zbp hb;rw[hb] at hs;have hc:=b.cnt_pos;have hz:=XC 255 b;by_cases hv:VW (Zt.mk kW kH kP)
  ·have aa:=hv;simp only[VW] at aa;have hf:=WN kW kH kP b 0 0 kW kH (by simp only[inB];omega);rw[← hp] at hf;obtain⟨o,a,q,t,ks⟩:=p;rw[Zf.enc_mk] at hs hf ⊢;by_cases h2:b.cnt≤255
   ·have h3:Zv 255 (some b)=b.cnt:=o_
    have h4:(0:Int)<b.cnt:=o_
    rw[h3] at hs;refine cE ?_;simp (maxSteps:=10^7) +contextual -implicitDefEqProofs only[go_sem,seval,WV,V7,Zba,hs,hf,hv,h2,h4]
   ·have h3:Zv 255 (some b)=-1:=o_
    rw[h3] at hs;refine cE ?_;simp (maxSteps:=10^7) +contextual -implicitDefEqProofs only[go_sem,seval,WV,V7,hs,hv,h2]
  ·obtain⟨o,a,q,t,ks⟩:=p;rw[Zf.enc_mk] at hs ⊢;refine cE ?_;simp (maxSteps:=10^7) +contextual -implicitDefEqProofs only[go_sem,seval,WV,V7,hs,hv]
theorem Zha (kW kH:Int) (kP:List Pane) (p:Zf) (hl:kP.length<4611686018427387904):v_ 197 [(.d (.agg [J kW,J kH,.sl (kP.map Pane.enc)])),.d p.enc] []=some ((.d (.bool (YO (Zt.mk kW kH kP) p))),[]):=by
 have hs:=ZrV p;unfold YO;cases hb:Q8 p with
 | none=>
  obtain⟨o,a,q,t,ks⟩:=p;rw[hb] at hs;rw[Zf.enc_mk] at hs ⊢;refine cE ?_;simp (maxSteps:=10^7) +contextual -implicitDefEqProofs only[go_sem,seval,WZ,U0 kW kH kP hl,hs,Zv]
 | some b=>
  have hp:=Zbp hb;rw[hb] at hs;have hc:=b.cnt_pos;have hz:=XC 255 b;by_cases hv:VW (Zt.mk kW kH kP)
  ·have aa:=hv;simp only[VW] at aa;have hf:=WO kW kH kP hl b kW kH o_ o_ o_ o_;rw[← hp] at hf;obtain⟨o,a,q,t,ks⟩:=p;rw[Zf.enc_mk] at hs hf ⊢;by_cases h2:b.cnt≤255
   ·have h3:Zv 255 (some b)=b.cnt:=o_
    have h4:(0:Int)<b.cnt:=o_
    rw[h3] at hs;refine cE ?_;simp (maxSteps:=10^7) +contextual -implicitDefEqProofs only[go_sem,seval,WZ,U0 kW kH kP hl,hs,hf,hv,h2,h4]
   ·have h3:Zv 255 (some b)=-1:=o_
    rw[h3] at hs;refine cE ?_;simp (maxSteps:=10^7) +contextual -implicitDefEqProofs only[go_sem,seval,WZ,U0 kW kH kP hl,hs,hv,h2]
  ·obtain⟨o,a,q,t,ks⟩:=p;rw[Zf.enc_mk] at hs ⊢;refine cE ?_;simp (maxSteps:=10^7) +contextual -implicitDefEqProofs only[go_sem,seval,WZ,U0 kW kH kP hl,hs,hv]
theorem aF {α:Type} {l:List α} {g:α→D} (h:∀ x,(g x).flat=true):Ju D.flat (l.map g)=true:=by
 induction l with
 | nil=>rfl
 | cons x l ih=>simp[Ju,h,ih]
def plO:List Zf→Zk
 | []=>.row 5 [] true false
 | k :: r=>.tree 5 5 ((k :: r).map Zf.enc) none
@[go_sem] theorem Zy0:plO []=.row 5 [] true false:=rfl
@[go_sem] theorem plO_cons (k:Zf) (r:List Zf):plO (k :: r)=.tree 5 5 ((k :: r).map Zf.enc) none:=rfl
theorem Zfi:∀ {ks:List Zf},ks≠[]→plO ks=.tree 5 5 (ks.map Zf.enc) none
 | [],h=>absurd rfl h
 | _ :: _,_=>rfl
end Go.Proofs.YtfnegoimdljanaaGreatDoor
