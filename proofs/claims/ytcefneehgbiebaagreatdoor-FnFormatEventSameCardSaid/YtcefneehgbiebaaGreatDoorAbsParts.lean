/- Own text. -/
import Derived.Test.YtcefneehgbiebaaGreatDoorAbsLib
set_option linter.unusedVariables false
set_option linter.unusedSimpArgs false
namespace Go.Abs.L
open Go Go.Abs Go.Abs.E
inductive BT where
 | waste
 | pane (i:Int) (t:Bool)
 | cut (d:Bool) (a:Int) (l r:BT)
deriving DecidableEq,Inhabited
def VX (d:Bool):Int:=if d then 2 else 3
def BT.plan:BT→Zf
 | .waste=>.mk 0 0 0 false []
 | .pane i t=>.mk 1 0 i t []
 | .cut d a l r=>.mk (VX d) a 0 false [l.plan,r.plan]
def BT.cnt:BT→Nat
 | .waste=>1
 | .pane _ _=>1
 | .cut _ _ l r=>1+l.cnt+r.cnt
theorem BT.cnt_pos (b:BT):1≤b.cnt:=by cases b<;>simp[BT.cnt]<;>omega
def Zf.nodes:Zf→Nat
 | .mk _ _ _ _ ks=>1+nodesL ks
where nodesL:List Zf→Nat
 | []=>0
 | p :: r=>Zf.nodes p+nodesL r
def Zff (o a p:Int) (t:Bool) (l r:Option BT):Option BT:=match l,r with
 | some x,some y=>if p=0∧t=false then some (.cut (decide (o=2)) a x y) else none
 | _,_=>none
mutual
def Q6:Zf→Option BT
 | .mk o a p t ks=>if o=2∨o=3 then ZuM o a p t ks else
   if ks.length=0∧a=0∧o=1 then some (.pane p t) else
   if ks.length=0∧a=0∧o=0∧p=0∧t=false then some .waste else none
def ZuM (o a p:Int) (t:Bool):List Zf→Option BT
 | []=>none
 | x :: r=>ZxA o a p t (Q6 x) r
def ZxA (o a p:Int) (t:Bool) (l:Option BT):List Zf→Option BT
 | []=>none
 | y :: r=>match r with
  | []=>Zff o a p t l (Q6 y)
  | _=>none
end
theorem Zoe (o a p:Int) (t:Bool) (x y:Zf) (ho:o=2∨o=3):Q6 (.mk o a p t [x,y])=Zff o a p t (Q6 x) (Q6 y):=by
 simp[Q6,ZuM,ZxA,ho]
theorem ZkI (o a p:Int) (t:Bool) (ks:List Zf) (ho:o=2∨o=3) (hk:ks.length≠2):Q6 (.mk o a p t ks)=none:=by
 match ks,hk with
 | [],_=>simp[Q6,ZuM,ho]
 | [x],_=>simp[Q6,ZuM,ZxA,ho]
 | [x,y],h=>simp at h
 | x :: y :: z :: r,_=>simp[Q6,ZuM,ZxA,ho]
theorem ZhB:∀ b:BT,Q6 b.plan=some b
 | .waste=>by simp[BT.plan,Q6]
 | .pane i t=>by simp[BT.plan,Q6]
 | .cut d a l r=>by
  rw[BT.plan,Zoe _ _ _ _ _ _ (by cases d<;>simp[VX]),ZhB l,ZhB r];cases d<;>simp[Zff,VX]
theorem Zfg:∀ (n:Nat) (p:Zf) (b:BT),p.nodes≤n→Q6 p=some b→p=b.plan
 | 0,.mk o a p t ks,b,hn,_=>by simp[Zf.nodes] at hn
 | n+1,.mk o a p t ks,b,hn,h=>by
  by_cases ho:o=2∨o=3
  ·by_cases hk:ks.length=2
   ·match ks,hk with
    | [x,y],_=>
     rw[Zoe _ _ _ _ _ _ ho] at h;simp only[Zf.nodes,Zf.nodes.nodesL] at hn;cases hx:Q6 x with
     | none=>simp[hx,Zff] at h
     | some bx=>
      cases hy:Q6 y with
      | none=>simp[hx,hy,Zff] at h
      | some bY=>
       have e1:=Zfg n x bx (by omega) hx;have e2:=Zfg n y bY (by omega) hy;simp only[hx,hy,Zff] at h;split at h
       ·rename_i hc;cases h;obtain⟨rfl,rfl⟩:=hc;rw[BT.plan,← e1,← e2];rcases ho with rfl | rfl<;>rfl
       ·cases h
   ·rw[ZkI _ _ _ _ _ ho hk] at h;cases h
  ·simp only[Q6,ho,Ko] at h;split at h
   ·rename_i hc;cases h;obtain⟨h1,rfl,rfl⟩:=hc;cases ks with
    | nil=>rfl
    | cons x r=>simp at h1
   ·split at h
    ·rename_i hc;cases h;obtain⟨h1,rfl,rfl,rfl,rfl⟩:=hc;cases ks with
     | nil=>rfl
     | cons x r=>simp at h1
    ·cases h
theorem ZaE {p:Zf} {b:BT} (h:Q6 p=some b):p=b.plan:=Zfg _ p b (Kr _) h
theorem ZrR {o a p:Int} {t:Bool} {ks:List Zf} {x y:Zf} (ho:o=2∨o=3) (hk:ks.length=2) (h0:ks[0]?=some x) (h1:ks[1]?=some y):Q6 (.mk o a p t ks)=Zff o a p t (Q6 x) (Q6 y):=by
 match ks,hk with
 | [x',y'],_=>
  simp at h0 h1;subst h0;subst h1;exact Zoe _ _ _ _ _ _ ho
theorem Zof:∀ {ks:List Zf} {i:Nat} {x:Zf},ks[i]?=some x→x.nodes≤Zf.nodes.nodesL ks
 | [],i,x,h=>by simp at h
 | y :: ks,0,x,h=>by simp at h;subst h;simp[Zf.nodes.nodesL]
 | y :: ks,i+1,x,h=>by
  have:=Zof (ks:=ks) (i:=i) (x:=x) (by simpa using h);simp only[Zf.nodes.nodesL];omega
theorem ZhC {o a p:Int} {t:Bool} {ks:List Zf} {i:Nat} {x:Zf} {n:Nat} (hn:(Zf.mk o a p t ks).nodes≤n+1) (h:ks[i]?=some x):x.nodes≤n:=by
 have:=Zof h;simp only[Zf.nodes] at hn;omega
theorem Zf.enc_len (x:Zf):(Zf.enc x).cells.length=5:=by
 obtain⟨o,a,p,t,k⟩:=x;rw[Zf.enc_mk];rfl
theorem Zf.enc_agg (x:Zf):D.agg (Zf.enc x).cells=Zf.enc x:=by
 obtain⟨o,a,p,t,k⟩:=x;rw[Zf.enc_mk];rfl
theorem Zf.take_enc (x:Zf):(Zf.enc x).cells.take 5=(Zf.enc x).cells:=KH (by rw[Zf.enc_len x];omega)
attribute [go_sem] Zf.enc_len Zf.enc_agg Zf.take_enc
theorem Zog {o a p:Int} {t:Bool} {ks:List Zf} (ho:¬(o=2∨o=3)):Q6 (.mk o a p t ks)=if ks.length=0∧a=0∧o=1 then some (.pane p t) else
   if ks.length=0∧a=0∧o=0∧p=0∧t=false then some .waste else none:=by
 simp only[Q6,ho,Ko]
def Zw (m:Int):Option BT→Int
 | some b=>if (b.cnt:Int)≤m then (b.cnt:Int) else -1
 | none=>-1
theorem Zb3 (m:Int) (h0:0≤m) (b:Option BT) : -1≤Zw m b∧Zw m b≤m∧Zw m b≠0:=by
 cases b with
 | none=>simp[Zw];omega
 | some b=>
  have:=b.cnt_pos;simp only[Zw];split<;>omega
theorem XI (m:Int) (b:BT):((b.cnt:Int)≤m∧Zw m (some b)=b.cnt)∨(m<(b.cnt:Int)∧Zw m (some b)=-1):=by
 unfold Zw;by_cases h:(b.cnt:Int)≤m
 ·left;exact⟨h,Ki h⟩
 ·right;exact⟨by omega,Kd h⟩
theorem Zfh (m o a p:Int) (t:Bool) (l r:Option BT) (h:¬(p=0∧t=false)):Zw m (Zff o a p t l r)=-1:=by
 cases l with
 | none=>rfl
 | some x=>cases r with
  | none=>rfl
  | some y=>simp only[Zff,Kd h,Zw]
theorem Zwj (m o a:Int) (l r:Option BT):Zw m (Zff o a 0 false l r)=if Zw m l<0∨Zw m r<0∨m<1+Zw m l+Zw m r then -1 else 1+Zw m l+Zw m r:=by
 cases l with
 | none=>simp[Zff,Zw]
 | some x=>cases r with
  | none=>simp[Zff,Zw]
  | some y=>
   have h1:=x.cnt_pos;have h2:=y.cnt_pos;have e:(BT.cut (decide (o=2)) a x y).cnt=1+x.cnt+y.cnt:=rfl;have e0:Zff o a 0 false (some x) (some y)=some (BT.cut (decide (o=2)) a x y):=by simp[Zff]
   rw[e0];have hx:=XI m x;have hy:=XI m y;have hc:=XI m (BT.cut (decide (o=2)) a x y);rw[e] at hc;generalize Zw m (some x)=sx at *;generalize Zw m (some y)=sy at *;generalize Zw m (some (BT.cut (decide (o=2)) a x y))=sc at *;split<;>omega
theorem ZuN (m o a:Int) (l r:Option BT):Zw m (Zff o a 0 false l r)=if Zw (m-1) l<0∨Zw (m-1-Zw (m-1) l) r<0 then -1 else 1+Zw (m-1) l+Zw (m-1-Zw (m-1) l) r:=by
 cases l with
 | none=>simp[Zff,Zw]
 | some x=>cases r with
  | none=>simp[Zff,Zw]
  | some y=>
   have h1:=x.cnt_pos;have h2:=y.cnt_pos;have e:(BT.cut (decide (o=2)) a x y).cnt=1+x.cnt+y.cnt:=rfl;have e0:Zff o a 0 false (some x) (some y)=some (BT.cut (decide (o=2)) a x y):=by simp[Zff]
   rw[e0];have hx:=XI (m-1) x;have hy:=XI (m-1-Zw (m-1) (some x)) y;have hc:=XI m (BT.cut (decide (o=2)) a x y);rw[e] at hc;generalize Zw (m-1-Zw (m-1) (some x)) (some y)=sy at *;generalize Zw (m-1) (some x)=sx at *;generalize Zw m (some (BT.cut (decide (o=2)) a x y))=sc at *;split<;>omega
theorem Zwk {m:Int} (h:m<1) (b:Option BT):Zw m b=-1:=by
 cases b with
 | none=>rfl
 | some b=>
  have:=b.cnt_pos;have:=XI m b;omega
def JG (ps:List Pane) (i:Int) (t:Bool) (w h:Int):Bool:=decide (0≤i)&&(match ps[i.toNat]? with
 | some q=>if t then q.Turns&&decide (¬q.W=q.H)&&decide (q.H=w)&&decide (q.W=h) else decide (q.W=w∧q.H=h)
 | none=>false)
def X3 (ps:List Pane):BT→Int→Int→Bool
 | .waste,_,_=>true
 | .pane i t,w,h=>JG ps i t w h
 | .cut d a l r,w,h=>if d then decide (1≤a∧a≤w-1)&&X3 ps l a h&&X3 ps r (w-a) h
   else decide (1≤a∧a≤h-1)&&X3 ps l w a&&X3 ps r w (h-a)
def VPs (ps:List Pane):Prop:=∀ q∈ps,VP q
instance (ps:List Pane):Decidable (VPs ps):=by unfold VPs;infer_instance
def VW (k:ZF):Prop:=1≤k.W∧k.W≤200∧1≤k.H∧k.H≤200∧k.Panes.length≤24∧VPs k.Panes
instance (k:ZF):Decidable (VW k):=by unfold VW;infer_instance
theorem ZuO {ps:List Pane} {k:Nat} {x:Pane} (hx:ps[k]?=some x):VPs (ps.drop k)↔VP x∧VPs (ps.drop (k+1)):=by
 obtain⟨h1,h2⟩:=Kb.1 hx;rw[Kw h1,h2];simp[VPs]
end Go.Abs.L
set_option linter.unusedVariables false
set_option linter.unusedSimpArgs false
namespace Go.Abs.L
open Go Go.Abs Go.Abs.E
structure Part where
 plan:Zf
 box:Box
def Part.enc (p:Part):D:=.agg (p.plan.enc.cells++[.int .i64 p.box.X,.int .i64 p.box.Y,.int .i64 p.box.W,.int .i64 p.box.H])
@[go_sem] theorem Part.enc_mk (o a p:Int) (t:Bool) (ks:List Zf) (x y w h:Int):Part.enc ⟨.mk o a p t ks,⟨x,y,w,h⟩⟩ =
  .agg [.int .i64 o,.int .i64 a,.int .i64 p,.bool t,.sl (ks.map Zf.enc),.int .i64 x,.int .i64 y,.int .i64 w,.int .i64 h]:=by
 simp only[Part.enc,Zf.enc_mk];rfl
theorem Part.enc_len (p:Part):(Part.enc p).cells.length=9:=by
 show (p.plan.enc.cells++_).length=9;rw[Kt,Zf.enc_len];rfl
@[go_sem] theorem uni_Part (l:List Part):uni 9 (l.map Part.enc)=True:=eq_true (Zb0 l Part.enc_len)
def pt:BT→Int→Int→Int→Int→List Part
 | .waste,x,y,w,h=>[⟨BT.waste.plan,⟨x,y,w,h⟩⟩]
 | .pane i t,x,y,w,h=>[⟨(BT.pane i t).plan,⟨x,y,w,h⟩⟩]
 | .cut d a l r,x,y,w,h=>⟨(BT.cut d a l r).plan,⟨x,y,w,h⟩⟩ :: if d then pt l x y a h++pt r (x+a) y (w-a) h else pt l x y w a++pt r x (y+a) w (h-a)
def sp:BT→Int→Int→Int→Int→List Place
 | .waste,x,y,w,h=>[⟨-1,false,⟨x,y,w,h⟩⟩]
 | .pane i t,x,y,w,h=>[⟨i,t,⟨x,y,w,h⟩⟩]
 | .cut d a l r,x,y,w,h=>if d then sp l x y a h++sp r (x+a) y (w-a) h else sp l x y w a++sp r x (y+a) w (h-a)
def plc:BT→Int→Int→Int→Int→List Place
 | .waste,x,y,w,h=>[]
 | .pane i t,x,y,w,h=>[⟨i,t,⟨x,y,w,h⟩⟩]
 | .cut d a l r,x,y,w,h=>if d then plc l x y a h++plc r (x+a) y (w-a) h else plc l x y w a++plc r x (y+a) w (h-a)
def wst:BT→Int→Int→Int→Int→List Box
 | .waste,x,y,w,h=>[⟨x,y,w,h⟩]
 | .pane i t,x,y,w,h=>[]
 | .cut d a l r,x,y,w,h=>if d then wst l x y a h++wst r (x+a) y (w-a) h else wst l x y w a++wst r x (y+a) w (h-a)
def PN:BT→Prop
 | .waste=>True
 | .pane i _=>0≤i
 | .cut _ _ l r=>PN l∧PN r
def opP:Zf→Int
 | .mk o _ _ _ _=>o
def Xx (q:Part):Option Place:=match q.plan with
 | .mk o _ p t _=>if o=1 then some ⟨p,t,q.box⟩ else none
def XY (q:Part):Option Box:=match q.plan with
 | .mk o _ _ _ _=>if o=0 then some q.box else none
theorem V6:∀ (b:BT) (x y w h:Int),(pt b x y w h).filterMap Xx=plc b x y w h
 | .waste,x,y,w,h=>rfl
 | .pane i t,x,y,w,h=>rfl
 | .cut d a l r,x,y,w,h=>by
  have e:Xx ⟨(BT.cut d a l r).plan,⟨x,y,w,h⟩⟩=none:=by cases d<;>rfl
  cases d<;>simp[pt,plc,Ls,K6,e,V6]
theorem Zex:∀ (b:BT) (x y w h:Int),(pt b x y w h).filterMap XY=wst b x y w h
 | .waste,x,y,w,h=>rfl
 | .pane i t,x,y,w,h=>rfl
 | .cut d a l r,x,y,w,h=>by
  have e:XY ⟨(BT.cut d a l r).plan,⟨x,y,w,h⟩⟩=none:=by cases d<;>rfl
  cases d<;>simp[pt,wst,Ls,K6,e,Zex]
def Zdp (q:Place):Option Place:=if 0≤q.Pane then some q else none
def Zdq (q:Place):Option Box:=if q.Pane<0 then some q.Box else none
theorem ZkJ:∀ (b:BT) (x y w h:Int),PN b→(sp b x y w h).filterMap Zdp=plc b x y w h
 | .waste,x,y,w,h,_=>rfl
 | .pane i t,x,y,w,h,hp=>by
  have hp:0≤i:=hp;simp[sp,plc,Zdp,hp]
 | .cut d a l r,x,y,w,h,hp=>by
  cases d<;>simp[sp,plc,Ls,ZkJ l _ _ _ _ hp.1,ZkJ r _ _ _ _ hp.2]
theorem ZkK:∀ (b:BT) (x y w h:Int),PN b→(sp b x y w h).filterMap Zdq=wst b x y w h
 | .waste,x,y,w,h,_=>rfl
 | .pane i t,x,y,w,h,hp=>by
  have hp:¬i<0:=by have:0≤i:=hp;omega
  simp[sp,wst,Zdq,hp]
 | .cut d a l r,x,y,w,h,hp=>by
  cases d<;>simp[sp,wst,Ls,ZkK l _ _ _ _ hp.1,ZkK r _ _ _ _ hp.2]
theorem JH:∀ (b:BT) (x y w h:Int),(pt b x y w h).length=b.cnt
 | .waste,x,y,w,h=>rfl
 | .pane i t,x,y,w,h=>rfl
 | .cut d a l r,x,y,w,h=>by
  cases d<;>simp[pt,BT.cnt,JH]<;>omega
theorem ZdI:∀ (b:BT) (x y w h:Int),(sp b x y w h).length≤b.cnt
 | .waste,x,y,w,h=>by simp[sp,BT.cnt]
 | .pane i t,x,y,w,h=>by simp[sp,BT.cnt]
 | .cut d a l r,x,y,w,h=>by
  cases d
  ·have h1:=ZdI l x y w a;have h2:=ZdI r x (y+a) w (h-a);simp[sp,BT.cnt];omega
  ·have h1:=ZdI l x y a h;have h2:=ZdI r (x+a) y (w-a) h;simp[sp,BT.cnt];omega
theorem Za2 {α β:Type} {l:List α} {f:α→Option β} {k:Nat} {x:α} (hx:l[k]?=some x):(l.take (k+1)).filterMap f=(l.take k).filterMap f++(f x).toList:=by
 obtain⟨h1,h2⟩:=Kb.1 hx;rw[Lo h1,h2,Ls];cases hf:f x<;>simp[hf]
theorem ZhD {ps:List Pane}:∀ {b:BT} {w h:Int},X3 ps b w h=true→PN b
 | .waste,_,_,_=>trivial
 | .pane i t,w,h,hf=>by
  simp only[X3,JG,Ke,Kn] at hf;exact hf.1
 | .cut d a l r,w,h,hf=>by
  cases d
  ·simp only[X3,Ke,Ka,Ko] at hf;exact⟨ZhD hf.1.2,ZhD hf.2⟩
  ·simp only[X3,Ke,Km] at hf;exact⟨ZhD hf.1.2,ZhD hf.2⟩
def QH (k:ZF) (p:Zf):List Part:=match Q6 p with
 | some b=>if decide (VW k)&&decide (b.cnt≤255)&&X3 k.Panes b k.W k.H then pt b 0 0 k.W k.H else []
 | none=>[]
def Vx (k:ZF) (p:Zf):Bool:=match Q6 p with
 | some b=>decide (VW k)&&decide (b.cnt≤255)&&X3 k.Panes b k.W k.H
 | none=>false
theorem Xq {k:ZF} {p:Zf} (h:Vx k p=true):∃ b,Q6 p=some b∧p=b.plan∧VW k∧b.cnt≤255∧X3 k.Panes b k.W k.H=true∧QH k p=pt b 0 0 k.W k.H:=by
 have h':=h;unfold Vx at h;split at h
 ·rename_i b hb;refine⟨b,hb,ZaE hb,?_⟩;unfold QH;rw[hb];dsimp only;rw[Ki h];simp only[Ke,Kn] at h;exact⟨h.1.1,h.1.2,h.2,rfl⟩
 ·cases h
theorem Zey {α:Type} {l:List α} {k:Nat} {x:α} (hx:l[k]?=some x) (P:α→Prop):(∀ y∈l.drop k,P y)↔P x∧∀ y∈l.drop (k+1),P y:=by
 obtain⟨h1,h2⟩:=Kb.1 hx;rw[Kw h1,h2];simp
def ZcD (w h:Int) (f:Box):Prop:=VB f∧Wl f ⟨0,0,w,h⟩
instance (w h:Int) (f:Box):Decidable (ZcD w h f):=by unfold ZcD;infer_instance
def VPc (q:Zb):Prop:=(1≤q.Label∧q.Label≤9999∧1≤q.W∧q.W≤200∧1≤q.H∧q.H≤200∧q.Flaws.length≤6)∧∀ f∈q.Flaws,ZcD q.W q.H f
instance (q:Zb):Decidable (VPc q):=by unfold VPc;infer_instance
def Qg (fs:List Box) (b:Box):Prop:=∀ f∈fs,¬Up f b
instance (fs:List Box) (b:Box):Decidable (Qg fs b):=by unfold Qg;infer_instance
def Wt (q:Zb) (k:ZF) (p:Zf):Prop:=Vx k p=true∧k.W=q.W∧k.H=q.H∧∀ c∈(QH k p).filterMap Xx,Qg q.Flaws c.Box
instance (q:Zb) (k:ZF) (p:Zf):Decidable (Wt q k p):=by unfold Wt;infer_instance
def ZiH (x y w h:Int) (c:Box):Prop:=1≤c.W∧1≤c.H∧x≤c.X∧y≤c.Y∧c.X+c.W≤x+w∧c.Y+c.H≤y+h
theorem Zoh {ps:List Pane}:∀ {b:BT} {x y w h:Int},X3 ps b w h=true→1≤w→1≤h→∀ c∈plc b x y w h,ZiH x y w h c.Box
 | .waste,x,y,w,h,hf,h1,h2,c,hc=>by simp[plc] at hc
 | .pane i t,x,y,w,h,hf,h1,h2,c,hc=>by
  simp only[plc,KA] at hc;subst hc;simp only[ZiH];omega
 | .cut d a l r,x,y,w,h,hf,h1,h2,c,hc=>by
  cases d
  ·simp only[X3,Ke,Ka,Ko,Kn] at hf;simp only[plc,Ka,Ko,Kg] at hc;rcases hc with hc | hc
   ·have:=Zoh hf.1.2 (by omega) (by omega) c hc;simp only[ZiH] at this ⊢;omega
   ·have:=Zoh hf.2 (by omega) (by omega) c hc;simp only[ZiH] at this ⊢;omega
  ·simp only[X3,Ke,Km,Kn] at hf;simp only[plc,Km,Kg] at hc;rcases hc with hc | hc
   ·have:=Zoh hf.1.2 (by omega) (by omega) c hc;simp only[ZiH] at this ⊢;omega
   ·have:=Zoh hf.2 (by omega) (by omega) c hc;simp only[ZiH] at this ⊢;omega
theorem ZkL {ps:List Pane}:∀ {b:BT} {x y w h:Int},X3 ps b w h=true→1≤w→1≤h→∀ c∈wst b x y w h,ZiH x y w h c
 | .waste,x,y,w,h,hf,h1,h2,c,hc=>by
  simp only[wst,KA] at hc;subst hc;simp only[ZiH];omega
 | .pane i t,x,y,w,h,hf,h1,h2,c,hc=>by simp[wst] at hc
 | .cut d a l r,x,y,w,h,hf,h1,h2,c,hc=>by
  cases d
  ·simp only[X3,Ke,Ka,Ko,Kn] at hf;simp only[wst,Ka,Ko,Kg] at hc;rcases hc with hc | hc
   ·have:=ZkL hf.1.2 (by omega) (by omega) c hc;simp only[ZiH] at this ⊢;omega
   ·have:=ZkL hf.2 (by omega) (by omega) c hc;simp only[ZiH] at this ⊢;omega
  ·simp only[X3,Ke,Km,Kn] at hf;simp only[wst,Km,Kg] at hc;rcases hc with hc | hc
   ·have:=ZkL hf.1.2 (by omega) (by omega) c hc;simp only[ZiH] at this ⊢;omega
   ·have:=ZkL hf.2 (by omega) (by omega) c hc;simp only[ZiH] at this ⊢;omega
def X4:List Box→Int
 | []=>0
 | c :: l=>c.W*c.H+X4 l
theorem Zb4 (a b:List Box):X4 (a++b)=X4 a+X4 b:=by
 induction a with
 | nil=>simp[X4]
 | cons c l ih=>simp only[KF,X4,ih];omega
theorem ZjB {ps:List Pane}:∀ {b:BT} {x y w h:Int},X4 (wst b x y w h)+X4 ((plc b x y w h).map Place.Box)=w*h
 | .waste,x,y,w,h=>by simp[wst,plc,X4]
 | .pane i t,x,y,w,h=>by simp[wst,plc,X4]
 | .cut d a l r,x,y,w,h=>by
  cases d
  ·have h1:=ZjB (ps:=ps) (b:=l) (x:=x) (y:=y) (w:=w) (h:=a);have h2:=ZjB (ps:=ps) (b:=r) (x:=x) (y:=y+a) (w:=w) (h:=h-a);have h3:w*(h-a)=w*h-w*a:=Int.mul_sub w h a;simp only[wst,plc,Ka,Ko,Zb4,K9];omega
  ·have h1:=ZjB (ps:=ps) (b:=l) (x:=x) (y:=y) (w:=a) (h:=h);have h2:=ZjB (ps:=ps) (b:=r) (x:=x+a) (y:=y) (w:=w-a) (h:=h);have h3:(w-a)*h=w*h-a*h:=Int.sub_mul w a h;simp only[wst,plc,Km,Zb4,K9];omega
theorem Znp:∀ (b:BT) (x y w h:Int),(wst b x y w h).length≤b.cnt
 | .waste,x,y,w,h=>by simp[wst,BT.cnt]
 | .pane i t,x,y,w,h=>by simp[wst,BT.cnt]
 | .cut d a l r,x,y,w,h=>by
  cases d
  ·have h1:=Znp l x y w a;have h2:=Znp r x (y+a) w (h-a);simp[wst,BT.cnt];omega
  ·have h1:=Znp l x y a h;have h2:=Znp r (x+a) y (w-a) h;simp[wst,BT.cnt];omega
theorem ZjC {k:ZF} {p:Zf} {b:BT} (hv:VW k) (hf:X3 k.Panes b k.W k.H=true):∀ c∈plc b 0 0 k.W k.H,VB c.Box:=by
 intro c hc;obtain⟨h1,h2,h3,h4,_⟩:=hv;have:=Zoh hf h1 h3 c hc;simp only[ZiH] at this;simp only[VB];omega
theorem ZjD {k:ZF} {p:Zf} {b:BT} (hv:VW k) (hf:X3 k.Panes b k.W k.H=true):∀ c∈wst b 0 0 k.W k.H,VB c:=by
 intro c hc;obtain⟨h1,h2,h3,h4,_⟩:=hv;have:=ZkL hf h1 h3 c hc;simp only[ZiH] at this;simp only[VB];omega
def Zs4 (b m:Box):Box:=⟨m.X-b.X,m.Y-b.Y,m.W,m.H⟩
def YF (b f:Box):Option Box:=if Up f b then some (Zs4 b (Zgy f b)) else none
def Zoi (q:Zb) (b:Box) (label:Int):Zb:=⟨label,b.W,b.H,q.Flaws.filterMap (YF b)⟩
theorem Zwl {q:Zb} {b:Box} {label:Int} (hq:VPc q) (hb:VB b) (hi:Wl b ⟨0,0,q.W,q.H⟩) (h1:1≤label) (h2:label≤9999):VPc (Zoi q b label):=by
 simp only[VB] at hb;refine⟨⟨h1,h2,?_,?_,?_,?_,Kx (Kl _ _) hq.1.2.2.2.2.2.2⟩,?_⟩
 ·show 1≤b.W;omega
 ·show b.W≤200;omega
 ·show 1≤b.H;omega
 ·show b.H≤200;omega
 ·intro f hf;obtain⟨g,hg,aa⟩:=Lg.1 hf;have ab:=hq.2 g hg;unfold YF at aa;split at aa
  ·rename_i hm;cases aa;simp only[ZcD,VB,Wl] at ab;simp only[Up] at hm;simp only[ZcD,VB,Wl,Zs4,Zgy,Zoi];omega
  ·cases aa
def UA (Zi:Int) (b:Box):Option Box:=if Zi≤b.W∧Zi≤b.H then some b else none
def U9 (q:Zb):Int→List Box→List Zb
 | _,[]=>[]
 | n,b :: l=>Zoi q b n :: U9 q (n+1) l
theorem ZgE (q:Zb):∀ (n:Int) (a b:List Box),U9 q n (a++b)=U9 q n a++U9 q (n+a.length) b
 | n,[],b=>by simp[U9]
 | n,x :: a,b=>by
  simp only[KF,U9,ZgE q (n+1) a b,Ks];congr 3
  omega
theorem ZcE (q:Zb):∀ (n:Int) (a:List Box),(U9 q n a).length=a.length
 | n,[]=>rfl
 | n,x :: a=>by simp[U9,ZcE q (n+1) a]
theorem ZyC (q:Zb) (n:Int) {l:List Box} {i:Nat} {x:Box} (hx:l[i]?=some x):U9 q n (l.take (i+1))=U9 q n (l.take i)++[Zoi q x (n+i)]:=by
 obtain⟨h1,h2⟩:=Kb.1 hx;rw[Lo h1,h2,ZgE];simp only[U9,Lj,Nat.min_eq_left (Nat.le_of_lt h1)]
def Q8 (k:ZF) (p:Zf) (Zi:Int):List Box:=((QH k p).filterMap XY).filterMap (UA Zi)
theorem Zoj {k:ZF} {p:Zf} {Zi:Int} (hv:Vx k p=true):∀ b∈Q8 k p Zi,VB b∧Wl b ⟨0,0,k.W,k.H⟩:=by
 intro b hb;obtain⟨t,_,_,hw,_,hf,hp⟩:=Xq hv;unfold Q8 at hb;rw[hp,Zex] at hb;obtain⟨c,hc,aa⟩:=Lg.1 hb;unfold UA at aa;split at aa
 ·cases aa;refine⟨ZjD (p:=p) hw hf b hc,?_⟩;obtain⟨h1,h2,h3,h4,_⟩:=hw;have:=ZkL hf h1 h3 b hc;simp only[ZiH] at this;simp only[Wl];omega
 ·cases aa
theorem ZhE (k:ZF) (p:Zf) (Zi:Int):(Q8 k p Zi).length≤255:=by
 unfold Q8;refine Kx (Kl _ _) (Kx (Kl _ _) ?_);unfold QH;split
 ·split
  ·rename_i h;simp only[Ke,Kn] at h;rw[JH];exact h.1.2
  ·simp
 ·simp
def remn (q:Zb) (k:ZF) (p:Zf) (Zi label:Int):List Zb:=
 if (VPc q∧Wt q k p)∧1≤Zi∧Zi≤200∧1≤label∧label≤9999∧(Q8 k p Zi).length≤10000-label then U9 q label (Q8 k p Zi) else []
def Jh (Zi:Int) (b:Box):Option Box:=if b.W<Zi∨b.H<Zi then some b else none
def Zez (k:ZF) (p:Zf) (Zi:Int):List Box:=((QH k p).filterMap XY).filterMap (Jh Zi)
theorem Zb5 {b:Box} (h:VB b):0≤b.W*b.H∧b.W*b.H≤40000:=by
 simp only[VB] at h;have h1:0≤b.W*b.H:=LR (by omega) (by omega);have h2:b.W*b.H≤200*200:=LS (by omega) (by omega) (by omega) (by omega);omega
theorem ZgF:∀ {l:List Box},(∀ b∈l,VB b)→0≤X4 l∧X4 l≤40000*l.length
 | [],_=>by simp[X4]
 | b :: l,h=>by
  have h1:=Zb5 (h b (by simp));have h2:=ZgF (l:=l) fun c hc=>h c (by simp[hc]);simp only[X4,Ks];omega
theorem Zok (Zi:Int):∀ (l:List Box),X4 (l.filterMap (UA Zi))+X4 (l.filterMap (Jh Zi))=X4 l
 | []=>by simp[X4]
 | b :: l=>by
  have ih:=Zok Zi l;by_cases h:Zi≤b.W∧Zi≤b.H
  ·have h' : ¬(b.W<Zi∨b.H<Zi):=by omega
   simp only[K6,UA,Jh,Ki h,Kd h',X4];omega
  ·have h' : b.W<Zi∨b.H<Zi:=by omega
   simp only[K6,UA,Jh,Kd h,Ki h',X4];omega
theorem ZeA {k:ZF} {p:Zf} (hv:Vx k p=true):∀ b∈(QH k p).filterMap XY,VB b:=by
 obtain⟨t,_,_,hw,_,hf,hp⟩:=Xq hv;rw[hp,Zex];exact ZjD (p:=p) hw hf
attribute [go_sem] ite_self Bool.false_eq_true
end Go.Abs.L
