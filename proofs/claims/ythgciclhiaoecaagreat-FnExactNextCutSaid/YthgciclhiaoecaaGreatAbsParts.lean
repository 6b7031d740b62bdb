/- Own text. -/
import Derived.Test.YthgciclhiaoecaaGreatAbsLib
set_option linter.unusedVariables false
set_option linter.unusedSimpArgs false
namespace Go.Abs.L
open Go Go.Abs Go.Abs.E
inductive BT where
 | waste
 | pane (i:Int) (t:Bool)
 | cut (d:Bool) (a:Int) (l r:BT)
deriving DecidableEq,Inhabited
def Ql (d:Bool):Int:=if d then 2 else 3
def BT.plan:BT→Ze
 | .waste=>.mk 0 0 0 false []
 | .pane i t=>.mk 1 0 i t []
 | .cut d a l r=>.mk (Ql d) a 0 false [l.plan,r.plan]
def BT.cnt:BT→Nat
 | .waste=>1
 | .pane _ _=>1
 | .cut _ _ l r=>1+l.cnt+r.cnt
theorem BT.cnt_pos (b:BT):1≤b.cnt:=by cases b<;>simp[BT.cnt]<;>omega
def Ze.nodes:Ze→Nat
 | .mk _ _ _ _ ks=>1+nodesL ks
where nodesL:List Ze→Nat
 | []=>0
 | p :: r=>Ze.nodes p+nodesL r
def ZfJ (o a p:Int) (t:Bool) (l r:Option BT):Option BT:=match l,r with
 | some x,some y=>if p=0∧t=false then some (.cut (decide (o=2)) a x y) else none
 | _,_=>none
mutual
def Yj:Ze→Option BT
 | .mk o a p t ks=>if o=2∨o=3 then ZwD o a p t ks else
   if ks.length=0∧a=0∧o=1 then some (.pane p t) else
   if ks.length=0∧a=0∧o=0∧p=0∧t=false then some .waste else none
def ZwD (o a p:Int) (t:Bool):List Ze→Option BT
 | []=>none
 | x :: r=>ZyP o a p t (Yj x) r
def ZyP (o a p:Int) (t:Bool) (l:Option BT):List Ze→Option BT
 | []=>none
 | y :: r=>match r with
  | []=>ZfJ o a p t l (Yj y)
  | _=>none
end
theorem Zrw (o a p:Int) (t:Bool) (x y:Ze) (ho:o=2∨o=3):Yj (.mk o a p t [x,y])=ZfJ o a p t (Yj x) (Yj y):=by
 simp[Yj,ZwD,ZyP,ho]
theorem Znw (o a p:Int) (t:Bool) (ks:List Ze) (ho:o=2∨o=3) (hk:ks.length≠2):Yj (.mk o a p t ks)=none:=by
 match ks,hk with
 | [],_=>simp[Yj,ZwD,ho]
 | [x],_=>simp[Yj,ZwD,ZyP,ho]
 | [x,y],h=>simp at h
 | x :: y :: z :: r,_=>simp[Yj,ZwD,ZyP,ho]
theorem Znx:∀ b:BT,Yj b.plan=some b
 | .waste=>by simp[BT.plan,Yj]
 | .pane i t=>by simp[BT.plan,Yj]
 | .cut d a l r=>by
  rw[BT.plan,Zrw _ _ _ _ _ _ (by cases d<;>simp[Ql]),Znx l,Znx r];cases d<;>simp[ZfJ,Ql]
theorem ZfK:∀ (n:Nat) (p:Ze) (b:BT),p.nodes≤n→Yj p=some b→p=b.plan
 | 0,.mk o a p t ks,b,hn,_=>by simp[Ze.nodes] at hn
 | n+1,.mk o a p t ks,b,hn,h=>by
  by_cases ho:o=2∨o=3
  ·by_cases hk:ks.length=2
   ·match ks,hk with
    | [x,y],_=>
     rw[Zrw _ _ _ _ _ _ ho] at h;simp only[Ze.nodes,Ze.nodes.nodesL] at hn;cases hx:Yj x with
     | none=>simp[hx,ZfJ] at h
     | some bx=>
      cases hy:Yj y with
      | none=>simp[hx,hy,ZfJ] at h
      | some bY=>
       have e1:=ZfK n x bx (by omega) hx;have e2:=ZfK n y bY (by omega) hy;simp only[hx,hy,ZfJ] at h;split at h
       ·rename_i hc;cases h;obtain⟨rfl,rfl⟩:=hc;rw[BT.plan,← e1,← e2];rcases ho with rfl | rfl<;>rfl
       ·cases h
   ·rw[Znw _ _ _ _ _ ho hk] at h;cases h
  ·simp only[Yj,ho,Kk] at h;split at h
   ·rename_i hc;cases h;obtain⟨h1,rfl,rfl⟩:=hc;cases ks with
    | nil=>rfl
    | cons x r=>simp at h1
   ·split at h
    ·rename_i hc;cases h;obtain⟨h1,rfl,rfl,rfl,rfl⟩:=hc;cases ks with
     | nil=>rfl
     | cons x r=>simp at h1
    ·cases h
theorem ZiP {p:Ze} {b:BT} (h:Yj p=some b):p=b.plan:=ZfK _ p b (Kl _) h
theorem ZtJ {o a p:Int} {t:Bool} {ks:List Ze} {x y:Ze} (ho:o=2∨o=3) (hk:ks.length=2) (h0:ks[0]?=some x) (h1:ks[1]?=some y):Yj (.mk o a p t ks)=ZfJ o a p t (Yj x) (Yj y):=by
 match ks,hk with
 | [x',y'],_=>
  simp at h0 h1;subst h0;subst h1;exact Zrw _ _ _ _ _ _ ho
theorem ZcY:∀ {ks:List Ze} {i:Nat} {x:Ze},ks[i]?=some x→x.nodes≤Ze.nodes.nodesL ks
 | [],i,x,h=>by simp at h
 | y :: ks,0,x,h=>by simp at h;subst h;simp[Ze.nodes.nodesL]
 | y :: ks,i+1,x,h=>by
  have:=ZcY (ks:=ks) (i:=i) (x:=x) (by simpa using h);simp only[Ze.nodes.nodesL];omega
theorem ZeH {o a p:Int} {t:Bool} {ks:List Ze} {i:Nat} {x:Ze} {n:Nat} (hn:(Ze.mk o a p t ks).nodes≤n+1) (h:ks[i]?=some x):x.nodes≤n:=by
 have:=ZcY h;simp only[Ze.nodes] at hn;omega
theorem Ze.enc_len (x:Ze):(Ze.enc x).cells.length=5:=by
 obtain⟨o,a,p,t,k⟩:=x;rw[Ze.enc_mk];rfl
theorem Ze.enc_agg (x:Ze):D.agg (Ze.enc x).cells=Ze.enc x:=by
 obtain⟨o,a,p,t,k⟩:=x;rw[Ze.enc_mk];rfl
theorem Ze.take_enc (x:Ze):(Ze.enc x).cells.take 5=(Ze.enc x).cells:=KC (by rw[Ze.enc_len x];omega)
attribute [go_sem] Ze.enc_len Ze.enc_agg Ze.take_enc
theorem Zrx {o a p:Int} {t:Bool} {ks:List Ze} (ho:¬(o=2∨o=3)):Yj (.mk o a p t ks)=if ks.length=0∧a=0∧o=1 then some (.pane p t) else
   if ks.length=0∧a=0∧o=0∧p=0∧t=false then some .waste else none:=by
 simp only[Yj,ho,Kk]
def Zv (m:Int):Option BT→Int
 | some b=>if (b.cnt:Int)≤m then (b.cnt:Int) else -1
 | none=>-1
theorem ZbO (m:Int) (h0:0≤m) (b:Option BT) : -1≤Zv m b∧Zv m b≤m∧Zv m b≠0:=by
 cases b with
 | none=>simp[Zv];omega
 | some b=>
  have:=b.cnt_pos;simp only[Zv];split<;>omega
theorem YB (m:Int) (b:BT):((b.cnt:Int)≤m∧Zv m (some b)=b.cnt)∨(m<(b.cnt:Int)∧Zv m (some b)=-1):=by
 unfold Zv;by_cases h:(b.cnt:Int)≤m
 ·left;exact⟨h,Kj h⟩
 ·right;exact⟨by omega,Kg h⟩
theorem ZfL (m o a p:Int) (t:Bool) (l r:Option BT) (h:¬(p=0∧t=false)):Zv m (ZfJ o a p t l r)=-1:=by
 cases l with
 | none=>rfl
 | some x=>cases r with
  | none=>rfl
  | some y=>simp only[ZfJ,Kg h,Zv]
theorem ZxM (m o a:Int) (l r:Option BT):Zv m (ZfJ o a 0 false l r)=if Zv m l<0∨Zv m r<0∨m<1+Zv m l+Zv m r then -1 else 1+Zv m l+Zv m r:=by
 cases l with
 | none=>simp[ZfJ,Zv]
 | some x=>cases r with
  | none=>simp[ZfJ,Zv]
  | some y=>
   have h1:=x.cnt_pos;have h2:=y.cnt_pos;have e:(BT.cut (decide (o=2)) a x y).cnt=1+x.cnt+y.cnt:=rfl;have e0:ZfJ o a 0 false (some x) (some y)=some (BT.cut (decide (o=2)) a x y):=by simp[ZfJ]
   rw[e0];have hx:=YB m x;have hy:=YB m y;have hc:=YB m (BT.cut (decide (o=2)) a x y);rw[e] at hc;generalize Zv m (some x)=sx at *;generalize Zv m (some y)=sy at *;generalize Zv m (some (BT.cut (decide (o=2)) a x y))=sc at *;split<;>omega
theorem ZwE (m o a:Int) (l r:Option BT):Zv m (ZfJ o a 0 false l r)=if Zv (m-1) l<0∨Zv (m-1-Zv (m-1) l) r<0 then -1 else 1+Zv (m-1) l+Zv (m-1-Zv (m-1) l) r:=by
 cases l with
 | none=>simp[ZfJ,Zv]
 | some x=>cases r with
  | none=>simp[ZfJ,Zv]
  | some y=>
   have h1:=x.cnt_pos;have h2:=y.cnt_pos;have e:(BT.cut (decide (o=2)) a x y).cnt=1+x.cnt+y.cnt:=rfl;have e0:ZfJ o a 0 false (some x) (some y)=some (BT.cut (decide (o=2)) a x y):=by simp[ZfJ]
   rw[e0];have hx:=YB (m-1) x;have hy:=YB (m-1-Zv (m-1) (some x)) y;have hc:=YB m (BT.cut (decide (o=2)) a x y);rw[e] at hc;generalize Zv (m-1-Zv (m-1) (some x)) (some y)=sy at *;generalize Zv (m-1) (some x)=sx at *;generalize Zv m (some (BT.cut (decide (o=2)) a x y))=sc at *;split<;>omega
theorem ZxN {m:Int} (h:m<1) (b:Option BT):Zv m b=-1:=by
 cases b with
 | none=>rfl
 | some b=>
  have:=b.cnt_pos;have:=YB m b;omega
def XT (ps:List Pane) (i:Int) (t:Bool) (w h:Int):Bool:=decide (0≤i)&&(match ps[i.toNat]? with
 | some q=>if t then q.Turns&&decide (¬q.W=q.H)&&decide (q.H=w)&&decide (q.W=h) else decide (q.W=w∧q.H=h)
 | none=>false)
def XU (ps:List Pane):BT→Int→Int→Bool
 | .waste,_,_=>true
 | .pane i t,w,h=>XT ps i t w h
 | .cut d a l r,w,h=>if d then decide (1≤a∧a≤w-1)&&XU ps l a h&&XU ps r (w-a) h
   else decide (1≤a∧a≤h-1)&&XU ps l w a&&XU ps r w (h-a)
def VPs (ps:List Pane):Prop:=∀ q∈ps,VP q
instance (ps:List Pane):Decidable (VPs ps):=by unfold VPs;infer_instance
def VW (k:Zt):Prop:=1≤k.W∧k.W≤200∧1≤k.H∧k.H≤200∧k.Panes.length≤24∧VPs k.Panes
instance (k:Zt):Decidable (VW k):=by unfold VW;infer_instance
theorem ZwF {ps:List Pane} {k:Nat} {x:Pane} (hx:ps[k]?=some x):VPs (ps.drop k)↔VP x∧VPs (ps.drop (k+1)):=by
 obtain⟨h1,h2⟩:=Kc.1 hx;rw[Ks h1,h2];simp[VPs]
end Go.Abs.L
set_option linter.unusedVariables false
set_option linter.unusedSimpArgs false
namespace Go.Abs.L
open Go Go.Abs Go.Abs.E
structure Part where
 plan:Ze
 box:Box
def Part.enc (p:Part):D:=.agg (p.plan.enc.cells++[.int .i64 p.box.X,.int .i64 p.box.Y,.int .i64 p.box.W,.int .i64 p.box.H])
@[go_sem] theorem Part.enc_mk (o a p:Int) (t:Bool) (ks:List Ze) (x y w h:Int):Part.enc ⟨.mk o a p t ks,⟨x,y,w,h⟩⟩ =
  .agg [.int .i64 o,.int .i64 a,.int .i64 p,.bool t,.sl (ks.map Ze.enc),.int .i64 x,.int .i64 y,.int .i64 w,.int .i64 h]:=by
 simp only[Part.enc,Ze.enc_mk];rfl
theorem Part.enc_len (p:Part):(Part.enc p).cells.length=9:=by
 show (p.plan.enc.cells++_).length=9;rw[Kx,Ze.enc_len];rfl
@[go_sem] theorem uni_Part (l:List Part):uni 9 (l.map Part.enc)=True:=eq_true (ZaV l Part.enc_len)
def pt:BT→Int→Int→Int→Int→List Part
 | .waste,x,y,w,h=>[⟨BT.waste.plan,⟨x,y,w,h⟩⟩]
 | .pane i t,x,y,w,h=>[⟨(BT.pane i t).plan,⟨x,y,w,h⟩⟩]
 | .cut d a l r,x,y,w,h=>⟨(BT.cut d a l r).plan,⟨x,y,w,h⟩⟩ :: if d then pt l x y a h++pt r (x+a) y (w-a) h else pt l x y w a++pt r x (y+a) w (h-a)
def sp:BT→Int→Int→Int→Int→List Place
 | .waste,x,y,w,h=>[⟨-1,false,⟨x,y,w,h⟩⟩]
 | .pane i t,x,y,w,h=>[⟨i,t,⟨x,y,w,h⟩⟩]
 | .cut d a l r,x,y,w,h=>if d then sp l x y a h++sp r (x+a) y (w-a) h else sp l x y w a++sp r x (y+a) w (h-a)
def plc:BT→Int→Int→Int→Int→List Place
 | .waste,x,y,w,h=>[]
 | .pane i t,x,y,w,h=>[⟨i,t,⟨x,y,w,h⟩⟩]
 | .cut d a l r,x,y,w,h=>if d then plc l x y a h++plc r (x+a) y (w-a) h else plc l x y w a++plc r x (y+a) w (h-a)
def wst:BT→Int→Int→Int→Int→List Box
 | .waste,x,y,w,h=>[⟨x,y,w,h⟩]
 | .pane i t,x,y,w,h=>[]
 | .cut d a l r,x,y,w,h=>if d then wst l x y a h++wst r (x+a) y (w-a) h else wst l x y w a++wst r x (y+a) w (h-a)
def PN:BT→Prop
 | .waste=>True
 | .pane i _=>0≤i
 | .cut _ _ l r=>PN l∧PN r
def opP:Ze→Int
 | .mk o _ _ _ _=>o
def QX (q:Part):Option Place:=match q.plan with
 | .mk o _ p t _=>if o=1 then some ⟨p,t,q.box⟩ else none
def XM (q:Part):Option Box:=match q.plan with
 | .mk o _ _ _ _=>if o=0 then some q.box else none
theorem Yt:∀ (b:BT) (x y w h:Int),(pt b x y w h).filterMap QX=plc b x y w h
 | .waste,x,y,w,h=>rfl
 | .pane i t,x,y,w,h=>rfl
 | .cut d a l r,x,y,w,h=>by
  have e:QX ⟨(BT.cut d a l r).plan,⟨x,y,w,h⟩⟩=none:=by cases d<;>rfl
  cases d<;>simp[pt,plc,LK,Lq,e,Yt]
theorem ZeI:∀ (b:BT) (x y w h:Int),(pt b x y w h).filterMap XM=wst b x y w h
 | .waste,x,y,w,h=>rfl
 | .pane i t,x,y,w,h=>rfl
 | .cut d a l r,x,y,w,h=>by
  have e:XM ⟨(BT.cut d a l r).plan,⟨x,y,w,h⟩⟩=none:=by cases d<;>rfl
  cases d<;>simp[pt,wst,LK,Lq,e,ZeI]
def Zdy (q:Place):Option Place:=if 0≤q.Pane then some q else none
def Zdz (q:Place):Option Box:=if q.Pane<0 then some q.Box else none
theorem Zny:∀ (b:BT) (x y w h:Int),PN b→(sp b x y w h).filterMap Zdy=plc b x y w h
 | .waste,x,y,w,h,_=>rfl
 | .pane i t,x,y,w,h,hp=>by
  have hp:0≤i:=hp;simp[sp,plc,Zdy,hp]
 | .cut d a l r,x,y,w,h,hp=>by
  cases d<;>simp[sp,plc,LK,Zny l _ _ _ _ hp.1,Zny r _ _ _ _ hp.2]
theorem Znz:∀ (b:BT) (x y w h:Int),PN b→(sp b x y w h).filterMap Zdz=wst b x y w h
 | .waste,x,y,w,h,_=>rfl
 | .pane i t,x,y,w,h,hp=>by
  have hp:¬i<0:=by have:0≤i:=hp;omega
  simp[sp,wst,Zdz,hp]
 | .cut d a l r,x,y,w,h,hp=>by
  cases d<;>simp[sp,wst,LK,Znz l _ _ _ _ hp.1,Znz r _ _ _ _ hp.2]
theorem J3:∀ (b:BT) (x y w h:Int),(pt b x y w h).length=b.cnt
 | .waste,x,y,w,h=>rfl
 | .pane i t,x,y,w,h=>rfl
 | .cut d a l r,x,y,w,h=>by
  cases d<;>simp[pt,BT.cnt,J3]<;>omega
theorem Zed:∀ (b:BT) (x y w h:Int),(sp b x y w h).length≤b.cnt
 | .waste,x,y,w,h=>by simp[sp,BT.cnt]
 | .pane i t,x,y,w,h=>by simp[sp,BT.cnt]
 | .cut d a l r,x,y,w,h=>by
  cases d
  ·have h1:=Zed l x y w a;have h2:=Zed r x (y+a) w (h-a);simp[sp,BT.cnt];omega
  ·have h1:=Zed l x y a h;have h2:=Zed r (x+a) y (w-a) h;simp[sp,BT.cnt];omega
theorem ZaX {α β:Type} {l:List α} {f:α→Option β} {k:Nat} {x:α} (hx:l[k]?=some x):(l.take (k+1)).filterMap f=(l.take k).filterMap f++(f x).toList:=by
 obtain⟨h1,h2⟩:=Kc.1 hx;rw[List.take_succ_eq_append_getElem h1,h2,LK];cases hf:f x<;>simp[hf]
theorem ZiQ {ps:List Pane}:∀ {b:BT} {w h:Int},XU ps b w h=true→PN b
 | .waste,_,_,_=>trivial
 | .pane i t,w,h,hf=>by
  simp only[XU,XT,Kd,Kt] at hf;exact hf.1
 | .cut d a l r,w,h,hf=>by
  cases d
  ·simp only[XU,Kd,Ka,Kk] at hf;exact⟨ZiQ hf.1.2,ZiQ hf.2⟩
  ·simp only[XU,Kd,Km] at hf;exact⟨ZiQ hf.1.2,ZiQ hf.2⟩
def Qm (k:Zt) (p:Ze):List Part:=match Yj p with
 | some b=>if decide (VW k)&&decide (b.cnt≤255)&&XU k.Panes b k.W k.H then pt b 0 0 k.W k.H else []
 | none=>[]
def Y5 (k:Zt) (p:Ze):Bool:=match Yj p with
 | some b=>decide (VW k)&&decide (b.cnt≤255)&&XU k.Panes b k.W k.H
 | none=>false
theorem QM {k:Zt} {p:Ze} (h:Y5 k p=true):∃ b,Yj p=some b∧p=b.plan∧VW k∧b.cnt≤255∧XU k.Panes b k.W k.H=true∧Qm k p=pt b 0 0 k.W k.H:=by
 have h':=h;unfold Y5 at h;split at h
 ·rename_i b hb;refine⟨b,hb,ZiP hb,?_⟩;unfold Qm;rw[hb];dsimp only;rw[Kj h];simp only[Kd,Kt] at h;exact⟨h.1.1,h.1.2,h.2,rfl⟩
 ·cases h
theorem ZeJ {α:Type} {l:List α} {k:Nat} {x:α} (hx:l[k]?=some x) (P:α→Prop):(∀ y∈l.drop k,P y)↔P x∧∀ y∈l.drop (k+1),P y:=by
 obtain⟨h1,h2⟩:=Kc.1 hx;rw[Ks h1,h2];simp
def ZcZ (w h:Int) (f:Box):Prop:=VB f∧QA f ⟨0,0,w,h⟩
instance (w h:Int) (f:Box):Decidable (ZcZ w h f):=by unfold ZcZ;infer_instance
def VPc (q:Zb):Prop:=(1≤q.Label∧q.Label≤9999∧1≤q.W∧q.W≤200∧1≤q.H∧q.H≤200∧q.Flaws.length≤6)∧∀ f∈q.Flaws,ZcZ q.W q.H f
instance (q:Zb):Decidable (VPc q):=by unfold VPc;infer_instance
def Z5 (fs:List Box) (b:Box):Prop:=∀ f∈fs,¬X8 f b
instance (fs:List Box) (b:Box):Decidable (Z5 fs b):=by unfold Z5;infer_instance
def Vh (q:Zb) (k:Zt) (p:Ze):Prop:=Y5 k p=true∧k.W=q.W∧k.H=q.H∧∀ c∈(Qm k p).filterMap QX,Z5 q.Flaws c.Box
instance (q:Zb) (k:Zt) (p:Ze):Decidable (Vh q k p):=by unfold Vh;infer_instance
def ZkT (x y w h:Int) (c:Box):Prop:=1≤c.W∧1≤c.H∧x≤c.X∧y≤c.Y∧c.X+c.W≤x+w∧c.Y+c.H≤y+h
theorem Zry {ps:List Pane}:∀ {b:BT} {x y w h:Int},XU ps b w h=true→1≤w→1≤h→∀ c∈plc b x y w h,ZkT x y w h c.Box
 | .waste,x,y,w,h,hf,h1,h2,c,hc=>by simp[plc] at hc
 | .pane i t,x,y,w,h,hf,h1,h2,c,hc=>by
  simp only[plc,KP] at hc;subst hc;simp only[ZkT];omega
 | .cut d a l r,x,y,w,h,hf,h1,h2,c,hc=>by
  cases d
  ·simp only[XU,Kd,Ka,Kk,Kt] at hf;simp only[plc,Ka,Kk,Ke] at hc;rcases hc with hc | hc
   ·have:=Zry hf.1.2 (by omega) (by omega) c hc;simp only[ZkT] at this ⊢;omega
   ·have:=Zry hf.2 (by omega) (by omega) c hc;simp only[ZkT] at this ⊢;omega
  ·simp only[XU,Kd,Km,Kt] at hf;simp only[plc,Km,Ke] at hc;rcases hc with hc | hc
   ·have:=Zry hf.1.2 (by omega) (by omega) c hc;simp only[ZkT] at this ⊢;omega
   ·have:=Zry hf.2 (by omega) (by omega) c hc;simp only[ZkT] at this ⊢;omega
theorem ZnA {ps:List Pane}:∀ {b:BT} {x y w h:Int},XU ps b w h=true→1≤w→1≤h→∀ c∈wst b x y w h,ZkT x y w h c
 | .waste,x,y,w,h,hf,h1,h2,c,hc=>by
  simp only[wst,KP] at hc;subst hc;simp only[ZkT];omega
 | .pane i t,x,y,w,h,hf,h1,h2,c,hc=>by simp[wst] at hc
 | .cut d a l r,x,y,w,h,hf,h1,h2,c,hc=>by
  cases d
  ·simp only[XU,Kd,Ka,Kk,Kt] at hf;simp only[wst,Ka,Kk,Ke] at hc;rcases hc with hc | hc
   ·have:=ZnA hf.1.2 (by omega) (by omega) c hc;simp only[ZkT] at this ⊢;omega
   ·have:=ZnA hf.2 (by omega) (by omega) c hc;simp only[ZkT] at this ⊢;omega
  ·simp only[XU,Kd,Km,Kt] at hf;simp only[wst,Km,Ke] at hc;rcases hc with hc | hc
   ·have:=ZnA hf.1.2 (by omega) (by omega) c hc;simp only[ZkT] at this ⊢;omega
   ·have:=ZnA hf.2 (by omega) (by omega) c hc;simp only[ZkT] at this ⊢;omega
def XV:List Box→Int
 | []=>0
 | c :: l=>c.W*c.H+XV l
theorem ZbP (a b:List Box):XV (a++b)=XV a+XV b:=by
 induction a with
 | nil=>simp[XV]
 | cons c l ih=>simp only[KJ,XV,ih];omega
theorem Zmn {ps:List Pane}:∀ {b:BT} {x y w h:Int},XV (wst b x y w h)+XV ((plc b x y w h).map Place.Box)=w*h
 | .waste,x,y,w,h=>by simp[wst,plc,XV]
 | .pane i t,x,y,w,h=>by simp[wst,plc,XV]
 | .cut d a l r,x,y,w,h=>by
  cases d
  ·have h1:=Zmn (ps:=ps) (b:=l) (x:=x) (y:=y) (w:=w) (h:=a);have h2:=Zmn (ps:=ps) (b:=r) (x:=x) (y:=y+a) (w:=w) (h:=h-a);have h3:w*(h-a)=w*h-w*a:=Int.mul_sub w h a;simp only[wst,plc,Ka,Kk,ZbP,KU];omega
  ·have h1:=Zmn (ps:=ps) (b:=l) (x:=x) (y:=y) (w:=a) (h:=h);have h2:=Zmn (ps:=ps) (b:=r) (x:=x+a) (y:=y) (w:=w-a) (h:=h);have h3:(w-a)*h=w*h-a*h:=Int.sub_mul w a h;simp only[wst,plc,Km,ZbP,KU];omega
theorem Zpz:∀ (b:BT) (x y w h:Int),(wst b x y w h).length≤b.cnt
 | .waste,x,y,w,h=>by simp[wst,BT.cnt]
 | .pane i t,x,y,w,h=>by simp[wst,BT.cnt]
 | .cut d a l r,x,y,w,h=>by
  cases d
  ·have h1:=Zpz l x y w a;have h2:=Zpz r x (y+a) w (h-a);simp[wst,BT.cnt];omega
  ·have h1:=Zpz l x y a h;have h2:=Zpz r (x+a) y (w-a) h;simp[wst,BT.cnt];omega
theorem Zmo {k:Zt} {p:Ze} {b:BT} (hv:VW k) (hf:XU k.Panes b k.W k.H=true):∀ c∈plc b 0 0 k.W k.H,VB c.Box:=by
 intro c hc;obtain⟨h1,h2,h3,h4,_⟩:=hv;have:=Zry hf h1 h3 c hc;simp only[ZkT] at this;simp only[VB];omega
theorem Zmp {k:Zt} {p:Ze} {b:BT} (hv:VW k) (hf:XU k.Panes b k.W k.H=true):∀ c∈wst b 0 0 k.W k.H,VB c:=by
 intro c hc;obtain⟨h1,h2,h3,h4,_⟩:=hv;have:=ZnA hf h1 h3 c hc;simp only[ZkT] at this;simp only[VB];omega
def ZuV (b m:Box):Box:=⟨m.X-b.X,m.Y-b.Y,m.W,m.H⟩
def YC (b f:Box):Option Box:=if X8 f b then some (ZuV b (ZgC f b)) else none
def ZnB (q:Zb) (b:Box) (label:Int):Zb:=⟨label,b.W,b.H,q.Flaws.filterMap (YC b)⟩
theorem ZxO {q:Zb} {b:Box} {label:Int} (hq:VPc q) (hb:VB b) (hi:QA b ⟨0,0,q.W,q.H⟩) (h1:1≤label) (h2:label≤9999):VPc (ZnB q b label):=by
 simp only[VB] at hb;refine⟨⟨h1,h2,?_,?_,?_,?_,Kr (Kn _ _) hq.1.2.2.2.2.2.2⟩,?_⟩
 ·show 1≤b.W;omega
 ·show b.W≤200;omega
 ·show 1≤b.H;omega
 ·show b.H≤200;omega
 ·intro f hf;obtain⟨g,hg,aa⟩:=Lu.1 hf;have ab:=hq.2 g hg;unfold YC at aa;split at aa
  ·rename_i hm;cases aa;simp only[ZcZ,VB,QA] at ab;simp only[X8] at hm;simp only[ZcZ,VB,QA,ZuV,ZgC,ZnB];omega
  ·cases aa
def Uv (Zj:Int) (b:Box):Option Box:=if Zj≤b.W∧Zj≤b.H then some b else none
def UK (q:Zb):Int→List Box→List Zb
 | _,[]=>[]
 | n,b :: l=>ZnB q b n :: UK q (n+1) l
theorem Zh6 (q:Zb):∀ (n:Int) (a b:List Box),UK q n (a++b)=UK q n a++UK q (n+a.length) b
 | n,[],b=>by simp[UK]
 | n,x :: a,b=>by
  simp only[KJ,UK,Zh6 q (n+1) a b,Kq];congr 3
  omega
theorem Zc0 (q:Zb):∀ (n:Int) (a:List Box),(UK q n a).length=a.length
 | n,[]=>rfl
 | n,x :: a=>by simp[UK,Zc0 q (n+1) a]
theorem ZzT (q:Zb) (n:Int) {l:List Box} {i:Nat} {x:Box} (hx:l[i]?=some x):UK q n (l.take (i+1))=UK q n (l.take i)++[ZnB q x (n+i)]:=by
 obtain⟨h1,h2⟩:=Kc.1 hx;rw[List.take_succ_eq_append_getElem h1,h2,Zh6];simp only[UK,LM,Nat.min_eq_left (Nat.le_of_lt h1)]
def Q0 (k:Zt) (p:Ze) (Zj:Int):List Box:=((Qm k p).filterMap XM).filterMap (Uv Zj)
theorem Zrz {k:Zt} {p:Ze} {Zj:Int} (hv:Y5 k p=true):∀ b∈Q0 k p Zj,VB b∧QA b ⟨0,0,k.W,k.H⟩:=by
 intro b hb;obtain⟨t,_,_,hw,_,hf,hp⟩:=QM hv;unfold Q0 at hb;rw[hp,ZeI] at hb;obtain⟨c,hc,aa⟩:=Lu.1 hb;unfold Uv at aa;split at aa
 ·cases aa;refine⟨Zmp (p:=p) hw hf b hc,?_⟩;obtain⟨h1,h2,h3,h4,_⟩:=hw;have:=ZnA hf h1 h3 b hc;simp only[ZkT] at this;simp only[QA];omega
 ·cases aa
theorem ZiR (k:Zt) (p:Ze) (Zj:Int):(Q0 k p Zj).length≤255:=by
 unfold Q0;refine Kr (Kn _ _) (Kr (Kn _ _) ?_);unfold Qm;split
 ·split
  ·rename_i h;simp only[Kd,Kt] at h;rw[J3];exact h.1.2
  ·simp
 ·simp
def remn (q:Zb) (k:Zt) (p:Ze) (Zj label:Int):List Zb:=
 if (VPc q∧Vh q k p)∧1≤Zj∧Zj≤200∧1≤label∧label≤9999∧(Q0 k p Zj).length≤10000-label then UK q label (Q0 k p Zj) else []
def Uw (Zj:Int) (b:Box):Option Box:=if b.W<Zj∨b.H<Zj then some b else none
def ZdA (k:Zt) (p:Ze) (Zj:Int):List Box:=((Qm k p).filterMap XM).filterMap (Uw Zj)
theorem J4 {b:Box} (h:VB b):0≤b.W*b.H∧b.W*b.H≤40000:=by
 simp only[VB] at h;have h1:0≤b.W*b.H:=Kan (by omega) (by omega);have h2:b.W*b.H≤200*200:=Kao (by omega) (by omega) (by omega) (by omega);omega
theorem ZeK:∀ {l:List Box},(∀ b∈l,VB b)→0≤XV l∧XV l≤40000*l.length
 | [],_=>by simp[XV]
 | b :: l,h=>by
  have h1:=J4 (h b (by simp));have h2:=ZeK (l:=l) fun c hc=>h c (by simp[hc]);simp only[XV,Kq];omega
theorem ZrA (Zj:Int):∀ (l:List Box),XV (l.filterMap (Uv Zj))+XV (l.filterMap (Uw Zj))=XV l
 | []=>by simp[XV]
 | b :: l=>by
  have ih:=ZrA Zj l;by_cases h:Zj≤b.W∧Zj≤b.H
  ·have h' : ¬(b.W<Zj∨b.H<Zj):=by omega
   simp only[Lq,Uv,Uw,Kj h,Kg h',XV];omega
  ·have h' : b.W<Zj∨b.H<Zj:=by omega
   simp only[Lq,Uv,Uw,Kg h,Kj h',XV];omega
theorem Zb0 {k:Zt} {p:Ze} (hv:Y5 k p=true):∀ b∈(Qm k p).filterMap XM,VB b:=by
 obtain⟨t,_,_,hw,_,hf,hp⟩:=QM hv;rw[hp,ZeI];exact Zmp (p:=p) hw hf
attribute [go_sem] ite_self Bool.false_eq_true
end Go.Abs.L
