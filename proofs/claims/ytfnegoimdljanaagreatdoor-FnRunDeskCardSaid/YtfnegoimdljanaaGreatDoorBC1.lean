import Derived.Test.YtfnegoimdljanaaGreatDoorBCode
set_option linter.all false
namespace Go.Abs.L
open Go Go.Abs Go.Abs.E
inductive BT where
 | waste
 | pane (i:Int) (t:Bool)
 | cut (d:Bool) (a:Int) (l r:BT)
deriving DecidableEq,Inhabited
def Qb (d:Bool):Int:=if d then 2 else 3
def BT.plan:BT→Ze
 | .waste=>.mk 0 0 0 false []
 | .pane i t=>.mk 1 0 i t []
 | .cut d a l r=>.mk (Qb d) a 0 false [l.plan,r.plan]
def BT.cnt:BT→Nat
 | .waste=>1
 | .pane _ _=>1
 | .cut _ _ l r=>1+l.cnt+r.cnt
theorem BT.cnt_pos (b:BT):1≤b.cnt:=by cases b<;>simp[BT.cnt]<;>omega
def Ze.nodes:Ze→Nat
 | .mk _ _ _ _ ks=>1+nodesL ks
where nodesL:List Ze→Nat
 | []=>0
 | p :: r=>Ze.nodes p+nodesL r
def ZfZ (o a p:Int) (t:Bool) (l r:Option BT):Option BT:=match l,r with
 | some x,some y=>if p=0∧t=false then some (.cut (decide (o=2)) a x y) else none
 | _,_=>none
mutual
def QS:Ze→Option BT
 | .mk o a p t ks=>if o=2∨o=3 then ZxJ o a p t ks else
   if ks.length=0∧a=0∧o=1 then some (.pane p t) else
   if ks.length=0∧a=0∧o=0∧p=0∧t=false then some .waste else none
def ZxJ (o a p:Int) (t:Bool):List Ze→Option BT
 | []=>none
 | x :: r=>ZAW o a p t (QS x) r
def ZAW (o a p:Int) (t:Bool) (l:Option BT):List Ze→Option BT
 | []=>none
 | y :: r=>match r with
  | []=>ZfZ o a p t l (QS y)
  | _=>none
end
theorem ZrW (o a p:Int) (t:Bool) (x y:Ze) (ho:o=2∨o=3):QS (.mk o a p t [x,y])=ZfZ o a p t (QS x) (QS y):=by
 simp[QS,ZxJ,ZAW,ho]
theorem ZnP (o a p:Int) (t:Bool) (ks:List Ze) (ho:o=2∨o=3) (hk:ks.length≠2):QS (.mk o a p t ks)=none:=by
 match ks,hk with
 | [],_=>simp[QS,ZxJ,ho]
 | [x],_=>simp[QS,ZxJ,ZAW,ho]
 | [x,y],h=>simp at h
 | x :: y :: z :: r,_=>simp[QS,ZxJ,ZAW,ho]
theorem XG:∀ b:BT,QS b.plan=some b
 | .waste=>by simp[BT.plan,QS]
 | .pane i t=>by simp[BT.plan,QS]
 | .cut d a l r=>by
  rw[BT.plan,ZrW _ _ _ _ _ _ (by cases d<;>simp[Qb]),XG l,XG r];cases d<;>simp[ZfZ,Qb]
theorem Zf0:∀ (n:Nat) (p:Ze) (b:BT),p.nodes≤n→QS p=some b→p=b.plan
 | 0,.mk o a p t ks,b,hn,_=>by simp[Ze.nodes] at hn
 | n+1,.mk o a p t ks,b,hn,h=>by
  by_cases ho:o=2∨o=3
  ·by_cases hk:ks.length=2
   ·match ks,hk with
    | [x,y],_=>
     rw[ZrW _ _ _ _ _ _ ho] at h;simp only[Ze.nodes,Ze.nodes.nodesL] at hn;cases hx:QS x with
     | none=>simp[hx,ZfZ] at h
     | some bx=>
      cases hy:QS y with
      | none=>simp[hx,hy,ZfZ] at h
      | some bY=>
       have e1:=Zf0 n x bx o_ hx;have e2:=Zf0 n y bY o_ hy;simp only[hx,hy,ZfZ] at h;split at h
       ·rename_i hc;cases h;obtain⟨rfl,rfl⟩:=hc;rw[BT.plan,← e1,← e2];rcases ho with rfl | rfl<;>rfl
       ·cases h
   ·rw[ZnP _ _ _ _ _ ho hk] at h;cases h
  ·simp only[QS,ho,Kn] at h;split at h
   ·rename_i hc;cases h;obtain⟨h1,rfl,rfl⟩:=hc;cases ks with
    | nil=>rfl
    | cons x r=>simp at h1
   ·split at h
    ·rename_i hc;cases h;obtain⟨h1,rfl,rfl,rfl,rfl⟩:=hc;cases ks with
     | nil=>rfl
     | cons x r=>simp at h1
    ·cases h
theorem WP {p:Ze} {b:BT} (h:QS p=some b):p=b.plan:=Zf0 _ p b (Kr _) h
theorem ZuR {o a p:Int} {t:Bool} {ks:List Ze} {x y:Ze} (ho:o=2∨o=3) (hk:ks.length=2) (h0:ks[0]?=some x) (h1:ks[1]?=some y):QS (.mk o a p t ks)=ZfZ o a p t (QS x) (QS y):=by
 match ks,hk with
 | [x',y'],_=>
  simp at h0 h1;subst h0;subst h1;exact ZrW _ _ _ _ _ _ ho
theorem ZrX:∀ {ks:List Ze} {i:Nat} {x:Ze},ks[i]?=some x→x.nodes≤Ze.nodes.nodesL ks
 | [],i,x,h=>by simp at h
 | y :: ks,0,x,h=>by simp at h;subst h;simp[Ze.nodes.nodesL]
 | y :: ks,i+1,x,h=>by
  have:=ZrX (ks:=ks) (i:=i) (x:=x) (by simpa using h);simp only[Ze.nodes.nodesL];omega
theorem Zjp {o a p:Int} {t:Bool} {ks:List Ze} {i:Nat} {x:Ze} {n:Nat} (hn:(Ze.mk o a p t ks).nodes≤n+1) (h:ks[i]?=some x):x.nodes≤n:=by
 have:=ZrX h;simp only[Ze.nodes] at hn;omega
theorem Ze.enc_len (x:Ze):(Ze.enc x).cells.length=5:=by
 obtain⟨o,a,p,t,k⟩:=x;rw[Ze.enc_mk];rfl
theorem Ze.enc_agg (x:Ze):D.agg (Ze.enc x).cells=Ze.enc x:=by
 obtain⟨o,a,p,t,k⟩:=x;rw[Ze.enc_mk];rfl
theorem Ze.take_enc (x:Ze):(Ze.enc x).cells.take 5=(Ze.enc x).cells:=KH (by rw[Ze.enc_len x];omega)
attribute [go_sem] Ze.enc_len Ze.enc_agg Ze.take_enc
theorem ZrY {o a p:Int} {t:Bool} {ks:List Ze} (ho:¬(o=2∨o=3)):QS (.mk o a p t ks)=if ks.length=0∧a=0∧o=1 then some (.pane p t) else
   if ks.length=0∧a=0∧o=0∧p=0∧t=false then some .waste else none:=by
 simp only[QS,ho,Kn]
def Zt (m:Int):Option BT→Int
 | some b=>if (b.cnt:Int)≤m then (b.cnt:Int) else -1
 | none=>-1
theorem Zby (m:Int) (h0:0≤m) (b:Option BT) : -1≤Zt m b∧Zt m b≤m∧Zt m b≠0:=by
 cases b with
 | none=>simp[Zt];omega
 | some b=>
  have:=b.cnt_pos;simp only[Zt];split<;>omega
theorem QV (m:Int) (b:BT):((b.cnt:Int)≤m∧Zt m (some b)=b.cnt)∨(m<(b.cnt:Int)∧Zt m (some b)=-1):=by
 unfold Zt;by_cases h:(b.cnt:Int)≤m
 ·left;exact⟨h,Kg h⟩
 ·right;exact⟨o_,Kd h⟩
theorem Zf1 (m o a p:Int) (t:Bool) (l r:Option BT) (h:¬(p=0∧t=false)):Zt m (ZfZ o a p t l r)=-1:=by
 cases l with
 | none=>rfl
 | some x=>cases r with
  | none=>rfl
  | some y=>simp only[ZfZ,Kd h,Zt]
theorem ZzE (m o a:Int) (l r:Option BT):Zt m (ZfZ o a 0 false l r)=if Zt m l<0∨Zt m r<0∨m<1+Zt m l+Zt m r then -1 else 1+Zt m l+Zt m r:=by
 cases l with
 | none=>simp[ZfZ,Zt]
 | some x=>cases r with
  | none=>simp[ZfZ,Zt]
  | some y=>
   have h1:=x.cnt_pos;have h2:=y.cnt_pos;have e:(BT.cut (decide (o=2)) a x y).cnt=1+x.cnt+y.cnt:=rfl;have e0:ZfZ o a 0 false (some x) (some y)=some (BT.cut (decide (o=2)) a x y):=by simp[ZfZ]
   rw[e0];have hx:=QV m x;have hy:=QV m y;have hc:=QV m (BT.cut (decide (o=2)) a x y);rw[e] at hc;generalize Zt m (some x)=sx at *;generalize Zt m (some y)=sy at *;generalize Zt m (some (BT.cut (decide (o=2)) a x y))=sc at *;split<;>omega
theorem ZxK (m o a:Int) (l r:Option BT):Zt m (ZfZ o a 0 false l r)=if Zt (m-1) l<0∨Zt (m-1-Zt (m-1) l) r<0 then -1 else 1+Zt (m-1) l+Zt (m-1-Zt (m-1) l) r:=by
 cases l with
 | none=>simp[ZfZ,Zt]
 | some x=>cases r with
  | none=>simp[ZfZ,Zt]
  | some y=>
   have h1:=x.cnt_pos;have h2:=y.cnt_pos;have e:(BT.cut (decide (o=2)) a x y).cnt=1+x.cnt+y.cnt:=rfl;have e0:ZfZ o a 0 false (some x) (some y)=some (BT.cut (decide (o=2)) a x y):=by simp[ZfZ]
   rw[e0];have hx:=QV (m-1) x;have hy:=QV (m-1-Zt (m-1) (some x)) y;have hc:=QV m (BT.cut (decide (o=2)) a x y);rw[e] at hc;generalize Zt (m-1-Zt (m-1) (some x)) (some y)=sy at *;generalize Zt (m-1) (some x)=sx at *;generalize Zt m (some (BT.cut (decide (o=2)) a x y))=sc at *;split<;>omega
theorem ZzF {m:Int} (h:m<1) (b:Option BT):Zt m b=-1:=by
 cases b with
 | none=>rfl
 | some b=>
  have:=b.cnt_pos;have:=QV m b;omega
def XS (ps:List Pane) (i:Int) (t:Bool) (w h:Int):Bool:=decide (0≤i)&&(match ps[i.toNat]? with
 | some q=>if t then q.Turns&&decide (¬q.W=q.H)&&decide (q.H=w)&&decide (q.W=h) else decide (q.W=w∧q.H=h)
 | none=>false)
def XM (ps:List Pane):BT→Int→Int→Bool
 | .waste,_,_=>true
 | .pane i t,w,h=>XS ps i t w h
 | .cut d a l r,w,h=>if d then decide (1≤a∧a≤w-1)&&XM ps l a h&&XM ps r (w-a) h
   else decide (1≤a∧a≤h-1)&&XM ps l w a&&XM ps r w (h-a)
def VPs (ps:List Pane):Prop:=∀ q∈ps,VP q
instance (ps:List Pane):Decidable (VPs ps):=by unfold VPs;infer_instance
def VW (k:Zv):Prop:=1≤k.W∧k.W≤200∧1≤k.H∧k.H≤200∧k.Panes.length≤24∧VPs k.Panes
instance (k:Zv):Decidable (VW k):=by unfold VW;infer_instance
theorem ZxL {ps:List Pane} {k:Nat} {x:Pane} (hx:ps[k]?=some x):VPs (ps.drop k)↔VP x∧VPs (ps.drop (k+1)):=by
 obtain⟨h1,h2⟩:=Kc.1 hx;rw[Ku h1,h2];simp[VPs]
end Go.Abs.L
namespace Go.Abs.L
open Go Go.Abs Go.Abs.E
structure Part where
 plan:Ze
 box:Box
def Part.enc (p:Part):D:=.agg (p.plan.enc.cells++[.int .i64 p.box.X,.int .i64 p.box.Y,.int .i64 p.box.W,.int .i64 p.box.H])
@[go_sem] theorem Part.enc_mk (o a p:Int) (t:Bool) (ks:List Ze) (x y w h:Int):Part.enc ⟨.mk o a p t ks,⟨x,y,w,h⟩⟩ =
  .agg [.int .i64 o,.int .i64 a,.int .i64 p,.bool t,.sl (ks.map Ze.enc),.int .i64 x,.int .i64 y,.int .i64 w,.int .i64 h]:=by
 simp only[Part.enc,Ze.enc_mk];rfl
theorem Part.enc_len (p:Part):(Part.enc p).cells.length=9:=by
 show (p.plan.enc.cells++_).length=9;rw[Kq,Ze.enc_len];rfl
@[go_sem] theorem uni_Part (l:List Part):uni 9 (l.map Part.enc)=True:=eq_true (Zas l Part.enc_len)
def pt:BT→Int→Int→Int→Int→List Part
 | .waste,x,y,w,h=>[⟨BT.waste.plan,⟨x,y,w,h⟩⟩]
 | .pane i t,x,y,w,h=>[⟨(BT.pane i t).plan,⟨x,y,w,h⟩⟩]
 | .cut d a l r,x,y,w,h=>⟨(BT.cut d a l r).plan,⟨x,y,w,h⟩⟩ :: if d then pt l x y a h++pt r (x+a) y (w-a) h else pt l x y w a++pt r x (y+a) w (h-a)
def sp:BT→Int→Int→Int→Int→List Place
 | .waste,x,y,w,h=>[⟨-1,false,⟨x,y,w,h⟩⟩]
 | .pane i t,x,y,w,h=>[⟨i,t,⟨x,y,w,h⟩⟩]
 | .cut d a l r,x,y,w,h=>if d then sp l x y a h++sp r (x+a) y (w-a) h else sp l x y w a++sp r x (y+a) w (h-a)
def plc:BT→Int→Int→Int→Int→List Place
 | .waste,x,y,w,h=>[]
 | .pane i t,x,y,w,h=>[⟨i,t,⟨x,y,w,h⟩⟩]
 | .cut d a l r,x,y,w,h=>if d then plc l x y a h++plc r (x+a) y (w-a) h else plc l x y w a++plc r x (y+a) w (h-a)
def wst:BT→Int→Int→Int→Int→List Box
 | .waste,x,y,w,h=>[⟨x,y,w,h⟩]
 | .pane i t,x,y,w,h=>[]
 | .cut d a l r,x,y,w,h=>if d then wst l x y a h++wst r (x+a) y (w-a) h else wst l x y w a++wst r x (y+a) w (h-a)
def PN:BT→Prop
 | .waste=>True
 | .pane i _=>0≤i
 | .cut _ _ l r=>PN l∧PN r
def Xd (q:Part):Option Place:=match q.plan with
 | .mk o _ p t _=>if o=1 then some ⟨p,t,q.box⟩ else none
def X5 (q:Part):Option Box:=match q.plan with
 | .mk o _ _ _ _=>if o=0 then some q.box else none
theorem YF:∀ (b:BT) (x y w h:Int),(pt b x y w h).filterMap Xd=plc b x y w h
 | .waste,x,y,w,h=>rfl
 | .pane i t,x,y,w,h=>rfl
 | .cut d a l r,x,y,w,h=>by
  have e:Xd ⟨(BT.cut d a l r).plan,⟨x,y,w,h⟩⟩=none:=by cases d<;>rfl
  cases d<;>simp[pt,plc,LP,Ls,e,YF]
theorem Ze2:∀ (b:BT) (x y w h:Int),(pt b x y w h).filterMap X5=wst b x y w h
 | .waste,x,y,w,h=>rfl
 | .pane i t,x,y,w,h=>rfl
 | .cut d a l r,x,y,w,h=>by
  have e:X5 ⟨(BT.cut d a l r).plan,⟨x,y,w,h⟩⟩=none:=by cases d<;>rfl
  cases d<;>simp[pt,wst,LP,Ls,e,Ze2]
def Zdx (q:Place):Option Place:=if 0≤q.Pane then some q else none
def Zdy (q:Place):Option Box:=if q.Pane<0 then some q.Box else none
theorem ZnQ:∀ (b:BT) (x y w h:Int),PN b→(sp b x y w h).filterMap Zdx=plc b x y w h
 | .waste,x,y,w,h,_=>rfl
 | .pane i t,x,y,w,h,hp=>by
  have hp:0≤i:=hp;simp[sp,plc,Zdx,hp]
 | .cut d a l r,x,y,w,h,hp=>by
  cases d<;>simp[sp,plc,LP,ZnQ l _ _ _ _ hp.1,ZnQ r _ _ _ _ hp.2]
theorem ZnR:∀ (b:BT) (x y w h:Int),PN b→(sp b x y w h).filterMap Zdy=wst b x y w h
 | .waste,x,y,w,h,_=>rfl
 | .pane i t,x,y,w,h,hp=>by
  have hp:¬i<0:=by have:0≤i:=hp;omega
  simp[sp,wst,Zdy,hp]
 | .cut d a l r,x,y,w,h,hp=>by
  cases d<;>simp[sp,wst,LP,ZnR l _ _ _ _ hp.1,ZnR r _ _ _ _ hp.2]
theorem Jp:∀ (b:BT) (x y w h:Int),(pt b x y w h).length=b.cnt
 | .waste,x,y,w,h=>rfl
 | .pane i t,x,y,w,h=>rfl
 | .cut d a l r,x,y,w,h=>by
  cases d<;>simp[pt,BT.cnt,Jp]<;>omega
theorem Zd0:∀ (b:BT) (x y w h:Int),(sp b x y w h).length≤b.cnt
 | .waste,x,y,w,h=>by simp[sp,BT.cnt]
 | .pane i t,x,y,w,h=>by simp[sp,BT.cnt]
 | .cut d a l r,x,y,w,h=>by
  cases d
  ·have h1:=Zd0 l x y w a;have h2:=Zd0 r x (y+a) w (h-a);simp[sp,BT.cnt];omega
  ·have h1:=Zd0 l x y a h;have h2:=Zd0 r (x+a) y (w-a) h;simp[sp,BT.cnt];omega
theorem Zav {α β:Type} {l:List α} {f:α→Option β} {k:Nat} {x:α} (hx:l[k]?=some x):(l.take (k+1)).filterMap f=(l.take k).filterMap f++(f x).toList:=by
 obtain⟨h1,h2⟩:=Kc.1 hx;rw[Lu h1,h2,LP];cases hf:f x<;>simp[hf]
theorem Zjq {ps:List Pane}:∀ {b:BT} {w h:Int},XM ps b w h=true→PN b
 | .waste,_,_,_=>trivial
 | .pane i t,w,h,hf=>by
  simp only[XM,XS,Kf,Ko] at hf;exact hf.1
 | .cut d a l r,w,h,hf=>by
  cases d
  ·simp only[XM,Kf,Ka,Kn] at hf;exact⟨Zjq hf.1.2,Zjq hf.2⟩
  ·simp only[XM,Kf,Km] at hf;exact⟨Zjq hf.1.2,Zjq hf.2⟩
def Qx (k:Zv) (p:Ze):List Part:=match QS p with
 | some b=>if decide (VW k)&&decide (b.cnt≤255)&&XM k.Panes b k.W k.H then pt b 0 0 k.W k.H else []
 | none=>[]
def Va (k:Zv) (p:Ze):Bool:=match QS p with
 | some b=>decide (VW k)&&decide (b.cnt≤255)&&XM k.Panes b k.W k.H
 | none=>false
theorem QU {k:Zv} {p:Ze} (h:Va k p=true):∃ b,QS p=some b∧p=b.plan∧VW k∧b.cnt≤255∧XM k.Panes b k.W k.H=true∧Qx k p=pt b 0 0 k.W k.H:=by
 have h':=h;unfold Va at h;split at h
 ·rename_i b hb;refine⟨b,hb,WP hb,?_⟩;unfold Qx;rw[hb];dsimp only;rw[Kg h];simp only[Kf,Ko] at h;exact⟨h.1.1,h.1.2,h.2,rfl⟩
 ·cases h
theorem Ze3 {α:Type} {l:List α} {k:Nat} {x:α} (hx:l[k]?=some x) (P:α→Prop):(∀ y∈l.drop k,P y)↔P x∧∀ y∈l.drop (k+1),P y:=by
 obtain⟨h1,h2⟩:=Kc.1 hx;rw[Ku h1,h2];simp
def Zco (w h:Int) (f:Box):Prop:=VB f∧QI f ⟨0,0,w,h⟩
instance (w h:Int) (f:Box):Decidable (Zco w h f):=by unfold Zco;infer_instance
def VPc (q:Zb):Prop:=(1≤q.Label∧q.Label≤9999∧1≤q.W∧q.W≤200∧1≤q.H∧q.H≤200∧q.Flaws.length≤6)∧∀ f∈q.Flaws,Zco q.W q.H f
instance (q:Zb):Decidable (VPc q):=by unfold VPc;infer_instance
def Z8 (fs:List Box) (b:Box):Prop:=∀ f∈fs,¬Yk f b
instance (fs:List Box) (b:Box):Decidable (Z8 fs b):=by unfold Z8;infer_instance
def Vk (q:Zb) (k:Zv) (p:Ze):Prop:=Va k p=true∧k.W=q.W∧k.H=q.H∧∀ c∈(Qx k p).filterMap Xd,Z8 q.Flaws c.Box
instance (q:Zb) (k:Zv) (p:Ze):Decidable (Vk q k p):=by unfold Vk;infer_instance
def ZkW (x y w h:Int) (c:Box):Prop:=1≤c.W∧1≤c.H∧x≤c.X∧y≤c.Y∧c.X+c.W≤x+w∧c.Y+c.H≤y+h
theorem ZrZ {ps:List Pane}:∀ {b:BT} {x y w h:Int},XM ps b w h=true→1≤w→1≤h→∀ c∈plc b x y w h,ZkW x y w h c.Box
 | .waste,x,y,w,h,hf,h1,h2,c,hc=>by simp[plc] at hc
 | .pane i t,x,y,w,h,hf,h1,h2,c,hc=>by
  simp only[plc,KD] at hc;subst hc;simp only[ZkW];omega
 | .cut d a l r,x,y,w,h,hf,h1,h2,c,hc=>by
  cases d
  ·simp only[XM,Kf,Ka,Kn,Ko] at hf;simp only[plc,Ka,Kn,Kj] at hc;rcases hc with hc | hc
   ·have:=ZrZ hf.1.2 o_ o_ c hc;simp only[ZkW] at this ⊢;omega
   ·have:=ZrZ hf.2 o_ o_ c hc;simp only[ZkW] at this ⊢;omega
  ·simp only[XM,Kf,Km,Ko] at hf;simp only[plc,Km,Kj] at hc;rcases hc with hc | hc
   ·have:=ZrZ hf.1.2 o_ o_ c hc;simp only[ZkW] at this ⊢;omega
   ·have:=ZrZ hf.2 o_ o_ c hc;simp only[ZkW] at this ⊢;omega
theorem ZnS {ps:List Pane}:∀ {b:BT} {x y w h:Int},XM ps b w h=true→1≤w→1≤h→∀ c∈wst b x y w h,ZkW x y w h c
 | .waste,x,y,w,h,hf,h1,h2,c,hc=>by
  simp only[wst,KD] at hc;subst hc;simp only[ZkW];omega
 | .pane i t,x,y,w,h,hf,h1,h2,c,hc=>by simp[wst] at hc
 | .cut d a l r,x,y,w,h,hf,h1,h2,c,hc=>by
  cases d
  ·simp only[XM,Kf,Ka,Kn,Ko] at hf;simp only[wst,Ka,Kn,Kj] at hc;rcases hc with hc | hc
   ·have:=ZnS hf.1.2 o_ o_ c hc;simp only[ZkW] at this ⊢;omega
   ·have:=ZnS hf.2 o_ o_ c hc;simp only[ZkW] at this ⊢;omega
  ·simp only[XM,Kf,Km,Ko] at hf;simp only[wst,Km,Kj] at hc;rcases hc with hc | hc
   ·have:=ZnS hf.1.2 o_ o_ c hc;simp only[ZkW] at this ⊢;omega
   ·have:=ZnS hf.2 o_ o_ c hc;simp only[ZkW] at this ⊢;omega
def Yb:List Box→Int
 | []=>0
 | c :: l=>c.W*c.H+Yb l
theorem Zbz (a b:List Box):Yb (a++b)=Yb a+Yb b:=by
 induction a with
 | nil=>simp[Yb]
 | cons c l ih=>simp only[KF,Yb,ih];omega
theorem Zmg {k:Zv} {p:Ze} {b:BT} (hv:VW k) (hf:XM k.Panes b k.W k.H=true):∀ c∈plc b 0 0 k.W k.H,VB c.Box:=by
 intro c hc;obtain⟨h1,h2,h3,h4,_⟩:=hv;have:=ZrZ hf h1 h3 c hc;simp only[ZkW] at this;simp only[VB];omega
theorem Zmh {k:Zv} {p:Ze} {b:BT} (hv:VW k) (hf:XM k.Panes b k.W k.H=true):∀ c∈wst b 0 0 k.W k.H,VB c:=by
 intro c hc;obtain⟨h1,h2,h3,h4,_⟩:=hv;have:=ZnS hf h1 h3 c hc;simp only[ZkW] at this;simp only[VB];omega
def Zwb (b m:Box):Box:=⟨m.X-b.X,m.Y-b.Y,m.W,m.H⟩
def YN (b f:Box):Option Box:=if Yk f b then some (Zwb b (Zg0 f b)) else none
def ZnT (q:Zb) (b:Box) (label:Int):Zb:=⟨label,b.W,b.H,q.Flaws.filterMap (YN b)⟩
theorem ZzG {q:Zb} {b:Box} {label:Int} (hq:VPc q) (hb:VB b) (hi:QI b ⟨0,0,q.W,q.H⟩) (h1:1≤label) (h2:label≤9999):VPc (ZnT q b label):=by
 simp only[VB] at hb;refine⟨⟨h1,h2,?_,?_,?_,?_,Ky (Ks _ _) hq.1.2.2.2.2.2.2⟩,?_⟩
 ·show 1≤b.W;omega
 ·show b.W≤200;omega
 ·show 1≤b.H;omega
 ·show b.H≤200;omega
 ·intro f hf;obtain⟨g,hg,aa⟩:=Lw.1 hf;have ab:=hq.2 g hg;unfold YN at aa;split at aa
  ·rename_i hm;cases aa;simp only[Zco,VB,QI] at ab;simp only[Yk] at hm;simp only[Zco,VB,QI,Zwb,Zg0,ZnT];omega
  ·cases aa
def Uf (Zj:Int) (b:Box):Option Box:=if Zj≤b.W∧Zj≤b.H then some b else none
def UN (q:Zb):Int→List Box→List Zb
 | _,[]=>[]
 | n,b :: l=>ZnT q b n :: UN q (n+1) l
theorem Zh0 (q:Zb):∀ (n:Int) (a b:List Box),UN q n (a++b)=UN q n a++UN q (n+a.length) b
 | n,[],b=>by simp[UN]
 | n,x :: a,b=>by
  simp only[KF,UN,Zh0 q (n+1) a b,Kl];congr 3
  omega
theorem Zcp (q:Zb):∀ (n:Int) (a:List Box),(UN q n a).length=a.length
 | n,[]=>rfl
 | n,x :: a=>by simp[UN,Zcp q (n+1) a]
theorem ZCa (q:Zb) (n:Int) {l:List Box} {i:Nat} {x:Box} (hx:l[i]?=some x):UN q n (l.take (i+1))=UN q n (l.take i)++[ZnT q x (n+i)]:=by
 obtain⟨h1,h2⟩:=Kc.1 hx;rw[Lu h1,h2,Zh0];simp only[UN,LF,Nat.min_eq_left (Nat.le_of_lt h1)]
def Xj (k:Zv) (p:Ze) (Zj:Int):List Box:=((Qx k p).filterMap X5).filterMap (Uf Zj)
theorem Zr0 {k:Zv} {p:Ze} {Zj:Int} (hv:Va k p=true):∀ b∈Xj k p Zj,VB b∧QI b ⟨0,0,k.W,k.H⟩:=by
 intro b hb;obtain⟨t,_,_,hw,_,hf,hp⟩:=QU hv;unfold Xj at hb;rw[hp,Ze2] at hb;obtain⟨c,hc,hcb⟩:=Lw.1 hb;unfold Uf at hcb;split at hcb
 ·cases hcb;refine⟨Zmh (p:=p) hw hf b hc,?_⟩;obtain⟨h1,h2,h3,h4,_⟩:=hw;have:=ZnS hf h1 h3 b hc;simp only[ZkW] at this;simp only[QI];omega
 ·cases hcb
theorem Zjr (k:Zv) (p:Ze) (Zj:Int):(Xj k p Zj).length≤255:=by
 unfold Xj;refine Ky (Ks _ _) (Ky (Ks _ _) ?_);unfold Qx;split
 ·split
  ·rename_i h;simp only[Kf,Ko] at h;rw[Jp];exact h.1.2
  ·simp
 ·simp
def Ug (Zj:Int) (b:Box):Option Box:=if b.W<Zj∨b.H<Zj then some b else none
def Zdz (k:Zv) (p:Ze) (Zj:Int):List Box:=((Qx k p).filterMap X5).filterMap (Ug Zj)
theorem Jq {b:Box} (h:VB b):0≤b.W*b.H∧b.W*b.H≤40000:=by
 simp only[VB] at h;have h1:0≤b.W*b.H:=Kat o_ o_;have h2:b.W*b.H≤200*200:=Kau o_ o_ o_ o_;omega
theorem Ze4:∀ {l:List Box},(∀ b∈l,VB b)→0≤Yb l∧Yb l≤40000*l.length
 | [],_=>by simp[Yb]
 | b :: l,h=>by
  have h1:=Jq (h b (by simp));have h2:=Ze4 (l:=l) fun c hc=>h c (by simp[hc]);simp only[Yb,Kl];omega
theorem ZbT {k:Zv} {p:Ze} (hv:Va k p=true):∀ b∈(Qx k p).filterMap X5,VB b:=by
 obtain⟨t,_,_,hw,_,hf,hp⟩:=QU hv;rw[hp,Ze2];exact Zmh (p:=p) hw hf
attribute [go_sem] ite_self Bool.false_eq_true
end Go.Abs.L
namespace Go.Abs.L
open Go Go.Abs
def I64 (z:Int):Prop:=-9223372036854775808≤z∧z<9223372036854775808
def Box.ok (b:Box):Prop:=I64 b.X∧I64 b.Y∧I64 b.W∧I64 b.H
def Pane.ok (p:Pane):Prop:=I64 p.W∧I64 p.H∧I64 p.Kind
def Zc.ok (l:Zc):Prop:=l.Pane.ok∧I64 l.Count
def Zv.ok (k:Zv):Prop:=I64 k.W∧I64 k.H∧k.Panes.length≤maxLen∧∀ p∈k.Panes,p.ok
def Place.ok (p:Place):Prop:=I64 p.Pane∧p.Box.ok
def Zb.ok (p:Zb):Prop:=I64 p.Label∧I64 p.W∧I64 p.H∧p.Flaws.length≤maxLen∧∀ b∈p.Flaws,b.ok
def Zo.ok (s:Zo):Prop:=(s.Stock.length≤maxLen∧∀ p∈s.Stock,p.ok)∧(s.Opn.length≤maxLen∧∀ l∈s.Opn,l.ok)∧(s.Done.length≤maxLen∧∀ l∈s.Done,l.ok)∧I64 s.Lost∧I64 s.Came
inductive Ze.ok:Ze→Prop
 | mk {o a p:Int} {t:Bool} {ks:List Ze}:I64 o→I64 a→I64 p→ks.length≤maxLen→(∀ k∈ks,Ze.ok k)→Ze.ok (.mk o a p t ks)
end Go.Abs.L
namespace Go.Proofs.YtfnegoimdljanaaGreatDoor
open Go Go.Abs Go.Abs.E Go.Abs.L
set_option maxRecDepth 20000
set_option maxHeartbeats 4000000
theorem Zu (n lo hi:Int):v_ 49 [(.d (J n)),(.d (J lo)),(.d (J hi))] []=some ((.d (.bool ((decide (lo≤n∧n≤hi))))),[]):=by
 refine cE ?_;simp (maxSteps:=10^7) +contextual -implicitDefEqProofs only[go_sem,seval,Zpm]
theorem ZjZ (bX bY bW bH:Int):v_ 189 [(.d (.agg [J bX,J bY,J bW,J bH]))] []=some ((.d (.bool ((decide (VB (Box.mk bX bY bW bH)))))),[]):=by
 refine cE ?_;simp (maxSteps:=10^7) +contextual -implicitDefEqProofs only[go_sem,seval,Zm5,Zu];have h1:=wi (200-bW);have h2:=wi (200-bH);exact Zb3 (by simp only[VB];omega)
theorem Yl (bX bY bW bH:Int):v_ 175 [(.d (.agg [J bX,J bY,J bW,J bH]))] []=some ((.d (.bool ((decide (VB (Box.mk bX bY bW bH)))))),[]):=by
 refine cE ?_;simp (maxSteps:=10^7) +contextual -implicitDefEqProofs only[go_sem,seval,Zng];have h1:=wi (200-bW);have h2:=wi (200-bH);exact⟨fun h=>ZhB (by simp only[VB];omega),fun h=>Zb3 (by simp only[VB];omega)⟩
theorem Ztq (aX aY aW aH:Int) (bX bY bW bH:Int) (ha:VB (Box.mk aX aY aW aH)) (h1:R64 bX) (h2:R64 bY) (h3:R64 (bX+bW)) (h4:R64 (bY+bH)):v_ 190 [(.d (.agg [J aX,J aY,J aW,J aH])),(.d (.agg [J bX,J bY,J bW,J bH]))] []=some ((.d (.bool ((decide (QI (Box.mk aX aY aW aH) (Box.mk bX bY bW bH)))))),[]):=by
 refine cE ?_;simp only[VB] at ha;have e1:=wi (aX+aW) o_ o_;have e2:=wi (aY+aH) o_ o_;have e3:=wi (bX+bW) h3.1 h3.2;have e4:=wi (bY+bH) h4.1 h4.2;simp +contextual -implicitDefEqProofs only[go_sem,seval,Zna,e1,e2,e3,e4];exact Zb3 (by simp only[QI];omega)
theorem Zmi (aX aY aW aH:Int) (bX bY bW bH:Int) (ha:VB (Box.mk aX aY aW aH)) (hb:VB (Box.mk bX bY bW bH)) (hm:Yk (Box.mk aX aY aW aH) (Box.mk bX bY bW bH)):v_ 191 [(.d (.agg [J aX,J aY,J aW,J aH])),(.d (.agg [J bX,J bY,J bW,J bH]))] []=some (.tup [.d (Zg0 (Box.mk aX aY aW aH) (Box.mk bX bY bW bH)).enc,(.d (.bool true))],[]):=by
 refine cE ?_;simp only[VB,Yk] at ha hb hm;have e1:=wi (aX+aW) o_ o_;have e2:=wi (aY+aH) o_ o_;have e3:=wi (bX+bW) o_ o_;have e4:=wi (bY+bH) o_ o_;have e5:=wi (min (aX+aW) (bX+bW)-max aX bX) o_ o_;have e6:=wi (min (aY+aH) (bY+bH)-max aY bY) o_ o_;have n1:¬(min (aX+aW) (bX+bW)-max aX bX≤0):=o_
 have n2:¬(min (aY+aH) (bY+bH)-max aY bY≤0):=o_
 simp +contextual -implicitDefEqProofs only[go_sem,seval,Zln,e1,e2,e3,e4,e5,e6,n1,n2,Zg0]
theorem Zo2 (aX aY aW aH:Int) (bX bY bW bH:Int) (ha:VB (Box.mk aX aY aW aH)) (hb:VB (Box.mk bX bY bW bH)) (hm:¬Yk (Box.mk aX aY aW aH) (Box.mk bX bY bW bH)):v_ 191 [(.d (.agg [J aX,J aY,J aW,J aH])),(.d (.agg [J bX,J bY,J bW,J bH]))] []=some (.tup [.d (Box.enc ⟨0,0,0,0⟩),(.d (.bool false))],[]):=by
 refine cE ?_;simp only[VB,Yk] at ha hb hm;have e1:=wi (aX+aW) o_ o_;have e2:=wi (aY+aH) o_ o_;have e3:=wi (bX+bW) o_ o_;have e4:=wi (bY+bH) o_ o_;have e5:=wi (min (aX+aW) (bX+bW)-max aX bX) o_ o_;have e6:=wi (min (aY+aH) (bY+bH)-max aY bY) o_ o_;have n1:min (aX+aW) (bX+bW)-max aX bX≤0∨min (aY+aH) (bY+bH)-max aY bY≤0:=o_
 simp +contextual -implicitDefEqProofs only[go_sem,seval,Zln,e1,e2,e3,e4,e5,e6];omega
theorem ZbA (aX aY aW aH:Int) (bX bY bW bH:Int) (ha:VB (Box.mk aX aY aW aH)) (hb:VB (Box.mk bX bY bW bH)) (hm:Yk (Box.mk aX aY aW aH) (Box.mk bX bY bW bH)):v_ 180 [(.d (.agg [J aX,J aY,J aW,J aH])),(.d (.agg [J bX,J bY,J bW,J bH]))] []=some (.tup [.d (Zg0 (Box.mk aX aY aW aH) (Box.mk bX bY bW bH)).enc,(.d (.bool true))],[]):=by
 refine cE ?_;have aa:=ha;have ab:=hb;simp only[VB,Yk] at aa ab hm;have e1:=wi (aX+aW) o_ o_;have e2:=wi (aY+aH) o_ o_;have e3:=wi (bX+bW) o_ o_;have e4:=wi (bY+bH) o_ o_;have e5:=wi (min (aX+aW) (bX+bW)-max aX bX) o_ o_;have e6:=wi (min (aY+aH) (bY+bH)-max aY bY) o_ o_;have n1:¬(min (aX+aW) (bX+bW)≤max aX bX):=o_
 have n2:¬(min (aY+aH) (bY+bH)≤max aY bY):=o_
 simp +contextual -implicitDefEqProofs only[go_sem,seval,Zdc,Yl,ha,hb,e1,e2,e3,e4,e5,e6,n1,n2,Zg0]
theorem ZdA (aX aY aW aH:Int) (bX bY bW bH:Int) (hm:¬(VB (Box.mk aX aY aW aH)∧VB (Box.mk bX bY bW bH)∧Yk (Box.mk aX aY aW aH) (Box.mk bX bY bW bH))):v_ 180 [(.d (.agg [J aX,J aY,J aW,J aH])),(.d (.agg [J bX,J bY,J bW,J bH]))] []=some (.tup [.d (Box.enc ⟨0,0,0,0⟩),(.d (.bool false))],[]):=by
 refine cE ?_;by_cases ha:VB (Box.mk aX aY aW aH)
 ·by_cases hb:VB (Box.mk bX bY bW bH)
  ·have aa:=ha;have ab:=hb;simp only[ha,hb,true_and] at hm;simp only[VB,Yk] at aa ab hm;have e1:=wi (aX+aW) o_ o_;have e2:=wi (aY+aH) o_ o_;have e3:=wi (bX+bW) o_ o_;have e4:=wi (bY+bH) o_ o_;simp +contextual -implicitDefEqProofs only[go_sem,seval,Zdc,Yl,ha,hb,e1,e2,e3,e4];omega
  ·simp +contextual -implicitDefEqProofs only[go_sem,seval,Zdc,Yl,ha,hb]
 ·simp +contextual -implicitDefEqProofs only[go_sem,seval,Zdc,Yl,ha]
theorem Zaw (aX aY aW aH:Int) (bX bY bW bH:Int):v_ 177 [(.d (.agg [J aX,J aY,J aW,J aH])),(.d (.agg [J bX,J bY,J bW,J bH]))] []=some ((.d (.bool ((decide (VB (Box.mk aX aY aW aH)∧VB (Box.mk bX bY bW bH)∧QI (Box.mk aX aY aW aH) (Box.mk bX bY bW bH)))))),[]):=by
 refine cE ?_;by_cases hm:VB (Box.mk aX aY aW aH)∧VB (Box.mk bX bY bW bH)∧Yk (Box.mk aX aY aW aH) (Box.mk bX bY bW bH)
 ·obtain⟨ha,hb,hm⟩:=hm;simp +contextual -implicitDefEqProofs only[go_sem,seval,ZgW,ZbA _ _ _ _ _ _ _ _ ha hb hm,Zg0];simp only[VB] at ha hb;simp only[Yk] at hm;exact Zb3 (by simp only[VB,QI];omega)
 ·simp +contextual -implicitDefEqProofs only[go_sem,seval,ZgW,ZdA _ _ _ _ _ _ _ _ hm];have:¬(VB (Box.mk aX aY aW aH)∧VB (Box.mk bX bY bW bH)∧QI (Box.mk aX aY aW aH) (Box.mk bX bY bW bH)):=by
   intro⟨h1,h2,h3⟩;refine hm ⟨h1,h2,?_⟩;simp only[VB,QI] at h1 h2 h3;simp only[Yk];omega
  exact ZhB this
theorem Vb (pW pH:Int) (pT:Bool) (pK:Int):v_ 133 [(.d (.agg [J pW,J pH,.bool pT,J pK]))] []=some ((.d (.bool ((decide (VP (Pane.mk pW pH pT pK)))))),[]):=by
 refine cE ?_;simp (maxSteps:=10^7) +contextual -implicitDefEqProofs only[go_sem,seval,Zkk,Zu]
 first | exact Zb3 (by simp only[VP];omega) | skip
theorem Jr (pW pH:Int) (pT:Bool) (pK:Int):v_ 79 [(.d (.agg [J pW,J pH,.bool pT,J pK]))] []=some ((.d (.bool ((decide (VP (Pane.mk pW pH pT pK)))))),[]):=by
 refine cE ?_;simp (maxSteps:=10^7) +contextual -implicitDefEqProofs only[go_sem,seval,Zkq]
 first | exact Zb3 (by simp only[VP];omega) | skip
def XH:Nat→List Int→Int→Int
 | _,[],_=>-1
 | k,x :: l,n=>if x=n then (k:Int) else XH (k+1) l n
theorem Zr2 {l:List Int} {k:Nat} {x n:Int} (hx:l[k]?=some x):XH k (l.drop k) n=if x=n then (k:Int) else XH (k+1) (l.drop (k+1)) n:=by
 have h:=(Kc.1 hx)
 obtain⟨h1,h2⟩:=h;rw[Ku h1,h2,XH]
theorem Zmj (l:List Int) (n:Int) (hl:l.length<4611686018427387904):v_ 192 [.d (.sl (l.map XA)),(.d (J n))] []=some ((.d (J (XH 0 l n))),[]):=by
 refine cE ?_;simp (maxSteps:=10^7) +contextual -implicitDefEqProofs only[go_sem,seval,Zpi];refine LO (α:=Nat) (fun k=>[(5,.d (J (k:Int)))]) (fun _=>[]) (fun k=>k≤l.length∧XH k (l.drop k) n=XH 0 l n) (fun k=>l.length-k) 0 ⟨o_,rfl⟩ ?_;intro k ⟨hk,hp⟩ ih;by_cases aa:k<l.length
 ·obtain⟨x,hx⟩:=Zn aa;rw[Zr2 hx] at hp;have hw:=Zg (k:=k) o_;simp +contextual -implicitDefEqProofs only[go_sem,seval,hx,aa,hw];refine⟨fun h=>?_,fun h=>ih (k+1) _ ⟨o_,?_⟩ o_ ?_⟩
  ·rw[Kg h] at hp;rw[← hp]
  ·rw[Kd h] at hp;exact hp
  ·simp +contextual -implicitDefEqProofs only[go_sem,seval]
 ·have:k=l.length:=o_
  subst this;simp +contextual -implicitDefEqProofs only[go_sem,seval];rw[← hp];simp[XH]
theorem Zr3 (bs:List UInt8):v_ 32 [.d (.sl (bs.map YU))] []=some (.ptr 0 0,[.box [.d (.sl ((bs.take 2000).map YU)),(.d (J 0))]]):=by
 refine cE ?_;by_cases h:2000<bs.length
 ·have h1:(2000:Int)<bs.length:=o_
  have h2:(2000:Int)≤bs.length:=o_
  simp +contextual -implicitDefEqProofs only[go_sem,seval,ZeJ,h1,h2]
 ·have h1:¬(2000:Int)<bs.length:=o_
  have h2:bs.take 2000=bs:=KH o_;simp +contextual -implicitDefEqProofs only[go_sem,seval,ZeJ,h1,h2]
theorem Zjs (bs:List UInt8) (p:Nat) (n:Int) (hb:bs.length≤2000) (hp:p<1099511627776) :
  ∃ v:Int,v_ 67 [.ptr 0 0,(.d (J n))] [.box [.d (.sl (bs.map YU)),(.d (J p))]]=some ((.d (J v)),[.box [.d (.sl (bs.map YU)),(.d (J ((p+1:Nat))))]])∧0≤v∧(1≤n→v<n):=by
 have hw:=Zg (k:=p) o_;by_cases hn:n<1
 ·refine⟨0,?_,o_,o_⟩;refine cE ?_;simp (maxSteps:=10^7) +contextual -implicitDefEqProofs only[go_sem,seval,VM,hw,hn]
 ·by_cases hl:bs.length=0
  ·refine⟨0,?_,o_,o_⟩;refine cE ?_;simp (maxSteps:=10^7) +contextual -implicitDefEqProofs only[go_sem,seval,VM,hw,hn,hl]
  ·have ae : ¬(bs.length:Int)=0:=o_
   have hs:IntKind.i64.wrap (((p+1:Nat):Int)-1)=(p:Int):=by rw[W4 o_ o_];omega
   have af:¬n=0:=o_
   by_cases ab:p<bs.length
   ·obtain⟨x,hx⟩:=Zn ab;have ai:(x.toNat:Int)<256:=by have:=x.toNat_lt;omega
    have aj:IntKind.i64.wrap (x.toNat:Int)=(x.toNat:Int):=W4 o_ o_;refine⟨(x.toNat:Int).tmod n,?_,Int.tmod_nonneg _ o_,fun _=>Int.tmod_lt_of_pos _ o_⟩;refine cE ?_;simp (maxSteps:=10^7) +contextual -implicitDefEqProofs only[go_sem,seval,VM,hw,hn,ae,hs,ab,hx,YU,aj,af]
   ·have aa:0<bs.length:=o_
    obtain⟨x,hx⟩:=Zn (l:=bs) (k:=p % bs.length) (Nat.mod_lt _ aa);obtain⟨y,hy⟩:=Zn (l:=bs) (k:=(p*7+3) % bs.length) (Nat.mod_lt _ aa);have ai:(x.toNat:Int)<256:=by have:=x.toNat_lt;omega
    have aq:(y.toNat:Int)<256:=by have:=y.toNat_lt;omega
    have e1:((p:Int)).tmod (bs.length:Int)=((p % bs.length:Nat):Int):=(Int.ofNat_tmod p bs.length).symm;have e2:IntKind.i64.wrap ((p:Int)*7)=((p*7:Nat):Int):=by rw[W4 o_ o_];omega
    have e3:IntKind.i64.wrap (((p*7:Nat):Int)+3)=((p*7+3:Nat):Int):=by rw[W4 o_ o_];omega
    have e4:((p*7+3:Nat):Int).tmod (bs.length:Int)=(((p*7+3) % bs.length:Nat):Int):=(Int.ofNat_tmod _ _).symm;obtain⟨q,ag,hq⟩:∃ q:Nat,q=p / bs.length∧q≤p:=⟨_,rfl,Nat.div_le_self _ _⟩
    have e5:((p:Int)).tdiv (bs.length:Int)=(q:Int):=by rw[ag];exact(Int.ofNat_tdiv p bs.length).symm
    clear ag;have w1:IntKind.i64.wrap (x.toNat:Int)=(x.toNat:Int):=W4 o_ o_;have w2:IntKind.i64.wrap (y.toNat:Int)=(y.toNat:Int):=W4 o_ o_;have w3:=wi ((x.toNat:Int)*131) o_ o_;have w4:=wi ((y.toNat:Int)*1117) o_ o_;have w5:=wi ((x.toNat:Int)*131+(y.toNat:Int)*1117) o_ o_;have w6:=wi ((p:Int)*29) o_ o_;have w7:=wi ((x.toNat:Int)*131+(y.toNat:Int)*1117+(p:Int)*29) o_ o_;have w8:=wi ((q:Int)) o_ o_;have w9:=wi ((q:Int)*53) o_ o_;have ah:=wi ((x.toNat:Int)*131+(y.toNat:Int)*1117+(p:Int)*29+(q:Int)*53) o_ o_
    obtain⟨t,ht⟩:∃ t:Int,t=(x.toNat:Int)*131+(y.toNat:Int)*1117+(p:Int)*29+(q:Int)*53:=⟨_,rfl⟩
    have ad:0≤t:=o_
    have ak:t<4611686018427387904:=o_
    have al:0≤t.tdiv 64:=Int.tdiv_nonneg ad o_;have am:t.tdiv 64<4611686018427387904:=by
     rw[Int.tdiv_eq_ediv_of_nonneg ad];omega
    have an:=wi (t.tdiv 64) o_ o_;obtain⟨z,ao,ar,hz⟩:=ZBL ad ak al am;rw[← ht] at ah;refine⟨z.tmod n,?_,Int.tmod_nonneg _ ao,fun _=>Int.tmod_lt_of_pos _ o_⟩;have ap:Jc .xor .i64 .i64 t (t.tdiv 64)=some (.d (J z)):=by simp only[Jc,Ud,asD,Zh,Km,hz]
    refine cE ?_;simp (maxSteps:=10^7) +contextual -implicitDefEqProofs only[go_sem,seval,VM,hw,hn,ae,hs,ab,YU,af,e1,e2,e3,e4,e5,hx,hy,w1,w2,w3,w4,w5,w6,w7,w8,w9,ah,← ht,an,ap]
open Classical in
noncomputable def Qc (bs:List UInt8) (p:Nat) (n:Int):Int:=if h:bs.length≤2000∧p<1099511627776 then (Zjs bs p n h.1 h.2).choose else 0
theorem ZV (bs:List UInt8) (p:Nat) (n:Int) (hb:bs.length≤2000) (hp:p<1099511627776) :
  v_ 67 [.ptr 0 0,(.d (J n))] [.box [.d (.sl (bs.map YU)),(.d (J p))]]=some ((.d (J (Qc bs p n))),[.box [.d (.sl (bs.map YU)),(.d (J ((p+1:Nat))))]]):=by
 have h:bs.length≤2000∧p<1099511627776:=⟨hb,hp⟩
 unfold Qc;rw[dif_pos h];exact(Zjs bs p n hb hp).choose_spec.1
theorem XN (bs:List UInt8) (p:Nat) (n:Int):0≤Qc bs p n:=by
 unfold Qc;split
 ·rename_i h;exact(Zjs bs p n h.1 h.2).choose_spec.2.1
 ·omega
theorem WQ (bs:List UInt8) (p:Nat) (n:Int) (hn:1≤n):Qc bs p n<n:=by
 unfold Qc;split
 ·rename_i h;exact(Zjs bs p n h.1 h.2).choose_spec.2.2 hn
 ·omega
theorem Zcq (bs:List UInt8) (p:Nat) (l:List Int) (hb:bs.length≤2000) (hp:p<1099511627776) (hl:1≤l.length) :
  ∃ v:Int,v∈l∧v_ 34 [.ptr 0 0,.d (.sl (l.map XA))] [.box [.d (.sl (bs.map YU)),(.d (J p))]]=some ((.d (J v)),[.box [.d (.sl (bs.map YU)),(.d (J ((p+1:Nat))))]]):=by
 have h0:=XN bs p l.length;have h1:=WQ bs p l.length o_;obtain⟨i,hi⟩:∃ i:Nat,Qc bs p (l.length:Int)=(i:Int):=⟨(Qc bs p (l.length:Int)).toNat,o_⟩
 obtain⟨v,hv⟩:=Zn (l:=l) (k:=i) o_;refine⟨v,Kb hv,?_⟩;refine cE ?_;simp (maxSteps:=10^7) +contextual -implicitDefEqProofs only[go_sem,seval,ZiM,ZV bs p _ hb hp,hi,hv]
theorem Xo (pO pA pP:Int) (pT:Bool) (pK:List D):v_ 196 [.d (.agg [J pO,J pA,J pP,.bool pT,.sl pK])] []=some ((.d (.bool (decide (pO=2∨pO=3)))),[]):=by
 refine cE ?_;simp (maxSteps:=10^7) +contextual -implicitDefEqProofs only[go_sem,seval,Zvq]
theorem Wu (pO pA pP:Int) (pT:Bool) (pK:List D):v_ 245 [.d (.agg [J pO,J pA,J pP,.bool pT,.sl pK])] []=some ((.d (.bool (decide (pO=2∨pO=3)))),[]):=by
 refine cE ?_;simp (maxSteps:=10^7) +contextual -implicitDefEqProofs only[go_sem,seval,Zvr]
theorem Zcr:∀ (n:Nat) (p:Ze),p.nodes≤n→v_ 164 [.d p.enc] []=some ((.d (J (Zt 255 (QS p)))),[])
 | 0,.mk o a p t ks,hn=>by simp[Ze.nodes] at hn
 | n+1,.mk o a p t ks,hn=>by
  by_cases ho:o=2∨o=3
  ·by_cases hk:ks.length=2
   ·obtain⟨x,hx⟩:=Zn (l:=ks) (k:=0) o_;obtain⟨y,hy⟩:=Zn (l:=ks) (k:=1) o_;have aa:=Zcr n x (Zjp hn hx);have ab:=Zcr n y (Zjp hn hy);rw[ZuR ho hk hx hy];obtain⟨lx,ae⟩:∃ l,l=QS x:=⟨_,rfl⟩
    obtain⟨ly,af⟩:∃ l,l=QS y:=⟨_,rfl⟩
    rw[← ae] at aa ⊢;rw[← af] at ab ⊢;have rx:=Zby 255 o_ lx;have ry:=Zby 255 o_ ly;have ad:(ks.length:Int)=2:=o_
    by_cases hp:p=0
    ·cases t with
     | true=>
      have hb:=Zf1 255 o a p true lx ly (by simp);rw[hb];refine cE ?_;simp (maxSteps:=10^7) +contextual -implicitDefEqProofs only[go_sem,seval,Q5,Xo,ho,hp]
     | false=>
      subst hp;rw[ZzE];obtain⟨sx,ag⟩:∃ s,s=Zt 255 lx:=⟨_,rfl⟩
      obtain⟨sy,ah⟩:∃ s,s=Zt 255 ly:=⟨_,rfl⟩
      rw[← ag] at aa rx ⊢;rw[← ah] at ab ry ⊢;have w1:=wi (1+sx) o_ o_;have w2:=wi (1+sx+sy) o_ o_;refine cE ?_;simp (maxSteps:=10^7) +contextual -implicitDefEqProofs only[go_sem,seval,Q5,Xo,ho,ad];refine ZE Xs Ms ?_;simp +contextual -implicitDefEqProofs only[go_sem,seval,ad,hx,hy,aa,ab,w1,w2];intro h;refine ZE Xs Ms ?_;simp +contextual -implicitDefEqProofs only[go_sem,seval,ad,hx,hy,aa,ab,w1,w2,h];intro h';refine ZE Xs Ms ?_;simp +contextual -implicitDefEqProofs only[go_sem,seval,ad,hx,hy,aa,ab,w1,w2,h,h']
    ·have hb:=Zf1 255 o a p t lx ly (by simp[hp]);rw[hb];refine cE ?_;simp (maxSteps:=10^7) +contextual -implicitDefEqProofs only[go_sem,seval,Q5,Xo,ho,hp]
   ·rw[ZnP _ _ _ _ _ ho hk];refine cE ?_;have ai : ¬(ks.length:Int)=2:=o_
    simp +contextual -implicitDefEqProofs only[go_sem,seval,Q5,Xo,ho,ai,Zt]
  ·rw[ZrY ho];by_cases h1:ks.length=0∧a=0∧o=1
   ·rw[Kg h1];obtain⟨h1,rfl,rfl⟩:=h1;refine cE ?_;simp (maxSteps:=10^7) +contextual -implicitDefEqProofs only[go_sem,seval,Q5,Xo,ho,h1,Zt,BT.cnt];refine ZE Xs Ms ?_;simp +contextual -implicitDefEqProofs only[go_sem,seval,h1]
   ·rw[Kd h1];by_cases h2:ks.length=0∧a=0∧o=0∧p=0∧t=false
    ·rw[Kg h2];obtain⟨h2,rfl,rfl,rfl,rfl⟩:=h2;refine cE ?_;simp (maxSteps:=10^7) +contextual -implicitDefEqProofs only[go_sem,seval,Q5,Xo,ho,h2,Zt,BT.cnt];refine ZE Xs Ms ?_;simp +contextual -implicitDefEqProofs only[go_sem,seval,h2]
    ·rw[Kd h2];by_cases c1:ks.length=0
     ·by_cases c2:a=0
      ·by_cases c3:o=1
       ·exact absurd ⟨c1,c2,c3⟩ h1
       ·by_cases c4:o=0
        ·by_cases c5:p=0
         ·cases t with
          | false=>exact absurd ⟨c1,c2,c4,c5,rfl⟩ h2
          | true=>
           refine cE ?_;simp (maxSteps:=10^7) +contextual -implicitDefEqProofs only[go_sem,seval,Q5,Xo,ho,c1,c2,c3,c4,c5,Zt]
         ·refine cE ?_;simp (maxSteps:=10^7) +contextual -implicitDefEqProofs only[go_sem,seval,Q5,Xo,ho,c1,c2,c3,c4,c5,Zt]
        ·refine cE ?_;simp (maxSteps:=10^7) +contextual -implicitDefEqProofs only[go_sem,seval,Q5,Xo,ho,c1,c2,c3,c4,Zt]
      ·refine cE ?_;simp (maxSteps:=10^7) +contextual -implicitDefEqProofs only[go_sem,seval,Q5,Xo,ho,c1,c2,Zt]
     ·have aj : ¬(ks.length:Int)=0:=o_
      refine cE ?_;simp (maxSteps:=10^7) +contextual -implicitDefEqProofs only[go_sem,seval,Q5,Xo,ho,aj,Zt]
theorem Zd1 (p:Ze):v_ 164 [.d p.enc] []=some ((.d (J (Zt 255 (QS p)))),[]):=Zcr _ p (Kr _)
theorem Zpx (ps:List Pane) (hl:ps.length<4611686018427387904):v_ 244 [(.d (.sl (ps.map Pane.enc)))] []=some ((.d (.bool (decide (ps.length≤24∧VPs ps)))),[]):=by
 refine cE ?_;simp (maxSteps:=10^7) +contextual -implicitDefEqProofs only[go_sem,seval,ZiV];refine LO (α:=Nat) (fun k=>[(3,.d (J (k:Int)))]) (fun _=>[]) (fun k=>k≤ps.length∧(VPs ps↔VPs (ps.drop k))) (fun k=>ps.length-k) 0 ⟨o_,by simp⟩ ?_;intro k ⟨hk,hp⟩ ih;by_cases aa:k<ps.length
 ·obtain⟨x,hx⟩:=Zn aa;rw[ZxL hx] at hp;have hw:=Zg (k:=k) o_;simp +contextual -implicitDefEqProofs only[go_sem,seval,hx,aa,hw,Vb];refine⟨fun h=>ZhB (fun hh=>h (hp.1 hh.2).1),fun h=>ih (k+1) _ ⟨o_,?_⟩ o_ ?_⟩
  ·rw[hp];exact⟨fun hh=>hh.2,fun hh=>⟨h,hh⟩⟩
  ·simp +contextual -implicitDefEqProofs only[go_sem,seval]
 ·have:k=ps.length:=o_
  subst this;simp +contextual -implicitDefEqProofs only[go_sem,seval];have hv:VPs ps:=hp.2 (by simp[VPs]);exact Zb3 ⟨fun h=>⟨o_,hv⟩,fun h=>by omega⟩
theorem Js (kW kH:Int) (kP:List Pane) (hl:kP.length<4611686018427387904):v_ 225 [(.d (.agg [J kW,J kH,.sl (kP.map Pane.enc)]))] []=some ((.d (.bool (decide (VW (Zv.mk kW kH kP))))),[]):=by
 refine cE ?_;simp (maxSteps:=10^7) +contextual -implicitDefEqProofs only[go_sem,seval,Zkg,Zu,Zpx kP hl];exact Zb3 (by simp only[VW,and_assoc])
theorem Wv (kW kH:Int) (kP:List Pane):v_ 181 [(.d (.agg [J kW,J kH,.sl (kP.map Pane.enc)]))] []=some ((.d (.bool (decide (VW (Zv.mk kW kH kP))))),[]):=by
 refine cE ?_;by_cases h0:((((kW<1∨200<kW)∨kH<1)∨200<kH)∨(24:Int)<kP.length)
 ·simp +contextual -implicitDefEqProofs only[go_sem,seval,ZeM,h0];exact ZhB (by simp only[VW];omega)
 ·simp +contextual -implicitDefEqProofs only[go_sem,seval,ZeM,h0];refine LO (α:=Nat) (fun k=>[(32,.d (J (k:Int)))]) (fun _=>[]) (fun k=>k≤kP.length∧(VPs kP↔VPs (kP.drop k))) (fun k=>kP.length-k) 0 ⟨o_,by simp⟩ ?_;intro k ⟨hk,hp⟩ ih;by_cases aa:k<kP.length
  ·obtain⟨x,hx⟩:=Zn aa;rw[ZxL hx] at hp;have hw:=Zg (k:=k) o_;simp +contextual -implicitDefEqProofs only[go_sem,seval,hx,aa,hw,Jr];refine⟨fun h=>ZhB (fun hh=>h (hp.1 hh.2.2.2.2.2).1),fun h=>ih (k+1) _ ⟨o_,?_⟩ o_ ?_⟩
   ·rw[hp];exact⟨fun hh=>hh.2,fun hh=>⟨h,hh⟩⟩
   ·simp +contextual -implicitDefEqProofs only[go_sem,seval,h0]
  ·have:k=kP.length:=o_
   subst this;simp +contextual -implicitDefEqProofs only[go_sem,seval];have hv:VPs kP:=hp.2 (by simp[VPs]);exact ZAC (by simp only[VW];exact⟨o_,o_,o_,o_,o_,hv⟩)
theorem Zaj:∀ (n:Nat) (p:Ze),p.nodes≤n→∀ m:Int,-10≤m→m≤255→v_ 128 [.d p.enc,(.d (J m))] []=some ((.d (J (Zt m (QS p)))),[])
 | 0,.mk o a p t ks,hn,m,_,_=>by simp[Ze.nodes] at hn
 | n+1,.mk o a p t ks,hn,m,hm1,hm2=>by
  by_cases hm:m<1
  ·rw[ZzF hm];refine cE ?_;simp (maxSteps:=10^7) +contextual -implicitDefEqProofs only[go_sem,seval,ZR,hm]
  by_cases ho:o=2∨o=3
  ·have al:¬o=0:=o_
   have am:¬o=1:=o_
   by_cases hk:ks.length=2
   ·obtain⟨x,hx⟩:=Zn (l:=ks) (k:=0) o_;obtain⟨y,hy⟩:=Zn (l:=ks) (k:=1) o_;rw[ZuR ho hk hx hy];have aa:(ks.length:Int)=2:=o_
    by_cases hp:p=0
    ·cases t with
     | true=>
      have hb:=Zf1 m o a p true (QS x) (QS y) (by simp);rw[hb];refine cE ?_;rcases ho with ho | ho<;>simp +contextual -implicitDefEqProofs only[go_sem,seval,ZR,ho,hp,hm,aa]
     | false=>
      subst hp;rw[ZxK];have ag:=Zaj n x (Zjp hn hx) (m-1) o_ o_;have rx:=Zby (m-1) o_ (QS x);have ab:=Zaj n y (Zjp hn hy) (m-1-Zt (m-1) (QS x)) o_ o_;have ry:=Zby (m-1-Zt (m-1) (QS x)) o_ (QS y);obtain⟨sy,ah⟩:∃ s,s=Zt (m-1-Zt (m-1) (QS x)) (QS y):=⟨_,rfl⟩
      rw[← ah] at ab ry ⊢;obtain⟨sx,ai⟩:∃ s,s=Zt (m-1) (QS x):=⟨_,rfl⟩
      rw[← ai] at ag ab rx ry ⊢;clear ai ah;have w0:=wi (m-1) o_ o_;have w1:=wi (m-1-sx) o_ o_;have w2:=wi (1+sx) o_ o_;have w3:=wi (1+sx+sy) o_ o_;refine cE ?_;rcases ho with ho | ho<;>simp +contextual -implicitDefEqProofs only[go_sem,seval,ZR,ho,hm,aa,hx,hy,ag,ab,w0,w1,w2,w3]
    ·have hb:=Zf1 m o a p t (QS x) (QS y) (by simp[hp]);rw[hb];refine cE ?_;rcases ho with ho | ho<;>simp +contextual -implicitDefEqProofs only[go_sem,seval,ZR,ho,hp,hm,aa]
   ·rw[ZnP _ _ _ _ _ ho hk];have ak : ¬(ks.length:Int)=2:=o_
    refine cE ?_;rcases ho with ho | ho<;>simp +contextual -implicitDefEqProofs only[go_sem,seval,ZR,ho,ak,hm,Zt]
  ·rw[ZrY ho];have ad : ¬o=2:=o_
   have ae : ¬o=3:=o_
   have aj : (1:Int)≤m:=o_
   by_cases h1:ks.length=0∧a=0∧o=1
   ·rw[Kg h1];obtain⟨h1,rfl,rfl⟩:=h1;refine cE ?_;simp (maxSteps:=10^7) +contextual -implicitDefEqProofs only[go_sem,seval,ZR,h1,hm,Zt,BT.cnt,aj]
   ·rw[Kd h1];by_cases h2:ks.length=0∧a=0∧o=0∧p=0∧t=false
    ·rw[Kg h2];obtain⟨h2,rfl,rfl,rfl,rfl⟩:=h2;refine cE ?_;simp (maxSteps:=10^7) +contextual -implicitDefEqProofs only[go_sem,seval,ZR,h2,hm,Zt,BT.cnt,aj]
    ·rw[Kd h2];by_cases c1:ks.length=0
     ·by_cases c2:a=0
      ·by_cases c3:o=1
       ·exact absurd ⟨c1,c2,c3⟩ h1
       ·by_cases c4:o=0
        ·by_cases c5:p=0
         ·cases t with
          | false=>exact absurd ⟨c1,c2,c4,c5,rfl⟩ h2
          | true=>
           refine cE ?_;simp (maxSteps:=10^7) +contextual -implicitDefEqProofs only[go_sem,seval,ZR,hm,c1,c2,c3,c4,c5,Zt]
         ·refine cE ?_;simp (maxSteps:=10^7) +contextual -implicitDefEqProofs only[go_sem,seval,ZR,hm,c1,c2,c3,c4,c5,Zt]
        ·refine cE ?_;simp (maxSteps:=10^7) +contextual -implicitDefEqProofs only[go_sem,seval,ZR,hm,c1,c2,c3,c4,ad,ae,Zt]
      ·refine cE ?_;by_cases c3:o=1
       ·simp +contextual -implicitDefEqProofs only[go_sem,seval,ZR,hm,c1,c2,c3,Zt]
       ·by_cases c4:o=0
        ·simp +contextual -implicitDefEqProofs only[go_sem,seval,ZR,hm,c1,c2,c3,c4,Zt]
        ·simp +contextual -implicitDefEqProofs only[go_sem,seval,ZR,hm,c1,c2,c3,c4,ad,ae,Zt]
     ·have af : ¬(ks.length:Int)=0:=o_
      refine cE ?_;by_cases c3:o=1
      ·simp +contextual -implicitDefEqProofs only[go_sem,seval,ZR,hm,af,c3,Zt]
      ·by_cases c4:o=0
       ·simp +contextual -implicitDefEqProofs only[go_sem,seval,ZR,hm,af,c3,c4,Zt]
       ·simp +contextual -implicitDefEqProofs only[go_sem,seval,ZR,hm,af,c3,c4,ad,ae,Zt]
theorem Zd2 (p:Ze):v_ 86 [.d p.enc] []=some ((.d (J (Zt 255 (QS p)))),[]):=by
 have h:=Zaj _ p (Kr _) 255 o_ o_;obtain⟨o,a,q,t,ks⟩:=p;rw[Ze.enc_mk] at h ⊢;refine cE ?_;simp (maxSteps:=10^7) +contextual -implicitDefEqProofs only[go_sem,seval,Zm8,h]
theorem ZbB (kW kH:Int) (kP:List Pane):v_ 127 [(.d (.agg [J kW,J kH,.sl (kP.map Pane.enc)]))] []=some (.d (.agg [J 0,J 0,J kW,J kH]),[]):=by
 refine cE ?_;simp (maxSteps:=10^7) +contextual -implicitDefEqProofs only[go_sem,seval,Zph]
theorem Zj0 {ps:List Pane} {i:Int} {t:Bool} {w h:Int} {k:Nat} {q:Pane} (hi:i=(k:Int)) (hq:ps[k]?=some q):XS ps i t w h=if t then q.Turns&&decide (¬q.W=q.H)&&decide (q.H=w)&&decide (q.W=h) else decide (q.W=w∧q.H=h):=by
 subst hi;simp[XS,hq]
theorem Zf2 {ps:List Pane} {i:Int} {t:Bool} {w h:Int} (hi:i<0∨(ps.length:Int)≤i):XS ps i t w h=false:=by
 unfold XS;rcases hi with hi | hi
 ·have:¬0≤i:=o_
  simp[this]
 ·have:ps[i.toNat]?=none:=K8 o_;simp[this]
theorem Zh1 (kW kH:Int) (kP:List Pane) (i:Int) (t:Bool) (w h:Int):v_ 182 [(.d (.agg [J kW,J kH,.sl (kP.map Pane.enc)])),(.d (J i)),(.d (.bool t)),(.d (J w)),(.d (J h))] []=some ((.d (.bool (XS kP i t w h))),[]):=by
 by_cases h0:i<0
 ·rw[Zf2 (.inl h0)];refine cE ?_;simp (maxSteps:=10^7) +contextual -implicitDefEqProofs only[go_sem,seval,Up,h0]
 ·by_cases h1:(kP.length:Int)≤i
  ·rw[Zf2 (.inr h1)];refine cE ?_;simp (maxSteps:=10^7) +contextual -implicitDefEqProofs only[go_sem,seval,Up,h0,h1]
  ·obtain⟨n,rfl⟩:∃ n:Nat,i=(n:Int):=⟨i.toNat,o_⟩
   obtain⟨q,hq⟩:=Zn (l:=kP) (k:=n) o_;have hn:¬kP.length≤n:=o_
   have aa : n<kP.length:=o_
   have ab:¬(n:Int)<0:=o_
   rw[Zj0 rfl hq];refine cE ?_;cases t
   ·simp +contextual -implicitDefEqProofs only[go_sem,seval,Up,ab,hn,hq,aa]
   ·simp +contextual -implicitDefEqProofs only[go_sem,seval,Up,ab,hn,hq,aa]
theorem Za3 (o a p:Int) (t:Bool) (ks:List D) (gX gY gW gH:Int) (ho:o=2) (h1:R64 (gX+a)) (h2:R64 (gW-a)):v_ 222 [.d (.agg [J o,J a,J p,.bool t,.sl ks]),(.d (.agg [J gX,J gY,J gW,J gH]))] [] =
  some (.tup [.d (.agg [J gX,J gY,J a,J gH]),.d (.agg [J (gX+a),J gY,J (gW-a),J gH])],[]):=by
 have w1:=wi (gX+a) h1.1 h1.2;have w2:=wi (gW-a) h2.1 h2.2;refine cE ?_;simp (maxSteps:=10^7) +contextual -implicitDefEqProofs only[go_sem,seval,JV,ho,w1,w2]
theorem Jt (o a p:Int) (t:Bool) (ks:List D) (gX gY gW gH:Int) (ho:¬o=2) (h1:R64 (gY+a)) (h2:R64 (gH-a)):v_ 222 [.d (.agg [J o,J a,J p,.bool t,.sl ks]),(.d (.agg [J gX,J gY,J gW,J gH]))] [] =
  some (.tup [.d (.agg [J gX,J gY,J gW,J a]),.d (.agg [J gX,J (gY+a),J gW,J (gH-a)])],[]):=by
 have w1:=wi (gY+a) h1.1 h1.2;have w2:=wi (gH-a) h2.1 h2.2;refine cE ?_;simp (maxSteps:=10^7) +contextual -implicitDefEqProofs only[go_sem,seval,JV,ho,w1,w2]
def inB (g:Box):Prop:=0≤g.X∧0≤g.Y∧0≤g.W∧0≤g.H∧g.X+g.W≤1000∧g.Y+g.H≤1000
theorem Uh (kW kH:Int) (kP:List Pane):∀ (b:BT) (gX gY gW gH:Int),inB (Box.mk gX gY gW gH)→v_ 231 [(.d (.agg [J kW,J kH,.sl (kP.map Pane.enc)])),.d b.plan.enc,(.d (.agg [J gX,J gY,J gW,J gH]))] []=some ((.d (.bool (XM kP b gW gH))),[])
 | .waste,gX,gY,gW,gH,hg=>by
  simp only[BT.plan,Ze.enc_mk];refine cE ?_;simp (maxSteps:=10^7) +contextual -implicitDefEqProofs only[go_sem,seval,Yj,XM]
 | .pane i t,gX,gY,gW,gH,hg=>by
  simp only[BT.plan,Ze.enc_mk];refine cE ?_;simp (maxSteps:=10^7) +contextual -implicitDefEqProofs only[go_sem,seval,Yj,Zh1,XM]
 | .cut d a l r,gX,gY,gW,gH,hg=>by
  simp only[inB] at hg;simp only[BT.plan,Ze.enc_mk];cases d with
  | true=>
   by_cases h1:a<1
   ·have h2:¬(1≤a∧a≤gW-1):=o_
    refine cE ?_;simp (maxSteps:=10^7) +contextual -implicitDefEqProofs only[go_sem,seval,Yj,XM,Qb,h1,h2]
   ·by_cases h2:gW≤a
    ·have h3:¬(1≤a∧a≤gW-1):=o_
     refine cE ?_;simp (maxSteps:=10^7) +contextual -implicitDefEqProofs only[go_sem,seval,Yj,XM,Qb,h1,h2,h3]
    ·have h3:1≤a∧a≤gW-1:=o_
     have e0:=Za3 2 a 0 false [l.plan.enc,r.plan.enc] gX gY gW gH rfl ⟨o_,o_⟩ ⟨o_,o_⟩;have e1:=Uh kW kH kP l gX gY a gH (by simp only[inB];omega);have e2:=Uh kW kH kP r (gX+a) gY (gW-a) gH (by simp only[inB];omega);refine cE ?_;simp (maxSteps:=10^7) +contextual -implicitDefEqProofs only[go_sem,seval,Yj,XM,Qb,h1,h2,h3,e0,e1,e2]
  | false=>
   by_cases h1:a<1
   ·have h2:¬(1≤a∧a≤gH-1):=o_
    refine cE ?_;simp (maxSteps:=10^7) +contextual -implicitDefEqProofs only[go_sem,seval,Yj,XM,Qb,h1,h2]
   ·by_cases h2:gH≤a
    ·have h3:¬(1≤a∧a≤gH-1):=o_
     refine cE ?_;simp (maxSteps:=10^7) +contextual -implicitDefEqProofs only[go_sem,seval,Yj,XM,Qb,h1,h2,h3]
    ·have h3:1≤a∧a≤gH-1:=o_
     have e0:=Jt 3 a 0 false [l.plan.enc,r.plan.enc] gX gY gW gH (by decide) ⟨o_,o_⟩ ⟨o_,o_⟩;have e1:=Uh kW kH kP l gX gY gW a (by simp only[inB];omega);have e2:=Uh kW kH kP r gX (gY+a) gW (gH-a) (by simp only[inB];omega);refine cE ?_;simp (maxSteps:=10^7) +contextual -implicitDefEqProofs only[go_sem,seval,Yj,XM,Qb,h1,h2,h3,e0,e1,e2]
theorem Zpy (kW kH:Int) (kP:List Pane) (i:Int) (t:Bool) (w h:Int) (hl:kP.length<4611686018427387904):v_ 226 [(.d (.agg [J kW,J kH,.sl (kP.map Pane.enc)])),.d (BT.pane i t).plan.enc,(.d (J w)),(.d (J h))] []=some ((.d (.bool (XS kP i t w h))),[]):=by
 have hw:=wi ((kP.length:Int)-1) o_ o_;simp only[BT.plan,Ze.enc_mk];by_cases h0:0≤i∧i≤(kP.length:Int)-1
 ·obtain⟨n,rfl⟩:∃ n:Nat,i=(n:Int):=⟨i.toNat,o_⟩
  obtain⟨q,hq⟩:=Zn (l:=kP) (k:=n) o_;rw[Zj0 rfl hq];refine cE ?_;cases t
  ·simp +contextual -implicitDefEqProofs only[go_sem,seval,Yh,Zu,h0,hw,hq]
  ·simp +contextual -implicitDefEqProofs only[go_sem,seval,Yh,Zu,h0,hw,hq]
 ·rw[Zf2 o_];refine cE ?_;simp (maxSteps:=10^7) +contextual -implicitDefEqProofs only[go_sem,seval,Yh,Zu,h0,hw]
theorem Ui (kW kH:Int) (kP:List Pane) (hl:kP.length<4611686018427387904):∀ (b:BT) (w h:Int),0≤w→w≤1000→0≤h→h≤1000→v_ 226 [(.d (.agg [J kW,J kH,.sl (kP.map Pane.enc)])),.d b.plan.enc,(.d (J w)),(.d (J h))] []=some ((.d (.bool (XM kP b w h))),[])
 | .waste,w,h,hw0,hw1,hh0,hh1=>by
  simp only[BT.plan,Ze.enc_mk];refine cE ?_;simp (maxSteps:=10^7) +contextual -implicitDefEqProofs only[go_sem,seval,Yh,XM]
 | .pane i t,w,h,hw0,hw1,hh0,hh1=>Zpy kW kH kP i t w h hl
 | .cut d a l r,w,h,hw0,hw1,hh0,hh1=>by
  have w1:=wi (w-1) o_ o_;have w2:=wi (h-1) o_ o_;simp only[BT.plan,Ze.enc_mk];cases d with
  | true=>
   by_cases h3:1≤a∧a≤w-1
   ·have w3:=wi (w-a) o_ o_;have e1:=Ui kW kH kP hl l a h o_ o_ hh0 hh1;have e2:=Ui kW kH kP hl r (w-a) h o_ o_ hh0 hh1;refine cE ?_;simp (maxSteps:=10^7) +contextual -implicitDefEqProofs only[go_sem,seval,Yh,XM,Qb,h3,Zu,w1,w2,w3,e1,e2]
   ·refine cE ?_;simp (maxSteps:=10^7) +contextual -implicitDefEqProofs only[go_sem,seval,Yh,XM,Qb,h3,Zu,w1,w2]
  | false=>
   by_cases h3:1≤a∧a≤h-1
   ·have w3:=wi (h-a) o_ o_;have e1:=Ui kW kH kP hl l w a hw0 hw1 o_ o_;have e2:=Ui kW kH kP hl r w (h-a) hw0 hw1 o_ o_;refine cE ?_;simp (maxSteps:=10^7) +contextual -implicitDefEqProofs only[go_sem,seval,Yh,XM,Qb,h3,Zu,w1,w2,w3,e1,e2]
   ·refine cE ?_;simp (maxSteps:=10^7) +contextual -implicitDefEqProofs only[go_sem,seval,Yh,XM,Qb,h3,Zu,w1,w2]
theorem Ju (kW kH:Int) (kP:List Pane) (p:Ze):v_ 205 [(.d (.agg [J kW,J kH,.sl (kP.map Pane.enc)])),.d p.enc] []=some ((.d (.bool (Va (Zv.mk kW kH kP) p))),[]):=by
 have hs:=Zd2 p;unfold Va;cases hb:QS p with
 | none=>
  obtain⟨o,a,q,t,ks⟩:=p;rw[hb] at hs;rw[Ze.enc_mk] at hs ⊢;refine cE ?_;simp (maxSteps:=10^7) +contextual -implicitDefEqProofs only[go_sem,seval,Us,Wv,hs,Zt]
 | some b=>
  have hp:=WP hb;rw[hb] at hs;have hc:=b.cnt_pos;have hz:=QV 255 b;by_cases hv:VW (Zv.mk kW kH kP)
  ·have aa:=hv;simp only[VW] at aa;have hf:=Uh kW kH kP b 0 0 kW kH (by simp only[inB];omega);rw[← hp] at hf;obtain⟨o,a,q,t,ks⟩:=p;rw[Ze.enc_mk] at hs hf ⊢;by_cases h2:b.cnt≤255
   ·have h3:Zt 255 (some b)=b.cnt:=o_
    have h4:(0:Int)<b.cnt:=o_
    rw[h3] at hs;refine cE ?_;simp (maxSteps:=10^7) +contextual -implicitDefEqProofs only[go_sem,seval,Us,Wv,ZbB,hs,hf,hv,h2,h4]
   ·have h3:Zt 255 (some b)=-1:=o_
    rw[h3] at hs;refine cE ?_;simp (maxSteps:=10^7) +contextual -implicitDefEqProofs only[go_sem,seval,Us,Wv,hs,hv,h2]
  ·obtain⟨o,a,q,t,ks⟩:=p;rw[Ze.enc_mk] at hs ⊢;refine cE ?_;simp (maxSteps:=10^7) +contextual -implicitDefEqProofs only[go_sem,seval,Us,Wv,hs,hv]
theorem Zh2 (kW kH:Int) (kP:List Pane) (p:Ze) (hl:kP.length<4611686018427387904):v_ 197 [(.d (.agg [J kW,J kH,.sl (kP.map Pane.enc)])),.d p.enc] []=some ((.d (.bool (Va (Zv.mk kW kH kP) p))),[]):=by
 have hs:=Zd1 p;unfold Va;cases hb:QS p with
 | none=>
  obtain⟨o,a,q,t,ks⟩:=p;rw[hb] at hs;rw[Ze.enc_mk] at hs ⊢;refine cE ?_;simp (maxSteps:=10^7) +contextual -implicitDefEqProofs only[go_sem,seval,Ur,Js kW kH kP hl,hs,Zt]
 | some b=>
  have hp:=WP hb;rw[hb] at hs;have hc:=b.cnt_pos;have hz:=QV 255 b;by_cases hv:VW (Zv.mk kW kH kP)
  ·have aa:=hv;simp only[VW] at aa;have hf:=Ui kW kH kP hl b kW kH o_ o_ o_ o_;rw[← hp] at hf;obtain⟨o,a,q,t,ks⟩:=p;rw[Ze.enc_mk] at hs hf ⊢;by_cases h2:b.cnt≤255
   ·have h3:Zt 255 (some b)=b.cnt:=o_
    have h4:(0:Int)<b.cnt:=o_
    rw[h3] at hs;refine cE ?_;simp (maxSteps:=10^7) +contextual -implicitDefEqProofs only[go_sem,seval,Ur,Js kW kH kP hl,hs,hf,hv,h2,h4]
   ·have h3:Zt 255 (some b)=-1:=o_
    rw[h3] at hs;refine cE ?_;simp (maxSteps:=10^7) +contextual -implicitDefEqProofs only[go_sem,seval,Ur,Js kW kH kP hl,hs,hv,h2]
  ·obtain⟨o,a,q,t,ks⟩:=p;rw[Ze.enc_mk] at hs ⊢;refine cE ?_;simp (maxSteps:=10^7) +contextual -implicitDefEqProofs only[go_sem,seval,Ur,Js kW kH kP hl,hs,hv]
theorem aF {α:Type} {l:List α} {g:α→D} (h:∀ x,(g x).flat=true):JY D.flat (l.map g)=true:=by
 induction l with
 | nil=>rfl
 | cons x l ih=>simp[JY,h,ih]
def plO:List Ze→Zm
 | []=>.row 5 [] true false
 | k :: r=>.tree 5 5 ((k :: r).map Ze.enc) none
@[go_sem] theorem ZAX:plO []=.row 5 [] true false:=rfl
@[go_sem] theorem plO_cons (k:Ze) (r:List Ze):plO (k :: r)=.tree 5 5 ((k :: r).map Ze.enc) none:=rfl
theorem Zf3:∀ {ks:List Ze},ks≠[]→plO ks=.tree 5 5 (ks.map Ze.enc) none
 | [],h=>absurd rfl h
 | _ :: _,_=>rfl
end Go.Proofs.YtfnegoimdljanaaGreatDoor
