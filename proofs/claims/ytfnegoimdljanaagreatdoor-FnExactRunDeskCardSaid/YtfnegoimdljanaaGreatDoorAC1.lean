/- Own text. -/
import Derived.Test.YtfnegoimdljanaaGreatDoorAbsLib
import Derived.Test.YtfnegoimdljanaaGreatDoorACode
import Derived.Test.YtfnegoimdljanaaGreatDoorAbsOkD
set_option linter.unusedVariables false
set_option linter.unusedSimpArgs false
namespace Go.Abs.L
open Go Go.Abs Go.Abs.E
inductive BT where
 | waste
 | pane (i:Int) (t:Bool)
 | cut (d:Bool) (a:Int) (l r:BT)
deriving DecidableEq,Inhabited
def Qb (d:Bool):Int:=if d then 2 else 3
def BT.plan:BT→Ze
 | .waste=>.mk 0 0 0 false []
 | .pane i t=>.mk 1 0 i t []
 | .cut d a l r=>.mk (Qb d) a 0 false [l.plan,r.plan]
def BT.cnt:BT→Nat
 | .waste=>1
 | .pane _ _=>1
 | .cut _ _ l r=>1+l.cnt+r.cnt
theorem BT.cnt_pos (b:BT):1≤b.cnt:=by cases b<;>simp[BT.cnt]<;>omega
def Ze.nodes:Ze→Nat
 | .mk _ _ _ _ ks=>1+nodesL ks
where nodesL:List Ze→Nat
 | []=>0
 | p :: r=>Ze.nodes p+nodesL r
def ZgK (o a p:Int) (t:Bool) (l r:Option BT):Option BT:=match l,r with
 | some x,some y=>if p=0∧t=false then some (.cut (decide (o=2)) a x y) else none
 | _,_=>none
mutual
def QU:Ze→Option BT
 | .mk o a p t ks=>if o=2∨o=3 then ZyM o a p t ks else
   if ks.length=0∧a=0∧o=1 then some (.pane p t) else
   if ks.length=0∧a=0∧o=0∧p=0∧t=false then some .waste else none
def ZyM (o a p:Int) (t:Bool):List Ze→Option BT
 | []=>none
 | x :: r=>ZCz o a p t (QU x) r
def ZCz (o a p:Int) (t:Bool) (l:Option BT):List Ze→Option BT
 | []=>none
 | y :: r=>match r with
  | []=>ZgK o a p t l (QU y)
  | _=>none
end
theorem ZqZ (o a p:Int) (t:Bool) (x y:Ze) (ho:o=2∨o=3):QU (.mk o a p t [x,y])=ZgK o a p t (QU x) (QU y):=by
 simp[QU,ZyM,ZCz,ho]
theorem Zno (o a p:Int) (t:Bool) (ks:List Ze) (ho:o=2∨o=3) (hk:ks.length≠2):QU (.mk o a p t ks)=none:=by
 match ks,hk with
 | [],_=>simp[QU,ZyM,ho]
 | [x],_=>simp[QU,ZyM,ZCz,ho]
 | [x,y],h=>simp at h
 | x :: y :: z :: r,_=>simp[QU,ZyM,ZCz,ho]
theorem XI:∀ b:BT,QU b.plan=some b
 | .waste=>by simp[BT.plan,QU]
 | .pane i t=>by simp[BT.plan,QU]
 | .cut d a l r=>by
  rw[BT.plan,ZqZ _ _ _ _ _ _ (by cases d<;>simp[Qb]),XI l,XI r];cases d<;>simp[ZgK,Qb]
theorem ZgL:∀ (n:Nat) (p:Ze) (b:BT),p.nodes≤n→QU p=some b→p=b.plan
 | 0,.mk o a p t ks,b,hn,_=>by simp[Ze.nodes] at hn
 | n+1,.mk o a p t ks,b,hn,h=>by
  by_cases ho:o=2∨o=3
  ·by_cases hk:ks.length=2
   ·match ks,hk with
    | [x,y],_=>
     rw[ZqZ _ _ _ _ _ _ ho] at h;simp only[Ze.nodes,Ze.nodes.nodesL] at hn;cases hx:QU x with
     | none=>simp[hx,ZgK] at h
     | some bx=>
      cases hy:QU y with
      | none=>simp[hx,hy,ZgK] at h
      | some bY=>
       have e1:=ZgL n x bx (by omega) hx;have e2:=ZgL n y bY (by omega) hy;simp only[hx,hy,ZgK] at h;split at h
       ·rename_i hc;cases h;obtain⟨rfl,rfl⟩:=hc;rw[BT.plan,← e1,← e2];rcases ho with rfl | rfl<;>rfl
       ·cases h
   ·rw[Zno _ _ _ _ _ ho hk] at h;cases h
  ·simp only[QU,ho,Kn] at h;split at h
   ·rename_i hc;cases h;obtain⟨h1,rfl,rfl⟩:=hc;cases ks with
    | nil=>rfl
    | cons x r=>simp at h1
   ·split at h
    ·rename_i hc;cases h;obtain⟨h1,rfl,rfl,rfl,rfl⟩:=hc;cases ks with
     | nil=>rfl
     | cons x r=>simp at h1
    ·cases h
theorem Ua {p:Ze} {b:BT} (h:QU p=some b):p=b.plan:=ZgL _ p b (Kp _) h
theorem ZvA {o a p:Int} {t:Bool} {ks:List Ze} {x y:Ze} (ho:o=2∨o=3) (hk:ks.length=2) (h0:ks[0]?=some x) (h1:ks[1]?=some y):QU (.mk o a p t ks)=ZgK o a p t (QU x) (QU y):=by
 match ks,hk with
 | [x',y'],_=>
  simp at h0 h1;subst h0;subst h1;exact ZqZ _ _ _ _ _ _ ho
theorem Zq0:∀ {ks:List Ze} {i:Nat} {x:Ze},ks[i]?=some x→x.nodes≤Ze.nodes.nodesL ks
 | [],i,x,h=>by simp at h
 | y :: ks,0,x,h=>by simp at h;subst h;simp[Ze.nodes.nodesL]
 | y :: ks,i+1,x,h=>by
  have:=Zq0 (ks:=ks) (i:=i) (x:=x) (by simpa using h);simp only[Ze.nodes.nodesL];omega
theorem ZjG {o a p:Int} {t:Bool} {ks:List Ze} {i:Nat} {x:Ze} {n:Nat} (hn:(Ze.mk o a p t ks).nodes≤n+1) (h:ks[i]?=some x):x.nodes≤n:=by
 have:=Zq0 h;simp only[Ze.nodes] at hn;omega
theorem Ze.enc_len (x:Ze):(Ze.enc x).cells.length=5:=by
 obtain⟨o,a,p,t,k⟩:=x;rw[Ze.enc_mk];rfl
theorem Ze.enc_agg (x:Ze):D.agg (Ze.enc x).cells=Ze.enc x:=by
 obtain⟨o,a,p,t,k⟩:=x;rw[Ze.enc_mk];rfl
theorem Ze.take_enc (x:Ze):(Ze.enc x).cells.take 5=(Ze.enc x).cells:=KJ (by rw[Ze.enc_len x];omega)
attribute [go_sem] Ze.enc_len Ze.enc_agg Ze.take_enc
theorem Zq1 {o a p:Int} {t:Bool} {ks:List Ze} (ho:¬(o=2∨o=3)):QU (.mk o a p t ks)=if ks.length=0∧a=0∧o=1 then some (.pane p t) else
   if ks.length=0∧a=0∧o=0∧p=0∧t=false then some .waste else none:=by
 simp only[QU,ho,Kn]
def Zu (m:Int):Option BT→Int
 | some b=>if (b.cnt:Int)≤m then (b.cnt:Int) else -1
 | none=>-1
theorem ZcD (m:Int) (h0:0≤m) (b:Option BT) : -1≤Zu m b∧Zu m b≤m∧Zu m b≠0:=by
 cases b with
 | none=>simp[Zu];omega
 | some b=>
  have:=b.cnt_pos;simp only[Zu];split<;>omega
theorem QZ (m:Int) (b:BT):((b.cnt:Int)≤m∧Zu m (some b)=b.cnt)∨(m<(b.cnt:Int)∧Zu m (some b)=-1):=by
 unfold Zu;by_cases h:(b.cnt:Int)≤m
 ·left;exact⟨h,Kg h⟩
 ·right;exact⟨by omega,Kd h⟩
theorem ZgM (m o a p:Int) (t:Bool) (l r:Option BT) (h:¬(p=0∧t=false)):Zu m (ZgK o a p t l r)=-1:=by
 cases l with
 | none=>rfl
 | some x=>cases r with
  | none=>rfl
  | some y=>simp only[ZgK,Kd h,Zu]
theorem ZAY (m o a:Int) (l r:Option BT):Zu m (ZgK o a 0 false l r)=if Zu m l<0∨Zu m r<0∨m<1+Zu m l+Zu m r then -1 else 1+Zu m l+Zu m r:=by
 cases l with
 | none=>simp[ZgK,Zu]
 | some x=>cases r with
  | none=>simp[ZgK,Zu]
  | some y=>
   have h1:=x.cnt_pos;have h2:=y.cnt_pos;have e:(BT.cut (decide (o=2)) a x y).cnt=1+x.cnt+y.cnt:=rfl;have e0:ZgK o a 0 false (some x) (some y)=some (BT.cut (decide (o=2)) a x y):=by simp[ZgK]
   rw[e0];have hx:=QZ m x;have hy:=QZ m y;have hc:=QZ m (BT.cut (decide (o=2)) a x y);rw[e] at hc;generalize Zu m (some x)=sx at *;generalize Zu m (some y)=sy at *;generalize Zu m (some (BT.cut (decide (o=2)) a x y))=sc at *;split<;>omega
theorem ZyN (m o a:Int) (l r:Option BT):Zu m (ZgK o a 0 false l r)=if Zu (m-1) l<0∨Zu (m-1-Zu (m-1) l) r<0 then -1 else 1+Zu (m-1) l+Zu (m-1-Zu (m-1) l) r:=by
 cases l with
 | none=>simp[ZgK,Zu]
 | some x=>cases r with
  | none=>simp[ZgK,Zu]
  | some y=>
   have h1:=x.cnt_pos;have h2:=y.cnt_pos;have e:(BT.cut (decide (o=2)) a x y).cnt=1+x.cnt+y.cnt:=rfl;have e0:ZgK o a 0 false (some x) (some y)=some (BT.cut (decide (o=2)) a x y):=by simp[ZgK]
   rw[e0];have hx:=QZ (m-1) x;have hy:=QZ (m-1-Zu (m-1) (some x)) y;have hc:=QZ m (BT.cut (decide (o=2)) a x y);rw[e] at hc;generalize Zu (m-1-Zu (m-1) (some x)) (some y)=sy at *;generalize Zu (m-1) (some x)=sx at *;generalize Zu m (some (BT.cut (decide (o=2)) a x y))=sc at *;split<;>omega
theorem ZAZ {m:Int} (h:m<1) (b:Option BT):Zu m b=-1:=by
 cases b with
 | none=>rfl
 | some b=>
  have:=b.cnt_pos;have:=QZ m b;omega
def XU (ps:List Pane) (i:Int) (t:Bool) (w h:Int):Bool:=decide (0≤i)&&(match ps[i.toNat]? with
 | some q=>if t then q.Turns&&decide (¬q.W=q.H)&&decide (q.H=w)&&decide (q.W=h) else decide (q.W=w∧q.H=h)
 | none=>false)
def XN (ps:List Pane):BT→Int→Int→Bool
 | .waste,_,_=>true
 | .pane i t,w,h=>XU ps i t w h
 | .cut d a l r,w,h=>if d then decide (1≤a∧a≤w-1)&&XN ps l a h&&XN ps r (w-a) h
   else decide (1≤a∧a≤h-1)&&XN ps l w a&&XN ps r w (h-a)
def VPs (ps:List Pane):Prop:=∀ q∈ps,VP q
instance (ps:List Pane):Decidable (VPs ps):=by unfold VPs;infer_instance
def VW (k:Zw):Prop:=1≤k.W∧k.W≤200∧1≤k.H∧k.H≤200∧k.Panes.length≤24∧VPs k.Panes
instance (k:Zw):Decidable (VW k):=by unfold VW;infer_instance
theorem ZyO {ps:List Pane} {k:Nat} {x:Pane} (hx:ps[k]?=some x):VPs (ps.drop k)↔VP x∧VPs (ps.drop (k+1)):=by
 obtain⟨h1,h2⟩:=Kb.1 hx;rw[Ku h1,h2];simp[VPs]
end Go.Abs.L
set_option linter.unusedVariables false
set_option linter.unusedSimpArgs false
namespace Go.Abs.L
open Go Go.Abs Go.Abs.E
structure Part where
 plan:Ze
 box:Box
def Part.enc (p:Part):D:=.agg (p.plan.enc.cells++[.int .i64 p.box.X,.int .i64 p.box.Y,.int .i64 p.box.W,.int .i64 p.box.H])
@[go_sem] theorem Part.enc_mk (o a p:Int) (t:Bool) (ks:List Ze) (x y w h:Int):Part.enc ⟨.mk o a p t ks,⟨x,y,w,h⟩⟩ =
  .agg [.int .i64 o,.int .i64 a,.int .i64 p,.bool t,.sl (ks.map Ze.enc),.int .i64 x,.int .i64 y,.int .i64 w,.int .i64 h]:=by
 simp only[Part.enc,Ze.enc_mk];rfl
theorem Part.enc_len (p:Part):(Part.enc p).cells.length=9:=by
 show (p.plan.enc.cells++_).length=9;rw[Kq,Ze.enc_len];rfl
@[go_sem] theorem uni_Part (l:List Part):uni 9 (l.map Part.enc)=True:=eq_true (ZbO l Part.enc_len)
def pt:BT→Int→Int→Int→Int→List Part
 | .waste,x,y,w,h=>[⟨BT.waste.plan,⟨x,y,w,h⟩⟩]
 | .pane i t,x,y,w,h=>[⟨(BT.pane i t).plan,⟨x,y,w,h⟩⟩]
 | .cut d a l r,x,y,w,h=>⟨(BT.cut d a l r).plan,⟨x,y,w,h⟩⟩ :: if d then pt l x y a h++pt r (x+a) y (w-a) h else pt l x y w a++pt r x (y+a) w (h-a)
def sp:BT→Int→Int→Int→Int→List Place
 | .waste,x,y,w,h=>[⟨-1,false,⟨x,y,w,h⟩⟩]
 | .pane i t,x,y,w,h=>[⟨i,t,⟨x,y,w,h⟩⟩]
 | .cut d a l r,x,y,w,h=>if d then sp l x y a h++sp r (x+a) y (w-a) h else sp l x y w a++sp r x (y+a) w (h-a)
def plc:BT→Int→Int→Int→Int→List Place
 | .waste,x,y,w,h=>[]
 | .pane i t,x,y,w,h=>[⟨i,t,⟨x,y,w,h⟩⟩]
 | .cut d a l r,x,y,w,h=>if d then plc l x y a h++plc r (x+a) y (w-a) h else plc l x y w a++plc r x (y+a) w (h-a)
def wst:BT→Int→Int→Int→Int→List Box
 | .waste,x,y,w,h=>[⟨x,y,w,h⟩]
 | .pane i t,x,y,w,h=>[]
 | .cut d a l r,x,y,w,h=>if d then wst l x y a h++wst r (x+a) y (w-a) h else wst l x y w a++wst r x (y+a) w (h-a)
def PN:BT→Prop
 | .waste=>True
 | .pane i _=>0≤i
 | .cut _ _ l r=>PN l∧PN r
def Xi (q:Part):Option Place:=match q.plan with
 | .mk o _ p t _=>if o=1 then some ⟨p,t,q.box⟩ else none
def X4 (q:Part):Option Box:=match q.plan with
 | .mk o _ _ _ _=>if o=0 then some q.box else none
theorem YN:∀ (b:BT) (x y w h:Int),(pt b x y w h).filterMap Xi=plc b x y w h
 | .waste,x,y,w,h=>rfl
 | .pane i t,x,y,w,h=>rfl
 | .cut d a l r,x,y,w,h=>by
  have e:Xi ⟨(BT.cut d a l r).plan,⟨x,y,w,h⟩⟩=none:=by cases d<;>rfl
  cases d<;>simp[pt,plc,LM,Lt,e,YN]
theorem Zga:∀ (b:BT) (x y w h:Int),(pt b x y w h).filterMap X4=wst b x y w h
 | .waste,x,y,w,h=>rfl
 | .pane i t,x,y,w,h=>rfl
 | .cut d a l r,x,y,w,h=>by
  have e:X4 ⟨(BT.cut d a l r).plan,⟨x,y,w,h⟩⟩=none:=by cases d<;>rfl
  cases d<;>simp[pt,wst,LM,Lt,e,Zga]
def ZeI (q:Place):Option Place:=if 0≤q.Pane then some q else none
def ZeJ (q:Place):Option Box:=if q.Pane<0 then some q.Box else none
theorem Znp:∀ (b:BT) (x y w h:Int),PN b→(sp b x y w h).filterMap ZeI=plc b x y w h
 | .waste,x,y,w,h,_=>rfl
 | .pane i t,x,y,w,h,hp=>by
  have hp:0≤i:=hp;simp[sp,plc,ZeI,hp]
 | .cut d a l r,x,y,w,h,hp=>by
  cases d<;>simp[sp,plc,LM,Znp l _ _ _ _ hp.1,Znp r _ _ _ _ hp.2]
theorem Znq:∀ (b:BT) (x y w h:Int),PN b→(sp b x y w h).filterMap ZeJ=wst b x y w h
 | .waste,x,y,w,h,_=>rfl
 | .pane i t,x,y,w,h,hp=>by
  have hp:¬i<0:=by have:0≤i:=hp;omega
  simp[sp,wst,ZeJ,hp]
 | .cut d a l r,x,y,w,h,hp=>by
  cases d<;>simp[sp,wst,LM,Znq l _ _ _ _ hp.1,Znq r _ _ _ _ hp.2]
theorem Jx:∀ (b:BT) (x y w h:Int),(pt b x y w h).length=b.cnt
 | .waste,x,y,w,h=>rfl
 | .pane i t,x,y,w,h=>rfl
 | .cut d a l r,x,y,w,h=>by
  cases d<;>simp[pt,BT.cnt,Jx]<;>omega
theorem Zfr:∀ (b:BT) (x y w h:Int),(sp b x y w h).length≤b.cnt
 | .waste,x,y,w,h=>by simp[sp,BT.cnt]
 | .pane i t,x,y,w,h=>by simp[sp,BT.cnt]
 | .cut d a l r,x,y,w,h=>by
  cases d
  ·have h1:=Zfr l x y w a;have h2:=Zfr r x (y+a) w (h-a);simp[sp,BT.cnt];omega
  ·have h1:=Zfr l x y a h;have h2:=Zfr r (x+a) y (w-a) h;simp[sp,BT.cnt];omega
theorem Za7 {α β:Type} {l:List α} {f:α→Option β} {k:Nat} {x:α} (hx:l[k]?=some x):(l.take (k+1)).filterMap f=(l.take k).filterMap f++(f x).toList:=by
 obtain⟨h1,h2⟩:=Kb.1 hx;rw[Lu h1,h2,LM];cases hf:f x<;>simp[hf]
theorem ZjH {ps:List Pane}:∀ {b:BT} {w h:Int},XN ps b w h=true→PN b
 | .waste,_,_,_=>trivial
 | .pane i t,w,h,hf=>by
  simp only[XN,XU,Kf,Ko] at hf;exact hf.1
 | .cut d a l r,w,h,hf=>by
  cases d
  ·simp only[XN,Kf,Ka,Kn] at hf;exact⟨ZjH hf.1.2,ZjH hf.2⟩
  ·simp only[XN,Kf,Km] at hf;exact⟨ZjH hf.1.2,ZjH hf.2⟩
def Qs (k:Zw) (p:Ze):List Part:=match QU p with
 | some b=>if decide (VW k)&&decide (b.cnt≤255)&&XN k.Panes b k.W k.H then pt b 0 0 k.W k.H else []
 | none=>[]
def Ve (k:Zw) (p:Ze):Bool:=match QU p with
 | some b=>decide (VW k)&&decide (b.cnt≤255)&&XN k.Panes b k.W k.H
 | none=>false
theorem QW {k:Zw} {p:Ze} (h:Ve k p=true):∃ b,QU p=some b∧p=b.plan∧VW k∧b.cnt≤255∧XN k.Panes b k.W k.H=true∧Qs k p=pt b 0 0 k.W k.H:=by
 have h':=h;unfold Ve at h;split at h
 ·rename_i b hb;refine⟨b,hb,Ua hb,?_⟩;unfold Qs;rw[hb];dsimp only;rw[Kg h];simp only[Kf,Ko] at h;exact⟨h.1.1,h.1.2,h.2,rfl⟩
 ·cases h
theorem Zgb {α:Type} {l:List α} {k:Nat} {x:α} (hx:l[k]?=some x) (P:α→Prop):(∀ y∈l.drop k,P y)↔P x∧∀ y∈l.drop (k+1),P y:=by
 obtain⟨h1,h2⟩:=Kb.1 hx;rw[Ku h1,h2];simp
def ZdG (w h:Int) (f:Box):Prop:=VB f∧QI f ⟨0,0,w,h⟩
instance (w h:Int) (f:Box):Decidable (ZdG w h f):=by unfold ZdG;infer_instance
def VPc (q:Zb):Prop:=(1≤q.Label∧q.Label≤9999∧1≤q.W∧q.W≤200∧1≤q.H∧q.H≤200∧q.Flaws.length≤6)∧∀ f∈q.Flaws,ZdG q.W q.H f
instance (q:Zb):Decidable (VPc q):=by unfold VPc;infer_instance
def Z6 (fs:List Box) (b:Box):Prop:=∀ f∈fs,¬Yt f b
instance (fs:List Box) (b:Box):Decidable (Z6 fs b):=by unfold Z6;infer_instance
def Vu (q:Zb) (k:Zw) (p:Ze):Prop:=Ve k p=true∧k.W=q.W∧k.H=q.H∧∀ c∈(Qs k p).filterMap Xi,Z6 q.Flaws c.Box
instance (q:Zb) (k:Zw) (p:Ze):Decidable (Vu q k p):=by unfold Vu;infer_instance
def Zk3 (x y w h:Int) (c:Box):Prop:=1≤c.W∧1≤c.H∧x≤c.X∧y≤c.Y∧c.X+c.W≤x+w∧c.Y+c.H≤y+h
theorem Zq2 {ps:List Pane}:∀ {b:BT} {x y w h:Int},XN ps b w h=true→1≤w→1≤h→∀ c∈plc b x y w h,Zk3 x y w h c.Box
 | .waste,x,y,w,h,hf,h1,h2,c,hc=>by simp[plc] at hc
 | .pane i t,x,y,w,h,hf,h1,h2,c,hc=>by
  simp only[plc,KE] at hc;subst hc;simp only[Zk3];omega
 | .cut d a l r,x,y,w,h,hf,h1,h2,c,hc=>by
  cases d
  ·simp only[XN,Kf,Ka,Kn,Ko] at hf;simp only[plc,Ka,Kn,Ki] at hc;rcases hc with hc | hc
   ·have:=Zq2 hf.1.2 (by omega) (by omega) c hc;simp only[Zk3] at this ⊢;omega
   ·have:=Zq2 hf.2 (by omega) (by omega) c hc;simp only[Zk3] at this ⊢;omega
  ·simp only[XN,Kf,Km,Ko] at hf;simp only[plc,Km,Ki] at hc;rcases hc with hc | hc
   ·have:=Zq2 hf.1.2 (by omega) (by omega) c hc;simp only[Zk3] at this ⊢;omega
   ·have:=Zq2 hf.2 (by omega) (by omega) c hc;simp only[Zk3] at this ⊢;omega
theorem Znr {ps:List Pane}:∀ {b:BT} {x y w h:Int},XN ps b w h=true→1≤w→1≤h→∀ c∈wst b x y w h,Zk3 x y w h c
 | .waste,x,y,w,h,hf,h1,h2,c,hc=>by
  simp only[wst,KE] at hc;subst hc;simp only[Zk3];omega
 | .pane i t,x,y,w,h,hf,h1,h2,c,hc=>by simp[wst] at hc
 | .cut d a l r,x,y,w,h,hf,h1,h2,c,hc=>by
  cases d
  ·simp only[XN,Kf,Ka,Kn,Ko] at hf;simp only[wst,Ka,Kn,Ki] at hc;rcases hc with hc | hc
   ·have:=Znr hf.1.2 (by omega) (by omega) c hc;simp only[Zk3] at this ⊢;omega
   ·have:=Znr hf.2 (by omega) (by omega) c hc;simp only[Zk3] at this ⊢;omega
  ·simp only[XN,Kf,Km,Ko] at hf;simp only[wst,Km,Ki] at hc;rcases hc with hc | hc
   ·have:=Znr hf.1.2 (by omega) (by omega) c hc;simp only[Zk3] at this ⊢;omega
   ·have:=Znr hf.2 (by omega) (by omega) c hc;simp only[Zk3] at this ⊢;omega
def Yf:List Box→Int
 | []=>0
 | c :: l=>c.W*c.H+Yf l
theorem ZcE (a b:List Box):Yf (a++b)=Yf a+Yf b:=by
 induction a with
 | nil=>simp[Yf]
 | cons c l ih=>simp only[KD,Yf,ih];omega
theorem ZlW {k:Zw} {p:Ze} {b:BT} (hv:VW k) (hf:XN k.Panes b k.W k.H=true):∀ c∈plc b 0 0 k.W k.H,VB c.Box:=by
 intro c hc;obtain⟨h1,h2,h3,h4,_⟩:=hv;have:=Zq2 hf h1 h3 c hc;simp only[Zk3] at this;simp only[VB];omega
theorem ZlX {k:Zw} {p:Ze} {b:BT} (hv:VW k) (hf:XN k.Panes b k.W k.H=true):∀ c∈wst b 0 0 k.W k.H,VB c:=by
 intro c hc;obtain⟨h1,h2,h3,h4,_⟩:=hv;have:=Znr hf h1 h3 c hc;simp only[Zk3] at this;simp only[VB];omega
def Zxc (b m:Box):Box:=⟨m.X-b.X,m.Y-b.Y,m.W,m.H⟩
def YR (b f:Box):Option Box:=if Yt f b then some (Zxc b (Zij f b)) else none
def Zns (q:Zb) (b:Box) (label:Int):Zb:=⟨label,b.W,b.H,q.Flaws.filterMap (YR b)⟩
theorem ZA0 {q:Zb} {b:Box} {label:Int} (hq:VPc q) (hb:VB b) (hi:QI b ⟨0,0,q.W,q.H⟩) (h1:1≤label) (h2:label≤9999):VPc (Zns q b label):=by
 simp only[VB] at hb;refine⟨⟨h1,h2,?_,?_,?_,?_,Kx (Kr _ _) hq.1.2.2.2.2.2.2⟩,?_⟩
 ·show 1≤b.W;omega
 ·show b.W≤200;omega
 ·show 1≤b.H;omega
 ·show b.H≤200;omega
 ·intro f hf;obtain⟨g,hg,aa⟩:=Lw.1 hf;have ab:=hq.2 g hg;unfold YR at aa;split at aa
  ·rename_i hm;cases aa;simp only[ZdG,VB,QI] at ab;simp only[Yt] at hm;simp only[ZdG,VB,QI,Zxc,Zij,Zns];omega
  ·cases aa
def UA (Zk:Int) (b:Box):Option Box:=if Zk≤b.W∧Zk≤b.H then some b else none
def Ja (q:Zb):Int→List Box→List Zb
 | _,[]=>[]
 | n,b :: l=>Zns q b n :: Ja q (n+1) l
theorem Zio (q:Zb):∀ (n:Int) (a b:List Box),Ja q n (a++b)=Ja q n a++Ja q (n+a.length) b
 | n,[],b=>by simp[Ja]
 | n,x :: a,b=>by
  simp only[KD,Ja,Zio q (n+1) a b,Kl];congr 3
  omega
theorem ZdH (q:Zb):∀ (n:Int) (a:List Box),(Ja q n a).length=a.length
 | n,[]=>rfl
 | n,x :: a=>by simp[Ja,ZdH q (n+1) a]
theorem ZDw (q:Zb) (n:Int) {l:List Box} {i:Nat} {x:Box} (hx:l[i]?=some x):Ja q n (l.take (i+1))=Ja q n (l.take i)++[Zns q x (n+i)]:=by
 obtain⟨h1,h2⟩:=Kb.1 hx;rw[Lu h1,h2,Zio];simp only[Ja,LC,Nat.min_eq_left (Nat.le_of_lt h1)]
def Xl (k:Zw) (p:Ze) (Zk:Int):List Box:=((Qs k p).filterMap X4).filterMap (UA Zk)
theorem Zq3 {k:Zw} {p:Ze} {Zk:Int} (hv:Ve k p=true):∀ b∈Xl k p Zk,VB b∧QI b ⟨0,0,k.W,k.H⟩:=by
 intro b hb;obtain⟨t,_,_,hw,_,hf,hp⟩:=QW hv;unfold Xl at hb;rw[hp,Zga] at hb;obtain⟨c,hc,hcb⟩:=Lw.1 hb;unfold UA at hcb;split at hcb
 ·cases hcb;refine⟨ZlX (p:=p) hw hf b hc,?_⟩;obtain⟨h1,h2,h3,h4,_⟩:=hw;have:=Znr hf h1 h3 b hc;simp only[Zk3] at this;simp only[QI];omega
 ·cases hcb
theorem ZjI (k:Zw) (p:Ze) (Zk:Int):(Xl k p Zk).length≤255:=by
 unfold Xl;refine Kx (Kr _ _) (Kx (Kr _ _) ?_);unfold Qs;split
 ·split
  ·rename_i h;simp only[Kf,Ko] at h;rw[Jx];exact h.1.2
  ·simp
 ·simp
def UB (Zk:Int) (b:Box):Option Box:=if b.W<Zk∨b.H<Zk then some b else none
def ZeK (k:Zw) (p:Ze) (Zk:Int):List Box:=((Qs k p).filterMap X4).filterMap (UB Zk)
theorem Jy {b:Box} (h:VB b):0≤b.W*b.H∧b.W*b.H≤40000:=by
 simp only[VB] at h;have h1:0≤b.W*b.H:=Kan (by omega) (by omega);have h2:b.W*b.H≤200*200:=Kao (by omega) (by omega) (by omega) (by omega);omega
theorem Zgc:∀ {l:List Box},(∀ b∈l,VB b)→0≤Yf l∧Yf l≤40000*l.length
 | [],_=>by simp[Yf]
 | b :: l,h=>by
  have h1:=Jy (h b (by simp));have h2:=Zgc (l:=l) fun c hc=>h c (by simp[hc]);simp only[Yf,Kl];omega
theorem Zdw {k:Zw} {p:Ze} (hv:Ve k p=true):∀ b∈(Qs k p).filterMap X4,VB b:=by
 obtain⟨t,_,_,hw,_,hf,hp⟩:=QW hv;rw[hp,Zga];exact ZlX (p:=p) hw hf
attribute [go_sem] ite_self Bool.false_eq_true
end Go.Abs.L
namespace Go.Proofs.YtfnegoimdljanaaGreatDoor
open Go Go.Abs Go.Abs.E Go.Abs.L
set_option linter.unusedSimpArgs false
set_option linter.unusedVariables false
set_option maxRecDepth 20000
set_option maxHeartbeats 4000000
theorem Zv (n lo hi:Int):Zd Xs Ms 49 [(.d (J n)),(.d (J lo)),(.d (J hi))] []=some ((.d (.bool ((decide (lo≤n∧n≤hi))))),[]):=by
 refine cE ?_;simp +contextual -implicitDefEqProofs only[go_sem,seval,ZiT]
theorem ZkB (bX bY bW bH:Int):Zd Xs Ms 189 [(.d (.agg [J bX,J bY,J bW,J bH]))] []=some ((.d (.bool ((decide (VB (Box.mk bX bY bW bH)))))),[]):=by
 refine cE ?_;simp +contextual -implicitDefEqProofs only[go_sem,seval,Zhl,Zv];have h1:=wi (200-bW);have h2:=wi (200-bH);exact Zel (by simp only[VB];omega)
theorem Yn (bX bY bW bH:Int):Zd Xs Ms 175 [(.d (.agg [J bX,J bY,J bW,J bH]))] []=some ((.d (.bool ((decide (VB (Box.mk bX bY bW bH)))))),[]):=by
 refine cE ?_;simp +contextual -implicitDefEqProofs only[go_sem,seval,Zhk];have h1:=wi (200-bW);have h2:=wi (200-bH);exact⟨fun h=>Zjg (by simp only[VB];omega),fun h=>Zel (by simp only[VB];omega)⟩
theorem Zuh (aX aY aW aH:Int) (bX bY bW bH:Int) (ha:VB (Box.mk aX aY aW aH)) (h1:R64 bX) (h2:R64 bY) (h3:R64 (bX+bW)) (h4:R64 (bY+bH)):Zd Xs Ms 190 [(.d (.agg [J aX,J aY,J aW,J aH])),(.d (.agg [J bX,J bY,J bW,J bH]))] []=some ((.d (.bool ((decide (QI (Box.mk aX aY aW aH) (Box.mk bX bY bW bH)))))),[]):=by
 refine cE ?_;simp only[VB] at ha;have e1:=wi (aX+aW) (by omega) (by omega);have e2:=wi (aY+aH) (by omega) (by omega);have e3:=wi (bX+bW) h3.1 h3.2;have e4:=wi (bY+bH) h4.1 h4.2;simp +contextual -implicitDefEqProofs only[go_sem,seval,Zhr,e1,e2,e3,e4];exact Zel (by simp only[QI];omega)
theorem ZlY (aX aY aW aH:Int) (bX bY bW bH:Int) (ha:VB (Box.mk aX aY aW aH)) (hb:VB (Box.mk bX bY bW bH)) (hm:Yt (Box.mk aX aY aW aH) (Box.mk bX bY bW bH)):Zd Xs Ms 191 [(.d (.agg [J aX,J aY,J aW,J aH])),(.d (.agg [J bX,J bY,J bW,J bH]))] []=some (.tup [.d (Zij (Box.mk aX aY aW aH) (Box.mk bX bY bW bH)).enc,(.d (.bool true))],[]):=by
 refine cE ?_;simp only[VB,Yt] at ha hb hm;have e1:=wi (aX+aW) (by omega) (by omega);have e2:=wi (aY+aH) (by omega) (by omega);have e3:=wi (bX+bW) (by omega) (by omega);have e4:=wi (bY+bH) (by omega) (by omega);have e5:=wi (min (aX+aW) (bX+bW)-max aX bX) (by omega) (by omega);have e6:=wi (min (aY+aH) (bY+bH)-max aY bY) (by omega) (by omega);have n1:¬(min (aX+aW) (bX+bW)-max aX bX≤0):=by omega
 have n2:¬(min (aY+aH) (bY+bH)-max aY bY≤0):=by omega
 simp +contextual -implicitDefEqProofs only[go_sem,seval,Zhv,e1,e2,e3,e4,e5,e6,n1,n2,Zij]
theorem ZoM (aX aY aW aH:Int) (bX bY bW bH:Int) (ha:VB (Box.mk aX aY aW aH)) (hb:VB (Box.mk bX bY bW bH)) (hm:¬Yt (Box.mk aX aY aW aH) (Box.mk bX bY bW bH)):Zd Xs Ms 191 [(.d (.agg [J aX,J aY,J aW,J aH])),(.d (.agg [J bX,J bY,J bW,J bH]))] []=some (.tup [.d (Box.enc ⟨0,0,0,0⟩),(.d (.bool false))],[]):=by
 refine cE ?_;simp only[VB,Yt] at ha hb hm;have e1:=wi (aX+aW) (by omega) (by omega);have e2:=wi (aY+aH) (by omega) (by omega);have e3:=wi (bX+bW) (by omega) (by omega);have e4:=wi (bY+bH) (by omega) (by omega);have e5:=wi (min (aX+aW) (bX+bW)-max aX bX) (by omega) (by omega);have e6:=wi (min (aY+aH) (bY+bH)-max aY bY) (by omega) (by omega);have n1:min (aX+aW) (bX+bW)-max aX bX≤0∨min (aY+aH) (bY+bH)-max aY bY≤0:=by omega
 simp +contextual -implicitDefEqProofs only[go_sem,seval,Zhv,e1,e2,e3,e4,e5,e6];omega
theorem ZcF (aX aY aW aH:Int) (bX bY bW bH:Int) (ha:VB (Box.mk aX aY aW aH)) (hb:VB (Box.mk bX bY bW bH)) (hm:Yt (Box.mk aX aY aW aH) (Box.mk bX bY bW bH)):Zd Xs Ms 180 [(.d (.agg [J aX,J aY,J aW,J aH])),(.d (.agg [J bX,J bY,J bW,J bH]))] []=some (.tup [.d (Zij (Box.mk aX aY aW aH) (Box.mk bX bY bW bH)).enc,(.d (.bool true))],[]):=by
 refine cE ?_;have aa:=ha;have ab:=hb;simp only[VB,Yt] at aa ab hm;have e1:=wi (aX+aW) (by omega) (by omega);have e2:=wi (aY+aH) (by omega) (by omega);have e3:=wi (bX+bW) (by omega) (by omega);have e4:=wi (bY+bH) (by omega) (by omega);have e5:=wi (min (aX+aW) (bX+bW)-max aX bX) (by omega) (by omega);have e6:=wi (min (aY+aH) (bY+bH)-max aY bY) (by omega) (by omega);have n1:¬(min (aX+aW) (bX+bW)≤max aX bX):=by omega
 have n2:¬(min (aY+aH) (bY+bH)≤max aY bY):=by omega
 simp +contextual -implicitDefEqProofs only[go_sem,seval,ZaP,Yn,ha,hb,e1,e2,e3,e4,e5,e6,n1,n2,Zij]
theorem ZeL (aX aY aW aH:Int) (bX bY bW bH:Int) (hm:¬(VB (Box.mk aX aY aW aH)∧VB (Box.mk bX bY bW bH)∧Yt (Box.mk aX aY aW aH) (Box.mk bX bY bW bH))):Zd Xs Ms 180 [(.d (.agg [J aX,J aY,J aW,J aH])),(.d (.agg [J bX,J bY,J bW,J bH]))] []=some (.tup [.d (Box.enc ⟨0,0,0,0⟩),(.d (.bool false))],[]):=by
 refine cE ?_;by_cases ha:VB (Box.mk aX aY aW aH)
 ·by_cases hb:VB (Box.mk bX bY bW bH)
  ·have aa:=ha;have ab:=hb;simp only[ha,hb,true_and] at hm;simp only[VB,Yt] at aa ab hm;have e1:=wi (aX+aW) (by omega) (by omega);have e2:=wi (aY+aH) (by omega) (by omega);have e3:=wi (bX+bW) (by omega) (by omega);have e4:=wi (bY+bH) (by omega) (by omega);simp +contextual -implicitDefEqProofs only[go_sem,seval,ZaP,Yn,ha,hb,e1,e2,e3,e4];omega
  ·simp +contextual -implicitDefEqProofs only[go_sem,seval,ZaP,Yn,ha,hb]
 ·simp +contextual -implicitDefEqProofs only[go_sem,seval,ZaP,Yn,ha]
theorem Za8 (aX aY aW aH:Int) (bX bY bW bH:Int):Zd Xs Ms 177 [(.d (.agg [J aX,J aY,J aW,J aH])),(.d (.agg [J bX,J bY,J bW,J bH]))] []=some ((.d (.bool ((decide (VB (Box.mk aX aY aW aH)∧VB (Box.mk bX bY bW bH)∧QI (Box.mk aX aY aW aH) (Box.mk bX bY bW bH)))))),[]):=by
 refine cE ?_;by_cases hm:VB (Box.mk aX aY aW aH)∧VB (Box.mk bX bY bW bH)∧Yt (Box.mk aX aY aW aH) (Box.mk bX bY bW bH)
 ·obtain⟨ha,hb,hm⟩:=hm;simp +contextual -implicitDefEqProofs only[go_sem,seval,Zdj,ZcF _ _ _ _ _ _ _ _ ha hb hm,Zij];simp only[VB] at ha hb;simp only[Yt] at hm;exact Zel (by simp only[VB,QI];omega)
 ·simp +contextual -implicitDefEqProofs only[go_sem,seval,Zdj,ZeL _ _ _ _ _ _ _ _ hm];have:¬(VB (Box.mk aX aY aW aH)∧VB (Box.mk bX bY bW bH)∧QI (Box.mk aX aY aW aH) (Box.mk bX bY bW bH)):=by
   intro⟨h1,h2,h3⟩;refine hm ⟨h1,h2,?_⟩;simp only[VB,QI] at h1 h2 h3;simp only[Yt];omega
  exact Zjg this
theorem Vf (pW pH:Int) (pT:Bool) (pK:Int):Zd Xs Ms 133 [(.d (.agg [J pW,J pH,.bool pT,J pK]))] []=some ((.d (.bool ((decide (VP (Pane.mk pW pH pT pK)))))),[]):=by
 refine cE ?_;simp +contextual -implicitDefEqProofs only[go_sem,seval,ZfV,Zv]
 first | exact Zel (by simp only[VP];omega) | skip
theorem Jz (pW pH:Int) (pT:Bool) (pK:Int):Zd Xs Ms 79 [(.d (.agg [J pW,J pH,.bool pT,J pK]))] []=some ((.d (.bool ((decide (VP (Pane.mk pW pH pT pK)))))),[]):=by
 refine cE ?_;simp +contextual -implicitDefEqProofs only[go_sem,seval,ZfT]
 first | exact Zel (by simp only[VP];omega) | skip
def XJ:Nat→List Int→Int→Int
 | _,[],_=>-1
 | k,x :: l,n=>if x=n then (k:Int) else XJ (k+1) l n
theorem Zq5 {l:List Int} {k:Nat} {x n:Int} (hx:l[k]?=some x):XJ k (l.drop k) n=if x=n then (k:Int) else XJ (k+1) (l.drop (k+1)) n:=by
 have h:=(Kb.1 hx)
 obtain⟨h1,h2⟩:=h;rw[Ku h1,h2,XJ]
theorem ZlZ (l:List Int) (n:Int) (hl:l.length<4611686018427387904):Zd Xs Ms 192 [.d (.sl (l.map X3)),(.d (J n))] []=some ((.d (J (XJ 0 l n))),[]):=by
 refine cE ?_;simp +contextual -implicitDefEqProofs only[go_sem,seval,ZiP];refine LO (α:=Nat) (fun k=>[(5,.d (J (k:Int)))]) (fun _=>[]) (fun k=>k≤l.length∧XJ k (l.drop k) n=XJ 0 l n) (fun k=>l.length-k) 0 ⟨by omega,rfl⟩ ?_;intro k ⟨hk,hp⟩ ih;by_cases aa:k<l.length
 ·obtain⟨x,hx⟩:=Zp aa;rw[Zq5 hx] at hp;have hw:=Zg (k:=k) (by omega);simp +contextual -implicitDefEqProofs only[go_sem,seval,hx,aa,hw];refine⟨fun h=>?_,fun h=>ih (k+1) _ ⟨by omega,?_⟩ (by omega) ?_⟩
  ·rw[Kg h] at hp;rw[← hp]
  ·rw[Kd h] at hp;exact hp
  ·simp +contextual -implicitDefEqProofs only[go_sem,seval]
 ·have:k=l.length:=by omega
  subst this;simp +contextual -implicitDefEqProofs only[go_sem,seval];rw[← hp];simp[XJ]
theorem Xo (pO pA pP:Int) (pT:Bool) (pK:List D):Zd Xs Ms 196 [.d (.agg [J pO,J pA,J pP,.bool pT,.sl pK])] []=some ((.d (.bool (decide (pO=2∨pO=3)))),[]):=by
 refine cE ?_;simp +contextual -implicitDefEqProofs only[go_sem,seval,Zn8]
theorem WD (pO pA pP:Int) (pT:Bool) (pK:List D):Zd Xs Ms 245 [.d (.agg [J pO,J pA,J pP,.bool pT,.sl pK])] []=some ((.d (.bool (decide (pO=2∨pO=3)))),[]):=by
 refine cE ?_;simp +contextual -implicitDefEqProofs only[go_sem,seval,Zn9]
theorem ZdI:∀ (n:Nat) (p:Ze),p.nodes≤n→Zd Xs Ms 164 [.d p.enc] []=some ((.d (J (Zu 255 (QU p)))),[])
 | 0,.mk o a p t ks,hn=>by simp[Ze.nodes] at hn
 | n+1,.mk o a p t ks,hn=>by
  by_cases ho:o=2∨o=3
  ·by_cases hk:ks.length=2
   ·obtain⟨x,hx⟩:=Zp (l:=ks) (k:=0) (by omega);obtain⟨y,hy⟩:=Zp (l:=ks) (k:=1) (by omega);have aa:=ZdI n x (ZjG hn hx);have ab:=ZdI n y (ZjG hn hy);rw[ZvA ho hk hx hy];obtain⟨lx,ae⟩:∃ l,l=QU x:=⟨_,rfl⟩
    obtain⟨ly,af⟩:∃ l,l=QU y:=⟨_,rfl⟩
    rw[← ae] at aa ⊢;rw[← af] at ab ⊢;have rx:=ZcD 255 (by omega) lx;have ry:=ZcD 255 (by omega) ly;have ad:(ks.length:Int)=2:=by omega
    by_cases hp:p=0
    ·cases t with
     | true=>
      have hb:=ZgM 255 o a p true lx ly (by simp);rw[hb];refine cE ?_;simp +contextual -implicitDefEqProofs only[go_sem,seval,QQ,Xo,ho,hp]
     | false=>
      subst hp;rw[ZAY];obtain⟨sx,ag⟩:∃ s,s=Zu 255 lx:=⟨_,rfl⟩
      obtain⟨sy,ah⟩:∃ s,s=Zu 255 ly:=⟨_,rfl⟩
      rw[← ag] at aa rx ⊢;rw[← ah] at ab ry ⊢;have w1:=wi (1+sx) (by omega) (by omega);have w2:=wi (1+sx+sy) (by omega) (by omega);refine cE ?_;simp +contextual -implicitDefEqProofs only[go_sem,seval,QQ,Xo,ho,ad];refine ZE Xs Ms ?_;simp +contextual -implicitDefEqProofs only[go_sem,seval,ad,hx,hy,aa,ab,w1,w2];intro h;refine ZE Xs Ms ?_;simp +contextual -implicitDefEqProofs only[go_sem,seval,ad,hx,hy,aa,ab,w1,w2,h];intro h';refine ZE Xs Ms ?_;simp +contextual -implicitDefEqProofs only[go_sem,seval,ad,hx,hy,aa,ab,w1,w2,h,h']
    ·have hb:=ZgM 255 o a p t lx ly (by simp[hp]);rw[hb];refine cE ?_;simp +contextual -implicitDefEqProofs only[go_sem,seval,QQ,Xo,ho,hp]
   ·rw[Zno _ _ _ _ _ ho hk];refine cE ?_;have ai : ¬(ks.length:Int)=2:=by omega
    simp +contextual -implicitDefEqProofs only[go_sem,seval,QQ,Xo,ho,ai,Zu]
  ·rw[Zq1 ho];by_cases h1:ks.length=0∧a=0∧o=1
   ·rw[Kg h1];obtain⟨h1,rfl,rfl⟩:=h1;refine cE ?_;simp +contextual -implicitDefEqProofs only[go_sem,seval,QQ,Xo,ho,h1,Zu,BT.cnt];refine ZE Xs Ms ?_;simp +contextual -implicitDefEqProofs only[go_sem,seval,h1]
   ·rw[Kd h1];by_cases h2:ks.length=0∧a=0∧o=0∧p=0∧t=false
    ·rw[Kg h2];obtain⟨h2,rfl,rfl,rfl,rfl⟩:=h2;refine cE ?_;simp +contextual -implicitDefEqProofs only[go_sem,seval,QQ,Xo,ho,h2,Zu,BT.cnt];refine ZE Xs Ms ?_;simp +contextual -implicitDefEqProofs only[go_sem,seval,h2]
    ·rw[Kd h2];by_cases c1:ks.length=0
     ·by_cases c2:a=0
      ·by_cases c3:o=1
       ·exact absurd ⟨c1,c2,c3⟩ h1
       ·by_cases c4:o=0
        ·by_cases c5:p=0
         ·cases t with
          | false=>exact absurd ⟨c1,c2,c4,c5,rfl⟩ h2
          | true=>
           refine cE ?_;simp +contextual -implicitDefEqProofs only[go_sem,seval,QQ,Xo,ho,c1,c2,c3,c4,c5,Zu]
         ·refine cE ?_;simp +contextual -implicitDefEqProofs only[go_sem,seval,QQ,Xo,ho,c1,c2,c3,c4,c5,Zu]
        ·refine cE ?_;simp +contextual -implicitDefEqProofs only[go_sem,seval,QQ,Xo,ho,c1,c2,c3,c4,Zu]
      ·refine cE ?_;simp +contextual -implicitDefEqProofs only[go_sem,seval,QQ,Xo,ho,c1,c2,Zu]
     ·have aj : ¬(ks.length:Int)=0:=by omega
      refine cE ?_;simp +contextual -implicitDefEqProofs only[go_sem,seval,QQ,Xo,ho,aj,Zu]
theorem Zfs (p:Ze):Zd Xs Ms 164 [.d p.enc] []=some ((.d (J (Zu 255 (QU p)))),[]):=ZdI _ p (Kp _)
theorem ZpD (ps:List Pane) (hl:ps.length<4611686018427387904):Zd Xs Ms 244 [(.d (.sl (ps.map Pane.enc)))] []=some ((.d (.bool (decide (ps.length≤24∧VPs ps)))),[]):=by
 refine cE ?_;simp +contextual -implicitDefEqProofs only[go_sem,seval,Zea];refine LO (α:=Nat) (fun k=>[(3,.d (J (k:Int)))]) (fun _=>[]) (fun k=>k≤ps.length∧(VPs ps↔VPs (ps.drop k))) (fun k=>ps.length-k) 0 ⟨by omega,by simp⟩ ?_;intro k ⟨hk,hp⟩ ih;by_cases aa:k<ps.length
 ·obtain⟨x,hx⟩:=Zp aa;rw[ZyO hx] at hp;have hw:=Zg (k:=k) (by omega);simp +contextual -implicitDefEqProofs only[go_sem,seval,hx,aa,hw,Vf];refine⟨fun h=>Zjg (fun hh=>h (hp.1 hh.2).1),fun h=>ih (k+1) _ ⟨by omega,?_⟩ (by omega) ?_⟩
  ·rw[hp];exact⟨fun hh=>hh.2,fun hh=>⟨h,hh⟩⟩
  ·simp +contextual -implicitDefEqProofs only[go_sem,seval]
 ·have:k=ps.length:=by omega
  subst this;simp +contextual -implicitDefEqProofs only[go_sem,seval];have hv:VPs ps:=hp.2 (by simp[VPs]);exact Zel ⟨fun h=>⟨by omega,hv⟩,fun h=>by omega⟩
theorem JA (kW kH:Int) (kP:List Pane) (hl:kP.length<4611686018427387904):Zd Xs Ms 225 [(.d (.agg [J kW,J kH,.sl (kP.map Pane.enc)]))] []=some ((.d (.bool (decide (VW (Zw.mk kW kH kP))))),[]):=by
 refine cE ?_;simp +contextual -implicitDefEqProofs only[go_sem,seval,ZfG,Zv,ZpD kP hl];exact Zel (by simp only[VW,and_assoc])
theorem WE (kW kH:Int) (kP:List Pane):Zd Xs Ms 181 [(.d (.agg [J kW,J kH,.sl (kP.map Pane.enc)]))] []=some ((.d (.bool (decide (VW (Zw.mk kW kH kP))))),[]):=by
 refine cE ?_;by_cases h0:((((kW<1∨200<kW)∨kH<1)∨200<kH)∨(24:Int)<kP.length)
 ·simp +contextual -implicitDefEqProofs only[go_sem,seval,ZbL,h0];exact Zjg (by simp only[VW];omega)
 ·simp +contextual -implicitDefEqProofs only[go_sem,seval,ZbL,h0];refine LO (α:=Nat) (fun k=>[(32,.d (J (k:Int)))]) (fun _=>[]) (fun k=>k≤kP.length∧(VPs kP↔VPs (kP.drop k))) (fun k=>kP.length-k) 0 ⟨by omega,by simp⟩ ?_;intro k ⟨hk,hp⟩ ih;by_cases aa:k<kP.length
  ·obtain⟨x,hx⟩:=Zp aa;rw[ZyO hx] at hp;have hw:=Zg (k:=k) (by omega);simp +contextual -implicitDefEqProofs only[go_sem,seval,hx,aa,hw,Jz];refine⟨fun h=>Zjg (fun hh=>h (hp.1 hh.2.2.2.2.2).1),fun h=>ih (k+1) _ ⟨by omega,?_⟩ (by omega) ?_⟩
   ·rw[hp];exact⟨fun hh=>hh.2,fun hh=>⟨h,hh⟩⟩
   ·simp +contextual -implicitDefEqProofs only[go_sem,seval,h0]
  ·have:k=kP.length:=by omega
   subst this;simp +contextual -implicitDefEqProofs only[go_sem,seval];have hv:VPs kP:=hp.2 (by simp[VPs]);exact ZDe (by simp only[VW];exact⟨by omega,by omega,by omega,by omega,by omega,hv⟩)
theorem ZaG:∀ (n:Nat) (p:Ze),p.nodes≤n→∀ m:Int,-10≤m→m≤255→Zd Xs Ms 128 [.d p.enc,(.d (J m))] []=some ((.d (J (Zu m (QU p)))),[])
 | 0,.mk o a p t ks,hn,m,_,_=>by simp[Ze.nodes] at hn
 | n+1,.mk o a p t ks,hn,m,hm1,hm2=>by
  by_cases hm:m<1
  ·rw[ZAZ hm];refine cE ?_;simp +contextual -implicitDefEqProofs only[go_sem,seval,ZO,hm]
  by_cases ho:o=2∨o=3
  ·have al:¬o=0:=by omega
   have am:¬o=1:=by omega
   by_cases hk:ks.length=2
   ·obtain⟨x,hx⟩:=Zp (l:=ks) (k:=0) (by omega);obtain⟨y,hy⟩:=Zp (l:=ks) (k:=1) (by omega);rw[ZvA ho hk hx hy];have aa:(ks.length:Int)=2:=by omega
    by_cases hp:p=0
    ·cases t with
     | true=>
      have hb:=ZgM m o a p true (QU x) (QU y) (by simp);rw[hb];refine cE ?_;rcases ho with ho | ho<;>simp +contextual -implicitDefEqProofs only[go_sem,seval,ZO,ho,hp,hm,aa]
     | false=>
      subst hp;rw[ZyN];have ag:=ZaG n x (ZjG hn hx) (m-1) (by omega) (by omega);have rx:=ZcD (m-1) (by omega) (QU x);have ab:=ZaG n y (ZjG hn hy) (m-1-Zu (m-1) (QU x)) (by omega) (by omega);have ry:=ZcD (m-1-Zu (m-1) (QU x)) (by omega) (QU y);obtain⟨sy,ah⟩:∃ s,s=Zu (m-1-Zu (m-1) (QU x)) (QU y):=⟨_,rfl⟩
      rw[← ah] at ab ry ⊢;obtain⟨sx,ai⟩:∃ s,s=Zu (m-1) (QU x):=⟨_,rfl⟩
      rw[← ai] at ag ab rx ry ⊢;clear ai ah;have w0:=wi (m-1) (by omega) (by omega);have w1:=wi (m-1-sx) (by omega) (by omega);have w2:=wi (1+sx) (by omega) (by omega);have w3:=wi (1+sx+sy) (by omega) (by omega);refine cE ?_;rcases ho with ho | ho<;>simp +contextual -implicitDefEqProofs only[go_sem,seval,ZO,ho,hm,aa,hx,hy,ag,ab,w0,w1,w2,w3]
    ·have hb:=ZgM m o a p t (QU x) (QU y) (by simp[hp]);rw[hb];refine cE ?_;rcases ho with ho | ho<;>simp +contextual -implicitDefEqProofs only[go_sem,seval,ZO,ho,hp,hm,aa]
   ·rw[Zno _ _ _ _ _ ho hk];have ak : ¬(ks.length:Int)=2:=by omega
    refine cE ?_;rcases ho with ho | ho<;>simp +contextual -implicitDefEqProofs only[go_sem,seval,ZO,ho,ak,hm,Zu]
  ·rw[Zq1 ho];have ad : ¬o=2:=by omega
   have ae : ¬o=3:=by omega
   have aj : (1:Int)≤m:=by omega
   by_cases h1:ks.length=0∧a=0∧o=1
   ·rw[Kg h1];obtain⟨h1,rfl,rfl⟩:=h1;refine cE ?_;simp +contextual -implicitDefEqProofs only[go_sem,seval,ZO,h1,hm,Zu,BT.cnt,aj]
   ·rw[Kd h1];by_cases h2:ks.length=0∧a=0∧o=0∧p=0∧t=false
    ·rw[Kg h2];obtain⟨h2,rfl,rfl,rfl,rfl⟩:=h2;refine cE ?_;simp +contextual -implicitDefEqProofs only[go_sem,seval,ZO,h2,hm,Zu,BT.cnt,aj]
    ·rw[Kd h2];by_cases c1:ks.length=0
     ·by_cases c2:a=0
      ·by_cases c3:o=1
       ·exact absurd ⟨c1,c2,c3⟩ h1
       ·by_cases c4:o=0
        ·by_cases c5:p=0
         ·cases t with
          | false=>exact absurd ⟨c1,c2,c4,c5,rfl⟩ h2
          | true=>
           refine cE ?_;simp +contextual -implicitDefEqProofs only[go_sem,seval,ZO,hm,c1,c2,c3,c4,c5,Zu]
         ·refine cE ?_;simp +contextual -implicitDefEqProofs only[go_sem,seval,ZO,hm,c1,c2,c3,c4,c5,Zu]
        ·refine cE ?_;simp +contextual -implicitDefEqProofs only[go_sem,seval,ZO,hm,c1,c2,c3,c4,ad,ae,Zu]
      ·refine cE ?_;by_cases c3:o=1
       ·simp +contextual -implicitDefEqProofs only[go_sem,seval,ZO,hm,c1,c2,c3,Zu]
       ·by_cases c4:o=0
        ·simp +contextual -implicitDefEqProofs only[go_sem,seval,ZO,hm,c1,c2,c3,c4,Zu]
        ·simp +contextual -implicitDefEqProofs only[go_sem,seval,ZO,hm,c1,c2,c3,c4,ad,ae,Zu]
     ·have af : ¬(ks.length:Int)=0:=by omega
      refine cE ?_;by_cases c3:o=1
      ·simp +contextual -implicitDefEqProofs only[go_sem,seval,ZO,hm,af,c3,Zu]
      ·by_cases c4:o=0
       ·simp +contextual -implicitDefEqProofs only[go_sem,seval,ZO,hm,af,c3,c4,Zu]
       ·simp +contextual -implicitDefEqProofs only[go_sem,seval,ZO,hm,af,c3,c4,ad,ae,Zu]
theorem Zft (p:Ze):Zd Xs Ms 86 [.d p.enc] []=some ((.d (J (Zu 255 (QU p)))),[]):=by
 have h:=ZaG _ p (Kp _) 255 (by omega) (by omega);obtain⟨o,a,q,t,ks⟩:=p;rw[Ze.enc_mk] at h ⊢;refine cE ?_;simp +contextual -implicitDefEqProofs only[go_sem,seval,Zho,h]
theorem ZcG (kW kH:Int) (kP:List Pane):Zd Xs Ms 127 [(.d (.agg [J kW,J kH,.sl (kP.map Pane.enc)]))] []=some (.d (.agg [J 0,J 0,J kW,J kH]),[]):=by
 refine cE ?_;simp +contextual -implicitDefEqProofs only[go_sem,seval,ZiX]
theorem ZkC {ps:List Pane} {i:Int} {t:Bool} {w h:Int} {k:Nat} {q:Pane} (hi:i=(k:Int)) (hq:ps[k]?=some q):XU ps i t w h=if t then q.Turns&&decide (¬q.W=q.H)&&decide (q.H=w)&&decide (q.W=h) else decide (q.W=w∧q.H=h):=by
 subst hi;simp[XU,hq]
theorem ZgN {ps:List Pane} {i:Int} {t:Bool} {w h:Int} (hi:i<0∨(ps.length:Int)≤i):XU ps i t w h=false:=by
 unfold XU;rcases hi with hi | hi
 ·have:¬0≤i:=by omega
  simp[this]
 ·have:ps[i.toNat]?=none:=K8 (by omega);simp[this]
theorem Zip (kW kH:Int) (kP:List Pane) (i:Int) (t:Bool) (w h:Int):Zd Xs Ms 182 [(.d (.agg [J kW,J kH,.sl (kP.map Pane.enc)])),(.d (J i)),(.d (.bool t)),(.d (J w)),(.d (J h))] []=some ((.d (.bool (XU kP i t w h))),[]):=by
 by_cases h0:i<0
 ·rw[ZgN (.inl h0)];refine cE ?_;simp +contextual -implicitDefEqProofs only[go_sem,seval,We,h0]
 ·by_cases h1:(kP.length:Int)≤i
  ·rw[ZgN (.inr h1)];refine cE ?_;simp +contextual -implicitDefEqProofs only[go_sem,seval,We,h0,h1]
  ·obtain⟨n,rfl⟩:∃ n:Nat,i=(n:Int):=⟨i.toNat,by omega⟩
   obtain⟨q,hq⟩:=Zp (l:=kP) (k:=n) (by omega);have hn:¬kP.length≤n:=by omega
   have aa : n<kP.length:=by omega
   have ab:¬(n:Int)<0:=by omega
   rw[ZkC rfl hq];refine cE ?_;cases t
   ·simp +contextual -implicitDefEqProofs only[go_sem,seval,We,ab,hn,hq,aa]
   ·simp +contextual -implicitDefEqProofs only[go_sem,seval,We,ab,hn,hq,aa]
theorem Zcc (o a p:Int) (t:Bool) (ks:List D) (gX gY gW gH:Int) (ho:o=2) (h1:R64 (gX+a)) (h2:R64 (gW-a)):Zd Xs Ms 222 [.d (.agg [J o,J a,J p,.bool t,.sl ks]),(.d (.agg [J gX,J gY,J gW,J gH]))] [] =
  some (.tup [.d (.agg [J gX,J gY,J a,J gH]),.d (.agg [J (gX+a),J gY,J (gW-a),J gH])],[]):=by
 have w1:=wi (gX+a) h1.1 h1.2;have w2:=wi (gW-a) h2.1 h2.2;refine cE ?_;simp +contextual -implicitDefEqProofs only[go_sem,seval,Uk,ho,w1,w2]
theorem JB (o a p:Int) (t:Bool) (ks:List D) (gX gY gW gH:Int) (ho:¬o=2) (h1:R64 (gY+a)) (h2:R64 (gH-a)):Zd Xs Ms 222 [.d (.agg [J o,J a,J p,.bool t,.sl ks]),(.d (.agg [J gX,J gY,J gW,J gH]))] [] =
  some (.tup [.d (.agg [J gX,J gY,J gW,J a]),.d (.agg [J gX,J (gY+a),J gW,J (gH-a)])],[]):=by
 have w1:=wi (gY+a) h1.1 h1.2;have w2:=wi (gH-a) h2.1 h2.2;refine cE ?_;simp +contextual -implicitDefEqProofs only[go_sem,seval,Uk,ho,w1,w2]
def inB (g:Box):Prop:=0≤g.X∧0≤g.Y∧0≤g.W∧0≤g.H∧g.X+g.W≤1000∧g.Y+g.H≤1000
theorem UC (kW kH:Int) (kP:List Pane):∀ (b:BT) (gX gY gW gH:Int),inB (Box.mk gX gY gW gH)→Zd Xs Ms 231 [(.d (.agg [J kW,J kH,.sl (kP.map Pane.enc)])),.d b.plan.enc,(.d (.agg [J gX,J gY,J gW,J gH]))] []=some ((.d (.bool (XN kP b gW gH))),[])
 | .waste,gX,gY,gW,gH,hg=>by
  simp only[BT.plan,Ze.enc_mk];refine cE ?_;simp +contextual -implicitDefEqProofs only[go_sem,seval,XQ,XN]
 | .pane i t,gX,gY,gW,gH,hg=>by
  simp only[BT.plan,Ze.enc_mk];refine cE ?_;simp +contextual -implicitDefEqProofs only[go_sem,seval,XQ,Zip,XN]
 | .cut d a l r,gX,gY,gW,gH,hg=>by
  simp only[inB] at hg;simp only[BT.plan,Ze.enc_mk];cases d with
  | true=>
   by_cases h1:a<1
   ·have h2:¬(1≤a∧a≤gW-1):=by omega
    refine cE ?_;simp +contextual -implicitDefEqProofs only[go_sem,seval,XQ,XN,Qb,h1,h2]
   ·by_cases h2:gW≤a
    ·have h3:¬(1≤a∧a≤gW-1):=by omega
     refine cE ?_;simp +contextual -implicitDefEqProofs only[go_sem,seval,XQ,XN,Qb,h1,h2,h3]
    ·have h3:1≤a∧a≤gW-1:=by omega
     have e0:=Zcc 2 a 0 false [l.plan.enc,r.plan.enc] gX gY gW gH rfl ⟨by omega,by omega⟩ ⟨by omega,by omega⟩;have e1:=UC kW kH kP l gX gY a gH (by simp only[inB];omega);have e2:=UC kW kH kP r (gX+a) gY (gW-a) gH (by simp only[inB];omega);refine cE ?_;simp +contextual -implicitDefEqProofs only[go_sem,seval,XQ,XN,Qb,h1,h2,h3,e0,e1,e2]
  | false=>
   by_cases h1:a<1
   ·have h2:¬(1≤a∧a≤gH-1):=by omega
    refine cE ?_;simp +contextual -implicitDefEqProofs only[go_sem,seval,XQ,XN,Qb,h1,h2]
   ·by_cases h2:gH≤a
    ·have h3:¬(1≤a∧a≤gH-1):=by omega
     refine cE ?_;simp +contextual -implicitDefEqProofs only[go_sem,seval,XQ,XN,Qb,h1,h2,h3]
    ·have h3:1≤a∧a≤gH-1:=by omega
     have e0:=JB 3 a 0 false [l.plan.enc,r.plan.enc] gX gY gW gH (by decide) ⟨by omega,by omega⟩ ⟨by omega,by omega⟩;have e1:=UC kW kH kP l gX gY gW a (by simp only[inB];omega);have e2:=UC kW kH kP r gX (gY+a) gW (gH-a) (by simp only[inB];omega);refine cE ?_;simp +contextual -implicitDefEqProofs only[go_sem,seval,XQ,XN,Qb,h1,h2,h3,e0,e1,e2]
theorem ZpE (kW kH:Int) (kP:List Pane) (i:Int) (t:Bool) (w h:Int) (hl:kP.length<4611686018427387904):Zd Xs Ms 226 [(.d (.agg [J kW,J kH,.sl (kP.map Pane.enc)])),.d (BT.pane i t).plan.enc,(.d (J w)),(.d (J h))] []=some ((.d (.bool (XU kP i t w h))),[]):=by
 have hw:=wi ((kP.length:Int)-1) (by omega) (by omega);simp only[BT.plan,Ze.enc_mk];by_cases h0:0≤i∧i≤(kP.length:Int)-1
 ·obtain⟨n,rfl⟩:∃ n:Nat,i=(n:Int):=⟨i.toNat,by omega⟩
  obtain⟨q,hq⟩:=Zp (l:=kP) (k:=n) (by omega);rw[ZkC rfl hq];refine cE ?_;cases t
  ·simp +contextual -implicitDefEqProofs only[go_sem,seval,XO,Zv,h0,hw,hq]
  ·simp +contextual -implicitDefEqProofs only[go_sem,seval,XO,Zv,h0,hw,hq]
 ·rw[ZgN (by omega)];refine cE ?_;simp +contextual -implicitDefEqProofs only[go_sem,seval,XO,Zv,h0,hw]
theorem UD (kW kH:Int) (kP:List Pane) (hl:kP.length<4611686018427387904):∀ (b:BT) (w h:Int),0≤w→w≤1000→0≤h→h≤1000→Zd Xs Ms 226 [(.d (.agg [J kW,J kH,.sl (kP.map Pane.enc)])),.d b.plan.enc,(.d (J w)),(.d (J h))] []=some ((.d (.bool (XN kP b w h))),[])
 | .waste,w,h,hw0,hw1,hh0,hh1=>by
  simp only[BT.plan,Ze.enc_mk];refine cE ?_;simp +contextual -implicitDefEqProofs only[go_sem,seval,XO,XN]
 | .pane i t,w,h,hw0,hw1,hh0,hh1=>ZpE kW kH kP i t w h hl
 | .cut d a l r,w,h,hw0,hw1,hh0,hh1=>by
  have w1:=wi (w-1) (by omega) (by omega);have w2:=wi (h-1) (by omega) (by omega);simp only[BT.plan,Ze.enc_mk];cases d with
  | true=>
   by_cases h3:1≤a∧a≤w-1
   ·have w3:=wi (w-a) (by omega) (by omega);have e1:=UD kW kH kP hl l a h (by omega) (by omega) hh0 hh1;have e2:=UD kW kH kP hl r (w-a) h (by omega) (by omega) hh0 hh1;refine cE ?_;simp +contextual -implicitDefEqProofs only[go_sem,seval,XO,XN,Qb,h3,Zv,w1,w2,w3,e1,e2]
   ·refine cE ?_;simp +contextual -implicitDefEqProofs only[go_sem,seval,XO,XN,Qb,h3,Zv,w1,w2]
  | false=>
   by_cases h3:1≤a∧a≤h-1
   ·have w3:=wi (h-a) (by omega) (by omega);have e1:=UD kW kH kP hl l w a hw0 hw1 (by omega) (by omega);have e2:=UD kW kH kP hl r w (h-a) hw0 hw1 (by omega) (by omega);refine cE ?_;simp +contextual -implicitDefEqProofs only[go_sem,seval,XO,XN,Qb,h3,Zv,w1,w2,w3,e1,e2]
   ·refine cE ?_;simp +contextual -implicitDefEqProofs only[go_sem,seval,XO,XN,Qb,h3,Zv,w1,w2]
theorem JC (kW kH:Int) (kP:List Pane) (p:Ze):Zd Xs Ms 205 [(.d (.agg [J kW,J kH,.sl (kP.map Pane.enc)])),.d p.enc] []=some ((.d (.bool (Ve (Zw.mk kW kH kP) p))),[]):=by
 have hs:=Zft p;unfold Ve;cases hb:QU p with
 | none=>
  obtain⟨o,a,q,t,ks⟩:=p;rw[hb] at hs;rw[Ze.enc_mk] at hs ⊢;refine cE ?_;simp +contextual -implicitDefEqProofs only[go_sem,seval,Wf,WE,hs,Zu]
 | some b=>
  have hp:=Ua hb;rw[hb] at hs;have hc:=b.cnt_pos;have hz:=QZ 255 b;by_cases hv:VW (Zw.mk kW kH kP)
  ·have aa:=hv;simp only[VW] at aa;have hf:=UC kW kH kP b 0 0 kW kH (by simp only[inB];omega);rw[← hp] at hf;obtain⟨o,a,q,t,ks⟩:=p;rw[Ze.enc_mk] at hs hf ⊢;by_cases h2:b.cnt≤255
   ·have h3:Zu 255 (some b)=b.cnt:=by omega
    have h4:(0:Int)<b.cnt:=by omega
    rw[h3] at hs;refine cE ?_;simp +contextual -implicitDefEqProofs only[go_sem,seval,Wf,WE,ZcG,hs,hf,hv,h2,h4]
   ·have h3:Zu 255 (some b)=-1:=by omega
    rw[h3] at hs;refine cE ?_;simp +contextual -implicitDefEqProofs only[go_sem,seval,Wf,WE,hs,hv,h2]
  ·obtain⟨o,a,q,t,ks⟩:=p;rw[Ze.enc_mk] at hs ⊢;refine cE ?_;simp +contextual -implicitDefEqProofs only[go_sem,seval,Wf,WE,hs,hv]
theorem Ziq (kW kH:Int) (kP:List Pane) (p:Ze) (hl:kP.length<4611686018427387904):Zd Xs Ms 197 [(.d (.agg [J kW,J kH,.sl (kP.map Pane.enc)])),.d p.enc] []=some ((.d (.bool (Ve (Zw.mk kW kH kP) p))),[]):=by
 have hs:=Zfs p;unfold Ve;cases hb:QU p with
 | none=>
  obtain⟨o,a,q,t,ks⟩:=p;rw[hb] at hs;rw[Ze.enc_mk] at hs ⊢;refine cE ?_;simp +contextual -implicitDefEqProofs only[go_sem,seval,Wd,JA kW kH kP hl,hs,Zu]
 | some b=>
  have hp:=Ua hb;rw[hb] at hs;have hc:=b.cnt_pos;have hz:=QZ 255 b;by_cases hv:VW (Zw.mk kW kH kP)
  ·have aa:=hv;simp only[VW] at aa;have hf:=UD kW kH kP hl b kW kH (by omega) (by omega) (by omega) (by omega);rw[← hp] at hf;obtain⟨o,a,q,t,ks⟩:=p;rw[Ze.enc_mk] at hs hf ⊢;by_cases h2:b.cnt≤255
   ·have h3:Zu 255 (some b)=b.cnt:=by omega
    have h4:(0:Int)<b.cnt:=by omega
    rw[h3] at hs;refine cE ?_;simp +contextual -implicitDefEqProofs only[go_sem,seval,Wd,JA kW kH kP hl,hs,hf,hv,h2,h4]
   ·have h3:Zu 255 (some b)=-1:=by omega
    rw[h3] at hs;refine cE ?_;simp +contextual -implicitDefEqProofs only[go_sem,seval,Wd,JA kW kH kP hl,hs,hv,h2]
  ·obtain⟨o,a,q,t,ks⟩:=p;rw[Ze.enc_mk] at hs ⊢;refine cE ?_;simp +contextual -implicitDefEqProofs only[go_sem,seval,Wd,JA kW kH kP hl,hs,hv]
theorem aF {α:Type} {l:List α} {g:α→D} (h:∀ x,(g x).flat=true):ZaB D.flat (l.map g)=true:=by
 induction l with
 | nil=>rfl
 | cons x l ih=>simp[ZaB,h,ih]
def Zh6 {α:Type} (f:α→D) (z:D) (l:List α) (k:Nat):List D:=(l.take k).map f++List.replicate (l.length-k) z
theorem ZA1 {α:Type} (f:α→D) (z:D) (l:List α):Zh6 f z l 0=List.replicate l.length z:=by simp[Zh6]
theorem ZDx {α:Type} (f:α→D) (z:D) (l:List α):Zh6 f z l l.length=l.map f:=by simp[Zh6]
theorem ZDy {α:Type} (f:α→D) (z:D) {l:List α} {k:Nat} (h:k≤l.length):(Zh6 f z l k).length=l.length:=by simp[Zh6];omega
theorem ZDz {α:Type} {f:α→D} {z:D} {l:List α} {k:Nat} {x:α} (h:l[k]?=some x):(Zh6 f z l k).set k (f x)=Zh6 f z l (k+1):=by
 obtain⟨h1,h2⟩:=Kb.1 h;unfold Zh6;have hl:((l.take k).map f).length=k:=by simp;omega
 rw[List.set_append_right _ _ (by omega),hl,Nat.sub_self,show l.length-k=(l.length-(k+1))+1 by omega,LJ,Kah,KB,h,KI,KK];rfl
theorem ZDA {α:Type} {f:α→D} {z:D} {l:List α} {k:Nat} (h:k<l.length):(Zh6 f z l k)[k]?=some z:=by
 unfold Zh6;have hl:((l.take k).map f).length=k:=by simp;omega
 rw[KG (by omega),hl,Nat.sub_self,List.getElem?_replicate,Kg (by omega)]
def plO:List Ze→Zm
 | []=>.row 5 [] true false
 | k :: r=>.tree 5 5 ((k :: r).map Ze.enc) none
@[go_sem] theorem ZCA:plO []=.row 5 [] true false:=rfl
@[go_sem] theorem plO_cons (k:Ze) (r:List Ze):plO (k :: r)=.tree 5 5 ((k :: r).map Ze.enc) none:=rfl
theorem ZgO:∀ {ks:List Ze},ks≠[]→plO ks=.tree 5 5 (ks.map Ze.enc) none
 | [],h=>absurd rfl h
 | _ :: _,_=>rfl
end Go.Proofs.YtfnegoimdljanaaGreatDoor
