/- Own text. -/
import Derived.Test.YtcefneehgbiebaaGreatDoorAbsLib
set_option linter.unusedVariables false
set_option linter.unusedSimpArgs false
namespace Go.Abs.L
open Go Go.Abs Go.Abs.E
inductive BT where
 | waste
 | pane (i:Int) (t:Bool)
 | cut (d:Bool) (a:Int) (l r:BT)
deriving DecidableEq,Inhabited
def VT (d:Bool):Int:=if d then 2 else 3
def BT.plan:BT→Zf
 | .waste=>.mk 0 0 0 false []
 | .pane i t=>.mk 1 0 i t []
 | .cut d a l r=>.mk (VT d) a 0 false [l.plan,r.plan]
def BT.cnt:BT→Nat
 | .waste=>1
 | .pane _ _=>1
 | .cut _ _ l r=>1+l.cnt+r.cnt
theorem BT.cnt_pos (b:BT):1≤b.cnt:=by cases b<;>simp[BT.cnt]<;>omega
def Zf.nodes:Zf→Nat
 | .mk _ _ _ _ ks=>1+nodesL ks
where nodesL:List Zf→Nat
 | []=>0
 | p :: r=>Zf.nodes p+nodesL r
def ZfP (o a p:Int) (t:Bool) (l r:Option BT):Option BT:=match l,r with
 | some x,some y=>if p=0∧t=false then some (.cut (decide (o=2)) a x y) else none
 | _,_=>none
mutual
def QP:Zf→Option BT
 | .mk o a p t ks=>if o=2∨o=3 then ZvR o a p t ks else
   if ks.length=0∧a=0∧o=1 then some (.pane p t) else
   if ks.length=0∧a=0∧o=0∧p=0∧t=false then some .waste else none
def ZvR (o a p:Int) (t:Bool):List Zf→Option BT
 | []=>none
 | x :: r=>ZyN o a p t (QP x) r
def ZyN (o a p:Int) (t:Bool) (l:Option BT):List Zf→Option BT
 | []=>none
 | y :: r=>match r with
  | []=>ZfP o a p t l (QP y)
  | _=>none
end
theorem Zo5 (o a p:Int) (t:Bool) (x y:Zf) (ho:o=2∨o=3):QP (.mk o a p t [x,y])=ZfP o a p t (QP x) (QP y):=by
 simp[QP,ZvR,ZyN,ho]
theorem Zlo (o a p:Int) (t:Bool) (ks:List Zf) (ho:o=2∨o=3) (hk:ks.length≠2):QP (.mk o a p t ks)=none:=by
 match ks,hk with
 | [],_=>simp[QP,ZvR,ho]
 | [x],_=>simp[QP,ZvR,ZyN,ho]
 | [x,y],h=>simp at h
 | x :: y :: z :: r,_=>simp[QP,ZvR,ZyN,ho]
theorem Zib:∀ b:BT,QP b.plan=some b
 | .waste=>by simp[BT.plan,QP]
 | .pane i t=>by simp[BT.plan,QP]
 | .cut d a l r=>by
  rw[BT.plan,Zo5 _ _ _ _ _ _ (by cases d<;>simp[VT]),Zib l,Zib r];cases d<;>simp[ZfP,VT]
theorem ZfQ:∀ (n:Nat) (p:Zf) (b:BT),p.nodes≤n→QP p=some b→p=b.plan
 | 0,.mk o a p t ks,b,hn,_=>by simp[Zf.nodes] at hn
 | n+1,.mk o a p t ks,b,hn,h=>by
  by_cases ho:o=2∨o=3
  ·by_cases hk:ks.length=2
   ·match ks,hk with
    | [x,y],_=>
     rw[Zo5 _ _ _ _ _ _ ho] at h;simp only[Zf.nodes,Zf.nodes.nodesL] at hn;cases hx:QP x with
     | none=>simp[hx,ZfP] at h
     | some bx=>
      cases hy:QP y with
      | none=>simp[hx,hy,ZfP] at h
      | some bY=>
       have e1:=ZfQ n x bx (by omega) hx;have e2:=ZfQ n y bY (by omega) hy;simp only[hx,hy,ZfP] at h;split at h
       ·rename_i hc;cases h;obtain⟨rfl,rfl⟩:=hc;rw[BT.plan,← e1,← e2];rcases ho with rfl | rfl<;>rfl
       ·cases h
   ·rw[Zlo _ _ _ _ _ ho hk] at h;cases h
  ·simp only[QP,ho,Kq] at h;split at h
   ·rename_i hc;cases h;obtain⟨h1,rfl,rfl⟩:=hc;cases ks with
    | nil=>rfl
    | cons x r=>simp at h1
   ·split at h
    ·rename_i hc;cases h;obtain⟨h1,rfl,rfl,rfl,rfl⟩:=hc;cases ks with
     | nil=>rfl
     | cons x r=>simp at h1
    ·cases h
theorem Uj {p:Zf} {b:BT} (h:QP p=some b):p=b.plan:=ZfQ _ p b (Kt _) h
theorem ZsS {o a p:Int} {t:Bool} {ks:List Zf} {x y:Zf} (ho:o=2∨o=3) (hk:ks.length=2) (h0:ks[0]?=some x) (h1:ks[1]?=some y):QP (.mk o a p t ks)=ZfP o a p t (QP x) (QP y):=by
 match ks,hk with
 | [x',y'],_=>
  simp at h0 h1;subst h0;subst h1;exact Zo5 _ _ _ _ _ _ ho
theorem Zo6:∀ {ks:List Zf} {i:Nat} {x:Zf},ks[i]?=some x→x.nodes≤Zf.nodes.nodesL ks
 | [],i,x,h=>by simp at h
 | y :: ks,0,x,h=>by simp at h;subst h;simp[Zf.nodes.nodesL]
 | y :: ks,i+1,x,h=>by
  have:=Zo6 (ks:=ks) (i:=i) (x:=x) (by simpa using h);simp only[Zf.nodes.nodesL];omega
theorem Zic {o a p:Int} {t:Bool} {ks:List Zf} {i:Nat} {x:Zf} {n:Nat} (hn:(Zf.mk o a p t ks).nodes≤n+1) (h:ks[i]?=some x):x.nodes≤n:=by
 have:=Zo6 h;simp only[Zf.nodes] at hn;omega
theorem Zf.enc_len (x:Zf):(Zf.enc x).cells.length=5:=by
 obtain⟨o,a,p,t,k⟩:=x;rw[Zf.enc_mk];rfl
theorem Zf.enc_agg (x:Zf):D.agg (Zf.enc x).cells=Zf.enc x:=by
 obtain⟨o,a,p,t,k⟩:=x;rw[Zf.enc_mk];rfl
theorem Zf.take_enc (x:Zf):(Zf.enc x).cells.take 5=(Zf.enc x).cells:=KN (by rw[Zf.enc_len x];omega)
attribute [go_sem] Zf.enc_len Zf.enc_agg Zf.take_enc
theorem Zo7 {o a p:Int} {t:Bool} {ks:List Zf} (ho:¬(o=2∨o=3)):QP (.mk o a p t ks)=if ks.length=0∧a=0∧o=1 then some (.pane p t) else
   if ks.length=0∧a=0∧o=0∧p=0∧t=false then some .waste else none:=by
 simp only[QP,ho,Kq]
def Zx (m:Int):Option BT→Int
 | some b=>if (b.cnt:Int)≤m then (b.cnt:Int) else -1
 | none=>-1
theorem ZcA (m:Int) (h0:0≤m) (b:Option BT) : -1≤Zx m b∧Zx m b≤m∧Zx m b≠0:=by
 cases b with
 | none=>simp[Zx];omega
 | some b=>
  have:=b.cnt_pos;simp only[Zx];split<;>omega
theorem Q8 (m:Int) (b:BT):((b.cnt:Int)≤m∧Zx m (some b)=b.cnt)∨(m<(b.cnt:Int)∧Zx m (some b)=-1):=by
 unfold Zx;by_cases h:(b.cnt:Int)≤m
 ·left;exact⟨h,Kh h⟩
 ·right;exact⟨by omega,Ke h⟩
theorem ZfR (m o a p:Int) (t:Bool) (l r:Option BT) (h:¬(p=0∧t=false)):Zx m (ZfP o a p t l r)=-1:=by
 cases l with
 | none=>rfl
 | some x=>cases r with
  | none=>rfl
  | some y=>simp only[ZfP,Ke h,Zx]
theorem Zxw (m o a:Int) (l r:Option BT):Zx m (ZfP o a 0 false l r)=if Zx m l<0∨Zx m r<0∨m<1+Zx m l+Zx m r then -1 else 1+Zx m l+Zx m r:=by
 cases l with
 | none=>simp[ZfP,Zx]
 | some x=>cases r with
  | none=>simp[ZfP,Zx]
  | some y=>
   have h1:=x.cnt_pos;have h2:=y.cnt_pos;have e:(BT.cut (decide (o=2)) a x y).cnt=1+x.cnt+y.cnt:=rfl;have e0:ZfP o a 0 false (some x) (some y)=some (BT.cut (decide (o=2)) a x y):=by simp[ZfP]
   rw[e0];have hx:=Q8 m x;have hy:=Q8 m y;have hc:=Q8 m (BT.cut (decide (o=2)) a x y);rw[e] at hc;generalize Zx m (some x)=sx at *;generalize Zx m (some y)=sy at *;generalize Zx m (some (BT.cut (decide (o=2)) a x y))=sc at *;split<;>omega
theorem ZvS (m o a:Int) (l r:Option BT):Zx m (ZfP o a 0 false l r)=if Zx (m-1) l<0∨Zx (m-1-Zx (m-1) l) r<0 then -1 else 1+Zx (m-1) l+Zx (m-1-Zx (m-1) l) r:=by
 cases l with
 | none=>simp[ZfP,Zx]
 | some x=>cases r with
  | none=>simp[ZfP,Zx]
  | some y=>
   have h1:=x.cnt_pos;have h2:=y.cnt_pos;have e:(BT.cut (decide (o=2)) a x y).cnt=1+x.cnt+y.cnt:=rfl;have e0:ZfP o a 0 false (some x) (some y)=some (BT.cut (decide (o=2)) a x y):=by simp[ZfP]
   rw[e0];have hx:=Q8 (m-1) x;have hy:=Q8 (m-1-Zx (m-1) (some x)) y;have hc:=Q8 m (BT.cut (decide (o=2)) a x y);rw[e] at hc;generalize Zx (m-1-Zx (m-1) (some x)) (some y)=sy at *;generalize Zx (m-1) (some x)=sx at *;generalize Zx m (some (BT.cut (decide (o=2)) a x y))=sc at *;split<;>omega
theorem Zxx {m:Int} (h:m<1) (b:Option BT):Zx m b=-1:=by
 cases b with
 | none=>rfl
 | some b=>
  have:=b.cnt_pos;have:=Q8 m b;omega
def Zaa (ps:List Pane) (i:Int) (t:Bool) (w h:Int):Bool:=decide (0≤i)&&(match ps[i.toNat]? with
 | some q=>if t then q.Turns&&decide (¬q.W=q.H)&&decide (q.H=w)&&decide (q.W=h) else decide (q.W=w∧q.H=h)
 | none=>false)
def X8 (ps:List Pane):BT→Int→Int→Bool
 | .waste,_,_=>true
 | .pane i t,w,h=>Zaa ps i t w h
 | .cut d a l r,w,h=>if d then decide (1≤a∧a≤w-1)&&X8 ps l a h&&X8 ps r (w-a) h
   else decide (1≤a∧a≤h-1)&&X8 ps l w a&&X8 ps r w (h-a)
def VPs (ps:List Pane):Prop:=∀ q∈ps,VP q
instance (ps:List Pane):Decidable (VPs ps):=by unfold VPs;infer_instance
def VW (k:ZI):Prop:=1≤k.W∧k.W≤200∧1≤k.H∧k.H≤200∧k.Panes.length≤24∧VPs k.Panes
instance (k:ZI):Decidable (VW k):=by unfold VW;infer_instance
theorem ZvT {ps:List Pane} {k:Nat} {x:Pane} (hx:ps[k]?=some x):VPs (ps.drop k)↔VP x∧VPs (ps.drop (k+1)):=by
 obtain⟨h1,h2⟩:=Kb.1 hx;rw[Kw h1,h2];simp[VPs]
end Go.Abs.L
set_option linter.unusedVariables false
set_option linter.unusedSimpArgs false
namespace Go.Abs.L
open Go Go.Abs Go.Abs.E
structure Part where
 plan:Zf
 box:Box
def Part.enc (p:Part):D:=.agg (p.plan.enc.cells++[.int .i64 p.box.X,.int .i64 p.box.Y,.int .i64 p.box.W,.int .i64 p.box.H])
@[go_sem] theorem Part.enc_mk (o a p:Int) (t:Bool) (ks:List Zf) (x y w h:Int):Part.enc ⟨.mk o a p t ks,⟨x,y,w,h⟩⟩ =
  .agg [.int .i64 o,.int .i64 a,.int .i64 p,.bool t,.sl (ks.map Zf.enc),.int .i64 x,.int .i64 y,.int .i64 w,.int .i64 h]:=by
 simp only[Part.enc,Zf.enc_mk];rfl
theorem Part.enc_len (p:Part):(Part.enc p).cells.length=9:=by
 show (p.plan.enc.cells++_).length=9;rw[Kr,Zf.enc_len];rfl
@[go_sem] theorem uni_Part (l:List Part):uni 9 (l.map Part.enc)=True:=eq_true (Zcx l Part.enc_len)
def pt:BT→Int→Int→Int→Int→List Part
 | .waste,x,y,w,h=>[⟨BT.waste.plan,⟨x,y,w,h⟩⟩]
 | .pane i t,x,y,w,h=>[⟨(BT.pane i t).plan,⟨x,y,w,h⟩⟩]
 | .cut d a l r,x,y,w,h=>⟨(BT.cut d a l r).plan,⟨x,y,w,h⟩⟩ :: if d then pt l x y a h++pt r (x+a) y (w-a) h else pt l x y w a++pt r x (y+a) w (h-a)
def sp:BT→Int→Int→Int→Int→List Place
 | .waste,x,y,w,h=>[⟨-1,false,⟨x,y,w,h⟩⟩]
 | .pane i t,x,y,w,h=>[⟨i,t,⟨x,y,w,h⟩⟩]
 | .cut d a l r,x,y,w,h=>if d then sp l x y a h++sp r (x+a) y (w-a) h else sp l x y w a++sp r x (y+a) w (h-a)
def plc:BT→Int→Int→Int→Int→List Place
 | .waste,x,y,w,h=>[]
 | .pane i t,x,y,w,h=>[⟨i,t,⟨x,y,w,h⟩⟩]
 | .cut d a l r,x,y,w,h=>if d then plc l x y a h++plc r (x+a) y (w-a) h else plc l x y w a++plc r x (y+a) w (h-a)
def wst:BT→Int→Int→Int→Int→List Box
 | .waste,x,y,w,h=>[⟨x,y,w,h⟩]
 | .pane i t,x,y,w,h=>[]
 | .cut d a l r,x,y,w,h=>if d then wst l x y a h++wst r (x+a) y (w-a) h else wst l x y w a++wst r x (y+a) w (h-a)
def PN:BT→Prop
 | .waste=>True
 | .pane i _=>0≤i
 | .cut _ _ l r=>PN l∧PN r
def opP:Zf→Int
 | .mk o _ _ _ _=>o
def XD (q:Part):Option Place:=match q.plan with
 | .mk o _ p t _=>if o=1 then some ⟨p,t,q.box⟩ else none
def X3 (q:Part):Option Box:=match q.plan with
 | .mk o _ _ _ _=>if o=0 then some q.box else none
theorem Wk:∀ (b:BT) (x y w h:Int),(pt b x y w h).filterMap XD=plc b x y w h
 | .waste,x,y,w,h=>rfl
 | .pane i t,x,y,w,h=>rfl
 | .cut d a l r,x,y,w,h=>by
  have e:XD ⟨(BT.cut d a l r).plan,⟨x,y,w,h⟩⟩=none:=by cases d<;>rfl
  cases d<;>simp[pt,plc,Lw,Lf,e,Wk]
theorem Ze9:∀ (b:BT) (x y w h:Int),(pt b x y w h).filterMap X3=wst b x y w h
 | .waste,x,y,w,h=>rfl
 | .pane i t,x,y,w,h=>rfl
 | .cut d a l r,x,y,w,h=>by
  have e:X3 ⟨(BT.cut d a l r).plan,⟨x,y,w,h⟩⟩=none:=by cases d<;>rfl
  cases d<;>simp[pt,wst,Lw,Lf,e,Ze9]
def Zd2 (q:Place):Option Place:=if 0≤q.Pane then some q else none
def Zd3 (q:Place):Option Box:=if q.Pane<0 then some q.Box else none
theorem Zlp:∀ (b:BT) (x y w h:Int),PN b→(sp b x y w h).filterMap Zd2=plc b x y w h
 | .waste,x,y,w,h,_=>rfl
 | .pane i t,x,y,w,h,hp=>by
  have hp:0≤i:=hp;simp[sp,plc,Zd2,hp]
 | .cut d a l r,x,y,w,h,hp=>by
  cases d<;>simp[sp,plc,Lw,Zlp l _ _ _ _ hp.1,Zlp r _ _ _ _ hp.2]
theorem Zlq:∀ (b:BT) (x y w h:Int),PN b→(sp b x y w h).filterMap Zd3=wst b x y w h
 | .waste,x,y,w,h,_=>rfl
 | .pane i t,x,y,w,h,hp=>by
  have hp:¬i<0:=by have:0≤i:=hp;omega
  simp[sp,wst,Zd3,hp]
 | .cut d a l r,x,y,w,h,hp=>by
  cases d<;>simp[sp,wst,Lw,Zlq l _ _ _ _ hp.1,Zlq r _ _ _ _ hp.2]
theorem Zab:∀ (b:BT) (x y w h:Int),(pt b x y w h).length=b.cnt
 | .waste,x,y,w,h=>rfl
 | .pane i t,x,y,w,h=>rfl
 | .cut d a l r,x,y,w,h=>by
  cases d<;>simp[pt,BT.cnt,Zab]<;>omega
theorem Zel:∀ (b:BT) (x y w h:Int),(sp b x y w h).length≤b.cnt
 | .waste,x,y,w,h=>by simp[sp,BT.cnt]
 | .pane i t,x,y,w,h=>by simp[sp,BT.cnt]
 | .cut d a l r,x,y,w,h=>by
  cases d
  ·have h1:=Zel l x y w a;have h2:=Zel r x (y+a) w (h-a);simp[sp,BT.cnt];omega
  ·have h1:=Zel l x y a h;have h2:=Zel r (x+a) y (w-a) h;simp[sp,BT.cnt];omega
theorem Zbx {α β:Type} {l:List α} {f:α→Option β} {k:Nat} {x:α} (hx:l[k]?=some x):(l.take (k+1)).filterMap f=(l.take k).filterMap f++(f x).toList:=by
 obtain⟨h1,h2⟩:=Kb.1 hx;rw[Ls h1,h2,Lw];cases hf:f x<;>simp[hf]
theorem Zid {ps:List Pane}:∀ {b:BT} {w h:Int},X8 ps b w h=true→PN b
 | .waste,_,_,_=>trivial
 | .pane i t,w,h,hf=>by
  simp only[X8,Zaa,Kf,Ko] at hf;exact hf.1
 | .cut d a l r,w,h,hf=>by
  cases d
  ·simp only[X8,Kf,Ka,Kq] at hf;exact⟨Zid hf.1.2,Zid hf.2⟩
  ·simp only[X8,Kf,Km] at hf;exact⟨Zid hf.1.2,Zid hf.2⟩
def QI (k:ZI) (p:Zf):List Part:=match QP p with
 | some b=>if decide (VW k)&&decide (b.cnt≤255)&&X8 k.Panes b k.W k.H then pt b 0 0 k.W k.H else []
 | none=>[]
def VK (k:ZI) (p:Zf):Bool:=match QP p with
 | some b=>decide (VW k)&&decide (b.cnt≤255)&&X8 k.Panes b k.W k.H
 | none=>false
theorem Xx {k:ZI} {p:Zf} (h:VK k p=true):∃ b,QP p=some b∧p=b.plan∧VW k∧b.cnt≤255∧X8 k.Panes b k.W k.H=true∧QI k p=pt b 0 0 k.W k.H:=by
 have h':=h;unfold VK at h;split at h
 ·rename_i b hb;refine⟨b,hb,Uj hb,?_⟩;unfold QI;rw[hb];dsimp only;rw[Kh h];simp only[Kf,Ko] at h;exact⟨h.1.1,h.1.2,h.2,rfl⟩
 ·cases h
theorem Zfa {α:Type} {l:List α} {k:Nat} {x:α} (hx:l[k]?=some x) (P:α→Prop):(∀ y∈l.drop k,P y)↔P x∧∀ y∈l.drop (k+1),P y:=by
 obtain⟨h1,h2⟩:=Kb.1 hx;rw[Kw h1,h2];simp
def Zdd (w h:Int) (f:Box):Prop:=VB f∧Wz f ⟨0,0,w,h⟩
instance (w h:Int) (f:Box):Decidable (Zdd w h f):=by unfold Zdd;infer_instance
def VPc (q:Zb):Prop:=(1≤q.Label∧q.Label≤9999∧1≤q.W∧q.W≤200∧1≤q.H∧q.H≤200∧q.Flaws.length≤6)∧∀ f∈q.Flaws,Zdd q.W q.H f
instance (q:Zb):Decidable (VPc q):=by unfold VPc;infer_instance
def Ql (fs:List Box) (b:Box):Prop:=∀ f∈fs,¬UI f b
instance (fs:List Box) (b:Box):Decidable (Ql fs b):=by unfold Ql;infer_instance
def WJ (q:Zb) (k:ZI) (p:Zf):Prop:=VK k p=true∧k.W=q.W∧k.H=q.H∧∀ c∈(QI k p).filterMap XD,Ql q.Flaws c.Box
instance (q:Zb) (k:ZI) (p:Zf):Decidable (WJ q k p):=by unfold WJ;infer_instance
def Zjj (x y w h:Int) (c:Box):Prop:=1≤c.W∧1≤c.H∧x≤c.X∧y≤c.Y∧c.X+c.W≤x+w∧c.Y+c.H≤y+h
theorem Zo8 {ps:List Pane}:∀ {b:BT} {x y w h:Int},X8 ps b w h=true→1≤w→1≤h→∀ c∈plc b x y w h,Zjj x y w h c.Box
 | .waste,x,y,w,h,hf,h1,h2,c,hc=>by simp[plc] at hc
 | .pane i t,x,y,w,h,hf,h1,h2,c,hc=>by
  simp only[plc,KC] at hc;subst hc;simp only[Zjj];omega
 | .cut d a l r,x,y,w,h,hf,h1,h2,c,hc=>by
  cases d
  ·simp only[X8,Kf,Ka,Kq,Ko] at hf;simp only[plc,Ka,Kq,Kg] at hc;rcases hc with hc | hc
   ·have:=Zo8 hf.1.2 (by omega) (by omega) c hc;simp only[Zjj] at this ⊢;omega
   ·have:=Zo8 hf.2 (by omega) (by omega) c hc;simp only[Zjj] at this ⊢;omega
  ·simp only[X8,Kf,Km,Ko] at hf;simp only[plc,Km,Kg] at hc;rcases hc with hc | hc
   ·have:=Zo8 hf.1.2 (by omega) (by omega) c hc;simp only[Zjj] at this ⊢;omega
   ·have:=Zo8 hf.2 (by omega) (by omega) c hc;simp only[Zjj] at this ⊢;omega
theorem Zlr {ps:List Pane}:∀ {b:BT} {x y w h:Int},X8 ps b w h=true→1≤w→1≤h→∀ c∈wst b x y w h,Zjj x y w h c
 | .waste,x,y,w,h,hf,h1,h2,c,hc=>by
  simp only[wst,KC] at hc;subst hc;simp only[Zjj];omega
 | .pane i t,x,y,w,h,hf,h1,h2,c,hc=>by simp[wst] at hc
 | .cut d a l r,x,y,w,h,hf,h1,h2,c,hc=>by
  cases d
  ·simp only[X8,Kf,Ka,Kq,Ko] at hf;simp only[wst,Ka,Kq,Kg] at hc;rcases hc with hc | hc
   ·have:=Zlr hf.1.2 (by omega) (by omega) c hc;simp only[Zjj] at this ⊢;omega
   ·have:=Zlr hf.2 (by omega) (by omega) c hc;simp only[Zjj] at this ⊢;omega
  ·simp only[X8,Kf,Km,Ko] at hf;simp only[wst,Km,Kg] at hc;rcases hc with hc | hc
   ·have:=Zlr hf.1.2 (by omega) (by omega) c hc;simp only[Zjj] at this ⊢;omega
   ·have:=Zlr hf.2 (by omega) (by omega) c hc;simp only[Zjj] at this ⊢;omega
def X9:List Box→Int
 | []=>0
 | c :: l=>c.W*c.H+X9 l
theorem ZcB (a b:List Box):X9 (a++b)=X9 a+X9 b:=by
 induction a with
 | nil=>simp[X9]
 | cons c l ih=>simp only[Kv,X9,ih];omega
theorem Zkg {ps:List Pane}:∀ {b:BT} {x y w h:Int},X9 (wst b x y w h)+X9 ((plc b x y w h).map Place.Box)=w*h
 | .waste,x,y,w,h=>by simp[wst,plc,X9]
 | .pane i t,x,y,w,h=>by simp[wst,plc,X9]
 | .cut d a l r,x,y,w,h=>by
  cases d
  ·have h1:=Zkg (ps:=ps) (b:=l) (x:=x) (y:=y) (w:=w) (h:=a);have h2:=Zkg (ps:=ps) (b:=r) (x:=x) (y:=y+a) (w:=w) (h:=h-a);have h3:w*(h-a)=w*h-w*a:=Int.mul_sub w h a;simp only[wst,plc,Ka,Kq,ZcB,K9];omega
  ·have h1:=Zkg (ps:=ps) (b:=l) (x:=x) (y:=y) (w:=a) (h:=h);have h2:=Zkg (ps:=ps) (b:=r) (x:=x+a) (y:=y) (w:=w-a) (h:=h);have h3:(w-a)*h=w*h-a*h:=Int.sub_mul w a h;simp only[wst,plc,Km,ZcB,K9];omega
theorem Zof:∀ (b:BT) (x y w h:Int),(wst b x y w h).length≤b.cnt
 | .waste,x,y,w,h=>by simp[wst,BT.cnt]
 | .pane i t,x,y,w,h=>by simp[wst,BT.cnt]
 | .cut d a l r,x,y,w,h=>by
  cases d
  ·have h1:=Zof l x y w a;have h2:=Zof r x (y+a) w (h-a);simp[wst,BT.cnt];omega
  ·have h1:=Zof l x y a h;have h2:=Zof r (x+a) y (w-a) h;simp[wst,BT.cnt];omega
theorem Zkh {k:ZI} {p:Zf} {b:BT} (hv:VW k) (hf:X8 k.Panes b k.W k.H=true):∀ c∈plc b 0 0 k.W k.H,VB c.Box:=by
 intro c hc;obtain⟨h1,h2,h3,h4,_⟩:=hv;have:=Zo8 hf h1 h3 c hc;simp only[Zjj] at this;simp only[VB];omega
theorem Zki {k:ZI} {p:Zf} {b:BT} (hv:VW k) (hf:X8 k.Panes b k.W k.H=true):∀ c∈wst b 0 0 k.W k.H,VB c:=by
 intro c hc;obtain⟨h1,h2,h3,h4,_⟩:=hv;have:=Zlr hf h1 h3 c hc;simp only[Zjj] at this;simp only[VB];omega
def Zt9 (b m:Box):Box:=⟨m.X-b.X,m.Y-b.Y,m.W,m.H⟩
def YO (b f:Box):Option Box:=if UI f b then some (Zt9 b (Zg6 f b)) else none
def Zo9 (q:Zb) (b:Box) (label:Int):Zb:=⟨label,b.W,b.H,q.Flaws.filterMap (YO b)⟩
theorem Zxy {q:Zb} {b:Box} {label:Int} (hq:VPc q) (hb:VB b) (hi:Wz b ⟨0,0,q.W,q.H⟩) (h1:1≤label) (h2:label≤9999):VPc (Zo9 q b label):=by
 simp only[VB] at hb;refine⟨⟨h1,h2,?_,?_,?_,?_,Kz (Kl _ _) hq.1.2.2.2.2.2.2⟩,?_⟩
 ·show 1≤b.W;omega
 ·show b.W≤200;omega
 ·show 1≤b.H;omega
 ·show b.H≤200;omega
 ·intro f hf;obtain⟨g,hg,aa⟩:=Lm.1 hf;have ab:=hq.2 g hg;unfold YO at aa;split at aa
  ·rename_i hm;cases aa;simp only[Zdd,VB,Wz] at ab;simp only[UI] at hm;simp only[Zdd,VB,Wz,Zt9,Zg6,Zo9];omega
  ·cases aa
def UW (Zi:Int) (b:Box):Option Box:=if Zi≤b.W∧Zi≤b.H then some b else none
def JA (q:Zb):Int→List Box→List Zb
 | _,[]=>[]
 | n,b :: l=>Zo9 q b n :: JA q (n+1) l
theorem Zhc (q:Zb):∀ (n:Int) (a b:List Box),JA q n (a++b)=JA q n a++JA q (n+a.length) b
 | n,[],b=>by simp[JA]
 | n,x :: a,b=>by
  simp only[Kv,JA,Zhc q (n+1) a b,Kp];congr 3
  omega
theorem Zde (q:Zb):∀ (n:Int) (a:List Box),(JA q n a).length=a.length
 | n,[]=>rfl
 | n,x :: a=>by simp[JA,Zde q (n+1) a]
theorem ZzU (q:Zb) (n:Int) {l:List Box} {i:Nat} {x:Box} (hx:l[i]?=some x):JA q n (l.take (i+1))=JA q n (l.take i)++[Zo9 q x (n+i)]:=by
 obtain⟨h1,h2⟩:=Kb.1 hx;rw[Ls h1,h2,Zhc];simp only[JA,Lo,Nat.min_eq_left (Nat.le_of_lt h1)]
def Xc (k:ZI) (p:Zf) (Zi:Int):List Box:=((QI k p).filterMap X3).filterMap (UW Zi)
theorem Zpa {k:ZI} {p:Zf} {Zi:Int} (hv:VK k p=true):∀ b∈Xc k p Zi,VB b∧Wz b ⟨0,0,k.W,k.H⟩:=by
 intro b hb;obtain⟨t,_,_,hw,_,hf,hp⟩:=Xx hv;unfold Xc at hb;rw[hp,Ze9] at hb;obtain⟨c,hc,aa⟩:=Lm.1 hb;unfold UW at aa;split at aa
 ·cases aa;refine⟨Zki (p:=p) hw hf b hc,?_⟩;obtain⟨h1,h2,h3,h4,_⟩:=hw;have:=Zlr hf h1 h3 b hc;simp only[Zjj] at this;simp only[Wz];omega
 ·cases aa
theorem Zie (k:ZI) (p:Zf) (Zi:Int):(Xc k p Zi).length≤255:=by
 unfold Xc;refine Kz (Kl _ _) (Kz (Kl _ _) ?_);unfold QI;split
 ·split
  ·rename_i h;simp only[Kf,Ko] at h;rw[Zab];exact h.1.2
  ·simp
 ·simp
def remn (q:Zb) (k:ZI) (p:Zf) (Zi label:Int):List Zb:=
 if (VPc q∧WJ q k p)∧1≤Zi∧Zi≤200∧1≤label∧label≤9999∧(Xc k p Zi).length≤10000-label then JA q label (Xc k p Zi) else []
def JK (Zi:Int) (b:Box):Option Box:=if b.W<Zi∨b.H<Zi then some b else none
def Zfb (k:ZI) (p:Zf) (Zi:Int):List Box:=((QI k p).filterMap X3).filterMap (JK Zi)
theorem ZcC {b:Box} (h:VB b):0≤b.W*b.H∧b.W*b.H≤40000:=by
 simp only[VB] at h;have h1:0≤b.W*b.H:=L1 (by omega) (by omega);have h2:b.W*b.H≤200*200:=L2 (by omega) (by omega) (by omega) (by omega);omega
theorem Zhd:∀ {l:List Box},(∀ b∈l,VB b)→0≤X9 l∧X9 l≤40000*l.length
 | [],_=>by simp[X9]
 | b :: l,h=>by
  have h1:=ZcC (h b (by simp));have h2:=Zhd (l:=l) fun c hc=>h c (by simp[hc]);simp only[X9,Kp];omega
theorem Zpb (Zi:Int):∀ (l:List Box),X9 (l.filterMap (UW Zi))+X9 (l.filterMap (JK Zi))=X9 l
 | []=>by simp[X9]
 | b :: l=>by
  have ih:=Zpb Zi l;by_cases h:Zi≤b.W∧Zi≤b.H
  ·have h' : ¬(b.W<Zi∨b.H<Zi):=by omega
   simp only[Lf,UW,JK,Kh h,Ke h',X9];omega
  ·have h' : b.W<Zi∨b.H<Zi:=by omega
   simp only[Lf,UW,JK,Ke h,Kh h',X9];omega
theorem Zfc {k:ZI} {p:Zf} (hv:VK k p=true):∀ b∈(QI k p).filterMap X3,VB b:=by
 obtain⟨t,_,_,hw,_,hf,hp⟩:=Xx hv;rw[hp,Ze9];exact Zki (p:=p) hw hf
attribute [go_sem] ite_self Bool.false_eq_true
end Go.Abs.L
