/- Own text. -/
import Derived.Test.YtighjmleicikhaaAbsLib
set_option linter.unusedVariables false
set_option linter.unusedSimpArgs false
namespace Go.Abs.L
open Go Go.Abs Go.Abs.E
inductive BT where
 | waste
 | pane (i:Int) (t:Bool)
 | cut (d:Bool) (a:Int) (l r:BT)
deriving DecidableEq,Inhabited
def Q9 (d:Bool):Int:=if d then 2 else 3
def BT.plan:BT→Ze
 | .waste=>.mk 0 0 0 false []
 | .pane i t=>.mk 1 0 i t []
 | .cut d a l r=>.mk (Q9 d) a 0 false [l.plan,r.plan]
def BT.cnt:BT→Nat
 | .waste=>1
 | .pane _ _=>1
 | .cut _ _ l r=>1+l.cnt+r.cnt
theorem BT.cnt_pos (b:BT):1≤b.cnt:=by cases b<;>simp[BT.cnt]<;>omega
def Ze.nodes:Ze→Nat
 | .mk _ _ _ _ ks=>1+nodesL ks
where nodesL:List Ze→Nat
 | []=>0
 | p :: r=>Ze.nodes p+nodesL r
def Zax (o a p:Int) (t:Bool) (l r:Option BT):Option BT:=match l,r with
 | some x,some y=>if p=0∧t=false then some (.cut (decide (o=2)) a x y) else none
 | _,_=>none
mutual
def Qp:Ze→Option BT
 | .mk o a p t ks=>if o=2∨o=3 then Zk7 o a p t ks else
   if ks.length=0∧a=0∧o=1 then some (.pane p t) else
   if ks.length=0∧a=0∧o=0∧p=0∧t=false then some .waste else none
def Zk7 (o a p:Int) (t:Bool):List Ze→Option BT
 | []=>none
 | x :: r=>Zng o a p t (Qp x) r
def Zng (o a p:Int) (t:Bool) (l:Option BT):List Ze→Option BT
 | []=>none
 | y :: r=>match r with
  | []=>Zax o a p t l (Qp y)
  | _=>none
end
theorem ZgJ (o a p:Int) (t:Bool) (x y:Ze) (ho:o=2∨o=3):Qp (.mk o a p t [x,y])=Zax o a p t (Qp x) (Qp y):=by
 simp[Qp,Zk7,Zng,ho]
theorem Zem (o a p:Int) (t:Bool) (ks:List Ze) (ho:o=2∨o=3) (hk:ks.length≠2):Qp (.mk o a p t ks)=none:=by
 match ks,hk with
 | [],_=>simp[Qp,Zk7,ho]
 | [x],_=>simp[Qp,Zk7,Zng,ho]
 | [x,y],h=>simp at h
 | x :: y :: z :: r,_=>simp[Qp,Zk7,Zng,ho]
theorem Y5:∀ b:BT,Qp b.plan=some b
 | .waste=>by simp[BT.plan,Qp]
 | .pane i t=>by simp[BT.plan,Qp]
 | .cut d a l r=>by
  rw[BT.plan,ZgJ _ _ _ _ _ _ (by cases d<;>simp[Q9]),Y5 l,Y5 r];cases d<;>simp[Zax,Q9]
theorem Zay:∀ (n:Nat) (p:Ze) (b:BT),p.nodes≤n→Qp p=some b→p=b.plan
 | 0,.mk o a p t ks,b,hn,_=>by simp[Ze.nodes] at hn
 | n+1,.mk o a p t ks,b,hn,h=>by
  by_cases ho:o=2∨o=3
  ·by_cases hk:ks.length=2
   ·match ks,hk with
    | [x,y],_=>
     rw[ZgJ _ _ _ _ _ _ ho] at h;simp only[Ze.nodes,Ze.nodes.nodesL] at hn;cases hx:Qp x with
     | none=>simp[hx,Zax] at h
     | some bx=>
      cases hy:Qp y with
      | none=>simp[hx,hy,Zax] at h
      | some bY=>
       have e1:=Zay n x bx (by omega) hx;have e2:=Zay n y bY (by omega) hy;simp only[hx,hy,Zax] at h;split at h
       ·rename_i hc;cases h;obtain⟨rfl,rfl⟩:=hc;rw[BT.plan,← e1,← e2];rcases ho with rfl | rfl<;>rfl
       ·cases h
   ·rw[Zem _ _ _ _ _ ho hk] at h;cases h
  ·simp only[Qp,ho,Kf] at h;split at h
   ·rename_i hc;cases h;obtain⟨h1,rfl,rfl⟩:=hc;cases ks with
    | nil=>rfl
    | cons x r=>simp at h1
   ·split at h
    ·rename_i hc;cases h;obtain⟨h1,rfl,rfl,rfl,rfl⟩:=hc;cases ks with
     | nil=>rfl
     | cons x r=>simp at h1
    ·cases h
theorem Y6 {p:Ze} {b:BT} (h:Qp p=some b):p=b.plan:=Zay _ p b (Kj _) h
theorem ZiP {o a p:Int} {t:Bool} {ks:List Ze} {x y:Ze} (ho:o=2∨o=3) (hk:ks.length=2) (h0:ks[0]?=some x) (h1:ks[1]?=some y):Qp (.mk o a p t ks)=Zax o a p t (Qp x) (Qp y):=by
 match ks,hk with
 | [x',y'],_=>
  simp at h0 h1;subst h0;subst h1;exact ZgJ _ _ _ _ _ _ ho
theorem ZgK:∀ {ks:List Ze} {i:Nat} {x:Ze},ks[i]?=some x→x.nodes≤Ze.nodes.nodesL ks
 | [],i,x,h=>by simp at h
 | y :: ks,0,x,h=>by simp at h;subst h;simp[Ze.nodes.nodesL]
 | y :: ks,i+1,x,h=>by
  have:=ZgK (ks:=ks) (i:=i) (x:=x) (by simpa using h);simp only[Ze.nodes.nodesL];omega
theorem Zb1 {o a p:Int} {t:Bool} {ks:List Ze} {i:Nat} {x:Ze} {n:Nat} (hn:(Ze.mk o a p t ks).nodes≤n+1) (h:ks[i]?=some x):x.nodes≤n:=by
 have:=ZgK h;simp only[Ze.nodes] at hn;omega
theorem Ze.enc_len (x:Ze):(Ze.enc x).cells.length=5:=by
 obtain⟨o,a,p,t,k⟩:=x;rw[Ze.enc_mk];rfl
theorem Ze.enc_agg (x:Ze):D.agg (Ze.enc x).cells=Ze.enc x:=by
 obtain⟨o,a,p,t,k⟩:=x;rw[Ze.enc_mk];rfl
theorem Ze.take_enc (x:Ze):(Ze.enc x).cells.take 5=(Ze.enc x).cells:=K9 (by rw[Ze.enc_len x];omega)
attribute [go_sem] Ze.enc_len Ze.enc_agg Ze.take_enc
theorem ZgL {o a p:Int} {t:Bool} {ks:List Ze} (ho:¬(o=2∨o=3)):Qp (.mk o a p t ks)=if ks.length=0∧a=0∧o=1 then some (.pane p t) else
   if ks.length=0∧a=0∧o=0∧p=0∧t=false then some .waste else none:=by
 simp only[Qp,ho,Kf]
def Zi (m:Int):Option BT→Int
 | some b=>if (b.cnt:Int)≤m then (b.cnt:Int) else -1
 | none=>-1
theorem Uz (m:Int) (h0:0≤m) (b:Option BT) : -1≤Zi m b∧Zi m b≤m∧Zi m b≠0:=by
 cases b with
 | none=>simp[Zi];omega
 | some b=>
  have:=b.cnt_pos;simp only[Zi];split<;>omega
theorem ZH (m:Int) (b:BT):((b.cnt:Int)≤m∧Zi m (some b)=b.cnt)∨(m<(b.cnt:Int)∧Zi m (some b)=-1):=by
 unfold Zi;by_cases h:(b.cnt:Int)≤m
 ·left;exact⟨h,Kv h⟩
 ·right;exact⟨by omega,Kp h⟩
theorem Zaz (m o a p:Int) (t:Bool) (l r:Option BT) (h:¬(p=0∧t=false)):Zi m (Zax o a p t l r)=-1:=by
 cases l with
 | none=>rfl
 | some x=>cases r with
  | none=>rfl
  | some y=>simp only[Zax,Kp h,Zi]
theorem Zmh (m o a:Int) (l r:Option BT):Zi m (Zax o a 0 false l r)=if Zi m l<0∨Zi m r<0∨m<1+Zi m l+Zi m r then -1 else 1+Zi m l+Zi m r:=by
 cases l with
 | none=>simp[Zax,Zi]
 | some x=>cases r with
  | none=>simp[Zax,Zi]
  | some y=>
   have h1:=x.cnt_pos;have h2:=y.cnt_pos;have e:(BT.cut (decide (o=2)) a x y).cnt=1+x.cnt+y.cnt:=rfl;have e0:Zax o a 0 false (some x) (some y)=some (BT.cut (decide (o=2)) a x y):=by simp[Zax]
   rw[e0];have hx:=ZH m x;have hy:=ZH m y;have hc:=ZH m (BT.cut (decide (o=2)) a x y);rw[e] at hc;generalize Zi m (some x)=sx at *;generalize Zi m (some y)=sy at *;generalize Zi m (some (BT.cut (decide (o=2)) a x y))=sc at *;split<;>omega
theorem Zk8 (m o a:Int) (l r:Option BT):Zi m (Zax o a 0 false l r)=if Zi (m-1) l<0∨Zi (m-1-Zi (m-1) l) r<0 then -1 else 1+Zi (m-1) l+Zi (m-1-Zi (m-1) l) r:=by
 cases l with
 | none=>simp[Zax,Zi]
 | some x=>cases r with
  | none=>simp[Zax,Zi]
  | some y=>
   have h1:=x.cnt_pos;have h2:=y.cnt_pos;have e:(BT.cut (decide (o=2)) a x y).cnt=1+x.cnt+y.cnt:=rfl;have e0:Zax o a 0 false (some x) (some y)=some (BT.cut (decide (o=2)) a x y):=by simp[Zax]
   rw[e0];have hx:=ZH (m-1) x;have hy:=ZH (m-1-Zi (m-1) (some x)) y;have hc:=ZH m (BT.cut (decide (o=2)) a x y);rw[e] at hc;generalize Zi (m-1-Zi (m-1) (some x)) (some y)=sy at *;generalize Zi (m-1) (some x)=sx at *;generalize Zi m (some (BT.cut (decide (o=2)) a x y))=sc at *;split<;>omega
theorem Zmi {m:Int} (h:m<1) (b:Option BT):Zi m b=-1:=by
 cases b with
 | none=>rfl
 | some b=>
  have:=b.cnt_pos;have:=ZH m b;omega
def ZW (ps:List Pane) (i:Int) (t:Bool) (w h:Int):Bool:=decide (0≤i)&&(match ps[i.toNat]? with
 | some q=>if t then q.Turns&&decide (¬q.W=q.H)&&decide (q.H=w)&&decide (q.W=h) else decide (q.W=w∧q.H=h)
 | none=>false)
def Z4 (ps:List Pane):BT→Int→Int→Bool
 | .waste,_,_=>true
 | .pane i t,w,h=>ZW ps i t w h
 | .cut d a l r,w,h=>if d then decide (1≤a∧a≤w-1)&&Z4 ps l a h&&Z4 ps r (w-a) h
   else decide (1≤a∧a≤h-1)&&Z4 ps l w a&&Z4 ps r w (h-a)
def VPs (ps:List Pane):Prop:=∀ q∈ps,VP q
instance (ps:List Pane):Decidable (VPs ps):=by unfold VPs;infer_instance
def VW (k:QR):Prop:=1≤k.W∧k.W≤200∧1≤k.H∧k.H≤200∧k.Panes.length≤24∧VPs k.Panes
instance (k:QR):Decidable (VW k):=by unfold VW;infer_instance
theorem Zk9 {ps:List Pane} {k:Nat} {x:Pane} (hx:ps[k]?=some x):VPs (ps.drop k)↔VP x∧VPs (ps.drop (k+1)):=by
 obtain⟨h1,h2⟩:=Kc.1 hx;rw[KQ h1,h2];simp[VPs]
end Go.Abs.L
set_option linter.unusedVariables false
set_option linter.unusedSimpArgs false
namespace Go.Abs.L
open Go Go.Abs Go.Abs.E
structure Part where
 plan:Ze
 box:Box
def Part.enc (p:Part):D:=.agg (p.plan.enc.cells++[.int .i64 p.box.X,.int .i64 p.box.Y,.int .i64 p.box.W,.int .i64 p.box.H])
@[go_sem] theorem Part.enc_mk (o a p:Int) (t:Bool) (ks:List Ze) (x y w h:Int):Part.enc ⟨.mk o a p t ks,⟨x,y,w,h⟩⟩ =
  .agg [.int .i64 o,.int .i64 a,.int .i64 p,.bool t,.sl (ks.map Ze.enc),.int .i64 x,.int .i64 y,.int .i64 w,.int .i64 h]:=by
 simp only[Part.enc,Ze.enc_mk];rfl
theorem Part.enc_len (p:Part):(Part.enc p).cells.length=9:=by
 show (p.plan.enc.cells++_).length=9;rw[Kg,Ze.enc_len];rfl
@[go_sem] theorem uni_Part (l:List Part):uni 9 (l.map Part.enc)=True:=eq_true (Uw l Part.enc_len)
def pt:BT→Int→Int→Int→Int→List Part
 | .waste,x,y,w,h=>[⟨BT.waste.plan,⟨x,y,w,h⟩⟩]
 | .pane i t,x,y,w,h=>[⟨(BT.pane i t).plan,⟨x,y,w,h⟩⟩]
 | .cut d a l r,x,y,w,h=>⟨(BT.cut d a l r).plan,⟨x,y,w,h⟩⟩ :: if d then pt l x y a h++pt r (x+a) y (w-a) h else pt l x y w a++pt r x (y+a) w (h-a)
def sp:BT→Int→Int→Int→Int→List Place
 | .waste,x,y,w,h=>[⟨-1,false,⟨x,y,w,h⟩⟩]
 | .pane i t,x,y,w,h=>[⟨i,t,⟨x,y,w,h⟩⟩]
 | .cut d a l r,x,y,w,h=>if d then sp l x y a h++sp r (x+a) y (w-a) h else sp l x y w a++sp r x (y+a) w (h-a)
def plc:BT→Int→Int→Int→Int→List Place
 | .waste,x,y,w,h=>[]
 | .pane i t,x,y,w,h=>[⟨i,t,⟨x,y,w,h⟩⟩]
 | .cut d a l r,x,y,w,h=>if d then plc l x y a h++plc r (x+a) y (w-a) h else plc l x y w a++plc r x (y+a) w (h-a)
def wst:BT→Int→Int→Int→Int→List Box
 | .waste,x,y,w,h=>[⟨x,y,w,h⟩]
 | .pane i t,x,y,w,h=>[]
 | .cut d a l r,x,y,w,h=>if d then wst l x y a h++wst r (x+a) y (w-a) h else wst l x y w a++wst r x (y+a) w (h-a)
def PN:BT→Prop
 | .waste=>True
 | .pane i _=>0≤i
 | .cut _ _ l r=>PN l∧PN r
def opP:Ze→Int
 | .mk o _ _ _ _=>o
def W1 (q:Part):Option Place:=match q.plan with
 | .mk o _ p t _=>if o=1 then some ⟨p,t,q.box⟩ else none
def VG (q:Part):Option Box:=match q.plan with
 | .mk o _ _ _ _=>if o=0 then some q.box else none
theorem ZiQ:∀ (b:BT) (x y w h:Int),(pt b x y w h).filterMap W1=plc b x y w h
 | .waste,x,y,w,h=>rfl
 | .pane i t,x,y,w,h=>rfl
 | .cut d a l r,x,y,w,h=>by
  have e:W1 ⟨(BT.cut d a l r).plan,⟨x,y,w,h⟩⟩=none:=by cases d<;>rfl
  cases d<;>simp[pt,plc,Lx,LR,e,ZiQ]
theorem Zb2:∀ (b:BT) (x y w h:Int),(pt b x y w h).filterMap VG=wst b x y w h
 | .waste,x,y,w,h=>rfl
 | .pane i t,x,y,w,h=>rfl
 | .cut d a l r,x,y,w,h=>by
  have e:VG ⟨(BT.cut d a l r).plan,⟨x,y,w,h⟩⟩=none:=by cases d<;>rfl
  cases d<;>simp[pt,wst,Lx,LR,e,Zb2]
def Znh (q:Place):Option Place:=if 0≤q.Pane then some q else none
def Zni (q:Place):Option Box:=if q.Pane<0 then some q.Box else none
theorem ZiR:∀ (b:BT) (x y w h:Int),PN b→(sp b x y w h).filterMap Znh=plc b x y w h
 | .waste,x,y,w,h,_=>rfl
 | .pane i t,x,y,w,h,hp=>by
  have hp:0≤i:=hp;simp[sp,plc,Znh,hp]
 | .cut d a l r,x,y,w,h,hp=>by
  cases d<;>simp[sp,plc,Lx,ZiR l _ _ _ _ hp.1,ZiR r _ _ _ _ hp.2]
theorem ZiS:∀ (b:BT) (x y w h:Int),PN b→(sp b x y w h).filterMap Zni=wst b x y w h
 | .waste,x,y,w,h,_=>rfl
 | .pane i t,x,y,w,h,hp=>by
  have hp:¬i<0:=by have:0≤i:=hp;omega
  simp[sp,wst,Zni,hp]
 | .cut d a l r,x,y,w,h,hp=>by
  cases d<;>simp[sp,wst,Lx,ZiS l _ _ _ _ hp.1,ZiS r _ _ _ _ hp.2]
theorem U1:∀ (b:BT) (x y w h:Int),(pt b x y w h).length=b.cnt
 | .waste,x,y,w,h=>rfl
 | .pane i t,x,y,w,h=>rfl
 | .cut d a l r,x,y,w,h=>by
  cases d<;>simp[pt,BT.cnt,U1]<;>omega
theorem ZjP:∀ (b:BT) (x y w h:Int),(sp b x y w h).length≤b.cnt
 | .waste,x,y,w,h=>by simp[sp,BT.cnt]
 | .pane i t,x,y,w,h=>by simp[sp,BT.cnt]
 | .cut d a l r,x,y,w,h=>by
  cases d
  ·have h1:=ZjP l x y w a;have h2:=ZjP r x (y+a) w (h-a);simp[sp,BT.cnt];omega
  ·have h1:=ZjP l x y a h;have h2:=ZjP r (x+a) y (w-a) h;simp[sp,BT.cnt];omega
theorem Znj {α β:Type} {l:List α} {f:α→Option β} {k:Nat} {x:α} (hx:l[k]?=some x):(l.take (k+1)).filterMap f=(l.take k).filterMap f++(f x).toList:=by
 obtain⟨h1,h2⟩:=Kc.1 hx;rw[List.take_succ_eq_append_getElem h1,h2,Lx];cases hf:f x<;>simp[hf]
theorem ZfI {ps:List Pane}:∀ {b:BT} {w h:Int},Z4 ps b w h=true→PN b
 | .waste,_,_,_=>trivial
 | .pane i t,w,h,hf=>by
  simp only[Z4,ZW,Kb,Kk] at hf;exact hf.1
 | .cut d a l r,w,h,hf=>by
  cases d
  ·simp only[Z4,Kb,Ka,Kf] at hf;exact⟨ZfI hf.1.2,ZfI hf.2⟩
  ·simp only[Z4,Kb,Kh] at hf;exact⟨ZfI hf.1.2,ZfI hf.2⟩
def XJ (k:QR) (p:Ze):List Part:=match Qp p with
 | some b=>if decide (VW k)&&decide (b.cnt≤255)&&Z4 k.Panes b k.W k.H then pt b 0 0 k.W k.H else []
 | none=>[]
def XN (k:QR) (p:Ze):Bool:=match Qp p with
 | some b=>decide (VW k)&&decide (b.cnt≤255)&&Z4 k.Panes b k.W k.H
 | none=>false
theorem ZgM {k:QR} {p:Ze} (h:XN k p=true):∃ b,Qp p=some b∧p=b.plan∧VW k∧b.cnt≤255∧Z4 k.Panes b k.W k.H=true∧XJ k p=pt b 0 0 k.W k.H:=by
 have h':=h;unfold XN at h;split at h
 ·rename_i b hb;refine⟨b,hb,Y6 hb,?_⟩;unfold XJ;rw[hb];dsimp only;rw[Kv h];simp only[Kb,Kk] at h;exact⟨h.1.1,h.1.2,h.2,rfl⟩
 ·cases h
theorem all_drop {α:Type} {l:List α} {k:Nat} {x:α} (hx:l[k]?=some x) (P:α→Prop):(∀ y∈l.drop k,P y)↔P x∧∀ y∈l.drop (k+1),P y:=by
 obtain⟨h1,h2⟩:=Kc.1 hx;rw[KQ h1,h2];simp
def ZgN (w h:Int) (f:Box):Prop:=VB f∧Q6 f ⟨0,0,w,h⟩
instance (w h:Int) (f:Box):Decidable (ZgN w h f):=by unfold ZgN;infer_instance
def VPc (q:Ya):Prop:=(1≤q.Label∧q.Label≤9999∧1≤q.W∧q.W≤200∧1≤q.H∧q.H≤200∧q.Flaws.length≤6)∧∀ f∈q.Flaws,ZgN q.W q.H f
instance (q:Ya):Decidable (VPc q):=by unfold VPc;infer_instance
def ZjQ (fs:List Box) (b:Box):Prop:=∀ f∈fs,¬Zcx f b
instance (fs:List Box) (b:Box):Decidable (ZjQ fs b):=by unfold ZjQ;infer_instance
def Zph (q:Ya) (k:QR) (p:Ze):Prop:=XN k p=true∧k.W=q.W∧k.H=q.H∧∀ c∈(XJ k p).filterMap W1,ZjQ q.Flaws c.Box
instance (q:Ya) (k:QR) (p:Ze):Decidable (Zph q k p):=by unfold Zph;infer_instance
def ZcT (x y w h:Int) (c:Box):Prop:=1≤c.W∧1≤c.H∧x≤c.X∧y≤c.Y∧c.X+c.W≤x+w∧c.Y+c.H≤y+h
theorem ZgO {ps:List Pane}:∀ {b:BT} {x y w h:Int},Z4 ps b w h=true→1≤w→1≤h→∀ c∈plc b x y w h,ZcT x y w h c.Box
 | .waste,x,y,w,h,hf,h1,h2,c,hc=>by simp[plc] at hc
 | .pane i t,x,y,w,h,hf,h1,h2,c,hc=>by
  simp only[plc,KI] at hc;subst hc;simp only[ZcT];omega
 | .cut d a l r,x,y,w,h,hf,h1,h2,c,hc=>by
  cases d
  ·simp only[Z4,Kb,Ka,Kf,Kk] at hf;simp only[plc,Ka,Kf,Kd] at hc;rcases hc with hc | hc
   ·have:=ZgO hf.1.2 (by omega) (by omega) c hc;simp only[ZcT] at this ⊢;omega
   ·have:=ZgO hf.2 (by omega) (by omega) c hc;simp only[ZcT] at this ⊢;omega
  ·simp only[Z4,Kb,Kh,Kk] at hf;simp only[plc,Kh,Kd] at hc;rcases hc with hc | hc
   ·have:=ZgO hf.1.2 (by omega) (by omega) c hc;simp only[ZcT] at this ⊢;omega
   ·have:=ZgO hf.2 (by omega) (by omega) c hc;simp only[ZcT] at this ⊢;omega
theorem Zen {ps:List Pane}:∀ {b:BT} {x y w h:Int},Z4 ps b w h=true→1≤w→1≤h→∀ c∈wst b x y w h,ZcT x y w h c
 | .waste,x,y,w,h,hf,h1,h2,c,hc=>by
  simp only[wst,KI] at hc;subst hc;simp only[ZcT];omega
 | .pane i t,x,y,w,h,hf,h1,h2,c,hc=>by simp[wst] at hc
 | .cut d a l r,x,y,w,h,hf,h1,h2,c,hc=>by
  cases d
  ·simp only[Z4,Kb,Ka,Kf,Kk] at hf;simp only[wst,Ka,Kf,Kd] at hc;rcases hc with hc | hc
   ·have:=Zen hf.1.2 (by omega) (by omega) c hc;simp only[ZcT] at this ⊢;omega
   ·have:=Zen hf.2 (by omega) (by omega) c hc;simp only[ZcT] at this ⊢;omega
  ·simp only[Z4,Kb,Kh,Kk] at hf;simp only[wst,Kh,Kd] at hc;rcases hc with hc | hc
   ·have:=Zen hf.1.2 (by omega) (by omega) c hc;simp only[ZcT] at this ⊢;omega
   ·have:=Zen hf.2 (by omega) (by omega) c hc;simp only[ZcT] at this ⊢;omega
def VT:List Box→Int
 | []=>0
 | c :: l=>c.W*c.H+VT l
theorem ZdD (a b:List Box):VT (a++b)=VT a+VT b:=by
 induction a with
 | nil=>simp[VT]
 | cons c l ih=>simp only[KV,VT,ih];omega
theorem ZdE {ps:List Pane}:∀ {b:BT} {x y w h:Int},VT (wst b x y w h)+VT ((plc b x y w h).map Place.Box)=w*h
 | .waste,x,y,w,h=>by simp[wst,plc,VT]
 | .pane i t,x,y,w,h=>by simp[wst,plc,VT]
 | .cut d a l r,x,y,w,h=>by
  cases d
  ·have h1:=ZdE (ps:=ps) (b:=l) (x:=x) (y:=y) (w:=w) (h:=a);have h2:=ZdE (ps:=ps) (b:=r) (x:=x) (y:=y+a) (w:=w) (h:=h-a);have h3:w*(h-a)=w*h-w*a:=Int.mul_sub w h a;simp only[wst,plc,Ka,Kf,ZdD,Lf];omega
  ·have h1:=ZdE (ps:=ps) (b:=l) (x:=x) (y:=y) (w:=a) (h:=h);have h2:=ZdE (ps:=ps) (b:=r) (x:=x+a) (y:=y) (w:=w-a) (h:=h);have h3:(w-a)*h=w*h-a*h:=Int.sub_mul w a h;simp only[wst,plc,Kh,ZdD,Lf];omega
theorem ZfJ:∀ (b:BT) (x y w h:Int),(wst b x y w h).length≤b.cnt
 | .waste,x,y,w,h=>by simp[wst,BT.cnt]
 | .pane i t,x,y,w,h=>by simp[wst,BT.cnt]
 | .cut d a l r,x,y,w,h=>by
  cases d
  ·have h1:=ZfJ l x y w a;have h2:=ZfJ r x (y+a) w (h-a);simp[wst,BT.cnt];omega
  ·have h1:=ZfJ l x y a h;have h2:=ZfJ r (x+a) y (w-a) h;simp[wst,BT.cnt];omega
theorem ZqA {k:QR} {p:Ze} {b:BT} (hv:VW k) (hf:Z4 k.Panes b k.W k.H=true):∀ c∈plc b 0 0 k.W k.H,VB c.Box:=by
 intro c hc;obtain⟨h1,h2,h3,h4,_⟩:=hv;have:=ZgO hf h1 h3 c hc;simp only[ZcT] at this;simp only[VB];omega
theorem ZdF {k:QR} {p:Ze} {b:BT} (hv:VW k) (hf:Z4 k.Panes b k.W k.H=true):∀ c∈wst b 0 0 k.W k.H,VB c:=by
 intro c hc;obtain⟨h1,h2,h3,h4,_⟩:=hv;have:=Zen hf h1 h3 c hc;simp only[ZcT] at this;simp only[VB];omega
def Zpi (b m:Box):Box:=⟨m.X-b.X,m.Y-b.Y,m.W,m.H⟩
def Znk (b f:Box):Option Box:=if Zcx f b then some (Zpi b (meetB f b)) else none
def cutP (q:Ya) (b:Box) (label:Int):Ya:=⟨label,b.W,b.H,q.Flaws.filterMap (Znk b)⟩
theorem Zr8 {q:Ya} {b:Box} {aa:Int} (hq:VPc q) (hb:VB b) (hi:Q6 b ⟨0,0,q.W,q.H⟩) (h1:1≤aa) (h2:aa≤9999):VPc (cutP q b aa):=by
 simp only[VB] at hb;refine⟨⟨h1,h2,?_,?_,?_,?_,K1 (Lp _ _) hq.1.2.2.2.2.2.2⟩,?_⟩
 ·show 1≤b.W;omega
 ·show b.W≤200;omega
 ·show 1≤b.H;omega
 ·show b.H≤200;omega
 ·intro f hf;obtain⟨g,hg,ab⟩:=List.mem_filterMap.1 hf;have ad:=hq.2 g hg;unfold Znk at ab;split at ab
  ·rename_i hm;cases ab;simp only[ZgN,VB,Q6] at ad;simp only[Zcx] at hm;simp only[ZgN,VB,Q6,Zpi,meetB,cutP];omega
  ·cases ab
def Zla (Xq:Int) (b:Box):Option Box:=if Xq≤b.W∧Xq≤b.H then some b else none
def Zfp (q:Ya):Int→List Box→List Ya
 | _,[]=>[]
 | n,b :: l=>cutP q b n :: Zfp q (n+1) l
theorem Zfd (q:Ya):∀ (n:Int) (a b:List Box),Zfp q n (a++b)=Zfp q n a++Zfp q (n+a.length) b
 | n,[],b=>by simp[Zfp]
 | n,x :: a,b=>by
  simp only[KV,Zfp,Zfd q (n+1) a b,Ki];congr 3
  omega
theorem Zpj (q:Ya):∀ (n:Int) (a:List Box),(Zfp q n a).length=a.length
 | n,[]=>rfl
 | n,x :: a=>by simp[Zfp,Zpj q (n+1) a]
theorem cutN_take (q:Ya) (n:Int) {l:List Box} {i:Nat} {x:Box} (hx:l[i]?=some x):Zfp q n (l.take (i+1))=Zfp q n (l.take i)++[cutP q x (n+i)]:=by
 obtain⟨h1,h2⟩:=Kc.1 hx;rw[List.take_succ_eq_append_getElem h1,h2,Zfd];simp only[Zfp,KW,Nat.min_eq_left (Nat.le_of_lt h1)]
def ZiT (k:QR) (p:Ze) (Xq:Int):List Box:=((XJ k p).filterMap VG).filterMap (Zla Xq)
theorem keptL_in {k:QR} {p:Ze} {Xq:Int} (hv:XN k p=true):∀ b∈ZiT k p Xq,VB b∧Q6 b ⟨0,0,k.W,k.H⟩:=by
 intro b hb;obtain⟨t,_,_,hw,_,hf,hp⟩:=ZgM hv;unfold ZiT at hb;rw[hp,Zb2] at hb;obtain⟨c,hc,aa⟩:=List.mem_filterMap.1 hb;unfold Zla at aa;split at aa
 ·cases aa;refine⟨ZdF (p:=p) hw hf b hc,?_⟩;obtain⟨h1,h2,h3,h4,_⟩:=hw;have:=Zen hf h1 h3 b hc;simp only[ZcT] at this;simp only[Q6];omega
 ·cases aa
theorem keptL_len (k:QR) (p:Ze) (Xq:Int):(ZiT k p Xq).length≤255:=by
 unfold ZiT;refine K1 (Lp _ _) (K1 (Lp _ _) ?_);unfold XJ;split
 ·split
  ·rename_i h;simp only[Kb,Kk] at h;rw[U1];exact h.1.2
  ·simp
 ·simp
def remn (q:Ya) (k:QR) (p:Ze) (Xq label:Int):List Ya:=
 if (VPc q∧Zph q k p)∧1≤Xq∧Xq≤200∧1≤label∧label≤9999∧(ZiT k p Xq).length≤10000-label then Zfp q label (ZiT k p Xq) else []
def Znl (Xq:Int) (b:Box):Option Box:=if b.W<Xq∨b.H<Xq then some b else none
def lostL (k:QR) (p:Ze) (Xq:Int):List Box:=((XJ k p).filterMap VG).filterMap (Znl Xq)
theorem ZqB {b:Box} (h:VB b):0≤b.W*b.H∧b.W*b.H≤40000:=by
 simp only[VB] at h;have h1:0≤b.W*b.H:=Int.mul_nonneg (by omega) (by omega);have h2:b.W*b.H≤200*200:=Int.mul_le_mul (by omega) (by omega) (by omega) (by omega);omega
theorem Zpk:∀ {l:List Box},(∀ b∈l,VB b)→0≤VT l∧VT l≤40000*l.length
 | [],_=>by simp[VT]
 | b :: l,h=>by
  have h1:=ZqB (h b (by simp));have h2:=Zpk (l:=l) fun c hc=>h c (by simp[hc]);simp only[VT,Ki];omega
theorem ZgP (Xq:Int):∀ (l:List Box),VT (l.filterMap (Zla Xq))+VT (l.filterMap (Znl Xq))=VT l
 | []=>by simp[VT]
 | b :: l=>by
  have ih:=ZgP Xq l;by_cases h:Xq≤b.W∧Xq≤b.H
  ·have h' : ¬(b.W<Xq∨b.H<Xq):=by omega
   simp only[LR,Zla,Znl,Kv h,Kp h',VT];omega
  ·have h' : b.W<Xq∨b.H<Xq:=by omega
   simp only[LR,Zla,Znl,Kp h,Kv h',VT];omega
theorem wastes_VB {k:QR} {p:Ze} (hv:XN k p=true):∀ b∈(XJ k p).filterMap VG,VB b:=by
 obtain⟨t,_,_,hw,_,hf,hp⟩:=ZgM hv;rw[hp,Zb2];exact ZdF (p:=p) hw hf
attribute [go_sem] ite_self Bool.false_eq_true
end Go.Abs.L
