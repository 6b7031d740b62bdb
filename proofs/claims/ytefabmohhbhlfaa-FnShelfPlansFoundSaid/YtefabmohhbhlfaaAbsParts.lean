/- Own text. -/
import Derived.Test.YtefabmohhbhlfaaAbsLib
set_option linter.unusedVariables false
set_option linter.unusedSimpArgs false
namespace Go.Abs.L
open Go Go.Abs Go.Abs.E
inductive BT where
 | waste
 | pane (i:Int) (t:Bool)
 | cut (d:Bool) (a:Int) (l r:BT)
deriving DecidableEq,Inhabited
def UT (d:Bool):Int:=if d then 2 else 3
def BT.plan:BT→Zl
 | .waste=>.mk 0 0 0 false []
 | .pane i t=>.mk 1 0 i t []
 | .cut d a l r=>.mk (UT d) a 0 false [l.plan,r.plan]
def BT.cnt:BT→Nat
 | .waste=>1
 | .pane _ _=>1
 | .cut _ _ l r=>1+l.cnt+r.cnt
theorem BT.cnt_pos (b:BT):1≤b.cnt:=by cases b<;>simp[BT.cnt]<;>omega
def Zl.nodes:Zl→Nat
 | .mk _ _ _ _ ks=>1+nodesL ks
where nodesL:List Zl→Nat
 | []=>0
 | p :: r=>Zl.nodes p+nodesL r
def Zau (o a p:Int) (t:Bool) (l r:Option BT):Option BT:=match l,r with
 | some x,some y=>if p=0∧t=false then some (.cut (decide (o=2)) a x y) else none
 | _,_=>none
mutual
def XH:Zl→Option BT
 | .mk o a p t ks=>if o=2∨o=3 then Zl9 o a p t ks else
   if ks.length=0∧a=0∧o=1 then some (.pane p t) else
   if ks.length=0∧a=0∧o=0∧p=0∧t=false then some .waste else none
def Zl9 (o a p:Int) (t:Bool):List Zl→Option BT
 | []=>none
 | x :: r=>Zoy o a p t (XH x) r
def Zoy (o a p:Int) (t:Bool) (l:Option BT):List Zl→Option BT
 | []=>none
 | y :: r=>match r with
  | []=>Zau o a p t l (XH y)
  | _=>none
end
theorem Zg9 (o a p:Int) (t:Bool) (x y:Zl) (ho:o=2∨o=3):XH (.mk o a p t [x,y])=Zau o a p t (XH x) (XH y):=by
 simp[XH,Zl9,Zoy,ho]
theorem ZjH (o a p:Int) (t:Bool) (ks:List Zl) (ho:o=2∨o=3) (hk:ks.length≠2):XH (.mk o a p t ks)=none:=by
 match ks,hk with
 | [],_=>simp[XH,Zl9,ho]
 | [x],_=>simp[XH,Zl9,Zoy,ho]
 | [x,y],h=>simp at h
 | x :: y :: z :: r,_=>simp[XH,Zl9,Zoy,ho]
theorem Uz:∀ b:BT,XH b.plan=some b
 | .waste=>by simp[BT.plan,XH]
 | .pane i t=>by simp[BT.plan,XH]
 | .cut d a l r=>by
  rw[BT.plan,Zg9 _ _ _ _ _ _ (by cases d<;>simp[UT]),Uz l,Uz r];cases d<;>simp[Zau,UT]
theorem Zav:∀ (n:Nat) (p:Zl) (b:BT),p.nodes≤n→XH p=some b→p=b.plan
 | 0,.mk o a p t ks,b,hn,_=>by simp[Zl.nodes] at hn
 | n+1,.mk o a p t ks,b,hn,h=>by
  by_cases ho:o=2∨o=3
  ·by_cases hk:ks.length=2
   ·match ks,hk with
    | [x,y],_=>
     rw[Zg9 _ _ _ _ _ _ ho] at h;simp only[Zl.nodes,Zl.nodes.nodesL] at hn;cases hx:XH x with
     | none=>simp[hx,Zau] at h
     | some bx=>
      cases hy:XH y with
      | none=>simp[hx,hy,Zau] at h
      | some bY=>
       have e1:=Zav n x bx (by omega) hx;have e2:=Zav n y bY (by omega) hy;simp only[hx,hy,Zau] at h;split at h
       ·rename_i hc;cases h;obtain⟨rfl,rfl⟩:=hc;rw[BT.plan,← e1,← e2];rcases ho with rfl | rfl<;>rfl
       ·cases h
   ·rw[ZjH _ _ _ _ _ ho hk] at h;cases h
  ·simp only[XH,ho,Ki] at h;split at h
   ·rename_i hc;cases h;obtain⟨h1,rfl,rfl⟩:=hc;cases ks with
    | nil=>rfl
    | cons x r=>simp at h1
   ·split at h
    ·rename_i hc;cases h;obtain⟨h1,rfl,rfl,rfl,rfl⟩:=hc;cases ks with
     | nil=>rfl
     | cons x r=>simp at h1
    ·cases h
theorem Zev {p:Zl} {b:BT} (h:XH p=some b):p=b.plan:=Zav _ p b (Kh _) h
theorem ZpG {o a p:Int} {t:Bool} {ks:List Zl} {x y:Zl} (ho:o=2∨o=3) (hk:ks.length=2) (h0:ks[0]?=some x) (h1:ks[1]?=some y):XH (.mk o a p t ks)=Zau o a p t (XH x) (XH y):=by
 match ks,hk with
 | [x',y'],_=>
  simp at h0 h1;subst h0;subst h1;exact Zg9 _ _ _ _ _ _ ho
theorem Zha:∀ {ks:List Zl} {i:Nat} {x:Zl},ks[i]?=some x→x.nodes≤Zl.nodes.nodesL ks
 | [],i,x,h=>by simp at h
 | y :: ks,0,x,h=>by simp at h;subst h;simp[Zl.nodes.nodesL]
 | y :: ks,i+1,x,h=>by
  have:=Zha (ks:=ks) (i:=i) (x:=x) (by simpa using h);simp only[Zl.nodes.nodesL];omega
theorem ZjI {o a p:Int} {t:Bool} {ks:List Zl} {i:Nat} {x:Zl} {n:Nat} (hn:(Zl.mk o a p t ks).nodes≤n+1) (h:ks[i]?=some x):x.nodes≤n:=by
 have:=Zha h;simp only[Zl.nodes] at hn;omega
theorem Zl.enc_len (x:Zl):(Zl.enc x).cells.length=5:=by
 obtain⟨o,a,p,t,k⟩:=x;rw[Zl.enc_mk];rfl
theorem Zl.enc_agg (x:Zl):D.agg (Zl.enc x).cells=Zl.enc x:=by
 obtain⟨o,a,p,t,k⟩:=x;rw[Zl.enc_mk];rfl
theorem Zl.take_enc (x:Zl):(Zl.enc x).cells.take 5=(Zl.enc x).cells:=KQ (by rw[Zl.enc_len x];omega)
attribute [go_sem] Zl.enc_len Zl.enc_agg Zl.take_enc
theorem Znm {o a p:Int} {t:Bool} {ks:List Zl} (ho:¬(o=2∨o=3)):XH (.mk o a p t ks)=if ks.length=0∧a=0∧o=1 then some (.pane p t) else
   if ks.length=0∧a=0∧o=0∧p=0∧t=false then some .waste else none:=by
 simp only[XH,ho,Ki]
def Zx (m:Int):Option BT→Int
 | some b=>if (b.cnt:Int)≤m then (b.cnt:Int) else -1
 | none=>-1
theorem Zds (m:Int) (h0:0≤m) (b:Option BT) : -1≤Zx m b∧Zx m b≤m∧Zx m b≠0:=by
 cases b with
 | none=>simp[Zx];omega
 | some b=>
  have:=b.cnt_pos;simp only[Zx];split<;>omega
theorem XT (m:Int) (b:BT):((b.cnt:Int)≤m∧Zx m (some b)=b.cnt)∨(m<(b.cnt:Int)∧Zx m (some b)=-1):=by
 unfold Zx;by_cases h:(b.cnt:Int)≤m
 ·left;exact⟨h,Ko h⟩
 ·right;exact⟨by omega,Kn h⟩
theorem Zhb (m o a p:Int) (t:Bool) (l r:Option BT) (h:¬(p=0∧t=false)):Zx m (Zau o a p t l r)=-1:=by
 cases l with
 | none=>rfl
 | some x=>cases r with
  | none=>rfl
  | some y=>simp only[Zau,Kn h,Zx]
theorem Ztt (m o a:Int) (l r:Option BT):Zx m (Zau o a 0 false l r)=if Zx m l<0∨Zx m r<0∨m<1+Zx m l+Zx m r then -1 else 1+Zx m l+Zx m r:=by
 cases l with
 | none=>simp[Zau,Zx]
 | some x=>cases r with
  | none=>simp[Zau,Zx]
  | some y=>
   have h1:=x.cnt_pos;have h2:=y.cnt_pos;have e:(BT.cut (decide (o=2)) a x y).cnt=1+x.cnt+y.cnt:=rfl;have e0:Zau o a 0 false (some x) (some y)=some (BT.cut (decide (o=2)) a x y):=by simp[Zau]
   rw[e0];have hx:=XT m x;have hy:=XT m y;have hc:=XT m (BT.cut (decide (o=2)) a x y);rw[e] at hc;generalize Zx m (some x)=sx at *;generalize Zx m (some y)=sy at *;generalize Zx m (some (BT.cut (decide (o=2)) a x y))=sc at *;split<;>omega
theorem Zma (m o a:Int) (l r:Option BT):Zx m (Zau o a 0 false l r)=if Zx (m-1) l<0∨Zx (m-1-Zx (m-1) l) r<0 then -1 else 1+Zx (m-1) l+Zx (m-1-Zx (m-1) l) r:=by
 cases l with
 | none=>simp[Zau,Zx]
 | some x=>cases r with
  | none=>simp[Zau,Zx]
  | some y=>
   have h1:=x.cnt_pos;have h2:=y.cnt_pos;have e:(BT.cut (decide (o=2)) a x y).cnt=1+x.cnt+y.cnt:=rfl;have e0:Zau o a 0 false (some x) (some y)=some (BT.cut (decide (o=2)) a x y):=by simp[Zau]
   rw[e0];have hx:=XT (m-1) x;have hy:=XT (m-1-Zx (m-1) (some x)) y;have hc:=XT m (BT.cut (decide (o=2)) a x y);rw[e] at hc;generalize Zx (m-1-Zx (m-1) (some x)) (some y)=sy at *;generalize Zx (m-1) (some x)=sx at *;generalize Zx m (some (BT.cut (decide (o=2)) a x y))=sc at *;split<;>omega
theorem Znn {m:Int} (h:m<1) (b:Option BT):Zx m b=-1:=by
 cases b with
 | none=>rfl
 | some b=>
  have:=b.cnt_pos;have:=XT m b;omega
def Xq (ps:List Pane) (i:Int) (t:Bool) (w h:Int):Bool:=decide (0≤i)&&(match ps[i.toNat]? with
 | some q=>if t then q.Turns&&decide (¬q.W=q.H)&&decide (q.H=w)&&decide (q.W=h) else decide (q.W=w∧q.H=h)
 | none=>false)
def QC (ps:List Pane):BT→Int→Int→Bool
 | .waste,_,_=>true
 | .pane i t,w,h=>Xq ps i t w h
 | .cut d a l r,w,h=>if d then decide (1≤a∧a≤w-1)&&QC ps l a h&&QC ps r (w-a) h
   else decide (1≤a∧a≤h-1)&&QC ps l w a&&QC ps r w (h-a)
def VPs (ps:List Pane):Prop:=∀ q∈ps,VP q
instance (ps:List Pane):Decidable (VPs ps):=by unfold VPs;infer_instance
def VW (k:ZO):Prop:=1≤k.W∧k.W≤200∧1≤k.H∧k.H≤200∧k.Panes.length≤24∧VPs k.Panes
instance (k:ZO):Decidable (VW k):=by unfold VW;infer_instance
theorem Zmb {ps:List Pane} {k:Nat} {x:Pane} (hx:ps[k]?=some x):VPs (ps.drop k)↔VP x∧VPs (ps.drop (k+1)):=by
 obtain⟨h1,h2⟩:=Kc.1 hx;rw[K3 h1,h2];simp[VPs]
end Go.Abs.L
set_option linter.unusedVariables false
set_option linter.unusedSimpArgs false
namespace Go.Abs.L
open Go Go.Abs Go.Abs.E
structure Part where
 plan:Zl
 box:Box
def Part.enc (p:Part):D:=.agg (p.plan.enc.cells++[.int .i64 p.box.X,.int .i64 p.box.Y,.int .i64 p.box.W,.int .i64 p.box.H])
@[go_sem] theorem Part.enc_mk (o a p:Int) (t:Bool) (ks:List Zl) (x y w h:Int):Part.enc ⟨.mk o a p t ks,⟨x,y,w,h⟩⟩ =
  .agg [.int .i64 o,.int .i64 a,.int .i64 p,.bool t,.sl (ks.map Zl.enc),.int .i64 x,.int .i64 y,.int .i64 w,.int .i64 h]:=by
 simp only[Part.enc,Zl.enc_mk];rfl
theorem Part.enc_len (p:Part):(Part.enc p).cells.length=9:=by
 show (p.plan.enc.cells++_).length=9;rw[Kj,Zl.enc_len];rfl
@[go_sem] theorem uni_Part (l:List Part):uni 9 (l.map Part.enc)=True:=eq_true (V2 l Part.enc_len)
def pt:BT→Int→Int→Int→Int→List Part
 | .waste,x,y,w,h=>[⟨BT.waste.plan,⟨x,y,w,h⟩⟩]
 | .pane i t,x,y,w,h=>[⟨(BT.pane i t).plan,⟨x,y,w,h⟩⟩]
 | .cut d a l r,x,y,w,h=>⟨(BT.cut d a l r).plan,⟨x,y,w,h⟩⟩ :: if d then pt l x y a h++pt r (x+a) y (w-a) h else pt l x y w a++pt r x (y+a) w (h-a)
def sp:BT→Int→Int→Int→Int→List Place
 | .waste,x,y,w,h=>[⟨-1,false,⟨x,y,w,h⟩⟩]
 | .pane i t,x,y,w,h=>[⟨i,t,⟨x,y,w,h⟩⟩]
 | .cut d a l r,x,y,w,h=>if d then sp l x y a h++sp r (x+a) y (w-a) h else sp l x y w a++sp r x (y+a) w (h-a)
def plc:BT→Int→Int→Int→Int→List Place
 | .waste,x,y,w,h=>[]
 | .pane i t,x,y,w,h=>[⟨i,t,⟨x,y,w,h⟩⟩]
 | .cut d a l r,x,y,w,h=>if d then plc l x y a h++plc r (x+a) y (w-a) h else plc l x y w a++plc r x (y+a) w (h-a)
def wst:BT→Int→Int→Int→Int→List Box
 | .waste,x,y,w,h=>[⟨x,y,w,h⟩]
 | .pane i t,x,y,w,h=>[]
 | .cut d a l r,x,y,w,h=>if d then wst l x y a h++wst r (x+a) y (w-a) h else wst l x y w a++wst r x (y+a) w (h-a)
def PN:BT→Prop
 | .waste=>True
 | .pane i _=>0≤i
 | .cut _ _ l r=>PN l∧PN r
def opP:Zl→Int
 | .mk o _ _ _ _=>o
def Xr (q:Part):Option Place:=match q.plan with
 | .mk o _ p t _=>if o=1 then some ⟨p,t,q.box⟩ else none
def Zdt (q:Part):Option Box:=match q.plan with
 | .mk o _ _ _ _=>if o=0 then some q.box else none
theorem Zew:∀ (b:BT) (x y w h:Int),(pt b x y w h).filterMap Xr=plc b x y w h
 | .waste,x,y,w,h=>rfl
 | .pane i t,x,y,w,h=>rfl
 | .cut d a l r,x,y,w,h=>by
  have e:Xr ⟨(BT.cut d a l r).plan,⟨x,y,w,h⟩⟩=none:=by cases d<;>rfl
  cases d<;>simp[pt,plc,LH,L8,e,Zew]
theorem Zex:∀ (b:BT) (x y w h:Int),(pt b x y w h).filterMap Zdt=wst b x y w h
 | .waste,x,y,w,h=>rfl
 | .pane i t,x,y,w,h=>rfl
 | .cut d a l r,x,y,w,h=>by
  have e:Zdt ⟨(BT.cut d a l r).plan,⟨x,y,w,h⟩⟩=none:=by cases d<;>rfl
  cases d<;>simp[pt,wst,LH,L8,e,Zex]
def Zoz (q:Place):Option Place:=if 0≤q.Pane then some q else none
def ZoA (q:Place):Option Box:=if q.Pane<0 then some q.Box else none
theorem ZjJ:∀ (b:BT) (x y w h:Int),PN b→(sp b x y w h).filterMap Zoz=plc b x y w h
 | .waste,x,y,w,h,_=>rfl
 | .pane i t,x,y,w,h,hp=>by
  have hp:0≤i:=hp;simp[sp,plc,Zoz,hp]
 | .cut d a l r,x,y,w,h,hp=>by
  cases d<;>simp[sp,plc,LH,ZjJ l _ _ _ _ hp.1,ZjJ r _ _ _ _ hp.2]
theorem ZjK:∀ (b:BT) (x y w h:Int),PN b→(sp b x y w h).filterMap ZoA=wst b x y w h
 | .waste,x,y,w,h,_=>rfl
 | .pane i t,x,y,w,h,hp=>by
  have hp:¬i<0:=by have:0≤i:=hp;omega
  simp[sp,wst,ZoA,hp]
 | .cut d a l r,x,y,w,h,hp=>by
  cases d<;>simp[sp,wst,LH,ZjK l _ _ _ _ hp.1,ZjK r _ _ _ _ hp.2]
theorem ZcO:∀ (b:BT) (x y w h:Int),(pt b x y w h).length=b.cnt
 | .waste,x,y,w,h=>rfl
 | .pane i t,x,y,w,h=>rfl
 | .cut d a l r,x,y,w,h=>by
  cases d<;>simp[pt,BT.cnt,ZcO]<;>omega
theorem ZkL:∀ (b:BT) (x y w h:Int),(sp b x y w h).length≤b.cnt
 | .waste,x,y,w,h=>by simp[sp,BT.cnt]
 | .pane i t,x,y,w,h=>by simp[sp,BT.cnt]
 | .cut d a l r,x,y,w,h=>by
  cases d
  ·have h1:=ZkL l x y w a;have h2:=ZkL r x (y+a) w (h-a);simp[sp,BT.cnt];omega
  ·have h1:=ZkL l x y a h;have h2:=ZkL r (x+a) y (w-a) h;simp[sp,BT.cnt];omega
theorem Zr2 {α β:Type} {l:List α} {f:α→Option β} {k:Nat} {x:α} (hx:l[k]?=some x):(l.take (k+1)).filterMap f=(l.take k).filterMap f++(f x).toList:=by
 obtain⟨h1,h2⟩:=Kc.1 hx;rw[List.take_succ_eq_append_getElem h1,h2,LH];cases hf:f x<;>simp[hf]
theorem Zf9 {ps:List Pane}:∀ {b:BT} {w h:Int},QC ps b w h=true→PN b
 | .waste,_,_,_=>trivial
 | .pane i t,w,h,hf=>by
  simp only[QC,Xq,Kb,Kl] at hf;exact hf.1
 | .cut d a l r,w,h,hf=>by
  cases d
  ·simp only[QC,Kb,Ka,Ki] at hf;exact⟨Zf9 hf.1.2,Zf9 hf.2⟩
  ·simp only[QC,Kb,Kk] at hf;exact⟨Zf9 hf.1.2,Zf9 hf.2⟩
def Q2 (k:ZO) (p:Zl):List Part:=match XH p with
 | some b=>if decide (VW k)&&decide (b.cnt≤255)&&QC k.Panes b k.W k.H then pt b 0 0 k.W k.H else []
 | none=>[]
def VG (k:ZO) (p:Zl):Bool:=match XH p with
 | some b=>decide (VW k)&&decide (b.cnt≤255)&&QC k.Panes b k.W k.H
 | none=>false
theorem Zhc {k:ZO} {p:Zl} (h:VG k p=true):∃ b,XH p=some b∧p=b.plan∧VW k∧b.cnt≤255∧QC k.Panes b k.W k.H=true∧Q2 k p=pt b 0 0 k.W k.H:=by
 have h':=h;unfold VG at h;split at h
 ·rename_i b hb;refine⟨b,hb,Zev hb,?_⟩;unfold Q2;rw[hb];dsimp only;rw[Ko h];simp only[Kb,Kl] at h;exact⟨h.1.1,h.1.2,h.2,rfl⟩
 ·cases h
theorem all_drop {α:Type} {l:List α} {k:Nat} {x:α} (hx:l[k]?=some x) (P:α→Prop):(∀ y∈l.drop k,P y)↔P x∧∀ y∈l.drop (k+1),P y:=by
 obtain⟨h1,h2⟩:=Kc.1 hx;rw[K3 h1,h2];simp
def Zhd (w h:Int) (f:Box):Prop:=VB f∧Qt f ⟨0,0,w,h⟩
instance (w h:Int) (f:Box):Decidable (Zhd w h f):=by unfold Zhd;infer_instance
def VPc (q:X6):Prop:=(1≤q.Label∧q.Label≤9999∧1≤q.W∧q.W≤200∧1≤q.H∧q.H≤200∧q.Flaws.length≤6)∧∀ f∈q.Flaws,Zhd q.W q.H f
instance (q:X6):Decidable (VPc q):=by unfold VPc;infer_instance
def ZkM (fs:List Box) (b:Box):Prop:=∀ f∈fs,¬Ys f b
instance (fs:List Box) (b:Box):Decidable (ZkM fs b):=by unfold ZkM;infer_instance
def ZqF (q:X6) (k:ZO) (p:Zl):Prop:=VG k p=true∧k.W=q.W∧k.H=q.H∧∀ c∈(Q2 k p).filterMap Xr,ZkM q.Flaws c.Box
instance (q:X6) (k:ZO) (p:Zl):Decidable (ZqF q k p):=by unfold ZqF;infer_instance
def W3 (x y w h:Int) (c:Box):Prop:=1≤c.W∧1≤c.H∧x≤c.X∧y≤c.Y∧c.X+c.W≤x+w∧c.Y+c.H≤y+h
theorem V9 {ps:List Pane}:∀ {b:BT} {x y w h:Int},QC ps b w h=true→1≤w→1≤h→∀ c∈plc b x y w h,W3 x y w h c.Box
 | .waste,x,y,w,h,hf,h1,h2,c,hc=>by simp[plc] at hc
 | .pane i t,x,y,w,h,hf,h1,h2,c,hc=>by
  simp only[plc,Kv] at hc;subst hc;simp only[W3];omega
 | .cut d a l r,x,y,w,h,hf,h1,h2,c,hc=>by
  cases d
  ·simp only[QC,Kb,Ka,Ki,Kl] at hf;simp only[plc,Ka,Ki,Kd] at hc;rcases hc with hc | hc
   ·have:=V9 hf.1.2 (by omega) (by omega) c hc;simp only[W3] at this ⊢;omega
   ·have:=V9 hf.2 (by omega) (by omega) c hc;simp only[W3] at this ⊢;omega
  ·simp only[QC,Kb,Kk,Kl] at hf;simp only[plc,Kk,Kd] at hc;rcases hc with hc | hc
   ·have:=V9 hf.1.2 (by omega) (by omega) c hc;simp only[W3] at this ⊢;omega
   ·have:=V9 hf.2 (by omega) (by omega) c hc;simp only[W3] at this ⊢;omega
theorem Zey {ps:List Pane}:∀ {b:BT} {x y w h:Int},QC ps b w h=true→1≤w→1≤h→∀ c∈wst b x y w h,W3 x y w h c
 | .waste,x,y,w,h,hf,h1,h2,c,hc=>by
  simp only[wst,Kv] at hc;subst hc;simp only[W3];omega
 | .pane i t,x,y,w,h,hf,h1,h2,c,hc=>by simp[wst] at hc
 | .cut d a l r,x,y,w,h,hf,h1,h2,c,hc=>by
  cases d
  ·simp only[QC,Kb,Ka,Ki,Kl] at hf;simp only[wst,Ka,Ki,Kd] at hc;rcases hc with hc | hc
   ·have:=Zey hf.1.2 (by omega) (by omega) c hc;simp only[W3] at this ⊢;omega
   ·have:=Zey hf.2 (by omega) (by omega) c hc;simp only[W3] at this ⊢;omega
  ·simp only[QC,Kb,Kk,Kl] at hf;simp only[wst,Kk,Kd] at hc;rcases hc with hc | hc
   ·have:=Zey hf.1.2 (by omega) (by omega) c hc;simp only[W3] at this ⊢;omega
   ·have:=Zey hf.2 (by omega) (by omega) c hc;simp only[W3] at this ⊢;omega
def Xt:List Box→Int
 | []=>0
 | c :: l=>c.W*c.H+Xt l
theorem Ut (a b:List Box):Xt (a++b)=Xt a+Xt b:=by
 induction a with
 | nil=>simp[Xt]
 | cons c l ih=>simp only[KL,Xt,ih];omega
theorem Zdu {ps:List Pane}:∀ {b:BT} {x y w h:Int},Xt (wst b x y w h)+Xt ((plc b x y w h).map Place.Box)=w*h
 | .waste,x,y,w,h=>by simp[wst,plc,Xt]
 | .pane i t,x,y,w,h=>by simp[wst,plc,Xt]
 | .cut d a l r,x,y,w,h=>by
  cases d
  ·have h1:=Zdu (ps:=ps) (b:=l) (x:=x) (y:=y) (w:=w) (h:=a);have h2:=Zdu (ps:=ps) (b:=r) (x:=x) (y:=y+a) (w:=w) (h:=h-a);have h3:w*(h-a)=w*h-w*a:=Int.mul_sub w h a;simp only[wst,plc,Ka,Ki,Ut,KX];omega
  ·have h1:=Zdu (ps:=ps) (b:=l) (x:=x) (y:=y) (w:=a) (h:=h);have h2:=Zdu (ps:=ps) (b:=r) (x:=x+a) (y:=y) (w:=w-a) (h:=h);have h3:(w-a)*h=w*h-a*h:=Int.sub_mul w a h;simp only[wst,plc,Kk,Ut,KX];omega
theorem Zga:∀ (b:BT) (x y w h:Int),(wst b x y w h).length≤b.cnt
 | .waste,x,y,w,h=>by simp[wst,BT.cnt]
 | .pane i t,x,y,w,h=>by simp[wst,BT.cnt]
 | .cut d a l r,x,y,w,h=>by
  cases d
  ·have h1:=Zga l x y w a;have h2:=Zga r x (y+a) w (h-a);simp[wst,BT.cnt];omega
  ·have h1:=Zga l x y a h;have h2:=Zga r (x+a) y (w-a) h;simp[wst,BT.cnt];omega
theorem Zdv {k:ZO} {p:Zl} {b:BT} (hv:VW k) (hf:QC k.Panes b k.W k.H=true):∀ c∈plc b 0 0 k.W k.H,VB c.Box:=by
 intro c hc;obtain⟨h1,h2,h3,h4,_⟩:=hv;have:=V9 hf h1 h3 c hc;simp only[W3] at this;simp only[VB];omega
theorem Zdw {k:ZO} {p:Zl} {b:BT} (hv:VW k) (hf:QC k.Panes b k.W k.H=true):∀ c∈wst b 0 0 k.W k.H,VB c:=by
 intro c hc;obtain⟨h1,h2,h3,h4,_⟩:=hv;have:=Zey hf h1 h3 c hc;simp only[W3] at this;simp only[VB];omega
def ZqG (b m:Box):Box:=⟨m.X-b.X,m.Y-b.Y,m.W,m.H⟩
def ZoB (b f:Box):Option Box:=if Ys f b then some (ZqG b (ZjE f b)) else none
def cutP (q:X6) (b:Box) (label:Int):X6:=⟨label,b.W,b.H,q.Flaws.filterMap (ZoB b)⟩
theorem Ztu {q:X6} {b:Box} {aa:Int} (hq:VPc q) (hb:VB b) (hi:Qt b ⟨0,0,q.W,q.H⟩) (h1:1≤aa) (h2:aa≤9999):VPc (cutP q b aa):=by
 simp only[VB] at hb;refine⟨⟨h1,h2,?_,?_,?_,?_,Lp (Lx _ _) hq.1.2.2.2.2.2.2⟩,?_⟩
 ·show 1≤b.W;omega
 ·show b.W≤200;omega
 ·show 1≤b.H;omega
 ·show b.H≤200;omega
 ·intro f hf;obtain⟨g,hg,ab⟩:=List.mem_filterMap.1 hf;have ad:=hq.2 g hg;unfold ZoB at ab;split at ab
  ·rename_i hm;cases ab;simp only[Zhd,VB,Qt] at ad;simp only[Ys] at hm;simp only[Zhd,VB,Qt,ZqG,ZjE,cutP];omega
  ·cases ab
def Zmc (Xc:Int) (b:Box):Option Box:=if Xc≤b.W∧Xc≤b.H then some b else none
def ZfI (q:X6):Int→List Box→List X6
 | _,[]=>[]
 | n,b :: l=>cutP q b n :: ZfI q (n+1) l
theorem Zfr (q:X6):∀ (n:Int) (a b:List Box),ZfI q n (a++b)=ZfI q n a++ZfI q (n+a.length) b
 | n,[],b=>by simp[ZfI]
 | n,x :: a,b=>by
  simp only[KL,ZfI,Zfr q (n+1) a b,Kg];congr 3
  omega
theorem ZqH (q:X6):∀ (n:Int) (a:List Box),(ZfI q n a).length=a.length
 | n,[]=>rfl
 | n,x :: a=>by simp[ZfI,ZqH q (n+1) a]
theorem cutN_take (q:X6) (n:Int) {l:List Box} {i:Nat} {x:Box} (hx:l[i]?=some x):ZfI q n (l.take (i+1))=ZfI q n (l.take i)++[cutP q x (n+i)]:=by
 obtain⟨h1,h2⟩:=Kc.1 hx;rw[List.take_succ_eq_append_getElem h1,h2,Zfr];simp only[ZfI,KP,LY (Nat.le_of_lt h1)]
def ZjL (k:ZO) (p:Zl) (Xc:Int):List Box:=((Q2 k p).filterMap Zdt).filterMap (Zmc Xc)
theorem keptL_in {k:ZO} {p:Zl} {Xc:Int} (hv:VG k p=true):∀ b∈ZjL k p Xc,VB b∧Qt b ⟨0,0,k.W,k.H⟩:=by
 intro b hb;obtain⟨t,_,_,hw,_,hf,hp⟩:=Zhc hv;unfold ZjL at hb;rw[hp,Zex] at hb;obtain⟨c,hc,aa⟩:=List.mem_filterMap.1 hb;unfold Zmc at aa;split at aa
 ·cases aa;refine⟨Zdw (p:=p) hw hf b hc,?_⟩;obtain⟨h1,h2,h3,h4,_⟩:=hw;have:=Zey hf h1 h3 b hc;simp only[W3] at this;simp only[Qt];omega
 ·cases aa
theorem keptL_len (k:ZO) (p:Zl) (Xc:Int):(ZjL k p Xc).length≤255:=by
 unfold ZjL;refine Lp (Lx _ _) (Lp (Lx _ _) ?_);unfold Q2;split
 ·split
  ·rename_i h;simp only[Kb,Kl] at h;rw[ZcO];exact h.1.2
  ·simp
 ·simp
def remn (q:X6) (k:ZO) (p:Zl) (Xc label:Int):List X6:=
 if (VPc q∧ZqF q k p)∧1≤Xc∧Xc≤200∧1≤label∧label≤9999∧(ZjL k p Xc).length≤10000-label then ZfI q label (ZjL k p Xc) else []
def ZoC (Xc:Int) (b:Box):Option Box:=if b.W<Xc∨b.H<Xc then some b else none
def lostL (k:ZO) (p:Zl) (Xc:Int):List Box:=((Q2 k p).filterMap Zdt).filterMap (ZoC Xc)
theorem ZoD {b:Box} (h:VB b):0≤b.W*b.H∧b.W*b.H≤40000:=by
 simp only[VB] at h;have h1:0≤b.W*b.H:=Int.mul_nonneg (by omega) (by omega);have h2:b.W*b.H≤200*200:=Int.mul_le_mul (by omega) (by omega) (by omega) (by omega);omega
theorem Zmd:∀ {l:List Box},(∀ b∈l,VB b)→0≤Xt l∧Xt l≤40000*l.length
 | [],_=>by simp[Xt]
 | b :: l,h=>by
  have h1:=ZoD (h b (by simp));have h2:=Zmd (l:=l) fun c hc=>h c (by simp[hc]);simp only[Xt,Kg];omega
theorem Zhe (Xc:Int):∀ (l:List Box),Xt (l.filterMap (Zmc Xc))+Xt (l.filterMap (ZoC Xc))=Xt l
 | []=>by simp[Xt]
 | b :: l=>by
  have ih:=Zhe Xc l;by_cases h:Xc≤b.W∧Xc≤b.H
  ·have h' : ¬(b.W<Xc∨b.H<Xc):=by omega
   simp only[L8,Zmc,ZoC,Ko h,Kn h',Xt];omega
  ·have h' : b.W<Xc∨b.H<Xc:=by omega
   simp only[L8,Zmc,ZoC,Kn h,Ko h',Xt];omega
theorem wastes_VB {k:ZO} {p:Zl} (hv:VG k p=true):∀ b∈(Q2 k p).filterMap Zdt,VB b:=by
 obtain⟨t,_,_,hw,_,hf,hp⟩:=Zhc hv;rw[hp,Zex];exact Zdw (p:=p) hw hf
attribute [go_sem] ite_self Bool.false_eq_true
end Go.Abs.L
