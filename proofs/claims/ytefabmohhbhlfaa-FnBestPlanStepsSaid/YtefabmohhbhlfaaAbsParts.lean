/- Own text. -/
import Derived.Test.YtefabmohhbhlfaaAbsLib
set_option linter.unusedVariables false
set_option linter.unusedSimpArgs false
namespace Go.Abs.L
open Go Go.Abs Go.Abs.E
inductive BT where
 | waste
 | pane (i:Int) (t:Bool)
 | cut (d:Bool) (a:Int) (l r:BT)
deriving DecidableEq,Inhabited
def Yx (d:Bool):Int:=if d then 2 else 3
def BT.plan:BT→Zh
 | .waste=>.mk 0 0 0 false []
 | .pane i t=>.mk 1 0 i t []
 | .cut d a l r=>.mk (Yx d) a 0 false [l.plan,r.plan]
def BT.cnt:BT→Nat
 | .waste=>1
 | .pane _ _=>1
 | .cut _ _ l r=>1+l.cnt+r.cnt
theorem BT.cnt_pos (b:BT):1≤b.cnt:=by cases b<;>simp[BT.cnt]<;>omega
def Zh.nodes:Zh→Nat
 | .mk _ _ _ _ ks=>1+nodesL ks
where nodesL:List Zh→Nat
 | []=>0
 | p :: r=>Zh.nodes p+nodesL r
def ZbL (o a p:Int) (t:Bool) (l r:Option BT):Option BT:=match l,r with
 | some x,some y=>if p=0∧t=false then some (.cut (decide (o=2)) a x y) else none
 | _,_=>none
mutual
def Xa:Zh→Option BT
 | .mk o a p t ks=>if o=2∨o=3 then Zn0 o a p t ks else
   if ks.length=0∧a=0∧o=1 then some (.pane p t) else
   if ks.length=0∧a=0∧o=0∧p=0∧t=false then some .waste else none
def Zn0 (o a p:Int) (t:Bool):List Zh→Option BT
 | []=>none
 | x :: r=>Zql o a p t (Xa x) r
def Zql (o a p:Int) (t:Bool) (l:Option BT):List Zh→Option BT
 | []=>none
 | y :: r=>match r with
  | []=>ZbL o a p t l (Xa y)
  | _=>none
end
theorem Zjv (o a p:Int) (t:Bool) (x y:Zh) (ho:o=2∨o=3):Xa (.mk o a p t [x,y])=ZbL o a p t (Xa x) (Xa y):=by
 simp[Xa,Zn0,Zql,ho]
theorem Zgc (o a p:Int) (t:Bool) (ks:List Zh) (ho:o=2∨o=3) (hk:ks.length≠2):Xa (.mk o a p t ks)=none:=by
 match ks,hk with
 | [],_=>simp[Xa,Zn0,ho]
 | [x],_=>simp[Xa,Zn0,Zql,ho]
 | [x,y],h=>simp at h
 | x :: y :: z :: r,_=>simp[Xa,Zn0,Zql,ho]
theorem QN:∀ b:BT,Xa b.plan=some b
 | .waste=>by simp[BT.plan,Xa]
 | .pane i t=>by simp[BT.plan,Xa]
 | .cut d a l r=>by
  rw[BT.plan,Zjv _ _ _ _ _ _ (by cases d<;>simp[Yx]),QN l,QN r];cases d<;>simp[ZbL,Yx]
theorem ZbM:∀ (n:Nat) (p:Zh) (b:BT),p.nodes≤n→Xa p=some b→p=b.plan
 | 0,.mk o a p t ks,b,hn,_=>by simp[Zh.nodes] at hn
 | n+1,.mk o a p t ks,b,hn,h=>by
  by_cases ho:o=2∨o=3
  ·by_cases hk:ks.length=2
   ·match ks,hk with
    | [x,y],_=>
     rw[Zjv _ _ _ _ _ _ ho] at h;simp only[Zh.nodes,Zh.nodes.nodesL] at hn;cases hx:Xa x with
     | none=>simp[hx,ZbL] at h
     | some bx=>
      cases hy:Xa y with
      | none=>simp[hx,hy,ZbL] at h
      | some bY=>
       have e1:=ZbM n x bx (by omega) hx;have e2:=ZbM n y bY (by omega) hy;simp only[hx,hy,ZbL] at h;split at h
       ·rename_i hc;cases h;obtain⟨rfl,rfl⟩:=hc;rw[BT.plan,← e1,← e2];rcases ho with rfl | rfl<;>rfl
       ·cases h
   ·rw[Zgc _ _ _ _ _ ho hk] at h;cases h
  ·simp only[Xa,ho,Kf] at h;split at h
   ·rename_i hc;cases h;obtain⟨h1,rfl,rfl⟩:=hc;cases ks with
    | nil=>rfl
    | cons x r=>simp at h1
   ·split at h
    ·rename_i hc;cases h;obtain⟨h1,rfl,rfl,rfl,rfl⟩:=hc;cases ks with
     | nil=>rfl
     | cons x r=>simp at h1
    ·cases h
theorem Za8 {p:Zh} {b:BT} (h:Xa p=some b):p=b.plan:=ZbM _ p b (Kh _) h
theorem Zlq {o a p:Int} {t:Bool} {ks:List Zh} {x y:Zh} (ho:o=2∨o=3) (hk:ks.length=2) (h0:ks[0]?=some x) (h1:ks[1]?=some y):Xa (.mk o a p t ks)=ZbL o a p t (Xa x) (Xa y):=by
 match ks,hk with
 | [x',y'],_=>
  simp at h0 h1;subst h0;subst h1;exact Zjv _ _ _ _ _ _ ho
theorem Zjw:∀ {ks:List Zh} {i:Nat} {x:Zh},ks[i]?=some x→x.nodes≤Zh.nodes.nodesL ks
 | [],i,x,h=>by simp at h
 | y :: ks,0,x,h=>by simp at h;subst h;simp[Zh.nodes.nodesL]
 | y :: ks,i+1,x,h=>by
  have:=Zjw (ks:=ks) (i:=i) (x:=x) (by simpa using h);simp only[Zh.nodes.nodesL];omega
theorem Zdl {o a p:Int} {t:Bool} {ks:List Zh} {i:Nat} {x:Zh} {n:Nat} (hn:(Zh.mk o a p t ks).nodes≤n+1) (h:ks[i]?=some x):x.nodes≤n:=by
 have:=Zjw h;simp only[Zh.nodes] at hn;omega
theorem Zh.enc_len (x:Zh):(Zh.enc x).cells.length=5:=by
 obtain⟨o,a,p,t,k⟩:=x;rw[Zh.enc_mk];rfl
theorem Zh.enc_agg (x:Zh):D.agg (Zh.enc x).cells=Zh.enc x:=by
 obtain⟨o,a,p,t,k⟩:=x;rw[Zh.enc_mk];rfl
theorem Zh.take_enc (x:Zh):(Zh.enc x).cells.take 5=(Zh.enc x).cells:=KT (by rw[Zh.enc_len x];omega)
attribute [go_sem] Zh.enc_len Zh.enc_agg Zh.take_enc
theorem Zjx {o a p:Int} {t:Bool} {ks:List Zh} (ho:¬(o=2∨o=3)):Xa (.mk o a p t ks)=if ks.length=0∧a=0∧o=1 then some (.pane p t) else
   if ks.length=0∧a=0∧o=0∧p=0∧t=false then some .waste else none:=by
 simp only[Xa,ho,Kf]
def Zl (m:Int):Option BT→Int
 | some b=>if (b.cnt:Int)≤m then (b.cnt:Int) else -1
 | none=>-1
theorem Jk (m:Int) (h0:0≤m) (b:Option BT) : -1≤Zl m b∧Zl m b≤m∧Zl m b≠0:=by
 cases b with
 | none=>simp[Zl];omega
 | some b=>
  have:=b.cnt_pos;simp only[Zl];split<;>omega
theorem Z1 (m:Int) (b:BT):((b.cnt:Int)≤m∧Zl m (some b)=b.cnt)∨(m<(b.cnt:Int)∧Zl m (some b)=-1):=by
 unfold Zl;by_cases h:(b.cnt:Int)≤m
 ·left;exact⟨h,Km h⟩
 ·right;exact⟨by omega,Kl h⟩
theorem ZbN (m o a p:Int) (t:Bool) (l r:Option BT) (h:¬(p=0∧t=false)):Zl m (ZbL o a p t l r)=-1:=by
 cases l with
 | none=>rfl
 | some x=>cases r with
  | none=>rfl
  | some y=>simp only[ZbL,Kl h,Zl]
theorem Zpa (m o a:Int) (l r:Option BT):Zl m (ZbL o a 0 false l r)=if Zl m l<0∨Zl m r<0∨m<1+Zl m l+Zl m r then -1 else 1+Zl m l+Zl m r:=by
 cases l with
 | none=>simp[ZbL,Zl]
 | some x=>cases r with
  | none=>simp[ZbL,Zl]
  | some y=>
   have h1:=x.cnt_pos;have h2:=y.cnt_pos;have e:(BT.cut (decide (o=2)) a x y).cnt=1+x.cnt+y.cnt:=rfl;have e0:ZbL o a 0 false (some x) (some y)=some (BT.cut (decide (o=2)) a x y):=by simp[ZbL]
   rw[e0];have hx:=Z1 m x;have hy:=Z1 m y;have hc:=Z1 m (BT.cut (decide (o=2)) a x y);rw[e] at hc;generalize Zl m (some x)=sx at *;generalize Zl m (some y)=sy at *;generalize Zl m (some (BT.cut (decide (o=2)) a x y))=sc at *;split<;>omega
theorem Zn1 (m o a:Int) (l r:Option BT):Zl m (ZbL o a 0 false l r)=if Zl (m-1) l<0∨Zl (m-1-Zl (m-1) l) r<0 then -1 else 1+Zl (m-1) l+Zl (m-1-Zl (m-1) l) r:=by
 cases l with
 | none=>simp[ZbL,Zl]
 | some x=>cases r with
  | none=>simp[ZbL,Zl]
  | some y=>
   have h1:=x.cnt_pos;have h2:=y.cnt_pos;have e:(BT.cut (decide (o=2)) a x y).cnt=1+x.cnt+y.cnt:=rfl;have e0:ZbL o a 0 false (some x) (some y)=some (BT.cut (decide (o=2)) a x y):=by simp[ZbL]
   rw[e0];have hx:=Z1 (m-1) x;have hy:=Z1 (m-1-Zl (m-1) (some x)) y;have hc:=Z1 m (BT.cut (decide (o=2)) a x y);rw[e] at hc;generalize Zl (m-1-Zl (m-1) (some x)) (some y)=sy at *;generalize Zl (m-1) (some x)=sx at *;generalize Zl m (some (BT.cut (decide (o=2)) a x y))=sc at *;split<;>omega
theorem Zpb {m:Int} (h:m<1) (b:Option BT):Zl m b=-1:=by
 cases b with
 | none=>rfl
 | some b=>
  have:=b.cnt_pos;have:=Z1 m b;omega
def Qq (ps:List Pane) (i:Int) (t:Bool) (w h:Int):Bool:=decide (0≤i)&&(match ps[i.toNat]? with
 | some q=>if t then q.Turns&&decide (¬q.W=q.H)&&decide (q.H=w)&&decide (q.W=h) else decide (q.W=w∧q.H=h)
 | none=>false)
def Qd (ps:List Pane):BT→Int→Int→Bool
 | .waste,_,_=>true
 | .pane i t,w,h=>Qq ps i t w h
 | .cut d a l r,w,h=>if d then decide (1≤a∧a≤w-1)&&Qd ps l a h&&Qd ps r (w-a) h
   else decide (1≤a∧a≤h-1)&&Qd ps l w a&&Qd ps r w (h-a)
def VPs (ps:List Pane):Prop:=∀ q∈ps,VP q
instance (ps:List Pane):Decidable (VPs ps):=by unfold VPs;infer_instance
def VW (k:ZN):Prop:=1≤k.W∧k.W≤200∧1≤k.H∧k.H≤200∧k.Panes.length≤24∧VPs k.Panes
instance (k:ZN):Decidable (VW k):=by unfold VW;infer_instance
theorem Zn2 {ps:List Pane} {k:Nat} {x:Pane} (hx:ps[k]?=some x):VPs (ps.drop k)↔VP x∧VPs (ps.drop (k+1)):=by
 obtain⟨h1,h2⟩:=Kd.1 hx;rw[Lm h1,h2];simp[VPs]
end Go.Abs.L
set_option linter.unusedVariables false
set_option linter.unusedSimpArgs false
namespace Go.Abs.L
open Go Go.Abs Go.Abs.E
structure Part where
 plan:Zh
 box:Box
def Part.enc (p:Part):D:=.agg (p.plan.enc.cells++[.int .i64 p.box.X,.int .i64 p.box.Y,.int .i64 p.box.W,.int .i64 p.box.H])
@[go_sem] theorem Part.enc_mk (o a p:Int) (t:Bool) (ks:List Zh) (x y w h:Int):Part.enc ⟨.mk o a p t ks,⟨x,y,w,h⟩⟩ =
  .agg [.int .i64 o,.int .i64 a,.int .i64 p,.bool t,.sl (ks.map Zh.enc),.int .i64 x,.int .i64 y,.int .i64 w,.int .i64 h]:=by
 simp only[Part.enc,Zh.enc_mk];rfl
theorem Part.enc_len (p:Part):(Part.enc p).cells.length=9:=by
 show (p.plan.enc.cells++_).length=9;rw[Kk,Zh.enc_len];rfl
@[go_sem] theorem uni_Part (l:List Part):uni 9 (l.map Part.enc)=True:=eq_true (UE l Part.enc_len)
def pt:BT→Int→Int→Int→Int→List Part
 | .waste,x,y,w,h=>[⟨BT.waste.plan,⟨x,y,w,h⟩⟩]
 | .pane i t,x,y,w,h=>[⟨(BT.pane i t).plan,⟨x,y,w,h⟩⟩]
 | .cut d a l r,x,y,w,h=>⟨(BT.cut d a l r).plan,⟨x,y,w,h⟩⟩ :: if d then pt l x y a h++pt r (x+a) y (w-a) h else pt l x y w a++pt r x (y+a) w (h-a)
def sp:BT→Int→Int→Int→Int→List Place
 | .waste,x,y,w,h=>[⟨-1,false,⟨x,y,w,h⟩⟩]
 | .pane i t,x,y,w,h=>[⟨i,t,⟨x,y,w,h⟩⟩]
 | .cut d a l r,x,y,w,h=>if d then sp l x y a h++sp r (x+a) y (w-a) h else sp l x y w a++sp r x (y+a) w (h-a)
def plc:BT→Int→Int→Int→Int→List Place
 | .waste,x,y,w,h=>[]
 | .pane i t,x,y,w,h=>[⟨i,t,⟨x,y,w,h⟩⟩]
 | .cut d a l r,x,y,w,h=>if d then plc l x y a h++plc r (x+a) y (w-a) h else plc l x y w a++plc r x (y+a) w (h-a)
def wst:BT→Int→Int→Int→Int→List Box
 | .waste,x,y,w,h=>[⟨x,y,w,h⟩]
 | .pane i t,x,y,w,h=>[]
 | .cut d a l r,x,y,w,h=>if d then wst l x y a h++wst r (x+a) y (w-a) h else wst l x y w a++wst r x (y+a) w (h-a)
def PN:BT→Prop
 | .waste=>True
 | .pane i _=>0≤i
 | .cut _ _ l r=>PN l∧PN r
def opP:Zh→Int
 | .mk o _ _ _ _=>o
def X2 (q:Part):Option Place:=match q.plan with
 | .mk o _ p t _=>if o=1 then some ⟨p,t,q.box⟩ else none
def Zfi (q:Part):Option Box:=match q.plan with
 | .mk o _ _ _ _=>if o=0 then some q.box else none
theorem Jo:∀ (b:BT) (x y w h:Int),(pt b x y w h).filterMap X2=plc b x y w h
 | .waste,x,y,w,h=>rfl
 | .pane i t,x,y,w,h=>rfl
 | .cut d a l r,x,y,w,h=>by
  have e:X2 ⟨(BT.cut d a l r).plan,⟨x,y,w,h⟩⟩=none:=by cases d<;>rfl
  cases d<;>simp[pt,plc,LL,Kaf,e,Jo]
theorem Zgd:∀ (b:BT) (x y w h:Int),(pt b x y w h).filterMap Zfi=wst b x y w h
 | .waste,x,y,w,h=>rfl
 | .pane i t,x,y,w,h=>rfl
 | .cut d a l r,x,y,w,h=>by
  have e:Zfi ⟨(BT.cut d a l r).plan,⟨x,y,w,h⟩⟩=none:=by cases d<;>rfl
  cases d<;>simp[pt,wst,LL,Kaf,e,Zgd]
def Zqm (q:Place):Option Place:=if 0≤q.Pane then some q else none
def Zqn (q:Place):Option Box:=if q.Pane<0 then some q.Box else none
theorem Zlr:∀ (b:BT) (x y w h:Int),PN b→(sp b x y w h).filterMap Zqm=plc b x y w h
 | .waste,x,y,w,h,_=>rfl
 | .pane i t,x,y,w,h,hp=>by
  have hp:0≤i:=hp;simp[sp,plc,Zqm,hp]
 | .cut d a l r,x,y,w,h,hp=>by
  cases d<;>simp[sp,plc,LL,Zlr l _ _ _ _ hp.1,Zlr r _ _ _ _ hp.2]
theorem Zls:∀ (b:BT) (x y w h:Int),PN b→(sp b x y w h).filterMap Zqn=wst b x y w h
 | .waste,x,y,w,h,_=>rfl
 | .pane i t,x,y,w,h,hp=>by
  have hp:¬i<0:=by have:0≤i:=hp;omega
  simp[sp,wst,Zqn,hp]
 | .cut d a l r,x,y,w,h,hp=>by
  cases d<;>simp[sp,wst,LL,Zls l _ _ _ _ hp.1,Zls r _ _ _ _ hp.2]
theorem JW:∀ (b:BT) (x y w h:Int),(pt b x y w h).length=b.cnt
 | .waste,x,y,w,h=>rfl
 | .pane i t,x,y,w,h=>rfl
 | .cut d a l r,x,y,w,h=>by
  cases d<;>simp[pt,BT.cnt,JW]<;>omega
theorem ZmA:∀ (b:BT) (x y w h:Int),(sp b x y w h).length≤b.cnt
 | .waste,x,y,w,h=>by simp[sp,BT.cnt]
 | .pane i t,x,y,w,h=>by simp[sp,BT.cnt]
 | .cut d a l r,x,y,w,h=>by
  cases d
  ·have h1:=ZmA l x y w a;have h2:=ZmA r x (y+a) w (h-a);simp[sp,BT.cnt];omega
  ·have h1:=ZmA l x y a h;have h2:=ZmA r (x+a) y (w-a) h;simp[sp,BT.cnt];omega
theorem Zup {α β:Type} {l:List α} {f:α→Option β} {k:Nat} {x:α} (hx:l[k]?=some x):(l.take (k+1)).filterMap f=(l.take k).filterMap f++(f x).toList:=by
 obtain⟨h1,h2⟩:=Kd.1 hx;rw[List.take_succ_eq_append_getElem h1,h2,LL];cases hf:f x<;>simp[hf]
theorem ZhI {ps:List Pane}:∀ {b:BT} {w h:Int},Qd ps b w h=true→PN b
 | .waste,_,_,_=>trivial
 | .pane i t,w,h,hf=>by
  simp only[Qd,Qq,Kb,Kj] at hf;exact hf.1
 | .cut d a l r,w,h,hf=>by
  cases d
  ·simp only[Qd,Kb,Ka,Kf] at hf;exact⟨ZhI hf.1.2,ZhI hf.2⟩
  ·simp only[Qd,Kb,Kg] at hf;exact⟨ZhI hf.1.2,ZhI hf.2⟩
def Xb (k:ZN) (p:Zh):List Part:=match Xa p with
 | some b=>if decide (VW k)&&decide (b.cnt≤255)&&Qd k.Panes b k.W k.H then pt b 0 0 k.W k.H else []
 | none=>[]
def Yy (k:ZN) (p:Zh):Bool:=match Xa p with
 | some b=>decide (VW k)&&decide (b.cnt≤255)&&Qd k.Panes b k.W k.H
 | none=>false
theorem Zek {k:ZN} {p:Zh} (h:Yy k p=true):∃ b,Xa p=some b∧p=b.plan∧VW k∧b.cnt≤255∧Qd k.Panes b k.W k.H=true∧Xb k p=pt b 0 0 k.W k.H:=by
 have h':=h;unfold Yy at h;split at h
 ·rename_i b hb;refine⟨b,hb,Za8 hb,?_⟩;unfold Xb;rw[hb];dsimp only;rw[Km h];simp only[Kb,Kj] at h;exact⟨h.1.1,h.1.2,h.2,rfl⟩
 ·cases h
theorem all_drop {α:Type} {l:List α} {k:Nat} {x:α} (hx:l[k]?=some x) (P:α→Prop):(∀ y∈l.drop k,P y)↔P x∧∀ y∈l.drop (k+1),P y:=by
 obtain⟨h1,h2⟩:=Kd.1 hx;rw[Lm h1,h2];simp
def Zjy (w h:Int) (f:Box):Prop:=VB f∧ZQ f ⟨0,0,w,h⟩
instance (w h:Int) (f:Box):Decidable (Zjy w h f):=by unfold Zjy;infer_instance
def VPc (q:Yw):Prop:=(1≤q.Label∧q.Label≤9999∧1≤q.W∧q.W≤200∧1≤q.H∧q.H≤200∧q.Flaws.length≤6)∧∀ f∈q.Flaws,Zjy q.W q.H f
instance (q:Yw):Decidable (VPc q):=by unfold VPc;infer_instance
def ZmB (fs:List Box) (b:Box):Prop:=∀ f∈fs,¬XP f b
instance (fs:List Box) (b:Box):Decidable (ZmB fs b):=by unfold ZmB;infer_instance
def ZsP (q:Yw) (k:ZN) (p:Zh):Prop:=Yy k p=true∧k.W=q.W∧k.H=q.H∧∀ c∈(Xb k p).filterMap X2,ZmB q.Flaws c.Box
instance (q:Yw) (k:ZN) (p:Zh):Decidable (ZsP q k p):=by unfold ZsP;infer_instance
def UU (x y w h:Int) (c:Box):Prop:=1≤c.W∧1≤c.H∧x≤c.X∧y≤c.Y∧c.X+c.W≤x+w∧c.Y+c.H≤y+h
theorem W1 {ps:List Pane}:∀ {b:BT} {x y w h:Int},Qd ps b w h=true→1≤w→1≤h→∀ c∈plc b x y w h,UU x y w h c.Box
 | .waste,x,y,w,h,hf,h1,h2,c,hc=>by simp[plc] at hc
 | .pane i t,x,y,w,h,hf,h1,h2,c,hc=>by
  simp only[plc,KA] at hc;subst hc;simp only[UU];omega
 | .cut d a l r,x,y,w,h,hf,h1,h2,c,hc=>by
  cases d
  ·simp only[Qd,Kb,Ka,Kf,Kj] at hf;simp only[plc,Ka,Kf,Kc] at hc;rcases hc with hc | hc
   ·have:=W1 hf.1.2 (by omega) (by omega) c hc;simp only[UU] at this ⊢;omega
   ·have:=W1 hf.2 (by omega) (by omega) c hc;simp only[UU] at this ⊢;omega
  ·simp only[Qd,Kb,Kg,Kj] at hf;simp only[plc,Kg,Kc] at hc;rcases hc with hc | hc
   ·have:=W1 hf.1.2 (by omega) (by omega) c hc;simp only[UU] at this ⊢;omega
   ·have:=W1 hf.2 (by omega) (by omega) c hc;simp only[UU] at this ⊢;omega
theorem Zge {ps:List Pane}:∀ {b:BT} {x y w h:Int},Qd ps b w h=true→1≤w→1≤h→∀ c∈wst b x y w h,UU x y w h c
 | .waste,x,y,w,h,hf,h1,h2,c,hc=>by
  simp only[wst,KA] at hc;subst hc;simp only[UU];omega
 | .pane i t,x,y,w,h,hf,h1,h2,c,hc=>by simp[wst] at hc
 | .cut d a l r,x,y,w,h,hf,h1,h2,c,hc=>by
  cases d
  ·simp only[Qd,Kb,Ka,Kf,Kj] at hf;simp only[wst,Ka,Kf,Kc] at hc;rcases hc with hc | hc
   ·have:=Zge hf.1.2 (by omega) (by omega) c hc;simp only[UU] at this ⊢;omega
   ·have:=Zge hf.2 (by omega) (by omega) c hc;simp only[UU] at this ⊢;omega
  ·simp only[Qd,Kb,Kg,Kj] at hf;simp only[wst,Kg,Kc] at hc;rcases hc with hc | hc
   ·have:=Zge hf.1.2 (by omega) (by omega) c hc;simp only[UU] at this ⊢;omega
   ·have:=Zge hf.2 (by omega) (by omega) c hc;simp only[UU] at this ⊢;omega
def Wq:List Box→Int
 | []=>0
 | c :: l=>c.W*c.H+Wq l
theorem Zfj (a b:List Box):Wq (a++b)=Wq a+Wq b:=by
 induction a with
 | nil=>simp[Wq]
 | cons c l ih=>simp only[KN,Wq,ih];omega
theorem Zfk {ps:List Pane}:∀ {b:BT} {x y w h:Int},Wq (wst b x y w h)+Wq ((plc b x y w h).map Place.Box)=w*h
 | .waste,x,y,w,h=>by simp[wst,plc,Wq]
 | .pane i t,x,y,w,h=>by simp[wst,plc,Wq]
 | .cut d a l r,x,y,w,h=>by
  cases d
  ·have h1:=Zfk (ps:=ps) (b:=l) (x:=x) (y:=y) (w:=w) (h:=a);have h2:=Zfk (ps:=ps) (b:=r) (x:=x) (y:=y+a) (w:=w) (h:=h-a);have h3:w*(h-a)=w*h-w*a:=Int.mul_sub w h a;simp only[wst,plc,Ka,Kf,Zfj,KM];omega
  ·have h1:=Zfk (ps:=ps) (b:=l) (x:=x) (y:=y) (w:=a) (h:=h);have h2:=Zfk (ps:=ps) (b:=r) (x:=x+a) (y:=y) (w:=w-a) (h:=h);have h3:(w-a)*h=w*h-a*h:=Int.sub_mul w a h;simp only[wst,plc,Kg,Zfj,KM];omega
theorem ZhJ:∀ (b:BT) (x y w h:Int),(wst b x y w h).length≤b.cnt
 | .waste,x,y,w,h=>by simp[wst,BT.cnt]
 | .pane i t,x,y,w,h=>by simp[wst,BT.cnt]
 | .cut d a l r,x,y,w,h=>by
  cases d
  ·have h1:=ZhJ l x y w a;have h2:=ZhJ r x (y+a) w (h-a);simp[wst,BT.cnt];omega
  ·have h1:=ZhJ l x y a h;have h2:=ZhJ r (x+a) y (w-a) h;simp[wst,BT.cnt];omega
theorem ZmC {k:ZN} {p:Zh} {b:BT} (hv:VW k) (hf:Qd k.Panes b k.W k.H=true):∀ c∈plc b 0 0 k.W k.H,VB c.Box:=by
 intro c hc;obtain⟨h1,h2,h3,h4,_⟩:=hv;have:=W1 hf h1 h3 c hc;simp only[UU] at this;simp only[VB];omega
theorem Zfl {k:ZN} {p:Zh} {b:BT} (hv:VW k) (hf:Qd k.Panes b k.W k.H=true):∀ c∈wst b 0 0 k.W k.H,VB c:=by
 intro c hc;obtain⟨h1,h2,h3,h4,_⟩:=hv;have:=Zge hf h1 h3 c hc;simp only[UU] at this;simp only[VB];omega
def ZsQ (b m:Box):Box:=⟨m.X-b.X,m.Y-b.Y,m.W,m.H⟩
def Zqo (b f:Box):Option Box:=if XP f b then some (ZsQ b (Zln f b)) else none
def cutP (q:Yw) (b:Box) (label:Int):Yw:=⟨label,b.W,b.H,q.Flaws.filterMap (Zqo b)⟩
theorem ZvL {q:Yw} {b:Box} {aa:Int} (hq:VPc q) (hb:VB b) (hi:ZQ b ⟨0,0,q.W,q.H⟩) (h1:1≤aa) (h2:aa≤9999):VPc (cutP q b aa):=by
 simp only[VB] at hb;refine⟨⟨h1,h2,?_,?_,?_,?_,Le (LF _ _) hq.1.2.2.2.2.2.2⟩,?_⟩
 ·show 1≤b.W;omega
 ·show b.W≤200;omega
 ·show 1≤b.H;omega
 ·show b.H≤200;omega
 ·intro f hf;obtain⟨g,hg,ab⟩:=List.mem_filterMap.1 hf;have ad:=hq.2 g hg;unfold Zqo at ab;split at ab
  ·rename_i hm;cases ab;simp only[Zjy,VB,ZQ] at ad;simp only[XP] at hm;simp only[Zjy,VB,ZQ,ZsQ,Zln,cutP];omega
  ·cases ab
def Zn3 (XA:Int) (b:Box):Option Box:=if XA≤b.W∧XA≤b.H then some b else none
def Zhz (q:Yw):Int→List Box→List Yw
 | _,[]=>[]
 | n,b :: l=>cutP q b n :: Zhz q (n+1) l
theorem Zg4 (q:Yw):∀ (n:Int) (a b:List Box),Zhz q n (a++b)=Zhz q n a++Zhz q (n+a.length) b
 | n,[],b=>by simp[Zhz]
 | n,x :: a,b=>by
  simp only[KN,Zhz,Zg4 q (n+1) a b,Ki];congr 3
  omega
theorem ZsR (q:Yw):∀ (n:Int) (a:List Box),(Zhz q n a).length=a.length
 | n,[]=>rfl
 | n,x :: a=>by simp[Zhz,ZsR q (n+1) a]
theorem cutN_take (q:Yw) (n:Int) {l:List Box} {i:Nat} {x:Box} (hx:l[i]?=some x):Zhz q n (l.take (i+1))=Zhz q n (l.take i)++[cutP q x (n+i)]:=by
 obtain⟨h1,h2⟩:=Kd.1 hx;rw[List.take_succ_eq_append_getElem h1,h2,Zg4];simp only[Zhz,Lu,Nat.min_eq_left (Nat.le_of_lt h1)]
def Zlt (k:ZN) (p:Zh) (XA:Int):List Box:=((Xb k p).filterMap Zfi).filterMap (Zn3 XA)
theorem keptL_in {k:ZN} {p:Zh} {XA:Int} (hv:Yy k p=true):∀ b∈Zlt k p XA,VB b∧ZQ b ⟨0,0,k.W,k.H⟩:=by
 intro b hb;obtain⟨t,_,_,hw,_,hf,hp⟩:=Zek hv;unfold Zlt at hb;rw[hp,Zgd] at hb;obtain⟨c,hc,aa⟩:=List.mem_filterMap.1 hb;unfold Zn3 at aa;split at aa
 ·cases aa;refine⟨Zfl (p:=p) hw hf b hc,?_⟩;obtain⟨h1,h2,h3,h4,_⟩:=hw;have:=Zge hf h1 h3 b hc;simp only[UU] at this;simp only[ZQ];omega
 ·cases aa
theorem keptL_len (k:ZN) (p:Zh) (XA:Int):(Zlt k p XA).length≤255:=by
 unfold Zlt;refine Le (LF _ _) (Le (LF _ _) ?_);unfold Xb;split
 ·split
  ·rename_i h;simp only[Kb,Kj] at h;rw[JW];exact h.1.2
  ·simp
 ·simp
def remn (q:Yw) (k:ZN) (p:Zh) (XA label:Int):List Yw:=
 if (VPc q∧ZsP q k p)∧1≤XA∧XA≤200∧1≤label∧label≤9999∧(Zlt k p XA).length≤10000-label then Zhz q label (Zlt k p XA) else []
def Zqp (XA:Int) (b:Box):Option Box:=if b.W<XA∨b.H<XA then some b else none
def lostL (k:ZN) (p:Zh) (XA:Int):List Box:=((Xb k p).filterMap Zfi).filterMap (Zqp XA)
theorem Zuq {b:Box} (h:VB b):0≤b.W*b.H∧b.W*b.H≤40000:=by
 simp only[VB] at h;have h1:0≤b.W*b.H:=Int.mul_nonneg (by omega) (by omega);have h2:b.W*b.H≤200*200:=Int.mul_le_mul (by omega) (by omega) (by omega) (by omega);omega
theorem ZsS:∀ {l:List Box},(∀ b∈l,VB b)→0≤Wq l∧Wq l≤40000*l.length
 | [],_=>by simp[Wq]
 | b :: l,h=>by
  have h1:=Zuq (h b (by simp));have h2:=ZsS (l:=l) fun c hc=>h c (by simp[hc]);simp only[Wq,Ki];omega
theorem Zjz (XA:Int):∀ (l:List Box),Wq (l.filterMap (Zn3 XA))+Wq (l.filterMap (Zqp XA))=Wq l
 | []=>by simp[Wq]
 | b :: l=>by
  have ih:=Zjz XA l;by_cases h:XA≤b.W∧XA≤b.H
  ·have h' : ¬(b.W<XA∨b.H<XA):=by omega
   simp only[Kaf,Zn3,Zqp,Km h,Kl h',Wq];omega
  ·have h' : b.W<XA∨b.H<XA:=by omega
   simp only[Kaf,Zn3,Zqp,Kl h,Km h',Wq];omega
theorem wastes_VB {k:ZN} {p:Zh} (hv:Yy k p=true):∀ b∈(Xb k p).filterMap Zfi,VB b:=by
 obtain⟨t,_,_,hw,_,hf,hp⟩:=Zek hv;rw[hp,Zgd];exact Zfl (p:=p) hw hf
attribute [go_sem] ite_self Bool.false_eq_true
end Go.Abs.L
