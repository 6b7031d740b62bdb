/- Own text. -/
import Derived.Test.YtdhgppkldoopaaaGreatAbsLib
set_option linter.unusedVariables false
set_option linter.unusedSimpArgs false
namespace Go.Abs.L
open Go Go.Abs Go.Abs.E
inductive BT where
 | waste
 | pane (i:Int) (t:Bool)
 | cut (d:Bool) (a:Int) (l r:BT)
deriving DecidableEq,Inhabited
def Za4 (d:Bool):Int:=if d then 2 else 3
def BT.plan:BT→Zd
 | .waste=>.mk 0 0 0 false []
 | .pane i t=>.mk 1 0 i t []
 | .cut d a l r=>.mk (Za4 d) a 0 false [l.plan,r.plan]
def BT.cnt:BT→Nat
 | .waste=>1
 | .pane _ _=>1
 | .cut _ _ l r=>1+l.cnt+r.cnt
theorem BT.cnt_pos (b:BT):1≤b.cnt:=by cases b<;>simp[BT.cnt]<;>omega
def Zd.nodes:Zd→Nat
 | .mk _ _ _ _ ks=>1+nodesL ks
where nodesL:List Zd→Nat
 | []=>0
 | p :: r=>Zd.nodes p+nodesL r
def ZeO (o a p:Int) (t:Bool) (l r:Option BT):Option BT:=match l,r with
 | some x,some y=>if p=0∧t=false then some (.cut (decide (o=2)) a x y) else none
 | _,_=>none
mutual
def X2:Zd→Option BT
 | .mk o a p t ks=>if o=2∨o=3 then Zus o a p t ks else
   if ks.length=0∧a=0∧o=1 then some (.pane p t) else
   if ks.length=0∧a=0∧o=0∧p=0∧t=false then some .waste else none
def Zus (o a p:Int) (t:Bool):List Zd→Option BT
 | []=>none
 | x :: r=>Zww o a p t (X2 x) r
def Zww (o a p:Int) (t:Bool) (l:Option BT):List Zd→Option BT
 | []=>none
 | y :: r=>match r with
  | []=>ZeO o a p t l (X2 y)
  | _=>none
end
theorem ZpB (o a p:Int) (t:Bool) (x y:Zd) (ho:o=2∨o=3):X2 (.mk o a p t [x,y])=ZeO o a p t (X2 x) (X2 y):=by
 simp[X2,Zus,Zww,ho]
theorem ZlU (o a p:Int) (t:Bool) (ks:List Zd) (ho:o=2∨o=3) (hk:ks.length≠2):X2 (.mk o a p t ks)=none:=by
 match ks,hk with
 | [],_=>simp[X2,Zus,ho]
 | [x],_=>simp[X2,Zus,Zww,ho]
 | [x,y],h=>simp at h
 | x :: y :: z :: r,_=>simp[X2,Zus,Zww,ho]
theorem ZrA:∀ b:BT,X2 b.plan=some b
 | .waste=>by simp[BT.plan,X2]
 | .pane i t=>by simp[BT.plan,X2]
 | .cut d a l r=>by
  rw[BT.plan,ZpB _ _ _ _ _ _ (by cases d<;>simp[Za4]),ZrA l,ZrA r];cases d<;>simp[ZeO,Za4]
theorem ZeP:∀ (n:Nat) (p:Zd) (b:BT),p.nodes≤n→X2 p=some b→p=b.plan
 | 0,.mk o a p t ks,b,hn,_=>by simp[Zd.nodes] at hn
 | n+1,.mk o a p t ks,b,hn,h=>by
  by_cases ho:o=2∨o=3
  ·by_cases hk:ks.length=2
   ·match ks,hk with
    | [x,y],_=>
     rw[ZpB _ _ _ _ _ _ ho] at h;simp only[Zd.nodes,Zd.nodes.nodesL] at hn;cases hx:X2 x with
     | none=>simp[hx,ZeO] at h
     | some bx=>
      cases hy:X2 y with
      | none=>simp[hx,hy,ZeO] at h
      | some bY=>
       have e1:=ZeP n x bx (by omega) hx;have e2:=ZeP n y bY (by omega) hy;simp only[hx,hy,ZeO] at h;split at h
       ·rename_i hc;cases h;obtain⟨rfl,rfl⟩:=hc;rw[BT.plan,← e1,← e2];rcases ho with rfl | rfl<;>rfl
       ·cases h
   ·rw[ZlU _ _ _ _ _ ho hk] at h;cases h
  ·simp only[X2,ho,Ko] at h;split at h
   ·rename_i hc;cases h;obtain⟨h1,rfl,rfl⟩:=hc;cases ks with
    | nil=>rfl
    | cons x r=>simp at h1
   ·split at h
    ·rename_i hc;cases h;obtain⟨h1,rfl,rfl,rfl,rfl⟩:=hc;cases ks with
     | nil=>rfl
     | cons x r=>simp at h1
    ·cases h
theorem Zhu {p:Zd} {b:BT} (h:X2 p=some b):p=b.plan:=ZeP _ p b (Kk _) h
theorem ZrB {o a p:Int} {t:Bool} {ks:List Zd} {x y:Zd} (ho:o=2∨o=3) (hk:ks.length=2) (h0:ks[0]?=some x) (h1:ks[1]?=some y):X2 (.mk o a p t ks)=ZeO o a p t (X2 x) (X2 y):=by
 match ks,hk with
 | [x',y'],_=>
  simp at h0 h1;subst h0;subst h1;exact ZpB _ _ _ _ _ _ ho
theorem Zb1:∀ {ks:List Zd} {i:Nat} {x:Zd},ks[i]?=some x→x.nodes≤Zd.nodes.nodesL ks
 | [],i,x,h=>by simp at h
 | y :: ks,0,x,h=>by simp at h;subst h;simp[Zd.nodes.nodesL]
 | y :: ks,i+1,x,h=>by
  have:=Zb1 (ks:=ks) (i:=i) (x:=x) (by simpa using h);simp only[Zd.nodes.nodesL];omega
theorem J0 {o a p:Int} {t:Bool} {ks:List Zd} {i:Nat} {x:Zd} {n:Nat} (hn:(Zd.mk o a p t ks).nodes≤n+1) (h:ks[i]?=some x):x.nodes≤n:=by
 have:=Zb1 h;simp only[Zd.nodes] at hn;omega
theorem Zd.enc_len (x:Zd):(Zd.enc x).cells.length=5:=by
 obtain⟨o,a,p,t,k⟩:=x;rw[Zd.enc_mk];rfl
theorem Zd.enc_agg (x:Zd):D.agg (Zd.enc x).cells=Zd.enc x:=by
 obtain⟨o,a,p,t,k⟩:=x;rw[Zd.enc_mk];rfl
theorem Zd.take_enc (x:Zd):(Zd.enc x).cells.take 5=(Zd.enc x).cells:=Lo (by rw[Zd.enc_len x];omega)
attribute [go_sem] Zd.enc_len Zd.enc_agg Zd.take_enc
theorem ZpC {o a p:Int} {t:Bool} {ks:List Zd} (ho:¬(o=2∨o=3)):X2 (.mk o a p t ks)=if ks.length=0∧a=0∧o=1 then some (.pane p t) else
   if ks.length=0∧a=0∧o=0∧p=0∧t=false then some .waste else none:=by
 simp only[X2,ho,Ko]
def Zw (m:Int):Option BT→Int
 | some b=>if (b.cnt:Int)≤m then (b.cnt:Int) else -1
 | none=>-1
theorem Za5 (m:Int) (h0:0≤m) (b:Option BT) : -1≤Zw m b∧Zw m b≤m∧Zw m b≠0:=by
 cases b with
 | none=>simp[Zw];omega
 | some b=>
  have:=b.cnt_pos;simp only[Zw];split<;>omega
theorem Yi (m:Int) (b:BT):((b.cnt:Int)≤m∧Zw m (some b)=b.cnt)∨(m<(b.cnt:Int)∧Zw m (some b)=-1):=by
 unfold Zw;by_cases h:(b.cnt:Int)≤m
 ·left;exact⟨h,Kl h⟩
 ·right;exact⟨by omega,Kj h⟩
theorem ZeQ (m o a p:Int) (t:Bool) (l r:Option BT) (h:¬(p=0∧t=false)):Zw m (ZeO o a p t l r)=-1:=by
 cases l with
 | none=>rfl
 | some x=>cases r with
  | none=>rfl
  | some y=>simp only[ZeO,Kj h,Zw]
theorem Zvw (m o a:Int) (l r:Option BT):Zw m (ZeO o a 0 false l r)=if Zw m l<0∨Zw m r<0∨m<1+Zw m l+Zw m r then -1 else 1+Zw m l+Zw m r:=by
 cases l with
 | none=>simp[ZeO,Zw]
 | some x=>cases r with
  | none=>simp[ZeO,Zw]
  | some y=>
   have h1:=x.cnt_pos;have h2:=y.cnt_pos;have e:(BT.cut (decide (o=2)) a x y).cnt=1+x.cnt+y.cnt:=rfl;have e0:ZeO o a 0 false (some x) (some y)=some (BT.cut (decide (o=2)) a x y):=by simp[ZeO]
   rw[e0];have hx:=Yi m x;have hy:=Yi m y;have hc:=Yi m (BT.cut (decide (o=2)) a x y);rw[e] at hc;generalize Zw m (some x)=sx at *;generalize Zw m (some y)=sy at *;generalize Zw m (some (BT.cut (decide (o=2)) a x y))=sc at *;split<;>omega
theorem Zut (m o a:Int) (l r:Option BT):Zw m (ZeO o a 0 false l r)=if Zw (m-1) l<0∨Zw (m-1-Zw (m-1) l) r<0 then -1 else 1+Zw (m-1) l+Zw (m-1-Zw (m-1) l) r:=by
 cases l with
 | none=>simp[ZeO,Zw]
 | some x=>cases r with
  | none=>simp[ZeO,Zw]
  | some y=>
   have h1:=x.cnt_pos;have h2:=y.cnt_pos;have e:(BT.cut (decide (o=2)) a x y).cnt=1+x.cnt+y.cnt:=rfl;have e0:ZeO o a 0 false (some x) (some y)=some (BT.cut (decide (o=2)) a x y):=by simp[ZeO]
   rw[e0];have hx:=Yi (m-1) x;have hy:=Yi (m-1-Zw (m-1) (some x)) y;have hc:=Yi m (BT.cut (decide (o=2)) a x y);rw[e] at hc;generalize Zw (m-1-Zw (m-1) (some x)) (some y)=sy at *;generalize Zw (m-1) (some x)=sx at *;generalize Zw m (some (BT.cut (decide (o=2)) a x y))=sc at *;split<;>omega
theorem Zvx {m:Int} (h:m<1) (b:Option BT):Zw m b=-1:=by
 cases b with
 | none=>rfl
 | some b=>
  have:=b.cnt_pos;have:=Yi m b;omega
def Jt (ps:List Pane) (i:Int) (t:Bool) (w h:Int):Bool:=decide (0≤i)&&(match ps[i.toNat]? with
 | some q=>if t then q.Turns&&decide (¬q.W=q.H)&&decide (q.H=w)&&decide (q.W=h) else decide (q.W=w∧q.H=h)
 | none=>false)
def XI (ps:List Pane):BT→Int→Int→Bool
 | .waste,_,_=>true
 | .pane i t,w,h=>Jt ps i t w h
 | .cut d a l r,w,h=>if d then decide (1≤a∧a≤w-1)&&XI ps l a h&&XI ps r (w-a) h
   else decide (1≤a∧a≤h-1)&&XI ps l w a&&XI ps r w (h-a)
def VPs (ps:List Pane):Prop:=∀ q∈ps,VP q
instance (ps:List Pane):Decidable (VPs ps):=by unfold VPs;infer_instance
def VW (k:ZD):Prop:=1≤k.W∧k.W≤200∧1≤k.H∧k.H≤200∧k.Panes.length≤24∧VPs k.Panes
instance (k:ZD):Decidable (VW k):=by unfold VW;infer_instance
theorem Zuu {ps:List Pane} {k:Nat} {x:Pane} (hx:ps[k]?=some x):VPs (ps.drop k)↔VP x∧VPs (ps.drop (k+1)):=by
 obtain⟨h1,h2⟩:=Ka.1 hx;rw[Kw h1,h2];simp[VPs]
end Go.Abs.L
set_option linter.unusedVariables false
set_option linter.unusedSimpArgs false
namespace Go.Abs.L
open Go Go.Abs Go.Abs.E
structure Part where
 plan:Zd
 box:Box
def Part.enc (p:Part):D:=.agg (p.plan.enc.cells++[.int .i64 p.box.X,.int .i64 p.box.Y,.int .i64 p.box.W,.int .i64 p.box.H])
@[go_sem] theorem Part.enc_mk (o a p:Int) (t:Bool) (ks:List Zd) (x y w h:Int):Part.enc ⟨.mk o a p t ks,⟨x,y,w,h⟩⟩ =
  .agg [.int .i64 o,.int .i64 a,.int .i64 p,.bool t,.sl (ks.map Zd.enc),.int .i64 x,.int .i64 y,.int .i64 w,.int .i64 h]:=by
 simp only[Part.enc,Zd.enc_mk];rfl
theorem Part.enc_len (p:Part):(Part.enc p).cells.length=9:=by
 show (p.plan.enc.cells++_).length=9;rw[Kx,Zd.enc_len];rfl
@[go_sem] theorem uni_Part (l:List Part):uni 9 (l.map Part.enc)=True:=eq_true (Za1 l Part.enc_len)
def pt:BT→Int→Int→Int→Int→List Part
 | .waste,x,y,w,h=>[⟨BT.waste.plan,⟨x,y,w,h⟩⟩]
 | .pane i t,x,y,w,h=>[⟨(BT.pane i t).plan,⟨x,y,w,h⟩⟩]
 | .cut d a l r,x,y,w,h=>⟨(BT.cut d a l r).plan,⟨x,y,w,h⟩⟩ :: if d then pt l x y a h++pt r (x+a) y (w-a) h else pt l x y w a++pt r x (y+a) w (h-a)
def sp:BT→Int→Int→Int→Int→List Place
 | .waste,x,y,w,h=>[⟨-1,false,⟨x,y,w,h⟩⟩]
 | .pane i t,x,y,w,h=>[⟨i,t,⟨x,y,w,h⟩⟩]
 | .cut d a l r,x,y,w,h=>if d then sp l x y a h++sp r (x+a) y (w-a) h else sp l x y w a++sp r x (y+a) w (h-a)
def plc:BT→Int→Int→Int→Int→List Place
 | .waste,x,y,w,h=>[]
 | .pane i t,x,y,w,h=>[⟨i,t,⟨x,y,w,h⟩⟩]
 | .cut d a l r,x,y,w,h=>if d then plc l x y a h++plc r (x+a) y (w-a) h else plc l x y w a++plc r x (y+a) w (h-a)
def wst:BT→Int→Int→Int→Int→List Box
 | .waste,x,y,w,h=>[⟨x,y,w,h⟩]
 | .pane i t,x,y,w,h=>[]
 | .cut d a l r,x,y,w,h=>if d then wst l x y a h++wst r (x+a) y (w-a) h else wst l x y w a++wst r x (y+a) w (h-a)
def PN:BT→Prop
 | .waste=>True
 | .pane i _=>0≤i
 | .cut _ _ l r=>PN l∧PN r
def opP:Zd→Int
 | .mk o _ _ _ _=>o
def Xn (q:Part):Option Place:=match q.plan with
 | .mk o _ p t _=>if o=1 then some ⟨p,t,q.box⟩ else none
def XD (q:Part):Option Box:=match q.plan with
 | .mk o _ _ _ _=>if o=0 then some q.box else none
theorem Vr:∀ (b:BT) (x y w h:Int),(pt b x y w h).filterMap Xn=plc b x y w h
 | .waste,x,y,w,h=>rfl
 | .pane i t,x,y,w,h=>rfl
 | .cut d a l r,x,y,w,h=>by
  have e:Xn ⟨(BT.cut d a l r).plan,⟨x,y,w,h⟩⟩=none:=by cases d<;>rfl
  cases d<;>simp[pt,plc,LB,Lh,e,Vr]
theorem ZdJ:∀ (b:BT) (x y w h:Int),(pt b x y w h).filterMap XD=wst b x y w h
 | .waste,x,y,w,h=>rfl
 | .pane i t,x,y,w,h=>rfl
 | .cut d a l r,x,y,w,h=>by
  have e:XD ⟨(BT.cut d a l r).plan,⟨x,y,w,h⟩⟩=none:=by cases d<;>rfl
  cases d<;>simp[pt,wst,LB,Lh,e,ZdJ]
def Zcw (q:Place):Option Place:=if 0≤q.Pane then some q else none
def Zcx (q:Place):Option Box:=if q.Pane<0 then some q.Box else none
theorem ZlV:∀ (b:BT) (x y w h:Int),PN b→(sp b x y w h).filterMap Zcw=plc b x y w h
 | .waste,x,y,w,h,_=>rfl
 | .pane i t,x,y,w,h,hp=>by
  have hp:0≤i:=hp;simp[sp,plc,Zcw,hp]
 | .cut d a l r,x,y,w,h,hp=>by
  cases d<;>simp[sp,plc,LB,ZlV l _ _ _ _ hp.1,ZlV r _ _ _ _ hp.2]
theorem ZlW:∀ (b:BT) (x y w h:Int),PN b→(sp b x y w h).filterMap Zcx=wst b x y w h
 | .waste,x,y,w,h,_=>rfl
 | .pane i t,x,y,w,h,hp=>by
  have hp:¬i<0:=by have:0≤i:=hp;omega
  simp[sp,wst,Zcx,hp]
 | .cut d a l r,x,y,w,h,hp=>by
  cases d<;>simp[sp,wst,LB,ZlW l _ _ _ _ hp.1,ZlW r _ _ _ _ hp.2]
theorem Ju:∀ (b:BT) (x y w h:Int),(pt b x y w h).length=b.cnt
 | .waste,x,y,w,h=>rfl
 | .pane i t,x,y,w,h=>rfl
 | .cut d a l r,x,y,w,h=>by
  cases d<;>simp[pt,BT.cnt,Ju]<;>omega
theorem Zdc:∀ (b:BT) (x y w h:Int),(sp b x y w h).length≤b.cnt
 | .waste,x,y,w,h=>by simp[sp,BT.cnt]
 | .pane i t,x,y,w,h=>by simp[sp,BT.cnt]
 | .cut d a l r,x,y,w,h=>by
  cases d
  ·have h1:=Zdc l x y w a;have h2:=Zdc r x (y+a) w (h-a);simp[sp,BT.cnt];omega
  ·have h1:=Zdc l x y a h;have h2:=Zdc r (x+a) y (w-a) h;simp[sp,BT.cnt];omega
theorem Zaf {α β:Type} {l:List α} {f:α→Option β} {k:Nat} {x:α} (hx:l[k]?=some x):(l.take (k+1)).filterMap f=(l.take k).filterMap f++(f x).toList:=by
 obtain⟨h1,h2⟩:=Ka.1 hx;rw[List.take_succ_eq_append_getElem h1,h2,LB];cases hf:f x<;>simp[hf]
theorem Zhv {ps:List Pane}:∀ {b:BT} {w h:Int},XI ps b w h=true→PN b
 | .waste,_,_,_=>trivial
 | .pane i t,w,h,hf=>by
  simp only[XI,Jt,Kd,Ku] at hf;exact hf.1
 | .cut d a l r,w,h,hf=>by
  cases d
  ·simp only[XI,Kd,Kc,Ko] at hf;exact⟨Zhv hf.1.2,Zhv hf.2⟩
  ·simp only[XI,Kd,Kn] at hf;exact⟨Zhv hf.1.2,Zhv hf.2⟩
def Qy (k:ZD) (p:Zd):List Part:=match X2 p with
 | some b=>if decide (VW k)&&decide (b.cnt≤255)&&XI k.Panes b k.W k.H then pt b 0 0 k.W k.H else []
 | none=>[]
def YU (k:ZD) (p:Zd):Bool:=match X2 p with
 | some b=>decide (VW k)&&decide (b.cnt≤255)&&XI k.Panes b k.W k.H
 | none=>false
theorem Xd {k:ZD} {p:Zd} (h:YU k p=true):∃ b,X2 p=some b∧p=b.plan∧VW k∧b.cnt≤255∧XI k.Panes b k.W k.H=true∧Qy k p=pt b 0 0 k.W k.H:=by
 have h':=h;unfold YU at h;split at h
 ·rename_i b hb;refine⟨b,hb,Zhu hb,?_⟩;unfold Qy;rw[hb];dsimp only;rw[Kl h];simp only[Kd,Ku] at h;exact⟨h.1.1,h.1.2,h.2,rfl⟩
 ·cases h
theorem ZdK {α:Type} {l:List α} {k:Nat} {x:α} (hx:l[k]?=some x) (P:α→Prop):(∀ y∈l.drop k,P y)↔P x∧∀ y∈l.drop (k+1),P y:=by
 obtain⟨h1,h2⟩:=Ka.1 hx;rw[Kw h1,h2];simp
def Zb2 (w h:Int) (f:Box):Prop:=VB f∧Vw f ⟨0,0,w,h⟩
instance (w h:Int) (f:Box):Decidable (Zb2 w h f):=by unfold Zb2;infer_instance
def VPc (q:Zb):Prop:=(1≤q.Label∧q.Label≤9999∧1≤q.W∧q.W≤200∧1≤q.H∧q.H≤200∧q.Flaws.length≤6)∧∀ f∈q.Flaws,Zb2 q.W q.H f
instance (q:Zb):Decidable (VPc q):=by unfold VPc;infer_instance
def Qz (fs:List Box) (b:Box):Prop:=∀ f∈fs,¬WF f b
instance (fs:List Box) (b:Box):Decidable (Qz fs b):=by unfold Qz;infer_instance
def VK (q:Zb) (k:ZD) (p:Zd):Prop:=YU k p=true∧k.W=q.W∧k.H=q.H∧∀ c∈(Qy k p).filterMap Xn,Qz q.Flaws c.Box
instance (q:Zb) (k:ZD) (p:Zd):Decidable (VK q k p):=by unfold VK;infer_instance
def Zju (x y w h:Int) (c:Box):Prop:=1≤c.W∧1≤c.H∧x≤c.X∧y≤c.Y∧c.X+c.W≤x+w∧c.Y+c.H≤y+h
theorem ZpD {ps:List Pane}:∀ {b:BT} {x y w h:Int},XI ps b w h=true→1≤w→1≤h→∀ c∈plc b x y w h,Zju x y w h c.Box
 | .waste,x,y,w,h,hf,h1,h2,c,hc=>by simp[plc] at hc
 | .pane i t,x,y,w,h,hf,h1,h2,c,hc=>by
  simp only[plc,KL] at hc;subst hc;simp only[Zju];omega
 | .cut d a l r,x,y,w,h,hf,h1,h2,c,hc=>by
  cases d
  ·simp only[XI,Kd,Kc,Ko,Ku] at hf;simp only[plc,Kc,Ko,Ke] at hc;rcases hc with hc | hc
   ·have:=ZpD hf.1.2 (by omega) (by omega) c hc;simp only[Zju] at this ⊢;omega
   ·have:=ZpD hf.2 (by omega) (by omega) c hc;simp only[Zju] at this ⊢;omega
  ·simp only[XI,Kd,Kn,Ku] at hf;simp only[plc,Kn,Ke] at hc;rcases hc with hc | hc
   ·have:=ZpD hf.1.2 (by omega) (by omega) c hc;simp only[Zju] at this ⊢;omega
   ·have:=ZpD hf.2 (by omega) (by omega) c hc;simp only[Zju] at this ⊢;omega
theorem ZlX {ps:List Pane}:∀ {b:BT} {x y w h:Int},XI ps b w h=true→1≤w→1≤h→∀ c∈wst b x y w h,Zju x y w h c
 | .waste,x,y,w,h,hf,h1,h2,c,hc=>by
  simp only[wst,KL] at hc;subst hc;simp only[Zju];omega
 | .pane i t,x,y,w,h,hf,h1,h2,c,hc=>by simp[wst] at hc
 | .cut d a l r,x,y,w,h,hf,h1,h2,c,hc=>by
  cases d
  ·simp only[XI,Kd,Kc,Ko,Ku] at hf;simp only[wst,Kc,Ko,Ke] at hc;rcases hc with hc | hc
   ·have:=ZlX hf.1.2 (by omega) (by omega) c hc;simp only[Zju] at this ⊢;omega
   ·have:=ZlX hf.2 (by omega) (by omega) c hc;simp only[Zju] at this ⊢;omega
  ·simp only[XI,Kd,Kn,Ku] at hf;simp only[wst,Kn,Ke] at hc;rcases hc with hc | hc
   ·have:=ZlX hf.1.2 (by omega) (by omega) c hc;simp only[Zju] at this ⊢;omega
   ·have:=ZlX hf.2 (by omega) (by omega) c hc;simp only[Zju] at this ⊢;omega
def XJ:List Box→Int
 | []=>0
 | c :: l=>c.W*c.H+XJ l
theorem Za6 (a b:List Box):XJ (a++b)=XJ a+XJ b:=by
 induction a with
 | nil=>simp[XJ]
 | cons c l ih=>simp only[KD,XJ,ih];omega
theorem ZkU {ps:List Pane}:∀ {b:BT} {x y w h:Int},XJ (wst b x y w h)+XJ ((plc b x y w h).map Place.Box)=w*h
 | .waste,x,y,w,h=>by simp[wst,plc,XJ]
 | .pane i t,x,y,w,h=>by simp[wst,plc,XJ]
 | .cut d a l r,x,y,w,h=>by
  cases d
  ·have h1:=ZkU (ps:=ps) (b:=l) (x:=x) (y:=y) (w:=w) (h:=a);have h2:=ZkU (ps:=ps) (b:=r) (x:=x) (y:=y+a) (w:=w) (h:=h-a);have h3:w*(h-a)=w*h-w*a:=Int.mul_sub w h a;simp only[wst,plc,Kc,Ko,Za6,Kak];omega
  ·have h1:=ZkU (ps:=ps) (b:=l) (x:=x) (y:=y) (w:=a) (h:=h);have h2:=ZkU (ps:=ps) (b:=r) (x:=x+a) (y:=y) (w:=w-a) (h:=h);have h3:(w-a)*h=w*h-a*h:=Int.sub_mul w a h;simp only[wst,plc,Kn,Za6,Kak];omega
theorem ZnV:∀ (b:BT) (x y w h:Int),(wst b x y w h).length≤b.cnt
 | .waste,x,y,w,h=>by simp[wst,BT.cnt]
 | .pane i t,x,y,w,h=>by simp[wst,BT.cnt]
 | .cut d a l r,x,y,w,h=>by
  cases d
  ·have h1:=ZnV l x y w a;have h2:=ZnV r x (y+a) w (h-a);simp[wst,BT.cnt];omega
  ·have h1:=ZnV l x y a h;have h2:=ZnV r (x+a) y (w-a) h;simp[wst,BT.cnt];omega
theorem ZkV {k:ZD} {p:Zd} {b:BT} (hv:VW k) (hf:XI k.Panes b k.W k.H=true):∀ c∈plc b 0 0 k.W k.H,VB c.Box:=by
 intro c hc;obtain⟨h1,h2,h3,h4,_⟩:=hv;have:=ZpD hf h1 h3 c hc;simp only[Zju] at this;simp only[VB];omega
theorem ZkW {k:ZD} {p:Zd} {b:BT} (hv:VW k) (hf:XI k.Panes b k.W k.H=true):∀ c∈wst b 0 0 k.W k.H,VB c:=by
 intro c hc;obtain⟨h1,h2,h3,h4,_⟩:=hv;have:=ZlX hf h1 h3 c hc;simp only[Zju] at this;simp only[VB];omega
def ZsP (b m:Box):Box:=⟨m.X-b.X,m.Y-b.Y,m.W,m.H⟩
def Yj (b f:Box):Option Box:=if WF f b then some (ZsP b (ZgK f b)) else none
def ZlY (q:Zb) (b:Box) (label:Int):Zb:=⟨label,b.W,b.H,q.Flaws.filterMap (Yj b)⟩
theorem Zvy {q:Zb} {b:Box} {label:Int} (hq:VPc q) (hb:VB b) (hi:Vw b ⟨0,0,q.W,q.H⟩) (h1:1≤label) (h2:label≤9999):VPc (ZlY q b label):=by
 simp only[VB] at hb;refine⟨⟨h1,h2,?_,?_,?_,?_,Kv (Ki _ _) hq.1.2.2.2.2.2.2⟩,?_⟩
 ·show 1≤b.W;omega
 ·show b.W≤200;omega
 ·show 1≤b.H;omega
 ·show b.H≤200;omega
 ·intro f hf;obtain⟨g,hg,aa⟩:=Lu.1 hf;have ab:=hq.2 g hg;unfold Yj at aa;split at aa
  ·rename_i hm;cases aa;simp only[Zb2,VB,Vw] at ab;simp only[WF] at hm;simp only[Zb2,VB,Vw,ZsP,ZgK,ZlY];omega
  ·cases aa
def W3 (Zi:Int) (b:Box):Option Box:=if Zi≤b.W∧Zi≤b.H then some b else none
def Uf (q:Zb):Int→List Box→List Zb
 | _,[]=>[]
 | n,b :: l=>ZlY q b n :: Uf q (n+1) l
theorem ZgT (q:Zb):∀ (n:Int) (a b:List Box),Uf q n (a++b)=Uf q n a++Uf q (n+a.length) b
 | n,[],b=>by simp[Uf]
 | n,x :: a,b=>by
  simp only[KD,Uf,ZgT q (n+1) a b,Ks];congr 3
  omega
theorem Zb3 (q:Zb):∀ (n:Int) (a:List Box),(Uf q n a).length=a.length
 | n,[]=>rfl
 | n,x :: a=>by simp[Uf,Zb3 q (n+1) a]
theorem Zxu (q:Zb) (n:Int) {l:List Box} {i:Nat} {x:Box} (hx:l[i]?=some x):Uf q n (l.take (i+1))=Uf q n (l.take i)++[ZlY q x (n+i)]:=by
 obtain⟨h1,h2⟩:=Ka.1 hx;rw[List.take_succ_eq_append_getElem h1,h2,ZgT];simp only[Uf,LC,Nat.min_eq_left (Nat.le_of_lt h1)]
def QR (k:ZD) (p:Zd) (Zi:Int):List Box:=((Qy k p).filterMap XD).filterMap (W3 Zi)
theorem ZpE {k:ZD} {p:Zd} {Zi:Int} (hv:YU k p=true):∀ b∈QR k p Zi,VB b∧Vw b ⟨0,0,k.W,k.H⟩:=by
 intro b hb;obtain⟨t,_,_,hw,_,hf,hp⟩:=Xd hv;unfold QR at hb;rw[hp,ZdJ] at hb;obtain⟨c,hc,aa⟩:=Lu.1 hb;unfold W3 at aa;split at aa
 ·cases aa;refine⟨ZkW (p:=p) hw hf b hc,?_⟩;obtain⟨h1,h2,h3,h4,_⟩:=hw;have:=ZlX hf h1 h3 b hc;simp only[Zju] at this;simp only[Vw];omega
 ·cases aa
theorem Zhw (k:ZD) (p:Zd) (Zi:Int):(QR k p Zi).length≤255:=by
 unfold QR;refine Kv (Ki _ _) (Kv (Ki _ _) ?_);unfold Qy;split
 ·split
  ·rename_i h;simp only[Kd,Ku] at h;rw[Ju];exact h.1.2
  ·simp
 ·simp
def remn (q:Zb) (k:ZD) (p:Zd) (Zi label:Int):List Zb:=
 if (VPc q∧VK q k p)∧1≤Zi∧Zi≤200∧1≤label∧label≤9999∧(QR k p Zi).length≤10000-label then Uf q label (QR k p Zi) else []
def Uw (Zi:Int) (b:Box):Option Box:=if b.W<Zi∨b.H<Zi then some b else none
def ZdL (k:ZD) (p:Zd) (Zi:Int):List Box:=((Qy k p).filterMap XD).filterMap (Uw Zi)
theorem Zhx {b:Box} (h:VB b):0≤b.W*b.H∧b.W*b.H≤40000:=by
 simp only[VB] at h;have h1:0≤b.W*b.H:=Kab (by omega) (by omega);have h2:b.W*b.H≤200*200:=Kac (by omega) (by omega) (by omega) (by omega);omega
theorem ZgU:∀ {l:List Box},(∀ b∈l,VB b)→0≤XJ l∧XJ l≤40000*l.length
 | [],_=>by simp[XJ]
 | b :: l,h=>by
  have h1:=Zhx (h b (by simp));have h2:=ZgU (l:=l) fun c hc=>h c (by simp[hc]);simp only[XJ,Ks];omega
theorem ZpF (Zi:Int):∀ (l:List Box),XJ (l.filterMap (W3 Zi))+XJ (l.filterMap (Uw Zi))=XJ l
 | []=>by simp[XJ]
 | b :: l=>by
  have ih:=ZpF Zi l;by_cases h:Zi≤b.W∧Zi≤b.H
  ·have h' : ¬(b.W<Zi∨b.H<Zi):=by omega
   simp only[Lh,W3,Uw,Kl h,Kj h',XJ];omega
  ·have h' : b.W<Zi∨b.H<Zi:=by omega
   simp only[Lh,W3,Uw,Kj h,Kl h',XJ];omega
theorem ZdM {k:ZD} {p:Zd} (hv:YU k p=true):∀ b∈(Qy k p).filterMap XD,VB b:=by
 obtain⟨t,_,_,hw,_,hf,hp⟩:=Xd hv;rw[hp,ZdJ];exact ZkW (p:=p) hw hf
attribute [go_sem] ite_self Bool.false_eq_true
end Go.Abs.L
