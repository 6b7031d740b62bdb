/- Own text. -/
import Derived.Test.YtgpiffflfkoocaaDoorAbsLib
set_option linter.unusedVariables false
set_option linter.unusedSimpArgs false
namespace Go.Abs.L
open Go Go.Abs Go.Abs.E
inductive BT where
 | waste
 | pane (i:Int) (t:Bool)
 | cut (d:Bool) (a:Int) (l r:BT)
deriving DecidableEq,Inhabited
def Zfy (d:Bool):Int:=if d then 2 else 3
def BT.plan:BT→Ze
 | .waste=>.mk 0 0 0 false []
 | .pane i t=>.mk 1 0 i t []
 | .cut d a l r=>.mk (Zfy d) a 0 false [l.plan,r.plan]
def BT.cnt:BT→Nat
 | .waste=>1
 | .pane _ _=>1
 | .cut _ _ l r=>1+l.cnt+r.cnt
theorem BT.cnt_pos (b:BT):1≤b.cnt:=by cases b<;>simp[BT.cnt]<;>omega
def Ze.nodes:Ze→Nat
 | .mk _ _ _ _ ks=>1+nodesL ks
where nodesL:List Ze→Nat
 | []=>0
 | p :: r=>Ze.nodes p+nodesL r
def ZaZ (o a p:Int) (t:Bool) (l r:Option BT):Option BT:=match l,r with
 | some x,some y=>if p=0∧t=false then some (.cut (decide (o=2)) a x y) else none
 | _,_=>none
mutual
def QV:Ze→Option BT
 | .mk o a p t ks=>if o=2∨o=3 then Znb o a p t ks else
   if ks.length=0∧a=0∧o=1 then some (.pane p t) else
   if ks.length=0∧a=0∧o=0∧p=0∧t=false then some .waste else none
def Znb (o a p:Int) (t:Bool):List Ze→Option BT
 | []=>none
 | x :: r=>Zpo o a p t (QV x) r
def Zpo (o a p:Int) (t:Bool) (l:Option BT):List Ze→Option BT
 | []=>none
 | y :: r=>match r with
  | []=>ZaZ o a p t l (QV y)
  | _=>none
end
theorem ZiA (o a p:Int) (t:Bool) (x y:Ze) (ho:o=2∨o=3):QV (.mk o a p t [x,y])=ZaZ o a p t (QV x) (QV y):=by
 simp[QV,Znb,Zpo,ho]
theorem Zfz (o a p:Int) (t:Bool) (ks:List Ze) (ho:o=2∨o=3) (hk:ks.length≠2):QV (.mk o a p t ks)=none:=by
 match ks,hk with
 | [],_=>simp[QV,Znb,ho]
 | [x],_=>simp[QV,Znb,Zpo,ho]
 | [x,y],h=>simp at h
 | x :: y :: z :: r,_=>simp[QV,Znb,Zpo,ho]
theorem XK:∀ b:BT,QV b.plan=some b
 | .waste=>by simp[BT.plan,QV]
 | .pane i t=>by simp[BT.plan,QV]
 | .cut d a l r=>by
  rw[BT.plan,ZiA _ _ _ _ _ _ (by cases d<;>simp[Zfy]),XK l,XK r];cases d<;>simp[ZaZ,Zfy]
theorem Za0:∀ (n:Nat) (p:Ze) (b:BT),p.nodes≤n→QV p=some b→p=b.plan
 | 0,.mk o a p t ks,b,hn,_=>by simp[Ze.nodes] at hn
 | n+1,.mk o a p t ks,b,hn,h=>by
  by_cases ho:o=2∨o=3
  ·by_cases hk:ks.length=2
   ·match ks,hk with
    | [x,y],_=>
     rw[ZiA _ _ _ _ _ _ ho] at h;simp only[Ze.nodes,Ze.nodes.nodesL] at hn;cases hx:QV x with
     | none=>simp[hx,ZaZ] at h
     | some bx=>
      cases hy:QV y with
      | none=>simp[hx,hy,ZaZ] at h
      | some bY=>
       have e1:=Za0 n x bx (by omega) hx;have e2:=Za0 n y bY (by omega) hy;simp only[hx,hy,ZaZ] at h;split at h
       ·rename_i hc;cases h;obtain⟨rfl,rfl⟩:=hc;rw[BT.plan,← e1,← e2];rcases ho with rfl | rfl<;>rfl
       ·cases h
   ·rw[Zfz _ _ _ _ _ ho hk] at h;cases h
  ·simp only[QV,ho,Kn] at h;split at h
   ·rename_i hc;cases h;obtain⟨h1,rfl,rfl⟩:=hc;cases ks with
    | nil=>rfl
    | cons x r=>simp at h1
   ·split at h
    ·rename_i hc;cases h;obtain⟨h1,rfl,rfl,rfl,rfl⟩:=hc;cases ks with
     | nil=>rfl
     | cons x r=>simp at h1
    ·cases h
theorem ZcC {p:Ze} {b:BT} (h:QV p=some b):p=b.plan:=Za0 _ p b (Kg _) h
theorem Zkp {o a p:Int} {t:Bool} {ks:List Ze} {x y:Ze} (ho:o=2∨o=3) (hk:ks.length=2) (h0:ks[0]?=some x) (h1:ks[1]?=some y):QV (.mk o a p t ks)=ZaZ o a p t (QV x) (QV y):=by
 match ks,hk with
 | [x',y'],_=>
  simp at h0 h1;subst h0;subst h1;exact ZiA _ _ _ _ _ _ ho
theorem Jj:∀ {ks:List Ze} {i:Nat} {x:Ze},ks[i]?=some x→x.nodes≤Ze.nodes.nodesL ks
 | [],i,x,h=>by simp at h
 | y :: ks,0,x,h=>by simp at h;subst h;simp[Ze.nodes.nodesL]
 | y :: ks,i+1,x,h=>by
  have:=Jj (ks:=ks) (i:=i) (x:=x) (by simpa using h);simp only[Ze.nodes.nodesL];omega
theorem Zar {o a p:Int} {t:Bool} {ks:List Ze} {i:Nat} {x:Ze} {n:Nat} (hn:(Ze.mk o a p t ks).nodes≤n+1) (h:ks[i]?=some x):x.nodes≤n:=by
 have:=Jj h;simp only[Ze.nodes] at hn;omega
theorem Ze.enc_len (x:Ze):(Ze.enc x).cells.length=5:=by
 obtain⟨o,a,p,t,k⟩:=x;rw[Ze.enc_mk];rfl
theorem Ze.enc_agg (x:Ze):D.agg (Ze.enc x).cells=Ze.enc x:=by
 obtain⟨o,a,p,t,k⟩:=x;rw[Ze.enc_mk];rfl
theorem Ze.take_enc (x:Ze):(Ze.enc x).cells.take 5=(Ze.enc x).cells:=Lz (by rw[Ze.enc_len x];omega)
attribute [go_sem] Ze.enc_len Ze.enc_agg Ze.take_enc
theorem ZiB {o a p:Int} {t:Bool} {ks:List Ze} (ho:¬(o=2∨o=3)):QV (.mk o a p t ks)=if ks.length=0∧a=0∧o=1 then some (.pane p t) else
   if ks.length=0∧a=0∧o=0∧p=0∧t=false then some .waste else none:=by
 simp only[QV,ho,Kn]
def Zn (m:Int):Option BT→Int
 | some b=>if (b.cnt:Int)≤m then (b.cnt:Int) else -1
 | none=>-1
theorem UE (m:Int) (h0:0≤m) (b:Option BT) : -1≤Zn m b∧Zn m b≤m∧Zn m b≠0:=by
 cases b with
 | none=>simp[Zn];omega
 | some b=>
  have:=b.cnt_pos;simp only[Zn];split<;>omega
theorem Q7 (m:Int) (b:BT):((b.cnt:Int)≤m∧Zn m (some b)=b.cnt)∨(m<(b.cnt:Int)∧Zn m (some b)=-1):=by
 unfold Zn;by_cases h:(b.cnt:Int)≤m
 ·left;exact⟨h,Ko h⟩
 ·right;exact⟨by omega,Kf h⟩
theorem Za1 (m o a p:Int) (t:Bool) (l r:Option BT) (h:¬(p=0∧t=false)):Zn m (ZaZ o a p t l r)=-1:=by
 cases l with
 | none=>rfl
 | some x=>cases r with
  | none=>rfl
  | some y=>simp only[ZaZ,Kf h,Zn]
theorem Zoh (m o a:Int) (l r:Option BT):Zn m (ZaZ o a 0 false l r)=if Zn m l<0∨Zn m r<0∨m<1+Zn m l+Zn m r then -1 else 1+Zn m l+Zn m r:=by
 cases l with
 | none=>simp[ZaZ,Zn]
 | some x=>cases r with
  | none=>simp[ZaZ,Zn]
  | some y=>
   have h1:=x.cnt_pos;have h2:=y.cnt_pos;have e:(BT.cut (decide (o=2)) a x y).cnt=1+x.cnt+y.cnt:=rfl;have e0:ZaZ o a 0 false (some x) (some y)=some (BT.cut (decide (o=2)) a x y):=by simp[ZaZ]
   rw[e0];have hx:=Q7 m x;have hy:=Q7 m y;have hc:=Q7 m (BT.cut (decide (o=2)) a x y);rw[e] at hc;generalize Zn m (some x)=sx at *;generalize Zn m (some y)=sy at *;generalize Zn m (some (BT.cut (decide (o=2)) a x y))=sc at *;split<;>omega
theorem Znc (m o a:Int) (l r:Option BT):Zn m (ZaZ o a 0 false l r)=if Zn (m-1) l<0∨Zn (m-1-Zn (m-1) l) r<0 then -1 else 1+Zn (m-1) l+Zn (m-1-Zn (m-1) l) r:=by
 cases l with
 | none=>simp[ZaZ,Zn]
 | some x=>cases r with
  | none=>simp[ZaZ,Zn]
  | some y=>
   have h1:=x.cnt_pos;have h2:=y.cnt_pos;have e:(BT.cut (decide (o=2)) a x y).cnt=1+x.cnt+y.cnt:=rfl;have e0:ZaZ o a 0 false (some x) (some y)=some (BT.cut (decide (o=2)) a x y):=by simp[ZaZ]
   rw[e0];have hx:=Q7 (m-1) x;have hy:=Q7 (m-1-Zn (m-1) (some x)) y;have hc:=Q7 m (BT.cut (decide (o=2)) a x y);rw[e] at hc;generalize Zn (m-1-Zn (m-1) (some x)) (some y)=sy at *;generalize Zn (m-1) (some x)=sx at *;generalize Zn m (some (BT.cut (decide (o=2)) a x y))=sc at *;split<;>omega
theorem Zoi {m:Int} (h:m<1) (b:Option BT):Zn m b=-1:=by
 cases b with
 | none=>rfl
 | some b=>
  have:=b.cnt_pos;have:=Q7 m b;omega
def Znd (ps:List Pane) (i:Int) (t:Bool) (w h:Int):Bool:=decide (0≤i)&&(match ps[i.toNat]? with
 | some q=>if t then q.Turns&&decide (¬q.W=q.H)&&decide (q.H=w)&&decide (q.W=h) else decide (q.W=w∧q.H=h)
 | none=>false)
def Za2 (ps:List Pane):BT→Int→Int→Bool
 | .waste,_,_=>true
 | .pane i t,w,h=>Znd ps i t w h
 | .cut d a l r,w,h=>if d then decide (1≤a∧a≤w-1)&&Za2 ps l a h&&Za2 ps r (w-a) h
   else decide (1≤a∧a≤h-1)&&Za2 ps l w a&&Za2 ps r w (h-a)
def VPs (ps:List Pane):Prop:=∀ q∈ps,VP q
instance (ps:List Pane):Decidable (VPs ps):=by unfold VPs;infer_instance
def VW (k:UA):Prop:=1≤k.W∧k.W≤200∧1≤k.H∧k.H≤200∧k.Panes.length≤24∧VPs k.Panes
instance (k:UA):Decidable (VW k):=by unfold VW;infer_instance
theorem VPs_drop {ps:List Pane} {k:Nat} {x:Pane} (hx:ps[k]?=some x):VPs (ps.drop k)↔VP x∧VPs (ps.drop (k+1)):=by
 obtain⟨h1,h2⟩:=Kb.1 hx;rw[KT h1,h2];simp[VPs]
end Go.Abs.L
set_option linter.unusedVariables false
set_option linter.unusedSimpArgs false
namespace Go.Abs.L
open Go Go.Abs Go.Abs.E
structure Part where
 plan:Ze
 box:Box
def Part.enc (p:Part):D:=.agg (p.plan.enc.cells++[.int .i64 p.box.X,.int .i64 p.box.Y,.int .i64 p.box.W,.int .i64 p.box.H])
@[go_sem] theorem Part.enc_mk (o a p:Int) (t:Bool) (ks:List Ze) (x y w h:Int):Part.enc ⟨.mk o a p t ks,⟨x,y,w,h⟩⟩ =
  .agg [.int .i64 o,.int .i64 a,.int .i64 p,.bool t,.sl (ks.map Ze.enc),.int .i64 x,.int .i64 y,.int .i64 w,.int .i64 h]:=by
 simp only[Part.enc,Ze.enc_mk];rfl
theorem Part.enc_len (p:Part):(Part.enc p).cells.length=9:=by
 show (p.plan.enc.cells++_).length=9;rw[Ks,Ze.enc_len];rfl
@[go_sem] theorem uni_Part (l:List Part):uni 9 (l.map Part.enc)=True:=eq_true (UB l Part.enc_len)
def pt:BT→Int→Int→Int→Int→List Part
 | .waste,x,y,w,h=>[⟨BT.waste.plan,⟨x,y,w,h⟩⟩]
 | .pane i t,x,y,w,h=>[⟨(BT.pane i t).plan,⟨x,y,w,h⟩⟩]
 | .cut d a l r,x,y,w,h=>⟨(BT.cut d a l r).plan,⟨x,y,w,h⟩⟩ :: if d then pt l x y a h++pt r (x+a) y (w-a) h else pt l x y w a++pt r x (y+a) w (h-a)
def sp:BT→Int→Int→Int→Int→List VZ
 | .waste,x,y,w,h=>[⟨-1,false,⟨x,y,w,h⟩⟩]
 | .pane i t,x,y,w,h=>[⟨i,t,⟨x,y,w,h⟩⟩]
 | .cut d a l r,x,y,w,h=>if d then sp l x y a h++sp r (x+a) y (w-a) h else sp l x y w a++sp r x (y+a) w (h-a)
def plc:BT→Int→Int→Int→Int→List VZ
 | .waste,x,y,w,h=>[]
 | .pane i t,x,y,w,h=>[⟨i,t,⟨x,y,w,h⟩⟩]
 | .cut d a l r,x,y,w,h=>if d then plc l x y a h++plc r (x+a) y (w-a) h else plc l x y w a++plc r x (y+a) w (h-a)
def wst:BT→Int→Int→Int→Int→List Box
 | .waste,x,y,w,h=>[⟨x,y,w,h⟩]
 | .pane i t,x,y,w,h=>[]
 | .cut d a l r,x,y,w,h=>if d then wst l x y a h++wst r (x+a) y (w-a) h else wst l x y w a++wst r x (y+a) w (h-a)
def PN:BT→Prop
 | .waste=>True
 | .pane i _=>0≤i
 | .cut _ _ l r=>PN l∧PN r
def opP:Ze→Int
 | .mk o _ _ _ _=>o
def ZlF (q:Part):Option VZ:=match q.plan with
 | .mk o _ p t _=>if o=1 then some ⟨p,t,q.box⟩ else none
def Zex (q:Part):Option Box:=match q.plan with
 | .mk o _ _ _ _=>if o=0 then some q.box else none
theorem ZqA:∀ (b:BT) (x y w h:Int),(pt b x y w h).filterMap ZlF=plc b x y w h
 | .waste,x,y,w,h=>rfl
 | .pane i t,x,y,w,h=>rfl
 | .cut d a l r,x,y,w,h=>by
  have e:ZlF ⟨(BT.cut d a l r).plan,⟨x,y,w,h⟩⟩=none:=by cases d<;>rfl
  cases d<;>simp[pt,plc,LD,L7,e,ZqA]
theorem ZfA:∀ (b:BT) (x y w h:Int),(pt b x y w h).filterMap Zex=wst b x y w h
 | .waste,x,y,w,h=>rfl
 | .pane i t,x,y,w,h=>rfl
 | .cut d a l r,x,y,w,h=>by
  have e:Zex ⟨(BT.cut d a l r).plan,⟨x,y,w,h⟩⟩=none:=by cases d<;>rfl
  cases d<;>simp[pt,wst,LD,L7,e,ZfA]
def Zpp (q:VZ):Option VZ:=if 0≤q.Pane then some q else none
def Zpq (q:VZ):Option Box:=if q.Pane<0 then some q.Box else none
theorem Zkq:∀ (b:BT) (x y w h:Int),PN b→(sp b x y w h).filterMap Zpp=plc b x y w h
 | .waste,x,y,w,h,_=>rfl
 | .pane i t,x,y,w,h,hp=>by
  have hp:0≤i:=hp;simp[sp,plc,Zpp,hp]
 | .cut d a l r,x,y,w,h,hp=>by
  cases d<;>simp[sp,plc,LD,Zkq l _ _ _ _ hp.1,Zkq r _ _ _ _ hp.2]
theorem Zkr:∀ (b:BT) (x y w h:Int),PN b→(sp b x y w h).filterMap Zpq=wst b x y w h
 | .waste,x,y,w,h,_=>rfl
 | .pane i t,x,y,w,h,hp=>by
  have hp:¬i<0:=by have:0≤i:=hp;omega
  simp[sp,wst,Zpq,hp]
 | .cut d a l r,x,y,w,h,hp=>by
  cases d<;>simp[sp,wst,LD,Zkr l _ _ _ _ hp.1,Zkr r _ _ _ _ hp.2]
theorem ZrY:∀ (b:BT) (x y w h:Int),(pt b x y w h).length=b.cnt
 | .waste,x,y,w,h=>rfl
 | .pane i t,x,y,w,h=>rfl
 | .cut d a l r,x,y,w,h=>by
  cases d<;>simp[pt,BT.cnt,ZrY]<;>omega
theorem ZlG:∀ (b:BT) (x y w h:Int),(sp b x y w h).length≤b.cnt
 | .waste,x,y,w,h=>by simp[sp,BT.cnt]
 | .pane i t,x,y,w,h=>by simp[sp,BT.cnt]
 | .cut d a l r,x,y,w,h=>by
  cases d
  ·have h1:=ZlG l x y w a;have h2:=ZlG r x (y+a) w (h-a);simp[sp,BT.cnt];omega
  ·have h1:=ZlG l x y a h;have h2:=ZlG r (x+a) y (w-a) h;simp[sp,BT.cnt];omega
theorem fm_take {α β:Type} {l:List α} {f:α→Option β} {k:Nat} {x:α} (hx:l[k]?=some x):(l.take (k+1)).filterMap f=(l.take k).filterMap f++(f x).toList:=by
 obtain⟨h1,h2⟩:=Kb.1 hx;rw[Lf h1,h2,LD];cases hf:f x<;>simp[hf]
theorem Zg8 {ps:List Pane}:∀ {b:BT} {w h:Int},Za2 ps b w h=true→PN b
 | .waste,_,_,_=>trivial
 | .pane i t,w,h,hf=>by
  simp only[Za2,Znd,Kc,Kk] at hf;exact hf.1
 | .cut d a l r,w,h,hf=>by
  cases d
  ·simp only[Za2,Kc,Ka,Kn] at hf;exact⟨Zg8 hf.1.2,Zg8 hf.2⟩
  ·simp only[Za2,Kc,Kl] at hf;exact⟨Zg8 hf.1.2,Zg8 hf.2⟩
def ZdH (k:UA) (p:Ze):List Part:=match QV p with
 | some b=>if decide (VW k)&&decide (b.cnt≤255)&&Za2 k.Panes b k.W k.H then pt b 0 0 k.W k.H else []
 | none=>[]
def Zne (k:UA) (p:Ze):Bool:=match QV p with
 | some b=>decide (VW k)&&decide (b.cnt≤255)&&Za2 k.Panes b k.W k.H
 | none=>false
theorem ZiC {k:UA} {p:Ze} (h:Zne k p=true):∃ b,QV p=some b∧p=b.plan∧VW k∧b.cnt≤255∧Za2 k.Panes b k.W k.H=true∧ZdH k p=pt b 0 0 k.W k.H:=by
 have h':=h;unfold Zne at h;split at h
 ·rename_i b hb;refine⟨b,hb,ZcC hb,?_⟩;unfold ZdH;rw[hb];dsimp only;rw[Ko h];simp only[Kc,Kk] at h;exact⟨h.1.1,h.1.2,h.2,rfl⟩
 ·cases h
theorem all_drop {α:Type} {l:List α} {k:Nat} {x:α} (hx:l[k]?=some x) (P:α→Prop):(∀ y∈l.drop k,P y)↔P x∧∀ y∈l.drop (k+1),P y:=by
 obtain⟨h1,h2⟩:=Kb.1 hx;rw[KT h1,h2];simp
def ZiD (w h:Int) (f:Box):Prop:=VB f∧ZbS f ⟨0,0,w,h⟩
instance (w h:Int) (f:Box):Decidable (ZiD w h f):=by unfold ZiD;infer_instance
def VPc (q:X7):Prop:=(1≤q.Label∧q.Label≤9999∧1≤q.W∧q.W≤200∧1≤q.H∧q.H≤200∧q.Flaws.length≤6)∧∀ f∈q.Flaws,ZiD q.W q.H f
instance (q:X7):Decidable (VPc q):=by unfold VPc;infer_instance
def ZlH (fs:List Box) (b:Box):Prop:=∀ f∈fs,¬Zm1 f b
instance (fs:List Box) (b:Box):Decidable (ZlH fs b):=by unfold ZlH;infer_instance
def ZrZ (q:X7) (k:UA) (p:Ze):Prop:=Zne k p=true∧k.W=q.W∧k.H=q.H∧∀ c∈(ZdH k p).filterMap ZlF,ZlH q.Flaws c.Box
instance (q:X7) (k:UA) (p:Ze):Decidable (ZrZ q k p):=by unfold ZrZ;infer_instance
def ZdI (x y w h:Int) (c:Box):Prop:=1≤c.W∧1≤c.H∧x≤c.X∧y≤c.Y∧c.X+c.W≤x+w∧c.Y+c.H≤y+h
theorem ZiE {ps:List Pane}:∀ {b:BT} {x y w h:Int},Za2 ps b w h=true→1≤w→1≤h→∀ c∈plc b x y w h,ZdI x y w h c.Box
 | .waste,x,y,w,h,hf,h1,h2,c,hc=>by simp[plc] at hc
 | .pane i t,x,y,w,h,hf,h1,h2,c,hc=>by
  simp only[plc,Kz] at hc;subst hc;simp only[ZdI];omega
 | .cut d a l r,x,y,w,h,hf,h1,h2,c,hc=>by
  cases d
  ·simp only[Za2,Kc,Ka,Kn,Kk] at hf;simp only[plc,Ka,Kn,Kd] at hc;rcases hc with hc | hc
   ·have:=ZiE hf.1.2 (by omega) (by omega) c hc;simp only[ZdI] at this ⊢;omega
   ·have:=ZiE hf.2 (by omega) (by omega) c hc;simp only[ZdI] at this ⊢;omega
  ·simp only[Za2,Kc,Kl,Kk] at hf;simp only[plc,Kl,Kd] at hc;rcases hc with hc | hc
   ·have:=ZiE hf.1.2 (by omega) (by omega) c hc;simp only[ZdI] at this ⊢;omega
   ·have:=ZiE hf.2 (by omega) (by omega) c hc;simp only[ZdI] at this ⊢;omega
theorem ZfB {ps:List Pane}:∀ {b:BT} {x y w h:Int},Za2 ps b w h=true→1≤w→1≤h→∀ c∈wst b x y w h,ZdI x y w h c
 | .waste,x,y,w,h,hf,h1,h2,c,hc=>by
  simp only[wst,Kz] at hc;subst hc;simp only[ZdI];omega
 | .pane i t,x,y,w,h,hf,h1,h2,c,hc=>by simp[wst] at hc
 | .cut d a l r,x,y,w,h,hf,h1,h2,c,hc=>by
  cases d
  ·simp only[Za2,Kc,Ka,Kn,Kk] at hf;simp only[wst,Ka,Kn,Kd] at hc;rcases hc with hc | hc
   ·have:=ZfB hf.1.2 (by omega) (by omega) c hc;simp only[ZdI] at this ⊢;omega
   ·have:=ZfB hf.2 (by omega) (by omega) c hc;simp only[ZdI] at this ⊢;omega
  ·simp only[Za2,Kc,Kl,Kk] at hf;simp only[wst,Kl,Kd] at hc;rcases hc with hc | hc
   ·have:=ZfB hf.1.2 (by omega) (by omega) c hc;simp only[ZdI] at this ⊢;omega
   ·have:=ZfB hf.2 (by omega) (by omega) c hc;simp only[ZdI] at this ⊢;omega
def V0:List Box→Int
 | []=>0
 | c :: l=>c.W*c.H+V0 l
theorem Zey (a b:List Box):V0 (a++b)=V0 a+V0 b:=by
 induction a with
 | nil=>simp[V0]
 | cons c l ih=>simp only[Kv,V0,ih];omega
theorem Zez {ps:List Pane}:∀ {b:BT} {x y w h:Int},V0 (wst b x y w h)+V0 ((plc b x y w h).map VZ.Box)=w*h
 | .waste,x,y,w,h=>by simp[wst,plc,V0]
 | .pane i t,x,y,w,h=>by simp[wst,plc,V0]
 | .cut d a l r,x,y,w,h=>by
  cases d
  ·have h1:=Zez (ps:=ps) (b:=l) (x:=x) (y:=y) (w:=w) (h:=a);have h2:=Zez (ps:=ps) (b:=r) (x:=x) (y:=y+a) (w:=w) (h:=h-a);have h3:w*(h-a)=w*h-w*a:=Int.mul_sub w h a;simp only[wst,plc,Ka,Kn,Zey,Lc];omega
  ·have h1:=Zez (ps:=ps) (b:=l) (x:=x) (y:=y) (w:=a) (h:=h);have h2:=Zez (ps:=ps) (b:=r) (x:=x+a) (y:=y) (w:=w-a) (h:=h);have h3:(w-a)*h=w*h-a*h:=Int.sub_mul w a h;simp only[wst,plc,Kl,Zey,Lc];omega
theorem Zg9:∀ (b:BT) (x y w h:Int),(wst b x y w h).length≤b.cnt
 | .waste,x,y,w,h=>by simp[wst,BT.cnt]
 | .pane i t,x,y,w,h=>by simp[wst,BT.cnt]
 | .cut d a l r,x,y,w,h=>by
  cases d
  ·have h1:=Zg9 l x y w a;have h2:=Zg9 r x (y+a) w (h-a);simp[wst,BT.cnt];omega
  ·have h1:=Zg9 l x y a h;have h2:=Zg9 r (x+a) y (w-a) h;simp[wst,BT.cnt];omega
theorem Zs8 {k:UA} {p:Ze} {b:BT} (hv:VW k) (hf:Za2 k.Panes b k.W k.H=true):∀ c∈plc b 0 0 k.W k.H,VB c.Box:=by
 intro c hc;obtain⟨h1,h2,h3,h4,_⟩:=hv;have:=ZiE hf h1 h3 c hc;simp only[ZdI] at this;simp only[VB];omega
theorem ZeA {k:UA} {p:Ze} {b:BT} (hv:VW k) (hf:Za2 k.Panes b k.W k.H=true):∀ c∈wst b 0 0 k.W k.H,VB c:=by
 intro c hc;obtain⟨h1,h2,h3,h4,_⟩:=hv;have:=ZfB hf h1 h3 c hc;simp only[ZdI] at this;simp only[VB];omega
def Zr0 (b m:Box):Box:=⟨m.X-b.X,m.Y-b.Y,m.W,m.H⟩
def Zpr (b f:Box):Option Box:=if Zm1 f b then some (Zr0 b (meetB f b)) else none
def cutP (q:X7) (b:Box) (label:Int):X7:=⟨label,b.W,b.H,q.Flaws.filterMap (Zpr b)⟩
theorem Zuz {q:X7} {b:Box} {label:Int} (hq:VPc q) (hb:VB b) (hi:ZbS b ⟨0,0,q.W,q.H⟩) (h1:1≤label) (h2:label≤9999):VPc (cutP q b label):=by
 simp only[VB] at hb;refine⟨⟨h1,h2,?_,?_,?_,?_,LQ (List.length_filterMap_le _ _) hq.1.2.2.2.2.2.2⟩,?_⟩
 ·show 1≤b.W;omega
 ·show b.W≤200;omega
 ·show 1≤b.H;omega
 ·show b.H≤200;omega
 ·intro f hf;obtain⟨g,hg,aa⟩:=List.mem_filterMap.1 hf;have ab:=hq.2 g hg;unfold Zpr at aa;split at aa
  ·rename_i hm;cases aa;simp only[ZiD,VB,ZbS] at ab;simp only[Zm1] at hm;simp only[ZiD,VB,ZbS,Zr0,meetB,cutP];omega
  ·cases aa
def Znf (XB:Int) (b:Box):Option Box:=if XB≤b.W∧XB≤b.H then some b else none
def ZgW (q:X7):Int→List Box→List X7
 | _,[]=>[]
 | n,b :: l=>cutP q b n :: ZgW q (n+1) l
theorem Zgt (q:X7):∀ (n:Int) (a b:List Box),ZgW q n (a++b)=ZgW q n a++ZgW q (n+a.length) b
 | n,[],b=>by simp[ZgW]
 | n,x :: a,b=>by
  simp only[Kv,ZgW,Zgt q (n+1) a b,Km];congr 3
  omega
theorem Zr1 (q:X7):∀ (n:Int) (a:List Box),(ZgW q n a).length=a.length
 | n,[]=>rfl
 | n,x :: a=>by simp[ZgW,Zr1 q (n+1) a]
theorem cutN_take (q:X7) (n:Int) {l:List Box} {i:Nat} {x:Box} (hx:l[i]?=some x):ZgW q n (l.take (i+1))=ZgW q n (l.take i)++[cutP q x (n+i)]:=by
 obtain⟨h1,h2⟩:=Kb.1 hx;rw[Lf h1,h2,Zgt];simp only[ZgW,Lx,Nat.min_eq_left (Nat.le_of_lt h1)]
def Zks (k:UA) (p:Ze) (XB:Int):List Box:=((ZdH k p).filterMap Zex).filterMap (Znf XB)
theorem keptL_in {k:UA} {p:Ze} {XB:Int} (hv:Zne k p=true):∀ b∈Zks k p XB,VB b∧ZbS b ⟨0,0,k.W,k.H⟩:=by
 intro b hb;obtain⟨t,_,_,hw,_,hf,hp⟩:=ZiC hv;unfold Zks at hb;rw[hp,ZfA] at hb;obtain⟨c,hc,aa⟩:=List.mem_filterMap.1 hb;unfold Znf at aa;split at aa
 ·cases aa;refine⟨ZeA (p:=p) hw hf b hc,?_⟩;obtain⟨h1,h2,h3,h4,_⟩:=hw;have:=ZfB hf h1 h3 b hc;simp only[ZdI] at this;simp only[ZbS];omega
 ·cases aa
theorem keptL_len (k:UA) (p:Ze) (XB:Int):(Zks k p XB).length≤255:=by
 unfold Zks;refine LQ (List.length_filterMap_le _ _) (LQ (List.length_filterMap_le _ _) ?_);unfold ZdH;split
 ·split
  ·rename_i h;simp only[Kc,Kk] at h;rw[ZrY];exact h.1.2
  ·simp
 ·simp
def remn (q:X7) (k:UA) (p:Ze) (XB label:Int):List X7:=
 if (VPc q∧ZrZ q k p)∧1≤XB∧XB≤200∧1≤label∧label≤9999∧(Zks k p XB).length≤10000-label then ZgW q label (Zks k p XB) else []
def Zps (XB:Int) (b:Box):Option Box:=if b.W<XB∨b.H<XB then some b else none
def lostL (k:UA) (p:Ze) (XB:Int):List Box:=((ZdH k p).filterMap Zex).filterMap (Zps XB)
theorem Zs9 {b:Box} (h:VB b):0≤b.W*b.H∧b.W*b.H≤40000:=by
 simp only[VB] at h;have h1:0≤b.W*b.H:=Int.mul_nonneg (by omega) (by omega);have h2:b.W*b.H≤200*200:=Int.mul_le_mul (by omega) (by omega) (by omega) (by omega);omega
theorem Zr2:∀ {l:List Box},(∀ b∈l,VB b)→0≤V0 l∧V0 l≤40000*l.length
 | [],_=>by simp[V0]
 | b :: l,h=>by
  have h1:=Zs9 (h b (by simp));have h2:=Zr2 (l:=l) fun c hc=>h c (by simp[hc]);simp only[V0,Km];omega
theorem ZiF (XB:Int):∀ (l:List Box),V0 (l.filterMap (Znf XB))+V0 (l.filterMap (Zps XB))=V0 l
 | []=>by simp[V0]
 | b :: l=>by
  have ih:=ZiF XB l;by_cases h:XB≤b.W∧XB≤b.H
  ·have h' : ¬(b.W<XB∨b.H<XB):=by omega
   simp only[L7,Znf,Zps,Ko h,Kf h',V0];omega
  ·have h' : b.W<XB∨b.H<XB:=by omega
   simp only[L7,Znf,Zps,Kf h,Ko h',V0];omega
theorem wastes_VB {k:UA} {p:Ze} (hv:Zne k p=true):∀ b∈(ZdH k p).filterMap Zex,VB b:=by
 obtain⟨t,_,_,hw,_,hf,hp⟩:=ZiC hv;rw[hp,ZfA];exact ZeA (p:=p) hw hf
attribute [go_sem] ite_self Bool.false_eq_true
end Go.Abs.L
