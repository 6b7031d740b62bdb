/- Own text. -/
import Derived.Test.YtnachaiejoflhaaDoorAbsLib
set_option linter.unusedVariables false
set_option linter.unusedSimpArgs false
namespace Go.Abs.L
open Go Go.Abs Go.Abs.E
inductive BT where
 | waste
 | pane (i:Int) (t:Bool)
 | cut (d:Bool) (a:Int) (l r:BT)
deriving DecidableEq,Inhabited
def Zff (d:Bool):Int:=if d then 2 else 3
def BT.plan:BT→Ze
 | .waste=>.mk 0 0 0 false []
 | .pane i t=>.mk 1 0 i t []
 | .cut d a l r=>.mk (Zff d) a 0 false [l.plan,r.plan]
def BT.cnt:BT→Nat
 | .waste=>1
 | .pane _ _=>1
 | .cut _ _ l r=>1+l.cnt+r.cnt
theorem BT.cnt_pos (b:BT):1≤b.cnt:=by cases b<;>simp[BT.cnt]<;>omega
def Ze.nodes:Ze→Nat
 | .mk _ _ _ _ ks=>1+nodesL ks
where nodesL:List Ze→Nat
 | []=>0
 | p :: r=>Ze.nodes p+nodesL r
def ZaQ (o a p:Int) (t:Bool) (l r:Option BT):Option BT:=match l,r with
 | some x,some y=>if p=0∧t=false then some (.cut (decide (o=2)) a x y) else none
 | _,_=>none
mutual
def QV:Ze→Option BT
 | .mk o a p t ks=>if o=2∨o=3 then ZmQ o a p t ks else
   if ks.length=0∧a=0∧o=1 then some (.pane p t) else
   if ks.length=0∧a=0∧o=0∧p=0∧t=false then some .waste else none
def ZmQ (o a p:Int) (t:Bool):List Ze→Option BT
 | []=>none
 | x :: r=>Zo4 o a p t (QV x) r
def Zo4 (o a p:Int) (t:Bool) (l:Option BT):List Ze→Option BT
 | []=>none
 | y :: r=>match r with
  | []=>ZaQ o a p t l (QV y)
  | _=>none
end
theorem Zij (o a p:Int) (t:Bool) (x y:Ze) (ho:o=2∨o=3):QV (.mk o a p t [x,y])=ZaQ o a p t (QV x) (QV y):=by
 simp[QV,ZmQ,Zo4,ho]
theorem Zfg (o a p:Int) (t:Bool) (ks:List Ze) (ho:o=2∨o=3) (hk:ks.length≠2):QV (.mk o a p t ks)=none:=by
 match ks,hk with
 | [],_=>simp[QV,ZmQ,ho]
 | [x],_=>simp[QV,ZmQ,Zo4,ho]
 | [x,y],h=>simp at h
 | x :: y :: z :: r,_=>simp[QV,ZmQ,Zo4,ho]
theorem XI:∀ b:BT,QV b.plan=some b
 | .waste=>by simp[BT.plan,QV]
 | .pane i t=>by simp[BT.plan,QV]
 | .cut d a l r=>by
  rw[BT.plan,Zij _ _ _ _ _ _ (by cases d<;>simp[Zff]),XI l,XI r];cases d<;>simp[ZaQ,Zff]
theorem ZaR:∀ (n:Nat) (p:Ze) (b:BT),p.nodes≤n→QV p=some b→p=b.plan
 | 0,.mk o a p t ks,b,hn,_=>by simp[Ze.nodes] at hn
 | n+1,.mk o a p t ks,b,hn,h=>by
  by_cases ho:o=2∨o=3
  ·by_cases hk:ks.length=2
   ·match ks,hk with
    | [x,y],_=>
     rw[Zij _ _ _ _ _ _ ho] at h;simp only[Ze.nodes,Ze.nodes.nodesL] at hn;cases hx:QV x with
     | none=>simp[hx,ZaQ] at h
     | some bx=>
      cases hy:QV y with
      | none=>simp[hx,hy,ZaQ] at h
      | some bY=>
       have e1:=ZaR n x bx (by omega) hx;have e2:=ZaR n y bY (by omega) hy;simp only[hx,hy,ZaQ] at h;split at h
       ·rename_i hc;cases h;obtain⟨rfl,rfl⟩:=hc;rw[BT.plan,← e1,← e2];rcases ho with rfl | rfl<;>rfl
       ·cases h
   ·rw[Zfg _ _ _ _ _ ho hk] at h;cases h
  ·simp only[QV,ho,Km] at h;split at h
   ·rename_i hc;cases h;obtain⟨h1,rfl,rfl⟩:=hc;cases ks with
    | nil=>rfl
    | cons x r=>simp at h1
   ·split at h
    ·rename_i hc;cases h;obtain⟨h1,rfl,rfl,rfl,rfl⟩:=hc;cases ks with
     | nil=>rfl
     | cons x r=>simp at h1
    ·cases h
theorem Zcu {p:Ze} {b:BT} (h:QV p=some b):p=b.plan:=ZaR _ p b (Kg _) h
theorem Zj8 {o a p:Int} {t:Bool} {ks:List Ze} {x y:Ze} (ho:o=2∨o=3) (hk:ks.length=2) (h0:ks[0]?=some x) (h1:ks[1]?=some y):QV (.mk o a p t ks)=ZaQ o a p t (QV x) (QV y):=by
 match ks,hk with
 | [x',y'],_=>
  simp at h0 h1;subst h0;subst h1;exact Zij _ _ _ _ _ _ ho
theorem Jb:∀ {ks:List Ze} {i:Nat} {x:Ze},ks[i]?=some x→x.nodes≤Ze.nodes.nodesL ks
 | [],i,x,h=>by simp at h
 | y :: ks,0,x,h=>by simp at h;subst h;simp[Ze.nodes.nodesL]
 | y :: ks,i+1,x,h=>by
  have:=Jb (ks:=ks) (i:=i) (x:=x) (by simpa using h);simp only[Ze.nodes.nodesL];omega
theorem Zae {o a p:Int} {t:Bool} {ks:List Ze} {i:Nat} {x:Ze} {n:Nat} (hn:(Ze.mk o a p t ks).nodes≤n+1) (h:ks[i]?=some x):x.nodes≤n:=by
 have:=Jb h;simp only[Ze.nodes] at hn;omega
theorem Ze.enc_len (x:Ze):(Ze.enc x).cells.length=5:=by
 obtain⟨o,a,p,t,k⟩:=x;rw[Ze.enc_mk];rfl
theorem Ze.enc_agg (x:Ze):D.agg (Ze.enc x).cells=Ze.enc x:=by
 obtain⟨o,a,p,t,k⟩:=x;rw[Ze.enc_mk];rfl
theorem Ze.take_enc (x:Ze):(Ze.enc x).cells.take 5=(Ze.enc x).cells:=Lp (by rw[Ze.enc_len x];omega)
attribute [go_sem] Ze.enc_len Ze.enc_agg Ze.take_enc
theorem Zik {o a p:Int} {t:Bool} {ks:List Ze} (ho:¬(o=2∨o=3)):QV (.mk o a p t ks)=if ks.length=0∧a=0∧o=1 then some (.pane p t) else
   if ks.length=0∧a=0∧o=0∧p=0∧t=false then some .waste else none:=by
 simp only[QV,ho,Km]
def Zn (m:Int):Option BT→Int
 | some b=>if (b.cnt:Int)≤m then (b.cnt:Int) else -1
 | none=>-1
theorem Uz (m:Int) (h0:0≤m) (b:Option BT) : -1≤Zn m b∧Zn m b≤m∧Zn m b≠0:=by
 cases b with
 | none=>simp[Zn];omega
 | some b=>
  have:=b.cnt_pos;simp only[Zn];split<;>omega
theorem Q8 (m:Int) (b:BT):((b.cnt:Int)≤m∧Zn m (some b)=b.cnt)∨(m<(b.cnt:Int)∧Zn m (some b)=-1):=by
 unfold Zn;by_cases h:(b.cnt:Int)≤m
 ·left;exact⟨h,Ko h⟩
 ·right;exact⟨by omega,Kf h⟩
theorem ZaS (m o a p:Int) (t:Bool) (l r:Option BT) (h:¬(p=0∧t=false)):Zn m (ZaQ o a p t l r)=-1:=by
 cases l with
 | none=>rfl
 | some x=>cases r with
  | none=>rfl
  | some y=>simp only[ZaQ,Kf h,Zn]
theorem ZnX (m o a:Int) (l r:Option BT):Zn m (ZaQ o a 0 false l r)=if Zn m l<0∨Zn m r<0∨m<1+Zn m l+Zn m r then -1 else 1+Zn m l+Zn m r:=by
 cases l with
 | none=>simp[ZaQ,Zn]
 | some x=>cases r with
  | none=>simp[ZaQ,Zn]
  | some y=>
   have h1:=x.cnt_pos;have h2:=y.cnt_pos;have e:(BT.cut (decide (o=2)) a x y).cnt=1+x.cnt+y.cnt:=rfl;have e0:ZaQ o a 0 false (some x) (some y)=some (BT.cut (decide (o=2)) a x y):=by simp[ZaQ]
   rw[e0];have hx:=Q8 m x;have hy:=Q8 m y;have hc:=Q8 m (BT.cut (decide (o=2)) a x y);rw[e] at hc;generalize Zn m (some x)=sx at *;generalize Zn m (some y)=sy at *;generalize Zn m (some (BT.cut (decide (o=2)) a x y))=sc at *;split<;>omega
theorem ZmR (m o a:Int) (l r:Option BT):Zn m (ZaQ o a 0 false l r)=if Zn (m-1) l<0∨Zn (m-1-Zn (m-1) l) r<0 then -1 else 1+Zn (m-1) l+Zn (m-1-Zn (m-1) l) r:=by
 cases l with
 | none=>simp[ZaQ,Zn]
 | some x=>cases r with
  | none=>simp[ZaQ,Zn]
  | some y=>
   have h1:=x.cnt_pos;have h2:=y.cnt_pos;have e:(BT.cut (decide (o=2)) a x y).cnt=1+x.cnt+y.cnt:=rfl;have e0:ZaQ o a 0 false (some x) (some y)=some (BT.cut (decide (o=2)) a x y):=by simp[ZaQ]
   rw[e0];have hx:=Q8 (m-1) x;have hy:=Q8 (m-1-Zn (m-1) (some x)) y;have hc:=Q8 m (BT.cut (decide (o=2)) a x y);rw[e] at hc;generalize Zn (m-1-Zn (m-1) (some x)) (some y)=sy at *;generalize Zn (m-1) (some x)=sx at *;generalize Zn m (some (BT.cut (decide (o=2)) a x y))=sc at *;split<;>omega
theorem ZnY {m:Int} (h:m<1) (b:Option BT):Zn m b=-1:=by
 cases b with
 | none=>rfl
 | some b=>
  have:=b.cnt_pos;have:=Q8 m b;omega
def ZmS (ps:List Pane) (i:Int) (t:Bool) (w h:Int):Bool:=decide (0≤i)&&(match ps[i.toNat]? with
 | some q=>if t then q.Turns&&decide (¬q.W=q.H)&&decide (q.H=w)&&decide (q.W=h) else decide (q.W=w∧q.H=h)
 | none=>false)
def ZaT (ps:List Pane):BT→Int→Int→Bool
 | .waste,_,_=>true
 | .pane i t,w,h=>ZmS ps i t w h
 | .cut d a l r,w,h=>if d then decide (1≤a∧a≤w-1)&&ZaT ps l a h&&ZaT ps r (w-a) h
   else decide (1≤a∧a≤h-1)&&ZaT ps l w a&&ZaT ps r w (h-a)
def VPs (ps:List Pane):Prop:=∀ q∈ps,VP q
instance (ps:List Pane):Decidable (VPs ps):=by unfold VPs;infer_instance
def VW (k:Uw):Prop:=1≤k.W∧k.W≤200∧1≤k.H∧k.H≤200∧k.Panes.length≤24∧VPs k.Panes
instance (k:Uw):Decidable (VW k):=by unfold VW;infer_instance
theorem VPs_drop {ps:List Pane} {k:Nat} {x:Pane} (hx:ps[k]?=some x):VPs (ps.drop k)↔VP x∧VPs (ps.drop (k+1)):=by
 obtain⟨h1,h2⟩:=Kc.1 hx;rw[K9 h1,h2];simp[VPs]
end Go.Abs.L
set_option linter.unusedVariables false
set_option linter.unusedSimpArgs false
namespace Go.Abs.L
open Go Go.Abs Go.Abs.E
structure Part where
 plan:Ze
 box:Box
def Part.enc (p:Part):D:=.agg (p.plan.enc.cells++[.int .i64 p.box.X,.int .i64 p.box.Y,.int .i64 p.box.W,.int .i64 p.box.H])
@[go_sem] theorem Part.enc_mk (o a p:Int) (t:Bool) (ks:List Ze) (x y w h:Int):Part.enc ⟨.mk o a p t ks,⟨x,y,w,h⟩⟩ =
  .agg [.int .i64 o,.int .i64 a,.int .i64 p,.bool t,.sl (ks.map Ze.enc),.int .i64 x,.int .i64 y,.int .i64 w,.int .i64 h]:=by
 simp only[Part.enc,Ze.enc_mk];rfl
theorem Part.enc_len (p:Part):(Part.enc p).cells.length=9:=by
 show (p.plan.enc.cells++_).length=9;rw[Kt,Ze.enc_len];rfl
@[go_sem] theorem uni_Part (l:List Part):uni 9 (l.map Part.enc)=True:=eq_true (Ux l Part.enc_len)
def pt:BT→Int→Int→Int→Int→List Part
 | .waste,x,y,w,h=>[⟨BT.waste.plan,⟨x,y,w,h⟩⟩]
 | .pane i t,x,y,w,h=>[⟨(BT.pane i t).plan,⟨x,y,w,h⟩⟩]
 | .cut d a l r,x,y,w,h=>⟨(BT.cut d a l r).plan,⟨x,y,w,h⟩⟩ :: if d then pt l x y a h++pt r (x+a) y (w-a) h else pt l x y w a++pt r x (y+a) w (h-a)
def sp:BT→Int→Int→Int→Int→List VT
 | .waste,x,y,w,h=>[⟨-1,false,⟨x,y,w,h⟩⟩]
 | .pane i t,x,y,w,h=>[⟨i,t,⟨x,y,w,h⟩⟩]
 | .cut d a l r,x,y,w,h=>if d then sp l x y a h++sp r (x+a) y (w-a) h else sp l x y w a++sp r x (y+a) w (h-a)
def plc:BT→Int→Int→Int→Int→List VT
 | .waste,x,y,w,h=>[]
 | .pane i t,x,y,w,h=>[⟨i,t,⟨x,y,w,h⟩⟩]
 | .cut d a l r,x,y,w,h=>if d then plc l x y a h++plc r (x+a) y (w-a) h else plc l x y w a++plc r x (y+a) w (h-a)
def wst:BT→Int→Int→Int→Int→List Box
 | .waste,x,y,w,h=>[⟨x,y,w,h⟩]
 | .pane i t,x,y,w,h=>[]
 | .cut d a l r,x,y,w,h=>if d then wst l x y a h++wst r (x+a) y (w-a) h else wst l x y w a++wst r x (y+a) w (h-a)
def PN:BT→Prop
 | .waste=>True
 | .pane i _=>0≤i
 | .cut _ _ l r=>PN l∧PN r
def opP:Ze→Int
 | .mk o _ _ _ _=>o
def Zlq (q:Part):Option VT:=match q.plan with
 | .mk o _ p t _=>if o=1 then some ⟨p,t,q.box⟩ else none
def Zel (q:Part):Option Box:=match q.plan with
 | .mk o _ _ _ _=>if o=0 then some q.box else none
theorem Zqe:∀ (b:BT) (x y w h:Int),(pt b x y w h).filterMap Zlq=plc b x y w h
 | .waste,x,y,w,h=>rfl
 | .pane i t,x,y,w,h=>rfl
 | .cut d a l r,x,y,w,h=>by
  have e:Zlq ⟨(BT.cut d a l r).plan,⟨x,y,w,h⟩⟩=none:=by cases d<;>rfl
  cases d<;>simp[pt,plc,Ls,LU,e,Zqe]
theorem Zfh:∀ (b:BT) (x y w h:Int),(pt b x y w h).filterMap Zel=wst b x y w h
 | .waste,x,y,w,h=>rfl
 | .pane i t,x,y,w,h=>rfl
 | .cut d a l r,x,y,w,h=>by
  have e:Zel ⟨(BT.cut d a l r).plan,⟨x,y,w,h⟩⟩=none:=by cases d<;>rfl
  cases d<;>simp[pt,wst,Ls,LU,e,Zfh]
def Zo5 (q:VT):Option VT:=if 0≤q.Pane then some q else none
def Zo6 (q:VT):Option Box:=if q.Pane<0 then some q.Box else none
theorem Zj9:∀ (b:BT) (x y w h:Int),PN b→(sp b x y w h).filterMap Zo5=plc b x y w h
 | .waste,x,y,w,h,_=>rfl
 | .pane i t,x,y,w,h,hp=>by
  have hp:0≤i:=hp;simp[sp,plc,Zo5,hp]
 | .cut d a l r,x,y,w,h,hp=>by
  cases d<;>simp[sp,plc,Ls,Zj9 l _ _ _ _ hp.1,Zj9 r _ _ _ _ hp.2]
theorem Zka:∀ (b:BT) (x y w h:Int),PN b→(sp b x y w h).filterMap Zo6=wst b x y w h
 | .waste,x,y,w,h,_=>rfl
 | .pane i t,x,y,w,h,hp=>by
  have hp:¬i<0:=by have:0≤i:=hp;omega
  simp[sp,wst,Zo6,hp]
 | .cut d a l r,x,y,w,h,hp=>by
  cases d<;>simp[sp,wst,Ls,Zka l _ _ _ _ hp.1,Zka r _ _ _ _ hp.2]
theorem ZrF:∀ (b:BT) (x y w h:Int),(pt b x y w h).length=b.cnt
 | .waste,x,y,w,h=>rfl
 | .pane i t,x,y,w,h=>rfl
 | .cut d a l r,x,y,w,h=>by
  cases d<;>simp[pt,BT.cnt,ZrF]<;>omega
theorem Zlr:∀ (b:BT) (x y w h:Int),(sp b x y w h).length≤b.cnt
 | .waste,x,y,w,h=>by simp[sp,BT.cnt]
 | .pane i t,x,y,w,h=>by simp[sp,BT.cnt]
 | .cut d a l r,x,y,w,h=>by
  cases d
  ·have h1:=Zlr l x y w a;have h2:=Zlr r x (y+a) w (h-a);simp[sp,BT.cnt];omega
  ·have h1:=Zlr l x y a h;have h2:=Zlr r (x+a) y (w-a) h;simp[sp,BT.cnt];omega
theorem fm_take {α β:Type} {l:List α} {f:α→Option β} {k:Nat} {x:α} (hx:l[k]?=some x):(l.take (k+1)).filterMap f=(l.take k).filterMap f++(f x).toList:=by
 obtain⟨h1,h2⟩:=Kc.1 hx;rw[K2 h1,h2,Ls];cases hf:f x<;>simp[hf]
theorem ZgN {ps:List Pane}:∀ {b:BT} {w h:Int},ZaT ps b w h=true→PN b
 | .waste,_,_,_=>trivial
 | .pane i t,w,h,hf=>by
  simp only[ZaT,ZmS,Kb,Kj] at hf;exact hf.1
 | .cut d a l r,w,h,hf=>by
  cases d
  ·simp only[ZaT,Kb,Ka,Km] at hf;exact⟨ZgN hf.1.2,ZgN hf.2⟩
  ·simp only[ZaT,Kb,Kk] at hf;exact⟨ZgN hf.1.2,ZgN hf.2⟩
def Zdy (k:Uw) (p:Ze):List Part:=match QV p with
 | some b=>if decide (VW k)&&decide (b.cnt≤255)&&ZaT k.Panes b k.W k.H then pt b 0 0 k.W k.H else []
 | none=>[]
def ZmT (k:Uw) (p:Ze):Bool:=match QV p with
 | some b=>decide (VW k)&&decide (b.cnt≤255)&&ZaT k.Panes b k.W k.H
 | none=>false
theorem Zil {k:Uw} {p:Ze} (h:ZmT k p=true):∃ b,QV p=some b∧p=b.plan∧VW k∧b.cnt≤255∧ZaT k.Panes b k.W k.H=true∧Zdy k p=pt b 0 0 k.W k.H:=by
 have h':=h;unfold ZmT at h;split at h
 ·rename_i b hb;refine⟨b,hb,Zcu hb,?_⟩;unfold Zdy;rw[hb];dsimp only;rw[Ko h];simp only[Kb,Kj] at h;exact⟨h.1.1,h.1.2,h.2,rfl⟩
 ·cases h
theorem all_drop {α:Type} {l:List α} {k:Nat} {x:α} (hx:l[k]?=some x) (P:α→Prop):(∀ y∈l.drop k,P y)↔P x∧∀ y∈l.drop (k+1),P y:=by
 obtain⟨h1,h2⟩:=Kc.1 hx;rw[K9 h1,h2];simp
def Zim (w h:Int) (f:Box):Prop:=VB f∧ZbH f ⟨0,0,w,h⟩
instance (w h:Int) (f:Box):Decidable (Zim w h f):=by unfold Zim;infer_instance
def VPc (q:X4):Prop:=(1≤q.Label∧q.Label≤9999∧1≤q.W∧q.W≤200∧1≤q.H∧q.H≤200∧q.Flaws.length≤6)∧∀ f∈q.Flaws,Zim q.W q.H f
instance (q:X4):Decidable (VPc q):=by unfold VPc;infer_instance
def Zls (fs:List Box) (b:Box):Prop:=∀ f∈fs,¬ZmG f b
instance (fs:List Box) (b:Box):Decidable (Zls fs b):=by unfold Zls;infer_instance
def ZrG (q:X4) (k:Uw) (p:Ze):Prop:=ZmT k p=true∧k.W=q.W∧k.H=q.H∧∀ c∈(Zdy k p).filterMap Zlq,Zls q.Flaws c.Box
instance (q:X4) (k:Uw) (p:Ze):Decidable (ZrG q k p):=by unfold ZrG;infer_instance
def Zdz (x y w h:Int) (c:Box):Prop:=1≤c.W∧1≤c.H∧x≤c.X∧y≤c.Y∧c.X+c.W≤x+w∧c.Y+c.H≤y+h
theorem Zin {ps:List Pane}:∀ {b:BT} {x y w h:Int},ZaT ps b w h=true→1≤w→1≤h→∀ c∈plc b x y w h,Zdz x y w h c.Box
 | .waste,x,y,w,h,hf,h1,h2,c,hc=>by simp[plc] at hc
 | .pane i t,x,y,w,h,hf,h1,h2,c,hc=>by
  simp only[plc,Ky] at hc;subst hc;simp only[Zdz];omega
 | .cut d a l r,x,y,w,h,hf,h1,h2,c,hc=>by
  cases d
  ·simp only[ZaT,Kb,Ka,Km,Kj] at hf;simp only[plc,Ka,Km,Kd] at hc;rcases hc with hc | hc
   ·have:=Zin hf.1.2 (by omega) (by omega) c hc;simp only[Zdz] at this ⊢;omega
   ·have:=Zin hf.2 (by omega) (by omega) c hc;simp only[Zdz] at this ⊢;omega
  ·simp only[ZaT,Kb,Kk,Kj] at hf;simp only[plc,Kk,Kd] at hc;rcases hc with hc | hc
   ·have:=Zin hf.1.2 (by omega) (by omega) c hc;simp only[Zdz] at this ⊢;omega
   ·have:=Zin hf.2 (by omega) (by omega) c hc;simp only[Zdz] at this ⊢;omega
theorem Zfi {ps:List Pane}:∀ {b:BT} {x y w h:Int},ZaT ps b w h=true→1≤w→1≤h→∀ c∈wst b x y w h,Zdz x y w h c
 | .waste,x,y,w,h,hf,h1,h2,c,hc=>by
  simp only[wst,Ky] at hc;subst hc;simp only[Zdz];omega
 | .pane i t,x,y,w,h,hf,h1,h2,c,hc=>by simp[wst] at hc
 | .cut d a l r,x,y,w,h,hf,h1,h2,c,hc=>by
  cases d
  ·simp only[ZaT,Kb,Ka,Km,Kj] at hf;simp only[wst,Ka,Km,Kd] at hc;rcases hc with hc | hc
   ·have:=Zfi hf.1.2 (by omega) (by omega) c hc;simp only[Zdz] at this ⊢;omega
   ·have:=Zfi hf.2 (by omega) (by omega) c hc;simp only[Zdz] at this ⊢;omega
  ·simp only[ZaT,Kb,Kk,Kj] at hf;simp only[wst,Kk,Kd] at hc;rcases hc with hc | hc
   ·have:=Zfi hf.1.2 (by omega) (by omega) c hc;simp only[Zdz] at this ⊢;omega
   ·have:=Zfi hf.2 (by omega) (by omega) c hc;simp only[Zdz] at this ⊢;omega
def VU:List Box→Int
 | []=>0
 | c :: l=>c.W*c.H+VU l
theorem Zem (a b:List Box):VU (a++b)=VU a+VU b:=by
 induction a with
 | nil=>simp[VU]
 | cons c l ih=>simp only[Ku,VU,ih];omega
theorem Zen {ps:List Pane}:∀ {b:BT} {x y w h:Int},VU (wst b x y w h)+VU ((plc b x y w h).map VT.Box)=w*h
 | .waste,x,y,w,h=>by simp[wst,plc,VU]
 | .pane i t,x,y,w,h=>by simp[wst,plc,VU]
 | .cut d a l r,x,y,w,h=>by
  cases d
  ·have h1:=Zen (ps:=ps) (b:=l) (x:=x) (y:=y) (w:=w) (h:=a);have h2:=Zen (ps:=ps) (b:=r) (x:=x) (y:=y+a) (w:=w) (h:=h-a);have h3:w*(h-a)=w*h-w*a:=Int.mul_sub w h a;simp only[wst,plc,Ka,Km,Zem,Li];omega
  ·have h1:=Zen (ps:=ps) (b:=l) (x:=x) (y:=y) (w:=a) (h:=h);have h2:=Zen (ps:=ps) (b:=r) (x:=x+a) (y:=y) (w:=w-a) (h:=h);have h3:(w-a)*h=w*h-a*h:=Int.sub_mul w a h;simp only[wst,plc,Kk,Zem,Li];omega
theorem ZgO:∀ (b:BT) (x y w h:Int),(wst b x y w h).length≤b.cnt
 | .waste,x,y,w,h=>by simp[wst,BT.cnt]
 | .pane i t,x,y,w,h=>by simp[wst,BT.cnt]
 | .cut d a l r,x,y,w,h=>by
  cases d
  ·have h1:=ZgO l x y w a;have h2:=ZgO r x (y+a) w (h-a);simp[wst,BT.cnt];omega
  ·have h1:=ZgO l x y a h;have h2:=ZgO r (x+a) y (w-a) h;simp[wst,BT.cnt];omega
theorem ZsU {k:Uw} {p:Ze} {b:BT} (hv:VW k) (hf:ZaT k.Panes b k.W k.H=true):∀ c∈plc b 0 0 k.W k.H,VB c.Box:=by
 intro c hc;obtain⟨h1,h2,h3,h4,_⟩:=hv;have:=Zin hf h1 h3 c hc;simp only[Zdz] at this;simp only[VB];omega
theorem Zeo {k:Uw} {p:Ze} {b:BT} (hv:VW k) (hf:ZaT k.Panes b k.W k.H=true):∀ c∈wst b 0 0 k.W k.H,VB c:=by
 intro c hc;obtain⟨h1,h2,h3,h4,_⟩:=hv;have:=Zfi hf h1 h3 c hc;simp only[Zdz] at this;simp only[VB];omega
def ZrH (b m:Box):Box:=⟨m.X-b.X,m.Y-b.Y,m.W,m.H⟩
def Zo7 (b f:Box):Option Box:=if ZmG f b then some (ZrH b (meetB f b)) else none
def cutP (q:X4) (b:Box) (label:Int):X4:=⟨label,b.W,b.H,q.Flaws.filterMap (Zo7 b)⟩
theorem Zum {q:X4} {b:Box} {label:Int} (hq:VPc q) (hb:VB b) (hi:ZbH b ⟨0,0,q.W,q.H⟩) (h1:1≤label) (h2:label≤9999):VPc (cutP q b label):=by
 simp only[VB] at hb;refine⟨⟨h1,h2,?_,?_,?_,?_,LF (List.length_filterMap_le _ _) hq.1.2.2.2.2.2.2⟩,?_⟩
 ·show 1≤b.W;omega
 ·show b.W≤200;omega
 ·show 1≤b.H;omega
 ·show b.H≤200;omega
 ·intro f hf;obtain⟨g,hg,aa⟩:=List.mem_filterMap.1 hf;have ab:=hq.2 g hg;unfold Zo7 at aa;split at aa
  ·rename_i hm;cases aa;simp only[Zim,VB,ZbH] at ab;simp only[ZmG] at hm;simp only[Zim,VB,ZbH,ZrH,meetB,cutP];omega
  ·cases aa
def ZmU (Xz:Int) (b:Box):Option Box:=if Xz≤b.W∧Xz≤b.H then some b else none
def ZgB (q:X4):Int→List Box→List X4
 | _,[]=>[]
 | n,b :: l=>cutP q b n :: ZgB q (n+1) l
theorem Zf9 (q:X4):∀ (n:Int) (a b:List Box),ZgB q n (a++b)=ZgB q n a++ZgB q (n+a.length) b
 | n,[],b=>by simp[ZgB]
 | n,x :: a,b=>by
  simp only[Ku,ZgB,Zf9 q (n+1) a b,Kn];congr 3
  omega
theorem ZrI (q:X4):∀ (n:Int) (a:List Box),(ZgB q n a).length=a.length
 | n,[]=>rfl
 | n,x :: a=>by simp[ZgB,ZrI q (n+1) a]
theorem cutN_take (q:X4) (n:Int) {l:List Box} {i:Nat} {x:Box} (hx:l[i]?=some x):ZgB q n (l.take (i+1))=ZgB q n (l.take i)++[cutP q x (n+i)]:=by
 obtain⟨h1,h2⟩:=Kc.1 hx;rw[K2 h1,h2,Zf9];simp only[ZgB,Lm,Nat.min_eq_left (Nat.le_of_lt h1)]
def Zkb (k:Uw) (p:Ze) (Xz:Int):List Box:=((Zdy k p).filterMap Zel).filterMap (ZmU Xz)
theorem keptL_in {k:Uw} {p:Ze} {Xz:Int} (hv:ZmT k p=true):∀ b∈Zkb k p Xz,VB b∧ZbH b ⟨0,0,k.W,k.H⟩:=by
 intro b hb;obtain⟨t,_,_,hw,_,hf,hp⟩:=Zil hv;unfold Zkb at hb;rw[hp,Zfh] at hb;obtain⟨c,hc,aa⟩:=List.mem_filterMap.1 hb;unfold ZmU at aa;split at aa
 ·cases aa;refine⟨Zeo (p:=p) hw hf b hc,?_⟩;obtain⟨h1,h2,h3,h4,_⟩:=hw;have:=Zfi hf h1 h3 b hc;simp only[Zdz] at this;simp only[ZbH];omega
 ·cases aa
theorem keptL_len (k:Uw) (p:Ze) (Xz:Int):(Zkb k p Xz).length≤255:=by
 unfold Zkb;refine LF (List.length_filterMap_le _ _) (LF (List.length_filterMap_le _ _) ?_);unfold Zdy;split
 ·split
  ·rename_i h;simp only[Kb,Kj] at h;rw[ZrF];exact h.1.2
  ·simp
 ·simp
def remn (q:X4) (k:Uw) (p:Ze) (Xz label:Int):List X4:=
 if (VPc q∧ZrG q k p)∧1≤Xz∧Xz≤200∧1≤label∧label≤9999∧(Zkb k p Xz).length≤10000-label then ZgB q label (Zkb k p Xz) else []
def Zo8 (Xz:Int) (b:Box):Option Box:=if b.W<Xz∨b.H<Xz then some b else none
def lostL (k:Uw) (p:Ze) (Xz:Int):List Box:=((Zdy k p).filterMap Zel).filterMap (Zo8 Xz)
theorem ZsV {b:Box} (h:VB b):0≤b.W*b.H∧b.W*b.H≤40000:=by
 simp only[VB] at h;have h1:0≤b.W*b.H:=Int.mul_nonneg (by omega) (by omega);have h2:b.W*b.H≤200*200:=Int.mul_le_mul (by omega) (by omega) (by omega) (by omega);omega
theorem ZrJ:∀ {l:List Box},(∀ b∈l,VB b)→0≤VU l∧VU l≤40000*l.length
 | [],_=>by simp[VU]
 | b :: l,h=>by
  have h1:=ZsV (h b (by simp));have h2:=ZrJ (l:=l) fun c hc=>h c (by simp[hc]);simp only[VU,Kn];omega
theorem Zio (Xz:Int):∀ (l:List Box),VU (l.filterMap (ZmU Xz))+VU (l.filterMap (Zo8 Xz))=VU l
 | []=>by simp[VU]
 | b :: l=>by
  have ih:=Zio Xz l;by_cases h:Xz≤b.W∧Xz≤b.H
  ·have h' : ¬(b.W<Xz∨b.H<Xz):=by omega
   simp only[LU,ZmU,Zo8,Ko h,Kf h',VU];omega
  ·have h' : b.W<Xz∨b.H<Xz:=by omega
   simp only[LU,ZmU,Zo8,Kf h,Ko h',VU];omega
theorem wastes_VB {k:Uw} {p:Ze} (hv:ZmT k p=true):∀ b∈(Zdy k p).filterMap Zel,VB b:=by
 obtain⟨t,_,_,hw,_,hf,hp⟩:=Zil hv;rw[hp,Zfh];exact Zeo (p:=p) hw hf
attribute [go_sem] ite_self Bool.false_eq_true
end Go.Abs.L
