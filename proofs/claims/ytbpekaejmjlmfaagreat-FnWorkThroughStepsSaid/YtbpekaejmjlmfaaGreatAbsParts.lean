/- Own text. -/
import Derived.Test.YtbpekaejmjlmfaaGreatAbsLib
set_option linter.unusedVariables false
set_option linter.unusedSimpArgs false
namespace Go.Abs.L
open Go Go.Abs Go.Abs.E
inductive BT where
 | waste
 | pane (i:Int) (t:Bool)
 | cut (d:Bool) (a:Int) (l r:BT)
deriving DecidableEq,Inhabited
def Z9 (d:Bool):Int:=if d then 2 else 3
def BT.plan:BT→Ze
 | .waste=>.mk 0 0 0 false []
 | .pane i t=>.mk 1 0 i t []
 | .cut d a l r=>.mk (Z9 d) a 0 false [l.plan,r.plan]
def BT.cnt:BT→Nat
 | .waste=>1
 | .pane _ _=>1
 | .cut _ _ l r=>1+l.cnt+r.cnt
theorem BT.cnt_pos (b:BT):1≤b.cnt:=by cases b<;>simp[BT.cnt]<;>omega
def Ze.nodes:Ze→Nat
 | .mk _ _ _ _ ks=>1+nodesL ks
where nodesL:List Ze→Nat
 | []=>0
 | p :: r=>Ze.nodes p+nodesL r
def Zgu (o a p:Int) (t:Bool) (l r:Option BT):Option BT:=match l,r with
 | some x,some y=>if p=0∧t=false then some (.cut (decide (o=2)) a x y) else none
 | _,_=>none
mutual
def Xz:Ze→Option BT
 | .mk o a p t ks=>if o=2∨o=3 then ZwW o a p t ks else
   if ks.length=0∧a=0∧o=1 then some (.pane p t) else
   if ks.length=0∧a=0∧o=0∧p=0∧t=false then some .waste else none
def ZwW (o a p:Int) (t:Bool):List Ze→Option BT
 | []=>none
 | x :: r=>Zzo o a p t (Xz x) r
def Zzo (o a p:Int) (t:Bool) (l:Option BT):List Ze→Option BT
 | []=>none
 | y :: r=>match r with
  | []=>Zgu o a p t l (Xz y)
  | _=>none
end
theorem ZqS (o a p:Int) (t:Bool) (x y:Ze) (ho:o=2∨o=3):Xz (.mk o a p t [x,y])=Zgu o a p t (Xz x) (Xz y):=by
 simp[Xz,ZwW,Zzo,ho]
theorem Zmg (o a p:Int) (t:Bool) (ks:List Ze) (ho:o=2∨o=3) (hk:ks.length≠2):Xz (.mk o a p t ks)=none:=by
 match ks,hk with
 | [],_=>simp[Xz,ZwW,ho]
 | [x],_=>simp[Xz,ZwW,Zzo,ho]
 | [x,y],h=>simp at h
 | x :: y :: z :: r,_=>simp[Xz,ZwW,Zzo,ho]
theorem XA:∀ b:BT,Xz b.plan=some b
 | .waste=>by simp[BT.plan,Xz]
 | .pane i t=>by simp[BT.plan,Xz]
 | .cut d a l r=>by
  rw[BT.plan,ZqS _ _ _ _ _ _ (by cases d<;>simp[Z9]),XA l,XA r];cases d<;>simp[Zgu,Z9]
theorem Zgv:∀ (n:Nat) (p:Ze) (b:BT),p.nodes≤n→Xz p=some b→p=b.plan
 | 0,.mk o a p t ks,b,hn,_=>by simp[Ze.nodes] at hn
 | n+1,.mk o a p t ks,b,hn,h=>by
  by_cases ho:o=2∨o=3
  ·by_cases hk:ks.length=2
   ·match ks,hk with
    | [x,y],_=>
     rw[ZqS _ _ _ _ _ _ ho] at h;simp only[Ze.nodes,Ze.nodes.nodesL] at hn;cases hx:Xz x with
     | none=>simp[hx,Zgu] at h
     | some bx=>
      cases hy:Xz y with
      | none=>simp[hx,hy,Zgu] at h
      | some bY=>
       have e1:=Zgv n x bx (by omega) hx;have e2:=Zgv n y bY (by omega) hy;simp only[hx,hy,Zgu] at h;split at h
       ·rename_i hc;cases h;obtain⟨rfl,rfl⟩:=hc;rw[BT.plan,← e1,← e2];rcases ho with rfl | rfl<;>rfl
       ·cases h
   ·rw[Zmg _ _ _ _ _ ho hk] at h;cases h
  ·simp only[Xz,ho,Kj] at h;split at h
   ·rename_i hc;cases h;obtain⟨h1,rfl,rfl⟩:=hc;cases ks with
    | nil=>rfl
    | cons x r=>simp at h1
   ·split at h
    ·rename_i hc;cases h;obtain⟨h1,rfl,rfl,rfl,rfl⟩:=hc;cases ks with
     | nil=>rfl
     | cons x r=>simp at h1
    ·cases h
theorem ZcO {p:Ze} {b:BT} (h:Xz p=some b):p=b.plan:=Zgv _ p b (Kq _) h
theorem ZtB {o a p:Int} {t:Bool} {ks:List Ze} {x y:Ze} (ho:o=2∨o=3) (hk:ks.length=2) (h0:ks[0]?=some x) (h1:ks[1]?=some y):Xz (.mk o a p t ks)=Zgu o a p t (Xz x) (Xz y):=by
 match ks,hk with
 | [x',y'],_=>
  simp at h0 h1;subst h0;subst h1;exact ZqS _ _ _ _ _ _ ho
theorem ZqT:∀ {ks:List Ze} {i:Nat} {x:Ze},ks[i]?=some x→x.nodes≤Ze.nodes.nodesL ks
 | [],i,x,h=>by simp at h
 | y :: ks,0,x,h=>by simp at h;subst h;simp[Ze.nodes.nodesL]
 | y :: ks,i+1,x,h=>by
  have:=ZqT (ks:=ks) (i:=i) (x:=x) (by simpa using h);simp only[Ze.nodes.nodesL];omega
theorem ZiF {o a p:Int} {t:Bool} {ks:List Ze} {i:Nat} {x:Ze} {n:Nat} (hn:(Ze.mk o a p t ks).nodes≤n+1) (h:ks[i]?=some x):x.nodes≤n:=by
 have:=ZqT h;simp only[Ze.nodes] at hn;omega
theorem Ze.enc_len (x:Ze):(Ze.enc x).cells.length=5:=by
 obtain⟨o,a,p,t,k⟩:=x;rw[Ze.enc_mk];rfl
theorem Ze.enc_agg (x:Ze):D.agg (Ze.enc x).cells=Ze.enc x:=by
 obtain⟨o,a,p,t,k⟩:=x;rw[Ze.enc_mk];rfl
theorem Ze.take_enc (x:Ze):(Ze.enc x).cells.take 5=(Ze.enc x).cells:=KB (by rw[Ze.enc_len x];omega)
attribute [go_sem] Ze.enc_len Ze.enc_agg Ze.take_enc
theorem ZqU {o a p:Int} {t:Bool} {ks:List Ze} (ho:¬(o=2∨o=3)):Xz (.mk o a p t ks)=if ks.length=0∧a=0∧o=1 then some (.pane p t) else
   if ks.length=0∧a=0∧o=0∧p=0∧t=false then some .waste else none:=by
 simp only[Xz,ho,Kj]
def Zu (m:Int):Option BT→Int
 | some b=>if (b.cnt:Int)≤m then (b.cnt:Int) else -1
 | none=>-1
theorem ZcC (m:Int) (h0:0≤m) (b:Option BT) : -1≤Zu m b∧Zu m b≤m∧Zu m b≠0:=by
 cases b with
 | none=>simp[Zu];omega
 | some b=>
  have:=b.cnt_pos;simp only[Zu];split<;>omega
theorem Ql (m:Int) (b:BT):((b.cnt:Int)≤m∧Zu m (some b)=b.cnt)∨(m<(b.cnt:Int)∧Zu m (some b)=-1):=by
 unfold Zu;by_cases h:(b.cnt:Int)≤m
 ·left;exact⟨h,Kl h⟩
 ·right;exact⟨by omega,Ki h⟩
theorem Zgw (m o a p:Int) (t:Bool) (l r:Option BT) (h:¬(p=0∧t=false)):Zu m (Zgu o a p t l r)=-1:=by
 cases l with
 | none=>rfl
 | some x=>cases r with
  | none=>rfl
  | some y=>simp only[Zgu,Ki h,Zu]
theorem Zyj (m o a:Int) (l r:Option BT):Zu m (Zgu o a 0 false l r)=if Zu m l<0∨Zu m r<0∨m<1+Zu m l+Zu m r then -1 else 1+Zu m l+Zu m r:=by
 cases l with
 | none=>simp[Zgu,Zu]
 | some x=>cases r with
  | none=>simp[Zgu,Zu]
  | some y=>
   have h1:=x.cnt_pos;have h2:=y.cnt_pos;have e:(BT.cut (decide (o=2)) a x y).cnt=1+x.cnt+y.cnt:=rfl;have e0:Zgu o a 0 false (some x) (some y)=some (BT.cut (decide (o=2)) a x y):=by simp[Zgu]
   rw[e0];have hx:=Ql m x;have hy:=Ql m y;have hc:=Ql m (BT.cut (decide (o=2)) a x y);rw[e] at hc;generalize Zu m (some x)=sx at *;generalize Zu m (some y)=sy at *;generalize Zu m (some (BT.cut (decide (o=2)) a x y))=sc at *;split<;>omega
theorem ZwX (m o a:Int) (l r:Option BT):Zu m (Zgu o a 0 false l r)=if Zu (m-1) l<0∨Zu (m-1-Zu (m-1) l) r<0 then -1 else 1+Zu (m-1) l+Zu (m-1-Zu (m-1) l) r:=by
 cases l with
 | none=>simp[Zgu,Zu]
 | some x=>cases r with
  | none=>simp[Zgu,Zu]
  | some y=>
   have h1:=x.cnt_pos;have h2:=y.cnt_pos;have e:(BT.cut (decide (o=2)) a x y).cnt=1+x.cnt+y.cnt:=rfl;have e0:Zgu o a 0 false (some x) (some y)=some (BT.cut (decide (o=2)) a x y):=by simp[Zgu]
   rw[e0];have hx:=Ql (m-1) x;have hy:=Ql (m-1-Zu (m-1) (some x)) y;have hc:=Ql m (BT.cut (decide (o=2)) a x y);rw[e] at hc;generalize Zu (m-1-Zu (m-1) (some x)) (some y)=sy at *;generalize Zu (m-1) (some x)=sx at *;generalize Zu m (some (BT.cut (decide (o=2)) a x y))=sc at *;split<;>omega
theorem Zyk {m:Int} (h:m<1) (b:Option BT):Zu m b=-1:=by
 cases b with
 | none=>rfl
 | some b=>
  have:=b.cnt_pos;have:=Ql m b;omega
def Yc (ps:List Pane) (i:Int) (t:Bool) (w h:Int):Bool:=decide (0≤i)&&(match ps[i.toNat]? with
 | some q=>if t then q.Turns&&decide (¬q.W=q.H)&&decide (q.H=w)&&decide (q.W=h) else decide (q.W=w∧q.H=h)
 | none=>false)
def QF (ps:List Pane):BT→Int→Int→Bool
 | .waste,_,_=>true
 | .pane i t,w,h=>Yc ps i t w h
 | .cut d a l r,w,h=>if d then decide (1≤a∧a≤w-1)&&QF ps l a h&&QF ps r (w-a) h
   else decide (1≤a∧a≤h-1)&&QF ps l w a&&QF ps r w (h-a)
def VPs (ps:List Pane):Prop:=∀ q∈ps,VP q
instance (ps:List Pane):Decidable (VPs ps):=by unfold VPs;infer_instance
def VW (k:Zs):Prop:=1≤k.W∧k.W≤200∧1≤k.H∧k.H≤200∧k.Panes.length≤24∧VPs k.Panes
instance (k:Zs):Decidable (VW k):=by unfold VW;infer_instance
theorem ZwY {ps:List Pane} {k:Nat} {x:Pane} (hx:ps[k]?=some x):VPs (ps.drop k)↔VP x∧VPs (ps.drop (k+1)):=by
 obtain⟨h1,h2⟩:=Kc.1 hx;rw[Ku h1,h2];simp[VPs]
end Go.Abs.L
set_option linter.unusedVariables false
set_option linter.unusedSimpArgs false
namespace Go.Abs.L
open Go Go.Abs Go.Abs.E
structure Part where
 plan:Ze
 box:Box
def Part.enc (p:Part):D:=.agg (p.plan.enc.cells++[.int .i64 p.box.X,.int .i64 p.box.Y,.int .i64 p.box.W,.int .i64 p.box.H])
@[go_sem] theorem Part.enc_mk (o a p:Int) (t:Bool) (ks:List Ze) (x y w h:Int):Part.enc ⟨.mk o a p t ks,⟨x,y,w,h⟩⟩ =
  .agg [.int .i64 o,.int .i64 a,.int .i64 p,.bool t,.sl (ks.map Ze.enc),.int .i64 x,.int .i64 y,.int .i64 w,.int .i64 h]:=by
 simp only[Part.enc,Ze.enc_mk];rfl
theorem Part.enc_len (p:Part):(Part.enc p).cells.length=9:=by
 show (p.plan.enc.cells++_).length=9;rw[Kp,Ze.enc_len];rfl
@[go_sem] theorem uni_Part (l:List Part):uni 9 (l.map Part.enc)=True:=eq_true (ZaT l Part.enc_len)
def pt:BT→Int→Int→Int→Int→List Part
 | .waste,x,y,w,h=>[⟨BT.waste.plan,⟨x,y,w,h⟩⟩]
 | .pane i t,x,y,w,h=>[⟨(BT.pane i t).plan,⟨x,y,w,h⟩⟩]
 | .cut d a l r,x,y,w,h=>⟨(BT.cut d a l r).plan,⟨x,y,w,h⟩⟩ :: if d then pt l x y a h++pt r (x+a) y (w-a) h else pt l x y w a++pt r x (y+a) w (h-a)
def sp:BT→Int→Int→Int→Int→List Place
 | .waste,x,y,w,h=>[⟨-1,false,⟨x,y,w,h⟩⟩]
 | .pane i t,x,y,w,h=>[⟨i,t,⟨x,y,w,h⟩⟩]
 | .cut d a l r,x,y,w,h=>if d then sp l x y a h++sp r (x+a) y (w-a) h else sp l x y w a++sp r x (y+a) w (h-a)
def plc:BT→Int→Int→Int→Int→List Place
 | .waste,x,y,w,h=>[]
 | .pane i t,x,y,w,h=>[⟨i,t,⟨x,y,w,h⟩⟩]
 | .cut d a l r,x,y,w,h=>if d then plc l x y a h++plc r (x+a) y (w-a) h else plc l x y w a++plc r x (y+a) w (h-a)
def wst:BT→Int→Int→Int→Int→List Box
 | .waste,x,y,w,h=>[⟨x,y,w,h⟩]
 | .pane i t,x,y,w,h=>[]
 | .cut d a l r,x,y,w,h=>if d then wst l x y a h++wst r (x+a) y (w-a) h else wst l x y w a++wst r x (y+a) w (h-a)
def PN:BT→Prop
 | .waste=>True
 | .pane i _=>0≤i
 | .cut _ _ l r=>PN l∧PN r
def opP:Ze→Int
 | .mk o _ _ _ _=>o
def Q8 (q:Part):Option Place:=match q.plan with
 | .mk o _ p t _=>if o=1 then some ⟨p,t,q.box⟩ else none
def X7 (q:Part):Option Box:=match q.plan with
 | .mk o _ _ _ _=>if o=0 then some q.box else none
theorem YR:∀ (b:BT) (x y w h:Int),(pt b x y w h).filterMap Q8=plc b x y w h
 | .waste,x,y,w,h=>rfl
 | .pane i t,x,y,w,h=>rfl
 | .cut d a l r,x,y,w,h=>by
  have e:Q8 ⟨(BT.cut d a l r).plan,⟨x,y,w,h⟩⟩=none:=by cases d<;>rfl
  cases d<;>simp[pt,plc,Lq,Le,e,YR]
theorem Zfr:∀ (b:BT) (x y w h:Int),(pt b x y w h).filterMap X7=wst b x y w h
 | .waste,x,y,w,h=>rfl
 | .pane i t,x,y,w,h=>rfl
 | .cut d a l r,x,y,w,h=>by
  have e:X7 ⟨(BT.cut d a l r).plan,⟨x,y,w,h⟩⟩=none:=by cases d<;>rfl
  cases d<;>simp[pt,wst,Lq,Le,e,Zfr]
def Zej (q:Place):Option Place:=if 0≤q.Pane then some q else none
def Zek (q:Place):Option Box:=if q.Pane<0 then some q.Box else none
theorem Zmh:∀ (b:BT) (x y w h:Int),PN b→(sp b x y w h).filterMap Zej=plc b x y w h
 | .waste,x,y,w,h,_=>rfl
 | .pane i t,x,y,w,h,hp=>by
  have hp:0≤i:=hp;simp[sp,plc,Zej,hp]
 | .cut d a l r,x,y,w,h,hp=>by
  cases d<;>simp[sp,plc,Lq,Zmh l _ _ _ _ hp.1,Zmh r _ _ _ _ hp.2]
theorem Zmi:∀ (b:BT) (x y w h:Int),PN b→(sp b x y w h).filterMap Zek=wst b x y w h
 | .waste,x,y,w,h,_=>rfl
 | .pane i t,x,y,w,h,hp=>by
  have hp:¬i<0:=by have:0≤i:=hp;omega
  simp[sp,wst,Zek,hp]
 | .cut d a l r,x,y,w,h,hp=>by
  cases d<;>simp[sp,wst,Lq,Zmi l _ _ _ _ hp.1,Zmi r _ _ _ _ hp.2]
theorem WD:∀ (b:BT) (x y w h:Int),(pt b x y w h).length=b.cnt
 | .waste,x,y,w,h=>rfl
 | .pane i t,x,y,w,h=>rfl
 | .cut d a l r,x,y,w,h=>by
  cases d<;>simp[pt,BT.cnt,WD]<;>omega
theorem ZeZ:∀ (b:BT) (x y w h:Int),(sp b x y w h).length≤b.cnt
 | .waste,x,y,w,h=>by simp[sp,BT.cnt]
 | .pane i t,x,y,w,h=>by simp[sp,BT.cnt]
 | .cut d a l r,x,y,w,h=>by
  cases d
  ·have h1:=ZeZ l x y w a;have h2:=ZeZ r x (y+a) w (h-a);simp[sp,BT.cnt];omega
  ·have h1:=ZeZ l x y a h;have h2:=ZeZ r (x+a) y (w-a) h;simp[sp,BT.cnt];omega
theorem Za1 {α β:Type} {l:List α} {f:α→Option β} {k:Nat} {x:α} (hx:l[k]?=some x):(l.take (k+1)).filterMap f=(l.take k).filterMap f++(f x).toList:=by
 obtain⟨h1,h2⟩:=Kc.1 hx;rw[List.take_succ_eq_append_getElem h1,h2,Lq];cases hf:f x<;>simp[hf]
theorem ZiG {ps:List Pane}:∀ {b:BT} {w h:Int},QF ps b w h=true→PN b
 | .waste,_,_,_=>trivial
 | .pane i t,w,h,hf=>by
  simp only[QF,Yc,Kd,Kr] at hf;exact hf.1
 | .cut d a l r,w,h,hf=>by
  cases d
  ·simp only[QF,Kd,Ka,Kj] at hf;exact⟨ZiG hf.1.2,ZiG hf.2⟩
  ·simp only[QF,Kd,Kk] at hf;exact⟨ZiG hf.1.2,ZiG hf.2⟩
def ZU (k:Zs) (p:Ze):List Part:=match Xz p with
 | some b=>if decide (VW k)&&decide (b.cnt≤255)&&QF k.Panes b k.W k.H then pt b 0 0 k.W k.H else []
 | none=>[]
def Q6 (k:Zs) (p:Ze):Bool:=match Xz p with
 | some b=>decide (VW k)&&decide (b.cnt≤255)&&QF k.Panes b k.W k.H
 | none=>false
theorem QR {k:Zs} {p:Ze} (h:Q6 k p=true):∃ b,Xz p=some b∧p=b.plan∧VW k∧b.cnt≤255∧QF k.Panes b k.W k.H=true∧ZU k p=pt b 0 0 k.W k.H:=by
 have h':=h;unfold Q6 at h;split at h
 ·rename_i b hb;refine⟨b,hb,ZcO hb,?_⟩;unfold ZU;rw[hb];dsimp only;rw[Kl h];simp only[Kd,Kr] at h;exact⟨h.1.1,h.1.2,h.2,rfl⟩
 ·cases h
theorem Zfs {α:Type} {l:List α} {k:Nat} {x:α} (hx:l[k]?=some x) (P:α→Prop):(∀ y∈l.drop k,P y)↔P x∧∀ y∈l.drop (k+1),P y:=by
 obtain⟨h1,h2⟩:=Kc.1 hx;rw[Ku h1,h2];simp
def ZdL (w h:Int) (f:Box):Prop:=VB f∧ZT f ⟨0,0,w,h⟩
instance (w h:Int) (f:Box):Decidable (ZdL w h f):=by unfold ZdL;infer_instance
def VPc (q:Zb):Prop:=(1≤q.Label∧q.Label≤9999∧1≤q.W∧q.W≤200∧1≤q.H∧q.H≤200∧q.Flaws.length≤6)∧∀ f∈q.Flaws,ZdL q.W q.H f
instance (q:Zb):Decidable (VPc q):=by unfold VPc;infer_instance
def Qd (fs:List Box) (b:Box):Prop:=∀ f∈fs,¬Xu f b
instance (fs:List Box) (b:Box):Decidable (Qd fs b):=by unfold Qd;infer_instance
def VQ (q:Zb) (k:Zs) (p:Ze):Prop:=Q6 k p=true∧k.W=q.W∧k.H=q.H∧∀ c∈(ZU k p).filterMap Q8,Qd q.Flaws c.Box
instance (q:Zb) (k:Zs) (p:Ze):Decidable (VQ q k p):=by unfold VQ;infer_instance
def ZjW (x y w h:Int) (c:Box):Prop:=1≤c.W∧1≤c.H∧x≤c.X∧y≤c.Y∧c.X+c.W≤x+w∧c.Y+c.H≤y+h
theorem ZqV {ps:List Pane}:∀ {b:BT} {x y w h:Int},QF ps b w h=true→1≤w→1≤h→∀ c∈plc b x y w h,ZjW x y w h c.Box
 | .waste,x,y,w,h,hf,h1,h2,c,hc=>by simp[plc] at hc
 | .pane i t,x,y,w,h,hf,h1,h2,c,hc=>by
  simp only[plc,KH] at hc;subst hc;simp only[ZjW];omega
 | .cut d a l r,x,y,w,h,hf,h1,h2,c,hc=>by
  cases d
  ·simp only[QF,Kd,Ka,Kj,Kr] at hf;simp only[plc,Ka,Kj,Kf] at hc;rcases hc with hc | hc
   ·have:=ZqV hf.1.2 (by omega) (by omega) c hc;simp only[ZjW] at this ⊢;omega
   ·have:=ZqV hf.2 (by omega) (by omega) c hc;simp only[ZjW] at this ⊢;omega
  ·simp only[QF,Kd,Kk,Kr] at hf;simp only[plc,Kk,Kf] at hc;rcases hc with hc | hc
   ·have:=ZqV hf.1.2 (by omega) (by omega) c hc;simp only[ZjW] at this ⊢;omega
   ·have:=ZqV hf.2 (by omega) (by omega) c hc;simp only[ZjW] at this ⊢;omega
theorem Zmj {ps:List Pane}:∀ {b:BT} {x y w h:Int},QF ps b w h=true→1≤w→1≤h→∀ c∈wst b x y w h,ZjW x y w h c
 | .waste,x,y,w,h,hf,h1,h2,c,hc=>by
  simp only[wst,KH] at hc;subst hc;simp only[ZjW];omega
 | .pane i t,x,y,w,h,hf,h1,h2,c,hc=>by simp[wst] at hc
 | .cut d a l r,x,y,w,h,hf,h1,h2,c,hc=>by
  cases d
  ·simp only[QF,Kd,Ka,Kj,Kr] at hf;simp only[wst,Ka,Kj,Kf] at hc;rcases hc with hc | hc
   ·have:=Zmj hf.1.2 (by omega) (by omega) c hc;simp only[ZjW] at this ⊢;omega
   ·have:=Zmj hf.2 (by omega) (by omega) c hc;simp only[ZjW] at this ⊢;omega
  ·simp only[QF,Kd,Kk,Kr] at hf;simp only[wst,Kk,Kf] at hc;rcases hc with hc | hc
   ·have:=Zmj hf.1.2 (by omega) (by omega) c hc;simp only[ZjW] at this ⊢;omega
   ·have:=Zmj hf.2 (by omega) (by omega) c hc;simp only[ZjW] at this ⊢;omega
def QT:List Box→Int
 | []=>0
 | c :: l=>c.W*c.H+QT l
theorem UP (a b:List Box):QT (a++b)=QT a+QT b:=by
 induction a with
 | nil=>simp[QT]
 | cons c l ih=>simp only[KK,QT,ih];omega
theorem ZhU {ps:List Pane}:∀ {b:BT} {x y w h:Int},QT (wst b x y w h)+QT ((plc b x y w h).map Place.Box)=w*h
 | .waste,x,y,w,h=>by simp[wst,plc,QT]
 | .pane i t,x,y,w,h=>by simp[wst,plc,QT]
 | .cut d a l r,x,y,w,h=>by
  cases d
  ·have h1:=ZhU (ps:=ps) (b:=l) (x:=x) (y:=y) (w:=w) (h:=a);have h2:=ZhU (ps:=ps) (b:=r) (x:=x) (y:=y+a) (w:=w) (h:=h-a);have h3:w*(h-a)=w*h-w*a:=Int.mul_sub w h a;simp only[wst,plc,Ka,Kj,UP,KG];omega
  ·have h1:=ZhU (ps:=ps) (b:=l) (x:=x) (y:=y) (w:=a) (h:=h);have h2:=ZhU (ps:=ps) (b:=r) (x:=x+a) (y:=y) (w:=w-a) (h:=h);have h3:(w-a)*h=w*h-a*h:=Int.sub_mul w a h;simp only[wst,plc,Kk,UP,KG];omega
theorem Zov:∀ (b:BT) (x y w h:Int),(wst b x y w h).length≤b.cnt
 | .waste,x,y,w,h=>by simp[wst,BT.cnt]
 | .pane i t,x,y,w,h=>by simp[wst,BT.cnt]
 | .cut d a l r,x,y,w,h=>by
  cases d
  ·have h1:=Zov l x y w a;have h2:=Zov r x (y+a) w (h-a);simp[wst,BT.cnt];omega
  ·have h1:=Zov l x y a h;have h2:=Zov r (x+a) y (w-a) h;simp[wst,BT.cnt];omega
theorem Zk4 {k:Zs} {p:Ze} {b:BT} (hv:VW k) (hf:QF k.Panes b k.W k.H=true):∀ c∈plc b 0 0 k.W k.H,VB c.Box:=by
 intro c hc;obtain⟨h1,h2,h3,h4,_⟩:=hv;have:=ZqV hf h1 h3 c hc;simp only[ZjW] at this;simp only[VB];omega
theorem Zk5 {k:Zs} {p:Ze} {b:BT} (hv:VW k) (hf:QF k.Panes b k.W k.H=true):∀ c∈wst b 0 0 k.W k.H,VB c:=by
 intro c hc;obtain⟨h1,h2,h3,h4,_⟩:=hv;have:=Zmj hf h1 h3 c hc;simp only[ZjW] at this;simp only[VB];omega
def Zu5 (b m:Box):Box:=⟨m.X-b.X,m.Y-b.Y,m.W,m.H⟩
def YY (b f:Box):Option Box:=if Xu f b then some (Zu5 b (ZgX f b)) else none
def Zmk (q:Zb) (b:Box) (label:Int):Zb:=⟨label,b.W,b.H,q.Flaws.filterMap (YY b)⟩
theorem Zyl {q:Zb} {b:Box} {label:Int} (hq:VPc q) (hb:VB b) (hi:ZT b ⟨0,0,q.W,q.H⟩) (h1:1≤label) (h2:label≤9999):VPc (Zmk q b label):=by
 simp only[VB] at hb;refine⟨⟨h1,h2,?_,?_,?_,?_,Kt (Kn _ _) hq.1.2.2.2.2.2.2⟩,?_⟩
 ·show 1≤b.W;omega
 ·show b.W≤200;omega
 ·show 1≤b.H;omega
 ·show b.H≤200;omega
 ·intro f hf;obtain⟨g,hg,aa⟩:=Ls.1 hf;have ab:=hq.2 g hg;unfold YY at aa;split at aa
  ·rename_i hm;cases aa;simp only[ZdL,VB,ZT] at ab;simp only[Xu] at hm;simp only[ZdL,VB,ZT,Zu5,ZgX,Zmk];omega
  ·cases aa
def Js (Zj:Int) (b:Box):Option Box:=if Zj≤b.W∧Zj≤b.H then some b else none
def JO (q:Zb):Int→List Box→List Zb
 | _,[]=>[]
 | n,b :: l=>Zmk q b n :: JO q (n+1) l
theorem ZhV (q:Zb):∀ (n:Int) (a b:List Box),JO q n (a++b)=JO q n a++JO q (n+a.length) b
 | n,[],b=>by simp[JO]
 | n,x :: a,b=>by
  simp only[KK,JO,ZhV q (n+1) a b,Km];congr 3
  omega
theorem ZdM (q:Zb):∀ (n:Int) (a:List Box),(JO q n a).length=a.length
 | n,[]=>rfl
 | n,x :: a=>by simp[JO,ZdM q (n+1) a]
theorem ZAC (q:Zb) (n:Int) {l:List Box} {i:Nat} {x:Box} (hx:l[i]?=some x):JO q n (l.take (i+1))=JO q n (l.take i)++[Zmk q x (n+i)]:=by
 obtain⟨h1,h2⟩:=Kc.1 hx;rw[List.take_succ_eq_append_getElem h1,h2,ZhV];simp only[JO,LD,Nat.min_eq_left (Nat.le_of_lt h1)]
def Xc (k:Zs) (p:Ze) (Zj:Int):List Box:=((ZU k p).filterMap X7).filterMap (Js Zj)
theorem ZqW {k:Zs} {p:Ze} {Zj:Int} (hv:Q6 k p=true):∀ b∈Xc k p Zj,VB b∧ZT b ⟨0,0,k.W,k.H⟩:=by
 intro b hb;obtain⟨t,_,_,hw,_,hf,hp⟩:=QR hv;unfold Xc at hb;rw[hp,Zfr] at hb;obtain⟨c,hc,aa⟩:=Ls.1 hb;unfold Js at aa;split at aa
 ·cases aa;refine⟨Zk5 (p:=p) hw hf b hc,?_⟩;obtain⟨h1,h2,h3,h4,_⟩:=hw;have:=Zmj hf h1 h3 b hc;simp only[ZjW] at this;simp only[ZT];omega
 ·cases aa
theorem ZiH (k:Zs) (p:Ze) (Zj:Int):(Xc k p Zj).length≤255:=by
 unfold Xc;refine Kt (Kn _ _) (Kt (Kn _ _) ?_);unfold ZU;split
 ·split
  ·rename_i h;simp only[Kd,Kr] at h;rw[WD];exact h.1.2
  ·simp
 ·simp
def remn (q:Zb) (k:Zs) (p:Ze) (Zj label:Int):List Zb:=
 if (VPc q∧VQ q k p)∧1≤Zj∧Zj≤200∧1≤label∧label≤9999∧(Xc k p Zj).length≤10000-label then JO q label (Xc k p Zj) else []
def Jt (Zj:Int) (b:Box):Option Box:=if b.W<Zj∨b.H<Zj then some b else none
def Zel (k:Zs) (p:Ze) (Zj:Int):List Box:=((ZU k p).filterMap X7).filterMap (Jt Zj)
theorem JF {b:Box} (h:VB b):0≤b.W*b.H∧b.W*b.H≤40000:=by
 simp only[VB] at h;have h1:0≤b.W*b.H:=L8 (by omega) (by omega);have h2:b.W*b.H≤200*200:=L9 (by omega) (by omega) (by omega) (by omega);omega
theorem ZdN:∀ {l:List Box},(∀ b∈l,VB b)→0≤QT l∧QT l≤40000*l.length
 | [],_=>by simp[QT]
 | b :: l,h=>by
  have h1:=JF (h b (by simp));have h2:=ZdN (l:=l) fun c hc=>h c (by simp[hc]);simp only[QT,Km];omega
theorem ZqX (Zj:Int):∀ (l:List Box),QT (l.filterMap (Js Zj))+QT (l.filterMap (Jt Zj))=QT l
 | []=>by simp[QT]
 | b :: l=>by
  have ih:=ZqX Zj l;by_cases h:Zj≤b.W∧Zj≤b.H
  ·have h' : ¬(b.W<Zj∨b.H<Zj):=by omega
   simp only[Le,Js,Jt,Kl h,Ki h',QT];omega
  ·have h' : b.W<Zj∨b.H<Zj:=by omega
   simp only[Le,Js,Jt,Ki h,Kl h',QT];omega
theorem ZcP {k:Zs} {p:Ze} (hv:Q6 k p=true):∀ b∈(ZU k p).filterMap X7,VB b:=by
 obtain⟨t,_,_,hw,_,hf,hp⟩:=QR hv;rw[hp,Zfr];exact Zk5 (p:=p) hw hf
attribute [go_sem] ite_self Bool.false_eq_true
end Go.Abs.L
