/- Own text. -/
import Derived.Test.YtighjmleicikhaaAbsLib
set_option linter.unusedVariables false
set_option linter.unusedSimpArgs false
namespace Go.Abs.L
open Go Go.Abs Go.Abs.E
inductive BT where
 | waste
 | pane (i:Int) (t:Bool)
 | cut (d:Bool) (a:Int) (l r:BT)
deriving DecidableEq,Inhabited
def X3 (d:Bool):Int:=if d then 2 else 3
def BT.plan:BT→Ze
 | .waste=>.mk 0 0 0 false []
 | .pane i t=>.mk 1 0 i t []
 | .cut d a l r=>.mk (X3 d) a 0 false [l.plan,r.plan]
def BT.cnt:BT→Nat
 | .waste=>1
 | .pane _ _=>1
 | .cut _ _ l r=>1+l.cnt+r.cnt
theorem BT.cnt_pos (b:BT):1≤b.cnt:=by cases b<;>simp[BT.cnt]<;>omega
def Ze.nodes:Ze→Nat
 | .mk _ _ _ _ ks=>1+nodesL ks
where nodesL:List Ze→Nat
 | []=>0
 | p :: r=>Ze.nodes p+nodesL r
def Zan (o a p:Int) (t:Bool) (l r:Option BT):Option BT:=match l,r with
 | some x,some y=>if p=0∧t=false then some (.cut (decide (o=2)) a x y) else none
 | _,_=>none
mutual
def QG:Ze→Option BT
 | .mk o a p t ks=>if o=2∨o=3 then ZlU o a p t ks else
   if ks.length=0∧a=0∧o=1 then some (.pane p t) else
   if ks.length=0∧a=0∧o=0∧p=0∧t=false then some .waste else none
def ZlU (o a p:Int) (t:Bool):List Ze→Option BT
 | []=>none
 | x :: r=>Zn2 o a p t (QG x) r
def Zn2 (o a p:Int) (t:Bool) (l:Option BT):List Ze→Option BT
 | []=>none
 | y :: r=>match r with
  | []=>Zan o a p t l (QG y)
  | _=>none
end
theorem Zhf (o a p:Int) (t:Bool) (x y:Ze) (ho:o=2∨o=3):QG (.mk o a p t [x,y])=Zan o a p t (QG x) (QG y):=by
 simp[QG,ZlU,Zn2,ho]
theorem Zeu (o a p:Int) (t:Bool) (ks:List Ze) (ho:o=2∨o=3) (hk:ks.length≠2):QG (.mk o a p t ks)=none:=by
 match ks,hk with
 | [],_=>simp[QG,ZlU,ho]
 | [x],_=>simp[QG,ZlU,Zn2,ho]
 | [x,y],h=>simp at h
 | x :: y :: z :: r,_=>simp[QG,ZlU,Zn2,ho]
theorem Ug:∀ b:BT,QG b.plan=some b
 | .waste=>by simp[BT.plan,QG]
 | .pane i t=>by simp[BT.plan,QG]
 | .cut d a l r=>by
  rw[BT.plan,Zhf _ _ _ _ _ _ (by cases d<;>simp[X3]),Ug l,Ug r];cases d<;>simp[Zan,X3]
theorem Zao:∀ (n:Nat) (p:Ze) (b:BT),p.nodes≤n→QG p=some b→p=b.plan
 | 0,.mk o a p t ks,b,hn,_=>by simp[Ze.nodes] at hn
 | n+1,.mk o a p t ks,b,hn,h=>by
  by_cases ho:o=2∨o=3
  ·by_cases hk:ks.length=2
   ·match ks,hk with
    | [x,y],_=>
     rw[Zhf _ _ _ _ _ _ ho] at h;simp only[Ze.nodes,Ze.nodes.nodesL] at hn;cases hx:QG x with
     | none=>simp[hx,Zan] at h
     | some bx=>
      cases hy:QG y with
      | none=>simp[hx,hy,Zan] at h
      | some bY=>
       have e1:=Zao n x bx (by omega) hx;have e2:=Zao n y bY (by omega) hy;simp only[hx,hy,Zan] at h;split at h
       ·rename_i hc;cases h;obtain⟨rfl,rfl⟩:=hc;rw[BT.plan,← e1,← e2];rcases ho with rfl | rfl<;>rfl
       ·cases h
   ·rw[Zeu _ _ _ _ _ ho hk] at h;cases h
  ·simp only[QG,ho,Kg] at h;split at h
   ·rename_i hc;cases h;obtain⟨h1,rfl,rfl⟩:=hc;cases ks with
    | nil=>rfl
    | cons x r=>simp at h1
   ·split at h
    ·rename_i hc;cases h;obtain⟨h1,rfl,rfl,rfl,rfl⟩:=hc;cases ks with
     | nil=>rfl
     | cons x r=>simp at h1
    ·cases h
theorem Wh {p:Ze} {b:BT} (h:QG p=some b):p=b.plan:=Zao _ p b (Kf _) h
theorem ZiY {o a p:Int} {t:Bool} {ks:List Ze} {x y:Ze} (ho:o=2∨o=3) (hk:ks.length=2) (h0:ks[0]?=some x) (h1:ks[1]?=some y):QG (.mk o a p t ks)=Zan o a p t (QG x) (QG y):=by
 match ks,hk with
 | [x',y'],_=>
  simp at h0 h1;subst h0;subst h1;exact Zhf _ _ _ _ _ _ ho
theorem UK:∀ {ks:List Ze} {i:Nat} {x:Ze},ks[i]?=some x→x.nodes≤Ze.nodes.nodesL ks
 | [],i,x,h=>by simp at h
 | y :: ks,0,x,h=>by simp at h;subst h;simp[Ze.nodes.nodesL]
 | y :: ks,i+1,x,h=>by
  have:=UK (ks:=ks) (i:=i) (x:=x) (by simpa using h);simp only[Ze.nodes.nodesL];omega
theorem Wi {o a p:Int} {t:Bool} {ks:List Ze} {i:Nat} {x:Ze} {n:Nat} (hn:(Ze.mk o a p t ks).nodes≤n+1) (h:ks[i]?=some x):x.nodes≤n:=by
 have:=UK h;simp only[Ze.nodes] at hn;omega
theorem Ze.enc_len (x:Ze):(Ze.enc x).cells.length=5:=by
 obtain⟨o,a,p,t,k⟩:=x;rw[Ze.enc_mk];rfl
theorem Ze.enc_agg (x:Ze):D.agg (Ze.enc x).cells=Ze.enc x:=by
 obtain⟨o,a,p,t,k⟩:=x;rw[Ze.enc_mk];rfl
theorem Ze.take_enc (x:Ze):(Ze.enc x).cells.take 5=(Ze.enc x).cells:=List.take_of_length_le (by rw[Ze.enc_len x];omega)
attribute [go_sem] Ze.enc_len Ze.enc_agg Ze.take_enc
theorem Zhg {o a p:Int} {t:Bool} {ks:List Ze} (ho:¬(o=2∨o=3)):QG (.mk o a p t ks)=if ks.length=0∧a=0∧o=1 then some (.pane p t) else
   if ks.length=0∧a=0∧o=0∧p=0∧t=false then some .waste else none:=by
 simp only[QG,ho,Kg]
def Zk (m:Int):Option BT→Int
 | some b=>if (b.cnt:Int)≤m then (b.cnt:Int) else -1
 | none=>-1
theorem W9 (m:Int) (h0:0≤m) (b:Option BT) : -1≤Zk m b∧Zk m b≤m∧Zk m b≠0:=by
 cases b with
 | none=>simp[Zk];omega
 | some b=>
  have:=b.cnt_pos;simp only[Zk];split<;>omega
theorem Qa (m:Int) (b:BT):((b.cnt:Int)≤m∧Zk m (some b)=b.cnt)∨(m<(b.cnt:Int)∧Zk m (some b)=-1):=by
 unfold Zk;by_cases h:(b.cnt:Int)≤m
 ·left;exact⟨h,Ku h⟩
 ·right;exact⟨by omega,Kp h⟩
theorem Zap (m o a p:Int) (t:Bool) (l r:Option BT) (h:¬(p=0∧t=false)):Zk m (Zan o a p t l r)=-1:=by
 cases l with
 | none=>rfl
 | some x=>cases r with
  | none=>rfl
  | some y=>simp only[Zan,Kp h,Zk]
theorem Zm4 (m o a:Int) (l r:Option BT):Zk m (Zan o a 0 false l r)=if Zk m l<0∨Zk m r<0∨m<1+Zk m l+Zk m r then -1 else 1+Zk m l+Zk m r:=by
 cases l with
 | none=>simp[Zan,Zk]
 | some x=>cases r with
  | none=>simp[Zan,Zk]
  | some y=>
   have h1:=x.cnt_pos;have h2:=y.cnt_pos;have e:(BT.cut (decide (o=2)) a x y).cnt=1+x.cnt+y.cnt:=rfl;have e0:Zan o a 0 false (some x) (some y)=some (BT.cut (decide (o=2)) a x y):=by simp[Zan]
   rw[e0];have hx:=Qa m x;have hy:=Qa m y;have hc:=Qa m (BT.cut (decide (o=2)) a x y);rw[e] at hc;generalize Zk m (some x)=sx at *;generalize Zk m (some y)=sy at *;generalize Zk m (some (BT.cut (decide (o=2)) a x y))=sc at *;split<;>omega
theorem ZlV (m o a:Int) (l r:Option BT):Zk m (Zan o a 0 false l r)=if Zk (m-1) l<0∨Zk (m-1-Zk (m-1) l) r<0 then -1 else 1+Zk (m-1) l+Zk (m-1-Zk (m-1) l) r:=by
 cases l with
 | none=>simp[Zan,Zk]
 | some x=>cases r with
  | none=>simp[Zan,Zk]
  | some y=>
   have h1:=x.cnt_pos;have h2:=y.cnt_pos;have e:(BT.cut (decide (o=2)) a x y).cnt=1+x.cnt+y.cnt:=rfl;have e0:Zan o a 0 false (some x) (some y)=some (BT.cut (decide (o=2)) a x y):=by simp[Zan]
   rw[e0];have hx:=Qa (m-1) x;have hy:=Qa (m-1-Zk (m-1) (some x)) y;have hc:=Qa m (BT.cut (decide (o=2)) a x y);rw[e] at hc;generalize Zk (m-1-Zk (m-1) (some x)) (some y)=sy at *;generalize Zk (m-1) (some x)=sx at *;generalize Zk m (some (BT.cut (decide (o=2)) a x y))=sc at *;split<;>omega
theorem Zm5 {m:Int} (h:m<1) (b:Option BT):Zk m b=-1:=by
 cases b with
 | none=>rfl
 | some b=>
  have:=b.cnt_pos;have:=Qa m b;omega
def WL (ps:List Pane) (i:Int) (t:Bool) (w h:Int):Bool:=decide (0≤i)&&(match ps[i.toNat]? with
 | some q=>if t then q.Turns&&decide (¬q.W=q.H)&&decide (q.H=w)&&decide (q.W=h) else decide (q.W=w∧q.H=h)
 | none=>false)
def Qv (ps:List Pane):BT→Int→Int→Bool
 | .waste,_,_=>true
 | .pane i t,w,h=>WL ps i t w h
 | .cut d a l r,w,h=>if d then decide (1≤a∧a≤w-1)&&Qv ps l a h&&Qv ps r (w-a) h
   else decide (1≤a∧a≤h-1)&&Qv ps l w a&&Qv ps r w (h-a)
def VPs (ps:List Pane):Prop:=∀ q∈ps,VP q
instance (ps:List Pane):Decidable (VPs ps):=by unfold VPs;infer_instance
def VW (k:Q7):Prop:=1≤k.W∧k.W≤200∧1≤k.H∧k.H≤200∧k.Panes.length≤24∧VPs k.Panes
instance (k:Q7):Decidable (VW k):=by unfold VW;infer_instance
theorem ZlW {ps:List Pane} {k:Nat} {x:Pane} (hx:ps[k]?=some x):VPs (ps.drop k)↔VP x∧VPs (ps.drop (k+1)):=by
 obtain⟨h1,h2⟩:=Kc.1 hx;rw[KB h1,h2];simp[VPs]
end Go.Abs.L
set_option linter.unusedVariables false
set_option linter.unusedSimpArgs false
namespace Go.Abs.L
open Go Go.Abs Go.Abs.E
structure Part where
 plan:Ze
 box:Box
def Part.enc (p:Part):D:=.agg (p.plan.enc.cells++[.int .i64 p.box.X,.int .i64 p.box.Y,.int .i64 p.box.W,.int .i64 p.box.H])
@[go_sem] theorem Part.enc_mk (o a p:Int) (t:Bool) (ks:List Ze) (x y w h:Int):Part.enc ⟨.mk o a p t ks,⟨x,y,w,h⟩⟩ =
  .agg [.int .i64 o,.int .i64 a,.int .i64 p,.bool t,.sl (ks.map Ze.enc),.int .i64 x,.int .i64 y,.int .i64 w,.int .i64 h]:=by
 simp only[Part.enc,Ze.enc_mk];rfl
theorem Part.enc_len (p:Part):(Part.enc p).cells.length=9:=by
 show (p.plan.enc.cells++_).length=9;rw[Kn,Ze.enc_len];rfl
@[go_sem] theorem uni_Part (l:List Part):uni 9 (l.map Part.enc)=True:=eq_true (W6 l Part.enc_len)
def pt:BT→Int→Int→Int→Int→List Part
 | .waste,x,y,w,h=>[⟨BT.waste.plan,⟨x,y,w,h⟩⟩]
 | .pane i t,x,y,w,h=>[⟨(BT.pane i t).plan,⟨x,y,w,h⟩⟩]
 | .cut d a l r,x,y,w,h=>⟨(BT.cut d a l r).plan,⟨x,y,w,h⟩⟩ :: if d then pt l x y a h++pt r (x+a) y (w-a) h else pt l x y w a++pt r x (y+a) w (h-a)
def sp:BT→Int→Int→Int→Int→List Vp
 | .waste,x,y,w,h=>[⟨-1,false,⟨x,y,w,h⟩⟩]
 | .pane i t,x,y,w,h=>[⟨i,t,⟨x,y,w,h⟩⟩]
 | .cut d a l r,x,y,w,h=>if d then sp l x y a h++sp r (x+a) y (w-a) h else sp l x y w a++sp r x (y+a) w (h-a)
def plc:BT→Int→Int→Int→Int→List Vp
 | .waste,x,y,w,h=>[]
 | .pane i t,x,y,w,h=>[⟨i,t,⟨x,y,w,h⟩⟩]
 | .cut d a l r,x,y,w,h=>if d then plc l x y a h++plc r (x+a) y (w-a) h else plc l x y w a++plc r x (y+a) w (h-a)
def wst:BT→Int→Int→Int→Int→List Box
 | .waste,x,y,w,h=>[⟨x,y,w,h⟩]
 | .pane i t,x,y,w,h=>[]
 | .cut d a l r,x,y,w,h=>if d then wst l x y a h++wst r (x+a) y (w-a) h else wst l x y w a++wst r x (y+a) w (h-a)
def PN:BT→Prop
 | .waste=>True
 | .pane i _=>0≤i
 | .cut _ _ l r=>PN l∧PN r
def opP:Ze→Int
 | .mk o _ _ _ _=>o
def Zkn (q:Part):Option Vp:=match q.plan with
 | .mk o _ p t _=>if o=1 then some ⟨p,t,q.box⟩ else none
def ZdF (q:Part):Option Box:=match q.plan with
 | .mk o _ _ _ _=>if o=0 then some q.box else none
theorem Zo7:∀ (b:BT) (x y w h:Int),(pt b x y w h).filterMap Zkn=plc b x y w h
 | .waste,x,y,w,h=>rfl
 | .pane i t,x,y,w,h=>rfl
 | .cut d a l r,x,y,w,h=>by
  have e:Zkn ⟨(BT.cut d a l r).plan,⟨x,y,w,h⟩⟩=none:=by cases d<;>rfl
  cases d<;>simp[pt,plc,Ll,LJ,e,Zo7]
theorem Zev:∀ (b:BT) (x y w h:Int),(pt b x y w h).filterMap ZdF=wst b x y w h
 | .waste,x,y,w,h=>rfl
 | .pane i t,x,y,w,h=>rfl
 | .cut d a l r,x,y,w,h=>by
  have e:ZdF ⟨(BT.cut d a l r).plan,⟨x,y,w,h⟩⟩=none:=by cases d<;>rfl
  cases d<;>simp[pt,wst,Ll,LJ,e,Zev]
def Zn3 (q:Vp):Option Vp:=if 0≤q.Pane then some q else none
def Zn4 (q:Vp):Option Box:=if q.Pane<0 then some q.Box else none
theorem ZiZ:∀ (b:BT) (x y w h:Int),PN b→(sp b x y w h).filterMap Zn3=plc b x y w h
 | .waste,x,y,w,h,_=>rfl
 | .pane i t,x,y,w,h,hp=>by
  have hp:0≤i:=hp;simp[sp,plc,Zn3,hp]
 | .cut d a l r,x,y,w,h,hp=>by
  cases d<;>simp[sp,plc,Ll,ZiZ l _ _ _ _ hp.1,ZiZ r _ _ _ _ hp.2]
theorem Zi0:∀ (b:BT) (x y w h:Int),PN b→(sp b x y w h).filterMap Zn4=wst b x y w h
 | .waste,x,y,w,h,_=>rfl
 | .pane i t,x,y,w,h,hp=>by
  have hp:¬i<0:=by have:0≤i:=hp;omega
  simp[sp,wst,Zn4,hp]
 | .cut d a l r,x,y,w,h,hp=>by
  cases d<;>simp[sp,wst,Ll,Zi0 l _ _ _ _ hp.1,Zi0 r _ _ _ _ hp.2]
theorem Js:∀ (b:BT) (x y w h:Int),(pt b x y w h).length=b.cnt
 | .waste,x,y,w,h=>rfl
 | .pane i t,x,y,w,h=>rfl
 | .cut d a l r,x,y,w,h=>by
  cases d<;>simp[pt,BT.cnt,Js]<;>omega
theorem Zko:∀ (b:BT) (x y w h:Int),(sp b x y w h).length≤b.cnt
 | .waste,x,y,w,h=>by simp[sp,BT.cnt]
 | .pane i t,x,y,w,h=>by simp[sp,BT.cnt]
 | .cut d a l r,x,y,w,h=>by
  cases d
  ·have h1:=Zko l x y w a;have h2:=Zko r x (y+a) w (h-a);simp[sp,BT.cnt];omega
  ·have h1:=Zko l x y a h;have h2:=Zko r (x+a) y (w-a) h;simp[sp,BT.cnt];omega
theorem fm_take {α β:Type} {l:List α} {f:α→Option β} {k:Nat} {x:α} (hx:l[k]?=some x):(l.take (k+1)).filterMap f=(l.take k).filterMap f++(f x).toList:=by
 obtain⟨h1,h2⟩:=Kc.1 hx;rw[List.take_succ_eq_append_getElem h1,h2,Ll];cases hf:f x<;>simp[hf]
theorem ZfH {ps:List Pane}:∀ {b:BT} {w h:Int},Qv ps b w h=true→PN b
 | .waste,_,_,_=>trivial
 | .pane i t,w,h,hf=>by
  simp only[Qv,WL,Kb,Kj] at hf;exact hf.1
 | .cut d a l r,w,h,hf=>by
  cases d
  ·simp only[Qv,Kb,Ka,Kg] at hf;exact⟨ZfH hf.1.2,ZfH hf.2⟩
  ·simp only[Qv,Kb,Kh] at hf;exact⟨ZfH hf.1.2,ZfH hf.2⟩
def Wj (k:Q7) (p:Ze):List Part:=match QG p with
 | some b=>if decide (VW k)&&decide (b.cnt≤255)&&Qv k.Panes b k.W k.H then pt b 0 0 k.W k.H else []
 | none=>[]
def Yc (k:Q7) (p:Ze):Bool:=match QG p with
 | some b=>decide (VW k)&&decide (b.cnt≤255)&&Qv k.Panes b k.W k.H
 | none=>false
theorem Zhh {k:Q7} {p:Ze} (h:Yc k p=true):∃ b,QG p=some b∧p=b.plan∧VW k∧b.cnt≤255∧Qv k.Panes b k.W k.H=true∧Wj k p=pt b 0 0 k.W k.H:=by
 have h':=h;unfold Yc at h;split at h
 ·rename_i b hb;refine⟨b,hb,Wh hb,?_⟩;unfold Wj;rw[hb];dsimp only;rw[Ku h];simp only[Kb,Kj] at h;exact⟨h.1.1,h.1.2,h.2,rfl⟩
 ·cases h
theorem all_drop {α:Type} {l:List α} {k:Nat} {x:α} (hx:l[k]?=some x) (P:α→Prop):(∀ y∈l.drop k,P y)↔P x∧∀ y∈l.drop (k+1),P y:=by
 obtain⟨h1,h2⟩:=Kc.1 hx;rw[KB h1,h2];simp
def Zhi (w h:Int) (f:Box):Prop:=VB f∧Q2 f ⟨0,0,w,h⟩
instance (w h:Int) (f:Box):Decidable (Zhi w h f):=by unfold Zhi;infer_instance
def VPc (q:XC):Prop:=(1≤q.Label∧q.Label≤9999∧1≤q.W∧q.W≤200∧1≤q.H∧q.H≤200∧q.Flaws.length≤6)∧∀ f∈q.Flaws,Zhi q.W q.H f
instance (q:XC):Decidable (VPc q):=by unfold VPc;infer_instance
def Zkp (fs:List Box) (b:Box):Prop:=∀ f∈fs,¬Zco f b
instance (fs:List Box) (b:Box):Decidable (Zkp fs b):=by unfold Zkp;infer_instance
def Zqq (q:XC) (k:Q7) (p:Ze):Prop:=Yc k p=true∧k.W=q.W∧k.H=q.H∧∀ c∈(Wj k p).filterMap Zkn,Zkp q.Flaws c.Box
instance (q:XC) (k:Q7) (p:Ze):Decidable (Zqq q k p):=by unfold Zqq;infer_instance
def ZcX (x y w h:Int) (c:Box):Prop:=1≤c.W∧1≤c.H∧x≤c.X∧y≤c.Y∧c.X+c.W≤x+w∧c.Y+c.H≤y+h
theorem Zhj {ps:List Pane}:∀ {b:BT} {x y w h:Int},Qv ps b w h=true→1≤w→1≤h→∀ c∈plc b x y w h,ZcX x y w h c.Box
 | .waste,x,y,w,h,hf,h1,h2,c,hc=>by simp[plc] at hc
 | .pane i t,x,y,w,h,hf,h1,h2,c,hc=>by
  simp only[plc,KG] at hc;subst hc;simp only[ZcX];omega
 | .cut d a l r,x,y,w,h,hf,h1,h2,c,hc=>by
  cases d
  ·simp only[Qv,Kb,Ka,Kg,Kj] at hf;simp only[plc,Ka,Kg,Kd] at hc;rcases hc with hc | hc
   ·have:=Zhj hf.1.2 (by omega) (by omega) c hc;simp only[ZcX] at this ⊢;omega
   ·have:=Zhj hf.2 (by omega) (by omega) c hc;simp only[ZcX] at this ⊢;omega
  ·simp only[Qv,Kb,Kh,Kj] at hf;simp only[plc,Kh,Kd] at hc;rcases hc with hc | hc
   ·have:=Zhj hf.1.2 (by omega) (by omega) c hc;simp only[ZcX] at this ⊢;omega
   ·have:=Zhj hf.2 (by omega) (by omega) c hc;simp only[ZcX] at this ⊢;omega
theorem Zew {ps:List Pane}:∀ {b:BT} {x y w h:Int},Qv ps b w h=true→1≤w→1≤h→∀ c∈wst b x y w h,ZcX x y w h c
 | .waste,x,y,w,h,hf,h1,h2,c,hc=>by
  simp only[wst,KG] at hc;subst hc;simp only[ZcX];omega
 | .pane i t,x,y,w,h,hf,h1,h2,c,hc=>by simp[wst] at hc
 | .cut d a l r,x,y,w,h,hf,h1,h2,c,hc=>by
  cases d
  ·simp only[Qv,Kb,Ka,Kg,Kj] at hf;simp only[wst,Ka,Kg,Kd] at hc;rcases hc with hc | hc
   ·have:=Zew hf.1.2 (by omega) (by omega) c hc;simp only[ZcX] at this ⊢;omega
   ·have:=Zew hf.2 (by omega) (by omega) c hc;simp only[ZcX] at this ⊢;omega
  ·simp only[Qv,Kb,Kh,Kj] at hf;simp only[wst,Kh,Kd] at hc;rcases hc with hc | hc
   ·have:=Zew hf.1.2 (by omega) (by omega) c hc;simp only[ZcX] at this ⊢;omega
   ·have:=Zew hf.2 (by omega) (by omega) c hc;simp only[ZcX] at this ⊢;omega
def Vq:List Box→Int
 | []=>0
 | c :: l=>c.W*c.H+Vq l
theorem ZdG (a b:List Box):Vq (a++b)=Vq a+Vq b:=by
 induction a with
 | nil=>simp[Vq]
 | cons c l ih=>simp only[KL,Vq,ih];omega
theorem ZdH {ps:List Pane}:∀ {b:BT} {x y w h:Int},Vq (wst b x y w h)+Vq ((plc b x y w h).map Vp.Box)=w*h
 | .waste,x,y,w,h=>by simp[wst,plc,Vq]
 | .pane i t,x,y,w,h=>by simp[wst,plc,Vq]
 | .cut d a l r,x,y,w,h=>by
  cases d
  ·have h1:=ZdH (ps:=ps) (b:=l) (x:=x) (y:=y) (w:=w) (h:=a);have h2:=ZdH (ps:=ps) (b:=r) (x:=x) (y:=y+a) (w:=w) (h:=h-a);have h3:w*(h-a)=w*h-w*a:=Int.mul_sub w h a;simp only[wst,plc,Ka,Kg,ZdG,Lt];omega
  ·have h1:=ZdH (ps:=ps) (b:=l) (x:=x) (y:=y) (w:=a) (h:=h);have h2:=ZdH (ps:=ps) (b:=r) (x:=x+a) (y:=y) (w:=w-a) (h:=h);have h3:(w-a)*h=w*h-a*h:=Int.sub_mul w a h;simp only[wst,plc,Kh,ZdG,Lt];omega
theorem ZfI:∀ (b:BT) (x y w h:Int),(wst b x y w h).length≤b.cnt
 | .waste,x,y,w,h=>by simp[wst,BT.cnt]
 | .pane i t,x,y,w,h=>by simp[wst,BT.cnt]
 | .cut d a l r,x,y,w,h=>by
  cases d
  ·have h1:=ZfI l x y w a;have h2:=ZfI r x (y+a) w (h-a);simp[wst,BT.cnt];omega
  ·have h1:=ZfI l x y a h;have h2:=ZfI r (x+a) y (w-a) h;simp[wst,BT.cnt];omega
theorem Zr1 {k:Q7} {p:Ze} {b:BT} (hv:VW k) (hf:Qv k.Panes b k.W k.H=true):∀ c∈plc b 0 0 k.W k.H,VB c.Box:=by
 intro c hc;obtain⟨h1,h2,h3,h4,_⟩:=hv;have:=Zhj hf h1 h3 c hc;simp only[ZcX] at this;simp only[VB];omega
theorem ZdI {k:Q7} {p:Ze} {b:BT} (hv:VW k) (hf:Qv k.Panes b k.W k.H=true):∀ c∈wst b 0 0 k.W k.H,VB c:=by
 intro c hc;obtain⟨h1,h2,h3,h4,_⟩:=hv;have:=Zew hf h1 h3 c hc;simp only[ZcX] at this;simp only[VB];omega
def Zqr (b m:Box):Box:=⟨m.X-b.X,m.Y-b.Y,m.W,m.H⟩
def Zn5 (b f:Box):Option Box:=if Zco f b then some (Zqr b (meetB f b)) else none
def cutP (q:XC) (b:Box) (label:Int):XC:=⟨label,b.W,b.H,q.Flaws.filterMap (Zn5 b)⟩
theorem Ztm {q:XC} {b:Box} {aa:Int} (hq:VPc q) (hb:VB b) (hi:Q2 b ⟨0,0,q.W,q.H⟩) (h1:1≤aa) (h2:aa≤9999):VPc (cutP q b aa):=by
 simp only[VB] at hb;refine⟨⟨h1,h2,?_,?_,?_,?_,Lc (List.length_filterMap_le _ _) hq.1.2.2.2.2.2.2⟩,?_⟩
 ·show 1≤b.W;omega
 ·show b.W≤200;omega
 ·show 1≤b.H;omega
 ·show b.H≤200;omega
 ·intro f hf;obtain⟨g,hg,ab⟩:=List.mem_filterMap.1 hf;have ad:=hq.2 g hg;unfold Zn5 at ab;split at ab
  ·rename_i hm;cases ab;simp only[Zhi,VB,Q2] at ad;simp only[Zco] at hm;simp only[Zhi,VB,Q2,Zqr,meetB,cutP];omega
  ·cases ab
def ZlX (Xi:Int) (b:Box):Option Box:=if Xi≤b.W∧Xi≤b.H then some b else none
def Zfx (q:XC):Int→List Box→List XC
 | _,[]=>[]
 | n,b :: l=>cutP q b n :: Zfx q (n+1) l
theorem Zff (q:XC):∀ (n:Int) (a b:List Box),Zfx q n (a++b)=Zfx q n a++Zfx q (n+a.length) b
 | n,[],b=>by simp[Zfx]
 | n,x :: a,b=>by
  simp only[KL,Zfx,Zff q (n+1) a b,Kk];congr 3
  omega
theorem Zqs (q:XC):∀ (n:Int) (a:List Box),(Zfx q n a).length=a.length
 | n,[]=>rfl
 | n,x :: a=>by simp[Zfx,Zqs q (n+1) a]
theorem cutN_take (q:XC) (n:Int) {l:List Box} {i:Nat} {x:Box} (hx:l[i]?=some x):Zfx q n (l.take (i+1))=Zfx q n (l.take i)++[cutP q x (n+i)]:=by
 obtain⟨h1,h2⟩:=Kc.1 hx;rw[List.take_succ_eq_append_getElem h1,h2,Zff];simp only[Zfx,Le,Nat.min_eq_left (Nat.le_of_lt h1)]
def Zi1 (k:Q7) (p:Ze) (Xi:Int):List Box:=((Wj k p).filterMap ZdF).filterMap (ZlX Xi)
theorem keptL_in {k:Q7} {p:Ze} {Xi:Int} (hv:Yc k p=true):∀ b∈Zi1 k p Xi,VB b∧Q2 b ⟨0,0,k.W,k.H⟩:=by
 intro b hb;obtain⟨t,_,_,hw,_,hf,hp⟩:=Zhh hv;unfold Zi1 at hb;rw[hp,Zev] at hb;obtain⟨c,hc,aa⟩:=List.mem_filterMap.1 hb;unfold ZlX at aa;split at aa
 ·cases aa;refine⟨ZdI (p:=p) hw hf b hc,?_⟩;obtain⟨h1,h2,h3,h4,_⟩:=hw;have:=Zew hf h1 h3 b hc;simp only[ZcX] at this;simp only[Q2];omega
 ·cases aa
theorem keptL_len (k:Q7) (p:Ze) (Xi:Int):(Zi1 k p Xi).length≤255:=by
 unfold Zi1;refine Lc (List.length_filterMap_le _ _) (Lc (List.length_filterMap_le _ _) ?_);unfold Wj;split
 ·split
  ·rename_i h;simp only[Kb,Kj] at h;rw[Js];exact h.1.2
  ·simp
 ·simp
def remn (q:XC) (k:Q7) (p:Ze) (Xi label:Int):List XC:=
 if (VPc q∧Zqq q k p)∧1≤Xi∧Xi≤200∧1≤label∧label≤9999∧(Zi1 k p Xi).length≤10000-label then Zfx q label (Zi1 k p Xi) else []
def Zn6 (Xi:Int) (b:Box):Option Box:=if b.W<Xi∨b.H<Xi then some b else none
def lostL (k:Q7) (p:Ze) (Xi:Int):List Box:=((Wj k p).filterMap ZdF).filterMap (Zn6 Xi)
theorem Zr2 {b:Box} (h:VB b):0≤b.W*b.H∧b.W*b.H≤40000:=by
 simp only[VB] at h;have h1:0≤b.W*b.H:=Int.mul_nonneg (by omega) (by omega);have h2:b.W*b.H≤200*200:=Int.mul_le_mul (by omega) (by omega) (by omega) (by omega);omega
theorem Zqt:∀ {l:List Box},(∀ b∈l,VB b)→0≤Vq l∧Vq l≤40000*l.length
 | [],_=>by simp[Vq]
 | b :: l,h=>by
  have h1:=Zr2 (h b (by simp));have h2:=Zqt (l:=l) fun c hc=>h c (by simp[hc]);simp only[Vq,Kk];omega
theorem Zhk (Xi:Int):∀ (l:List Box),Vq (l.filterMap (ZlX Xi))+Vq (l.filterMap (Zn6 Xi))=Vq l
 | []=>by simp[Vq]
 | b :: l=>by
  have ih:=Zhk Xi l;by_cases h:Xi≤b.W∧Xi≤b.H
  ·have h' : ¬(b.W<Xi∨b.H<Xi):=by omega
   simp only[LJ,ZlX,Zn6,Ku h,Kp h',Vq];omega
  ·have h' : b.W<Xi∨b.H<Xi:=by omega
   simp only[LJ,ZlX,Zn6,Kp h,Ku h',Vq];omega
theorem wastes_VB {k:Q7} {p:Ze} (hv:Yc k p=true):∀ b∈(Wj k p).filterMap ZdF,VB b:=by
 obtain⟨t,_,_,hw,_,hf,hp⟩:=Zhh hv;rw[hp,Zev];exact ZdI (p:=p) hw hf
attribute [go_sem] ite_self Bool.false_eq_true
end Go.Abs.L
