/- Own text. -/
import Derived.Test.YtnachaiejoflhaaAbsLib
set_option linter.unusedVariables false
set_option linter.unusedSimpArgs false
namespace Go.Abs.L
open Go Go.Abs Go.Abs.E
inductive BT where
 | waste
 | pane (i:Int) (t:Bool)
 | cut (d:Bool) (a:Int) (l r:BT)
deriving DecidableEq,Inhabited
def U6 (d:Bool):Int:=if d then 2 else 3
def BT.plan:BT→Ze
 | .waste=>.mk 0 0 0 false []
 | .pane i t=>.mk 1 0 i t []
 | .cut d a l r=>.mk (U6 d) a 0 false [l.plan,r.plan]
def BT.cnt:BT→Nat
 | .waste=>1
 | .pane _ _=>1
 | .cut _ _ l r=>1+l.cnt+r.cnt
theorem BT.cnt_pos (b:BT):1≤b.cnt:=by cases b<;>simp[BT.cnt]<;>omega
def Ze.nodes:Ze→Nat
 | .mk _ _ _ _ ks=>1+nodesL ks
where nodesL:List Ze→Nat
 | []=>0
 | p :: r=>Ze.nodes p+nodesL r
def Za3 (o a p:Int) (t:Bool) (l r:Option BT):Option BT:=match l,r with
 | some x,some y=>if p=0∧t=false then some (.cut (decide (o=2)) a x y) else none
 | _,_=>none
mutual
def Xg:Ze→Option BT
 | .mk o a p t ks=>if o=2∨o=3 then Znk o a p t ks else
   if ks.length=0∧a=0∧o=1 then some (.pane p t) else
   if ks.length=0∧a=0∧o=0∧p=0∧t=false then some .waste else none
def Znk (o a p:Int) (t:Bool):List Ze→Option BT
 | []=>none
 | x :: r=>ZpW o a p t (Xg x) r
def ZpW (o a p:Int) (t:Bool) (l:Option BT):List Ze→Option BT
 | []=>none
 | y :: r=>match r with
  | []=>Za3 o a p t l (Xg y)
  | _=>none
end
theorem Zia (o a p:Int) (t:Bool) (x y:Ze) (ho:o=2∨o=3):Xg (.mk o a p t [x,y])=Za3 o a p t (Xg x) (Xg y):=by
 simp[Xg,Znk,ZpW,ho]
theorem ZfB (o a p:Int) (t:Bool) (ks:List Ze) (ho:o=2∨o=3) (hk:ks.length≠2):Xg (.mk o a p t ks)=none:=by
 match ks,hk with
 | [],_=>simp[Xg,Znk,ho]
 | [x],_=>simp[Xg,Znk,ZpW,ho]
 | [x,y],h=>simp at h
 | x :: y :: z :: r,_=>simp[Xg,Znk,ZpW,ho]
theorem ZkK:∀ b:BT,Xg b.plan=some b
 | .waste=>by simp[BT.plan,Xg]
 | .pane i t=>by simp[BT.plan,Xg]
 | .cut d a l r=>by
  rw[BT.plan,Zia _ _ _ _ _ _ (by cases d<;>simp[U6]),ZkK l,ZkK r];cases d<;>simp[Za3,U6]
theorem Za4:∀ (n:Nat) (p:Ze) (b:BT),p.nodes≤n→Xg p=some b→p=b.plan
 | 0,.mk o a p t ks,b,hn,_=>by simp[Ze.nodes] at hn
 | n+1,.mk o a p t ks,b,hn,h=>by
  by_cases ho:o=2∨o=3
  ·by_cases hk:ks.length=2
   ·match ks,hk with
    | [x,y],_=>
     rw[Zia _ _ _ _ _ _ ho] at h;simp only[Ze.nodes,Ze.nodes.nodesL] at hn;cases hx:Xg x with
     | none=>simp[hx,Za3] at h
     | some bx=>
      cases hy:Xg y with
      | none=>simp[hx,hy,Za3] at h
      | some bY=>
       have e1:=Za4 n x bx (by omega) hx;have e2:=Za4 n y bY (by omega) hy;simp only[hx,hy,Za3] at h;split at h
       ·rename_i hc;cases h;obtain⟨rfl,rfl⟩:=hc;rw[BT.plan,← e1,← e2];rcases ho with rfl | rfl<;>rfl
       ·cases h
   ·rw[ZfB _ _ _ _ _ ho hk] at h;cases h
  ·simp only[Xg,ho,Ki] at h;split at h
   ·rename_i hc;cases h;obtain⟨h1,rfl,rfl⟩:=hc;cases ks with
    | nil=>rfl
    | cons x r=>simp at h1
   ·split at h
    ·rename_i hc;cases h;obtain⟨h1,rfl,rfl,rfl,rfl⟩:=hc;cases ks with
     | nil=>rfl
     | cons x r=>simp at h1
    ·cases h
theorem Zc5 {p:Ze} {b:BT} (h:Xg p=some b):p=b.plan:=Za4 _ p b (Kg _) h
theorem ZkL {o a p:Int} {t:Bool} {ks:List Ze} {x y:Ze} (ho:o=2∨o=3) (hk:ks.length=2) (h0:ks[0]?=some x) (h1:ks[1]?=some y):Xg (.mk o a p t ks)=Za3 o a p t (Xg x) (Xg y):=by
 match ks,hk with
 | [x',y'],_=>
  simp at h0 h1;subst h0;subst h1;exact Zia _ _ _ _ _ _ ho
theorem U7:∀ {ks:List Ze} {i:Nat} {x:Ze},ks[i]?=some x→x.nodes≤Ze.nodes.nodesL ks
 | [],i,x,h=>by simp at h
 | y :: ks,0,x,h=>by simp at h;subst h;simp[Ze.nodes.nodesL]
 | y :: ks,i+1,x,h=>by
  have:=U7 (ks:=ks) (i:=i) (x:=x) (by simpa using h);simp only[Ze.nodes.nodesL];omega
theorem WO {o a p:Int} {t:Bool} {ks:List Ze} {i:Nat} {x:Ze} {n:Nat} (hn:(Ze.mk o a p t ks).nodes≤n+1) (h:ks[i]?=some x):x.nodes≤n:=by
 have:=U7 h;simp only[Ze.nodes] at hn;omega
theorem Ze.enc_len (x:Ze):(Ze.enc x).cells.length=5:=by
 obtain⟨o,a,p,t,k⟩:=x;rw[Ze.enc_mk];rfl
theorem Ze.enc_agg (x:Ze):D.agg (Ze.enc x).cells=Ze.enc x:=by
 obtain⟨o,a,p,t,k⟩:=x;rw[Ze.enc_mk];rfl
theorem Ze.take_enc (x:Ze):(Ze.enc x).cells.take 5=(Ze.enc x).cells:=List.take_of_length_le (by rw[Ze.enc_len x];omega)
attribute [go_sem] Ze.enc_len Ze.enc_agg Ze.take_enc
theorem Zib {o a p:Int} {t:Bool} {ks:List Ze} (ho:¬(o=2∨o=3)):Xg (.mk o a p t ks)=if ks.length=0∧a=0∧o=1 then some (.pane p t) else
   if ks.length=0∧a=0∧o=0∧p=0∧t=false then some .waste else none:=by
 simp only[Xg,ho,Ki]
def Zn (m:Int):Option BT→Int
 | some b=>if (b.cnt:Int)≤m then (b.cnt:Int) else -1
 | none=>-1
theorem UF (m:Int) (h0:0≤m) (b:Option BT) : -1≤Zn m b∧Zn m b≤m∧Zn m b≠0:=by
 cases b with
 | none=>simp[Zn];omega
 | some b=>
  have:=b.cnt_pos;simp only[Zn];split<;>omega
theorem Xo (m:Int) (b:BT):((b.cnt:Int)≤m∧Zn m (some b)=b.cnt)∨(m<(b.cnt:Int)∧Zn m (some b)=-1):=by
 unfold Zn;by_cases h:(b.cnt:Int)≤m
 ·left;exact⟨h,Kt h⟩
 ·right;exact⟨by omega,Kn h⟩
theorem Za5 (m o a p:Int) (t:Bool) (l r:Option BT) (h:¬(p=0∧t=false)):Zn m (Za3 o a p t l r)=-1:=by
 cases l with
 | none=>rfl
 | some x=>cases r with
  | none=>rfl
  | some y=>simp only[Za3,Kn h,Zn]
theorem ZoT (m o a:Int) (l r:Option BT):Zn m (Za3 o a 0 false l r)=if Zn m l<0∨Zn m r<0∨m<1+Zn m l+Zn m r then -1 else 1+Zn m l+Zn m r:=by
 cases l with
 | none=>simp[Za3,Zn]
 | some x=>cases r with
  | none=>simp[Za3,Zn]
  | some y=>
   have h1:=x.cnt_pos;have h2:=y.cnt_pos;have e:(BT.cut (decide (o=2)) a x y).cnt=1+x.cnt+y.cnt:=rfl;have e0:Za3 o a 0 false (some x) (some y)=some (BT.cut (decide (o=2)) a x y):=by simp[Za3]
   rw[e0];have hx:=Xo m x;have hy:=Xo m y;have hc:=Xo m (BT.cut (decide (o=2)) a x y);rw[e] at hc;generalize Zn m (some x)=sx at *;generalize Zn m (some y)=sy at *;generalize Zn m (some (BT.cut (decide (o=2)) a x y))=sc at *;split<;>omega
theorem Znl (m o a:Int) (l r:Option BT):Zn m (Za3 o a 0 false l r)=if Zn (m-1) l<0∨Zn (m-1-Zn (m-1) l) r<0 then -1 else 1+Zn (m-1) l+Zn (m-1-Zn (m-1) l) r:=by
 cases l with
 | none=>simp[Za3,Zn]
 | some x=>cases r with
  | none=>simp[Za3,Zn]
  | some y=>
   have h1:=x.cnt_pos;have h2:=y.cnt_pos;have e:(BT.cut (decide (o=2)) a x y).cnt=1+x.cnt+y.cnt:=rfl;have e0:Za3 o a 0 false (some x) (some y)=some (BT.cut (decide (o=2)) a x y):=by simp[Za3]
   rw[e0];have hx:=Xo (m-1) x;have hy:=Xo (m-1-Zn (m-1) (some x)) y;have hc:=Xo m (BT.cut (decide (o=2)) a x y);rw[e] at hc;generalize Zn (m-1-Zn (m-1) (some x)) (some y)=sy at *;generalize Zn (m-1) (some x)=sx at *;generalize Zn m (some (BT.cut (decide (o=2)) a x y))=sc at *;split<;>omega
theorem ZoU {m:Int} (h:m<1) (b:Option BT):Zn m b=-1:=by
 cases b with
 | none=>rfl
 | some b=>
  have:=b.cnt_pos;have:=Xo m b;omega
def W9 (ps:List Pane) (i:Int) (t:Bool) (w h:Int):Bool:=decide (0≤i)&&(match ps[i.toNat]? with
 | some q=>if t then q.Turns&&decide (¬q.W=q.H)&&decide (q.H=w)&&decide (q.W=h) else decide (q.W=w∧q.H=h)
 | none=>false)
def Xh (ps:List Pane):BT→Int→Int→Bool
 | .waste,_,_=>true
 | .pane i t,w,h=>W9 ps i t w h
 | .cut d a l r,w,h=>if d then decide (1≤a∧a≤w-1)&&Xh ps l a h&&Xh ps r (w-a) h
   else decide (1≤a∧a≤h-1)&&Xh ps l w a&&Xh ps r w (h-a)
def VPs (ps:List Pane):Prop:=∀ q∈ps,VP q
instance (ps:List Pane):Decidable (VPs ps):=by unfold VPs;infer_instance
def VW (k:Zz):Prop:=1≤k.W∧k.W≤200∧1≤k.H∧k.H≤200∧k.Panes.length≤24∧VPs k.Panes
instance (k:Zz):Decidable (VW k):=by unfold VW;infer_instance
theorem Znm {ps:List Pane} {k:Nat} {x:Pane} (hx:ps[k]?=some x):VPs (ps.drop k)↔VP x∧VPs (ps.drop (k+1)):=by
 obtain⟨h1,h2⟩:=Kc.1 hx;rw[KS h1,h2];simp[VPs]
end Go.Abs.L
set_option linter.unusedVariables false
set_option linter.unusedSimpArgs false
namespace Go.Abs.L
open Go Go.Abs Go.Abs.E
structure Part where
 plan:Ze
 box:Box
def Part.enc (p:Part):D:=.agg (p.plan.enc.cells++[.int .i64 p.box.X,.int .i64 p.box.Y,.int .i64 p.box.W,.int .i64 p.box.H])
@[go_sem] theorem Part.enc_mk (o a p:Int) (t:Bool) (ks:List Ze) (x y w h:Int):Part.enc ⟨.mk o a p t ks,⟨x,y,w,h⟩⟩ =
  .agg [.int .i64 o,.int .i64 a,.int .i64 p,.bool t,.sl (ks.map Ze.enc),.int .i64 x,.int .i64 y,.int .i64 w,.int .i64 h]:=by
 simp only[Part.enc,Ze.enc_mk];rfl
theorem Part.enc_len (p:Part):(Part.enc p).cells.length=9:=by
 show (p.plan.enc.cells++_).length=9;rw[Ks,Ze.enc_len];rfl
@[go_sem] theorem uni_Part (l:List Part):uni 9 (l.map Part.enc)=True:=eq_true (JH l Part.enc_len)
def pt:BT→Int→Int→Int→Int→List Part
 | .waste,x,y,w,h=>[⟨BT.waste.plan,⟨x,y,w,h⟩⟩]
 | .pane i t,x,y,w,h=>[⟨(BT.pane i t).plan,⟨x,y,w,h⟩⟩]
 | .cut d a l r,x,y,w,h=>⟨(BT.cut d a l r).plan,⟨x,y,w,h⟩⟩ :: if d then pt l x y a h++pt r (x+a) y (w-a) h else pt l x y w a++pt r x (y+a) w (h-a)
def sp:BT→Int→Int→Int→Int→List XZ
 | .waste,x,y,w,h=>[⟨-1,false,⟨x,y,w,h⟩⟩]
 | .pane i t,x,y,w,h=>[⟨i,t,⟨x,y,w,h⟩⟩]
 | .cut d a l r,x,y,w,h=>if d then sp l x y a h++sp r (x+a) y (w-a) h else sp l x y w a++sp r x (y+a) w (h-a)
def plc:BT→Int→Int→Int→Int→List XZ
 | .waste,x,y,w,h=>[]
 | .pane i t,x,y,w,h=>[⟨i,t,⟨x,y,w,h⟩⟩]
 | .cut d a l r,x,y,w,h=>if d then plc l x y a h++plc r (x+a) y (w-a) h else plc l x y w a++plc r x (y+a) w (h-a)
def wst:BT→Int→Int→Int→Int→List Box
 | .waste,x,y,w,h=>[⟨x,y,w,h⟩]
 | .pane i t,x,y,w,h=>[]
 | .cut d a l r,x,y,w,h=>if d then wst l x y a h++wst r (x+a) y (w-a) h else wst l x y w a++wst r x (y+a) w (h-a)
def PN:BT→Prop
 | .waste=>True
 | .pane i _=>0≤i
 | .cut _ _ l r=>PN l∧PN r
def opP:Ze→Int
 | .mk o _ _ _ _=>o
def Yo (q:Part):Option XZ:=match q.plan with
 | .mk o _ p t _=>if o=1 then some ⟨p,t,q.box⟩ else none
def XP (q:Part):Option Box:=match q.plan with
 | .mk o _ _ _ _=>if o=0 then some q.box else none
theorem Zc6:∀ (b:BT) (x y w h:Int),(pt b x y w h).filterMap Yo=plc b x y w h
 | .waste,x,y,w,h=>rfl
 | .pane i t,x,y,w,h=>rfl
 | .cut d a l r,x,y,w,h=>by
  have e:Yo ⟨(BT.cut d a l r).plan,⟨x,y,w,h⟩⟩=none:=by cases d<;>rfl
  cases d<;>simp[pt,plc,Ll,LM,e,Zc6]
theorem Zc7:∀ (b:BT) (x y w h:Int),(pt b x y w h).filterMap XP=wst b x y w h
 | .waste,x,y,w,h=>rfl
 | .pane i t,x,y,w,h=>rfl
 | .cut d a l r,x,y,w,h=>by
  have e:XP ⟨(BT.cut d a l r).plan,⟨x,y,w,h⟩⟩=none:=by cases d<;>rfl
  cases d<;>simp[pt,wst,Ll,LM,e,Zc7]
def JL (q:XZ):Option XZ:=if 0≤q.Pane then some q else none
def JM (q:XZ):Option Box:=if q.Pane<0 then some q.Box else none
theorem ZfC:∀ (b:BT) (x y w h:Int),PN b→(sp b x y w h).filterMap JL=plc b x y w h
 | .waste,x,y,w,h,_=>rfl
 | .pane i t,x,y,w,h,hp=>by
  have hp:0≤i:=hp;simp[sp,plc,JL,hp]
 | .cut d a l r,x,y,w,h,hp=>by
  cases d<;>simp[sp,plc,Ll,ZfC l _ _ _ _ hp.1,ZfC r _ _ _ _ hp.2]
theorem ZfD:∀ (b:BT) (x y w h:Int),PN b→(sp b x y w h).filterMap JM=wst b x y w h
 | .waste,x,y,w,h,_=>rfl
 | .pane i t,x,y,w,h,hp=>by
  have hp:¬i<0:=by have:0≤i:=hp;omega
  simp[sp,wst,JM,hp]
 | .cut d a l r,x,y,w,h,hp=>by
  cases d<;>simp[sp,wst,Ll,ZfD l _ _ _ _ hp.1,ZfD r _ _ _ _ hp.2]
theorem Zcg:∀ (b:BT) (x y w h:Int),(pt b x y w h).length=b.cnt
 | .waste,x,y,w,h=>rfl
 | .pane i t,x,y,w,h=>rfl
 | .cut d a l r,x,y,w,h=>by
  cases d<;>simp[pt,BT.cnt,Zcg]<;>omega
theorem J5:∀ (b:BT) (x y w h:Int),(sp b x y w h).length≤b.cnt
 | .waste,x,y,w,h=>by simp[sp,BT.cnt]
 | .pane i t,x,y,w,h=>by simp[sp,BT.cnt]
 | .cut d a l r,x,y,w,h=>by
  cases d
  ·have h1:=J5 l x y w a;have h2:=J5 r x (y+a) w (h-a);simp[sp,BT.cnt];omega
  ·have h1:=J5 l x y a h;have h2:=J5 r (x+a) y (w-a) h;simp[sp,BT.cnt];omega
theorem JN {α β:Type} {l:List α} {f:α→Option β} {k:Nat} {x:α} (hx:l[k]?=some x):(l.take (k+1)).filterMap f=(l.take k).filterMap f++(f x).toList:=by
 obtain⟨h1,h2⟩:=Kc.1 hx;rw[List.take_succ_eq_append_getElem h1,h2,Ll];cases hf:f x<;>simp[hf]
theorem Zc8 {ps:List Pane}:∀ {b:BT} {w h:Int},Xh ps b w h=true→PN b
 | .waste,_,_,_=>trivial
 | .pane i t,w,h,hf=>by
  simp only[Xh,W9,Kb,Ko] at hf;exact hf.1
 | .cut d a l r,w,h,hf=>by
  cases d
  ·simp only[Xh,Kb,Ka,Ki] at hf;exact⟨Zc8 hf.1.2,Zc8 hf.2⟩
  ·simp only[Xh,Kb,Kj] at hf;exact⟨Zc8 hf.1.2,Zc8 hf.2⟩
def Xi (k:Zz) (p:Ze):List Part:=match Xg p with
 | some b=>if decide (VW k)&&decide (b.cnt≤255)&&Xh k.Panes b k.W k.H then pt b 0 0 k.W k.H else []
 | none=>[]
def WD (k:Zz) (p:Ze):Bool:=match Xg p with
 | some b=>decide (VW k)&&decide (b.cnt≤255)&&Xh k.Panes b k.W k.H
 | none=>false
theorem U8 {k:Zz} {p:Ze} (h:WD k p=true):∃ b,Xg p=some b∧p=b.plan∧VW k∧b.cnt≤255∧Xh k.Panes b k.W k.H=true∧Xi k p=pt b 0 0 k.W k.H:=by
 have h':=h;unfold WD at h;split at h
 ·rename_i b hb;refine⟨b,hb,Zc5 hb,?_⟩;unfold Xi;rw[hb];dsimp only;rw[Kt h];simp only[Kb,Ko] at h;exact⟨h.1.1,h.1.2,h.2,rfl⟩
 ·cases h
theorem ZaB {α:Type} {l:List α} {k:Nat} {x:α} (hx:l[k]?=some x) (P:α→Prop):(∀ y∈l.drop k,P y)↔P x∧∀ y∈l.drop (k+1),P y:=by
 obtain⟨h1,h2⟩:=Kc.1 hx;rw[KS h1,h2];simp
def U9 (w h:Int) (f:Box):Prop:=VB f∧Ye f ⟨0,0,w,h⟩
instance (w h:Int) (f:Box):Decidable (U9 w h f):=by unfold U9;infer_instance
def VPc (q:Zf):Prop:=(1≤q.Label∧q.Label≤9999∧1≤q.W∧q.W≤200∧1≤q.H∧q.H≤200∧q.Flaws.length≤6)∧∀ f∈q.Flaws,U9 q.W q.H f
instance (q:Zf):Decidable (VPc q):=by unfold VPc;infer_instance
def Qe (fs:List Box) (b:Box):Prop:=∀ f∈fs,¬Y4 f b
instance (fs:List Box) (b:Box):Decidable (Qe fs b):=by unfold Qe;infer_instance
def Yp (q:Zf) (k:Zz) (p:Ze):Prop:=WD k p=true∧k.W=q.W∧k.H=q.H∧∀ c∈(Xi k p).filterMap Yo,Qe q.Flaws c.Box
instance (q:Zf) (k:Zz) (p:Ze):Decidable (Yp q k p):=by unfold Yp;infer_instance
def Zd1 (x y w h:Int) (c:Box):Prop:=1≤c.W∧1≤c.H∧x≤c.X∧y≤c.Y∧c.X+c.W≤x+w∧c.Y+c.H≤y+h
theorem Zic {ps:List Pane}:∀ {b:BT} {x y w h:Int},Xh ps b w h=true→1≤w→1≤h→∀ c∈plc b x y w h,Zd1 x y w h c.Box
 | .waste,x,y,w,h,hf,h1,h2,c,hc=>by simp[plc] at hc
 | .pane i t,x,y,w,h,hf,h1,h2,c,hc=>by
  simp only[plc,KU] at hc;subst hc;simp only[Zd1];omega
 | .cut d a l r,x,y,w,h,hf,h1,h2,c,hc=>by
  cases d
  ·simp only[Xh,Kb,Ka,Ki,Ko] at hf;simp only[plc,Ka,Ki,Kd] at hc;rcases hc with hc | hc
   ·have:=Zic hf.1.2 (by omega) (by omega) c hc;simp only[Zd1] at this ⊢;omega
   ·have:=Zic hf.2 (by omega) (by omega) c hc;simp only[Zd1] at this ⊢;omega
  ·simp only[Xh,Kb,Kj,Ko] at hf;simp only[plc,Kj,Kd] at hc;rcases hc with hc | hc
   ·have:=Zic hf.1.2 (by omega) (by omega) c hc;simp only[Zd1] at this ⊢;omega
   ·have:=Zic hf.2 (by omega) (by omega) c hc;simp only[Zd1] at this ⊢;omega
theorem ZfE {ps:List Pane}:∀ {b:BT} {x y w h:Int},Xh ps b w h=true→1≤w→1≤h→∀ c∈wst b x y w h,Zd1 x y w h c
 | .waste,x,y,w,h,hf,h1,h2,c,hc=>by
  simp only[wst,KU] at hc;subst hc;simp only[Zd1];omega
 | .pane i t,x,y,w,h,hf,h1,h2,c,hc=>by simp[wst] at hc
 | .cut d a l r,x,y,w,h,hf,h1,h2,c,hc=>by
  cases d
  ·simp only[Xh,Kb,Ka,Ki,Ko] at hf;simp only[wst,Ka,Ki,Kd] at hc;rcases hc with hc | hc
   ·have:=ZfE hf.1.2 (by omega) (by omega) c hc;simp only[Zd1] at this ⊢;omega
   ·have:=ZfE hf.2 (by omega) (by omega) c hc;simp only[Zd1] at this ⊢;omega
  ·simp only[Xh,Kb,Kj,Ko] at hf;simp only[wst,Kj,Kd] at hc;rcases hc with hc | hc
   ·have:=ZfE hf.1.2 (by omega) (by omega) c hc;simp only[Zd1] at this ⊢;omega
   ·have:=ZfE hf.2 (by omega) (by omega) c hc;simp only[Zd1] at this ⊢;omega
def VJ:List Box→Int
 | []=>0
 | c :: l=>c.W*c.H+VJ l
theorem ZeP (a b:List Box):VJ (a++b)=VJ a+VJ b:=by
 induction a with
 | nil=>simp[VJ]
 | cons c l ih=>simp only[KI,VJ,ih];omega
theorem ZeQ {ps:List Pane}:∀ {b:BT} {x y w h:Int},VJ (wst b x y w h)+VJ ((plc b x y w h).map XZ.Box)=w*h
 | .waste,x,y,w,h=>by simp[wst,plc,VJ]
 | .pane i t,x,y,w,h=>by simp[wst,plc,VJ]
 | .cut d a l r,x,y,w,h=>by
  cases d
  ·have h1:=ZeQ (ps:=ps) (b:=l) (x:=x) (y:=y) (w:=w) (h:=a);have h2:=ZeQ (ps:=ps) (b:=r) (x:=x) (y:=y+a) (w:=w) (h:=h-a);have h3:w*(h-a)=w*h-w*a:=Int.mul_sub w h a;simp only[wst,plc,Ka,Ki,ZeP,List.map_append];omega
  ·have h1:=ZeQ (ps:=ps) (b:=l) (x:=x) (y:=y) (w:=a) (h:=h);have h2:=ZeQ (ps:=ps) (b:=r) (x:=x+a) (y:=y) (w:=w-a) (h:=h);have h3:(w-a)*h=w*h-a*h:=Int.sub_mul w a h;simp only[wst,plc,Kj,ZeP,List.map_append];omega
theorem Zg9:∀ (b:BT) (x y w h:Int),(wst b x y w h).length≤b.cnt
 | .waste,x,y,w,h=>by simp[wst,BT.cnt]
 | .pane i t,x,y,w,h=>by simp[wst,BT.cnt]
 | .cut d a l r,x,y,w,h=>by
  cases d
  ·have h1:=Zg9 l x y w a;have h2:=Zg9 r x (y+a) w (h-a);simp[wst,BT.cnt];omega
  ·have h1:=Zg9 l x y a h;have h2:=Zg9 r (x+a) y (w-a) h;simp[wst,BT.cnt];omega
theorem ZeR {k:Zz} {p:Ze} {b:BT} (hv:VW k) (hf:Xh k.Panes b k.W k.H=true):∀ c∈plc b 0 0 k.W k.H,VB c.Box:=by
 intro c hc;obtain⟨h1,h2,h3,h4,_⟩:=hv;have:=Zic hf h1 h3 c hc;simp only[Zd1] at this;simp only[VB];omega
theorem ZeS {k:Zz} {p:Ze} {b:BT} (hv:VW k) (hf:Xh k.Panes b k.W k.H=true):∀ c∈wst b 0 0 k.W k.H,VB c:=by
 intro c hc;obtain⟨h1,h2,h3,h4,_⟩:=hv;have:=ZfE hf h1 h3 c hc;simp only[Zd1] at this;simp only[VB];omega
def ZlN (b m:Box):Box:=⟨m.X-b.X,m.Y-b.Y,m.W,m.H⟩
def Xp (b f:Box):Option Box:=if Y4 f b then some (ZlN b (Zb7 f b)) else none
def ZfF (q:Zf) (b:Box) (label:Int):Zf:=⟨label,b.W,b.H,q.Flaws.filterMap (Xp b)⟩
theorem ZoV {q:Zf} {b:Box} {aa:Int} (hq:VPc q) (hb:VB b) (hi:Ye b ⟨0,0,q.W,q.H⟩) (h1:1≤aa) (h2:aa≤9999):VPc (ZfF q b aa):=by
 simp only[VB] at hb;refine⟨⟨h1,h2,?_,?_,?_,?_,KD (Kq _ _) hq.1.2.2.2.2.2.2⟩,?_⟩
 ·show 1≤b.W;omega
 ·show b.W≤200;omega
 ·show 1≤b.H;omega
 ·show b.H≤200;omega
 ·intro f hf;obtain⟨g,hg,ab⟩:=List.mem_filterMap.1 hf;have ad:=hq.2 g hg;unfold Xp at ab;split at ab
  ·rename_i hm;cases ab;simp only[U9,VB,Ye] at ad;simp only[Y4] at hm;simp only[U9,VB,Ye,ZlN,Zb7,ZfF];omega
  ·cases ab
def Vd (Zg:Int) (b:Box):Option Box:=if Zg≤b.W∧Zg≤b.H then some b else none
def VC (q:Zf):Int→List Box→List Zf
 | _,[]=>[]
 | n,b :: l=>ZfF q b n :: VC q (n+1) l
theorem Zch (q:Zf):∀ (n:Int) (a b:List Box),VC q n (a++b)=VC q n a++VC q (n+a.length) b
 | n,[],b=>by simp[VC]
 | n,x :: a,b=>by
  simp only[KI,VC,Zch q (n+1) a b,Kp];congr 3
  omega
theorem Ja (q:Zf):∀ (n:Int) (a:List Box),(VC q n a).length=a.length
 | n,[]=>rfl
 | n,x :: a=>by simp[VC,Ja q (n+1) a]
theorem ZqV (q:Zf) (n:Int) {l:List Box} {i:Nat} {x:Box} (hx:l[i]?=some x):VC q n (l.take (i+1))=VC q n (l.take i)++[ZfF q x (n+i)]:=by
 obtain⟨h1,h2⟩:=Kc.1 hx;rw[List.take_succ_eq_append_getElem h1,h2,Zch];simp only[VC,Ld,Nat.min_eq_left (Nat.le_of_lt h1)]
def Qz (k:Zz) (p:Ze) (Zg:Int):List Box:=((Xi k p).filterMap XP).filterMap (Vd Zg)
theorem Zid {k:Zz} {p:Ze} {Zg:Int} (hv:WD k p=true):∀ b∈Qz k p Zg,VB b∧Ye b ⟨0,0,k.W,k.H⟩:=by
 intro b hb;obtain⟨t,_,_,hw,_,hf,hp⟩:=U8 hv;unfold Qz at hb;rw[hp,Zc7] at hb;obtain⟨c,hc,aa⟩:=List.mem_filterMap.1 hb;unfold Vd at aa;split at aa
 ·cases aa;refine⟨ZeS (p:=p) hw hf b hc,?_⟩;obtain⟨h1,h2,h3,h4,_⟩:=hw;have:=ZfE hf h1 h3 b hc;simp only[Zd1] at this;simp only[Ye];omega
 ·cases aa
theorem Zc9 (k:Zz) (p:Ze) (Zg:Int):(Qz k p Zg).length≤255:=by
 unfold Qz;refine KD (Kq _ _) (KD (Kq _ _) ?_);unfold Xi;split
 ·split
  ·rename_i h;simp only[Kb,Ko] at h;rw[Zcg];exact h.1.2
  ·simp
 ·simp
def remn (q:Zf) (k:Zz) (p:Ze) (Zg label:Int):List Zf:=
 if (VPc q∧Yp q k p)∧1≤Zg∧Zg≤200∧1≤label∧label≤9999∧(Qz k p Zg).length≤10000-label then VC q label (Qz k p Zg) else []
def ZpX (Zg:Int) (b:Box):Option Box:=if b.W<Zg∨b.H<Zg then some b else none
def lostL (k:Zz) (p:Ze) (Zg:Int):List Box:=((Xi k p).filterMap XP).filterMap (ZpX Zg)
theorem Ztt {b:Box} (h:VB b):0≤b.W*b.H∧b.W*b.H≤40000:=by
 simp only[VB] at h;have h1:0≤b.W*b.H:=Int.mul_nonneg (by omega) (by omega);have h2:b.W*b.H≤200*200:=Int.mul_le_mul (by omega) (by omega) (by omega) (by omega);omega
theorem ZrV:∀ {l:List Box},(∀ b∈l,VB b)→0≤VJ l∧VJ l≤40000*l.length
 | [],_=>by simp[VJ]
 | b :: l,h=>by
  have h1:=Ztt (h b (by simp));have h2:=ZrV (l:=l) fun c hc=>h c (by simp[hc]);simp only[VJ,Kp];omega
theorem Zie (Zg:Int):∀ (l:List Box),VJ (l.filterMap (Vd Zg))+VJ (l.filterMap (ZpX Zg))=VJ l
 | []=>by simp[VJ]
 | b :: l=>by
  have ih:=Zie Zg l;by_cases h:Zg≤b.W∧Zg≤b.H
  ·have h' : ¬(b.W<Zg∨b.H<Zg):=by omega
   simp only[LM,Vd,ZpX,Kt h,Kn h',VJ];omega
  ·have h' : b.W<Zg∨b.H<Zg:=by omega
   simp only[LM,Vd,ZpX,Kn h,Kt h',VJ];omega
theorem ZqW {k:Zz} {p:Ze} (hv:WD k p=true):∀ b∈(Xi k p).filterMap XP,VB b:=by
 obtain⟨t,_,_,hw,_,hf,hp⟩:=U8 hv;rw[hp,Zc7];exact ZeS (p:=p) hw hf
attribute [go_sem] ite_self Bool.false_eq_true
end Go.Abs.L
