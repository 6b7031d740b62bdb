/- Own text. -/
import Derived.Test.YtighjmleicikhaaAbsLib
set_option linter.unusedVariables false
set_option linter.unusedSimpArgs false
namespace Go.Abs.L
open Go Go.Abs Go.Abs.E
inductive BT where
 | waste
 | pane (i:Int) (t:Bool)
 | cut (d:Bool) (a:Int) (l r:BT)
deriving DecidableEq,Inhabited
def opOf (d:Bool):Int:=if d then 2 else 3
def BT.plan:BT→ZH
 | .waste=>.mk 0 0 0 false []
 | .pane i t=>.mk 1 0 i t []
 | .cut d a l r=>.mk (opOf d) a 0 false [l.plan,r.plan]
def BT.cnt:BT→Nat
 | .waste=>1
 | .pane _ _=>1
 | .cut _ _ l r=>1+l.cnt+r.cnt
theorem BT.cnt_pos (b:BT):1≤b.cnt:=by cases b<;>simp[BT.cnt]<;>omega
def ZH.nodes:ZH→Nat
 | .mk _ _ _ _ ks=>1+nodesL ks
where nodesL:List ZH→Nat
 | []=>0
 | p :: r=>ZH.nodes p+nodesL r
def US (o a p:Int) (t:Bool) (l r:Option BT):Option BT:=match l,r with
 | some x,some y=>if p=0∧t=false then some (.cut (decide (o=2)) a x y) else none
 | _,_=>none
mutual
def VI:ZH→Option BT
 | .mk o a p t ks=>if o=2∨o=3 then ZiF o a p t ks else
   if ks.length=0∧a=0∧o=1 then some (.pane p t) else
   if ks.length=0∧a=0∧o=0∧p=0∧t=false then some .waste else none
def ZiF (o a p:Int) (t:Bool):List ZH→Option BT
 | []=>none
 | x :: r=>ZkE o a p t (VI x) r
def ZkE (o a p:Int) (t:Bool) (l:Option BT):List ZH→Option BT
 | []=>none
 | y :: r=>match r with
  | []=>US o a p t l (VI y)
  | _=>none
end
theorem ZeI (o a p:Int) (t:Bool) (x y:ZH) (ho:o=2∨o=3):VI (.mk o a p t [x,y])=US o a p t (VI x) (VI y):=by
 simp[VI,ZiF,ZkE,ho]
theorem ZlK (o a p:Int) (t:Bool) (ks:List ZH) (ho:o=2∨o=3) (hk:ks.length≠2):VI (.mk o a p t ks)=none:=by
 match ks,hk with
 | [],_=>simp[VI,ZiF,ho]
 | [x],_=>simp[VI,ZiF,ZkE,ho]
 | [x,y],h=>simp at h
 | x :: y :: z :: r,_=>simp[VI,ZiF,ZkE,ho]
theorem Zgn:∀ b:BT,VI b.plan=some b
 | .waste=>by simp[BT.plan,VI]
 | .pane i t=>by simp[BT.plan,VI]
 | .cut d a l r=>by
  rw[BT.plan,ZeI _ _ _ _ _ _ (by cases d<;>simp[opOf]),Zgn l,Zgn r];cases d<;>simp[US,opOf]
theorem UT:∀ (n:Nat) (p:ZH) (b:BT),p.nodes≤n→VI p=some b→p=b.plan
 | 0,.mk o a p t ks,b,hn,_=>by simp[ZH.nodes] at hn
 | n+1,.mk o a p t ks,b,hn,h=>by
  by_cases ho:o=2∨o=3
  ·by_cases hk:ks.length=2
   ·match ks,hk with
    | [x,y],_=>
     rw[ZeI _ _ _ _ _ _ ho] at h;simp only[ZH.nodes,ZH.nodes.nodesL] at hn;cases hx:VI x with
     | none=>simp[hx,US] at h
     | some bx=>
      cases hy:VI y with
      | none=>simp[hx,hy,US] at h
      | some bY=>
       have e1:=UT n x bx (by omega) hx;have e2:=UT n y bY (by omega) hy;simp only[hx,hy,US] at h;split at h
       ·rename_i hc;cases h;obtain⟨rfl,rfl⟩:=hc;rw[BT.plan,← e1,← e2];rcases ho with rfl | rfl<;>rfl
       ·cases h
   ·rw[ZlK _ _ _ _ _ ho hk] at h;cases h
  ·simp only[VI,ho,Kh] at h;split at h
   ·rename_i hc;cases h;obtain⟨h1,rfl,rfl⟩:=hc;cases ks with
    | nil=>rfl
    | cons x r=>simp at h1
   ·split at h
    ·rename_i hc;cases h;obtain⟨h1,rfl,rfl,rfl,rfl⟩:=hc;cases ks with
     | nil=>rfl
     | cons x r=>simp at h1
    ·cases h
theorem ZlL {p:ZH} {b:BT} (h:VI p=some b):p=b.plan:=UT _ p b (Kg _) h
theorem toBT_two' {o a p:Int} {t:Bool} {ks:List ZH} {x y:ZH} (ho:o=2∨o=3) (hk:ks.length=2) (h0:ks[0]?=some x) (h1:ks[1]?=some y):VI (.mk o a p t ks)=US o a p t (VI x) (VI y):=by
 match ks,hk with
 | [x',y'],_=>
  simp at h0 h1;subst h0;subst h1;exact ZeI _ _ _ _ _ _ ho
theorem ZeJ:∀ {ks:List ZH} {i:Nat} {x:ZH},ks[i]?=some x→x.nodes≤ZH.nodes.nodesL ks
 | [],i,x,h=>by simp at h
 | y :: ks,0,x,h=>by simp at h;subst h;simp[ZH.nodes.nodesL]
 | y :: ks,i+1,x,h=>by
  have:=ZeJ (ks:=ks) (i:=i) (x:=x) (by simpa using h);simp only[ZH.nodes.nodesL];omega
theorem nodes_get {o a p:Int} {t:Bool} {ks:List ZH} {i:Nat} {x:ZH} {n:Nat} (hn:(ZH.mk o a p t ks).nodes≤n+1) (h:ks[i]?=some x):x.nodes≤n:=by
 have:=ZeJ h;simp only[ZH.nodes] at hn;omega
theorem ZH.enc_len (x:ZH):(ZH.enc x).cells.length=5:=by
 obtain⟨o,a,p,t,k⟩:=x;rw[ZH.enc_mk];rfl
theorem ZH.enc_agg (x:ZH):D.agg (ZH.enc x).cells=ZH.enc x:=by
 obtain⟨o,a,p,t,k⟩:=x;rw[ZH.enc_mk];rfl
theorem ZH.take_enc (x:ZH):(ZH.enc x).cells.take 5=(ZH.enc x).cells:=La (by rw[ZH.enc_len x];omega)
attribute [go_sem] ZH.enc_len ZH.enc_agg ZH.take_enc
theorem Zpk {o a p:Int} {t:Bool} {ks:List ZH} (ho:¬(o=2∨o=3)):VI (.mk o a p t ks)=if ks.length=0∧a=0∧o=1 then some (.pane p t) else
   if ks.length=0∧a=0∧o=0∧p=0∧t=false then some .waste else none:=by
 simp only[VI,ho,Kh]
def ZP (m:Int):Option BT→Int
 | some b=>if (b.cnt:Int)≤m then (b.cnt:Int) else -1
 | none=>-1
theorem ZnS (m:Int) (h0:0≤m) (b:Option BT) : -1≤ZP m b∧ZP m b≤m∧ZP m b≠0:=by
 cases b with
 | none=>simp[ZP];omega
 | some b=>
  have:=b.cnt_pos;simp only[ZP];split<;>omega
theorem X1 (m:Int) (b:BT):((b.cnt:Int)≤m∧ZP m (some b)=b.cnt)∨(m<(b.cnt:Int)∧ZP m (some b)=-1):=by
 unfold ZP;by_cases h:(b.cnt:Int)≤m
 ·left;exact⟨h,Kw h⟩
 ·right;exact⟨by omega,Kn h⟩
theorem Zpl (m o a p:Int) (t:Bool) (l r:Option BT) (h:¬(p=0∧t=false)):ZP m (US o a p t l r)=-1:=by
 cases l with
 | none=>rfl
 | some x=>cases r with
  | none=>rfl
  | some y=>simp only[US,Kn h,ZP]
theorem Zpm (m o a:Int) (l r:Option BT):ZP m (US o a 0 false l r)=if ZP m l<0∨ZP m r<0∨m<1+ZP m l+ZP m r then -1 else 1+ZP m l+ZP m r:=by
 cases l with
 | none=>simp[US,ZP]
 | some x=>cases r with
  | none=>simp[US,ZP]
  | some y=>
   have h1:=x.cnt_pos;have h2:=y.cnt_pos;have e:(BT.cut (decide (o=2)) a x y).cnt=1+x.cnt+y.cnt:=rfl;have e0:US o a 0 false (some x) (some y)=some (BT.cut (decide (o=2)) a x y):=by simp[US]
   rw[e0];have hx:=X1 m x;have hy:=X1 m y;have hc:=X1 m (BT.cut (decide (o=2)) a x y);rw[e] at hc;generalize ZP m (some x)=sx at *;generalize ZP m (some y)=sy at *;generalize ZP m (some (BT.cut (decide (o=2)) a x y))=sc at *;split<;>omega
theorem ZoF (m o a:Int) (l r:Option BT):ZP m (US o a 0 false l r)=if ZP (m-1) l<0∨ZP (m-1-ZP (m-1) l) r<0 then -1 else 1+ZP (m-1) l+ZP (m-1-ZP (m-1) l) r:=by
 cases l with
 | none=>simp[US,ZP]
 | some x=>cases r with
  | none=>simp[US,ZP]
  | some y=>
   have h1:=x.cnt_pos;have h2:=y.cnt_pos;have e:(BT.cut (decide (o=2)) a x y).cnt=1+x.cnt+y.cnt:=rfl;have e0:US o a 0 false (some x) (some y)=some (BT.cut (decide (o=2)) a x y):=by simp[US]
   rw[e0];have hx:=X1 (m-1) x;have hy:=X1 (m-1-ZP (m-1) (some x)) y;have hc:=X1 m (BT.cut (decide (o=2)) a x y);rw[e] at hc;generalize ZP (m-1-ZP (m-1) (some x)) (some y)=sy at *;generalize ZP (m-1) (some x)=sx at *;generalize ZP m (some (BT.cut (decide (o=2)) a x y))=sc at *;split<;>omega
theorem Zpn {m:Int} (h:m<1) (b:Option BT):ZP m b=-1:=by
 cases b with
 | none=>rfl
 | some b=>
  have:=b.cnt_pos;have:=X1 m b;omega
def ZiG (ps:List Pane) (i:Int) (t:Bool) (w h:Int):Bool:=decide (0≤i)&&(match ps[i.toNat]? with
 | some q=>if t then q.Turns&&decide (¬q.W=q.H)&&decide (q.H=w)&&decide (q.W=h) else decide (q.W=w∧q.H=h)
 | none=>false)
def UU (ps:List Pane):BT→Int→Int→Bool
 | .waste,_,_=>true
 | .pane i t,w,h=>ZiG ps i t w h
 | .cut d a l r,w,h=>if d then decide (1≤a∧a≤w-1)&&UU ps l a h&&UU ps r (w-a) h
   else decide (1≤a∧a≤h-1)&&UU ps l w a&&UU ps r w (h-a)
def VPs (ps:List Pane):Prop:=∀ q∈ps,VP q
instance (ps:List Pane):Decidable (VPs ps):=by unfold VPs;infer_instance
def VW (k:WK):Prop:=1≤k.W∧k.W≤200∧1≤k.H∧k.H≤200∧k.Panes.length≤24∧VPs k.Panes
instance (k:WK):Decidable (VW k):=by unfold VW;infer_instance
theorem VPs_drop {ps:List Pane} {k:Nat} {x:Pane} (hx:ps[k]?=some x):VPs (ps.drop k)↔VP x∧VPs (ps.drop (k+1)):=by
 obtain⟨h1,h2⟩:=Kb.1 hx;rw[Lb h1,h2];simp[VPs]
end Go.Abs.L
set_option linter.unusedVariables false
set_option linter.unusedSimpArgs false
namespace Go.Abs.L
open Go Go.Abs Go.Abs.E
structure Part where
 plan:ZH
 box:Box
def Part.enc (p:Part):D:=.agg (p.plan.enc.cells++[.int .i64 p.box.X,.int .i64 p.box.Y,.int .i64 p.box.W,.int .i64 p.box.H])
@[go_sem] theorem Part.enc_mk (o a p:Int) (t:Bool) (ks:List ZH) (x y w h:Int):Part.enc ⟨.mk o a p t ks,⟨x,y,w,h⟩⟩ =
  .agg [.int .i64 o,.int .i64 a,.int .i64 p,.bool t,.sl (ks.map ZH.enc),.int .i64 x,.int .i64 y,.int .i64 w,.int .i64 h]:=by
 simp only[Part.enc,ZH.enc_mk];rfl
theorem Part.enc_len (p:Part):(Part.enc p).cells.length=9:=by
 show (p.plan.enc.cells++_).length=9;rw[Ko,ZH.enc_len];rfl
@[go_sem] theorem uni_Part (l:List Part):uni 9 (l.map Part.enc)=True:=eq_true (WR l Part.enc_len)
def pt:BT→Int→Int→Int→Int→List Part
 | .waste,x,y,w,h=>[⟨BT.waste.plan,⟨x,y,w,h⟩⟩]
 | .pane i t,x,y,w,h=>[⟨(BT.pane i t).plan,⟨x,y,w,h⟩⟩]
 | .cut d a l r,x,y,w,h=>⟨(BT.cut d a l r).plan,⟨x,y,w,h⟩⟩ :: if d then pt l x y a h++pt r (x+a) y (w-a) h else pt l x y w a++pt r x (y+a) w (h-a)
def sp:BT→Int→Int→Int→Int→List Vd
 | .waste,x,y,w,h=>[⟨-1,false,⟨x,y,w,h⟩⟩]
 | .pane i t,x,y,w,h=>[⟨i,t,⟨x,y,w,h⟩⟩]
 | .cut d a l r,x,y,w,h=>if d then sp l x y a h++sp r (x+a) y (w-a) h else sp l x y w a++sp r x (y+a) w (h-a)
def plc:BT→Int→Int→Int→Int→List Vd
 | .waste,x,y,w,h=>[]
 | .pane i t,x,y,w,h=>[⟨i,t,⟨x,y,w,h⟩⟩]
 | .cut d a l r,x,y,w,h=>if d then plc l x y a h++plc r (x+a) y (w-a) h else plc l x y w a++plc r x (y+a) w (h-a)
def wst:BT→Int→Int→Int→Int→List Box
 | .waste,x,y,w,h=>[⟨x,y,w,h⟩]
 | .pane i t,x,y,w,h=>[]
 | .cut d a l r,x,y,w,h=>if d then wst l x y a h++wst r (x+a) y (w-a) h else wst l x y w a++wst r x (y+a) w (h-a)
def PN:BT→Prop
 | .waste=>True
 | .pane i _=>0≤i
 | .cut _ _ l r=>PN l∧PN r
def opP:ZH→Int
 | .mk o _ _ _ _=>o
def Zhl (q:Part):Option Vd:=match q.plan with
 | .mk o _ p t _=>if o=1 then some ⟨p,t,q.box⟩ else none
def ZbJ (q:Part):Option Box:=match q.plan with
 | .mk o _ _ _ _=>if o=0 then some q.box else none
theorem ZlM:∀ (b:BT) (x y w h:Int),(pt b x y w h).filterMap Zhl=plc b x y w h
 | .waste,x,y,w,h=>rfl
 | .pane i t,x,y,w,h=>rfl
 | .cut d a l r,x,y,w,h=>by
  have e:Zhl ⟨(BT.cut d a l r).plan,⟨x,y,w,h⟩⟩=none:=by cases d<;>rfl
  cases d<;>simp[pt,plc,Lw,LU,e,ZlM]
theorem Zcp:∀ (b:BT) (x y w h:Int),(pt b x y w h).filterMap ZbJ=wst b x y w h
 | .waste,x,y,w,h=>rfl
 | .pane i t,x,y,w,h=>rfl
 | .cut d a l r,x,y,w,h=>by
  have e:ZbJ ⟨(BT.cut d a l r).plan,⟨x,y,w,h⟩⟩=none:=by cases d<;>rfl
  cases d<;>simp[pt,wst,Lw,LU,e,Zcp]
def ZkF (q:Vd):Option Vd:=if 0≤q.Pane then some q else none
def ZkG (q:Vd):Option Box:=if q.Pane<0 then some q.Box else none
theorem Zgo:∀ (b:BT) (x y w h:Int),PN b→(sp b x y w h).filterMap ZkF=plc b x y w h
 | .waste,x,y,w,h,_=>rfl
 | .pane i t,x,y,w,h,hp=>by
  have hp:0≤i:=hp;simp[sp,plc,ZkF,hp]
 | .cut d a l r,x,y,w,h,hp=>by
  cases d<;>simp[sp,plc,Lw,Zgo l _ _ _ _ hp.1,Zgo r _ _ _ _ hp.2]
theorem Zgp:∀ (b:BT) (x y w h:Int),PN b→(sp b x y w h).filterMap ZkG=wst b x y w h
 | .waste,x,y,w,h,_=>rfl
 | .pane i t,x,y,w,h,hp=>by
  have hp:¬i<0:=by have:0≤i:=hp;omega
  simp[sp,wst,ZkG,hp]
 | .cut d a l r,x,y,w,h,hp=>by
  cases d<;>simp[sp,wst,Lw,Zgp l _ _ _ _ hp.1,Zgp r _ _ _ _ hp.2]
theorem ZmL:∀ (b:BT) (x y w h:Int),(pt b x y w h).length=b.cnt
 | .waste,x,y,w,h=>rfl
 | .pane i t,x,y,w,h=>rfl
 | .cut d a l r,x,y,w,h=>by
  cases d<;>simp[pt,BT.cnt,ZmL]<;>omega
theorem Zhm:∀ (b:BT) (x y w h:Int),(sp b x y w h).length≤b.cnt
 | .waste,x,y,w,h=>by simp[sp,BT.cnt]
 | .pane i t,x,y,w,h=>by simp[sp,BT.cnt]
 | .cut d a l r,x,y,w,h=>by
  cases d
  ·have h1:=Zhm l x y w a;have h2:=Zhm r x (y+a) w (h-a);simp[sp,BT.cnt];omega
  ·have h1:=Zhm l x y a h;have h2:=Zhm r (x+a) y (w-a) h;simp[sp,BT.cnt];omega
theorem fm_take {α β:Type} {l:List α} {f:α→Option β} {k:Nat} {x:α} (hx:l[k]?=some x):(l.take (k+1)).filterMap f=(l.take k).filterMap f++(f x).toList:=by
 obtain⟨h1,h2⟩:=Kb.1 hx;rw[List.take_succ_eq_append_getElem h1,h2,Lw];cases hf:f x<;>simp[hf]
theorem ZdK {ps:List Pane}:∀ {b:BT} {w h:Int},UU ps b w h=true→PN b
 | .waste,_,_,_=>trivial
 | .pane i t,w,h,hf=>by
  simp only[UU,ZiG,Kc,KB] at hf;exact hf.1
 | .cut d a l r,w,h,hf=>by
  cases d
  ·simp only[UU,Kc,Ka,Kh] at hf;exact⟨ZdK hf.1.2,ZdK hf.2⟩
  ·simp only[UU,Kc,Ki] at hf;exact⟨ZdK hf.1.2,ZdK hf.2⟩
def Za4 (k:WK) (p:ZH):List Part:=match VI p with
 | some b=>if decide (VW k)&&decide (b.cnt≤255)&&UU k.Panes b k.W k.H then pt b 0 0 k.W k.H else []
 | none=>[]
def ZiH (k:WK) (p:ZH):Bool:=match VI p with
 | some b=>decide (VW k)&&decide (b.cnt≤255)&&UU k.Panes b k.W k.H
 | none=>false
theorem ZeK {k:WK} {p:ZH} (h:ZiH k p=true):∃ b,VI p=some b∧p=b.plan∧VW k∧b.cnt≤255∧UU k.Panes b k.W k.H=true∧Za4 k p=pt b 0 0 k.W k.H:=by
 have h':=h;unfold ZiH at h;split at h
 ·rename_i b hb;refine⟨b,hb,ZlL hb,?_⟩;unfold Za4;rw[hb];dsimp only;rw[Kw h];simp only[Kc,KB] at h;exact⟨h.1.1,h.1.2,h.2,rfl⟩
 ·cases h
theorem all_drop {α:Type} {l:List α} {k:Nat} {x:α} (hx:l[k]?=some x) (P:α→Prop):(∀ y∈l.drop k,P y)↔P x∧∀ y∈l.drop (k+1),P y:=by
 obtain⟨h1,h2⟩:=Kb.1 hx;rw[Lb h1,h2];simp
def ZeL (w h:Int) (f:Box):Prop:=VB f∧Jw f ⟨0,0,w,h⟩
instance (w h:Int) (f:Box):Decidable (ZeL w h f):=by unfold ZeL;infer_instance
def VPc (q:Xt):Prop:=(1≤q.Label∧q.Label≤9999∧1≤q.W∧q.W≤200∧1≤q.H∧q.H≤200∧q.Flaws.length≤6)∧∀ f∈q.Flaws,ZeL q.W q.H f
instance (q:Xt):Decidable (VPc q):=by unfold VPc;infer_instance
def Zhn (fs:List Box) (b:Box):Prop:=∀ f∈fs,¬Ziv f b
instance (fs:List Box) (b:Box):Decidable (Zhn fs b):=by unfold Zhn;infer_instance
def ZmM (q:Xt) (k:WK) (p:ZH):Prop:=ZiH k p=true∧k.W=q.W∧k.H=q.H∧∀ c∈(Za4 k p).filterMap Zhl,Zhn q.Flaws c.Box
instance (q:Xt) (k:WK) (p:ZH):Decidable (ZmM q k p):=by unfold ZmM;infer_instance
def Za5 (x y w h:Int) (c:Box):Prop:=1≤c.W∧1≤c.H∧x≤c.X∧y≤c.Y∧c.X+c.W≤x+w∧c.Y+c.H≤y+h
theorem ZeM {ps:List Pane}:∀ {b:BT} {x y w h:Int},UU ps b w h=true→1≤w→1≤h→∀ c∈plc b x y w h,Za5 x y w h c.Box
 | .waste,x,y,w,h,hf,h1,h2,c,hc=>by simp[plc] at hc
 | .pane i t,x,y,w,h,hf,h1,h2,c,hc=>by
  simp only[plc,KV] at hc;subst hc;simp only[Za5];omega
 | .cut d a l r,x,y,w,h,hf,h1,h2,c,hc=>by
  cases d
  ·simp only[UU,Kc,Ka,Kh,KB] at hf;simp only[plc,Ka,Kh,Kd] at hc;rcases hc with hc | hc
   ·have:=ZeM hf.1.2 (by omega) (by omega) c hc;simp only[Za5] at this ⊢;omega
   ·have:=ZeM hf.2 (by omega) (by omega) c hc;simp only[Za5] at this ⊢;omega
  ·simp only[UU,Kc,Ki,KB] at hf;simp only[plc,Ki,Kd] at hc;rcases hc with hc | hc
   ·have:=ZeM hf.1.2 (by omega) (by omega) c hc;simp only[Za5] at this ⊢;omega
   ·have:=ZeM hf.2 (by omega) (by omega) c hc;simp only[Za5] at this ⊢;omega
theorem Zcq {ps:List Pane}:∀ {b:BT} {x y w h:Int},UU ps b w h=true→1≤w→1≤h→∀ c∈wst b x y w h,Za5 x y w h c
 | .waste,x,y,w,h,hf,h1,h2,c,hc=>by
  simp only[wst,KV] at hc;subst hc;simp only[Za5];omega
 | .pane i t,x,y,w,h,hf,h1,h2,c,hc=>by simp[wst] at hc
 | .cut d a l r,x,y,w,h,hf,h1,h2,c,hc=>by
  cases d
  ·simp only[UU,Kc,Ka,Kh,KB] at hf;simp only[wst,Ka,Kh,Kd] at hc;rcases hc with hc | hc
   ·have:=Zcq hf.1.2 (by omega) (by omega) c hc;simp only[Za5] at this ⊢;omega
   ·have:=Zcq hf.2 (by omega) (by omega) c hc;simp only[Za5] at this ⊢;omega
  ·simp only[UU,Kc,Ki,KB] at hf;simp only[wst,Ki,Kd] at hc;rcases hc with hc | hc
   ·have:=Zcq hf.1.2 (by omega) (by omega) c hc;simp only[Za5] at this ⊢;omega
   ·have:=Zcq hf.2 (by omega) (by omega) c hc;simp only[Za5] at this ⊢;omega
def YF:List Box→Int
 | []=>0
 | c :: l=>c.W*c.H+YF l
theorem ZbK (a b:List Box):YF (a++b)=YF a+YF b:=by
 induction a with
 | nil=>simp[YF]
 | cons c l ih=>simp only[KX,YF,ih];omega
theorem ZbL {ps:List Pane}:∀ {b:BT} {x y w h:Int},YF (wst b x y w h)+YF ((plc b x y w h).map Vd.Box)=w*h
 | .waste,x,y,w,h=>by simp[wst,plc,YF]
 | .pane i t,x,y,w,h=>by simp[wst,plc,YF]
 | .cut d a l r,x,y,w,h=>by
  cases d
  ·have h1:=ZbL (ps:=ps) (b:=l) (x:=x) (y:=y) (w:=w) (h:=a);have h2:=ZbL (ps:=ps) (b:=r) (x:=x) (y:=y+a) (w:=w) (h:=h-a);have h3:w*(h-a)=w*h-w*a:=Int.mul_sub w h a;simp only[wst,plc,Ka,Kh,ZbK,K3];omega
  ·have h1:=ZbL (ps:=ps) (b:=l) (x:=x) (y:=y) (w:=a) (h:=h);have h2:=ZbL (ps:=ps) (b:=r) (x:=x+a) (y:=y) (w:=w-a) (h:=h);have h3:(w-a)*h=w*h-a*h:=Int.sub_mul w a h;simp only[wst,plc,Ki,ZbK,K3];omega
theorem ZdL:∀ (b:BT) (x y w h:Int),(wst b x y w h).length≤b.cnt
 | .waste,x,y,w,h=>by simp[wst,BT.cnt]
 | .pane i t,x,y,w,h=>by simp[wst,BT.cnt]
 | .cut d a l r,x,y,w,h=>by
  cases d
  ·have h1:=ZdL l x y w a;have h2:=ZdL r x (y+a) w (h-a);simp[wst,BT.cnt];omega
  ·have h1:=ZdL l x y a h;have h2:=ZdL r (x+a) y (w-a) h;simp[wst,BT.cnt];omega
theorem ZnT {k:WK} {p:ZH} {b:BT} (hv:VW k) (hf:UU k.Panes b k.W k.H=true):∀ c∈plc b 0 0 k.W k.H,VB c.Box:=by
 intro c hc;obtain⟨h1,h2,h3,h4,_⟩:=hv;have:=ZeM hf h1 h3 c hc;simp only[Za5] at this;simp only[VB];omega
theorem ZbM {k:WK} {p:ZH} {b:BT} (hv:VW k) (hf:UU k.Panes b k.W k.H=true):∀ c∈wst b 0 0 k.W k.H,VB c:=by
 intro c hc;obtain⟨h1,h2,h3,h4,_⟩:=hv;have:=Zcq hf h1 h3 c hc;simp only[Za5] at this;simp only[VB];omega
def ZmN (b m:Box):Box:=⟨m.X-b.X,m.Y-b.Y,m.W,m.H⟩
def ZkH (b f:Box):Option Box:=if Ziv f b then some (ZmN b (meetB f b)) else none
def cutP (q:Xt) (b:Box) (label:Int):Xt:=⟨label,b.W,b.H,q.Flaws.filterMap (ZkH b)⟩
theorem Zpo {q:Xt} {b:Box} {aa:Int} (hq:VPc q) (hb:VB b) (hi:Jw b ⟨0,0,q.W,q.H⟩) (h1:1≤aa) (h2:aa≤9999):VPc (cutP q b aa):=by
 simp only[VB] at hb;refine⟨⟨h1,h2,?_,?_,?_,?_,Ly (List.length_filterMap_le _ _) hq.1.2.2.2.2.2.2⟩,?_⟩
 ·show 1≤b.W;omega
 ·show b.W≤200;omega
 ·show 1≤b.H;omega
 ·show b.H≤200;omega
 ·intro f hf;obtain⟨g,hg,ab⟩:=List.mem_filterMap.1 hf;have ad:=hq.2 g hg;unfold ZkH at ab;split at ab
  ·rename_i hm;cases ab;simp only[ZeL,VB,Jw] at ad;simp only[Ziv] at hm;simp only[ZeL,VB,Jw,ZmN,meetB,cutP];omega
  ·cases ab
def ZiI (QQ:Int) (b:Box):Option Box:=if QQ≤b.W∧QQ≤b.H then some b else none
def Zdv (q:Xt):Int→List Box→List Xt
 | _,[]=>[]
 | n,b :: l=>cutP q b n :: Zdv q (n+1) l
theorem Zdj (q:Xt):∀ (n:Int) (a b:List Box),Zdv q n (a++b)=Zdv q n a++Zdv q (n+a.length) b
 | n,[],b=>by simp[Zdv]
 | n,x :: a,b=>by
  simp only[KX,Zdv,Zdj q (n+1) a b,Kv];congr 3
  omega
theorem ZmO (q:Xt):∀ (n:Int) (a:List Box),(Zdv q n a).length=a.length
 | n,[]=>rfl
 | n,x :: a=>by simp[Zdv,ZmO q (n+1) a]
theorem cutN_take (q:Xt) (n:Int) {l:List Box} {i:Nat} {x:Box} (hx:l[i]?=some x):Zdv q n (l.take (i+1))=Zdv q n (l.take i)++[cutP q x (n+i)]:=by
 obtain⟨h1,h2⟩:=Kb.1 hx;rw[List.take_succ_eq_append_getElem h1,h2,Zdj];simp only[Zdv,KQ,Nat.min_eq_left (Nat.le_of_lt h1)]
def Zgq (k:WK) (p:ZH) (QQ:Int):List Box:=((Za4 k p).filterMap ZbJ).filterMap (ZiI QQ)
theorem keptL_in {k:WK} {p:ZH} {QQ:Int} (hv:ZiH k p=true):∀ b∈Zgq k p QQ,VB b∧Jw b ⟨0,0,k.W,k.H⟩:=by
 intro b hb;obtain⟨t,_,_,hw,_,hf,hp⟩:=ZeK hv;unfold Zgq at hb;rw[hp,Zcp] at hb;obtain⟨c,hc,aa⟩:=List.mem_filterMap.1 hb;unfold ZiI at aa;split at aa
 ·cases aa;refine⟨ZbM (p:=p) hw hf b hc,?_⟩;obtain⟨h1,h2,h3,h4,_⟩:=hw;have:=Zcq hf h1 h3 b hc;simp only[Za5] at this;simp only[Jw];omega
 ·cases aa
theorem keptL_len (k:WK) (p:ZH) (QQ:Int):(Zgq k p QQ).length≤255:=by
 unfold Zgq;refine Ly (List.length_filterMap_le _ _) (Ly (List.length_filterMap_le _ _) ?_);unfold Za4;split
 ·split
  ·rename_i h;simp only[Kc,KB] at h;rw[ZmL];exact h.1.2
  ·simp
 ·simp
def remn (q:Xt) (k:WK) (p:ZH) (QQ label:Int):List Xt:=
 if (VPc q∧ZmM q k p)∧1≤QQ∧QQ≤200∧1≤label∧label≤9999∧(Zgq k p QQ).length≤10000-label then Zdv q label (Zgq k p QQ) else []
def ZkI (QQ:Int) (b:Box):Option Box:=if b.W<QQ∨b.H<QQ then some b else none
def lostL (k:WK) (p:ZH) (QQ:Int):List Box:=((Za4 k p).filterMap ZbJ).filterMap (ZkI QQ)
theorem ZnU {b:Box} (h:VB b):0≤b.W*b.H∧b.W*b.H≤40000:=by
 simp only[VB] at h;have h1:0≤b.W*b.H:=Int.mul_nonneg (by omega) (by omega);have h2:b.W*b.H≤200*200:=Int.mul_le_mul (by omega) (by omega) (by omega) (by omega);omega
theorem ZmP:∀ {l:List Box},(∀ b∈l,VB b)→0≤YF l∧YF l≤40000*l.length
 | [],_=>by simp[YF]
 | b :: l,h=>by
  have h1:=ZnU (h b (by simp));have h2:=ZmP (l:=l) fun c hc=>h c (by simp[hc]);simp only[YF,Kv];omega
theorem ZeN (QQ:Int):∀ (l:List Box),YF (l.filterMap (ZiI QQ))+YF (l.filterMap (ZkI QQ))=YF l
 | []=>by simp[YF]
 | b :: l=>by
  have ih:=ZeN QQ l;by_cases h:QQ≤b.W∧QQ≤b.H
  ·have h' : ¬(b.W<QQ∨b.H<QQ):=by omega
   simp only[LU,ZiI,ZkI,Kw h,Kn h',YF];omega
  ·have h' : b.W<QQ∨b.H<QQ:=by omega
   simp only[LU,ZiI,ZkI,Kn h,Kw h',YF];omega
theorem wastes_VB {k:WK} {p:ZH} (hv:ZiH k p=true):∀ b∈(Za4 k p).filterMap ZbJ,VB b:=by
 obtain⟨t,_,_,hw,_,hf,hp⟩:=ZeK hv;rw[hp,Zcp];exact ZbM (p:=p) hw hf
attribute [go_sem] ite_self Bool.false_eq_true
end Go.Abs.L
