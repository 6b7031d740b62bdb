/- Own text. -/
import Derived.Test.YtnachaiejoflhaaAbsPlan
set_option linter.unusedVariables false
set_option linter.unusedSimpArgs false
namespace Go.Abs.L
open Go Go.Abs Go.Abs.E
structure Part where
 plan:Zj
 box:Box
def Part.enc (p:Part):D:=.agg (p.plan.enc.cells++[.int .i64 p.box.X,.int .i64 p.box.Y,.int .i64 p.box.W,.int .i64 p.box.H])
@[go_sem] theorem Part.enc_mk (o a p:Int) (t:Bool) (ks:List Zj) (x y w h:Int):Part.enc ⟨.mk o a p t ks,⟨x,y,w,h⟩⟩ =
  .agg [.int .i64 o,.int .i64 a,.int .i64 p,.bool t,.sl (ks.map Zj.enc),.int .i64 x,.int .i64 y,.int .i64 w,.int .i64 h]:=by
 simp only[Part.enc,Zj.enc_mk];rfl
theorem Part.enc_len (p:Part):(Part.enc p).cells.length=9:=by
 show (p.plan.enc.cells++_).length=9;rw[KR,Zj.enc_len];rfl
@[go_sem] theorem uni_Part (l:List Part):uni 9 (l.map Part.enc)=True:=eq_true (WE l Part.enc_len)
def pt:BT→Int→Int→Int→Int→List Part
 | .waste,x,y,w,h=>[⟨BT.waste.plan,⟨x,y,w,h⟩⟩]
 | .pane i t,x,y,w,h=>[⟨(BT.pane i t).plan,⟨x,y,w,h⟩⟩]
 | .cut d a l r,x,y,w,h=>⟨(BT.cut d a l r).plan,⟨x,y,w,h⟩⟩ :: if d then pt l x y a h++pt r (x+a) y (w-a) h else pt l x y w a++pt r x (y+a) w (h-a)
def sp:BT→Int→Int→Int→Int→List Place
 | .waste,x,y,w,h=>[⟨-1,false,⟨x,y,w,h⟩⟩]
 | .pane i t,x,y,w,h=>[⟨i,t,⟨x,y,w,h⟩⟩]
 | .cut d a l r,x,y,w,h=>if d then sp l x y a h++sp r (x+a) y (w-a) h else sp l x y w a++sp r x (y+a) w (h-a)
def plc:BT→Int→Int→Int→Int→List Place
 | .waste,x,y,w,h=>[]
 | .pane i t,x,y,w,h=>[⟨i,t,⟨x,y,w,h⟩⟩]
 | .cut d a l r,x,y,w,h=>if d then plc l x y a h++plc r (x+a) y (w-a) h else plc l x y w a++plc r x (y+a) w (h-a)
def wst:BT→Int→Int→Int→Int→List Box
 | .waste,x,y,w,h=>[⟨x,y,w,h⟩]
 | .pane i t,x,y,w,h=>[]
 | .cut d a l r,x,y,w,h=>if d then wst l x y a h++wst r (x+a) y (w-a) h else wst l x y w a++wst r x (y+a) w (h-a)
def PN:BT→Prop
 | .waste=>True
 | .pane i _=>0≤i
 | .cut _ _ l r=>PN l∧PN r
def opP:Zj→Int
 | .mk o _ _ _ _=>o
def Zfe (q:Part):Option Place:=match q.plan with
 | .mk o _ p t _=>if o=1 then some ⟨p,t,q.box⟩ else none
def ZcW (q:Part):Option Box:=match q.plan with
 | .mk o _ _ _ _=>if o=0 then some q.box else none
theorem Zis:∀ (b:BT) (x y w h:Int),(pt b x y w h).filterMap Zfe=plc b x y w h
 | .waste,x,y,w,h=>rfl
 | .pane i t,x,y,w,h=>rfl
 | .cut d a l r,x,y,w,h=>by
  have e:Zfe ⟨(BT.cut d a l r).plan,⟨x,y,w,h⟩⟩=none:=by cases d<;>rfl
  cases d<;>simp[pt,plc,Ls,LP,e,Zis]
theorem ZdJ:∀ (b:BT) (x y w h:Int),(pt b x y w h).filterMap ZcW=wst b x y w h
 | .waste,x,y,w,h=>rfl
 | .pane i t,x,y,w,h=>rfl
 | .cut d a l r,x,y,w,h=>by
  have e:ZcW ⟨(BT.cut d a l r).plan,⟨x,y,w,h⟩⟩=none:=by cases d<;>rfl
  cases d<;>simp[pt,wst,Ls,LP,e,ZdJ]
def Znj (q:Place):Option Place:=if 0≤q.Pane then some q else none
def Znk (q:Place):Option Box:=if q.Pane<0 then some q.Box else none
theorem Zit:∀ (b:BT) (x y w h:Int),PN b→(sp b x y w h).filterMap Znj=plc b x y w h
 | .waste,x,y,w,h,_=>rfl
 | .pane i t,x,y,w,h,hp=>by
  have hp:0≤i:=hp;simp[sp,plc,Znj,hp]
 | .cut d a l r,x,y,w,h,hp=>by
  cases d<;>simp[sp,plc,Ls,Zit l _ _ _ _ hp.1,Zit r _ _ _ _ hp.2]
theorem Ziu:∀ (b:BT) (x y w h:Int),PN b→(sp b x y w h).filterMap Znk=wst b x y w h
 | .waste,x,y,w,h,_=>rfl
 | .pane i t,x,y,w,h,hp=>by
  have hp:¬i<0:=by have:0≤i:=hp;omega
  simp[sp,wst,Znk,hp]
 | .cut d a l r,x,y,w,h,hp=>by
  cases d<;>simp[sp,wst,Ls,Ziu l _ _ _ _ hp.1,Ziu r _ _ _ _ hp.2]
theorem Zpo:∀ (b:BT) (x y w h:Int),(pt b x y w h).length=b.cnt
 | .waste,x,y,w,h=>rfl
 | .pane i t,x,y,w,h=>rfl
 | .cut d a l r,x,y,w,h=>by
  cases d<;>simp[pt,BT.cnt,Zpo]<;>omega
theorem Zjz:∀ (b:BT) (x y w h:Int),(sp b x y w h).length≤b.cnt
 | .waste,x,y,w,h=>by simp[sp,BT.cnt]
 | .pane i t,x,y,w,h=>by simp[sp,BT.cnt]
 | .cut d a l r,x,y,w,h=>by
  cases d
  ·have h1:=Zjz l x y w a;have h2:=Zjz r x (y+a) w (h-a);simp[sp,BT.cnt];omega
  ·have h1:=Zjz l x y a h;have h2:=Zjz r (x+a) y (w-a) h;simp[sp,BT.cnt];omega
theorem fm_take {α β:Type} {l:List α} {f:α→Option β} {k:Nat} {x:α} (hx:l[k]?=some x):(l.take (k+1)).filterMap f=(l.take k).filterMap f++(f x).toList:=by
 obtain⟨h1,h2⟩:=Kd.1 hx;rw[List.take_succ_eq_append_getElem h1,h2,Ls];cases hf:f x<;>simp[hf]
theorem Zff {ps:List Pane}:∀ {b:BT} {w h:Int},Vc ps b w h=true→PN b
 | .waste,_,_,_=>trivial
 | .pane i t,w,h,hf=>by
  simp only[Vc,Xt,Kb,Kr] at hf;exact hf.1
 | .cut d a l r,w,h,hf=>by
  cases d
  ·simp only[Vc,Kb,Ka,Kg] at hf;exact⟨Zff hf.1.2,Zff hf.2⟩
  ·simp only[Vc,Kb,Kh] at hf;exact⟨Zff hf.1.2,Zff hf.2⟩
def JK (k:Qs) (p:Zj):List Part:=match Wd p with
 | some b=>if decide (VW k)&&decide (b.cnt≤255)&&Vc k.Panes b k.W k.H then pt b 0 0 k.W k.H else []
 | none=>[]
def Zgf (k:Qs) (p:Zj):Bool:=match Wd p with
 | some b=>decide (VW k)&&decide (b.cnt≤255)&&Vc k.Panes b k.W k.H
 | none=>false
theorem Zgg {k:Qs} {p:Zj} (h:Zgf k p=true):∃ b,Wd p=some b∧p=b.plan∧VW k∧b.cnt≤255∧Vc k.Panes b k.W k.H=true∧JK k p=pt b 0 0 k.W k.H:=by
 have h':=h;unfold Zgf at h;split at h
 ·rename_i b hb;refine⟨b,hb,Zok hb,?_⟩;unfold JK;rw[hb];dsimp only;rw[Ko h];simp only[Kb,Kr] at h;exact⟨h.1.1,h.1.2,h.2,rfl⟩
 ·cases h
theorem all_drop {α:Type} {l:List α} {k:Nat} {x:α} (hx:l[k]?=some x) (P:α→Prop):(∀ y∈l.drop k,P y)↔P x∧∀ y∈l.drop (k+1),P y:=by
 obtain⟨h1,h2⟩:=Kd.1 hx;rw[K8 h1,h2];simp
def Zgh (w h:Int) (f:Box):Prop:=VB f∧Qp f ⟨0,0,w,h⟩
instance (w h:Int) (f:Box):Decidable (Zgh w h f):=by unfold Zgh;infer_instance
def VPc (q:Xr):Prop:=(1≤q.Label∧q.Label≤9999∧1≤q.W∧q.W≤200∧1≤q.H∧q.H≤200∧q.Flaws.length≤6)∧∀ f∈q.Flaws,Zgh q.W q.H f
instance (q:Xr):Decidable (VPc q):=by unfold VPc;infer_instance
def ZjA (fs:List Box) (b:Box):Prop:=∀ f∈fs,¬Xl f b
instance (fs:List Box) (b:Box):Decidable (ZjA fs b):=by unfold ZjA;infer_instance
def Zpp (q:Xr) (k:Qs) (p:Zj):Prop:=Zgf k p=true∧k.W=q.W∧k.H=q.H∧∀ c∈(JK k p).filterMap Zfe,ZjA q.Flaws c.Box
instance (q:Xr) (k:Qs) (p:Zj):Decidable (Zpp q k p):=by unfold Zpp;infer_instance
def Zcb (x y w h:Int) (c:Box):Prop:=1≤c.W∧1≤c.H∧x≤c.X∧y≤c.Y∧c.X+c.W≤x+w∧c.Y+c.H≤y+h
theorem Zgi {ps:List Pane}:∀ {b:BT} {x y w h:Int},Vc ps b w h=true→1≤w→1≤h→∀ c∈plc b x y w h,Zcb x y w h c.Box
 | .waste,x,y,w,h,hf,h1,h2,c,hc=>by simp[plc] at hc
 | .pane i t,x,y,w,h,hf,h1,h2,c,hc=>by
  simp only[plc,KW] at hc;subst hc;simp only[Zcb];omega
 | .cut d a l r,x,y,w,h,hf,h1,h2,c,hc=>by
  cases d
  ·simp only[Vc,Kb,Ka,Kg,Kr] at hf;simp only[plc,Ka,Kg,Kc] at hc;rcases hc with hc | hc
   ·have:=Zgi hf.1.2 (by omega) (by omega) c hc;simp only[Zcb] at this ⊢;omega
   ·have:=Zgi hf.2 (by omega) (by omega) c hc;simp only[Zcb] at this ⊢;omega
  ·simp only[Vc,Kb,Kh,Kr] at hf;simp only[plc,Kh,Kc] at hc;rcases hc with hc | hc
   ·have:=Zgi hf.1.2 (by omega) (by omega) c hc;simp only[Zcb] at this ⊢;omega
   ·have:=Zgi hf.2 (by omega) (by omega) c hc;simp only[Zcb] at this ⊢;omega
theorem ZdK {ps:List Pane}:∀ {b:BT} {x y w h:Int},Vc ps b w h=true→1≤w→1≤h→∀ c∈wst b x y w h,Zcb x y w h c
 | .waste,x,y,w,h,hf,h1,h2,c,hc=>by
  simp only[wst,KW] at hc;subst hc;simp only[Zcb];omega
 | .pane i t,x,y,w,h,hf,h1,h2,c,hc=>by simp[wst] at hc
 | .cut d a l r,x,y,w,h,hf,h1,h2,c,hc=>by
  cases d
  ·simp only[Vc,Kb,Ka,Kg,Kr] at hf;simp only[wst,Ka,Kg,Kc] at hc;rcases hc with hc | hc
   ·have:=ZdK hf.1.2 (by omega) (by omega) c hc;simp only[Zcb] at this ⊢;omega
   ·have:=ZdK hf.2 (by omega) (by omega) c hc;simp only[Zcb] at this ⊢;omega
  ·simp only[Vc,Kb,Kh,Kr] at hf;simp only[wst,Kh,Kc] at hc;rcases hc with hc | hc
   ·have:=ZdK hf.1.2 (by omega) (by omega) c hc;simp only[Zcb] at this ⊢;omega
   ·have:=ZdK hf.2 (by omega) (by omega) c hc;simp only[Zcb] at this ⊢;omega
def Y3:List Box→Int
 | []=>0
 | c :: l=>c.W*c.H+Y3 l
theorem ZcX (a b:List Box):Y3 (a++b)=Y3 a+Y3 b:=by
 induction a with
 | nil=>simp[Y3]
 | cons c l ih=>simp only[KL,Y3,ih];omega
theorem ZcY {ps:List Pane}:∀ {b:BT} {x y w h:Int},Y3 (wst b x y w h)+Y3 ((plc b x y w h).map Place.Box)=w*h
 | .waste,x,y,w,h=>by simp[wst,plc,Y3]
 | .pane i t,x,y,w,h=>by simp[wst,plc,Y3]
 | .cut d a l r,x,y,w,h=>by
  cases d
  ·have h1:=ZcY (ps:=ps) (b:=l) (x:=x) (y:=y) (w:=w) (h:=a);have h2:=ZcY (ps:=ps) (b:=r) (x:=x) (y:=y+a) (w:=w) (h:=h-a);have h3:w*(h-a)=w*h-w*a:=Int.mul_sub w h a;simp only[wst,plc,Ka,Kg,ZcX,KS];omega
  ·have h1:=ZcY (ps:=ps) (b:=l) (x:=x) (y:=y) (w:=a) (h:=h);have h2:=ZcY (ps:=ps) (b:=r) (x:=x+a) (y:=y) (w:=w-a) (h:=h);have h3:(w-a)*h=w*h-a*h:=Int.sub_mul w a h;simp only[wst,plc,Kh,ZcX,KS];omega
theorem Zfg:∀ (b:BT) (x y w h:Int),(wst b x y w h).length≤b.cnt
 | .waste,x,y,w,h=>by simp[wst,BT.cnt]
 | .pane i t,x,y,w,h=>by simp[wst,BT.cnt]
 | .cut d a l r,x,y,w,h=>by
  cases d
  ·have h1:=Zfg l x y w a;have h2:=Zfg r x (y+a) w (h-a);simp[wst,BT.cnt];omega
  ·have h1:=Zfg l x y a h;have h2:=Zfg r (x+a) y (w-a) h;simp[wst,BT.cnt];omega
theorem ZqR {k:Qs} {p:Zj} {b:BT} (hv:VW k) (hf:Vc k.Panes b k.W k.H=true):∀ c∈plc b 0 0 k.W k.H,VB c.Box:=by
 intro c hc;obtain⟨h1,h2,h3,h4,_⟩:=hv;have:=Zgi hf h1 h3 c hc;simp only[Zcb] at this;simp only[VB];omega
theorem ZcZ {k:Qs} {p:Zj} {b:BT} (hv:VW k) (hf:Vc k.Panes b k.W k.H=true):∀ c∈wst b 0 0 k.W k.H,VB c:=by
 intro c hc;obtain⟨h1,h2,h3,h4,_⟩:=hv;have:=ZdK hf h1 h3 c hc;simp only[Zcb] at this;simp only[VB];omega
def Zpq (b m:Box):Box:=⟨m.X-b.X,m.Y-b.Y,m.W,m.H⟩
def Znl (b f:Box):Option Box:=if Xl f b then some (Zpq b (ZcN f b)) else none
def cutP (q:Xr) (b:Box) (label:Int):Xr:=⟨label,b.W,b.H,q.Flaws.filterMap (Znl b)⟩
theorem Zsk {q:Xr} {b:Box} {aa:Int} (hq:VPc q) (hb:VB b) (hi:Qp b ⟨0,0,q.W,q.H⟩) (h1:1≤aa) (h2:aa≤9999):VPc (cutP q b aa):=by
 simp only[VB] at hb;refine⟨⟨h1,h2,?_,?_,?_,?_,K7 (List.length_filterMap_le _ _) hq.1.2.2.2.2.2.2⟩,?_⟩
 ·show 1≤b.W;omega
 ·show b.W≤200;omega
 ·show 1≤b.H;omega
 ·show b.H≤200;omega
 ·intro f hf;obtain⟨g,hg,ab⟩:=List.mem_filterMap.1 hf;have ad:=hq.2 g hg;unfold Znl at ab;split at ab
  ·rename_i hm;cases ab;simp only[Zgh,VB,Qp] at ad;simp only[Xl] at hm;simp only[Zgh,VB,Qp,Zpq,ZcN,cutP];omega
  ·cases ab
def Zk0 (Q4:Int) (b:Box):Option Box:=if Q4≤b.W∧Q4≤b.H then some b else none
def ZeS (q:Xr):Int→List Box→List Xr
 | _,[]=>[]
 | n,b :: l=>cutP q b n :: ZeS q (n+1) l
theorem ZeD (q:Xr):∀ (n:Int) (a b:List Box),ZeS q n (a++b)=ZeS q n a++ZeS q (n+a.length) b
 | n,[],b=>by simp[ZeS]
 | n,x :: a,b=>by
  simp only[KL,ZeS,ZeD q (n+1) a b,KC];congr 3
  omega
theorem Zpr (q:Xr):∀ (n:Int) (a:List Box),(ZeS q n a).length=a.length
 | n,[]=>rfl
 | n,x :: a=>by simp[ZeS,Zpr q (n+1) a]
theorem cutN_take (q:Xr) (n:Int) {l:List Box} {i:Nat} {x:Box} (hx:l[i]?=some x):ZeS q n (l.take (i+1))=ZeS q n (l.take i)++[cutP q x (n+i)]:=by
 obtain⟨h1,h2⟩:=Kd.1 hx;rw[List.take_succ_eq_append_getElem h1,h2,ZeD];simp only[ZeS,Ll,Nat.min_eq_left (Nat.le_of_lt h1)]
def Ziv (k:Qs) (p:Zj) (Q4:Int):List Box:=((JK k p).filterMap ZcW).filterMap (Zk0 Q4)
theorem keptL_in {k:Qs} {p:Zj} {Q4:Int} (hv:Zgf k p=true):∀ b∈Ziv k p Q4,VB b∧Qp b ⟨0,0,k.W,k.H⟩:=by
 intro b hb;obtain⟨t,_,_,hw,_,hf,hp⟩:=Zgg hv;unfold Ziv at hb;rw[hp,ZdJ] at hb;obtain⟨c,hc,aa⟩:=List.mem_filterMap.1 hb;unfold Zk0 at aa;split at aa
 ·cases aa;refine⟨ZcZ (p:=p) hw hf b hc,?_⟩;obtain⟨h1,h2,h3,h4,_⟩:=hw;have:=ZdK hf h1 h3 b hc;simp only[Zcb] at this;simp only[Qp];omega
 ·cases aa
theorem keptL_len (k:Qs) (p:Zj) (Q4:Int):(Ziv k p Q4).length≤255:=by
 unfold Ziv;refine K7 (List.length_filterMap_le _ _) (K7 (List.length_filterMap_le _ _) ?_);unfold JK;split
 ·split
  ·rename_i h;simp only[Kb,Kr] at h;rw[Zpo];exact h.1.2
  ·simp
 ·simp
def remn (q:Xr) (k:Qs) (p:Zj) (Q4 label:Int):List Xr:=
 if (VPc q∧Zpp q k p)∧1≤Q4∧Q4≤200∧1≤label∧label≤9999∧(Ziv k p Q4).length≤10000-label then ZeS q label (Ziv k p Q4) else []
def Znm (Q4:Int) (b:Box):Option Box:=if b.W<Q4∨b.H<Q4 then some b else none
def lostL (k:Qs) (p:Zj) (Q4:Int):List Box:=((JK k p).filterMap ZcW).filterMap (Znm Q4)
theorem ZqS {b:Box} (h:VB b):0≤b.W*b.H∧b.W*b.H≤40000:=by
 simp only[VB] at h;have h1:0≤b.W*b.H:=Int.mul_nonneg (by omega) (by omega);have h2:b.W*b.H≤200*200:=Int.mul_le_mul (by omega) (by omega) (by omega) (by omega);omega
theorem Zps:∀ {l:List Box},(∀ b∈l,VB b)→0≤Y3 l∧Y3 l≤40000*l.length
 | [],_=>by simp[Y3]
 | b :: l,h=>by
  have h1:=ZqS (h b (by simp));have h2:=Zps (l:=l) fun c hc=>h c (by simp[hc]);simp only[Y3,KC];omega
theorem Zgj (Q4:Int):∀ (l:List Box),Y3 (l.filterMap (Zk0 Q4))+Y3 (l.filterMap (Znm Q4))=Y3 l
 | []=>by simp[Y3]
 | b :: l=>by
  have ih:=Zgj Q4 l;by_cases h:Q4≤b.W∧Q4≤b.H
  ·have h' : ¬(b.W<Q4∨b.H<Q4):=by omega
   simp only[LP,Zk0,Znm,Ko h,Kk h',Y3];omega
  ·have h' : b.W<Q4∨b.H<Q4:=by omega
   simp only[LP,Zk0,Znm,Kk h,Ko h',Y3];omega
theorem wastes_VB {k:Qs} {p:Zj} (hv:Zgf k p=true):∀ b∈(JK k p).filterMap ZcW,VB b:=by
 obtain⟨t,_,_,hw,_,hf,hp⟩:=Zgg hv;rw[hp,ZdJ];exact ZcZ (p:=p) hw hf
attribute [go_sem] ite_self Bool.false_eq_true
end Go.Abs.L
