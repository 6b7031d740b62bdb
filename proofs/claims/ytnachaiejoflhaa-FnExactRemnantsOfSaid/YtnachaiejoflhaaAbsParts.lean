/- Own text. -/
import Derived.Test.YtnachaiejoflhaaAbsPlan
set_option linter.unusedVariables false
set_option linter.unusedSimpArgs false
namespace Go.Abs.L
open Go Go.Abs Go.Abs.E
structure Part where
 plan:Ze
 box:Box
def Part.enc (p:Part):D:=.agg (p.plan.enc.cells++[.int .i64 p.box.X,.int .i64 p.box.Y,.int .i64 p.box.W,.int .i64 p.box.H])
@[go_sem] theorem Part.enc_mk (o a p:Int) (t:Bool) (ks:List Ze) (x y w h:Int):Part.enc ⟨.mk o a p t ks,⟨x,y,w,h⟩⟩ =
  .agg [.int .i64 o,.int .i64 a,.int .i64 p,.bool t,.sl (ks.map Ze.enc),.int .i64 x,.int .i64 y,.int .i64 w,.int .i64 h]:=by
 simp only[Part.enc,Ze.enc_mk];rfl
theorem Part.enc_len (p:Part):(Part.enc p).cells.length=9:=by
 show (p.plan.enc.cells++_).length=9;rw[Ks,Ze.enc_len];rfl
@[go_sem] theorem uni_Part (l:List Part):uni 9 (l.map Part.enc)=True:=eq_true (Jg l Part.enc_len)
def pt:BT→Int→Int→Int→Int→List Part
 | .waste,x,y,w,h=>[⟨BT.waste.plan,⟨x,y,w,h⟩⟩]
 | .pane i t,x,y,w,h=>[⟨(BT.pane i t).plan,⟨x,y,w,h⟩⟩]
 | .cut d a l r,x,y,w,h=>⟨(BT.cut d a l r).plan,⟨x,y,w,h⟩⟩ :: if d then pt l x y a h++pt r (x+a) y (w-a) h else pt l x y w a++pt r x (y+a) w (h-a)
def sp:BT→Int→Int→Int→Int→List Xz
 | .waste,x,y,w,h=>[⟨-1,false,⟨x,y,w,h⟩⟩]
 | .pane i t,x,y,w,h=>[⟨i,t,⟨x,y,w,h⟩⟩]
 | .cut d a l r,x,y,w,h=>if d then sp l x y a h++sp r (x+a) y (w-a) h else sp l x y w a++sp r x (y+a) w (h-a)
def plc:BT→Int→Int→Int→Int→List Xz
 | .waste,x,y,w,h=>[]
 | .pane i t,x,y,w,h=>[⟨i,t,⟨x,y,w,h⟩⟩]
 | .cut d a l r,x,y,w,h=>if d then plc l x y a h++plc r (x+a) y (w-a) h else plc l x y w a++plc r x (y+a) w (h-a)
def wst:BT→Int→Int→Int→Int→List Box
 | .waste,x,y,w,h=>[⟨x,y,w,h⟩]
 | .pane i t,x,y,w,h=>[]
 | .cut d a l r,x,y,w,h=>if d then wst l x y a h++wst r (x+a) y (w-a) h else wst l x y w a++wst r x (y+a) w (h-a)
def PN:BT→Prop
 | .waste=>True
 | .pane i _=>0≤i
 | .cut _ _ l r=>PN l∧PN r
def opP:Ze→Int
 | .mk o _ _ _ _=>o
def Xv (q:Part):Option Xz:=match q.plan with
 | .mk o _ p t _=>if o=1 then some ⟨p,t,q.box⟩ else none
def Xw (q:Part):Option Box:=match q.plan with
 | .mk o _ _ _ _=>if o=0 then some q.box else none
theorem Uq:∀ (b:BT) (x y w h:Int),(pt b x y w h).filterMap Xv=plc b x y w h
 | .waste,x,y,w,h=>rfl
 | .pane i t,x,y,w,h=>rfl
 | .cut d a l r,x,y,w,h=>by
  have e:Xv ⟨(BT.cut d a l r).plan,⟨x,y,w,h⟩⟩=none:=by cases d<;>rfl
  cases d<;>simp[pt,plc,Li,LG,e,Uq]
theorem J3:∀ (b:BT) (x y w h:Int),(pt b x y w h).filterMap Xw=wst b x y w h
 | .waste,x,y,w,h=>rfl
 | .pane i t,x,y,w,h=>rfl
 | .cut d a l r,x,y,w,h=>by
  have e:Xw ⟨(BT.cut d a l r).plan,⟨x,y,w,h⟩⟩=none:=by cases d<;>rfl
  cases d<;>simp[pt,wst,Li,LG,e,J3]
def Jk (q:Xz):Option Xz:=if 0≤q.Pane then some q else none
def Jl (q:Xz):Option Box:=if q.Pane<0 then some q.Box else none
theorem ZeQ:∀ (b:BT) (x y w h:Int),PN b→(sp b x y w h).filterMap Jk=plc b x y w h
 | .waste,x,y,w,h,_=>rfl
 | .pane i t,x,y,w,h,hp=>by
  have hp:0≤i:=hp;simp[sp,plc,Jk,hp]
 | .cut d a l r,x,y,w,h,hp=>by
  cases d<;>simp[sp,plc,Li,ZeQ l _ _ _ _ hp.1,ZeQ r _ _ _ _ hp.2]
theorem ZeR:∀ (b:BT) (x y w h:Int),PN b→(sp b x y w h).filterMap Jl=wst b x y w h
 | .waste,x,y,w,h,_=>rfl
 | .pane i t,x,y,w,h,hp=>by
  have hp:¬i<0:=by have:0≤i:=hp;omega
  simp[sp,wst,Jl,hp]
 | .cut d a l r,x,y,w,h,hp=>by
  cases d<;>simp[sp,wst,Li,ZeR l _ _ _ _ hp.1,ZeR r _ _ _ _ hp.2]
theorem ZbI:∀ (b:BT) (x y w h:Int),(pt b x y w h).length=b.cnt
 | .waste,x,y,w,h=>rfl
 | .pane i t,x,y,w,h=>rfl
 | .cut d a l r,x,y,w,h=>by
  cases d<;>simp[pt,BT.cnt,ZbI]<;>omega
theorem JD:∀ (b:BT) (x y w h:Int),(sp b x y w h).length≤b.cnt
 | .waste,x,y,w,h=>by simp[sp,BT.cnt]
 | .pane i t,x,y,w,h=>by simp[sp,BT.cnt]
 | .cut d a l r,x,y,w,h=>by
  cases d
  ·have h1:=JD l x y w a;have h2:=JD r x (y+a) w (h-a);simp[sp,BT.cnt];omega
  ·have h1:=JD l x y a h;have h2:=JD r (x+a) y (w-a) h;simp[sp,BT.cnt];omega
theorem Jm {α β:Type} {l:List α} {f:α→Option β} {k:Nat} {x:α} (hx:l[k]?=some x):(l.take (k+1)).filterMap f=(l.take k).filterMap f++(f x).toList:=by
 obtain⟨h1,h2⟩:=Kd.1 hx;rw[List.take_succ_eq_append_getElem h1,h2,Li];cases hf:f x<;>simp[hf]
theorem Zcu {ps:List Pane}:∀ {b:BT} {w h:Int},Xe ps b w h=true→PN b
 | .waste,_,_,_=>trivial
 | .pane i t,w,h,hf=>by
  simp only[Xe,WR,Kb,Kn] at hf;exact hf.1
 | .cut d a l r,w,h,hf=>by
  cases d
  ·simp only[Xe,Kb,Ka,Ki] at hf;exact⟨Zcu hf.1.2,Zcu hf.2⟩
  ·simp only[Xe,Kb,Kj] at hf;exact⟨Zcu hf.1.2,Zcu hf.2⟩
def Q0 (k:ZI) (p:Ze):List Part:=match Xd p with
 | some b=>if decide (VW k)&&decide (b.cnt≤255)&&Xe k.Panes b k.W k.H then pt b 0 0 k.W k.H else []
 | none=>[]
def VS (k:ZI) (p:Ze):Bool:=match Xd p with
 | some b=>decide (VW k)&&decide (b.cnt≤255)&&Xe k.Panes b k.W k.H
 | none=>false
theorem Ws {k:ZI} {p:Ze} (h:VS k p=true):∃ b,Xd p=some b∧p=b.plan∧VW k∧b.cnt≤255∧Xe k.Panes b k.W k.H=true∧Q0 k p=pt b 0 0 k.W k.H:=by
 have h':=h;unfold VS at h;split at h
 ·rename_i b hb;refine⟨b,hb,Zcv hb,?_⟩;unfold Q0;rw[hb];dsimp only;rw[Kt h];simp only[Kb,Kn] at h;exact⟨h.1.1,h.1.2,h.2,rfl⟩
 ·cases h
theorem J4 {α:Type} {l:List α} {k:Nat} {x:α} (hx:l[k]?=some x) (P:α→Prop):(∀ y∈l.drop k,P y)↔P x∧∀ y∈l.drop (k+1),P y:=by
 obtain⟨h1,h2⟩:=Kd.1 hx;rw[La h1,h2];simp
def UI (w h:Int) (f:Box):Prop:=VB f∧YY f ⟨0,0,w,h⟩
instance (w h:Int) (f:Box):Decidable (UI w h f):=by unfold UI;infer_instance
def VPc (q:Zo):Prop:=(1≤q.Label∧q.Label≤9999∧1≤q.W∧q.W≤200∧1≤q.H∧q.H≤200∧q.Flaws.length≤6)∧∀ f∈q.Flaws,UI q.W q.H f
instance (q:Zo):Decidable (VPc q):=by unfold VPc;infer_instance
def Qh (fs:List Box) (b:Box):Prop:=∀ f∈fs,¬YT f b
instance (fs:List Box) (b:Box):Decidable (Qh fs b):=by unfold Qh;infer_instance
def YU (q:Zo) (k:ZI) (p:Ze):Prop:=VS k p=true∧k.W=q.W∧k.H=q.H∧∀ c∈(Q0 k p).filterMap Xv,Qh q.Flaws c.Box
instance (q:Zo) (k:ZI) (p:Ze):Decidable (YU q k p):=by unfold YU;infer_instance
def Zdi (x y w h:Int) (c:Box):Prop:=1≤c.W∧1≤c.H∧x≤c.X∧y≤c.Y∧c.X+c.W≤x+w∧c.Y+c.H≤y+h
theorem Zhq {ps:List Pane}:∀ {b:BT} {x y w h:Int},Xe ps b w h=true→1≤w→1≤h→∀ c∈plc b x y w h,Zdi x y w h c.Box
 | .waste,x,y,w,h,hf,h1,h2,c,hc=>by simp[plc] at hc
 | .pane i t,x,y,w,h,hf,h1,h2,c,hc=>by
  simp only[plc,KT] at hc;subst hc;simp only[Zdi];omega
 | .cut d a l r,x,y,w,h,hf,h1,h2,c,hc=>by
  cases d
  ·simp only[Xe,Kb,Ka,Ki,Kn] at hf;simp only[plc,Ka,Ki,Kc] at hc;rcases hc with hc | hc
   ·have:=Zhq hf.1.2 (by omega) (by omega) c hc;simp only[Zdi] at this ⊢;omega
   ·have:=Zhq hf.2 (by omega) (by omega) c hc;simp only[Zdi] at this ⊢;omega
  ·simp only[Xe,Kb,Kj,Kn] at hf;simp only[plc,Kj,Kc] at hc;rcases hc with hc | hc
   ·have:=Zhq hf.1.2 (by omega) (by omega) c hc;simp only[Zdi] at this ⊢;omega
   ·have:=Zhq hf.2 (by omega) (by omega) c hc;simp only[Zdi] at this ⊢;omega
theorem ZeS {ps:List Pane}:∀ {b:BT} {x y w h:Int},Xe ps b w h=true→1≤w→1≤h→∀ c∈wst b x y w h,Zdi x y w h c
 | .waste,x,y,w,h,hf,h1,h2,c,hc=>by
  simp only[wst,KT] at hc;subst hc;simp only[Zdi];omega
 | .pane i t,x,y,w,h,hf,h1,h2,c,hc=>by simp[wst] at hc
 | .cut d a l r,x,y,w,h,hf,h1,h2,c,hc=>by
  cases d
  ·simp only[Xe,Kb,Ka,Ki,Kn] at hf;simp only[wst,Ka,Ki,Kc] at hc;rcases hc with hc | hc
   ·have:=ZeS hf.1.2 (by omega) (by omega) c hc;simp only[Zdi] at this ⊢;omega
   ·have:=ZeS hf.2 (by omega) (by omega) c hc;simp only[Zdi] at this ⊢;omega
  ·simp only[Xe,Kb,Kj,Kn] at hf;simp only[wst,Kj,Kc] at hc;rcases hc with hc | hc
   ·have:=ZeS hf.1.2 (by omega) (by omega) c hc;simp only[Zdi] at this ⊢;omega
   ·have:=ZeS hf.2 (by omega) (by omega) c hc;simp only[Zdi] at this ⊢;omega
def Yh:List Box→Int
 | []=>0
 | c :: l=>c.W*c.H+Yh l
theorem Zd8 (a b:List Box):Yh (a++b)=Yh a+Yh b:=by
 induction a with
 | nil=>simp[Yh]
 | cons c l ih=>simp only[KJ,Yh,ih];omega
theorem ZbJ {ps:List Pane}:∀ {b:BT} {x y w h:Int},Yh (wst b x y w h)+Yh ((plc b x y w h).map Xz.Box)=w*h
 | .waste,x,y,w,h=>by simp[wst,plc,Yh]
 | .pane i t,x,y,w,h=>by simp[wst,plc,Yh]
 | .cut d a l r,x,y,w,h=>by
  cases d
  ·have h1:=ZbJ (ps:=ps) (b:=l) (x:=x) (y:=y) (w:=w) (h:=a);have h2:=ZbJ (ps:=ps) (b:=r) (x:=x) (y:=y+a) (w:=w) (h:=h-a);have h3:w*(h-a)=w*h-w*a:=Int.mul_sub w h a;simp only[wst,plc,Ka,Ki,Zd8,List.map_append];omega
  ·have h1:=ZbJ (ps:=ps) (b:=l) (x:=x) (y:=y) (w:=a) (h:=h);have h2:=ZbJ (ps:=ps) (b:=r) (x:=x+a) (y:=y) (w:=w-a) (h:=h);have h3:(w-a)*h=w*h-a*h:=Int.sub_mul w a h;simp only[wst,plc,Kj,Zd8,List.map_append];omega
theorem Zgq:∀ (b:BT) (x y w h:Int),(wst b x y w h).length≤b.cnt
 | .waste,x,y,w,h=>by simp[wst,BT.cnt]
 | .pane i t,x,y,w,h=>by simp[wst,BT.cnt]
 | .cut d a l r,x,y,w,h=>by
  cases d
  ·have h1:=Zgq l x y w a;have h2:=Zgq r x (y+a) w (h-a);simp[wst,BT.cnt];omega
  ·have h1:=Zgq l x y a h;have h2:=Zgq r (x+a) y (w-a) h;simp[wst,BT.cnt];omega
theorem Zaz {k:ZI} {p:Ze} {b:BT} (hv:VW k) (hf:Xe k.Panes b k.W k.H=true):∀ c∈plc b 0 0 k.W k.H,VB c.Box:=by
 intro c hc;obtain⟨h1,h2,h3,h4,_⟩:=hv;have:=Zhq hf h1 h3 c hc;simp only[Zdi] at this;simp only[VB];omega
theorem Zd9 {k:ZI} {p:Ze} {b:BT} (hv:VW k) (hf:Xe k.Panes b k.W k.H=true):∀ c∈wst b 0 0 k.W k.H,VB c:=by
 intro c hc;obtain⟨h1,h2,h3,h4,_⟩:=hv;have:=ZeS hf h1 h3 c hc;simp only[Zdi] at this;simp only[VB];omega
def ZkF (b m:Box):Box:=⟨m.X-b.X,m.Y-b.Y,m.W,m.H⟩
def Xx (b f:Box):Option Box:=if YT f b then some (ZkF b (Zbz f b)) else none
def Ziu (q:Zo) (b:Box) (label:Int):Zo:=⟨label,b.W,b.H,q.Flaws.filterMap (Xx b)⟩
theorem ZnA {q:Zo} {b:Box} {aa:Int} (hq:VPc q) (hb:VB b) (hi:YY b ⟨0,0,q.W,q.H⟩) (h1:1≤aa) (h2:aa≤9999):VPc (Ziu q b aa):=by
 simp only[VB] at hb;refine⟨⟨h1,h2,?_,?_,?_,?_,KI (Kr _ _) hq.1.2.2.2.2.2.2⟩,?_⟩
 ·show 1≤b.W;omega
 ·show b.W≤200;omega
 ·show 1≤b.H;omega
 ·show b.H≤200;omega
 ·intro f hf;obtain⟨g,hg,ab⟩:=List.mem_filterMap.1 hf;have ad:=hq.2 g hg;unfold Xx at ab;split at ab
  ·rename_i hm;cases ab;simp only[UI,VB,YY] at ad;simp only[YT] at hm;simp only[UI,VB,YY,ZkF,Zbz,Ziu];omega
  ·cases ab
def YV (Zg:Int) (b:Box):Option Box:=if Zg≤b.W∧Zg≤b.H then some b else none
def Wt (q:Zo):Int→List Box→List Zo
 | _,[]=>[]
 | n,b :: l=>Ziu q b n :: Wt q (n+1) l
theorem ZbK (q:Zo):∀ (n:Int) (a b:List Box),Wt q n (a++b)=Wt q n a++Wt q (n+a.length) b
 | n,[],b=>by simp[Wt]
 | n,x :: a,b=>by
  simp only[KJ,Wt,ZbK q (n+1) a b,Kp];congr 3
  omega
theorem ZbL (q:Zo):∀ (n:Int) (a:List Box),(Wt q n a).length=a.length
 | n,[]=>rfl
 | n,x :: a=>by simp[Wt,ZbL q (n+1) a]
theorem ZpA (q:Zo) (n:Int) {l:List Box} {i:Nat} {x:Box} (hx:l[i]?=some x):Wt q n (l.take (i+1))=Wt q n (l.take i)++[Ziu q x (n+i)]:=by
 obtain⟨h1,h2⟩:=Kd.1 hx;rw[List.take_succ_eq_append_getElem h1,h2,ZbK];simp only[Wt,Lb,Nat.min_eq_left (Nat.le_of_lt h1)]
def Q4 (k:ZI) (p:Ze) (Zg:Int):List Box:=((Q0 k p).filterMap Xw).filterMap (YV Zg)
theorem Zl4 {k:ZI} {p:Ze} {Zg:Int} (hv:VS k p=true):∀ b∈Q4 k p Zg,VB b∧YY b ⟨0,0,k.W,k.H⟩:=by
 intro b hb;obtain⟨t,_,_,hw,_,hf,hp⟩:=Ws hv;unfold Q4 at hb;rw[hp,J3] at hb;obtain⟨c,hc,aa⟩:=List.mem_filterMap.1 hb;unfold YV at aa;split at aa
 ·cases aa;refine⟨Zd9 (p:=p) hw hf b hc,?_⟩;obtain⟨h1,h2,h3,h4,_⟩:=hw;have:=ZeS hf h1 h3 b hc;simp only[Zdi] at this;simp only[YY];omega
 ·cases aa
theorem ZeT (k:ZI) (p:Ze) (Zg:Int):(Q4 k p Zg).length≤255:=by
 unfold Q4;refine KI (Kr _ _) (KI (Kr _ _) ?_);unfold Q0;split
 ·split
  ·rename_i h;simp only[Kb,Kn] at h;rw[ZbI];exact h.1.2
  ·simp
 ·simp
def ZeU (q:Zo) (k:ZI) (p:Ze) (Zg label:Int):List Zo:=
 if (VPc q∧YU q k p)∧1≤Zg∧Zg≤200∧1≤label∧label≤9999∧(Q4 k p Zg).length≤10000-label then Wt q label (Q4 k p Zg) else []
def ZoB (Zg:Int) (b:Box):Option Box:=if b.W<Zg∨b.H<Zg then some b else none
def lostL (k:ZI) (p:Ze) (Zg:Int):List Box:=((Q0 k p).filterMap Xw).filterMap (ZoB Zg)
theorem Zse {b:Box} (h:VB b):0≤b.W*b.H∧b.W*b.H≤40000:=by
 simp only[VB] at h;have h1:0≤b.W*b.H:=Int.mul_nonneg (by omega) (by omega);have h2:b.W*b.H≤200*200:=Int.mul_le_mul (by omega) (by omega) (by omega) (by omega);omega
theorem ZqA:∀ {l:List Box},(∀ b∈l,VB b)→0≤Yh l∧Yh l≤40000*l.length
 | [],_=>by simp[Yh]
 | b :: l,h=>by
  have h1:=Zse (h b (by simp));have h2:=ZqA (l:=l) fun c hc=>h c (by simp[hc]);simp only[Yh,Kp];omega
theorem ZbM (Zg:Int):∀ (l:List Box),Yh (l.filterMap (YV Zg))+Yh (l.filterMap (ZoB Zg))=Yh l
 | []=>by simp[Yh]
 | b :: l=>by
  have ih:=ZbM Zg l;by_cases h:Zg≤b.W∧Zg≤b.H
  ·have h' : ¬(b.W<Zg∨b.H<Zg):=by omega
   simp only[LG,YV,ZoB,Kt h,Ko h',Yh];omega
  ·have h' : b.W<Zg∨b.H<Zg:=by omega
   simp only[LG,YV,ZoB,Ko h,Kt h',Yh];omega
theorem ZpB {k:ZI} {p:Ze} (hv:VS k p=true):∀ b∈(Q0 k p).filterMap Xw,VB b:=by
 obtain⟨t,_,_,hw,_,hf,hp⟩:=Ws hv;rw[hp,J3];exact Zd9 (p:=p) hw hf
attribute [go_sem] ite_self Bool.false_eq_true
end Go.Abs.L
