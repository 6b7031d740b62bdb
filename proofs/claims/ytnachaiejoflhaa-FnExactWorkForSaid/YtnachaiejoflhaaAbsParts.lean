/- Own text. -/
import Derived.Test.YtnachaiejoflhaaAbsPlan
set_option linter.unusedVariables false
set_option linter.unusedSimpArgs false
namespace Go.Abs.L
open Go Go.Abs Go.Abs.E
structure Part where
 plan:ZA
 box:Box
def Part.enc (p:Part):D:=.agg (p.plan.enc.cells++[.int .i64 p.box.X,.int .i64 p.box.Y,.int .i64 p.box.W,.int .i64 p.box.H])
@[go_sem] theorem Part.enc_mk (o a p:Int) (t:Bool) (ks:List ZA) (x y w h:Int):Part.enc ⟨.mk o a p t ks,⟨x,y,w,h⟩⟩ =
  .agg [.int .i64 o,.int .i64 a,.int .i64 p,.bool t,.sl (ks.map ZA.enc),.int .i64 x,.int .i64 y,.int .i64 w,.int .i64 h]:=by
 simp only[Part.enc,ZA.enc_mk];rfl
theorem Part.enc_len (p:Part):(Part.enc p).cells.length=9:=by
 show (p.plan.enc.cells++_).length=9;rw[KK,ZA.enc_len];rfl
@[go_sem] theorem uni_Part (l:List Part):uni 9 (l.map Part.enc)=True:=eq_true (WH l Part.enc_len)
def pt:BT→Int→Int→Int→Int→List Part
 | .waste,x,y,w,h=>[⟨BT.waste.plan,⟨x,y,w,h⟩⟩]
 | .pane i t,x,y,w,h=>[⟨(BT.pane i t).plan,⟨x,y,w,h⟩⟩]
 | .cut d a l r,x,y,w,h=>⟨(BT.cut d a l r).plan,⟨x,y,w,h⟩⟩ :: if d then pt l x y a h++pt r (x+a) y (w-a) h else pt l x y w a++pt r x (y+a) w (h-a)
def sp:BT→Int→Int→Int→Int→List YW
 | .waste,x,y,w,h=>[⟨-1,false,⟨x,y,w,h⟩⟩]
 | .pane i t,x,y,w,h=>[⟨i,t,⟨x,y,w,h⟩⟩]
 | .cut d a l r,x,y,w,h=>if d then sp l x y a h++sp r (x+a) y (w-a) h else sp l x y w a++sp r x (y+a) w (h-a)
def plc:BT→Int→Int→Int→Int→List YW
 | .waste,x,y,w,h=>[]
 | .pane i t,x,y,w,h=>[⟨i,t,⟨x,y,w,h⟩⟩]
 | .cut d a l r,x,y,w,h=>if d then plc l x y a h++plc r (x+a) y (w-a) h else plc l x y w a++plc r x (y+a) w (h-a)
def wst:BT→Int→Int→Int→Int→List Box
 | .waste,x,y,w,h=>[⟨x,y,w,h⟩]
 | .pane i t,x,y,w,h=>[]
 | .cut d a l r,x,y,w,h=>if d then wst l x y a h++wst r (x+a) y (w-a) h else wst l x y w a++wst r x (y+a) w (h-a)
def PN:BT→Prop
 | .waste=>True
 | .pane i _=>0≤i
 | .cut _ _ l r=>PN l∧PN r
def opP:ZA→Int
 | .mk o _ _ _ _=>o
def ZjZ (q:Part):Option YW:=match q.plan with
 | .mk o _ p t _=>if o=1 then some ⟨p,t,q.box⟩ else none
def Zc8 (q:Part):Option Box:=match q.plan with
 | .mk o _ _ _ _=>if o=0 then some q.box else none
theorem Zou:∀ (b:BT) (x y w h:Int),(pt b x y w h).filterMap ZjZ=plc b x y w h
 | .waste,x,y,w,h=>rfl
 | .pane i t,x,y,w,h=>rfl
 | .cut d a l r,x,y,w,h=>by
  have e:ZjZ ⟨(BT.cut d a l r).plan,⟨x,y,w,h⟩⟩=none:=by cases d<;>rfl
  cases d<;>simp[pt,plc,Lg,LH,e,Zou]
theorem ZdW:∀ (b:BT) (x y w h:Int),(pt b x y w h).filterMap Zc8=wst b x y w h
 | .waste,x,y,w,h=>rfl
 | .pane i t,x,y,w,h=>rfl
 | .cut d a l r,x,y,w,h=>by
  have e:Zc8 ⟨(BT.cut d a l r).plan,⟨x,y,w,h⟩⟩=none:=by cases d<;>rfl
  cases d<;>simp[pt,wst,Lg,LH,e,ZdW]
def Znt (q:YW):Option YW:=if 0≤q.Pane then some q else none
def Znu (q:YW):Option Box:=if q.Pane<0 then some q.Box else none
theorem ZiH:∀ (b:BT) (x y w h:Int),PN b→(sp b x y w h).filterMap Znt=plc b x y w h
 | .waste,x,y,w,h,_=>rfl
 | .pane i t,x,y,w,h,hp=>by
  have hp:0≤i:=hp;simp[sp,plc,Znt,hp]
 | .cut d a l r,x,y,w,h,hp=>by
  cases d<;>simp[sp,plc,Lg,ZiH l _ _ _ _ hp.1,ZiH r _ _ _ _ hp.2]
theorem ZiI:∀ (b:BT) (x y w h:Int),PN b→(sp b x y w h).filterMap Znu=wst b x y w h
 | .waste,x,y,w,h,_=>rfl
 | .pane i t,x,y,w,h,hp=>by
  have hp:¬i<0:=by have:0≤i:=hp;omega
  simp[sp,wst,Znu,hp]
 | .cut d a l r,x,y,w,h,hp=>by
  cases d<;>simp[sp,wst,Lg,ZiI l _ _ _ _ hp.1,ZiI r _ _ _ _ hp.2]
theorem ZpM:∀ (b:BT) (x y w h:Int),(pt b x y w h).length=b.cnt
 | .waste,x,y,w,h=>rfl
 | .pane i t,x,y,w,h=>rfl
 | .cut d a l r,x,y,w,h=>by
  cases d<;>simp[pt,BT.cnt,ZpM]<;>omega
theorem Zj0:∀ (b:BT) (x y w h:Int),(sp b x y w h).length≤b.cnt
 | .waste,x,y,w,h=>by simp[sp,BT.cnt]
 | .pane i t,x,y,w,h=>by simp[sp,BT.cnt]
 | .cut d a l r,x,y,w,h=>by
  cases d
  ·have h1:=Zj0 l x y w a;have h2:=Zj0 r x (y+a) w (h-a);simp[sp,BT.cnt];omega
  ·have h1:=Zj0 l x y a h;have h2:=Zj0 r (x+a) y (w-a) h;simp[sp,BT.cnt];omega
theorem fm_take {α β:Type} {l:List α} {f:α→Option β} {k:Nat} {x:α} (hx:l[k]?=some x):(l.take (k+1)).filterMap f=(l.take k).filterMap f++(f x).toList:=by
 obtain⟨h1,h2⟩:=Kc.1 hx;rw[List.take_succ_eq_append_getElem h1,h2,Lg];cases hf:f x<;>simp[hf]
theorem Zfh {ps:List Pane}:∀ {b:BT} {w h:Int},J4 ps b w h=true→PN b
 | .waste,_,_,_=>trivial
 | .pane i t,w,h,hf=>by
  simp only[J4,ZlC,Kb,Kt] at hf;exact hf.1
 | .cut d a l r,w,h,hf=>by
  cases d
  ·simp only[J4,Kb,Ka,Kh] at hf;exact⟨Zfh hf.1.2,Zfh hf.2⟩
  ·simp only[J4,Kb,Ki] at hf;exact⟨Zfh hf.1.2,Zfh hf.2⟩
def Zct (k:VS) (p:ZA):List Part:=match Wl p with
 | some b=>if decide (VW k)&&decide (b.cnt≤255)&&J4 k.Panes b k.W k.H then pt b 0 0 k.W k.H else []
 | none=>[]
def Zly (k:VS) (p:ZA):Bool:=match Wl p with
 | some b=>decide (VW k)&&decide (b.cnt≤255)&&J4 k.Panes b k.W k.H
 | none=>false
theorem ZgU {k:VS} {p:ZA} (h:Zly k p=true):∃ b,Wl p=some b∧p=b.plan∧VW k∧b.cnt≤255∧J4 k.Panes b k.W k.H=true∧Zct k p=pt b 0 0 k.W k.H:=by
 have h':=h;unfold Zly at h;split at h
 ·rename_i b hb;refine⟨b,hb,Zow hb,?_⟩;unfold Zct;rw[hb];dsimp only;rw[Kw h];simp only[Kb,Kt] at h;exact⟨h.1.1,h.1.2,h.2,rfl⟩
 ·cases h
theorem Zlz {α:Type} {l:List α} {k:Nat} {x:α} (hx:l[k]?=some x) (P:α→Prop):(∀ y∈l.drop k,P y)↔P x∧∀ y∈l.drop (k+1),P y:=by
 obtain⟨h1,h2⟩:=Kc.1 hx;rw[KI h1,h2];simp
def Uk (w h:Int) (f:Box):Prop:=VB f∧Vm f ⟨0,0,w,h⟩
instance (w h:Int) (f:Box):Decidable (Uk w h f):=by unfold Uk;infer_instance
def VPc (q:Zg):Prop:=(1≤q.Label∧q.Label≤9999∧1≤q.W∧q.W≤200∧1≤q.H∧q.H≤200∧q.Flaws.length≤6)∧∀ f∈q.Flaws,Uk q.W q.H f
instance (q:Zg):Decidable (VPc q):=by unfold VPc;infer_instance
def Zj1 (fs:List Box) (b:Box):Prop:=∀ f∈fs,¬Zan f b
instance (fs:List Box) (b:Box):Decidable (Zj1 fs b):=by unfold Zj1;infer_instance
def ZpN (q:Zg) (k:VS) (p:ZA):Prop:=Zly k p=true∧k.W=q.W∧k.H=q.H∧∀ c∈(Zct k p).filterMap ZjZ,Zj1 q.Flaws c.Box
instance (q:Zg) (k:VS) (p:ZA):Decidable (ZpN q k p):=by unfold ZpN;infer_instance
def Zcu (x y w h:Int) (c:Box):Prop:=1≤c.W∧1≤c.H∧x≤c.X∧y≤c.Y∧c.X+c.W≤x+w∧c.Y+c.H≤y+h
theorem ZgV {ps:List Pane}:∀ {b:BT} {x y w h:Int},J4 ps b w h=true→1≤w→1≤h→∀ c∈plc b x y w h,Zcu x y w h c.Box
 | .waste,x,y,w,h,hf,h1,h2,c,hc=>by simp[plc] at hc
 | .pane i t,x,y,w,h,hf,h1,h2,c,hc=>by
  simp only[plc,KQ] at hc;subst hc;simp only[Zcu];omega
 | .cut d a l r,x,y,w,h,hf,h1,h2,c,hc=>by
  cases d
  ·simp only[J4,Kb,Ka,Kh,Kt] at hf;simp only[plc,Ka,Kh,Kd] at hc;rcases hc with hc | hc
   ·have:=ZgV hf.1.2 (by omega) (by omega) c hc;simp only[Zcu] at this ⊢;omega
   ·have:=ZgV hf.2 (by omega) (by omega) c hc;simp only[Zcu] at this ⊢;omega
  ·simp only[J4,Kb,Ki,Kt] at hf;simp only[plc,Ki,Kd] at hc;rcases hc with hc | hc
   ·have:=ZgV hf.1.2 (by omega) (by omega) c hc;simp only[Zcu] at this ⊢;omega
   ·have:=ZgV hf.2 (by omega) (by omega) c hc;simp only[Zcu] at this ⊢;omega
theorem ZdX {ps:List Pane}:∀ {b:BT} {x y w h:Int},J4 ps b w h=true→1≤w→1≤h→∀ c∈wst b x y w h,Zcu x y w h c
 | .waste,x,y,w,h,hf,h1,h2,c,hc=>by
  simp only[wst,KQ] at hc;subst hc;simp only[Zcu];omega
 | .pane i t,x,y,w,h,hf,h1,h2,c,hc=>by simp[wst] at hc
 | .cut d a l r,x,y,w,h,hf,h1,h2,c,hc=>by
  cases d
  ·simp only[J4,Kb,Ka,Kh,Kt] at hf;simp only[wst,Ka,Kh,Kd] at hc;rcases hc with hc | hc
   ·have:=ZdX hf.1.2 (by omega) (by omega) c hc;simp only[Zcu] at this ⊢;omega
   ·have:=ZdX hf.2 (by omega) (by omega) c hc;simp only[Zcu] at this ⊢;omega
  ·simp only[J4,Kb,Ki,Kt] at hf;simp only[wst,Ki,Kd] at hc;rcases hc with hc | hc
   ·have:=ZdX hf.1.2 (by omega) (by omega) c hc;simp only[Zcu] at this ⊢;omega
   ·have:=ZdX hf.2 (by omega) (by omega) c hc;simp only[Zcu] at this ⊢;omega
def YX:List Box→Int
 | []=>0
 | c :: l=>c.W*c.H+YX l
theorem Zc9 (a b:List Box):YX (a++b)=YX a+YX b:=by
 induction a with
 | nil=>simp[YX]
 | cons c l ih=>simp only[Ky,YX,ih];omega
theorem Zda {ps:List Pane}:∀ {b:BT} {x y w h:Int},YX (wst b x y w h)+YX ((plc b x y w h).map YW.Box)=w*h
 | .waste,x,y,w,h=>by simp[wst,plc,YX]
 | .pane i t,x,y,w,h=>by simp[wst,plc,YX]
 | .cut d a l r,x,y,w,h=>by
  cases d
  ·have h1:=Zda (ps:=ps) (b:=l) (x:=x) (y:=y) (w:=w) (h:=a);have h2:=Zda (ps:=ps) (b:=r) (x:=x) (y:=y+a) (w:=w) (h:=h-a);have h3:w*(h-a)=w*h-w*a:=Int.mul_sub w h a;simp only[wst,plc,Ka,Kh,Zc9,List.map_append];omega
  ·have h1:=Zda (ps:=ps) (b:=l) (x:=x) (y:=y) (w:=a) (h:=h);have h2:=Zda (ps:=ps) (b:=r) (x:=x+a) (y:=y) (w:=w-a) (h:=h);have h3:(w-a)*h=w*h-a*h:=Int.sub_mul w a h;simp only[wst,plc,Ki,Zc9,List.map_append];omega
theorem Zfi:∀ (b:BT) (x y w h:Int),(wst b x y w h).length≤b.cnt
 | .waste,x,y,w,h=>by simp[wst,BT.cnt]
 | .pane i t,x,y,w,h=>by simp[wst,BT.cnt]
 | .cut d a l r,x,y,w,h=>by
  cases d
  ·have h1:=Zfi l x y w a;have h2:=Zfi r x (y+a) w (h-a);simp[wst,BT.cnt];omega
  ·have h1:=Zfi l x y a h;have h2:=Zfi r (x+a) y (w-a) h;simp[wst,BT.cnt];omega
theorem Zq3 {k:VS} {p:ZA} {b:BT} (hv:VW k) (hf:J4 k.Panes b k.W k.H=true):∀ c∈plc b 0 0 k.W k.H,VB c.Box:=by
 intro c hc;obtain⟨h1,h2,h3,h4,_⟩:=hv;have:=ZgV hf h1 h3 c hc;simp only[Zcu] at this;simp only[VB];omega
theorem Zdb {k:VS} {p:ZA} {b:BT} (hv:VW k) (hf:J4 k.Panes b k.W k.H=true):∀ c∈wst b 0 0 k.W k.H,VB c:=by
 intro c hc;obtain⟨h1,h2,h3,h4,_⟩:=hv;have:=ZdX hf h1 h3 c hc;simp only[Zcu] at this;simp only[VB];omega
def ZpO (b m:Box):Box:=⟨m.X-b.X,m.Y-b.Y,m.W,m.H⟩
def Znv (b f:Box):Option Box:=if Zan f b then some (ZpO b (Zln f b)) else none
def cutP (q:Zg) (b:Box) (label:Int):Zg:=⟨label,b.W,b.H,q.Flaws.filterMap (Znv b)⟩
theorem Zss {q:Zg} {b:Box} {label:Int} (hq:VPc q) (hb:VB b) (hi:Vm b ⟨0,0,q.W,q.H⟩) (h1:1≤label) (h2:label≤9999):VPc (cutP q b label):=by
 simp only[VB] at hb;refine⟨⟨h1,h2,?_,?_,?_,?_,LF (List.length_filterMap_le _ _) hq.1.2.2.2.2.2.2⟩,?_⟩
 ·show 1≤b.W;omega
 ·show b.W≤200;omega
 ·show 1≤b.H;omega
 ·show b.H≤200;omega
 ·intro f hf;obtain⟨g,hg,aa⟩:=List.mem_filterMap.1 hf;have ab:=hq.2 g hg;unfold Znv at aa;split at aa
  ·rename_i hm;cases aa;simp only[Uk,VB,Vm] at ab;simp only[Zan] at hm;simp only[Uk,VB,Vm,ZpO,Zln,cutP];omega
  ·cases aa
def ZlA (QX:Int) (b:Box):Option Box:=if QX≤b.W∧QX≤b.H then some b else none
def Ze8 (q:Zg):Int→List Box→List Zg
 | _,[]=>[]
 | n,b :: l=>cutP q b n :: Ze8 q (n+1) l
theorem ZeJ (q:Zg):∀ (n:Int) (a b:List Box),Ze8 q n (a++b)=Ze8 q n a++Ze8 q (n+a.length) b
 | n,[],b=>by simp[Ze8]
 | n,x :: a,b=>by
  simp only[Ky,Ze8,ZeJ q (n+1) a b,KD];congr 3
  omega
theorem ZpP (q:Zg):∀ (n:Int) (a:List Box),(Ze8 q n a).length=a.length
 | n,[]=>rfl
 | n,x :: a=>by simp[Ze8,ZpP q (n+1) a]
theorem cutN_take (q:Zg) (n:Int) {l:List Box} {i:Nat} {x:Box} (hx:l[i]?=some x):Ze8 q n (l.take (i+1))=Ze8 q n (l.take i)++[cutP q x (n+i)]:=by
 obtain⟨h1,h2⟩:=Kc.1 hx;rw[List.take_succ_eq_append_getElem h1,h2,ZeJ];simp only[Ze8,Lb,Nat.min_eq_left (Nat.le_of_lt h1)]
def ZiJ (k:VS) (p:ZA) (QX:Int):List Box:=((Zct k p).filterMap Zc8).filterMap (ZlA QX)
theorem keptL_in {k:VS} {p:ZA} {QX:Int} (hv:Zly k p=true):∀ b∈ZiJ k p QX,VB b∧Vm b ⟨0,0,k.W,k.H⟩:=by
 intro b hb;obtain⟨t,_,_,hw,_,hf,hp⟩:=ZgU hv;unfold ZiJ at hb;rw[hp,ZdW] at hb;obtain⟨c,hc,aa⟩:=List.mem_filterMap.1 hb;unfold ZlA at aa;split at aa
 ·cases aa;refine⟨Zdb (p:=p) hw hf b hc,?_⟩;obtain⟨h1,h2,h3,h4,_⟩:=hw;have:=ZdX hf h1 h3 b hc;simp only[Zcu] at this;simp only[Vm];omega
 ·cases aa
theorem keptL_len (k:VS) (p:ZA) (QX:Int):(ZiJ k p QX).length≤255:=by
 unfold ZiJ;refine LF (List.length_filterMap_le _ _) (LF (List.length_filterMap_le _ _) ?_);unfold Zct;split
 ·split
  ·rename_i h;simp only[Kb,Kt] at h;rw[ZpM];exact h.1.2
  ·simp
 ·simp
def remn (q:Zg) (k:VS) (p:ZA) (QX label:Int):List Zg:=
 if (VPc q∧ZpN q k p)∧1≤QX∧QX≤200∧1≤label∧label≤9999∧(ZiJ k p QX).length≤10000-label then Ze8 q label (ZiJ k p QX) else []
def Znw (QX:Int) (b:Box):Option Box:=if b.W<QX∨b.H<QX then some b else none
def lostL (k:VS) (p:ZA) (QX:Int):List Box:=((Zct k p).filterMap Zc8).filterMap (Znw QX)
theorem Zq4 {b:Box} (h:VB b):0≤b.W*b.H∧b.W*b.H≤40000:=by
 simp only[VB] at h;have h1:0≤b.W*b.H:=Lx (by omega) (by omega);have h2:b.W*b.H≤200*200:=Ly (by omega) (by omega) (by omega) (by omega);omega
theorem ZpQ:∀ {l:List Box},(∀ b∈l,VB b)→0≤YX l∧YX l≤40000*l.length
 | [],_=>by simp[YX]
 | b :: l,h=>by
  have h1:=Zq4 (h b (by simp));have h2:=ZpQ (l:=l) fun c hc=>h c (by simp[hc]);simp only[YX,KD];omega
theorem ZgW (QX:Int):∀ (l:List Box),YX (l.filterMap (ZlA QX))+YX (l.filterMap (Znw QX))=YX l
 | []=>by simp[YX]
 | b :: l=>by
  have ih:=ZgW QX l;by_cases h:QX≤b.W∧QX≤b.H
  ·have h' : ¬(b.W<QX∨b.H<QX):=by omega
   simp only[LH,ZlA,Znw,Kw h,Ko h',YX];omega
  ·have h' : b.W<QX∨b.H<QX:=by omega
   simp only[LH,ZlA,Znw,Ko h,Kw h',YX];omega
theorem wastes_VB {k:VS} {p:ZA} (hv:Zly k p=true):∀ b∈(Zct k p).filterMap Zc8,VB b:=by
 obtain⟨t,_,_,hw,_,hf,hp⟩:=ZgU hv;rw[hp,ZdW];exact Zdb (p:=p) hw hf
attribute [go_sem] ite_self Bool.false_eq_true
end Go.Abs.L
