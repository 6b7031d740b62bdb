/- Own text. -/
import Derived.Test.YtighjmleicikhaaAbsRun
set_option linter.unusedVariables false
set_option linter.unusedSimpArgs false
namespace Go.Abs.E
open Go Go.Abs
abbrev _root_.Go.Abs.Opd.i (n:Int):Opd:=.v (.d (.int .i64 n))
abbrev _root_.Go.Abs.Opd.b (x:Bool):Opd:=.v (.d (.bool x))
def stW {α:Type} (x:Option α) (K:α→Prop):Prop:=match x with
 | some a=>K a
 | none=>False
def gW (x:Option Bool) (A B:Prop):Prop:=match x with
 | some b=>(b=true→A)∧(b=false→B)
 | none=>False
def YO (v:AV) (A B:Prop):Prop:=match v with
 | .d (.bool t)=>(t=true→A)∧(t=false→B)
 | _=>False
theorem Yu {α:Type} (a:α) (K:α→Prop):stW (some a) K=K a:=rfl
theorem Zdw {α:Type} (K:α→Prop):stW none K=False:=rfl
theorem W3 {α β:Type} (x:Option α) (f:α→Option β) (K:β→Prop):stW (bnd x f) K=stW x fun a=>stW (f a) K:=by cases x<;>rfl
@[go_sem] theorem ZnU (A B:Prop):gW (some true) A B=A:=by simp[gW]
@[go_sem] theorem gW_false (A B:Prop):gW (some false) A B=B:=by simp[gW]
@[go_sem] theorem gW_dec (p:Prop) [Decidable p] (A B:Prop):gW (some (decide p)) A B=((p→A)∧(¬p→B)):=by simp[gW]
@[go_sem] theorem gW_not (b:Bool) (A B:Prop):gW (some (!b)) A B=gW (some b) B A:=by cases b<;>simp[gW]
theorem gW_some (b:Bool) (A B:Prop):gW (some b) A B=((b=true→A)∧(b=false→B)):=rfl
@[go_sem] theorem ZsK (A B:Prop):YO (.d (.bool true)) A B=A:=by simp[YO]
@[go_sem] theorem Zsi (A B:Prop):YO (.d (.bool false)) A B=B:=by simp[YO]
@[go_sem] theorem condW_dec (p:Prop) [Decidable p] (A B:Prop):YO (.d (.bool (decide p))) A B=((p→A)∧(¬p→B)):=by simp[YO]
@[go_sem] theorem condW_not (b:Bool) (A B:Prop):YO (.d (.bool (!b))) A B=YO (.d (.bool b)) B A:=by cases b<;>simp[YO]
@[go_sem] theorem condW_and (a b:Bool) (A B:Prop):YO (.d (.bool (a&&b))) A B=YO (.d (.bool a)) (YO (.d (.bool b)) A B) B:=by cases a<;>cases b<;>simp[YO]
@[go_sem] theorem condW_or (a b:Bool) (A B:Prop):YO (.d (.bool (a || b))) A B=YO (.d (.bool a)) A (YO (.d (.bool b)) A B):=by cases a<;>cases b<;>simp[YO]
@[go_sem] theorem ZsL (b:Bool) (A B:Prop):YO (.d (.bool b)) A B=((b=true→A)∧(b=false→B)):=rfl
@[congr] theorem gW_congr {x y:Option Bool} {A B:Prop} (h:x=y):gW x A B=gW y A B:=by rw[h]
@[congr] theorem Zsj {v w:AV} {A B:Prop} (h:v=w):YO v A B=YO w A B:=by rw[h]
section
variable (X:Fns) (M:Zg)
noncomputable def Jm (nx:Nat):Nat→List CO→Sl→Hp→(Sl→Hp→Prop)→Prop
 | _,[],sl,hp,K=>K sl hp
 | i,o :: rest,sl,hp,K=>gW (ZG sl o.guard)
   (stW (Xq (nx+64*i) o.dst sl hp (vop (Zj X M) M sl hp (nx+64*i) o.op)) fun r=>Jm nx (i+1) rest r.1 r.2 K)
   (Jm nx (i+1) rest (Zi sl o.dst (.tup [])) hp K)
def WW (nx i:Nat) (d:Option Nat) (rest:List CO) (sl:Sl) (hp:Hp) (K:Sl→Hp→Prop) (e:Option Zb):Prop:=
 stW (Xq (nx+64*i) d sl hp e) fun r=>Jm X M nx (i+1) rest r.1 r.2 K
@[go_sem] theorem opsW_nil (nx i:Nat) (sl:Sl) (hp:Hp) (K:Sl→Hp→Prop):Jm X M nx i [] sl hp K=K sl hp:=rfl
@[go_sem] theorem opsW_cons (nx i:Nat) (d:Option Nat) (tl:Bool) (op:COp) (aa:List CO) (sl:Sl) (hp:Hp) (K:Sl→Hp→Prop) :
  Jm X M nx i (⟨d,none,op,tl⟩ :: aa) sl hp K=WW X M nx i d aa sl hp K (vop (Zj X M) M sl hp (nx+64*i) op):=by
 simp[Jm,WW,ZG,ZnU]
def Zb4 (b:Bool) (v:AV):AV:=if b then v else .tup []
def VL (b:Bool) (nx i:Nat) (d:Option Nat) (rest:List CO) (sl:Sl) (hp:Hp) (K:Sl→Hp→Prop) (e:Option Zb):Prop:=
 gW (some b) (WW X M nx i d rest sl hp K e) (Jm X M nx (i+1) rest (Zi sl d (.tup [])) hp K)
def Zkc (g:Option Bool) (nx i:Nat) (d:Option Nat) (op:COp) (rest:List CO) (sl:Sl) (hp:Hp) (K:Sl→Hp→Prop):Prop:=
 gW g (WW X M nx i d rest sl hp K (vop (Zj X M) M sl hp (nx+64*i) op)) (Jm X M nx (i+1) rest (Zi sl d (.tup [])) hp K)
@[go_sem] theorem ZsM (nx i g:Nat) (w:Bool) (d:Option Nat) (tl:Bool) (op:COp) (aa:List CO) (sl:Sl) (hp:Hp) (K:Sl→Hp→Prop) :
  Jm X M nx i (⟨d,some (g,w),op,tl⟩ :: aa) sl hp K=Zkc X M (Zar w (gs sl g)) nx i d op aa sl hp K:=rfl
@[go_sem] theorem Zsk (b:Bool) (nx i:Nat) (d:Option Nat) (op:COp) (aa:List CO) (sl:Sl) (hp:Hp) (K:Sl→Hp→Prop) :
  Zkc X M (some b) nx i d op aa sl hp K=VL X M b nx i d aa sl hp K (vop (Zj X M) M sl hp (nx+64*i) op):=rfl
@[go_sem] theorem gA (nx i:Nat) (d:Option Nat) (aa:List CO) (sl:Sl) (hp:Hp) (K:Sl→Hp→Prop) (e:Option Zb) :
  VL X M true nx i d aa sl hp K e=WW X M nx i d aa sl hp K e:=by simp[VL,gW]
@[go_sem] theorem gB (nx i:Nat) (d:Option Nat) (aa:List CO) (sl:Sl) (hp:Hp) (K:Sl→Hp→Prop) (e:Option Zb) :
  VL X M false nx i d aa sl hp K e=Jm X M nx (i+1) aa (Zi sl d (.tup [])) hp K:=by simp[VL,gW]
@[go_sem] theorem Zkd (b:Bool) (nx i:Nat) (d:Option Nat) (aa:List CO) (sl:Sl) (hp:Hp) (K:Sl→Hp→Prop) (v:AV) :
  VL X M b nx i d aa sl hp K (Qo v)=Jm X M nx (i+1) aa (Zi sl d (Zb4 b v)) hp K:=by
 cases b
 ·simp[VL,gW,Zb4]
 ·simp only[VL,gW,Zb4,Kh,true_implies,Bool.true_eq_false,false_implies,and_true];rfl
@[go_sem] theorem Zsl (b:Bool) (nx i:Nat) (d:Option Nat) (aa:List CO) (sl:Sl) (hp:Hp) (K:Sl→Hp→Prop) (v:AV) :
  VL X M b nx i d aa sl hp K (some { eff := { val:=v,adds:=[],sets:=[],dels:=[],frz:=[] },gone:=[] })=Jm X M nx (i+1) aa (Zi sl d (Zb4 b v)) hp K:=Zkd X M b nx i d aa sl hp K v
@[congr] theorem ZrK {g g' : Option Bool} {nx i:Nat} {d:Option Nat} {op:COp} {aa:List CO} {sl:Sl} {hp:Hp} {K:Sl→Hp→Prop} (h:g=g') :
  Zkc X M g nx i d op aa sl hp K=Zkc X M g' nx i d op aa sl hp K:=by rw[h]
@[congr] theorem ZrL {b b' : Bool} {nx i:Nat} {d:Option Nat} {aa:List CO} {sl:Sl} {hp:Hp} {K:Sl→Hp→Prop} {e e' : Option Zb} (hb:b=b') (h:b'=true→e=e') :
  VL X M b nx i d aa sl hp K e=VL X M b' nx i d aa sl hp K e':=by
 subst hb;cases b
 ·simp[VL,gW]
 ·rw[h rfl]
@[go_sem] theorem Zsm (nx i:Nat) (d:Option Nat) (aa:List CO) (sl:Sl) (hp:Hp) (K:Sl→Hp→Prop) (v:AV) :
  WW X M nx i d aa sl hp K (Qo v)=Jm X M nx (i+1) aa (Zi sl d v) hp K:=rfl
@[go_sem] theorem ZsN (nx i:Nat) (d:Option Nat) (aa:List CO) (sl:Sl) (hp:Hp) (K:Sl→Hp→Prop) (v:AV) :
  WW X M nx i d aa sl hp K (some { eff := { val:=v,adds:=[],sets:=[],dels:=[],frz:=[] },gone:=[] })=Jm X M nx (i+1) aa (Zi sl d v) hp K:=rfl
@[go_sem] theorem ZsO (nx i:Nat) (d:Option Nat) (aa:List CO) (sl:Sl) (hp:Hp) (K:Sl→Hp→Prop) (e:Zb) :
  WW X M nx i d aa sl hp K (some e)=(Qu (nx+64*i) (nx+64*i+64) e.eff.adds=true∧Jm X M nx (i+1) aa (Zi (Qz e.gone sl) d e.eff.val) (e.eff.on (Yd e.gone hp)) K):=by
 unfold WW Xq;rw[Zc];split<;>rename_i h
 ·simp only[Yu,h,true_and];rfl
 ·simp only[Zdw,h,false_and,Ka]
@[go_sem] theorem ZsP (nx i:Nat) (d:Option Nat) (aa:List CO) (sl:Sl) (hp:Hp) (K:Sl→Hp→Prop):WW X M nx i d aa sl hp K none=False:=rfl
@[go_sem] theorem stepW_ite (nx i:Nat) (d:Option Nat) (aa:List CO) (sl:Sl) (hp:Hp) (K:Sl→Hp→Prop) (c:Prop) [Decidable c] (a b:Option Zb) :
  WW X M nx i d aa sl hp K (if c then a else b)=((c→WW X M nx i d aa sl hp K a)∧(¬c→WW X M nx i d aa sl hp K b)):=by
 by_cases h:c<;>simp[h]
noncomputable def XQ (nx:Nat):Nat→Bool→List CO→Sl→Hp→(Sl→Hp→Prop)→Prop
 | _,_,[],sl,hp,K=>K sl hp
 | i,tail,o :: rest,sl,hp,K=>gW (ZG sl o.guard)
   (stW (Xq (nx+64*i) o.dst sl hp (Yf (Zj X M) (Xv M) nx i (CO.starts o) o.op sl hp)) fun r=>XQ nx (i+1) tail rest r.1 r.2 K)
   (XQ nx (i+1) tail rest (Zi sl o.dst (.tup [])) hp K)
def YR (nx i:Nat) (t:Bool) (d:Option Nat) (rest:List CO) (sl:Sl) (hp:Hp) (K:Sl→Hp→Prop) (e:Option Zb):Prop:=
 stW (Xq (nx+64*i) d sl hp (if t then e else UO e)) fun r=>XQ X M nx (i+1) false rest r.1 r.2 K
@[go_sem] theorem opsDW_nil (nx i:Nat) (t:Bool) (sl:Sl) (hp:Hp) (K:Sl→Hp→Prop):XQ X M nx i t [] sl hp K=K sl hp:=rfl
@[go_sem] theorem ZsQ (nx i:Nat) (d:Option Nat) (tl:Bool) (op:COp) (aa:List CO) (sl:Sl) (hp:Hp) (K:Sl→Hp→Prop) :
  XQ X M nx i false (⟨d,none,op,tl⟩ :: aa) sl hp K=YR X M nx i (ZbV op || tl) d aa sl hp K (vop (Zj X M) (Xv M) sl hp (nx+64*i) op):=by
 simp[XQ,YR,ZG,ZnU,Yf,CO.starts]
def X7 (b:Bool) (nx i:Nat) (t:Bool) (d:Option Nat) (rest:List CO) (sl:Sl) (hp:Hp) (K:Sl→Hp→Prop) (e:Option Zb):Prop:=
 gW (some b) (YR X M nx i t d rest sl hp K e) (XQ X M nx (i+1) false rest (Zi sl d (.tup [])) hp K)
def ZfF (g:Option Bool) (nx i:Nat) (t:Bool) (d:Option Nat) (op:COp) (rest:List CO) (sl:Sl) (hp:Hp) (K:Sl→Hp→Prop):Prop:=
 gW g (YR X M nx i t d rest sl hp K (vop (Zj X M) (Xv M) sl hp (nx+64*i) op)) (XQ X M nx (i+1) false rest (Zi sl d (.tup [])) hp K)
@[go_sem] theorem Zsn (nx i g:Nat) (w:Bool) (d:Option Nat) (tl:Bool) (op:COp) (aa:List CO) (sl:Sl) (hp:Hp) (K:Sl→Hp→Prop) :
  XQ X M nx i false (⟨d,some (g,w),op,tl⟩ :: aa) sl hp K=ZfF X M (Zar w (gs sl g)) nx i (ZbV op || tl) d op aa sl hp K:=rfl
@[go_sem] theorem ZrM (b:Bool) (nx i:Nat) (t:Bool) (d:Option Nat) (op:COp) (aa:List CO) (sl:Sl) (hp:Hp) (K:Sl→Hp→Prop) :
  ZfF X M (some b) nx i t d op aa sl hp K=X7 X M b nx i t d aa sl hp K (vop (Zj X M) (Xv M) sl hp (nx+64*i) op):=rfl
@[go_sem] theorem gC (nx i:Nat) (t:Bool) (d:Option Nat) (aa:List CO) (sl:Sl) (hp:Hp) (K:Sl→Hp→Prop) (e:Option Zb) :
  X7 X M true nx i t d aa sl hp K e=YR X M nx i t d aa sl hp K e:=by simp[X7,gW]
@[go_sem] theorem gD (nx i:Nat) (t:Bool) (d:Option Nat) (aa:List CO) (sl:Sl) (hp:Hp) (K:Sl→Hp→Prop) (e:Option Zb) :
  X7 X M false nx i t d aa sl hp K e=XQ X M nx (i+1) false aa (Zi sl d (.tup [])) hp K:=by simp[X7,gW]
@[go_sem] theorem Zil (b:Bool) (nx i:Nat) (t:Bool) (d:Option Nat) (aa:List CO) (sl:Sl) (hp:Hp) (K:Sl→Hp→Prop) (v:AV) :
  X7 X M b nx i t d aa sl hp K (Qo v)=XQ X M nx (i+1) false aa (Zi sl d (Zb4 b v)) hp K:=by
 cases b
 ·simp[X7,gW,Zb4]
 ·simp only[X7,gW,Zb4,Kh,true_implies,Bool.true_eq_false,false_implies,and_true];cases t<;>rfl
@[go_sem] theorem ZrN (b:Bool) (nx i:Nat) (t:Bool) (d:Option Nat) (aa:List CO) (sl:Sl) (hp:Hp) (K:Sl→Hp→Prop) (v:AV) :
  X7 X M b nx i t d aa sl hp K (some { eff := { val:=v,adds:=[],sets:=[],dels:=[],frz:=[] },gone:=[] })=XQ X M nx (i+1) false aa (Zi sl d (Zb4 b v)) hp K:=Zil X M b nx i t d aa sl hp K v
@[congr] theorem Zrq {g g' : Option Bool} {nx i:Nat} {t t' : Bool} {d:Option Nat} {op:COp} {aa:List CO} {sl:Sl} {hp:Hp} {K:Sl→Hp→Prop} (h:g=g') (ht:t=t') :
  ZfF X M g nx i t d op aa sl hp K=ZfF X M g' nx i t' d op aa sl hp K:=by rw[h,ht]
@[congr] theorem Zrr {b b' : Bool} {nx i:Nat} {t:Bool} {d:Option Nat} {aa:List CO} {sl:Sl} {hp:Hp} {K:Sl→Hp→Prop} {e e' : Option Zb} (hb:b=b') (h:b'=true→e=e') :
  X7 X M b nx i t d aa sl hp K e=X7 X M b' nx i t d aa sl hp K e':=by
 subst hb;cases b
 ·simp[X7,gW]
 ·rw[h rfl]
@[go_sem] theorem ZrO (nx i:Nat) (t:Bool) (d:Option Nat) (aa:List CO) (sl:Sl) (hp:Hp) (K:Sl→Hp→Prop) (v:AV) :
  YR X M nx i t d aa sl hp K (Qo v)=XQ X M nx (i+1) false aa (Zi sl d v) hp K:=by cases t<;>rfl
@[go_sem] theorem Zso (nx i:Nat) (t:Bool) (d:Option Nat) (aa:List CO) (sl:Sl) (hp:Hp) (K:Sl→Hp→Prop) (v:AV) :
  YR X M nx i t d aa sl hp K (some { eff := { val:=v,adds:=[],sets:=[],dels:=[],frz:=[] },gone:=[] })=XQ X M nx (i+1) false aa (Zi sl d v) hp K:=by cases t<;>rfl
@[go_sem] theorem Zsp (nx i:Nat) (t:Bool) (d:Option Nat) (aa:List CO) (sl:Sl) (hp:Hp) (K:Sl→Hp→Prop) (e:Zb) :
  YR X M nx i t d aa sl hp K (some e)=((t=false→Zav e e.gone e.eff.sets e.eff.dels e.eff.frz=some e)∧Qu (nx+64*i) (nx+64*i+64) e.eff.adds=true∧XQ X M nx (i+1) false aa (Zi (Qz e.gone sl) d e.eff.val) (e.eff.on (Yd e.gone hp)) K):=by
 have ab:stW (Xq (nx+64*i) d sl hp (some e)) (fun r=>XQ X M nx (i+1) false aa r.1 r.2 K)=(Qu (nx+64*i) (nx+64*i+64) e.eff.adds=true∧XQ X M nx (i+1) false aa (Zi (Qz e.gone sl) d e.eff.val) (e.eff.on (Yd e.gone hp)) K):=by
  unfold Xq;rw[Zc];split<;>rename_i h
  ·simp only[Yu,h,true_and];rfl
  ·simp only[Zdw,h,false_and,Ka]
 unfold YR;cases t with
 | true=>simp only[Kh];rw[ab];simp
 | false=>
  simp only[Ka,Kg,UO,Zc,true_implies];unfold Zav;split
  ·rw[ab];simp
  ·simp[Xq,bnd,stW]
@[go_sem] theorem Zsq (nx i:Nat) (t:Bool) (d:Option Nat) (aa:List CO) (sl:Sl) (hp:Hp) (K:Sl→Hp→Prop):YR X M nx i t d aa sl hp K none=False:=by cases t<;>rfl
@[go_sem] theorem ZsR (nx i:Nat) (t:Bool) (d:Option Nat) (aa:List CO) (sl:Sl) (hp:Hp) (K:Sl→Hp→Prop) (c:Prop) [Decidable c] (a b:Option Zb) :
  YR X M nx i t d aa sl hp K (if c then a else b)=((c→YR X M nx i t d aa sl hp K a)∧(¬c→YR X M nx i t d aa sl hp K b)):=by
 by_cases h:c<;>simp[h]
@[go_sem] theorem quietC_ok (c:Zb):Zav c [] [] [] []=some c:=rfl
def W (c:ZC) (st:St) (Q:Ex→St→Prop):Prop:=stW (Qj X M c st) fun r=>Q r.1 r.2
@[congr] theorem W_congr {c:ZC} {st aa : St} {Q:Ex→St→Prop} (h:st=aa):W X M c st Q=W X M c aa Q:=by rw[h]
@[congr] theorem ZsS {aa:List CO} {nx ab i i' : Nat} {sl sl' : Sl} {hp hp' : Hp} {K:Sl→Hp→Prop} (hn:nx=ab) (hi:i=i') (h:sl=sl') (h' : hp=hp') :
  Jm X M nx i aa sl hp K=Jm X M ab i' aa sl' hp' K:=by rw[h,h',hn,hi]
@[congr] theorem Zsr {aa:List CO} {nx ab i i' : Nat} {t t' : Bool} {sl sl' : Sl} {hp hp' : Hp} {K:Sl→Hp→Prop} (hn:nx=ab) (hi:i=i') (ht:t=t') (h:sl=sl') (h' : hp=hp') :
  XQ X M nx i t aa sl hp K=XQ X M ab i' t' aa sl' hp' K:=by rw[h,h',ht,hn,hi]
@[congr] theorem Zss {aa:List CO} {nx i:Nat} {d:Option Nat} {sl:Sl} {hp:Hp} {K:Sl→Hp→Prop} {e e' : Option Zb} (h:e=e') :
  WW X M nx i d aa sl hp K e=WW X M nx i d aa sl hp K e':=by rw[h]
@[congr] theorem ZrP {aa:List CO} {nx i:Nat} {t t' : Bool} {d:Option Nat} {sl:Sl} {hp:Hp} {K:Sl→Hp→Prop} {e e' : Option Zb} (ht:t=t') (h:e=e') :
  YR X M nx i t d aa sl hp K e=YR X M nx i t' d aa sl hp K e':=by rw[h,ht]
theorem ZrQ (nx:Nat) (K:Sl→Hp→Prop):∀ (l:List CO) (i:Nat) (sl:Sl) (hp:Hp),Jm X M nx i l sl hp K=stW (Zbm (Zj X M) M nx i l sl hp) fun r=>K r.1 r.2:=by
 intro l
 induction l with
 | nil=>intro i sl hp;rfl
 | cons o rest ih=>
  intro i sl hp;simp only[Jm,Zbm,ih,W3];cases ZG sl o.guard with
  | none=>rfl
  | some b=>cases b<;>simp[gW,W3,Yu]
theorem Zqe (nx:Nat) (K:Sl→Hp→Prop):∀ (l:List CO) (i:Nat) (t:Bool) (sl:Sl) (hp:Hp),XQ X M nx i t l sl hp K=stW (V3 (Zj X M) (Xv M) nx i t l sl hp) fun r=>K r.1 r.2:=by
 intro l
 induction l with
 | nil=>intro i t sl hp;rfl
 | cons o rest ih=>
  intro i t sl hp;simp only[XQ,V3,ih,W3];cases ZG sl o.guard with
  | none=>rfl
  | some b=>cases b<;>simp[gW,W3,Yu]
def ZoT (m nx:Nat) (Q:Ex→St→Prop) (sl:Sl) (hp:Hp):Prop:=Q .normal { sl:=sl,hp:=hp,nx:=nx,m:=m }
def ZlG (ops:List CO) (ps:List (Nat×Nat)) (K:Sl→Hp→Prop) (sl:Sl) (hp:Hp):Prop:=Vd ops sl ps=true∧K sl hp
@[go_sem] theorem regQ_eq (m nx:Nat) (Q:Ex→St→Prop) (sl:Sl) (hp:Hp):ZoT m nx Q sl hp=Q .normal { sl:=sl,hp:=hp,nx:=nx,m:=m }:=rfl
@[go_sem] theorem seenQ_eq (ops:List CO) (ps:List (Nat×Nat)) (K:Sl→Hp→Prop) (sl:Sl) (hp:Hp):ZlG ops ps K sl hp=(Vd ops sl ps=true∧K sl hp):=rfl
@[go_sem] theorem W_skip (st:St) (Q:Ex→St→Prop):W X M .skip st Q=Q .normal st:=by simp[W,Zng,Yu]
@[go_sem] theorem W_ret (st:St) (Q:Ex→St→Prop):W X M .ret st Q=Q .ret st:=by simp[W,Zpe,Yu]
@[go_sem] theorem W_exit (id:Nat) (st:St) (Q:Ex→St→Prop):W X M (.exit id) st Q=Q (.exit id) st:=by simp[W,Znh,Yu]
@[go_sem] theorem W_stuck (st:St) (Q:Ex→St→Prop):W X M .stuck st Q=False:=by
 have h:Qj X M .stuck st=none:=XE fun n=>by simp only[Zu]
 simp only[W,h,Zdw]
@[go_sem] theorem W_region (n:Nat) (ops:List CO) (st:St) (Q:Ex→St→Prop) :
  W X M (.region n none ops) st Q=Jm X M st.nx 0 ops st.sl st.hp (ZoT st.m (st.nx+64*n) Q):=by
 rw[ZrQ,W,ZkC,Zfz,W3];rfl
theorem Zqf (n:Nat) (ps:List (Nat×Nat)) (ops:List CO) (st:St) (Q:Ex→St→Prop) :
  W X M (.region n (some ps) ops) st Q=XQ X M st.nx 0 false ops st.sl st.hp (ZlG ops ps (ZoT st.m (st.nx+64*n) Q)):=by
 rw[Zqe,W,Zni,Zfz,W3,Zi5,W3];congr 1
 funext r
 by_cases h:Vd ops r.1 ps=true<;>simp[h,ZlG,Yu,Zdw,ZoT]
@[go_sem] theorem W_draw0 (n:Nat) (ops:List CO) (st:St) (Q:Ex→St→Prop) :
  W X M (.region n (some []) ops) st Q=XQ X M st.nx 0 false ops st.sl st.hp (ZoT st.m (st.nx+64*n) Q):=by
 rw[Zqf];congr 1
 funext sl hp
 simp[ZlG,Vd]
@[go_sem] theorem W_drawc (n:Nat) (p:Nat×Nat) (ps:List (Nat×Nat)) (ops:List CO) (st:St) (Q:Ex→St→Prop) :
  W X M (.region n (some (p :: ps)) ops) st Q=XQ X M st.nx 0 false ops st.sl st.hp (ZlG ops (p :: ps) (ZoT st.m (st.nx+64*n) Q)):=Zqf X M n _ ops st Q
def ZnV (c:ZC) (Q:Ex→St→Prop):Ex→St→Prop
 | .normal,st=>W X M c st Q
 | e,st=>Q e st
def blkQ (id:Nat) (Q:Ex→St→Prop):Ex→St→Prop
 | .exit j,st=>if j=id then Q .normal st else Q (.exit j) st
 | e,st=>Q e st
@[go_sem] theorem ZrR (c:ZC) (Q:Ex→St→Prop) (st:St):ZnV X M c Q .normal st=W X M c st Q:=rfl
@[go_sem] theorem thenQ_ret (c:ZC) (Q:Ex→St→Prop) (st:St):ZnV X M c Q .ret st=Q .ret st:=rfl
@[go_sem] theorem ZsT (c:ZC) (Q:Ex→St→Prop) (id:Nat) (st:St):ZnV X M c Q (.exit id) st=Q (.exit id) st:=rfl
@[go_sem] theorem Zst (id:Nat) (Q:Ex→St→Prop) (st:St):blkQ id Q .normal st=Q .normal st:=rfl
@[go_sem] theorem blkQ_ret (id:Nat) (Q:Ex→St→Prop) (st:St):blkQ id Q .ret st=Q .ret st:=rfl
@[go_sem] theorem blkQ_exit (id j:Nat) (Q:Ex→St→Prop) (st:St):blkQ id Q (.exit j) st=if j=id then Q .normal st else Q (.exit j) st:=rfl
@[go_sem] theorem W_seq (a b:ZC) (st:St) (Q:Ex→St→Prop):W X M (.seq a b) st Q=W X M a st (ZnV X M b Q):=by
 unfold W;rw[Zpf];cases h:Qj X M a st with
 | none=>rfl
 | some r=>obtain⟨e,aa⟩:=r;cases e<;>rfl
@[go_sem] theorem W_cond (c:Opd) (a b:ZC) (st:St) (Q:Ex→St→Prop) :
  W X M (.cond c a b) st Q=YO (evO st.sl c) (W X M a st Q) (W X M b st Q):=by
 unfold W;rw[Znj];cases h:evO st.sl c with
 | d x=>cases x with
  | bool t=>cases t<;>simp[Zcr,YO]
  | _=>rfl
 | _=>rfl
@[go_sem] theorem W_block (id:Nat) (c:ZC) (st:St) (Q:Ex→St→Prop):W X M (.block id c) st Q=W X M c st (blkQ id Q):=by
 unfold W;rw[Zl2];cases h:Qj X M c st with
 | none=>rfl
 | some r=>
  obtain⟨e,aa⟩:=r;cases e with
  | exit j=>by_cases hj:j=id<;>simp[Zbp,hj,Yu,blkQ]
  | normal=>rfl
  | ret=>rfl
def keepQ (K:List Nat) (Q:Ex→St→Prop) (e:Ex) (st:St):Prop:=Q e { sl:=only K st.sl,hp:=st.hp,nx:=st.nx,m:=st.m }
@[go_sem] theorem keepQ_eq (K:List Nat) (Q:Ex→St→Prop) (e:Ex) (st:St):keepQ K Q e st=Q e { sl:=only K st.sl,hp:=st.hp,nx:=st.nx,m:=st.m }:=rfl
@[go_sem] theorem W_keep (K:List Nat) (c:ZC) (st:St) (Q:Ex→St→Prop):W X M (.keep K c) st Q=W X M c st (keepQ K Q):=by
 unfold W;rw[Znk];cases h:Qj X M c st with
 | none=>rfl
 | some r=>rfl
def shutQ (id nm:Nat) (Q:Ex→St→Prop) (e:Ex) (st:St):Prop:=Q e { sl:=st.sl,hp:=Zpc st.hp (Zfh st.hp id nm (lkp st.hp id)),nx:=st.nx,m:=st.m }
@[go_sem] theorem shutQ_eq (id nm:Nat) (Q:Ex→St→Prop) (e:Ex) (st:St):shutQ id nm Q e st=Q e { sl:=st.sl,hp:=Zpc st.hp (Zfh st.hp id nm (lkp st.hp id)),nx:=st.nx,m:=st.m }:=rfl
def ZgX (c:ZC) (Q:Ex→St→Prop) (r:Option St):Prop:=stW r fun st=>W X M c st Q
@[go_sem] theorem ZsU (c:ZC) (Q:Ex→St→Prop) (st:St):ZgX X M c Q (some st)=W X M c st Q:=rfl
@[go_sem] theorem ZsV (c:ZC) (Q:Ex→St→Prop):ZgX X M c Q none=False:=rfl
@[go_sem] theorem linkW_ite (c:ZC) (Q:Ex→St→Prop) (p:Prop) [Decidable p] (a b:Option St):ZgX X M c Q (if p then a else b)=((p→ZgX X M c Q a)∧(¬p→ZgX X M c Q b)):=by
 by_cases h:p<;>simp[h]
@[go_sem] theorem W_link (fl:Bool) (id:Nat) (i:Opd) (j:Nat) (c:ZC) (st:St) (Q:Ex→St→Prop):W X M (.link fl id i j c) st Q=ZgX X M c (shutQ id st.nx Q) (Zaw fl id i j st):=by
 unfold W ZgX;rw[Znl];cases h:Zaw fl id i j st with
 | none=>rfl
 | some st1=>
  simp only[Zc,Yu,W];cases h1:Qj X M c st1 with
  | none=>rfl
  | some q=>rfl
@[go_sem] theorem W_melt (c:ZC) (st:St) (Q:Ex→St→Prop):W X M (.melt c) st Q=W X M c { sl:=st.sl,hp:=Zef ZdD st.hp,nx:=st.nx,m:=st.m } Q:=by
 unfold W;rw[Znm];rfl
def LW (c:ZC) (K:List Nat) (st:St) (Q:Ex→St→Prop):Prop:=stW (Zbr X M c K st) fun r=>Q r.1 r.2
@[congr] theorem LW_congr {c:ZC} {K K' : List Nat} {st aa : St} {Q:Ex→St→Prop} (hk:K=K') (h:st=aa):LW X M c K st Q=LW X M c K' aa Q:=by rw[h,hk]
@[go_sem] theorem W_loop (c:ZC) (st:St) (Q:Ex→St→Prop):W X M (.loop c) st Q=LW X M c (WT st.sl) st Q:=by
 unfold W LW;rw[Znn]
def ZgY (c:ZC) (K:List Nat) (Q:Ex→St→Prop):Ex→St→Prop
 | .normal,st=>LW X M c K st Q
 | e,st=>Q e st
@[go_sem] theorem ZrS (c:ZC) (K:List Nat) (Q:Ex→St→Prop) (st:St):ZgY X M c K Q .normal st=LW X M c K st Q:=rfl
@[go_sem] theorem nextQ_ret (c:ZC) (K:List Nat) (Q:Ex→St→Prop) (st:St):ZgY X M c K Q .ret st=Q .ret st:=rfl
@[go_sem] theorem ZsW (c:ZC) (K:List Nat) (Q:Ex→St→Prop) (id:Nat) (st:St):ZgY X M c K Q (.exit id) st=Q (.exit id) st:=rfl
theorem JI {c:ZC} {K:List Nat} {st:St} {Q:Ex→St→Prop} (h:W X M c (Vt K st) (ZgY X M c K Q)):LW X M c K st Q:=by
 unfold W at h;cases hv:Qj X M c (Vt K st) with
 | none=>rw[hv] at h;exact h.elim
 | some r=>
  rw[hv] at h;obtain⟨e,aa⟩:=r;unfold LW;cases e with
  | normal=>rw[Zl3 X M hv];exact h
  | exit id=>rw[Zhw X M (by simp) hv];exact h
  | ret=>rw[Zhw X M (by simp) hv];exact h
def Zim (sl:Sl):Sl→Sl
 | []=>sl
 | (k,v) :: r=>Zim (ins sl k v) r
def Zcm (hp:Hp):Hp→Hp
 | []=>hp
 | (k,o) :: r=>Zcm (ins hp k o) r
theorem LW_ind {α:Type} (S:α→St) (I:α→Prop) (μ:α→Nat) {c:ZC} {K:List Nat} {Q:Ex→St→Prop}
  (step:∀ a,I a→(∀ b st,I b→μ b<μ a→Vt K st=S b→LW X M c K st Q)→W X M c (S a) (ZgY X M c K Q)) :
  ∀ a st,I a→Vt K st=S a→LW X M c K st Q:=by
 have aa:∀ n a st,μ a=n→I a→Vt K st=S a→LW X M c K st Q:=by
  intro n
  induction n using Nat.strongRecOn with
  | ind n ih=>
   intro a st hn ha hs;refine JI X M ?_;rw[hs];exact step a ha fun b ab hb ae ad=>ih (μ b) (by omega) b ab rfl hb ad
 exact fun a st ha hs=>aa _ a st rfl ha hs
theorem Wt {α:Type} (u:α→Sl) (uh:α→Hp) (I:α→Prop) (μ:α→Nat) (a:α) {c:ZC} {K:List Nat} {Q:Ex→St→Prop} {st st0:St}
  (hc:Vt K st=st0) (ha:I a) (h0:(⟨Zim st0.sl (u a),Zcm st0.hp (uh a),st0.nx,st0.m⟩:St)=st0)
  (step:∀ a,I a→(∀ b st,I b→μ b<μ a→Vt K st=⟨Zim st0.sl (u b),Zcm st0.hp (uh b),st0.nx,st0.m⟩→LW X M c K st Q)→W X M c ⟨Zim st0.sl (u a),Zcm st0.hp (uh a),st0.nx,st0.m⟩ (ZgY X M c K Q)) :
  LW X M c K st Q:=
 LW_ind X M (fun a=>⟨Zim st0.sl (u a),Zcm st0.hp (uh a),st0.nx,st0.m⟩) I μ step a st ha (hc.trans h0.symm)
def Zke (m:Nat) (rs:List Zip) (R:AV×List Zh→Prop):Ex→St→Prop:=fun e st=>stW (Jv m rs (some (e,st))) R
def resW (m:Nat) (hp:Hp) (R:AV×List Zh→Prop) (vs:Option (List AV)):Prop:=stW vs fun vs=>R (YA m hp (UP vs))
@[go_sem] theorem resW_some (m:Nat) (hp:Hp) (R:AV×List Zh→Prop) (vs:List AV):resW m hp R (some vs)=R (YA m hp (UP vs)):=rfl
@[go_sem] theorem resW_none (m:Nat) (hp:Hp) (R:AV×List Zh→Prop):resW m hp R none=False:=rfl
@[go_sem] theorem endQ_ret (m:Nat) (rs:List Zip) (R:AV×List Zh→Prop) (st:St):Zke m rs R .ret st=resW m st.hp R (Z6 (Zhu st) rs):=by
 simp only[Zke,Jv,W3];rfl
@[go_sem] theorem Zsu (m:Nat) (rs:List Zip) (R:AV×List Zh→Prop) (st:St):Zke m rs R .normal st=resW m st.hp R (Z6 (Zhu st) rs):=by
 simp only[Zke,Jv,W3];rfl
theorem Zqg {f:Nat} {as:List AV} {h:List Zh} (fn:ZT) {R:AV×List Zh→Prop} (hx:X f=some (.text fn)) (hl:as.length≤fn.nt)
  (hr:W X M fn.body { sl:=Ye 0 as,hp:=Yz 0 h,nx:=h.length,m:=h.length } (Zke h.length fn.res R)):∃ r,Zj X M f as h=some r∧R r:=by
 unfold W at hr;cases hv:Qj X M fn.body { sl:=Ye 0 as,hp:=Yz 0 h,nx:=h.length,m:=h.length } with
 | none=>rw[hv] at hr;exact hr.elim
 | some q=>
  rw[hv] at hr;obtain⟨e,st⟩:=q;simp only[Yu,Zke] at hr;cases hk:Jv h.length fn.res (some (e,st)) with
  | none=>rw[hk] at hr;exact hr.elim
  | some r=>rw[hk] at hr;exact⟨r,ZqB X M hx hl (by rw[hv];exact hk),hr⟩
theorem callE {f:Nat} {as:List AV} {h:List Zh} (fn:ZT) {r:AV×List Zh} (hx:X f=some (.text fn)) (hl:as.length≤fn.nt)
  (hr:W X M fn.body { sl:=Ye 0 as,hp:=Yz 0 h,nx:=h.length,m:=h.length } (Zke h.length fn.res fun q=>q=r)):Zj X M f as h=some r:=by
 obtain⟨q,hq,rfl⟩:=Zqg X M fn hx hl hr;exact hq
end
@[go_sem] theorem vopE_move (C:Orc) (M:Zg) (sl:Sl) (hp:Hp) (base:Nat) (x:Opd):vop C M sl hp base (.move x)=Qo (evO sl x):=by simp only[vop]
@[go_sem] theorem Zsv (C:Orc) (M:Zg) (sl:Sl) (hp:Hp) (base:Nat) (s:Option Nat) (x:Opd):vop C M sl hp base (.assign s x)=Zak base s (evO sl x):=by simp only[vop]
@[go_sem] theorem vopE_pick (C:Orc) (M:Zg) (sl:Sl) (hp:Hp) (base:Nat) (c a b:Opd):vop C M sl hp base (.pick c a b)=Zbj (evO sl a) (evO sl b) (evO sl c):=by simp only[vop]
@[go_sem] theorem ZsX (C:Orc) (M:Zg) (sl:Sl) (hp:Hp) (base:Nat) (slc:List (Option Nat)) (cs:List AV):vop C M sl hp base (.alloc slc cs)=Zbk slc base cs:=by simp only[vop]
@[go_sem] theorem vopE_box (C:Orc) (M:Zg) (sl:Sl) (hp:Hp) (base:Nat) (x:Opd):vop C M sl hp base (.box x)=Zo3 base (evO sl x):=by simp only[vop]
@[go_sem] theorem ZsY (C:Orc) (M:Zg) (sl:Sl) (hp:Hp) (base:Nat) (zs:List AV) (ps:List (Nat×Nat×Opd)):vop C M sl hp base (.build zs ps)=Zg8 zs (evP sl ps):=by simp only[vop]
@[go_sem] theorem ZrT (C:Orc) (M:Zg) (sl:Sl) (hp:Hp) (base:Nat) (s:Nat) (xs:List Opd):vop C M sl hp base (.buildSl s xs)=buildSl hp base s (evL sl xs):=by simp only[vop]
@[go_sem] theorem vopE_load (C:Orc) (M:Zg) (sl:Sl) (hp:Hp) (base:Nat) (g:Bool) (s:Nat) (a:Opd):vop C M sl hp base (.load g s a)=X2 (Y7 hp g s (evO sl a)):=by simp only[vop]
@[go_sem] theorem ZsZ (C:Orc) (M:Zg) (sl:Sl) (hp:Hp) (base:Nat) (slc:List (Option Nat)) (s:Nat) (a x:Opd):vop C M sl hp base (.store slc s a x)=ZaH (WQ hp slc s base (evO sl x).cells (evO sl a)):=by simp only[vop]
@[go_sem] theorem Zrs (C:Orc) (M:Zg) (sl:Sl) (hp:Hp) (base:Nat) (x:Opd):vop C M sl hp base (.nilCheck x)=Wf (evO sl x):=by simp only[vop]
@[go_sem] theorem vopE_bin (C:Orc) (M:Zg) (sl:Sl) (hp:Hp) (base:Nat) (op:BinOp) (eq:Bool) (x y:Opd):vop C M sl hp base (.bin op eq x y)=Zg9 op eq (evO sl x) (evO sl y):=by simp only[vop]
@[go_sem] theorem vopE_un (C:Orc) (M:Zg) (sl:Sl) (hp:Hp) (base:Nat) (op:UnOp) (x:Opd):vop C M sl hp base (.un op x)=X2 (vun op (evO sl x)):=by simp only[vop]
@[go_sem] theorem vopE_eqA (C:Orc) (M:Zg) (sl:Sl) (hp:Hp) (base:Nat) (neg:Bool) (ks:List Nat) (x y:Opd):vop C M sl hp base (.eqA neg ks x y)=Zkl neg ks (evO sl x) (evO sl y):=by simp only[vop]
@[go_sem] theorem Zs0 (C:Orc) (M:Zg) (sl:Sl) (hp:Hp) (base:Nat) (k:IntKind) (x:Opd):vop C M sl hp base (.convI k x)=convI k (evO sl x):=by simp only[vop]
@[go_sem] theorem Zs1 (C:Orc) (M:Zg) (sl:Sl) (hp:Hp) (base:Nat) (x:Opd):vop C M sl hp base (.convS x)=convS (evO sl x):=by simp only[vop]
@[go_sem] theorem vopE_fn (C:Orc) (M:Zg) (sl:Sl) (hp:Hp) (base:Nat) (f:Nat) (cs:List Opd):vop C M sl hp base (.fn f cs)=X2 (cloV f (evL sl cs)):=by simp only[vop]
@[go_sem] theorem vopE_make (C:Orc) (M:Zg) (sl:Sl) (hp:Hp) (base:Nat) (s b:Nat) (z:D) (l c:Opd):vop C M sl hp base (.make s b z l c)=bnd (idx (evO sl l)) fun l=>bnd (idx (evO sl c)) fun c=>ZiX base s b z l c:=by simp only[vop]
@[go_sem] theorem Zs2 (C:Orc) (M:Zg) (sl:Sl) (hp:Hp) (base:Nat) (s:Nat) (x:Opd) (lo hi:Option Opd):vop C M sl hp base (.slice s x lo hi)=X2 (X1 hp s (evM sl lo) (evM sl hi) (evO sl x)):=by simp only[vop]
@[go_sem] theorem Zsw (C:Orc) (M:Zg) (sl:Sl) (hp:Hp) (base:Nat) (x:Opd) (lo hi:Option Opd):vop C M sl hp base (.sliceS x lo hi)=X2 (sliceS (evM sl lo) (evM sl hi) (evO sl x)):=by simp only[vop]
@[go_sem] theorem Zsx (C:Orc) (M:Zg) (sl:Sl) (hp:Hp) (base:Nat) (x hi mx:Opd):vop C M sl hp base (.slice0 x hi mx)=X2 (slice0 hp (evO sl x) (idx (evO sl hi)) (idx (evO sl mx))):=by simp only[vop]
@[go_sem] theorem Zs3 (C:Orc) (M:Zg) (sl:Sl) (hp:Hp) (base:Nat) (off:Nat) (x:Opd):vop C M sl hp base (.shift off x)=Yx off (evO sl x):=by simp only[vop]
@[go_sem] theorem vopE_part (C:Orc) (M:Zg) (sl:Sl) (hp:Hp) (base:Nat) (g:Bool) (s off:Nat) (x:Opd):vop C M sl hp base (.part g s off x)=X2 (ZdC g s off (evO sl x)):=by simp only[vop]
@[go_sem] theorem vopE_iaS (C:Orc) (M:Zg) (sl:Sl) (hp:Hp) (base:Nat) (s:Nat) (x i:Opd):vop C M sl hp base (.iaS s x i)=bnd (idx (evO sl i)) fun n=>Zcq hp s (evO sl x) n:=by simp only[vop]
@[go_sem] theorem vopE_iaA (C:Orc) (M:Zg) (sl:Sl) (hp:Hp) (base:Nat) (len s:Nat) (x i:Opd):vop C M sl hp base (.iaA len s x i)=bnd (idx (evO sl i)) fun n=>Zhb (evO sl x) n len s:=by simp only[vop]
@[go_sem] theorem vopE_ixS (C:Orc) (M:Zg) (sl:Sl) (hp:Hp) (base:Nat) (x i:Opd):vop C M sl hp base (.ixS x i)=bnd (idx (evO sl i)) fun n=>Zm1 n (evO sl x):=by simp only[vop]
@[go_sem] theorem vopE_ixA (C:Orc) (M:Zg) (sl:Sl) (hp:Hp) (base:Nat) (g:Bool) (s len:Nat) (x i:Opd):vop C M sl hp base (.ixA g s len x i)=bnd (idx (evO sl i)) fun n=>Zo5 g s len n (evO sl x):=by simp only[vop]
@[go_sem] theorem vopE_nth (C:Orc) (M:Zg) (sl:Sl) (hp:Hp) (base:Nat) (i:Nat) (x:Opd):vop C M sl hp base (.nth i x)=ZlP i (evO sl x):=by simp only[vop]
@[go_sem] theorem vopE_len (C:Orc) (M:Zg) (sl:Sl) (hp:Hp) (base:Nat) (x:Opd):vop C M sl hp base (.len x)=bnd (Jl hp (evO sl x)) fun n=>Qo (.d (.int .i64 n)):=by simp only[vop]
@[go_sem] theorem vopE_lenS (C:Orc) (M:Zg) (sl:Sl) (hp:Hp) (base:Nat) (x:Opd):vop C M sl hp base (.lenS x)=bnd (Zor (evO sl x)) fun n=>Qo (.d (.int .i64 n)):=by simp only[vop]
@[go_sem] theorem Zsy (C:Orc) (M:Zg) (sl:Sl) (hp:Hp) (base:Nat) (s b:Nat) (str flat:Bool) (x y:Opd):vop C M sl hp base (.append s b str flat x y)=ZlQ hp s b str flat base (evO sl x) (evO sl y):=by simp only[vop]
@[go_sem] theorem vopE_min (C:Orc) (M:Zg) (sl:Sl) (hp:Hp) (base:Nat) (x y:Opd):vop C M sl hp base (.min x y)=Zfb (evO sl x) (evO sl y):=by simp only[vop]
@[go_sem] theorem vopE_max (C:Orc) (M:Zg) (sl:Sl) (hp:Hp) (base:Nat) (x y:Opd):vop C M sl hp base (.max x y)=Zfc (evO sl x) (evO sl y):=by simp only[vop]
@[go_sem] theorem vopE_call (C:Orc) (M:Zg) (sl:Sl) (hp:Hp) (base:Nat) (f:Opd) (as:List Opd):vop C M sl hp base (.call f as)=Jr C M hp base (evL sl as) (evO sl f):=by simp only[vop]
@[go_sem] theorem Zsz (C:Orc) (M:Zg) (sl:Sl) (hp:Hp) (base:Nat) (s:Nat) (x lo hi mx:Opd):vop C M sl hp base (.slice3 s x lo hi mx)=X2 (slice3 hp (evO sl x) (idx (evO sl lo)) (idx (evO sl hi)) (idx (evO sl mx))):=by simp only[vop]
@[go_sem] theorem Zs4 (C:Orc) (M:Zg) (sl:Sl) (hp:Hp) (base:Nat) (s:Nat) (z:D) (x:Opd):vop C M sl hp base (.clear s z x)=ZaH (Zag hp s z (evO sl x)):=by simp only[vop]
@[go_sem] theorem ZsA (C:Orc) (M:Zg) (sl:Sl) (hp:Hp) (base:Nat) (s n:Nat) (xs:List Opd):vop C M sl hp base (.buildT s n xs)=buildT hp base s n (evL sl xs):=by simp only[vop]
@[go_sem] theorem vopE_appT (C:Orc) (M:Zg) (sl:Sl) (hp:Hp) (base:Nat) (s b:Nat) (f:Bool) (x y:Opd):vop C M sl hp base (.appT s b f x y)=appT hp s b base (evO sl x) (evO sl y):=by simp only[vop]
@[go_sem] theorem vopE_asgT (C:Orc) (M:Zg) (sl:Sl) (hp:Hp) (base:Nat) (s n:Nat) (x:Opd):vop C M sl hp base (.asgT s n x)=asgT base s n (evO sl x):=by simp only[vop]
@[go_sem] theorem Zs5 (C:Orc) (M:Zg) (sl:Sl) (hp:Hp) (base:Nat) (s b n:Nat) (z:D) (l c:Opd):vop C M sl hp base (.makeT s b n z l c)=bnd (idx (evO sl l)) fun l=>bnd (idx (evO sl c)) fun c=>makeT base s b n z l c:=by simp only[vop]
@[go_sem] theorem Zs6 (C:Orc) (M:Zg) (sl:Sl) (hp:Hp) (base:Nat):vop C M sl hp base .stuck=none:=by simp only[vop]
@[go_sem] theorem ZoU (hp:Hp) (n:Nat) (aa:List Nat):Qw hp n [] aa=aa:=by cases n<;>rfl
@[go_sem] theorem tidy_d (hp:Hp) (ids:List Nat) (x:D):JO hp ids (.d x)=.d x:=rfl
@[go_sem] theorem tidy_nil (hp:Hp) (ids:List Nat):JO hp ids .nil=.nil:=rfl
@[go_sem] theorem tidy_junk (hp:Hp) (ids:List Nat):JO hp ids .junk=.junk:=rfl
@[go_sem] theorem tidy_tup (hp:Hp) (ids:List Nat) (vs:List AV):JO hp ids (.tup vs)=ren (X9 ids) (kill (Zbn hp ids (Zm (.tup vs))) (.tup vs)):=rfl
@[go_sem] theorem tidy_agg (hp:Hp) (ids:List Nat) (vs:List AV):JO hp ids (.agg vs)=ren (X9 ids) (kill (Zbn hp ids (Zm (.agg vs))) (.agg vs)):=rfl
@[go_sem] theorem tidy_clo (hp:Hp) (ids:List Nat) (f:Nat) (vs:List AV):JO hp ids (.clo f vs)=ren (X9 ids) (kill (Zbn hp ids (Zm (.clo f vs))) (.clo f vs)):=rfl
@[go_sem] theorem tidy_nilp (hp:Hp) (ids:List Nat):JO hp ids .nilp=.nilp:=rfl
@[go_sem] theorem tidy_nili (hp:Hp) (ids:List Nat):JO hp ids .nili=.nili:=rfl
@[go_sem] theorem tidy_pim (hp:Hp) (ids:List Nat) (cs:List D):JO hp ids (.pim cs)=.pim cs:=rfl
@[go_sem] theorem tidy_ptr (hp:Hp) (ids:List Nat) (id o:Nat):JO hp ids (.ptr id o)=if Ju hp ids id=true then .ptr (X9 ids id) o else .junk:=by
 simp only[JO,Zm,Zo,Zf,Zbn];split<;>simp[kill,Zz,ZM,ren,Jk,J8]
@[go_sem] theorem tidy_prow (hp:Hp) (ids:List Nat) (id s i o:Nat):JO hp ids (.prow id s i o)=if Ju hp ids id=true then .prow (X9 ids id) s i o else .junk:=by
 simp only[JO,Zm,Zo,Zf,Zbn];split<;>simp[kill,Zz,ZM,ren,Jk,J8]
@[go_sem] theorem tidy_own (hp:Hp) (ids:List Nat) (id:Nat):JO hp ids (.own id)=if Ju hp ids id=true then .own (X9 ids id) else .junk:=by
 simp only[JO,Zm,Zo,Zf,Zbn];split<;>simp[kill,Zz,ZM,ren,Jk,J8]
@[go_sem] theorem tidy_ownv (hp:Hp) (ids:List Nat) (id a b:Nat):JO hp ids (.ownv id a b)=if Ju hp ids id=true then .ownv (X9 ids id) a b else .junk:=by
 simp only[JO,Zm,Zo,Zf,Zbn];split<;>simp[kill,Zz,ZM,ren,Jk,J8]
@[go_sem] theorem Zs7 (hp:Hp) (x:D):YA 0 hp (.d x)=(.d x,[]):=by
 simp[YA,Zm,Zo,Zf,YK,ZoU,tidy_d,Jo]
@[go_sem] theorem minI_eq (a b:Int):minI a b=min a b:=by unfold minI;split<;>omega
@[go_sem] theorem maxI_eq (a b:Int):maxI a b=max a b:=by unfold maxI;split<;>omega
@[go_sem] theorem negIf_f (r:Bool):Zha false r=r:=rfl
@[go_sem] theorem negIf_t (r:Bool):Zha true r=!r:=rfl
@[go_sem] theorem opt1_some (v:AV):X2 (some v)=Qo v:=rfl
@[go_sem] theorem opt1_none:X2 none=none:=rfl
@[go_sem] theorem vbin_int (op:BinOp) (k k' : IntKind) (a b:Int):vbin op (.d (.int k a)) (.d (.int k' b))=V9 op k k' a b:=rfl
@[go_sem] theorem binV_int (op:BinOp) (eq:Bool) (k k' : IntKind) (a b:Int):Zg9 op eq (.d (.int k a)) (.d (.int k' b))=X2 (V9 op k k' a b):=rfl
@[go_sem] theorem binV_str (op:BinOp) (eq:Bool) (a b:List UInt8):Zg9 op eq (.d (.str a)) (.d (.str b))=X2 (asD (Zlc op a b)):=rfl
@[go_sem] theorem int2_add (k:IntKind) (a b:Int):V9 .add k k a b=some (.d (.int k (k.wrap (a+b)))):=by simp[V9,Vh,asD,Zc]
@[go_sem] theorem int2_sub (k:IntKind) (a b:Int):V9 .sub k k a b=some (.d (.int k (k.wrap (a-b)))):=by simp[V9,Vh,asD,Zc]
@[go_sem] theorem int2_mul (k:IntKind) (a b:Int):V9 .mul k k a b=some (.d (.int k (k.wrap (a*b)))):=by simp[V9,Vh,asD,Zc]
@[go_sem] theorem int2_quo (k:IntKind) (a b:Int):V9 .quo k k a b=if b=0 then none else some (.d (.int k (k.wrap (a.tdiv b)))):=by simp only[V9,Vh,asD,if_true];split<;>rfl
@[go_sem] theorem int2_rem (k:IntKind) (a b:Int):V9 .rem k k a b=if b=0 then none else some (.d (.int k (a.tmod b))):=by simp only[V9,Vh,asD,if_true];split<;>rfl
@[go_sem] theorem int2_eql (k:IntKind) (a b:Int):V9 .eql k k a b=some (.d (.bool (decide (a=b)))):=by simp[V9,Vh,asD,Zc,BEq.beq]
@[go_sem] theorem int2_neq (k:IntKind) (a b:Int):V9 .neq k k a b=some (.d (.bool (!decide (a=b)))):=by simp[V9,Vh,asD,Zc,bne,BEq.beq]
@[go_sem] theorem int2_lss (k:IntKind) (a b:Int):V9 .lss k k a b=some (.d (.bool (decide (a<b)))):=by simp[V9,Vh,asD,Zc]
@[go_sem] theorem int2_leq (k:IntKind) (a b:Int):V9 .leq k k a b=some (.d (.bool (decide (a≤b)))):=by simp[V9,Vh,asD,Zc]
@[go_sem] theorem int2_gtr (k:IntKind) (a b:Int):V9 .gtr k k a b=some (.d (.bool (decide (b<a)))):=by simp[V9,Vh,asD,Zc]
@[go_sem] theorem int2_geq (k:IntKind) (a b:Int):V9 .geq k k a b=some (.d (.bool (decide (b≤a)))):=by simp[V9,Vh,asD,Zc]
@[go_sem] theorem guardV_t (b:Bool):Zar true (.d (.bool b))=some b:=by cases b<;>rfl
def nb (b:Bool):Bool:=!b
@[go_sem] theorem nb_true:nb true=false:=rfl
@[go_sem] theorem nb_false:nb false=true:=rfl
@[go_sem] theorem nb_eq (b:Bool):(nb b=true)=(b=false):=by cases b<;>simp[nb]
@[go_sem] theorem guardV_f (b:Bool):Zar false (.d (.bool b))=some (nb b):=by cases b<;>rfl
@[go_sem] theorem Zs8 (w:Bool):Zar w (.tup [])=some false:=rfl
@[go_sem] theorem ZrU (a b:Bool):Zar true (Zb4 a (.d (.bool b)))=some (a&&b):=by cases a<;>cases b<;>rfl
@[go_sem] theorem ZrV (a b:Bool):Zar false (Zb4 a (.d (.bool b)))=some (a&&nb b):=by cases a<;>cases b<;>rfl
@[go_sem] theorem iteV_true (v:AV):Zb4 true v=v:=rfl
@[go_sem] theorem Zs9 (v:AV):Zb4 false v=.tup []:=rfl
@[go_sem] theorem Zta (a b:AV):Zbj a b (.d (.bool true))=Qo a:=rfl
@[go_sem] theorem ZsB (a b:AV):Zbj a b (.d (.bool false))=Qo b:=rfl
@[go_sem] theorem pickV_or (b c:Bool):Zbj (.d (.bool true)) (Zb4 (nb b) (.d (.bool c))) (.d (.bool b))=Qo (.d (.bool (b || c))):=by cases b<;>rfl
@[go_sem] theorem pickV_and (b c:Bool):Zbj (Zb4 b (.d (.bool c))) (.d (.bool false)) (.d (.bool b))=Qo (.d (.bool (b&&c))):=by cases b<;>rfl
theorem Ztb (a b:AV) (t:Bool):Zbj a b (.d (.bool t))=if t=true then Qo a else Qo b:=by cases t<;>rfl
@[go_sem] theorem dec_or (p q:Prop) [Decidable p] [Decidable q]:(decide p || decide q)=decide (p∨q):=by simp
@[go_sem] theorem dec_and (p q:Prop) [Decidable p] [Decidable q]:(decide p&&decide q)=decide (p∧q):=by simp
@[go_sem] theorem dec_not (p:Prop) [Decidable p]:(!decide p)=decide (¬p):=by simp
attribute [go_sem] Bool.or_eq_false_iff decide_eq_true_eq decide_eq_false_iff_not Bool.and_eq_true Bool.or_eq_true Bool.not_eq_true' Bool.not_eq_false' not_or Decidable.not_not
@[go_sem] theorem evO_t (sl:Sl) (n:Nat):evO sl (.t n)=gs sl n:=rfl
@[go_sem] theorem evO_v (sl:Sl) (a:AV):evO sl (.v a)=a:=rfl
@[go_sem] theorem evO_f (sl:Sl) (n:Nat):evO sl (.f n)=.clo n []:=rfl
@[go_sem] theorem gs_hit (k:Nat) (v:AV) (r:Sl):gs ((k,v) :: r) k=v:=by simp[gs,lkp,Ji]
@[go_sem] theorem gs_cons (k t:Nat) (v:AV) (r:Sl):gs ((k,v) :: r) t=if k=t then v else gs r t:=by
 by_cases h:k=t<;>simp[gs,lkp,h,Ji]
@[go_sem] theorem gs_nil (t:Nat):gs [] t=.junk:=rfl
attribute [go_sem] J6.eq_1 J6.eq_2
attribute [go_sem] VH.eq_1 VH.eq_2 VH.eq_3 VH.eq_4
attribute [go_sem] Zdf.eq_1 Zdf.eq_2 Zdf.eq_3 Zdf.eq_4
attribute [go_sem] W1.eq_1 W1.eq_2
attribute [go_sem] St.hp.eq_1
attribute [go_sem] UZ.eq_1 UZ.eq_2 UZ.eq_3
attribute [go_sem] Ji.eq_1 Ji.eq_2
attribute [go_sem] agg2.eq_1 agg2.eq_2 agg2.eq_3
attribute [go_sem] ins.eq_1 ins.eq_2
attribute [go_sem] J7.eq_1 J7.eq_2
attribute [go_sem] QP.eq_1 QP.eq_2 QP.eq_3
attribute [go_sem] St.m.eq_1
attribute [go_sem] bnd.eq_1 bnd.eq_2
attribute [go_sem] YH.eq_1 YH.eq_2 YH.eq_3
attribute [go_sem] Zlc.eq_1 Zlc.eq_2 Zlc.eq_3 Zlc.eq_4
attribute [go_sem] AV.cells.eq_1 AV.cells.eq_2 AV.cells.eq_3 AV.cells.eq_4 AV.cells.eq_5 AV.cells.eq_6 AV.cells.eq_7 AV.cells.eq_8 AV.cells.eq_9 AV.cells.eq_10 AV.cells.eq_11 AV.cells.eq_12 AV.cells.eq_13 AV.cells.eq_14 AV.cells.eq_15
attribute [go_sem] ZM.eq_1 ZM.eq_2 ZM.eq_3 ZM.eq_4 ZM.eq_5 ZM.eq_6
attribute [go_sem] AV.solid.eq_1 AV.solid.eq_2 AV.solid.eq_3 AV.solid.eq_4
attribute [go_sem] X6.eq_1 X6.eq_2
attribute [go_sem] Z6.eq_1 Z6.eq_2
attribute [go_sem] Xn.eq_1 Xn.eq_2
attribute [go_sem] VG.eq_1
attribute [go_sem] Jl.eq_1 Jl.eq_2 Jl.eq_3 Jl.eq_4 Jl.eq_5
attribute [go_sem] Yp.eq_1 Yp.eq_2
attribute [go_sem] D.flat.eq_1
attribute [go_sem] give.eq_1 give.eq_2
attribute [go_sem] D.beq1.eq_1 D.beq1.eq_2 D.beq1.eq_3 D.beq1.eq_4
attribute [go_sem] J8.eq_1 J8.eq_2 J8.eq_3 J8.eq_4 J8.eq_5 J8.eq_6
attribute [go_sem] not1.eq_1 not1.eq_2
attribute [go_sem] QJ.eq_1 QJ.eq_2 QJ.eq_3 QJ.eq_4
attribute [go_sem] St.nx.eq_1
attribute [go_sem] Zo.eq_1 Zo.eq_2 Zo.eq_3
attribute [go_sem] Jk.eq_1 Jk.eq_2 Jk.eq_3
attribute [go_sem] Zdg.eq_1 Zdg.eq_2
attribute [go_sem] vun.eq_1 vun.eq_2 vun.eq_3
attribute [go_sem] toD.eq_1 toD.eq_2
attribute [go_sem] Zf.eq_1 Zf.eq_2 Zf.eq_3 Zf.eq_4 Zf.eq_5 Zf.eq_6 Zf.eq_7 Zf.eq_8 Zf.eq_9 Zf.eq_10 Zf.eq_11 Zf.eq_12 Zf.eq_13 Zf.eq_14 Zf.eq_15
attribute [go_sem] D.plain.eq_1 D.plain.eq_2 D.plain.eq_3 D.plain.eq_4 D.plain.eq_5
attribute [go_sem] Zl.eq_1
attribute [go_sem] Zz.eq_1 Zz.eq_2 Zz.eq_3
attribute [go_sem] Va.eq_1 Va.eq_2
attribute [go_sem] Zm.eq_1 Zm.eq_2
attribute [go_sem] Zmy.eq_1
attribute [go_sem] Zef.eq_1 Zef.eq_2
attribute [go_sem] WV.eq_1 WV.eq_2 WV.eq_3 WV.eq_4
attribute [go_sem] St.sl.eq_1
attribute [go_sem] Zor.eq_1 Zor.eq_2
attribute [go_sem] YI.eq_1 YI.eq_2
attribute [go_sem] Jj.eq_1 Jj.eq_2
attribute [go_sem] ren.eq_1 ren.eq_2
attribute [go_sem] kill.eq_1 kill.eq_2
attribute [go_sem] lkp.eq_1 lkp.eq_2
attribute [go_sem] Zix.eq_1 Zix.eq_2 Zix.eq_3
attribute [go_sem] QY.eq_1 QY.eq_2
attribute [go_sem] beqL.eq_1 beqL.eq_2 beqL.eq_3
attribute [go_sem] D.cells.eq_1 D.cells.eq_2 D.cells.eq_3 D.cells.eq_4 D.cells.eq_5
attribute [go_sem] Zgn.eq_1 Zgn.eq_2
attribute [go_sem] Ziw.eq_1 Ziw.eq_2
attribute [go_sem] neg1.eq_1 neg1.eq_2
attribute [go_sem] Zeg.eq_1 Zeg.eq_2 Zeg.eq_3
attribute [go_sem] Zgo.eq_1 Zgo.eq_2
attribute [go_sem] XL.eq_1 XL.eq_2 XL.eq_3
attribute [go_sem] asD.eq_1
attribute [go_sem] Vh.eq_1 Vh.eq_2 Vh.eq_3 Vh.eq_4 Vh.eq_5 Vh.eq_6 Vh.eq_7 Vh.eq_8 Vh.eq_9 Vh.eq_10 Vh.eq_11 Vh.eq_12 Vh.eq_13 Vh.eq_14 Vh.eq_15 Vh.eq_16 Vh.eq_17
attribute [go_sem] Zb3.eq_1 Zb3.eq_2 Zb3.eq_3 Zb3.eq_4 Zb3.eq_5
attribute [go_sem] D.one.eq_1 D.one.eq_2 D.one.eq_3 D.one.eq_4 D.one.eq_5
attribute [go_sem] freeze.eq_1 freeze.eq_2
attribute [go_sem] UA.eq_1
attribute [go_sem] loOf.eq_1 loOf.eq_2
attribute [go_sem] Eff.on.eq_1
attribute [go_sem] appT.eq_1
attribute [go_sem] Wu.eq_1 Wu.eq_2
attribute [go_sem] cloV.eq_1
attribute [go_sem] slice0.eq_1 slice0.eq_2
attribute [go_sem] evM.eq_1 evM.eq_2
attribute [go_sem] VO.eq_1 VO.eq_2
attribute [go_sem] hiOf.eq_1 hiOf.eq_2
attribute [go_sem] ZdC.eq_1 ZdC.eq_2 ZdC.eq_3
attribute [go_sem] ZnZ.eq_1
attribute [go_sem] idx.eq_1 idx.eq_2
attribute [go_sem] X1.eq_1 X1.eq_2 X1.eq_3 X1.eq_4 X1.eq_5
attribute [go_sem] V2.eq_1 V2.eq_2 V2.eq_3
attribute [go_sem] ZO.eq_1 ZO.eq_2
attribute [go_sem] D.notSl.eq_1 D.notSl.eq_2
attribute [go_sem] Zqn.eq_1 Zqn.eq_2
attribute [go_sem] UE.eq_1 UE.eq_2 UE.eq_3 UE.eq_4 UE.eq_5 UE.eq_6
attribute [go_sem] Vc.eq_1 Vc.eq_2 Vc.eq_3
attribute [go_sem] CO.guard.eq_1
attribute [go_sem] ZaH.eq_1
attribute [go_sem] WI.eq_1
attribute [go_sem] UB.eq_1 UB.eq_2 UB.eq_3
attribute [go_sem] Zdy.eq_1
attribute [go_sem] Eff.adds.eq_1
attribute [go_sem] Zfa.eq_1 Zfa.eq_2
attribute [go_sem] X9.eq_1 X9.eq_2
attribute [go_sem] Zd.eq_1 Zd.eq_2
attribute [go_sem] Zb.eff.eq_1
attribute [go_sem] Zbg.eq_1 Zbg.eq_2
attribute [go_sem] Zm1.eq_1 Zm1.eq_2
attribute [go_sem] Zbc.eq_1 Zbc.eq_2 Zbc.eq_3
attribute [go_sem] del.eq_1 del.eq_2
attribute [go_sem] Zg8.eq_1
attribute [go_sem] Zkh.eq_1 Zkh.eq_2
attribute [go_sem] We.eq_1 We.eq_2
attribute [go_sem] Zfc.eq_1 Zfc.eq_2
attribute [go_sem] D.isAgg.eq_1 D.isAgg.eq_2
attribute [go_sem] Wf.eq_1 Wf.eq_2 Wf.eq_3 Wf.eq_4 Wf.eq_5
attribute [go_sem] Zbk.eq_1
attribute [go_sem] slice3.eq_1
attribute [go_sem] UD.eq_1 UD.eq_2
attribute [go_sem] args.eq_1 args.eq_2
attribute [go_sem] Zfb.eq_1 Zfb.eq_2
attribute [go_sem] Zaj.eq_1
attribute [go_sem] Zdz.eq_1 Zdz.eq_2
attribute [go_sem] VS.eq_1
attribute [go_sem] evL.eq_1 evL.eq_2
attribute [go_sem] Zer.eq_1 Zer.eq_2 Zer.eq_3
attribute [go_sem] VN.eq_1 VN.eq_2 VN.eq_3
attribute [go_sem] Jo.eq_1 Jo.eq_2
attribute [go_sem] Zg5.eq_1 Zg5.eq_2
attribute [go_sem] Eff.sets.eq_1
attribute [go_sem] Jp.eq_1 Jp.eq_2 Jp.eq_3
attribute [go_sem] Zdx.eq_1 Zdx.eq_2
attribute [go_sem] ZdB.eq_1 ZdB.eq_2
attribute [go_sem] WQ.eq_1 WQ.eq_2 WQ.eq_3
attribute [go_sem] Zo5.eq_1
attribute [go_sem] makeT.eq_1
attribute [go_sem] XN.eq_1 XN.eq_2
attribute [go_sem] Zqo.eq_1 Zqo.eq_2
attribute [go_sem] Zg6.eq_1 Zg6.eq_2
attribute [go_sem] UI.eq_1 UI.eq_2
attribute [go_sem] ZiX.eq_1
attribute [go_sem] UH.eq_1 UH.eq_2
attribute [go_sem] AV.atom.eq_1 AV.atom.eq_2 AV.atom.eq_3 AV.atom.eq_4 AV.atom.eq_5
attribute [go_sem] Eff.dels.eq_1
attribute [go_sem] U4.eq_1 U4.eq_2 U4.eq_3
attribute [go_sem] mat.eq_1 mat.eq_2 mat.eq_3
attribute [go_sem] Zv.eq_1
attribute [go_sem] UG.eq_1 UG.eq_2
attribute [go_sem] Zkk.eq_1
attribute [go_sem] Zo3.eq_1
attribute [go_sem] U6.eq_1 U6.eq_2
attribute [go_sem] VQ.eq_1
attribute [go_sem] Z9.eq_1 Z9.eq_2 Z9.eq_3 Z9.eq_4
attribute [go_sem] Zo4.eq_1
attribute [go_sem] Zbd.eq_1 Zbd.eq_2
attribute [go_sem] Zes.eq_1 Zes.eq_2
attribute [go_sem] ZlS.eq_1 ZlS.eq_2
attribute [go_sem] Zcp.eq_1 Zcp.eq_2 Zcp.eq_3 Zcp.eq_4
attribute [go_sem] ZcU.eq_1 ZcU.eq_2
attribute [go_sem] Zah.eq_1 Zah.eq_2
attribute [go_sem] Zbf.eq_1 Zbf.eq_2 Zbf.eq_3 Zbf.eq_4 Zbf.eq_5
attribute [go_sem] Zki.eq_1 Zki.eq_2
attribute [go_sem] Zg7.eq_1
attribute [go_sem] convS.eq_1 convS.eq_2
attribute [go_sem] ZdA.eq_1 ZdA.eq_2
attribute [go_sem] CO.tl.eq_1
attribute [go_sem] Zbh.eq_1 Zbh.eq_2 Zbh.eq_3 Zbh.eq_4
attribute [go_sem] CO.dst.eq_1
attribute [go_sem] teOf.eq_1
attribute [go_sem] Zm2.eq_1 Zm2.eq_2 Zm2.eq_3
attribute [go_sem] Zkj.eq_1
attribute [go_sem] ZlN.eq_1 ZlN.eq_2
attribute [go_sem] ZlO.eq_1
attribute [go_sem] Eff.val.eq_1
attribute [go_sem] sliceS.eq_1 sliceS.eq_2
attribute [go_sem] Xu.eq_1 Xu.eq_2 Xu.eq_3
attribute [go_sem] Zbe.eq_1 Zbe.eq_2 Zbe.eq_3 Zbe.eq_4
attribute [go_sem] VM.eq_1
attribute [go_sem] buildSl.eq_1 buildSl.eq_2
attribute [go_sem] Y7.eq_1 Y7.eq_2 Y7.eq_3 Y7.eq_4
attribute [go_sem] VZ.eq_1 VZ.eq_2 VZ.eq_3 VZ.eq_4 VZ.eq_5
attribute [go_sem] Ze9.eq_1 Ze9.eq_2
attribute [go_sem] Zhb.eq_1
attribute [go_sem] evP.eq_1 evP.eq_2
attribute [go_sem] ZdD.eq_1 ZdD.eq_2
attribute [go_sem] U5.eq_1
attribute [go_sem] ZbP.eq_1
attribute [go_sem] ZiW.eq_1 ZiW.eq_2
attribute [go_sem] Zha.eq_1
attribute [go_sem] Yw.eq_1
attribute [go_sem] ZlR.eq_1
attribute [go_sem] bnT.eq_1 bnT.eq_2
attribute [go_sem] UC.eq_1 UC.eq_2
attribute [go_sem] Yv.eq_1 Yv.eq_2
attribute [go_sem] VR.eq_1 VR.eq_2
attribute [go_sem] asgT.eq_1 asgT.eq_2
attribute [go_sem] Zet.eq_1 Zet.eq_2
attribute [go_sem] Jr.eq_1 Jr.eq_2
attribute [go_sem] Zbi.eq_1 Zbi.eq_2 Zbi.eq_3 Zbi.eq_4
attribute [go_sem] ZlL.eq_1 ZlL.eq_2
attribute [go_sem] CO.op.eq_1
attribute [go_sem] Zak.eq_1 Zak.eq_2
attribute [go_sem] Zag.eq_1 Zag.eq_2
attribute [go_sem] Zo2.eq_1 Zo2.eq_2
attribute [go_sem] ZbQ.eq_1 ZbQ.eq_2 ZbQ.eq_3
attribute [go_sem] ZlP.eq_1 ZlP.eq_2
attribute [go_sem] Zb5.eq_1 Zb5.eq_2
attribute [go_sem] Zai.eq_1 Zai.eq_2
attribute [go_sem] UT.eq_1 UT.eq_2 UT.eq_3 UT.eq_4 UT.eq_5 UT.eq_6 UT.eq_7 UT.eq_8 UT.eq_9 UT.eq_10
attribute [go_sem] WJ.eq_1
attribute [go_sem] Yx.eq_1 Yx.eq_2 Yx.eq_3 Yx.eq_4
attribute [go_sem] Eff.frz.eq_1
attribute [go_sem] buildT.eq_1
attribute [go_sem] ZW.eq_1 ZW.eq_2
attribute [go_sem] ZbO.eq_1 ZbO.eq_2
attribute [go_sem] Zb.gone.eq_1
attribute [go_sem] meltIn.eq_1 meltIn.eq_2
attribute [go_sem] Zcq.eq_1
attribute [go_sem] ZlM.eq_1 ZlM.eq_2
attribute [go_sem] convI.eq_1 convI.eq_2
attribute [go_sem] ZfG.eq_1 ZfG.eq_2
attribute [go_sem] W8.eq_1 W8.eq_2 W8.eq_3
attribute [go_sem] bd.eq_1
attribute [go_sem] UF.eq_1 UF.eq_2
attribute [go_sem] Q1.eq_1
attribute [go_sem] Zkl.eq_1 Zkl.eq_2
attribute [go_sem] ZbR.eq_1
attribute [go_sem] Xb.eq_1 Xb.eq_2
attribute [go_sem] Zn9.eq_1 Zn9.eq_2
attribute [go_sem] Zr.eq_1 Zr.eq_2 Zr.eq_3 Zr.eq_4 Zr.eq_5 Zr.eq_6 Zr.eq_7 Zr.eq_8 Zr.eq_9 Zr.eq_10 Zr.eq_11 Zr.eq_12 Zr.eq_13 Zr.eq_14 Zr.eq_15 Zr.eq_16 Zr.eq_17 Zr.eq_18 Zr.eq_19 Zr.eq_20 Zr.eq_21 Zr.eq_22 Zr.eq_23 Zr.eq_24 Zr.eq_25 Zr.eq_26 Zr.eq_27 Zr.eq_28 Zr.eq_29 Zr.eq_30 Zr.eq_31 Zr.eq_32 Zr.eq_33 Zr.eq_34 Zr.eq_35 Zr.eq_36 Zr.eq_37 Zr.eq_38 Zr.eq_39 Zr.eq_40
attribute [go_sem] Vj.eq_1 Vj.eq_2 Vj.eq_3 Vj.eq_4 Vj.eq_5
attribute [go_sem] Zbo.eq_1
attribute [go_sem] Zkx.eq_1 Zkx.eq_2
attribute [go_sem] UP.eq_1 UP.eq_2
attribute [go_sem] Zaw.eq_1
attribute [go_sem] Jt.eq_1 Jt.eq_2 Jt.eq_3 Jt.eq_4 Jt.eq_5
attribute [go_sem] Vd.eq_1 Vd.eq_2
attribute [go_sem] Zfh.eq_1 Zfh.eq_2
attribute [go_sem] Zpc.eq_1 Zpc.eq_2
attribute [go_sem] Zi4.eq_1 Zi4.eq_2
attribute [go_sem] Qz.eq_1 Qz.eq_2
attribute [go_sem] only.eq_1 only.eq_2
attribute [go_sem] Znd.eq_1 Znd.eq_2
attribute [go_sem] Zbl.eq_1 Zbl.eq_2
attribute [go_sem] Ye.eq_1 Ye.eq_2
attribute [go_sem] okL.eq_1 okL.eq_2
attribute [go_sem] okC.eq_1 okC.eq_2 okC.eq_3 okC.eq_4 okC.eq_5 okC.eq_6 okC.eq_7 okC.eq_8 okC.eq_9 okC.eq_10
attribute [go_sem] ZfJ.eq_1 ZfJ.eq_2
attribute [go_sem] WT.eq_1 WT.eq_2
attribute [go_sem] Zas.eq_1 Zas.eq_2 Zas.eq_3
attribute [go_sem] ZbV.eq_1 ZbV.eq_2
attribute [go_sem] Zbn.eq_1 Zbn.eq_2
attribute [go_sem] Qq.eq_1 Qq.eq_2
attribute [go_sem] Zi.eq_1 Zi.eq_2
attribute [go_sem] XT.eq_1 XT.eq_2 XT.eq_3
attribute [go_sem] ZdN.eq_1
attribute [go_sem] Yz.eq_1 Yz.eq_2
attribute [go_sem] Zky.eq_1 Zky.eq_2
attribute [go_sem] CO.starts.eq_1
attribute [go_sem] Yd.eq_1 Yd.eq_2
attribute [go_sem] Qu.eq_1 Qu.eq_2
attribute [go_sem] Zn8.eq_1 Zn8.eq_2
attribute [go_sem] ZeE.eq_1
attribute [go_sem] Zhs.eq_1 Zhs.eq_2 Zhs.eq_3
attribute [go_sem] Zau.eq_1 Zau.eq_2
attribute [go_sem] YK.eq_1 YK.eq_2
attribute [go_sem] Ju.eq_1
attribute [go_sem] Zht.eq_1 Zht.eq_2
attribute [go_sem] Zn7.eq_1
attribute [go_sem] ZT.body.eq_1
attribute [go_sem] ZdO.eq_1
attribute [go_sem] Zc1.eq_1 Zc1.eq_2
attribute [go_sem] VV.eq_1 VV.eq_2 VV.eq_3 VV.eq_4 VV.eq_5
attribute [go_sem] ZT.res.eq_1
attribute [go_sem] XD.eq_1 XD.eq_2
attribute [go_sem] Xr.eq_1 Xr.eq_2 Xr.eq_3 Xr.eq_4 Xr.eq_5 Xr.eq_6 Xr.eq_7 Xr.eq_8 Xr.eq_9 Xr.eq_10 Xr.eq_11 Xr.eq_12
attribute [go_sem] Zhu.eq_1 Zhu.eq_2
attribute [go_sem] XS.eq_1 XS.eq_2
attribute [go_sem] ZT.nt.eq_1
attribute [go_sem] okD.eq_1 okD.eq_2
attribute [go_sem] Zkl.eq_1 VZ.eq_1 VZ.eq_2 VZ.eq_3 VZ.eq_4
attribute [go_sem] Vt.eq_1 UM.eq_1 UM.eq_2 UM.eq_3 UM.eq_4 UM.eq_5 UM.eq_6 UM.eq_7 UM.eq_8 UM.eq_9 UM.eq_10 YA.eq_1
attribute [go_sem] Qw.eq_3 Q3.eq_1 AV.atom.eq_1 AV.atom.eq_2 AV.atom.eq_3 AV.atom.eq_4
attribute [go_sem] Zim.eq_1 Zim.eq_2 Zcm.eq_1 Zcm.eq_2
attribute [go_sem] Zc ZpU Zry
attribute [go_sem] List.map_cons List.map_nil List.flatMap_cons List.flatMap_nil List.append_nil List.nil_append List.cons_append List.length_cons List.length_nil List.all_cons List.all_nil List.any_cons List.any_nil List.contains_cons List.contains_nil List.filter_cons List.filter_nil List.drop_zero List.drop_succ_cons List.drop_nil List.take_zero List.take_succ_cons List.take_nil List.getElem?_cons_zero List.getElem?_cons_succ List.getElem?_nil Option.map_some Option.map_none Bool.and_true Bool.true_and Bool.and_false Bool.false_and Bool.or_true Bool.true_or Bool.or_false Bool.false_or Bool.not_true Bool.not_false decide_true decide_false and_true true_and and_false false_and not_true not_false_eq_true or_true true_or or_false false_or if_true if_false true_implies false_implies implies_true imp_self eq_self ne_eq beq_self_eq_true Bool.true_eq_false Bool.false_eq_true List.isEmpty_nil List.isEmpty_cons List.range_zero List.set_cons_zero List.set_cons_succ Option.some.injEq reduceCtorEq Nat.reduceLeDiff
def ZgZ (hp:Hp):List Nat→List Nat
 | []=>[]
 | i :: r=>if Zbh (lkp hp i)=true then i :: ZgZ hp r else ZgZ hp r
theorem gE (hp:Hp) (ids:List Nat):(ids.filter fun i=>Zbh (lkp hp i))=ZgZ hp ids:=by
 induction ids with
 | nil=>rfl
 | cons i r ih=>simp only[List.filter_cons,ZgZ,ih]
def ZiP (hp:Hp) (rs:List Nat):List Nat→Bool
 | []=>true
 | i :: r=>(Zbh (lkp hp i) || rs.contains i)&&ZiP hp rs r
def ZiQ (hp:Hp):List Nat→Bool
 | []=>false
 | i :: r=>UH (lkp hp i) || ZiQ hp r
theorem gG (hp:Hp) (ids:List Nat):(ids.any fun i=>UH (lkp hp i))=ZiQ hp ids:=by
 induction ids with
 | nil=>rfl
 | cons i r ih=>simp only[List.any_cons,ZiQ,ih]
attribute [go_sem] ZiQ.eq_1 ZiQ.eq_2
@[go_sem] theorem appV_eq (hp:Hp) (s b:Nat) (str flat:Bool) (base:Nat) (x y:AV):ZlQ hp s b str flat base x y=Jq hp s b str flat base x y (Q4 hp x) (Q4 hp y):=rfl
attribute [go_sem] Jq.eq_1 Jq.eq_2 Jq.eq_3
@[go_sem] theorem treeId_d (hp:Hp) (x:D):Q4 hp (.d x)=[]:=rfl
@[go_sem] theorem Ztc (hp:Hp):Q4 hp .nil=[]:=rfl
@[go_sem] theorem ZsC (hp:Hp) (k o n:Nat):Q4 hp (.ownv k o n)=[]:=rfl
@[go_sem] theorem Ztd (hp:Hp) (k:Nat):Q4 hp (.own k)=if UH (lkp hp k)=true then [k] else []:=rfl
@[go_sem] theorem noKeep_0 (M:Zg) (f:Nat):Xv M f 0=M f 0:=rfl
@[go_sem] theorem noKeep_1 (M:Zg) (f:Nat):Xv M f 1=M f 1:=rfl
@[go_sem] theorem noKeep_2 (M:Zg) (f:Nat):Xv M f 2=M f 2:=rfl
@[go_sem] theorem noKeep_3 (M:Zg) (f:Nat):Xv M f 3=M f 3:=rfl
@[go_sem] theorem noKeep_4 (M:Zg) (f:Nat):Xv M f 4=M f 4:=rfl
@[go_sem] theorem noKeep_5 (M:Zg) (f:Nat):Xv M f 5=M f 5:=rfl
@[go_sem] theorem noKeep_6 (M:Zg) (f:Nat):Xv M f 6=M f 6:=rfl
@[go_sem] theorem noKeep_99 (M:Zg) (f:Nat):Xv M f 99=false:=rfl
theorem gF (hp:Hp) (rs ids:List Nat):W7 hp rs ids=ZiP hp rs ids:=by
 induction ids with
 | nil=>rfl
 | cons i r ih=>simp only[W7,La,ZiP] at ih ⊢;rw[ih]
attribute [go_sem] ZgZ.eq_1 ZgZ.eq_2 ZiP.eq_1 ZiP.eq_2
@[go_sem] theorem okV_d (x:D):okV (.d x)=true:=rfl
@[go_sem] theorem okV_nil:okV .nil=true:=rfl
@[go_sem] theorem okV_nilp:okV .nilp=true:=rfl
@[go_sem] theorem okV_nili:okV .nili=true:=rfl
@[go_sem] theorem okV_ptr (a b:Nat):okV (.ptr a b)=true:=rfl
@[go_sem] theorem okV_prow (a b c e:Nat):okV (.prow a b c e)=true:=rfl
@[go_sem] theorem okV_pim (cs:List D):okV (.pim cs)=true:=rfl
@[go_sem] theorem okV_own (a:Nat):okV (.own a)=true:=rfl
@[go_sem] theorem okV_ownv (a b c:Nat):okV (.ownv a b c)=true:=rfl
@[go_sem] theorem okV_agg (cs:List AV):okV (.agg cs)=Zkx cs:=rfl
@[go_sem] theorem okV_tup0:okV (.tup [])=true:=rfl
@[go_sem] theorem Zte (sl:Sl) (a:COp) (x y:Nat) (v:AV):X4 sl a (.ptr x y) v=true:=rfl
@[go_sem] theorem seenIn_d (sl:Sl) (a:COp) (x y z t:Nat) (v:D):X4 sl a (.prow x y z t) (.d v)=true:=rfl
@[go_sem] theorem Ztf (sl:Sl) (a:COp) (x y z t:Nat) (v:List AV):X4 sl a (.prow x y z t) (.agg v)=(okV (.agg v)&&Xb sl (Zr a) (Zm (.agg v))):=rfl
@[go_sem] theorem Ztg (sl:Sl) (a:COp) (x y z t:Nat) (k:Nat):X4 sl a (.prow x y z t) (.own k)=(okV (.own k)&&Xb sl (Zr a) (Zm (.own k))):=rfl
@[go_sem] theorem Zth (sl:Sl) (a:COp) (x y z t:Nat):X4 sl a (.prow x y z t) .nil=(okV .nil&&Xb sl (Zr a) (Zm .nil)):=rfl
@[go_sem] theorem ZsD (sl:Sl) (a:COp) (x y z t:Nat):X4 sl a (.prow x y z t) .nilp=(okV .nilp&&Xb sl (Zr a) (Zm .nilp)):=rfl
@[go_sem] theorem ZsE (sl:Sl) (a:COp) (x y z t:Nat) (k m n:Nat):X4 sl a (.prow x y z t) (.ownv k m n)=(okV (.ownv k m n)&&Xb sl (Zr a) (Zm (.ownv k m n))):=rfl
@[go_sem] theorem ZsF (sl:Sl) (a:COp) (k:Nat):seenSrc sl a (.own k)=Qq sl k (Zr a):=rfl
@[go_sem] theorem seenSrc_d (sl:Sl) (a:COp) (x:D):seenSrc sl a (.d x)=true:=rfl
@[go_sem] theorem ZsG (sl:Sl) (a:COp):seenSrc sl a .nil=true:=rfl
@[go_sem] theorem ZrW (sl:Sl) (a:COp) (x y z:Nat):seenSrc sl a (.ownv x y z)=true:=rfl
@[go_sem] theorem okV_iteV (b:Bool) (v:AV):okV (Zb4 b v)=(!b || okV v):=by cases b<;>simp[Zb4,okV]
@[go_sem] theorem awayV_d (sl:Sl) (xs:List Opd) (x:D):UN sl xs (.d x)=true:=rfl
@[go_sem] theorem awayV_nil (sl:Sl) (xs:List Opd):UN sl xs .nil=true:=rfl
@[go_sem] theorem Zti (sl:Sl) (xs:List Opd):UN sl xs .nilp=true:=rfl
@[go_sem] theorem awayV_ptr (sl:Sl) (xs:List Opd) (k o:Nat):UN sl xs (.ptr k o)=Qq sl k xs:=rfl
@[go_sem] theorem awayV_pim (sl:Sl) (xs:List Opd) (cs:List D):UN sl xs (.pim cs)=true:=rfl
@[go_sem] theorem awayV_own (sl:Sl) (xs:List Opd) (a:Nat):UN sl xs (.own a)=true:=rfl
@[go_sem] theorem Ztj (sl:Sl) (xs:List Opd) (a b c:Nat):UN sl xs (.ownv a b c)=true:=rfl
@[go_sem] theorem awayV_agg (sl:Sl) (xs:List Opd) (cs:List AV):UN sl xs (.agg cs)=true:=rfl
@[go_sem] theorem awayV_tup (sl:Sl) (xs:List Opd) (cs:List AV):UN sl xs (.tup cs)=true:=rfl
end Go.Abs.E
