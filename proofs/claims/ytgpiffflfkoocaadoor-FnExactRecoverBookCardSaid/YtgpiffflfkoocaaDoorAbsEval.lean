/- Own text. -/
import Derived.Test.YtgpiffflfkoocaaDoorAbsRun
set_option linter.unusedVariables false
set_option linter.unusedSimpArgs false
namespace Go.Abs.E
open Go Go.Abs
abbrev _root_.Go.Abs.Opd.i (n:Int):Opd:=.v (.d (.int .i64 n))
abbrev _root_.Go.Abs.Opd.b (x:Bool):Opd:=.v (.d (.bool x))
def stW {α:Type} (x:Option α) (K:α→Prop):Prop:=match x with
 | some a=>K a
 | none=>False
def gW (x:Option Bool) (A B:Prop):Prop:=match x with
 | some b=>(b=true→A)∧(b=false→B)
 | none=>False
def Vl (v:AV) (A B:Prop):Prop:=match v with
 | .d (.bool t)=>(t=true→A)∧(t=false→B)
 | _=>False
theorem Y0 {α:Type} (a:α) (K:α→Prop):stW (some a) K=K a:=rfl
theorem Zen {α:Type} (K:α→Prop):stW none K=False:=rfl
theorem Ux {α β:Type} (x:Option α) (f:α→Option β) (K:β→Prop):stW (bnd x f) K=stW x fun a=>stW (f a) K:=by cases x<;>rfl
@[go_sem] theorem Zph (A B:Prop):gW (some true) A B=A:=by simp[gW]
@[go_sem] theorem gW_false (A B:Prop):gW (some false) A B=B:=by simp[gW]
@[go_sem] theorem gW_dec (p:Prop) [Decidable p] (A B:Prop):gW (some (decide p)) A B=((p→A)∧(¬p→B)):=by simp[gW]
@[go_sem] theorem gW_not (b:Bool) (A B:Prop):gW (some (!b)) A B=gW (some b) B A:=by cases b<;>simp[gW]
theorem gW_some (b:Bool) (A B:Prop):gW (some b) A B=((b=true→A)∧(b=false→B)):=rfl
@[go_sem] theorem ZtX (A B:Prop):Vl (.d (.bool true)) A B=A:=by simp[Vl]
@[go_sem] theorem Ztt (A B:Prop):Vl (.d (.bool false)) A B=B:=by simp[Vl]
@[go_sem] theorem condW_dec (p:Prop) [Decidable p] (A B:Prop):Vl (.d (.bool (decide p))) A B=((p→A)∧(¬p→B)):=by simp[Vl]
@[go_sem] theorem condW_not (b:Bool) (A B:Prop):Vl (.d (.bool (!b))) A B=Vl (.d (.bool b)) B A:=by cases b<;>simp[Vl]
@[go_sem] theorem condW_and (a b:Bool) (A B:Prop):Vl (.d (.bool (a&&b))) A B=Vl (.d (.bool a)) (Vl (.d (.bool b)) A B) B:=by cases a<;>cases b<;>simp[Vl]
@[go_sem] theorem condW_or (a b:Bool) (A B:Prop):Vl (.d (.bool (a || b))) A B=Vl (.d (.bool a)) A (Vl (.d (.bool b)) A B):=by cases a<;>cases b<;>simp[Vl]
@[go_sem] theorem ZtY (b:Bool) (A B:Prop):Vl (.d (.bool b)) A B=((b=true→A)∧(b=false→B)):=rfl
@[congr] theorem gW_congr {x y:Option Bool} {A B:Prop} (h:x=y):gW x A B=gW y A B:=by rw[h]
@[congr] theorem Ztu {v w:AV} {A B:Prop} (h:v=w):Vl v A B=Vl w A B:=by rw[h]
section
variable (X:Fns) (M:Zh)
noncomputable def JR (nx:Nat):Nat→List CO→Sl→Hp→(Sl→Hp→Prop)→Prop
 | _,[],sl,hp,K=>K sl hp
 | i,o :: rest,sl,hp,K=>gW (ZK sl o.guard)
   (stW (XS (nx+64*i) o.dst sl hp (vop (Zj X M) M sl hp (nx+64*i) o.op)) fun r=>JR nx (i+1) rest r.1 r.2 K)
   (JR nx (i+1) rest (Zi sl o.dst (.tup [])) hp K)
def Un (nx i:Nat) (d:Option Nat) (rest:List CO) (sl:Sl) (hp:Hp) (K:Sl→Hp→Prop) (e:Option Zb):Prop:=
 stW (XS (nx+64*i) d sl hp e) fun r=>JR X M nx (i+1) rest r.1 r.2 K
@[go_sem] theorem opsW_nil (nx i:Nat) (sl:Sl) (hp:Hp) (K:Sl→Hp→Prop):JR X M nx i [] sl hp K=K sl hp:=rfl
@[go_sem] theorem opsW_cons (nx i:Nat) (d:Option Nat) (tl:Bool) (op:COp) (aa:List CO) (sl:Sl) (hp:Hp) (K:Sl→Hp→Prop) :
  JR X M nx i (⟨d,none,op,tl⟩ :: aa) sl hp K=Un X M nx i d aa sl hp K (vop (Zj X M) M sl hp (nx+64*i) op):=by
 simp[JR,Un,ZK,Zph]
def ZcS (b:Bool) (v:AV):AV:=if b then v else .tup []
def Wi (b:Bool) (nx i:Nat) (d:Option Nat) (rest:List CO) (sl:Sl) (hp:Hp) (K:Sl→Hp→Prop) (e:Option Zb):Prop:=
 gW (some b) (Un X M nx i d rest sl hp K e) (JR X M nx (i+1) rest (Zi sl d (.tup [])) hp K)
def Zlv (g:Option Bool) (nx i:Nat) (d:Option Nat) (op:COp) (rest:List CO) (sl:Sl) (hp:Hp) (K:Sl→Hp→Prop):Prop:=
 gW g (Un X M nx i d rest sl hp K (vop (Zj X M) M sl hp (nx+64*i) op)) (JR X M nx (i+1) rest (Zi sl d (.tup [])) hp K)
@[go_sem] theorem ZtZ (nx i g:Nat) (w:Bool) (d:Option Nat) (tl:Bool) (op:COp) (aa:List CO) (sl:Sl) (hp:Hp) (K:Sl→Hp→Prop) :
  JR X M nx i (⟨d,some (g,w),op,tl⟩ :: aa) sl hp K=Zlv X M (Za4 w (gs sl g)) nx i d op aa sl hp K:=rfl
@[go_sem] theorem Ztv (b:Bool) (nx i:Nat) (d:Option Nat) (op:COp) (aa:List CO) (sl:Sl) (hp:Hp) (K:Sl→Hp→Prop) :
  Zlv X M (some b) nx i d op aa sl hp K=Wi X M b nx i d aa sl hp K (vop (Zj X M) M sl hp (nx+64*i) op):=rfl
@[go_sem] theorem gA (nx i:Nat) (d:Option Nat) (aa:List CO) (sl:Sl) (hp:Hp) (K:Sl→Hp→Prop) (e:Option Zb) :
  Wi X M true nx i d aa sl hp K e=Un X M nx i d aa sl hp K e:=by simp[Wi,gW]
@[go_sem] theorem gB (nx i:Nat) (d:Option Nat) (aa:List CO) (sl:Sl) (hp:Hp) (K:Sl→Hp→Prop) (e:Option Zb) :
  Wi X M false nx i d aa sl hp K e=JR X M nx (i+1) aa (Zi sl d (.tup [])) hp K:=by simp[Wi,gW]
@[go_sem] theorem Zlw (b:Bool) (nx i:Nat) (d:Option Nat) (aa:List CO) (sl:Sl) (hp:Hp) (K:Sl→Hp→Prop) (v:AV) :
  Wi X M b nx i d aa sl hp K (Qw v)=JR X M nx (i+1) aa (Zi sl d (ZcS b v)) hp K:=by
 cases b
 ·simp[Wi,gW,ZcS]
 ·simp only[Wi,gW,ZcS,Kl,true_implies,Bool.true_eq_false,false_implies,and_true];rfl
@[go_sem] theorem Ztw (b:Bool) (nx i:Nat) (d:Option Nat) (aa:List CO) (sl:Sl) (hp:Hp) (K:Sl→Hp→Prop) (v:AV) :
  Wi X M b nx i d aa sl hp K (some { eff := { val:=v,adds:=[],sets:=[],dels:=[],frz:=[] },gone:=[] })=JR X M nx (i+1) aa (Zi sl d (ZcS b v)) hp K:=Zlw X M b nx i d aa sl hp K v
@[congr] theorem ZsT {g g' : Option Bool} {nx i:Nat} {d:Option Nat} {op:COp} {aa:List CO} {sl:Sl} {hp:Hp} {K:Sl→Hp→Prop} (h:g=g') :
  Zlv X M g nx i d op aa sl hp K=Zlv X M g' nx i d op aa sl hp K:=by rw[h]
@[congr] theorem ZsU {b b' : Bool} {nx i:Nat} {d:Option Nat} {aa:List CO} {sl:Sl} {hp:Hp} {K:Sl→Hp→Prop} {e e' : Option Zb} (hb:b=b') (h:b'=true→e=e') :
  Wi X M b nx i d aa sl hp K e=Wi X M b' nx i d aa sl hp K e':=by
 subst hb;cases b
 ·simp[Wi,gW]
 ·rw[h rfl]
@[go_sem] theorem Ztx (nx i:Nat) (d:Option Nat) (aa:List CO) (sl:Sl) (hp:Hp) (K:Sl→Hp→Prop) (v:AV) :
  Un X M nx i d aa sl hp K (Qw v)=JR X M nx (i+1) aa (Zi sl d v) hp K:=rfl
@[go_sem] theorem Zt0 (nx i:Nat) (d:Option Nat) (aa:List CO) (sl:Sl) (hp:Hp) (K:Sl→Hp→Prop) (v:AV) :
  Un X M nx i d aa sl hp K (some { eff := { val:=v,adds:=[],sets:=[],dels:=[],frz:=[] },gone:=[] })=JR X M nx (i+1) aa (Zi sl d v) hp K:=rfl
@[go_sem] theorem Zt1 (nx i:Nat) (d:Option Nat) (aa:List CO) (sl:Sl) (hp:Hp) (K:Sl→Hp→Prop) (e:Zb) :
  Un X M nx i d aa sl hp K (some e)=(QD (nx+64*i) (nx+64*i+64) e.eff.adds=true∧JR X M nx (i+1) aa (Zi (QN e.gone sl) d e.eff.val) (e.eff.on (YK e.gone hp)) K):=by
 unfold Un XS;rw[Zc];split<;>rename_i h
 ·simp only[Y0,h,true_and];rfl
 ·simp only[Zen,h,false_and,Ka]
@[go_sem] theorem Zt2 (nx i:Nat) (d:Option Nat) (aa:List CO) (sl:Sl) (hp:Hp) (K:Sl→Hp→Prop):Un X M nx i d aa sl hp K none=False:=rfl
@[go_sem] theorem stepW_ite (nx i:Nat) (d:Option Nat) (aa:List CO) (sl:Sl) (hp:Hp) (K:Sl→Hp→Prop) (c:Prop) [Decidable c] (a b:Option Zb) :
  Un X M nx i d aa sl hp K (if c then a else b)=((c→Un X M nx i d aa sl hp K a)∧(¬c→Un X M nx i d aa sl hp K b)):=by
 by_cases h:c<;>simp[h]
noncomputable def Yp (nx:Nat):Nat→Bool→List CO→Sl→Hp→(Sl→Hp→Prop)→Prop
 | _,_,[],sl,hp,K=>K sl hp
 | i,tail,o :: rest,sl,hp,K=>gW (ZK sl o.guard)
   (stW (XS (nx+64*i) o.dst sl hp (YM (Zj X M) (XW M) nx i (CO.starts o) o.op sl hp)) fun r=>Yp nx (i+1) tail rest r.1 r.2 K)
   (Yp nx (i+1) tail rest (Zi sl o.dst (.tup [])) hp K)
def Vo (nx i:Nat) (t:Bool) (d:Option Nat) (rest:List CO) (sl:Sl) (hp:Hp) (K:Sl→Hp→Prop) (e:Option Zb):Prop:=
 stW (XS (nx+64*i) d sl hp (if t then e else Jn e)) fun r=>Yp X M nx (i+1) false rest r.1 r.2 K
@[go_sem] theorem opsDW_nil (nx i:Nat) (t:Bool) (sl:Sl) (hp:Hp) (K:Sl→Hp→Prop):Yp X M nx i t [] sl hp K=K sl hp:=rfl
@[go_sem] theorem Zt3 (nx i:Nat) (d:Option Nat) (tl:Bool) (op:COp) (aa:List CO) (sl:Sl) (hp:Hp) (K:Sl→Hp→Prop) :
  Yp X M nx i false (⟨d,none,op,tl⟩ :: aa) sl hp K=Vo X M nx i (ZcF op || tl) d aa sl hp K (vop (Zj X M) (XW M) sl hp (nx+64*i) op):=by
 simp[Yp,Vo,ZK,Zph,YM,CO.starts]
def YF (b:Bool) (nx i:Nat) (t:Bool) (d:Option Nat) (rest:List CO) (sl:Sl) (hp:Hp) (K:Sl→Hp→Prop) (e:Option Zb):Prop:=
 gW (some b) (Vo X M nx i t d rest sl hp K e) (Yp X M nx (i+1) false rest (Zi sl d (.tup [])) hp K)
def Zg6 (g:Option Bool) (nx i:Nat) (t:Bool) (d:Option Nat) (op:COp) (rest:List CO) (sl:Sl) (hp:Hp) (K:Sl→Hp→Prop):Prop:=
 gW g (Vo X M nx i t d rest sl hp K (vop (Zj X M) (XW M) sl hp (nx+64*i) op)) (Yp X M nx (i+1) false rest (Zi sl d (.tup [])) hp K)
@[go_sem] theorem Zty (nx i g:Nat) (w:Bool) (d:Option Nat) (tl:Bool) (op:COp) (aa:List CO) (sl:Sl) (hp:Hp) (K:Sl→Hp→Prop) :
  Yp X M nx i false (⟨d,some (g,w),op,tl⟩ :: aa) sl hp K=Zg6 X M (Za4 w (gs sl g)) nx i (ZcF op || tl) d op aa sl hp K:=rfl
@[go_sem] theorem ZsV (b:Bool) (nx i:Nat) (t:Bool) (d:Option Nat) (op:COp) (aa:List CO) (sl:Sl) (hp:Hp) (K:Sl→Hp→Prop) :
  Zg6 X M (some b) nx i t d op aa sl hp K=YF X M b nx i t d aa sl hp K (vop (Zj X M) (XW M) sl hp (nx+64*i) op):=rfl
@[go_sem] theorem gC (nx i:Nat) (t:Bool) (d:Option Nat) (aa:List CO) (sl:Sl) (hp:Hp) (K:Sl→Hp→Prop) (e:Option Zb) :
  YF X M true nx i t d aa sl hp K e=Vo X M nx i t d aa sl hp K e:=by simp[YF,gW]
@[go_sem] theorem gD (nx i:Nat) (t:Bool) (d:Option Nat) (aa:List CO) (sl:Sl) (hp:Hp) (K:Sl→Hp→Prop) (e:Option Zb) :
  YF X M false nx i t d aa sl hp K e=Yp X M nx (i+1) false aa (Zi sl d (.tup [])) hp K:=by simp[YF,gW]
@[go_sem] theorem ZjD (b:Bool) (nx i:Nat) (t:Bool) (d:Option Nat) (aa:List CO) (sl:Sl) (hp:Hp) (K:Sl→Hp→Prop) (v:AV) :
  YF X M b nx i t d aa sl hp K (Qw v)=Yp X M nx (i+1) false aa (Zi sl d (ZcS b v)) hp K:=by
 cases b
 ·simp[YF,gW,ZcS]
 ·simp only[YF,gW,ZcS,Kl,true_implies,Bool.true_eq_false,false_implies,and_true];cases t<;>rfl
@[go_sem] theorem ZsW (b:Bool) (nx i:Nat) (t:Bool) (d:Option Nat) (aa:List CO) (sl:Sl) (hp:Hp) (K:Sl→Hp→Prop) (v:AV) :
  YF X M b nx i t d aa sl hp K (some { eff := { val:=v,adds:=[],sets:=[],dels:=[],frz:=[] },gone:=[] })=Yp X M nx (i+1) false aa (Zi sl d (ZcS b v)) hp K:=ZjD X M b nx i t d aa sl hp K v
@[congr] theorem Zst {g g' : Option Bool} {nx i:Nat} {t t' : Bool} {d:Option Nat} {op:COp} {aa:List CO} {sl:Sl} {hp:Hp} {K:Sl→Hp→Prop} (h:g=g') (ht:t=t') :
  Zg6 X M g nx i t d op aa sl hp K=Zg6 X M g' nx i t' d op aa sl hp K:=by rw[h,ht]
@[congr] theorem Zsu {b b' : Bool} {nx i:Nat} {t:Bool} {d:Option Nat} {aa:List CO} {sl:Sl} {hp:Hp} {K:Sl→Hp→Prop} {e e' : Option Zb} (hb:b=b') (h:b'=true→e=e') :
  YF X M b nx i t d aa sl hp K e=YF X M b' nx i t d aa sl hp K e':=by
 subst hb;cases b
 ·simp[YF,gW]
 ·rw[h rfl]
@[go_sem] theorem ZsX (nx i:Nat) (t:Bool) (d:Option Nat) (aa:List CO) (sl:Sl) (hp:Hp) (K:Sl→Hp→Prop) (v:AV) :
  Vo X M nx i t d aa sl hp K (Qw v)=Yp X M nx (i+1) false aa (Zi sl d v) hp K:=by cases t<;>rfl
@[go_sem] theorem Ztz (nx i:Nat) (t:Bool) (d:Option Nat) (aa:List CO) (sl:Sl) (hp:Hp) (K:Sl→Hp→Prop) (v:AV) :
  Vo X M nx i t d aa sl hp K (some { eff := { val:=v,adds:=[],sets:=[],dels:=[],frz:=[] },gone:=[] })=Yp X M nx (i+1) false aa (Zi sl d v) hp K:=by cases t<;>rfl
@[go_sem] theorem ZtA (nx i:Nat) (t:Bool) (d:Option Nat) (aa:List CO) (sl:Sl) (hp:Hp) (K:Sl→Hp→Prop) (e:Zb) :
  Vo X M nx i t d aa sl hp K (some e)=((t=false→Za8 e e.gone e.eff.sets e.eff.dels e.eff.frz=some e)∧QD (nx+64*i) (nx+64*i+64) e.eff.adds=true∧Yp X M nx (i+1) false aa (Zi (QN e.gone sl) d e.eff.val) (e.eff.on (YK e.gone hp)) K):=by
 have ab:stW (XS (nx+64*i) d sl hp (some e)) (fun r=>Yp X M nx (i+1) false aa r.1 r.2 K)=(QD (nx+64*i) (nx+64*i+64) e.eff.adds=true∧Yp X M nx (i+1) false aa (Zi (QN e.gone sl) d e.eff.val) (e.eff.on (YK e.gone hp)) K):=by
  unfold XS;rw[Zc];split<;>rename_i h
  ·simp only[Y0,h,true_and];rfl
  ·simp only[Zen,h,false_and,Ka]
 unfold Vo;cases t with
 | true=>simp only[Kl];rw[ab];simp
 | false=>
  simp only[Ka,Kn,Jn,Zc,true_implies];unfold Za8;split
  ·rw[ab];simp
  ·simp[XS,bnd,stW]
@[go_sem] theorem ZtB (nx i:Nat) (t:Bool) (d:Option Nat) (aa:List CO) (sl:Sl) (hp:Hp) (K:Sl→Hp→Prop):Vo X M nx i t d aa sl hp K none=False:=by cases t<;>rfl
@[go_sem] theorem Zt4 (nx i:Nat) (t:Bool) (d:Option Nat) (aa:List CO) (sl:Sl) (hp:Hp) (K:Sl→Hp→Prop) (c:Prop) [Decidable c] (a b:Option Zb) :
  Vo X M nx i t d aa sl hp K (if c then a else b)=((c→Vo X M nx i t d aa sl hp K a)∧(¬c→Vo X M nx i t d aa sl hp K b)):=by
 by_cases h:c<;>simp[h]
@[go_sem] theorem quietC_ok (c:Zb):Za8 c [] [] [] []=some c:=rfl
def W (c:ZH) (st:St) (Q:Ex→St→Prop):Prop:=stW (Qo X M c st) fun r=>Q r.1 r.2
@[congr] theorem W_congr {c:ZH} {st aa : St} {Q:Ex→St→Prop} (h:st=aa):W X M c st Q=W X M c aa Q:=by rw[h]
@[congr] theorem Zt5 {aa:List CO} {nx ab i i' : Nat} {sl sl' : Sl} {hp hp' : Hp} {K:Sl→Hp→Prop} (hn:nx=ab) (hi:i=i') (h:sl=sl') (h' : hp=hp') :
  JR X M nx i aa sl hp K=JR X M ab i' aa sl' hp' K:=by rw[h,h',hn,hi]
@[congr] theorem ZtC {aa:List CO} {nx ab i i' : Nat} {t t' : Bool} {sl sl' : Sl} {hp hp' : Hp} {K:Sl→Hp→Prop} (hn:nx=ab) (hi:i=i') (ht:t=t') (h:sl=sl') (h' : hp=hp') :
  Yp X M nx i t aa sl hp K=Yp X M ab i' t' aa sl' hp' K:=by rw[h,h',ht,hn,hi]
@[congr] theorem ZtD {aa:List CO} {nx i:Nat} {d:Option Nat} {sl:Sl} {hp:Hp} {K:Sl→Hp→Prop} {e e' : Option Zb} (h:e=e') :
  Un X M nx i d aa sl hp K e=Un X M nx i d aa sl hp K e':=by rw[h]
@[congr] theorem ZsY {aa:List CO} {nx i:Nat} {t t' : Bool} {d:Option Nat} {sl:Sl} {hp:Hp} {K:Sl→Hp→Prop} {e e' : Option Zb} (ht:t=t') (h:e=e') :
  Vo X M nx i t d aa sl hp K e=Vo X M nx i t' d aa sl hp K e':=by rw[h,ht]
theorem ZsZ (nx:Nat) (K:Sl→Hp→Prop):∀ (l:List CO) (i:Nat) (sl:Sl) (hp:Hp),JR X M nx i l sl hp K=stW (Zb3 (Zj X M) M nx i l sl hp) fun r=>K r.1 r.2:=by
 intro l
 induction l with
 | nil=>intro i sl hp;rfl
 | cons o rest ih=>
  intro i sl hp;simp only[JR,Zb3,ih,Ux];cases ZK sl o.guard with
  | none=>rfl
  | some b=>cases b<;>simp[gW,Ux,Y0]
theorem ZrS (nx:Nat) (K:Sl→Hp→Prop):∀ (l:List CO) (i:Nat) (t:Bool) (sl:Sl) (hp:Hp),Yp X M nx i t l sl hp K=stW (Wy (Zj X M) (XW M) nx i t l sl hp) fun r=>K r.1 r.2:=by
 intro l
 induction l with
 | nil=>intro i t sl hp;rfl
 | cons o rest ih=>
  intro i t sl hp;simp only[Yp,Wy,ih,Ux];cases ZK sl o.guard with
  | none=>rfl
  | some b=>cases b<;>simp[gW,Ux,Y0]
def Zqn (m nx:Nat) (Q:Ex→St→Prop) (sl:Sl) (hp:Hp):Prop:=Q .normal { sl:=sl,hp:=hp,nx:=nx,m:=m }
def ZmW (ops:List CO) (ps:List (Nat×Nat)) (K:Sl→Hp→Prop) (sl:Sl) (hp:Hp):Prop:=VI ops sl ps=true∧K sl hp
@[go_sem] theorem regQ_eq (m nx:Nat) (Q:Ex→St→Prop) (sl:Sl) (hp:Hp):Zqn m nx Q sl hp=Q .normal { sl:=sl,hp:=hp,nx:=nx,m:=m }:=rfl
@[go_sem] theorem seenQ_eq (ops:List CO) (ps:List (Nat×Nat)) (K:Sl→Hp→Prop) (sl:Sl) (hp:Hp):ZmW ops ps K sl hp=(VI ops sl ps=true∧K sl hp):=rfl
@[go_sem] theorem W_skip (st:St) (Q:Ex→St→Prop):W X M .skip st Q=Q .normal st:=by simp[W,Zow,Y0]
@[go_sem] theorem W_ret (st:St) (Q:Ex→St→Prop):W X M .ret st Q=Q .ret st:=by simp[W,ZqI,Y0]
@[go_sem] theorem W_exit (id:Nat) (st:St) (Q:Ex→St→Prop):W X M (.exit id) st Q=Q (.exit id) st:=by simp[W,Zox,Y0]
@[go_sem] theorem W_stuck (st:St) (Q:Ex→St→Prop):W X M .stuck st Q=False:=by
 have h:Qo X M .stuck st=none:=X9 fun n=>by simp only[Zv]
 simp only[W,h,Zen]
@[go_sem] theorem W_region (n:Nat) (ops:List CO) (st:St) (Q:Ex→St→Prop) :
  W X M (.region n none ops) st Q=JR X M st.nx 0 ops st.sl st.hp (Zqn st.m (st.nx+64*n) Q):=by
 rw[ZsZ,W,ZlU,ZgY,Ux];rfl
theorem ZrT (n:Nat) (ps:List (Nat×Nat)) (ops:List CO) (st:St) (Q:Ex→St→Prop) :
  W X M (.region n (some ps) ops) st Q=Yp X M st.nx 0 false ops st.sl st.hp (ZmW ops ps (Zqn st.m (st.nx+64*n) Q)):=by
 rw[ZrS,W,Zoy,ZgY,Ux,Zkw,Ux];congr 1
 funext r
 by_cases h:VI ops r.1 ps=true<;>simp[h,ZmW,Y0,Zen,Zqn]
@[go_sem] theorem W_draw0 (n:Nat) (ops:List CO) (st:St) (Q:Ex→St→Prop) :
  W X M (.region n (some []) ops) st Q=Yp X M st.nx 0 false ops st.sl st.hp (Zqn st.m (st.nx+64*n) Q):=by
 rw[ZrT];congr 1
 funext sl hp
 simp[ZmW,VI]
@[go_sem] theorem W_drawc (n:Nat) (p:Nat×Nat) (ps:List (Nat×Nat)) (ops:List CO) (st:St) (Q:Ex→St→Prop) :
  W X M (.region n (some (p :: ps)) ops) st Q=Yp X M st.nx 0 false ops st.sl st.hp (ZmW ops (p :: ps) (Zqn st.m (st.nx+64*n) Q)):=ZrT X M n _ ops st Q
def Zpi (c:ZH) (Q:Ex→St→Prop):Ex→St→Prop
 | .normal,st=>W X M c st Q
 | e,st=>Q e st
def blkQ (id:Nat) (Q:Ex→St→Prop):Ex→St→Prop
 | .exit j,st=>if j=id then Q .normal st else Q (.exit j) st
 | e,st=>Q e st
@[go_sem] theorem Zs0 (c:ZH) (Q:Ex→St→Prop) (st:St):Zpi X M c Q .normal st=W X M c st Q:=rfl
@[go_sem] theorem thenQ_ret (c:ZH) (Q:Ex→St→Prop) (st:St):Zpi X M c Q .ret st=Q .ret st:=rfl
@[go_sem] theorem Zt6 (c:ZH) (Q:Ex→St→Prop) (id:Nat) (st:St):Zpi X M c Q (.exit id) st=Q (.exit id) st:=rfl
@[go_sem] theorem ZtE (id:Nat) (Q:Ex→St→Prop) (st:St):blkQ id Q .normal st=Q .normal st:=rfl
@[go_sem] theorem blkQ_ret (id:Nat) (Q:Ex→St→Prop) (st:St):blkQ id Q .ret st=Q .ret st:=rfl
@[go_sem] theorem blkQ_exit (id j:Nat) (Q:Ex→St→Prop) (st:St):blkQ id Q (.exit j) st=if j=id then Q .normal st else Q (.exit j) st:=rfl
@[go_sem] theorem W_seq (a b:ZH) (st:St) (Q:Ex→St→Prop):W X M (.seq a b) st Q=W X M a st (Zpi X M b Q):=by
 unfold W;rw[ZqJ];cases h:Qo X M a st with
 | none=>rfl
 | some r=>obtain⟨e,aa⟩:=r;cases e<;>rfl
@[go_sem] theorem W_cond (c:Opd) (a b:ZH) (st:St) (Q:Ex→St→Prop) :
  W X M (.cond c a b) st Q=Vl (evO st.sl c) (W X M a st Q) (W X M b st Q):=by
 unfold W;rw[Zoz];cases h:evO st.sl c with
 | d x=>cases x with
  | bool t=>cases t<;>simp[Zc9,Vl]
  | _=>rfl
 | _=>rfl
@[go_sem] theorem W_block (id:Nat) (c:ZH) (st:St) (Q:Ex→St→Prop):W X M (.block id c) st Q=W X M c st (blkQ id Q):=by
 unfold W;rw[Znl];cases h:Qo X M c st with
 | none=>rfl
 | some r=>
  obtain⟨e,aa⟩:=r;cases e with
  | exit j=>by_cases hj:j=id<;>simp[Zb6,hj,Y0,blkQ]
  | normal=>rfl
  | ret=>rfl
def keepQ (K:List Nat) (Q:Ex→St→Prop) (e:Ex) (st:St):Prop:=Q e { sl:=only K st.sl,hp:=st.hp,nx:=st.nx,m:=st.m }
@[go_sem] theorem keepQ_eq (K:List Nat) (Q:Ex→St→Prop) (e:Ex) (st:St):keepQ K Q e st=Q e { sl:=only K st.sl,hp:=st.hp,nx:=st.nx,m:=st.m }:=rfl
@[go_sem] theorem W_keep (K:List Nat) (c:ZH) (st:St) (Q:Ex→St→Prop):W X M (.keep K c) st Q=W X M c st (keepQ K Q):=by
 unfold W;rw[ZoA];cases h:Qo X M c st with
 | none=>rfl
 | some r=>rfl
def shutQ (id nm:Nat) (Q:Ex→St→Prop) (e:Ex) (st:St):Prop:=Q e { sl:=st.sl,hp:=ZqG st.hp (Zgv st.hp id nm (lkp st.hp id)),nx:=st.nx,m:=st.m }
@[go_sem] theorem shutQ_eq (id nm:Nat) (Q:Ex→St→Prop) (e:Ex) (st:St):shutQ id nm Q e st=Q e { sl:=st.sl,hp:=ZqG st.hp (Zgv st.hp id nm (lkp st.hp id)),nx:=st.nx,m:=st.m }:=rfl
def Zik (c:ZH) (Q:Ex→St→Prop) (r:Option St):Prop:=stW r fun st=>W X M c st Q
@[go_sem] theorem Zt7 (c:ZH) (Q:Ex→St→Prop) (st:St):Zik X M c Q (some st)=W X M c st Q:=rfl
@[go_sem] theorem Zt8 (c:ZH) (Q:Ex→St→Prop):Zik X M c Q none=False:=rfl
@[go_sem] theorem linkW_ite (c:ZH) (Q:Ex→St→Prop) (p:Prop) [Decidable p] (a b:Option St):Zik X M c Q (if p then a else b)=((p→Zik X M c Q a)∧(¬p→Zik X M c Q b)):=by
 by_cases h:p<;>simp[h]
@[go_sem] theorem W_link (fl:Bool) (id:Nat) (i:Opd) (j:Nat) (c:ZH) (st:St) (Q:Ex→St→Prop):W X M (.link fl id i j c) st Q=Zik X M c (shutQ id st.nx Q) (Za9 fl id i j st):=by
 unfold W Zik;rw[ZoB];cases h:Za9 fl id i j st with
 | none=>rfl
 | some st1=>
  simp only[Zc,Y0,W];cases h1:Qo X M c st1 with
  | none=>rfl
  | some q=>rfl
@[go_sem] theorem W_melt (c:ZH) (st:St) (Q:Ex→St→Prop):W X M (.melt c) st Q=W X M c { sl:=st.sl,hp:=Zfh Zev st.hp,nx:=st.nx,m:=st.m } Q:=by
 unfold W;rw[ZoC];rfl
def LW (c:ZH) (K:List Nat) (st:St) (Q:Ex→St→Prop):Prop:=stW (Zb8 X M c K st) fun r=>Q r.1 r.2
@[congr] theorem LW_congr {c:ZH} {K K' : List Nat} {st aa : St} {Q:Ex→St→Prop} (hk:K=K') (h:st=aa):LW X M c K st Q=LW X M c K' aa Q:=by rw[h,hk]
@[go_sem] theorem W_loop (c:ZH) (st:St) (Q:Ex→St→Prop):W X M (.loop c) st Q=LW X M c (Uk st.sl) st Q:=by
 unfold W LW;rw[ZoD]
def Zil (c:ZH) (K:List Nat) (Q:Ex→St→Prop):Ex→St→Prop
 | .normal,st=>LW X M c K st Q
 | e,st=>Q e st
@[go_sem] theorem Zs1 (c:ZH) (K:List Nat) (Q:Ex→St→Prop) (st:St):Zil X M c K Q .normal st=LW X M c K st Q:=rfl
@[go_sem] theorem nextQ_ret (c:ZH) (K:List Nat) (Q:Ex→St→Prop) (st:St):Zil X M c K Q .ret st=Q .ret st:=rfl
@[go_sem] theorem Zt9 (c:ZH) (K:List Nat) (Q:Ex→St→Prop) (id:Nat) (st:St):Zil X M c K Q (.exit id) st=Q (.exit id) st:=rfl
theorem Xg {c:ZH} {K:List Nat} {st:St} {Q:Ex→St→Prop} (h:W X M c (V3 K st) (Zil X M c K Q)):LW X M c K st Q:=by
 unfold W at h;cases hv:Qo X M c (V3 K st) with
 | none=>rw[hv] at h;exact h.elim
 | some r=>
  rw[hv] at h;obtain⟨e,aa⟩:=r;unfold LW;cases e with
  | normal=>rw[Znm X M hv];exact h
  | exit id=>rw[ZiU X M (by simp) hv];exact h
  | ret=>rw[ZiU X M (by simp) hv];exact h
def ZjE (sl:Sl):Sl→Sl
 | []=>sl
 | (k,v) :: r=>ZjE (ins sl k v) r
def Zc5 (hp:Hp):Hp→Hp
 | []=>hp
 | (k,o) :: r=>Zc5 (ins hp k o) r
theorem LW_ind {α:Type} (S:α→St) (I:α→Prop) (μ:α→Nat) {c:ZH} {K:List Nat} {Q:Ex→St→Prop}
  (step:∀ a,I a→(∀ b st,I b→μ b<μ a→V3 K st=S b→LW X M c K st Q)→W X M c (S a) (Zil X M c K Q)) :
  ∀ a st,I a→V3 K st=S a→LW X M c K st Q:=by
 have aa:∀ n a st,μ a=n→I a→V3 K st=S a→LW X M c K st Q:=by
  intro n
  induction n using Nat.strongRecOn with
  | ind n ih=>
   intro a st hn ha hs;refine Xg X M ?_;rw[hs];exact step a ha fun b ab hb ae ad=>ih (μ b) (by omega) b ab rfl hb ad
 exact fun a st ha hs=>aa _ a st rfl ha hs
theorem Zeo {α:Type} (u:α→Sl) (uh:α→Hp) (I:α→Prop) (μ:α→Nat) (a:α) {c:ZH} {K:List Nat} {Q:Ex→St→Prop} {st st0:St}
  (hc:V3 K st=st0) (ha:I a) (h0:(⟨ZjE st0.sl (u a),Zc5 st0.hp (uh a),st0.nx,st0.m⟩:St)=st0)
  (step:∀ a,I a→(∀ b st,I b→μ b<μ a→V3 K st=⟨ZjE st0.sl (u b),Zc5 st0.hp (uh b),st0.nx,st0.m⟩→LW X M c K st Q)→W X M c ⟨ZjE st0.sl (u a),Zc5 st0.hp (uh a),st0.nx,st0.m⟩ (Zil X M c K Q)) :
  LW X M c K st Q:=
 LW_ind X M (fun a=>⟨ZjE st0.sl (u a),Zc5 st0.hp (uh a),st0.nx,st0.m⟩) I μ step a st ha (hc.trans h0.symm)
def Zlx (m:Nat) (rs:List ZjH) (R:AV×List Zf→Prop):Ex→St→Prop:=fun e st=>stW (JZ m rs (some (e,st))) R
def resW (m:Nat) (hp:Hp) (R:AV×List Zf→Prop) (vs:Option (List AV)):Prop:=stW vs fun vs=>R (Y5 m hp (Jo vs))
@[go_sem] theorem resW_some (m:Nat) (hp:Hp) (R:AV×List Zf→Prop) (vs:List AV):resW m hp R (some vs)=R (Y5 m hp (Jo vs)):=rfl
@[go_sem] theorem resW_none (m:Nat) (hp:Hp) (R:AV×List Zf→Prop):resW m hp R none=False:=rfl
@[go_sem] theorem endQ_ret (m:Nat) (rs:List ZjH) (R:AV×List Zf→Prop) (st:St):Zlx m rs R .ret st=resW m st.hp R (Qe (ZiS st) rs):=by
 simp only[Zlx,JZ,Ux];rfl
@[go_sem] theorem ZtF (m:Nat) (rs:List ZjH) (R:AV×List Zf→Prop) (st:St):Zlx m rs R .normal st=resW m st.hp R (Qe (ZiS st) rs):=by
 simp only[Zlx,JZ,Ux];rfl
theorem ZrU {f:Nat} {as:List AV} {h:List Zf} (fn:Z9) {R:AV×List Zf→Prop} (hx:X f=some (.text fn)) (hl:as.length≤fn.nt)
  (hr:W X M fn.body { sl:=YL 0 as,hp:=YN 0 h,nx:=h.length,m:=h.length } (Zlx h.length fn.res R)):∃ r,Zj X M f as h=some r∧R r:=by
 unfold W at hr;cases hv:Qo X M fn.body { sl:=YL 0 as,hp:=YN 0 h,nx:=h.length,m:=h.length } with
 | none=>rw[hv] at hr;exact hr.elim
 | some q=>
  rw[hv] at hr;obtain⟨e,st⟩:=q;simp only[Y0,Zlx] at hr;cases hk:JZ h.length fn.res (some (e,st)) with
  | none=>rw[hk] at hr;exact hr.elim
  | some r=>rw[hk] at hr;exact⟨r,Zse X M hx hl (by rw[hv];exact hk),hr⟩
theorem callE {f:Nat} {as:List AV} {h:List Zf} (fn:Z9) {r:AV×List Zf} (hx:X f=some (.text fn)) (hl:as.length≤fn.nt)
  (hr:W X M fn.body { sl:=YL 0 as,hp:=YN 0 h,nx:=h.length,m:=h.length } (Zlx h.length fn.res fun q=>q=r)):Zj X M f as h=some r:=by
 obtain⟨q,hq,rfl⟩:=ZrU X M fn hx hl hr;exact hq
end
@[go_sem] theorem vopE_move (C:Orc) (M:Zh) (sl:Sl) (hp:Hp) (base:Nat) (x:Opd):vop C M sl hp base (.move x)=Qw (evO sl x):=by simp only[vop]
@[go_sem] theorem ZtG (C:Orc) (M:Zh) (sl:Sl) (hp:Hp) (base:Nat) (s:Option Nat) (x:Opd):vop C M sl hp base (.assign s x)=ZaW base s (evO sl x):=by simp only[vop]
@[go_sem] theorem vopE_pick (C:Orc) (M:Zh) (sl:Sl) (hp:Hp) (base:Nat) (c a b:Opd):vop C M sl hp base (.pick c a b)=ZbZ (evO sl a) (evO sl b) (evO sl c):=by simp only[vop]
@[go_sem] theorem Zua (C:Orc) (M:Zh) (sl:Sl) (hp:Hp) (base:Nat) (slc:List (Option Nat)) (cs:List AV):vop C M sl hp base (.alloc slc cs)=Zb0 slc base cs:=by simp only[vop]
@[go_sem] theorem vopE_box (C:Orc) (M:Zh) (sl:Sl) (hp:Hp) (base:Nat) (x:Opd):vop C M sl hp base (.box x)=Zqw base (evO sl x):=by simp only[vop]
@[go_sem] theorem Zub (C:Orc) (M:Zh) (sl:Sl) (hp:Hp) (base:Nat) (zs:List AV) (ps:List (Nat×Nat×Opd)):vop C M sl hp base (.build zs ps)=Zit zs (evP sl ps):=by simp only[vop]
@[go_sem] theorem Zs2 (C:Orc) (M:Zh) (sl:Sl) (hp:Hp) (base:Nat) (s:Nat) (xs:List Opd):vop C M sl hp base (.buildSl s xs)=buildSl hp base s (evL sl xs):=by simp only[vop]
@[go_sem] theorem vopE_load (C:Orc) (M:Zh) (sl:Sl) (hp:Hp) (base:Nat) (g:Bool) (s:Nat) (a:Opd):vop C M sl hp base (.load g s a)=YA (VA hp g s (evO sl a)):=by simp only[vop]
@[go_sem] theorem Zuc (C:Orc) (M:Zh) (sl:Sl) (hp:Hp) (base:Nat) (slc:List (Option Nat)) (s:Nat) (a x:Opd):vop C M sl hp base (.store slc s a x)=Zbl (Uh hp slc s base (evO sl x).cells (evO sl a)):=by simp only[vop]
@[go_sem] theorem Zsv (C:Orc) (M:Zh) (sl:Sl) (hp:Hp) (base:Nat) (x:Opd):vop C M sl hp base (.nilCheck x)=WI (evO sl x):=by simp only[vop]
@[go_sem] theorem vopE_bin (C:Orc) (M:Zh) (sl:Sl) (hp:Hp) (base:Nat) (op:BinOp) (eq:Bool) (x y:Opd):vop C M sl hp base (.bin op eq x y)=Ziu op eq (evO sl x) (evO sl y):=by simp only[vop]
@[go_sem] theorem vopE_un (C:Orc) (M:Zh) (sl:Sl) (hp:Hp) (base:Nat) (op:UnOp) (x:Opd):vop C M sl hp base (.un op x)=YA (vun op (evO sl x)):=by simp only[vop]
@[go_sem] theorem vopE_eqA (C:Orc) (M:Zh) (sl:Sl) (hp:Hp) (base:Nat) (neg:Bool) (ks:List Nat) (x y:Opd):vop C M sl hp base (.eqA neg ks x y)=ZlD neg ks (evO sl x) (evO sl y):=by simp only[vop]
@[go_sem] theorem Zud (C:Orc) (M:Zh) (sl:Sl) (hp:Hp) (base:Nat) (k:IntKind) (x:Opd):vop C M sl hp base (.convI k x)=convI k (evO sl x):=by simp only[vop]
@[go_sem] theorem Zue (C:Orc) (M:Zh) (sl:Sl) (hp:Hp) (base:Nat) (x:Opd):vop C M sl hp base (.convS x)=convS (evO sl x):=by simp only[vop]
@[go_sem] theorem vopE_fn (C:Orc) (M:Zh) (sl:Sl) (hp:Hp) (base:Nat) (f:Nat) (cs:List Opd):vop C M sl hp base (.fn f cs)=YA (cloV f (evL sl cs)):=by simp only[vop]
@[go_sem] theorem vopE_make (C:Orc) (M:Zh) (sl:Sl) (hp:Hp) (base:Nat) (s b:Nat) (z:D) (l c:Opd):vop C M sl hp base (.make s b z l c)=bnd (idx (evO sl l)) fun l=>bnd (idx (evO sl c)) fun c=>Zko base s b z l c:=by simp only[vop]
@[go_sem] theorem Zuf (C:Orc) (M:Zh) (sl:Sl) (hp:Hp) (base:Nat) (s:Nat) (x:Opd) (lo hi:Option Opd):vop C M sl hp base (.slice s x lo hi)=YA (Yz hp s (evM sl lo) (evM sl hi) (evO sl x)):=by simp only[vop]
@[go_sem] theorem ZtH (C:Orc) (M:Zh) (sl:Sl) (hp:Hp) (base:Nat) (x:Opd) (lo hi:Option Opd):vop C M sl hp base (.sliceS x lo hi)=YA (sliceS (evM sl lo) (evM sl hi) (evO sl x)):=by simp only[vop]
@[go_sem] theorem ZtI (C:Orc) (M:Zh) (sl:Sl) (hp:Hp) (base:Nat) (x hi mx:Opd):vop C M sl hp base (.slice0 x hi mx)=YA (slice0 hp (evO sl x) (idx (evO sl hi)) (idx (evO sl mx))):=by simp only[vop]
@[go_sem] theorem Zug (C:Orc) (M:Zh) (sl:Sl) (hp:Hp) (base:Nat) (off:Nat) (x:Opd):vop C M sl hp base (.shift off x)=Y3 off (evO sl x):=by simp only[vop]
@[go_sem] theorem vopE_part (C:Orc) (M:Zh) (sl:Sl) (hp:Hp) (base:Nat) (g:Bool) (s off:Nat) (x:Opd):vop C M sl hp base (.part g s off x)=YA (Zeu g s off (evO sl x)):=by simp only[vop]
@[go_sem] theorem vopE_iaS (C:Orc) (M:Zh) (sl:Sl) (hp:Hp) (base:Nat) (s:Nat) (x i:Opd):vop C M sl hp base (.iaS s x i)=bnd (idx (evO sl i)) fun n=>Zc8 hp s (evO sl x) n:=by simp only[vop]
@[go_sem] theorem vopE_iaA (C:Orc) (M:Zh) (sl:Sl) (hp:Hp) (base:Nat) (len s:Nat) (x i:Opd):vop C M sl hp base (.iaA len s x i)=bnd (idx (evO sl i)) fun n=>Ziw (evO sl x) n len s:=by simp only[vop]
@[go_sem] theorem vopE_ixS (C:Orc) (M:Zh) (sl:Sl) (hp:Hp) (base:Nat) (x i:Opd):vop C M sl hp base (.ixS x i)=bnd (idx (evO sl i)) fun n=>Zoe n (evO sl x):=by simp only[vop]
@[go_sem] theorem vopE_ixA (C:Orc) (M:Zh) (sl:Sl) (hp:Hp) (base:Nat) (g:Bool) (s len:Nat) (x i:Opd):vop C M sl hp base (.ixA g s len x i)=bnd (idx (evO sl i)) fun n=>Zqy g s len n (evO sl x):=by simp only[vop]
@[go_sem] theorem vopE_nth (C:Orc) (M:Zh) (sl:Sl) (hp:Hp) (base:Nat) (i:Nat) (x:Opd):vop C M sl hp base (.nth i x)=Zm6 i (evO sl x):=by simp only[vop]
@[go_sem] theorem vopE_len (C:Orc) (M:Zh) (sl:Sl) (hp:Hp) (base:Nat) (x:Opd):vop C M sl hp base (.len x)=bnd (JQ hp (evO sl x)) fun n=>Qw (.d (.int .i64 n)):=by simp only[vop]
@[go_sem] theorem vopE_lenS (C:Orc) (M:Zh) (sl:Sl) (hp:Hp) (base:Nat) (x:Opd):vop C M sl hp base (.lenS x)=bnd (ZpV (evO sl x)) fun n=>Qw (.d (.int .i64 n)):=by simp only[vop]
@[go_sem] theorem ZtJ (C:Orc) (M:Zh) (sl:Sl) (hp:Hp) (base:Nat) (s b:Nat) (str flat:Bool) (x y:Opd):vop C M sl hp base (.append s b str flat x y)=Zm7 hp s b str flat base (evO sl x) (evO sl y):=by simp only[vop]
@[go_sem] theorem vopE_min (C:Orc) (M:Zh) (sl:Sl) (hp:Hp) (base:Nat) (x y:Opd):vop C M sl hp base (.min x y)=Zgp (evO sl x) (evO sl y):=by simp only[vop]
@[go_sem] theorem vopE_max (C:Orc) (M:Zh) (sl:Sl) (hp:Hp) (base:Nat) (x y:Opd):vop C M sl hp base (.max x y)=Zgq (evO sl x) (evO sl y):=by simp only[vop]
@[go_sem] theorem vopE_call (C:Orc) (M:Zh) (sl:Sl) (hp:Hp) (base:Nat) (f:Opd) (as:List Opd):vop C M sl hp base (.call f as)=JV C M hp base (evL sl as) (evO sl f):=by simp only[vop]
@[go_sem] theorem ZtK (C:Orc) (M:Zh) (sl:Sl) (hp:Hp) (base:Nat) (s:Nat) (x lo hi mx:Opd):vop C M sl hp base (.slice3 s x lo hi mx)=YA (slice3 hp (evO sl x) (idx (evO sl lo)) (idx (evO sl hi)) (idx (evO sl mx))):=by simp only[vop]
@[go_sem] theorem Zuh (C:Orc) (M:Zh) (sl:Sl) (hp:Hp) (base:Nat) (s:Nat) (z:D) (x:Opd):vop C M sl hp base (.clear s z x)=Zbl (ZaS hp s z (evO sl x)):=by simp only[vop]
@[go_sem] theorem ZtL (C:Orc) (M:Zh) (sl:Sl) (hp:Hp) (base:Nat) (s n:Nat) (xs:List Opd):vop C M sl hp base (.buildT s n xs)=buildT hp base s n (evL sl xs):=by simp only[vop]
@[go_sem] theorem vopE_appT (C:Orc) (M:Zh) (sl:Sl) (hp:Hp) (base:Nat) (s b:Nat) (f:Bool) (x y:Opd):vop C M sl hp base (.appT s b f x y)=appT hp s b base (evO sl x) (evO sl y):=by simp only[vop]
@[go_sem] theorem vopE_asgT (C:Orc) (M:Zh) (sl:Sl) (hp:Hp) (base:Nat) (s n:Nat) (x:Opd):vop C M sl hp base (.asgT s n x)=asgT base s n (evO sl x):=by simp only[vop]
@[go_sem] theorem Zui (C:Orc) (M:Zh) (sl:Sl) (hp:Hp) (base:Nat) (s b n:Nat) (z:D) (l c:Opd):vop C M sl hp base (.makeT s b n z l c)=bnd (idx (evO sl l)) fun l=>bnd (idx (evO sl c)) fun c=>makeT base s b n z l c:=by simp only[vop]
@[go_sem] theorem Zuj (C:Orc) (M:Zh) (sl:Sl) (hp:Hp) (base:Nat):vop C M sl hp base .stuck=none:=by simp only[vop]
@[go_sem] theorem Zqo (hp:Hp) (n:Nat) (aa:List Nat):QF hp n [] aa=aa:=by cases n<;>rfl
@[go_sem] theorem tidy_d (hp:Hp) (ids:List Nat) (x:D):Zau hp ids (.d x)=.d x:=rfl
@[go_sem] theorem tidy_nil (hp:Hp) (ids:List Nat):Zau hp ids .nil=.nil:=rfl
@[go_sem] theorem tidy_junk (hp:Hp) (ids:List Nat):Zau hp ids .junk=.junk:=rfl
@[go_sem] theorem tidy_tup (hp:Hp) (ids:List Nat) (vs:List AV):Zau hp ids (.tup vs)=ren (YH ids) (kill (Zb4 hp ids (Zl (.tup vs))) (.tup vs)):=rfl
@[go_sem] theorem tidy_agg (hp:Hp) (ids:List Nat) (vs:List AV):Zau hp ids (.agg vs)=ren (YH ids) (kill (Zb4 hp ids (Zl (.agg vs))) (.agg vs)):=rfl
@[go_sem] theorem tidy_clo (hp:Hp) (ids:List Nat) (f:Nat) (vs:List AV):Zau hp ids (.clo f vs)=ren (YH ids) (kill (Zb4 hp ids (Zl (.clo f vs))) (.clo f vs)):=rfl
@[go_sem] theorem tidy_nilp (hp:Hp) (ids:List Nat):Zau hp ids .nilp=.nilp:=rfl
@[go_sem] theorem tidy_nili (hp:Hp) (ids:List Nat):Zau hp ids .nili=.nili:=rfl
@[go_sem] theorem tidy_pim (hp:Hp) (ids:List Nat) (cs:List D):Zau hp ids (.pim cs)=.pim cs:=rfl
@[go_sem] theorem tidy_ptr (hp:Hp) (ids:List Nat) (id o:Nat):Zau hp ids (.ptr id o)=if JY hp ids id=true then .ptr (YH ids id) o else .junk:=by
 simp only[Zau,Zl,Zo,Zg,Zb4];split<;>simp[kill,ZF,ZU,ren,Zah,ZaK]
@[go_sem] theorem tidy_prow (hp:Hp) (ids:List Nat) (id s i o:Nat):Zau hp ids (.prow id s i o)=if JY hp ids id=true then .prow (YH ids id) s i o else .junk:=by
 simp only[Zau,Zl,Zo,Zg,Zb4];split<;>simp[kill,ZF,ZU,ren,Zah,ZaK]
@[go_sem] theorem tidy_own (hp:Hp) (ids:List Nat) (id:Nat):Zau hp ids (.own id)=if JY hp ids id=true then .own (YH ids id) else .junk:=by
 simp only[Zau,Zl,Zo,Zg,Zb4];split<;>simp[kill,ZF,ZU,ren,Zah,ZaK]
@[go_sem] theorem tidy_ownv (hp:Hp) (ids:List Nat) (id a b:Nat):Zau hp ids (.ownv id a b)=if JY hp ids id=true then .ownv (YH ids id) a b else .junk:=by
 simp only[Zau,Zl,Zo,Zg,Zb4];split<;>simp[kill,ZF,ZU,ren,Zah,ZaK]
@[go_sem] theorem Zuk (hp:Hp) (x:D):Y5 0 hp (.d x)=(.d x,[]):=by
 simp[Y5,Zl,Zo,Zg,Vg,Zqo,tidy_d,JS]
@[go_sem] theorem minI_eq (a b:Int):minI a b=min a b:=by unfold minI;split<;>omega
@[go_sem] theorem maxI_eq (a b:Int):maxI a b=max a b:=by unfold maxI;split<;>omega
@[go_sem] theorem negIf_f (r:Bool):Ziv false r=r:=rfl
@[go_sem] theorem negIf_t (r:Bool):Ziv true r=!r:=rfl
@[go_sem] theorem opt1_some (v:AV):YA (some v)=Qw v:=rfl
@[go_sem] theorem opt1_none:YA none=none:=rfl
@[go_sem] theorem vbin_int (op:BinOp) (k k' : IntKind) (a b:Int):vbin op (.d (.int k a)) (.d (.int k' b))=WD op k k' a b:=rfl
@[go_sem] theorem binV_int (op:BinOp) (eq:Bool) (k k' : IntKind) (a b:Int):Ziu op eq (.d (.int k a)) (.d (.int k' b))=YA (WD op k k' a b):=rfl
@[go_sem] theorem binV_str (op:BinOp) (eq:Bool) (a b:List UInt8):Ziu op eq (.d (.str a)) (.d (.str b))=YA (asD (Zms op a b)):=rfl
@[go_sem] theorem int2_add (k:IntKind) (a b:Int):WD .add k k a b=some (.d (.int k (k.wrap (a+b)))):=by simp[WD,VO,asD,Zc]
@[go_sem] theorem int2_sub (k:IntKind) (a b:Int):WD .sub k k a b=some (.d (.int k (k.wrap (a-b)))):=by simp[WD,VO,asD,Zc]
@[go_sem] theorem int2_mul (k:IntKind) (a b:Int):WD .mul k k a b=some (.d (.int k (k.wrap (a*b)))):=by simp[WD,VO,asD,Zc]
@[go_sem] theorem int2_quo (k:IntKind) (a b:Int):WD .quo k k a b=if b=0 then none else some (.d (.int k (k.wrap (a.tdiv b)))):=by simp only[WD,VO,asD,if_true];split<;>rfl
@[go_sem] theorem int2_rem (k:IntKind) (a b:Int):WD .rem k k a b=if b=0 then none else some (.d (.int k (a.tmod b))):=by simp only[WD,VO,asD,if_true];split<;>rfl
@[go_sem] theorem int2_eql (k:IntKind) (a b:Int):WD .eql k k a b=some (.d (.bool (decide (a=b)))):=by simp[WD,VO,asD,Zc,BEq.beq]
@[go_sem] theorem int2_neq (k:IntKind) (a b:Int):WD .neq k k a b=some (.d (.bool (!decide (a=b)))):=by simp[WD,VO,asD,Zc,bne,BEq.beq]
@[go_sem] theorem int2_lss (k:IntKind) (a b:Int):WD .lss k k a b=some (.d (.bool (decide (a<b)))):=by simp[WD,VO,asD,Zc]
@[go_sem] theorem int2_leq (k:IntKind) (a b:Int):WD .leq k k a b=some (.d (.bool (decide (a≤b)))):=by simp[WD,VO,asD,Zc]
@[go_sem] theorem int2_gtr (k:IntKind) (a b:Int):WD .gtr k k a b=some (.d (.bool (decide (b<a)))):=by simp[WD,VO,asD,Zc]
@[go_sem] theorem int2_geq (k:IntKind) (a b:Int):WD .geq k k a b=some (.d (.bool (decide (b≤a)))):=by simp[WD,VO,asD,Zc]
@[go_sem] theorem guardV_t (b:Bool):Za4 true (.d (.bool b))=some b:=by cases b<;>rfl
def nb (b:Bool):Bool:=!b
@[go_sem] theorem nb_true:nb true=false:=rfl
@[go_sem] theorem nb_false:nb false=true:=rfl
@[go_sem] theorem nb_eq (b:Bool):(nb b=true)=(b=false):=by cases b<;>simp[nb]
@[go_sem] theorem guardV_f (b:Bool):Za4 false (.d (.bool b))=some (nb b):=by cases b<;>rfl
@[go_sem] theorem Zul (w:Bool):Za4 w (.tup [])=some false:=rfl
@[go_sem] theorem Zs3 (a b:Bool):Za4 true (ZcS a (.d (.bool b)))=some (a&&b):=by cases a<;>cases b<;>rfl
@[go_sem] theorem Zs4 (a b:Bool):Za4 false (ZcS a (.d (.bool b)))=some (a&&nb b):=by cases a<;>cases b<;>rfl
@[go_sem] theorem iteV_true (v:AV):ZcS true v=v:=rfl
@[go_sem] theorem Zum (v:AV):ZcS false v=.tup []:=rfl
@[go_sem] theorem Zun (a b:AV):ZbZ a b (.d (.bool true))=Qw a:=rfl
@[go_sem] theorem ZtM (a b:AV):ZbZ a b (.d (.bool false))=Qw b:=rfl
@[go_sem] theorem pickV_or (b c:Bool):ZbZ (.d (.bool true)) (ZcS (nb b) (.d (.bool c))) (.d (.bool b))=Qw (.d (.bool (b || c))):=by cases b<;>rfl
@[go_sem] theorem pickV_and (b c:Bool):ZbZ (ZcS b (.d (.bool c))) (.d (.bool false)) (.d (.bool b))=Qw (.d (.bool (b&&c))):=by cases b<;>rfl
theorem Zuo (a b:AV) (t:Bool):ZbZ a b (.d (.bool t))=if t=true then Qw a else Qw b:=by cases t<;>rfl
@[go_sem] theorem dec_or (p q:Prop) [Decidable p] [Decidable q]:(decide p || decide q)=decide (p∨q):=by simp
@[go_sem] theorem dec_and (p q:Prop) [Decidable p] [Decidable q]:(decide p&&decide q)=decide (p∧q):=by simp
@[go_sem] theorem dec_not (p:Prop) [Decidable p]:(!decide p)=decide (¬p):=by simp
attribute [go_sem] Bool.or_eq_false_iff decide_eq_true_eq decide_eq_false_iff_not Bool.and_eq_true Bool.or_eq_true Bool.not_eq_true' Bool.not_eq_false' not_or Decidable.not_not
@[go_sem] theorem evO_t (sl:Sl) (n:Nat):evO sl (.t n)=gs sl n:=rfl
@[go_sem] theorem evO_v (sl:Sl) (a:AV):evO sl (.v a)=a:=rfl
@[go_sem] theorem evO_f (sl:Sl) (n:Nat):evO sl (.f n)=.clo n []:=rfl
@[go_sem] theorem gs_hit (k:Nat) (v:AV) (r:Sl):gs ((k,v) :: r) k=v:=by simp[gs,lkp,JO]
@[go_sem] theorem gs_cons (k t:Nat) (v:AV) (r:Sl):gs ((k,v) :: r) t=if k=t then v else gs r t:=by
 by_cases h:k=t<;>simp[gs,lkp,h,JO]
@[go_sem] theorem gs_nil (t:Nat):gs [] t=.junk:=rfl
attribute [go_sem] ZaI.eq_1 ZaI.eq_2
attribute [go_sem] Wf.eq_1 Wf.eq_2 Wf.eq_3 Wf.eq_4
attribute [go_sem] Zd7.eq_1 Zd7.eq_2 Zd7.eq_3 Zd7.eq_4
attribute [go_sem] Uv.eq_1 Uv.eq_2
attribute [go_sem] St.hp.eq_1
attribute [go_sem] Jx.eq_1 Jx.eq_2 Jx.eq_3
attribute [go_sem] JO.eq_1 JO.eq_2
attribute [go_sem] agg2.eq_1 agg2.eq_2 agg2.eq_3
attribute [go_sem] ins.eq_1 ins.eq_2
attribute [go_sem] ZaJ.eq_1 ZaJ.eq_2
attribute [go_sem] Q9.eq_1 Q9.eq_2 Q9.eq_3
attribute [go_sem] St.m.eq_1
attribute [go_sem] bnd.eq_1 bnd.eq_2
attribute [go_sem] Vd.eq_1 Vd.eq_2 Vd.eq_3
attribute [go_sem] Zms.eq_1 Zms.eq_2 Zms.eq_3 Zms.eq_4
attribute [go_sem] AV.cells.eq_1 AV.cells.eq_2 AV.cells.eq_3 AV.cells.eq_4 AV.cells.eq_5 AV.cells.eq_6 AV.cells.eq_7 AV.cells.eq_8 AV.cells.eq_9 AV.cells.eq_10 AV.cells.eq_11 AV.cells.eq_12 AV.cells.eq_13 AV.cells.eq_14 AV.cells.eq_15
attribute [go_sem] ZU.eq_1 ZU.eq_2 ZU.eq_3 ZU.eq_4 ZU.eq_5 ZU.eq_6
attribute [go_sem] AV.solid.eq_1 AV.solid.eq_2 AV.solid.eq_3 AV.solid.eq_4
attribute [go_sem] YE.eq_1 YE.eq_2
attribute [go_sem] Qe.eq_1 Qe.eq_2
attribute [go_sem] Yi.eq_1 Yi.eq_2
attribute [go_sem] We.eq_1
attribute [go_sem] JQ.eq_1 JQ.eq_2 JQ.eq_3 JQ.eq_4 JQ.eq_5
attribute [go_sem] YV.eq_1 YV.eq_2
attribute [go_sem] D.flat.eq_1
attribute [go_sem] give.eq_1 give.eq_2
attribute [go_sem] D.beq1.eq_1 D.beq1.eq_2 D.beq1.eq_3 D.beq1.eq_4
attribute [go_sem] ZaK.eq_1 ZaK.eq_2 ZaK.eq_3 ZaK.eq_4 ZaK.eq_5 ZaK.eq_6
attribute [go_sem] not1.eq_1 not1.eq_2
attribute [go_sem] QU.eq_1 QU.eq_2 QU.eq_3 QU.eq_4
attribute [go_sem] St.nx.eq_1
attribute [go_sem] Zo.eq_1 Zo.eq_2 Zo.eq_3
attribute [go_sem] Zah.eq_1 Zah.eq_2 Zah.eq_3
attribute [go_sem] Zd8.eq_1 Zd8.eq_2
attribute [go_sem] vun.eq_1 vun.eq_2 vun.eq_3
attribute [go_sem] toD.eq_1 toD.eq_2
attribute [go_sem] Zg.eq_1 Zg.eq_2 Zg.eq_3 Zg.eq_4 Zg.eq_5 Zg.eq_6 Zg.eq_7 Zg.eq_8 Zg.eq_9 Zg.eq_10 Zg.eq_11 Zg.eq_12 Zg.eq_13 Zg.eq_14 Zg.eq_15
attribute [go_sem] D.plain.eq_1 D.plain.eq_2 D.plain.eq_3 D.plain.eq_4 D.plain.eq_5
attribute [go_sem] Zk.eq_1
attribute [go_sem] ZF.eq_1 ZF.eq_2 ZF.eq_3
attribute [go_sem] VF.eq_1 VF.eq_2
attribute [go_sem] Zl.eq_1 Zl.eq_2
attribute [go_sem] ZnO.eq_1
attribute [go_sem] Zfh.eq_1 Zfh.eq_2
attribute [go_sem] Um.eq_1 Um.eq_2 Um.eq_3 Um.eq_4
attribute [go_sem] St.sl.eq_1
attribute [go_sem] ZpV.eq_1 ZpV.eq_2
attribute [go_sem] Ve.eq_1 Ve.eq_2
attribute [go_sem] JP.eq_1 JP.eq_2
attribute [go_sem] ren.eq_1 ren.eq_2
attribute [go_sem] kill.eq_1 kill.eq_2
attribute [go_sem] lkp.eq_1 lkp.eq_2
attribute [go_sem] ZjW.eq_1 ZjW.eq_2 ZjW.eq_3
attribute [go_sem] Q6.eq_1 Q6.eq_2
attribute [go_sem] beqL.eq_1 beqL.eq_2 beqL.eq_3
attribute [go_sem] D.cells.eq_1 D.cells.eq_2 D.cells.eq_3 D.cells.eq_4 D.cells.eq_5
attribute [go_sem] ZhJ.eq_1 ZhJ.eq_2
attribute [go_sem] ZjV.eq_1 ZjV.eq_2
attribute [go_sem] neg1.eq_1 neg1.eq_2
attribute [go_sem] Zfi.eq_1 Zfi.eq_2 Zfi.eq_3
attribute [go_sem] ZhK.eq_1 ZhK.eq_2
attribute [go_sem] Yh.eq_1 Yh.eq_2 Yh.eq_3
attribute [go_sem] asD.eq_1
attribute [go_sem] VO.eq_1 VO.eq_2 VO.eq_3 VO.eq_4 VO.eq_5 VO.eq_6 VO.eq_7 VO.eq_8 VO.eq_9 VO.eq_10 VO.eq_11 VO.eq_12 VO.eq_13 VO.eq_14 VO.eq_15 VO.eq_16 VO.eq_17
attribute [go_sem] ZcR.eq_1 ZcR.eq_2 ZcR.eq_3 ZcR.eq_4 ZcR.eq_5
attribute [go_sem] D.one.eq_1 D.one.eq_2 D.one.eq_3 D.one.eq_4 D.one.eq_5
attribute [go_sem] freeze.eq_1 freeze.eq_2
attribute [go_sem] U9.eq_1
attribute [go_sem] loOf.eq_1 loOf.eq_2
attribute [go_sem] Eff.on.eq_1
attribute [go_sem] appT.eq_1
attribute [go_sem] WT.eq_1 WT.eq_2
attribute [go_sem] cloV.eq_1
attribute [go_sem] slice0.eq_1 slice0.eq_2
attribute [go_sem] evM.eq_1 evM.eq_2
attribute [go_sem] Wl.eq_1 Wl.eq_2
attribute [go_sem] hiOf.eq_1 hiOf.eq_2
attribute [go_sem] Zeu.eq_1 Zeu.eq_2 Zeu.eq_3
attribute [go_sem] Zpl.eq_1
attribute [go_sem] idx.eq_1 idx.eq_2
attribute [go_sem] Yz.eq_1 Yz.eq_2 Yz.eq_3 Yz.eq_4 Yz.eq_5
attribute [go_sem] Wx.eq_1 Wx.eq_2 Wx.eq_3
attribute [go_sem] ZW.eq_1 ZW.eq_2
attribute [go_sem] D.notSl.eq_1 D.notSl.eq_2
attribute [go_sem] ZrV.eq_1 ZrV.eq_2
attribute [go_sem] Jd.eq_1 Jd.eq_2 Jd.eq_3 Jd.eq_4 Jd.eq_5 Jd.eq_6
attribute [go_sem] VH.eq_1 VH.eq_2 VH.eq_3
attribute [go_sem] CO.guard.eq_1
attribute [go_sem] Zbl.eq_1
attribute [go_sem] W2.eq_1
attribute [go_sem] Ja.eq_1 Ja.eq_2 Ja.eq_3
attribute [go_sem] Zeq.eq_1
attribute [go_sem] Eff.adds.eq_1
attribute [go_sem] Zgo.eq_1 Zgo.eq_2
attribute [go_sem] YH.eq_1 YH.eq_2
attribute [go_sem] Zd.eq_1 Zd.eq_2
attribute [go_sem] Zb.eff.eq_1
attribute [go_sem] ZbW.eq_1 ZbW.eq_2
attribute [go_sem] Zoe.eq_1 Zoe.eq_2
attribute [go_sem] Zfu.eq_1 Zfu.eq_2 Zfu.eq_3
attribute [go_sem] del.eq_1 del.eq_2
attribute [go_sem] Zit.eq_1
attribute [go_sem] Zlz.eq_1 Zlz.eq_2
attribute [go_sem] WH.eq_1 WH.eq_2
attribute [go_sem] Zgq.eq_1 Zgq.eq_2
attribute [go_sem] D.isAgg.eq_1 D.isAgg.eq_2
attribute [go_sem] WI.eq_1 WI.eq_2 WI.eq_3 WI.eq_4 WI.eq_5
attribute [go_sem] Zb0.eq_1
attribute [go_sem] slice3.eq_1
attribute [go_sem] Jc.eq_1 Jc.eq_2
attribute [go_sem] args.eq_1 args.eq_2
attribute [go_sem] Zgp.eq_1 Zgp.eq_2
attribute [go_sem] ZaV.eq_1
attribute [go_sem] Zer.eq_1 Zer.eq_2
attribute [go_sem] Wo.eq_1
attribute [go_sem] evL.eq_1 evL.eq_2
attribute [go_sem] Zfv.eq_1 Zfv.eq_2 Zfv.eq_3
attribute [go_sem] Wk.eq_1 Wk.eq_2 Wk.eq_3
attribute [go_sem] JS.eq_1 JS.eq_2
attribute [go_sem] Ziq.eq_1 Ziq.eq_2
attribute [go_sem] Eff.sets.eq_1
attribute [go_sem] JT.eq_1 JT.eq_2 JT.eq_3
attribute [go_sem] Zep.eq_1 Zep.eq_2
attribute [go_sem] Zet.eq_1 Zet.eq_2
attribute [go_sem] Uh.eq_1 Uh.eq_2 Uh.eq_3
attribute [go_sem] Zqy.eq_1
attribute [go_sem] makeT.eq_1
attribute [go_sem] Yk.eq_1 Yk.eq_2
attribute [go_sem] ZrW.eq_1 ZrW.eq_2
attribute [go_sem] Zir.eq_1 Zir.eq_2
attribute [go_sem] Jh.eq_1 Jh.eq_2
attribute [go_sem] Zko.eq_1
attribute [go_sem] Jg.eq_1 Jg.eq_2
attribute [go_sem] AV.atom.eq_1 AV.atom.eq_2 AV.atom.eq_3 AV.atom.eq_4 AV.atom.eq_5
attribute [go_sem] Eff.dels.eq_1
attribute [go_sem] JC.eq_1 JC.eq_2 JC.eq_3
attribute [go_sem] mat.eq_1 mat.eq_2 mat.eq_3
attribute [go_sem] ZZ.eq_1
attribute [go_sem] Jf.eq_1 Jf.eq_2
attribute [go_sem] ZlC.eq_1
attribute [go_sem] Zqw.eq_1
attribute [go_sem] JE.eq_1 JE.eq_2
attribute [go_sem] Wm.eq_1
attribute [go_sem] Qh.eq_1 Qh.eq_2 Qh.eq_3 Qh.eq_4
attribute [go_sem] Zqx.eq_1
attribute [go_sem] ZbT.eq_1 ZbT.eq_2
attribute [go_sem] Zfw.eq_1 Zfw.eq_2
attribute [go_sem] Zm9.eq_1 Zm9.eq_2
attribute [go_sem] Zc7.eq_1 Zc7.eq_2 Zc7.eq_3 Zc7.eq_4
attribute [go_sem] ZdD.eq_1 ZdD.eq_2
attribute [go_sem] ZaT.eq_1 ZaT.eq_2
attribute [go_sem] ZbV.eq_1 ZbV.eq_2 ZbV.eq_3 ZbV.eq_4 ZbV.eq_5
attribute [go_sem] ZlA.eq_1 ZlA.eq_2
attribute [go_sem] Zis.eq_1
attribute [go_sem] convS.eq_1 convS.eq_2
attribute [go_sem] Zes.eq_1 Zes.eq_2
attribute [go_sem] CO.tl.eq_1
attribute [go_sem] ZbX.eq_1 ZbX.eq_2 ZbX.eq_3 ZbX.eq_4
attribute [go_sem] CO.dst.eq_1
attribute [go_sem] teOf.eq_1
attribute [go_sem] Zof.eq_1 Zof.eq_2 Zof.eq_3
attribute [go_sem] ZlB.eq_1
attribute [go_sem] Zm4.eq_1 Zm4.eq_2
attribute [go_sem] Zm5.eq_1
attribute [go_sem] Eff.val.eq_1
attribute [go_sem] sliceS.eq_1 sliceS.eq_2
attribute [go_sem] XV.eq_1 XV.eq_2 XV.eq_3
attribute [go_sem] ZbU.eq_1 ZbU.eq_2 ZbU.eq_3 ZbU.eq_4
attribute [go_sem] Wj.eq_1
attribute [go_sem] buildSl.eq_1 buildSl.eq_2
attribute [go_sem] VA.eq_1 VA.eq_2 VA.eq_3 VA.eq_4
attribute [go_sem] Wu.eq_1 Wu.eq_2 Wu.eq_3 Wu.eq_4 Wu.eq_5
attribute [go_sem] Zgn.eq_1 Zgn.eq_2
attribute [go_sem] Ziw.eq_1
attribute [go_sem] evP.eq_1 evP.eq_2
attribute [go_sem] Zev.eq_1 Zev.eq_2
attribute [go_sem] JD.eq_1
attribute [go_sem] Zcy.eq_1
attribute [go_sem] Zkn.eq_1 Zkn.eq_2
attribute [go_sem] Ziv.eq_1
attribute [go_sem] Y2.eq_1
attribute [go_sem] Zm8.eq_1
attribute [go_sem] bnT.eq_1 bnT.eq_2
attribute [go_sem] Jb.eq_1 Jb.eq_2
attribute [go_sem] Y1.eq_1 Y1.eq_2
attribute [go_sem] Wn.eq_1 Wn.eq_2
attribute [go_sem] asgT.eq_1 asgT.eq_2
attribute [go_sem] Zfx.eq_1 Zfx.eq_2
attribute [go_sem] JV.eq_1 JV.eq_2
attribute [go_sem] ZbY.eq_1 ZbY.eq_2 ZbY.eq_3 ZbY.eq_4
attribute [go_sem] Zm2.eq_1 Zm2.eq_2
attribute [go_sem] CO.op.eq_1
attribute [go_sem] ZaW.eq_1 ZaW.eq_2
attribute [go_sem] ZaS.eq_1 ZaS.eq_2
attribute [go_sem] Zqv.eq_1 Zqv.eq_2
attribute [go_sem] Zcz.eq_1 Zcz.eq_2 Zcz.eq_3
attribute [go_sem] Zm6.eq_1 Zm6.eq_2
attribute [go_sem] ZdE.eq_1 ZdE.eq_2
attribute [go_sem] ZaU.eq_1 ZaU.eq_2
attribute [go_sem] Jt.eq_1 Jt.eq_2 Jt.eq_3 Jt.eq_4 Jt.eq_5 Jt.eq_6 Jt.eq_7 Jt.eq_8 Jt.eq_9 Jt.eq_10
attribute [go_sem] W3.eq_1
attribute [go_sem] Y3.eq_1 Y3.eq_2 Y3.eq_3 Y3.eq_4
attribute [go_sem] Eff.frz.eq_1
attribute [go_sem] buildT.eq_1
attribute [go_sem] Z0.eq_1 Z0.eq_2
attribute [go_sem] Zcx.eq_1 Zcx.eq_2
attribute [go_sem] Zb.gone.eq_1
attribute [go_sem] meltIn.eq_1 meltIn.eq_2
attribute [go_sem] Zc8.eq_1
attribute [go_sem] Zm3.eq_1 Zm3.eq_2
attribute [go_sem] convI.eq_1 convI.eq_2
attribute [go_sem] Zg7.eq_1 Zg7.eq_2
attribute [go_sem] UD.eq_1 UD.eq_2 UD.eq_3
attribute [go_sem] bd.eq_1
attribute [go_sem] Je.eq_1 Je.eq_2
attribute [go_sem] Xb.eq_1
attribute [go_sem] ZlD.eq_1 ZlD.eq_2
attribute [go_sem] ZcA.eq_1
attribute [go_sem] Xm.eq_1 Xm.eq_2
attribute [go_sem] Zpv.eq_1 Zpv.eq_2
attribute [go_sem] Zr.eq_1 Zr.eq_2 Zr.eq_3 Zr.eq_4 Zr.eq_5 Zr.eq_6 Zr.eq_7 Zr.eq_8 Zr.eq_9 Zr.eq_10 Zr.eq_11 Zr.eq_12 Zr.eq_13 Zr.eq_14 Zr.eq_15 Zr.eq_16 Zr.eq_17 Zr.eq_18 Zr.eq_19 Zr.eq_20 Zr.eq_21 Zr.eq_22 Zr.eq_23 Zr.eq_24 Zr.eq_25 Zr.eq_26 Zr.eq_27 Zr.eq_28 Zr.eq_29 Zr.eq_30 Zr.eq_31 Zr.eq_32 Zr.eq_33 Zr.eq_34 Zr.eq_35 Zr.eq_36 Zr.eq_37 Zr.eq_38 Zr.eq_39 Zr.eq_40
attribute [go_sem] VS.eq_1 VS.eq_2 VS.eq_3 VS.eq_4 VS.eq_5
attribute [go_sem] Zb5.eq_1
attribute [go_sem] ZlP.eq_1 ZlP.eq_2
attribute [go_sem] Jo.eq_1 Jo.eq_2
attribute [go_sem] Za9.eq_1
attribute [go_sem] JX.eq_1 JX.eq_2 JX.eq_3 JX.eq_4 JX.eq_5
attribute [go_sem] VI.eq_1 VI.eq_2
attribute [go_sem] Zgv.eq_1 Zgv.eq_2
attribute [go_sem] ZqG.eq_1 ZqG.eq_2
attribute [go_sem] Zkv.eq_1 Zkv.eq_2
attribute [go_sem] QN.eq_1 QN.eq_2
attribute [go_sem] only.eq_1 only.eq_2
attribute [go_sem] Zot.eq_1 Zot.eq_2
attribute [go_sem] Zb2.eq_1 Zb2.eq_2
attribute [go_sem] YL.eq_1 YL.eq_2
attribute [go_sem] okL.eq_1 okL.eq_2
attribute [go_sem] okC.eq_1 okC.eq_2 okC.eq_3 okC.eq_4 okC.eq_5 okC.eq_6 okC.eq_7 okC.eq_8 okC.eq_9 okC.eq_10
attribute [go_sem] Zha.eq_1 Zha.eq_2
attribute [go_sem] Uk.eq_1 Uk.eq_2
attribute [go_sem] Za5.eq_1 Za5.eq_2 Za5.eq_3
attribute [go_sem] ZcF.eq_1 ZcF.eq_2
attribute [go_sem] Zb4.eq_1 Zb4.eq_2
attribute [go_sem] Qy.eq_1 Qy.eq_2
attribute [go_sem] Zi.eq_1 Zi.eq_2
attribute [go_sem] Ys.eq_1 Ys.eq_2 Ys.eq_3
attribute [go_sem] ZeF.eq_1
attribute [go_sem] YN.eq_1 YN.eq_2
attribute [go_sem] ZlQ.eq_1 ZlQ.eq_2
attribute [go_sem] CO.starts.eq_1
attribute [go_sem] YK.eq_1 YK.eq_2
attribute [go_sem] QD.eq_1 QD.eq_2
attribute [go_sem] Zpu.eq_1 Zpu.eq_2
attribute [go_sem] ZfK.eq_1
attribute [go_sem] ZiQ.eq_1 ZiQ.eq_2 ZiQ.eq_3
attribute [go_sem] Za7.eq_1 Za7.eq_2
attribute [go_sem] Vg.eq_1 Vg.eq_2
attribute [go_sem] JY.eq_1
attribute [go_sem] ZiR.eq_1 ZiR.eq_2
attribute [go_sem] Zpt.eq_1
attribute [go_sem] Z9.body.eq_1
attribute [go_sem] ZeG.eq_1
attribute [go_sem] ZdM.eq_1 ZdM.eq_2
attribute [go_sem] Wr.eq_1 Wr.eq_2 Wr.eq_3 Wr.eq_4 Wr.eq_5
attribute [go_sem] Z9.res.eq_1
attribute [go_sem] X8.eq_1 X8.eq_2
attribute [go_sem] XT.eq_1 XT.eq_2 XT.eq_3 XT.eq_4 XT.eq_5 XT.eq_6 XT.eq_7 XT.eq_8 XT.eq_9 XT.eq_10 XT.eq_11 XT.eq_12
attribute [go_sem] ZiS.eq_1 ZiS.eq_2
attribute [go_sem] Yr.eq_1 Yr.eq_2
attribute [go_sem] Z9.nt.eq_1
attribute [go_sem] okD.eq_1 okD.eq_2
attribute [go_sem] ZlD.eq_1 Wu.eq_1 Wu.eq_2 Wu.eq_3 Wu.eq_4
attribute [go_sem] V3.eq_1 Jl.eq_1 Jl.eq_2 Jl.eq_3 Jl.eq_4 Jl.eq_5 Jl.eq_6 Jl.eq_7 Jl.eq_8 Jl.eq_9 Jl.eq_10 Y5.eq_1
attribute [go_sem] QF.eq_3 Xd.eq_1 AV.atom.eq_1 AV.atom.eq_2 AV.atom.eq_3 AV.atom.eq_4
attribute [go_sem] ZjE.eq_1 ZjE.eq_2 Zc5.eq_1 Zc5.eq_2
attribute [go_sem] Zc Zrt ZsF
attribute [go_sem] List.map_cons List.map_nil List.flatMap_cons List.flatMap_nil List.append_nil List.nil_append List.cons_append List.length_cons List.length_nil List.all_cons List.all_nil List.any_cons List.any_nil List.contains_cons List.contains_nil List.filter_cons List.filter_nil List.drop_zero List.drop_succ_cons List.drop_nil List.take_zero List.take_succ_cons List.take_nil List.getElem?_cons_zero List.getElem?_cons_succ List.getElem?_nil Option.map_some Option.map_none Bool.and_true Bool.true_and Bool.and_false Bool.false_and Bool.or_true Bool.true_or Bool.or_false Bool.false_or Bool.not_true Bool.not_false decide_true decide_false and_true true_and and_false false_and not_true not_false_eq_true or_true true_or or_false false_or if_true if_false true_implies false_implies implies_true imp_self eq_self ne_eq beq_self_eq_true Bool.true_eq_false Bool.false_eq_true List.isEmpty_nil List.isEmpty_cons List.range_zero List.set_cons_zero List.set_cons_succ Option.some.injEq reduceCtorEq Nat.reduceLeDiff
def Zim (hp:Hp):List Nat→List Nat
 | []=>[]
 | i :: r=>if ZbX (lkp hp i)=true then i :: Zim hp r else Zim hp r
theorem gE (hp:Hp) (ids:List Nat):(ids.filter fun i=>ZbX (lkp hp i))=Zim hp ids:=by
 induction ids with
 | nil=>rfl
 | cons i r ih=>simp only[List.filter_cons,Zim,ih]
def Zkg (hp:Hp) (rs:List Nat):List Nat→Bool
 | []=>true
 | i :: r=>(ZbX (lkp hp i) || rs.contains i)&&Zkg hp rs r
def Zkh (hp:Hp):List Nat→Bool
 | []=>false
 | i :: r=>Jg (lkp hp i) || Zkh hp r
theorem gG (hp:Hp) (ids:List Nat):(ids.any fun i=>Jg (lkp hp i))=Zkh hp ids:=by
 induction ids with
 | nil=>rfl
 | cons i r ih=>simp only[List.any_cons,Zkh,ih]
attribute [go_sem] Zkh.eq_1 Zkh.eq_2
@[go_sem] theorem appV_eq (hp:Hp) (s b:Nat) (str flat:Bool) (base:Nat) (x y:AV):Zm7 hp s b str flat base x y=JU hp s b str flat base x y (Xe hp x) (Xe hp y):=rfl
attribute [go_sem] JU.eq_1 JU.eq_2 JU.eq_3
@[go_sem] theorem treeId_d (hp:Hp) (x:D):Xe hp (.d x)=[]:=rfl
@[go_sem] theorem Zup (hp:Hp):Xe hp .nil=[]:=rfl
@[go_sem] theorem ZtN (hp:Hp) (k o n:Nat):Xe hp (.ownv k o n)=[]:=rfl
@[go_sem] theorem Zuq (hp:Hp) (k:Nat):Xe hp (.own k)=if Jg (lkp hp k)=true then [k] else []:=rfl
@[go_sem] theorem noKeep_0 (M:Zh) (f:Nat):XW M f 0=M f 0:=rfl
@[go_sem] theorem noKeep_1 (M:Zh) (f:Nat):XW M f 1=M f 1:=rfl
@[go_sem] theorem noKeep_2 (M:Zh) (f:Nat):XW M f 2=M f 2:=rfl
@[go_sem] theorem noKeep_3 (M:Zh) (f:Nat):XW M f 3=M f 3:=rfl
@[go_sem] theorem noKeep_4 (M:Zh) (f:Nat):XW M f 4=M f 4:=rfl
@[go_sem] theorem noKeep_5 (M:Zh) (f:Nat):XW M f 5=M f 5:=rfl
@[go_sem] theorem noKeep_6 (M:Zh) (f:Nat):XW M f 6=M f 6:=rfl
@[go_sem] theorem noKeep_99 (M:Zh) (f:Nat):XW M f 99=false:=rfl
theorem gF (hp:Hp) (rs ids:List Nat):UC hp rs ids=Zkg hp rs ids:=by
 induction ids with
 | nil=>rfl
 | cons i r ih=>simp only[UC,Lr,Zkg] at ih ⊢;rw[ih]
attribute [go_sem] Zim.eq_1 Zim.eq_2 Zkg.eq_1 Zkg.eq_2
@[go_sem] theorem okV_d (x:D):okV (.d x)=true:=rfl
@[go_sem] theorem okV_nil:okV .nil=true:=rfl
@[go_sem] theorem okV_nilp:okV .nilp=true:=rfl
@[go_sem] theorem okV_nili:okV .nili=true:=rfl
@[go_sem] theorem okV_ptr (a b:Nat):okV (.ptr a b)=true:=rfl
@[go_sem] theorem okV_prow (a b c e:Nat):okV (.prow a b c e)=true:=rfl
@[go_sem] theorem okV_pim (cs:List D):okV (.pim cs)=true:=rfl
@[go_sem] theorem okV_own (a:Nat):okV (.own a)=true:=rfl
@[go_sem] theorem okV_ownv (a b c:Nat):okV (.ownv a b c)=true:=rfl
@[go_sem] theorem okV_agg (cs:List AV):okV (.agg cs)=ZlP cs:=rfl
@[go_sem] theorem okV_tup0:okV (.tup [])=true:=rfl
@[go_sem] theorem Zur (sl:Sl) (a:COp) (x y:Nat) (v:AV):YB sl a (.ptr x y) v=true:=rfl
@[go_sem] theorem seenIn_d (sl:Sl) (a:COp) (x y z t:Nat) (v:D):YB sl a (.prow x y z t) (.d v)=true:=rfl
@[go_sem] theorem Zus (sl:Sl) (a:COp) (x y z t:Nat) (v:List AV):YB sl a (.prow x y z t) (.agg v)=(okV (.agg v)&&Xm sl (Zr a) (Zl (.agg v))):=rfl
@[go_sem] theorem Zut (sl:Sl) (a:COp) (x y z t:Nat) (k:Nat):YB sl a (.prow x y z t) (.own k)=(okV (.own k)&&Xm sl (Zr a) (Zl (.own k))):=rfl
@[go_sem] theorem Zuu (sl:Sl) (a:COp) (x y z t:Nat):YB sl a (.prow x y z t) .nil=(okV .nil&&Xm sl (Zr a) (Zl .nil)):=rfl
@[go_sem] theorem ZtO (sl:Sl) (a:COp) (x y z t:Nat):YB sl a (.prow x y z t) .nilp=(okV .nilp&&Xm sl (Zr a) (Zl .nilp)):=rfl
@[go_sem] theorem ZtP (sl:Sl) (a:COp) (x y z t:Nat) (k m n:Nat):YB sl a (.prow x y z t) (.ownv k m n)=(okV (.ownv k m n)&&Xm sl (Zr a) (Zl (.ownv k m n))):=rfl
@[go_sem] theorem ZtQ (sl:Sl) (a:COp) (k:Nat):seenSrc sl a (.own k)=Qy sl k (Zr a):=rfl
@[go_sem] theorem seenSrc_d (sl:Sl) (a:COp) (x:D):seenSrc sl a (.d x)=true:=rfl
@[go_sem] theorem ZtR (sl:Sl) (a:COp):seenSrc sl a .nil=true:=rfl
@[go_sem] theorem Zs5 (sl:Sl) (a:COp) (x y z:Nat):seenSrc sl a (.ownv x y z)=true:=rfl
@[go_sem] theorem okV_iteV (b:Bool) (v:AV):okV (ZcS b v)=(!b || okV v):=by cases b<;>simp[ZcS,okV]
@[go_sem] theorem awayV_d (sl:Sl) (xs:List Opd) (x:D):Jm sl xs (.d x)=true:=rfl
@[go_sem] theorem awayV_nil (sl:Sl) (xs:List Opd):Jm sl xs .nil=true:=rfl
@[go_sem] theorem Zuv (sl:Sl) (xs:List Opd):Jm sl xs .nilp=true:=rfl
@[go_sem] theorem awayV_ptr (sl:Sl) (xs:List Opd) (k o:Nat):Jm sl xs (.ptr k o)=Qy sl k xs:=rfl
@[go_sem] theorem awayV_pim (sl:Sl) (xs:List Opd) (cs:List D):Jm sl xs (.pim cs)=true:=rfl
@[go_sem] theorem awayV_own (sl:Sl) (xs:List Opd) (a:Nat):Jm sl xs (.own a)=true:=rfl
@[go_sem] theorem Zuw (sl:Sl) (xs:List Opd) (a b c:Nat):Jm sl xs (.ownv a b c)=true:=rfl
@[go_sem] theorem awayV_agg (sl:Sl) (xs:List Opd) (cs:List AV):Jm sl xs (.agg cs)=true:=rfl
@[go_sem] theorem awayV_tup (sl:Sl) (xs:List Opd) (cs:List AV):Jm sl xs (.tup cs)=true:=rfl
end Go.Abs.E
