/- The abstract semantics as rewriting rules: what must hold for a code to come to a state of which something is true. Own text. -/
import Derived.Test.YtemkonmgcoceaaaDoorAbsRun
set_option linter.unusedVariables false
set_option linter.unusedSimpArgs false
namespace Go.Abs.E
open Go Go.Abs
abbrev _root_.Go.Abs.Opd.i (n:Int):Opd:=.v (.d (.int .i64 n))
abbrev _root_.Go.Abs.Opd.b (x:Bool):Opd:=.v (.d (.bool x))
def stW {α:Type} (x:Option α) (K:α→Prop):Prop:=match x with
 | some a=>K a
 | none=>False
def gW (x:Option Bool) (A B:Prop):Prop:=match x with
 | some b=>(b=true→A)∧(b=false→B)
 | none=>False
def YZ (v:AV) (A B:Prop):Prop:=match v with
 | .d (.bool t)=>(t=true→A)∧(t=false→B)
 | _=>False
theorem Y7 {α:Type} (a:α) (K:α→Prop):stW (some a) K=K a:=rfl
theorem ZdC {α:Type} (K:α→Prop):stW none K=False:=rfl
theorem Ub {α β:Type} (x:Option α) (f:α→Option β) (K:β→Prop):stW (bnd x f) K=stW x fun a=>stW (f a) K:=by cases x<;>rfl
@[go_sem] theorem Zm8 (A B:Prop):gW (some true) A B=A:=by simp[gW]
@[go_sem] theorem gW_false (A B:Prop):gW (some false) A B=B:=by simp[gW]
@[go_sem] theorem gW_dec (p:Prop) [Decidable p] (A B:Prop):gW (some (decide p)) A B=((p→A)∧(¬p→B)):=by simp[gW]
@[go_sem] theorem gW_not (b:Bool) (A B:Prop):gW (some (!b)) A B=gW (some b) B A:=by cases b<;>simp[gW]
theorem gW_some (b:Bool) (A B:Prop):gW (some b) A B=((b=true→A)∧(b=false→B)):=rfl
@[go_sem] theorem Zrw (A B:Prop):YZ (.d (.bool true)) A B=A:=by simp[YZ]
@[go_sem] theorem ZqZ (A B:Prop):YZ (.d (.bool false)) A B=B:=by simp[YZ]
@[go_sem] theorem condW_dec (p:Prop) [Decidable p] (A B:Prop):YZ (.d (.bool (decide p))) A B=((p→A)∧(¬p→B)):=by simp[YZ]
@[go_sem] theorem condW_not (b:Bool) (A B:Prop):YZ (.d (.bool (!b))) A B=YZ (.d (.bool b)) B A:=by cases b<;>simp[YZ]
@[go_sem] theorem condW_and (a b:Bool) (A B:Prop):YZ (.d (.bool (a&&b))) A B=YZ (.d (.bool a)) (YZ (.d (.bool b)) A B) B:=by cases a<;>cases b<;>simp[YZ]
@[go_sem] theorem condW_or (a b:Bool) (A B:Prop):YZ (.d (.bool (a || b))) A B=YZ (.d (.bool a)) A (YZ (.d (.bool b)) A B):=by cases a<;>cases b<;>simp[YZ]
@[go_sem] theorem Zrx (b:Bool) (A B:Prop):YZ (.d (.bool b)) A B=((b=true→A)∧(b=false→B)):=rfl
@[congr] theorem gW_congr {x y:Option Bool} {A B:Prop} (h:x=y):gW x A B=gW y A B:=by rw[h]
@[congr] theorem Zq0 {v w:AV} {A B:Prop} (h:v=w):YZ v A B=YZ w A B:=by rw[h]
section
variable (X:Fns) (M:Zj)
noncomputable def Js (nx:Nat):Nat→List CO→Sl→Hp→(Sl→Hp→Prop)→Prop
 | _,[],sl,hp,K=>K sl hp
 | i,o :: rest,sl,hp,K=>gW (ZM sl o.guard)
   (stW (XE (nx+64*i) o.dst sl hp (vop (Zv X M) M sl hp (nx+64*i) o.op)) fun r=>Js nx (i+1) rest r.1 r.2 K)
   (Js nx (i+1) rest (Zl sl o.dst (.tup [])) hp K)
def W3 (nx i:Nat) (d:Option Nat) (rest:List CO) (sl:Sl) (hp:Hp) (K:Sl→Hp→Prop) (e:Option Zb):Prop:=
 stW (XE (nx+64*i) d sl hp e) fun r=>Js X M nx (i+1) rest r.1 r.2 K
@[go_sem] theorem opsW_nil (nx i:Nat) (sl:Sl) (hp:Hp) (K:Sl→Hp→Prop):Js X M nx i [] sl hp K=K sl hp:=rfl
@[go_sem] theorem opsW_cons (nx i:Nat) (d:Option Nat) (tl:Bool) (op:COp) (rest:List CO) (sl:Sl) (hp:Hp) (K:Sl→Hp→Prop) :
  Js X M nx i (⟨d,none,op,tl⟩ :: rest) sl hp K=W3 X M nx i d rest sl hp K (vop (Zv X M) M sl hp (nx+64*i) op):=by
 simp[Js,W3,ZM,Zm8]
def Zcb (b:Bool) (v:AV):AV:=if b then v else .tup []
def VS (b:Bool) (nx i:Nat) (d:Option Nat) (rest:List CO) (sl:Sl) (hp:Hp) (K:Sl→Hp→Prop) (e:Option Zb):Prop:=
 gW (some b) (W3 X M nx i d rest sl hp K e) (Js X M nx (i+1) rest (Zl sl d (.tup [])) hp K)
def Zju (g:Option Bool) (nx i:Nat) (d:Option Nat) (op:COp) (rest:List CO) (sl:Sl) (hp:Hp) (K:Sl→Hp→Prop):Prop:=
 gW g (W3 X M nx i d rest sl hp K (vop (Zv X M) M sl hp (nx+64*i) op)) (Js X M nx (i+1) rest (Zl sl d (.tup [])) hp K)
@[go_sem] theorem Zry (nx i g:Nat) (w:Bool) (d:Option Nat) (tl:Bool) (op:COp) (rest:List CO) (sl:Sl) (hp:Hp) (K:Sl→Hp→Prop) :
  Js X M nx i (⟨d,some (g,w),op,tl⟩ :: rest) sl hp K=Zju X M (ZaJ w (gs sl g)) nx i d op rest sl hp K:=rfl
@[go_sem] theorem Zq1 (b:Bool) (nx i:Nat) (d:Option Nat) (op:COp) (rest:List CO) (sl:Sl) (hp:Hp) (K:Sl→Hp→Prop) :
  Zju X M (some b) nx i d op rest sl hp K=VS X M b nx i d rest sl hp K (vop (Zv X M) M sl hp (nx+64*i) op):=rfl
@[go_sem] theorem gA (nx i:Nat) (d:Option Nat) (rest:List CO) (sl:Sl) (hp:Hp) (K:Sl→Hp→Prop) (e:Option Zb) :
  VS X M true nx i d rest sl hp K e=W3 X M nx i d rest sl hp K e:=by simp[VS,gW]
@[go_sem] theorem gB (nx i:Nat) (d:Option Nat) (rest:List CO) (sl:Sl) (hp:Hp) (K:Sl→Hp→Prop) (e:Option Zb) :
  VS X M false nx i d rest sl hp K e=Js X M nx (i+1) rest (Zl sl d (.tup [])) hp K:=by simp[VS,gW]
@[go_sem] theorem Zjv (b:Bool) (nx i:Nat) (d:Option Nat) (rest:List CO) (sl:Sl) (hp:Hp) (K:Sl→Hp→Prop) (v:AV) :
  VS X M b nx i d rest sl hp K (Ql v)=Js X M nx (i+1) rest (Zl sl d (Zcb b v)) hp K:=by
 cases b
 ·simp[VS,gW,Zcb]
 ·simp only[VS,gW,Zcb,if_true,true_implies,Bool.true_eq_false,false_implies,and_true];rfl
@[go_sem] theorem Zq2 (b:Bool) (nx i:Nat) (d:Option Nat) (rest:List CO) (sl:Sl) (hp:Hp) (K:Sl→Hp→Prop) (v:AV) :
  VS X M b nx i d rest sl hp K (some { eff := { val:=v,adds:=[],sets:=[],dels:=[],frz:=[] },gone:=[] })=Js X M nx (i+1) rest (Zl sl d (Zcb b v)) hp K:=Zjv X M b nx i d rest sl hp K v
@[congr] theorem Zql {g g' : Option Bool} {nx i:Nat} {d:Option Nat} {op:COp} {rest:List CO} {sl:Sl} {hp:Hp} {K:Sl→Hp→Prop} (h:g=g') :
  Zju X M g nx i d op rest sl hp K=Zju X M g' nx i d op rest sl hp K:=by rw[h]
@[congr] theorem Zqm {b b' : Bool} {nx i:Nat} {d:Option Nat} {rest:List CO} {sl:Sl} {hp:Hp} {K:Sl→Hp→Prop} {e e' : Option Zb} (hb:b=b') (h:b'=true→e=e') :
  VS X M b nx i d rest sl hp K e=VS X M b' nx i d rest sl hp K e':=by
 subst hb
 cases b
 ·simp[VS,gW]
 ·rw[h rfl]
@[go_sem] theorem Zq3 (nx i:Nat) (d:Option Nat) (rest:List CO) (sl:Sl) (hp:Hp) (K:Sl→Hp→Prop) (v:AV) :
  W3 X M nx i d rest sl hp K (Ql v)=Js X M nx (i+1) rest (Zl sl d v) hp K:=rfl
@[go_sem] theorem Zrz (nx i:Nat) (d:Option Nat) (rest:List CO) (sl:Sl) (hp:Hp) (K:Sl→Hp→Prop) (v:AV) :
  W3 X M nx i d rest sl hp K (some { eff := { val:=v,adds:=[],sets:=[],dels:=[],frz:=[] },gone:=[] })=Js X M nx (i+1) rest (Zl sl d v) hp K:=rfl
@[go_sem] theorem ZrA (nx i:Nat) (d:Option Nat) (rest:List CO) (sl:Sl) (hp:Hp) (K:Sl→Hp→Prop) (e:Zb) :
  W3 X M nx i d rest sl hp K (some e)=(Qs (nx+64*i) (nx+64*i+64) e.eff.adds=true∧Js X M nx (i+1) rest (Zl (QJ e.gone sl) d e.eff.val) (e.eff.on (XM e.gone hp)) K):=by
 unfold W3 XE
 rw[Zd]
 split<;>rename_i h
 ·simp only[Y7,h,true_and];rfl
 ·simp only[ZdC,h,false_and,Bool.false_eq_true]
@[go_sem] theorem ZrB (nx i:Nat) (d:Option Nat) (rest:List CO) (sl:Sl) (hp:Hp) (K:Sl→Hp→Prop):W3 X M nx i d rest sl hp K none=False:=rfl
@[go_sem] theorem stepW_ite (nx i:Nat) (d:Option Nat) (rest:List CO) (sl:Sl) (hp:Hp) (K:Sl→Hp→Prop) (c:Prop) [Decidable c] (a b:Option Zb) :
  W3 X M nx i d rest sl hp K (if c then a else b)=((c→W3 X M nx i d rest sl hp K a)∧(¬c→W3 X M nx i d rest sl hp K b)):=by
 by_cases h:c<;>simp[h]
noncomputable def Yd (nx:Nat):Nat→Bool→List CO→Sl→Hp→(Sl→Hp→Prop)→Prop
 | _,_,[],sl,hp,K=>K sl hp
 | i,tail,o :: rest,sl,hp,K=>gW (ZM sl o.guard)
   (stW (XE (nx+64*i) o.dst sl hp (Yw (Zv X M) M nx i (CO.starts o) o.op sl hp)) fun r=>Yd nx (i+1) tail rest r.1 r.2 K)
   (Yd nx (i+1) tail rest (Zl sl o.dst (.tup [])) hp K)
def Y3 (nx i:Nat) (t:Bool) (d:Option Nat) (rest:List CO) (sl:Sl) (hp:Hp) (K:Sl→Hp→Prop) (e:Option Zb):Prop:=
 stW (XE (nx+64*i) d sl hp (if t then e else UZ e)) fun r=>Yd X M nx (i+1) false rest r.1 r.2 K
@[go_sem] theorem opsDW_nil (nx i:Nat) (t:Bool) (sl:Sl) (hp:Hp) (K:Sl→Hp→Prop):Yd X M nx i t [] sl hp K=K sl hp:=rfl
@[go_sem] theorem ZrC (nx i:Nat) (d:Option Nat) (tl:Bool) (op:COp) (rest:List CO) (sl:Sl) (hp:Hp) (K:Sl→Hp→Prop) :
  Yd X M nx i false (⟨d,none,op,tl⟩ :: rest) sl hp K=Y3 X M nx i (Zb0 op || tl) d rest sl hp K (vop (Zv X M) M sl hp (nx+64*i) op):=by
 simp[Yd,Y3,ZM,Zm8,Yw,CO.starts]
def Yr (b:Bool) (nx i:Nat) (t:Bool) (d:Option Nat) (rest:List CO) (sl:Sl) (hp:Hp) (K:Sl→Hp→Prop) (e:Option Zb):Prop:=
 gW (some b) (Y3 X M nx i t d rest sl hp K e) (Yd X M nx (i+1) false rest (Zl sl d (.tup [])) hp K)
def ZfJ (g:Option Bool) (nx i:Nat) (t:Bool) (d:Option Nat) (op:COp) (rest:List CO) (sl:Sl) (hp:Hp) (K:Sl→Hp→Prop):Prop:=
 gW g (Y3 X M nx i t d rest sl hp K (vop (Zv X M) M sl hp (nx+64*i) op)) (Yd X M nx (i+1) false rest (Zl sl d (.tup [])) hp K)
@[go_sem] theorem Zq4 (nx i g:Nat) (w:Bool) (d:Option Nat) (tl:Bool) (op:COp) (rest:List CO) (sl:Sl) (hp:Hp) (K:Sl→Hp→Prop) :
  Yd X M nx i false (⟨d,some (g,w),op,tl⟩ :: rest) sl hp K=ZfJ X M (ZaJ w (gs sl g)) nx i (Zb0 op || tl) d op rest sl hp K:=rfl
@[go_sem] theorem Zqn (b:Bool) (nx i:Nat) (t:Bool) (d:Option Nat) (op:COp) (rest:List CO) (sl:Sl) (hp:Hp) (K:Sl→Hp→Prop) :
  ZfJ X M (some b) nx i t d op rest sl hp K=Yr X M b nx i t d rest sl hp K (vop (Zv X M) M sl hp (nx+64*i) op):=rfl
@[go_sem] theorem gC (nx i:Nat) (t:Bool) (d:Option Nat) (rest:List CO) (sl:Sl) (hp:Hp) (K:Sl→Hp→Prop) (e:Option Zb) :
  Yr X M true nx i t d rest sl hp K e=Y3 X M nx i t d rest sl hp K e:=by simp[Yr,gW]
@[go_sem] theorem gD (nx i:Nat) (t:Bool) (d:Option Nat) (rest:List CO) (sl:Sl) (hp:Hp) (K:Sl→Hp→Prop) (e:Option Zb) :
  Yr X M false nx i t d rest sl hp K e=Yd X M nx (i+1) false rest (Zl sl d (.tup [])) hp K:=by simp[Yr,gW]
@[go_sem] theorem ZhS (b:Bool) (nx i:Nat) (t:Bool) (d:Option Nat) (rest:List CO) (sl:Sl) (hp:Hp) (K:Sl→Hp→Prop) (v:AV) :
  Yr X M b nx i t d rest sl hp K (Ql v)=Yd X M nx (i+1) false rest (Zl sl d (Zcb b v)) hp K:=by
 cases b
 ·simp[Yr,gW,Zcb]
 ·simp only[Yr,gW,Zcb,if_true,true_implies,Bool.true_eq_false,false_implies,and_true];cases t<;>rfl
@[go_sem] theorem Zqo (b:Bool) (nx i:Nat) (t:Bool) (d:Option Nat) (rest:List CO) (sl:Sl) (hp:Hp) (K:Sl→Hp→Prop) (v:AV) :
  Yr X M b nx i t d rest sl hp K (some { eff := { val:=v,adds:=[],sets:=[],dels:=[],frz:=[] },gone:=[] })=Yd X M nx (i+1) false rest (Zl sl d (Zcb b v)) hp K:=ZhS X M b nx i t d rest sl hp K v
@[congr] theorem ZpT {g g' : Option Bool} {nx i:Nat} {t t' : Bool} {d:Option Nat} {op:COp} {rest:List CO} {sl:Sl} {hp:Hp} {K:Sl→Hp→Prop} (h:g=g') (ht:t=t') :
  ZfJ X M g nx i t d op rest sl hp K=ZfJ X M g' nx i t' d op rest sl hp K:=by rw[h,ht]
@[congr] theorem ZpU {b b' : Bool} {nx i:Nat} {t:Bool} {d:Option Nat} {rest:List CO} {sl:Sl} {hp:Hp} {K:Sl→Hp→Prop} {e e' : Option Zb} (hb:b=b') (h:b'=true→e=e') :
  Yr X M b nx i t d rest sl hp K e=Yr X M b' nx i t d rest sl hp K e':=by
 subst hb
 cases b
 ·simp[Yr,gW]
 ·rw[h rfl]
@[go_sem] theorem Zqp (nx i:Nat) (t:Bool) (d:Option Nat) (rest:List CO) (sl:Sl) (hp:Hp) (K:Sl→Hp→Prop) (v:AV) :
  Y3 X M nx i t d rest sl hp K (Ql v)=Yd X M nx (i+1) false rest (Zl sl d v) hp K:=by cases t<;>rfl
@[go_sem] theorem Zq5 (nx i:Nat) (t:Bool) (d:Option Nat) (rest:List CO) (sl:Sl) (hp:Hp) (K:Sl→Hp→Prop) (v:AV) :
  Y3 X M nx i t d rest sl hp K (some { eff := { val:=v,adds:=[],sets:=[],dels:=[],frz:=[] },gone:=[] })=Yd X M nx (i+1) false rest (Zl sl d v) hp K:=by cases t<;>rfl
@[go_sem] theorem Zq6 (nx i:Nat) (t:Bool) (d:Option Nat) (rest:List CO) (sl:Sl) (hp:Hp) (K:Sl→Hp→Prop) (e:Zb) :
  Y3 X M nx i t d rest sl hp K (some e)=((t=false→ZaN e e.gone e.eff.sets e.eff.dels e.eff.frz=some e)∧Qs (nx+64*i) (nx+64*i+64) e.eff.adds=true∧Yd X M nx (i+1) false rest (Zl (QJ e.gone sl) d e.eff.val) (e.eff.on (XM e.gone hp)) K):=by
 have key:stW (XE (nx+64*i) d sl hp (some e)) (fun r=>Yd X M nx (i+1) false rest r.1 r.2 K)=(Qs (nx+64*i) (nx+64*i+64) e.eff.adds=true∧Yd X M nx (i+1) false rest (Zl (QJ e.gone sl) d e.eff.val) (e.eff.on (XM e.gone hp)) K):=by
  unfold XE
  rw[Zd]
  split<;>rename_i h
  ·simp only[Y7,h,true_and];rfl
  ·simp only[ZdC,h,false_and,Bool.false_eq_true]
 unfold Y3
 cases t with
 | true=>simp only[if_true];rw[key];simp
 | false=>
  simp only[Bool.false_eq_true,if_false,UZ,Zd,true_implies]
  unfold ZaN
  split
  ·rw[key];simp
  ·simp[XE,bnd,stW]
@[go_sem] theorem Zq7 (nx i:Nat) (t:Bool) (d:Option Nat) (rest:List CO) (sl:Sl) (hp:Hp) (K:Sl→Hp→Prop):Y3 X M nx i t d rest sl hp K none=False:=by cases t<;>rfl
@[go_sem] theorem ZrD (nx i:Nat) (t:Bool) (d:Option Nat) (rest:List CO) (sl:Sl) (hp:Hp) (K:Sl→Hp→Prop) (c:Prop) [Decidable c] (a b:Option Zb) :
  Y3 X M nx i t d rest sl hp K (if c then a else b)=((c→Y3 X M nx i t d rest sl hp K a)∧(¬c→Y3 X M nx i t d rest sl hp K b)):=by
 by_cases h:c<;>simp[h]
@[go_sem] theorem quietC_ok (c:Zb):ZaN c [] [] [] []=some c:=rfl
def W (c:Zp) (st:St) (Q:Ex→St→Prop):Prop:=stW (Qm X M c st) fun r=>Q r.1 r.2
@[congr] theorem W_congr {c:Zp} {st st' : St} {Q:Ex→St→Prop} (h:st=st'):W X M c st Q=W X M c st' Q:=by rw[h]
@[congr] theorem ZrE {rest:List CO} {nx nx' i i' : Nat} {sl sl' : Sl} {hp hp' : Hp} {K:Sl→Hp→Prop} (hn:nx=nx') (hi:i=i') (h:sl=sl') (h' : hp=hp') :
  Js X M nx i rest sl hp K=Js X M nx' i' rest sl' hp' K:=by rw[h,h',hn,hi]
@[congr] theorem Zq8 {rest:List CO} {nx nx' i i' : Nat} {t t' : Bool} {sl sl' : Sl} {hp hp' : Hp} {K:Sl→Hp→Prop} (hn:nx=nx') (hi:i=i') (ht:t=t') (h:sl=sl') (h' : hp=hp') :
  Yd X M nx i t rest sl hp K=Yd X M nx' i' t' rest sl' hp' K:=by rw[h,h',ht,hn,hi]
@[congr] theorem Zq9 {rest:List CO} {nx i:Nat} {d:Option Nat} {sl:Sl} {hp:Hp} {K:Sl→Hp→Prop} {e e' : Option Zb} (h:e=e') :
  W3 X M nx i d rest sl hp K e=W3 X M nx i d rest sl hp K e':=by rw[h]
@[congr] theorem Zqq {rest:List CO} {nx i:Nat} {t t' : Bool} {d:Option Nat} {sl:Sl} {hp:Hp} {K:Sl→Hp→Prop} {e e' : Option Zb} (ht:t=t') (h:e=e') :
  Y3 X M nx i t d rest sl hp K e=Y3 X M nx i t' d rest sl hp K e':=by rw[h,ht]
theorem Zqr (nx:Nat) (K:Sl→Hp→Prop):∀ (l:List CO) (i:Nat) (sl:Sl) (hp:Hp),Js X M nx i l sl hp K=stW (Zad (Zv X M) M nx i l sl hp) fun r=>K r.1 r.2:=by
 intro l
 induction l with
 | nil=>intro i sl hp;rfl
 | cons o rest ih=>
  intro i sl hp
  simp only[Js,Zad,ih,Ub]
  cases ZM sl o.guard with
  | none=>rfl
  | some b=>cases b<;>simp[gW,Ub,Y7]
theorem Zpi (nx:Nat) (K:Sl→Hp→Prop):∀ (l:List CO) (i:Nat) (t:Bool) (sl:Sl) (hp:Hp),Yd X M nx i t l sl hp K=stW (Va (Zv X M) M nx i t l sl hp) fun r=>K r.1 r.2:=by
 intro l
 induction l with
 | nil=>intro i t sl hp;rfl
 | cons o rest ih=>
  intro i t sl hp
  simp only[Yd,Va,ih,Ub]
  cases ZM sl o.guard with
  | none=>rfl
  | some b=>cases b<;>simp[gW,Ub,Y7]
def Zn7 (m nx:Nat) (Q:Ex→St→Prop) (sl:Sl) (hp:Hp):Prop:=Q .normal { sl:=sl,hp:=hp,nx:=nx,m:=m }
def ZkO (ops:List CO) (ps:List (Nat×Nat)) (K:Sl→Hp→Prop) (sl:Sl) (hp:Hp):Prop:=Vi ops sl ps=true∧K sl hp
@[go_sem] theorem regQ_eq (m nx:Nat) (Q:Ex→St→Prop) (sl:Sl) (hp:Hp):Zn7 m nx Q sl hp=Q .normal { sl:=sl,hp:=hp,nx:=nx,m:=m }:=rfl
@[go_sem] theorem seenQ_eq (ops:List CO) (ps:List (Nat×Nat)) (K:Sl→Hp→Prop) (sl:Sl) (hp:Hp):ZkO ops ps K sl hp=(Vi ops sl ps=true∧K sl hp):=rfl
@[go_sem] theorem W_skip (st:St) (Q:Ex→St→Prop):W X M .skip st Q=Q .normal st:=by simp[W,Zmz,Y7]
@[go_sem] theorem W_ret (st:St) (Q:Ex→St→Prop):W X M .ret st Q=Q .ret st:=by simp[W,Zop,Y7]
@[go_sem] theorem W_exit (id:Nat) (st:St) (Q:Ex→St→Prop):W X M (.exit id) st Q=Q (.exit id) st:=by simp[W,ZmA,Y7]
@[go_sem] theorem W_stuck (st:St) (Q:Ex→St→Prop):W X M .stuck st Q=False:=by
 have h:Qm X M .stuck st=none:=XY fun n=>by simp only[Zw]
 simp only[W,h,ZdC]
@[go_sem] theorem W_region (n:Nat) (ops:List CO) (st:St) (Q:Ex→St→Prop) :
  W X M (.region n none ops) st Q=Js X M st.nx 0 ops st.sl st.hp (Zn7 st.m (st.nx+64*n) Q):=by
 rw[Zqr,W,ZjS,ZdS,Ub];rfl
theorem Zpj (n:Nat) (ps:List (Nat×Nat)) (ops:List CO) (st:St) (Q:Ex→St→Prop) :
  W X M (.region n (some ps) ops) st Q=Yd X M st.nx 0 false ops st.sl st.hp (ZkO ops ps (Zn7 st.m (st.nx+64*n) Q)):=by
 rw[Zpi,W,ZmB,ZdS,Ub,Zhb,Ub]
 congr 1
 funext r
 by_cases h:Vi ops r.1 ps=true<;>simp[h,ZkO,Y7,ZdC,Zn7]
@[go_sem] theorem W_draw0 (n:Nat) (ops:List CO) (st:St) (Q:Ex→St→Prop) :
  W X M (.region n (some []) ops) st Q=Yd X M st.nx 0 false ops st.sl st.hp (Zn7 st.m (st.nx+64*n) Q):=by
 rw[Zpj]
 congr 1
 funext sl hp
 simp[ZkO,Vi]
@[go_sem] theorem W_drawc (n:Nat) (p:Nat×Nat) (ps:List (Nat×Nat)) (ops:List CO) (st:St) (Q:Ex→St→Prop) :
  W X M (.region n (some (p :: ps)) ops) st Q=Yd X M st.nx 0 false ops st.sl st.hp (ZkO ops (p :: ps) (Zn7 st.m (st.nx+64*n) Q)):=Zpj X M n _ ops st Q
def Zm9 (c:Zp) (Q:Ex→St→Prop):Ex→St→Prop
 | .normal,st=>W X M c st Q
 | e,st=>Q e st
def blkQ (id:Nat) (Q:Ex→St→Prop):Ex→St→Prop
 | .exit j,st=>if j=id then Q .normal st else Q (.exit j) st
 | e,st=>Q e st
@[go_sem] theorem Zqs (c:Zp) (Q:Ex→St→Prop) (st:St):Zm9 X M c Q .normal st=W X M c st Q:=rfl
@[go_sem] theorem thenQ_ret (c:Zp) (Q:Ex→St→Prop) (st:St):Zm9 X M c Q .ret st=Q .ret st:=rfl
@[go_sem] theorem ZrF (c:Zp) (Q:Ex→St→Prop) (id:Nat) (st:St):Zm9 X M c Q (.exit id) st=Q (.exit id) st:=rfl
@[go_sem] theorem Zra (id:Nat) (Q:Ex→St→Prop) (st:St):blkQ id Q .normal st=Q .normal st:=rfl
@[go_sem] theorem blkQ_ret (id:Nat) (Q:Ex→St→Prop) (st:St):blkQ id Q .ret st=Q .ret st:=rfl
@[go_sem] theorem blkQ_exit (id j:Nat) (Q:Ex→St→Prop) (st:St):blkQ id Q (.exit j) st=if j=id then Q .normal st else Q (.exit j) st:=rfl
@[go_sem] theorem W_seq (a b:Zp) (st:St) (Q:Ex→St→Prop):W X M (.seq a b) st Q=W X M a st (Zm9 X M b Q):=by
 unfold W
 rw[Zoq]
 cases h:Qm X M a st with
 | none=>rfl
 | some r=>obtain⟨e,st'⟩:=r;cases e<;>rfl
@[go_sem] theorem W_cond (c:Opd) (a b:Zp) (st:St) (Q:Ex→St→Prop) :
  W X M (.cond c a b) st Q=YZ (evO st.sl c) (W X M a st Q) (W X M b st Q):=by
 unfold W
 rw[ZmC]
 cases h:evO st.sl c with
 | d x=>cases x with
  | bool t=>cases t<;>simp[ZbA,YZ]
  | _=>rfl
 | _=>rfl
@[go_sem] theorem W_block (id:Nat) (c:Zp) (st:St) (Q:Ex→St→Prop):W X M (.block id c) st Q=W X M c st (blkQ id Q):=by
 unfold W
 rw[Zlc]
 cases h:Qm X M c st with
 | none=>rfl
 | some r=>
  obtain⟨e,st'⟩:=r
  cases e with
  | exit j=>by_cases hj:j=id<;>simp[Za3,hj,Y7,blkQ]
  | normal=>rfl
  | ret=>rfl
def keepQ (K:List Nat) (Q:Ex→St→Prop) (e:Ex) (st:St):Prop:=Q e { sl:=only K st.sl,hp:=st.hp,nx:=st.nx,m:=st.m }
@[go_sem] theorem keepQ_eq (K:List Nat) (Q:Ex→St→Prop) (e:Ex) (st:St):keepQ K Q e st=Q e { sl:=only K st.sl,hp:=st.hp,nx:=st.nx,m:=st.m }:=rfl
@[go_sem] theorem W_keep (K:List Nat) (c:Zp) (st:St) (Q:Ex→St→Prop):W X M (.keep K c) st Q=W X M c st (keepQ K Q):=by
 unfold W
 rw[ZmD]
 cases h:Qm X M c st with
 | none=>rfl
 | some r=>rfl
def ZgI (c:Zp) (Q:Ex→St→Prop) (r:Option St):Prop:=stW r fun st=>W X M c st Q
@[go_sem] theorem ZrG (c:Zp) (Q:Ex→St→Prop) (st:St):ZgI X M c Q (some st)=W X M c st Q:=rfl
@[go_sem] theorem ZrH (c:Zp) (Q:Ex→St→Prop):ZgI X M c Q none=False:=rfl
@[go_sem] theorem linkW_ite (c:Zp) (Q:Ex→St→Prop) (p:Prop) [Decidable p] (a b:Option St):ZgI X M c Q (if p then a else b)=((p→ZgI X M c Q a)∧(¬p→ZgI X M c Q b)):=by
 by_cases h:p<;>simp[h]
@[go_sem] theorem W_link (id:Nat) (i:Opd) (j:Nat) (c:Zp) (st:St) (Q:Ex→St→Prop):W X M (.link id i j c) st Q=ZgI X M c Q (JB id i j st):=by
 unfold W ZgI
 rw[ZmE]
 cases h:JB id i j st<;>rfl
@[go_sem] theorem W_melt (c:Zp) (st:St) (Q:Ex→St→Prop):W X M (.melt c) st Q=W X M c { sl:=st.sl,hp:=Zca US st.hp,nx:=st.nx,m:=st.m } Q:=by
 unfold W
 rw[ZmF];rfl
def LW (c:Zp) (K:List Nat) (st:St) (Q:Ex→St→Prop):Prop:=stW (ZbC X M c K st) fun r=>Q r.1 r.2
@[congr] theorem LW_congr {c:Zp} {K K' : List Nat} {st st' : St} {Q:Ex→St→Prop} (hk:K=K') (h:st=st'):LW X M c K st Q=LW X M c K' st' Q:=by rw[h,hk]
@[go_sem] theorem W_loop (c:Zp) (st:St) (Q:Ex→St→Prop):W X M (.loop c) st Q=LW X M c (ZcX st.sl) st Q:=by
 unfold W LW;rw[ZmG]
def Zit (c:Zp) (K:List Nat) (Q:Ex→St→Prop):Ex→St→Prop
 | .normal,st=>LW X M c K st Q
 | e,st=>Q e st
@[go_sem] theorem Zqt (c:Zp) (K:List Nat) (Q:Ex→St→Prop) (st:St):Zit X M c K Q .normal st=LW X M c K st Q:=rfl
@[go_sem] theorem nextQ_ret (c:Zp) (K:List Nat) (Q:Ex→St→Prop) (st:St):Zit X M c K Q .ret st=Q .ret st:=rfl
@[go_sem] theorem ZrI (c:Zp) (K:List Nat) (Q:Ex→St→Prop) (id:Nat) (st:St):Zit X M c K Q (.exit id) st=Q (.exit id) st:=rfl
theorem Q8 {c:Zp} {K:List Nat} {st:St} {Q:Ex→St→Prop} (h:W X M c (Y0 K st) (Zit X M c K Q)):LW X M c K st Q:=by
 unfold W at h
 cases hv:Qm X M c (Y0 K st) with
 | none=>rw[hv] at h;exact h.elim
 | some r=>
  rw[hv] at h
  obtain⟨e,st'⟩:=r
  unfold LW
  cases e with
  | normal=>rw[Zld X M hv];exact h
  | exit id=>rw[Zhc X M (by simp) hv];exact h
  | ret=>rw[Zhc X M (by simp) hv];exact h
def ZkP (sl:Sl):Sl→Sl
 | []=>sl
 | (k,v) :: r=>ZkP (ins sl k v) r
def ZgJ (hp:Hp):Hp→Hp
 | []=>hp
 | (k,o) :: r=>ZgJ (ins hp k o) r
theorem LW_ind {α:Type} (S:α→St) (I:α→Prop) (μ:α→Nat) {c:Zp} {K:List Nat} {Q:Ex→St→Prop}
  (step:∀ a,I a→(∀ b st,I b→μ b<μ a→Y0 K st=S b→LW X M c K st Q)→W X M c (S a) (Zit X M c K Q)) :
  ∀ a st,I a→Y0 K st=S a→LW X M c K st Q:=by
 have key:∀ n a st,μ a=n→I a→Y0 K st=S a→LW X M c K st Q:=by
  intro n
  induction n using Nat.strongRecOn with
  | ind n ih=>
   intro a st hn ha hs
   refine Q8 X M ?_
   rw[hs]
   exact step a ha fun b st' hb hlt hs'=>ih (μ b) (by omega) b st' rfl hb hs'
 exact fun a st ha hs=>key _ a st rfl ha hs
theorem VT {α:Type} (u:α→Sl) (uh:α→Hp) (I:α→Prop) (μ:α→Nat) (a:α) {c:Zp} {K:List Nat} {Q:Ex→St→Prop} {st st0:St}
  (hc:Y0 K st=st0) (ha:I a) (h0:(⟨ZkP st0.sl (u a),ZgJ st0.hp (uh a),st0.nx,st0.m⟩:St)=st0)
  (step:∀ a,I a→(∀ b st,I b→μ b<μ a→Y0 K st=⟨ZkP st0.sl (u b),ZgJ st0.hp (uh b),st0.nx,st0.m⟩→LW X M c K st Q)→W X M c ⟨ZkP st0.sl (u a),ZgJ st0.hp (uh a),st0.nx,st0.m⟩ (Zit X M c K Q)) :
  LW X M c K st Q:=
 LW_ind X M (fun a=>⟨ZkP st0.sl (u a),ZgJ st0.hp (uh a),st0.nx,st0.m⟩) I μ step a st ha (hc.trans h0.symm)
def Zme (m:Nat) (rs:List ZhX) (R:AV×List Zi→Prop):Ex→St→Prop:=fun e st=>stW (WU m rs (some (e,st))) R
def resW (m:Nat) (hp:Hp) (R:AV×List Zi→Prop) (vs:Option (List AV)):Prop:=stW vs fun vs=>R (XX m hp (W7 vs))
@[go_sem] theorem resW_some (m:Nat) (hp:Hp) (R:AV×List Zi→Prop) (vs:List AV):resW m hp R (some vs)=R (XX m hp (W7 vs)):=rfl
@[go_sem] theorem resW_none (m:Nat) (hp:Hp) (R:AV×List Zi→Prop):resW m hp R none=False:=rfl
@[go_sem] theorem endQ_ret (m:Nat) (rs:List ZhX) (R:AV×List Zi→Prop) (st:St):Zme m rs R .ret st=resW m st.hp R (Qh (ZfE st) rs):=by
 simp only[Zme,WU,Ub];rfl
@[go_sem] theorem Zrb (m:Nat) (rs:List ZhX) (R:AV×List Zi→Prop) (st:St):Zme m rs R .normal st=resW m st.hp R (Qh (ZfE st) rs):=by
 simp only[Zme,WU,Ub];rfl
theorem callW {f:Nat} {as:List AV} {h:List Zi} (fn:QK) {R:AV×List Zi→Prop} (hx:X f=some (.text fn)) (hl:as.length≤fn.nt)
  (hr:W X M fn.body { sl:=YI 0 as,hp:=Yj 0 h,nx:=h.length,m:=h.length } (Zme h.length fn.res R)):∃ r,Zv X M f as h=some r∧R r:=by
 unfold W at hr
 cases hv:Qm X M fn.body { sl:=YI 0 as,hp:=Yj 0 h,nx:=h.length,m:=h.length } with
 | none=>rw[hv] at hr;exact hr.elim
 | some q=>
  rw[hv] at hr
  obtain⟨e,st⟩:=q
  simp only[Y7,Zme] at hr
  cases hk:WU h.length fn.res (some (e,st)) with
  | none=>rw[hk] at hr;exact hr.elim
  | some r=>rw[hk] at hr;exact⟨r,ZpC X M hx hl (by rw[hv];exact hk),hr⟩
theorem Zo {f:Nat} {as:List AV} {h:List Zi} (fn:QK) {r:AV×List Zi} (hx:X f=some (.text fn)) (hl:as.length≤fn.nt)
  (hr:W X M fn.body { sl:=YI 0 as,hp:=Yj 0 h,nx:=h.length,m:=h.length } (Zme h.length fn.res fun q=>q=r)):Zv X M f as h=some r:=by
 obtain⟨q,hq,rfl⟩:=callW X M fn hx hl hr
 exact hq
end
@[go_sem] theorem vopE_move (C:Orc) (M:Zj) (sl:Sl) (hp:Hp) (base:Nat) (x:Opd):vop C M sl hp base (.move x)=Ql (evO sl x):=by simp only[vop]
@[go_sem] theorem Zrc (C:Orc) (M:Zj) (sl:Sl) (hp:Hp) (base:Nat) (s:Option Nat) (x:Opd):vop C M sl hp base (.assign s x)=Je base s (evO sl x):=by simp only[vop]
@[go_sem] theorem vopE_pick (C:Orc) (M:Zj) (sl:Sl) (hp:Hp) (base:Nat) (c a b:Opd):vop C M sl hp base (.pick c a b)=Za2 (evO sl a) (evO sl b) (evO sl c):=by simp only[vop]
@[go_sem] theorem ZrJ (C:Orc) (M:Zj) (sl:Sl) (hp:Hp) (base:Nat) (slc:List (Option Nat)) (cs:List AV):vop C M sl hp base (.alloc slc cs)=ZaA slc base cs:=by simp only[vop]
@[go_sem] theorem vopE_box (C:Orc) (M:Zj) (sl:Sl) (hp:Hp) (base:Nat) (x:Opd):vop C M sl hp base (.box x)=Zmk base (evO sl x):=by simp only[vop]
@[go_sem] theorem ZrK (C:Orc) (M:Zj) (sl:Sl) (hp:Hp) (base:Nat) (zs:List AV) (ps:List (Nat×Nat×Opd)):vop C M sl hp base (.build zs ps)=ZgR zs (evP sl ps):=by simp only[vop]
@[go_sem] theorem Zqu (C:Orc) (M:Zj) (sl:Sl) (hp:Hp) (base:Nat) (s:Nat) (xs:List Opd):vop C M sl hp base (.buildSl s xs)=buildSl hp base s (evL sl xs):=by simp only[vop]
@[go_sem] theorem vopE_load (C:Orc) (M:Zj) (sl:Sl) (hp:Hp) (base:Nat) (g:Bool) (s:Nat) (a:Opd):vop C M sl hp base (.load g s a)=Yf (Y9 hp g s (evO sl a)):=by simp only[vop]
@[go_sem] theorem ZrL (C:Orc) (M:Zj) (sl:Sl) (hp:Hp) (base:Nat) (slc:List (Option Nat)) (s:Nat) (a x:Opd):vop C M sl hp base (.store slc s a x)=Za4 (Wm hp slc s base (evO sl x).cells (evO sl a)):=by simp only[vop]
@[go_sem] theorem ZpV (C:Orc) (M:Zj) (sl:Sl) (hp:Hp) (base:Nat) (x:Opd):vop C M sl hp base (.nilCheck x)=VY (evO sl x):=by simp only[vop]
@[go_sem] theorem vopE_bin (C:Orc) (M:Zj) (sl:Sl) (hp:Hp) (base:Nat) (op:BinOp) (eq:Bool) (x y:Opd):vop C M sl hp base (.bin op eq x y)=ZfB op eq (evO sl x) (evO sl y):=by simp only[vop]
@[go_sem] theorem vopE_un (C:Orc) (M:Zj) (sl:Sl) (hp:Hp) (base:Nat) (op:UnOp) (x:Opd):vop C M sl hp base (.un op x)=Yf (vun op (evO sl x)):=by simp only[vop]
@[go_sem] theorem vopE_eqA (C:Orc) (M:Zj) (sl:Sl) (hp:Hp) (base:Nat) (neg:Bool) (ks:List Nat) (x y:Opd):vop C M sl hp base (.eqA neg ks x y)=ZhU neg ks (evO sl x) (evO sl y):=by simp only[vop]
@[go_sem] theorem ZrM (C:Orc) (M:Zj) (sl:Sl) (hp:Hp) (base:Nat) (k:IntKind) (x:Opd):vop C M sl hp base (.convI k x)=convI k (evO sl x):=by simp only[vop]
@[go_sem] theorem ZrN (C:Orc) (M:Zj) (sl:Sl) (hp:Hp) (base:Nat) (x:Opd):vop C M sl hp base (.convS x)=convS (evO sl x):=by simp only[vop]
@[go_sem] theorem vopE_fn (C:Orc) (M:Zj) (sl:Sl) (hp:Hp) (base:Nat) (f:Nat) (cs:List Opd):vop C M sl hp base (.fn f cs)=Yf (cloV f (evL sl cs)):=by simp only[vop]
@[go_sem] theorem vopE_make (C:Orc) (M:Zj) (sl:Sl) (hp:Hp) (base:Nat) (s b:Nat) (z:D) (l c:Opd):vop C M sl hp base (.make s b z l c)=bnd (idx (evO sl l)) fun l=>bnd (idx (evO sl c)) fun c=>ZgT base s b z l c:=by simp only[vop]
@[go_sem] theorem ZrO (C:Orc) (M:Zj) (sl:Sl) (hp:Hp) (base:Nat) (s:Nat) (x:Opd) (lo hi:Option Opd):vop C M sl hp base (.slice s x lo hi)=Yf (Yn hp s (evM sl lo) (evM sl hi) (evO sl x)):=by simp only[vop]
@[go_sem] theorem Zrd (C:Orc) (M:Zj) (sl:Sl) (hp:Hp) (base:Nat) (x:Opd) (lo hi:Option Opd):vop C M sl hp base (.sliceS x lo hi)=Yf (sliceS (evM sl lo) (evM sl hi) (evO sl x)):=by simp only[vop]
@[go_sem] theorem Zre (C:Orc) (M:Zj) (sl:Sl) (hp:Hp) (base:Nat) (x hi mx:Opd):vop C M sl hp base (.slice0 x hi mx)=Yf (slice0 hp (evO sl x) (idx (evO sl hi)) (idx (evO sl mx))):=by simp only[vop]
@[go_sem] theorem ZrP (C:Orc) (M:Zj) (sl:Sl) (hp:Hp) (base:Nat) (off:Nat) (x:Opd):vop C M sl hp base (.shift off x)=X9 off (evO sl x):=by simp only[vop]
@[go_sem] theorem vopE_part (C:Orc) (M:Zj) (sl:Sl) (hp:Hp) (base:Nat) (g:Bool) (s off:Nat) (x:Opd):vop C M sl hp base (.part g s off x)=Yf (ZdF g s off (evO sl x)):=by simp only[vop]
@[go_sem] theorem vopE_iaS (C:Orc) (M:Zj) (sl:Sl) (hp:Hp) (base:Nat) (s:Nat) (x i:Opd):vop C M sl hp base (.iaS s x i)=bnd (idx (evO sl i)) fun n=>Zbw hp s (evO sl x) n:=by simp only[vop]
@[go_sem] theorem vopE_iaA (C:Orc) (M:Zj) (sl:Sl) (hp:Hp) (base:Nat) (len s:Nat) (x i:Opd):vop C M sl hp base (.iaA len s x i)=bnd (idx (evO sl i)) fun n=>Zfi (evO sl x) n len s:=by simp only[vop]
@[go_sem] theorem vopE_ixS (C:Orc) (M:Zj) (sl:Sl) (hp:Hp) (base:Nat) (x i:Opd):vop C M sl hp base (.ixS x i)=bnd (idx (evO sl i)) fun n=>Zk0 n (evO sl x):=by simp only[vop]
@[go_sem] theorem vopE_ixA (C:Orc) (M:Zj) (sl:Sl) (hp:Hp) (base:Nat) (g:Bool) (s len:Nat) (x i:Opd):vop C M sl hp base (.ixA g s len x i)=bnd (idx (evO sl i)) fun n=>Zmm g s len n (evO sl x):=by simp only[vop]
@[go_sem] theorem vopE_nth (C:Orc) (M:Zj) (sl:Sl) (hp:Hp) (base:Nat) (i:Nat) (x:Opd):vop C M sl hp base (.nth i x)=ZjB i (evO sl x):=by simp only[vop]
@[go_sem] theorem vopE_len (C:Orc) (M:Zj) (sl:Sl) (hp:Hp) (base:Nat) (x:Opd):vop C M sl hp base (.len x)=bnd (Jr hp (evO sl x)) fun n=>Ql (.d (.int .i64 n)):=by simp only[vop]
@[go_sem] theorem vopE_lenS (C:Orc) (M:Zj) (sl:Sl) (hp:Hp) (base:Nat) (x:Opd):vop C M sl hp base (.lenS x)=bnd (ZnE (evO sl x)) fun n=>Ql (.d (.int .i64 n)):=by simp only[vop]
@[go_sem] theorem Zrf (C:Orc) (M:Zj) (sl:Sl) (hp:Hp) (base:Nat) (s b:Nat) (str flat:Bool) (x y:Opd):vop C M sl hp base (.append s b str flat x y)=ZjC hp s b str flat base (evO sl x) (evO sl y):=by simp only[vop]
@[go_sem] theorem vopE_min (C:Orc) (M:Zj) (sl:Sl) (hp:Hp) (base:Nat) (x y:Opd):vop C M sl hp base (.min x y)=ZdI (evO sl x) (evO sl y):=by simp only[vop]
@[go_sem] theorem vopE_max (C:Orc) (M:Zj) (sl:Sl) (hp:Hp) (base:Nat) (x y:Opd):vop C M sl hp base (.max x y)=ZdJ (evO sl x) (evO sl y):=by simp only[vop]
@[go_sem] theorem vopE_call (C:Orc) (M:Zj) (sl:Sl) (hp:Hp) (base:Nat) (f:Opd) (as:List Opd):vop C M sl hp base (.call f as)=UT C M hp base (evL sl as) (evO sl f):=by simp only[vop]
@[go_sem] theorem Zrg (C:Orc) (M:Zj) (sl:Sl) (hp:Hp) (base:Nat) (s:Nat) (x lo hi mx:Opd):vop C M sl hp base (.slice3 s x lo hi mx)=Yf (slice3 hp (evO sl x) (idx (evO sl lo)) (idx (evO sl hi)) (idx (evO sl mx))):=by simp only[vop]
@[go_sem] theorem ZrQ (C:Orc) (M:Zj) (sl:Sl) (hp:Hp) (base:Nat) (s:Nat) (z:D) (x:Opd):vop C M sl hp base (.clear s z x)=Za4 (Jw hp s z (evO sl x)):=by simp only[vop]
@[go_sem] theorem Zqv (C:Orc) (M:Zj) (sl:Sl) (hp:Hp) (base:Nat) (s n:Nat) (xs:List Opd):vop C M sl hp base (.buildDp s n xs)=buildDp hp base s n (evL sl xs):=by simp only[vop]
@[go_sem] theorem ZrR (C:Orc) (M:Zj) (sl:Sl) (hp:Hp) (base:Nat) (s b:Nat) (f:Bool) (x y:Opd):vop C M sl hp base (.appDp s b f x y)=ZhV hp s b base (evO sl x) (evO sl y):=by simp only[vop]
@[go_sem] theorem ZrS (C:Orc) (M:Zj) (sl:Sl) (hp:Hp) (base:Nat) (s n:Nat) (x:Opd):vop C M sl hp base (.asgDp s n x)=asgDp base s n (evO sl x):=by simp only[vop]
@[go_sem] theorem ZrT (C:Orc) (M:Zj) (sl:Sl) (hp:Hp) (base:Nat):vop C M sl hp base .stuck=none:=by simp only[vop]
@[go_sem] theorem Zn8 (hp:Hp) (n:Nat) (acc:List Nat):Qj hp n [] acc=acc:=by cases n<;>rfl
@[go_sem] theorem tidy_d (hp:Hp) (ids:List Nat) (x:D):Zae hp ids (.d x)=.d x:=rfl
@[go_sem] theorem tidy_nil (hp:Hp) (ids:List Nat):Zae hp ids .nil=.nil:=rfl
@[go_sem] theorem tidy_junk (hp:Hp) (ids:List Nat):Zae hp ids .junk=.junk:=rfl
@[go_sem] theorem tidy_tup (hp:Hp) (ids:List Nat) (vs:List AV):Zae hp ids (.tup vs)=ren (Ys ids) (kill (Zby hp ids (Zs (.tup vs))) (.tup vs)):=rfl
@[go_sem] theorem tidy_agg (hp:Hp) (ids:List Nat) (vs:List AV):Zae hp ids (.agg vs)=ren (Ys ids) (kill (Zby hp ids (Zs (.agg vs))) (.agg vs)):=rfl
@[go_sem] theorem tidy_clo (hp:Hp) (ids:List Nat) (f:Nat) (vs:List AV):Zae hp ids (.clo f vs)=ren (Ys ids) (kill (Zby hp ids (Zs (.clo f vs))) (.clo f vs)):=rfl
@[go_sem] theorem tidy_nilp (hp:Hp) (ids:List Nat):Zae hp ids .nilp=.nilp:=rfl
@[go_sem] theorem tidy_nili (hp:Hp) (ids:List Nat):Zae hp ids .nili=.nili:=rfl
@[go_sem] theorem tidy_pim (hp:Hp) (ids:List Nat) (cs:List D):Zae hp ids (.pim cs)=.pim cs:=rfl
@[go_sem] theorem tidy_ptr (hp:Hp) (ids:List Nat) (id o:Nat):Zae hp ids (.ptr id o)=if JA hp ids id=true then .ptr (Ys ids id) o else .junk:=by
 simp only[Zae,Zs,Zu,Zf,Zby]
 split<;>simp[kill,ZG,ZQ,ren,JS,JR]
@[go_sem] theorem tidy_prow (hp:Hp) (ids:List Nat) (id s i o:Nat):Zae hp ids (.prow id s i o)=if JA hp ids id=true then .prow (Ys ids id) s i o else .junk:=by
 simp only[Zae,Zs,Zu,Zf,Zby]
 split<;>simp[kill,ZG,ZQ,ren,JS,JR]
@[go_sem] theorem tidy_own (hp:Hp) (ids:List Nat) (id:Nat):Zae hp ids (.own id)=if JA hp ids id=true then .own (Ys ids id) else .junk:=by
 simp only[Zae,Zs,Zu,Zf,Zby]
 split<;>simp[kill,ZG,ZQ,ren,JS,JR]
@[go_sem] theorem tidy_ownv (hp:Hp) (ids:List Nat) (id a b:Nat):Zae hp ids (.ownv id a b)=if JA hp ids id=true then .ownv (Ys ids id) a b else .junk:=by
 simp only[Zae,Zs,Zu,Zf,Zby]
 split<;>simp[kill,ZG,ZQ,ren,JS,JR]
@[go_sem] theorem ZrU (hp:Hp) (x:D):XX 0 hp (.d x)=(.d x,[]):=by
 simp[XX,Zs,Zu,Zf,Yv,Zn8,tidy_d,UO]
@[go_sem] theorem minI_eq (a b:Int):minI a b=min a b:=by unfold minI;split<;>omega
@[go_sem] theorem maxI_eq (a b:Int):maxI a b=max a b:=by unfold maxI;split<;>omega
@[go_sem] theorem negIf_f (r:Bool):ZgS false r=r:=rfl
@[go_sem] theorem negIf_t (r:Bool):ZgS true r=!r:=rfl
@[go_sem] theorem opt1_some (v:AV):Yf (some v)=Ql v:=rfl
@[go_sem] theorem opt1_none:Yf none=none:=rfl
@[go_sem] theorem vbin_int (op:BinOp) (k k' : IntKind) (a b:Int):vbin op (.d (.int k a)) (.d (.int k' b))=Wh op k k' a b:=rfl
@[go_sem] theorem binV_int (op:BinOp) (eq:Bool) (k k' : IntKind) (a b:Int):ZfB op eq (.d (.int k a)) (.d (.int k' b))=Yf (Wh op k k' a b):=rfl
@[go_sem] theorem binV_str (op:BinOp) (eq:Bool) (a b:List UInt8):ZfB op eq (.d (.str a)) (.d (.str b))=Yf (asD (Zkj op a b)):=rfl
@[go_sem] theorem int2_add (k:IntKind) (a b:Int):Wh .add k k a b=some (.d (.int k (k.wrap (a+b)))):=by simp[Wh,Vl,asD,Zd]
@[go_sem] theorem int2_sub (k:IntKind) (a b:Int):Wh .sub k k a b=some (.d (.int k (k.wrap (a-b)))):=by simp[Wh,Vl,asD,Zd]
@[go_sem] theorem int2_mul (k:IntKind) (a b:Int):Wh .mul k k a b=some (.d (.int k (k.wrap (a*b)))):=by simp[Wh,Vl,asD,Zd]
@[go_sem] theorem int2_quo (k:IntKind) (a b:Int):Wh .quo k k a b=if b=0 then none else some (.d (.int k (k.wrap (a.tdiv b)))):=by simp only[Wh,Vl,asD,if_true];split<;>rfl
@[go_sem] theorem int2_rem (k:IntKind) (a b:Int):Wh .rem k k a b=if b=0 then none else some (.d (.int k (a.tmod b))):=by simp only[Wh,Vl,asD,if_true];split<;>rfl
@[go_sem] theorem int2_eql (k:IntKind) (a b:Int):Wh .eql k k a b=some (.d (.bool (decide (a=b)))):=by simp[Wh,Vl,asD,Zd,BEq.beq]
@[go_sem] theorem int2_neq (k:IntKind) (a b:Int):Wh .neq k k a b=some (.d (.bool (!decide (a=b)))):=by simp[Wh,Vl,asD,Zd,bne,BEq.beq]
@[go_sem] theorem int2_lss (k:IntKind) (a b:Int):Wh .lss k k a b=some (.d (.bool (decide (a<b)))):=by simp[Wh,Vl,asD,Zd]
@[go_sem] theorem int2_leq (k:IntKind) (a b:Int):Wh .leq k k a b=some (.d (.bool (decide (a≤b)))):=by simp[Wh,Vl,asD,Zd]
@[go_sem] theorem int2_gtr (k:IntKind) (a b:Int):Wh .gtr k k a b=some (.d (.bool (decide (b<a)))):=by simp[Wh,Vl,asD,Zd]
@[go_sem] theorem int2_geq (k:IntKind) (a b:Int):Wh .geq k k a b=some (.d (.bool (decide (b≤a)))):=by simp[Wh,Vl,asD,Zd]
@[go_sem] theorem guardV_t (b:Bool):ZaJ true (.d (.bool b))=some b:=by cases b<;>rfl
def nb (b:Bool):Bool:=!b
@[go_sem] theorem nb_true:nb true=false:=rfl
@[go_sem] theorem nb_false:nb false=true:=rfl
@[go_sem] theorem nb_eq (b:Bool):(nb b=true)=(b=false):=by cases b<;>simp[nb]
@[go_sem] theorem guardV_f (b:Bool):ZaJ false (.d (.bool b))=some (nb b):=by cases b<;>rfl
@[go_sem] theorem ZrV (w:Bool):ZaJ w (.tup [])=some false:=rfl
@[go_sem] theorem Zqw (a b:Bool):ZaJ true (Zcb a (.d (.bool b)))=some (a&&b):=by cases a<;>cases b<;>rfl
@[go_sem] theorem Zqx (a b:Bool):ZaJ false (Zcb a (.d (.bool b)))=some (a&&nb b):=by cases a<;>cases b<;>rfl
@[go_sem] theorem iteV_true (v:AV):Zcb true v=v:=rfl
@[go_sem] theorem ZrW (v:AV):Zcb false v=.tup []:=rfl
@[go_sem] theorem ZrX (a b:AV):Za2 a b (.d (.bool true))=Ql a:=rfl
@[go_sem] theorem Zrh (a b:AV):Za2 a b (.d (.bool false))=Ql b:=rfl
@[go_sem] theorem pickV_or (b c:Bool):Za2 (.d (.bool true)) (Zcb (nb b) (.d (.bool c))) (.d (.bool b))=Ql (.d (.bool (b || c))):=by cases b<;>rfl
@[go_sem] theorem pickV_and (b c:Bool):Za2 (Zcb b (.d (.bool c))) (.d (.bool false)) (.d (.bool b))=Ql (.d (.bool (b&&c))):=by cases b<;>rfl
theorem ZrY (a b:AV) (t:Bool):Za2 a b (.d (.bool t))=if t=true then Ql a else Ql b:=by cases t<;>rfl
@[go_sem] theorem dec_or (p q:Prop) [Decidable p] [Decidable q]:(decide p || decide q)=decide (p∨q):=by simp
@[go_sem] theorem dec_and (p q:Prop) [Decidable p] [Decidable q]:(decide p&&decide q)=decide (p∧q):=by simp
@[go_sem] theorem dec_not (p:Prop) [Decidable p]:(!decide p)=decide (¬p):=by simp
attribute [go_sem] Bool.or_eq_false_iff decide_eq_true_eq decide_eq_false_iff_not Bool.and_eq_true Bool.or_eq_true Bool.not_eq_true' Bool.not_eq_false' not_or Decidable.not_not
@[go_sem] theorem evO_t (sl:Sl) (n:Nat):evO sl (.t n)=gs sl n:=rfl
@[go_sem] theorem evO_v (sl:Sl) (a:AV):evO sl (.v a)=a:=rfl
@[go_sem] theorem evO_f (sl:Sl) (n:Nat):evO sl (.f n)=.clo n []:=rfl
@[go_sem] theorem gs_hit (k:Nat) (v:AV) (r:Sl):gs ((k,v) :: r) k=v:=by simp[gs,lkp,Jq]
@[go_sem] theorem gs_cons (k t:Nat) (v:AV) (r:Sl):gs ((k,v) :: r) t=if k=t then v else gs r t:=by
 by_cases h:k=t<;>simp[gs,lkp,h,Jq]
@[go_sem] theorem gs_nil (t:Nat):gs [] t=.junk:=rfl
attribute [go_sem] Zan.eq_1 Zan.eq_2
attribute [go_sem] WJ.eq_1 WJ.eq_2 WJ.eq_3
attribute [go_sem] Zfz.eq_1 Zfz.eq_2 Zfz.eq_3
attribute [go_sem] UE.eq_1 UE.eq_2
attribute [go_sem] St.hp.eq_1
attribute [go_sem] W1.eq_1 W1.eq_2 W1.eq_3
attribute [go_sem] Jq.eq_1 Jq.eq_2
attribute [go_sem] agg2.eq_1 agg2.eq_2 agg2.eq_3
attribute [go_sem] ins.eq_1 ins.eq_2
attribute [go_sem] Zap.eq_1 Zap.eq_2
attribute [go_sem] Q1.eq_1 Q1.eq_2 Q1.eq_3
attribute [go_sem] St.m.eq_1
attribute [go_sem] bnd.eq_1 bnd.eq_2
attribute [go_sem] VQ.eq_1 VQ.eq_2 VQ.eq_3
attribute [go_sem] Zkj.eq_1 Zkj.eq_2 Zkj.eq_3 Zkj.eq_4
attribute [go_sem] AV.cells.eq_1 AV.cells.eq_2 AV.cells.eq_3 AV.cells.eq_4 AV.cells.eq_5 AV.cells.eq_6 AV.cells.eq_7 AV.cells.eq_8 AV.cells.eq_9 AV.cells.eq_10 AV.cells.eq_11 AV.cells.eq_12 AV.cells.eq_13 AV.cells.eq_14 AV.cells.eq_15 AV.cells.eq_16
attribute [go_sem] ZQ.eq_1 ZQ.eq_2 ZQ.eq_3 ZQ.eq_4 ZQ.eq_5 ZQ.eq_6 ZQ.eq_7
attribute [go_sem] AV.solid.eq_1 AV.solid.eq_2 AV.solid.eq_3 AV.solid.eq_4
attribute [go_sem] Yq.eq_1 Yq.eq_2
attribute [go_sem] Qh.eq_1 Qh.eq_2
attribute [go_sem] U7.eq_1 U7.eq_2
attribute [go_sem] VO.eq_1
attribute [go_sem] Jr.eq_1 Jr.eq_2 Jr.eq_3 Jr.eq_4 Jr.eq_5
attribute [go_sem] Zbg.eq_1 Zbg.eq_2
attribute [go_sem] D.flat.eq_1
attribute [go_sem] give.eq_1 give.eq_2
attribute [go_sem] D.beq1.eq_1 D.beq1.eq_2 D.beq1.eq_3 D.beq1.eq_4
attribute [go_sem] JR.eq_1 JR.eq_2 JR.eq_3 JR.eq_4 JR.eq_5 JR.eq_6 JR.eq_7
attribute [go_sem] not1.eq_1 not1.eq_2
attribute [go_sem] Q2.eq_1 Q2.eq_2 Q2.eq_3
attribute [go_sem] St.nx.eq_1
attribute [go_sem] Zu.eq_1 Zu.eq_2 Zu.eq_3
attribute [go_sem] JS.eq_1 JS.eq_2 JS.eq_3
attribute [go_sem] Zdm.eq_1 Zdm.eq_2
attribute [go_sem] vun.eq_1 vun.eq_2 vun.eq_3
attribute [go_sem] toD.eq_1 toD.eq_2
attribute [go_sem] Zf.eq_1 Zf.eq_2 Zf.eq_3 Zf.eq_4 Zf.eq_5 Zf.eq_6 Zf.eq_7 Zf.eq_8 Zf.eq_9 Zf.eq_10 Zf.eq_11 Zf.eq_12 Zf.eq_13 Zf.eq_14 Zf.eq_15 Zf.eq_16
attribute [go_sem] D.plain.eq_1 D.plain.eq_2 D.plain.eq_3 D.plain.eq_4 D.plain.eq_5
attribute [go_sem] ZP.eq_1
attribute [go_sem] ZG.eq_1 ZG.eq_2 ZG.eq_3
attribute [go_sem] Vd.eq_1 Vd.eq_2
attribute [go_sem] Zs.eq_1 Zs.eq_2
attribute [go_sem] ZlK.eq_1
attribute [go_sem] Zca.eq_1 Zca.eq_2
attribute [go_sem] W2.eq_1 W2.eq_2 W2.eq_3 W2.eq_4
attribute [go_sem] St.sl.eq_1
attribute [go_sem] ZnE.eq_1 ZnE.eq_2
attribute [go_sem] YS.eq_1 YS.eq_2
attribute [go_sem] Zao.eq_1 Zao.eq_2
attribute [go_sem] ren.eq_1 ren.eq_2
attribute [go_sem] kill.eq_1 kill.eq_2
attribute [go_sem] lkp.eq_1 lkp.eq_2
attribute [go_sem] Zh9.eq_1 Zh9.eq_2 Zh9.eq_3
attribute [go_sem] Xl.eq_1 Xl.eq_2
attribute [go_sem] beqL.eq_1 beqL.eq_2 beqL.eq_3
attribute [go_sem] D.cells.eq_1 D.cells.eq_2 D.cells.eq_3 D.cells.eq_4 D.cells.eq_5
attribute [go_sem] Zgd.eq_1 Zgd.eq_2
attribute [go_sem] Zh8.eq_1 Zh8.eq_2
attribute [go_sem] neg1.eq_1 neg1.eq_2
attribute [go_sem] Zed.eq_1 Zed.eq_2 Zed.eq_3
attribute [go_sem] X8.eq_1 X8.eq_2 X8.eq_3
attribute [go_sem] asD.eq_1
attribute [go_sem] Vl.eq_1 Vl.eq_2 Vl.eq_3 Vl.eq_4 Vl.eq_5 Vl.eq_6 Vl.eq_7 Vl.eq_8 Vl.eq_9 Vl.eq_10 Vl.eq_11 Vl.eq_12 Vl.eq_13 Vl.eq_14 Vl.eq_15 Vl.eq_16 Vl.eq_17
attribute [go_sem] Zb9.eq_1 Zb9.eq_2 Zb9.eq_3 Zb9.eq_4 Zb9.eq_5
attribute [go_sem] D.one.eq_1 D.one.eq_2 D.one.eq_3 D.one.eq_4 D.one.eq_5
attribute [go_sem] freeze.eq_1 freeze.eq_2
attribute [go_sem] Jv.eq_1
attribute [go_sem] loOf.eq_1 loOf.eq_2
attribute [go_sem] Eff.on.eq_1
attribute [go_sem] Wz.eq_1 Wz.eq_2
attribute [go_sem] cloV.eq_1
attribute [go_sem] slice0.eq_1 slice0.eq_2
attribute [go_sem] evM.eq_1 evM.eq_2
attribute [go_sem] hiOf.eq_1 hiOf.eq_2
attribute [go_sem] ZdF.eq_1 ZdF.eq_2 ZdF.eq_3
attribute [go_sem] Znc.eq_1
attribute [go_sem] idx.eq_1 idx.eq_2
attribute [go_sem] Yn.eq_1 Yn.eq_2 Yn.eq_3 Yn.eq_4 Yn.eq_5
attribute [go_sem] WM.eq_1 WM.eq_2 WM.eq_3
attribute [go_sem] Z4.eq_1 Z4.eq_2
attribute [go_sem] D.notSl.eq_1 D.notSl.eq_2
attribute [go_sem] Zpo.eq_1 Zpo.eq_2
attribute [go_sem] UP.eq_1 UP.eq_2 UP.eq_3 UP.eq_4 UP.eq_5 UP.eq_6
attribute [go_sem] CO.guard.eq_1
attribute [go_sem] Za4.eq_1
attribute [go_sem] VV.eq_1
attribute [go_sem] UL.eq_1 UL.eq_2
attribute [go_sem] ZdE.eq_1
attribute [go_sem] Eff.adds.eq_1
attribute [go_sem] Ys.eq_1 Ys.eq_2
attribute [go_sem] Zc.eq_1 Zc.eq_2
attribute [go_sem] Zb.eff.eq_1
attribute [go_sem] Zbv.eq_1 Zbv.eq_2
attribute [go_sem] Zk0.eq_1 Zk0.eq_2
attribute [go_sem] Zeq.eq_1 Zeq.eq_2 Zeq.eq_3
attribute [go_sem] del.eq_1 del.eq_2
attribute [go_sem] ZgR.eq_1
attribute [go_sem] Zjy.eq_1 Zjy.eq_2
attribute [go_sem] Wn.eq_1 Wn.eq_2
attribute [go_sem] ZdJ.eq_1 ZdJ.eq_2
attribute [go_sem] VY.eq_1 VY.eq_2 VY.eq_3 VY.eq_4 VY.eq_5
attribute [go_sem] ZaA.eq_1
attribute [go_sem] slice3.eq_1
attribute [go_sem] UN.eq_1 UN.eq_2
attribute [go_sem] args.eq_1 args.eq_2
attribute [go_sem] ZcR.eq_1 ZcR.eq_2
attribute [go_sem] ZdI.eq_1 ZdI.eq_2
attribute [go_sem] WR.eq_1 WR.eq_2
attribute [go_sem] Jd.eq_1
attribute [go_sem] Jf.deepRow.eq_1 Jf.deepRow.eq_2
attribute [go_sem] ZbW.eq_1 ZbW.eq_2
attribute [go_sem] ZdH.eq_1
attribute [go_sem] evL.eq_1 evL.eq_2
attribute [go_sem] WA.eq_1 WA.eq_2 WA.eq_3
attribute [go_sem] UO.eq_1 UO.eq_2
attribute [go_sem] ZgQ.eq_1 ZgQ.eq_2
attribute [go_sem] Eff.sets.eq_1
attribute [go_sem] Jy.eq_1 Jy.eq_2 Jy.eq_3
attribute [go_sem] ZdD.eq_1 ZdD.eq_2
attribute [go_sem] J3.eq_1
attribute [go_sem] Zbu.eq_1 Zbu.eq_2
attribute [go_sem] Wm.eq_1 Wm.eq_2 Wm.eq_3
attribute [go_sem] Zmm.eq_1
attribute [go_sem] ZhV.eq_1
attribute [go_sem] Ya.eq_1 Ya.eq_2
attribute [go_sem] Zpp.eq_1 Zpp.eq_2
attribute [go_sem] Zer.eq_1 Zer.eq_2
attribute [go_sem] UU.eq_1 UU.eq_2
attribute [go_sem] ZgT.eq_1
attribute [go_sem] buildDp.eq_1 buildDp.eq_2
attribute [go_sem] AV.atom.eq_1 AV.atom.eq_2 AV.atom.eq_3 AV.atom.eq_4 AV.atom.eq_5
attribute [go_sem] ZjC.eq_1
attribute [go_sem] Eff.dels.eq_1
attribute [go_sem] Jc.eq_1 Jc.eq_2 Jc.eq_3
attribute [go_sem] mat.eq_1 mat.eq_2 mat.eq_3
attribute [go_sem] ZR.eq_1
attribute [go_sem] UR.eq_1 UR.eq_2
attribute [go_sem] ZkX.eq_1 ZkX.eq_2
attribute [go_sem] ZjA.eq_1
attribute [go_sem] Zmk.eq_1
attribute [go_sem] YU.eq_1
attribute [go_sem] Qd.eq_1 Qd.eq_2 Qd.eq_3 Qd.eq_4
attribute [go_sem] Zml.eq_1
attribute [go_sem] J4.eq_1 J4.eq_2
attribute [go_sem] Zk2.eq_1 Zk2.eq_2
attribute [go_sem] Zbt.eq_1 Zbt.eq_2 Zbt.eq_3 Zbt.eq_4
attribute [go_sem] ZcP.eq_1 ZcP.eq_2
attribute [go_sem] Zaz.eq_1 Zaz.eq_2
attribute [go_sem] J6.eq_1 J6.eq_2 J6.eq_3 J6.eq_4 J6.eq_5
attribute [go_sem] Zjz.eq_1 Zjz.eq_2
attribute [go_sem] Zes.eq_1
attribute [go_sem] Jg.eq_1 Jg.eq_2
attribute [go_sem] convS.eq_1 convS.eq_2
attribute [go_sem] ZbX.eq_1 ZbX.eq_2
attribute [go_sem] CO.tl.eq_1
attribute [go_sem] XL.eq_1 XL.eq_2 XL.eq_3
attribute [go_sem] CO.dst.eq_1
attribute [go_sem] teOf.eq_1
attribute [go_sem] Zmn.eq_1 Zmn.eq_2 Zmn.eq_3
attribute [go_sem] Zbs.eq_1
attribute [go_sem] ZcS.eq_1 ZcS.eq_2
attribute [go_sem] Jf.eq_1 Jf.eq_2 Jf.eq_3 Jf.eq_4
attribute [go_sem] ZdG.eq_1 ZdG.eq_2
attribute [go_sem] Uh.eq_1 Uh.eq_2 Uh.eq_3
attribute [go_sem] ZiC.eq_1
attribute [go_sem] Eff.val.eq_1
attribute [go_sem] sliceS.eq_1 sliceS.eq_2
attribute [go_sem] XJ.eq_1 XJ.eq_2 XJ.eq_3
attribute [go_sem] buildSl.eq_1 buildSl.eq_2
attribute [go_sem] Y9.eq_1 Y9.eq_2 Y9.eq_3 Y9.eq_4
attribute [go_sem] V5.eq_1 V5.eq_2 V5.eq_3 V5.eq_4 V5.eq_5
attribute [go_sem] Zfh.eq_1 Zfh.eq_2
attribute [go_sem] Zfi.eq_1
attribute [go_sem] evP.eq_1 evP.eq_2
attribute [go_sem] US.eq_1 US.eq_2
attribute [go_sem] W4.eq_1
attribute [go_sem] J5.eq_1
attribute [go_sem] ZiB.eq_1 ZiB.eq_2
attribute [go_sem] ZgS.eq_1
attribute [go_sem] YG.eq_1
attribute [go_sem] Zk1.eq_1
attribute [go_sem] bnT.eq_1 bnT.eq_2
attribute [go_sem] UM.eq_1 UM.eq_2
attribute [go_sem] VU.eq_1 VU.eq_2
attribute [go_sem] UT.eq_1 UT.eq_2
attribute [go_sem] asgDp.eq_1 asgDp.eq_2
attribute [go_sem] ZcO.eq_1 ZcO.eq_2 ZcO.eq_3
attribute [go_sem] ZkY.eq_1 ZkY.eq_2
attribute [go_sem] CO.op.eq_1
attribute [go_sem] Je.eq_1 Je.eq_2
attribute [go_sem] Jw.eq_1 Jw.eq_2
attribute [go_sem] Zog.eq_1 Zog.eq_2
attribute [go_sem] ZjB.eq_1 ZjB.eq_2
attribute [go_sem] ZcQ.eq_1 ZcQ.eq_2
attribute [go_sem] Jx.eq_1 Jx.eq_2 Jx.eq_3 Jx.eq_4 Jx.eq_5 Jx.eq_6 Jx.eq_7 Jx.eq_8 Jx.eq_9
attribute [go_sem] VX.eq_1
attribute [go_sem] X9.eq_1 X9.eq_2 X9.eq_3 X9.eq_4
attribute [go_sem] Eff.frz.eq_1
attribute [go_sem] ZX.eq_1 ZX.eq_2
attribute [go_sem] ZbV.eq_1 ZbV.eq_2
attribute [go_sem] Zb.gone.eq_1
attribute [go_sem] meltIn.eq_1 meltIn.eq_2
attribute [go_sem] Zbw.eq_1
attribute [go_sem] ZkZ.eq_1 ZkZ.eq_2
attribute [go_sem] convI.eq_1 convI.eq_2
attribute [go_sem] ZfK.eq_1 ZfK.eq_2
attribute [go_sem] bd.eq_1
attribute [go_sem] UQ.eq_1 UQ.eq_2
attribute [go_sem] Q4.eq_1
attribute [go_sem] J7.eq_1 J7.eq_2
attribute [go_sem] ZhU.eq_1 ZhU.eq_2
attribute [go_sem] Znl.eq_1 Znl.eq_2
attribute [go_sem] ZB.eq_1 ZB.eq_2 ZB.eq_3 ZB.eq_4 ZB.eq_5 ZB.eq_6 ZB.eq_7 ZB.eq_8 ZB.eq_9 ZB.eq_10 ZB.eq_11 ZB.eq_12 ZB.eq_13 ZB.eq_14 ZB.eq_15 ZB.eq_16 ZB.eq_17 ZB.eq_18 ZB.eq_19 ZB.eq_20 ZB.eq_21 ZB.eq_22 ZB.eq_23 ZB.eq_24 ZB.eq_25 ZB.eq_26 ZB.eq_27 ZB.eq_28 ZB.eq_29 ZB.eq_30 ZB.eq_31 ZB.eq_32 ZB.eq_33 ZB.eq_34 ZB.eq_35 ZB.eq_36 ZB.eq_37 ZB.eq_38 ZB.eq_39
attribute [go_sem] Vq.eq_1 Vq.eq_2 Vq.eq_3 Vq.eq_4 Vq.eq_5
attribute [go_sem] Zbz.eq_1
attribute [go_sem] ZjO.eq_1 ZjO.eq_2
attribute [go_sem] W7.eq_1 W7.eq_2
attribute [go_sem] JB.eq_1
attribute [go_sem] Jz.eq_1 Jz.eq_2 Jz.eq_3 Jz.eq_4 Jz.eq_5
attribute [go_sem] Vi.eq_1 Vi.eq_2
attribute [go_sem] Zha.eq_1 Zha.eq_2
attribute [go_sem] QJ.eq_1 QJ.eq_2
attribute [go_sem] only.eq_1 only.eq_2
attribute [go_sem] Zmw.eq_1 Zmw.eq_2
attribute [go_sem] Zbx.eq_1 Zbx.eq_2
attribute [go_sem] YI.eq_1 YI.eq_2
attribute [go_sem] okL.eq_1 okL.eq_2
attribute [go_sem] okC.eq_1 okC.eq_2 okC.eq_3 okC.eq_4 okC.eq_5 okC.eq_6 okC.eq_7 okC.eq_8 okC.eq_9 okC.eq_10
attribute [go_sem] ZfN.eq_1 ZfN.eq_2
attribute [go_sem] ZcX.eq_1 ZcX.eq_2
attribute [go_sem] ZaK.eq_1 ZaK.eq_2 ZaK.eq_3
attribute [go_sem] Zb0.eq_1 Zb0.eq_2
attribute [go_sem] Zby.eq_1 Zby.eq_2
attribute [go_sem] QP.eq_1 QP.eq_2
attribute [go_sem] Zl.eq_1 Zl.eq_2
attribute [go_sem] Yi.eq_1 Yi.eq_2 Yi.eq_3
attribute [go_sem] ZdR.eq_1
attribute [go_sem] Yj.eq_1 Yj.eq_2
attribute [go_sem] V2.eq_1 V2.eq_2
attribute [go_sem] CO.starts.eq_1
attribute [go_sem] XM.eq_1 XM.eq_2
attribute [go_sem] Qs.eq_1 Qs.eq_2
attribute [go_sem] Znk.eq_1 Znk.eq_2
attribute [go_sem] ZeD.eq_1
attribute [go_sem] ZaM.eq_1 ZaM.eq_2
attribute [go_sem] Yv.eq_1 Yv.eq_2
attribute [go_sem] JA.eq_1
attribute [go_sem] QK.body.eq_1
attribute [go_sem] ZcY.eq_1 ZcY.eq_2
attribute [go_sem] Vh.eq_1 Vh.eq_2 Vh.eq_3 Vh.eq_4 Vh.eq_5 Vh.eq_6
attribute [go_sem] QK.res.eq_1
attribute [go_sem] XW.eq_1 XW.eq_2
attribute [go_sem] XF.eq_1 XF.eq_2 XF.eq_3 XF.eq_4 XF.eq_5 XF.eq_6 XF.eq_7 XF.eq_8 XF.eq_9 XF.eq_10 XF.eq_11 XF.eq_12
attribute [go_sem] ZfE.eq_1 ZfE.eq_2
attribute [go_sem] Yh.eq_1 Yh.eq_2
attribute [go_sem] QK.nt.eq_1
attribute [go_sem] okD.eq_1 okD.eq_2
attribute [go_sem] ZhU.eq_1 V5.eq_1 V5.eq_2 V5.eq_3 V5.eq_4
attribute [go_sem] Y0.eq_1 UX.eq_1 UX.eq_2 UX.eq_3 UX.eq_4 UX.eq_5 UX.eq_6 UX.eq_7 UX.eq_8 UX.eq_9 UX.eq_10 XX.eq_1
attribute [go_sem] Qj.eq_3 QI.eq_1 AV.atom.eq_1 AV.atom.eq_2 AV.atom.eq_3 AV.atom.eq_4
attribute [go_sem] ZkP.eq_1 ZkP.eq_2 ZgJ.eq_1 ZgJ.eq_2
attribute [go_sem] Zd ZoO Zp7
attribute [go_sem] List.map_cons List.map_nil List.flatMap_cons List.flatMap_nil List.append_nil List.nil_append List.cons_append List.length_cons List.length_nil List.all_cons List.all_nil List.any_cons List.any_nil List.contains_cons List.contains_nil List.filter_cons List.filter_nil List.drop_zero List.drop_succ_cons List.drop_nil List.take_zero List.take_succ_cons List.take_nil List.getElem?_cons_zero List.getElem?_cons_succ List.getElem?_nil Option.map_some Option.map_none Bool.and_true Bool.true_and Bool.and_false Bool.false_and Bool.or_true Bool.true_or Bool.or_false Bool.false_or Bool.not_true Bool.not_false decide_true decide_false and_true true_and and_false false_and not_true not_false_eq_true or_true true_or or_false false_or if_true if_false true_implies false_implies implies_true imp_self eq_self ne_eq beq_self_eq_true Bool.true_eq_false Bool.false_eq_true List.isEmpty_nil List.isEmpty_cons List.range_zero List.set_cons_zero List.set_cons_succ Option.some.injEq reduceCtorEq Nat.reduceLeDiff
def ZgK (hp:Hp):List Nat→List Nat
 | []=>[]
 | i :: r=>if XL (lkp hp i)=true then i :: ZgK hp r else ZgK hp r
theorem gE (hp:Hp) (ids:List Nat):(ids.filter fun i=>XL (lkp hp i))=ZgK hp ids:=by
 induction ids with
 | nil=>rfl
 | cons i r ih=>simp only[List.filter_cons,ZgK,ih]
def Ziu (hp:Hp) (rs:List Nat):List Nat→Bool
 | []=>true
 | i :: r=>(XL (lkp hp i) || rs.contains i)&&Ziu hp rs r
def Ziv (hp:Hp):List Nat→Bool
 | []=>false
 | i :: r=>WR (lkp hp i) || Ziv hp r
theorem gG (hp:Hp) (ids:List Nat):(ids.any fun i=>WR (lkp hp i))=Ziv hp ids:=by
 induction ids with
 | nil=>rfl
 | cons i r ih=>simp only[List.any_cons,Ziv,ih]
attribute [go_sem] Ziv.eq_1 Ziv.eq_2
@[go_sem] theorem appTo_nil (hp:Hp) (s b:Nat) (str flat:Bool) (base:Nat) (y:AV):J8 hp s b str flat base y .nil=Ya hp s b str flat base .nil y ([]++Xt hp y):=rfl
@[go_sem] theorem appTo_own (hp:Hp) (s b:Nat) (str flat:Bool) (base:Nat) (y:AV) (k:Nat):J8 hp s b str flat base y (.own k)=Ya hp s b str flat base (.own k) y ((if WR (lkp hp k)=true then [k] else [])++Xt hp y):=rfl
@[go_sem] theorem ZrZ (hp:Hp) (s b:Nat) (str flat:Bool) (base:Nat) (y:AV) (k o n:Nat):J8 hp s b str flat base y (.ownv k o n)=Ya hp s b str flat base (.ownv k o n) y ([]++Xt hp y):=rfl
@[go_sem] theorem deepId_d (hp:Hp) (x:D):Xt hp (.d x)=[]:=rfl
@[go_sem] theorem Zr0 (hp:Hp):Xt hp .nil=[]:=rfl
@[go_sem] theorem Zri (hp:Hp) (k o n:Nat):Xt hp (.ownv k o n)=[]:=rfl
@[go_sem] theorem Zr1 (hp:Hp) (k:Nat):Xt hp (.own k)=if WR (lkp hp k)=true then [k] else []:=rfl
@[go_sem] theorem appTo_sub (hp:Hp) (s b:Nat) (str flat:Bool) (base:Nat) (y:AV) (id nm:Nat):J8 hp s b str flat base y (.sub id nm)=if str then none else bnd (J6 hp true y) fun q=>if (W1 y).contains id then none else ZcS s b base id nm q (lkp hp id):=rfl
theorem gF (hp:Hp) (rs ids:List Nat):Ug hp rs ids=Ziu hp rs ids:=by
 induction ids with
 | nil=>rfl
 | cons i r ih=>simp only[Ug,List.all_cons,Ziu] at ih ⊢;rw[ih]
attribute [go_sem] ZgK.eq_1 ZgK.eq_2 Ziu.eq_1 Ziu.eq_2
@[go_sem] theorem okV_d (x:D):okV (.d x)=true:=rfl
@[go_sem] theorem okV_nil:okV .nil=true:=rfl
@[go_sem] theorem okV_nilp:okV .nilp=true:=rfl
@[go_sem] theorem okV_nili:okV .nili=true:=rfl
@[go_sem] theorem okV_ptr (a b:Nat):okV (.ptr a b)=true:=rfl
@[go_sem] theorem okV_prow (a b c e:Nat):okV (.prow a b c e)=true:=rfl
@[go_sem] theorem okV_pim (cs:List D):okV (.pim cs)=true:=rfl
@[go_sem] theorem okV_own (a:Nat):okV (.own a)=true:=rfl
@[go_sem] theorem okV_ownv (a b c:Nat):okV (.ownv a b c)=true:=rfl
@[go_sem] theorem okV_agg (cs:List AV):okV (.agg cs)=ZjO cs:=rfl
@[go_sem] theorem okV_tup0:okV (.tup [])=true:=rfl
@[go_sem] theorem Zrj (sl:Sl) (a:COp) (k:Nat):seenSrc sl a (.own k)=QP sl k (ZB a):=rfl
@[go_sem] theorem seenSrc_d (sl:Sl) (a:COp) (x:D):seenSrc sl a (.d x)=true:=rfl
@[go_sem] theorem Zrk (sl:Sl) (a:COp):seenSrc sl a .nil=true:=rfl
@[go_sem] theorem Zqy (sl:Sl) (a:COp) (x y z:Nat):seenSrc sl a (.ownv x y z)=true:=rfl
@[go_sem] theorem okV_iteV (b:Bool) (v:AV):okV (Zcb b v)=(!b || okV v):=by cases b<;>simp[Zcb,okV]
@[go_sem] theorem awayV_d (sl:Sl) (xs:List Opd) (x:D):UY sl xs (.d x)=true:=rfl
@[go_sem] theorem awayV_nil (sl:Sl) (xs:List Opd):UY sl xs .nil=true:=rfl
@[go_sem] theorem Zr2 (sl:Sl) (xs:List Opd):UY sl xs .nilp=true:=rfl
@[go_sem] theorem awayV_ptr (sl:Sl) (xs:List Opd) (k o:Nat):UY sl xs (.ptr k o)=QP sl k xs:=rfl
@[go_sem] theorem awayV_pim (sl:Sl) (xs:List Opd) (cs:List D):UY sl xs (.pim cs)=true:=rfl
@[go_sem] theorem awayV_own (sl:Sl) (xs:List Opd) (a:Nat):UY sl xs (.own a)=true:=rfl
@[go_sem] theorem Zr3 (sl:Sl) (xs:List Opd) (a b c:Nat):UY sl xs (.ownv a b c)=true:=rfl
@[go_sem] theorem awayV_agg (sl:Sl) (xs:List Opd) (cs:List AV):UY sl xs (.agg cs)=true:=rfl
@[go_sem] theorem awayV_tup (sl:Sl) (xs:List Opd) (cs:List AV):UY sl xs (.tup cs)=true:=rfl
end Go.Abs.E
