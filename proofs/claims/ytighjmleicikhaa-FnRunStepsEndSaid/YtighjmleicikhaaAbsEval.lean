/- Own text. -/
import Derived.Test.YtighjmleicikhaaAbsRun
set_option linter.unusedVariables false
set_option linter.unusedSimpArgs false
namespace Go.Abs.E
open Go Go.Abs
abbrev _root_.Go.Abs.Opd.i (n:Int):Opd:=.v (.d (.int .i64 n))
abbrev _root_.Go.Abs.Opd.b (x:Bool):Opd:=.v (.d (.bool x))
def stW {α:Type} (x:Option α) (K:α→Prop):Prop:=match x with
 | some a=>K a
 | none=>False
def gW (x:Option Bool) (A B:Prop):Prop:=match x with
 | some b=>(b=true→A)∧(b=false→B)
 | none=>False
def Vh (v:AV) (A B:Prop):Prop:=match v with
 | .d (.bool t)=>(t=true→A)∧(t=false→B)
 | _=>False
theorem YJ {α:Type} (a:α) (K:α→Prop):stW (some a) K=K a:=rfl
theorem Zds {α:Type} (K:α→Prop):stW none K=False:=rfl
theorem Ut {α β:Type} (x:Option α) (f:α→Option β) (K:β→Prop):stW (bnd x f) K=stW x fun a=>stW (f a) K:=by cases x<;>rfl
@[go_sem] theorem Zm8 (A B:Prop):gW (some true) A B=A:=by simp[gW]
@[go_sem] theorem gW_false (A B:Prop):gW (some false) A B=B:=by simp[gW]
@[go_sem] theorem gW_dec (p:Prop) [Decidable p] (A B:Prop):gW (some (decide p)) A B=((p→A)∧(¬p→B)):=by simp[gW]
@[go_sem] theorem gW_not (b:Bool) (A B:Prop):gW (some (!b)) A B=gW (some b) B A:=by cases b<;>simp[gW]
theorem gW_some (b:Bool) (A B:Prop):gW (some b) A B=((b=true→A)∧(b=false→B)):=rfl
@[go_sem] theorem Zrw (A B:Prop):Vh (.d (.bool true)) A B=A:=by simp[Vh]
@[go_sem] theorem Zq5 (A B:Prop):Vh (.d (.bool false)) A B=B:=by simp[Vh]
@[go_sem] theorem condW_dec (p:Prop) [Decidable p] (A B:Prop):Vh (.d (.bool (decide p))) A B=((p→A)∧(¬p→B)):=by simp[Vh]
@[go_sem] theorem condW_not (b:Bool) (A B:Prop):Vh (.d (.bool (!b))) A B=Vh (.d (.bool b)) B A:=by cases b<;>simp[Vh]
@[go_sem] theorem condW_and (a b:Bool) (A B:Prop):Vh (.d (.bool (a&&b))) A B=Vh (.d (.bool a)) (Vh (.d (.bool b)) A B) B:=by cases a<;>cases b<;>simp[Vh]
@[go_sem] theorem condW_or (a b:Bool) (A B:Prop):Vh (.d (.bool (a || b))) A B=Vh (.d (.bool a)) A (Vh (.d (.bool b)) A B):=by cases a<;>cases b<;>simp[Vh]
@[go_sem] theorem Zrx (b:Bool) (A B:Prop):Vh (.d (.bool b)) A B=((b=true→A)∧(b=false→B)):=rfl
@[congr] theorem gW_congr {x y:Option Bool} {A B:Prop} (h:x=y):gW x A B=gW y A B:=by rw[h]
@[congr] theorem Zq6 {v w:AV} {A B:Prop} (h:v=w):Vh v A B=Vh w A B:=by rw[h]
section
variable (X:Fns) (M:Zg)
noncomputable def JG (nx:Nat):Nat→List CO→Sl→Hp→(Sl→Hp→Prop)→Prop
 | _,[],sl,hp,K=>K sl hp
 | i,o :: rest,sl,hp,K=>gW (ZJ sl o.guard)
   (stW (XC (nx+64*i) o.dst sl hp (vop (Zl X M) M sl hp (nx+64*i) o.op)) fun r=>JG nx (i+1) rest r.1 r.2 K)
   (JG nx (i+1) rest (Zk sl o.dst (.tup [])) hp K)
def Up (nx i:Nat) (d:Option Nat) (rest:List CO) (sl:Sl) (hp:Hp) (K:Sl→Hp→Prop) (e:Option Zb):Prop:=
 stW (XC (nx+64*i) d sl hp e) fun r=>JG X M nx (i+1) rest r.1 r.2 K
@[go_sem] theorem opsW_nil (nx i:Nat) (sl:Sl) (hp:Hp) (K:Sl→Hp→Prop):JG X M nx i [] sl hp K=K sl hp:=rfl
@[go_sem] theorem opsW_cons (nx i:Nat) (d:Option Nat) (tl:Bool) (op:COp) (aa:List CO) (sl:Sl) (hp:Hp) (K:Sl→Hp→Prop) :
  JG X M nx i (⟨d,none,op,tl⟩ :: aa) sl hp K=Up X M nx i d aa sl hp K (vop (Zl X M) M sl hp (nx+64*i) op):=by
 simp[JG,Up,ZJ,Zm8]
def Zci (b:Bool) (v:AV):AV:=if b then v else .tup []
def Wd (b:Bool) (nx i:Nat) (d:Option Nat) (rest:List CO) (sl:Sl) (hp:Hp) (K:Sl→Hp→Prop) (e:Option Zb):Prop:=
 gW (some b) (Up X M nx i d rest sl hp K e) (JG X M nx (i+1) rest (Zk sl d (.tup [])) hp K)
def ZjF (g:Option Bool) (nx i:Nat) (d:Option Nat) (op:COp) (rest:List CO) (sl:Sl) (hp:Hp) (K:Sl→Hp→Prop):Prop:=
 gW g (Up X M nx i d rest sl hp K (vop (Zl X M) M sl hp (nx+64*i) op)) (JG X M nx (i+1) rest (Zk sl d (.tup [])) hp K)
@[go_sem] theorem Zry (nx i g:Nat) (w:Bool) (d:Option Nat) (tl:Bool) (op:COp) (aa:List CO) (sl:Sl) (hp:Hp) (K:Sl→Hp→Prop) :
  JG X M nx i (⟨d,some (g,w),op,tl⟩ :: aa) sl hp K=ZjF X M (ZaB w (gs sl g)) nx i d op aa sl hp K:=rfl
@[go_sem] theorem Zq7 (b:Bool) (nx i:Nat) (d:Option Nat) (op:COp) (aa:List CO) (sl:Sl) (hp:Hp) (K:Sl→Hp→Prop) :
  ZjF X M (some b) nx i d op aa sl hp K=Wd X M b nx i d aa sl hp K (vop (Zl X M) M sl hp (nx+64*i) op):=rfl
@[go_sem] theorem gA (nx i:Nat) (d:Option Nat) (aa:List CO) (sl:Sl) (hp:Hp) (K:Sl→Hp→Prop) (e:Option Zb) :
  Wd X M true nx i d aa sl hp K e=Up X M nx i d aa sl hp K e:=by simp[Wd,gW]
@[go_sem] theorem gB (nx i:Nat) (d:Option Nat) (aa:List CO) (sl:Sl) (hp:Hp) (K:Sl→Hp→Prop) (e:Option Zb) :
  Wd X M false nx i d aa sl hp K e=JG X M nx (i+1) aa (Zk sl d (.tup [])) hp K:=by simp[Wd,gW]
@[go_sem] theorem ZjG (b:Bool) (nx i:Nat) (d:Option Nat) (aa:List CO) (sl:Sl) (hp:Hp) (K:Sl→Hp→Prop) (v:AV) :
  Wd X M b nx i d aa sl hp K (Qk v)=JG X M nx (i+1) aa (Zk sl d (Zci b v)) hp K:=by
 cases b
 ·simp[Wd,gW,Zci]
 ·simp only[Wd,gW,Zci,Kh,true_implies,Bool.true_eq_false,false_implies,and_true];rfl
@[go_sem] theorem Zq8 (b:Bool) (nx i:Nat) (d:Option Nat) (aa:List CO) (sl:Sl) (hp:Hp) (K:Sl→Hp→Prop) (v:AV) :
  Wd X M b nx i d aa sl hp K (some { eff := { val:=v,adds:=[],sets:=[],dels:=[],frz:=[] },gone:=[] })=JG X M nx (i+1) aa (Zk sl d (Zci b v)) hp K:=ZjG X M b nx i d aa sl hp K v
@[congr] theorem Zqk {g g' : Option Bool} {nx i:Nat} {d:Option Nat} {op:COp} {aa:List CO} {sl:Sl} {hp:Hp} {K:Sl→Hp→Prop} (h:g=g') :
  ZjF X M g nx i d op aa sl hp K=ZjF X M g' nx i d op aa sl hp K:=by rw[h]
@[congr] theorem Zql {b b' : Bool} {nx i:Nat} {d:Option Nat} {aa:List CO} {sl:Sl} {hp:Hp} {K:Sl→Hp→Prop} {e e' : Option Zb} (hb:b=b') (h:b'=true→e=e') :
  Wd X M b nx i d aa sl hp K e=Wd X M b' nx i d aa sl hp K e':=by
 subst hb;cases b
 ·simp[Wd,gW]
 ·rw[h rfl]
@[go_sem] theorem Zq9 (nx i:Nat) (d:Option Nat) (aa:List CO) (sl:Sl) (hp:Hp) (K:Sl→Hp→Prop) (v:AV) :
  Up X M nx i d aa sl hp K (Qk v)=JG X M nx (i+1) aa (Zk sl d v) hp K:=rfl
@[go_sem] theorem Zrz (nx i:Nat) (d:Option Nat) (aa:List CO) (sl:Sl) (hp:Hp) (K:Sl→Hp→Prop) (v:AV) :
  Up X M nx i d aa sl hp K (some { eff := { val:=v,adds:=[],sets:=[],dels:=[],frz:=[] },gone:=[] })=JG X M nx (i+1) aa (Zk sl d v) hp K:=rfl
@[go_sem] theorem ZrA (nx i:Nat) (d:Option Nat) (aa:List CO) (sl:Sl) (hp:Hp) (K:Sl→Hp→Prop) (e:Zb) :
  Up X M nx i d aa sl hp K (some e)=(Qv (nx+64*i) (nx+64*i+64) e.eff.adds=true∧JG X M nx (i+1) aa (Zk (QC e.gone sl) d e.eff.val) (e.eff.on (YA e.gone hp)) K):=by
 unfold Up XC;rw[Zc];split<;>rename_i h
 ·simp only[YJ,h,true_and];rfl
 ·simp only[Zds,h,false_and,Ka]
@[go_sem] theorem ZrB (nx i:Nat) (d:Option Nat) (aa:List CO) (sl:Sl) (hp:Hp) (K:Sl→Hp→Prop):Up X M nx i d aa sl hp K none=False:=rfl
@[go_sem] theorem stepW_ite (nx i:Nat) (d:Option Nat) (aa:List CO) (sl:Sl) (hp:Hp) (K:Sl→Hp→Prop) (c:Prop) [Decidable c] (a b:Option Zb) :
  Up X M nx i d aa sl hp K (if c then a else b)=((c→Up X M nx i d aa sl hp K a)∧(¬c→Up X M nx i d aa sl hp K b)):=by
 by_cases h:c<;>simp[h]
noncomputable def X8 (nx:Nat):Nat→Bool→List CO→Sl→Hp→(Sl→Hp→Prop)→Prop
 | _,_,[],sl,hp,K=>K sl hp
 | i,tail,o :: rest,sl,hp,K=>gW (ZJ sl o.guard)
   (stW (XC (nx+64*i) o.dst sl hp (YD (Zl X M) (XK M) nx i (CO.starts o) o.op sl hp)) fun r=>X8 nx (i+1) tail rest r.1 r.2 K)
   (X8 nx (i+1) tail rest (Zk sl o.dst (.tup [])) hp K)
def Vj (nx i:Nat) (t:Bool) (d:Option Nat) (rest:List CO) (sl:Sl) (hp:Hp) (K:Sl→Hp→Prop) (e:Option Zb):Prop:=
 stW (XC (nx+64*i) d sl hp (if t then e else U5 e)) fun r=>X8 X M nx (i+1) false rest r.1 r.2 K
@[go_sem] theorem opsDW_nil (nx i:Nat) (t:Bool) (sl:Sl) (hp:Hp) (K:Sl→Hp→Prop):X8 X M nx i t [] sl hp K=K sl hp:=rfl
@[go_sem] theorem ZrC (nx i:Nat) (d:Option Nat) (tl:Bool) (op:COp) (aa:List CO) (sl:Sl) (hp:Hp) (K:Sl→Hp→Prop) :
  X8 X M nx i false (⟨d,none,op,tl⟩ :: aa) sl hp K=Vj X M nx i (Zb5 op || tl) d aa sl hp K (vop (Zl X M) (XK M) sl hp (nx+64*i) op):=by
 simp[X8,Vj,ZJ,Zm8,YD,CO.starts]
def Yv (b:Bool) (nx i:Nat) (t:Bool) (d:Option Nat) (rest:List CO) (sl:Sl) (hp:Hp) (K:Sl→Hp→Prop) (e:Option Zb):Prop:=
 gW (some b) (Vj X M nx i t d rest sl hp K e) (X8 X M nx (i+1) false rest (Zk sl d (.tup [])) hp K)
def ZfG (g:Option Bool) (nx i:Nat) (t:Bool) (d:Option Nat) (op:COp) (rest:List CO) (sl:Sl) (hp:Hp) (K:Sl→Hp→Prop):Prop:=
 gW g (Vj X M nx i t d rest sl hp K (vop (Zl X M) (XK M) sl hp (nx+64*i) op)) (X8 X M nx (i+1) false rest (Zk sl d (.tup [])) hp K)
@[go_sem] theorem Zra (nx i g:Nat) (w:Bool) (d:Option Nat) (tl:Bool) (op:COp) (aa:List CO) (sl:Sl) (hp:Hp) (K:Sl→Hp→Prop) :
  X8 X M nx i false (⟨d,some (g,w),op,tl⟩ :: aa) sl hp K=ZfG X M (ZaB w (gs sl g)) nx i (Zb5 op || tl) d op aa sl hp K:=rfl
@[go_sem] theorem Zqm (b:Bool) (nx i:Nat) (t:Bool) (d:Option Nat) (op:COp) (aa:List CO) (sl:Sl) (hp:Hp) (K:Sl→Hp→Prop) :
  ZfG X M (some b) nx i t d op aa sl hp K=Yv X M b nx i t d aa sl hp K (vop (Zl X M) (XK M) sl hp (nx+64*i) op):=rfl
@[go_sem] theorem gC (nx i:Nat) (t:Bool) (d:Option Nat) (aa:List CO) (sl:Sl) (hp:Hp) (K:Sl→Hp→Prop) (e:Option Zb) :
  Yv X M true nx i t d aa sl hp K e=Vj X M nx i t d aa sl hp K e:=by simp[Yv,gW]
@[go_sem] theorem gD (nx i:Nat) (t:Bool) (d:Option Nat) (aa:List CO) (sl:Sl) (hp:Hp) (K:Sl→Hp→Prop) (e:Option Zb) :
  Yv X M false nx i t d aa sl hp K e=X8 X M nx (i+1) false aa (Zk sl d (.tup [])) hp K:=by simp[Yv,gW]
@[go_sem] theorem ZhU (b:Bool) (nx i:Nat) (t:Bool) (d:Option Nat) (aa:List CO) (sl:Sl) (hp:Hp) (K:Sl→Hp→Prop) (v:AV) :
  Yv X M b nx i t d aa sl hp K (Qk v)=X8 X M nx (i+1) false aa (Zk sl d (Zci b v)) hp K:=by
 cases b
 ·simp[Yv,gW,Zci]
 ·simp only[Yv,gW,Zci,Kh,true_implies,Bool.true_eq_false,false_implies,and_true];cases t<;>rfl
@[go_sem] theorem Zqn (b:Bool) (nx i:Nat) (t:Bool) (d:Option Nat) (aa:List CO) (sl:Sl) (hp:Hp) (K:Sl→Hp→Prop) (v:AV) :
  Yv X M b nx i t d aa sl hp K (some { eff := { val:=v,adds:=[],sets:=[],dels:=[],frz:=[] },gone:=[] })=X8 X M nx (i+1) false aa (Zk sl d (Zci b v)) hp K:=ZhU X M b nx i t d aa sl hp K v
@[congr] theorem ZpS {g g' : Option Bool} {nx i:Nat} {t t' : Bool} {d:Option Nat} {op:COp} {aa:List CO} {sl:Sl} {hp:Hp} {K:Sl→Hp→Prop} (h:g=g') (ht:t=t') :
  ZfG X M g nx i t d op aa sl hp K=ZfG X M g' nx i t' d op aa sl hp K:=by rw[h,ht]
@[congr] theorem ZpT {b b' : Bool} {nx i:Nat} {t:Bool} {d:Option Nat} {aa:List CO} {sl:Sl} {hp:Hp} {K:Sl→Hp→Prop} {e e' : Option Zb} (hb:b=b') (h:b'=true→e=e') :
  Yv X M b nx i t d aa sl hp K e=Yv X M b' nx i t d aa sl hp K e':=by
 subst hb;cases b
 ·simp[Yv,gW]
 ·rw[h rfl]
@[go_sem] theorem Zqo (nx i:Nat) (t:Bool) (d:Option Nat) (aa:List CO) (sl:Sl) (hp:Hp) (K:Sl→Hp→Prop) (v:AV) :
  Vj X M nx i t d aa sl hp K (Qk v)=X8 X M nx (i+1) false aa (Zk sl d v) hp K:=by cases t<;>rfl
@[go_sem] theorem Zrb (nx i:Nat) (t:Bool) (d:Option Nat) (aa:List CO) (sl:Sl) (hp:Hp) (K:Sl→Hp→Prop) (v:AV) :
  Vj X M nx i t d aa sl hp K (some { eff := { val:=v,adds:=[],sets:=[],dels:=[],frz:=[] },gone:=[] })=X8 X M nx (i+1) false aa (Zk sl d v) hp K:=by cases t<;>rfl
@[go_sem] theorem Zrc (nx i:Nat) (t:Bool) (d:Option Nat) (aa:List CO) (sl:Sl) (hp:Hp) (K:Sl→Hp→Prop) (e:Zb) :
  Vj X M nx i t d aa sl hp K (some e)=((t=false→ZaF e e.gone e.eff.sets e.eff.dels e.eff.frz=some e)∧Qv (nx+64*i) (nx+64*i+64) e.eff.adds=true∧X8 X M nx (i+1) false aa (Zk (QC e.gone sl) d e.eff.val) (e.eff.on (YA e.gone hp)) K):=by
 have ab:stW (XC (nx+64*i) d sl hp (some e)) (fun r=>X8 X M nx (i+1) false aa r.1 r.2 K)=(Qv (nx+64*i) (nx+64*i+64) e.eff.adds=true∧X8 X M nx (i+1) false aa (Zk (QC e.gone sl) d e.eff.val) (e.eff.on (YA e.gone hp)) K):=by
  unfold XC;rw[Zc];split<;>rename_i h
  ·simp only[YJ,h,true_and];rfl
  ·simp only[Zds,h,false_and,Ka]
 unfold Vj;cases t with
 | true=>simp only[Kh];rw[ab];simp
 | false=>
  simp only[Ka,Kf,U5,Zc,true_implies];unfold ZaF;split
  ·rw[ab];simp
  ·simp[XC,bnd,stW]
@[go_sem] theorem Zrd (nx i:Nat) (t:Bool) (d:Option Nat) (aa:List CO) (sl:Sl) (hp:Hp) (K:Sl→Hp→Prop):Vj X M nx i t d aa sl hp K none=False:=by cases t<;>rfl
@[go_sem] theorem ZrD (nx i:Nat) (t:Bool) (d:Option Nat) (aa:List CO) (sl:Sl) (hp:Hp) (K:Sl→Hp→Prop) (c:Prop) [Decidable c] (a b:Option Zb) :
  Vj X M nx i t d aa sl hp K (if c then a else b)=((c→Vj X M nx i t d aa sl hp K a)∧(¬c→Vj X M nx i t d aa sl hp K b)):=by
 by_cases h:c<;>simp[h]
@[go_sem] theorem quietC_ok (c:Zb):ZaF c [] [] [] []=some c:=rfl
def W (c:ZE) (st:St) (Q:Ex→St→Prop):Prop:=stW (Qi X M c st) fun r=>Q r.1 r.2
@[congr] theorem W_congr {c:ZE} {st aa : St} {Q:Ex→St→Prop} (h:st=aa):W X M c st Q=W X M c aa Q:=by rw[h]
@[congr] theorem ZrE {aa:List CO} {nx ab i i' : Nat} {sl sl' : Sl} {hp hp' : Hp} {K:Sl→Hp→Prop} (hn:nx=ab) (hi:i=i') (h:sl=sl') (h' : hp=hp') :
  JG X M nx i aa sl hp K=JG X M ab i' aa sl' hp' K:=by rw[h,h',hn,hi]
@[congr] theorem Zre {aa:List CO} {nx ab i i' : Nat} {t t' : Bool} {sl sl' : Sl} {hp hp' : Hp} {K:Sl→Hp→Prop} (hn:nx=ab) (hi:i=i') (ht:t=t') (h:sl=sl') (h' : hp=hp') :
  X8 X M nx i t aa sl hp K=X8 X M ab i' t' aa sl' hp' K:=by rw[h,h',ht,hn,hi]
@[congr] theorem Zrf {aa:List CO} {nx i:Nat} {d:Option Nat} {sl:Sl} {hp:Hp} {K:Sl→Hp→Prop} {e e' : Option Zb} (h:e=e') :
  Up X M nx i d aa sl hp K e=Up X M nx i d aa sl hp K e':=by rw[h]
@[congr] theorem Zqp {aa:List CO} {nx i:Nat} {t t' : Bool} {d:Option Nat} {sl:Sl} {hp:Hp} {K:Sl→Hp→Prop} {e e' : Option Zb} (ht:t=t') (h:e=e') :
  Vj X M nx i t d aa sl hp K e=Vj X M nx i t' d aa sl hp K e':=by rw[h,ht]
theorem Zqq (nx:Nat) (K:Sl→Hp→Prop):∀ (l:List CO) (i:Nat) (sl:Sl) (hp:Hp),JG X M nx i l sl hp K=stW (Zbp (Zl X M) M nx i l sl hp) fun r=>K r.1 r.2:=by
 intro l
 induction l with
 | nil=>intro i sl hp;rfl
 | cons o rest ih=>
  intro i sl hp;simp only[JG,Zbp,ih,Ut];cases ZJ sl o.guard with
  | none=>rfl
  | some b=>cases b<;>simp[gW,Ut,YJ]
theorem Zo5 (nx:Nat) (K:Sl→Hp→Prop):∀ (l:List CO) (i:Nat) (t:Bool) (sl:Sl) (hp:Hp),X8 X M nx i t l sl hp K=stW (WJ (Zl X M) (XK M) nx i t l sl hp) fun r=>K r.1 r.2:=by
 intro l
 induction l with
 | nil=>intro i t sl hp;rfl
 | cons o rest ih=>
  intro i t sl hp;simp only[X8,WJ,ih,Ut];cases ZJ sl o.guard with
  | none=>rfl
  | some b=>cases b<;>simp[gW,Ut,YJ]
def Zn3 (m nx:Nat) (Q:Ex→St→Prop) (sl:Sl) (hp:Hp):Prop:=Q .normal { sl:=sl,hp:=hp,nx:=nx,m:=m }
def ZkT (ops:List CO) (ps:List (Nat×Nat)) (K:Sl→Hp→Prop) (sl:Sl) (hp:Hp):Prop:=VH ops sl ps=true∧K sl hp
@[go_sem] theorem regQ_eq (m nx:Nat) (Q:Ex→St→Prop) (sl:Sl) (hp:Hp):Zn3 m nx Q sl hp=Q .normal { sl:=sl,hp:=hp,nx:=nx,m:=m }:=rfl
@[go_sem] theorem seenQ_eq (ops:List CO) (ps:List (Nat×Nat)) (K:Sl→Hp→Prop) (sl:Sl) (hp:Hp):ZkT ops ps K sl hp=(VH ops sl ps=true∧K sl hp):=rfl
@[go_sem] theorem W_skip (st:St) (Q:Ex→St→Prop):W X M .skip st Q=Q .normal st:=by simp[W,Zmt,YJ]
@[go_sem] theorem W_ret (st:St) (Q:Ex→St→Prop):W X M .ret st Q=Q .ret st:=by simp[W,Zop,YJ]
@[go_sem] theorem W_exit (id:Nat) (st:St) (Q:Ex→St→Prop):W X M (.exit id) st Q=Q (.exit id) st:=by simp[W,Zmu,YJ]
@[go_sem] theorem W_stuck (st:St) (Q:Ex→St→Prop):W X M .stuck st Q=False:=by
 have h:Qi X M .stuck st=none:=XT fun n=>by simp only[Zx]
 simp only[W,h,Zds]
@[go_sem] theorem W_region (n:Nat) (ops:List CO) (st:St) (Q:Ex→St→Prop) :
  W X M (.region n none ops) st Q=JG X M st.nx 0 ops st.sl st.hp (Zn3 st.m (st.nx+64*n) Q):=by
 rw[Zqq,W,Zj3,Zfr,Ut];rfl
theorem Zo6 (n:Nat) (ps:List (Nat×Nat)) (ops:List CO) (st:St) (Q:Ex→St→Prop) :
  W X M (.region n (some ps) ops) st Q=X8 X M st.nx 0 false ops st.sl st.hp (ZkT ops ps (Zn3 st.m (st.nx+64*n) Q)):=by
 rw[Zo5,W,Zmv,Zfr,Ut,ZiX,Ut];congr 1
 funext r
 by_cases h:VH ops r.1 ps=true<;>simp[h,ZkT,YJ,Zds,Zn3]
@[go_sem] theorem W_draw0 (n:Nat) (ops:List CO) (st:St) (Q:Ex→St→Prop) :
  W X M (.region n (some []) ops) st Q=X8 X M st.nx 0 false ops st.sl st.hp (Zn3 st.m (st.nx+64*n) Q):=by
 rw[Zo6];congr 1
 funext sl hp
 simp[ZkT,VH]
@[go_sem] theorem W_drawc (n:Nat) (p:Nat×Nat) (ps:List (Nat×Nat)) (ops:List CO) (st:St) (Q:Ex→St→Prop) :
  W X M (.region n (some (p :: ps)) ops) st Q=X8 X M st.nx 0 false ops st.sl st.hp (ZkT ops (p :: ps) (Zn3 st.m (st.nx+64*n) Q)):=Zo6 X M n _ ops st Q
def Zm9 (c:ZE) (Q:Ex→St→Prop):Ex→St→Prop
 | .normal,st=>W X M c st Q
 | e,st=>Q e st
def blkQ (id:Nat) (Q:Ex→St→Prop):Ex→St→Prop
 | .exit j,st=>if j=id then Q .normal st else Q (.exit j) st
 | e,st=>Q e st
@[go_sem] theorem Zqr (c:ZE) (Q:Ex→St→Prop) (st:St):Zm9 X M c Q .normal st=W X M c st Q:=rfl
@[go_sem] theorem thenQ_ret (c:ZE) (Q:Ex→St→Prop) (st:St):Zm9 X M c Q .ret st=Q .ret st:=rfl
@[go_sem] theorem ZrF (c:ZE) (Q:Ex→St→Prop) (id:Nat) (st:St):Zm9 X M c Q (.exit id) st=Q (.exit id) st:=rfl
@[go_sem] theorem Zrg (id:Nat) (Q:Ex→St→Prop) (st:St):blkQ id Q .normal st=Q .normal st:=rfl
@[go_sem] theorem blkQ_ret (id:Nat) (Q:Ex→St→Prop) (st:St):blkQ id Q .ret st=Q .ret st:=rfl
@[go_sem] theorem blkQ_exit (id j:Nat) (Q:Ex→St→Prop) (st:St):blkQ id Q (.exit j) st=if j=id then Q .normal st else Q (.exit j) st:=rfl
@[go_sem] theorem W_seq (a b:ZE) (st:St) (Q:Ex→St→Prop):W X M (.seq a b) st Q=W X M a st (Zm9 X M b Q):=by
 unfold W;rw[Zoq];cases h:Qi X M a st with
 | none=>rfl
 | some r=>obtain⟨e,aa⟩:=r;cases e<;>rfl
@[go_sem] theorem W_cond (c:Opd) (a b:ZE) (st:St) (Q:Ex→St→Prop) :
  W X M (.cond c a b) st Q=Vh (evO st.sl c) (W X M a st Q) (W X M b st Q):=by
 unfold W;rw[Zmw];cases h:evO st.sl c with
 | d x=>cases x with
  | bool t=>cases t<;>simp[ZcA,Vh]
  | _=>rfl
 | _=>rfl
@[go_sem] theorem W_block (id:Nat) (c:ZE) (st:St) (Q:Ex→St→Prop):W X M (.block id c) st Q=W X M c st (blkQ id Q):=by
 unfold W;rw[Zlf];cases h:Qi X M c st with
 | none=>rfl
 | some r=>
  obtain⟨e,aa⟩:=r;cases e with
  | exit j=>by_cases hj:j=id<;>simp[Zbs,hj,YJ,blkQ]
  | normal=>rfl
  | ret=>rfl
def keepQ (K:List Nat) (Q:Ex→St→Prop) (e:Ex) (st:St):Prop:=Q e { sl:=only K st.sl,hp:=st.hp,nx:=st.nx,m:=st.m }
@[go_sem] theorem keepQ_eq (K:List Nat) (Q:Ex→St→Prop) (e:Ex) (st:St):keepQ K Q e st=Q e { sl:=only K st.sl,hp:=st.hp,nx:=st.nx,m:=st.m }:=rfl
@[go_sem] theorem W_keep (K:List Nat) (c:ZE) (st:St) (Q:Ex→St→Prop):W X M (.keep K c) st Q=W X M c st (keepQ K Q):=by
 unfold W;rw[Zmx];cases h:Qi X M c st with
 | none=>rfl
 | some r=>rfl
def shutQ (id nm:Nat) (Q:Ex→St→Prop) (e:Ex) (st:St):Prop:=Q e { sl:=st.sl,hp:=Zon st.hp (Zff st.hp id nm (lkp st.hp id)),nx:=st.nx,m:=st.m }
@[go_sem] theorem shutQ_eq (id nm:Nat) (Q:Ex→St→Prop) (e:Ex) (st:St):shutQ id nm Q e st=Q e { sl:=st.sl,hp:=Zon st.hp (Zff st.hp id nm (lkp st.hp id)),nx:=st.nx,m:=st.m }:=rfl
def Zgr (c:ZE) (Q:Ex→St→Prop) (r:Option St):Prop:=stW r fun st=>W X M c st Q
@[go_sem] theorem ZrG (c:ZE) (Q:Ex→St→Prop) (st:St):Zgr X M c Q (some st)=W X M c st Q:=rfl
@[go_sem] theorem ZrH (c:ZE) (Q:Ex→St→Prop):Zgr X M c Q none=False:=rfl
@[go_sem] theorem linkW_ite (c:ZE) (Q:Ex→St→Prop) (p:Prop) [Decidable p] (a b:Option St):Zgr X M c Q (if p then a else b)=((p→Zgr X M c Q a)∧(¬p→Zgr X M c Q b)):=by
 by_cases h:p<;>simp[h]
@[go_sem] theorem W_link (fl:Bool) (id:Nat) (i:Opd) (j:Nat) (c:ZE) (st:St) (Q:Ex→St→Prop):W X M (.link fl id i j c) st Q=Zgr X M c (shutQ id st.nx Q) (ZaG fl id i j st):=by
 unfold W Zgr;rw[Zmy];cases h:ZaG fl id i j st with
 | none=>rfl
 | some st1=>
  simp only[Zc,YJ,W];cases h1:Qi X M c st1 with
  | none=>rfl
  | some q=>rfl
@[go_sem] theorem W_melt (c:ZE) (st:St) (Q:Ex→St→Prop):W X M (.melt c) st Q=W X M c { sl:=st.sl,hp:=Zd7 ZdB st.hp,nx:=st.nx,m:=st.m } Q:=by
 unfold W;rw[Zmz];rfl
def LW (c:ZE) (K:List Nat) (st:St) (Q:Ex→St→Prop):Prop:=stW (Zbu X M c K st) fun r=>Q r.1 r.2
@[congr] theorem LW_congr {c:ZE} {K K' : List Nat} {st aa : St} {Q:Ex→St→Prop} (hk:K=K') (h:st=aa):LW X M c K st Q=LW X M c K' aa Q:=by rw[h,hk]
@[go_sem] theorem W_loop (c:ZE) (st:St) (Q:Ex→St→Prop):W X M (.loop c) st Q=LW X M c (Uk st.sl) st Q:=by
 unfold W LW;rw[ZmA]
def Zgs (c:ZE) (K:List Nat) (Q:Ex→St→Prop):Ex→St→Prop
 | .normal,st=>LW X M c K st Q
 | e,st=>Q e st
@[go_sem] theorem Zqs (c:ZE) (K:List Nat) (Q:Ex→St→Prop) (st:St):Zgs X M c K Q .normal st=LW X M c K st Q:=rfl
@[go_sem] theorem nextQ_ret (c:ZE) (K:List Nat) (Q:Ex→St→Prop) (st:St):Zgs X M c K Q .ret st=Q .ret st:=rfl
@[go_sem] theorem ZrI (c:ZE) (K:List Nat) (Q:Ex→St→Prop) (id:Nat) (st:St):Zgs X M c K Q (.exit id) st=Q (.exit id) st:=rfl
theorem Qn {c:ZE} {K:List Nat} {st:St} {Q:Ex→St→Prop} (h:W X M c (VX K st) (Zgs X M c K Q)):LW X M c K st Q:=by
 unfold W at h;cases hv:Qi X M c (VX K st) with
 | none=>rw[hv] at h;exact h.elim
 | some r=>
  rw[hv] at h;obtain⟨e,aa⟩:=r;unfold LW;cases e with
  | normal=>rw[Zlg X M hv];exact h
  | exit id=>rw[Zg1 X M (by simp) hv];exact h
  | ret=>rw[Zg1 X M (by simp) hv];exact h
def ZhV (sl:Sl):Sl→Sl
 | []=>sl
 | (k,v) :: r=>ZhV (ins sl k v) r
def Zcv (hp:Hp):Hp→Hp
 | []=>hp
 | (k,o) :: r=>Zcv (ins hp k o) r
theorem LW_ind {α:Type} (S:α→St) (I:α→Prop) (μ:α→Nat) {c:ZE} {K:List Nat} {Q:Ex→St→Prop}
  (step:∀ a,I a→(∀ b st,I b→μ b<μ a→VX K st=S b→LW X M c K st Q)→W X M c (S a) (Zgs X M c K Q)) :
  ∀ a st,I a→VX K st=S a→LW X M c K st Q:=by
 have aa:∀ n a st,μ a=n→I a→VX K st=S a→LW X M c K st Q:=by
  intro n
  induction n using Nat.strongRecOn with
  | ind n ih=>
   intro a st hn ha hs;refine Qn X M ?_;rw[hs];exact step a ha fun b ab hb ae ad=>ih (μ b) (by omega) b ab rfl hb ad
 exact fun a st ha hs=>aa _ a st rfl ha hs
theorem Zdt {α:Type} (u:α→Sl) (uh:α→Hp) (I:α→Prop) (μ:α→Nat) (a:α) {c:ZE} {K:List Nat} {Q:Ex→St→Prop} {st st0:St}
  (hc:VX K st=st0) (ha:I a) (h0:(⟨ZhV st0.sl (u a),Zcv st0.hp (uh a),st0.nx,st0.m⟩:St)=st0)
  (step:∀ a,I a→(∀ b st,I b→μ b<μ a→VX K st=⟨ZhV st0.sl (u b),Zcv st0.hp (uh b),st0.nx,st0.m⟩→LW X M c K st Q)→W X M c ⟨ZhV st0.sl (u a),Zcv st0.hp (uh a),st0.nx,st0.m⟩ (Zgs X M c K Q)) :
  LW X M c K st Q:=
 LW_ind X M (fun a=>⟨ZhV st0.sl (u a),Zcv st0.hp (uh a),st0.nx,st0.m⟩) I μ step a st ha (hc.trans h0.symm)
def ZjH (m:Nat) (rs:List ZhY) (R:AV×List Zh→Prop):Ex→St→Prop:=fun e st=>stW (JO m rs (some (e,st))) R
def resW (m:Nat) (hp:Hp) (R:AV×List Zh→Prop) (vs:Option (List AV)):Prop:=stW vs fun vs=>R (YQ m hp (U6 vs))
@[go_sem] theorem resW_some (m:Nat) (hp:Hp) (R:AV×List Zh→Prop) (vs:List AV):resW m hp R (some vs)=R (YQ m hp (U6 vs)):=rfl
@[go_sem] theorem resW_none (m:Nat) (hp:Hp) (R:AV×List Zh→Prop):resW m hp R none=False:=rfl
@[go_sem] theorem endQ_ret (m:Nat) (rs:List ZhY) (R:AV×List Zh→Prop) (st:St):ZjH m rs R .ret st=resW m st.hp R (Qb (ZgZ st) rs):=by
 simp only[ZjH,JO,Ut];rfl
@[go_sem] theorem Zrh (m:Nat) (rs:List ZhY) (R:AV×List Zh→Prop) (st:St):ZjH m rs R .normal st=resW m st.hp R (Qb (ZgZ st) rs):=by
 simp only[ZjH,JO,Ut];rfl
theorem Zo7 {f:Nat} {as:List AV} {h:List Zh} (fn:Z6) {R:AV×List Zh→Prop} (hx:X f=some (.text fn)) (hl:as.length≤fn.nt)
  (hr:W X M fn.body { sl:=YB 0 as,hp:=YP 0 h,nx:=h.length,m:=h.length } (ZjH h.length fn.res R)):∃ r,Zl X M f as h=some r∧R r:=by
 unfold W at hr;cases hv:Qi X M fn.body { sl:=YB 0 as,hp:=YP 0 h,nx:=h.length,m:=h.length } with
 | none=>rw[hv] at hr;exact hr.elim
 | some q=>
  rw[hv] at hr;obtain⟨e,st⟩:=q;simp only[YJ,ZjH] at hr;cases hk:JO h.length fn.res (some (e,st)) with
  | none=>rw[hk] at hr;exact hr.elim
  | some r=>rw[hk] at hr;exact⟨r,Zps X M hx hl (by rw[hv];exact hk),hr⟩
theorem callE {f:Nat} {as:List AV} {h:List Zh} (fn:Z6) {r:AV×List Zh} (hx:X f=some (.text fn)) (hl:as.length≤fn.nt)
  (hr:W X M fn.body { sl:=YB 0 as,hp:=YP 0 h,nx:=h.length,m:=h.length } (ZjH h.length fn.res fun q=>q=r)):Zl X M f as h=some r:=by
 obtain⟨q,hq,rfl⟩:=Zo7 X M fn hx hl hr;exact hq
end
@[go_sem] theorem vopE_move (C:Orc) (M:Zg) (sl:Sl) (hp:Hp) (base:Nat) (x:Opd):vop C M sl hp base (.move x)=Qk (evO sl x):=by simp only[vop]
@[go_sem] theorem Zri (C:Orc) (M:Zg) (sl:Sl) (hp:Hp) (base:Nat) (s:Option Nat) (x:Opd):vop C M sl hp base (.assign s x)=Zau base s (evO sl x):=by simp only[vop]
@[go_sem] theorem vopE_pick (C:Orc) (M:Zg) (sl:Sl) (hp:Hp) (base:Nat) (c a b:Opd):vop C M sl hp base (.pick c a b)=Zbm (evO sl a) (evO sl b) (evO sl c):=by simp only[vop]
@[go_sem] theorem ZrJ (C:Orc) (M:Zg) (sl:Sl) (hp:Hp) (base:Nat) (slc:List (Option Nat)) (cs:List AV):vop C M sl hp base (.alloc slc cs)=Zbn slc base cs:=by simp only[vop]
@[go_sem] theorem vopE_box (C:Orc) (M:Zg) (sl:Sl) (hp:Hp) (base:Nat) (x:Opd):vop C M sl hp base (.box x)=Zof base (evO sl x):=by simp only[vop]
@[go_sem] theorem ZrK (C:Orc) (M:Zg) (sl:Sl) (hp:Hp) (base:Nat) (zs:List AV) (ps:List (Nat×Nat×Opd)):vop C M sl hp base (.build zs ps)=ZgD zs (evP sl ps):=by simp only[vop]
@[go_sem] theorem Zqt (C:Orc) (M:Zg) (sl:Sl) (hp:Hp) (base:Nat) (s:Nat) (xs:List Opd):vop C M sl hp base (.buildSl s xs)=buildSl hp base s (evL sl xs):=by simp only[vop]
@[go_sem] theorem vopE_load (C:Orc) (M:Zg) (sl:Sl) (hp:Hp) (base:Nat) (g:Bool) (s:Nat) (a:Opd):vop C M sl hp base (.load g s a)=Yq (Vo hp g s (evO sl a)):=by simp only[vop]
@[go_sem] theorem ZrL (C:Orc) (M:Zg) (sl:Sl) (hp:Hp) (base:Nat) (slc:List (Option Nat)) (s:Nat) (a x:Opd):vop C M sl hp base (.store slc s a x)=Za2 (Uh hp slc s base (evO sl x).cells (evO sl a)):=by simp only[vop]
@[go_sem] theorem ZpU (C:Orc) (M:Zg) (sl:Sl) (hp:Hp) (base:Nat) (x:Opd):vop C M sl hp base (.nilCheck x)=WQ (evO sl x):=by simp only[vop]
@[go_sem] theorem vopE_bin (C:Orc) (M:Zg) (sl:Sl) (hp:Hp) (base:Nat) (op:BinOp) (eq:Bool) (x y:Opd):vop C M sl hp base (.bin op eq x y)=Zfo op eq (evO sl x) (evO sl y):=by simp only[vop]
@[go_sem] theorem vopE_un (C:Orc) (M:Zg) (sl:Sl) (hp:Hp) (base:Nat) (op:UnOp) (x:Opd):vop C M sl hp base (.un op x)=Yq (vun op (evO sl x)):=by simp only[vop]
@[go_sem] theorem vopE_eqA (C:Orc) (M:Zg) (sl:Sl) (hp:Hp) (base:Nat) (neg:Bool) (ks:List Nat) (x y:Opd):vop C M sl hp base (.eqA neg ks x y)=ZjN neg ks (evO sl x) (evO sl y):=by simp only[vop]
@[go_sem] theorem ZrM (C:Orc) (M:Zg) (sl:Sl) (hp:Hp) (base:Nat) (k:IntKind) (x:Opd):vop C M sl hp base (.convI k x)=convI k (evO sl x):=by simp only[vop]
@[go_sem] theorem ZrN (C:Orc) (M:Zg) (sl:Sl) (hp:Hp) (base:Nat) (x:Opd):vop C M sl hp base (.convS x)=convS (evO sl x):=by simp only[vop]
@[go_sem] theorem vopE_fn (C:Orc) (M:Zg) (sl:Sl) (hp:Hp) (base:Nat) (f:Nat) (cs:List Opd):vop C M sl hp base (.fn f cs)=Yq (cloV f (evL sl cs)):=by simp only[vop]
@[go_sem] theorem vopE_make (C:Orc) (M:Zg) (sl:Sl) (hp:Hp) (base:Nat) (s b:Nat) (z:D) (l c:Opd):vop C M sl hp base (.make s b z l c)=bnd (idx (evO sl l)) fun l=>bnd (idx (evO sl c)) fun c=>ZiO base s b z l c:=by simp only[vop]
@[go_sem] theorem ZrO (C:Orc) (M:Zg) (sl:Sl) (hp:Hp) (base:Nat) (s:Nat) (x:Opd) (lo hi:Option Opd):vop C M sl hp base (.slice s x lo hi)=Yq (Yp hp s (evM sl lo) (evM sl hi) (evO sl x)):=by simp only[vop]
@[go_sem] theorem Zrj (C:Orc) (M:Zg) (sl:Sl) (hp:Hp) (base:Nat) (x:Opd) (lo hi:Option Opd):vop C M sl hp base (.sliceS x lo hi)=Yq (sliceS (evM sl lo) (evM sl hi) (evO sl x)):=by simp only[vop]
@[go_sem] theorem Zrk (C:Orc) (M:Zg) (sl:Sl) (hp:Hp) (base:Nat) (x hi mx:Opd):vop C M sl hp base (.slice0 x hi mx)=Yq (slice0 hp (evO sl x) (idx (evO sl hi)) (idx (evO sl mx))):=by simp only[vop]
@[go_sem] theorem ZrP (C:Orc) (M:Zg) (sl:Sl) (hp:Hp) (base:Nat) (off:Nat) (x:Opd):vop C M sl hp base (.shift off x)=YN off (evO sl x):=by simp only[vop]
@[go_sem] theorem vopE_part (C:Orc) (M:Zg) (sl:Sl) (hp:Hp) (base:Nat) (g:Bool) (s off:Nat) (x:Opd):vop C M sl hp base (.part g s off x)=Yq (ZdA g s off (evO sl x)):=by simp only[vop]
@[go_sem] theorem vopE_iaS (C:Orc) (M:Zg) (sl:Sl) (hp:Hp) (base:Nat) (s:Nat) (x i:Opd):vop C M sl hp base (.iaS s x i)=bnd (idx (evO sl i)) fun n=>Zcz hp s (evO sl x) n:=by simp only[vop]
@[go_sem] theorem vopE_iaA (C:Orc) (M:Zg) (sl:Sl) (hp:Hp) (base:Nat) (len s:Nat) (x i:Opd):vop C M sl hp base (.iaA len s x i)=bnd (idx (evO sl i)) fun n=>ZgF (evO sl x) n len s:=by simp only[vop]
@[go_sem] theorem vopE_ixS (C:Orc) (M:Zg) (sl:Sl) (hp:Hp) (base:Nat) (x i:Opd):vop C M sl hp base (.ixS x i)=bnd (idx (evO sl i)) fun n=>Zme n (evO sl x):=by simp only[vop]
@[go_sem] theorem vopE_ixA (C:Orc) (M:Zg) (sl:Sl) (hp:Hp) (base:Nat) (g:Bool) (s len:Nat) (x i:Opd):vop C M sl hp base (.ixA g s len x i)=bnd (idx (evO sl i)) fun n=>Zoh g s len n (evO sl x):=by simp only[vop]
@[go_sem] theorem vopE_nth (C:Orc) (M:Zg) (sl:Sl) (hp:Hp) (base:Nat) (i:Nat) (x:Opd):vop C M sl hp base (.nth i x)=Zk2 i (evO sl x):=by simp only[vop]
@[go_sem] theorem vopE_len (C:Orc) (M:Zg) (sl:Sl) (hp:Hp) (base:Nat) (x:Opd):vop C M sl hp base (.len x)=bnd (JF hp (evO sl x)) fun n=>Qk (.d (.int .i64 n)):=by simp only[vop]
@[go_sem] theorem vopE_lenS (C:Orc) (M:Zg) (sl:Sl) (hp:Hp) (base:Nat) (x:Opd):vop C M sl hp base (.lenS x)=bnd (ZnB (evO sl x)) fun n=>Qk (.d (.int .i64 n)):=by simp only[vop]
@[go_sem] theorem Zrl (C:Orc) (M:Zg) (sl:Sl) (hp:Hp) (base:Nat) (s b:Nat) (str flat:Bool) (x y:Opd):vop C M sl hp base (.append s b str flat x y)=Zk3 hp s b str flat base (evO sl x) (evO sl y):=by simp only[vop]
@[go_sem] theorem vopE_min (C:Orc) (M:Zg) (sl:Sl) (hp:Hp) (base:Nat) (x y:Opd):vop C M sl hp base (.min x y)=Ze9 (evO sl x) (evO sl y):=by simp only[vop]
@[go_sem] theorem vopE_max (C:Orc) (M:Zg) (sl:Sl) (hp:Hp) (base:Nat) (x y:Opd):vop C M sl hp base (.max x y)=Zfa (evO sl x) (evO sl y):=by simp only[vop]
@[go_sem] theorem vopE_call (C:Orc) (M:Zg) (sl:Sl) (hp:Hp) (base:Nat) (f:Opd) (as:List Opd):vop C M sl hp base (.call f as)=JL C M hp base (evL sl as) (evO sl f):=by simp only[vop]
@[go_sem] theorem Zrm (C:Orc) (M:Zg) (sl:Sl) (hp:Hp) (base:Nat) (s:Nat) (x lo hi mx:Opd):vop C M sl hp base (.slice3 s x lo hi mx)=Yq (slice3 hp (evO sl x) (idx (evO sl lo)) (idx (evO sl hi)) (idx (evO sl mx))):=by simp only[vop]
@[go_sem] theorem ZrQ (C:Orc) (M:Zg) (sl:Sl) (hp:Hp) (base:Nat) (s:Nat) (z:D) (x:Opd):vop C M sl hp base (.clear s z x)=Za2 (Zaq hp s z (evO sl x)):=by simp only[vop]
@[go_sem] theorem Zrn (C:Orc) (M:Zg) (sl:Sl) (hp:Hp) (base:Nat) (s n:Nat) (xs:List Opd):vop C M sl hp base (.buildT s n xs)=buildT hp base s n (evL sl xs):=by simp only[vop]
@[go_sem] theorem vopE_appT (C:Orc) (M:Zg) (sl:Sl) (hp:Hp) (base:Nat) (s b:Nat) (f:Bool) (x y:Opd):vop C M sl hp base (.appT s b f x y)=appT hp s b base (evO sl x) (evO sl y):=by simp only[vop]
@[go_sem] theorem vopE_asgT (C:Orc) (M:Zg) (sl:Sl) (hp:Hp) (base:Nat) (s n:Nat) (x:Opd):vop C M sl hp base (.asgT s n x)=asgT base s n (evO sl x):=by simp only[vop]
@[go_sem] theorem ZrR (C:Orc) (M:Zg) (sl:Sl) (hp:Hp) (base:Nat) (s b n:Nat) (z:D) (l c:Opd):vop C M sl hp base (.makeT s b n z l c)=bnd (idx (evO sl l)) fun l=>bnd (idx (evO sl c)) fun c=>makeT base s b n z l c:=by simp only[vop]
@[go_sem] theorem ZrS (C:Orc) (M:Zg) (sl:Sl) (hp:Hp) (base:Nat):vop C M sl hp base .stuck=none:=by simp only[vop]
@[go_sem] theorem Zn4 (hp:Hp) (n:Nat) (aa:List Nat):Qz hp n [] aa=aa:=by cases n<;>rfl
@[go_sem] theorem tidy_d (hp:Hp) (ids:List Nat) (x:D):J6 hp ids (.d x)=.d x:=rfl
@[go_sem] theorem tidy_nil (hp:Hp) (ids:List Nat):J6 hp ids .nil=.nil:=rfl
@[go_sem] theorem tidy_junk (hp:Hp) (ids:List Nat):J6 hp ids .junk=.junk:=rfl
@[go_sem] theorem tidy_tup (hp:Hp) (ids:List Nat) (vs:List AV):J6 hp ids (.tup vs)=ren (Yx ids) (kill (Zbq hp ids (Zo (.tup vs))) (.tup vs)):=rfl
@[go_sem] theorem tidy_agg (hp:Hp) (ids:List Nat) (vs:List AV):J6 hp ids (.agg vs)=ren (Yx ids) (kill (Zbq hp ids (Zo (.agg vs))) (.agg vs)):=rfl
@[go_sem] theorem tidy_clo (hp:Hp) (ids:List Nat) (f:Nat) (vs:List AV):J6 hp ids (.clo f vs)=ren (Yx ids) (kill (Zbq hp ids (Zo (.clo f vs))) (.clo f vs)):=rfl
@[go_sem] theorem tidy_nilp (hp:Hp) (ids:List Nat):J6 hp ids .nilp=.nilp:=rfl
@[go_sem] theorem tidy_nili (hp:Hp) (ids:List Nat):J6 hp ids .nili=.nili:=rfl
@[go_sem] theorem tidy_pim (hp:Hp) (ids:List Nat) (cs:List D):J6 hp ids (.pim cs)=.pim cs:=rfl
@[go_sem] theorem tidy_ptr (hp:Hp) (ids:List Nat) (id o:Nat):J6 hp ids (.ptr id o)=if JN hp ids id=true then .ptr (Yx ids id) o else .junk:=by
 simp only[J6,Zo,Zp,Zf,Zbq];split<;>simp[kill,ZB,ZQ,ren,JE,Zai]
@[go_sem] theorem tidy_prow (hp:Hp) (ids:List Nat) (id s i o:Nat):J6 hp ids (.prow id s i o)=if JN hp ids id=true then .prow (Yx ids id) s i o else .junk:=by
 simp only[J6,Zo,Zp,Zf,Zbq];split<;>simp[kill,ZB,ZQ,ren,JE,Zai]
@[go_sem] theorem tidy_own (hp:Hp) (ids:List Nat) (id:Nat):J6 hp ids (.own id)=if JN hp ids id=true then .own (Yx ids id) else .junk:=by
 simp only[J6,Zo,Zp,Zf,Zbq];split<;>simp[kill,ZB,ZQ,ren,JE,Zai]
@[go_sem] theorem tidy_ownv (hp:Hp) (ids:List Nat) (id a b:Nat):J6 hp ids (.ownv id a b)=if JN hp ids id=true then .ownv (Yx ids id) a b else .junk:=by
 simp only[J6,Zo,Zp,Zf,Zbq];split<;>simp[kill,ZB,ZQ,ren,JE,Zai]
@[go_sem] theorem ZrT (hp:Hp) (x:D):YQ 0 hp (.d x)=(.d x,[]):=by
 simp[YQ,Zo,Zp,Zf,Y7,Zn4,tidy_d,JI]
@[go_sem] theorem minI_eq (a b:Int):minI a b=min a b:=by unfold minI;split<;>omega
@[go_sem] theorem maxI_eq (a b:Int):maxI a b=max a b:=by unfold maxI;split<;>omega
@[go_sem] theorem negIf_f (r:Bool):ZgE false r=r:=rfl
@[go_sem] theorem negIf_t (r:Bool):ZgE true r=!r:=rfl
@[go_sem] theorem opt1_some (v:AV):Yq (some v)=Qk v:=rfl
@[go_sem] theorem opt1_none:Yq none=none:=rfl
@[go_sem] theorem vbin_int (op:BinOp) (k k' : IntKind) (a b:Int):vbin op (.d (.int k a)) (.d (.int k' b))=V9 op k k' a b:=rfl
@[go_sem] theorem binV_int (op:BinOp) (eq:Bool) (k k' : IntKind) (a b:Int):Zfo op eq (.d (.int k a)) (.d (.int k' b))=Yq (V9 op k k' a b):=rfl
@[go_sem] theorem binV_str (op:BinOp) (eq:Bool) (a b:List UInt8):Zfo op eq (.d (.str a)) (.d (.str b))=Yq (asD (Zkp op a b)):=rfl
@[go_sem] theorem int2_add (k:IntKind) (a b:Int):V9 .add k k a b=some (.d (.int k (k.wrap (a+b)))):=by simp[V9,Vm,asD,Zc]
@[go_sem] theorem int2_sub (k:IntKind) (a b:Int):V9 .sub k k a b=some (.d (.int k (k.wrap (a-b)))):=by simp[V9,Vm,asD,Zc]
@[go_sem] theorem int2_mul (k:IntKind) (a b:Int):V9 .mul k k a b=some (.d (.int k (k.wrap (a*b)))):=by simp[V9,Vm,asD,Zc]
@[go_sem] theorem int2_quo (k:IntKind) (a b:Int):V9 .quo k k a b=if b=0 then none else some (.d (.int k (k.wrap (a.tdiv b)))):=by simp only[V9,Vm,asD,if_true];split<;>rfl
@[go_sem] theorem int2_rem (k:IntKind) (a b:Int):V9 .rem k k a b=if b=0 then none else some (.d (.int k (a.tmod b))):=by simp only[V9,Vm,asD,if_true];split<;>rfl
@[go_sem] theorem int2_eql (k:IntKind) (a b:Int):V9 .eql k k a b=some (.d (.bool (decide (a=b)))):=by simp[V9,Vm,asD,Zc,BEq.beq]
@[go_sem] theorem int2_neq (k:IntKind) (a b:Int):V9 .neq k k a b=some (.d (.bool (!decide (a=b)))):=by simp[V9,Vm,asD,Zc,bne,BEq.beq]
@[go_sem] theorem int2_lss (k:IntKind) (a b:Int):V9 .lss k k a b=some (.d (.bool (decide (a<b)))):=by simp[V9,Vm,asD,Zc]
@[go_sem] theorem int2_leq (k:IntKind) (a b:Int):V9 .leq k k a b=some (.d (.bool (decide (a≤b)))):=by simp[V9,Vm,asD,Zc]
@[go_sem] theorem int2_gtr (k:IntKind) (a b:Int):V9 .gtr k k a b=some (.d (.bool (decide (b<a)))):=by simp[V9,Vm,asD,Zc]
@[go_sem] theorem int2_geq (k:IntKind) (a b:Int):V9 .geq k k a b=some (.d (.bool (decide (b≤a)))):=by simp[V9,Vm,asD,Zc]
@[go_sem] theorem guardV_t (b:Bool):ZaB true (.d (.bool b))=some b:=by cases b<;>rfl
def nb (b:Bool):Bool:=!b
@[go_sem] theorem nb_true:nb true=false:=rfl
@[go_sem] theorem nb_false:nb false=true:=rfl
@[go_sem] theorem nb_eq (b:Bool):(nb b=true)=(b=false):=by cases b<;>simp[nb]
@[go_sem] theorem guardV_f (b:Bool):ZaB false (.d (.bool b))=some (nb b):=by cases b<;>rfl
@[go_sem] theorem ZrU (w:Bool):ZaB w (.tup [])=some false:=rfl
@[go_sem] theorem Zqu (a b:Bool):ZaB true (Zci a (.d (.bool b)))=some (a&&b):=by cases a<;>cases b<;>rfl
@[go_sem] theorem Zqv (a b:Bool):ZaB false (Zci a (.d (.bool b)))=some (a&&nb b):=by cases a<;>cases b<;>rfl
@[go_sem] theorem iteV_true (v:AV):Zci true v=v:=rfl
@[go_sem] theorem ZrV (v:AV):Zci false v=.tup []:=rfl
@[go_sem] theorem ZrW (a b:AV):Zbm a b (.d (.bool true))=Qk a:=rfl
@[go_sem] theorem Zro (a b:AV):Zbm a b (.d (.bool false))=Qk b:=rfl
@[go_sem] theorem pickV_or (b c:Bool):Zbm (.d (.bool true)) (Zci (nb b) (.d (.bool c))) (.d (.bool b))=Qk (.d (.bool (b || c))):=by cases b<;>rfl
@[go_sem] theorem pickV_and (b c:Bool):Zbm (Zci b (.d (.bool c))) (.d (.bool false)) (.d (.bool b))=Qk (.d (.bool (b&&c))):=by cases b<;>rfl
theorem ZrX (a b:AV) (t:Bool):Zbm a b (.d (.bool t))=if t=true then Qk a else Qk b:=by cases t<;>rfl
@[go_sem] theorem dec_or (p q:Prop) [Decidable p] [Decidable q]:(decide p || decide q)=decide (p∨q):=by simp
@[go_sem] theorem dec_and (p q:Prop) [Decidable p] [Decidable q]:(decide p&&decide q)=decide (p∧q):=by simp
@[go_sem] theorem dec_not (p:Prop) [Decidable p]:(!decide p)=decide (¬p):=by simp
attribute [go_sem] Bool.or_eq_false_iff decide_eq_true_eq decide_eq_false_iff_not Bool.and_eq_true Bool.or_eq_true Bool.not_eq_true' Bool.not_eq_false' not_or Decidable.not_not
@[go_sem] theorem evO_t (sl:Sl) (n:Nat):evO sl (.t n)=gs sl n:=rfl
@[go_sem] theorem evO_v (sl:Sl) (a:AV):evO sl (.v a)=a:=rfl
@[go_sem] theorem evO_f (sl:Sl) (n:Nat):evO sl (.f n)=.clo n []:=rfl
@[go_sem] theorem gs_hit (k:Nat) (v:AV) (r:Sl):gs ((k,v) :: r) k=v:=by simp[gs,lkp,JC]
@[go_sem] theorem gs_cons (k t:Nat) (v:AV) (r:Sl):gs ((k,v) :: r) t=if k=t then v else gs r t:=by
 by_cases h:k=t<;>simp[gs,lkp,h,JC]
@[go_sem] theorem gs_nil (t:Nat):gs [] t=.junk:=rfl
attribute [go_sem] Zag.eq_1 Zag.eq_2
attribute [go_sem] V8.eq_1 V8.eq_2 V8.eq_3 V8.eq_4
attribute [go_sem] Zdb.eq_1 Zdb.eq_2 Zdb.eq_3 Zdb.eq_4
attribute [go_sem] Ur.eq_1 Ur.eq_2
attribute [go_sem] St.hp.eq_1
attribute [go_sem] Jm.eq_1 Jm.eq_2 Jm.eq_3
attribute [go_sem] JC.eq_1 JC.eq_2
attribute [go_sem] agg2.eq_1 agg2.eq_2 agg2.eq_3
attribute [go_sem] ins.eq_1 ins.eq_2
attribute [go_sem] Zah.eq_1 Zah.eq_2
attribute [go_sem] QP.eq_1 QP.eq_2 QP.eq_3
attribute [go_sem] St.m.eq_1
attribute [go_sem] bnd.eq_1 bnd.eq_2
attribute [go_sem] Y2.eq_1 Y2.eq_2 Y2.eq_3
attribute [go_sem] Zkp.eq_1 Zkp.eq_2 Zkp.eq_3 Zkp.eq_4
attribute [go_sem] AV.cells.eq_1 AV.cells.eq_2 AV.cells.eq_3 AV.cells.eq_4 AV.cells.eq_5 AV.cells.eq_6 AV.cells.eq_7 AV.cells.eq_8 AV.cells.eq_9 AV.cells.eq_10 AV.cells.eq_11 AV.cells.eq_12 AV.cells.eq_13 AV.cells.eq_14 AV.cells.eq_15
attribute [go_sem] ZQ.eq_1 ZQ.eq_2 ZQ.eq_3 ZQ.eq_4 ZQ.eq_5 ZQ.eq_6
attribute [go_sem] AV.solid.eq_1 AV.solid.eq_2 AV.solid.eq_3 AV.solid.eq_4
attribute [go_sem] Yt.eq_1 Yt.eq_2
attribute [go_sem] Qb.eq_1 Qb.eq_2
attribute [go_sem] Yu.eq_1 Yu.eq_2
attribute [go_sem] V7.eq_1
attribute [go_sem] JF.eq_1 JF.eq_2 JF.eq_3 JF.eq_4 JF.eq_5
attribute [go_sem] YE.eq_1 YE.eq_2
attribute [go_sem] D.flat.eq_1
attribute [go_sem] give.eq_1 give.eq_2
attribute [go_sem] D.beq1.eq_1 D.beq1.eq_2 D.beq1.eq_3 D.beq1.eq_4
attribute [go_sem] Zai.eq_1 Zai.eq_2 Zai.eq_3 Zai.eq_4 Zai.eq_5 Zai.eq_6
attribute [go_sem] not1.eq_1 not1.eq_2
attribute [go_sem] QJ.eq_1 QJ.eq_2 QJ.eq_3 QJ.eq_4
attribute [go_sem] St.nx.eq_1
attribute [go_sem] Zp.eq_1 Zp.eq_2 Zp.eq_3
attribute [go_sem] JE.eq_1 JE.eq_2 JE.eq_3
attribute [go_sem] Zdc.eq_1 Zdc.eq_2
attribute [go_sem] vun.eq_1 vun.eq_2 vun.eq_3
attribute [go_sem] toD.eq_1 toD.eq_2
attribute [go_sem] Zf.eq_1 Zf.eq_2 Zf.eq_3 Zf.eq_4 Zf.eq_5 Zf.eq_6 Zf.eq_7 Zf.eq_8 Zf.eq_9 Zf.eq_10 Zf.eq_11 Zf.eq_12 Zf.eq_13 Zf.eq_14 Zf.eq_15
attribute [go_sem] D.plain.eq_1 D.plain.eq_2 D.plain.eq_3 D.plain.eq_4 D.plain.eq_5
attribute [go_sem] Zm.eq_1
attribute [go_sem] ZB.eq_1 ZB.eq_2 ZB.eq_3
attribute [go_sem] VD.eq_1 VD.eq_2
attribute [go_sem] Zo.eq_1 Zo.eq_2
attribute [go_sem] ZlK.eq_1
attribute [go_sem] Zd7.eq_1 Zd7.eq_2
attribute [go_sem] Uo.eq_1 Uo.eq_2 Uo.eq_3 Uo.eq_4
attribute [go_sem] St.sl.eq_1
attribute [go_sem] ZnB.eq_1 ZnB.eq_2
attribute [go_sem] Y3.eq_1 Y3.eq_2
attribute [go_sem] JD.eq_1 JD.eq_2
attribute [go_sem] ren.eq_1 ren.eq_2
attribute [go_sem] kill.eq_1 kill.eq_2
attribute [go_sem] lkp.eq_1 lkp.eq_2
attribute [go_sem] Zio.eq_1 Zio.eq_2 Zio.eq_3
attribute [go_sem] QW.eq_1 QW.eq_2
attribute [go_sem] beqL.eq_1 beqL.eq_2 beqL.eq_3
attribute [go_sem] D.cells.eq_1 D.cells.eq_2 D.cells.eq_3 D.cells.eq_4 D.cells.eq_5
attribute [go_sem] ZfR.eq_1 ZfR.eq_2
attribute [go_sem] Zin.eq_1 Zin.eq_2
attribute [go_sem] neg1.eq_1 neg1.eq_2
attribute [go_sem] Zd8.eq_1 Zd8.eq_2 Zd8.eq_3
attribute [go_sem] ZfS.eq_1 ZfS.eq_2
attribute [go_sem] X0.eq_1 X0.eq_2 X0.eq_3
attribute [go_sem] asD.eq_1
attribute [go_sem] Vm.eq_1 Vm.eq_2 Vm.eq_3 Vm.eq_4 Vm.eq_5 Vm.eq_6 Vm.eq_7 Vm.eq_8 Vm.eq_9 Vm.eq_10 Vm.eq_11 Vm.eq_12 Vm.eq_13 Vm.eq_14 Vm.eq_15 Vm.eq_16 Vm.eq_17
attribute [go_sem] Zch.eq_1 Zch.eq_2 Zch.eq_3 Zch.eq_4 Zch.eq_5
attribute [go_sem] D.one.eq_1 D.one.eq_2 D.one.eq_3 D.one.eq_4 D.one.eq_5
attribute [go_sem] freeze.eq_1 freeze.eq_2
attribute [go_sem] UR.eq_1
attribute [go_sem] loOf.eq_1 loOf.eq_2
attribute [go_sem] Eff.on.eq_1
attribute [go_sem] appT.eq_1
attribute [go_sem] W0.eq_1 W0.eq_2
attribute [go_sem] cloV.eq_1
attribute [go_sem] slice0.eq_1 slice0.eq_2
attribute [go_sem] evM.eq_1 evM.eq_2
attribute [go_sem] Wg.eq_1 Wg.eq_2
attribute [go_sem] hiOf.eq_1 hiOf.eq_2
attribute [go_sem] ZdA.eq_1 ZdA.eq_2 ZdA.eq_3
attribute [go_sem] Znd.eq_1
attribute [go_sem] idx.eq_1 idx.eq_2
attribute [go_sem] Yp.eq_1 Yp.eq_2 Yp.eq_3 Yp.eq_4 Yp.eq_5
attribute [go_sem] WI.eq_1 WI.eq_2 WI.eq_3
attribute [go_sem] ZN.eq_1 ZN.eq_2
attribute [go_sem] D.notSl.eq_1 D.notSl.eq_2
attribute [go_sem] Zpe.eq_1 Zpe.eq_2
attribute [go_sem] UV.eq_1 UV.eq_2 UV.eq_3 UV.eq_4 UV.eq_5 UV.eq_6
attribute [go_sem] VF.eq_1 VF.eq_2 VF.eq_3
attribute [go_sem] CO.guard.eq_1
attribute [go_sem] Za2.eq_1
attribute [go_sem] W6.eq_1
attribute [go_sem] US.eq_1 US.eq_2 US.eq_3
attribute [go_sem] Zdv.eq_1
attribute [go_sem] Eff.adds.eq_1
attribute [go_sem] Ze8.eq_1 Ze8.eq_2
attribute [go_sem] Yx.eq_1 Yx.eq_2
attribute [go_sem] Zd.eq_1 Zd.eq_2
attribute [go_sem] Zb.eff.eq_1
attribute [go_sem] Zbj.eq_1 Zbj.eq_2
attribute [go_sem] Zme.eq_1 Zme.eq_2
attribute [go_sem] Zbf.eq_1 Zbf.eq_2 Zbf.eq_3
attribute [go_sem] del.eq_1 del.eq_2
attribute [go_sem] ZgD.eq_1
attribute [go_sem] ZjK.eq_1 ZjK.eq_2
attribute [go_sem] WP.eq_1 WP.eq_2
attribute [go_sem] Zfa.eq_1 Zfa.eq_2
attribute [go_sem] D.isAgg.eq_1 D.isAgg.eq_2
attribute [go_sem] WQ.eq_1 WQ.eq_2 WQ.eq_3 WQ.eq_4 WQ.eq_5
attribute [go_sem] Zbn.eq_1
attribute [go_sem] slice3.eq_1
attribute [go_sem] UU.eq_1 UU.eq_2
attribute [go_sem] args.eq_1 args.eq_2
attribute [go_sem] Ze9.eq_1 Ze9.eq_2
attribute [go_sem] Zat.eq_1
attribute [go_sem] Zdw.eq_1 Zdw.eq_2 Zdy.eq_1 Zdy.eq_2
attribute [go_sem] Wj.eq_1
attribute [go_sem] evL.eq_1 evL.eq_2
attribute [go_sem] Zej.eq_1 Zej.eq_2 Zej.eq_3
attribute [go_sem] Wf.eq_1 Wf.eq_2 Wf.eq_3
attribute [go_sem] JI.eq_1 JI.eq_2
attribute [go_sem] Zgz.eq_1 Zgz.eq_2
attribute [go_sem] Eff.sets.eq_1
attribute [go_sem] JJ.eq_1 JJ.eq_2 JJ.eq_3
attribute [go_sem] Zdu.eq_1 Zdu.eq_2
attribute [go_sem] Zdz.eq_1 Zdz.eq_2
attribute [go_sem] Uh.eq_1 Uh.eq_2 Uh.eq_3
attribute [go_sem] Zoh.eq_1
attribute [go_sem] makeT.eq_1
attribute [go_sem] X2.eq_1 X2.eq_2
attribute [go_sem] Zpf.eq_1 Zpf.eq_2
attribute [go_sem] ZgB.eq_1 ZgB.eq_2
attribute [go_sem] UZ.eq_1 UZ.eq_2
attribute [go_sem] ZiO.eq_1
attribute [go_sem] UY.eq_1 UY.eq_2
attribute [go_sem] AV.atom.eq_1 AV.atom.eq_2 AV.atom.eq_3 AV.atom.eq_4 AV.atom.eq_5
attribute [go_sem] Eff.dels.eq_1
attribute [go_sem] Jr.eq_1 Jr.eq_2 Jr.eq_3
attribute [go_sem] mat.eq_1 mat.eq_2 mat.eq_3
attribute [go_sem] Zt.eq_1
attribute [go_sem] UX.eq_1 UX.eq_2
attribute [go_sem] ZjM.eq_1
attribute [go_sem] Zof.eq_1
attribute [go_sem] Jt.eq_1 Jt.eq_2
attribute [go_sem] Wh.eq_1
attribute [go_sem] Qd.eq_1 Qd.eq_2 Qd.eq_3 Qd.eq_4
attribute [go_sem] Zog.eq_1
attribute [go_sem] Zbg.eq_1 Zbg.eq_2
attribute [go_sem] Zek.eq_1 Zek.eq_2
attribute [go_sem] Zk5.eq_1 Zk5.eq_2
attribute [go_sem] Zcy.eq_1 Zcy.eq_2 Zcy.eq_3 Zcy.eq_4
attribute [go_sem] ZcQ.eq_1 ZcQ.eq_2
attribute [go_sem] Zar.eq_1 Zar.eq_2
attribute [go_sem] Zbi.eq_1 Zbi.eq_2 Zbi.eq_3 Zbi.eq_4 Zbi.eq_5
attribute [go_sem] ZjL.eq_1 ZjL.eq_2
attribute [go_sem] ZgC.eq_1
attribute [go_sem] convS.eq_1 convS.eq_2
attribute [go_sem] Zdx.eq_1 Zdx.eq_2
attribute [go_sem] CO.tl.eq_1
attribute [go_sem] Zbk.eq_1 Zbk.eq_2 Zbk.eq_3 Zbk.eq_4
attribute [go_sem] CO.dst.eq_1
attribute [go_sem] teOf.eq_1
attribute [go_sem] Zmf.eq_1 Zmf.eq_2 Zmf.eq_3
attribute [go_sem] ZgA.eq_1
attribute [go_sem] Zk0.eq_1 Zk0.eq_2
attribute [go_sem] Zk1.eq_1
attribute [go_sem] Eff.val.eq_1
attribute [go_sem] sliceS.eq_1 sliceS.eq_2
attribute [go_sem] XI.eq_1 XI.eq_2 XI.eq_3
attribute [go_sem] Zbh.eq_1 Zbh.eq_2 Zbh.eq_3 Zbh.eq_4
attribute [go_sem] We.eq_1
attribute [go_sem] buildSl.eq_1 buildSl.eq_2
attribute [go_sem] Vo.eq_1 Vo.eq_2 Vo.eq_3 Vo.eq_4
attribute [go_sem] WF.eq_1 WF.eq_2 WF.eq_3 WF.eq_4 WF.eq_5
attribute [go_sem] Ze7.eq_1 Ze7.eq_2
attribute [go_sem] ZgF.eq_1
attribute [go_sem] evP.eq_1 evP.eq_2
attribute [go_sem] ZdB.eq_1 ZdB.eq_2
attribute [go_sem] Js.eq_1
attribute [go_sem] ZbX.eq_1
attribute [go_sem] ZiN.eq_1 ZiN.eq_2
attribute [go_sem] ZgE.eq_1
attribute [go_sem] YM.eq_1
attribute [go_sem] Zk4.eq_1
attribute [go_sem] bnT.eq_1 bnT.eq_2
attribute [go_sem] UT.eq_1 UT.eq_2
attribute [go_sem] YL.eq_1 YL.eq_2
attribute [go_sem] Wi.eq_1 Wi.eq_2
attribute [go_sem] asgT.eq_1 asgT.eq_2
attribute [go_sem] Zel.eq_1 Zel.eq_2
attribute [go_sem] JL.eq_1 JL.eq_2
attribute [go_sem] Zbl.eq_1 Zbl.eq_2 Zbl.eq_3 Zbl.eq_4
attribute [go_sem] ZkY.eq_1 ZkY.eq_2
attribute [go_sem] CO.op.eq_1
attribute [go_sem] Zau.eq_1 Zau.eq_2
attribute [go_sem] Zaq.eq_1 Zaq.eq_2
attribute [go_sem] Zoe.eq_1 Zoe.eq_2
attribute [go_sem] ZbY.eq_1 ZbY.eq_2 ZbY.eq_3
attribute [go_sem] Zk2.eq_1 Zk2.eq_2
attribute [go_sem] Zcj.eq_1 Zcj.eq_2
attribute [go_sem] Zas.eq_1 Zas.eq_2
attribute [go_sem] Jl.eq_1 Jl.eq_2 Jl.eq_3 Jl.eq_4 Jl.eq_5 Jl.eq_6 Jl.eq_7 Jl.eq_8 Jl.eq_9 Jl.eq_10
attribute [go_sem] W7.eq_1
attribute [go_sem] YN.eq_1 YN.eq_2 YN.eq_3 YN.eq_4
attribute [go_sem] Eff.frz.eq_1
attribute [go_sem] buildT.eq_1
attribute [go_sem] ZZ.eq_1 ZZ.eq_2
attribute [go_sem] ZbW.eq_1 ZbW.eq_2
attribute [go_sem] Zb.gone.eq_1
attribute [go_sem] meltIn.eq_1 meltIn.eq_2
attribute [go_sem] Zcz.eq_1
attribute [go_sem] ZkZ.eq_1 ZkZ.eq_2
attribute [go_sem] convI.eq_1 convI.eq_2
attribute [go_sem] ZfH.eq_1 ZfH.eq_2
attribute [go_sem] Uy.eq_1 Uy.eq_2 Uy.eq_3
attribute [go_sem] bd.eq_1
attribute [go_sem] UW.eq_1 UW.eq_2
attribute [go_sem] Q3.eq_1
attribute [go_sem] ZjN.eq_1 ZjN.eq_2
attribute [go_sem] ZbZ.eq_1
attribute [go_sem] Xe.eq_1 Xe.eq_2
attribute [go_sem] Zno.eq_1 Zno.eq_2
attribute [go_sem] Zu.eq_1 Zu.eq_2 Zu.eq_3 Zu.eq_4 Zu.eq_5 Zu.eq_6 Zu.eq_7 Zu.eq_8 Zu.eq_9 Zu.eq_10 Zu.eq_11 Zu.eq_12 Zu.eq_13 Zu.eq_14 Zu.eq_15 Zu.eq_16 Zu.eq_17 Zu.eq_18 Zu.eq_19 Zu.eq_20 Zu.eq_21 Zu.eq_22 Zu.eq_23 Zu.eq_24 Zu.eq_25 Zu.eq_26 Zu.eq_27 Zu.eq_28 Zu.eq_29 Zu.eq_30 Zu.eq_31 Zu.eq_32 Zu.eq_33 Zu.eq_34 Zu.eq_35 Zu.eq_36 Zu.eq_37 Zu.eq_38 Zu.eq_39 Zu.eq_40
attribute [go_sem] VM.eq_1 VM.eq_2 VM.eq_3 VM.eq_4 VM.eq_5
attribute [go_sem] Zbr.eq_1
attribute [go_sem] ZjY.eq_1 ZjY.eq_2
attribute [go_sem] U6.eq_1 U6.eq_2
attribute [go_sem] ZaG.eq_1
attribute [go_sem] JM.eq_1 JM.eq_2 JM.eq_3 JM.eq_4 JM.eq_5
attribute [go_sem] VH.eq_1 VH.eq_2
attribute [go_sem] Zff.eq_1 Zff.eq_2
attribute [go_sem] Zon.eq_1 Zon.eq_2
attribute [go_sem] ZiW.eq_1 ZiW.eq_2
attribute [go_sem] QC.eq_1 QC.eq_2
attribute [go_sem] only.eq_1 only.eq_2
attribute [go_sem] Zmq.eq_1 Zmq.eq_2
attribute [go_sem] Zbo.eq_1 Zbo.eq_2
attribute [go_sem] YB.eq_1 YB.eq_2
attribute [go_sem] okL.eq_1 okL.eq_2
attribute [go_sem] okC.eq_1 okC.eq_2 okC.eq_3 okC.eq_4 okC.eq_5 okC.eq_6 okC.eq_7 okC.eq_8 okC.eq_9 okC.eq_10
attribute [go_sem] ZfK.eq_1 ZfK.eq_2
attribute [go_sem] Uk.eq_1 Uk.eq_2
attribute [go_sem] ZaC.eq_1 ZaC.eq_2 ZaC.eq_3
attribute [go_sem] Zb5.eq_1 Zb5.eq_2
attribute [go_sem] Zbq.eq_1 Zbq.eq_2
attribute [go_sem] Qq.eq_1 Qq.eq_2
attribute [go_sem] Zk.eq_1 Zk.eq_2
attribute [go_sem] Yc.eq_1 Yc.eq_2 Yc.eq_3
attribute [go_sem] ZdK.eq_1
attribute [go_sem] YP.eq_1 YP.eq_2
attribute [go_sem] ZjZ.eq_1 ZjZ.eq_2
attribute [go_sem] CO.starts.eq_1
attribute [go_sem] YA.eq_1 YA.eq_2
attribute [go_sem] Qv.eq_1 Qv.eq_2
attribute [go_sem] Znn.eq_1 Znn.eq_2
attribute [go_sem] Zew.eq_1
attribute [go_sem] ZgX.eq_1 ZgX.eq_2 ZgX.eq_3
attribute [go_sem] ZaE.eq_1 ZaE.eq_2
attribute [go_sem] Y7.eq_1 Y7.eq_2
attribute [go_sem] JN.eq_1
attribute [go_sem] ZgY.eq_1 ZgY.eq_2
attribute [go_sem] Znm.eq_1
attribute [go_sem] Z6.body.eq_1
attribute [go_sem] ZdL.eq_1
attribute [go_sem] ZcW.eq_1 ZcW.eq_2
attribute [go_sem] Wn.eq_1 Wn.eq_2 Wn.eq_3 Wn.eq_4 Wn.eq_5
attribute [go_sem] Z6.res.eq_1
attribute [go_sem] XS.eq_1 XS.eq_2
attribute [go_sem] XD.eq_1 XD.eq_2 XD.eq_3 XD.eq_4 XD.eq_5 XD.eq_6 XD.eq_7 XD.eq_8 XD.eq_9 XD.eq_10 XD.eq_11 XD.eq_12
attribute [go_sem] ZgZ.eq_1 ZgZ.eq_2
attribute [go_sem] Yb.eq_1 Yb.eq_2
attribute [go_sem] Z6.nt.eq_1
attribute [go_sem] okD.eq_1 okD.eq_2
attribute [go_sem] ZjN.eq_1 WF.eq_1 WF.eq_2 WF.eq_3 WF.eq_4
attribute [go_sem] VX.eq_1 U3.eq_1 U3.eq_2 U3.eq_3 U3.eq_4 U3.eq_5 U3.eq_6 U3.eq_7 U3.eq_8 U3.eq_9 U3.eq_10 YQ.eq_1
attribute [go_sem] Qz.eq_3 Q7.eq_1 AV.atom.eq_1 AV.atom.eq_2 AV.atom.eq_3 AV.atom.eq_4
attribute [go_sem] ZhV.eq_1 ZhV.eq_2 Zcv.eq_1 Zcv.eq_2
attribute [go_sem] Zc ZoL Zp8
attribute [go_sem] List.map_cons List.map_nil List.flatMap_cons List.flatMap_nil List.append_nil List.nil_append List.cons_append List.length_cons List.length_nil List.all_cons List.all_nil List.any_cons List.any_nil List.contains_cons List.contains_nil List.filter_cons List.filter_nil List.drop_zero List.drop_succ_cons List.drop_nil List.take_zero List.take_succ_cons List.take_nil List.getElem?_cons_zero List.getElem?_cons_succ List.getElem?_nil Option.map_some Option.map_none Bool.and_true Bool.true_and Bool.and_false Bool.false_and Bool.or_true Bool.true_or Bool.or_false Bool.false_or Bool.not_true Bool.not_false decide_true decide_false and_true true_and and_false false_and not_true not_false_eq_true or_true true_or or_false false_or if_true if_false true_implies false_implies implies_true imp_self eq_self ne_eq beq_self_eq_true Bool.true_eq_false Bool.false_eq_true List.isEmpty_nil List.isEmpty_cons List.range_zero List.set_cons_zero List.set_cons_succ Option.some.injEq reduceCtorEq Nat.reduceLeDiff
def Zgt (hp:Hp):List Nat→List Nat
 | []=>[]
 | i :: r=>if Zbk (lkp hp i)=true then i :: Zgt hp r else Zgt hp r
theorem gE (hp:Hp) (ids:List Nat):(ids.filter fun i=>Zbk (lkp hp i))=Zgt hp ids:=by
 induction ids with
 | nil=>rfl
 | cons i r ih=>simp only[List.filter_cons,Zgt,ih]
def ZiG (hp:Hp) (rs:List Nat):List Nat→Bool
 | []=>true
 | i :: r=>(Zbk (lkp hp i) || rs.contains i)&&ZiG hp rs r
def ZiH (hp:Hp):List Nat→Bool
 | []=>false
 | i :: r=>UY (lkp hp i) || ZiH hp r
theorem gG (hp:Hp) (ids:List Nat):(ids.any fun i=>UY (lkp hp i))=ZiH hp ids:=by
 induction ids with
 | nil=>rfl
 | cons i r ih=>simp only[List.any_cons,ZiH,ih]
attribute [go_sem] ZiH.eq_1 ZiH.eq_2
@[go_sem] theorem appV_eq (hp:Hp) (s b:Nat) (str flat:Bool) (base:Nat) (x y:AV):Zk3 hp s b str flat base x y=JK hp s b str flat base x y (Q8 hp x) (Q8 hp y):=rfl
attribute [go_sem] JK.eq_1 JK.eq_2 JK.eq_3
@[go_sem] theorem treeId_d (hp:Hp) (x:D):Q8 hp (.d x)=[]:=rfl
@[go_sem] theorem ZrY (hp:Hp):Q8 hp .nil=[]:=rfl
@[go_sem] theorem Zrp (hp:Hp) (k o n:Nat):Q8 hp (.ownv k o n)=[]:=rfl
@[go_sem] theorem ZrZ (hp:Hp) (k:Nat):Q8 hp (.own k)=if UY (lkp hp k)=true then [k] else []:=rfl
@[go_sem] theorem noKeep_0 (M:Zg) (f:Nat):XK M f 0=M f 0:=rfl
@[go_sem] theorem noKeep_1 (M:Zg) (f:Nat):XK M f 1=M f 1:=rfl
@[go_sem] theorem noKeep_2 (M:Zg) (f:Nat):XK M f 2=M f 2:=rfl
@[go_sem] theorem noKeep_3 (M:Zg) (f:Nat):XK M f 3=M f 3:=rfl
@[go_sem] theorem noKeep_4 (M:Zg) (f:Nat):XK M f 4=M f 4:=rfl
@[go_sem] theorem noKeep_5 (M:Zg) (f:Nat):XK M f 5=M f 5:=rfl
@[go_sem] theorem noKeep_6 (M:Zg) (f:Nat):XK M f 6=M f 6:=rfl
@[go_sem] theorem noKeep_99 (M:Zg) (f:Nat):XK M f 99=false:=rfl
theorem gF (hp:Hp) (rs ids:List Nat):Ux hp rs ids=ZiG hp rs ids:=by
 induction ids with
 | nil=>rfl
 | cons i r ih=>simp only[Ux,Lk,ZiG] at ih ⊢;rw[ih]
attribute [go_sem] Zgt.eq_1 Zgt.eq_2 ZiG.eq_1 ZiG.eq_2
@[go_sem] theorem okV_d (x:D):okV (.d x)=true:=rfl
@[go_sem] theorem okV_nil:okV .nil=true:=rfl
@[go_sem] theorem okV_nilp:okV .nilp=true:=rfl
@[go_sem] theorem okV_nili:okV .nili=true:=rfl
@[go_sem] theorem okV_ptr (a b:Nat):okV (.ptr a b)=true:=rfl
@[go_sem] theorem okV_prow (a b c e:Nat):okV (.prow a b c e)=true:=rfl
@[go_sem] theorem okV_pim (cs:List D):okV (.pim cs)=true:=rfl
@[go_sem] theorem okV_own (a:Nat):okV (.own a)=true:=rfl
@[go_sem] theorem okV_ownv (a b c:Nat):okV (.ownv a b c)=true:=rfl
@[go_sem] theorem okV_agg (cs:List AV):okV (.agg cs)=ZjY cs:=rfl
@[go_sem] theorem okV_tup0:okV (.tup [])=true:=rfl
@[go_sem] theorem Zr0 (sl:Sl) (a:COp) (x y:Nat) (v:AV):Yr sl a (.ptr x y) v=true:=rfl
@[go_sem] theorem seenIn_d (sl:Sl) (a:COp) (x y z t:Nat) (v:D):Yr sl a (.prow x y z t) (.d v)=true:=rfl
@[go_sem] theorem Zr1 (sl:Sl) (a:COp) (x y z t:Nat) (v:List AV):Yr sl a (.prow x y z t) (.agg v)=(okV (.agg v)&&Xe sl (Zu a) (Zo (.agg v))):=rfl
@[go_sem] theorem Zr2 (sl:Sl) (a:COp) (x y z t:Nat) (k:Nat):Yr sl a (.prow x y z t) (.own k)=(okV (.own k)&&Xe sl (Zu a) (Zo (.own k))):=rfl
@[go_sem] theorem Zr3 (sl:Sl) (a:COp) (x y z t:Nat):Yr sl a (.prow x y z t) .nil=(okV .nil&&Xe sl (Zu a) (Zo .nil)):=rfl
@[go_sem] theorem Zrq (sl:Sl) (a:COp) (x y z t:Nat):Yr sl a (.prow x y z t) .nilp=(okV .nilp&&Xe sl (Zu a) (Zo .nilp)):=rfl
@[go_sem] theorem Zrr (sl:Sl) (a:COp) (x y z t:Nat) (k m n:Nat):Yr sl a (.prow x y z t) (.ownv k m n)=(okV (.ownv k m n)&&Xe sl (Zu a) (Zo (.ownv k m n))):=rfl
@[go_sem] theorem Zrs (sl:Sl) (a:COp) (k:Nat):seenSrc sl a (.own k)=Qq sl k (Zu a):=rfl
@[go_sem] theorem seenSrc_d (sl:Sl) (a:COp) (x:D):seenSrc sl a (.d x)=true:=rfl
@[go_sem] theorem Zrt (sl:Sl) (a:COp):seenSrc sl a .nil=true:=rfl
@[go_sem] theorem Zqw (sl:Sl) (a:COp) (x y z:Nat):seenSrc sl a (.ownv x y z)=true:=rfl
@[go_sem] theorem okV_iteV (b:Bool) (v:AV):okV (Zci b v)=(!b || okV v):=by cases b<;>simp[Zci,okV]
@[go_sem] theorem awayV_d (sl:Sl) (xs:List Opd) (x:D):U4 sl xs (.d x)=true:=rfl
@[go_sem] theorem awayV_nil (sl:Sl) (xs:List Opd):U4 sl xs .nil=true:=rfl
@[go_sem] theorem Zr4 (sl:Sl) (xs:List Opd):U4 sl xs .nilp=true:=rfl
@[go_sem] theorem awayV_ptr (sl:Sl) (xs:List Opd) (k o:Nat):U4 sl xs (.ptr k o)=Qq sl k xs:=rfl
@[go_sem] theorem awayV_pim (sl:Sl) (xs:List Opd) (cs:List D):U4 sl xs (.pim cs)=true:=rfl
@[go_sem] theorem awayV_own (sl:Sl) (xs:List Opd) (a:Nat):U4 sl xs (.own a)=true:=rfl
@[go_sem] theorem Zr5 (sl:Sl) (xs:List Opd) (a b c:Nat):U4 sl xs (.ownv a b c)=true:=rfl
@[go_sem] theorem awayV_agg (sl:Sl) (xs:List Opd) (cs:List AV):U4 sl xs (.agg cs)=true:=rfl
@[go_sem] theorem awayV_tup (sl:Sl) (xs:List Opd) (cs:List AV):U4 sl xs (.tup cs)=true:=rfl
end Go.Abs.E
