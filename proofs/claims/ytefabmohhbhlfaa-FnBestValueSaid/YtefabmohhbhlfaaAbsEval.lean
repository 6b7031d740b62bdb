/- Own text. -/
import Derived.Test.YtefabmohhbhlfaaAbsRun
set_option linter.unusedVariables false
set_option linter.unusedSimpArgs false
namespace Go.Abs.E
open Go Go.Abs
abbrev _root_.Go.Abs.Opd.i (n:Int):Opd:=.v (.d (.int .i64 n))
abbrev _root_.Go.Abs.Opd.b (x:Bool):Opd:=.v (.d (.bool x))
def stW {α:Type} (x:Option α) (K:α→Prop):Prop:=match x with
 | some a=>K a
 | none=>False
def gW (x:Option Bool) (A B:Prop):Prop:=match x with
 | some b=>(b=true→A)∧(b=false→B)
 | none=>False
def YP (v:AV) (A B:Prop):Prop:=match v with
 | .d (.bool t)=>(t=true→A)∧(t=false→B)
 | _=>False
theorem Xr {α:Type} (a:α) (K:α→Prop):stW (some a) K=K a:=rfl
theorem Zaw {α:Type} (K:α→Prop):stW none K=False:=rfl
theorem WU {α β:Type} (x:Option α) (f:α→Option β) (K:β→Prop):stW (bnd x f) K=stW x fun a=>stW (f a) K:=by cases x<;>rfl
@[go_sem] theorem ZmR (A B:Prop):gW (some true) A B=A:=by simp[gW]
@[go_sem] theorem gW_false (A B:Prop):gW (some false) A B=B:=by simp[gW]
@[go_sem] theorem gW_dec (p:Prop) [Decidable p] (A B:Prop):gW (some (decide p)) A B=((p→A)∧(¬p→B)):=by simp[gW]
@[go_sem] theorem gW_not (b:Bool) (A B:Prop):gW (some (!b)) A B=gW (some b) B A:=by cases b<;>simp[gW]
theorem gW_some (b:Bool) (A B:Prop):gW (some b) A B=((b=true→A)∧(b=false→B)):=rfl
@[go_sem] theorem Zrn (A B:Prop):YP (.d (.bool true)) A B=A:=by simp[YP]
@[go_sem] theorem ZqV (A B:Prop):YP (.d (.bool false)) A B=B:=by simp[YP]
@[go_sem] theorem condW_dec (p:Prop) [Decidable p] (A B:Prop):YP (.d (.bool (decide p))) A B=((p→A)∧(¬p→B)):=by simp[YP]
@[go_sem] theorem condW_not (b:Bool) (A B:Prop):YP (.d (.bool (!b))) A B=YP (.d (.bool b)) B A:=by cases b<;>simp[YP]
@[go_sem] theorem condW_and (a b:Bool) (A B:Prop):YP (.d (.bool (a&&b))) A B=YP (.d (.bool a)) (YP (.d (.bool b)) A B) B:=by cases a<;>cases b<;>simp[YP]
@[go_sem] theorem condW_or (a b:Bool) (A B:Prop):YP (.d (.bool (a || b))) A B=YP (.d (.bool a)) A (YP (.d (.bool b)) A B):=by cases a<;>cases b<;>simp[YP]
@[go_sem] theorem Zro (b:Bool) (A B:Prop):YP (.d (.bool b)) A B=((b=true→A)∧(b=false→B)):=rfl
@[congr] theorem gW_congr {x y:Option Bool} {A B:Prop} (h:x=y):gW x A B=gW y A B:=by rw[h]
@[congr] theorem ZqW {v w:AV} {A B:Prop} (h:v=w):YP v A B=YP w A B:=by rw[h]
section
variable (X:Fns) (M:Zg)
noncomputable def W8 (nx:Nat):Nat→List CO→Sl→Hp→(Sl→Hp→Prop)→Prop
 | _,[],sl,hp,K=>K sl hp
 | i,o :: rest,sl,hp,K=>gW (ZK sl o.guard)
   (stW (Xf (nx+64*i) o.dst sl hp (vop (Zu X M) M sl hp (nx+64*i) o.op)) fun r=>W8 nx (i+1) rest r.1 r.2 K)
   (W8 nx (i+1) rest (Zi sl o.dst (.tup [])) hp K)
def WR (nx i:Nat) (d:Option Nat) (rest:List CO) (sl:Sl) (hp:Hp) (K:Sl→Hp→Prop) (e:Option Zb):Prop:=
 stW (Xf (nx+64*i) d sl hp e) fun r=>W8 X M nx (i+1) rest r.1 r.2 K
@[go_sem] theorem opsW_nil (nx i:Nat) (sl:Sl) (hp:Hp) (K:Sl→Hp→Prop):W8 X M nx i [] sl hp K=K sl hp:=rfl
@[go_sem] theorem opsW_cons (nx i:Nat) (d:Option Nat) (tl:Bool) (op:COp) (aa:List CO) (sl:Sl) (hp:Hp) (K:Sl→Hp→Prop) :
  W8 X M nx i (⟨d,none,op,tl⟩ :: aa) sl hp K=WR X M nx i d aa sl hp K (vop (Zu X M) M sl hp (nx+64*i) op):=by
 simp[W8,WR,ZK,ZmR]
def ZbD (b:Bool) (v:AV):AV:=if b then v else .tup []
def Vz (b:Bool) (nx i:Nat) (d:Option Nat) (rest:List CO) (sl:Sl) (hp:Hp) (K:Sl→Hp→Prop) (e:Option Zb):Prop:=
 gW (some b) (WR X M nx i d rest sl hp K e) (W8 X M nx (i+1) rest (Zi sl d (.tup [])) hp K)
def ZjG (g:Option Bool) (nx i:Nat) (d:Option Nat) (op:COp) (rest:List CO) (sl:Sl) (hp:Hp) (K:Sl→Hp→Prop):Prop:=
 gW g (WR X M nx i d rest sl hp K (vop (Zu X M) M sl hp (nx+64*i) op)) (W8 X M nx (i+1) rest (Zi sl d (.tup [])) hp K)
@[go_sem] theorem Zrp (nx i g:Nat) (w:Bool) (d:Option Nat) (tl:Bool) (op:COp) (aa:List CO) (sl:Sl) (hp:Hp) (K:Sl→Hp→Prop) :
  W8 X M nx i (⟨d,some (g,w),op,tl⟩ :: aa) sl hp K=ZjG X M (JX w (gs sl g)) nx i d op aa sl hp K:=rfl
@[go_sem] theorem ZqX (b:Bool) (nx i:Nat) (d:Option Nat) (op:COp) (aa:List CO) (sl:Sl) (hp:Hp) (K:Sl→Hp→Prop) :
  ZjG X M (some b) nx i d op aa sl hp K=Vz X M b nx i d aa sl hp K (vop (Zu X M) M sl hp (nx+64*i) op):=rfl
@[go_sem] theorem gA (nx i:Nat) (d:Option Nat) (aa:List CO) (sl:Sl) (hp:Hp) (K:Sl→Hp→Prop) (e:Option Zb) :
  Vz X M true nx i d aa sl hp K e=WR X M nx i d aa sl hp K e:=by simp[Vz,gW]
@[go_sem] theorem gB (nx i:Nat) (d:Option Nat) (aa:List CO) (sl:Sl) (hp:Hp) (K:Sl→Hp→Prop) (e:Option Zb) :
  Vz X M false nx i d aa sl hp K e=W8 X M nx (i+1) aa (Zi sl d (.tup [])) hp K:=by simp[Vz,gW]
@[go_sem] theorem ZjH (b:Bool) (nx i:Nat) (d:Option Nat) (aa:List CO) (sl:Sl) (hp:Hp) (K:Sl→Hp→Prop) (v:AV) :
  Vz X M b nx i d aa sl hp K (Qg v)=W8 X M nx (i+1) aa (Zi sl d (ZbD b v)) hp K:=by
 cases b
 ·simp[Vz,gW,ZbD]
 ·simp only[Vz,gW,ZbD,Kl,true_implies,Bool.true_eq_false,false_implies,and_true];rfl
@[go_sem] theorem ZqY (b:Bool) (nx i:Nat) (d:Option Nat) (aa:List CO) (sl:Sl) (hp:Hp) (K:Sl→Hp→Prop) (v:AV) :
  Vz X M b nx i d aa sl hp K (some { eff := { val:=v,adds:=[],sets:=[],dels:=[],frz:=[] },gone:=[] })=W8 X M nx (i+1) aa (Zi sl d (ZbD b v)) hp K:=ZjH X M b nx i d aa sl hp K v
@[congr] theorem Zqg {g g' : Option Bool} {nx i:Nat} {d:Option Nat} {op:COp} {aa:List CO} {sl:Sl} {hp:Hp} {K:Sl→Hp→Prop} (h:g=g') :
  ZjG X M g nx i d op aa sl hp K=ZjG X M g' nx i d op aa sl hp K:=by rw[h]
@[congr] theorem Zqh {b b' : Bool} {nx i:Nat} {d:Option Nat} {aa:List CO} {sl:Sl} {hp:Hp} {K:Sl→Hp→Prop} {e e' : Option Zb} (hb:b=b') (h:b'=true→e=e') :
  Vz X M b nx i d aa sl hp K e=Vz X M b' nx i d aa sl hp K e':=by
 subst hb;cases b
 ·simp[Vz,gW]
 ·rw[h rfl]
@[go_sem] theorem ZqZ (nx i:Nat) (d:Option Nat) (aa:List CO) (sl:Sl) (hp:Hp) (K:Sl→Hp→Prop) (v:AV) :
  WR X M nx i d aa sl hp K (Qg v)=W8 X M nx (i+1) aa (Zi sl d v) hp K:=rfl
@[go_sem] theorem Zrq (nx i:Nat) (d:Option Nat) (aa:List CO) (sl:Sl) (hp:Hp) (K:Sl→Hp→Prop) (v:AV) :
  WR X M nx i d aa sl hp K (some { eff := { val:=v,adds:=[],sets:=[],dels:=[],frz:=[] },gone:=[] })=W8 X M nx (i+1) aa (Zi sl d v) hp K:=rfl
@[go_sem] theorem Zrr (nx i:Nat) (d:Option Nat) (aa:List CO) (sl:Sl) (hp:Hp) (K:Sl→Hp→Prop) (e:Zb) :
  WR X M nx i d aa sl hp K (some e)=(Qn (nx+64*i) (nx+64*i+64) e.eff.adds=true∧W8 X M nx (i+1) aa (Zi (Qx e.gone sl) d e.eff.val) (e.eff.on (Yg e.gone hp)) K):=by
 unfold WR Xf;rw[Zc];split<;>rename_i h
 ·simp only[Xr,h,true_and];rfl
 ·simp only[Zaw,h,false_and,Ka]
@[go_sem] theorem Zrs (nx i:Nat) (d:Option Nat) (aa:List CO) (sl:Sl) (hp:Hp) (K:Sl→Hp→Prop):WR X M nx i d aa sl hp K none=False:=rfl
@[go_sem] theorem stepW_ite (nx i:Nat) (d:Option Nat) (aa:List CO) (sl:Sl) (hp:Hp) (K:Sl→Hp→Prop) (c:Prop) [Decidable c] (a b:Option Zb) :
  WR X M nx i d aa sl hp K (if c then a else b)=((c→WR X M nx i d aa sl hp K a)∧(¬c→WR X M nx i d aa sl hp K b)):=by
 by_cases h:c<;>simp[h]
noncomputable def Xn (nx:Nat):Nat→Bool→List CO→Sl→Hp→(Sl→Hp→Prop)→Prop
 | _,_,[],sl,hp,K=>K sl hp
 | i,tail,o :: rest,sl,hp,K=>gW (ZK sl o.guard)
   (stW (Xf (nx+64*i) o.dst sl hp (Yk (Zu X M) (Q3 M) nx i (CO.starts o) o.op sl hp)) fun r=>Xn nx (i+1) tail rest r.1 r.2 K)
   (Xn nx (i+1) tail rest (Zi sl o.dst (.tup [])) hp K)
def YQ (nx i:Nat) (t:Bool) (d:Option Nat) (rest:List CO) (sl:Sl) (hp:Hp) (K:Sl→Hp→Prop) (e:Option Zb):Prop:=
 stW (Xf (nx+64*i) d sl hp (if t then e else Un e)) fun r=>Xn X M nx (i+1) false rest r.1 r.2 K
@[go_sem] theorem opsDW_nil (nx i:Nat) (t:Bool) (sl:Sl) (hp:Hp) (K:Sl→Hp→Prop):Xn X M nx i t [] sl hp K=K sl hp:=rfl
@[go_sem] theorem Zrt (nx i:Nat) (d:Option Nat) (tl:Bool) (op:COp) (aa:List CO) (sl:Sl) (hp:Hp) (K:Sl→Hp→Prop) :
  Xn X M nx i false (⟨d,none,op,tl⟩ :: aa) sl hp K=YQ X M nx i (Zbq op || tl) d aa sl hp K (vop (Zu X M) (Q3 M) sl hp (nx+64*i) op):=by
 simp[Xn,YQ,ZK,ZmR,Yk,CO.starts]
def X9 (b:Bool) (nx i:Nat) (t:Bool) (d:Option Nat) (rest:List CO) (sl:Sl) (hp:Hp) (K:Sl→Hp→Prop) (e:Option Zb):Prop:=
 gW (some b) (YQ X M nx i t d rest sl hp K e) (Xn X M nx (i+1) false rest (Zi sl d (.tup [])) hp K)
def Zfh (g:Option Bool) (nx i:Nat) (t:Bool) (d:Option Nat) (op:COp) (rest:List CO) (sl:Sl) (hp:Hp) (K:Sl→Hp→Prop):Prop:=
 gW g (YQ X M nx i t d rest sl hp K (vop (Zu X M) (Q3 M) sl hp (nx+64*i) op)) (Xn X M nx (i+1) false rest (Zi sl d (.tup [])) hp K)
@[go_sem] theorem Zq0 (nx i g:Nat) (w:Bool) (d:Option Nat) (tl:Bool) (op:COp) (aa:List CO) (sl:Sl) (hp:Hp) (K:Sl→Hp→Prop) :
  Xn X M nx i false (⟨d,some (g,w),op,tl⟩ :: aa) sl hp K=Zfh X M (JX w (gs sl g)) nx i (Zbq op || tl) d op aa sl hp K:=rfl
@[go_sem] theorem Zqi (b:Bool) (nx i:Nat) (t:Bool) (d:Option Nat) (op:COp) (aa:List CO) (sl:Sl) (hp:Hp) (K:Sl→Hp→Prop) :
  Zfh X M (some b) nx i t d op aa sl hp K=X9 X M b nx i t d aa sl hp K (vop (Zu X M) (Q3 M) sl hp (nx+64*i) op):=rfl
@[go_sem] theorem gC (nx i:Nat) (t:Bool) (d:Option Nat) (aa:List CO) (sl:Sl) (hp:Hp) (K:Sl→Hp→Prop) (e:Option Zb) :
  X9 X M true nx i t d aa sl hp K e=YQ X M nx i t d aa sl hp K e:=by simp[X9,gW]
@[go_sem] theorem gD (nx i:Nat) (t:Bool) (d:Option Nat) (aa:List CO) (sl:Sl) (hp:Hp) (K:Sl→Hp→Prop) (e:Option Zb) :
  X9 X M false nx i t d aa sl hp K e=Xn X M nx (i+1) false aa (Zi sl d (.tup [])) hp K:=by simp[X9,gW]
@[go_sem] theorem ZhU (b:Bool) (nx i:Nat) (t:Bool) (d:Option Nat) (aa:List CO) (sl:Sl) (hp:Hp) (K:Sl→Hp→Prop) (v:AV) :
  X9 X M b nx i t d aa sl hp K (Qg v)=Xn X M nx (i+1) false aa (Zi sl d (ZbD b v)) hp K:=by
 cases b
 ·simp[X9,gW,ZbD]
 ·simp only[X9,gW,ZbD,Kl,true_implies,Bool.true_eq_false,false_implies,and_true];cases t<;>rfl
@[go_sem] theorem Zqj (b:Bool) (nx i:Nat) (t:Bool) (d:Option Nat) (aa:List CO) (sl:Sl) (hp:Hp) (K:Sl→Hp→Prop) (v:AV) :
  X9 X M b nx i t d aa sl hp K (some { eff := { val:=v,adds:=[],sets:=[],dels:=[],frz:=[] },gone:=[] })=Xn X M nx (i+1) false aa (Zi sl d (ZbD b v)) hp K:=ZhU X M b nx i t d aa sl hp K v
@[congr] theorem ZpU {g g' : Option Bool} {nx i:Nat} {t t' : Bool} {d:Option Nat} {op:COp} {aa:List CO} {sl:Sl} {hp:Hp} {K:Sl→Hp→Prop} (h:g=g') (ht:t=t') :
  Zfh X M g nx i t d op aa sl hp K=Zfh X M g' nx i t' d op aa sl hp K:=by rw[h,ht]
@[congr] theorem ZpV {b b' : Bool} {nx i:Nat} {t:Bool} {d:Option Nat} {aa:List CO} {sl:Sl} {hp:Hp} {K:Sl→Hp→Prop} {e e' : Option Zb} (hb:b=b') (h:b'=true→e=e') :
  X9 X M b nx i t d aa sl hp K e=X9 X M b' nx i t d aa sl hp K e':=by
 subst hb;cases b
 ·simp[X9,gW]
 ·rw[h rfl]
@[go_sem] theorem Zqk (nx i:Nat) (t:Bool) (d:Option Nat) (aa:List CO) (sl:Sl) (hp:Hp) (K:Sl→Hp→Prop) (v:AV) :
  YQ X M nx i t d aa sl hp K (Qg v)=Xn X M nx (i+1) false aa (Zi sl d v) hp K:=by cases t<;>rfl
@[go_sem] theorem Zq1 (nx i:Nat) (t:Bool) (d:Option Nat) (aa:List CO) (sl:Sl) (hp:Hp) (K:Sl→Hp→Prop) (v:AV) :
  YQ X M nx i t d aa sl hp K (some { eff := { val:=v,adds:=[],sets:=[],dels:=[],frz:=[] },gone:=[] })=Xn X M nx (i+1) false aa (Zi sl d v) hp K:=by cases t<;>rfl
@[go_sem] theorem Zq2 (nx i:Nat) (t:Bool) (d:Option Nat) (aa:List CO) (sl:Sl) (hp:Hp) (K:Sl→Hp→Prop) (e:Zb) :
  YQ X M nx i t d aa sl hp K (some e)=((t=false→J2 e e.gone e.eff.sets e.eff.dels e.eff.frz=some e)∧Qn (nx+64*i) (nx+64*i+64) e.eff.adds=true∧Xn X M nx (i+1) false aa (Zi (Qx e.gone sl) d e.eff.val) (e.eff.on (Yg e.gone hp)) K):=by
 have ab:stW (Xf (nx+64*i) d sl hp (some e)) (fun r=>Xn X M nx (i+1) false aa r.1 r.2 K)=(Qn (nx+64*i) (nx+64*i+64) e.eff.adds=true∧Xn X M nx (i+1) false aa (Zi (Qx e.gone sl) d e.eff.val) (e.eff.on (Yg e.gone hp)) K):=by
  unfold Xf;rw[Zc];split<;>rename_i h
  ·simp only[Xr,h,true_and];rfl
  ·simp only[Zaw,h,false_and,Ka]
 unfold YQ;cases t with
 | true=>simp only[Kl];rw[ab];simp
 | false=>
  simp only[Ka,Kj,Un,Zc,true_implies];unfold J2;split
  ·rw[ab];simp
  ·simp[Xf,bnd,stW]
@[go_sem] theorem Zq3 (nx i:Nat) (t:Bool) (d:Option Nat) (aa:List CO) (sl:Sl) (hp:Hp) (K:Sl→Hp→Prop):YQ X M nx i t d aa sl hp K none=False:=by cases t<;>rfl
@[go_sem] theorem Zru (nx i:Nat) (t:Bool) (d:Option Nat) (aa:List CO) (sl:Sl) (hp:Hp) (K:Sl→Hp→Prop) (c:Prop) [Decidable c] (a b:Option Zb) :
  YQ X M nx i t d aa sl hp K (if c then a else b)=((c→YQ X M nx i t d aa sl hp K a)∧(¬c→YQ X M nx i t d aa sl hp K b)):=by
 by_cases h:c<;>simp[h]
@[go_sem] theorem quietC_ok (c:Zb):J2 c [] [] [] []=some c:=rfl
def W (c:ZC) (st:St) (Q:Ex→St→Prop):Prop:=stW (Z2 X M c st) fun r=>Q r.1 r.2
@[congr] theorem W_congr {c:ZC} {st aa : St} {Q:Ex→St→Prop} (h:st=aa):W X M c st Q=W X M c aa Q:=by rw[h]
@[congr] theorem Zrv {aa:List CO} {nx ab i i' : Nat} {sl sl' : Sl} {hp hp' : Hp} {K:Sl→Hp→Prop} (hn:nx=ab) (hi:i=i') (h:sl=sl') (h' : hp=hp') :
  W8 X M nx i aa sl hp K=W8 X M ab i' aa sl' hp' K:=by rw[h,h',hn,hi]
@[congr] theorem Zq4 {aa:List CO} {nx ab i i' : Nat} {t t' : Bool} {sl sl' : Sl} {hp hp' : Hp} {K:Sl→Hp→Prop} (hn:nx=ab) (hi:i=i') (ht:t=t') (h:sl=sl') (h' : hp=hp') :
  Xn X M nx i t aa sl hp K=Xn X M ab i' t' aa sl' hp' K:=by rw[h,h',ht,hn,hi]
@[congr] theorem Zq5 {aa:List CO} {nx i:Nat} {d:Option Nat} {sl:Sl} {hp:Hp} {K:Sl→Hp→Prop} {e e' : Option Zb} (h:e=e') :
  WR X M nx i d aa sl hp K e=WR X M nx i d aa sl hp K e':=by rw[h]
@[congr] theorem Zql {aa:List CO} {nx i:Nat} {t t' : Bool} {d:Option Nat} {sl:Sl} {hp:Hp} {K:Sl→Hp→Prop} {e e' : Option Zb} (ht:t=t') (h:e=e') :
  YQ X M nx i t d aa sl hp K e=YQ X M nx i t' d aa sl hp K e':=by rw[h,ht]
theorem ZmS (nx:Nat) (K:Sl→Hp→Prop):∀ (l:List CO) (i:Nat) (sl:Sl) (hp:Hp),W8 X M nx i l sl hp K=stW (J1 (Zu X M) M nx i l sl hp) fun r=>K r.1 r.2:=by
 intro l
 induction l with
 | nil=>intro i sl hp;rfl
 | cons o rest ih=>
  intro i sl hp;simp only[W8,J1,ih,WU];cases ZK sl o.guard with
  | none=>rfl
  | some b=>cases b<;>simp[gW,WU,Xr]
theorem ZkM (nx:Nat) (K:Sl→Hp→Prop):∀ (l:List CO) (i:Nat) (t:Bool) (sl:Sl) (hp:Hp),Xn X M nx i t l sl hp K=stW (Vk (Zu X M) (Q3 M) nx i t l sl hp) fun r=>K r.1 r.2:=by
 intro l
 induction l with
 | nil=>intro i t sl hp;rfl
 | cons o rest ih=>
  intro i t sl hp;simp only[Xn,Vk,ih,WU];cases ZK sl o.guard with
  | none=>rfl
  | some b=>cases b<;>simp[gW,WU,Xr]
def ZeX (m nx:Nat) (Q:Ex→St→Prop) (sl:Sl) (hp:Hp):Prop:=Q .normal { sl:=sl,hp:=hp,nx:=nx,m:=m }
def ZbP (ops:List CO) (ps:List (Nat×Nat)) (K:Sl→Hp→Prop) (sl:Sl) (hp:Hp):Prop:=Yh ops sl ps=true∧K sl hp
@[go_sem] theorem regQ_eq (m nx:Nat) (Q:Ex→St→Prop) (sl:Sl) (hp:Hp):ZeX m nx Q sl hp=Q .normal { sl:=sl,hp:=hp,nx:=nx,m:=m }:=rfl
@[go_sem] theorem seenQ_eq (ops:List CO) (ps:List (Nat×Nat)) (K:Sl→Hp→Prop) (sl:Sl) (hp:Hp):ZbP ops ps K sl hp=(Yh ops sl ps=true∧K sl hp):=rfl
@[go_sem] theorem W_skip (st:St) (Q:Ex→St→Prop):W X M .skip st Q=Q .normal st:=by simp[W,Zmf,Xr]
@[go_sem] theorem W_ret (st:St) (Q:Ex→St→Prop):W X M .ret st Q=Q .ret st:=by simp[W,Zoa,Xr]
@[go_sem] theorem W_exit (id:Nat) (st:St) (Q:Ex→St→Prop):W X M (.exit id) st Q=Q (.exit id) st:=by simp[W,Zmg,Xr]
@[go_sem] theorem W_stuck (st:St) (Q:Ex→St→Prop):W X M .stuck st Q=False:=by
 have h:Z2 X M .stuck st=none:=QW fun n=>by simp only[Zt]
 simp only[W,h,Zaw]
@[go_sem] theorem W_region (n:Nat) (ops:List CO) (st:St) (Q:Ex→St→Prop) :
  W X M (.region n none ops) st Q=W8 X M st.nx 0 ops st.sl st.hp (ZeX st.m (st.nx+64*n) Q):=by
 rw[ZmS,W,Zc9,ZbF,WU];rfl
theorem ZoV (n:Nat) (ps:List (Nat×Nat)) (ops:List CO) (st:St) (Q:Ex→St→Prop) :
  W X M (.region n (some ps) ops) st Q=Xn X M st.nx 0 false ops st.sl st.hp (ZbP ops ps (ZeX st.m (st.nx+64*n) Q)):=by
 rw[ZkM,W,ZgF,ZbF,WU,Zc5,WU];congr 1
 funext r
 by_cases h:Yh ops r.1 ps=true<;>simp[h,ZbP,Xr,Zaw,ZeX]
@[go_sem] theorem W_draw0 (n:Nat) (ops:List CO) (st:St) (Q:Ex→St→Prop) :
  W X M (.region n (some []) ops) st Q=Xn X M st.nx 0 false ops st.sl st.hp (ZeX st.m (st.nx+64*n) Q):=by
 rw[ZoV];congr 1
 funext sl hp
 simp[ZbP,Yh]
@[go_sem] theorem W_drawc (n:Nat) (p:Nat×Nat) (ps:List (Nat×Nat)) (ops:List CO) (st:St) (Q:Ex→St→Prop) :
  W X M (.region n (some (p :: ps)) ops) st Q=Xn X M st.nx 0 false ops st.sl st.hp (ZbP ops (p :: ps) (ZeX st.m (st.nx+64*n) Q)):=ZoV X M n _ ops st Q
def ZmT (c:ZC) (Q:Ex→St→Prop):Ex→St→Prop
 | .normal,st=>W X M c st Q
 | e,st=>Q e st
def blkQ (id:Nat) (Q:Ex→St→Prop):Ex→St→Prop
 | .exit j,st=>if j=id then Q .normal st else Q (.exit j) st
 | e,st=>Q e st
@[go_sem] theorem Zqm (c:ZC) (Q:Ex→St→Prop) (st:St):ZmT X M c Q .normal st=W X M c st Q:=rfl
@[go_sem] theorem thenQ_ret (c:ZC) (Q:Ex→St→Prop) (st:St):ZmT X M c Q .ret st=Q .ret st:=rfl
@[go_sem] theorem Zrw (c:ZC) (Q:Ex→St→Prop) (id:Nat) (st:St):ZmT X M c Q (.exit id) st=Q (.exit id) st:=rfl
@[go_sem] theorem Zq6 (id:Nat) (Q:Ex→St→Prop) (st:St):blkQ id Q .normal st=Q .normal st:=rfl
@[go_sem] theorem blkQ_ret (id:Nat) (Q:Ex→St→Prop) (st:St):blkQ id Q .ret st=Q .ret st:=rfl
@[go_sem] theorem blkQ_exit (id j:Nat) (Q:Ex→St→Prop) (st:St):blkQ id Q (.exit j) st=if j=id then Q .normal st else Q (.exit j) st:=rfl
@[go_sem] theorem W_seq (a b:ZC) (st:St) (Q:Ex→St→Prop):W X M (.seq a b) st Q=W X M a st (ZmT X M b Q):=by
 unfold W;rw[Zob];cases h:Z2 X M a st with
 | none=>rfl
 | some r=>obtain⟨e,aa⟩:=r;cases e<;>rfl
@[go_sem] theorem W_cond (c:Opd) (a b:ZC) (st:St) (Q:Ex→St→Prop) :
  W X M (.cond c a b) st Q=YP (evO st.sl c) (W X M a st Q) (W X M b st Q):=by
 unfold W;rw[Zmh];cases h:evO st.sl c with
 | d x=>cases x with
  | bool t=>cases t<;>simp[ZbU,YP]
  | _=>rfl
 | _=>rfl
@[go_sem] theorem W_block (id:Nat) (c:ZC) (st:St) (Q:Ex→St→Prop):W X M (.block id c) st Q=W X M c st (blkQ id Q):=by
 unfold W;rw[Zla];cases h:Z2 X M c st with
 | none=>rfl
 | some r=>
  obtain⟨e,aa⟩:=r;cases e with
  | exit j=>by_cases hj:j=id<;>simp[ZaO,hj,Xr,blkQ]
  | normal=>rfl
  | ret=>rfl
def keepQ (K:List Nat) (Q:Ex→St→Prop) (e:Ex) (st:St):Prop:=Q e { sl:=only K st.sl,hp:=st.hp,nx:=st.nx,m:=st.m }
@[go_sem] theorem keepQ_eq (K:List Nat) (Q:Ex→St→Prop) (e:Ex) (st:St):keepQ K Q e st=Q e { sl:=only K st.sl,hp:=st.hp,nx:=st.nx,m:=st.m }:=rfl
@[go_sem] theorem W_keep (K:List Nat) (c:ZC) (st:St) (Q:Ex→St→Prop):W X M (.keep K c) st Q=W X M c st (keepQ K Q):=by
 unfold W;rw[Zmi];cases h:Z2 X M c st with
 | none=>rfl
 | some r=>rfl
def shutQ (id nm:Nat) (Q:Ex→St→Prop) (e:Ex) (st:St):Prop:=Q e { sl:=st.sl,hp:=Zn8 st.hp (ZeM st.hp id nm (lkp st.hp id)),nx:=st.nx,m:=st.m }
@[go_sem] theorem shutQ_eq (id nm:Nat) (Q:Ex→St→Prop) (e:Ex) (st:St):shutQ id nm Q e st=Q e { sl:=st.sl,hp:=Zn8 st.hp (ZeM st.hp id nm (lkp st.hp id)),nx:=st.nx,m:=st.m }:=rfl
def Zf3 (c:ZC) (Q:Ex→St→Prop) (r:Option St):Prop:=stW r fun st=>W X M c st Q
@[go_sem] theorem Zrx (c:ZC) (Q:Ex→St→Prop) (st:St):Zf3 X M c Q (some st)=W X M c st Q:=rfl
@[go_sem] theorem Zry (c:ZC) (Q:Ex→St→Prop):Zf3 X M c Q none=False:=rfl
@[go_sem] theorem linkW_ite (c:ZC) (Q:Ex→St→Prop) (p:Prop) [Decidable p] (a b:Option St):Zf3 X M c Q (if p then a else b)=((p→Zf3 X M c Q a)∧(¬p→Zf3 X M c Q b)):=by
 by_cases h:p<;>simp[h]
@[go_sem] theorem W_link (fl:Bool) (id:Nat) (i:Opd) (j:Nat) (c:ZC) (st:St) (Q:Ex→St→Prop):W X M (.link fl id i j c) st Q=Zf3 X M c (shutQ id st.nx Q) (J3 fl id i j st):=by
 unfold W Zf3;rw[Zmj];cases h:J3 fl id i j st with
 | none=>rfl
 | some st1=>
  simp only[Zc,Xr,W];cases h1:Z2 X M c st1 with
  | none=>rfl
  | some q=>rfl
@[go_sem] theorem W_melt (c:ZC) (st:St) (Q:Ex→St→Prop):W X M (.melt c) st Q=W X M c { sl:=st.sl,hp:=Zdy ZcS st.hp,nx:=st.nx,m:=st.m } Q:=by
 unfold W;rw[Zmk];rfl
def Zf4 (st:St) (ds:List Nat) (Q:Ex→St→Prop) (e:Ex) (st2:St):Prop:=Q e { sl:=Uo st2.sl ds st.sl,hp:=st.hp,nx:=st2.nx,m:=st2.m }
@[go_sem] theorem peekQ_eq (sl:Sl) (hp:Hp) (nx m:Nat) (ds:List Nat) (Q:Ex→St→Prop) (e:Ex) (aa:Sl) (ad:Hp) (ab m2:Nat):Zf4 { sl:=sl,hp:=hp,nx:=nx,m:=m } ds Q e { sl:=aa,hp:=ad,nx:=ab,m:=m2 }=Q e { sl:=Uo aa ds sl,hp:=hp,nx:=ab,m:=m2 }:=rfl
def ZeC (n:Nat) (os:List CO) (id:Nat) (st:St) (Q:Ex→St→Prop):Option (List (Nat×Nat))→Option Zh→Prop
 | none,some o=>W8 X M st.nx 0 os st.sl [(id,o)] (ZeX st.m (st.nx+64*n) (Zf4 st (VL os) Q))
 | some ps,some o=>Xn X M st.nx 0 false os st.sl [(id,o)] (ZbP os ps (ZeX st.m (st.nx+64*n) (Zf4 st (VL os) Q)))
 | _,none=>False
@[go_sem] theorem Zrz (n:Nat) (os:List CO) (id:Nat) (sl:Sl) (hp:Hp) (nx m:Nat) (Q:Ex→St→Prop) (o:Zh):ZeC X M n os id { sl:=sl,hp:=hp,nx:=nx,m:=m } Q none (some o)=W8 X M nx 0 os sl [(id,o)] (ZeX m (nx+64*n) (Zf4 { sl:=sl,hp:=hp,nx:=nx,m:=m } (VL os) Q)):=rfl
@[go_sem] theorem peekW_nil (n:Nat) (os:List CO) (id:Nat) (sl:Sl) (hp:Hp) (nx m:Nat) (Q:Ex→St→Prop) (o:Zh):ZeC X M n os id { sl:=sl,hp:=hp,nx:=nx,m:=m } Q (some []) (some o)=Xn X M nx 0 false os sl [(id,o)] (ZeX m (nx+64*n) (Zf4 { sl:=sl,hp:=hp,nx:=nx,m:=m } (VL os) Q)):=by
 simp only[ZeC];congr 1
 funext sl hp
 simp[ZbP,Yh]
@[go_sem] theorem ZrA (n:Nat) (os:List CO) (id:Nat) (sl:Sl) (hp:Hp) (nx m:Nat) (Q:Ex→St→Prop) (o:Zh) (p:Nat×Nat) (ps:List (Nat×Nat)):ZeC X M n os id { sl:=sl,hp:=hp,nx:=nx,m:=m } Q (some (p :: ps)) (some o)=Xn X M nx 0 false os sl [(id,o)] (ZbP os (p :: ps) (ZeX m (nx+64*n) (Zf4 { sl:=sl,hp:=hp,nx:=nx,m:=m } (VL os) Q))):=rfl
@[go_sem] theorem ZrB (n:Nat) (os:List CO) (id:Nat) (st:St) (Q:Ex→St→Prop) (d:Option (List (Nat×Nat))):ZeC X M n os id st Q d none=False:=by cases d<;>rfl
@[go_sem] theorem W_peek (id n:Nat) (d:Option (List (Nat×Nat))) (os:List CO) (st:St) (Q:Ex→St→Prop):W X M (.peek id (.region n d os)) st Q=ZeC X M n os id st Q d (ZgA (lkp st.hp id)):=by
 unfold W;rw[Zml];simp only[Zk7,Zc];unfold ZdV;cases h:ZgA (lkp st.hp id) with
 | none=>cases d<;>rfl
 | some o=>
  cases d with
  | none=>
   simp only[Zc,ZeC];rw[ZmS,Zc9,ZbF];cases J1 (Zu X M) M st.nx 0 os st.sl [(id,o)] with
   | none=>rfl
   | some r=>rfl
  | some ps=>
   simp only[Zc,ZeC];rw[ZkM,ZgF,ZbF];cases Vk (Zu X M) (Q3 M) st.nx 0 false os st.sl [(id,o)] with
   | none=>rfl
   | some r=>
    simp only[Zc5,Zc];by_cases h:Yh os r.1 ps=true
    ·simp[h,ZbP,Xr,Zc,ZgC,ZeX,Zf4]
    ·simp[h,ZbP,Xr,Zaw,ZgC,bnd]
attribute [go_sem] ZgA.eq_1 ZgA.eq_2 J4.eq_1 J4.eq_2 J4.eq_3 ZgB.eq_1 ZgB.eq_2 VL.eq_1 VL.eq_2 Uo.eq_1 Uo.eq_2
def LW (c:ZC) (K:List Nat) (st:St) (Q:Ex→St→Prop):Prop:=stW (ZaQ X M c K st) fun r=>Q r.1 r.2
@[congr] theorem LW_congr {c:ZC} {K K' : List Nat} {st aa : St} {Q:Ex→St→Prop} (hk:K=K') (h:st=aa):LW X M c K st Q=LW X M c K' aa Q:=by rw[h,hk]
@[go_sem] theorem W_loop (c:ZC) (st:St) (Q:Ex→St→Prop):W X M (.loop c) st Q=LW X M c (WK st.sl) st Q:=by
 unfold W LW;rw[Zmm]
def Zf5 (c:ZC) (K:List Nat) (Q:Ex→St→Prop):Ex→St→Prop
 | .normal,st=>LW X M c K st Q
 | e,st=>Q e st
@[go_sem] theorem Zqn (c:ZC) (K:List Nat) (Q:Ex→St→Prop) (st:St):Zf5 X M c K Q .normal st=LW X M c K st Q:=rfl
@[go_sem] theorem nextQ_ret (c:ZC) (K:List Nat) (Q:Ex→St→Prop) (st:St):Zf5 X M c K Q .ret st=Q .ret st:=rfl
@[go_sem] theorem ZrC (c:ZC) (K:List Nat) (Q:Ex→St→Prop) (id:Nat) (st:St):Zf5 X M c K Q (.exit id) st=Q (.exit id) st:=rfl
theorem Jm {c:ZC} {K:List Nat} {st:St} {Q:Ex→St→Prop} (h:W X M c (Vl K st) (Zf5 X M c K Q)):LW X M c K st Q:=by
 unfold W at h;cases hv:Z2 X M c (Vl K st) with
 | none=>rw[hv] at h;exact h.elim
 | some r=>
  rw[hv] at h;obtain⟨e,aa⟩:=r;unfold LW;cases e with
  | normal=>rw[Zlb X M hv];exact h
  | exit id=>rw[ZgG X M (by simp) hv];exact h
  | ret=>rw[ZgG X M (by simp) hv];exact h
def ZhV (sl:Sl):Sl→Sl
 | []=>sl
 | (k,v) :: r=>ZhV (ins sl k v) r
def ZbQ (hp:Hp):Hp→Hp
 | []=>hp
 | (k,o) :: r=>ZbQ (ins hp k o) r
theorem LW_ind {α:Type} (S:α→St) (I:α→Prop) (μ:α→Nat) {c:ZC} {K:List Nat} {Q:Ex→St→Prop}
  (step:∀ a,I a→(∀ b st,I b→μ b<μ a→Vl K st=S b→LW X M c K st Q)→W X M c (S a) (Zf5 X M c K Q)) :
  ∀ a st,I a→Vl K st=S a→LW X M c K st Q:=by
 have aa:∀ n a st,μ a=n→I a→Vl K st=S a→LW X M c K st Q:=by
  intro n
  induction n using Nat.strongRecOn with
  | ind n ih=>
   intro a st hn ha hs;refine Jm X M ?_;rw[hs];exact step a ha fun b ab hb ae ad=>ih (μ b) (by omega) b ab rfl hb ad
 exact fun a st ha hs=>aa _ a st rfl ha hs
theorem Ya {α:Type} (u:α→Sl) (uh:α→Hp) (I:α→Prop) (μ:α→Nat) (a:α) {c:ZC} {K:List Nat} {Q:Ex→St→Prop} {st st0:St}
  (hc:Vl K st=st0) (ha:I a) (h0:(⟨ZhV st0.sl (u a),ZbQ st0.hp (uh a),st0.nx,st0.m⟩:St)=st0)
  (step:∀ a,I a→(∀ b st,I b→μ b<μ a→Vl K st=⟨ZhV st0.sl (u b),ZbQ st0.hp (uh b),st0.nx,st0.m⟩→LW X M c K st Q)→W X M c ⟨ZhV st0.sl (u a),ZbQ st0.hp (uh a),st0.nx,st0.m⟩ (Zf5 X M c K Q)) :
  LW X M c K st Q:=
 LW_ind X M (fun a=>⟨ZhV st0.sl (u a),ZbQ st0.hp (uh a),st0.nx,st0.m⟩) I μ step a st ha (hc.trans h0.symm)
def ZjI (m:Nat) (rs:List ZhZ) (R:AV×List Zh→Prop):Ex→St→Prop:=fun e st=>stW (U5 m rs (some (e,st))) R
def resW (m:Nat) (hp:Hp) (R:AV×List Zh→Prop) (vs:Option (List AV)):Prop:=stW vs fun vs=>R (Yv m hp (Up vs))
@[go_sem] theorem resW_some (m:Nat) (hp:Hp) (R:AV×List Zh→Prop) (vs:List AV):resW m hp R (some vs)=R (Yv m hp (Up vs)):=rfl
@[go_sem] theorem resW_none (m:Nat) (hp:Hp) (R:AV×List Zh→Prop):resW m hp R none=False:=rfl
@[go_sem] theorem endQ_ret (m:Nat) (rs:List ZhZ) (R:AV×List Zh→Prop) (st:St):ZjI m rs R .ret st=resW m st.hp R (Z7 (ZgD st) rs):=by
 simp only[ZjI,U5,WU];rfl
@[go_sem] theorem Zq7 (m:Nat) (rs:List ZhZ) (R:AV×List Zh→Prop) (st:St):ZjI m rs R .normal st=resW m st.hp R (Z7 (ZgD st) rs):=by
 simp only[ZjI,U5,WU];rfl
theorem ZoW {f:Nat} {as:List AV} {h:List Zh} (fn:Qo) {R:AV×List Zh→Prop} (hx:X f=some (.text fn)) (hl:as.length≤fn.nt)
  (hr:W X M fn.body { sl:=Yi 0 as,hp:=Yu 0 h,nx:=h.length,m:=h.length } (ZjI h.length fn.res R)):∃ r,Zu X M f as h=some r∧R r:=by
 unfold W at hr;cases hv:Z2 X M fn.body { sl:=Yi 0 as,hp:=Yu 0 h,nx:=h.length,m:=h.length } with
 | none=>rw[hv] at hr;exact hr.elim
 | some q=>
  rw[hv] at hr;obtain⟨e,st⟩:=q;simp only[Xr,ZjI] at hr;cases hk:U5 h.length fn.res (some (e,st)) with
  | none=>rw[hk] at hr;exact hr.elim
  | some r=>rw[hk] at hr;exact⟨r,Zph X M hx hl (by rw[hv];exact hk),hr⟩
theorem callE {f:Nat} {as:List AV} {h:List Zh} (fn:Qo) {r:AV×List Zh} (hx:X f=some (.text fn)) (hl:as.length≤fn.nt)
  (hr:W X M fn.body { sl:=Yi 0 as,hp:=Yu 0 h,nx:=h.length,m:=h.length } (ZjI h.length fn.res fun q=>q=r)):Zu X M f as h=some r:=by
 obtain⟨q,hq,rfl⟩:=ZoW X M fn hx hl hr;exact hq
end
@[go_sem] theorem vopE_move (C:Orc) (M:Zg) (sl:Sl) (hp:Hp) (base:Nat) (x:Opd):vop C M sl hp base (.move x)=Qg (evO sl x):=by simp only[vop]
@[go_sem] theorem Zq8 (C:Orc) (M:Zg) (sl:Sl) (hp:Hp) (base:Nat) (s:Option Nat) (x:Opd):vop C M sl hp base (.assign s x)=JQ base s (evO sl x):=by simp only[vop]
@[go_sem] theorem vopE_pick (C:Orc) (M:Zg) (sl:Sl) (hp:Hp) (base:Nat) (c a b:Opd):vop C M sl hp base (.pick c a b)=ZaH (evO sl a) (evO sl b) (evO sl c):=by simp only[vop]
@[go_sem] theorem ZrD (C:Orc) (M:Zg) (sl:Sl) (hp:Hp) (base:Nat) (slc:List (Option Nat)) (cs:List AV):vop C M sl hp base (.alloc slc cs)=ZaI slc base cs:=by simp only[vop]
@[go_sem] theorem vopE_box (C:Orc) (M:Zg) (sl:Sl) (hp:Hp) (base:Nat) (x:Opd):vop C M sl hp base (.box x)=ZnZ base (evO sl x):=by simp only[vop]
@[go_sem] theorem ZrE (C:Orc) (M:Zg) (sl:Sl) (hp:Hp) (base:Nat) (zs:List AV) (ps:List (Nat×Nat×Opd)):vop C M sl hp base (.build zs ps)=Zge zs (evP sl ps):=by simp only[vop]
@[go_sem] theorem Zqo (C:Orc) (M:Zg) (sl:Sl) (hp:Hp) (base:Nat) (s:Nat) (xs:List Opd):vop C M sl hp base (.buildSl s xs)=buildSl hp base s (evL sl xs):=by simp only[vop]
@[go_sem] theorem vopE_load (C:Orc) (M:Zg) (sl:Sl) (hp:Hp) (base:Nat) (g:Bool) (s:Nat) (a:Opd):vop C M sl hp base (.load g s a)=Yj (YV hp g s (evO sl a)):=by simp only[vop]
@[go_sem] theorem ZrF (C:Orc) (M:Zg) (sl:Sl) (hp:Hp) (base:Nat) (slc:List (Option Nat)) (s:Nat) (a x:Opd):vop C M sl hp base (.store slc s a x)=Zam (WH hp slc s base (evO sl x).cells (evO sl a)):=by simp only[vop]
@[go_sem] theorem ZpW (C:Orc) (M:Zg) (sl:Sl) (hp:Hp) (base:Nat) (x:Opd):vop C M sl hp base (.nilCheck x)=Wc (evO sl x):=by simp only[vop]
@[go_sem] theorem vopE_bin (C:Orc) (M:Zg) (sl:Sl) (hp:Hp) (base:Nat) (op:BinOp) (eq:Bool) (x y:Opd):vop C M sl hp base (.bin op eq x y)=ZhX op eq (evO sl x) (evO sl y):=by simp only[vop]
@[go_sem] theorem vopE_un (C:Orc) (M:Zg) (sl:Sl) (hp:Hp) (base:Nat) (op:UnOp) (x:Opd):vop C M sl hp base (.un op x)=Yj (vun op (evO sl x)):=by simp only[vop]
@[go_sem] theorem vopE_eqA (C:Orc) (M:Zg) (sl:Sl) (hp:Hp) (base:Nat) (neg:Bool) (ks:List Nat) (x y:Opd):vop C M sl hp base (.eqA neg ks x y)=ZjM neg ks (evO sl x) (evO sl y):=by simp only[vop]
@[go_sem] theorem ZrG (C:Orc) (M:Zg) (sl:Sl) (hp:Hp) (base:Nat) (k:IntKind) (x:Opd):vop C M sl hp base (.convI k x)=convI k (evO sl x):=by simp only[vop]
@[go_sem] theorem ZrH (C:Orc) (M:Zg) (sl:Sl) (hp:Hp) (base:Nat) (x:Opd):vop C M sl hp base (.convS x)=convS (evO sl x):=by simp only[vop]
@[go_sem] theorem vopE_fn (C:Orc) (M:Zg) (sl:Sl) (hp:Hp) (base:Nat) (f:Nat) (cs:List Opd):vop C M sl hp base (.fn f cs)=Yj (cloV f (evL sl cs)):=by simp only[vop]
@[go_sem] theorem vopE_make (C:Orc) (M:Zg) (sl:Sl) (hp:Hp) (base:Nat) (s b:Nat) (z:D) (l c:Opd):vop C M sl hp base (.make s b z l c)=bnd (idx (evO sl l)) fun l=>bnd (idx (evO sl c)) fun c=>ZiI base s b z l c:=by simp only[vop]
@[go_sem] theorem ZrI (C:Orc) (M:Zg) (sl:Sl) (hp:Hp) (base:Nat) (s:Nat) (x:Opd) (lo hi:Option Opd):vop C M sl hp base (.slice s x lo hi)=Yj (X4 hp s (evM sl lo) (evM sl hi) (evO sl x)):=by simp only[vop]
@[go_sem] theorem Zq9 (C:Orc) (M:Zg) (sl:Sl) (hp:Hp) (base:Nat) (x:Opd) (lo hi:Option Opd):vop C M sl hp base (.sliceS x lo hi)=Yj (sliceS (evM sl lo) (evM sl hi) (evO sl x)):=by simp only[vop]
@[go_sem] theorem Zra (C:Orc) (M:Zg) (sl:Sl) (hp:Hp) (base:Nat) (x hi mx:Opd):vop C M sl hp base (.slice0 x hi mx)=Yj (slice0 hp (evO sl x) (idx (evO sl hi)) (idx (evO sl mx))):=by simp only[vop]
@[go_sem] theorem ZrJ (C:Orc) (M:Zg) (sl:Sl) (hp:Hp) (base:Nat) (off:Nat) (x:Opd):vop C M sl hp base (.shift off x)=Ys off (evO sl x):=by simp only[vop]
@[go_sem] theorem vopE_part (C:Orc) (M:Zg) (sl:Sl) (hp:Hp) (base:Nat) (g:Bool) (s off:Nat) (x:Opd):vop C M sl hp base (.part g s off x)=Yj (ZcR g s off (evO sl x)):=by simp only[vop]
@[go_sem] theorem vopE_iaS (C:Orc) (M:Zg) (sl:Sl) (hp:Hp) (base:Nat) (s:Nat) (x i:Opd):vop C M sl hp base (.iaS s x i)=bnd (idx (evO sl i)) fun n=>ZbT hp s (evO sl x) n:=by simp only[vop]
@[go_sem] theorem vopE_iaA (C:Orc) (M:Zg) (sl:Sl) (hp:Hp) (base:Nat) (len s:Nat) (x i:Opd):vop C M sl hp base (.iaA len s x i)=bnd (idx (evO sl i)) fun n=>Zgg (evO sl x) n len s:=by simp only[vop]
@[go_sem] theorem vopE_ixS (C:Orc) (M:Zg) (sl:Sl) (hp:Hp) (base:Nat) (x i:Opd):vop C M sl hp base (.ixS x i)=bnd (idx (evO sl i)) fun n=>ZlW n (evO sl x):=by simp only[vop]
@[go_sem] theorem vopE_ixA (C:Orc) (M:Zg) (sl:Sl) (hp:Hp) (base:Nat) (g:Bool) (s len:Nat) (x i:Opd):vop C M sl hp base (.ixA g s len x i)=bnd (idx (evO sl i)) fun n=>Zn0 g s len n (evO sl x):=by simp only[vop]
@[go_sem] theorem vopE_nth (C:Orc) (M:Zg) (sl:Sl) (hp:Hp) (base:Nat) (i:Nat) (x:Opd):vop C M sl hp base (.nth i x)=ZkW i (evO sl x):=by simp only[vop]
@[go_sem] theorem vopE_len (C:Orc) (M:Zg) (sl:Sl) (hp:Hp) (base:Nat) (x:Opd):vop C M sl hp base (.len x)=bnd (UV hp (evO sl x)) fun n=>Qg (.d (.int .i64 n)):=by simp only[vop]
@[go_sem] theorem vopE_lenS (C:Orc) (M:Zg) (sl:Sl) (hp:Hp) (base:Nat) (x:Opd):vop C M sl hp base (.lenS x)=bnd (Znp (evO sl x)) fun n=>Qg (.d (.int .i64 n)):=by simp only[vop]
@[go_sem] theorem Zrb (C:Orc) (M:Zg) (sl:Sl) (hp:Hp) (base:Nat) (s b:Nat) (str flat:Bool) (x y:Opd):vop C M sl hp base (.append s b str flat x y)=ZkX hp s b str flat base (evO sl x) (evO sl y):=by simp only[vop]
@[go_sem] theorem vopE_min (C:Orc) (M:Zg) (sl:Sl) (hp:Hp) (base:Nat) (x y:Opd):vop C M sl hp base (.min x y)=ZeG (evO sl x) (evO sl y):=by simp only[vop]
@[go_sem] theorem vopE_max (C:Orc) (M:Zg) (sl:Sl) (hp:Hp) (base:Nat) (x y:Opd):vop C M sl hp base (.max x y)=ZeH (evO sl x) (evO sl y):=by simp only[vop]
@[go_sem] theorem vopE_call (C:Orc) (M:Zg) (sl:Sl) (hp:Hp) (base:Nat) (f:Opd) (as:List Opd):vop C M sl hp base (.call f as)=U0 C M hp base (evL sl as) (evO sl f):=by simp only[vop]
@[go_sem] theorem Zrc (C:Orc) (M:Zg) (sl:Sl) (hp:Hp) (base:Nat) (s:Nat) (x lo hi mx:Opd):vop C M sl hp base (.slice3 s x lo hi mx)=Yj (slice3 hp (evO sl x) (idx (evO sl lo)) (idx (evO sl hi)) (idx (evO sl mx))):=by simp only[vop]
@[go_sem] theorem ZrK (C:Orc) (M:Zg) (sl:Sl) (hp:Hp) (base:Nat) (s:Nat) (z:D) (x:Opd):vop C M sl hp base (.clear s z x)=Zam (JM hp s z (evO sl x)):=by simp only[vop]
@[go_sem] theorem Zrd (C:Orc) (M:Zg) (sl:Sl) (hp:Hp) (base:Nat) (s n:Nat) (xs:List Opd):vop C M sl hp base (.buildT s n xs)=buildT hp base s n (evL sl xs):=by simp only[vop]
@[go_sem] theorem vopE_appT (C:Orc) (M:Zg) (sl:Sl) (hp:Hp) (base:Nat) (s b:Nat) (f:Bool) (x y:Opd):vop C M sl hp base (.appT s b f x y)=appT hp s b base (evO sl x) (evO sl y):=by simp only[vop]
@[go_sem] theorem vopE_asgT (C:Orc) (M:Zg) (sl:Sl) (hp:Hp) (base:Nat) (s n:Nat) (x:Opd):vop C M sl hp base (.asgT s n x)=asgT base s n (evO sl x):=by simp only[vop]
@[go_sem] theorem ZrL (C:Orc) (M:Zg) (sl:Sl) (hp:Hp) (base:Nat) (s b n:Nat) (z:D) (l c:Opd):vop C M sl hp base (.makeT s b n z l c)=bnd (idx (evO sl l)) fun l=>bnd (idx (evO sl c)) fun c=>makeT base s b n z l c:=by simp only[vop]
@[go_sem] theorem ZrM (C:Orc) (M:Zg) (sl:Sl) (hp:Hp) (base:Nat):vop C M sl hp base .stuck=none:=by simp only[vop]
@[go_sem] theorem ZnP (hp:Hp) (n:Nat) (aa:List Nat):Qu hp n [] aa=aa:=by cases n<;>rfl
@[go_sem] theorem tidy_d (hp:Hp) (ids:List Nat) (x:D):Jt hp ids (.d x)=.d x:=rfl
@[go_sem] theorem tidy_nil (hp:Hp) (ids:List Nat):Jt hp ids .nil=.nil:=rfl
@[go_sem] theorem tidy_junk (hp:Hp) (ids:List Nat):Jt hp ids .junk=.junk:=rfl
@[go_sem] theorem tidy_tup (hp:Hp) (ids:List Nat) (vs:List AV):Jt hp ids (.tup vs)=ren (Yd ids) (kill (ZaM hp ids (Zm (.tup vs))) (.tup vs)):=rfl
@[go_sem] theorem tidy_agg (hp:Hp) (ids:List Nat) (vs:List AV):Jt hp ids (.agg vs)=ren (Yd ids) (kill (ZaM hp ids (Zm (.agg vs))) (.agg vs)):=rfl
@[go_sem] theorem tidy_clo (hp:Hp) (ids:List Nat) (f:Nat) (vs:List AV):Jt hp ids (.clo f vs)=ren (Yd ids) (kill (ZaM hp ids (Zm (.clo f vs))) (.clo f vs)):=rfl
@[go_sem] theorem tidy_nilp (hp:Hp) (ids:List Nat):Jt hp ids .nilp=.nilp:=rfl
@[go_sem] theorem tidy_nili (hp:Hp) (ids:List Nat):Jt hp ids .nili=.nili:=rfl
@[go_sem] theorem tidy_pim (hp:Hp) (ids:List Nat) (cs:List D):Jt hp ids (.pim cs)=.pim cs:=rfl
@[go_sem] theorem tidy_ptr (hp:Hp) (ids:List Nat) (id o:Nat):Jt hp ids (.ptr id o)=if U4 hp ids id=true then .ptr (Yd ids id) o else .junk:=by
 simp only[Jt,Zm,Zn,Zf,ZaM];split<;>simp[kill,ZD,ZP,ren,UU,JE]
@[go_sem] theorem tidy_prow (hp:Hp) (ids:List Nat) (id s i o:Nat):Jt hp ids (.prow id s i o)=if U4 hp ids id=true then .prow (Yd ids id) s i o else .junk:=by
 simp only[Jt,Zm,Zn,Zf,ZaM];split<;>simp[kill,ZD,ZP,ren,UU,JE]
@[go_sem] theorem tidy_own (hp:Hp) (ids:List Nat) (id:Nat):Jt hp ids (.own id)=if U4 hp ids id=true then .own (Yd ids id) else .junk:=by
 simp only[Jt,Zm,Zn,Zf,ZaM];split<;>simp[kill,ZD,ZP,ren,UU,JE]
@[go_sem] theorem tidy_ownv (hp:Hp) (ids:List Nat) (id a b:Nat):Jt hp ids (.ownv id a b)=if U4 hp ids id=true then .ownv (Yd ids id) a b else .junk:=by
 simp only[Jt,Zm,Zn,Zf,ZaM];split<;>simp[kill,ZD,ZP,ren,UU,JE]
@[go_sem] theorem ZrN (hp:Hp) (x:D):Yv 0 hp (.d x)=(.d x,[]):=by
 simp[Yv,Zm,Zn,Zf,YI,ZnP,tidy_d,UX]
@[go_sem] theorem minI_eq (a b:Int):minI a b=min a b:=by unfold minI;split<;>omega
@[go_sem] theorem maxI_eq (a b:Int):maxI a b=max a b:=by unfold maxI;split<;>omega
@[go_sem] theorem negIf_f (r:Bool):Zgf false r=r:=rfl
@[go_sem] theorem negIf_t (r:Bool):Zgf true r=!r:=rfl
@[go_sem] theorem opt1_some (v:AV):Yj (some v)=Qg v:=rfl
@[go_sem] theorem opt1_none:Yj none=none:=rfl
@[go_sem] theorem vbin_int (op:BinOp) (k k' : IntKind) (a b:Int):vbin op (.d (.int k a)) (.d (.int k' b))=Vv op k k' a b:=rfl
@[go_sem] theorem binV_int (op:BinOp) (eq:Bool) (k k' : IntKind) (a b:Int):ZhX op eq (.d (.int k a)) (.d (.int k' b))=Yj (Vv op k k' a b):=rfl
@[go_sem] theorem binV_str (op:BinOp) (eq:Bool) (a b:List UInt8):ZhX op eq (.d (.str a)) (.d (.str b))=Yj (asD (Zki op a b)):=rfl
@[go_sem] theorem int2_add (k:IntKind) (a b:Int):Vv .add k k a b=some (.d (.int k (k.wrap (a+b)))):=by simp[Vv,YT,asD,Zc]
@[go_sem] theorem int2_sub (k:IntKind) (a b:Int):Vv .sub k k a b=some (.d (.int k (k.wrap (a-b)))):=by simp[Vv,YT,asD,Zc]
@[go_sem] theorem int2_mul (k:IntKind) (a b:Int):Vv .mul k k a b=some (.d (.int k (k.wrap (a*b)))):=by simp[Vv,YT,asD,Zc]
@[go_sem] theorem int2_quo (k:IntKind) (a b:Int):Vv .quo k k a b=if b=0 then none else some (.d (.int k (k.wrap (a.tdiv b)))):=by simp only[Vv,YT,asD,if_true];split<;>rfl
@[go_sem] theorem int2_rem (k:IntKind) (a b:Int):Vv .rem k k a b=if b=0 then none else some (.d (.int k (a.tmod b))):=by simp only[Vv,YT,asD,if_true];split<;>rfl
@[go_sem] theorem int2_eql (k:IntKind) (a b:Int):Vv .eql k k a b=some (.d (.bool (decide (a=b)))):=by simp[Vv,YT,asD,Zc,BEq.beq]
@[go_sem] theorem int2_neq (k:IntKind) (a b:Int):Vv .neq k k a b=some (.d (.bool (!decide (a=b)))):=by simp[Vv,YT,asD,Zc,bne,BEq.beq]
@[go_sem] theorem int2_lss (k:IntKind) (a b:Int):Vv .lss k k a b=some (.d (.bool (decide (a<b)))):=by simp[Vv,YT,asD,Zc]
@[go_sem] theorem int2_leq (k:IntKind) (a b:Int):Vv .leq k k a b=some (.d (.bool (decide (a≤b)))):=by simp[Vv,YT,asD,Zc]
@[go_sem] theorem int2_gtr (k:IntKind) (a b:Int):Vv .gtr k k a b=some (.d (.bool (decide (b<a)))):=by simp[Vv,YT,asD,Zc]
@[go_sem] theorem int2_geq (k:IntKind) (a b:Int):Vv .geq k k a b=some (.d (.bool (decide (b≤a)))):=by simp[Vv,YT,asD,Zc]
@[go_sem] theorem guardV_t (b:Bool):JX true (.d (.bool b))=some b:=by cases b<;>rfl
def nb (b:Bool):Bool:=!b
@[go_sem] theorem nb_true:nb true=false:=rfl
@[go_sem] theorem nb_false:nb false=true:=rfl
@[go_sem] theorem nb_eq (b:Bool):(nb b=true)=(b=false):=by cases b<;>simp[nb]
@[go_sem] theorem guardV_f (b:Bool):JX false (.d (.bool b))=some (nb b):=by cases b<;>rfl
@[go_sem] theorem ZrO (w:Bool):JX w (.tup [])=some false:=rfl
@[go_sem] theorem Zqp (a b:Bool):JX true (ZbD a (.d (.bool b)))=some (a&&b):=by cases a<;>cases b<;>rfl
@[go_sem] theorem Zqq (a b:Bool):JX false (ZbD a (.d (.bool b)))=some (a&&nb b):=by cases a<;>cases b<;>rfl
@[go_sem] theorem iteV_true (v:AV):ZbD true v=v:=rfl
@[go_sem] theorem ZrP (v:AV):ZbD false v=.tup []:=rfl
@[go_sem] theorem ZrQ (a b:AV):ZaH a b (.d (.bool true))=Qg a:=rfl
@[go_sem] theorem Zre (a b:AV):ZaH a b (.d (.bool false))=Qg b:=rfl
@[go_sem] theorem pickV_or (b c:Bool):ZaH (.d (.bool true)) (ZbD (nb b) (.d (.bool c))) (.d (.bool b))=Qg (.d (.bool (b || c))):=by cases b<;>rfl
@[go_sem] theorem pickV_and (b c:Bool):ZaH (ZbD b (.d (.bool c))) (.d (.bool false)) (.d (.bool b))=Qg (.d (.bool (b&&c))):=by cases b<;>rfl
theorem ZrR (a b:AV) (t:Bool):ZaH a b (.d (.bool t))=if t=true then Qg a else Qg b:=by cases t<;>rfl
@[go_sem] theorem dec_or (p q:Prop) [Decidable p] [Decidable q]:(decide p || decide q)=decide (p∨q):=by simp
@[go_sem] theorem dec_and (p q:Prop) [Decidable p] [Decidable q]:(decide p&&decide q)=decide (p∧q):=by simp
@[go_sem] theorem dec_not (p:Prop) [Decidable p]:(!decide p)=decide (¬p):=by simp
attribute [go_sem] Bool.or_eq_false_iff decide_eq_true_eq decide_eq_false_iff_not Bool.and_eq_true Bool.or_eq_true Bool.not_eq_true' Bool.not_eq_false' not_or Decidable.not_not
@[go_sem] theorem evO_t (sl:Sl) (n:Nat):evO sl (.t n)=gs sl n:=rfl
@[go_sem] theorem evO_v (sl:Sl) (a:AV):evO sl (.v a)=a:=rfl
@[go_sem] theorem evO_f (sl:Sl) (n:Nat):evO sl (.f n)=.clo n []:=rfl
@[go_sem] theorem gs_hit (k:Nat) (v:AV) (r:Sl):gs ((k,v) :: r) k=v:=by simp[gs,lkp,W5]
@[go_sem] theorem gs_cons (k t:Nat) (v:AV) (r:Sl):gs ((k,v) :: r) t=if k=t then v else gs r t:=by
 by_cases h:k=t<;>simp[gs,lkp,h,W5]
@[go_sem] theorem gs_nil (t:Nat):gs [] t=.junk:=rfl
attribute [go_sem] UB.eq_1 UB.eq_2
attribute [go_sem] Vu.eq_1 Vu.eq_2 Vu.eq_3 Vu.eq_4
attribute [go_sem] Zcu.eq_1 Zcu.eq_2 Zcu.eq_3 Zcu.eq_4
attribute [go_sem] Vb.eq_1 Vb.eq_2
attribute [go_sem] St.hp.eq_1
attribute [go_sem] UF.eq_1 UF.eq_2 UF.eq_3
attribute [go_sem] W5.eq_1 W5.eq_2
attribute [go_sem] agg2.eq_1 agg2.eq_2 agg2.eq_3
attribute [go_sem] ins.eq_1 ins.eq_2
attribute [go_sem] JD.eq_1 JD.eq_2
attribute [go_sem] QH.eq_1 QH.eq_2 QH.eq_3
attribute [go_sem] St.m.eq_1
attribute [go_sem] bnd.eq_1 bnd.eq_2
attribute [go_sem] Zfv.eq_1 Zfv.eq_2 Zfv.eq_3
attribute [go_sem] Vt.eq_1 Vt.eq_2 Vt.eq_3
attribute [go_sem] Zki.eq_1 Zki.eq_2 Zki.eq_3 Zki.eq_4
attribute [go_sem] AV.cells.eq_1 AV.cells.eq_2 AV.cells.eq_3 AV.cells.eq_4 AV.cells.eq_5 AV.cells.eq_6 AV.cells.eq_7 AV.cells.eq_8 AV.cells.eq_9 AV.cells.eq_10 AV.cells.eq_11 AV.cells.eq_12 AV.cells.eq_13 AV.cells.eq_14 AV.cells.eq_15
attribute [go_sem] ZP.eq_1 ZP.eq_2 ZP.eq_3 ZP.eq_4 ZP.eq_5 ZP.eq_6
attribute [go_sem] AV.solid.eq_1 AV.solid.eq_2 AV.solid.eq_3 AV.solid.eq_4
attribute [go_sem] X7.eq_1 X7.eq_2
attribute [go_sem] Z7.eq_1 Z7.eq_2
attribute [go_sem] X8.eq_1 X8.eq_2
attribute [go_sem] Vs.eq_1
attribute [go_sem] UV.eq_1 UV.eq_2 UV.eq_3 UV.eq_4 UV.eq_5
attribute [go_sem] Yl.eq_1 Yl.eq_2
attribute [go_sem] D.flat.eq_1
attribute [go_sem] give.eq_1 give.eq_2
attribute [go_sem] D.beq1.eq_1 D.beq1.eq_2 D.beq1.eq_3 D.beq1.eq_4
attribute [go_sem] JE.eq_1 JE.eq_2 JE.eq_3 JE.eq_4 JE.eq_5 JE.eq_6
attribute [go_sem] not1.eq_1 not1.eq_2
attribute [go_sem] QD.eq_1 QD.eq_2 QD.eq_3 QD.eq_4
attribute [go_sem] St.nx.eq_1
attribute [go_sem] Zn.eq_1 Zn.eq_2 Zn.eq_3
attribute [go_sem] UU.eq_1 UU.eq_2 UU.eq_3
attribute [go_sem] Zcv.eq_1 Zcv.eq_2
attribute [go_sem] vun.eq_1 vun.eq_2 vun.eq_3
attribute [go_sem] toD.eq_1 toD.eq_2
attribute [go_sem] Zf.eq_1 Zf.eq_2 Zf.eq_3 Zf.eq_4 Zf.eq_5 Zf.eq_6 Zf.eq_7 Zf.eq_8 Zf.eq_9 Zf.eq_10 Zf.eq_11 Zf.eq_12 Zf.eq_13 Zf.eq_14 Zf.eq_15
attribute [go_sem] D.plain.eq_1 D.plain.eq_2 D.plain.eq_3 D.plain.eq_4 D.plain.eq_5
attribute [go_sem] Zk.eq_1
attribute [go_sem] ZD.eq_1 ZD.eq_2 ZD.eq_3
attribute [go_sem] Y7.eq_1 Y7.eq_2
attribute [go_sem] Zm.eq_1 Zm.eq_2
attribute [go_sem] Zlx.eq_1
attribute [go_sem] Zdy.eq_1 Zdy.eq_2
attribute [go_sem] WP.eq_1 WP.eq_2 WP.eq_3 WP.eq_4
attribute [go_sem] St.sl.eq_1
attribute [go_sem] Znp.eq_1 Znp.eq_2
attribute [go_sem] YG.eq_1 YG.eq_2
attribute [go_sem] UT.eq_1 UT.eq_2
attribute [go_sem] ren.eq_1 ren.eq_2
attribute [go_sem] kill.eq_1 kill.eq_2
attribute [go_sem] lkp.eq_1 lkp.eq_2
attribute [go_sem] Zih.eq_1 Zih.eq_2 Zih.eq_3
attribute [go_sem] Qv.eq_1 Qv.eq_2
attribute [go_sem] beqL.eq_1 beqL.eq_2 beqL.eq_3
attribute [go_sem] D.cells.eq_1 D.cells.eq_2 D.cells.eq_3 D.cells.eq_4 D.cells.eq_5
attribute [go_sem] Zft.eq_1 Zft.eq_2
attribute [go_sem] Zig.eq_1 Zig.eq_2
attribute [go_sem] neg1.eq_1 neg1.eq_2
attribute [go_sem] Zdz.eq_1 Zdz.eq_2 Zdz.eq_3
attribute [go_sem] Zfu.eq_1 Zfu.eq_2
attribute [go_sem] XD.eq_1 XD.eq_2 XD.eq_3
attribute [go_sem] asD.eq_1
attribute [go_sem] YT.eq_1 YT.eq_2 YT.eq_3 YT.eq_4 YT.eq_5 YT.eq_6 YT.eq_7 YT.eq_8 YT.eq_9 YT.eq_10 YT.eq_11 YT.eq_12 YT.eq_13 YT.eq_14 YT.eq_15 YT.eq_16 YT.eq_17
attribute [go_sem] ZbC.eq_1 ZbC.eq_2 ZbC.eq_3 ZbC.eq_4 ZbC.eq_5
attribute [go_sem] D.one.eq_1 D.one.eq_2 D.one.eq_3 D.one.eq_4 D.one.eq_5
attribute [go_sem] freeze.eq_1 freeze.eq_2
attribute [go_sem] Ua.eq_1
attribute [go_sem] loOf.eq_1 loOf.eq_2
attribute [go_sem] Eff.on.eq_1
attribute [go_sem] appT.eq_1
attribute [go_sem] Wp.eq_1 Wp.eq_2
attribute [go_sem] cloV.eq_1
attribute [go_sem] slice0.eq_1 slice0.eq_2
attribute [go_sem] evM.eq_1 evM.eq_2
attribute [go_sem] VD.eq_1 VD.eq_2
attribute [go_sem] hiOf.eq_1 hiOf.eq_2
attribute [go_sem] ZcR.eq_1 ZcR.eq_2 ZcR.eq_3
attribute [go_sem] ZmX.eq_1
attribute [go_sem] idx.eq_1 idx.eq_2
attribute [go_sem] X4.eq_1 X4.eq_2 X4.eq_3 X4.eq_4 X4.eq_5
attribute [go_sem] V5.eq_1 V5.eq_2 V5.eq_3
attribute [go_sem] ZN.eq_1 ZN.eq_2
attribute [go_sem] D.notSl.eq_1 D.notSl.eq_2
attribute [go_sem] ZoY.eq_1 ZoY.eq_2
attribute [go_sem] Ue.eq_1 Ue.eq_2 Ue.eq_3 Ue.eq_4 Ue.eq_5 Ue.eq_6
attribute [go_sem] XF.eq_1 XF.eq_2 XF.eq_3 XF.eq_4
attribute [go_sem] CO.guard.eq_1
attribute [go_sem] Zam.eq_1
attribute [go_sem] Wz.eq_1
attribute [go_sem] Ub.eq_1 Ub.eq_2 Ub.eq_3
attribute [go_sem] ZcM.eq_1
attribute [go_sem] Eff.adds.eq_1
attribute [go_sem] ZeF.eq_1 ZeF.eq_2
attribute [go_sem] Yd.eq_1 Yd.eq_2
attribute [go_sem] Zd.eq_1 Zd.eq_2
attribute [go_sem] Zb.eff.eq_1
attribute [go_sem] ZaE.eq_1 ZaE.eq_2
attribute [go_sem] ZlW.eq_1 ZlW.eq_2
attribute [go_sem] ZaA.eq_1 ZaA.eq_2 ZaA.eq_3
attribute [go_sem] del.eq_1 del.eq_2
attribute [go_sem] Zge.eq_1
attribute [go_sem] ZjJ.eq_1 ZjJ.eq_2
attribute [go_sem] Wb.eq_1 Wb.eq_2
attribute [go_sem] ZeH.eq_1 ZeH.eq_2
attribute [go_sem] D.isAgg.eq_1 D.isAgg.eq_2
attribute [go_sem] Wc.eq_1 Wc.eq_2 Wc.eq_3 Wc.eq_4 Wc.eq_5
attribute [go_sem] ZaI.eq_1
attribute [go_sem] slice3.eq_1
attribute [go_sem] Ud.eq_1 Ud.eq_2
attribute [go_sem] args.eq_1 args.eq_2
attribute [go_sem] ZeG.eq_1 ZeG.eq_2
attribute [go_sem] JP.eq_1
attribute [go_sem] ZcN.eq_1 ZcN.eq_2 ZcP.eq_1 ZcP.eq_2
attribute [go_sem] VG.eq_1
attribute [go_sem] evL.eq_1 evL.eq_2
attribute [go_sem] ZdK.eq_1 ZdK.eq_2 ZdK.eq_3
attribute [go_sem] VC.eq_1 VC.eq_2 VC.eq_3
attribute [go_sem] UX.eq_1 UX.eq_2
attribute [go_sem] Zga.eq_1 Zga.eq_2
attribute [go_sem] Eff.sets.eq_1
attribute [go_sem] UY.eq_1 UY.eq_2 UY.eq_3
attribute [go_sem] ZcL.eq_1 ZcL.eq_2
attribute [go_sem] ZcQ.eq_1 ZcQ.eq_2
attribute [go_sem] WH.eq_1 WH.eq_2 WH.eq_3
attribute [go_sem] Zn0.eq_1
attribute [go_sem] makeT.eq_1
attribute [go_sem] XG.eq_1 XG.eq_2
attribute [go_sem] ZoZ.eq_1 ZoZ.eq_2
attribute [go_sem] Zgc.eq_1 Zgc.eq_2
attribute [go_sem] Ui.eq_1 Ui.eq_2
attribute [go_sem] ZiI.eq_1
attribute [go_sem] Uh.eq_1 Uh.eq_2
attribute [go_sem] AV.atom.eq_1 AV.atom.eq_2 AV.atom.eq_3 AV.atom.eq_4 AV.atom.eq_5
attribute [go_sem] Eff.dels.eq_1
attribute [go_sem] UL.eq_1 UL.eq_2 UL.eq_3
attribute [go_sem] mat.eq_1 mat.eq_2 mat.eq_3
attribute [go_sem] Zz.eq_1
attribute [go_sem] Ug.eq_1 Ug.eq_2
attribute [go_sem] ZjL.eq_1
attribute [go_sem] ZnZ.eq_1
attribute [go_sem] UN.eq_1 UN.eq_2
attribute [go_sem] VE.eq_1
attribute [go_sem] Z9.eq_1 Z9.eq_2 Z9.eq_3 Z9.eq_4
attribute [go_sem] rowV.eq_1
attribute [go_sem] ZaB.eq_1 ZaB.eq_2
attribute [go_sem] ZdL.eq_1 ZdL.eq_2
attribute [go_sem] ZkZ.eq_1 ZkZ.eq_2
attribute [go_sem] ZbS.eq_1 ZbS.eq_2 ZbS.eq_3 ZbS.eq_4
attribute [go_sem] Zca.eq_1 Zca.eq_2
attribute [go_sem] JN.eq_1 JN.eq_2
attribute [go_sem] ZaD.eq_1 ZaD.eq_2 ZaD.eq_3 ZaD.eq_4 ZaD.eq_5
attribute [go_sem] ZjK.eq_1 ZjK.eq_2
attribute [go_sem] Zgd.eq_1
attribute [go_sem] convS.eq_1 convS.eq_2
attribute [go_sem] ZcO.eq_1 ZcO.eq_2
attribute [go_sem] CO.tl.eq_1
attribute [go_sem] ZaF.eq_1 ZaF.eq_2 ZaF.eq_3 ZaF.eq_4
attribute [go_sem] CO.dst.eq_1
attribute [go_sem] teOf.eq_1
attribute [go_sem] ZlX.eq_1 ZlX.eq_2 ZlX.eq_3
attribute [go_sem] Zgb.eq_1
attribute [go_sem] ZkU.eq_1 ZkU.eq_2
attribute [go_sem] ZkV.eq_1
attribute [go_sem] Eff.val.eq_1
attribute [go_sem] sliceS.eq_1 sliceS.eq_2
attribute [go_sem] Xh.eq_1 Xh.eq_2 Xh.eq_3
attribute [go_sem] ZaC.eq_1 ZaC.eq_2 ZaC.eq_3 ZaC.eq_4
attribute [go_sem] VA.eq_1
attribute [go_sem] buildSl.eq_1 buildSl.eq_2
attribute [go_sem] YV.eq_1 YV.eq_2 YV.eq_3 YV.eq_4
attribute [go_sem] V3.eq_1 V3.eq_2 V3.eq_3 V3.eq_4 V3.eq_5
attribute [go_sem] ZeE.eq_1 ZeE.eq_2
attribute [go_sem] Zgg.eq_1
attribute [go_sem] evP.eq_1 evP.eq_2
attribute [go_sem] ZcS.eq_1 ZcS.eq_2
attribute [go_sem] UM.eq_1
attribute [go_sem] Zbk.eq_1
attribute [go_sem] ZiH.eq_1 ZiH.eq_2
attribute [go_sem] Zgf.eq_1
attribute [go_sem] Yr.eq_1
attribute [go_sem] ZkY.eq_1
attribute [go_sem] bnT.eq_1 bnT.eq_2
attribute [go_sem] Uc.eq_1 Uc.eq_2
attribute [go_sem] Yc.eq_1 Yc.eq_2
attribute [go_sem] VF.eq_1 VF.eq_2
attribute [go_sem] asgT.eq_1 asgT.eq_2
attribute [go_sem] ZdM.eq_1 ZdM.eq_2
attribute [go_sem] U0.eq_1 U0.eq_2
attribute [go_sem] ZaG.eq_1 ZaG.eq_2 ZaG.eq_3 ZaG.eq_4
attribute [go_sem] ZkS.eq_1 ZkS.eq_2
attribute [go_sem] CO.op.eq_1
attribute [go_sem] JQ.eq_1 JQ.eq_2
attribute [go_sem] JM.eq_1 JM.eq_2
attribute [go_sem] ZnY.eq_1 ZnY.eq_2
attribute [go_sem] Zbl.eq_1 Zbl.eq_2 Zbl.eq_3
attribute [go_sem] ZkW.eq_1 ZkW.eq_2
attribute [go_sem] ZbE.eq_1 ZbE.eq_2
attribute [go_sem] JO.eq_1 JO.eq_2
attribute [go_sem] UC.eq_1 UC.eq_2 UC.eq_3 UC.eq_4 UC.eq_5 UC.eq_6 UC.eq_7 UC.eq_8 UC.eq_9 UC.eq_10
attribute [go_sem] WA.eq_1
attribute [go_sem] Ys.eq_1 Ys.eq_2 Ys.eq_3 Ys.eq_4
attribute [go_sem] Eff.frz.eq_1
attribute [go_sem] buildT.eq_1
attribute [go_sem] ZW.eq_1 ZW.eq_2
attribute [go_sem] Zbj.eq_1 Zbj.eq_2
attribute [go_sem] Zb.gone.eq_1
attribute [go_sem] meltIn.eq_1 meltIn.eq_2
attribute [go_sem] ZbT.eq_1
attribute [go_sem] ZkT.eq_1 ZkT.eq_2
attribute [go_sem] convI.eq_1 convI.eq_2
attribute [go_sem] Zfi.eq_1 Zfi.eq_2
attribute [go_sem] WY.eq_1 WY.eq_2 WY.eq_3
attribute [go_sem] bd.eq_1
attribute [go_sem] Uf.eq_1 Uf.eq_2
attribute [go_sem] QR.eq_1
attribute [go_sem] ZjM.eq_1 ZjM.eq_2
attribute [go_sem] Zbm.eq_1
attribute [go_sem] QX.eq_1 QX.eq_2
attribute [go_sem] Zm7.eq_1 Zm7.eq_2
attribute [go_sem] Zr.eq_1 Zr.eq_2 Zr.eq_3 Zr.eq_4 Zr.eq_5 Zr.eq_6 Zr.eq_7 Zr.eq_8 Zr.eq_9 Zr.eq_10 Zr.eq_11 Zr.eq_12 Zr.eq_13 Zr.eq_14 Zr.eq_15 Zr.eq_16 Zr.eq_17 Zr.eq_18 Zr.eq_19 Zr.eq_20 Zr.eq_21 Zr.eq_22 Zr.eq_23 Zr.eq_24 Zr.eq_25 Zr.eq_26 Zr.eq_27 Zr.eq_28 Zr.eq_29 Zr.eq_30 Zr.eq_31 Zr.eq_32 Zr.eq_33 Zr.eq_34 Zr.eq_35 Zr.eq_36 Zr.eq_37 Zr.eq_38 Zr.eq_39 Zr.eq_40
attribute [go_sem] Vd.eq_1 Vd.eq_2 Vd.eq_3 Vd.eq_4 Vd.eq_5
attribute [go_sem] ZaN.eq_1
attribute [go_sem] ZjY.eq_1 ZjY.eq_2
attribute [go_sem] Up.eq_1 Up.eq_2
attribute [go_sem] J3.eq_1 Zj0.eq_1 Zj0.eq_2 Zj0.eq_3 Zpe.eq_1
attribute [go_sem] U3.eq_1 U3.eq_2 U3.eq_3 U3.eq_4 U3.eq_5
attribute [go_sem] Yh.eq_1 Yh.eq_2
attribute [go_sem] ZeM.eq_1 ZeM.eq_2
attribute [go_sem] Zn8.eq_1 Zn8.eq_2
attribute [go_sem] ZiR.eq_1 ZiR.eq_2
attribute [go_sem] Qx.eq_1 Qx.eq_2
attribute [go_sem] only.eq_1 only.eq_2
attribute [go_sem] Zmc.eq_1 Zmc.eq_2
attribute [go_sem] ZaL.eq_1 ZaL.eq_2
attribute [go_sem] Yi.eq_1 Yi.eq_2
attribute [go_sem] okL.eq_1 okL.eq_2
attribute [go_sem] okC.eq_1 okC.eq_2 okC.eq_3 okC.eq_4 okC.eq_5 okC.eq_6 okC.eq_7 okC.eq_8 okC.eq_9 okC.eq_10
attribute [go_sem] Zfl.eq_1 Zfl.eq_2
attribute [go_sem] WK.eq_1 WK.eq_2
attribute [go_sem] JY.eq_1 JY.eq_2 JY.eq_3
attribute [go_sem] Zbq.eq_1 Zbq.eq_2
attribute [go_sem] ZaM.eq_1 ZaM.eq_2
attribute [go_sem] Qk.eq_1 Qk.eq_2
attribute [go_sem] Zi.eq_1 Zi.eq_2
attribute [go_sem] XP.eq_1 XP.eq_2 XP.eq_3
attribute [go_sem] Zc4.eq_1
attribute [go_sem] Yu.eq_1 Yu.eq_2
attribute [go_sem] ZjZ.eq_1 ZjZ.eq_2
attribute [go_sem] CO.starts.eq_1
attribute [go_sem] Yg.eq_1 Yg.eq_2
attribute [go_sem] Qn.eq_1 Qn.eq_2
attribute [go_sem] Zm6.eq_1 Zm6.eq_2
attribute [go_sem] Zd0.eq_1
attribute [go_sem] Zgy.eq_1 Zgy.eq_2 Zgy.eq_3
attribute [go_sem] J0.eq_1 J0.eq_2
attribute [go_sem] YI.eq_1 YI.eq_2
attribute [go_sem] U4.eq_1
attribute [go_sem] Zgz.eq_1 Zgz.eq_2
attribute [go_sem] Zm5.eq_1
attribute [go_sem] Qo.body.eq_1
attribute [go_sem] Zc6.eq_1
attribute [go_sem] Zch.eq_1 Zch.eq_2
attribute [go_sem] VK.eq_1 VK.eq_2 VK.eq_3 VK.eq_4 VK.eq_5
attribute [go_sem] Qo.res.eq_1
attribute [go_sem] Xv.eq_1 Xv.eq_2
attribute [go_sem] Q4.eq_1 Q4.eq_2 Q4.eq_3 Q4.eq_4 Q4.eq_5 Q4.eq_6 Q4.eq_7 Q4.eq_8 Q4.eq_9 Q4.eq_10 Q4.eq_11 Q4.eq_12
attribute [go_sem] ZgD.eq_1 ZgD.eq_2
attribute [go_sem] XO.eq_1 XO.eq_2
attribute [go_sem] Qo.nt.eq_1
attribute [go_sem] okD.eq_1 okD.eq_2
attribute [go_sem] ZjM.eq_1 V3.eq_1 V3.eq_2 V3.eq_3 V3.eq_4
attribute [go_sem] Vl.eq_1 Ul.eq_1 Ul.eq_2 Ul.eq_3 Ul.eq_4 Ul.eq_5 Ul.eq_6 Ul.eq_7 Ul.eq_8 Ul.eq_9 Ul.eq_10 Yv.eq_1
attribute [go_sem] Qu.eq_3 QT.eq_1 AV.atom.eq_1 AV.atom.eq_2 AV.atom.eq_3 AV.atom.eq_4
attribute [go_sem] ZhV.eq_1 ZhV.eq_2 ZbQ.eq_1 ZbQ.eq_2
attribute [go_sem] Zc ZoA Zp3
attribute [go_sem] List.map_cons List.map_nil List.flatMap_cons List.flatMap_nil List.append_nil List.nil_append List.cons_append List.length_cons List.length_nil List.all_cons List.all_nil List.any_cons List.any_nil List.contains_cons List.contains_nil List.filter_cons List.filter_nil List.drop_zero List.drop_succ_cons List.drop_nil List.take_zero List.take_succ_cons List.take_nil List.getElem?_cons_zero List.getElem?_cons_succ List.getElem?_nil Option.map_some Option.map_none Bool.and_true Bool.true_and Bool.and_false Bool.false_and Bool.or_true Bool.true_or Bool.or_false Bool.false_or Bool.not_true Bool.not_false decide_true decide_false and_true true_and and_false false_and not_true not_false_eq_true or_true true_or or_false false_or if_true if_false true_implies false_implies implies_true imp_self eq_self ne_eq beq_self_eq_true Bool.true_eq_false Bool.false_eq_true List.isEmpty_nil List.isEmpty_cons List.range_zero List.set_cons_zero List.set_cons_succ Option.some.injEq reduceCtorEq Nat.reduceLeDiff
def Zf6 (hp:Hp):List Nat→List Nat
 | []=>[]
 | i :: r=>if ZaF (lkp hp i)=true then i :: Zf6 hp r else Zf6 hp r
theorem gE (hp:Hp) (ids:List Nat):(ids.filter fun i=>ZaF (lkp hp i))=Zf6 hp ids:=by
 induction ids with
 | nil=>rfl
 | cons i r ih=>simp only[List.filter_cons,Zf6,ih]
def ZiA (hp:Hp) (rs:List Nat):List Nat→Bool
 | []=>true
 | i :: r=>(ZaF (lkp hp i) || rs.contains i)&&ZiA hp rs r
def ZiB (hp:Hp):List Nat→Bool
 | []=>false
 | i :: r=>Uh (lkp hp i) || ZiB hp r
theorem gG (hp:Hp) (ids:List Nat):(ids.any fun i=>Uh (lkp hp i))=ZiB hp ids:=by
 induction ids with
 | nil=>rfl
 | cons i r ih=>simp only[List.any_cons,ZiB,ih]
attribute [go_sem] ZiB.eq_1 ZiB.eq_2
@[go_sem] theorem appV_eq (hp:Hp) (s b:Nat) (str flat:Bool) (base:Nat) (x y:AV):ZkX hp s b str flat base x y=UZ hp s b str flat base x y (QU hp x) (QU hp y):=rfl
attribute [go_sem] UZ.eq_1 UZ.eq_2 UZ.eq_3
@[go_sem] theorem treeId_d (hp:Hp) (x:D):QU hp (.d x)=[]:=rfl
@[go_sem] theorem ZrS (hp:Hp):QU hp .nil=[]:=rfl
@[go_sem] theorem Zrf (hp:Hp) (k o n:Nat):QU hp (.ownv k o n)=[]:=rfl
@[go_sem] theorem ZrT (hp:Hp) (k:Nat):QU hp (.own k)=if Uh (lkp hp k)=true then [k] else []:=rfl
@[go_sem] theorem noKeep_0 (M:Zg) (f:Nat):Q3 M f 0=M f 0:=rfl
@[go_sem] theorem noKeep_1 (M:Zg) (f:Nat):Q3 M f 1=M f 1:=rfl
@[go_sem] theorem noKeep_2 (M:Zg) (f:Nat):Q3 M f 2=M f 2:=rfl
@[go_sem] theorem noKeep_3 (M:Zg) (f:Nat):Q3 M f 3=M f 3:=rfl
@[go_sem] theorem noKeep_4 (M:Zg) (f:Nat):Q3 M f 4=M f 4:=rfl
@[go_sem] theorem noKeep_5 (M:Zg) (f:Nat):Q3 M f 5=M f 5:=rfl
@[go_sem] theorem noKeep_6 (M:Zg) (f:Nat):Q3 M f 6=M f 6:=rfl
@[go_sem] theorem noKeep_99 (M:Zg) (f:Nat):Q3 M f 99=false:=rfl
theorem gF (hp:Hp) (rs ids:List Nat):WX hp rs ids=ZiA hp rs ids:=by
 induction ids with
 | nil=>rfl
 | cons i r ih=>simp only[WX,Lj,ZiA] at ih ⊢;rw[ih]
attribute [go_sem] Zf6.eq_1 Zf6.eq_2 ZiA.eq_1 ZiA.eq_2
@[go_sem] theorem okV_d (x:D):okV (.d x)=true:=rfl
@[go_sem] theorem okV_nil:okV .nil=true:=rfl
@[go_sem] theorem okV_nilp:okV .nilp=true:=rfl
@[go_sem] theorem okV_nili:okV .nili=true:=rfl
@[go_sem] theorem okV_ptr (a b:Nat):okV (.ptr a b)=true:=rfl
@[go_sem] theorem okV_prow (a b c e:Nat):okV (.prow a b c e)=true:=rfl
@[go_sem] theorem okV_pim (cs:List D):okV (.pim cs)=true:=rfl
@[go_sem] theorem okV_own (a:Nat):okV (.own a)=true:=rfl
@[go_sem] theorem okV_ownv (a b c:Nat):okV (.ownv a b c)=true:=rfl
@[go_sem] theorem okV_agg (cs:List AV):okV (.agg cs)=ZjY cs:=rfl
@[go_sem] theorem okV_tup0:okV (.tup [])=true:=rfl
@[go_sem] theorem ZrU (sl:Sl) (a:COp) (x y:Nat) (v:AV):X6 sl a (.ptr x y) v=true:=rfl
@[go_sem] theorem seenIn_d (sl:Sl) (a:COp) (x y z t:Nat) (v:D):X6 sl a (.prow x y z t) (.d v)=true:=rfl
@[go_sem] theorem ZrV (sl:Sl) (a:COp) (x y z t:Nat) (v:List AV):X6 sl a (.prow x y z t) (.agg v)=(okV (.agg v)&&QX sl (Zr a) (Zm (.agg v))):=rfl
@[go_sem] theorem ZrW (sl:Sl) (a:COp) (x y z t:Nat) (k:Nat):X6 sl a (.prow x y z t) (.own k)=(okV (.own k)&&QX sl (Zr a) (Zm (.own k))):=rfl
@[go_sem] theorem ZrX (sl:Sl) (a:COp) (x y z t:Nat):X6 sl a (.prow x y z t) .nil=(okV .nil&&QX sl (Zr a) (Zm .nil)):=rfl
@[go_sem] theorem Zrg (sl:Sl) (a:COp) (x y z t:Nat):X6 sl a (.prow x y z t) .nilp=(okV .nilp&&QX sl (Zr a) (Zm .nilp)):=rfl
@[go_sem] theorem Zrh (sl:Sl) (a:COp) (x y z t:Nat) (k m n:Nat):X6 sl a (.prow x y z t) (.ownv k m n)=(okV (.ownv k m n)&&QX sl (Zr a) (Zm (.ownv k m n))):=rfl
@[go_sem] theorem Zri (sl:Sl) (a:COp) (k:Nat):seenSrc sl a (.own k)=Qk sl k (Zr a):=rfl
@[go_sem] theorem seenSrc_d (sl:Sl) (a:COp) (x:D):seenSrc sl a (.d x)=true:=rfl
@[go_sem] theorem Zrj (sl:Sl) (a:COp):seenSrc sl a .nil=true:=rfl
@[go_sem] theorem Zqr (sl:Sl) (a:COp) (x y z:Nat):seenSrc sl a (.ownv x y z)=true:=rfl
@[go_sem] theorem okV_iteV (b:Bool) (v:AV):okV (ZbD b v)=(!b || okV v):=by cases b<;>simp[ZbD,okV]
@[go_sem] theorem awayV_d (sl:Sl) (xs:List Opd) (x:D):Um sl xs (.d x)=true:=rfl
@[go_sem] theorem awayV_nil (sl:Sl) (xs:List Opd):Um sl xs .nil=true:=rfl
@[go_sem] theorem ZrY (sl:Sl) (xs:List Opd):Um sl xs .nilp=true:=rfl
@[go_sem] theorem awayV_ptr (sl:Sl) (xs:List Opd) (k o:Nat):Um sl xs (.ptr k o)=Qk sl k xs:=rfl
@[go_sem] theorem awayV_pim (sl:Sl) (xs:List Opd) (cs:List D):Um sl xs (.pim cs)=true:=rfl
@[go_sem] theorem awayV_own (sl:Sl) (xs:List Opd) (a:Nat):Um sl xs (.own a)=true:=rfl
@[go_sem] theorem ZrZ (sl:Sl) (xs:List Opd) (a b c:Nat):Um sl xs (.ownv a b c)=true:=rfl
@[go_sem] theorem awayV_agg (sl:Sl) (xs:List Opd) (cs:List AV):Um sl xs (.agg cs)=true:=rfl
@[go_sem] theorem awayV_tup (sl:Sl) (xs:List Opd) (cs:List AV):Um sl xs (.tup cs)=true:=rfl
end Go.Abs.E
