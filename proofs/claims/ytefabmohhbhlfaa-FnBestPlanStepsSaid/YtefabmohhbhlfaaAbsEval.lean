/- Own text. -/
import Derived.Test.YtefabmohhbhlfaaAbsRun
set_option linter.unusedVariables false
set_option linter.unusedSimpArgs false
namespace Go.Abs.E
open Go Go.Abs
abbrev _root_.Go.Abs.Opd.i (n:Int):Opd:=.v (.d (.int .i64 n))
abbrev _root_.Go.Abs.Opd.b (x:Bool):Opd:=.v (.d (.bool x))
def stW {α:Type} (x:Option α) (K:α→Prop):Prop:=match x with
 | some a=>K a
 | none=>False
def gW (x:Option Bool) (A B:Prop):Prop:=match x with
 | some b=>(b=true→A)∧(b=false→B)
 | none=>False
def VO (v:AV) (A B:Prop):Prop:=match v with
 | .d (.bool t)=>(t=true→A)∧(t=false→B)
 | _=>False
theorem Yc {α:Type} (a:α) (K:α→Prop):stW (some a) K=K a:=rfl
theorem Zcu {α:Type} (K:α→Prop):stW none K=False:=rfl
theorem Jf {α β:Type} (x:Option α) (f:α→Option β) (K:β→Prop):stW (bnd x f) K=stW x fun a=>stW (f a) K:=by cases x<;>rfl
@[go_sem] theorem Zqd (A B:Prop):gW (some true) A B=A:=by simp[gW]
@[go_sem] theorem gW_false (A B:Prop):gW (some false) A B=B:=by simp[gW]
@[go_sem] theorem gW_dec (p:Prop) [Decidable p] (A B:Prop):gW (some (decide p)) A B=((p→A)∧(¬p→B)):=by simp[gW]
@[go_sem] theorem gW_not (b:Bool) (A B:Prop):gW (some (!b)) A B=gW (some b) B A:=by cases b<;>simp[gW]
theorem gW_some (b:Bool) (A B:Prop):gW (some b) A B=((b=true→A)∧(b=false→B)):=rfl
@[go_sem] theorem Zu6 (A B:Prop):VO (.d (.bool true)) A B=A:=by simp[VO]
@[go_sem] theorem ZuF (A B:Prop):VO (.d (.bool false)) A B=B:=by simp[VO]
@[go_sem] theorem condW_dec (p:Prop) [Decidable p] (A B:Prop):VO (.d (.bool (decide p))) A B=((p→A)∧(¬p→B)):=by simp[VO]
@[go_sem] theorem condW_not (b:Bool) (A B:Prop):VO (.d (.bool (!b))) A B=VO (.d (.bool b)) B A:=by cases b<;>simp[VO]
@[go_sem] theorem condW_and (a b:Bool) (A B:Prop):VO (.d (.bool (a&&b))) A B=VO (.d (.bool a)) (VO (.d (.bool b)) A B) B:=by cases a<;>cases b<;>simp[VO]
@[go_sem] theorem condW_or (a b:Bool) (A B:Prop):VO (.d (.bool (a || b))) A B=VO (.d (.bool a)) A (VO (.d (.bool b)) A B):=by cases a<;>cases b<;>simp[VO]
@[go_sem] theorem Zu7 (b:Bool) (A B:Prop):VO (.d (.bool b)) A B=((b=true→A)∧(b=false→B)):=rfl
@[congr] theorem gW_congr {x y:Option Bool} {A B:Prop} (h:x=y):gW x A B=gW y A B:=by rw[h]
@[congr] theorem ZuG {v w:AV} {A B:Prop} (h:v=w):VO v A B=VO w A B:=by rw[h]
section
variable (X:Fns) (M:Zf)
noncomputable def JK (nx:Nat):Nat→List CO→Sl→Hp→(Sl→Hp→Prop)→Prop
 | _,[],sl,hp,K=>K sl hp
 | i,o :: rest,sl,hp,K=>gW (ZR sl o.guard)
   (stW (XQ (nx+64*i) o.dst sl hp (vop (Zi X M) M sl hp (nx+64*i) o.op)) fun r=>JK nx (i+1) rest r.1 r.2 K)
   (JK nx (i+1) rest (Zk sl o.dst (.tup [])) hp K)
def U8 (nx i:Nat) (d:Option Nat) (rest:List CO) (sl:Sl) (hp:Hp) (K:Sl→Hp→Prop) (e:Option Zb):Prop:=
 stW (XQ (nx+64*i) d sl hp e) fun r=>JK X M nx (i+1) rest r.1 r.2 K
@[go_sem] theorem opsW_nil (nx i:Nat) (sl:Sl) (hp:Hp) (K:Sl→Hp→Prop):JK X M nx i [] sl hp K=K sl hp:=rfl
@[go_sem] theorem opsW_cons (nx i:Nat) (d:Option Nat) (tl:Bool) (op:COp) (aa:List CO) (sl:Sl) (hp:Hp) (K:Sl→Hp→Prop) :
  JK X M nx i (⟨d,none,op,tl⟩ :: aa) sl hp K=U8 X M nx i d aa sl hp K (vop (Zi X M) M sl hp (nx+64*i) op):=by
 simp[JK,U8,ZR,Zqd]
def Zdx (b:Bool) (v:AV):AV:=if b then v else .tup []
def WU (b:Bool) (nx i:Nat) (d:Option Nat) (rest:List CO) (sl:Sl) (hp:Hp) (K:Sl→Hp→Prop) (e:Option Zb):Prop:=
 gW (some b) (U8 X M nx i d rest sl hp K e) (JK X M nx (i+1) rest (Zk sl d (.tup [])) hp K)
def Zms (g:Option Bool) (nx i:Nat) (d:Option Nat) (op:COp) (rest:List CO) (sl:Sl) (hp:Hp) (K:Sl→Hp→Prop):Prop:=
 gW g (U8 X M nx i d rest sl hp K (vop (Zi X M) M sl hp (nx+64*i) op)) (JK X M nx (i+1) rest (Zk sl d (.tup [])) hp K)
@[go_sem] theorem Zu8 (nx i g:Nat) (w:Bool) (d:Option Nat) (tl:Bool) (op:COp) (aa:List CO) (sl:Sl) (hp:Hp) (K:Sl→Hp→Prop) :
  JK X M nx i (⟨d,some (g,w),op,tl⟩ :: aa) sl hp K=Zms X M (ZbP w (gs sl g)) nx i d op aa sl hp K:=rfl
@[go_sem] theorem ZuH (b:Bool) (nx i:Nat) (d:Option Nat) (op:COp) (aa:List CO) (sl:Sl) (hp:Hp) (K:Sl→Hp→Prop) :
  Zms X M (some b) nx i d op aa sl hp K=WU X M b nx i d aa sl hp K (vop (Zi X M) M sl hp (nx+64*i) op):=rfl
@[go_sem] theorem gA (nx i:Nat) (d:Option Nat) (aa:List CO) (sl:Sl) (hp:Hp) (K:Sl→Hp→Prop) (e:Option Zb) :
  WU X M true nx i d aa sl hp K e=U8 X M nx i d aa sl hp K e:=by simp[WU,gW]
@[go_sem] theorem gB (nx i:Nat) (d:Option Nat) (aa:List CO) (sl:Sl) (hp:Hp) (K:Sl→Hp→Prop) (e:Option Zb) :
  WU X M false nx i d aa sl hp K e=JK X M nx (i+1) aa (Zk sl d (.tup [])) hp K:=by simp[WU,gW]
@[go_sem] theorem Zmt (b:Bool) (nx i:Nat) (d:Option Nat) (aa:List CO) (sl:Sl) (hp:Hp) (K:Sl→Hp→Prop) (v:AV) :
  WU X M b nx i d aa sl hp K (Qf v)=JK X M nx (i+1) aa (Zk sl d (Zdx b v)) hp K:=by
 cases b
 ·simp[WU,gW,Zdx]
 ·simp only[WU,gW,Zdx,Kg,true_implies,Bool.true_eq_false,false_implies,and_true];rfl
@[go_sem] theorem ZuI (b:Bool) (nx i:Nat) (d:Option Nat) (aa:List CO) (sl:Sl) (hp:Hp) (K:Sl→Hp→Prop) (v:AV) :
  WU X M b nx i d aa sl hp K (some { eff := { val:=v,adds:=[],sets:=[],dels:=[],frz:=[] },gone:=[] })=JK X M nx (i+1) aa (Zk sl d (Zdx b v)) hp K:=Zmt X M b nx i d aa sl hp K v
@[congr] theorem Zua {g g' : Option Bool} {nx i:Nat} {d:Option Nat} {op:COp} {aa:List CO} {sl:Sl} {hp:Hp} {K:Sl→Hp→Prop} (h:g=g') :
  Zms X M g nx i d op aa sl hp K=Zms X M g' nx i d op aa sl hp K:=by rw[h]
@[congr] theorem Zub {b b' : Bool} {nx i:Nat} {d:Option Nat} {aa:List CO} {sl:Sl} {hp:Hp} {K:Sl→Hp→Prop} {e e' : Option Zb} (hb:b=b') (h:b'=true→e=e') :
  WU X M b nx i d aa sl hp K e=WU X M b' nx i d aa sl hp K e':=by
 subst hb;cases b
 ·simp[WU,gW]
 ·rw[h rfl]
@[go_sem] theorem ZuJ (nx i:Nat) (d:Option Nat) (aa:List CO) (sl:Sl) (hp:Hp) (K:Sl→Hp→Prop) (v:AV) :
  U8 X M nx i d aa sl hp K (Qf v)=JK X M nx (i+1) aa (Zk sl d v) hp K:=rfl
@[go_sem] theorem Zu9 (nx i:Nat) (d:Option Nat) (aa:List CO) (sl:Sl) (hp:Hp) (K:Sl→Hp→Prop) (v:AV) :
  U8 X M nx i d aa sl hp K (some { eff := { val:=v,adds:=[],sets:=[],dels:=[],frz:=[] },gone:=[] })=JK X M nx (i+1) aa (Zk sl d v) hp K:=rfl
@[go_sem] theorem Zva (nx i:Nat) (d:Option Nat) (aa:List CO) (sl:Sl) (hp:Hp) (K:Sl→Hp→Prop) (e:Zb) :
  U8 X M nx i d aa sl hp K (some e)=(QA (nx+64*i) (nx+64*i+64) e.eff.adds=true∧JK X M nx (i+1) aa (Zk (QK e.gone sl) d e.eff.val) (e.eff.on (Y0 e.gone hp)) K):=by
 unfold U8 XQ;rw[Zc];split<;>rename_i h
 ·simp only[Yc,h,true_and];rfl
 ·simp only[Zcu,h,false_and,Ka]
@[go_sem] theorem Zvb (nx i:Nat) (d:Option Nat) (aa:List CO) (sl:Sl) (hp:Hp) (K:Sl→Hp→Prop):U8 X M nx i d aa sl hp K none=False:=rfl
@[go_sem] theorem stepW_ite (nx i:Nat) (d:Option Nat) (aa:List CO) (sl:Sl) (hp:Hp) (K:Sl→Hp→Prop) (c:Prop) [Decidable c] (a b:Option Zb) :
  U8 X M nx i d aa sl hp K (if c then a else b)=((c→U8 X M nx i d aa sl hp K a)∧(¬c→U8 X M nx i d aa sl hp K b)):=by
 by_cases h:c<;>simp[h]
noncomputable def XY (nx:Nat):Nat→Bool→List CO→Sl→Hp→(Sl→Hp→Prop)→Prop
 | _,_,[],sl,hp,K=>K sl hp
 | i,tail,o :: rest,sl,hp,K=>gW (ZR sl o.guard)
   (stW (XQ (nx+64*i) o.dst sl hp (Y4 (Zi X M) (Xy M) nx i (CO.starts o) o.op sl hp)) fun r=>XY nx (i+1) tail rest r.1 r.2 K)
   (XY nx (i+1) tail rest (Zk sl o.dst (.tup [])) hp K)
def VS (nx i:Nat) (t:Bool) (d:Option Nat) (rest:List CO) (sl:Sl) (hp:Hp) (K:Sl→Hp→Prop) (e:Option Zb):Prop:=
 stW (XQ (nx+64*i) d sl hp (if t then e else JZ e)) fun r=>XY X M nx (i+1) false rest r.1 r.2 K
@[go_sem] theorem opsDW_nil (nx i:Nat) (t:Bool) (sl:Sl) (hp:Hp) (K:Sl→Hp→Prop):XY X M nx i t [] sl hp K=K sl hp:=rfl
@[go_sem] theorem Zvc (nx i:Nat) (d:Option Nat) (tl:Bool) (op:COp) (aa:List CO) (sl:Sl) (hp:Hp) (K:Sl→Hp→Prop) :
  XY X M nx i false (⟨d,none,op,tl⟩ :: aa) sl hp K=VS X M nx i (Zdo op || tl) d aa sl hp K (vop (Zi X M) (Xy M) sl hp (nx+64*i) op):=by
 simp[XY,VS,ZR,Zqd,Y4,CO.starts]
def YU (b:Bool) (nx i:Nat) (t:Bool) (d:Option Nat) (rest:List CO) (sl:Sl) (hp:Hp) (K:Sl→Hp→Prop) (e:Option Zb):Prop:=
 gW (some b) (VS X M nx i t d rest sl hp K e) (XY X M nx (i+1) false rest (Zk sl d (.tup [])) hp K)
def ZhG (g:Option Bool) (nx i:Nat) (t:Bool) (d:Option Nat) (op:COp) (rest:List CO) (sl:Sl) (hp:Hp) (K:Sl→Hp→Prop):Prop:=
 gW g (VS X M nx i t d rest sl hp K (vop (Zi X M) (Xy M) sl hp (nx+64*i) op)) (XY X M nx (i+1) false rest (Zk sl d (.tup [])) hp K)
@[go_sem] theorem ZuK (nx i g:Nat) (w:Bool) (d:Option Nat) (tl:Bool) (op:COp) (aa:List CO) (sl:Sl) (hp:Hp) (K:Sl→Hp→Prop) :
  XY X M nx i false (⟨d,some (g,w),op,tl⟩ :: aa) sl hp K=ZhG X M (ZbP w (gs sl g)) nx i (Zdo op || tl) d op aa sl hp K:=rfl
@[go_sem] theorem Zuc (b:Bool) (nx i:Nat) (t:Bool) (d:Option Nat) (op:COp) (aa:List CO) (sl:Sl) (hp:Hp) (K:Sl→Hp→Prop) :
  ZhG X M (some b) nx i t d op aa sl hp K=YU X M b nx i t d aa sl hp K (vop (Zi X M) (Xy M) sl hp (nx+64*i) op):=rfl
@[go_sem] theorem gC (nx i:Nat) (t:Bool) (d:Option Nat) (aa:List CO) (sl:Sl) (hp:Hp) (K:Sl→Hp→Prop) (e:Option Zb) :
  YU X M true nx i t d aa sl hp K e=VS X M nx i t d aa sl hp K e:=by simp[YU,gW]
@[go_sem] theorem gD (nx i:Nat) (t:Bool) (d:Option Nat) (aa:List CO) (sl:Sl) (hp:Hp) (K:Sl→Hp→Prop) (e:Option Zb) :
  YU X M false nx i t d aa sl hp K e=XY X M nx (i+1) false aa (Zk sl d (.tup [])) hp K:=by simp[YU,gW]
@[go_sem] theorem ZkI (b:Bool) (nx i:Nat) (t:Bool) (d:Option Nat) (aa:List CO) (sl:Sl) (hp:Hp) (K:Sl→Hp→Prop) (v:AV) :
  YU X M b nx i t d aa sl hp K (Qf v)=XY X M nx (i+1) false aa (Zk sl d (Zdx b v)) hp K:=by
 cases b
 ·simp[YU,gW,Zdx]
 ·simp only[YU,gW,Zdx,Kg,true_implies,Bool.true_eq_false,false_implies,and_true];cases t<;>rfl
@[go_sem] theorem Zud (b:Bool) (nx i:Nat) (t:Bool) (d:Option Nat) (aa:List CO) (sl:Sl) (hp:Hp) (K:Sl→Hp→Prop) (v:AV) :
  YU X M b nx i t d aa sl hp K (some { eff := { val:=v,adds:=[],sets:=[],dels:=[],frz:=[] },gone:=[] })=XY X M nx (i+1) false aa (Zk sl d (Zdx b v)) hp K:=ZkI X M b nx i t d aa sl hp K v
@[congr] theorem Zty {g g' : Option Bool} {nx i:Nat} {t t' : Bool} {d:Option Nat} {op:COp} {aa:List CO} {sl:Sl} {hp:Hp} {K:Sl→Hp→Prop} (h:g=g') (ht:t=t') :
  ZhG X M g nx i t d op aa sl hp K=ZhG X M g' nx i t' d op aa sl hp K:=by rw[h,ht]
@[congr] theorem Ztz {b b' : Bool} {nx i:Nat} {t:Bool} {d:Option Nat} {aa:List CO} {sl:Sl} {hp:Hp} {K:Sl→Hp→Prop} {e e' : Option Zb} (hb:b=b') (h:b'=true→e=e') :
  YU X M b nx i t d aa sl hp K e=YU X M b' nx i t d aa sl hp K e':=by
 subst hb;cases b
 ·simp[YU,gW]
 ·rw[h rfl]
@[go_sem] theorem Zue (nx i:Nat) (t:Bool) (d:Option Nat) (aa:List CO) (sl:Sl) (hp:Hp) (K:Sl→Hp→Prop) (v:AV) :
  VS X M nx i t d aa sl hp K (Qf v)=XY X M nx (i+1) false aa (Zk sl d v) hp K:=by cases t<;>rfl
@[go_sem] theorem ZuL (nx i:Nat) (t:Bool) (d:Option Nat) (aa:List CO) (sl:Sl) (hp:Hp) (K:Sl→Hp→Prop) (v:AV) :
  VS X M nx i t d aa sl hp K (some { eff := { val:=v,adds:=[],sets:=[],dels:=[],frz:=[] },gone:=[] })=XY X M nx (i+1) false aa (Zk sl d v) hp K:=by cases t<;>rfl
@[go_sem] theorem ZuM (nx i:Nat) (t:Bool) (d:Option Nat) (aa:List CO) (sl:Sl) (hp:Hp) (K:Sl→Hp→Prop) (e:Zb) :
  VS X M nx i t d aa sl hp K (some e)=((t=false→ZbU e e.gone e.eff.sets e.eff.dels e.eff.frz=some e)∧QA (nx+64*i) (nx+64*i+64) e.eff.adds=true∧XY X M nx (i+1) false aa (Zk (QK e.gone sl) d e.eff.val) (e.eff.on (Y0 e.gone hp)) K):=by
 have ab:stW (XQ (nx+64*i) d sl hp (some e)) (fun r=>XY X M nx (i+1) false aa r.1 r.2 K)=(QA (nx+64*i) (nx+64*i+64) e.eff.adds=true∧XY X M nx (i+1) false aa (Zk (QK e.gone sl) d e.eff.val) (e.eff.on (Y0 e.gone hp)) K):=by
  unfold XQ;rw[Zc];split<;>rename_i h
  ·simp only[Yc,h,true_and];rfl
  ·simp only[Zcu,h,false_and,Ka]
 unfold VS;cases t with
 | true=>simp only[Kg];rw[ab];simp
 | false=>
  simp only[Ka,Kf,JZ,Zc,true_implies];unfold ZbU;split
  ·rw[ab];simp
  ·simp[XQ,bnd,stW]
@[go_sem] theorem ZuN (nx i:Nat) (t:Bool) (d:Option Nat) (aa:List CO) (sl:Sl) (hp:Hp) (K:Sl→Hp→Prop):VS X M nx i t d aa sl hp K none=False:=by cases t<;>rfl
@[go_sem] theorem Zvd (nx i:Nat) (t:Bool) (d:Option Nat) (aa:List CO) (sl:Sl) (hp:Hp) (K:Sl→Hp→Prop) (c:Prop) [Decidable c] (a b:Option Zb) :
  VS X M nx i t d aa sl hp K (if c then a else b)=((c→VS X M nx i t d aa sl hp K a)∧(¬c→VS X M nx i t d aa sl hp K b)):=by
 by_cases h:c<;>simp[h]
@[go_sem] theorem quietC_ok (c:Zb):ZbU c [] [] [] []=some c:=rfl
def W (c:ZG) (st:St) (Q:Ex→St→Prop):Prop:=stW (Qg X M c st) fun r=>Q r.1 r.2
@[congr] theorem W_congr {c:ZG} {st aa : St} {Q:Ex→St→Prop} (h:st=aa):W X M c st Q=W X M c aa Q:=by rw[h]
@[congr] theorem Zve {aa:List CO} {nx ab i i' : Nat} {sl sl' : Sl} {hp hp' : Hp} {K:Sl→Hp→Prop} (hn:nx=ab) (hi:i=i') (h:sl=sl') (h' : hp=hp') :
  JK X M nx i aa sl hp K=JK X M ab i' aa sl' hp' K:=by rw[h,h',hn,hi]
@[congr] theorem ZuO {aa:List CO} {nx ab i i' : Nat} {t t' : Bool} {sl sl' : Sl} {hp hp' : Hp} {K:Sl→Hp→Prop} (hn:nx=ab) (hi:i=i') (ht:t=t') (h:sl=sl') (h' : hp=hp') :
  XY X M nx i t aa sl hp K=XY X M ab i' t' aa sl' hp' K:=by rw[h,h',ht,hn,hi]
@[congr] theorem ZuP {aa:List CO} {nx i:Nat} {d:Option Nat} {sl:Sl} {hp:Hp} {K:Sl→Hp→Prop} {e e' : Option Zb} (h:e=e') :
  U8 X M nx i d aa sl hp K e=U8 X M nx i d aa sl hp K e':=by rw[h]
@[congr] theorem Zuf {aa:List CO} {nx i:Nat} {t t' : Bool} {d:Option Nat} {sl:Sl} {hp:Hp} {K:Sl→Hp→Prop} {e e' : Option Zb} (ht:t=t') (h:e=e') :
  VS X M nx i t d aa sl hp K e=VS X M nx i t' d aa sl hp K e':=by rw[h,ht]
theorem Zqe (nx:Nat) (K:Sl→Hp→Prop):∀ (l:List CO) (i:Nat) (sl:Sl) (hp:Hp),JK X M nx i l sl hp K=stW (ZbT (Zi X M) M nx i l sl hp) fun r=>K r.1 r.2:=by
 intro l
 induction l with
 | nil=>intro i sl hp;rfl
 | cons o rest ih=>
  intro i sl hp;simp only[JK,ZbT,ih,Jf];cases ZR sl o.guard with
  | none=>rfl
  | some b=>cases b<;>simp[gW,Jf,Yc]
theorem ZnL (nx:Nat) (K:Sl→Hp→Prop):∀ (l:List CO) (i:Nat) (t:Bool) (sl:Sl) (hp:Hp),XY X M nx i t l sl hp K=stW (Wt (Zi X M) (Xy M) nx i t l sl hp) fun r=>K r.1 r.2:=by
 intro l
 induction l with
 | nil=>intro i t sl hp;rfl
 | cons o rest ih=>
  intro i t sl hp;simp only[XY,Wt,ih,Jf];cases ZR sl o.guard with
  | none=>rfl
  | some b=>cases b<;>simp[gW,Jf,Yc]
def Zhy (m nx:Nat) (Q:Ex→St→Prop) (sl:Sl) (hp:Hp):Prop:=Q .normal { sl:=sl,hp:=hp,nx:=nx,m:=m }
def ZdS (ops:List CO) (ps:List (Nat×Nat)) (K:Sl→Hp→Prop) (sl:Sl) (hp:Hp):Prop:=Y1 ops sl ps=true∧K sl hp
@[go_sem] theorem regQ_eq (m nx:Nat) (Q:Ex→St→Prop) (sl:Sl) (hp:Hp):Zhy m nx Q sl hp=Q .normal { sl:=sl,hp:=hp,nx:=nx,m:=m }:=rfl
@[go_sem] theorem seenQ_eq (ops:List CO) (ps:List (Nat×Nat)) (K:Sl→Hp→Prop) (sl:Sl) (hp:Hp):ZdS ops ps K sl hp=(Y1 ops sl ps=true∧K sl hp):=rfl
@[go_sem] theorem W_skip (st:St) (Q:Ex→St→Prop):W X M .skip st Q=Q .normal st:=by simp[W,Zpq,Yc]
@[go_sem] theorem W_ret (st:St) (Q:Ex→St→Prop):W X M .ret st Q=Q .ret st:=by simp[W,ZrG,Yc]
@[go_sem] theorem W_exit (id:Nat) (st:St) (Q:Ex→St→Prop):W X M (.exit id) st Q=Q (.exit id) st:=by simp[W,Zpr,Yc]
@[go_sem] theorem W_stuck (st:St) (Q:Ex→St→Prop):W X M .stuck st Q=False:=by
 have h:Qg X M .stuck st=none:=Xl fun n=>by simp only[Zw]
 simp only[W,h,Zcu]
@[go_sem] theorem W_region (n:Nat) (ops:List CO) (st:St) (Q:Ex→St→Prop) :
  W X M (.region n none ops) st Q=JK X M st.nx 0 ops st.sl st.hp (Zhy st.m (st.nx+64*n) Q):=by
 rw[Zqe,W,Zfv,Zdy,Jf];rfl
theorem ZsJ (n:Nat) (ps:List (Nat×Nat)) (ops:List CO) (st:St) (Q:Ex→St→Prop) :
  W X M (.region n (some ps) ops) st Q=XY X M st.nx 0 false ops st.sl st.hp (ZdS ops ps (Zhy st.m (st.nx+64*n) Q)):=by
 rw[ZnL,W,ZjQ,Zdy,Jf,Zfr,Jf];congr 1
 funext r
 by_cases h:Y1 ops r.1 ps=true<;>simp[h,ZdS,Yc,Zcu,Zhy]
@[go_sem] theorem W_draw0 (n:Nat) (ops:List CO) (st:St) (Q:Ex→St→Prop) :
  W X M (.region n (some []) ops) st Q=XY X M st.nx 0 false ops st.sl st.hp (Zhy st.m (st.nx+64*n) Q):=by
 rw[ZsJ];congr 1
 funext sl hp
 simp[ZdS,Y1]
@[go_sem] theorem W_drawc (n:Nat) (p:Nat×Nat) (ps:List (Nat×Nat)) (ops:List CO) (st:St) (Q:Ex→St→Prop) :
  W X M (.region n (some (p :: ps)) ops) st Q=XY X M st.nx 0 false ops st.sl st.hp (ZdS ops (p :: ps) (Zhy st.m (st.nx+64*n) Q)):=ZsJ X M n _ ops st Q
def Zqf (c:ZG) (Q:Ex→St→Prop):Ex→St→Prop
 | .normal,st=>W X M c st Q
 | e,st=>Q e st
def blkQ (id:Nat) (Q:Ex→St→Prop):Ex→St→Prop
 | .exit j,st=>if j=id then Q .normal st else Q (.exit j) st
 | e,st=>Q e st
@[go_sem] theorem Zug (c:ZG) (Q:Ex→St→Prop) (st:St):Zqf X M c Q .normal st=W X M c st Q:=rfl
@[go_sem] theorem thenQ_ret (c:ZG) (Q:Ex→St→Prop) (st:St):Zqf X M c Q .ret st=Q .ret st:=rfl
@[go_sem] theorem Zvf (c:ZG) (Q:Ex→St→Prop) (id:Nat) (st:St):Zqf X M c Q (.exit id) st=Q (.exit id) st:=rfl
@[go_sem] theorem ZuQ (id:Nat) (Q:Ex→St→Prop) (st:St):blkQ id Q .normal st=Q .normal st:=rfl
@[go_sem] theorem blkQ_ret (id:Nat) (Q:Ex→St→Prop) (st:St):blkQ id Q .ret st=Q .ret st:=rfl
@[go_sem] theorem blkQ_exit (id j:Nat) (Q:Ex→St→Prop) (st:St):blkQ id Q (.exit j) st=if j=id then Q .normal st else Q (.exit j) st:=rfl
@[go_sem] theorem W_seq (a b:ZG) (st:St) (Q:Ex→St→Prop):W X M (.seq a b) st Q=W X M a st (Zqf X M b Q):=by
 unfold W;rw[ZrH];cases h:Qg X M a st with
 | none=>rfl
 | some r=>obtain⟨e,aa⟩:=r;cases e<;>rfl
@[go_sem] theorem W_cond (c:Opd) (a b:ZG) (st:St) (Q:Ex→St→Prop) :
  W X M (.cond c a b) st Q=VO (evO st.sl c) (W X M a st Q) (W X M b st Q):=by
 unfold W;rw[Zps];cases h:evO st.sl c with
 | d x=>cases x with
  | bool t=>cases t<;>simp[ZdX,VO]
  | _=>rfl
 | _=>rfl
@[go_sem] theorem W_block (id:Nat) (c:ZG) (st:St) (Q:Ex→St→Prop):W X M (.block id c) st Q=W X M c st (blkQ id Q):=by
 unfold W;rw[Zn9];cases h:Qg X M c st with
 | none=>rfl
 | some r=>
  obtain⟨e,aa⟩:=r;cases e with
  | exit j=>by_cases hj:j=id<;>simp[ZcK,hj,Yc,blkQ]
  | normal=>rfl
  | ret=>rfl
def keepQ (K:List Nat) (Q:Ex→St→Prop) (e:Ex) (st:St):Prop:=Q e { sl:=only K st.sl,hp:=st.hp,nx:=st.nx,m:=st.m }
@[go_sem] theorem keepQ_eq (K:List Nat) (Q:Ex→St→Prop) (e:Ex) (st:St):keepQ K Q e st=Q e { sl:=only K st.sl,hp:=st.hp,nx:=st.nx,m:=st.m }:=rfl
@[go_sem] theorem W_keep (K:List Nat) (c:ZG) (st:St) (Q:Ex→St→Prop):W X M (.keep K c) st Q=W X M c st (keepQ K Q):=by
 unfold W;rw[Zpt];cases h:Qg X M c st with
 | none=>rfl
 | some r=>rfl
def shutQ (id nm:Nat) (Q:Ex→St→Prop) (e:Ex) (st:St):Prop:=Q e { sl:=st.sl,hp:=ZrE st.hp (Zg6 st.hp id nm (lkp st.hp id)),nx:=st.nx,m:=st.m }
@[go_sem] theorem shutQ_eq (id nm:Nat) (Q:Ex→St→Prop) (e:Ex) (st:St):shutQ id nm Q e st=Q e { sl:=st.sl,hp:=ZrE st.hp (Zg6 st.hp id nm (lkp st.hp id)),nx:=st.nx,m:=st.m }:=rfl
def Zje (c:ZG) (Q:Ex→St→Prop) (r:Option St):Prop:=stW r fun st=>W X M c st Q
@[go_sem] theorem Zvg (c:ZG) (Q:Ex→St→Prop) (st:St):Zje X M c Q (some st)=W X M c st Q:=rfl
@[go_sem] theorem Zvh (c:ZG) (Q:Ex→St→Prop):Zje X M c Q none=False:=rfl
@[go_sem] theorem linkW_ite (c:ZG) (Q:Ex→St→Prop) (p:Prop) [Decidable p] (a b:Option St):Zje X M c Q (if p then a else b)=((p→Zje X M c Q a)∧(¬p→Zje X M c Q b)):=by
 by_cases h:p<;>simp[h]
@[go_sem] theorem W_link (fl:Bool) (id:Nat) (i:Opd) (j:Nat) (c:ZG) (st:St) (Q:Ex→St→Prop):W X M (.link fl id i j c) st Q=Zje X M c (shutQ id st.nx Q) (ZbV fl id i j st):=by
 unfold W Zje;rw[Zpu];cases h:ZbV fl id i j st with
 | none=>rfl
 | some st1=>
  simp only[Zc,Yc,W];cases h1:Qg X M c st1 with
  | none=>rfl
  | some q=>rfl
@[go_sem] theorem W_melt (c:ZG) (st:St) (Q:Ex→St→Prop):W X M (.melt c) st Q=W X M c { sl:=st.sl,hp:=ZfX Zff st.hp,nx:=st.nx,m:=st.m } Q:=by
 unfold W;rw[Zpv];rfl
def Zjf (st:St) (ds:List Nat) (Q:Ex→St→Prop) (e:Ex) (st2:St):Prop:=Q e { sl:=J0 st2.sl ds st.sl,hp:=st.hp,nx:=st2.nx,m:=st2.m }
@[go_sem] theorem peekQ_eq (sl:Sl) (hp:Hp) (nx m:Nat) (ds:List Nat) (Q:Ex→St→Prop) (e:Ex) (aa:Sl) (ad:Hp) (ab m2:Nat):Zjf { sl:=sl,hp:=hp,nx:=nx,m:=m } ds Q e { sl:=aa,hp:=ad,nx:=ab,m:=m2 }=Q e { sl:=J0 aa ds sl,hp:=hp,nx:=ab,m:=m2 }:=rfl
def ZgW (n:Nat) (os:List CO) (id:Nat) (st:St) (Q:Ex→St→Prop):Option (List (Nat×Nat))→Option Zg→Prop
 | none,some o=>JK X M st.nx 0 os st.sl [(id,o)] (Zhy st.m (st.nx+64*n) (Zjf st (W6 os) Q))
 | some ps,some o=>XY X M st.nx 0 false os st.sl [(id,o)] (ZdS os ps (Zhy st.m (st.nx+64*n) (Zjf st (W6 os) Q)))
 | _,none=>False
@[go_sem] theorem Zvi (n:Nat) (os:List CO) (id:Nat) (sl:Sl) (hp:Hp) (nx m:Nat) (Q:Ex→St→Prop) (o:Zg):ZgW X M n os id { sl:=sl,hp:=hp,nx:=nx,m:=m } Q none (some o)=JK X M nx 0 os sl [(id,o)] (Zhy m (nx+64*n) (Zjf { sl:=sl,hp:=hp,nx:=nx,m:=m } (W6 os) Q)):=rfl
@[go_sem] theorem peekW_nil (n:Nat) (os:List CO) (id:Nat) (sl:Sl) (hp:Hp) (nx m:Nat) (Q:Ex→St→Prop) (o:Zg):ZgW X M n os id { sl:=sl,hp:=hp,nx:=nx,m:=m } Q (some []) (some o)=XY X M nx 0 false os sl [(id,o)] (Zhy m (nx+64*n) (Zjf { sl:=sl,hp:=hp,nx:=nx,m:=m } (W6 os) Q)):=by
 simp only[ZgW];congr 1
 funext sl hp
 simp[ZdS,Y1]
@[go_sem] theorem Zvj (n:Nat) (os:List CO) (id:Nat) (sl:Sl) (hp:Hp) (nx m:Nat) (Q:Ex→St→Prop) (o:Zg) (p:Nat×Nat) (ps:List (Nat×Nat)):ZgW X M n os id { sl:=sl,hp:=hp,nx:=nx,m:=m } Q (some (p :: ps)) (some o)=XY X M nx 0 false os sl [(id,o)] (ZdS os (p :: ps) (Zhy m (nx+64*n) (Zjf { sl:=sl,hp:=hp,nx:=nx,m:=m } (W6 os) Q))):=rfl
@[go_sem] theorem Zvk (n:Nat) (os:List CO) (id:Nat) (st:St) (Q:Ex→St→Prop) (d:Option (List (Nat×Nat))):ZgW X M n os id st Q d none=False:=by cases d<;>rfl
@[go_sem] theorem W_peek (id n:Nat) (d:Option (List (Nat×Nat))) (os:List CO) (st:St) (Q:Ex→St→Prop):W X M (.peek id (.region n d os)) st Q=ZgW X M n os id st Q d (ZjL (lkp st.hp id)):=by
 unfold W;rw[Zpw];simp only[Zn6,Zc];unfold Zgj;cases h:ZjL (lkp st.hp id) with
 | none=>cases d<;>rfl
 | some o=>
  cases d with
  | none=>
   simp only[Zc,ZgW];rw[Zqe,Zfv,Zdy];cases ZbT (Zi X M) M st.nx 0 os st.sl [(id,o)] with
   | none=>rfl
   | some r=>rfl
  | some ps=>
   simp only[Zc,ZgW];rw[ZnL,ZjQ,Zdy];cases Wt (Zi X M) (Xy M) st.nx 0 false os st.sl [(id,o)] with
   | none=>rfl
   | some r=>
    simp only[Zfr,Zc];by_cases h:Y1 os r.1 ps=true
    ·simp[h,ZdS,Yc,Zc,ZjN,Zhy,Zjf]
    ·simp[h,ZdS,Yc,Zcu,ZjN,bnd]
attribute [go_sem] ZjL.eq_1 ZjL.eq_2 ZbW.eq_1 ZbW.eq_2 ZbW.eq_3 ZjM.eq_1 ZjM.eq_2 W6.eq_1 W6.eq_2 J0.eq_1 J0.eq_2
def LW (c:ZG) (K:List Nat) (st:St) (Q:Ex→St→Prop):Prop:=stW (ZcM X M c K st) fun r=>Q r.1 r.2
@[congr] theorem LW_congr {c:ZG} {K K' : List Nat} {st aa : St} {Q:Ex→St→Prop} (hk:K=K') (h:st=aa):LW X M c K st Q=LW X M c K' aa Q:=by rw[h,hk]
@[go_sem] theorem W_loop (c:ZG) (st:St) (Q:Ex→St→Prop):W X M (.loop c) st Q=LW X M c (U4 st.sl) st Q:=by
 unfold W LW;rw[Zpx]
def Zjg (c:ZG) (K:List Nat) (Q:Ex→St→Prop):Ex→St→Prop
 | .normal,st=>LW X M c K st Q
 | e,st=>Q e st
@[go_sem] theorem Zuh (c:ZG) (K:List Nat) (Q:Ex→St→Prop) (st:St):Zjg X M c K Q .normal st=LW X M c K st Q:=rfl
@[go_sem] theorem nextQ_ret (c:ZG) (K:List Nat) (Q:Ex→St→Prop) (st:St):Zjg X M c K Q .ret st=Q .ret st:=rfl
@[go_sem] theorem Zvl (c:ZG) (K:List Nat) (Q:Ex→St→Prop) (id:Nat) (st:St):Zjg X M c K Q (.exit id) st=Q (.exit id) st:=rfl
theorem QV {c:ZG} {K:List Nat} {st:St} {Q:Ex→St→Prop} (h:W X M c (Wu K st) (Zjg X M c K Q)):LW X M c K st Q:=by
 unfold W at h;cases hv:Qg X M c (Wu K st) with
 | none=>rw[hv] at h;exact h.elim
 | some r=>
  rw[hv] at h;obtain⟨e,aa⟩:=r;unfold LW;cases e with
  | normal=>rw[Zoa X M hv];exact h
  | exit id=>rw[ZjR X M (by simp) hv];exact h
  | ret=>rw[ZjR X M (by simp) hv];exact h
def ZkJ (sl:Sl):Sl→Sl
 | []=>sl
 | (k,v) :: r=>ZkJ (ins sl k v) r
def ZdT (hp:Hp):Hp→Hp
 | []=>hp
 | (k,o) :: r=>ZdT (ins hp k o) r
theorem LW_ind {α:Type} (S:α→St) (I:α→Prop) (μ:α→Nat) {c:ZG} {K:List Nat} {Q:Ex→St→Prop}
  (step:∀ a,I a→(∀ b st,I b→μ b<μ a→Wu K st=S b→LW X M c K st Q)→W X M c (S a) (Zjg X M c K Q)) :
  ∀ a st,I a→Wu K st=S a→LW X M c K st Q:=by
 have aa:∀ n a st,μ a=n→I a→Wu K st=S a→LW X M c K st Q:=by
  intro n
  induction n using Nat.strongRecOn with
  | ind n ih=>
   intro a st hn ha hs;refine QV X M ?_;rw[hs];exact step a ha fun b ab hb ae ad=>ih (μ b) (by omega) b ab rfl hb ad
 exact fun a st ha hs=>aa _ a st rfl ha hs
theorem Qw {α:Type} (u:α→Sl) (uh:α→Hp) (I:α→Prop) (μ:α→Nat) (a:α) {c:ZG} {K:List Nat} {Q:Ex→St→Prop} {st st0:St}
  (hc:Wu K st=st0) (ha:I a) (h0:(⟨ZkJ st0.sl (u a),ZdT st0.hp (uh a),st0.nx,st0.m⟩:St)=st0)
  (step:∀ a,I a→(∀ b st,I b→μ b<μ a→Wu K st=⟨ZkJ st0.sl (u b),ZdT st0.hp (uh b),st0.nx,st0.m⟩→LW X M c K st Q)→W X M c ⟨ZkJ st0.sl (u a),ZdT st0.hp (uh a),st0.nx,st0.m⟩ (Zjg X M c K Q)) :
  LW X M c K st Q:=
 LW_ind X M (fun a=>⟨ZkJ st0.sl (u a),ZdT st0.hp (uh a),st0.nx,st0.m⟩) I μ step a st ha (hc.trans h0.symm)
def Zmu (m:Nat) (rs:List ZkM) (R:AV×List Zg→Prop):Ex→St→Prop:=fun e st=>stW (ZaO m rs (some (e,st))) R
def resW (m:Nat) (hp:Hp) (R:AV×List Zg→Prop) (vs:Option (List AV)):Prop:=stW vs fun vs=>R (Vo m hp (J1 vs))
@[go_sem] theorem resW_some (m:Nat) (hp:Hp) (R:AV×List Zg→Prop) (vs:List AV):resW m hp R (some vs)=R (Vo m hp (J1 vs)):=rfl
@[go_sem] theorem resW_none (m:Nat) (hp:Hp) (R:AV×List Zg→Prop):resW m hp R none=False:=rfl
@[go_sem] theorem endQ_ret (m:Nat) (rs:List ZkM) (R:AV×List Zg→Prop) (st:St):Zmu m rs R .ret st=resW m st.hp R (Qi (ZjO st) rs):=by
 simp only[Zmu,ZaO,Jf];rfl
@[go_sem] theorem ZuR (m:Nat) (rs:List ZkM) (R:AV×List Zg→Prop) (st:St):Zmu m rs R .normal st=resW m st.hp R (Qi (ZjO st) rs):=by
 simp only[Zmu,ZaO,Jf];rfl
theorem ZsK {f:Nat} {as:List AV} {h:List Zg} (fn:ZT) {R:AV×List Zg→Prop} (hx:X f=some (.text fn)) (hl:as.length≤fn.nt)
  (hr:W X M fn.body { sl:=Y2 0 as,hp:=Vn 0 h,nx:=h.length,m:=h.length } (Zmu h.length fn.res R)):∃ r,Zi X M f as h=some r∧R r:=by
 unfold W at hr;cases hv:Qg X M fn.body { sl:=Y2 0 as,hp:=Vn 0 h,nx:=h.length,m:=h.length } with
 | none=>rw[hv] at hr;exact hr.elim
 | some q=>
  rw[hv] at hr;obtain⟨e,st⟩:=q;simp only[Yc,Zmu] at hr;cases hk:ZaO h.length fn.res (some (e,st)) with
  | none=>rw[hk] at hr;exact hr.elim
  | some r=>rw[hk] at hr;exact⟨r,Zs5 X M hx hl (by rw[hv];exact hk),hr⟩
theorem callE {f:Nat} {as:List AV} {h:List Zg} (fn:ZT) {r:AV×List Zg} (hx:X f=some (.text fn)) (hl:as.length≤fn.nt)
  (hr:W X M fn.body { sl:=Y2 0 as,hp:=Vn 0 h,nx:=h.length,m:=h.length } (Zmu h.length fn.res fun q=>q=r)):Zi X M f as h=some r:=by
 obtain⟨q,hq,rfl⟩:=ZsK X M fn hx hl hr;exact hq
end
@[go_sem] theorem vopE_move (C:Orc) (M:Zf) (sl:Sl) (hp:Hp) (base:Nat) (x:Opd):vop C M sl hp base (.move x)=Qf (evO sl x):=by simp only[vop]
@[go_sem] theorem ZuS (C:Orc) (M:Zf) (sl:Sl) (hp:Hp) (base:Nat) (s:Option Nat) (x:Opd):vop C M sl hp base (.assign s x)=ZbI base s (evO sl x):=by simp only[vop]
@[go_sem] theorem vopE_pick (C:Orc) (M:Zf) (sl:Sl) (hp:Hp) (base:Nat) (c a b:Opd):vop C M sl hp base (.pick c a b)=ZcD (evO sl a) (evO sl b) (evO sl c):=by simp only[vop]
@[go_sem] theorem Zvm (C:Orc) (M:Zf) (sl:Sl) (hp:Hp) (base:Nat) (slc:List (Option Nat)) (cs:List AV):vop C M sl hp base (.alloc slc cs)=ZcF slc base cs:=by simp only[vop]
@[go_sem] theorem vopE_box (C:Orc) (M:Zf) (sl:Sl) (hp:Hp) (base:Nat) (x:Opd):vop C M sl hp base (.box x)=Zrw base (evO sl x):=by simp only[vop]
@[go_sem] theorem Zvn (C:Orc) (M:Zf) (sl:Sl) (hp:Hp) (base:Nat) (zs:List AV) (ps:List (Nat×Nat×Opd)):vop C M sl hp base (.build zs ps)=Zjq zs (evP sl ps):=by simp only[vop]
@[go_sem] theorem Zui (C:Orc) (M:Zf) (sl:Sl) (hp:Hp) (base:Nat) (s:Nat) (xs:List Opd):vop C M sl hp base (.buildSl s xs)=buildSl hp base s (evL sl xs):=by simp only[vop]
@[go_sem] theorem vopE_load (C:Orc) (M:Zf) (sl:Sl) (hp:Hp) (base:Nat) (g:Bool) (s:Nat) (a:Opd):vop C M sl hp base (.load g s a)=Y3 (Wa hp g s (evO sl a)):=by simp only[vop]
@[go_sem] theorem Zvo (C:Orc) (M:Zf) (sl:Sl) (hp:Hp) (base:Nat) (slc:List (Option Nat)) (s:Nat) (a x:Opd):vop C M sl hp base (.store slc s a x)=Zb8 (U0 hp slc s base (evO sl x).cells (evO sl a)):=by simp only[vop]
@[go_sem] theorem ZtA (C:Orc) (M:Zf) (sl:Sl) (hp:Hp) (base:Nat) (x:Opd):vop C M sl hp base (.nilCheck x)=Uq (evO sl x):=by simp only[vop]
@[go_sem] theorem vopE_bin (C:Orc) (M:Zf) (sl:Sl) (hp:Hp) (base:Nat) (op:BinOp) (eq:Bool) (x y:Opd):vop C M sl hp base (.bin op eq x y)=Zei op eq (evO sl x) (evO sl y):=by simp only[vop]
@[go_sem] theorem vopE_un (C:Orc) (M:Zf) (sl:Sl) (hp:Hp) (base:Nat) (op:UnOp) (x:Opd):vop C M sl hp base (.un op x)=Y3 (vun op (evO sl x)):=by simp only[vop]
@[go_sem] theorem vopE_eqA (C:Orc) (M:Zf) (sl:Sl) (hp:Hp) (base:Nat) (neg:Bool) (ks:List Nat) (x y:Opd):vop C M sl hp base (.eqA neg ks x y)=Zmy neg ks (evO sl x) (evO sl y):=by simp only[vop]
@[go_sem] theorem Zvp (C:Orc) (M:Zf) (sl:Sl) (hp:Hp) (base:Nat) (k:IntKind) (x:Opd):vop C M sl hp base (.convI k x)=convI k (evO sl x):=by simp only[vop]
@[go_sem] theorem Zvq (C:Orc) (M:Zf) (sl:Sl) (hp:Hp) (base:Nat) (x:Opd):vop C M sl hp base (.convS x)=convS (evO sl x):=by simp only[vop]
@[go_sem] theorem vopE_fn (C:Orc) (M:Zf) (sl:Sl) (hp:Hp) (base:Nat) (f:Nat) (cs:List Opd):vop C M sl hp base (.fn f cs)=Y3 (cloV f (evL sl cs)):=by simp only[vop]
@[go_sem] theorem vopE_make (C:Orc) (M:Zf) (sl:Sl) (hp:Hp) (base:Nat) (s b:Nat) (z:D) (l c:Opd):vop C M sl hp base (.make s b z l c)=bnd (idx (evO sl l)) fun l=>bnd (idx (evO sl c)) fun c=>Zlp base s b z l c:=by simp only[vop]
@[go_sem] theorem Zvr (C:Orc) (M:Zf) (sl:Sl) (hp:Hp) (base:Nat) (s:Nat) (x:Opd) (lo hi:Option Opd):vop C M sl hp base (.slice s x lo hi)=Y3 (YP hp s (evM sl lo) (evM sl hi) (evO sl x)):=by simp only[vop]
@[go_sem] theorem ZuT (C:Orc) (M:Zf) (sl:Sl) (hp:Hp) (base:Nat) (x:Opd) (lo hi:Option Opd):vop C M sl hp base (.sliceS x lo hi)=Y3 (sliceS (evM sl lo) (evM sl hi) (evO sl x)):=by simp only[vop]
@[go_sem] theorem ZuU (C:Orc) (M:Zf) (sl:Sl) (hp:Hp) (base:Nat) (x hi mx:Opd):vop C M sl hp base (.slice0 x hi mx)=Y3 (slice0 hp (evO sl x) (idx (evO sl hi)) (idx (evO sl mx))):=by simp only[vop]
@[go_sem] theorem Zvs (C:Orc) (M:Zf) (sl:Sl) (hp:Hp) (base:Nat) (off:Nat) (x:Opd):vop C M sl hp base (.shift off x)=Vl off (evO sl x):=by simp only[vop]
@[go_sem] theorem vopE_part (C:Orc) (M:Zf) (sl:Sl) (hp:Hp) (base:Nat) (g:Bool) (s off:Nat) (x:Opd):vop C M sl hp base (.part g s off x)=Y3 (Zfe g s off (evO sl x)):=by simp only[vop]
@[go_sem] theorem vopE_iaS (C:Orc) (M:Zf) (sl:Sl) (hp:Hp) (base:Nat) (s:Nat) (x i:Opd):vop C M sl hp base (.iaS s x i)=bnd (idx (evO sl i)) fun n=>ZdW hp s (evO sl x) n:=by simp only[vop]
@[go_sem] theorem vopE_iaA (C:Orc) (M:Zf) (sl:Sl) (hp:Hp) (base:Nat) (len s:Nat) (x i:Opd):vop C M sl hp base (.iaA len s x i)=bnd (idx (evO sl i)) fun n=>Zjs (evO sl x) n len s:=by simp only[vop]
@[go_sem] theorem vopE_ixS (C:Orc) (M:Zf) (sl:Sl) (hp:Hp) (base:Nat) (x i:Opd):vop C M sl hp base (.ixS x i)=bnd (idx (evO sl i)) fun n=>Zo7 n (evO sl x):=by simp only[vop]
@[go_sem] theorem vopE_ixA (C:Orc) (M:Zf) (sl:Sl) (hp:Hp) (base:Nat) (g:Bool) (s len:Nat) (x i:Opd):vop C M sl hp base (.ixA g s len x i)=bnd (idx (evO sl i)) fun n=>Zrx g s len n (evO sl x):=by simp only[vop]
@[go_sem] theorem vopE_nth (C:Orc) (M:Zf) (sl:Sl) (hp:Hp) (base:Nat) (i:Nat) (x:Opd):vop C M sl hp base (.nth i x)=ZnV i (evO sl x):=by simp only[vop]
@[go_sem] theorem vopE_len (C:Orc) (M:Zf) (sl:Sl) (hp:Hp) (base:Nat) (x:Opd):vop C M sl hp base (.len x)=bnd (ZaE hp (evO sl x)) fun n=>Qf (.d (.int .i64 n)):=by simp only[vop]
@[go_sem] theorem vopE_lenS (C:Orc) (M:Zf) (sl:Sl) (hp:Hp) (base:Nat) (x:Opd):vop C M sl hp base (.lenS x)=bnd (ZqU (evO sl x)) fun n=>Qf (.d (.int .i64 n)):=by simp only[vop]
@[go_sem] theorem ZuV (C:Orc) (M:Zf) (sl:Sl) (hp:Hp) (base:Nat) (s b:Nat) (str flat:Bool) (x y:Opd):vop C M sl hp base (.append s b str flat x y)=ZnW hp s b str flat base (evO sl x) (evO sl y):=by simp only[vop]
@[go_sem] theorem vopE_min (C:Orc) (M:Zf) (sl:Sl) (hp:Hp) (base:Nat) (x y:Opd):vop C M sl hp base (.min x y)=Zg0 (evO sl x) (evO sl y):=by simp only[vop]
@[go_sem] theorem vopE_max (C:Orc) (M:Zf) (sl:Sl) (hp:Hp) (base:Nat) (x y:Opd):vop C M sl hp base (.max x y)=Zg1 (evO sl x) (evO sl y):=by simp only[vop]
@[go_sem] theorem vopE_call (C:Orc) (M:Zf) (sl:Sl) (hp:Hp) (base:Nat) (f:Opd) (as:List Opd):vop C M sl hp base (.call f as)=ZaK C M hp base (evL sl as) (evO sl f):=by simp only[vop]
@[go_sem] theorem ZuW (C:Orc) (M:Zf) (sl:Sl) (hp:Hp) (base:Nat) (s:Nat) (x lo hi mx:Opd):vop C M sl hp base (.slice3 s x lo hi mx)=Y3 (slice3 hp (evO sl x) (idx (evO sl lo)) (idx (evO sl hi)) (idx (evO sl mx))):=by simp only[vop]
@[go_sem] theorem Zvt (C:Orc) (M:Zf) (sl:Sl) (hp:Hp) (base:Nat) (s:Nat) (z:D) (x:Opd):vop C M sl hp base (.clear s z x)=Zb8 (ZbE hp s z (evO sl x)):=by simp only[vop]
@[go_sem] theorem ZuX (C:Orc) (M:Zf) (sl:Sl) (hp:Hp) (base:Nat) (s n:Nat) (xs:List Opd):vop C M sl hp base (.buildT s n xs)=buildT hp base s n (evL sl xs):=by simp only[vop]
@[go_sem] theorem vopE_appT (C:Orc) (M:Zf) (sl:Sl) (hp:Hp) (base:Nat) (s b:Nat) (f:Bool) (x y:Opd):vop C M sl hp base (.appT s b f x y)=appT hp s b base (evO sl x) (evO sl y):=by simp only[vop]
@[go_sem] theorem vopE_asgT (C:Orc) (M:Zf) (sl:Sl) (hp:Hp) (base:Nat) (s n:Nat) (x:Opd):vop C M sl hp base (.asgT s n x)=asgT base s n (evO sl x):=by simp only[vop]
@[go_sem] theorem Zvu (C:Orc) (M:Zf) (sl:Sl) (hp:Hp) (base:Nat) (s b n:Nat) (z:D) (l c:Opd):vop C M sl hp base (.makeT s b n z l c)=bnd (idx (evO sl l)) fun l=>bnd (idx (evO sl c)) fun c=>makeT base s b n z l c:=by simp only[vop]
@[go_sem] theorem Zvv (C:Orc) (M:Zf) (sl:Sl) (hp:Hp) (base:Nat):vop C M sl hp base .stuck=none:=by simp only[vop]
@[go_sem] theorem Zrm (hp:Hp) (n:Nat) (aa:List Nat):QF hp n [] aa=aa:=by cases n<;>rfl
@[go_sem] theorem tidy_d (hp:Hp) (ids:List Nat) (x:D):Zbb hp ids (.d x)=.d x:=rfl
@[go_sem] theorem tidy_nil (hp:Hp) (ids:List Nat):Zbb hp ids .nil=.nil:=rfl
@[go_sem] theorem tidy_junk (hp:Hp) (ids:List Nat):Zbb hp ids .junk=.junk:=rfl
@[go_sem] theorem tidy_tup (hp:Hp) (ids:List Nat) (vs:List AV):Zbb hp ids (.tup vs)=ren (YX ids) (kill (ZcI hp ids (Zo (.tup vs))) (.tup vs)):=rfl
@[go_sem] theorem tidy_agg (hp:Hp) (ids:List Nat) (vs:List AV):Zbb hp ids (.agg vs)=ren (YX ids) (kill (ZcI hp ids (Zo (.agg vs))) (.agg vs)):=rfl
@[go_sem] theorem tidy_clo (hp:Hp) (ids:List Nat) (f:Nat) (vs:List AV):Zbb hp ids (.clo f vs)=ren (YX ids) (kill (ZcI hp ids (Zo (.clo f vs))) (.clo f vs)):=rfl
@[go_sem] theorem tidy_nilp (hp:Hp) (ids:List Nat):Zbb hp ids .nilp=.nilp:=rfl
@[go_sem] theorem tidy_nili (hp:Hp) (ids:List Nat):Zbb hp ids .nili=.nili:=rfl
@[go_sem] theorem tidy_pim (hp:Hp) (ids:List Nat) (cs:List D):Zbb hp ids (.pim cs)=.pim cs:=rfl
@[go_sem] theorem tidy_ptr (hp:Hp) (ids:List Nat) (id o:Nat):Zbb hp ids (.ptr id o)=if ZaN hp ids id=true then .ptr (YX ids id) o else .junk:=by
 simp only[Zbb,Zo,Zp,Ze,ZcI];split<;>simp[kill,ZH,ZW,ren,J7,Zbw]
@[go_sem] theorem tidy_prow (hp:Hp) (ids:List Nat) (id s i o:Nat):Zbb hp ids (.prow id s i o)=if ZaN hp ids id=true then .prow (YX ids id) s i o else .junk:=by
 simp only[Zbb,Zo,Zp,Ze,ZcI];split<;>simp[kill,ZH,ZW,ren,J7,Zbw]
@[go_sem] theorem tidy_own (hp:Hp) (ids:List Nat) (id:Nat):Zbb hp ids (.own id)=if ZaN hp ids id=true then .own (YX ids id) else .junk:=by
 simp only[Zbb,Zo,Zp,Ze,ZcI];split<;>simp[kill,ZH,ZW,ren,J7,Zbw]
@[go_sem] theorem tidy_ownv (hp:Hp) (ids:List Nat) (id a b:Nat):Zbb hp ids (.ownv id a b)=if ZaN hp ids id=true then .ownv (YX ids id) a b else .junk:=by
 simp only[Zbb,Zo,Zp,Ze,ZcI];split<;>simp[kill,ZH,ZW,ren,J7,Zbw]
@[go_sem] theorem Zvw (hp:Hp) (x:D):Vo 0 hp (.d x)=(.d x,[]):=by
 simp[Vo,Zo,Zp,Ze,VI,Zrm,tidy_d,ZaH]
@[go_sem] theorem minI_eq (a b:Int):minI a b=min a b:=by unfold minI;split<;>omega
@[go_sem] theorem maxI_eq (a b:Int):maxI a b=max a b:=by unfold maxI;split<;>omega
@[go_sem] theorem negIf_f (r:Bool):Zjr false r=r:=rfl
@[go_sem] theorem negIf_t (r:Bool):Zjr true r=!r:=rfl
@[go_sem] theorem opt1_some (v:AV):Y3 (some v)=Qf v:=rfl
@[go_sem] theorem opt1_none:Y3 none=none:=rfl
@[go_sem] theorem vbin_int (op:BinOp) (k k' : IntKind) (a b:Int):vbin op (.d (.int k a)) (.d (.int k' b))=WQ op k k' a b:=rfl
@[go_sem] theorem binV_int (op:BinOp) (eq:Bool) (k k' : IntKind) (a b:Int):Zei op eq (.d (.int k a)) (.d (.int k' b))=Y3 (WQ op k k' a b):=rfl
@[go_sem] theorem binV_str (op:BinOp) (eq:Bool) (a b:List UInt8):Zei op eq (.d (.str a)) (.d (.str b))=Y3 (asD (Znh op a b)):=rfl
@[go_sem] theorem int2_add (k:IntKind) (a b:Int):WQ .add k k a b=some (.d (.int k (k.wrap (a+b)))):=by simp[WQ,V8,asD,Zc]
@[go_sem] theorem int2_sub (k:IntKind) (a b:Int):WQ .sub k k a b=some (.d (.int k (k.wrap (a-b)))):=by simp[WQ,V8,asD,Zc]
@[go_sem] theorem int2_mul (k:IntKind) (a b:Int):WQ .mul k k a b=some (.d (.int k (k.wrap (a*b)))):=by simp[WQ,V8,asD,Zc]
@[go_sem] theorem int2_quo (k:IntKind) (a b:Int):WQ .quo k k a b=if b=0 then none else some (.d (.int k (k.wrap (a.tdiv b)))):=by simp only[WQ,V8,asD,if_true];split<;>rfl
@[go_sem] theorem int2_rem (k:IntKind) (a b:Int):WQ .rem k k a b=if b=0 then none else some (.d (.int k (a.tmod b))):=by simp only[WQ,V8,asD,if_true];split<;>rfl
@[go_sem] theorem int2_eql (k:IntKind) (a b:Int):WQ .eql k k a b=some (.d (.bool (decide (a=b)))):=by simp[WQ,V8,asD,Zc,BEq.beq]
@[go_sem] theorem int2_neq (k:IntKind) (a b:Int):WQ .neq k k a b=some (.d (.bool (!decide (a=b)))):=by simp[WQ,V8,asD,Zc,bne,BEq.beq]
@[go_sem] theorem int2_lss (k:IntKind) (a b:Int):WQ .lss k k a b=some (.d (.bool (decide (a<b)))):=by simp[WQ,V8,asD,Zc]
@[go_sem] theorem int2_leq (k:IntKind) (a b:Int):WQ .leq k k a b=some (.d (.bool (decide (a≤b)))):=by simp[WQ,V8,asD,Zc]
@[go_sem] theorem int2_gtr (k:IntKind) (a b:Int):WQ .gtr k k a b=some (.d (.bool (decide (b<a)))):=by simp[WQ,V8,asD,Zc]
@[go_sem] theorem int2_geq (k:IntKind) (a b:Int):WQ .geq k k a b=some (.d (.bool (decide (b≤a)))):=by simp[WQ,V8,asD,Zc]
@[go_sem] theorem guardV_t (b:Bool):ZbP true (.d (.bool b))=some b:=by cases b<;>rfl
def nb (b:Bool):Bool:=!b
@[go_sem] theorem nb_true:nb true=false:=rfl
@[go_sem] theorem nb_false:nb false=true:=rfl
@[go_sem] theorem nb_eq (b:Bool):(nb b=true)=(b=false):=by cases b<;>simp[nb]
@[go_sem] theorem guardV_f (b:Bool):ZbP false (.d (.bool b))=some (nb b):=by cases b<;>rfl
@[go_sem] theorem Zvx (w:Bool):ZbP w (.tup [])=some false:=rfl
@[go_sem] theorem Zuj (a b:Bool):ZbP true (Zdx a (.d (.bool b)))=some (a&&b):=by cases a<;>cases b<;>rfl
@[go_sem] theorem Zuk (a b:Bool):ZbP false (Zdx a (.d (.bool b)))=some (a&&nb b):=by cases a<;>cases b<;>rfl
@[go_sem] theorem iteV_true (v:AV):Zdx true v=v:=rfl
@[go_sem] theorem Zvy (v:AV):Zdx false v=.tup []:=rfl
@[go_sem] theorem Zvz (a b:AV):ZcD a b (.d (.bool true))=Qf a:=rfl
@[go_sem] theorem ZuY (a b:AV):ZcD a b (.d (.bool false))=Qf b:=rfl
@[go_sem] theorem pickV_or (b c:Bool):ZcD (.d (.bool true)) (Zdx (nb b) (.d (.bool c))) (.d (.bool b))=Qf (.d (.bool (b || c))):=by cases b<;>rfl
@[go_sem] theorem pickV_and (b c:Bool):ZcD (Zdx b (.d (.bool c))) (.d (.bool false)) (.d (.bool b))=Qf (.d (.bool (b&&c))):=by cases b<;>rfl
theorem ZvA (a b:AV) (t:Bool):ZcD a b (.d (.bool t))=if t=true then Qf a else Qf b:=by cases t<;>rfl
@[go_sem] theorem dec_or (p q:Prop) [Decidable p] [Decidable q]:(decide p || decide q)=decide (p∨q):=by simp
@[go_sem] theorem dec_and (p q:Prop) [Decidable p] [Decidable q]:(decide p&&decide q)=decide (p∧q):=by simp
@[go_sem] theorem dec_not (p:Prop) [Decidable p]:(!decide p)=decide (¬p):=by simp
attribute [go_sem] Bool.or_eq_false_iff decide_eq_true_eq decide_eq_false_iff_not Bool.and_eq_true Bool.or_eq_true Bool.not_eq_true' Bool.not_eq_false' not_or Decidable.not_not
@[go_sem] theorem evO_t (sl:Sl) (n:Nat):evO sl (.t n)=gs sl n:=rfl
@[go_sem] theorem evO_v (sl:Sl) (a:AV):evO sl (.v a)=a:=rfl
@[go_sem] theorem evO_f (sl:Sl) (n:Nat):evO sl (.f n)=.clo n []:=rfl
@[go_sem] theorem gs_hit (k:Nat) (v:AV) (r:Sl):gs ((k,v) :: r) k=v:=by simp[gs,lkp,JF]
@[go_sem] theorem gs_cons (k t:Nat) (v:AV) (r:Sl):gs ((k,v) :: r) t=if k=t then v else gs r t:=by
 by_cases h:k=t<;>simp[gs,lkp,h,JF]
@[go_sem] theorem gs_nil (t:Nat):gs [] t=.junk:=rfl
attribute [go_sem] J6.eq_1 J6.eq_2
attribute [go_sem] WP.eq_1 WP.eq_2 WP.eq_3 WP.eq_4
attribute [go_sem] ZeQ.eq_1 ZeQ.eq_2 ZeQ.eq_3 ZeQ.eq_4
attribute [go_sem] Ul.eq_1 Ul.eq_2
attribute [go_sem] St.hp.eq_1
attribute [go_sem] Zac.eq_1 Zac.eq_2 Zac.eq_3
attribute [go_sem] JF.eq_1 JF.eq_2
attribute [go_sem] agg2.eq_1 agg2.eq_2 agg2.eq_3
attribute [go_sem] ins.eq_1 ins.eq_2
attribute [go_sem] Zbv.eq_1 Zbv.eq_2
attribute [go_sem] QP.eq_1 QP.eq_2 QP.eq_3
attribute [go_sem] St.m.eq_1
attribute [go_sem] bnd.eq_1 bnd.eq_2
attribute [go_sem] VF.eq_1 VF.eq_2 VF.eq_3
attribute [go_sem] Znh.eq_1 Znh.eq_2 Znh.eq_3 Znh.eq_4
attribute [go_sem] AV.cells.eq_1 AV.cells.eq_2 AV.cells.eq_3 AV.cells.eq_4 AV.cells.eq_5 AV.cells.eq_6 AV.cells.eq_7 AV.cells.eq_8 AV.cells.eq_9 AV.cells.eq_10 AV.cells.eq_11 AV.cells.eq_12 AV.cells.eq_13 AV.cells.eq_14 AV.cells.eq_15
attribute [go_sem] ZW.eq_1 ZW.eq_2 ZW.eq_3 ZW.eq_4 ZW.eq_5 ZW.eq_6
attribute [go_sem] AV.solid.eq_1 AV.solid.eq_2 AV.solid.eq_3 AV.solid.eq_4
attribute [go_sem] YS.eq_1 YS.eq_2
attribute [go_sem] Qi.eq_1 Qi.eq_2
attribute [go_sem] YT.eq_1 YT.eq_2
attribute [go_sem] WO.eq_1
attribute [go_sem] ZaE.eq_1 ZaE.eq_2 ZaE.eq_3 ZaE.eq_4 ZaE.eq_5
attribute [go_sem] Ve.eq_1 Ve.eq_2
attribute [go_sem] D.flat.eq_1
attribute [go_sem] give.eq_1 give.eq_2
attribute [go_sem] D.beq1.eq_1 D.beq1.eq_2 D.beq1.eq_3 D.beq1.eq_4
attribute [go_sem] Zbw.eq_1 Zbw.eq_2 Zbw.eq_3 Zbw.eq_4 Zbw.eq_5 Zbw.eq_6
attribute [go_sem] not1.eq_1 not1.eq_2
attribute [go_sem] QU.eq_1 QU.eq_2 QU.eq_3 QU.eq_4
attribute [go_sem] St.nx.eq_1
attribute [go_sem] Zp.eq_1 Zp.eq_2 Zp.eq_3
attribute [go_sem] J7.eq_1 J7.eq_2 J7.eq_3
attribute [go_sem] ZeR.eq_1 ZeR.eq_2
attribute [go_sem] vun.eq_1 vun.eq_2 vun.eq_3
attribute [go_sem] toD.eq_1 toD.eq_2
attribute [go_sem] Ze.eq_1 Ze.eq_2 Ze.eq_3 Ze.eq_4 Ze.eq_5 Ze.eq_6 Ze.eq_7 Ze.eq_8 Ze.eq_9 Ze.eq_10 Ze.eq_11 Ze.eq_12 Ze.eq_13 Ze.eq_14 Ze.eq_15
attribute [go_sem] D.plain.eq_1 D.plain.eq_2 D.plain.eq_3 D.plain.eq_4 D.plain.eq_5
attribute [go_sem] Zm.eq_1
attribute [go_sem] ZH.eq_1 ZH.eq_2 ZH.eq_3
attribute [go_sem] We.eq_1 We.eq_2
attribute [go_sem] Zo.eq_1 Zo.eq_2
attribute [go_sem] ZoH.eq_1
attribute [go_sem] ZfX.eq_1 ZfX.eq_2
attribute [go_sem] U7.eq_1 U7.eq_2 U7.eq_3 U7.eq_4
attribute [go_sem] St.sl.eq_1
attribute [go_sem] ZqU.eq_1 ZqU.eq_2
attribute [go_sem] VG.eq_1 VG.eq_2
attribute [go_sem] ZaD.eq_1 ZaD.eq_2
attribute [go_sem] ren.eq_1 ren.eq_2
attribute [go_sem] kill.eq_1 kill.eq_2
attribute [go_sem] lkp.eq_1 lkp.eq_2
attribute [go_sem] ZkX.eq_1 ZkX.eq_2 ZkX.eq_3
attribute [go_sem] QI.eq_1 QI.eq_2
attribute [go_sem] beqL.eq_1 beqL.eq_2 beqL.eq_3
attribute [go_sem] D.cells.eq_1 D.cells.eq_2 D.cells.eq_3 D.cells.eq_4 D.cells.eq_5
attribute [go_sem] ZiF.eq_1 ZiF.eq_2
attribute [go_sem] ZkW.eq_1 ZkW.eq_2
attribute [go_sem] neg1.eq_1 neg1.eq_2
attribute [go_sem] ZfY.eq_1 ZfY.eq_2 ZfY.eq_3
attribute [go_sem] ZiG.eq_1 ZiG.eq_2
attribute [go_sem] Yl.eq_1 Yl.eq_2 Yl.eq_3
attribute [go_sem] asD.eq_1
attribute [go_sem] V8.eq_1 V8.eq_2 V8.eq_3 V8.eq_4 V8.eq_5 V8.eq_6 V8.eq_7 V8.eq_8 V8.eq_9 V8.eq_10 V8.eq_11 V8.eq_12 V8.eq_13 V8.eq_14 V8.eq_15 V8.eq_16 V8.eq_17
attribute [go_sem] Zdw.eq_1 Zdw.eq_2 Zdw.eq_3 Zdw.eq_4 Zdw.eq_5
attribute [go_sem] D.one.eq_1 D.one.eq_2 D.one.eq_3 D.one.eq_4 D.one.eq_5
attribute [go_sem] freeze.eq_1 freeze.eq_2
attribute [go_sem] JM.eq_1
attribute [go_sem] loOf.eq_1 loOf.eq_2
attribute [go_sem] Eff.on.eq_1
attribute [go_sem] appT.eq_1
attribute [go_sem] UF.eq_1 UF.eq_2
attribute [go_sem] cloV.eq_1
attribute [go_sem] slice0.eq_1 slice0.eq_2
attribute [go_sem] evM.eq_1 evM.eq_2
attribute [go_sem] WX.eq_1 WX.eq_2
attribute [go_sem] hiOf.eq_1 hiOf.eq_2
attribute [go_sem] Zfe.eq_1 Zfe.eq_2 Zfe.eq_3
attribute [go_sem] Zqi.eq_1
attribute [go_sem] idx.eq_1 idx.eq_2
attribute [go_sem] YP.eq_1 YP.eq_2 YP.eq_3 YP.eq_4 YP.eq_5
attribute [go_sem] Ud.eq_1 Ud.eq_2 Ud.eq_3
attribute [go_sem] ZU.eq_1 ZU.eq_2
attribute [go_sem] D.notSl.eq_1 D.notSl.eq_2
attribute [go_sem] ZsM.eq_1 ZsM.eq_2
attribute [go_sem] JQ.eq_1 JQ.eq_2 JQ.eq_3 JQ.eq_4 JQ.eq_5 JQ.eq_6
attribute [go_sem] Yn.eq_1 Yn.eq_2 Yn.eq_3 Yn.eq_4
attribute [go_sem] CO.guard.eq_1
attribute [go_sem] Zb8.eq_1
attribute [go_sem] UR.eq_1
attribute [go_sem] JN.eq_1 JN.eq_2 JN.eq_3
attribute [go_sem] Ze9.eq_1
attribute [go_sem] Eff.adds.eq_1
attribute [go_sem] ZgZ.eq_1 ZgZ.eq_2
attribute [go_sem] YX.eq_1 YX.eq_2
attribute [go_sem] Zd.eq_1 Zd.eq_2
attribute [go_sem] Zb.eff.eq_1
attribute [go_sem] ZcA.eq_1 ZcA.eq_2
attribute [go_sem] Zo7.eq_1 Zo7.eq_2
attribute [go_sem] ZaG.eq_1 ZaG.eq_2 ZaG.eq_3
attribute [go_sem] del.eq_1 del.eq_2
attribute [go_sem] Zjq.eq_1
attribute [go_sem] Zmv.eq_1 Zmv.eq_2
attribute [go_sem] Up.eq_1 Up.eq_2
attribute [go_sem] Zg1.eq_1 Zg1.eq_2
attribute [go_sem] D.isAgg.eq_1 D.isAgg.eq_2
attribute [go_sem] Uq.eq_1 Uq.eq_2 Uq.eq_3 Uq.eq_4 Uq.eq_5
attribute [go_sem] ZcF.eq_1
attribute [go_sem] slice3.eq_1
attribute [go_sem] JP.eq_1 JP.eq_2
attribute [go_sem] args.eq_1 args.eq_2
attribute [go_sem] Zg0.eq_1 Zg0.eq_2
attribute [go_sem] ZbH.eq_1
attribute [go_sem] Zfa.eq_1 Zfa.eq_2 Zfc.eq_1 Zfc.eq_2
attribute [go_sem] W0.eq_1
attribute [go_sem] evL.eq_1 evL.eq_2
attribute [go_sem] Zf9.eq_1 Zf9.eq_2 Zf9.eq_3
attribute [go_sem] WW.eq_1 WW.eq_2 WW.eq_3
attribute [go_sem] ZaH.eq_1 ZaH.eq_2
attribute [go_sem] Zjm.eq_1 Zjm.eq_2
attribute [go_sem] Eff.sets.eq_1
attribute [go_sem] ZaI.eq_1 ZaI.eq_2 ZaI.eq_3
attribute [go_sem] Ze8.eq_1 Ze8.eq_2
attribute [go_sem] Zfd.eq_1 Zfd.eq_2
attribute [go_sem] U0.eq_1 U0.eq_2 U0.eq_3
attribute [go_sem] Zrx.eq_1
attribute [go_sem] makeT.eq_1
attribute [go_sem] Yo.eq_1 Yo.eq_2
attribute [go_sem] ZsN.eq_1 ZsN.eq_2
attribute [go_sem] Zjo.eq_1 Zjo.eq_2
attribute [go_sem] JU.eq_1 JU.eq_2
attribute [go_sem] Zlp.eq_1
attribute [go_sem] JT.eq_1 JT.eq_2
attribute [go_sem] AV.atom.eq_1 AV.atom.eq_2 AV.atom.eq_3 AV.atom.eq_4 AV.atom.eq_5
attribute [go_sem] Eff.dels.eq_1
attribute [go_sem] Zai.eq_1 Zai.eq_2 Zai.eq_3
attribute [go_sem] mat.eq_1 mat.eq_2 mat.eq_3
attribute [go_sem] Zy.eq_1
attribute [go_sem] JS.eq_1 JS.eq_2
attribute [go_sem] Zmx.eq_1
attribute [go_sem] Zrw.eq_1
attribute [go_sem] Zak.eq_1 Zak.eq_2
attribute [go_sem] WY.eq_1
attribute [go_sem] Qk.eq_1 Qk.eq_2 Qk.eq_3 Qk.eq_4
attribute [go_sem] rowV.eq_1
attribute [go_sem] Zcx.eq_1 Zcx.eq_2
attribute [go_sem] Zga.eq_1 Zga.eq_2
attribute [go_sem] ZnY.eq_1 ZnY.eq_2
attribute [go_sem] ZdV.eq_1 ZdV.eq_2 ZdV.eq_3 ZdV.eq_4
attribute [go_sem] Zeh.eq_1 Zeh.eq_2
attribute [go_sem] ZbF.eq_1 ZbF.eq_2
attribute [go_sem] Zcz.eq_1 Zcz.eq_2 Zcz.eq_3 Zcz.eq_4 Zcz.eq_5
attribute [go_sem] Zmw.eq_1 Zmw.eq_2
attribute [go_sem] Zjp.eq_1
attribute [go_sem] convS.eq_1 convS.eq_2
attribute [go_sem] Zfb.eq_1 Zfb.eq_2
attribute [go_sem] CO.tl.eq_1
attribute [go_sem] ZcB.eq_1 ZcB.eq_2 ZcB.eq_3 ZcB.eq_4
attribute [go_sem] CO.dst.eq_1
attribute [go_sem] teOf.eq_1
attribute [go_sem] Zo8.eq_1 Zo8.eq_2 Zo8.eq_3
attribute [go_sem] Zjn.eq_1
attribute [go_sem] ZnT.eq_1 ZnT.eq_2
attribute [go_sem] ZnU.eq_1
attribute [go_sem] Eff.val.eq_1
attribute [go_sem] sliceS.eq_1 sliceS.eq_2
attribute [go_sem] XW.eq_1 XW.eq_2 XW.eq_3
attribute [go_sem] Zcy.eq_1 Zcy.eq_2 Zcy.eq_3 Zcy.eq_4
attribute [go_sem] WV.eq_1
attribute [go_sem] buildSl.eq_1 buildSl.eq_2
attribute [go_sem] Wa.eq_1 Wa.eq_2 Wa.eq_3 Wa.eq_4
attribute [go_sem] Ub.eq_1 Ub.eq_2 Ub.eq_3 Ub.eq_4 Ub.eq_5
attribute [go_sem] ZgY.eq_1 ZgY.eq_2
attribute [go_sem] Zjs.eq_1
attribute [go_sem] evP.eq_1 evP.eq_2
attribute [go_sem] Zff.eq_1 Zff.eq_2
attribute [go_sem] Zaj.eq_1
attribute [go_sem] Zdh.eq_1
attribute [go_sem] Zlo.eq_1 Zlo.eq_2
attribute [go_sem] Zjr.eq_1
attribute [go_sem] Vk.eq_1
attribute [go_sem] ZnX.eq_1
attribute [go_sem] bnT.eq_1 bnT.eq_2
attribute [go_sem] JO.eq_1 JO.eq_2
attribute [go_sem] YW.eq_1 YW.eq_2
attribute [go_sem] WZ.eq_1 WZ.eq_2
attribute [go_sem] asgT.eq_1 asgT.eq_2
attribute [go_sem] Zgb.eq_1 Zgb.eq_2
attribute [go_sem] ZaK.eq_1 ZaK.eq_2
attribute [go_sem] ZcC.eq_1 ZcC.eq_2 ZcC.eq_3 ZcC.eq_4
attribute [go_sem] ZnR.eq_1 ZnR.eq_2
attribute [go_sem] CO.op.eq_1
attribute [go_sem] ZbI.eq_1 ZbI.eq_2
attribute [go_sem] ZbE.eq_1 ZbE.eq_2
attribute [go_sem] Zrv.eq_1 Zrv.eq_2
attribute [go_sem] Zdi.eq_1 Zdi.eq_2 Zdi.eq_3
attribute [go_sem] ZnV.eq_1 ZnV.eq_2
attribute [go_sem] ZcE.eq_1 ZcE.eq_2
attribute [go_sem] ZbG.eq_1 ZbG.eq_2
attribute [go_sem] J8.eq_1 J8.eq_2 J8.eq_3 J8.eq_4 J8.eq_5 J8.eq_6 J8.eq_7 J8.eq_8 J8.eq_9 J8.eq_10
attribute [go_sem] US.eq_1
attribute [go_sem] Vl.eq_1 Vl.eq_2 Vl.eq_3 Vl.eq_4
attribute [go_sem] Eff.frz.eq_1
attribute [go_sem] buildT.eq_1
attribute [go_sem] Z8.eq_1 Z8.eq_2
attribute [go_sem] Zdg.eq_1 Zdg.eq_2
attribute [go_sem] Zb.gone.eq_1
attribute [go_sem] meltIn.eq_1 meltIn.eq_2
attribute [go_sem] ZdW.eq_1
attribute [go_sem] ZnS.eq_1 ZnS.eq_2
attribute [go_sem] convI.eq_1 convI.eq_2
attribute [go_sem] ZhH.eq_1 ZhH.eq_2
attribute [go_sem] Jj.eq_1 Jj.eq_2 Jj.eq_3
attribute [go_sem] bd.eq_1
attribute [go_sem] JR.eq_1 JR.eq_2
attribute [go_sem] Xg.eq_1
attribute [go_sem] Zmy.eq_1 Zmy.eq_2
attribute [go_sem] Zdj.eq_1
attribute [go_sem] Xo.eq_1 Xo.eq_2
attribute [go_sem] Zqs.eq_1 Zqs.eq_2
attribute [go_sem] Zv.eq_1 Zv.eq_2 Zv.eq_3 Zv.eq_4 Zv.eq_5 Zv.eq_6 Zv.eq_7 Zv.eq_8 Zv.eq_9 Zv.eq_10 Zv.eq_11 Zv.eq_12 Zv.eq_13 Zv.eq_14 Zv.eq_15 Zv.eq_16 Zv.eq_17 Zv.eq_18 Zv.eq_19 Zv.eq_20 Zv.eq_21 Zv.eq_22 Zv.eq_23 Zv.eq_24 Zv.eq_25 Zv.eq_26 Zv.eq_27 Zv.eq_28 Zv.eq_29 Zv.eq_30 Zv.eq_31 Zv.eq_32 Zv.eq_33 Zv.eq_34 Zv.eq_35 Zv.eq_36 Zv.eq_37 Zv.eq_38 Zv.eq_39 Zv.eq_40
attribute [go_sem] Wk.eq_1 Wk.eq_2 Wk.eq_3 Wk.eq_4 Wk.eq_5
attribute [go_sem] ZcJ.eq_1
attribute [go_sem] ZmL.eq_1 ZmL.eq_2
attribute [go_sem] J1.eq_1 J1.eq_2
attribute [go_sem] ZbV.eq_1 ZmN.eq_1 ZmN.eq_2 ZmN.eq_3 Zs2.eq_1
attribute [go_sem] ZaM.eq_1 ZaM.eq_2 ZaM.eq_3 ZaM.eq_4 ZaM.eq_5
attribute [go_sem] Y1.eq_1 Y1.eq_2
attribute [go_sem] Zg6.eq_1 Zg6.eq_2
attribute [go_sem] ZrE.eq_1 ZrE.eq_2
attribute [go_sem] Zlw.eq_1 Zlw.eq_2
attribute [go_sem] QK.eq_1 QK.eq_2
attribute [go_sem] only.eq_1 only.eq_2
attribute [go_sem] Zpn.eq_1 Zpn.eq_2
attribute [go_sem] ZcH.eq_1 ZcH.eq_2
attribute [go_sem] Y2.eq_1 Y2.eq_2
attribute [go_sem] okL.eq_1 okL.eq_2
attribute [go_sem] okC.eq_1 okC.eq_2 okC.eq_3 okC.eq_4 okC.eq_5 okC.eq_6 okC.eq_7 okC.eq_8 okC.eq_9 okC.eq_10
attribute [go_sem] ZhK.eq_1 ZhK.eq_2
attribute [go_sem] U4.eq_1 U4.eq_2
attribute [go_sem] ZbQ.eq_1 ZbQ.eq_2 ZbQ.eq_3
attribute [go_sem] Zdo.eq_1 Zdo.eq_2
attribute [go_sem] ZcI.eq_1 ZcI.eq_2
attribute [go_sem] Qx.eq_1 Qx.eq_2
attribute [go_sem] Zk.eq_1 Zk.eq_2
attribute [go_sem] YA.eq_1 YA.eq_2 YA.eq_3
attribute [go_sem] Zfq.eq_1
attribute [go_sem] Vn.eq_1 Vn.eq_2
attribute [go_sem] ZmM.eq_1 ZmM.eq_2
attribute [go_sem] CO.starts.eq_1
attribute [go_sem] Y0.eq_1 Y0.eq_2
attribute [go_sem] QA.eq_1 QA.eq_2
attribute [go_sem] Zqr.eq_1 Zqr.eq_2
attribute [go_sem] Zgo.eq_1
attribute [go_sem] ZjJ.eq_1 ZjJ.eq_2 ZjJ.eq_3
attribute [go_sem] ZbS.eq_1 ZbS.eq_2
attribute [go_sem] VI.eq_1 VI.eq_2
attribute [go_sem] ZaN.eq_1
attribute [go_sem] ZjK.eq_1 ZjK.eq_2
attribute [go_sem] Zqq.eq_1
attribute [go_sem] ZT.body.eq_1
attribute [go_sem] Zfs.eq_1
attribute [go_sem] Zeo.eq_1 Zeo.eq_2
attribute [go_sem] W5.eq_1 W5.eq_2 W5.eq_3 W5.eq_4 W5.eq_5
attribute [go_sem] ZT.res.eq_1
attribute [go_sem] Yd.eq_1 Yd.eq_2
attribute [go_sem] Xz.eq_1 Xz.eq_2 Xz.eq_3 Xz.eq_4 Xz.eq_5 Xz.eq_6 Xz.eq_7 Xz.eq_8 Xz.eq_9 Xz.eq_10 Xz.eq_11 Xz.eq_12
attribute [go_sem] ZjO.eq_1 ZjO.eq_2
attribute [go_sem] Yz.eq_1 Yz.eq_2
attribute [go_sem] ZT.nt.eq_1
attribute [go_sem] okD.eq_1 okD.eq_2
attribute [go_sem] Zmy.eq_1 Ub.eq_1 Ub.eq_2 Ub.eq_3 Ub.eq_4
attribute [go_sem] Wu.eq_1 JX.eq_1 JX.eq_2 JX.eq_3 JX.eq_4 JX.eq_5 JX.eq_6 JX.eq_7 JX.eq_8 JX.eq_9 JX.eq_10 Vo.eq_1
attribute [go_sem] QF.eq_3 Xh.eq_1 AV.atom.eq_1 AV.atom.eq_2 AV.atom.eq_3 AV.atom.eq_4
attribute [go_sem] ZkJ.eq_1 ZkJ.eq_2 ZdT.eq_1 ZdT.eq_2
attribute [go_sem] Zc Zsp ZtX
attribute [go_sem] List.map_cons List.map_nil List.flatMap_cons List.flatMap_nil List.append_nil List.nil_append List.cons_append List.length_cons List.length_nil List.all_cons List.all_nil List.any_cons List.any_nil List.contains_cons List.contains_nil List.filter_cons List.filter_nil List.drop_zero List.drop_succ_cons List.drop_nil List.take_zero List.take_succ_cons List.take_nil List.getElem?_cons_zero List.getElem?_cons_succ List.getElem?_nil Option.map_some Option.map_none Bool.and_true Bool.true_and Bool.and_false Bool.false_and Bool.or_true Bool.true_or Bool.or_false Bool.false_or Bool.not_true Bool.not_false decide_true decide_false and_true true_and and_false false_and not_true not_false_eq_true or_true true_or or_false false_or if_true if_false true_implies false_implies implies_true imp_self eq_self ne_eq beq_self_eq_true Bool.true_eq_false Bool.false_eq_true List.isEmpty_nil List.isEmpty_cons List.range_zero List.set_cons_zero List.set_cons_succ Option.some.injEq reduceCtorEq Nat.reduceLeDiff
def Zjh (hp:Hp):List Nat→List Nat
 | []=>[]
 | i :: r=>if ZcB (lkp hp i)=true then i :: Zjh hp r else Zjh hp r
theorem gE (hp:Hp) (ids:List Nat):(ids.filter fun i=>ZcB (lkp hp i))=Zjh hp ids:=by
 induction ids with
 | nil=>rfl
 | cons i r ih=>simp only[LY,Zjh,ih]
def Zlg (hp:Hp) (rs:List Nat):List Nat→Bool
 | []=>true
 | i :: r=>(ZcB (lkp hp i) || rs.contains i)&&Zlg hp rs r
def Zlh (hp:Hp):List Nat→Bool
 | []=>false
 | i :: r=>JT (lkp hp i) || Zlh hp r
theorem gG (hp:Hp) (ids:List Nat):(ids.any fun i=>JT (lkp hp i))=Zlh hp ids:=by
 induction ids with
 | nil=>rfl
 | cons i r ih=>simp only[List.any_cons,Zlh,ih]
attribute [go_sem] Zlh.eq_1 Zlh.eq_2
@[go_sem] theorem appV_eq (hp:Hp) (s b:Nat) (str flat:Bool) (base:Nat) (x y:AV):ZnW hp s b str flat base x y=ZaJ hp s b str flat base x y (Xi hp x) (Xi hp y):=rfl
attribute [go_sem] ZaJ.eq_1 ZaJ.eq_2 ZaJ.eq_3
@[go_sem] theorem treeId_d (hp:Hp) (x:D):Xi hp (.d x)=[]:=rfl
@[go_sem] theorem ZvB (hp:Hp):Xi hp .nil=[]:=rfl
@[go_sem] theorem ZuZ (hp:Hp) (k o n:Nat):Xi hp (.ownv k o n)=[]:=rfl
@[go_sem] theorem ZvC (hp:Hp) (k:Nat):Xi hp (.own k)=if JT (lkp hp k)=true then [k] else []:=rfl
@[go_sem] theorem noKeep_0 (M:Zf) (f:Nat):Xy M f 0=M f 0:=rfl
@[go_sem] theorem noKeep_1 (M:Zf) (f:Nat):Xy M f 1=M f 1:=rfl
@[go_sem] theorem noKeep_2 (M:Zf) (f:Nat):Xy M f 2=M f 2:=rfl
@[go_sem] theorem noKeep_3 (M:Zf) (f:Nat):Xy M f 3=M f 3:=rfl
@[go_sem] theorem noKeep_4 (M:Zf) (f:Nat):Xy M f 4=M f 4:=rfl
@[go_sem] theorem noKeep_5 (M:Zf) (f:Nat):Xy M f 5=M f 5:=rfl
@[go_sem] theorem noKeep_6 (M:Zf) (f:Nat):Xy M f 6=M f 6:=rfl
@[go_sem] theorem noKeep_99 (M:Zf) (f:Nat):Xy M f 99=false:=rfl
theorem gF (hp:Hp) (rs ids:List Nat):Ji hp rs ids=Zlg hp rs ids:=by
 induction ids with
 | nil=>rfl
 | cons i r ih=>simp only[Ji,Lv,Zlg] at ih ⊢;rw[ih]
attribute [go_sem] Zjh.eq_1 Zjh.eq_2 Zlg.eq_1 Zlg.eq_2
@[go_sem] theorem okV_d (x:D):okV (.d x)=true:=rfl
@[go_sem] theorem okV_nil:okV .nil=true:=rfl
@[go_sem] theorem okV_nilp:okV .nilp=true:=rfl
@[go_sem] theorem okV_nili:okV .nili=true:=rfl
@[go_sem] theorem okV_ptr (a b:Nat):okV (.ptr a b)=true:=rfl
@[go_sem] theorem okV_prow (a b c e:Nat):okV (.prow a b c e)=true:=rfl
@[go_sem] theorem okV_pim (cs:List D):okV (.pim cs)=true:=rfl
@[go_sem] theorem okV_own (a:Nat):okV (.own a)=true:=rfl
@[go_sem] theorem okV_ownv (a b c:Nat):okV (.ownv a b c)=true:=rfl
@[go_sem] theorem okV_agg (cs:List AV):okV (.agg cs)=ZmL cs:=rfl
@[go_sem] theorem okV_tup0:okV (.tup [])=true:=rfl
@[go_sem] theorem ZvD (sl:Sl) (a:COp) (x y:Nat) (v:AV):YQ sl a (.ptr x y) v=true:=rfl
@[go_sem] theorem seenIn_d (sl:Sl) (a:COp) (x y z t:Nat) (v:D):YQ sl a (.prow x y z t) (.d v)=true:=rfl
@[go_sem] theorem ZvE (sl:Sl) (a:COp) (x y z t:Nat) (v:List AV):YQ sl a (.prow x y z t) (.agg v)=(okV (.agg v)&&Xo sl (Zv a) (Zo (.agg v))):=rfl
@[go_sem] theorem ZvF (sl:Sl) (a:COp) (x y z t:Nat) (k:Nat):YQ sl a (.prow x y z t) (.own k)=(okV (.own k)&&Xo sl (Zv a) (Zo (.own k))):=rfl
@[go_sem] theorem ZvG (sl:Sl) (a:COp) (x y z t:Nat):YQ sl a (.prow x y z t) .nil=(okV .nil&&Xo sl (Zv a) (Zo .nil)):=rfl
@[go_sem] theorem Zu0 (sl:Sl) (a:COp) (x y z t:Nat):YQ sl a (.prow x y z t) .nilp=(okV .nilp&&Xo sl (Zv a) (Zo .nilp)):=rfl
@[go_sem] theorem Zu1 (sl:Sl) (a:COp) (x y z t:Nat) (k m n:Nat):YQ sl a (.prow x y z t) (.ownv k m n)=(okV (.ownv k m n)&&Xo sl (Zv a) (Zo (.ownv k m n))):=rfl
@[go_sem] theorem Zu2 (sl:Sl) (a:COp) (k:Nat):seenSrc sl a (.own k)=Qx sl k (Zv a):=rfl
@[go_sem] theorem seenSrc_d (sl:Sl) (a:COp) (x:D):seenSrc sl a (.d x)=true:=rfl
@[go_sem] theorem Zu3 (sl:Sl) (a:COp):seenSrc sl a .nil=true:=rfl
@[go_sem] theorem Zul (sl:Sl) (a:COp) (x y z:Nat):seenSrc sl a (.ownv x y z)=true:=rfl
@[go_sem] theorem okV_iteV (b:Bool) (v:AV):okV (Zdx b v)=(!b || okV v):=by cases b<;>simp[Zdx,okV]
@[go_sem] theorem awayV_d (sl:Sl) (xs:List Opd) (x:D):JY sl xs (.d x)=true:=rfl
@[go_sem] theorem awayV_nil (sl:Sl) (xs:List Opd):JY sl xs .nil=true:=rfl
@[go_sem] theorem ZvH (sl:Sl) (xs:List Opd):JY sl xs .nilp=true:=rfl
@[go_sem] theorem awayV_ptr (sl:Sl) (xs:List Opd) (k o:Nat):JY sl xs (.ptr k o)=Qx sl k xs:=rfl
@[go_sem] theorem awayV_pim (sl:Sl) (xs:List Opd) (cs:List D):JY sl xs (.pim cs)=true:=rfl
@[go_sem] theorem awayV_own (sl:Sl) (xs:List Opd) (a:Nat):JY sl xs (.own a)=true:=rfl
@[go_sem] theorem ZvI (sl:Sl) (xs:List Opd) (a b c:Nat):JY sl xs (.ownv a b c)=true:=rfl
@[go_sem] theorem awayV_agg (sl:Sl) (xs:List Opd) (cs:List AV):JY sl xs (.agg cs)=true:=rfl
@[go_sem] theorem awayV_tup (sl:Sl) (xs:List Opd) (cs:List AV):JY sl xs (.tup cs)=true:=rfl
end Go.Abs.E
