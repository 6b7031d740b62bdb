/- Own text. -/
import Derived.Test.YtnachaiejoflhaaDoorAbsRun
set_option linter.unusedVariables false
set_option linter.unusedSimpArgs false
namespace Go.Abs.E
open Go Go.Abs
abbrev _root_.Go.Abs.Opd.i (n:Int):Opd:=.v (.d (.int .i64 n))
abbrev _root_.Go.Abs.Opd.b (x:Bool):Opd:=.v (.d (.bool x))
def stW {α:Type} (x:Option α) (K:α→Prop):Prop:=match x with
 | some a=>K a
 | none=>False
def gW (x:Option Bool) (A B:Prop):Prop:=match x with
 | some b=>(b=true→A)∧(b=false→B)
 | none=>False
def Vh (v:AV) (A B:Prop):Prop:=match v with
 | .d (.bool t)=>(t=true→A)∧(t=false→B)
 | _=>False
theorem YX {α:Type} (a:α) (K:α→Prop):stW (some a) K=K a:=rfl
theorem Zec {α:Type} (K:α→Prop):stW none K=False:=rfl
theorem Ut {α β:Type} (x:Option α) (f:α→Option β) (K:β→Prop):stW (bnd x f) K=stW x fun a=>stW (f a) K:=by cases x<;>rfl
@[go_sem] theorem ZoX (A B:Prop):gW (some true) A B=A:=by simp[gW]
@[go_sem] theorem gW_false (A B:Prop):gW (some false) A B=B:=by simp[gW]
@[go_sem] theorem gW_dec (p:Prop) [Decidable p] (A B:Prop):gW (some (decide p)) A B=((p→A)∧(¬p→B)):=by simp[gW]
@[go_sem] theorem gW_not (b:Bool) (A B:Prop):gW (some (!b)) A B=gW (some b) B A:=by cases b<;>simp[gW]
theorem gW_some (b:Bool) (A B:Prop):gW (some b) A B=((b=true→A)∧(b=false→B)):=rfl
@[go_sem] theorem ZtK (A B:Prop):Vh (.d (.bool true)) A B=A:=by simp[Vh]
@[go_sem] theorem Ztg (A B:Prop):Vh (.d (.bool false)) A B=B:=by simp[Vh]
@[go_sem] theorem condW_dec (p:Prop) [Decidable p] (A B:Prop):Vh (.d (.bool (decide p))) A B=((p→A)∧(¬p→B)):=by simp[Vh]
@[go_sem] theorem condW_not (b:Bool) (A B:Prop):Vh (.d (.bool (!b))) A B=Vh (.d (.bool b)) B A:=by cases b<;>simp[Vh]
@[go_sem] theorem condW_and (a b:Bool) (A B:Prop):Vh (.d (.bool (a&&b))) A B=Vh (.d (.bool a)) (Vh (.d (.bool b)) A B) B:=by cases a<;>cases b<;>simp[Vh]
@[go_sem] theorem condW_or (a b:Bool) (A B:Prop):Vh (.d (.bool (a || b))) A B=Vh (.d (.bool a)) A (Vh (.d (.bool b)) A B):=by cases a<;>cases b<;>simp[Vh]
@[go_sem] theorem ZtL (b:Bool) (A B:Prop):Vh (.d (.bool b)) A B=((b=true→A)∧(b=false→B)):=rfl
@[congr] theorem gW_congr {x y:Option Bool} {A B:Prop} (h:x=y):gW x A B=gW y A B:=by rw[h]
@[congr] theorem Zth {v w:AV} {A B:Prop} (h:v=w):Vh v A B=Vh w A B:=by rw[h]
section
variable (X:Fns) (M:Zh)
noncomputable def JI (nx:Nat):Nat→List CO→Sl→Hp→(Sl→Hp→Prop)→Prop
 | _,[],sl,hp,K=>K sl hp
 | i,o :: rest,sl,hp,K=>gW (ZK sl o.guard)
   (stW (XQ (nx+64*i) o.dst sl hp (vop (Zj X M) M sl hp (nx+64*i) o.op)) fun r=>JI nx (i+1) rest r.1 r.2 K)
   (JI nx (i+1) rest (Zi sl o.dst (.tup [])) hp K)
def Ui (nx i:Nat) (d:Option Nat) (rest:List CO) (sl:Sl) (hp:Hp) (K:Sl→Hp→Prop) (e:Option Zb):Prop:=
 stW (XQ (nx+64*i) d sl hp e) fun r=>JI X M nx (i+1) rest r.1 r.2 K
@[go_sem] theorem opsW_nil (nx i:Nat) (sl:Sl) (hp:Hp) (K:Sl→Hp→Prop):JI X M nx i [] sl hp K=K sl hp:=rfl
@[go_sem] theorem opsW_cons (nx i:Nat) (d:Option Nat) (tl:Bool) (op:COp) (aa:List CO) (sl:Sl) (hp:Hp) (K:Sl→Hp→Prop) :
  JI X M nx i (⟨d,none,op,tl⟩ :: aa) sl hp K=Ui X M nx i d aa sl hp K (vop (Zj X M) M sl hp (nx+64*i) op):=by
 simp[JI,Ui,ZK,ZoX]
def ZcK (b:Bool) (v:AV):AV:=if b then v else .tup []
def We (b:Bool) (nx i:Nat) (d:Option Nat) (rest:List CO) (sl:Sl) (hp:Hp) (K:Sl→Hp→Prop) (e:Option Zb):Prop:=
 gW (some b) (Ui X M nx i d rest sl hp K e) (JI X M nx (i+1) rest (Zi sl d (.tup [])) hp K)
def Zlf (g:Option Bool) (nx i:Nat) (d:Option Nat) (op:COp) (rest:List CO) (sl:Sl) (hp:Hp) (K:Sl→Hp→Prop):Prop:=
 gW g (Ui X M nx i d rest sl hp K (vop (Zj X M) M sl hp (nx+64*i) op)) (JI X M nx (i+1) rest (Zi sl d (.tup [])) hp K)
@[go_sem] theorem ZtM (nx i g:Nat) (w:Bool) (d:Option Nat) (tl:Bool) (op:COp) (aa:List CO) (sl:Sl) (hp:Hp) (K:Sl→Hp→Prop) :
  JI X M nx i (⟨d,some (g,w),op,tl⟩ :: aa) sl hp K=Zlf X M (ZaV w (gs sl g)) nx i d op aa sl hp K:=rfl
@[go_sem] theorem Zti (b:Bool) (nx i:Nat) (d:Option Nat) (op:COp) (aa:List CO) (sl:Sl) (hp:Hp) (K:Sl→Hp→Prop) :
  Zlf X M (some b) nx i d op aa sl hp K=We X M b nx i d aa sl hp K (vop (Zj X M) M sl hp (nx+64*i) op):=rfl
@[go_sem] theorem gA (nx i:Nat) (d:Option Nat) (aa:List CO) (sl:Sl) (hp:Hp) (K:Sl→Hp→Prop) (e:Option Zb) :
  We X M true nx i d aa sl hp K e=Ui X M nx i d aa sl hp K e:=by simp[We,gW]
@[go_sem] theorem gB (nx i:Nat) (d:Option Nat) (aa:List CO) (sl:Sl) (hp:Hp) (K:Sl→Hp→Prop) (e:Option Zb) :
  We X M false nx i d aa sl hp K e=JI X M nx (i+1) aa (Zi sl d (.tup [])) hp K:=by simp[We,gW]
@[go_sem] theorem Zlg (b:Bool) (nx i:Nat) (d:Option Nat) (aa:List CO) (sl:Sl) (hp:Hp) (K:Sl→Hp→Prop) (v:AV) :
  We X M b nx i d aa sl hp K (Qw v)=JI X M nx (i+1) aa (Zi sl d (ZcK b v)) hp K:=by
 cases b
 ·simp[We,gW,ZcK]
 ·simp only[We,gW,ZcK,Kk,true_implies,Bool.true_eq_false,false_implies,and_true];rfl
@[go_sem] theorem Ztj (b:Bool) (nx i:Nat) (d:Option Nat) (aa:List CO) (sl:Sl) (hp:Hp) (K:Sl→Hp→Prop) (v:AV) :
  We X M b nx i d aa sl hp K (some { eff := { val:=v,adds:=[],sets:=[],dels:=[],frz:=[] },gone:=[] })=JI X M nx (i+1) aa (Zi sl d (ZcK b v)) hp K:=Zlg X M b nx i d aa sl hp K v
@[congr] theorem ZsF {g g' : Option Bool} {nx i:Nat} {d:Option Nat} {op:COp} {aa:List CO} {sl:Sl} {hp:Hp} {K:Sl→Hp→Prop} (h:g=g') :
  Zlf X M g nx i d op aa sl hp K=Zlf X M g' nx i d op aa sl hp K:=by rw[h]
@[congr] theorem ZsG {b b' : Bool} {nx i:Nat} {d:Option Nat} {aa:List CO} {sl:Sl} {hp:Hp} {K:Sl→Hp→Prop} {e e' : Option Zb} (hb:b=b') (h:b'=true→e=e') :
  We X M b nx i d aa sl hp K e=We X M b' nx i d aa sl hp K e':=by
 subst hb;cases b
 ·simp[We,gW]
 ·rw[h rfl]
@[go_sem] theorem Ztk (nx i:Nat) (d:Option Nat) (aa:List CO) (sl:Sl) (hp:Hp) (K:Sl→Hp→Prop) (v:AV) :
  Ui X M nx i d aa sl hp K (Qw v)=JI X M nx (i+1) aa (Zi sl d v) hp K:=rfl
@[go_sem] theorem ZtN (nx i:Nat) (d:Option Nat) (aa:List CO) (sl:Sl) (hp:Hp) (K:Sl→Hp→Prop) (v:AV) :
  Ui X M nx i d aa sl hp K (some { eff := { val:=v,adds:=[],sets:=[],dels:=[],frz:=[] },gone:=[] })=JI X M nx (i+1) aa (Zi sl d v) hp K:=rfl
@[go_sem] theorem ZtO (nx i:Nat) (d:Option Nat) (aa:List CO) (sl:Sl) (hp:Hp) (K:Sl→Hp→Prop) (e:Zb) :
  Ui X M nx i d aa sl hp K (some e)=(QD (nx+64*i) (nx+64*i+64) e.eff.adds=true∧JI X M nx (i+1) aa (Zi (QL e.gone sl) d e.eff.val) (e.eff.on (YG e.gone hp)) K):=by
 unfold Ui XQ;rw[Zc];split<;>rename_i h
 ·simp only[YX,h,true_and];rfl
 ·simp only[Zec,h,false_and,Ka]
@[go_sem] theorem ZtP (nx i:Nat) (d:Option Nat) (aa:List CO) (sl:Sl) (hp:Hp) (K:Sl→Hp→Prop):Ui X M nx i d aa sl hp K none=False:=rfl
@[go_sem] theorem stepW_ite (nx i:Nat) (d:Option Nat) (aa:List CO) (sl:Sl) (hp:Hp) (K:Sl→Hp→Prop) (c:Prop) [Decidable c] (a b:Option Zb) :
  Ui X M nx i d aa sl hp K (if c then a else b)=((c→Ui X M nx i d aa sl hp K a)∧(¬c→Ui X M nx i d aa sl hp K b)):=by
 by_cases h:c<;>simp[h]
noncomputable def Yk (nx:Nat):Nat→Bool→List CO→Sl→Hp→(Sl→Hp→Prop)→Prop
 | _,_,[],sl,hp,K=>K sl hp
 | i,tail,o :: rest,sl,hp,K=>gW (ZK sl o.guard)
   (stW (XQ (nx+64*i) o.dst sl hp (YI (Zj X M) (XV M) nx i (CO.starts o) o.op sl hp)) fun r=>Yk nx (i+1) tail rest r.1 r.2 K)
   (Yk nx (i+1) tail rest (Zi sl o.dst (.tup [])) hp K)
def Vk (nx i:Nat) (t:Bool) (d:Option Nat) (rest:List CO) (sl:Sl) (hp:Hp) (K:Sl→Hp→Prop) (e:Option Zb):Prop:=
 stW (XQ (nx+64*i) d sl hp (if t then e else Jf e)) fun r=>Yk X M nx (i+1) false rest r.1 r.2 K
@[go_sem] theorem opsDW_nil (nx i:Nat) (t:Bool) (sl:Sl) (hp:Hp) (K:Sl→Hp→Prop):Yk X M nx i t [] sl hp K=K sl hp:=rfl
@[go_sem] theorem ZtQ (nx i:Nat) (d:Option Nat) (tl:Bool) (op:COp) (aa:List CO) (sl:Sl) (hp:Hp) (K:Sl→Hp→Prop) :
  Yk X M nx i false (⟨d,none,op,tl⟩ :: aa) sl hp K=Vk X M nx i (Zcx op || tl) d aa sl hp K (vop (Zj X M) (XV M) sl hp (nx+64*i) op):=by
 simp[Yk,Vk,ZK,ZoX,YI,CO.starts]
def YB (b:Bool) (nx i:Nat) (t:Bool) (d:Option Nat) (rest:List CO) (sl:Sl) (hp:Hp) (K:Sl→Hp→Prop) (e:Option Zb):Prop:=
 gW (some b) (Vk X M nx i t d rest sl hp K e) (Yk X M nx (i+1) false rest (Zi sl d (.tup [])) hp K)
def ZgL (g:Option Bool) (nx i:Nat) (t:Bool) (d:Option Nat) (op:COp) (rest:List CO) (sl:Sl) (hp:Hp) (K:Sl→Hp→Prop):Prop:=
 gW g (Vk X M nx i t d rest sl hp K (vop (Zj X M) (XV M) sl hp (nx+64*i) op)) (Yk X M nx (i+1) false rest (Zi sl d (.tup [])) hp K)
@[go_sem] theorem Ztl (nx i g:Nat) (w:Bool) (d:Option Nat) (tl:Bool) (op:COp) (aa:List CO) (sl:Sl) (hp:Hp) (K:Sl→Hp→Prop) :
  Yk X M nx i false (⟨d,some (g,w),op,tl⟩ :: aa) sl hp K=ZgL X M (ZaV w (gs sl g)) nx i (Zcx op || tl) d op aa sl hp K:=rfl
@[go_sem] theorem ZsH (b:Bool) (nx i:Nat) (t:Bool) (d:Option Nat) (op:COp) (aa:List CO) (sl:Sl) (hp:Hp) (K:Sl→Hp→Prop) :
  ZgL X M (some b) nx i t d op aa sl hp K=YB X M b nx i t d aa sl hp K (vop (Zj X M) (XV M) sl hp (nx+64*i) op):=rfl
@[go_sem] theorem gC (nx i:Nat) (t:Bool) (d:Option Nat) (aa:List CO) (sl:Sl) (hp:Hp) (K:Sl→Hp→Prop) (e:Option Zb) :
  YB X M true nx i t d aa sl hp K e=Vk X M nx i t d aa sl hp K e:=by simp[YB,gW]
@[go_sem] theorem gD (nx i:Nat) (t:Bool) (d:Option Nat) (aa:List CO) (sl:Sl) (hp:Hp) (K:Sl→Hp→Prop) (e:Option Zb) :
  YB X M false nx i t d aa sl hp K e=Yk X M nx (i+1) false aa (Zi sl d (.tup [])) hp K:=by simp[YB,gW]
@[go_sem] theorem Zjq (b:Bool) (nx i:Nat) (t:Bool) (d:Option Nat) (aa:List CO) (sl:Sl) (hp:Hp) (K:Sl→Hp→Prop) (v:AV) :
  YB X M b nx i t d aa sl hp K (Qw v)=Yk X M nx (i+1) false aa (Zi sl d (ZcK b v)) hp K:=by
 cases b
 ·simp[YB,gW,ZcK]
 ·simp only[YB,gW,ZcK,Kk,true_implies,Bool.true_eq_false,false_implies,and_true];cases t<;>rfl
@[go_sem] theorem ZsI (b:Bool) (nx i:Nat) (t:Bool) (d:Option Nat) (aa:List CO) (sl:Sl) (hp:Hp) (K:Sl→Hp→Prop) (v:AV) :
  YB X M b nx i t d aa sl hp K (some { eff := { val:=v,adds:=[],sets:=[],dels:=[],frz:=[] },gone:=[] })=Yk X M nx (i+1) false aa (Zi sl d (ZcK b v)) hp K:=Zjq X M b nx i t d aa sl hp K v
@[congr] theorem Zsg {g g' : Option Bool} {nx i:Nat} {t t' : Bool} {d:Option Nat} {op:COp} {aa:List CO} {sl:Sl} {hp:Hp} {K:Sl→Hp→Prop} (h:g=g') (ht:t=t') :
  ZgL X M g nx i t d op aa sl hp K=ZgL X M g' nx i t' d op aa sl hp K:=by rw[h,ht]
@[congr] theorem Zsh {b b' : Bool} {nx i:Nat} {t:Bool} {d:Option Nat} {aa:List CO} {sl:Sl} {hp:Hp} {K:Sl→Hp→Prop} {e e' : Option Zb} (hb:b=b') (h:b'=true→e=e') :
  YB X M b nx i t d aa sl hp K e=YB X M b' nx i t d aa sl hp K e':=by
 subst hb;cases b
 ·simp[YB,gW]
 ·rw[h rfl]
@[go_sem] theorem ZsJ (nx i:Nat) (t:Bool) (d:Option Nat) (aa:List CO) (sl:Sl) (hp:Hp) (K:Sl→Hp→Prop) (v:AV) :
  Vk X M nx i t d aa sl hp K (Qw v)=Yk X M nx (i+1) false aa (Zi sl d v) hp K:=by cases t<;>rfl
@[go_sem] theorem Ztm (nx i:Nat) (t:Bool) (d:Option Nat) (aa:List CO) (sl:Sl) (hp:Hp) (K:Sl→Hp→Prop) (v:AV) :
  Vk X M nx i t d aa sl hp K (some { eff := { val:=v,adds:=[],sets:=[],dels:=[],frz:=[] },gone:=[] })=Yk X M nx (i+1) false aa (Zi sl d v) hp K:=by cases t<;>rfl
@[go_sem] theorem Ztn (nx i:Nat) (t:Bool) (d:Option Nat) (aa:List CO) (sl:Sl) (hp:Hp) (K:Sl→Hp→Prop) (e:Zb) :
  Vk X M nx i t d aa sl hp K (some e)=((t=false→ZaZ e e.gone e.eff.sets e.eff.dels e.eff.frz=some e)∧QD (nx+64*i) (nx+64*i+64) e.eff.adds=true∧Yk X M nx (i+1) false aa (Zi (QL e.gone sl) d e.eff.val) (e.eff.on (YG e.gone hp)) K):=by
 have ab:stW (XQ (nx+64*i) d sl hp (some e)) (fun r=>Yk X M nx (i+1) false aa r.1 r.2 K)=(QD (nx+64*i) (nx+64*i+64) e.eff.adds=true∧Yk X M nx (i+1) false aa (Zi (QL e.gone sl) d e.eff.val) (e.eff.on (YG e.gone hp)) K):=by
  unfold XQ;rw[Zc];split<;>rename_i h
  ·simp only[YX,h,true_and];rfl
  ·simp only[Zec,h,false_and,Ka]
 unfold Vk;cases t with
 | true=>simp only[Kk];rw[ab];simp
 | false=>
  simp only[Ka,Km,Jf,Zc,true_implies];unfold ZaZ;split
  ·rw[ab];simp
  ·simp[XQ,bnd,stW]
@[go_sem] theorem Zto (nx i:Nat) (t:Bool) (d:Option Nat) (aa:List CO) (sl:Sl) (hp:Hp) (K:Sl→Hp→Prop):Vk X M nx i t d aa sl hp K none=False:=by cases t<;>rfl
@[go_sem] theorem ZtR (nx i:Nat) (t:Bool) (d:Option Nat) (aa:List CO) (sl:Sl) (hp:Hp) (K:Sl→Hp→Prop) (c:Prop) [Decidable c] (a b:Option Zb) :
  Vk X M nx i t d aa sl hp K (if c then a else b)=((c→Vk X M nx i t d aa sl hp K a)∧(¬c→Vk X M nx i t d aa sl hp K b)):=by
 by_cases h:c<;>simp[h]
@[go_sem] theorem quietC_ok (c:Zb):ZaZ c [] [] [] []=some c:=rfl
def W (c:ZG) (st:St) (Q:Ex→St→Prop):Prop:=stW (Qo X M c st) fun r=>Q r.1 r.2
@[congr] theorem W_congr {c:ZG} {st aa : St} {Q:Ex→St→Prop} (h:st=aa):W X M c st Q=W X M c aa Q:=by rw[h]
@[congr] theorem ZtS {aa:List CO} {nx ab i i' : Nat} {sl sl' : Sl} {hp hp' : Hp} {K:Sl→Hp→Prop} (hn:nx=ab) (hi:i=i') (h:sl=sl') (h' : hp=hp') :
  JI X M nx i aa sl hp K=JI X M ab i' aa sl' hp' K:=by rw[h,h',hn,hi]
@[congr] theorem Ztp {aa:List CO} {nx ab i i' : Nat} {t t' : Bool} {sl sl' : Sl} {hp hp' : Hp} {K:Sl→Hp→Prop} (hn:nx=ab) (hi:i=i') (ht:t=t') (h:sl=sl') (h' : hp=hp') :
  Yk X M nx i t aa sl hp K=Yk X M ab i' t' aa sl' hp' K:=by rw[h,h',ht,hn,hi]
@[congr] theorem Ztq {aa:List CO} {nx i:Nat} {d:Option Nat} {sl:Sl} {hp:Hp} {K:Sl→Hp→Prop} {e e' : Option Zb} (h:e=e') :
  Ui X M nx i d aa sl hp K e=Ui X M nx i d aa sl hp K e':=by rw[h]
@[congr] theorem ZsK {aa:List CO} {nx i:Nat} {t t' : Bool} {d:Option Nat} {sl:Sl} {hp:Hp} {K:Sl→Hp→Prop} {e e' : Option Zb} (ht:t=t') (h:e=e') :
  Vk X M nx i t d aa sl hp K e=Vk X M nx i t' d aa sl hp K e':=by rw[h,ht]
theorem ZsL (nx:Nat) (K:Sl→Hp→Prop):∀ (l:List CO) (i:Nat) (sl:Sl) (hp:Hp),JI X M nx i l sl hp K=stW (ZbS (Zj X M) M nx i l sl hp) fun r=>K r.1 r.2:=by
 intro l
 induction l with
 | nil=>intro i sl hp;rfl
 | cons o rest ih=>
  intro i sl hp;simp only[JI,ZbS,ih,Ut];cases ZK sl o.guard with
  | none=>rfl
  | some b=>cases b<;>simp[gW,Ut,YX]
theorem Zrz (nx:Nat) (K:Sl→Hp→Prop):∀ (l:List CO) (i:Nat) (t:Bool) (sl:Sl) (hp:Hp),Yk X M nx i t l sl hp K=stW (Wu (Zj X M) (XV M) nx i t l sl hp) fun r=>K r.1 r.2:=by
 intro l
 induction l with
 | nil=>intro i t sl hp;rfl
 | cons o rest ih=>
  intro i t sl hp;simp only[Yk,Wu,ih,Ut];cases ZK sl o.guard with
  | none=>rfl
  | some b=>cases b<;>simp[gW,Ut,YX]
def Zp1 (m nx:Nat) (Q:Ex→St→Prop) (sl:Sl) (hp:Hp):Prop:=Q .normal { sl:=sl,hp:=hp,nx:=nx,m:=m }
def ZmB (ops:List CO) (ps:List (Nat×Nat)) (K:Sl→Hp→Prop) (sl:Sl) (hp:Hp):Prop:=VE ops sl ps=true∧K sl hp
@[go_sem] theorem regQ_eq (m nx:Nat) (Q:Ex→St→Prop) (sl:Sl) (hp:Hp):Zp1 m nx Q sl hp=Q .normal { sl:=sl,hp:=hp,nx:=nx,m:=m }:=rfl
@[go_sem] theorem seenQ_eq (ops:List CO) (ps:List (Nat×Nat)) (K:Sl→Hp→Prop) (sl:Sl) (hp:Hp):ZmB ops ps K sl hp=(VE ops sl ps=true∧K sl hp):=rfl
@[go_sem] theorem W_skip (st:St) (Q:Ex→St→Prop):W X M .skip st Q=Q .normal st:=by simp[W,Zoc,YX]
@[go_sem] theorem W_ret (st:St) (Q:Ex→St→Prop):W X M .ret st Q=Q .ret st:=by simp[W,Zqm,YX]
@[go_sem] theorem W_exit (id:Nat) (st:St) (Q:Ex→St→Prop):W X M (.exit id) st Q=Q (.exit id) st:=by simp[W,Zod,YX]
@[go_sem] theorem W_stuck (st:St) (Q:Ex→St→Prop):W X M .stuck st Q=False:=by
 have h:Qo X M .stuck st=none:=X6 fun n=>by simp only[Zu]
 simp only[W,h,Zec]
@[go_sem] theorem W_region (n:Nat) (ops:List CO) (st:St) (Q:Ex→St→Prop) :
  W X M (.region n none ops) st Q=JI X M st.nx 0 ops st.sl st.hp (Zp1 st.m (st.nx+64*n) Q):=by
 rw[ZsL,W,ZlF,ZgD,Ut];rfl
theorem ZrA (n:Nat) (ps:List (Nat×Nat)) (ops:List CO) (st:St) (Q:Ex→St→Prop) :
  W X M (.region n (some ps) ops) st Q=Yk X M st.nx 0 false ops st.sl st.hp (ZmB ops ps (Zp1 st.m (st.nx+64*n) Q)):=by
 rw[Zrz,W,Zoe,ZgD,Ut,Zkf,Ut];congr 1
 funext r
 by_cases h:VE ops r.1 ps=true<;>simp[h,ZmB,YX,Zec,Zp1]
@[go_sem] theorem W_draw0 (n:Nat) (ops:List CO) (st:St) (Q:Ex→St→Prop) :
  W X M (.region n (some []) ops) st Q=Yk X M st.nx 0 false ops st.sl st.hp (Zp1 st.m (st.nx+64*n) Q):=by
 rw[ZrA];congr 1
 funext sl hp
 simp[ZmB,VE]
@[go_sem] theorem W_drawc (n:Nat) (p:Nat×Nat) (ps:List (Nat×Nat)) (ops:List CO) (st:St) (Q:Ex→St→Prop) :
  W X M (.region n (some (p :: ps)) ops) st Q=Yk X M st.nx 0 false ops st.sl st.hp (ZmB ops (p :: ps) (Zp1 st.m (st.nx+64*n) Q)):=ZrA X M n _ ops st Q
def ZoY (c:ZG) (Q:Ex→St→Prop):Ex→St→Prop
 | .normal,st=>W X M c st Q
 | e,st=>Q e st
def blkQ (id:Nat) (Q:Ex→St→Prop):Ex→St→Prop
 | .exit j,st=>if j=id then Q .normal st else Q (.exit j) st
 | e,st=>Q e st
@[go_sem] theorem ZsM (c:ZG) (Q:Ex→St→Prop) (st:St):ZoY X M c Q .normal st=W X M c st Q:=rfl
@[go_sem] theorem thenQ_ret (c:ZG) (Q:Ex→St→Prop) (st:St):ZoY X M c Q .ret st=Q .ret st:=rfl
@[go_sem] theorem ZtT (c:ZG) (Q:Ex→St→Prop) (id:Nat) (st:St):ZoY X M c Q (.exit id) st=Q (.exit id) st:=rfl
@[go_sem] theorem Ztr (id:Nat) (Q:Ex→St→Prop) (st:St):blkQ id Q .normal st=Q .normal st:=rfl
@[go_sem] theorem blkQ_ret (id:Nat) (Q:Ex→St→Prop) (st:St):blkQ id Q .ret st=Q .ret st:=rfl
@[go_sem] theorem blkQ_exit (id j:Nat) (Q:Ex→St→Prop) (st:St):blkQ id Q (.exit j) st=if j=id then Q .normal st else Q (.exit j) st:=rfl
@[go_sem] theorem W_seq (a b:ZG) (st:St) (Q:Ex→St→Prop):W X M (.seq a b) st Q=W X M a st (ZoY X M b Q):=by
 unfold W;rw[Zqn];cases h:Qo X M a st with
 | none=>rfl
 | some r=>obtain⟨e,aa⟩:=r;cases e<;>rfl
@[go_sem] theorem W_cond (c:Opd) (a b:ZG) (st:St) (Q:Ex→St→Prop) :
  W X M (.cond c a b) st Q=Vh (evO st.sl c) (W X M a st Q) (W X M b st Q):=by
 unfold W;rw[Zof];cases h:evO st.sl c with
 | d x=>cases x with
  | bool t=>cases t<;>simp[Zc0,Vh]
  | _=>rfl
 | _=>rfl
@[go_sem] theorem W_block (id:Nat) (c:ZG) (st:St) (Q:Ex→St→Prop):W X M (.block id c) st Q=W X M c st (blkQ id Q):=by
 unfold W;rw[Zm0];cases h:Qo X M c st with
 | none=>rfl
 | some r=>
  obtain⟨e,aa⟩:=r;cases e with
  | exit j=>by_cases hj:j=id<;>simp[ZbV,hj,YX,blkQ]
  | normal=>rfl
  | ret=>rfl
def keepQ (K:List Nat) (Q:Ex→St→Prop) (e:Ex) (st:St):Prop:=Q e { sl:=only K st.sl,hp:=st.hp,nx:=st.nx,m:=st.m }
@[go_sem] theorem keepQ_eq (K:List Nat) (Q:Ex→St→Prop) (e:Ex) (st:St):keepQ K Q e st=Q e { sl:=only K st.sl,hp:=st.hp,nx:=st.nx,m:=st.m }:=rfl
@[go_sem] theorem W_keep (K:List Nat) (c:ZG) (st:St) (Q:Ex→St→Prop):W X M (.keep K c) st Q=W X M c st (keepQ K Q):=by
 unfold W;rw[Zog];cases h:Qo X M c st with
 | none=>rfl
 | some r=>rfl
def shutQ (id nm:Nat) (Q:Ex→St→Prop) (e:Ex) (st:St):Prop:=Q e { sl:=st.sl,hp:=Zqk st.hp (Zgb st.hp id nm (lkp st.hp id)),nx:=st.nx,m:=st.m }
@[go_sem] theorem shutQ_eq (id nm:Nat) (Q:Ex→St→Prop) (e:Ex) (st:St):shutQ id nm Q e st=Q e { sl:=st.sl,hp:=Zqk st.hp (Zgb st.hp id nm (lkp st.hp id)),nx:=st.nx,m:=st.m }:=rfl
def Zh3 (c:ZG) (Q:Ex→St→Prop) (r:Option St):Prop:=stW r fun st=>W X M c st Q
@[go_sem] theorem ZtU (c:ZG) (Q:Ex→St→Prop) (st:St):Zh3 X M c Q (some st)=W X M c st Q:=rfl
@[go_sem] theorem ZtV (c:ZG) (Q:Ex→St→Prop):Zh3 X M c Q none=False:=rfl
@[go_sem] theorem linkW_ite (c:ZG) (Q:Ex→St→Prop) (p:Prop) [Decidable p] (a b:Option St):Zh3 X M c Q (if p then a else b)=((p→Zh3 X M c Q a)∧(¬p→Zh3 X M c Q b)):=by
 by_cases h:p<;>simp[h]
@[go_sem] theorem W_link (fl:Bool) (id:Nat) (i:Opd) (j:Nat) (c:ZG) (st:St) (Q:Ex→St→Prop):W X M (.link fl id i j c) st Q=Zh3 X M c (shutQ id st.nx Q) (Za0 fl id i j st):=by
 unfold W Zh3;rw[Zoh];cases h:Za0 fl id i j st with
 | none=>rfl
 | some st1=>
  simp only[Zc,YX,W];cases h1:Qo X M c st1 with
  | none=>rfl
  | some q=>rfl
@[go_sem] theorem W_melt (c:ZG) (st:St) (Q:Ex→St→Prop):W X M (.melt c) st Q=W X M c { sl:=st.sl,hp:=ZeY Zej st.hp,nx:=st.nx,m:=st.m } Q:=by
 unfold W;rw[Zoi];rfl
def LW (c:ZG) (K:List Nat) (st:St) (Q:Ex→St→Prop):Prop:=stW (ZbX X M c K st) fun r=>Q r.1 r.2
@[congr] theorem LW_congr {c:ZG} {K K' : List Nat} {st aa : St} {Q:Ex→St→Prop} (hk:K=K') (h:st=aa):LW X M c K st Q=LW X M c K' aa Q:=by rw[h,hk]
@[go_sem] theorem W_loop (c:ZG) (st:St) (Q:Ex→St→Prop):W X M (.loop c) st Q=LW X M c (Uf st.sl) st Q:=by
 unfold W LW;rw[Zoj]
def Zh4 (c:ZG) (K:List Nat) (Q:Ex→St→Prop):Ex→St→Prop
 | .normal,st=>LW X M c K st Q
 | e,st=>Q e st
@[go_sem] theorem ZsN (c:ZG) (K:List Nat) (Q:Ex→St→Prop) (st:St):Zh4 X M c K Q .normal st=LW X M c K st Q:=rfl
@[go_sem] theorem nextQ_ret (c:ZG) (K:List Nat) (Q:Ex→St→Prop) (st:St):Zh4 X M c K Q .ret st=Q .ret st:=rfl
@[go_sem] theorem ZtW (c:ZG) (K:List Nat) (Q:Ex→St→Prop) (id:Nat) (st:St):Zh4 X M c K Q (.exit id) st=Q (.exit id) st:=rfl
theorem Xg {c:ZG} {K:List Nat} {st:St} {Q:Ex→St→Prop} (h:W X M c (VY K st) (Zh4 X M c K Q)):LW X M c K st Q:=by
 unfold W at h;cases hv:Qo X M c (VY K st) with
 | none=>rw[hv] at h;exact h.elim
 | some r=>
  rw[hv] at h;obtain⟨e,aa⟩:=r;unfold LW;cases e with
  | normal=>rw[Zm1 X M hv];exact h
  | exit id=>rw[ZiD X M (by simp) hv];exact h
  | ret=>rw[ZiD X M (by simp) hv];exact h
def Zjr (sl:Sl):Sl→Sl
 | []=>sl
 | (k,v) :: r=>Zjr (ins sl k v) r
def ZcW (hp:Hp):Hp→Hp
 | []=>hp
 | (k,o) :: r=>ZcW (ins hp k o) r
theorem LW_ind {α:Type} (S:α→St) (I:α→Prop) (μ:α→Nat) {c:ZG} {K:List Nat} {Q:Ex→St→Prop}
  (step:∀ a,I a→(∀ b st,I b→μ b<μ a→VY K st=S b→LW X M c K st Q)→W X M c (S a) (Zh4 X M c K Q)) :
  ∀ a st,I a→VY K st=S a→LW X M c K st Q:=by
 have aa:∀ n a st,μ a=n→I a→VY K st=S a→LW X M c K st Q:=by
  intro n
  induction n using Nat.strongRecOn with
  | ind n ih=>
   intro a st hn ha hs;refine Xg X M ?_;rw[hs];exact step a ha fun b ab hb ae ad=>ih (μ b) (by omega) b ab rfl hb ad
 exact fun a st ha hs=>aa _ a st rfl ha hs
theorem Zlh {α:Type} (u:α→Sl) (uh:α→Hp) (I:α→Prop) (μ:α→Nat) (a:α) {c:ZG} {K:List Nat} {Q:Ex→St→Prop} {st st0:St}
  (hc:VY K st=st0) (ha:I a) (h0:(⟨Zjr st0.sl (u a),ZcW st0.hp (uh a),st0.nx,st0.m⟩:St)=st0)
  (step:∀ a,I a→(∀ b st,I b→μ b<μ a→VY K st=⟨Zjr st0.sl (u b),ZcW st0.hp (uh b),st0.nx,st0.m⟩→LW X M c K st Q)→W X M c ⟨Zjr st0.sl (u a),ZcW st0.hp (uh a),st0.nx,st0.m⟩ (Zh4 X M c K Q)) :
  LW X M c K st Q:=
 LW_ind X M (fun a=>⟨Zjr st0.sl (u a),ZcW st0.hp (uh a),st0.nx,st0.m⟩) I μ step a st ha (hc.trans h0.symm)
def Zli (m:Nat) (rs:List Zju) (R:AV×List Zf→Prop):Ex→St→Prop:=fun e st=>stW (JQ m rs (some (e,st))) R
def resW (m:Nat) (hp:Hp) (R:AV×List Zf→Prop) (vs:Option (List AV)):Prop:=stW vs fun vs=>R (Y2 m hp (Jg vs))
@[go_sem] theorem resW_some (m:Nat) (hp:Hp) (R:AV×List Zf→Prop) (vs:List AV):resW m hp R (some vs)=R (Y2 m hp (Jg vs)):=rfl
@[go_sem] theorem resW_none (m:Nat) (hp:Hp) (R:AV×List Zf→Prop):resW m hp R none=False:=rfl
@[go_sem] theorem endQ_ret (m:Nat) (rs:List Zju) (R:AV×List Zf→Prop) (st:St):Zli m rs R .ret st=resW m st.hp R (Qe (ZiB st) rs):=by
 simp only[Zli,JQ,Ut];rfl
@[go_sem] theorem Zts (m:Nat) (rs:List Zju) (R:AV×List Zf→Prop) (st:St):Zli m rs R .normal st=resW m st.hp R (Qe (ZiB st) rs):=by
 simp only[Zli,JQ,Ut];rfl
theorem ZrB {f:Nat} {as:List AV} {h:List Zf} (fn:Qa) {R:AV×List Zf→Prop} (hx:X f=some (.text fn)) (hl:as.length≤fn.nt)
  (hr:W X M fn.body { sl:=YH 0 as,hp:=YJ 0 h,nx:=h.length,m:=h.length } (Zli h.length fn.res R)):∃ r,Zj X M f as h=some r∧R r:=by
 unfold W at hr;cases hv:Qo X M fn.body { sl:=YH 0 as,hp:=YJ 0 h,nx:=h.length,m:=h.length } with
 | none=>rw[hv] at hr;exact hr.elim
 | some q=>
  rw[hv] at hr;obtain⟨e,st⟩:=q;simp only[YX,Zli] at hr;cases hk:JQ h.length fn.res (some (e,st)) with
  | none=>rw[hk] at hr;exact hr.elim
  | some r=>rw[hk] at hr;exact⟨r,ZrV X M hx hl (by rw[hv];exact hk),hr⟩
theorem callE {f:Nat} {as:List AV} {h:List Zf} (fn:Qa) {r:AV×List Zf} (hx:X f=some (.text fn)) (hl:as.length≤fn.nt)
  (hr:W X M fn.body { sl:=YH 0 as,hp:=YJ 0 h,nx:=h.length,m:=h.length } (Zli h.length fn.res fun q=>q=r)):Zj X M f as h=some r:=by
 obtain⟨q,hq,rfl⟩:=ZrB X M fn hx hl hr;exact hq
end
@[go_sem] theorem vopE_move (C:Orc) (M:Zh) (sl:Sl) (hp:Hp) (base:Nat) (x:Opd):vop C M sl hp base (.move x)=Qw (evO sl x):=by simp only[vop]
@[go_sem] theorem Ztt (C:Orc) (M:Zh) (sl:Sl) (hp:Hp) (base:Nat) (s:Option Nat) (x:Opd):vop C M sl hp base (.assign s x)=ZaM base s (evO sl x):=by simp only[vop]
@[go_sem] theorem vopE_pick (C:Orc) (M:Zh) (sl:Sl) (hp:Hp) (base:Nat) (c a b:Opd):vop C M sl hp base (.pick c a b)=ZbO (evO sl a) (evO sl b) (evO sl c):=by simp only[vop]
@[go_sem] theorem ZtX (C:Orc) (M:Zh) (sl:Sl) (hp:Hp) (base:Nat) (slc:List (Option Nat)) (cs:List AV):vop C M sl hp base (.alloc slc cs)=ZbP slc base cs:=by simp only[vop]
@[go_sem] theorem vopE_box (C:Orc) (M:Zh) (sl:Sl) (hp:Hp) (base:Nat) (x:Opd):vop C M sl hp base (.box x)=Zqa base (evO sl x):=by simp only[vop]
@[go_sem] theorem ZtY (C:Orc) (M:Zh) (sl:Sl) (hp:Hp) (base:Nat) (zs:List AV) (ps:List (Nat×Nat×Opd)):vop C M sl hp base (.build zs ps)=Zic zs (evP sl ps):=by simp only[vop]
@[go_sem] theorem ZsO (C:Orc) (M:Zh) (sl:Sl) (hp:Hp) (base:Nat) (s:Nat) (xs:List Opd):vop C M sl hp base (.buildSl s xs)=buildSl hp base s (evL sl xs):=by simp only[vop]
@[go_sem] theorem vopE_load (C:Orc) (M:Zh) (sl:Sl) (hp:Hp) (base:Nat) (g:Bool) (s:Nat) (a:Opd):vop C M sl hp base (.load g s a)=Yw (Vw hp g s (evO sl a)):=by simp only[vop]
@[go_sem] theorem ZtZ (C:Orc) (M:Zh) (sl:Sl) (hp:Hp) (base:Nat) (slc:List (Option Nat)) (s:Nat) (a x:Opd):vop C M sl hp base (.store slc s a x)=Zbb (Uc hp slc s base (evO sl x).cells (evO sl a)):=by simp only[vop]
@[go_sem] theorem Zsi (C:Orc) (M:Zh) (sl:Sl) (hp:Hp) (base:Nat) (x:Opd):vop C M sl hp base (.nilCheck x)=WE (evO sl x):=by simp only[vop]
@[go_sem] theorem vopE_bin (C:Orc) (M:Zh) (sl:Sl) (hp:Hp) (base:Nat) (op:BinOp) (eq:Bool) (x y:Opd):vop C M sl hp base (.bin op eq x y)=Zid op eq (evO sl x) (evO sl y):=by simp only[vop]
@[go_sem] theorem vopE_un (C:Orc) (M:Zh) (sl:Sl) (hp:Hp) (base:Nat) (op:UnOp) (x:Opd):vop C M sl hp base (.un op x)=Yw (vun op (evO sl x)):=by simp only[vop]
@[go_sem] theorem vopE_eqA (C:Orc) (M:Zh) (sl:Sl) (hp:Hp) (base:Nat) (neg:Bool) (ks:List Nat) (x y:Opd):vop C M sl hp base (.eqA neg ks x y)=Zlo neg ks (evO sl x) (evO sl y):=by simp only[vop]
@[go_sem] theorem Zt0 (C:Orc) (M:Zh) (sl:Sl) (hp:Hp) (base:Nat) (k:IntKind) (x:Opd):vop C M sl hp base (.convI k x)=convI k (evO sl x):=by simp only[vop]
@[go_sem] theorem Zt1 (C:Orc) (M:Zh) (sl:Sl) (hp:Hp) (base:Nat) (x:Opd):vop C M sl hp base (.convS x)=convS (evO sl x):=by simp only[vop]
@[go_sem] theorem vopE_fn (C:Orc) (M:Zh) (sl:Sl) (hp:Hp) (base:Nat) (f:Nat) (cs:List Opd):vop C M sl hp base (.fn f cs)=Yw (cloV f (evL sl cs)):=by simp only[vop]
@[go_sem] theorem vopE_make (C:Orc) (M:Zh) (sl:Sl) (hp:Hp) (base:Nat) (s b:Nat) (z:D) (l c:Opd):vop C M sl hp base (.make s b z l c)=bnd (idx (evO sl l)) fun l=>bnd (idx (evO sl c)) fun c=>Zj7 base s b z l c:=by simp only[vop]
@[go_sem] theorem Zt2 (C:Orc) (M:Zh) (sl:Sl) (hp:Hp) (base:Nat) (s:Nat) (x:Opd) (lo hi:Option Opd):vop C M sl hp base (.slice s x lo hi)=Yw (Yv hp s (evM sl lo) (evM sl hi) (evO sl x)):=by simp only[vop]
@[go_sem] theorem Ztu (C:Orc) (M:Zh) (sl:Sl) (hp:Hp) (base:Nat) (x:Opd) (lo hi:Option Opd):vop C M sl hp base (.sliceS x lo hi)=Yw (sliceS (evM sl lo) (evM sl hi) (evO sl x)):=by simp only[vop]
@[go_sem] theorem Ztv (C:Orc) (M:Zh) (sl:Sl) (hp:Hp) (base:Nat) (x hi mx:Opd):vop C M sl hp base (.slice0 x hi mx)=Yw (slice0 hp (evO sl x) (idx (evO sl hi)) (idx (evO sl mx))):=by simp only[vop]
@[go_sem] theorem Zt3 (C:Orc) (M:Zh) (sl:Sl) (hp:Hp) (base:Nat) (off:Nat) (x:Opd):vop C M sl hp base (.shift off x)=Y0 off (evO sl x):=by simp only[vop]
@[go_sem] theorem vopE_part (C:Orc) (M:Zh) (sl:Sl) (hp:Hp) (base:Nat) (g:Bool) (s off:Nat) (x:Opd):vop C M sl hp base (.part g s off x)=Yw (Zei g s off (evO sl x)):=by simp only[vop]
@[go_sem] theorem vopE_iaS (C:Orc) (M:Zh) (sl:Sl) (hp:Hp) (base:Nat) (s:Nat) (x i:Opd):vop C M sl hp base (.iaS s x i)=bnd (idx (evO sl i)) fun n=>ZcZ hp s (evO sl x) n:=by simp only[vop]
@[go_sem] theorem vopE_iaA (C:Orc) (M:Zh) (sl:Sl) (hp:Hp) (base:Nat) (len s:Nat) (x i:Opd):vop C M sl hp base (.iaA len s x i)=bnd (idx (evO sl i)) fun n=>Zif (evO sl x) n len s:=by simp only[vop]
@[go_sem] theorem vopE_ixS (C:Orc) (M:Zh) (sl:Sl) (hp:Hp) (base:Nat) (x i:Opd):vop C M sl hp base (.ixS x i)=bnd (idx (evO sl i)) fun n=>ZnU n (evO sl x):=by simp only[vop]
@[go_sem] theorem vopE_ixA (C:Orc) (M:Zh) (sl:Sl) (hp:Hp) (base:Nat) (g:Bool) (s len:Nat) (x i:Opd):vop C M sl hp base (.ixA g s len x i)=bnd (idx (evO sl i)) fun n=>Zqc g s len n (evO sl x):=by simp only[vop]
@[go_sem] theorem vopE_nth (C:Orc) (M:Zh) (sl:Sl) (hp:Hp) (base:Nat) (i:Nat) (x:Opd):vop C M sl hp base (.nth i x)=ZmL i (evO sl x):=by simp only[vop]
@[go_sem] theorem vopE_len (C:Orc) (M:Zh) (sl:Sl) (hp:Hp) (base:Nat) (x:Opd):vop C M sl hp base (.len x)=bnd (JH hp (evO sl x)) fun n=>Qw (.d (.int .i64 n)):=by simp only[vop]
@[go_sem] theorem vopE_lenS (C:Orc) (M:Zh) (sl:Sl) (hp:Hp) (base:Nat) (x:Opd):vop C M sl hp base (.lenS x)=bnd (Zpz (evO sl x)) fun n=>Qw (.d (.int .i64 n)):=by simp only[vop]
@[go_sem] theorem Ztw (C:Orc) (M:Zh) (sl:Sl) (hp:Hp) (base:Nat) (s b:Nat) (str flat:Bool) (x y:Opd):vop C M sl hp base (.append s b str flat x y)=ZmM hp s b str flat base (evO sl x) (evO sl y):=by simp only[vop]
@[go_sem] theorem vopE_min (C:Orc) (M:Zh) (sl:Sl) (hp:Hp) (base:Nat) (x y:Opd):vop C M sl hp base (.min x y)=Zf5 (evO sl x) (evO sl y):=by simp only[vop]
@[go_sem] theorem vopE_max (C:Orc) (M:Zh) (sl:Sl) (hp:Hp) (base:Nat) (x y:Opd):vop C M sl hp base (.max x y)=Zf6 (evO sl x) (evO sl y):=by simp only[vop]
@[go_sem] theorem vopE_call (C:Orc) (M:Zh) (sl:Sl) (hp:Hp) (base:Nat) (f:Opd) (as:List Opd):vop C M sl hp base (.call f as)=JM C M hp base (evL sl as) (evO sl f):=by simp only[vop]
@[go_sem] theorem Ztx (C:Orc) (M:Zh) (sl:Sl) (hp:Hp) (base:Nat) (s:Nat) (x lo hi mx:Opd):vop C M sl hp base (.slice3 s x lo hi mx)=Yw (slice3 hp (evO sl x) (idx (evO sl lo)) (idx (evO sl hi)) (idx (evO sl mx))):=by simp only[vop]
@[go_sem] theorem Zt4 (C:Orc) (M:Zh) (sl:Sl) (hp:Hp) (base:Nat) (s:Nat) (z:D) (x:Opd):vop C M sl hp base (.clear s z x)=Zbb (ZaI hp s z (evO sl x)):=by simp only[vop]
@[go_sem] theorem Zty (C:Orc) (M:Zh) (sl:Sl) (hp:Hp) (base:Nat) (s n:Nat) (xs:List Opd):vop C M sl hp base (.buildT s n xs)=buildT hp base s n (evL sl xs):=by simp only[vop]
@[go_sem] theorem vopE_appT (C:Orc) (M:Zh) (sl:Sl) (hp:Hp) (base:Nat) (s b:Nat) (f:Bool) (x y:Opd):vop C M sl hp base (.appT s b f x y)=appT hp s b base (evO sl x) (evO sl y):=by simp only[vop]
@[go_sem] theorem vopE_asgT (C:Orc) (M:Zh) (sl:Sl) (hp:Hp) (base:Nat) (s n:Nat) (x:Opd):vop C M sl hp base (.asgT s n x)=asgT base s n (evO sl x):=by simp only[vop]
@[go_sem] theorem Zt5 (C:Orc) (M:Zh) (sl:Sl) (hp:Hp) (base:Nat) (s b n:Nat) (z:D) (l c:Opd):vop C M sl hp base (.makeT s b n z l c)=bnd (idx (evO sl l)) fun l=>bnd (idx (evO sl c)) fun c=>makeT base s b n z l c:=by simp only[vop]
@[go_sem] theorem Zt6 (C:Orc) (M:Zh) (sl:Sl) (hp:Hp) (base:Nat):vop C M sl hp base .stuck=none:=by simp only[vop]
@[go_sem] theorem Zp2 (hp:Hp) (n:Nat) (aa:List Nat):QF hp n [] aa=aa:=by cases n<;>rfl
@[go_sem] theorem tidy_d (hp:Hp) (ids:List Nat) (x:D):Zah hp ids (.d x)=.d x:=rfl
@[go_sem] theorem tidy_nil (hp:Hp) (ids:List Nat):Zah hp ids .nil=.nil:=rfl
@[go_sem] theorem tidy_junk (hp:Hp) (ids:List Nat):Zah hp ids .junk=.junk:=rfl
@[go_sem] theorem tidy_tup (hp:Hp) (ids:List Nat) (vs:List AV):Zah hp ids (.tup vs)=ren (YD ids) (kill (ZbT hp ids (Zl (.tup vs))) (.tup vs)):=rfl
@[go_sem] theorem tidy_agg (hp:Hp) (ids:List Nat) (vs:List AV):Zah hp ids (.agg vs)=ren (YD ids) (kill (ZbT hp ids (Zl (.agg vs))) (.agg vs)):=rfl
@[go_sem] theorem tidy_clo (hp:Hp) (ids:List Nat) (f:Nat) (vs:List AV):Zah hp ids (.clo f vs)=ren (YD ids) (kill (ZbT hp ids (Zl (.clo f vs))) (.clo f vs)):=rfl
@[go_sem] theorem tidy_nilp (hp:Hp) (ids:List Nat):Zah hp ids .nilp=.nilp:=rfl
@[go_sem] theorem tidy_nili (hp:Hp) (ids:List Nat):Zah hp ids .nili=.nili:=rfl
@[go_sem] theorem tidy_pim (hp:Hp) (ids:List Nat) (cs:List D):Zah hp ids (.pim cs)=.pim cs:=rfl
@[go_sem] theorem tidy_ptr (hp:Hp) (ids:List Nat) (id o:Nat):Zah hp ids (.ptr id o)=if JP hp ids id=true then .ptr (YD ids id) o else .junk:=by
 simp only[Zah,Zl,Zo,Zg,ZbT];split<;>simp[kill,ZE,ZT,ren,J4,ZaA]
@[go_sem] theorem tidy_prow (hp:Hp) (ids:List Nat) (id s i o:Nat):Zah hp ids (.prow id s i o)=if JP hp ids id=true then .prow (YD ids id) s i o else .junk:=by
 simp only[Zah,Zl,Zo,Zg,ZbT];split<;>simp[kill,ZE,ZT,ren,J4,ZaA]
@[go_sem] theorem tidy_own (hp:Hp) (ids:List Nat) (id:Nat):Zah hp ids (.own id)=if JP hp ids id=true then .own (YD ids id) else .junk:=by
 simp only[Zah,Zl,Zo,Zg,ZbT];split<;>simp[kill,ZE,ZT,ren,J4,ZaA]
@[go_sem] theorem tidy_ownv (hp:Hp) (ids:List Nat) (id a b:Nat):Zah hp ids (.ownv id a b)=if JP hp ids id=true then .ownv (YD ids id) a b else .junk:=by
 simp only[Zah,Zl,Zo,Zg,ZbT];split<;>simp[kill,ZE,ZT,ren,J4,ZaA]
@[go_sem] theorem Zt7 (hp:Hp) (x:D):Y2 0 hp (.d x)=(.d x,[]):=by
 simp[Y2,Zl,Zo,Zg,Vc,Zp2,tidy_d,JK]
@[go_sem] theorem minI_eq (a b:Int):minI a b=min a b:=by unfold minI;split<;>omega
@[go_sem] theorem maxI_eq (a b:Int):maxI a b=max a b:=by unfold maxI;split<;>omega
@[go_sem] theorem negIf_f (r:Bool):Zie false r=r:=rfl
@[go_sem] theorem negIf_t (r:Bool):Zie true r=!r:=rfl
@[go_sem] theorem opt1_some (v:AV):Yw (some v)=Qw v:=rfl
@[go_sem] theorem opt1_none:Yw none=none:=rfl
@[go_sem] theorem vbin_int (op:BinOp) (k k' : IntKind) (a b:Int):vbin op (.d (.int k a)) (.d (.int k' b))=Wz op k k' a b:=rfl
@[go_sem] theorem binV_int (op:BinOp) (eq:Bool) (k k' : IntKind) (a b:Int):Zid op eq (.d (.int k a)) (.d (.int k' b))=Yw (Wz op k k' a b):=rfl
@[go_sem] theorem binV_str (op:BinOp) (eq:Bool) (a b:List UInt8):Zid op eq (.d (.str a)) (.d (.str b))=Yw (asD (Zl9 op a b)):=rfl
@[go_sem] theorem int2_add (k:IntKind) (a b:Int):Wz .add k k a b=some (.d (.int k (k.wrap (a+b)))):=by simp[Wz,VK,asD,Zc]
@[go_sem] theorem int2_sub (k:IntKind) (a b:Int):Wz .sub k k a b=some (.d (.int k (k.wrap (a-b)))):=by simp[Wz,VK,asD,Zc]
@[go_sem] theorem int2_mul (k:IntKind) (a b:Int):Wz .mul k k a b=some (.d (.int k (k.wrap (a*b)))):=by simp[Wz,VK,asD,Zc]
@[go_sem] theorem int2_quo (k:IntKind) (a b:Int):Wz .quo k k a b=if b=0 then none else some (.d (.int k (k.wrap (a.tdiv b)))):=by simp only[Wz,VK,asD,if_true];split<;>rfl
@[go_sem] theorem int2_rem (k:IntKind) (a b:Int):Wz .rem k k a b=if b=0 then none else some (.d (.int k (a.tmod b))):=by simp only[Wz,VK,asD,if_true];split<;>rfl
@[go_sem] theorem int2_eql (k:IntKind) (a b:Int):Wz .eql k k a b=some (.d (.bool (decide (a=b)))):=by simp[Wz,VK,asD,Zc,BEq.beq]
@[go_sem] theorem int2_neq (k:IntKind) (a b:Int):Wz .neq k k a b=some (.d (.bool (!decide (a=b)))):=by simp[Wz,VK,asD,Zc,bne,BEq.beq]
@[go_sem] theorem int2_lss (k:IntKind) (a b:Int):Wz .lss k k a b=some (.d (.bool (decide (a<b)))):=by simp[Wz,VK,asD,Zc]
@[go_sem] theorem int2_leq (k:IntKind) (a b:Int):Wz .leq k k a b=some (.d (.bool (decide (a≤b)))):=by simp[Wz,VK,asD,Zc]
@[go_sem] theorem int2_gtr (k:IntKind) (a b:Int):Wz .gtr k k a b=some (.d (.bool (decide (b<a)))):=by simp[Wz,VK,asD,Zc]
@[go_sem] theorem int2_geq (k:IntKind) (a b:Int):Wz .geq k k a b=some (.d (.bool (decide (b≤a)))):=by simp[Wz,VK,asD,Zc]
@[go_sem] theorem guardV_t (b:Bool):ZaV true (.d (.bool b))=some b:=by cases b<;>rfl
def nb (b:Bool):Bool:=!b
@[go_sem] theorem nb_true:nb true=false:=rfl
@[go_sem] theorem nb_false:nb false=true:=rfl
@[go_sem] theorem nb_eq (b:Bool):(nb b=true)=(b=false):=by cases b<;>simp[nb]
@[go_sem] theorem guardV_f (b:Bool):ZaV false (.d (.bool b))=some (nb b):=by cases b<;>rfl
@[go_sem] theorem Zt8 (w:Bool):ZaV w (.tup [])=some false:=rfl
@[go_sem] theorem ZsP (a b:Bool):ZaV true (ZcK a (.d (.bool b)))=some (a&&b):=by cases a<;>cases b<;>rfl
@[go_sem] theorem ZsQ (a b:Bool):ZaV false (ZcK a (.d (.bool b)))=some (a&&nb b):=by cases a<;>cases b<;>rfl
@[go_sem] theorem iteV_true (v:AV):ZcK true v=v:=rfl
@[go_sem] theorem Zt9 (v:AV):ZcK false v=.tup []:=rfl
@[go_sem] theorem Zua (a b:AV):ZbO a b (.d (.bool true))=Qw a:=rfl
@[go_sem] theorem Ztz (a b:AV):ZbO a b (.d (.bool false))=Qw b:=rfl
@[go_sem] theorem pickV_or (b c:Bool):ZbO (.d (.bool true)) (ZcK (nb b) (.d (.bool c))) (.d (.bool b))=Qw (.d (.bool (b || c))):=by cases b<;>rfl
@[go_sem] theorem pickV_and (b c:Bool):ZbO (ZcK b (.d (.bool c))) (.d (.bool false)) (.d (.bool b))=Qw (.d (.bool (b&&c))):=by cases b<;>rfl
theorem Zub (a b:AV) (t:Bool):ZbO a b (.d (.bool t))=if t=true then Qw a else Qw b:=by cases t<;>rfl
@[go_sem] theorem dec_or (p q:Prop) [Decidable p] [Decidable q]:(decide p || decide q)=decide (p∨q):=by simp
@[go_sem] theorem dec_and (p q:Prop) [Decidable p] [Decidable q]:(decide p&&decide q)=decide (p∧q):=by simp
@[go_sem] theorem dec_not (p:Prop) [Decidable p]:(!decide p)=decide (¬p):=by simp
attribute [go_sem] Bool.or_eq_false_iff decide_eq_true_eq decide_eq_false_iff_not Bool.and_eq_true Bool.or_eq_true Bool.not_eq_true' Bool.not_eq_false' not_or Decidable.not_not
@[go_sem] theorem evO_t (sl:Sl) (n:Nat):evO sl (.t n)=gs sl n:=rfl
@[go_sem] theorem evO_v (sl:Sl) (a:AV):evO sl (.v a)=a:=rfl
@[go_sem] theorem evO_f (sl:Sl) (n:Nat):evO sl (.f n)=.clo n []:=rfl
@[go_sem] theorem gs_hit (k:Nat) (v:AV) (r:Sl):gs ((k,v) :: r) k=v:=by simp[gs,lkp,JF]
@[go_sem] theorem gs_cons (k t:Nat) (v:AV) (r:Sl):gs ((k,v) :: r) t=if k=t then v else gs r t:=by
 by_cases h:k=t<;>simp[gs,lkp,h,JF]
@[go_sem] theorem gs_nil (t:Nat):gs [] t=.junk:=rfl
attribute [go_sem] Zay.eq_1 Zay.eq_2
attribute [go_sem] Wb.eq_1 Wb.eq_2 Wb.eq_3 Wb.eq_4
attribute [go_sem] ZdW.eq_1 ZdW.eq_2 ZdW.eq_3 ZdW.eq_4
attribute [go_sem] Ur.eq_1 Ur.eq_2
attribute [go_sem] St.hp.eq_1
attribute [go_sem] Jo.eq_1 Jo.eq_2 Jo.eq_3
attribute [go_sem] JF.eq_1 JF.eq_2
attribute [go_sem] agg2.eq_1 agg2.eq_2 agg2.eq_3
attribute [go_sem] ins.eq_1 ins.eq_2
attribute [go_sem] Zaz.eq_1 Zaz.eq_2
attribute [go_sem] Xa.eq_1 Xa.eq_2 Xa.eq_3
attribute [go_sem] St.m.eq_1
attribute [go_sem] bnd.eq_1 bnd.eq_2
attribute [go_sem] Y8.eq_1 Y8.eq_2 Y8.eq_3
attribute [go_sem] Zl9.eq_1 Zl9.eq_2 Zl9.eq_3 Zl9.eq_4
attribute [go_sem] AV.cells.eq_1 AV.cells.eq_2 AV.cells.eq_3 AV.cells.eq_4 AV.cells.eq_5 AV.cells.eq_6 AV.cells.eq_7 AV.cells.eq_8 AV.cells.eq_9 AV.cells.eq_10 AV.cells.eq_11 AV.cells.eq_12 AV.cells.eq_13 AV.cells.eq_14 AV.cells.eq_15
attribute [go_sem] ZT.eq_1 ZT.eq_2 ZT.eq_3 ZT.eq_4 ZT.eq_5 ZT.eq_6
attribute [go_sem] AV.solid.eq_1 AV.solid.eq_2 AV.solid.eq_3 AV.solid.eq_4
attribute [go_sem] YA.eq_1 YA.eq_2
attribute [go_sem] Qe.eq_1 Qe.eq_2
attribute [go_sem] Yf.eq_1 Yf.eq_2
attribute [go_sem] Wa.eq_1
attribute [go_sem] JH.eq_1 JH.eq_2 JH.eq_3 JH.eq_4 JH.eq_5
attribute [go_sem] YS.eq_1 YS.eq_2
attribute [go_sem] D.flat.eq_1
attribute [go_sem] give.eq_1 give.eq_2
attribute [go_sem] D.beq1.eq_1 D.beq1.eq_2 D.beq1.eq_3 D.beq1.eq_4
attribute [go_sem] ZaA.eq_1 ZaA.eq_2 ZaA.eq_3 ZaA.eq_4 ZaA.eq_5 ZaA.eq_6
attribute [go_sem] not1.eq_1 not1.eq_2
attribute [go_sem] QU.eq_1 QU.eq_2 QU.eq_3 QU.eq_4
attribute [go_sem] St.nx.eq_1
attribute [go_sem] Zo.eq_1 Zo.eq_2 Zo.eq_3
attribute [go_sem] J4.eq_1 J4.eq_2 J4.eq_3
attribute [go_sem] ZdX.eq_1 ZdX.eq_2
attribute [go_sem] vun.eq_1 vun.eq_2 vun.eq_3
attribute [go_sem] toD.eq_1 toD.eq_2
attribute [go_sem] Zg.eq_1 Zg.eq_2 Zg.eq_3 Zg.eq_4 Zg.eq_5 Zg.eq_6 Zg.eq_7 Zg.eq_8 Zg.eq_9 Zg.eq_10 Zg.eq_11 Zg.eq_12 Zg.eq_13 Zg.eq_14 Zg.eq_15
attribute [go_sem] D.plain.eq_1 D.plain.eq_2 D.plain.eq_3 D.plain.eq_4 D.plain.eq_5
attribute [go_sem] Zk.eq_1
attribute [go_sem] ZE.eq_1 ZE.eq_2 ZE.eq_3
attribute [go_sem] VA.eq_1 VA.eq_2
attribute [go_sem] Zl.eq_1 Zl.eq_2
attribute [go_sem] Znt.eq_1
attribute [go_sem] ZeY.eq_1 ZeY.eq_2
attribute [go_sem] Uh.eq_1 Uh.eq_2 Uh.eq_3 Uh.eq_4
attribute [go_sem] St.sl.eq_1
attribute [go_sem] Zpz.eq_1 Zpz.eq_2
attribute [go_sem] Y9.eq_1 Y9.eq_2
attribute [go_sem] JG.eq_1 JG.eq_2
attribute [go_sem] ren.eq_1 ren.eq_2
attribute [go_sem] kill.eq_1 kill.eq_2
attribute [go_sem] lkp.eq_1 lkp.eq_2
attribute [go_sem] ZjF.eq_1 ZjF.eq_2 ZjF.eq_3
attribute [go_sem] Q7.eq_1 Q7.eq_2
attribute [go_sem] beqL.eq_1 beqL.eq_2 beqL.eq_3
attribute [go_sem] D.cells.eq_1 D.cells.eq_2 D.cells.eq_3 D.cells.eq_4 D.cells.eq_5
attribute [go_sem] Zht.eq_1 Zht.eq_2
attribute [go_sem] ZjE.eq_1 ZjE.eq_2
attribute [go_sem] neg1.eq_1 neg1.eq_2
attribute [go_sem] ZeZ.eq_1 ZeZ.eq_2 ZeZ.eq_3
attribute [go_sem] Zhu.eq_1 Zhu.eq_2
attribute [go_sem] Ye.eq_1 Ye.eq_2 Ye.eq_3
attribute [go_sem] asD.eq_1
attribute [go_sem] VK.eq_1 VK.eq_2 VK.eq_3 VK.eq_4 VK.eq_5 VK.eq_6 VK.eq_7 VK.eq_8 VK.eq_9 VK.eq_10 VK.eq_11 VK.eq_12 VK.eq_13 VK.eq_14 VK.eq_15 VK.eq_16 VK.eq_17
attribute [go_sem] ZcJ.eq_1 ZcJ.eq_2 ZcJ.eq_3 ZcJ.eq_4 ZcJ.eq_5
attribute [go_sem] D.one.eq_1 D.one.eq_2 D.one.eq_3 D.one.eq_4 D.one.eq_5
attribute [go_sem] freeze.eq_1 freeze.eq_2
attribute [go_sem] U1.eq_1
attribute [go_sem] loOf.eq_1 loOf.eq_2
attribute [go_sem] Eff.on.eq_1
attribute [go_sem] appT.eq_1
attribute [go_sem] WS.eq_1 WS.eq_2
attribute [go_sem] cloV.eq_1
attribute [go_sem] slice0.eq_1 slice0.eq_2
attribute [go_sem] evM.eq_1 evM.eq_2
attribute [go_sem] Wh.eq_1 Wh.eq_2
attribute [go_sem] hiOf.eq_1 hiOf.eq_2
attribute [go_sem] Zei.eq_1 Zei.eq_2 Zei.eq_3
attribute [go_sem] Zo1.eq_1
attribute [go_sem] idx.eq_1 idx.eq_2
attribute [go_sem] Yv.eq_1 Yv.eq_2 Yv.eq_3 Yv.eq_4 Yv.eq_5
attribute [go_sem] Wt.eq_1 Wt.eq_2 Wt.eq_3
attribute [go_sem] ZV.eq_1 ZV.eq_2
attribute [go_sem] D.notSl.eq_1 D.notSl.eq_2
attribute [go_sem] ZrC.eq_1 ZrC.eq_2
attribute [go_sem] U5.eq_1 U5.eq_2 U5.eq_3 U5.eq_4 U5.eq_5 U5.eq_6
attribute [go_sem] VD.eq_1 VD.eq_2 VD.eq_3
attribute [go_sem] CO.guard.eq_1
attribute [go_sem] Zbb.eq_1
attribute [go_sem] W0.eq_1
attribute [go_sem] U2.eq_1 U2.eq_2 U2.eq_3
attribute [go_sem] Zee.eq_1
attribute [go_sem] Eff.adds.eq_1
attribute [go_sem] Zf4.eq_1 Zf4.eq_2
attribute [go_sem] YD.eq_1 YD.eq_2
attribute [go_sem] Zd.eq_1 Zd.eq_2
attribute [go_sem] Zb.eff.eq_1
attribute [go_sem] ZbL.eq_1 ZbL.eq_2
attribute [go_sem] ZnU.eq_1 ZnU.eq_2
attribute [go_sem] Zfb.eq_1 Zfb.eq_2 Zfb.eq_3
attribute [go_sem] del.eq_1 del.eq_2
attribute [go_sem] Zic.eq_1
attribute [go_sem] Zlk.eq_1 Zlk.eq_2
attribute [go_sem] WD.eq_1 WD.eq_2
attribute [go_sem] Zf6.eq_1 Zf6.eq_2
attribute [go_sem] D.isAgg.eq_1 D.isAgg.eq_2
attribute [go_sem] WE.eq_1 WE.eq_2 WE.eq_3 WE.eq_4 WE.eq_5
attribute [go_sem] ZbP.eq_1
attribute [go_sem] slice3.eq_1
attribute [go_sem] U4.eq_1 U4.eq_2
attribute [go_sem] args.eq_1 args.eq_2
attribute [go_sem] Zf5.eq_1 Zf5.eq_2
attribute [go_sem] ZaL.eq_1
attribute [go_sem] Zef.eq_1 Zef.eq_2
attribute [go_sem] Wk.eq_1
attribute [go_sem] evL.eq_1 evL.eq_2
attribute [go_sem] Zfc.eq_1 Zfc.eq_2 Zfc.eq_3
attribute [go_sem] Wg.eq_1 Wg.eq_2 Wg.eq_3
attribute [go_sem] JK.eq_1 JK.eq_2
attribute [go_sem] Zh9.eq_1 Zh9.eq_2
attribute [go_sem] Eff.sets.eq_1
attribute [go_sem] JL.eq_1 JL.eq_2 JL.eq_3
attribute [go_sem] Zed.eq_1 Zed.eq_2
attribute [go_sem] Zeh.eq_1 Zeh.eq_2
attribute [go_sem] Uc.eq_1 Uc.eq_2 Uc.eq_3
attribute [go_sem] Zqc.eq_1
attribute [go_sem] makeT.eq_1
attribute [go_sem] Vb.eq_1 Vb.eq_2
attribute [go_sem] ZrD.eq_1 ZrD.eq_2
attribute [go_sem] Zia.eq_1 Zia.eq_2
attribute [go_sem] U9.eq_1 U9.eq_2
attribute [go_sem] Zj7.eq_1
attribute [go_sem] U8.eq_1 U8.eq_2
attribute [go_sem] AV.atom.eq_1 AV.atom.eq_2 AV.atom.eq_3 AV.atom.eq_4 AV.atom.eq_5
attribute [go_sem] Eff.dels.eq_1
attribute [go_sem] Jt.eq_1 Jt.eq_2 Jt.eq_3
attribute [go_sem] mat.eq_1 mat.eq_2 mat.eq_3
attribute [go_sem] ZZ.eq_1
attribute [go_sem] U7.eq_1 U7.eq_2
attribute [go_sem] Zln.eq_1
attribute [go_sem] Zqa.eq_1
attribute [go_sem] ZaN.eq_1 ZaN.eq_2
attribute [go_sem] Wi.eq_1
attribute [go_sem] Qh.eq_1 Qh.eq_2 Qh.eq_3 Qh.eq_4
attribute [go_sem] Zqb.eq_1
attribute [go_sem] ZbI.eq_1 ZbI.eq_2
attribute [go_sem] Zfd.eq_1 Zfd.eq_2
attribute [go_sem] ZmO.eq_1 ZmO.eq_2
attribute [go_sem] ZcY.eq_1 ZcY.eq_2 ZcY.eq_3 ZcY.eq_4
attribute [go_sem] Zdu.eq_1 Zdu.eq_2
attribute [go_sem] ZaJ.eq_1 ZaJ.eq_2
attribute [go_sem] ZbK.eq_1 ZbK.eq_2 ZbK.eq_3 ZbK.eq_4 ZbK.eq_5
attribute [go_sem] Zll.eq_1 Zll.eq_2
attribute [go_sem] Zib.eq_1
attribute [go_sem] convS.eq_1 convS.eq_2
attribute [go_sem] Zeg.eq_1 Zeg.eq_2
attribute [go_sem] CO.tl.eq_1
attribute [go_sem] ZbM.eq_1 ZbM.eq_2 ZbM.eq_3 ZbM.eq_4
attribute [go_sem] CO.dst.eq_1
attribute [go_sem] teOf.eq_1
attribute [go_sem] ZnV.eq_1 ZnV.eq_2 ZnV.eq_3
attribute [go_sem] Zlm.eq_1
attribute [go_sem] ZmJ.eq_1 ZmJ.eq_2
attribute [go_sem] ZmK.eq_1
attribute [go_sem] Eff.val.eq_1
attribute [go_sem] sliceS.eq_1 sliceS.eq_2
attribute [go_sem] XU.eq_1 XU.eq_2 XU.eq_3
attribute [go_sem] ZbJ.eq_1 ZbJ.eq_2 ZbJ.eq_3 ZbJ.eq_4
attribute [go_sem] Wf.eq_1
attribute [go_sem] buildSl.eq_1 buildSl.eq_2
attribute [go_sem] Vw.eq_1 Vw.eq_2 Vw.eq_3 Vw.eq_4
attribute [go_sem] Wq.eq_1 Wq.eq_2 Wq.eq_3 Wq.eq_4 Wq.eq_5
attribute [go_sem] Zf3.eq_1 Zf3.eq_2
attribute [go_sem] Zif.eq_1
attribute [go_sem] evP.eq_1 evP.eq_2
attribute [go_sem] Zej.eq_1 Zej.eq_2
attribute [go_sem] Ju.eq_1
attribute [go_sem] Zcq.eq_1
attribute [go_sem] Zj6.eq_1 Zj6.eq_2
attribute [go_sem] Zie.eq_1
attribute [go_sem] YZ.eq_1
attribute [go_sem] ZmN.eq_1
attribute [go_sem] bnT.eq_1 bnT.eq_2
attribute [go_sem] U3.eq_1 U3.eq_2
attribute [go_sem] YY.eq_1 YY.eq_2
attribute [go_sem] Wj.eq_1 Wj.eq_2
attribute [go_sem] asgT.eq_1 asgT.eq_2
attribute [go_sem] Zfe.eq_1 Zfe.eq_2
attribute [go_sem] JM.eq_1 JM.eq_2
attribute [go_sem] ZbN.eq_1 ZbN.eq_2 ZbN.eq_3 ZbN.eq_4
attribute [go_sem] ZmH.eq_1 ZmH.eq_2
attribute [go_sem] CO.op.eq_1
attribute [go_sem] ZaM.eq_1 ZaM.eq_2
attribute [go_sem] ZaI.eq_1 ZaI.eq_2
attribute [go_sem] Zp9.eq_1 Zp9.eq_2
attribute [go_sem] Zcr.eq_1 Zcr.eq_2 Zcr.eq_3
attribute [go_sem] ZmL.eq_1 ZmL.eq_2
attribute [go_sem] Zdv.eq_1 Zdv.eq_2
attribute [go_sem] ZaK.eq_1 ZaK.eq_2
attribute [go_sem] Jl.eq_1 Jl.eq_2 Jl.eq_3 Jl.eq_4 Jl.eq_5 Jl.eq_6 Jl.eq_7 Jl.eq_8 Jl.eq_9 Jl.eq_10
attribute [go_sem] W1.eq_1
attribute [go_sem] Y0.eq_1 Y0.eq_2 Y0.eq_3 Y0.eq_4
attribute [go_sem] Eff.frz.eq_1
attribute [go_sem] buildT.eq_1
attribute [go_sem] Z0.eq_1 Z0.eq_2
attribute [go_sem] Zcp.eq_1 Zcp.eq_2
attribute [go_sem] Zb.gone.eq_1
attribute [go_sem] meltIn.eq_1 meltIn.eq_2
attribute [go_sem] ZcZ.eq_1
attribute [go_sem] ZmI.eq_1 ZmI.eq_2
attribute [go_sem] convI.eq_1 convI.eq_2
attribute [go_sem] ZgM.eq_1 ZgM.eq_2
attribute [go_sem] Jv.eq_1 Jv.eq_2 Jv.eq_3
attribute [go_sem] bd.eq_1
attribute [go_sem] U6.eq_1 U6.eq_2
attribute [go_sem] Xc.eq_1
attribute [go_sem] Zlo.eq_1 Zlo.eq_2
attribute [go_sem] Zcs.eq_1
attribute [go_sem] Xl.eq_1 Xl.eq_2
attribute [go_sem] Zpb.eq_1 Zpb.eq_2
attribute [go_sem] Zr.eq_1 Zr.eq_2 Zr.eq_3 Zr.eq_4 Zr.eq_5 Zr.eq_6 Zr.eq_7 Zr.eq_8 Zr.eq_9 Zr.eq_10 Zr.eq_11 Zr.eq_12 Zr.eq_13 Zr.eq_14 Zr.eq_15 Zr.eq_16 Zr.eq_17 Zr.eq_18 Zr.eq_19 Zr.eq_20 Zr.eq_21 Zr.eq_22 Zr.eq_23 Zr.eq_24 Zr.eq_25 Zr.eq_26 Zr.eq_27 Zr.eq_28 Zr.eq_29 Zr.eq_30 Zr.eq_31 Zr.eq_32 Zr.eq_33 Zr.eq_34 Zr.eq_35 Zr.eq_36 Zr.eq_37 Zr.eq_38 Zr.eq_39 Zr.eq_40
attribute [go_sem] VM.eq_1 VM.eq_2 VM.eq_3 VM.eq_4 VM.eq_5
attribute [go_sem] ZbU.eq_1
attribute [go_sem] ZlA.eq_1 ZlA.eq_2
attribute [go_sem] Jg.eq_1 Jg.eq_2
attribute [go_sem] Za0.eq_1
attribute [go_sem] JO.eq_1 JO.eq_2 JO.eq_3 JO.eq_4 JO.eq_5
attribute [go_sem] VE.eq_1 VE.eq_2
attribute [go_sem] Zgb.eq_1 Zgb.eq_2
attribute [go_sem] Zqk.eq_1 Zqk.eq_2
attribute [go_sem] Zke.eq_1 Zke.eq_2
attribute [go_sem] QL.eq_1 QL.eq_2
attribute [go_sem] only.eq_1 only.eq_2
attribute [go_sem] Zn9.eq_1 Zn9.eq_2
attribute [go_sem] ZbR.eq_1 ZbR.eq_2
attribute [go_sem] YH.eq_1 YH.eq_2
attribute [go_sem] okL.eq_1 okL.eq_2
attribute [go_sem] okC.eq_1 okC.eq_2 okC.eq_3 okC.eq_4 okC.eq_5 okC.eq_6 okC.eq_7 okC.eq_8 okC.eq_9 okC.eq_10
attribute [go_sem] ZgP.eq_1 ZgP.eq_2
attribute [go_sem] Uf.eq_1 Uf.eq_2
attribute [go_sem] ZaW.eq_1 ZaW.eq_2 ZaW.eq_3
attribute [go_sem] Zcx.eq_1 Zcx.eq_2
attribute [go_sem] ZbT.eq_1 ZbT.eq_2
attribute [go_sem] Qy.eq_1 Qy.eq_2
attribute [go_sem] Zi.eq_1 Zi.eq_2
attribute [go_sem] Yn.eq_1 Yn.eq_2 Yn.eq_3
attribute [go_sem] Zet.eq_1
attribute [go_sem] YJ.eq_1 YJ.eq_2
attribute [go_sem] ZlB.eq_1 ZlB.eq_2
attribute [go_sem] CO.starts.eq_1
attribute [go_sem] YG.eq_1 YG.eq_2
attribute [go_sem] QD.eq_1 QD.eq_2
attribute [go_sem] Zpa.eq_1 Zpa.eq_2
attribute [go_sem] Zfr.eq_1
attribute [go_sem] Ziz.eq_1 Ziz.eq_2 Ziz.eq_3
attribute [go_sem] ZaY.eq_1 ZaY.eq_2
attribute [go_sem] Vc.eq_1 Vc.eq_2
attribute [go_sem] JP.eq_1
attribute [go_sem] ZiA.eq_1 ZiA.eq_2
attribute [go_sem] Zo9.eq_1
attribute [go_sem] Qa.body.eq_1
attribute [go_sem] Zeu.eq_1
attribute [go_sem] ZdD.eq_1 ZdD.eq_2
attribute [go_sem] Wn.eq_1 Wn.eq_2 Wn.eq_3 Wn.eq_4 Wn.eq_5
attribute [go_sem] Qa.res.eq_1
attribute [go_sem] X5.eq_1 X5.eq_2
attribute [go_sem] XR.eq_1 XR.eq_2 XR.eq_3 XR.eq_4 XR.eq_5 XR.eq_6 XR.eq_7 XR.eq_8 XR.eq_9 XR.eq_10 XR.eq_11 XR.eq_12
attribute [go_sem] ZiB.eq_1 ZiB.eq_2
attribute [go_sem] Ym.eq_1 Ym.eq_2
attribute [go_sem] Qa.nt.eq_1
attribute [go_sem] okD.eq_1 okD.eq_2
attribute [go_sem] Zlo.eq_1 Wq.eq_1 Wq.eq_2 Wq.eq_3 Wq.eq_4
attribute [go_sem] VY.eq_1 Jd.eq_1 Jd.eq_2 Jd.eq_3 Jd.eq_4 Jd.eq_5 Jd.eq_6 Jd.eq_7 Jd.eq_8 Jd.eq_9 Jd.eq_10 Y2.eq_1
attribute [go_sem] QF.eq_3 Xe.eq_1 AV.atom.eq_1 AV.atom.eq_2 AV.atom.eq_3 AV.atom.eq_4
attribute [go_sem] Zjr.eq_1 Zjr.eq_2 ZcW.eq_1 ZcW.eq_2
attribute [go_sem] Zc Zra Zsr
attribute [go_sem] List.map_cons List.map_nil List.flatMap_cons List.flatMap_nil List.append_nil List.nil_append List.cons_append List.length_cons List.length_nil List.all_cons List.all_nil List.any_cons List.any_nil List.contains_cons List.contains_nil List.filter_cons List.filter_nil List.drop_zero List.drop_succ_cons List.drop_nil List.take_zero List.take_succ_cons List.take_nil List.getElem?_cons_zero List.getElem?_cons_succ List.getElem?_nil Option.map_some Option.map_none Bool.and_true Bool.true_and Bool.and_false Bool.false_and Bool.or_true Bool.true_or Bool.or_false Bool.false_or Bool.not_true Bool.not_false decide_true decide_false and_true true_and and_false false_and not_true not_false_eq_true or_true true_or or_false false_or if_true if_false true_implies false_implies implies_true imp_self eq_self ne_eq beq_self_eq_true Bool.true_eq_false Bool.false_eq_true List.isEmpty_nil List.isEmpty_cons List.range_zero List.set_cons_zero List.set_cons_succ Option.some.injEq reduceCtorEq Nat.reduceLeDiff
def Zh5 (hp:Hp):List Nat→List Nat
 | []=>[]
 | i :: r=>if ZbM (lkp hp i)=true then i :: Zh5 hp r else Zh5 hp r
theorem gE (hp:Hp) (ids:List Nat):(ids.filter fun i=>ZbM (lkp hp i))=Zh5 hp ids:=by
 induction ids with
 | nil=>rfl
 | cons i r ih=>simp only[List.filter_cons,Zh5,ih]
def ZjZ (hp:Hp) (rs:List Nat):List Nat→Bool
 | []=>true
 | i :: r=>(ZbM (lkp hp i) || rs.contains i)&&ZjZ hp rs r
def Zj0 (hp:Hp):List Nat→Bool
 | []=>false
 | i :: r=>U8 (lkp hp i) || Zj0 hp r
theorem gG (hp:Hp) (ids:List Nat):(ids.any fun i=>U8 (lkp hp i))=Zj0 hp ids:=by
 induction ids with
 | nil=>rfl
 | cons i r ih=>simp only[List.any_cons,Zj0,ih]
attribute [go_sem] Zj0.eq_1 Zj0.eq_2
@[go_sem] theorem appV_eq (hp:Hp) (s b:Nat) (str flat:Bool) (base:Nat) (x y:AV):ZmM hp s b str flat base x y=Zbb (Vb hp s b str flat base x y (Yh hp x++Yh hp y)):=rfl
@[go_sem] theorem treeId_d (hp:Hp) (x:D):Yh hp (.d x)=[]:=rfl
@[go_sem] theorem Zuc (hp:Hp):Yh hp .nil=[]:=rfl
@[go_sem] theorem ZtA (hp:Hp) (k o n:Nat):Yh hp (.ownv k o n)=[]:=rfl
@[go_sem] theorem Zud (hp:Hp) (k:Nat):Yh hp (.own k)=if U8 (lkp hp k)=true then [k] else []:=rfl
@[go_sem] theorem noKeep_0 (M:Zh) (f:Nat):XV M f 0=M f 0:=rfl
@[go_sem] theorem noKeep_1 (M:Zh) (f:Nat):XV M f 1=M f 1:=rfl
@[go_sem] theorem noKeep_2 (M:Zh) (f:Nat):XV M f 2=M f 2:=rfl
@[go_sem] theorem noKeep_3 (M:Zh) (f:Nat):XV M f 3=M f 3:=rfl
@[go_sem] theorem noKeep_4 (M:Zh) (f:Nat):XV M f 4=M f 4:=rfl
@[go_sem] theorem noKeep_5 (M:Zh) (f:Nat):XV M f 5=M f 5:=rfl
@[go_sem] theorem noKeep_6 (M:Zh) (f:Nat):XV M f 6=M f 6:=rfl
@[go_sem] theorem noKeep_99 (M:Zh) (f:Nat):XV M f 99=false:=rfl
theorem gF (hp:Hp) (rs ids:List Nat):Uy hp rs ids=ZjZ hp rs ids:=by
 induction ids with
 | nil=>rfl
 | cons i r ih=>simp only[Uy,Le,ZjZ] at ih ⊢;rw[ih]
attribute [go_sem] Zh5.eq_1 Zh5.eq_2 ZjZ.eq_1 ZjZ.eq_2
@[go_sem] theorem okV_d (x:D):okV (.d x)=true:=rfl
@[go_sem] theorem okV_nil:okV .nil=true:=rfl
@[go_sem] theorem okV_nilp:okV .nilp=true:=rfl
@[go_sem] theorem okV_nili:okV .nili=true:=rfl
@[go_sem] theorem okV_ptr (a b:Nat):okV (.ptr a b)=true:=rfl
@[go_sem] theorem okV_prow (a b c e:Nat):okV (.prow a b c e)=true:=rfl
@[go_sem] theorem okV_pim (cs:List D):okV (.pim cs)=true:=rfl
@[go_sem] theorem okV_own (a:Nat):okV (.own a)=true:=rfl
@[go_sem] theorem okV_ownv (a b c:Nat):okV (.ownv a b c)=true:=rfl
@[go_sem] theorem okV_agg (cs:List AV):okV (.agg cs)=ZlA cs:=rfl
@[go_sem] theorem okV_tup0:okV (.tup [])=true:=rfl
@[go_sem] theorem Zue (sl:Sl) (a:COp) (x y:Nat) (v:AV):Yx sl a (.ptr x y) v=true:=rfl
@[go_sem] theorem seenIn_d (sl:Sl) (a:COp) (x y z t:Nat) (v:D):Yx sl a (.prow x y z t) (.d v)=true:=rfl
@[go_sem] theorem Zuf (sl:Sl) (a:COp) (x y z t:Nat) (v:List AV):Yx sl a (.prow x y z t) (.agg v)=(okV (.agg v)&&Xl sl (Zr a) (Zl (.agg v))):=rfl
@[go_sem] theorem Zug (sl:Sl) (a:COp) (x y z t:Nat) (k:Nat):Yx sl a (.prow x y z t) (.own k)=(okV (.own k)&&Xl sl (Zr a) (Zl (.own k))):=rfl
@[go_sem] theorem Zuh (sl:Sl) (a:COp) (x y z t:Nat):Yx sl a (.prow x y z t) .nil=(okV .nil&&Xl sl (Zr a) (Zl .nil)):=rfl
@[go_sem] theorem ZtB (sl:Sl) (a:COp) (x y z t:Nat):Yx sl a (.prow x y z t) .nilp=(okV .nilp&&Xl sl (Zr a) (Zl .nilp)):=rfl
@[go_sem] theorem ZtC (sl:Sl) (a:COp) (x y z t:Nat) (k m n:Nat):Yx sl a (.prow x y z t) (.ownv k m n)=(okV (.ownv k m n)&&Xl sl (Zr a) (Zl (.ownv k m n))):=rfl
@[go_sem] theorem ZtD (sl:Sl) (a:COp) (k:Nat):seenSrc sl a (.own k)=Qy sl k (Zr a):=rfl
@[go_sem] theorem seenSrc_d (sl:Sl) (a:COp) (x:D):seenSrc sl a (.d x)=true:=rfl
@[go_sem] theorem ZtE (sl:Sl) (a:COp):seenSrc sl a .nil=true:=rfl
@[go_sem] theorem ZsR (sl:Sl) (a:COp) (x y z:Nat):seenSrc sl a (.ownv x y z)=true:=rfl
@[go_sem] theorem okV_iteV (b:Bool) (v:AV):okV (ZcK b v)=(!b || okV v):=by cases b<;>simp[ZcK,okV]
@[go_sem] theorem awayV_d (sl:Sl) (xs:List Opd) (x:D):Je sl xs (.d x)=true:=rfl
@[go_sem] theorem awayV_nil (sl:Sl) (xs:List Opd):Je sl xs .nil=true:=rfl
@[go_sem] theorem Zui (sl:Sl) (xs:List Opd):Je sl xs .nilp=true:=rfl
@[go_sem] theorem awayV_ptr (sl:Sl) (xs:List Opd) (k o:Nat):Je sl xs (.ptr k o)=Qy sl k xs:=rfl
@[go_sem] theorem awayV_pim (sl:Sl) (xs:List Opd) (cs:List D):Je sl xs (.pim cs)=true:=rfl
@[go_sem] theorem awayV_own (sl:Sl) (xs:List Opd) (a:Nat):Je sl xs (.own a)=true:=rfl
@[go_sem] theorem Zuj (sl:Sl) (xs:List Opd) (a b c:Nat):Je sl xs (.ownv a b c)=true:=rfl
@[go_sem] theorem awayV_agg (sl:Sl) (xs:List Opd) (cs:List AV):Je sl xs (.agg cs)=true:=rfl
@[go_sem] theorem awayV_tup (sl:Sl) (xs:List Opd) (cs:List AV):Je sl xs (.tup cs)=true:=rfl
end Go.Abs.E
