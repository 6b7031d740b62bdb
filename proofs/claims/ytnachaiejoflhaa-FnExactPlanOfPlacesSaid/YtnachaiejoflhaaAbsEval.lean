/- Own text. -/
import Derived.Test.YtnachaiejoflhaaAbsRun
set_option linter.unusedVariables false
set_option linter.unusedSimpArgs false
namespace Go.Abs.E
open Go Go.Abs
abbrev _root_.Go.Abs.Opd.i (n:Int):Opd:=.v (.d (.int .i64 n))
abbrev _root_.Go.Abs.Opd.b (x:Bool):Opd:=.v (.d (.bool x))
def stW {α:Type} (x:Option α) (K:α→Prop):Prop:=match x with
 | some a=>K a
 | none=>False
def gW (x:Option Bool) (A B:Prop):Prop:=match x with
 | some b=>(b=true→A)∧(b=false→B)
 | none=>False
def YA (v:AV) (A B:Prop):Prop:=match v with
 | .d (.bool t)=>(t=true→A)∧(t=false→B)
 | _=>False
theorem Yb {α:Type} (a:α) (K:α→Prop):stW (some a) K=K a:=rfl
theorem ZcM {α:Type} (K:α→Prop):stW none K=False:=rfl
theorem WB {α β:Type} (x:Option α) (f:α→Option β) (K:β→Prop):stW (bnd x f) K=stW x fun a=>stW (f a) K:=by cases x<;>rfl
@[go_sem] theorem Znb (A B:Prop):gW (some true) A B=A:=by simp[gW]
@[go_sem] theorem gW_false (A B:Prop):gW (some false) A B=B:=by simp[gW]
@[go_sem] theorem gW_dec (p:Prop) [Decidable p] (A B:Prop):gW (some (decide p)) A B=((p→A)∧(¬p→B)):=by simp[gW]
@[go_sem] theorem gW_not (b:Bool) (A B:Prop):gW (some (!b)) A B=gW (some b) B A:=by cases b<;>simp[gW]
theorem gW_some (b:Bool) (A B:Prop):gW (some b) A B=((b=true→A)∧(b=false→B)):=rfl
@[go_sem] theorem ZrI (A B:Prop):YA (.d (.bool true)) A B=A:=by simp[YA]
@[go_sem] theorem Zre (A B:Prop):YA (.d (.bool false)) A B=B:=by simp[YA]
@[go_sem] theorem condW_dec (p:Prop) [Decidable p] (A B:Prop):YA (.d (.bool (decide p))) A B=((p→A)∧(¬p→B)):=by simp[YA]
@[go_sem] theorem condW_not (b:Bool) (A B:Prop):YA (.d (.bool (!b))) A B=YA (.d (.bool b)) B A:=by cases b<;>simp[YA]
@[go_sem] theorem condW_and (a b:Bool) (A B:Prop):YA (.d (.bool (a&&b))) A B=YA (.d (.bool a)) (YA (.d (.bool b)) A B) B:=by cases a<;>cases b<;>simp[YA]
@[go_sem] theorem condW_or (a b:Bool) (A B:Prop):YA (.d (.bool (a || b))) A B=YA (.d (.bool a)) A (YA (.d (.bool b)) A B):=by cases a<;>cases b<;>simp[YA]
@[go_sem] theorem ZrJ (b:Bool) (A B:Prop):YA (.d (.bool b)) A B=((b=true→A)∧(b=false→B)):=rfl
@[congr] theorem gW_congr {x y:Option Bool} {A B:Prop} (h:x=y):gW x A B=gW y A B:=by rw[h]
@[congr] theorem Zrf {v w:AV} {A B:Prop} (h:v=w):YA v A B=YA w A B:=by rw[h]
section
variable (X:Fns) (M:Zf)
noncomputable def UL (nx:Nat):Nat→List CO→Sl→Hp→(Sl→Hp→Prop)→Prop
 | _,[],sl,hp,K=>K sl hp
 | i,o :: rest,sl,hp,K=>gW (ZD sl o.guard)
   (stW (Xd (nx+64*i) o.dst sl hp (vop (Zi X M) M sl hp (nx+64*i) o.op)) fun r=>UL nx (i+1) rest r.1 r.2 K)
   (UL nx (i+1) rest (Zh sl o.dst (.tup [])) hp K)
def Wx (nx i:Nat) (d:Option Nat) (rest:List CO) (sl:Sl) (hp:Hp) (K:Sl→Hp→Prop) (e:Option Zb):Prop:=
 stW (Xd (nx+64*i) d sl hp e) fun r=>UL X M nx (i+1) rest r.1 r.2 K
@[go_sem] theorem opsW_nil (nx i:Nat) (sl:Sl) (hp:Hp) (K:Sl→Hp→Prop):UL X M nx i [] sl hp K=K sl hp:=rfl
@[go_sem] theorem opsW_cons (nx i:Nat) (d:Option Nat) (tl:Bool) (op:COp) (aa:List CO) (sl:Sl) (hp:Hp) (K:Sl→Hp→Prop) :
  UL X M nx i (⟨d,none,op,tl⟩ :: aa) sl hp K=Wx X M nx i d aa sl hp K (vop (Zi X M) M sl hp (nx+64*i) op):=by
 simp[UL,Wx,ZD,Znb]
def Zby (b:Bool) (v:AV):AV:=if b then v else .tup []
def Vi (b:Bool) (nx i:Nat) (d:Option Nat) (rest:List CO) (sl:Sl) (hp:Hp) (K:Sl→Hp→Prop) (e:Option Zb):Prop:=
 gW (some b) (Wx X M nx i d rest sl hp K e) (UL X M nx (i+1) rest (Zh sl d (.tup [])) hp K)
def Zjo (g:Option Bool) (nx i:Nat) (d:Option Nat) (op:COp) (rest:List CO) (sl:Sl) (hp:Hp) (K:Sl→Hp→Prop):Prop:=
 gW g (Wx X M nx i d rest sl hp K (vop (Zi X M) M sl hp (nx+64*i) op)) (UL X M nx (i+1) rest (Zh sl d (.tup [])) hp K)
@[go_sem] theorem ZrK (nx i g:Nat) (w:Bool) (d:Option Nat) (tl:Bool) (op:COp) (aa:List CO) (sl:Sl) (hp:Hp) (K:Sl→Hp→Prop) :
  UL X M nx i (⟨d,some (g,w),op,tl⟩ :: aa) sl hp K=Zjo X M (JO w (gs sl g)) nx i d op aa sl hp K:=rfl
@[go_sem] theorem Zrg (b:Bool) (nx i:Nat) (d:Option Nat) (op:COp) (aa:List CO) (sl:Sl) (hp:Hp) (K:Sl→Hp→Prop) :
  Zjo X M (some b) nx i d op aa sl hp K=Vi X M b nx i d aa sl hp K (vop (Zi X M) M sl hp (nx+64*i) op):=rfl
@[go_sem] theorem gA (nx i:Nat) (d:Option Nat) (aa:List CO) (sl:Sl) (hp:Hp) (K:Sl→Hp→Prop) (e:Option Zb) :
  Vi X M true nx i d aa sl hp K e=Wx X M nx i d aa sl hp K e:=by simp[Vi,gW]
@[go_sem] theorem gB (nx i:Nat) (d:Option Nat) (aa:List CO) (sl:Sl) (hp:Hp) (K:Sl→Hp→Prop) (e:Option Zb) :
  Vi X M false nx i d aa sl hp K e=UL X M nx (i+1) aa (Zh sl d (.tup [])) hp K:=by simp[Vi,gW]
@[go_sem] theorem Zjp (b:Bool) (nx i:Nat) (d:Option Nat) (aa:List CO) (sl:Sl) (hp:Hp) (K:Sl→Hp→Prop) (v:AV) :
  Vi X M b nx i d aa sl hp K (Qf v)=UL X M nx (i+1) aa (Zh sl d (Zby b v)) hp K:=by
 cases b
 ·simp[Vi,gW,Zby]
 ·simp only[Vi,gW,Zby,Kh,true_implies,Bool.true_eq_false,false_implies,and_true];rfl
@[go_sem] theorem Zrh (b:Bool) (nx i:Nat) (d:Option Nat) (aa:List CO) (sl:Sl) (hp:Hp) (K:Sl→Hp→Prop) (v:AV) :
  Vi X M b nx i d aa sl hp K (some { eff := { val:=v,adds:=[],sets:=[],dels:=[],frz:=[] },gone:=[] })=UL X M nx (i+1) aa (Zh sl d (Zby b v)) hp K:=Zjp X M b nx i d aa sl hp K v
@[congr] theorem ZqB {g g' : Option Bool} {nx i:Nat} {d:Option Nat} {op:COp} {aa:List CO} {sl:Sl} {hp:Hp} {K:Sl→Hp→Prop} (h:g=g') :
  Zjo X M g nx i d op aa sl hp K=Zjo X M g' nx i d op aa sl hp K:=by rw[h]
@[congr] theorem ZqC {b b' : Bool} {nx i:Nat} {d:Option Nat} {aa:List CO} {sl:Sl} {hp:Hp} {K:Sl→Hp→Prop} {e e' : Option Zb} (hb:b=b') (h:b'=true→e=e') :
  Vi X M b nx i d aa sl hp K e=Vi X M b' nx i d aa sl hp K e':=by
 subst hb;cases b
 ·simp[Vi,gW]
 ·rw[h rfl]
@[go_sem] theorem Zri (nx i:Nat) (d:Option Nat) (aa:List CO) (sl:Sl) (hp:Hp) (K:Sl→Hp→Prop) (v:AV) :
  Wx X M nx i d aa sl hp K (Qf v)=UL X M nx (i+1) aa (Zh sl d v) hp K:=rfl
@[go_sem] theorem ZrL (nx i:Nat) (d:Option Nat) (aa:List CO) (sl:Sl) (hp:Hp) (K:Sl→Hp→Prop) (v:AV) :
  Wx X M nx i d aa sl hp K (some { eff := { val:=v,adds:=[],sets:=[],dels:=[],frz:=[] },gone:=[] })=UL X M nx (i+1) aa (Zh sl d v) hp K:=rfl
@[go_sem] theorem ZrM (nx i:Nat) (d:Option Nat) (aa:List CO) (sl:Sl) (hp:Hp) (K:Sl→Hp→Prop) (e:Zb) :
  Wx X M nx i d aa sl hp K (some e)=(Qn (nx+64*i) (nx+64*i+64) e.eff.adds=true∧UL X M nx (i+1) aa (Zh (Qv e.gone sl) d e.eff.val) (e.eff.on (X2 e.gone hp)) K):=by
 unfold Wx Xd;rw[Zc];split<;>rename_i h
 ·simp only[Yb,h,true_and];rfl
 ·simp only[ZcM,h,false_and,Ka]
@[go_sem] theorem ZrN (nx i:Nat) (d:Option Nat) (aa:List CO) (sl:Sl) (hp:Hp) (K:Sl→Hp→Prop):Wx X M nx i d aa sl hp K none=False:=rfl
@[go_sem] theorem stepW_ite (nx i:Nat) (d:Option Nat) (aa:List CO) (sl:Sl) (hp:Hp) (K:Sl→Hp→Prop) (c:Prop) [Decidable c] (a b:Option Zb) :
  Wx X M nx i d aa sl hp K (if c then a else b)=((c→Wx X M nx i d aa sl hp K a)∧(¬c→Wx X M nx i d aa sl hp K b)):=by
 by_cases h:c<;>simp[h]
noncomputable def XG (nx:Nat):Nat→Bool→List CO→Sl→Hp→(Sl→Hp→Prop)→Prop
 | _,_,[],sl,hp,K=>K sl hp
 | i,tail,o :: rest,sl,hp,K=>gW (ZD sl o.guard)
   (stW (Xd (nx+64*i) o.dst sl hp (X4 (Zi X M) (Xj M) nx i (CO.starts o) o.op sl hp)) fun r=>XG nx (i+1) tail rest r.1 r.2 K)
   (XG nx (i+1) tail rest (Zh sl o.dst (.tup [])) hp K)
def YC (nx i:Nat) (t:Bool) (d:Option Nat) (rest:List CO) (sl:Sl) (hp:Hp) (K:Sl→Hp→Prop) (e:Option Zb):Prop:=
 stW (Xd (nx+64*i) d sl hp (if t then e else Uc e)) fun r=>XG X M nx (i+1) false rest r.1 r.2 K
@[go_sem] theorem opsDW_nil (nx i:Nat) (t:Bool) (sl:Sl) (hp:Hp) (K:Sl→Hp→Prop):XG X M nx i t [] sl hp K=K sl hp:=rfl
@[go_sem] theorem ZrO (nx i:Nat) (d:Option Nat) (tl:Bool) (op:COp) (aa:List CO) (sl:Sl) (hp:Hp) (K:Sl→Hp→Prop) :
  XG X M nx i false (⟨d,none,op,tl⟩ :: aa) sl hp K=YC X M nx i (Zbn op || tl) d aa sl hp K (vop (Zi X M) (Xj M) sl hp (nx+64*i) op):=by
 simp[XG,YC,ZD,Znb,X4,CO.starts]
def XX (b:Bool) (nx i:Nat) (t:Bool) (d:Option Nat) (rest:List CO) (sl:Sl) (hp:Hp) (K:Sl→Hp→Prop) (e:Option Zb):Prop:=
 gW (some b) (YC X M nx i t d rest sl hp K e) (XG X M nx (i+1) false rest (Zh sl d (.tup [])) hp K)
def Zfc (g:Option Bool) (nx i:Nat) (t:Bool) (d:Option Nat) (op:COp) (rest:List CO) (sl:Sl) (hp:Hp) (K:Sl→Hp→Prop):Prop:=
 gW g (YC X M nx i t d rest sl hp K (vop (Zi X M) (Xj M) sl hp (nx+64*i) op)) (XG X M nx (i+1) false rest (Zh sl d (.tup [])) hp K)
@[go_sem] theorem Zrj (nx i g:Nat) (w:Bool) (d:Option Nat) (tl:Bool) (op:COp) (aa:List CO) (sl:Sl) (hp:Hp) (K:Sl→Hp→Prop) :
  XG X M nx i false (⟨d,some (g,w),op,tl⟩ :: aa) sl hp K=Zfc X M (JO w (gs sl g)) nx i (Zbn op || tl) d op aa sl hp K:=rfl
@[go_sem] theorem ZqD (b:Bool) (nx i:Nat) (t:Bool) (d:Option Nat) (op:COp) (aa:List CO) (sl:Sl) (hp:Hp) (K:Sl→Hp→Prop) :
  Zfc X M (some b) nx i t d op aa sl hp K=XX X M b nx i t d aa sl hp K (vop (Zi X M) (Xj M) sl hp (nx+64*i) op):=rfl
@[go_sem] theorem gC (nx i:Nat) (t:Bool) (d:Option Nat) (aa:List CO) (sl:Sl) (hp:Hp) (K:Sl→Hp→Prop) (e:Option Zb) :
  XX X M true nx i t d aa sl hp K e=YC X M nx i t d aa sl hp K e:=by simp[XX,gW]
@[go_sem] theorem gD (nx i:Nat) (t:Bool) (d:Option Nat) (aa:List CO) (sl:Sl) (hp:Hp) (K:Sl→Hp→Prop) (e:Option Zb) :
  XX X M false nx i t d aa sl hp K e=XG X M nx (i+1) false aa (Zh sl d (.tup [])) hp K:=by simp[XX,gW]
@[go_sem] theorem Zht (b:Bool) (nx i:Nat) (t:Bool) (d:Option Nat) (aa:List CO) (sl:Sl) (hp:Hp) (K:Sl→Hp→Prop) (v:AV) :
  XX X M b nx i t d aa sl hp K (Qf v)=XG X M nx (i+1) false aa (Zh sl d (Zby b v)) hp K:=by
 cases b
 ·simp[XX,gW,Zby]
 ·simp only[XX,gW,Zby,Kh,true_implies,Bool.true_eq_false,false_implies,and_true];cases t<;>rfl
@[go_sem] theorem ZqE (b:Bool) (nx i:Nat) (t:Bool) (d:Option Nat) (aa:List CO) (sl:Sl) (hp:Hp) (K:Sl→Hp→Prop) (v:AV) :
  XX X M b nx i t d aa sl hp K (some { eff := { val:=v,adds:=[],sets:=[],dels:=[],frz:=[] },gone:=[] })=XG X M nx (i+1) false aa (Zh sl d (Zby b v)) hp K:=Zht X M b nx i t d aa sl hp K v
@[congr] theorem Zp9 {g g' : Option Bool} {nx i:Nat} {t t' : Bool} {d:Option Nat} {op:COp} {aa:List CO} {sl:Sl} {hp:Hp} {K:Sl→Hp→Prop} (h:g=g') (ht:t=t') :
  Zfc X M g nx i t d op aa sl hp K=Zfc X M g' nx i t' d op aa sl hp K:=by rw[h,ht]
@[congr] theorem Zqa {b b' : Bool} {nx i:Nat} {t:Bool} {d:Option Nat} {aa:List CO} {sl:Sl} {hp:Hp} {K:Sl→Hp→Prop} {e e' : Option Zb} (hb:b=b') (h:b'=true→e=e') :
  XX X M b nx i t d aa sl hp K e=XX X M b' nx i t d aa sl hp K e':=by
 subst hb;cases b
 ·simp[XX,gW]
 ·rw[h rfl]
@[go_sem] theorem ZqF (nx i:Nat) (t:Bool) (d:Option Nat) (aa:List CO) (sl:Sl) (hp:Hp) (K:Sl→Hp→Prop) (v:AV) :
  YC X M nx i t d aa sl hp K (Qf v)=XG X M nx (i+1) false aa (Zh sl d v) hp K:=by cases t<;>rfl
@[go_sem] theorem Zrk (nx i:Nat) (t:Bool) (d:Option Nat) (aa:List CO) (sl:Sl) (hp:Hp) (K:Sl→Hp→Prop) (v:AV) :
  YC X M nx i t d aa sl hp K (some { eff := { val:=v,adds:=[],sets:=[],dels:=[],frz:=[] },gone:=[] })=XG X M nx (i+1) false aa (Zh sl d v) hp K:=by cases t<;>rfl
@[go_sem] theorem Zrl (nx i:Nat) (t:Bool) (d:Option Nat) (aa:List CO) (sl:Sl) (hp:Hp) (K:Sl→Hp→Prop) (e:Zb) :
  YC X M nx i t d aa sl hp K (some e)=((t=false→JS e e.gone e.eff.sets e.eff.dels e.eff.frz=some e)∧Qn (nx+64*i) (nx+64*i+64) e.eff.adds=true∧XG X M nx (i+1) false aa (Zh (Qv e.gone sl) d e.eff.val) (e.eff.on (X2 e.gone hp)) K):=by
 have ab:stW (Xd (nx+64*i) d sl hp (some e)) (fun r=>XG X M nx (i+1) false aa r.1 r.2 K)=(Qn (nx+64*i) (nx+64*i+64) e.eff.adds=true∧XG X M nx (i+1) false aa (Zh (Qv e.gone sl) d e.eff.val) (e.eff.on (X2 e.gone hp)) K):=by
  unfold Xd;rw[Zc];split<;>rename_i h
  ·simp only[Yb,h,true_and];rfl
  ·simp only[ZcM,h,false_and,Ka]
 unfold YC;cases t with
 | true=>simp only[Kh];rw[ab];simp
 | false=>
  simp only[Ka,Kg,Uc,Zc,true_implies];unfold JS;split
  ·rw[ab];simp
  ·simp[Xd,bnd,stW]
@[go_sem] theorem Zrm (nx i:Nat) (t:Bool) (d:Option Nat) (aa:List CO) (sl:Sl) (hp:Hp) (K:Sl→Hp→Prop):YC X M nx i t d aa sl hp K none=False:=by cases t<;>rfl
@[go_sem] theorem ZrP (nx i:Nat) (t:Bool) (d:Option Nat) (aa:List CO) (sl:Sl) (hp:Hp) (K:Sl→Hp→Prop) (c:Prop) [Decidable c] (a b:Option Zb) :
  YC X M nx i t d aa sl hp K (if c then a else b)=((c→YC X M nx i t d aa sl hp K a)∧(¬c→YC X M nx i t d aa sl hp K b)):=by
 by_cases h:c<;>simp[h]
@[go_sem] theorem quietC_ok (c:Zb):JS c [] [] [] []=some c:=rfl
def W (c:Zy) (st:St) (Q:Ex→St→Prop):Prop:=stW (Qd X M c st) fun r=>Q r.1 r.2
@[congr] theorem W_congr {c:Zy} {st aa : St} {Q:Ex→St→Prop} (h:st=aa):W X M c st Q=W X M c aa Q:=by rw[h]
@[congr] theorem ZrQ {aa:List CO} {nx ab i i' : Nat} {sl sl' : Sl} {hp hp' : Hp} {K:Sl→Hp→Prop} (hn:nx=ab) (hi:i=i') (h:sl=sl') (h' : hp=hp') :
  UL X M nx i aa sl hp K=UL X M ab i' aa sl' hp' K:=by rw[h,h',hn,hi]
@[congr] theorem Zrn {aa:List CO} {nx ab i i' : Nat} {t t' : Bool} {sl sl' : Sl} {hp hp' : Hp} {K:Sl→Hp→Prop} (hn:nx=ab) (hi:i=i') (ht:t=t') (h:sl=sl') (h' : hp=hp') :
  XG X M nx i t aa sl hp K=XG X M ab i' t' aa sl' hp' K:=by rw[h,h',ht,hn,hi]
@[congr] theorem Zro {aa:List CO} {nx i:Nat} {d:Option Nat} {sl:Sl} {hp:Hp} {K:Sl→Hp→Prop} {e e' : Option Zb} (h:e=e') :
  Wx X M nx i d aa sl hp K e=Wx X M nx i d aa sl hp K e':=by rw[h]
@[congr] theorem ZqG {aa:List CO} {nx i:Nat} {t t' : Bool} {d:Option Nat} {sl:Sl} {hp:Hp} {K:Sl→Hp→Prop} {e e' : Option Zb} (ht:t=t') (h:e=e') :
  YC X M nx i t d aa sl hp K e=YC X M nx i t' d aa sl hp K e':=by rw[h,ht]
theorem ZqH (nx:Nat) (K:Sl→Hp→Prop):∀ (l:List CO) (i:Nat) (sl:Sl) (hp:Hp),UL X M nx i l sl hp K=stW (ZaI (Zi X M) M nx i l sl hp) fun r=>K r.1 r.2:=by
 intro l
 induction l with
 | nil=>intro i sl hp;rfl
 | cons o rest ih=>
  intro i sl hp;simp only[UL,ZaI,ih,WB];cases ZD sl o.guard with
  | none=>rfl
  | some b=>cases b<;>simp[gW,WB,Yb]
theorem Zpe (nx:Nat) (K:Sl→Hp→Prop):∀ (l:List CO) (i:Nat) (t:Bool) (sl:Sl) (hp:Hp),XG X M nx i t l sl hp K=stW (VF (Zi X M) (Xj M) nx i t l sl hp) fun r=>K r.1 r.2:=by
 intro l
 induction l with
 | nil=>intro i t sl hp;rfl
 | cons o rest ih=>
  intro i t sl hp;simp only[XG,VF,ih,WB];cases ZD sl o.guard with
  | none=>rfl
  | some b=>cases b<;>simp[gW,WB,Yb]
def Zn5 (m nx:Nat) (Q:Ex→St→Prop) (sl:Sl) (hp:Hp):Prop:=Q .normal { sl:=sl,hp:=hp,nx:=nx,m:=m }
def ZkJ (ops:List CO) (ps:List (Nat×Nat)) (K:Sl→Hp→Prop) (sl:Sl) (hp:Hp):Prop:=YU ops sl ps=true∧K sl hp
@[go_sem] theorem regQ_eq (m nx:Nat) (Q:Ex→St→Prop) (sl:Sl) (hp:Hp):Zn5 m nx Q sl hp=Q .normal { sl:=sl,hp:=hp,nx:=nx,m:=m }:=rfl
@[go_sem] theorem seenQ_eq (ops:List CO) (ps:List (Nat×Nat)) (K:Sl→Hp→Prop) (sl:Sl) (hp:Hp):ZkJ ops ps K sl hp=(YU ops sl ps=true∧K sl hp):=rfl
@[go_sem] theorem W_skip (st:St) (Q:Ex→St→Prop):W X M .skip st Q=Q .normal st:=by simp[W,Zmr,Yb]
@[go_sem] theorem W_ret (st:St) (Q:Ex→St→Prop):W X M .ret st Q=Q .ret st:=by simp[W,Zos,Yb]
@[go_sem] theorem W_exit (id:Nat) (st:St) (Q:Ex→St→Prop):W X M (.exit id) st Q=Q (.exit id) st:=by simp[W,Zms,Yb]
@[go_sem] theorem W_stuck (st:St) (Q:Ex→St→Prop):W X M .stuck st Q=False:=by
 have h:Qd X M .stuck st=none:=Xv fun n=>by simp only[Zt]
 simp only[W,h,ZcM]
@[go_sem] theorem W_region (n:Nat) (ops:List CO) (st:St) (Q:Ex→St→Prop) :
  W X M (.region n none ops) st Q=UL X M st.nx 0 ops st.sl st.hp (Zn5 st.m (st.nx+64*n) Q):=by
 rw[ZqH,W,ZjN,ZeU,WB];rfl
theorem Zpf (n:Nat) (ps:List (Nat×Nat)) (ops:List CO) (st:St) (Q:Ex→St→Prop) :
  W X M (.region n (some ps) ops) st Q=XG X M st.nx 0 false ops st.sl st.hp (ZkJ ops ps (Zn5 st.m (st.nx+64*n) Q)):=by
 rw[Zpe,W,Zmt,ZeU,WB,Ziz,WB];congr 1
 funext r
 by_cases h:YU ops r.1 ps=true<;>simp[h,ZkJ,Yb,ZcM,Zn5]
@[go_sem] theorem W_draw0 (n:Nat) (ops:List CO) (st:St) (Q:Ex→St→Prop) :
  W X M (.region n (some []) ops) st Q=XG X M st.nx 0 false ops st.sl st.hp (Zn5 st.m (st.nx+64*n) Q):=by
 rw[Zpf];congr 1
 funext sl hp
 simp[ZkJ,YU]
@[go_sem] theorem W_drawc (n:Nat) (p:Nat×Nat) (ps:List (Nat×Nat)) (ops:List CO) (st:St) (Q:Ex→St→Prop) :
  W X M (.region n (some (p :: ps)) ops) st Q=XG X M st.nx 0 false ops st.sl st.hp (ZkJ ops (p :: ps) (Zn5 st.m (st.nx+64*n) Q)):=Zpf X M n _ ops st Q
def Znc (c:Zy) (Q:Ex→St→Prop):Ex→St→Prop
 | .normal,st=>W X M c st Q
 | e,st=>Q e st
def blkQ (id:Nat) (Q:Ex→St→Prop):Ex→St→Prop
 | .exit j,st=>if j=id then Q .normal st else Q (.exit j) st
 | e,st=>Q e st
@[go_sem] theorem ZqI (c:Zy) (Q:Ex→St→Prop) (st:St):Znc X M c Q .normal st=W X M c st Q:=rfl
@[go_sem] theorem thenQ_ret (c:Zy) (Q:Ex→St→Prop) (st:St):Znc X M c Q .ret st=Q .ret st:=rfl
@[go_sem] theorem ZrR (c:Zy) (Q:Ex→St→Prop) (id:Nat) (st:St):Znc X M c Q (.exit id) st=Q (.exit id) st:=rfl
@[go_sem] theorem Zrp (id:Nat) (Q:Ex→St→Prop) (st:St):blkQ id Q .normal st=Q .normal st:=rfl
@[go_sem] theorem blkQ_ret (id:Nat) (Q:Ex→St→Prop) (st:St):blkQ id Q .ret st=Q .ret st:=rfl
@[go_sem] theorem blkQ_exit (id j:Nat) (Q:Ex→St→Prop) (st:St):blkQ id Q (.exit j) st=if j=id then Q .normal st else Q (.exit j) st:=rfl
@[go_sem] theorem W_seq (a b:Zy) (st:St) (Q:Ex→St→Prop):W X M (.seq a b) st Q=W X M a st (Znc X M b Q):=by
 unfold W;rw[Zot];cases h:Qd X M a st with
 | none=>rfl
 | some r=>obtain⟨e,aa⟩:=r;cases e<;>rfl
@[go_sem] theorem W_cond (c:Opd) (a b:Zy) (st:St) (Q:Ex→St→Prop) :
  W X M (.cond c a b) st Q=YA (evO st.sl c) (W X M a st Q) (W X M b st Q):=by
 unfold W;rw[Zmu];cases h:evO st.sl c with
 | d x=>cases x with
  | bool t=>cases t<;>simp[ZbO,YA]
  | _=>rfl
 | _=>rfl
@[go_sem] theorem W_block (id:Nat) (c:Zy) (st:St) (Q:Ex→St→Prop):W X M (.block id c) st Q=W X M c st (blkQ id Q):=by
 unfold W;rw[Zk7];cases h:Qd X M c st with
 | none=>rfl
 | some r=>
  obtain⟨e,aa⟩:=r;cases e with
  | exit j=>by_cases hj:j=id<;>simp[ZaL,hj,Yb,blkQ]
  | normal=>rfl
  | ret=>rfl
def keepQ (K:List Nat) (Q:Ex→St→Prop) (e:Ex) (st:St):Prop:=Q e { sl:=only K st.sl,hp:=st.hp,nx:=st.nx,m:=st.m }
@[go_sem] theorem keepQ_eq (K:List Nat) (Q:Ex→St→Prop) (e:Ex) (st:St):keepQ K Q e st=Q e { sl:=only K st.sl,hp:=st.hp,nx:=st.nx,m:=st.m }:=rfl
@[go_sem] theorem W_keep (K:List Nat) (c:Zy) (st:St) (Q:Ex→St→Prop):W X M (.keep K c) st Q=W X M c st (keepQ K Q):=by
 unfold W;rw[Zmv];cases h:Qd X M c st with
 | none=>rfl
 | some r=>rfl
def shutQ (id nm:Nat) (Q:Ex→St→Prop) (e:Ex) (st:St):Prop:=Q e { sl:=st.sl,hp:=Zoq st.hp (ZeF st.hp id nm (lkp st.hp id)),nx:=st.nx,m:=st.m }
@[go_sem] theorem shutQ_eq (id nm:Nat) (Q:Ex→St→Prop) (e:Ex) (st:St):shutQ id nm Q e st=Q e { sl:=st.sl,hp:=Zoq st.hp (ZeF st.hp id nm (lkp st.hp id)),nx:=st.nx,m:=st.m }:=rfl
def ZfX (c:Zy) (Q:Ex→St→Prop) (r:Option St):Prop:=stW r fun st=>W X M c st Q
@[go_sem] theorem ZrS (c:Zy) (Q:Ex→St→Prop) (st:St):ZfX X M c Q (some st)=W X M c st Q:=rfl
@[go_sem] theorem ZrT (c:Zy) (Q:Ex→St→Prop):ZfX X M c Q none=False:=rfl
@[go_sem] theorem linkW_ite (c:Zy) (Q:Ex→St→Prop) (p:Prop) [Decidable p] (a b:Option St):ZfX X M c Q (if p then a else b)=((p→ZfX X M c Q a)∧(¬p→ZfX X M c Q b)):=by
 by_cases h:p<;>simp[h]
@[go_sem] theorem W_link (fl:Bool) (id:Nat) (i:Opd) (j:Nat) (c:Zy) (st:St) (Q:Ex→St→Prop):W X M (.link fl id i j c) st Q=ZfX X M c (shutQ id st.nx Q) (JT fl id i j st):=by
 unfold W ZfX;rw[Zmw];cases h:JT fl id i j st with
 | none=>rfl
 | some st1=>
  simp only[Zc,Yb,W];cases h1:Qd X M c st1 with
  | none=>rfl
  | some q=>rfl
@[go_sem] theorem W_melt (c:Zy) (st:St) (Q:Ex→St→Prop):W X M (.melt c) st Q=W X M c { sl:=st.sl,hp:=Zdt ZcU st.hp,nx:=st.nx,m:=st.m } Q:=by
 unfold W;rw[Zmx];rfl
def LW (c:Zy) (K:List Nat) (st:St) (Q:Ex→St→Prop):Prop:=stW (ZaN X M c K st) fun r=>Q r.1 r.2
@[congr] theorem LW_congr {c:Zy} {K K' : List Nat} {st aa : St} {Q:Ex→St→Prop} (hk:K=K') (h:st=aa):LW X M c K st Q=LW X M c K' aa Q:=by rw[h,hk]
@[go_sem] theorem W_loop (c:Zy) (st:St) (Q:Ex→St→Prop):W X M (.loop c) st Q=LW X M c (Wt st.sl) st Q:=by
 unfold W LW;rw[Zmy]
def ZfY (c:Zy) (K:List Nat) (Q:Ex→St→Prop):Ex→St→Prop
 | .normal,st=>LW X M c K st Q
 | e,st=>Q e st
@[go_sem] theorem ZqJ (c:Zy) (K:List Nat) (Q:Ex→St→Prop) (st:St):ZfY X M c K Q .normal st=LW X M c K st Q:=rfl
@[go_sem] theorem nextQ_ret (c:Zy) (K:List Nat) (Q:Ex→St→Prop) (st:St):ZfY X M c K Q .ret st=Q .ret st:=rfl
@[go_sem] theorem ZrU (c:Zy) (K:List Nat) (Q:Ex→St→Prop) (id:Nat) (st:St):ZfY X M c K Q (.exit id) st=Q (.exit id) st:=rfl
theorem WV {c:Zy} {K:List Nat} {st:St} {Q:Ex→St→Prop} (h:W X M c (Y6 K st) (ZfY X M c K Q)):LW X M c K st Q:=by
 unfold W at h;cases hv:Qd X M c (Y6 K st) with
 | none=>rw[hv] at h;exact h.elim
 | some r=>
  rw[hv] at h;obtain⟨e,aa⟩:=r;unfold LW;cases e with
  | normal=>rw[Zk8 X M hv];exact h
  | exit id=>rw[Zgw X M (by simp) hv];exact h
  | ret=>rw[Zgw X M (by simp) hv];exact h
def ZfZ (sl:Sl):Sl→Sl
 | []=>sl
 | (k,v) :: r=>ZfZ (ins sl k v) r
def ZbJ (hp:Hp):Hp→Hp
 | []=>hp
 | (k,o) :: r=>ZbJ (ins hp k o) r
theorem LW_ind {α:Type} (S:α→St) (I:α→Prop) (μ:α→Nat) {c:Zy} {K:List Nat} {Q:Ex→St→Prop}
  (step:∀ a,I a→(∀ b st,I b→μ b<μ a→Y6 K st=S b→LW X M c K st Q)→W X M c (S a) (ZfY X M c K Q)) :
  ∀ a st,I a→Y6 K st=S a→LW X M c K st Q:=by
 have aa:∀ n a st,μ a=n→I a→Y6 K st=S a→LW X M c K st Q:=by
  intro n
  induction n using Nat.strongRecOn with
  | ind n ih=>
   intro a st hn ha hs;refine WV X M ?_;rw[hs];exact step a ha fun b ab hb ae ad=>ih (μ b) (by omega) b ab rfl hb ad
 exact fun a st ha hs=>aa _ a st rfl ha hs
theorem Xc {α:Type} (u:α→Sl) (uh:α→Hp) (I:α→Prop) (μ:α→Nat) (a:α) {c:Zy} {K:List Nat} {Q:Ex→St→Prop} {st st0:St}
  (hc:Y6 K st=st0) (ha:I a) (h0:(⟨ZfZ st0.sl (u a),ZbJ st0.hp (uh a),st0.nx,st0.m⟩:St)=st0)
  (step:∀ a,I a→(∀ b st,I b→μ b<μ a→Y6 K st=⟨ZfZ st0.sl (u b),ZbJ st0.hp (uh b),st0.nx,st0.m⟩→LW X M c K st Q)→W X M c ⟨ZfZ st0.sl (u a),ZbJ st0.hp (uh a),st0.nx,st0.m⟩ (ZfY X M c K Q)) :
  LW X M c K st Q:=
 LW_ind X M (fun a=>⟨ZfZ st0.sl (u a),ZbJ st0.hp (uh a),st0.nx,st0.m⟩) I μ step a st ha (hc.trans h0.symm)
def Zjq (m:Nat) (rs:List Zhw) (R:AV×List Zg→Prop):Ex→St→Prop:=fun e st=>stW (US m rs (some (e,st))) R
def resW (m:Nat) (hp:Hp) (R:AV×List Zg→Prop) (vs:Option (List AV)):Prop:=stW vs fun vs=>R (Yi m hp (Ud vs))
@[go_sem] theorem resW_some (m:Nat) (hp:Hp) (R:AV×List Zg→Prop) (vs:List AV):resW m hp R (some vs)=R (Yi m hp (Ud vs)):=rfl
@[go_sem] theorem resW_none (m:Nat) (hp:Hp) (R:AV×List Zg→Prop):resW m hp R none=False:=rfl
@[go_sem] theorem endQ_ret (m:Nat) (rs:List Zhw) (R:AV×List Zg→Prop) (st:St):Zjq m rs R .ret st=resW m st.hp R (Z3 (Zgu st) rs):=by
 simp only[Zjq,US,WB];rfl
@[go_sem] theorem Zrq (m:Nat) (rs:List Zhw) (R:AV×List Zg→Prop) (st:St):Zjq m rs R .normal st=resW m st.hp R (Z3 (Zgu st) rs):=by
 simp only[Zjq,US,WB];rfl
theorem Zpg {f:Nat} {as:List AV} {h:List Zg} (fn:ZR) {R:AV×List Zg→Prop} (hx:X f=some (.text fn)) (hl:as.length≤fn.nt)
  (hr:W X M fn.body { sl:=X3 0 as,hp:=Yh 0 h,nx:=h.length,m:=h.length } (Zjq h.length fn.res R)):∃ r,Zi X M f as h=some r∧R r:=by
 unfold W at hr;cases hv:Qd X M fn.body { sl:=X3 0 as,hp:=Yh 0 h,nx:=h.length,m:=h.length } with
 | none=>rw[hv] at hr;exact hr.elim
 | some q=>
  rw[hv] at hr;obtain⟨e,st⟩:=q;simp only[Yb,Zjq] at hr;cases hk:US h.length fn.res (some (e,st)) with
  | none=>rw[hk] at hr;exact hr.elim
  | some r=>rw[hk] at hr;exact⟨r,ZpA X M hx hl (by rw[hv];exact hk),hr⟩
theorem callE {f:Nat} {as:List AV} {h:List Zg} (fn:ZR) {r:AV×List Zg} (hx:X f=some (.text fn)) (hl:as.length≤fn.nt)
  (hr:W X M fn.body { sl:=X3 0 as,hp:=Yh 0 h,nx:=h.length,m:=h.length } (Zjq h.length fn.res fun q=>q=r)):Zi X M f as h=some r:=by
 obtain⟨q,hq,rfl⟩:=Zpg X M fn hx hl hr;exact hq
end
@[go_sem] theorem vopE_move (C:Orc) (M:Zf) (sl:Sl) (hp:Hp) (base:Nat) (x:Opd):vop C M sl hp base (.move x)=Qf (evO sl x):=by simp only[vop]
@[go_sem] theorem Zrr (C:Orc) (M:Zf) (sl:Sl) (hp:Hp) (base:Nat) (s:Option Nat) (x:Opd):vop C M sl hp base (.assign s x)=JG base s (evO sl x):=by simp only[vop]
@[go_sem] theorem vopE_pick (C:Orc) (M:Zf) (sl:Sl) (hp:Hp) (base:Nat) (c a b:Opd):vop C M sl hp base (.pick c a b)=ZaF (evO sl a) (evO sl b) (evO sl c):=by simp only[vop]
@[go_sem] theorem ZrV (C:Orc) (M:Zf) (sl:Sl) (hp:Hp) (base:Nat) (slc:List (Option Nat)) (cs:List AV):vop C M sl hp base (.alloc slc cs)=ZaG slc base cs:=by simp only[vop]
@[go_sem] theorem vopE_box (C:Orc) (M:Zf) (sl:Sl) (hp:Hp) (base:Nat) (x:Opd):vop C M sl hp base (.box x)=Zof base (evO sl x):=by simp only[vop]
@[go_sem] theorem ZrW (C:Orc) (M:Zf) (sl:Sl) (hp:Hp) (base:Nat) (zs:List AV) (ps:List (Nat×Nat×Opd)):vop C M sl hp base (.build zs ps)=Zf9 zs (evP sl ps):=by simp only[vop]
@[go_sem] theorem ZqK (C:Orc) (M:Zf) (sl:Sl) (hp:Hp) (base:Nat) (s:Nat) (xs:List Opd):vop C M sl hp base (.buildSl s xs)=buildSl hp base s (evL sl xs):=by simp only[vop]
@[go_sem] theorem vopE_load (C:Orc) (M:Zf) (sl:Sl) (hp:Hp) (base:Nat) (g:Bool) (s:Nat) (a:Opd):vop C M sl hp base (.load g s a)=XT (YI hp g s (evO sl a)):=by simp only[vop]
@[go_sem] theorem ZrX (C:Orc) (M:Zf) (sl:Sl) (hp:Hp) (base:Nat) (slc:List (Option Nat)) (s:Nat) (a x:Opd):vop C M sl hp base (.store slc s a x)=Zak (Wq hp slc s base (evO sl x).cells (evO sl a)):=by simp only[vop]
@[go_sem] theorem Zqb (C:Orc) (M:Zf) (sl:Sl) (hp:Hp) (base:Nat) (x:Opd):vop C M sl hp base (.nilCheck x)=VQ (evO sl x):=by simp only[vop]
@[go_sem] theorem vopE_bin (C:Orc) (M:Zf) (sl:Sl) (hp:Hp) (base:Nat) (op:BinOp) (eq:Bool) (x y:Opd):vop C M sl hp base (.bin op eq x y)=ZeR op eq (evO sl x) (evO sl y):=by simp only[vop]
@[go_sem] theorem vopE_un (C:Orc) (M:Zf) (sl:Sl) (hp:Hp) (base:Nat) (op:UnOp) (x:Opd):vop C M sl hp base (.un op x)=XT (vun op (evO sl x)):=by simp only[vop]
@[go_sem] theorem vopE_eqA (C:Orc) (M:Zf) (sl:Sl) (hp:Hp) (base:Nat) (neg:Bool) (ks:List Nat) (x y:Opd):vop C M sl hp base (.eqA neg ks x y)=Zjx neg ks (evO sl x) (evO sl y):=by simp only[vop]
@[go_sem] theorem ZrY (C:Orc) (M:Zf) (sl:Sl) (hp:Hp) (base:Nat) (k:IntKind) (x:Opd):vop C M sl hp base (.convI k x)=convI k (evO sl x):=by simp only[vop]
@[go_sem] theorem ZrZ (C:Orc) (M:Zf) (sl:Sl) (hp:Hp) (base:Nat) (x:Opd):vop C M sl hp base (.convS x)=convS (evO sl x):=by simp only[vop]
@[go_sem] theorem vopE_fn (C:Orc) (M:Zf) (sl:Sl) (hp:Hp) (base:Nat) (f:Nat) (cs:List Opd):vop C M sl hp base (.fn f cs)=XT (cloV f (evL sl cs)):=by simp only[vop]
@[go_sem] theorem vopE_make (C:Orc) (M:Zf) (sl:Sl) (hp:Hp) (base:Nat) (s b:Nat) (z:D) (l c:Opd):vop C M sl hp base (.make s b z l c)=bnd (idx (evO sl l)) fun l=>bnd (idx (evO sl c)) fun c=>Zir base s b z l c:=by simp only[vop]
@[go_sem] theorem Zr0 (C:Orc) (M:Zf) (sl:Sl) (hp:Hp) (base:Nat) (s:Nat) (x:Opd) (lo hi:Option Opd):vop C M sl hp base (.slice s x lo hi)=XT (XS hp s (evM sl lo) (evM sl hi) (evO sl x)):=by simp only[vop]
@[go_sem] theorem Zrs (C:Orc) (M:Zf) (sl:Sl) (hp:Hp) (base:Nat) (x:Opd) (lo hi:Option Opd):vop C M sl hp base (.sliceS x lo hi)=XT (sliceS (evM sl lo) (evM sl hi) (evO sl x)):=by simp only[vop]
@[go_sem] theorem Zrt (C:Orc) (M:Zf) (sl:Sl) (hp:Hp) (base:Nat) (x hi mx:Opd):vop C M sl hp base (.slice0 x hi mx)=XT (slice0 hp (evO sl x) (idx (evO sl hi)) (idx (evO sl mx))):=by simp only[vop]
@[go_sem] theorem Zr1 (C:Orc) (M:Zf) (sl:Sl) (hp:Hp) (base:Nat) (off:Nat) (x:Opd):vop C M sl hp base (.shift off x)=Ye off (evO sl x):=by simp only[vop]
@[go_sem] theorem vopE_part (C:Orc) (M:Zf) (sl:Sl) (hp:Hp) (base:Nat) (g:Bool) (s off:Nat) (x:Opd):vop C M sl hp base (.part g s off x)=XT (ZcT g s off (evO sl x)):=by simp only[vop]
@[go_sem] theorem vopE_iaS (C:Orc) (M:Zf) (sl:Sl) (hp:Hp) (base:Nat) (s:Nat) (x i:Opd):vop C M sl hp base (.iaS s x i)=bnd (idx (evO sl i)) fun n=>ZbN hp s (evO sl x) n:=by simp only[vop]
@[go_sem] theorem vopE_iaA (C:Orc) (M:Zf) (sl:Sl) (hp:Hp) (base:Nat) (len s:Nat) (x i:Opd):vop C M sl hp base (.iaA len s x i)=bnd (idx (evO sl i)) fun n=>Zgb (evO sl x) n len s:=by simp only[vop]
@[go_sem] theorem vopE_ixS (C:Orc) (M:Zf) (sl:Sl) (hp:Hp) (base:Nat) (x i:Opd):vop C M sl hp base (.ixS x i)=bnd (idx (evO sl i)) fun n=>Zme n (evO sl x):=by simp only[vop]
@[go_sem] theorem vopE_ixA (C:Orc) (M:Zf) (sl:Sl) (hp:Hp) (base:Nat) (g:Bool) (s len:Nat) (x i:Opd):vop C M sl hp base (.ixA g s len x i)=bnd (idx (evO sl i)) fun n=>Zoh g s len n (evO sl x):=by simp only[vop]
@[go_sem] theorem vopE_nth (C:Orc) (M:Zf) (sl:Sl) (hp:Hp) (base:Nat) (i:Nat) (x:Opd):vop C M sl hp base (.nth i x)=ZkV i (evO sl x):=by simp only[vop]
@[go_sem] theorem vopE_len (C:Orc) (M:Zf) (sl:Sl) (hp:Hp) (base:Nat) (x:Opd):vop C M sl hp base (.len x)=bnd (UK hp (evO sl x)) fun n=>Qf (.d (.int .i64 n)):=by simp only[vop]
@[go_sem] theorem vopE_lenS (C:Orc) (M:Zf) (sl:Sl) (hp:Hp) (base:Nat) (x:Opd):vop C M sl hp base (.lenS x)=bnd (ZnF (evO sl x)) fun n=>Qf (.d (.int .i64 n)):=by simp only[vop]
@[go_sem] theorem Zru (C:Orc) (M:Zf) (sl:Sl) (hp:Hp) (base:Nat) (s b:Nat) (str flat:Bool) (x y:Opd):vop C M sl hp base (.append s b str flat x y)=ZkW hp s b str flat base (evO sl x) (evO sl y):=by simp only[vop]
@[go_sem] theorem vopE_min (C:Orc) (M:Zf) (sl:Sl) (hp:Hp) (base:Nat) (x y:Opd):vop C M sl hp base (.min x y)=Zez (evO sl x) (evO sl y):=by simp only[vop]
@[go_sem] theorem vopE_max (C:Orc) (M:Zf) (sl:Sl) (hp:Hp) (base:Nat) (x y:Opd):vop C M sl hp base (.max x y)=ZeA (evO sl x) (evO sl y):=by simp only[vop]
@[go_sem] theorem vopE_call (C:Orc) (M:Zf) (sl:Sl) (hp:Hp) (base:Nat) (f:Opd) (as:List Opd):vop C M sl hp base (.call f as)=UP C M hp base (evL sl as) (evO sl f):=by simp only[vop]
@[go_sem] theorem Zrv (C:Orc) (M:Zf) (sl:Sl) (hp:Hp) (base:Nat) (s:Nat) (x lo hi mx:Opd):vop C M sl hp base (.slice3 s x lo hi mx)=XT (slice3 hp (evO sl x) (idx (evO sl lo)) (idx (evO sl hi)) (idx (evO sl mx))):=by simp only[vop]
@[go_sem] theorem Zr2 (C:Orc) (M:Zf) (sl:Sl) (hp:Hp) (base:Nat) (s:Nat) (z:D) (x:Opd):vop C M sl hp base (.clear s z x)=Zak (JC hp s z (evO sl x)):=by simp only[vop]
@[go_sem] theorem Zrw (C:Orc) (M:Zf) (sl:Sl) (hp:Hp) (base:Nat) (s n:Nat) (xs:List Opd):vop C M sl hp base (.buildT s n xs)=buildT hp base s n (evL sl xs):=by simp only[vop]
@[go_sem] theorem vopE_appT (C:Orc) (M:Zf) (sl:Sl) (hp:Hp) (base:Nat) (s b:Nat) (f:Bool) (x y:Opd):vop C M sl hp base (.appT s b f x y)=appT hp s b base (evO sl x) (evO sl y):=by simp only[vop]
@[go_sem] theorem vopE_asgT (C:Orc) (M:Zf) (sl:Sl) (hp:Hp) (base:Nat) (s n:Nat) (x:Opd):vop C M sl hp base (.asgT s n x)=asgT base s n (evO sl x):=by simp only[vop]
@[go_sem] theorem Zr3 (C:Orc) (M:Zf) (sl:Sl) (hp:Hp) (base:Nat) (s b n:Nat) (z:D) (l c:Opd):vop C M sl hp base (.makeT s b n z l c)=bnd (idx (evO sl l)) fun l=>bnd (idx (evO sl c)) fun c=>makeT base s b n z l c:=by simp only[vop]
@[go_sem] theorem Zr4 (C:Orc) (M:Zf) (sl:Sl) (hp:Hp) (base:Nat):vop C M sl hp base .stuck=none:=by simp only[vop]
@[go_sem] theorem Zn6 (hp:Hp) (n:Nat) (aa:List Nat):Qq hp n [] aa=aa:=by cases n<;>rfl
@[go_sem] theorem tidy_d (hp:Hp) (ids:List Nat) (x:D):Jd hp ids (.d x)=.d x:=rfl
@[go_sem] theorem tidy_nil (hp:Hp) (ids:List Nat):Jd hp ids .nil=.nil:=rfl
@[go_sem] theorem tidy_junk (hp:Hp) (ids:List Nat):Jd hp ids .junk=.junk:=rfl
@[go_sem] theorem tidy_tup (hp:Hp) (ids:List Nat) (vs:List AV):Jd hp ids (.tup vs)=ren (XZ ids) (kill (ZaJ hp ids (Zl (.tup vs))) (.tup vs)):=rfl
@[go_sem] theorem tidy_agg (hp:Hp) (ids:List Nat) (vs:List AV):Jd hp ids (.agg vs)=ren (XZ ids) (kill (ZaJ hp ids (Zl (.agg vs))) (.agg vs)):=rfl
@[go_sem] theorem tidy_clo (hp:Hp) (ids:List Nat) (f:Nat) (vs:List AV):Jd hp ids (.clo f vs)=ren (XZ ids) (kill (ZaJ hp ids (Zl (.clo f vs))) (.clo f vs)):=rfl
@[go_sem] theorem tidy_nilp (hp:Hp) (ids:List Nat):Jd hp ids .nilp=.nilp:=rfl
@[go_sem] theorem tidy_nili (hp:Hp) (ids:List Nat):Jd hp ids .nili=.nili:=rfl
@[go_sem] theorem tidy_pim (hp:Hp) (ids:List Nat) (cs:List D):Jd hp ids (.pim cs)=.pim cs:=rfl
@[go_sem] theorem tidy_ptr (hp:Hp) (ids:List Nat) (id o:Nat):Jd hp ids (.ptr id o)=if UR hp ids id=true then .ptr (XZ ids id) o else .junk:=by
 simp only[Jd,Zl,Zn,Ze,ZaJ];split<;>simp[kill,Zw,ZK,ren,U2,Jt]
@[go_sem] theorem tidy_prow (hp:Hp) (ids:List Nat) (id s i o:Nat):Jd hp ids (.prow id s i o)=if UR hp ids id=true then .prow (XZ ids id) s i o else .junk:=by
 simp only[Jd,Zl,Zn,Ze,ZaJ];split<;>simp[kill,Zw,ZK,ren,U2,Jt]
@[go_sem] theorem tidy_own (hp:Hp) (ids:List Nat) (id:Nat):Jd hp ids (.own id)=if UR hp ids id=true then .own (XZ ids id) else .junk:=by
 simp only[Jd,Zl,Zn,Ze,ZaJ];split<;>simp[kill,Zw,ZK,ren,U2,Jt]
@[go_sem] theorem tidy_ownv (hp:Hp) (ids:List Nat) (id a b:Nat):Jd hp ids (.ownv id a b)=if UR hp ids id=true then .ownv (XZ ids id) a b else .junk:=by
 simp only[Jd,Zl,Zn,Ze,ZaJ];split<;>simp[kill,Zw,ZK,ren,U2,Jt]
@[go_sem] theorem Zr5 (hp:Hp) (x:D):Yi 0 hp (.d x)=(.d x,[]):=by
 simp[Yi,Zl,Zn,Ze,Yu,Zn6,tidy_d,UN]
@[go_sem] theorem minI_eq (a b:Int):minI a b=min a b:=by unfold minI;split<;>omega
@[go_sem] theorem maxI_eq (a b:Int):maxI a b=max a b:=by unfold maxI;split<;>omega
@[go_sem] theorem negIf_f (r:Bool):Zga false r=r:=rfl
@[go_sem] theorem negIf_t (r:Bool):Zga true r=!r:=rfl
@[go_sem] theorem opt1_some (v:AV):XT (some v)=Qf v:=rfl
@[go_sem] theorem opt1_none:XT none=none:=rfl
@[go_sem] theorem vbin_int (op:BinOp) (k k' : IntKind) (a b:Int):vbin op (.d (.int k a)) (.d (.int k' b))=VK op k k' a b:=rfl
@[go_sem] theorem binV_int (op:BinOp) (eq:Bool) (k k' : IntKind) (a b:Int):ZeR op eq (.d (.int k a)) (.d (.int k' b))=XT (VK op k k' a b):=rfl
@[go_sem] theorem binV_str (op:BinOp) (eq:Bool) (a b:List UInt8):ZeR op eq (.d (.str a)) (.d (.str b))=XT (asD (Zki op a b)):=rfl
@[go_sem] theorem int2_add (k:IntKind) (a b:Int):VK .add k k a b=some (.d (.int k (k.wrap (a+b)))):=by simp[VK,YV,asD,Zc]
@[go_sem] theorem int2_sub (k:IntKind) (a b:Int):VK .sub k k a b=some (.d (.int k (k.wrap (a-b)))):=by simp[VK,YV,asD,Zc]
@[go_sem] theorem int2_mul (k:IntKind) (a b:Int):VK .mul k k a b=some (.d (.int k (k.wrap (a*b)))):=by simp[VK,YV,asD,Zc]
@[go_sem] theorem int2_quo (k:IntKind) (a b:Int):VK .quo k k a b=if b=0 then none else some (.d (.int k (k.wrap (a.tdiv b)))):=by simp only[VK,YV,asD,if_true];split<;>rfl
@[go_sem] theorem int2_rem (k:IntKind) (a b:Int):VK .rem k k a b=if b=0 then none else some (.d (.int k (a.tmod b))):=by simp only[VK,YV,asD,if_true];split<;>rfl
@[go_sem] theorem int2_eql (k:IntKind) (a b:Int):VK .eql k k a b=some (.d (.bool (decide (a=b)))):=by simp[VK,YV,asD,Zc,BEq.beq]
@[go_sem] theorem int2_neq (k:IntKind) (a b:Int):VK .neq k k a b=some (.d (.bool (!decide (a=b)))):=by simp[VK,YV,asD,Zc,bne,BEq.beq]
@[go_sem] theorem int2_lss (k:IntKind) (a b:Int):VK .lss k k a b=some (.d (.bool (decide (a<b)))):=by simp[VK,YV,asD,Zc]
@[go_sem] theorem int2_leq (k:IntKind) (a b:Int):VK .leq k k a b=some (.d (.bool (decide (a≤b)))):=by simp[VK,YV,asD,Zc]
@[go_sem] theorem int2_gtr (k:IntKind) (a b:Int):VK .gtr k k a b=some (.d (.bool (decide (b<a)))):=by simp[VK,YV,asD,Zc]
@[go_sem] theorem int2_geq (k:IntKind) (a b:Int):VK .geq k k a b=some (.d (.bool (decide (b≤a)))):=by simp[VK,YV,asD,Zc]
@[go_sem] theorem guardV_t (b:Bool):JO true (.d (.bool b))=some b:=by cases b<;>rfl
def nb (b:Bool):Bool:=!b
@[go_sem] theorem nb_true:nb true=false:=rfl
@[go_sem] theorem nb_false:nb false=true:=rfl
@[go_sem] theorem nb_eq (b:Bool):(nb b=true)=(b=false):=by cases b<;>simp[nb]
@[go_sem] theorem guardV_f (b:Bool):JO false (.d (.bool b))=some (nb b):=by cases b<;>rfl
@[go_sem] theorem Zr6 (w:Bool):JO w (.tup [])=some false:=rfl
@[go_sem] theorem ZqL (a b:Bool):JO true (Zby a (.d (.bool b)))=some (a&&b):=by cases a<;>cases b<;>rfl
@[go_sem] theorem ZqM (a b:Bool):JO false (Zby a (.d (.bool b)))=some (a&&nb b):=by cases a<;>cases b<;>rfl
@[go_sem] theorem iteV_true (v:AV):Zby true v=v:=rfl
@[go_sem] theorem Zr7 (v:AV):Zby false v=.tup []:=rfl
@[go_sem] theorem Zr8 (a b:AV):ZaF a b (.d (.bool true))=Qf a:=rfl
@[go_sem] theorem Zrx (a b:AV):ZaF a b (.d (.bool false))=Qf b:=rfl
@[go_sem] theorem pickV_or (b c:Bool):ZaF (.d (.bool true)) (Zby (nb b) (.d (.bool c))) (.d (.bool b))=Qf (.d (.bool (b || c))):=by cases b<;>rfl
@[go_sem] theorem pickV_and (b c:Bool):ZaF (Zby b (.d (.bool c))) (.d (.bool false)) (.d (.bool b))=Qf (.d (.bool (b&&c))):=by cases b<;>rfl
theorem Zr9 (a b:AV) (t:Bool):ZaF a b (.d (.bool t))=if t=true then Qf a else Qf b:=by cases t<;>rfl
@[go_sem] theorem dec_or (p q:Prop) [Decidable p] [Decidable q]:(decide p || decide q)=decide (p∨q):=by simp
@[go_sem] theorem dec_and (p q:Prop) [Decidable p] [Decidable q]:(decide p&&decide q)=decide (p∧q):=by simp
@[go_sem] theorem dec_not (p:Prop) [Decidable p]:(!decide p)=decide (¬p):=by simp
attribute [go_sem] Bool.or_eq_false_iff decide_eq_true_eq decide_eq_false_iff_not Bool.and_eq_true Bool.or_eq_true Bool.not_eq_true' Bool.not_eq_false' not_or Decidable.not_not
@[go_sem] theorem evO_t (sl:Sl) (n:Nat):evO sl (.t n)=gs sl n:=rfl
@[go_sem] theorem evO_v (sl:Sl) (a:AV):evO sl (.v a)=a:=rfl
@[go_sem] theorem evO_f (sl:Sl) (n:Nat):evO sl (.f n)=.clo n []:=rfl
@[go_sem] theorem gs_hit (k:Nat) (v:AV) (r:Sl):gs ((k,v) :: r) k=v:=by simp[gs,lkp,UI]
@[go_sem] theorem gs_cons (k t:Nat) (v:AV) (r:Sl):gs ((k,v) :: r) t=if k=t then v else gs r t:=by
 by_cases h:k=t<;>simp[gs,lkp,h,UI]
@[go_sem] theorem gs_nil (t:Nat):gs [] t=.junk:=rfl
attribute [go_sem] Jr.eq_1 Jr.eq_2
attribute [go_sem] Ve.eq_1 Ve.eq_2 Ve.eq_3 Ve.eq_4
attribute [go_sem] Zcw.eq_1 Zcw.eq_2 Zcw.eq_3 Zcw.eq_4
attribute [go_sem] Wz.eq_1 Wz.eq_2
attribute [go_sem] St.hp.eq_1
attribute [go_sem] Us.eq_1 Us.eq_2 Us.eq_3
attribute [go_sem] UI.eq_1 UI.eq_2
attribute [go_sem] agg2.eq_1 agg2.eq_2 agg2.eq_3
attribute [go_sem] ins.eq_1 ins.eq_2
attribute [go_sem] Js.eq_1 Js.eq_2
attribute [go_sem] QP.eq_1 QP.eq_2 QP.eq_3
attribute [go_sem] St.m.eq_1
attribute [go_sem] bnd.eq_1 bnd.eq_2
attribute [go_sem] Yq.eq_1 Yq.eq_2 Yq.eq_3
attribute [go_sem] Zki.eq_1 Zki.eq_2 Zki.eq_3 Zki.eq_4
attribute [go_sem] AV.cells.eq_1 AV.cells.eq_2 AV.cells.eq_3 AV.cells.eq_4 AV.cells.eq_5 AV.cells.eq_6 AV.cells.eq_7 AV.cells.eq_8 AV.cells.eq_9 AV.cells.eq_10 AV.cells.eq_11 AV.cells.eq_12 AV.cells.eq_13 AV.cells.eq_14 AV.cells.eq_15
attribute [go_sem] ZK.eq_1 ZK.eq_2 ZK.eq_3 ZK.eq_4 ZK.eq_5 ZK.eq_6
attribute [go_sem] AV.solid.eq_1 AV.solid.eq_2 AV.solid.eq_3 AV.solid.eq_4
attribute [go_sem] XW.eq_1 XW.eq_2
attribute [go_sem] Z3.eq_1 Z3.eq_2
attribute [go_sem] Xp.eq_1 Xp.eq_2
attribute [go_sem] Vd.eq_1
attribute [go_sem] UK.eq_1 UK.eq_2 UK.eq_3 UK.eq_4 UK.eq_5
attribute [go_sem] X6.eq_1 X6.eq_2
attribute [go_sem] D.flat.eq_1
attribute [go_sem] give.eq_1 give.eq_2
attribute [go_sem] D.beq1.eq_1 D.beq1.eq_2 D.beq1.eq_3 D.beq1.eq_4
attribute [go_sem] Jt.eq_1 Jt.eq_2 Jt.eq_3 Jt.eq_4 Jt.eq_5 Jt.eq_6
attribute [go_sem] not1.eq_1 not1.eq_2
attribute [go_sem] QC.eq_1 QC.eq_2 QC.eq_3 QC.eq_4
attribute [go_sem] St.nx.eq_1
attribute [go_sem] Zn.eq_1 Zn.eq_2 Zn.eq_3
attribute [go_sem] U2.eq_1 U2.eq_2 U2.eq_3
attribute [go_sem] Zcx.eq_1 Zcx.eq_2
attribute [go_sem] vun.eq_1 vun.eq_2 vun.eq_3
attribute [go_sem] toD.eq_1 toD.eq_2
attribute [go_sem] Ze.eq_1 Ze.eq_2 Ze.eq_3 Ze.eq_4 Ze.eq_5 Ze.eq_6 Ze.eq_7 Ze.eq_8 Ze.eq_9 Ze.eq_10 Ze.eq_11 Ze.eq_12 Ze.eq_13 Ze.eq_14 Ze.eq_15
attribute [go_sem] D.plain.eq_1 D.plain.eq_2 D.plain.eq_3 D.plain.eq_4 D.plain.eq_5
attribute [go_sem] Zk.eq_1
attribute [go_sem] Zw.eq_1 Zw.eq_2 Zw.eq_3
attribute [go_sem] YR.eq_1 YR.eq_2
attribute [go_sem] Zl.eq_1 Zl.eq_2
attribute [go_sem] ZlK.eq_1
attribute [go_sem] Zdt.eq_1 Zdt.eq_2
attribute [go_sem] Ww.eq_1 Ww.eq_2 Ww.eq_3 Ww.eq_4
attribute [go_sem] St.sl.eq_1
attribute [go_sem] ZnF.eq_1 ZnF.eq_2
attribute [go_sem] Yr.eq_1 Yr.eq_2
attribute [go_sem] UJ.eq_1 UJ.eq_2
attribute [go_sem] ren.eq_1 ren.eq_2
attribute [go_sem] kill.eq_1 kill.eq_2
attribute [go_sem] lkp.eq_1 lkp.eq_2
attribute [go_sem] Zh1.eq_1 Zh1.eq_2 Zh1.eq_3
attribute [go_sem] QM.eq_1 QM.eq_2
attribute [go_sem] beqL.eq_1 beqL.eq_2 beqL.eq_3
attribute [go_sem] D.cells.eq_1 D.cells.eq_2 D.cells.eq_3 D.cells.eq_4 D.cells.eq_5
attribute [go_sem] Zfo.eq_1 Zfo.eq_2
attribute [go_sem] Zh0.eq_1 Zh0.eq_2
attribute [go_sem] neg1.eq_1 neg1.eq_2
attribute [go_sem] Zdu.eq_1 Zdu.eq_2 Zdu.eq_3
attribute [go_sem] Zfp.eq_1 Zfp.eq_2
attribute [go_sem] XC.eq_1 XC.eq_2 XC.eq_3
attribute [go_sem] asD.eq_1
attribute [go_sem] YV.eq_1 YV.eq_2 YV.eq_3 YV.eq_4 YV.eq_5 YV.eq_6 YV.eq_7 YV.eq_8 YV.eq_9 YV.eq_10 YV.eq_11 YV.eq_12 YV.eq_13 YV.eq_14 YV.eq_15 YV.eq_16 YV.eq_17
attribute [go_sem] Zbx.eq_1 Zbx.eq_2 Zbx.eq_3 Zbx.eq_4 Zbx.eq_5
attribute [go_sem] D.one.eq_1 D.one.eq_2 D.one.eq_3 D.one.eq_4 D.one.eq_5
attribute [go_sem] freeze.eq_1 freeze.eq_2
attribute [go_sem] WY.eq_1
attribute [go_sem] loOf.eq_1 loOf.eq_2
attribute [go_sem] Eff.on.eq_1
attribute [go_sem] appT.eq_1
attribute [go_sem] V3.eq_1 V3.eq_2
attribute [go_sem] cloV.eq_1
attribute [go_sem] slice0.eq_1 slice0.eq_2
attribute [go_sem] evM.eq_1 evM.eq_2
attribute [go_sem] Vl.eq_1 Vl.eq_2
attribute [go_sem] hiOf.eq_1 hiOf.eq_2
attribute [go_sem] ZcT.eq_1 ZcT.eq_2 ZcT.eq_3
attribute [go_sem] Zng.eq_1
attribute [go_sem] idx.eq_1 idx.eq_2
attribute [go_sem] XS.eq_1 XS.eq_2 XS.eq_3 XS.eq_4 XS.eq_5
attribute [go_sem] VE.eq_1 VE.eq_2 VE.eq_3
attribute [go_sem] ZN.eq_1 ZN.eq_2
attribute [go_sem] D.notSl.eq_1 D.notSl.eq_2
attribute [go_sem] Zpl.eq_1 Zpl.eq_2
attribute [go_sem] W2.eq_1 W2.eq_2 W2.eq_3 W2.eq_4 W2.eq_5 W2.eq_6
attribute [go_sem] YT.eq_1 YT.eq_2 YT.eq_3
attribute [go_sem] CO.guard.eq_1
attribute [go_sem] Zak.eq_1
attribute [go_sem] Wa.eq_1
attribute [go_sem] WZ.eq_1 WZ.eq_2 WZ.eq_3
attribute [go_sem] ZcP.eq_1
attribute [go_sem] Eff.adds.eq_1
attribute [go_sem] Zey.eq_1 Zey.eq_2
attribute [go_sem] XZ.eq_1 XZ.eq_2
attribute [go_sem] Zd.eq_1 Zd.eq_2
attribute [go_sem] Zb.eff.eq_1
attribute [go_sem] ZaC.eq_1 ZaC.eq_2
attribute [go_sem] Zme.eq_1 Zme.eq_2
attribute [go_sem] ZdF.eq_1 ZdF.eq_2 ZdF.eq_3
attribute [go_sem] del.eq_1 del.eq_2
attribute [go_sem] Zf9.eq_1
attribute [go_sem] Zjt.eq_1 Zjt.eq_2
attribute [go_sem] VO.eq_1 VO.eq_2
attribute [go_sem] ZeA.eq_1 ZeA.eq_2
attribute [go_sem] D.isAgg.eq_1 D.isAgg.eq_2
attribute [go_sem] VQ.eq_1 VQ.eq_2 VQ.eq_3 VQ.eq_4 VQ.eq_5
attribute [go_sem] ZaG.eq_1
attribute [go_sem] slice3.eq_1
attribute [go_sem] W1.eq_1 W1.eq_2
attribute [go_sem] args.eq_1 args.eq_2
attribute [go_sem] Zez.eq_1 Zez.eq_2
attribute [go_sem] JF.eq_1
attribute [go_sem] ZcQ.eq_1 ZcQ.eq_2
attribute [go_sem] Vo.eq_1
attribute [go_sem] evL.eq_1 evL.eq_2
attribute [go_sem] ZdG.eq_1 ZdG.eq_2 ZdG.eq_3
attribute [go_sem] Vk.eq_1 Vk.eq_2 Vk.eq_3
attribute [go_sem] UN.eq_1 UN.eq_2
attribute [go_sem] Zf6.eq_1 Zf6.eq_2
attribute [go_sem] Eff.sets.eq_1
attribute [go_sem] UO.eq_1 UO.eq_2 UO.eq_3
attribute [go_sem] ZcO.eq_1 ZcO.eq_2
attribute [go_sem] ZcS.eq_1 ZcS.eq_2
attribute [go_sem] Wq.eq_1 Wq.eq_2 Wq.eq_3
attribute [go_sem] Zoh.eq_1
attribute [go_sem] makeT.eq_1
attribute [go_sem] Yt.eq_1 Yt.eq_2
attribute [go_sem] Zpm.eq_1 Zpm.eq_2
attribute [go_sem] Zf7.eq_1 Zf7.eq_2
attribute [go_sem] W6.eq_1 W6.eq_2
attribute [go_sem] Zir.eq_1
attribute [go_sem] W5.eq_1 W5.eq_2
attribute [go_sem] AV.atom.eq_1 AV.atom.eq_2 AV.atom.eq_3 AV.atom.eq_4 AV.atom.eq_5
attribute [go_sem] Eff.dels.eq_1
attribute [go_sem] Ux.eq_1 Ux.eq_2 Ux.eq_3
attribute [go_sem] mat.eq_1 mat.eq_2 mat.eq_3
attribute [go_sem] ZH.eq_1
attribute [go_sem] W4.eq_1 W4.eq_2
attribute [go_sem] Zjw.eq_1
attribute [go_sem] Zof.eq_1
attribute [go_sem] JH.eq_1 JH.eq_2
attribute [go_sem] Vm.eq_1
attribute [go_sem] Z6.eq_1 Z6.eq_2 Z6.eq_3 Z6.eq_4
attribute [go_sem] Zog.eq_1
attribute [go_sem] Zaz.eq_1 Zaz.eq_2
attribute [go_sem] ZdH.eq_1 ZdH.eq_2
attribute [go_sem] ZkY.eq_1 ZkY.eq_2
attribute [go_sem] ZbM.eq_1 ZbM.eq_2 ZbM.eq_3 ZbM.eq_4
attribute [go_sem] Zb7.eq_1 Zb7.eq_2
attribute [go_sem] JD.eq_1 JD.eq_2
attribute [go_sem] ZaB.eq_1 ZaB.eq_2 ZaB.eq_3 ZaB.eq_4 ZaB.eq_5
attribute [go_sem] Zju.eq_1 Zju.eq_2
attribute [go_sem] Zf8.eq_1
attribute [go_sem] convS.eq_1 convS.eq_2
attribute [go_sem] ZcR.eq_1 ZcR.eq_2
attribute [go_sem] CO.tl.eq_1
attribute [go_sem] ZaD.eq_1 ZaD.eq_2 ZaD.eq_3 ZaD.eq_4
attribute [go_sem] CO.dst.eq_1
attribute [go_sem] teOf.eq_1
attribute [go_sem] Zmf.eq_1 Zmf.eq_2 Zmf.eq_3
attribute [go_sem] Zjv.eq_1
attribute [go_sem] ZkT.eq_1 ZkT.eq_2
attribute [go_sem] ZkU.eq_1
attribute [go_sem] Eff.val.eq_1
attribute [go_sem] sliceS.eq_1 sliceS.eq_2
attribute [go_sem] Xi.eq_1 Xi.eq_2 Xi.eq_3
attribute [go_sem] ZaA.eq_1 ZaA.eq_2 ZaA.eq_3 ZaA.eq_4
attribute [go_sem] Vj.eq_1
attribute [go_sem] buildSl.eq_1 buildSl.eq_2
attribute [go_sem] YI.eq_1 YI.eq_2 YI.eq_3 YI.eq_4
attribute [go_sem] VA.eq_1 VA.eq_2 VA.eq_3 VA.eq_4 VA.eq_5
attribute [go_sem] Zex.eq_1 Zex.eq_2
attribute [go_sem] Zgb.eq_1
attribute [go_sem] evP.eq_1 evP.eq_2
attribute [go_sem] ZcU.eq_1 ZcU.eq_2
attribute [go_sem] Uy.eq_1
attribute [go_sem] Zbg.eq_1
attribute [go_sem] Ziq.eq_1 Ziq.eq_2
attribute [go_sem] Zga.eq_1
attribute [go_sem] Yd.eq_1
attribute [go_sem] ZkX.eq_1
attribute [go_sem] bnT.eq_1 bnT.eq_2
attribute [go_sem] W0.eq_1 W0.eq_2
attribute [go_sem] Yc.eq_1 Yc.eq_2
attribute [go_sem] Vn.eq_1 Vn.eq_2
attribute [go_sem] asgT.eq_1 asgT.eq_2
attribute [go_sem] ZdI.eq_1 ZdI.eq_2
attribute [go_sem] UP.eq_1 UP.eq_2
attribute [go_sem] ZaE.eq_1 ZaE.eq_2 ZaE.eq_3 ZaE.eq_4
attribute [go_sem] ZkR.eq_1 ZkR.eq_2
attribute [go_sem] CO.op.eq_1
attribute [go_sem] JG.eq_1 JG.eq_2
attribute [go_sem] JC.eq_1 JC.eq_2
attribute [go_sem] Zoe.eq_1 Zoe.eq_2
attribute [go_sem] Zbh.eq_1 Zbh.eq_2 Zbh.eq_3
attribute [go_sem] ZkV.eq_1 ZkV.eq_2
attribute [go_sem] Zb8.eq_1 Zb8.eq_2
attribute [go_sem] JE.eq_1 JE.eq_2
attribute [go_sem] Ur.eq_1 Ur.eq_2 Ur.eq_3 Ur.eq_4 Ur.eq_5 Ur.eq_6 Ur.eq_7 Ur.eq_8 Ur.eq_9 Ur.eq_10
attribute [go_sem] Wb.eq_1
attribute [go_sem] Ye.eq_1 Ye.eq_2 Ye.eq_3 Ye.eq_4
attribute [go_sem] Eff.frz.eq_1
attribute [go_sem] buildT.eq_1
attribute [go_sem] ZQ.eq_1 ZQ.eq_2
attribute [go_sem] Zbf.eq_1 Zbf.eq_2
attribute [go_sem] Zb.gone.eq_1
attribute [go_sem] meltIn.eq_1 meltIn.eq_2
attribute [go_sem] ZbN.eq_1
attribute [go_sem] ZkS.eq_1 ZkS.eq_2
attribute [go_sem] convI.eq_1 convI.eq_2
attribute [go_sem] Zfd.eq_1 Zfd.eq_2
attribute [go_sem] Uz.eq_1 Uz.eq_2 Uz.eq_3
attribute [go_sem] bd.eq_1
attribute [go_sem] W3.eq_1 W3.eq_2
attribute [go_sem] QR.eq_1
attribute [go_sem] Zjx.eq_1 Zjx.eq_2
attribute [go_sem] Zbi.eq_1
attribute [go_sem] QX.eq_1 QX.eq_2
attribute [go_sem] Znq.eq_1 Znq.eq_2
attribute [go_sem] Zq.eq_1 Zq.eq_2 Zq.eq_3 Zq.eq_4 Zq.eq_5 Zq.eq_6 Zq.eq_7 Zq.eq_8 Zq.eq_9 Zq.eq_10 Zq.eq_11 Zq.eq_12 Zq.eq_13 Zq.eq_14 Zq.eq_15 Zq.eq_16 Zq.eq_17 Zq.eq_18 Zq.eq_19 Zq.eq_20 Zq.eq_21 Zq.eq_22 Zq.eq_23 Zq.eq_24 Zq.eq_25 Zq.eq_26 Zq.eq_27 Zq.eq_28 Zq.eq_29 Zq.eq_30 Zq.eq_31 Zq.eq_32 Zq.eq_33 Zq.eq_34 Zq.eq_35 Zq.eq_36 Zq.eq_37 Zq.eq_38 Zq.eq_39 Zq.eq_40
attribute [go_sem] YX.eq_1 YX.eq_2 YX.eq_3 YX.eq_4 YX.eq_5
attribute [go_sem] ZaK.eq_1
attribute [go_sem] ZjI.eq_1 ZjI.eq_2
attribute [go_sem] Ud.eq_1 Ud.eq_2
attribute [go_sem] JT.eq_1
attribute [go_sem] UQ.eq_1 UQ.eq_2 UQ.eq_3 UQ.eq_4 UQ.eq_5
attribute [go_sem] YU.eq_1 YU.eq_2
attribute [go_sem] ZeF.eq_1 ZeF.eq_2
attribute [go_sem] Zoq.eq_1 Zoq.eq_2
attribute [go_sem] Ziy.eq_1 Ziy.eq_2
attribute [go_sem] Qv.eq_1 Qv.eq_2
attribute [go_sem] only.eq_1 only.eq_2
attribute [go_sem] Zmo.eq_1 Zmo.eq_2
attribute [go_sem] ZaH.eq_1 ZaH.eq_2
attribute [go_sem] X3.eq_1 X3.eq_2
attribute [go_sem] okL.eq_1 okL.eq_2
attribute [go_sem] okC.eq_1 okC.eq_2 okC.eq_3 okC.eq_4 okC.eq_5 okC.eq_6 okC.eq_7 okC.eq_8 okC.eq_9 okC.eq_10
attribute [go_sem] Zfh.eq_1 Zfh.eq_2
attribute [go_sem] Wt.eq_1 Wt.eq_2
attribute [go_sem] JP.eq_1 JP.eq_2 JP.eq_3
attribute [go_sem] Zbn.eq_1 Zbn.eq_2
attribute [go_sem] ZaJ.eq_1 ZaJ.eq_2
attribute [go_sem] Qj.eq_1 Qj.eq_2
attribute [go_sem] Zh.eq_1 Zh.eq_2
attribute [go_sem] XJ.eq_1 XJ.eq_2 XJ.eq_3
attribute [go_sem] Zc4.eq_1
attribute [go_sem] Yh.eq_1 Yh.eq_2
attribute [go_sem] ZjJ.eq_1 ZjJ.eq_2
attribute [go_sem] CO.starts.eq_1
attribute [go_sem] X2.eq_1 X2.eq_2
attribute [go_sem] Qn.eq_1 Qn.eq_2
attribute [go_sem] Znp.eq_1 Znp.eq_2
attribute [go_sem] ZdS.eq_1
attribute [go_sem] Zgs.eq_1 Zgs.eq_2 Zgs.eq_3
attribute [go_sem] JR.eq_1 JR.eq_2
attribute [go_sem] Yu.eq_1 Yu.eq_2
attribute [go_sem] UR.eq_1
attribute [go_sem] Zgt.eq_1 Zgt.eq_2
attribute [go_sem] Zno.eq_1
attribute [go_sem] ZR.body.eq_1
attribute [go_sem] Zc5.eq_1
attribute [go_sem] Zcf.eq_1 Zcf.eq_2
attribute [go_sem] Vr.eq_1 Vr.eq_2 Vr.eq_3 Vr.eq_4 Vr.eq_5
attribute [go_sem] ZR.res.eq_1
attribute [go_sem] Xu.eq_1 Xu.eq_2
attribute [go_sem] Xe.eq_1 Xe.eq_2 Xe.eq_3 Xe.eq_4 Xe.eq_5 Xe.eq_6 Xe.eq_7 Xe.eq_8 Xe.eq_9 Xe.eq_10 Xe.eq_11 Xe.eq_12
attribute [go_sem] Zgu.eq_1 Zgu.eq_2
attribute [go_sem] XI.eq_1 XI.eq_2
attribute [go_sem] ZR.nt.eq_1
attribute [go_sem] okD.eq_1 okD.eq_2
attribute [go_sem] Zjx.eq_1 VA.eq_1 VA.eq_2 VA.eq_3 VA.eq_4
attribute [go_sem] Y6.eq_1 Ua.eq_1 Ua.eq_2 Ua.eq_3 Ua.eq_4 Ua.eq_5 Ua.eq_6 Ua.eq_7 Ua.eq_8 Ua.eq_9 Ua.eq_10 Yi.eq_1
attribute [go_sem] Qq.eq_3 QT.eq_1 AV.atom.eq_1 AV.atom.eq_2 AV.atom.eq_3 AV.atom.eq_4
attribute [go_sem] ZfZ.eq_1 ZfZ.eq_2 ZbJ.eq_1 ZbJ.eq_2
attribute [go_sem] Zc ZoU Zqp
attribute [go_sem] List.map_cons List.map_nil List.flatMap_cons List.flatMap_nil List.append_nil List.nil_append List.cons_append List.length_cons List.length_nil List.all_cons List.all_nil List.any_cons List.any_nil List.contains_cons List.contains_nil List.filter_cons List.filter_nil List.drop_zero List.drop_succ_cons List.drop_nil List.take_zero List.take_succ_cons List.take_nil List.getElem?_cons_zero List.getElem?_cons_succ List.getElem?_nil Option.map_some Option.map_none Bool.and_true Bool.true_and Bool.and_false Bool.false_and Bool.or_true Bool.true_or Bool.or_false Bool.false_or Bool.not_true Bool.not_false decide_true decide_false and_true true_and and_false false_and not_true not_false_eq_true or_true true_or or_false false_or if_true if_false true_implies false_implies implies_true imp_self eq_self ne_eq beq_self_eq_true Bool.true_eq_false Bool.false_eq_true List.isEmpty_nil List.isEmpty_cons List.range_zero List.set_cons_zero List.set_cons_succ Option.some.injEq reduceCtorEq Nat.reduceLeDiff
def Zf0 (hp:Hp):List Nat→List Nat
 | []=>[]
 | i :: r=>if ZaD (lkp hp i)=true then i :: Zf0 hp r else Zf0 hp r
theorem gE (hp:Hp) (ids:List Nat):(ids.filter fun i=>ZaD (lkp hp i))=Zf0 hp ids:=by
 induction ids with
 | nil=>rfl
 | cons i r ih=>simp only[Ly,Zf0,ih]
def Zii (hp:Hp) (rs:List Nat):List Nat→Bool
 | []=>true
 | i :: r=>(ZaD (lkp hp i) || rs.contains i)&&Zii hp rs r
def Zij (hp:Hp):List Nat→Bool
 | []=>false
 | i :: r=>W5 (lkp hp i) || Zij hp r
theorem gG (hp:Hp) (ids:List Nat):(ids.any fun i=>W5 (lkp hp i))=Zij hp ids:=by
 induction ids with
 | nil=>rfl
 | cons i r ih=>simp only[List.any_cons,Zij,ih]
attribute [go_sem] Zij.eq_1 Zij.eq_2
@[go_sem] theorem appV_eq (hp:Hp) (s b:Nat) (str flat:Bool) (base:Nat) (x y:AV):ZkW hp s b str flat base x y=Zak (Yt hp s b str flat base x y (XE hp x++XE hp y)):=rfl
@[go_sem] theorem treeId_d (hp:Hp) (x:D):XE hp (.d x)=[]:=rfl
@[go_sem] theorem Zsa (hp:Hp):XE hp .nil=[]:=rfl
@[go_sem] theorem Zry (hp:Hp) (k o n:Nat):XE hp (.ownv k o n)=[]:=rfl
@[go_sem] theorem Zsb (hp:Hp) (k:Nat):XE hp (.own k)=if W5 (lkp hp k)=true then [k] else []:=rfl
@[go_sem] theorem noKeep_0 (M:Zf) (f:Nat):Xj M f 0=M f 0:=rfl
@[go_sem] theorem noKeep_1 (M:Zf) (f:Nat):Xj M f 1=M f 1:=rfl
@[go_sem] theorem noKeep_2 (M:Zf) (f:Nat):Xj M f 2=M f 2:=rfl
@[go_sem] theorem noKeep_3 (M:Zf) (f:Nat):Xj M f 3=M f 3:=rfl
@[go_sem] theorem noKeep_4 (M:Zf) (f:Nat):Xj M f 4=M f 4:=rfl
@[go_sem] theorem noKeep_5 (M:Zf) (f:Nat):Xj M f 5=M f 5:=rfl
@[go_sem] theorem noKeep_6 (M:Zf) (f:Nat):Xj M f 6=M f 6:=rfl
@[go_sem] theorem noKeep_99 (M:Zf) (f:Nat):Xj M f 99=false:=rfl
theorem gF (hp:Hp) (rs ids:List Nat):WF hp rs ids=Zii hp rs ids:=by
 induction ids with
 | nil=>rfl
 | cons i r ih=>simp only[WF,Li,Zii] at ih ⊢;rw[ih]
attribute [go_sem] Zf0.eq_1 Zf0.eq_2 Zii.eq_1 Zii.eq_2
@[go_sem] theorem okV_d (x:D):okV (.d x)=true:=rfl
@[go_sem] theorem okV_nil:okV .nil=true:=rfl
@[go_sem] theorem okV_nilp:okV .nilp=true:=rfl
@[go_sem] theorem okV_nili:okV .nili=true:=rfl
@[go_sem] theorem okV_ptr (a b:Nat):okV (.ptr a b)=true:=rfl
@[go_sem] theorem okV_prow (a b c e:Nat):okV (.prow a b c e)=true:=rfl
@[go_sem] theorem okV_pim (cs:List D):okV (.pim cs)=true:=rfl
@[go_sem] theorem okV_own (a:Nat):okV (.own a)=true:=rfl
@[go_sem] theorem okV_ownv (a b c:Nat):okV (.ownv a b c)=true:=rfl
@[go_sem] theorem okV_agg (cs:List AV):okV (.agg cs)=ZjI cs:=rfl
@[go_sem] theorem okV_tup0:okV (.tup [])=true:=rfl
@[go_sem] theorem Zsc (sl:Sl) (a:COp) (x y:Nat) (v:AV):XU sl a (.ptr x y) v=true:=rfl
@[go_sem] theorem seenIn_d (sl:Sl) (a:COp) (x y z t:Nat) (v:D):XU sl a (.prow x y z t) (.d v)=true:=rfl
@[go_sem] theorem Zsd (sl:Sl) (a:COp) (x y z t:Nat) (v:List AV):XU sl a (.prow x y z t) (.agg v)=(okV (.agg v)&&QX sl (Zq a) (Zl (.agg v))):=rfl
@[go_sem] theorem Zse (sl:Sl) (a:COp) (x y z t:Nat) (k:Nat):XU sl a (.prow x y z t) (.own k)=(okV (.own k)&&QX sl (Zq a) (Zl (.own k))):=rfl
@[go_sem] theorem Zsf (sl:Sl) (a:COp) (x y z t:Nat):XU sl a (.prow x y z t) .nil=(okV .nil&&QX sl (Zq a) (Zl .nil)):=rfl
@[go_sem] theorem Zrz (sl:Sl) (a:COp) (x y z t:Nat):XU sl a (.prow x y z t) .nilp=(okV .nilp&&QX sl (Zq a) (Zl .nilp)):=rfl
@[go_sem] theorem ZrA (sl:Sl) (a:COp) (x y z t:Nat) (k m n:Nat):XU sl a (.prow x y z t) (.ownv k m n)=(okV (.ownv k m n)&&QX sl (Zq a) (Zl (.ownv k m n))):=rfl
@[go_sem] theorem ZrB (sl:Sl) (a:COp) (k:Nat):seenSrc sl a (.own k)=Qj sl k (Zq a):=rfl
@[go_sem] theorem seenSrc_d (sl:Sl) (a:COp) (x:D):seenSrc sl a (.d x)=true:=rfl
@[go_sem] theorem ZrC (sl:Sl) (a:COp):seenSrc sl a .nil=true:=rfl
@[go_sem] theorem ZqN (sl:Sl) (a:COp) (x y z:Nat):seenSrc sl a (.ownv x y z)=true:=rfl
@[go_sem] theorem okV_iteV (b:Bool) (v:AV):okV (Zby b v)=(!b || okV v):=by cases b<;>simp[Zby,okV]
@[go_sem] theorem awayV_d (sl:Sl) (xs:List Opd) (x:D):Ub sl xs (.d x)=true:=rfl
@[go_sem] theorem awayV_nil (sl:Sl) (xs:List Opd):Ub sl xs .nil=true:=rfl
@[go_sem] theorem Zsg (sl:Sl) (xs:List Opd):Ub sl xs .nilp=true:=rfl
@[go_sem] theorem awayV_ptr (sl:Sl) (xs:List Opd) (k o:Nat):Ub sl xs (.ptr k o)=Qj sl k xs:=rfl
@[go_sem] theorem awayV_pim (sl:Sl) (xs:List Opd) (cs:List D):Ub sl xs (.pim cs)=true:=rfl
@[go_sem] theorem awayV_own (sl:Sl) (xs:List Opd) (a:Nat):Ub sl xs (.own a)=true:=rfl
@[go_sem] theorem Zsh (sl:Sl) (xs:List Opd) (a b c:Nat):Ub sl xs (.ownv a b c)=true:=rfl
@[go_sem] theorem awayV_agg (sl:Sl) (xs:List Opd) (cs:List AV):Ub sl xs (.agg cs)=true:=rfl
@[go_sem] theorem awayV_tup (sl:Sl) (xs:List Opd) (cs:List AV):Ub sl xs (.tup cs)=true:=rfl
end Go.Abs.E
