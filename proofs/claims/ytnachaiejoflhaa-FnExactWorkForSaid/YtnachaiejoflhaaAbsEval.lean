/- Own text. -/
import Derived.Test.YtnachaiejoflhaaAbsRun
set_option linter.unusedVariables false
set_option linter.unusedSimpArgs false
namespace Go.Abs.E
open Go Go.Abs
abbrev _root_.Go.Abs.Opd.i (n:Int):Opd:=.v (.d (.int .i64 n))
abbrev _root_.Go.Abs.Opd.b (x:Bool):Opd:=.v (.d (.bool x))
def stW {α:Type} (x:Option α) (K:α→Prop):Prop:=match x with
 | some a=>K a
 | none=>False
def gW (x:Option Bool) (A B:Prop):Prop:=match x with
 | some b=>(b=true→A)∧(b=false→B)
 | none=>False
def Yk (v:AV) (A B:Prop):Prop:=match v with
 | .d (.bool t)=>(t=true→A)∧(t=false→B)
 | _=>False
theorem X1 {α:Type} (a:α) (K:α→Prop):stW (some a) K=K a:=rfl
theorem ZcZ {α:Type} (K:α→Prop):stW none K=False:=rfl
theorem WE {α β:Type} (x:Option α) (f:α→Option β) (K:β→Prop):stW (bnd x f) K=stW x fun a=>stW (f a) K:=by cases x<;>rfl
@[go_sem] theorem Znl (A B:Prop):gW (some true) A B=A:=by simp[gW]
@[go_sem] theorem gW_false (A B:Prop):gW (some false) A B=B:=by simp[gW]
@[go_sem] theorem gW_dec (p:Prop) [Decidable p] (A B:Prop):gW (some (decide p)) A B=((p→A)∧(¬p→B)):=by simp[gW]
@[go_sem] theorem gW_not (b:Bool) (A B:Prop):gW (some (!b)) A B=gW (some b) B A:=by cases b<;>simp[gW]
theorem gW_some (b:Bool) (A B:Prop):gW (some b) A B=((b=true→A)∧(b=false→B)):=rfl
@[go_sem] theorem ZrQ (A B:Prop):Yk (.d (.bool true)) A B=A:=by simp[Yk]
@[go_sem] theorem Zrm (A B:Prop):Yk (.d (.bool false)) A B=B:=by simp[Yk]
@[go_sem] theorem condW_dec (p:Prop) [Decidable p] (A B:Prop):Yk (.d (.bool (decide p))) A B=((p→A)∧(¬p→B)):=by simp[Yk]
@[go_sem] theorem condW_not (b:Bool) (A B:Prop):Yk (.d (.bool (!b))) A B=Yk (.d (.bool b)) B A:=by cases b<;>simp[Yk]
@[go_sem] theorem condW_and (a b:Bool) (A B:Prop):Yk (.d (.bool (a&&b))) A B=Yk (.d (.bool a)) (Yk (.d (.bool b)) A B) B:=by cases a<;>cases b<;>simp[Yk]
@[go_sem] theorem condW_or (a b:Bool) (A B:Prop):Yk (.d (.bool (a || b))) A B=Yk (.d (.bool a)) A (Yk (.d (.bool b)) A B):=by cases a<;>cases b<;>simp[Yk]
@[go_sem] theorem ZrR (b:Bool) (A B:Prop):Yk (.d (.bool b)) A B=((b=true→A)∧(b=false→B)):=rfl
@[congr] theorem gW_congr {x y:Option Bool} {A B:Prop} (h:x=y):gW x A B=gW y A B:=by rw[h]
@[congr] theorem Zrn {v w:AV} {A B:Prop} (h:v=w):Yk v A B=Yk w A B:=by rw[h]
section
variable (X:Fns) (M:Zf)
noncomputable def UZ (nx:Nat):Nat→List CO→Sl→Hp→(Sl→Hp→Prop)→Prop
 | _,[],sl,hp,K=>K sl hp
 | i,o :: rest,sl,hp,K=>gW (ZF sl o.guard)
   (stW (Q5 (nx+64*i) o.dst sl hp (vop (Zj X M) M sl hp (nx+64*i) o.op)) fun r=>UZ nx (i+1) rest r.1 r.2 K)
   (UZ nx (i+1) rest (Zi sl o.dst (.tup [])) hp K)
def Wy (nx i:Nat) (d:Option Nat) (rest:List CO) (sl:Sl) (hp:Hp) (K:Sl→Hp→Prop) (e:Option Zb):Prop:=
 stW (Q5 (nx+64*i) d sl hp e) fun r=>UZ X M nx (i+1) rest r.1 r.2 K
@[go_sem] theorem opsW_nil (nx i:Nat) (sl:Sl) (hp:Hp) (K:Sl→Hp→Prop):UZ X M nx i [] sl hp K=K sl hp:=rfl
@[go_sem] theorem opsW_cons (nx i:Nat) (d:Option Nat) (tl:Bool) (op:COp) (aa:List CO) (sl:Sl) (hp:Hp) (K:Sl→Hp→Prop) :
  UZ X M nx i (⟨d,none,op,tl⟩ :: aa) sl hp K=Wy X M nx i d aa sl hp K (vop (Zj X M) M sl hp (nx+64*i) op):=by
 simp[UZ,Wy,ZF,Znl]
def ZbE (b:Bool) (v:AV):AV:=if b then v else .tup []
def Vl (b:Bool) (nx i:Nat) (d:Option Nat) (rest:List CO) (sl:Sl) (hp:Hp) (K:Sl→Hp→Prop) (e:Option Zb):Prop:=
 gW (some b) (Wy X M nx i d rest sl hp K e) (UZ X M nx (i+1) rest (Zi sl d (.tup [])) hp K)
def ZjP (g:Option Bool) (nx i:Nat) (d:Option Nat) (op:COp) (rest:List CO) (sl:Sl) (hp:Hp) (K:Sl→Hp→Prop):Prop:=
 gW g (Wy X M nx i d rest sl hp K (vop (Zj X M) M sl hp (nx+64*i) op)) (UZ X M nx (i+1) rest (Zi sl d (.tup [])) hp K)
@[go_sem] theorem ZrS (nx i g:Nat) (w:Bool) (d:Option Nat) (tl:Bool) (op:COp) (aa:List CO) (sl:Sl) (hp:Hp) (K:Sl→Hp→Prop) :
  UZ X M nx i (⟨d,some (g,w),op,tl⟩ :: aa) sl hp K=ZjP X M (J6 w (gs sl g)) nx i d op aa sl hp K:=rfl
@[go_sem] theorem Zro (b:Bool) (nx i:Nat) (d:Option Nat) (op:COp) (aa:List CO) (sl:Sl) (hp:Hp) (K:Sl→Hp→Prop) :
  ZjP X M (some b) nx i d op aa sl hp K=Vl X M b nx i d aa sl hp K (vop (Zj X M) M sl hp (nx+64*i) op):=rfl
@[go_sem] theorem gA (nx i:Nat) (d:Option Nat) (aa:List CO) (sl:Sl) (hp:Hp) (K:Sl→Hp→Prop) (e:Option Zb) :
  Vl X M true nx i d aa sl hp K e=Wy X M nx i d aa sl hp K e:=by simp[Vl,gW]
@[go_sem] theorem gB (nx i:Nat) (d:Option Nat) (aa:List CO) (sl:Sl) (hp:Hp) (K:Sl→Hp→Prop) (e:Option Zb) :
  Vl X M false nx i d aa sl hp K e=UZ X M nx (i+1) aa (Zi sl d (.tup [])) hp K:=by simp[Vl,gW]
@[go_sem] theorem ZjQ (b:Bool) (nx i:Nat) (d:Option Nat) (aa:List CO) (sl:Sl) (hp:Hp) (K:Sl→Hp→Prop) (v:AV) :
  Vl X M b nx i d aa sl hp K (Qj v)=UZ X M nx (i+1) aa (Zi sl d (ZbE b v)) hp K:=by
 cases b
 ·simp[Vl,gW,ZbE]
 ·simp only[Vl,gW,ZbE,Ki,true_implies,Bool.true_eq_false,false_implies,and_true];rfl
@[go_sem] theorem Zrp (b:Bool) (nx i:Nat) (d:Option Nat) (aa:List CO) (sl:Sl) (hp:Hp) (K:Sl→Hp→Prop) (v:AV) :
  Vl X M b nx i d aa sl hp K (some { eff := { val:=v,adds:=[],sets:=[],dels:=[],frz:=[] },gone:=[] })=UZ X M nx (i+1) aa (Zi sl d (ZbE b v)) hp K:=ZjQ X M b nx i d aa sl hp K v
@[congr] theorem ZqN {g g' : Option Bool} {nx i:Nat} {d:Option Nat} {op:COp} {aa:List CO} {sl:Sl} {hp:Hp} {K:Sl→Hp→Prop} (h:g=g') :
  ZjP X M g nx i d op aa sl hp K=ZjP X M g' nx i d op aa sl hp K:=by rw[h]
@[congr] theorem ZqO {b b' : Bool} {nx i:Nat} {d:Option Nat} {aa:List CO} {sl:Sl} {hp:Hp} {K:Sl→Hp→Prop} {e e' : Option Zb} (hb:b=b') (h:b'=true→e=e') :
  Vl X M b nx i d aa sl hp K e=Vl X M b' nx i d aa sl hp K e':=by
 subst hb;cases b
 ·simp[Vl,gW]
 ·rw[h rfl]
@[go_sem] theorem Zrq (nx i:Nat) (d:Option Nat) (aa:List CO) (sl:Sl) (hp:Hp) (K:Sl→Hp→Prop) (v:AV) :
  Wy X M nx i d aa sl hp K (Qj v)=UZ X M nx (i+1) aa (Zi sl d v) hp K:=rfl
@[go_sem] theorem ZrT (nx i:Nat) (d:Option Nat) (aa:List CO) (sl:Sl) (hp:Hp) (K:Sl→Hp→Prop) (v:AV) :
  Wy X M nx i d aa sl hp K (some { eff := { val:=v,adds:=[],sets:=[],dels:=[],frz:=[] },gone:=[] })=UZ X M nx (i+1) aa (Zi sl d v) hp K:=rfl
@[go_sem] theorem ZrU (nx i:Nat) (d:Option Nat) (aa:List CO) (sl:Sl) (hp:Hp) (K:Sl→Hp→Prop) (e:Zb) :
  Wy X M nx i d aa sl hp K (some e)=(Qp (nx+64*i) (nx+64*i+64) e.eff.adds=true∧UZ X M nx (i+1) aa (Zi (Qs e.gone sl) d e.eff.val) (e.eff.on (XN e.gone hp)) K):=by
 unfold Wy Q5;rw[Zc];split<;>rename_i h
 ·simp only[X1,h,true_and];rfl
 ·simp only[ZcZ,h,false_and,Ka]
@[go_sem] theorem ZrV (nx i:Nat) (d:Option Nat) (aa:List CO) (sl:Sl) (hp:Hp) (K:Sl→Hp→Prop):Wy X M nx i d aa sl hp K none=False:=rfl
@[go_sem] theorem stepW_ite (nx i:Nat) (d:Option Nat) (aa:List CO) (sl:Sl) (hp:Hp) (K:Sl→Hp→Prop) (c:Prop) [Decidable c] (a b:Option Zb) :
  Wy X M nx i d aa sl hp K (if c then a else b)=((c→Wy X M nx i d aa sl hp K a)∧(¬c→Wy X M nx i d aa sl hp K b)):=by
 by_cases h:c<;>simp[h]
noncomputable def Xv (nx:Nat):Nat→Bool→List CO→Sl→Hp→(Sl→Hp→Prop)→Prop
 | _,_,[],sl,hp,K=>K sl hp
 | i,tail,o :: rest,sl,hp,K=>gW (ZF sl o.guard)
   (stW (Q5 (nx+64*i) o.dst sl hp (XP (Zj X M) (Q9 M) nx i (CO.starts o) o.op sl hp)) fun r=>Xv nx (i+1) tail rest r.1 r.2 K)
   (Xv nx (i+1) tail rest (Zi sl o.dst (.tup [])) hp K)
def Ym (nx i:Nat) (t:Bool) (d:Option Nat) (rest:List CO) (sl:Sl) (hp:Hp) (K:Sl→Hp→Prop) (e:Option Zb):Prop:=
 stW (Q5 (nx+64*i) d sl hp (if t then e else Uo e)) fun r=>Xv X M nx (i+1) false rest r.1 r.2 K
@[go_sem] theorem opsDW_nil (nx i:Nat) (t:Bool) (sl:Sl) (hp:Hp) (K:Sl→Hp→Prop):Xv X M nx i t [] sl hp K=K sl hp:=rfl
@[go_sem] theorem ZrW (nx i:Nat) (d:Option Nat) (tl:Bool) (op:COp) (aa:List CO) (sl:Sl) (hp:Hp) (K:Sl→Hp→Prop) :
  Xv X M nx i false (⟨d,none,op,tl⟩ :: aa) sl hp K=Ym X M nx i (Zbv op || tl) d aa sl hp K (vop (Zj X M) (Q9 M) sl hp (nx+64*i) op):=by
 simp[Xv,Ym,ZF,Znl,XP,CO.starts]
def XI (b:Bool) (nx i:Nat) (t:Bool) (d:Option Nat) (rest:List CO) (sl:Sl) (hp:Hp) (K:Sl→Hp→Prop) (e:Option Zb):Prop:=
 gW (some b) (Ym X M nx i t d rest sl hp K e) (Xv X M nx (i+1) false rest (Zi sl d (.tup [])) hp K)
def Zff (g:Option Bool) (nx i:Nat) (t:Bool) (d:Option Nat) (op:COp) (rest:List CO) (sl:Sl) (hp:Hp) (K:Sl→Hp→Prop):Prop:=
 gW g (Ym X M nx i t d rest sl hp K (vop (Zj X M) (Q9 M) sl hp (nx+64*i) op)) (Xv X M nx (i+1) false rest (Zi sl d (.tup [])) hp K)
@[go_sem] theorem Zrr (nx i g:Nat) (w:Bool) (d:Option Nat) (tl:Bool) (op:COp) (aa:List CO) (sl:Sl) (hp:Hp) (K:Sl→Hp→Prop) :
  Xv X M nx i false (⟨d,some (g,w),op,tl⟩ :: aa) sl hp K=Zff X M (J6 w (gs sl g)) nx i (Zbv op || tl) d op aa sl hp K:=rfl
@[go_sem] theorem ZqP (b:Bool) (nx i:Nat) (t:Bool) (d:Option Nat) (op:COp) (aa:List CO) (sl:Sl) (hp:Hp) (K:Sl→Hp→Prop) :
  Zff X M (some b) nx i t d op aa sl hp K=XI X M b nx i t d aa sl hp K (vop (Zj X M) (Q9 M) sl hp (nx+64*i) op):=rfl
@[go_sem] theorem gC (nx i:Nat) (t:Bool) (d:Option Nat) (aa:List CO) (sl:Sl) (hp:Hp) (K:Sl→Hp→Prop) (e:Option Zb) :
  XI X M true nx i t d aa sl hp K e=Ym X M nx i t d aa sl hp K e:=by simp[XI,gW]
@[go_sem] theorem gD (nx i:Nat) (t:Bool) (d:Option Nat) (aa:List CO) (sl:Sl) (hp:Hp) (K:Sl→Hp→Prop) (e:Option Zb) :
  XI X M false nx i t d aa sl hp K e=Xv X M nx (i+1) false aa (Zi sl d (.tup [])) hp K:=by simp[XI,gW]
@[go_sem] theorem Zh0 (b:Bool) (nx i:Nat) (t:Bool) (d:Option Nat) (aa:List CO) (sl:Sl) (hp:Hp) (K:Sl→Hp→Prop) (v:AV) :
  XI X M b nx i t d aa sl hp K (Qj v)=Xv X M nx (i+1) false aa (Zi sl d (ZbE b v)) hp K:=by
 cases b
 ·simp[XI,gW,ZbE]
 ·simp only[XI,gW,ZbE,Ki,true_implies,Bool.true_eq_false,false_implies,and_true];cases t<;>rfl
@[go_sem] theorem ZqQ (b:Bool) (nx i:Nat) (t:Bool) (d:Option Nat) (aa:List CO) (sl:Sl) (hp:Hp) (K:Sl→Hp→Prop) (v:AV) :
  XI X M b nx i t d aa sl hp K (some { eff := { val:=v,adds:=[],sets:=[],dels:=[],frz:=[] },gone:=[] })=Xv X M nx (i+1) false aa (Zi sl d (ZbE b v)) hp K:=Zh0 X M b nx i t d aa sl hp K v
@[congr] theorem Zqv {g g' : Option Bool} {nx i:Nat} {t t' : Bool} {d:Option Nat} {op:COp} {aa:List CO} {sl:Sl} {hp:Hp} {K:Sl→Hp→Prop} (h:g=g') (ht:t=t') :
  Zff X M g nx i t d op aa sl hp K=Zff X M g' nx i t' d op aa sl hp K:=by rw[h,ht]
@[congr] theorem Zqw {b b' : Bool} {nx i:Nat} {t:Bool} {d:Option Nat} {aa:List CO} {sl:Sl} {hp:Hp} {K:Sl→Hp→Prop} {e e' : Option Zb} (hb:b=b') (h:b'=true→e=e') :
  XI X M b nx i t d aa sl hp K e=XI X M b' nx i t d aa sl hp K e':=by
 subst hb;cases b
 ·simp[XI,gW]
 ·rw[h rfl]
@[go_sem] theorem ZqR (nx i:Nat) (t:Bool) (d:Option Nat) (aa:List CO) (sl:Sl) (hp:Hp) (K:Sl→Hp→Prop) (v:AV) :
  Ym X M nx i t d aa sl hp K (Qj v)=Xv X M nx (i+1) false aa (Zi sl d v) hp K:=by cases t<;>rfl
@[go_sem] theorem Zrs (nx i:Nat) (t:Bool) (d:Option Nat) (aa:List CO) (sl:Sl) (hp:Hp) (K:Sl→Hp→Prop) (v:AV) :
  Ym X M nx i t d aa sl hp K (some { eff := { val:=v,adds:=[],sets:=[],dels:=[],frz:=[] },gone:=[] })=Xv X M nx (i+1) false aa (Zi sl d v) hp K:=by cases t<;>rfl
@[go_sem] theorem Zrt (nx i:Nat) (t:Bool) (d:Option Nat) (aa:List CO) (sl:Sl) (hp:Hp) (K:Sl→Hp→Prop) (e:Zb) :
  Ym X M nx i t d aa sl hp K (some e)=((t=false→Zaa e e.gone e.eff.sets e.eff.dels e.eff.frz=some e)∧Qp (nx+64*i) (nx+64*i+64) e.eff.adds=true∧Xv X M nx (i+1) false aa (Zi (Qs e.gone sl) d e.eff.val) (e.eff.on (XN e.gone hp)) K):=by
 have ab:stW (Q5 (nx+64*i) d sl hp (some e)) (fun r=>Xv X M nx (i+1) false aa r.1 r.2 K)=(Qp (nx+64*i) (nx+64*i+64) e.eff.adds=true∧Xv X M nx (i+1) false aa (Zi (Qs e.gone sl) d e.eff.val) (e.eff.on (XN e.gone hp)) K):=by
  unfold Q5;rw[Zc];split<;>rename_i h
  ·simp only[X1,h,true_and];rfl
  ·simp only[ZcZ,h,false_and,Ka]
 unfold Ym;cases t with
 | true=>simp only[Ki];rw[ab];simp
 | false=>
  simp only[Ka,Kh,Uo,Zc,true_implies];unfold Zaa;split
  ·rw[ab];simp
  ·simp[Q5,bnd,stW]
@[go_sem] theorem Zru (nx i:Nat) (t:Bool) (d:Option Nat) (aa:List CO) (sl:Sl) (hp:Hp) (K:Sl→Hp→Prop):Ym X M nx i t d aa sl hp K none=False:=by cases t<;>rfl
@[go_sem] theorem ZrX (nx i:Nat) (t:Bool) (d:Option Nat) (aa:List CO) (sl:Sl) (hp:Hp) (K:Sl→Hp→Prop) (c:Prop) [Decidable c] (a b:Option Zb) :
  Ym X M nx i t d aa sl hp K (if c then a else b)=((c→Ym X M nx i t d aa sl hp K a)∧(¬c→Ym X M nx i t d aa sl hp K b)):=by
 by_cases h:c<;>simp[h]
@[go_sem] theorem quietC_ok (c:Zb):Zaa c [] [] [] []=some c:=rfl
def W (c:ZB) (st:St) (Q:Ex→St→Prop):Prop:=stW (Qf X M c st) fun r=>Q r.1 r.2
@[congr] theorem W_congr {c:ZB} {st aa : St} {Q:Ex→St→Prop} (h:st=aa):W X M c st Q=W X M c aa Q:=by rw[h]
@[congr] theorem ZrY {aa:List CO} {nx ab i i' : Nat} {sl sl' : Sl} {hp hp' : Hp} {K:Sl→Hp→Prop} (hn:nx=ab) (hi:i=i') (h:sl=sl') (h' : hp=hp') :
  UZ X M nx i aa sl hp K=UZ X M ab i' aa sl' hp' K:=by rw[h,h',hn,hi]
@[congr] theorem Zrv {aa:List CO} {nx ab i i' : Nat} {t t' : Bool} {sl sl' : Sl} {hp hp' : Hp} {K:Sl→Hp→Prop} (hn:nx=ab) (hi:i=i') (ht:t=t') (h:sl=sl') (h' : hp=hp') :
  Xv X M nx i t aa sl hp K=Xv X M ab i' t' aa sl' hp' K:=by rw[h,h',ht,hn,hi]
@[congr] theorem Zrw {aa:List CO} {nx i:Nat} {d:Option Nat} {sl:Sl} {hp:Hp} {K:Sl→Hp→Prop} {e e' : Option Zb} (h:e=e') :
  Wy X M nx i d aa sl hp K e=Wy X M nx i d aa sl hp K e':=by rw[h]
@[congr] theorem ZqS {aa:List CO} {nx i:Nat} {t t' : Bool} {d:Option Nat} {sl:Sl} {hp:Hp} {K:Sl→Hp→Prop} {e e' : Option Zb} (ht:t=t') (h:e=e') :
  Ym X M nx i t d aa sl hp K e=Ym X M nx i t' d aa sl hp K e':=by rw[h,ht]
theorem ZqT (nx:Nat) (K:Sl→Hp→Prop):∀ (l:List CO) (i:Nat) (sl:Sl) (hp:Hp),UZ X M nx i l sl hp K=stW (ZaZ (Zj X M) M nx i l sl hp) fun r=>K r.1 r.2:=by
 intro l
 induction l with
 | nil=>intro i sl hp;rfl
 | cons o rest ih=>
  intro i sl hp;simp only[UZ,ZaZ,ih,WE];cases ZF sl o.guard with
  | none=>rfl
  | some b=>cases b<;>simp[gW,WE,X1]
theorem ZpB (nx:Nat) (K:Sl→Hp→Prop):∀ (l:List CO) (i:Nat) (t:Bool) (sl:Sl) (hp:Hp),Xv X M nx i t l sl hp K=stW (VC (Zj X M) (Q9 M) nx i t l sl hp) fun r=>K r.1 r.2:=by
 intro l
 induction l with
 | nil=>intro i t sl hp;rfl
 | cons o rest ih=>
  intro i t sl hp;simp only[Xv,VC,ih,WE];cases ZF sl o.guard with
  | none=>rfl
  | some b=>cases b<;>simp[gW,WE,X1]
def Zog (m nx:Nat) (Q:Ex→St→Prop) (sl:Sl) (hp:Hp):Prop:=Q .normal { sl:=sl,hp:=hp,nx:=nx,m:=m }
def Zli (ops:List CO) (ps:List (Nat×Nat)) (K:Sl→Hp→Prop) (sl:Sl) (hp:Hp):Prop:=YI ops sl ps=true∧K sl hp
@[go_sem] theorem regQ_eq (m nx:Nat) (Q:Ex→St→Prop) (sl:Sl) (hp:Hp):Zog m nx Q sl hp=Q .normal { sl:=sl,hp:=hp,nx:=nx,m:=m }:=rfl
@[go_sem] theorem seenQ_eq (ops:List CO) (ps:List (Nat×Nat)) (K:Sl→Hp→Prop) (sl:Sl) (hp:Hp):Zli ops ps K sl hp=(YI ops sl ps=true∧K sl hp):=rfl
@[go_sem] theorem W_skip (st:St) (Q:Ex→St→Prop):W X M .skip st Q=Q .normal st:=by simp[W,ZmL,X1]
@[go_sem] theorem W_ret (st:St) (Q:Ex→St→Prop):W X M .ret st Q=Q .ret st:=by simp[W,ZoD,X1]
@[go_sem] theorem W_exit (id:Nat) (st:St) (Q:Ex→St→Prop):W X M (.exit id) st Q=Q (.exit id) st:=by simp[W,ZmM,X1]
@[go_sem] theorem W_stuck (st:St) (Q:Ex→St→Prop):W X M .stuck st Q=False:=by
 have h:Qf X M .stuck st=none:=Xj fun n=>by simp only[Zu]
 simp only[W,h,ZcZ]
@[go_sem] theorem W_region (n:Nat) (ops:List CO) (st:St) (Q:Ex→St→Prop) :
  W X M (.region n none ops) st Q=UZ X M st.nx 0 ops st.sl st.hp (Zog st.m (st.nx+64*n) Q):=by
 rw[ZqT,W,Zke,Zfa,WE];rfl
theorem ZpC (n:Nat) (ps:List (Nat×Nat)) (ops:List CO) (st:St) (Q:Ex→St→Prop) :
  W X M (.region n (some ps) ops) st Q=Xv X M st.nx 0 false ops st.sl st.hp (Zli ops ps (Zog st.m (st.nx+64*n) Q)):=by
 rw[ZpB,W,ZmN,Zfa,WE,ZiO,WE];congr 1
 funext r
 by_cases h:YI ops r.1 ps=true<;>simp[h,Zli,X1,ZcZ,Zog]
@[go_sem] theorem W_draw0 (n:Nat) (ops:List CO) (st:St) (Q:Ex→St→Prop) :
  W X M (.region n (some []) ops) st Q=Xv X M st.nx 0 false ops st.sl st.hp (Zog st.m (st.nx+64*n) Q):=by
 rw[ZpC];congr 1
 funext sl hp
 simp[Zli,YI]
@[go_sem] theorem W_drawc (n:Nat) (p:Nat×Nat) (ps:List (Nat×Nat)) (ops:List CO) (st:St) (Q:Ex→St→Prop) :
  W X M (.region n (some (p :: ps)) ops) st Q=Xv X M st.nx 0 false ops st.sl st.hp (Zli ops (p :: ps) (Zog st.m (st.nx+64*n) Q)):=ZpC X M n _ ops st Q
def Znm (c:ZB) (Q:Ex→St→Prop):Ex→St→Prop
 | .normal,st=>W X M c st Q
 | e,st=>Q e st
def blkQ (id:Nat) (Q:Ex→St→Prop):Ex→St→Prop
 | .exit j,st=>if j=id then Q .normal st else Q (.exit j) st
 | e,st=>Q e st
@[go_sem] theorem ZqU (c:ZB) (Q:Ex→St→Prop) (st:St):Znm X M c Q .normal st=W X M c st Q:=rfl
@[go_sem] theorem thenQ_ret (c:ZB) (Q:Ex→St→Prop) (st:St):Znm X M c Q .ret st=Q .ret st:=rfl
@[go_sem] theorem ZrZ (c:ZB) (Q:Ex→St→Prop) (id:Nat) (st:St):Znm X M c Q (.exit id) st=Q (.exit id) st:=rfl
@[go_sem] theorem Zrx (id:Nat) (Q:Ex→St→Prop) (st:St):blkQ id Q .normal st=Q .normal st:=rfl
@[go_sem] theorem blkQ_ret (id:Nat) (Q:Ex→St→Prop) (st:St):blkQ id Q .ret st=Q .ret st:=rfl
@[go_sem] theorem blkQ_exit (id j:Nat) (Q:Ex→St→Prop) (st:St):blkQ id Q (.exit j) st=if j=id then Q .normal st else Q (.exit j) st:=rfl
@[go_sem] theorem W_seq (a b:ZB) (st:St) (Q:Ex→St→Prop):W X M (.seq a b) st Q=W X M a st (Znm X M b Q):=by
 unfold W;rw[ZoE];cases h:Qf X M a st with
 | none=>rfl
 | some r=>obtain⟨e,aa⟩:=r;cases e<;>rfl
@[go_sem] theorem W_cond (c:Opd) (a b:ZB) (st:St) (Q:Ex→St→Prop) :
  W X M (.cond c a b) st Q=Yk (evO st.sl c) (W X M a st Q) (W X M b st Q):=by
 unfold W;rw[ZmO];cases h:evO st.sl c with
 | d x=>cases x with
  | bool t=>cases t<;>simp[ZbZ,Yk]
  | _=>rfl
 | _=>rfl
@[go_sem] theorem W_block (id:Nat) (c:ZB) (st:St) (Q:Ex→St→Prop):W X M (.block id c) st Q=W X M c st (blkQ id Q):=by
 unfold W;rw[ZlH];cases h:Qf X M c st with
 | none=>rfl
 | some r=>
  obtain⟨e,aa⟩:=r;cases e with
  | exit j=>by_cases hj:j=id<;>simp[Za2,hj,X1,blkQ]
  | normal=>rfl
  | ret=>rfl
def keepQ (K:List Nat) (Q:Ex→St→Prop) (e:Ex) (st:St):Prop:=Q e { sl:=only K st.sl,hp:=st.hp,nx:=st.nx,m:=st.m }
@[go_sem] theorem keepQ_eq (K:List Nat) (Q:Ex→St→Prop) (e:Ex) (st:St):keepQ K Q e st=Q e { sl:=only K st.sl,hp:=st.hp,nx:=st.nx,m:=st.m }:=rfl
@[go_sem] theorem W_keep (K:List Nat) (c:ZB) (st:St) (Q:Ex→St→Prop):W X M (.keep K c) st Q=W X M c st (keepQ K Q):=by
 unfold W;rw[ZmP];cases h:Qf X M c st with
 | none=>rfl
 | some r=>rfl
def shutQ (id nm:Nat) (Q:Ex→St→Prop) (e:Ex) (st:St):Prop:=Q e { sl:=st.sl,hp:=ZoB st.hp (ZeL st.hp id nm (lkp st.hp id)),nx:=st.nx,m:=st.m }
@[go_sem] theorem shutQ_eq (id nm:Nat) (Q:Ex→St→Prop) (e:Ex) (st:St):shutQ id nm Q e st=Q e { sl:=st.sl,hp:=ZoB st.hp (ZeL st.hp id nm (lkp st.hp id)),nx:=st.nx,m:=st.m }:=rfl
def ZgB (c:ZB) (Q:Ex→St→Prop) (r:Option St):Prop:=stW r fun st=>W X M c st Q
@[go_sem] theorem Zr0 (c:ZB) (Q:Ex→St→Prop) (st:St):ZgB X M c Q (some st)=W X M c st Q:=rfl
@[go_sem] theorem Zr1 (c:ZB) (Q:Ex→St→Prop):ZgB X M c Q none=False:=rfl
@[go_sem] theorem linkW_ite (c:ZB) (Q:Ex→St→Prop) (p:Prop) [Decidable p] (a b:Option St):ZgB X M c Q (if p then a else b)=((p→ZgB X M c Q a)∧(¬p→ZgB X M c Q b)):=by
 by_cases h:p<;>simp[h]
@[go_sem] theorem W_link (fl:Bool) (id:Nat) (i:Opd) (j:Nat) (c:ZB) (st:St) (Q:Ex→St→Prop):W X M (.link fl id i j c) st Q=ZgB X M c (shutQ id st.nx Q) (Zab fl id i j st):=by
 unfold W ZgB;rw[ZmQ];cases h:Zab fl id i j st with
 | none=>rfl
 | some st1=>
  simp only[Zc,X1,W];cases h1:Qf X M c st1 with
  | none=>rfl
  | some q=>rfl
@[go_sem] theorem W_melt (c:ZB) (st:St) (Q:Ex→St→Prop):W X M (.melt c) st Q=W X M c { sl:=st.sl,hp:=ZdG Zc6 st.hp,nx:=st.nx,m:=st.m } Q:=by
 unfold W;rw[ZmR];rfl
def LW (c:ZB) (K:List Nat) (st:St) (Q:Ex→St→Prop):Prop:=stW (Za4 X M c K st) fun r=>Q r.1 r.2
@[congr] theorem LW_congr {c:ZB} {K K' : List Nat} {st aa : St} {Q:Ex→St→Prop} (hk:K=K') (h:st=aa):LW X M c K st Q=LW X M c K' aa Q:=by rw[h,hk]
@[go_sem] theorem W_loop (c:ZB) (st:St) (Q:Ex→St→Prop):W X M (.loop c) st Q=LW X M c (Wu st.sl) st Q:=by
 unfold W LW;rw[ZmS]
def ZgC (c:ZB) (K:List Nat) (Q:Ex→St→Prop):Ex→St→Prop
 | .normal,st=>LW X M c K st Q
 | e,st=>Q e st
@[go_sem] theorem ZqV (c:ZB) (K:List Nat) (Q:Ex→St→Prop) (st:St):ZgC X M c K Q .normal st=LW X M c K st Q:=rfl
@[go_sem] theorem nextQ_ret (c:ZB) (K:List Nat) (Q:Ex→St→Prop) (st:St):ZgC X M c K Q .ret st=Q .ret st:=rfl
@[go_sem] theorem Zr2 (c:ZB) (K:List Nat) (Q:Ex→St→Prop) (id:Nat) (st:St):ZgC X M c K Q (.exit id) st=Q (.exit id) st:=rfl
theorem ZpD {c:ZB} {K:List Nat} {st:St} {Q:Ex→St→Prop} (h:W X M c (Y0 K st) (ZgC X M c K Q)):LW X M c K st Q:=by
 unfold W at h;cases hv:Qf X M c (Y0 K st) with
 | none=>rw[hv] at h;exact h.elim
 | some r=>
  rw[hv] at h;obtain⟨e,aa⟩:=r;unfold LW;cases e with
  | normal=>rw[ZlI X M hv];exact h
  | exit id=>rw[Zha X M (by simp) hv];exact h
  | ret=>rw[Zha X M (by simp) hv];exact h
def ZgD (sl:Sl):Sl→Sl
 | []=>sl
 | (k,v) :: r=>ZgD (ins sl k v) r
def ZbV (hp:Hp):Hp→Hp
 | []=>hp
 | (k,o) :: r=>ZbV (ins hp k o) r
theorem LW_ind {α:Type} (S:α→St) (I:α→Prop) (μ:α→Nat) {c:ZB} {K:List Nat} {Q:Ex→St→Prop}
  (step:∀ a,I a→(∀ b st,I b→μ b<μ a→Y0 K st=S b→LW X M c K st Q)→W X M c (S a) (ZgC X M c K Q)) :
  ∀ a st,I a→Y0 K st=S a→LW X M c K st Q:=by
 have aa:∀ n a st,μ a=n→I a→Y0 K st=S a→LW X M c K st Q:=by
  intro n
  induction n using Nat.strongRecOn with
  | ind n ih=>
   intro a st hn ha hs;refine ZpD X M ?_;rw[hs];exact step a ha fun b ab hb ae ad=>ih (μ b) (by omega) b ab rfl hb ad
 exact fun a st ha hs=>aa _ a st rfl ha hs
theorem V6 {α:Type} (u:α→Sl) (uh:α→Hp) (I:α→Prop) (μ:α→Nat) (a:α) {c:ZB} {K:List Nat} {Q:Ex→St→Prop} {st st0:St}
  (hc:Y0 K st=st0) (ha:I a) (h0:(⟨ZgD st0.sl (u a),ZbV st0.hp (uh a),st0.nx,st0.m⟩:St)=st0)
  (step:∀ a,I a→(∀ b st,I b→μ b<μ a→Y0 K st=⟨ZgD st0.sl (u b),ZbV st0.hp (uh b),st0.nx,st0.m⟩→LW X M c K st Q)→W X M c ⟨ZgD st0.sl (u a),ZbV st0.hp (uh a),st0.nx,st0.m⟩ (ZgC X M c K Q)) :
  LW X M c K st Q:=
 LW_ind X M (fun a=>⟨ZgD st0.sl (u a),ZbV st0.hp (uh a),st0.nx,st0.m⟩) I μ step a st ha (hc.trans h0.symm)
def ZjR (m:Nat) (rs:List Zh3) (R:AV×List Zh→Prop):Ex→St→Prop:=fun e st=>stW (U6 m rs (some (e,st))) R
def resW (m:Nat) (hp:Hp) (R:AV×List Zh→Prop) (vs:Option (List AV)):Prop:=stW vs fun vs=>R (X8 m hp (Up vs))
@[go_sem] theorem resW_some (m:Nat) (hp:Hp) (R:AV×List Zh→Prop) (vs:List AV):resW m hp R (some vs)=R (X8 m hp (Up vs)):=rfl
@[go_sem] theorem resW_none (m:Nat) (hp:Hp) (R:AV×List Zh→Prop):resW m hp R none=False:=rfl
@[go_sem] theorem endQ_ret (m:Nat) (rs:List Zh3) (R:AV×List Zh→Prop) (st:St):ZjR m rs R .ret st=resW m st.hp R (Z5 (Zg8 st) rs):=by
 simp only[ZjR,U6,WE];rfl
@[go_sem] theorem Zry (m:Nat) (rs:List Zh3) (R:AV×List Zh→Prop) (st:St):ZjR m rs R .normal st=resW m st.hp R (Z5 (Zg8 st) rs):=by
 simp only[ZjR,U6,WE];rfl
theorem ZpE {f:Nat} {as:List AV} {h:List Zh} (fn:ZL) {R:AV×List Zh→Prop} (hx:X f=some (.text fn)) (hl:as.length≤fn.nt)
  (hr:W X M fn.body { sl:=XO 0 as,hp:=X7 0 h,nx:=h.length,m:=h.length } (ZjR h.length fn.res R)):∃ r,Zj X M f as h=some r∧R r:=by
 unfold W at hr;cases hv:Qf X M fn.body { sl:=XO 0 as,hp:=X7 0 h,nx:=h.length,m:=h.length } with
 | none=>rw[hv] at hr;exact hr.elim
 | some q=>
  rw[hv] at hr;obtain⟨e,st⟩:=q;simp only[X1,ZjR] at hr;cases hk:U6 h.length fn.res (some (e,st)) with
  | none=>rw[hk] at hr;exact hr.elim
  | some r=>rw[hk] at hr;exact⟨r,ZpY X M hx hl (by rw[hv];exact hk),hr⟩
theorem callE {f:Nat} {as:List AV} {h:List Zh} (fn:ZL) {r:AV×List Zh} (hx:X f=some (.text fn)) (hl:as.length≤fn.nt)
  (hr:W X M fn.body { sl:=XO 0 as,hp:=X7 0 h,nx:=h.length,m:=h.length } (ZjR h.length fn.res fun q=>q=r)):Zj X M f as h=some r:=by
 obtain⟨q,hq,rfl⟩:=ZpE X M fn hx hl hr;exact hq
end
@[go_sem] theorem vopE_move (C:Orc) (M:Zf) (sl:Sl) (hp:Hp) (base:Nat) (x:Opd):vop C M sl hp base (.move x)=Qj (evO sl x):=by simp only[vop]
@[go_sem] theorem Zrz (C:Orc) (M:Zf) (sl:Sl) (hp:Hp) (base:Nat) (s:Option Nat) (x:Opd):vop C M sl hp base (.assign s x)=JY base s (evO sl x):=by simp only[vop]
@[go_sem] theorem vopE_pick (C:Orc) (M:Zf) (sl:Sl) (hp:Hp) (base:Nat) (c a b:Opd):vop C M sl hp base (.pick c a b)=ZaW (evO sl a) (evO sl b) (evO sl c):=by simp only[vop]
@[go_sem] theorem Zr3 (C:Orc) (M:Zf) (sl:Sl) (hp:Hp) (base:Nat) (slc:List (Option Nat)) (cs:List AV):vop C M sl hp base (.alloc slc cs)=ZaX slc base cs:=by simp only[vop]
@[go_sem] theorem vopE_box (C:Orc) (M:Zf) (sl:Sl) (hp:Hp) (base:Nat) (x:Opd):vop C M sl hp base (.box x)=Zoq base (evO sl x):=by simp only[vop]
@[go_sem] theorem Zr4 (C:Orc) (M:Zf) (sl:Sl) (hp:Hp) (base:Nat) (zs:List AV) (ps:List (Nat×Nat×Opd)):vop C M sl hp base (.build zs ps)=ZgN zs (evP sl ps):=by simp only[vop]
@[go_sem] theorem ZqW (C:Orc) (M:Zf) (sl:Sl) (hp:Hp) (base:Nat) (s:Nat) (xs:List Opd):vop C M sl hp base (.buildSl s xs)=buildSl hp base s (evL sl xs):=by simp only[vop]
@[go_sem] theorem vopE_load (C:Orc) (M:Zf) (sl:Sl) (hp:Hp) (base:Nat) (g:Bool) (s:Nat) (a:Opd):vop C M sl hp base (.load g s a)=XF (YD hp g s (evO sl a)):=by simp only[vop]
@[go_sem] theorem Zr5 (C:Orc) (M:Zf) (sl:Sl) (hp:Hp) (base:Nat) (slc:List (Option Nat)) (s:Nat) (a x:Opd):vop C M sl hp base (.store slc s a x)=Zaq (Wr hp slc s base (evO sl x).cells (evO sl a)):=by simp only[vop]
@[go_sem] theorem Zqx (C:Orc) (M:Zf) (sl:Sl) (hp:Hp) (base:Nat) (x:Opd):vop C M sl hp base (.nilCheck x)=VU (evO sl x):=by simp only[vop]
@[go_sem] theorem vopE_bin (C:Orc) (M:Zf) (sl:Sl) (hp:Hp) (base:Nat) (op:BinOp) (eq:Bool) (x y:Opd):vop C M sl hp base (.bin op eq x y)=ZgO op eq (evO sl x) (evO sl y):=by simp only[vop]
@[go_sem] theorem vopE_un (C:Orc) (M:Zf) (sl:Sl) (hp:Hp) (base:Nat) (op:UnOp) (x:Opd):vop C M sl hp base (.un op x)=XF (vun op (evO sl x)):=by simp only[vop]
@[go_sem] theorem vopE_eqA (C:Orc) (M:Zf) (sl:Sl) (hp:Hp) (base:Nat) (neg:Bool) (ks:List Nat) (x y:Opd):vop C M sl hp base (.eqA neg ks x y)=ZjX neg ks (evO sl x) (evO sl y):=by simp only[vop]
@[go_sem] theorem Zr6 (C:Orc) (M:Zf) (sl:Sl) (hp:Hp) (base:Nat) (k:IntKind) (x:Opd):vop C M sl hp base (.convI k x)=convI k (evO sl x):=by simp only[vop]
@[go_sem] theorem Zr7 (C:Orc) (M:Zf) (sl:Sl) (hp:Hp) (base:Nat) (x:Opd):vop C M sl hp base (.convS x)=convS (evO sl x):=by simp only[vop]
@[go_sem] theorem vopE_fn (C:Orc) (M:Zf) (sl:Sl) (hp:Hp) (base:Nat) (f:Nat) (cs:List Opd):vop C M sl hp base (.fn f cs)=XF (cloV f (evL sl cs)):=by simp only[vop]
@[go_sem] theorem vopE_make (C:Orc) (M:Zf) (sl:Sl) (hp:Hp) (base:Nat) (s b:Nat) (z:D) (l c:Opd):vop C M sl hp base (.make s b z l c)=bnd (idx (evO sl l)) fun l=>bnd (idx (evO sl c)) fun c=>ZiG base s b z l c:=by simp only[vop]
@[go_sem] theorem Zr8 (C:Orc) (M:Zf) (sl:Sl) (hp:Hp) (base:Nat) (s:Nat) (x:Opd) (lo hi:Option Opd):vop C M sl hp base (.slice s x lo hi)=XF (XE hp s (evM sl lo) (evM sl hi) (evO sl x)):=by simp only[vop]
@[go_sem] theorem ZrA (C:Orc) (M:Zf) (sl:Sl) (hp:Hp) (base:Nat) (x:Opd) (lo hi:Option Opd):vop C M sl hp base (.sliceS x lo hi)=XF (sliceS (evM sl lo) (evM sl hi) (evO sl x)):=by simp only[vop]
@[go_sem] theorem ZrB (C:Orc) (M:Zf) (sl:Sl) (hp:Hp) (base:Nat) (x hi mx:Opd):vop C M sl hp base (.slice0 x hi mx)=XF (slice0 hp (evO sl x) (idx (evO sl hi)) (idx (evO sl mx))):=by simp only[vop]
@[go_sem] theorem Zr9 (C:Orc) (M:Zf) (sl:Sl) (hp:Hp) (base:Nat) (off:Nat) (x:Opd):vop C M sl hp base (.shift off x)=X4 off (evO sl x):=by simp only[vop]
@[go_sem] theorem vopE_part (C:Orc) (M:Zf) (sl:Sl) (hp:Hp) (base:Nat) (g:Bool) (s off:Nat) (x:Opd):vop C M sl hp base (.part g s off x)=XF (Zc5 g s off (evO sl x)):=by simp only[vop]
@[go_sem] theorem vopE_iaS (C:Orc) (M:Zf) (sl:Sl) (hp:Hp) (base:Nat) (s:Nat) (x i:Opd):vop C M sl hp base (.iaS s x i)=bnd (idx (evO sl i)) fun n=>ZbY hp s (evO sl x) n:=by simp only[vop]
@[go_sem] theorem vopE_iaA (C:Orc) (M:Zf) (sl:Sl) (hp:Hp) (base:Nat) (len s:Nat) (x i:Opd):vop C M sl hp base (.iaA len s x i)=bnd (idx (evO sl i)) fun n=>ZgQ (evO sl x) n len s:=by simp only[vop]
@[go_sem] theorem vopE_ixS (C:Orc) (M:Zf) (sl:Sl) (hp:Hp) (base:Nat) (x i:Opd):vop C M sl hp base (.ixS x i)=bnd (idx (evO sl i)) fun n=>Zmy n (evO sl x):=by simp only[vop]
@[go_sem] theorem vopE_ixA (C:Orc) (M:Zf) (sl:Sl) (hp:Hp) (base:Nat) (g:Bool) (s len:Nat) (x i:Opd):vop C M sl hp base (.ixA g s len x i)=bnd (idx (evO sl i)) fun n=>Zos g s len n (evO sl x):=by simp only[vop]
@[go_sem] theorem vopE_nth (C:Orc) (M:Zf) (sl:Sl) (hp:Hp) (base:Nat) (i:Nat) (x:Opd):vop C M sl hp base (.nth i x)=Zlt i (evO sl x):=by simp only[vop]
@[go_sem] theorem vopE_len (C:Orc) (M:Zf) (sl:Sl) (hp:Hp) (base:Nat) (x:Opd):vop C M sl hp base (.len x)=bnd (UY hp (evO sl x)) fun n=>Qj (.d (.int .i64 n)):=by simp only[vop]
@[go_sem] theorem vopE_lenS (C:Orc) (M:Zf) (sl:Sl) (hp:Hp) (base:Nat) (x:Opd):vop C M sl hp base (.lenS x)=bnd (ZnQ (evO sl x)) fun n=>Qj (.d (.int .i64 n)):=by simp only[vop]
@[go_sem] theorem ZrC (C:Orc) (M:Zf) (sl:Sl) (hp:Hp) (base:Nat) (s b:Nat) (str flat:Bool) (x y:Opd):vop C M sl hp base (.append s b str flat x y)=Zlu hp s b str flat base (evO sl x) (evO sl y):=by simp only[vop]
@[go_sem] theorem vopE_min (C:Orc) (M:Zf) (sl:Sl) (hp:Hp) (base:Nat) (x y:Opd):vop C M sl hp base (.min x y)=ZeF (evO sl x) (evO sl y):=by simp only[vop]
@[go_sem] theorem vopE_max (C:Orc) (M:Zf) (sl:Sl) (hp:Hp) (base:Nat) (x y:Opd):vop C M sl hp base (.max x y)=ZeG (evO sl x) (evO sl y):=by simp only[vop]
@[go_sem] theorem vopE_call (C:Orc) (M:Zf) (sl:Sl) (hp:Hp) (base:Nat) (f:Opd) (as:List Opd):vop C M sl hp base (.call f as)=U3 C M hp base (evL sl as) (evO sl f):=by simp only[vop]
@[go_sem] theorem ZrD (C:Orc) (M:Zf) (sl:Sl) (hp:Hp) (base:Nat) (s:Nat) (x lo hi mx:Opd):vop C M sl hp base (.slice3 s x lo hi mx)=XF (slice3 hp (evO sl x) (idx (evO sl lo)) (idx (evO sl hi)) (idx (evO sl mx))):=by simp only[vop]
@[go_sem] theorem Zsa (C:Orc) (M:Zf) (sl:Sl) (hp:Hp) (base:Nat) (s:Nat) (z:D) (x:Opd):vop C M sl hp base (.clear s z x)=Zaq (JU hp s z (evO sl x)):=by simp only[vop]
@[go_sem] theorem ZrE (C:Orc) (M:Zf) (sl:Sl) (hp:Hp) (base:Nat) (s n:Nat) (xs:List Opd):vop C M sl hp base (.buildT s n xs)=buildT hp base s n (evL sl xs):=by simp only[vop]
@[go_sem] theorem vopE_appT (C:Orc) (M:Zf) (sl:Sl) (hp:Hp) (base:Nat) (s b:Nat) (f:Bool) (x y:Opd):vop C M sl hp base (.appT s b f x y)=appT hp s b base (evO sl x) (evO sl y):=by simp only[vop]
@[go_sem] theorem vopE_asgT (C:Orc) (M:Zf) (sl:Sl) (hp:Hp) (base:Nat) (s n:Nat) (x:Opd):vop C M sl hp base (.asgT s n x)=asgT base s n (evO sl x):=by simp only[vop]
@[go_sem] theorem Zsb (C:Orc) (M:Zf) (sl:Sl) (hp:Hp) (base:Nat) (s b n:Nat) (z:D) (l c:Opd):vop C M sl hp base (.makeT s b n z l c)=bnd (idx (evO sl l)) fun l=>bnd (idx (evO sl c)) fun c=>makeT base s b n z l c:=by simp only[vop]
@[go_sem] theorem Zsc (C:Orc) (M:Zf) (sl:Sl) (hp:Hp) (base:Nat):vop C M sl hp base .stuck=none:=by simp only[vop]
@[go_sem] theorem Zoh (hp:Hp) (n:Nat) (aa:List Nat):Qr hp n [] aa=aa:=by cases n<;>rfl
@[go_sem] theorem tidy_d (hp:Hp) (ids:List Nat) (x:D):Jn hp ids (.d x)=.d x:=rfl
@[go_sem] theorem tidy_nil (hp:Hp) (ids:List Nat):Jn hp ids .nil=.nil:=rfl
@[go_sem] theorem tidy_junk (hp:Hp) (ids:List Nat):Jn hp ids .junk=.junk:=rfl
@[go_sem] theorem tidy_tup (hp:Hp) (ids:List Nat) (vs:List AV):Jn hp ids (.tup vs)=ren (XK ids) (kill (Za0 hp ids (Zl (.tup vs))) (.tup vs)):=rfl
@[go_sem] theorem tidy_agg (hp:Hp) (ids:List Nat) (vs:List AV):Jn hp ids (.agg vs)=ren (XK ids) (kill (Za0 hp ids (Zl (.agg vs))) (.agg vs)):=rfl
@[go_sem] theorem tidy_clo (hp:Hp) (ids:List Nat) (f:Nat) (vs:List AV):Jn hp ids (.clo f vs)=ren (XK ids) (kill (Za0 hp ids (Zl (.clo f vs))) (.clo f vs)):=rfl
@[go_sem] theorem tidy_nilp (hp:Hp) (ids:List Nat):Jn hp ids .nilp=.nilp:=rfl
@[go_sem] theorem tidy_nili (hp:Hp) (ids:List Nat):Jn hp ids .nili=.nili:=rfl
@[go_sem] theorem tidy_pim (hp:Hp) (ids:List Nat) (cs:List D):Jn hp ids (.pim cs)=.pim cs:=rfl
@[go_sem] theorem tidy_ptr (hp:Hp) (ids:List Nat) (id o:Nat):Jn hp ids (.ptr id o)=if U5 hp ids id=true then .ptr (XK ids id) o else .junk:=by
 simp only[Jn,Zl,Zn,Ze,Za0];split<;>simp[kill,Zy,ZN,ren,Jb,JL]
@[go_sem] theorem tidy_prow (hp:Hp) (ids:List Nat) (id s i o:Nat):Jn hp ids (.prow id s i o)=if U5 hp ids id=true then .prow (XK ids id) s i o else .junk:=by
 simp only[Jn,Zl,Zn,Ze,Za0];split<;>simp[kill,Zy,ZN,ren,Jb,JL]
@[go_sem] theorem tidy_own (hp:Hp) (ids:List Nat) (id:Nat):Jn hp ids (.own id)=if U5 hp ids id=true then .own (XK ids id) else .junk:=by
 simp only[Jn,Zl,Zn,Ze,Za0];split<;>simp[kill,Zy,ZN,ren,Jb,JL]
@[go_sem] theorem tidy_ownv (hp:Hp) (ids:List Nat) (id a b:Nat):Jn hp ids (.ownv id a b)=if U5 hp ids id=true then .ownv (XK ids id) a b else .junk:=by
 simp only[Jn,Zl,Zn,Ze,Za0];split<;>simp[kill,Zy,ZN,ren,Jb,JL]
@[go_sem] theorem Zsd (hp:Hp) (x:D):X8 0 hp (.d x)=(.d x,[]):=by
 simp[X8,Zl,Zn,Ze,Yg,Zoh,tidy_d,U1]
@[go_sem] theorem minI_eq (a b:Int):minI a b=min a b:=by unfold minI;split<;>omega
@[go_sem] theorem maxI_eq (a b:Int):maxI a b=max a b:=by unfold maxI;split<;>omega
@[go_sem] theorem negIf_f (r:Bool):ZgP false r=r:=rfl
@[go_sem] theorem negIf_t (r:Bool):ZgP true r=!r:=rfl
@[go_sem] theorem opt1_some (v:AV):XF (some v)=Qj v:=rfl
@[go_sem] theorem opt1_none:XF none=none:=rfl
@[go_sem] theorem vbin_int (op:BinOp) (k k' : IntKind) (a b:Int):vbin op (.d (.int k a)) (.d (.int k' b))=VN op k k' a b:=rfl
@[go_sem] theorem binV_int (op:BinOp) (eq:Bool) (k k' : IntKind) (a b:Int):ZgO op eq (.d (.int k a)) (.d (.int k' b))=XF (VN op k k' a b):=rfl
@[go_sem] theorem binV_str (op:BinOp) (eq:Bool) (a b:List UInt8):ZgO op eq (.d (.str a)) (.d (.str b))=XF (asD (ZkR op a b)):=rfl
@[go_sem] theorem int2_add (k:IntKind) (a b:Int):VN .add k k a b=some (.d (.int k (k.wrap (a+b)))):=by simp[VN,YL,asD,Zc]
@[go_sem] theorem int2_sub (k:IntKind) (a b:Int):VN .sub k k a b=some (.d (.int k (k.wrap (a-b)))):=by simp[VN,YL,asD,Zc]
@[go_sem] theorem int2_mul (k:IntKind) (a b:Int):VN .mul k k a b=some (.d (.int k (k.wrap (a*b)))):=by simp[VN,YL,asD,Zc]
@[go_sem] theorem int2_quo (k:IntKind) (a b:Int):VN .quo k k a b=if b=0 then none else some (.d (.int k (k.wrap (a.tdiv b)))):=by simp only[VN,YL,asD,if_true];split<;>rfl
@[go_sem] theorem int2_rem (k:IntKind) (a b:Int):VN .rem k k a b=if b=0 then none else some (.d (.int k (a.tmod b))):=by simp only[VN,YL,asD,if_true];split<;>rfl
@[go_sem] theorem int2_eql (k:IntKind) (a b:Int):VN .eql k k a b=some (.d (.bool (decide (a=b)))):=by simp[VN,YL,asD,Zc,BEq.beq]
@[go_sem] theorem int2_neq (k:IntKind) (a b:Int):VN .neq k k a b=some (.d (.bool (!decide (a=b)))):=by simp[VN,YL,asD,Zc,bne,BEq.beq]
@[go_sem] theorem int2_lss (k:IntKind) (a b:Int):VN .lss k k a b=some (.d (.bool (decide (a<b)))):=by simp[VN,YL,asD,Zc]
@[go_sem] theorem int2_leq (k:IntKind) (a b:Int):VN .leq k k a b=some (.d (.bool (decide (a≤b)))):=by simp[VN,YL,asD,Zc]
@[go_sem] theorem int2_gtr (k:IntKind) (a b:Int):VN .gtr k k a b=some (.d (.bool (decide (b<a)))):=by simp[VN,YL,asD,Zc]
@[go_sem] theorem int2_geq (k:IntKind) (a b:Int):VN .geq k k a b=some (.d (.bool (decide (b≤a)))):=by simp[VN,YL,asD,Zc]
@[go_sem] theorem guardV_t (b:Bool):J6 true (.d (.bool b))=some b:=by cases b<;>rfl
def nb (b:Bool):Bool:=!b
@[go_sem] theorem nb_true:nb true=false:=rfl
@[go_sem] theorem nb_false:nb false=true:=rfl
@[go_sem] theorem nb_eq (b:Bool):(nb b=true)=(b=false):=by cases b<;>simp[nb]
@[go_sem] theorem guardV_f (b:Bool):J6 false (.d (.bool b))=some (nb b):=by cases b<;>rfl
@[go_sem] theorem Zse (w:Bool):J6 w (.tup [])=some false:=rfl
@[go_sem] theorem ZqX (a b:Bool):J6 true (ZbE a (.d (.bool b)))=some (a&&b):=by cases a<;>cases b<;>rfl
@[go_sem] theorem ZqY (a b:Bool):J6 false (ZbE a (.d (.bool b)))=some (a&&nb b):=by cases a<;>cases b<;>rfl
@[go_sem] theorem iteV_true (v:AV):ZbE true v=v:=rfl
@[go_sem] theorem Zsf (v:AV):ZbE false v=.tup []:=rfl
@[go_sem] theorem Zsg (a b:AV):ZaW a b (.d (.bool true))=Qj a:=rfl
@[go_sem] theorem ZrF (a b:AV):ZaW a b (.d (.bool false))=Qj b:=rfl
@[go_sem] theorem pickV_or (b c:Bool):ZaW (.d (.bool true)) (ZbE (nb b) (.d (.bool c))) (.d (.bool b))=Qj (.d (.bool (b || c))):=by cases b<;>rfl
@[go_sem] theorem pickV_and (b c:Bool):ZaW (ZbE b (.d (.bool c))) (.d (.bool false)) (.d (.bool b))=Qj (.d (.bool (b&&c))):=by cases b<;>rfl
theorem Zsh (a b:AV) (t:Bool):ZaW a b (.d (.bool t))=if t=true then Qj a else Qj b:=by cases t<;>rfl
@[go_sem] theorem dec_or (p q:Prop) [Decidable p] [Decidable q]:(decide p || decide q)=decide (p∨q):=by simp
@[go_sem] theorem dec_and (p q:Prop) [Decidable p] [Decidable q]:(decide p&&decide q)=decide (p∧q):=by simp
@[go_sem] theorem dec_not (p:Prop) [Decidable p]:(!decide p)=decide (¬p):=by simp
attribute [go_sem] Bool.or_eq_false_iff decide_eq_true_eq decide_eq_false_iff_not Bool.and_eq_true Bool.or_eq_true Bool.not_eq_true' Bool.not_eq_false' not_or Decidable.not_not
@[go_sem] theorem evO_t (sl:Sl) (n:Nat):evO sl (.t n)=gs sl n:=rfl
@[go_sem] theorem evO_v (sl:Sl) (a:AV):evO sl (.v a)=a:=rfl
@[go_sem] theorem evO_f (sl:Sl) (n:Nat):evO sl (.f n)=.clo n []:=rfl
@[go_sem] theorem gs_hit (k:Nat) (v:AV) (r:Sl):gs ((k,v) :: r) k=v:=by simp[gs,lkp,UW]
@[go_sem] theorem gs_cons (k t:Nat) (v:AV) (r:Sl):gs ((k,v) :: r) t=if k=t then v else gs r t:=by
 by_cases h:k=t<;>simp[gs,lkp,h,UW]
@[go_sem] theorem gs_nil (t:Nat):gs [] t=.junk:=rfl
attribute [go_sem] JJ.eq_1 JJ.eq_2
attribute [go_sem] Vh.eq_1 Vh.eq_2 Vh.eq_3 Vh.eq_4
attribute [go_sem] ZcJ.eq_1 ZcJ.eq_2 ZcJ.eq_3 ZcJ.eq_4
attribute [go_sem] Wg.eq_1 Wg.eq_2
attribute [go_sem] St.hp.eq_1
attribute [go_sem] Uy.eq_1 Uy.eq_2 Uy.eq_3
attribute [go_sem] UW.eq_1 UW.eq_2
attribute [go_sem] agg2.eq_1 agg2.eq_2 agg2.eq_3
attribute [go_sem] ins.eq_1 ins.eq_2
attribute [go_sem] JK.eq_1 JK.eq_2
attribute [go_sem] QK.eq_1 QK.eq_2 QK.eq_3
attribute [go_sem] St.m.eq_1
attribute [go_sem] bnd.eq_1 bnd.eq_2
attribute [go_sem] Yc.eq_1 Yc.eq_2 Yc.eq_3
attribute [go_sem] ZkR.eq_1 ZkR.eq_2 ZkR.eq_3 ZkR.eq_4
attribute [go_sem] AV.cells.eq_1 AV.cells.eq_2 AV.cells.eq_3 AV.cells.eq_4 AV.cells.eq_5 AV.cells.eq_6 AV.cells.eq_7 AV.cells.eq_8 AV.cells.eq_9 AV.cells.eq_10 AV.cells.eq_11 AV.cells.eq_12 AV.cells.eq_13 AV.cells.eq_14 AV.cells.eq_15
attribute [go_sem] ZN.eq_1 ZN.eq_2 ZN.eq_3 ZN.eq_4 ZN.eq_5 ZN.eq_6
attribute [go_sem] AV.solid.eq_1 AV.solid.eq_2 AV.solid.eq_3 AV.solid.eq_4
attribute [go_sem] XH.eq_1 XH.eq_2
attribute [go_sem] Z5.eq_1 Z5.eq_2
attribute [go_sem] Q2.eq_1 Q2.eq_2
attribute [go_sem] Vg.eq_1
attribute [go_sem] UY.eq_1 UY.eq_2 UY.eq_3 UY.eq_4 UY.eq_5
attribute [go_sem] XW.eq_1 XW.eq_2
attribute [go_sem] D.flat.eq_1
attribute [go_sem] give.eq_1 give.eq_2
attribute [go_sem] D.beq1.eq_1 D.beq1.eq_2 D.beq1.eq_3 D.beq1.eq_4
attribute [go_sem] JL.eq_1 JL.eq_2 JL.eq_3 JL.eq_4 JL.eq_5 JL.eq_6
attribute [go_sem] not1.eq_1 not1.eq_2
attribute [go_sem] QA.eq_1 QA.eq_2 QA.eq_3 QA.eq_4
attribute [go_sem] St.nx.eq_1
attribute [go_sem] Zn.eq_1 Zn.eq_2 Zn.eq_3
attribute [go_sem] Jb.eq_1 Jb.eq_2 Jb.eq_3
attribute [go_sem] ZcK.eq_1 ZcK.eq_2
attribute [go_sem] vun.eq_1 vun.eq_2 vun.eq_3
attribute [go_sem] toD.eq_1 toD.eq_2
attribute [go_sem] Ze.eq_1 Ze.eq_2 Ze.eq_3 Ze.eq_4 Ze.eq_5 Ze.eq_6 Ze.eq_7 Ze.eq_8 Ze.eq_9 Ze.eq_10 Ze.eq_11 Ze.eq_12 Ze.eq_13 Ze.eq_14 Ze.eq_15
attribute [go_sem] D.plain.eq_1 D.plain.eq_2 D.plain.eq_3 D.plain.eq_4 D.plain.eq_5
attribute [go_sem] Zk.eq_1
attribute [go_sem] Zy.eq_1 Zy.eq_2 Zy.eq_3
attribute [go_sem] YF.eq_1 YF.eq_2
attribute [go_sem] Zl.eq_1 Zl.eq_2
attribute [go_sem] Zl4.eq_1
attribute [go_sem] ZdG.eq_1 ZdG.eq_2
attribute [go_sem] Wx.eq_1 Wx.eq_2 Wx.eq_3 Wx.eq_4
attribute [go_sem] St.sl.eq_1
attribute [go_sem] ZnQ.eq_1 ZnQ.eq_2
attribute [go_sem] Yd.eq_1 Yd.eq_2
attribute [go_sem] UX.eq_1 UX.eq_2
attribute [go_sem] ren.eq_1 ren.eq_2
attribute [go_sem] kill.eq_1 kill.eq_2
attribute [go_sem] lkp.eq_1 lkp.eq_2
attribute [go_sem] Zif.eq_1 Zif.eq_2 Zif.eq_3
attribute [go_sem] QI.eq_1 QI.eq_2
attribute [go_sem] beqL.eq_1 beqL.eq_2 beqL.eq_3
attribute [go_sem] D.cells.eq_1 D.cells.eq_2 D.cells.eq_3 D.cells.eq_4 D.cells.eq_5
attribute [go_sem] Zf2.eq_1 Zf2.eq_2
attribute [go_sem] Zie.eq_1 Zie.eq_2
attribute [go_sem] neg1.eq_1 neg1.eq_2
attribute [go_sem] ZdH.eq_1 ZdH.eq_2 ZdH.eq_3
attribute [go_sem] Zf3.eq_1 Zf3.eq_2
attribute [go_sem] Xq.eq_1 Xq.eq_2 Xq.eq_3
attribute [go_sem] asD.eq_1
attribute [go_sem] YL.eq_1 YL.eq_2 YL.eq_3 YL.eq_4 YL.eq_5 YL.eq_6 YL.eq_7 YL.eq_8 YL.eq_9 YL.eq_10 YL.eq_11 YL.eq_12 YL.eq_13 YL.eq_14 YL.eq_15 YL.eq_16 YL.eq_17
attribute [go_sem] ZbD.eq_1 ZbD.eq_2 ZbD.eq_3 ZbD.eq_4 ZbD.eq_5
attribute [go_sem] D.one.eq_1 D.one.eq_2 D.one.eq_3 D.one.eq_4 D.one.eq_5
attribute [go_sem] freeze.eq_1 freeze.eq_2
attribute [go_sem] Ua.eq_1
attribute [go_sem] loOf.eq_1 loOf.eq_2
attribute [go_sem] Eff.on.eq_1
attribute [go_sem] appT.eq_1
attribute [go_sem] V7.eq_1 V7.eq_2
attribute [go_sem] cloV.eq_1
attribute [go_sem] slice0.eq_1 slice0.eq_2
attribute [go_sem] evM.eq_1 evM.eq_2
attribute [go_sem] Vp.eq_1 Vp.eq_2
attribute [go_sem] hiOf.eq_1 hiOf.eq_2
attribute [go_sem] Zc5.eq_1 Zc5.eq_2 Zc5.eq_3
attribute [go_sem] Znq.eq_1
attribute [go_sem] idx.eq_1 idx.eq_2
attribute [go_sem] XE.eq_1 XE.eq_2 XE.eq_3 XE.eq_4 XE.eq_5
attribute [go_sem] VA.eq_1 VA.eq_2 VA.eq_3
attribute [go_sem] ZP.eq_1 ZP.eq_2
attribute [go_sem] D.notSl.eq_1 D.notSl.eq_2
attribute [go_sem] ZpJ.eq_1 ZpJ.eq_2
attribute [go_sem] Ue.eq_1 Ue.eq_2 Ue.eq_3 Ue.eq_4 Ue.eq_5 Ue.eq_6
attribute [go_sem] YH.eq_1 YH.eq_2 YH.eq_3
attribute [go_sem] CO.guard.eq_1
attribute [go_sem] Zaq.eq_1
attribute [go_sem] Wi.eq_1
attribute [go_sem] Ub.eq_1 Ub.eq_2 Ub.eq_3
attribute [go_sem] Zc1.eq_1
attribute [go_sem] Eff.adds.eq_1
attribute [go_sem] ZeE.eq_1 ZeE.eq_2
attribute [go_sem] XK.eq_1 XK.eq_2
attribute [go_sem] Zd.eq_1 Zd.eq_2
attribute [go_sem] Zb.eff.eq_1
attribute [go_sem] ZaT.eq_1 ZaT.eq_2
attribute [go_sem] Zmy.eq_1 Zmy.eq_2
attribute [go_sem] ZdS.eq_1 ZdS.eq_2 ZdS.eq_3
attribute [go_sem] del.eq_1 del.eq_2
attribute [go_sem] ZgN.eq_1
attribute [go_sem] ZjT.eq_1 ZjT.eq_2
attribute [go_sem] VT.eq_1 VT.eq_2
attribute [go_sem] ZeG.eq_1 ZeG.eq_2
attribute [go_sem] D.isAgg.eq_1 D.isAgg.eq_2
attribute [go_sem] VU.eq_1 VU.eq_2 VU.eq_3 VU.eq_4 VU.eq_5
attribute [go_sem] ZaX.eq_1
attribute [go_sem] slice3.eq_1
attribute [go_sem] Ud.eq_1 Ud.eq_2
attribute [go_sem] args.eq_1 args.eq_2
attribute [go_sem] ZeF.eq_1 ZeF.eq_2
attribute [go_sem] JX.eq_1
attribute [go_sem] Zc2.eq_1 Zc2.eq_2
attribute [go_sem] Vs.eq_1
attribute [go_sem] evL.eq_1 evL.eq_2
attribute [go_sem] ZdT.eq_1 ZdT.eq_2 ZdT.eq_3
attribute [go_sem] Vo.eq_1 Vo.eq_2 Vo.eq_3
attribute [go_sem] U1.eq_1 U1.eq_2
attribute [go_sem] ZgK.eq_1 ZgK.eq_2
attribute [go_sem] Eff.sets.eq_1
attribute [go_sem] U2.eq_1 U2.eq_2 U2.eq_3
attribute [go_sem] Zc0.eq_1 Zc0.eq_2
attribute [go_sem] Zc4.eq_1 Zc4.eq_2
attribute [go_sem] Wr.eq_1 Wr.eq_2 Wr.eq_3
attribute [go_sem] Zos.eq_1
attribute [go_sem] makeT.eq_1
attribute [go_sem] Yf.eq_1 Yf.eq_2
attribute [go_sem] ZpK.eq_1 ZpK.eq_2
attribute [go_sem] ZgL.eq_1 ZgL.eq_2
attribute [go_sem] Ui.eq_1 Ui.eq_2
attribute [go_sem] ZiG.eq_1
attribute [go_sem] Uh.eq_1 Uh.eq_2
attribute [go_sem] AV.atom.eq_1 AV.atom.eq_2 AV.atom.eq_3 AV.atom.eq_4 AV.atom.eq_5
attribute [go_sem] Eff.dels.eq_1
attribute [go_sem] UD.eq_1 UD.eq_2 UD.eq_3
attribute [go_sem] mat.eq_1 mat.eq_2 mat.eq_3
attribute [go_sem] ZI.eq_1
attribute [go_sem] Ug.eq_1 Ug.eq_2
attribute [go_sem] ZjW.eq_1
attribute [go_sem] Zoq.eq_1
attribute [go_sem] JZ.eq_1 JZ.eq_2
attribute [go_sem] Vq.eq_1
attribute [go_sem] Z8.eq_1 Z8.eq_2 Z8.eq_3 Z8.eq_4
attribute [go_sem] Zor.eq_1
attribute [go_sem] ZaQ.eq_1 ZaQ.eq_2
attribute [go_sem] ZdU.eq_1 ZdU.eq_2
attribute [go_sem] Zlw.eq_1 Zlw.eq_2
attribute [go_sem] ZbX.eq_1 ZbX.eq_2 ZbX.eq_3 ZbX.eq_4
attribute [go_sem] Zcp.eq_1 Zcp.eq_2
attribute [go_sem] JV.eq_1 JV.eq_2
attribute [go_sem] ZaS.eq_1 ZaS.eq_2 ZaS.eq_3 ZaS.eq_4 ZaS.eq_5
attribute [go_sem] ZjU.eq_1 ZjU.eq_2
attribute [go_sem] ZgM.eq_1
attribute [go_sem] convS.eq_1 convS.eq_2
attribute [go_sem] Zc3.eq_1 Zc3.eq_2
attribute [go_sem] CO.tl.eq_1
attribute [go_sem] ZaU.eq_1 ZaU.eq_2 ZaU.eq_3 ZaU.eq_4
attribute [go_sem] CO.dst.eq_1
attribute [go_sem] teOf.eq_1
attribute [go_sem] Zmz.eq_1 Zmz.eq_2 Zmz.eq_3
attribute [go_sem] ZjV.eq_1
attribute [go_sem] Zlr.eq_1 Zlr.eq_2
attribute [go_sem] Zls.eq_1
attribute [go_sem] Eff.val.eq_1
attribute [go_sem] sliceS.eq_1 sliceS.eq_2
attribute [go_sem] Q8.eq_1 Q8.eq_2 Q8.eq_3
attribute [go_sem] ZaR.eq_1 ZaR.eq_2 ZaR.eq_3 ZaR.eq_4
attribute [go_sem] Vn.eq_1
attribute [go_sem] buildSl.eq_1 buildSl.eq_2
attribute [go_sem] YD.eq_1 YD.eq_2 YD.eq_3 YD.eq_4
attribute [go_sem] Vx.eq_1 Vx.eq_2 Vx.eq_3 Vx.eq_4 Vx.eq_5
attribute [go_sem] ZeD.eq_1 ZeD.eq_2
attribute [go_sem] ZgQ.eq_1
attribute [go_sem] evP.eq_1 evP.eq_2
attribute [go_sem] Zc6.eq_1 Zc6.eq_2
attribute [go_sem] UE.eq_1
attribute [go_sem] Zbp.eq_1
attribute [go_sem] ZiF.eq_1 ZiF.eq_2
attribute [go_sem] ZgP.eq_1
attribute [go_sem] X3.eq_1
attribute [go_sem] Zlv.eq_1
attribute [go_sem] bnT.eq_1 bnT.eq_2
attribute [go_sem] Uc.eq_1 Uc.eq_2
attribute [go_sem] X2.eq_1 X2.eq_2
attribute [go_sem] Vr.eq_1 Vr.eq_2
attribute [go_sem] asgT.eq_1 asgT.eq_2
attribute [go_sem] ZdV.eq_1 ZdV.eq_2
attribute [go_sem] U3.eq_1 U3.eq_2
attribute [go_sem] ZaV.eq_1 ZaV.eq_2 ZaV.eq_3 ZaV.eq_4
attribute [go_sem] Zlp.eq_1 Zlp.eq_2
attribute [go_sem] CO.op.eq_1
attribute [go_sem] JY.eq_1 JY.eq_2
attribute [go_sem] JU.eq_1 JU.eq_2
attribute [go_sem] Zop.eq_1 Zop.eq_2
attribute [go_sem] Zbq.eq_1 Zbq.eq_2 Zbq.eq_3
attribute [go_sem] Zlt.eq_1 Zlt.eq_2
attribute [go_sem] Zcq.eq_1 Zcq.eq_2
attribute [go_sem] JW.eq_1 JW.eq_2
attribute [go_sem] Ut.eq_1 Ut.eq_2 Ut.eq_3 Ut.eq_4 Ut.eq_5 Ut.eq_6 Ut.eq_7 Ut.eq_8 Ut.eq_9 Ut.eq_10
attribute [go_sem] Wj.eq_1
attribute [go_sem] X4.eq_1 X4.eq_2 X4.eq_3 X4.eq_4
attribute [go_sem] Eff.frz.eq_1
attribute [go_sem] buildT.eq_1
attribute [go_sem] ZU.eq_1 ZU.eq_2
attribute [go_sem] Zbo.eq_1 Zbo.eq_2
attribute [go_sem] Zb.gone.eq_1
attribute [go_sem] meltIn.eq_1 meltIn.eq_2
attribute [go_sem] ZbY.eq_1
attribute [go_sem] Zlq.eq_1 Zlq.eq_2
attribute [go_sem] convI.eq_1 convI.eq_2
attribute [go_sem] Zfg.eq_1 Zfg.eq_2
attribute [go_sem] UF.eq_1 UF.eq_2 UF.eq_3
attribute [go_sem] bd.eq_1
attribute [go_sem] Uf.eq_1 Uf.eq_2
attribute [go_sem] QM.eq_1
attribute [go_sem] ZjX.eq_1 ZjX.eq_2
attribute [go_sem] Zbr.eq_1
attribute [go_sem] QQ.eq_1 QQ.eq_2
attribute [go_sem] ZnA.eq_1 ZnA.eq_2
attribute [go_sem] Zq.eq_1 Zq.eq_2 Zq.eq_3 Zq.eq_4 Zq.eq_5 Zq.eq_6 Zq.eq_7 Zq.eq_8 Zq.eq_9 Zq.eq_10 Zq.eq_11 Zq.eq_12 Zq.eq_13 Zq.eq_14 Zq.eq_15 Zq.eq_16 Zq.eq_17 Zq.eq_18 Zq.eq_19 Zq.eq_20 Zq.eq_21 Zq.eq_22 Zq.eq_23 Zq.eq_24 Zq.eq_25 Zq.eq_26 Zq.eq_27 Zq.eq_28 Zq.eq_29 Zq.eq_30 Zq.eq_31 Zq.eq_32 Zq.eq_33 Zq.eq_34 Zq.eq_35 Zq.eq_36 Zq.eq_37 Zq.eq_38 Zq.eq_39 Zq.eq_40
attribute [go_sem] YN.eq_1 YN.eq_2 YN.eq_3 YN.eq_4 YN.eq_5
attribute [go_sem] Za1.eq_1
attribute [go_sem] Zj9.eq_1 Zj9.eq_2
attribute [go_sem] Up.eq_1 Up.eq_2
attribute [go_sem] Zab.eq_1
attribute [go_sem] U4.eq_1 U4.eq_2 U4.eq_3 U4.eq_4 U4.eq_5
attribute [go_sem] YI.eq_1 YI.eq_2
attribute [go_sem] ZeL.eq_1 ZeL.eq_2
attribute [go_sem] ZoB.eq_1 ZoB.eq_2
attribute [go_sem] ZiN.eq_1 ZiN.eq_2
attribute [go_sem] Qs.eq_1 Qs.eq_2
attribute [go_sem] only.eq_1 only.eq_2
attribute [go_sem] ZmI.eq_1 ZmI.eq_2
attribute [go_sem] ZaY.eq_1 ZaY.eq_2
attribute [go_sem] XO.eq_1 XO.eq_2
attribute [go_sem] okL.eq_1 okL.eq_2
attribute [go_sem] okC.eq_1 okC.eq_2 okC.eq_3 okC.eq_4 okC.eq_5 okC.eq_6 okC.eq_7 okC.eq_8 okC.eq_9 okC.eq_10
attribute [go_sem] Zfj.eq_1 Zfj.eq_2
attribute [go_sem] Wu.eq_1 Wu.eq_2
attribute [go_sem] J7.eq_1 J7.eq_2 J7.eq_3
attribute [go_sem] Zbv.eq_1 Zbv.eq_2
attribute [go_sem] Za0.eq_1 Za0.eq_2
attribute [go_sem] Ql.eq_1 Ql.eq_2
attribute [go_sem] Zi.eq_1 Zi.eq_2
attribute [go_sem] Xy.eq_1 Xy.eq_2 Xy.eq_3
attribute [go_sem] Zdg.eq_1
attribute [go_sem] X7.eq_1 X7.eq_2
attribute [go_sem] Zka.eq_1 Zka.eq_2
attribute [go_sem] CO.starts.eq_1
attribute [go_sem] XN.eq_1 XN.eq_2
attribute [go_sem] Qp.eq_1 Qp.eq_2
attribute [go_sem] Znz.eq_1 Znz.eq_2
attribute [go_sem] Zd5.eq_1
attribute [go_sem] Zg6.eq_1 Zg6.eq_2 Zg6.eq_3
attribute [go_sem] J9.eq_1 J9.eq_2
attribute [go_sem] Yg.eq_1 Yg.eq_2
attribute [go_sem] U5.eq_1
attribute [go_sem] Zg7.eq_1 Zg7.eq_2
attribute [go_sem] Zny.eq_1
attribute [go_sem] ZL.body.eq_1
attribute [go_sem] Zdh.eq_1
attribute [go_sem] Zcy.eq_1 Zcy.eq_2
attribute [go_sem] Vv.eq_1 Vv.eq_2 Vv.eq_3 Vv.eq_4 Vv.eq_5
attribute [go_sem] ZL.res.eq_1
attribute [go_sem] Xi.eq_1 Xi.eq_2
attribute [go_sem] Q6.eq_1 Q6.eq_2 Q6.eq_3 Q6.eq_4 Q6.eq_5 Q6.eq_6 Q6.eq_7 Q6.eq_8 Q6.eq_9 Q6.eq_10 Q6.eq_11 Q6.eq_12
attribute [go_sem] Zg8.eq_1 Zg8.eq_2
attribute [go_sem] Xx.eq_1 Xx.eq_2
attribute [go_sem] ZL.nt.eq_1
attribute [go_sem] okD.eq_1 okD.eq_2
attribute [go_sem] ZjX.eq_1 Vx.eq_1 Vx.eq_2 Vx.eq_3 Vx.eq_4
attribute [go_sem] Y0.eq_1 Um.eq_1 Um.eq_2 Um.eq_3 Um.eq_4 Um.eq_5 Um.eq_6 Um.eq_7 Um.eq_8 Um.eq_9 Um.eq_10 X8.eq_1
attribute [go_sem] Qr.eq_3 QN.eq_1 AV.atom.eq_1 AV.atom.eq_2 AV.atom.eq_3 AV.atom.eq_4
attribute [go_sem] ZgD.eq_1 ZgD.eq_2 ZbV.eq_1 ZbV.eq_2
attribute [go_sem] Zc Zph ZqB
attribute [go_sem] List.map_cons List.map_nil List.flatMap_cons List.flatMap_nil List.append_nil List.nil_append List.cons_append List.length_cons List.length_nil List.all_cons List.all_nil List.any_cons List.any_nil List.contains_cons List.contains_nil List.filter_cons List.filter_nil List.drop_zero List.drop_succ_cons List.drop_nil List.take_zero List.take_succ_cons List.take_nil List.getElem?_cons_zero List.getElem?_cons_succ List.getElem?_nil Option.map_some Option.map_none Bool.and_true Bool.true_and Bool.and_false Bool.false_and Bool.or_true Bool.true_or Bool.or_false Bool.false_or Bool.not_true Bool.not_false decide_true decide_false and_true true_and and_false false_and not_true not_false_eq_true or_true true_or or_false false_or if_true if_false true_implies false_implies implies_true imp_self eq_self ne_eq beq_self_eq_true Bool.true_eq_false Bool.false_eq_true List.isEmpty_nil List.isEmpty_cons List.range_zero List.set_cons_zero List.set_cons_succ Option.some.injEq reduceCtorEq Nat.reduceLeDiff
def ZgE (hp:Hp):List Nat→List Nat
 | []=>[]
 | i :: r=>if ZaU (lkp hp i)=true then i :: ZgE hp r else ZgE hp r
theorem gE (hp:Hp) (ids:List Nat):(ids.filter fun i=>ZaU (lkp hp i))=ZgE hp ids:=by
 induction ids with
 | nil=>rfl
 | cons i r ih=>simp only[List.filter_cons,ZgE,ih]
def Ziw (hp:Hp) (rs:List Nat):List Nat→Bool
 | []=>true
 | i :: r=>(ZaU (lkp hp i) || rs.contains i)&&Ziw hp rs r
def Zix (hp:Hp):List Nat→Bool
 | []=>false
 | i :: r=>Uh (lkp hp i) || Zix hp r
theorem gG (hp:Hp) (ids:List Nat):(ids.any fun i=>Uh (lkp hp i))=Zix hp ids:=by
 induction ids with
 | nil=>rfl
 | cons i r ih=>simp only[List.any_cons,Zix,ih]
attribute [go_sem] Zix.eq_1 Zix.eq_2
@[go_sem] theorem appV_eq (hp:Hp) (s b:Nat) (str flat:Bool) (base:Nat) (x y:AV):Zlu hp s b str flat base x y=Zaq (Yf hp s b str flat base x y (Xt hp x++Xt hp y)):=rfl
@[go_sem] theorem treeId_d (hp:Hp) (x:D):Xt hp (.d x)=[]:=rfl
@[go_sem] theorem Zsi (hp:Hp):Xt hp .nil=[]:=rfl
@[go_sem] theorem ZrG (hp:Hp) (k o n:Nat):Xt hp (.ownv k o n)=[]:=rfl
@[go_sem] theorem Zsj (hp:Hp) (k:Nat):Xt hp (.own k)=if Uh (lkp hp k)=true then [k] else []:=rfl
@[go_sem] theorem noKeep_0 (M:Zf) (f:Nat):Q9 M f 0=M f 0:=rfl
@[go_sem] theorem noKeep_1 (M:Zf) (f:Nat):Q9 M f 1=M f 1:=rfl
@[go_sem] theorem noKeep_2 (M:Zf) (f:Nat):Q9 M f 2=M f 2:=rfl
@[go_sem] theorem noKeep_3 (M:Zf) (f:Nat):Q9 M f 3=M f 3:=rfl
@[go_sem] theorem noKeep_4 (M:Zf) (f:Nat):Q9 M f 4=M f 4:=rfl
@[go_sem] theorem noKeep_5 (M:Zf) (f:Nat):Q9 M f 5=M f 5:=rfl
@[go_sem] theorem noKeep_6 (M:Zf) (f:Nat):Q9 M f 6=M f 6:=rfl
@[go_sem] theorem noKeep_99 (M:Zf) (f:Nat):Q9 M f 99=false:=rfl
theorem gF (hp:Hp) (rs ids:List Nat):WI hp rs ids=Ziw hp rs ids:=by
 induction ids with
 | nil=>rfl
 | cons i r ih=>simp only[WI,K8,Ziw] at ih ⊢;rw[ih]
attribute [go_sem] ZgE.eq_1 ZgE.eq_2 Ziw.eq_1 Ziw.eq_2
@[go_sem] theorem okV_d (x:D):okV (.d x)=true:=rfl
@[go_sem] theorem okV_nil:okV .nil=true:=rfl
@[go_sem] theorem okV_nilp:okV .nilp=true:=rfl
@[go_sem] theorem okV_nili:okV .nili=true:=rfl
@[go_sem] theorem okV_ptr (a b:Nat):okV (.ptr a b)=true:=rfl
@[go_sem] theorem okV_prow (a b c e:Nat):okV (.prow a b c e)=true:=rfl
@[go_sem] theorem okV_pim (cs:List D):okV (.pim cs)=true:=rfl
@[go_sem] theorem okV_own (a:Nat):okV (.own a)=true:=rfl
@[go_sem] theorem okV_ownv (a b c:Nat):okV (.ownv a b c)=true:=rfl
@[go_sem] theorem okV_agg (cs:List AV):okV (.agg cs)=Zj9 cs:=rfl
@[go_sem] theorem okV_tup0:okV (.tup [])=true:=rfl
@[go_sem] theorem Zsk (sl:Sl) (a:COp) (x y:Nat) (v:AV):XG sl a (.ptr x y) v=true:=rfl
@[go_sem] theorem seenIn_d (sl:Sl) (a:COp) (x y z t:Nat) (v:D):XG sl a (.prow x y z t) (.d v)=true:=rfl
@[go_sem] theorem Zsl (sl:Sl) (a:COp) (x y z t:Nat) (v:List AV):XG sl a (.prow x y z t) (.agg v)=(okV (.agg v)&&QQ sl (Zq a) (Zl (.agg v))):=rfl
@[go_sem] theorem Zsm (sl:Sl) (a:COp) (x y z t:Nat) (k:Nat):XG sl a (.prow x y z t) (.own k)=(okV (.own k)&&QQ sl (Zq a) (Zl (.own k))):=rfl
@[go_sem] theorem Zsn (sl:Sl) (a:COp) (x y z t:Nat):XG sl a (.prow x y z t) .nil=(okV .nil&&QQ sl (Zq a) (Zl .nil)):=rfl
@[go_sem] theorem ZrH (sl:Sl) (a:COp) (x y z t:Nat):XG sl a (.prow x y z t) .nilp=(okV .nilp&&QQ sl (Zq a) (Zl .nilp)):=rfl
@[go_sem] theorem ZrI (sl:Sl) (a:COp) (x y z t:Nat) (k m n:Nat):XG sl a (.prow x y z t) (.ownv k m n)=(okV (.ownv k m n)&&QQ sl (Zq a) (Zl (.ownv k m n))):=rfl
@[go_sem] theorem ZrJ (sl:Sl) (a:COp) (k:Nat):seenSrc sl a (.own k)=Ql sl k (Zq a):=rfl
@[go_sem] theorem seenSrc_d (sl:Sl) (a:COp) (x:D):seenSrc sl a (.d x)=true:=rfl
@[go_sem] theorem ZrK (sl:Sl) (a:COp):seenSrc sl a .nil=true:=rfl
@[go_sem] theorem ZqZ (sl:Sl) (a:COp) (x y z:Nat):seenSrc sl a (.ownv x y z)=true:=rfl
@[go_sem] theorem okV_iteV (b:Bool) (v:AV):okV (ZbE b v)=(!b || okV v):=by cases b<;>simp[ZbE,okV]
@[go_sem] theorem awayV_d (sl:Sl) (xs:List Opd) (x:D):Un sl xs (.d x)=true:=rfl
@[go_sem] theorem awayV_nil (sl:Sl) (xs:List Opd):Un sl xs .nil=true:=rfl
@[go_sem] theorem Zso (sl:Sl) (xs:List Opd):Un sl xs .nilp=true:=rfl
@[go_sem] theorem awayV_ptr (sl:Sl) (xs:List Opd) (k o:Nat):Un sl xs (.ptr k o)=Ql sl k xs:=rfl
@[go_sem] theorem awayV_pim (sl:Sl) (xs:List Opd) (cs:List D):Un sl xs (.pim cs)=true:=rfl
@[go_sem] theorem awayV_own (sl:Sl) (xs:List Opd) (a:Nat):Un sl xs (.own a)=true:=rfl
@[go_sem] theorem Zsp (sl:Sl) (xs:List Opd) (a b c:Nat):Un sl xs (.ownv a b c)=true:=rfl
@[go_sem] theorem awayV_agg (sl:Sl) (xs:List Opd) (cs:List AV):Un sl xs (.agg cs)=true:=rfl
@[go_sem] theorem awayV_tup (sl:Sl) (xs:List Opd) (cs:List AV):Un sl xs (.tup cs)=true:=rfl
end Go.Abs.E
