/- Own text. -/
import Derived.Test.YtnachaiejoflhaaAbsRun
set_option linter.unusedVariables false
set_option linter.unusedSimpArgs false
namespace Go.Abs.E
open Go Go.Abs
abbrev _root_.Go.Abs.Opd.i (n:Int):Opd:=.v (.d (.int .i64 n))
abbrev _root_.Go.Abs.Opd.b (x:Bool):Opd:=.v (.d (.bool x))
def stW {α:Type} (x:Option α) (K:α→Prop):Prop:=match x with
 | some a=>K a
 | none=>False
def gW (x:Option Bool) (A B:Prop):Prop:=match x with
 | some b=>(b=true→A)∧(b=false→B)
 | none=>False
def Y3 (v:AV) (A B:Prop):Prop:=match v with
 | .d (.bool t)=>(t=true→A)∧(t=false→B)
 | _=>False
theorem YA {α:Type} (a:α) (K:α→Prop):stW (some a) K=K a:=rfl
theorem ZeG {α:Type} (K:α→Prop):stW none K=False:=rfl
theorem UA {α β:Type} (x:Option α) (f:α→Option β) (K:β→Prop):stW (bnd x f) K=stW x fun a=>stW (f a) K:=by cases x<;>rfl
@[go_sem] theorem ZpO (A B:Prop):gW (some true) A B=A:=by simp[gW]
@[go_sem] theorem gW_false (A B:Prop):gW (some false) A B=B:=by simp[gW]
@[go_sem] theorem gW_dec (p:Prop) [Decidable p] (A B:Prop):gW (some (decide p)) A B=((p→A)∧(¬p→B)):=by simp[gW]
@[go_sem] theorem gW_not (b:Bool) (A B:Prop):gW (some (!b)) A B=gW (some b) B A:=by cases b<;>simp[gW]
theorem gW_some (b:Bool) (A B:Prop):gW (some b) A B=((b=true→A)∧(b=false→B)):=rfl
@[go_sem] theorem Zue (A B:Prop):Y3 (.d (.bool true)) A B=A:=by simp[Y3]
@[go_sem] theorem ZtM (A B:Prop):Y3 (.d (.bool false)) A B=B:=by simp[Y3]
@[go_sem] theorem condW_dec (p:Prop) [Decidable p] (A B:Prop):Y3 (.d (.bool (decide p))) A B=((p→A)∧(¬p→B)):=by simp[Y3]
@[go_sem] theorem condW_not (b:Bool) (A B:Prop):Y3 (.d (.bool (!b))) A B=Y3 (.d (.bool b)) B A:=by cases b<;>simp[Y3]
@[go_sem] theorem condW_and (a b:Bool) (A B:Prop):Y3 (.d (.bool (a&&b))) A B=Y3 (.d (.bool a)) (Y3 (.d (.bool b)) A B) B:=by cases a<;>cases b<;>simp[Y3]
@[go_sem] theorem condW_or (a b:Bool) (A B:Prop):Y3 (.d (.bool (a || b))) A B=Y3 (.d (.bool a)) A (Y3 (.d (.bool b)) A B):=by cases a<;>cases b<;>simp[Y3]
@[go_sem] theorem Zuf (b:Bool) (A B:Prop):Y3 (.d (.bool b)) A B=((b=true→A)∧(b=false→B)):=rfl
@[congr] theorem gW_congr {x y:Option Bool} {A B:Prop} (h:x=y):gW x A B=gW y A B:=by rw[h]
@[congr] theorem ZtN {v w:AV} {A B:Prop} (h:v=w):Y3 v A B=Y3 w A B:=by rw[h]
section
variable (X:Fns) (M:Zj)
noncomputable def JY (nx:Nat):Nat→List CO→Sl→Hp→(Sl→Hp→Prop)→Prop
 | _,[],sl,hp,K=>K sl hp
 | i,o :: rest,sl,hp,K=>gW (ZM sl o.guard)
   (stW (Xq (nx+64*i) o.dst sl hp (vop (Zh X M) M sl hp (nx+64*i) o.op)) fun r=>JY nx (i+1) rest r.1 r.2 K)
   (JY nx (i+1) rest (Zl sl o.dst (.tup [])) hp K)
def Ux (nx i:Nat) (d:Option Nat) (rest:List CO) (sl:Sl) (hp:Hp) (K:Sl→Hp→Prop) (e:Option Zb):Prop:=
 stW (Xq (nx+64*i) d sl hp e) fun r=>JY X M nx (i+1) rest r.1 r.2 K
@[go_sem] theorem opsW_nil (nx i:Nat) (sl:Sl) (hp:Hp) (K:Sl→Hp→Prop):JY X M nx i [] sl hp K=K sl hp:=rfl
@[go_sem] theorem opsW_cons (nx i:Nat) (d:Option Nat) (tl:Bool) (op:COp) (aa:List CO) (sl:Sl) (hp:Hp) (K:Sl→Hp→Prop) :
  JY X M nx i (⟨d,none,op,tl⟩ :: aa) sl hp K=Ux X M nx i d aa sl hp K (vop (Zh X M) M sl hp (nx+64*i) op):=by
 simp[JY,Ux,ZM,ZpO]
def Zdo (b:Bool) (v:AV):AV:=if b then v else .tup []
def V1 (b:Bool) (nx i:Nat) (d:Option Nat) (rest:List CO) (sl:Sl) (hp:Hp) (K:Sl→Hp→Prop) (e:Option Zb):Prop:=
 gW (some b) (Ux X M nx i d rest sl hp K e) (JY X M nx (i+1) rest (Zl sl d (.tup [])) hp K)
def ZlC (g:Option Bool) (nx i:Nat) (d:Option Nat) (op:COp) (rest:List CO) (sl:Sl) (hp:Hp) (K:Sl→Hp→Prop):Prop:=
 gW g (Ux X M nx i d rest sl hp K (vop (Zh X M) M sl hp (nx+64*i) op)) (JY X M nx (i+1) rest (Zl sl d (.tup [])) hp K)
@[go_sem] theorem Zug (nx i g:Nat) (w:Bool) (d:Option Nat) (tl:Bool) (op:COp) (aa:List CO) (sl:Sl) (hp:Hp) (K:Sl→Hp→Prop) :
  JY X M nx i (⟨d,some (g,w),op,tl⟩ :: aa) sl hp K=ZlC X M (Za7 w (gs sl g)) nx i d op aa sl hp K:=rfl
@[go_sem] theorem ZtO (b:Bool) (nx i:Nat) (d:Option Nat) (op:COp) (aa:List CO) (sl:Sl) (hp:Hp) (K:Sl→Hp→Prop) :
  ZlC X M (some b) nx i d op aa sl hp K=V1 X M b nx i d aa sl hp K (vop (Zh X M) M sl hp (nx+64*i) op):=rfl
@[go_sem] theorem gA (nx i:Nat) (d:Option Nat) (aa:List CO) (sl:Sl) (hp:Hp) (K:Sl→Hp→Prop) (e:Option Zb) :
  V1 X M true nx i d aa sl hp K e=Ux X M nx i d aa sl hp K e:=by simp[V1,gW]
@[go_sem] theorem gB (nx i:Nat) (d:Option Nat) (aa:List CO) (sl:Sl) (hp:Hp) (K:Sl→Hp→Prop) (e:Option Zb) :
  V1 X M false nx i d aa sl hp K e=JY X M nx (i+1) aa (Zl sl d (.tup [])) hp K:=by simp[V1,gW]
@[go_sem] theorem ZlD (b:Bool) (nx i:Nat) (d:Option Nat) (aa:List CO) (sl:Sl) (hp:Hp) (K:Sl→Hp→Prop) (v:AV) :
  V1 X M b nx i d aa sl hp K (Qr v)=JY X M nx (i+1) aa (Zl sl d (Zdo b v)) hp K:=by
 cases b
 ·simp[V1,gW,Zdo]
 ·simp only[V1,gW,Zdo,Kj,true_implies,Bool.true_eq_false,false_implies,and_true];rfl
@[go_sem] theorem ZtP (b:Bool) (nx i:Nat) (d:Option Nat) (aa:List CO) (sl:Sl) (hp:Hp) (K:Sl→Hp→Prop) (v:AV) :
  V1 X M b nx i d aa sl hp K (some { eff := { val:=v,adds:=[],sets:=[],dels:=[],frz:=[] },gone:=[] })=JY X M nx (i+1) aa (Zl sl d (Zdo b v)) hp K:=ZlD X M b nx i d aa sl hp K v
@[congr] theorem Ztd {g g' : Option Bool} {nx i:Nat} {d:Option Nat} {op:COp} {aa:List CO} {sl:Sl} {hp:Hp} {K:Sl→Hp→Prop} (h:g=g') :
  ZlC X M g nx i d op aa sl hp K=ZlC X M g' nx i d op aa sl hp K:=by rw[h]
@[congr] theorem Zte {b b' : Bool} {nx i:Nat} {d:Option Nat} {aa:List CO} {sl:Sl} {hp:Hp} {K:Sl→Hp→Prop} {e e' : Option Zb} (hb:b=b') (h:b'=true→e=e') :
  V1 X M b nx i d aa sl hp K e=V1 X M b' nx i d aa sl hp K e':=by
 subst hb;cases b
 ·simp[V1,gW]
 ·rw[h rfl]
@[go_sem] theorem ZtQ (nx i:Nat) (d:Option Nat) (aa:List CO) (sl:Sl) (hp:Hp) (K:Sl→Hp→Prop) (v:AV) :
  Ux X M nx i d aa sl hp K (Qr v)=JY X M nx (i+1) aa (Zl sl d v) hp K:=rfl
@[go_sem] theorem Zuh (nx i:Nat) (d:Option Nat) (aa:List CO) (sl:Sl) (hp:Hp) (K:Sl→Hp→Prop) (v:AV) :
  Ux X M nx i d aa sl hp K (some { eff := { val:=v,adds:=[],sets:=[],dels:=[],frz:=[] },gone:=[] })=JY X M nx (i+1) aa (Zl sl d v) hp K:=rfl
@[go_sem] theorem Zui (nx i:Nat) (d:Option Nat) (aa:List CO) (sl:Sl) (hp:Hp) (K:Sl→Hp→Prop) (e:Zb) :
  Ux X M nx i d aa sl hp K (some e)=(Qx (nx+64*i) (nx+64*i+64) e.eff.adds=true∧JY X M nx (i+1) aa (Zl (QA e.gone sl) d e.eff.val) (e.eff.on (Yq e.gone hp)) K):=by
 unfold Ux Xq;rw[Zc];split<;>rename_i h
 ·simp only[YA,h,true_and];rfl
 ·simp only[ZeG,h,false_and,Ka]
@[go_sem] theorem Zuj (nx i:Nat) (d:Option Nat) (aa:List CO) (sl:Sl) (hp:Hp) (K:Sl→Hp→Prop):Ux X M nx i d aa sl hp K none=False:=rfl
@[go_sem] theorem stepW_ite (nx i:Nat) (d:Option Nat) (aa:List CO) (sl:Sl) (hp:Hp) (K:Sl→Hp→Prop) (c:Prop) [Decidable c] (a b:Option Zb) :
  Ux X M nx i d aa sl hp K (if c then a else b)=((c→Ux X M nx i d aa sl hp K a)∧(¬c→Ux X M nx i d aa sl hp K b)):=by
 by_cases h:c<;>simp[h]
noncomputable def XX (nx:Nat):Nat→Bool→List CO→Sl→Hp→(Sl→Hp→Prop)→Prop
 | _,_,[],sl,hp,K=>K sl hp
 | i,tail,o :: rest,sl,hp,K=>gW (ZM sl o.guard)
   (stW (Xq (nx+64*i) o.dst sl hp (Yt (Zh X M) (Xx M) nx i (CO.starts o) o.op sl hp)) fun r=>XX nx (i+1) tail rest r.1 r.2 K)
   (XX nx (i+1) tail rest (Zl sl o.dst (.tup [])) hp K)
def Y6 (nx i:Nat) (t:Bool) (d:Option Nat) (rest:List CO) (sl:Sl) (hp:Hp) (K:Sl→Hp→Prop) (e:Option Zb):Prop:=
 stW (Xq (nx+64*i) d sl hp (if t then e else Je e)) fun r=>XX X M nx (i+1) false rest r.1 r.2 K
@[go_sem] theorem opsDW_nil (nx i:Nat) (t:Bool) (sl:Sl) (hp:Hp) (K:Sl→Hp→Prop):XX X M nx i t [] sl hp K=K sl hp:=rfl
@[go_sem] theorem Zuk (nx i:Nat) (d:Option Nat) (tl:Bool) (op:COp) (aa:List CO) (sl:Sl) (hp:Hp) (K:Sl→Hp→Prop) :
  XX X M nx i false (⟨d,none,op,tl⟩ :: aa) sl hp K=Y6 X M nx i (Zdc op || tl) d aa sl hp K (vop (Zh X M) (Xx M) sl hp (nx+64*i) op):=by
 simp[XX,Y6,ZM,ZpO,Yt,CO.starts]
def Yj (b:Bool) (nx i:Nat) (t:Bool) (d:Option Nat) (rest:List CO) (sl:Sl) (hp:Hp) (K:Sl→Hp→Prop) (e:Option Zb):Prop:=
 gW (some b) (Y6 X M nx i t d rest sl hp K e) (XX X M nx (i+1) false rest (Zl sl d (.tup [])) hp K)
def Zg7 (g:Option Bool) (nx i:Nat) (t:Bool) (d:Option Nat) (op:COp) (rest:List CO) (sl:Sl) (hp:Hp) (K:Sl→Hp→Prop):Prop:=
 gW g (Y6 X M nx i t d rest sl hp K (vop (Zh X M) (Xx M) sl hp (nx+64*i) op)) (XX X M nx (i+1) false rest (Zl sl d (.tup [])) hp K)
@[go_sem] theorem ZtR (nx i g:Nat) (w:Bool) (d:Option Nat) (tl:Bool) (op:COp) (aa:List CO) (sl:Sl) (hp:Hp) (K:Sl→Hp→Prop) :
  XX X M nx i false (⟨d,some (g,w),op,tl⟩ :: aa) sl hp K=Zg7 X M (Za7 w (gs sl g)) nx i (Zdc op || tl) d op aa sl hp K:=rfl
@[go_sem] theorem Ztf (b:Bool) (nx i:Nat) (t:Bool) (d:Option Nat) (op:COp) (aa:List CO) (sl:Sl) (hp:Hp) (K:Sl→Hp→Prop) :
  Zg7 X M (some b) nx i t d op aa sl hp K=Yj X M b nx i t d aa sl hp K (vop (Zh X M) (Xx M) sl hp (nx+64*i) op):=rfl
@[go_sem] theorem gC (nx i:Nat) (t:Bool) (d:Option Nat) (aa:List CO) (sl:Sl) (hp:Hp) (K:Sl→Hp→Prop) (e:Option Zb) :
  Yj X M true nx i t d aa sl hp K e=Y6 X M nx i t d aa sl hp K e:=by simp[Yj,gW]
@[go_sem] theorem gD (nx i:Nat) (t:Bool) (d:Option Nat) (aa:List CO) (sl:Sl) (hp:Hp) (K:Sl→Hp→Prop) (e:Option Zb) :
  Yj X M false nx i t d aa sl hp K e=XX X M nx (i+1) false aa (Zl sl d (.tup [])) hp K:=by simp[Yj,gW]
@[go_sem] theorem Zjq (b:Bool) (nx i:Nat) (t:Bool) (d:Option Nat) (aa:List CO) (sl:Sl) (hp:Hp) (K:Sl→Hp→Prop) (v:AV) :
  Yj X M b nx i t d aa sl hp K (Qr v)=XX X M nx (i+1) false aa (Zl sl d (Zdo b v)) hp K:=by
 cases b
 ·simp[Yj,gW,Zdo]
 ·simp only[Yj,gW,Zdo,Kj,true_implies,Bool.true_eq_false,false_implies,and_true];cases t<;>rfl
@[go_sem] theorem Ztg (b:Bool) (nx i:Nat) (t:Bool) (d:Option Nat) (aa:List CO) (sl:Sl) (hp:Hp) (K:Sl→Hp→Prop) (v:AV) :
  Yj X M b nx i t d aa sl hp K (some { eff := { val:=v,adds:=[],sets:=[],dels:=[],frz:=[] },gone:=[] })=XX X M nx (i+1) false aa (Zl sl d (Zdo b v)) hp K:=Zjq X M b nx i t d aa sl hp K v
@[congr] theorem Zsz {g g' : Option Bool} {nx i:Nat} {t t' : Bool} {d:Option Nat} {op:COp} {aa:List CO} {sl:Sl} {hp:Hp} {K:Sl→Hp→Prop} (h:g=g') (ht:t=t') :
  Zg7 X M g nx i t d op aa sl hp K=Zg7 X M g' nx i t' d op aa sl hp K:=by rw[h,ht]
@[congr] theorem ZsA {b b' : Bool} {nx i:Nat} {t:Bool} {d:Option Nat} {aa:List CO} {sl:Sl} {hp:Hp} {K:Sl→Hp→Prop} {e e' : Option Zb} (hb:b=b') (h:b'=true→e=e') :
  Yj X M b nx i t d aa sl hp K e=Yj X M b' nx i t d aa sl hp K e':=by
 subst hb;cases b
 ·simp[Yj,gW]
 ·rw[h rfl]
@[go_sem] theorem Zth (nx i:Nat) (t:Bool) (d:Option Nat) (aa:List CO) (sl:Sl) (hp:Hp) (K:Sl→Hp→Prop) (v:AV) :
  Y6 X M nx i t d aa sl hp K (Qr v)=XX X M nx (i+1) false aa (Zl sl d v) hp K:=by cases t<;>rfl
@[go_sem] theorem ZtS (nx i:Nat) (t:Bool) (d:Option Nat) (aa:List CO) (sl:Sl) (hp:Hp) (K:Sl→Hp→Prop) (v:AV) :
  Y6 X M nx i t d aa sl hp K (some { eff := { val:=v,adds:=[],sets:=[],dels:=[],frz:=[] },gone:=[] })=XX X M nx (i+1) false aa (Zl sl d v) hp K:=by cases t<;>rfl
@[go_sem] theorem ZtT (nx i:Nat) (t:Bool) (d:Option Nat) (aa:List CO) (sl:Sl) (hp:Hp) (K:Sl→Hp→Prop) (e:Zb) :
  Y6 X M nx i t d aa sl hp K (some e)=((t=false→Zbb e e.gone e.eff.sets e.eff.dels e.eff.frz=some e)∧Qx (nx+64*i) (nx+64*i+64) e.eff.adds=true∧XX X M nx (i+1) false aa (Zl (QA e.gone sl) d e.eff.val) (e.eff.on (Yq e.gone hp)) K):=by
 have ab:stW (Xq (nx+64*i) d sl hp (some e)) (fun r=>XX X M nx (i+1) false aa r.1 r.2 K)=(Qx (nx+64*i) (nx+64*i+64) e.eff.adds=true∧XX X M nx (i+1) false aa (Zl (QA e.gone sl) d e.eff.val) (e.eff.on (Yq e.gone hp)) K):=by
  unfold Xq;rw[Zc];split<;>rename_i h
  ·simp only[YA,h,true_and];rfl
  ·simp only[ZeG,h,false_and,Ka]
 unfold Y6;cases t with
 | true=>simp only[Kj];rw[ab];simp
 | false=>
  simp only[Ka,Ki,Je,Zc,true_implies];unfold Zbb;split
  ·rw[ab];simp
  ·simp[Xq,bnd,stW]
@[go_sem] theorem ZtU (nx i:Nat) (t:Bool) (d:Option Nat) (aa:List CO) (sl:Sl) (hp:Hp) (K:Sl→Hp→Prop):Y6 X M nx i t d aa sl hp K none=False:=by cases t<;>rfl
@[go_sem] theorem Zul (nx i:Nat) (t:Bool) (d:Option Nat) (aa:List CO) (sl:Sl) (hp:Hp) (K:Sl→Hp→Prop) (c:Prop) [Decidable c] (a b:Option Zb) :
  Y6 X M nx i t d aa sl hp K (if c then a else b)=((c→Y6 X M nx i t d aa sl hp K a)∧(¬c→Y6 X M nx i t d aa sl hp K b)):=by
 by_cases h:c<;>simp[h]
@[go_sem] theorem quietC_ok (c:Zb):Zbb c [] [] [] []=some c:=rfl
def W (c:ZI) (st:St) (Q:Ex→St→Prop):Prop:=stW (Qm X M c st) fun r=>Q r.1 r.2
@[congr] theorem W_congr {c:ZI} {st aa : St} {Q:Ex→St→Prop} (h:st=aa):W X M c st Q=W X M c aa Q:=by rw[h]
@[congr] theorem Zum {aa:List CO} {nx ab i i' : Nat} {sl sl' : Sl} {hp hp' : Hp} {K:Sl→Hp→Prop} (hn:nx=ab) (hi:i=i') (h:sl=sl') (h' : hp=hp') :
  JY X M nx i aa sl hp K=JY X M ab i' aa sl' hp' K:=by rw[h,h',hn,hi]
@[congr] theorem ZtV {aa:List CO} {nx ab i i' : Nat} {t t' : Bool} {sl sl' : Sl} {hp hp' : Hp} {K:Sl→Hp→Prop} (hn:nx=ab) (hi:i=i') (ht:t=t') (h:sl=sl') (h' : hp=hp') :
  XX X M nx i t aa sl hp K=XX X M ab i' t' aa sl' hp' K:=by rw[h,h',ht,hn,hi]
@[congr] theorem ZtW {aa:List CO} {nx i:Nat} {d:Option Nat} {sl:Sl} {hp:Hp} {K:Sl→Hp→Prop} {e e' : Option Zb} (h:e=e') :
  Ux X M nx i d aa sl hp K e=Ux X M nx i d aa sl hp K e':=by rw[h]
@[congr] theorem Zti {aa:List CO} {nx i:Nat} {t t' : Bool} {d:Option Nat} {sl:Sl} {hp:Hp} {K:Sl→Hp→Prop} {e e' : Option Zb} (ht:t=t') (h:e=e') :
  Y6 X M nx i t d aa sl hp K e=Y6 X M nx i t' d aa sl hp K e':=by rw[h,ht]
theorem Ztj (nx:Nat) (K:Sl→Hp→Prop):∀ (l:List CO) (i:Nat) (sl:Sl) (hp:Hp),JY X M nx i l sl hp K=stW (Zcj (Zh X M) M nx i l sl hp) fun r=>K r.1 r.2:=by
 intro l
 induction l with
 | nil=>intro i sl hp;rfl
 | cons o rest ih=>
  intro i sl hp;simp only[JY,Zcj,ih,UA];cases ZM sl o.guard with
  | none=>rfl
  | some b=>cases b<;>simp[gW,UA,YA]
theorem ZrL (nx:Nat) (K:Sl→Hp→Prop):∀ (l:List CO) (i:Nat) (t:Bool) (sl:Sl) (hp:Hp),XX X M nx i t l sl hp K=stW (WE (Zh X M) (Xx M) nx i t l sl hp) fun r=>K r.1 r.2:=by
 intro l
 induction l with
 | nil=>intro i t sl hp;rfl
 | cons o rest ih=>
  intro i t sl hp;simp only[XX,WE,ih,UA];cases ZM sl o.guard with
  | none=>rfl
  | some b=>cases b<;>simp[gW,UA,YA]
def ZqH (m nx:Nat) (Q:Ex→St→Prop) (sl:Sl) (hp:Hp):Prop:=Q .normal { sl:=sl,hp:=hp,nx:=nx,m:=m }
def Zm6 (ops:List CO) (ps:List (Nat×Nat)) (K:Sl→Hp→Prop) (sl:Sl) (hp:Hp):Prop:=Vw ops sl ps=true∧K sl hp
@[go_sem] theorem regQ_eq (m nx:Nat) (Q:Ex→St→Prop) (sl:Sl) (hp:Hp):ZqH m nx Q sl hp=Q .normal { sl:=sl,hp:=hp,nx:=nx,m:=m }:=rfl
@[go_sem] theorem seenQ_eq (ops:List CO) (ps:List (Nat×Nat)) (K:Sl→Hp→Prop) (sl:Sl) (hp:Hp):Zm6 ops ps K sl hp=(Vw ops sl ps=true∧K sl hp):=rfl
@[go_sem] theorem W_skip (st:St) (Q:Ex→St→Prop):W X M .skip st Q=Q .normal st:=by simp[W,Zo5,YA]
@[go_sem] theorem W_ret (st:St) (Q:Ex→St→Prop):W X M .ret st Q=Q .ret st:=by simp[W,Zq3,YA]
@[go_sem] theorem W_exit (id:Nat) (st:St) (Q:Ex→St→Prop):W X M (.exit id) st Q=Q (.exit id) st:=by simp[W,Zo6,YA]
@[go_sem] theorem W_stuck (st:St) (Q:Ex→St→Prop):W X M .stuck st Q=False:=by
 have h:Qm X M .stuck st=none:=XE fun n=>by simp only[Zy]
 simp only[W,h,ZeG]
@[go_sem] theorem W_region (n:Nat) (ops:List CO) (st:St) (Q:Ex→St→Prop) :
  W X M (.region n none ops) st Q=JY X M st.nx 0 ops st.sl st.hp (ZqH st.m (st.nx+64*n) Q):=by
 rw[Ztj,W,Zl0,ZgO,UA];rfl
theorem ZrM (n:Nat) (ps:List (Nat×Nat)) (ops:List CO) (st:St) (Q:Ex→St→Prop) :
  W X M (.region n (some ps) ops) st Q=XX X M st.nx 0 false ops st.sl st.hp (Zm6 ops ps (ZqH st.m (st.nx+64*n) Q)):=by
 rw[ZrL,W,Zo7,ZgO,UA,ZkP,UA];congr 1
 funext r
 by_cases h:Vw ops r.1 ps=true<;>simp[h,Zm6,YA,ZeG,ZqH]
@[go_sem] theorem W_draw0 (n:Nat) (ops:List CO) (st:St) (Q:Ex→St→Prop) :
  W X M (.region n (some []) ops) st Q=XX X M st.nx 0 false ops st.sl st.hp (ZqH st.m (st.nx+64*n) Q):=by
 rw[ZrM];congr 1
 funext sl hp
 simp[Zm6,Vw]
@[go_sem] theorem W_drawc (n:Nat) (p:Nat×Nat) (ps:List (Nat×Nat)) (ops:List CO) (st:St) (Q:Ex→St→Prop) :
  W X M (.region n (some (p :: ps)) ops) st Q=XX X M st.nx 0 false ops st.sl st.hp (Zm6 ops (p :: ps) (ZqH st.m (st.nx+64*n) Q)):=ZrM X M n _ ops st Q
def ZpP (c:ZI) (Q:Ex→St→Prop):Ex→St→Prop
 | .normal,st=>W X M c st Q
 | e,st=>Q e st
def blkQ (id:Nat) (Q:Ex→St→Prop):Ex→St→Prop
 | .exit j,st=>if j=id then Q .normal st else Q (.exit j) st
 | e,st=>Q e st
@[go_sem] theorem Ztk (c:ZI) (Q:Ex→St→Prop) (st:St):ZpP X M c Q .normal st=W X M c st Q:=rfl
@[go_sem] theorem thenQ_ret (c:ZI) (Q:Ex→St→Prop) (st:St):ZpP X M c Q .ret st=Q .ret st:=rfl
@[go_sem] theorem Zun (c:ZI) (Q:Ex→St→Prop) (id:Nat) (st:St):ZpP X M c Q (.exit id) st=Q (.exit id) st:=rfl
@[go_sem] theorem ZtX (id:Nat) (Q:Ex→St→Prop) (st:St):blkQ id Q .normal st=Q .normal st:=rfl
@[go_sem] theorem blkQ_ret (id:Nat) (Q:Ex→St→Prop) (st:St):blkQ id Q .ret st=Q .ret st:=rfl
@[go_sem] theorem blkQ_exit (id j:Nat) (Q:Ex→St→Prop) (st:St):blkQ id Q (.exit j) st=if j=id then Q .normal st else Q (.exit j) st:=rfl
@[go_sem] theorem W_seq (a b:ZI) (st:St) (Q:Ex→St→Prop):W X M (.seq a b) st Q=W X M a st (ZpP X M b Q):=by
 unfold W;rw[Zq4];cases h:Qm X M a st with
 | none=>rfl
 | some r=>obtain⟨e,aa⟩:=r;cases e<;>rfl
@[go_sem] theorem W_cond (c:Opd) (a b:ZI) (st:St) (Q:Ex→St→Prop) :
  W X M (.cond c a b) st Q=Y3 (evO st.sl c) (W X M a st Q) (W X M b st Q):=by
 unfold W;rw[Zo8];cases h:evO st.sl c with
 | d x=>cases x with
  | bool t=>cases t<;>simp[ZdF,Y3]
  | _=>rfl
 | _=>rfl
@[go_sem] theorem W_block (id:Nat) (c:ZI) (st:St) (Q:Ex→St→Prop):W X M (.block id c) st Q=W X M c st (blkQ id Q):=by
 unfold W;rw[Zns];cases h:Qm X M c st with
 | none=>rfl
 | some r=>
  obtain⟨e,aa⟩:=r;cases e with
  | exit j=>by_cases hj:j=id<;>simp[Zcm,hj,YA,blkQ]
  | normal=>rfl
  | ret=>rfl
def keepQ (K:List Nat) (Q:Ex→St→Prop) (e:Ex) (st:St):Prop:=Q e { sl:=only K st.sl,hp:=st.hp,nx:=st.nx,m:=st.m }
@[go_sem] theorem keepQ_eq (K:List Nat) (Q:Ex→St→Prop) (e:Ex) (st:St):keepQ K Q e st=Q e { sl:=only K st.sl,hp:=st.hp,nx:=st.nx,m:=st.m }:=rfl
@[go_sem] theorem W_keep (K:List Nat) (c:ZI) (st:St) (Q:Ex→St→Prop):W X M (.keep K c) st Q=W X M c st (keepQ K Q):=by
 unfold W;rw[Zo9];cases h:Qm X M c st with
 | none=>rfl
 | some r=>rfl
def shutQ (id nm:Nat) (Q:Ex→St→Prop) (e:Ex) (st:St):Prop:=Q e { sl:=st.sl,hp:=Zq1 st.hp (ZgB st.hp id nm (lkp st.hp id)),nx:=st.nx,m:=st.m }
@[go_sem] theorem shutQ_eq (id nm:Nat) (Q:Ex→St→Prop) (e:Ex) (st:St):shutQ id nm Q e st=Q e { sl:=st.sl,hp:=Zq1 st.hp (ZgB st.hp id nm (lkp st.hp id)),nx:=st.nx,m:=st.m }:=rfl
def ZhR (c:ZI) (Q:Ex→St→Prop) (r:Option St):Prop:=stW r fun st=>W X M c st Q
@[go_sem] theorem Zuo (c:ZI) (Q:Ex→St→Prop) (st:St):ZhR X M c Q (some st)=W X M c st Q:=rfl
@[go_sem] theorem Zup (c:ZI) (Q:Ex→St→Prop):ZhR X M c Q none=False:=rfl
@[go_sem] theorem linkW_ite (c:ZI) (Q:Ex→St→Prop) (p:Prop) [Decidable p] (a b:Option St):ZhR X M c Q (if p then a else b)=((p→ZhR X M c Q a)∧(¬p→ZhR X M c Q b)):=by
 by_cases h:p<;>simp[h]
@[go_sem] theorem W_link (fl:Bool) (id:Nat) (i:Opd) (j:Nat) (c:ZI) (st:St) (Q:Ex→St→Prop):W X M (.link fl id i j c) st Q=ZhR X M c (shutQ id st.nx Q) (Zbc fl id i j st):=by
 unfold W ZhR;rw[Zpa];cases h:Zbc fl id i j st with
 | none=>rfl
 | some st1=>
  simp only[Zc,YA,W];cases h1:Qm X M c st1 with
  | none=>rfl
  | some q=>rfl
@[go_sem] theorem W_melt (c:ZI) (st:St) (Q:Ex→St→Prop):W X M (.melt c) st Q=W X M c { sl:=st.sl,hp:=Zfl ZeN st.hp,nx:=st.nx,m:=st.m } Q:=by
 unfold W;rw[Zpb];rfl
def LW (c:ZI) (K:List Nat) (st:St) (Q:Ex→St→Prop):Prop:=stW (Zco X M c K st) fun r=>Q r.1 r.2
@[congr] theorem LW_congr {c:ZI} {K K' : List Nat} {st aa : St} {Q:Ex→St→Prop} (hk:K=K') (h:st=aa):LW X M c K st Q=LW X M c K' aa Q:=by rw[h,hk]
@[go_sem] theorem W_loop (c:ZI) (st:St) (Q:Ex→St→Prop):W X M (.loop c) st Q=LW X M c (Ur st.sl) st Q:=by
 unfold W LW;rw[Zpc]
def ZhS (c:ZI) (K:List Nat) (Q:Ex→St→Prop):Ex→St→Prop
 | .normal,st=>LW X M c K st Q
 | e,st=>Q e st
@[go_sem] theorem Ztl (c:ZI) (K:List Nat) (Q:Ex→St→Prop) (st:St):ZhS X M c K Q .normal st=LW X M c K st Q:=rfl
@[go_sem] theorem nextQ_ret (c:ZI) (K:List Nat) (Q:Ex→St→Prop) (st:St):ZhS X M c K Q .ret st=Q .ret st:=rfl
@[go_sem] theorem Zuq (c:ZI) (K:List Nat) (Q:Ex→St→Prop) (id:Nat) (st:St):ZhS X M c K Q (.exit id) st=Q (.exit id) st:=rfl
theorem Zav {c:ZI} {K:List Nat} {st:St} {Q:Ex→St→Prop} (h:W X M c (VM K st) (ZhS X M c K Q)):LW X M c K st Q:=by
 unfold W at h;cases hv:Qm X M c (VM K st) with
 | none=>rw[hv] at h;exact h.elim
 | some r=>
  rw[hv] at h;obtain⟨e,aa⟩:=r;unfold LW;cases e with
  | normal=>rw[Znt X M hv];exact h
  | exit id=>rw[Ziq X M (by simp) hv];exact h
  | ret=>rw[Ziq X M (by simp) hv];exact h
def ZhT (sl:Sl):Sl→Sl
 | []=>sl
 | (k,v) :: r=>ZhT (ins sl k v) r
def ZdA (hp:Hp):Hp→Hp
 | []=>hp
 | (k,o) :: r=>ZdA (ins hp k o) r
theorem LW_ind {α:Type} (S:α→St) (I:α→Prop) (μ:α→Nat) {c:ZI} {K:List Nat} {Q:Ex→St→Prop}
  (step:∀ a,I a→(∀ b st,I b→μ b<μ a→VM K st=S b→LW X M c K st Q)→W X M c (S a) (ZhS X M c K Q)) :
  ∀ a st,I a→VM K st=S a→LW X M c K st Q:=by
 have aa:∀ n a st,μ a=n→I a→VM K st=S a→LW X M c K st Q:=by
  intro n
  induction n using Nat.strongRecOn with
  | ind n ih=>
   intro a st hn ha hs;refine Zav X M ?_;rw[hs];exact step a ha fun b ab hb ae ad=>ih (μ b) (by omega) b ab rfl hb ad
 exact fun a st ha hs=>aa _ a st rfl ha hs
theorem V2 {α:Type} (u:α→Sl) (uh:α→Hp) (I:α→Prop) (μ:α→Nat) (a:α) {c:ZI} {K:List Nat} {Q:Ex→St→Prop} {st st0:St}
  (hc:VM K st=st0) (ha:I a) (h0:(⟨ZhT st0.sl (u a),ZdA st0.hp (uh a),st0.nx,st0.m⟩:St)=st0)
  (step:∀ a,I a→(∀ b st,I b→μ b<μ a→VM K st=⟨ZhT st0.sl (u b),ZdA st0.hp (uh b),st0.nx,st0.m⟩→LW X M c K st Q)→W X M c ⟨ZhT st0.sl (u a),ZdA st0.hp (uh a),st0.nx,st0.m⟩ (ZhS X M c K Q)) :
  LW X M c K st Q:=
 LW_ind X M (fun a=>⟨ZhT st0.sl (u a),ZdA st0.hp (uh a),st0.nx,st0.m⟩) I μ step a st ha (hc.trans h0.symm)
def ZlE (m:Nat) (rs:List Zjt) (R:AV×List Zk→Prop):Ex→St→Prop:=fun e st=>stW (J8 m rs (some (e,st))) R
def resW (m:Nat) (hp:Hp) (R:AV×List Zk→Prop) (vs:Option (List AV)):Prop:=stW vs fun vs=>R (YG m hp (Jf vs))
@[go_sem] theorem resW_some (m:Nat) (hp:Hp) (R:AV×List Zk→Prop) (vs:List AV):resW m hp R (some vs)=R (YG m hp (Jf vs)):=rfl
@[go_sem] theorem resW_none (m:Nat) (hp:Hp) (R:AV×List Zk→Prop):resW m hp R none=False:=rfl
@[go_sem] theorem endQ_ret (m:Nat) (rs:List Zjt) (R:AV×List Zk→Prop) (st:St):ZlE m rs R .ret st=resW m st.hp R (Qa (Zio st) rs):=by
 simp only[ZlE,J8,UA];rfl
@[go_sem] theorem ZtY (m:Nat) (rs:List Zjt) (R:AV×List Zk→Prop) (st:St):ZlE m rs R .normal st=resW m st.hp R (Qa (Zio st) rs):=by
 simp only[ZlE,J8,UA];rfl
theorem ZrN {f:Nat} {as:List AV} {h:List Zk} (fn:ZE) {R:AV×List Zk→Prop} (hx:X f=some (.text fn)) (hl:as.length≤fn.nt)
  (hr:W X M fn.body { sl:=Yr 0 as,hp:=YF 0 h,nx:=h.length,m:=h.length } (ZlE h.length fn.res R)):∃ r,Zh X M f as h=some r∧R r:=by
 unfold W at hr;cases hv:Qm X M fn.body { sl:=Yr 0 as,hp:=YF 0 h,nx:=h.length,m:=h.length } with
 | none=>rw[hv] at hr;exact hr.elim
 | some q=>
  rw[hv] at hr;obtain⟨e,st⟩:=q;simp only[YA,ZlE] at hr;cases hk:J8 h.length fn.res (some (e,st)) with
  | none=>rw[hk] at hr;exact hr.elim
  | some r=>rw[hk] at hr;exact⟨r,Zr3 X M hx hl (by rw[hv];exact hk),hr⟩
theorem callE {f:Nat} {as:List AV} {h:List Zk} (fn:ZE) {r:AV×List Zk} (hx:X f=some (.text fn)) (hl:as.length≤fn.nt)
  (hr:W X M fn.body { sl:=Yr 0 as,hp:=YF 0 h,nx:=h.length,m:=h.length } (ZlE h.length fn.res fun q=>q=r)):Zh X M f as h=some r:=by
 obtain⟨q,hq,rfl⟩:=ZrN X M fn hx hl hr;exact hq
end
@[go_sem] theorem vopE_move (C:Orc) (M:Zj) (sl:Sl) (hp:Hp) (base:Nat) (x:Opd):vop C M sl hp base (.move x)=Qr (evO sl x):=by simp only[vop]
@[go_sem] theorem ZtZ (C:Orc) (M:Zj) (sl:Sl) (hp:Hp) (base:Nat) (s:Option Nat) (x:Opd):vop C M sl hp base (.assign s x)=Za0 base s (evO sl x):=by simp only[vop]
@[go_sem] theorem vopE_pick (C:Orc) (M:Zj) (sl:Sl) (hp:Hp) (base:Nat) (c a b:Opd):vop C M sl hp base (.pick c a b)=Zce (evO sl a) (evO sl b) (evO sl c):=by simp only[vop]
@[go_sem] theorem Zur (C:Orc) (M:Zj) (sl:Sl) (hp:Hp) (base:Nat) (slc:List (Option Nat)) (cs:List AV):vop C M sl hp base (.alloc slc cs)=Zcf slc base cs:=by simp only[vop]
@[go_sem] theorem vopE_box (C:Orc) (M:Zj) (sl:Sl) (hp:Hp) (base:Nat) (x:Opd):vop C M sl hp base (.box x)=ZqR base (evO sl x):=by simp only[vop]
@[go_sem] theorem Zus (C:Orc) (M:Zj) (sl:Sl) (hp:Hp) (base:Nat) (zs:List AV) (ps:List (Nat×Nat×Opd)):vop C M sl hp base (.build zs ps)=Zh3 zs (evP sl ps):=by simp only[vop]
@[go_sem] theorem Ztm (C:Orc) (M:Zj) (sl:Sl) (hp:Hp) (base:Nat) (s:Nat) (xs:List Opd):vop C M sl hp base (.buildSl s xs)=buildSl hp base s (evL sl xs):=by simp only[vop]
@[go_sem] theorem vopE_load (C:Orc) (M:Zj) (sl:Sl) (hp:Hp) (base:Nat) (g:Bool) (s:Nat) (a:Opd):vop C M sl hp base (.load g s a)=Yg (Vc hp g s (evO sl a)):=by simp only[vop]
@[go_sem] theorem Zut (C:Orc) (M:Zj) (sl:Sl) (hp:Hp) (base:Nat) (slc:List (Option Nat)) (s:Nat) (a x:Opd):vop C M sl hp base (.store slc s a x)=ZbQ (Uo hp slc s base (evO sl x).cells (evO sl a)):=by simp only[vop]
@[go_sem] theorem ZsB (C:Orc) (M:Zj) (sl:Sl) (hp:Hp) (base:Nat) (x:Opd):vop C M sl hp base (.nilCheck x)=WM (evO sl x):=by simp only[vop]
@[go_sem] theorem vopE_bin (C:Orc) (M:Zj) (sl:Sl) (hp:Hp) (base:Nat) (op:BinOp) (eq:Bool) (x y:Opd):vop C M sl hp base (.bin op eq x y)=Zh4 op eq (evO sl x) (evO sl y):=by simp only[vop]
@[go_sem] theorem vopE_un (C:Orc) (M:Zj) (sl:Sl) (hp:Hp) (base:Nat) (op:UnOp) (x:Opd):vop C M sl hp base (.un op x)=Yg (vun op (evO sl x)):=by simp only[vop]
@[go_sem] theorem vopE_eqA (C:Orc) (M:Zj) (sl:Sl) (hp:Hp) (base:Nat) (neg:Bool) (ks:List Nat) (x y:Opd):vop C M sl hp base (.eqA neg ks x y)=ZlL neg ks (evO sl x) (evO sl y):=by simp only[vop]
@[go_sem] theorem Zuu (C:Orc) (M:Zj) (sl:Sl) (hp:Hp) (base:Nat) (k:IntKind) (x:Opd):vop C M sl hp base (.convI k x)=convI k (evO sl x):=by simp only[vop]
@[go_sem] theorem Zuv (C:Orc) (M:Zj) (sl:Sl) (hp:Hp) (base:Nat) (x:Opd):vop C M sl hp base (.convS x)=convS (evO sl x):=by simp only[vop]
@[go_sem] theorem vopE_fn (C:Orc) (M:Zj) (sl:Sl) (hp:Hp) (base:Nat) (f:Nat) (cs:List Opd):vop C M sl hp base (.fn f cs)=Yg (cloV f (evL sl cs)):=by simp only[vop]
@[go_sem] theorem vopE_make (C:Orc) (M:Zj) (sl:Sl) (hp:Hp) (base:Nat) (s b:Nat) (z:D) (l c:Opd):vop C M sl hp base (.make s b z l c)=bnd (idx (evO sl l)) fun l=>bnd (idx (evO sl c)) fun c=>ZkJ base s b z l c:=by simp only[vop]
@[go_sem] theorem Zuw (C:Orc) (M:Zj) (sl:Sl) (hp:Hp) (base:Nat) (s:Nat) (x:Opd) (lo hi:Option Opd):vop C M sl hp base (.slice s x lo hi)=Yg (Yf hp s (evM sl lo) (evM sl hi) (evO sl x)):=by simp only[vop]
@[go_sem] theorem Zt0 (C:Orc) (M:Zj) (sl:Sl) (hp:Hp) (base:Nat) (x:Opd) (lo hi:Option Opd):vop C M sl hp base (.sliceS x lo hi)=Yg (sliceS (evM sl lo) (evM sl hi) (evO sl x)):=by simp only[vop]
@[go_sem] theorem Zt1 (C:Orc) (M:Zj) (sl:Sl) (hp:Hp) (base:Nat) (x hi mx:Opd):vop C M sl hp base (.slice0 x hi mx)=Yg (slice0 hp (evO sl x) (idx (evO sl hi)) (idx (evO sl mx))):=by simp only[vop]
@[go_sem] theorem Zux (C:Orc) (M:Zj) (sl:Sl) (hp:Hp) (base:Nat) (off:Nat) (x:Opd):vop C M sl hp base (.shift off x)=YD off (evO sl x):=by simp only[vop]
@[go_sem] theorem vopE_part (C:Orc) (M:Zj) (sl:Sl) (hp:Hp) (base:Nat) (g:Bool) (s off:Nat) (x:Opd):vop C M sl hp base (.part g s off x)=Yg (ZeM g s off (evO sl x)):=by simp only[vop]
@[go_sem] theorem vopE_iaS (C:Orc) (M:Zj) (sl:Sl) (hp:Hp) (base:Nat) (s:Nat) (x i:Opd):vop C M sl hp base (.iaS s x i)=bnd (idx (evO sl i)) fun n=>ZdE hp s (evO sl x) n:=by simp only[vop]
@[go_sem] theorem vopE_iaA (C:Orc) (M:Zj) (sl:Sl) (hp:Hp) (base:Nat) (len s:Nat) (x i:Opd):vop C M sl hp base (.iaA len s x i)=bnd (idx (evO sl i)) fun n=>Zh6 (evO sl x) n len s:=by simp only[vop]
@[go_sem] theorem vopE_ixS (C:Orc) (M:Zj) (sl:Sl) (hp:Hp) (base:Nat) (x i:Opd):vop C M sl hp base (.ixS x i)=bnd (idx (evO sl i)) fun n=>ZoQ n (evO sl x):=by simp only[vop]
@[go_sem] theorem vopE_ixA (C:Orc) (M:Zj) (sl:Sl) (hp:Hp) (base:Nat) (g:Bool) (s len:Nat) (x i:Opd):vop C M sl hp base (.ixA g s len x i)=bnd (idx (evO sl i)) fun n=>ZqT g s len n (evO sl x):=by simp only[vop]
@[go_sem] theorem vopE_nth (C:Orc) (M:Zj) (sl:Sl) (hp:Hp) (base:Nat) (i:Nat) (x:Opd):vop C M sl hp base (.nth i x)=Znf i (evO sl x):=by simp only[vop]
@[go_sem] theorem vopE_len (C:Orc) (M:Zj) (sl:Sl) (hp:Hp) (base:Nat) (x:Opd):vop C M sl hp base (.len x)=bnd (JX hp (evO sl x)) fun n=>Qr (.d (.int .i64 n)):=by simp only[vop]
@[go_sem] theorem vopE_lenS (C:Orc) (M:Zj) (sl:Sl) (hp:Hp) (base:Nat) (x:Opd):vop C M sl hp base (.lenS x)=bnd (Zqh (evO sl x)) fun n=>Qr (.d (.int .i64 n)):=by simp only[vop]
@[go_sem] theorem Zt2 (C:Orc) (M:Zj) (sl:Sl) (hp:Hp) (base:Nat) (s b:Nat) (str flat:Bool) (x y:Opd):vop C M sl hp base (.append s b str flat x y)=Zng hp s b str flat base (evO sl x) (evO sl y):=by simp only[vop]
@[go_sem] theorem vopE_min (C:Orc) (M:Zj) (sl:Sl) (hp:Hp) (base:Nat) (x y:Opd):vop C M sl hp base (.min x y)=Zgw (evO sl x) (evO sl y):=by simp only[vop]
@[go_sem] theorem vopE_max (C:Orc) (M:Zj) (sl:Sl) (hp:Hp) (base:Nat) (x y:Opd):vop C M sl hp base (.max x y)=Zgx (evO sl x) (evO sl y):=by simp only[vop]
@[go_sem] theorem vopE_call (C:Orc) (M:Zj) (sl:Sl) (hp:Hp) (base:Nat) (f:Opd) (as:List Opd):vop C M sl hp base (.call f as)=J4 C M hp base (evL sl as) (evO sl f):=by simp only[vop]
@[go_sem] theorem Zt3 (C:Orc) (M:Zj) (sl:Sl) (hp:Hp) (base:Nat) (s:Nat) (x lo hi mx:Opd):vop C M sl hp base (.slice3 s x lo hi mx)=Yg (slice3 hp (evO sl x) (idx (evO sl lo)) (idx (evO sl hi)) (idx (evO sl mx))):=by simp only[vop]
@[go_sem] theorem Zuy (C:Orc) (M:Zj) (sl:Sl) (hp:Hp) (base:Nat) (s:Nat) (z:D) (x:Opd):vop C M sl hp base (.clear s z x)=ZbQ (ZaW hp s z (evO sl x)):=by simp only[vop]
@[go_sem] theorem Zt4 (C:Orc) (M:Zj) (sl:Sl) (hp:Hp) (base:Nat) (s n:Nat) (xs:List Opd):vop C M sl hp base (.buildT s n xs)=buildT hp base s n (evL sl xs):=by simp only[vop]
@[go_sem] theorem vopE_appT (C:Orc) (M:Zj) (sl:Sl) (hp:Hp) (base:Nat) (s b:Nat) (f:Bool) (x y:Opd):vop C M sl hp base (.appT s b f x y)=appT hp s b base (evO sl x) (evO sl y):=by simp only[vop]
@[go_sem] theorem vopE_asgT (C:Orc) (M:Zj) (sl:Sl) (hp:Hp) (base:Nat) (s n:Nat) (x:Opd):vop C M sl hp base (.asgT s n x)=asgT base s n (evO sl x):=by simp only[vop]
@[go_sem] theorem Zuz (C:Orc) (M:Zj) (sl:Sl) (hp:Hp) (base:Nat) (s b n:Nat) (z:D) (l c:Opd):vop C M sl hp base (.makeT s b n z l c)=bnd (idx (evO sl l)) fun l=>bnd (idx (evO sl c)) fun c=>makeT base s b n z l c:=by simp only[vop]
@[go_sem] theorem ZuA (C:Orc) (M:Zj) (sl:Sl) (hp:Hp) (base:Nat):vop C M sl hp base .stuck=none:=by simp only[vop]
@[go_sem] theorem ZqI (hp:Hp) (n:Nat) (aa:List Nat):Qy hp n [] aa=aa:=by cases n<;>rfl
@[go_sem] theorem tidy_d (hp:Hp) (ids:List Nat) (x:D):ZaD hp ids (.d x)=.d x:=rfl
@[go_sem] theorem tidy_nil (hp:Hp) (ids:List Nat):ZaD hp ids .nil=.nil:=rfl
@[go_sem] theorem tidy_junk (hp:Hp) (ids:List Nat):ZaD hp ids .junk=.junk:=rfl
@[go_sem] theorem tidy_tup (hp:Hp) (ids:List Nat) (vs:List AV):ZaD hp ids (.tup vs)=ren (Yl ids) (kill (Zck hp ids (Zo (.tup vs))) (.tup vs)):=rfl
@[go_sem] theorem tidy_agg (hp:Hp) (ids:List Nat) (vs:List AV):ZaD hp ids (.agg vs)=ren (Yl ids) (kill (Zck hp ids (Zo (.agg vs))) (.agg vs)):=rfl
@[go_sem] theorem tidy_clo (hp:Hp) (ids:List Nat) (f:Nat) (vs:List AV):ZaD hp ids (.clo f vs)=ren (Yl ids) (kill (Zck hp ids (Zo (.clo f vs))) (.clo f vs)):=rfl
@[go_sem] theorem tidy_nilp (hp:Hp) (ids:List Nat):ZaD hp ids .nilp=.nilp:=rfl
@[go_sem] theorem tidy_nili (hp:Hp) (ids:List Nat):ZaD hp ids .nili=.nili:=rfl
@[go_sem] theorem tidy_pim (hp:Hp) (ids:List Nat) (cs:List D):ZaD hp ids (.pim cs)=.pim cs:=rfl
@[go_sem] theorem tidy_ptr (hp:Hp) (ids:List Nat) (id o:Nat):ZaD hp ids (.ptr id o)=if J7 hp ids id=true then .ptr (Yl ids id) o else .junk:=by
 simp only[ZaD,Zo,Zs,Zi,Zck];split<;>simp[kill,ZG,ZT,ren,Zap,ZaN]
@[go_sem] theorem tidy_prow (hp:Hp) (ids:List Nat) (id s i o:Nat):ZaD hp ids (.prow id s i o)=if J7 hp ids id=true then .prow (Yl ids id) s i o else .junk:=by
 simp only[ZaD,Zo,Zs,Zi,Zck];split<;>simp[kill,ZG,ZT,ren,Zap,ZaN]
@[go_sem] theorem tidy_own (hp:Hp) (ids:List Nat) (id:Nat):ZaD hp ids (.own id)=if J7 hp ids id=true then .own (Yl ids id) else .junk:=by
 simp only[ZaD,Zo,Zs,Zi,Zck];split<;>simp[kill,ZG,ZT,ren,Zap,ZaN]
@[go_sem] theorem tidy_ownv (hp:Hp) (ids:List Nat) (id a b:Nat):ZaD hp ids (.ownv id a b)=if J7 hp ids id=true then .ownv (Yl ids id) a b else .junk:=by
 simp only[ZaD,Zo,Zs,Zi,Zck];split<;>simp[kill,ZG,ZT,ren,Zap,ZaN]
@[go_sem] theorem ZuB (hp:Hp) (x:D):YG 0 hp (.d x)=(.d x,[]):=by
 simp[YG,Zo,Zs,Zi,YV,ZqI,tidy_d,J1]
@[go_sem] theorem minI_eq (a b:Int):minI a b=min a b:=by unfold minI;split<;>omega
@[go_sem] theorem maxI_eq (a b:Int):maxI a b=max a b:=by unfold maxI;split<;>omega
@[go_sem] theorem negIf_f (r:Bool):Zh5 false r=r:=rfl
@[go_sem] theorem negIf_t (r:Bool):Zh5 true r=!r:=rfl
@[go_sem] theorem opt1_some (v:AV):Yg (some v)=Qr v:=rfl
@[go_sem] theorem opt1_none:Yg none=none:=rfl
@[go_sem] theorem vbin_int (op:BinOp) (k k' : IntKind) (a b:Int):vbin op (.d (.int k a)) (.d (.int k' b))=WH op k k' a b:=rfl
@[go_sem] theorem binV_int (op:BinOp) (eq:Bool) (k k' : IntKind) (a b:Int):Zh4 op eq (.d (.int k a)) (.d (.int k' b))=Yg (WH op k k' a b):=rfl
@[go_sem] theorem binV_str (op:BinOp) (eq:Bool) (a b:List UInt8):Zh4 op eq (.d (.str a)) (.d (.str b))=Yg (asD (ZmC op a b)):=rfl
@[go_sem] theorem int2_add (k:IntKind) (a b:Int):WH .add k k a b=some (.d (.int k (k.wrap (a+b)))):=by simp[WH,Vz,asD,Zc]
@[go_sem] theorem int2_sub (k:IntKind) (a b:Int):WH .sub k k a b=some (.d (.int k (k.wrap (a-b)))):=by simp[WH,Vz,asD,Zc]
@[go_sem] theorem int2_mul (k:IntKind) (a b:Int):WH .mul k k a b=some (.d (.int k (k.wrap (a*b)))):=by simp[WH,Vz,asD,Zc]
@[go_sem] theorem int2_quo (k:IntKind) (a b:Int):WH .quo k k a b=if b=0 then none else some (.d (.int k (k.wrap (a.tdiv b)))):=by simp only[WH,Vz,asD,if_true];split<;>rfl
@[go_sem] theorem int2_rem (k:IntKind) (a b:Int):WH .rem k k a b=if b=0 then none else some (.d (.int k (a.tmod b))):=by simp only[WH,Vz,asD,if_true];split<;>rfl
@[go_sem] theorem int2_eql (k:IntKind) (a b:Int):WH .eql k k a b=some (.d (.bool (decide (a=b)))):=by simp[WH,Vz,asD,Zc,BEq.beq]
@[go_sem] theorem int2_neq (k:IntKind) (a b:Int):WH .neq k k a b=some (.d (.bool (!decide (a=b)))):=by simp[WH,Vz,asD,Zc,bne,BEq.beq]
@[go_sem] theorem int2_lss (k:IntKind) (a b:Int):WH .lss k k a b=some (.d (.bool (decide (a<b)))):=by simp[WH,Vz,asD,Zc]
@[go_sem] theorem int2_leq (k:IntKind) (a b:Int):WH .leq k k a b=some (.d (.bool (decide (a≤b)))):=by simp[WH,Vz,asD,Zc]
@[go_sem] theorem int2_gtr (k:IntKind) (a b:Int):WH .gtr k k a b=some (.d (.bool (decide (b<a)))):=by simp[WH,Vz,asD,Zc]
@[go_sem] theorem int2_geq (k:IntKind) (a b:Int):WH .geq k k a b=some (.d (.bool (decide (b≤a)))):=by simp[WH,Vz,asD,Zc]
@[go_sem] theorem guardV_t (b:Bool):Za7 true (.d (.bool b))=some b:=by cases b<;>rfl
def nb (b:Bool):Bool:=!b
@[go_sem] theorem nb_true:nb true=false:=rfl
@[go_sem] theorem nb_false:nb false=true:=rfl
@[go_sem] theorem nb_eq (b:Bool):(nb b=true)=(b=false):=by cases b<;>simp[nb]
@[go_sem] theorem guardV_f (b:Bool):Za7 false (.d (.bool b))=some (nb b):=by cases b<;>rfl
@[go_sem] theorem ZuC (w:Bool):Za7 w (.tup [])=some false:=rfl
@[go_sem] theorem Ztn (a b:Bool):Za7 true (Zdo a (.d (.bool b)))=some (a&&b):=by cases a<;>cases b<;>rfl
@[go_sem] theorem Zto (a b:Bool):Za7 false (Zdo a (.d (.bool b)))=some (a&&nb b):=by cases a<;>cases b<;>rfl
@[go_sem] theorem iteV_true (v:AV):Zdo true v=v:=rfl
@[go_sem] theorem ZuD (v:AV):Zdo false v=.tup []:=rfl
@[go_sem] theorem ZuE (a b:AV):Zce a b (.d (.bool true))=Qr a:=rfl
@[go_sem] theorem Zt5 (a b:AV):Zce a b (.d (.bool false))=Qr b:=rfl
@[go_sem] theorem pickV_or (b c:Bool):Zce (.d (.bool true)) (Zdo (nb b) (.d (.bool c))) (.d (.bool b))=Qr (.d (.bool (b || c))):=by cases b<;>rfl
@[go_sem] theorem pickV_and (b c:Bool):Zce (Zdo b (.d (.bool c))) (.d (.bool false)) (.d (.bool b))=Qr (.d (.bool (b&&c))):=by cases b<;>rfl
theorem ZuF (a b:AV) (t:Bool):Zce a b (.d (.bool t))=if t=true then Qr a else Qr b:=by cases t<;>rfl
@[go_sem] theorem dec_or (p q:Prop) [Decidable p] [Decidable q]:(decide p || decide q)=decide (p∨q):=by simp
@[go_sem] theorem dec_and (p q:Prop) [Decidable p] [Decidable q]:(decide p&&decide q)=decide (p∧q):=by simp
@[go_sem] theorem dec_not (p:Prop) [Decidable p]:(!decide p)=decide (¬p):=by simp
attribute [go_sem] Bool.or_eq_false_iff decide_eq_true_eq decide_eq_false_iff_not Bool.and_eq_true Bool.or_eq_true Bool.not_eq_true' Bool.not_eq_false' not_or Decidable.not_not
@[go_sem] theorem evO_t (sl:Sl) (n:Nat):evO sl (.t n)=gs sl n:=rfl
@[go_sem] theorem evO_v (sl:Sl) (a:AV):evO sl (.v a)=a:=rfl
@[go_sem] theorem evO_f (sl:Sl) (n:Nat):evO sl (.f n)=.clo n []:=rfl
@[go_sem] theorem gs_hit (k:Nat) (v:AV) (r:Sl):gs ((k,v) :: r) k=v:=by simp[gs,lkp,JV]
@[go_sem] theorem gs_cons (k t:Nat) (v:AV) (r:Sl):gs ((k,v) :: r) t=if k=t then v else gs r t:=by
 by_cases h:k=t<;>simp[gs,lkp,h,JV]
@[go_sem] theorem gs_nil (t:Nat):gs [] t=.junk:=rfl
attribute [go_sem] ZaL.eq_1 ZaL.eq_2
attribute [go_sem] VX.eq_1 VX.eq_2 VX.eq_3 VX.eq_4
attribute [go_sem] Zeq.eq_1 Zeq.eq_2 Zeq.eq_3 Zeq.eq_4
attribute [go_sem] Wy.eq_1 Wy.eq_2
attribute [go_sem] St.hp.eq_1
attribute [go_sem] JC.eq_1 JC.eq_2 JC.eq_3
attribute [go_sem] JV.eq_1 JV.eq_2
attribute [go_sem] agg2.eq_1 agg2.eq_2 agg2.eq_3
attribute [go_sem] ins.eq_1 ins.eq_2
attribute [go_sem] ZaM.eq_1 ZaM.eq_2
attribute [go_sem] QW.eq_1 QW.eq_2 QW.eq_3
attribute [go_sem] St.m.eq_1
attribute [go_sem] bnd.eq_1 bnd.eq_2
attribute [go_sem] YS.eq_1 YS.eq_2 YS.eq_3
attribute [go_sem] ZmC.eq_1 ZmC.eq_2 ZmC.eq_3 ZmC.eq_4
attribute [go_sem] AV.cells.eq_1 AV.cells.eq_2 AV.cells.eq_3 AV.cells.eq_4 AV.cells.eq_5 AV.cells.eq_6 AV.cells.eq_7 AV.cells.eq_8 AV.cells.eq_9 AV.cells.eq_10 AV.cells.eq_11 AV.cells.eq_12 AV.cells.eq_13 AV.cells.eq_14 AV.cells.eq_15
attribute [go_sem] ZT.eq_1 ZT.eq_2 ZT.eq_3 ZT.eq_4 ZT.eq_5 ZT.eq_6
attribute [go_sem] AV.solid.eq_1 AV.solid.eq_2 AV.solid.eq_3 AV.solid.eq_4
attribute [go_sem] Yi.eq_1 Yi.eq_2
attribute [go_sem] Qa.eq_1 Qa.eq_2
attribute [go_sem] Xf.eq_1 Xf.eq_2
attribute [go_sem] VV.eq_1
attribute [go_sem] JX.eq_1 JX.eq_2 JX.eq_3 JX.eq_4 JX.eq_5
attribute [go_sem] Yv.eq_1 Yv.eq_2
attribute [go_sem] D.flat.eq_1
attribute [go_sem] give.eq_1 give.eq_2
attribute [go_sem] D.beq1.eq_1 D.beq1.eq_2 D.beq1.eq_3 D.beq1.eq_4
attribute [go_sem] ZaN.eq_1 ZaN.eq_2 ZaN.eq_3 ZaN.eq_4 ZaN.eq_5 ZaN.eq_6
attribute [go_sem] not1.eq_1 not1.eq_2
attribute [go_sem] QH.eq_1 QH.eq_2 QH.eq_3 QH.eq_4
attribute [go_sem] St.nx.eq_1
attribute [go_sem] Zs.eq_1 Zs.eq_2 Zs.eq_3
attribute [go_sem] Zap.eq_1 Zap.eq_2 Zap.eq_3
attribute [go_sem] Zer.eq_1 Zer.eq_2
attribute [go_sem] vun.eq_1 vun.eq_2 vun.eq_3
attribute [go_sem] toD.eq_1 toD.eq_2
attribute [go_sem] Zi.eq_1 Zi.eq_2 Zi.eq_3 Zi.eq_4 Zi.eq_5 Zi.eq_6 Zi.eq_7 Zi.eq_8 Zi.eq_9 Zi.eq_10 Zi.eq_11 Zi.eq_12 Zi.eq_13 Zi.eq_14 Zi.eq_15
attribute [go_sem] D.plain.eq_1 D.plain.eq_2 D.plain.eq_3 D.plain.eq_4 D.plain.eq_5
attribute [go_sem] Zm.eq_1
attribute [go_sem] ZG.eq_1 ZG.eq_2 ZG.eq_3
attribute [go_sem] Vt.eq_1 Vt.eq_2
attribute [go_sem] Zo.eq_1 Zo.eq_2
attribute [go_sem] Zon.eq_1
attribute [go_sem] Zfl.eq_1 Zfl.eq_2
attribute [go_sem] Uw.eq_1 Uw.eq_2 Uw.eq_3 Uw.eq_4
attribute [go_sem] St.sl.eq_1
attribute [go_sem] Zqh.eq_1 Zqh.eq_2
attribute [go_sem] YT.eq_1 YT.eq_2
attribute [go_sem] JW.eq_1 JW.eq_2
attribute [go_sem] ren.eq_1 ren.eq_2
attribute [go_sem] kill.eq_1 kill.eq_2
attribute [go_sem] lkp.eq_1 lkp.eq_2
attribute [go_sem] Zkj.eq_1 Zkj.eq_2 Zkj.eq_3
attribute [go_sem] QS.eq_1 QS.eq_2
attribute [go_sem] beqL.eq_1 beqL.eq_2 beqL.eq_3
attribute [go_sem] D.cells.eq_1 D.cells.eq_2 D.cells.eq_3 D.cells.eq_4 D.cells.eq_5
attribute [go_sem] Zhh.eq_1 Zhh.eq_2
attribute [go_sem] Zki.eq_1 Zki.eq_2
attribute [go_sem] neg1.eq_1 neg1.eq_2
attribute [go_sem] Zfm.eq_1 Zfm.eq_2 Zfm.eq_3
attribute [go_sem] Zhi.eq_1 Zhi.eq_2
attribute [go_sem] XM.eq_1 XM.eq_2 XM.eq_3
attribute [go_sem] asD.eq_1
attribute [go_sem] Vz.eq_1 Vz.eq_2 Vz.eq_3 Vz.eq_4 Vz.eq_5 Vz.eq_6 Vz.eq_7 Vz.eq_8 Vz.eq_9 Vz.eq_10 Vz.eq_11 Vz.eq_12 Vz.eq_13 Vz.eq_14 Vz.eq_15 Vz.eq_16 Vz.eq_17
attribute [go_sem] Zdn.eq_1 Zdn.eq_2 Zdn.eq_3 Zdn.eq_4 Zdn.eq_5
attribute [go_sem] D.one.eq_1 D.one.eq_2 D.one.eq_3 D.one.eq_4 D.one.eq_5
attribute [go_sem] freeze.eq_1 freeze.eq_2
attribute [go_sem] UW.eq_1
attribute [go_sem] loOf.eq_1 loOf.eq_2
attribute [go_sem] Eff.on.eq_1
attribute [go_sem] appT.eq_1
attribute [go_sem] WZ.eq_1 WZ.eq_2
attribute [go_sem] cloV.eq_1
attribute [go_sem] slice0.eq_1 slice0.eq_2
attribute [go_sem] evM.eq_1 evM.eq_2
attribute [go_sem] V5.eq_1 V5.eq_2
attribute [go_sem] hiOf.eq_1 hiOf.eq_2
attribute [go_sem] ZeM.eq_1 ZeM.eq_2 ZeM.eq_3
attribute [go_sem] ZpT.eq_1
attribute [go_sem] idx.eq_1 idx.eq_2
attribute [go_sem] Yf.eq_1 Yf.eq_2 Yf.eq_3 Yf.eq_4 Yf.eq_5
attribute [go_sem] WC.eq_1 WC.eq_2 WC.eq_3
attribute [go_sem] ZV.eq_1 ZV.eq_2
attribute [go_sem] D.notSl.eq_1 D.notSl.eq_2
attribute [go_sem] ZrS.eq_1 ZrS.eq_2
attribute [go_sem] U0.eq_1 U0.eq_2 U0.eq_3 U0.eq_4 U0.eq_5 U0.eq_6
attribute [go_sem] Vv.eq_1 Vv.eq_2 Vv.eq_3
attribute [go_sem] CO.guard.eq_1
attribute [go_sem] ZbQ.eq_1
attribute [go_sem] W6.eq_1
attribute [go_sem] UX.eq_1 UX.eq_2 UX.eq_3
attribute [go_sem] ZeI.eq_1
attribute [go_sem] Eff.adds.eq_1
attribute [go_sem] Zgv.eq_1 Zgv.eq_2
attribute [go_sem] Yl.eq_1 Yl.eq_2
attribute [go_sem] Zd.eq_1 Zd.eq_2
attribute [go_sem] Zb.eff.eq_1
attribute [go_sem] Zcb.eq_1 Zcb.eq_2
attribute [go_sem] ZoQ.eq_1 ZoQ.eq_2
attribute [go_sem] Zfx.eq_1 Zfx.eq_2 Zfx.eq_3
attribute [go_sem] del.eq_1 del.eq_2
attribute [go_sem] Zh3.eq_1
attribute [go_sem] ZlH.eq_1 ZlH.eq_2
attribute [go_sem] WL.eq_1 WL.eq_2
attribute [go_sem] Zgx.eq_1 Zgx.eq_2
attribute [go_sem] D.isAgg.eq_1 D.isAgg.eq_2
attribute [go_sem] WM.eq_1 WM.eq_2 WM.eq_3 WM.eq_4 WM.eq_5
attribute [go_sem] Zcf.eq_1
attribute [go_sem] slice3.eq_1
attribute [go_sem] UZ.eq_1 UZ.eq_2
attribute [go_sem] args.eq_1 args.eq_2
attribute [go_sem] Zgw.eq_1 Zgw.eq_2
attribute [go_sem] ZaZ.eq_1
attribute [go_sem] ZeJ.eq_1 ZeJ.eq_2
attribute [go_sem] V8.eq_1
attribute [go_sem] evL.eq_1 evL.eq_2
attribute [go_sem] Zfy.eq_1 Zfy.eq_2 Zfy.eq_3
attribute [go_sem] V4.eq_1 V4.eq_2 V4.eq_3
attribute [go_sem] J1.eq_1 J1.eq_2
attribute [go_sem] Zh0.eq_1 Zh0.eq_2
attribute [go_sem] Eff.sets.eq_1
attribute [go_sem] J2.eq_1 J2.eq_2 J2.eq_3
attribute [go_sem] ZeH.eq_1 ZeH.eq_2
attribute [go_sem] ZeL.eq_1 ZeL.eq_2
attribute [go_sem] Uo.eq_1 Uo.eq_2 Uo.eq_3
attribute [go_sem] ZqT.eq_1
attribute [go_sem] makeT.eq_1
attribute [go_sem] XO.eq_1 XO.eq_2
attribute [go_sem] ZrT.eq_1 ZrT.eq_2
attribute [go_sem] Zh1.eq_1 Zh1.eq_2
attribute [go_sem] U4.eq_1 U4.eq_2
attribute [go_sem] ZkJ.eq_1
attribute [go_sem] U3.eq_1 U3.eq_2
attribute [go_sem] AV.atom.eq_1 AV.atom.eq_2 AV.atom.eq_3 AV.atom.eq_4 AV.atom.eq_5
attribute [go_sem] Eff.dels.eq_1
attribute [go_sem] JI.eq_1 JI.eq_2 JI.eq_3
attribute [go_sem] mat.eq_1 mat.eq_2 mat.eq_3
attribute [go_sem] ZC.eq_1
attribute [go_sem] U2.eq_1 U2.eq_2
attribute [go_sem] ZlK.eq_1
attribute [go_sem] ZqR.eq_1
attribute [go_sem] JK.eq_1 JK.eq_2
attribute [go_sem] V6.eq_1
attribute [go_sem] Qd.eq_1 Qd.eq_2 Qd.eq_3 Qd.eq_4
attribute [go_sem] ZqS.eq_1
attribute [go_sem] Zb8.eq_1 Zb8.eq_2
attribute [go_sem] Zfz.eq_1 Zfz.eq_2
attribute [go_sem] Zni.eq_1 Zni.eq_2
attribute [go_sem] ZdD.eq_1 ZdD.eq_2 ZdD.eq_3 ZdD.eq_4
attribute [go_sem] ZdX.eq_1 ZdX.eq_2
attribute [go_sem] ZaX.eq_1 ZaX.eq_2
attribute [go_sem] Zca.eq_1 Zca.eq_2 Zca.eq_3 Zca.eq_4 Zca.eq_5
attribute [go_sem] ZlI.eq_1 ZlI.eq_2
attribute [go_sem] Zh2.eq_1
attribute [go_sem] convS.eq_1 convS.eq_2
attribute [go_sem] ZeK.eq_1 ZeK.eq_2
attribute [go_sem] CO.tl.eq_1
attribute [go_sem] Zcc.eq_1 Zcc.eq_2 Zcc.eq_3 Zcc.eq_4
attribute [go_sem] CO.dst.eq_1
attribute [go_sem] teOf.eq_1
attribute [go_sem] ZoR.eq_1 ZoR.eq_2 ZoR.eq_3
attribute [go_sem] ZlJ.eq_1
attribute [go_sem] Znd.eq_1 Znd.eq_2
attribute [go_sem] Zne.eq_1
attribute [go_sem] Eff.val.eq_1
attribute [go_sem] sliceS.eq_1 sliceS.eq_2
attribute [go_sem] Xw.eq_1 Xw.eq_2 Xw.eq_3
attribute [go_sem] Zb9.eq_1 Zb9.eq_2 Zb9.eq_3 Zb9.eq_4
attribute [go_sem] V3.eq_1
attribute [go_sem] buildSl.eq_1 buildSl.eq_2
attribute [go_sem] Vc.eq_1 Vc.eq_2 Vc.eq_3 Vc.eq_4
attribute [go_sem] Wz.eq_1 Wz.eq_2 Wz.eq_3 Wz.eq_4 Wz.eq_5
attribute [go_sem] Zgu.eq_1 Zgu.eq_2
attribute [go_sem] Zh6.eq_1
attribute [go_sem] evP.eq_1 evP.eq_2
attribute [go_sem] ZeN.eq_1 ZeN.eq_2
attribute [go_sem] JJ.eq_1
attribute [go_sem] Zc1.eq_1
attribute [go_sem] ZkI.eq_1 ZkI.eq_2
attribute [go_sem] Zh5.eq_1
attribute [go_sem] YC.eq_1
attribute [go_sem] Znh.eq_1
attribute [go_sem] bnT.eq_1 bnT.eq_2
attribute [go_sem] UY.eq_1 UY.eq_2
attribute [go_sem] YB.eq_1 YB.eq_2
attribute [go_sem] V7.eq_1 V7.eq_2
attribute [go_sem] asgT.eq_1 asgT.eq_2
attribute [go_sem] ZfA.eq_1 ZfA.eq_2
attribute [go_sem] J4.eq_1 J4.eq_2
attribute [go_sem] Zcd.eq_1 Zcd.eq_2 Zcd.eq_3 Zcd.eq_4
attribute [go_sem] Znb.eq_1 Znb.eq_2
attribute [go_sem] CO.op.eq_1
attribute [go_sem] Za0.eq_1 Za0.eq_2
attribute [go_sem] ZaW.eq_1 ZaW.eq_2
attribute [go_sem] ZqQ.eq_1 ZqQ.eq_2
attribute [go_sem] Zc2.eq_1 Zc2.eq_2 Zc2.eq_3
attribute [go_sem] Znf.eq_1 Znf.eq_2
attribute [go_sem] ZdY.eq_1 ZdY.eq_2
attribute [go_sem] ZaY.eq_1 ZaY.eq_2
attribute [go_sem] JB.eq_1 JB.eq_2 JB.eq_3 JB.eq_4 JB.eq_5 JB.eq_6 JB.eq_7 JB.eq_8 JB.eq_9 JB.eq_10
attribute [go_sem] W7.eq_1
attribute [go_sem] YD.eq_1 YD.eq_2 YD.eq_3 YD.eq_4
attribute [go_sem] Eff.frz.eq_1
attribute [go_sem] buildT.eq_1
attribute [go_sem] Z1.eq_1 Z1.eq_2
attribute [go_sem] Zc0.eq_1 Zc0.eq_2
attribute [go_sem] Zb.gone.eq_1
attribute [go_sem] meltIn.eq_1 meltIn.eq_2
attribute [go_sem] ZdE.eq_1
attribute [go_sem] Znc.eq_1 Znc.eq_2
attribute [go_sem] convI.eq_1 convI.eq_2
attribute [go_sem] Zg8.eq_1 Zg8.eq_2
attribute [go_sem] UE.eq_1 UE.eq_2 UE.eq_3
attribute [go_sem] bd.eq_1
attribute [go_sem] U1.eq_1 U1.eq_2
attribute [go_sem] QY.eq_1
attribute [go_sem] ZlL.eq_1 ZlL.eq_2
attribute [go_sem] Zc3.eq_1
attribute [go_sem] Q5.eq_1 Q5.eq_2
attribute [go_sem] Zp0.eq_1 Zp0.eq_2
attribute [go_sem] Zv.eq_1 Zv.eq_2 Zv.eq_3 Zv.eq_4 Zv.eq_5 Zv.eq_6 Zv.eq_7 Zv.eq_8 Zv.eq_9 Zv.eq_10 Zv.eq_11 Zv.eq_12 Zv.eq_13 Zv.eq_14 Zv.eq_15 Zv.eq_16 Zv.eq_17 Zv.eq_18 Zv.eq_19 Zv.eq_20 Zv.eq_21 Zv.eq_22 Zv.eq_23 Zv.eq_24 Zv.eq_25 Zv.eq_26 Zv.eq_27 Zv.eq_28 Zv.eq_29 Zv.eq_30 Zv.eq_31 Zv.eq_32 Zv.eq_33 Zv.eq_34 Zv.eq_35 Zv.eq_36 Zv.eq_37 Zv.eq_38 Zv.eq_39 Zv.eq_40
attribute [go_sem] VD.eq_1 VD.eq_2 VD.eq_3 VD.eq_4 VD.eq_5
attribute [go_sem] Zcl.eq_1
attribute [go_sem] ZlV.eq_1 ZlV.eq_2
attribute [go_sem] Jf.eq_1 Jf.eq_2
attribute [go_sem] Zbc.eq_1
attribute [go_sem] J6.eq_1 J6.eq_2 J6.eq_3 J6.eq_4 J6.eq_5
attribute [go_sem] Vw.eq_1 Vw.eq_2
attribute [go_sem] ZgB.eq_1 ZgB.eq_2
attribute [go_sem] Zq1.eq_1 Zq1.eq_2
attribute [go_sem] ZkO.eq_1 ZkO.eq_2
attribute [go_sem] QA.eq_1 QA.eq_2
attribute [go_sem] only.eq_1 only.eq_2
attribute [go_sem] Zo2.eq_1 Zo2.eq_2
attribute [go_sem] Zci.eq_1 Zci.eq_2
attribute [go_sem] Yr.eq_1 Yr.eq_2
attribute [go_sem] okL.eq_1 okL.eq_2
attribute [go_sem] okC.eq_1 okC.eq_2 okC.eq_3 okC.eq_4 okC.eq_5 okC.eq_6 okC.eq_7 okC.eq_8 okC.eq_9 okC.eq_10
attribute [go_sem] Zha.eq_1 Zha.eq_2
attribute [go_sem] Ur.eq_1 Ur.eq_2
attribute [go_sem] Za8.eq_1 Za8.eq_2 Za8.eq_3
attribute [go_sem] Zdc.eq_1 Zdc.eq_2
attribute [go_sem] Zck.eq_1 Zck.eq_2
attribute [go_sem] Qt.eq_1 Qt.eq_2
attribute [go_sem] Zl.eq_1 Zl.eq_2
attribute [go_sem] X1.eq_1 X1.eq_2 X1.eq_3
attribute [go_sem] ZeX.eq_1
attribute [go_sem] YF.eq_1 YF.eq_2
attribute [go_sem] ZlW.eq_1 ZlW.eq_2
attribute [go_sem] CO.starts.eq_1
attribute [go_sem] Yq.eq_1 Yq.eq_2
attribute [go_sem] Qx.eq_1 Qx.eq_2
attribute [go_sem] ZpZ.eq_1 ZpZ.eq_2
attribute [go_sem] ZfN.eq_1
attribute [go_sem] Zim.eq_1 Zim.eq_2 Zim.eq_3
attribute [go_sem] Zba.eq_1 Zba.eq_2
attribute [go_sem] YV.eq_1 YV.eq_2
attribute [go_sem] J7.eq_1
attribute [go_sem] Zin.eq_1 Zin.eq_2
attribute [go_sem] ZpY.eq_1
attribute [go_sem] ZE.body.eq_1
attribute [go_sem] ZeY.eq_1
attribute [go_sem] Zd5.eq_1 Zd5.eq_2
attribute [go_sem] Wb.eq_1 Wb.eq_2 Wb.eq_3 Wb.eq_4 Wb.eq_5
attribute [go_sem] ZE.res.eq_1
attribute [go_sem] XD.eq_1 XD.eq_2
attribute [go_sem] Xr.eq_1 Xr.eq_2 Xr.eq_3 Xr.eq_4 Xr.eq_5 Xr.eq_6 Xr.eq_7 Xr.eq_8 Xr.eq_9 Xr.eq_10 Xr.eq_11 Xr.eq_12
attribute [go_sem] Zio.eq_1 Zio.eq_2
attribute [go_sem] X0.eq_1 X0.eq_2
attribute [go_sem] ZE.nt.eq_1
attribute [go_sem] okD.eq_1 okD.eq_2
attribute [go_sem] ZlL.eq_1 Wz.eq_1 Wz.eq_2 Wz.eq_3 Wz.eq_4
attribute [go_sem] VM.eq_1 Jc.eq_1 Jc.eq_2 Jc.eq_3 Jc.eq_4 Jc.eq_5 Jc.eq_6 Jc.eq_7 Jc.eq_8 Jc.eq_9 Jc.eq_10 YG.eq_1
attribute [go_sem] Qy.eq_3 QZ.eq_1 AV.atom.eq_1 AV.atom.eq_2 AV.atom.eq_3 AV.atom.eq_4
attribute [go_sem] ZhT.eq_1 ZhT.eq_2 ZdA.eq_1 ZdA.eq_2
attribute [go_sem] Zc Zrr Zs1
attribute [go_sem] List.map_cons List.map_nil List.flatMap_cons List.flatMap_nil List.append_nil List.nil_append List.cons_append List.length_cons List.length_nil List.all_cons List.all_nil List.any_cons List.any_nil List.contains_cons List.contains_nil List.filter_cons List.filter_nil List.drop_zero List.drop_succ_cons List.drop_nil List.take_zero List.take_succ_cons List.take_nil List.getElem?_cons_zero List.getElem?_cons_succ List.getElem?_nil Option.map_some Option.map_none Bool.and_true Bool.true_and Bool.and_false Bool.false_and Bool.or_true Bool.true_or Bool.or_false Bool.false_or Bool.not_true Bool.not_false decide_true decide_false and_true true_and and_false false_and not_true not_false_eq_true or_true true_or or_false false_or if_true if_false true_implies false_implies implies_true imp_self eq_self ne_eq beq_self_eq_true Bool.true_eq_false Bool.false_eq_true List.isEmpty_nil List.isEmpty_cons List.range_zero List.set_cons_zero List.set_cons_succ Option.some.injEq reduceCtorEq Nat.reduceLeDiff
def ZhU (hp:Hp):List Nat→List Nat
 | []=>[]
 | i :: r=>if Zcc (lkp hp i)=true then i :: ZhU hp r else ZhU hp r
theorem gE (hp:Hp) (ids:List Nat):(ids.filter fun i=>Zcc (lkp hp i))=ZhU hp ids:=by
 induction ids with
 | nil=>rfl
 | cons i r ih=>simp only[List.filter_cons,ZhU,ih]
def ZkB (hp:Hp) (rs:List Nat):List Nat→Bool
 | []=>true
 | i :: r=>(Zcc (lkp hp i) || rs.contains i)&&ZkB hp rs r
def ZkC (hp:Hp):List Nat→Bool
 | []=>false
 | i :: r=>U3 (lkp hp i) || ZkC hp r
theorem gG (hp:Hp) (ids:List Nat):(ids.any fun i=>U3 (lkp hp i))=ZkC hp ids:=by
 induction ids with
 | nil=>rfl
 | cons i r ih=>simp only[List.any_cons,ZkC,ih]
attribute [go_sem] ZkC.eq_1 ZkC.eq_2
@[go_sem] theorem appV_eq (hp:Hp) (s b:Nat) (str flat:Bool) (base:Nat) (x y:AV):Zng hp s b str flat base x y=J3 hp s b str flat base x y (Q0 hp x) (Q0 hp y):=rfl
attribute [go_sem] J3.eq_1 J3.eq_2 J3.eq_3
@[go_sem] theorem treeId_d (hp:Hp) (x:D):Q0 hp (.d x)=[]:=rfl
@[go_sem] theorem ZuG (hp:Hp):Q0 hp .nil=[]:=rfl
@[go_sem] theorem Zt6 (hp:Hp) (k o n:Nat):Q0 hp (.ownv k o n)=[]:=rfl
@[go_sem] theorem ZuH (hp:Hp) (k:Nat):Q0 hp (.own k)=if U3 (lkp hp k)=true then [k] else []:=rfl
@[go_sem] theorem noKeep_0 (M:Zj) (f:Nat):Xx M f 0=M f 0:=rfl
@[go_sem] theorem noKeep_1 (M:Zj) (f:Nat):Xx M f 1=M f 1:=rfl
@[go_sem] theorem noKeep_2 (M:Zj) (f:Nat):Xx M f 2=M f 2:=rfl
@[go_sem] theorem noKeep_3 (M:Zj) (f:Nat):Xx M f 3=M f 3:=rfl
@[go_sem] theorem noKeep_4 (M:Zj) (f:Nat):Xx M f 4=M f 4:=rfl
@[go_sem] theorem noKeep_5 (M:Zj) (f:Nat):Xx M f 5=M f 5:=rfl
@[go_sem] theorem noKeep_6 (M:Zj) (f:Nat):Xx M f 6=M f 6:=rfl
@[go_sem] theorem noKeep_99 (M:Zj) (f:Nat):Xx M f 99=false:=rfl
theorem gF (hp:Hp) (rs ids:List Nat):UD hp rs ids=ZkB hp rs ids:=by
 induction ids with
 | nil=>rfl
 | cons i r ih=>simp only[UD,K9,ZkB] at ih ⊢;rw[ih]
attribute [go_sem] ZhU.eq_1 ZhU.eq_2 ZkB.eq_1 ZkB.eq_2
@[go_sem] theorem okV_d (x:D):okV (.d x)=true:=rfl
@[go_sem] theorem okV_nil:okV .nil=true:=rfl
@[go_sem] theorem okV_nilp:okV .nilp=true:=rfl
@[go_sem] theorem okV_nili:okV .nili=true:=rfl
@[go_sem] theorem okV_ptr (a b:Nat):okV (.ptr a b)=true:=rfl
@[go_sem] theorem okV_prow (a b c e:Nat):okV (.prow a b c e)=true:=rfl
@[go_sem] theorem okV_pim (cs:List D):okV (.pim cs)=true:=rfl
@[go_sem] theorem okV_own (a:Nat):okV (.own a)=true:=rfl
@[go_sem] theorem okV_ownv (a b c:Nat):okV (.ownv a b c)=true:=rfl
@[go_sem] theorem okV_agg (cs:List AV):okV (.agg cs)=ZlV cs:=rfl
@[go_sem] theorem okV_tup0:okV (.tup [])=true:=rfl
@[go_sem] theorem ZuI (sl:Sl) (a:COp) (x y:Nat) (v:AV):Yh sl a (.ptr x y) v=true:=rfl
@[go_sem] theorem seenIn_d (sl:Sl) (a:COp) (x y z t:Nat) (v:D):Yh sl a (.prow x y z t) (.d v)=true:=rfl
@[go_sem] theorem ZuJ (sl:Sl) (a:COp) (x y z t:Nat) (v:List AV):Yh sl a (.prow x y z t) (.agg v)=(okV (.agg v)&&Q5 sl (Zv a) (Zo (.agg v))):=rfl
@[go_sem] theorem ZuK (sl:Sl) (a:COp) (x y z t:Nat) (k:Nat):Yh sl a (.prow x y z t) (.own k)=(okV (.own k)&&Q5 sl (Zv a) (Zo (.own k))):=rfl
@[go_sem] theorem ZuL (sl:Sl) (a:COp) (x y z t:Nat):Yh sl a (.prow x y z t) .nil=(okV .nil&&Q5 sl (Zv a) (Zo .nil)):=rfl
@[go_sem] theorem Zt7 (sl:Sl) (a:COp) (x y z t:Nat):Yh sl a (.prow x y z t) .nilp=(okV .nilp&&Q5 sl (Zv a) (Zo .nilp)):=rfl
@[go_sem] theorem Zt8 (sl:Sl) (a:COp) (x y z t:Nat) (k m n:Nat):Yh sl a (.prow x y z t) (.ownv k m n)=(okV (.ownv k m n)&&Q5 sl (Zv a) (Zo (.ownv k m n))):=rfl
@[go_sem] theorem Zt9 (sl:Sl) (a:COp) (k:Nat):seenSrc sl a (.own k)=Qt sl k (Zv a):=rfl
@[go_sem] theorem seenSrc_d (sl:Sl) (a:COp) (x:D):seenSrc sl a (.d x)=true:=rfl
@[go_sem] theorem Zua (sl:Sl) (a:COp):seenSrc sl a .nil=true:=rfl
@[go_sem] theorem Ztp (sl:Sl) (a:COp) (x y z:Nat):seenSrc sl a (.ownv x y z)=true:=rfl
@[go_sem] theorem okV_iteV (b:Bool) (v:AV):okV (Zdo b v)=(!b || okV v):=by cases b<;>simp[Zdo,okV]
@[go_sem] theorem awayV_d (sl:Sl) (xs:List Opd) (x:D):Jd sl xs (.d x)=true:=rfl
@[go_sem] theorem awayV_nil (sl:Sl) (xs:List Opd):Jd sl xs .nil=true:=rfl
@[go_sem] theorem ZuM (sl:Sl) (xs:List Opd):Jd sl xs .nilp=true:=rfl
@[go_sem] theorem awayV_ptr (sl:Sl) (xs:List Opd) (k o:Nat):Jd sl xs (.ptr k o)=Qt sl k xs:=rfl
@[go_sem] theorem awayV_pim (sl:Sl) (xs:List Opd) (cs:List D):Jd sl xs (.pim cs)=true:=rfl
@[go_sem] theorem awayV_own (sl:Sl) (xs:List Opd) (a:Nat):Jd sl xs (.own a)=true:=rfl
@[go_sem] theorem ZuN (sl:Sl) (xs:List Opd) (a b c:Nat):Jd sl xs (.ownv a b c)=true:=rfl
@[go_sem] theorem awayV_agg (sl:Sl) (xs:List Opd) (cs:List AV):Jd sl xs (.agg cs)=true:=rfl
@[go_sem] theorem awayV_tup (sl:Sl) (xs:List Opd) (cs:List AV):Jd sl xs (.tup cs)=true:=rfl
end Go.Abs.E
