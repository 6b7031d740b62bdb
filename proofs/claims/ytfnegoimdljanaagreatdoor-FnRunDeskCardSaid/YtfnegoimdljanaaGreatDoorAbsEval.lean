import Derived.Test.YtfnegoimdljanaaGreatDoorAbsRun
set_option linter.all false
namespace Go.Abs.E
open Go Go.Abs
abbrev _root_.Go.Abs.Opd.i (n:Int):Opd:=.v (.d (.int .i64 n))
abbrev _root_.Go.Abs.Opd.b (x:Bool):Opd:=.v (.d (.bool x))
def stW {α:Type} (x:Option α) (K:α→Prop):Prop:=match x with
 | some a=>K a
 | none=>False
def gW (x:Option Bool) (A B:Prop):Prop:=match x with
 | some b=>(b=true→A)∧(b=false→B)
 | none=>False
def W0 (v:AV) (A B:Prop):Prop:=match v with
 | .d (.bool t)=>(t=true→A)∧(t=false→B)
 | _=>False
theorem Y7 {α:Type} (a:α) (K:α→Prop):stW (some a) K=K a:=rfl
theorem Zhx {α:Type} (K:α→Prop):stW none K=False:=rfl
theorem Zbs {α β:Type} (x:Option α) (f:α→Option β) (K:β→Prop):stW (bnd x f) K=stW x fun a=>stW (f a) K:=by cases x<;>rfl
@[go_sem] theorem ZAx (A B:Prop):gW (some true) A B=A:=by simp[gW]
@[go_sem] theorem gW_false (A B:Prop):gW (some false) A B=B:=by simp[gW]
@[go_sem] theorem gW_dec (p:Prop) [Decidable p] (A B:Prop):gW (some (decide p)) A B=((p→A)∧(¬p→B)):=by simp[gW]
@[go_sem] theorem gW_not (b:Bool) (A B:Prop):gW (some (!b)) A B=gW (some b) B A:=by cases b<;>simp[gW]
@[go_sem] theorem ZFy (A B:Prop):W0 (.d (.bool true)) A B=A:=by simp[W0]
@[go_sem] theorem ZE6 (A B:Prop):W0 (.d (.bool false)) A B=B:=by simp[W0]
@[go_sem] theorem condW_dec (p:Prop) [Decidable p] (A B:Prop):W0 (.d (.bool (decide p))) A B=((p→A)∧(¬p→B)):=by simp[W0]
@[go_sem] theorem condW_not (b:Bool) (A B:Prop):W0 (.d (.bool (!b))) A B=W0 (.d (.bool b)) B A:=by cases b<;>simp[W0]
@[go_sem] theorem condW_and (a b:Bool) (A B:Prop):W0 (.d (.bool (a&&b))) A B=W0 (.d (.bool a)) (W0 (.d (.bool b)) A B) B:=by cases a<;>cases b<;>simp[W0]
@[go_sem] theorem condW_or (a b:Bool) (A B:Prop):W0 (.d (.bool (a || b))) A B=W0 (.d (.bool a)) A (W0 (.d (.bool b)) A B):=by cases a<;>cases b<;>simp[W0]
@[go_sem] theorem ZFz (b:Bool) (A B:Prop):W0 (.d (.bool b)) A B=((b=true→A)∧(b=false→B)):=rfl
@[congr] theorem gW_congr {x y:Option Bool} {A B:Prop} (h:x=y):gW x A B=gW y A B:=by rw[h]
@[congr] theorem ZE7 {v w:AV} {A B:Prop} (h:v=w):W0 v A B=W0 w A B:=by rw[h]
section
variable (X:Fns) (M:Zr)
noncomputable def Zb1 (nx:Nat):Nat→List CO→Sl→Hp→(Sl→Hp→Prop)→Prop
 | _,[],sl,hp,K=>K sl hp
 | i,o :: rest,sl,hp,K=>gW (Z2 sl o.guard)
   (stW (YM (nx+64*i) o.dst sl hp (vop (Zd X M) M sl hp (nx+64*i) o.op)) fun r=>Zb1 nx (i+1) rest r.1 r.2 K)
   (Zb1 nx (i+1) rest (Zs sl o.dst (.tup [])) hp K)
def Zbl (nx i:Nat) (d:Option Nat) (rest:List CO) (sl:Sl) (hp:Hp) (K:Sl→Hp→Prop) (e:Option Zf):Prop:=
 stW (YM (nx+64*i) d sl hp e) fun r=>Zb1 X M nx (i+1) rest r.1 r.2 K
@[go_sem] theorem opsW_nil (nx i:Nat) (sl:Sl) (hp:Hp) (K:Sl→Hp→Prop):Zb1 X M nx i [] sl hp K=K sl hp:=rfl
@[go_sem] theorem opsW_cons (nx i:Nat) (d:Option Nat) (tl:Bool) (op:COp) (aa:List CO) (sl:Sl) (hp:Hp) (K:Sl→Hp→Prop) :
  Zb1 X M nx i (⟨d,none,op,tl⟩ :: aa) sl hp K=Zbl X M nx i d aa sl hp K (vop (Zd X M) M sl hp (nx+64*i) op):=by
 simp[Zb1,Zbl,Z2,ZAx]
def ZjF (b:Bool) (v:AV):AV:=if b then v else .tup []
def U6 (b:Bool) (nx i:Nat) (d:Option Nat) (rest:List CO) (sl:Sl) (hp:Hp) (K:Sl→Hp→Prop) (e:Option Zf):Prop:=
 gW (some b) (Zbl X M nx i d rest sl hp K e) (Zb1 X M nx (i+1) rest (Zs sl d (.tup [])) hp K)
def ZvL (g:Option Bool) (nx i:Nat) (d:Option Nat) (op:COp) (rest:List CO) (sl:Sl) (hp:Hp) (K:Sl→Hp→Prop):Prop:=
 gW g (Zbl X M nx i d rest sl hp K (vop (Zd X M) M sl hp (nx+64*i) op)) (Zb1 X M nx (i+1) rest (Zs sl d (.tup [])) hp K)
@[go_sem] theorem ZFA (nx i g:Nat) (w:Bool) (d:Option Nat) (tl:Bool) (op:COp) (aa:List CO) (sl:Sl) (hp:Hp) (K:Sl→Hp→Prop) :
  Zb1 X M nx i (⟨d,some (g,w),op,tl⟩ :: aa) sl hp K=ZvL X M (ZfK w (gs sl g)) nx i d op aa sl hp K:=rfl
@[go_sem] theorem ZE8 (b:Bool) (nx i:Nat) (d:Option Nat) (op:COp) (aa:List CO) (sl:Sl) (hp:Hp) (K:Sl→Hp→Prop) :
  ZvL X M (some b) nx i d op aa sl hp K=U6 X M b nx i d aa sl hp K (vop (Zd X M) M sl hp (nx+64*i) op):=rfl
@[go_sem] theorem gA (nx i:Nat) (d:Option Nat) (aa:List CO) (sl:Sl) (hp:Hp) (K:Sl→Hp→Prop) (e:Option Zf) :
  U6 X M true nx i d aa sl hp K e=Zbl X M nx i d aa sl hp K e:=by simp[U6,gW]
@[go_sem] theorem gB (nx i:Nat) (d:Option Nat) (aa:List CO) (sl:Sl) (hp:Hp) (K:Sl→Hp→Prop) (e:Option Zf) :
  U6 X M false nx i d aa sl hp K e=Zb1 X M nx (i+1) aa (Zs sl d (.tup [])) hp K:=by simp[U6,gW]
@[go_sem] theorem ZvM (b:Bool) (nx i:Nat) (d:Option Nat) (aa:List CO) (sl:Sl) (hp:Hp) (K:Sl→Hp→Prop) (v:AV) :
  U6 X M b nx i d aa sl hp K (QR v)=Zb1 X M nx (i+1) aa (Zs sl d (ZjF b v)) hp K:=by
 cases b
 ·simp[U6,gW,ZjF]
 ·simp only[U6,gW,ZjF,Km,true_implies,KaB,false_implies,and_true];rfl
@[go_sem] theorem ZE9 (b:Bool) (nx i:Nat) (d:Option Nat) (aa:List CO) (sl:Sl) (hp:Hp) (K:Sl→Hp→Prop) (v:AV) :
  U6 X M b nx i d aa sl hp K (some { eff := { val:=v,adds:=[],sets:=[],dels:=[],frz:=[] },gone:=[] })=Zb1 X M nx (i+1) aa (Zs sl d (ZjF b v)) hp K:=ZvM X M b nx i d aa sl hp K v
@[congr] theorem ZEp {g g' : Option Bool} {nx i:Nat} {d:Option Nat} {op:COp} {aa:List CO} {sl:Sl} {hp:Hp} {K:Sl→Hp→Prop} (h:g=g') :
  ZvL X M g nx i d op aa sl hp K=ZvL X M g' nx i d op aa sl hp K:=by rw[h]
@[congr] theorem ZEq {b b' : Bool} {nx i:Nat} {d:Option Nat} {aa:List CO} {sl:Sl} {hp:Hp} {K:Sl→Hp→Prop} {e e' : Option Zf} (hb:b=b') (h:b'=true→e=e') :
  U6 X M b nx i d aa sl hp K e=U6 X M b' nx i d aa sl hp K e':=by
 subst hb;cases b
 ·simp[U6,gW]
 ·rw[h rfl]
@[go_sem] theorem ZFa (nx i:Nat) (d:Option Nat) (aa:List CO) (sl:Sl) (hp:Hp) (K:Sl→Hp→Prop) (v:AV) :
  Zbl X M nx i d aa sl hp K (QR v)=Zb1 X M nx (i+1) aa (Zs sl d v) hp K:=rfl
@[go_sem] theorem ZFB (nx i:Nat) (d:Option Nat) (aa:List CO) (sl:Sl) (hp:Hp) (K:Sl→Hp→Prop) (v:AV) :
  Zbl X M nx i d aa sl hp K (some { eff := { val:=v,adds:=[],sets:=[],dels:=[],frz:=[] },gone:=[] })=Zb1 X M nx (i+1) aa (Zs sl d v) hp K:=rfl
@[go_sem] theorem ZFC (nx i:Nat) (d:Option Nat) (aa:List CO) (sl:Sl) (hp:Hp) (K:Sl→Hp→Prop) (e:Zf) :
  Zbl X M nx i d aa sl hp K (some e)=(Q9 (nx+64*i) (nx+64*i+64) e.eff.adds=true∧Zb1 X M nx (i+1) aa (Zs (Xn e.gone sl) d e.eff.val) (e.eff.on (V8 e.gone hp)) K):=by
 unfold Zbl YM;rw[Zh];split<;>rename_i h
 ·simp only[Y7,h,true_and];rfl
 ·simp only[Zhx,h,false_and,Ka]
@[go_sem] theorem ZFD (nx i:Nat) (d:Option Nat) (aa:List CO) (sl:Sl) (hp:Hp) (K:Sl→Hp→Prop):Zbl X M nx i d aa sl hp K none=False:=rfl
@[go_sem] theorem stepW_ite (nx i:Nat) (d:Option Nat) (aa:List CO) (sl:Sl) (hp:Hp) (K:Sl→Hp→Prop) (c:Prop) [Decidable c] (a b:Option Zf) :
  Zbl X M nx i d aa sl hp K (if c then a else b)=((c→Zbl X M nx i d aa sl hp K a)∧(¬c→Zbl X M nx i d aa sl hp K b)):=by
 by_cases h:c<;>simp[h]
noncomputable def Y1 (nx:Nat):Nat→Bool→List CO→Sl→Hp→(Sl→Hp→Prop)→Prop
 | _,_,[],sl,hp,K=>K sl hp
 | i,tail,o :: rest,sl,hp,K=>gW (Z2 sl o.guard)
   (stW (YM (nx+64*i) o.dst sl hp (We (Zd X M) (Yq M) nx i (CO.starts o) o.op sl hp)) fun r=>Y1 nx (i+1) tail rest r.1 r.2 K)
   (Y1 nx (i+1) tail rest (Zs sl o.dst (.tup [])) hp K)
def W3 (nx i:Nat) (t:Bool) (d:Option Nat) (rest:List CO) (sl:Sl) (hp:Hp) (K:Sl→Hp→Prop) (e:Option Zf):Prop:=
 stW (YM (nx+64*i) d sl hp (if t then e else Zci e)) fun r=>Y1 X M nx (i+1) false rest r.1 r.2 K
@[go_sem] theorem opsDW_nil (nx i:Nat) (t:Bool) (sl:Sl) (hp:Hp) (K:Sl→Hp→Prop):Y1 X M nx i t [] sl hp K=K sl hp:=rfl
@[go_sem] theorem ZFE (nx i:Nat) (d:Option Nat) (tl:Bool) (op:COp) (aa:List CO) (sl:Sl) (hp:Hp) (K:Sl→Hp→Prop) :
  Y1 X M nx i false (⟨d,none,op,tl⟩ :: aa) sl hp K=W3 X M nx i (Zjh op || tl) d aa sl hp K (vop (Zd X M) (Yq M) sl hp (nx+64*i) op):=by
 simp[Y1,W3,Z2,ZAx,We,CO.starts]
def V1 (b:Bool) (nx i:Nat) (t:Bool) (d:Option Nat) (rest:List CO) (sl:Sl) (hp:Hp) (K:Sl→Hp→Prop) (e:Option Zf):Prop:=
 gW (some b) (W3 X M nx i t d rest sl hp K e) (Y1 X M nx (i+1) false rest (Zs sl d (.tup [])) hp K)
def Zp8 (g:Option Bool) (nx i:Nat) (t:Bool) (d:Option Nat) (op:COp) (rest:List CO) (sl:Sl) (hp:Hp) (K:Sl→Hp→Prop):Prop:=
 gW g (W3 X M nx i t d rest sl hp K (vop (Zd X M) (Yq M) sl hp (nx+64*i) op)) (Y1 X M nx (i+1) false rest (Zs sl d (.tup [])) hp K)
@[go_sem] theorem ZFb (nx i g:Nat) (w:Bool) (d:Option Nat) (tl:Bool) (op:COp) (aa:List CO) (sl:Sl) (hp:Hp) (K:Sl→Hp→Prop) :
  Y1 X M nx i false (⟨d,some (g,w),op,tl⟩ :: aa) sl hp K=Zp8 X M (ZfK w (gs sl g)) nx i (Zjh op || tl) d op aa sl hp K:=rfl
@[go_sem] theorem ZEr (b:Bool) (nx i:Nat) (t:Bool) (d:Option Nat) (op:COp) (aa:List CO) (sl:Sl) (hp:Hp) (K:Sl→Hp→Prop) :
  Zp8 X M (some b) nx i t d op aa sl hp K=V1 X M b nx i t d aa sl hp K (vop (Zd X M) (Yq M) sl hp (nx+64*i) op):=rfl
@[go_sem] theorem gC (nx i:Nat) (t:Bool) (d:Option Nat) (aa:List CO) (sl:Sl) (hp:Hp) (K:Sl→Hp→Prop) (e:Option Zf) :
  V1 X M true nx i t d aa sl hp K e=W3 X M nx i t d aa sl hp K e:=by simp[V1,gW]
@[go_sem] theorem gD (nx i:Nat) (t:Bool) (d:Option Nat) (aa:List CO) (sl:Sl) (hp:Hp) (K:Sl→Hp→Prop) (e:Option Zf) :
  V1 X M false nx i t d aa sl hp K e=Y1 X M nx (i+1) false aa (Zs sl d (.tup [])) hp K:=by simp[V1,gW]
@[go_sem] theorem Ztl (b:Bool) (nx i:Nat) (t:Bool) (d:Option Nat) (aa:List CO) (sl:Sl) (hp:Hp) (K:Sl→Hp→Prop) (v:AV) :
  V1 X M b nx i t d aa sl hp K (QR v)=Y1 X M nx (i+1) false aa (Zs sl d (ZjF b v)) hp K:=by
 cases b
 ·simp[V1,gW,ZjF]
 ·simp only[V1,gW,ZjF,Km,true_implies,KaB,false_implies,and_true];cases t<;>rfl
@[go_sem] theorem ZEs (b:Bool) (nx i:Nat) (t:Bool) (d:Option Nat) (aa:List CO) (sl:Sl) (hp:Hp) (K:Sl→Hp→Prop) (v:AV) :
  V1 X M b nx i t d aa sl hp K (some { eff := { val:=v,adds:=[],sets:=[],dels:=[],frz:=[] },gone:=[] })=Y1 X M nx (i+1) false aa (Zs sl d (ZjF b v)) hp K:=Ztl X M b nx i t d aa sl hp K v
@[congr] theorem ZD0 {g g' : Option Bool} {nx i:Nat} {t t' : Bool} {d:Option Nat} {op:COp} {aa:List CO} {sl:Sl} {hp:Hp} {K:Sl→Hp→Prop} (h:g=g') (ht:t=t') :
  Zp8 X M g nx i t d op aa sl hp K=Zp8 X M g' nx i t' d op aa sl hp K:=by rw[h,ht]
@[congr] theorem ZD1 {b b' : Bool} {nx i:Nat} {t:Bool} {d:Option Nat} {aa:List CO} {sl:Sl} {hp:Hp} {K:Sl→Hp→Prop} {e e' : Option Zf} (hb:b=b') (h:b'=true→e=e') :
  V1 X M b nx i t d aa sl hp K e=V1 X M b' nx i t d aa sl hp K e':=by
 subst hb;cases b
 ·simp[V1,gW]
 ·rw[h rfl]
@[go_sem] theorem ZEt (nx i:Nat) (t:Bool) (d:Option Nat) (aa:List CO) (sl:Sl) (hp:Hp) (K:Sl→Hp→Prop) (v:AV) :
  W3 X M nx i t d aa sl hp K (QR v)=Y1 X M nx (i+1) false aa (Zs sl d v) hp K:=by cases t<;>rfl
@[go_sem] theorem ZFc (nx i:Nat) (t:Bool) (d:Option Nat) (aa:List CO) (sl:Sl) (hp:Hp) (K:Sl→Hp→Prop) (v:AV) :
  W3 X M nx i t d aa sl hp K (some { eff := { val:=v,adds:=[],sets:=[],dels:=[],frz:=[] },gone:=[] })=Y1 X M nx (i+1) false aa (Zs sl d v) hp K:=by cases t<;>rfl
@[go_sem] theorem ZFd (nx i:Nat) (t:Bool) (d:Option Nat) (aa:List CO) (sl:Sl) (hp:Hp) (K:Sl→Hp→Prop) (e:Zf) :
  W3 X M nx i t d aa sl hp K (some e)=((t=false→ZfP e e.gone e.eff.sets e.eff.dels e.eff.frz=some e)∧Q9 (nx+64*i) (nx+64*i+64) e.eff.adds=true∧Y1 X M nx (i+1) false aa (Zs (Xn e.gone sl) d e.eff.val) (e.eff.on (V8 e.gone hp)) K):=by
 have ab:stW (YM (nx+64*i) d sl hp (some e)) (fun r=>Y1 X M nx (i+1) false aa r.1 r.2 K)=(Q9 (nx+64*i) (nx+64*i+64) e.eff.adds=true∧Y1 X M nx (i+1) false aa (Zs (Xn e.gone sl) d e.eff.val) (e.eff.on (V8 e.gone hp)) K):=by
  unfold YM;rw[Zh];split<;>rename_i h
  ·simp only[Y7,h,true_and];rfl
  ·simp only[Zhx,h,false_and,Ka]
 unfold W3;cases t with
 | true=>simp only[Km];rw[ab];simp
 | false=>
  simp only[Ka,Kn,Zci,Zh,true_implies];unfold ZfP;split
  ·rw[ab];simp
  ·simp[YM,bnd,stW]
@[go_sem] theorem ZFe (nx i:Nat) (t:Bool) (d:Option Nat) (aa:List CO) (sl:Sl) (hp:Hp) (K:Sl→Hp→Prop):W3 X M nx i t d aa sl hp K none=False:=by cases t<;>rfl
@[go_sem] theorem ZFF (nx i:Nat) (t:Bool) (d:Option Nat) (aa:List CO) (sl:Sl) (hp:Hp) (K:Sl→Hp→Prop) (c:Prop) [Decidable c] (a b:Option Zf) :
  W3 X M nx i t d aa sl hp K (if c then a else b)=((c→W3 X M nx i t d aa sl hp K a)∧(¬c→W3 X M nx i t d aa sl hp K b)):=by
 by_cases h:c<;>simp[h]
@[go_sem] theorem quietC_ok (c:Zf):ZfP c [] [] [] []=some c:=rfl
def W (c:ZN) (st:St) (Q:Ex→St→Prop):Prop:=stW (QE X M c st) fun r=>Q r.1 r.2
@[congr] theorem W_congr {c:ZN} {st aa : St} {Q:Ex→St→Prop} (h:st=aa):W X M c st Q=W X M c aa Q:=by rw[h]
@[congr] theorem ZFG {aa:List CO} {nx ab i i' : Nat} {sl sl' : Sl} {hp hp' : Hp} {K:Sl→Hp→Prop} (hn:nx=ab) (hi:i=i') (h:sl=sl') (h' : hp=hp') :
  Zb1 X M nx i aa sl hp K=Zb1 X M ab i' aa sl' hp' K:=by rw[h,h',hn,hi]
@[congr] theorem ZFf {aa:List CO} {nx ab i i' : Nat} {t t' : Bool} {sl sl' : Sl} {hp hp' : Hp} {K:Sl→Hp→Prop} (hn:nx=ab) (hi:i=i') (ht:t=t') (h:sl=sl') (h' : hp=hp') :
  Y1 X M nx i t aa sl hp K=Y1 X M ab i' t' aa sl' hp' K:=by rw[h,h',ht,hn,hi]
@[congr] theorem ZFg {aa:List CO} {nx i:Nat} {d:Option Nat} {sl:Sl} {hp:Hp} {K:Sl→Hp→Prop} {e e' : Option Zf} (h:e=e') :
  Zbl X M nx i d aa sl hp K e=Zbl X M nx i d aa sl hp K e':=by rw[h]
@[congr] theorem ZEu {aa:List CO} {nx i:Nat} {t t' : Bool} {d:Option Nat} {sl:Sl} {hp:Hp} {K:Sl→Hp→Prop} {e e' : Option Zf} (ht:t=t') (h:e=e') :
  W3 X M nx i t d aa sl hp K e=W3 X M nx i t' d aa sl hp K e':=by rw[h,ht]
theorem ZAy (nx:Nat) (K:Sl→Hp→Prop):∀ (l:List CO) (i:Nat) (sl:Sl) (hp:Hp),Zb1 X M nx i l sl hp K=stW (ZfO (Zd X M) M nx i l sl hp) fun r=>K r.1 r.2:=by
 intro l
 induction l with
 | nil=>intro i sl hp;rfl
 | cons o rest ih=>
  intro i sl hp;simp only[Zb1,ZfO,ih,Zbs];cases Z2 sl o.guard with
  | none=>rfl
  | some b=>cases b<;>simp[gW,Zbs,Y7]
theorem Zw7 (nx:Nat) (K:Sl→Hp→Prop):∀ (l:List CO) (i:Nat) (t:Bool) (sl:Sl) (hp:Hp),Y1 X M nx i t l sl hp K=stW (UV (Zd X M) (Yq M) nx i t l sl hp) fun r=>K r.1 r.2:=by
 intro l
 induction l with
 | nil=>intro i t sl hp;rfl
 | cons o rest ih=>
  intro i t sl hp;simp only[Y1,UV,ih,Zbs];cases Z2 sl o.guard with
  | none=>rfl
  | some b=>cases b<;>simp[gW,Zbs,Y7]
def Zpt (m nx:Nat) (Q:Ex→St→Prop) (sl:Sl) (hp:Hp):Prop:=Q .normal { sl:=sl,hp:=hp,nx:=nx,m:=m }
def ZjT (ops:List CO) (ps:List (Nat×Nat)) (K:Sl→Hp→Prop) (sl:Sl) (hp:Hp):Prop:=V9 ops sl ps=true∧K sl hp
@[go_sem] theorem regQ_eq (m nx:Nat) (Q:Ex→St→Prop) (sl:Sl) (hp:Hp):Zpt m nx Q sl hp=Q .normal { sl:=sl,hp:=hp,nx:=nx,m:=m }:=rfl
@[go_sem] theorem seenQ_eq (ops:List CO) (ps:List (Nat×Nat)) (K:Sl→Hp→Prop) (sl:Sl) (hp:Hp):ZjT ops ps K sl hp=(V9 ops sl ps=true∧K sl hp):=rfl
@[go_sem] theorem W_skip (st:St) (Q:Ex→St→Prop):W X M .skip st Q=Q .normal st:=by simp[W,Zzf,Y7]
@[go_sem] theorem W_ret (st:St) (Q:Ex→St→Prop):W X M .ret st Q=Q .ret st:=by simp[W,ZBU,Y7]
@[go_sem] theorem W_exit (id:Nat) (st:St) (Q:Ex→St→Prop):W X M (.exit id) st Q=Q (.exit id) st:=by simp[W,Zzg,Y7]
@[go_sem] theorem W_stuck (st:St) (Q:Ex→St→Prop):W X M .stuck st Q=False:=by
 have h:QE X M .stuck st=none:=Ya fun n=>by simp only[ZG]
 simp only[W,h,Zhx]
@[go_sem] theorem W_region (n:Nat) (ops:List CO) (st:St) (Q:Ex→St→Prop) :
  W X M (.region n none ops) st Q=Zb1 X M st.nx 0 ops st.sl st.hp (Zpt st.m (st.nx+64*n) Q):=by
 rw[ZAy,W,Zl3,ZjH,Zbs];rfl
theorem ZC3 (n:Nat) (ps:List (Nat×Nat)) (ops:List CO) (st:St) (Q:Ex→St→Prop) :
  W X M (.region n (some ps) ops) st Q=Y1 X M st.nx 0 false ops st.sl st.hp (ZjT ops ps (Zpt st.m (st.nx+64*n) Q)):=by
 rw[Zw7,W,Zrt,ZjH,Zbs,ZlZ,Zbs];congr 1
 funext r
 by_cases h:V9 ops r.1 ps=true<;>simp[h,ZjT,Y7,Zhx,Zpt]
@[go_sem] theorem W_draw0 (n:Nat) (ops:List CO) (st:St) (Q:Ex→St→Prop) :
  W X M (.region n (some []) ops) st Q=Y1 X M st.nx 0 false ops st.sl st.hp (Zpt st.m (st.nx+64*n) Q):=by
 rw[ZC3];congr 1
 funext sl hp
 simp[ZjT,V9]
@[go_sem] theorem W_drawc (n:Nat) (p:Nat×Nat) (ps:List (Nat×Nat)) (ops:List CO) (st:St) (Q:Ex→St→Prop) :
  W X M (.region n (some (p :: ps)) ops) st Q=Y1 X M st.nx 0 false ops st.sl st.hp (ZjT ops (p :: ps) (Zpt st.m (st.nx+64*n) Q)):=ZC3 X M n _ ops st Q
def ZAz (c:ZN) (Q:Ex→St→Prop):Ex→St→Prop
 | .normal,st=>W X M c st Q
 | e,st=>Q e st
def blkQ (id:Nat) (Q:Ex→St→Prop):Ex→St→Prop
 | .exit j,st=>if j=id then Q .normal st else Q (.exit j) st
 | e,st=>Q e st
@[go_sem] theorem ZEv (c:ZN) (Q:Ex→St→Prop) (st:St):ZAz X M c Q .normal st=W X M c st Q:=rfl
@[go_sem] theorem thenQ_ret (c:ZN) (Q:Ex→St→Prop) (st:St):ZAz X M c Q .ret st=Q .ret st:=rfl
@[go_sem] theorem ZFH (c:ZN) (Q:Ex→St→Prop) (id:Nat) (st:St):ZAz X M c Q (.exit id) st=Q (.exit id) st:=rfl
@[go_sem] theorem ZFh (id:Nat) (Q:Ex→St→Prop) (st:St):blkQ id Q .normal st=Q .normal st:=rfl
@[go_sem] theorem blkQ_ret (id:Nat) (Q:Ex→St→Prop) (st:St):blkQ id Q .ret st=Q .ret st:=rfl
@[go_sem] theorem blkQ_exit (id j:Nat) (Q:Ex→St→Prop) (st:St):blkQ id Q (.exit j) st=if j=id then Q .normal st else Q (.exit j) st:=rfl
@[go_sem] theorem W_seq (a b:ZN) (st:St) (Q:Ex→St→Prop):W X M (.seq a b) st Q=W X M a st (ZAz X M b Q):=by
 unfold W;rw[ZBV];cases h:QE X M a st with
 | none=>rfl
 | some r=>obtain⟨e,aa⟩:=r;cases e<;>rfl
@[go_sem] theorem W_cond (c:Opd) (a b:ZN) (st:St) (Q:Ex→St→Prop) :
  W X M (.cond c a b) st Q=W0 (evO st.sl c) (W X M a st Q) (W X M b st Q):=by
 unfold W;rw[Zzh];cases h:evO st.sl c with
 | d x=>cases x with
  | bool t=>cases t<;>simp[ZjY,W0]
  | _=>rfl
 | _=>rfl
@[go_sem] theorem W_block (id:Nat) (c:ZN) (st:St) (Q:Ex→St→Prop):W X M (.block id c) st Q=W X M c st (blkQ id Q):=by
 unfold W;rw[Zxs];cases h:QE X M c st with
 | none=>rfl
 | some r=>
  obtain⟨e,aa⟩:=r;cases e with
  | exit j=>by_cases hj:j=id<;>simp[ZhO,hj,Y7,blkQ]
  | normal=>rfl
  | ret=>rfl
def keepQ (K:List Nat) (Q:Ex→St→Prop) (e:Ex) (st:St):Prop:=Q e { sl:=only K st.sl,hp:=st.hp,nx:=st.nx,m:=st.m }
@[go_sem] theorem keepQ_eq (K:List Nat) (Q:Ex→St→Prop) (e:Ex) (st:St):keepQ K Q e st=Q e { sl:=only K st.sl,hp:=st.hp,nx:=st.nx,m:=st.m }:=rfl
@[go_sem] theorem W_keep (K:List Nat) (c:ZN) (st:St) (Q:Ex→St→Prop):W X M (.keep K c) st Q=W X M c st (keepQ K Q):=by
 unfold W;rw[Zzi];cases h:QE X M c st with
 | none=>rfl
 | some r=>rfl
def shutQ (id nm:Nat) (Q:Ex→St→Prop) (e:Ex) (st:St):Prop:=Q e { sl:=st.sl,hp:=ZBS st.hp (ZoU st.hp id nm (lkp st.hp id)),nx:=st.nx,m:=st.m }
@[go_sem] theorem shutQ_eq (id nm:Nat) (Q:Ex→St→Prop) (e:Ex) (st:St):shutQ id nm Q e st=Q e { sl:=st.sl,hp:=ZBS st.hp (ZoU st.hp id nm (lkp st.hp id)),nx:=st.nx,m:=st.m }:=rfl
def ZqV (c:ZN) (Q:Ex→St→Prop) (r:Option St):Prop:=stW r fun st=>W X M c st Q
@[go_sem] theorem ZFI (c:ZN) (Q:Ex→St→Prop) (st:St):ZqV X M c Q (some st)=W X M c st Q:=rfl
@[go_sem] theorem ZFJ (c:ZN) (Q:Ex→St→Prop):ZqV X M c Q none=False:=rfl
@[go_sem] theorem linkW_ite (c:ZN) (Q:Ex→St→Prop) (p:Prop) [Decidable p] (a b:Option St):ZqV X M c Q (if p then a else b)=((p→ZqV X M c Q a)∧(¬p→ZqV X M c Q b)):=by
 by_cases h:p<;>simp[h]
@[go_sem] theorem W_link (fl:Bool) (id:Nat) (i:Opd) (j:Nat) (c:ZN) (st:St) (Q:Ex→St→Prop):W X M (.link fl id i j c) st Q=ZqV X M c (shutQ id st.nx Q) (ZfQ fl id i j st):=by
 unfold W ZqV;rw[Zzj];cases h:ZfQ fl id i j st with
 | none=>rfl
 | some st1=>
  simp only[Zh,Y7,W];cases h1:QE X M c st1 with
  | none=>rfl
  | some q=>rfl
@[go_sem] theorem W_melt (c:ZN) (st:St) (Q:Ex→St→Prop):W X M (.melt c) st Q=W X M c { sl:=st.sl,hp:=Znv ZlS st.hp,nx:=st.nx,m:=st.m } Q:=by
 unfold W;rw[Zzk];rfl
def ZqW (st:St) (ds:List Nat) (Q:Ex→St→Prop) (e:Ex) (st2:St):Prop:=Q e { sl:=Zcj st2.sl ds st.sl,hp:=st.hp,nx:=st2.nx,m:=st2.m }
@[go_sem] theorem peekQ_eq (sl:Sl) (hp:Hp) (nx m:Nat) (ds:List Nat) (Q:Ex→St→Prop) (e:Ex) (aa:Sl) (ad:Hp) (ab m2:Nat):ZqW { sl:=sl,hp:=hp,nx:=nx,m:=m } ds Q e { sl:=aa,hp:=ad,nx:=ab,m:=m2 }=Q e { sl:=Zcj aa ds sl,hp:=hp,nx:=ab,m:=m2 }:=rfl
def ZoM (n:Nat) (os:List CO) (id:Nat) (st:St) (Q:Ex→St→Prop):Option (List (Nat×Nat))→Option Zm→Prop
 | none,some o=>Zb1 X M st.nx 0 os st.sl [(id,o)] (Zpt st.m (st.nx+64*n) (ZqW st (Jl os) Q))
 | some ps,some o=>Y1 X M st.nx 0 false os st.sl [(id,o)] (ZjT os ps (Zpt st.m (st.nx+64*n) (ZqW st (Jl os) Q)))
 | _,none=>False
@[go_sem] theorem ZFK (n:Nat) (os:List CO) (id:Nat) (sl:Sl) (hp:Hp) (nx m:Nat) (Q:Ex→St→Prop) (o:Zm):ZoM X M n os id { sl:=sl,hp:=hp,nx:=nx,m:=m } Q none (some o)=Zb1 X M nx 0 os sl [(id,o)] (Zpt m (nx+64*n) (ZqW { sl:=sl,hp:=hp,nx:=nx,m:=m } (Jl os) Q)):=rfl
@[go_sem] theorem peekW_nil (n:Nat) (os:List CO) (id:Nat) (sl:Sl) (hp:Hp) (nx m:Nat) (Q:Ex→St→Prop) (o:Zm):ZoM X M n os id { sl:=sl,hp:=hp,nx:=nx,m:=m } Q (some []) (some o)=Y1 X M nx 0 false os sl [(id,o)] (Zpt m (nx+64*n) (ZqW { sl:=sl,hp:=hp,nx:=nx,m:=m } (Jl os) Q)):=by
 simp only[ZoM];congr 1
 funext sl hp
 simp[ZjT,V9]
@[go_sem] theorem ZFL (n:Nat) (os:List CO) (id:Nat) (sl:Sl) (hp:Hp) (nx m:Nat) (Q:Ex→St→Prop) (o:Zm) (p:Nat×Nat) (ps:List (Nat×Nat)):ZoM X M n os id { sl:=sl,hp:=hp,nx:=nx,m:=m } Q (some (p :: ps)) (some o)=Y1 X M nx 0 false os sl [(id,o)] (ZjT os (p :: ps) (Zpt m (nx+64*n) (ZqW { sl:=sl,hp:=hp,nx:=nx,m:=m } (Jl os) Q))):=rfl
@[go_sem] theorem ZFM (n:Nat) (os:List CO) (id:Nat) (st:St) (Q:Ex→St→Prop) (d:Option (List (Nat×Nat))):ZoM X M n os id st Q d none=False:=by cases d<;>rfl
@[go_sem] theorem W_peek (id n:Nat) (d:Option (List (Nat×Nat))) (os:List CO) (st:St) (Q:Ex→St→Prop):W X M (.peek id (.region n d os)) st Q=ZoM X M n os id st Q d (Zrp (lkp st.hp id)):=by
 unfold W;rw[Zzl];simp only[Zxp,Zh];unfold ZnB;cases h:Zrp (lkp st.hp id) with
 | none=>cases d<;>rfl
 | some o=>
  cases d with
  | none=>
   simp only[Zh,ZoM];rw[ZAy,Zl3,ZjH];cases ZfO (Zd X M) M st.nx 0 os st.sl [(id,o)] with
   | none=>rfl
   | some r=>rfl
  | some ps=>
   simp only[Zh,ZoM];rw[Zw7,Zrt,ZjH];cases UV (Zd X M) (Yq M) st.nx 0 false os st.sl [(id,o)] with
   | none=>rfl
   | some r=>
    simp only[ZlZ,Zh];by_cases h:V9 os r.1 ps=true
    ·simp[h,ZjT,Y7,Zh,Zrq,Zpt,ZqW]
    ·simp[h,ZjT,Y7,Zhx,Zrq,bnd]
attribute [go_sem] Zrp.eq_1 Zrp.eq_2 ZfR.eq_1 ZfR.eq_2 ZfR.eq_3 Zpw.eq_1 Zpw.eq_2 Jl.eq_1 Jl.eq_2 Zcj.eq_1 Zcj.eq_2
def LW (c:ZN) (K:List Nat) (st:St) (Q:Ex→St→Prop):Prop:=stW (ZhQ X M c K st) fun r=>Q r.1 r.2
@[congr] theorem LW_congr {c:ZN} {K K' : List Nat} {st aa : St} {Q:Ex→St→Prop} (hk:K=K') (h:st=aa):LW X M c K st Q=LW X M c K' aa Q:=by rw[h,hk]
@[go_sem] theorem W_loop (c:ZN) (st:St) (Q:Ex→St→Prop):W X M (.loop c) st Q=LW X M c (Za0 st.sl) st Q:=by
 unfold W LW;rw[Zzm]
def ZqX (c:ZN) (K:List Nat) (Q:Ex→St→Prop):Ex→St→Prop
 | .normal,st=>LW X M c K st Q
 | e,st=>Q e st
@[go_sem] theorem ZEw (c:ZN) (K:List Nat) (Q:Ex→St→Prop) (st:St):ZqX X M c K Q .normal st=LW X M c K st Q:=rfl
@[go_sem] theorem nextQ_ret (c:ZN) (K:List Nat) (Q:Ex→St→Prop) (st:St):ZqX X M c K Q .ret st=Q .ret st:=rfl
@[go_sem] theorem ZFN (c:ZN) (K:List Nat) (Q:Ex→St→Prop) (id:Nat) (st:St):ZqX X M c K Q (.exit id) st=Q (.exit id) st:=rfl
theorem ZE {c:ZN} {K:List Nat} {st:St} {Q:Ex→St→Prop} (h:W X M c (UW K st) (ZqX X M c K Q)):LW X M c K st Q:=by
 unfold W at h;cases hv:QE X M c (UW K st) with
 | none=>rw[hv] at h;exact h.elim
 | some r=>
  rw[hv] at h;obtain⟨e,aa⟩:=r;unfold LW;cases e with
  | normal=>rw[Zxt X M hv];exact h
  | exit id=>rw[Zru X M (by simp) hv];exact h
  | ret=>rw[Zru X M (by simp) hv];exact h
def Ztm (sl:Sl):Sl→Sl
 | []=>sl
 | (k,v) :: r=>Ztm (ins sl k v) r
def ZjU (hp:Hp):Hp→Hp
 | []=>hp
 | (k,o) :: r=>ZjU (ins hp k o) r
theorem LW_ind {α:Type} (S:α→St) (I:α→Prop) (μ:α→Nat) {c:ZN} {K:List Nat} {Q:Ex→St→Prop}
  (step:∀ a,I a→(∀ b st,I b→μ b<μ a→UW K st=S b→LW X M c K st Q)→W X M c (S a) (ZqX X M c K Q)) :
  ∀ a st,I a→UW K st=S a→LW X M c K st Q:=by
 have aa:∀ n a st,μ a=n→I a→UW K st=S a→LW X M c K st Q:=by
  intro n
  induction n using Nat.strongRecOn with
  | ind n ih=>
   intro a st hn ha hs;refine ZE X M ?_;rw[hs];exact step a ha fun b ab hb ae ad=>ih (μ b) o_ b ab rfl hb ad
 exact fun a st ha hs=>aa _ a st rfl ha hs
theorem X1 {α:Type} (u:α→Sl) (uh:α→Hp) (I:α→Prop) (μ:α→Nat) (a:α) {c:ZN} {K:List Nat} {Q:Ex→St→Prop} {st st0:St}
  (hc:UW K st=st0) (ha:I a) (h0:(⟨Ztm st0.sl (u a),ZjU st0.hp (uh a),st0.nx,st0.m⟩:St)=st0)
  (step:∀ a,I a→(∀ b st,I b→μ b<μ a→UW K st=⟨Ztm st0.sl (u b),ZjU st0.hp (uh b),st0.nx,st0.m⟩→LW X M c K st Q)→W X M c ⟨Ztm st0.sl (u a),ZjU st0.hp (uh a),st0.nx,st0.m⟩ (ZqX X M c K Q)) :
  LW X M c K st Q:=
 LW_ind X M (fun a=>⟨Ztm st0.sl (u a),ZjU st0.hp (uh a),st0.nx,st0.m⟩) I μ step a st ha (hc.trans h0.symm)
def ZvN (m:Nat) (rs:List Zrh) (R:AV×List Zm→Prop):Ex→St→Prop:=fun e st=>stW (ZdX m rs (some (e,st))) R
def resW (m:Nat) (hp:Hp) (R:AV×List Zm→Prop) (vs:Option (List AV)):Prop:=stW vs fun vs=>R (Wq m hp (Zck vs))
@[go_sem] theorem resW_some (m:Nat) (hp:Hp) (R:AV×List Zm→Prop) (vs:List AV):resW m hp R (some vs)=R (Wq m hp (Zck vs)):=rfl
@[go_sem] theorem resW_none (m:Nat) (hp:Hp) (R:AV×List Zm→Prop):resW m hp R none=False:=rfl
@[go_sem] theorem endQ_ret (m:Nat) (rs:List Zrh) (R:AV×List Zm→Prop) (st:St):ZvN m rs R .ret st=resW m st.hp R (QJ (Zrr st) rs):=by
 simp only[ZvN,ZdX,Zbs];rfl
@[go_sem] theorem ZFi (m:Nat) (rs:List Zrh) (R:AV×List Zm→Prop) (st:St):ZvN m rs R .normal st=resW m st.hp R (QJ (Zrr st) rs):=by
 simp only[ZvN,ZdX,Zbs];rfl
theorem ZC4 {f:Nat} {as1:List AV} {h:List Zm} (fn:Zp) {R:AV×List Zm→Prop} (hx:X f=some (.text fn)) (hl:as1.length≤fn.nt)
  (hr:W X M fn.body { sl:=Wa 0 as1,hp:=Wf 0 h,nx:=h.length,m:=h.length } (ZvN h.length fn.res R)):∃ r,Zd X M f as1 h=some r∧R r:=by
 unfold W at hr;cases hv:QE X M fn.body { sl:=Wa 0 as1,hp:=Wf 0 h,nx:=h.length,m:=h.length } with
 | none=>rw[hv] at hr;exact hr.elim
 | some q=>
  rw[hv] at hr;obtain⟨e,st⟩:=q;simp only[Y7,ZvN] at hr;cases hk:ZdX h.length fn.res (some (e,st)) with
  | none=>rw[hk] at hr;exact hr.elim
  | some r=>rw[hk] at hr;exact⟨r,ZDh X M hx hl (by rw[hv];exact hk),hr⟩
theorem callE {f:Nat} {as1:List AV} {h:List Zm} (fn:Zp) {r:AV×List Zm} (hx:X f=some (.text fn)) (hl:as1.length≤fn.nt)
  (hr:W X M fn.body { sl:=Wa 0 as1,hp:=Wf 0 h,nx:=h.length,m:=h.length } (ZvN h.length fn.res fun q=>q=r)):Zd X M f as1 h=some r:=by
 obtain⟨q,hq,rfl⟩:=ZC4 X M fn hx hl hr;exact hq
end
@[go_sem] theorem vopE_move (C:Orc) (M:Zr) (sl:Sl) (hp:Hp) (base:Nat) (x:Opd):vop C M sl hp base (.move x)=QR (evO sl x):=by simp only[vop]
@[go_sem] theorem ZFj (C:Orc) (M:Zr) (sl:Sl) (hp:Hp) (base:Nat) (s:Option Nat) (x:Opd):vop C M sl hp base (.assign s x)=ZfH base s (evO sl x):=by simp only[vop]
@[go_sem] theorem vopE_pick (C:Orc) (M:Zr) (sl:Sl) (hp:Hp) (base:Nat) (c a b:Opd):vop C M sl hp base (.pick c a b)=ZhI (evO sl a) (evO sl b) (evO sl c):=by simp only[vop]
@[go_sem] theorem ZFO (C:Orc) (M:Zr) (sl:Sl) (hp:Hp) (base:Nat) (slc:List (Option Nat)) (cs:List AV):vop C M sl hp base (.alloc slc cs)=ZhJ slc base cs:=by simp only[vop]
@[go_sem] theorem vopE_box (C:Orc) (M:Zr) (sl:Sl) (hp:Hp) (base:Nat) (x:Opd):vop C M sl hp base (.box x)=ZBO base (evO sl x):=by simp only[vop]
@[go_sem] theorem ZFP (C:Orc) (M:Zr) (sl:Sl) (hp:Hp) (base:Nat) (zs:List AV) (ps:List (Nat×Nat×Opd)):vop C M sl hp base (.build zs ps)=Zrc zs (evP sl ps):=by simp only[vop]
@[go_sem] theorem ZEx (C:Orc) (M:Zr) (sl:Sl) (hp:Hp) (base:Nat) (s:Nat) (xs:List Opd):vop C M sl hp base (.buildSl s xs)=buildSl hp base s (evL sl xs):=by simp only[vop]
@[go_sem] theorem vopE_load (C:Orc) (M:Zr) (sl:Sl) (hp:Hp) (base:Nat) (g:Bool) (s:Nat) (a:Opd):vop C M sl hp base (.load g s a)=Wd (Ue hp g s (evO sl a)):=by simp only[vop]
@[go_sem] theorem ZFQ (C:Orc) (M:Zr) (sl:Sl) (hp:Hp) (base:Nat) (slc:List (Option Nat)) (s:Nat) (a x:Opd):vop C M sl hp base (.store slc s a x)=Zhk (ZaY hp slc s base (evO sl x).cells (evO sl a)):=by simp only[vop]
@[go_sem] theorem ZD2 (C:Orc) (M:Zr) (sl:Sl) (hp:Hp) (base:Nat) (x:Opd):vop C M sl hp base (.nilCheck x)=Zaa (evO sl x):=by simp only[vop]
@[go_sem] theorem vopE_bin (C:Orc) (M:Zr) (sl:Sl) (hp:Hp) (base:Nat) (op:BinOp) (eq:Bool) (x y:Opd):vop C M sl hp base (.bin op eq x y)=Zpu op eq (evO sl x) (evO sl y):=by simp only[vop]
@[go_sem] theorem vopE_un (C:Orc) (M:Zr) (sl:Sl) (hp:Hp) (base:Nat) (op:UnOp) (x:Opd):vop C M sl hp base (.un op x)=Wd (vun op (evO sl x)):=by simp only[vop]
@[go_sem] theorem vopE_eqA (C:Orc) (M:Zr) (sl:Sl) (hp:Hp) (base:Nat) (neg:Bool) (ks:List Nat) (x y:Opd):vop C M sl hp base (.eqA neg ks x y)=ZvR neg ks (evO sl x) (evO sl y):=by simp only[vop]
@[go_sem] theorem ZFR (C:Orc) (M:Zr) (sl:Sl) (hp:Hp) (base:Nat) (k:IntKind) (x:Opd):vop C M sl hp base (.convI k x)=convI k (evO sl x):=by simp only[vop]
@[go_sem] theorem ZFS (C:Orc) (M:Zr) (sl:Sl) (hp:Hp) (base:Nat) (x:Opd):vop C M sl hp base (.convS x)=convS (evO sl x):=by simp only[vop]
@[go_sem] theorem vopE_fn (C:Orc) (M:Zr) (sl:Sl) (hp:Hp) (base:Nat) (f:Nat) (cs:List Opd):vop C M sl hp base (.fn f cs)=Wd (cloV f (evL sl cs)):=by simp only[vop]
@[go_sem] theorem vopE_make (C:Orc) (M:Zr) (sl:Sl) (hp:Hp) (base:Nat) (s b:Nat) (z:D) (l c:Opd):vop C M sl hp base (.make s b z l c)=bnd (idx (evO sl l)) fun l=>bnd (idx (evO sl c)) fun c=>Zuv base s b z l c:=by simp only[vop]
@[go_sem] theorem ZFT (C:Orc) (M:Zr) (sl:Sl) (hp:Hp) (base:Nat) (s:Nat) (x:Opd) (lo hi:Option Opd):vop C M sl hp base (.slice s x lo hi)=Wd (VY hp s (evM sl lo) (evM sl hi) (evO sl x)):=by simp only[vop]
@[go_sem] theorem ZFk (C:Orc) (M:Zr) (sl:Sl) (hp:Hp) (base:Nat) (x:Opd) (lo hi:Option Opd):vop C M sl hp base (.sliceS x lo hi)=Wd (sliceS (evM sl lo) (evM sl hi) (evO sl x)):=by simp only[vop]
@[go_sem] theorem ZFl (C:Orc) (M:Zr) (sl:Sl) (hp:Hp) (base:Nat) (x hi mx:Opd):vop C M sl hp base (.slice0 x hi mx)=Wd (slice0 hp (evO sl x) (idx (evO sl hi)) (idx (evO sl mx))):=by simp only[vop]
@[go_sem] theorem ZFU (C:Orc) (M:Zr) (sl:Sl) (hp:Hp) (base:Nat) (off:Nat) (x:Opd):vop C M sl hp base (.shift off x)=Wo off (evO sl x):=by simp only[vop]
@[go_sem] theorem vopE_part (C:Orc) (M:Zr) (sl:Sl) (hp:Hp) (base:Nat) (g:Bool) (s off:Nat) (x:Opd):vop C M sl hp base (.part g s off x)=Wd (ZlR g s off (evO sl x)):=by simp only[vop]
@[go_sem] theorem vopE_iaS (C:Orc) (M:Zr) (sl:Sl) (hp:Hp) (base:Nat) (s:Nat) (x i:Opd):vop C M sl hp base (.iaS s x i)=bnd (idx (evO sl i)) fun n=>ZjX hp s (evO sl x) n:=by simp only[vop]
@[go_sem] theorem vopE_iaA (C:Orc) (M:Zr) (sl:Sl) (hp:Hp) (base:Nat) (len s:Nat) (x i:Opd):vop C M sl hp base (.iaA len s x i)=bnd (idx (evO sl i)) fun n=>Zre (evO sl x) n len s:=by simp only[vop]
@[go_sem] theorem vopE_ixS (C:Orc) (M:Zr) (sl:Sl) (hp:Hp) (base:Nat) (x i:Opd):vop C M sl hp base (.ixS x i)=bnd (idx (evO sl i)) fun n=>Zy7 n (evO sl x):=by simp only[vop]
@[go_sem] theorem vopE_ixA (C:Orc) (M:Zr) (sl:Sl) (hp:Hp) (base:Nat) (g:Bool) (s len:Nat) (x i:Opd):vop C M sl hp base (.ixA g s len x i)=bnd (idx (evO sl i)) fun n=>ZBQ g s len n (evO sl x):=by simp only[vop]
@[go_sem] theorem vopE_nth (C:Orc) (M:Zr) (sl:Sl) (hp:Hp) (base:Nat) (i:Nat) (x:Opd):vop C M sl hp base (.nth i x)=Zxk i (evO sl x):=by simp only[vop]
@[go_sem] theorem vopE_len (C:Orc) (M:Zr) (sl:Sl) (hp:Hp) (base:Nat) (x:Opd):vop C M sl hp base (.len x)=bnd (ZdQ hp (evO sl x)) fun n=>QR (.d (.int .i64 n)):=by simp only[vop]
@[go_sem] theorem vopE_lenS (C:Orc) (M:Zr) (sl:Sl) (hp:Hp) (base:Nat) (x:Opd):vop C M sl hp base (.lenS x)=bnd (ZBM (evO sl x)) fun n=>QR (.d (.int .i64 n)):=by simp only[vop]
@[go_sem] theorem ZFm (C:Orc) (M:Zr) (sl:Sl) (hp:Hp) (base:Nat) (s b:Nat) (str flat:Bool) (x y:Opd):vop C M sl hp base (.append s b str flat x y)=Zxl hp s b str flat base (evO sl x) (evO sl y):=by simp only[vop]
@[go_sem] theorem vopE_min (C:Orc) (M:Zr) (sl:Sl) (hp:Hp) (base:Nat) (x y:Opd):vop C M sl hp base (.min x y)=ZoQ (evO sl x) (evO sl y):=by simp only[vop]
@[go_sem] theorem vopE_max (C:Orc) (M:Zr) (sl:Sl) (hp:Hp) (base:Nat) (x y:Opd):vop C M sl hp base (.max x y)=ZoR (evO sl x) (evO sl y):=by simp only[vop]
@[go_sem] theorem vopE_call (C:Orc) (M:Zr) (sl:Sl) (hp:Hp) (base:Nat) (f:Opd) (as1:List Opd):vop C M sl hp base (.call f as1)=ZdU C M hp base (evL sl as1) (evO sl f):=by simp only[vop]
@[go_sem] theorem ZFn (C:Orc) (M:Zr) (sl:Sl) (hp:Hp) (base:Nat) (s:Nat) (x lo hi mx:Opd):vop C M sl hp base (.slice3 s x lo hi mx)=Wd (slice3 hp (evO sl x) (idx (evO sl lo)) (idx (evO sl hi)) (idx (evO sl mx))):=by simp only[vop]
@[go_sem] theorem ZFV (C:Orc) (M:Zr) (sl:Sl) (hp:Hp) (base:Nat) (s:Nat) (z:D) (x:Opd):vop C M sl hp base (.clear s z x)=Zhk (ZfD hp s z (evO sl x)):=by simp only[vop]
@[go_sem] theorem ZFo (C:Orc) (M:Zr) (sl:Sl) (hp:Hp) (base:Nat) (s n:Nat) (xs:List Opd):vop C M sl hp base (.buildT s n xs)=buildT hp base s n (evL sl xs):=by simp only[vop]
@[go_sem] theorem vopE_appT (C:Orc) (M:Zr) (sl:Sl) (hp:Hp) (base:Nat) (s b:Nat) (f:Bool) (x y:Opd):vop C M sl hp base (.appT s b f x y)=appT hp s b base (evO sl x) (evO sl y):=by simp only[vop]
@[go_sem] theorem vopE_asgT (C:Orc) (M:Zr) (sl:Sl) (hp:Hp) (base:Nat) (s n:Nat) (x:Opd):vop C M sl hp base (.asgT s n x)=asgT base s n (evO sl x):=by simp only[vop]
@[go_sem] theorem ZFW (C:Orc) (M:Zr) (sl:Sl) (hp:Hp) (base:Nat) (s b n:Nat) (z:D) (l c:Opd):vop C M sl hp base (.makeT s b n z l c)=bnd (idx (evO sl l)) fun l=>bnd (idx (evO sl c)) fun c=>makeT base s b n z l c:=by simp only[vop]
@[go_sem] theorem ZFX (C:Orc) (M:Zr) (sl:Sl) (hp:Hp) (base:Nat):vop C M sl hp base .stuck=none:=by simp only[vop]
@[go_sem] theorem ZBF (hp:Hp) (n:Nat) (aa:List Nat):Xi hp n [] aa=aa:=by cases n<;>rfl
@[go_sem] theorem tidy_d (hp:Hp) (ids:List Nat) (x:D):ZeY hp ids (.d x)=.d x:=rfl
@[go_sem] theorem tidy_nil (hp:Hp) (ids:List Nat):ZeY hp ids .nil=.nil:=rfl
@[go_sem] theorem tidy_junk (hp:Hp) (ids:List Nat):ZeY hp ids .junk=.junk:=rfl
@[go_sem] theorem tidy_tup (hp:Hp) (ids:List Nat) (vs:List AV):ZeY hp ids (.tup vs)=ren (V5 ids) (kill (ZhM hp ids (Zy (.tup vs))) (.tup vs)):=rfl
@[go_sem] theorem tidy_agg (hp:Hp) (ids:List Nat) (vs:List AV):ZeY hp ids (.agg vs)=ren (V5 ids) (kill (ZhM hp ids (Zy (.agg vs))) (.agg vs)):=rfl
@[go_sem] theorem tidy_clo (hp:Hp) (ids:List Nat) (f:Nat) (vs:List AV):ZeY hp ids (.clo f vs)=ren (V5 ids) (kill (ZhM hp ids (Zy (.clo f vs))) (.clo f vs)):=rfl
@[go_sem] theorem tidy_nilp (hp:Hp) (ids:List Nat):ZeY hp ids .nilp=.nilp:=rfl
@[go_sem] theorem tidy_nili (hp:Hp) (ids:List Nat):ZeY hp ids .nili=.nili:=rfl
@[go_sem] theorem tidy_pim (hp:Hp) (ids:List Nat) (cs:List D):ZeY hp ids (.pim cs)=.pim cs:=rfl
@[go_sem] theorem tidy_ptr (hp:Hp) (ids:List Nat) (id o:Nat):ZeY hp ids (.ptr id o)=if ZdW hp ids id=true then .ptr (V5 ids id) o else .junk:=by
 simp only[ZeY,Zy,ZC,Zq,ZhM];split<;>simp[kill,ZU,Qk,ren,ZeW,ZfC]
@[go_sem] theorem tidy_prow (hp:Hp) (ids:List Nat) (id s i o:Nat):ZeY hp ids (.prow id s i o)=if ZdW hp ids id=true then .prow (V5 ids id) s i o else .junk:=by
 simp only[ZeY,Zy,ZC,Zq,ZhM];split<;>simp[kill,ZU,Qk,ren,ZeW,ZfC]
@[go_sem] theorem tidy_own (hp:Hp) (ids:List Nat) (id:Nat):ZeY hp ids (.own id)=if ZdW hp ids id=true then .own (V5 ids id) else .junk:=by
 simp only[ZeY,Zy,ZC,Zq,ZhM];split<;>simp[kill,ZU,Qk,ren,ZeW,ZfC]
@[go_sem] theorem tidy_ownv (hp:Hp) (ids:List Nat) (id a b:Nat):ZeY hp ids (.ownv id a b)=if ZdW hp ids id=true then .ownv (V5 ids id) a b else .junk:=by
 simp only[ZeY,Zy,ZC,Zq,ZhM];split<;>simp[kill,ZU,Qk,ren,ZeW,ZfC]
@[go_sem] theorem ZFY (hp:Hp) (x:D):Wq 0 hp (.d x)=(.d x,[]):=by
 simp[Wq,Zy,ZC,Zq,WM,ZBF,tidy_d,ZdR]
@[go_sem] theorem minI_eq (a b:Int):minI a b=min a b:=by unfold minI;split<;>omega
@[go_sem] theorem maxI_eq (a b:Int):maxI a b=max a b:=by unfold maxI;split<;>omega
@[go_sem] theorem negIf_f (r:Bool):Zrd false r=r:=rfl
@[go_sem] theorem negIf_t (r:Bool):Zrd true r=!r:=rfl
@[go_sem] theorem opt1_some (v:AV):Wd (some v)=QR v:=rfl
@[go_sem] theorem opt1_none:Wd none=none:=rfl
@[go_sem] theorem vbin_int (op:BinOp) (k k' : IntKind) (a b:Int):vbin op (.d (.int k a)) (.d (.int k' b))=Jc op k k' a b:=rfl
@[go_sem] theorem binV_int (op:BinOp) (eq:Bool) (k k' : IntKind) (a b:Int):Zpu op eq (.d (.int k a)) (.d (.int k' b))=Wd (Jc op k k' a b):=rfl
@[go_sem] theorem binV_str (op:BinOp) (eq:Bool) (a b:List UInt8):Zpu op eq (.d (.str a)) (.d (.str b))=Wd (asD (Zxf op a b)):=rfl
@[go_sem] theorem int2_add (k:IntKind) (a b:Int):Jc .add k k a b=some (.d (.int k (k.wrap (a+b)))):=by simp[Jc,Ud,asD,Zh]
@[go_sem] theorem int2_sub (k:IntKind) (a b:Int):Jc .sub k k a b=some (.d (.int k (k.wrap (a-b)))):=by simp[Jc,Ud,asD,Zh]
@[go_sem] theorem int2_mul (k:IntKind) (a b:Int):Jc .mul k k a b=some (.d (.int k (k.wrap (a*b)))):=by simp[Jc,Ud,asD,Zh]
@[go_sem] theorem int2_quo (k:IntKind) (a b:Int):Jc .quo k k a b=if b=0 then none else some (.d (.int k (k.wrap (a.tdiv b)))):=by simp only[Jc,Ud,asD,if_true];split<;>rfl
@[go_sem] theorem int2_rem (k:IntKind) (a b:Int):Jc .rem k k a b=if b=0 then none else some (.d (.int k (a.tmod b))):=by simp only[Jc,Ud,asD,if_true];split<;>rfl
@[go_sem] theorem int2_eql (k:IntKind) (a b:Int):Jc .eql k k a b=some (.d (.bool (decide (a=b)))):=by simp[Jc,Ud,asD,Zh,BEq.beq]
@[go_sem] theorem int2_neq (k:IntKind) (a b:Int):Jc .neq k k a b=some (.d (.bool (!decide (a=b)))):=by simp[Jc,Ud,asD,Zh,bne,BEq.beq]
@[go_sem] theorem int2_lss (k:IntKind) (a b:Int):Jc .lss k k a b=some (.d (.bool (decide (a<b)))):=by simp[Jc,Ud,asD,Zh]
@[go_sem] theorem int2_leq (k:IntKind) (a b:Int):Jc .leq k k a b=some (.d (.bool (decide (a≤b)))):=by simp[Jc,Ud,asD,Zh]
@[go_sem] theorem int2_gtr (k:IntKind) (a b:Int):Jc .gtr k k a b=some (.d (.bool (decide (b<a)))):=by simp[Jc,Ud,asD,Zh]
@[go_sem] theorem int2_geq (k:IntKind) (a b:Int):Jc .geq k k a b=some (.d (.bool (decide (b≤a)))):=by simp[Jc,Ud,asD,Zh]
@[go_sem] theorem guardV_t (b:Bool):ZfK true (.d (.bool b))=some b:=by cases b<;>rfl
def nb (b:Bool):Bool:=!b
@[go_sem] theorem nb_true:nb true=false:=rfl
@[go_sem] theorem nb_false:nb false=true:=rfl
@[go_sem] theorem nb_eq (b:Bool):(nb b=true)=(b=false):=by cases b<;>simp[nb]
@[go_sem] theorem guardV_f (b:Bool):ZfK false (.d (.bool b))=some (nb b):=by cases b<;>rfl
@[go_sem] theorem ZFZ (w:Bool):ZfK w (.tup [])=some false:=rfl
@[go_sem] theorem ZEy (a b:Bool):ZfK true (ZjF a (.d (.bool b)))=some (a&&b):=by cases a<;>cases b<;>rfl
@[go_sem] theorem ZEz (a b:Bool):ZfK false (ZjF a (.d (.bool b)))=some (a&&nb b):=by cases a<;>cases b<;>rfl
@[go_sem] theorem iteV_true (v:AV):ZjF true v=v:=rfl
@[go_sem] theorem ZF0 (v:AV):ZjF false v=.tup []:=rfl
@[go_sem] theorem ZF1 (a b:AV):ZhI a b (.d (.bool true))=QR a:=rfl
@[go_sem] theorem ZFp (a b:AV):ZhI a b (.d (.bool false))=QR b:=rfl
@[go_sem] theorem pickV_or (b c:Bool):ZhI (.d (.bool true)) (ZjF (nb b) (.d (.bool c))) (.d (.bool b))=QR (.d (.bool (b || c))):=by cases b<;>rfl
@[go_sem] theorem pickV_and (b c:Bool):ZhI (ZjF b (.d (.bool c))) (.d (.bool false)) (.d (.bool b))=QR (.d (.bool (b&&c))):=by cases b<;>rfl
@[go_sem] theorem dec_or (p q:Prop) [Decidable p] [Decidable q]:(decide p || decide q)=decide (p∨q):=by simp
@[go_sem] theorem dec_and (p q:Prop) [Decidable p] [Decidable q]:(decide p&&decide q)=decide (p∧q):=by simp
@[go_sem] theorem dec_not (p:Prop) [Decidable p]:(!decide p)=decide (¬p):=by simp
attribute [go_sem] Bool.or_eq_false_iff decide_eq_true_eq decide_eq_false_iff_not Bool.and_eq_true Bool.or_eq_true Bool.not_eq_true' Bool.not_eq_false' not_or Decidable.not_not
@[go_sem] theorem evO_t (sl:Sl) (n:Nat):evO sl (.t n)=gs sl n:=rfl
@[go_sem] theorem evO_v (sl:Sl) (a:AV):evO sl (.v a)=a:=rfl
@[go_sem] theorem evO_f (sl:Sl) (n:Nat):evO sl (.f n)=.clo n []:=rfl
@[go_sem] theorem gs_hit (k:Nat) (v:AV) (r:Sl):gs ((k,v) :: r) k=v:=by simp[gs,lkp,Zb5]
@[go_sem] theorem gs_cons (k t:Nat) (v:AV) (r:Sl):gs ((k,v) :: r) t=if k=t then v else gs r t:=by
 by_cases h:k=t<;>simp[gs,lkp,h,Zb5]
@[go_sem] theorem gs_nil (t:Nat):gs [] t=.junk:=rfl
attribute [go_sem] ZfA.eq_1 ZfA.eq_2
attribute [go_sem] Jb.eq_1 Jb.eq_2 Jb.eq_3 Jb.eq_4
attribute [go_sem] ZlJ.eq_1 ZlJ.eq_2 ZlJ.eq_3 ZlJ.eq_4
attribute [go_sem] JY.eq_1 JY.eq_2
attribute [go_sem] St.hp.eq_1
attribute [go_sem] Zdp.eq_1 Zdp.eq_2 Zdp.eq_3
attribute [go_sem] Zb5.eq_1 Zb5.eq_2
attribute [go_sem] agg2.eq_1 agg2.eq_2 agg2.eq_3
attribute [go_sem] ins.eq_1 ins.eq_2
attribute [go_sem] ZfB.eq_1 ZfB.eq_2
attribute [go_sem] X3.eq_1 X3.eq_2 X3.eq_3
attribute [go_sem] St.m.eq_1
attribute [go_sem] bnd.eq_1 bnd.eq_2
@[go_sem] theorem u8_eq (n:Nat):u8 n=UInt8.ofNat n:=by unfold u8;rfl
attribute [go_sem] Zq7.eq_1 Zq7.eq_2 Zq7.eq_3
attribute [go_sem] Ja.eq_1 Ja.eq_2 Ja.eq_3
attribute [go_sem] Zxf.eq_1 Zxf.eq_2 Zxf.eq_3 Zxf.eq_4
attribute [go_sem] AV.cells.eq_1 AV.cells.eq_2 AV.cells.eq_3 AV.cells.eq_4 AV.cells.eq_5 AV.cells.eq_6 AV.cells.eq_7 AV.cells.eq_8 AV.cells.eq_9 AV.cells.eq_10 AV.cells.eq_11 AV.cells.eq_12 AV.cells.eq_13 AV.cells.eq_14 AV.cells.eq_15
attribute [go_sem] Qk.eq_1 Qk.eq_2 Qk.eq_3 Qk.eq_4 Qk.eq_5 Qk.eq_6
attribute [go_sem] AV.solid.eq_1 AV.solid.eq_2 AV.solid.eq_3 AV.solid.eq_4
attribute [go_sem] V3.eq_1 V3.eq_2
attribute [go_sem] QJ.eq_1 QJ.eq_2
attribute [go_sem] Vs.eq_1 Vs.eq_2
attribute [go_sem] U9.eq_1
attribute [go_sem] ZdQ.eq_1 ZdQ.eq_2 ZdQ.eq_3 ZdQ.eq_4 ZdQ.eq_5
attribute [go_sem] Wm.eq_1 Wm.eq_2
attribute [go_sem] D.flat.eq_1
attribute [go_sem] give.eq_1 give.eq_2
attribute [go_sem] D.beq1.eq_1 D.beq1.eq_2 D.beq1.eq_3 D.beq1.eq_4
attribute [go_sem] ZfC.eq_1 ZfC.eq_2 ZfC.eq_3 ZfC.eq_4 ZfC.eq_5 ZfC.eq_6
attribute [go_sem] not1.eq_1 not1.eq_2
attribute [go_sem] XE.eq_1 XE.eq_2 XE.eq_3 XE.eq_4
attribute [go_sem] St.nx.eq_1
attribute [go_sem] ZC.eq_1 ZC.eq_2 ZC.eq_3
attribute [go_sem] ZeW.eq_1 ZeW.eq_2 ZeW.eq_3
attribute [go_sem] ZlK.eq_1 ZlK.eq_2
attribute [go_sem] vun.eq_1 vun.eq_2 vun.eq_3
attribute [go_sem] toD.eq_1 toD.eq_2
attribute [go_sem] Zq.eq_1 Zq.eq_2 Zq.eq_3 Zq.eq_4 Zq.eq_5 Zq.eq_6 Zq.eq_7 Zq.eq_8 Zq.eq_9 Zq.eq_10 Zq.eq_11 Zq.eq_12 Zq.eq_13 Zq.eq_14 Zq.eq_15
attribute [go_sem] D.plain.eq_1 D.plain.eq_2 D.plain.eq_3 D.plain.eq_4 D.plain.eq_5
attribute [go_sem] Zx.eq_1
attribute [go_sem] ZU.eq_1 ZU.eq_2 ZU.eq_3
attribute [go_sem] Uu.eq_1 Uu.eq_2
attribute [go_sem] Zy.eq_1 Zy.eq_2
attribute [go_sem] Zy6.eq_1
attribute [go_sem] Znv.eq_1 Znv.eq_2
attribute [go_sem] Zbn.eq_1 Zbn.eq_2 Zbn.eq_3 Zbn.eq_4
attribute [go_sem] St.sl.eq_1
attribute [go_sem] ZBM.eq_1 ZBM.eq_2
attribute [go_sem] WL.eq_1 WL.eq_2
attribute [go_sem] ZdP.eq_1 ZdP.eq_2
attribute [go_sem] ren.eq_1 ren.eq_2
attribute [go_sem] kill.eq_1 kill.eq_2
attribute [go_sem] lkp.eq_1 lkp.eq_2
attribute [go_sem] Zut.eq_1 Zut.eq_2 Zut.eq_3
attribute [go_sem] XQ.eq_1 XQ.eq_2
attribute [go_sem] beqL.eq_1 beqL.eq_2 beqL.eq_3
attribute [go_sem] D.cells.eq_1 D.cells.eq_2 D.cells.eq_3 D.cells.eq_4 D.cells.eq_5
attribute [go_sem] Zq5.eq_1 Zq5.eq_2
attribute [go_sem] Zus.eq_1 Zus.eq_2
attribute [go_sem] neg1.eq_1 neg1.eq_2
attribute [go_sem] Znw.eq_1 Znw.eq_2 Znw.eq_3
attribute [go_sem] Zq6.eq_1 Zq6.eq_2
attribute [go_sem] Vr.eq_1 Vr.eq_2 Vr.eq_3
attribute [go_sem] asD.eq_1
attribute [go_sem] Ud.eq_1 Ud.eq_2 Ud.eq_3 Ud.eq_4 Ud.eq_5 Ud.eq_6 Ud.eq_7 Ud.eq_8 Ud.eq_9 Ud.eq_10 Ud.eq_11 Ud.eq_12 Ud.eq_13 Ud.eq_14 Ud.eq_15 Ud.eq_16 Ud.eq_17
attribute [go_sem] ZjG.eq_1 ZjG.eq_2 ZjG.eq_3 ZjG.eq_4 ZjG.eq_5
attribute [go_sem] D.one.eq_1 D.one.eq_2 D.one.eq_3 D.one.eq_4 D.one.eq_5
attribute [go_sem] freeze.eq_1 freeze.eq_2
attribute [go_sem] Zb6.eq_1
attribute [go_sem] loOf.eq_1 loOf.eq_2
attribute [go_sem] Eff.on.eq_1
attribute [go_sem] appT.eq_1
attribute [go_sem] Zat.eq_1 Zat.eq_2
attribute [go_sem] cloV.eq_1
attribute [go_sem] slice0.eq_1 slice0.eq_2
attribute [go_sem] evM.eq_1 evM.eq_2
attribute [go_sem] Jf.eq_1 Jf.eq_2
attribute [go_sem] hiOf.eq_1 hiOf.eq_2
attribute [go_sem] ZlR.eq_1 ZlR.eq_2 ZlR.eq_3
attribute [go_sem] ZAD.eq_1
attribute [go_sem] idx.eq_1 idx.eq_2
attribute [go_sem] VY.eq_1 VY.eq_2 VY.eq_3 VY.eq_4 VY.eq_5
attribute [go_sem] J1.eq_1 J1.eq_2 J1.eq_3
attribute [go_sem] Qe.eq_1 Qe.eq_2
attribute [go_sem] D.notSl.eq_1 D.notSl.eq_2
attribute [go_sem] ZC9.eq_1 ZC9.eq_2
attribute [go_sem] Zca.eq_1 Zca.eq_2 Zca.eq_3 Zca.eq_4 Zca.eq_5 Zca.eq_6
attribute [go_sem] Vt.eq_1 Vt.eq_2 Vt.eq_3 Vt.eq_4
attribute [go_sem] CO.guard.eq_1
attribute [go_sem] Zhk.eq_1
attribute [go_sem] ZaI.eq_1
attribute [go_sem] Zb7.eq_1 Zb7.eq_2 Zb7.eq_3
attribute [go_sem] ZlM.eq_1
attribute [go_sem] Eff.adds.eq_1
attribute [go_sem] ZoP.eq_1 ZoP.eq_2
attribute [go_sem] V5.eq_1 V5.eq_2
attribute [go_sem] Zi.eq_1 Zi.eq_2
attribute [go_sem] Zf.eff.eq_1
attribute [go_sem] ZhF.eq_1 ZhF.eq_2
attribute [go_sem] Zy7.eq_1 Zy7.eq_2
attribute [go_sem] Znx.eq_1 Znx.eq_2 Znx.eq_3
attribute [go_sem] del.eq_1 del.eq_2
attribute [go_sem] Zrc.eq_1
attribute [go_sem] ZvO.eq_1 ZvO.eq_2
attribute [go_sem] J9.eq_1 J9.eq_2
attribute [go_sem] ZoR.eq_1 ZoR.eq_2
attribute [go_sem] D.isAgg.eq_1 D.isAgg.eq_2
attribute [go_sem] Zaa.eq_1 Zaa.eq_2 Zaa.eq_3 Zaa.eq_4 Zaa.eq_5
attribute [go_sem] ZhJ.eq_1
attribute [go_sem] slice3.eq_1
attribute [go_sem] Zb9.eq_1 Zb9.eq_2
attribute [go_sem] args.eq_1 args.eq_2
attribute [go_sem] ZoQ.eq_1 ZoQ.eq_2
attribute [go_sem] ZfG.eq_1
attribute [go_sem] ZlN.eq_1 ZlN.eq_2 ZlP.eq_1 ZlP.eq_2
attribute [go_sem] Ji.eq_1
attribute [go_sem] evL.eq_1 evL.eq_2
attribute [go_sem] Zny.eq_1 Zny.eq_2 Zny.eq_3
attribute [go_sem] Je.eq_1 Je.eq_2 Je.eq_3
attribute [go_sem] ZdR.eq_1 ZdR.eq_2
attribute [go_sem] Zq8.eq_1 Zq8.eq_2
attribute [go_sem] Eff.sets.eq_1
attribute [go_sem] ZdS.eq_1 ZdS.eq_2 ZdS.eq_3
attribute [go_sem] ZlL.eq_1 ZlL.eq_2
attribute [go_sem] ZlQ.eq_1 ZlQ.eq_2
attribute [go_sem] ZaY.eq_1 ZaY.eq_2 ZaY.eq_3
attribute [go_sem] ZBQ.eq_1
attribute [go_sem] makeT.eq_1
attribute [go_sem] Vu.eq_1 Vu.eq_2
attribute [go_sem] ZDa.eq_1 ZDa.eq_2
attribute [go_sem] Zra.eq_1 Zra.eq_2
attribute [go_sem] Zce.eq_1 Zce.eq_2
attribute [go_sem] Zuv.eq_1
attribute [go_sem] Zcd.eq_1 Zcd.eq_2
attribute [go_sem] AV.atom.eq_1 AV.atom.eq_2 AV.atom.eq_3 AV.atom.eq_4 AV.atom.eq_5
attribute [go_sem] Eff.dels.eq_1
attribute [go_sem] Zdq.eq_1 Zdq.eq_2 Zdq.eq_3
attribute [go_sem] mat.eq_1 mat.eq_2 mat.eq_3
attribute [go_sem] ZM.eq_1
attribute [go_sem] Zcc.eq_1 Zcc.eq_2
attribute [go_sem] ZvQ.eq_1
attribute [go_sem] ZBO.eq_1
attribute [go_sem] Zds.eq_1 Zds.eq_2
attribute [go_sem] Jg.eq_1
attribute [go_sem] QK.eq_1 QK.eq_2 QK.eq_3 QK.eq_4
attribute [go_sem] ZBP.eq_1
attribute [go_sem] ZhC.eq_1 ZhC.eq_2
attribute [go_sem] ZkL.eq_1 ZkL.eq_2
attribute [go_sem] Zxn.eq_1 Zxn.eq_2
attribute [go_sem] ZjW.eq_1 ZjW.eq_2 ZjW.eq_3 ZjW.eq_4
attribute [go_sem] ZkK.eq_1 ZkK.eq_2
attribute [go_sem] ZfE.eq_1 ZfE.eq_2
attribute [go_sem] ZhE.eq_1 ZhE.eq_2 ZhE.eq_3 ZhE.eq_4 ZhE.eq_5
attribute [go_sem] ZvP.eq_1 ZvP.eq_2
attribute [go_sem] Zrb.eq_1
attribute [go_sem] convS.eq_1 convS.eq_2
attribute [go_sem] ZlO.eq_1 ZlO.eq_2
attribute [go_sem] CO.tl.eq_1
attribute [go_sem] ZhG.eq_1 ZhG.eq_2 ZhG.eq_3 ZhG.eq_4
attribute [go_sem] CO.dst.eq_1
attribute [go_sem] teOf.eq_1
attribute [go_sem] Zy8.eq_1 Zy8.eq_2 Zy8.eq_3
attribute [go_sem] Zq9.eq_1
attribute [go_sem] Zxi.eq_1 Zxi.eq_2
attribute [go_sem] Zxj.eq_1
attribute [go_sem] Eff.val.eq_1
attribute [go_sem] sliceS.eq_1 sliceS.eq_2
attribute [go_sem] YV.eq_1 YV.eq_2 YV.eq_3
attribute [go_sem] ZhD.eq_1 ZhD.eq_2 ZhD.eq_3 ZhD.eq_4
attribute [go_sem] Jd.eq_1
attribute [go_sem] buildSl.eq_1 buildSl.eq_2
attribute [go_sem] Ue.eq_1 Ue.eq_2 Ue.eq_3 Ue.eq_4
attribute [go_sem] JZ.eq_1 JZ.eq_2 JZ.eq_3 JZ.eq_4 JZ.eq_5
attribute [go_sem] ZoO.eq_1 ZoO.eq_2
attribute [go_sem] Zre.eq_1
attribute [go_sem] evP.eq_1 evP.eq_2
attribute [go_sem] ZlS.eq_1 ZlS.eq_2
attribute [go_sem] Zdr.eq_1
attribute [go_sem] Zjd.eq_1
attribute [go_sem] Zuu.eq_1 Zuu.eq_2
attribute [go_sem] Zrd.eq_1
attribute [go_sem] Wn.eq_1
attribute [go_sem] Zxm.eq_1
attribute [go_sem] bnT.eq_1 bnT.eq_2
attribute [go_sem] Zb8.eq_1 Zb8.eq_2
attribute [go_sem] V4.eq_1 V4.eq_2
attribute [go_sem] Jh.eq_1 Jh.eq_2
attribute [go_sem] asgT.eq_1 asgT.eq_2
attribute [go_sem] Znz.eq_1 Znz.eq_2
attribute [go_sem] ZdU.eq_1 ZdU.eq_2
attribute [go_sem] ZhH.eq_1 ZhH.eq_2 ZhH.eq_3 ZhH.eq_4
attribute [go_sem] Zxg.eq_1 Zxg.eq_2
attribute [go_sem] CO.op.eq_1
attribute [go_sem] ZfH.eq_1 ZfH.eq_2
attribute [go_sem] ZfD.eq_1 ZfD.eq_2
attribute [go_sem] ZBN.eq_1 ZBN.eq_2
attribute [go_sem] Zje.eq_1 Zje.eq_2 Zje.eq_3
attribute [go_sem] Zxk.eq_1 Zxk.eq_2
attribute [go_sem] ZkM.eq_1 ZkM.eq_2
attribute [go_sem] ZfF.eq_1 ZfF.eq_2
attribute [go_sem] Zdh.eq_1 Zdh.eq_2 Zdh.eq_3 Zdh.eq_4 Zdh.eq_5 Zdh.eq_6 Zdh.eq_7 Zdh.eq_8 Zdh.eq_9 Zdh.eq_10
attribute [go_sem] ZaJ.eq_1
attribute [go_sem] Wo.eq_1 Wo.eq_2 Wo.eq_3 Wo.eq_4
attribute [go_sem] Eff.frz.eq_1
attribute [go_sem] buildT.eq_1
attribute [go_sem] Qq.eq_1 Qq.eq_2
attribute [go_sem] Zjc.eq_1 Zjc.eq_2
attribute [go_sem] Zf.gone.eq_1
attribute [go_sem] meltIn.eq_1 meltIn.eq_2
attribute [go_sem] ZjX.eq_1
attribute [go_sem] Zxh.eq_1 Zxh.eq_2
attribute [go_sem] convI.eq_1 convI.eq_2
attribute [go_sem] Zp9.eq_1 Zp9.eq_2
attribute [go_sem] Zbv.eq_1 Zbv.eq_2 Zbv.eq_3
attribute [go_sem] bd.eq_1
attribute [go_sem] Zcb.eq_1 Zcb.eq_2
attribute [go_sem] X4.eq_1
attribute [go_sem] ZvR.eq_1 ZvR.eq_2
attribute [go_sem] Zjf.eq_1
attribute [go_sem] Yd.eq_1 Yd.eq_2
attribute [go_sem] ZAI.eq_1 ZAI.eq_2
attribute [go_sem] ZF.eq_1 ZF.eq_2 ZF.eq_3 ZF.eq_4 ZF.eq_5 ZF.eq_6 ZF.eq_7 ZF.eq_8 ZF.eq_9 ZF.eq_10 ZF.eq_11 ZF.eq_12 ZF.eq_13 ZF.eq_14 ZF.eq_15 ZF.eq_16 ZF.eq_17 ZF.eq_18 ZF.eq_19 ZF.eq_20 ZF.eq_21 ZF.eq_22 ZF.eq_23 ZF.eq_24 ZF.eq_25 ZF.eq_26 ZF.eq_27 ZF.eq_28 ZF.eq_29 ZF.eq_30 ZF.eq_31 ZF.eq_32 ZF.eq_33 ZF.eq_34 ZF.eq_35 ZF.eq_36 ZF.eq_37 ZF.eq_38 ZF.eq_39 ZF.eq_40
attribute [go_sem] UK.eq_1 UK.eq_2 UK.eq_3 UK.eq_4 UK.eq_5
attribute [go_sem] ZhN.eq_1
attribute [go_sem] ZvW.eq_1 ZvW.eq_2
attribute [go_sem] Zck.eq_1 Zck.eq_2
attribute [go_sem] ZfQ.eq_1 ZvY.eq_1 ZvY.eq_2 ZvY.eq_3 ZDe.eq_1
attribute [go_sem] ZdV.eq_1 ZdV.eq_2 ZdV.eq_3 ZdV.eq_4 ZdV.eq_5
attribute [go_sem] V9.eq_1 V9.eq_2
attribute [go_sem] ZoU.eq_1 ZoU.eq_2
attribute [go_sem] ZBS.eq_1 ZBS.eq_2
attribute [go_sem] Zux.eq_1 Zux.eq_2
attribute [go_sem] Xn.eq_1 Xn.eq_2
attribute [go_sem] only.eq_1 only.eq_2
attribute [go_sem] Zzc.eq_1 Zzc.eq_2
attribute [go_sem] ZhL.eq_1 ZhL.eq_2
attribute [go_sem] Wa.eq_1 Wa.eq_2
attribute [go_sem] okL.eq_1 okL.eq_2
attribute [go_sem] okC.eq_1 okC.eq_2 okC.eq_3 okC.eq_4 okC.eq_5 okC.eq_6 okC.eq_7 okC.eq_8 okC.eq_9 okC.eq_10
attribute [go_sem] Zqa.eq_1 Zqa.eq_2
attribute [go_sem] Za0.eq_1 Za0.eq_2
attribute [go_sem] ZfL.eq_1 ZfL.eq_2 ZfL.eq_3
attribute [go_sem] Zjh.eq_1 Zjh.eq_2
attribute [go_sem] ZhM.eq_1 ZhM.eq_2
attribute [go_sem] Q3.eq_1 Q3.eq_2
attribute [go_sem] Zs.eq_1 Zs.eq_2
attribute [go_sem] VH.eq_1 VH.eq_2 VH.eq_3
attribute [go_sem] ZlY.eq_1
attribute [go_sem] Wf.eq_1 Wf.eq_2
attribute [go_sem] ZvX.eq_1 ZvX.eq_2
attribute [go_sem] CO.starts.eq_1
attribute [go_sem] V8.eq_1 V8.eq_2
attribute [go_sem] Q9.eq_1 Q9.eq_2
attribute [go_sem] ZAH.eq_1 ZAH.eq_2
attribute [go_sem] ZkR.eq_1
attribute [go_sem] Zrn.eq_1 Zrn.eq_2 Zrn.eq_3
attribute [go_sem] ZfN.eq_1 ZfN.eq_2
attribute [go_sem] WM.eq_1 WM.eq_2
attribute [go_sem] ZdW.eq_1
attribute [go_sem] Zro.eq_1 Zro.eq_2
attribute [go_sem] ZAG.eq_1
attribute [go_sem] Zp.body.eq_1
attribute [go_sem] Zl0.eq_1
attribute [go_sem] ZkO.eq_1 ZkO.eq_2
attribute [go_sem] Jk.eq_1 Jk.eq_2 Jk.eq_3 Jk.eq_4 Jk.eq_5
attribute [go_sem] Zp.res.eq_1
attribute [go_sem] Y8.eq_1 Y8.eq_2
attribute [go_sem] Yr.eq_1 Yr.eq_2 Yr.eq_3 Yr.eq_4 Yr.eq_5 Yr.eq_6 Yr.eq_7 Yr.eq_8 Yr.eq_9 Yr.eq_10 Yr.eq_11 Yr.eq_12
attribute [go_sem] Zrr.eq_1 Zrr.eq_2
attribute [go_sem] VG.eq_1 VG.eq_2
attribute [go_sem] Zp.nt.eq_1
attribute [go_sem] okD.eq_1 okD.eq_2
attribute [go_sem] ZvR.eq_1 JZ.eq_1 JZ.eq_2 JZ.eq_3 JZ.eq_4
attribute [go_sem] UW.eq_1 Zcg.eq_1 Zcg.eq_2 Zcg.eq_3 Zcg.eq_4 Zcg.eq_5 Zcg.eq_6 Zcg.eq_7 Zcg.eq_8 Zcg.eq_9 Zcg.eq_10 Wq.eq_1
attribute [go_sem] Xi.eq_3 X6.eq_1 AV.atom.eq_1 AV.atom.eq_2 AV.atom.eq_3 AV.atom.eq_4
attribute [go_sem] Ztm.eq_1 Ztm.eq_2 ZjU.eq_1 ZjU.eq_2
attribute [go_sem] Zh ZC7 ZEC
attribute [go_sem] List.map_cons List.map_nil List.flatMap_cons List.flatMap_nil List.append_nil List.nil_append List.cons_append List.length_cons List.length_nil List.all_cons List.all_nil List.any_cons List.any_nil List.contains_cons List.contains_nil List.filter_cons List.filter_nil List.drop_zero List.drop_succ_cons List.drop_nil List.take_zero List.take_succ_cons List.take_nil List.getElem?_cons_zero List.getElem?_cons_succ List.getElem?_nil Option.map_some Option.map_none Bool.and_true Bool.true_and Bool.and_false Bool.false_and Bool.or_true Bool.true_or Bool.or_false Bool.false_or Bool.not_true Bool.not_false decide_true decide_false and_true true_and and_false false_and not_true not_false_eq_true or_true true_or or_false false_or if_true if_false true_implies false_implies implies_true imp_self eq_self ne_eq beq_self_eq_true Bool.true_eq_false Bool.false_eq_true List.isEmpty_nil List.isEmpty_cons List.range_zero List.set_cons_zero List.set_cons_succ Option.some.injEq reduceCtorEq Nat.reduceLeDiff
def ZqY (hp:Hp):List Nat→List Nat
 | []=>[]
 | i :: r=>if ZhG (lkp hp i)=true then i :: ZqY hp r else ZqY hp r
theorem gE (hp:Hp) (ids:List Nat):(ids.filter fun i=>ZhG (lkp hp i))=ZqY hp ids:=by
 induction ids with
 | nil=>rfl
 | cons i r ih=>simp only[List.filter_cons,ZqY,ih]
def Zuh (hp:Hp) (rs:List Nat):List Nat→Bool
 | []=>true
 | i :: r=>(ZhG (lkp hp i) || rs.contains i)&&Zuh hp rs r
def Zui (hp:Hp):List Nat→Bool
 | []=>false
 | i :: r=>Zcd (lkp hp i) || Zui hp r
theorem gG (hp:Hp) (ids:List Nat):(ids.any fun i=>Zcd (lkp hp i))=Zui hp ids:=by
 induction ids with
 | nil=>rfl
 | cons i r ih=>simp only[List.any_cons,Zui,ih]
attribute [go_sem] Zui.eq_1 Zui.eq_2
@[go_sem] theorem appV_eq (hp:Hp) (s b:Nat) (str flat:Bool) (base:Nat) (x y:AV):Zxl hp s b str flat base x y=ZdT hp s b str flat base x y (X7 hp x) (X7 hp y):=rfl
attribute [go_sem] ZdT.eq_1 ZdT.eq_2 ZdT.eq_3
@[go_sem] theorem treeId_d (hp:Hp) (x:D):X7 hp (.d x)=[]:=rfl
@[go_sem] theorem ZF3 (hp:Hp):X7 hp .nil=[]:=rfl
@[go_sem] theorem ZFq (hp:Hp) (k o n:Nat):X7 hp (.ownv k o n)=[]:=rfl
@[go_sem] theorem ZF4 (hp:Hp) (k:Nat):X7 hp (.own k)=if Zcd (lkp hp k)=true then [k] else []:=rfl
@[go_sem] theorem noKeep_0 (M:Zr) (f:Nat):Yq M f 0=M f 0:=rfl
@[go_sem] theorem noKeep_1 (M:Zr) (f:Nat):Yq M f 1=M f 1:=rfl
@[go_sem] theorem noKeep_2 (M:Zr) (f:Nat):Yq M f 2=M f 2:=rfl
@[go_sem] theorem noKeep_3 (M:Zr) (f:Nat):Yq M f 3=M f 3:=rfl
@[go_sem] theorem noKeep_4 (M:Zr) (f:Nat):Yq M f 4=M f 4:=rfl
@[go_sem] theorem noKeep_5 (M:Zr) (f:Nat):Yq M f 5=M f 5:=rfl
@[go_sem] theorem noKeep_6 (M:Zr) (f:Nat):Yq M f 6=M f 6:=rfl
@[go_sem] theorem noKeep_99 (M:Zr) (f:Nat):Yq M f 99=false:=rfl
theorem gF (hp:Hp) (rs ids:List Nat):Zbu hp rs ids=Zuh hp rs ids:=by
 induction ids with
 | nil=>rfl
 | cons i r ih=>simp only[Zbu,LH,Zuh] at ih ⊢;rw[ih]
attribute [go_sem] ZqY.eq_1 ZqY.eq_2 Zuh.eq_1 Zuh.eq_2
@[go_sem] theorem okV_d (x:D):okV (.d x)=true:=rfl
@[go_sem] theorem okV_nil:okV .nil=true:=rfl
@[go_sem] theorem okV_nilp:okV .nilp=true:=rfl
@[go_sem] theorem okV_nili:okV .nili=true:=rfl
@[go_sem] theorem okV_ptr (a b:Nat):okV (.ptr a b)=true:=rfl
@[go_sem] theorem okV_prow (a b c e:Nat):okV (.prow a b c e)=true:=rfl
@[go_sem] theorem okV_pim (cs:List D):okV (.pim cs)=true:=rfl
@[go_sem] theorem okV_own (a:Nat):okV (.own a)=true:=rfl
@[go_sem] theorem okV_ownv (a b c:Nat):okV (.ownv a b c)=true:=rfl
@[go_sem] theorem okV_agg (cs:List AV):okV (.agg cs)=ZvW cs:=rfl
@[go_sem] theorem okV_tup0:okV (.tup [])=true:=rfl
@[go_sem] theorem ZF5 (sl:Sl) (a:COp) (x y:Nat) (v:AV):VZ sl a (.ptr x y) v=true:=rfl
@[go_sem] theorem seenIn_d (sl:Sl) (a:COp) (x y z t:Nat) (v:D):VZ sl a (.prow x y z t) (.d v)=true:=rfl
@[go_sem] theorem ZF6 (sl:Sl) (a:COp) (x y z t:Nat) (v:List AV):VZ sl a (.prow x y z t) (.agg v)=(okV (.agg v)&&Yd sl (ZF a) (Zy (.agg v))):=rfl
@[go_sem] theorem ZF7 (sl:Sl) (a:COp) (x y z t:Nat) (k:Nat):VZ sl a (.prow x y z t) (.own k)=(okV (.own k)&&Yd sl (ZF a) (Zy (.own k))):=rfl
@[go_sem] theorem ZF8 (sl:Sl) (a:COp) (x y z t:Nat):VZ sl a (.prow x y z t) .nil=(okV .nil&&Yd sl (ZF a) (Zy .nil)):=rfl
@[go_sem] theorem ZFr (sl:Sl) (a:COp) (x y z t:Nat):VZ sl a (.prow x y z t) .nilp=(okV .nilp&&Yd sl (ZF a) (Zy .nilp)):=rfl
@[go_sem] theorem ZFs (sl:Sl) (a:COp) (x y z t:Nat) (k m n:Nat):VZ sl a (.prow x y z t) (.ownv k m n)=(okV (.ownv k m n)&&Yd sl (ZF a) (Zy (.ownv k m n))):=rfl
@[go_sem] theorem ZFt (sl:Sl) (a:COp) (k:Nat):seenSrc sl a (.own k)=Q3 sl k (ZF a):=rfl
@[go_sem] theorem seenSrc_d (sl:Sl) (a:COp) (x:D):seenSrc sl a (.d x)=true:=rfl
@[go_sem] theorem ZFu (sl:Sl) (a:COp):seenSrc sl a .nil=true:=rfl
@[go_sem] theorem ZEA (sl:Sl) (a:COp) (x y z:Nat):seenSrc sl a (.ownv x y z)=true:=rfl
@[go_sem] theorem okV_iteV (b:Bool) (v:AV):okV (ZjF b v)=(!b || okV v):=by cases b<;>simp[ZjF,okV]
@[go_sem] theorem awayV_d (sl:Sl) (xs:List Opd) (x:D):Zch sl xs (.d x)=true:=rfl
@[go_sem] theorem awayV_nil (sl:Sl) (xs:List Opd):Zch sl xs .nil=true:=rfl
@[go_sem] theorem ZF9 (sl:Sl) (xs:List Opd):Zch sl xs .nilp=true:=rfl
@[go_sem] theorem awayV_ptr (sl:Sl) (xs:List Opd) (k o:Nat):Zch sl xs (.ptr k o)=Q3 sl k xs:=rfl
@[go_sem] theorem awayV_pim (sl:Sl) (xs:List Opd) (cs:List D):Zch sl xs (.pim cs)=true:=rfl
@[go_sem] theorem awayV_own (sl:Sl) (xs:List Opd) (a:Nat):Zch sl xs (.own a)=true:=rfl
@[go_sem] theorem ZGa (sl:Sl) (xs:List Opd) (a b c:Nat):Zch sl xs (.ownv a b c)=true:=rfl
@[go_sem] theorem awayV_agg (sl:Sl) (xs:List Opd) (cs:List AV):Zch sl xs (.agg cs)=true:=rfl
@[go_sem] theorem awayV_tup (sl:Sl) (xs:List Opd) (cs:List AV):Zch sl xs (.tup cs)=true:=rfl
end Go.Abs.E
