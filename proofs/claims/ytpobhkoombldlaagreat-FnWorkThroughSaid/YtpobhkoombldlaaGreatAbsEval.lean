/- The abstract semantics as rewriting rules: what must hold for a code to come to a state of which something is true. Own text. -/
import Derived.Test.YtpobhkoombldlaaGreatAbsRun
set_option linter.unusedVariables false
set_option linter.unusedSimpArgs false
namespace Go.Abs.E
open Go Go.Abs
abbrev _root_.Go.Abs.Opd.i (n:Int):Opd:=.v (.d (.int .i64 n))
abbrev _root_.Go.Abs.Opd.b (x:Bool):Opd:=.v (.d (.bool x))
def stW {α:Type} (x:Option α) (K:α→Prop):Prop:=match x with
 | some a=>K a
 | none=>False
def gW (x:Option Bool) (A B:Prop):Prop:=match x with
 | some b=>(b=true→A)∧(b=false→B)
 | none=>False
def JJ (v:AV) (A B:Prop):Prop:=match v with
 | .d (.bool t)=>(t=true→A)∧(t=false→B)
 | _=>False
theorem JS {α:Type} (a:α) (K:α→Prop):stW (some a) K=K a:=rfl
theorem Zlr {α:Type} (K:α→Prop):stW none K=False:=rfl
theorem Zdk {α β:Type} (x:Option α) (f:α→Option β) (K:β→Prop):stW (bnd x f) K=stW x fun a=>stW (f a) K:=by cases x<;>rfl
@[go_sem] theorem Zx6 (A B:Prop):gW (some true) A B=A:=by simp[gW]
@[go_sem] theorem gW_false (A B:Prop):gW (some false) A B=B:=by simp[gW]
@[go_sem] theorem gW_dec (p:Prop) [Decidable p] (A B:Prop):gW (some (decide p)) A B=((p→A)∧(¬p→B)):=by simp[gW]
@[go_sem] theorem gW_not (b:Bool) (A B:Prop):gW (some (!b)) A B=gW (some b) B A:=by cases b<;>simp[gW]
theorem gW_some (b:Bool) (A B:Prop):gW (some b) A B=((b=true→A)∧(b=false→B)):=rfl
@[go_sem] theorem ZFl (A B:Prop):JJ (.d (.bool true)) A B=A:=by simp[JJ]
@[go_sem] theorem ZEI (A B:Prop):JJ (.d (.bool false)) A B=B:=by simp[JJ]
@[go_sem] theorem condW_dec (p:Prop) [Decidable p] (A B:Prop):JJ (.d (.bool (decide p))) A B=((p→A)∧(¬p→B)):=by simp[JJ]
@[go_sem] theorem condW_not (b:Bool) (A B:Prop):JJ (.d (.bool (!b))) A B=JJ (.d (.bool b)) B A:=by cases b<;>simp[JJ]
@[go_sem] theorem condW_and (a b:Bool) (A B:Prop):JJ (.d (.bool (a&&b))) A B=JJ (.d (.bool a)) (JJ (.d (.bool b)) A B) B:=by cases a<;>cases b<;>simp[JJ]
@[go_sem] theorem condW_or (a b:Bool) (A B:Prop):JJ (.d (.bool (a || b))) A B=JJ (.d (.bool a)) A (JJ (.d (.bool b)) A B):=by cases a<;>cases b<;>simp[JJ]
@[go_sem] theorem ZFm (b:Bool) (A B:Prop):JJ (.d (.bool b)) A B=((b=true→A)∧(b=false→B)):=rfl
@[congr] theorem gW_congr {x y:Option Bool} {A B:Prop} (h:x=y):gW x A B=gW y A B:=by rw[h]
@[congr] theorem ZEJ {v w:AV} {A B:Prop} (h:v=w):JJ v A B=JJ w A B:=by rw[h]
section
variable (X:Fns) (M:Zu)
noncomputable def ZeS (nx:Nat):Nat→List CO→Sl→Hp→(Sl→Hp→Prop)→Prop
 | _,[],sl,hp,K=>K sl hp
 | i,o :: rest,sl,hp,K=>gW (Qc sl o.guard)
   (stW (Vz (nx+64*i) o.dst sl hp (vop (Zg X M) M sl hp (nx+64*i) o.op)) fun r=>ZeS nx (i+1) rest r.1 r.2 K)
   (ZeS nx (i+1) rest (Zw sl o.dst (.tup [])) hp K)
def Zdc (nx i:Nat) (d:Option Nat) (rest:List CO) (sl:Sl) (hp:Hp) (K:Sl→Hp→Prop) (e:Option Zf):Prop:=
 stW (Vz (nx+64*i) d sl hp e) fun r=>ZeS X M nx (i+1) rest r.1 r.2 K
@[go_sem] theorem opsW_nil (nx i:Nat) (sl:Sl) (hp:Hp) (K:Sl→Hp→Prop):ZeS X M nx i [] sl hp K=K sl hp:=rfl
@[go_sem] theorem opsW_cons (nx i:Nat) (d:Option Nat) (tl:Bool) (op:COp) (rest:List CO) (sl:Sl) (hp:Hp) (K:Sl→Hp→Prop) :
  ZeS X M nx i (⟨d,none,op,tl⟩ :: rest) sl hp K=Zdc X M nx i d rest sl hp K (vop (Zg X M) M sl hp (nx+64*i) op):=by
 simp[ZeS,Zdc,Qc,Zx6]
def Zjo (b:Bool) (v:AV):AV:=if b then v else .tup []
def ZaT (b:Bool) (nx i:Nat) (d:Option Nat) (rest:List CO) (sl:Sl) (hp:Hp) (K:Sl→Hp→Prop) (e:Option Zf):Prop:=
 gW (some b) (Zdc X M nx i d rest sl hp K e) (ZeS X M nx (i+1) rest (Zw sl d (.tup [])) hp K)
def ZtK (g:Option Bool) (nx i:Nat) (d:Option Nat) (op:COp) (rest:List CO) (sl:Sl) (hp:Hp) (K:Sl→Hp→Prop):Prop:=
 gW g (Zdc X M nx i d rest sl hp K (vop (Zg X M) M sl hp (nx+64*i) op)) (ZeS X M nx (i+1) rest (Zw sl d (.tup [])) hp K)
@[go_sem] theorem ZFn (nx i g:Nat) (w:Bool) (d:Option Nat) (tl:Bool) (op:COp) (rest:List CO) (sl:Sl) (hp:Hp) (K:Sl→Hp→Prop) :
  ZeS X M nx i (⟨d,some (g,w),op,tl⟩ :: rest) sl hp K=ZtK X M (Zgi w (gs sl g)) nx i d op rest sl hp K:=rfl
@[go_sem] theorem ZEK (b:Bool) (nx i:Nat) (d:Option Nat) (op:COp) (rest:List CO) (sl:Sl) (hp:Hp) (K:Sl→Hp→Prop) :
  ZtK X M (some b) nx i d op rest sl hp K=ZaT X M b nx i d rest sl hp K (vop (Zg X M) M sl hp (nx+64*i) op):=rfl
@[go_sem] theorem gA (nx i:Nat) (d:Option Nat) (rest:List CO) (sl:Sl) (hp:Hp) (K:Sl→Hp→Prop) (e:Option Zf) :
  ZaT X M true nx i d rest sl hp K e=Zdc X M nx i d rest sl hp K e:=by simp[ZaT,gW]
@[go_sem] theorem gB (nx i:Nat) (d:Option Nat) (rest:List CO) (sl:Sl) (hp:Hp) (K:Sl→Hp→Prop) (e:Option Zf) :
  ZaT X M false nx i d rest sl hp K e=ZeS X M nx (i+1) rest (Zw sl d (.tup [])) hp K:=by simp[ZaT,gW]
@[go_sem] theorem ZtL (b:Bool) (nx i:Nat) (d:Option Nat) (rest:List CO) (sl:Sl) (hp:Hp) (K:Sl→Hp→Prop) (v:AV) :
  ZaT X M b nx i d rest sl hp K (Qs v)=ZeS X M nx (i+1) rest (Zw sl d (Zjo b v)) hp K:=by
 cases b
 ·simp[ZaT,gW,Zjo]
 ·simp only[ZaT,gW,Zjo,if_true,true_implies,Bool.true_eq_false,false_implies,and_true];rfl
@[go_sem] theorem ZEL (b:Bool) (nx i:Nat) (d:Option Nat) (rest:List CO) (sl:Sl) (hp:Hp) (K:Sl→Hp→Prop) (v:AV) :
  ZaT X M b nx i d rest sl hp K (some { eff := { val:=v,adds:=[],sets:=[],dels:=[],frz:=[] },gone:=[] })=ZeS X M nx (i+1) rest (Zw sl d (Zjo b v)) hp K:=ZtL X M b nx i d rest sl hp K v
@[congr] theorem ZB1 {g g' : Option Bool} {nx i:Nat} {d:Option Nat} {op:COp} {rest:List CO} {sl:Sl} {hp:Hp} {K:Sl→Hp→Prop} (h:g=g') :
  ZtK X M g nx i d op rest sl hp K=ZtK X M g' nx i d op rest sl hp K:=by rw[h]
@[congr] theorem ZB2 {b b' : Bool} {nx i:Nat} {d:Option Nat} {rest:List CO} {sl:Sl} {hp:Hp} {K:Sl→Hp→Prop} {e e' : Option Zf} (hb:b=b') (h:b'=true→e=e') :
  ZaT X M b nx i d rest sl hp K e=ZaT X M b' nx i d rest sl hp K e':=by
 subst hb
 cases b
 ·simp[ZaT,gW]
 ·rw[h rfl]
@[go_sem] theorem ZEM (nx i:Nat) (d:Option Nat) (rest:List CO) (sl:Sl) (hp:Hp) (K:Sl→Hp→Prop) (v:AV) :
  Zdc X M nx i d rest sl hp K (Qs v)=ZeS X M nx (i+1) rest (Zw sl d v) hp K:=rfl
@[go_sem] theorem ZFo (nx i:Nat) (d:Option Nat) (rest:List CO) (sl:Sl) (hp:Hp) (K:Sl→Hp→Prop) (v:AV) :
  Zdc X M nx i d rest sl hp K (some { eff := { val:=v,adds:=[],sets:=[],dels:=[],frz:=[] },gone:=[] })=ZeS X M nx (i+1) rest (Zw sl d v) hp K:=rfl
@[go_sem] theorem ZFp (nx i:Nat) (d:Option Nat) (rest:List CO) (sl:Sl) (hp:Hp) (K:Sl→Hp→Prop) (e:Zf) :
  Zdc X M nx i d rest sl hp K (some e)=(Q8 (nx+64*i) (nx+64*i+64) e.eff.adds=true∧ZeS X M nx (i+1) rest (Zw (XM e.gone sl) d e.eff.val) (e.eff.on (Wj e.gone hp)) K):=by
 unfold Zdc Vz
 rw[Zj]
 split<;>rename_i h
 ·simp only[JS,h,true_and];rfl
 ·simp only[Zlr,h,false_and,Bool.false_eq_true]
@[go_sem] theorem ZFq (nx i:Nat) (d:Option Nat) (rest:List CO) (sl:Sl) (hp:Hp) (K:Sl→Hp→Prop):Zdc X M nx i d rest sl hp K none=False:=rfl
@[go_sem] theorem stepW_ite (nx i:Nat) (d:Option Nat) (rest:List CO) (sl:Sl) (hp:Hp) (K:Sl→Hp→Prop) (c:Prop) [Decidable c] (a b:Option Zf) :
  Zdc X M nx i d rest sl hp K (if c then a else b)=((c→Zdc X M nx i d rest sl hp K a)∧(¬c→Zdc X M nx i d rest sl hp K b)):=by
 by_cases h:c<;>simp[h]
noncomputable def W7 (nx:Nat):Nat→Bool→List CO→Sl→Hp→(Sl→Hp→Prop)→Prop
 | _,_,[],sl,hp,K=>K sl hp
 | i,tail,o :: rest,sl,hp,K=>gW (Qc sl o.guard)
   (stW (Vz (nx+64*i) o.dst sl hp (UD (Zg X M) M nx i (CO.starts o) o.op sl hp)) fun r=>W7 nx (i+1) tail rest r.1 r.2 K)
   (W7 nx (i+1) tail rest (Zw sl o.dst (.tup [])) hp K)
def JN (nx i:Nat) (t:Bool) (d:Option Nat) (rest:List CO) (sl:Sl) (hp:Hp) (K:Sl→Hp→Prop) (e:Option Zf):Prop:=
 stW (Vz (nx+64*i) d sl hp (if t then e else Zd8 e)) fun r=>W7 X M nx (i+1) false rest r.1 r.2 K
@[go_sem] theorem opsDW_nil (nx i:Nat) (t:Bool) (sl:Sl) (hp:Hp) (K:Sl→Hp→Prop):W7 X M nx i t [] sl hp K=K sl hp:=rfl
@[go_sem] theorem ZFr (nx i:Nat) (d:Option Nat) (tl:Bool) (op:COp) (rest:List CO) (sl:Sl) (hp:Hp) (K:Sl→Hp→Prop) :
  W7 X M nx i false (⟨d,none,op,tl⟩ :: rest) sl hp K=JN X M nx i (Zi9 op || tl) d rest sl hp K (vop (Zg X M) M sl hp (nx+64*i) op):=by
 simp[W7,JN,Qc,Zx6,UD,CO.starts]
def Ux (b:Bool) (nx i:Nat) (t:Bool) (d:Option Nat) (rest:List CO) (sl:Sl) (hp:Hp) (K:Sl→Hp→Prop) (e:Option Zf):Prop:=
 gW (some b) (JN X M nx i t d rest sl hp K e) (W7 X M nx (i+1) false rest (Zw sl d (.tup [])) hp K)
def ZoU (g:Option Bool) (nx i:Nat) (t:Bool) (d:Option Nat) (op:COp) (rest:List CO) (sl:Sl) (hp:Hp) (K:Sl→Hp→Prop):Prop:=
 gW g (JN X M nx i t d rest sl hp K (vop (Zg X M) M sl hp (nx+64*i) op)) (W7 X M nx (i+1) false rest (Zw sl d (.tup [])) hp K)
@[go_sem] theorem ZEN (nx i g:Nat) (w:Bool) (d:Option Nat) (tl:Bool) (op:COp) (rest:List CO) (sl:Sl) (hp:Hp) (K:Sl→Hp→Prop) :
  W7 X M nx i false (⟨d,some (g,w),op,tl⟩ :: rest) sl hp K=ZoU X M (Zgi w (gs sl g)) nx i (Zi9 op || tl) d op rest sl hp K:=rfl
@[go_sem] theorem ZB3 (b:Bool) (nx i:Nat) (t:Bool) (d:Option Nat) (op:COp) (rest:List CO) (sl:Sl) (hp:Hp) (K:Sl→Hp→Prop) :
  ZoU X M (some b) nx i t d op rest sl hp K=Ux X M b nx i t d rest sl hp K (vop (Zg X M) M sl hp (nx+64*i) op):=rfl
@[go_sem] theorem gC (nx i:Nat) (t:Bool) (d:Option Nat) (rest:List CO) (sl:Sl) (hp:Hp) (K:Sl→Hp→Prop) (e:Option Zf) :
  Ux X M true nx i t d rest sl hp K e=JN X M nx i t d rest sl hp K e:=by simp[Ux,gW]
@[go_sem] theorem gD (nx i:Nat) (t:Bool) (d:Option Nat) (rest:List CO) (sl:Sl) (hp:Hp) (K:Sl→Hp→Prop) (e:Option Zf) :
  Ux X M false nx i t d rest sl hp K e=W7 X M nx (i+1) false rest (Zw sl d (.tup [])) hp K:=by simp[Ux,gW]
@[go_sem] theorem Zry (b:Bool) (nx i:Nat) (t:Bool) (d:Option Nat) (rest:List CO) (sl:Sl) (hp:Hp) (K:Sl→Hp→Prop) (v:AV) :
  Ux X M b nx i t d rest sl hp K (Qs v)=W7 X M nx (i+1) false rest (Zw sl d (Zjo b v)) hp K:=by
 cases b
 ·simp[Ux,gW,Zjo]
 ·simp only[Ux,gW,Zjo,if_true,true_implies,Bool.true_eq_false,false_implies,and_true];cases t<;>rfl
@[go_sem] theorem ZB4 (b:Bool) (nx i:Nat) (t:Bool) (d:Option Nat) (rest:List CO) (sl:Sl) (hp:Hp) (K:Sl→Hp→Prop) (v:AV) :
  Ux X M b nx i t d rest sl hp K (some { eff := { val:=v,adds:=[],sets:=[],dels:=[],frz:=[] },gone:=[] })=W7 X M nx (i+1) false rest (Zw sl d (Zjo b v)) hp K:=Zry X M b nx i t d rest sl hp K v
@[congr] theorem ZA9 {g g' : Option Bool} {nx i:Nat} {t t' : Bool} {d:Option Nat} {op:COp} {rest:List CO} {sl:Sl} {hp:Hp} {K:Sl→Hp→Prop} (h:g=g') (ht:t=t') :
  ZoU X M g nx i t d op rest sl hp K=ZoU X M g' nx i t' d op rest sl hp K:=by rw[h,ht]
@[congr] theorem ZBa {b b' : Bool} {nx i:Nat} {t:Bool} {d:Option Nat} {rest:List CO} {sl:Sl} {hp:Hp} {K:Sl→Hp→Prop} {e e' : Option Zf} (hb:b=b') (h:b'=true→e=e') :
  Ux X M b nx i t d rest sl hp K e=Ux X M b' nx i t d rest sl hp K e':=by
 subst hb
 cases b
 ·simp[Ux,gW]
 ·rw[h rfl]
@[go_sem] theorem ZB5 (nx i:Nat) (t:Bool) (d:Option Nat) (rest:List CO) (sl:Sl) (hp:Hp) (K:Sl→Hp→Prop) (v:AV) :
  JN X M nx i t d rest sl hp K (Qs v)=W7 X M nx (i+1) false rest (Zw sl d v) hp K:=by cases t<;>rfl
@[go_sem] theorem ZEO (nx i:Nat) (t:Bool) (d:Option Nat) (rest:List CO) (sl:Sl) (hp:Hp) (K:Sl→Hp→Prop) (v:AV) :
  JN X M nx i t d rest sl hp K (some { eff := { val:=v,adds:=[],sets:=[],dels:=[],frz:=[] },gone:=[] })=W7 X M nx (i+1) false rest (Zw sl d v) hp K:=by cases t<;>rfl
@[go_sem] theorem ZEP (nx i:Nat) (t:Bool) (d:Option Nat) (rest:List CO) (sl:Sl) (hp:Hp) (K:Sl→Hp→Prop) (e:Zf) :
  JN X M nx i t d rest sl hp K (some e)=((t=false→Zgm e e.gone e.eff.sets e.eff.dels e.eff.frz=some e)∧Q8 (nx+64*i) (nx+64*i+64) e.eff.adds=true∧W7 X M nx (i+1) false rest (Zw (XM e.gone sl) d e.eff.val) (e.eff.on (Wj e.gone hp)) K):=by
 have key:stW (Vz (nx+64*i) d sl hp (some e)) (fun r=>W7 X M nx (i+1) false rest r.1 r.2 K)=(Q8 (nx+64*i) (nx+64*i+64) e.eff.adds=true∧W7 X M nx (i+1) false rest (Zw (XM e.gone sl) d e.eff.val) (e.eff.on (Wj e.gone hp)) K):=by
  unfold Vz
  rw[Zj]
  split<;>rename_i h
  ·simp only[JS,h,true_and];rfl
  ·simp only[Zlr,h,false_and,Bool.false_eq_true]
 unfold JN
 cases t with
 | true=>simp only[if_true];rw[key];simp
 | false=>
  simp only[Bool.false_eq_true,if_false,Zd8,Zj,true_implies]
  unfold Zgm
  split
  ·rw[key];simp
  ·simp[Vz,bnd,stW]
@[go_sem] theorem ZEQ (nx i:Nat) (t:Bool) (d:Option Nat) (rest:List CO) (sl:Sl) (hp:Hp) (K:Sl→Hp→Prop):JN X M nx i t d rest sl hp K none=False:=by cases t<;>rfl
@[go_sem] theorem ZFs (nx i:Nat) (t:Bool) (d:Option Nat) (rest:List CO) (sl:Sl) (hp:Hp) (K:Sl→Hp→Prop) (c:Prop) [Decidable c] (a b:Option Zf) :
  JN X M nx i t d rest sl hp K (if c then a else b)=((c→JN X M nx i t d rest sl hp K a)∧(¬c→JN X M nx i t d rest sl hp K b)):=by
 by_cases h:c<;>simp[h]
@[go_sem] theorem quietC_ok (c:Zf):Zgm c [] [] [] []=some c:=rfl
def W (c:Ze) (st:St) (Q:Ex→St→Prop):Prop:=stW (Q4 X M c st) fun r=>Q r.1 r.2
@[congr] theorem W_congr {c:Ze} {st st' : St} {Q:Ex→St→Prop} (h:st=st'):W X M c st Q=W X M c st' Q:=by rw[h]
@[congr] theorem ZFt {rest:List CO} {nx nx' i i' : Nat} {sl sl' : Sl} {hp hp' : Hp} {K:Sl→Hp→Prop} (hn:nx=nx') (hi:i=i') (h:sl=sl') (h' : hp=hp') :
  ZeS X M nx i rest sl hp K=ZeS X M nx' i' rest sl' hp' K:=by rw[h,h',hn,hi]
@[congr] theorem ZER {rest:List CO} {nx nx' i i' : Nat} {t t' : Bool} {sl sl' : Sl} {hp hp' : Hp} {K:Sl→Hp→Prop} (hn:nx=nx') (hi:i=i') (ht:t=t') (h:sl=sl') (h' : hp=hp') :
  W7 X M nx i t rest sl hp K=W7 X M nx' i' t' rest sl' hp' K:=by rw[h,h',ht,hn,hi]
@[congr] theorem ZES {rest:List CO} {nx i:Nat} {d:Option Nat} {sl:Sl} {hp:Hp} {K:Sl→Hp→Prop} {e e' : Option Zf} (h:e=e') :
  Zdc X M nx i d rest sl hp K e=Zdc X M nx i d rest sl hp K e':=by rw[h]
@[congr] theorem ZB6 {rest:List CO} {nx i:Nat} {t t' : Bool} {d:Option Nat} {sl:Sl} {hp:Hp} {K:Sl→Hp→Prop} {e e' : Option Zf} (ht:t=t') (h:e=e') :
  JN X M nx i t d rest sl hp K e=JN X M nx i t' d rest sl hp K e':=by rw[h,ht]
theorem ZB7 (nx:Nat) (K:Sl→Hp→Prop):∀ (l:List CO) (i:Nat) (sl:Sl) (hp:Hp),ZeS X M nx i l sl hp K=stW (Zfx (Zg X M) M nx i l sl hp) fun r=>K r.1 r.2:=by
 intro l
 induction l with
 | nil=>intro i sl hp;rfl
 | cons o rest ih=>
  intro i sl hp
  simp only[ZeS,Zfx,ih,Zdk]
  cases Qc sl o.guard with
  | none=>rfl
  | some b=>cases b<;>simp[gW,Zdk,JS]
theorem Zz4 (nx:Nat) (K:Sl→Hp→Prop):∀ (l:List CO) (i:Nat) (t:Bool) (sl:Sl) (hp:Hp),W7 X M nx i t l sl hp K=stW (JX (Zg X M) M nx i t l sl hp) fun r=>K r.1 r.2:=by
 intro l
 induction l with
 | nil=>intro i t sl hp;rfl
 | cons o rest ih=>
  intro i t sl hp
  simp only[W7,JX,ih,Zdk]
  cases Qc sl o.guard with
  | none=>rfl
  | some b=>cases b<;>simp[gW,Zdk,JS]
def ZyT (m nx:Nat) (Q:Ex→St→Prop) (sl:Sl) (hp:Hp):Prop:=Q .normal { sl:=sl,hp:=hp,nx:=nx,m:=m }
def Zvj (ops:List CO) (ps:List (Nat×Nat)) (K:Sl→Hp→Prop) (sl:Sl) (hp:Hp):Prop:=Zaq ops sl ps=true∧K sl hp
@[go_sem] theorem regQ_eq (m nx:Nat) (Q:Ex→St→Prop) (sl:Sl) (hp:Hp):ZyT m nx Q sl hp=Q .normal { sl:=sl,hp:=hp,nx:=nx,m:=m }:=rfl
@[go_sem] theorem seenQ_eq (ops:List CO) (ps:List (Nat×Nat)) (K:Sl→Hp→Prop) (sl:Sl) (hp:Hp):Zvj ops ps K sl hp=(Zaq ops sl ps=true∧K sl hp):=rfl
@[go_sem] theorem W_skip (st:St) (Q:Ex→St→Prop):W X M .skip st Q=Q .normal st:=by simp[W,Zxi,JS]
@[go_sem] theorem W_ret (st:St) (Q:Ex→St→Prop):W X M .ret st Q=Q .ret st:=by simp[W,Zy9,JS]
@[go_sem] theorem W_exit (id:Nat) (st:St) (Q:Ex→St→Prop):W X M (.exit id) st Q=Q (.exit id) st:=by simp[W,Zxj,JS]
@[go_sem] theorem W_stuck (st:St) (Q:Ex→St→Prop):W X M .stuck st Q=False:=by
 have h:Q4 X M .stuck st=none:=Wq fun n=>by simp only[ZM]
 simp only[W,h,Zlr]
@[go_sem] theorem W_region (n:Nat) (ops:List CO) (st:St) (Q:Ex→St→Prop) :
  W X M (.region n none ops) st Q=ZeS X M st.nx 0 ops st.sl st.hp (ZyT st.m (st.nx+64*n) Q):=by
 rw[ZB7,W,Zt8,ZlG,Zdk];rfl
theorem Zz5 (n:Nat) (ps:List (Nat×Nat)) (ops:List CO) (st:St) (Q:Ex→St→Prop) :
  W X M (.region n (some ps) ops) st Q=W7 X M st.nx 0 false ops st.sl st.hp (Zvj ops ps (ZyT st.m (st.nx+64*n) Q)):=by
 rw[Zz4,W,Zxk,ZlG,Zdk,Zp0,Zdk]
 congr 1
 funext r
 by_cases h:Zaq ops r.1 ps=true<;>simp[h,Zvj,JS,Zlr,ZyT]
@[go_sem] theorem W_draw0 (n:Nat) (ops:List CO) (st:St) (Q:Ex→St→Prop) :
  W X M (.region n (some []) ops) st Q=W7 X M st.nx 0 false ops st.sl st.hp (ZyT st.m (st.nx+64*n) Q):=by
 rw[Zz5]
 congr 1
 funext sl hp
 simp[Zvj,Zaq]
@[go_sem] theorem W_drawc (n:Nat) (p:Nat×Nat) (ps:List (Nat×Nat)) (ops:List CO) (st:St) (Q:Ex→St→Prop) :
  W X M (.region n (some (p :: ps)) ops) st Q=W7 X M st.nx 0 false ops st.sl st.hp (Zvj ops (p :: ps) (ZyT st.m (st.nx+64*n) Q)):=Zz5 X M n _ ops st Q
def Zx7 (c:Ze) (Q:Ex→St→Prop):Ex→St→Prop
 | .normal,st=>W X M c st Q
 | e,st=>Q e st
def blkQ (id:Nat) (Q:Ex→St→Prop):Ex→St→Prop
 | .exit j,st=>if j=id then Q .normal st else Q (.exit j) st
 | e,st=>Q e st
@[go_sem] theorem ZB8 (c:Ze) (Q:Ex→St→Prop) (st:St):Zx7 X M c Q .normal st=W X M c st Q:=rfl
@[go_sem] theorem thenQ_ret (c:Ze) (Q:Ex→St→Prop) (st:St):Zx7 X M c Q .ret st=Q .ret st:=rfl
@[go_sem] theorem ZFu (c:Ze) (Q:Ex→St→Prop) (id:Nat) (st:St):Zx7 X M c Q (.exit id) st=Q (.exit id) st:=rfl
@[go_sem] theorem ZET (id:Nat) (Q:Ex→St→Prop) (st:St):blkQ id Q .normal st=Q .normal st:=rfl
@[go_sem] theorem blkQ_ret (id:Nat) (Q:Ex→St→Prop) (st:St):blkQ id Q .ret st=Q .ret st:=rfl
@[go_sem] theorem blkQ_exit (id j:Nat) (Q:Ex→St→Prop) (st:St):blkQ id Q (.exit j) st=if j=id then Q .normal st else Q (.exit j) st:=rfl
@[go_sem] theorem W_seq (a b:Ze) (st:St) (Q:Ex→St→Prop):W X M (.seq a b) st Q=W X M a st (Zx7 X M b Q):=by
 unfold W
 rw[Zza]
 cases h:Q4 X M a st with
 | none=>rfl
 | some r=>obtain⟨e,st'⟩:=r;cases e<;>rfl
@[go_sem] theorem W_cond (c:Opd) (a b:Ze) (st:St) (Q:Ex→St→Prop) :
  W X M (.cond c a b) st Q=JJ (evO st.sl c) (W X M a st Q) (W X M b st Q):=by
 unfold W
 rw[Zxl]
 cases h:evO st.sl c with
 | d x=>cases x with
  | bool t=>cases t<;>simp[ZhI,JJ]
  | _=>rfl
 | _=>rfl
@[go_sem] theorem W_block (id:Nat) (c:Ze) (st:St) (Q:Ex→St→Prop):W X M (.block id c) st Q=W X M c st (blkQ id Q):=by
 unfold W
 rw[ZvG]
 cases h:Q4 X M c st with
 | none=>rfl
 | some r=>
  obtain⟨e,st'⟩:=r
  cases e with
  | exit j=>by_cases hj:j=id<;>simp[ZgF,hj,JS,blkQ]
  | normal=>rfl
  | ret=>rfl
def keepQ (K:List Nat) (Q:Ex→St→Prop) (e:Ex) (st:St):Prop:=Q e { sl:=only K st.sl,hp:=st.hp,nx:=st.nx,m:=st.m }
@[go_sem] theorem keepQ_eq (K:List Nat) (Q:Ex→St→Prop) (e:Ex) (st:St):keepQ K Q e st=Q e { sl:=only K st.sl,hp:=st.hp,nx:=st.nx,m:=st.m }:=rfl
@[go_sem] theorem W_keep (K:List Nat) (c:Ze) (st:St) (Q:Ex→St→Prop):W X M (.keep K c) st Q=W X M c st (keepQ K Q):=by
 unfold W
 rw[Zxm]
 cases h:Q4 X M c st with
 | none=>rfl
 | some r=>rfl
def Zpv (c:Ze) (Q:Ex→St→Prop) (r:Option St):Prop:=stW r fun st=>W X M c st Q
@[go_sem] theorem ZFv (c:Ze) (Q:Ex→St→Prop) (st:St):Zpv X M c Q (some st)=W X M c st Q:=rfl
@[go_sem] theorem ZFw (c:Ze) (Q:Ex→St→Prop):Zpv X M c Q none=False:=rfl
@[go_sem] theorem linkW_ite (c:Ze) (Q:Ex→St→Prop) (p:Prop) [Decidable p] (a b:Option St):Zpv X M c Q (if p then a else b)=((p→Zpv X M c Q a)∧(¬p→Zpv X M c Q b)):=by
 by_cases h:p<;>simp[h]
@[go_sem] theorem W_link (id:Nat) (i:Opd) (j:Nat) (c:Ze) (st:St) (Q:Ex→St→Prop):W X M (.link id i j c) st Q=Zpv X M c Q (Ze0 id i j st):=by
 unfold W Zpv
 rw[Zxn]
 cases h:Ze0 id i j st<;>rfl
@[go_sem] theorem W_melt (c:Ze) (st:St) (Q:Ex→St→Prop):W X M (.melt c) st Q=W X M c { sl:=st.sl,hp:=Zjn ZdZ st.hp,nx:=st.nx,m:=st.m } Q:=by
 unfold W
 rw[Zxo];rfl
def LW (c:Ze) (K:List Nat) (st:St) (Q:Ex→St→Prop):Prop:=stW (ZhK X M c K st) fun r=>Q r.1 r.2
@[congr] theorem LW_congr {c:Ze} {K K' : List Nat} {st st' : St} {Q:Ex→St→Prop} (hk:K=K') (h:st=st'):LW X M c K st Q=LW X M c K' st' Q:=by rw[h,hk]
@[go_sem] theorem W_loop (c:Ze) (st:St) (Q:Ex→St→Prop):W X M (.loop c) st Q=LW X M c (ZkN st.sl) st Q:=by
 unfold W LW;rw[Zxp]
def ZsD (c:Ze) (K:List Nat) (Q:Ex→St→Prop):Ex→St→Prop
 | .normal,st=>LW X M c K st Q
 | e,st=>Q e st
@[go_sem] theorem ZB9 (c:Ze) (K:List Nat) (Q:Ex→St→Prop) (st:St):ZsD X M c K Q .normal st=LW X M c K st Q:=rfl
@[go_sem] theorem nextQ_ret (c:Ze) (K:List Nat) (Q:Ex→St→Prop) (st:St):ZsD X M c K Q .ret st=Q .ret st:=rfl
@[go_sem] theorem ZFx (c:Ze) (K:List Nat) (Q:Ex→St→Prop) (id:Nat) (st:St):ZsD X M c K Q (.exit id) st=Q (.exit id) st:=rfl
theorem ZU {c:Ze} {K:List Nat} {st:St} {Q:Ex→St→Prop} (h:W X M c (JL K st) (ZsD X M c K Q)):LW X M c K st Q:=by
 unfold W at h
 cases hv:Q4 X M c (JL K st) with
 | none=>rw[hv] at h;exact h.elim
 | some r=>
  rw[hv] at h
  obtain⟨e,st'⟩:=r
  unfold LW
  cases e with
  | normal=>rw[ZvH X M hv];exact h
  | exit id=>rw[Zp1 X M (by simp) hv];exact h
  | ret=>rw[Zp1 X M (by simp) hv];exact h
def Zvk (sl:Sl):Sl→Sl
 | []=>sl
 | (k,v) :: r=>Zvk (ins sl k v) r
def Zpw (hp:Hp):Hp→Hp
 | []=>hp
 | (k,o) :: r=>Zpw (ins hp k o) r
theorem LW_ind {α:Type} (S:α→St) (I:α→Prop) (μ:α→Nat) {c:Ze} {K:List Nat} {Q:Ex→St→Prop}
  (step:∀ a,I a→(∀ b st,I b→μ b<μ a→JL K st=S b→LW X M c K st Q)→W X M c (S a) (ZsD X M c K Q)) :
  ∀ a st,I a→JL K st=S a→LW X M c K st Q:=by
 have key:∀ n a st,μ a=n→I a→JL K st=S a→LW X M c K st Q:=by
  intro n
  induction n using Nat.strongRecOn with
  | ind n ih=>
   intro a st hn ha hs
   refine ZU X M ?_
   rw[hs]
   exact step a ha fun b st' hb hlt hs'=>ih (μ b) (by omega) b st' rfl hb hs'
 exact fun a st ha hs=>key _ a st rfl ha hs
theorem Zr {α:Type} (u:α→Sl) (uh:α→Hp) (I:α→Prop) (μ:α→Nat) (a:α) {c:Ze} {K:List Nat} {Q:Ex→St→Prop} {st st0:St}
  (hc:JL K st=st0) (ha:I a) (h0:(⟨Zvk st0.sl (u a),Zpw st0.hp (uh a),st0.nx,st0.m⟩:St)=st0)
  (step:∀ a,I a→(∀ b st,I b→μ b<μ a→JL K st=⟨Zvk st0.sl (u b),Zpw st0.hp (uh b),st0.nx,st0.m⟩→LW X M c K st Q)→W X M c ⟨Zvk st0.sl (u a),Zpw st0.hp (uh a),st0.nx,st0.m⟩ (ZsD X M c K Q)) :
  LW X M c K st Q:=
 LW_ind X M (fun a=>⟨Zvk st0.sl (u a),Zpw st0.hp (uh a),st0.nx,st0.m⟩) I μ step a st ha (hc.trans h0.symm)
def ZwX (m:Nat) (rs:List ZrD) (R:AV×List Zt→Prop):Ex→St→Prop:=fun e st=>stW (Zc0 m rs (some (e,st))) R
def resW (m:Nat) (hp:Hp) (R:AV×List Zt→Prop) (vs:Option (List AV)):Prop:=stW vs fun vs=>R (Wp m hp (Zdg vs))
@[go_sem] theorem resW_some (m:Nat) (hp:Hp) (R:AV×List Zt→Prop) (vs:List AV):resW m hp R (some vs)=R (Wp m hp (Zdg vs)):=rfl
@[go_sem] theorem resW_none (m:Nat) (hp:Hp) (R:AV×List Zt→Prop):resW m hp R none=False:=rfl
@[go_sem] theorem endQ_ret (m:Nat) (rs:List ZrD) (R:AV×List Zt→Prop) (st:St):ZwX m rs R .ret st=resW m st.hp R (QV (Zok st) rs):=by
 simp only[ZwX,Zc0,Zdk];rfl
@[go_sem] theorem ZEU (m:Nat) (rs:List ZrD) (R:AV×List Zt→Prop) (st:St):ZwX m rs R .normal st=resW m st.hp R (QV (Zok st) rs):=by
 simp only[ZwX,Zc0,Zdk];rfl
theorem ZsE {f:Nat} {as:List AV} {h:List Zt} (fn:Zz) {R:AV×List Zt→Prop} (hx:X f=some (.text fn)) (hl:as.length≤fn.nt)
  (hr:W X M fn.body { sl:=UI 0 as,hp:=Uu 0 h,nx:=h.length,m:=h.length } (ZwX h.length fn.res R)):∃ r,Zg X M f as h=some r∧R r:=by
 unfold W at hr
 cases hv:Q4 X M fn.body { sl:=UI 0 as,hp:=Uu 0 h,nx:=h.length,m:=h.length } with
 | none=>rw[hv] at hr;exact hr.elim
 | some q=>
  rw[hv] at hr
  obtain⟨e,st⟩:=q
  simp only[JS,ZwX] at hr
  cases hk:Zc0 h.length fn.res (some (e,st)) with
  | none=>rw[hk] at hr;exact hr.elim
  | some r=>rw[hk] at hr;exact⟨r,ZAj X M hx hl (by rw[hv];exact hk),hr⟩
theorem Zd {f:Nat} {as:List AV} {h:List Zt} (fn:Zz) {r:AV×List Zt} (hx:X f=some (.text fn)) (hl:as.length≤fn.nt)
  (hr:W X M fn.body { sl:=UI 0 as,hp:=Uu 0 h,nx:=h.length,m:=h.length } (ZwX h.length fn.res fun q=>q=r)):Zg X M f as h=some r:=by
 obtain⟨q,hq,rfl⟩:=ZsE X M fn hx hl hr
 exact hq
end
@[go_sem] theorem vopE_move (C:Orc) (M:Zu) (sl:Sl) (hp:Hp) (base:Nat) (x:Opd):vop C M sl hp base (.move x)=Qs (evO sl x):=by simp only[vop]
@[go_sem] theorem ZEV (C:Orc) (M:Zu) (sl:Sl) (hp:Hp) (base:Nat) (s:Option Nat) (x:Opd):vop C M sl hp base (.assign s x)=Zew base s (evO sl x):=by simp only[vop]
@[go_sem] theorem vopE_pick (C:Orc) (M:Zu) (sl:Sl) (hp:Hp) (base:Nat) (c a b:Opd):vop C M sl hp base (.pick c a b)=ZgE (evO sl a) (evO sl b) (evO sl c):=by simp only[vop]
@[go_sem] theorem ZFy (C:Orc) (M:Zu) (sl:Sl) (hp:Hp) (base:Nat) (slc:List (Option Nat)) (cs:List AV):vop C M sl hp base (.alloc slc cs)=Zgd slc base cs:=by simp only[vop]
@[go_sem] theorem vopE_box (C:Orc) (M:Zu) (sl:Sl) (hp:Hp) (base:Nat) (x:Opd):vop C M sl hp base (.box x)=Zw3 base (evO sl x):=by simp only[vop]
@[go_sem] theorem ZFz (C:Orc) (M:Zu) (sl:Sl) (hp:Hp) (base:Nat) (zs:List AV) (ps:List (Nat×Nat×Opd)):vop C M sl hp base (.build zs ps)=ZpE zs (evP sl ps):=by simp only[vop]
@[go_sem] theorem ZCa (C:Orc) (M:Zu) (sl:Sl) (hp:Hp) (base:Nat) (s:Nat) (xs:List Opd):vop C M sl hp base (.buildSl s xs)=buildSl hp base s (evL sl xs):=by simp only[vop]
@[go_sem] theorem vopE_load (C:Orc) (M:Zu) (sl:Sl) (hp:Hp) (base:Nat) (g:Bool) (s:Nat) (a:Opd):vop C M sl hp base (.load g s a)=Ut (JU hp g s (evO sl a)):=by simp only[vop]
@[go_sem] theorem ZFA (C:Orc) (M:Zu) (sl:Sl) (hp:Hp) (base:Nat) (slc:List (Option Nat)) (s:Nat) (a x:Opd):vop C M sl hp base (.store slc s a x)=Zhk (ZbR hp slc s base (evO sl x).cells (evO sl a)):=by simp only[vop]
@[go_sem] theorem ZBb (C:Orc) (M:Zu) (sl:Sl) (hp:Hp) (base:Nat) (x:Opd):vop C M sl hp base (.nilCheck x)=ZaX (evO sl x):=by simp only[vop]
@[go_sem] theorem vopE_bin (C:Orc) (M:Zu) (sl:Sl) (hp:Hp) (base:Nat) (op:BinOp) (eq:Bool) (x y:Opd):vop C M sl hp base (.bin op eq x y)=Zfp op eq (evO sl x) (evO sl y):=by simp only[vop]
@[go_sem] theorem vopE_un (C:Orc) (M:Zu) (sl:Sl) (hp:Hp) (base:Nat) (op:UnOp) (x:Opd):vop C M sl hp base (.un op x)=Ut (vun op (evO sl x)):=by simp only[vop]
@[go_sem] theorem vopE_eqA (C:Orc) (M:Zu) (sl:Sl) (hp:Hp) (base:Nat) (neg:Bool) (ks:List Nat) (x y:Opd):vop C M sl hp base (.eqA neg ks x y)=ZrA neg ks (evO sl x) (evO sl y):=by simp only[vop]
@[go_sem] theorem ZFB (C:Orc) (M:Zu) (sl:Sl) (hp:Hp) (base:Nat) (k:IntKind) (x:Opd):vop C M sl hp base (.convI k x)=convI k (evO sl x):=by simp only[vop]
@[go_sem] theorem ZFC (C:Orc) (M:Zu) (sl:Sl) (hp:Hp) (base:Nat) (x:Opd):vop C M sl hp base (.convS x)=convS (evO sl x):=by simp only[vop]
@[go_sem] theorem vopE_fn (C:Orc) (M:Zu) (sl:Sl) (hp:Hp) (base:Nat) (f:Nat) (cs:List Opd):vop C M sl hp base (.fn f cs)=Ut (cloV f (evL sl cs)):=by simp only[vop]
@[go_sem] theorem vopE_make (C:Orc) (M:Zu) (sl:Sl) (hp:Hp) (base:Nat) (s b:Nat) (z:D) (l c:Opd):vop C M sl hp base (.make s b z l c)=bnd (idx (evO sl l)) fun l=>bnd (idx (evO sl c)) fun c=>ZpG base s b z l c:=by simp only[vop]
@[go_sem] theorem ZFD (C:Orc) (M:Zu) (sl:Sl) (hp:Hp) (base:Nat) (s:Nat) (x:Opd) (lo hi:Option Opd):vop C M sl hp base (.slice s x lo hi)=Ut (Us hp s (evM sl lo) (evM sl hi) (evO sl x)):=by simp only[vop]
@[go_sem] theorem ZEW (C:Orc) (M:Zu) (sl:Sl) (hp:Hp) (base:Nat) (x:Opd) (lo hi:Option Opd):vop C M sl hp base (.sliceS x lo hi)=Ut (sliceS (evM sl lo) (evM sl hi) (evO sl x)):=by simp only[vop]
@[go_sem] theorem ZEX (C:Orc) (M:Zu) (sl:Sl) (hp:Hp) (base:Nat) (x hi mx:Opd):vop C M sl hp base (.slice0 x hi mx)=Ut (slice0 hp (evO sl x) (idx (evO sl hi)) (idx (evO sl mx))):=by simp only[vop]
@[go_sem] theorem ZFE (C:Orc) (M:Zu) (sl:Sl) (hp:Hp) (base:Nat) (off:Nat) (x:Opd):vop C M sl hp base (.shift off x)=WN off (evO sl x):=by simp only[vop]
@[go_sem] theorem vopE_part (C:Orc) (M:Zu) (sl:Sl) (hp:Hp) (base:Nat) (g:Bool) (s off:Nat) (x:Opd):vop C M sl hp base (.part g s off x)=Ut (Zlu g s off (evO sl x)):=by simp only[vop]
@[go_sem] theorem vopE_iaS (C:Orc) (M:Zu) (sl:Sl) (hp:Hp) (base:Nat) (s:Nat) (x i:Opd):vop C M sl hp base (.iaS s x i)=bnd (idx (evO sl i)) fun n=>ZhB hp s (evO sl x) n:=by simp only[vop]
@[go_sem] theorem vopE_iaA (C:Orc) (M:Zu) (sl:Sl) (hp:Hp) (base:Nat) (len s:Nat) (x i:Opd):vop C M sl hp base (.iaA len s x i)=bnd (idx (evO sl i)) fun n=>ZnO (evO sl x) n len s:=by simp only[vop]
@[go_sem] theorem vopE_ixS (C:Orc) (M:Zu) (sl:Sl) (hp:Hp) (base:Nat) (x i:Opd):vop C M sl hp base (.ixS x i)=bnd (idx (evO sl i)) fun n=>Zvv n (evO sl x):=by simp only[vop]
@[go_sem] theorem vopE_ixA (C:Orc) (M:Zu) (sl:Sl) (hp:Hp) (base:Nat) (g:Bool) (s len:Nat) (x i:Opd):vop C M sl hp base (.ixA g s len x i)=bnd (idx (evO sl i)) fun n=>Zw5 g s len n (evO sl x):=by simp only[vop]
@[go_sem] theorem vopE_nth (C:Orc) (M:Zu) (sl:Sl) (hp:Hp) (base:Nat) (i:Nat) (x:Opd):vop C M sl hp base (.nth i x)=ZtR i (evO sl x):=by simp only[vop]
@[go_sem] theorem vopE_len (C:Orc) (M:Zu) (sl:Sl) (hp:Hp) (base:Nat) (x:Opd):vop C M sl hp base (.len x)=bnd (ZeR hp (evO sl x)) fun n=>Qs (.d (.int .i64 n)):=by simp only[vop]
@[go_sem] theorem vopE_lenS (C:Orc) (M:Zu) (sl:Sl) (hp:Hp) (base:Nat) (x:Opd):vop C M sl hp base (.lenS x)=bnd (Zyr (evO sl x)) fun n=>Qs (.d (.int .i64 n)):=by simp only[vop]
@[go_sem] theorem ZEY (C:Orc) (M:Zu) (sl:Sl) (hp:Hp) (base:Nat) (s b:Nat) (str flat:Bool) (x y:Opd):vop C M sl hp base (.append s b str flat x y)=ZtS hp s b str flat base (evO sl x) (evO sl y):=by simp only[vop]
@[go_sem] theorem vopE_min (C:Orc) (M:Zu) (sl:Sl) (hp:Hp) (base:Nat) (x y:Opd):vop C M sl hp base (.min x y)=Zlx (evO sl x) (evO sl y):=by simp only[vop]
@[go_sem] theorem vopE_max (C:Orc) (M:Zu) (sl:Sl) (hp:Hp) (base:Nat) (x y:Opd):vop C M sl hp base (.max x y)=Zly (evO sl x) (evO sl y):=by simp only[vop]
@[go_sem] theorem vopE_call (C:Orc) (M:Zu) (sl:Sl) (hp:Hp) (base:Nat) (f:Opd) (as:List Opd):vop C M sl hp base (.call f as)=Zd0 C M hp base (evL sl as) (evO sl f):=by simp only[vop]
@[go_sem] theorem ZEZ (C:Orc) (M:Zu) (sl:Sl) (hp:Hp) (base:Nat) (s:Nat) (x lo hi mx:Opd):vop C M sl hp base (.slice3 s x lo hi mx)=Ut (slice3 hp (evO sl x) (idx (evO sl lo)) (idx (evO sl hi)) (idx (evO sl mx))):=by simp only[vop]
@[go_sem] theorem ZFF (C:Orc) (M:Zu) (sl:Sl) (hp:Hp) (base:Nat) (s:Nat) (z:D) (x:Opd):vop C M sl hp base (.clear s z x)=Zhk (ZeV hp s z (evO sl x)):=by simp only[vop]
@[go_sem] theorem ZCb (C:Orc) (M:Zu) (sl:Sl) (hp:Hp) (base:Nat) (s n:Nat) (xs:List Opd):vop C M sl hp base (.buildDp s n xs)=buildDp hp base s n (evL sl xs):=by simp only[vop]
@[go_sem] theorem ZFG (C:Orc) (M:Zu) (sl:Sl) (hp:Hp) (base:Nat) (s b:Nat) (f:Bool) (x y:Opd):vop C M sl hp base (.appDp s b f x y)=ZrB hp s b base (evO sl x) (evO sl y):=by simp only[vop]
@[go_sem] theorem ZFH (C:Orc) (M:Zu) (sl:Sl) (hp:Hp) (base:Nat) (s n:Nat) (x:Opd):vop C M sl hp base (.asgDp s n x)=asgDp base s n (evO sl x):=by simp only[vop]
@[go_sem] theorem ZFI (C:Orc) (M:Zu) (sl:Sl) (hp:Hp) (base:Nat):vop C M sl hp base .stuck=none:=by simp only[vop]
@[go_sem] theorem ZyU (hp:Hp) (n:Nat) (acc:List Nat):Q0 hp n [] acc=acc:=by cases n<;>rfl
@[go_sem] theorem tidy_d (hp:Hp) (ids:List Nat) (x:D):Zfy hp ids (.d x)=.d x:=rfl
@[go_sem] theorem tidy_nil (hp:Hp) (ids:List Nat):Zfy hp ids .nil=.nil:=rfl
@[go_sem] theorem tidy_junk (hp:Hp) (ids:List Nat):Zfy hp ids .junk=.junk:=rfl
@[go_sem] theorem tidy_tup (hp:Hp) (ids:List Nat) (vs:List AV):Zfy hp ids (.tup vs)=ren (Uy ids) (kill (ZhG hp ids (ZJ (.tup vs))) (.tup vs)):=rfl
@[go_sem] theorem tidy_agg (hp:Hp) (ids:List Nat) (vs:List AV):Zfy hp ids (.agg vs)=ren (Uy ids) (kill (ZhG hp ids (ZJ (.agg vs))) (.agg vs)):=rfl
@[go_sem] theorem tidy_clo (hp:Hp) (ids:List Nat) (f:Nat) (vs:List AV):Zfy hp ids (.clo f vs)=ren (Uy ids) (kill (ZhG hp ids (ZJ (.clo f vs))) (.clo f vs)):=rfl
@[go_sem] theorem tidy_nilp (hp:Hp) (ids:List Nat):Zfy hp ids .nilp=.nilp:=rfl
@[go_sem] theorem tidy_nili (hp:Hp) (ids:List Nat):Zfy hp ids .nili=.nili:=rfl
@[go_sem] theorem tidy_pim (hp:Hp) (ids:List Nat) (cs:List D):Zfy hp ids (.pim cs)=.pim cs:=rfl
@[go_sem] theorem tidy_ptr (hp:Hp) (ids:List Nat) (id o:Nat):Zfy hp ids (.ptr id o)=if ZeZ hp ids id=true then .ptr (Uy ids id) o else .junk:=by
 simp only[Zfy,ZJ,ZK,Zq,ZhG]
 split<;>simp[kill,Z9,Qr,ren,Zhj,Zhi]
@[go_sem] theorem tidy_prow (hp:Hp) (ids:List Nat) (id s i o:Nat):Zfy hp ids (.prow id s i o)=if ZeZ hp ids id=true then .prow (Uy ids id) s i o else .junk:=by
 simp only[Zfy,ZJ,ZK,Zq,ZhG]
 split<;>simp[kill,Z9,Qr,ren,Zhj,Zhi]
@[go_sem] theorem tidy_own (hp:Hp) (ids:List Nat) (id:Nat):Zfy hp ids (.own id)=if ZeZ hp ids id=true then .own (Uy ids id) else .junk:=by
 simp only[Zfy,ZJ,ZK,Zq,ZhG]
 split<;>simp[kill,Z9,Qr,ren,Zhj,Zhi]
@[go_sem] theorem tidy_ownv (hp:Hp) (ids:List Nat) (id a b:Nat):Zfy hp ids (.ownv id a b)=if ZeZ hp ids id=true then .ownv (Uy ids id) a b else .junk:=by
 simp only[Zfy,ZJ,ZK,Zq,ZhG]
 split<;>simp[kill,Z9,Qr,ren,Zhj,Zhi]
@[go_sem] theorem ZFJ (hp:Hp) (x:D):Wp 0 hp (.d x)=(.d x,[]):=by
 simp[Wp,ZJ,ZK,Zq,UC,ZyU,tidy_d,ZdV]
@[go_sem] theorem minI_eq (a b:Int):minI a b=min a b:=by unfold minI;split<;>omega
@[go_sem] theorem maxI_eq (a b:Int):maxI a b=max a b:=by unfold maxI;split<;>omega
@[go_sem] theorem negIf_f (r:Bool):ZpF false r=r:=rfl
@[go_sem] theorem negIf_t (r:Bool):ZpF true r=!r:=rfl
@[go_sem] theorem opt1_some (v:AV):Ut (some v)=Qs v:=rfl
@[go_sem] theorem opt1_none:Ut none=none:=rfl
@[go_sem] theorem vbin_int (op:BinOp) (k k' : IntKind) (a b:Int):vbin op (.d (.int k a)) (.d (.int k' b))=ZaR op k k' a b:=rfl
@[go_sem] theorem binV_int (op:BinOp) (eq:Bool) (k k' : IntKind) (a b:Int):Zfp op eq (.d (.int k a)) (.d (.int k' b))=Ut (ZaR op k k' a b):=rfl
@[go_sem] theorem binV_str (op:BinOp) (eq:Bool) (a b:List UInt8):Zfp op eq (.d (.str a)) (.d (.str b))=Ut (asD (ZuO op a b)):=rfl
@[go_sem] theorem int2_add (k:IntKind) (a b:Int):ZaR .add k k a b=some (.d (.int k (k.wrap (a+b)))):=by simp[ZaR,JP,asD,Zj]
@[go_sem] theorem int2_sub (k:IntKind) (a b:Int):ZaR .sub k k a b=some (.d (.int k (k.wrap (a-b)))):=by simp[ZaR,JP,asD,Zj]
@[go_sem] theorem int2_mul (k:IntKind) (a b:Int):ZaR .mul k k a b=some (.d (.int k (k.wrap (a*b)))):=by simp[ZaR,JP,asD,Zj]
@[go_sem] theorem int2_quo (k:IntKind) (a b:Int):ZaR .quo k k a b=if b=0 then none else some (.d (.int k (k.wrap (a.tdiv b)))):=by simp only[ZaR,JP,asD,if_true];split<;>rfl
@[go_sem] theorem int2_rem (k:IntKind) (a b:Int):ZaR .rem k k a b=if b=0 then none else some (.d (.int k (a.tmod b))):=by simp only[ZaR,JP,asD,if_true];split<;>rfl
@[go_sem] theorem int2_eql (k:IntKind) (a b:Int):ZaR .eql k k a b=some (.d (.bool (decide (a=b)))):=by simp[ZaR,JP,asD,Zj,BEq.beq]
@[go_sem] theorem int2_neq (k:IntKind) (a b:Int):ZaR .neq k k a b=some (.d (.bool (!decide (a=b)))):=by simp[ZaR,JP,asD,Zj,bne,BEq.beq]
@[go_sem] theorem int2_lss (k:IntKind) (a b:Int):ZaR .lss k k a b=some (.d (.bool (decide (a<b)))):=by simp[ZaR,JP,asD,Zj]
@[go_sem] theorem int2_leq (k:IntKind) (a b:Int):ZaR .leq k k a b=some (.d (.bool (decide (a≤b)))):=by simp[ZaR,JP,asD,Zj]
@[go_sem] theorem int2_gtr (k:IntKind) (a b:Int):ZaR .gtr k k a b=some (.d (.bool (decide (b<a)))):=by simp[ZaR,JP,asD,Zj]
@[go_sem] theorem int2_geq (k:IntKind) (a b:Int):ZaR .geq k k a b=some (.d (.bool (decide (b≤a)))):=by simp[ZaR,JP,asD,Zj]
@[go_sem] theorem guardV_t (b:Bool):Zgi true (.d (.bool b))=some b:=by cases b<;>rfl
def nb (b:Bool):Bool:=!b
@[go_sem] theorem nb_true:nb true=false:=rfl
@[go_sem] theorem nb_false:nb false=true:=rfl
@[go_sem] theorem nb_eq (b:Bool):(nb b=true)=(b=false):=by cases b<;>simp[nb]
@[go_sem] theorem guardV_f (b:Bool):Zgi false (.d (.bool b))=some (nb b):=by cases b<;>rfl
@[go_sem] theorem ZFK (w:Bool):Zgi w (.tup [])=some false:=rfl
@[go_sem] theorem ZCc (a b:Bool):Zgi true (Zjo a (.d (.bool b)))=some (a&&b):=by cases a<;>cases b<;>rfl
@[go_sem] theorem ZCd (a b:Bool):Zgi false (Zjo a (.d (.bool b)))=some (a&&nb b):=by cases a<;>cases b<;>rfl
@[go_sem] theorem iteV_true (v:AV):Zjo true v=v:=rfl
@[go_sem] theorem ZFL (v:AV):Zjo false v=.tup []:=rfl
@[go_sem] theorem ZFM (a b:AV):ZgE a b (.d (.bool true))=Qs a:=rfl
@[go_sem] theorem ZE0 (a b:AV):ZgE a b (.d (.bool false))=Qs b:=rfl
@[go_sem] theorem pickV_or (b c:Bool):ZgE (.d (.bool true)) (Zjo (nb b) (.d (.bool c))) (.d (.bool b))=Qs (.d (.bool (b || c))):=by cases b<;>rfl
@[go_sem] theorem pickV_and (b c:Bool):ZgE (Zjo b (.d (.bool c))) (.d (.bool false)) (.d (.bool b))=Qs (.d (.bool (b&&c))):=by cases b<;>rfl
theorem ZFN (a b:AV) (t:Bool):ZgE a b (.d (.bool t))=if t=true then Qs a else Qs b:=by cases t<;>rfl
@[go_sem] theorem dec_or (p q:Prop) [Decidable p] [Decidable q]:(decide p || decide q)=decide (p∨q):=by simp
@[go_sem] theorem dec_and (p q:Prop) [Decidable p] [Decidable q]:(decide p&&decide q)=decide (p∧q):=by simp
@[go_sem] theorem dec_not (p:Prop) [Decidable p]:(!decide p)=decide (¬p):=by simp
attribute [go_sem] Bool.or_eq_false_iff decide_eq_true_eq decide_eq_false_iff_not Bool.and_eq_true Bool.or_eq_true Bool.not_eq_true' Bool.not_eq_false' not_or Decidable.not_not
@[go_sem] theorem evO_t (sl:Sl) (n:Nat):evO sl (.t n)=gs sl n:=rfl
@[go_sem] theorem evO_v (sl:Sl) (a:AV):evO sl (.v a)=a:=rfl
@[go_sem] theorem evO_f (sl:Sl) (n:Nat):evO sl (.f n)=.clo n []:=rfl
@[go_sem] theorem gs_hit (k:Nat) (v:AV) (r:Sl):gs ((k,v) :: r) k=v:=by simp[gs,lkp,ZeQ]
@[go_sem] theorem gs_cons (k t:Nat) (v:AV) (r:Sl):gs ((k,v) :: r) t=if k=t then v else gs r t:=by
 by_cases h:k=t<;>simp[gs,lkp,h,ZeQ]
@[go_sem] theorem gs_nil (t:Nat):gs [] t=.junk:=rfl
attribute [go_sem] Zjl.eq_1 Zjl.eq_2
attribute [go_sem] Zcv.eq_1 Zcv.eq_2 Zcv.eq_3
attribute [go_sem] Zoi.eq_1 Zoi.eq_2 Zoi.eq_3
attribute [go_sem] ZcV.eq_1 ZcV.eq_2
attribute [go_sem] St.hp.eq_1
attribute [go_sem] Zda.eq_1 Zda.eq_2 Zda.eq_3
attribute [go_sem] ZeQ.eq_1 ZeQ.eq_2
attribute [go_sem] agg2.eq_1 agg2.eq_2 agg2.eq_3
attribute [go_sem] ins.eq_1 ins.eq_2
attribute [go_sem] Zf1.eq_1 Zf1.eq_2
attribute [go_sem] St.m.eq_1
attribute [go_sem] bnd.eq_1 bnd.eq_2
attribute [go_sem] ZaQ.eq_1 ZaQ.eq_2 ZaQ.eq_3
attribute [go_sem] ZuO.eq_1 ZuO.eq_2 ZuO.eq_3 ZuO.eq_4
attribute [go_sem] AV.cells.eq_1 AV.cells.eq_2 AV.cells.eq_3 AV.cells.eq_4 AV.cells.eq_5 AV.cells.eq_6 AV.cells.eq_7 AV.cells.eq_8 AV.cells.eq_9 AV.cells.eq_10 AV.cells.eq_11 AV.cells.eq_12 AV.cells.eq_13 AV.cells.eq_14
attribute [go_sem] Qr.eq_1 Qr.eq_2 Qr.eq_3 Qr.eq_4 Qr.eq_5 Qr.eq_6
attribute [go_sem] AV.solid.eq_1 AV.solid.eq_2 AV.solid.eq_3
attribute [go_sem] Uw.eq_1 Uw.eq_2
attribute [go_sem] QV.eq_1 QV.eq_2
attribute [go_sem] ZiR.eq_1 ZiR.eq_2
attribute [go_sem] Zc9.eq_1
attribute [go_sem] ZeR.eq_1 ZeR.eq_2 ZeR.eq_3 ZeR.eq_4 ZeR.eq_5
attribute [go_sem] Zhn.eq_1 Zhn.eq_2
attribute [go_sem] D.flat.eq_1
attribute [go_sem] give.eq_1 give.eq_2
attribute [go_sem] D.beq1.eq_1 D.beq1.eq_2 D.beq1.eq_3 D.beq1.eq_4
attribute [go_sem] Zhi.eq_1 Zhi.eq_2 Zhi.eq_3 Zhi.eq_4 Zhi.eq_5 Zhi.eq_6
attribute [go_sem] not1.eq_1 not1.eq_2
attribute [go_sem] YB.eq_1 YB.eq_2 YB.eq_3
attribute [go_sem] St.nx.eq_1
attribute [go_sem] ZK.eq_1 ZK.eq_2 ZK.eq_3
attribute [go_sem] Zhj.eq_1 Zhj.eq_2 Zhj.eq_3
attribute [go_sem] Zla.eq_1 Zla.eq_2
attribute [go_sem] vun.eq_1 vun.eq_2 vun.eq_3
attribute [go_sem] toD.eq_1 toD.eq_2
attribute [go_sem] Zq.eq_1 Zq.eq_2 Zq.eq_3 Zq.eq_4 Zq.eq_5 Zq.eq_6 Zq.eq_7 Zq.eq_8 Zq.eq_9 Zq.eq_10 Zq.eq_11 Zq.eq_12 Zq.eq_13 Zq.eq_14
attribute [go_sem] D.plain.eq_1 D.plain.eq_2 D.plain.eq_3 D.plain.eq_4 D.plain.eq_5
attribute [go_sem] Qp.eq_1
attribute [go_sem] Z9.eq_1 Z9.eq_2 Z9.eq_3
attribute [go_sem] ZiQ.eq_1 ZiQ.eq_2
attribute [go_sem] ZJ.eq_1 ZJ.eq_2
attribute [go_sem] Zwv.eq_1
attribute [go_sem] Zjn.eq_1 Zjn.eq_2
attribute [go_sem] Zdb.eq_1 Zdb.eq_2 Zdb.eq_3 Zdb.eq_4
attribute [go_sem] St.sl.eq_1
attribute [go_sem] Zyr.eq_1 Zyr.eq_2
attribute [go_sem] Jg.eq_1 Jg.eq_2
attribute [go_sem] Zf0.eq_1 Zf0.eq_2
attribute [go_sem] ren.eq_1 ren.eq_2
attribute [go_sem] kill.eq_1 kill.eq_2
attribute [go_sem] lkp.eq_1 lkp.eq_2
attribute [go_sem] Zsm.eq_1 Zsm.eq_2 Zsm.eq_3
attribute [go_sem] Wl.eq_1 Wl.eq_2
attribute [go_sem] beqL.eq_1 beqL.eq_2 beqL.eq_3
attribute [go_sem] D.cells.eq_1 D.cells.eq_2 D.cells.eq_3 D.cells.eq_4 D.cells.eq_5
attribute [go_sem] Zo3.eq_1 Zo3.eq_2
attribute [go_sem] Zsl.eq_1 Zsl.eq_2
attribute [go_sem] neg1.eq_1 neg1.eq_2
attribute [go_sem] Zmz.eq_1 Zmz.eq_2 Zmz.eq_3
attribute [go_sem] WM.eq_1 WM.eq_2 WM.eq_3
attribute [go_sem] asD.eq_1
attribute [go_sem] JP.eq_1 JP.eq_2 JP.eq_3 JP.eq_4 JP.eq_5 JP.eq_6 JP.eq_7 JP.eq_8 JP.eq_9 JP.eq_10 JP.eq_11 JP.eq_12 JP.eq_13 JP.eq_14 JP.eq_15 JP.eq_16 JP.eq_17
attribute [go_sem] Zjm.eq_1 Zjm.eq_2 Zjm.eq_3 Zjm.eq_4 Zjm.eq_5
attribute [go_sem] D.one.eq_1 D.one.eq_2 D.one.eq_3 D.one.eq_4 D.one.eq_5
attribute [go_sem] freeze.eq_1 freeze.eq_2
attribute [go_sem] ZeU.eq_1
attribute [go_sem] loOf.eq_1 loOf.eq_2
attribute [go_sem] Eff.on.eq_1
attribute [go_sem] Zcj.eq_1 Zcj.eq_2
attribute [go_sem] cloV.eq_1
attribute [go_sem] slice0.eq_1 slice0.eq_2
attribute [go_sem] evM.eq_1 evM.eq_2
attribute [go_sem] hiOf.eq_1 hiOf.eq_2
attribute [go_sem] Zlu.eq_1 Zlu.eq_2 Zlu.eq_3
attribute [go_sem] Zya.eq_1
attribute [go_sem] idx.eq_1 idx.eq_2
attribute [go_sem] Us.eq_1 Us.eq_2 Us.eq_3 Us.eq_4 Us.eq_5
attribute [go_sem] Zcy.eq_1 Zcy.eq_2 Zcy.eq_3
attribute [go_sem] Qv.eq_1 Qv.eq_2
attribute [go_sem] D.notSl.eq_1 D.notSl.eq_2
attribute [go_sem] ZAa.eq_1 ZAa.eq_2
attribute [go_sem] ZdW.eq_1 ZdW.eq_2 ZdW.eq_3 ZdW.eq_4 ZdW.eq_5 ZdW.eq_6
attribute [go_sem] CO.guard.eq_1
attribute [go_sem] Zhk.eq_1
attribute [go_sem] ZaV.eq_1
attribute [go_sem] ZdS.eq_1 ZdS.eq_2
attribute [go_sem] Zlt.eq_1
attribute [go_sem] Eff.adds.eq_1
attribute [go_sem] Uy.eq_1 Uy.eq_2
attribute [go_sem] Zi.eq_1 Zi.eq_2
attribute [go_sem] Zf.eff.eq_1
attribute [go_sem] ZhA.eq_1 ZhA.eq_2
attribute [go_sem] Zvv.eq_1 Zvv.eq_2
attribute [go_sem] ZmL.eq_1 ZmL.eq_2 ZmL.eq_3
attribute [go_sem] del.eq_1 del.eq_2
attribute [go_sem] ZpE.eq_1
attribute [go_sem] ZtO.eq_1 ZtO.eq_2
attribute [go_sem] ZbS.eq_1 ZbS.eq_2
attribute [go_sem] Zly.eq_1 Zly.eq_2
attribute [go_sem] ZaX.eq_1 ZaX.eq_2 ZaX.eq_3 ZaX.eq_4 ZaX.eq_5
attribute [go_sem] Zgd.eq_1
attribute [go_sem] slice3.eq_1
attribute [go_sem] ZdU.eq_1 ZdU.eq_2
attribute [go_sem] args.eq_1 args.eq_2
attribute [go_sem] ZkI.eq_1 ZkI.eq_2
attribute [go_sem] Zlx.eq_1 Zlx.eq_2
attribute [go_sem] ZcX.eq_1 ZcX.eq_2
attribute [go_sem] Zev.eq_1
attribute [go_sem] Zex.deepRow.eq_1 Zex.deepRow.eq_2
attribute [go_sem] Zi1.eq_1 Zi1.eq_2
attribute [go_sem] Zlw.eq_1
attribute [go_sem] evL.eq_1 evL.eq_2
attribute [go_sem] Zck.eq_1 Zck.eq_2 Zck.eq_3
attribute [go_sem] ZdV.eq_1 ZdV.eq_2
attribute [go_sem] ZpD.eq_1 ZpD.eq_2
attribute [go_sem] Eff.sets.eq_1
attribute [go_sem] ZeX.eq_1 ZeX.eq_2 ZeX.eq_3
attribute [go_sem] Zfk.eq_1
attribute [go_sem] Zhz.eq_1 Zhz.eq_2
attribute [go_sem] ZbR.eq_1 ZbR.eq_2 ZbR.eq_3
attribute [go_sem] Zw5.eq_1
attribute [go_sem] ZrB.eq_1
attribute [go_sem] WO.eq_1 WO.eq_2
attribute [go_sem] ZmM.eq_1 ZmM.eq_2
attribute [go_sem] Zd1.eq_1 Zd1.eq_2
attribute [go_sem] ZpG.eq_1
attribute [go_sem] buildDp.eq_1 buildDp.eq_2
attribute [go_sem] AV.atom.eq_1 AV.atom.eq_2 AV.atom.eq_3 AV.atom.eq_4 AV.atom.eq_5
attribute [go_sem] ZtS.eq_1
attribute [go_sem] Eff.dels.eq_1
attribute [go_sem] Zeu.eq_1 Zeu.eq_2 Zeu.eq_3
attribute [go_sem] mat.eq_1 mat.eq_2 mat.eq_3
attribute [go_sem] ZZ.eq_1
attribute [go_sem] ZdY.eq_1 ZdY.eq_2
attribute [go_sem] Zvs.eq_1 Zvs.eq_2
attribute [go_sem] ZtQ.eq_1
attribute [go_sem] Zw3.eq_1
attribute [go_sem] Ji.eq_1
attribute [go_sem] QQ.eq_1 QQ.eq_2 QQ.eq_3 QQ.eq_4
attribute [go_sem] Zw4.eq_1
attribute [go_sem] Zfl.eq_1 Zfl.eq_2
attribute [go_sem] Zvx.eq_1 Zvx.eq_2
attribute [go_sem] Zhy.eq_1 Zhy.eq_2 Zhy.eq_3 Zhy.eq_4
attribute [go_sem] ZkH.eq_1 ZkH.eq_2
attribute [go_sem] Zgc.eq_1 Zgc.eq_2
attribute [go_sem] Zfn.eq_1 Zfn.eq_2 Zfn.eq_3 Zfn.eq_4 Zfn.eq_5
attribute [go_sem] ZtP.eq_1 ZtP.eq_2
attribute [go_sem] Zey.eq_1 Zey.eq_2
attribute [go_sem] convS.eq_1 convS.eq_2
attribute [go_sem] Zi2.eq_1 Zi2.eq_2
attribute [go_sem] CO.tl.eq_1
attribute [go_sem] We.eq_1 We.eq_2 We.eq_3
attribute [go_sem] CO.dst.eq_1
attribute [go_sem] Zw6.eq_1 Zw6.eq_2 Zw6.eq_3
attribute [go_sem] Zhx.eq_1
attribute [go_sem] ZkJ.eq_1 ZkJ.eq_2
attribute [go_sem] Zex.eq_1 Zex.eq_2 Zex.eq_3 Zex.eq_4
attribute [go_sem] Zlv.eq_1 Zlv.eq_2
attribute [go_sem] Zdn.eq_1 Zdn.eq_2 Zdn.eq_3
attribute [go_sem] ZsQ.eq_1
attribute [go_sem] Eff.val.eq_1
attribute [go_sem] sliceS.eq_1 sliceS.eq_2
attribute [go_sem] VX.eq_1 VX.eq_2 VX.eq_3
attribute [go_sem] buildSl.eq_1 buildSl.eq_2
attribute [go_sem] JU.eq_1 JU.eq_2 JU.eq_3 JU.eq_4
attribute [go_sem] ZbJ.eq_1 ZbJ.eq_2 ZbJ.eq_3 ZbJ.eq_4 ZbJ.eq_5
attribute [go_sem] ZnN.eq_1 ZnN.eq_2
attribute [go_sem] ZnO.eq_1
attribute [go_sem] evP.eq_1 evP.eq_2
attribute [go_sem] ZdZ.eq_1 ZdZ.eq_2
attribute [go_sem] Zde.eq_1
attribute [go_sem] Zfm.eq_1
attribute [go_sem] ZsP.eq_1 ZsP.eq_2
attribute [go_sem] ZpF.eq_1
attribute [go_sem] UG.eq_1
attribute [go_sem] Zvw.eq_1
attribute [go_sem] ZdT.eq_1 ZdT.eq_2
attribute [go_sem] ZaU.eq_1 ZaU.eq_2
attribute [go_sem] Zd0.eq_1 Zd0.eq_2
attribute [go_sem] asgDp.eq_1 asgDp.eq_2
attribute [go_sem] ZkG.eq_1 ZkG.eq_2 ZkG.eq_3
attribute [go_sem] Zvt.eq_1 Zvt.eq_2
attribute [go_sem] CO.op.eq_1
attribute [go_sem] Zew.eq_1 Zew.eq_2
attribute [go_sem] ZeV.eq_1 ZeV.eq_2
attribute [go_sem] Zy1.eq_1 Zy1.eq_2
attribute [go_sem] ZtR.eq_1 ZtR.eq_2
attribute [go_sem] ZeW.eq_1 ZeW.eq_2 ZeW.eq_3 ZeW.eq_4 ZeW.eq_5 ZeW.eq_6 ZeW.eq_7 ZeW.eq_8 ZeW.eq_9
attribute [go_sem] ZaW.eq_1
attribute [go_sem] WN.eq_1 WN.eq_2 WN.eq_3 WN.eq_4
attribute [go_sem] Eff.frz.eq_1
attribute [go_sem] Ql.eq_1 Ql.eq_2
attribute [go_sem] Zi0.eq_1 Zi0.eq_2
attribute [go_sem] Zf.gone.eq_1
attribute [go_sem] meltIn.eq_1 meltIn.eq_2
attribute [go_sem] ZhB.eq_1
attribute [go_sem] Zvu.eq_1 Zvu.eq_2
attribute [go_sem] convI.eq_1 convI.eq_2
attribute [go_sem] ZoV.eq_1 ZoV.eq_2
attribute [go_sem] bd.eq_1
attribute [go_sem] ZdX.eq_1 ZdX.eq_2
attribute [go_sem] YD.eq_1
attribute [go_sem] Zfo.eq_1 Zfo.eq_2
attribute [go_sem] ZrA.eq_1 ZrA.eq_2
attribute [go_sem] Zyf.eq_1 Zyf.eq_2
attribute [go_sem] ZT.eq_1 ZT.eq_2 ZT.eq_3 ZT.eq_4 ZT.eq_5 ZT.eq_6 ZT.eq_7 ZT.eq_8 ZT.eq_9 ZT.eq_10 ZT.eq_11 ZT.eq_12 ZT.eq_13 ZT.eq_14 ZT.eq_15 ZT.eq_16 ZT.eq_17 ZT.eq_18 ZT.eq_19 ZT.eq_20 ZT.eq_21 ZT.eq_22 ZT.eq_23 ZT.eq_24 ZT.eq_25 ZT.eq_26 ZT.eq_27 ZT.eq_28 ZT.eq_29 ZT.eq_30 ZT.eq_31 ZT.eq_32 ZT.eq_33 ZT.eq_34 ZT.eq_35 ZT.eq_36 ZT.eq_37 ZT.eq_38 ZT.eq_39
attribute [go_sem] ZaD.eq_1 ZaD.eq_2 ZaD.eq_3 ZaD.eq_4 ZaD.eq_5
attribute [go_sem] ZhH.eq_1
attribute [go_sem] Zt4.eq_1 Zt4.eq_2
attribute [go_sem] Zdg.eq_1 Zdg.eq_2
attribute [go_sem] Ze0.eq_1
attribute [go_sem] ZhE.eq_1 ZhE.eq_2 ZhE.eq_3 ZhE.eq_4 ZhE.eq_5
attribute [go_sem] Zaq.eq_1 Zaq.eq_2
attribute [go_sem] ZpZ.eq_1 ZpZ.eq_2
attribute [go_sem] XM.eq_1 XM.eq_2
attribute [go_sem] only.eq_1 only.eq_2
attribute [go_sem] Zxf.eq_1 Zxf.eq_2
attribute [go_sem] ZhF.eq_1 ZhF.eq_2
attribute [go_sem] UI.eq_1 UI.eq_2
attribute [go_sem] okL.eq_1 okL.eq_2
attribute [go_sem] okC.eq_1 okC.eq_2 okC.eq_3 okC.eq_4 okC.eq_5 okC.eq_6 okC.eq_7 okC.eq_8 okC.eq_9 okC.eq_10
attribute [go_sem] ZoX.eq_1 ZoX.eq_2
attribute [go_sem] ZkN.eq_1 ZkN.eq_2
attribute [go_sem] Zgj.eq_1 Zgj.eq_2 Zgj.eq_3
attribute [go_sem] Zi9.eq_1 Zi9.eq_2
attribute [go_sem] ZhG.eq_1 ZhG.eq_2
attribute [go_sem] X9.eq_1 X9.eq_2
attribute [go_sem] Zw.eq_1 Zw.eq_2
attribute [go_sem] W9.eq_1 W9.eq_2 W9.eq_3
attribute [go_sem] ZlF.eq_1
attribute [go_sem] Uu.eq_1 Uu.eq_2
attribute [go_sem] Za4.eq_1 Za4.eq_2
attribute [go_sem] CO.starts.eq_1
attribute [go_sem] Wj.eq_1 Wj.eq_2
attribute [go_sem] Q8.eq_1 Q8.eq_2
attribute [go_sem] Zye.eq_1 Zye.eq_2
attribute [go_sem] Zm1.eq_1
attribute [go_sem] Zgl.eq_1 Zgl.eq_2
attribute [go_sem] UC.eq_1 UC.eq_2
attribute [go_sem] ZeZ.eq_1
attribute [go_sem] Zz.body.eq_1
attribute [go_sem] ZkO.eq_1 ZkO.eq_2
attribute [go_sem] Zap.eq_1 Zap.eq_2 Zap.eq_3 Zap.eq_4 Zap.eq_5 Zap.eq_6
attribute [go_sem] Zz.res.eq_1
attribute [go_sem] Wo.eq_1 Wo.eq_2
attribute [go_sem] VA.eq_1 VA.eq_2 VA.eq_3 VA.eq_4 VA.eq_5 VA.eq_6 VA.eq_7 VA.eq_8 VA.eq_9 VA.eq_10 VA.eq_11 VA.eq_12
attribute [go_sem] Zok.eq_1 Zok.eq_2
attribute [go_sem] Zcz.eq_1 Zcz.eq_2
attribute [go_sem] Zz.nt.eq_1
attribute [go_sem] okD.eq_1 okD.eq_2
attribute [go_sem] ZrA.eq_1 ZbJ.eq_1 ZbJ.eq_2 ZbJ.eq_3 ZbJ.eq_4
attribute [go_sem] JL.eq_1 Zd6.eq_1 Zd6.eq_2 Zd6.eq_3 Zd6.eq_4 Zd6.eq_5 Zd6.eq_6 Zd6.eq_7 Zd6.eq_8 Zd6.eq_9 Zd6.eq_10 Wp.eq_1
attribute [go_sem] Q0.eq_3 XL.eq_1 AV.atom.eq_1 AV.atom.eq_2 AV.atom.eq_3 AV.atom.eq_4
attribute [go_sem] Zvk.eq_1 Zvk.eq_2 Zpw.eq_1 Zpw.eq_2
attribute [go_sem] Zj ZzH ZBP
attribute [go_sem] List.map_cons List.map_nil List.flatMap_cons List.flatMap_nil List.append_nil List.nil_append List.cons_append List.length_cons List.length_nil List.all_cons List.all_nil List.any_cons List.any_nil List.contains_cons List.contains_nil List.filter_cons List.filter_nil List.drop_zero List.drop_succ_cons List.drop_nil List.take_zero List.take_succ_cons List.take_nil List.getElem?_cons_zero List.getElem?_cons_succ List.getElem?_nil Option.map_some Option.map_none Bool.and_true Bool.true_and Bool.and_false Bool.false_and Bool.or_true Bool.true_or Bool.or_false Bool.false_or Bool.not_true Bool.not_false decide_true decide_false and_true true_and and_false false_and not_true not_false_eq_true or_true true_or or_false false_or if_true if_false true_implies false_implies implies_true imp_self eq_self ne_eq beq_self_eq_true Bool.true_eq_false Bool.false_eq_true List.isEmpty_nil List.isEmpty_cons List.range_zero List.set_cons_zero List.set_cons_succ Option.some.injEq reduceCtorEq Nat.reduceLeDiff
def Zpx (hp:Hp):List Nat→List Nat
 | []=>[]
 | i :: r=>if We (lkp hp i)=true then i :: Zpx hp r else Zpx hp r
theorem gE (hp:Hp) (ids:List Nat):(ids.filter fun i=>We (lkp hp i))=Zpx hp ids:=by
 induction ids with
 | nil=>rfl
 | cons i r ih=>simp only[List.filter_cons,Zpx,ih]
def ZsF (hp:Hp) (rs:List Nat):List Nat→Bool
 | []=>true
 | i :: r=>(We (lkp hp i) || rs.contains i)&&ZsF hp rs r
def ZsG (hp:Hp):List Nat→Bool
 | []=>false
 | i :: r=>ZcX (lkp hp i) || ZsG hp r
theorem gG (hp:Hp) (ids:List Nat):(ids.any fun i=>ZcX (lkp hp i))=ZsG hp ids:=by
 induction ids with
 | nil=>rfl
 | cons i r ih=>simp only[List.any_cons,ZsG,ih]
attribute [go_sem] ZsG.eq_1 ZsG.eq_2
@[go_sem] theorem appTo_nil (hp:Hp) (s b:Nat) (str flat:Bool) (base:Nat) (y:AV):Zfq hp s b str flat base y .nil=WO hp s b str flat base .nil y ([]++Vp hp y):=rfl
@[go_sem] theorem appTo_own (hp:Hp) (s b:Nat) (str flat:Bool) (base:Nat) (y:AV) (k:Nat):Zfq hp s b str flat base y (.own k)=WO hp s b str flat base (.own k) y ((if ZcX (lkp hp k)=true then [k] else [])++Vp hp y):=rfl
@[go_sem] theorem ZFO (hp:Hp) (s b:Nat) (str flat:Bool) (base:Nat) (y:AV) (k o n:Nat):Zfq hp s b str flat base y (.ownv k o n)=WO hp s b str flat base (.ownv k o n) y ([]++Vp hp y):=rfl
@[go_sem] theorem deepId_d (hp:Hp) (x:D):Vp hp (.d x)=[]:=rfl
@[go_sem] theorem ZFP (hp:Hp):Vp hp .nil=[]:=rfl
@[go_sem] theorem ZE1 (hp:Hp) (k o n:Nat):Vp hp (.ownv k o n)=[]:=rfl
@[go_sem] theorem ZFQ (hp:Hp) (k:Nat):Vp hp (.own k)=if ZcX (lkp hp k)=true then [k] else []:=rfl
@[go_sem] theorem appTo_sub (hp:Hp) (s b:Nat) (str flat:Bool) (base:Nat) (y:AV) (id nm:Nat):Zfq hp s b str flat base y (.sub id nm)=if str then none else bnd (Zfn hp true y) fun q=>if (Zda y).contains id then none else ZkJ s b base id nm q (lkp hp id):=rfl
theorem gF (hp:Hp) (rs ids:List Nat):Zdm hp rs ids=ZsF hp rs ids:=by
 induction ids with
 | nil=>rfl
 | cons i r ih=>simp only[Zdm,List.all_cons,ZsF] at ih ⊢;rw[ih]
attribute [go_sem] Zpx.eq_1 Zpx.eq_2 ZsF.eq_1 ZsF.eq_2
@[go_sem] theorem okV_d (x:D):okV (.d x)=true:=rfl
@[go_sem] theorem okV_nil:okV .nil=true:=rfl
@[go_sem] theorem okV_nilp:okV .nilp=true:=rfl
@[go_sem] theorem okV_nili:okV .nili=true:=rfl
@[go_sem] theorem okV_ptr (a b:Nat):okV (.ptr a b)=true:=rfl
@[go_sem] theorem okV_prow (a b c e:Nat):okV (.prow a b c e)=true:=rfl
@[go_sem] theorem okV_pim (cs:List D):okV (.pim cs)=true:=rfl
@[go_sem] theorem okV_own (a:Nat):okV (.own a)=true:=rfl
@[go_sem] theorem okV_ownv (a b c:Nat):okV (.ownv a b c)=true:=rfl
@[go_sem] theorem okV_agg (cs:List AV):okV (.agg cs)=Zt4 cs:=rfl
@[go_sem] theorem okV_tup0:okV (.tup [])=true:=rfl
@[go_sem] theorem ZE2 (sl:Sl) (a:COp) (k:Nat):seenSrc sl a (.own k)=X9 sl k (ZT a):=rfl
@[go_sem] theorem seenSrc_d (sl:Sl) (a:COp) (x:D):seenSrc sl a (.d x)=true:=rfl
@[go_sem] theorem ZE3 (sl:Sl) (a:COp):seenSrc sl a .nil=true:=rfl
@[go_sem] theorem ZCe (sl:Sl) (a:COp) (x y z:Nat):seenSrc sl a (.ownv x y z)=true:=rfl
@[go_sem] theorem okV_iteV (b:Bool) (v:AV):okV (Zjo b v)=(!b || okV v):=by cases b<;>simp[Zjo,okV]
@[go_sem] theorem awayV_d (sl:Sl) (xs:List Opd) (x:D):Zd7 sl xs (.d x)=true:=rfl
@[go_sem] theorem awayV_nil (sl:Sl) (xs:List Opd):Zd7 sl xs .nil=true:=rfl
@[go_sem] theorem ZFR (sl:Sl) (xs:List Opd):Zd7 sl xs .nilp=true:=rfl
@[go_sem] theorem awayV_ptr (sl:Sl) (xs:List Opd) (k o:Nat):Zd7 sl xs (.ptr k o)=X9 sl k xs:=rfl
@[go_sem] theorem awayV_pim (sl:Sl) (xs:List Opd) (cs:List D):Zd7 sl xs (.pim cs)=true:=rfl
@[go_sem] theorem awayV_own (sl:Sl) (xs:List Opd) (a:Nat):Zd7 sl xs (.own a)=true:=rfl
@[go_sem] theorem ZFS (sl:Sl) (xs:List Opd) (a b c:Nat):Zd7 sl xs (.ownv a b c)=true:=rfl
@[go_sem] theorem awayV_agg (sl:Sl) (xs:List Opd) (cs:List AV):Zd7 sl xs (.agg cs)=true:=rfl
@[go_sem] theorem awayV_tup (sl:Sl) (xs:List Opd) (cs:List AV):Zd7 sl xs (.tup cs)=true:=rfl
end Go.Abs.E
