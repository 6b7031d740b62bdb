/- The abstract semantics as rewriting rules: what must hold for a code to come to a state of which something is true. Own text. -/
import Derived.Test.YtpobhkoombldlaaGreatAbsRun
set_option linter.unusedVariables false
set_option linter.unusedSimpArgs false
namespace Go.Abs.E
open Go Go.Abs
abbrev _root_.Go.Abs.Opd.i (n:Int):Opd:=.v (.d (.int .i64 n))
abbrev _root_.Go.Abs.Opd.b (x:Bool):Opd:=.v (.d (.bool x))
def stW {α:Type} (x:Option α) (K:α→Prop):Prop:=match x with
 | some a=>K a
 | none=>False
def gW (x:Option Bool) (A B:Prop):Prop:=match x with
 | some b=>(b=true→A)∧(b=false→B)
 | none=>False
def J4 (v:AV) (A B:Prop):Prop:=match v with
 | .d (.bool t)=>(t=true→A)∧(t=false→B)
 | _=>False
theorem Zad {α:Type} (a:α) (K:α→Prop):stW (some a) K=K a:=rfl
theorem Zme {α:Type} (K:α→Prop):stW none K=False:=rfl
theorem Zfk {α β:Type} (x:Option α) (f:α→Option β) (K:β→Prop):stW (bnd x f) K=stW x fun a=>stW (f a) K:=by cases x<;>rfl
@[go_sem] theorem Zyf (A B:Prop):gW (some true) A B=A:=by simp[gW]
@[go_sem] theorem gW_false (A B:Prop):gW (some false) A B=B:=by simp[gW]
@[go_sem] theorem gW_dec (p:Prop) [Decidable p] (A B:Prop):gW (some (decide p)) A B=((p→A)∧(¬p→B)):=by simp[gW]
@[go_sem] theorem gW_not (b:Bool) (A B:Prop):gW (some (!b)) A B=gW (some b) B A:=by cases b<;>simp[gW]
theorem gW_some (b:Bool) (A B:Prop):gW (some b) A B=((b=true→A)∧(b=false→B)):=rfl
@[go_sem] theorem ZFr (A B:Prop):J4 (.d (.bool true)) A B=A:=by simp[J4]
@[go_sem] theorem ZEI (A B:Prop):J4 (.d (.bool false)) A B=B:=by simp[J4]
@[go_sem] theorem condW_dec (p:Prop) [Decidable p] (A B:Prop):J4 (.d (.bool (decide p))) A B=((p→A)∧(¬p→B)):=by simp[J4]
@[go_sem] theorem condW_not (b:Bool) (A B:Prop):J4 (.d (.bool (!b))) A B=J4 (.d (.bool b)) B A:=by cases b<;>simp[J4]
@[go_sem] theorem condW_and (a b:Bool) (A B:Prop):J4 (.d (.bool (a&&b))) A B=J4 (.d (.bool a)) (J4 (.d (.bool b)) A B) B:=by cases a<;>cases b<;>simp[J4]
@[go_sem] theorem condW_or (a b:Bool) (A B:Prop):J4 (.d (.bool (a || b))) A B=J4 (.d (.bool a)) A (J4 (.d (.bool b)) A B):=by cases a<;>cases b<;>simp[J4]
@[go_sem] theorem ZFs (b:Bool) (A B:Prop):J4 (.d (.bool b)) A B=((b=true→A)∧(b=false→B)):=rfl
@[congr] theorem gW_congr {x y:Option Bool} {A B:Prop} (h:x=y):gW x A B=gW y A B:=by rw[h]
@[congr] theorem ZEJ {v w:AV} {A B:Prop} (h:v=w):J4 v A B=J4 w A B:=by rw[h]
section
variable (X:Fns) (M:Zu)
noncomputable def Zhj (nx:Nat):Nat→List CO→Sl→Hp→(Sl→Hp→Prop)→Prop
 | _,[],sl,hp,K=>K sl hp
 | i,o :: rest,sl,hp,K=>gW (Qa sl o.guard)
   (stW (VD (nx+64*i) o.dst sl hp (vop (Zg X M) M sl hp (nx+64*i) o.op)) fun r=>Zhj nx (i+1) rest r.1 r.2 K)
   (Zhj nx (i+1) rest (Zx sl o.dst (.tup [])) hp K)
def Zfb (nx i:Nat) (d:Option Nat) (rest:List CO) (sl:Sl) (hp:Hp) (K:Sl→Hp→Prop) (e:Option Zf):Prop:=
 stW (VD (nx+64*i) d sl hp e) fun r=>Zhj X M nx (i+1) rest r.1 r.2 K
@[go_sem] theorem opsW_nil (nx i:Nat) (sl:Sl) (hp:Hp) (K:Sl→Hp→Prop):Zhj X M nx i [] sl hp K=K sl hp:=rfl
@[go_sem] theorem opsW_cons (nx i:Nat) (d:Option Nat) (tl:Bool) (op:COp) (rest:List CO) (sl:Sl) (hp:Hp) (K:Sl→Hp→Prop) :
  Zhj X M nx i (⟨d,none,op,tl⟩ :: rest) sl hp K=Zfb X M nx i d rest sl hp K (vop (Zg X M) M sl hp (nx+64*i) op):=by
 simp[Zhj,Zfb,Qa,Zyf]
def ZkP (b:Bool) (v:AV):AV:=if b then v else .tup []
def ZbM (b:Bool) (nx i:Nat) (d:Option Nat) (rest:List CO) (sl:Sl) (hp:Hp) (K:Sl→Hp→Prop) (e:Option Zf):Prop:=
 gW (some b) (Zfb X M nx i d rest sl hp K e) (Zhj X M nx (i+1) rest (Zx sl d (.tup [])) hp K)
def ZtW (g:Option Bool) (nx i:Nat) (d:Option Nat) (op:COp) (rest:List CO) (sl:Sl) (hp:Hp) (K:Sl→Hp→Prop):Prop:=
 gW g (Zfb X M nx i d rest sl hp K (vop (Zg X M) M sl hp (nx+64*i) op)) (Zhj X M nx (i+1) rest (Zx sl d (.tup [])) hp K)
@[go_sem] theorem ZFt (nx i g:Nat) (w:Bool) (d:Option Nat) (tl:Bool) (op:COp) (rest:List CO) (sl:Sl) (hp:Hp) (K:Sl→Hp→Prop) :
  Zhj X M nx i (⟨d,some (g,w),op,tl⟩ :: rest) sl hp K=ZtW X M (Ziw w (gs sl g)) nx i d op rest sl hp K:=rfl
@[go_sem] theorem ZEK (b:Bool) (nx i:Nat) (d:Option Nat) (op:COp) (rest:List CO) (sl:Sl) (hp:Hp) (K:Sl→Hp→Prop) :
  ZtW X M (some b) nx i d op rest sl hp K=ZbM X M b nx i d rest sl hp K (vop (Zg X M) M sl hp (nx+64*i) op):=rfl
@[go_sem] theorem gA (nx i:Nat) (d:Option Nat) (rest:List CO) (sl:Sl) (hp:Hp) (K:Sl→Hp→Prop) (e:Option Zf) :
  ZbM X M true nx i d rest sl hp K e=Zfb X M nx i d rest sl hp K e:=by simp[ZbM,gW]
@[go_sem] theorem gB (nx i:Nat) (d:Option Nat) (rest:List CO) (sl:Sl) (hp:Hp) (K:Sl→Hp→Prop) (e:Option Zf) :
  ZbM X M false nx i d rest sl hp K e=Zhj X M nx (i+1) rest (Zx sl d (.tup [])) hp K:=by simp[ZbM,gW]
@[go_sem] theorem ZtX (b:Bool) (nx i:Nat) (d:Option Nat) (rest:List CO) (sl:Sl) (hp:Hp) (K:Sl→Hp→Prop) (v:AV) :
  ZbM X M b nx i d rest sl hp K (Qm v)=Zhj X M nx (i+1) rest (Zx sl d (ZkP b v)) hp K:=by
 cases b
 ·simp[ZbM,gW,ZkP]
 ·simp only[ZbM,gW,ZkP,if_true,true_implies,Bool.true_eq_false,false_implies,and_true];rfl
@[go_sem] theorem ZEL (b:Bool) (nx i:Nat) (d:Option Nat) (rest:List CO) (sl:Sl) (hp:Hp) (K:Sl→Hp→Prop) (v:AV) :
  ZbM X M b nx i d rest sl hp K (some { eff := { val:=v,adds:=[],sets:=[],dels:=[],frz:=[] },gone:=[] })=Zhj X M nx (i+1) rest (Zx sl d (ZkP b v)) hp K:=ZtX X M b nx i d rest sl hp K v
@[congr] theorem ZB3 {g g' : Option Bool} {nx i:Nat} {d:Option Nat} {op:COp} {rest:List CO} {sl:Sl} {hp:Hp} {K:Sl→Hp→Prop} (h:g=g') :
  ZtW X M g nx i d op rest sl hp K=ZtW X M g' nx i d op rest sl hp K:=by rw[h]
@[congr] theorem ZB4 {b b' : Bool} {nx i:Nat} {d:Option Nat} {rest:List CO} {sl:Sl} {hp:Hp} {K:Sl→Hp→Prop} {e e' : Option Zf} (hb:b=b') (h:b'=true→e=e') :
  ZbM X M b nx i d rest sl hp K e=ZbM X M b' nx i d rest sl hp K e':=by
 subst hb
 cases b
 ·simp[ZbM,gW]
 ·rw[h rfl]
@[go_sem] theorem ZEM (nx i:Nat) (d:Option Nat) (rest:List CO) (sl:Sl) (hp:Hp) (K:Sl→Hp→Prop) (v:AV) :
  Zfb X M nx i d rest sl hp K (Qm v)=Zhj X M nx (i+1) rest (Zx sl d v) hp K:=rfl
@[go_sem] theorem ZFu (nx i:Nat) (d:Option Nat) (rest:List CO) (sl:Sl) (hp:Hp) (K:Sl→Hp→Prop) (v:AV) :
  Zfb X M nx i d rest sl hp K (some { eff := { val:=v,adds:=[],sets:=[],dels:=[],frz:=[] },gone:=[] })=Zhj X M nx (i+1) rest (Zx sl d v) hp K:=rfl
@[go_sem] theorem ZFv (nx i:Nat) (d:Option Nat) (rest:List CO) (sl:Sl) (hp:Hp) (K:Sl→Hp→Prop) (e:Zf) :
  Zfb X M nx i d rest sl hp K (some e)=(Q7 (nx+64*i) (nx+64*i+64) e.eff.adds=true∧Zhj X M nx (i+1) rest (Zx (XF e.gone sl) d e.eff.val) (e.eff.on (Wj e.gone hp)) K):=by
 unfold Zfb VD
 rw[Zj]
 split<;>rename_i h
 ·simp only[Zad,h,true_and];rfl
 ·simp only[Zme,h,false_and,Bool.false_eq_true]
@[go_sem] theorem ZFw (nx i:Nat) (d:Option Nat) (rest:List CO) (sl:Sl) (hp:Hp) (K:Sl→Hp→Prop):Zfb X M nx i d rest sl hp K none=False:=rfl
@[go_sem] theorem stepW_ite (nx i:Nat) (d:Option Nat) (rest:List CO) (sl:Sl) (hp:Hp) (K:Sl→Hp→Prop) (c:Prop) [Decidable c] (a b:Option Zf) :
  Zfb X M nx i d rest sl hp K (if c then a else b)=((c→Zfb X M nx i d rest sl hp K a)∧(¬c→Zfb X M nx i d rest sl hp K b)):=by
 by_cases h:c<;>simp[h]
noncomputable def Ue (nx:Nat):Nat→Bool→List CO→Sl→Hp→(Sl→Hp→Prop)→Prop
 | _,_,[],sl,hp,K=>K sl hp
 | i,tail,o :: rest,sl,hp,K=>gW (Qa sl o.guard)
   (stW (VD (nx+64*i) o.dst sl hp (UO (Zg X M) M nx i (CO.starts o) o.op sl hp)) fun r=>Ue nx (i+1) tail rest r.1 r.2 K)
   (Ue nx (i+1) tail rest (Zx sl o.dst (.tup [])) hp K)
def J8 (nx i:Nat) (t:Bool) (d:Option Nat) (rest:List CO) (sl:Sl) (hp:Hp) (K:Sl→Hp→Prop) (e:Option Zf):Prop:=
 stW (VD (nx+64*i) d sl hp (if t then e else Zgu e)) fun r=>Ue X M nx (i+1) false rest r.1 r.2 K
@[go_sem] theorem opsDW_nil (nx i:Nat) (t:Bool) (sl:Sl) (hp:Hp) (K:Sl→Hp→Prop):Ue X M nx i t [] sl hp K=K sl hp:=rfl
@[go_sem] theorem ZFx (nx i:Nat) (d:Option Nat) (tl:Bool) (op:COp) (rest:List CO) (sl:Sl) (hp:Hp) (K:Sl→Hp→Prop) :
  Ue X M nx i false (⟨d,none,op,tl⟩ :: rest) sl hp K=J8 X M nx i (Zky op || tl) d rest sl hp K (vop (Zg X M) M sl hp (nx+64*i) op):=by
 simp[Ue,J8,Qa,Zyf,UO,CO.starts]
def UE (b:Bool) (nx i:Nat) (t:Bool) (d:Option Nat) (rest:List CO) (sl:Sl) (hp:Hp) (K:Sl→Hp→Prop) (e:Option Zf):Prop:=
 gW (some b) (J8 X M nx i t d rest sl hp K e) (Ue X M nx (i+1) false rest (Zx sl d (.tup [])) hp K)
def Zpf (g:Option Bool) (nx i:Nat) (t:Bool) (d:Option Nat) (op:COp) (rest:List CO) (sl:Sl) (hp:Hp) (K:Sl→Hp→Prop):Prop:=
 gW g (J8 X M nx i t d rest sl hp K (vop (Zg X M) M sl hp (nx+64*i) op)) (Ue X M nx (i+1) false rest (Zx sl d (.tup [])) hp K)
@[go_sem] theorem ZEN (nx i g:Nat) (w:Bool) (d:Option Nat) (tl:Bool) (op:COp) (rest:List CO) (sl:Sl) (hp:Hp) (K:Sl→Hp→Prop) :
  Ue X M nx i false (⟨d,some (g,w),op,tl⟩ :: rest) sl hp K=Zpf X M (Ziw w (gs sl g)) nx i (Zky op || tl) d op rest sl hp K:=rfl
@[go_sem] theorem ZB5 (b:Bool) (nx i:Nat) (t:Bool) (d:Option Nat) (op:COp) (rest:List CO) (sl:Sl) (hp:Hp) (K:Sl→Hp→Prop) :
  Zpf X M (some b) nx i t d op rest sl hp K=UE X M b nx i t d rest sl hp K (vop (Zg X M) M sl hp (nx+64*i) op):=rfl
@[go_sem] theorem gC (nx i:Nat) (t:Bool) (d:Option Nat) (rest:List CO) (sl:Sl) (hp:Hp) (K:Sl→Hp→Prop) (e:Option Zf) :
  UE X M true nx i t d rest sl hp K e=J8 X M nx i t d rest sl hp K e:=by simp[UE,gW]
@[go_sem] theorem gD (nx i:Nat) (t:Bool) (d:Option Nat) (rest:List CO) (sl:Sl) (hp:Hp) (K:Sl→Hp→Prop) (e:Option Zf) :
  UE X M false nx i t d rest sl hp K e=Ue X M nx (i+1) false rest (Zx sl d (.tup [])) hp K:=by simp[UE,gW]
@[go_sem] theorem ZrN (b:Bool) (nx i:Nat) (t:Bool) (d:Option Nat) (rest:List CO) (sl:Sl) (hp:Hp) (K:Sl→Hp→Prop) (v:AV) :
  UE X M b nx i t d rest sl hp K (Qm v)=Ue X M nx (i+1) false rest (Zx sl d (ZkP b v)) hp K:=by
 cases b
 ·simp[UE,gW,ZkP]
 ·simp only[UE,gW,ZkP,if_true,true_implies,Bool.true_eq_false,false_implies,and_true];cases t<;>rfl
@[go_sem] theorem ZB6 (b:Bool) (nx i:Nat) (t:Bool) (d:Option Nat) (rest:List CO) (sl:Sl) (hp:Hp) (K:Sl→Hp→Prop) (v:AV) :
  UE X M b nx i t d rest sl hp K (some { eff := { val:=v,adds:=[],sets:=[],dels:=[],frz:=[] },gone:=[] })=Ue X M nx (i+1) false rest (Zx sl d (ZkP b v)) hp K:=ZrN X M b nx i t d rest sl hp K v
@[congr] theorem ZA9 {g g' : Option Bool} {nx i:Nat} {t t' : Bool} {d:Option Nat} {op:COp} {rest:List CO} {sl:Sl} {hp:Hp} {K:Sl→Hp→Prop} (h:g=g') (ht:t=t') :
  Zpf X M g nx i t d op rest sl hp K=Zpf X M g' nx i t' d op rest sl hp K:=by rw[h,ht]
@[congr] theorem ZBa {b b' : Bool} {nx i:Nat} {t:Bool} {d:Option Nat} {rest:List CO} {sl:Sl} {hp:Hp} {K:Sl→Hp→Prop} {e e' : Option Zf} (hb:b=b') (h:b'=true→e=e') :
  UE X M b nx i t d rest sl hp K e=UE X M b' nx i t d rest sl hp K e':=by
 subst hb
 cases b
 ·simp[UE,gW]
 ·rw[h rfl]
@[go_sem] theorem ZB7 (nx i:Nat) (t:Bool) (d:Option Nat) (rest:List CO) (sl:Sl) (hp:Hp) (K:Sl→Hp→Prop) (v:AV) :
  J8 X M nx i t d rest sl hp K (Qm v)=Ue X M nx (i+1) false rest (Zx sl d v) hp K:=by cases t<;>rfl
@[go_sem] theorem ZEO (nx i:Nat) (t:Bool) (d:Option Nat) (rest:List CO) (sl:Sl) (hp:Hp) (K:Sl→Hp→Prop) (v:AV) :
  J8 X M nx i t d rest sl hp K (some { eff := { val:=v,adds:=[],sets:=[],dels:=[],frz:=[] },gone:=[] })=Ue X M nx (i+1) false rest (Zx sl d v) hp K:=by cases t<;>rfl
@[go_sem] theorem ZEP (nx i:Nat) (t:Bool) (d:Option Nat) (rest:List CO) (sl:Sl) (hp:Hp) (K:Sl→Hp→Prop) (e:Zf) :
  J8 X M nx i t d rest sl hp K (some e)=((t=false→ZiA e e.gone e.eff.sets e.eff.dels e.eff.frz=some e)∧Q7 (nx+64*i) (nx+64*i+64) e.eff.adds=true∧Ue X M nx (i+1) false rest (Zx (XF e.gone sl) d e.eff.val) (e.eff.on (Wj e.gone hp)) K):=by
 have key:stW (VD (nx+64*i) d sl hp (some e)) (fun r=>Ue X M nx (i+1) false rest r.1 r.2 K)=(Q7 (nx+64*i) (nx+64*i+64) e.eff.adds=true∧Ue X M nx (i+1) false rest (Zx (XF e.gone sl) d e.eff.val) (e.eff.on (Wj e.gone hp)) K):=by
  unfold VD
  rw[Zj]
  split<;>rename_i h
  ·simp only[Zad,h,true_and];rfl
  ·simp only[Zme,h,false_and,Bool.false_eq_true]
 unfold J8
 cases t with
 | true=>simp only[if_true];rw[key];simp
 | false=>
  simp only[Bool.false_eq_true,if_false,Zgu,Zj,true_implies]
  unfold ZiA
  split
  ·rw[key];simp
  ·simp[VD,bnd,stW]
@[go_sem] theorem ZEQ (nx i:Nat) (t:Bool) (d:Option Nat) (rest:List CO) (sl:Sl) (hp:Hp) (K:Sl→Hp→Prop):J8 X M nx i t d rest sl hp K none=False:=by cases t<;>rfl
@[go_sem] theorem ZFy (nx i:Nat) (t:Bool) (d:Option Nat) (rest:List CO) (sl:Sl) (hp:Hp) (K:Sl→Hp→Prop) (c:Prop) [Decidable c] (a b:Option Zf) :
  J8 X M nx i t d rest sl hp K (if c then a else b)=((c→J8 X M nx i t d rest sl hp K a)∧(¬c→J8 X M nx i t d rest sl hp K b)):=by
 by_cases h:c<;>simp[h]
@[go_sem] theorem quietC_ok (c:Zf):ZiA c [] [] [] []=some c:=rfl
def W (c:Ze) (st:St) (Q:Ex→St→Prop):Prop:=stW (Q3 X M c st) fun r=>Q r.1 r.2
@[congr] theorem W_congr {c:Ze} {st st' : St} {Q:Ex→St→Prop} (h:st=st'):W X M c st Q=W X M c st' Q:=by rw[h]
@[congr] theorem ZFz {rest:List CO} {nx nx' i i' : Nat} {sl sl' : Sl} {hp hp' : Hp} {K:Sl→Hp→Prop} (hn:nx=nx') (hi:i=i') (h:sl=sl') (h' : hp=hp') :
  Zhj X M nx i rest sl hp K=Zhj X M nx' i' rest sl' hp' K:=by rw[h,h',hn,hi]
@[congr] theorem ZER {rest:List CO} {nx nx' i i' : Nat} {t t' : Bool} {sl sl' : Sl} {hp hp' : Hp} {K:Sl→Hp→Prop} (hn:nx=nx') (hi:i=i') (ht:t=t') (h:sl=sl') (h' : hp=hp') :
  Ue X M nx i t rest sl hp K=Ue X M nx' i' t' rest sl' hp' K:=by rw[h,h',ht,hn,hi]
@[congr] theorem ZES {rest:List CO} {nx i:Nat} {d:Option Nat} {sl:Sl} {hp:Hp} {K:Sl→Hp→Prop} {e e' : Option Zf} (h:e=e') :
  Zfb X M nx i d rest sl hp K e=Zfb X M nx i d rest sl hp K e':=by rw[h]
@[congr] theorem ZB8 {rest:List CO} {nx i:Nat} {t t' : Bool} {d:Option Nat} {sl:Sl} {hp:Hp} {K:Sl→Hp→Prop} {e e' : Option Zf} (ht:t=t') (h:e=e') :
  J8 X M nx i t d rest sl hp K e=J8 X M nx i t' d rest sl hp K e':=by rw[h,ht]
theorem ZB9 (nx:Nat) (K:Sl→Hp→Prop):∀ (l:List CO) (i:Nat) (sl:Sl) (hp:Hp),Zhj X M nx i l sl hp K=stW (ZhY (Zg X M) M nx i l sl hp) fun r=>K r.1 r.2:=by
 intro l
 induction l with
 | nil=>intro i sl hp;rfl
 | cons o rest ih=>
  intro i sl hp
  simp only[Zhj,ZhY,ih,Zfk]
  cases Qa sl o.guard with
  | none=>rfl
  | some b=>cases b<;>simp[gW,Zfk,Zad]
theorem Zz8 (nx:Nat) (K:Sl→Hp→Prop):∀ (l:List CO) (i:Nat) (t:Bool) (sl:Sl) (hp:Hp),Ue X M nx i t l sl hp K=stW (Zai (Zg X M) M nx i t l sl hp) fun r=>K r.1 r.2:=by
 intro l
 induction l with
 | nil=>intro i t sl hp;rfl
 | cons o rest ih=>
  intro i t sl hp
  simp only[Ue,Zai,ih,Zfk]
  cases Qa sl o.guard with
  | none=>rfl
  | some b=>cases b<;>simp[gW,Zfk,Zad]
def Zy2 (m nx:Nat) (Q:Ex→St→Prop) (sl:Sl) (hp:Hp):Prop:=Q .normal { sl:=sl,hp:=hp,nx:=nx,m:=m }
def Zvu (ops:List CO) (ps:List (Nat×Nat)) (K:Sl→Hp→Prop) (sl:Sl) (hp:Hp):Prop:=ZaR ops sl ps=true∧K sl hp
@[go_sem] theorem regQ_eq (m nx:Nat) (Q:Ex→St→Prop) (sl:Sl) (hp:Hp):Zy2 m nx Q sl hp=Q .normal { sl:=sl,hp:=hp,nx:=nx,m:=m }:=rfl
@[go_sem] theorem seenQ_eq (ops:List CO) (ps:List (Nat×Nat)) (K:Sl→Hp→Prop) (sl:Sl) (hp:Hp):Zvu ops ps K sl hp=(ZaR ops sl ps=true∧K sl hp):=rfl
@[go_sem] theorem W_skip (st:St) (Q:Ex→St→Prop):W X M .skip st Q=Q .normal st:=by simp[W,Zxr,Zad]
@[go_sem] theorem W_ret (st:St) (Q:Ex→St→Prop):W X M .ret st Q=Q .ret st:=by simp[W,Zzi,Zad]
@[go_sem] theorem W_exit (id:Nat) (st:St) (Q:Ex→St→Prop):W X M (.exit id) st Q=Q (.exit id) st:=by simp[W,Zxs,Zad]
@[go_sem] theorem W_stuck (st:St) (Q:Ex→St→Prop):W X M .stuck st Q=False:=by
 have h:Q3 X M .stuck st=none:=Wq fun n=>by simp only[ZK]
 simp only[W,h,Zme]
@[go_sem] theorem W_region (n:Nat) (ops:List CO) (st:St) (Q:Ex→St→Prop) :
  W X M (.region n none ops) st Q=Zhj X M st.nx 0 ops st.sl st.hp (Zy2 st.m (st.nx+64*n) Q):=by
 rw[ZB9,W,Zuk,Zmv,Zfk];rfl
theorem Zz9 (n:Nat) (ps:List (Nat×Nat)) (ops:List CO) (st:St) (Q:Ex→St→Prop) :
  W X M (.region n (some ps) ops) st Q=Ue X M st.nx 0 false ops st.sl st.hp (Zvu ops ps (Zy2 st.m (st.nx+64*n) Q)):=by
 rw[Zz8,W,Zxt,Zmv,Zfk,Zqk,Zfk]
 congr 1
 funext r
 by_cases h:ZaR ops r.1 ps=true<;>simp[h,Zvu,Zad,Zme,Zy2]
@[go_sem] theorem W_draw0 (n:Nat) (ops:List CO) (st:St) (Q:Ex→St→Prop) :
  W X M (.region n (some []) ops) st Q=Ue X M st.nx 0 false ops st.sl st.hp (Zy2 st.m (st.nx+64*n) Q):=by
 rw[Zz9]
 congr 1
 funext sl hp
 simp[Zvu,ZaR]
@[go_sem] theorem W_drawc (n:Nat) (p:Nat×Nat) (ps:List (Nat×Nat)) (ops:List CO) (st:St) (Q:Ex→St→Prop) :
  W X M (.region n (some (p :: ps)) ops) st Q=Ue X M st.nx 0 false ops st.sl st.hp (Zvu ops (p :: ps) (Zy2 st.m (st.nx+64*n) Q)):=Zz9 X M n _ ops st Q
def Zyg (c:Ze) (Q:Ex→St→Prop):Ex→St→Prop
 | .normal,st=>W X M c st Q
 | e,st=>Q e st
def blkQ (id:Nat) (Q:Ex→St→Prop):Ex→St→Prop
 | .exit j,st=>if j=id then Q .normal st else Q (.exit j) st
 | e,st=>Q e st
@[go_sem] theorem ZCa (c:Ze) (Q:Ex→St→Prop) (st:St):Zyg X M c Q .normal st=W X M c st Q:=rfl
@[go_sem] theorem thenQ_ret (c:Ze) (Q:Ex→St→Prop) (st:St):Zyg X M c Q .ret st=Q .ret st:=rfl
@[go_sem] theorem ZFA (c:Ze) (Q:Ex→St→Prop) (id:Nat) (st:St):Zyg X M c Q (.exit id) st=Q (.exit id) st:=rfl
@[go_sem] theorem ZET (id:Nat) (Q:Ex→St→Prop) (st:St):blkQ id Q .normal st=Q .normal st:=rfl
@[go_sem] theorem blkQ_ret (id:Nat) (Q:Ex→St→Prop) (st:St):blkQ id Q .ret st=Q .ret st:=rfl
@[go_sem] theorem blkQ_exit (id j:Nat) (Q:Ex→St→Prop) (st:St):blkQ id Q (.exit j) st=if j=id then Q .normal st else Q (.exit j) st:=rfl
@[go_sem] theorem W_seq (a b:Ze) (st:St) (Q:Ex→St→Prop):W X M (.seq a b) st Q=W X M a st (Zyg X M b Q):=by
 unfold W
 rw[Zzj]
 cases h:Q3 X M a st with
 | none=>rfl
 | some r=>obtain⟨e,st'⟩:=r;cases e<;>rfl
@[go_sem] theorem W_cond (c:Opd) (a b:Ze) (st:St) (Q:Ex→St→Prop) :
  W X M (.cond c a b) st Q=J4 (evO st.sl c) (W X M a st Q) (W X M b st Q):=by
 unfold W
 rw[Zxu]
 cases h:evO st.sl c with
 | d x=>cases x with
  | bool t=>cases t<;>simp[ZjA,J4]
  | _=>rfl
 | _=>rfl
@[go_sem] theorem W_block (id:Nat) (c:Ze) (st:St) (Q:Ex→St→Prop):W X M (.block id c) st Q=W X M c st (blkQ id Q):=by
 unfold W
 rw[ZvQ]
 cases h:Q3 X M c st with
 | none=>rfl
 | some r=>
  obtain⟨e,st'⟩:=r
  cases e with
  | exit j=>by_cases hj:j=id<;>simp[ZiZ,hj,Zad,blkQ]
  | normal=>rfl
  | ret=>rfl
def keepQ (K:List Nat) (Q:Ex→St→Prop) (e:Ex) (st:St):Prop:=Q e { sl:=only K st.sl,hp:=st.hp,nx:=st.nx,m:=st.m }
@[go_sem] theorem keepQ_eq (K:List Nat) (Q:Ex→St→Prop) (e:Ex) (st:St):keepQ K Q e st=Q e { sl:=only K st.sl,hp:=st.hp,nx:=st.nx,m:=st.m }:=rfl
@[go_sem] theorem W_keep (K:List Nat) (c:Ze) (st:St) (Q:Ex→St→Prop):W X M (.keep K c) st Q=W X M c st (keepQ K Q):=by
 unfold W
 rw[Zxv]
 cases h:Q3 X M c st with
 | none=>rfl
 | some r=>rfl
def ZpQ (c:Ze) (Q:Ex→St→Prop) (r:Option St):Prop:=stW r fun st=>W X M c st Q
@[go_sem] theorem ZFB (c:Ze) (Q:Ex→St→Prop) (st:St):ZpQ X M c Q (some st)=W X M c st Q:=rfl
@[go_sem] theorem ZFC (c:Ze) (Q:Ex→St→Prop):ZpQ X M c Q none=False:=rfl
@[go_sem] theorem linkW_ite (c:Ze) (Q:Ex→St→Prop) (p:Prop) [Decidable p] (a b:Option St):ZpQ X M c Q (if p then a else b)=((p→ZpQ X M c Q a)∧(¬p→ZpQ X M c Q b)):=by
 by_cases h:p<;>simp[h]
@[go_sem] theorem W_link (id:Nat) (i:Opd) (j:Nat) (c:Ze) (st:St) (Q:Ex→St→Prop):W X M (.link id i j c) st Q=ZpQ X M c Q (Zhs id i j st):=by
 unfold W ZpQ
 rw[Zxw]
 cases h:Zhs id i j st<;>rfl
@[go_sem] theorem W_melt (c:Ze) (st:St) (Q:Ex→St→Prop):W X M (.melt c) st Q=W X M c { sl:=st.sl,hp:=ZkO Zgl st.hp,nx:=st.nx,m:=st.m } Q:=by
 unfold W
 rw[Zxx];rfl
def LW (c:Ze) (K:List Nat) (st:St) (Q:Ex→St→Prop):Prop:=stW (ZjC X M c K st) fun r=>Q r.1 r.2
@[congr] theorem LW_congr {c:Ze} {K K' : List Nat} {st st' : St} {Q:Ex→St→Prop} (hk:K=K') (h:st=st'):LW X M c K st Q=LW X M c K' st' Q:=by rw[h,hk]
@[go_sem] theorem W_loop (c:Ze) (st:St) (Q:Ex→St→Prop):W X M (.loop c) st Q=LW X M c (Zlz st.sl) st Q:=by
 unfold W LW;rw[Zxy]
def ZsR (c:Ze) (K:List Nat) (Q:Ex→St→Prop):Ex→St→Prop
 | .normal,st=>LW X M c K st Q
 | e,st=>Q e st
@[go_sem] theorem ZCb (c:Ze) (K:List Nat) (Q:Ex→St→Prop) (st:St):ZsR X M c K Q .normal st=LW X M c K st Q:=rfl
@[go_sem] theorem nextQ_ret (c:Ze) (K:List Nat) (Q:Ex→St→Prop) (st:St):ZsR X M c K Q .ret st=Q .ret st:=rfl
@[go_sem] theorem ZFD (c:Ze) (K:List Nat) (Q:Ex→St→Prop) (id:Nat) (st:St):ZsR X M c K Q (.exit id) st=Q (.exit id) st:=rfl
theorem ZR {c:Ze} {K:List Nat} {st:St} {Q:Ex→St→Prop} (h:W X M c (J6 K st) (ZsR X M c K Q)):LW X M c K st Q:=by
 unfold W at h
 cases hv:Q3 X M c (J6 K st) with
 | none=>rw[hv] at h;exact h.elim
 | some r=>
  rw[hv] at h
  obtain⟨e,st'⟩:=r
  unfold LW
  cases e with
  | normal=>rw[ZvR X M hv];exact h
  | exit id=>rw[Zql X M (by simp) hv];exact h
  | ret=>rw[Zql X M (by simp) hv];exact h
def Zvv (sl:Sl):Sl→Sl
 | []=>sl
 | (k,v) :: r=>Zvv (ins sl k v) r
def ZpR (hp:Hp):Hp→Hp
 | []=>hp
 | (k,o) :: r=>ZpR (ins hp k o) r
theorem LW_ind {α:Type} (S:α→St) (I:α→Prop) (μ:α→Nat) {c:Ze} {K:List Nat} {Q:Ex→St→Prop}
  (step:∀ a,I a→(∀ b st,I b→μ b<μ a→J6 K st=S b→LW X M c K st Q)→W X M c (S a) (ZsR X M c K Q)) :
  ∀ a st,I a→J6 K st=S a→LW X M c K st Q:=by
 have key:∀ n a st,μ a=n→I a→J6 K st=S a→LW X M c K st Q:=by
  intro n
  induction n using Nat.strongRecOn with
  | ind n ih=>
   intro a st hn ha hs
   refine ZR X M ?_
   rw[hs]
   exact step a ha fun b st' hb hlt hs'=>ih (μ b) (by omega) b st' rfl hb hs'
 exact fun a st ha hs=>key _ a st rfl ha hs
theorem Zr {α:Type} (u:α→Sl) (uh:α→Hp) (I:α→Prop) (μ:α→Nat) (a:α) {c:Ze} {K:List Nat} {Q:Ex→St→Prop} {st st0:St}
  (hc:J6 K st=st0) (ha:I a) (h0:(⟨Zvv st0.sl (u a),ZpR st0.hp (uh a),st0.nx,st0.m⟩:St)=st0)
  (step:∀ a,I a→(∀ b st,I b→μ b<μ a→J6 K st=⟨Zvv st0.sl (u b),ZpR st0.hp (uh b),st0.nx,st0.m⟩→LW X M c K st Q)→W X M c ⟨Zvv st0.sl (u a),ZpR st0.hp (uh a),st0.nx,st0.m⟩ (ZsR X M c K Q)) :
  LW X M c K st Q:=
 LW_ind X M (fun a=>⟨Zvv st0.sl (u a),ZpR st0.hp (uh a),st0.nx,st0.m⟩) I μ step a st ha (hc.trans h0.symm)
def Zw6 (m:Nat) (rs:List ZrS) (R:AV×List Zt→Prop):Ex→St→Prop:=fun e st=>stW (ZeX m rs (some (e,st))) R
def resW (m:Nat) (hp:Hp) (R:AV×List Zt→Prop) (vs:Option (List AV)):Prop:=stW vs fun vs=>R (Wp m hp (Zff vs))
@[go_sem] theorem resW_some (m:Nat) (hp:Hp) (R:AV×List Zt→Prop) (vs:List AV):resW m hp R (some vs)=R (Wp m hp (Zff vs)):=rfl
@[go_sem] theorem resW_none (m:Nat) (hp:Hp) (R:AV×List Zt→Prop):resW m hp R none=False:=rfl
@[go_sem] theorem endQ_ret (m:Nat) (rs:List ZrS) (R:AV×List Zt→Prop) (st:St):Zw6 m rs R .ret st=resW m st.hp R (QV (ZoH st) rs):=by
 simp only[Zw6,ZeX,Zfk];rfl
@[go_sem] theorem ZEU (m:Nat) (rs:List ZrS) (R:AV×List Zt→Prop) (st:St):Zw6 m rs R .normal st=resW m st.hp R (QV (ZoH st) rs):=by
 simp only[Zw6,ZeX,Zfk];rfl
theorem Zjm {f:Nat} {as:List AV} {h:List Zt} (fn:Zz) {R:AV×List Zt→Prop} (hx:X f=some (.text fn)) (hl:as.length≤fn.nt)
  (hr:W X M fn.body { sl:=UT 0 as,hp:=UB 0 h,nx:=h.length,m:=h.length } (Zw6 h.length fn.res R)):∃ r,Zg X M f as h=some r∧R r:=by
 unfold W at hr
 cases hv:Q3 X M fn.body { sl:=UT 0 as,hp:=UB 0 h,nx:=h.length,m:=h.length } with
 | none=>rw[hv] at hr;exact hr.elim
 | some q=>
  rw[hv] at hr
  obtain⟨e,st⟩:=q
  simp only[Zad,Zw6] at hr
  cases hk:ZeX h.length fn.res (some (e,st)) with
  | none=>rw[hk] at hr;exact hr.elim
  | some r=>rw[hk] at hr;exact⟨r,ZAn X M hx hl (by rw[hv];exact hk),hr⟩
theorem Zd {f:Nat} {as:List AV} {h:List Zt} (fn:Zz) {r:AV×List Zt} (hx:X f=some (.text fn)) (hl:as.length≤fn.nt)
  (hr:W X M fn.body { sl:=UT 0 as,hp:=UB 0 h,nx:=h.length,m:=h.length } (Zw6 h.length fn.res fun q=>q=r)):Zg X M f as h=some r:=by
 obtain⟨q,hq,rfl⟩:=Zjm X M fn hx hl hr
 exact hq
end
@[go_sem] theorem vopE_move (C:Orc) (M:Zu) (sl:Sl) (hp:Hp) (base:Nat) (x:Opd):vop C M sl hp base (.move x)=Qm (evO sl x):=by simp only[vop]
@[go_sem] theorem ZEV (C:Orc) (M:Zu) (sl:Sl) (hp:Hp) (base:Nat) (s:Option Nat) (x:Opd):vop C M sl hp base (.assign s x)=ZgS base s (evO sl x):=by simp only[vop]
@[go_sem] theorem vopE_pick (C:Orc) (M:Zu) (sl:Sl) (hp:Hp) (base:Nat) (c a b:Opd):vop C M sl hp base (.pick c a b)=ZiY (evO sl a) (evO sl b) (evO sl c):=by simp only[vop]
@[go_sem] theorem ZFE (C:Orc) (M:Zu) (sl:Sl) (hp:Hp) (base:Nat) (slc:List (Option Nat)) (cs:List AV):vop C M sl hp base (.alloc slc cs)=Zir slc base cs:=by simp only[vop]
@[go_sem] theorem vopE_box (C:Orc) (M:Zu) (sl:Sl) (hp:Hp) (base:Nat) (x:Opd):vop C M sl hp base (.box x)=Zxc base (evO sl x):=by simp only[vop]
@[go_sem] theorem ZFF (C:Orc) (M:Zu) (sl:Sl) (hp:Hp) (base:Nat) (zs:List AV) (ps:List (Nat×Nat×Opd)):vop C M sl hp base (.build zs ps)=ZpZ zs (evP sl ps):=by simp only[vop]
@[go_sem] theorem ZCc (C:Orc) (M:Zu) (sl:Sl) (hp:Hp) (base:Nat) (s:Nat) (xs:List Opd):vop C M sl hp base (.buildSl s xs)=buildSl hp base s (evL sl xs):=by simp only[vop]
@[go_sem] theorem vopE_load (C:Orc) (M:Zu) (sl:Sl) (hp:Hp) (base:Nat) (g:Bool) (s:Nat) (a:Opd):vop C M sl hp base (.load g s a)=UA (Zaf hp g s (evO sl a)):=by simp only[vop]
@[go_sem] theorem ZFG (C:Orc) (M:Zu) (sl:Sl) (hp:Hp) (base:Nat) (slc:List (Option Nat)) (s:Nat) (a x:Opd):vop C M sl hp base (.store slc s a x)=Zjb (Zdh hp slc s base (evO sl x).cells (evO sl a)):=by simp only[vop]
@[go_sem] theorem ZBb (C:Orc) (M:Zu) (sl:Sl) (hp:Hp) (base:Nat) (x:Opd):vop C M sl hp base (.nilCheck x)=ZbR (evO sl x):=by simp only[vop]
@[go_sem] theorem vopE_bin (C:Orc) (M:Zu) (sl:Sl) (hp:Hp) (base:Nat) (op:BinOp) (eq:Bool) (x y:Opd):vop C M sl hp base (.bin op eq x y)=Zfn op eq (evO sl x) (evO sl y):=by simp only[vop]
@[go_sem] theorem vopE_un (C:Orc) (M:Zu) (sl:Sl) (hp:Hp) (base:Nat) (op:UnOp) (x:Opd):vop C M sl hp base (.un op x)=UA (vun op (evO sl x)):=by simp only[vop]
@[go_sem] theorem vopE_eqA (C:Orc) (M:Zu) (sl:Sl) (hp:Hp) (base:Nat) (neg:Bool) (ks:List Nat) (x y:Opd):vop C M sl hp base (.eqA neg ks x y)=ZrP neg ks (evO sl x) (evO sl y):=by simp only[vop]
@[go_sem] theorem ZFH (C:Orc) (M:Zu) (sl:Sl) (hp:Hp) (base:Nat) (k:IntKind) (x:Opd):vop C M sl hp base (.convI k x)=convI k (evO sl x):=by simp only[vop]
@[go_sem] theorem ZFI (C:Orc) (M:Zu) (sl:Sl) (hp:Hp) (base:Nat) (x:Opd):vop C M sl hp base (.convS x)=convS (evO sl x):=by simp only[vop]
@[go_sem] theorem vopE_fn (C:Orc) (M:Zu) (sl:Sl) (hp:Hp) (base:Nat) (f:Nat) (cs:List Opd):vop C M sl hp base (.fn f cs)=UA (cloV f (evL sl cs)):=by simp only[vop]
@[go_sem] theorem vopE_make (C:Orc) (M:Zu) (sl:Sl) (hp:Hp) (base:Nat) (s b:Nat) (z:D) (l c:Opd):vop C M sl hp base (.make s b z l c)=bnd (idx (evO sl l)) fun l=>bnd (idx (evO sl c)) fun c=>Zp1 base s b z l c:=by simp only[vop]
@[go_sem] theorem ZFJ (C:Orc) (M:Zu) (sl:Sl) (hp:Hp) (base:Nat) (s:Nat) (x:Opd) (lo hi:Option Opd):vop C M sl hp base (.slice s x lo hi)=UA (Uz hp s (evM sl lo) (evM sl hi) (evO sl x)):=by simp only[vop]
@[go_sem] theorem ZEW (C:Orc) (M:Zu) (sl:Sl) (hp:Hp) (base:Nat) (x:Opd) (lo hi:Option Opd):vop C M sl hp base (.sliceS x lo hi)=UA (sliceS (evM sl lo) (evM sl hi) (evO sl x)):=by simp only[vop]
@[go_sem] theorem ZEX (C:Orc) (M:Zu) (sl:Sl) (hp:Hp) (base:Nat) (x hi mx:Opd):vop C M sl hp base (.slice0 x hi mx)=UA (slice0 hp (evO sl x) (idx (evO sl hi)) (idx (evO sl mx))):=by simp only[vop]
@[go_sem] theorem ZFK (C:Orc) (M:Zu) (sl:Sl) (hp:Hp) (base:Nat) (off:Nat) (x:Opd):vop C M sl hp base (.shift off x)=WU off (evO sl x):=by simp only[vop]
@[go_sem] theorem vopE_part (C:Orc) (M:Zu) (sl:Sl) (hp:Hp) (base:Nat) (g:Bool) (s off:Nat) (x:Opd):vop C M sl hp base (.part g s off x)=UA (Zmh g s off (evO sl x)):=by simp only[vop]
@[go_sem] theorem vopE_iaS (C:Orc) (M:Zu) (sl:Sl) (hp:Hp) (base:Nat) (s:Nat) (x i:Opd):vop C M sl hp base (.iaS s x i)=bnd (idx (evO sl i)) fun n=>Zjt hp s (evO sl x) n:=by simp only[vop]
@[go_sem] theorem vopE_iaA (C:Orc) (M:Zu) (sl:Sl) (hp:Hp) (base:Nat) (len s:Nat) (x i:Opd):vop C M sl hp base (.iaA len s x i)=bnd (idx (evO sl i)) fun n=>Zoi (evO sl x) n len s:=by simp only[vop]
@[go_sem] theorem vopE_ixS (C:Orc) (M:Zu) (sl:Sl) (hp:Hp) (base:Nat) (x i:Opd):vop C M sl hp base (.ixS x i)=bnd (idx (evO sl i)) fun n=>ZvG n (evO sl x):=by simp only[vop]
@[go_sem] theorem vopE_ixA (C:Orc) (M:Zu) (sl:Sl) (hp:Hp) (base:Nat) (g:Bool) (s len:Nat) (x i:Opd):vop C M sl hp base (.ixA g s len x i)=bnd (idx (evO sl i)) fun n=>Zxe g s len n (evO sl x):=by simp only[vop]
@[go_sem] theorem vopE_nth (C:Orc) (M:Zu) (sl:Sl) (hp:Hp) (base:Nat) (i:Nat) (x:Opd):vop C M sl hp base (.nth i x)=Zt3 i (evO sl x):=by simp only[vop]
@[go_sem] theorem vopE_len (C:Orc) (M:Zu) (sl:Sl) (hp:Hp) (base:Nat) (x:Opd):vop C M sl hp base (.len x)=bnd (Zhi hp (evO sl x)) fun n=>Qm (.d (.int .i64 n)):=by simp only[vop]
@[go_sem] theorem vopE_lenS (C:Orc) (M:Zu) (sl:Sl) (hp:Hp) (base:Nat) (x:Opd):vop C M sl hp base (.lenS x)=bnd (ZyA (evO sl x)) fun n=>Qm (.d (.int .i64 n)):=by simp only[vop]
@[go_sem] theorem ZEY (C:Orc) (M:Zu) (sl:Sl) (hp:Hp) (base:Nat) (s b:Nat) (str flat:Bool) (x y:Opd):vop C M sl hp base (.append s b str flat x y)=Zt4 hp s b str flat base (evO sl x) (evO sl y):=by simp only[vop]
@[go_sem] theorem vopE_min (C:Orc) (M:Zu) (sl:Sl) (hp:Hp) (base:Nat) (x y:Opd):vop C M sl hp base (.min x y)=Zmk (evO sl x) (evO sl y):=by simp only[vop]
@[go_sem] theorem vopE_max (C:Orc) (M:Zu) (sl:Sl) (hp:Hp) (base:Nat) (x y:Opd):vop C M sl hp base (.max x y)=Zml (evO sl x) (evO sl y):=by simp only[vop]
@[go_sem] theorem vopE_call (C:Orc) (M:Zu) (sl:Sl) (hp:Hp) (base:Nat) (f:Opd) (as:List Opd):vop C M sl hp base (.call f as)=Zgm C M hp base (evL sl as) (evO sl f):=by simp only[vop]
@[go_sem] theorem ZEZ (C:Orc) (M:Zu) (sl:Sl) (hp:Hp) (base:Nat) (s:Nat) (x lo hi mx:Opd):vop C M sl hp base (.slice3 s x lo hi mx)=UA (slice3 hp (evO sl x) (idx (evO sl lo)) (idx (evO sl hi)) (idx (evO sl mx))):=by simp only[vop]
@[go_sem] theorem ZFL (C:Orc) (M:Zu) (sl:Sl) (hp:Hp) (base:Nat) (s:Nat) (z:D) (x:Opd):vop C M sl hp base (.clear s z x)=Zjb (Zhm hp s z (evO sl x)):=by simp only[vop]
@[go_sem] theorem ZCd (C:Orc) (M:Zu) (sl:Sl) (hp:Hp) (base:Nat) (s n:Nat) (xs:List Opd):vop C M sl hp base (.buildDp s n xs)=buildDp hp base s n (evL sl xs):=by simp only[vop]
@[go_sem] theorem ZFM (C:Orc) (M:Zu) (sl:Sl) (hp:Hp) (base:Nat) (s b:Nat) (f:Bool) (x y:Opd):vop C M sl hp base (.appDp s b f x y)=ZrQ hp s b base (evO sl x) (evO sl y):=by simp only[vop]
@[go_sem] theorem ZFN (C:Orc) (M:Zu) (sl:Sl) (hp:Hp) (base:Nat) (s n:Nat) (x:Opd):vop C M sl hp base (.asgDp s n x)=asgDp base s n (evO sl x):=by simp only[vop]
@[go_sem] theorem ZFO (C:Orc) (M:Zu) (sl:Sl) (hp:Hp) (base:Nat):vop C M sl hp base .stuck=none:=by simp only[vop]
@[go_sem] theorem Zy3 (hp:Hp) (n:Nat) (acc:List Nat):Q0 hp n [] acc=acc:=by cases n<;>rfl
@[go_sem] theorem tidy_d (hp:Hp) (ids:List Nat) (x:D):ZhZ hp ids (.d x)=.d x:=rfl
@[go_sem] theorem tidy_nil (hp:Hp) (ids:List Nat):ZhZ hp ids .nil=.nil:=rfl
@[go_sem] theorem tidy_junk (hp:Hp) (ids:List Nat):ZhZ hp ids .junk=.junk:=rfl
@[go_sem] theorem tidy_tup (hp:Hp) (ids:List Nat) (vs:List AV):ZhZ hp ids (.tup vs)=ren (UF ids) (kill (Zjy hp ids (ZH (.tup vs))) (.tup vs)):=rfl
@[go_sem] theorem tidy_agg (hp:Hp) (ids:List Nat) (vs:List AV):ZhZ hp ids (.agg vs)=ren (UF ids) (kill (Zjy hp ids (ZH (.agg vs))) (.agg vs)):=rfl
@[go_sem] theorem tidy_clo (hp:Hp) (ids:List Nat) (f:Nat) (vs:List AV):ZhZ hp ids (.clo f vs)=ren (UF ids) (kill (Zjy hp ids (ZH (.clo f vs))) (.clo f vs)):=rfl
@[go_sem] theorem tidy_nilp (hp:Hp) (ids:List Nat):ZhZ hp ids .nilp=.nilp:=rfl
@[go_sem] theorem tidy_nili (hp:Hp) (ids:List Nat):ZhZ hp ids .nili=.nili:=rfl
@[go_sem] theorem tidy_pim (hp:Hp) (ids:List Nat) (cs:List D):ZhZ hp ids (.pim cs)=.pim cs:=rfl
@[go_sem] theorem tidy_ptr (hp:Hp) (ids:List Nat) (id o:Nat):ZhZ hp ids (.ptr id o)=if Zhr hp ids id=true then .ptr (UF ids id) o else .junk:=by
 simp only[ZhZ,ZH,ZI,Zq,Zjy]
 split<;>simp[kill,Z7,Qv,ren,Zja,Zi9]
@[go_sem] theorem tidy_prow (hp:Hp) (ids:List Nat) (id s i o:Nat):ZhZ hp ids (.prow id s i o)=if Zhr hp ids id=true then .prow (UF ids id) s i o else .junk:=by
 simp only[ZhZ,ZH,ZI,Zq,Zjy]
 split<;>simp[kill,Z7,Qv,ren,Zja,Zi9]
@[go_sem] theorem tidy_own (hp:Hp) (ids:List Nat) (id:Nat):ZhZ hp ids (.own id)=if Zhr hp ids id=true then .own (UF ids id) else .junk:=by
 simp only[ZhZ,ZH,ZI,Zq,Zjy]
 split<;>simp[kill,Z7,Qv,ren,Zja,Zi9]
@[go_sem] theorem tidy_ownv (hp:Hp) (ids:List Nat) (id a b:Nat):ZhZ hp ids (.ownv id a b)=if Zhr hp ids id=true then .ownv (UF ids id) a b else .junk:=by
 simp only[ZhZ,ZH,ZI,Zq,Zjy]
 split<;>simp[kill,Z7,Qv,ren,Zja,Zi9]
@[go_sem] theorem ZFP (hp:Hp) (x:D):Wp 0 hp (.d x)=(.d x,[]):=by
 simp[Wp,ZH,ZI,Zq,UJ,Zy3,tidy_d,Zgh]
@[go_sem] theorem minI_eq (a b:Int):minI a b=min a b:=by unfold minI;split<;>omega
@[go_sem] theorem maxI_eq (a b:Int):maxI a b=max a b:=by unfold maxI;split<;>omega
@[go_sem] theorem negIf_f (r:Bool):Zp0 false r=r:=rfl
@[go_sem] theorem negIf_t (r:Bool):Zp0 true r=!r:=rfl
@[go_sem] theorem opt1_some (v:AV):UA (some v)=Qm v:=rfl
@[go_sem] theorem opt1_none:UA none=none:=rfl
@[go_sem] theorem vbin_int (op:BinOp) (k k' : IntKind) (a b:Int):vbin op (.d (.int k a)) (.d (.int k' b))=ZbK op k k' a b:=rfl
@[go_sem] theorem binV_int (op:BinOp) (eq:Bool) (k k' : IntKind) (a b:Int):Zfn op eq (.d (.int k a)) (.d (.int k' b))=UA (ZbK op k k' a b):=rfl
@[go_sem] theorem binV_str (op:BinOp) (eq:Bool) (a b:List UInt8):Zfn op eq (.d (.str a)) (.d (.str b))=UA (asD (ZuZ op a b)):=rfl
@[go_sem] theorem int2_add (k:IntKind) (a b:Int):ZbK .add k k a b=some (.d (.int k (k.wrap (a+b)))):=by simp[ZbK,Zaa,asD,Zj]
@[go_sem] theorem int2_sub (k:IntKind) (a b:Int):ZbK .sub k k a b=some (.d (.int k (k.wrap (a-b)))):=by simp[ZbK,Zaa,asD,Zj]
@[go_sem] theorem int2_mul (k:IntKind) (a b:Int):ZbK .mul k k a b=some (.d (.int k (k.wrap (a*b)))):=by simp[ZbK,Zaa,asD,Zj]
@[go_sem] theorem int2_quo (k:IntKind) (a b:Int):ZbK .quo k k a b=if b=0 then none else some (.d (.int k (k.wrap (a.tdiv b)))):=by simp only[ZbK,Zaa,asD,if_true];split<;>rfl
@[go_sem] theorem int2_rem (k:IntKind) (a b:Int):ZbK .rem k k a b=if b=0 then none else some (.d (.int k (a.tmod b))):=by simp only[ZbK,Zaa,asD,if_true];split<;>rfl
@[go_sem] theorem int2_eql (k:IntKind) (a b:Int):ZbK .eql k k a b=some (.d (.bool (decide (a=b)))):=by simp[ZbK,Zaa,asD,Zj,BEq.beq]
@[go_sem] theorem int2_neq (k:IntKind) (a b:Int):ZbK .neq k k a b=some (.d (.bool (!decide (a=b)))):=by simp[ZbK,Zaa,asD,Zj,bne,BEq.beq]
@[go_sem] theorem int2_lss (k:IntKind) (a b:Int):ZbK .lss k k a b=some (.d (.bool (decide (a<b)))):=by simp[ZbK,Zaa,asD,Zj]
@[go_sem] theorem int2_leq (k:IntKind) (a b:Int):ZbK .leq k k a b=some (.d (.bool (decide (a≤b)))):=by simp[ZbK,Zaa,asD,Zj]
@[go_sem] theorem int2_gtr (k:IntKind) (a b:Int):ZbK .gtr k k a b=some (.d (.bool (decide (b<a)))):=by simp[ZbK,Zaa,asD,Zj]
@[go_sem] theorem int2_geq (k:IntKind) (a b:Int):ZbK .geq k k a b=some (.d (.bool (decide (b≤a)))):=by simp[ZbK,Zaa,asD,Zj]
@[go_sem] theorem guardV_t (b:Bool):Ziw true (.d (.bool b))=some b:=by cases b<;>rfl
def nb (b:Bool):Bool:=!b
@[go_sem] theorem nb_true:nb true=false:=rfl
@[go_sem] theorem nb_false:nb false=true:=rfl
@[go_sem] theorem nb_eq (b:Bool):(nb b=true)=(b=false):=by cases b<;>simp[nb]
@[go_sem] theorem guardV_f (b:Bool):Ziw false (.d (.bool b))=some (nb b):=by cases b<;>rfl
@[go_sem] theorem ZFQ (w:Bool):Ziw w (.tup [])=some false:=rfl
@[go_sem] theorem ZCe (a b:Bool):Ziw true (ZkP a (.d (.bool b)))=some (a&&b):=by cases a<;>cases b<;>rfl
@[go_sem] theorem ZCf (a b:Bool):Ziw false (ZkP a (.d (.bool b)))=some (a&&nb b):=by cases a<;>cases b<;>rfl
@[go_sem] theorem iteV_true (v:AV):ZkP true v=v:=rfl
@[go_sem] theorem ZFR (v:AV):ZkP false v=.tup []:=rfl
@[go_sem] theorem ZFS (a b:AV):ZiY a b (.d (.bool true))=Qm a:=rfl
@[go_sem] theorem ZE0 (a b:AV):ZiY a b (.d (.bool false))=Qm b:=rfl
@[go_sem] theorem pickV_or (b c:Bool):ZiY (.d (.bool true)) (ZkP (nb b) (.d (.bool c))) (.d (.bool b))=Qm (.d (.bool (b || c))):=by cases b<;>rfl
@[go_sem] theorem pickV_and (b c:Bool):ZiY (ZkP b (.d (.bool c))) (.d (.bool false)) (.d (.bool b))=Qm (.d (.bool (b&&c))):=by cases b<;>rfl
theorem ZFT (a b:AV) (t:Bool):ZiY a b (.d (.bool t))=if t=true then Qm a else Qm b:=by cases t<;>rfl
@[go_sem] theorem dec_or (p q:Prop) [Decidable p] [Decidable q]:(decide p || decide q)=decide (p∨q):=by simp
@[go_sem] theorem dec_and (p q:Prop) [Decidable p] [Decidable q]:(decide p&&decide q)=decide (p∧q):=by simp
@[go_sem] theorem dec_not (p:Prop) [Decidable p]:(!decide p)=decide (¬p):=by simp
attribute [go_sem] Bool.or_eq_false_iff decide_eq_true_eq decide_eq_false_iff_not Bool.and_eq_true Bool.or_eq_true Bool.not_eq_true' Bool.not_eq_false' not_or Decidable.not_not
@[go_sem] theorem evO_t (sl:Sl) (n:Nat):evO sl (.t n)=gs sl n:=rfl
@[go_sem] theorem evO_v (sl:Sl) (a:AV):evO sl (.v a)=a:=rfl
@[go_sem] theorem evO_f (sl:Sl) (n:Nat):evO sl (.f n)=.clo n []:=rfl
@[go_sem] theorem gs_hit (k:Nat) (v:AV) (r:Sl):gs ((k,v) :: r) k=v:=by simp[gs,lkp,Zhh]
@[go_sem] theorem gs_cons (k t:Nat) (v:AV) (r:Sl):gs ((k,v) :: r) t=if k=t then v else gs r t:=by
 by_cases h:k=t<;>simp[gs,lkp,h,Zhh]
@[go_sem] theorem gs_nil (t:Nat):gs [] t=.junk:=rfl
attribute [go_sem] ZkM.eq_1 ZkM.eq_2
attribute [go_sem] Zew.eq_1 Zew.eq_2 Zew.eq_3
attribute [go_sem] ZoF.eq_1 ZoF.eq_2 ZoF.eq_3
attribute [go_sem] ZeS.eq_1 ZeS.eq_2
attribute [go_sem] St.hp.eq_1
attribute [go_sem] Ze9.eq_1 Ze9.eq_2 Ze9.eq_3
attribute [go_sem] Zhh.eq_1 Zhh.eq_2
attribute [go_sem] agg2.eq_1 agg2.eq_2 agg2.eq_3
attribute [go_sem] ins.eq_1 ins.eq_2
attribute [go_sem] Zig.eq_1 Zig.eq_2
attribute [go_sem] St.m.eq_1
attribute [go_sem] bnd.eq_1 bnd.eq_2
attribute [go_sem] ZbJ.eq_1 ZbJ.eq_2 ZbJ.eq_3
attribute [go_sem] ZuZ.eq_1 ZuZ.eq_2 ZuZ.eq_3 ZuZ.eq_4
attribute [go_sem] AV.cells.eq_1 AV.cells.eq_2 AV.cells.eq_3 AV.cells.eq_4 AV.cells.eq_5 AV.cells.eq_6 AV.cells.eq_7 AV.cells.eq_8 AV.cells.eq_9 AV.cells.eq_10 AV.cells.eq_11 AV.cells.eq_12 AV.cells.eq_13 AV.cells.eq_14
attribute [go_sem] Qv.eq_1 Qv.eq_2 Qv.eq_3 Qv.eq_4 Qv.eq_5 Qv.eq_6
attribute [go_sem] AV.solid.eq_1 AV.solid.eq_2 AV.solid.eq_3
attribute [go_sem] UD.eq_1 UD.eq_2
attribute [go_sem] QV.eq_1 QV.eq_2
attribute [go_sem] Zkd.eq_1 Zkd.eq_2
attribute [go_sem] Ze8.eq_1
attribute [go_sem] Zhi.eq_1 Zhi.eq_2 Zhi.eq_3 Zhi.eq_4 Zhi.eq_5
attribute [go_sem] Zje.eq_1 Zje.eq_2
attribute [go_sem] D.flat.eq_1
attribute [go_sem] give.eq_1 give.eq_2
attribute [go_sem] D.beq1.eq_1 D.beq1.eq_2 D.beq1.eq_3 D.beq1.eq_4
attribute [go_sem] Zi9.eq_1 Zi9.eq_2 Zi9.eq_3 Zi9.eq_4 Zi9.eq_5 Zi9.eq_6
attribute [go_sem] not1.eq_1 not1.eq_2
attribute [go_sem] Yw.eq_1 Yw.eq_2 Yw.eq_3
attribute [go_sem] St.nx.eq_1
attribute [go_sem] ZI.eq_1 ZI.eq_2 ZI.eq_3
attribute [go_sem] Zja.eq_1 Zja.eq_2 Zja.eq_3
attribute [go_sem] ZlY.eq_1 ZlY.eq_2
attribute [go_sem] vun.eq_1 vun.eq_2 vun.eq_3
attribute [go_sem] toD.eq_1 toD.eq_2
attribute [go_sem] Zq.eq_1 Zq.eq_2 Zq.eq_3 Zq.eq_4 Zq.eq_5 Zq.eq_6 Zq.eq_7 Zq.eq_8 Zq.eq_9 Zq.eq_10 Zq.eq_11 Zq.eq_12 Zq.eq_13 Zq.eq_14
attribute [go_sem] D.plain.eq_1 D.plain.eq_2 D.plain.eq_3 D.plain.eq_4 D.plain.eq_5
attribute [go_sem] Qt.eq_1
attribute [go_sem] Z7.eq_1 Z7.eq_2 Z7.eq_3
attribute [go_sem] Zkc.eq_1 Zkc.eq_2
attribute [go_sem] ZH.eq_1 ZH.eq_2
attribute [go_sem] ZwE.eq_1
attribute [go_sem] ZkO.eq_1 ZkO.eq_2
attribute [go_sem] Zfa.eq_1 Zfa.eq_2 Zfa.eq_3 Zfa.eq_4
attribute [go_sem] St.sl.eq_1
attribute [go_sem] ZyA.eq_1 ZyA.eq_2
attribute [go_sem] Jv.eq_1 Jv.eq_2
attribute [go_sem] Zif.eq_1 Zif.eq_2
attribute [go_sem] ren.eq_1 ren.eq_2
attribute [go_sem] kill.eq_1 kill.eq_2
attribute [go_sem] lkp.eq_1 lkp.eq_2
attribute [go_sem] ZsB.eq_1 ZsB.eq_2 ZsB.eq_3
attribute [go_sem] Wl.eq_1 Wl.eq_2
attribute [go_sem] beqL.eq_1 beqL.eq_2 beqL.eq_3
attribute [go_sem] D.cells.eq_1 D.cells.eq_2 D.cells.eq_3 D.cells.eq_4 D.cells.eq_5
attribute [go_sem] Zpo.eq_1 Zpo.eq_2
attribute [go_sem] ZsA.eq_1 ZsA.eq_2
attribute [go_sem] neg1.eq_1 neg1.eq_2
attribute [go_sem] Zm7.eq_1 Zm7.eq_2 Zm7.eq_3
attribute [go_sem] WS.eq_1 WS.eq_2 WS.eq_3
attribute [go_sem] asD.eq_1
attribute [go_sem] Zaa.eq_1 Zaa.eq_2 Zaa.eq_3 Zaa.eq_4 Zaa.eq_5 Zaa.eq_6 Zaa.eq_7 Zaa.eq_8 Zaa.eq_9 Zaa.eq_10 Zaa.eq_11 Zaa.eq_12 Zaa.eq_13 Zaa.eq_14 Zaa.eq_15 Zaa.eq_16 Zaa.eq_17
attribute [go_sem] ZkN.eq_1 ZkN.eq_2 ZkN.eq_3 ZkN.eq_4 ZkN.eq_5
attribute [go_sem] D.one.eq_1 D.one.eq_2 D.one.eq_3 D.one.eq_4 D.one.eq_5
attribute [go_sem] freeze.eq_1 freeze.eq_2
attribute [go_sem] Zhl.eq_1
attribute [go_sem] loOf.eq_1 loOf.eq_2
attribute [go_sem] Eff.on.eq_1
attribute [go_sem] ZdJ.eq_1 ZdJ.eq_2
attribute [go_sem] cloV.eq_1
attribute [go_sem] slice0.eq_1 slice0.eq_2
attribute [go_sem] evM.eq_1 evM.eq_2
attribute [go_sem] hiOf.eq_1 hiOf.eq_2
attribute [go_sem] Zmh.eq_1 Zmh.eq_2 Zmh.eq_3
attribute [go_sem] Zyj.eq_1
attribute [go_sem] idx.eq_1 idx.eq_2
attribute [go_sem] Uz.eq_1 Uz.eq_2 Uz.eq_3 Uz.eq_4 Uz.eq_5
attribute [go_sem] Zez.eq_1 Zez.eq_2 Zez.eq_3
attribute [go_sem] Qy.eq_1 Qy.eq_2
attribute [go_sem] D.notSl.eq_1 D.notSl.eq_2
attribute [go_sem] ZAe.eq_1 ZAe.eq_2
attribute [go_sem] Zgi.eq_1 Zgi.eq_2 Zgi.eq_3 Zgi.eq_4 Zgi.eq_5 Zgi.eq_6
attribute [go_sem] CO.guard.eq_1
attribute [go_sem] Zjb.eq_1
attribute [go_sem] ZbP.eq_1
attribute [go_sem] Zge.eq_1 Zge.eq_2
attribute [go_sem] Zmg.eq_1
attribute [go_sem] Eff.adds.eq_1
attribute [go_sem] UF.eq_1 UF.eq_2
attribute [go_sem] Zi.eq_1 Zi.eq_2
attribute [go_sem] Zf.eff.eq_1
attribute [go_sem] Zjs.eq_1 Zjs.eq_2
attribute [go_sem] ZvG.eq_1 ZvG.eq_2
attribute [go_sem] Znj.eq_1 Znj.eq_2 Znj.eq_3
attribute [go_sem] del.eq_1 del.eq_2
attribute [go_sem] ZpZ.eq_1
attribute [go_sem] Zt0.eq_1 Zt0.eq_2
attribute [go_sem] Zdi.eq_1 Zdi.eq_2
attribute [go_sem] Zml.eq_1 Zml.eq_2
attribute [go_sem] ZbR.eq_1 ZbR.eq_2 ZbR.eq_3 ZbR.eq_4 ZbR.eq_5
attribute [go_sem] Zir.eq_1
attribute [go_sem] slice3.eq_1
attribute [go_sem] Zgg.eq_1 Zgg.eq_2
attribute [go_sem] args.eq_1 args.eq_2
attribute [go_sem] Zlu.eq_1 Zlu.eq_2
attribute [go_sem] Zmk.eq_1 Zmk.eq_2
attribute [go_sem] ZeU.eq_1 ZeU.eq_2
attribute [go_sem] ZgR.eq_1
attribute [go_sem] ZgT.deepRow.eq_1 ZgT.deepRow.eq_2
attribute [go_sem] Zkq.eq_1 Zkq.eq_2
attribute [go_sem] Zmj.eq_1
attribute [go_sem] evL.eq_1 evL.eq_2
attribute [go_sem] ZdK.eq_1 ZdK.eq_2 ZdK.eq_3
attribute [go_sem] Zgh.eq_1 Zgh.eq_2
attribute [go_sem] ZpY.eq_1 ZpY.eq_2
attribute [go_sem] Eff.sets.eq_1
attribute [go_sem] Zho.eq_1 Zho.eq_2 Zho.eq_3
attribute [go_sem] ZhM.eq_1
attribute [go_sem] Zjr.eq_1 Zjr.eq_2
attribute [go_sem] Zdh.eq_1 Zdh.eq_2 Zdh.eq_3
attribute [go_sem] Zxe.eq_1
attribute [go_sem] ZrQ.eq_1
attribute [go_sem] WV.eq_1 WV.eq_2
attribute [go_sem] Znk.eq_1 Znk.eq_2
attribute [go_sem] Zgn.eq_1 Zgn.eq_2
attribute [go_sem] Zp1.eq_1
attribute [go_sem] buildDp.eq_1 buildDp.eq_2
attribute [go_sem] AV.atom.eq_1 AV.atom.eq_2 AV.atom.eq_3 AV.atom.eq_4 AV.atom.eq_5
attribute [go_sem] Zt4.eq_1
attribute [go_sem] Eff.dels.eq_1
attribute [go_sem] ZgQ.eq_1 ZgQ.eq_2 ZgQ.eq_3
attribute [go_sem] mat.eq_1 mat.eq_2 mat.eq_3
attribute [go_sem] ZX.eq_1
attribute [go_sem] Zgk.eq_1 Zgk.eq_2
attribute [go_sem] ZvD.eq_1 ZvD.eq_2
attribute [go_sem] Zt2.eq_1
attribute [go_sem] Zxc.eq_1
attribute [go_sem] Jx.eq_1
attribute [go_sem] QP.eq_1 QP.eq_2 QP.eq_3 QP.eq_4
attribute [go_sem] Zxd.eq_1
attribute [go_sem] ZhN.eq_1 ZhN.eq_2
attribute [go_sem] ZvI.eq_1 ZvI.eq_2
attribute [go_sem] Zjq.eq_1 Zjq.eq_2 Zjq.eq_3 Zjq.eq_4
attribute [go_sem] Zlt.eq_1 Zlt.eq_2
attribute [go_sem] Ziq.eq_1 Ziq.eq_2
attribute [go_sem] ZhP.eq_1 ZhP.eq_2 ZhP.eq_3 ZhP.eq_4 ZhP.eq_5
attribute [go_sem] Zt1.eq_1 Zt1.eq_2
attribute [go_sem] ZgU.eq_1 ZgU.eq_2
attribute [go_sem] convS.eq_1 convS.eq_2
attribute [go_sem] Zkr.eq_1 Zkr.eq_2
attribute [go_sem] CO.tl.eq_1
attribute [go_sem] Wg.eq_1 Wg.eq_2 Wg.eq_3
attribute [go_sem] CO.dst.eq_1
attribute [go_sem] Zxf.eq_1 Zxf.eq_2 Zxf.eq_3
attribute [go_sem] Zjp.eq_1
attribute [go_sem] Zlv.eq_1 Zlv.eq_2
attribute [go_sem] ZgT.eq_1 ZgT.eq_2 ZgT.eq_3 ZgT.eq_4
attribute [go_sem] Zmi.eq_1 Zmi.eq_2
attribute [go_sem] Zfo.eq_1 Zfo.eq_2 Zfo.eq_3
attribute [go_sem] Zs1.eq_1
attribute [go_sem] Eff.val.eq_1
attribute [go_sem] sliceS.eq_1 sliceS.eq_2
attribute [go_sem] V0.eq_1 V0.eq_2 V0.eq_3
attribute [go_sem] buildSl.eq_1 buildSl.eq_2
attribute [go_sem] Zaf.eq_1 Zaf.eq_2 Zaf.eq_3 Zaf.eq_4
attribute [go_sem] Zc9.eq_1 Zc9.eq_2 Zc9.eq_3 Zc9.eq_4 Zc9.eq_5
attribute [go_sem] Zoh.eq_1 Zoh.eq_2
attribute [go_sem] Zoi.eq_1
attribute [go_sem] evP.eq_1 evP.eq_2
attribute [go_sem] Zgl.eq_1 Zgl.eq_2
attribute [go_sem] Zfd.eq_1
attribute [go_sem] ZhO.eq_1
attribute [go_sem] Zs0.eq_1 Zs0.eq_2
attribute [go_sem] Zp0.eq_1
attribute [go_sem] UR.eq_1
attribute [go_sem] ZvH.eq_1
attribute [go_sem] Zgf.eq_1 Zgf.eq_2
attribute [go_sem] ZbO.eq_1 ZbO.eq_2
attribute [go_sem] Zgm.eq_1 Zgm.eq_2
attribute [go_sem] asgDp.eq_1 asgDp.eq_2
attribute [go_sem] Zls.eq_1 Zls.eq_2 Zls.eq_3
attribute [go_sem] ZvE.eq_1 ZvE.eq_2
attribute [go_sem] CO.op.eq_1
attribute [go_sem] ZgS.eq_1 ZgS.eq_2
attribute [go_sem] Zhm.eq_1 Zhm.eq_2
attribute [go_sem] Zza.eq_1 Zza.eq_2
attribute [go_sem] Zt3.eq_1 Zt3.eq_2
attribute [go_sem] Zhn.eq_1 Zhn.eq_2 Zhn.eq_3 Zhn.eq_4 Zhn.eq_5 Zhn.eq_6 Zhn.eq_7 Zhn.eq_8 Zhn.eq_9
attribute [go_sem] ZbQ.eq_1
attribute [go_sem] WU.eq_1 WU.eq_2 WU.eq_3 WU.eq_4
attribute [go_sem] Eff.frz.eq_1
attribute [go_sem] Qo.eq_1 Qo.eq_2
attribute [go_sem] Zkp.eq_1 Zkp.eq_2
attribute [go_sem] Zf.gone.eq_1
attribute [go_sem] meltIn.eq_1 meltIn.eq_2
attribute [go_sem] Zjt.eq_1
attribute [go_sem] ZvF.eq_1 ZvF.eq_2
attribute [go_sem] convI.eq_1 convI.eq_2
attribute [go_sem] Zpg.eq_1 Zpg.eq_2
attribute [go_sem] bd.eq_1
attribute [go_sem] Zgj.eq_1 Zgj.eq_2
attribute [go_sem] Yy.eq_1
attribute [go_sem] ZhQ.eq_1 ZhQ.eq_2
attribute [go_sem] ZrP.eq_1 ZrP.eq_2
attribute [go_sem] Zyo.eq_1 Zyo.eq_2
attribute [go_sem] ZP.eq_1 ZP.eq_2 ZP.eq_3 ZP.eq_4 ZP.eq_5 ZP.eq_6 ZP.eq_7 ZP.eq_8 ZP.eq_9 ZP.eq_10 ZP.eq_11 ZP.eq_12 ZP.eq_13 ZP.eq_14 ZP.eq_15 ZP.eq_16 ZP.eq_17 ZP.eq_18 ZP.eq_19 ZP.eq_20 ZP.eq_21 ZP.eq_22 ZP.eq_23 ZP.eq_24 ZP.eq_25 ZP.eq_26 ZP.eq_27 ZP.eq_28 ZP.eq_29 ZP.eq_30 ZP.eq_31 ZP.eq_32 ZP.eq_33 ZP.eq_34 ZP.eq_35 ZP.eq_36 ZP.eq_37 ZP.eq_38 ZP.eq_39
attribute [go_sem] Zbu.eq_1 Zbu.eq_2 Zbu.eq_3 Zbu.eq_4 Zbu.eq_5
attribute [go_sem] Zjz.eq_1
attribute [go_sem] Zug.eq_1 Zug.eq_2
attribute [go_sem] Zff.eq_1 Zff.eq_2
attribute [go_sem] Zhs.eq_1
attribute [go_sem] Zjw.eq_1 Zjw.eq_2 Zjw.eq_3 Zjw.eq_4 Zjw.eq_5
attribute [go_sem] ZaR.eq_1 ZaR.eq_2
attribute [go_sem] Zqj.eq_1 Zqj.eq_2
attribute [go_sem] XF.eq_1 XF.eq_2
attribute [go_sem] only.eq_1 only.eq_2
attribute [go_sem] Zxo.eq_1 Zxo.eq_2
attribute [go_sem] Zjx.eq_1 Zjx.eq_2
attribute [go_sem] UT.eq_1 UT.eq_2
attribute [go_sem] okL.eq_1 okL.eq_2
attribute [go_sem] okC.eq_1 okC.eq_2 okC.eq_3 okC.eq_4 okC.eq_5 okC.eq_6 okC.eq_7 okC.eq_8 okC.eq_9 okC.eq_10
attribute [go_sem] Zpi.eq_1 Zpi.eq_2
attribute [go_sem] Zlz.eq_1 Zlz.eq_2
attribute [go_sem] Zix.eq_1 Zix.eq_2 Zix.eq_3
attribute [go_sem] Zky.eq_1 Zky.eq_2
attribute [go_sem] Zjy.eq_1 Zjy.eq_2
attribute [go_sem] X0.eq_1 X0.eq_2
attribute [go_sem] Zx.eq_1 Zx.eq_2
attribute [go_sem] Ug.eq_1 Ug.eq_2 Ug.eq_3
attribute [go_sem] Zmu.eq_1
attribute [go_sem] UB.eq_1 UB.eq_2
attribute [go_sem] ZbX.eq_1 ZbX.eq_2
attribute [go_sem] CO.starts.eq_1
attribute [go_sem] Wj.eq_1 Wj.eq_2
attribute [go_sem] Q7.eq_1 Q7.eq_2
attribute [go_sem] Zyn.eq_1 Zyn.eq_2
attribute [go_sem] Zny.eq_1
attribute [go_sem] Ziz.eq_1 Ziz.eq_2
attribute [go_sem] UJ.eq_1 UJ.eq_2
attribute [go_sem] Zhr.eq_1
attribute [go_sem] Zz.body.eq_1
attribute [go_sem] ZlA.eq_1 ZlA.eq_2
attribute [go_sem] ZaQ.eq_1 ZaQ.eq_2 ZaQ.eq_3 ZaQ.eq_4 ZaQ.eq_5 ZaQ.eq_6
attribute [go_sem] Zz.res.eq_1
attribute [go_sem] Wo.eq_1 Wo.eq_2
attribute [go_sem] VE.eq_1 VE.eq_2 VE.eq_3 VE.eq_4 VE.eq_5 VE.eq_6 VE.eq_7 VE.eq_8 VE.eq_9 VE.eq_10 VE.eq_11 VE.eq_12
attribute [go_sem] ZoH.eq_1 ZoH.eq_2
attribute [go_sem] ZeA.eq_1 ZeA.eq_2
attribute [go_sem] Zz.nt.eq_1
attribute [go_sem] okD.eq_1 okD.eq_2
attribute [go_sem] ZrP.eq_1 Zc9.eq_1 Zc9.eq_2 Zc9.eq_3 Zc9.eq_4
attribute [go_sem] J6.eq_1 Zgs.eq_1 Zgs.eq_2 Zgs.eq_3 Zgs.eq_4 Zgs.eq_5 Zgs.eq_6 Zgs.eq_7 Zgs.eq_8 Zgs.eq_9 Zgs.eq_10 Wp.eq_1
attribute [go_sem] Q0.eq_3 XE.eq_1 AV.atom.eq_1 AV.atom.eq_2 AV.atom.eq_3 AV.atom.eq_4
attribute [go_sem] Zvv.eq_1 Zvv.eq_2 ZpR.eq_1 ZpR.eq_2
attribute [go_sem] Zj ZzL ZBR
attribute [go_sem] List.map_cons List.map_nil List.flatMap_cons List.flatMap_nil List.append_nil List.nil_append List.cons_append List.length_cons List.length_nil List.all_cons List.all_nil List.any_cons List.any_nil List.contains_cons List.contains_nil List.filter_cons List.filter_nil List.drop_zero List.drop_succ_cons List.drop_nil List.take_zero List.take_succ_cons List.take_nil List.getElem?_cons_zero List.getElem?_cons_succ List.getElem?_nil Option.map_some Option.map_none Bool.and_true Bool.true_and Bool.and_false Bool.false_and Bool.or_true Bool.true_or Bool.or_false Bool.false_or Bool.not_true Bool.not_false decide_true decide_false and_true true_and and_false false_and not_true not_false_eq_true or_true true_or or_false false_or if_true if_false true_implies false_implies implies_true imp_self eq_self ne_eq beq_self_eq_true Bool.true_eq_false Bool.false_eq_true List.isEmpty_nil List.isEmpty_cons List.range_zero List.set_cons_zero List.set_cons_succ Option.some.injEq reduceCtorEq Nat.reduceLeDiff
def ZpS (hp:Hp):List Nat→List Nat
 | []=>[]
 | i :: r=>if Wg (lkp hp i)=true then i :: ZpS hp r else ZpS hp r
theorem gE (hp:Hp) (ids:List Nat):(ids.filter fun i=>Wg (lkp hp i))=ZpS hp ids:=by
 induction ids with
 | nil=>rfl
 | cons i r ih=>simp only[List.filter_cons,ZpS,ih]
def ZsS (hp:Hp) (rs:List Nat):List Nat→Bool
 | []=>true
 | i :: r=>(Wg (lkp hp i) || rs.contains i)&&ZsS hp rs r
def ZsT (hp:Hp):List Nat→Bool
 | []=>false
 | i :: r=>ZeU (lkp hp i) || ZsT hp r
theorem gG (hp:Hp) (ids:List Nat):(ids.any fun i=>ZeU (lkp hp i))=ZsT hp ids:=by
 induction ids with
 | nil=>rfl
 | cons i r ih=>simp only[List.any_cons,ZsT,ih]
attribute [go_sem] ZsT.eq_1 ZsT.eq_2
@[go_sem] theorem appTo_nil (hp:Hp) (s b:Nat) (str flat:Bool) (base:Nat) (y:AV):ZhR hp s b str flat base y .nil=WV hp s b str flat base .nil y ([]++Vs hp y):=rfl
@[go_sem] theorem appTo_own (hp:Hp) (s b:Nat) (str flat:Bool) (base:Nat) (y:AV) (k:Nat):ZhR hp s b str flat base y (.own k)=WV hp s b str flat base (.own k) y ((if ZeU (lkp hp k)=true then [k] else [])++Vs hp y):=rfl
@[go_sem] theorem ZFU (hp:Hp) (s b:Nat) (str flat:Bool) (base:Nat) (y:AV) (k o n:Nat):ZhR hp s b str flat base y (.ownv k o n)=WV hp s b str flat base (.ownv k o n) y ([]++Vs hp y):=rfl
@[go_sem] theorem deepId_d (hp:Hp) (x:D):Vs hp (.d x)=[]:=rfl
@[go_sem] theorem ZFV (hp:Hp):Vs hp .nil=[]:=rfl
@[go_sem] theorem ZE1 (hp:Hp) (k o n:Nat):Vs hp (.ownv k o n)=[]:=rfl
@[go_sem] theorem ZFW (hp:Hp) (k:Nat):Vs hp (.own k)=if ZeU (lkp hp k)=true then [k] else []:=rfl
@[go_sem] theorem appTo_sub (hp:Hp) (s b:Nat) (str flat:Bool) (base:Nat) (y:AV) (id nm:Nat):ZhR hp s b str flat base y (.sub id nm)=if str then none else bnd (ZhP hp true y) fun q=>if (Ze9 y).contains id then none else Zlv s b base id nm q (lkp hp id):=rfl
theorem gF (hp:Hp) (rs ids:List Nat):Zfm hp rs ids=ZsS hp rs ids:=by
 induction ids with
 | nil=>rfl
 | cons i r ih=>simp only[Zfm,List.all_cons,ZsS] at ih ⊢;rw[ih]
attribute [go_sem] ZpS.eq_1 ZpS.eq_2 ZsS.eq_1 ZsS.eq_2
@[go_sem] theorem okV_d (x:D):okV (.d x)=true:=rfl
@[go_sem] theorem okV_nil:okV .nil=true:=rfl
@[go_sem] theorem okV_nilp:okV .nilp=true:=rfl
@[go_sem] theorem okV_nili:okV .nili=true:=rfl
@[go_sem] theorem okV_ptr (a b:Nat):okV (.ptr a b)=true:=rfl
@[go_sem] theorem okV_prow (a b c e:Nat):okV (.prow a b c e)=true:=rfl
@[go_sem] theorem okV_pim (cs:List D):okV (.pim cs)=true:=rfl
@[go_sem] theorem okV_own (a:Nat):okV (.own a)=true:=rfl
@[go_sem] theorem okV_ownv (a b c:Nat):okV (.ownv a b c)=true:=rfl
@[go_sem] theorem okV_agg (cs:List AV):okV (.agg cs)=Zug cs:=rfl
@[go_sem] theorem okV_tup0:okV (.tup [])=true:=rfl
@[go_sem] theorem ZE2 (sl:Sl) (a:COp) (k:Nat):seenSrc sl a (.own k)=X0 sl k (ZP a):=rfl
@[go_sem] theorem seenSrc_d (sl:Sl) (a:COp) (x:D):seenSrc sl a (.d x)=true:=rfl
@[go_sem] theorem ZE3 (sl:Sl) (a:COp):seenSrc sl a .nil=true:=rfl
@[go_sem] theorem ZCg (sl:Sl) (a:COp) (x y z:Nat):seenSrc sl a (.ownv x y z)=true:=rfl
@[go_sem] theorem okV_iteV (b:Bool) (v:AV):okV (ZkP b v)=(!b || okV v):=by cases b<;>simp[ZkP,okV]
@[go_sem] theorem awayV_d (sl:Sl) (xs:List Opd) (x:D):Zgt sl xs (.d x)=true:=rfl
@[go_sem] theorem awayV_nil (sl:Sl) (xs:List Opd):Zgt sl xs .nil=true:=rfl
@[go_sem] theorem ZFX (sl:Sl) (xs:List Opd):Zgt sl xs .nilp=true:=rfl
@[go_sem] theorem awayV_ptr (sl:Sl) (xs:List Opd) (k o:Nat):Zgt sl xs (.ptr k o)=X0 sl k xs:=rfl
@[go_sem] theorem awayV_pim (sl:Sl) (xs:List Opd) (cs:List D):Zgt sl xs (.pim cs)=true:=rfl
@[go_sem] theorem awayV_own (sl:Sl) (xs:List Opd) (a:Nat):Zgt sl xs (.own a)=true:=rfl
@[go_sem] theorem ZFY (sl:Sl) (xs:List Opd) (a b c:Nat):Zgt sl xs (.ownv a b c)=true:=rfl
@[go_sem] theorem awayV_agg (sl:Sl) (xs:List Opd) (cs:List AV):Zgt sl xs (.agg cs)=true:=rfl
@[go_sem] theorem awayV_tup (sl:Sl) (xs:List Opd) (cs:List AV):Zgt sl xs (.tup cs)=true:=rfl
end Go.Abs.E
