/- The abstract semantics as rewriting rules: what must hold for a code to come to a state of which something is true. Own text. -/
import Derived.Test.YtkdjbefmiiibpaaGreatDoorAbsRun
set_option linter.unusedVariables false
set_option linter.unusedSimpArgs false
namespace Go.Abs.E
open Go Go.Abs
abbrev _root_.Go.Abs.Opd.i (n:Int):Opd:=.v (.d (.int .i64 n))
abbrev _root_.Go.Abs.Opd.b (x:Bool):Opd:=.v (.d (.bool x))
def stW {α:Type} (x:Option α) (K:α→Prop):Prop:=match x with
 | some a=>K a
 | none=>False
def gW (x:Option Bool) (A B:Prop):Prop:=match x with
 | some b=>(b=true→A)∧(b=false→B)
 | none=>False
def Ut (v:AV) (A B:Prop):Prop:=match v with
 | .d (.bool t)=>(t=true→A)∧(t=false→B)
 | _=>False
theorem UN {α:Type} (a:α) (K:α→Prop):stW (some a) K=K a:=rfl
theorem Zh3 {α:Type} (K:α→Prop):stW none K=False:=rfl
theorem Zbw {α β:Type} (x:Option α) (f:α→Option β) (K:β→Prop):stW (bnd x f) K=stW x fun a=>stW (f a) K:=by cases x<;>rfl
@[go_sem] theorem ZuM (A B:Prop):gW (some true) A B=A:=by simp[gW]
@[go_sem] theorem gW_false (A B:Prop):gW (some false) A B=B:=by simp[gW]
@[go_sem] theorem gW_dec (p:Prop) [Decidable p] (A B:Prop):gW (some (decide p)) A B=((p→A)∧(¬p→B)):=by simp[gW]
@[go_sem] theorem gW_not (b:Bool) (A B:Prop):gW (some (!b)) A B=gW (some b) B A:=by cases b<;>simp[gW]
theorem gW_some (b:Bool) (A B:Prop):gW (some b) A B=((b=true→A)∧(b=false→B)):=rfl
@[go_sem] theorem ZBs (A B:Prop):Ut (.d (.bool true)) A B=A:=by simp[Ut]
@[go_sem] theorem ZAZ (A B:Prop):Ut (.d (.bool false)) A B=B:=by simp[Ut]
@[go_sem] theorem condW_dec (p:Prop) [Decidable p] (A B:Prop):Ut (.d (.bool (decide p))) A B=((p→A)∧(¬p→B)):=by simp[Ut]
@[go_sem] theorem condW_not (b:Bool) (A B:Prop):Ut (.d (.bool (!b))) A B=Ut (.d (.bool b)) B A:=by cases b<;>simp[Ut]
@[go_sem] theorem condW_and (a b:Bool) (A B:Prop):Ut (.d (.bool (a&&b))) A B=Ut (.d (.bool a)) (Ut (.d (.bool b)) A B) B:=by cases a<;>cases b<;>simp[Ut]
@[go_sem] theorem condW_or (a b:Bool) (A B:Prop):Ut (.d (.bool (a || b))) A B=Ut (.d (.bool a)) A (Ut (.d (.bool b)) A B):=by cases a<;>cases b<;>simp[Ut]
@[go_sem] theorem ZBt (b:Bool) (A B:Prop):Ut (.d (.bool b)) A B=((b=true→A)∧(b=false→B)):=rfl
@[congr] theorem gW_congr {x y:Option Bool} {A B:Prop} (h:x=y):gW x A B=gW y A B:=by rw[h]
@[congr] theorem ZA0 {v w:AV} {A B:Prop} (h:v=w):Ut v A B=Ut w A B:=by rw[h]
section
variable (X:Fns) (M:Zo)
noncomputable def ZcT (nx:Nat):Nat→List CO→Sl→Hp→(Sl→Hp→Prop)→Prop
 | _,[],sl,hp,K=>K sl hp
 | i,o :: rest,sl,hp,K=>gW (Z9 sl o.guard)
   (stW (Y1 (nx+64*i) o.dst sl hp (vop (Zk X M) M sl hp (nx+64*i) o.op)) fun r=>ZcT nx (i+1) rest r.1 r.2 K)
   (ZcT nx (i+1) rest (Zs sl o.dst (.tup [])) hp K)
def Zbj (nx i:Nat) (d:Option Nat) (rest:List CO) (sl:Sl) (hp:Hp) (K:Sl→Hp→Prop) (e:Option Zb):Prop:=
 stW (Y1 (nx+64*i) d sl hp e) fun r=>ZcT X M nx (i+1) rest r.1 r.2 K
@[go_sem] theorem opsW_nil (nx i:Nat) (sl:Sl) (hp:Hp) (K:Sl→Hp→Prop):ZcT X M nx i [] sl hp K=K sl hp:=rfl
@[go_sem] theorem opsW_cons (nx i:Nat) (d:Option Nat) (tl:Bool) (op:COp) (rest:List CO) (sl:Sl) (hp:Hp) (K:Sl→Hp→Prop) :
  ZcT X M nx i (⟨d,none,op,tl⟩ :: rest) sl hp K=Zbj X M nx i d rest sl hp K (vop (Zk X M) M sl hp (nx+64*i) op):=by
 simp[ZcT,Zbj,Z9,ZuM]
def Zgl (b:Bool) (v:AV):AV:=if b then v else .tup []
def JV (b:Bool) (nx i:Nat) (d:Option Nat) (rest:List CO) (sl:Sl) (hp:Hp) (K:Sl→Hp→Prop) (e:Option Zb):Prop:=
 gW (some b) (Zbj X M nx i d rest sl hp K e) (ZcT X M nx (i+1) rest (Zs sl d (.tup [])) hp K)
def Zqr (g:Option Bool) (nx i:Nat) (d:Option Nat) (op:COp) (rest:List CO) (sl:Sl) (hp:Hp) (K:Sl→Hp→Prop):Prop:=
 gW g (Zbj X M nx i d rest sl hp K (vop (Zk X M) M sl hp (nx+64*i) op)) (ZcT X M nx (i+1) rest (Zs sl d (.tup [])) hp K)
@[go_sem] theorem ZBu (nx i g:Nat) (w:Bool) (d:Option Nat) (tl:Bool) (op:COp) (rest:List CO) (sl:Sl) (hp:Hp) (K:Sl→Hp→Prop) :
  ZcT X M nx i (⟨d,some (g,w),op,tl⟩ :: rest) sl hp K=Zqr X M (Zem w (gs sl g)) nx i d op rest sl hp K:=rfl
@[go_sem] theorem ZA1 (b:Bool) (nx i:Nat) (d:Option Nat) (op:COp) (rest:List CO) (sl:Sl) (hp:Hp) (K:Sl→Hp→Prop) :
  Zqr X M (some b) nx i d op rest sl hp K=JV X M b nx i d rest sl hp K (vop (Zk X M) M sl hp (nx+64*i) op):=rfl
@[go_sem] theorem gA (nx i:Nat) (d:Option Nat) (rest:List CO) (sl:Sl) (hp:Hp) (K:Sl→Hp→Prop) (e:Option Zb) :
  JV X M true nx i d rest sl hp K e=Zbj X M nx i d rest sl hp K e:=by simp[JV,gW]
@[go_sem] theorem gB (nx i:Nat) (d:Option Nat) (rest:List CO) (sl:Sl) (hp:Hp) (K:Sl→Hp→Prop) (e:Option Zb) :
  JV X M false nx i d rest sl hp K e=ZcT X M nx (i+1) rest (Zs sl d (.tup [])) hp K:=by simp[JV,gW]
@[go_sem] theorem Zqs (b:Bool) (nx i:Nat) (d:Option Nat) (rest:List CO) (sl:Sl) (hp:Hp) (K:Sl→Hp→Prop) (v:AV) :
  JV X M b nx i d rest sl hp K (QY v)=ZcT X M nx (i+1) rest (Zs sl d (Zgl b v)) hp K:=by
 cases b
 ·simp[JV,gW,Zgl]
 ·simp only[JV,gW,Zgl,if_true,true_implies,Bool.true_eq_false,false_implies,and_true];rfl
@[go_sem] theorem ZA2 (b:Bool) (nx i:Nat) (d:Option Nat) (rest:List CO) (sl:Sl) (hp:Hp) (K:Sl→Hp→Prop) (v:AV) :
  JV X M b nx i d rest sl hp K (some { eff := { val:=v,adds:=[],sets:=[],dels:=[],frz:=[] },gone:=[] })=ZcT X M nx (i+1) rest (Zs sl d (Zgl b v)) hp K:=Zqs X M b nx i d rest sl hp K v
@[congr] theorem ZAh {g g' : Option Bool} {nx i:Nat} {d:Option Nat} {op:COp} {rest:List CO} {sl:Sl} {hp:Hp} {K:Sl→Hp→Prop} (h:g=g') :
  Zqr X M g nx i d op rest sl hp K=Zqr X M g' nx i d op rest sl hp K:=by rw[h]
@[congr] theorem ZAi {b b' : Bool} {nx i:Nat} {d:Option Nat} {rest:List CO} {sl:Sl} {hp:Hp} {K:Sl→Hp→Prop} {e e' : Option Zb} (hb:b=b') (h:b'=true→e=e') :
  JV X M b nx i d rest sl hp K e=JV X M b' nx i d rest sl hp K e':=by
 subst hb
 cases b
 ·simp[JV,gW]
 ·rw[h rfl]
@[go_sem] theorem ZA3 (nx i:Nat) (d:Option Nat) (rest:List CO) (sl:Sl) (hp:Hp) (K:Sl→Hp→Prop) (v:AV) :
  Zbj X M nx i d rest sl hp K (QY v)=ZcT X M nx (i+1) rest (Zs sl d v) hp K:=rfl
@[go_sem] theorem ZBv (nx i:Nat) (d:Option Nat) (rest:List CO) (sl:Sl) (hp:Hp) (K:Sl→Hp→Prop) (v:AV) :
  Zbj X M nx i d rest sl hp K (some { eff := { val:=v,adds:=[],sets:=[],dels:=[],frz:=[] },gone:=[] })=ZcT X M nx (i+1) rest (Zs sl d v) hp K:=rfl
@[go_sem] theorem ZBw (nx i:Nat) (d:Option Nat) (rest:List CO) (sl:Sl) (hp:Hp) (K:Sl→Hp→Prop) (e:Zb) :
  Zbj X M nx i d rest sl hp K (some e)=(Q7 (nx+64*i) (nx+64*i+64) e.eff.adds=true∧ZcT X M nx (i+1) rest (Zs (XA e.gone sl) d e.eff.val) (e.eff.on (Vf e.gone hp)) K):=by
 unfold Zbj Y1
 rw[Ze]
 split<;>rename_i h
 ·simp only[UN,h,true_and];rfl
 ·simp only[Zh3,h,false_and,Bool.false_eq_true]
@[go_sem] theorem ZBx (nx i:Nat) (d:Option Nat) (rest:List CO) (sl:Sl) (hp:Hp) (K:Sl→Hp→Prop):Zbj X M nx i d rest sl hp K none=False:=rfl
@[go_sem] theorem stepW_ite (nx i:Nat) (d:Option Nat) (rest:List CO) (sl:Sl) (hp:Hp) (K:Sl→Hp→Prop) (c:Prop) [Decidable c] (a b:Option Zb) :
  Zbj X M nx i d rest sl hp K (if c then a else b)=((c→Zbj X M nx i d rest sl hp K a)∧(¬c→Zbj X M nx i d rest sl hp K b)):=by
 by_cases h:c<;>simp[h]
noncomputable def V0 (nx:Nat):Nat→Bool→List CO→Sl→Hp→(Sl→Hp→Prop)→Prop
 | _,_,[],sl,hp,K=>K sl hp
 | i,tail,o :: rest,sl,hp,K=>gW (Z9 sl o.guard)
   (stW (Y1 (nx+64*i) o.dst sl hp (Wz (Zk X M) M nx i (CO.starts o) o.op sl hp)) fun r=>V0 nx (i+1) tail rest r.1 r.2 K)
   (V0 nx (i+1) tail rest (Zs sl o.dst (.tup [])) hp K)
def Ux (nx i:Nat) (t:Bool) (d:Option Nat) (rest:List CO) (sl:Sl) (hp:Hp) (K:Sl→Hp→Prop) (e:Option Zb):Prop:=
 stW (Y1 (nx+64*i) d sl hp (if t then e else Zco e)) fun r=>V0 X M nx (i+1) false rest r.1 r.2 K
@[go_sem] theorem opsDW_nil (nx i:Nat) (t:Bool) (sl:Sl) (hp:Hp) (K:Sl→Hp→Prop):V0 X M nx i t [] sl hp K=K sl hp:=rfl
@[go_sem] theorem ZBy (nx i:Nat) (d:Option Nat) (tl:Bool) (op:COp) (rest:List CO) (sl:Sl) (hp:Hp) (K:Sl→Hp→Prop) :
  V0 X M nx i false (⟨d,none,op,tl⟩ :: rest) sl hp K=Ux X M nx i (Zf3 op || tl) d rest sl hp K (vop (Zk X M) M sl hp (nx+64*i) op):=by
 simp[V0,Ux,Z9,ZuM,Wz,CO.starts]
def Wt (b:Bool) (nx i:Nat) (t:Bool) (d:Option Nat) (rest:List CO) (sl:Sl) (hp:Hp) (K:Sl→Hp→Prop) (e:Option Zb):Prop:=
 gW (some b) (Ux X M nx i t d rest sl hp K e) (V0 X M nx (i+1) false rest (Zs sl d (.tup [])) hp K)
def ZkN (g:Option Bool) (nx i:Nat) (t:Bool) (d:Option Nat) (op:COp) (rest:List CO) (sl:Sl) (hp:Hp) (K:Sl→Hp→Prop):Prop:=
 gW g (Ux X M nx i t d rest sl hp K (vop (Zk X M) M sl hp (nx+64*i) op)) (V0 X M nx (i+1) false rest (Zs sl d (.tup [])) hp K)
@[go_sem] theorem ZA4 (nx i g:Nat) (w:Bool) (d:Option Nat) (tl:Bool) (op:COp) (rest:List CO) (sl:Sl) (hp:Hp) (K:Sl→Hp→Prop) :
  V0 X M nx i false (⟨d,some (g,w),op,tl⟩ :: rest) sl hp K=ZkN X M (Zem w (gs sl g)) nx i (Zf3 op || tl) d op rest sl hp K:=rfl
@[go_sem] theorem ZAj (b:Bool) (nx i:Nat) (t:Bool) (d:Option Nat) (op:COp) (rest:List CO) (sl:Sl) (hp:Hp) (K:Sl→Hp→Prop) :
  ZkN X M (some b) nx i t d op rest sl hp K=Wt X M b nx i t d rest sl hp K (vop (Zk X M) M sl hp (nx+64*i) op):=rfl
@[go_sem] theorem gC (nx i:Nat) (t:Bool) (d:Option Nat) (rest:List CO) (sl:Sl) (hp:Hp) (K:Sl→Hp→Prop) (e:Option Zb) :
  Wt X M true nx i t d rest sl hp K e=Ux X M nx i t d rest sl hp K e:=by simp[Wt,gW]
@[go_sem] theorem gD (nx i:Nat) (t:Bool) (d:Option Nat) (rest:List CO) (sl:Sl) (hp:Hp) (K:Sl→Hp→Prop) (e:Option Zb) :
  Wt X M false nx i t d rest sl hp K e=V0 X M nx (i+1) false rest (Zs sl d (.tup [])) hp K:=by simp[Wt,gW]
@[go_sem] theorem Zoc (b:Bool) (nx i:Nat) (t:Bool) (d:Option Nat) (rest:List CO) (sl:Sl) (hp:Hp) (K:Sl→Hp→Prop) (v:AV) :
  Wt X M b nx i t d rest sl hp K (QY v)=V0 X M nx (i+1) false rest (Zs sl d (Zgl b v)) hp K:=by
 cases b
 ·simp[Wt,gW,Zgl]
 ·simp only[Wt,gW,Zgl,if_true,true_implies,Bool.true_eq_false,false_implies,and_true];cases t<;>rfl
@[go_sem] theorem ZAk (b:Bool) (nx i:Nat) (t:Bool) (d:Option Nat) (rest:List CO) (sl:Sl) (hp:Hp) (K:Sl→Hp→Prop) (v:AV) :
  Wt X M b nx i t d rest sl hp K (some { eff := { val:=v,adds:=[],sets:=[],dels:=[],frz:=[] },gone:=[] })=V0 X M nx (i+1) false rest (Zs sl d (Zgl b v)) hp K:=Zoc X M b nx i t d rest sl hp K v
@[congr] theorem ZyG {g g' : Option Bool} {nx i:Nat} {t t' : Bool} {d:Option Nat} {op:COp} {rest:List CO} {sl:Sl} {hp:Hp} {K:Sl→Hp→Prop} (h:g=g') (ht:t=t') :
  ZkN X M g nx i t d op rest sl hp K=ZkN X M g' nx i t' d op rest sl hp K:=by rw[h,ht]
@[congr] theorem ZyH {b b' : Bool} {nx i:Nat} {t:Bool} {d:Option Nat} {rest:List CO} {sl:Sl} {hp:Hp} {K:Sl→Hp→Prop} {e e' : Option Zb} (hb:b=b') (h:b'=true→e=e') :
  Wt X M b nx i t d rest sl hp K e=Wt X M b' nx i t d rest sl hp K e':=by
 subst hb
 cases b
 ·simp[Wt,gW]
 ·rw[h rfl]
@[go_sem] theorem ZAl (nx i:Nat) (t:Bool) (d:Option Nat) (rest:List CO) (sl:Sl) (hp:Hp) (K:Sl→Hp→Prop) (v:AV) :
  Ux X M nx i t d rest sl hp K (QY v)=V0 X M nx (i+1) false rest (Zs sl d v) hp K:=by cases t<;>rfl
@[go_sem] theorem ZA5 (nx i:Nat) (t:Bool) (d:Option Nat) (rest:List CO) (sl:Sl) (hp:Hp) (K:Sl→Hp→Prop) (v:AV) :
  Ux X M nx i t d rest sl hp K (some { eff := { val:=v,adds:=[],sets:=[],dels:=[],frz:=[] },gone:=[] })=V0 X M nx (i+1) false rest (Zs sl d v) hp K:=by cases t<;>rfl
@[go_sem] theorem ZA6 (nx i:Nat) (t:Bool) (d:Option Nat) (rest:List CO) (sl:Sl) (hp:Hp) (K:Sl→Hp→Prop) (e:Zb) :
  Ux X M nx i t d rest sl hp K (some e)=((t=false→Zeq e e.gone e.eff.sets e.eff.dels e.eff.frz=some e)∧Q7 (nx+64*i) (nx+64*i+64) e.eff.adds=true∧V0 X M nx (i+1) false rest (Zs (XA e.gone sl) d e.eff.val) (e.eff.on (Vf e.gone hp)) K):=by
 have key:stW (Y1 (nx+64*i) d sl hp (some e)) (fun r=>V0 X M nx (i+1) false rest r.1 r.2 K)=(Q7 (nx+64*i) (nx+64*i+64) e.eff.adds=true∧V0 X M nx (i+1) false rest (Zs (XA e.gone sl) d e.eff.val) (e.eff.on (Vf e.gone hp)) K):=by
  unfold Y1
  rw[Ze]
  split<;>rename_i h
  ·simp only[UN,h,true_and];rfl
  ·simp only[Zh3,h,false_and,Bool.false_eq_true]
 unfold Ux
 cases t with
 | true=>simp only[if_true];rw[key];simp
 | false=>
  simp only[Bool.false_eq_true,if_false,Zco,Ze,true_implies]
  unfold Zeq
  split
  ·rw[key];simp
  ·simp[Y1,bnd,stW]
@[go_sem] theorem ZA7 (nx i:Nat) (t:Bool) (d:Option Nat) (rest:List CO) (sl:Sl) (hp:Hp) (K:Sl→Hp→Prop):Ux X M nx i t d rest sl hp K none=False:=by cases t<;>rfl
@[go_sem] theorem ZBz (nx i:Nat) (t:Bool) (d:Option Nat) (rest:List CO) (sl:Sl) (hp:Hp) (K:Sl→Hp→Prop) (c:Prop) [Decidable c] (a b:Option Zb) :
  Ux X M nx i t d rest sl hp K (if c then a else b)=((c→Ux X M nx i t d rest sl hp K a)∧(¬c→Ux X M nx i t d rest sl hp K b)):=by
 by_cases h:c<;>simp[h]
@[go_sem] theorem quietC_ok (c:Zb):Zeq c [] [] [] []=some c:=rfl
def W (c:Zg) (st:St) (Q:Ex→St→Prop):Prop:=stW (Q1 X M c st) fun r=>Q r.1 r.2
@[congr] theorem W_congr {c:Zg} {st st' : St} {Q:Ex→St→Prop} (h:st=st'):W X M c st Q=W X M c st' Q:=by rw[h]
@[congr] theorem ZBA {rest:List CO} {nx nx' i i' : Nat} {sl sl' : Sl} {hp hp' : Hp} {K:Sl→Hp→Prop} (hn:nx=nx') (hi:i=i') (h:sl=sl') (h' : hp=hp') :
  ZcT X M nx i rest sl hp K=ZcT X M nx' i' rest sl' hp' K:=by rw[h,h',hn,hi]
@[congr] theorem ZA8 {rest:List CO} {nx nx' i i' : Nat} {t t' : Bool} {sl sl' : Sl} {hp hp' : Hp} {K:Sl→Hp→Prop} (hn:nx=nx') (hi:i=i') (ht:t=t') (h:sl=sl') (h' : hp=hp') :
  V0 X M nx i t rest sl hp K=V0 X M nx' i' t' rest sl' hp' K:=by rw[h,h',ht,hn,hi]
@[congr] theorem ZA9 {rest:List CO} {nx i:Nat} {d:Option Nat} {sl:Sl} {hp:Hp} {K:Sl→Hp→Prop} {e e' : Option Zb} (h:e=e') :
  Zbj X M nx i d rest sl hp K e=Zbj X M nx i d rest sl hp K e':=by rw[h]
@[congr] theorem ZAm {rest:List CO} {nx i:Nat} {t t' : Bool} {d:Option Nat} {sl:Sl} {hp:Hp} {K:Sl→Hp→Prop} {e e' : Option Zb} (ht:t=t') (h:e=e') :
  Ux X M nx i t d rest sl hp K e=Ux X M nx i t' d rest sl hp K e':=by rw[h,ht]
theorem ZAn (nx:Nat) (K:Sl→Hp→Prop):∀ (l:List CO) (i:Nat) (sl:Sl) (hp:Hp),ZcT X M nx i l sl hp K=stW (ZdH (Zk X M) M nx i l sl hp) fun r=>K r.1 r.2:=by
 intro l
 induction l with
 | nil=>intro i sl hp;rfl
 | cons o rest ih=>
  intro i sl hp
  simp only[ZcT,ZdH,ih,Zbw]
  cases Z9 sl o.guard with
  | none=>rfl
  | some b=>cases b<;>simp[gW,Zbw,UN]
theorem ZxO (nx:Nat) (K:Sl→Hp→Prop):∀ (l:List CO) (i:Nat) (t:Bool) (sl:Sl) (hp:Hp),V0 X M nx i t l sl hp K=stW (UQ (Zk X M) M nx i t l sl hp) fun r=>K r.1 r.2:=by
 intro l
 induction l with
 | nil=>intro i t sl hp;rfl
 | cons o rest ih=>
  intro i t sl hp
  simp only[V0,UQ,ih,Zbw]
  cases Z9 sl o.guard with
  | none=>rfl
  | some b=>cases b<;>simp[gW,Zbw,UN]
def ZvZ (m nx:Nat) (Q:Ex→St→Prop) (sl:Sl) (hp:Hp):Prop:=Q .normal { sl:=sl,hp:=hp,nx:=nx,m:=m }
def Zr6 (ops:List CO) (ps:List (Nat×Nat)) (K:Sl→Hp→Prop) (sl:Sl) (hp:Hp):Prop:=U2 ops sl ps=true∧K sl hp
@[go_sem] theorem regQ_eq (m nx:Nat) (Q:Ex→St→Prop) (sl:Sl) (hp:Hp):ZvZ m nx Q sl hp=Q .normal { sl:=sl,hp:=hp,nx:=nx,m:=m }:=rfl
@[go_sem] theorem seenQ_eq (ops:List CO) (ps:List (Nat×Nat)) (K:Sl→Hp→Prop) (sl:Sl) (hp:Hp):Zr6 ops ps K sl hp=(U2 ops sl ps=true∧K sl hp):=rfl
@[go_sem] theorem W_skip (st:St) (Q:Ex→St→Prop):W X M .skip st Q=Q .normal st:=by simp[W,Zt2,UN]
@[go_sem] theorem W_ret (st:St) (Q:Ex→St→Prop):W X M .ret st Q=Q .ret st:=by simp[W,Zwh,UN]
@[go_sem] theorem W_exit (id:Nat) (st:St) (Q:Ex→St→Prop):W X M (.exit id) st Q=Q (.exit id) st:=by simp[W,Zt3,UN]
@[go_sem] theorem W_stuck (st:St) (Q:Ex→St→Prop):W X M .stuck st Q=False:=by
 have h:Q1 X M .stuck st=none:=Vw fun n=>by simp only[ZI]
 simp only[W,h,Zh3]
@[go_sem] theorem W_region (n:Nat) (ops:List CO) (st:St) (Q:Ex→St→Prop) :
  W X M (.region n none ops) st Q=ZcT X M st.nx 0 ops st.sl st.hp (ZvZ st.m (st.nx+64*n) Q):=by
 rw[ZAn,W,ZqN,Zil,Zbw];rfl
theorem ZxP (n:Nat) (ps:List (Nat×Nat)) (ops:List CO) (st:St) (Q:Ex→St→Prop) :
  W X M (.region n (some ps) ops) st Q=V0 X M st.nx 0 false ops st.sl st.hp (Zr6 ops ps (ZvZ st.m (st.nx+64*n) Q)):=by
 rw[ZxO,W,Zt4,Zil,Zbw,ZmP,Zbw]
 congr 1
 funext r
 by_cases h:U2 ops r.1 ps=true<;>simp[h,Zr6,UN,Zh3,ZvZ]
@[go_sem] theorem W_draw0 (n:Nat) (ops:List CO) (st:St) (Q:Ex→St→Prop) :
  W X M (.region n (some []) ops) st Q=V0 X M st.nx 0 false ops st.sl st.hp (ZvZ st.m (st.nx+64*n) Q):=by
 rw[ZxP]
 congr 1
 funext sl hp
 simp[Zr6,U2]
@[go_sem] theorem W_drawc (n:Nat) (p:Nat×Nat) (ps:List (Nat×Nat)) (ops:List CO) (st:St) (Q:Ex→St→Prop) :
  W X M (.region n (some (p :: ps)) ops) st Q=V0 X M st.nx 0 false ops st.sl st.hp (Zr6 ops (p :: ps) (ZvZ st.m (st.nx+64*n) Q)):=ZxP X M n _ ops st Q
def ZuN (c:Zg) (Q:Ex→St→Prop):Ex→St→Prop
 | .normal,st=>W X M c st Q
 | e,st=>Q e st
def blkQ (id:Nat) (Q:Ex→St→Prop):Ex→St→Prop
 | .exit j,st=>if j=id then Q .normal st else Q (.exit j) st
 | e,st=>Q e st
@[go_sem] theorem ZAo (c:Zg) (Q:Ex→St→Prop) (st:St):ZuN X M c Q .normal st=W X M c st Q:=rfl
@[go_sem] theorem thenQ_ret (c:Zg) (Q:Ex→St→Prop) (st:St):ZuN X M c Q .ret st=Q .ret st:=rfl
@[go_sem] theorem ZBB (c:Zg) (Q:Ex→St→Prop) (id:Nat) (st:St):ZuN X M c Q (.exit id) st=Q (.exit id) st:=rfl
@[go_sem] theorem ZBa (id:Nat) (Q:Ex→St→Prop) (st:St):blkQ id Q .normal st=Q .normal st:=rfl
@[go_sem] theorem blkQ_ret (id:Nat) (Q:Ex→St→Prop) (st:St):blkQ id Q .ret st=Q .ret st:=rfl
@[go_sem] theorem blkQ_exit (id j:Nat) (Q:Ex→St→Prop) (st:St):blkQ id Q (.exit j) st=if j=id then Q .normal st else Q (.exit j) st:=rfl
@[go_sem] theorem W_seq (a b:Zg) (st:St) (Q:Ex→St→Prop):W X M (.seq a b) st Q=W X M a st (ZuN X M b Q):=by
 unfold W
 rw[Zwi]
 cases h:Q1 X M a st with
 | none=>rfl
 | some r=>obtain⟨e,st'⟩:=r;cases e<;>rfl
@[go_sem] theorem W_cond (c:Opd) (a b:Zg) (st:St) (Q:Ex→St→Prop) :
  W X M (.cond c a b) st Q=Ut (evO st.sl c) (W X M a st Q) (W X M b st Q):=by
 unfold W
 rw[Zt5]
 cases h:evO st.sl c with
 | d x=>cases x with
  | bool t=>cases t<;>simp[Zfu,Ut]
  | _=>rfl
 | _=>rfl
@[go_sem] theorem W_block (id:Nat) (c:Zg) (st:St) (Q:Ex→St→Prop):W X M (.block id c) st Q=W X M c st (blkQ id Q):=by
 unfold W
 rw[Zsp]
 cases h:Q1 X M c st with
 | none=>rfl
 | some r=>
  obtain⟨e,st'⟩:=r
  cases e with
  | exit j=>by_cases hj:j=id<;>simp[ZeH,hj,UN,blkQ]
  | normal=>rfl
  | ret=>rfl
def keepQ (K:List Nat) (Q:Ex→St→Prop) (e:Ex) (st:St):Prop:=Q e { sl:=only K st.sl,hp:=st.hp,nx:=st.nx,m:=st.m }
@[go_sem] theorem keepQ_eq (K:List Nat) (Q:Ex→St→Prop) (e:Ex) (st:St):keepQ K Q e st=Q e { sl:=only K st.sl,hp:=st.hp,nx:=st.nx,m:=st.m }:=rfl
@[go_sem] theorem W_keep (K:List Nat) (c:Zg) (st:St) (Q:Ex→St→Prop):W X M (.keep K c) st Q=W X M c st (keepQ K Q):=by
 unfold W
 rw[Zt6]
 cases h:Q1 X M c st with
 | none=>rfl
 | some r=>rfl
def Zmj (c:Zg) (Q:Ex→St→Prop) (r:Option St):Prop:=stW r fun st=>W X M c st Q
@[go_sem] theorem ZBC (c:Zg) (Q:Ex→St→Prop) (st:St):Zmj X M c Q (some st)=W X M c st Q:=rfl
@[go_sem] theorem ZBD (c:Zg) (Q:Ex→St→Prop):Zmj X M c Q none=False:=rfl
@[go_sem] theorem linkW_ite (c:Zg) (Q:Ex→St→Prop) (p:Prop) [Decidable p] (a b:Option St):Zmj X M c Q (if p then a else b)=((p→Zmj X M c Q a)∧(¬p→Zmj X M c Q b)):=by
 by_cases h:p<;>simp[h]
@[go_sem] theorem W_link (id:Nat) (i:Opd) (j:Nat) (c:Zg) (st:St) (Q:Ex→St→Prop):W X M (.link id i j c) st Q=Zmj X M c Q (Zc3 id i j st):=by
 unfold W Zmj
 rw[Zt7]
 cases h:Zc3 id i j st<;>rfl
@[go_sem] theorem W_melt (c:Zg) (st:St) (Q:Ex→St→Prop):W X M (.melt c) st Q=W X M c { sl:=st.sl,hp:=Zgk Zcf st.hp,nx:=st.nx,m:=st.m } Q:=by
 unfold W
 rw[Zt8];rfl
def LW (c:Zg) (K:List Nat) (st:St) (Q:Ex→St→Prop):Prop:=stW (Zfw X M c K st) fun r=>Q r.1 r.2
@[congr] theorem LW_congr {c:Zg} {K K' : List Nat} {st st' : St} {Q:Ex→St→Prop} (hk:K=K') (h:st=st'):LW X M c K st Q=LW X M c K' st' Q:=by rw[h,hk]
@[go_sem] theorem W_loop (c:Zg) (st:St) (Q:Ex→St→Prop):W X M (.loop c) st Q=LW X M c (Zhc st.sl) st Q:=by
 unfold W LW;rw[Zt9]
def ZoU (c:Zg) (K:List Nat) (Q:Ex→St→Prop):Ex→St→Prop
 | .normal,st=>LW X M c K st Q
 | e,st=>Q e st
@[go_sem] theorem ZAp (c:Zg) (K:List Nat) (Q:Ex→St→Prop) (st:St):ZoU X M c K Q .normal st=LW X M c K st Q:=rfl
@[go_sem] theorem nextQ_ret (c:Zg) (K:List Nat) (Q:Ex→St→Prop) (st:St):ZoU X M c K Q .ret st=Q .ret st:=rfl
@[go_sem] theorem ZBE (c:Zg) (K:List Nat) (Q:Ex→St→Prop) (id:Nat) (st:St):ZoU X M c K Q (.exit id) st=Q (.exit id) st:=rfl
theorem ZS {c:Zg} {K:List Nat} {st:St} {Q:Ex→St→Prop} (h:W X M c (Uu K st) (ZoU X M c K Q)):LW X M c K st Q:=by
 unfold W at h
 cases hv:Q1 X M c (Uu K st) with
 | none=>rw[hv] at h;exact h.elim
 | some r=>
  rw[hv] at h
  obtain⟨e,st'⟩:=r
  unfold LW
  cases e with
  | normal=>rw[Zsq X M hv];exact h
  | exit id=>rw[ZmQ X M (by simp) hv];exact h
  | ret=>rw[ZmQ X M (by simp) hv];exact h
def Zr7 (sl:Sl):Sl→Sl
 | []=>sl
 | (k,v) :: r=>Zr7 (ins sl k v) r
def Zmk (hp:Hp):Hp→Hp
 | []=>hp
 | (k,o) :: r=>Zmk (ins hp k o) r
theorem LW_ind {α:Type} (S:α→St) (I:α→Prop) (μ:α→Nat) {c:Zg} {K:List Nat} {Q:Ex→St→Prop}
  (step:∀ a,I a→(∀ b st,I b→μ b<μ a→Uu K st=S b→LW X M c K st Q)→W X M c (S a) (ZoU X M c K Q)) :
  ∀ a st,I a→Uu K st=S a→LW X M c K st Q:=by
 have key:∀ n a st,μ a=n→I a→Uu K st=S a→LW X M c K st Q:=by
  intro n
  induction n using Nat.strongRecOn with
  | ind n ih=>
   intro a st hn ha hs
   refine ZS X M ?_
   rw[hs]
   exact step a ha fun b st' hb hlt hs'=>ih (μ b) (by omega) b st' rfl hb hs'
 exact fun a st ha hs=>key _ a st rfl ha hs
theorem Qb {α:Type} (u:α→Sl) (uh:α→Hp) (I:α→Prop) (μ:α→Nat) (a:α) {c:Zg} {K:List Nat} {Q:Ex→St→Prop} {st st0:St}
  (hc:Uu K st=st0) (ha:I a) (h0:(⟨Zr7 st0.sl (u a),Zmk st0.hp (uh a),st0.nx,st0.m⟩:St)=st0)
  (step:∀ a,I a→(∀ b st,I b→μ b<μ a→Uu K st=⟨Zr7 st0.sl (u b),Zmk st0.hp (uh b),st0.nx,st0.m⟩→LW X M c K st Q)→W X M c ⟨Zr7 st0.sl (u a),Zmk st0.hp (uh a),st0.nx,st0.m⟩ (ZoU X M c K Q)) :
  LW X M c K st Q:=
 LW_ind X M (fun a=>⟨Zr7 st0.sl (u a),Zmk st0.hp (uh a),st0.nx,st0.m⟩) I μ step a st ha (hc.trans h0.symm)
def ZtH (m:Nat) (rs:List Zoh) (R:AV×List Zl→Prop):Ex→St→Prop:=fun e st=>stW (Za9 m rs (some (e,st))) R
def resW (m:Nat) (hp:Hp) (R:AV×List Zl→Prop) (vs:Option (List AV)):Prop:=stW vs fun vs=>R (Vv m hp (Zbn vs))
@[go_sem] theorem resW_some (m:Nat) (hp:Hp) (R:AV×List Zl→Prop) (vs:List AV):resW m hp R (some vs)=R (Vv m hp (Zbn vs)):=rfl
@[go_sem] theorem resW_none (m:Nat) (hp:Hp) (R:AV×List Zl→Prop):resW m hp R none=False:=rfl
@[go_sem] theorem endQ_ret (m:Nat) (rs:List Zoh) (R:AV×List Zl→Prop) (st:St):ZtH m rs R .ret st=resW m st.hp R (QU (ZkG st) rs):=by
 simp only[ZtH,Za9,Zbw];rfl
@[go_sem] theorem ZBb (m:Nat) (rs:List Zoh) (R:AV×List Zl→Prop) (st:St):ZtH m rs R .normal st=resW m st.hp R (QU (ZkG st) rs):=by
 simp only[ZtH,Za9,Zbw];rfl
theorem ZoV {f:Nat} {as:List AV} {h:List Zl} (fn:ZR) {R:AV×List Zl→Prop} (hx:X f=some (.text fn)) (hl:as.length≤fn.nt)
  (hr:W X M fn.body { sl:=WZ 0 as,hp:=V5 0 h,nx:=h.length,m:=h.length } (ZtH h.length fn.res R)):∃ r,Zk X M f as h=some r∧R r:=by
 unfold W at hr
 cases hv:Q1 X M fn.body { sl:=WZ 0 as,hp:=V5 0 h,nx:=h.length,m:=h.length } with
 | none=>rw[hv] at hr;exact hr.elim
 | some q=>
  rw[hv] at hr
  obtain⟨e,st⟩:=q
  simp only[UN,ZtH] at hr
  cases hk:Za9 h.length fn.res (some (e,st)) with
  | none=>rw[hk] at hr;exact hr.elim
  | some r=>rw[hk] at hr;exact⟨r,Zx5 X M hx hl (by rw[hv];exact hk),hr⟩
theorem Zc {f:Nat} {as:List AV} {h:List Zl} (fn:ZR) {r:AV×List Zl} (hx:X f=some (.text fn)) (hl:as.length≤fn.nt)
  (hr:W X M fn.body { sl:=WZ 0 as,hp:=V5 0 h,nx:=h.length,m:=h.length } (ZtH h.length fn.res fun q=>q=r)):Zk X M f as h=some r:=by
 obtain⟨q,hq,rfl⟩:=ZoV X M fn hx hl hr
 exact hq
end
@[go_sem] theorem vopE_move (C:Orc) (M:Zo) (sl:Sl) (hp:Hp) (base:Nat) (x:Opd):vop C M sl hp base (.move x)=QY (evO sl x):=by simp only[vop]
@[go_sem] theorem ZBc (C:Orc) (M:Zo) (sl:Sl) (hp:Hp) (base:Nat) (s:Option Nat) (x:Opd):vop C M sl hp base (.assign s x)=ZcB base s (evO sl x):=by simp only[vop]
@[go_sem] theorem vopE_pick (C:Orc) (M:Zo) (sl:Sl) (hp:Hp) (base:Nat) (c a b:Opd):vop C M sl hp base (.pick c a b)=ZeE (evO sl a) (evO sl b) (evO sl c):=by simp only[vop]
@[go_sem] theorem ZBF (C:Orc) (M:Zo) (sl:Sl) (hp:Hp) (base:Nat) (slc:List (Option Nat)) (cs:List AV):vop C M sl hp base (.alloc slc cs)=Zee slc base cs:=by simp only[vop]
@[go_sem] theorem vopE_box (C:Orc) (M:Zo) (sl:Sl) (hp:Hp) (base:Nat) (x:Opd):vop C M sl hp base (.box x)=ZtM base (evO sl x):=by simp only[vop]
@[go_sem] theorem ZBG (C:Orc) (M:Zo) (sl:Sl) (hp:Hp) (base:Nat) (zs:List AV) (ps:List (Nat×Nat×Opd)):vop C M sl hp base (.build zs ps)=Zms zs (evP sl ps):=by simp only[vop]
@[go_sem] theorem ZAq (C:Orc) (M:Zo) (sl:Sl) (hp:Hp) (base:Nat) (s:Nat) (xs:List Opd):vop C M sl hp base (.buildSl s xs)=buildSl hp base s (evL sl xs):=by simp only[vop]
@[go_sem] theorem vopE_load (C:Orc) (M:Zo) (sl:Sl) (hp:Hp) (base:Nat) (g:Bool) (s:Nat) (a:Opd):vop C M sl hp base (.load g s a)=Wq (UP hp g s (evO sl a)):=by simp only[vop]
@[go_sem] theorem ZBH (C:Orc) (M:Zo) (sl:Sl) (hp:Hp) (base:Nat) (slc:List (Option Nat)) (s:Nat) (a x:Opd):vop C M sl hp base (.store slc s a x)=ZeL (Zap hp slc s base (evO sl x).cells (evO sl a)):=by simp only[vop]
@[go_sem] theorem ZyI (C:Orc) (M:Zo) (sl:Sl) (hp:Hp) (base:Nat) (x:Opd):vop C M sl hp base (.nilCheck x)=JZ (evO sl x):=by simp only[vop]
@[go_sem] theorem vopE_bin (C:Orc) (M:Zo) (sl:Sl) (hp:Hp) (base:Nat) (op:BinOp) (eq:Bool) (x y:Opd):vop C M sl hp base (.bin op eq x y)=ZkE op eq (evO sl x) (evO sl y):=by simp only[vop]
@[go_sem] theorem vopE_un (C:Orc) (M:Zo) (sl:Sl) (hp:Hp) (base:Nat) (op:UnOp) (x:Opd):vop C M sl hp base (.un op x)=Wq (vun op (evO sl x)):=by simp only[vop]
@[go_sem] theorem vopE_eqA (C:Orc) (M:Zo) (sl:Sl) (hp:Hp) (base:Nat) (neg:Bool) (ks:List Nat) (x y:Opd):vop C M sl hp base (.eqA neg ks x y)=Zoe neg ks (evO sl x) (evO sl y):=by simp only[vop]
@[go_sem] theorem ZBI (C:Orc) (M:Zo) (sl:Sl) (hp:Hp) (base:Nat) (k:IntKind) (x:Opd):vop C M sl hp base (.convI k x)=convI k (evO sl x):=by simp only[vop]
@[go_sem] theorem ZBJ (C:Orc) (M:Zo) (sl:Sl) (hp:Hp) (base:Nat) (x:Opd):vop C M sl hp base (.convS x)=convS (evO sl x):=by simp only[vop]
@[go_sem] theorem vopE_fn (C:Orc) (M:Zo) (sl:Sl) (hp:Hp) (base:Nat) (f:Nat) (cs:List Opd):vop C M sl hp base (.fn f cs)=Wq (cloV f (evL sl cs)):=by simp only[vop]
@[go_sem] theorem vopE_make (C:Orc) (M:Zo) (sl:Sl) (hp:Hp) (base:Nat) (s b:Nat) (z:D) (l c:Opd):vop C M sl hp base (.make s b z l c)=bnd (idx (evO sl l)) fun l=>bnd (idx (evO sl c)) fun c=>Zmu base s b z l c:=by simp only[vop]
@[go_sem] theorem ZBK (C:Orc) (M:Zo) (sl:Sl) (hp:Hp) (base:Nat) (s:Nat) (x:Opd) (lo hi:Option Opd):vop C M sl hp base (.slice s x lo hi)=Wq (Wp hp s (evM sl lo) (evM sl hi) (evO sl x)):=by simp only[vop]
@[go_sem] theorem ZBd (C:Orc) (M:Zo) (sl:Sl) (hp:Hp) (base:Nat) (x:Opd) (lo hi:Option Opd):vop C M sl hp base (.sliceS x lo hi)=Wq (sliceS (evM sl lo) (evM sl hi) (evO sl x)):=by simp only[vop]
@[go_sem] theorem ZBe (C:Orc) (M:Zo) (sl:Sl) (hp:Hp) (base:Nat) (x hi mx:Opd):vop C M sl hp base (.slice0 x hi mx)=Wq (slice0 hp (evO sl x) (idx (evO sl hi)) (idx (evO sl mx))):=by simp only[vop]
@[go_sem] theorem ZBL (C:Orc) (M:Zo) (sl:Sl) (hp:Hp) (base:Nat) (off:Nat) (x:Opd):vop C M sl hp base (.shift off x)=VS off (evO sl x):=by simp only[vop]
@[go_sem] theorem vopE_part (C:Orc) (M:Zo) (sl:Sl) (hp:Hp) (base:Nat) (g:Bool) (s off:Nat) (x:Opd):vop C M sl hp base (.part g s off x)=Wq (Zh7 g s off (evO sl x)):=by simp only[vop]
@[go_sem] theorem vopE_iaS (C:Orc) (M:Zo) (sl:Sl) (hp:Hp) (base:Nat) (s:Nat) (x i:Opd):vop C M sl hp base (.iaS s x i)=bnd (idx (evO sl i)) fun n=>Zfn hp s (evO sl x) n:=by simp only[vop]
@[go_sem] theorem vopE_iaA (C:Orc) (M:Zo) (sl:Sl) (hp:Hp) (base:Nat) (len s:Nat) (x i:Opd):vop C M sl hp base (.iaA len s x i)=bnd (idx (evO sl i)) fun n=>ZjX (evO sl x) n len s:=by simp only[vop]
@[go_sem] theorem vopE_ixS (C:Orc) (M:Zo) (sl:Sl) (hp:Hp) (base:Nat) (x i:Opd):vop C M sl hp base (.ixS x i)=bnd (idx (evO sl i)) fun n=>Zsg n (evO sl x):=by simp only[vop]
@[go_sem] theorem vopE_ixA (C:Orc) (M:Zo) (sl:Sl) (hp:Hp) (base:Nat) (g:Bool) (s len:Nat) (x i:Opd):vop C M sl hp base (.ixA g s len x i)=bnd (idx (evO sl i)) fun n=>ZtO g s len n (evO sl x):=by simp only[vop]
@[go_sem] theorem vopE_nth (C:Orc) (M:Zo) (sl:Sl) (hp:Hp) (base:Nat) (i:Nat) (x:Opd):vop C M sl hp base (.nth i x)=Zqx i (evO sl x):=by simp only[vop]
@[go_sem] theorem vopE_len (C:Orc) (M:Zo) (sl:Sl) (hp:Hp) (base:Nat) (x:Opd):vop C M sl hp base (.len x)=bnd (ZcS hp (evO sl x)) fun n=>QY (.d (.int .i64 n)):=by simp only[vop]
@[go_sem] theorem vopE_lenS (C:Orc) (M:Zo) (sl:Sl) (hp:Hp) (base:Nat) (x:Opd):vop C M sl hp base (.lenS x)=bnd (Zvw (evO sl x)) fun n=>QY (.d (.int .i64 n)):=by simp only[vop]
@[go_sem] theorem ZBf (C:Orc) (M:Zo) (sl:Sl) (hp:Hp) (base:Nat) (s b:Nat) (str flat:Bool) (x y:Opd):vop C M sl hp base (.append s b str flat x y)=Zqy hp s b str flat base (evO sl x) (evO sl y):=by simp only[vop]
@[go_sem] theorem vopE_min (C:Orc) (M:Zo) (sl:Sl) (hp:Hp) (base:Nat) (x y:Opd):vop C M sl hp base (.min x y)=Zia (evO sl x) (evO sl y):=by simp only[vop]
@[go_sem] theorem vopE_max (C:Orc) (M:Zo) (sl:Sl) (hp:Hp) (base:Nat) (x y:Opd):vop C M sl hp base (.max x y)=Zib (evO sl x) (evO sl y):=by simp only[vop]
@[go_sem] theorem vopE_call (C:Orc) (M:Zo) (sl:Sl) (hp:Hp) (base:Nat) (f:Opd) (as:List Opd):vop C M sl hp base (.call f as)=Zcg C M hp base (evL sl as) (evO sl f):=by simp only[vop]
@[go_sem] theorem ZBg (C:Orc) (M:Zo) (sl:Sl) (hp:Hp) (base:Nat) (s:Nat) (x lo hi mx:Opd):vop C M sl hp base (.slice3 s x lo hi mx)=Wq (slice3 hp (evO sl x) (idx (evO sl lo)) (idx (evO sl hi)) (idx (evO sl mx))):=by simp only[vop]
@[go_sem] theorem ZBM (C:Orc) (M:Zo) (sl:Sl) (hp:Hp) (base:Nat) (s:Nat) (z:D) (x:Opd):vop C M sl hp base (.clear s z x)=ZeL (ZcX hp s z (evO sl x)):=by simp only[vop]
@[go_sem] theorem ZAr (C:Orc) (M:Zo) (sl:Sl) (hp:Hp) (base:Nat) (s n:Nat) (xs:List Opd):vop C M sl hp base (.buildDp s n xs)=buildDp hp base s n (evL sl xs):=by simp only[vop]
@[go_sem] theorem ZBN (C:Orc) (M:Zo) (sl:Sl) (hp:Hp) (base:Nat) (s b:Nat) (f:Bool) (x y:Opd):vop C M sl hp base (.appDp s b f x y)=Zof hp s b base (evO sl x) (evO sl y):=by simp only[vop]
@[go_sem] theorem ZBO (C:Orc) (M:Zo) (sl:Sl) (hp:Hp) (base:Nat) (s n:Nat) (x:Opd):vop C M sl hp base (.asgDp s n x)=asgDp base s n (evO sl x):=by simp only[vop]
@[go_sem] theorem ZBP (C:Orc) (M:Zo) (sl:Sl) (hp:Hp) (base:Nat):vop C M sl hp base .stuck=none:=by simp only[vop]
@[go_sem] theorem Zv0 (hp:Hp) (n:Nat) (acc:List Nat):QX hp n [] acc=acc:=by cases n<;>rfl
@[go_sem] theorem tidy_d (hp:Hp) (ids:List Nat) (x:D):ZdI hp ids (.d x)=.d x:=rfl
@[go_sem] theorem tidy_nil (hp:Hp) (ids:List Nat):ZdI hp ids .nil=.nil:=rfl
@[go_sem] theorem tidy_junk (hp:Hp) (ids:List Nat):ZdI hp ids .junk=.junk:=rfl
@[go_sem] theorem tidy_tup (hp:Hp) (ids:List Nat) (vs:List AV):ZdI hp ids (.tup vs)=ren (Wu ids) (kill (Zfs hp ids (ZF (.tup vs))) (.tup vs)):=rfl
@[go_sem] theorem tidy_agg (hp:Hp) (ids:List Nat) (vs:List AV):ZdI hp ids (.agg vs)=ren (Wu ids) (kill (Zfs hp ids (ZF (.agg vs))) (.agg vs)):=rfl
@[go_sem] theorem tidy_clo (hp:Hp) (ids:List Nat) (f:Nat) (vs:List AV):ZdI hp ids (.clo f vs)=ren (Wu ids) (kill (Zfs hp ids (ZF (.clo f vs))) (.clo f vs)):=rfl
@[go_sem] theorem tidy_nilp (hp:Hp) (ids:List Nat):ZdI hp ids .nilp=.nilp:=rfl
@[go_sem] theorem tidy_nili (hp:Hp) (ids:List Nat):ZdI hp ids .nili=.nili:=rfl
@[go_sem] theorem tidy_pim (hp:Hp) (ids:List Nat) (cs:List D):ZdI hp ids (.pim cs)=.pim cs:=rfl
@[go_sem] theorem tidy_ptr (hp:Hp) (ids:List Nat) (id o:Nat):ZdI hp ids (.ptr id o)=if Zc2 hp ids id=true then .ptr (Wu ids id) o else .junk:=by
 simp only[ZdI,ZF,ZG,Zm,Zfs]
 split<;>simp[kill,Z0,Qk,ren,Zdk,Zdj]
@[go_sem] theorem tidy_prow (hp:Hp) (ids:List Nat) (id s i o:Nat):ZdI hp ids (.prow id s i o)=if Zc2 hp ids id=true then .prow (Wu ids id) s i o else .junk:=by
 simp only[ZdI,ZF,ZG,Zm,Zfs]
 split<;>simp[kill,Z0,Qk,ren,Zdk,Zdj]
@[go_sem] theorem tidy_own (hp:Hp) (ids:List Nat) (id:Nat):ZdI hp ids (.own id)=if Zc2 hp ids id=true then .own (Wu ids id) else .junk:=by
 simp only[ZdI,ZF,ZG,Zm,Zfs]
 split<;>simp[kill,Z0,Qk,ren,Zdk,Zdj]
@[go_sem] theorem tidy_ownv (hp:Hp) (ids:List Nat) (id a b:Nat):ZdI hp ids (.ownv id a b)=if Zc2 hp ids id=true then .ownv (Wu ids id) a b else .junk:=by
 simp only[ZdI,ZF,ZG,Zm,Zfs]
 split<;>simp[kill,Z0,Qk,ren,Zdk,Zdj]
@[go_sem] theorem ZBQ (hp:Hp) (x:D):Vv 0 hp (.d x)=(.d x,[]):=by
 simp[Vv,ZF,ZG,Zm,Wx,Zv0,tidy_d,Zcb]
@[go_sem] theorem minI_eq (a b:Int):minI a b=min a b:=by unfold minI;split<;>omega
@[go_sem] theorem maxI_eq (a b:Int):maxI a b=max a b:=by unfold maxI;split<;>omega
@[go_sem] theorem negIf_f (r:Bool):Zmt false r=r:=rfl
@[go_sem] theorem negIf_t (r:Bool):Zmt true r=!r:=rfl
@[go_sem] theorem opt1_some (v:AV):Wq (some v)=QY v:=rfl
@[go_sem] theorem opt1_none:Wq none=none:=rfl
@[go_sem] theorem vbin_int (op:BinOp) (k k' : IntKind) (a b:Int):vbin op (.d (.int k a)) (.d (.int k' b))=JT op k k' a b:=rfl
@[go_sem] theorem binV_int (op:BinOp) (eq:Bool) (k k' : IntKind) (a b:Int):ZkE op eq (.d (.int k a)) (.d (.int k' b))=Wq (JT op k k' a b):=rfl
@[go_sem] theorem binV_str (op:BinOp) (eq:Bool) (a b:List UInt8):ZkE op eq (.d (.str a)) (.d (.str b))=Wq (asD (ZrA op a b)):=rfl
@[go_sem] theorem int2_add (k:IntKind) (a b:Int):JT .add k k a b=some (.d (.int k (k.wrap (a+b)))):=by simp[JT,UK,asD,Ze]
@[go_sem] theorem int2_sub (k:IntKind) (a b:Int):JT .sub k k a b=some (.d (.int k (k.wrap (a-b)))):=by simp[JT,UK,asD,Ze]
@[go_sem] theorem int2_mul (k:IntKind) (a b:Int):JT .mul k k a b=some (.d (.int k (k.wrap (a*b)))):=by simp[JT,UK,asD,Ze]
@[go_sem] theorem int2_quo (k:IntKind) (a b:Int):JT .quo k k a b=if b=0 then none else some (.d (.int k (k.wrap (a.tdiv b)))):=by simp only[JT,UK,asD,if_true];split<;>rfl
@[go_sem] theorem int2_rem (k:IntKind) (a b:Int):JT .rem k k a b=if b=0 then none else some (.d (.int k (a.tmod b))):=by simp only[JT,UK,asD,if_true];split<;>rfl
@[go_sem] theorem int2_eql (k:IntKind) (a b:Int):JT .eql k k a b=some (.d (.bool (decide (a=b)))):=by simp[JT,UK,asD,Ze,BEq.beq]
@[go_sem] theorem int2_neq (k:IntKind) (a b:Int):JT .neq k k a b=some (.d (.bool (!decide (a=b)))):=by simp[JT,UK,asD,Ze,bne,BEq.beq]
@[go_sem] theorem int2_lss (k:IntKind) (a b:Int):JT .lss k k a b=some (.d (.bool (decide (a<b)))):=by simp[JT,UK,asD,Ze]
@[go_sem] theorem int2_leq (k:IntKind) (a b:Int):JT .leq k k a b=some (.d (.bool (decide (a≤b)))):=by simp[JT,UK,asD,Ze]
@[go_sem] theorem int2_gtr (k:IntKind) (a b:Int):JT .gtr k k a b=some (.d (.bool (decide (b<a)))):=by simp[JT,UK,asD,Ze]
@[go_sem] theorem int2_geq (k:IntKind) (a b:Int):JT .geq k k a b=some (.d (.bool (decide (b≤a)))):=by simp[JT,UK,asD,Ze]
@[go_sem] theorem guardV_t (b:Bool):Zem true (.d (.bool b))=some b:=by cases b<;>rfl
def nb (b:Bool):Bool:=!b
@[go_sem] theorem nb_true:nb true=false:=rfl
@[go_sem] theorem nb_false:nb false=true:=rfl
@[go_sem] theorem nb_eq (b:Bool):(nb b=true)=(b=false):=by cases b<;>simp[nb]
@[go_sem] theorem guardV_f (b:Bool):Zem false (.d (.bool b))=some (nb b):=by cases b<;>rfl
@[go_sem] theorem ZBR (w:Bool):Zem w (.tup [])=some false:=rfl
@[go_sem] theorem ZAs (a b:Bool):Zem true (Zgl a (.d (.bool b)))=some (a&&b):=by cases a<;>cases b<;>rfl
@[go_sem] theorem ZAt (a b:Bool):Zem false (Zgl a (.d (.bool b)))=some (a&&nb b):=by cases a<;>cases b<;>rfl
@[go_sem] theorem iteV_true (v:AV):Zgl true v=v:=rfl
@[go_sem] theorem ZBS (v:AV):Zgl false v=.tup []:=rfl
@[go_sem] theorem ZBT (a b:AV):ZeE a b (.d (.bool true))=QY a:=rfl
@[go_sem] theorem ZBh (a b:AV):ZeE a b (.d (.bool false))=QY b:=rfl
@[go_sem] theorem pickV_or (b c:Bool):ZeE (.d (.bool true)) (Zgl (nb b) (.d (.bool c))) (.d (.bool b))=QY (.d (.bool (b || c))):=by cases b<;>rfl
@[go_sem] theorem pickV_and (b c:Bool):ZeE (Zgl b (.d (.bool c))) (.d (.bool false)) (.d (.bool b))=QY (.d (.bool (b&&c))):=by cases b<;>rfl
theorem ZBU (a b:AV) (t:Bool):ZeE a b (.d (.bool t))=if t=true then QY a else QY b:=by cases t<;>rfl
@[go_sem] theorem dec_or (p q:Prop) [Decidable p] [Decidable q]:(decide p || decide q)=decide (p∨q):=by simp
@[go_sem] theorem dec_and (p q:Prop) [Decidable p] [Decidable q]:(decide p&&decide q)=decide (p∧q):=by simp
@[go_sem] theorem dec_not (p:Prop) [Decidable p]:(!decide p)=decide (¬p):=by simp
attribute [go_sem] Bool.or_eq_false_iff decide_eq_true_eq decide_eq_false_iff_not Bool.and_eq_true Bool.or_eq_true Bool.not_eq_true' Bool.not_eq_false' not_or Decidable.not_not
@[go_sem] theorem evO_t (sl:Sl) (n:Nat):evO sl (.t n)=gs sl n:=rfl
@[go_sem] theorem evO_v (sl:Sl) (a:AV):evO sl (.v a)=a:=rfl
@[go_sem] theorem evO_f (sl:Sl) (n:Nat):evO sl (.f n)=.clo n []:=rfl
@[go_sem] theorem gs_hit (k:Nat) (v:AV) (r:Sl):gs ((k,v) :: r) k=v:=by simp[gs,lkp,ZcR]
@[go_sem] theorem gs_cons (k t:Nat) (v:AV) (r:Sl):gs ((k,v) :: r) t=if k=t then v else gs r t:=by
 by_cases h:k=t<;>simp[gs,lkp,h,ZcR]
@[go_sem] theorem gs_nil (t:Nat):gs [] t=.junk:=rfl
attribute [go_sem] Zd0.eq_1 Zd0.eq_2
attribute [go_sem] ZaS.eq_1 ZaS.eq_2 ZaS.eq_3
attribute [go_sem] ZkC.eq_1 ZkC.eq_2 ZkC.eq_3
attribute [go_sem] Zb1.eq_1 Zb1.eq_2
attribute [go_sem] St.hp.eq_1
attribute [go_sem] Zbh.eq_1 Zbh.eq_2 Zbh.eq_3
attribute [go_sem] ZcR.eq_1 ZcR.eq_2
attribute [go_sem] agg2.eq_1 agg2.eq_2 agg2.eq_3
attribute [go_sem] ins.eq_1 ins.eq_2
attribute [go_sem] Zd2.eq_1 Zd2.eq_2
attribute [go_sem] X7.eq_1 X7.eq_2 X7.eq_3
attribute [go_sem] St.m.eq_1
attribute [go_sem] bnd.eq_1 bnd.eq_2
attribute [go_sem] JS.eq_1 JS.eq_2 JS.eq_3
attribute [go_sem] ZrA.eq_1 ZrA.eq_2 ZrA.eq_3 ZrA.eq_4
attribute [go_sem] AV.cells.eq_1 AV.cells.eq_2 AV.cells.eq_3 AV.cells.eq_4 AV.cells.eq_5 AV.cells.eq_6 AV.cells.eq_7 AV.cells.eq_8 AV.cells.eq_9 AV.cells.eq_10 AV.cells.eq_11 AV.cells.eq_12 AV.cells.eq_13 AV.cells.eq_14 AV.cells.eq_15 AV.cells.eq_16
attribute [go_sem] Qk.eq_1 Qk.eq_2 Qk.eq_3 Qk.eq_4 Qk.eq_5 Qk.eq_6 Qk.eq_7
attribute [go_sem] AV.solid.eq_1 AV.solid.eq_2 AV.solid.eq_3 AV.solid.eq_4
attribute [go_sem] Ws.eq_1 Ws.eq_2
attribute [go_sem] QU.eq_1 QU.eq_2
attribute [go_sem] Zd3.eq_1 Zd3.eq_2
attribute [go_sem] JR.eq_1
attribute [go_sem] ZcS.eq_1 ZcS.eq_2 ZcS.eq_3 ZcS.eq_4 ZcS.eq_5
attribute [go_sem] Ze8.eq_1 Ze8.eq_2
attribute [go_sem] D.flat.eq_1
attribute [go_sem] give.eq_1 give.eq_2
attribute [go_sem] D.beq1.eq_1 D.beq1.eq_2 D.beq1.eq_3 D.beq1.eq_4
attribute [go_sem] Zdj.eq_1 Zdj.eq_2 Zdj.eq_3 Zdj.eq_4 Zdj.eq_5 Zdj.eq_6 Zdj.eq_7
attribute [go_sem] not1.eq_1 not1.eq_2
attribute [go_sem] X8.eq_1 X8.eq_2 X8.eq_3
attribute [go_sem] St.nx.eq_1
attribute [go_sem] ZG.eq_1 ZG.eq_2 ZG.eq_3
attribute [go_sem] Zdk.eq_1 Zdk.eq_2 Zdk.eq_3
attribute [go_sem] ZhO.eq_1 ZhO.eq_2
attribute [go_sem] vun.eq_1 vun.eq_2 vun.eq_3
attribute [go_sem] toD.eq_1 toD.eq_2
attribute [go_sem] Zm.eq_1 Zm.eq_2 Zm.eq_3 Zm.eq_4 Zm.eq_5 Zm.eq_6 Zm.eq_7 Zm.eq_8 Zm.eq_9 Zm.eq_10 Zm.eq_11 Zm.eq_12 Zm.eq_13 Zm.eq_14 Zm.eq_15 Zm.eq_16
attribute [go_sem] D.plain.eq_1 D.plain.eq_2 D.plain.eq_3 D.plain.eq_4 D.plain.eq_5
attribute [go_sem] Qj.eq_1
attribute [go_sem] Z0.eq_1 Z0.eq_2 Z0.eq_3
attribute [go_sem] UX.eq_1 UX.eq_2
attribute [go_sem] ZF.eq_1 ZF.eq_2
attribute [go_sem] Ztc.eq_1
attribute [go_sem] Zgk.eq_1 Zgk.eq_2
attribute [go_sem] Zbi.eq_1 Zbi.eq_2 Zbi.eq_3 Zbi.eq_4
attribute [go_sem] St.sl.eq_1
attribute [go_sem] Zvw.eq_1 Zvw.eq_2
attribute [go_sem] Ul.eq_1 Ul.eq_2
attribute [go_sem] Zd1.eq_1 Zd1.eq_2
attribute [go_sem] ren.eq_1 ren.eq_2
attribute [go_sem] kill.eq_1 kill.eq_2
attribute [go_sem] lkp.eq_1 lkp.eq_2
attribute [go_sem] Zoz.eq_1 Zoz.eq_2 Zoz.eq_3
attribute [go_sem] YE.eq_1 YE.eq_2
attribute [go_sem] beqL.eq_1 beqL.eq_2 beqL.eq_3
attribute [go_sem] D.cells.eq_1 D.cells.eq_2 D.cells.eq_3 D.cells.eq_4 D.cells.eq_5
attribute [go_sem] ZlN.eq_1 ZlN.eq_2
attribute [go_sem] Zoy.eq_1 Zoy.eq_2
attribute [go_sem] neg1.eq_1 neg1.eq_2
attribute [go_sem] ZiU.eq_1 ZiU.eq_2 ZiU.eq_3
attribute [go_sem] VR.eq_1 VR.eq_2 VR.eq_3
attribute [go_sem] asD.eq_1
attribute [go_sem] UK.eq_1 UK.eq_2 UK.eq_3 UK.eq_4 UK.eq_5 UK.eq_6 UK.eq_7 UK.eq_8 UK.eq_9 UK.eq_10 UK.eq_11 UK.eq_12 UK.eq_13 UK.eq_14 UK.eq_15 UK.eq_16 UK.eq_17
attribute [go_sem] Zgj.eq_1 Zgj.eq_2 Zgj.eq_3 Zgj.eq_4 Zgj.eq_5
attribute [go_sem] D.one.eq_1 D.one.eq_2 D.one.eq_3 D.one.eq_4 D.one.eq_5
attribute [go_sem] freeze.eq_1 freeze.eq_2
attribute [go_sem] ZcW.eq_1
attribute [go_sem] loOf.eq_1 loOf.eq_2
attribute [go_sem] Eff.on.eq_1
attribute [go_sem] ZaE.eq_1 ZaE.eq_2
attribute [go_sem] cloV.eq_1
attribute [go_sem] slice0.eq_1 slice0.eq_2
attribute [go_sem] evM.eq_1 evM.eq_2
attribute [go_sem] hiOf.eq_1 hiOf.eq_2
attribute [go_sem] Zh7.eq_1 Zh7.eq_2 Zh7.eq_3
attribute [go_sem] ZuQ.eq_1
attribute [go_sem] idx.eq_1 idx.eq_2
attribute [go_sem] Wp.eq_1 Wp.eq_2 Wp.eq_3 Wp.eq_4 Wp.eq_5
attribute [go_sem] ZaV.eq_1 ZaV.eq_2 ZaV.eq_3
attribute [go_sem] Qz.eq_1 Qz.eq_2
attribute [go_sem] D.notSl.eq_1 D.notSl.eq_2
attribute [go_sem] ZxU.eq_1 ZxU.eq_2
attribute [go_sem] Zcc.eq_1 Zcc.eq_2 Zcc.eq_3 Zcc.eq_4 Zcc.eq_5 Zcc.eq_6
attribute [go_sem] CO.guard.eq_1
attribute [go_sem] ZeL.eq_1
attribute [go_sem] JX.eq_1
attribute [go_sem] Zb8.eq_1 Zb8.eq_2
attribute [go_sem] Zh6.eq_1
attribute [go_sem] Eff.adds.eq_1
attribute [go_sem] Wu.eq_1 Wu.eq_2
attribute [go_sem] Zf.eq_1 Zf.eq_2
attribute [go_sem] Zb.eff.eq_1
attribute [go_sem] Zfm.eq_1 Zfm.eq_2
attribute [go_sem] Zsg.eq_1 Zsg.eq_2
attribute [go_sem] Zi7.eq_1 Zi7.eq_2 Zi7.eq_3
attribute [go_sem] del.eq_1 del.eq_2
attribute [go_sem] Zms.eq_1
attribute [go_sem] Zqu.eq_1 Zqu.eq_2
attribute [go_sem] Zaq.eq_1 Zaq.eq_2
attribute [go_sem] Zib.eq_1 Zib.eq_2
attribute [go_sem] JZ.eq_1 JZ.eq_2 JZ.eq_3 JZ.eq_4 JZ.eq_5
attribute [go_sem] Zee.eq_1
attribute [go_sem] slice3.eq_1
attribute [go_sem] Zca.eq_1 Zca.eq_2
attribute [go_sem] args.eq_1 args.eq_2
attribute [go_sem] Zg6.eq_1 Zg6.eq_2
attribute [go_sem] Zia.eq_1 Zia.eq_2
attribute [go_sem] Za5.eq_1 Za5.eq_2
attribute [go_sem] ZcA.eq_1
attribute [go_sem] ZcC.deepRow.eq_1 ZcC.deepRow.eq_2
attribute [go_sem] ZfX.eq_1 ZfX.eq_2
attribute [go_sem] Zh9.eq_1
attribute [go_sem] evL.eq_1 evL.eq_2
attribute [go_sem] ZaF.eq_1 ZaF.eq_2 ZaF.eq_3
attribute [go_sem] Zcb.eq_1 Zcb.eq_2
attribute [go_sem] Zmr.eq_1 Zmr.eq_2
attribute [go_sem] Eff.sets.eq_1
attribute [go_sem] ZcZ.eq_1 ZcZ.eq_2 ZcZ.eq_3
attribute [go_sem] Zh5.eq_1 Zh5.eq_2
attribute [go_sem] Zdv.eq_1
attribute [go_sem] Zfl.eq_1 Zfl.eq_2
attribute [go_sem] Zap.eq_1 Zap.eq_2 Zap.eq_3
attribute [go_sem] ZtO.eq_1
attribute [go_sem] Zof.eq_1
attribute [go_sem] VT.eq_1 VT.eq_2
attribute [go_sem] ZxV.eq_1 ZxV.eq_2
attribute [go_sem] Zi8.eq_1 Zi8.eq_2
attribute [go_sem] Zch.eq_1 Zch.eq_2
attribute [go_sem] Zmu.eq_1
attribute [go_sem] buildDp.eq_1 buildDp.eq_2
attribute [go_sem] AV.atom.eq_1 AV.atom.eq_2 AV.atom.eq_3 AV.atom.eq_4 AV.atom.eq_5
attribute [go_sem] Zqy.eq_1
attribute [go_sem] Eff.dels.eq_1
attribute [go_sem] Zcz.eq_1 Zcz.eq_2 Zcz.eq_3
attribute [go_sem] mat.eq_1 mat.eq_2 mat.eq_3
attribute [go_sem] QA.eq_1
attribute [go_sem] Zce.eq_1 Zce.eq_2
attribute [go_sem] Zsd.eq_1 Zsd.eq_2
attribute [go_sem] Zqw.eq_1
attribute [go_sem] ZtM.eq_1
attribute [go_sem] Un.eq_1
attribute [go_sem] QO.eq_1 QO.eq_2 QO.eq_3 QO.eq_4
attribute [go_sem] ZtN.eq_1
attribute [go_sem] Zdw.eq_1 Zdw.eq_2
attribute [go_sem] Zsi.eq_1 Zsi.eq_2
attribute [go_sem] Zfk.eq_1 Zfk.eq_2 Zfk.eq_3 Zfk.eq_4
attribute [go_sem] Zg4.eq_1 Zg4.eq_2
attribute [go_sem] Zed.eq_1 Zed.eq_2
attribute [go_sem] Zdy.eq_1 Zdy.eq_2 Zdy.eq_3 Zdy.eq_4 Zdy.eq_5
attribute [go_sem] Zqv.eq_1 Zqv.eq_2
attribute [go_sem] Zi9.eq_1
attribute [go_sem] ZcD.eq_1 ZcD.eq_2
attribute [go_sem] convS.eq_1 convS.eq_2
attribute [go_sem] ZfY.eq_1 ZfY.eq_2
attribute [go_sem] CO.tl.eq_1
attribute [go_sem] Ve.eq_1 Ve.eq_2 Ve.eq_3
attribute [go_sem] CO.dst.eq_1
attribute [go_sem] teOf.eq_1
attribute [go_sem] ZtP.eq_1 ZtP.eq_2 ZtP.eq_3
attribute [go_sem] Zfj.eq_1
attribute [go_sem] Zg7.eq_1 Zg7.eq_2
attribute [go_sem] ZcC.eq_1 ZcC.eq_2 ZcC.eq_3 ZcC.eq_4
attribute [go_sem] Zh8.eq_1 Zh8.eq_2
attribute [go_sem] ZbA.eq_1 ZbA.eq_2 ZbA.eq_3
attribute [go_sem] Zo4.eq_1
attribute [go_sem] Eff.val.eq_1
attribute [go_sem] sliceS.eq_1 sliceS.eq_2
attribute [go_sem] Vc.eq_1 Vc.eq_2 Vc.eq_3
attribute [go_sem] buildSl.eq_1 buildSl.eq_2
attribute [go_sem] UP.eq_1 UP.eq_2 UP.eq_3 UP.eq_4
attribute [go_sem] J7.eq_1 J7.eq_2 J7.eq_3 J7.eq_4 J7.eq_5
attribute [go_sem] ZjW.eq_1 ZjW.eq_2
attribute [go_sem] ZjX.eq_1
attribute [go_sem] evP.eq_1 evP.eq_2
attribute [go_sem] Zcf.eq_1 Zcf.eq_2
attribute [go_sem] Zbk.eq_1
attribute [go_sem] Zdx.eq_1
attribute [go_sem] Zo3.eq_1 Zo3.eq_2
attribute [go_sem] Zmt.eq_1
attribute [go_sem] WV.eq_1
attribute [go_sem] Zsh.eq_1
attribute [go_sem] bnT.eq_1 bnT.eq_2
attribute [go_sem] Zb9.eq_1 Zb9.eq_2
attribute [go_sem] JW.eq_1 JW.eq_2
attribute [go_sem] Zcg.eq_1 Zcg.eq_2
attribute [go_sem] asgDp.eq_1 asgDp.eq_2
attribute [go_sem] Zg3.eq_1 Zg3.eq_2 Zg3.eq_3
attribute [go_sem] Zse.eq_1 Zse.eq_2
attribute [go_sem] CO.op.eq_1
attribute [go_sem] ZcB.eq_1 ZcB.eq_2
attribute [go_sem] ZcX.eq_1 ZcX.eq_2
attribute [go_sem] Zwa.eq_1 Zwa.eq_2
attribute [go_sem] Zqx.eq_1 Zqx.eq_2
attribute [go_sem] Zg5.eq_1 Zg5.eq_2
attribute [go_sem] ZcY.eq_1 ZcY.eq_2 ZcY.eq_3 ZcY.eq_4 ZcY.eq_5 ZcY.eq_6 ZcY.eq_7 ZcY.eq_8 ZcY.eq_9
attribute [go_sem] JY.eq_1
attribute [go_sem] VS.eq_1 VS.eq_2 VS.eq_3 VS.eq_4
attribute [go_sem] Eff.frz.eq_1
attribute [go_sem] Qq.eq_1 Qq.eq_2
attribute [go_sem] ZfW.eq_1 ZfW.eq_2
attribute [go_sem] Zb.gone.eq_1
attribute [go_sem] meltIn.eq_1 meltIn.eq_2
attribute [go_sem] Zfn.eq_1
attribute [go_sem] Zsf.eq_1 Zsf.eq_2
attribute [go_sem] convI.eq_1 convI.eq_2
attribute [go_sem] ZkO.eq_1 ZkO.eq_2
attribute [go_sem] bd.eq_1
attribute [go_sem] Zcd.eq_1 Zcd.eq_2
attribute [go_sem] Ya.eq_1
attribute [go_sem] Zdz.eq_1 Zdz.eq_2
attribute [go_sem] Zoe.eq_1 Zoe.eq_2
attribute [go_sem] ZuV.eq_1 ZuV.eq_2
attribute [go_sem] ZN.eq_1 ZN.eq_2 ZN.eq_3 ZN.eq_4 ZN.eq_5 ZN.eq_6 ZN.eq_7 ZN.eq_8 ZN.eq_9 ZN.eq_10 ZN.eq_11 ZN.eq_12 ZN.eq_13 ZN.eq_14 ZN.eq_15 ZN.eq_16 ZN.eq_17 ZN.eq_18 ZN.eq_19 ZN.eq_20 ZN.eq_21 ZN.eq_22 ZN.eq_23 ZN.eq_24 ZN.eq_25 ZN.eq_26 ZN.eq_27 ZN.eq_28 ZN.eq_29 ZN.eq_30 ZN.eq_31 ZN.eq_32 ZN.eq_33 ZN.eq_34 ZN.eq_35 ZN.eq_36 ZN.eq_37 ZN.eq_38 ZN.eq_39
attribute [go_sem] Jc.eq_1 Jc.eq_2 Jc.eq_3 Jc.eq_4 Jc.eq_5
attribute [go_sem] Zft.eq_1
attribute [go_sem] ZqJ.eq_1 ZqJ.eq_2
attribute [go_sem] Zbn.eq_1 Zbn.eq_2
attribute [go_sem] Zc3.eq_1
attribute [go_sem] Zc1.eq_1 Zc1.eq_2 Zc1.eq_3 Zc1.eq_4 Zc1.eq_5
attribute [go_sem] U2.eq_1 U2.eq_2
attribute [go_sem] ZmO.eq_1 ZmO.eq_2
attribute [go_sem] XA.eq_1 XA.eq_2
attribute [go_sem] only.eq_1 only.eq_2
attribute [go_sem] ZtZ.eq_1 ZtZ.eq_2
attribute [go_sem] Zfr.eq_1 Zfr.eq_2
attribute [go_sem] WZ.eq_1 WZ.eq_2
attribute [go_sem] okL.eq_1 okL.eq_2
attribute [go_sem] okC.eq_1 okC.eq_2 okC.eq_3 okC.eq_4 okC.eq_5 okC.eq_6 okC.eq_7 okC.eq_8 okC.eq_9 okC.eq_10
attribute [go_sem] ZkQ.eq_1 ZkQ.eq_2
attribute [go_sem] Zhc.eq_1 Zhc.eq_2
attribute [go_sem] Zen.eq_1 Zen.eq_2 Zen.eq_3
attribute [go_sem] Zf3.eq_1 Zf3.eq_2
attribute [go_sem] Zfs.eq_1 Zfs.eq_2
attribute [go_sem] XI.eq_1 XI.eq_2
attribute [go_sem] Zs.eq_1 Zs.eq_2
attribute [go_sem] V4.eq_1 V4.eq_2 V4.eq_3
attribute [go_sem] Zik.eq_1
attribute [go_sem] V5.eq_1 V5.eq_2
attribute [go_sem] J3.eq_1 J3.eq_2
attribute [go_sem] CO.starts.eq_1
attribute [go_sem] Vf.eq_1 Vf.eq_2
attribute [go_sem] Q7.eq_1 Q7.eq_2
attribute [go_sem] ZuU.eq_1 ZuU.eq_2
attribute [go_sem] Zjl.eq_1
attribute [go_sem] Zep.eq_1 Zep.eq_2
attribute [go_sem] Wx.eq_1 Wx.eq_2
attribute [go_sem] Zc2.eq_1
attribute [go_sem] ZR.body.eq_1
attribute [go_sem] Zhd.eq_1 Zhd.eq_2
attribute [go_sem] U1.eq_1 U1.eq_2 U1.eq_3 U1.eq_4 U1.eq_5 U1.eq_6
attribute [go_sem] ZR.res.eq_1
attribute [go_sem] Vu.eq_1 Vu.eq_2
attribute [go_sem] Y2.eq_1 Y2.eq_2 Y2.eq_3 Y2.eq_4 Y2.eq_5 Y2.eq_6 Y2.eq_7 Y2.eq_8 Y2.eq_9 Y2.eq_10 Y2.eq_11 Y2.eq_12
attribute [go_sem] ZkG.eq_1 ZkG.eq_2
attribute [go_sem] V3.eq_1 V3.eq_2
attribute [go_sem] ZR.nt.eq_1
attribute [go_sem] okD.eq_1 okD.eq_2
attribute [go_sem] Zoe.eq_1 J7.eq_1 J7.eq_2 J7.eq_3 J7.eq_4
attribute [go_sem] Uu.eq_1 Zcm.eq_1 Zcm.eq_2 Zcm.eq_3 Zcm.eq_4 Zcm.eq_5 Zcm.eq_6 Zcm.eq_7 Zcm.eq_8 Zcm.eq_9 Zcm.eq_10 Vv.eq_1
attribute [go_sem] QX.eq_3 Xz.eq_1 AV.atom.eq_1 AV.atom.eq_2 AV.atom.eq_3 AV.atom.eq_4
attribute [go_sem] Zr7.eq_1 Zr7.eq_2 Zmk.eq_1 Zmk.eq_2
attribute [go_sem] Ze Zxk Zz3
attribute [go_sem] List.map_cons List.map_nil List.flatMap_cons List.flatMap_nil List.append_nil List.nil_append List.cons_append List.length_cons List.length_nil List.all_cons List.all_nil List.any_cons List.any_nil List.contains_cons List.contains_nil List.filter_cons List.filter_nil List.drop_zero List.drop_succ_cons List.drop_nil List.take_zero List.take_succ_cons List.take_nil List.getElem?_cons_zero List.getElem?_cons_succ List.getElem?_nil Option.map_some Option.map_none Bool.and_true Bool.true_and Bool.and_false Bool.false_and Bool.or_true Bool.true_or Bool.or_false Bool.false_or Bool.not_true Bool.not_false decide_true decide_false and_true true_and and_false false_and not_true not_false_eq_true or_true true_or or_false false_or if_true if_false true_implies false_implies implies_true imp_self eq_self ne_eq beq_self_eq_true Bool.true_eq_false Bool.false_eq_true List.isEmpty_nil List.isEmpty_cons List.range_zero List.set_cons_zero List.set_cons_succ Option.some.injEq reduceCtorEq Nat.reduceLeDiff
def Zml (hp:Hp):List Nat→List Nat
 | []=>[]
 | i :: r=>if Ve (lkp hp i)=true then i :: Zml hp r else Zml hp r
theorem gE (hp:Hp) (ids:List Nat):(ids.filter fun i=>Ve (lkp hp i))=Zml hp ids:=by
 induction ids with
 | nil=>rfl
 | cons i r ih=>simp only[List.filter_cons,Zml,ih]
def ZoW (hp:Hp) (rs:List Nat):List Nat→Bool
 | []=>true
 | i :: r=>(Ve (lkp hp i) || rs.contains i)&&ZoW hp rs r
def ZoX (hp:Hp):List Nat→Bool
 | []=>false
 | i :: r=>Za5 (lkp hp i) || ZoX hp r
theorem gG (hp:Hp) (ids:List Nat):(ids.any fun i=>Za5 (lkp hp i))=ZoX hp ids:=by
 induction ids with
 | nil=>rfl
 | cons i r ih=>simp only[List.any_cons,ZoX,ih]
attribute [go_sem] ZoX.eq_1 ZoX.eq_2
@[go_sem] theorem appTo_nil (hp:Hp) (s b:Nat) (str flat:Bool) (base:Nat) (y:AV):ZdA hp s b str flat base y .nil=VT hp s b str flat base .nil y ([]++YN hp y):=rfl
@[go_sem] theorem appTo_own (hp:Hp) (s b:Nat) (str flat:Bool) (base:Nat) (y:AV) (k:Nat):ZdA hp s b str flat base y (.own k)=VT hp s b str flat base (.own k) y ((if Za5 (lkp hp k)=true then [k] else [])++YN hp y):=rfl
@[go_sem] theorem ZBV (hp:Hp) (s b:Nat) (str flat:Bool) (base:Nat) (y:AV) (k o n:Nat):ZdA hp s b str flat base y (.ownv k o n)=VT hp s b str flat base (.ownv k o n) y ([]++YN hp y):=rfl
@[go_sem] theorem deepId_d (hp:Hp) (x:D):YN hp (.d x)=[]:=rfl
@[go_sem] theorem ZBW (hp:Hp):YN hp .nil=[]:=rfl
@[go_sem] theorem ZBi (hp:Hp) (k o n:Nat):YN hp (.ownv k o n)=[]:=rfl
@[go_sem] theorem ZBX (hp:Hp) (k:Nat):YN hp (.own k)=if Za5 (lkp hp k)=true then [k] else []:=rfl
@[go_sem] theorem appTo_sub (hp:Hp) (s b:Nat) (str flat:Bool) (base:Nat) (y:AV) (id nm:Nat):ZdA hp s b str flat base y (.sub id nm)=if str then none else bnd (Zdy hp true y) fun q=>if (Zbh y).contains id then none else Zg7 s b base id nm q (lkp hp id):=rfl
theorem gF (hp:Hp) (rs ids:List Nat):Zbz hp rs ids=ZoW hp rs ids:=by
 induction ids with
 | nil=>rfl
 | cons i r ih=>simp only[Zbz,List.all_cons,ZoW] at ih ⊢;rw[ih]
attribute [go_sem] Zml.eq_1 Zml.eq_2 ZoW.eq_1 ZoW.eq_2
@[go_sem] theorem okV_d (x:D):okV (.d x)=true:=rfl
@[go_sem] theorem okV_nil:okV .nil=true:=rfl
@[go_sem] theorem okV_nilp:okV .nilp=true:=rfl
@[go_sem] theorem okV_nili:okV .nili=true:=rfl
@[go_sem] theorem okV_ptr (a b:Nat):okV (.ptr a b)=true:=rfl
@[go_sem] theorem okV_prow (a b c e:Nat):okV (.prow a b c e)=true:=rfl
@[go_sem] theorem okV_pim (cs:List D):okV (.pim cs)=true:=rfl
@[go_sem] theorem okV_own (a:Nat):okV (.own a)=true:=rfl
@[go_sem] theorem okV_ownv (a b c:Nat):okV (.ownv a b c)=true:=rfl
@[go_sem] theorem okV_agg (cs:List AV):okV (.agg cs)=ZqJ cs:=rfl
@[go_sem] theorem okV_tup0:okV (.tup [])=true:=rfl
@[go_sem] theorem ZBj (sl:Sl) (a:COp) (k:Nat):seenSrc sl a (.own k)=XI sl k (ZN a):=rfl
@[go_sem] theorem seenSrc_d (sl:Sl) (a:COp) (x:D):seenSrc sl a (.d x)=true:=rfl
@[go_sem] theorem ZBk (sl:Sl) (a:COp):seenSrc sl a .nil=true:=rfl
@[go_sem] theorem ZAu (sl:Sl) (a:COp) (x y z:Nat):seenSrc sl a (.ownv x y z)=true:=rfl
@[go_sem] theorem okV_iteV (b:Bool) (v:AV):okV (Zgl b v)=(!b || okV v):=by cases b<;>simp[Zgl,okV]
@[go_sem] theorem awayV_d (sl:Sl) (xs:List Opd) (x:D):Zcn sl xs (.d x)=true:=rfl
@[go_sem] theorem awayV_nil (sl:Sl) (xs:List Opd):Zcn sl xs .nil=true:=rfl
@[go_sem] theorem ZBY (sl:Sl) (xs:List Opd):Zcn sl xs .nilp=true:=rfl
@[go_sem] theorem awayV_ptr (sl:Sl) (xs:List Opd) (k o:Nat):Zcn sl xs (.ptr k o)=XI sl k xs:=rfl
@[go_sem] theorem awayV_pim (sl:Sl) (xs:List Opd) (cs:List D):Zcn sl xs (.pim cs)=true:=rfl
@[go_sem] theorem awayV_own (sl:Sl) (xs:List Opd) (a:Nat):Zcn sl xs (.own a)=true:=rfl
@[go_sem] theorem ZBZ (sl:Sl) (xs:List Opd) (a b c:Nat):Zcn sl xs (.ownv a b c)=true:=rfl
@[go_sem] theorem awayV_agg (sl:Sl) (xs:List Opd) (cs:List AV):Zcn sl xs (.agg cs)=true:=rfl
@[go_sem] theorem awayV_tup (sl:Sl) (xs:List Opd) (cs:List AV):Zcn sl xs (.tup cs)=true:=rfl
end Go.Abs.E
