/- The abstract semantics as rewriting rules: what must hold for a code to come to a state of which something is true. Own text. -/
import Derived.Test.YtkdjbefmiiibpaaGreatDoorAbsRun
set_option linter.unusedVariables false
set_option linter.unusedSimpArgs false
namespace Go.Abs.E
open Go Go.Abs
abbrev _root_.Go.Abs.Opd.i (n:Int):Opd:=.v (.d (.int .i64 n))
abbrev _root_.Go.Abs.Opd.b (x:Bool):Opd:=.v (.d (.bool x))
def stW {α:Type} (x:Option α) (K:α→Prop):Prop:=match x with
 | some a=>K a
 | none=>False
def gW (x:Option Bool) (A B:Prop):Prop:=match x with
 | some b=>(b=true→A)∧(b=false→B)
 | none=>False
def JF (v:AV) (A B:Prop):Prop:=match v with
 | .d (.bool t)=>(t=true→A)∧(t=false→B)
 | _=>False
theorem JS {α:Type} (a:α) (K:α→Prop):stW (some a) K=K a:=rfl
theorem Zlp {α:Type} (K:α→Prop):stW none K=False:=rfl
theorem Zdw {α β:Type} (x:Option α) (f:α→Option β) (K:β→Prop):stW (bnd x f) K=stW x fun a=>stW (f a) K:=by cases x<;>rfl
@[go_sem] theorem ZxY (A B:Prop):gW (some true) A B=A:=by simp[gW]
@[go_sem] theorem gW_false (A B:Prop):gW (some false) A B=B:=by simp[gW]
@[go_sem] theorem gW_dec (p:Prop) [Decidable p] (A B:Prop):gW (some (decide p)) A B=((p→A)∧(¬p→B)):=by simp[gW]
@[go_sem] theorem gW_not (b:Bool) (A B:Prop):gW (some (!b)) A B=gW (some b) B A:=by cases b<;>simp[gW]
theorem gW_some (b:Bool) (A B:Prop):gW (some b) A B=((b=true→A)∧(b=false→B)):=rfl
@[go_sem] theorem ZFo (A B:Prop):JF (.d (.bool true)) A B=A:=by simp[JF]
@[go_sem] theorem ZEQ (A B:Prop):JF (.d (.bool false)) A B=B:=by simp[JF]
@[go_sem] theorem condW_dec (p:Prop) [Decidable p] (A B:Prop):JF (.d (.bool (decide p))) A B=((p→A)∧(¬p→B)):=by simp[JF]
@[go_sem] theorem condW_not (b:Bool) (A B:Prop):JF (.d (.bool (!b))) A B=JF (.d (.bool b)) B A:=by cases b<;>simp[JF]
@[go_sem] theorem condW_and (a b:Bool) (A B:Prop):JF (.d (.bool (a&&b))) A B=JF (.d (.bool a)) (JF (.d (.bool b)) A B) B:=by cases a<;>cases b<;>simp[JF]
@[go_sem] theorem condW_or (a b:Bool) (A B:Prop):JF (.d (.bool (a || b))) A B=JF (.d (.bool a)) A (JF (.d (.bool b)) A B):=by cases a<;>cases b<;>simp[JF]
@[go_sem] theorem ZFp (b:Bool) (A B:Prop):JF (.d (.bool b)) A B=((b=true→A)∧(b=false→B)):=rfl
@[congr] theorem gW_congr {x y:Option Bool} {A B:Prop} (h:x=y):gW x A B=gW y A B:=by rw[h]
@[congr] theorem ZER {v w:AV} {A B:Prop} (h:v=w):JF v A B=JF w A B:=by rw[h]
section
variable (X:Fns) (M:Zt)
noncomputable def Zfw (nx:Nat):Nat→List CO→Sl→Hp→(Sl→Hp→Prop)→Prop
 | _,[],sl,hp,K=>K sl hp
 | i,o :: rest,sl,hp,K=>gW (Qe sl o.guard)
   (stW (VO (nx+64*i) o.dst sl hp (vop (Zh X M) M sl hp (nx+64*i) o.op)) fun r=>Zfw nx (i+1) rest r.1 r.2 K)
   (Zfw nx (i+1) rest (Zw sl o.dst (.tup [])) hp K)
def Zdm (nx i:Nat) (d:Option Nat) (rest:List CO) (sl:Sl) (hp:Hp) (K:Sl→Hp→Prop) (e:Option Zc):Prop:=
 stW (VO (nx+64*i) d sl hp e) fun r=>Zfw X M nx (i+1) rest r.1 r.2 K
@[go_sem] theorem opsW_nil (nx i:Nat) (sl:Sl) (hp:Hp) (K:Sl→Hp→Prop):Zfw X M nx i [] sl hp K=K sl hp:=rfl
@[go_sem] theorem opsW_cons (nx i:Nat) (d:Option Nat) (tl:Bool) (op:COp) (rest:List CO) (sl:Sl) (hp:Hp) (K:Sl→Hp→Prop) :
  Zfw X M nx i (⟨d,none,op,tl⟩ :: rest) sl hp K=Zdm X M nx i d rest sl hp K (vop (Zh X M) M sl hp (nx+64*i) op):=by
 simp[Zfw,Zdm,Qe,ZxY]
def Zj0 (b:Bool) (v:AV):AV:=if b then v else .tup []
def ZaX (b:Bool) (nx i:Nat) (d:Option Nat) (rest:List CO) (sl:Sl) (hp:Hp) (K:Sl→Hp→Prop) (e:Option Zc):Prop:=
 gW (some b) (Zdm X M nx i d rest sl hp K e) (Zfw X M nx (i+1) rest (Zw sl d (.tup [])) hp K)
def Zs5 (g:Option Bool) (nx i:Nat) (d:Option Nat) (op:COp) (rest:List CO) (sl:Sl) (hp:Hp) (K:Sl→Hp→Prop):Prop:=
 gW g (Zdm X M nx i d rest sl hp K (vop (Zh X M) M sl hp (nx+64*i) op)) (Zfw X M nx (i+1) rest (Zw sl d (.tup [])) hp K)
@[go_sem] theorem ZFq (nx i g:Nat) (w:Bool) (d:Option Nat) (tl:Bool) (op:COp) (rest:List CO) (sl:Sl) (hp:Hp) (K:Sl→Hp→Prop) :
  Zfw X M nx i (⟨d,some (g,w),op,tl⟩ :: rest) sl hp K=Zs5 X M (Zhu w (gs sl g)) nx i d op rest sl hp K:=rfl
@[go_sem] theorem ZES (b:Bool) (nx i:Nat) (d:Option Nat) (op:COp) (rest:List CO) (sl:Sl) (hp:Hp) (K:Sl→Hp→Prop) :
  Zs5 X M (some b) nx i d op rest sl hp K=ZaX X M b nx i d rest sl hp K (vop (Zh X M) M sl hp (nx+64*i) op):=rfl
@[go_sem] theorem gA (nx i:Nat) (d:Option Nat) (rest:List CO) (sl:Sl) (hp:Hp) (K:Sl→Hp→Prop) (e:Option Zc) :
  ZaX X M true nx i d rest sl hp K e=Zdm X M nx i d rest sl hp K e:=by simp[ZaX,gW]
@[go_sem] theorem gB (nx i:Nat) (d:Option Nat) (rest:List CO) (sl:Sl) (hp:Hp) (K:Sl→Hp→Prop) (e:Option Zc) :
  ZaX X M false nx i d rest sl hp K e=Zfw X M nx (i+1) rest (Zw sl d (.tup [])) hp K:=by simp[ZaX,gW]
@[go_sem] theorem Zs6 (b:Bool) (nx i:Nat) (d:Option Nat) (rest:List CO) (sl:Sl) (hp:Hp) (K:Sl→Hp→Prop) (v:AV) :
  ZaX X M b nx i d rest sl hp K (QT v)=Zfw X M nx (i+1) rest (Zw sl d (Zj0 b v)) hp K:=by
 cases b
 ·simp[ZaX,gW,Zj0]
 ·simp only[ZaX,gW,Zj0,if_true,true_implies,Bool.true_eq_false,false_implies,and_true];rfl
@[go_sem] theorem ZET (b:Bool) (nx i:Nat) (d:Option Nat) (rest:List CO) (sl:Sl) (hp:Hp) (K:Sl→Hp→Prop) (v:AV) :
  ZaX X M b nx i d rest sl hp K (some { eff := { val:=v,adds:=[],sets:=[],dels:=[],frz:=[] },gone:=[] })=Zfw X M nx (i+1) rest (Zw sl d (Zj0 b v)) hp K:=Zs6 X M b nx i d rest sl hp K v
@[congr] theorem ZCN {g g' : Option Bool} {nx i:Nat} {d:Option Nat} {op:COp} {rest:List CO} {sl:Sl} {hp:Hp} {K:Sl→Hp→Prop} (h:g=g') :
  Zs5 X M g nx i d op rest sl hp K=Zs5 X M g' nx i d op rest sl hp K:=by rw[h]
@[congr] theorem ZCO {b b' : Bool} {nx i:Nat} {d:Option Nat} {rest:List CO} {sl:Sl} {hp:Hp} {K:Sl→Hp→Prop} {e e' : Option Zc} (hb:b=b') (h:b'=true→e=e') :
  ZaX X M b nx i d rest sl hp K e=ZaX X M b' nx i d rest sl hp K e':=by
 subst hb
 cases b
 ·simp[ZaX,gW]
 ·rw[h rfl]
@[go_sem] theorem ZEU (nx i:Nat) (d:Option Nat) (rest:List CO) (sl:Sl) (hp:Hp) (K:Sl→Hp→Prop) (v:AV) :
  Zdm X M nx i d rest sl hp K (QT v)=Zfw X M nx (i+1) rest (Zw sl d v) hp K:=rfl
@[go_sem] theorem ZFr (nx i:Nat) (d:Option Nat) (rest:List CO) (sl:Sl) (hp:Hp) (K:Sl→Hp→Prop) (v:AV) :
  Zdm X M nx i d rest sl hp K (some { eff := { val:=v,adds:=[],sets:=[],dels:=[],frz:=[] },gone:=[] })=Zfw X M nx (i+1) rest (Zw sl d v) hp K:=rfl
@[go_sem] theorem ZFs (nx i:Nat) (d:Option Nat) (rest:List CO) (sl:Sl) (hp:Hp) (K:Sl→Hp→Prop) (e:Zc) :
  Zdm X M nx i d rest sl hp K (some e)=(Xl (nx+64*i) (nx+64*i+64) e.eff.adds=true∧Zfw X M nx (i+1) rest (Zw (XP e.gone sl) d e.eff.val) (e.eff.on (Wg e.gone hp)) K):=by
 unfold Zdm VO
 rw[Zf]
 split<;>rename_i h
 ·simp only[JS,h,true_and];rfl
 ·simp only[Zlp,h,false_and,Bool.false_eq_true]
@[go_sem] theorem ZFt (nx i:Nat) (d:Option Nat) (rest:List CO) (sl:Sl) (hp:Hp) (K:Sl→Hp→Prop):Zdm X M nx i d rest sl hp K none=False:=rfl
@[go_sem] theorem stepW_ite (nx i:Nat) (d:Option Nat) (rest:List CO) (sl:Sl) (hp:Hp) (K:Sl→Hp→Prop) (c:Prop) [Decidable c] (a b:Option Zc) :
  Zdm X M nx i d rest sl hp K (if c then a else b)=((c→Zdm X M nx i d rest sl hp K a)∧(¬c→Zdm X M nx i d rest sl hp K b)):=by
 by_cases h:c<;>simp[h]
noncomputable def WZ (nx:Nat):Nat→Bool→List CO→Sl→Hp→(Sl→Hp→Prop)→Prop
 | _,_,[],sl,hp,K=>K sl hp
 | i,tail,o :: rest,sl,hp,K=>gW (Qe sl o.guard)
   (stW (VO (nx+64*i) o.dst sl hp (UE (Zh X M) M nx i (CO.starts o) o.op sl hp)) fun r=>WZ nx (i+1) tail rest r.1 r.2 K)
   (WZ nx (i+1) tail rest (Zw sl o.dst (.tup [])) hp K)
def JI (nx i:Nat) (t:Bool) (d:Option Nat) (rest:List CO) (sl:Sl) (hp:Hp) (K:Sl→Hp→Prop) (e:Option Zc):Prop:=
 stW (VO (nx+64*i) d sl hp (if t then e else Zeg e)) fun r=>WZ X M nx (i+1) false rest r.1 r.2 K
@[go_sem] theorem opsDW_nil (nx i:Nat) (t:Bool) (sl:Sl) (hp:Hp) (K:Sl→Hp→Prop):WZ X M nx i t [] sl hp K=K sl hp:=rfl
@[go_sem] theorem ZFu (nx i:Nat) (d:Option Nat) (tl:Bool) (op:COp) (rest:List CO) (sl:Sl) (hp:Hp) (K:Sl→Hp→Prop) :
  WZ X M nx i false (⟨d,none,op,tl⟩ :: rest) sl hp K=JI X M nx i (ZjG op || tl) d rest sl hp K (vop (Zh X M) M sl hp (nx+64*i) op):=by
 simp[WZ,JI,Qe,ZxY,UE,CO.starts]
def Uz (b:Bool) (nx i:Nat) (t:Bool) (d:Option Nat) (rest:List CO) (sl:Sl) (hp:Hp) (K:Sl→Hp→Prop) (e:Option Zc):Prop:=
 gW (some b) (JI X M nx i t d rest sl hp K e) (WZ X M nx (i+1) false rest (Zw sl d (.tup [])) hp K)
def Zos (g:Option Bool) (nx i:Nat) (t:Bool) (d:Option Nat) (op:COp) (rest:List CO) (sl:Sl) (hp:Hp) (K:Sl→Hp→Prop):Prop:=
 gW g (JI X M nx i t d rest sl hp K (vop (Zh X M) M sl hp (nx+64*i) op)) (WZ X M nx (i+1) false rest (Zw sl d (.tup [])) hp K)
@[go_sem] theorem ZEV (nx i g:Nat) (w:Bool) (d:Option Nat) (tl:Bool) (op:COp) (rest:List CO) (sl:Sl) (hp:Hp) (K:Sl→Hp→Prop) :
  WZ X M nx i false (⟨d,some (g,w),op,tl⟩ :: rest) sl hp K=Zos X M (Zhu w (gs sl g)) nx i (ZjG op || tl) d op rest sl hp K:=rfl
@[go_sem] theorem ZCP (b:Bool) (nx i:Nat) (t:Bool) (d:Option Nat) (op:COp) (rest:List CO) (sl:Sl) (hp:Hp) (K:Sl→Hp→Prop) :
  Zos X M (some b) nx i t d op rest sl hp K=Uz X M b nx i t d rest sl hp K (vop (Zh X M) M sl hp (nx+64*i) op):=rfl
@[go_sem] theorem gC (nx i:Nat) (t:Bool) (d:Option Nat) (rest:List CO) (sl:Sl) (hp:Hp) (K:Sl→Hp→Prop) (e:Option Zc) :
  Uz X M true nx i t d rest sl hp K e=JI X M nx i t d rest sl hp K e:=by simp[Uz,gW]
@[go_sem] theorem gD (nx i:Nat) (t:Bool) (d:Option Nat) (rest:List CO) (sl:Sl) (hp:Hp) (K:Sl→Hp→Prop) (e:Option Zc) :
  Uz X M false nx i t d rest sl hp K e=WZ X M nx (i+1) false rest (Zw sl d (.tup [])) hp K:=by simp[Uz,gW]
@[go_sem] theorem ZqS (b:Bool) (nx i:Nat) (t:Bool) (d:Option Nat) (rest:List CO) (sl:Sl) (hp:Hp) (K:Sl→Hp→Prop) (v:AV) :
  Uz X M b nx i t d rest sl hp K (QT v)=WZ X M nx (i+1) false rest (Zw sl d (Zj0 b v)) hp K:=by
 cases b
 ·simp[Uz,gW,Zj0]
 ·simp only[Uz,gW,Zj0,if_true,true_implies,Bool.true_eq_false,false_implies,and_true];cases t<;>rfl
@[go_sem] theorem ZCQ (b:Bool) (nx i:Nat) (t:Bool) (d:Option Nat) (rest:List CO) (sl:Sl) (hp:Hp) (K:Sl→Hp→Prop) (v:AV) :
  Uz X M b nx i t d rest sl hp K (some { eff := { val:=v,adds:=[],sets:=[],dels:=[],frz:=[] },gone:=[] })=WZ X M nx (i+1) false rest (Zw sl d (Zj0 b v)) hp K:=ZqS X M b nx i t d rest sl hp K v
@[congr] theorem ZB6 {g g' : Option Bool} {nx i:Nat} {t t' : Bool} {d:Option Nat} {op:COp} {rest:List CO} {sl:Sl} {hp:Hp} {K:Sl→Hp→Prop} (h:g=g') (ht:t=t') :
  Zos X M g nx i t d op rest sl hp K=Zos X M g' nx i t' d op rest sl hp K:=by rw[h,ht]
@[congr] theorem ZB7 {b b' : Bool} {nx i:Nat} {t:Bool} {d:Option Nat} {rest:List CO} {sl:Sl} {hp:Hp} {K:Sl→Hp→Prop} {e e' : Option Zc} (hb:b=b') (h:b'=true→e=e') :
  Uz X M b nx i t d rest sl hp K e=Uz X M b' nx i t d rest sl hp K e':=by
 subst hb
 cases b
 ·simp[Uz,gW]
 ·rw[h rfl]
@[go_sem] theorem ZCR (nx i:Nat) (t:Bool) (d:Option Nat) (rest:List CO) (sl:Sl) (hp:Hp) (K:Sl→Hp→Prop) (v:AV) :
  JI X M nx i t d rest sl hp K (QT v)=WZ X M nx (i+1) false rest (Zw sl d v) hp K:=by cases t<;>rfl
@[go_sem] theorem ZEW (nx i:Nat) (t:Bool) (d:Option Nat) (rest:List CO) (sl:Sl) (hp:Hp) (K:Sl→Hp→Prop) (v:AV) :
  JI X M nx i t d rest sl hp K (some { eff := { val:=v,adds:=[],sets:=[],dels:=[],frz:=[] },gone:=[] })=WZ X M nx (i+1) false rest (Zw sl d v) hp K:=by cases t<;>rfl
@[go_sem] theorem ZEX (nx i:Nat) (t:Bool) (d:Option Nat) (rest:List CO) (sl:Sl) (hp:Hp) (K:Sl→Hp→Prop) (e:Zc) :
  JI X M nx i t d rest sl hp K (some e)=((t=false→Zhy e e.gone e.eff.sets e.eff.dels e.eff.frz=some e)∧Xl (nx+64*i) (nx+64*i+64) e.eff.adds=true∧WZ X M nx (i+1) false rest (Zw (XP e.gone sl) d e.eff.val) (e.eff.on (Wg e.gone hp)) K):=by
 have key:stW (VO (nx+64*i) d sl hp (some e)) (fun r=>WZ X M nx (i+1) false rest r.1 r.2 K)=(Xl (nx+64*i) (nx+64*i+64) e.eff.adds=true∧WZ X M nx (i+1) false rest (Zw (XP e.gone sl) d e.eff.val) (e.eff.on (Wg e.gone hp)) K):=by
  unfold VO
  rw[Zf]
  split<;>rename_i h
  ·simp only[JS,h,true_and];rfl
  ·simp only[Zlp,h,false_and,Bool.false_eq_true]
 unfold JI
 cases t with
 | true=>simp only[if_true];rw[key];simp
 | false=>
  simp only[Bool.false_eq_true,if_false,Zeg,Zf,true_implies]
  unfold Zhy
  split
  ·rw[key];simp
  ·simp[VO,bnd,stW]
@[go_sem] theorem ZEY (nx i:Nat) (t:Bool) (d:Option Nat) (rest:List CO) (sl:Sl) (hp:Hp) (K:Sl→Hp→Prop):JI X M nx i t d rest sl hp K none=False:=by cases t<;>rfl
@[go_sem] theorem ZFv (nx i:Nat) (t:Bool) (d:Option Nat) (rest:List CO) (sl:Sl) (hp:Hp) (K:Sl→Hp→Prop) (c:Prop) [Decidable c] (a b:Option Zc) :
  JI X M nx i t d rest sl hp K (if c then a else b)=((c→JI X M nx i t d rest sl hp K a)∧(¬c→JI X M nx i t d rest sl hp K b)):=by
 by_cases h:c<;>simp[h]
@[go_sem] theorem quietC_ok (c:Zc):Zhy c [] [] [] []=some c:=rfl
def W (c:Ze) (st:St) (Q:Ex→St→Prop):Prop:=stW (Xh X M c st) fun r=>Q r.1 r.2
@[congr] theorem W_congr {c:Ze} {st st' : St} {Q:Ex→St→Prop} (h:st=st'):W X M c st Q=W X M c st' Q:=by rw[h]
@[congr] theorem ZFw {rest:List CO} {nx nx' i i' : Nat} {sl sl' : Sl} {hp hp' : Hp} {K:Sl→Hp→Prop} (hn:nx=nx') (hi:i=i') (h:sl=sl') (h' : hp=hp') :
  Zfw X M nx i rest sl hp K=Zfw X M nx' i' rest sl' hp' K:=by rw[h,h',hn,hi]
@[congr] theorem ZEZ {rest:List CO} {nx nx' i i' : Nat} {t t' : Bool} {sl sl' : Sl} {hp hp' : Hp} {K:Sl→Hp→Prop} (hn:nx=nx') (hi:i=i') (ht:t=t') (h:sl=sl') (h' : hp=hp') :
  WZ X M nx i t rest sl hp K=WZ X M nx' i' t' rest sl' hp' K:=by rw[h,h',ht,hn,hi]
@[congr] theorem ZE0 {rest:List CO} {nx i:Nat} {d:Option Nat} {sl:Sl} {hp:Hp} {K:Sl→Hp→Prop} {e e' : Option Zc} (h:e=e') :
  Zdm X M nx i d rest sl hp K e=Zdm X M nx i d rest sl hp K e':=by rw[h]
@[congr] theorem ZCS {rest:List CO} {nx i:Nat} {t t' : Bool} {d:Option Nat} {sl:Sl} {hp:Hp} {K:Sl→Hp→Prop} {e e' : Option Zc} (ht:t=t') (h:e=e') :
  JI X M nx i t d rest sl hp K e=JI X M nx i t' d rest sl hp K e':=by rw[h,ht]
theorem ZCT (nx:Nat) (K:Sl→Hp→Prop):∀ (l:List CO) (i:Nat) (sl:Sl) (hp:Hp),Zfw X M nx i l sl hp K=stW (ZgJ (Zh X M) M nx i l sl hp) fun r=>K r.1 r.2:=by
 intro l
 induction l with
 | nil=>intro i sl hp;rfl
 | cons o rest ih=>
  intro i sl hp
  simp only[Zfw,ZgJ,ih,Zdw]
  cases Qe sl o.guard with
  | none=>rfl
  | some b=>cases b<;>simp[gW,Zdw,JS]
theorem ZAM (nx:Nat) (K:Sl→Hp→Prop):∀ (l:List CO) (i:Nat) (t:Bool) (sl:Sl) (hp:Hp),WZ X M nx i t l sl hp K=stW (JV (Zh X M) M nx i t l sl hp) fun r=>K r.1 r.2:=by
 intro l
 induction l with
 | nil=>intro i t sl hp;rfl
 | cons o rest ih=>
  intro i t sl hp
  simp only[WZ,JV,ih,Zdw]
  cases Qe sl o.guard with
  | none=>rfl
  | some b=>cases b<;>simp[gW,Zdw,JS]
def Zzb (m nx:Nat) (Q:Ex→St→Prop) (sl:Sl) (hp:Hp):Prop:=Q .normal { sl:=sl,hp:=hp,nx:=nx,m:=m }
def ZuF (ops:List CO) (ps:List (Nat×Nat)) (K:Sl→Hp→Prop) (sl:Sl) (hp:Hp):Prop:=Zah ops sl ps=true∧K sl hp
@[go_sem] theorem regQ_eq (m nx:Nat) (Q:Ex→St→Prop) (sl:Sl) (hp:Hp):Zzb m nx Q sl hp=Q .normal { sl:=sl,hp:=hp,nx:=nx,m:=m }:=rfl
@[go_sem] theorem seenQ_eq (ops:List CO) (ps:List (Nat×Nat)) (K:Sl→Hp→Prop) (sl:Sl) (hp:Hp):ZuF ops ps K sl hp=(Zah ops sl ps=true∧K sl hp):=rfl
@[go_sem] theorem W_skip (st:St) (Q:Ex→St→Prop):W X M .skip st Q=Q .normal st:=by simp[W,ZwT,JS]
@[go_sem] theorem W_ret (st:St) (Q:Ex→St→Prop):W X M .ret st Q=Q .ret st:=by simp[W,Zzr,JS]
@[go_sem] theorem W_exit (id:Nat) (st:St) (Q:Ex→St→Prop):W X M (.exit id) st Q=Q (.exit id) st:=by simp[W,ZwU,JS]
@[go_sem] theorem W_stuck (st:St) (Q:Ex→St→Prop):W X M .stuck st Q=False:=by
 have h:Xh X M .stuck st=none:=Wn fun n=>by simp only[ZL]
 simp only[W,h,Zlp]
@[go_sem] theorem W_region (n:Nat) (ops:List CO) (st:St) (Q:Ex→St→Prop) :
  W X M (.region n none ops) st Q=Zfw X M st.nx 0 ops st.sl st.hp (Zzb st.m (st.nx+64*n) Q):=by
 rw[ZCT,W,Ztq,ZlH,Zdw];rfl
theorem ZAN (n:Nat) (ps:List (Nat×Nat)) (ops:List CO) (st:St) (Q:Ex→St→Prop) :
  W X M (.region n (some ps) ops) st Q=WZ X M st.nx 0 false ops st.sl st.hp (ZuF ops ps (Zzb st.m (st.nx+64*n) Q)):=by
 rw[ZAM,W,ZwV,ZlH,Zdw,ZpE,Zdw]
 congr 1
 funext r
 by_cases h:Zah ops r.1 ps=true<;>simp[h,ZuF,JS,Zlp,Zzb]
@[go_sem] theorem W_draw0 (n:Nat) (ops:List CO) (st:St) (Q:Ex→St→Prop) :
  W X M (.region n (some []) ops) st Q=WZ X M st.nx 0 false ops st.sl st.hp (Zzb st.m (st.nx+64*n) Q):=by
 rw[ZAN]
 congr 1
 funext sl hp
 simp[ZuF,Zah]
@[go_sem] theorem W_drawc (n:Nat) (p:Nat×Nat) (ps:List (Nat×Nat)) (ops:List CO) (st:St) (Q:Ex→St→Prop) :
  W X M (.region n (some (p :: ps)) ops) st Q=WZ X M st.nx 0 false ops st.sl st.hp (ZuF ops (p :: ps) (Zzb st.m (st.nx+64*n) Q)):=ZAN X M n _ ops st Q
def ZxZ (c:Ze) (Q:Ex→St→Prop):Ex→St→Prop
 | .normal,st=>W X M c st Q
 | e,st=>Q e st
def blkQ (id:Nat) (Q:Ex→St→Prop):Ex→St→Prop
 | .exit j,st=>if j=id then Q .normal st else Q (.exit j) st
 | e,st=>Q e st
@[go_sem] theorem ZCU (c:Ze) (Q:Ex→St→Prop) (st:St):ZxZ X M c Q .normal st=W X M c st Q:=rfl
@[go_sem] theorem thenQ_ret (c:Ze) (Q:Ex→St→Prop) (st:St):ZxZ X M c Q .ret st=Q .ret st:=rfl
@[go_sem] theorem ZFx (c:Ze) (Q:Ex→St→Prop) (id:Nat) (st:St):ZxZ X M c Q (.exit id) st=Q (.exit id) st:=rfl
@[go_sem] theorem ZE1 (id:Nat) (Q:Ex→St→Prop) (st:St):blkQ id Q .normal st=Q .normal st:=rfl
@[go_sem] theorem blkQ_ret (id:Nat) (Q:Ex→St→Prop) (st:St):blkQ id Q .ret st=Q .ret st:=rfl
@[go_sem] theorem blkQ_exit (id j:Nat) (Q:Ex→St→Prop) (st:St):blkQ id Q (.exit j) st=if j=id then Q .normal st else Q (.exit j) st:=rfl
@[go_sem] theorem W_seq (a b:Ze) (st:St) (Q:Ex→St→Prop):W X M (.seq a b) st Q=W X M a st (ZxZ X M b Q):=by
 unfold W
 rw[Zzs]
 cases h:Xh X M a st with
 | none=>rfl
 | some r=>obtain⟨e,st'⟩:=r;cases e<;>rfl
@[go_sem] theorem W_cond (c:Opd) (a b:Ze) (st:St) (Q:Ex→St→Prop) :
  W X M (.cond c a b) st Q=JF (evO st.sl c) (W X M a st Q) (W X M b st Q):=by
 unfold W
 rw[ZwW]
 cases h:evO st.sl c with
 | d x=>cases x with
  | bool t=>cases t<;>simp[ZiK,JF]
  | _=>rfl
 | _=>rfl
@[go_sem] theorem W_block (id:Nat) (c:Ze) (st:St) (Q:Ex→St→Prop):W X M (.block id c) st Q=W X M c st (blkQ id Q):=by
 unfold W
 rw[ZuY]
 cases h:Xh X M c st with
 | none=>rfl
 | some r=>
  obtain⟨e,st'⟩:=r
  cases e with
  | exit j=>by_cases hj:j=id<;>simp[Zh9,hj,JS,blkQ]
  | normal=>rfl
  | ret=>rfl
def keepQ (K:List Nat) (Q:Ex→St→Prop) (e:Ex) (st:St):Prop:=Q e { sl:=only K st.sl,hp:=st.hp,nx:=st.nx,m:=st.m }
@[go_sem] theorem keepQ_eq (K:List Nat) (Q:Ex→St→Prop) (e:Ex) (st:St):keepQ K Q e st=Q e { sl:=only K st.sl,hp:=st.hp,nx:=st.nx,m:=st.m }:=rfl
@[go_sem] theorem W_keep (K:List Nat) (c:Ze) (st:St) (Q:Ex→St→Prop):W X M (.keep K c) st Q=W X M c st (keepQ K Q):=by
 unfold W
 rw[ZwX]
 cases h:Xh X M c st with
 | none=>rfl
 | some r=>rfl
def Zo9 (c:Ze) (Q:Ex→St→Prop) (r:Option St):Prop:=stW r fun st=>W X M c st Q
@[go_sem] theorem ZFy (c:Ze) (Q:Ex→St→Prop) (st:St):Zo9 X M c Q (some st)=W X M c st Q:=rfl
@[go_sem] theorem ZFz (c:Ze) (Q:Ex→St→Prop):Zo9 X M c Q none=False:=rfl
@[go_sem] theorem linkW_ite (c:Ze) (Q:Ex→St→Prop) (p:Prop) [Decidable p] (a b:Option St):Zo9 X M c Q (if p then a else b)=((p→Zo9 X M c Q a)∧(¬p→Zo9 X M c Q b)):=by
 by_cases h:p<;>simp[h]
@[go_sem] theorem W_link (id:Nat) (i:Opd) (j:Nat) (c:Ze) (st:St) (Q:Ex→St→Prop):W X M (.link id i j c) st Q=Zo9 X M c Q (ZfG id i j st):=by
 unfold W Zo9
 rw[ZwY]
 cases h:ZfG id i j st<;>rfl
@[go_sem] theorem W_melt (c:Ze) (st:St) (Q:Ex→St→Prop):W X M (.melt c) st Q=W X M c { sl:=st.sl,hp:=ZjZ Zd7 st.hp,nx:=st.nx,m:=st.m } Q:=by
 unfold W
 rw[ZwZ];rfl
def LW (c:Ze) (K:List Nat) (st:St) (Q:Ex→St→Prop):Prop:=stW (ZiM X M c K st) fun r=>Q r.1 r.2
@[congr] theorem LW_congr {c:Ze} {K K' : List Nat} {st st' : St} {Q:Ex→St→Prop} (hk:K=K') (h:st=st'):LW X M c K st Q=LW X M c K' st' Q:=by rw[h,hk]
@[go_sem] theorem W_loop (c:Ze) (st:St) (Q:Ex→St→Prop):W X M (.loop c) st Q=LW X M c (ZkI st.sl) st Q:=by
 unfold W LW;rw[Zw0]
def ZrW (c:Ze) (K:List Nat) (Q:Ex→St→Prop):Ex→St→Prop
 | .normal,st=>LW X M c K st Q
 | e,st=>Q e st
@[go_sem] theorem ZCV (c:Ze) (K:List Nat) (Q:Ex→St→Prop) (st:St):ZrW X M c K Q .normal st=LW X M c K st Q:=rfl
@[go_sem] theorem nextQ_ret (c:Ze) (K:List Nat) (Q:Ex→St→Prop) (st:St):ZrW X M c K Q .ret st=Q .ret st:=rfl
@[go_sem] theorem ZFA (c:Ze) (K:List Nat) (Q:Ex→St→Prop) (id:Nat) (st:St):ZrW X M c K Q (.exit id) st=Q (.exit id) st:=rfl
theorem ZM {c:Ze} {K:List Nat} {st:St} {Q:Ex→St→Prop} (h:W X M c (JG K st) (ZrW X M c K Q)):LW X M c K st Q:=by
 unfold W at h
 cases hv:Xh X M c (JG K st) with
 | none=>rw[hv] at h;exact h.elim
 | some r=>
  rw[hv] at h
  obtain⟨e,st'⟩:=r
  unfold LW
  cases e with
  | normal=>rw[ZuZ X M hv];exact h
  | exit id=>rw[ZpF X M (by simp) hv];exact h
  | ret=>rw[ZpF X M (by simp) hv];exact h
def ZuG (sl:Sl):Sl→Sl
 | []=>sl
 | (k,v) :: r=>ZuG (ins sl k v) r
def Zpa (hp:Hp):Hp→Hp
 | []=>hp
 | (k,o) :: r=>Zpa (ins hp k o) r
theorem LW_ind {α:Type} (S:α→St) (I:α→Prop) (μ:α→Nat) {c:Ze} {K:List Nat} {Q:Ex→St→Prop}
  (step:∀ a,I a→(∀ b st,I b→μ b<μ a→JG K st=S b→LW X M c K st Q)→W X M c (S a) (ZrW X M c K Q)) :
  ∀ a st,I a→JG K st=S a→LW X M c K st Q:=by
 have key:∀ n a st,μ a=n→I a→JG K st=S a→LW X M c K st Q:=by
  intro n
  induction n using Nat.strongRecOn with
  | ind n ih=>
   intro a st hn ha hs
   refine ZM X M ?_
   rw[hs]
   exact step a ha fun b st' hb hlt hs'=>ih (μ b) (by omega) b st' rfl hb hs'
 exact fun a st ha hs=>key _ a st rfl ha hs
theorem ZQ {α:Type} (u:α→Sl) (uh:α→Hp) (I:α→Prop) (μ:α→Nat) (a:α) {c:Ze} {K:List Nat} {Q:Ex→St→Prop} {st st0:St}
  (hc:JG K st=st0) (ha:I a) (h0:(⟨ZuG st0.sl (u a),Zpa st0.hp (uh a),st0.nx,st0.m⟩:St)=st0)
  (step:∀ a,I a→(∀ b st,I b→μ b<μ a→JG K st=⟨ZuG st0.sl (u b),Zpa st0.hp (uh b),st0.nx,st0.m⟩→LW X M c K st Q)→W X M c ⟨ZuG st0.sl (u a),Zpa st0.hp (uh a),st0.nx,st0.m⟩ (ZrW X M c K Q)) :
  LW X M c K st Q:=
 LW_ind X M (fun a=>⟨ZuG st0.sl (u a),Zpa st0.hp (uh a),st0.nx,st0.m⟩) I μ step a st ha (hc.trans h0.symm)
def Zwy (m:Nat) (rs:List ZqX) (R:AV×List Zo→Prop):Ex→St→Prop:=fun e st=>stW (ZcQ m rs (some (e,st))) R
def resW (m:Nat) (hp:Hp) (R:AV×List Zo→Prop) (vs:Option (List AV)):Prop:=stW vs fun vs=>R (Wm m hp (Zdq vs))
@[go_sem] theorem resW_some (m:Nat) (hp:Hp) (R:AV×List Zo→Prop) (vs:List AV):resW m hp R (some vs)=R (Wm m hp (Zdq vs)):=rfl
@[go_sem] theorem resW_none (m:Nat) (hp:Hp) (R:AV×List Zo→Prop):resW m hp R none=False:=rfl
@[go_sem] theorem endQ_ret (m:Nat) (rs:List ZqX) (R:AV×List Zo→Prop) (st:St):Zwy m rs R .ret st=resW m st.hp R (Q6 (Zn3 st) rs):=by
 simp only[Zwy,ZcQ,Zdw];rfl
@[go_sem] theorem ZE2 (m:Nat) (rs:List ZqX) (R:AV×List Zo→Prop) (st:St):Zwy m rs R .normal st=resW m st.hp R (Q6 (Zn3 st) rs):=by
 simp only[Zwy,ZcQ,Zdw];rfl
theorem ZrX {f:Nat} {as:List AV} {h:List Zo} (fn:ZH) {R:AV×List Zo→Prop} (hx:X f=some (.text fn)) (hl:as.length≤fn.nt)
  (hr:W X M fn.body { sl:=UN 0 as,hp:=W5 0 h,nx:=h.length,m:=h.length } (Zwy h.length fn.res R)):∃ r,Zh X M f as h=some r∧R r:=by
 unfold W at hr
 cases hv:Xh X M fn.body { sl:=UN 0 as,hp:=W5 0 h,nx:=h.length,m:=h.length } with
 | none=>rw[hv] at hr;exact hr.elim
 | some q=>
  rw[hv] at hr
  obtain⟨e,st⟩:=q
  simp only[JS,Zwy] at hr
  cases hk:ZcQ h.length fn.res (some (e,st)) with
  | none=>rw[hk] at hr;exact hr.elim
  | some r=>rw[hk] at hr;exact⟨r,ZA3 X M hx hl (by rw[hv];exact hk),hr⟩
theorem Zb {f:Nat} {as:List AV} {h:List Zo} (fn:ZH) {r:AV×List Zo} (hx:X f=some (.text fn)) (hl:as.length≤fn.nt)
  (hr:W X M fn.body { sl:=UN 0 as,hp:=W5 0 h,nx:=h.length,m:=h.length } (Zwy h.length fn.res fun q=>q=r)):Zh X M f as h=some r:=by
 obtain⟨q,hq,rfl⟩:=ZrX X M fn hx hl hr
 exact hq
end
@[go_sem] theorem vopE_move (C:Orc) (M:Zt) (sl:Sl) (hp:Hp) (base:Nat) (x:Opd):vop C M sl hp base (.move x)=QT (evO sl x):=by simp only[vop]
@[go_sem] theorem ZE3 (C:Orc) (M:Zt) (sl:Sl) (hp:Hp) (base:Nat) (s:Option Nat) (x:Opd):vop C M sl hp base (.assign s x)=Zff base s (evO sl x):=by simp only[vop]
@[go_sem] theorem vopE_pick (C:Orc) (M:Zt) (sl:Sl) (hp:Hp) (base:Nat) (c a b:Opd):vop C M sl hp base (.pick c a b)=Zh6 (evO sl a) (evO sl b) (evO sl c):=by simp only[vop]
@[go_sem] theorem ZFB (C:Orc) (M:Zt) (sl:Sl) (hp:Hp) (base:Nat) (slc:List (Option Nat)) (cs:List AV):vop C M sl hp base (.alloc slc cs)=Zhl slc base cs:=by simp only[vop]
@[go_sem] theorem vopE_box (C:Orc) (M:Zt) (sl:Sl) (hp:Hp) (base:Nat) (x:Opd):vop C M sl hp base (.box x)=Zwz base (evO sl x):=by simp only[vop]
@[go_sem] theorem ZFC (C:Orc) (M:Zt) (sl:Sl) (hp:Hp) (base:Nat) (zs:List AV) (ps:List (Nat×Nat×Opd)):vop C M sl hp base (.build zs ps)=Zpg zs (evP sl ps):=by simp only[vop]
@[go_sem] theorem ZCW (C:Orc) (M:Zt) (sl:Sl) (hp:Hp) (base:Nat) (s:Nat) (xs:List Opd):vop C M sl hp base (.buildSl s xs)=buildSl hp base s (evL sl xs):=by simp only[vop]
@[go_sem] theorem vopE_load (C:Orc) (M:Zt) (sl:Sl) (hp:Hp) (base:Nat) (g:Bool) (s:Nat) (a:Opd):vop C M sl hp base (.load g s a)=WL (JU hp g s (evO sl a)):=by simp only[vop]
@[go_sem] theorem ZFD (C:Orc) (M:Zt) (sl:Sl) (hp:Hp) (base:Nat) (slc:List (Option Nat)) (s:Nat) (a x:Opd):vop C M sl hp base (.store slc s a x)=Zik (ZbI hp slc s base (evO sl x).cells (evO sl a)):=by simp only[vop]
@[go_sem] theorem ZB8 (C:Orc) (M:Zt) (sl:Sl) (hp:Hp) (base:Nat) (x:Opd):vop C M sl hp base (.nilCheck x)=Za1 (evO sl x):=by simp only[vop]
@[go_sem] theorem vopE_bin (C:Orc) (M:Zt) (sl:Sl) (hp:Hp) (base:Nat) (op:BinOp) (eq:Bool) (x y:Opd):vop C M sl hp base (.bin op eq x y)=ZiC op eq (evO sl x) (evO sl y):=by simp only[vop]
@[go_sem] theorem vopE_un (C:Orc) (M:Zt) (sl:Sl) (hp:Hp) (base:Nat) (op:UnOp) (x:Opd):vop C M sl hp base (.un op x)=WL (vun op (evO sl x)):=by simp only[vop]
@[go_sem] theorem vopE_eqA (C:Orc) (M:Zt) (sl:Sl) (hp:Hp) (base:Nat) (neg:Bool) (ks:List Nat) (x y:Opd):vop C M sl hp base (.eqA neg ks x y)=ZqU neg ks (evO sl x) (evO sl y):=by simp only[vop]
@[go_sem] theorem ZFE (C:Orc) (M:Zt) (sl:Sl) (hp:Hp) (base:Nat) (k:IntKind) (x:Opd):vop C M sl hp base (.convI k x)=convI k (evO sl x):=by simp only[vop]
@[go_sem] theorem ZFF (C:Orc) (M:Zt) (sl:Sl) (hp:Hp) (base:Nat) (x:Opd):vop C M sl hp base (.convS x)=convS (evO sl x):=by simp only[vop]
@[go_sem] theorem vopE_fn (C:Orc) (M:Zt) (sl:Sl) (hp:Hp) (base:Nat) (f:Nat) (cs:List Opd):vop C M sl hp base (.fn f cs)=WL (cloV f (evL sl cs)):=by simp only[vop]
@[go_sem] theorem vopE_make (C:Orc) (M:Zt) (sl:Sl) (hp:Hp) (base:Nat) (s b:Nat) (z:D) (l c:Opd):vop C M sl hp base (.make s b z l c)=bnd (idx (evO sl l)) fun l=>bnd (idx (evO sl c)) fun c=>Zpi base s b z l c:=by simp only[vop]
@[go_sem] theorem ZFG (C:Orc) (M:Zt) (sl:Sl) (hp:Hp) (base:Nat) (s:Nat) (x:Opd) (lo hi:Option Opd):vop C M sl hp base (.slice s x lo hi)=WL (Ux hp s (evM sl lo) (evM sl hi) (evO sl x)):=by simp only[vop]
@[go_sem] theorem ZE4 (C:Orc) (M:Zt) (sl:Sl) (hp:Hp) (base:Nat) (x:Opd) (lo hi:Option Opd):vop C M sl hp base (.sliceS x lo hi)=WL (sliceS (evM sl lo) (evM sl hi) (evO sl x)):=by simp only[vop]
@[go_sem] theorem ZE5 (C:Orc) (M:Zt) (sl:Sl) (hp:Hp) (base:Nat) (x hi mx:Opd):vop C M sl hp base (.slice0 x hi mx)=WL (slice0 hp (evO sl x) (idx (evO sl hi)) (idx (evO sl mx))):=by simp only[vop]
@[go_sem] theorem ZFH (C:Orc) (M:Zt) (sl:Sl) (hp:Hp) (base:Nat) (off:Nat) (x:Opd):vop C M sl hp base (.shift off x)=WM off (evO sl x):=by simp only[vop]
@[go_sem] theorem vopE_part (C:Orc) (M:Zt) (sl:Sl) (hp:Hp) (base:Nat) (g:Bool) (s off:Nat) (x:Opd):vop C M sl hp base (.part g s off x)=WL (Zlt g s off (evO sl x)):=by simp only[vop]
@[go_sem] theorem vopE_iaS (C:Orc) (M:Zt) (sl:Sl) (hp:Hp) (base:Nat) (s:Nat) (x i:Opd):vop C M sl hp base (.iaS s x i)=bnd (idx (evO sl i)) fun n=>ZiD hp s (evO sl x) n:=by simp only[vop]
@[go_sem] theorem vopE_iaA (C:Orc) (M:Zt) (sl:Sl) (hp:Hp) (base:Nat) (len s:Nat) (x i:Opd):vop C M sl hp base (.iaA len s x i)=bnd (idx (evO sl i)) fun n=>ZnB (evO sl x) n len s:=by simp only[vop]
@[go_sem] theorem vopE_ixS (C:Orc) (M:Zt) (sl:Sl) (hp:Hp) (base:Nat) (x i:Opd):vop C M sl hp base (.ixS x i)=bnd (idx (evO sl i)) fun n=>ZuP n (evO sl x):=by simp only[vop]
@[go_sem] theorem vopE_ixA (C:Orc) (M:Zt) (sl:Sl) (hp:Hp) (base:Nat) (g:Bool) (s len:Nat) (x i:Opd):vop C M sl hp base (.ixA g s len x i)=bnd (idx (evO sl i)) fun n=>ZwB g s len n (evO sl x):=by simp only[vop]
@[go_sem] theorem vopE_nth (C:Orc) (M:Zt) (sl:Sl) (hp:Hp) (base:Nat) (i:Nat) (x:Opd):vop C M sl hp base (.nth i x)=Zta i (evO sl x):=by simp only[vop]
@[go_sem] theorem vopE_len (C:Orc) (M:Zt) (sl:Sl) (hp:Hp) (base:Nat) (x:Opd):vop C M sl hp base (.len x)=bnd (Zfv hp (evO sl x)) fun n=>QT (.d (.int .i64 n)):=by simp only[vop]
@[go_sem] theorem vopE_lenS (C:Orc) (M:Zt) (sl:Sl) (hp:Hp) (base:Nat) (x:Opd):vop C M sl hp base (.lenS x)=bnd (ZyI (evO sl x)) fun n=>QT (.d (.int .i64 n)):=by simp only[vop]
@[go_sem] theorem ZE6 (C:Orc) (M:Zt) (sl:Sl) (hp:Hp) (base:Nat) (s b:Nat) (str flat:Bool) (x y:Opd):vop C M sl hp base (.append s b str flat x y)=Ztb hp s b str flat base (evO sl x) (evO sl y):=by simp only[vop]
@[go_sem] theorem vopE_min (C:Orc) (M:Zt) (sl:Sl) (hp:Hp) (base:Nat) (x y:Opd):vop C M sl hp base (.min x y)=Zlw (evO sl x) (evO sl y):=by simp only[vop]
@[go_sem] theorem vopE_max (C:Orc) (M:Zt) (sl:Sl) (hp:Hp) (base:Nat) (x y:Opd):vop C M sl hp base (.max x y)=Zlx (evO sl x) (evO sl y):=by simp only[vop]
@[go_sem] theorem vopE_call (C:Orc) (M:Zt) (sl:Sl) (hp:Hp) (base:Nat) (f:Opd) (as:List Opd):vop C M sl hp base (.call f as)=Zd8 C M hp base (evL sl as) (evO sl f):=by simp only[vop]
@[go_sem] theorem ZE7 (C:Orc) (M:Zt) (sl:Sl) (hp:Hp) (base:Nat) (s:Nat) (x lo hi mx:Opd):vop C M sl hp base (.slice3 s x lo hi mx)=WL (slice3 hp (evO sl x) (idx (evO sl lo)) (idx (evO sl hi)) (idx (evO sl mx))):=by simp only[vop]
@[go_sem] theorem ZFI (C:Orc) (M:Zt) (sl:Sl) (hp:Hp) (base:Nat) (s:Nat) (z:D) (x:Opd):vop C M sl hp base (.clear s z x)=Zik (Zfz hp s z (evO sl x)):=by simp only[vop]
@[go_sem] theorem ZCX (C:Orc) (M:Zt) (sl:Sl) (hp:Hp) (base:Nat) (s n:Nat) (xs:List Opd):vop C M sl hp base (.buildDp s n xs)=buildDp hp base s n (evL sl xs):=by simp only[vop]
@[go_sem] theorem ZFJ (C:Orc) (M:Zt) (sl:Sl) (hp:Hp) (base:Nat) (s b:Nat) (f:Bool) (x y:Opd):vop C M sl hp base (.appDp s b f x y)=ZqV hp s b base (evO sl x) (evO sl y):=by simp only[vop]
@[go_sem] theorem ZFK (C:Orc) (M:Zt) (sl:Sl) (hp:Hp) (base:Nat) (s n:Nat) (x:Opd):vop C M sl hp base (.asgDp s n x)=asgDp base s n (evO sl x):=by simp only[vop]
@[go_sem] theorem ZFL (C:Orc) (M:Zt) (sl:Sl) (hp:Hp) (base:Nat):vop C M sl hp base .stuck=none:=by simp only[vop]
@[go_sem] theorem Zzc (hp:Hp) (n:Nat) (acc:List Nat):Xd hp n [] acc=acc:=by cases n<;>rfl
@[go_sem] theorem tidy_d (hp:Hp) (ids:List Nat) (x:D):ZgK hp ids (.d x)=.d x:=rfl
@[go_sem] theorem tidy_nil (hp:Hp) (ids:List Nat):ZgK hp ids .nil=.nil:=rfl
@[go_sem] theorem tidy_junk (hp:Hp) (ids:List Nat):ZgK hp ids .junk=.junk:=rfl
@[go_sem] theorem tidy_tup (hp:Hp) (ids:List Nat) (vs:List AV):ZgK hp ids (.tup vs)=ren (UA ids) (kill (ZiI hp ids (ZI (.tup vs))) (.tup vs)):=rfl
@[go_sem] theorem tidy_agg (hp:Hp) (ids:List Nat) (vs:List AV):ZgK hp ids (.agg vs)=ren (UA ids) (kill (ZiI hp ids (ZI (.agg vs))) (.agg vs)):=rfl
@[go_sem] theorem tidy_clo (hp:Hp) (ids:List Nat) (f:Nat) (vs:List AV):ZgK hp ids (.clo f vs)=ren (UA ids) (kill (ZiI hp ids (ZI (.clo f vs))) (.clo f vs)):=rfl
@[go_sem] theorem tidy_nilp (hp:Hp) (ids:List Nat):ZgK hp ids .nilp=.nilp:=rfl
@[go_sem] theorem tidy_nili (hp:Hp) (ids:List Nat):ZgK hp ids .nili=.nili:=rfl
@[go_sem] theorem tidy_pim (hp:Hp) (ids:List Nat) (cs:List D):ZgK hp ids (.pim cs)=.pim cs:=rfl
@[go_sem] theorem tidy_ptr (hp:Hp) (ids:List Nat) (id o:Nat):ZgK hp ids (.ptr id o)=if ZfF hp ids id=true then .ptr (UA ids id) o else .junk:=by
 simp only[ZgK,ZI,ZJ,Zp,ZiI]
 split<;>simp[kill,Z6,Qr,ren,Zgm,Zgl]
@[go_sem] theorem tidy_prow (hp:Hp) (ids:List Nat) (id s i o:Nat):ZgK hp ids (.prow id s i o)=if ZfF hp ids id=true then .prow (UA ids id) s i o else .junk:=by
 simp only[ZgK,ZI,ZJ,Zp,ZiI]
 split<;>simp[kill,Z6,Qr,ren,Zgm,Zgl]
@[go_sem] theorem tidy_own (hp:Hp) (ids:List Nat) (id:Nat):ZgK hp ids (.own id)=if ZfF hp ids id=true then .own (UA ids id) else .junk:=by
 simp only[ZgK,ZI,ZJ,Zp,ZiI]
 split<;>simp[kill,Z6,Qr,ren,Zgm,Zgl]
@[go_sem] theorem tidy_ownv (hp:Hp) (ids:List Nat) (id a b:Nat):ZgK hp ids (.ownv id a b)=if ZfF hp ids id=true then .ownv (UA ids id) a b else .junk:=by
 simp only[ZgK,ZI,ZJ,Zp,ZiI]
 split<;>simp[kill,Z6,Qr,ren,Zgm,Zgl]
@[go_sem] theorem ZFM (hp:Hp) (x:D):Wm 0 hp (.d x)=(.d x,[]):=by
 simp[Wm,ZI,ZJ,Zp,UD,Zzc,tidy_d,Zd3]
@[go_sem] theorem minI_eq (a b:Int):minI a b=min a b:=by unfold minI;split<;>omega
@[go_sem] theorem maxI_eq (a b:Int):maxI a b=max a b:=by unfold maxI;split<;>omega
@[go_sem] theorem negIf_f (r:Bool):Zph false r=r:=rfl
@[go_sem] theorem negIf_t (r:Bool):Zph true r=!r:=rfl
@[go_sem] theorem opt1_some (v:AV):WL (some v)=QT v:=rfl
@[go_sem] theorem opt1_none:WL none=none:=rfl
@[go_sem] theorem vbin_int (op:BinOp) (k k' : IntKind) (a b:Int):vbin op (.d (.int k a)) (.d (.int k' b))=ZaV op k k' a b:=rfl
@[go_sem] theorem binV_int (op:BinOp) (eq:Bool) (k k' : IntKind) (a b:Int):ZiC op eq (.d (.int k a)) (.d (.int k' b))=WL (ZaV op k k' a b):=rfl
@[go_sem] theorem binV_str (op:BinOp) (eq:Bool) (a b:List UInt8):ZiC op eq (.d (.str a)) (.d (.str b))=WL (asD (Zt9 op a b)):=rfl
@[go_sem] theorem int2_add (k:IntKind) (a b:Int):ZaV .add k k a b=some (.d (.int k (k.wrap (a+b)))):=by simp[ZaV,JP,asD,Zf]
@[go_sem] theorem int2_sub (k:IntKind) (a b:Int):ZaV .sub k k a b=some (.d (.int k (k.wrap (a-b)))):=by simp[ZaV,JP,asD,Zf]
@[go_sem] theorem int2_mul (k:IntKind) (a b:Int):ZaV .mul k k a b=some (.d (.int k (k.wrap (a*b)))):=by simp[ZaV,JP,asD,Zf]
@[go_sem] theorem int2_quo (k:IntKind) (a b:Int):ZaV .quo k k a b=if b=0 then none else some (.d (.int k (k.wrap (a.tdiv b)))):=by simp only[ZaV,JP,asD,if_true];split<;>rfl
@[go_sem] theorem int2_rem (k:IntKind) (a b:Int):ZaV .rem k k a b=if b=0 then none else some (.d (.int k (a.tmod b))):=by simp only[ZaV,JP,asD,if_true];split<;>rfl
@[go_sem] theorem int2_eql (k:IntKind) (a b:Int):ZaV .eql k k a b=some (.d (.bool (decide (a=b)))):=by simp[ZaV,JP,asD,Zf,BEq.beq]
@[go_sem] theorem int2_neq (k:IntKind) (a b:Int):ZaV .neq k k a b=some (.d (.bool (!decide (a=b)))):=by simp[ZaV,JP,asD,Zf,bne,BEq.beq]
@[go_sem] theorem int2_lss (k:IntKind) (a b:Int):ZaV .lss k k a b=some (.d (.bool (decide (a<b)))):=by simp[ZaV,JP,asD,Zf]
@[go_sem] theorem int2_leq (k:IntKind) (a b:Int):ZaV .leq k k a b=some (.d (.bool (decide (a≤b)))):=by simp[ZaV,JP,asD,Zf]
@[go_sem] theorem int2_gtr (k:IntKind) (a b:Int):ZaV .gtr k k a b=some (.d (.bool (decide (b<a)))):=by simp[ZaV,JP,asD,Zf]
@[go_sem] theorem int2_geq (k:IntKind) (a b:Int):ZaV .geq k k a b=some (.d (.bool (decide (b≤a)))):=by simp[ZaV,JP,asD,Zf]
@[go_sem] theorem guardV_t (b:Bool):Zhu true (.d (.bool b))=some b:=by cases b<;>rfl
def nb (b:Bool):Bool:=!b
@[go_sem] theorem nb_true:nb true=false:=rfl
@[go_sem] theorem nb_false:nb false=true:=rfl
@[go_sem] theorem nb_eq (b:Bool):(nb b=true)=(b=false):=by cases b<;>simp[nb]
@[go_sem] theorem guardV_f (b:Bool):Zhu false (.d (.bool b))=some (nb b):=by cases b<;>rfl
@[go_sem] theorem ZFN (w:Bool):Zhu w (.tup [])=some false:=rfl
@[go_sem] theorem ZCY (a b:Bool):Zhu true (Zj0 a (.d (.bool b)))=some (a&&b):=by cases a<;>cases b<;>rfl
@[go_sem] theorem ZCZ (a b:Bool):Zhu false (Zj0 a (.d (.bool b)))=some (a&&nb b):=by cases a<;>cases b<;>rfl
@[go_sem] theorem iteV_true (v:AV):Zj0 true v=v:=rfl
@[go_sem] theorem ZFO (v:AV):Zj0 false v=.tup []:=rfl
@[go_sem] theorem ZFP (a b:AV):Zh6 a b (.d (.bool true))=QT a:=rfl
@[go_sem] theorem ZE8 (a b:AV):Zh6 a b (.d (.bool false))=QT b:=rfl
@[go_sem] theorem pickV_or (b c:Bool):Zh6 (.d (.bool true)) (Zj0 (nb b) (.d (.bool c))) (.d (.bool b))=QT (.d (.bool (b || c))):=by cases b<;>rfl
@[go_sem] theorem pickV_and (b c:Bool):Zh6 (Zj0 b (.d (.bool c))) (.d (.bool false)) (.d (.bool b))=QT (.d (.bool (b&&c))):=by cases b<;>rfl
theorem ZFQ (a b:AV) (t:Bool):Zh6 a b (.d (.bool t))=if t=true then QT a else QT b:=by cases t<;>rfl
@[go_sem] theorem dec_or (p q:Prop) [Decidable p] [Decidable q]:(decide p || decide q)=decide (p∨q):=by simp
@[go_sem] theorem dec_and (p q:Prop) [Decidable p] [Decidable q]:(decide p&&decide q)=decide (p∧q):=by simp
@[go_sem] theorem dec_not (p:Prop) [Decidable p]:(!decide p)=decide (¬p):=by simp
attribute [go_sem] Bool.or_eq_false_iff decide_eq_true_eq decide_eq_false_iff_not Bool.and_eq_true Bool.or_eq_true Bool.not_eq_true' Bool.not_eq_false' not_or Decidable.not_not
@[go_sem] theorem evO_t (sl:Sl) (n:Nat):evO sl (.t n)=gs sl n:=rfl
@[go_sem] theorem evO_v (sl:Sl) (a:AV):evO sl (.v a)=a:=rfl
@[go_sem] theorem evO_f (sl:Sl) (n:Nat):evO sl (.f n)=.clo n []:=rfl
@[go_sem] theorem gs_hit (k:Nat) (v:AV) (r:Sl):gs ((k,v) :: r) k=v:=by simp[gs,lkp,Zfu]
@[go_sem] theorem gs_cons (k t:Nat) (v:AV) (r:Sl):gs ((k,v) :: r) t=if k=t then v else gs r t:=by
 by_cases h:k=t<;>simp[gs,lkp,h,Zfu]
@[go_sem] theorem gs_nil (t:Nat):gs [] t=.junk:=rfl
attribute [go_sem] Zg5.eq_1 Zg5.eq_2
attribute [go_sem] Zcq.eq_1 Zcq.eq_2 Zcq.eq_3
attribute [go_sem] Zn0.eq_1 Zn0.eq_2 Zn0.eq_3
attribute [go_sem] ZdT.eq_1 ZdT.eq_2
attribute [go_sem] St.hp.eq_1
attribute [go_sem] Zdk.eq_1 Zdk.eq_2 Zdk.eq_3
attribute [go_sem] Zfu.eq_1 Zfu.eq_2
attribute [go_sem] agg2.eq_1 agg2.eq_2 agg2.eq_3
attribute [go_sem] ins.eq_1 ins.eq_2
attribute [go_sem] Zg7.eq_1 Zg7.eq_2
attribute [go_sem] YM.eq_1 YM.eq_2 YM.eq_3
attribute [go_sem] St.m.eq_1
attribute [go_sem] bnd.eq_1 bnd.eq_2
attribute [go_sem] ZaU.eq_1 ZaU.eq_2 ZaU.eq_3
attribute [go_sem] Zt9.eq_1 Zt9.eq_2 Zt9.eq_3 Zt9.eq_4
attribute [go_sem] AV.cells.eq_1 AV.cells.eq_2 AV.cells.eq_3 AV.cells.eq_4 AV.cells.eq_5 AV.cells.eq_6 AV.cells.eq_7 AV.cells.eq_8 AV.cells.eq_9 AV.cells.eq_10 AV.cells.eq_11 AV.cells.eq_12 AV.cells.eq_13 AV.cells.eq_14 AV.cells.eq_15 AV.cells.eq_16
attribute [go_sem] Qr.eq_1 Qr.eq_2 Qr.eq_3 Qr.eq_4 Qr.eq_5 Qr.eq_6 Qr.eq_7
attribute [go_sem] AV.solid.eq_1 AV.solid.eq_2 AV.solid.eq_3 AV.solid.eq_4
attribute [go_sem] Uy.eq_1 Uy.eq_2
attribute [go_sem] Q6.eq_1 Q6.eq_2
attribute [go_sem] Zg8.eq_1 Zg8.eq_2
attribute [go_sem] ZaT.eq_1
attribute [go_sem] Zfv.eq_1 Zfv.eq_2 Zfv.eq_3 Zfv.eq_4 Zfv.eq_5
attribute [go_sem] Zin.eq_1 Zin.eq_2
attribute [go_sem] D.flat.eq_1
attribute [go_sem] give.eq_1 give.eq_2
attribute [go_sem] D.beq1.eq_1 D.beq1.eq_2 D.beq1.eq_3 D.beq1.eq_4
attribute [go_sem] Zgl.eq_1 Zgl.eq_2 Zgl.eq_3 Zgl.eq_4 Zgl.eq_5 Zgl.eq_6 Zgl.eq_7
attribute [go_sem] not1.eq_1 not1.eq_2
attribute [go_sem] YN.eq_1 YN.eq_2 YN.eq_3
attribute [go_sem] St.nx.eq_1
attribute [go_sem] ZJ.eq_1 ZJ.eq_2 ZJ.eq_3
attribute [go_sem] Zgm.eq_1 Zgm.eq_2 Zgm.eq_3
attribute [go_sem] Zla.eq_1 Zla.eq_2
attribute [go_sem] vun.eq_1 vun.eq_2 vun.eq_3
attribute [go_sem] toD.eq_1 toD.eq_2
attribute [go_sem] Zp.eq_1 Zp.eq_2 Zp.eq_3 Zp.eq_4 Zp.eq_5 Zp.eq_6 Zp.eq_7 Zp.eq_8 Zp.eq_9 Zp.eq_10 Zp.eq_11 Zp.eq_12 Zp.eq_13 Zp.eq_14 Zp.eq_15 Zp.eq_16
attribute [go_sem] D.plain.eq_1 D.plain.eq_2 D.plain.eq_3 D.plain.eq_4 D.plain.eq_5
attribute [go_sem] Qp.eq_1
attribute [go_sem] Z6.eq_1 Z6.eq_2 Z6.eq_3
attribute [go_sem] Zac.eq_1 Zac.eq_2
attribute [go_sem] ZI.eq_1 ZI.eq_2
attribute [go_sem] Zv3.eq_1
attribute [go_sem] ZjZ.eq_1 ZjZ.eq_2
attribute [go_sem] Zdl.eq_1 Zdl.eq_2 Zdl.eq_3 Zdl.eq_4
attribute [go_sem] St.sl.eq_1
attribute [go_sem] ZyI.eq_1 ZyI.eq_2
attribute [go_sem] Jb.eq_1 Jb.eq_2
attribute [go_sem] Zg6.eq_1 Zg6.eq_2
attribute [go_sem] ren.eq_1 ren.eq_2
attribute [go_sem] kill.eq_1 kill.eq_2
attribute [go_sem] lkp.eq_1 lkp.eq_2
attribute [go_sem] ZrB.eq_1 ZrB.eq_2 ZrB.eq_3
attribute [go_sem] Vj.eq_1 Vj.eq_2
attribute [go_sem] beqL.eq_1 beqL.eq_2 beqL.eq_3
attribute [go_sem] D.cells.eq_1 D.cells.eq_2 D.cells.eq_3 D.cells.eq_4 D.cells.eq_5
attribute [go_sem] ZoE.eq_1 ZoE.eq_2
attribute [go_sem] ZrA.eq_1 ZrA.eq_2
attribute [go_sem] neg1.eq_1 neg1.eq_2
attribute [go_sem] Zmm.eq_1 Zmm.eq_2 Zmm.eq_3
attribute [go_sem] WK.eq_1 WK.eq_2 WK.eq_3
attribute [go_sem] asD.eq_1
attribute [go_sem] JP.eq_1 JP.eq_2 JP.eq_3 JP.eq_4 JP.eq_5 JP.eq_6 JP.eq_7 JP.eq_8 JP.eq_9 JP.eq_10 JP.eq_11 JP.eq_12 JP.eq_13 JP.eq_14 JP.eq_15 JP.eq_16 JP.eq_17
attribute [go_sem] ZjY.eq_1 ZjY.eq_2 ZjY.eq_3 ZjY.eq_4 ZjY.eq_5
attribute [go_sem] D.one.eq_1 D.one.eq_2 D.one.eq_3 D.one.eq_4 D.one.eq_5
attribute [go_sem] freeze.eq_1 freeze.eq_2
attribute [go_sem] Zfy.eq_1
attribute [go_sem] loOf.eq_1 loOf.eq_2
attribute [go_sem] Eff.on.eq_1
attribute [go_sem] Zck.eq_1 Zck.eq_2
attribute [go_sem] cloV.eq_1
attribute [go_sem] slice0.eq_1 slice0.eq_2
attribute [go_sem] evM.eq_1 evM.eq_2
attribute [go_sem] hiOf.eq_1 hiOf.eq_2
attribute [go_sem] Zlt.eq_1 Zlt.eq_2 Zlt.eq_3
attribute [go_sem] Zx2.eq_1
attribute [go_sem] idx.eq_1 idx.eq_2
attribute [go_sem] Ux.eq_1 Ux.eq_2 Ux.eq_3 Ux.eq_4 Ux.eq_5
attribute [go_sem] Zct.eq_1 Zct.eq_2 Zct.eq_3
attribute [go_sem] QH.eq_1 QH.eq_2
attribute [go_sem] D.notSl.eq_1 D.notSl.eq_2
attribute [go_sem] ZAO.eq_1 ZAO.eq_2
attribute [go_sem] Zd4.eq_1 Zd4.eq_2 Zd4.eq_3 Zd4.eq_4 Zd4.eq_5 Zd4.eq_6
attribute [go_sem] CO.guard.eq_1
attribute [go_sem] Zik.eq_1
attribute [go_sem] ZaZ.eq_1
attribute [go_sem] Zd0.eq_1 Zd0.eq_2
attribute [go_sem] Zls.eq_1
attribute [go_sem] Eff.adds.eq_1
attribute [go_sem] UA.eq_1 UA.eq_2
attribute [go_sem] Zg.eq_1 Zg.eq_2
attribute [go_sem] Zc.eff.eq_1
attribute [go_sem] ZiB.eq_1 ZiB.eq_2
attribute [go_sem] ZuP.eq_1 ZuP.eq_2
attribute [go_sem] ZmB.eq_1 ZmB.eq_2 ZmB.eq_3
attribute [go_sem] del.eq_1 del.eq_2
attribute [go_sem] Zpg.eq_1
attribute [go_sem] Zs7.eq_1 Zs7.eq_2
attribute [go_sem] ZbJ.eq_1 ZbJ.eq_2
attribute [go_sem] Zlx.eq_1 Zlx.eq_2
attribute [go_sem] Za1.eq_1 Za1.eq_2 Za1.eq_3 Za1.eq_4 Za1.eq_5
attribute [go_sem] Zhl.eq_1
attribute [go_sem] slice3.eq_1
attribute [go_sem] Zd2.eq_1 Zd2.eq_2
attribute [go_sem] args.eq_1 args.eq_2
attribute [go_sem] ZkC.eq_1 ZkC.eq_2
attribute [go_sem] Zlw.eq_1 Zlw.eq_2
attribute [go_sem] ZcN.eq_1 ZcN.eq_2
attribute [go_sem] Zfe.eq_1
attribute [go_sem] Zfg.deepRow.eq_1 Zfg.deepRow.eq_2
attribute [go_sem] ZjA.eq_1 ZjA.eq_2
attribute [go_sem] Zlv.eq_1
attribute [go_sem] evL.eq_1 evL.eq_2
attribute [go_sem] Zcl.eq_1 Zcl.eq_2 Zcl.eq_3
attribute [go_sem] Zd3.eq_1 Zd3.eq_2
attribute [go_sem] Zpf.eq_1 Zpf.eq_2
attribute [go_sem] Eff.sets.eq_1
attribute [go_sem] ZfB.eq_1 ZfB.eq_2 ZfB.eq_3
attribute [go_sem] Zlr.eq_1 Zlr.eq_2
attribute [go_sem] Zgw.eq_1
attribute [go_sem] ZiA.eq_1 ZiA.eq_2
attribute [go_sem] ZbI.eq_1 ZbI.eq_2 ZbI.eq_3
attribute [go_sem] ZwB.eq_1
attribute [go_sem] ZqV.eq_1
attribute [go_sem] WN.eq_1 WN.eq_2
attribute [go_sem] ZAP.eq_1 ZAP.eq_2
attribute [go_sem] ZmC.eq_1 ZmC.eq_2
attribute [go_sem] Zd9.eq_1 Zd9.eq_2
attribute [go_sem] Zpi.eq_1
attribute [go_sem] buildDp.eq_1 buildDp.eq_2
attribute [go_sem] AV.atom.eq_1 AV.atom.eq_2 AV.atom.eq_3 AV.atom.eq_4 AV.atom.eq_5
attribute [go_sem] Ztb.eq_1
attribute [go_sem] Eff.dels.eq_1
attribute [go_sem] Zfd.eq_1 Zfd.eq_2 Zfd.eq_3
attribute [go_sem] mat.eq_1 mat.eq_2 mat.eq_3
attribute [go_sem] QI.eq_1
attribute [go_sem] Zd6.eq_1 Zd6.eq_2
attribute [go_sem] ZuM.eq_1 ZuM.eq_2
attribute [go_sem] Zs9.eq_1
attribute [go_sem] Zwz.eq_1
attribute [go_sem] Jd.eq_1
attribute [go_sem] QW.eq_1 QW.eq_2 QW.eq_3 QW.eq_4
attribute [go_sem] ZwA.eq_1
attribute [go_sem] Zgx.eq_1 Zgx.eq_2
attribute [go_sem] ZuR.eq_1 ZuR.eq_2
attribute [go_sem] Ziz.eq_1 Ziz.eq_2 Ziz.eq_3 Ziz.eq_4
attribute [go_sem] ZkA.eq_1 ZkA.eq_2
attribute [go_sem] Zhk.eq_1 Zhk.eq_2
attribute [go_sem] Zgz.eq_1 Zgz.eq_2 Zgz.eq_3 Zgz.eq_4 Zgz.eq_5
attribute [go_sem] Zs8.eq_1 Zs8.eq_2
attribute [go_sem] ZmD.eq_1
attribute [go_sem] Zfh.eq_1 Zfh.eq_2
attribute [go_sem] convS.eq_1 convS.eq_2
attribute [go_sem] ZjB.eq_1 ZjB.eq_2
attribute [go_sem] CO.tl.eq_1
attribute [go_sem] We.eq_1 We.eq_2 We.eq_3
attribute [go_sem] CO.dst.eq_1
attribute [go_sem] teOf.eq_1
attribute [go_sem] ZwC.eq_1 ZwC.eq_2 ZwC.eq_3
attribute [go_sem] Ziy.eq_1
attribute [go_sem] ZkD.eq_1 ZkD.eq_2
attribute [go_sem] Zfg.eq_1 Zfg.eq_2 Zfg.eq_3 Zfg.eq_4
attribute [go_sem] Zlu.eq_1 Zlu.eq_2
attribute [go_sem] ZdA.eq_1 ZdA.eq_2 ZdA.eq_3
attribute [go_sem] Zr6.eq_1
attribute [go_sem] Eff.val.eq_1
attribute [go_sem] sliceS.eq_1 sliceS.eq_2
attribute [go_sem] V1.eq_1 V1.eq_2 V1.eq_3
attribute [go_sem] buildSl.eq_1 buildSl.eq_2
attribute [go_sem] JU.eq_1 JU.eq_2 JU.eq_3 JU.eq_4
attribute [go_sem] Zbx.eq_1 Zbx.eq_2 Zbx.eq_3 Zbx.eq_4 Zbx.eq_5
attribute [go_sem] ZnA.eq_1 ZnA.eq_2
attribute [go_sem] ZnB.eq_1
attribute [go_sem] evP.eq_1 evP.eq_2
attribute [go_sem] Zd7.eq_1 Zd7.eq_2
attribute [go_sem] Zdn.eq_1
attribute [go_sem] Zgy.eq_1
attribute [go_sem] Zr5.eq_1 Zr5.eq_2
attribute [go_sem] Zph.eq_1
attribute [go_sem] UJ.eq_1
attribute [go_sem] ZuQ.eq_1
attribute [go_sem] bnT.eq_1 bnT.eq_2
attribute [go_sem] Zd1.eq_1 Zd1.eq_2
attribute [go_sem] ZaY.eq_1 ZaY.eq_2
attribute [go_sem] Zd8.eq_1 Zd8.eq_2
attribute [go_sem] asgDp.eq_1 asgDp.eq_2
attribute [go_sem] Zkz.eq_1 Zkz.eq_2 Zkz.eq_3
attribute [go_sem] ZuN.eq_1 ZuN.eq_2
attribute [go_sem] CO.op.eq_1
attribute [go_sem] Zff.eq_1 Zff.eq_2
attribute [go_sem] Zfz.eq_1 Zfz.eq_2
attribute [go_sem] Zzj.eq_1 Zzj.eq_2
attribute [go_sem] Zta.eq_1 Zta.eq_2
attribute [go_sem] ZkB.eq_1 ZkB.eq_2
attribute [go_sem] ZfA.eq_1 ZfA.eq_2 ZfA.eq_3 ZfA.eq_4 ZfA.eq_5 ZfA.eq_6 ZfA.eq_7 ZfA.eq_8 ZfA.eq_9
attribute [go_sem] Za0.eq_1
attribute [go_sem] WM.eq_1 WM.eq_2 WM.eq_3 WM.eq_4
attribute [go_sem] Eff.frz.eq_1
attribute [go_sem] Qu.eq_1 Qu.eq_2
attribute [go_sem] Zjz.eq_1 Zjz.eq_2
attribute [go_sem] Zc.gone.eq_1
attribute [go_sem] meltIn.eq_1 meltIn.eq_2
attribute [go_sem] ZiD.eq_1
attribute [go_sem] ZuO.eq_1 ZuO.eq_2
attribute [go_sem] convI.eq_1 convI.eq_2
attribute [go_sem] Zot.eq_1 Zot.eq_2
attribute [go_sem] bd.eq_1
attribute [go_sem] Zd5.eq_1 Zd5.eq_2
attribute [go_sem] YP.eq_1
attribute [go_sem] ZgA.eq_1 ZgA.eq_2
attribute [go_sem] ZqU.eq_1 ZqU.eq_2
attribute [go_sem] Zx8.eq_1 Zx8.eq_2
attribute [go_sem] ZT.eq_1 ZT.eq_2 ZT.eq_3 ZT.eq_4 ZT.eq_5 ZT.eq_6 ZT.eq_7 ZT.eq_8 ZT.eq_9 ZT.eq_10 ZT.eq_11 ZT.eq_12 ZT.eq_13 ZT.eq_14 ZT.eq_15 ZT.eq_16 ZT.eq_17 ZT.eq_18 ZT.eq_19 ZT.eq_20 ZT.eq_21 ZT.eq_22 ZT.eq_23 ZT.eq_24 ZT.eq_25 ZT.eq_26 ZT.eq_27 ZT.eq_28 ZT.eq_29 ZT.eq_30 ZT.eq_31 ZT.eq_32 ZT.eq_33 ZT.eq_34 ZT.eq_35 ZT.eq_36 ZT.eq_37 ZT.eq_38 ZT.eq_39
attribute [go_sem] Zar.eq_1 Zar.eq_2 Zar.eq_3 Zar.eq_4 Zar.eq_5
attribute [go_sem] ZiJ.eq_1
attribute [go_sem] Ztm.eq_1 Ztm.eq_2
attribute [go_sem] Zdq.eq_1 Zdq.eq_2
attribute [go_sem] ZfG.eq_1
attribute [go_sem] ZfE.eq_1 ZfE.eq_2 ZfE.eq_3 ZfE.eq_4 ZfE.eq_5
attribute [go_sem] Zah.eq_1 Zah.eq_2
attribute [go_sem] ZpD.eq_1 ZpD.eq_2
attribute [go_sem] XP.eq_1 XP.eq_2
attribute [go_sem] only.eq_1 only.eq_2
attribute [go_sem] ZwQ.eq_1 ZwQ.eq_2
attribute [go_sem] ZiH.eq_1 ZiH.eq_2
attribute [go_sem] UN.eq_1 UN.eq_2
attribute [go_sem] okL.eq_1 okL.eq_2
attribute [go_sem] okC.eq_1 okC.eq_2 okC.eq_3 okC.eq_4 okC.eq_5 okC.eq_6 okC.eq_7 okC.eq_8 okC.eq_9 okC.eq_10
attribute [go_sem] Zov.eq_1 Zov.eq_2
attribute [go_sem] ZkI.eq_1 ZkI.eq_2
attribute [go_sem] Zhv.eq_1 Zhv.eq_2 Zhv.eq_3
attribute [go_sem] ZjG.eq_1 ZjG.eq_2
attribute [go_sem] ZiI.eq_1 ZiI.eq_2
attribute [go_sem] Ye.eq_1 Ye.eq_2
attribute [go_sem] Zw.eq_1 Zw.eq_2
attribute [go_sem] W4.eq_1 W4.eq_2 W4.eq_3
attribute [go_sem] ZlG.eq_1
attribute [go_sem] W5.eq_1 W5.eq_2
attribute [go_sem] Za5.eq_1 Za5.eq_2
attribute [go_sem] CO.starts.eq_1
attribute [go_sem] Wg.eq_1 Wg.eq_2
attribute [go_sem] Xl.eq_1 Xl.eq_2
attribute [go_sem] Zx7.eq_1 Zx7.eq_2
attribute [go_sem] ZmR.eq_1
attribute [go_sem] Zhx.eq_1 Zhx.eq_2
attribute [go_sem] UD.eq_1 UD.eq_2
attribute [go_sem] ZfF.eq_1
attribute [go_sem] ZH.body.eq_1
attribute [go_sem] ZkJ.eq_1 ZkJ.eq_2
attribute [go_sem] Zag.eq_1 Zag.eq_2 Zag.eq_3 Zag.eq_4 Zag.eq_5 Zag.eq_6
attribute [go_sem] ZH.res.eq_1
attribute [go_sem] Wl.eq_1 Wl.eq_2
attribute [go_sem] VQ.eq_1 VQ.eq_2 VQ.eq_3 VQ.eq_4 VQ.eq_5 VQ.eq_6 VQ.eq_7 VQ.eq_8 VQ.eq_9 VQ.eq_10 VQ.eq_11 VQ.eq_12
attribute [go_sem] Zn3.eq_1 Zn3.eq_2
attribute [go_sem] W3.eq_1 W3.eq_2
attribute [go_sem] ZH.nt.eq_1
attribute [go_sem] okD.eq_1 okD.eq_2
attribute [go_sem] ZqU.eq_1 Zbx.eq_1 Zbx.eq_2 Zbx.eq_3 Zbx.eq_4
attribute [go_sem] JG.eq_1 Zee.eq_1 Zee.eq_2 Zee.eq_3 Zee.eq_4 Zee.eq_5 Zee.eq_6 Zee.eq_7 Zee.eq_8 Zee.eq_9 Zee.eq_10 Wm.eq_1
attribute [go_sem] Xd.eq_3 XO.eq_1 AV.atom.eq_1 AV.atom.eq_2 AV.atom.eq_3 AV.atom.eq_4
attribute [go_sem] ZuG.eq_1 ZuG.eq_2 Zpa.eq_1 Zpa.eq_2
attribute [go_sem] Zf ZAi ZCz
attribute [go_sem] List.map_cons List.map_nil List.flatMap_cons List.flatMap_nil List.append_nil List.nil_append List.cons_append List.length_cons List.length_nil List.all_cons List.all_nil List.any_cons List.any_nil List.contains_cons List.contains_nil List.filter_cons List.filter_nil List.drop_zero List.drop_succ_cons List.drop_nil List.take_zero List.take_succ_cons List.take_nil List.getElem?_cons_zero List.getElem?_cons_succ List.getElem?_nil Option.map_some Option.map_none Bool.and_true Bool.true_and Bool.and_false Bool.false_and Bool.or_true Bool.true_or Bool.or_false Bool.false_or Bool.not_true Bool.not_false decide_true decide_false and_true true_and and_false false_and not_true not_false_eq_true or_true true_or or_false false_or if_true if_false true_implies false_implies implies_true imp_self eq_self ne_eq beq_self_eq_true Bool.true_eq_false Bool.false_eq_true List.isEmpty_nil List.isEmpty_cons List.range_zero List.set_cons_zero List.set_cons_succ Option.some.injEq reduceCtorEq Nat.reduceLeDiff
def Zpb (hp:Hp):List Nat→List Nat
 | []=>[]
 | i :: r=>if We (lkp hp i)=true then i :: Zpb hp r else Zpb hp r
theorem gE (hp:Hp) (ids:List Nat):(ids.filter fun i=>We (lkp hp i))=Zpb hp ids:=by
 induction ids with
 | nil=>rfl
 | cons i r ih=>simp only[List.filter_cons,Zpb,ih]
def ZrY (hp:Hp) (rs:List Nat):List Nat→Bool
 | []=>true
 | i :: r=>(We (lkp hp i) || rs.contains i)&&ZrY hp rs r
def ZrZ (hp:Hp):List Nat→Bool
 | []=>false
 | i :: r=>ZcN (lkp hp i) || ZrZ hp r
theorem gG (hp:Hp) (ids:List Nat):(ids.any fun i=>ZcN (lkp hp i))=ZrZ hp ids:=by
 induction ids with
 | nil=>rfl
 | cons i r ih=>simp only[List.any_cons,ZrZ,ih]
attribute [go_sem] ZrZ.eq_1 ZrZ.eq_2
@[go_sem] theorem appTo_nil (hp:Hp) (s b:Nat) (str flat:Bool) (base:Nat) (y:AV):ZgB hp s b str flat base y .nil=WN hp s b str flat base .nil y ([]++VE hp y):=rfl
@[go_sem] theorem appTo_own (hp:Hp) (s b:Nat) (str flat:Bool) (base:Nat) (y:AV) (k:Nat):ZgB hp s b str flat base y (.own k)=WN hp s b str flat base (.own k) y ((if ZcN (lkp hp k)=true then [k] else [])++VE hp y):=rfl
@[go_sem] theorem ZFR (hp:Hp) (s b:Nat) (str flat:Bool) (base:Nat) (y:AV) (k o n:Nat):ZgB hp s b str flat base y (.ownv k o n)=WN hp s b str flat base (.ownv k o n) y ([]++VE hp y):=rfl
@[go_sem] theorem deepId_d (hp:Hp) (x:D):VE hp (.d x)=[]:=rfl
@[go_sem] theorem ZFS (hp:Hp):VE hp .nil=[]:=rfl
@[go_sem] theorem ZE9 (hp:Hp) (k o n:Nat):VE hp (.ownv k o n)=[]:=rfl
@[go_sem] theorem ZFT (hp:Hp) (k:Nat):VE hp (.own k)=if ZcN (lkp hp k)=true then [k] else []:=rfl
@[go_sem] theorem appTo_sub (hp:Hp) (s b:Nat) (str flat:Bool) (base:Nat) (y:AV) (id nm:Nat):ZgB hp s b str flat base y (.sub id nm)=if str then none else bnd (Zgz hp true y) fun q=>if (Zdk y).contains id then none else ZkD s b base id nm q (lkp hp id):=rfl
theorem gF (hp:Hp) (rs ids:List Nat):Zdz hp rs ids=ZrY hp rs ids:=by
 induction ids with
 | nil=>rfl
 | cons i r ih=>simp only[Zdz,List.all_cons,ZrY] at ih ⊢;rw[ih]
attribute [go_sem] Zpb.eq_1 Zpb.eq_2 ZrY.eq_1 ZrY.eq_2
@[go_sem] theorem okV_d (x:D):okV (.d x)=true:=rfl
@[go_sem] theorem okV_nil:okV .nil=true:=rfl
@[go_sem] theorem okV_nilp:okV .nilp=true:=rfl
@[go_sem] theorem okV_nili:okV .nili=true:=rfl
@[go_sem] theorem okV_ptr (a b:Nat):okV (.ptr a b)=true:=rfl
@[go_sem] theorem okV_prow (a b c e:Nat):okV (.prow a b c e)=true:=rfl
@[go_sem] theorem okV_pim (cs:List D):okV (.pim cs)=true:=rfl
@[go_sem] theorem okV_own (a:Nat):okV (.own a)=true:=rfl
@[go_sem] theorem okV_ownv (a b c:Nat):okV (.ownv a b c)=true:=rfl
@[go_sem] theorem okV_agg (cs:List AV):okV (.agg cs)=Ztm cs:=rfl
@[go_sem] theorem okV_tup0:okV (.tup [])=true:=rfl
@[go_sem] theorem ZFa (sl:Sl) (a:COp) (k:Nat):seenSrc sl a (.own k)=Ye sl k (ZT a):=rfl
@[go_sem] theorem seenSrc_d (sl:Sl) (a:COp) (x:D):seenSrc sl a (.d x)=true:=rfl
@[go_sem] theorem ZFb (sl:Sl) (a:COp):seenSrc sl a .nil=true:=rfl
@[go_sem] theorem ZC0 (sl:Sl) (a:COp) (x y z:Nat):seenSrc sl a (.ownv x y z)=true:=rfl
@[go_sem] theorem okV_iteV (b:Bool) (v:AV):okV (Zj0 b v)=(!b || okV v):=by cases b<;>simp[Zj0,okV]
@[go_sem] theorem awayV_d (sl:Sl) (xs:List Opd) (x:D):Zef sl xs (.d x)=true:=rfl
@[go_sem] theorem awayV_nil (sl:Sl) (xs:List Opd):Zef sl xs .nil=true:=rfl
@[go_sem] theorem ZFU (sl:Sl) (xs:List Opd):Zef sl xs .nilp=true:=rfl
@[go_sem] theorem awayV_ptr (sl:Sl) (xs:List Opd) (k o:Nat):Zef sl xs (.ptr k o)=Ye sl k xs:=rfl
@[go_sem] theorem awayV_pim (sl:Sl) (xs:List Opd) (cs:List D):Zef sl xs (.pim cs)=true:=rfl
@[go_sem] theorem awayV_own (sl:Sl) (xs:List Opd) (a:Nat):Zef sl xs (.own a)=true:=rfl
@[go_sem] theorem ZFV (sl:Sl) (xs:List Opd) (a b c:Nat):Zef sl xs (.ownv a b c)=true:=rfl
@[go_sem] theorem awayV_agg (sl:Sl) (xs:List Opd) (cs:List AV):Zef sl xs (.agg cs)=true:=rfl
@[go_sem] theorem awayV_tup (sl:Sl) (xs:List Opd) (cs:List AV):Zef sl xs (.tup cs)=true:=rfl
end Go.Abs.E
