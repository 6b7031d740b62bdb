/- Own text. -/
import Derived.Test.YtcefneehgbiebaaGreatDoorAbsRun
set_option linter.unusedVariables false
set_option linter.unusedSimpArgs false
namespace Go.Abs.E
open Go Go.Abs
abbrev _root_.Go.Abs.Opd.i (n:Int):Opd:=.v (.d (.int .i64 n))
abbrev _root_.Go.Abs.Opd.b (x:Bool):Opd:=.v (.d (.bool x))
def stW {α:Type} (x:Option α) (K:α→Prop):Prop:=match x with
 | some a=>K a
 | none=>False
def gW (x:Option Bool) (A B:Prop):Prop:=match x with
 | some b=>(b=true→A)∧(b=false→B)
 | none=>False
def Uo (v:AV) (A B:Prop):Prop:=match v with
 | .d (.bool t)=>(t=true→A)∧(t=false→B)
 | _=>False
theorem Ux {α:Type} (a:α) (K:α→Prop):stW (some a) K=K a:=rfl
theorem Zjq {α:Type} (K:α→Prop):stW none K=False:=rfl
theorem ZbY {α β:Type} (x:Option α) (f:α→Option β) (K:β→Prop):stW (bnd x f) K=stW x fun a=>stW (f a) K:=by cases x<;>rfl
@[go_sem] theorem Zxt (A B:Prop):gW (some true) A B=A:=by simp[gW]
@[go_sem] theorem gW_false (A B:Prop):gW (some false) A B=B:=by simp[gW]
@[go_sem] theorem gW_dec (p:Prop) [Decidable p] (A B:Prop):gW (some (decide p)) A B=((p→A)∧(¬p→B)):=by simp[gW]
@[go_sem] theorem gW_not (b:Bool) (A B:Prop):gW (some (!b)) A B=gW (some b) B A:=by cases b<;>simp[gW]
theorem gW_some (b:Bool) (A B:Prop):gW (some b) A B=((b=true→A)∧(b=false→B)):=rfl
@[go_sem] theorem ZB2 (A B:Prop):Uo (.d (.bool true)) A B=A:=by simp[Uo]
@[go_sem] theorem ZBF (A B:Prop):Uo (.d (.bool false)) A B=B:=by simp[Uo]
@[go_sem] theorem condW_dec (p:Prop) [Decidable p] (A B:Prop):Uo (.d (.bool (decide p))) A B=((p→A)∧(¬p→B)):=by simp[Uo]
@[go_sem] theorem condW_not (b:Bool) (A B:Prop):Uo (.d (.bool (!b))) A B=Uo (.d (.bool b)) B A:=by cases b<;>simp[Uo]
@[go_sem] theorem condW_and (a b:Bool) (A B:Prop):Uo (.d (.bool (a&&b))) A B=Uo (.d (.bool a)) (Uo (.d (.bool b)) A B) B:=by cases a<;>cases b<;>simp[Uo]
@[go_sem] theorem condW_or (a b:Bool) (A B:Prop):Uo (.d (.bool (a || b))) A B=Uo (.d (.bool a)) A (Uo (.d (.bool b)) A B):=by cases a<;>cases b<;>simp[Uo]
@[go_sem] theorem ZB3 (b:Bool) (A B:Prop):Uo (.d (.bool b)) A B=((b=true→A)∧(b=false→B)):=rfl
@[congr] theorem gW_congr {x y:Option Bool} {A B:Prop} (h:x=y):gW x A B=gW y A B:=by rw[h]
@[congr] theorem ZBG {v w:AV} {A B:Prop} (h:v=w):Uo v A B=Uo w A B:=by rw[h]
section
variable (X:Fns) (M:Zn)
noncomputable def ZdD (nx:Nat):Nat→List CO→Sl→Hp→(Sl→Hp→Prop)→Prop
 | _,[],sl,hp,K=>K sl hp
 | i,o :: rest,sl,hp,K=>gW (Z3 sl o.guard)
   (stW (YH (nx+64*i) o.dst sl hp (vop (Ze X M) M sl hp (nx+64*i) o.op)) fun r=>ZdD nx (i+1) rest r.1 r.2 K)
   (ZdD nx (i+1) rest (Zp sl o.dst (.tup [])) hp K)
def ZbQ (nx i:Nat) (d:Option Nat) (rest:List CO) (sl:Sl) (hp:Hp) (K:Sl→Hp→Prop) (e:Option Zd):Prop:=
 stW (YH (nx+64*i) d sl hp e) fun r=>ZdD X M nx (i+1) rest r.1 r.2 K
@[go_sem] theorem opsW_nil (nx i:Nat) (sl:Sl) (hp:Hp) (K:Sl→Hp→Prop):ZdD X M nx i [] sl hp K=K sl hp:=rfl
@[go_sem] theorem opsW_cons (nx i:Nat) (d:Option Nat) (tl:Bool) (op:COp) (aa:List CO) (sl:Sl) (hp:Hp) (K:Sl→Hp→Prop) :
  ZdD X M nx i (⟨d,none,op,tl⟩ :: aa) sl hp K=ZbQ X M nx i d aa sl hp K (vop (Ze X M) M sl hp (nx+64*i) op):=by
 simp[ZdD,ZbQ,Z3,Zxt]
def ZhZ (b:Bool) (v:AV):AV:=if b then v else .tup []
def JA (b:Bool) (nx i:Nat) (d:Option Nat) (rest:List CO) (sl:Sl) (hp:Hp) (K:Sl→Hp→Prop) (e:Option Zd):Prop:=
 gW (some b) (ZbQ X M nx i d rest sl hp K e) (ZdD X M nx (i+1) rest (Zp sl d (.tup [])) hp K)
def ZsV (g:Option Bool) (nx i:Nat) (d:Option Nat) (op:COp) (rest:List CO) (sl:Sl) (hp:Hp) (K:Sl→Hp→Prop):Prop:=
 gW g (ZbQ X M nx i d rest sl hp K (vop (Ze X M) M sl hp (nx+64*i) op)) (ZdD X M nx (i+1) rest (Zp sl d (.tup [])) hp K)
@[go_sem] theorem ZB4 (nx i g:Nat) (w:Bool) (d:Option Nat) (tl:Bool) (op:COp) (aa:List CO) (sl:Sl) (hp:Hp) (K:Sl→Hp→Prop) :
  ZdD X M nx i (⟨d,some (g,w),op,tl⟩ :: aa) sl hp K=ZsV X M (Zfi w (gs sl g)) nx i d op aa sl hp K:=rfl
@[go_sem] theorem ZBH (b:Bool) (nx i:Nat) (d:Option Nat) (op:COp) (aa:List CO) (sl:Sl) (hp:Hp) (K:Sl→Hp→Prop) :
  ZsV X M (some b) nx i d op aa sl hp K=JA X M b nx i d aa sl hp K (vop (Ze X M) M sl hp (nx+64*i) op):=rfl
@[go_sem] theorem gA (nx i:Nat) (d:Option Nat) (aa:List CO) (sl:Sl) (hp:Hp) (K:Sl→Hp→Prop) (e:Option Zd) :
  JA X M true nx i d aa sl hp K e=ZbQ X M nx i d aa sl hp K e:=by simp[JA,gW]
@[go_sem] theorem gB (nx i:Nat) (d:Option Nat) (aa:List CO) (sl:Sl) (hp:Hp) (K:Sl→Hp→Prop) (e:Option Zd) :
  JA X M false nx i d aa sl hp K e=ZdD X M nx (i+1) aa (Zp sl d (.tup [])) hp K:=by simp[JA,gW]
@[go_sem] theorem ZsW (b:Bool) (nx i:Nat) (d:Option Nat) (aa:List CO) (sl:Sl) (hp:Hp) (K:Sl→Hp→Prop) (v:AV) :
  JA X M b nx i d aa sl hp K (QM v)=ZdD X M nx (i+1) aa (Zp sl d (ZhZ b v)) hp K:=by
 cases b
 ·simp[JA,gW,ZhZ]
 ·simp only[JA,gW,ZhZ,Km,true_implies,L5,false_implies,and_true];rfl
@[go_sem] theorem ZBI (b:Bool) (nx i:Nat) (d:Option Nat) (aa:List CO) (sl:Sl) (hp:Hp) (K:Sl→Hp→Prop) (v:AV) :
  JA X M b nx i d aa sl hp K (some { eff := { val:=v,adds:=[],sets:=[],dels:=[],frz:=[] },gone:=[] })=ZdD X M nx (i+1) aa (Zp sl d (ZhZ b v)) hp K:=ZsW X M b nx i d aa sl hp K v
@[congr] theorem ZAU {g g' : Option Bool} {nx i:Nat} {d:Option Nat} {op:COp} {aa:List CO} {sl:Sl} {hp:Hp} {K:Sl→Hp→Prop} (h:g=g') :
  ZsV X M g nx i d op aa sl hp K=ZsV X M g' nx i d op aa sl hp K:=by rw[h]
@[congr] theorem ZAV {b b' : Bool} {nx i:Nat} {d:Option Nat} {aa:List CO} {sl:Sl} {hp:Hp} {K:Sl→Hp→Prop} {e e' : Option Zd} (hb:b=b') (h:b'=true→e=e') :
  JA X M b nx i d aa sl hp K e=JA X M b' nx i d aa sl hp K e':=by
 subst hb;cases b
 ·simp[JA,gW]
 ·rw[h rfl]
@[go_sem] theorem ZBJ (nx i:Nat) (d:Option Nat) (aa:List CO) (sl:Sl) (hp:Hp) (K:Sl→Hp→Prop) (v:AV) :
  ZbQ X M nx i d aa sl hp K (QM v)=ZdD X M nx (i+1) aa (Zp sl d v) hp K:=rfl
@[go_sem] theorem ZB5 (nx i:Nat) (d:Option Nat) (aa:List CO) (sl:Sl) (hp:Hp) (K:Sl→Hp→Prop) (v:AV) :
  ZbQ X M nx i d aa sl hp K (some { eff := { val:=v,adds:=[],sets:=[],dels:=[],frz:=[] },gone:=[] })=ZdD X M nx (i+1) aa (Zp sl d v) hp K:=rfl
@[go_sem] theorem ZB6 (nx i:Nat) (d:Option Nat) (aa:List CO) (sl:Sl) (hp:Hp) (K:Sl→Hp→Prop) (e:Zd) :
  ZbQ X M nx i d aa sl hp K (some e)=(QT (nx+64*i) (nx+64*i+64) e.eff.adds=true∧ZdD X M nx (i+1) aa (Zp (Xa e.gone sl) d e.eff.val) (e.eff.on (Y4 e.gone hp)) K):=by
 unfold ZbQ YH;rw[Zg];split<;>rename_i h
 ·simp only[Ux,h,true_and];rfl
 ·simp only[Zjq,h,false_and,Ka]
@[go_sem] theorem ZB7 (nx i:Nat) (d:Option Nat) (aa:List CO) (sl:Sl) (hp:Hp) (K:Sl→Hp→Prop):ZbQ X M nx i d aa sl hp K none=False:=rfl
@[go_sem] theorem stepW_ite (nx i:Nat) (d:Option Nat) (aa:List CO) (sl:Sl) (hp:Hp) (K:Sl→Hp→Prop) (c:Prop) [Decidable c] (a b:Option Zd) :
  ZbQ X M nx i d aa sl hp K (if c then a else b)=((c→ZbQ X M nx i d aa sl hp K a)∧(¬c→ZbQ X M nx i d aa sl hp K b)):=by
 by_cases h:c<;>simp[h]
noncomputable def VU (nx:Nat):Nat→Bool→List CO→Sl→Hp→(Sl→Hp→Prop)→Prop
 | _,_,[],sl,hp,K=>K sl hp
 | i,tail,o :: rest,sl,hp,K=>gW (Z3 sl o.guard)
   (stW (YH (nx+64*i) o.dst sl hp (WA (Ze X M) M nx i (CO.starts o) o.op sl hp)) fun r=>VU nx (i+1) tail rest r.1 r.2 K)
   (VU nx (i+1) tail rest (Zp sl o.dst (.tup [])) hp K)
def Ur (nx i:Nat) (t:Bool) (d:Option Nat) (rest:List CO) (sl:Sl) (hp:Hp) (K:Sl→Hp→Prop) (e:Option Zd):Prop:=
 stW (YH (nx+64*i) d sl hp (if t then e else ZcJ e)) fun r=>VU X M nx (i+1) false rest r.1 r.2 K
@[go_sem] theorem opsDW_nil (nx i:Nat) (t:Bool) (sl:Sl) (hp:Hp) (K:Sl→Hp→Prop):VU X M nx i t [] sl hp K=K sl hp:=rfl
@[go_sem] theorem ZB8 (nx i:Nat) (d:Option Nat) (tl:Bool) (op:COp) (aa:List CO) (sl:Sl) (hp:Hp) (K:Sl→Hp→Prop) :
  VU X M nx i false (⟨d,none,op,tl⟩ :: aa) sl hp K=Ur X M nx i (ZhG op || tl) d aa sl hp K (vop (Ze X M) M sl hp (nx+64*i) op):=by
 simp[VU,Ur,Z3,Zxt,WA,CO.starts]
def Wq (b:Bool) (nx i:Nat) (t:Bool) (d:Option Nat) (rest:List CO) (sl:Sl) (hp:Hp) (K:Sl→Hp→Prop) (e:Option Zd):Prop:=
 gW (some b) (Ur X M nx i t d rest sl hp K e) (VU X M nx (i+1) false rest (Zp sl d (.tup [])) hp K)
def Znn (g:Option Bool) (nx i:Nat) (t:Bool) (d:Option Nat) (op:COp) (rest:List CO) (sl:Sl) (hp:Hp) (K:Sl→Hp→Prop):Prop:=
 gW g (Ur X M nx i t d rest sl hp K (vop (Ze X M) M sl hp (nx+64*i) op)) (VU X M nx (i+1) false rest (Zp sl d (.tup [])) hp K)
@[go_sem] theorem ZBK (nx i g:Nat) (w:Bool) (d:Option Nat) (tl:Bool) (op:COp) (aa:List CO) (sl:Sl) (hp:Hp) (K:Sl→Hp→Prop) :
  VU X M nx i false (⟨d,some (g,w),op,tl⟩ :: aa) sl hp K=Znn X M (Zfi w (gs sl g)) nx i (ZhG op || tl) d op aa sl hp K:=rfl
@[go_sem] theorem ZAW (b:Bool) (nx i:Nat) (t:Bool) (d:Option Nat) (op:COp) (aa:List CO) (sl:Sl) (hp:Hp) (K:Sl→Hp→Prop) :
  Znn X M (some b) nx i t d op aa sl hp K=Wq X M b nx i t d aa sl hp K (vop (Ze X M) M sl hp (nx+64*i) op):=rfl
@[go_sem] theorem gC (nx i:Nat) (t:Bool) (d:Option Nat) (aa:List CO) (sl:Sl) (hp:Hp) (K:Sl→Hp→Prop) (e:Option Zd) :
  Wq X M true nx i t d aa sl hp K e=Ur X M nx i t d aa sl hp K e:=by simp[Wq,gW]
@[go_sem] theorem gD (nx i:Nat) (t:Bool) (d:Option Nat) (aa:List CO) (sl:Sl) (hp:Hp) (K:Sl→Hp→Prop) (e:Option Zd) :
  Wq X M false nx i t d aa sl hp K e=VU X M nx (i+1) false aa (Zp sl d (.tup [])) hp K:=by simp[Wq,gW]
@[go_sem] theorem Zqc (b:Bool) (nx i:Nat) (t:Bool) (d:Option Nat) (aa:List CO) (sl:Sl) (hp:Hp) (K:Sl→Hp→Prop) (v:AV) :
  Wq X M b nx i t d aa sl hp K (QM v)=VU X M nx (i+1) false aa (Zp sl d (ZhZ b v)) hp K:=by
 cases b
 ·simp[Wq,gW,ZhZ]
 ·simp only[Wq,gW,ZhZ,Km,true_implies,L5,false_implies,and_true];cases t<;>rfl
@[go_sem] theorem ZAX (b:Bool) (nx i:Nat) (t:Bool) (d:Option Nat) (aa:List CO) (sl:Sl) (hp:Hp) (K:Sl→Hp→Prop) (v:AV) :
  Wq X M b nx i t d aa sl hp K (some { eff := { val:=v,adds:=[],sets:=[],dels:=[],frz:=[] },gone:=[] })=VU X M nx (i+1) false aa (Zp sl d (ZhZ b v)) hp K:=Zqc X M b nx i t d aa sl hp K v
@[congr] theorem ZAx {g g' : Option Bool} {nx i:Nat} {t t' : Bool} {d:Option Nat} {op:COp} {aa:List CO} {sl:Sl} {hp:Hp} {K:Sl→Hp→Prop} (h:g=g') (ht:t=t') :
  Znn X M g nx i t d op aa sl hp K=Znn X M g' nx i t' d op aa sl hp K:=by rw[h,ht]
@[congr] theorem ZAy {b b' : Bool} {nx i:Nat} {t:Bool} {d:Option Nat} {aa:List CO} {sl:Sl} {hp:Hp} {K:Sl→Hp→Prop} {e e' : Option Zd} (hb:b=b') (h:b'=true→e=e') :
  Wq X M b nx i t d aa sl hp K e=Wq X M b' nx i t d aa sl hp K e':=by
 subst hb;cases b
 ·simp[Wq,gW]
 ·rw[h rfl]
@[go_sem] theorem ZAY (nx i:Nat) (t:Bool) (d:Option Nat) (aa:List CO) (sl:Sl) (hp:Hp) (K:Sl→Hp→Prop) (v:AV) :
  Ur X M nx i t d aa sl hp K (QM v)=VU X M nx (i+1) false aa (Zp sl d v) hp K:=by cases t<;>rfl
@[go_sem] theorem ZBL (nx i:Nat) (t:Bool) (d:Option Nat) (aa:List CO) (sl:Sl) (hp:Hp) (K:Sl→Hp→Prop) (v:AV) :
  Ur X M nx i t d aa sl hp K (some { eff := { val:=v,adds:=[],sets:=[],dels:=[],frz:=[] },gone:=[] })=VU X M nx (i+1) false aa (Zp sl d v) hp K:=by cases t<;>rfl
@[go_sem] theorem ZBM (nx i:Nat) (t:Bool) (d:Option Nat) (aa:List CO) (sl:Sl) (hp:Hp) (K:Sl→Hp→Prop) (e:Zd) :
  Ur X M nx i t d aa sl hp K (some e)=((t=false→Zfm e e.gone e.eff.sets e.eff.dels e.eff.frz=some e)∧QT (nx+64*i) (nx+64*i+64) e.eff.adds=true∧VU X M nx (i+1) false aa (Zp (Xa e.gone sl) d e.eff.val) (e.eff.on (Y4 e.gone hp)) K):=by
 have ab:stW (YH (nx+64*i) d sl hp (some e)) (fun r=>VU X M nx (i+1) false aa r.1 r.2 K)=(QT (nx+64*i) (nx+64*i+64) e.eff.adds=true∧VU X M nx (i+1) false aa (Zp (Xa e.gone sl) d e.eff.val) (e.eff.on (Y4 e.gone hp)) K):=by
  unfold YH;rw[Zg];split<;>rename_i h
  ·simp only[Ux,h,true_and];rfl
  ·simp only[Zjq,h,false_and,Ka]
 unfold Ur;cases t with
 | true=>simp only[Km];rw[ab];simp
 | false=>
  simp only[Ka,Ko,ZcJ,Zg,true_implies];unfold Zfm;split
  ·rw[ab];simp
  ·simp[YH,bnd,stW]
@[go_sem] theorem ZBN (nx i:Nat) (t:Bool) (d:Option Nat) (aa:List CO) (sl:Sl) (hp:Hp) (K:Sl→Hp→Prop):Ur X M nx i t d aa sl hp K none=False:=by cases t<;>rfl
@[go_sem] theorem ZB9 (nx i:Nat) (t:Bool) (d:Option Nat) (aa:List CO) (sl:Sl) (hp:Hp) (K:Sl→Hp→Prop) (c:Prop) [Decidable c] (a b:Option Zd) :
  Ur X M nx i t d aa sl hp K (if c then a else b)=((c→Ur X M nx i t d aa sl hp K a)∧(¬c→Ur X M nx i t d aa sl hp K b)):=by
 by_cases h:c<;>simp[h]
@[go_sem] theorem quietC_ok (c:Zd):Zfm c [] [] [] []=some c:=rfl
def W (c:ZX) (st:St) (Q:Ex→St→Prop):Prop:=stW (QP X M c st) fun r=>Q r.1 r.2
@[congr] theorem W_congr {c:ZX} {st aa : St} {Q:Ex→St→Prop} (h:st=aa):W X M c st Q=W X M c aa Q:=by rw[h]
@[congr] theorem ZCa {aa:List CO} {nx ab i i' : Nat} {sl sl' : Sl} {hp hp' : Hp} {K:Sl→Hp→Prop} (hn:nx=ab) (hi:i=i') (h:sl=sl') (h' : hp=hp') :
  ZdD X M nx i aa sl hp K=ZdD X M ab i' aa sl' hp' K:=by rw[h,h',hn,hi]
@[congr] theorem ZBO {aa:List CO} {nx ab i i' : Nat} {t t' : Bool} {sl sl' : Sl} {hp hp' : Hp} {K:Sl→Hp→Prop} (hn:nx=ab) (hi:i=i') (ht:t=t') (h:sl=sl') (h' : hp=hp') :
  VU X M nx i t aa sl hp K=VU X M ab i' t' aa sl' hp' K:=by rw[h,h',ht,hn,hi]
@[congr] theorem ZBP {aa:List CO} {nx i:Nat} {d:Option Nat} {sl:Sl} {hp:Hp} {K:Sl→Hp→Prop} {e e' : Option Zd} (h:e=e') :
  ZbQ X M nx i d aa sl hp K e=ZbQ X M nx i d aa sl hp K e':=by rw[h]
@[congr] theorem ZAZ {aa:List CO} {nx i:Nat} {t t' : Bool} {d:Option Nat} {sl:Sl} {hp:Hp} {K:Sl→Hp→Prop} {e e' : Option Zd} (ht:t=t') (h:e=e') :
  Ur X M nx i t d aa sl hp K e=Ur X M nx i t' d aa sl hp K e':=by rw[h,ht]
theorem ZA0 (nx:Nat) (K:Sl→Hp→Prop):∀ (l:List CO) (i:Nat) (sl:Sl) (hp:Hp),ZdD X M nx i l sl hp K=stW (ZeD (Ze X M) M nx i l sl hp) fun r=>K r.1 r.2:=by
 intro l
 induction l with
 | nil=>intro i sl hp;rfl
 | cons o rest ih=>
  intro i sl hp;simp only[ZdD,ZeD,ih,ZbY];cases Z3 sl o.guard with
  | none=>rfl
  | some b=>cases b<;>simp[gW,ZbY,Ux]
theorem ZzF (nx:Nat) (K:Sl→Hp→Prop):∀ (l:List CO) (i:Nat) (t:Bool) (sl:Sl) (hp:Hp),VU X M nx i t l sl hp K=stW (UB (Ze X M) M nx i t l sl hp) fun r=>K r.1 r.2:=by
 intro l
 induction l with
 | nil=>intro i t sl hp;rfl
 | cons o rest ih=>
  intro i t sl hp;simp only[VU,UB,ih,ZbY];cases Z3 sl o.guard with
  | none=>rfl
  | some b=>cases b<;>simp[gW,ZbY,Ux]
def Zyq (m nx:Nat) (Q:Ex→St→Prop) (sl:Sl) (hp:Hp):Prop:=Q .normal { sl:=sl,hp:=hp,nx:=nx,m:=m }
def Zuy (ops:List CO) (ps:List (Nat×Nat)) (K:Sl→Hp→Prop) (sl:Sl) (hp:Hp):Prop:=U0 ops sl ps=true∧K sl hp
@[go_sem] theorem regQ_eq (m nx:Nat) (Q:Ex→St→Prop) (sl:Sl) (hp:Hp):Zyq m nx Q sl hp=Q .normal { sl:=sl,hp:=hp,nx:=nx,m:=m }:=rfl
@[go_sem] theorem seenQ_eq (ops:List CO) (ps:List (Nat×Nat)) (K:Sl→Hp→Prop) (sl:Sl) (hp:Hp):Zuy ops ps K sl hp=(U0 ops sl ps=true∧K sl hp):=rfl
@[go_sem] theorem W_skip (st:St) (Q:Ex→St→Prop):W X M .skip st Q=Q .normal st:=by simp[W,Zwx,Ux]
@[go_sem] theorem W_ret (st:St) (Q:Ex→St→Prop):W X M .ret st Q=Q .ret st:=by simp[W,ZyJ,Ux]
@[go_sem] theorem W_exit (id:Nat) (st:St) (Q:Ex→St→Prop):W X M (.exit id) st Q=Q (.exit id) st:=by simp[W,Zwy,Ux]
@[go_sem] theorem W_stuck (st:St) (Q:Ex→St→Prop):W X M .stuck st Q=False:=by
 have h:QP X M .stuck st=none:=Vc fun n=>by simp only[ZE]
 simp only[W,h,Zjq]
@[go_sem] theorem W_region (n:Nat) (ops:List CO) (st:St) (Q:Ex→St→Prop) :
  W X M (.region n none ops) st Q=ZdD X M st.nx 0 ops st.sl st.hp (Zyq st.m (st.nx+64*n) Q):=by
 rw[ZA0,W,Zti,ZjH,ZbY];rfl
theorem ZzG (n:Nat) (ps:List (Nat×Nat)) (ops:List CO) (st:St) (Q:Ex→St→Prop) :
  W X M (.region n (some ps) ops) st Q=VU X M st.nx 0 false ops st.sl st.hp (Zuy ops ps (Zyq st.m (st.nx+64*n) Q)):=by
 rw[ZzF,W,Zwz,ZjH,ZbY,Zov,ZbY];congr 1
 funext r
 by_cases h:U0 ops r.1 ps=true<;>simp[h,Zuy,Ux,Zjq,Zyq]
@[go_sem] theorem W_draw0 (n:Nat) (ops:List CO) (st:St) (Q:Ex→St→Prop) :
  W X M (.region n (some []) ops) st Q=VU X M st.nx 0 false ops st.sl st.hp (Zyq st.m (st.nx+64*n) Q):=by
 rw[ZzG];congr 1
 funext sl hp
 simp[Zuy,U0]
@[go_sem] theorem W_drawc (n:Nat) (p:Nat×Nat) (ps:List (Nat×Nat)) (ops:List CO) (st:St) (Q:Ex→St→Prop) :
  W X M (.region n (some (p :: ps)) ops) st Q=VU X M st.nx 0 false ops st.sl st.hp (Zuy ops (p :: ps) (Zyq st.m (st.nx+64*n) Q)):=ZzG X M n _ ops st Q
def Zxu (c:ZX) (Q:Ex→St→Prop):Ex→St→Prop
 | .normal,st=>W X M c st Q
 | e,st=>Q e st
def blkQ (id:Nat) (Q:Ex→St→Prop):Ex→St→Prop
 | .exit j,st=>if j=id then Q .normal st else Q (.exit j) st
 | e,st=>Q e st
@[go_sem] theorem ZA1 (c:ZX) (Q:Ex→St→Prop) (st:St):Zxu X M c Q .normal st=W X M c st Q:=rfl
@[go_sem] theorem thenQ_ret (c:ZX) (Q:Ex→St→Prop) (st:St):Zxu X M c Q .ret st=Q .ret st:=rfl
@[go_sem] theorem ZCb (c:ZX) (Q:Ex→St→Prop) (id:Nat) (st:St):Zxu X M c Q (.exit id) st=Q (.exit id) st:=rfl
@[go_sem] theorem ZBQ (id:Nat) (Q:Ex→St→Prop) (st:St):blkQ id Q .normal st=Q .normal st:=rfl
@[go_sem] theorem blkQ_ret (id:Nat) (Q:Ex→St→Prop) (st:St):blkQ id Q .ret st=Q .ret st:=rfl
@[go_sem] theorem blkQ_exit (id j:Nat) (Q:Ex→St→Prop) (st:St):blkQ id Q (.exit j) st=if j=id then Q .normal st else Q (.exit j) st:=rfl
@[go_sem] theorem W_seq (a b:ZX) (st:St) (Q:Ex→St→Prop):W X M (.seq a b) st Q=W X M a st (Zxu X M b Q):=by
 unfold W;rw[ZyK];cases h:QP X M a st with
 | none=>rfl
 | some r=>obtain⟨e,aa⟩:=r;cases e<;>rfl
@[go_sem] theorem W_cond (c:Opd) (a b:ZX) (st:St) (Q:Ex→St→Prop) :
  W X M (.cond c a b) st Q=Uo (evO st.sl c) (W X M a st Q) (W X M b st Q):=by
 unfold W;rw[ZwA];cases h:evO st.sl c with
 | d x=>cases x with
  | bool t=>cases t<;>simp[ZgJ,Uo]
  | _=>rfl
 | _=>rfl
@[go_sem] theorem W_block (id:Nat) (c:ZX) (st:St) (Q:Ex→St→Prop):W X M (.block id c) st Q=W X M c st (blkQ id Q):=by
 unfold W;rw[ZuS];cases h:QP X M c st with
 | none=>rfl
 | some r=>
  obtain⟨e,aa⟩:=r;cases e with
  | exit j=>by_cases hj:j=id<;>simp[Zf4,hj,Ux,blkQ]
  | normal=>rfl
  | ret=>rfl
def keepQ (K:List Nat) (Q:Ex→St→Prop) (e:Ex) (st:St):Prop:=Q e { sl:=only K st.sl,hp:=st.hp,nx:=st.nx,m:=st.m }
@[go_sem] theorem keepQ_eq (K:List Nat) (Q:Ex→St→Prop) (e:Ex) (st:St):keepQ K Q e st=Q e { sl:=only K st.sl,hp:=st.hp,nx:=st.nx,m:=st.m }:=rfl
@[go_sem] theorem W_keep (K:List Nat) (c:ZX) (st:St) (Q:Ex→St→Prop):W X M (.keep K c) st Q=W X M c st (keepQ K Q):=by
 unfold W;rw[ZwB];cases h:QP X M c st with
 | none=>rfl
 | some r=>rfl
def Zn1 (c:ZX) (Q:Ex→St→Prop) (r:Option St):Prop:=stW r fun st=>W X M c st Q
@[go_sem] theorem ZCc (c:ZX) (Q:Ex→St→Prop) (st:St):Zn1 X M c Q (some st)=W X M c st Q:=rfl
@[go_sem] theorem ZCd (c:ZX) (Q:Ex→St→Prop):Zn1 X M c Q none=False:=rfl
@[go_sem] theorem linkW_ite (c:ZX) (Q:Ex→St→Prop) (p:Prop) [Decidable p] (a b:Option St):Zn1 X M c Q (if p then a else b)=((p→Zn1 X M c Q a)∧(¬p→Zn1 X M c Q b)):=by
 by_cases h:p<;>simp[h]
@[go_sem] theorem W_link (id:Nat) (i:Opd) (j:Nat) (c:ZX) (st:St) (Q:Ex→St→Prop):W X M (.link id i j c) st Q=Zn1 X M c Q (ZdM id i j st):=by
 unfold W Zn1;rw[ZwC];cases h:ZdM id i j st<;>rfl
@[go_sem] theorem W_melt (c:ZX) (st:St) (Q:Ex→St→Prop):W X M (.melt c) st Q=W X M c { sl:=st.sl,hp:=ZhY ZcA st.hp,nx:=st.nx,m:=st.m } Q:=by
 unfold W;rw[ZwD];rfl
def LW (c:ZX) (K:List Nat) (st:St) (Q:Ex→St→Prop):Prop:=stW (ZgL X M c K st) fun r=>Q r.1 r.2
@[congr] theorem LW_congr {c:ZX} {K K' : List Nat} {st aa : St} {Q:Ex→St→Prop} (hk:K=K') (h:st=aa):LW X M c K st Q=LW X M c K' aa Q:=by rw[h,hk]
@[go_sem] theorem W_loop (c:ZX) (st:St) (Q:Ex→St→Prop):W X M (.loop c) st Q=LW X M c (ZiK st.sl) st Q:=by
 unfold W LW;rw[ZwE]
def Zn2 (c:ZX) (K:List Nat) (Q:Ex→St→Prop):Ex→St→Prop
 | .normal,st=>LW X M c K st Q
 | e,st=>Q e st
@[go_sem] theorem ZA2 (c:ZX) (K:List Nat) (Q:Ex→St→Prop) (st:St):Zn2 X M c K Q .normal st=LW X M c K st Q:=rfl
@[go_sem] theorem nextQ_ret (c:ZX) (K:List Nat) (Q:Ex→St→Prop) (st:St):Zn2 X M c K Q .ret st=Q .ret st:=rfl
@[go_sem] theorem ZCe (c:ZX) (K:List Nat) (Q:Ex→St→Prop) (id:Nat) (st:St):Zn2 X M c K Q (.exit id) st=Q (.exit id) st:=rfl
theorem ZY {c:ZX} {K:List Nat} {st:St} {Q:Ex→St→Prop} (h:W X M c (Ww K st) (Zn2 X M c K Q)):LW X M c K st Q:=by
 unfold W at h;cases hv:QP X M c (Ww K st) with
 | none=>rw[hv] at h;exact h.elim
 | some r=>
  rw[hv] at h;obtain⟨e,aa⟩:=r;unfold LW;cases e with
  | normal=>rw[ZuT X M hv];exact h
  | exit id=>rw[Zow X M (by simp) hv];exact h
  | ret=>rw[Zow X M (by simp) hv];exact h
def Zqd (sl:Sl):Sl→Sl
 | []=>sl
 | (k,v) :: r=>Zqd (ins sl k v) r
def Zic (hp:Hp):Hp→Hp
 | []=>hp
 | (k,o) :: r=>Zic (ins hp k o) r
theorem LW_ind {α:Type} (S:α→St) (I:α→Prop) (μ:α→Nat) {c:ZX} {K:List Nat} {Q:Ex→St→Prop}
  (step:∀ a,I a→(∀ b st,I b→μ b<μ a→Ww K st=S b→LW X M c K st Q)→W X M c (S a) (Zn2 X M c K Q)) :
  ∀ a st,I a→Ww K st=S a→LW X M c K st Q:=by
 have aa:∀ n a st,μ a=n→I a→Ww K st=S a→LW X M c K st Q:=by
  intro n
  induction n using Nat.strongRecOn with
  | ind n ih=>
   intro a st hn ha hs;refine ZY X M ?_;rw[hs];exact step a ha fun b ab hb ae ad=>ih (μ b) (by omega) b ab rfl hb ad
 exact fun a st ha hs=>aa _ a st rfl ha hs
theorem Ze9 {α:Type} (u:α→Sl) (uh:α→Hp) (I:α→Prop) (μ:α→Nat) (a:α) {c:ZX} {K:List Nat} {Q:Ex→St→Prop} {st st0:St}
  (hc:Ww K st=st0) (ha:I a) (h0:(⟨Zqd st0.sl (u a),Zic st0.hp (uh a),st0.nx,st0.m⟩:St)=st0)
  (step:∀ a,I a→(∀ b st,I b→μ b<μ a→Ww K st=⟨Zqd st0.sl (u b),Zic st0.hp (uh b),st0.nx,st0.m⟩→LW X M c K st Q)→W X M c ⟨Zqd st0.sl (u a),Zic st0.hp (uh a),st0.nx,st0.m⟩ (Zn2 X M c K Q)) :
  LW X M c K st Q:=
 LW_ind X M (fun a=>⟨Zqd st0.sl (u a),Zic st0.hp (uh a),st0.nx,st0.m⟩) I μ step a st ha (hc.trans h0.symm)
def ZsX (m:Nat) (rs:List Zqi) (R:AV×List Zl→Prop):Ex→St→Prop:=fun e st=>stW (ZbB m rs (some (e,st))) R
def resW (m:Nat) (hp:Hp) (R:AV×List Zl→Prop) (vs:Option (List AV)):Prop:=stW vs fun vs=>R (Vb m hp (ZbU vs))
@[go_sem] theorem resW_some (m:Nat) (hp:Hp) (R:AV×List Zl→Prop) (vs:List AV):resW m hp R (some vs)=R (Vb m hp (ZbU vs)):=rfl
@[go_sem] theorem resW_none (m:Nat) (hp:Hp) (R:AV×List Zl→Prop):resW m hp R none=False:=rfl
@[go_sem] theorem endQ_ret (m:Nat) (rs:List Zqi) (R:AV×List Zl→Prop) (st:St):ZsX m rs R .ret st=resW m st.hp R (QF (Zmm st) rs):=by
 simp only[ZsX,ZbB,ZbY];rfl
@[go_sem] theorem ZBR (m:Nat) (rs:List Zqi) (R:AV×List Zl→Prop) (st:St):ZsX m rs R .normal st=resW m st.hp R (QF (Zmm st) rs):=by
 simp only[ZsX,ZbB,ZbY];rfl
theorem ZzH {f:Nat} {as:List AV} {h:List Zl} (fn:Zs) {R:AV×List Zl→Prop} (hx:X f=some (.text fn)) (hl:as.length≤fn.nt)
  (hr:W X M fn.body { sl:=V1 0 as,hp:=Vu 0 h,nx:=h.length,m:=h.length } (ZsX h.length fn.res R)):∃ r,Ze X M f as h=some r∧R r:=by
 unfold W at hr;cases hv:QP X M fn.body { sl:=V1 0 as,hp:=Vu 0 h,nx:=h.length,m:=h.length } with
 | none=>rw[hv] at hr;exact hr.elim
 | some q=>
  rw[hv] at hr;obtain⟨e,st⟩:=q;simp only[Ux,ZsX] at hr;cases hk:ZbB h.length fn.res (some (e,st)) with
  | none=>rw[hk] at hr;exact hr.elim
  | some r=>rw[hk] at hr;exact⟨r,ZzV X M hx hl (by rw[hv];exact hk),hr⟩
theorem callE {f:Nat} {as:List AV} {h:List Zl} (fn:Zs) {r:AV×List Zl} (hx:X f=some (.text fn)) (hl:as.length≤fn.nt)
  (hr:W X M fn.body { sl:=V1 0 as,hp:=Vu 0 h,nx:=h.length,m:=h.length } (ZsX h.length fn.res fun q=>q=r)):Ze X M f as h=some r:=by
 obtain⟨q,hq,rfl⟩:=ZzH X M fn hx hl hr;exact hq
end
@[go_sem] theorem vopE_move (C:Orc) (M:Zn) (sl:Sl) (hp:Hp) (base:Nat) (x:Opd):vop C M sl hp base (.move x)=QM (evO sl x):=by simp only[vop]
@[go_sem] theorem ZBS (C:Orc) (M:Zn) (sl:Sl) (hp:Hp) (base:Nat) (s:Option Nat) (x:Opd):vop C M sl hp base (.assign s x)=Zdm base s (evO sl x):=by simp only[vop]
@[go_sem] theorem vopE_pick (C:Orc) (M:Zn) (sl:Sl) (hp:Hp) (base:Nat) (c a b:Opd):vop C M sl hp base (.pick c a b)=Zf3 (evO sl a) (evO sl b) (evO sl c):=by simp only[vop]
@[go_sem] theorem ZCf (C:Orc) (M:Zn) (sl:Sl) (hp:Hp) (base:Nat) (slc:List (Option Nat)) (cs:List AV):vop C M sl hp base (.alloc slc cs)=Zfc slc base cs:=by simp only[vop]
@[go_sem] theorem vopE_box (C:Orc) (M:Zn) (sl:Sl) (hp:Hp) (base:Nat) (x:Opd):vop C M sl hp base (.box x)=Zwe base (evO sl x):=by simp only[vop]
@[go_sem] theorem ZCg (C:Orc) (M:Zn) (sl:Sl) (hp:Hp) (base:Nat) (zs:List AV) (ps:List (Nat×Nat×Opd)):vop C M sl hp base (.build zs ps)=Zn8 zs (evP sl ps):=by simp only[vop]
@[go_sem] theorem ZA3 (C:Orc) (M:Zn) (sl:Sl) (hp:Hp) (base:Nat) (s:Nat) (xs:List Opd):vop C M sl hp base (.buildSl s xs)=buildSl hp base s (evL sl xs):=by simp only[vop]
@[go_sem] theorem vopE_load (C:Orc) (M:Zn) (sl:Sl) (hp:Hp) (base:Nat) (g:Bool) (s:Nat) (a:Opd):vop C M sl hp base (.load g s a)=VE (Uz hp g s (evO sl a)):=by simp only[vop]
@[go_sem] theorem ZCh (C:Orc) (M:Zn) (sl:Sl) (hp:Hp) (base:Nat) (slc:List (Option Nat)) (s:Nat) (a x:Opd):vop C M sl hp base (.store slc s a x)=Zgg (ZaB hp slc s base (evO sl x).cells (evO sl a)):=by simp only[vop]
@[go_sem] theorem ZAz (C:Orc) (M:Zn) (sl:Sl) (hp:Hp) (base:Nat) (x:Opd):vop C M sl hp base (.nilCheck x)=JF (evO sl x):=by simp only[vop]
@[go_sem] theorem vopE_bin (C:Orc) (M:Zn) (sl:Sl) (hp:Hp) (base:Nat) (op:BinOp) (eq:Bool) (x y:Opd):vop C M sl hp base (.bin op eq x y)=Zjw op eq (evO sl x) (evO sl y):=by simp only[vop]
@[go_sem] theorem vopE_un (C:Orc) (M:Zn) (sl:Sl) (hp:Hp) (base:Nat) (op:UnOp) (x:Opd):vop C M sl hp base (.un op x)=VE (vun op (evO sl x)):=by simp only[vop]
@[go_sem] theorem vopE_eqA (C:Orc) (M:Zn) (sl:Sl) (hp:Hp) (base:Nat) (neg:Bool) (ks:List Nat) (x y:Opd):vop C M sl hp base (.eqA neg ks x y)=Zqf neg ks (evO sl x) (evO sl y):=by simp only[vop]
@[go_sem] theorem ZCi (C:Orc) (M:Zn) (sl:Sl) (hp:Hp) (base:Nat) (k:IntKind) (x:Opd):vop C M sl hp base (.convI k x)=convI k (evO sl x):=by simp only[vop]
@[go_sem] theorem ZCj (C:Orc) (M:Zn) (sl:Sl) (hp:Hp) (base:Nat) (x:Opd):vop C M sl hp base (.convS x)=convS (evO sl x):=by simp only[vop]
@[go_sem] theorem vopE_fn (C:Orc) (M:Zn) (sl:Sl) (hp:Hp) (base:Nat) (f:Nat) (cs:List Opd):vop C M sl hp base (.fn f cs)=VE (cloV f (evL sl cs)):=by simp only[vop]
@[go_sem] theorem vopE_make (C:Orc) (M:Zn) (sl:Sl) (hp:Hp) (base:Nat) (s b:Nat) (z:D) (l c:Opd):vop C M sl hp base (.make s b z l c)=bnd (idx (evO sl l)) fun l=>bnd (idx (evO sl c)) fun c=>Zoa base s b z l c:=by simp only[vop]
@[go_sem] theorem ZCk (C:Orc) (M:Zn) (sl:Sl) (hp:Hp) (base:Nat) (s:Nat) (x:Opd) (lo hi:Option Opd):vop C M sl hp base (.slice s x lo hi)=VE (Wm hp s (evM sl lo) (evM sl hi) (evO sl x)):=by simp only[vop]
@[go_sem] theorem ZBT (C:Orc) (M:Zn) (sl:Sl) (hp:Hp) (base:Nat) (x:Opd) (lo hi:Option Opd):vop C M sl hp base (.sliceS x lo hi)=VE (sliceS (evM sl lo) (evM sl hi) (evO sl x)):=by simp only[vop]
@[go_sem] theorem ZBU (C:Orc) (M:Zn) (sl:Sl) (hp:Hp) (base:Nat) (x hi mx:Opd):vop C M sl hp base (.slice0 x hi mx)=VE (slice0 hp (evO sl x) (idx (evO sl hi)) (idx (evO sl mx))):=by simp only[vop]
@[go_sem] theorem ZCl (C:Orc) (M:Zn) (sl:Sl) (hp:Hp) (base:Nat) (off:Nat) (x:Opd):vop C M sl hp base (.shift off x)=VF off (evO sl x):=by simp only[vop]
@[go_sem] theorem vopE_part (C:Orc) (M:Zn) (sl:Sl) (hp:Hp) (base:Nat) (g:Bool) (s off:Nat) (x:Opd):vop C M sl hp base (.part g s off x)=VE (Zju g s off (evO sl x)):=by simp only[vop]
@[go_sem] theorem vopE_iaS (C:Orc) (M:Zn) (sl:Sl) (hp:Hp) (base:Nat) (s:Nat) (x i:Opd):vop C M sl hp base (.iaS s x i)=bnd (idx (evO sl i)) fun n=>ZgD hp s (evO sl x) n:=by simp only[vop]
@[go_sem] theorem vopE_iaA (C:Orc) (M:Zn) (sl:Sl) (hp:Hp) (base:Nat) (len s:Nat) (x i:Opd):vop C M sl hp base (.iaA len s x i)=bnd (idx (evO sl i)) fun n=>ZlY (evO sl x) n len s:=by simp only[vop]
@[go_sem] theorem vopE_ixS (C:Orc) (M:Zn) (sl:Sl) (hp:Hp) (base:Nat) (x i:Opd):vop C M sl hp base (.ixS x i)=bnd (idx (evO sl i)) fun n=>ZuI n (evO sl x):=by simp only[vop]
@[go_sem] theorem vopE_ixA (C:Orc) (M:Zn) (sl:Sl) (hp:Hp) (base:Nat) (g:Bool) (s len:Nat) (x i:Opd):vop C M sl hp base (.ixA g s len x i)=bnd (idx (evO sl i)) fun n=>Zwg g s len n (evO sl x):=by simp only[vop]
@[go_sem] theorem vopE_nth (C:Orc) (M:Zn) (sl:Sl) (hp:Hp) (base:Nat) (i:Nat) (x:Opd):vop C M sl hp base (.nth i x)=Zs1 i (evO sl x):=by simp only[vop]
@[go_sem] theorem vopE_len (C:Orc) (M:Zn) (sl:Sl) (hp:Hp) (base:Nat) (x:Opd):vop C M sl hp base (.len x)=bnd (ZdC hp (evO sl x)) fun n=>QM (.d (.int .i64 n)):=by simp only[vop]
@[go_sem] theorem vopE_lenS (C:Orc) (M:Zn) (sl:Sl) (hp:Hp) (base:Nat) (x:Opd):vop C M sl hp base (.lenS x)=bnd (ZxV (evO sl x)) fun n=>QM (.d (.int .i64 n)):=by simp only[vop]
@[go_sem] theorem ZBV (C:Orc) (M:Zn) (sl:Sl) (hp:Hp) (base:Nat) (s b:Nat) (str flat:Bool) (x y:Opd):vop C M sl hp base (.append s b str flat x y)=Zs2 hp s b str flat base (evO sl x) (evO sl y):=by simp only[vop]
@[go_sem] theorem vopE_min (C:Orc) (M:Zn) (sl:Sl) (hp:Hp) (base:Nat) (x y:Opd):vop C M sl hp base (.min x y)=Zjy (evO sl x) (evO sl y):=by simp only[vop]
@[go_sem] theorem vopE_max (C:Orc) (M:Zn) (sl:Sl) (hp:Hp) (base:Nat) (x y:Opd):vop C M sl hp base (.max x y)=Zjz (evO sl x) (evO sl y):=by simp only[vop]
@[go_sem] theorem vopE_call (C:Orc) (M:Zn) (sl:Sl) (hp:Hp) (base:Nat) (f:Opd) (as:List Opd):vop C M sl hp base (.call f as)=ZcB C M hp base (evL sl as) (evO sl f):=by simp only[vop]
@[go_sem] theorem ZBW (C:Orc) (M:Zn) (sl:Sl) (hp:Hp) (base:Nat) (s:Nat) (x lo hi mx:Opd):vop C M sl hp base (.slice3 s x lo hi mx)=VE (slice3 hp (evO sl x) (idx (evO sl lo)) (idx (evO sl hi)) (idx (evO sl mx))):=by simp only[vop]
@[go_sem] theorem ZCm (C:Orc) (M:Zn) (sl:Sl) (hp:Hp) (base:Nat) (s:Nat) (z:D) (x:Opd):vop C M sl hp base (.clear s z x)=Zgg (ZdF hp s z (evO sl x)):=by simp only[vop]
@[go_sem] theorem ZA4 (C:Orc) (M:Zn) (sl:Sl) (hp:Hp) (base:Nat) (s n:Nat) (xs:List Opd):vop C M sl hp base (.buildDp s n xs)=buildDp hp base s n (evL sl xs):=by simp only[vop]
@[go_sem] theorem ZCn (C:Orc) (M:Zn) (sl:Sl) (hp:Hp) (base:Nat) (s b:Nat) (f:Bool) (x y:Opd):vop C M sl hp base (.appDp s b f x y)=Zqg hp s b base (evO sl x) (evO sl y):=by simp only[vop]
@[go_sem] theorem ZCo (C:Orc) (M:Zn) (sl:Sl) (hp:Hp) (base:Nat) (s n:Nat) (x:Opd):vop C M sl hp base (.asgDp s n x)=asgDp base s n (evO sl x):=by simp only[vop]
@[go_sem] theorem ZCp (C:Orc) (M:Zn) (sl:Sl) (hp:Hp) (base:Nat):vop C M sl hp base .stuck=none:=by simp only[vop]
@[go_sem] theorem Zyr (hp:Hp) (n:Nat) (aa:List Nat):QL hp n [] aa=aa:=by cases n<;>rfl
@[go_sem] theorem tidy_d (hp:Hp) (ids:List Nat) (x:D):ZeE hp ids (.d x)=.d x:=rfl
@[go_sem] theorem tidy_nil (hp:Hp) (ids:List Nat):ZeE hp ids .nil=.nil:=rfl
@[go_sem] theorem tidy_junk (hp:Hp) (ids:List Nat):ZeE hp ids .junk=.junk:=rfl
@[go_sem] theorem tidy_tup (hp:Hp) (ids:List Nat) (vs:List AV):ZeE hp ids (.tup vs)=ren (Wr ids) (kill (ZgH hp ids (ZB (.tup vs))) (.tup vs)):=rfl
@[go_sem] theorem tidy_agg (hp:Hp) (ids:List Nat) (vs:List AV):ZeE hp ids (.agg vs)=ren (Wr ids) (kill (ZgH hp ids (ZB (.agg vs))) (.agg vs)):=rfl
@[go_sem] theorem tidy_clo (hp:Hp) (ids:List Nat) (f:Nat) (vs:List AV):ZeE hp ids (.clo f vs)=ren (Wr ids) (kill (ZgH hp ids (ZB (.clo f vs))) (.clo f vs)):=rfl
@[go_sem] theorem tidy_nilp (hp:Hp) (ids:List Nat):ZeE hp ids .nilp=.nilp:=rfl
@[go_sem] theorem tidy_nili (hp:Hp) (ids:List Nat):ZeE hp ids .nili=.nili:=rfl
@[go_sem] theorem tidy_pim (hp:Hp) (ids:List Nat) (cs:List D):ZeE hp ids (.pim cs)=.pim cs:=rfl
@[go_sem] theorem tidy_ptr (hp:Hp) (ids:List Nat) (id o:Nat):ZeE hp ids (.ptr id o)=if ZdL hp ids id=true then .ptr (Wr ids id) o else .junk:=by
 simp only[ZeE,ZB,ZC,Zm,ZgH];split<;>simp[kill,ZT,Qa,ren,Zef,Zee]
@[go_sem] theorem tidy_prow (hp:Hp) (ids:List Nat) (id s i o:Nat):ZeE hp ids (.prow id s i o)=if ZdL hp ids id=true then .prow (Wr ids id) s i o else .junk:=by
 simp only[ZeE,ZB,ZC,Zm,ZgH];split<;>simp[kill,ZT,Qa,ren,Zef,Zee]
@[go_sem] theorem tidy_own (hp:Hp) (ids:List Nat) (id:Nat):ZeE hp ids (.own id)=if ZdL hp ids id=true then .own (Wr ids id) else .junk:=by
 simp only[ZeE,ZB,ZC,Zm,ZgH];split<;>simp[kill,ZT,Qa,ren,Zef,Zee]
@[go_sem] theorem tidy_ownv (hp:Hp) (ids:List Nat) (id a b:Nat):ZeE hp ids (.ownv id a b)=if ZdL hp ids id=true then .ownv (Wr ids id) a b else .junk:=by
 simp only[ZeE,ZB,ZC,Zm,ZgH];split<;>simp[kill,ZT,Qa,ren,Zef,Zee]
@[go_sem] theorem ZCq (hp:Hp) (x:D):Vb 0 hp (.d x)=(.d x,[]):=by
 simp[Vb,ZB,ZC,Zm,Wv,Zyr,tidy_d,Zcw]
@[go_sem] theorem minI_eq (a b:Int):minI a b=min a b:=by unfold minI;split<;>omega
@[go_sem] theorem maxI_eq (a b:Int):maxI a b=max a b:=by unfold maxI;split<;>omega
@[go_sem] theorem negIf_f (r:Bool):Zn9 false r=r:=rfl
@[go_sem] theorem negIf_t (r:Bool):Zn9 true r=!r:=rfl
@[go_sem] theorem opt1_some (v:AV):VE (some v)=QM v:=rfl
@[go_sem] theorem opt1_none:VE none=none:=rfl
@[go_sem] theorem vbin_int (op:BinOp) (k k' : IntKind) (a b:Int):vbin op (.d (.int k a)) (.d (.int k' b))=Jy op k k' a b:=rfl
@[go_sem] theorem binV_int (op:BinOp) (eq:Bool) (k k' : IntKind) (a b:Int):Zjw op eq (.d (.int k a)) (.d (.int k' b))=VE (Jy op k k' a b):=rfl
@[go_sem] theorem binV_str (op:BinOp) (eq:Bool) (a b:List UInt8):Zjw op eq (.d (.str a)) (.d (.str b))=VE (asD (Zt2 op a b)):=rfl
@[go_sem] theorem int2_add (k:IntKind) (a b:Int):Jy .add k k a b=some (.d (.int k (k.wrap (a+b)))):=by simp[Jy,Uu,asD,Zg]
@[go_sem] theorem int2_sub (k:IntKind) (a b:Int):Jy .sub k k a b=some (.d (.int k (k.wrap (a-b)))):=by simp[Jy,Uu,asD,Zg]
@[go_sem] theorem int2_mul (k:IntKind) (a b:Int):Jy .mul k k a b=some (.d (.int k (k.wrap (a*b)))):=by simp[Jy,Uu,asD,Zg]
@[go_sem] theorem int2_quo (k:IntKind) (a b:Int):Jy .quo k k a b=if b=0 then none else some (.d (.int k (k.wrap (a.tdiv b)))):=by simp only[Jy,Uu,asD,if_true];split<;>rfl
@[go_sem] theorem int2_rem (k:IntKind) (a b:Int):Jy .rem k k a b=if b=0 then none else some (.d (.int k (a.tmod b))):=by simp only[Jy,Uu,asD,if_true];split<;>rfl
@[go_sem] theorem int2_eql (k:IntKind) (a b:Int):Jy .eql k k a b=some (.d (.bool (decide (a=b)))):=by simp[Jy,Uu,asD,Zg,BEq.beq]
@[go_sem] theorem int2_neq (k:IntKind) (a b:Int):Jy .neq k k a b=some (.d (.bool (!decide (a=b)))):=by simp[Jy,Uu,asD,Zg,bne,BEq.beq]
@[go_sem] theorem int2_lss (k:IntKind) (a b:Int):Jy .lss k k a b=some (.d (.bool (decide (a<b)))):=by simp[Jy,Uu,asD,Zg]
@[go_sem] theorem int2_leq (k:IntKind) (a b:Int):Jy .leq k k a b=some (.d (.bool (decide (a≤b)))):=by simp[Jy,Uu,asD,Zg]
@[go_sem] theorem int2_gtr (k:IntKind) (a b:Int):Jy .gtr k k a b=some (.d (.bool (decide (b<a)))):=by simp[Jy,Uu,asD,Zg]
@[go_sem] theorem int2_geq (k:IntKind) (a b:Int):Jy .geq k k a b=some (.d (.bool (decide (b≤a)))):=by simp[Jy,Uu,asD,Zg]
@[go_sem] theorem guardV_t (b:Bool):Zfi true (.d (.bool b))=some b:=by cases b<;>rfl
def nb (b:Bool):Bool:=!b
@[go_sem] theorem nb_true:nb true=false:=rfl
@[go_sem] theorem nb_false:nb false=true:=rfl
@[go_sem] theorem nb_eq (b:Bool):(nb b=true)=(b=false):=by cases b<;>simp[nb]
@[go_sem] theorem guardV_f (b:Bool):Zfi false (.d (.bool b))=some (nb b):=by cases b<;>rfl
@[go_sem] theorem ZCr (w:Bool):Zfi w (.tup [])=some false:=rfl
@[go_sem] theorem ZA5 (a b:Bool):Zfi true (ZhZ a (.d (.bool b)))=some (a&&b):=by cases a<;>cases b<;>rfl
@[go_sem] theorem ZA6 (a b:Bool):Zfi false (ZhZ a (.d (.bool b)))=some (a&&nb b):=by cases a<;>cases b<;>rfl
@[go_sem] theorem iteV_true (v:AV):ZhZ true v=v:=rfl
@[go_sem] theorem ZCs (v:AV):ZhZ false v=.tup []:=rfl
@[go_sem] theorem ZCt (a b:AV):Zf3 a b (.d (.bool true))=QM a:=rfl
@[go_sem] theorem ZBX (a b:AV):Zf3 a b (.d (.bool false))=QM b:=rfl
@[go_sem] theorem pickV_or (b c:Bool):Zf3 (.d (.bool true)) (ZhZ (nb b) (.d (.bool c))) (.d (.bool b))=QM (.d (.bool (b || c))):=by cases b<;>rfl
@[go_sem] theorem pickV_and (b c:Bool):Zf3 (ZhZ b (.d (.bool c))) (.d (.bool false)) (.d (.bool b))=QM (.d (.bool (b&&c))):=by cases b<;>rfl
theorem ZCu (a b:AV) (t:Bool):Zf3 a b (.d (.bool t))=if t=true then QM a else QM b:=by cases t<;>rfl
@[go_sem] theorem dec_or (p q:Prop) [Decidable p] [Decidable q]:(decide p || decide q)=decide (p∨q):=by simp
@[go_sem] theorem dec_and (p q:Prop) [Decidable p] [Decidable q]:(decide p&&decide q)=decide (p∧q):=by simp
@[go_sem] theorem dec_not (p:Prop) [Decidable p]:(!decide p)=decide (¬p):=by simp
attribute [go_sem] Bool.or_eq_false_iff decide_eq_true_eq decide_eq_false_iff_not Bool.and_eq_true Bool.or_eq_true Bool.not_eq_true' Bool.not_eq_false' not_or Decidable.not_not
@[go_sem] theorem evO_t (sl:Sl) (n:Nat):evO sl (.t n)=gs sl n:=rfl
@[go_sem] theorem evO_v (sl:Sl) (a:AV):evO sl (.v a)=a:=rfl
@[go_sem] theorem evO_f (sl:Sl) (n:Nat):evO sl (.f n)=.clo n []:=rfl
@[go_sem] theorem gs_hit (k:Nat) (v:AV) (r:Sl):gs ((k,v) :: r) k=v:=by simp[gs,lkp,ZdB]
@[go_sem] theorem gs_cons (k t:Nat) (v:AV) (r:Sl):gs ((k,v) :: r) t=if k=t then v else gs r t:=by
 by_cases h:k=t<;>simp[gs,lkp,h,ZdB]
@[go_sem] theorem gs_nil (t:Nat):gs [] t=.junk:=rfl
attribute [go_sem] ZeX.eq_1 ZeX.eq_2
attribute [go_sem] Zbe.eq_1 Zbe.eq_2 Zbe.eq_3
attribute [go_sem] Zmi.eq_1 Zmi.eq_2 Zmi.eq_3
attribute [go_sem] Zbw.eq_1 Zbw.eq_2
attribute [go_sem] St.hp.eq_1
attribute [go_sem] ZbO.eq_1 ZbO.eq_2 ZbO.eq_3
attribute [go_sem] ZdB.eq_1 ZdB.eq_2
attribute [go_sem] agg2.eq_1 agg2.eq_2 agg2.eq_3
attribute [go_sem] ins.eq_1 ins.eq_2
attribute [go_sem] ZeZ.eq_1 ZeZ.eq_2
attribute [go_sem] XU.eq_1 XU.eq_2 XU.eq_3
attribute [go_sem] St.m.eq_1
attribute [go_sem] bnd.eq_1 bnd.eq_2
attribute [go_sem] Jx.eq_1 Jx.eq_2 Jx.eq_3
attribute [go_sem] Zt2.eq_1 Zt2.eq_2 Zt2.eq_3 Zt2.eq_4
attribute [go_sem] AV.cells.eq_1 AV.cells.eq_2 AV.cells.eq_3 AV.cells.eq_4 AV.cells.eq_5 AV.cells.eq_6 AV.cells.eq_7 AV.cells.eq_8 AV.cells.eq_9 AV.cells.eq_10 AV.cells.eq_11 AV.cells.eq_12 AV.cells.eq_13 AV.cells.eq_14 AV.cells.eq_15 AV.cells.eq_16
attribute [go_sem] Qa.eq_1 Qa.eq_2 Qa.eq_3 Qa.eq_4 Qa.eq_5 Qa.eq_6 Qa.eq_7
attribute [go_sem] AV.solid.eq_1 AV.solid.eq_2 AV.solid.eq_3 AV.solid.eq_4
attribute [go_sem] Wp.eq_1 Wp.eq_2
attribute [go_sem] QF.eq_1 QF.eq_2
attribute [go_sem] Ze0.eq_1 Ze0.eq_2
attribute [go_sem] Jw.eq_1
attribute [go_sem] ZdC.eq_1 ZdC.eq_2 ZdC.eq_3 ZdC.eq_4 ZdC.eq_5
attribute [go_sem] Zgl.eq_1 Zgl.eq_2
attribute [go_sem] D.flat.eq_1
attribute [go_sem] give.eq_1 give.eq_2
attribute [go_sem] D.beq1.eq_1 D.beq1.eq_2 D.beq1.eq_3 D.beq1.eq_4
attribute [go_sem] Zee.eq_1 Zee.eq_2 Zee.eq_3 Zee.eq_4 Zee.eq_5 Zee.eq_6 Zee.eq_7
attribute [go_sem] not1.eq_1 not1.eq_2
attribute [go_sem] XV.eq_1 XV.eq_2 XV.eq_3
attribute [go_sem] St.nx.eq_1
attribute [go_sem] ZC.eq_1 ZC.eq_2 ZC.eq_3
attribute [go_sem] Zef.eq_1 Zef.eq_2 Zef.eq_3
attribute [go_sem] Zja.eq_1 Zja.eq_2
attribute [go_sem] vun.eq_1 vun.eq_2 vun.eq_3
attribute [go_sem] toD.eq_1 toD.eq_2
attribute [go_sem] Zm.eq_1 Zm.eq_2 Zm.eq_3 Zm.eq_4 Zm.eq_5 Zm.eq_6 Zm.eq_7 Zm.eq_8 Zm.eq_9 Zm.eq_10 Zm.eq_11 Zm.eq_12 Zm.eq_13 Zm.eq_14 Zm.eq_15 Zm.eq_16
attribute [go_sem] D.plain.eq_1 D.plain.eq_2 D.plain.eq_3 D.plain.eq_4 D.plain.eq_5
attribute [go_sem] Z9.eq_1
attribute [go_sem] ZT.eq_1 ZT.eq_2 ZT.eq_3
attribute [go_sem] UV.eq_1 UV.eq_2
attribute [go_sem] ZB.eq_1 ZB.eq_2
attribute [go_sem] ZvK.eq_1
attribute [go_sem] ZhY.eq_1 ZhY.eq_2
attribute [go_sem] ZbP.eq_1 ZbP.eq_2 ZbP.eq_3 ZbP.eq_4
attribute [go_sem] St.sl.eq_1
attribute [go_sem] ZxV.eq_1 ZxV.eq_2
attribute [go_sem] WZ.eq_1 WZ.eq_2
attribute [go_sem] ZeY.eq_1 ZeY.eq_2
attribute [go_sem] ren.eq_1 ren.eq_2
attribute [go_sem] kill.eq_1 kill.eq_2
attribute [go_sem] lkp.eq_1 lkp.eq_2
attribute [go_sem] Zrn.eq_1 Zrn.eq_2 Zrn.eq_3
attribute [go_sem] Ye.eq_1 Ye.eq_2
attribute [go_sem] beqL.eq_1 beqL.eq_2 beqL.eq_3
attribute [go_sem] D.cells.eq_1 D.cells.eq_2 D.cells.eq_3 D.cells.eq_4 D.cells.eq_5
attribute [go_sem] Znx.eq_1 Znx.eq_2
attribute [go_sem] Zrm.eq_1 Zrm.eq_2
attribute [go_sem] neg1.eq_1 neg1.eq_2
attribute [go_sem] Zkp.eq_1 Zkp.eq_2 Zkp.eq_3
attribute [go_sem] VD.eq_1 VD.eq_2 VD.eq_3
attribute [go_sem] asD.eq_1
attribute [go_sem] Uu.eq_1 Uu.eq_2 Uu.eq_3 Uu.eq_4 Uu.eq_5 Uu.eq_6 Uu.eq_7 Uu.eq_8 Uu.eq_9 Uu.eq_10 Uu.eq_11 Uu.eq_12 Uu.eq_13 Uu.eq_14 Uu.eq_15 Uu.eq_16 Uu.eq_17
attribute [go_sem] ZhX.eq_1 ZhX.eq_2 ZhX.eq_3 ZhX.eq_4 ZhX.eq_5
attribute [go_sem] D.one.eq_1 D.one.eq_2 D.one.eq_3 D.one.eq_4 D.one.eq_5
attribute [go_sem] freeze.eq_1 freeze.eq_2
attribute [go_sem] ZdE.eq_1
attribute [go_sem] loOf.eq_1 loOf.eq_2
attribute [go_sem] Eff.on.eq_1
attribute [go_sem] Za0.eq_1 Za0.eq_2
attribute [go_sem] cloV.eq_1
attribute [go_sem] slice0.eq_1 slice0.eq_2
attribute [go_sem] evM.eq_1 evM.eq_2
attribute [go_sem] hiOf.eq_1 hiOf.eq_2
attribute [go_sem] Zju.eq_1 Zju.eq_2 Zju.eq_3
attribute [go_sem] Zxx.eq_1
attribute [go_sem] idx.eq_1 idx.eq_2
attribute [go_sem] Wm.eq_1 Wm.eq_2 Wm.eq_3 Wm.eq_4 Wm.eq_5
attribute [go_sem] Zbh.eq_1 Zbh.eq_2 Zbh.eq_3
attribute [go_sem] Qm.eq_1 Qm.eq_2
attribute [go_sem] D.notSl.eq_1 D.notSl.eq_2
attribute [go_sem] ZzI.eq_1 ZzI.eq_2
attribute [go_sem] Zcx.eq_1 Zcx.eq_2 Zcx.eq_3 Zcx.eq_4 Zcx.eq_5 Zcx.eq_6
attribute [go_sem] CO.guard.eq_1
attribute [go_sem] Zgg.eq_1
attribute [go_sem] JD.eq_1
attribute [go_sem] Zct.eq_1 Zct.eq_2
attribute [go_sem] Zjt.eq_1
attribute [go_sem] Eff.adds.eq_1
attribute [go_sem] Wr.eq_1 Wr.eq_2
attribute [go_sem] Zh.eq_1 Zh.eq_2
attribute [go_sem] Zd.eff.eq_1
attribute [go_sem] ZgC.eq_1 ZgC.eq_2
attribute [go_sem] ZuI.eq_1 ZuI.eq_2
attribute [go_sem] ZkF.eq_1 ZkF.eq_2 ZkF.eq_3
attribute [go_sem] del.eq_1 del.eq_2
attribute [go_sem] Zn8.eq_1
attribute [go_sem] ZsY.eq_1 ZsY.eq_2
attribute [go_sem] ZaC.eq_1 ZaC.eq_2
attribute [go_sem] Zjz.eq_1 Zjz.eq_2
attribute [go_sem] JF.eq_1 JF.eq_2 JF.eq_3 JF.eq_4 JF.eq_5
attribute [go_sem] Zfc.eq_1
attribute [go_sem] slice3.eq_1
attribute [go_sem] Zcv.eq_1 Zcv.eq_2
attribute [go_sem] args.eq_1 args.eq_2
attribute [go_sem] ZiD.eq_1 ZiD.eq_2
attribute [go_sem] Zjy.eq_1 Zjy.eq_2
attribute [go_sem] Zby.eq_1 Zby.eq_2
attribute [go_sem] Zdl.eq_1
attribute [go_sem] Zdn.deepRow.eq_1 Zdn.deepRow.eq_2
attribute [go_sem] Zhy.eq_1 Zhy.eq_2
attribute [go_sem] Zjx.eq_1
attribute [go_sem] evL.eq_1 evL.eq_2
attribute [go_sem] Za1.eq_1 Za1.eq_2 Za1.eq_3
attribute [go_sem] Zcw.eq_1 Zcw.eq_2
attribute [go_sem] Zn7.eq_1 Zn7.eq_2
attribute [go_sem] Eff.sets.eq_1
attribute [go_sem] ZdH.eq_1 ZdH.eq_2 ZdH.eq_3
attribute [go_sem] Zjs.eq_1 Zjs.eq_2
attribute [go_sem] Zep.eq_1
attribute [go_sem] ZgB.eq_1 ZgB.eq_2
attribute [go_sem] ZaB.eq_1 ZaB.eq_2 ZaB.eq_3
attribute [go_sem] Zwg.eq_1
attribute [go_sem] Zqg.eq_1
attribute [go_sem] VG.eq_1 VG.eq_2
attribute [go_sem] ZzJ.eq_1 ZzJ.eq_2
attribute [go_sem] ZkG.eq_1 ZkG.eq_2
attribute [go_sem] ZcC.eq_1 ZcC.eq_2
attribute [go_sem] Zoa.eq_1
attribute [go_sem] buildDp.eq_1 buildDp.eq_2
attribute [go_sem] AV.atom.eq_1 AV.atom.eq_2 AV.atom.eq_3 AV.atom.eq_4 AV.atom.eq_5
attribute [go_sem] Zs2.eq_1
attribute [go_sem] Eff.dels.eq_1
attribute [go_sem] Zdk.eq_1 Zdk.eq_2 Zdk.eq_3
attribute [go_sem] mat.eq_1 mat.eq_2 mat.eq_3
attribute [go_sem] ZR.eq_1
attribute [go_sem] Zcz.eq_1 Zcz.eq_2
attribute [go_sem] ZuF.eq_1 ZuF.eq_2
attribute [go_sem] Zs0.eq_1
attribute [go_sem] Zwe.eq_1
attribute [go_sem] W1.eq_1
attribute [go_sem] Qy.eq_1 Qy.eq_2 Qy.eq_3 Qy.eq_4
attribute [go_sem] Zwf.eq_1
attribute [go_sem] Zeq.eq_1 Zeq.eq_2
attribute [go_sem] ZuK.eq_1 ZuK.eq_2
attribute [go_sem] ZgA.eq_1 ZgA.eq_2 ZgA.eq_3 ZgA.eq_4
attribute [go_sem] ZiB.eq_1 ZiB.eq_2
attribute [go_sem] Zfb.eq_1 Zfb.eq_2
attribute [go_sem] Zes.eq_1 Zes.eq_2 Zes.eq_3 Zes.eq_4 Zes.eq_5
attribute [go_sem] ZsZ.eq_1 ZsZ.eq_2
attribute [go_sem] ZkH.eq_1
attribute [go_sem] Zdo.eq_1 Zdo.eq_2
attribute [go_sem] convS.eq_1 convS.eq_2
attribute [go_sem] Zhz.eq_1 Zhz.eq_2
attribute [go_sem] CO.tl.eq_1
attribute [go_sem] Y1.eq_1 Y1.eq_2 Y1.eq_3
attribute [go_sem] CO.dst.eq_1
attribute [go_sem] teOf.eq_1
attribute [go_sem] Zwh.eq_1 Zwh.eq_2 Zwh.eq_3
attribute [go_sem] Zgz.eq_1
attribute [go_sem] ZiE.eq_1 ZiE.eq_2
attribute [go_sem] Zdn.eq_1 Zdn.eq_2 Zdn.eq_3 Zdn.eq_4
attribute [go_sem] Zjv.eq_1 Zjv.eq_2
attribute [go_sem] Zb2.eq_1 Zb2.eq_2 Zb2.eq_3
attribute [go_sem] ZrQ.eq_1
attribute [go_sem] Eff.val.eq_1
attribute [go_sem] sliceS.eq_1 sliceS.eq_2
attribute [go_sem] YN.eq_1 YN.eq_2 YN.eq_3
attribute [go_sem] buildSl.eq_1 buildSl.eq_2
attribute [go_sem] Uz.eq_1 Uz.eq_2 Uz.eq_3 Uz.eq_4
attribute [go_sem] Zar.eq_1 Zar.eq_2 Zar.eq_3 Zar.eq_4 Zar.eq_5
attribute [go_sem] ZlX.eq_1 ZlX.eq_2
attribute [go_sem] ZlY.eq_1
attribute [go_sem] evP.eq_1 evP.eq_2
attribute [go_sem] ZcA.eq_1 ZcA.eq_2
attribute [go_sem] ZbR.eq_1
attribute [go_sem] Zer.eq_1
attribute [go_sem] ZrP.eq_1 ZrP.eq_2
attribute [go_sem] Zn9.eq_1
attribute [go_sem] WF.eq_1
attribute [go_sem] ZuJ.eq_1
attribute [go_sem] bnT.eq_1 bnT.eq_2
attribute [go_sem] Zcu.eq_1 Zcu.eq_2
attribute [go_sem] JC.eq_1 JC.eq_2
attribute [go_sem] ZcB.eq_1 ZcB.eq_2
attribute [go_sem] asgDp.eq_1 asgDp.eq_2
attribute [go_sem] ZiA.eq_1 ZiA.eq_2 ZiA.eq_3
attribute [go_sem] ZuG.eq_1 ZuG.eq_2
attribute [go_sem] CO.op.eq_1
attribute [go_sem] Zdm.eq_1 Zdm.eq_2
attribute [go_sem] ZdF.eq_1 ZdF.eq_2
attribute [go_sem] ZyA.eq_1 ZyA.eq_2
attribute [go_sem] Zs1.eq_1 Zs1.eq_2
attribute [go_sem] ZiC.eq_1 ZiC.eq_2
attribute [go_sem] ZdG.eq_1 ZdG.eq_2 ZdG.eq_3 ZdG.eq_4 ZdG.eq_5 ZdG.eq_6 ZdG.eq_7 ZdG.eq_8 ZdG.eq_9
attribute [go_sem] JE.eq_1
attribute [go_sem] VF.eq_1 VF.eq_2 VF.eq_3 VF.eq_4
attribute [go_sem] Eff.frz.eq_1
attribute [go_sem] Qc.eq_1 Qc.eq_2
attribute [go_sem] Zhx.eq_1 Zhx.eq_2
attribute [go_sem] Zd.gone.eq_1
attribute [go_sem] meltIn.eq_1 meltIn.eq_2
attribute [go_sem] ZgD.eq_1
attribute [go_sem] ZuH.eq_1 ZuH.eq_2
attribute [go_sem] convI.eq_1 convI.eq_2
attribute [go_sem] Zno.eq_1 Zno.eq_2
attribute [go_sem] bd.eq_1
attribute [go_sem] Zcy.eq_1 Zcy.eq_2
attribute [go_sem] XX.eq_1
attribute [go_sem] Zet.eq_1 Zet.eq_2
attribute [go_sem] Zqf.eq_1 Zqf.eq_2
attribute [go_sem] ZxC.eq_1 ZxC.eq_2
attribute [go_sem] ZI.eq_1 ZI.eq_2 ZI.eq_3 ZI.eq_4 ZI.eq_5 ZI.eq_6 ZI.eq_7 ZI.eq_8 ZI.eq_9 ZI.eq_10 ZI.eq_11 ZI.eq_12 ZI.eq_13 ZI.eq_14 ZI.eq_15 ZI.eq_16 ZI.eq_17 ZI.eq_18 ZI.eq_19 ZI.eq_20 ZI.eq_21 ZI.eq_22 ZI.eq_23 ZI.eq_24 ZI.eq_25 ZI.eq_26 ZI.eq_27 ZI.eq_28 ZI.eq_29 ZI.eq_30 ZI.eq_31 ZI.eq_32 ZI.eq_33 ZI.eq_34 ZI.eq_35 ZI.eq_36 ZI.eq_37 ZI.eq_38 ZI.eq_39
attribute [go_sem] Ja.eq_1 Ja.eq_2 Ja.eq_3 Ja.eq_4 Ja.eq_5
attribute [go_sem] ZgI.eq_1
attribute [go_sem] Zte.eq_1 Zte.eq_2
attribute [go_sem] ZbU.eq_1 ZbU.eq_2
attribute [go_sem] ZdM.eq_1
attribute [go_sem] ZdK.eq_1 ZdK.eq_2 ZdK.eq_3 ZdK.eq_4 ZdK.eq_5
attribute [go_sem] U0.eq_1 U0.eq_2
attribute [go_sem] Zou.eq_1 Zou.eq_2
attribute [go_sem] Xa.eq_1 Xa.eq_2
attribute [go_sem] only.eq_1 only.eq_2
attribute [go_sem] Zwu.eq_1 Zwu.eq_2
attribute [go_sem] ZgG.eq_1 ZgG.eq_2
attribute [go_sem] V1.eq_1 V1.eq_2
attribute [go_sem] okL.eq_1 okL.eq_2
attribute [go_sem] okC.eq_1 okC.eq_2 okC.eq_3 okC.eq_4 okC.eq_5 okC.eq_6 okC.eq_7 okC.eq_8 okC.eq_9 okC.eq_10
attribute [go_sem] Znq.eq_1 Znq.eq_2
attribute [go_sem] ZiK.eq_1 ZiK.eq_2
attribute [go_sem] Zfj.eq_1 Zfj.eq_2 Zfj.eq_3
attribute [go_sem] ZhG.eq_1 ZhG.eq_2
attribute [go_sem] ZgH.eq_1 ZgH.eq_2
attribute [go_sem] Xm.eq_1 Xm.eq_2
attribute [go_sem] Zp.eq_1 Zp.eq_2
attribute [go_sem] V0.eq_1 V0.eq_2 V0.eq_3
attribute [go_sem] ZjG.eq_1
attribute [go_sem] Vu.eq_1 Vu.eq_2
attribute [go_sem] JL.eq_1 JL.eq_2
attribute [go_sem] CO.starts.eq_1
attribute [go_sem] Y4.eq_1 Y4.eq_2
attribute [go_sem] QT.eq_1 QT.eq_2
attribute [go_sem] ZxB.eq_1 ZxB.eq_2
attribute [go_sem] ZkS.eq_1
attribute [go_sem] Zfl.eq_1 Zfl.eq_2
attribute [go_sem] Wv.eq_1 Wv.eq_2
attribute [go_sem] ZdL.eq_1
attribute [go_sem] Zs.body.eq_1
attribute [go_sem] ZiL.eq_1 ZiL.eq_2
attribute [go_sem] UZ.eq_1 UZ.eq_2 UZ.eq_3 UZ.eq_4 UZ.eq_5 UZ.eq_6
attribute [go_sem] Zs.res.eq_1
attribute [go_sem] Va.eq_1 Va.eq_2
attribute [go_sem] YI.eq_1 YI.eq_2 YI.eq_3 YI.eq_4 YI.eq_5 YI.eq_6 YI.eq_7 YI.eq_8 YI.eq_9 YI.eq_10 YI.eq_11 YI.eq_12
attribute [go_sem] Zmm.eq_1 Zmm.eq_2
attribute [go_sem] VZ.eq_1 VZ.eq_2
attribute [go_sem] Zs.nt.eq_1
attribute [go_sem] okD.eq_1 okD.eq_2
attribute [go_sem] Zqf.eq_1 Zar.eq_1 Zar.eq_2 Zar.eq_3 Zar.eq_4
attribute [go_sem] Ww.eq_1 ZcH.eq_1 ZcH.eq_2 ZcH.eq_3 ZcH.eq_4 ZcH.eq_5 ZcH.eq_6 ZcH.eq_7 ZcH.eq_8 ZcH.eq_9 ZcH.eq_10 Vb.eq_1
attribute [go_sem] QL.eq_3 Q9.eq_1 AV.atom.eq_1 AV.atom.eq_2 AV.atom.eq_3 AV.atom.eq_4
attribute [go_sem] Zqd.eq_1 Zqd.eq_2 Zic.eq_1 Zic.eq_2
attribute [go_sem] Zg Zza ZAG
attribute [go_sem] List.map_cons List.map_nil List.flatMap_cons List.flatMap_nil List.append_nil List.nil_append List.cons_append List.length_cons List.length_nil List.all_cons List.all_nil List.any_cons List.any_nil List.contains_cons List.contains_nil List.filter_cons List.filter_nil List.drop_zero List.drop_succ_cons List.drop_nil List.take_zero List.take_succ_cons List.take_nil List.getElem?_cons_zero List.getElem?_cons_succ List.getElem?_nil Option.map_some Option.map_none Bool.and_true Bool.true_and Bool.and_false Bool.false_and Bool.or_true Bool.true_or Bool.or_false Bool.false_or Bool.not_true Bool.not_false decide_true decide_false and_true true_and and_false false_and not_true not_false_eq_true or_true true_or or_false false_or if_true if_false true_implies false_implies implies_true imp_self eq_self ne_eq beq_self_eq_true Bool.true_eq_false Bool.false_eq_true List.isEmpty_nil List.isEmpty_cons List.range_zero List.set_cons_zero List.set_cons_succ Option.some.injEq reduceCtorEq Nat.reduceLeDiff
def Zn3 (hp:Hp):List Nat→List Nat
 | []=>[]
 | i :: r=>if Y1 (lkp hp i)=true then i :: Zn3 hp r else Zn3 hp r
theorem gE (hp:Hp) (ids:List Nat):(ids.filter fun i=>Y1 (lkp hp i))=Zn3 hp ids:=by
 induction ids with
 | nil=>rfl
 | cons i r ih=>simp only[List.filter_cons,Zn3,ih]
def ZrI (hp:Hp) (rs:List Nat):List Nat→Bool
 | []=>true
 | i :: r=>(Y1 (lkp hp i) || rs.contains i)&&ZrI hp rs r
def ZrJ (hp:Hp):List Nat→Bool
 | []=>false
 | i :: r=>Zby (lkp hp i) || ZrJ hp r
theorem gG (hp:Hp) (ids:List Nat):(ids.any fun i=>Zby (lkp hp i))=ZrJ hp ids:=by
 induction ids with
 | nil=>rfl
 | cons i r ih=>simp only[List.any_cons,ZrJ,ih]
attribute [go_sem] ZrJ.eq_1 ZrJ.eq_2
@[go_sem] theorem appTo_nil (hp:Hp) (s b:Nat) (str flat:Bool) (base:Nat) (y:AV):Zeu hp s b str flat base y .nil=VG hp s b str flat base .nil y ([]++Yu hp y):=rfl
@[go_sem] theorem appTo_own (hp:Hp) (s b:Nat) (str flat:Bool) (base:Nat) (y:AV) (k:Nat):Zeu hp s b str flat base y (.own k)=VG hp s b str flat base (.own k) y ((if Zby (lkp hp k)=true then [k] else [])++Yu hp y):=rfl
@[go_sem] theorem ZCv (hp:Hp) (s b:Nat) (str flat:Bool) (base:Nat) (y:AV) (k o n:Nat):Zeu hp s b str flat base y (.ownv k o n)=VG hp s b str flat base (.ownv k o n) y ([]++Yu hp y):=rfl
@[go_sem] theorem deepId_d (hp:Hp) (x:D):Yu hp (.d x)=[]:=rfl
@[go_sem] theorem ZCw (hp:Hp):Yu hp .nil=[]:=rfl
@[go_sem] theorem ZBY (hp:Hp) (k o n:Nat):Yu hp (.ownv k o n)=[]:=rfl
@[go_sem] theorem ZCx (hp:Hp) (k:Nat):Yu hp (.own k)=if Zby (lkp hp k)=true then [k] else []:=rfl
@[go_sem] theorem appTo_sub (hp:Hp) (s b:Nat) (str flat:Bool) (base:Nat) (y:AV) (id nm:Nat):Zeu hp s b str flat base y (.sub id nm)=if str then none else bnd (Zes hp true y) fun q=>if (ZbO y).contains id then none else ZiE s b base id nm q (lkp hp id):=rfl
theorem gF (hp:Hp) (rs ids:List Nat):Zb1 hp rs ids=ZrI hp rs ids:=by
 induction ids with
 | nil=>rfl
 | cons i r ih=>simp only[Zb1,Lm,ZrI] at ih ⊢;rw[ih]
attribute [go_sem] Zn3.eq_1 Zn3.eq_2 ZrI.eq_1 ZrI.eq_2
@[go_sem] theorem okV_d (x:D):okV (.d x)=true:=rfl
@[go_sem] theorem okV_nil:okV .nil=true:=rfl
@[go_sem] theorem okV_nilp:okV .nilp=true:=rfl
@[go_sem] theorem okV_nili:okV .nili=true:=rfl
@[go_sem] theorem okV_ptr (a b:Nat):okV (.ptr a b)=true:=rfl
@[go_sem] theorem okV_prow (a b c e:Nat):okV (.prow a b c e)=true:=rfl
@[go_sem] theorem okV_pim (cs:List D):okV (.pim cs)=true:=rfl
@[go_sem] theorem okV_own (a:Nat):okV (.own a)=true:=rfl
@[go_sem] theorem okV_ownv (a b c:Nat):okV (.ownv a b c)=true:=rfl
@[go_sem] theorem okV_agg (cs:List AV):okV (.agg cs)=Zte cs:=rfl
@[go_sem] theorem okV_tup0:okV (.tup [])=true:=rfl
@[go_sem] theorem ZBZ (sl:Sl) (a:COp) (k:Nat):seenSrc sl a (.own k)=Xm sl k (ZI a):=rfl
@[go_sem] theorem seenSrc_d (sl:Sl) (a:COp) (x:D):seenSrc sl a (.d x)=true:=rfl
@[go_sem] theorem ZB0 (sl:Sl) (a:COp):seenSrc sl a .nil=true:=rfl
@[go_sem] theorem ZA7 (sl:Sl) (a:COp) (x y z:Nat):seenSrc sl a (.ownv x y z)=true:=rfl
@[go_sem] theorem okV_iteV (b:Bool) (v:AV):okV (ZhZ b v)=(!b || okV v):=by cases b<;>simp[ZhZ,okV]
@[go_sem] theorem awayV_d (sl:Sl) (xs:List Opd) (x:D):ZcI sl xs (.d x)=true:=rfl
@[go_sem] theorem awayV_nil (sl:Sl) (xs:List Opd):ZcI sl xs .nil=true:=rfl
@[go_sem] theorem ZCy (sl:Sl) (xs:List Opd):ZcI sl xs .nilp=true:=rfl
@[go_sem] theorem awayV_ptr (sl:Sl) (xs:List Opd) (k o:Nat):ZcI sl xs (.ptr k o)=Xm sl k xs:=rfl
@[go_sem] theorem awayV_pim (sl:Sl) (xs:List Opd) (cs:List D):ZcI sl xs (.pim cs)=true:=rfl
@[go_sem] theorem awayV_own (sl:Sl) (xs:List Opd) (a:Nat):ZcI sl xs (.own a)=true:=rfl
@[go_sem] theorem ZCz (sl:Sl) (xs:List Opd) (a b c:Nat):ZcI sl xs (.ownv a b c)=true:=rfl
@[go_sem] theorem awayV_agg (sl:Sl) (xs:List Opd) (cs:List AV):ZcI sl xs (.agg cs)=true:=rfl
@[go_sem] theorem awayV_tup (sl:Sl) (xs:List Opd) (cs:List AV):ZcI sl xs (.tup cs)=true:=rfl
end Go.Abs.E
