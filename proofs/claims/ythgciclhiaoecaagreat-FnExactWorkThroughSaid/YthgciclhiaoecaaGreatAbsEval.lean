/- Own text. -/
import Derived.Test.YthgciclhiaoecaaGreatAbsRun
set_option linter.unusedVariables false
set_option linter.unusedSimpArgs false
namespace Go.Abs.E
open Go Go.Abs
abbrev _root_.Go.Abs.Opd.i (n:Int):Opd:=.v (.d (.int .i64 n))
abbrev _root_.Go.Abs.Opd.b (x:Bool):Opd:=.v (.d (.bool x))
def stW {α:Type} (x:Option α) (K:α→Prop):Prop:=match x with
 | some a=>K a
 | none=>False
def gW (x:Option Bool) (A B:Prop):Prop:=match x with
 | some b=>(b=true→A)∧(b=false→B)
 | none=>False
def W1 (v:AV) (A B:Prop):Prop:=match v with
 | .d (.bool t)=>(t=true→A)∧(t=false→B)
 | _=>False
theorem Wy {α:Type} (a:α) (K:α→Prop):stW (some a) K=K a:=rfl
theorem Zmc {α:Type} (K:α→Prop):stW none K=False:=rfl
theorem ZbK {α β:Type} (x:Option α) (f:α→Option β) (K:β→Prop):stW (bnd x f) K=stW x fun a=>stW (f a) K:=by cases x<;>rfl
@[go_sem] theorem ZyH (A B:Prop):gW (some true) A B=A:=by simp[gW]
@[go_sem] theorem gW_false (A B:Prop):gW (some false) A B=B:=by simp[gW]
@[go_sem] theorem gW_dec (p:Prop) [Decidable p] (A B:Prop):gW (some (decide p)) A B=((p→A)∧(¬p→B)):=by simp[gW]
@[go_sem] theorem gW_not (b:Bool) (A B:Prop):gW (some (!b)) A B=gW (some b) B A:=by cases b<;>simp[gW]
theorem gW_some (b:Bool) (A B:Prop):gW (some b) A B=((b=true→A)∧(b=false→B)):=rfl
@[go_sem] theorem ZDs (A B:Prop):W1 (.d (.bool true)) A B=A:=by simp[W1]
@[go_sem] theorem ZCZ (A B:Prop):W1 (.d (.bool false)) A B=B:=by simp[W1]
@[go_sem] theorem condW_dec (p:Prop) [Decidable p] (A B:Prop):W1 (.d (.bool (decide p))) A B=((p→A)∧(¬p→B)):=by simp[W1]
@[go_sem] theorem condW_not (b:Bool) (A B:Prop):W1 (.d (.bool (!b))) A B=W1 (.d (.bool b)) B A:=by cases b<;>simp[W1]
@[go_sem] theorem condW_and (a b:Bool) (A B:Prop):W1 (.d (.bool (a&&b))) A B=W1 (.d (.bool a)) (W1 (.d (.bool b)) A B) B:=by cases a<;>cases b<;>simp[W1]
@[go_sem] theorem condW_or (a b:Bool) (A B:Prop):W1 (.d (.bool (a || b))) A B=W1 (.d (.bool a)) A (W1 (.d (.bool b)) A B):=by cases a<;>cases b<;>simp[W1]
@[go_sem] theorem ZDt (b:Bool) (A B:Prop):W1 (.d (.bool b)) A B=((b=true→A)∧(b=false→B)):=rfl
@[congr] theorem gW_congr {x y:Option Bool} {A B:Prop} (h:x=y):gW x A B=gW y A B:=by rw[h]
@[congr] theorem ZC0 {v w:AV} {A B:Prop} (h:v=w):W1 v A B=W1 w A B:=by rw[h]
section
variable (X:Fns) (M:Zm)
noncomputable def Zd7 (nx:Nat):Nat→List CO→Sl→Hp→(Sl→Hp→Prop)→Prop
 | _,[],sl,hp,K=>K sl hp
 | i,o :: rest,sl,hp,K=>gW (ZY sl o.guard)
   (stW (YD (nx+64*i) o.dst sl hp (vop (Zd X M) M sl hp (nx+64*i) o.op)) fun r=>Zd7 nx (i+1) rest r.1 r.2 K)
   (Zd7 nx (i+1) rest (Zr sl o.dst (.tup [])) hp K)
def Zbz (nx i:Nat) (d:Option Nat) (rest:List CO) (sl:Sl) (hp:Hp) (K:Sl→Hp→Prop) (e:Option Zf):Prop:=
 stW (YD (nx+64*i) d sl hp e) fun r=>Zd7 X M nx (i+1) rest r.1 r.2 K
@[go_sem] theorem opsW_nil (nx i:Nat) (sl:Sl) (hp:Hp) (K:Sl→Hp→Prop):Zd7 X M nx i [] sl hp K=K sl hp:=rfl
@[go_sem] theorem opsW_cons (nx i:Nat) (d:Option Nat) (tl:Bool) (op:COp) (aa:List CO) (sl:Sl) (hp:Hp) (K:Sl→Hp→Prop) :
  Zd7 X M nx i (⟨d,none,op,tl⟩ :: aa) sl hp K=Zbz X M nx i d aa sl hp K (vop (Zd X M) M sl hp (nx+64*i) op):=by
 simp[Zd7,Zbz,ZY,ZyH]
def Zi0 (b:Bool) (v:AV):AV:=if b then v else .tup []
def JV (b:Bool) (nx i:Nat) (d:Option Nat) (rest:List CO) (sl:Sl) (hp:Hp) (K:Sl→Hp→Prop) (e:Option Zf):Prop:=
 gW (some b) (Zbz X M nx i d rest sl hp K e) (Zd7 X M nx (i+1) rest (Zr sl d (.tup [])) hp K)
def ZuL (g:Option Bool) (nx i:Nat) (d:Option Nat) (op:COp) (rest:List CO) (sl:Sl) (hp:Hp) (K:Sl→Hp→Prop):Prop:=
 gW g (Zbz X M nx i d rest sl hp K (vop (Zd X M) M sl hp (nx+64*i) op)) (Zd7 X M nx (i+1) rest (Zr sl d (.tup [])) hp K)
@[go_sem] theorem ZDu (nx i g:Nat) (w:Bool) (d:Option Nat) (tl:Bool) (op:COp) (aa:List CO) (sl:Sl) (hp:Hp) (K:Sl→Hp→Prop) :
  Zd7 X M nx i (⟨d,some (g,w),op,tl⟩ :: aa) sl hp K=ZuL X M (ZfM w (gs sl g)) nx i d op aa sl hp K:=rfl
@[go_sem] theorem ZC1 (b:Bool) (nx i:Nat) (d:Option Nat) (op:COp) (aa:List CO) (sl:Sl) (hp:Hp) (K:Sl→Hp→Prop) :
  ZuL X M (some b) nx i d op aa sl hp K=JV X M b nx i d aa sl hp K (vop (Zd X M) M sl hp (nx+64*i) op):=rfl
@[go_sem] theorem gA (nx i:Nat) (d:Option Nat) (aa:List CO) (sl:Sl) (hp:Hp) (K:Sl→Hp→Prop) (e:Option Zf) :
  JV X M true nx i d aa sl hp K e=Zbz X M nx i d aa sl hp K e:=by simp[JV,gW]
@[go_sem] theorem gB (nx i:Nat) (d:Option Nat) (aa:List CO) (sl:Sl) (hp:Hp) (K:Sl→Hp→Prop) (e:Option Zf) :
  JV X M false nx i d aa sl hp K e=Zd7 X M nx (i+1) aa (Zr sl d (.tup [])) hp K:=by simp[JV,gW]
@[go_sem] theorem ZuM (b:Bool) (nx i:Nat) (d:Option Nat) (aa:List CO) (sl:Sl) (hp:Hp) (K:Sl→Hp→Prop) (v:AV) :
  JV X M b nx i d aa sl hp K (QJ v)=Zd7 X M nx (i+1) aa (Zr sl d (Zi0 b v)) hp K:=by
 cases b
 ·simp[JV,gW,Zi0]
 ·simp only[JV,gW,Zi0,Km,true_implies,Kax,false_implies,and_true];rfl
@[go_sem] theorem ZC2 (b:Bool) (nx i:Nat) (d:Option Nat) (aa:List CO) (sl:Sl) (hp:Hp) (K:Sl→Hp→Prop) (v:AV) :
  JV X M b nx i d aa sl hp K (some { eff := { val:=v,adds:=[],sets:=[],dels:=[],frz:=[] },gone:=[] })=Zd7 X M nx (i+1) aa (Zr sl d (Zi0 b v)) hp K:=ZuM X M b nx i d aa sl hp K v
@[congr] theorem ZCu {g g' : Option Bool} {nx i:Nat} {d:Option Nat} {op:COp} {aa:List CO} {sl:Sl} {hp:Hp} {K:Sl→Hp→Prop} (h:g=g') :
  ZuL X M g nx i d op aa sl hp K=ZuL X M g' nx i d op aa sl hp K:=by rw[h]
@[congr] theorem ZCv {b b' : Bool} {nx i:Nat} {d:Option Nat} {aa:List CO} {sl:Sl} {hp:Hp} {K:Sl→Hp→Prop} {e e' : Option Zf} (hb:b=b') (h:b'=true→e=e') :
  JV X M b nx i d aa sl hp K e=JV X M b' nx i d aa sl hp K e':=by
 subst hb;cases b
 ·simp[JV,gW]
 ·rw[h rfl]
@[go_sem] theorem ZC3 (nx i:Nat) (d:Option Nat) (aa:List CO) (sl:Sl) (hp:Hp) (K:Sl→Hp→Prop) (v:AV) :
  Zbz X M nx i d aa sl hp K (QJ v)=Zd7 X M nx (i+1) aa (Zr sl d v) hp K:=rfl
@[go_sem] theorem ZDv (nx i:Nat) (d:Option Nat) (aa:List CO) (sl:Sl) (hp:Hp) (K:Sl→Hp→Prop) (v:AV) :
  Zbz X M nx i d aa sl hp K (some { eff := { val:=v,adds:=[],sets:=[],dels:=[],frz:=[] },gone:=[] })=Zd7 X M nx (i+1) aa (Zr sl d v) hp K:=rfl
@[go_sem] theorem ZDw (nx i:Nat) (d:Option Nat) (aa:List CO) (sl:Sl) (hp:Hp) (K:Sl→Hp→Prop) (e:Zf) :
  Zbz X M nx i d aa sl hp K (some e)=(QW (nx+64*i) (nx+64*i+64) e.eff.adds=true∧Zd7 X M nx (i+1) aa (Zr (Xa e.gone sl) d e.eff.val) (e.eff.on (V7 e.gone hp)) K):=by
 unfold Zbz YD;rw[Zg];split<;>rename_i h
 ·simp only[Wy,h,true_and];rfl
 ·simp only[Zmc,h,false_and,Ka]
@[go_sem] theorem ZDx (nx i:Nat) (d:Option Nat) (aa:List CO) (sl:Sl) (hp:Hp) (K:Sl→Hp→Prop):Zbz X M nx i d aa sl hp K none=False:=rfl
@[go_sem] theorem stepW_ite (nx i:Nat) (d:Option Nat) (aa:List CO) (sl:Sl) (hp:Hp) (K:Sl→Hp→Prop) (c:Prop) [Decidable c] (a b:Option Zf) :
  Zbz X M nx i d aa sl hp K (if c then a else b)=((c→Zbz X M nx i d aa sl hp K a)∧(¬c→Zbz X M nx i d aa sl hp K b)):=by
 by_cases h:c<;>simp[h]
noncomputable def VA (nx:Nat):Nat→Bool→List CO→Sl→Hp→(Sl→Hp→Prop)→Prop
 | _,_,[],sl,hp,K=>K sl hp
 | i,tail,o :: rest,sl,hp,K=>gW (ZY sl o.guard)
   (stW (YD (nx+64*i) o.dst sl hp (V9 (Zd X M) (YO M) nx i (CO.starts o) o.op sl hp)) fun r=>VA nx (i+1) tail rest r.1 r.2 K)
   (VA nx (i+1) tail rest (Zr sl o.dst (.tup [])) hp K)
def W3 (nx i:Nat) (t:Bool) (d:Option Nat) (rest:List CO) (sl:Sl) (hp:Hp) (K:Sl→Hp→Prop) (e:Option Zf):Prop:=
 stW (YD (nx+64*i) d sl hp (if t then e else Zc4 e)) fun r=>VA X M nx (i+1) false rest r.1 r.2 K
@[go_sem] theorem opsDW_nil (nx i:Nat) (t:Bool) (sl:Sl) (hp:Hp) (K:Sl→Hp→Prop):VA X M nx i t [] sl hp K=K sl hp:=rfl
@[go_sem] theorem ZDy (nx i:Nat) (d:Option Nat) (tl:Bool) (op:COp) (aa:List CO) (sl:Sl) (hp:Hp) (K:Sl→Hp→Prop) :
  VA X M nx i false (⟨d,none,op,tl⟩ :: aa) sl hp K=W3 X M nx i (ZiS op || tl) d aa sl hp K (vop (Zd X M) (YO M) sl hp (nx+64*i) op):=by
 simp[VA,W3,ZY,ZyH,V9,CO.starts]
def V2 (b:Bool) (nx i:Nat) (t:Bool) (d:Option Nat) (rest:List CO) (sl:Sl) (hp:Hp) (K:Sl→Hp→Prop) (e:Option Zf):Prop:=
 gW (some b) (W3 X M nx i t d rest sl hp K e) (VA X M nx (i+1) false rest (Zr sl d (.tup [])) hp K)
def Zpx (g:Option Bool) (nx i:Nat) (t:Bool) (d:Option Nat) (op:COp) (rest:List CO) (sl:Sl) (hp:Hp) (K:Sl→Hp→Prop):Prop:=
 gW g (W3 X M nx i t d rest sl hp K (vop (Zd X M) (YO M) sl hp (nx+64*i) op)) (VA X M nx (i+1) false rest (Zr sl d (.tup [])) hp K)
@[go_sem] theorem ZC4 (nx i g:Nat) (w:Bool) (d:Option Nat) (tl:Bool) (op:COp) (aa:List CO) (sl:Sl) (hp:Hp) (K:Sl→Hp→Prop) :
  VA X M nx i false (⟨d,some (g,w),op,tl⟩ :: aa) sl hp K=Zpx X M (ZfM w (gs sl g)) nx i (ZiS op || tl) d op aa sl hp K:=rfl
@[go_sem] theorem ZCw (b:Bool) (nx i:Nat) (t:Bool) (d:Option Nat) (op:COp) (aa:List CO) (sl:Sl) (hp:Hp) (K:Sl→Hp→Prop) :
  Zpx X M (some b) nx i t d op aa sl hp K=V2 X M b nx i t d aa sl hp K (vop (Zd X M) (YO M) sl hp (nx+64*i) op):=rfl
@[go_sem] theorem gC (nx i:Nat) (t:Bool) (d:Option Nat) (aa:List CO) (sl:Sl) (hp:Hp) (K:Sl→Hp→Prop) (e:Option Zf) :
  V2 X M true nx i t d aa sl hp K e=W3 X M nx i t d aa sl hp K e:=by simp[V2,gW]
@[go_sem] theorem gD (nx i:Nat) (t:Bool) (d:Option Nat) (aa:List CO) (sl:Sl) (hp:Hp) (K:Sl→Hp→Prop) (e:Option Zf) :
  V2 X M false nx i t d aa sl hp K e=VA X M nx (i+1) false aa (Zr sl d (.tup [])) hp K:=by simp[V2,gW]
@[go_sem] theorem ZsH (b:Bool) (nx i:Nat) (t:Bool) (d:Option Nat) (aa:List CO) (sl:Sl) (hp:Hp) (K:Sl→Hp→Prop) (v:AV) :
  V2 X M b nx i t d aa sl hp K (QJ v)=VA X M nx (i+1) false aa (Zr sl d (Zi0 b v)) hp K:=by
 cases b
 ·simp[V2,gW,Zi0]
 ·simp only[V2,gW,Zi0,Km,true_implies,Kax,false_implies,and_true];cases t<;>rfl
@[go_sem] theorem ZCx (b:Bool) (nx i:Nat) (t:Bool) (d:Option Nat) (aa:List CO) (sl:Sl) (hp:Hp) (K:Sl→Hp→Prop) (v:AV) :
  V2 X M b nx i t d aa sl hp K (some { eff := { val:=v,adds:=[],sets:=[],dels:=[],frz:=[] },gone:=[] })=VA X M nx (i+1) false aa (Zr sl d (Zi0 b v)) hp K:=ZsH X M b nx i t d aa sl hp K v
@[congr] theorem ZB9 {g g' : Option Bool} {nx i:Nat} {t t' : Bool} {d:Option Nat} {op:COp} {aa:List CO} {sl:Sl} {hp:Hp} {K:Sl→Hp→Prop} (h:g=g') (ht:t=t') :
  Zpx X M g nx i t d op aa sl hp K=Zpx X M g' nx i t' d op aa sl hp K:=by rw[h,ht]
@[congr] theorem ZCa {b b' : Bool} {nx i:Nat} {t:Bool} {d:Option Nat} {aa:List CO} {sl:Sl} {hp:Hp} {K:Sl→Hp→Prop} {e e' : Option Zf} (hb:b=b') (h:b'=true→e=e') :
  V2 X M b nx i t d aa sl hp K e=V2 X M b' nx i t d aa sl hp K e':=by
 subst hb;cases b
 ·simp[V2,gW]
 ·rw[h rfl]
@[go_sem] theorem ZCy (nx i:Nat) (t:Bool) (d:Option Nat) (aa:List CO) (sl:Sl) (hp:Hp) (K:Sl→Hp→Prop) (v:AV) :
  W3 X M nx i t d aa sl hp K (QJ v)=VA X M nx (i+1) false aa (Zr sl d v) hp K:=by cases t<;>rfl
@[go_sem] theorem ZC5 (nx i:Nat) (t:Bool) (d:Option Nat) (aa:List CO) (sl:Sl) (hp:Hp) (K:Sl→Hp→Prop) (v:AV) :
  W3 X M nx i t d aa sl hp K (some { eff := { val:=v,adds:=[],sets:=[],dels:=[],frz:=[] },gone:=[] })=VA X M nx (i+1) false aa (Zr sl d v) hp K:=by cases t<;>rfl
@[go_sem] theorem ZC6 (nx i:Nat) (t:Bool) (d:Option Nat) (aa:List CO) (sl:Sl) (hp:Hp) (K:Sl→Hp→Prop) (e:Zf) :
  W3 X M nx i t d aa sl hp K (some e)=((t=false→ZfQ e e.gone e.eff.sets e.eff.dels e.eff.frz=some e)∧QW (nx+64*i) (nx+64*i+64) e.eff.adds=true∧VA X M nx (i+1) false aa (Zr (Xa e.gone sl) d e.eff.val) (e.eff.on (V7 e.gone hp)) K):=by
 have ab:stW (YD (nx+64*i) d sl hp (some e)) (fun r=>VA X M nx (i+1) false aa r.1 r.2 K)=(QW (nx+64*i) (nx+64*i+64) e.eff.adds=true∧VA X M nx (i+1) false aa (Zr (Xa e.gone sl) d e.eff.val) (e.eff.on (V7 e.gone hp)) K):=by
  unfold YD;rw[Zg];split<;>rename_i h
  ·simp only[Wy,h,true_and];rfl
  ·simp only[Zmc,h,false_and,Ka]
 unfold W3;cases t with
 | true=>simp only[Km];rw[ab];simp
 | false=>
  simp only[Ka,Kk,Zc4,Zg,true_implies];unfold ZfQ;split
  ·rw[ab];simp
  ·simp[YD,bnd,stW]
@[go_sem] theorem ZC7 (nx i:Nat) (t:Bool) (d:Option Nat) (aa:List CO) (sl:Sl) (hp:Hp) (K:Sl→Hp→Prop):W3 X M nx i t d aa sl hp K none=False:=by cases t<;>rfl
@[go_sem] theorem ZDz (nx i:Nat) (t:Bool) (d:Option Nat) (aa:List CO) (sl:Sl) (hp:Hp) (K:Sl→Hp→Prop) (c:Prop) [Decidable c] (a b:Option Zf) :
  W3 X M nx i t d aa sl hp K (if c then a else b)=((c→W3 X M nx i t d aa sl hp K a)∧(¬c→W3 X M nx i t d aa sl hp K b)):=by
 by_cases h:c<;>simp[h]
@[go_sem] theorem quietC_ok (c:Zf):ZfQ c [] [] [] []=some c:=rfl
def W (c:ZU) (st:St) (Q:Ex→St→Prop):Prop:=stW (QK X M c st) fun r=>Q r.1 r.2
@[congr] theorem W_congr {c:ZU} {st aa : St} {Q:Ex→St→Prop} (h:st=aa):W X M c st Q=W X M c aa Q:=by rw[h]
@[congr] theorem ZDA {aa:List CO} {nx ab i i' : Nat} {sl sl' : Sl} {hp hp' : Hp} {K:Sl→Hp→Prop} (hn:nx=ab) (hi:i=i') (h:sl=sl') (h' : hp=hp') :
  Zd7 X M nx i aa sl hp K=Zd7 X M ab i' aa sl' hp' K:=by rw[h,h',hn,hi]
@[congr] theorem ZC8 {aa:List CO} {nx ab i i' : Nat} {t t' : Bool} {sl sl' : Sl} {hp hp' : Hp} {K:Sl→Hp→Prop} (hn:nx=ab) (hi:i=i') (ht:t=t') (h:sl=sl') (h' : hp=hp') :
  VA X M nx i t aa sl hp K=VA X M ab i' t' aa sl' hp' K:=by rw[h,h',ht,hn,hi]
@[congr] theorem ZC9 {aa:List CO} {nx i:Nat} {d:Option Nat} {sl:Sl} {hp:Hp} {K:Sl→Hp→Prop} {e e' : Option Zf} (h:e=e') :
  Zbz X M nx i d aa sl hp K e=Zbz X M nx i d aa sl hp K e':=by rw[h]
@[congr] theorem ZCz {aa:List CO} {nx i:Nat} {t t' : Bool} {d:Option Nat} {sl:Sl} {hp:Hp} {K:Sl→Hp→Prop} {e e' : Option Zf} (ht:t=t') (h:e=e') :
  W3 X M nx i t d aa sl hp K e=W3 X M nx i t' d aa sl hp K e':=by rw[h,ht]
theorem ZCA (nx:Nat) (K:Sl→Hp→Prop):∀ (l:List CO) (i:Nat) (sl:Sl) (hp:Hp),Zd7 X M nx i l sl hp K=stW (Zh8 (Zd X M) M nx i l sl hp) fun r=>K r.1 r.2:=by
 intro l
 induction l with
 | nil=>intro i sl hp;rfl
 | cons o rest ih=>
  intro i sl hp;simp only[Zd7,Zh8,ih,ZbK];cases ZY sl o.guard with
  | none=>rfl
  | some b=>cases b<;>simp[gW,ZbK,Wy]
theorem ZBf (nx:Nat) (K:Sl→Hp→Prop):∀ (l:List CO) (i:Nat) (t:Bool) (sl:Sl) (hp:Hp),VA X M nx i t l sl hp K=stW (Zah (Zd X M) (YO M) nx i t l sl hp) fun r=>K r.1 r.2:=by
 intro l
 induction l with
 | nil=>intro i t sl hp;rfl
 | cons o rest ih=>
  intro i t sl hp;simp only[VA,Zah,ih,ZbK];cases ZY sl o.guard with
  | none=>rfl
  | some b=>cases b<;>simp[gW,ZbK,Wy]
def ZzG (m nx:Nat) (Q:Ex→St→Prop) (sl:Sl) (hp:Hp):Prop:=Q .normal { sl:=sl,hp:=hp,nx:=nx,m:=m }
def Zwm (ops:List CO) (ps:List (Nat×Nat)) (K:Sl→Hp→Prop) (sl:Sl) (hp:Hp):Prop:=UG ops sl ps=true∧K sl hp
@[go_sem] theorem regQ_eq (m nx:Nat) (Q:Ex→St→Prop) (sl:Sl) (hp:Hp):ZzG m nx Q sl hp=Q .normal { sl:=sl,hp:=hp,nx:=nx,m:=m }:=rfl
@[go_sem] theorem seenQ_eq (ops:List CO) (ps:List (Nat×Nat)) (K:Sl→Hp→Prop) (sl:Sl) (hp:Hp):Zwm ops ps K sl hp=(UG ops sl ps=true∧K sl hp):=rfl
@[go_sem] theorem W_skip (st:St) (Q:Ex→St→Prop):W X M .skip st Q=Q .normal st:=by simp[W,Zx0,Wy]
@[go_sem] theorem W_ret (st:St) (Q:Ex→St→Prop):W X M .ret st Q=Q .ret st:=by simp[W,Zz1,Wy]
@[go_sem] theorem W_exit (id:Nat) (st:St) (Q:Ex→St→Prop):W X M (.exit id) st Q=Q (.exit id) st:=by simp[W,Zx1,Wy]
@[go_sem] theorem W_stuck (st:St) (Q:Ex→St→Prop):W X M .stuck st Q=False:=by
 have h:QK X M .stuck st=none:=Y8 fun n=>by simp only[ZH]
 simp only[W,h,Zmc]
@[go_sem] theorem W_region (n:Nat) (ops:List CO) (st:St) (Q:Ex→St→Prop) :
  W X M (.region n none ops) st Q=Zd7 X M st.nx 0 ops st.sl st.hp (ZzG st.m (st.nx+64*n) Q):=by
 rw[ZCA,W,Zu8,Zpq,ZbK];rfl
theorem ZBg (n:Nat) (ps:List (Nat×Nat)) (ops:List CO) (st:St) (Q:Ex→St→Prop) :
  W X M (.region n (some ps) ops) st Q=VA X M st.nx 0 false ops st.sl st.hp (Zwm ops ps (ZzG st.m (st.nx+64*n) Q)):=by
 rw[ZBf,W,Zx2,Zpq,ZbK,ZtM,ZbK];congr 1
 funext r
 by_cases h:UG ops r.1 ps=true<;>simp[h,Zwm,Wy,Zmc,ZzG]
@[go_sem] theorem W_draw0 (n:Nat) (ops:List CO) (st:St) (Q:Ex→St→Prop) :
  W X M (.region n (some []) ops) st Q=VA X M st.nx 0 false ops st.sl st.hp (ZzG st.m (st.nx+64*n) Q):=by
 rw[ZBg];congr 1
 funext sl hp
 simp[Zwm,UG]
@[go_sem] theorem W_drawc (n:Nat) (p:Nat×Nat) (ps:List (Nat×Nat)) (ops:List CO) (st:St) (Q:Ex→St→Prop) :
  W X M (.region n (some (p :: ps)) ops) st Q=VA X M st.nx 0 false ops st.sl st.hp (Zwm ops (p :: ps) (ZzG st.m (st.nx+64*n) Q)):=ZBg X M n _ ops st Q
def ZyI (c:ZU) (Q:Ex→St→Prop):Ex→St→Prop
 | .normal,st=>W X M c st Q
 | e,st=>Q e st
def blkQ (id:Nat) (Q:Ex→St→Prop):Ex→St→Prop
 | .exit j,st=>if j=id then Q .normal st else Q (.exit j) st
 | e,st=>Q e st
@[go_sem] theorem ZCB (c:ZU) (Q:Ex→St→Prop) (st:St):ZyI X M c Q .normal st=W X M c st Q:=rfl
@[go_sem] theorem thenQ_ret (c:ZU) (Q:Ex→St→Prop) (st:St):ZyI X M c Q .ret st=Q .ret st:=rfl
@[go_sem] theorem ZDB (c:ZU) (Q:Ex→St→Prop) (id:Nat) (st:St):ZyI X M c Q (.exit id) st=Q (.exit id) st:=rfl
@[go_sem] theorem ZDa (id:Nat) (Q:Ex→St→Prop) (st:St):blkQ id Q .normal st=Q .normal st:=rfl
@[go_sem] theorem blkQ_ret (id:Nat) (Q:Ex→St→Prop) (st:St):blkQ id Q .ret st=Q .ret st:=rfl
@[go_sem] theorem blkQ_exit (id j:Nat) (Q:Ex→St→Prop) (st:St):blkQ id Q (.exit j) st=if j=id then Q .normal st else Q (.exit j) st:=rfl
@[go_sem] theorem W_seq (a b:ZU) (st:St) (Q:Ex→St→Prop):W X M (.seq a b) st Q=W X M a st (ZyI X M b Q):=by
 unfold W;rw[Zz2];cases h:QK X M a st with
 | none=>rfl
 | some r=>obtain⟨e,aa⟩:=r;cases e<;>rfl
@[go_sem] theorem W_cond (c:Opd) (a b:ZU) (st:St) (Q:Ex→St→Prop) :
  W X M (.cond c a b) st Q=W1 (evO st.sl c) (W X M a st Q) (W X M b st Q):=by
 unfold W;rw[Zx3];cases h:evO st.sl c with
 | d x=>cases x with
  | bool t=>cases t<;>simp[Zkc,W1]
  | _=>rfl
 | _=>rfl
@[go_sem] theorem W_block (id:Nat) (c:ZU) (st:St) (Q:Ex→St→Prop):W X M (.block id c) st Q=W X M c st (blkQ id Q):=by
 unfold W;rw[ZwI];cases h:QK X M c st with
 | none=>rfl
 | some r=>
  obtain⟨e,aa⟩:=r;cases e with
  | exit j=>by_cases hj:j=id<;>simp[Zib,hj,Wy,blkQ]
  | normal=>rfl
  | ret=>rfl
def keepQ (K:List Nat) (Q:Ex→St→Prop) (e:Ex) (st:St):Prop:=Q e { sl:=only K st.sl,hp:=st.hp,nx:=st.nx,m:=st.m }
@[go_sem] theorem keepQ_eq (K:List Nat) (Q:Ex→St→Prop) (e:Ex) (st:St):keepQ K Q e st=Q e { sl:=only K st.sl,hp:=st.hp,nx:=st.nx,m:=st.m }:=rfl
@[go_sem] theorem W_keep (K:List Nat) (c:ZU) (st:St) (Q:Ex→St→Prop):W X M (.keep K c) st Q=W X M c st (keepQ K Q):=by
 unfold W;rw[Zx4];cases h:QK X M c st with
 | none=>rfl
 | some r=>rfl
def shutQ (id nm:Nat) (Q:Ex→St→Prop) (e:Ex) (st:St):Prop:=Q e { sl:=st.sl,hp:=ZzZ st.hp (ZoO st.hp id nm (lkp st.hp id)),nx:=st.nx,m:=st.m }
@[go_sem] theorem shutQ_eq (id nm:Nat) (Q:Ex→St→Prop) (e:Ex) (st:St):shutQ id nm Q e st=Q e { sl:=st.sl,hp:=ZzZ st.hp (ZoO st.hp id nm (lkp st.hp id)),nx:=st.nx,m:=st.m }:=rfl
def Zrh (c:ZU) (Q:Ex→St→Prop) (r:Option St):Prop:=stW r fun st=>W X M c st Q
@[go_sem] theorem ZDC (c:ZU) (Q:Ex→St→Prop) (st:St):Zrh X M c Q (some st)=W X M c st Q:=rfl
@[go_sem] theorem ZDD (c:ZU) (Q:Ex→St→Prop):Zrh X M c Q none=False:=rfl
@[go_sem] theorem linkW_ite (c:ZU) (Q:Ex→St→Prop) (p:Prop) [Decidable p] (a b:Option St):Zrh X M c Q (if p then a else b)=((p→Zrh X M c Q a)∧(¬p→Zrh X M c Q b)):=by
 by_cases h:p<;>simp[h]
@[go_sem] theorem W_link (fl:Bool) (id:Nat) (i:Opd) (j:Nat) (c:ZU) (st:St) (Q:Ex→St→Prop):W X M (.link fl id i j c) st Q=Zrh X M c (shutQ id st.nx Q) (ZfR fl id i j st):=by
 unfold W Zrh;rw[Zx5];cases h:ZfR fl id i j st with
 | none=>rfl
 | some st1=>
  simp only[Zg,Wy,W];cases h1:QK X M c st1 with
  | none=>rfl
  | some q=>rfl
@[go_sem] theorem W_melt (c:ZU) (st:St) (Q:Ex→St→Prop):W X M (.melt c) st Q=W X M c { sl:=st.sl,hp:=Znb Zml st.hp,nx:=st.nx,m:=st.m } Q:=by
 unfold W;rw[Zx6];rfl
def LW (c:ZU) (K:List Nat) (st:St) (Q:Ex→St→Prop):Prop:=stW (Zid X M c K st) fun r=>Q r.1 r.2
@[congr] theorem LW_congr {c:ZU} {K K' : List Nat} {st aa : St} {Q:Ex→St→Prop} (hk:K=K') (h:st=aa):LW X M c K st Q=LW X M c K' aa Q:=by rw[h,hk]
@[go_sem] theorem W_loop (c:ZU) (st:St) (Q:Ex→St→Prop):W X M (.loop c) st Q=LW X M c (Zbu st.sl) st Q:=by
 unfold W LW;rw[Zx7]
def Zri (c:ZU) (K:List Nat) (Q:Ex→St→Prop):Ex→St→Prop
 | .normal,st=>LW X M c K st Q
 | e,st=>Q e st
@[go_sem] theorem ZCC (c:ZU) (K:List Nat) (Q:Ex→St→Prop) (st:St):Zri X M c K Q .normal st=LW X M c K st Q:=rfl
@[go_sem] theorem nextQ_ret (c:ZU) (K:List Nat) (Q:Ex→St→Prop) (st:St):Zri X M c K Q .ret st=Q .ret st:=rfl
@[go_sem] theorem ZDE (c:ZU) (K:List Nat) (Q:Ex→St→Prop) (id:Nat) (st:St):Zri X M c K Q (.exit id) st=Q (.exit id) st:=rfl
theorem ZP {c:ZU} {K:List Nat} {st:St} {Q:Ex→St→Prop} (h:W X M c (U4 K st) (Zri X M c K Q)):LW X M c K st Q:=by
 unfold W at h;cases hv:QK X M c (U4 K st) with
 | none=>rw[hv] at h;exact h.elim
 | some r=>
  rw[hv] at h;obtain⟨e,aa⟩:=r;unfold LW;cases e with
  | normal=>rw[ZwJ X M hv];exact h
  | exit id=>rw[ZrO X M (by simp) hv];exact h
  | ret=>rw[ZrO X M (by simp) hv];exact h
def ZsI (sl:Sl):Sl→Sl
 | []=>sl
 | (k,v) :: r=>ZsI (ins sl k v) r
def Zj8 (hp:Hp):Hp→Hp
 | []=>hp
 | (k,o) :: r=>Zj8 (ins hp k o) r
theorem LW_ind {α:Type} (S:α→St) (I:α→Prop) (μ:α→Nat) {c:ZU} {K:List Nat} {Q:Ex→St→Prop}
  (step:∀ a,I a→(∀ b st,I b→μ b<μ a→U4 K st=S b→LW X M c K st Q)→W X M c (S a) (Zri X M c K Q)) :
  ∀ a st,I a→U4 K st=S a→LW X M c K st Q:=by
 have aa:∀ n a st,μ a=n→I a→U4 K st=S a→LW X M c K st Q:=by
  intro n
  induction n using Nat.strongRecOn with
  | ind n ih=>
   intro a st hn ha hs;refine ZP X M ?_;rw[hs];exact step a ha fun b ab hb ae ad=>ih (μ b) (by omega) b ab rfl hb ad
 exact fun a st ha hs=>aa _ a st rfl ha hs
theorem Qw {α:Type} (u:α→Sl) (uh:α→Hp) (I:α→Prop) (μ:α→Nat) (a:α) {c:ZU} {K:List Nat} {Q:Ex→St→Prop} {st st0:St}
  (hc:U4 K st=st0) (ha:I a) (h0:(⟨ZsI st0.sl (u a),Zj8 st0.hp (uh a),st0.nx,st0.m⟩:St)=st0)
  (step:∀ a,I a→(∀ b st,I b→μ b<μ a→U4 K st=⟨ZsI st0.sl (u b),Zj8 st0.hp (uh b),st0.nx,st0.m⟩→LW X M c K st Q)→W X M c ⟨ZsI st0.sl (u a),Zj8 st0.hp (uh a),st0.nx,st0.m⟩ (Zri X M c K Q)) :
  LW X M c K st Q:=
 LW_ind X M (fun a=>⟨ZsI st0.sl (u a),Zj8 st0.hp (uh a),st0.nx,st0.m⟩) I μ step a st ha (hc.trans h0.symm)
def ZuN (m:Nat) (rs:List ZsL) (R:AV×List Zn→Prop):Ex→St→Prop:=fun e st=>stW (Zeh m rs (some (e,st))) R
def resW (m:Nat) (hp:Hp) (R:AV×List Zn→Prop) (vs:Option (List AV)):Prop:=stW vs fun vs=>R (WE m hp (Zc5 vs))
@[go_sem] theorem resW_some (m:Nat) (hp:Hp) (R:AV×List Zn→Prop) (vs:List AV):resW m hp R (some vs)=R (WE m hp (Zc5 vs)):=rfl
@[go_sem] theorem resW_none (m:Nat) (hp:Hp) (R:AV×List Zn→Prop):resW m hp R none=False:=rfl
@[go_sem] theorem endQ_ret (m:Nat) (rs:List ZsL) (R:AV×List Zn→Prop) (st:St):ZuN m rs R .ret st=resW m st.hp R (Qy (ZrM st) rs):=by
 simp only[ZuN,Zeh,ZbK];rfl
@[go_sem] theorem ZDb (m:Nat) (rs:List ZsL) (R:AV×List Zn→Prop) (st:St):ZuN m rs R .normal st=resW m st.hp R (Qy (ZrM st) rs):=by
 simp only[ZuN,Zeh,ZbK];rfl
theorem ZBh {f:Nat} {as:List AV} {h:List Zn} (fn:Zp) {R:AV×List Zn→Prop} (hx:X f=some (.text fn)) (hl:as.length≤fn.nt)
  (hr:W X M fn.body { sl:=V8 0 as,hp:=WD 0 h,nx:=h.length,m:=h.length } (ZuN h.length fn.res R)):∃ r,Zd X M f as h=some r∧R r:=by
 unfold W at hr;cases hv:QK X M fn.body { sl:=V8 0 as,hp:=WD 0 h,nx:=h.length,m:=h.length } with
 | none=>rw[hv] at hr;exact hr.elim
 | some q=>
  rw[hv] at hr;obtain⟨e,st⟩:=q;simp only[Wy,ZuN] at hr;cases hk:Zeh h.length fn.res (some (e,st)) with
  | none=>rw[hk] at hr;exact hr.elim
  | some r=>rw[hk] at hr;exact⟨r,ZBw X M hx hl (by rw[hv];exact hk),hr⟩
theorem callE {f:Nat} {as:List AV} {h:List Zn} (fn:Zp) {r:AV×List Zn} (hx:X f=some (.text fn)) (hl:as.length≤fn.nt)
  (hr:W X M fn.body { sl:=V8 0 as,hp:=WD 0 h,nx:=h.length,m:=h.length } (ZuN h.length fn.res fun q=>q=r)):Zd X M f as h=some r:=by
 obtain⟨q,hq,rfl⟩:=ZBh X M fn hx hl hr;exact hq
end
@[go_sem] theorem vopE_move (C:Orc) (M:Zm) (sl:Sl) (hp:Hp) (base:Nat) (x:Opd):vop C M sl hp base (.move x)=QJ (evO sl x):=by simp only[vop]
@[go_sem] theorem ZDc (C:Orc) (M:Zm) (sl:Sl) (hp:Hp) (base:Nat) (s:Option Nat) (x:Opd):vop C M sl hp base (.assign s x)=ZfG base s (evO sl x):=by simp only[vop]
@[go_sem] theorem vopE_pick (C:Orc) (M:Zm) (sl:Sl) (hp:Hp) (base:Nat) (c a b:Opd):vop C M sl hp base (.pick c a b)=Zh4 (evO sl a) (evO sl b) (evO sl c):=by simp only[vop]
@[go_sem] theorem ZDF (C:Orc) (M:Zm) (sl:Sl) (hp:Hp) (base:Nat) (slc:List (Option Nat)) (cs:List AV):vop C M sl hp base (.alloc slc cs)=Zh5 slc base cs:=by simp only[vop]
@[go_sem] theorem vopE_box (C:Orc) (M:Zm) (sl:Sl) (hp:Hp) (base:Nat) (x:Opd):vop C M sl hp base (.box x)=ZzP base (evO sl x):=by simp only[vop]
@[go_sem] theorem ZDG (C:Orc) (M:Zm) (sl:Sl) (hp:Hp) (base:Nat) (zs:List AV) (ps:List (Nat×Nat×Opd)):vop C M sl hp base (.build zs ps)=Zrq zs (evP sl ps):=by simp only[vop]
@[go_sem] theorem ZCD (C:Orc) (M:Zm) (sl:Sl) (hp:Hp) (base:Nat) (s:Nat) (xs:List Opd):vop C M sl hp base (.buildSl s xs)=buildSl hp base s (evL sl xs):=by simp only[vop]
@[go_sem] theorem vopE_load (C:Orc) (M:Zm) (sl:Sl) (hp:Hp) (base:Nat) (g:Bool) (s:Nat) (a:Opd):vop C M sl hp base (.load g s a)=VY (Uu hp g s (evO sl a)):=by simp only[vop]
@[go_sem] theorem ZDH (C:Orc) (M:Zm) (sl:Sl) (hp:Hp) (base:Nat) (slc:List (Option Nat)) (s:Nat) (a x:Opd):vop C M sl hp base (.store slc s a x)=ZgE (Zbr hp slc s base (evO sl x).cells (evO sl a)):=by simp only[vop]
@[go_sem] theorem ZCb (C:Orc) (M:Zm) (sl:Sl) (hp:Hp) (base:Nat) (x:Opd):vop C M sl hp base (.nilCheck x)=ZaB (evO sl x):=by simp only[vop]
@[go_sem] theorem vopE_bin (C:Orc) (M:Zm) (sl:Sl) (hp:Hp) (base:Nat) (op:BinOp) (eq:Bool) (x y:Opd):vop C M sl hp base (.bin op eq x y)=Znu op eq (evO sl x) (evO sl y):=by simp only[vop]
@[go_sem] theorem vopE_un (C:Orc) (M:Zm) (sl:Sl) (hp:Hp) (base:Nat) (op:UnOp) (x:Opd):vop C M sl hp base (.un op x)=VY (vun op (evO sl x)):=by simp only[vop]
@[go_sem] theorem vopE_eqA (C:Orc) (M:Zm) (sl:Sl) (hp:Hp) (base:Nat) (neg:Bool) (ks:List Nat) (x y:Opd):vop C M sl hp base (.eqA neg ks x y)=ZuT neg ks (evO sl x) (evO sl y):=by simp only[vop]
@[go_sem] theorem ZDI (C:Orc) (M:Zm) (sl:Sl) (hp:Hp) (base:Nat) (k:IntKind) (x:Opd):vop C M sl hp base (.convI k x)=convI k (evO sl x):=by simp only[vop]
@[go_sem] theorem ZDJ (C:Orc) (M:Zm) (sl:Sl) (hp:Hp) (base:Nat) (x:Opd):vop C M sl hp base (.convS x)=convS (evO sl x):=by simp only[vop]
@[go_sem] theorem vopE_fn (C:Orc) (M:Zm) (sl:Sl) (hp:Hp) (base:Nat) (f:Nat) (cs:List Opd):vop C M sl hp base (.fn f cs)=VY (cloV f (evL sl cs)):=by simp only[vop]
@[go_sem] theorem vopE_make (C:Orc) (M:Zm) (sl:Sl) (hp:Hp) (base:Nat) (s b:Nat) (z:D) (l c:Opd):vop C M sl hp base (.make s b z l c)=bnd (idx (evO sl l)) fun l=>bnd (idx (evO sl c)) fun c=>ZtI base s b z l c:=by simp only[vop]
@[go_sem] theorem ZDK (C:Orc) (M:Zm) (sl:Sl) (hp:Hp) (base:Nat) (s:Nat) (x:Opd) (lo hi:Option Opd):vop C M sl hp base (.slice s x lo hi)=VY (VX hp s (evM sl lo) (evM sl hi) (evO sl x)):=by simp only[vop]
@[go_sem] theorem ZDd (C:Orc) (M:Zm) (sl:Sl) (hp:Hp) (base:Nat) (x:Opd) (lo hi:Option Opd):vop C M sl hp base (.sliceS x lo hi)=VY (sliceS (evM sl lo) (evM sl hi) (evO sl x)):=by simp only[vop]
@[go_sem] theorem ZDe (C:Orc) (M:Zm) (sl:Sl) (hp:Hp) (base:Nat) (x hi mx:Opd):vop C M sl hp base (.slice0 x hi mx)=VY (slice0 hp (evO sl x) (idx (evO sl hi)) (idx (evO sl mx))):=by simp only[vop]
@[go_sem] theorem ZDL (C:Orc) (M:Zm) (sl:Sl) (hp:Hp) (base:Nat) (off:Nat) (x:Opd):vop C M sl hp base (.shift off x)=WB off (evO sl x):=by simp only[vop]
@[go_sem] theorem vopE_part (C:Orc) (M:Zm) (sl:Sl) (hp:Hp) (base:Nat) (g:Bool) (s off:Nat) (x:Opd):vop C M sl hp base (.part g s off x)=VY (Zmk g s off (evO sl x)):=by simp only[vop]
@[go_sem] theorem vopE_iaS (C:Orc) (M:Zm) (sl:Sl) (hp:Hp) (base:Nat) (s:Nat) (x i:Opd):vop C M sl hp base (.iaS s x i)=bnd (idx (evO sl i)) fun n=>Zkb hp s (evO sl x) n:=by simp only[vop]
@[go_sem] theorem vopE_iaA (C:Orc) (M:Zm) (sl:Sl) (hp:Hp) (base:Nat) (len s:Nat) (x i:Opd):vop C M sl hp base (.iaA len s x i)=bnd (idx (evO sl i)) fun n=>Zrs (evO sl x) n len s:=by simp only[vop]
@[go_sem] theorem vopE_ixS (C:Orc) (M:Zm) (sl:Sl) (hp:Hp) (base:Nat) (x i:Opd):vop C M sl hp base (.ixS x i)=bnd (idx (evO sl i)) fun n=>ZxJ n (evO sl x):=by simp only[vop]
@[go_sem] theorem vopE_ixA (C:Orc) (M:Zm) (sl:Sl) (hp:Hp) (base:Nat) (g:Bool) (s len:Nat) (x i:Opd):vop C M sl hp base (.ixA g s len x i)=bnd (idx (evO sl i)) fun n=>ZzR g s len n (evO sl x):=by simp only[vop]
@[go_sem] theorem vopE_nth (C:Orc) (M:Zm) (sl:Sl) (hp:Hp) (base:Nat) (i:Nat) (x:Opd):vop C M sl hp base (.nth i x)=Zwy i (evO sl x):=by simp only[vop]
@[go_sem] theorem vopE_len (C:Orc) (M:Zm) (sl:Sl) (hp:Hp) (base:Nat) (x:Opd):vop C M sl hp base (.len x)=bnd (Zd6 hp (evO sl x)) fun n=>QJ (.d (.int .i64 n)):=by simp only[vop]
@[go_sem] theorem vopE_lenS (C:Orc) (M:Zm) (sl:Sl) (hp:Hp) (base:Nat) (x:Opd):vop C M sl hp base (.lenS x)=bnd (Zzf (evO sl x)) fun n=>QJ (.d (.int .i64 n)):=by simp only[vop]
@[go_sem] theorem ZDf (C:Orc) (M:Zm) (sl:Sl) (hp:Hp) (base:Nat) (s b:Nat) (str flat:Bool) (x y:Opd):vop C M sl hp base (.append s b str flat x y)=Zwz hp s b str flat base (evO sl x) (evO sl y):=by simp only[vop]
@[go_sem] theorem vopE_min (C:Orc) (M:Zm) (sl:Sl) (hp:Hp) (base:Nat) (x y:Opd):vop C M sl hp base (.min x y)=ZoJ (evO sl x) (evO sl y):=by simp only[vop]
@[go_sem] theorem vopE_max (C:Orc) (M:Zm) (sl:Sl) (hp:Hp) (base:Nat) (x y:Opd):vop C M sl hp base (.max x y)=ZoK (evO sl x) (evO sl y):=by simp only[vop]
@[go_sem] theorem vopE_call (C:Orc) (M:Zm) (sl:Sl) (hp:Hp) (base:Nat) (f:Opd) (as:List Opd):vop C M sl hp base (.call f as)=Zec C M hp base (evL sl as) (evO sl f):=by simp only[vop]
@[go_sem] theorem ZDg (C:Orc) (M:Zm) (sl:Sl) (hp:Hp) (base:Nat) (s:Nat) (x lo hi mx:Opd):vop C M sl hp base (.slice3 s x lo hi mx)=VY (slice3 hp (evO sl x) (idx (evO sl lo)) (idx (evO sl hi)) (idx (evO sl mx))):=by simp only[vop]
@[go_sem] theorem ZDM (C:Orc) (M:Zm) (sl:Sl) (hp:Hp) (base:Nat) (s:Nat) (z:D) (x:Opd):vop C M sl hp base (.clear s z x)=ZgE (ZfC hp s z (evO sl x)):=by simp only[vop]
@[go_sem] theorem ZDh (C:Orc) (M:Zm) (sl:Sl) (hp:Hp) (base:Nat) (s n:Nat) (xs:List Opd):vop C M sl hp base (.buildT s n xs)=buildT hp base s n (evL sl xs):=by simp only[vop]
@[go_sem] theorem vopE_appT (C:Orc) (M:Zm) (sl:Sl) (hp:Hp) (base:Nat) (s b:Nat) (f:Bool) (x y:Opd):vop C M sl hp base (.appT s b f x y)=appT hp s b base (evO sl x) (evO sl y):=by simp only[vop]
@[go_sem] theorem vopE_asgT (C:Orc) (M:Zm) (sl:Sl) (hp:Hp) (base:Nat) (s n:Nat) (x:Opd):vop C M sl hp base (.asgT s n x)=asgT base s n (evO sl x):=by simp only[vop]
@[go_sem] theorem ZDN (C:Orc) (M:Zm) (sl:Sl) (hp:Hp) (base:Nat) (s b n:Nat) (z:D) (l c:Opd):vop C M sl hp base (.makeT s b n z l c)=bnd (idx (evO sl l)) fun l=>bnd (idx (evO sl c)) fun c=>makeT base s b n z l c:=by simp only[vop]
@[go_sem] theorem ZDO (C:Orc) (M:Zm) (sl:Sl) (hp:Hp) (base:Nat):vop C M sl hp base .stuck=none:=by simp only[vop]
@[go_sem] theorem ZzH (hp:Hp) (n:Nat) (aa:List Nat):QZ hp n [] aa=aa:=by cases n<;>rfl
@[go_sem] theorem tidy_d (hp:Hp) (ids:List Nat) (x:D):ZeM hp ids (.d x)=.d x:=rfl
@[go_sem] theorem tidy_nil (hp:Hp) (ids:List Nat):ZeM hp ids .nil=.nil:=rfl
@[go_sem] theorem tidy_junk (hp:Hp) (ids:List Nat):ZeM hp ids .junk=.junk:=rfl
@[go_sem] theorem tidy_tup (hp:Hp) (ids:List Nat) (vs:List AV):ZeM hp ids (.tup vs)=ren (V4 ids) (kill (Zh9 hp ids (Zw (.tup vs))) (.tup vs)):=rfl
@[go_sem] theorem tidy_agg (hp:Hp) (ids:List Nat) (vs:List AV):ZeM hp ids (.agg vs)=ren (V4 ids) (kill (Zh9 hp ids (Zw (.agg vs))) (.agg vs)):=rfl
@[go_sem] theorem tidy_clo (hp:Hp) (ids:List Nat) (f:Nat) (vs:List AV):ZeM hp ids (.clo f vs)=ren (V4 ids) (kill (Zh9 hp ids (Zw (.clo f vs))) (.clo f vs)):=rfl
@[go_sem] theorem tidy_nilp (hp:Hp) (ids:List Nat):ZeM hp ids .nilp=.nilp:=rfl
@[go_sem] theorem tidy_nili (hp:Hp) (ids:List Nat):ZeM hp ids .nili=.nili:=rfl
@[go_sem] theorem tidy_pim (hp:Hp) (ids:List Nat) (cs:List D):ZeM hp ids (.pim cs)=.pim cs:=rfl
@[go_sem] theorem tidy_ptr (hp:Hp) (ids:List Nat) (id o:Nat):ZeM hp ids (.ptr id o)=if Zeg hp ids id=true then .ptr (V4 ids id) o else .junk:=by
 simp only[ZeM,Zw,Zy,Zl,Zh9];split<;>simp[kill,ZS,Qd,ren,Zex,Zfs]
@[go_sem] theorem tidy_prow (hp:Hp) (ids:List Nat) (id s i o:Nat):ZeM hp ids (.prow id s i o)=if Zeg hp ids id=true then .prow (V4 ids id) s i o else .junk:=by
 simp only[ZeM,Zw,Zy,Zl,Zh9];split<;>simp[kill,ZS,Qd,ren,Zex,Zfs]
@[go_sem] theorem tidy_own (hp:Hp) (ids:List Nat) (id:Nat):ZeM hp ids (.own id)=if Zeg hp ids id=true then .own (V4 ids id) else .junk:=by
 simp only[ZeM,Zw,Zy,Zl,Zh9];split<;>simp[kill,ZS,Qd,ren,Zex,Zfs]
@[go_sem] theorem tidy_ownv (hp:Hp) (ids:List Nat) (id a b:Nat):ZeM hp ids (.ownv id a b)=if Zeg hp ids id=true then .ownv (V4 ids id) a b else .junk:=by
 simp only[ZeM,Zw,Zy,Zl,Zh9];split<;>simp[kill,ZS,Qd,ren,Zex,Zfs]
@[go_sem] theorem ZDP (hp:Hp) (x:D):WE 0 hp (.d x)=(.d x,[]):=by
 simp[WE,Zw,Zy,Zl,WX,ZzH,tidy_d,Zd9]
@[go_sem] theorem minI_eq (a b:Int):minI a b=min a b:=by unfold minI;split<;>omega
@[go_sem] theorem maxI_eq (a b:Int):maxI a b=max a b:=by unfold maxI;split<;>omega
@[go_sem] theorem negIf_f (r:Bool):Zrr false r=r:=rfl
@[go_sem] theorem negIf_t (r:Bool):Zrr true r=!r:=rfl
@[go_sem] theorem opt1_some (v:AV):VY (some v)=QJ v:=rfl
@[go_sem] theorem opt1_none:VY none=none:=rfl
@[go_sem] theorem vbin_int (op:BinOp) (k k' : IntKind) (a b:Int):vbin op (.d (.int k a)) (.d (.int k' b))=Zaw op k k' a b:=rfl
@[go_sem] theorem binV_int (op:BinOp) (eq:Bool) (k k' : IntKind) (a b:Int):Znu op eq (.d (.int k a)) (.d (.int k' b))=VY (Zaw op k k' a b):=rfl
@[go_sem] theorem binV_str (op:BinOp) (eq:Bool) (a b:List UInt8):Znu op eq (.d (.str a)) (.d (.str b))=VY (asD (ZvR op a b)):=rfl
@[go_sem] theorem int2_add (k:IntKind) (a b:Int):Zaw .add k k a b=some (.d (.int k (k.wrap (a+b)))):=by simp[Zaw,UI,asD,Zg]
@[go_sem] theorem int2_sub (k:IntKind) (a b:Int):Zaw .sub k k a b=some (.d (.int k (k.wrap (a-b)))):=by simp[Zaw,UI,asD,Zg]
@[go_sem] theorem int2_mul (k:IntKind) (a b:Int):Zaw .mul k k a b=some (.d (.int k (k.wrap (a*b)))):=by simp[Zaw,UI,asD,Zg]
@[go_sem] theorem int2_quo (k:IntKind) (a b:Int):Zaw .quo k k a b=if b=0 then none else some (.d (.int k (k.wrap (a.tdiv b)))):=by simp only[Zaw,UI,asD,if_true];split<;>rfl
@[go_sem] theorem int2_rem (k:IntKind) (a b:Int):Zaw .rem k k a b=if b=0 then none else some (.d (.int k (a.tmod b))):=by simp only[Zaw,UI,asD,if_true];split<;>rfl
@[go_sem] theorem int2_eql (k:IntKind) (a b:Int):Zaw .eql k k a b=some (.d (.bool (decide (a=b)))):=by simp[Zaw,UI,asD,Zg,BEq.beq]
@[go_sem] theorem int2_neq (k:IntKind) (a b:Int):Zaw .neq k k a b=some (.d (.bool (!decide (a=b)))):=by simp[Zaw,UI,asD,Zg,bne,BEq.beq]
@[go_sem] theorem int2_lss (k:IntKind) (a b:Int):Zaw .lss k k a b=some (.d (.bool (decide (a<b)))):=by simp[Zaw,UI,asD,Zg]
@[go_sem] theorem int2_leq (k:IntKind) (a b:Int):Zaw .leq k k a b=some (.d (.bool (decide (a≤b)))):=by simp[Zaw,UI,asD,Zg]
@[go_sem] theorem int2_gtr (k:IntKind) (a b:Int):Zaw .gtr k k a b=some (.d (.bool (decide (b<a)))):=by simp[Zaw,UI,asD,Zg]
@[go_sem] theorem int2_geq (k:IntKind) (a b:Int):Zaw .geq k k a b=some (.d (.bool (decide (b≤a)))):=by simp[Zaw,UI,asD,Zg]
@[go_sem] theorem guardV_t (b:Bool):ZfM true (.d (.bool b))=some b:=by cases b<;>rfl
def nb (b:Bool):Bool:=!b
@[go_sem] theorem nb_true:nb true=false:=rfl
@[go_sem] theorem nb_false:nb false=true:=rfl
@[go_sem] theorem nb_eq (b:Bool):(nb b=true)=(b=false):=by cases b<;>simp[nb]
@[go_sem] theorem guardV_f (b:Bool):ZfM false (.d (.bool b))=some (nb b):=by cases b<;>rfl
@[go_sem] theorem ZDQ (w:Bool):ZfM w (.tup [])=some false:=rfl
@[go_sem] theorem ZCE (a b:Bool):ZfM true (Zi0 a (.d (.bool b)))=some (a&&b):=by cases a<;>cases b<;>rfl
@[go_sem] theorem ZCF (a b:Bool):ZfM false (Zi0 a (.d (.bool b)))=some (a&&nb b):=by cases a<;>cases b<;>rfl
@[go_sem] theorem iteV_true (v:AV):Zi0 true v=v:=rfl
@[go_sem] theorem ZDR (v:AV):Zi0 false v=.tup []:=rfl
@[go_sem] theorem ZDS (a b:AV):Zh4 a b (.d (.bool true))=QJ a:=rfl
@[go_sem] theorem ZDi (a b:AV):Zh4 a b (.d (.bool false))=QJ b:=rfl
@[go_sem] theorem pickV_or (b c:Bool):Zh4 (.d (.bool true)) (Zi0 (nb b) (.d (.bool c))) (.d (.bool b))=QJ (.d (.bool (b || c))):=by cases b<;>rfl
@[go_sem] theorem pickV_and (b c:Bool):Zh4 (Zi0 b (.d (.bool c))) (.d (.bool false)) (.d (.bool b))=QJ (.d (.bool (b&&c))):=by cases b<;>rfl
theorem ZDT (a b:AV) (t:Bool):Zh4 a b (.d (.bool t))=if t=true then QJ a else QJ b:=by cases t<;>rfl
@[go_sem] theorem dec_or (p q:Prop) [Decidable p] [Decidable q]:(decide p || decide q)=decide (p∨q):=by simp
@[go_sem] theorem dec_and (p q:Prop) [Decidable p] [Decidable q]:(decide p&&decide q)=decide (p∧q):=by simp
@[go_sem] theorem dec_not (p:Prop) [Decidable p]:(!decide p)=decide (¬p):=by simp
attribute [go_sem] Bool.or_eq_false_iff decide_eq_true_eq decide_eq_false_iff_not Bool.and_eq_true Bool.or_eq_true Bool.not_eq_true' Bool.not_eq_false' not_or Decidable.not_not
@[go_sem] theorem evO_t (sl:Sl) (n:Nat):evO sl (.t n)=gs sl n:=rfl
@[go_sem] theorem evO_v (sl:Sl) (a:AV):evO sl (.v a)=a:=rfl
@[go_sem] theorem evO_f (sl:Sl) (n:Nat):evO sl (.f n)=.clo n []:=rfl
@[go_sem] theorem gs_hit (k:Nat) (v:AV) (r:Sl):gs ((k,v) :: r) k=v:=by simp[gs,lkp,Zd4]
@[go_sem] theorem gs_cons (k t:Nat) (v:AV) (r:Sl):gs ((k,v) :: r) t=if k=t then v else gs r t:=by
 by_cases h:k=t<;>simp[gs,lkp,h,Zd4]
@[go_sem] theorem gs_nil (t:Nat):gs [] t=.junk:=rfl
attribute [go_sem] Zfq.eq_1 Zfq.eq_2
attribute [go_sem] JR.eq_1 JR.eq_2 JR.eq_3 JR.eq_4
attribute [go_sem] ZlU.eq_1 ZlU.eq_2 ZlU.eq_3 ZlU.eq_4
attribute [go_sem] Zaa.eq_1 Zaa.eq_2
attribute [go_sem] St.hp.eq_1
attribute [go_sem] Zdp.eq_1 Zdp.eq_2 Zdp.eq_3
attribute [go_sem] Zd4.eq_1 Zd4.eq_2
attribute [go_sem] agg2.eq_1 agg2.eq_2 agg2.eq_3
attribute [go_sem] ins.eq_1 ins.eq_2
attribute [go_sem] Zfr.eq_1 Zfr.eq_2
attribute [go_sem] XJ.eq_1 XJ.eq_2 XJ.eq_3
attribute [go_sem] St.m.eq_1
attribute [go_sem] bnd.eq_1 bnd.eq_2
attribute [go_sem] WU.eq_1 WU.eq_2 WU.eq_3
attribute [go_sem] ZvR.eq_1 ZvR.eq_2 ZvR.eq_3 ZvR.eq_4
attribute [go_sem] AV.cells.eq_1 AV.cells.eq_2 AV.cells.eq_3 AV.cells.eq_4 AV.cells.eq_5 AV.cells.eq_6 AV.cells.eq_7 AV.cells.eq_8 AV.cells.eq_9 AV.cells.eq_10 AV.cells.eq_11 AV.cells.eq_12 AV.cells.eq_13 AV.cells.eq_14 AV.cells.eq_15
attribute [go_sem] Qd.eq_1 Qd.eq_2 Qd.eq_3 Qd.eq_4 Qd.eq_5 Qd.eq_6
attribute [go_sem] AV.solid.eq_1 AV.solid.eq_2 AV.solid.eq_3 AV.solid.eq_4
attribute [go_sem] V1.eq_1 V1.eq_2
attribute [go_sem] Qy.eq_1 Qy.eq_2
attribute [go_sem] Yy.eq_1 Yy.eq_2
attribute [go_sem] JQ.eq_1
attribute [go_sem] Zd6.eq_1 Zd6.eq_2 Zd6.eq_3 Zd6.eq_4 Zd6.eq_5
attribute [go_sem] Wt.eq_1 Wt.eq_2
attribute [go_sem] D.flat.eq_1
attribute [go_sem] give.eq_1 give.eq_2
attribute [go_sem] D.beq1.eq_1 D.beq1.eq_2 D.beq1.eq_3 D.beq1.eq_4
attribute [go_sem] Zfs.eq_1 Zfs.eq_2 Zfs.eq_3 Zfs.eq_4 Zfs.eq_5 Zfs.eq_6
attribute [go_sem] not1.eq_1 not1.eq_2
attribute [go_sem] Xh.eq_1 Xh.eq_2 Xh.eq_3 Xh.eq_4
attribute [go_sem] St.nx.eq_1
attribute [go_sem] Zy.eq_1 Zy.eq_2 Zy.eq_3
attribute [go_sem] Zex.eq_1 Zex.eq_2 Zex.eq_3
attribute [go_sem] ZlV.eq_1 ZlV.eq_2
attribute [go_sem] vun.eq_1 vun.eq_2 vun.eq_3
attribute [go_sem] toD.eq_1 toD.eq_2
attribute [go_sem] Zl.eq_1 Zl.eq_2 Zl.eq_3 Zl.eq_4 Zl.eq_5 Zl.eq_6 Zl.eq_7 Zl.eq_8 Zl.eq_9 Zl.eq_10 Zl.eq_11 Zl.eq_12 Zl.eq_13 Zl.eq_14 Zl.eq_15
attribute [go_sem] D.plain.eq_1 D.plain.eq_2 D.plain.eq_3 D.plain.eq_4 D.plain.eq_5
attribute [go_sem] Zu.eq_1
attribute [go_sem] ZS.eq_1 ZS.eq_2 ZS.eq_3
attribute [go_sem] UD.eq_1 UD.eq_2
attribute [go_sem] Zw.eq_1 Zw.eq_2
attribute [go_sem] Zxj.eq_1
attribute [go_sem] Znb.eq_1 Znb.eq_2
attribute [go_sem] Zby.eq_1 Zby.eq_2 Zby.eq_3 Zby.eq_4
attribute [go_sem] St.sl.eq_1
attribute [go_sem] Zzf.eq_1 Zzf.eq_2
attribute [go_sem] WV.eq_1 WV.eq_2
attribute [go_sem] Zd5.eq_1 Zd5.eq_2
attribute [go_sem] ren.eq_1 ren.eq_2
attribute [go_sem] kill.eq_1 kill.eq_2
attribute [go_sem] lkp.eq_1 lkp.eq_2
attribute [go_sem] Ztf.eq_1 Ztf.eq_2 Ztf.eq_3
attribute [go_sem] XH.eq_1 XH.eq_2
attribute [go_sem] beqL.eq_1 beqL.eq_2 beqL.eq_3
attribute [go_sem] D.cells.eq_1 D.cells.eq_2 D.cells.eq_3 D.cells.eq_4 D.cells.eq_5
attribute [go_sem] ZqJ.eq_1 ZqJ.eq_2
attribute [go_sem] Zte.eq_1 Zte.eq_2
attribute [go_sem] neg1.eq_1 neg1.eq_2
attribute [go_sem] Znc.eq_1 Znc.eq_2 Znc.eq_3
attribute [go_sem] ZqK.eq_1 ZqK.eq_2
attribute [go_sem] Vt.eq_1 Vt.eq_2 Vt.eq_3
attribute [go_sem] asD.eq_1
attribute [go_sem] UI.eq_1 UI.eq_2 UI.eq_3 UI.eq_4 UI.eq_5 UI.eq_6 UI.eq_7 UI.eq_8 UI.eq_9 UI.eq_10 UI.eq_11 UI.eq_12 UI.eq_13 UI.eq_14 UI.eq_15 UI.eq_16 UI.eq_17
attribute [go_sem] ZiZ.eq_1 ZiZ.eq_2 ZiZ.eq_3 ZiZ.eq_4 ZiZ.eq_5
attribute [go_sem] D.one.eq_1 D.one.eq_2 D.one.eq_3 D.one.eq_4 D.one.eq_5
attribute [go_sem] freeze.eq_1 freeze.eq_2
attribute [go_sem] ZcO.eq_1
attribute [go_sem] loOf.eq_1 loOf.eq_2
attribute [go_sem] Eff.on.eq_1
attribute [go_sem] appT.eq_1
attribute [go_sem] ZaW.eq_1 ZaW.eq_2
attribute [go_sem] cloV.eq_1
attribute [go_sem] slice0.eq_1 slice0.eq_2
attribute [go_sem] evM.eq_1 evM.eq_2
attribute [go_sem] JZ.eq_1 JZ.eq_2
attribute [go_sem] hiOf.eq_1 hiOf.eq_2
attribute [go_sem] Zmk.eq_1 Zmk.eq_2 Zmk.eq_3
attribute [go_sem] ZyM.eq_1
attribute [go_sem] idx.eq_1 idx.eq_2
attribute [go_sem] VX.eq_1 VX.eq_2 VX.eq_3 VX.eq_4 VX.eq_5
attribute [go_sem] Zag.eq_1 Zag.eq_2 Zag.eq_3
attribute [go_sem] Qf.eq_1 Qf.eq_2
attribute [go_sem] D.notSl.eq_1 D.notSl.eq_2
attribute [go_sem] ZBj.eq_1 ZBj.eq_2
attribute [go_sem] ZcS.eq_1 ZcS.eq_2 ZcS.eq_3 ZcS.eq_4 ZcS.eq_5 ZcS.eq_6
attribute [go_sem] UF.eq_1 UF.eq_2 UF.eq_3
attribute [go_sem] CO.guard.eq_1
attribute [go_sem] ZgE.eq_1
attribute [go_sem] Zbd.eq_1
attribute [go_sem] ZcP.eq_1 ZcP.eq_2 ZcP.eq_3
attribute [go_sem] Zmg.eq_1
attribute [go_sem] Eff.adds.eq_1
attribute [go_sem] ZoI.eq_1 ZoI.eq_2
attribute [go_sem] V4.eq_1 V4.eq_2
attribute [go_sem] Zi.eq_1 Zi.eq_2
attribute [go_sem] Zf.eff.eq_1
attribute [go_sem] Zh1.eq_1 Zh1.eq_2
attribute [go_sem] ZxJ.eq_1 ZxJ.eq_2
attribute [go_sem] Znr.eq_1 Znr.eq_2 Znr.eq_3
attribute [go_sem] del.eq_1 del.eq_2
attribute [go_sem] Zrq.eq_1
attribute [go_sem] ZuP.eq_1 ZuP.eq_2
attribute [go_sem] ZaA.eq_1 ZaA.eq_2
attribute [go_sem] ZoK.eq_1 ZoK.eq_2
attribute [go_sem] D.isAgg.eq_1 D.isAgg.eq_2
attribute [go_sem] ZaB.eq_1 ZaB.eq_2 ZaB.eq_3 ZaB.eq_4 ZaB.eq_5
attribute [go_sem] Zh5.eq_1
attribute [go_sem] slice3.eq_1
attribute [go_sem] ZcR.eq_1 ZcR.eq_2
attribute [go_sem] args.eq_1 args.eq_2
attribute [go_sem] ZoJ.eq_1 ZoJ.eq_2
attribute [go_sem] ZfF.eq_1
attribute [go_sem] Zmh.eq_1 Zmh.eq_2
attribute [go_sem] J2.eq_1
attribute [go_sem] evL.eq_1 evL.eq_2
attribute [go_sem] Zns.eq_1 Zns.eq_2 Zns.eq_3
attribute [go_sem] JY.eq_1 JY.eq_2 JY.eq_3
attribute [go_sem] Zd9.eq_1 Zd9.eq_2
attribute [go_sem] Zrn.eq_1 Zrn.eq_2
attribute [go_sem] Eff.sets.eq_1
attribute [go_sem] Zea.eq_1 Zea.eq_2 Zea.eq_3
attribute [go_sem] Zmf.eq_1 Zmf.eq_2
attribute [go_sem] Zmj.eq_1 Zmj.eq_2
attribute [go_sem] Zbr.eq_1 Zbr.eq_2 Zbr.eq_3
attribute [go_sem] ZzR.eq_1
attribute [go_sem] makeT.eq_1
attribute [go_sem] Vw.eq_1 Vw.eq_2
attribute [go_sem] ZBk.eq_1 ZBk.eq_2
attribute [go_sem] Zro.eq_1 Zro.eq_2
attribute [go_sem] ZcW.eq_1 ZcW.eq_2
attribute [go_sem] ZtI.eq_1
attribute [go_sem] ZcV.eq_1 ZcV.eq_2
attribute [go_sem] AV.atom.eq_1 AV.atom.eq_2 AV.atom.eq_3 AV.atom.eq_4 AV.atom.eq_5
attribute [go_sem] Eff.dels.eq_1
attribute [go_sem] Zdv.eq_1 Zdv.eq_2 Zdv.eq_3
attribute [go_sem] mat.eq_1 mat.eq_2 mat.eq_3
attribute [go_sem] ZK.eq_1
attribute [go_sem] ZcU.eq_1 ZcU.eq_2
attribute [go_sem] ZuS.eq_1
attribute [go_sem] ZzP.eq_1
attribute [go_sem] Zdx.eq_1 Zdx.eq_2
attribute [go_sem] J0.eq_1
attribute [go_sem] QB.eq_1 QB.eq_2 QB.eq_3 QB.eq_4
attribute [go_sem] ZzQ.eq_1
attribute [go_sem] ZhY.eq_1 ZhY.eq_2
attribute [go_sem] Znt.eq_1 Znt.eq_2
attribute [go_sem] ZwB.eq_1 ZwB.eq_2
attribute [go_sem] Zka.eq_1 Zka.eq_2 Zka.eq_3 Zka.eq_4
attribute [go_sem] ZkP.eq_1 ZkP.eq_2
attribute [go_sem] ZfD.eq_1 ZfD.eq_2
attribute [go_sem] Zh0.eq_1 Zh0.eq_2 Zh0.eq_3 Zh0.eq_4 Zh0.eq_5
attribute [go_sem] ZuQ.eq_1 ZuQ.eq_2
attribute [go_sem] Zrp.eq_1
attribute [go_sem] convS.eq_1 convS.eq_2
attribute [go_sem] Zmi.eq_1 Zmi.eq_2
attribute [go_sem] CO.tl.eq_1
attribute [go_sem] Zh2.eq_1 Zh2.eq_2 Zh2.eq_3 Zh2.eq_4
attribute [go_sem] CO.dst.eq_1
attribute [go_sem] teOf.eq_1
attribute [go_sem] ZxK.eq_1 ZxK.eq_2 ZxK.eq_3
attribute [go_sem] ZuR.eq_1
attribute [go_sem] Zww.eq_1 Zww.eq_2
attribute [go_sem] Zwx.eq_1
attribute [go_sem] Eff.val.eq_1
attribute [go_sem] sliceS.eq_1 sliceS.eq_2
attribute [go_sem] YN.eq_1 YN.eq_2 YN.eq_3
attribute [go_sem] ZhZ.eq_1 ZhZ.eq_2 ZhZ.eq_3 ZhZ.eq_4
attribute [go_sem] JX.eq_1
attribute [go_sem] buildSl.eq_1 buildSl.eq_2
attribute [go_sem] Uu.eq_1 Uu.eq_2 Uu.eq_3 Uu.eq_4
attribute [go_sem] Zac.eq_1 Zac.eq_2 Zac.eq_3 Zac.eq_4 Zac.eq_5
attribute [go_sem] ZoH.eq_1 ZoH.eq_2
attribute [go_sem] Zrs.eq_1
attribute [go_sem] evP.eq_1 evP.eq_2
attribute [go_sem] Zml.eq_1 Zml.eq_2
attribute [go_sem] Zdw.eq_1
attribute [go_sem] ZiL.eq_1
attribute [go_sem] ZtH.eq_1 ZtH.eq_2
attribute [go_sem] Zrr.eq_1
attribute [go_sem] WA.eq_1
attribute [go_sem] ZwA.eq_1
attribute [go_sem] bnT.eq_1 bnT.eq_2
attribute [go_sem] ZcQ.eq_1 ZcQ.eq_2
attribute [go_sem] Wz.eq_1 Wz.eq_2
attribute [go_sem] J1.eq_1 J1.eq_2
attribute [go_sem] asgT.eq_1 asgT.eq_2
attribute [go_sem] Znv.eq_1 Znv.eq_2
attribute [go_sem] Zec.eq_1 Zec.eq_2
attribute [go_sem] Zh3.eq_1 Zh3.eq_2 Zh3.eq_3 Zh3.eq_4
attribute [go_sem] Zwu.eq_1 Zwu.eq_2
attribute [go_sem] CO.op.eq_1
attribute [go_sem] ZfG.eq_1 ZfG.eq_2
attribute [go_sem] ZfC.eq_1 ZfC.eq_2
attribute [go_sem] ZzO.eq_1 ZzO.eq_2
attribute [go_sem] ZiM.eq_1 ZiM.eq_2 ZiM.eq_3
attribute [go_sem] Zwy.eq_1 Zwy.eq_2
attribute [go_sem] ZkQ.eq_1 ZkQ.eq_2
attribute [go_sem] ZfE.eq_1 ZfE.eq_2
attribute [go_sem] Zdb.eq_1 Zdb.eq_2 Zdb.eq_3 Zdb.eq_4 Zdb.eq_5 Zdb.eq_6 Zdb.eq_7 Zdb.eq_8 Zdb.eq_9 Zdb.eq_10
attribute [go_sem] Zbe.eq_1
attribute [go_sem] WB.eq_1 WB.eq_2 WB.eq_3 WB.eq_4
attribute [go_sem] Eff.frz.eq_1
attribute [go_sem] buildT.eq_1
attribute [go_sem] Qk.eq_1 Qk.eq_2
attribute [go_sem] ZiK.eq_1 ZiK.eq_2
attribute [go_sem] Zf.gone.eq_1
attribute [go_sem] meltIn.eq_1 meltIn.eq_2
attribute [go_sem] Zkb.eq_1
attribute [go_sem] Zwv.eq_1 Zwv.eq_2
attribute [go_sem] convI.eq_1 convI.eq_2
attribute [go_sem] Zpy.eq_1 Zpy.eq_2
attribute [go_sem] ZbN.eq_1 ZbN.eq_2 ZbN.eq_3
attribute [go_sem] bd.eq_1
attribute [go_sem] ZcT.eq_1 ZcT.eq_2
attribute [go_sem] XL.eq_1
attribute [go_sem] ZuT.eq_1 ZuT.eq_2
attribute [go_sem] ZiN.eq_1
attribute [go_sem] X0.eq_1 X0.eq_2
attribute [go_sem] ZyS.eq_1 ZyS.eq_2
attribute [go_sem] ZD.eq_1 ZD.eq_2 ZD.eq_3 ZD.eq_4 ZD.eq_5 ZD.eq_6 ZD.eq_7 ZD.eq_8 ZD.eq_9 ZD.eq_10 ZD.eq_11 ZD.eq_12 ZD.eq_13 ZD.eq_14 ZD.eq_15 ZD.eq_16 ZD.eq_17 ZD.eq_18 ZD.eq_19 ZD.eq_20 ZD.eq_21 ZD.eq_22 ZD.eq_23 ZD.eq_24 ZD.eq_25 ZD.eq_26 ZD.eq_27 ZD.eq_28 ZD.eq_29 ZD.eq_30 ZD.eq_31 ZD.eq_32 ZD.eq_33 ZD.eq_34 ZD.eq_35 ZD.eq_36 ZD.eq_37 ZD.eq_38 ZD.eq_39 ZD.eq_40
attribute [go_sem] UM.eq_1 UM.eq_2 UM.eq_3 UM.eq_4 UM.eq_5
attribute [go_sem] Zia.eq_1
attribute [go_sem] Zu3.eq_1 Zu3.eq_2
attribute [go_sem] Zc5.eq_1 Zc5.eq_2
attribute [go_sem] ZfR.eq_1
attribute [go_sem] Zef.eq_1 Zef.eq_2 Zef.eq_3 Zef.eq_4 Zef.eq_5
attribute [go_sem] UG.eq_1 UG.eq_2
attribute [go_sem] ZoO.eq_1 ZoO.eq_2
attribute [go_sem] ZzZ.eq_1 ZzZ.eq_2
attribute [go_sem] ZtL.eq_1 ZtL.eq_2
attribute [go_sem] Xa.eq_1 Xa.eq_2
attribute [go_sem] only.eq_1 only.eq_2
attribute [go_sem] ZxX.eq_1 ZxX.eq_2
attribute [go_sem] Zh7.eq_1 Zh7.eq_2
attribute [go_sem] V8.eq_1 V8.eq_2
attribute [go_sem] okL.eq_1 okL.eq_2
attribute [go_sem] okC.eq_1 okC.eq_2 okC.eq_3 okC.eq_4 okC.eq_5 okC.eq_6 okC.eq_7 okC.eq_8 okC.eq_9 okC.eq_10
attribute [go_sem] ZpA.eq_1 ZpA.eq_2
attribute [go_sem] Zbu.eq_1 Zbu.eq_2
attribute [go_sem] ZfN.eq_1 ZfN.eq_2 ZfN.eq_3
attribute [go_sem] ZiS.eq_1 ZiS.eq_2
attribute [go_sem] Zh9.eq_1 Zh9.eq_2
attribute [go_sem] QS.eq_1 QS.eq_2
attribute [go_sem] Zr.eq_1 Zr.eq_2
attribute [go_sem] VE.eq_1 VE.eq_2 VE.eq_3
attribute [go_sem] Zms.eq_1
attribute [go_sem] WD.eq_1 WD.eq_2
attribute [go_sem] Zu4.eq_1 Zu4.eq_2
attribute [go_sem] CO.starts.eq_1
attribute [go_sem] V7.eq_1 V7.eq_2
attribute [go_sem] QW.eq_1 QW.eq_2
attribute [go_sem] ZyR.eq_1 ZyR.eq_2
attribute [go_sem] ZnI.eq_1
attribute [go_sem] ZrK.eq_1 ZrK.eq_2 ZrK.eq_3
attribute [go_sem] ZfP.eq_1 ZfP.eq_2
attribute [go_sem] WX.eq_1 WX.eq_2
attribute [go_sem] Zeg.eq_1
attribute [go_sem] ZrL.eq_1 ZrL.eq_2
attribute [go_sem] ZyQ.eq_1
attribute [go_sem] Zp.body.eq_1
attribute [go_sem] Zmt.eq_1
attribute [go_sem] ZkV.eq_1 ZkV.eq_2
attribute [go_sem] J6.eq_1 J6.eq_2 J6.eq_3 J6.eq_4 J6.eq_5
attribute [go_sem] Zp.res.eq_1
attribute [go_sem] Y7.eq_1 Y7.eq_2
attribute [go_sem] YE.eq_1 YE.eq_2 YE.eq_3 YE.eq_4 YE.eq_5 YE.eq_6 YE.eq_7 YE.eq_8 YE.eq_9 YE.eq_10 YE.eq_11 YE.eq_12
attribute [go_sem] ZrM.eq_1 ZrM.eq_2
attribute [go_sem] VD.eq_1 VD.eq_2
attribute [go_sem] Zp.nt.eq_1
attribute [go_sem] okD.eq_1 okD.eq_2
attribute [go_sem] ZuT.eq_1 Zac.eq_1 Zac.eq_2 Zac.eq_3 Zac.eq_4
attribute [go_sem] U4.eq_1 Zc2.eq_1 Zc2.eq_2 Zc2.eq_3 Zc2.eq_4 Zc2.eq_5 Zc2.eq_6 Zc2.eq_7 Zc2.eq_8 Zc2.eq_9 Zc2.eq_10 WE.eq_1
attribute [go_sem] QZ.eq_3 XQ.eq_1 AV.atom.eq_1 AV.atom.eq_2 AV.atom.eq_3 AV.atom.eq_4
attribute [go_sem] ZsI.eq_1 ZsI.eq_2 Zj8.eq_1 Zj8.eq_2
attribute [go_sem] Zg ZAW ZCi
attribute [go_sem] List.map_cons List.map_nil List.flatMap_cons List.flatMap_nil List.append_nil List.nil_append List.cons_append List.length_cons List.length_nil List.all_cons List.all_nil List.any_cons List.any_nil List.contains_cons List.contains_nil List.filter_cons List.filter_nil List.drop_zero List.drop_succ_cons List.drop_nil List.take_zero List.take_succ_cons List.take_nil List.getElem?_cons_zero List.getElem?_cons_succ List.getElem?_nil Option.map_some Option.map_none Bool.and_true Bool.true_and Bool.and_false Bool.false_and Bool.or_true Bool.true_or Bool.or_false Bool.false_or Bool.not_true Bool.not_false decide_true decide_false and_true true_and and_false false_and not_true not_false_eq_true or_true true_or or_false false_or if_true if_false true_implies false_implies implies_true imp_self eq_self ne_eq beq_self_eq_true Bool.true_eq_false Bool.false_eq_true List.isEmpty_nil List.isEmpty_cons List.range_zero List.set_cons_zero List.set_cons_succ Option.some.injEq reduceCtorEq Nat.reduceLeDiff
def Zrj (hp:Hp):List Nat→List Nat
 | []=>[]
 | i :: r=>if Zh2 (lkp hp i)=true then i :: Zrj hp r else Zrj hp r
theorem gE (hp:Hp) (ids:List Nat):(ids.filter fun i=>Zh2 (lkp hp i))=Zrj hp ids:=by
 induction ids with
 | nil=>rfl
 | cons i r ih=>simp only[List.filter_cons,Zrj,ih]
def Zty (hp:Hp) (rs:List Nat):List Nat→Bool
 | []=>true
 | i :: r=>(Zh2 (lkp hp i) || rs.contains i)&&Zty hp rs r
def Ztz (hp:Hp):List Nat→Bool
 | []=>false
 | i :: r=>ZcV (lkp hp i) || Ztz hp r
theorem gG (hp:Hp) (ids:List Nat):(ids.any fun i=>ZcV (lkp hp i))=Ztz hp ids:=by
 induction ids with
 | nil=>rfl
 | cons i r ih=>simp only[List.any_cons,Ztz,ih]
attribute [go_sem] Ztz.eq_1 Ztz.eq_2
@[go_sem] theorem appV_eq (hp:Hp) (s b:Nat) (str flat:Bool) (base:Nat) (x y:AV):Zwz hp s b str flat base x y=Zeb hp s b str flat base x y (XR hp x) (XR hp y):=rfl
attribute [go_sem] Zeb.eq_1 Zeb.eq_2 Zeb.eq_3
@[go_sem] theorem treeId_d (hp:Hp) (x:D):XR hp (.d x)=[]:=rfl
@[go_sem] theorem ZDU (hp:Hp):XR hp .nil=[]:=rfl
@[go_sem] theorem ZDj (hp:Hp) (k o n:Nat):XR hp (.ownv k o n)=[]:=rfl
@[go_sem] theorem ZDV (hp:Hp) (k:Nat):XR hp (.own k)=if ZcV (lkp hp k)=true then [k] else []:=rfl
@[go_sem] theorem noKeep_0 (M:Zm) (f:Nat):YO M f 0=M f 0:=rfl
@[go_sem] theorem noKeep_1 (M:Zm) (f:Nat):YO M f 1=M f 1:=rfl
@[go_sem] theorem noKeep_2 (M:Zm) (f:Nat):YO M f 2=M f 2:=rfl
@[go_sem] theorem noKeep_3 (M:Zm) (f:Nat):YO M f 3=M f 3:=rfl
@[go_sem] theorem noKeep_4 (M:Zm) (f:Nat):YO M f 4=M f 4:=rfl
@[go_sem] theorem noKeep_5 (M:Zm) (f:Nat):YO M f 5=M f 5:=rfl
@[go_sem] theorem noKeep_6 (M:Zm) (f:Nat):YO M f 6=M f 6:=rfl
@[go_sem] theorem noKeep_99 (M:Zm) (f:Nat):YO M f 99=false:=rfl
theorem gF (hp:Hp) (rs ids:List Nat):ZbM hp rs ids=Zty hp rs ids:=by
 induction ids with
 | nil=>rfl
 | cons i r ih=>simp only[ZbM,LG,Zty] at ih ⊢;rw[ih]
attribute [go_sem] Zrj.eq_1 Zrj.eq_2 Zty.eq_1 Zty.eq_2
@[go_sem] theorem okV_d (x:D):okV (.d x)=true:=rfl
@[go_sem] theorem okV_nil:okV .nil=true:=rfl
@[go_sem] theorem okV_nilp:okV .nilp=true:=rfl
@[go_sem] theorem okV_nili:okV .nili=true:=rfl
@[go_sem] theorem okV_ptr (a b:Nat):okV (.ptr a b)=true:=rfl
@[go_sem] theorem okV_prow (a b c e:Nat):okV (.prow a b c e)=true:=rfl
@[go_sem] theorem okV_pim (cs:List D):okV (.pim cs)=true:=rfl
@[go_sem] theorem okV_own (a:Nat):okV (.own a)=true:=rfl
@[go_sem] theorem okV_ownv (a b c:Nat):okV (.ownv a b c)=true:=rfl
@[go_sem] theorem okV_agg (cs:List AV):okV (.agg cs)=Zu3 cs:=rfl
@[go_sem] theorem okV_tup0:okV (.tup [])=true:=rfl
@[go_sem] theorem ZDW (sl:Sl) (a:COp) (x y:Nat) (v:AV):VZ sl a (.ptr x y) v=true:=rfl
@[go_sem] theorem seenIn_d (sl:Sl) (a:COp) (x y z t:Nat) (v:D):VZ sl a (.prow x y z t) (.d v)=true:=rfl
@[go_sem] theorem ZDX (sl:Sl) (a:COp) (x y z t:Nat) (v:List AV):VZ sl a (.prow x y z t) (.agg v)=(okV (.agg v)&&X0 sl (ZD a) (Zw (.agg v))):=rfl
@[go_sem] theorem ZDY (sl:Sl) (a:COp) (x y z t:Nat) (k:Nat):VZ sl a (.prow x y z t) (.own k)=(okV (.own k)&&X0 sl (ZD a) (Zw (.own k))):=rfl
@[go_sem] theorem ZDZ (sl:Sl) (a:COp) (x y z t:Nat):VZ sl a (.prow x y z t) .nil=(okV .nil&&X0 sl (ZD a) (Zw .nil)):=rfl
@[go_sem] theorem ZDk (sl:Sl) (a:COp) (x y z t:Nat):VZ sl a (.prow x y z t) .nilp=(okV .nilp&&X0 sl (ZD a) (Zw .nilp)):=rfl
@[go_sem] theorem ZDl (sl:Sl) (a:COp) (x y z t:Nat) (k m n:Nat):VZ sl a (.prow x y z t) (.ownv k m n)=(okV (.ownv k m n)&&X0 sl (ZD a) (Zw (.ownv k m n))):=rfl
@[go_sem] theorem ZDm (sl:Sl) (a:COp) (k:Nat):seenSrc sl a (.own k)=QS sl k (ZD a):=rfl
@[go_sem] theorem seenSrc_d (sl:Sl) (a:COp) (x:D):seenSrc sl a (.d x)=true:=rfl
@[go_sem] theorem ZDn (sl:Sl) (a:COp):seenSrc sl a .nil=true:=rfl
@[go_sem] theorem ZCG (sl:Sl) (a:COp) (x y z:Nat):seenSrc sl a (.ownv x y z)=true:=rfl
@[go_sem] theorem okV_iteV (b:Bool) (v:AV):okV (Zi0 b v)=(!b || okV v):=by cases b<;>simp[Zi0,okV]
@[go_sem] theorem awayV_d (sl:Sl) (xs:List Opd) (x:D):Zc3 sl xs (.d x)=true:=rfl
@[go_sem] theorem awayV_nil (sl:Sl) (xs:List Opd):Zc3 sl xs .nil=true:=rfl
@[go_sem] theorem ZD0 (sl:Sl) (xs:List Opd):Zc3 sl xs .nilp=true:=rfl
@[go_sem] theorem awayV_ptr (sl:Sl) (xs:List Opd) (k o:Nat):Zc3 sl xs (.ptr k o)=QS sl k xs:=rfl
@[go_sem] theorem awayV_pim (sl:Sl) (xs:List Opd) (cs:List D):Zc3 sl xs (.pim cs)=true:=rfl
@[go_sem] theorem awayV_own (sl:Sl) (xs:List Opd) (a:Nat):Zc3 sl xs (.own a)=true:=rfl
@[go_sem] theorem ZD1 (sl:Sl) (xs:List Opd) (a b c:Nat):Zc3 sl xs (.ownv a b c)=true:=rfl
@[go_sem] theorem awayV_agg (sl:Sl) (xs:List Opd) (cs:List AV):Zc3 sl xs (.agg cs)=true:=rfl
@[go_sem] theorem awayV_tup (sl:Sl) (xs:List Opd) (cs:List AV):Zc3 sl xs (.tup cs)=true:=rfl
end Go.Abs.E
