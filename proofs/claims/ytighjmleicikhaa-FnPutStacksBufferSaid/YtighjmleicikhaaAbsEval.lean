/- Own text. -/
import Derived.Test.YtighjmleicikhaaAbsRun
set_option linter.unusedVariables false
set_option linter.unusedSimpArgs false
namespace Go.Abs.E
open Go Go.Abs
abbrev _root_.Go.Abs.Opd.i (n:Int):Opd:=.v (.d (.int .i64 n))
abbrev _root_.Go.Abs.Opd.b (x:Bool):Opd:=.v (.d (.bool x))
def stW {α:Type} (x:Option α) (K:α→Prop):Prop:=match x with
 | some a=>K a
 | none=>False
def gW (x:Option Bool) (A B:Prop):Prop:=match x with
 | some b=>(b=true→A)∧(b=false→B)
 | none=>False
def Yg (v:AV) (A B:Prop):Prop:=match v with
 | .d (.bool t)=>(t=true→A)∧(t=false→B)
 | _=>False
theorem XV {α:Type} (a:α) (K:α→Prop):stW (some a) K=K a:=rfl
theorem Zbz {α:Type} (K:α→Prop):stW none K=False:=rfl
theorem V6 {α β:Type} (x:Option α) (f:α→Option β) (K:β→Prop):stW (bnd x f) K=stW x fun a=>stW (f a) K:=by cases x<;>rfl
@[go_sem] theorem Zkx (A B:Prop):gW (some true) A B=A:=by simp[gW]
@[go_sem] theorem gW_false (A B:Prop):gW (some false) A B=B:=by simp[gW]
@[go_sem] theorem gW_dec (p:Prop) [Decidable p] (A B:Prop):gW (some (decide p)) A B=((p→A)∧(¬p→B)):=by simp[gW]
@[go_sem] theorem gW_not (b:Bool) (A B:Prop):gW (some (!b)) A B=gW (some b) B A:=by cases b<;>simp[gW]
theorem gW_some (b:Bool) (A B:Prop):gW (some b) A B=((b=true→A)∧(b=false→B)):=rfl
@[go_sem] theorem ZoI (A B:Prop):Yg (.d (.bool true)) A B=A:=by simp[Yg]
@[go_sem] theorem Zog (A B:Prop):Yg (.d (.bool false)) A B=B:=by simp[Yg]
@[go_sem] theorem condW_dec (p:Prop) [Decidable p] (A B:Prop):Yg (.d (.bool (decide p))) A B=((p→A)∧(¬p→B)):=by simp[Yg]
@[go_sem] theorem condW_not (b:Bool) (A B:Prop):Yg (.d (.bool (!b))) A B=Yg (.d (.bool b)) B A:=by cases b<;>simp[Yg]
@[go_sem] theorem condW_and (a b:Bool) (A B:Prop):Yg (.d (.bool (a&&b))) A B=Yg (.d (.bool a)) (Yg (.d (.bool b)) A B) B:=by cases a<;>cases b<;>simp[Yg]
@[go_sem] theorem condW_or (a b:Bool) (A B:Prop):Yg (.d (.bool (a || b))) A B=Yg (.d (.bool a)) A (Yg (.d (.bool b)) A B):=by cases a<;>cases b<;>simp[Yg]
@[go_sem] theorem ZoJ (b:Bool) (A B:Prop):Yg (.d (.bool b)) A B=((b=true→A)∧(b=false→B)):=rfl
@[congr] theorem gW_congr {x y:Option Bool} {A B:Prop} (h:x=y):gW x A B=gW y A B:=by rw[h]
@[congr] theorem Zoh {v w:AV} {A B:Prop} (h:v=w):Yg v A B=Yg w A B:=by rw[h]
section
variable (X:Fns) (M:Zf)
noncomputable def W3 (nx:Nat):Nat→List CO→Sl→Hp→(Sl→Hp→Prop)→Prop
 | _,[],sl,hp,K=>K sl hp
 | i,o :: rest,sl,hp,K=>gW (ZC sl o.guard)
   (stW (Q3 (nx+64*i) o.dst sl hp (vop (Zu X M) M sl hp (nx+64*i) o.op)) fun r=>W3 nx (i+1) rest r.1 r.2 K)
   (W3 nx (i+1) rest (Zh sl o.dst (.tup [])) hp K)
def V2 (nx i:Nat) (d:Option Nat) (rest:List CO) (sl:Sl) (hp:Hp) (K:Sl→Hp→Prop) (e:Option Zb):Prop:=
 stW (Q3 (nx+64*i) d sl hp e) fun r=>W3 X M nx (i+1) rest r.1 r.2 K
@[go_sem] theorem opsW_nil (nx i:Nat) (sl:Sl) (hp:Hp) (K:Sl→Hp→Prop):W3 X M nx i [] sl hp K=K sl hp:=rfl
@[go_sem] theorem opsW_cons (nx i:Nat) (d:Option Nat) (tl:Bool) (op:COp) (aa:List CO) (sl:Sl) (hp:Hp) (K:Sl→Hp→Prop) :
  W3 X M nx i (⟨d,none,op,tl⟩ :: aa) sl hp K=V2 X M nx i d aa sl hp K (vop (Zu X M) M sl hp (nx+64*i) op):=by
 simp[W3,V2,ZC,Zkx]
def Zax (b:Bool) (v:AV):AV:=if b then v else .tup []
def YU (b:Bool) (nx i:Nat) (d:Option Nat) (rest:List CO) (sl:Sl) (hp:Hp) (K:Sl→Hp→Prop) (e:Option Zb):Prop:=
 gW (some b) (V2 X M nx i d rest sl hp K e) (W3 X M nx (i+1) rest (Zh sl d (.tup [])) hp K)
def Zhc (g:Option Bool) (nx i:Nat) (d:Option Nat) (op:COp) (rest:List CO) (sl:Sl) (hp:Hp) (K:Sl→Hp→Prop):Prop:=
 gW g (V2 X M nx i d rest sl hp K (vop (Zu X M) M sl hp (nx+64*i) op)) (W3 X M nx (i+1) rest (Zh sl d (.tup [])) hp K)
@[go_sem] theorem ZoK (nx i g:Nat) (w:Bool) (d:Option Nat) (tl:Bool) (op:COp) (aa:List CO) (sl:Sl) (hp:Hp) (K:Sl→Hp→Prop) :
  W3 X M nx i (⟨d,some (g,w),op,tl⟩ :: aa) sl hp K=Zhc X M (UW w (gs sl g)) nx i d op aa sl hp K:=rfl
@[go_sem] theorem Zoi (b:Bool) (nx i:Nat) (d:Option Nat) (op:COp) (aa:List CO) (sl:Sl) (hp:Hp) (K:Sl→Hp→Prop) :
  Zhc X M (some b) nx i d op aa sl hp K=YU X M b nx i d aa sl hp K (vop (Zu X M) M sl hp (nx+64*i) op):=rfl
@[go_sem] theorem gA (nx i:Nat) (d:Option Nat) (aa:List CO) (sl:Sl) (hp:Hp) (K:Sl→Hp→Prop) (e:Option Zb) :
  YU X M true nx i d aa sl hp K e=V2 X M nx i d aa sl hp K e:=by simp[YU,gW]
@[go_sem] theorem gB (nx i:Nat) (d:Option Nat) (aa:List CO) (sl:Sl) (hp:Hp) (K:Sl→Hp→Prop) (e:Option Zb) :
  YU X M false nx i d aa sl hp K e=W3 X M nx (i+1) aa (Zh sl d (.tup [])) hp K:=by simp[YU,gW]
@[go_sem] theorem Zhd (b:Bool) (nx i:Nat) (d:Option Nat) (aa:List CO) (sl:Sl) (hp:Hp) (K:Sl→Hp→Prop) (v:AV) :
  YU X M b nx i d aa sl hp K (Z7 v)=W3 X M nx (i+1) aa (Zh sl d (Zax b v)) hp K:=by
 cases b
 ·simp[YU,gW,Zax]
 ·simp only[YU,gW,Zax,Ki,true_implies,Bool.true_eq_false,false_implies,and_true];rfl
@[go_sem] theorem Zoj (b:Bool) (nx i:Nat) (d:Option Nat) (aa:List CO) (sl:Sl) (hp:Hp) (K:Sl→Hp→Prop) (v:AV) :
  YU X M b nx i d aa sl hp K (some { eff := { val:=v,adds:=[],sets:=[],dels:=[],frz:=[] },gone:=[] })=W3 X M nx (i+1) aa (Zh sl d (Zax b v)) hp K:=Zhd X M b nx i d aa sl hp K v
@[congr] theorem ZnC {g g' : Option Bool} {nx i:Nat} {d:Option Nat} {op:COp} {aa:List CO} {sl:Sl} {hp:Hp} {K:Sl→Hp→Prop} (h:g=g') :
  Zhc X M g nx i d op aa sl hp K=Zhc X M g' nx i d op aa sl hp K:=by rw[h]
@[congr] theorem ZnD {b b' : Bool} {nx i:Nat} {d:Option Nat} {aa:List CO} {sl:Sl} {hp:Hp} {K:Sl→Hp→Prop} {e e' : Option Zb} (hb:b=b') (h:b'=true→e=e') :
  YU X M b nx i d aa sl hp K e=YU X M b' nx i d aa sl hp K e':=by
 subst hb;cases b
 ·simp[YU,gW]
 ·rw[h rfl]
@[go_sem] theorem Zok (nx i:Nat) (d:Option Nat) (aa:List CO) (sl:Sl) (hp:Hp) (K:Sl→Hp→Prop) (v:AV) :
  V2 X M nx i d aa sl hp K (Z7 v)=W3 X M nx (i+1) aa (Zh sl d v) hp K:=rfl
@[go_sem] theorem ZoL (nx i:Nat) (d:Option Nat) (aa:List CO) (sl:Sl) (hp:Hp) (K:Sl→Hp→Prop) (v:AV) :
  V2 X M nx i d aa sl hp K (some { eff := { val:=v,adds:=[],sets:=[],dels:=[],frz:=[] },gone:=[] })=W3 X M nx (i+1) aa (Zh sl d v) hp K:=rfl
@[go_sem] theorem ZoM (nx i:Nat) (d:Option Nat) (aa:List CO) (sl:Sl) (hp:Hp) (K:Sl→Hp→Prop) (e:Zb) :
  V2 X M nx i d aa sl hp K (some e)=(Qf (nx+64*i) (nx+64*i+64) e.eff.adds=true∧W3 X M nx (i+1) aa (Zh (Qj e.gone sl) d e.eff.val) (e.eff.on (XL e.gone hp)) K):=by
 unfold V2 Q3;rw[Zc];split<;>rename_i h
 ·simp only[XV,h,true_and];rfl
 ·simp only[Zbz,h,false_and,Ka]
@[go_sem] theorem ZoN (nx i:Nat) (d:Option Nat) (aa:List CO) (sl:Sl) (hp:Hp) (K:Sl→Hp→Prop):V2 X M nx i d aa sl hp K none=False:=rfl
@[go_sem] theorem stepW_ite (nx i:Nat) (d:Option Nat) (aa:List CO) (sl:Sl) (hp:Hp) (K:Sl→Hp→Prop) (c:Prop) [Decidable c] (a b:Option Zb) :
  V2 X M nx i d aa sl hp K (if c then a else b)=((c→V2 X M nx i d aa sl hp K a)∧(¬c→V2 X M nx i d aa sl hp K b)):=by
 by_cases h:c<;>simp[h]
noncomputable def Xq (nx:Nat):Nat→Bool→List CO→Sl→Hp→(Sl→Hp→Prop)→Prop
 | _,_,[],sl,hp,K=>K sl hp
 | i,tail,o :: rest,sl,hp,K=>gW (ZC sl o.guard)
   (stW (Q3 (nx+64*i) o.dst sl hp (XO (Zu X M) (Q8 M) nx i (CO.starts o) o.op sl hp)) fun r=>Xq nx (i+1) tail rest r.1 r.2 K)
   (Xq nx (i+1) tail rest (Zh sl o.dst (.tup [])) hp K)
def Yi (nx i:Nat) (t:Bool) (d:Option Nat) (rest:List CO) (sl:Sl) (hp:Hp) (K:Sl→Hp→Prop) (e:Option Zb):Prop:=
 stW (Q3 (nx+64*i) d sl hp (if t then e else Wz e)) fun r=>Xq X M nx (i+1) false rest r.1 r.2 K
@[go_sem] theorem opsDW_nil (nx i:Nat) (t:Bool) (sl:Sl) (hp:Hp) (K:Sl→Hp→Prop):Xq X M nx i t [] sl hp K=K sl hp:=rfl
@[go_sem] theorem ZoO (nx i:Nat) (d:Option Nat) (tl:Bool) (op:COp) (aa:List CO) (sl:Sl) (hp:Hp) (K:Sl→Hp→Prop) :
  Xq X M nx i false (⟨d,none,op,tl⟩ :: aa) sl hp K=Yi X M nx i (Zaj op || tl) d aa sl hp K (vop (Zu X M) (Q8 M) sl hp (nx+64*i) op):=by
 simp[Xq,Yi,ZC,Zkx,XO,CO.starts]
def XG (b:Bool) (nx i:Nat) (t:Bool) (d:Option Nat) (rest:List CO) (sl:Sl) (hp:Hp) (K:Sl→Hp→Prop) (e:Option Zb):Prop:=
 gW (some b) (Yi X M nx i t d rest sl hp K e) (Xq X M nx (i+1) false rest (Zh sl d (.tup [])) hp K)
def ZdI (g:Option Bool) (nx i:Nat) (t:Bool) (d:Option Nat) (op:COp) (rest:List CO) (sl:Sl) (hp:Hp) (K:Sl→Hp→Prop):Prop:=
 gW g (Yi X M nx i t d rest sl hp K (vop (Zu X M) (Q8 M) sl hp (nx+64*i) op)) (Xq X M nx (i+1) false rest (Zh sl d (.tup [])) hp K)
@[go_sem] theorem Zol (nx i g:Nat) (w:Bool) (d:Option Nat) (tl:Bool) (op:COp) (aa:List CO) (sl:Sl) (hp:Hp) (K:Sl→Hp→Prop) :
  Xq X M nx i false (⟨d,some (g,w),op,tl⟩ :: aa) sl hp K=ZdI X M (UW w (gs sl g)) nx i (Zaj op || tl) d op aa sl hp K:=rfl
@[go_sem] theorem ZnE (b:Bool) (nx i:Nat) (t:Bool) (d:Option Nat) (op:COp) (aa:List CO) (sl:Sl) (hp:Hp) (K:Sl→Hp→Prop) :
  ZdI X M (some b) nx i t d op aa sl hp K=XG X M b nx i t d aa sl hp K (vop (Zu X M) (Q8 M) sl hp (nx+64*i) op):=rfl
@[go_sem] theorem gC (nx i:Nat) (t:Bool) (d:Option Nat) (aa:List CO) (sl:Sl) (hp:Hp) (K:Sl→Hp→Prop) (e:Option Zb) :
  XG X M true nx i t d aa sl hp K e=Yi X M nx i t d aa sl hp K e:=by simp[XG,gW]
@[go_sem] theorem gD (nx i:Nat) (t:Bool) (d:Option Nat) (aa:List CO) (sl:Sl) (hp:Hp) (K:Sl→Hp→Prop) (e:Option Zb) :
  XG X M false nx i t d aa sl hp K e=Xq X M nx (i+1) false aa (Zh sl d (.tup [])) hp K:=by simp[XG,gW]
@[go_sem] theorem ZfJ (b:Bool) (nx i:Nat) (t:Bool) (d:Option Nat) (aa:List CO) (sl:Sl) (hp:Hp) (K:Sl→Hp→Prop) (v:AV) :
  XG X M b nx i t d aa sl hp K (Z7 v)=Xq X M nx (i+1) false aa (Zh sl d (Zax b v)) hp K:=by
 cases b
 ·simp[XG,gW,Zax]
 ·simp only[XG,gW,Zax,Ki,true_implies,Bool.true_eq_false,false_implies,and_true];cases t<;>rfl
@[go_sem] theorem ZnF (b:Bool) (nx i:Nat) (t:Bool) (d:Option Nat) (aa:List CO) (sl:Sl) (hp:Hp) (K:Sl→Hp→Prop) (v:AV) :
  XG X M b nx i t d aa sl hp K (some { eff := { val:=v,adds:=[],sets:=[],dels:=[],frz:=[] },gone:=[] })=Xq X M nx (i+1) false aa (Zh sl d (Zax b v)) hp K:=ZfJ X M b nx i t d aa sl hp K v
@[congr] theorem Znn {g g' : Option Bool} {nx i:Nat} {t t' : Bool} {d:Option Nat} {op:COp} {aa:List CO} {sl:Sl} {hp:Hp} {K:Sl→Hp→Prop} (h:g=g') (ht:t=t') :
  ZdI X M g nx i t d op aa sl hp K=ZdI X M g' nx i t' d op aa sl hp K:=by rw[h,ht]
@[congr] theorem Zno {b b' : Bool} {nx i:Nat} {t:Bool} {d:Option Nat} {aa:List CO} {sl:Sl} {hp:Hp} {K:Sl→Hp→Prop} {e e' : Option Zb} (hb:b=b') (h:b'=true→e=e') :
  XG X M b nx i t d aa sl hp K e=XG X M b' nx i t d aa sl hp K e':=by
 subst hb;cases b
 ·simp[XG,gW]
 ·rw[h rfl]
@[go_sem] theorem ZnG (nx i:Nat) (t:Bool) (d:Option Nat) (aa:List CO) (sl:Sl) (hp:Hp) (K:Sl→Hp→Prop) (v:AV) :
  Yi X M nx i t d aa sl hp K (Z7 v)=Xq X M nx (i+1) false aa (Zh sl d v) hp K:=by cases t<;>rfl
@[go_sem] theorem Zom (nx i:Nat) (t:Bool) (d:Option Nat) (aa:List CO) (sl:Sl) (hp:Hp) (K:Sl→Hp→Prop) (v:AV) :
  Yi X M nx i t d aa sl hp K (some { eff := { val:=v,adds:=[],sets:=[],dels:=[],frz:=[] },gone:=[] })=Xq X M nx (i+1) false aa (Zh sl d v) hp K:=by cases t<;>rfl
@[go_sem] theorem Zon (nx i:Nat) (t:Bool) (d:Option Nat) (aa:List CO) (sl:Sl) (hp:Hp) (K:Sl→Hp→Prop) (e:Zb) :
  Yi X M nx i t d aa sl hp K (some e)=((t=false→U0 e e.gone e.eff.sets e.eff.dels e.eff.frz=some e)∧Qf (nx+64*i) (nx+64*i+64) e.eff.adds=true∧Xq X M nx (i+1) false aa (Zh (Qj e.gone sl) d e.eff.val) (e.eff.on (XL e.gone hp)) K):=by
 have ab:stW (Q3 (nx+64*i) d sl hp (some e)) (fun r=>Xq X M nx (i+1) false aa r.1 r.2 K)=(Qf (nx+64*i) (nx+64*i+64) e.eff.adds=true∧Xq X M nx (i+1) false aa (Zh (Qj e.gone sl) d e.eff.val) (e.eff.on (XL e.gone hp)) K):=by
  unfold Q3;rw[Zc];split<;>rename_i h
  ·simp only[XV,h,true_and];rfl
  ·simp only[Zbz,h,false_and,Ka]
 unfold Yi;cases t with
 | true=>simp only[Ki];rw[ab];simp
 | false=>
  simp only[Ka,Kh,Wz,Zc,true_implies];unfold U0;split
  ·rw[ab];simp
  ·simp[Q3,bnd,stW]
@[go_sem] theorem Zoo (nx i:Nat) (t:Bool) (d:Option Nat) (aa:List CO) (sl:Sl) (hp:Hp) (K:Sl→Hp→Prop):Yi X M nx i t d aa sl hp K none=False:=by cases t<;>rfl
@[go_sem] theorem ZoP (nx i:Nat) (t:Bool) (d:Option Nat) (aa:List CO) (sl:Sl) (hp:Hp) (K:Sl→Hp→Prop) (c:Prop) [Decidable c] (a b:Option Zb) :
  Yi X M nx i t d aa sl hp K (if c then a else b)=((c→Yi X M nx i t d aa sl hp K a)∧(¬c→Yi X M nx i t d aa sl hp K b)):=by
 by_cases h:c<;>simp[h]
@[go_sem] theorem quietC_ok (c:Zb):U0 c [] [] [] []=some c:=rfl
def W (c:Zy) (st:St) (Q:Ex→St→Prop):Prop:=stW (Z5 X M c st) fun r=>Q r.1 r.2
@[congr] theorem W_congr {c:Zy} {st aa : St} {Q:Ex→St→Prop} (h:st=aa):W X M c st Q=W X M c aa Q:=by rw[h]
@[congr] theorem ZoQ {aa:List CO} {nx ab i i' : Nat} {sl sl' : Sl} {hp hp' : Hp} {K:Sl→Hp→Prop} (hn:nx=ab) (hi:i=i') (h:sl=sl') (h' : hp=hp') :
  W3 X M nx i aa sl hp K=W3 X M ab i' aa sl' hp' K:=by rw[h,h',hn,hi]
@[congr] theorem Zop {aa:List CO} {nx ab i i' : Nat} {t t' : Bool} {sl sl' : Sl} {hp hp' : Hp} {K:Sl→Hp→Prop} (hn:nx=ab) (hi:i=i') (ht:t=t') (h:sl=sl') (h' : hp=hp') :
  Xq X M nx i t aa sl hp K=Xq X M ab i' t' aa sl' hp' K:=by rw[h,h',ht,hn,hi]
@[congr] theorem Zoq {aa:List CO} {nx i:Nat} {d:Option Nat} {sl:Sl} {hp:Hp} {K:Sl→Hp→Prop} {e e' : Option Zb} (h:e=e') :
  V2 X M nx i d aa sl hp K e=V2 X M nx i d aa sl hp K e':=by rw[h]
@[congr] theorem ZnH {aa:List CO} {nx i:Nat} {t t' : Bool} {d:Option Nat} {sl:Sl} {hp:Hp} {K:Sl→Hp→Prop} {e e' : Option Zb} (ht:t=t') (h:e=e') :
  Yi X M nx i t d aa sl hp K e=Yi X M nx i t' d aa sl hp K e':=by rw[h,ht]
theorem ZnI (nx:Nat) (K:Sl→Hp→Prop):∀ (l:List CO) (i:Nat) (sl:Sl) (hp:Hp),W3 X M nx i l sl hp K=stW (JG (Zu X M) M nx i l sl hp) fun r=>K r.1 r.2:=by
 intro l
 induction l with
 | nil=>intro i sl hp;rfl
 | cons o rest ih=>
  intro i sl hp;simp only[W3,JG,ih,V6];cases ZC sl o.guard with
  | none=>rfl
  | some b=>cases b<;>simp[gW,V6,XV]
theorem ZmA (nx:Nat) (K:Sl→Hp→Prop):∀ (l:List CO) (i:Nat) (t:Bool) (sl:Sl) (hp:Hp),Xq X M nx i t l sl hp K=stW (Vf (Zu X M) (Q8 M) nx i t l sl hp) fun r=>K r.1 r.2:=by
 intro l
 induction l with
 | nil=>intro i t sl hp;rfl
 | cons o rest ih=>
  intro i t sl hp;simp only[Xq,Vf,ih,V6];cases ZC sl o.guard with
  | none=>rfl
  | some b=>cases b<;>simp[gW,V6,XV]
def Zlu (m nx:Nat) (Q:Ex→St→Prop) (sl:Sl) (hp:Hp):Prop:=Q .normal { sl:=sl,hp:=hp,nx:=nx,m:=m }
def Ziq (ops:List CO) (ps:List (Nat×Nat)) (K:Sl→Hp→Prop) (sl:Sl) (hp:Hp):Prop:=Yy ops sl ps=true∧K sl hp
@[go_sem] theorem regQ_eq (m nx:Nat) (Q:Ex→St→Prop) (sl:Sl) (hp:Hp):Zlu m nx Q sl hp=Q .normal { sl:=sl,hp:=hp,nx:=nx,m:=m }:=rfl
@[go_sem] theorem seenQ_eq (ops:List CO) (ps:List (Nat×Nat)) (K:Sl→Hp→Prop) (sl:Sl) (hp:Hp):Ziq ops ps K sl hp=(Yy ops sl ps=true∧K sl hp):=rfl
@[go_sem] theorem W_skip (st:St) (Q:Ex→St→Prop):W X M .skip st Q=Q .normal st:=by simp[W,ZjR,XV]
@[go_sem] theorem W_ret (st:St) (Q:Ex→St→Prop):W X M .ret st Q=Q .ret st:=by simp[W,ZlT,XV]
@[go_sem] theorem W_exit (id:Nat) (st:St) (Q:Ex→St→Prop):W X M (.exit id) st Q=Q (.exit id) st:=by simp[W,ZjS,XV]
@[go_sem] theorem W_stuck (st:St) (Q:Ex→St→Prop):W X M .stuck st Q=False:=by
 have h:Z5 X M .stuck st=none:=Xf fun n=>by simp only[Zr]
 simp only[W,h,Zbz]
@[go_sem] theorem W_region (n:Nat) (ops:List CO) (st:St) (Q:Ex→St→Prop) :
  W X M (.region n none ops) st Q=W3 X M st.nx 0 ops st.sl st.hp (Zlu st.m (st.nx+64*n) Q):=by
 rw[ZnI,W,ZhA,Zdx,V6];rfl
theorem ZmB (n:Nat) (ps:List (Nat×Nat)) (ops:List CO) (st:St) (Q:Ex→St→Prop) :
  W X M (.region n (some ps) ops) st Q=Xq X M st.nx 0 false ops st.sl st.hp (Ziq ops ps (Zlu st.m (st.nx+64*n) Q)):=by
 rw[ZmA,W,ZjT,Zdx,V6,Zgv,V6];congr 1
 funext r
 by_cases h:Yy ops r.1 ps=true<;>simp[h,Ziq,XV,Zbz,Zlu]
@[go_sem] theorem W_draw0 (n:Nat) (ops:List CO) (st:St) (Q:Ex→St→Prop) :
  W X M (.region n (some []) ops) st Q=Xq X M st.nx 0 false ops st.sl st.hp (Zlu st.m (st.nx+64*n) Q):=by
 rw[ZmB];congr 1
 funext sl hp
 simp[Ziq,Yy]
@[go_sem] theorem W_drawc (n:Nat) (p:Nat×Nat) (ps:List (Nat×Nat)) (ops:List CO) (st:St) (Q:Ex→St→Prop) :
  W X M (.region n (some (p :: ps)) ops) st Q=Xq X M st.nx 0 false ops st.sl st.hp (Ziq ops (p :: ps) (Zlu st.m (st.nx+64*n) Q)):=ZmB X M n _ ops st Q
def Zky (c:Zy) (Q:Ex→St→Prop):Ex→St→Prop
 | .normal,st=>W X M c st Q
 | e,st=>Q e st
def blkQ (id:Nat) (Q:Ex→St→Prop):Ex→St→Prop
 | .exit j,st=>if j=id then Q .normal st else Q (.exit j) st
 | e,st=>Q e st
@[go_sem] theorem ZnJ (c:Zy) (Q:Ex→St→Prop) (st:St):Zky X M c Q .normal st=W X M c st Q:=rfl
@[go_sem] theorem thenQ_ret (c:Zy) (Q:Ex→St→Prop) (st:St):Zky X M c Q .ret st=Q .ret st:=rfl
@[go_sem] theorem ZoR (c:Zy) (Q:Ex→St→Prop) (id:Nat) (st:St):Zky X M c Q (.exit id) st=Q (.exit id) st:=rfl
@[go_sem] theorem Zor (id:Nat) (Q:Ex→St→Prop) (st:St):blkQ id Q .normal st=Q .normal st:=rfl
@[go_sem] theorem blkQ_ret (id:Nat) (Q:Ex→St→Prop) (st:St):blkQ id Q .ret st=Q .ret st:=rfl
@[go_sem] theorem blkQ_exit (id j:Nat) (Q:Ex→St→Prop) (st:St):blkQ id Q (.exit j) st=if j=id then Q .normal st else Q (.exit j) st:=rfl
@[go_sem] theorem W_seq (a b:Zy) (st:St) (Q:Ex→St→Prop):W X M (.seq a b) st Q=W X M a st (Zky X M b Q):=by
 unfold W;rw[ZlU];cases h:Z5 X M a st with
 | none=>rfl
 | some r=>obtain⟨e,aa⟩:=r;cases e<;>rfl
@[go_sem] theorem W_cond (c:Opd) (a b:Zy) (st:St) (Q:Ex→St→Prop) :
  W X M (.cond c a b) st Q=Yg (evO st.sl c) (W X M a st Q) (W X M b st Q):=by
 unfold W;rw[ZjU];cases h:evO st.sl c with
 | d x=>cases x with
  | bool t=>cases t<;>simp[ZaM,Yg]
  | _=>rfl
 | _=>rfl
@[go_sem] theorem W_block (id:Nat) (c:Zy) (st:St) (Q:Ex→St→Prop):W X M (.block id c) st Q=W X M c st (blkQ id Q):=by
 unfold W;rw[ZiO];cases h:Z5 X M c st with
 | none=>rfl
 | some r=>
  obtain⟨e,aa⟩:=r;cases e with
  | exit j=>by_cases hj:j=id<;>simp[JJ,hj,XV,blkQ]
  | normal=>rfl
  | ret=>rfl
def keepQ (K:List Nat) (Q:Ex→St→Prop) (e:Ex) (st:St):Prop:=Q e { sl:=only K st.sl,hp:=st.hp,nx:=st.nx,m:=st.m }
@[go_sem] theorem keepQ_eq (K:List Nat) (Q:Ex→St→Prop) (e:Ex) (st:St):keepQ K Q e st=Q e { sl:=only K st.sl,hp:=st.hp,nx:=st.nx,m:=st.m }:=rfl
@[go_sem] theorem W_keep (K:List Nat) (c:Zy) (st:St) (Q:Ex→St→Prop):W X M (.keep K c) st Q=W X M c st (keepQ K Q):=by
 unfold W;rw[ZjV];cases h:Z5 X M c st with
 | none=>rfl
 | some r=>rfl
def shutQ (id nm:Nat) (Q:Ex→St→Prop) (e:Ex) (st:St):Prop:=Q e { sl:=st.sl,hp:=ZlR st.hp (Zdl st.hp id nm (lkp st.hp id)),nx:=st.nx,m:=st.m }
@[go_sem] theorem shutQ_eq (id nm:Nat) (Q:Ex→St→Prop) (e:Ex) (st:St):shutQ id nm Q e st=Q e { sl:=st.sl,hp:=ZlR st.hp (Zdl st.hp id nm (lkp st.hp id)),nx:=st.nx,m:=st.m }:=rfl
def Zep (c:Zy) (Q:Ex→St→Prop) (r:Option St):Prop:=stW r fun st=>W X M c st Q
@[go_sem] theorem ZoS (c:Zy) (Q:Ex→St→Prop) (st:St):Zep X M c Q (some st)=W X M c st Q:=rfl
@[go_sem] theorem ZoT (c:Zy) (Q:Ex→St→Prop):Zep X M c Q none=False:=rfl
@[go_sem] theorem linkW_ite (c:Zy) (Q:Ex→St→Prop) (p:Prop) [Decidable p] (a b:Option St):Zep X M c Q (if p then a else b)=((p→Zep X M c Q a)∧(¬p→Zep X M c Q b)):=by
 by_cases h:p<;>simp[h]
@[go_sem] theorem W_link (fl:Bool) (id:Nat) (i:Opd) (j:Nat) (c:Zy) (st:St) (Q:Ex→St→Prop):W X M (.link fl id i j c) st Q=Zep X M c (shutQ id st.nx Q) (U1 fl id i j st):=by
 unfold W Zep;rw[ZjW];cases h:U1 fl id i j st with
 | none=>rfl
 | some st1=>
  simp only[Zc,XV,W];cases h1:Z5 X M c st1 with
  | none=>rfl
  | some q=>rfl
@[go_sem] theorem W_melt (c:Zy) (st:St) (Q:Ex→St→Prop):W X M (.melt c) st Q=W X M c { sl:=st.sl,hp:=Zb9 ZbH st.hp,nx:=st.nx,m:=st.m } Q:=by
 unfold W;rw[ZjX];rfl
def LW (c:Zy) (K:List Nat) (st:St) (Q:Ex→St→Prop):Prop:=stW (JL X M c K st) fun r=>Q r.1 r.2
@[congr] theorem LW_congr {c:Zy} {K K' : List Nat} {st aa : St} {Q:Ex→St→Prop} (hk:K=K') (h:st=aa):LW X M c K st Q=LW X M c K' aa Q:=by rw[h,hk]
@[go_sem] theorem W_loop (c:Zy) (st:St) (Q:Ex→St→Prop):W X M (.loop c) st Q=LW X M c (VX st.sl) st Q:=by
 unfold W LW;rw[ZjY]
def Zeq (c:Zy) (K:List Nat) (Q:Ex→St→Prop):Ex→St→Prop
 | .normal,st=>LW X M c K st Q
 | e,st=>Q e st
@[go_sem] theorem ZnK (c:Zy) (K:List Nat) (Q:Ex→St→Prop) (st:St):Zeq X M c K Q .normal st=LW X M c K st Q:=rfl
@[go_sem] theorem nextQ_ret (c:Zy) (K:List Nat) (Q:Ex→St→Prop) (st:St):Zeq X M c K Q .ret st=Q .ret st:=rfl
@[go_sem] theorem ZoU (c:Zy) (K:List Nat) (Q:Ex→St→Prop) (id:Nat) (st:St):Zeq X M c K Q (.exit id) st=Q (.exit id) st:=rfl
theorem ZmC {c:Zy} {K:List Nat} {st:St} {Q:Ex→St→Prop} (h:W X M c (YI K st) (Zeq X M c K Q)):LW X M c K st Q:=by
 unfold W at h;cases hv:Z5 X M c (YI K st) with
 | none=>rw[hv] at h;exact h.elim
 | some r=>
  rw[hv] at h;obtain⟨e,aa⟩:=r;unfold LW;cases e with
  | normal=>rw[ZiP X M hv];exact h
  | exit id=>rw[Ze1 X M (by simp) hv];exact h
  | ret=>rw[Ze1 X M (by simp) hv];exact h
def ZfK (sl:Sl):Sl→Sl
 | []=>sl
 | (k,v) :: r=>ZfK (ins sl k v) r
def ZaI (hp:Hp):Hp→Hp
 | []=>hp
 | (k,o) :: r=>ZaI (ins hp k o) r
theorem LW_ind {α:Type} (S:α→St) (I:α→Prop) (μ:α→Nat) {c:Zy} {K:List Nat} {Q:Ex→St→Prop}
  (step:∀ a,I a→(∀ b st,I b→μ b<μ a→YI K st=S b→LW X M c K st Q)→W X M c (S a) (Zeq X M c K Q)) :
  ∀ a st,I a→YI K st=S a→LW X M c K st Q:=by
 have aa:∀ n a st,μ a=n→I a→YI K st=S a→LW X M c K st Q:=by
  intro n
  induction n using Nat.strongRecOn with
  | ind n ih=>
   intro a st hn ha hs;refine ZmC X M ?_;rw[hs];exact step a ha fun b ab hb ae ad=>ih (μ b) (by omega) b ab rfl hb ad
 exact fun a st ha hs=>aa _ a st rfl ha hs
theorem Vv {α:Type} (u:α→Sl) (uh:α→Hp) (I:α→Prop) (μ:α→Nat) (a:α) {c:Zy} {K:List Nat} {Q:Ex→St→Prop} {st st0:St}
  (hc:YI K st=st0) (ha:I a) (h0:(⟨ZfK st0.sl (u a),ZaI st0.hp (uh a),st0.nx,st0.m⟩:St)=st0)
  (step:∀ a,I a→(∀ b st,I b→μ b<μ a→YI K st=⟨ZfK st0.sl (u b),ZaI st0.hp (uh b),st0.nx,st0.m⟩→LW X M c K st Q)→W X M c ⟨ZfK st0.sl (u a),ZaI st0.hp (uh a),st0.nx,st0.m⟩ (Zeq X M c K Q)) :
  LW X M c K st Q:=
 LW_ind X M (fun a=>⟨ZfK st0.sl (u a),ZaI st0.hp (uh a),st0.nx,st0.m⟩) I μ step a st ha (hc.trans h0.symm)
def Zhe (m:Nat) (rs:List ZfN) (R:AV×List Zg→Prop):Ex→St→Prop:=fun e st=>stW (Ub m rs (some (e,st))) R
def resW (m:Nat) (hp:Hp) (R:AV×List Zg→Prop) (vs:Option (List AV)):Prop:=stW vs fun vs=>R (X3 m hp (WA vs))
@[go_sem] theorem resW_some (m:Nat) (hp:Hp) (R:AV×List Zg→Prop) (vs:List AV):resW m hp R (some vs)=R (X3 m hp (WA vs)):=rfl
@[go_sem] theorem resW_none (m:Nat) (hp:Hp) (R:AV×List Zg→Prop):resW m hp R none=False:=rfl
@[go_sem] theorem endQ_ret (m:Nat) (rs:List ZfN) (R:AV×List Zg→Prop) (st:St):Zhe m rs R .ret st=resW m st.hp R (ZY (ZeZ st) rs):=by
 simp only[Zhe,Ub,V6];rfl
@[go_sem] theorem Zos (m:Nat) (rs:List ZfN) (R:AV×List Zg→Prop) (st:St):Zhe m rs R .normal st=resW m st.hp R (ZY (ZeZ st) rs):=by
 simp only[Zhe,Ub,V6];rfl
theorem ZmD {f:Nat} {as:List AV} {h:List Zg} (fn:QK) {R:AV×List Zg→Prop} (hx:X f=some (.text fn)) (hl:as.length≤fn.nt)
  (hr:W X M fn.body { sl:=XM 0 as,hp:=XP 0 h,nx:=h.length,m:=h.length } (Zhe h.length fn.res R)):∃ r,Zu X M f as h=some r∧R r:=by
 unfold W at hr;cases hv:Z5 X M fn.body { sl:=XM 0 as,hp:=XP 0 h,nx:=h.length,m:=h.length } with
 | none=>rw[hv] at hr;exact hr.elim
 | some q=>
  rw[hv] at hr;obtain⟨e,st⟩:=q;simp only[XV,Zhe] at hr;cases hk:Ub h.length fn.res (some (e,st)) with
  | none=>rw[hk] at hr;exact hr.elim
  | some r=>rw[hk] at hr;exact⟨r,ZmZ X M hx hl (by rw[hv];exact hk),hr⟩
theorem callE {f:Nat} {as:List AV} {h:List Zg} (fn:QK) {r:AV×List Zg} (hx:X f=some (.text fn)) (hl:as.length≤fn.nt)
  (hr:W X M fn.body { sl:=XM 0 as,hp:=XP 0 h,nx:=h.length,m:=h.length } (Zhe h.length fn.res fun q=>q=r)):Zu X M f as h=some r:=by
 obtain⟨q,hq,rfl⟩:=ZmD X M fn hx hl hr;exact hq
end
@[go_sem] theorem vopE_move (C:Orc) (M:Zf) (sl:Sl) (hp:Hp) (base:Nat) (x:Opd):vop C M sl hp base (.move x)=Z7 (evO sl x):=by simp only[vop]
@[go_sem] theorem Zot (C:Orc) (M:Zf) (sl:Sl) (hp:Hp) (base:Nat) (s:Option Nat) (x:Opd):vop C M sl hp base (.assign s x)=UP base s (evO sl x):=by simp only[vop]
@[go_sem] theorem vopE_pick (C:Orc) (M:Zf) (sl:Sl) (hp:Hp) (base:Nat) (c a b:Opd):vop C M sl hp base (.pick c a b)=JD (evO sl a) (evO sl b) (evO sl c):=by simp only[vop]
@[go_sem] theorem ZoV (C:Orc) (M:Zf) (sl:Sl) (hp:Hp) (base:Nat) (slc:List (Option Nat)) (cs:List AV):vop C M sl hp base (.alloc slc cs)=JE slc base cs:=by simp only[vop]
@[go_sem] theorem vopE_box (C:Orc) (M:Zf) (sl:Sl) (hp:Hp) (base:Nat) (x:Opd):vop C M sl hp base (.box x)=ZlG base (evO sl x):=by simp only[vop]
@[go_sem] theorem ZoW (C:Orc) (M:Zf) (sl:Sl) (hp:Hp) (base:Nat) (zs:List AV) (ps:List (Nat×Nat×Opd)):vop C M sl hp base (.build zs ps)=ZeB zs (evP sl ps):=by simp only[vop]
@[go_sem] theorem ZnL (C:Orc) (M:Zf) (sl:Sl) (hp:Hp) (base:Nat) (s:Nat) (xs:List Opd):vop C M sl hp base (.buildSl s xs)=buildSl hp base s (evL sl xs):=by simp only[vop]
@[go_sem] theorem vopE_load (C:Orc) (M:Zf) (sl:Sl) (hp:Hp) (base:Nat) (g:Bool) (s:Nat) (a:Opd):vop C M sl hp base (.load g s a)=XN (Yo hp g s (evO sl a)):=by simp only[vop]
@[go_sem] theorem ZoX (C:Orc) (M:Zf) (sl:Sl) (hp:Hp) (base:Nat) (slc:List (Option Nat)) (s:Nat) (a x:Opd):vop C M sl hp base (.store slc s a x)=Jj (VT hp slc s base (evO sl x).cells (evO sl a)):=by simp only[vop]
@[go_sem] theorem Znp (C:Orc) (M:Zf) (sl:Sl) (hp:Hp) (base:Nat) (x:Opd):vop C M sl hp base (.nilCheck x)=Vm (evO sl x):=by simp only[vop]
@[go_sem] theorem vopE_bin (C:Orc) (M:Zf) (sl:Sl) (hp:Hp) (base:Nat) (op:BinOp) (eq:Bool) (x y:Opd):vop C M sl hp base (.bin op eq x y)=ZeC op eq (evO sl x) (evO sl y):=by simp only[vop]
@[go_sem] theorem vopE_un (C:Orc) (M:Zf) (sl:Sl) (hp:Hp) (base:Nat) (op:UnOp) (x:Opd):vop C M sl hp base (.un op x)=XN (vun op (evO sl x)):=by simp only[vop]
@[go_sem] theorem vopE_eqA (C:Orc) (M:Zf) (sl:Sl) (hp:Hp) (base:Nat) (neg:Bool) (ks:List Nat) (x y:Opd):vop C M sl hp base (.eqA neg ks x y)=Zhj neg ks (evO sl x) (evO sl y):=by simp only[vop]
@[go_sem] theorem ZoY (C:Orc) (M:Zf) (sl:Sl) (hp:Hp) (base:Nat) (k:IntKind) (x:Opd):vop C M sl hp base (.convI k x)=convI k (evO sl x):=by simp only[vop]
@[go_sem] theorem ZoZ (C:Orc) (M:Zf) (sl:Sl) (hp:Hp) (base:Nat) (x:Opd):vop C M sl hp base (.convS x)=convS (evO sl x):=by simp only[vop]
@[go_sem] theorem vopE_fn (C:Orc) (M:Zf) (sl:Sl) (hp:Hp) (base:Nat) (f:Nat) (cs:List Opd):vop C M sl hp base (.fn f cs)=XN (cloV f (evL sl cs)):=by simp only[vop]
@[go_sem] theorem vopE_make (C:Orc) (M:Zf) (sl:Sl) (hp:Hp) (base:Nat) (s b:Nat) (z:D) (l c:Opd):vop C M sl hp base (.make s b z l c)=bnd (idx (evO sl l)) fun l=>bnd (idx (evO sl c)) fun c=>Zgm base s b z l c:=by simp only[vop]
@[go_sem] theorem Zo0 (C:Orc) (M:Zf) (sl:Sl) (hp:Hp) (base:Nat) (s:Nat) (x:Opd) (lo hi:Option Opd):vop C M sl hp base (.slice s x lo hi)=XN (XB hp s (evM sl lo) (evM sl hi) (evO sl x)):=by simp only[vop]
@[go_sem] theorem Zou (C:Orc) (M:Zf) (sl:Sl) (hp:Hp) (base:Nat) (x:Opd) (lo hi:Option Opd):vop C M sl hp base (.sliceS x lo hi)=XN (sliceS (evM sl lo) (evM sl hi) (evO sl x)):=by simp only[vop]
@[go_sem] theorem Zov (C:Orc) (M:Zf) (sl:Sl) (hp:Hp) (base:Nat) (x hi mx:Opd):vop C M sl hp base (.slice0 x hi mx)=XN (slice0 hp (evO sl x) (idx (evO sl hi)) (idx (evO sl mx))):=by simp only[vop]
@[go_sem] theorem Zo1 (C:Orc) (M:Zf) (sl:Sl) (hp:Hp) (base:Nat) (off:Nat) (x:Opd):vop C M sl hp base (.shift off x)=X0 off (evO sl x):=by simp only[vop]
@[go_sem] theorem vopE_part (C:Orc) (M:Zf) (sl:Sl) (hp:Hp) (base:Nat) (g:Bool) (s off:Nat) (x:Opd):vop C M sl hp base (.part g s off x)=XN (ZbG g s off (evO sl x)):=by simp only[vop]
@[go_sem] theorem vopE_iaS (C:Orc) (M:Zf) (sl:Sl) (hp:Hp) (base:Nat) (s:Nat) (x i:Opd):vop C M sl hp base (.iaS s x i)=bnd (idx (evO sl i)) fun n=>ZaL hp s (evO sl x) n:=by simp only[vop]
@[go_sem] theorem vopE_iaA (C:Orc) (M:Zf) (sl:Sl) (hp:Hp) (base:Nat) (len s:Nat) (x i:Opd):vop C M sl hp base (.iaA len s x i)=bnd (idx (evO sl i)) fun n=>ZeE (evO sl x) n len s:=by simp only[vop]
@[go_sem] theorem vopE_ixS (C:Orc) (M:Zf) (sl:Sl) (hp:Hp) (base:Nat) (x i:Opd):vop C M sl hp base (.ixS x i)=bnd (idx (evO sl i)) fun n=>ZjC n (evO sl x):=by simp only[vop]
@[go_sem] theorem vopE_ixA (C:Orc) (M:Zf) (sl:Sl) (hp:Hp) (base:Nat) (g:Bool) (s len:Nat) (x i:Opd):vop C M sl hp base (.ixA g s len x i)=bnd (idx (evO sl i)) fun n=>ZlI g s len n (evO sl x):=by simp only[vop]
@[go_sem] theorem vopE_nth (C:Orc) (M:Zf) (sl:Sl) (hp:Hp) (base:Nat) (i:Nat) (x:Opd):vop C M sl hp base (.nth i x)=ZiA i (evO sl x):=by simp only[vop]
@[go_sem] theorem vopE_len (C:Orc) (M:Zf) (sl:Sl) (hp:Hp) (base:Nat) (x:Opd):vop C M sl hp base (.len x)=bnd (W2 hp (evO sl x)) fun n=>Z7 (.d (.int .i64 n)):=by simp only[vop]
@[go_sem] theorem vopE_lenS (C:Orc) (M:Zf) (sl:Sl) (hp:Hp) (base:Nat) (x:Opd):vop C M sl hp base (.lenS x)=bnd (Zk4 (evO sl x)) fun n=>Z7 (.d (.int .i64 n)):=by simp only[vop]
@[go_sem] theorem Zow (C:Orc) (M:Zf) (sl:Sl) (hp:Hp) (base:Nat) (s b:Nat) (str flat:Bool) (x y:Opd):vop C M sl hp base (.append s b str flat x y)=ZiB hp s b str flat base (evO sl x) (evO sl y):=by simp only[vop]
@[go_sem] theorem vopE_min (C:Orc) (M:Zf) (sl:Sl) (hp:Hp) (base:Nat) (x y:Opd):vop C M sl hp base (.min x y)=Zdf (evO sl x) (evO sl y):=by simp only[vop]
@[go_sem] theorem vopE_max (C:Orc) (M:Zf) (sl:Sl) (hp:Hp) (base:Nat) (x y:Opd):vop C M sl hp base (.max x y)=Zdg (evO sl x) (evO sl y):=by simp only[vop]
@[go_sem] theorem vopE_call (C:Orc) (M:Zf) (sl:Sl) (hp:Hp) (base:Nat) (f:Opd) (as:List Opd):vop C M sl hp base (.call f as)=W8 C M hp base (evL sl as) (evO sl f):=by simp only[vop]
@[go_sem] theorem Zox (C:Orc) (M:Zf) (sl:Sl) (hp:Hp) (base:Nat) (s:Nat) (x lo hi mx:Opd):vop C M sl hp base (.slice3 s x lo hi mx)=XN (slice3 hp (evO sl x) (idx (evO sl lo)) (idx (evO sl hi)) (idx (evO sl mx))):=by simp only[vop]
@[go_sem] theorem Zo2 (C:Orc) (M:Zf) (sl:Sl) (hp:Hp) (base:Nat) (s:Nat) (z:D) (x:Opd):vop C M sl hp base (.clear s z x)=Jj (UL hp s z (evO sl x)):=by simp only[vop]
@[go_sem] theorem Zoy (C:Orc) (M:Zf) (sl:Sl) (hp:Hp) (base:Nat) (s n:Nat) (xs:List Opd):vop C M sl hp base (.buildT s n xs)=buildT hp base s n (evL sl xs):=by simp only[vop]
@[go_sem] theorem vopE_appT (C:Orc) (M:Zf) (sl:Sl) (hp:Hp) (base:Nat) (s b:Nat) (f:Bool) (x y:Opd):vop C M sl hp base (.appT s b f x y)=appT hp s b base (evO sl x) (evO sl y):=by simp only[vop]
@[go_sem] theorem vopE_asgT (C:Orc) (M:Zf) (sl:Sl) (hp:Hp) (base:Nat) (s n:Nat) (x:Opd):vop C M sl hp base (.asgT s n x)=asgT base s n (evO sl x):=by simp only[vop]
@[go_sem] theorem Zo3 (C:Orc) (M:Zf) (sl:Sl) (hp:Hp) (base:Nat) (s b n:Nat) (z:D) (l c:Opd):vop C M sl hp base (.makeT s b n z l c)=bnd (idx (evO sl l)) fun l=>bnd (idx (evO sl c)) fun c=>makeT base s b n z l c:=by simp only[vop]
@[go_sem] theorem Zo4 (C:Orc) (M:Zf) (sl:Sl) (hp:Hp) (base:Nat):vop C M sl hp base .stuck=none:=by simp only[vop]
@[go_sem] theorem Zlv (hp:Hp) (n:Nat) (aa:List Nat):Qh hp n [] aa=aa:=by cases n<;>rfl
@[go_sem] theorem tidy_d (hp:Hp) (ids:List Nat) (x:D):Uv hp ids (.d x)=.d x:=rfl
@[go_sem] theorem tidy_nil (hp:Hp) (ids:List Nat):Uv hp ids .nil=.nil:=rfl
@[go_sem] theorem tidy_junk (hp:Hp) (ids:List Nat):Uv hp ids .junk=.junk:=rfl
@[go_sem] theorem tidy_tup (hp:Hp) (ids:List Nat) (vs:List AV):Uv hp ids (.tup vs)=ren (XI ids) (kill (JH hp ids (Zj (.tup vs))) (.tup vs)):=rfl
@[go_sem] theorem tidy_agg (hp:Hp) (ids:List Nat) (vs:List AV):Uv hp ids (.agg vs)=ren (XI ids) (kill (JH hp ids (Zj (.agg vs))) (.agg vs)):=rfl
@[go_sem] theorem tidy_clo (hp:Hp) (ids:List Nat) (f:Nat) (vs:List AV):Uv hp ids (.clo f vs)=ren (XI ids) (kill (JH hp ids (Zj (.clo f vs))) (.clo f vs)):=rfl
@[go_sem] theorem tidy_nilp (hp:Hp) (ids:List Nat):Uv hp ids .nilp=.nilp:=rfl
@[go_sem] theorem tidy_nili (hp:Hp) (ids:List Nat):Uv hp ids .nili=.nili:=rfl
@[go_sem] theorem tidy_pim (hp:Hp) (ids:List Nat) (cs:List D):Uv hp ids (.pim cs)=.pim cs:=rfl
@[go_sem] theorem tidy_ptr (hp:Hp) (ids:List Nat) (id o:Nat):Uv hp ids (.ptr id o)=if Ua hp ids id=true then .ptr (XI ids id) o else .junk:=by
 simp only[Uv,Zj,Zm,Ze,JH];split<;>simp[kill,Zv,ZK,ren,Uj,UD]
@[go_sem] theorem tidy_prow (hp:Hp) (ids:List Nat) (id s i o:Nat):Uv hp ids (.prow id s i o)=if Ua hp ids id=true then .prow (XI ids id) s i o else .junk:=by
 simp only[Uv,Zj,Zm,Ze,JH];split<;>simp[kill,Zv,ZK,ren,Uj,UD]
@[go_sem] theorem tidy_own (hp:Hp) (ids:List Nat) (id:Nat):Uv hp ids (.own id)=if Ua hp ids id=true then .own (XI ids id) else .junk:=by
 simp only[Uv,Zj,Zm,Ze,JH];split<;>simp[kill,Zv,ZK,ren,Uj,UD]
@[go_sem] theorem tidy_ownv (hp:Hp) (ids:List Nat) (id a b:Nat):Uv hp ids (.ownv id a b)=if Ua hp ids id=true then .ownv (XI ids id) a b else .junk:=by
 simp only[Uv,Zj,Zm,Ze,JH];split<;>simp[kill,Zv,ZK,ren,Uj,UD]
@[go_sem] theorem Zo5 (hp:Hp) (x:D):X3 0 hp (.d x)=(.d x,[]):=by
 simp[X3,Zj,Zm,Ze,Ya,Zlv,tidy_d,W5]
@[go_sem] theorem minI_eq (a b:Int):minI a b=min a b:=by unfold minI;split<;>omega
@[go_sem] theorem maxI_eq (a b:Int):maxI a b=max a b:=by unfold maxI;split<;>omega
@[go_sem] theorem negIf_f (r:Bool):ZeD false r=r:=rfl
@[go_sem] theorem negIf_t (r:Bool):ZeD true r=!r:=rfl
@[go_sem] theorem opt1_some (v:AV):XN (some v)=Z7 v:=rfl
@[go_sem] theorem opt1_none:XN none=none:=rfl
@[go_sem] theorem vbin_int (op:BinOp) (k k' : IntKind) (a b:Int):vbin op (.d (.int k a)) (.d (.int k' b))=YR op k k' a b:=rfl
@[go_sem] theorem binV_int (op:BinOp) (eq:Bool) (k k' : IntKind) (a b:Int):ZeC op eq (.d (.int k a)) (.d (.int k' b))=XN (YR op k k' a b):=rfl
@[go_sem] theorem binV_str (op:BinOp) (eq:Bool) (a b:List UInt8):ZeC op eq (.d (.str a)) (.d (.str b))=XN (asD (ZhX op a b)):=rfl
@[go_sem] theorem int2_add (k:IntKind) (a b:Int):YR .add k k a b=some (.d (.int k (k.wrap (a+b)))):=by simp[YR,Yl,asD,Zc]
@[go_sem] theorem int2_sub (k:IntKind) (a b:Int):YR .sub k k a b=some (.d (.int k (k.wrap (a-b)))):=by simp[YR,Yl,asD,Zc]
@[go_sem] theorem int2_mul (k:IntKind) (a b:Int):YR .mul k k a b=some (.d (.int k (k.wrap (a*b)))):=by simp[YR,Yl,asD,Zc]
@[go_sem] theorem int2_quo (k:IntKind) (a b:Int):YR .quo k k a b=if b=0 then none else some (.d (.int k (k.wrap (a.tdiv b)))):=by simp only[YR,Yl,asD,if_true];split<;>rfl
@[go_sem] theorem int2_rem (k:IntKind) (a b:Int):YR .rem k k a b=if b=0 then none else some (.d (.int k (a.tmod b))):=by simp only[YR,Yl,asD,if_true];split<;>rfl
@[go_sem] theorem int2_eql (k:IntKind) (a b:Int):YR .eql k k a b=some (.d (.bool (decide (a=b)))):=by simp[YR,Yl,asD,Zc,BEq.beq]
@[go_sem] theorem int2_neq (k:IntKind) (a b:Int):YR .neq k k a b=some (.d (.bool (!decide (a=b)))):=by simp[YR,Yl,asD,Zc,bne,BEq.beq]
@[go_sem] theorem int2_lss (k:IntKind) (a b:Int):YR .lss k k a b=some (.d (.bool (decide (a<b)))):=by simp[YR,Yl,asD,Zc]
@[go_sem] theorem int2_leq (k:IntKind) (a b:Int):YR .leq k k a b=some (.d (.bool (decide (a≤b)))):=by simp[YR,Yl,asD,Zc]
@[go_sem] theorem int2_gtr (k:IntKind) (a b:Int):YR .gtr k k a b=some (.d (.bool (decide (b<a)))):=by simp[YR,Yl,asD,Zc]
@[go_sem] theorem int2_geq (k:IntKind) (a b:Int):YR .geq k k a b=some (.d (.bool (decide (b≤a)))):=by simp[YR,Yl,asD,Zc]
@[go_sem] theorem guardV_t (b:Bool):UW true (.d (.bool b))=some b:=by cases b<;>rfl
def nb (b:Bool):Bool:=!b
@[go_sem] theorem nb_true:nb true=false:=rfl
@[go_sem] theorem nb_false:nb false=true:=rfl
@[go_sem] theorem nb_eq (b:Bool):(nb b=true)=(b=false):=by cases b<;>simp[nb]
@[go_sem] theorem guardV_f (b:Bool):UW false (.d (.bool b))=some (nb b):=by cases b<;>rfl
@[go_sem] theorem Zo6 (w:Bool):UW w (.tup [])=some false:=rfl
@[go_sem] theorem ZnM (a b:Bool):UW true (Zax a (.d (.bool b)))=some (a&&b):=by cases a<;>cases b<;>rfl
@[go_sem] theorem ZnN (a b:Bool):UW false (Zax a (.d (.bool b)))=some (a&&nb b):=by cases a<;>cases b<;>rfl
@[go_sem] theorem iteV_true (v:AV):Zax true v=v:=rfl
@[go_sem] theorem Zo7 (v:AV):Zax false v=.tup []:=rfl
@[go_sem] theorem Zo8 (a b:AV):JD a b (.d (.bool true))=Z7 a:=rfl
@[go_sem] theorem Zoz (a b:AV):JD a b (.d (.bool false))=Z7 b:=rfl
@[go_sem] theorem pickV_or (b c:Bool):JD (.d (.bool true)) (Zax (nb b) (.d (.bool c))) (.d (.bool b))=Z7 (.d (.bool (b || c))):=by cases b<;>rfl
@[go_sem] theorem pickV_and (b c:Bool):JD (Zax b (.d (.bool c))) (.d (.bool false)) (.d (.bool b))=Z7 (.d (.bool (b&&c))):=by cases b<;>rfl
theorem Zo9 (a b:AV) (t:Bool):JD a b (.d (.bool t))=if t=true then Z7 a else Z7 b:=by cases t<;>rfl
@[go_sem] theorem dec_or (p q:Prop) [Decidable p] [Decidable q]:(decide p || decide q)=decide (p∨q):=by simp
@[go_sem] theorem dec_and (p q:Prop) [Decidable p] [Decidable q]:(decide p&&decide q)=decide (p∧q):=by simp
@[go_sem] theorem dec_not (p:Prop) [Decidable p]:(!decide p)=decide (¬p):=by simp
attribute [go_sem] Bool.or_eq_false_iff decide_eq_true_eq decide_eq_false_iff_not Bool.and_eq_true Bool.or_eq_true Bool.not_eq_true' Bool.not_eq_false' not_or Decidable.not_not
@[go_sem] theorem evO_t (sl:Sl) (n:Nat):evO sl (.t n)=gs sl n:=rfl
@[go_sem] theorem evO_v (sl:Sl) (a:AV):evO sl (.v a)=a:=rfl
@[go_sem] theorem evO_f (sl:Sl) (n:Nat):evO sl (.f n)=.clo n []:=rfl
@[go_sem] theorem gs_hit (k:Nat) (v:AV) (r:Sl):gs ((k,v) :: r) k=v:=by simp[gs,lkp,W0]
@[go_sem] theorem gs_cons (k t:Nat) (v:AV) (r:Sl):gs ((k,v) :: r) t=if k=t then v else gs r t:=by
 by_cases h:k=t<;>simp[gs,lkp,h,W0]
@[go_sem] theorem gs_nil (t:Nat):gs [] t=.junk:=rfl
attribute [go_sem] UB.eq_1 UB.eq_2
attribute [go_sem] YQ.eq_1 YQ.eq_2 YQ.eq_3 YQ.eq_4
attribute [go_sem] Zbj.eq_1 Zbj.eq_2 Zbj.eq_3 Zbj.eq_4
attribute [go_sem] V4.eq_1 V4.eq_2
attribute [go_sem] St.hp.eq_1
attribute [go_sem] WM.eq_1 WM.eq_2 WM.eq_3
attribute [go_sem] W0.eq_1 W0.eq_2
attribute [go_sem] agg2.eq_1 agg2.eq_2 agg2.eq_3
attribute [go_sem] ins.eq_1 ins.eq_2
attribute [go_sem] UC.eq_1 UC.eq_2
attribute [go_sem] QC.eq_1 QC.eq_2 QC.eq_3
attribute [go_sem] St.m.eq_1
attribute [go_sem] bnd.eq_1 bnd.eq_2
attribute [go_sem] X7.eq_1 X7.eq_2 X7.eq_3
attribute [go_sem] ZhX.eq_1 ZhX.eq_2 ZhX.eq_3 ZhX.eq_4
attribute [go_sem] AV.cells.eq_1 AV.cells.eq_2 AV.cells.eq_3 AV.cells.eq_4 AV.cells.eq_5 AV.cells.eq_6 AV.cells.eq_7 AV.cells.eq_8 AV.cells.eq_9 AV.cells.eq_10 AV.cells.eq_11 AV.cells.eq_12 AV.cells.eq_13 AV.cells.eq_14 AV.cells.eq_15
attribute [go_sem] ZK.eq_1 ZK.eq_2 ZK.eq_3 ZK.eq_4 ZK.eq_5 ZK.eq_6
attribute [go_sem] AV.solid.eq_1 AV.solid.eq_2 AV.solid.eq_3 AV.solid.eq_4
attribute [go_sem] XE.eq_1 XE.eq_2
attribute [go_sem] ZY.eq_1 ZY.eq_2
attribute [go_sem] XF.eq_1 XF.eq_2
attribute [go_sem] YP.eq_1
attribute [go_sem] W2.eq_1 W2.eq_2 W2.eq_3 W2.eq_4 W2.eq_5
attribute [go_sem] XQ.eq_1 XQ.eq_2
attribute [go_sem] D.flat.eq_1
attribute [go_sem] give.eq_1 give.eq_2
attribute [go_sem] D.beq1.eq_1 D.beq1.eq_2 D.beq1.eq_3 D.beq1.eq_4
attribute [go_sem] UD.eq_1 UD.eq_2 UD.eq_3 UD.eq_4 UD.eq_5 UD.eq_6
attribute [go_sem] not1.eq_1 not1.eq_2
attribute [go_sem] Qo.eq_1 Qo.eq_2 Qo.eq_3 Qo.eq_4
attribute [go_sem] St.nx.eq_1
attribute [go_sem] Zm.eq_1 Zm.eq_2 Zm.eq_3
attribute [go_sem] Uj.eq_1 Uj.eq_2 Uj.eq_3
attribute [go_sem] Zbk.eq_1 Zbk.eq_2
attribute [go_sem] vun.eq_1 vun.eq_2 vun.eq_3
attribute [go_sem] toD.eq_1 toD.eq_2
attribute [go_sem] Ze.eq_1 Ze.eq_2 Ze.eq_3 Ze.eq_4 Ze.eq_5 Ze.eq_6 Ze.eq_7 Ze.eq_8 Ze.eq_9 Ze.eq_10 Ze.eq_11 Ze.eq_12 Ze.eq_13 Ze.eq_14 Ze.eq_15
attribute [go_sem] D.plain.eq_1 D.plain.eq_2 D.plain.eq_3 D.plain.eq_4 D.plain.eq_5
attribute [go_sem] Zi.eq_1
attribute [go_sem] Zv.eq_1 Zv.eq_2 Zv.eq_3
attribute [go_sem] Yv.eq_1 Yv.eq_2
attribute [go_sem] Zj.eq_1 Zj.eq_2
attribute [go_sem] Zja.eq_1
attribute [go_sem] Zb9.eq_1 Zb9.eq_2
attribute [go_sem] V1.eq_1 V1.eq_2 V1.eq_3 V1.eq_4
attribute [go_sem] St.sl.eq_1
attribute [go_sem] Zk4.eq_1 Zk4.eq_2
attribute [go_sem] X8.eq_1 X8.eq_2
attribute [go_sem] W1.eq_1 W1.eq_2
attribute [go_sem] ren.eq_1 ren.eq_2
attribute [go_sem] kill.eq_1 kill.eq_2
attribute [go_sem] lkp.eq_1 lkp.eq_2
attribute [go_sem] ZfX.eq_1 ZfX.eq_2 ZfX.eq_3
attribute [go_sem] Qx.eq_1 Qx.eq_2
attribute [go_sem] beqL.eq_1 beqL.eq_2 beqL.eq_3
attribute [go_sem] D.cells.eq_1 D.cells.eq_2 D.cells.eq_3 D.cells.eq_4 D.cells.eq_5
attribute [go_sem] ZdR.eq_1 ZdR.eq_2
attribute [go_sem] ZfW.eq_1 ZfW.eq_2
attribute [go_sem] neg1.eq_1 neg1.eq_2
attribute [go_sem] Zca.eq_1 Zca.eq_2 Zca.eq_3
attribute [go_sem] ZdS.eq_1 ZdS.eq_2
attribute [go_sem] Xl.eq_1 Xl.eq_2 Xl.eq_3
attribute [go_sem] asD.eq_1
attribute [go_sem] Yl.eq_1 Yl.eq_2 Yl.eq_3 Yl.eq_4 Yl.eq_5 Yl.eq_6 Yl.eq_7 Yl.eq_8 Yl.eq_9 Yl.eq_10 Yl.eq_11 Yl.eq_12 Yl.eq_13 Yl.eq_14 Yl.eq_15 Yl.eq_16 Yl.eq_17
attribute [go_sem] Zaw.eq_1 Zaw.eq_2 Zaw.eq_3 Zaw.eq_4 Zaw.eq_5
attribute [go_sem] D.one.eq_1 D.one.eq_2 D.one.eq_3 D.one.eq_4 D.one.eq_5
attribute [go_sem] freeze.eq_1 freeze.eq_2
attribute [go_sem] Wm.eq_1
attribute [go_sem] loOf.eq_1 loOf.eq_2
attribute [go_sem] Eff.on.eq_1
attribute [go_sem] appT.eq_1
attribute [go_sem] Vw.eq_1 Vw.eq_2
attribute [go_sem] cloV.eq_1
attribute [go_sem] slice0.eq_1 slice0.eq_2
attribute [go_sem] evM.eq_1 evM.eq_2
attribute [go_sem] YX.eq_1 YX.eq_2
attribute [go_sem] hiOf.eq_1 hiOf.eq_2
attribute [go_sem] ZbG.eq_1 ZbG.eq_2 ZbG.eq_3
attribute [go_sem] ZkB.eq_1
attribute [go_sem] idx.eq_1 idx.eq_2
attribute [go_sem] XB.eq_1 XB.eq_2 XB.eq_3 XB.eq_4 XB.eq_5
attribute [go_sem] Ve.eq_1 Ve.eq_2 Ve.eq_3
attribute [go_sem] ZI.eq_1 ZI.eq_2
attribute [go_sem] D.notSl.eq_1 D.notSl.eq_2
attribute [go_sem] ZmI.eq_1 ZmI.eq_2
attribute [go_sem] Wq.eq_1 Wq.eq_2 Wq.eq_3 Wq.eq_4 Wq.eq_5 Wq.eq_6
attribute [go_sem] Yx.eq_1 Yx.eq_2 Yx.eq_3
attribute [go_sem] CO.guard.eq_1
attribute [go_sem] Jj.eq_1
attribute [go_sem] VF.eq_1
attribute [go_sem] Wn.eq_1 Wn.eq_2 Wn.eq_3
attribute [go_sem] ZbB.eq_1
attribute [go_sem] Eff.adds.eq_1
attribute [go_sem] Zde.eq_1 Zde.eq_2
attribute [go_sem] XI.eq_1 XI.eq_2
attribute [go_sem] Zd.eq_1 Zd.eq_2
attribute [go_sem] Zb.eff.eq_1
attribute [go_sem] JA.eq_1 JA.eq_2
attribute [go_sem] ZjC.eq_1 ZjC.eq_2
attribute [go_sem] Zcl.eq_1 Zcl.eq_2 Zcl.eq_3
attribute [go_sem] del.eq_1 del.eq_2
attribute [go_sem] ZeB.eq_1
attribute [go_sem] Zhg.eq_1 Zhg.eq_2
attribute [go_sem] Vl.eq_1 Vl.eq_2
attribute [go_sem] Zdg.eq_1 Zdg.eq_2
attribute [go_sem] D.isAgg.eq_1 D.isAgg.eq_2
attribute [go_sem] Vm.eq_1 Vm.eq_2 Vm.eq_3 Vm.eq_4 Vm.eq_5
attribute [go_sem] JE.eq_1
attribute [go_sem] slice3.eq_1
attribute [go_sem] Wp.eq_1 Wp.eq_2
attribute [go_sem] args.eq_1 args.eq_2
attribute [go_sem] Zdf.eq_1 Zdf.eq_2
attribute [go_sem] UO.eq_1
attribute [go_sem] ZbC.eq_1 ZbC.eq_2 ZbE.eq_1 ZbE.eq_2
attribute [go_sem] Y0.eq_1
attribute [go_sem] evL.eq_1 evL.eq_2
attribute [go_sem] Zcm.eq_1 Zcm.eq_2 Zcm.eq_3
attribute [go_sem] YW.eq_1 YW.eq_2 YW.eq_3
attribute [go_sem] W5.eq_1 W5.eq_2
attribute [go_sem] Zex.eq_1 Zex.eq_2
attribute [go_sem] Eff.sets.eq_1
attribute [go_sem] W6.eq_1 W6.eq_2 W6.eq_3
attribute [go_sem] ZbA.eq_1 ZbA.eq_2
attribute [go_sem] ZbF.eq_1 ZbF.eq_2
attribute [go_sem] VT.eq_1 VT.eq_2 VT.eq_3
attribute [go_sem] ZlI.eq_1
attribute [go_sem] makeT.eq_1
attribute [go_sem] Xn.eq_1 Xn.eq_2
attribute [go_sem] ZmJ.eq_1 ZmJ.eq_2
attribute [go_sem] Zez.eq_1 Zez.eq_2
attribute [go_sem] Wu.eq_1 Wu.eq_2
attribute [go_sem] Zgm.eq_1
attribute [go_sem] Wt.eq_1 Wt.eq_2
attribute [go_sem] AV.atom.eq_1 AV.atom.eq_2 AV.atom.eq_3 AV.atom.eq_4 AV.atom.eq_5
attribute [go_sem] Eff.dels.eq_1
attribute [go_sem] WS.eq_1 WS.eq_2 WS.eq_3
attribute [go_sem] mat.eq_1 mat.eq_2 mat.eq_3
attribute [go_sem] ZG.eq_1
attribute [go_sem] Ws.eq_1 Ws.eq_2
attribute [go_sem] Zhi.eq_1
attribute [go_sem] ZlG.eq_1
attribute [go_sem] WU.eq_1 WU.eq_2
attribute [go_sem] YY.eq_1
attribute [go_sem] Z0.eq_1 Z0.eq_2 Z0.eq_3 Z0.eq_4
attribute [go_sem] ZlH.eq_1
attribute [go_sem] Jx.eq_1 Jx.eq_2
attribute [go_sem] Zcn.eq_1 Zcn.eq_2
attribute [go_sem] ZiD.eq_1 ZiD.eq_2
attribute [go_sem] ZaK.eq_1 ZaK.eq_2 ZaK.eq_3 ZaK.eq_4
attribute [go_sem] Za0.eq_1 Za0.eq_2
attribute [go_sem] UM.eq_1 UM.eq_2
attribute [go_sem] Jz.eq_1 Jz.eq_2 Jz.eq_3 Jz.eq_4 Jz.eq_5
attribute [go_sem] Zhh.eq_1 Zhh.eq_2
attribute [go_sem] ZeA.eq_1
attribute [go_sem] convS.eq_1 convS.eq_2
attribute [go_sem] ZbD.eq_1 ZbD.eq_2
attribute [go_sem] CO.tl.eq_1
attribute [go_sem] JB.eq_1 JB.eq_2 JB.eq_3 JB.eq_4
attribute [go_sem] CO.dst.eq_1
attribute [go_sem] teOf.eq_1
attribute [go_sem] ZjD.eq_1 ZjD.eq_2 ZjD.eq_3
attribute [go_sem] Zey.eq_1
attribute [go_sem] Ziy.eq_1 Ziy.eq_2
attribute [go_sem] Ziz.eq_1
attribute [go_sem] Eff.val.eq_1
attribute [go_sem] sliceS.eq_1 sliceS.eq_2
attribute [go_sem] Q7.eq_1 Q7.eq_2 Q7.eq_3
attribute [go_sem] Jy.eq_1 Jy.eq_2 Jy.eq_3 Jy.eq_4
attribute [go_sem] YV.eq_1
attribute [go_sem] buildSl.eq_1 buildSl.eq_2
attribute [go_sem] Yo.eq_1 Yo.eq_2 Yo.eq_3 Yo.eq_4
attribute [go_sem] Vb.eq_1 Vb.eq_2 Vb.eq_3 Vb.eq_4 Vb.eq_5
attribute [go_sem] Zdd.eq_1 Zdd.eq_2
attribute [go_sem] ZeE.eq_1
attribute [go_sem] evP.eq_1 evP.eq_2
attribute [go_sem] ZbH.eq_1 ZbH.eq_2
attribute [go_sem] WT.eq_1
attribute [go_sem] Zad.eq_1
attribute [go_sem] Zgl.eq_1 Zgl.eq_2
attribute [go_sem] ZeD.eq_1
attribute [go_sem] XZ.eq_1
attribute [go_sem] ZiC.eq_1
attribute [go_sem] bnT.eq_1 bnT.eq_2
attribute [go_sem] Wo.eq_1 Wo.eq_2
attribute [go_sem] XY.eq_1 XY.eq_2
attribute [go_sem] YZ.eq_1 YZ.eq_2
attribute [go_sem] asgT.eq_1 asgT.eq_2
attribute [go_sem] Zco.eq_1 Zco.eq_2
attribute [go_sem] W8.eq_1 W8.eq_2
attribute [go_sem] JC.eq_1 JC.eq_2 JC.eq_3 JC.eq_4
attribute [go_sem] Ziw.eq_1 Ziw.eq_2
attribute [go_sem] CO.op.eq_1
attribute [go_sem] UP.eq_1 UP.eq_2
attribute [go_sem] UL.eq_1 UL.eq_2
attribute [go_sem] ZlF.eq_1 ZlF.eq_2
attribute [go_sem] Zae.eq_1 Zae.eq_2 Zae.eq_3
attribute [go_sem] ZiA.eq_1 ZiA.eq_2
attribute [go_sem] Za1.eq_1 Za1.eq_2
attribute [go_sem] UN.eq_1 UN.eq_2
attribute [go_sem] WL.eq_1 WL.eq_2 WL.eq_3 WL.eq_4 WL.eq_5 WL.eq_6 WL.eq_7 WL.eq_8 WL.eq_9 WL.eq_10
attribute [go_sem] VG.eq_1
attribute [go_sem] X0.eq_1 X0.eq_2 X0.eq_3 X0.eq_4
attribute [go_sem] Eff.frz.eq_1
attribute [go_sem] buildT.eq_1
attribute [go_sem] ZO.eq_1 ZO.eq_2
attribute [go_sem] Zac.eq_1 Zac.eq_2
attribute [go_sem] Zb.gone.eq_1
attribute [go_sem] meltIn.eq_1 meltIn.eq_2
attribute [go_sem] ZaL.eq_1
attribute [go_sem] Zix.eq_1 Zix.eq_2
attribute [go_sem] convI.eq_1 convI.eq_2
attribute [go_sem] ZdJ.eq_1 ZdJ.eq_2
attribute [go_sem] Wa.eq_1 Wa.eq_2 Wa.eq_3
attribute [go_sem] bd.eq_1
attribute [go_sem] Wr.eq_1 Wr.eq_2
attribute [go_sem] QE.eq_1
attribute [go_sem] Zhj.eq_1 Zhj.eq_2
attribute [go_sem] Zaf.eq_1
attribute [go_sem] QM.eq_1 QM.eq_2
attribute [go_sem] ZkM.eq_1 ZkM.eq_2
attribute [go_sem] Zo.eq_1 Zo.eq_2 Zo.eq_3 Zo.eq_4 Zo.eq_5 Zo.eq_6 Zo.eq_7 Zo.eq_8 Zo.eq_9 Zo.eq_10 Zo.eq_11 Zo.eq_12 Zo.eq_13 Zo.eq_14 Zo.eq_15 Zo.eq_16 Zo.eq_17 Zo.eq_18 Zo.eq_19 Zo.eq_20 Zo.eq_21 Zo.eq_22 Zo.eq_23 Zo.eq_24 Zo.eq_25 Zo.eq_26 Zo.eq_27 Zo.eq_28 Zo.eq_29 Zo.eq_30 Zo.eq_31 Zo.eq_32 Zo.eq_33 Zo.eq_34 Zo.eq_35 Zo.eq_36 Zo.eq_37 Zo.eq_38 Zo.eq_39 Zo.eq_40
attribute [go_sem] YB.eq_1 YB.eq_2 YB.eq_3 YB.eq_4 YB.eq_5
attribute [go_sem] JI.eq_1
attribute [go_sem] Zhv.eq_1 Zhv.eq_2
attribute [go_sem] WA.eq_1 WA.eq_2
attribute [go_sem] U1.eq_1
attribute [go_sem] W9.eq_1 W9.eq_2 W9.eq_3 W9.eq_4 W9.eq_5
attribute [go_sem] Yy.eq_1 Yy.eq_2
attribute [go_sem] Zdl.eq_1 Zdl.eq_2
attribute [go_sem] ZlR.eq_1 ZlR.eq_2
attribute [go_sem] Zgu.eq_1 Zgu.eq_2
attribute [go_sem] Qj.eq_1 Qj.eq_2
attribute [go_sem] only.eq_1 only.eq_2
attribute [go_sem] ZjO.eq_1 ZjO.eq_2
attribute [go_sem] JF.eq_1 JF.eq_2
attribute [go_sem] XM.eq_1 XM.eq_2
attribute [go_sem] okL.eq_1 okL.eq_2
attribute [go_sem] okC.eq_1 okC.eq_2 okC.eq_3 okC.eq_4 okC.eq_5 okC.eq_6 okC.eq_7 okC.eq_8 okC.eq_9 okC.eq_10
attribute [go_sem] ZdM.eq_1 ZdM.eq_2
attribute [go_sem] VX.eq_1 VX.eq_2
attribute [go_sem] UX.eq_1 UX.eq_2 UX.eq_3
attribute [go_sem] Zaj.eq_1 Zaj.eq_2
attribute [go_sem] JH.eq_1 JH.eq_2
attribute [go_sem] Qb.eq_1 Qb.eq_2
attribute [go_sem] Zh.eq_1 Zh.eq_2
attribute [go_sem] Xv.eq_1 Xv.eq_2 Xv.eq_3
attribute [go_sem] ZbR.eq_1
attribute [go_sem] XP.eq_1 XP.eq_2
attribute [go_sem] Zhw.eq_1 Zhw.eq_2
attribute [go_sem] CO.starts.eq_1
attribute [go_sem] XL.eq_1 XL.eq_2
attribute [go_sem] Qf.eq_1 Qf.eq_2
attribute [go_sem] ZkL.eq_1 ZkL.eq_2
attribute [go_sem] ZcA.eq_1
attribute [go_sem] ZeX.eq_1 ZeX.eq_2 ZeX.eq_3
attribute [go_sem] UZ.eq_1 UZ.eq_2
attribute [go_sem] Ya.eq_1 Ya.eq_2
attribute [go_sem] Ua.eq_1
attribute [go_sem] ZeY.eq_1 ZeY.eq_2
attribute [go_sem] ZkK.eq_1
attribute [go_sem] QK.body.eq_1
attribute [go_sem] ZbS.eq_1
attribute [go_sem] Za8.eq_1 Za8.eq_2
attribute [go_sem] Y4.eq_1 Y4.eq_2 Y4.eq_3 Y4.eq_4 Y4.eq_5
attribute [go_sem] QK.res.eq_1
attribute [go_sem] Xe.eq_1 Xe.eq_2
attribute [go_sem] Q4.eq_1 Q4.eq_2 Q4.eq_3 Q4.eq_4 Q4.eq_5 Q4.eq_6 Q4.eq_7 Q4.eq_8 Q4.eq_9 Q4.eq_10 Q4.eq_11 Q4.eq_12
attribute [go_sem] ZeZ.eq_1 ZeZ.eq_2
attribute [go_sem] Xu.eq_1 Xu.eq_2
attribute [go_sem] QK.nt.eq_1
attribute [go_sem] okD.eq_1 okD.eq_2
attribute [go_sem] Zhj.eq_1 Vb.eq_1 Vb.eq_2 Vb.eq_3 Vb.eq_4
attribute [go_sem] YI.eq_1 Wx.eq_1 Wx.eq_2 Wx.eq_3 Wx.eq_4 Wx.eq_5 Wx.eq_6 Wx.eq_7 Wx.eq_8 Wx.eq_9 Wx.eq_10 X3.eq_1
attribute [go_sem] Qh.eq_3 QH.eq_1 AV.atom.eq_1 AV.atom.eq_2 AV.atom.eq_3 AV.atom.eq_4
attribute [go_sem] ZfK.eq_1 ZfK.eq_2 ZaI.eq_1 ZaI.eq_2
attribute [go_sem] Zc Zmh Znq
attribute [go_sem] List.map_cons List.map_nil List.flatMap_cons List.flatMap_nil List.append_nil List.nil_append List.cons_append List.length_cons List.length_nil List.all_cons List.all_nil List.any_cons List.any_nil List.contains_cons List.contains_nil List.filter_cons List.filter_nil List.drop_zero List.drop_succ_cons List.drop_nil List.take_zero List.take_succ_cons List.take_nil List.getElem?_cons_zero List.getElem?_cons_succ List.getElem?_nil Option.map_some Option.map_none Bool.and_true Bool.true_and Bool.and_false Bool.false_and Bool.or_true Bool.true_or Bool.or_false Bool.false_or Bool.not_true Bool.not_false decide_true decide_false and_true true_and and_false false_and not_true not_false_eq_true or_true true_or or_false false_or if_true if_false true_implies false_implies implies_true imp_self eq_self ne_eq beq_self_eq_true Bool.true_eq_false Bool.false_eq_true List.isEmpty_nil List.isEmpty_cons List.range_zero List.set_cons_zero List.set_cons_succ Option.some.injEq reduceCtorEq Nat.reduceLeDiff
def Zer (hp:Hp):List Nat→List Nat
 | []=>[]
 | i :: r=>if JB (lkp hp i)=true then i :: Zer hp r else Zer hp r
theorem gE (hp:Hp) (ids:List Nat):(ids.filter fun i=>JB (lkp hp i))=Zer hp ids:=by
 induction ids with
 | nil=>rfl
 | cons i r ih=>simp only[List.filter_cons,Zer,ih]
def Zge (hp:Hp) (rs:List Nat):List Nat→Bool
 | []=>true
 | i :: r=>(JB (lkp hp i) || rs.contains i)&&Zge hp rs r
def Zgf (hp:Hp):List Nat→Bool
 | []=>false
 | i :: r=>Wt (lkp hp i) || Zgf hp r
theorem gG (hp:Hp) (ids:List Nat):(ids.any fun i=>Wt (lkp hp i))=Zgf hp ids:=by
 induction ids with
 | nil=>rfl
 | cons i r ih=>simp only[List.any_cons,Zgf,ih]
attribute [go_sem] Zgf.eq_1 Zgf.eq_2
@[go_sem] theorem appV_eq (hp:Hp) (s b:Nat) (str flat:Bool) (base:Nat) (x y:AV):ZiB hp s b str flat base x y=W7 hp s b str flat base x y (QI hp x) (QI hp y):=rfl
attribute [go_sem] W7.eq_1 W7.eq_2 W7.eq_3
@[go_sem] theorem treeId_d (hp:Hp) (x:D):QI hp (.d x)=[]:=rfl
@[go_sem] theorem Zpa (hp:Hp):QI hp .nil=[]:=rfl
@[go_sem] theorem ZoA (hp:Hp) (k o n:Nat):QI hp (.ownv k o n)=[]:=rfl
@[go_sem] theorem Zpb (hp:Hp) (k:Nat):QI hp (.own k)=if Wt (lkp hp k)=true then [k] else []:=rfl
@[go_sem] theorem noKeep_0 (M:Zf) (f:Nat):Q8 M f 0=M f 0:=rfl
@[go_sem] theorem noKeep_1 (M:Zf) (f:Nat):Q8 M f 1=M f 1:=rfl
@[go_sem] theorem noKeep_2 (M:Zf) (f:Nat):Q8 M f 2=M f 2:=rfl
@[go_sem] theorem noKeep_3 (M:Zf) (f:Nat):Q8 M f 3=M f 3:=rfl
@[go_sem] theorem noKeep_4 (M:Zf) (f:Nat):Q8 M f 4=M f 4:=rfl
@[go_sem] theorem noKeep_5 (M:Zf) (f:Nat):Q8 M f 5=M f 5:=rfl
@[go_sem] theorem noKeep_6 (M:Zf) (f:Nat):Q8 M f 6=M f 6:=rfl
@[go_sem] theorem noKeep_99 (M:Zf) (f:Nat):Q8 M f 99=false:=rfl
theorem gF (hp:Hp) (rs ids:List Nat):V9 hp rs ids=Zge hp rs ids:=by
 induction ids with
 | nil=>rfl
 | cons i r ih=>simp only[V9,Li,Zge] at ih ⊢;rw[ih]
attribute [go_sem] Zer.eq_1 Zer.eq_2 Zge.eq_1 Zge.eq_2
@[go_sem] theorem okV_d (x:D):okV (.d x)=true:=rfl
@[go_sem] theorem okV_nil:okV .nil=true:=rfl
@[go_sem] theorem okV_nilp:okV .nilp=true:=rfl
@[go_sem] theorem okV_nili:okV .nili=true:=rfl
@[go_sem] theorem okV_ptr (a b:Nat):okV (.ptr a b)=true:=rfl
@[go_sem] theorem okV_prow (a b c e:Nat):okV (.prow a b c e)=true:=rfl
@[go_sem] theorem okV_pim (cs:List D):okV (.pim cs)=true:=rfl
@[go_sem] theorem okV_own (a:Nat):okV (.own a)=true:=rfl
@[go_sem] theorem okV_ownv (a b c:Nat):okV (.ownv a b c)=true:=rfl
@[go_sem] theorem okV_agg (cs:List AV):okV (.agg cs)=Zhv cs:=rfl
@[go_sem] theorem okV_tup0:okV (.tup [])=true:=rfl
@[go_sem] theorem Zpc (sl:Sl) (a:COp) (x y:Nat) (v:AV):XC sl a (.ptr x y) v=true:=rfl
@[go_sem] theorem seenIn_d (sl:Sl) (a:COp) (x y z t:Nat) (v:D):XC sl a (.prow x y z t) (.d v)=true:=rfl
@[go_sem] theorem Zpd (sl:Sl) (a:COp) (x y z t:Nat) (v:List AV):XC sl a (.prow x y z t) (.agg v)=(okV (.agg v)&&QM sl (Zo a) (Zj (.agg v))):=rfl
@[go_sem] theorem Zpe (sl:Sl) (a:COp) (x y z t:Nat) (k:Nat):XC sl a (.prow x y z t) (.own k)=(okV (.own k)&&QM sl (Zo a) (Zj (.own k))):=rfl
@[go_sem] theorem Zpf (sl:Sl) (a:COp) (x y z t:Nat):XC sl a (.prow x y z t) .nil=(okV .nil&&QM sl (Zo a) (Zj .nil)):=rfl
@[go_sem] theorem ZoB (sl:Sl) (a:COp) (x y z t:Nat):XC sl a (.prow x y z t) .nilp=(okV .nilp&&QM sl (Zo a) (Zj .nilp)):=rfl
@[go_sem] theorem ZoC (sl:Sl) (a:COp) (x y z t:Nat) (k m n:Nat):XC sl a (.prow x y z t) (.ownv k m n)=(okV (.ownv k m n)&&QM sl (Zo a) (Zj (.ownv k m n))):=rfl
@[go_sem] theorem ZoD (sl:Sl) (a:COp) (k:Nat):seenSrc sl a (.own k)=Qb sl k (Zo a):=rfl
@[go_sem] theorem seenSrc_d (sl:Sl) (a:COp) (x:D):seenSrc sl a (.d x)=true:=rfl
@[go_sem] theorem ZoE (sl:Sl) (a:COp):seenSrc sl a .nil=true:=rfl
@[go_sem] theorem ZnO (sl:Sl) (a:COp) (x y z:Nat):seenSrc sl a (.ownv x y z)=true:=rfl
@[go_sem] theorem okV_iteV (b:Bool) (v:AV):okV (Zax b v)=(!b || okV v):=by cases b<;>simp[Zax,okV]
@[go_sem] theorem awayV_d (sl:Sl) (xs:List Opd) (x:D):Wy sl xs (.d x)=true:=rfl
@[go_sem] theorem awayV_nil (sl:Sl) (xs:List Opd):Wy sl xs .nil=true:=rfl
@[go_sem] theorem Zpg (sl:Sl) (xs:List Opd):Wy sl xs .nilp=true:=rfl
@[go_sem] theorem awayV_ptr (sl:Sl) (xs:List Opd) (k o:Nat):Wy sl xs (.ptr k o)=Qb sl k xs:=rfl
@[go_sem] theorem awayV_pim (sl:Sl) (xs:List Opd) (cs:List D):Wy sl xs (.pim cs)=true:=rfl
@[go_sem] theorem awayV_own (sl:Sl) (xs:List Opd) (a:Nat):Wy sl xs (.own a)=true:=rfl
@[go_sem] theorem Zph (sl:Sl) (xs:List Opd) (a b c:Nat):Wy sl xs (.ownv a b c)=true:=rfl
@[go_sem] theorem awayV_agg (sl:Sl) (xs:List Opd) (cs:List AV):Wy sl xs (.agg cs)=true:=rfl
@[go_sem] theorem awayV_tup (sl:Sl) (xs:List Opd) (cs:List AV):Wy sl xs (.tup cs)=true:=rfl
end Go.Abs.E
