/- Own text. -/
import Derived.Test.YtefabmohhbhlfaaAbsRun
set_option linter.unusedVariables false
set_option linter.unusedSimpArgs false
namespace Go.Abs.E
open Go Go.Abs
abbrev _root_.Go.Abs.Opd.i (n:Int):Opd:=.v (.d (.int .i64 n))
abbrev _root_.Go.Abs.Opd.b (x:Bool):Opd:=.v (.d (.bool x))
def stW {α:Type} (x:Option α) (K:α→Prop):Prop:=match x with
 | some a=>K a
 | none=>False
def gW (x:Option Bool) (A B:Prop):Prop:=match x with
 | some b=>(b=true→A)∧(b=false→B)
 | none=>False
def Vc (v:AV) (A B:Prop):Prop:=match v with
 | .d (.bool t)=>(t=true→A)∧(t=false→B)
 | _=>False
theorem XJ {α:Type} (a:α) (K:α→Prop):stW (some a) K=K a:=rfl
theorem Zbc {α:Type} (K:α→Prop):stW none K=False:=rfl
theorem Uo {α β:Type} (x:Option α) (f:α→Option β) (K:β→Prop):stW (bnd x f) K=stW x fun a=>stW (f a) K:=by cases x<;>rfl
@[go_sem] theorem Zoq (A B:Prop):gW (some true) A B=A:=by simp[gW]
@[go_sem] theorem gW_false (A B:Prop):gW (some false) A B=B:=by simp[gW]
@[go_sem] theorem gW_dec (p:Prop) [Decidable p] (A B:Prop):gW (some (decide p)) A B=((p→A)∧(¬p→B)):=by simp[gW]
@[go_sem] theorem gW_not (b:Bool) (A B:Prop):gW (some (!b)) A B=gW (some b) B A:=by cases b<;>simp[gW]
theorem gW_some (b:Bool) (A B:Prop):gW (some b) A B=((b=true→A)∧(b=false→B)):=rfl
@[go_sem] theorem ZsO (A B:Prop):Vc (.d (.bool true)) A B=A:=by simp[Vc]
@[go_sem] theorem Zsm (A B:Prop):Vc (.d (.bool false)) A B=B:=by simp[Vc]
@[go_sem] theorem condW_dec (p:Prop) [Decidable p] (A B:Prop):Vc (.d (.bool (decide p))) A B=((p→A)∧(¬p→B)):=by simp[Vc]
@[go_sem] theorem condW_not (b:Bool) (A B:Prop):Vc (.d (.bool (!b))) A B=Vc (.d (.bool b)) B A:=by cases b<;>simp[Vc]
@[go_sem] theorem condW_and (a b:Bool) (A B:Prop):Vc (.d (.bool (a&&b))) A B=Vc (.d (.bool a)) (Vc (.d (.bool b)) A B) B:=by cases a<;>cases b<;>simp[Vc]
@[go_sem] theorem condW_or (a b:Bool) (A B:Prop):Vc (.d (.bool (a || b))) A B=Vc (.d (.bool a)) A (Vc (.d (.bool b)) A B):=by cases a<;>cases b<;>simp[Vc]
@[go_sem] theorem ZsP (b:Bool) (A B:Prop):Vc (.d (.bool b)) A B=((b=true→A)∧(b=false→B)):=rfl
@[congr] theorem gW_congr {x y:Option Bool} {A B:Prop} (h:x=y):gW x A B=gW y A B:=by rw[h]
@[congr] theorem Zsn {v w:AV} {A B:Prop} (h:v=w):Vc v A B=Vc w A B:=by rw[h]
section
variable (X:Fns) (M:Zg)
noncomputable def UG (nx:Nat):Nat→List CO→Sl→Hp→(Sl→Hp→Prop)→Prop
 | _,[],sl,hp,K=>K sl hp
 | i,o :: rest,sl,hp,K=>gW (ZL sl o.guard)
   (stW (Xu (nx+64*i) o.dst sl hp (vop (Zj X M) M sl hp (nx+64*i) o.op)) fun r=>UG nx (i+1) rest r.1 r.2 K)
   (UG nx (i+1) rest (Zi sl o.dst (.tup [])) hp K)
def Ul (nx i:Nat) (d:Option Nat) (rest:List CO) (sl:Sl) (hp:Hp) (K:Sl→Hp→Prop) (e:Option Zb):Prop:=
 stW (Xu (nx+64*i) d sl hp e) fun r=>UG X M nx (i+1) rest r.1 r.2 K
@[go_sem] theorem opsW_nil (nx i:Nat) (sl:Sl) (hp:Hp) (K:Sl→Hp→Prop):UG X M nx i [] sl hp K=K sl hp:=rfl
@[go_sem] theorem opsW_cons (nx i:Nat) (d:Option Nat) (tl:Bool) (op:COp) (aa:List CO) (sl:Sl) (hp:Hp) (K:Sl→Hp→Prop) :
  UG X M nx i (⟨d,none,op,tl⟩ :: aa) sl hp K=Ul X M nx i d aa sl hp K (vop (Zj X M) M sl hp (nx+64*i) op):=by
 simp[UG,Ul,ZL,Zoq]
def Zce (b:Bool) (v:AV):AV:=if b then v else .tup []
def V1 (b:Bool) (nx i:Nat) (d:Option Nat) (rest:List CO) (sl:Sl) (hp:Hp) (K:Sl→Hp→Prop) (e:Option Zb):Prop:=
 gW (some b) (Ul X M nx i d rest sl hp K e) (UG X M nx (i+1) rest (Zi sl d (.tup [])) hp K)
def ZkD (g:Option Bool) (nx i:Nat) (d:Option Nat) (op:COp) (rest:List CO) (sl:Sl) (hp:Hp) (K:Sl→Hp→Prop):Prop:=
 gW g (Ul X M nx i d rest sl hp K (vop (Zj X M) M sl hp (nx+64*i) op)) (UG X M nx (i+1) rest (Zi sl d (.tup [])) hp K)
@[go_sem] theorem ZsQ (nx i g:Nat) (w:Bool) (d:Option Nat) (tl:Bool) (op:COp) (aa:List CO) (sl:Sl) (hp:Hp) (K:Sl→Hp→Prop) :
  UG X M nx i (⟨d,some (g,w),op,tl⟩ :: aa) sl hp K=ZkD X M (Zax w (gs sl g)) nx i d op aa sl hp K:=rfl
@[go_sem] theorem Zso (b:Bool) (nx i:Nat) (d:Option Nat) (op:COp) (aa:List CO) (sl:Sl) (hp:Hp) (K:Sl→Hp→Prop) :
  ZkD X M (some b) nx i d op aa sl hp K=V1 X M b nx i d aa sl hp K (vop (Zj X M) M sl hp (nx+64*i) op):=rfl
@[go_sem] theorem gA (nx i:Nat) (d:Option Nat) (aa:List CO) (sl:Sl) (hp:Hp) (K:Sl→Hp→Prop) (e:Option Zb) :
  V1 X M true nx i d aa sl hp K e=Ul X M nx i d aa sl hp K e:=by simp[V1,gW]
@[go_sem] theorem gB (nx i:Nat) (d:Option Nat) (aa:List CO) (sl:Sl) (hp:Hp) (K:Sl→Hp→Prop) (e:Option Zb) :
  V1 X M false nx i d aa sl hp K e=UG X M nx (i+1) aa (Zi sl d (.tup [])) hp K:=by simp[V1,gW]
@[go_sem] theorem ZkE (b:Bool) (nx i:Nat) (d:Option Nat) (aa:List CO) (sl:Sl) (hp:Hp) (K:Sl→Hp→Prop) (v:AV) :
  V1 X M b nx i d aa sl hp K (Qe v)=UG X M nx (i+1) aa (Zi sl d (Zce b v)) hp K:=by
 cases b
 ·simp[V1,gW,Zce]
 ·simp only[V1,gW,Zce,Kk,true_implies,Bool.true_eq_false,false_implies,and_true];rfl
@[go_sem] theorem Zsp (b:Bool) (nx i:Nat) (d:Option Nat) (aa:List CO) (sl:Sl) (hp:Hp) (K:Sl→Hp→Prop) (v:AV) :
  V1 X M b nx i d aa sl hp K (some { eff := { val:=v,adds:=[],sets:=[],dels:=[],frz:=[] },gone:=[] })=UG X M nx (i+1) aa (Zi sl d (Zce b v)) hp K:=ZkE X M b nx i d aa sl hp K v
@[congr] theorem ZrO {g g' : Option Bool} {nx i:Nat} {d:Option Nat} {op:COp} {aa:List CO} {sl:Sl} {hp:Hp} {K:Sl→Hp→Prop} (h:g=g') :
  ZkD X M g nx i d op aa sl hp K=ZkD X M g' nx i d op aa sl hp K:=by rw[h]
@[congr] theorem ZrP {b b' : Bool} {nx i:Nat} {d:Option Nat} {aa:List CO} {sl:Sl} {hp:Hp} {K:Sl→Hp→Prop} {e e' : Option Zb} (hb:b=b') (h:b'=true→e=e') :
  V1 X M b nx i d aa sl hp K e=V1 X M b' nx i d aa sl hp K e':=by
 subst hb;cases b
 ·simp[V1,gW]
 ·rw[h rfl]
@[go_sem] theorem Zsq (nx i:Nat) (d:Option Nat) (aa:List CO) (sl:Sl) (hp:Hp) (K:Sl→Hp→Prop) (v:AV) :
  Ul X M nx i d aa sl hp K (Qe v)=UG X M nx (i+1) aa (Zi sl d v) hp K:=rfl
@[go_sem] theorem ZsR (nx i:Nat) (d:Option Nat) (aa:List CO) (sl:Sl) (hp:Hp) (K:Sl→Hp→Prop) (v:AV) :
  Ul X M nx i d aa sl hp K (some { eff := { val:=v,adds:=[],sets:=[],dels:=[],frz:=[] },gone:=[] })=UG X M nx (i+1) aa (Zi sl d v) hp K:=rfl
@[go_sem] theorem ZsS (nx i:Nat) (d:Option Nat) (aa:List CO) (sl:Sl) (hp:Hp) (K:Sl→Hp→Prop) (e:Zb) :
  Ul X M nx i d aa sl hp K (some e)=(Qr (nx+64*i) (nx+64*i+64) e.eff.adds=true∧UG X M nx (i+1) aa (Zi (Qy e.gone sl) d e.eff.val) (e.eff.on (Yx e.gone hp)) K):=by
 unfold Ul Xu;rw[Zc];split<;>rename_i h
 ·simp only[XJ,h,true_and];rfl
 ·simp only[Zbc,h,false_and,Ka]
@[go_sem] theorem ZsT (nx i:Nat) (d:Option Nat) (aa:List CO) (sl:Sl) (hp:Hp) (K:Sl→Hp→Prop):Ul X M nx i d aa sl hp K none=False:=rfl
@[go_sem] theorem stepW_ite (nx i:Nat) (d:Option Nat) (aa:List CO) (sl:Sl) (hp:Hp) (K:Sl→Hp→Prop) (c:Prop) [Decidable c] (a b:Option Zb) :
  Ul X M nx i d aa sl hp K (if c then a else b)=((c→Ul X M nx i d aa sl hp K a)∧(¬c→Ul X M nx i d aa sl hp K b)):=by
 by_cases h:c<;>simp[h]
noncomputable def XE (nx:Nat):Nat→Bool→List CO→Sl→Hp→(Sl→Hp→Prop)→Prop
 | _,_,[],sl,hp,K=>K sl hp
 | i,tail,o :: rest,sl,hp,K=>gW (ZL sl o.guard)
   (stW (Xu (nx+64*i) o.dst sl hp (YB (Zj X M) (Xa M) nx i (CO.starts o) o.op sl hp)) fun r=>XE nx (i+1) tail rest r.1 r.2 K)
   (XE nx (i+1) tail rest (Zi sl o.dst (.tup [])) hp K)
def Vd (nx i:Nat) (t:Bool) (d:Option Nat) (rest:List CO) (sl:Sl) (hp:Hp) (K:Sl→Hp→Prop) (e:Option Zb):Prop:=
 stW (Xu (nx+64*i) d sl hp (if t then e else UW e)) fun r=>XE X M nx (i+1) false rest r.1 r.2 K
@[go_sem] theorem opsDW_nil (nx i:Nat) (t:Bool) (sl:Sl) (hp:Hp) (K:Sl→Hp→Prop):XE X M nx i t [] sl hp K=K sl hp:=rfl
@[go_sem] theorem ZsU (nx i:Nat) (d:Option Nat) (tl:Bool) (op:COp) (aa:List CO) (sl:Sl) (hp:Hp) (K:Sl→Hp→Prop) :
  XE X M nx i false (⟨d,none,op,tl⟩ :: aa) sl hp K=Vd X M nx i (Zb4 op || tl) d aa sl hp K (vop (Zj X M) (Xa M) sl hp (nx+64*i) op):=by
 simp[XE,Vd,ZL,Zoq,YB,CO.starts]
def Yq (b:Bool) (nx i:Nat) (t:Bool) (d:Option Nat) (rest:List CO) (sl:Sl) (hp:Hp) (K:Sl→Hp→Prop) (e:Option Zb):Prop:=
 gW (some b) (Vd X M nx i t d rest sl hp K e) (XE X M nx (i+1) false rest (Zi sl d (.tup [])) hp K)
def Zf7 (g:Option Bool) (nx i:Nat) (t:Bool) (d:Option Nat) (op:COp) (rest:List CO) (sl:Sl) (hp:Hp) (K:Sl→Hp→Prop):Prop:=
 gW g (Vd X M nx i t d rest sl hp K (vop (Zj X M) (Xa M) sl hp (nx+64*i) op)) (XE X M nx (i+1) false rest (Zi sl d (.tup [])) hp K)
@[go_sem] theorem Zsr (nx i g:Nat) (w:Bool) (d:Option Nat) (tl:Bool) (op:COp) (aa:List CO) (sl:Sl) (hp:Hp) (K:Sl→Hp→Prop) :
  XE X M nx i false (⟨d,some (g,w),op,tl⟩ :: aa) sl hp K=Zf7 X M (Zax w (gs sl g)) nx i (Zb4 op || tl) d op aa sl hp K:=rfl
@[go_sem] theorem ZrQ (b:Bool) (nx i:Nat) (t:Bool) (d:Option Nat) (op:COp) (aa:List CO) (sl:Sl) (hp:Hp) (K:Sl→Hp→Prop) :
  Zf7 X M (some b) nx i t d op aa sl hp K=Yq X M b nx i t d aa sl hp K (vop (Zj X M) (Xa M) sl hp (nx+64*i) op):=rfl
@[go_sem] theorem gC (nx i:Nat) (t:Bool) (d:Option Nat) (aa:List CO) (sl:Sl) (hp:Hp) (K:Sl→Hp→Prop) (e:Option Zb) :
  Yq X M true nx i t d aa sl hp K e=Vd X M nx i t d aa sl hp K e:=by simp[Yq,gW]
@[go_sem] theorem gD (nx i:Nat) (t:Bool) (d:Option Nat) (aa:List CO) (sl:Sl) (hp:Hp) (K:Sl→Hp→Prop) (e:Option Zb) :
  Yq X M false nx i t d aa sl hp K e=XE X M nx (i+1) false aa (Zi sl d (.tup [])) hp K:=by simp[Yq,gW]
@[go_sem] theorem ZiO (b:Bool) (nx i:Nat) (t:Bool) (d:Option Nat) (aa:List CO) (sl:Sl) (hp:Hp) (K:Sl→Hp→Prop) (v:AV) :
  Yq X M b nx i t d aa sl hp K (Qe v)=XE X M nx (i+1) false aa (Zi sl d (Zce b v)) hp K:=by
 cases b
 ·simp[Yq,gW,Zce]
 ·simp only[Yq,gW,Zce,Kk,true_implies,Bool.true_eq_false,false_implies,and_true];cases t<;>rfl
@[go_sem] theorem ZrR (b:Bool) (nx i:Nat) (t:Bool) (d:Option Nat) (aa:List CO) (sl:Sl) (hp:Hp) (K:Sl→Hp→Prop) (v:AV) :
  Yq X M b nx i t d aa sl hp K (some { eff := { val:=v,adds:=[],sets:=[],dels:=[],frz:=[] },gone:=[] })=XE X M nx (i+1) false aa (Zi sl d (Zce b v)) hp K:=ZiO X M b nx i t d aa sl hp K v
@[congr] theorem Zrs {g g' : Option Bool} {nx i:Nat} {t t' : Bool} {d:Option Nat} {op:COp} {aa:List CO} {sl:Sl} {hp:Hp} {K:Sl→Hp→Prop} (h:g=g') (ht:t=t') :
  Zf7 X M g nx i t d op aa sl hp K=Zf7 X M g' nx i t' d op aa sl hp K:=by rw[h,ht]
@[congr] theorem Zrt {b b' : Bool} {nx i:Nat} {t:Bool} {d:Option Nat} {aa:List CO} {sl:Sl} {hp:Hp} {K:Sl→Hp→Prop} {e e' : Option Zb} (hb:b=b') (h:b'=true→e=e') :
  Yq X M b nx i t d aa sl hp K e=Yq X M b' nx i t d aa sl hp K e':=by
 subst hb;cases b
 ·simp[Yq,gW]
 ·rw[h rfl]
@[go_sem] theorem ZrS (nx i:Nat) (t:Bool) (d:Option Nat) (aa:List CO) (sl:Sl) (hp:Hp) (K:Sl→Hp→Prop) (v:AV) :
  Vd X M nx i t d aa sl hp K (Qe v)=XE X M nx (i+1) false aa (Zi sl d v) hp K:=by cases t<;>rfl
@[go_sem] theorem Zss (nx i:Nat) (t:Bool) (d:Option Nat) (aa:List CO) (sl:Sl) (hp:Hp) (K:Sl→Hp→Prop) (v:AV) :
  Vd X M nx i t d aa sl hp K (some { eff := { val:=v,adds:=[],sets:=[],dels:=[],frz:=[] },gone:=[] })=XE X M nx (i+1) false aa (Zi sl d v) hp K:=by cases t<;>rfl
@[go_sem] theorem Zst (nx i:Nat) (t:Bool) (d:Option Nat) (aa:List CO) (sl:Sl) (hp:Hp) (K:Sl→Hp→Prop) (e:Zb) :
  Vd X M nx i t d aa sl hp K (some e)=((t=false→ZaC e e.gone e.eff.sets e.eff.dels e.eff.frz=some e)∧Qr (nx+64*i) (nx+64*i+64) e.eff.adds=true∧XE X M nx (i+1) false aa (Zi (Qy e.gone sl) d e.eff.val) (e.eff.on (Yx e.gone hp)) K):=by
 have ab:stW (Xu (nx+64*i) d sl hp (some e)) (fun r=>XE X M nx (i+1) false aa r.1 r.2 K)=(Qr (nx+64*i) (nx+64*i+64) e.eff.adds=true∧XE X M nx (i+1) false aa (Zi (Qy e.gone sl) d e.eff.val) (e.eff.on (Yx e.gone hp)) K):=by
  unfold Xu;rw[Zc];split<;>rename_i h
  ·simp only[XJ,h,true_and];rfl
  ·simp only[Zbc,h,false_and,Ka]
 unfold Vd;cases t with
 | true=>simp only[Kk];rw[ab];simp
 | false=>
  simp only[Ka,Ki,UW,Zc,true_implies];unfold ZaC;split
  ·rw[ab];simp
  ·simp[Xu,bnd,stW]
@[go_sem] theorem Zsu (nx i:Nat) (t:Bool) (d:Option Nat) (aa:List CO) (sl:Sl) (hp:Hp) (K:Sl→Hp→Prop):Vd X M nx i t d aa sl hp K none=False:=by cases t<;>rfl
@[go_sem] theorem ZsV (nx i:Nat) (t:Bool) (d:Option Nat) (aa:List CO) (sl:Sl) (hp:Hp) (K:Sl→Hp→Prop) (c:Prop) [Decidable c] (a b:Option Zb) :
  Vd X M nx i t d aa sl hp K (if c then a else b)=((c→Vd X M nx i t d aa sl hp K a)∧(¬c→Vd X M nx i t d aa sl hp K b)):=by
 by_cases h:c<;>simp[h]
@[go_sem] theorem quietC_ok (c:Zb):ZaC c [] [] [] []=some c:=rfl
def W (c:ZC) (st:St) (Q:Ex→St→Prop):Prop:=stW (Z8 X M c st) fun r=>Q r.1 r.2
@[congr] theorem W_congr {c:ZC} {st aa : St} {Q:Ex→St→Prop} (h:st=aa):W X M c st Q=W X M c aa Q:=by rw[h]
@[congr] theorem ZsW {aa:List CO} {nx ab i i' : Nat} {sl sl' : Sl} {hp hp' : Hp} {K:Sl→Hp→Prop} (hn:nx=ab) (hi:i=i') (h:sl=sl') (h' : hp=hp') :
  UG X M nx i aa sl hp K=UG X M ab i' aa sl' hp' K:=by rw[h,h',hn,hi]
@[congr] theorem Zsv {aa:List CO} {nx ab i i' : Nat} {t t' : Bool} {sl sl' : Sl} {hp hp' : Hp} {K:Sl→Hp→Prop} (hn:nx=ab) (hi:i=i') (ht:t=t') (h:sl=sl') (h' : hp=hp') :
  XE X M nx i t aa sl hp K=XE X M ab i' t' aa sl' hp' K:=by rw[h,h',ht,hn,hi]
@[congr] theorem Zsw {aa:List CO} {nx i:Nat} {d:Option Nat} {sl:Sl} {hp:Hp} {K:Sl→Hp→Prop} {e e' : Option Zb} (h:e=e') :
  Ul X M nx i d aa sl hp K e=Ul X M nx i d aa sl hp K e':=by rw[h]
@[congr] theorem ZrT {aa:List CO} {nx i:Nat} {t t' : Bool} {d:Option Nat} {sl:Sl} {hp:Hp} {K:Sl→Hp→Prop} {e e' : Option Zb} (ht:t=t') (h:e=e') :
  Vd X M nx i t d aa sl hp K e=Vd X M nx i t' d aa sl hp K e':=by rw[h,ht]
theorem Zor (nx:Nat) (K:Sl→Hp→Prop):∀ (l:List CO) (i:Nat) (sl:Sl) (hp:Hp),UG X M nx i l sl hp K=stW (ZaB (Zj X M) M nx i l sl hp) fun r=>K r.1 r.2:=by
 intro l
 induction l with
 | nil=>intro i sl hp;rfl
 | cons o rest ih=>
  intro i sl hp;simp only[UG,ZaB,ih,Uo];cases ZL sl o.guard with
  | none=>rfl
  | some b=>cases b<;>simp[gW,Uo,XJ]
theorem ZlU (nx:Nat) (K:Sl→Hp→Prop):∀ (l:List CO) (i:Nat) (t:Bool) (sl:Sl) (hp:Hp),XE X M nx i t l sl hp K=stW (VJ (Zj X M) (Xa M) nx i t l sl hp) fun r=>K r.1 r.2:=by
 intro l
 induction l with
 | nil=>intro i t sl hp;rfl
 | cons o rest ih=>
  intro i t sl hp;simp only[XE,VJ,ih,Uo];cases ZL sl o.guard with
  | none=>rfl
  | some b=>cases b<;>simp[gW,Uo,XJ]
def ZfH (m nx:Nat) (Q:Ex→St→Prop) (sl:Sl) (hp:Hp):Prop:=Q .normal { sl:=sl,hp:=hp,nx:=nx,m:=m }
def Zcr (ops:List CO) (ps:List (Nat×Nat)) (K:Sl→Hp→Prop) (sl:Sl) (hp:Hp):Prop:=Yy ops sl ps=true∧K sl hp
@[go_sem] theorem regQ_eq (m nx:Nat) (Q:Ex→St→Prop) (sl:Sl) (hp:Hp):ZfH m nx Q sl hp=Q .normal { sl:=sl,hp:=hp,nx:=nx,m:=m }:=rfl
@[go_sem] theorem seenQ_eq (ops:List CO) (ps:List (Nat×Nat)) (K:Sl→Hp→Prop) (sl:Sl) (hp:Hp):Zcr ops ps K sl hp=(Yy ops sl ps=true∧K sl hp):=rfl
@[go_sem] theorem W_skip (st:St) (Q:Ex→St→Prop):W X M .skip st Q=Q .normal st:=by simp[W,ZnC,XJ]
@[go_sem] theorem W_ret (st:St) (Q:Ex→St→Prop):W X M .ret st Q=Q .ret st:=by simp[W,ZpO,XJ]
@[go_sem] theorem W_exit (id:Nat) (st:St) (Q:Ex→St→Prop):W X M (.exit id) st Q=Q (.exit id) st:=by simp[W,ZnD,XJ]
@[go_sem] theorem W_stuck (st:St) (Q:Ex→St→Prop):W X M .stuck st Q=False:=by
 have h:Z8 X M .stuck st=none:=Q1 fun n=>by simp only[Zu]
 simp only[W,h,Zbc]
@[go_sem] theorem W_region (n:Nat) (ops:List CO) (st:St) (Q:Ex→St→Prop) :
  W X M (.region n none ops) st Q=UG X M st.nx 0 ops st.sl st.hp (ZfH st.m (st.nx+64*n) Q):=by
 rw[Zor,W,ZdG,Zcf,Uo];rfl
theorem ZqA (n:Nat) (ps:List (Nat×Nat)) (ops:List CO) (st:St) (Q:Ex→St→Prop) :
  W X M (.region n (some ps) ops) st Q=XE X M st.nx 0 false ops st.sl st.hp (Zcr ops ps (ZfH st.m (st.nx+64*n) Q)):=by
 rw[ZlU,W,Zhv,Zcf,Uo,ZdC,Uo];congr 1
 funext r
 by_cases h:Yy ops r.1 ps=true<;>simp[h,Zcr,XJ,Zbc,ZfH]
@[go_sem] theorem W_draw0 (n:Nat) (ops:List CO) (st:St) (Q:Ex→St→Prop) :
  W X M (.region n (some []) ops) st Q=XE X M st.nx 0 false ops st.sl st.hp (ZfH st.m (st.nx+64*n) Q):=by
 rw[ZqA];congr 1
 funext sl hp
 simp[Zcr,Yy]
@[go_sem] theorem W_drawc (n:Nat) (p:Nat×Nat) (ps:List (Nat×Nat)) (ops:List CO) (st:St) (Q:Ex→St→Prop) :
  W X M (.region n (some (p :: ps)) ops) st Q=XE X M st.nx 0 false ops st.sl st.hp (Zcr ops (p :: ps) (ZfH st.m (st.nx+64*n) Q)):=ZqA X M n _ ops st Q
def Zos (c:ZC) (Q:Ex→St→Prop):Ex→St→Prop
 | .normal,st=>W X M c st Q
 | e,st=>Q e st
def blkQ (id:Nat) (Q:Ex→St→Prop):Ex→St→Prop
 | .exit j,st=>if j=id then Q .normal st else Q (.exit j) st
 | e,st=>Q e st
@[go_sem] theorem ZrU (c:ZC) (Q:Ex→St→Prop) (st:St):Zos X M c Q .normal st=W X M c st Q:=rfl
@[go_sem] theorem thenQ_ret (c:ZC) (Q:Ex→St→Prop) (st:St):Zos X M c Q .ret st=Q .ret st:=rfl
@[go_sem] theorem ZsX (c:ZC) (Q:Ex→St→Prop) (id:Nat) (st:St):Zos X M c Q (.exit id) st=Q (.exit id) st:=rfl
@[go_sem] theorem Zsx (id:Nat) (Q:Ex→St→Prop) (st:St):blkQ id Q .normal st=Q .normal st:=rfl
@[go_sem] theorem blkQ_ret (id:Nat) (Q:Ex→St→Prop) (st:St):blkQ id Q .ret st=Q .ret st:=rfl
@[go_sem] theorem blkQ_exit (id j:Nat) (Q:Ex→St→Prop) (st:St):blkQ id Q (.exit j) st=if j=id then Q .normal st else Q (.exit j) st:=rfl
@[go_sem] theorem W_seq (a b:ZC) (st:St) (Q:Ex→St→Prop):W X M (.seq a b) st Q=W X M a st (Zos X M b Q):=by
 unfold W;rw[ZpP];cases h:Z8 X M a st with
 | none=>rfl
 | some r=>obtain⟨e,aa⟩:=r;cases e<;>rfl
@[go_sem] theorem W_cond (c:Opd) (a b:ZC) (st:St) (Q:Ex→St→Prop) :
  W X M (.cond c a b) st Q=Vc (evO st.sl c) (W X M a st Q) (W X M b st Q):=by
 unfold W;rw[ZnE];cases h:evO st.sl c with
 | d x=>cases x with
  | bool t=>cases t<;>simp[Zcw,Vc]
  | _=>rfl
 | _=>rfl
@[go_sem] theorem W_block (id:Nat) (c:ZC) (st:St) (Q:Ex→St→Prop):W X M (.block id c) st Q=W X M c st (blkQ id Q):=by
 unfold W;rw[Zmj];cases h:Z8 X M c st with
 | none=>rfl
 | some r=>
  obtain⟨e,aa⟩:=r;cases e with
  | exit j=>by_cases hj:j=id<;>simp[Zbr,hj,XJ,blkQ]
  | normal=>rfl
  | ret=>rfl
def keepQ (K:List Nat) (Q:Ex→St→Prop) (e:Ex) (st:St):Prop:=Q e { sl:=only K st.sl,hp:=st.hp,nx:=st.nx,m:=st.m }
@[go_sem] theorem keepQ_eq (K:List Nat) (Q:Ex→St→Prop) (e:Ex) (st:St):keepQ K Q e st=Q e { sl:=only K st.sl,hp:=st.hp,nx:=st.nx,m:=st.m }:=rfl
@[go_sem] theorem W_keep (K:List Nat) (c:ZC) (st:St) (Q:Ex→St→Prop):W X M (.keep K c) st Q=W X M c st (keepQ K Q):=by
 unfold W;rw[ZnF];cases h:Z8 X M c st with
 | none=>rfl
 | some r=>rfl
def shutQ (id nm:Nat) (Q:Ex→St→Prop) (e:Ex) (st:St):Prop:=Q e { sl:=st.sl,hp:=ZpM st.hp (Zft st.hp id nm (lkp st.hp id)),nx:=st.nx,m:=st.m }
@[go_sem] theorem shutQ_eq (id nm:Nat) (Q:Ex→St→Prop) (e:Ex) (st:St):shutQ id nm Q e st=Q e { sl:=st.sl,hp:=ZpM st.hp (Zft st.hp id nm (lkp st.hp id)),nx:=st.nx,m:=st.m }:=rfl
def ZgS (c:ZC) (Q:Ex→St→Prop) (r:Option St):Prop:=stW r fun st=>W X M c st Q
@[go_sem] theorem ZsY (c:ZC) (Q:Ex→St→Prop) (st:St):ZgS X M c Q (some st)=W X M c st Q:=rfl
@[go_sem] theorem ZsZ (c:ZC) (Q:Ex→St→Prop):ZgS X M c Q none=False:=rfl
@[go_sem] theorem linkW_ite (c:ZC) (Q:Ex→St→Prop) (p:Prop) [Decidable p] (a b:Option St):ZgS X M c Q (if p then a else b)=((p→ZgS X M c Q a)∧(¬p→ZgS X M c Q b)):=by
 by_cases h:p<;>simp[h]
@[go_sem] theorem W_link (fl:Bool) (id:Nat) (i:Opd) (j:Nat) (c:ZC) (st:St) (Q:Ex→St→Prop):W X M (.link fl id i j c) st Q=ZgS X M c (shutQ id st.nx Q) (ZaD fl id i j st):=by
 unfold W ZgS;rw[ZnG];cases h:ZaD fl id i j st with
 | none=>rfl
 | some st1=>
  simp only[Zc,XJ,W];cases h1:Z8 X M c st1 with
  | none=>rfl
  | some q=>rfl
@[go_sem] theorem W_melt (c:ZC) (st:St) (Q:Ex→St→Prop):W X M (.melt c) st Q=W X M c { sl:=st.sl,hp:=Zee Zdp st.hp,nx:=st.nx,m:=st.m } Q:=by
 unfold W;rw[ZnH];rfl
def ZgT (st:St) (ds:List Nat) (Q:Ex→St→Prop) (e:Ex) (st2:St):Prop:=Q e { sl:=UX st2.sl ds st.sl,hp:=st.hp,nx:=st2.nx,m:=st2.m }
@[go_sem] theorem peekQ_eq (sl:Sl) (hp:Hp) (nx m:Nat) (ds:List Nat) (Q:Ex→St→Prop) (e:Ex) (aa:Sl) (ad:Hp) (ab m2:Nat):ZgT { sl:=sl,hp:=hp,nx:=nx,m:=m } ds Q e { sl:=aa,hp:=ad,nx:=ab,m:=m2 }=Q e { sl:=UX aa ds sl,hp:=hp,nx:=ab,m:=m2 }:=rfl
def Zfj (n:Nat) (os:List CO) (id:Nat) (st:St) (Q:Ex→St→Prop):Option (List (Nat×Nat))→Option Zh→Prop
 | none,some o=>UG X M st.nx 0 os st.sl [(id,o)] (ZfH st.m (st.nx+64*n) (ZgT st (We os) Q))
 | some ps,some o=>XE X M st.nx 0 false os st.sl [(id,o)] (Zcr os ps (ZfH st.m (st.nx+64*n) (ZgT st (We os) Q)))
 | _,none=>False
@[go_sem] theorem Zs0 (n:Nat) (os:List CO) (id:Nat) (sl:Sl) (hp:Hp) (nx m:Nat) (Q:Ex→St→Prop) (o:Zh):Zfj X M n os id { sl:=sl,hp:=hp,nx:=nx,m:=m } Q none (some o)=UG X M nx 0 os sl [(id,o)] (ZfH m (nx+64*n) (ZgT { sl:=sl,hp:=hp,nx:=nx,m:=m } (We os) Q)):=rfl
@[go_sem] theorem peekW_nil (n:Nat) (os:List CO) (id:Nat) (sl:Sl) (hp:Hp) (nx m:Nat) (Q:Ex→St→Prop) (o:Zh):Zfj X M n os id { sl:=sl,hp:=hp,nx:=nx,m:=m } Q (some []) (some o)=XE X M nx 0 false os sl [(id,o)] (ZfH m (nx+64*n) (ZgT { sl:=sl,hp:=hp,nx:=nx,m:=m } (We os) Q)):=by
 simp only[Zfj];congr 1
 funext sl hp
 simp[Zcr,Yy]
@[go_sem] theorem Zs1 (n:Nat) (os:List CO) (id:Nat) (sl:Sl) (hp:Hp) (nx m:Nat) (Q:Ex→St→Prop) (o:Zh) (p:Nat×Nat) (ps:List (Nat×Nat)):Zfj X M n os id { sl:=sl,hp:=hp,nx:=nx,m:=m } Q (some (p :: ps)) (some o)=XE X M nx 0 false os sl [(id,o)] (Zcr os (p :: ps) (ZfH m (nx+64*n) (ZgT { sl:=sl,hp:=hp,nx:=nx,m:=m } (We os) Q))):=rfl
@[go_sem] theorem Zs2 (n:Nat) (os:List CO) (id:Nat) (st:St) (Q:Ex→St→Prop) (d:Option (List (Nat×Nat))):Zfj X M n os id st Q d none=False:=by cases d<;>rfl
@[go_sem] theorem W_peek (id n:Nat) (d:Option (List (Nat×Nat))) (os:List CO) (st:St) (Q:Ex→St→Prop):W X M (.peek id (.region n d os)) st Q=Zfj X M n os id st Q d (Zhq (lkp st.hp id)):=by
 unfold W;rw[ZnI];simp only[Zmg,Zc];unfold ZeD;cases h:Zhq (lkp st.hp id) with
 | none=>cases d<;>rfl
 | some o=>
  cases d with
  | none=>
   simp only[Zc,Zfj];rw[Zor,ZdG,Zcf];cases ZaB (Zj X M) M st.nx 0 os st.sl [(id,o)] with
   | none=>rfl
   | some r=>rfl
  | some ps=>
   simp only[Zc,Zfj];rw[ZlU,Zhv,Zcf];cases VJ (Zj X M) (Xa M) st.nx 0 false os st.sl [(id,o)] with
   | none=>rfl
   | some r=>
    simp only[ZdC,Zc];by_cases h:Yy os r.1 ps=true
    ·simp[h,Zcr,XJ,Zc,Zhs,ZfH,ZgT]
    ·simp[h,Zcr,XJ,Zbc,Zhs,bnd]
attribute [go_sem] Zhq.eq_1 Zhq.eq_2 ZaE.eq_1 ZaE.eq_2 ZaE.eq_3 Zhr.eq_1 Zhr.eq_2 We.eq_1 We.eq_2 UX.eq_1 UX.eq_2
def LW (c:ZC) (K:List Nat) (st:St) (Q:Ex→St→Prop):Prop:=stW (Zbt X M c K st) fun r=>Q r.1 r.2
@[congr] theorem LW_congr {c:ZC} {K K' : List Nat} {st aa : St} {Q:Ex→St→Prop} (hk:K=K') (h:st=aa):LW X M c K st Q=LW X M c K' aa Q:=by rw[h,hk]
@[go_sem] theorem W_loop (c:ZC) (st:St) (Q:Ex→St→Prop):W X M (.loop c) st Q=LW X M c (Ug st.sl) st Q:=by
 unfold W LW;rw[ZnJ]
def ZgU (c:ZC) (K:List Nat) (Q:Ex→St→Prop):Ex→St→Prop
 | .normal,st=>LW X M c K st Q
 | e,st=>Q e st
@[go_sem] theorem ZrV (c:ZC) (K:List Nat) (Q:Ex→St→Prop) (st:St):ZgU X M c K Q .normal st=LW X M c K st Q:=rfl
@[go_sem] theorem nextQ_ret (c:ZC) (K:List Nat) (Q:Ex→St→Prop) (st:St):ZgU X M c K Q .ret st=Q .ret st:=rfl
@[go_sem] theorem Zs3 (c:ZC) (K:List Nat) (Q:Ex→St→Prop) (id:Nat) (st:St):ZgU X M c K Q (.exit id) st=Q (.exit id) st:=rfl
theorem XK {c:ZC} {K:List Nat} {st:St} {Q:Ex→St→Prop} (h:W X M c (VK K st) (ZgU X M c K Q)):LW X M c K st Q:=by
 unfold W at h;cases hv:Z8 X M c (VK K st) with
 | none=>rw[hv] at h;exact h.elim
 | some r=>
  rw[hv] at h;obtain⟨e,aa⟩:=r;unfold LW;cases e with
  | normal=>rw[Zmk X M hv];exact h
  | exit id=>rw[Zhw X M (by simp) hv];exact h
  | ret=>rw[Zhw X M (by simp) hv];exact h
def ZiP (sl:Sl):Sl→Sl
 | []=>sl
 | (k,v) :: r=>ZiP (ins sl k v) r
def Zcs (hp:Hp):Hp→Hp
 | []=>hp
 | (k,o) :: r=>Zcs (ins hp k o) r
theorem LW_ind {α:Type} (S:α→St) (I:α→Prop) (μ:α→Nat) {c:ZC} {K:List Nat} {Q:Ex→St→Prop}
  (step:∀ a,I a→(∀ b st,I b→μ b<μ a→VK K st=S b→LW X M c K st Q)→W X M c (S a) (ZgU X M c K Q)) :
  ∀ a st,I a→VK K st=S a→LW X M c K st Q:=by
 have aa:∀ n a st,μ a=n→I a→VK K st=S a→LW X M c K st Q:=by
  intro n
  induction n using Nat.strongRecOn with
  | ind n ih=>
   intro a st hn ha hs;refine XK X M ?_;rw[hs];exact step a ha fun b ab hb ae ad=>ih (μ b) (by omega) b ab rfl hb ad
 exact fun a st ha hs=>aa _ a st rfl ha hs
theorem WQ {α:Type} (u:α→Sl) (uh:α→Hp) (I:α→Prop) (μ:α→Nat) (a:α) {c:ZC} {K:List Nat} {Q:Ex→St→Prop} {st st0:St}
  (hc:VK K st=st0) (ha:I a) (h0:(⟨ZiP st0.sl (u a),Zcs st0.hp (uh a),st0.nx,st0.m⟩:St)=st0)
  (step:∀ a,I a→(∀ b st,I b→μ b<μ a→VK K st=⟨ZiP st0.sl (u b),Zcs st0.hp (uh b),st0.nx,st0.m⟩→LW X M c K st Q)→W X M c ⟨ZiP st0.sl (u a),Zcs st0.hp (uh a),st0.nx,st0.m⟩ (ZgU X M c K Q)) :
  LW X M c K st Q:=
 LW_ind X M (fun a=>⟨ZiP st0.sl (u a),Zcs st0.hp (uh a),st0.nx,st0.m⟩) I μ step a st ha (hc.trans h0.symm)
def ZkF (m:Nat) (rs:List ZiS) (R:AV×List Zh→Prop):Ex→St→Prop:=fun e st=>stW (JI m rs (some (e,st))) R
def resW (m:Nat) (hp:Hp) (R:AV×List Zh→Prop) (vs:Option (List AV)):Prop:=stW vs fun vs=>R (YM m hp (UY vs))
@[go_sem] theorem resW_some (m:Nat) (hp:Hp) (R:AV×List Zh→Prop) (vs:List AV):resW m hp R (some vs)=R (YM m hp (UY vs)):=rfl
@[go_sem] theorem resW_none (m:Nat) (hp:Hp) (R:AV×List Zh→Prop):resW m hp R none=False:=rfl
@[go_sem] theorem endQ_ret (m:Nat) (rs:List ZiS) (R:AV×List Zh→Prop) (st:St):ZkF m rs R .ret st=resW m st.hp R (Qb (Zht st) rs):=by
 simp only[ZkF,JI,Uo];rfl
@[go_sem] theorem Zsy (m:Nat) (rs:List ZiS) (R:AV×List Zh→Prop) (st:St):ZkF m rs R .normal st=resW m st.hp R (Qb (Zht st) rs):=by
 simp only[ZkF,JI,Uo];rfl
theorem ZqB {f:Nat} {as:List AV} {h:List Zh} (fn:Z0) {R:AV×List Zh→Prop} (hx:X f=some (.text fn)) (hl:as.length≤fn.nt)
  (hr:W X M fn.body { sl:=Yz 0 as,hp:=YL 0 h,nx:=h.length,m:=h.length } (ZkF h.length fn.res R)):∃ r,Zj X M f as h=some r∧R r:=by
 unfold W at hr;cases hv:Z8 X M fn.body { sl:=Yz 0 as,hp:=YL 0 h,nx:=h.length,m:=h.length } with
 | none=>rw[hv] at hr;exact hr.elim
 | some q=>
  rw[hv] at hr;obtain⟨e,st⟩:=q;simp only[XJ,ZkF] at hr;cases hk:JI h.length fn.res (some (e,st)) with
  | none=>rw[hk] at hr;exact hr.elim
  | some r=>rw[hk] at hr;exact⟨r,ZqU X M hx hl (by rw[hv];exact hk),hr⟩
theorem callE {f:Nat} {as:List AV} {h:List Zh} (fn:Z0) {r:AV×List Zh} (hx:X f=some (.text fn)) (hl:as.length≤fn.nt)
  (hr:W X M fn.body { sl:=Yz 0 as,hp:=YL 0 h,nx:=h.length,m:=h.length } (ZkF h.length fn.res fun q=>q=r)):Zj X M f as h=some r:=by
 obtain⟨q,hq,rfl⟩:=ZqB X M fn hx hl hr;exact hq
end
@[go_sem] theorem vopE_move (C:Orc) (M:Zg) (sl:Sl) (hp:Hp) (base:Nat) (x:Opd):vop C M sl hp base (.move x)=Qe (evO sl x):=by simp only[vop]
@[go_sem] theorem Zsz (C:Orc) (M:Zg) (sl:Sl) (hp:Hp) (base:Nat) (s:Option Nat) (x:Opd):vop C M sl hp base (.assign s x)=Zar base s (evO sl x):=by simp only[vop]
@[go_sem] theorem vopE_pick (C:Orc) (M:Zg) (sl:Sl) (hp:Hp) (base:Nat) (c a b:Opd):vop C M sl hp base (.pick c a b)=Zbl (evO sl a) (evO sl b) (evO sl c):=by simp only[vop]
@[go_sem] theorem Zs4 (C:Orc) (M:Zg) (sl:Sl) (hp:Hp) (base:Nat) (slc:List (Option Nat)) (cs:List AV):vop C M sl hp base (.alloc slc cs)=Zbm slc base cs:=by simp only[vop]
@[go_sem] theorem vopE_box (C:Orc) (M:Zg) (sl:Sl) (hp:Hp) (base:Nat) (x:Opd):vop C M sl hp base (.box x)=ZpC base (evO sl x):=by simp only[vop]
@[go_sem] theorem Zs5 (C:Orc) (M:Zg) (sl:Sl) (hp:Hp) (base:Nat) (zs:List AV) (ps:List (Nat×Nat×Opd)):vop C M sl hp base (.build zs ps)=Zg4 zs (evP sl ps):=by simp only[vop]
@[go_sem] theorem ZrW (C:Orc) (M:Zg) (sl:Sl) (hp:Hp) (base:Nat) (s:Nat) (xs:List Opd):vop C M sl hp base (.buildSl s xs)=buildSl hp base s (evL sl xs):=by simp only[vop]
@[go_sem] theorem vopE_load (C:Orc) (M:Zg) (sl:Sl) (hp:Hp) (base:Nat) (g:Bool) (s:Nat) (a:Opd):vop C M sl hp base (.load g s a)=YA (Vj hp g s (evO sl a)):=by simp only[vop]
@[go_sem] theorem Zs6 (C:Orc) (M:Zg) (sl:Sl) (hp:Hp) (base:Nat) (slc:List (Option Nat)) (s:Nat) (a x:Opd):vop C M sl hp base (.store slc s a x)=Za2 (Ud hp slc s base (evO sl x).cells (evO sl a)):=by simp only[vop]
@[go_sem] theorem Zru (C:Orc) (M:Zg) (sl:Sl) (hp:Hp) (base:Nat) (x:Opd):vop C M sl hp base (.nilCheck x)=WB (evO sl x):=by simp only[vop]
@[go_sem] theorem vopE_bin (C:Orc) (M:Zg) (sl:Sl) (hp:Hp) (base:Nat) (op:BinOp) (eq:Bool) (x y:Opd):vop C M sl hp base (.bin op eq x y)=Zet op eq (evO sl x) (evO sl y):=by simp only[vop]
@[go_sem] theorem vopE_un (C:Orc) (M:Zg) (sl:Sl) (hp:Hp) (base:Nat) (op:UnOp) (x:Opd):vop C M sl hp base (.un op x)=YA (vun op (evO sl x)):=by simp only[vop]
@[go_sem] theorem vopE_eqA (C:Orc) (M:Zg) (sl:Sl) (hp:Hp) (base:Nat) (neg:Bool) (ks:List Nat) (x y:Opd):vop C M sl hp base (.eqA neg ks x y)=ZkJ neg ks (evO sl x) (evO sl y):=by simp only[vop]
@[go_sem] theorem Zs7 (C:Orc) (M:Zg) (sl:Sl) (hp:Hp) (base:Nat) (k:IntKind) (x:Opd):vop C M sl hp base (.convI k x)=convI k (evO sl x):=by simp only[vop]
@[go_sem] theorem Zs8 (C:Orc) (M:Zg) (sl:Sl) (hp:Hp) (base:Nat) (x:Opd):vop C M sl hp base (.convS x)=convS (evO sl x):=by simp only[vop]
@[go_sem] theorem vopE_fn (C:Orc) (M:Zg) (sl:Sl) (hp:Hp) (base:Nat) (f:Nat) (cs:List Opd):vop C M sl hp base (.fn f cs)=YA (cloV f (evL sl cs)):=by simp only[vop]
@[go_sem] theorem vopE_make (C:Orc) (M:Zg) (sl:Sl) (hp:Hp) (base:Nat) (s b:Nat) (z:D) (l c:Opd):vop C M sl hp base (.make s b z l c)=bnd (idx (evO sl l)) fun l=>bnd (idx (evO sl c)) fun c=>ZjG base s b z l c:=by simp only[vop]
@[go_sem] theorem Zs9 (C:Orc) (M:Zg) (sl:Sl) (hp:Hp) (base:Nat) (s:Nat) (x:Opd) (lo hi:Option Opd):vop C M sl hp base (.slice s x lo hi)=YA (Yl hp s (evM sl lo) (evM sl hi) (evO sl x)):=by simp only[vop]
@[go_sem] theorem ZsA (C:Orc) (M:Zg) (sl:Sl) (hp:Hp) (base:Nat) (x:Opd) (lo hi:Option Opd):vop C M sl hp base (.sliceS x lo hi)=YA (sliceS (evM sl lo) (evM sl hi) (evO sl x)):=by simp only[vop]
@[go_sem] theorem ZsB (C:Orc) (M:Zg) (sl:Sl) (hp:Hp) (base:Nat) (x hi mx:Opd):vop C M sl hp base (.slice0 x hi mx)=YA (slice0 hp (evO sl x) (idx (evO sl hi)) (idx (evO sl mx))):=by simp only[vop]
@[go_sem] theorem Zta (C:Orc) (M:Zg) (sl:Sl) (hp:Hp) (base:Nat) (off:Nat) (x:Opd):vop C M sl hp base (.shift off x)=YJ off (evO sl x):=by simp only[vop]
@[go_sem] theorem vopE_part (C:Orc) (M:Zg) (sl:Sl) (hp:Hp) (base:Nat) (g:Bool) (s off:Nat) (x:Opd):vop C M sl hp base (.part g s off x)=YA (Zdo g s off (evO sl x)):=by simp only[vop]
@[go_sem] theorem vopE_iaS (C:Orc) (M:Zg) (sl:Sl) (hp:Hp) (base:Nat) (s:Nat) (x i:Opd):vop C M sl hp base (.iaS s x i)=bnd (idx (evO sl i)) fun n=>Zcv hp s (evO sl x) n:=by simp only[vop]
@[go_sem] theorem vopE_iaA (C:Orc) (M:Zg) (sl:Sl) (hp:Hp) (base:Nat) (len s:Nat) (x i:Opd):vop C M sl hp base (.iaA len s x i)=bnd (idx (evO sl i)) fun n=>Zg6 (evO sl x) n len s:=by simp only[vop]
@[go_sem] theorem vopE_ixS (C:Orc) (M:Zg) (sl:Sl) (hp:Hp) (base:Nat) (x i:Opd):vop C M sl hp base (.ixS x i)=bnd (idx (evO sl i)) fun n=>Znj n (evO sl x):=by simp only[vop]
@[go_sem] theorem vopE_ixA (C:Orc) (M:Zg) (sl:Sl) (hp:Hp) (base:Nat) (g:Bool) (s len:Nat) (x i:Opd):vop C M sl hp base (.ixA g s len x i)=bnd (idx (evO sl i)) fun n=>ZpE g s len n (evO sl x):=by simp only[vop]
@[go_sem] theorem vopE_nth (C:Orc) (M:Zg) (sl:Sl) (hp:Hp) (base:Nat) (i:Nat) (x:Opd):vop C M sl hp base (.nth i x)=Zl4 i (evO sl x):=by simp only[vop]
@[go_sem] theorem vopE_len (C:Orc) (M:Zg) (sl:Sl) (hp:Hp) (base:Nat) (x:Opd):vop C M sl hp base (.len x)=bnd (Jz hp (evO sl x)) fun n=>Qe (.d (.int .i64 n)):=by simp only[vop]
@[go_sem] theorem vopE_lenS (C:Orc) (M:Zg) (sl:Sl) (hp:Hp) (base:Nat) (x:Opd):vop C M sl hp base (.lenS x)=bnd (Zo2 (evO sl x)) fun n=>Qe (.d (.int .i64 n)):=by simp only[vop]
@[go_sem] theorem ZsC (C:Orc) (M:Zg) (sl:Sl) (hp:Hp) (base:Nat) (s b:Nat) (str flat:Bool) (x y:Opd):vop C M sl hp base (.append s b str flat x y)=Zl5 hp s b str flat base (evO sl x) (evO sl y):=by simp only[vop]
@[go_sem] theorem vopE_min (C:Orc) (M:Zg) (sl:Sl) (hp:Hp) (base:Nat) (x y:Opd):vop C M sl hp base (.min x y)=Zfn (evO sl x) (evO sl y):=by simp only[vop]
@[go_sem] theorem vopE_max (C:Orc) (M:Zg) (sl:Sl) (hp:Hp) (base:Nat) (x y:Opd):vop C M sl hp base (.max x y)=Zfo (evO sl x) (evO sl y):=by simp only[vop]
@[go_sem] theorem vopE_call (C:Orc) (M:Zg) (sl:Sl) (hp:Hp) (base:Nat) (f:Opd) (as:List Opd):vop C M sl hp base (.call f as)=JE C M hp base (evL sl as) (evO sl f):=by simp only[vop]
@[go_sem] theorem ZsD (C:Orc) (M:Zg) (sl:Sl) (hp:Hp) (base:Nat) (s:Nat) (x lo hi mx:Opd):vop C M sl hp base (.slice3 s x lo hi mx)=YA (slice3 hp (evO sl x) (idx (evO sl lo)) (idx (evO sl hi)) (idx (evO sl mx))):=by simp only[vop]
@[go_sem] theorem Ztb (C:Orc) (M:Zg) (sl:Sl) (hp:Hp) (base:Nat) (s:Nat) (z:D) (x:Opd):vop C M sl hp base (.clear s z x)=Za2 (Zan hp s z (evO sl x)):=by simp only[vop]
@[go_sem] theorem ZsE (C:Orc) (M:Zg) (sl:Sl) (hp:Hp) (base:Nat) (s n:Nat) (xs:List Opd):vop C M sl hp base (.buildT s n xs)=buildT hp base s n (evL sl xs):=by simp only[vop]
@[go_sem] theorem vopE_appT (C:Orc) (M:Zg) (sl:Sl) (hp:Hp) (base:Nat) (s b:Nat) (f:Bool) (x y:Opd):vop C M sl hp base (.appT s b f x y)=appT hp s b base (evO sl x) (evO sl y):=by simp only[vop]
@[go_sem] theorem vopE_asgT (C:Orc) (M:Zg) (sl:Sl) (hp:Hp) (base:Nat) (s n:Nat) (x:Opd):vop C M sl hp base (.asgT s n x)=asgT base s n (evO sl x):=by simp only[vop]
@[go_sem] theorem Ztc (C:Orc) (M:Zg) (sl:Sl) (hp:Hp) (base:Nat) (s b n:Nat) (z:D) (l c:Opd):vop C M sl hp base (.makeT s b n z l c)=bnd (idx (evO sl l)) fun l=>bnd (idx (evO sl c)) fun c=>makeT base s b n z l c:=by simp only[vop]
@[go_sem] theorem Ztd (C:Orc) (M:Zg) (sl:Sl) (hp:Hp) (base:Nat):vop C M sl hp base .stuck=none:=by simp only[vop]
@[go_sem] theorem Zps (hp:Hp) (n:Nat) (aa:List Nat):Qv hp n [] aa=aa:=by cases n<;>rfl
@[go_sem] theorem tidy_d (hp:Hp) (ids:List Nat) (x:D):J2 hp ids (.d x)=.d x:=rfl
@[go_sem] theorem tidy_nil (hp:Hp) (ids:List Nat):J2 hp ids .nil=.nil:=rfl
@[go_sem] theorem tidy_junk (hp:Hp) (ids:List Nat):J2 hp ids .junk=.junk:=rfl
@[go_sem] theorem tidy_tup (hp:Hp) (ids:List Nat) (vs:List AV):J2 hp ids (.tup vs)=ren (Yu ids) (kill (Zbp hp ids (Zo (.tup vs))) (.tup vs)):=rfl
@[go_sem] theorem tidy_agg (hp:Hp) (ids:List Nat) (vs:List AV):J2 hp ids (.agg vs)=ren (Yu ids) (kill (Zbp hp ids (Zo (.agg vs))) (.agg vs)):=rfl
@[go_sem] theorem tidy_clo (hp:Hp) (ids:List Nat) (f:Nat) (vs:List AV):J2 hp ids (.clo f vs)=ren (Yu ids) (kill (Zbp hp ids (Zo (.clo f vs))) (.clo f vs)):=rfl
@[go_sem] theorem tidy_nilp (hp:Hp) (ids:List Nat):J2 hp ids .nilp=.nilp:=rfl
@[go_sem] theorem tidy_nili (hp:Hp) (ids:List Nat):J2 hp ids .nili=.nili:=rfl
@[go_sem] theorem tidy_pim (hp:Hp) (ids:List Nat) (cs:List D):J2 hp ids (.pim cs)=.pim cs:=rfl
@[go_sem] theorem tidy_ptr (hp:Hp) (ids:List Nat) (id o:Nat):J2 hp ids (.ptr id o)=if JH hp ids id=true then .ptr (Yu ids id) o else .junk:=by
 simp only[J2,Zo,Zr,Zf,Zbp];split<;>simp[kill,ZF,ZT,ren,JR,Zaf]
@[go_sem] theorem tidy_prow (hp:Hp) (ids:List Nat) (id s i o:Nat):J2 hp ids (.prow id s i o)=if JH hp ids id=true then .prow (Yu ids id) s i o else .junk:=by
 simp only[J2,Zo,Zr,Zf,Zbp];split<;>simp[kill,ZF,ZT,ren,JR,Zaf]
@[go_sem] theorem tidy_own (hp:Hp) (ids:List Nat) (id:Nat):J2 hp ids (.own id)=if JH hp ids id=true then .own (Yu ids id) else .junk:=by
 simp only[J2,Zo,Zr,Zf,Zbp];split<;>simp[kill,ZF,ZT,ren,JR,Zaf]
@[go_sem] theorem tidy_ownv (hp:Hp) (ids:List Nat) (id a b:Nat):J2 hp ids (.ownv id a b)=if JH hp ids id=true then .ownv (Yu ids id) a b else .junk:=by
 simp only[J2,Zo,Zr,Zf,Zbp];split<;>simp[kill,ZF,ZT,ren,JR,Zaf]
@[go_sem] theorem Zte (hp:Hp) (x:D):YM 0 hp (.d x)=(.d x,[]):=by
 simp[YM,Zo,Zr,Zf,Y4,Zps,tidy_d,JB]
@[go_sem] theorem minI_eq (a b:Int):minI a b=min a b:=by unfold minI;split<;>omega
@[go_sem] theorem maxI_eq (a b:Int):maxI a b=max a b:=by unfold maxI;split<;>omega
@[go_sem] theorem negIf_f (r:Bool):Zg5 false r=r:=rfl
@[go_sem] theorem negIf_t (r:Bool):Zg5 true r=!r:=rfl
@[go_sem] theorem opt1_some (v:AV):YA (some v)=Qe v:=rfl
@[go_sem] theorem opt1_none:YA none=none:=rfl
@[go_sem] theorem vbin_int (op:BinOp) (k k' : IntKind) (a b:Int):vbin op (.d (.int k a)) (.d (.int k' b))=VX op k k' a b:=rfl
@[go_sem] theorem binV_int (op:BinOp) (eq:Bool) (k k' : IntKind) (a b:Int):Zet op eq (.d (.int k a)) (.d (.int k' b))=YA (VX op k k' a b):=rfl
@[go_sem] theorem binV_str (op:BinOp) (eq:Bool) (a b:List UInt8):Zet op eq (.d (.str a)) (.d (.str b))=YA (asD (Zlq op a b)):=rfl
@[go_sem] theorem int2_add (k:IntKind) (a b:Int):VX .add k k a b=some (.d (.int k (k.wrap (a+b)))):=by simp[VX,Vg,asD,Zc]
@[go_sem] theorem int2_sub (k:IntKind) (a b:Int):VX .sub k k a b=some (.d (.int k (k.wrap (a-b)))):=by simp[VX,Vg,asD,Zc]
@[go_sem] theorem int2_mul (k:IntKind) (a b:Int):VX .mul k k a b=some (.d (.int k (k.wrap (a*b)))):=by simp[VX,Vg,asD,Zc]
@[go_sem] theorem int2_quo (k:IntKind) (a b:Int):VX .quo k k a b=if b=0 then none else some (.d (.int k (k.wrap (a.tdiv b)))):=by simp only[VX,Vg,asD,if_true];split<;>rfl
@[go_sem] theorem int2_rem (k:IntKind) (a b:Int):VX .rem k k a b=if b=0 then none else some (.d (.int k (a.tmod b))):=by simp only[VX,Vg,asD,if_true];split<;>rfl
@[go_sem] theorem int2_eql (k:IntKind) (a b:Int):VX .eql k k a b=some (.d (.bool (decide (a=b)))):=by simp[VX,Vg,asD,Zc,BEq.beq]
@[go_sem] theorem int2_neq (k:IntKind) (a b:Int):VX .neq k k a b=some (.d (.bool (!decide (a=b)))):=by simp[VX,Vg,asD,Zc,bne,BEq.beq]
@[go_sem] theorem int2_lss (k:IntKind) (a b:Int):VX .lss k k a b=some (.d (.bool (decide (a<b)))):=by simp[VX,Vg,asD,Zc]
@[go_sem] theorem int2_leq (k:IntKind) (a b:Int):VX .leq k k a b=some (.d (.bool (decide (a≤b)))):=by simp[VX,Vg,asD,Zc]
@[go_sem] theorem int2_gtr (k:IntKind) (a b:Int):VX .gtr k k a b=some (.d (.bool (decide (b<a)))):=by simp[VX,Vg,asD,Zc]
@[go_sem] theorem int2_geq (k:IntKind) (a b:Int):VX .geq k k a b=some (.d (.bool (decide (b≤a)))):=by simp[VX,Vg,asD,Zc]
@[go_sem] theorem guardV_t (b:Bool):Zax true (.d (.bool b))=some b:=by cases b<;>rfl
def nb (b:Bool):Bool:=!b
@[go_sem] theorem nb_true:nb true=false:=rfl
@[go_sem] theorem nb_false:nb false=true:=rfl
@[go_sem] theorem nb_eq (b:Bool):(nb b=true)=(b=false):=by cases b<;>simp[nb]
@[go_sem] theorem guardV_f (b:Bool):Zax false (.d (.bool b))=some (nb b):=by cases b<;>rfl
@[go_sem] theorem Ztf (w:Bool):Zax w (.tup [])=some false:=rfl
@[go_sem] theorem ZrX (a b:Bool):Zax true (Zce a (.d (.bool b)))=some (a&&b):=by cases a<;>cases b<;>rfl
@[go_sem] theorem ZrY (a b:Bool):Zax false (Zce a (.d (.bool b)))=some (a&&nb b):=by cases a<;>cases b<;>rfl
@[go_sem] theorem iteV_true (v:AV):Zce true v=v:=rfl
@[go_sem] theorem Ztg (v:AV):Zce false v=.tup []:=rfl
@[go_sem] theorem Zth (a b:AV):Zbl a b (.d (.bool true))=Qe a:=rfl
@[go_sem] theorem ZsF (a b:AV):Zbl a b (.d (.bool false))=Qe b:=rfl
@[go_sem] theorem pickV_or (b c:Bool):Zbl (.d (.bool true)) (Zce (nb b) (.d (.bool c))) (.d (.bool b))=Qe (.d (.bool (b || c))):=by cases b<;>rfl
@[go_sem] theorem pickV_and (b c:Bool):Zbl (Zce b (.d (.bool c))) (.d (.bool false)) (.d (.bool b))=Qe (.d (.bool (b&&c))):=by cases b<;>rfl
theorem Zti (a b:AV) (t:Bool):Zbl a b (.d (.bool t))=if t=true then Qe a else Qe b:=by cases t<;>rfl
@[go_sem] theorem dec_or (p q:Prop) [Decidable p] [Decidable q]:(decide p || decide q)=decide (p∨q):=by simp
@[go_sem] theorem dec_and (p q:Prop) [Decidable p] [Decidable q]:(decide p&&decide q)=decide (p∧q):=by simp
@[go_sem] theorem dec_not (p:Prop) [Decidable p]:(!decide p)=decide (¬p):=by simp
attribute [go_sem] Bool.or_eq_false_iff decide_eq_true_eq decide_eq_false_iff_not Bool.and_eq_true Bool.or_eq_true Bool.not_eq_true' Bool.not_eq_false' not_or Decidable.not_not
@[go_sem] theorem evO_t (sl:Sl) (n:Nat):evO sl (.t n)=gs sl n:=rfl
@[go_sem] theorem evO_v (sl:Sl) (a:AV):evO sl (.v a)=a:=rfl
@[go_sem] theorem evO_f (sl:Sl) (n:Nat):evO sl (.f n)=.clo n []:=rfl
@[go_sem] theorem gs_hit (k:Nat) (v:AV) (r:Sl):gs ((k,v) :: r) k=v:=by simp[gs,lkp,UD]
@[go_sem] theorem gs_cons (k t:Nat) (v:AV) (r:Sl):gs ((k,v) :: r) t=if k=t then v else gs r t:=by
 by_cases h:k=t<;>simp[gs,lkp,h,UD]
@[go_sem] theorem gs_nil (t:Nat):gs [] t=.junk:=rfl
attribute [go_sem] Zad.eq_1 Zad.eq_2
attribute [go_sem] VV.eq_1 VV.eq_2 VV.eq_3 VV.eq_4
attribute [go_sem] Zc1.eq_1 Zc1.eq_2 Zc1.eq_3 Zc1.eq_4
attribute [go_sem] Wr.eq_1 Wr.eq_2
attribute [go_sem] St.hp.eq_1
attribute [go_sem] Jh.eq_1 Jh.eq_2 Jh.eq_3
attribute [go_sem] UD.eq_1 UD.eq_2
attribute [go_sem] agg2.eq_1 agg2.eq_2 agg2.eq_3
attribute [go_sem] ins.eq_1 ins.eq_2
attribute [go_sem] Zae.eq_1 Zae.eq_2
attribute [go_sem] QU.eq_1 QU.eq_2 QU.eq_3
attribute [go_sem] St.m.eq_1
attribute [go_sem] bnd.eq_1 bnd.eq_2
attribute [go_sem] Zgk.eq_1 Zgk.eq_2 Zgk.eq_3
attribute [go_sem] VU.eq_1 VU.eq_2 VU.eq_3
attribute [go_sem] Zlq.eq_1 Zlq.eq_2 Zlq.eq_3 Zlq.eq_4
attribute [go_sem] AV.cells.eq_1 AV.cells.eq_2 AV.cells.eq_3 AV.cells.eq_4 AV.cells.eq_5 AV.cells.eq_6 AV.cells.eq_7 AV.cells.eq_8 AV.cells.eq_9 AV.cells.eq_10 AV.cells.eq_11 AV.cells.eq_12 AV.cells.eq_13 AV.cells.eq_14 AV.cells.eq_15
attribute [go_sem] ZT.eq_1 ZT.eq_2 ZT.eq_3 ZT.eq_4 ZT.eq_5 ZT.eq_6
attribute [go_sem] AV.solid.eq_1 AV.solid.eq_2 AV.solid.eq_3 AV.solid.eq_4
attribute [go_sem] Yo.eq_1 Yo.eq_2
attribute [go_sem] Qb.eq_1 Qb.eq_2
attribute [go_sem] Yp.eq_1 Yp.eq_2
attribute [go_sem] VT.eq_1
attribute [go_sem] Jz.eq_1 Jz.eq_2 Jz.eq_3 Jz.eq_4 Jz.eq_5
attribute [go_sem] YC.eq_1 YC.eq_2
attribute [go_sem] D.flat.eq_1
attribute [go_sem] give.eq_1 give.eq_2
attribute [go_sem] D.beq1.eq_1 D.beq1.eq_2 D.beq1.eq_3 D.beq1.eq_4
attribute [go_sem] Zaf.eq_1 Zaf.eq_2 Zaf.eq_3 Zaf.eq_4 Zaf.eq_5 Zaf.eq_6
attribute [go_sem] not1.eq_1 not1.eq_2
attribute [go_sem] QF.eq_1 QF.eq_2 QF.eq_3 QF.eq_4
attribute [go_sem] St.nx.eq_1
attribute [go_sem] Zr.eq_1 Zr.eq_2 Zr.eq_3
attribute [go_sem] JR.eq_1 JR.eq_2 JR.eq_3
attribute [go_sem] Zc2.eq_1 Zc2.eq_2
attribute [go_sem] vun.eq_1 vun.eq_2 vun.eq_3
attribute [go_sem] toD.eq_1 toD.eq_2
attribute [go_sem] Zf.eq_1 Zf.eq_2 Zf.eq_3 Zf.eq_4 Zf.eq_5 Zf.eq_6 Zf.eq_7 Zf.eq_8 Zf.eq_9 Zf.eq_10 Zf.eq_11 Zf.eq_12 Zf.eq_13 Zf.eq_14 Zf.eq_15
attribute [go_sem] D.plain.eq_1 D.plain.eq_2 D.plain.eq_3 D.plain.eq_4 D.plain.eq_5
attribute [go_sem] Zn.eq_1
attribute [go_sem] ZF.eq_1 ZF.eq_2 ZF.eq_3
attribute [go_sem] Vw.eq_1 Vw.eq_2
attribute [go_sem] Zo.eq_1 Zo.eq_2
attribute [go_sem] ZmU.eq_1
attribute [go_sem] Zee.eq_1 Zee.eq_2
attribute [go_sem] Uj.eq_1 Uj.eq_2 Uj.eq_3 Uj.eq_4
attribute [go_sem] St.sl.eq_1
attribute [go_sem] Zo2.eq_1 Zo2.eq_2
attribute [go_sem] Y2.eq_1 Y2.eq_2
attribute [go_sem] Jy.eq_1 Jy.eq_2
attribute [go_sem] ren.eq_1 ren.eq_2
attribute [go_sem] kill.eq_1 kill.eq_2
attribute [go_sem] lkp.eq_1 lkp.eq_2
attribute [go_sem] Zje.eq_1 Zje.eq_2 Zje.eq_3
attribute [go_sem] QP.eq_1 QP.eq_2
attribute [go_sem] beqL.eq_1 beqL.eq_2 beqL.eq_3
attribute [go_sem] D.cells.eq_1 D.cells.eq_2 D.cells.eq_3 D.cells.eq_4 D.cells.eq_5
attribute [go_sem] Zgi.eq_1 Zgi.eq_2
attribute [go_sem] Zjd.eq_1 Zjd.eq_2
attribute [go_sem] neg1.eq_1 neg1.eq_2
attribute [go_sem] Zef.eq_1 Zef.eq_2 Zef.eq_3
attribute [go_sem] Zgj.eq_1 Zgj.eq_2
attribute [go_sem] XW.eq_1 XW.eq_2 XW.eq_3
attribute [go_sem] asD.eq_1
attribute [go_sem] Vg.eq_1 Vg.eq_2 Vg.eq_3 Vg.eq_4 Vg.eq_5 Vg.eq_6 Vg.eq_7 Vg.eq_8 Vg.eq_9 Vg.eq_10 Vg.eq_11 Vg.eq_12 Vg.eq_13 Vg.eq_14 Vg.eq_15 Vg.eq_16 Vg.eq_17
attribute [go_sem] Zcd.eq_1 Zcd.eq_2 Zcd.eq_3 Zcd.eq_4 Zcd.eq_5
attribute [go_sem] D.one.eq_1 D.one.eq_2 D.one.eq_3 D.one.eq_4 D.one.eq_5
attribute [go_sem] freeze.eq_1 freeze.eq_2
attribute [go_sem] UJ.eq_1
attribute [go_sem] loOf.eq_1 loOf.eq_2
attribute [go_sem] Eff.on.eq_1
attribute [go_sem] appT.eq_1
attribute [go_sem] WR.eq_1 WR.eq_2
attribute [go_sem] cloV.eq_1
attribute [go_sem] slice0.eq_1 slice0.eq_2
attribute [go_sem] evM.eq_1 evM.eq_2
attribute [go_sem] V5.eq_1 V5.eq_2
attribute [go_sem] hiOf.eq_1 hiOf.eq_2
attribute [go_sem] Zdo.eq_1 Zdo.eq_2 Zdo.eq_3
attribute [go_sem] Zov.eq_1
attribute [go_sem] idx.eq_1 idx.eq_2
attribute [go_sem] Yl.eq_1 Yl.eq_2 Yl.eq_3 Yl.eq_4 Yl.eq_5
attribute [go_sem] Wu.eq_1 Wu.eq_2 Wu.eq_3
attribute [go_sem] ZP.eq_1 ZP.eq_2
attribute [go_sem] D.notSl.eq_1 D.notSl.eq_2
attribute [go_sem] ZqC.eq_1 ZqC.eq_2
attribute [go_sem] UN.eq_1 UN.eq_2 UN.eq_3 UN.eq_4 UN.eq_5 UN.eq_6
attribute [go_sem] XY.eq_1 XY.eq_2 XY.eq_3 XY.eq_4
attribute [go_sem] CO.guard.eq_1
attribute [go_sem] Za2.eq_1
attribute [go_sem] W0.eq_1
attribute [go_sem] UK.eq_1 UK.eq_2 UK.eq_3
attribute [go_sem] Zdj.eq_1
attribute [go_sem] Eff.adds.eq_1
attribute [go_sem] Zfm.eq_1 Zfm.eq_2
attribute [go_sem] Yu.eq_1 Yu.eq_2
attribute [go_sem] Zd.eq_1 Zd.eq_2
attribute [go_sem] Zb.eff.eq_1
attribute [go_sem] Zbi.eq_1 Zbi.eq_2
attribute [go_sem] Znj.eq_1 Znj.eq_2
attribute [go_sem] Zeq.eq_1 Zeq.eq_2 Zeq.eq_3
attribute [go_sem] del.eq_1 del.eq_2
attribute [go_sem] Zg4.eq_1
attribute [go_sem] ZkG.eq_1 ZkG.eq_2
attribute [go_sem] WA.eq_1 WA.eq_2
attribute [go_sem] Zfo.eq_1 Zfo.eq_2
attribute [go_sem] D.isAgg.eq_1 D.isAgg.eq_2
attribute [go_sem] WB.eq_1 WB.eq_2 WB.eq_3 WB.eq_4 WB.eq_5
attribute [go_sem] Zbm.eq_1
attribute [go_sem] slice3.eq_1
attribute [go_sem] UM.eq_1 UM.eq_2
attribute [go_sem] args.eq_1 args.eq_2
attribute [go_sem] Zfn.eq_1 Zfn.eq_2
attribute [go_sem] Zaq.eq_1
attribute [go_sem] Zdk.eq_1 Zdk.eq_2 Zdm.eq_1 Zdm.eq_2
attribute [go_sem] V8.eq_1
attribute [go_sem] evL.eq_1 evL.eq_2
attribute [go_sem] Zer.eq_1 Zer.eq_2 Zer.eq_3
attribute [go_sem] V4.eq_1 V4.eq_2 V4.eq_3
attribute [go_sem] JB.eq_1 JB.eq_2
attribute [go_sem] Zg0.eq_1 Zg0.eq_2
attribute [go_sem] Eff.sets.eq_1
attribute [go_sem] JC.eq_1 JC.eq_2 JC.eq_3
attribute [go_sem] Zdi.eq_1 Zdi.eq_2
attribute [go_sem] Zdn.eq_1 Zdn.eq_2
attribute [go_sem] Ud.eq_1 Ud.eq_2 Ud.eq_3
attribute [go_sem] ZpE.eq_1
attribute [go_sem] makeT.eq_1
attribute [go_sem] XZ.eq_1 XZ.eq_2
attribute [go_sem] ZqD.eq_1 ZqD.eq_2
attribute [go_sem] Zg2.eq_1 Zg2.eq_2
attribute [go_sem] UR.eq_1 UR.eq_2
attribute [go_sem] ZjG.eq_1
attribute [go_sem] UQ.eq_1 UQ.eq_2
attribute [go_sem] AV.atom.eq_1 AV.atom.eq_2 AV.atom.eq_3 AV.atom.eq_4 AV.atom.eq_5
attribute [go_sem] Eff.dels.eq_1
attribute [go_sem] Jn.eq_1 Jn.eq_2 Jn.eq_3
attribute [go_sem] mat.eq_1 mat.eq_2 mat.eq_3
attribute [go_sem] Zz.eq_1
attribute [go_sem] UP.eq_1 UP.eq_2
attribute [go_sem] ZkI.eq_1
attribute [go_sem] ZpC.eq_1
attribute [go_sem] Jp.eq_1 Jp.eq_2
attribute [go_sem] V6.eq_1
attribute [go_sem] Qd.eq_1 Qd.eq_2 Qd.eq_3 Qd.eq_4
attribute [go_sem] ZpD.eq_1
attribute [go_sem] Zbf.eq_1 Zbf.eq_2
attribute [go_sem] Zes.eq_1 Zes.eq_2
attribute [go_sem] Zl7.eq_1 Zl7.eq_2
attribute [go_sem] Zcu.eq_1 Zcu.eq_2 Zcu.eq_3 Zcu.eq_4
attribute [go_sem] ZcL.eq_1 ZcL.eq_2
attribute [go_sem] Zao.eq_1 Zao.eq_2
attribute [go_sem] Zbh.eq_1 Zbh.eq_2 Zbh.eq_3 Zbh.eq_4 Zbh.eq_5
attribute [go_sem] ZkH.eq_1 ZkH.eq_2
attribute [go_sem] Zg3.eq_1
attribute [go_sem] convS.eq_1 convS.eq_2
attribute [go_sem] Zdl.eq_1 Zdl.eq_2
attribute [go_sem] CO.tl.eq_1
attribute [go_sem] Zbj.eq_1 Zbj.eq_2 Zbj.eq_3 Zbj.eq_4
attribute [go_sem] CO.dst.eq_1
attribute [go_sem] teOf.eq_1
attribute [go_sem] Znk.eq_1 Znk.eq_2 Znk.eq_3
attribute [go_sem] Zg1.eq_1
attribute [go_sem] Zl2.eq_1 Zl2.eq_2
attribute [go_sem] Zl3.eq_1
attribute [go_sem] Eff.val.eq_1
attribute [go_sem] sliceS.eq_1 sliceS.eq_2
attribute [go_sem] Xz.eq_1 Xz.eq_2 Xz.eq_3
attribute [go_sem] Zbg.eq_1 Zbg.eq_2 Zbg.eq_3 Zbg.eq_4
attribute [go_sem] V3.eq_1
attribute [go_sem] buildSl.eq_1 buildSl.eq_2
attribute [go_sem] Vj.eq_1 Vj.eq_2 Vj.eq_3 Vj.eq_4
attribute [go_sem] Ws.eq_1 Ws.eq_2 Ws.eq_3 Ws.eq_4 Ws.eq_5
attribute [go_sem] Zfl.eq_1 Zfl.eq_2
attribute [go_sem] Zg6.eq_1
attribute [go_sem] evP.eq_1 evP.eq_2
attribute [go_sem] Zdp.eq_1 Zdp.eq_2
attribute [go_sem] Jo.eq_1
attribute [go_sem] ZbY.eq_1
attribute [go_sem] ZjF.eq_1 ZjF.eq_2
attribute [go_sem] Zg5.eq_1
attribute [go_sem] YI.eq_1
attribute [go_sem] Zl6.eq_1
attribute [go_sem] bnT.eq_1 bnT.eq_2
attribute [go_sem] UL.eq_1 UL.eq_2
attribute [go_sem] Yt.eq_1 Yt.eq_2
attribute [go_sem] V7.eq_1 V7.eq_2
attribute [go_sem] asgT.eq_1 asgT.eq_2
attribute [go_sem] Zeu.eq_1 Zeu.eq_2
attribute [go_sem] JE.eq_1 JE.eq_2
attribute [go_sem] Zbk.eq_1 Zbk.eq_2 Zbk.eq_3 Zbk.eq_4
attribute [go_sem] Zl0.eq_1 Zl0.eq_2
attribute [go_sem] CO.op.eq_1
attribute [go_sem] Zar.eq_1 Zar.eq_2
attribute [go_sem] Zan.eq_1 Zan.eq_2
attribute [go_sem] ZpB.eq_1 ZpB.eq_2
attribute [go_sem] ZbZ.eq_1 ZbZ.eq_2 ZbZ.eq_3
attribute [go_sem] Zl4.eq_1 Zl4.eq_2
attribute [go_sem] ZcM.eq_1 ZcM.eq_2
attribute [go_sem] Zap.eq_1 Zap.eq_2
attribute [go_sem] Je.eq_1 Je.eq_2 Je.eq_3 Je.eq_4 Je.eq_5 Je.eq_6 Je.eq_7 Je.eq_8 Je.eq_9 Je.eq_10
attribute [go_sem] W1.eq_1
attribute [go_sem] YJ.eq_1 YJ.eq_2 YJ.eq_3 YJ.eq_4
attribute [go_sem] Eff.frz.eq_1
attribute [go_sem] buildT.eq_1
attribute [go_sem] Z2.eq_1 Z2.eq_2
attribute [go_sem] ZbX.eq_1 ZbX.eq_2
attribute [go_sem] Zb.gone.eq_1
attribute [go_sem] meltIn.eq_1 meltIn.eq_2
attribute [go_sem] Zcv.eq_1
attribute [go_sem] Zl1.eq_1 Zl1.eq_2
attribute [go_sem] convI.eq_1 convI.eq_2
attribute [go_sem] Zf8.eq_1 Zf8.eq_2
attribute [go_sem] Us.eq_1 Us.eq_2 Us.eq_3
attribute [go_sem] bd.eq_1
attribute [go_sem] UO.eq_1 UO.eq_2
attribute [go_sem] QW.eq_1
attribute [go_sem] ZkJ.eq_1 ZkJ.eq_2
attribute [go_sem] Zb0.eq_1
attribute [go_sem] Q3.eq_1 Q3.eq_2
attribute [go_sem] ZoG.eq_1 ZoG.eq_2
attribute [go_sem] Zt.eq_1 Zt.eq_2 Zt.eq_3 Zt.eq_4 Zt.eq_5 Zt.eq_6 Zt.eq_7 Zt.eq_8 Zt.eq_9 Zt.eq_10 Zt.eq_11 Zt.eq_12 Zt.eq_13 Zt.eq_14 Zt.eq_15 Zt.eq_16 Zt.eq_17 Zt.eq_18 Zt.eq_19 Zt.eq_20 Zt.eq_21 Zt.eq_22 Zt.eq_23 Zt.eq_24 Zt.eq_25 Zt.eq_26 Zt.eq_27 Zt.eq_28 Zt.eq_29 Zt.eq_30 Zt.eq_31 Zt.eq_32 Zt.eq_33 Zt.eq_34 Zt.eq_35 Zt.eq_36 Zt.eq_37 Zt.eq_38 Zt.eq_39 Zt.eq_40
attribute [go_sem] VA.eq_1 VA.eq_2 VA.eq_3 VA.eq_4 VA.eq_5
attribute [go_sem] Zbq.eq_1
attribute [go_sem] ZkV.eq_1 ZkV.eq_2
attribute [go_sem] UY.eq_1 UY.eq_2
attribute [go_sem] ZaD.eq_1 ZkX.eq_1 ZkX.eq_2 ZkX.eq_3 ZqR.eq_1
attribute [go_sem] JG.eq_1 JG.eq_2 JG.eq_3 JG.eq_4 JG.eq_5
attribute [go_sem] Yy.eq_1 Yy.eq_2
attribute [go_sem] Zft.eq_1 Zft.eq_2
attribute [go_sem] ZpM.eq_1 ZpM.eq_2
attribute [go_sem] ZjO.eq_1 ZjO.eq_2
attribute [go_sem] Qy.eq_1 Qy.eq_2
attribute [go_sem] only.eq_1 only.eq_2
attribute [go_sem] Znz.eq_1 Znz.eq_2
attribute [go_sem] Zbo.eq_1 Zbo.eq_2
attribute [go_sem] Yz.eq_1 Yz.eq_2
attribute [go_sem] okL.eq_1 okL.eq_2
attribute [go_sem] okC.eq_1 okC.eq_2 okC.eq_3 okC.eq_4 okC.eq_5 okC.eq_6 okC.eq_7 okC.eq_8 okC.eq_9 okC.eq_10
attribute [go_sem] Zgb.eq_1 Zgb.eq_2
attribute [go_sem] Ug.eq_1 Ug.eq_2
attribute [go_sem] Zay.eq_1 Zay.eq_2 Zay.eq_3
attribute [go_sem] Zb4.eq_1 Zb4.eq_2
attribute [go_sem] Zbp.eq_1 Zbp.eq_2
attribute [go_sem] Qo.eq_1 Qo.eq_2
attribute [go_sem] Zi.eq_1 Zi.eq_2
attribute [go_sem] X8.eq_1 X8.eq_2 X8.eq_3
attribute [go_sem] ZdB.eq_1
attribute [go_sem] YL.eq_1 YL.eq_2
attribute [go_sem] ZkW.eq_1 ZkW.eq_2
attribute [go_sem] CO.starts.eq_1
attribute [go_sem] Yx.eq_1 Yx.eq_2
attribute [go_sem] Qr.eq_1 Qr.eq_2
attribute [go_sem] ZoF.eq_1 ZoF.eq_2
attribute [go_sem] ZeI.eq_1
attribute [go_sem] Zho.eq_1 Zho.eq_2 Zho.eq_3
attribute [go_sem] ZaA.eq_1 ZaA.eq_2
attribute [go_sem] Y4.eq_1 Y4.eq_2
attribute [go_sem] JH.eq_1
attribute [go_sem] Zhp.eq_1 Zhp.eq_2
attribute [go_sem] ZoE.eq_1
attribute [go_sem] Z0.body.eq_1
attribute [go_sem] ZdD.eq_1
attribute [go_sem] ZcS.eq_1 ZcS.eq_2
attribute [go_sem] Wd.eq_1 Wd.eq_2 Wd.eq_3 Wd.eq_4 Wd.eq_5
attribute [go_sem] Z0.res.eq_1
attribute [go_sem] XL.eq_1 XL.eq_2
attribute [go_sem] Xb.eq_1 Xb.eq_2 Xb.eq_3 Xb.eq_4 Xb.eq_5 Xb.eq_6 Xb.eq_7 Xb.eq_8 Xb.eq_9 Xb.eq_10 Xb.eq_11 Xb.eq_12
attribute [go_sem] Zht.eq_1 Zht.eq_2
attribute [go_sem] X7.eq_1 X7.eq_2
attribute [go_sem] Z0.nt.eq_1
attribute [go_sem] okD.eq_1 okD.eq_2
attribute [go_sem] ZkJ.eq_1 Ws.eq_1 Ws.eq_2 Ws.eq_3 Ws.eq_4
attribute [go_sem] VK.eq_1 UU.eq_1 UU.eq_2 UU.eq_3 UU.eq_4 UU.eq_5 UU.eq_6 UU.eq_7 UU.eq_8 UU.eq_9 UU.eq_10 YM.eq_1
attribute [go_sem] Qv.eq_3 QX.eq_1 AV.atom.eq_1 AV.atom.eq_2 AV.atom.eq_3 AV.atom.eq_4
attribute [go_sem] ZiP.eq_1 ZiP.eq_2 Zcs.eq_1 Zcs.eq_2
attribute [go_sem] Zc Zqf ZrB
attribute [go_sem] List.map_cons List.map_nil List.flatMap_cons List.flatMap_nil List.append_nil List.nil_append List.cons_append List.length_cons List.length_nil List.all_cons List.all_nil List.any_cons List.any_nil List.contains_cons List.contains_nil List.filter_cons List.filter_nil List.drop_zero List.drop_succ_cons List.drop_nil List.take_zero List.take_succ_cons List.take_nil List.getElem?_cons_zero List.getElem?_cons_succ List.getElem?_nil Option.map_some Option.map_none Bool.and_true Bool.true_and Bool.and_false Bool.false_and Bool.or_true Bool.true_or Bool.or_false Bool.false_or Bool.not_true Bool.not_false decide_true decide_false and_true true_and and_false false_and not_true not_false_eq_true or_true true_or or_false false_or if_true if_false true_implies false_implies implies_true imp_self eq_self ne_eq beq_self_eq_true Bool.true_eq_false Bool.false_eq_true List.isEmpty_nil List.isEmpty_cons List.range_zero List.set_cons_zero List.set_cons_succ Option.some.injEq reduceCtorEq Nat.reduceLeDiff
def ZgV (hp:Hp):List Nat→List Nat
 | []=>[]
 | i :: r=>if Zbj (lkp hp i)=true then i :: ZgV hp r else ZgV hp r
theorem gE (hp:Hp) (ids:List Nat):(ids.filter fun i=>Zbj (lkp hp i))=ZgV hp ids:=by
 induction ids with
 | nil=>rfl
 | cons i r ih=>simp only[LS,ZgV,ih]
def Zjx (hp:Hp) (rs:List Nat):List Nat→Bool
 | []=>true
 | i :: r=>(Zbj (lkp hp i) || rs.contains i)&&Zjx hp rs r
def Zjy (hp:Hp):List Nat→Bool
 | []=>false
 | i :: r=>UQ (lkp hp i) || Zjy hp r
theorem gG (hp:Hp) (ids:List Nat):(ids.any fun i=>UQ (lkp hp i))=Zjy hp ids:=by
 induction ids with
 | nil=>rfl
 | cons i r ih=>simp only[List.any_cons,Zjy,ih]
attribute [go_sem] Zjy.eq_1 Zjy.eq_2
@[go_sem] theorem appV_eq (hp:Hp) (s b:Nat) (str flat:Bool) (base:Nat) (x y:AV):Zl5 hp s b str flat base x y=JD hp s b str flat base x y (QY hp x) (QY hp y):=rfl
attribute [go_sem] JD.eq_1 JD.eq_2 JD.eq_3
@[go_sem] theorem treeId_d (hp:Hp) (x:D):QY hp (.d x)=[]:=rfl
@[go_sem] theorem Ztj (hp:Hp):QY hp .nil=[]:=rfl
@[go_sem] theorem ZsG (hp:Hp) (k o n:Nat):QY hp (.ownv k o n)=[]:=rfl
@[go_sem] theorem Ztk (hp:Hp) (k:Nat):QY hp (.own k)=if UQ (lkp hp k)=true then [k] else []:=rfl
@[go_sem] theorem noKeep_0 (M:Zg) (f:Nat):Xa M f 0=M f 0:=rfl
@[go_sem] theorem noKeep_1 (M:Zg) (f:Nat):Xa M f 1=M f 1:=rfl
@[go_sem] theorem noKeep_2 (M:Zg) (f:Nat):Xa M f 2=M f 2:=rfl
@[go_sem] theorem noKeep_3 (M:Zg) (f:Nat):Xa M f 3=M f 3:=rfl
@[go_sem] theorem noKeep_4 (M:Zg) (f:Nat):Xa M f 4=M f 4:=rfl
@[go_sem] theorem noKeep_5 (M:Zg) (f:Nat):Xa M f 5=M f 5:=rfl
@[go_sem] theorem noKeep_6 (M:Zg) (f:Nat):Xa M f 6=M f 6:=rfl
@[go_sem] theorem noKeep_99 (M:Zg) (f:Nat):Xa M f 99=false:=rfl
theorem gF (hp:Hp) (rs ids:List Nat):Ur hp rs ids=Zjx hp rs ids:=by
 induction ids with
 | nil=>rfl
 | cons i r ih=>simp only[Ur,Lt,Zjx] at ih ⊢;rw[ih]
attribute [go_sem] ZgV.eq_1 ZgV.eq_2 Zjx.eq_1 Zjx.eq_2
@[go_sem] theorem okV_d (x:D):okV (.d x)=true:=rfl
@[go_sem] theorem okV_nil:okV .nil=true:=rfl
@[go_sem] theorem okV_nilp:okV .nilp=true:=rfl
@[go_sem] theorem okV_nili:okV .nili=true:=rfl
@[go_sem] theorem okV_ptr (a b:Nat):okV (.ptr a b)=true:=rfl
@[go_sem] theorem okV_prow (a b c e:Nat):okV (.prow a b c e)=true:=rfl
@[go_sem] theorem okV_pim (cs:List D):okV (.pim cs)=true:=rfl
@[go_sem] theorem okV_own (a:Nat):okV (.own a)=true:=rfl
@[go_sem] theorem okV_ownv (a b c:Nat):okV (.ownv a b c)=true:=rfl
@[go_sem] theorem okV_agg (cs:List AV):okV (.agg cs)=ZkV cs:=rfl
@[go_sem] theorem okV_tup0:okV (.tup [])=true:=rfl
@[go_sem] theorem Ztl (sl:Sl) (a:COp) (x y:Nat) (v:AV):Ym sl a (.ptr x y) v=true:=rfl
@[go_sem] theorem seenIn_d (sl:Sl) (a:COp) (x y z t:Nat) (v:D):Ym sl a (.prow x y z t) (.d v)=true:=rfl
@[go_sem] theorem Ztm (sl:Sl) (a:COp) (x y z t:Nat) (v:List AV):Ym sl a (.prow x y z t) (.agg v)=(okV (.agg v)&&Q3 sl (Zt a) (Zo (.agg v))):=rfl
@[go_sem] theorem Ztn (sl:Sl) (a:COp) (x y z t:Nat) (k:Nat):Ym sl a (.prow x y z t) (.own k)=(okV (.own k)&&Q3 sl (Zt a) (Zo (.own k))):=rfl
@[go_sem] theorem Zto (sl:Sl) (a:COp) (x y z t:Nat):Ym sl a (.prow x y z t) .nil=(okV .nil&&Q3 sl (Zt a) (Zo .nil)):=rfl
@[go_sem] theorem ZsH (sl:Sl) (a:COp) (x y z t:Nat):Ym sl a (.prow x y z t) .nilp=(okV .nilp&&Q3 sl (Zt a) (Zo .nilp)):=rfl
@[go_sem] theorem ZsI (sl:Sl) (a:COp) (x y z t:Nat) (k m n:Nat):Ym sl a (.prow x y z t) (.ownv k m n)=(okV (.ownv k m n)&&Q3 sl (Zt a) (Zo (.ownv k m n))):=rfl
@[go_sem] theorem ZsJ (sl:Sl) (a:COp) (k:Nat):seenSrc sl a (.own k)=Qo sl k (Zt a):=rfl
@[go_sem] theorem seenSrc_d (sl:Sl) (a:COp) (x:D):seenSrc sl a (.d x)=true:=rfl
@[go_sem] theorem ZsK (sl:Sl) (a:COp):seenSrc sl a .nil=true:=rfl
@[go_sem] theorem ZrZ (sl:Sl) (a:COp) (x y z:Nat):seenSrc sl a (.ownv x y z)=true:=rfl
@[go_sem] theorem okV_iteV (b:Bool) (v:AV):okV (Zce b v)=(!b || okV v):=by cases b<;>simp[Zce,okV]
@[go_sem] theorem awayV_d (sl:Sl) (xs:List Opd) (x:D):UV sl xs (.d x)=true:=rfl
@[go_sem] theorem awayV_nil (sl:Sl) (xs:List Opd):UV sl xs .nil=true:=rfl
@[go_sem] theorem Ztp (sl:Sl) (xs:List Opd):UV sl xs .nilp=true:=rfl
@[go_sem] theorem awayV_ptr (sl:Sl) (xs:List Opd) (k o:Nat):UV sl xs (.ptr k o)=Qo sl k xs:=rfl
@[go_sem] theorem awayV_pim (sl:Sl) (xs:List Opd) (cs:List D):UV sl xs (.pim cs)=true:=rfl
@[go_sem] theorem awayV_own (sl:Sl) (xs:List Opd) (a:Nat):UV sl xs (.own a)=true:=rfl
@[go_sem] theorem Ztq (sl:Sl) (xs:List Opd) (a b c:Nat):UV sl xs (.ownv a b c)=true:=rfl
@[go_sem] theorem awayV_agg (sl:Sl) (xs:List Opd) (cs:List AV):UV sl xs (.agg cs)=true:=rfl
@[go_sem] theorem awayV_tup (sl:Sl) (xs:List Opd) (cs:List AV):UV sl xs (.tup cs)=true:=rfl
end Go.Abs.E
