/- Own text. -/
import Derived.Test.YtnachaiejoflhaaAbsRun
set_option linter.unusedVariables false
set_option linter.unusedSimpArgs false
namespace Go.Abs.E
open Go Go.Abs
abbrev _root_.Go.Abs.Opd.i (n:Int):Opd:=.v (.d (.int .i64 n))
abbrev _root_.Go.Abs.Opd.b (x:Bool):Opd:=.v (.d (.bool x))
def stW {α:Type} (x:Option α) (K:α→Prop):Prop:=match x with
 | some a=>K a
 | none=>False
def gW (x:Option Bool) (A B:Prop):Prop:=match x with
 | some b=>(b=true→A)∧(b=false→B)
 | none=>False
def YS (v:AV) (A B:Prop):Prop:=match v with
 | .d (.bool t)=>(t=true→A)∧(t=false→B)
 | _=>False
theorem Yr {α:Type} (a:α) (K:α→Prop):stW (some a) K=K a:=rfl
theorem ZdY {α:Type} (K:α→Prop):stW none K=False:=rfl
theorem Ud {α β:Type} (x:Option α) (f:α→Option β) (K:β→Prop):stW (bnd x f) K=stW x fun a=>stW (f a) K:=by cases x<;>rfl
@[go_sem] theorem Zos (A B:Prop):gW (some true) A B=A:=by simp[gW]
@[go_sem] theorem gW_false (A B:Prop):gW (some false) A B=B:=by simp[gW]
@[go_sem] theorem gW_dec (p:Prop) [Decidable p] (A B:Prop):gW (some (decide p)) A B=((p→A)∧(¬p→B)):=by simp[gW]
@[go_sem] theorem gW_not (b:Bool) (A B:Prop):gW (some (!b)) A B=gW (some b) B A:=by cases b<;>simp[gW]
theorem gW_some (b:Bool) (A B:Prop):gW (some b) A B=((b=true→A)∧(b=false→B)):=rfl
@[go_sem] theorem Zs0 (A B:Prop):YS (.d (.bool true)) A B=A:=by simp[YS]
@[go_sem] theorem Zsy (A B:Prop):YS (.d (.bool false)) A B=B:=by simp[YS]
@[go_sem] theorem condW_dec (p:Prop) [Decidable p] (A B:Prop):YS (.d (.bool (decide p))) A B=((p→A)∧(¬p→B)):=by simp[YS]
@[go_sem] theorem condW_not (b:Bool) (A B:Prop):YS (.d (.bool (!b))) A B=YS (.d (.bool b)) B A:=by cases b<;>simp[YS]
@[go_sem] theorem condW_and (a b:Bool) (A B:Prop):YS (.d (.bool (a&&b))) A B=YS (.d (.bool a)) (YS (.d (.bool b)) A B) B:=by cases a<;>cases b<;>simp[YS]
@[go_sem] theorem condW_or (a b:Bool) (A B:Prop):YS (.d (.bool (a || b))) A B=YS (.d (.bool a)) A (YS (.d (.bool b)) A B):=by cases a<;>cases b<;>simp[YS]
@[go_sem] theorem Zs1 (b:Bool) (A B:Prop):YS (.d (.bool b)) A B=((b=true→A)∧(b=false→B)):=rfl
@[congr] theorem gW_congr {x y:Option Bool} {A B:Prop} (h:x=y):gW x A B=gW y A B:=by rw[h]
@[congr] theorem Zsz {v w:AV} {A B:Prop} (h:v=w):YS v A B=YS w A B:=by rw[h]
section
variable (X:Fns) (M:Zh)
noncomputable def Jy (nx:Nat):Nat→List CO→Sl→Hp→(Sl→Hp→Prop)→Prop
 | _,[],sl,hp,K=>K sl hp
 | i,o :: rest,sl,hp,K=>gW (ZL sl o.guard)
   (stW (Xm (nx+64*i) o.dst sl hp (vop (Zi X M) M sl hp (nx+64*i) o.op)) fun r=>Jy nx (i+1) rest r.1 r.2 K)
   (Jy nx (i+1) rest (Zk sl o.dst (.tup [])) hp K)
def Ua (nx i:Nat) (d:Option Nat) (rest:List CO) (sl:Sl) (hp:Hp) (K:Sl→Hp→Prop) (e:Option Zb):Prop:=
 stW (Xm (nx+64*i) d sl hp e) fun r=>Jy X M nx (i+1) rest r.1 r.2 K
@[go_sem] theorem opsW_nil (nx i:Nat) (sl:Sl) (hp:Hp) (K:Sl→Hp→Prop):Jy X M nx i [] sl hp K=K sl hp:=rfl
@[go_sem] theorem opsW_cons (nx i:Nat) (d:Option Nat) (tl:Bool) (op:COp) (aa:List CO) (sl:Sl) (hp:Hp) (K:Sl→Hp→Prop) :
  Jy X M nx i (⟨d,none,op,tl⟩ :: aa) sl hp K=Ua X M nx i d aa sl hp K (vop (Zi X M) M sl hp (nx+64*i) op):=by
 simp[Jy,Ua,ZL,Zos]
def ZcG (b:Bool) (v:AV):AV:=if b then v else .tup []
def VK (b:Bool) (nx i:Nat) (d:Option Nat) (rest:List CO) (sl:Sl) (hp:Hp) (K:Sl→Hp→Prop) (e:Option Zb):Prop:=
 gW (some b) (Ua X M nx i d rest sl hp K e) (Jy X M nx (i+1) rest (Zk sl d (.tup [])) hp K)
def Zku (g:Option Bool) (nx i:Nat) (d:Option Nat) (op:COp) (rest:List CO) (sl:Sl) (hp:Hp) (K:Sl→Hp→Prop):Prop:=
 gW g (Ua X M nx i d rest sl hp K (vop (Zi X M) M sl hp (nx+64*i) op)) (Jy X M nx (i+1) rest (Zk sl d (.tup [])) hp K)
@[go_sem] theorem Zs2 (nx i g:Nat) (w:Bool) (d:Option Nat) (tl:Bool) (op:COp) (aa:List CO) (sl:Sl) (hp:Hp) (K:Sl→Hp→Prop) :
  Jy X M nx i (⟨d,some (g,w),op,tl⟩ :: aa) sl hp K=Zku X M (ZaE w (gs sl g)) nx i d op aa sl hp K:=rfl
@[go_sem] theorem ZsA (b:Bool) (nx i:Nat) (d:Option Nat) (op:COp) (aa:List CO) (sl:Sl) (hp:Hp) (K:Sl→Hp→Prop) :
  Zku X M (some b) nx i d op aa sl hp K=VK X M b nx i d aa sl hp K (vop (Zi X M) M sl hp (nx+64*i) op):=rfl
@[go_sem] theorem gA (nx i:Nat) (d:Option Nat) (aa:List CO) (sl:Sl) (hp:Hp) (K:Sl→Hp→Prop) (e:Option Zb) :
  VK X M true nx i d aa sl hp K e=Ua X M nx i d aa sl hp K e:=by simp[VK,gW]
@[go_sem] theorem gB (nx i:Nat) (d:Option Nat) (aa:List CO) (sl:Sl) (hp:Hp) (K:Sl→Hp→Prop) (e:Option Zb) :
  VK X M false nx i d aa sl hp K e=Jy X M nx (i+1) aa (Zk sl d (.tup [])) hp K:=by simp[VK,gW]
@[go_sem] theorem Zkv (b:Bool) (nx i:Nat) (d:Option Nat) (aa:List CO) (sl:Sl) (hp:Hp) (K:Sl→Hp→Prop) (v:AV) :
  VK X M b nx i d aa sl hp K (Qs v)=Jy X M nx (i+1) aa (Zk sl d (ZcG b v)) hp K:=by
 cases b
 ·simp[VK,gW,ZcG]
 ·simp only[VK,gW,ZcG,Kj,true_implies,Bool.true_eq_false,false_implies,and_true];rfl
@[go_sem] theorem ZsB (b:Bool) (nx i:Nat) (d:Option Nat) (aa:List CO) (sl:Sl) (hp:Hp) (K:Sl→Hp→Prop) (v:AV) :
  VK X M b nx i d aa sl hp K (some { eff := { val:=v,adds:=[],sets:=[],dels:=[],frz:=[] },gone:=[] })=Jy X M nx (i+1) aa (Zk sl d (ZcG b v)) hp K:=Zkv X M b nx i d aa sl hp K v
@[congr] theorem ZrY {g g' : Option Bool} {nx i:Nat} {d:Option Nat} {op:COp} {aa:List CO} {sl:Sl} {hp:Hp} {K:Sl→Hp→Prop} (h:g=g') :
  Zku X M g nx i d op aa sl hp K=Zku X M g' nx i d op aa sl hp K:=by rw[h]
@[congr] theorem ZrZ {b b' : Bool} {nx i:Nat} {d:Option Nat} {aa:List CO} {sl:Sl} {hp:Hp} {K:Sl→Hp→Prop} {e e' : Option Zb} (hb:b=b') (h:b'=true→e=e') :
  VK X M b nx i d aa sl hp K e=VK X M b' nx i d aa sl hp K e':=by
 subst hb;cases b
 ·simp[VK,gW]
 ·rw[h rfl]
@[go_sem] theorem ZsC (nx i:Nat) (d:Option Nat) (aa:List CO) (sl:Sl) (hp:Hp) (K:Sl→Hp→Prop) (v:AV) :
  Ua X M nx i d aa sl hp K (Qs v)=Jy X M nx (i+1) aa (Zk sl d v) hp K:=rfl
@[go_sem] theorem Zs3 (nx i:Nat) (d:Option Nat) (aa:List CO) (sl:Sl) (hp:Hp) (K:Sl→Hp→Prop) (v:AV) :
  Ua X M nx i d aa sl hp K (some { eff := { val:=v,adds:=[],sets:=[],dels:=[],frz:=[] },gone:=[] })=Jy X M nx (i+1) aa (Zk sl d v) hp K:=rfl
@[go_sem] theorem Zs4 (nx i:Nat) (d:Option Nat) (aa:List CO) (sl:Sl) (hp:Hp) (K:Sl→Hp→Prop) (e:Zb) :
  Ua X M nx i d aa sl hp K (some e)=(Qy (nx+64*i) (nx+64*i+64) e.eff.adds=true∧Jy X M nx (i+1) aa (Zk (QA e.gone sl) d e.eff.val) (e.eff.on (Yi e.gone hp)) K):=by
 unfold Ua Xm;rw[Zc];split<;>rename_i h
 ·simp only[Yr,h,true_and];rfl
 ·simp only[ZdY,h,false_and,Ka]
@[go_sem] theorem Zs5 (nx i:Nat) (d:Option Nat) (aa:List CO) (sl:Sl) (hp:Hp) (K:Sl→Hp→Prop):Ua X M nx i d aa sl hp K none=False:=rfl
@[go_sem] theorem stepW_ite (nx i:Nat) (d:Option Nat) (aa:List CO) (sl:Sl) (hp:Hp) (K:Sl→Hp→Prop) (c:Prop) [Decidable c] (a b:Option Zb) :
  Ua X M nx i d aa sl hp K (if c then a else b)=((c→Ua X M nx i d aa sl hp K a)∧(¬c→Ua X M nx i d aa sl hp K b)):=by
 by_cases h:c<;>simp[h]
noncomputable def XW (nx:Nat):Nat→Bool→List CO→Sl→Hp→(Sl→Hp→Prop)→Prop
 | _,_,[],sl,hp,K=>K sl hp
 | i,tail,o :: rest,sl,hp,K=>gW (ZL sl o.guard)
   (stW (Xm (nx+64*i) o.dst sl hp (Yk (Zi X M) (Xp M) nx i (CO.starts o) o.op sl hp)) fun r=>XW nx (i+1) tail rest r.1 r.2 K)
   (XW nx (i+1) tail rest (Zk sl o.dst (.tup [])) hp K)
def YX (nx i:Nat) (t:Bool) (d:Option Nat) (rest:List CO) (sl:Sl) (hp:Hp) (K:Sl→Hp→Prop) (e:Option Zb):Prop:=
 stW (Xm (nx+64*i) d sl hp (if t then e else UO e)) fun r=>XW X M nx (i+1) false rest r.1 r.2 K
@[go_sem] theorem opsDW_nil (nx i:Nat) (t:Bool) (sl:Sl) (hp:Hp) (K:Sl→Hp→Prop):XW X M nx i t [] sl hp K=K sl hp:=rfl
@[go_sem] theorem Zs6 (nx i:Nat) (d:Option Nat) (tl:Bool) (op:COp) (aa:List CO) (sl:Sl) (hp:Hp) (K:Sl→Hp→Prop) :
  XW X M nx i false (⟨d,none,op,tl⟩ :: aa) sl hp K=YX X M nx i (Zcy op || tl) d aa sl hp K (vop (Zi X M) (Xp M) sl hp (nx+64*i) op):=by
 simp[XW,YX,ZL,Zos,Yk,CO.starts]
def Yc (b:Bool) (nx i:Nat) (t:Bool) (d:Option Nat) (rest:List CO) (sl:Sl) (hp:Hp) (K:Sl→Hp→Prop) (e:Option Zb):Prop:=
 gW (some b) (YX X M nx i t d rest sl hp K e) (XW X M nx (i+1) false rest (Zk sl d (.tup [])) hp K)
def Zgo (g:Option Bool) (nx i:Nat) (t:Bool) (d:Option Nat) (op:COp) (rest:List CO) (sl:Sl) (hp:Hp) (K:Sl→Hp→Prop):Prop:=
 gW g (YX X M nx i t d rest sl hp K (vop (Zi X M) (Xp M) sl hp (nx+64*i) op)) (XW X M nx (i+1) false rest (Zk sl d (.tup [])) hp K)
@[go_sem] theorem ZsD (nx i g:Nat) (w:Bool) (d:Option Nat) (tl:Bool) (op:COp) (aa:List CO) (sl:Sl) (hp:Hp) (K:Sl→Hp→Prop) :
  XW X M nx i false (⟨d,some (g,w),op,tl⟩ :: aa) sl hp K=Zgo X M (ZaE w (gs sl g)) nx i (Zcy op || tl) d op aa sl hp K:=rfl
@[go_sem] theorem Zr0 (b:Bool) (nx i:Nat) (t:Bool) (d:Option Nat) (op:COp) (aa:List CO) (sl:Sl) (hp:Hp) (K:Sl→Hp→Prop) :
  Zgo X M (some b) nx i t d op aa sl hp K=Yc X M b nx i t d aa sl hp K (vop (Zi X M) (Xp M) sl hp (nx+64*i) op):=rfl
@[go_sem] theorem gC (nx i:Nat) (t:Bool) (d:Option Nat) (aa:List CO) (sl:Sl) (hp:Hp) (K:Sl→Hp→Prop) (e:Option Zb) :
  Yc X M true nx i t d aa sl hp K e=YX X M nx i t d aa sl hp K e:=by simp[Yc,gW]
@[go_sem] theorem gD (nx i:Nat) (t:Bool) (d:Option Nat) (aa:List CO) (sl:Sl) (hp:Hp) (K:Sl→Hp→Prop) (e:Option Zb) :
  Yc X M false nx i t d aa sl hp K e=XW X M nx (i+1) false aa (Zk sl d (.tup [])) hp K:=by simp[Yc,gW]
@[go_sem] theorem Zis (b:Bool) (nx i:Nat) (t:Bool) (d:Option Nat) (aa:List CO) (sl:Sl) (hp:Hp) (K:Sl→Hp→Prop) (v:AV) :
  Yc X M b nx i t d aa sl hp K (Qs v)=XW X M nx (i+1) false aa (Zk sl d (ZcG b v)) hp K:=by
 cases b
 ·simp[Yc,gW,ZcG]
 ·simp only[Yc,gW,ZcG,Kj,true_implies,Bool.true_eq_false,false_implies,and_true];cases t<;>rfl
@[go_sem] theorem Zr1 (b:Bool) (nx i:Nat) (t:Bool) (d:Option Nat) (aa:List CO) (sl:Sl) (hp:Hp) (K:Sl→Hp→Prop) (v:AV) :
  Yc X M b nx i t d aa sl hp K (some { eff := { val:=v,adds:=[],sets:=[],dels:=[],frz:=[] },gone:=[] })=XW X M nx (i+1) false aa (Zk sl d (ZcG b v)) hp K:=Zis X M b nx i t d aa sl hp K v
@[congr] theorem Zrk {g g' : Option Bool} {nx i:Nat} {t t' : Bool} {d:Option Nat} {op:COp} {aa:List CO} {sl:Sl} {hp:Hp} {K:Sl→Hp→Prop} (h:g=g') (ht:t=t') :
  Zgo X M g nx i t d op aa sl hp K=Zgo X M g' nx i t' d op aa sl hp K:=by rw[h,ht]
@[congr] theorem Zrl {b b' : Bool} {nx i:Nat} {t:Bool} {d:Option Nat} {aa:List CO} {sl:Sl} {hp:Hp} {K:Sl→Hp→Prop} {e e' : Option Zb} (hb:b=b') (h:b'=true→e=e') :
  Yc X M b nx i t d aa sl hp K e=Yc X M b' nx i t d aa sl hp K e':=by
 subst hb;cases b
 ·simp[Yc,gW]
 ·rw[h rfl]
@[go_sem] theorem Zr2 (nx i:Nat) (t:Bool) (d:Option Nat) (aa:List CO) (sl:Sl) (hp:Hp) (K:Sl→Hp→Prop) (v:AV) :
  YX X M nx i t d aa sl hp K (Qs v)=XW X M nx (i+1) false aa (Zk sl d v) hp K:=by cases t<;>rfl
@[go_sem] theorem ZsE (nx i:Nat) (t:Bool) (d:Option Nat) (aa:List CO) (sl:Sl) (hp:Hp) (K:Sl→Hp→Prop) (v:AV) :
  YX X M nx i t d aa sl hp K (some { eff := { val:=v,adds:=[],sets:=[],dels:=[],frz:=[] },gone:=[] })=XW X M nx (i+1) false aa (Zk sl d v) hp K:=by cases t<;>rfl
@[go_sem] theorem ZsF (nx i:Nat) (t:Bool) (d:Option Nat) (aa:List CO) (sl:Sl) (hp:Hp) (K:Sl→Hp→Prop) (e:Zb) :
  YX X M nx i t d aa sl hp K (some e)=((t=false→ZaI e e.gone e.eff.sets e.eff.dels e.eff.frz=some e)∧Qy (nx+64*i) (nx+64*i+64) e.eff.adds=true∧XW X M nx (i+1) false aa (Zk (QA e.gone sl) d e.eff.val) (e.eff.on (Yi e.gone hp)) K):=by
 have ab:stW (Xm (nx+64*i) d sl hp (some e)) (fun r=>XW X M nx (i+1) false aa r.1 r.2 K)=(Qy (nx+64*i) (nx+64*i+64) e.eff.adds=true∧XW X M nx (i+1) false aa (Zk (QA e.gone sl) d e.eff.val) (e.eff.on (Yi e.gone hp)) K):=by
  unfold Xm;rw[Zc];split<;>rename_i h
  ·simp only[Yr,h,true_and];rfl
  ·simp only[ZdY,h,false_and,Ka]
 unfold YX;cases t with
 | true=>simp only[Kj];rw[ab];simp
 | false=>
  simp only[Ka,Ki,UO,Zc,true_implies];unfold ZaI;split
  ·rw[ab];simp
  ·simp[Xm,bnd,stW]
@[go_sem] theorem ZsG (nx i:Nat) (t:Bool) (d:Option Nat) (aa:List CO) (sl:Sl) (hp:Hp) (K:Sl→Hp→Prop):YX X M nx i t d aa sl hp K none=False:=by cases t<;>rfl
@[go_sem] theorem Zs7 (nx i:Nat) (t:Bool) (d:Option Nat) (aa:List CO) (sl:Sl) (hp:Hp) (K:Sl→Hp→Prop) (c:Prop) [Decidable c] (a b:Option Zb) :
  YX X M nx i t d aa sl hp K (if c then a else b)=((c→YX X M nx i t d aa sl hp K a)∧(¬c→YX X M nx i t d aa sl hp K b)):=by
 by_cases h:c<;>simp[h]
@[go_sem] theorem quietC_ok (c:Zb):ZaI c [] [] [] []=some c:=rfl
def W (c:ZF) (st:St) (Q:Ex→St→Prop):Prop:=stW (Qo X M c st) fun r=>Q r.1 r.2
@[congr] theorem W_congr {c:ZF} {st aa : St} {Q:Ex→St→Prop} (h:st=aa):W X M c st Q=W X M c aa Q:=by rw[h]
@[congr] theorem Zs8 {aa:List CO} {nx ab i i' : Nat} {sl sl' : Sl} {hp hp' : Hp} {K:Sl→Hp→Prop} (hn:nx=ab) (hi:i=i') (h:sl=sl') (h' : hp=hp') :
  Jy X M nx i aa sl hp K=Jy X M ab i' aa sl' hp' K:=by rw[h,h',hn,hi]
@[congr] theorem ZsH {aa:List CO} {nx ab i i' : Nat} {t t' : Bool} {sl sl' : Sl} {hp hp' : Hp} {K:Sl→Hp→Prop} (hn:nx=ab) (hi:i=i') (ht:t=t') (h:sl=sl') (h' : hp=hp') :
  XW X M nx i t aa sl hp K=XW X M ab i' t' aa sl' hp' K:=by rw[h,h',ht,hn,hi]
@[congr] theorem ZsI {aa:List CO} {nx i:Nat} {d:Option Nat} {sl:Sl} {hp:Hp} {K:Sl→Hp→Prop} {e e' : Option Zb} (h:e=e') :
  Ua X M nx i d aa sl hp K e=Ua X M nx i d aa sl hp K e':=by rw[h]
@[congr] theorem Zr3 {aa:List CO} {nx i:Nat} {t t' : Bool} {d:Option Nat} {sl:Sl} {hp:Hp} {K:Sl→Hp→Prop} {e e' : Option Zb} (ht:t=t') (h:e=e') :
  YX X M nx i t d aa sl hp K e=YX X M nx i t' d aa sl hp K e':=by rw[h,ht]
theorem Zr4 (nx:Nat) (K:Sl→Hp→Prop):∀ (l:List CO) (i:Nat) (sl:Sl) (hp:Hp),Jy X M nx i l sl hp K=stW (ZbO (Zi X M) M nx i l sl hp) fun r=>K r.1 r.2:=by
 intro l
 induction l with
 | nil=>intro i sl hp;rfl
 | cons o rest ih=>
  intro i sl hp;simp only[Jy,ZbO,ih,Ud];cases ZL sl o.guard with
  | none=>rfl
  | some b=>cases b<;>simp[gW,Ud,Yr]
theorem Zqq (nx:Nat) (K:Sl→Hp→Prop):∀ (l:List CO) (i:Nat) (t:Bool) (sl:Sl) (hp:Hp),XW X M nx i t l sl hp K=stW (Wi (Zi X M) (Xp M) nx i t l sl hp) fun r=>K r.1 r.2:=by
 intro l
 induction l with
 | nil=>intro i t sl hp;rfl
 | cons o rest ih=>
  intro i t sl hp;simp only[XW,Wi,ih,Ud];cases ZL sl o.guard with
  | none=>rfl
  | some b=>cases b<;>simp[gW,Ud,Yr]
def Zpm (m nx:Nat) (Q:Ex→St→Prop) (sl:Sl) (hp:Hp):Prop:=Q .normal { sl:=sl,hp:=hp,nx:=nx,m:=m }
def ZlP (ops:List CO) (ps:List (Nat×Nat)) (K:Sl→Hp→Prop) (sl:Sl) (hp:Hp):Prop:=Vj ops sl ps=true∧K sl hp
@[go_sem] theorem regQ_eq (m nx:Nat) (Q:Ex→St→Prop) (sl:Sl) (hp:Hp):Zpm m nx Q sl hp=Q .normal { sl:=sl,hp:=hp,nx:=nx,m:=m }:=rfl
@[go_sem] theorem seenQ_eq (ops:List CO) (ps:List (Nat×Nat)) (K:Sl→Hp→Prop) (sl:Sl) (hp:Hp):ZlP ops ps K sl hp=(Vj ops sl ps=true∧K sl hp):=rfl
@[go_sem] theorem W_skip (st:St) (Q:Ex→St→Prop):W X M .skip st Q=Q .normal st:=by simp[W,ZnN,Yr]
@[go_sem] theorem W_ret (st:St) (Q:Ex→St→Prop):W X M .ret st Q=Q .ret st:=by simp[W,ZpI,Yr]
@[go_sem] theorem W_exit (id:Nat) (st:St) (Q:Ex→St→Prop):W X M (.exit id) st Q=Q (.exit id) st:=by simp[W,ZnO,Yr]
@[go_sem] theorem W_stuck (st:St) (Q:Ex→St→Prop):W X M .stuck st Q=False:=by
 have h:Qo X M .stuck st=none:=XB fun n=>by simp only[Zx]
 simp only[W,h,ZdY]
@[go_sem] theorem W_region (n:Nat) (ops:List CO) (st:St) (Q:Ex→St→Prop) :
  W X M (.region n none ops) st Q=Jy X M st.nx 0 ops st.sl st.hp (Zpm st.m (st.nx+64*n) Q):=by
 rw[Zr4,W,ZkS,Zf2,Ud];rfl
theorem Zqr (n:Nat) (ps:List (Nat×Nat)) (ops:List CO) (st:St) (Q:Ex→St→Prop) :
  W X M (.region n (some ps) ops) st Q=XW X M st.nx 0 false ops st.sl st.hp (ZlP ops ps (Zpm st.m (st.nx+64*n) Q)):=by
 rw[Zqq,W,ZnP,Zf2,Ud,ZjK,Ud];congr 1
 funext r
 by_cases h:Vj ops r.1 ps=true<;>simp[h,ZlP,Yr,ZdY,Zpm]
@[go_sem] theorem W_draw0 (n:Nat) (ops:List CO) (st:St) (Q:Ex→St→Prop) :
  W X M (.region n (some []) ops) st Q=XW X M st.nx 0 false ops st.sl st.hp (Zpm st.m (st.nx+64*n) Q):=by
 rw[Zqr];congr 1
 funext sl hp
 simp[ZlP,Vj]
@[go_sem] theorem W_drawc (n:Nat) (p:Nat×Nat) (ps:List (Nat×Nat)) (ops:List CO) (st:St) (Q:Ex→St→Prop) :
  W X M (.region n (some (p :: ps)) ops) st Q=XW X M st.nx 0 false ops st.sl st.hp (ZlP ops (p :: ps) (Zpm st.m (st.nx+64*n) Q)):=Zqr X M n _ ops st Q
def Zot (c:ZF) (Q:Ex→St→Prop):Ex→St→Prop
 | .normal,st=>W X M c st Q
 | e,st=>Q e st
def blkQ (id:Nat) (Q:Ex→St→Prop):Ex→St→Prop
 | .exit j,st=>if j=id then Q .normal st else Q (.exit j) st
 | e,st=>Q e st
@[go_sem] theorem Zr5 (c:ZF) (Q:Ex→St→Prop) (st:St):Zot X M c Q .normal st=W X M c st Q:=rfl
@[go_sem] theorem thenQ_ret (c:ZF) (Q:Ex→St→Prop) (st:St):Zot X M c Q .ret st=Q .ret st:=rfl
@[go_sem] theorem Zs9 (c:ZF) (Q:Ex→St→Prop) (id:Nat) (st:St):Zot X M c Q (.exit id) st=Q (.exit id) st:=rfl
@[go_sem] theorem ZsJ (id:Nat) (Q:Ex→St→Prop) (st:St):blkQ id Q .normal st=Q .normal st:=rfl
@[go_sem] theorem blkQ_ret (id:Nat) (Q:Ex→St→Prop) (st:St):blkQ id Q .ret st=Q .ret st:=rfl
@[go_sem] theorem blkQ_exit (id j:Nat) (Q:Ex→St→Prop) (st:St):blkQ id Q (.exit j) st=if j=id then Q .normal st else Q (.exit j) st:=rfl
@[go_sem] theorem W_seq (a b:ZF) (st:St) (Q:Ex→St→Prop):W X M (.seq a b) st Q=W X M a st (Zot X M b Q):=by
 unfold W;rw[ZpJ];cases h:Qo X M a st with
 | none=>rfl
 | some r=>obtain⟨e,aa⟩:=r;cases e<;>rfl
@[go_sem] theorem W_cond (c:Opd) (a b:ZF) (st:St) (Q:Ex→St→Prop) :
  W X M (.cond c a b) st Q=YS (evO st.sl c) (W X M a st Q) (W X M b st Q):=by
 unfold W;rw[ZnQ];cases h:evO st.sl c with
 | d x=>cases x with
  | bool t=>cases t<;>simp[ZcV,YS]
  | _=>rfl
 | _=>rfl
@[go_sem] theorem W_block (id:Nat) (c:ZF) (st:St) (Q:Ex→St→Prop):W X M (.block id c) st Q=W X M c st (blkQ id Q):=by
 unfold W;rw[Zmc];cases h:Qo X M c st with
 | none=>rfl
 | some r=>
  obtain⟨e,aa⟩:=r;cases e with
  | exit j=>by_cases hj:j=id<;>simp[ZbR,hj,Yr,blkQ]
  | normal=>rfl
  | ret=>rfl
def keepQ (K:List Nat) (Q:Ex→St→Prop) (e:Ex) (st:St):Prop:=Q e { sl:=only K st.sl,hp:=st.hp,nx:=st.nx,m:=st.m }
@[go_sem] theorem keepQ_eq (K:List Nat) (Q:Ex→St→Prop) (e:Ex) (st:St):keepQ K Q e st=Q e { sl:=only K st.sl,hp:=st.hp,nx:=st.nx,m:=st.m }:=rfl
@[go_sem] theorem W_keep (K:List Nat) (c:ZF) (st:St) (Q:Ex→St→Prop):W X M (.keep K c) st Q=W X M c st (keepQ K Q):=by
 unfold W;rw[ZnR];cases h:Qo X M c st with
 | none=>rfl
 | some r=>rfl
def shutQ (id nm:Nat) (Q:Ex→St→Prop) (e:Ex) (st:St):Prop:=Q e { sl:=st.sl,hp:=ZpG st.hp (ZfQ st.hp id nm (lkp st.hp id)),nx:=st.nx,m:=st.m }
@[go_sem] theorem shutQ_eq (id nm:Nat) (Q:Ex→St→Prop) (e:Ex) (st:St):shutQ id nm Q e st=Q e { sl:=st.sl,hp:=ZpG st.hp (ZfQ st.hp id nm (lkp st.hp id)),nx:=st.nx,m:=st.m }:=rfl
def Zg7 (c:ZF) (Q:Ex→St→Prop) (r:Option St):Prop:=stW r fun st=>W X M c st Q
@[go_sem] theorem Zta (c:ZF) (Q:Ex→St→Prop) (st:St):Zg7 X M c Q (some st)=W X M c st Q:=rfl
@[go_sem] theorem Ztb (c:ZF) (Q:Ex→St→Prop):Zg7 X M c Q none=False:=rfl
@[go_sem] theorem linkW_ite (c:ZF) (Q:Ex→St→Prop) (p:Prop) [Decidable p] (a b:Option St):Zg7 X M c Q (if p then a else b)=((p→Zg7 X M c Q a)∧(¬p→Zg7 X M c Q b)):=by
 by_cases h:p<;>simp[h]
@[go_sem] theorem W_link (fl:Bool) (id:Nat) (i:Opd) (j:Nat) (c:ZF) (st:St) (Q:Ex→St→Prop):W X M (.link fl id i j c) st Q=Zg7 X M c (shutQ id st.nx Q) (ZaJ fl id i j st):=by
 unfold W Zg7;rw[ZnS];cases h:ZaJ fl id i j st with
 | none=>rfl
 | some st1=>
  simp only[Zc,Yr,W];cases h1:Qo X M c st1 with
  | none=>rfl
  | some q=>rfl
@[go_sem] theorem W_melt (c:ZF) (st:St) (Q:Ex→St→Prop):W X M (.melt c) st Q=W X M c { sl:=st.sl,hp:=ZeA Zd6 st.hp,nx:=st.nx,m:=st.m } Q:=by
 unfold W;rw[ZnT];rfl
def LW (c:ZF) (K:List Nat) (st:St) (Q:Ex→St→Prop):Prop:=stW (ZbT X M c K st) fun r=>Q r.1 r.2
@[congr] theorem LW_congr {c:ZF} {K K' : List Nat} {st aa : St} {Q:Ex→St→Prop} (hk:K=K') (h:st=aa):LW X M c K st Q=LW X M c K' aa Q:=by rw[h,hk]
@[go_sem] theorem W_loop (c:ZF) (st:St) (Q:Ex→St→Prop):W X M (.loop c) st Q=LW X M c (W6 st.sl) st Q:=by
 unfold W LW;rw[ZnU]
def Zg8 (c:ZF) (K:List Nat) (Q:Ex→St→Prop):Ex→St→Prop
 | .normal,st=>LW X M c K st Q
 | e,st=>Q e st
@[go_sem] theorem Zr6 (c:ZF) (K:List Nat) (Q:Ex→St→Prop) (st:St):Zg8 X M c K Q .normal st=LW X M c K st Q:=rfl
@[go_sem] theorem nextQ_ret (c:ZF) (K:List Nat) (Q:Ex→St→Prop) (st:St):Zg8 X M c K Q .ret st=Q .ret st:=rfl
@[go_sem] theorem Ztc (c:ZF) (K:List Nat) (Q:Ex→St→Prop) (id:Nat) (st:St):Zg8 X M c K Q (.exit id) st=Q (.exit id) st:=rfl
theorem JX {c:ZF} {K:List Nat} {st:St} {Q:Ex→St→Prop} (h:W X M c (Vv K st) (Zg8 X M c K Q)):LW X M c K st Q:=by
 unfold W at h;cases hv:Qo X M c (Vv K st) with
 | none=>rw[hv] at h;exact h.elim
 | some r=>
  rw[hv] at h;obtain⟨e,aa⟩:=r;unfold LW;cases e with
  | normal=>rw[Zmd X M hv];exact h
  | exit id=>rw[ZhE X M (by simp) hv];exact h
  | ret=>rw[ZhE X M (by simp) hv];exact h
def Zg9 (sl:Sl):Sl→Sl
 | []=>sl
 | (k,v) :: r=>Zg9 (ins sl k v) r
def ZcR (hp:Hp):Hp→Hp
 | []=>hp
 | (k,o) :: r=>ZcR (ins hp k o) r
theorem LW_ind {α:Type} (S:α→St) (I:α→Prop) (μ:α→Nat) {c:ZF} {K:List Nat} {Q:Ex→St→Prop}
  (step:∀ a,I a→(∀ b st,I b→μ b<μ a→Vv K st=S b→LW X M c K st Q)→W X M c (S a) (Zg8 X M c K Q)) :
  ∀ a st,I a→Vv K st=S a→LW X M c K st Q:=by
 have aa:∀ n a st,μ a=n→I a→Vv K st=S a→LW X M c K st Q:=by
  intro n
  induction n using Nat.strongRecOn with
  | ind n ih=>
   intro a st hn ha hs;refine JX X M ?_;rw[hs];exact step a ha fun b ab hb ae ad=>ih (μ b) (by omega) b ab rfl hb ad
 exact fun a st ha hs=>aa _ a st rfl ha hs
theorem WF {α:Type} (u:α→Sl) (uh:α→Hp) (I:α→Prop) (μ:α→Nat) (a:α) {c:ZF} {K:List Nat} {Q:Ex→St→Prop} {st st0:St}
  (hc:Vv K st=st0) (ha:I a) (h0:(⟨Zg9 st0.sl (u a),ZcR st0.hp (uh a),st0.nx,st0.m⟩:St)=st0)
  (step:∀ a,I a→(∀ b st,I b→μ b<μ a→Vv K st=⟨Zg9 st0.sl (u b),ZcR st0.hp (uh b),st0.nx,st0.m⟩→LW X M c K st Q)→W X M c ⟨Zg9 st0.sl (u a),ZcR st0.hp (uh a),st0.nx,st0.m⟩ (Zg8 X M c K Q)) :
  LW X M c K st Q:=
 LW_ind X M (fun a=>⟨Zg9 st0.sl (u a),ZcR st0.hp (uh a),st0.nx,st0.m⟩) I μ step a st ha (hc.trans h0.symm)
def Zkw (m:Nat) (rs:List Ziw) (R:AV×List Zj→Prop):Ex→St→Prop:=fun e st=>stW (JG m rs (some (e,st))) R
def resW (m:Nat) (hp:Hp) (R:AV×List Zj→Prop) (vs:Option (List AV)):Prop:=stW vs fun vs=>R (Yx m hp (UP vs))
@[go_sem] theorem resW_some (m:Nat) (hp:Hp) (R:AV×List Zj→Prop) (vs:List AV):resW m hp R (some vs)=R (Yx m hp (UP vs)):=rfl
@[go_sem] theorem resW_none (m:Nat) (hp:Hp) (R:AV×List Zj→Prop):resW m hp R none=False:=rfl
@[go_sem] theorem endQ_ret (m:Nat) (rs:List Ziw) (R:AV×List Zj→Prop) (st:St):Zkw m rs R .ret st=resW m st.hp R (Qd (ZhC st) rs):=by
 simp only[Zkw,JG,Ud];rfl
@[go_sem] theorem ZsK (m:Nat) (rs:List Ziw) (R:AV×List Zj→Prop) (st:St):Zkw m rs R .normal st=resW m st.hp R (Qd (ZhC st) rs):=by
 simp only[Zkw,JG,Ud];rfl
theorem Zqs {f:Nat} {as:List AV} {h:List Zj} (fn:ZK) {R:AV×List Zj→Prop} (hx:X f=some (.text fn)) (hl:as.length≤fn.nt)
  (hr:W X M fn.body { sl:=Yj 0 as,hp:=Yw 0 h,nx:=h.length,m:=h.length } (Zkw h.length fn.res R)):∃ r,Zi X M f as h=some r∧R r:=by
 unfold W at hr;cases hv:Qo X M fn.body { sl:=Yj 0 as,hp:=Yw 0 h,nx:=h.length,m:=h.length } with
 | none=>rw[hv] at hr;exact hr.elim
 | some q=>
  rw[hv] at hr;obtain⟨e,st⟩:=q;simp only[Yr,Zkw] at hr;cases hk:JG h.length fn.res (some (e,st)) with
  | none=>rw[hk] at hr;exact hr.elim
  | some r=>rw[hk] at hr;exact⟨r,ZqI X M hx hl (by rw[hv];exact hk),hr⟩
theorem callE {f:Nat} {as:List AV} {h:List Zj} (fn:ZK) {r:AV×List Zj} (hx:X f=some (.text fn)) (hl:as.length≤fn.nt)
  (hr:W X M fn.body { sl:=Yj 0 as,hp:=Yw 0 h,nx:=h.length,m:=h.length } (Zkw h.length fn.res fun q=>q=r)):Zi X M f as h=some r:=by
 obtain⟨q,hq,rfl⟩:=Zqs X M fn hx hl hr;exact hq
end
@[go_sem] theorem vopE_move (C:Orc) (M:Zh) (sl:Sl) (hp:Hp) (base:Nat) (x:Opd):vop C M sl hp base (.move x)=Qs (evO sl x):=by simp only[vop]
@[go_sem] theorem ZsL (C:Orc) (M:Zh) (sl:Sl) (hp:Hp) (base:Nat) (s:Option Nat) (x:Opd):vop C M sl hp base (.assign s x)=Zav base s (evO sl x):=by simp only[vop]
@[go_sem] theorem vopE_pick (C:Orc) (M:Zh) (sl:Sl) (hp:Hp) (base:Nat) (c a b:Opd):vop C M sl hp base (.pick c a b)=ZbG (evO sl a) (evO sl b) (evO sl c):=by simp only[vop]
@[go_sem] theorem Ztd (C:Orc) (M:Zh) (sl:Sl) (hp:Hp) (base:Nat) (slc:List (Option Nat)) (cs:List AV):vop C M sl hp base (.alloc slc cs)=ZbH slc base cs:=by simp only[vop]
@[go_sem] theorem vopE_box (C:Orc) (M:Zh) (sl:Sl) (hp:Hp) (base:Nat) (x:Opd):vop C M sl hp base (.box x)=Zpw base (evO sl x):=by simp only[vop]
@[go_sem] theorem Zte (C:Orc) (M:Zh) (sl:Sl) (hp:Hp) (base:Nat) (zs:List AV) (ps:List (Nat×Nat×Opd)):vop C M sl hp base (.build zs ps)=Zhj zs (evP sl ps):=by simp only[vop]
@[go_sem] theorem Zr7 (C:Orc) (M:Zh) (sl:Sl) (hp:Hp) (base:Nat) (s:Nat) (xs:List Opd):vop C M sl hp base (.buildSl s xs)=buildSl hp base s (evL sl xs):=by simp only[vop]
@[go_sem] theorem vopE_load (C:Orc) (M:Zh) (sl:Sl) (hp:Hp) (base:Nat) (g:Bool) (s:Nat) (a:Opd):vop C M sl hp base (.load g s a)=X9 (Y4 hp g s (evO sl a)):=by simp only[vop]
@[go_sem] theorem Ztf (C:Orc) (M:Zh) (sl:Sl) (hp:Hp) (base:Nat) (slc:List (Option Nat)) (s:Nat) (a x:Opd):vop C M sl hp base (.store slc s a x)=Zbi (W3 hp slc s base (evO sl x).cells (evO sl a)):=by simp only[vop]
@[go_sem] theorem Zrm (C:Orc) (M:Zh) (sl:Sl) (hp:Hp) (base:Nat) (x:Opd):vop C M sl hp base (.nilCheck x)=Wq (evO sl x):=by simp only[vop]
@[go_sem] theorem vopE_bin (C:Orc) (M:Zh) (sl:Sl) (hp:Hp) (base:Nat) (op:BinOp) (eq:Bool) (x y:Opd):vop C M sl hp base (.bin op eq x y)=Zhk op eq (evO sl x) (evO sl y):=by simp only[vop]
@[go_sem] theorem vopE_un (C:Orc) (M:Zh) (sl:Sl) (hp:Hp) (base:Nat) (op:UnOp) (x:Opd):vop C M sl hp base (.un op x)=X9 (vun op (evO sl x)):=by simp only[vop]
@[go_sem] theorem vopE_eqA (C:Orc) (M:Zh) (sl:Sl) (hp:Hp) (base:Nat) (neg:Bool) (ks:List Nat) (x y:Opd):vop C M sl hp base (.eqA neg ks x y)=ZkD neg ks (evO sl x) (evO sl y):=by simp only[vop]
@[go_sem] theorem Ztg (C:Orc) (M:Zh) (sl:Sl) (hp:Hp) (base:Nat) (k:IntKind) (x:Opd):vop C M sl hp base (.convI k x)=convI k (evO sl x):=by simp only[vop]
@[go_sem] theorem Zth (C:Orc) (M:Zh) (sl:Sl) (hp:Hp) (base:Nat) (x:Opd):vop C M sl hp base (.convS x)=convS (evO sl x):=by simp only[vop]
@[go_sem] theorem vopE_fn (C:Orc) (M:Zh) (sl:Sl) (hp:Hp) (base:Nat) (f:Nat) (cs:List Opd):vop C M sl hp base (.fn f cs)=X9 (cloV f (evL sl cs)):=by simp only[vop]
@[go_sem] theorem vopE_make (C:Orc) (M:Zh) (sl:Sl) (hp:Hp) (base:Nat) (s b:Nat) (z:D) (l c:Opd):vop C M sl hp base (.make s b z l c)=bnd (idx (evO sl l)) fun l=>bnd (idx (evO sl c)) fun c=>ZjE base s b z l c:=by simp only[vop]
@[go_sem] theorem Zti (C:Orc) (M:Zh) (sl:Sl) (hp:Hp) (base:Nat) (s:Nat) (x:Opd) (lo hi:Option Opd):vop C M sl hp base (.slice s x lo hi)=X9 (X8 hp s (evM sl lo) (evM sl hi) (evO sl x)):=by simp only[vop]
@[go_sem] theorem ZsM (C:Orc) (M:Zh) (sl:Sl) (hp:Hp) (base:Nat) (x:Opd) (lo hi:Option Opd):vop C M sl hp base (.sliceS x lo hi)=X9 (sliceS (evM sl lo) (evM sl hi) (evO sl x)):=by simp only[vop]
@[go_sem] theorem ZsN (C:Orc) (M:Zh) (sl:Sl) (hp:Hp) (base:Nat) (x hi mx:Opd):vop C M sl hp base (.slice0 x hi mx)=X9 (slice0 hp (evO sl x) (idx (evO sl hi)) (idx (evO sl mx))):=by simp only[vop]
@[go_sem] theorem Ztj (C:Orc) (M:Zh) (sl:Sl) (hp:Hp) (base:Nat) (off:Nat) (x:Opd):vop C M sl hp base (.shift off x)=Yu off (evO sl x):=by simp only[vop]
@[go_sem] theorem vopE_part (C:Orc) (M:Zh) (sl:Sl) (hp:Hp) (base:Nat) (g:Bool) (s off:Nat) (x:Opd):vop C M sl hp base (.part g s off x)=X9 (Zd5 g s off (evO sl x)):=by simp only[vop]
@[go_sem] theorem vopE_iaS (C:Orc) (M:Zh) (sl:Sl) (hp:Hp) (base:Nat) (s:Nat) (x i:Opd):vop C M sl hp base (.iaS s x i)=bnd (idx (evO sl i)) fun n=>ZcU hp s (evO sl x) n:=by simp only[vop]
@[go_sem] theorem vopE_iaA (C:Orc) (M:Zh) (sl:Sl) (hp:Hp) (base:Nat) (len s:Nat) (x i:Opd):vop C M sl hp base (.iaA len s x i)=bnd (idx (evO sl i)) fun n=>Zhm (evO sl x) n len s:=by simp only[vop]
@[go_sem] theorem vopE_ixS (C:Orc) (M:Zh) (sl:Sl) (hp:Hp) (base:Nat) (x i:Opd):vop C M sl hp base (.ixS x i)=bnd (idx (evO sl i)) fun n=>Znx n (evO sl x):=by simp only[vop]
@[go_sem] theorem vopE_ixA (C:Orc) (M:Zh) (sl:Sl) (hp:Hp) (base:Nat) (g:Bool) (s len:Nat) (x i:Opd):vop C M sl hp base (.ixA g s len x i)=bnd (idx (evO sl i)) fun n=>Zpy g s len n (evO sl x):=by simp only[vop]
@[go_sem] theorem vopE_nth (C:Orc) (M:Zh) (sl:Sl) (hp:Hp) (base:Nat) (i:Nat) (x:Opd):vop C M sl hp base (.nth i x)=ZlZ i (evO sl x):=by simp only[vop]
@[go_sem] theorem vopE_len (C:Orc) (M:Zh) (sl:Sl) (hp:Hp) (base:Nat) (x:Opd):vop C M sl hp base (.len x)=bnd (Jx hp (evO sl x)) fun n=>Qs (.d (.int .i64 n)):=by simp only[vop]
@[go_sem] theorem vopE_lenS (C:Orc) (M:Zh) (sl:Sl) (hp:Hp) (base:Nat) (x:Opd):vop C M sl hp base (.lenS x)=bnd (ZoW (evO sl x)) fun n=>Qs (.d (.int .i64 n)):=by simp only[vop]
@[go_sem] theorem ZsO (C:Orc) (M:Zh) (sl:Sl) (hp:Hp) (base:Nat) (s b:Nat) (str flat:Bool) (x y:Opd):vop C M sl hp base (.append s b str flat x y)=Zl0 hp s b str flat base (evO sl x) (evO sl y):=by simp only[vop]
@[go_sem] theorem vopE_min (C:Orc) (M:Zh) (sl:Sl) (hp:Hp) (base:Nat) (x y:Opd):vop C M sl hp base (.min x y)=ZfL (evO sl x) (evO sl y):=by simp only[vop]
@[go_sem] theorem vopE_max (C:Orc) (M:Zh) (sl:Sl) (hp:Hp) (base:Nat) (x y:Opd):vop C M sl hp base (.max x y)=ZfM (evO sl x) (evO sl y):=by simp only[vop]
@[go_sem] theorem vopE_call (C:Orc) (M:Zh) (sl:Sl) (hp:Hp) (base:Nat) (f:Opd) (as:List Opd):vop C M sl hp base (.call f as)=JC C M hp base (evL sl as) (evO sl f):=by simp only[vop]
@[go_sem] theorem ZsP (C:Orc) (M:Zh) (sl:Sl) (hp:Hp) (base:Nat) (s:Nat) (x lo hi mx:Opd):vop C M sl hp base (.slice3 s x lo hi mx)=X9 (slice3 hp (evO sl x) (idx (evO sl lo)) (idx (evO sl hi)) (idx (evO sl mx))):=by simp only[vop]
@[go_sem] theorem Ztk (C:Orc) (M:Zh) (sl:Sl) (hp:Hp) (base:Nat) (s:Nat) (z:D) (x:Opd):vop C M sl hp base (.clear s z x)=Zbi (Zar hp s z (evO sl x)):=by simp only[vop]
@[go_sem] theorem ZsQ (C:Orc) (M:Zh) (sl:Sl) (hp:Hp) (base:Nat) (s n:Nat) (xs:List Opd):vop C M sl hp base (.buildT s n xs)=buildT hp base s n (evL sl xs):=by simp only[vop]
@[go_sem] theorem vopE_appT (C:Orc) (M:Zh) (sl:Sl) (hp:Hp) (base:Nat) (s b:Nat) (f:Bool) (x y:Opd):vop C M sl hp base (.appT s b f x y)=appT hp s b base (evO sl x) (evO sl y):=by simp only[vop]
@[go_sem] theorem vopE_asgT (C:Orc) (M:Zh) (sl:Sl) (hp:Hp) (base:Nat) (s n:Nat) (x:Opd):vop C M sl hp base (.asgT s n x)=asgT base s n (evO sl x):=by simp only[vop]
@[go_sem] theorem Ztl (C:Orc) (M:Zh) (sl:Sl) (hp:Hp) (base:Nat) (s b n:Nat) (z:D) (l c:Opd):vop C M sl hp base (.makeT s b n z l c)=bnd (idx (evO sl l)) fun l=>bnd (idx (evO sl c)) fun c=>makeT base s b n z l c:=by simp only[vop]
@[go_sem] theorem Ztm (C:Orc) (M:Zh) (sl:Sl) (hp:Hp) (base:Nat):vop C M sl hp base .stuck=none:=by simp only[vop]
@[go_sem] theorem Zpn (hp:Hp) (n:Nat) (aa:List Nat):Qz hp n [] aa=aa:=by cases n<;>rfl
@[go_sem] theorem tidy_d (hp:Hp) (ids:List Nat) (x:D):J6 hp ids (.d x)=.d x:=rfl
@[go_sem] theorem tidy_nil (hp:Hp) (ids:List Nat):J6 hp ids .nil=.nil:=rfl
@[go_sem] theorem tidy_junk (hp:Hp) (ids:List Nat):J6 hp ids .junk=.junk:=rfl
@[go_sem] theorem tidy_tup (hp:Hp) (ids:List Nat) (vs:List AV):J6 hp ids (.tup vs)=ren (Ye ids) (kill (ZbP hp ids (Zn (.tup vs))) (.tup vs)):=rfl
@[go_sem] theorem tidy_agg (hp:Hp) (ids:List Nat) (vs:List AV):J6 hp ids (.agg vs)=ren (Ye ids) (kill (ZbP hp ids (Zn (.agg vs))) (.agg vs)):=rfl
@[go_sem] theorem tidy_clo (hp:Hp) (ids:List Nat) (f:Nat) (vs:List AV):J6 hp ids (.clo f vs)=ren (Ye ids) (kill (ZbP hp ids (Zn (.clo f vs))) (.clo f vs)):=rfl
@[go_sem] theorem tidy_nilp (hp:Hp) (ids:List Nat):J6 hp ids .nilp=.nilp:=rfl
@[go_sem] theorem tidy_nili (hp:Hp) (ids:List Nat):J6 hp ids .nili=.nili:=rfl
@[go_sem] theorem tidy_pim (hp:Hp) (ids:List Nat) (cs:List D):J6 hp ids (.pim cs)=.pim cs:=rfl
@[go_sem] theorem tidy_ptr (hp:Hp) (ids:List Nat) (id o:Nat):J6 hp ids (.ptr id o)=if JF hp ids id=true then .ptr (Ye ids id) o else .junk:=by
 simp only[J6,Zn,Zq,Zf,ZbP];split<;>simp[kill,ZD,ZS,ren,JR,Zai]
@[go_sem] theorem tidy_prow (hp:Hp) (ids:List Nat) (id s i o:Nat):J6 hp ids (.prow id s i o)=if JF hp ids id=true then .prow (Ye ids id) s i o else .junk:=by
 simp only[J6,Zn,Zq,Zf,ZbP];split<;>simp[kill,ZD,ZS,ren,JR,Zai]
@[go_sem] theorem tidy_own (hp:Hp) (ids:List Nat) (id:Nat):J6 hp ids (.own id)=if JF hp ids id=true then .own (Ye ids id) else .junk:=by
 simp only[J6,Zn,Zq,Zf,ZbP];split<;>simp[kill,ZD,ZS,ren,JR,Zai]
@[go_sem] theorem tidy_ownv (hp:Hp) (ids:List Nat) (id a b:Nat):J6 hp ids (.ownv id a b)=if JF hp ids id=true then .ownv (Ye ids id) a b else .junk:=by
 simp only[J6,Zn,Zq,Zf,ZbP];split<;>simp[kill,ZD,ZS,ren,JR,Zai]
@[go_sem] theorem Ztn (hp:Hp) (x:D):Yx 0 hp (.d x)=(.d x,[]):=by
 simp[Yx,Zn,Zq,Zf,YM,Zpn,tidy_d,JA]
@[go_sem] theorem minI_eq (a b:Int):minI a b=min a b:=by unfold minI;split<;>omega
@[go_sem] theorem maxI_eq (a b:Int):maxI a b=max a b:=by unfold maxI;split<;>omega
@[go_sem] theorem negIf_f (r:Bool):Zhl false r=r:=rfl
@[go_sem] theorem negIf_t (r:Bool):Zhl true r=!r:=rfl
@[go_sem] theorem opt1_some (v:AV):X9 (some v)=Qs v:=rfl
@[go_sem] theorem opt1_none:X9 none=none:=rfl
@[go_sem] theorem vbin_int (op:BinOp) (k k' : IntKind) (a b:Int):vbin op (.d (.int k a)) (.d (.int k' b))=Wl op k k' a b:=rfl
@[go_sem] theorem binV_int (op:BinOp) (eq:Bool) (k k' : IntKind) (a b:Int):Zhk op eq (.d (.int k a)) (.d (.int k' b))=X9 (Wl op k k' a b):=rfl
@[go_sem] theorem binV_str (op:BinOp) (eq:Bool) (a b:List UInt8):Zhk op eq (.d (.str a)) (.d (.str b))=X9 (asD (Zlo op a b)):=rfl
@[go_sem] theorem int2_add (k:IntKind) (a b:Int):Wl .add k k a b=some (.d (.int k (k.wrap (a+b)))):=by simp[Wl,Vl,asD,Zc]
@[go_sem] theorem int2_sub (k:IntKind) (a b:Int):Wl .sub k k a b=some (.d (.int k (k.wrap (a-b)))):=by simp[Wl,Vl,asD,Zc]
@[go_sem] theorem int2_mul (k:IntKind) (a b:Int):Wl .mul k k a b=some (.d (.int k (k.wrap (a*b)))):=by simp[Wl,Vl,asD,Zc]
@[go_sem] theorem int2_quo (k:IntKind) (a b:Int):Wl .quo k k a b=if b=0 then none else some (.d (.int k (k.wrap (a.tdiv b)))):=by simp only[Wl,Vl,asD,if_true];split<;>rfl
@[go_sem] theorem int2_rem (k:IntKind) (a b:Int):Wl .rem k k a b=if b=0 then none else some (.d (.int k (a.tmod b))):=by simp only[Wl,Vl,asD,if_true];split<;>rfl
@[go_sem] theorem int2_eql (k:IntKind) (a b:Int):Wl .eql k k a b=some (.d (.bool (decide (a=b)))):=by simp[Wl,Vl,asD,Zc,BEq.beq]
@[go_sem] theorem int2_neq (k:IntKind) (a b:Int):Wl .neq k k a b=some (.d (.bool (!decide (a=b)))):=by simp[Wl,Vl,asD,Zc,bne,BEq.beq]
@[go_sem] theorem int2_lss (k:IntKind) (a b:Int):Wl .lss k k a b=some (.d (.bool (decide (a<b)))):=by simp[Wl,Vl,asD,Zc]
@[go_sem] theorem int2_leq (k:IntKind) (a b:Int):Wl .leq k k a b=some (.d (.bool (decide (a≤b)))):=by simp[Wl,Vl,asD,Zc]
@[go_sem] theorem int2_gtr (k:IntKind) (a b:Int):Wl .gtr k k a b=some (.d (.bool (decide (b<a)))):=by simp[Wl,Vl,asD,Zc]
@[go_sem] theorem int2_geq (k:IntKind) (a b:Int):Wl .geq k k a b=some (.d (.bool (decide (b≤a)))):=by simp[Wl,Vl,asD,Zc]
@[go_sem] theorem guardV_t (b:Bool):ZaE true (.d (.bool b))=some b:=by cases b<;>rfl
def nb (b:Bool):Bool:=!b
@[go_sem] theorem nb_true:nb true=false:=rfl
@[go_sem] theorem nb_false:nb false=true:=rfl
@[go_sem] theorem nb_eq (b:Bool):(nb b=true)=(b=false):=by cases b<;>simp[nb]
@[go_sem] theorem guardV_f (b:Bool):ZaE false (.d (.bool b))=some (nb b):=by cases b<;>rfl
@[go_sem] theorem Zto (w:Bool):ZaE w (.tup [])=some false:=rfl
@[go_sem] theorem Zr8 (a b:Bool):ZaE true (ZcG a (.d (.bool b)))=some (a&&b):=by cases a<;>cases b<;>rfl
@[go_sem] theorem Zr9 (a b:Bool):ZaE false (ZcG a (.d (.bool b)))=some (a&&nb b):=by cases a<;>cases b<;>rfl
@[go_sem] theorem iteV_true (v:AV):ZcG true v=v:=rfl
@[go_sem] theorem Ztp (v:AV):ZcG false v=.tup []:=rfl
@[go_sem] theorem Ztq (a b:AV):ZbG a b (.d (.bool true))=Qs a:=rfl
@[go_sem] theorem ZsR (a b:AV):ZbG a b (.d (.bool false))=Qs b:=rfl
@[go_sem] theorem pickV_or (b c:Bool):ZbG (.d (.bool true)) (ZcG (nb b) (.d (.bool c))) (.d (.bool b))=Qs (.d (.bool (b || c))):=by cases b<;>rfl
@[go_sem] theorem pickV_and (b c:Bool):ZbG (ZcG b (.d (.bool c))) (.d (.bool false)) (.d (.bool b))=Qs (.d (.bool (b&&c))):=by cases b<;>rfl
theorem Ztr (a b:AV) (t:Bool):ZbG a b (.d (.bool t))=if t=true then Qs a else Qs b:=by cases t<;>rfl
@[go_sem] theorem dec_or (p q:Prop) [Decidable p] [Decidable q]:(decide p || decide q)=decide (p∨q):=by simp
@[go_sem] theorem dec_and (p q:Prop) [Decidable p] [Decidable q]:(decide p&&decide q)=decide (p∧q):=by simp
@[go_sem] theorem dec_not (p:Prop) [Decidable p]:(!decide p)=decide (¬p):=by simp
attribute [go_sem] Bool.or_eq_false_iff decide_eq_true_eq decide_eq_false_iff_not Bool.and_eq_true Bool.or_eq_true Bool.not_eq_true' Bool.not_eq_false' not_or Decidable.not_not
@[go_sem] theorem evO_t (sl:Sl) (n:Nat):evO sl (.t n)=gs sl n:=rfl
@[go_sem] theorem evO_v (sl:Sl) (a:AV):evO sl (.v a)=a:=rfl
@[go_sem] theorem evO_f (sl:Sl) (n:Nat):evO sl (.f n)=.clo n []:=rfl
@[go_sem] theorem gs_hit (k:Nat) (v:AV) (r:Sl):gs ((k,v) :: r) k=v:=by simp[gs,lkp,Jv]
@[go_sem] theorem gs_cons (k t:Nat) (v:AV) (r:Sl):gs ((k,v) :: r) t=if k=t then v else gs r t:=by
 by_cases h:k=t<;>simp[gs,lkp,h,Jv]
@[go_sem] theorem gs_nil (t:Nat):gs [] t=.junk:=rfl
attribute [go_sem] Zag.eq_1 Zag.eq_2
attribute [go_sem] VG.eq_1 VG.eq_2 VG.eq_3 VG.eq_4
attribute [go_sem] ZdI.eq_1 ZdI.eq_2 ZdI.eq_3 ZdI.eq_4
attribute [go_sem] WM.eq_1 WM.eq_2
attribute [go_sem] St.hp.eq_1
attribute [go_sem] Jb.eq_1 Jb.eq_2 Jb.eq_3
attribute [go_sem] Jv.eq_1 Jv.eq_2
attribute [go_sem] agg2.eq_1 agg2.eq_2 agg2.eq_3
attribute [go_sem] ins.eq_1 ins.eq_2
attribute [go_sem] Zah.eq_1 Zah.eq_2
attribute [go_sem] QW.eq_1 QW.eq_2 QW.eq_3
attribute [go_sem] St.m.eq_1
attribute [go_sem] bnd.eq_1 bnd.eq_2
attribute [go_sem] YI.eq_1 YI.eq_2 YI.eq_3
attribute [go_sem] Zlo.eq_1 Zlo.eq_2 Zlo.eq_3 Zlo.eq_4
attribute [go_sem] AV.cells.eq_1 AV.cells.eq_2 AV.cells.eq_3 AV.cells.eq_4 AV.cells.eq_5 AV.cells.eq_6 AV.cells.eq_7 AV.cells.eq_8 AV.cells.eq_9 AV.cells.eq_10 AV.cells.eq_11 AV.cells.eq_12 AV.cells.eq_13 AV.cells.eq_14 AV.cells.eq_15
attribute [go_sem] ZS.eq_1 ZS.eq_2 ZS.eq_3 ZS.eq_4 ZS.eq_5 ZS.eq_6
attribute [go_sem] AV.solid.eq_1 AV.solid.eq_2 AV.solid.eq_3 AV.solid.eq_4
attribute [go_sem] Yb.eq_1 Yb.eq_2
attribute [go_sem] Qd.eq_1 Qd.eq_2
attribute [go_sem] Xi.eq_1 Xi.eq_2
attribute [go_sem] VF.eq_1
attribute [go_sem] Jx.eq_1 Jx.eq_2 Jx.eq_3 Jx.eq_4 Jx.eq_5
attribute [go_sem] Ym.eq_1 Ym.eq_2
attribute [go_sem] D.flat.eq_1
attribute [go_sem] give.eq_1 give.eq_2
attribute [go_sem] D.beq1.eq_1 D.beq1.eq_2 D.beq1.eq_3 D.beq1.eq_4
attribute [go_sem] Zai.eq_1 Zai.eq_2 Zai.eq_3 Zai.eq_4 Zai.eq_5 Zai.eq_6
attribute [go_sem] not1.eq_1 not1.eq_2
attribute [go_sem] QH.eq_1 QH.eq_2 QH.eq_3 QH.eq_4
attribute [go_sem] St.nx.eq_1
attribute [go_sem] Zq.eq_1 Zq.eq_2 Zq.eq_3
attribute [go_sem] JR.eq_1 JR.eq_2 JR.eq_3
attribute [go_sem] ZdJ.eq_1 ZdJ.eq_2
attribute [go_sem] vun.eq_1 vun.eq_2 vun.eq_3
attribute [go_sem] toD.eq_1 toD.eq_2
attribute [go_sem] Zf.eq_1 Zf.eq_2 Zf.eq_3 Zf.eq_4 Zf.eq_5 Zf.eq_6 Zf.eq_7 Zf.eq_8 Zf.eq_9 Zf.eq_10 Zf.eq_11 Zf.eq_12 Zf.eq_13 Zf.eq_14 Zf.eq_15
attribute [go_sem] D.plain.eq_1 D.plain.eq_2 D.plain.eq_3 D.plain.eq_4 D.plain.eq_5
attribute [go_sem] Zl.eq_1
attribute [go_sem] ZD.eq_1 ZD.eq_2 ZD.eq_3
attribute [go_sem] Vg.eq_1 Vg.eq_2
attribute [go_sem] Zn.eq_1 Zn.eq_2
attribute [go_sem] Zm3.eq_1
attribute [go_sem] ZeA.eq_1 ZeA.eq_2
attribute [go_sem] W9.eq_1 W9.eq_2 W9.eq_3 W9.eq_4
attribute [go_sem] St.sl.eq_1
attribute [go_sem] ZoW.eq_1 ZoW.eq_2
attribute [go_sem] YJ.eq_1 YJ.eq_2
attribute [go_sem] Jw.eq_1 Jw.eq_2
attribute [go_sem] ren.eq_1 ren.eq_2
attribute [go_sem] kill.eq_1 kill.eq_2
attribute [go_sem] lkp.eq_1 lkp.eq_2
attribute [go_sem] Zje.eq_1 Zje.eq_2 Zje.eq_3
attribute [go_sem] QT.eq_1 QT.eq_2
attribute [go_sem] beqL.eq_1 beqL.eq_2 beqL.eq_3
attribute [go_sem] D.cells.eq_1 D.cells.eq_2 D.cells.eq_3 D.cells.eq_4 D.cells.eq_5
attribute [go_sem] Zgy.eq_1 Zgy.eq_2
attribute [go_sem] Zjd.eq_1 Zjd.eq_2
attribute [go_sem] neg1.eq_1 neg1.eq_2
attribute [go_sem] ZeB.eq_1 ZeB.eq_2 ZeB.eq_3
attribute [go_sem] Zgz.eq_1 Zgz.eq_2
attribute [go_sem] XL.eq_1 XL.eq_2 XL.eq_3
attribute [go_sem] asD.eq_1
attribute [go_sem] Vl.eq_1 Vl.eq_2 Vl.eq_3 Vl.eq_4 Vl.eq_5 Vl.eq_6 Vl.eq_7 Vl.eq_8 Vl.eq_9 Vl.eq_10 Vl.eq_11 Vl.eq_12 Vl.eq_13 Vl.eq_14 Vl.eq_15 Vl.eq_16 Vl.eq_17
attribute [go_sem] ZcF.eq_1 ZcF.eq_2 ZcF.eq_3 ZcF.eq_4 ZcF.eq_5
attribute [go_sem] D.one.eq_1 D.one.eq_2 D.one.eq_3 D.one.eq_4 D.one.eq_5
attribute [go_sem] freeze.eq_1 freeze.eq_2
attribute [go_sem] Uy.eq_1
attribute [go_sem] loOf.eq_1 loOf.eq_2
attribute [go_sem] Eff.on.eq_1
attribute [go_sem] appT.eq_1
attribute [go_sem] WG.eq_1 WG.eq_2
attribute [go_sem] cloV.eq_1
attribute [go_sem] slice0.eq_1 slice0.eq_2
attribute [go_sem] evM.eq_1 evM.eq_2
attribute [go_sem] VN.eq_1 VN.eq_2
attribute [go_sem] hiOf.eq_1 hiOf.eq_2
attribute [go_sem] Zd5.eq_1 Zd5.eq_2 Zd5.eq_3
attribute [go_sem] Zoy.eq_1
attribute [go_sem] idx.eq_1 idx.eq_2
attribute [go_sem] X8.eq_1 X8.eq_2 X8.eq_3 X8.eq_4 X8.eq_5
attribute [go_sem] Wh.eq_1 Wh.eq_2 Wh.eq_3
attribute [go_sem] ZU.eq_1 ZU.eq_2
attribute [go_sem] D.notSl.eq_1 D.notSl.eq_2
attribute [go_sem] Zqx.eq_1 Zqx.eq_2
attribute [go_sem] UC.eq_1 UC.eq_2 UC.eq_3 UC.eq_4 UC.eq_5 UC.eq_6
attribute [go_sem] Vi.eq_1 Vi.eq_2 Vi.eq_3
attribute [go_sem] CO.guard.eq_1
attribute [go_sem] Zbi.eq_1
attribute [go_sem] WO.eq_1
attribute [go_sem] Uz.eq_1 Uz.eq_2 Uz.eq_3
attribute [go_sem] Zd1.eq_1
attribute [go_sem] Eff.adds.eq_1
attribute [go_sem] ZfK.eq_1 ZfK.eq_2
attribute [go_sem] Ye.eq_1 Ye.eq_2
attribute [go_sem] Zd.eq_1 Zd.eq_2
attribute [go_sem] Zb.eff.eq_1
attribute [go_sem] ZbD.eq_1 ZbD.eq_2
attribute [go_sem] Znx.eq_1 Znx.eq_2
attribute [go_sem] ZeM.eq_1 ZeM.eq_2 ZeM.eq_3
attribute [go_sem] del.eq_1 del.eq_2
attribute [go_sem] Zhj.eq_1
attribute [go_sem] Zkz.eq_1 Zkz.eq_2
attribute [go_sem] Wp.eq_1 Wp.eq_2
attribute [go_sem] ZfM.eq_1 ZfM.eq_2
attribute [go_sem] D.isAgg.eq_1 D.isAgg.eq_2
attribute [go_sem] Wq.eq_1 Wq.eq_2 Wq.eq_3 Wq.eq_4 Wq.eq_5
attribute [go_sem] ZbH.eq_1
attribute [go_sem] slice3.eq_1
attribute [go_sem] UB.eq_1 UB.eq_2
attribute [go_sem] args.eq_1 args.eq_2
attribute [go_sem] ZfL.eq_1 ZfL.eq_2
attribute [go_sem] Zau.eq_1
attribute [go_sem] Zd2.eq_1 Zd2.eq_2
attribute [go_sem] VR.eq_1
attribute [go_sem] evL.eq_1 evL.eq_2
attribute [go_sem] ZeN.eq_1 ZeN.eq_2 ZeN.eq_3
attribute [go_sem] VM.eq_1 VM.eq_2 VM.eq_3
attribute [go_sem] JA.eq_1 JA.eq_2
attribute [go_sem] Zhg.eq_1 Zhg.eq_2
attribute [go_sem] Eff.sets.eq_1
attribute [go_sem] JB.eq_1 JB.eq_2 JB.eq_3
attribute [go_sem] Zd0.eq_1 Zd0.eq_2
attribute [go_sem] Zd4.eq_1 Zd4.eq_2
attribute [go_sem] W3.eq_1 W3.eq_2 W3.eq_3
attribute [go_sem] Zpy.eq_1
attribute [go_sem] makeT.eq_1
attribute [go_sem] YL.eq_1 YL.eq_2
attribute [go_sem] Zqy.eq_1 Zqy.eq_2
attribute [go_sem] Zhh.eq_1 Zhh.eq_2
attribute [go_sem] UG.eq_1 UG.eq_2
attribute [go_sem] ZjE.eq_1
attribute [go_sem] UF.eq_1 UF.eq_2
attribute [go_sem] AV.atom.eq_1 AV.atom.eq_2 AV.atom.eq_3 AV.atom.eq_4 AV.atom.eq_5
attribute [go_sem] Eff.dels.eq_1
attribute [go_sem] Jh.eq_1 Jh.eq_2 Jh.eq_3
attribute [go_sem] mat.eq_1 mat.eq_2 mat.eq_3
attribute [go_sem] ZB.eq_1
attribute [go_sem] UE.eq_1 UE.eq_2
attribute [go_sem] ZkC.eq_1
attribute [go_sem] Zpw.eq_1
attribute [go_sem] Zaw.eq_1 Zaw.eq_2
attribute [go_sem] VO.eq_1
attribute [go_sem] Qg.eq_1 Qg.eq_2 Qg.eq_3 Qg.eq_4
attribute [go_sem] Zpx.eq_1
attribute [go_sem] ZbA.eq_1 ZbA.eq_2
attribute [go_sem] ZeO.eq_1 ZeO.eq_2
attribute [go_sem] Zl2.eq_1 Zl2.eq_2
attribute [go_sem] ZcT.eq_1 ZcT.eq_2 ZcT.eq_3 ZcT.eq_4
attribute [go_sem] Zde.eq_1 Zde.eq_2
attribute [go_sem] Zas.eq_1 Zas.eq_2
attribute [go_sem] ZbC.eq_1 ZbC.eq_2 ZbC.eq_3 ZbC.eq_4 ZbC.eq_5
attribute [go_sem] ZkA.eq_1 ZkA.eq_2
attribute [go_sem] Zhi.eq_1
attribute [go_sem] convS.eq_1 convS.eq_2
attribute [go_sem] Zd3.eq_1 Zd3.eq_2
attribute [go_sem] CO.tl.eq_1
attribute [go_sem] ZbE.eq_1 ZbE.eq_2 ZbE.eq_3 ZbE.eq_4
attribute [go_sem] CO.dst.eq_1
attribute [go_sem] teOf.eq_1
attribute [go_sem] Zny.eq_1 Zny.eq_2 Zny.eq_3
attribute [go_sem] ZkB.eq_1
attribute [go_sem] ZlX.eq_1 ZlX.eq_2
attribute [go_sem] ZlY.eq_1
attribute [go_sem] Eff.val.eq_1
attribute [go_sem] sliceS.eq_1 sliceS.eq_2
attribute [go_sem] Xo.eq_1 Xo.eq_2 Xo.eq_3
attribute [go_sem] ZbB.eq_1 ZbB.eq_2 ZbB.eq_3 ZbB.eq_4
attribute [go_sem] VL.eq_1
attribute [go_sem] buildSl.eq_1 buildSl.eq_2
attribute [go_sem] Y4.eq_1 Y4.eq_2 Y4.eq_3 Y4.eq_4
attribute [go_sem] We.eq_1 We.eq_2 We.eq_3 We.eq_4 We.eq_5
attribute [go_sem] ZfJ.eq_1 ZfJ.eq_2
attribute [go_sem] Zhm.eq_1
attribute [go_sem] evP.eq_1 evP.eq_2
attribute [go_sem] Zd6.eq_1 Zd6.eq_2
attribute [go_sem] Ji.eq_1
attribute [go_sem] Zcq.eq_1
attribute [go_sem] ZjD.eq_1 ZjD.eq_2
attribute [go_sem] Zhl.eq_1
attribute [go_sem] Yt.eq_1
attribute [go_sem] Zl1.eq_1
attribute [go_sem] bnT.eq_1 bnT.eq_2
attribute [go_sem] UA.eq_1 UA.eq_2
attribute [go_sem] Ys.eq_1 Ys.eq_2
attribute [go_sem] VQ.eq_1 VQ.eq_2
attribute [go_sem] asgT.eq_1 asgT.eq_2
attribute [go_sem] ZeP.eq_1 ZeP.eq_2
attribute [go_sem] JC.eq_1 JC.eq_2
attribute [go_sem] ZbF.eq_1 ZbF.eq_2 ZbF.eq_3 ZbF.eq_4
attribute [go_sem] ZlV.eq_1 ZlV.eq_2
attribute [go_sem] CO.op.eq_1
attribute [go_sem] Zav.eq_1 Zav.eq_2
attribute [go_sem] Zar.eq_1 Zar.eq_2
attribute [go_sem] Zpv.eq_1 Zpv.eq_2
attribute [go_sem] Zcr.eq_1 Zcr.eq_2 Zcr.eq_3
attribute [go_sem] ZlZ.eq_1 ZlZ.eq_2
attribute [go_sem] Zdf.eq_1 Zdf.eq_2
attribute [go_sem] Zat.eq_1 Zat.eq_2
attribute [go_sem] Ja.eq_1 Ja.eq_2 Ja.eq_3 Ja.eq_4 Ja.eq_5 Ja.eq_6 Ja.eq_7 Ja.eq_8 Ja.eq_9 Ja.eq_10
attribute [go_sem] WP.eq_1
attribute [go_sem] Yu.eq_1 Yu.eq_2 Yu.eq_3 Yu.eq_4
attribute [go_sem] Eff.frz.eq_1
attribute [go_sem] buildT.eq_1
attribute [go_sem] ZZ.eq_1 ZZ.eq_2
attribute [go_sem] Zcp.eq_1 Zcp.eq_2
attribute [go_sem] Zb.gone.eq_1
attribute [go_sem] meltIn.eq_1 meltIn.eq_2
attribute [go_sem] ZcU.eq_1
attribute [go_sem] ZlW.eq_1 ZlW.eq_2
attribute [go_sem] convI.eq_1 convI.eq_2
attribute [go_sem] Zgp.eq_1 Zgp.eq_2
attribute [go_sem] Jj.eq_1 Jj.eq_2 Jj.eq_3
attribute [go_sem] bd.eq_1
attribute [go_sem] UD.eq_1 UD.eq_2
attribute [go_sem] QY.eq_1
attribute [go_sem] ZkD.eq_1 ZkD.eq_2
attribute [go_sem] Zcs.eq_1
attribute [go_sem] Q3.eq_1 Q3.eq_2
attribute [go_sem] ZoF.eq_1 ZoF.eq_2
attribute [go_sem] Zt.eq_1 Zt.eq_2 Zt.eq_3 Zt.eq_4 Zt.eq_5 Zt.eq_6 Zt.eq_7 Zt.eq_8 Zt.eq_9 Zt.eq_10 Zt.eq_11 Zt.eq_12 Zt.eq_13 Zt.eq_14 Zt.eq_15 Zt.eq_16 Zt.eq_17 Zt.eq_18 Zt.eq_19 Zt.eq_20 Zt.eq_21 Zt.eq_22 Zt.eq_23 Zt.eq_24 Zt.eq_25 Zt.eq_26 Zt.eq_27 Zt.eq_28 Zt.eq_29 Zt.eq_30 Zt.eq_31 Zt.eq_32 Zt.eq_33 Zt.eq_34 Zt.eq_35 Zt.eq_36 Zt.eq_37 Zt.eq_38 Zt.eq_39 Zt.eq_40
attribute [go_sem] Vn.eq_1 Vn.eq_2 Vn.eq_3 Vn.eq_4 Vn.eq_5
attribute [go_sem] ZbQ.eq_1
attribute [go_sem] ZkN.eq_1 ZkN.eq_2
attribute [go_sem] UP.eq_1 UP.eq_2
attribute [go_sem] ZaJ.eq_1
attribute [go_sem] JE.eq_1 JE.eq_2 JE.eq_3 JE.eq_4 JE.eq_5
attribute [go_sem] Vj.eq_1 Vj.eq_2
attribute [go_sem] ZfQ.eq_1 ZfQ.eq_2
attribute [go_sem] ZpG.eq_1 ZpG.eq_2
attribute [go_sem] ZjJ.eq_1 ZjJ.eq_2
attribute [go_sem] QA.eq_1 QA.eq_2
attribute [go_sem] only.eq_1 only.eq_2
attribute [go_sem] ZnK.eq_1 ZnK.eq_2
attribute [go_sem] ZbN.eq_1 ZbN.eq_2
attribute [go_sem] Yj.eq_1 Yj.eq_2
attribute [go_sem] okL.eq_1 okL.eq_2
attribute [go_sem] okC.eq_1 okC.eq_2 okC.eq_3 okC.eq_4 okC.eq_5 okC.eq_6 okC.eq_7 okC.eq_8 okC.eq_9 okC.eq_10
attribute [go_sem] Zgr.eq_1 Zgr.eq_2
attribute [go_sem] W6.eq_1 W6.eq_2
attribute [go_sem] ZaF.eq_1 ZaF.eq_2 ZaF.eq_3
attribute [go_sem] Zcy.eq_1 Zcy.eq_2
attribute [go_sem] ZbP.eq_1 ZbP.eq_2
attribute [go_sem] Qu.eq_1 Qu.eq_2
attribute [go_sem] Zk.eq_1 Zk.eq_2
attribute [go_sem] XZ.eq_1 XZ.eq_2 XZ.eq_3
attribute [go_sem] Zee.eq_1
attribute [go_sem] Yw.eq_1 Yw.eq_2
attribute [go_sem] ZkO.eq_1 ZkO.eq_2
attribute [go_sem] CO.starts.eq_1
attribute [go_sem] Yi.eq_1 Yi.eq_2
attribute [go_sem] Qy.eq_1 Qy.eq_2
attribute [go_sem] ZoE.eq_1 ZoE.eq_2
attribute [go_sem] Ze3.eq_1
attribute [go_sem] ZhA.eq_1 ZhA.eq_2 ZhA.eq_3
attribute [go_sem] ZaH.eq_1 ZaH.eq_2
attribute [go_sem] YM.eq_1 YM.eq_2
attribute [go_sem] JF.eq_1
attribute [go_sem] ZhB.eq_1 ZhB.eq_2
attribute [go_sem] ZoD.eq_1
attribute [go_sem] ZK.body.eq_1
attribute [go_sem] Zef.eq_1
attribute [go_sem] Zdm.eq_1 Zdm.eq_2
attribute [go_sem] VV.eq_1 VV.eq_2 VV.eq_3 VV.eq_4 VV.eq_5
attribute [go_sem] ZK.res.eq_1
attribute [go_sem] XA.eq_1 XA.eq_2
attribute [go_sem] Xn.eq_1 Xn.eq_2 Xn.eq_3 Xn.eq_4 Xn.eq_5 Xn.eq_6 Xn.eq_7 Xn.eq_8 Xn.eq_9 Xn.eq_10 Xn.eq_11 Xn.eq_12
attribute [go_sem] ZhC.eq_1 ZhC.eq_2
attribute [go_sem] XY.eq_1 XY.eq_2
attribute [go_sem] ZK.nt.eq_1
attribute [go_sem] okD.eq_1 okD.eq_2
attribute [go_sem] ZkD.eq_1 We.eq_1 We.eq_2 We.eq_3 We.eq_4
attribute [go_sem] Vv.eq_1 UM.eq_1 UM.eq_2 UM.eq_3 UM.eq_4 UM.eq_5 UM.eq_6 UM.eq_7 UM.eq_8 UM.eq_9 UM.eq_10 Yx.eq_1
attribute [go_sem] Qz.eq_3 QZ.eq_1 AV.atom.eq_1 AV.atom.eq_2 AV.atom.eq_3 AV.atom.eq_4
attribute [go_sem] Zg9.eq_1 Zg9.eq_2 ZcR.eq_1 ZcR.eq_2
attribute [go_sem] Zc Zp6 ZrM
attribute [go_sem] List.map_cons List.map_nil List.flatMap_cons List.flatMap_nil List.append_nil List.nil_append List.cons_append List.length_cons List.length_nil List.all_cons List.all_nil List.any_cons List.any_nil List.contains_cons List.contains_nil List.filter_cons List.filter_nil List.drop_zero List.drop_succ_cons List.drop_nil List.take_zero List.take_succ_cons List.take_nil List.getElem?_cons_zero List.getElem?_cons_succ List.getElem?_nil Option.map_some Option.map_none Bool.and_true Bool.true_and Bool.and_false Bool.false_and Bool.or_true Bool.true_or Bool.or_false Bool.false_or Bool.not_true Bool.not_false decide_true decide_false and_true true_and and_false false_and not_true not_false_eq_true or_true true_or or_false false_or if_true if_false true_implies false_implies implies_true imp_self eq_self ne_eq beq_self_eq_true Bool.true_eq_false Bool.false_eq_true List.isEmpty_nil List.isEmpty_cons List.range_zero List.set_cons_zero List.set_cons_succ Option.some.injEq reduceCtorEq Nat.reduceLeDiff
def Zha (hp:Hp):List Nat→List Nat
 | []=>[]
 | i :: r=>if ZbE (lkp hp i)=true then i :: Zha hp r else Zha hp r
theorem gE (hp:Hp) (ids:List Nat):(ids.filter fun i=>ZbE (lkp hp i))=Zha hp ids:=by
 induction ids with
 | nil=>rfl
 | cons i r ih=>simp only[List.filter_cons,Zha,ih]
def Zjv (hp:Hp) (rs:List Nat):List Nat→Bool
 | []=>true
 | i :: r=>(ZbE (lkp hp i) || rs.contains i)&&Zjv hp rs r
def Zjw (hp:Hp):List Nat→Bool
 | []=>false
 | i :: r=>UF (lkp hp i) || Zjw hp r
theorem gG (hp:Hp) (ids:List Nat):(ids.any fun i=>UF (lkp hp i))=Zjw hp ids:=by
 induction ids with
 | nil=>rfl
 | cons i r ih=>simp only[List.any_cons,Zjw,ih]
attribute [go_sem] Zjw.eq_1 Zjw.eq_2
@[go_sem] theorem appV_eq (hp:Hp) (s b:Nat) (str flat:Bool) (base:Nat) (x y:AV):Zl0 hp s b str flat base x y=Zbi (YL hp s b str flat base x y (XN hp x++XN hp y)):=rfl
@[go_sem] theorem treeId_d (hp:Hp) (x:D):XN hp (.d x)=[]:=rfl
@[go_sem] theorem Zts (hp:Hp):XN hp .nil=[]:=rfl
@[go_sem] theorem ZsS (hp:Hp) (k o n:Nat):XN hp (.ownv k o n)=[]:=rfl
@[go_sem] theorem Ztt (hp:Hp) (k:Nat):XN hp (.own k)=if UF (lkp hp k)=true then [k] else []:=rfl
@[go_sem] theorem noKeep_0 (M:Zh) (f:Nat):Xp M f 0=M f 0:=rfl
@[go_sem] theorem noKeep_1 (M:Zh) (f:Nat):Xp M f 1=M f 1:=rfl
@[go_sem] theorem noKeep_2 (M:Zh) (f:Nat):Xp M f 2=M f 2:=rfl
@[go_sem] theorem noKeep_3 (M:Zh) (f:Nat):Xp M f 3=M f 3:=rfl
@[go_sem] theorem noKeep_4 (M:Zh) (f:Nat):Xp M f 4=M f 4:=rfl
@[go_sem] theorem noKeep_5 (M:Zh) (f:Nat):Xp M f 5=M f 5:=rfl
@[go_sem] theorem noKeep_6 (M:Zh) (f:Nat):Xp M f 6=M f 6:=rfl
@[go_sem] theorem noKeep_99 (M:Zh) (f:Nat):Xp M f 99=false:=rfl
theorem gF (hp:Hp) (rs ids:List Nat):Ug hp rs ids=Zjv hp rs ids:=by
 induction ids with
 | nil=>rfl
 | cons i r ih=>simp only[Ug,K7,Zjv] at ih ⊢;rw[ih]
attribute [go_sem] Zha.eq_1 Zha.eq_2 Zjv.eq_1 Zjv.eq_2
@[go_sem] theorem okV_d (x:D):okV (.d x)=true:=rfl
@[go_sem] theorem okV_nil:okV .nil=true:=rfl
@[go_sem] theorem okV_nilp:okV .nilp=true:=rfl
@[go_sem] theorem okV_nili:okV .nili=true:=rfl
@[go_sem] theorem okV_ptr (a b:Nat):okV (.ptr a b)=true:=rfl
@[go_sem] theorem okV_prow (a b c e:Nat):okV (.prow a b c e)=true:=rfl
@[go_sem] theorem okV_pim (cs:List D):okV (.pim cs)=true:=rfl
@[go_sem] theorem okV_own (a:Nat):okV (.own a)=true:=rfl
@[go_sem] theorem okV_ownv (a b c:Nat):okV (.ownv a b c)=true:=rfl
@[go_sem] theorem okV_agg (cs:List AV):okV (.agg cs)=ZkN cs:=rfl
@[go_sem] theorem okV_tup0:okV (.tup [])=true:=rfl
@[go_sem] theorem Ztu (sl:Sl) (a:COp) (x y:Nat) (v:AV):Ya sl a (.ptr x y) v=true:=rfl
@[go_sem] theorem seenIn_d (sl:Sl) (a:COp) (x y z t:Nat) (v:D):Ya sl a (.prow x y z t) (.d v)=true:=rfl
@[go_sem] theorem Ztv (sl:Sl) (a:COp) (x y z t:Nat) (v:List AV):Ya sl a (.prow x y z t) (.agg v)=(okV (.agg v)&&Q3 sl (Zt a) (Zn (.agg v))):=rfl
@[go_sem] theorem Ztw (sl:Sl) (a:COp) (x y z t:Nat) (k:Nat):Ya sl a (.prow x y z t) (.own k)=(okV (.own k)&&Q3 sl (Zt a) (Zn (.own k))):=rfl
@[go_sem] theorem Ztx (sl:Sl) (a:COp) (x y z t:Nat):Ya sl a (.prow x y z t) .nil=(okV .nil&&Q3 sl (Zt a) (Zn .nil)):=rfl
@[go_sem] theorem ZsT (sl:Sl) (a:COp) (x y z t:Nat):Ya sl a (.prow x y z t) .nilp=(okV .nilp&&Q3 sl (Zt a) (Zn .nilp)):=rfl
@[go_sem] theorem ZsU (sl:Sl) (a:COp) (x y z t:Nat) (k m n:Nat):Ya sl a (.prow x y z t) (.ownv k m n)=(okV (.ownv k m n)&&Q3 sl (Zt a) (Zn (.ownv k m n))):=rfl
@[go_sem] theorem ZsV (sl:Sl) (a:COp) (k:Nat):seenSrc sl a (.own k)=Qu sl k (Zt a):=rfl
@[go_sem] theorem seenSrc_d (sl:Sl) (a:COp) (x:D):seenSrc sl a (.d x)=true:=rfl
@[go_sem] theorem ZsW (sl:Sl) (a:COp):seenSrc sl a .nil=true:=rfl
@[go_sem] theorem Zsa (sl:Sl) (a:COp) (x y z:Nat):seenSrc sl a (.ownv x y z)=true:=rfl
@[go_sem] theorem okV_iteV (b:Bool) (v:AV):okV (ZcG b v)=(!b || okV v):=by cases b<;>simp[ZcG,okV]
@[go_sem] theorem awayV_d (sl:Sl) (xs:List Opd) (x:D):UN sl xs (.d x)=true:=rfl
@[go_sem] theorem awayV_nil (sl:Sl) (xs:List Opd):UN sl xs .nil=true:=rfl
@[go_sem] theorem Zty (sl:Sl) (xs:List Opd):UN sl xs .nilp=true:=rfl
@[go_sem] theorem awayV_ptr (sl:Sl) (xs:List Opd) (k o:Nat):UN sl xs (.ptr k o)=Qu sl k xs:=rfl
@[go_sem] theorem awayV_pim (sl:Sl) (xs:List Opd) (cs:List D):UN sl xs (.pim cs)=true:=rfl
@[go_sem] theorem awayV_own (sl:Sl) (xs:List Opd) (a:Nat):UN sl xs (.own a)=true:=rfl
@[go_sem] theorem Ztz (sl:Sl) (xs:List Opd) (a b c:Nat):UN sl xs (.ownv a b c)=true:=rfl
@[go_sem] theorem awayV_agg (sl:Sl) (xs:List Opd) (cs:List AV):UN sl xs (.agg cs)=true:=rfl
@[go_sem] theorem awayV_tup (sl:Sl) (xs:List Opd) (cs:List AV):UN sl xs (.tup cs)=true:=rfl
end Go.Abs.E
