/- Own text. -/
import Derived.Test.YtfnegoimdljanaaGreatDoorAbsRun
set_option linter.unusedVariables false
set_option linter.unusedSimpArgs false
namespace Go.Abs.E
open Go Go.Abs
abbrev _root_.Go.Abs.Opd.i (n:Int):Opd:=.v (.d (.int .i64 n))
abbrev _root_.Go.Abs.Opd.b (x:Bool):Opd:=.v (.d (.bool x))
def stW {α:Type} (x:Option α) (K:α→Prop):Prop:=match x with
 | some a=>K a
 | none=>False
def gW (x:Option Bool) (A B:Prop):Prop:=match x with
 | some b=>(b=true→A)∧(b=false→B)
 | none=>False
def Uu (v:AV) (A B:Prop):Prop:=match v with
 | .d (.bool t)=>(t=true→A)∧(t=false→B)
 | _=>False
theorem Vr {α:Type} (a:α) (K:α→Prop):stW (some a) K=K a:=rfl
theorem Zjc {α:Type} (K:α→Prop):stW none K=False:=rfl
theorem Zdq {α β:Type} (x:Option α) (f:α→Option β) (K:β→Prop):stW (bnd x f) K=stW x fun a=>stW (f a) K:=by cases x<;>rfl
@[go_sem] theorem ZC9 (A B:Prop):gW (some true) A B=A:=by simp[gW]
@[go_sem] theorem gW_false (A B:Prop):gW (some false) A B=B:=by simp[gW]
@[go_sem] theorem gW_dec (p:Prop) [Decidable p] (A B:Prop):gW (some (decide p)) A B=((p→A)∧(¬p→B)):=by simp[gW]
@[go_sem] theorem gW_not (b:Bool) (A B:Prop):gW (some (!b)) A B=gW (some b) B A:=by cases b<;>simp[gW]
@[go_sem] theorem ZIb (A B:Prop):Uu (.d (.bool true)) A B=A:=by simp[Uu]
@[go_sem] theorem ZHG (A B:Prop):Uu (.d (.bool false)) A B=B:=by simp[Uu]
@[go_sem] theorem condW_dec (p:Prop) [Decidable p] (A B:Prop):Uu (.d (.bool (decide p))) A B=((p→A)∧(¬p→B)):=by simp[Uu]
@[go_sem] theorem condW_not (b:Bool) (A B:Prop):Uu (.d (.bool (!b))) A B=Uu (.d (.bool b)) B A:=by cases b<;>simp[Uu]
@[go_sem] theorem condW_and (a b:Bool) (A B:Prop):Uu (.d (.bool (a&&b))) A B=Uu (.d (.bool a)) (Uu (.d (.bool b)) A B) B:=by cases a<;>cases b<;>simp[Uu]
@[go_sem] theorem condW_or (a b:Bool) (A B:Prop):Uu (.d (.bool (a || b))) A B=Uu (.d (.bool a)) A (Uu (.d (.bool b)) A B):=by cases a<;>cases b<;>simp[Uu]
@[go_sem] theorem ZIc (b:Bool) (A B:Prop):Uu (.d (.bool b)) A B=((b=true→A)∧(b=false→B)):=rfl
@[congr] theorem gW_congr {x y:Option Bool} {A B:Prop} (h:x=y):gW x A B=gW y A B:=by rw[h]
@[congr] theorem ZHH {v w:AV} {A B:Prop} (h:v=w):Uu v A B=Uu w A B:=by rw[h]
section
variable (X:Fns) (M:Zs)
noncomputable def Zej (nx:Nat):Nat→List CO→Sl→Hp→(Sl→Hp→Prop)→Prop
 | _,[],sl,hp,K=>K sl hp
 | i,o :: rest,sl,hp,K=>gW (Z3 sl o.guard)
   (stW (YZ (nx+64*i) o.dst sl hp (vop (Zd X M) M sl hp (nx+64*i) o.op)) fun r=>Zej nx (i+1) rest r.1 r.2 K)
   (Zej nx (i+1) rest (Zt sl o.dst (.tup [])) hp K)
def Zcz (nx i:Nat) (d:Option Nat) (rest:List CO) (sl:Sl) (hp:Hp) (K:Sl→Hp→Prop) (e:Option Zf):Prop:=
 stW (YZ (nx+64*i) d sl hp e) fun r=>Zej X M nx (i+1) rest r.1 r.2 K
@[go_sem] theorem opsW_nil (nx i:Nat) (sl:Sl) (hp:Hp) (K:Sl→Hp→Prop):Zej X M nx i [] sl hp K=K sl hp:=rfl
@[go_sem] theorem opsW_cons (nx i:Nat) (d:Option Nat) (tl:Bool) (op:COp) (aa:List CO) (sl:Sl) (hp:Hp) (K:Sl→Hp→Prop) :
  Zej X M nx i (⟨d,none,op,tl⟩ :: aa) sl hp K=Zcz X M nx i d aa sl hp K (vop (Zd X M) M sl hp (nx+64*i) op):=by
 simp[Zej,Zcz,Z3,ZC9]
def Zky (b:Bool) (v:AV):AV:=if b then v else .tup []
def Zag (b:Bool) (nx i:Nat) (d:Option Nat) (rest:List CO) (sl:Sl) (hp:Hp) (K:Sl→Hp→Prop) (e:Option Zf):Prop:=
 gW (some b) (Zcz X M nx i d rest sl hp K e) (Zej X M nx (i+1) rest (Zt sl d (.tup [])) hp K)
def Zyk (g:Option Bool) (nx i:Nat) (d:Option Nat) (op:COp) (rest:List CO) (sl:Sl) (hp:Hp) (K:Sl→Hp→Prop):Prop:=
 gW g (Zcz X M nx i d rest sl hp K (vop (Zd X M) M sl hp (nx+64*i) op)) (Zej X M nx (i+1) rest (Zt sl d (.tup [])) hp K)
@[go_sem] theorem ZId (nx i g:Nat) (w:Bool) (d:Option Nat) (tl:Bool) (op:COp) (aa:List CO) (sl:Sl) (hp:Hp) (K:Sl→Hp→Prop) :
  Zej X M nx i (⟨d,some (g,w),op,tl⟩ :: aa) sl hp K=Zyk X M (ZhR w (gs sl g)) nx i d op aa sl hp K:=rfl
@[go_sem] theorem ZHI (b:Bool) (nx i:Nat) (d:Option Nat) (op:COp) (aa:List CO) (sl:Sl) (hp:Hp) (K:Sl→Hp→Prop) :
  Zyk X M (some b) nx i d op aa sl hp K=Zag X M b nx i d aa sl hp K (vop (Zd X M) M sl hp (nx+64*i) op):=rfl
@[go_sem] theorem gA (nx i:Nat) (d:Option Nat) (aa:List CO) (sl:Sl) (hp:Hp) (K:Sl→Hp→Prop) (e:Option Zf) :
  Zag X M true nx i d aa sl hp K e=Zcz X M nx i d aa sl hp K e:=by simp[Zag,gW]
@[go_sem] theorem gB (nx i:Nat) (d:Option Nat) (aa:List CO) (sl:Sl) (hp:Hp) (K:Sl→Hp→Prop) (e:Option Zf) :
  Zag X M false nx i d aa sl hp K e=Zej X M nx (i+1) aa (Zt sl d (.tup [])) hp K:=by simp[Zag,gW]
@[go_sem] theorem Zyl (b:Bool) (nx i:Nat) (d:Option Nat) (aa:List CO) (sl:Sl) (hp:Hp) (K:Sl→Hp→Prop) (v:AV) :
  Zag X M b nx i d aa sl hp K (QV v)=Zej X M nx (i+1) aa (Zt sl d (Zky b v)) hp K:=by
 cases b
 ·simp[Zag,gW,Zky]
 ·simp only[Zag,gW,Zky,Km,true_implies,KaD,false_implies,and_true];rfl
@[go_sem] theorem ZHJ (b:Bool) (nx i:Nat) (d:Option Nat) (aa:List CO) (sl:Sl) (hp:Hp) (K:Sl→Hp→Prop) (v:AV) :
  Zag X M b nx i d aa sl hp K (some { eff := { val:=v,adds:=[],sets:=[],dels:=[],frz:=[] },gone:=[] })=Zej X M nx (i+1) aa (Zt sl d (Zky b v)) hp K:=Zyl X M b nx i d aa sl hp K v
@[congr] theorem ZG7 {g g' : Option Bool} {nx i:Nat} {d:Option Nat} {op:COp} {aa:List CO} {sl:Sl} {hp:Hp} {K:Sl→Hp→Prop} (h:g=g') :
  Zyk X M g nx i d op aa sl hp K=Zyk X M g' nx i d op aa sl hp K:=by rw[h]
@[congr] theorem ZG8 {b b' : Bool} {nx i:Nat} {d:Option Nat} {aa:List CO} {sl:Sl} {hp:Hp} {K:Sl→Hp→Prop} {e e' : Option Zf} (hb:b=b') (h:b'=true→e=e') :
  Zag X M b nx i d aa sl hp K e=Zag X M b' nx i d aa sl hp K e':=by
 subst hb;cases b
 ·simp[Zag,gW]
 ·rw[h rfl]
@[go_sem] theorem ZHK (nx i:Nat) (d:Option Nat) (aa:List CO) (sl:Sl) (hp:Hp) (K:Sl→Hp→Prop) (v:AV) :
  Zcz X M nx i d aa sl hp K (QV v)=Zej X M nx (i+1) aa (Zt sl d v) hp K:=rfl
@[go_sem] theorem ZIe (nx i:Nat) (d:Option Nat) (aa:List CO) (sl:Sl) (hp:Hp) (K:Sl→Hp→Prop) (v:AV) :
  Zcz X M nx i d aa sl hp K (some { eff := { val:=v,adds:=[],sets:=[],dels:=[],frz:=[] },gone:=[] })=Zej X M nx (i+1) aa (Zt sl d v) hp K:=rfl
@[go_sem] theorem ZIf (nx i:Nat) (d:Option Nat) (aa:List CO) (sl:Sl) (hp:Hp) (K:Sl→Hp→Prop) (e:Zf) :
  Zcz X M nx i d aa sl hp K (some e)=(Xf (nx+64*i) (nx+64*i+64) e.eff.adds=true∧Zej X M nx (i+1) aa (Zt (XA e.gone sl) d e.eff.val) (e.eff.on (Wx e.gone hp)) K):=by
 unfold Zcz YZ;rw[Zh];split<;>rename_i h
 ·simp only[Vr,h,true_and];rfl
 ·simp only[Zjc,h,false_and,Ka]
@[go_sem] theorem ZIg (nx i:Nat) (d:Option Nat) (aa:List CO) (sl:Sl) (hp:Hp) (K:Sl→Hp→Prop):Zcz X M nx i d aa sl hp K none=False:=rfl
@[go_sem] theorem stepW_ite (nx i:Nat) (d:Option Nat) (aa:List CO) (sl:Sl) (hp:Hp) (K:Sl→Hp→Prop) (c:Prop) [Decidable c] (a b:Option Zf) :
  Zcz X M nx i d aa sl hp K (if c then a else b)=((c→Zcz X M nx i d aa sl hp K a)∧(¬c→Zcz X M nx i d aa sl hp K b)):=by
 by_cases h:c<;>simp[h]
noncomputable def Va (nx:Nat):Nat→Bool→List CO→Sl→Hp→(Sl→Hp→Prop)→Prop
 | _,_,[],sl,hp,K=>K sl hp
 | i,tail,o :: rest,sl,hp,K=>gW (Z3 sl o.guard)
   (stW (YZ (nx+64*i) o.dst sl hp (WB (Zd X M) (YF M) nx i (CO.starts o) o.op sl hp)) fun r=>Va nx (i+1) tail rest r.1 r.2 K)
   (Va nx (i+1) tail rest (Zt sl o.dst (.tup [])) hp K)
def Ux (nx i:Nat) (t:Bool) (d:Option Nat) (rest:List CO) (sl:Sl) (hp:Hp) (K:Sl→Hp→Prop) (e:Option Zf):Prop:=
 stW (YZ (nx+64*i) d sl hp (if t then e else ZeA e)) fun r=>Va X M nx (i+1) false rest r.1 r.2 K
@[go_sem] theorem opsDW_nil (nx i:Nat) (t:Bool) (sl:Sl) (hp:Hp) (K:Sl→Hp→Prop):Va X M nx i t [] sl hp K=K sl hp:=rfl
@[go_sem] theorem ZIh (nx i:Nat) (d:Option Nat) (tl:Bool) (op:COp) (aa:List CO) (sl:Sl) (hp:Hp) (K:Sl→Hp→Prop) :
  Va X M nx i false (⟨d,none,op,tl⟩ :: aa) sl hp K=Ux X M nx i (Zkh op || tl) d aa sl hp K (vop (Zd X M) (YF M) sl hp (nx+64*i) op):=by
 simp[Va,Ux,Z3,ZC9,WB,CO.starts]
def Wq (b:Bool) (nx i:Nat) (t:Bool) (d:Option Nat) (rest:List CO) (sl:Sl) (hp:Hp) (K:Sl→Hp→Prop) (e:Option Zf):Prop:=
 gW (some b) (Ux X M nx i t d rest sl hp K e) (Va X M nx (i+1) false rest (Zt sl d (.tup [])) hp K)
def ZqT (g:Option Bool) (nx i:Nat) (t:Bool) (d:Option Nat) (op:COp) (rest:List CO) (sl:Sl) (hp:Hp) (K:Sl→Hp→Prop):Prop:=
 gW g (Ux X M nx i t d rest sl hp K (vop (Zd X M) (YF M) sl hp (nx+64*i) op)) (Va X M nx (i+1) false rest (Zt sl d (.tup [])) hp K)
@[go_sem] theorem ZHL (nx i g:Nat) (w:Bool) (d:Option Nat) (tl:Bool) (op:COp) (aa:List CO) (sl:Sl) (hp:Hp) (K:Sl→Hp→Prop) :
  Va X M nx i false (⟨d,some (g,w),op,tl⟩ :: aa) sl hp K=ZqT X M (ZhR w (gs sl g)) nx i (Zkh op || tl) d op aa sl hp K:=rfl
@[go_sem] theorem ZG9 (b:Bool) (nx i:Nat) (t:Bool) (d:Option Nat) (op:COp) (aa:List CO) (sl:Sl) (hp:Hp) (K:Sl→Hp→Prop) :
  ZqT X M (some b) nx i t d op aa sl hp K=Wq X M b nx i t d aa sl hp K (vop (Zd X M) (YF M) sl hp (nx+64*i) op):=rfl
@[go_sem] theorem gC (nx i:Nat) (t:Bool) (d:Option Nat) (aa:List CO) (sl:Sl) (hp:Hp) (K:Sl→Hp→Prop) (e:Option Zf) :
  Wq X M true nx i t d aa sl hp K e=Ux X M nx i t d aa sl hp K e:=by simp[Wq,gW]
@[go_sem] theorem gD (nx i:Nat) (t:Bool) (d:Option Nat) (aa:List CO) (sl:Sl) (hp:Hp) (K:Sl→Hp→Prop) (e:Option Zf) :
  Wq X M false nx i t d aa sl hp K e=Va X M nx (i+1) false aa (Zt sl d (.tup [])) hp K:=by simp[Wq,gW]
@[go_sem] theorem Zvu (b:Bool) (nx i:Nat) (t:Bool) (d:Option Nat) (aa:List CO) (sl:Sl) (hp:Hp) (K:Sl→Hp→Prop) (v:AV) :
  Wq X M b nx i t d aa sl hp K (QV v)=Va X M nx (i+1) false aa (Zt sl d (Zky b v)) hp K:=by
 cases b
 ·simp[Wq,gW,Zky]
 ·simp only[Wq,gW,Zky,Km,true_implies,KaD,false_implies,and_true];cases t<;>rfl
@[go_sem] theorem ZHa (b:Bool) (nx i:Nat) (t:Bool) (d:Option Nat) (aa:List CO) (sl:Sl) (hp:Hp) (K:Sl→Hp→Prop) (v:AV) :
  Wq X M b nx i t d aa sl hp K (some { eff := { val:=v,adds:=[],sets:=[],dels:=[],frz:=[] },gone:=[] })=Va X M nx (i+1) false aa (Zt sl d (Zky b v)) hp K:=Zvu X M b nx i t d aa sl hp K v
@[congr] theorem ZGB {g g' : Option Bool} {nx i:Nat} {t t' : Bool} {d:Option Nat} {op:COp} {aa:List CO} {sl:Sl} {hp:Hp} {K:Sl→Hp→Prop} (h:g=g') (ht:t=t') :
  ZqT X M g nx i t d op aa sl hp K=ZqT X M g' nx i t' d op aa sl hp K:=by rw[h,ht]
@[congr] theorem ZGC {b b' : Bool} {nx i:Nat} {t:Bool} {d:Option Nat} {aa:List CO} {sl:Sl} {hp:Hp} {K:Sl→Hp→Prop} {e e' : Option Zf} (hb:b=b') (h:b'=true→e=e') :
  Wq X M b nx i t d aa sl hp K e=Wq X M b' nx i t d aa sl hp K e':=by
 subst hb;cases b
 ·simp[Wq,gW]
 ·rw[h rfl]
@[go_sem] theorem ZHb (nx i:Nat) (t:Bool) (d:Option Nat) (aa:List CO) (sl:Sl) (hp:Hp) (K:Sl→Hp→Prop) (v:AV) :
  Ux X M nx i t d aa sl hp K (QV v)=Va X M nx (i+1) false aa (Zt sl d v) hp K:=by cases t<;>rfl
@[go_sem] theorem ZHM (nx i:Nat) (t:Bool) (d:Option Nat) (aa:List CO) (sl:Sl) (hp:Hp) (K:Sl→Hp→Prop) (v:AV) :
  Ux X M nx i t d aa sl hp K (some { eff := { val:=v,adds:=[],sets:=[],dels:=[],frz:=[] },gone:=[] })=Va X M nx (i+1) false aa (Zt sl d v) hp K:=by cases t<;>rfl
@[go_sem] theorem ZHN (nx i:Nat) (t:Bool) (d:Option Nat) (aa:List CO) (sl:Sl) (hp:Hp) (K:Sl→Hp→Prop) (e:Zf) :
  Ux X M nx i t d aa sl hp K (some e)=((t=false→ZhW e e.gone e.eff.sets e.eff.dels e.eff.frz=some e)∧Xf (nx+64*i) (nx+64*i+64) e.eff.adds=true∧Va X M nx (i+1) false aa (Zt (XA e.gone sl) d e.eff.val) (e.eff.on (Wx e.gone hp)) K):=by
 have ab:stW (YZ (nx+64*i) d sl hp (some e)) (fun r=>Va X M nx (i+1) false aa r.1 r.2 K)=(Xf (nx+64*i) (nx+64*i+64) e.eff.adds=true∧Va X M nx (i+1) false aa (Zt (XA e.gone sl) d e.eff.val) (e.eff.on (Wx e.gone hp)) K):=by
  unfold YZ;rw[Zh];split<;>rename_i h
  ·simp only[Vr,h,true_and];rfl
  ·simp only[Zjc,h,false_and,Ka]
 unfold Ux;cases t with
 | true=>simp only[Km];rw[ab];simp
 | false=>
  simp only[Ka,Kn,ZeA,Zh,true_implies];unfold ZhW;split
  ·rw[ab];simp
  ·simp[YZ,bnd,stW]
@[go_sem] theorem ZHO (nx i:Nat) (t:Bool) (d:Option Nat) (aa:List CO) (sl:Sl) (hp:Hp) (K:Sl→Hp→Prop):Ux X M nx i t d aa sl hp K none=False:=by cases t<;>rfl
@[go_sem] theorem ZIi (nx i:Nat) (t:Bool) (d:Option Nat) (aa:List CO) (sl:Sl) (hp:Hp) (K:Sl→Hp→Prop) (c:Prop) [Decidable c] (a b:Option Zf) :
  Ux X M nx i t d aa sl hp K (if c then a else b)=((c→Ux X M nx i t d aa sl hp K a)∧(¬c→Ux X M nx i t d aa sl hp K b)):=by
 by_cases h:c<;>simp[h]
@[go_sem] theorem quietC_ok (c:Zf):ZhW c [] [] [] []=some c:=rfl
def W (c:ZN) (st:St) (Q:Ex→St→Prop):Prop:=stW (QD X M c st) fun r=>Q r.1 r.2
@[congr] theorem W_congr {c:ZN} {st aa : St} {Q:Ex→St→Prop} (h:st=aa):W X M c st Q=W X M c aa Q:=by rw[h]
@[congr] theorem ZIj {aa:List CO} {nx ab i i' : Nat} {sl sl' : Sl} {hp hp' : Hp} {K:Sl→Hp→Prop} (hn:nx=ab) (hi:i=i') (h:sl=sl') (h' : hp=hp') :
  Zej X M nx i aa sl hp K=Zej X M ab i' aa sl' hp' K:=by rw[h,h',hn,hi]
@[congr] theorem ZHP {aa:List CO} {nx ab i i' : Nat} {t t' : Bool} {sl sl' : Sl} {hp hp' : Hp} {K:Sl→Hp→Prop} (hn:nx=ab) (hi:i=i') (ht:t=t') (h:sl=sl') (h' : hp=hp') :
  Va X M nx i t aa sl hp K=Va X M ab i' t' aa sl' hp' K:=by rw[h,h',ht,hn,hi]
@[congr] theorem ZHQ {aa:List CO} {nx i:Nat} {d:Option Nat} {sl:Sl} {hp:Hp} {K:Sl→Hp→Prop} {e e' : Option Zf} (h:e=e') :
  Zcz X M nx i d aa sl hp K e=Zcz X M nx i d aa sl hp K e':=by rw[h]
@[congr] theorem ZHc {aa:List CO} {nx i:Nat} {t t' : Bool} {d:Option Nat} {sl:Sl} {hp:Hp} {K:Sl→Hp→Prop} {e e' : Option Zf} (ht:t=t') (h:e=e') :
  Ux X M nx i t d aa sl hp K e=Ux X M nx i t' d aa sl hp K e':=by rw[h,ht]
theorem ZDa (nx:Nat) (K:Sl→Hp→Prop):∀ (l:List CO) (i:Nat) (sl:Sl) (hp:Hp),Zej X M nx i l sl hp K=stW (ZhV (Zd X M) M nx i l sl hp) fun r=>K r.1 r.2:=by
 intro l
 induction l with
 | nil=>intro i sl hp;rfl
 | cons o rest ih=>
  intro i sl hp;simp only[Zej,ZhV,ih,Zdq];cases Z3 sl o.guard with
  | none=>rfl
  | some b=>cases b<;>simp[gW,Zdq,Vr]
theorem ZAm (nx:Nat) (K:Sl→Hp→Prop):∀ (l:List CO) (i:Nat) (t:Bool) (sl:Sl) (hp:Hp),Va X M nx i t l sl hp K=stW (Jq (Zd X M) (YF M) nx i t l sl hp) fun r=>K r.1 r.2:=by
 intro l
 induction l with
 | nil=>intro i t sl hp;rfl
 | cons o rest ih=>
  intro i t sl hp;simp only[Va,Jq,ih,Zdq];cases Z3 sl o.guard with
  | none=>rfl
  | some b=>cases b<;>simp[gW,Zdq,Vr]
def ZqG (m nx:Nat) (Q:Ex→St→Prop) (sl:Sl) (hp:Hp):Prop:=Q .normal { sl:=sl,hp:=hp,nx:=nx,m:=m }
def ZkX (ops:List CO) (ps:List (Nat×Nat)) (K:Sl→Hp→Prop) (sl:Sl) (hp:Hp):Prop:=Wy ops sl ps=true∧K sl hp
@[go_sem] theorem regQ_eq (m nx:Nat) (Q:Ex→St→Prop) (sl:Sl) (hp:Hp):ZqG m nx Q sl hp=Q .normal { sl:=sl,hp:=hp,nx:=nx,m:=m }:=rfl
@[go_sem] theorem seenQ_eq (ops:List CO) (ps:List (Nat×Nat)) (K:Sl→Hp→Prop) (sl:Sl) (hp:Hp):ZkX ops ps K sl hp=(Wy ops sl ps=true∧K sl hp):=rfl
@[go_sem] theorem W_skip (st:St) (Q:Ex→St→Prop):W X M .skip st Q=Q .normal st:=by simp[W,ZCb,Vr]
@[go_sem] theorem W_ret (st:St) (Q:Ex→St→Prop):W X M .ret st Q=Q .ret st:=by simp[W,ZED,Vr]
@[go_sem] theorem W_exit (id:Nat) (st:St) (Q:Ex→St→Prop):W X M (.exit id) st Q=Q (.exit id) st:=by simp[W,ZCc,Vr]
@[go_sem] theorem W_stuck (st:St) (Q:Ex→St→Prop):W X M .stuck st Q=False:=by
 have h:QD X M .stuck st=none:=Yg fun n=>by simp only[ZH]
 simp only[W,h,Zjc]
@[go_sem] theorem W_region (n:Nat) (ops:List CO) (st:St) (Q:Ex→St→Prop) :
  W X M (.region n none ops) st Q=Zej X M st.nx 0 ops st.sl st.hp (ZqG st.m (st.nx+64*n) Q):=by
 rw[ZDa,W,Znb,ZkA,Zdq];rfl
theorem ZFT (n:Nat) (ps:List (Nat×Nat)) (ops:List CO) (st:St) (Q:Ex→St→Prop) :
  W X M (.region n (some ps) ops) st Q=Va X M st.nx 0 false ops st.sl st.hp (ZkX ops ps (ZqG st.m (st.nx+64*n) Q)):=by
 rw[ZAm,W,ZtQ,ZkA,Zdq,Zm7,Zdq];congr 1
 funext r
 by_cases h:Wy ops r.1 ps=true<;>simp[h,ZkX,Vr,Zjc,ZqG]
@[go_sem] theorem W_draw0 (n:Nat) (ops:List CO) (st:St) (Q:Ex→St→Prop) :
  W X M (.region n (some []) ops) st Q=Va X M st.nx 0 false ops st.sl st.hp (ZqG st.m (st.nx+64*n) Q):=by
 rw[ZFT];congr 1
 funext sl hp
 simp[ZkX,Wy]
@[go_sem] theorem W_drawc (n:Nat) (p:Nat×Nat) (ps:List (Nat×Nat)) (ops:List CO) (st:St) (Q:Ex→St→Prop) :
  W X M (.region n (some (p :: ps)) ops) st Q=Va X M st.nx 0 false ops st.sl st.hp (ZkX ops (p :: ps) (ZqG st.m (st.nx+64*n) Q)):=ZFT X M n _ ops st Q
def ZDb (c:ZN) (Q:Ex→St→Prop):Ex→St→Prop
 | .normal,st=>W X M c st Q
 | e,st=>Q e st
def blkQ (id:Nat) (Q:Ex→St→Prop):Ex→St→Prop
 | .exit j,st=>if j=id then Q .normal st else Q (.exit j) st
 | e,st=>Q e st
@[go_sem] theorem ZHd (c:ZN) (Q:Ex→St→Prop) (st:St):ZDb X M c Q .normal st=W X M c st Q:=rfl
@[go_sem] theorem thenQ_ret (c:ZN) (Q:Ex→St→Prop) (st:St):ZDb X M c Q .ret st=Q .ret st:=rfl
@[go_sem] theorem ZIk (c:ZN) (Q:Ex→St→Prop) (id:Nat) (st:St):ZDb X M c Q (.exit id) st=Q (.exit id) st:=rfl
@[go_sem] theorem ZHR (id:Nat) (Q:Ex→St→Prop) (st:St):blkQ id Q .normal st=Q .normal st:=rfl
@[go_sem] theorem blkQ_ret (id:Nat) (Q:Ex→St→Prop) (st:St):blkQ id Q .ret st=Q .ret st:=rfl
@[go_sem] theorem blkQ_exit (id j:Nat) (Q:Ex→St→Prop) (st:St):blkQ id Q (.exit j) st=if j=id then Q .normal st else Q (.exit j) st:=rfl
@[go_sem] theorem W_seq (a b:ZN) (st:St) (Q:Ex→St→Prop):W X M (.seq a b) st Q=W X M a st (ZDb X M b Q):=by
 unfold W;rw[ZEE];cases h:QD X M a st with
 | none=>rfl
 | some r=>obtain⟨e,aa⟩:=r;cases e<;>rfl
@[go_sem] theorem W_cond (c:Opd) (a b:ZN) (st:St) (Q:Ex→St→Prop) :
  W X M (.cond c a b) st Q=Uu (evO st.sl c) (W X M a st Q) (W X M b st Q):=by
 unfold W;rw[ZCd];cases h:evO st.sl c with
 | d x=>cases x with
  | bool t=>cases t<;>simp[Zk2,Uu]
  | _=>rfl
 | _=>rfl
@[go_sem] theorem W_block (id:Nat) (c:ZN) (st:St) (Q:Ex→St→Prop):W X M (.block id c) st Q=W X M c st (blkQ id Q):=by
 unfold W;rw[ZAH];cases h:QD X M c st with
 | none=>rfl
 | some r=>
  obtain⟨e,aa⟩:=r;cases e with
  | exit j=>by_cases hj:j=id<;>simp[Zjt,hj,Vr,blkQ]
  | normal=>rfl
  | ret=>rfl
def keepQ (K:List Nat) (Q:Ex→St→Prop) (e:Ex) (st:St):Prop:=Q e { sl:=only K st.sl,hp:=st.hp,nx:=st.nx,m:=st.m }
@[go_sem] theorem keepQ_eq (K:List Nat) (Q:Ex→St→Prop) (e:Ex) (st:St):keepQ K Q e st=Q e { sl:=only K st.sl,hp:=st.hp,nx:=st.nx,m:=st.m }:=rfl
@[go_sem] theorem W_keep (K:List Nat) (c:ZN) (st:St) (Q:Ex→St→Prop):W X M (.keep K c) st Q=W X M c st (keepQ K Q):=by
 unfold W;rw[ZCe];cases h:QD X M c st with
 | none=>rfl
 | some r=>rfl
def shutQ (id nm:Nat) (Q:Ex→St→Prop) (e:Ex) (st:St):Prop:=Q e { sl:=st.sl,hp:=ZEB st.hp (Zpv st.hp id nm (lkp st.hp id)),nx:=st.nx,m:=st.m }
@[go_sem] theorem shutQ_eq (id nm:Nat) (Q:Ex→St→Prop) (e:Ex) (st:St):shutQ id nm Q e st=Q e { sl:=st.sl,hp:=ZEB st.hp (Zpv st.hp id nm (lkp st.hp id)),nx:=st.nx,m:=st.m }:=rfl
def Ztj (c:ZN) (Q:Ex→St→Prop) (r:Option St):Prop:=stW r fun st=>W X M c st Q
@[go_sem] theorem ZIl (c:ZN) (Q:Ex→St→Prop) (st:St):Ztj X M c Q (some st)=W X M c st Q:=rfl
@[go_sem] theorem ZIm (c:ZN) (Q:Ex→St→Prop):Ztj X M c Q none=False:=rfl
@[go_sem] theorem linkW_ite (c:ZN) (Q:Ex→St→Prop) (p:Prop) [Decidable p] (a b:Option St):Ztj X M c Q (if p then a else b)=((p→Ztj X M c Q a)∧(¬p→Ztj X M c Q b)):=by
 by_cases h:p<;>simp[h]
@[go_sem] theorem W_link (fl:Bool) (id:Nat) (i:Opd) (j:Nat) (c:ZN) (st:St) (Q:Ex→St→Prop):W X M (.link fl id i j c) st Q=Ztj X M c (shutQ id st.nx Q) (ZhX fl id i j st):=by
 unfold W Ztj;rw[ZCf];cases h:ZhX fl id i j st with
 | none=>rfl
 | some st1=>
  simp only[Zh,Vr,W];cases h1:QD X M c st1 with
  | none=>rfl
  | some q=>rfl
@[go_sem] theorem W_melt (c:ZN) (st:St) (Q:Ex→St→Prop):W X M (.melt c) st Q=W X M c { sl:=st.sl,hp:=Zos Zm1 st.hp,nx:=st.nx,m:=st.m } Q:=by
 unfold W;rw[ZCg];rfl
def Ztk (st:St) (ds:List Nat) (Q:Ex→St→Prop) (e:Ex) (st2:St):Prop:=Q e { sl:=ZeB st2.sl ds st.sl,hp:=st.hp,nx:=st2.nx,m:=st2.m }
@[go_sem] theorem peekQ_eq (sl:Sl) (hp:Hp) (nx m:Nat) (ds:List Nat) (Q:Ex→St→Prop) (e:Ex) (aa:Sl) (ad:Hp) (ab m2:Nat):Ztk { sl:=sl,hp:=hp,nx:=nx,m:=m } ds Q e { sl:=aa,hp:=ad,nx:=ab,m:=m2 }=Q e { sl:=ZeB aa ds sl,hp:=hp,nx:=ab,m:=m2 }:=rfl
def Zpn (n:Nat) (os:List CO) (id:Nat) (st:St) (Q:Ex→St→Prop):Option (List (Nat×Nat))→Option Zm→Prop
 | none,some o=>Zej X M st.nx 0 os st.sl [(id,o)] (ZqG st.m (st.nx+64*n) (Ztk st (Zau os) Q))
 | some ps,some o=>Va X M st.nx 0 false os st.sl [(id,o)] (ZkX os ps (ZqG st.m (st.nx+64*n) (Ztk st (Zau os) Q)))
 | _,none=>False
@[go_sem] theorem ZIn (n:Nat) (os:List CO) (id:Nat) (sl:Sl) (hp:Hp) (nx m:Nat) (Q:Ex→St→Prop) (o:Zm):Zpn X M n os id { sl:=sl,hp:=hp,nx:=nx,m:=m } Q none (some o)=Zej X M nx 0 os sl [(id,o)] (ZqG m (nx+64*n) (Ztk { sl:=sl,hp:=hp,nx:=nx,m:=m } (Zau os) Q)):=rfl
@[go_sem] theorem peekW_nil (n:Nat) (os:List CO) (id:Nat) (sl:Sl) (hp:Hp) (nx m:Nat) (Q:Ex→St→Prop) (o:Zm):Zpn X M n os id { sl:=sl,hp:=hp,nx:=nx,m:=m } Q (some []) (some o)=Va X M nx 0 false os sl [(id,o)] (ZqG m (nx+64*n) (Ztk { sl:=sl,hp:=hp,nx:=nx,m:=m } (Zau os) Q)):=by
 simp only[Zpn];congr 1
 funext sl hp
 simp[ZkX,Wy]
@[go_sem] theorem ZIo (n:Nat) (os:List CO) (id:Nat) (sl:Sl) (hp:Hp) (nx m:Nat) (Q:Ex→St→Prop) (o:Zm) (p:Nat×Nat) (ps:List (Nat×Nat)):Zpn X M n os id { sl:=sl,hp:=hp,nx:=nx,m:=m } Q (some (p :: ps)) (some o)=Va X M nx 0 false os sl [(id,o)] (ZkX os (p :: ps) (ZqG m (nx+64*n) (Ztk { sl:=sl,hp:=hp,nx:=nx,m:=m } (Zau os) Q))):=rfl
@[go_sem] theorem ZIp (n:Nat) (os:List CO) (id:Nat) (st:St) (Q:Ex→St→Prop) (d:Option (List (Nat×Nat))):Zpn X M n os id st Q d none=False:=by cases d<;>rfl
@[go_sem] theorem W_peek (id n:Nat) (d:Option (List (Nat×Nat))) (os:List CO) (st:St) (Q:Ex→St→Prop):W X M (.peek id (.region n d os)) st Q=Zpn X M n os id st Q d (ZtM (lkp st.hp id)):=by
 unfold W;rw[ZCh];simp only[ZAE,Zh];unfold Zoy;cases h:ZtM (lkp st.hp id) with
 | none=>cases d<;>rfl
 | some o=>
  cases d with
  | none=>
   simp only[Zh,Zpn];rw[ZDa,Znb,ZkA];cases ZhV (Zd X M) M st.nx 0 os st.sl [(id,o)] with
   | none=>rfl
   | some r=>rfl
  | some ps=>
   simp only[Zh,Zpn];rw[ZAm,ZtQ,ZkA];cases Jq (Zd X M) (YF M) st.nx 0 false os st.sl [(id,o)] with
   | none=>rfl
   | some r=>
    simp only[Zm7,Zh];by_cases h:Wy os r.1 ps=true
    ·simp[h,ZkX,Vr,Zh,ZtN,ZqG,Ztk]
    ·simp[h,ZkX,Vr,Zjc,ZtN,bnd]
attribute [go_sem] ZtM.eq_1 ZtM.eq_2 ZhY.eq_1 ZhY.eq_2 ZhY.eq_3 ZqJ.eq_1 ZqJ.eq_2 Zau.eq_1 Zau.eq_2 ZeB.eq_1 ZeB.eq_2
def LW (c:ZN) (K:List Nat) (st:St) (Q:Ex→St→Prop):Prop:=stW (Zjv X M c K st) fun r=>Q r.1 r.2
@[congr] theorem LW_congr {c:ZN} {K K' : List Nat} {st aa : St} {Q:Ex→St→Prop} (hk:K=K') (h:st=aa):LW X M c K st Q=LW X M c K' aa Q:=by rw[h,hk]
@[go_sem] theorem W_loop (c:ZN) (st:St) (Q:Ex→St→Prop):W X M (.loop c) st Q=LW X M c (Zct st.sl) st Q:=by
 unfold W LW;rw[ZCi]
def Ztl (c:ZN) (K:List Nat) (Q:Ex→St→Prop):Ex→St→Prop
 | .normal,st=>LW X M c K st Q
 | e,st=>Q e st
@[go_sem] theorem ZHe (c:ZN) (K:List Nat) (Q:Ex→St→Prop) (st:St):Ztl X M c K Q .normal st=LW X M c K st Q:=rfl
@[go_sem] theorem nextQ_ret (c:ZN) (K:List Nat) (Q:Ex→St→Prop) (st:St):Ztl X M c K Q .ret st=Q .ret st:=rfl
@[go_sem] theorem ZIq (c:ZN) (K:List Nat) (Q:Ex→St→Prop) (id:Nat) (st:St):Ztl X M c K Q (.exit id) st=Q (.exit id) st:=rfl
theorem ZE {c:ZN} {K:List Nat} {st:St} {Q:Ex→St→Prop} (h:W X M c (Jr K st) (Ztl X M c K Q)):LW X M c K st Q:=by
 unfold W at h;cases hv:QD X M c (Jr K st) with
 | none=>rw[hv] at h;exact h.elim
 | some r=>
  rw[hv] at h;obtain⟨e,aa⟩:=r;unfold LW;cases e with
  | normal=>rw[ZAI X M hv];exact h
  | exit id=>rw[ZtR X M (by simp) hv];exact h
  | ret=>rw[ZtR X M (by simp) hv];exact h
def Zvv (sl:Sl):Sl→Sl
 | []=>sl
 | (k,v) :: r=>Zvv (ins sl k v) r
def ZkY (hp:Hp):Hp→Hp
 | []=>hp
 | (k,o) :: r=>ZkY (ins hp k o) r
theorem LW_ind {α:Type} (S:α→St) (I:α→Prop) (μ:α→Nat) {c:ZN} {K:List Nat} {Q:Ex→St→Prop}
  (step:∀ a,I a→(∀ b st,I b→μ b<μ a→Jr K st=S b→LW X M c K st Q)→W X M c (S a) (Ztl X M c K Q)) :
  ∀ a st,I a→Jr K st=S a→LW X M c K st Q:=by
 have aa:∀ n a st,μ a=n→I a→Jr K st=S a→LW X M c K st Q:=by
  intro n
  induction n using Nat.strongRecOn with
  | ind n ih=>
   intro a st hn ha hs;refine ZE X M ?_;rw[hs];exact step a ha fun b ab hb ae ad=>ih (μ b) (by omega) b ab rfl hb ad
 exact fun a st ha hs=>aa _ a st rfl ha hs
theorem XR {α:Type} (u:α→Sl) (uh:α→Hp) (I:α→Prop) (μ:α→Nat) (a:α) {c:ZN} {K:List Nat} {Q:Ex→St→Prop} {st st0:St}
  (hc:Jr K st=st0) (ha:I a) (h0:(⟨Zvv st0.sl (u a),ZkY st0.hp (uh a),st0.nx,st0.m⟩:St)=st0)
  (step:∀ a,I a→(∀ b st,I b→μ b<μ a→Jr K st=⟨Zvv st0.sl (u b),ZkY st0.hp (uh b),st0.nx,st0.m⟩→LW X M c K st Q)→W X M c ⟨Zvv st0.sl (u a),ZkY st0.hp (uh a),st0.nx,st0.m⟩ (Ztl X M c K Q)) :
  LW X M c K st Q:=
 LW_ind X M (fun a=>⟨Zvv st0.sl (u a),ZkY st0.hp (uh a),st0.nx,st0.m⟩) I μ step a st ha (hc.trans h0.symm)
def Zym (m:Nat) (rs:List ZtD) (R:AV×List Zm→Prop):Ex→St→Prop:=fun e st=>stW (Zf7 m rs (some (e,st))) R
def resW (m:Nat) (hp:Hp) (R:AV×List Zm→Prop) (vs:Option (List AV)):Prop:=stW vs fun vs=>R (W6 m hp (ZeC vs))
@[go_sem] theorem resW_some (m:Nat) (hp:Hp) (R:AV×List Zm→Prop) (vs:List AV):resW m hp R (some vs)=R (W6 m hp (ZeC vs)):=rfl
@[go_sem] theorem resW_none (m:Nat) (hp:Hp) (R:AV×List Zm→Prop):resW m hp R none=False:=rfl
@[go_sem] theorem endQ_ret (m:Nat) (rs:List ZtD) (R:AV×List Zm→Prop) (st:St):Zym m rs R .ret st=resW m st.hp R (QJ (ZtO st) rs):=by
 simp only[Zym,Zf7,Zdq];rfl
@[go_sem] theorem ZHS (m:Nat) (rs:List ZtD) (R:AV×List Zm→Prop) (st:St):Zym m rs R .normal st=resW m st.hp R (QJ (ZtO st) rs):=by
 simp only[Zym,Zf7,Zdq];rfl
theorem ZFU {f:Nat} {as1:List AV} {h:List Zm} (fn:Zr) {R:AV×List Zm→Prop} (hx:X f=some (.text fn)) (hl:as1.length≤fn.nt)
  (hr:W X M fn.body { sl:=Wz 0 as1,hp:=WC 0 h,nx:=h.length,m:=h.length } (Zym h.length fn.res R)):∃ r,Zd X M f as1 h=some r∧R r:=by
 unfold W at hr;cases hv:QD X M fn.body { sl:=Wz 0 as1,hp:=WC 0 h,nx:=h.length,m:=h.length } with
 | none=>rw[hv] at hr;exact hr.elim
 | some q=>
  rw[hv] at hr;obtain⟨e,st⟩:=q;simp only[Vr,Zym] at hr;cases hk:Zf7 h.length fn.res (some (e,st)) with
  | none=>rw[hk] at hr;exact hr.elim
  | some r=>rw[hk] at hr;exact⟨r,ZF6 X M hx hl (by rw[hv];exact hk),hr⟩
theorem callE {f:Nat} {as1:List AV} {h:List Zm} (fn:Zr) {r:AV×List Zm} (hx:X f=some (.text fn)) (hl:as1.length≤fn.nt)
  (hr:W X M fn.body { sl:=Wz 0 as1,hp:=WC 0 h,nx:=h.length,m:=h.length } (Zym h.length fn.res fun q=>q=r)):Zd X M f as1 h=some r:=by
 obtain⟨q,hq,rfl⟩:=ZFU X M fn hx hl hr;exact hq
end
@[go_sem] theorem vopE_move (C:Orc) (M:Zs) (sl:Sl) (hp:Hp) (base:Nat) (x:Opd):vop C M sl hp base (.move x)=QV (evO sl x):=by simp only[vop]
@[go_sem] theorem ZHT (C:Orc) (M:Zs) (sl:Sl) (hp:Hp) (base:Nat) (s:Option Nat) (x:Opd):vop C M sl hp base (.assign s x)=ZhO base s (evO sl x):=by simp only[vop]
@[go_sem] theorem vopE_pick (C:Orc) (M:Zs) (sl:Sl) (hp:Hp) (base:Nat) (c a b:Opd):vop C M sl hp base (.pick c a b)=Zjn (evO sl a) (evO sl b) (evO sl c):=by simp only[vop]
@[go_sem] theorem ZIr (C:Orc) (M:Zs) (sl:Sl) (hp:Hp) (base:Nat) (slc:List (Option Nat)) (cs:List AV):vop C M sl hp base (.alloc slc cs)=Zjo slc base cs:=by simp only[vop]
@[go_sem] theorem vopE_box (C:Orc) (M:Zs) (sl:Sl) (hp:Hp) (base:Nat) (x:Opd):vop C M sl hp base (.box x)=ZEx base (evO sl x):=by simp only[vop]
@[go_sem] theorem ZIs (C:Orc) (M:Zs) (sl:Sl) (hp:Hp) (base:Nat) (zs:List AV) (ps:List (Nat×Nat×Opd)):vop C M sl hp base (.build zs ps)=Zty zs (evP sl ps):=by simp only[vop]
@[go_sem] theorem ZHf (C:Orc) (M:Zs) (sl:Sl) (hp:Hp) (base:Nat) (s:Nat) (xs:List Opd):vop C M sl hp base (.buildSl s xs)=buildSl hp base s (evL sl xs):=by simp only[vop]
@[go_sem] theorem vopE_load (C:Orc) (M:Zs) (sl:Sl) (hp:Hp) (base:Nat) (g:Bool) (s:Nat) (a:Opd):vop C M sl hp base (.load g s a)=WA (UO hp g s (evO sl a)):=by simp only[vop]
@[go_sem] theorem ZIt (C:Orc) (M:Zs) (sl:Sl) (hp:Hp) (base:Nat) (slc:List (Option Nat)) (s:Nat) (a x:Opd):vop C M sl hp base (.store slc s a x)=Zin (Zcr hp slc s base (evO sl x).cells (evO sl a)):=by simp only[vop]
@[go_sem] theorem ZGD (C:Orc) (M:Zs) (sl:Sl) (hp:Hp) (base:Nat) (x:Opd):vop C M sl hp base (.nilCheck x)=ZaY (evO sl x):=by simp only[vop]
@[go_sem] theorem vopE_bin (C:Orc) (M:Zs) (sl:Sl) (hp:Hp) (base:Nat) (op:BinOp) (eq:Bool) (x y:Opd):vop C M sl hp base (.bin op eq x y)=ZqH op eq (evO sl x) (evO sl y):=by simp only[vop]
@[go_sem] theorem vopE_un (C:Orc) (M:Zs) (sl:Sl) (hp:Hp) (base:Nat) (op:UnOp) (x:Opd):vop C M sl hp base (.un op x)=WA (vun op (evO sl x)):=by simp only[vop]
@[go_sem] theorem vopE_eqA (C:Orc) (M:Zs) (sl:Sl) (hp:Hp) (base:Nat) (neg:Bool) (ks:List Nat) (x y:Opd):vop C M sl hp base (.eqA neg ks x y)=Zyq neg ks (evO sl x) (evO sl y):=by simp only[vop]
@[go_sem] theorem ZIu (C:Orc) (M:Zs) (sl:Sl) (hp:Hp) (base:Nat) (k:IntKind) (x:Opd):vop C M sl hp base (.convI k x)=convI k (evO sl x):=by simp only[vop]
@[go_sem] theorem ZIv (C:Orc) (M:Zs) (sl:Sl) (hp:Hp) (base:Nat) (x:Opd):vop C M sl hp base (.convS x)=convS (evO sl x):=by simp only[vop]
@[go_sem] theorem vopE_fn (C:Orc) (M:Zs) (sl:Sl) (hp:Hp) (base:Nat) (f:Nat) (cs:List Opd):vop C M sl hp base (.fn f cs)=WA (cloV f (evL sl cs)):=by simp only[vop]
@[go_sem] theorem vopE_make (C:Orc) (M:Zs) (sl:Sl) (hp:Hp) (base:Nat) (s b:Nat) (z:D) (l c:Opd):vop C M sl hp base (.make s b z l c)=bnd (idx (evO sl l)) fun l=>bnd (idx (evO sl c)) fun c=>ZwJ base s b z l c:=by simp only[vop]
@[go_sem] theorem ZIw (C:Orc) (M:Zs) (sl:Sl) (hp:Hp) (base:Nat) (s:Nat) (x:Opd) (lo hi:Option Opd):vop C M sl hp base (.slice s x lo hi)=WA (Wj hp s (evM sl lo) (evM sl hi) (evO sl x)):=by simp only[vop]
@[go_sem] theorem ZHU (C:Orc) (M:Zs) (sl:Sl) (hp:Hp) (base:Nat) (x:Opd) (lo hi:Option Opd):vop C M sl hp base (.sliceS x lo hi)=WA (sliceS (evM sl lo) (evM sl hi) (evO sl x)):=by simp only[vop]
@[go_sem] theorem ZHV (C:Orc) (M:Zs) (sl:Sl) (hp:Hp) (base:Nat) (x hi mx:Opd):vop C M sl hp base (.slice0 x hi mx)=WA (slice0 hp (evO sl x) (idx (evO sl hi)) (idx (evO sl mx))):=by simp only[vop]
@[go_sem] theorem ZIx (C:Orc) (M:Zs) (sl:Sl) (hp:Hp) (base:Nat) (off:Nat) (x:Opd):vop C M sl hp base (.shift off x)=W4 off (evO sl x):=by simp only[vop]
@[go_sem] theorem vopE_part (C:Orc) (M:Zs) (sl:Sl) (hp:Hp) (base:Nat) (g:Bool) (s off:Nat) (x:Opd):vop C M sl hp base (.part g s off x)=WA (Zm0 g s off (evO sl x)):=by simp only[vop]
@[go_sem] theorem vopE_iaS (C:Orc) (M:Zs) (sl:Sl) (hp:Hp) (base:Nat) (s:Nat) (x i:Opd):vop C M sl hp base (.iaS s x i)=bnd (idx (evO sl i)) fun n=>Zk1 hp s (evO sl x) n:=by simp only[vop]
@[go_sem] theorem vopE_iaA (C:Orc) (M:Zs) (sl:Sl) (hp:Hp) (base:Nat) (len s:Nat) (x i:Opd):vop C M sl hp base (.iaA len s x i)=bnd (idx (evO sl i)) fun n=>ZtA (evO sl x) n len s:=by simp only[vop]
@[go_sem] theorem vopE_ixS (C:Orc) (M:Zs) (sl:Sl) (hp:Hp) (base:Nat) (x i:Opd):vop C M sl hp base (.ixS x i)=bnd (idx (evO sl i)) fun n=>ZB3 n (evO sl x):=by simp only[vop]
@[go_sem] theorem vopE_ixA (C:Orc) (M:Zs) (sl:Sl) (hp:Hp) (base:Nat) (g:Bool) (s len:Nat) (x i:Opd):vop C M sl hp base (.ixA g s len x i)=bnd (idx (evO sl i)) fun n=>ZEz g s len n (evO sl x):=by simp only[vop]
@[go_sem] theorem vopE_nth (C:Orc) (M:Zs) (sl:Sl) (hp:Hp) (base:Nat) (i:Nat) (x:Opd):vop C M sl hp base (.nth i x)=ZAz i (evO sl x):=by simp only[vop]
@[go_sem] theorem vopE_len (C:Orc) (M:Zs) (sl:Sl) (hp:Hp) (base:Nat) (x:Opd):vop C M sl hp base (.len x)=bnd (Zf0 hp (evO sl x)) fun n=>QV (.d (.int .i64 n)):=by simp only[vop]
@[go_sem] theorem vopE_lenS (C:Orc) (M:Zs) (sl:Sl) (hp:Hp) (base:Nat) (x:Opd):vop C M sl hp base (.lenS x)=bnd (ZEv (evO sl x)) fun n=>QV (.d (.int .i64 n)):=by simp only[vop]
@[go_sem] theorem ZHW (C:Orc) (M:Zs) (sl:Sl) (hp:Hp) (base:Nat) (s b:Nat) (str flat:Bool) (x y:Opd):vop C M sl hp base (.append s b str flat x y)=ZAA hp s b str flat base (evO sl x) (evO sl y):=by simp only[vop]
@[go_sem] theorem vopE_min (C:Orc) (M:Zs) (sl:Sl) (hp:Hp) (base:Nat) (x y:Opd):vop C M sl hp base (.min x y)=Zpr (evO sl x) (evO sl y):=by simp only[vop]
@[go_sem] theorem vopE_max (C:Orc) (M:Zs) (sl:Sl) (hp:Hp) (base:Nat) (x y:Opd):vop C M sl hp base (.max x y)=Zps (evO sl x) (evO sl y):=by simp only[vop]
@[go_sem] theorem vopE_call (C:Orc) (M:Zs) (sl:Sl) (hp:Hp) (base:Nat) (f:Opd) (as1:List Opd):vop C M sl hp base (.call f as1)=Zf4 C M hp base (evL sl as1) (evO sl f):=by simp only[vop]
@[go_sem] theorem ZHX (C:Orc) (M:Zs) (sl:Sl) (hp:Hp) (base:Nat) (s:Nat) (x lo hi mx:Opd):vop C M sl hp base (.slice3 s x lo hi mx)=WA (slice3 hp (evO sl x) (idx (evO sl lo)) (idx (evO sl hi)) (idx (evO sl mx))):=by simp only[vop]
@[go_sem] theorem ZIy (C:Orc) (M:Zs) (sl:Sl) (hp:Hp) (base:Nat) (s:Nat) (z:D) (x:Opd):vop C M sl hp base (.clear s z x)=Zin (ZhK hp s z (evO sl x)):=by simp only[vop]
@[go_sem] theorem ZHY (C:Orc) (M:Zs) (sl:Sl) (hp:Hp) (base:Nat) (s n:Nat) (xs:List Opd):vop C M sl hp base (.buildT s n xs)=buildT hp base s n (evL sl xs):=by simp only[vop]
@[go_sem] theorem vopE_appT (C:Orc) (M:Zs) (sl:Sl) (hp:Hp) (base:Nat) (s b:Nat) (f:Bool) (x y:Opd):vop C M sl hp base (.appT s b f x y)=appT hp s b base (evO sl x) (evO sl y):=by simp only[vop]
@[go_sem] theorem vopE_asgT (C:Orc) (M:Zs) (sl:Sl) (hp:Hp) (base:Nat) (s n:Nat) (x:Opd):vop C M sl hp base (.asgT s n x)=asgT base s n (evO sl x):=by simp only[vop]
@[go_sem] theorem ZIz (C:Orc) (M:Zs) (sl:Sl) (hp:Hp) (base:Nat) (s b n:Nat) (z:D) (l c:Opd):vop C M sl hp base (.makeT s b n z l c)=bnd (idx (evO sl l)) fun l=>bnd (idx (evO sl c)) fun c=>makeT base s b n z l c:=by simp only[vop]
@[go_sem] theorem ZIA (C:Orc) (M:Zs) (sl:Sl) (hp:Hp) (base:Nat):vop C M sl hp base .stuck=none:=by simp only[vop]
@[go_sem] theorem ZEo (hp:Hp) (n:Nat) (aa:List Nat):Xm hp n [] aa=aa:=by cases n<;>rfl
@[go_sem] theorem tidy_d (hp:Hp) (ids:List Nat) (x:D):ZgG hp ids (.d x)=.d x:=rfl
@[go_sem] theorem tidy_nil (hp:Hp) (ids:List Nat):ZgG hp ids .nil=.nil:=rfl
@[go_sem] theorem tidy_junk (hp:Hp) (ids:List Nat):ZgG hp ids .junk=.junk:=rfl
@[go_sem] theorem tidy_tup (hp:Hp) (ids:List Nat) (vs:List AV):ZgG hp ids (.tup vs)=ren (Wu ids) (kill (Zjr hp ids (Zz (.tup vs))) (.tup vs)):=rfl
@[go_sem] theorem tidy_agg (hp:Hp) (ids:List Nat) (vs:List AV):ZgG hp ids (.agg vs)=ren (Wu ids) (kill (Zjr hp ids (Zz (.agg vs))) (.agg vs)):=rfl
@[go_sem] theorem tidy_clo (hp:Hp) (ids:List Nat) (f:Nat) (vs:List AV):ZgG hp ids (.clo f vs)=ren (Wu ids) (kill (Zjr hp ids (Zz (.clo f vs))) (.clo f vs)):=rfl
@[go_sem] theorem tidy_nilp (hp:Hp) (ids:List Nat):ZgG hp ids .nilp=.nilp:=rfl
@[go_sem] theorem tidy_nili (hp:Hp) (ids:List Nat):ZgG hp ids .nili=.nili:=rfl
@[go_sem] theorem tidy_pim (hp:Hp) (ids:List Nat) (cs:List D):ZgG hp ids (.pim cs)=.pim cs:=rfl
@[go_sem] theorem tidy_ptr (hp:Hp) (ids:List Nat) (id o:Nat):ZgG hp ids (.ptr id o)=if Zf6 hp ids id=true then .ptr (Wu ids id) o else .junk:=by
 simp only[ZgG,Zz,ZC,Zo,Zjr];split<;>simp[kill,ZV,Qh,ren,ZgE,ZhJ]
@[go_sem] theorem tidy_prow (hp:Hp) (ids:List Nat) (id s i o:Nat):ZgG hp ids (.prow id s i o)=if Zf6 hp ids id=true then .prow (Wu ids id) s i o else .junk:=by
 simp only[ZgG,Zz,ZC,Zo,Zjr];split<;>simp[kill,ZV,Qh,ren,ZgE,ZhJ]
@[go_sem] theorem tidy_own (hp:Hp) (ids:List Nat) (id:Nat):ZgG hp ids (.own id)=if Zf6 hp ids id=true then .own (Wu ids id) else .junk:=by
 simp only[ZgG,Zz,ZC,Zo,Zjr];split<;>simp[kill,ZV,Qh,ren,ZgE,ZhJ]
@[go_sem] theorem tidy_ownv (hp:Hp) (ids:List Nat) (id a b:Nat):ZgG hp ids (.ownv id a b)=if Zf6 hp ids id=true then .ownv (Wu ids id) a b else .junk:=by
 simp only[ZgG,Zz,ZC,Zo,Zjr];split<;>simp[kill,ZV,Qh,ren,ZgE,ZhJ]
@[go_sem] theorem ZIB (hp:Hp) (x:D):W6 0 hp (.d x)=(.d x,[]):=by
 simp[W6,Zz,ZC,Zo,Up,ZEo,tidy_d,Zf1]
@[go_sem] theorem minI_eq (a b:Int):minI a b=min a b:=by unfold minI;split<;>omega
@[go_sem] theorem maxI_eq (a b:Int):maxI a b=max a b:=by unfold maxI;split<;>omega
@[go_sem] theorem negIf_f (r:Bool):Ztz false r=r:=rfl
@[go_sem] theorem negIf_t (r:Bool):Ztz true r=!r:=rfl
@[go_sem] theorem opt1_some (v:AV):WA (some v)=QV v:=rfl
@[go_sem] theorem opt1_none:WA none=none:=rfl
@[go_sem] theorem vbin_int (op:BinOp) (k k' : IntKind) (a b:Int):vbin op (.d (.int k a)) (.d (.int k' b))=ZaW op k k' a b:=rfl
@[go_sem] theorem binV_int (op:BinOp) (eq:Bool) (k k' : IntKind) (a b:Int):ZqH op eq (.d (.int k a)) (.d (.int k' b))=WA (ZaW op k k' a b):=rfl
@[go_sem] theorem binV_str (op:BinOp) (eq:Bool) (a b:List UInt8):ZqH op eq (.d (.str a)) (.d (.str b))=WA (asD (ZAu op a b)):=rfl
@[go_sem] theorem int2_add (k:IntKind) (a b:Int):ZaW .add k k a b=some (.d (.int k (k.wrap (a+b)))):=by simp[ZaW,Jg,asD,Zh]
@[go_sem] theorem int2_sub (k:IntKind) (a b:Int):ZaW .sub k k a b=some (.d (.int k (k.wrap (a-b)))):=by simp[ZaW,Jg,asD,Zh]
@[go_sem] theorem int2_mul (k:IntKind) (a b:Int):ZaW .mul k k a b=some (.d (.int k (k.wrap (a*b)))):=by simp[ZaW,Jg,asD,Zh]
@[go_sem] theorem int2_quo (k:IntKind) (a b:Int):ZaW .quo k k a b=if b=0 then none else some (.d (.int k (k.wrap (a.tdiv b)))):=by simp only[ZaW,Jg,asD,if_true];split<;>rfl
@[go_sem] theorem int2_rem (k:IntKind) (a b:Int):ZaW .rem k k a b=if b=0 then none else some (.d (.int k (a.tmod b))):=by simp only[ZaW,Jg,asD,if_true];split<;>rfl
@[go_sem] theorem int2_eql (k:IntKind) (a b:Int):ZaW .eql k k a b=some (.d (.bool (decide (a=b)))):=by simp[ZaW,Jg,asD,Zh,BEq.beq]
@[go_sem] theorem int2_neq (k:IntKind) (a b:Int):ZaW .neq k k a b=some (.d (.bool (!decide (a=b)))):=by simp[ZaW,Jg,asD,Zh,bne,BEq.beq]
@[go_sem] theorem int2_lss (k:IntKind) (a b:Int):ZaW .lss k k a b=some (.d (.bool (decide (a<b)))):=by simp[ZaW,Jg,asD,Zh]
@[go_sem] theorem int2_leq (k:IntKind) (a b:Int):ZaW .leq k k a b=some (.d (.bool (decide (a≤b)))):=by simp[ZaW,Jg,asD,Zh]
@[go_sem] theorem int2_gtr (k:IntKind) (a b:Int):ZaW .gtr k k a b=some (.d (.bool (decide (b<a)))):=by simp[ZaW,Jg,asD,Zh]
@[go_sem] theorem int2_geq (k:IntKind) (a b:Int):ZaW .geq k k a b=some (.d (.bool (decide (b≤a)))):=by simp[ZaW,Jg,asD,Zh]
@[go_sem] theorem guardV_t (b:Bool):ZhR true (.d (.bool b))=some b:=by cases b<;>rfl
def nb (b:Bool):Bool:=!b
@[go_sem] theorem nb_true:nb true=false:=rfl
@[go_sem] theorem nb_false:nb false=true:=rfl
@[go_sem] theorem nb_eq (b:Bool):(nb b=true)=(b=false):=by cases b<;>simp[nb]
@[go_sem] theorem guardV_f (b:Bool):ZhR false (.d (.bool b))=some (nb b):=by cases b<;>rfl
@[go_sem] theorem ZIC (w:Bool):ZhR w (.tup [])=some false:=rfl
@[go_sem] theorem ZHg (a b:Bool):ZhR true (Zky a (.d (.bool b)))=some (a&&b):=by cases a<;>cases b<;>rfl
@[go_sem] theorem ZHh (a b:Bool):ZhR false (Zky a (.d (.bool b)))=some (a&&nb b):=by cases a<;>cases b<;>rfl
@[go_sem] theorem iteV_true (v:AV):Zky true v=v:=rfl
@[go_sem] theorem ZID (v:AV):Zky false v=.tup []:=rfl
@[go_sem] theorem ZIE (a b:AV):Zjn a b (.d (.bool true))=QV a:=rfl
@[go_sem] theorem ZHZ (a b:AV):Zjn a b (.d (.bool false))=QV b:=rfl
@[go_sem] theorem pickV_or (b c:Bool):Zjn (.d (.bool true)) (Zky (nb b) (.d (.bool c))) (.d (.bool b))=QV (.d (.bool (b || c))):=by cases b<;>rfl
@[go_sem] theorem pickV_and (b c:Bool):Zjn (Zky b (.d (.bool c))) (.d (.bool false)) (.d (.bool b))=QV (.d (.bool (b&&c))):=by cases b<;>rfl
@[go_sem] theorem dec_or (p q:Prop) [Decidable p] [Decidable q]:(decide p || decide q)=decide (p∨q):=by simp
@[go_sem] theorem dec_and (p q:Prop) [Decidable p] [Decidable q]:(decide p&&decide q)=decide (p∧q):=by simp
@[go_sem] theorem dec_not (p:Prop) [Decidable p]:(!decide p)=decide (¬p):=by simp
attribute [go_sem] Bool.or_eq_false_iff decide_eq_true_eq decide_eq_false_iff_not Bool.and_eq_true Bool.or_eq_true Bool.not_eq_true' Bool.not_eq_false' not_or Decidable.not_not
@[go_sem] theorem evO_t (sl:Sl) (n:Nat):evO sl (.t n)=gs sl n:=rfl
@[go_sem] theorem evO_v (sl:Sl) (a:AV):evO sl (.v a)=a:=rfl
@[go_sem] theorem evO_f (sl:Sl) (n:Nat):evO sl (.f n)=.clo n []:=rfl
@[go_sem] theorem gs_hit (k:Nat) (v:AV) (r:Sl):gs ((k,v) :: r) k=v:=by simp[gs,lkp,Zen]
@[go_sem] theorem gs_cons (k t:Nat) (v:AV) (r:Sl):gs ((k,v) :: r) t=if k=t then v else gs r t:=by
 by_cases h:k=t<;>simp[gs,lkp,h,Zen]
@[go_sem] theorem gs_nil (t:Nat):gs [] t=.junk:=rfl
attribute [go_sem] ZhH.eq_1 ZhH.eq_2
attribute [go_sem] Zal.eq_1 Zal.eq_2 Zal.eq_3 Zal.eq_4
attribute [go_sem] ZmS.eq_1 ZmS.eq_2 ZmS.eq_3 ZmS.eq_4
attribute [go_sem] ZaB.eq_1 ZaB.eq_2
attribute [go_sem] St.hp.eq_1
attribute [go_sem] Zfj.eq_1 Zfj.eq_2 Zfj.eq_3
attribute [go_sem] Zen.eq_1 Zen.eq_2
attribute [go_sem] agg2.eq_1 agg2.eq_2 agg2.eq_3
attribute [go_sem] ins.eq_1 ins.eq_2
attribute [go_sem] ZhI.eq_1 ZhI.eq_2
attribute [go_sem] X9.eq_1 X9.eq_2 X9.eq_3
attribute [go_sem] St.m.eq_1
attribute [go_sem] bnd.eq_1 bnd.eq_2
@[go_sem] theorem u8_eq (n:Nat):u8 n=UInt8.ofNat n:=by unfold u8;rfl
attribute [go_sem] Ztt.eq_1 Ztt.eq_2 Ztt.eq_3
attribute [go_sem] Zak.eq_1 Zak.eq_2 Zak.eq_3
attribute [go_sem] ZAu.eq_1 ZAu.eq_2 ZAu.eq_3 ZAu.eq_4
attribute [go_sem] AV.cells.eq_1 AV.cells.eq_2 AV.cells.eq_3 AV.cells.eq_4 AV.cells.eq_5 AV.cells.eq_6 AV.cells.eq_7 AV.cells.eq_8 AV.cells.eq_9 AV.cells.eq_10 AV.cells.eq_11 AV.cells.eq_12 AV.cells.eq_13 AV.cells.eq_14 AV.cells.eq_15
attribute [go_sem] Qh.eq_1 Qh.eq_2 Qh.eq_3 Qh.eq_4 Qh.eq_5 Qh.eq_6
attribute [go_sem] AV.solid.eq_1 AV.solid.eq_2 AV.solid.eq_3 AV.solid.eq_4
attribute [go_sem] Ws.eq_1 Ws.eq_2
attribute [go_sem] QJ.eq_1 QJ.eq_2
attribute [go_sem] VN.eq_1 VN.eq_2
attribute [go_sem] Zaj.eq_1
attribute [go_sem] Zf0.eq_1 Zf0.eq_2 Zf0.eq_3 Zf0.eq_4 Zf0.eq_5
attribute [go_sem] W2.eq_1 W2.eq_2
attribute [go_sem] D.flat.eq_1
attribute [go_sem] give.eq_1 give.eq_2
attribute [go_sem] D.beq1.eq_1 D.beq1.eq_2 D.beq1.eq_3 D.beq1.eq_4
attribute [go_sem] ZhJ.eq_1 ZhJ.eq_2 ZhJ.eq_3 ZhJ.eq_4 ZhJ.eq_5 ZhJ.eq_6
attribute [go_sem] not1.eq_1 not1.eq_2
attribute [go_sem] XG.eq_1 XG.eq_2 XG.eq_3 XG.eq_4
attribute [go_sem] St.nx.eq_1
attribute [go_sem] ZC.eq_1 ZC.eq_2 ZC.eq_3
attribute [go_sem] ZgE.eq_1 ZgE.eq_2 ZgE.eq_3
attribute [go_sem] ZmT.eq_1 ZmT.eq_2
attribute [go_sem] vun.eq_1 vun.eq_2 vun.eq_3
attribute [go_sem] toD.eq_1 toD.eq_2
attribute [go_sem] Zo.eq_1 Zo.eq_2 Zo.eq_3 Zo.eq_4 Zo.eq_5 Zo.eq_6 Zo.eq_7 Zo.eq_8 Zo.eq_9 Zo.eq_10 Zo.eq_11 Zo.eq_12 Zo.eq_13 Zo.eq_14 Zo.eq_15
attribute [go_sem] D.plain.eq_1 D.plain.eq_2 D.plain.eq_3 D.plain.eq_4 D.plain.eq_5
attribute [go_sem] Zy.eq_1
attribute [go_sem] ZV.eq_1 ZV.eq_2 ZV.eq_3
attribute [go_sem] U8.eq_1 U8.eq_2
attribute [go_sem] Zz.eq_1 Zz.eq_2
attribute [go_sem] ZB2.eq_1
attribute [go_sem] Zos.eq_1 Zos.eq_2
attribute [go_sem] ZcB.eq_1 ZcB.eq_2 ZcB.eq_3 ZcB.eq_4
attribute [go_sem] St.sl.eq_1
attribute [go_sem] ZEv.eq_1 ZEv.eq_2
attribute [go_sem] Uo.eq_1 Uo.eq_2
attribute [go_sem] ZfZ.eq_1 ZfZ.eq_2
attribute [go_sem] ren.eq_1 ren.eq_2
attribute [go_sem] kill.eq_1 kill.eq_2
attribute [go_sem] lkp.eq_1 lkp.eq_2
attribute [go_sem] ZwH.eq_1 ZwH.eq_2 ZwH.eq_3
attribute [go_sem] X1.eq_1 X1.eq_2
attribute [go_sem] beqL.eq_1 beqL.eq_2 beqL.eq_3
attribute [go_sem] D.cells.eq_1 D.cells.eq_2 D.cells.eq_3 D.cells.eq_4 D.cells.eq_5
attribute [go_sem] Ztr.eq_1 Ztr.eq_2
attribute [go_sem] ZwG.eq_1 ZwG.eq_2
attribute [go_sem] neg1.eq_1 neg1.eq_2
attribute [go_sem] Zot.eq_1 Zot.eq_2 Zot.eq_3
attribute [go_sem] Zts.eq_1 Zts.eq_2
attribute [go_sem] VM.eq_1 VM.eq_2 VM.eq_3
attribute [go_sem] asD.eq_1
attribute [go_sem] Jg.eq_1 Jg.eq_2 Jg.eq_3 Jg.eq_4 Jg.eq_5 Jg.eq_6 Jg.eq_7 Jg.eq_8 Jg.eq_9 Jg.eq_10 Jg.eq_11 Jg.eq_12 Jg.eq_13 Jg.eq_14 Jg.eq_15 Jg.eq_16 Jg.eq_17
attribute [go_sem] Zkz.eq_1 Zkz.eq_2 Zkz.eq_3 Zkz.eq_4 Zkz.eq_5
attribute [go_sem] D.one.eq_1 D.one.eq_2 D.one.eq_3 D.one.eq_4 D.one.eq_5
attribute [go_sem] freeze.eq_1 freeze.eq_2
attribute [go_sem] Zeo.eq_1
attribute [go_sem] loOf.eq_1 loOf.eq_2
attribute [go_sem] Eff.on.eq_1
attribute [go_sem] appT.eq_1
attribute [go_sem] ZbP.eq_1 ZbP.eq_2
attribute [go_sem] cloV.eq_1
attribute [go_sem] slice0.eq_1 slice0.eq_2
attribute [go_sem] evM.eq_1 evM.eq_2
attribute [go_sem] Zao.eq_1 Zao.eq_2
attribute [go_sem] hiOf.eq_1 hiOf.eq_2
attribute [go_sem] Zm0.eq_1 Zm0.eq_2 Zm0.eq_3
attribute [go_sem] ZDf.eq_1
attribute [go_sem] idx.eq_1 idx.eq_2
attribute [go_sem] Wj.eq_1 Wj.eq_2 Wj.eq_3 Wj.eq_4 Wj.eq_5
attribute [go_sem] ZaE.eq_1 ZaE.eq_2 ZaE.eq_3
attribute [go_sem] Qc.eq_1 Qc.eq_2
attribute [go_sem] D.notSl.eq_1 D.notSl.eq_2
attribute [go_sem] ZFY.eq_1 ZFY.eq_2
attribute [go_sem] Zes.eq_1 Zes.eq_2 Zes.eq_3 Zes.eq_4 Zes.eq_5 Zes.eq_6
attribute [go_sem] VO.eq_1 VO.eq_2 VO.eq_3 VO.eq_4
attribute [go_sem] CO.guard.eq_1
attribute [go_sem] Zin.eq_1
attribute [go_sem] Zb8.eq_1
attribute [go_sem] Zep.eq_1 Zep.eq_2 Zep.eq_3
attribute [go_sem] ZmV.eq_1
attribute [go_sem] Eff.adds.eq_1
attribute [go_sem] Zpq.eq_1 Zpq.eq_2
attribute [go_sem] Wu.eq_1 Wu.eq_2
attribute [go_sem] Zi.eq_1 Zi.eq_2
attribute [go_sem] Zf.eff.eq_1
attribute [go_sem] Zjk.eq_1 Zjk.eq_2
attribute [go_sem] ZB3.eq_1 ZB3.eq_2
attribute [go_sem] Zou.eq_1 Zou.eq_2 Zou.eq_3
attribute [go_sem] del.eq_1 del.eq_2
attribute [go_sem] Zty.eq_1
attribute [go_sem] Zyn.eq_1 Zyn.eq_2
attribute [go_sem] ZaX.eq_1 ZaX.eq_2
attribute [go_sem] Zps.eq_1 Zps.eq_2
attribute [go_sem] D.isAgg.eq_1 D.isAgg.eq_2
attribute [go_sem] ZaY.eq_1 ZaY.eq_2 ZaY.eq_3 ZaY.eq_4 ZaY.eq_5
attribute [go_sem] Zjo.eq_1
attribute [go_sem] slice3.eq_1
attribute [go_sem] Zer.eq_1 Zer.eq_2
attribute [go_sem] args.eq_1 args.eq_2
attribute [go_sem] Zpr.eq_1 Zpr.eq_2
attribute [go_sem] ZhN.eq_1
attribute [go_sem] ZmW.eq_1 ZmW.eq_2 ZmY.eq_1 ZmY.eq_2
attribute [go_sem] Zar.eq_1
attribute [go_sem] evL.eq_1 evL.eq_2
attribute [go_sem] Zov.eq_1 Zov.eq_2 Zov.eq_3
attribute [go_sem] Zan.eq_1 Zan.eq_2 Zan.eq_3
attribute [go_sem] Zf1.eq_1 Zf1.eq_2
attribute [go_sem] Ztu.eq_1 Ztu.eq_2
attribute [go_sem] Eff.sets.eq_1
attribute [go_sem] Zf2.eq_1 Zf2.eq_2 Zf2.eq_3
attribute [go_sem] ZmU.eq_1 ZmU.eq_2
attribute [go_sem] ZmZ.eq_1 ZmZ.eq_2
attribute [go_sem] Zcr.eq_1 Zcr.eq_2 Zcr.eq_3
attribute [go_sem] ZEz.eq_1
attribute [go_sem] makeT.eq_1
attribute [go_sem] VQ.eq_1 VQ.eq_2
attribute [go_sem] ZFZ.eq_1 ZFZ.eq_2
attribute [go_sem] Ztw.eq_1 Ztw.eq_2
attribute [go_sem] Zew.eq_1 Zew.eq_2
attribute [go_sem] ZwJ.eq_1
attribute [go_sem] Zev.eq_1 Zev.eq_2
attribute [go_sem] AV.atom.eq_1 AV.atom.eq_2 AV.atom.eq_3 AV.atom.eq_4 AV.atom.eq_5
attribute [go_sem] Eff.dels.eq_1
attribute [go_sem] Zfk.eq_1 Zfk.eq_2 Zfk.eq_3
attribute [go_sem] mat.eq_1 mat.eq_2 mat.eq_3
attribute [go_sem] ZM.eq_1
attribute [go_sem] Zeu.eq_1 Zeu.eq_2
attribute [go_sem] Zyp.eq_1
attribute [go_sem] ZEx.eq_1
attribute [go_sem] Zfm.eq_1 Zfm.eq_2
attribute [go_sem] Zap.eq_1
attribute [go_sem] QK.eq_1 QK.eq_2 QK.eq_3 QK.eq_4
attribute [go_sem] ZEy.eq_1
attribute [go_sem] Zjh.eq_1 Zjh.eq_2
attribute [go_sem] ZlJ.eq_1 ZlJ.eq_2
attribute [go_sem] ZAC.eq_1 ZAC.eq_2
attribute [go_sem] Zk0.eq_1 Zk0.eq_2 Zk0.eq_3 Zk0.eq_4
attribute [go_sem] ZlI.eq_1 ZlI.eq_2
attribute [go_sem] ZhL.eq_1 ZhL.eq_2
attribute [go_sem] Zjj.eq_1 Zjj.eq_2 Zjj.eq_3 Zjj.eq_4 Zjj.eq_5
attribute [go_sem] Zyo.eq_1 Zyo.eq_2
attribute [go_sem] Ztx.eq_1
attribute [go_sem] convS.eq_1 convS.eq_2
attribute [go_sem] ZmX.eq_1 ZmX.eq_2
attribute [go_sem] CO.tl.eq_1
attribute [go_sem] Zjl.eq_1 Zjl.eq_2 Zjl.eq_3 Zjl.eq_4
attribute [go_sem] CO.dst.eq_1
attribute [go_sem] teOf.eq_1
attribute [go_sem] ZB4.eq_1 ZB4.eq_2 ZB4.eq_3
attribute [go_sem] Ztv.eq_1
attribute [go_sem] ZAx.eq_1 ZAx.eq_2
attribute [go_sem] ZAy.eq_1
attribute [go_sem] Eff.val.eq_1
attribute [go_sem] sliceS.eq_1 sliceS.eq_2
attribute [go_sem] Y7.eq_1 Y7.eq_2 Y7.eq_3
attribute [go_sem] Zji.eq_1 Zji.eq_2 Zji.eq_3 Zji.eq_4
attribute [go_sem] Zam.eq_1
attribute [go_sem] buildSl.eq_1 buildSl.eq_2
attribute [go_sem] UO.eq_1 UO.eq_2 UO.eq_3 UO.eq_4
attribute [go_sem] ZaC.eq_1 ZaC.eq_2 ZaC.eq_3 ZaC.eq_4 ZaC.eq_5
attribute [go_sem] Zpp.eq_1 Zpp.eq_2
attribute [go_sem] ZtA.eq_1
attribute [go_sem] evP.eq_1 evP.eq_2
attribute [go_sem] Zm1.eq_1 Zm1.eq_2
attribute [go_sem] Zfl.eq_1
attribute [go_sem] Zkd.eq_1
attribute [go_sem] ZwI.eq_1 ZwI.eq_2
attribute [go_sem] Ztz.eq_1
attribute [go_sem] W3.eq_1
attribute [go_sem] ZAB.eq_1
attribute [go_sem] bnT.eq_1 bnT.eq_2
attribute [go_sem] Zeq.eq_1 Zeq.eq_2
attribute [go_sem] Wt.eq_1 Wt.eq_2
attribute [go_sem] Zaq.eq_1 Zaq.eq_2
attribute [go_sem] asgT.eq_1 asgT.eq_2
attribute [go_sem] Zow.eq_1 Zow.eq_2
attribute [go_sem] Zf4.eq_1 Zf4.eq_2
attribute [go_sem] Zjm.eq_1 Zjm.eq_2 Zjm.eq_3 Zjm.eq_4
attribute [go_sem] ZAv.eq_1 ZAv.eq_2
attribute [go_sem] CO.op.eq_1
attribute [go_sem] ZhO.eq_1 ZhO.eq_2
attribute [go_sem] ZhK.eq_1 ZhK.eq_2
attribute [go_sem] ZEw.eq_1 ZEw.eq_2
attribute [go_sem] Zke.eq_1 Zke.eq_2 Zke.eq_3
attribute [go_sem] ZAz.eq_1 ZAz.eq_2
attribute [go_sem] ZlK.eq_1 ZlK.eq_2
attribute [go_sem] ZhM.eq_1 ZhM.eq_2
attribute [go_sem] ZeH.eq_1 ZeH.eq_2 ZeH.eq_3 ZeH.eq_4 ZeH.eq_5 ZeH.eq_6 ZeH.eq_7 ZeH.eq_8 ZeH.eq_9 ZeH.eq_10
attribute [go_sem] Zb9.eq_1
attribute [go_sem] W4.eq_1 W4.eq_2 W4.eq_3 W4.eq_4
attribute [go_sem] Eff.frz.eq_1
attribute [go_sem] buildT.eq_1
attribute [go_sem] Qq.eq_1 Qq.eq_2
attribute [go_sem] Zkc.eq_1 Zkc.eq_2
attribute [go_sem] Zf.gone.eq_1
attribute [go_sem] meltIn.eq_1 meltIn.eq_2
attribute [go_sem] Zk1.eq_1
attribute [go_sem] ZAw.eq_1 ZAw.eq_2
attribute [go_sem] convI.eq_1 convI.eq_2
attribute [go_sem] ZqU.eq_1 ZqU.eq_2
attribute [go_sem] Zdt.eq_1 Zdt.eq_2 Zdt.eq_3
attribute [go_sem] bd.eq_1
attribute [go_sem] Zet.eq_1 Zet.eq_2
attribute [go_sem] Ya.eq_1
attribute [go_sem] Zyq.eq_1 Zyq.eq_2
attribute [go_sem] Zkf.eq_1
attribute [go_sem] Ym.eq_1 Ym.eq_2
attribute [go_sem] ZDk.eq_1 ZDk.eq_2
attribute [go_sem] ZF.eq_1 ZF.eq_2 ZF.eq_3 ZF.eq_4 ZF.eq_5 ZF.eq_6 ZF.eq_7 ZF.eq_8 ZF.eq_9 ZF.eq_10 ZF.eq_11 ZF.eq_12 ZF.eq_13 ZF.eq_14 ZF.eq_15 ZF.eq_16 ZF.eq_17 ZF.eq_18 ZF.eq_19 ZF.eq_20 ZF.eq_21 ZF.eq_22 ZF.eq_23 ZF.eq_24 ZF.eq_25 ZF.eq_26 ZF.eq_27 ZF.eq_28 ZF.eq_29 ZF.eq_30 ZF.eq_31 ZF.eq_32 ZF.eq_33 ZF.eq_34 ZF.eq_35 ZF.eq_36 ZF.eq_37 ZF.eq_38 ZF.eq_39 ZF.eq_40
attribute [go_sem] Jh.eq_1 Jh.eq_2 Jh.eq_3 Jh.eq_4 Jh.eq_5
attribute [go_sem] Zjs.eq_1
attribute [go_sem] Zyv.eq_1 Zyv.eq_2
attribute [go_sem] ZeC.eq_1 ZeC.eq_2
attribute [go_sem] ZhX.eq_1 Zyx.eq_1 Zyx.eq_2 Zyx.eq_3 ZF3.eq_1
attribute [go_sem] Zf5.eq_1 Zf5.eq_2 Zf5.eq_3 Zf5.eq_4 Zf5.eq_5
attribute [go_sem] Wy.eq_1 Wy.eq_2
attribute [go_sem] Zpv.eq_1 Zpv.eq_2
attribute [go_sem] ZEB.eq_1 ZEB.eq_2
attribute [go_sem] ZwL.eq_1 ZwL.eq_2
attribute [go_sem] XA.eq_1 XA.eq_2
attribute [go_sem] only.eq_1 only.eq_2
attribute [go_sem] ZB8.eq_1 ZB8.eq_2
attribute [go_sem] Zjq.eq_1 Zjq.eq_2
attribute [go_sem] Wz.eq_1 Wz.eq_2
attribute [go_sem] okL.eq_1 okL.eq_2
attribute [go_sem] okC.eq_1 okC.eq_2 okC.eq_3 okC.eq_4 okC.eq_5 okC.eq_6 okC.eq_7 okC.eq_8 okC.eq_9 okC.eq_10
attribute [go_sem] ZqV.eq_1 ZqV.eq_2
attribute [go_sem] Zct.eq_1 Zct.eq_2
attribute [go_sem] ZhS.eq_1 ZhS.eq_2 ZhS.eq_3
attribute [go_sem] Zkh.eq_1 Zkh.eq_2
attribute [go_sem] Zjr.eq_1 Zjr.eq_2
attribute [go_sem] Xc.eq_1 Xc.eq_2
attribute [go_sem] Zt.eq_1 Zt.eq_2
attribute [go_sem] V1.eq_1 V1.eq_2 V1.eq_3
attribute [go_sem] Zm6.eq_1
attribute [go_sem] WC.eq_1 WC.eq_2
attribute [go_sem] Zyw.eq_1 Zyw.eq_2
attribute [go_sem] CO.starts.eq_1
attribute [go_sem] Wx.eq_1 Wx.eq_2
attribute [go_sem] Xf.eq_1 Xf.eq_2
attribute [go_sem] ZDj.eq_1 ZDj.eq_2
attribute [go_sem] ZlP.eq_1
attribute [go_sem] ZtK.eq_1 ZtK.eq_2 ZtK.eq_3
attribute [go_sem] ZhU.eq_1 ZhU.eq_2
attribute [go_sem] Up.eq_1 Up.eq_2
attribute [go_sem] Zf6.eq_1
attribute [go_sem] ZtL.eq_1 ZtL.eq_2
attribute [go_sem] ZDi.eq_1
attribute [go_sem] Zr.body.eq_1
attribute [go_sem] Zm8.eq_1
attribute [go_sem] ZlM.eq_1 ZlM.eq_2
attribute [go_sem] Zat.eq_1 Zat.eq_2 Zat.eq_3 Zat.eq_4 Zat.eq_5
attribute [go_sem] Zr.res.eq_1
attribute [go_sem] Vs.eq_1 Vs.eq_2
attribute [go_sem] YG.eq_1 YG.eq_2 YG.eq_3 YG.eq_4 YG.eq_5 YG.eq_6 YG.eq_7 YG.eq_8 YG.eq_9 YG.eq_10 YG.eq_11 YG.eq_12
attribute [go_sem] ZtO.eq_1 ZtO.eq_2
attribute [go_sem] V0.eq_1 V0.eq_2
attribute [go_sem] Zr.nt.eq_1
attribute [go_sem] okD.eq_1 okD.eq_2
attribute [go_sem] Zyq.eq_1 ZaC.eq_1 ZaC.eq_2 ZaC.eq_3 ZaC.eq_4
attribute [go_sem] Jr.eq_1 Zey.eq_1 Zey.eq_2 Zey.eq_3 Zey.eq_4 Zey.eq_5 Zey.eq_6 Zey.eq_7 Zey.eq_8 Zey.eq_9 Zey.eq_10 W6.eq_1
attribute [go_sem] Xm.eq_3 Yd.eq_1 AV.atom.eq_1 AV.atom.eq_2 AV.atom.eq_3 AV.atom.eq_4
attribute [go_sem] Zvv.eq_1 Zvv.eq_2 ZkY.eq_1 ZkY.eq_2
attribute [go_sem] Zh ZFW ZHk
attribute [go_sem] List.map_cons List.map_nil List.flatMap_cons List.flatMap_nil List.append_nil List.nil_append List.cons_append List.length_cons List.length_nil List.all_cons List.all_nil List.any_cons List.any_nil List.contains_cons List.contains_nil List.filter_cons List.filter_nil List.drop_zero List.drop_succ_cons List.drop_nil List.take_zero List.take_succ_cons List.take_nil List.getElem?_cons_zero List.getElem?_cons_succ List.getElem?_nil Option.map_some Option.map_none Bool.and_true Bool.true_and Bool.and_false Bool.false_and Bool.or_true Bool.true_or Bool.or_false Bool.false_or Bool.not_true Bool.not_false decide_true decide_false and_true true_and and_false false_and not_true not_false_eq_true or_true true_or or_false false_or if_true if_false true_implies false_implies implies_true imp_self eq_self ne_eq beq_self_eq_true Bool.true_eq_false Bool.false_eq_true List.isEmpty_nil List.isEmpty_cons List.range_zero List.set_cons_zero List.set_cons_succ Option.some.injEq reduceCtorEq Nat.reduceLeDiff
def Ztm (hp:Hp):List Nat→List Nat
 | []=>[]
 | i :: r=>if Zjl (lkp hp i)=true then i :: Ztm hp r else Ztm hp r
theorem gE (hp:Hp) (ids:List Nat):(ids.filter fun i=>Zjl (lkp hp i))=Ztm hp ids:=by
 induction ids with
 | nil=>rfl
 | cons i r ih=>simp only[List.filter_cons,Ztm,ih]
def Zwx (hp:Hp) (rs:List Nat):List Nat→Bool
 | []=>true
 | i :: r=>(Zjl (lkp hp i) || rs.contains i)&&Zwx hp rs r
def Zwy (hp:Hp):List Nat→Bool
 | []=>false
 | i :: r=>Zev (lkp hp i) || Zwy hp r
theorem gG (hp:Hp) (ids:List Nat):(ids.any fun i=>Zev (lkp hp i))=Zwy hp ids:=by
 induction ids with
 | nil=>rfl
 | cons i r ih=>simp only[List.any_cons,Zwy,ih]
attribute [go_sem] Zwy.eq_1 Zwy.eq_2
@[go_sem] theorem appV_eq (hp:Hp) (s b:Nat) (str flat:Bool) (base:Nat) (x y:AV):ZAA hp s b str flat base x y=Zf3 hp s b str flat base x y (Ye hp x) (Ye hp y):=rfl
attribute [go_sem] Zf3.eq_1 Zf3.eq_2 Zf3.eq_3
@[go_sem] theorem treeId_d (hp:Hp) (x:D):Ye hp (.d x)=[]:=rfl
@[go_sem] theorem ZIG (hp:Hp):Ye hp .nil=[]:=rfl
@[go_sem] theorem ZH0 (hp:Hp) (k o n:Nat):Ye hp (.ownv k o n)=[]:=rfl
@[go_sem] theorem ZIH (hp:Hp) (k:Nat):Ye hp (.own k)=if Zev (lkp hp k)=true then [k] else []:=rfl
@[go_sem] theorem noKeep_0 (M:Zs) (f:Nat):YF M f 0=M f 0:=rfl
@[go_sem] theorem noKeep_1 (M:Zs) (f:Nat):YF M f 1=M f 1:=rfl
@[go_sem] theorem noKeep_2 (M:Zs) (f:Nat):YF M f 2=M f 2:=rfl
@[go_sem] theorem noKeep_3 (M:Zs) (f:Nat):YF M f 3=M f 3:=rfl
@[go_sem] theorem noKeep_4 (M:Zs) (f:Nat):YF M f 4=M f 4:=rfl
@[go_sem] theorem noKeep_5 (M:Zs) (f:Nat):YF M f 5=M f 5:=rfl
@[go_sem] theorem noKeep_6 (M:Zs) (f:Nat):YF M f 6=M f 6:=rfl
@[go_sem] theorem noKeep_99 (M:Zs) (f:Nat):YF M f 99=false:=rfl
theorem gF (hp:Hp) (rs ids:List Nat):Zds hp rs ids=Zwx hp rs ids:=by
 induction ids with
 | nil=>rfl
 | cons i r ih=>simp only[Zds,LG,Zwx] at ih ⊢;rw[ih]
attribute [go_sem] Ztm.eq_1 Ztm.eq_2 Zwx.eq_1 Zwx.eq_2
@[go_sem] theorem okV_d (x:D):okV (.d x)=true:=rfl
@[go_sem] theorem okV_nil:okV .nil=true:=rfl
@[go_sem] theorem okV_nilp:okV .nilp=true:=rfl
@[go_sem] theorem okV_nili:okV .nili=true:=rfl
@[go_sem] theorem okV_ptr (a b:Nat):okV (.ptr a b)=true:=rfl
@[go_sem] theorem okV_prow (a b c e:Nat):okV (.prow a b c e)=true:=rfl
@[go_sem] theorem okV_pim (cs:List D):okV (.pim cs)=true:=rfl
@[go_sem] theorem okV_own (a:Nat):okV (.own a)=true:=rfl
@[go_sem] theorem okV_ownv (a b c:Nat):okV (.ownv a b c)=true:=rfl
@[go_sem] theorem okV_agg (cs:List AV):okV (.agg cs)=Zyv cs:=rfl
@[go_sem] theorem okV_tup0:okV (.tup [])=true:=rfl
@[go_sem] theorem ZII (sl:Sl) (a:COp) (x y:Nat) (v:AV):Wk sl a (.ptr x y) v=true:=rfl
@[go_sem] theorem seenIn_d (sl:Sl) (a:COp) (x y z t:Nat) (v:D):Wk sl a (.prow x y z t) (.d v)=true:=rfl
@[go_sem] theorem ZIJ (sl:Sl) (a:COp) (x y z t:Nat) (v:List AV):Wk sl a (.prow x y z t) (.agg v)=(okV (.agg v)&&Ym sl (ZF a) (Zz (.agg v))):=rfl
@[go_sem] theorem ZIK (sl:Sl) (a:COp) (x y z t:Nat) (k:Nat):Wk sl a (.prow x y z t) (.own k)=(okV (.own k)&&Ym sl (ZF a) (Zz (.own k))):=rfl
@[go_sem] theorem ZIL (sl:Sl) (a:COp) (x y z t:Nat):Wk sl a (.prow x y z t) .nil=(okV .nil&&Ym sl (ZF a) (Zz .nil)):=rfl
@[go_sem] theorem ZH1 (sl:Sl) (a:COp) (x y z t:Nat):Wk sl a (.prow x y z t) .nilp=(okV .nilp&&Ym sl (ZF a) (Zz .nilp)):=rfl
@[go_sem] theorem ZH2 (sl:Sl) (a:COp) (x y z t:Nat) (k m n:Nat):Wk sl a (.prow x y z t) (.ownv k m n)=(okV (.ownv k m n)&&Ym sl (ZF a) (Zz (.ownv k m n))):=rfl
@[go_sem] theorem ZH3 (sl:Sl) (a:COp) (k:Nat):seenSrc sl a (.own k)=Xc sl k (ZF a):=rfl
@[go_sem] theorem seenSrc_d (sl:Sl) (a:COp) (x:D):seenSrc sl a (.d x)=true:=rfl
@[go_sem] theorem ZH4 (sl:Sl) (a:COp):seenSrc sl a .nil=true:=rfl
@[go_sem] theorem ZHi (sl:Sl) (a:COp) (x y z:Nat):seenSrc sl a (.ownv x y z)=true:=rfl
@[go_sem] theorem okV_iteV (b:Bool) (v:AV):okV (Zky b v)=(!b || okV v):=by cases b<;>simp[Zky,okV]
@[go_sem] theorem awayV_d (sl:Sl) (xs:List Opd) (x:D):Zez sl xs (.d x)=true:=rfl
@[go_sem] theorem awayV_nil (sl:Sl) (xs:List Opd):Zez sl xs .nil=true:=rfl
@[go_sem] theorem ZIM (sl:Sl) (xs:List Opd):Zez sl xs .nilp=true:=rfl
@[go_sem] theorem awayV_ptr (sl:Sl) (xs:List Opd) (k o:Nat):Zez sl xs (.ptr k o)=Xc sl k xs:=rfl
@[go_sem] theorem awayV_pim (sl:Sl) (xs:List Opd) (cs:List D):Zez sl xs (.pim cs)=true:=rfl
@[go_sem] theorem awayV_own (sl:Sl) (xs:List Opd) (a:Nat):Zez sl xs (.own a)=true:=rfl
@[go_sem] theorem ZIN (sl:Sl) (xs:List Opd) (a b c:Nat):Zez sl xs (.ownv a b c)=true:=rfl
@[go_sem] theorem awayV_agg (sl:Sl) (xs:List Opd) (cs:List AV):Zez sl xs (.agg cs)=true:=rfl
@[go_sem] theorem awayV_tup (sl:Sl) (xs:List Opd) (cs:List AV):Zez sl xs (.tup cs)=true:=rfl
end Go.Abs.E
