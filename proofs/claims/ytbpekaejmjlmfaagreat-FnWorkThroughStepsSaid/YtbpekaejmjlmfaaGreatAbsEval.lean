/- Own text. -/
import Derived.Test.YtbpekaejmjlmfaaGreatAbsRun
set_option linter.unusedVariables false
set_option linter.unusedSimpArgs false
namespace Go.Abs.E
open Go Go.Abs
abbrev _root_.Go.Abs.Opd.i (n:Int):Opd:=.v (.d (.int .i64 n))
abbrev _root_.Go.Abs.Opd.b (x:Bool):Opd:=.v (.d (.bool x))
def stW {α:Type} (x:Option α) (K:α→Prop):Prop:=match x with
 | some a=>K a
 | none=>False
def gW (x:Option Bool) (A B:Prop):Prop:=match x with
 | some b=>(b=true→A)∧(b=false→B)
 | none=>False
def UV (v:AV) (A B:Prop):Prop:=match v with
 | .d (.bool t)=>(t=true→A)∧(t=false→B)
 | _=>False
theorem Ug {α:Type} (a:α) (K:α→Prop):stW (some a) K=K a:=rfl
theorem ZkR {α:Type} (K:α→Prop):stW none K=False:=rfl
theorem Zcy {α β:Type} (x:Option α) (f:α→Option β) (K:β→Prop):stW (bnd x f) K=stW x fun a=>stW (f a) K:=by cases x<;>rfl
@[go_sem] theorem Zzg (A B:Prop):gW (some true) A B=A:=by simp[gW]
@[go_sem] theorem gW_false (A B:Prop):gW (some false) A B=B:=by simp[gW]
@[go_sem] theorem gW_dec (p:Prop) [Decidable p] (A B:Prop):gW (some (decide p)) A B=((p→A)∧(¬p→B)):=by simp[gW]
@[go_sem] theorem gW_not (b:Bool) (A B:Prop):gW (some (!b)) A B=gW (some b) B A:=by cases b<;>simp[gW]
theorem gW_some (b:Bool) (A B:Prop):gW (some b) A B=((b=true→A)∧(b=false→B)):=rfl
@[go_sem] theorem ZDS (A B:Prop):UV (.d (.bool true)) A B=A:=by simp[UV]
@[go_sem] theorem ZDr (A B:Prop):UV (.d (.bool false)) A B=B:=by simp[UV]
@[go_sem] theorem condW_dec (p:Prop) [Decidable p] (A B:Prop):UV (.d (.bool (decide p))) A B=((p→A)∧(¬p→B)):=by simp[UV]
@[go_sem] theorem condW_not (b:Bool) (A B:Prop):UV (.d (.bool (!b))) A B=UV (.d (.bool b)) B A:=by cases b<;>simp[UV]
@[go_sem] theorem condW_and (a b:Bool) (A B:Prop):UV (.d (.bool (a&&b))) A B=UV (.d (.bool a)) (UV (.d (.bool b)) A B) B:=by cases a<;>cases b<;>simp[UV]
@[go_sem] theorem condW_or (a b:Bool) (A B:Prop):UV (.d (.bool (a || b))) A B=UV (.d (.bool a)) A (UV (.d (.bool b)) A B):=by cases a<;>cases b<;>simp[UV]
@[go_sem] theorem ZDT (b:Bool) (A B:Prop):UV (.d (.bool b)) A B=((b=true→A)∧(b=false→B)):=rfl
@[congr] theorem gW_congr {x y:Option Bool} {A B:Prop} (h:x=y):gW x A B=gW y A B:=by rw[h]
@[congr] theorem ZDs {v w:AV} {A B:Prop} (h:v=w):UV v A B=UV w A B:=by rw[h]
section
variable (X:Fns) (M:Zp)
noncomputable def ZeU (nx:Nat):Nat→List CO→Sl→Hp→(Sl→Hp→Prop)→Prop
 | _,[],sl,hp,K=>K sl hp
 | i,o :: rest,sl,hp,K=>gW (Z6 sl o.guard)
   (stW (YZ (nx+64*i) o.dst sl hp (vop (Zd X M) M sl hp (nx+64*i) o.op)) fun r=>ZeU nx (i+1) rest r.1 r.2 K)
   (ZeU nx (i+1) rest (Zt sl o.dst (.tup [])) hp K)
def Zcm (nx i:Nat) (d:Option Nat) (rest:List CO) (sl:Sl) (hp:Hp) (K:Sl→Hp→Prop) (e:Option Zf):Prop:=
 stW (YZ (nx+64*i) d sl hp e) fun r=>ZeU X M nx (i+1) rest r.1 r.2 K
@[go_sem] theorem opsW_nil (nx i:Nat) (sl:Sl) (hp:Hp) (K:Sl→Hp→Prop):ZeU X M nx i [] sl hp K=K sl hp:=rfl
@[go_sem] theorem opsW_cons (nx i:Nat) (d:Option Nat) (tl:Bool) (op:COp) (aa:List CO) (sl:Sl) (hp:Hp) (K:Sl→Hp→Prop) :
  ZeU X M nx i (⟨d,none,op,tl⟩ :: aa) sl hp K=Zcm X M nx i d aa sl hp K (vop (Zd X M) M sl hp (nx+64*i) op):=by
 simp[ZeU,Zcm,Z6,Zzg]
def ZiR (b:Bool) (v:AV):AV:=if b then v else .tup []
def ZaQ (b:Bool) (nx i:Nat) (d:Option Nat) (rest:List CO) (sl:Sl) (hp:Hp) (K:Sl→Hp→Prop) (e:Option Zf):Prop:=
 gW (some b) (Zcm X M nx i d rest sl hp K e) (ZeU X M nx (i+1) rest (Zt sl d (.tup [])) hp K)
def ZuW (g:Option Bool) (nx i:Nat) (d:Option Nat) (op:COp) (rest:List CO) (sl:Sl) (hp:Hp) (K:Sl→Hp→Prop):Prop:=
 gW g (Zcm X M nx i d rest sl hp K (vop (Zd X M) M sl hp (nx+64*i) op)) (ZeU X M nx (i+1) rest (Zt sl d (.tup [])) hp K)
@[go_sem] theorem ZDU (nx i g:Nat) (w:Bool) (d:Option Nat) (tl:Bool) (op:COp) (aa:List CO) (sl:Sl) (hp:Hp) (K:Sl→Hp→Prop) :
  ZeU X M nx i (⟨d,some (g,w),op,tl⟩ :: aa) sl hp K=ZuW X M (Zgx w (gs sl g)) nx i d op aa sl hp K:=rfl
@[go_sem] theorem ZDt (b:Bool) (nx i:Nat) (d:Option Nat) (op:COp) (aa:List CO) (sl:Sl) (hp:Hp) (K:Sl→Hp→Prop) :
  ZuW X M (some b) nx i d op aa sl hp K=ZaQ X M b nx i d aa sl hp K (vop (Zd X M) M sl hp (nx+64*i) op):=rfl
@[go_sem] theorem gA (nx i:Nat) (d:Option Nat) (aa:List CO) (sl:Sl) (hp:Hp) (K:Sl→Hp→Prop) (e:Option Zf) :
  ZaQ X M true nx i d aa sl hp K e=Zcm X M nx i d aa sl hp K e:=by simp[ZaQ,gW]
@[go_sem] theorem gB (nx i:Nat) (d:Option Nat) (aa:List CO) (sl:Sl) (hp:Hp) (K:Sl→Hp→Prop) (e:Option Zf) :
  ZaQ X M false nx i d aa sl hp K e=ZeU X M nx (i+1) aa (Zt sl d (.tup [])) hp K:=by simp[ZaQ,gW]
@[go_sem] theorem ZuX (b:Bool) (nx i:Nat) (d:Option Nat) (aa:List CO) (sl:Sl) (hp:Hp) (K:Sl→Hp→Prop) (v:AV) :
  ZaQ X M b nx i d aa sl hp K (QD v)=ZeU X M nx (i+1) aa (Zt sl d (ZiR b v)) hp K:=by
 cases b
 ·simp[ZaQ,gW,ZiR]
 ·simp only[ZaQ,gW,ZiR,Kk,true_implies,Kat,false_implies,and_true];rfl
@[go_sem] theorem ZDu (b:Bool) (nx i:Nat) (d:Option Nat) (aa:List CO) (sl:Sl) (hp:Hp) (K:Sl→Hp→Prop) (v:AV) :
  ZaQ X M b nx i d aa sl hp K (some { eff := { val:=v,adds:=[],sets:=[],dels:=[],frz:=[] },gone:=[] })=ZeU X M nx (i+1) aa (Zt sl d (ZiR b v)) hp K:=ZuX X M b nx i d aa sl hp K v
@[congr] theorem ZCX {g g' : Option Bool} {nx i:Nat} {d:Option Nat} {op:COp} {aa:List CO} {sl:Sl} {hp:Hp} {K:Sl→Hp→Prop} (h:g=g') :
  ZuW X M g nx i d op aa sl hp K=ZuW X M g' nx i d op aa sl hp K:=by rw[h]
@[congr] theorem ZCY {b b' : Bool} {nx i:Nat} {d:Option Nat} {aa:List CO} {sl:Sl} {hp:Hp} {K:Sl→Hp→Prop} {e e' : Option Zf} (hb:b=b') (h:b'=true→e=e') :
  ZaQ X M b nx i d aa sl hp K e=ZaQ X M b' nx i d aa sl hp K e':=by
 subst hb;cases b
 ·simp[ZaQ,gW]
 ·rw[h rfl]
@[go_sem] theorem ZDv (nx i:Nat) (d:Option Nat) (aa:List CO) (sl:Sl) (hp:Hp) (K:Sl→Hp→Prop) (v:AV) :
  Zcm X M nx i d aa sl hp K (QD v)=ZeU X M nx (i+1) aa (Zt sl d v) hp K:=rfl
@[go_sem] theorem ZDV (nx i:Nat) (d:Option Nat) (aa:List CO) (sl:Sl) (hp:Hp) (K:Sl→Hp→Prop) (v:AV) :
  Zcm X M nx i d aa sl hp K (some { eff := { val:=v,adds:=[],sets:=[],dels:=[],frz:=[] },gone:=[] })=ZeU X M nx (i+1) aa (Zt sl d v) hp K:=rfl
@[go_sem] theorem ZDW (nx i:Nat) (d:Option Nat) (aa:List CO) (sl:Sl) (hp:Hp) (K:Sl→Hp→Prop) (e:Zf) :
  Zcm X M nx i d aa sl hp K (some e)=(Q5 (nx+64*i) (nx+64*i+64) e.eff.adds=true∧ZeU X M nx (i+1) aa (Zt (Xl e.gone sl) d e.eff.val) (e.eff.on (WN e.gone hp)) K):=by
 unfold Zcm YZ;rw[Zg];split<;>rename_i h
 ·simp only[Ug,h,true_and];rfl
 ·simp only[ZkR,h,false_and,Ka]
@[go_sem] theorem ZDX (nx i:Nat) (d:Option Nat) (aa:List CO) (sl:Sl) (hp:Hp) (K:Sl→Hp→Prop):Zcm X M nx i d aa sl hp K none=False:=rfl
@[go_sem] theorem stepW_ite (nx i:Nat) (d:Option Nat) (aa:List CO) (sl:Sl) (hp:Hp) (K:Sl→Hp→Prop) (c:Prop) [Decidable c] (a b:Option Zf) :
  Zcm X M nx i d aa sl hp K (if c then a else b)=((c→Zcm X M nx i d aa sl hp K a)∧(¬c→Zcm X M nx i d aa sl hp K b)):=by
 by_cases h:c<;>simp[h]
noncomputable def Wd (nx:Nat):Nat→Bool→List CO→Sl→Hp→(Sl→Hp→Prop)→Prop
 | _,_,[],sl,hp,K=>K sl hp
 | i,tail,o :: rest,sl,hp,K=>gW (Z6 sl o.guard)
   (stW (YZ (nx+64*i) o.dst sl hp (WQ (Zd X M) (Vf M) nx i (CO.starts o) o.op sl hp)) fun r=>Wd nx (i+1) tail rest r.1 r.2 K)
   (Wd nx (i+1) tail rest (Zt sl o.dst (.tup [])) hp K)
def U0 (nx i:Nat) (t:Bool) (d:Option Nat) (rest:List CO) (sl:Sl) (hp:Hp) (K:Sl→Hp→Prop) (e:Option Zf):Prop:=
 stW (YZ (nx+64*i) d sl hp (if t then e else ZdR e)) fun r=>Wd X M nx (i+1) false rest r.1 r.2 K
@[go_sem] theorem opsDW_nil (nx i:Nat) (t:Bool) (sl:Sl) (hp:Hp) (K:Sl→Hp→Prop):Wd X M nx i t [] sl hp K=K sl hp:=rfl
@[go_sem] theorem ZDY (nx i:Nat) (d:Option Nat) (tl:Bool) (op:COp) (aa:List CO) (sl:Sl) (hp:Hp) (K:Sl→Hp→Prop) :
  Wd X M nx i false (⟨d,none,op,tl⟩ :: aa) sl hp K=U0 X M nx i (ZiI op || tl) d aa sl hp K (vop (Zd X M) (Vf M) sl hp (nx+64*i) op):=by
 simp[Wd,U0,Z6,Zzg,WQ,CO.starts]
def WI (b:Bool) (nx i:Nat) (t:Bool) (d:Option Nat) (rest:List CO) (sl:Sl) (hp:Hp) (K:Sl→Hp→Prop) (e:Option Zf):Prop:=
 gW (some b) (U0 X M nx i t d rest sl hp K e) (Wd X M nx (i+1) false rest (Zt sl d (.tup [])) hp K)
def Zot (g:Option Bool) (nx i:Nat) (t:Bool) (d:Option Nat) (op:COp) (rest:List CO) (sl:Sl) (hp:Hp) (K:Sl→Hp→Prop):Prop:=
 gW g (U0 X M nx i t d rest sl hp K (vop (Zd X M) (Vf M) sl hp (nx+64*i) op)) (Wd X M nx (i+1) false rest (Zt sl d (.tup [])) hp K)
@[go_sem] theorem ZDw (nx i g:Nat) (w:Bool) (d:Option Nat) (tl:Bool) (op:COp) (aa:List CO) (sl:Sl) (hp:Hp) (K:Sl→Hp→Prop) :
  Wd X M nx i false (⟨d,some (g,w),op,tl⟩ :: aa) sl hp K=Zot X M (Zgx w (gs sl g)) nx i (ZiI op || tl) d op aa sl hp K:=rfl
@[go_sem] theorem ZCZ (b:Bool) (nx i:Nat) (t:Bool) (d:Option Nat) (op:COp) (aa:List CO) (sl:Sl) (hp:Hp) (K:Sl→Hp→Prop) :
  Zot X M (some b) nx i t d op aa sl hp K=WI X M b nx i t d aa sl hp K (vop (Zd X M) (Vf M) sl hp (nx+64*i) op):=rfl
@[go_sem] theorem gC (nx i:Nat) (t:Bool) (d:Option Nat) (aa:List CO) (sl:Sl) (hp:Hp) (K:Sl→Hp→Prop) (e:Option Zf) :
  WI X M true nx i t d aa sl hp K e=U0 X M nx i t d aa sl hp K e:=by simp[WI,gW]
@[go_sem] theorem gD (nx i:Nat) (t:Bool) (d:Option Nat) (aa:List CO) (sl:Sl) (hp:Hp) (K:Sl→Hp→Prop) (e:Option Zf) :
  WI X M false nx i t d aa sl hp K e=Wd X M nx (i+1) false aa (Zt sl d (.tup [])) hp K:=by simp[WI,gW]
@[go_sem] theorem ZsA (b:Bool) (nx i:Nat) (t:Bool) (d:Option Nat) (aa:List CO) (sl:Sl) (hp:Hp) (K:Sl→Hp→Prop) (v:AV) :
  WI X M b nx i t d aa sl hp K (QD v)=Wd X M nx (i+1) false aa (Zt sl d (ZiR b v)) hp K:=by
 cases b
 ·simp[WI,gW,ZiR]
 ·simp only[WI,gW,ZiR,Kk,true_implies,Kat,false_implies,and_true];cases t<;>rfl
@[go_sem] theorem ZC0 (b:Bool) (nx i:Nat) (t:Bool) (d:Option Nat) (aa:List CO) (sl:Sl) (hp:Hp) (K:Sl→Hp→Prop) (v:AV) :
  WI X M b nx i t d aa sl hp K (some { eff := { val:=v,adds:=[],sets:=[],dels:=[],frz:=[] },gone:=[] })=Wd X M nx (i+1) false aa (Zt sl d (ZiR b v)) hp K:=ZsA X M b nx i t d aa sl hp K v
@[congr] theorem ZCo {g g' : Option Bool} {nx i:Nat} {t t' : Bool} {d:Option Nat} {op:COp} {aa:List CO} {sl:Sl} {hp:Hp} {K:Sl→Hp→Prop} (h:g=g') (ht:t=t') :
  Zot X M g nx i t d op aa sl hp K=Zot X M g' nx i t' d op aa sl hp K:=by rw[h,ht]
@[congr] theorem ZCp {b b' : Bool} {nx i:Nat} {t:Bool} {d:Option Nat} {aa:List CO} {sl:Sl} {hp:Hp} {K:Sl→Hp→Prop} {e e' : Option Zf} (hb:b=b') (h:b'=true→e=e') :
  WI X M b nx i t d aa sl hp K e=WI X M b' nx i t d aa sl hp K e':=by
 subst hb;cases b
 ·simp[WI,gW]
 ·rw[h rfl]
@[go_sem] theorem ZC1 (nx i:Nat) (t:Bool) (d:Option Nat) (aa:List CO) (sl:Sl) (hp:Hp) (K:Sl→Hp→Prop) (v:AV) :
  U0 X M nx i t d aa sl hp K (QD v)=Wd X M nx (i+1) false aa (Zt sl d v) hp K:=by cases t<;>rfl
@[go_sem] theorem ZDx (nx i:Nat) (t:Bool) (d:Option Nat) (aa:List CO) (sl:Sl) (hp:Hp) (K:Sl→Hp→Prop) (v:AV) :
  U0 X M nx i t d aa sl hp K (some { eff := { val:=v,adds:=[],sets:=[],dels:=[],frz:=[] },gone:=[] })=Wd X M nx (i+1) false aa (Zt sl d v) hp K:=by cases t<;>rfl
@[go_sem] theorem ZDy (nx i:Nat) (t:Bool) (d:Option Nat) (aa:List CO) (sl:Sl) (hp:Hp) (K:Sl→Hp→Prop) (e:Zf) :
  U0 X M nx i t d aa sl hp K (some e)=((t=false→ZgB e e.gone e.eff.sets e.eff.dels e.eff.frz=some e)∧Q5 (nx+64*i) (nx+64*i+64) e.eff.adds=true∧Wd X M nx (i+1) false aa (Zt (Xl e.gone sl) d e.eff.val) (e.eff.on (WN e.gone hp)) K):=by
 have ab:stW (YZ (nx+64*i) d sl hp (some e)) (fun r=>Wd X M nx (i+1) false aa r.1 r.2 K)=(Q5 (nx+64*i) (nx+64*i+64) e.eff.adds=true∧Wd X M nx (i+1) false aa (Zt (Xl e.gone sl) d e.eff.val) (e.eff.on (WN e.gone hp)) K):=by
  unfold YZ;rw[Zg];split<;>rename_i h
  ·simp only[Ug,h,true_and];rfl
  ·simp only[ZkR,h,false_and,Ka]
 unfold U0;cases t with
 | true=>simp only[Kk];rw[ab];simp
 | false=>
  simp only[Ka,Kj,ZdR,Zg,true_implies];unfold ZgB;split
  ·rw[ab];simp
  ·simp[YZ,bnd,stW]
@[go_sem] theorem ZDz (nx i:Nat) (t:Bool) (d:Option Nat) (aa:List CO) (sl:Sl) (hp:Hp) (K:Sl→Hp→Prop):U0 X M nx i t d aa sl hp K none=False:=by cases t<;>rfl
@[go_sem] theorem ZDZ (nx i:Nat) (t:Bool) (d:Option Nat) (aa:List CO) (sl:Sl) (hp:Hp) (K:Sl→Hp→Prop) (c:Prop) [Decidable c] (a b:Option Zf) :
  U0 X M nx i t d aa sl hp K (if c then a else b)=((c→U0 X M nx i t d aa sl hp K a)∧(¬c→U0 X M nx i t d aa sl hp K b)):=by
 by_cases h:c<;>simp[h]
@[go_sem] theorem quietC_ok (c:Zf):ZgB c [] [] [] []=some c:=rfl
def W (c:Z0) (st:St) (Q:Ex→St→Prop):Prop:=stW (QQ X M c st) fun r=>Q r.1 r.2
@[congr] theorem W_congr {c:Z0} {st aa : St} {Q:Ex→St→Prop} (h:st=aa):W X M c st Q=W X M c aa Q:=by rw[h]
@[congr] theorem ZD0 {aa:List CO} {nx ab i i' : Nat} {sl sl' : Sl} {hp hp' : Hp} {K:Sl→Hp→Prop} (hn:nx=ab) (hi:i=i') (h:sl=sl') (h' : hp=hp') :
  ZeU X M nx i aa sl hp K=ZeU X M ab i' aa sl' hp' K:=by rw[h,h',hn,hi]
@[congr] theorem ZDA {aa:List CO} {nx ab i i' : Nat} {t t' : Bool} {sl sl' : Sl} {hp hp' : Hp} {K:Sl→Hp→Prop} (hn:nx=ab) (hi:i=i') (ht:t=t') (h:sl=sl') (h' : hp=hp') :
  Wd X M nx i t aa sl hp K=Wd X M ab i' t' aa sl' hp' K:=by rw[h,h',ht,hn,hi]
@[congr] theorem ZDB {aa:List CO} {nx i:Nat} {d:Option Nat} {sl:Sl} {hp:Hp} {K:Sl→Hp→Prop} {e e' : Option Zf} (h:e=e') :
  Zcm X M nx i d aa sl hp K e=Zcm X M nx i d aa sl hp K e':=by rw[h]
@[congr] theorem ZC2 {aa:List CO} {nx i:Nat} {t t' : Bool} {d:Option Nat} {sl:Sl} {hp:Hp} {K:Sl→Hp→Prop} {e e' : Option Zf} (ht:t=t') (h:e=e') :
  U0 X M nx i t d aa sl hp K e=U0 X M nx i t' d aa sl hp K e':=by rw[h,ht]
theorem ZC3 (nx:Nat) (K:Sl→Hp→Prop):∀ (l:List CO) (i:Nat) (sl:Sl) (hp:Hp),ZeU X M nx i l sl hp K=stW (ZhX (Zd X M) M nx i l sl hp) fun r=>K r.1 r.2:=by
 intro l
 induction l with
 | nil=>intro i sl hp;rfl
 | cons o rest ih=>
  intro i sl hp;simp only[ZeU,ZhX,ih,Zcy];cases Z6 sl o.guard with
  | none=>rfl
  | some b=>cases b<;>simp[gW,Zcy,Ug]
theorem ZBD (nx:Nat) (K:Sl→Hp→Prop):∀ (l:List CO) (i:Nat) (t:Bool) (sl:Sl) (hp:Hp),Wd X M nx i t l sl hp K=stW (Zbd (Zd X M) (Vf M) nx i t l sl hp) fun r=>K r.1 r.2:=by
 intro l
 induction l with
 | nil=>intro i t sl hp;rfl
 | cons o rest ih=>
  intro i t sl hp;simp only[Wd,Zbd,ih,Zcy];cases Z6 sl o.guard with
  | none=>rfl
  | some b=>cases b<;>simp[gW,Zcy,Ug]
def ZAn (m nx:Nat) (Q:Ex→St→Prop) (sl:Sl) (hp:Hp):Prop:=Q .normal { sl:=sl,hp:=hp,nx:=nx,m:=m }
def ZwF (ops:List CO) (ps:List (Nat×Nat)) (K:Sl→Hp→Prop) (sl:Sl) (hp:Hp):Prop:=JG ops sl ps=true∧K sl hp
@[go_sem] theorem regQ_eq (m nx:Nat) (Q:Ex→St→Prop) (sl:Sl) (hp:Hp):ZAn m nx Q sl hp=Q .normal { sl:=sl,hp:=hp,nx:=nx,m:=m }:=rfl
@[go_sem] theorem seenQ_eq (ops:List CO) (ps:List (Nat×Nat)) (K:Sl→Hp→Prop) (sl:Sl) (hp:Hp):ZwF ops ps K sl hp=(JG ops sl ps=true∧K sl hp):=rfl
@[go_sem] theorem W_skip (st:St) (Q:Ex→St→Prop):W X M .skip st Q=Q .normal st:=by simp[W,Zyx,Ug]
@[go_sem] theorem W_ret (st:St) (Q:Ex→St→Prop):W X M .ret st Q=Q .ret st:=by simp[W,ZAK,Ug]
@[go_sem] theorem W_exit (id:Nat) (st:St) (Q:Ex→St→Prop):W X M (.exit id) st Q=Q (.exit id) st:=by simp[W,Zyy,Ug]
@[go_sem] theorem W_stuck (st:St) (Q:Ex→St→Prop):W X M .stuck st Q=False:=by
 have h:QQ X M .stuck st=none:=VG fun n=>by simp only[ZP]
 simp only[W,h,ZkR]
@[go_sem] theorem W_region (n:Nat) (ops:List CO) (st:St) (Q:Ex→St→Prop) :
  W X M (.region n none ops) st Q=ZeU X M st.nx 0 ops st.sl st.hp (ZAn st.m (st.nx+64*n) Q):=by
 rw[ZC3,W,Zvi,Zol,Zcy];rfl
theorem ZBE (n:Nat) (ps:List (Nat×Nat)) (ops:List CO) (st:St) (Q:Ex→St→Prop) :
  W X M (.region n (some ps) ops) st Q=Wd X M st.nx 0 false ops st.sl st.hp (ZwF ops ps (ZAn st.m (st.nx+64*n) Q)):=by
 rw[ZBD,W,Zyz,Zol,Zcy,ZtE,Zcy];congr 1
 funext r
 by_cases h:JG ops r.1 ps=true<;>simp[h,ZwF,Ug,ZkR,ZAn]
@[go_sem] theorem W_draw0 (n:Nat) (ops:List CO) (st:St) (Q:Ex→St→Prop) :
  W X M (.region n (some []) ops) st Q=Wd X M st.nx 0 false ops st.sl st.hp (ZAn st.m (st.nx+64*n) Q):=by
 rw[ZBE];congr 1
 funext sl hp
 simp[ZwF,JG]
@[go_sem] theorem W_drawc (n:Nat) (p:Nat×Nat) (ps:List (Nat×Nat)) (ops:List CO) (st:St) (Q:Ex→St→Prop) :
  W X M (.region n (some (p :: ps)) ops) st Q=Wd X M st.nx 0 false ops st.sl st.hp (ZwF ops (p :: ps) (ZAn st.m (st.nx+64*n) Q)):=ZBE X M n _ ops st Q
def Zzh (c:Z0) (Q:Ex→St→Prop):Ex→St→Prop
 | .normal,st=>W X M c st Q
 | e,st=>Q e st
def blkQ (id:Nat) (Q:Ex→St→Prop):Ex→St→Prop
 | .exit j,st=>if j=id then Q .normal st else Q (.exit j) st
 | e,st=>Q e st
@[go_sem] theorem ZC4 (c:Z0) (Q:Ex→St→Prop) (st:St):Zzh X M c Q .normal st=W X M c st Q:=rfl
@[go_sem] theorem thenQ_ret (c:Z0) (Q:Ex→St→Prop) (st:St):Zzh X M c Q .ret st=Q .ret st:=rfl
@[go_sem] theorem ZD1 (c:Z0) (Q:Ex→St→Prop) (id:Nat) (st:St):Zzh X M c Q (.exit id) st=Q (.exit id) st:=rfl
@[go_sem] theorem ZDC (id:Nat) (Q:Ex→St→Prop) (st:St):blkQ id Q .normal st=Q .normal st:=rfl
@[go_sem] theorem blkQ_ret (id:Nat) (Q:Ex→St→Prop) (st:St):blkQ id Q .ret st=Q .ret st:=rfl
@[go_sem] theorem blkQ_exit (id j:Nat) (Q:Ex→St→Prop) (st:St):blkQ id Q (.exit j) st=if j=id then Q .normal st else Q (.exit j) st:=rfl
@[go_sem] theorem W_seq (a b:Z0) (st:St) (Q:Ex→St→Prop):W X M (.seq a b) st Q=W X M a st (Zzh X M b Q):=by
 unfold W;rw[ZAL];cases h:QQ X M a st with
 | none=>rfl
 | some r=>obtain⟨e,aa⟩:=r;cases e<;>rfl
@[go_sem] theorem W_cond (c:Opd) (a b:Z0) (st:St) (Q:Ex→St→Prop) :
  W X M (.cond c a b) st Q=UV (evO st.sl c) (W X M a st Q) (W X M b st Q):=by
 unfold W;rw[ZyA];cases h:evO st.sl c with
 | d x=>cases x with
  | bool t=>cases t<;>simp[Zjn,UV]
  | _=>rfl
 | _=>rfl
@[go_sem] theorem W_block (id:Nat) (c:Z0) (st:St) (Q:Ex→St→Prop):W X M (.block id c) st Q=W X M c st (blkQ id Q):=by
 unfold W;rw[Zw1];cases h:QQ X M c st with
 | none=>rfl
 | some r=>
  obtain⟨e,aa⟩:=r;cases e with
  | exit j=>by_cases hj:j=id<;>simp[Zh0,hj,Ug,blkQ]
  | normal=>rfl
  | ret=>rfl
def keepQ (K:List Nat) (Q:Ex→St→Prop) (e:Ex) (st:St):Prop:=Q e { sl:=only K st.sl,hp:=st.hp,nx:=st.nx,m:=st.m }
@[go_sem] theorem keepQ_eq (K:List Nat) (Q:Ex→St→Prop) (e:Ex) (st:St):keepQ K Q e st=Q e { sl:=only K st.sl,hp:=st.hp,nx:=st.nx,m:=st.m }:=rfl
@[go_sem] theorem W_keep (K:List Nat) (c:Z0) (st:St) (Q:Ex→St→Prop):W X M (.keep K c) st Q=W X M c st (keepQ K Q):=by
 unfold W;rw[ZyB];cases h:QQ X M c st with
 | none=>rfl
 | some r=>rfl
def shutQ (id nm:Nat) (Q:Ex→St→Prop) (e:Ex) (st:St):Prop:=Q e { sl:=st.sl,hp:=ZAI st.hp (Zna st.hp id nm (lkp st.hp id)),nx:=st.nx,m:=st.m }
@[go_sem] theorem shutQ_eq (id nm:Nat) (Q:Ex→St→Prop) (e:Ex) (st:St):shutQ id nm Q e st=Q e { sl:=st.sl,hp:=ZAI st.hp (Zna st.hp id nm (lkp st.hp id)),nx:=st.nx,m:=st.m }:=rfl
def ZqC (c:Z0) (Q:Ex→St→Prop) (r:Option St):Prop:=stW r fun st=>W X M c st Q
@[go_sem] theorem ZD2 (c:Z0) (Q:Ex→St→Prop) (st:St):ZqC X M c Q (some st)=W X M c st Q:=rfl
@[go_sem] theorem ZD3 (c:Z0) (Q:Ex→St→Prop):ZqC X M c Q none=False:=rfl
@[go_sem] theorem linkW_ite (c:Z0) (Q:Ex→St→Prop) (p:Prop) [Decidable p] (a b:Option St):ZqC X M c Q (if p then a else b)=((p→ZqC X M c Q a)∧(¬p→ZqC X M c Q b)):=by
 by_cases h:p<;>simp[h]
@[go_sem] theorem W_link (fl:Bool) (id:Nat) (i:Opd) (j:Nat) (c:Z0) (st:St) (Q:Ex→St→Prop):W X M (.link fl id i j c) st Q=ZqC X M c (shutQ id st.nx Q) (ZgC fl id i j st):=by
 unfold W ZqC;rw[ZyC];cases h:ZgC fl id i j st with
 | none=>rfl
 | some st1=>
  simp only[Zg,Ug,W];cases h1:QQ X M c st1 with
  | none=>rfl
  | some q=>rfl
@[go_sem] theorem W_melt (c:Z0) (st:St) (Q:Ex→St→Prop):W X M (.melt c) st Q=W X M c { sl:=st.sl,hp:=ZlX Zk2 st.hp,nx:=st.nx,m:=st.m } Q:=by
 unfold W;rw[ZyD];rfl
def LW (c:Z0) (K:List Nat) (st:St) (Q:Ex→St→Prop):Prop:=stW (Zh2 X M c K st) fun r=>Q r.1 r.2
@[congr] theorem LW_congr {c:Z0} {K K' : List Nat} {st aa : St} {Q:Ex→St→Prop} (hk:K=K') (h:st=aa):LW X M c K st Q=LW X M c K' aa Q:=by rw[h,hk]
@[go_sem] theorem W_loop (c:Z0) (st:St) (Q:Ex→St→Prop):W X M (.loop c) st Q=LW X M c (Zci st.sl) st Q:=by
 unfold W LW;rw[ZyE]
def ZqD (c:Z0) (K:List Nat) (Q:Ex→St→Prop):Ex→St→Prop
 | .normal,st=>LW X M c K st Q
 | e,st=>Q e st
@[go_sem] theorem ZC5 (c:Z0) (K:List Nat) (Q:Ex→St→Prop) (st:St):ZqD X M c K Q .normal st=LW X M c K st Q:=rfl
@[go_sem] theorem nextQ_ret (c:Z0) (K:List Nat) (Q:Ex→St→Prop) (st:St):ZqD X M c K Q .ret st=Q .ret st:=rfl
@[go_sem] theorem ZD4 (c:Z0) (K:List Nat) (Q:Ex→St→Prop) (id:Nat) (st:St):ZqD X M c K Q (.exit id) st=Q (.exit id) st:=rfl
theorem ZN {c:Z0} {K:List Nat} {st:St} {Q:Ex→St→Prop} (h:W X M c (J2 K st) (ZqD X M c K Q)):LW X M c K st Q:=by
 unfold W at h;cases hv:QQ X M c (J2 K st) with
 | none=>rw[hv] at h;exact h.elim
 | some r=>
  rw[hv] at h;obtain⟨e,aa⟩:=r;unfold LW;cases e with
  | normal=>rw[Zw2 X M hv];exact h
  | exit id=>rw[Zrc X M (by simp) hv];exact h
  | ret=>rw[Zrc X M (by simp) hv];exact h
def ZsB (sl:Sl):Sl→Sl
 | []=>sl
 | (k,v) :: r=>ZsB (ins sl k v) r
def Zjj (hp:Hp):Hp→Hp
 | []=>hp
 | (k,o) :: r=>Zjj (ins hp k o) r
theorem LW_ind {α:Type} (S:α→St) (I:α→Prop) (μ:α→Nat) {c:Z0} {K:List Nat} {Q:Ex→St→Prop}
  (step:∀ a,I a→(∀ b st,I b→μ b<μ a→J2 K st=S b→LW X M c K st Q)→W X M c (S a) (ZqD X M c K Q)) :
  ∀ a st,I a→J2 K st=S a→LW X M c K st Q:=by
 have aa:∀ n a st,μ a=n→I a→J2 K st=S a→LW X M c K st Q:=by
  intro n
  induction n using Nat.strongRecOn with
  | ind n ih=>
   intro a st hn ha hs;refine ZN X M ?_;rw[hs];exact step a ha fun b ab hb ae ad=>ih (μ b) (by omega) b ab rfl hb ad
 exact fun a st ha hs=>aa _ a st rfl ha hs
theorem XP {α:Type} (u:α→Sl) (uh:α→Hp) (I:α→Prop) (μ:α→Nat) (a:α) {c:Z0} {K:List Nat} {Q:Ex→St→Prop} {st st0:St}
  (hc:J2 K st=st0) (ha:I a) (h0:(⟨ZsB st0.sl (u a),Zjj st0.hp (uh a),st0.nx,st0.m⟩:St)=st0)
  (step:∀ a,I a→(∀ b st,I b→μ b<μ a→J2 K st=⟨ZsB st0.sl (u b),Zjj st0.hp (uh b),st0.nx,st0.m⟩→LW X M c K st Q)→W X M c ⟨ZsB st0.sl (u a),Zjj st0.hp (uh a),st0.nx,st0.m⟩ (ZqD X M c K Q)) :
  LW X M c K st Q:=
 LW_ind X M (fun a=>⟨ZsB st0.sl (u a),Zjj st0.hp (uh a),st0.nx,st0.m⟩) I μ step a st ha (hc.trans h0.symm)
def ZuY (m:Nat) (rs:List ZsE) (R:AV×List Zn→Prop):Ex→St→Prop:=fun e st=>stW (Ze3 m rs (some (e,st))) R
def resW (m:Nat) (hp:Hp) (R:AV×List Zn→Prop) (vs:Option (List AV)):Prop:=stW vs fun vs=>R (Un m hp (ZdS vs))
@[go_sem] theorem resW_some (m:Nat) (hp:Hp) (R:AV×List Zn→Prop) (vs:List AV):resW m hp R (some vs)=R (Un m hp (ZdS vs)):=rfl
@[go_sem] theorem resW_none (m:Nat) (hp:Hp) (R:AV×List Zn→Prop):resW m hp R none=False:=rfl
@[go_sem] theorem endQ_ret (m:Nat) (rs:List ZsE) (R:AV×List Zn→Prop) (st:St):ZuY m rs R .ret st=resW m st.hp R (QH (Zra st) rs):=by
 simp only[ZuY,Ze3,Zcy];rfl
@[go_sem] theorem ZDD (m:Nat) (rs:List ZsE) (R:AV×List Zn→Prop) (st:St):ZuY m rs R .normal st=resW m st.hp R (QH (Zra st) rs):=by
 simp only[ZuY,Ze3,Zcy];rfl
theorem ZBF {f:Nat} {as:List AV} {h:List Zn} (fn:Zq) {R:AV×List Zn→Prop} (hx:X f=some (.text fn)) (hl:as.length≤fn.nt)
  (hr:W X M fn.body { sl:=WO 0 as,hp:=Um 0 h,nx:=h.length,m:=h.length } (ZuY h.length fn.res R)):∃ r,Zd X M f as h=some r∧R r:=by
 unfold W at hr;cases hv:QQ X M fn.body { sl:=WO 0 as,hp:=Um 0 h,nx:=h.length,m:=h.length } with
 | none=>rw[hv] at hr;exact hr.elim
 | some q=>
  rw[hv] at hr;obtain⟨e,st⟩:=q;simp only[Ug,ZuY] at hr;cases hk:Ze3 h.length fn.res (some (e,st)) with
  | none=>rw[hk] at hr;exact hr.elim
  | some r=>rw[hk] at hr;exact⟨r,ZBV X M hx hl (by rw[hv];exact hk),hr⟩
theorem callE {f:Nat} {as:List AV} {h:List Zn} (fn:Zq) {r:AV×List Zn} (hx:X f=some (.text fn)) (hl:as.length≤fn.nt)
  (hr:W X M fn.body { sl:=WO 0 as,hp:=Um 0 h,nx:=h.length,m:=h.length } (ZuY h.length fn.res fun q=>q=r)):Zd X M f as h=some r:=by
 obtain⟨q,hq,rfl⟩:=ZBF X M fn hx hl hr;exact hq
end
@[go_sem] theorem vopE_move (C:Orc) (M:Zp) (sl:Sl) (hp:Hp) (base:Nat) (x:Opd):vop C M sl hp base (.move x)=QD (evO sl x):=by simp only[vop]
@[go_sem] theorem ZDE (C:Orc) (M:Zp) (sl:Sl) (hp:Hp) (base:Nat) (s:Option Nat) (x:Opd):vop C M sl hp base (.assign s x)=Zgr base s (evO sl x):=by simp only[vop]
@[go_sem] theorem vopE_pick (C:Orc) (M:Zp) (sl:Sl) (hp:Hp) (base:Nat) (c a b:Opd):vop C M sl hp base (.pick c a b)=ZhS (evO sl a) (evO sl b) (evO sl c):=by simp only[vop]
@[go_sem] theorem ZD5 (C:Orc) (M:Zp) (sl:Sl) (hp:Hp) (base:Nat) (slc:List (Option Nat)) (cs:List AV):vop C M sl hp base (.alloc slc cs)=ZhT slc base cs:=by simp only[vop]
@[go_sem] theorem vopE_box (C:Orc) (M:Zp) (sl:Sl) (hp:Hp) (base:Nat) (x:Opd):vop C M sl hp base (.box x)=ZAy base (evO sl x):=by simp only[vop]
@[go_sem] theorem ZD6 (C:Orc) (M:Zp) (sl:Sl) (hp:Hp) (base:Nat) (zs:List AV) (ps:List (Nat×Nat×Opd)):vop C M sl hp base (.build zs ps)=ZqM zs (evP sl ps):=by simp only[vop]
@[go_sem] theorem ZC6 (C:Orc) (M:Zp) (sl:Sl) (hp:Hp) (base:Nat) (s:Nat) (xs:List Opd):vop C M sl hp base (.buildSl s xs)=buildSl hp base s (evL sl xs):=by simp only[vop]
@[go_sem] theorem vopE_load (C:Orc) (M:Zp) (sl:Sl) (hp:Hp) (base:Nat) (g:Bool) (s:Nat) (a:Opd):vop C M sl hp base (.load g s a)=WP (Jr hp g s (evO sl a)):=by simp only[vop]
@[go_sem] theorem ZD7 (C:Orc) (M:Zp) (sl:Sl) (hp:Hp) (base:Nat) (slc:List (Option Nat)) (s:Nat) (a x:Opd):vop C M sl hp base (.store slc s a x)=Zg0 (Zcf hp slc s base (evO sl x).cells (evO sl a)):=by simp only[vop]
@[go_sem] theorem ZCq (C:Orc) (M:Zp) (sl:Sl) (hp:Hp) (base:Nat) (x:Opd):vop C M sl hp base (.nilCheck x)=Zbt (evO sl x):=by simp only[vop]
@[go_sem] theorem vopE_bin (C:Orc) (M:Zp) (sl:Sl) (hp:Hp) (base:Nat) (op:BinOp) (eq:Bool) (x y:Opd):vop C M sl hp base (.bin op eq x y)=ZjT op eq (evO sl x) (evO sl y):=by simp only[vop]
@[go_sem] theorem vopE_un (C:Orc) (M:Zp) (sl:Sl) (hp:Hp) (base:Nat) (op:UnOp) (x:Opd):vop C M sl hp base (.un op x)=WP (vun op (evO sl x)):=by simp only[vop]
@[go_sem] theorem vopE_eqA (C:Orc) (M:Zp) (sl:Sl) (hp:Hp) (base:Nat) (neg:Bool) (ks:List Nat) (x y:Opd):vop C M sl hp base (.eqA neg ks x y)=Zu3 neg ks (evO sl x) (evO sl y):=by simp only[vop]
@[go_sem] theorem ZD8 (C:Orc) (M:Zp) (sl:Sl) (hp:Hp) (base:Nat) (k:IntKind) (x:Opd):vop C M sl hp base (.convI k x)=convI k (evO sl x):=by simp only[vop]
@[go_sem] theorem ZD9 (C:Orc) (M:Zp) (sl:Sl) (hp:Hp) (base:Nat) (x:Opd):vop C M sl hp base (.convS x)=convS (evO sl x):=by simp only[vop]
@[go_sem] theorem vopE_fn (C:Orc) (M:Zp) (sl:Sl) (hp:Hp) (base:Nat) (f:Nat) (cs:List Opd):vop C M sl hp base (.fn f cs)=WP (cloV f (evL sl cs)):=by simp only[vop]
@[go_sem] theorem vopE_make (C:Orc) (M:Zp) (sl:Sl) (hp:Hp) (base:Nat) (s b:Nat) (z:D) (l c:Opd):vop C M sl hp base (.make s b z l c)=bnd (idx (evO sl l)) fun l=>bnd (idx (evO sl c)) fun c=>ZtA base s b z l c:=by simp only[vop]
@[go_sem] theorem ZEa (C:Orc) (M:Zp) (sl:Sl) (hp:Hp) (base:Nat) (s:Nat) (x:Opd) (lo hi:Option Opd):vop C M sl hp base (.slice s x lo hi)=WP (WC hp s (evM sl lo) (evM sl hi) (evO sl x)):=by simp only[vop]
@[go_sem] theorem ZDF (C:Orc) (M:Zp) (sl:Sl) (hp:Hp) (base:Nat) (x:Opd) (lo hi:Option Opd):vop C M sl hp base (.sliceS x lo hi)=WP (sliceS (evM sl lo) (evM sl hi) (evO sl x)):=by simp only[vop]
@[go_sem] theorem ZDG (C:Orc) (M:Zp) (sl:Sl) (hp:Hp) (base:Nat) (x hi mx:Opd):vop C M sl hp base (.slice0 x hi mx)=WP (slice0 hp (evO sl x) (idx (evO sl hi)) (idx (evO sl mx))):=by simp only[vop]
@[go_sem] theorem ZEb (C:Orc) (M:Zp) (sl:Sl) (hp:Hp) (base:Nat) (off:Nat) (x:Opd):vop C M sl hp base (.shift off x)=Uk off (evO sl x):=by simp only[vop]
@[go_sem] theorem vopE_part (C:Orc) (M:Zp) (sl:Sl) (hp:Hp) (base:Nat) (g:Bool) (s off:Nat) (x:Opd):vop C M sl hp base (.part g s off x)=WP (Zk1 g s off (evO sl x)):=by simp only[vop]
@[go_sem] theorem vopE_iaS (C:Orc) (M:Zp) (sl:Sl) (hp:Hp) (base:Nat) (s:Nat) (x i:Opd):vop C M sl hp base (.iaS s x i)=bnd (idx (evO sl i)) fun n=>Zjm hp s (evO sl x) n:=by simp only[vop]
@[go_sem] theorem vopE_iaA (C:Orc) (M:Zp) (sl:Sl) (hp:Hp) (base:Nat) (len s:Nat) (x i:Opd):vop C M sl hp base (.iaA len s x i)=bnd (idx (evO sl i)) fun n=>ZqO (evO sl x) n len s:=by simp only[vop]
@[go_sem] theorem vopE_ixS (C:Orc) (M:Zp) (sl:Sl) (hp:Hp) (base:Nat) (x i:Opd):vop C M sl hp base (.ixS x i)=bnd (idx (evO sl i)) fun n=>Zyg n (evO sl x):=by simp only[vop]
@[go_sem] theorem vopE_ixA (C:Orc) (M:Zp) (sl:Sl) (hp:Hp) (base:Nat) (g:Bool) (s len:Nat) (x i:Opd):vop C M sl hp base (.ixA g s len x i)=bnd (idx (evO sl i)) fun n=>ZAA g s len n (evO sl x):=by simp only[vop]
@[go_sem] theorem vopE_nth (C:Orc) (M:Zp) (sl:Sl) (hp:Hp) (base:Nat) (i:Nat) (x:Opd):vop C M sl hp base (.nth i x)=ZwR i (evO sl x):=by simp only[vop]
@[go_sem] theorem vopE_len (C:Orc) (M:Zp) (sl:Sl) (hp:Hp) (base:Nat) (x:Opd):vop C M sl hp base (.len x)=bnd (ZeT hp (evO sl x)) fun n=>QD (.d (.int .i64 n)):=by simp only[vop]
@[go_sem] theorem vopE_lenS (C:Orc) (M:Zp) (sl:Sl) (hp:Hp) (base:Nat) (x:Opd):vop C M sl hp base (.lenS x)=bnd (ZzX (evO sl x)) fun n=>QD (.d (.int .i64 n)):=by simp only[vop]
@[go_sem] theorem ZDH (C:Orc) (M:Zp) (sl:Sl) (hp:Hp) (base:Nat) (s b:Nat) (str flat:Bool) (x y:Opd):vop C M sl hp base (.append s b str flat x y)=ZwS hp s b str flat base (evO sl x) (evO sl y):=by simp only[vop]
@[go_sem] theorem vopE_min (C:Orc) (M:Zp) (sl:Sl) (hp:Hp) (base:Nat) (x y:Opd):vop C M sl hp base (.min x y)=Zm5 (evO sl x) (evO sl y):=by simp only[vop]
@[go_sem] theorem vopE_max (C:Orc) (M:Zp) (sl:Sl) (hp:Hp) (base:Nat) (x y:Opd):vop C M sl hp base (.max x y)=Zm6 (evO sl x) (evO sl y):=by simp only[vop]
@[go_sem] theorem vopE_call (C:Orc) (M:Zp) (sl:Sl) (hp:Hp) (base:Nat) (f:Opd) (as:List Opd):vop C M sl hp base (.call f as)=ZeY C M hp base (evL sl as) (evO sl f):=by simp only[vop]
@[go_sem] theorem ZDI (C:Orc) (M:Zp) (sl:Sl) (hp:Hp) (base:Nat) (s:Nat) (x lo hi mx:Opd):vop C M sl hp base (.slice3 s x lo hi mx)=WP (slice3 hp (evO sl x) (idx (evO sl lo)) (idx (evO sl hi)) (idx (evO sl mx))):=by simp only[vop]
@[go_sem] theorem ZEc (C:Orc) (M:Zp) (sl:Sl) (hp:Hp) (base:Nat) (s:Nat) (z:D) (x:Opd):vop C M sl hp base (.clear s z x)=Zg0 (Zgn hp s z (evO sl x)):=by simp only[vop]
@[go_sem] theorem ZDJ (C:Orc) (M:Zp) (sl:Sl) (hp:Hp) (base:Nat) (s n:Nat) (xs:List Opd):vop C M sl hp base (.buildT s n xs)=buildT hp base s n (evL sl xs):=by simp only[vop]
@[go_sem] theorem vopE_appT (C:Orc) (M:Zp) (sl:Sl) (hp:Hp) (base:Nat) (s b:Nat) (f:Bool) (x y:Opd):vop C M sl hp base (.appT s b f x y)=appT hp s b base (evO sl x) (evO sl y):=by simp only[vop]
@[go_sem] theorem vopE_asgT (C:Orc) (M:Zp) (sl:Sl) (hp:Hp) (base:Nat) (s n:Nat) (x:Opd):vop C M sl hp base (.asgT s n x)=asgT base s n (evO sl x):=by simp only[vop]
@[go_sem] theorem ZEd (C:Orc) (M:Zp) (sl:Sl) (hp:Hp) (base:Nat) (s b n:Nat) (z:D) (l c:Opd):vop C M sl hp base (.makeT s b n z l c)=bnd (idx (evO sl l)) fun l=>bnd (idx (evO sl c)) fun c=>makeT base s b n z l c:=by simp only[vop]
@[go_sem] theorem ZEe (C:Orc) (M:Zp) (sl:Sl) (hp:Hp) (base:Nat):vop C M sl hp base .stuck=none:=by simp only[vop]
@[go_sem] theorem ZAo (hp:Hp) (n:Nat) (aa:List Nat):Xb hp n [] aa=aa:=by cases n<;>rfl
@[go_sem] theorem tidy_d (hp:Hp) (ids:List Nat) (x:D):Zfu hp ids (.d x)=.d x:=rfl
@[go_sem] theorem tidy_nil (hp:Hp) (ids:List Nat):Zfu hp ids .nil=.nil:=rfl
@[go_sem] theorem tidy_junk (hp:Hp) (ids:List Nat):Zfu hp ids .junk=.junk:=rfl
@[go_sem] theorem tidy_tup (hp:Hp) (ids:List Nat) (vs:List AV):Zfu hp ids (.tup vs)=ren (WK ids) (kill (ZhY hp ids (Zy (.tup vs))) (.tup vs)):=rfl
@[go_sem] theorem tidy_agg (hp:Hp) (ids:List Nat) (vs:List AV):Zfu hp ids (.agg vs)=ren (WK ids) (kill (ZhY hp ids (Zy (.agg vs))) (.agg vs)):=rfl
@[go_sem] theorem tidy_clo (hp:Hp) (ids:List Nat) (f:Nat) (vs:List AV):Zfu hp ids (.clo f vs)=ren (WK ids) (kill (ZhY hp ids (Zy (.clo f vs))) (.clo f vs)):=rfl
@[go_sem] theorem tidy_nilp (hp:Hp) (ids:List Nat):Zfu hp ids .nilp=.nilp:=rfl
@[go_sem] theorem tidy_nili (hp:Hp) (ids:List Nat):Zfu hp ids .nili=.nili:=rfl
@[go_sem] theorem tidy_pim (hp:Hp) (ids:List Nat) (cs:List D):Zfu hp ids (.pim cs)=.pim cs:=rfl
@[go_sem] theorem tidy_ptr (hp:Hp) (ids:List Nat) (id o:Nat):Zfu hp ids (.ptr id o)=if Ze2 hp ids id=true then .ptr (WK ids id) o else .junk:=by
 simp only[Zfu,Zy,ZA,Zo,ZhY];split<;>simp[kill,ZW,Qh,ren,ZeS,Zgd]
@[go_sem] theorem tidy_prow (hp:Hp) (ids:List Nat) (id s i o:Nat):Zfu hp ids (.prow id s i o)=if Ze2 hp ids id=true then .prow (WK ids id) s i o else .junk:=by
 simp only[Zfu,Zy,ZA,Zo,ZhY];split<;>simp[kill,ZW,Qh,ren,ZeS,Zgd]
@[go_sem] theorem tidy_own (hp:Hp) (ids:List Nat) (id:Nat):Zfu hp ids (.own id)=if Ze2 hp ids id=true then .own (WK ids id) else .junk:=by
 simp only[Zfu,Zy,ZA,Zo,ZhY];split<;>simp[kill,ZW,Qh,ren,ZeS,Zgd]
@[go_sem] theorem tidy_ownv (hp:Hp) (ids:List Nat) (id a b:Nat):Zfu hp ids (.ownv id a b)=if Ze2 hp ids id=true then .ownv (WK ids id) a b else .junk:=by
 simp only[Zfu,Zy,ZA,Zo,ZhY];split<;>simp[kill,ZW,Qh,ren,ZeS,Zgd]
@[go_sem] theorem ZEf (hp:Hp) (x:D):Un 0 hp (.d x)=(.d x,[]):=by
 simp[Un,Zy,ZA,Zo,UQ,ZAo,tidy_d,ZeV]
@[go_sem] theorem minI_eq (a b:Int):minI a b=min a b:=by unfold minI;split<;>omega
@[go_sem] theorem maxI_eq (a b:Int):maxI a b=max a b:=by unfold maxI;split<;>omega
@[go_sem] theorem negIf_f (r:Bool):ZqN false r=r:=rfl
@[go_sem] theorem negIf_t (r:Bool):ZqN true r=!r:=rfl
@[go_sem] theorem opt1_some (v:AV):WP (some v)=QD v:=rfl
@[go_sem] theorem opt1_none:WP none=none:=rfl
@[go_sem] theorem vbin_int (op:BinOp) (k k' : IntKind) (a b:Int):vbin op (.d (.int k a)) (.d (.int k' b))=ZaM op k k' a b:=rfl
@[go_sem] theorem binV_int (op:BinOp) (eq:Bool) (k k' : IntKind) (a b:Int):ZjT op eq (.d (.int k a)) (.d (.int k' b))=WP (ZaM op k k' a b):=rfl
@[go_sem] theorem binV_str (op:BinOp) (eq:Bool) (a b:List UInt8):ZjT op eq (.d (.str a)) (.d (.str b))=WP (asD (Zwb op a b)):=rfl
@[go_sem] theorem int2_add (k:IntKind) (a b:Int):ZaM .add k k a b=some (.d (.int k (k.wrap (a+b)))):=by simp[ZaM,Jp,asD,Zg]
@[go_sem] theorem int2_sub (k:IntKind) (a b:Int):ZaM .sub k k a b=some (.d (.int k (k.wrap (a-b)))):=by simp[ZaM,Jp,asD,Zg]
@[go_sem] theorem int2_mul (k:IntKind) (a b:Int):ZaM .mul k k a b=some (.d (.int k (k.wrap (a*b)))):=by simp[ZaM,Jp,asD,Zg]
@[go_sem] theorem int2_quo (k:IntKind) (a b:Int):ZaM .quo k k a b=if b=0 then none else some (.d (.int k (k.wrap (a.tdiv b)))):=by simp only[ZaM,Jp,asD,if_true];split<;>rfl
@[go_sem] theorem int2_rem (k:IntKind) (a b:Int):ZaM .rem k k a b=if b=0 then none else some (.d (.int k (a.tmod b))):=by simp only[ZaM,Jp,asD,if_true];split<;>rfl
@[go_sem] theorem int2_eql (k:IntKind) (a b:Int):ZaM .eql k k a b=some (.d (.bool (decide (a=b)))):=by simp[ZaM,Jp,asD,Zg,BEq.beq]
@[go_sem] theorem int2_neq (k:IntKind) (a b:Int):ZaM .neq k k a b=some (.d (.bool (!decide (a=b)))):=by simp[ZaM,Jp,asD,Zg,bne,BEq.beq]
@[go_sem] theorem int2_lss (k:IntKind) (a b:Int):ZaM .lss k k a b=some (.d (.bool (decide (a<b)))):=by simp[ZaM,Jp,asD,Zg]
@[go_sem] theorem int2_leq (k:IntKind) (a b:Int):ZaM .leq k k a b=some (.d (.bool (decide (a≤b)))):=by simp[ZaM,Jp,asD,Zg]
@[go_sem] theorem int2_gtr (k:IntKind) (a b:Int):ZaM .gtr k k a b=some (.d (.bool (decide (b<a)))):=by simp[ZaM,Jp,asD,Zg]
@[go_sem] theorem int2_geq (k:IntKind) (a b:Int):ZaM .geq k k a b=some (.d (.bool (decide (b≤a)))):=by simp[ZaM,Jp,asD,Zg]
@[go_sem] theorem guardV_t (b:Bool):Zgx true (.d (.bool b))=some b:=by cases b<;>rfl
def nb (b:Bool):Bool:=!b
@[go_sem] theorem nb_true:nb true=false:=rfl
@[go_sem] theorem nb_false:nb false=true:=rfl
@[go_sem] theorem nb_eq (b:Bool):(nb b=true)=(b=false):=by cases b<;>simp[nb]
@[go_sem] theorem guardV_f (b:Bool):Zgx false (.d (.bool b))=some (nb b):=by cases b<;>rfl
@[go_sem] theorem ZEg (w:Bool):Zgx w (.tup [])=some false:=rfl
@[go_sem] theorem ZC7 (a b:Bool):Zgx true (ZiR a (.d (.bool b)))=some (a&&b):=by cases a<;>cases b<;>rfl
@[go_sem] theorem ZC8 (a b:Bool):Zgx false (ZiR a (.d (.bool b)))=some (a&&nb b):=by cases a<;>cases b<;>rfl
@[go_sem] theorem iteV_true (v:AV):ZiR true v=v:=rfl
@[go_sem] theorem ZEh (v:AV):ZiR false v=.tup []:=rfl
@[go_sem] theorem ZEi (a b:AV):ZhS a b (.d (.bool true))=QD a:=rfl
@[go_sem] theorem ZDK (a b:AV):ZhS a b (.d (.bool false))=QD b:=rfl
@[go_sem] theorem pickV_or (b c:Bool):ZhS (.d (.bool true)) (ZiR (nb b) (.d (.bool c))) (.d (.bool b))=QD (.d (.bool (b || c))):=by cases b<;>rfl
@[go_sem] theorem pickV_and (b c:Bool):ZhS (ZiR b (.d (.bool c))) (.d (.bool false)) (.d (.bool b))=QD (.d (.bool (b&&c))):=by cases b<;>rfl
theorem ZEj (a b:AV) (t:Bool):ZhS a b (.d (.bool t))=if t=true then QD a else QD b:=by cases t<;>rfl
@[go_sem] theorem dec_or (p q:Prop) [Decidable p] [Decidable q]:(decide p || decide q)=decide (p∨q):=by simp
@[go_sem] theorem dec_and (p q:Prop) [Decidable p] [Decidable q]:(decide p&&decide q)=decide (p∧q):=by simp
@[go_sem] theorem dec_not (p:Prop) [Decidable p]:(!decide p)=decide (¬p):=by simp
attribute [go_sem] Bool.or_eq_false_iff decide_eq_true_eq decide_eq_false_iff_not Bool.and_eq_true Bool.or_eq_true Bool.not_eq_true' Bool.not_eq_false' not_or Decidable.not_not
@[go_sem] theorem evO_t (sl:Sl) (n:Nat):evO sl (.t n)=gs sl n:=rfl
@[go_sem] theorem evO_v (sl:Sl) (a:AV):evO sl (.v a)=a:=rfl
@[go_sem] theorem evO_f (sl:Sl) (n:Nat):evO sl (.f n)=.clo n []:=rfl
@[go_sem] theorem gs_hit (k:Nat) (v:AV) (r:Sl):gs ((k,v) :: r) k=v:=by simp[gs,lkp,ZeQ]
@[go_sem] theorem gs_cons (k t:Nat) (v:AV) (r:Sl):gs ((k,v) :: r) t=if k=t then v else gs r t:=by
 by_cases h:k=t<;>simp[gs,lkp,h,ZeQ]
@[go_sem] theorem gs_nil (t:Nat):gs [] t=.junk:=rfl
attribute [go_sem] Zgb.eq_1 Zgb.eq_2
attribute [go_sem] ZaL.eq_1 ZaL.eq_2 ZaL.eq_3 ZaL.eq_4
attribute [go_sem] ZkB.eq_1 ZkB.eq_2 ZkB.eq_3 ZkB.eq_4
attribute [go_sem] Za7.eq_1 Za7.eq_2
attribute [go_sem] St.hp.eq_1
attribute [go_sem] Zd9.eq_1 Zd9.eq_2 Zd9.eq_3
attribute [go_sem] ZeQ.eq_1 ZeQ.eq_2
attribute [go_sem] agg2.eq_1 agg2.eq_2 agg2.eq_3
attribute [go_sem] ins.eq_1 ins.eq_2
attribute [go_sem] Zgc.eq_1 Zgc.eq_2
attribute [go_sem] XD.eq_1 XD.eq_2 XD.eq_3
attribute [go_sem] St.m.eq_1
attribute [go_sem] bnd.eq_1 bnd.eq_2
attribute [go_sem] UM.eq_1 UM.eq_2 UM.eq_3
attribute [go_sem] Zwb.eq_1 Zwb.eq_2 Zwb.eq_3 Zwb.eq_4
attribute [go_sem] AV.cells.eq_1 AV.cells.eq_2 AV.cells.eq_3 AV.cells.eq_4 AV.cells.eq_5 AV.cells.eq_6 AV.cells.eq_7 AV.cells.eq_8 AV.cells.eq_9 AV.cells.eq_10 AV.cells.eq_11 AV.cells.eq_12 AV.cells.eq_13 AV.cells.eq_14 AV.cells.eq_15
attribute [go_sem] Qh.eq_1 Qh.eq_2 Qh.eq_3 Qh.eq_4 Qh.eq_5 Qh.eq_6
attribute [go_sem] AV.solid.eq_1 AV.solid.eq_2 AV.solid.eq_3 AV.solid.eq_4
attribute [go_sem] WG.eq_1 WG.eq_2
attribute [go_sem] QH.eq_1 QH.eq_2
attribute [go_sem] WH.eq_1 WH.eq_2
attribute [go_sem] ZaK.eq_1
attribute [go_sem] ZeT.eq_1 ZeT.eq_2 ZeT.eq_3 ZeT.eq_4 ZeT.eq_5
attribute [go_sem] Ub.eq_1 Ub.eq_2
attribute [go_sem] D.flat.eq_1
attribute [go_sem] give.eq_1 give.eq_2
attribute [go_sem] D.beq1.eq_1 D.beq1.eq_2 D.beq1.eq_3 D.beq1.eq_4
attribute [go_sem] Zgd.eq_1 Zgd.eq_2 Zgd.eq_3 Zgd.eq_4 Zgd.eq_5 Zgd.eq_6
attribute [go_sem] not1.eq_1 not1.eq_2
attribute [go_sem] Xt.eq_1 Xt.eq_2 Xt.eq_3 Xt.eq_4
attribute [go_sem] St.nx.eq_1
attribute [go_sem] ZA.eq_1 ZA.eq_2 ZA.eq_3
attribute [go_sem] ZeS.eq_1 ZeS.eq_2 ZeS.eq_3
attribute [go_sem] ZkC.eq_1 ZkC.eq_2
attribute [go_sem] vun.eq_1 vun.eq_2 vun.eq_3
attribute [go_sem] toD.eq_1 toD.eq_2
attribute [go_sem] Zo.eq_1 Zo.eq_2 Zo.eq_3 Zo.eq_4 Zo.eq_5 Zo.eq_6 Zo.eq_7 Zo.eq_8 Zo.eq_9 Zo.eq_10 Zo.eq_11 Zo.eq_12 Zo.eq_13 Zo.eq_14 Zo.eq_15
attribute [go_sem] D.plain.eq_1 D.plain.eq_2 D.plain.eq_3 D.plain.eq_4 D.plain.eq_5
attribute [go_sem] Zw.eq_1
attribute [go_sem] ZW.eq_1 ZW.eq_2 ZW.eq_3
attribute [go_sem] JC.eq_1 JC.eq_2
attribute [go_sem] Zy.eq_1 Zy.eq_2
attribute [go_sem] ZxP.eq_1
attribute [go_sem] ZlX.eq_1 ZlX.eq_2
attribute [go_sem] Zcl.eq_1 Zcl.eq_2 Zcl.eq_3 Zcl.eq_4
attribute [go_sem] St.sl.eq_1
attribute [go_sem] ZzX.eq_1 ZzX.eq_2
attribute [go_sem] UN.eq_1 UN.eq_2
attribute [go_sem] ZeR.eq_1 ZeR.eq_2
attribute [go_sem] ren.eq_1 ren.eq_2
attribute [go_sem] kill.eq_1 kill.eq_2
attribute [go_sem] lkp.eq_1 lkp.eq_2
attribute [go_sem] Zs7.eq_1 Zs7.eq_2 Zs7.eq_3
attribute [go_sem] X0.eq_1 X0.eq_2
attribute [go_sem] beqL.eq_1 beqL.eq_2 beqL.eq_3
attribute [go_sem] D.cells.eq_1 D.cells.eq_2 D.cells.eq_3 D.cells.eq_4 D.cells.eq_5
attribute [go_sem] Zp3.eq_1 Zp3.eq_2
attribute [go_sem] Zs6.eq_1 Zs6.eq_2
attribute [go_sem] neg1.eq_1 neg1.eq_2
attribute [go_sem] ZlY.eq_1 ZlY.eq_2 ZlY.eq_3
attribute [go_sem] Zp4.eq_1 Zp4.eq_2
attribute [go_sem] V0.eq_1 V0.eq_2 V0.eq_3
attribute [go_sem] asD.eq_1
attribute [go_sem] Jp.eq_1 Jp.eq_2 Jp.eq_3 Jp.eq_4 Jp.eq_5 Jp.eq_6 Jp.eq_7 Jp.eq_8 Jp.eq_9 Jp.eq_10 Jp.eq_11 Jp.eq_12 Jp.eq_13 Jp.eq_14 Jp.eq_15 Jp.eq_16 Jp.eq_17
attribute [go_sem] ZiQ.eq_1 ZiQ.eq_2 ZiQ.eq_3 ZiQ.eq_4 ZiQ.eq_5
attribute [go_sem] D.one.eq_1 D.one.eq_2 D.one.eq_3 D.one.eq_4 D.one.eq_5
attribute [go_sem] freeze.eq_1 freeze.eq_2
attribute [go_sem] ZdB.eq_1
attribute [go_sem] loOf.eq_1 loOf.eq_2
attribute [go_sem] Eff.on.eq_1
attribute [go_sem] appT.eq_1
attribute [go_sem] ZbK.eq_1 ZbK.eq_2
attribute [go_sem] cloV.eq_1
attribute [go_sem] slice0.eq_1 slice0.eq_2
attribute [go_sem] evM.eq_1 evM.eq_2
attribute [go_sem] ZaX.eq_1 ZaX.eq_2
attribute [go_sem] hiOf.eq_1 hiOf.eq_2
attribute [go_sem] Zk1.eq_1 Zk1.eq_2 Zk1.eq_3
attribute [go_sem] Zzl.eq_1
attribute [go_sem] idx.eq_1 idx.eq_2
attribute [go_sem] WC.eq_1 WC.eq_2 WC.eq_3 WC.eq_4 WC.eq_5
attribute [go_sem] Zbc.eq_1 Zbc.eq_2 Zbc.eq_3
attribute [go_sem] Qe.eq_1 Qe.eq_2
attribute [go_sem] D.notSl.eq_1 D.notSl.eq_2
attribute [go_sem] ZBI.eq_1 ZBI.eq_2
attribute [go_sem] ZdF.eq_1 ZdF.eq_2 ZdF.eq_3 ZdF.eq_4 ZdF.eq_5 ZdF.eq_6
attribute [go_sem] JE.eq_1 JE.eq_2 JE.eq_3
attribute [go_sem] CO.guard.eq_1
attribute [go_sem] Zg0.eq_1
attribute [go_sem] Zb3.eq_1
attribute [go_sem] ZdC.eq_1 ZdC.eq_2 ZdC.eq_3
attribute [go_sem] ZkW.eq_1
attribute [go_sem] Eff.adds.eq_1
attribute [go_sem] Zm4.eq_1 Zm4.eq_2
attribute [go_sem] WK.eq_1 WK.eq_2
attribute [go_sem] Zi.eq_1 Zi.eq_2
attribute [go_sem] Zf.eff.eq_1
attribute [go_sem] ZhP.eq_1 ZhP.eq_2
attribute [go_sem] Zyg.eq_1 Zyg.eq_2
attribute [go_sem] ZhL.eq_1 ZhL.eq_2 ZhL.eq_3
attribute [go_sem] del.eq_1 del.eq_2
attribute [go_sem] ZqM.eq_1
attribute [go_sem] Zu0.eq_1 Zu0.eq_2
attribute [go_sem] Zbs.eq_1 Zbs.eq_2
attribute [go_sem] Zm6.eq_1 Zm6.eq_2
attribute [go_sem] D.isAgg.eq_1 D.isAgg.eq_2
attribute [go_sem] Zbt.eq_1 Zbt.eq_2 Zbt.eq_3 Zbt.eq_4 Zbt.eq_5
attribute [go_sem] ZhT.eq_1
attribute [go_sem] slice3.eq_1
attribute [go_sem] ZdE.eq_1 ZdE.eq_2
attribute [go_sem] args.eq_1 args.eq_2
attribute [go_sem] Zm5.eq_1 Zm5.eq_2
attribute [go_sem] Zgq.eq_1
attribute [go_sem] ZkX.eq_1 ZkX.eq_2 ZkZ.eq_1 ZkZ.eq_2
attribute [go_sem] Za0.eq_1
attribute [go_sem] evL.eq_1 evL.eq_2
attribute [go_sem] Zmd.eq_1 Zmd.eq_2 Zmd.eq_3
attribute [go_sem] ZaW.eq_1 ZaW.eq_2 ZaW.eq_3
attribute [go_sem] ZeV.eq_1 ZeV.eq_2
attribute [go_sem] ZqI.eq_1 ZqI.eq_2
attribute [go_sem] Eff.sets.eq_1
attribute [go_sem] ZeW.eq_1 ZeW.eq_2 ZeW.eq_3
attribute [go_sem] ZkV.eq_1 ZkV.eq_2
attribute [go_sem] Zk0.eq_1 Zk0.eq_2
attribute [go_sem] Zcf.eq_1 Zcf.eq_2 Zcf.eq_3
attribute [go_sem] ZAA.eq_1
attribute [go_sem] makeT.eq_1
attribute [go_sem] V3.eq_1 V3.eq_2
attribute [go_sem] ZBJ.eq_1 ZBJ.eq_2
attribute [go_sem] ZqK.eq_1 ZqK.eq_2
attribute [go_sem] ZdJ.eq_1 ZdJ.eq_2
attribute [go_sem] ZtA.eq_1
attribute [go_sem] ZdI.eq_1 ZdI.eq_2
attribute [go_sem] AV.atom.eq_1 AV.atom.eq_2 AV.atom.eq_3 AV.atom.eq_4 AV.atom.eq_5
attribute [go_sem] Eff.dels.eq_1
attribute [go_sem] Zeg.eq_1 Zeg.eq_2 Zeg.eq_3
attribute [go_sem] mat.eq_1 mat.eq_2 mat.eq_3
attribute [go_sem] ZI.eq_1
attribute [go_sem] ZdH.eq_1 ZdH.eq_2
attribute [go_sem] Zu2.eq_1
attribute [go_sem] ZAy.eq_1
attribute [go_sem] Zei.eq_1 Zei.eq_2
attribute [go_sem] ZaY.eq_1
attribute [go_sem] QJ.eq_1 QJ.eq_2 QJ.eq_3 QJ.eq_4
attribute [go_sem] ZAz.eq_1
attribute [go_sem] ZhM.eq_1 ZhM.eq_2
attribute [go_sem] Zme.eq_1 Zme.eq_2
attribute [go_sem] ZwU.eq_1 ZwU.eq_2
attribute [go_sem] Zjl.eq_1 Zjl.eq_2 Zjl.eq_3 Zjl.eq_4
attribute [go_sem] ZjS.eq_1 ZjS.eq_2
attribute [go_sem] Zgo.eq_1 Zgo.eq_2
attribute [go_sem] ZhO.eq_1 ZhO.eq_2 ZhO.eq_3 ZhO.eq_4 ZhO.eq_5
attribute [go_sem] Zu1.eq_1 Zu1.eq_2
attribute [go_sem] ZqL.eq_1
attribute [go_sem] convS.eq_1 convS.eq_2
attribute [go_sem] ZkY.eq_1 ZkY.eq_2
attribute [go_sem] CO.tl.eq_1
attribute [go_sem] ZhQ.eq_1 ZhQ.eq_2 ZhQ.eq_3 ZhQ.eq_4
attribute [go_sem] CO.dst.eq_1
attribute [go_sem] teOf.eq_1
attribute [go_sem] Zyh.eq_1 Zyh.eq_2 Zyh.eq_3
attribute [go_sem] ZqJ.eq_1
attribute [go_sem] ZwP.eq_1 ZwP.eq_2
attribute [go_sem] ZwQ.eq_1
attribute [go_sem] Eff.val.eq_1
attribute [go_sem] sliceS.eq_1 sliceS.eq_2
attribute [go_sem] Ve.eq_1 Ve.eq_2 Ve.eq_3
attribute [go_sem] ZhN.eq_1 ZhN.eq_2 ZhN.eq_3 ZhN.eq_4
attribute [go_sem] ZaV.eq_1
attribute [go_sem] buildSl.eq_1 buildSl.eq_2
attribute [go_sem] Jr.eq_1 Jr.eq_2 Jr.eq_3 Jr.eq_4
attribute [go_sem] Za8.eq_1 Za8.eq_2 Za8.eq_3 Za8.eq_4 Za8.eq_5
attribute [go_sem] Zm3.eq_1 Zm3.eq_2
attribute [go_sem] ZqO.eq_1
attribute [go_sem] evP.eq_1 evP.eq_2
attribute [go_sem] Zk2.eq_1 Zk2.eq_2
attribute [go_sem] Zeh.eq_1
attribute [go_sem] ZiB.eq_1
attribute [go_sem] Ztz.eq_1 Ztz.eq_2
attribute [go_sem] ZqN.eq_1
attribute [go_sem] Uj.eq_1
attribute [go_sem] ZwT.eq_1
attribute [go_sem] bnT.eq_1 bnT.eq_2
attribute [go_sem] ZdD.eq_1 ZdD.eq_2
attribute [go_sem] Ui.eq_1 Ui.eq_2
attribute [go_sem] ZaZ.eq_1 ZaZ.eq_2
attribute [go_sem] asgT.eq_1 asgT.eq_2
attribute [go_sem] Zmf.eq_1 Zmf.eq_2
attribute [go_sem] ZeY.eq_1 ZeY.eq_2
attribute [go_sem] ZhR.eq_1 ZhR.eq_2 ZhR.eq_3 ZhR.eq_4
attribute [go_sem] ZwN.eq_1 ZwN.eq_2
attribute [go_sem] CO.op.eq_1
attribute [go_sem] Zgr.eq_1 Zgr.eq_2
attribute [go_sem] Zgn.eq_1 Zgn.eq_2
attribute [go_sem] ZAx.eq_1 ZAx.eq_2
attribute [go_sem] ZiC.eq_1 ZiC.eq_2 ZiC.eq_3
attribute [go_sem] ZwR.eq_1 ZwR.eq_2
attribute [go_sem] ZiS.eq_1 ZiS.eq_2
attribute [go_sem] Zgp.eq_1 Zgp.eq_2
attribute [go_sem] ZdX.eq_1 ZdX.eq_2 ZdX.eq_3 ZdX.eq_4 ZdX.eq_5 ZdX.eq_6 ZdX.eq_7 ZdX.eq_8 ZdX.eq_9 ZdX.eq_10
attribute [go_sem] Zb4.eq_1
attribute [go_sem] Uk.eq_1 Uk.eq_2 Uk.eq_3 Uk.eq_4
attribute [go_sem] Eff.frz.eq_1
attribute [go_sem] buildT.eq_1
attribute [go_sem] Qr.eq_1 Qr.eq_2
attribute [go_sem] ZiA.eq_1 ZiA.eq_2
attribute [go_sem] Zf.gone.eq_1
attribute [go_sem] meltIn.eq_1 meltIn.eq_2
attribute [go_sem] Zjm.eq_1
attribute [go_sem] ZwO.eq_1 ZwO.eq_2
attribute [go_sem] convI.eq_1 convI.eq_2
attribute [go_sem] Zou.eq_1 Zou.eq_2
attribute [go_sem] ZcB.eq_1 ZcB.eq_2 ZcB.eq_3
attribute [go_sem] bd.eq_1
attribute [go_sem] ZdG.eq_1 ZdG.eq_2
attribute [go_sem] X6.eq_1
attribute [go_sem] Zu3.eq_1 Zu3.eq_2
attribute [go_sem] ZiD.eq_1
attribute [go_sem] Yj.eq_1 Yj.eq_2
attribute [go_sem] Zzr.eq_1 Zzr.eq_2
attribute [go_sem] ZH.eq_1 ZH.eq_2 ZH.eq_3 ZH.eq_4 ZH.eq_5 ZH.eq_6 ZH.eq_7 ZH.eq_8 ZH.eq_9 ZH.eq_10 ZH.eq_11 ZH.eq_12 ZH.eq_13 ZH.eq_14 ZH.eq_15 ZH.eq_16 ZH.eq_17 ZH.eq_18 ZH.eq_19 ZH.eq_20 ZH.eq_21 ZH.eq_22 ZH.eq_23 ZH.eq_24 ZH.eq_25 ZH.eq_26 ZH.eq_27 ZH.eq_28 ZH.eq_29 ZH.eq_30 ZH.eq_31 ZH.eq_32 ZH.eq_33 ZH.eq_34 ZH.eq_35 ZH.eq_36 ZH.eq_37 ZH.eq_38 ZH.eq_39 ZH.eq_40
attribute [go_sem] JP.eq_1 JP.eq_2 JP.eq_3 JP.eq_4 JP.eq_5
attribute [go_sem] ZhZ.eq_1
attribute [go_sem] Zvd.eq_1 Zvd.eq_2
attribute [go_sem] ZdS.eq_1 ZdS.eq_2
attribute [go_sem] ZgC.eq_1
attribute [go_sem] Ze1.eq_1 Ze1.eq_2 Ze1.eq_3 Ze1.eq_4 Ze1.eq_5
attribute [go_sem] JG.eq_1 JG.eq_2
attribute [go_sem] Zna.eq_1 Zna.eq_2
attribute [go_sem] ZAI.eq_1 ZAI.eq_2
attribute [go_sem] ZtD.eq_1 ZtD.eq_2
attribute [go_sem] Xl.eq_1 Xl.eq_2
attribute [go_sem] only.eq_1 only.eq_2
attribute [go_sem] Zyu.eq_1 Zyu.eq_2
attribute [go_sem] ZhW.eq_1 ZhW.eq_2
attribute [go_sem] WO.eq_1 WO.eq_2
attribute [go_sem] okL.eq_1 okL.eq_2
attribute [go_sem] okC.eq_1 okC.eq_2 okC.eq_3 okC.eq_4 okC.eq_5 okC.eq_6 okC.eq_7 okC.eq_8 okC.eq_9 okC.eq_10
attribute [go_sem] Zow.eq_1 Zow.eq_2
attribute [go_sem] Zci.eq_1 Zci.eq_2
attribute [go_sem] Zgy.eq_1 Zgy.eq_2 Zgy.eq_3
attribute [go_sem] ZiI.eq_1 ZiI.eq_2
attribute [go_sem] ZhY.eq_1 ZhY.eq_2
attribute [go_sem] QZ.eq_1 QZ.eq_2
attribute [go_sem] Zt.eq_1 Zt.eq_2
attribute [go_sem] Wg.eq_1 Wg.eq_2 Wg.eq_3
attribute [go_sem] Zk8.eq_1
attribute [go_sem] Um.eq_1 Um.eq_2
attribute [go_sem] Zve.eq_1 Zve.eq_2
attribute [go_sem] CO.starts.eq_1
attribute [go_sem] WN.eq_1 WN.eq_2
attribute [go_sem] Q5.eq_1 Q5.eq_2
attribute [go_sem] Zzq.eq_1 Zzq.eq_2
attribute [go_sem] Zmr.eq_1
attribute [go_sem] Zq8.eq_1 Zq8.eq_2 Zq8.eq_3
attribute [go_sem] ZgA.eq_1 ZgA.eq_2
attribute [go_sem] UQ.eq_1 UQ.eq_2
attribute [go_sem] Ze2.eq_1
attribute [go_sem] Zq9.eq_1 Zq9.eq_2
attribute [go_sem] Zzp.eq_1
attribute [go_sem] Zq.body.eq_1
attribute [go_sem] Zk9.eq_1
attribute [go_sem] ZjY.eq_1 ZjY.eq_2
attribute [go_sem] Za3.eq_1 Za3.eq_2 Za3.eq_3 Za3.eq_4 Za3.eq_5
attribute [go_sem] Zq.res.eq_1
attribute [go_sem] VF.eq_1 VF.eq_2
attribute [go_sem] Y0.eq_1 Y0.eq_2 Y0.eq_3 Y0.eq_4 Y0.eq_5 Y0.eq_6 Y0.eq_7 Y0.eq_8 Y0.eq_9 Y0.eq_10 Y0.eq_11 Y0.eq_12
attribute [go_sem] Zra.eq_1 Zra.eq_2
attribute [go_sem] Wf.eq_1 Wf.eq_2
attribute [go_sem] Zq.nt.eq_1
attribute [go_sem] okD.eq_1 okD.eq_2
attribute [go_sem] Zu3.eq_1 Za8.eq_1 Za8.eq_2 Za8.eq_3 Za8.eq_4
attribute [go_sem] J2.eq_1 ZdP.eq_1 ZdP.eq_2 ZdP.eq_3 ZdP.eq_4 ZdP.eq_5 ZdP.eq_6 ZdP.eq_7 ZdP.eq_8 ZdP.eq_9 ZdP.eq_10 Un.eq_1
attribute [go_sem] Xb.eq_3 X9.eq_1 AV.atom.eq_1 AV.atom.eq_2 AV.atom.eq_3 AV.atom.eq_4
attribute [go_sem] ZsB.eq_1 ZsB.eq_2 Zjj.eq_1 Zjj.eq_2
attribute [go_sem] Zg ZBj ZCL
attribute [go_sem] List.map_cons List.map_nil List.flatMap_cons List.flatMap_nil List.append_nil List.nil_append List.cons_append List.length_cons List.length_nil List.all_cons List.all_nil List.any_cons List.any_nil List.contains_cons List.contains_nil List.filter_cons List.filter_nil List.drop_zero List.drop_succ_cons List.drop_nil List.take_zero List.take_succ_cons List.take_nil List.getElem?_cons_zero List.getElem?_cons_succ List.getElem?_nil Option.map_some Option.map_none Bool.and_true Bool.true_and Bool.and_false Bool.false_and Bool.or_true Bool.true_or Bool.or_false Bool.false_or Bool.not_true Bool.not_false decide_true decide_false and_true true_and and_false false_and not_true not_false_eq_true or_true true_or or_false false_or if_true if_false true_implies false_implies implies_true imp_self eq_self ne_eq beq_self_eq_true Bool.true_eq_false Bool.false_eq_true List.isEmpty_nil List.isEmpty_cons List.range_zero List.set_cons_zero List.set_cons_succ Option.some.injEq reduceCtorEq Nat.reduceLeDiff
def ZqE (hp:Hp):List Nat→List Nat
 | []=>[]
 | i :: r=>if ZhQ (lkp hp i)=true then i :: ZqE hp r else ZqE hp r
theorem gE (hp:Hp) (ids:List Nat):(ids.filter fun i=>ZhQ (lkp hp i))=ZqE hp ids:=by
 induction ids with
 | nil=>rfl
 | cons i r ih=>simp only[List.filter_cons,ZqE,ih]
def Ztq (hp:Hp) (rs:List Nat):List Nat→Bool
 | []=>true
 | i :: r=>(ZhQ (lkp hp i) || rs.contains i)&&Ztq hp rs r
def Ztr (hp:Hp):List Nat→Bool
 | []=>false
 | i :: r=>ZdI (lkp hp i) || Ztr hp r
theorem gG (hp:Hp) (ids:List Nat):(ids.any fun i=>ZdI (lkp hp i))=Ztr hp ids:=by
 induction ids with
 | nil=>rfl
 | cons i r ih=>simp only[List.any_cons,Ztr,ih]
attribute [go_sem] Ztr.eq_1 Ztr.eq_2
@[go_sem] theorem appV_eq (hp:Hp) (s b:Nat) (str flat:Bool) (base:Nat) (x y:AV):ZwS hp s b str flat base x y=ZeX hp s b str flat base x y (Ya hp x) (Ya hp y):=rfl
attribute [go_sem] ZeX.eq_1 ZeX.eq_2 ZeX.eq_3
@[go_sem] theorem treeId_d (hp:Hp) (x:D):Ya hp (.d x)=[]:=rfl
@[go_sem] theorem ZEk (hp:Hp):Ya hp .nil=[]:=rfl
@[go_sem] theorem ZDL (hp:Hp) (k o n:Nat):Ya hp (.ownv k o n)=[]:=rfl
@[go_sem] theorem ZEl (hp:Hp) (k:Nat):Ya hp (.own k)=if ZdI (lkp hp k)=true then [k] else []:=rfl
@[go_sem] theorem noKeep_0 (M:Zp) (f:Nat):Vf M f 0=M f 0:=rfl
@[go_sem] theorem noKeep_1 (M:Zp) (f:Nat):Vf M f 1=M f 1:=rfl
@[go_sem] theorem noKeep_2 (M:Zp) (f:Nat):Vf M f 2=M f 2:=rfl
@[go_sem] theorem noKeep_3 (M:Zp) (f:Nat):Vf M f 3=M f 3:=rfl
@[go_sem] theorem noKeep_4 (M:Zp) (f:Nat):Vf M f 4=M f 4:=rfl
@[go_sem] theorem noKeep_5 (M:Zp) (f:Nat):Vf M f 5=M f 5:=rfl
@[go_sem] theorem noKeep_6 (M:Zp) (f:Nat):Vf M f 6=M f 6:=rfl
@[go_sem] theorem noKeep_99 (M:Zp) (f:Nat):Vf M f 99=false:=rfl
theorem gF (hp:Hp) (rs ids:List Nat):ZcA hp rs ids=Ztq hp rs ids:=by
 induction ids with
 | nil=>rfl
 | cons i r ih=>simp only[ZcA,LG,Ztq] at ih ⊢;rw[ih]
attribute [go_sem] ZqE.eq_1 ZqE.eq_2 Ztq.eq_1 Ztq.eq_2
@[go_sem] theorem okV_d (x:D):okV (.d x)=true:=rfl
@[go_sem] theorem okV_nil:okV .nil=true:=rfl
@[go_sem] theorem okV_nilp:okV .nilp=true:=rfl
@[go_sem] theorem okV_nili:okV .nili=true:=rfl
@[go_sem] theorem okV_ptr (a b:Nat):okV (.ptr a b)=true:=rfl
@[go_sem] theorem okV_prow (a b c e:Nat):okV (.prow a b c e)=true:=rfl
@[go_sem] theorem okV_pim (cs:List D):okV (.pim cs)=true:=rfl
@[go_sem] theorem okV_own (a:Nat):okV (.own a)=true:=rfl
@[go_sem] theorem okV_ownv (a b c:Nat):okV (.ownv a b c)=true:=rfl
@[go_sem] theorem okV_agg (cs:List AV):okV (.agg cs)=Zvd cs:=rfl
@[go_sem] theorem okV_tup0:okV (.tup [])=true:=rfl
@[go_sem] theorem ZEm (sl:Sl) (a:COp) (x y:Nat) (v:AV):WE sl a (.ptr x y) v=true:=rfl
@[go_sem] theorem seenIn_d (sl:Sl) (a:COp) (x y z t:Nat) (v:D):WE sl a (.prow x y z t) (.d v)=true:=rfl
@[go_sem] theorem ZEn (sl:Sl) (a:COp) (x y z t:Nat) (v:List AV):WE sl a (.prow x y z t) (.agg v)=(okV (.agg v)&&Yj sl (ZH a) (Zy (.agg v))):=rfl
@[go_sem] theorem ZEo (sl:Sl) (a:COp) (x y z t:Nat) (k:Nat):WE sl a (.prow x y z t) (.own k)=(okV (.own k)&&Yj sl (ZH a) (Zy (.own k))):=rfl
@[go_sem] theorem ZEp (sl:Sl) (a:COp) (x y z t:Nat):WE sl a (.prow x y z t) .nil=(okV .nil&&Yj sl (ZH a) (Zy .nil)):=rfl
@[go_sem] theorem ZDM (sl:Sl) (a:COp) (x y z t:Nat):WE sl a (.prow x y z t) .nilp=(okV .nilp&&Yj sl (ZH a) (Zy .nilp)):=rfl
@[go_sem] theorem ZDN (sl:Sl) (a:COp) (x y z t:Nat) (k m n:Nat):WE sl a (.prow x y z t) (.ownv k m n)=(okV (.ownv k m n)&&Yj sl (ZH a) (Zy (.ownv k m n))):=rfl
@[go_sem] theorem ZDO (sl:Sl) (a:COp) (k:Nat):seenSrc sl a (.own k)=QZ sl k (ZH a):=rfl
@[go_sem] theorem seenSrc_d (sl:Sl) (a:COp) (x:D):seenSrc sl a (.d x)=true:=rfl
@[go_sem] theorem ZDP (sl:Sl) (a:COp):seenSrc sl a .nil=true:=rfl
@[go_sem] theorem ZC9 (sl:Sl) (a:COp) (x y z:Nat):seenSrc sl a (.ownv x y z)=true:=rfl
@[go_sem] theorem okV_iteV (b:Bool) (v:AV):okV (ZiR b v)=(!b || okV v):=by cases b<;>simp[ZiR,okV]
@[go_sem] theorem awayV_d (sl:Sl) (xs:List Opd) (x:D):ZdQ sl xs (.d x)=true:=rfl
@[go_sem] theorem awayV_nil (sl:Sl) (xs:List Opd):ZdQ sl xs .nil=true:=rfl
@[go_sem] theorem ZEq (sl:Sl) (xs:List Opd):ZdQ sl xs .nilp=true:=rfl
@[go_sem] theorem awayV_ptr (sl:Sl) (xs:List Opd) (k o:Nat):ZdQ sl xs (.ptr k o)=QZ sl k xs:=rfl
@[go_sem] theorem awayV_pim (sl:Sl) (xs:List Opd) (cs:List D):ZdQ sl xs (.pim cs)=true:=rfl
@[go_sem] theorem awayV_own (sl:Sl) (xs:List Opd) (a:Nat):ZdQ sl xs (.own a)=true:=rfl
@[go_sem] theorem ZEr (sl:Sl) (xs:List Opd) (a b c:Nat):ZdQ sl xs (.ownv a b c)=true:=rfl
@[go_sem] theorem awayV_agg (sl:Sl) (xs:List Opd) (cs:List AV):ZdQ sl xs (.agg cs)=true:=rfl
@[go_sem] theorem awayV_tup (sl:Sl) (xs:List Opd) (cs:List AV):ZdQ sl xs (.tup cs)=true:=rfl
end Go.Abs.E
