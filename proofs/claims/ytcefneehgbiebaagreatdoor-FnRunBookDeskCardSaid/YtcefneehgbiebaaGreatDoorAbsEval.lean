/- Own text. -/
import Derived.Test.YtcefneehgbiebaaGreatDoorAbsRun
set_option linter.unusedVariables false
set_option linter.unusedSimpArgs false
namespace Go.Abs.E
open Go Go.Abs
abbrev _root_.Go.Abs.Opd.i (n:Int):Opd:=.v (.d (.int .i64 n))
abbrev _root_.Go.Abs.Opd.b (x:Bool):Opd:=.v (.d (.bool x))
def stW {α:Type} (x:Option α) (K:α→Prop):Prop:=match x with
 | some a=>K a
 | none=>False
def gW (x:Option Bool) (A B:Prop):Prop:=match x with
 | some b=>(b=true→A)∧(b=false→B)
 | none=>False
def UH (v:AV) (A B:Prop):Prop:=match v with
 | .d (.bool t)=>(t=true→A)∧(t=false→B)
 | _=>False
theorem UT {α:Type} (a:α) (K:α→Prop):stW (some a) K=K a:=rfl
theorem Zj7 {α:Type} (K:α→Prop):stW none K=False:=rfl
theorem Zcv {α β:Type} (x:Option α) (f:α→Option β) (K:β→Prop):stW (bnd x f) K=stW x fun a=>stW (f a) K:=by cases x<;>rfl
@[go_sem] theorem ZyG (A B:Prop):gW (some true) A B=A:=by simp[gW]
@[go_sem] theorem gW_false (A B:Prop):gW (some false) A B=B:=by simp[gW]
@[go_sem] theorem gW_dec (p:Prop) [Decidable p] (A B:Prop):gW (some (decide p)) A B=((p→A)∧(¬p→B)):=by simp[gW]
@[go_sem] theorem gW_not (b:Bool) (A B:Prop):gW (some (!b)) A B=gW (some b) B A:=by cases b<;>simp[gW]
theorem gW_some (b:Bool) (A B:Prop):gW (some b) A B=((b=true→A)∧(b=false→B)):=rfl
@[go_sem] theorem ZDo (A B:Prop):UH (.d (.bool true)) A B=A:=by simp[UH]
@[go_sem] theorem ZC1 (A B:Prop):UH (.d (.bool false)) A B=B:=by simp[UH]
@[go_sem] theorem condW_dec (p:Prop) [Decidable p] (A B:Prop):UH (.d (.bool (decide p))) A B=((p→A)∧(¬p→B)):=by simp[UH]
@[go_sem] theorem condW_not (b:Bool) (A B:Prop):UH (.d (.bool (!b))) A B=UH (.d (.bool b)) B A:=by cases b<;>simp[UH]
@[go_sem] theorem condW_and (a b:Bool) (A B:Prop):UH (.d (.bool (a&&b))) A B=UH (.d (.bool a)) (UH (.d (.bool b)) A B) B:=by cases a<;>cases b<;>simp[UH]
@[go_sem] theorem condW_or (a b:Bool) (A B:Prop):UH (.d (.bool (a || b))) A B=UH (.d (.bool a)) A (UH (.d (.bool b)) A B):=by cases a<;>cases b<;>simp[UH]
@[go_sem] theorem ZDp (b:Bool) (A B:Prop):UH (.d (.bool b)) A B=((b=true→A)∧(b=false→B)):=rfl
@[congr] theorem gW_congr {x y:Option Bool} {A B:Prop} (h:x=y):gW x A B=gW y A B:=by rw[h]
@[congr] theorem ZC2 {v w:AV} {A B:Prop} (h:v=w):UH v A B=UH w A B:=by rw[h]
section
variable (X:Fns) (M:Zp)
noncomputable def Zeg (nx:Nat):Nat→List CO→Sl→Hp→(Sl→Hp→Prop)→Prop
 | _,[],sl,hp,K=>K sl hp
 | i,o :: rest,sl,hp,K=>gW (Z6 sl o.guard)
   (stW (YQ (nx+64*i) o.dst sl hp (vop (Ze X M) M sl hp (nx+64*i) o.op)) fun r=>Zeg nx (i+1) rest r.1 r.2 K)
   (Zeg nx (i+1) rest (Zt sl o.dst (.tup [])) hp K)
def Zcm (nx i:Nat) (d:Option Nat) (rest:List CO) (sl:Sl) (hp:Hp) (K:Sl→Hp→Prop) (e:Option Zd):Prop:=
 stW (YQ (nx+64*i) d sl hp e) fun r=>Zeg X M nx (i+1) rest r.1 r.2 K
@[go_sem] theorem opsW_nil (nx i:Nat) (sl:Sl) (hp:Hp) (K:Sl→Hp→Prop):Zeg X M nx i [] sl hp K=K sl hp:=rfl
@[go_sem] theorem opsW_cons (nx i:Nat) (d:Option Nat) (tl:Bool) (op:COp) (aa:List CO) (sl:Sl) (hp:Hp) (K:Sl→Hp→Prop) :
  Zeg X M nx i (⟨d,none,op,tl⟩ :: aa) sl hp K=Zcm X M nx i d aa sl hp K (vop (Ze X M) M sl hp (nx+64*i) op):=by
 simp[Zeg,Zcm,Z6,ZyG]
def Ziw (b:Bool) (v:AV):AV:=if b then v else .tup []
def J5 (b:Bool) (nx i:Nat) (d:Option Nat) (rest:List CO) (sl:Sl) (hp:Hp) (K:Sl→Hp→Prop) (e:Option Zd):Prop:=
 gW (some b) (Zcm X M nx i d rest sl hp K e) (Zeg X M nx (i+1) rest (Zt sl d (.tup [])) hp K)
def Zt0 (g:Option Bool) (nx i:Nat) (d:Option Nat) (op:COp) (rest:List CO) (sl:Sl) (hp:Hp) (K:Sl→Hp→Prop):Prop:=
 gW g (Zcm X M nx i d rest sl hp K (vop (Ze X M) M sl hp (nx+64*i) op)) (Zeg X M nx (i+1) rest (Zt sl d (.tup [])) hp K)
@[go_sem] theorem ZDq (nx i g:Nat) (w:Bool) (d:Option Nat) (tl:Bool) (op:COp) (aa:List CO) (sl:Sl) (hp:Hp) (K:Sl→Hp→Prop) :
  Zeg X M nx i (⟨d,some (g,w),op,tl⟩ :: aa) sl hp K=Zt0 X M (ZfS w (gs sl g)) nx i d op aa sl hp K:=rfl
@[go_sem] theorem ZC3 (b:Bool) (nx i:Nat) (d:Option Nat) (op:COp) (aa:List CO) (sl:Sl) (hp:Hp) (K:Sl→Hp→Prop) :
  Zt0 X M (some b) nx i d op aa sl hp K=J5 X M b nx i d aa sl hp K (vop (Ze X M) M sl hp (nx+64*i) op):=rfl
@[go_sem] theorem gA (nx i:Nat) (d:Option Nat) (aa:List CO) (sl:Sl) (hp:Hp) (K:Sl→Hp→Prop) (e:Option Zd) :
  J5 X M true nx i d aa sl hp K e=Zcm X M nx i d aa sl hp K e:=by simp[J5,gW]
@[go_sem] theorem gB (nx i:Nat) (d:Option Nat) (aa:List CO) (sl:Sl) (hp:Hp) (K:Sl→Hp→Prop) (e:Option Zd) :
  J5 X M false nx i d aa sl hp K e=Zeg X M nx (i+1) aa (Zt sl d (.tup [])) hp K:=by simp[J5,gW]
@[go_sem] theorem Zt1 (b:Bool) (nx i:Nat) (d:Option Nat) (aa:List CO) (sl:Sl) (hp:Hp) (K:Sl→Hp→Prop) (v:AV) :
  J5 X M b nx i d aa sl hp K (QN v)=Zeg X M nx (i+1) aa (Zt sl d (Ziw b v)) hp K:=by
 cases b
 ·simp[J5,gW,Ziw]
 ·simp only[J5,gW,Ziw,Km,true_implies,Kac,false_implies,and_true];rfl
@[go_sem] theorem ZC4 (b:Bool) (nx i:Nat) (d:Option Nat) (aa:List CO) (sl:Sl) (hp:Hp) (K:Sl→Hp→Prop) (v:AV) :
  J5 X M b nx i d aa sl hp K (some { eff := { val:=v,adds:=[],sets:=[],dels:=[],frz:=[] },gone:=[] })=Zeg X M nx (i+1) aa (Zt sl d (Ziw b v)) hp K:=Zt1 X M b nx i d aa sl hp K v
@[congr] theorem ZCh {g g' : Option Bool} {nx i:Nat} {d:Option Nat} {op:COp} {aa:List CO} {sl:Sl} {hp:Hp} {K:Sl→Hp→Prop} (h:g=g') :
  Zt0 X M g nx i d op aa sl hp K=Zt0 X M g' nx i d op aa sl hp K:=by rw[h]
@[congr] theorem ZCi {b b' : Bool} {nx i:Nat} {d:Option Nat} {aa:List CO} {sl:Sl} {hp:Hp} {K:Sl→Hp→Prop} {e e' : Option Zd} (hb:b=b') (h:b'=true→e=e') :
  J5 X M b nx i d aa sl hp K e=J5 X M b' nx i d aa sl hp K e':=by
 subst hb;cases b
 ·simp[J5,gW]
 ·rw[h rfl]
@[go_sem] theorem ZC5 (nx i:Nat) (d:Option Nat) (aa:List CO) (sl:Sl) (hp:Hp) (K:Sl→Hp→Prop) (v:AV) :
  Zcm X M nx i d aa sl hp K (QN v)=Zeg X M nx (i+1) aa (Zt sl d v) hp K:=rfl
@[go_sem] theorem ZDr (nx i:Nat) (d:Option Nat) (aa:List CO) (sl:Sl) (hp:Hp) (K:Sl→Hp→Prop) (v:AV) :
  Zcm X M nx i d aa sl hp K (some { eff := { val:=v,adds:=[],sets:=[],dels:=[],frz:=[] },gone:=[] })=Zeg X M nx (i+1) aa (Zt sl d v) hp K:=rfl
@[go_sem] theorem ZDs (nx i:Nat) (d:Option Nat) (aa:List CO) (sl:Sl) (hp:Hp) (K:Sl→Hp→Prop) (e:Zd) :
  Zcm X M nx i d aa sl hp K (some e)=(QZ (nx+64*i) (nx+64*i+64) e.eff.adds=true∧Zeg X M nx (i+1) aa (Zt (Xe e.gone sl) d e.eff.val) (e.eff.on (Ve e.gone hp)) K):=by
 unfold Zcm YQ;rw[Zg];split<;>rename_i h
 ·simp only[UT,h,true_and];rfl
 ·simp only[Zj7,h,false_and,Ka]
@[go_sem] theorem ZDt (nx i:Nat) (d:Option Nat) (aa:List CO) (sl:Sl) (hp:Hp) (K:Sl→Hp→Prop):Zcm X M nx i d aa sl hp K none=False:=rfl
@[go_sem] theorem stepW_ite (nx i:Nat) (d:Option Nat) (aa:List CO) (sl:Sl) (hp:Hp) (K:Sl→Hp→Prop) (c:Prop) [Decidable c] (a b:Option Zd) :
  Zcm X M nx i d aa sl hp K (if c then a else b)=((c→Zcm X M nx i d aa sl hp K a)∧(¬c→Zcm X M nx i d aa sl hp K b)):=by
 by_cases h:c<;>simp[h]
noncomputable def V8 (nx:Nat):Nat→Bool→List CO→Sl→Hp→(Sl→Hp→Prop)→Prop
 | _,_,[],sl,hp,K=>K sl hp
 | i,tail,o :: rest,sl,hp,K=>gW (Z6 sl o.guard)
   (stW (YQ (nx+64*i) o.dst sl hp (WR (Ze X M) M nx i (CO.starts o) o.op sl hp)) fun r=>V8 nx (i+1) tail rest r.1 r.2 K)
   (V8 nx (i+1) tail rest (Zt sl o.dst (.tup [])) hp K)
def UK (nx i:Nat) (t:Bool) (d:Option Nat) (rest:List CO) (sl:Sl) (hp:Hp) (K:Sl→Hp→Prop) (e:Option Zd):Prop:=
 stW (YQ (nx+64*i) d sl hp (if t then e else Zdj e)) fun r=>V8 X M nx (i+1) false rest r.1 r.2 K
@[go_sem] theorem opsDW_nil (nx i:Nat) (t:Bool) (sl:Sl) (hp:Hp) (K:Sl→Hp→Prop):V8 X M nx i t [] sl hp K=K sl hp:=rfl
@[go_sem] theorem ZDu (nx i:Nat) (d:Option Nat) (tl:Bool) (op:COp) (aa:List CO) (sl:Sl) (hp:Hp) (K:Sl→Hp→Prop) :
  V8 X M nx i false (⟨d,none,op,tl⟩ :: aa) sl hp K=UK X M nx i (Zig op || tl) d aa sl hp K (vop (Ze X M) M sl hp (nx+64*i) op):=by
 simp[V8,UK,Z6,ZyG,WR,CO.starts]
def WG (b:Bool) (nx i:Nat) (t:Bool) (d:Option Nat) (rest:List CO) (sl:Sl) (hp:Hp) (K:Sl→Hp→Prop) (e:Option Zd):Prop:=
 gW (some b) (UK X M nx i t d rest sl hp K e) (V8 X M nx (i+1) false rest (Zt sl d (.tup [])) hp K)
def Zod (g:Option Bool) (nx i:Nat) (t:Bool) (d:Option Nat) (op:COp) (rest:List CO) (sl:Sl) (hp:Hp) (K:Sl→Hp→Prop):Prop:=
 gW g (UK X M nx i t d rest sl hp K (vop (Ze X M) M sl hp (nx+64*i) op)) (V8 X M nx (i+1) false rest (Zt sl d (.tup [])) hp K)
@[go_sem] theorem ZC6 (nx i g:Nat) (w:Bool) (d:Option Nat) (tl:Bool) (op:COp) (aa:List CO) (sl:Sl) (hp:Hp) (K:Sl→Hp→Prop) :
  V8 X M nx i false (⟨d,some (g,w),op,tl⟩ :: aa) sl hp K=Zod X M (ZfS w (gs sl g)) nx i (Zig op || tl) d op aa sl hp K:=rfl
@[go_sem] theorem ZCj (b:Bool) (nx i:Nat) (t:Bool) (d:Option Nat) (op:COp) (aa:List CO) (sl:Sl) (hp:Hp) (K:Sl→Hp→Prop) :
  Zod X M (some b) nx i t d op aa sl hp K=WG X M b nx i t d aa sl hp K (vop (Ze X M) M sl hp (nx+64*i) op):=rfl
@[go_sem] theorem gC (nx i:Nat) (t:Bool) (d:Option Nat) (aa:List CO) (sl:Sl) (hp:Hp) (K:Sl→Hp→Prop) (e:Option Zd) :
  WG X M true nx i t d aa sl hp K e=UK X M nx i t d aa sl hp K e:=by simp[WG,gW]
@[go_sem] theorem gD (nx i:Nat) (t:Bool) (d:Option Nat) (aa:List CO) (sl:Sl) (hp:Hp) (K:Sl→Hp→Prop) (e:Option Zd) :
  WG X M false nx i t d aa sl hp K e=V8 X M nx (i+1) false aa (Zt sl d (.tup [])) hp K:=by simp[WG,gW]
@[go_sem] theorem Zra (b:Bool) (nx i:Nat) (t:Bool) (d:Option Nat) (aa:List CO) (sl:Sl) (hp:Hp) (K:Sl→Hp→Prop) (v:AV) :
  WG X M b nx i t d aa sl hp K (QN v)=V8 X M nx (i+1) false aa (Zt sl d (Ziw b v)) hp K:=by
 cases b
 ·simp[WG,gW,Ziw]
 ·simp only[WG,gW,Ziw,Km,true_implies,Kac,false_implies,and_true];cases t<;>rfl
@[go_sem] theorem ZCk (b:Bool) (nx i:Nat) (t:Bool) (d:Option Nat) (aa:List CO) (sl:Sl) (hp:Hp) (K:Sl→Hp→Prop) (v:AV) :
  WG X M b nx i t d aa sl hp K (some { eff := { val:=v,adds:=[],sets:=[],dels:=[],frz:=[] },gone:=[] })=V8 X M nx (i+1) false aa (Zt sl d (Ziw b v)) hp K:=Zra X M b nx i t d aa sl hp K v
@[congr] theorem ZBU {g g' : Option Bool} {nx i:Nat} {t t' : Bool} {d:Option Nat} {op:COp} {aa:List CO} {sl:Sl} {hp:Hp} {K:Sl→Hp→Prop} (h:g=g') (ht:t=t') :
  Zod X M g nx i t d op aa sl hp K=Zod X M g' nx i t' d op aa sl hp K:=by rw[h,ht]
@[congr] theorem ZBV {b b' : Bool} {nx i:Nat} {t:Bool} {d:Option Nat} {aa:List CO} {sl:Sl} {hp:Hp} {K:Sl→Hp→Prop} {e e' : Option Zd} (hb:b=b') (h:b'=true→e=e') :
  WG X M b nx i t d aa sl hp K e=WG X M b' nx i t d aa sl hp K e':=by
 subst hb;cases b
 ·simp[WG,gW]
 ·rw[h rfl]
@[go_sem] theorem ZCl (nx i:Nat) (t:Bool) (d:Option Nat) (aa:List CO) (sl:Sl) (hp:Hp) (K:Sl→Hp→Prop) (v:AV) :
  UK X M nx i t d aa sl hp K (QN v)=V8 X M nx (i+1) false aa (Zt sl d v) hp K:=by cases t<;>rfl
@[go_sem] theorem ZC7 (nx i:Nat) (t:Bool) (d:Option Nat) (aa:List CO) (sl:Sl) (hp:Hp) (K:Sl→Hp→Prop) (v:AV) :
  UK X M nx i t d aa sl hp K (some { eff := { val:=v,adds:=[],sets:=[],dels:=[],frz:=[] },gone:=[] })=V8 X M nx (i+1) false aa (Zt sl d v) hp K:=by cases t<;>rfl
@[go_sem] theorem ZC8 (nx i:Nat) (t:Bool) (d:Option Nat) (aa:List CO) (sl:Sl) (hp:Hp) (K:Sl→Hp→Prop) (e:Zd) :
  UK X M nx i t d aa sl hp K (some e)=((t=false→ZfW e e.gone e.eff.sets e.eff.dels e.eff.frz=some e)∧QZ (nx+64*i) (nx+64*i+64) e.eff.adds=true∧V8 X M nx (i+1) false aa (Zt (Xe e.gone sl) d e.eff.val) (e.eff.on (Ve e.gone hp)) K):=by
 have ab:stW (YQ (nx+64*i) d sl hp (some e)) (fun r=>V8 X M nx (i+1) false aa r.1 r.2 K)=(QZ (nx+64*i) (nx+64*i+64) e.eff.adds=true∧V8 X M nx (i+1) false aa (Zt (Xe e.gone sl) d e.eff.val) (e.eff.on (Ve e.gone hp)) K):=by
  unfold YQ;rw[Zg];split<;>rename_i h
  ·simp only[UT,h,true_and];rfl
  ·simp only[Zj7,h,false_and,Ka]
 unfold UK;cases t with
 | true=>simp only[Km];rw[ab];simp
 | false=>
  simp only[Ka,Kq,Zdj,Zg,true_implies];unfold ZfW;split
  ·rw[ab];simp
  ·simp[YQ,bnd,stW]
@[go_sem] theorem ZC9 (nx i:Nat) (t:Bool) (d:Option Nat) (aa:List CO) (sl:Sl) (hp:Hp) (K:Sl→Hp→Prop):UK X M nx i t d aa sl hp K none=False:=by cases t<;>rfl
@[go_sem] theorem ZDv (nx i:Nat) (t:Bool) (d:Option Nat) (aa:List CO) (sl:Sl) (hp:Hp) (K:Sl→Hp→Prop) (c:Prop) [Decidable c] (a b:Option Zd) :
  UK X M nx i t d aa sl hp K (if c then a else b)=((c→UK X M nx i t d aa sl hp K a)∧(¬c→UK X M nx i t d aa sl hp K b)):=by
 by_cases h:c<;>simp[h]
@[go_sem] theorem quietC_ok (c:Zd):ZfW c [] [] [] []=some c:=rfl
def W (c:ZZ) (st:St) (Q:Ex→St→Prop):Prop:=stW (QU X M c st) fun r=>Q r.1 r.2
@[congr] theorem W_congr {c:ZZ} {st aa : St} {Q:Ex→St→Prop} (h:st=aa):W X M c st Q=W X M c aa Q:=by rw[h]
@[congr] theorem ZDw {aa:List CO} {nx ab i i' : Nat} {sl sl' : Sl} {hp hp' : Hp} {K:Sl→Hp→Prop} (hn:nx=ab) (hi:i=i') (h:sl=sl') (h' : hp=hp') :
  Zeg X M nx i aa sl hp K=Zeg X M ab i' aa sl' hp' K:=by rw[h,h',hn,hi]
@[congr] theorem ZDa {aa:List CO} {nx ab i i' : Nat} {t t' : Bool} {sl sl' : Sl} {hp hp' : Hp} {K:Sl→Hp→Prop} (hn:nx=ab) (hi:i=i') (ht:t=t') (h:sl=sl') (h' : hp=hp') :
  V8 X M nx i t aa sl hp K=V8 X M ab i' t' aa sl' hp' K:=by rw[h,h',ht,hn,hi]
@[congr] theorem ZDb {aa:List CO} {nx i:Nat} {d:Option Nat} {sl:Sl} {hp:Hp} {K:Sl→Hp→Prop} {e e' : Option Zd} (h:e=e') :
  Zcm X M nx i d aa sl hp K e=Zcm X M nx i d aa sl hp K e':=by rw[h]
@[congr] theorem ZCm {aa:List CO} {nx i:Nat} {t t' : Bool} {d:Option Nat} {sl:Sl} {hp:Hp} {K:Sl→Hp→Prop} {e e' : Option Zd} (ht:t=t') (h:e=e') :
  UK X M nx i t d aa sl hp K e=UK X M nx i t' d aa sl hp K e':=by rw[h,ht]
theorem ZCn (nx:Nat) (K:Sl→Hp→Prop):∀ (l:List CO) (i:Nat) (sl:Sl) (hp:Hp),Zeg X M nx i l sl hp K=stW (Zff (Ze X M) M nx i l sl hp) fun r=>K r.1 r.2:=by
 intro l
 induction l with
 | nil=>intro i sl hp;rfl
 | cons o rest ih=>
  intro i sl hp;simp only[Zeg,Zff,ih,Zcv];cases Z6 sl o.guard with
  | none=>rfl
  | some b=>cases b<;>simp[gW,Zcv,UT]
theorem ZA1 (nx:Nat) (K:Sl→Hp→Prop):∀ (l:List CO) (i:Nat) (t:Bool) (sl:Sl) (hp:Hp),V8 X M nx i t l sl hp K=stW (UX (Ze X M) M nx i t l sl hp) fun r=>K r.1 r.2:=by
 intro l
 induction l with
 | nil=>intro i t sl hp;rfl
 | cons o rest ih=>
  intro i t sl hp;simp only[V8,UX,ih,Zcv];cases Z6 sl o.guard with
  | none=>rfl
  | some b=>cases b<;>simp[gW,Zcv,UT]
def ZzI (m nx:Nat) (Q:Ex→St→Prop) (sl:Sl) (hp:Hp):Prop:=Q .normal { sl:=sl,hp:=hp,nx:=nx,m:=m }
def ZvD (ops:List CO) (ps:List (Nat×Nat)) (K:Sl→Hp→Prop) (sl:Sl) (hp:Hp):Prop:=Jq ops sl ps=true∧K sl hp
@[go_sem] theorem regQ_eq (m nx:Nat) (Q:Ex→St→Prop) (sl:Sl) (hp:Hp):ZzI m nx Q sl hp=Q .normal { sl:=sl,hp:=hp,nx:=nx,m:=m }:=rfl
@[go_sem] theorem seenQ_eq (ops:List CO) (ps:List (Nat×Nat)) (K:Sl→Hp→Prop) (sl:Sl) (hp:Hp):ZvD ops ps K sl hp=(Jq ops sl ps=true∧K sl hp):=rfl
@[go_sem] theorem W_skip (st:St) (Q:Ex→St→Prop):W X M .skip st Q=Q .normal st:=by simp[W,ZxK,UT]
@[go_sem] theorem W_ret (st:St) (Q:Ex→St→Prop):W X M .ret st Q=Q .ret st:=by simp[W,Zz1,UT]
@[go_sem] theorem W_exit (id:Nat) (st:St) (Q:Ex→St→Prop):W X M (.exit id) st Q=Q (.exit id) st:=by simp[W,ZxL,UT]
@[go_sem] theorem W_stuck (st:St) (Q:Ex→St→Prop):W X M .stuck st Q=False:=by
 have h:QU X M .stuck st=none:=Vm fun n=>by simp only[ZG]
 simp only[W,h,Zj7]
@[go_sem] theorem W_region (n:Nat) (ops:List CO) (st:St) (Q:Ex→St→Prop) :
  W X M (.region n none ops) st Q=Zeg X M st.nx 0 ops st.sl st.hp (ZzI st.m (st.nx+64*n) Q):=by
 rw[ZCn,W,Zun,Zkm,Zcv];rfl
theorem ZA2 (n:Nat) (ps:List (Nat×Nat)) (ops:List CO) (st:St) (Q:Ex→St→Prop) :
  W X M (.region n (some ps) ops) st Q=V8 X M st.nx 0 false ops st.sl st.hp (ZvD ops ps (ZzI st.m (st.nx+64*n) Q)):=by
 rw[ZA1,W,ZxM,Zkm,Zcv,Zpm,Zcv];congr 1
 funext r
 by_cases h:Jq ops r.1 ps=true<;>simp[h,ZvD,UT,Zj7,ZzI]
@[go_sem] theorem W_draw0 (n:Nat) (ops:List CO) (st:St) (Q:Ex→St→Prop) :
  W X M (.region n (some []) ops) st Q=V8 X M st.nx 0 false ops st.sl st.hp (ZzI st.m (st.nx+64*n) Q):=by
 rw[ZA2];congr 1
 funext sl hp
 simp[ZvD,Jq]
@[go_sem] theorem W_drawc (n:Nat) (p:Nat×Nat) (ps:List (Nat×Nat)) (ops:List CO) (st:St) (Q:Ex→St→Prop) :
  W X M (.region n (some (p :: ps)) ops) st Q=V8 X M st.nx 0 false ops st.sl st.hp (ZvD ops (p :: ps) (ZzI st.m (st.nx+64*n) Q)):=ZA2 X M n _ ops st Q
def ZyH (c:ZZ) (Q:Ex→St→Prop):Ex→St→Prop
 | .normal,st=>W X M c st Q
 | e,st=>Q e st
def blkQ (id:Nat) (Q:Ex→St→Prop):Ex→St→Prop
 | .exit j,st=>if j=id then Q .normal st else Q (.exit j) st
 | e,st=>Q e st
@[go_sem] theorem ZCo (c:ZZ) (Q:Ex→St→Prop) (st:St):ZyH X M c Q .normal st=W X M c st Q:=rfl
@[go_sem] theorem thenQ_ret (c:ZZ) (Q:Ex→St→Prop) (st:St):ZyH X M c Q .ret st=Q .ret st:=rfl
@[go_sem] theorem ZDx (c:ZZ) (Q:Ex→St→Prop) (id:Nat) (st:St):ZyH X M c Q (.exit id) st=Q (.exit id) st:=rfl
@[go_sem] theorem ZDc (id:Nat) (Q:Ex→St→Prop) (st:St):blkQ id Q .normal st=Q .normal st:=rfl
@[go_sem] theorem blkQ_ret (id:Nat) (Q:Ex→St→Prop) (st:St):blkQ id Q .ret st=Q .ret st:=rfl
@[go_sem] theorem blkQ_exit (id j:Nat) (Q:Ex→St→Prop) (st:St):blkQ id Q (.exit j) st=if j=id then Q .normal st else Q (.exit j) st:=rfl
@[go_sem] theorem W_seq (a b:ZZ) (st:St) (Q:Ex→St→Prop):W X M (.seq a b) st Q=W X M a st (ZyH X M b Q):=by
 unfold W;rw[Zz2];cases h:QU X M a st with
 | none=>rfl
 | some r=>obtain⟨e,aa⟩:=r;cases e<;>rfl
@[go_sem] theorem W_cond (c:Opd) (a b:ZZ) (st:St) (Q:Ex→St→Prop) :
  W X M (.cond c a b) st Q=UH (evO st.sl c) (W X M a st Q) (W X M b st Q):=by
 unfold W;rw[ZxN];cases h:evO st.sl c with
 | d x=>cases x with
  | bool t=>cases t<;>simp[Zhh,UH]
  | _=>rfl
 | _=>rfl
@[go_sem] theorem W_block (id:Nat) (c:ZZ) (st:St) (Q:Ex→St→Prop):W X M (.block id c) st Q=W X M c st (blkQ id Q):=by
 unfold W;rw[ZvX];cases h:QU X M c st with
 | none=>rfl
 | some r=>
  obtain⟨e,aa⟩:=r;cases e with
  | exit j=>by_cases hj:j=id<;>simp[ZgG,hj,UT,blkQ]
  | normal=>rfl
  | ret=>rfl
def keepQ (K:List Nat) (Q:Ex→St→Prop) (e:Ex) (st:St):Prop:=Q e { sl:=only K st.sl,hp:=st.hp,nx:=st.nx,m:=st.m }
@[go_sem] theorem keepQ_eq (K:List Nat) (Q:Ex→St→Prop) (e:Ex) (st:St):keepQ K Q e st=Q e { sl:=only K st.sl,hp:=st.hp,nx:=st.nx,m:=st.m }:=rfl
@[go_sem] theorem W_keep (K:List Nat) (c:ZZ) (st:St) (Q:Ex→St→Prop):W X M (.keep K c) st Q=W X M c st (keepQ K Q):=by
 unfold W;rw[ZxO];cases h:QU X M c st with
 | none=>rfl
 | some r=>rfl
def ZoS (c:ZZ) (Q:Ex→St→Prop) (r:Option St):Prop:=stW r fun st=>W X M c st Q
@[go_sem] theorem ZDy (c:ZZ) (Q:Ex→St→Prop) (st:St):ZoS X M c Q (some st)=W X M c st Q:=rfl
@[go_sem] theorem ZDz (c:ZZ) (Q:Ex→St→Prop):ZoS X M c Q none=False:=rfl
@[go_sem] theorem linkW_ite (c:ZZ) (Q:Ex→St→Prop) (p:Prop) [Decidable p] (a b:Option St):ZoS X M c Q (if p then a else b)=((p→ZoS X M c Q a)∧(¬p→ZoS X M c Q b)):=by
 by_cases h:p<;>simp[h]
@[go_sem] theorem W_link (id:Nat) (i:Opd) (j:Nat) (c:ZZ) (st:St) (Q:Ex→St→Prop):W X M (.link id i j c) st Q=ZoS X M c Q (Zep id i j st):=by
 unfold W ZoS;rw[ZxP];cases h:Zep id i j st<;>rfl
@[go_sem] theorem W_melt (c:ZZ) (st:St) (Q:Ex→St→Prop):W X M (.melt c) st Q=W X M c { sl:=st.sl,hp:=Ziv Zda st.hp,nx:=st.nx,m:=st.m } Q:=by
 unfold W;rw[ZxQ];rfl
def LW (c:ZZ) (K:List Nat) (st:St) (Q:Ex→St→Prop):Prop:=stW (Zhj X M c K st) fun r=>Q r.1 r.2
@[congr] theorem LW_congr {c:ZZ} {K K' : List Nat} {st aa : St} {Q:Ex→St→Prop} (hk:K=K') (h:st=aa):LW X M c K st Q=LW X M c K' aa Q:=by rw[h,hk]
@[go_sem] theorem W_loop (c:ZZ) (st:St) (Q:Ex→St→Prop):W X M (.loop c) st Q=LW X M c (Zjm st.sl) st Q:=by
 unfold W LW;rw[ZxR]
def ZoT (c:ZZ) (K:List Nat) (Q:Ex→St→Prop):Ex→St→Prop
 | .normal,st=>LW X M c K st Q
 | e,st=>Q e st
@[go_sem] theorem ZCp (c:ZZ) (K:List Nat) (Q:Ex→St→Prop) (st:St):ZoT X M c K Q .normal st=LW X M c K st Q:=rfl
@[go_sem] theorem nextQ_ret (c:ZZ) (K:List Nat) (Q:Ex→St→Prop) (st:St):ZoT X M c K Q .ret st=Q .ret st:=rfl
@[go_sem] theorem ZDA (c:ZZ) (K:List Nat) (Q:Ex→St→Prop) (id:Nat) (st:St):ZoT X M c K Q (.exit id) st=Q (.exit id) st:=rfl
theorem ZM {c:ZZ} {K:List Nat} {st:St} {Q:Ex→St→Prop} (h:W X M c (WM K st) (ZoT X M c K Q)):LW X M c K st Q:=by
 unfold W at h;cases hv:QU X M c (WM K st) with
 | none=>rw[hv] at h;exact h.elim
 | some r=>
  rw[hv] at h;obtain⟨e,aa⟩:=r;unfold LW;cases e with
  | normal=>rw[ZvY X M hv];exact h
  | exit id=>rw[Zpn X M (by simp) hv];exact h
  | ret=>rw[Zpn X M (by simp) hv];exact h
def Zrb (sl:Sl):Sl→Sl
 | []=>sl
 | (k,v) :: r=>Zrb (ins sl k v) r
def ZiM (hp:Hp):Hp→Hp
 | []=>hp
 | (k,o) :: r=>ZiM (ins hp k o) r
theorem LW_ind {α:Type} (S:α→St) (I:α→Prop) (μ:α→Nat) {c:ZZ} {K:List Nat} {Q:Ex→St→Prop}
  (step:∀ a,I a→(∀ b st,I b→μ b<μ a→WM K st=S b→LW X M c K st Q)→W X M c (S a) (ZoT X M c K Q)) :
  ∀ a st,I a→WM K st=S a→LW X M c K st Q:=by
 have aa:∀ n a st,μ a=n→I a→WM K st=S a→LW X M c K st Q:=by
  intro n
  induction n using Nat.strongRecOn with
  | ind n ih=>
   intro a st hn ha hs;refine ZM X M ?_;rw[hs];exact step a ha fun b ab hb ae ad=>ih (μ b) (by omega) b ab rfl hb ad
 exact fun a st ha hs=>aa _ a st rfl ha hs
theorem Zh5 {α:Type} (u:α→Sl) (uh:α→Hp) (I:α→Prop) (μ:α→Nat) (a:α) {c:ZZ} {K:List Nat} {Q:Ex→St→Prop} {st st0:St}
  (hc:WM K st=st0) (ha:I a) (h0:(⟨Zrb st0.sl (u a),ZiM st0.hp (uh a),st0.nx,st0.m⟩:St)=st0)
  (step:∀ a,I a→(∀ b st,I b→μ b<μ a→WM K st=⟨Zrb st0.sl (u b),ZiM st0.hp (uh b),st0.nx,st0.m⟩→LW X M c K st Q)→W X M c ⟨Zrb st0.sl (u a),ZiM st0.hp (uh a),st0.nx,st0.m⟩ (ZoT X M c K Q)) :
  LW X M c K st Q:=
 LW_ind X M (fun a=>⟨Zrb st0.sl (u a),ZiM st0.hp (uh a),st0.nx,st0.m⟩) I μ step a st ha (hc.trans h0.symm)
def Zt2 (m:Nat) (rs:List Zrg) (R:AV×List Zm→Prop):Ex→St→Prop:=fun e st=>stW (Zb5 m rs (some (e,st))) R
def resW (m:Nat) (hp:Hp) (R:AV×List Zm→Prop) (vs:Option (List AV)):Prop:=stW vs fun vs=>R (Vl m hp (Zcq vs))
@[go_sem] theorem resW_some (m:Nat) (hp:Hp) (R:AV×List Zm→Prop) (vs:List AV):resW m hp R (some vs)=R (Vl m hp (Zcq vs)):=rfl
@[go_sem] theorem resW_none (m:Nat) (hp:Hp) (R:AV×List Zm→Prop):resW m hp R none=False:=rfl
@[go_sem] theorem endQ_ret (m:Nat) (rs:List Zrg) (R:AV×List Zm→Prop) (st:St):Zt2 m rs R .ret st=resW m st.hp R (QG (Zna st) rs):=by
 simp only[Zt2,Zb5,Zcv];rfl
@[go_sem] theorem ZDd (m:Nat) (rs:List Zrg) (R:AV×List Zm→Prop) (st:St):Zt2 m rs R .normal st=resW m st.hp R (QG (Zna st) rs):=by
 simp only[Zt2,Zb5,Zcv];rfl
theorem ZA3 {f:Nat} {as:List AV} {h:List Zm} (fn:Zr) {R:AV×List Zm→Prop} (hx:X f=some (.text fn)) (hl:as.length≤fn.nt)
  (hr:W X M fn.body { sl:=Wd 0 as,hp:=VH 0 h,nx:=h.length,m:=h.length } (Zt2 h.length fn.res R)):∃ r,Ze X M f as h=some r∧R r:=by
 unfold W at hr;cases hv:QU X M fn.body { sl:=Wd 0 as,hp:=VH 0 h,nx:=h.length,m:=h.length } with
 | none=>rw[hv] at hr;exact hr.elim
 | some q=>
  rw[hv] at hr;obtain⟨e,st⟩:=q;simp only[UT,Zt2] at hr;cases hk:Zb5 h.length fn.res (some (e,st)) with
  | none=>rw[hk] at hr;exact hr.elim
  | some r=>rw[hk] at hr;exact⟨r,ZBh X M hx hl (by rw[hv];exact hk),hr⟩
theorem callE {f:Nat} {as:List AV} {h:List Zm} (fn:Zr) {r:AV×List Zm} (hx:X f=some (.text fn)) (hl:as.length≤fn.nt)
  (hr:W X M fn.body { sl:=Wd 0 as,hp:=VH 0 h,nx:=h.length,m:=h.length } (Zt2 h.length fn.res fun q=>q=r)):Ze X M f as h=some r:=by
 obtain⟨q,hq,rfl⟩:=ZA3 X M fn hx hl hr;exact hq
end
@[go_sem] theorem vopE_move (C:Orc) (M:Zp) (sl:Sl) (hp:Hp) (base:Nat) (x:Opd):vop C M sl hp base (.move x)=QN (evO sl x):=by simp only[vop]
@[go_sem] theorem ZDe (C:Orc) (M:Zp) (sl:Sl) (hp:Hp) (base:Nat) (s:Option Nat) (x:Opd):vop C M sl hp base (.assign s x)=ZdZ base s (evO sl x):=by simp only[vop]
@[go_sem] theorem vopE_pick (C:Orc) (M:Zp) (sl:Sl) (hp:Hp) (base:Nat) (c a b:Opd):vop C M sl hp base (.pick c a b)=ZgF (evO sl a) (evO sl b) (evO sl c):=by simp only[vop]
@[go_sem] theorem ZDB (C:Orc) (M:Zp) (sl:Sl) (hp:Hp) (base:Nat) (slc:List (Option Nat)) (cs:List AV):vop C M sl hp base (.alloc slc cs)=ZfM slc base cs:=by simp only[vop]
@[go_sem] theorem vopE_box (C:Orc) (M:Zp) (sl:Sl) (hp:Hp) (base:Nat) (x:Opd):vop C M sl hp base (.box x)=Zxr base (evO sl x):=by simp only[vop]
@[go_sem] theorem ZDC (C:Orc) (M:Zp) (sl:Sl) (hp:Hp) (base:Nat) (zs:List AV) (ps:List (Nat×Nat×Opd)):vop C M sl hp base (.build zs ps)=ZoZ zs (evP sl ps):=by simp only[vop]
@[go_sem] theorem ZCq (C:Orc) (M:Zp) (sl:Sl) (hp:Hp) (base:Nat) (s:Nat) (xs:List Opd):vop C M sl hp base (.buildSl s xs)=buildSl hp base s (evL sl xs):=by simp only[vop]
@[go_sem] theorem vopE_load (C:Orc) (M:Zp) (sl:Sl) (hp:Hp) (base:Nat) (g:Bool) (s:Nat) (a:Opd):vop C M sl hp base (.load g s a)=WB (UV hp g s (evO sl a)):=by simp only[vop]
@[go_sem] theorem ZDD (C:Orc) (M:Zp) (sl:Sl) (hp:Hp) (base:Nat) (slc:List (Option Nat)) (s:Nat) (a x:Opd):vop C M sl hp base (.store slc s a x)=ZgO (Za7 hp slc s base (evO sl x).cells (evO sl a)):=by simp only[vop]
@[go_sem] theorem ZBW (C:Orc) (M:Zp) (sl:Sl) (hp:Hp) (base:Nat) (x:Opd):vop C M sl hp base (.nilCheck x)=J9 (evO sl x):=by simp only[vop]
@[go_sem] theorem vopE_bin (C:Orc) (M:Zp) (sl:Sl) (hp:Hp) (base:Nat) (op:BinOp) (eq:Bool) (x y:Opd):vop C M sl hp base (.bin op eq x y)=Zm7 op eq (evO sl x) (evO sl y):=by simp only[vop]
@[go_sem] theorem vopE_un (C:Orc) (M:Zp) (sl:Sl) (hp:Hp) (base:Nat) (op:UnOp) (x:Opd):vop C M sl hp base (.un op x)=WB (vun op (evO sl x)):=by simp only[vop]
@[go_sem] theorem vopE_eqA (C:Orc) (M:Zp) (sl:Sl) (hp:Hp) (base:Nat) (neg:Bool) (ks:List Nat) (x y:Opd):vop C M sl hp base (.eqA neg ks x y)=Zrd neg ks (evO sl x) (evO sl y):=by simp only[vop]
@[go_sem] theorem ZDE (C:Orc) (M:Zp) (sl:Sl) (hp:Hp) (base:Nat) (k:IntKind) (x:Opd):vop C M sl hp base (.convI k x)=convI k (evO sl x):=by simp only[vop]
@[go_sem] theorem ZDF (C:Orc) (M:Zp) (sl:Sl) (hp:Hp) (base:Nat) (x:Opd):vop C M sl hp base (.convS x)=convS (evO sl x):=by simp only[vop]
@[go_sem] theorem vopE_fn (C:Orc) (M:Zp) (sl:Sl) (hp:Hp) (base:Nat) (f:Nat) (cs:List Opd):vop C M sl hp base (.fn f cs)=WB (cloV f (evL sl cs)):=by simp only[vop]
@[go_sem] theorem vopE_make (C:Orc) (M:Zp) (sl:Sl) (hp:Hp) (base:Nat) (s b:Nat) (z:D) (l c:Opd):vop C M sl hp base (.make s b z l c)=bnd (idx (evO sl l)) fun l=>bnd (idx (evO sl c)) fun c=>Zo1 base s b z l c:=by simp only[vop]
@[go_sem] theorem ZDG (C:Orc) (M:Zp) (sl:Sl) (hp:Hp) (base:Nat) (s:Nat) (x:Opd) (lo hi:Option Opd):vop C M sl hp base (.slice s x lo hi)=WB (WA hp s (evM sl lo) (evM sl hi) (evO sl x)):=by simp only[vop]
@[go_sem] theorem ZDf (C:Orc) (M:Zp) (sl:Sl) (hp:Hp) (base:Nat) (x:Opd) (lo hi:Option Opd):vop C M sl hp base (.sliceS x lo hi)=WB (sliceS (evM sl lo) (evM sl hi) (evO sl x)):=by simp only[vop]
@[go_sem] theorem ZDg (C:Orc) (M:Zp) (sl:Sl) (hp:Hp) (base:Nat) (x hi mx:Opd):vop C M sl hp base (.slice0 x hi mx)=WB (slice0 hp (evO sl x) (idx (evO sl hi)) (idx (evO sl mx))):=by simp only[vop]
@[go_sem] theorem ZDH (C:Orc) (M:Zp) (sl:Sl) (hp:Hp) (base:Nat) (off:Nat) (x:Opd):vop C M sl hp base (.shift off x)=VR off (evO sl x):=by simp only[vop]
@[go_sem] theorem vopE_part (C:Orc) (M:Zp) (sl:Sl) (hp:Hp) (base:Nat) (g:Bool) (s off:Nat) (x:Opd):vop C M sl hp base (.part g s off x)=WB (Zka g s off (evO sl x)):=by simp only[vop]
@[go_sem] theorem vopE_iaS (C:Orc) (M:Zp) (sl:Sl) (hp:Hp) (base:Nat) (s:Nat) (x i:Opd):vop C M sl hp base (.iaS s x i)=bnd (idx (evO sl i)) fun n=>Zhb hp s (evO sl x) n:=by simp only[vop]
@[go_sem] theorem vopE_iaA (C:Orc) (M:Zp) (sl:Sl) (hp:Hp) (base:Nat) (len s:Nat) (x i:Opd):vop C M sl hp base (.iaA len s x i)=bnd (idx (evO sl i)) fun n=>ZmI (evO sl x) n len s:=by simp only[vop]
@[go_sem] theorem vopE_ixS (C:Orc) (M:Zp) (sl:Sl) (hp:Hp) (base:Nat) (x i:Opd):vop C M sl hp base (.ixS x i)=bnd (idx (evO sl i)) fun n=>ZvN n (evO sl x):=by simp only[vop]
@[go_sem] theorem vopE_ixA (C:Orc) (M:Zp) (sl:Sl) (hp:Hp) (base:Nat) (g:Bool) (s len:Nat) (x i:Opd):vop C M sl hp base (.ixA g s len x i)=bnd (idx (evO sl i)) fun n=>Zxt g s len n (evO sl x):=by simp only[vop]
@[go_sem] theorem vopE_nth (C:Orc) (M:Zp) (sl:Sl) (hp:Hp) (base:Nat) (i:Nat) (x:Opd):vop C M sl hp base (.nth i x)=Zt6 i (evO sl x):=by simp only[vop]
@[go_sem] theorem vopE_len (C:Orc) (M:Zp) (sl:Sl) (hp:Hp) (base:Nat) (x:Opd):vop C M sl hp base (.len x)=bnd (Zef hp (evO sl x)) fun n=>QN (.d (.int .i64 n)):=by simp only[vop]
@[go_sem] theorem vopE_lenS (C:Orc) (M:Zp) (sl:Sl) (hp:Hp) (base:Nat) (x:Opd):vop C M sl hp base (.lenS x)=bnd (Zzd (evO sl x)) fun n=>QN (.d (.int .i64 n)):=by simp only[vop]
@[go_sem] theorem ZDh (C:Orc) (M:Zp) (sl:Sl) (hp:Hp) (base:Nat) (s b:Nat) (str flat:Bool) (x y:Opd):vop C M sl hp base (.append s b str flat x y)=Zt7 hp s b str flat base (evO sl x) (evO sl y):=by simp only[vop]
@[go_sem] theorem vopE_min (C:Orc) (M:Zp) (sl:Sl) (hp:Hp) (base:Nat) (x y:Opd):vop C M sl hp base (.min x y)=Zkd (evO sl x) (evO sl y):=by simp only[vop]
@[go_sem] theorem vopE_max (C:Orc) (M:Zp) (sl:Sl) (hp:Hp) (base:Nat) (x y:Opd):vop C M sl hp base (.max x y)=Zke (evO sl x) (evO sl y):=by simp only[vop]
@[go_sem] theorem vopE_call (C:Orc) (M:Zp) (sl:Sl) (hp:Hp) (base:Nat) (f:Opd) (as:List Opd):vop C M sl hp base (.call f as)=Zdb C M hp base (evL sl as) (evO sl f):=by simp only[vop]
@[go_sem] theorem ZDi (C:Orc) (M:Zp) (sl:Sl) (hp:Hp) (base:Nat) (s:Nat) (x lo hi mx:Opd):vop C M sl hp base (.slice3 s x lo hi mx)=WB (slice3 hp (evO sl x) (idx (evO sl lo)) (idx (evO sl hi)) (idx (evO sl mx))):=by simp only[vop]
@[go_sem] theorem ZDI (C:Orc) (M:Zp) (sl:Sl) (hp:Hp) (base:Nat) (s:Nat) (z:D) (x:Opd):vop C M sl hp base (.clear s z x)=ZgO (Zei hp s z (evO sl x)):=by simp only[vop]
@[go_sem] theorem ZCr (C:Orc) (M:Zp) (sl:Sl) (hp:Hp) (base:Nat) (s n:Nat) (xs:List Opd):vop C M sl hp base (.buildDp s n xs)=buildDp hp base s n (evL sl xs):=by simp only[vop]
@[go_sem] theorem ZDJ (C:Orc) (M:Zp) (sl:Sl) (hp:Hp) (base:Nat) (s b:Nat) (f:Bool) (x y:Opd):vop C M sl hp base (.appDp s b f x y)=Zre hp s b base (evO sl x) (evO sl y):=by simp only[vop]
@[go_sem] theorem ZDK (C:Orc) (M:Zp) (sl:Sl) (hp:Hp) (base:Nat) (s n:Nat) (x:Opd):vop C M sl hp base (.asgDp s n x)=asgDp base s n (evO sl x):=by simp only[vop]
@[go_sem] theorem ZDL (C:Orc) (M:Zp) (sl:Sl) (hp:Hp) (base:Nat):vop C M sl hp base .stuck=none:=by simp only[vop]
@[go_sem] theorem ZzJ (hp:Hp) (n:Nat) (aa:List Nat):QM hp n [] aa=aa:=by cases n<;>rfl
@[go_sem] theorem tidy_d (hp:Hp) (ids:List Nat) (x:D):Zfg hp ids (.d x)=.d x:=rfl
@[go_sem] theorem tidy_nil (hp:Hp) (ids:List Nat):Zfg hp ids .nil=.nil:=rfl
@[go_sem] theorem tidy_junk (hp:Hp) (ids:List Nat):Zfg hp ids .junk=.junk:=rfl
@[go_sem] theorem tidy_tup (hp:Hp) (ids:List Nat) (vs:List AV):Zfg hp ids (.tup vs)=ren (WH ids) (kill (Zhf hp ids (ZD (.tup vs))) (.tup vs)):=rfl
@[go_sem] theorem tidy_agg (hp:Hp) (ids:List Nat) (vs:List AV):Zfg hp ids (.agg vs)=ren (WH ids) (kill (Zhf hp ids (ZD (.agg vs))) (.agg vs)):=rfl
@[go_sem] theorem tidy_clo (hp:Hp) (ids:List Nat) (f:Nat) (vs:List AV):Zfg hp ids (.clo f vs)=ren (WH ids) (kill (Zhf hp ids (ZD (.clo f vs))) (.clo f vs)):=rfl
@[go_sem] theorem tidy_nilp (hp:Hp) (ids:List Nat):Zfg hp ids .nilp=.nilp:=rfl
@[go_sem] theorem tidy_nili (hp:Hp) (ids:List Nat):Zfg hp ids .nili=.nili:=rfl
@[go_sem] theorem tidy_pim (hp:Hp) (ids:List Nat) (cs:List D):Zfg hp ids (.pim cs)=.pim cs:=rfl
@[go_sem] theorem tidy_ptr (hp:Hp) (ids:List Nat) (id o:Nat):Zfg hp ids (.ptr id o)=if Zeo hp ids id=true then .ptr (WH ids id) o else .junk:=by
 simp only[Zfg,ZD,ZE,Zn,Zhf];split<;>simp[kill,ZV,Qf,ren,ZeR,ZeQ]
@[go_sem] theorem tidy_prow (hp:Hp) (ids:List Nat) (id s i o:Nat):Zfg hp ids (.prow id s i o)=if Zeo hp ids id=true then .prow (WH ids id) s i o else .junk:=by
 simp only[Zfg,ZD,ZE,Zn,Zhf];split<;>simp[kill,ZV,Qf,ren,ZeR,ZeQ]
@[go_sem] theorem tidy_own (hp:Hp) (ids:List Nat) (id:Nat):Zfg hp ids (.own id)=if Zeo hp ids id=true then .own (WH ids id) else .junk:=by
 simp only[Zfg,ZD,ZE,Zn,Zhf];split<;>simp[kill,ZV,Qf,ren,ZeR,ZeQ]
@[go_sem] theorem tidy_ownv (hp:Hp) (ids:List Nat) (id a b:Nat):Zfg hp ids (.ownv id a b)=if Zeo hp ids id=true then .ownv (WH ids id) a b else .junk:=by
 simp only[Zfg,ZD,ZE,Zn,Zhf];split<;>simp[kill,ZV,Qf,ren,ZeR,ZeQ]
@[go_sem] theorem ZDM (hp:Hp) (x:D):Vl 0 hp (.d x)=(.d x,[]):=by
 simp[Vl,ZD,ZE,Zn,WL,ZzJ,tidy_d,Zc6]
@[go_sem] theorem minI_eq (a b:Int):minI a b=min a b:=by unfold minI;split<;>omega
@[go_sem] theorem maxI_eq (a b:Int):maxI a b=max a b:=by unfold maxI;split<;>omega
@[go_sem] theorem negIf_f (r:Bool):Zo0 false r=r:=rfl
@[go_sem] theorem negIf_t (r:Bool):Zo0 true r=!r:=rfl
@[go_sem] theorem opt1_some (v:AV):WB (some v)=QN v:=rfl
@[go_sem] theorem opt1_none:WB none=none:=rfl
@[go_sem] theorem vbin_int (op:BinOp) (k k' : IntKind) (a b:Int):vbin op (.d (.int k a)) (.d (.int k' b))=J3 op k k' a b:=rfl
@[go_sem] theorem binV_int (op:BinOp) (eq:Bool) (k k' : IntKind) (a b:Int):Zm7 op eq (.d (.int k a)) (.d (.int k' b))=WB (J3 op k k' a b):=rfl
@[go_sem] theorem binV_str (op:BinOp) (eq:Bool) (a b:List UInt8):Zm7 op eq (.d (.str a)) (.d (.str b))=WB (asD (Zu7 op a b)):=rfl
@[go_sem] theorem int2_add (k:IntKind) (a b:Int):J3 .add k k a b=some (.d (.int k (k.wrap (a+b)))):=by simp[J3,UQ,asD,Zg]
@[go_sem] theorem int2_sub (k:IntKind) (a b:Int):J3 .sub k k a b=some (.d (.int k (k.wrap (a-b)))):=by simp[J3,UQ,asD,Zg]
@[go_sem] theorem int2_mul (k:IntKind) (a b:Int):J3 .mul k k a b=some (.d (.int k (k.wrap (a*b)))):=by simp[J3,UQ,asD,Zg]
@[go_sem] theorem int2_quo (k:IntKind) (a b:Int):J3 .quo k k a b=if b=0 then none else some (.d (.int k (k.wrap (a.tdiv b)))):=by simp only[J3,UQ,asD,if_true];split<;>rfl
@[go_sem] theorem int2_rem (k:IntKind) (a b:Int):J3 .rem k k a b=if b=0 then none else some (.d (.int k (a.tmod b))):=by simp only[J3,UQ,asD,if_true];split<;>rfl
@[go_sem] theorem int2_eql (k:IntKind) (a b:Int):J3 .eql k k a b=some (.d (.bool (decide (a=b)))):=by simp[J3,UQ,asD,Zg,BEq.beq]
@[go_sem] theorem int2_neq (k:IntKind) (a b:Int):J3 .neq k k a b=some (.d (.bool (!decide (a=b)))):=by simp[J3,UQ,asD,Zg,bne,BEq.beq]
@[go_sem] theorem int2_lss (k:IntKind) (a b:Int):J3 .lss k k a b=some (.d (.bool (decide (a<b)))):=by simp[J3,UQ,asD,Zg]
@[go_sem] theorem int2_leq (k:IntKind) (a b:Int):J3 .leq k k a b=some (.d (.bool (decide (a≤b)))):=by simp[J3,UQ,asD,Zg]
@[go_sem] theorem int2_gtr (k:IntKind) (a b:Int):J3 .gtr k k a b=some (.d (.bool (decide (b<a)))):=by simp[J3,UQ,asD,Zg]
@[go_sem] theorem int2_geq (k:IntKind) (a b:Int):J3 .geq k k a b=some (.d (.bool (decide (b≤a)))):=by simp[J3,UQ,asD,Zg]
@[go_sem] theorem guardV_t (b:Bool):ZfS true (.d (.bool b))=some b:=by cases b<;>rfl
def nb (b:Bool):Bool:=!b
@[go_sem] theorem nb_true:nb true=false:=rfl
@[go_sem] theorem nb_false:nb false=true:=rfl
@[go_sem] theorem nb_eq (b:Bool):(nb b=true)=(b=false):=by cases b<;>simp[nb]
@[go_sem] theorem guardV_f (b:Bool):ZfS false (.d (.bool b))=some (nb b):=by cases b<;>rfl
@[go_sem] theorem ZDN (w:Bool):ZfS w (.tup [])=some false:=rfl
@[go_sem] theorem ZCs (a b:Bool):ZfS true (Ziw a (.d (.bool b)))=some (a&&b):=by cases a<;>cases b<;>rfl
@[go_sem] theorem ZCt (a b:Bool):ZfS false (Ziw a (.d (.bool b)))=some (a&&nb b):=by cases a<;>cases b<;>rfl
@[go_sem] theorem iteV_true (v:AV):Ziw true v=v:=rfl
@[go_sem] theorem ZDO (v:AV):Ziw false v=.tup []:=rfl
@[go_sem] theorem ZDP (a b:AV):ZgF a b (.d (.bool true))=QN a:=rfl
@[go_sem] theorem ZDj (a b:AV):ZgF a b (.d (.bool false))=QN b:=rfl
@[go_sem] theorem pickV_or (b c:Bool):ZgF (.d (.bool true)) (Ziw (nb b) (.d (.bool c))) (.d (.bool b))=QN (.d (.bool (b || c))):=by cases b<;>rfl
@[go_sem] theorem pickV_and (b c:Bool):ZgF (Ziw b (.d (.bool c))) (.d (.bool false)) (.d (.bool b))=QN (.d (.bool (b&&c))):=by cases b<;>rfl
theorem ZDQ (a b:AV) (t:Bool):ZgF a b (.d (.bool t))=if t=true then QN a else QN b:=by cases t<;>rfl
@[go_sem] theorem dec_or (p q:Prop) [Decidable p] [Decidable q]:(decide p || decide q)=decide (p∨q):=by simp
@[go_sem] theorem dec_and (p q:Prop) [Decidable p] [Decidable q]:(decide p&&decide q)=decide (p∧q):=by simp
@[go_sem] theorem dec_not (p:Prop) [Decidable p]:(!decide p)=decide (¬p):=by simp
attribute [go_sem] Bool.or_eq_false_iff decide_eq_true_eq decide_eq_false_iff_not Bool.and_eq_true Bool.or_eq_true Bool.not_eq_true' Bool.not_eq_false' not_or Decidable.not_not
@[go_sem] theorem evO_t (sl:Sl) (n:Nat):evO sl (.t n)=gs sl n:=rfl
@[go_sem] theorem evO_v (sl:Sl) (a:AV):evO sl (.v a)=a:=rfl
@[go_sem] theorem evO_f (sl:Sl) (n:Nat):evO sl (.f n)=.clo n []:=rfl
@[go_sem] theorem gs_hit (k:Nat) (v:AV) (r:Sl):gs ((k,v) :: r) k=v:=by simp[gs,lkp,Zee]
@[go_sem] theorem gs_cons (k t:Nat) (v:AV) (r:Sl):gs ((k,v) :: r) t=if k=t then v else gs r t:=by
 by_cases h:k=t<;>simp[gs,lkp,h,Zee]
@[go_sem] theorem gs_nil (t:Nat):gs [] t=.junk:=rfl
attribute [go_sem] Zfz.eq_1 Zfz.eq_2
attribute [go_sem] ZbH.eq_1 ZbH.eq_2 ZbH.eq_3
attribute [go_sem] Zm5.eq_1 Zm5.eq_2 Zm5.eq_3
attribute [go_sem] Zb0.eq_1 Zb0.eq_2
attribute [go_sem] St.hp.eq_1
attribute [go_sem] Zck.eq_1 Zck.eq_2 Zck.eq_3
attribute [go_sem] Zee.eq_1 Zee.eq_2
attribute [go_sem] agg2.eq_1 agg2.eq_2 agg2.eq_3
attribute [go_sem] ins.eq_1 ins.eq_2
attribute [go_sem] ZfB.eq_1 ZfB.eq_2
attribute [go_sem] XY.eq_1 XY.eq_2 XY.eq_3
attribute [go_sem] St.m.eq_1
attribute [go_sem] bnd.eq_1 bnd.eq_2
attribute [go_sem] J2.eq_1 J2.eq_2 J2.eq_3
attribute [go_sem] Zu7.eq_1 Zu7.eq_2 Zu7.eq_3 Zu7.eq_4
attribute [go_sem] AV.cells.eq_1 AV.cells.eq_2 AV.cells.eq_3 AV.cells.eq_4 AV.cells.eq_5 AV.cells.eq_6 AV.cells.eq_7 AV.cells.eq_8 AV.cells.eq_9 AV.cells.eq_10 AV.cells.eq_11 AV.cells.eq_12 AV.cells.eq_13 AV.cells.eq_14 AV.cells.eq_15 AV.cells.eq_16
attribute [go_sem] Qf.eq_1 Qf.eq_2 Qf.eq_3 Qf.eq_4 Qf.eq_5 Qf.eq_6 Qf.eq_7
attribute [go_sem] AV.solid.eq_1 AV.solid.eq_2 AV.solid.eq_3 AV.solid.eq_4
attribute [go_sem] WF.eq_1 WF.eq_2
attribute [go_sem] QG.eq_1 QG.eq_2
attribute [go_sem] ZfC.eq_1 ZfC.eq_2
attribute [go_sem] J1.eq_1
attribute [go_sem] Zef.eq_1 Zef.eq_2 Zef.eq_3 Zef.eq_4 Zef.eq_5
attribute [go_sem] ZgT.eq_1 ZgT.eq_2
attribute [go_sem] D.flat.eq_1
attribute [go_sem] give.eq_1 give.eq_2
attribute [go_sem] D.beq1.eq_1 D.beq1.eq_2 D.beq1.eq_3 D.beq1.eq_4
attribute [go_sem] ZeQ.eq_1 ZeQ.eq_2 ZeQ.eq_3 ZeQ.eq_4 ZeQ.eq_5 ZeQ.eq_6 ZeQ.eq_7
attribute [go_sem] not1.eq_1 not1.eq_2
attribute [go_sem] XZ.eq_1 XZ.eq_2 XZ.eq_3
attribute [go_sem] St.nx.eq_1
attribute [go_sem] ZE.eq_1 ZE.eq_2 ZE.eq_3
attribute [go_sem] ZeR.eq_1 ZeR.eq_2 ZeR.eq_3
attribute [go_sem] ZjR.eq_1 ZjR.eq_2
attribute [go_sem] vun.eq_1 vun.eq_2 vun.eq_3
attribute [go_sem] toD.eq_1 toD.eq_2
attribute [go_sem] Zn.eq_1 Zn.eq_2 Zn.eq_3 Zn.eq_4 Zn.eq_5 Zn.eq_6 Zn.eq_7 Zn.eq_8 Zn.eq_9 Zn.eq_10 Zn.eq_11 Zn.eq_12 Zn.eq_13 Zn.eq_14 Zn.eq_15 Zn.eq_16
attribute [go_sem] D.plain.eq_1 D.plain.eq_2 D.plain.eq_3 D.plain.eq_4 D.plain.eq_5
attribute [go_sem] Qe.eq_1
attribute [go_sem] ZV.eq_1 ZV.eq_2 ZV.eq_3
attribute [go_sem] Jl.eq_1 Jl.eq_2
attribute [go_sem] ZD.eq_1 ZD.eq_2
attribute [go_sem] ZwX.eq_1
attribute [go_sem] Ziv.eq_1 Ziv.eq_2
attribute [go_sem] Zcl.eq_1 Zcl.eq_2 Zcl.eq_3 Zcl.eq_4
attribute [go_sem] St.sl.eq_1
attribute [go_sem] Zzd.eq_1 Zzd.eq_2
attribute [go_sem] Ug.eq_1 Ug.eq_2
attribute [go_sem] ZfA.eq_1 ZfA.eq_2
attribute [go_sem] ren.eq_1 ren.eq_2
attribute [go_sem] kill.eq_1 kill.eq_2
attribute [go_sem] lkp.eq_1 lkp.eq_2
attribute [go_sem] Zso.eq_1 Zso.eq_2 Zso.eq_3
attribute [go_sem] Ym.eq_1 Ym.eq_2
attribute [go_sem] beqL.eq_1 beqL.eq_2 beqL.eq_3
attribute [go_sem] D.cells.eq_1 D.cells.eq_2 D.cells.eq_3 D.cells.eq_4 D.cells.eq_5
attribute [go_sem] Zoo.eq_1 Zoo.eq_2
attribute [go_sem] Zsn.eq_1 Zsn.eq_2
attribute [go_sem] neg1.eq_1 neg1.eq_2
attribute [go_sem] Zk5.eq_1 Zk5.eq_2 Zk5.eq_3
attribute [go_sem] VQ.eq_1 VQ.eq_2 VQ.eq_3
attribute [go_sem] asD.eq_1
attribute [go_sem] UQ.eq_1 UQ.eq_2 UQ.eq_3 UQ.eq_4 UQ.eq_5 UQ.eq_6 UQ.eq_7 UQ.eq_8 UQ.eq_9 UQ.eq_10 UQ.eq_11 UQ.eq_12 UQ.eq_13 UQ.eq_14 UQ.eq_15 UQ.eq_16 UQ.eq_17
attribute [go_sem] Ziu.eq_1 Ziu.eq_2 Ziu.eq_3 Ziu.eq_4 Ziu.eq_5
attribute [go_sem] D.one.eq_1 D.one.eq_2 D.one.eq_3 D.one.eq_4 D.one.eq_5
attribute [go_sem] freeze.eq_1 freeze.eq_2
attribute [go_sem] Zeh.eq_1
attribute [go_sem] loOf.eq_1 loOf.eq_2
attribute [go_sem] Eff.on.eq_1
attribute [go_sem] Zbv.eq_1 Zbv.eq_2
attribute [go_sem] cloV.eq_1
attribute [go_sem] slice0.eq_1 slice0.eq_2
attribute [go_sem] evM.eq_1 evM.eq_2
attribute [go_sem] hiOf.eq_1 hiOf.eq_2
attribute [go_sem] Zka.eq_1 Zka.eq_2 Zka.eq_3
attribute [go_sem] ZyK.eq_1
attribute [go_sem] idx.eq_1 idx.eq_2
attribute [go_sem] WA.eq_1 WA.eq_2 WA.eq_3 WA.eq_4 WA.eq_5
attribute [go_sem] ZbK.eq_1 ZbK.eq_2 ZbK.eq_3
attribute [go_sem] Qs.eq_1 Qs.eq_2
attribute [go_sem] D.notSl.eq_1 D.notSl.eq_2
attribute [go_sem] ZA4.eq_1 ZA4.eq_2
attribute [go_sem] Zc7.eq_1 Zc7.eq_2 Zc7.eq_3 Zc7.eq_4 Zc7.eq_5 Zc7.eq_6
attribute [go_sem] CO.guard.eq_1
attribute [go_sem] ZgO.eq_1
attribute [go_sem] J7.eq_1
attribute [go_sem] Zc3.eq_1 Zc3.eq_2
attribute [go_sem] Zj9.eq_1
attribute [go_sem] Eff.adds.eq_1
attribute [go_sem] WH.eq_1 WH.eq_2
attribute [go_sem] Zh.eq_1 Zh.eq_2
attribute [go_sem] Zd.eff.eq_1
attribute [go_sem] Zha.eq_1 Zha.eq_2
attribute [go_sem] ZvN.eq_1 ZvN.eq_2
attribute [go_sem] Zll.eq_1 Zll.eq_2 Zll.eq_3
attribute [go_sem] del.eq_1 del.eq_2
attribute [go_sem] ZoZ.eq_1
attribute [go_sem] Zt3.eq_1 Zt3.eq_2
attribute [go_sem] Za8.eq_1 Za8.eq_2
attribute [go_sem] Zke.eq_1 Zke.eq_2
attribute [go_sem] J9.eq_1 J9.eq_2 J9.eq_3 J9.eq_4 J9.eq_5
attribute [go_sem] ZfM.eq_1
attribute [go_sem] slice3.eq_1
attribute [go_sem] Zc5.eq_1 Zc5.eq_2
attribute [go_sem] args.eq_1 args.eq_2
attribute [go_sem] Zjf.eq_1 Zjf.eq_2
attribute [go_sem] Zkd.eq_1 Zkd.eq_2
attribute [go_sem] Zb2.eq_1 Zb2.eq_2
attribute [go_sem] ZdY.eq_1
attribute [go_sem] Zd0.deepRow.eq_1 Zd0.deepRow.eq_2
attribute [go_sem] Zh8.eq_1 Zh8.eq_2
attribute [go_sem] Zkc.eq_1
attribute [go_sem] evL.eq_1 evL.eq_2
attribute [go_sem] Zbw.eq_1 Zbw.eq_2 Zbw.eq_3
attribute [go_sem] Zc6.eq_1 Zc6.eq_2
attribute [go_sem] ZoY.eq_1 ZoY.eq_2
attribute [go_sem] Eff.sets.eq_1
attribute [go_sem] Zek.eq_1 Zek.eq_2 Zek.eq_3
attribute [go_sem] Zj8.eq_1 Zj8.eq_2
attribute [go_sem] Ze1.eq_1
attribute [go_sem] Zg9.eq_1 Zg9.eq_2
attribute [go_sem] Za7.eq_1 Za7.eq_2 Za7.eq_3
attribute [go_sem] Zxt.eq_1
attribute [go_sem] Zre.eq_1
attribute [go_sem] VS.eq_1 VS.eq_2
attribute [go_sem] ZA5.eq_1 ZA5.eq_2
attribute [go_sem] Zlm.eq_1 Zlm.eq_2
attribute [go_sem] Zdc.eq_1 Zdc.eq_2
attribute [go_sem] Zo1.eq_1
attribute [go_sem] buildDp.eq_1 buildDp.eq_2
attribute [go_sem] AV.atom.eq_1 AV.atom.eq_2 AV.atom.eq_3 AV.atom.eq_4 AV.atom.eq_5
attribute [go_sem] Zt7.eq_1
attribute [go_sem] Eff.dels.eq_1
attribute [go_sem] ZdX.eq_1 ZdX.eq_2 ZdX.eq_3
attribute [go_sem] mat.eq_1 mat.eq_2 mat.eq_3
attribute [go_sem] ZU.eq_1
attribute [go_sem] Zc9.eq_1 Zc9.eq_2
attribute [go_sem] ZvK.eq_1 ZvK.eq_2
attribute [go_sem] Zt5.eq_1
attribute [go_sem] Zxr.eq_1
attribute [go_sem] Ui.eq_1
attribute [go_sem] QB.eq_1 QB.eq_2 QB.eq_3 QB.eq_4
attribute [go_sem] Zxs.eq_1
attribute [go_sem] Ze2.eq_1 Ze2.eq_2
attribute [go_sem] ZvP.eq_1 ZvP.eq_2
attribute [go_sem] Zg8.eq_1 Zg8.eq_2 Zg8.eq_3 Zg8.eq_4
attribute [go_sem] Zjd.eq_1 Zjd.eq_2
attribute [go_sem] ZfL.eq_1 ZfL.eq_2
attribute [go_sem] Ze4.eq_1 Ze4.eq_2 Ze4.eq_3 Ze4.eq_4 Ze4.eq_5
attribute [go_sem] Zt4.eq_1 Zt4.eq_2
attribute [go_sem] Zln.eq_1
attribute [go_sem] Zd1.eq_1 Zd1.eq_2
attribute [go_sem] convS.eq_1 convS.eq_2
attribute [go_sem] Zh9.eq_1 Zh9.eq_2
attribute [go_sem] CO.tl.eq_1
attribute [go_sem] Vb.eq_1 Vb.eq_2 Vb.eq_3
attribute [go_sem] CO.dst.eq_1
attribute [go_sem] teOf.eq_1
attribute [go_sem] Zxu.eq_1 Zxu.eq_2 Zxu.eq_3
attribute [go_sem] Zg7.eq_1
attribute [go_sem] Zjg.eq_1 Zjg.eq_2
attribute [go_sem] Zd0.eq_1 Zd0.eq_2 Zd0.eq_3 Zd0.eq_4
attribute [go_sem] Zkb.eq_1 Zkb.eq_2
attribute [go_sem] Zcz.eq_1 Zcz.eq_2 Zcz.eq_3
attribute [go_sem] ZsR.eq_1
attribute [go_sem] Eff.val.eq_1
attribute [go_sem] sliceS.eq_1 sliceS.eq_2
attribute [go_sem] YY.eq_1 YY.eq_2 YY.eq_3
attribute [go_sem] buildSl.eq_1 buildSl.eq_2
attribute [go_sem] UV.eq_1 UV.eq_2 UV.eq_3 UV.eq_4
attribute [go_sem] ZaW.eq_1 ZaW.eq_2 ZaW.eq_3 ZaW.eq_4 ZaW.eq_5
attribute [go_sem] ZmH.eq_1 ZmH.eq_2
attribute [go_sem] ZmI.eq_1
attribute [go_sem] evP.eq_1 evP.eq_2
attribute [go_sem] Zda.eq_1 Zda.eq_2
attribute [go_sem] Zcn.eq_1
attribute [go_sem] Ze3.eq_1
attribute [go_sem] ZsQ.eq_1 ZsQ.eq_2
attribute [go_sem] Zo0.eq_1
attribute [go_sem] WW.eq_1
attribute [go_sem] ZvO.eq_1
attribute [go_sem] bnT.eq_1 bnT.eq_2
attribute [go_sem] Zc4.eq_1 Zc4.eq_2
attribute [go_sem] J6.eq_1 J6.eq_2
attribute [go_sem] Zdb.eq_1 Zdb.eq_2
attribute [go_sem] asgDp.eq_1 asgDp.eq_2
attribute [go_sem] Zjc.eq_1 Zjc.eq_2 Zjc.eq_3
attribute [go_sem] ZvL.eq_1 ZvL.eq_2
attribute [go_sem] CO.op.eq_1
attribute [go_sem] ZdZ.eq_1 ZdZ.eq_2
attribute [go_sem] Zei.eq_1 Zei.eq_2
attribute [go_sem] ZzS.eq_1 ZzS.eq_2
attribute [go_sem] Zt6.eq_1 Zt6.eq_2
attribute [go_sem] Zje.eq_1 Zje.eq_2
attribute [go_sem] Zej.eq_1 Zej.eq_2 Zej.eq_3 Zej.eq_4 Zej.eq_5 Zej.eq_6 Zej.eq_7 Zej.eq_8 Zej.eq_9
attribute [go_sem] J8.eq_1
attribute [go_sem] VR.eq_1 VR.eq_2 VR.eq_3 VR.eq_4
attribute [go_sem] Eff.frz.eq_1
attribute [go_sem] Qi.eq_1 Qi.eq_2
attribute [go_sem] Zh7.eq_1 Zh7.eq_2
attribute [go_sem] Zd.gone.eq_1
attribute [go_sem] meltIn.eq_1 meltIn.eq_2
attribute [go_sem] Zhb.eq_1
attribute [go_sem] ZvM.eq_1 ZvM.eq_2
attribute [go_sem] convI.eq_1 convI.eq_2
attribute [go_sem] Zoe.eq_1 Zoe.eq_2
attribute [go_sem] bd.eq_1
attribute [go_sem] Zc8.eq_1 Zc8.eq_2
attribute [go_sem] X1.eq_1
attribute [go_sem] Ze5.eq_1 Ze5.eq_2
attribute [go_sem] Zrd.eq_1 Zrd.eq_2
attribute [go_sem] ZyP.eq_1 ZyP.eq_2
attribute [go_sem] ZL.eq_1 ZL.eq_2 ZL.eq_3 ZL.eq_4 ZL.eq_5 ZL.eq_6 ZL.eq_7 ZL.eq_8 ZL.eq_9 ZL.eq_10 ZL.eq_11 ZL.eq_12 ZL.eq_13 ZL.eq_14 ZL.eq_15 ZL.eq_16 ZL.eq_17 ZL.eq_18 ZL.eq_19 ZL.eq_20 ZL.eq_21 ZL.eq_22 ZL.eq_23 ZL.eq_24 ZL.eq_25 ZL.eq_26 ZL.eq_27 ZL.eq_28 ZL.eq_29 ZL.eq_30 ZL.eq_31 ZL.eq_32 ZL.eq_33 ZL.eq_34 ZL.eq_35 ZL.eq_36 ZL.eq_37 ZL.eq_38 ZL.eq_39
attribute [go_sem] JB.eq_1 JB.eq_2 JB.eq_3 JB.eq_4 JB.eq_5
attribute [go_sem] Zhg.eq_1
attribute [go_sem] Zuj.eq_1 Zuj.eq_2
attribute [go_sem] Zcq.eq_1 Zcq.eq_2
attribute [go_sem] Zep.eq_1
attribute [go_sem] Zen.eq_1 Zen.eq_2 Zen.eq_3 Zen.eq_4 Zen.eq_5
attribute [go_sem] Jq.eq_1 Jq.eq_2
attribute [go_sem] Zpl.eq_1 Zpl.eq_2
attribute [go_sem] Xe.eq_1 Xe.eq_2
attribute [go_sem] only.eq_1 only.eq_2
attribute [go_sem] ZxH.eq_1 ZxH.eq_2
attribute [go_sem] Zhe.eq_1 Zhe.eq_2
attribute [go_sem] Wd.eq_1 Wd.eq_2
attribute [go_sem] okL.eq_1 okL.eq_2
attribute [go_sem] okC.eq_1 okC.eq_2 okC.eq_3 okC.eq_4 okC.eq_5 okC.eq_6 okC.eq_7 okC.eq_8 okC.eq_9 okC.eq_10
attribute [go_sem] Zog.eq_1 Zog.eq_2
attribute [go_sem] Zjm.eq_1 Zjm.eq_2
attribute [go_sem] ZfT.eq_1 ZfT.eq_2 ZfT.eq_3
attribute [go_sem] Zig.eq_1 Zig.eq_2
attribute [go_sem] Zhf.eq_1 Zhf.eq_2
attribute [go_sem] Xr.eq_1 Xr.eq_2
attribute [go_sem] Zt.eq_1 Zt.eq_2
attribute [go_sem] Wc.eq_1 Wc.eq_2 Wc.eq_3
attribute [go_sem] Zkl.eq_1
attribute [go_sem] VH.eq_1 VH.eq_2
attribute [go_sem] Zaf.eq_1 Zaf.eq_2
attribute [go_sem] CO.starts.eq_1
attribute [go_sem] Ve.eq_1 Ve.eq_2
attribute [go_sem] QZ.eq_1 QZ.eq_2
attribute [go_sem] ZyO.eq_1 ZyO.eq_2
attribute [go_sem] Zly.eq_1
attribute [go_sem] ZfV.eq_1 ZfV.eq_2
attribute [go_sem] WL.eq_1 WL.eq_2
attribute [go_sem] Zeo.eq_1
attribute [go_sem] Zr.body.eq_1
attribute [go_sem] Zjn.eq_1 Zjn.eq_2
attribute [go_sem] Jp.eq_1 Jp.eq_2 Jp.eq_3 Jp.eq_4 Jp.eq_5 Jp.eq_6
attribute [go_sem] Zr.res.eq_1
attribute [go_sem] Vk.eq_1 Vk.eq_2
attribute [go_sem] YR.eq_1 YR.eq_2 YR.eq_3 YR.eq_4 YR.eq_5 YR.eq_6 YR.eq_7 YR.eq_8 YR.eq_9 YR.eq_10 YR.eq_11 YR.eq_12
attribute [go_sem] Zna.eq_1 Zna.eq_2
attribute [go_sem] Wb.eq_1 Wb.eq_2
attribute [go_sem] Zr.nt.eq_1
attribute [go_sem] okD.eq_1 okD.eq_2
attribute [go_sem] Zrd.eq_1 ZaW.eq_1 ZaW.eq_2 ZaW.eq_3 ZaW.eq_4
attribute [go_sem] WM.eq_1 Zdh.eq_1 Zdh.eq_2 Zdh.eq_3 Zdh.eq_4 Zdh.eq_5 Zdh.eq_6 Zdh.eq_7 Zdh.eq_8 Zdh.eq_9 Zdh.eq_10 Vl.eq_1
attribute [go_sem] QM.eq_3 Xd.eq_1 AV.atom.eq_1 AV.atom.eq_2 AV.atom.eq_3 AV.atom.eq_4
attribute [go_sem] Zrb.eq_1 Zrb.eq_2 ZiM.eq_1 ZiM.eq_2
attribute [go_sem] Zg ZAw ZB3
attribute [go_sem] List.map_cons List.map_nil List.flatMap_cons List.flatMap_nil List.append_nil List.nil_append List.cons_append List.length_cons List.length_nil List.all_cons List.all_nil List.any_cons List.any_nil List.contains_cons List.contains_nil List.filter_cons List.filter_nil List.drop_zero List.drop_succ_cons List.drop_nil List.take_zero List.take_succ_cons List.take_nil List.getElem?_cons_zero List.getElem?_cons_succ List.getElem?_nil Option.map_some Option.map_none Bool.and_true Bool.true_and Bool.and_false Bool.false_and Bool.or_true Bool.true_or Bool.or_false Bool.false_or Bool.not_true Bool.not_false decide_true decide_false and_true true_and and_false false_and not_true not_false_eq_true or_true true_or or_false false_or if_true if_false true_implies false_implies implies_true imp_self eq_self ne_eq beq_self_eq_true Bool.true_eq_false Bool.false_eq_true List.isEmpty_nil List.isEmpty_cons List.range_zero List.set_cons_zero List.set_cons_succ Option.some.injEq reduceCtorEq Nat.reduceLeDiff
def ZoU (hp:Hp):List Nat→List Nat
 | []=>[]
 | i :: r=>if Vb (lkp hp i)=true then i :: ZoU hp r else ZoU hp r
theorem gE (hp:Hp) (ids:List Nat):(ids.filter fun i=>Vb (lkp hp i))=ZoU hp ids:=by
 induction ids with
 | nil=>rfl
 | cons i r ih=>simp only[List.filter_cons,ZoU,ih]
def ZsJ (hp:Hp) (rs:List Nat):List Nat→Bool
 | []=>true
 | i :: r=>(Vb (lkp hp i) || rs.contains i)&&ZsJ hp rs r
def ZsK (hp:Hp):List Nat→Bool
 | []=>false
 | i :: r=>Zb2 (lkp hp i) || ZsK hp r
theorem gG (hp:Hp) (ids:List Nat):(ids.any fun i=>Zb2 (lkp hp i))=ZsK hp ids:=by
 induction ids with
 | nil=>rfl
 | cons i r ih=>simp only[List.any_cons,ZsK,ih]
attribute [go_sem] ZsK.eq_1 ZsK.eq_2
@[go_sem] theorem appTo_nil (hp:Hp) (s b:Nat) (str flat:Bool) (base:Nat) (y:AV):Ze6 hp s b str flat base y .nil=VS hp s b str flat base .nil y ([]++YC hp y):=rfl
@[go_sem] theorem appTo_own (hp:Hp) (s b:Nat) (str flat:Bool) (base:Nat) (y:AV) (k:Nat):Ze6 hp s b str flat base y (.own k)=VS hp s b str flat base (.own k) y ((if Zb2 (lkp hp k)=true then [k] else [])++YC hp y):=rfl
@[go_sem] theorem ZDR (hp:Hp) (s b:Nat) (str flat:Bool) (base:Nat) (y:AV) (k o n:Nat):Ze6 hp s b str flat base y (.ownv k o n)=VS hp s b str flat base (.ownv k o n) y ([]++YC hp y):=rfl
@[go_sem] theorem deepId_d (hp:Hp) (x:D):YC hp (.d x)=[]:=rfl
@[go_sem] theorem ZDS (hp:Hp):YC hp .nil=[]:=rfl
@[go_sem] theorem ZDk (hp:Hp) (k o n:Nat):YC hp (.ownv k o n)=[]:=rfl
@[go_sem] theorem ZDT (hp:Hp) (k:Nat):YC hp (.own k)=if Zb2 (lkp hp k)=true then [k] else []:=rfl
@[go_sem] theorem appTo_sub (hp:Hp) (s b:Nat) (str flat:Bool) (base:Nat) (y:AV) (id nm:Nat):Ze6 hp s b str flat base y (.sub id nm)=if str then none else bnd (Ze4 hp true y) fun q=>if (Zck y).contains id then none else Zjg s b base id nm q (lkp hp id):=rfl
theorem gF (hp:Hp) (rs ids:List Nat):Zcy hp rs ids=ZsJ hp rs ids:=by
 induction ids with
 | nil=>rfl
 | cons i r ih=>simp only[Zcy,Lr,ZsJ] at ih ⊢;rw[ih]
attribute [go_sem] ZoU.eq_1 ZoU.eq_2 ZsJ.eq_1 ZsJ.eq_2
@[go_sem] theorem okV_d (x:D):okV (.d x)=true:=rfl
@[go_sem] theorem okV_nil:okV .nil=true:=rfl
@[go_sem] theorem okV_nilp:okV .nilp=true:=rfl
@[go_sem] theorem okV_nili:okV .nili=true:=rfl
@[go_sem] theorem okV_ptr (a b:Nat):okV (.ptr a b)=true:=rfl
@[go_sem] theorem okV_prow (a b c e:Nat):okV (.prow a b c e)=true:=rfl
@[go_sem] theorem okV_pim (cs:List D):okV (.pim cs)=true:=rfl
@[go_sem] theorem okV_own (a:Nat):okV (.own a)=true:=rfl
@[go_sem] theorem okV_ownv (a b c:Nat):okV (.ownv a b c)=true:=rfl
@[go_sem] theorem okV_agg (cs:List AV):okV (.agg cs)=Zuj cs:=rfl
@[go_sem] theorem okV_tup0:okV (.tup [])=true:=rfl
@[go_sem] theorem ZDl (sl:Sl) (a:COp) (k:Nat):seenSrc sl a (.own k)=Xr sl k (ZL a):=rfl
@[go_sem] theorem seenSrc_d (sl:Sl) (a:COp) (x:D):seenSrc sl a (.d x)=true:=rfl
@[go_sem] theorem ZDm (sl:Sl) (a:COp):seenSrc sl a .nil=true:=rfl
@[go_sem] theorem ZCu (sl:Sl) (a:COp) (x y z:Nat):seenSrc sl a (.ownv x y z)=true:=rfl
@[go_sem] theorem okV_iteV (b:Bool) (v:AV):okV (Ziw b v)=(!b || okV v):=by cases b<;>simp[Ziw,okV]
@[go_sem] theorem awayV_d (sl:Sl) (xs:List Opd) (x:D):Zdi sl xs (.d x)=true:=rfl
@[go_sem] theorem awayV_nil (sl:Sl) (xs:List Opd):Zdi sl xs .nil=true:=rfl
@[go_sem] theorem ZDU (sl:Sl) (xs:List Opd):Zdi sl xs .nilp=true:=rfl
@[go_sem] theorem awayV_ptr (sl:Sl) (xs:List Opd) (k o:Nat):Zdi sl xs (.ptr k o)=Xr sl k xs:=rfl
@[go_sem] theorem awayV_pim (sl:Sl) (xs:List Opd) (cs:List D):Zdi sl xs (.pim cs)=true:=rfl
@[go_sem] theorem awayV_own (sl:Sl) (xs:List Opd) (a:Nat):Zdi sl xs (.own a)=true:=rfl
@[go_sem] theorem ZDV (sl:Sl) (xs:List Opd) (a b c:Nat):Zdi sl xs (.ownv a b c)=true:=rfl
@[go_sem] theorem awayV_agg (sl:Sl) (xs:List Opd) (cs:List AV):Zdi sl xs (.agg cs)=true:=rfl
@[go_sem] theorem awayV_tup (sl:Sl) (xs:List Opd) (cs:List AV):Zdi sl xs (.tup cs)=true:=rfl
end Go.Abs.E
