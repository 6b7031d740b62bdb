/- Own text. -/
import Derived.Test.YtcefneehgbiebaaGreatDoorAbsRun
set_option linter.unusedVariables false
set_option linter.unusedSimpArgs false
namespace Go.Abs.E
open Go Go.Abs
abbrev _root_.Go.Abs.Opd.i (n:Int):Opd:=.v (.d (.int .i64 n))
abbrev _root_.Go.Abs.Opd.b (x:Bool):Opd:=.v (.d (.bool x))
def stW {α:Type} (x:Option α) (K:α→Prop):Prop:=match x with
 | some a=>K a
 | none=>False
def gW (x:Option Bool) (A B:Prop):Prop:=match x with
 | some b=>(b=true→A)∧(b=false→B)
 | none=>False
def UR (v:AV) (A B:Prop):Prop:=match v with
 | .d (.bool t)=>(t=true→A)∧(t=false→B)
 | _=>False
theorem Jn {α:Type} (a:α) (K:α→Prop):stW (some a) K=K a:=rfl
theorem ZmV {α:Type} (K:α→Prop):stW none K=False:=rfl
theorem ZcM {α β:Type} (x:Option α) (f:α→Option β) (K:β→Prop):stW (bnd x f) K=stW x fun a=>stW (f a) K:=by cases x<;>rfl
@[go_sem] theorem ZyW (A B:Prop):gW (some true) A B=A:=by simp[gW]
@[go_sem] theorem gW_false (A B:Prop):gW (some false) A B=B:=by simp[gW]
@[go_sem] theorem gW_dec (p:Prop) [Decidable p] (A B:Prop):gW (some (decide p)) A B=((p→A)∧(¬p→B)):=by simp[gW]
@[go_sem] theorem gW_not (b:Bool) (A B:Prop):gW (some (!b)) A B=gW (some b) B A:=by cases b<;>simp[gW]
theorem gW_some (b:Bool) (A B:Prop):gW (some b) A B=((b=true→A)∧(b=false→B)):=rfl
@[go_sem] theorem ZDc (A B:Prop):UR (.d (.bool true)) A B=A:=by simp[UR]
@[go_sem] theorem ZCP (A B:Prop):UR (.d (.bool false)) A B=B:=by simp[UR]
@[go_sem] theorem condW_dec (p:Prop) [Decidable p] (A B:Prop):UR (.d (.bool (decide p))) A B=((p→A)∧(¬p→B)):=by simp[UR]
@[go_sem] theorem condW_not (b:Bool) (A B:Prop):UR (.d (.bool (!b))) A B=UR (.d (.bool b)) B A:=by cases b<;>simp[UR]
@[go_sem] theorem condW_and (a b:Bool) (A B:Prop):UR (.d (.bool (a&&b))) A B=UR (.d (.bool a)) (UR (.d (.bool b)) A B) B:=by cases a<;>cases b<;>simp[UR]
@[go_sem] theorem condW_or (a b:Bool) (A B:Prop):UR (.d (.bool (a || b))) A B=UR (.d (.bool a)) A (UR (.d (.bool b)) A B):=by cases a<;>cases b<;>simp[UR]
@[go_sem] theorem ZDd (b:Bool) (A B:Prop):UR (.d (.bool b)) A B=((b=true→A)∧(b=false→B)):=rfl
@[congr] theorem gW_congr {x y:Option Bool} {A B:Prop} (h:x=y):gW x A B=gW y A B:=by rw[h]
@[congr] theorem ZCQ {v w:AV} {A B:Prop} (h:v=w):UR v A B=UR w A B:=by rw[h]
section
variable (X:Fns) (M:Zp)
noncomputable def ZeU (nx:Nat):Nat→List CO→Sl→Hp→(Sl→Hp→Prop)→Prop
 | _,[],sl,hp,K=>K sl hp
 | i,o :: rest,sl,hp,K=>gW (Z7 sl o.guard)
   (stW (Y3 (nx+64*i) o.dst sl hp (vop (Ze X M) M sl hp (nx+64*i) o.op)) fun r=>ZeU nx (i+1) rest r.1 r.2 K)
   (ZeU nx (i+1) rest (Zt sl o.dst (.tup [])) hp K)
def Zcx (nx i:Nat) (d:Option Nat) (rest:List CO) (sl:Sl) (hp:Hp) (K:Sl→Hp→Prop) (e:Option Zd):Prop:=
 stW (Y3 (nx+64*i) d sl hp e) fun r=>ZeU X M nx (i+1) rest r.1 r.2 K
@[go_sem] theorem opsW_nil (nx i:Nat) (sl:Sl) (hp:Hp) (K:Sl→Hp→Prop):ZeU X M nx i [] sl hp K=K sl hp:=rfl
@[go_sem] theorem opsW_cons (nx i:Nat) (d:Option Nat) (tl:Bool) (op:COp) (aa:List CO) (sl:Sl) (hp:Hp) (K:Sl→Hp→Prop) :
  ZeU X M nx i (⟨d,none,op,tl⟩ :: aa) sl hp K=Zcx X M nx i d aa sl hp K (vop (Ze X M) M sl hp (nx+64*i) op):=by
 simp[ZeU,Zcx,Z7,ZyW]
def Zj9 (b:Bool) (v:AV):AV:=if b then v else .tup []
def ZaN (b:Bool) (nx i:Nat) (d:Option Nat) (rest:List CO) (sl:Sl) (hp:Hp) (K:Sl→Hp→Prop) (e:Option Zd):Prop:=
 gW (some b) (Zcx X M nx i d rest sl hp K e) (ZeU X M nx (i+1) rest (Zt sl d (.tup [])) hp K)
def ZuO (g:Option Bool) (nx i:Nat) (d:Option Nat) (op:COp) (rest:List CO) (sl:Sl) (hp:Hp) (K:Sl→Hp→Prop):Prop:=
 gW g (Zcx X M nx i d rest sl hp K (vop (Ze X M) M sl hp (nx+64*i) op)) (ZeU X M nx (i+1) rest (Zt sl d (.tup [])) hp K)
@[go_sem] theorem ZDe (nx i g:Nat) (w:Bool) (d:Option Nat) (tl:Bool) (op:COp) (aa:List CO) (sl:Sl) (hp:Hp) (K:Sl→Hp→Prop) :
  ZeU X M nx i (⟨d,some (g,w),op,tl⟩ :: aa) sl hp K=ZuO X M (Zg2 w (gs sl g)) nx i d op aa sl hp K:=rfl
@[go_sem] theorem ZCR (b:Bool) (nx i:Nat) (d:Option Nat) (op:COp) (aa:List CO) (sl:Sl) (hp:Hp) (K:Sl→Hp→Prop) :
  ZuO X M (some b) nx i d op aa sl hp K=ZaN X M b nx i d aa sl hp K (vop (Ze X M) M sl hp (nx+64*i) op):=rfl
@[go_sem] theorem gA (nx i:Nat) (d:Option Nat) (aa:List CO) (sl:Sl) (hp:Hp) (K:Sl→Hp→Prop) (e:Option Zd) :
  ZaN X M true nx i d aa sl hp K e=Zcx X M nx i d aa sl hp K e:=by simp[ZaN,gW]
@[go_sem] theorem gB (nx i:Nat) (d:Option Nat) (aa:List CO) (sl:Sl) (hp:Hp) (K:Sl→Hp→Prop) (e:Option Zd) :
  ZaN X M false nx i d aa sl hp K e=ZeU X M nx (i+1) aa (Zt sl d (.tup [])) hp K:=by simp[ZaN,gW]
@[go_sem] theorem ZuP (b:Bool) (nx i:Nat) (d:Option Nat) (aa:List CO) (sl:Sl) (hp:Hp) (K:Sl→Hp→Prop) (v:AV) :
  ZaN X M b nx i d aa sl hp K (QR v)=ZeU X M nx (i+1) aa (Zt sl d (Zj9 b v)) hp K:=by
 cases b
 ·simp[ZaN,gW,Zj9]
 ·simp only[ZaN,gW,Zj9,Km,true_implies,L9,false_implies,and_true];rfl
@[go_sem] theorem ZCS (b:Bool) (nx i:Nat) (d:Option Nat) (aa:List CO) (sl:Sl) (hp:Hp) (K:Sl→Hp→Prop) (v:AV) :
  ZaN X M b nx i d aa sl hp K (some { eff := { val:=v,adds:=[],sets:=[],dels:=[],frz:=[] },gone:=[] })=ZeU X M nx (i+1) aa (Zt sl d (Zj9 b v)) hp K:=ZuP X M b nx i d aa sl hp K v
@[congr] theorem ZCm {g g' : Option Bool} {nx i:Nat} {d:Option Nat} {op:COp} {aa:List CO} {sl:Sl} {hp:Hp} {K:Sl→Hp→Prop} (h:g=g') :
  ZuO X M g nx i d op aa sl hp K=ZuO X M g' nx i d op aa sl hp K:=by rw[h]
@[congr] theorem ZCn {b b' : Bool} {nx i:Nat} {d:Option Nat} {aa:List CO} {sl:Sl} {hp:Hp} {K:Sl→Hp→Prop} {e e' : Option Zd} (hb:b=b') (h:b'=true→e=e') :
  ZaN X M b nx i d aa sl hp K e=ZaN X M b' nx i d aa sl hp K e':=by
 subst hb;cases b
 ·simp[ZaN,gW]
 ·rw[h rfl]
@[go_sem] theorem ZCT (nx i:Nat) (d:Option Nat) (aa:List CO) (sl:Sl) (hp:Hp) (K:Sl→Hp→Prop) (v:AV) :
  Zcx X M nx i d aa sl hp K (QR v)=ZeU X M nx (i+1) aa (Zt sl d v) hp K:=rfl
@[go_sem] theorem ZDf (nx i:Nat) (d:Option Nat) (aa:List CO) (sl:Sl) (hp:Hp) (K:Sl→Hp→Prop) (v:AV) :
  Zcx X M nx i d aa sl hp K (some { eff := { val:=v,adds:=[],sets:=[],dels:=[],frz:=[] },gone:=[] })=ZeU X M nx (i+1) aa (Zt sl d v) hp K:=rfl
@[go_sem] theorem ZDg (nx i:Nat) (d:Option Nat) (aa:List CO) (sl:Sl) (hp:Hp) (K:Sl→Hp→Prop) (e:Zd) :
  Zcx X M nx i d aa sl hp K (some e)=(Q0 (nx+64*i) (nx+64*i+64) e.eff.adds=true∧ZeU X M nx (i+1) aa (Zt (Xi e.gone sl) d e.eff.val) (e.eff.on (Vl e.gone hp)) K):=by
 unfold Zcx Y3;rw[Zg];split<;>rename_i h
 ·simp only[Jn,h,true_and];rfl
 ·simp only[ZmV,h,false_and,Ka]
@[go_sem] theorem ZDh (nx i:Nat) (d:Option Nat) (aa:List CO) (sl:Sl) (hp:Hp) (K:Sl→Hp→Prop):Zcx X M nx i d aa sl hp K none=False:=rfl
@[go_sem] theorem stepW_ite (nx i:Nat) (d:Option Nat) (aa:List CO) (sl:Sl) (hp:Hp) (K:Sl→Hp→Prop) (c:Prop) [Decidable c] (a b:Option Zd) :
  Zcx X M nx i d aa sl hp K (if c then a else b)=((c→Zcx X M nx i d aa sl hp K a)∧(¬c→Zcx X M nx i d aa sl hp K b)):=by
 by_cases h:c<;>simp[h]
noncomputable def Wk (nx:Nat):Nat→Bool→List CO→Sl→Hp→(Sl→Hp→Prop)→Prop
 | _,_,[],sl,hp,K=>K sl hp
 | i,tail,o :: rest,sl,hp,K=>gW (Z7 sl o.guard)
   (stW (Y3 (nx+64*i) o.dst sl hp (WY (Ze X M) M nx i (CO.starts o) o.op sl hp)) fun r=>Wk nx (i+1) tail rest r.1 r.2 K)
   (Wk nx (i+1) tail rest (Zt sl o.dst (.tup [])) hp K)
def UW (nx i:Nat) (t:Bool) (d:Option Nat) (rest:List CO) (sl:Sl) (hp:Hp) (K:Sl→Hp→Prop) (e:Option Zd):Prop:=
 stW (Y3 (nx+64*i) d sl hp (if t then e else ZdY e)) fun r=>Wk X M nx (i+1) false rest r.1 r.2 K
@[go_sem] theorem opsDW_nil (nx i:Nat) (t:Bool) (sl:Sl) (hp:Hp) (K:Sl→Hp→Prop):Wk X M nx i t [] sl hp K=K sl hp:=rfl
@[go_sem] theorem ZDi (nx i:Nat) (d:Option Nat) (tl:Bool) (op:COp) (aa:List CO) (sl:Sl) (hp:Hp) (K:Sl→Hp→Prop) :
  Wk X M nx i false (⟨d,none,op,tl⟩ :: aa) sl hp K=UW X M nx i (ZjX op || tl) d aa sl hp K (vop (Ze X M) M sl hp (nx+64*i) op):=by
 simp[Wk,UW,Z7,ZyW,WY,CO.starts]
def WQ (b:Bool) (nx i:Nat) (t:Bool) (d:Option Nat) (rest:List CO) (sl:Sl) (hp:Hp) (K:Sl→Hp→Prop) (e:Option Zd):Prop:=
 gW (some b) (UW X M nx i t d rest sl hp K e) (Wk X M nx (i+1) false rest (Zt sl d (.tup [])) hp K)
def ZpY (g:Option Bool) (nx i:Nat) (t:Bool) (d:Option Nat) (op:COp) (rest:List CO) (sl:Sl) (hp:Hp) (K:Sl→Hp→Prop):Prop:=
 gW g (UW X M nx i t d rest sl hp K (vop (Ze X M) M sl hp (nx+64*i) op)) (Wk X M nx (i+1) false rest (Zt sl d (.tup [])) hp K)
@[go_sem] theorem ZCU (nx i g:Nat) (w:Bool) (d:Option Nat) (tl:Bool) (op:COp) (aa:List CO) (sl:Sl) (hp:Hp) (K:Sl→Hp→Prop) :
  Wk X M nx i false (⟨d,some (g,w),op,tl⟩ :: aa) sl hp K=ZpY X M (Zg2 w (gs sl g)) nx i (ZjX op || tl) d op aa sl hp K:=rfl
@[go_sem] theorem ZCo (b:Bool) (nx i:Nat) (t:Bool) (d:Option Nat) (op:COp) (aa:List CO) (sl:Sl) (hp:Hp) (K:Sl→Hp→Prop) :
  ZpY X M (some b) nx i t d op aa sl hp K=WQ X M b nx i t d aa sl hp K (vop (Ze X M) M sl hp (nx+64*i) op):=rfl
@[go_sem] theorem gC (nx i:Nat) (t:Bool) (d:Option Nat) (aa:List CO) (sl:Sl) (hp:Hp) (K:Sl→Hp→Prop) (e:Option Zd) :
  WQ X M true nx i t d aa sl hp K e=UW X M nx i t d aa sl hp K e:=by simp[WQ,gW]
@[go_sem] theorem gD (nx i:Nat) (t:Bool) (d:Option Nat) (aa:List CO) (sl:Sl) (hp:Hp) (K:Sl→Hp→Prop) (e:Option Zd) :
  WQ X M false nx i t d aa sl hp K e=Wk X M nx (i+1) false aa (Zt sl d (.tup [])) hp K:=by simp[WQ,gW]
@[go_sem] theorem ZsQ (b:Bool) (nx i:Nat) (t:Bool) (d:Option Nat) (aa:List CO) (sl:Sl) (hp:Hp) (K:Sl→Hp→Prop) (v:AV) :
  WQ X M b nx i t d aa sl hp K (QR v)=Wk X M nx (i+1) false aa (Zt sl d (Zj9 b v)) hp K:=by
 cases b
 ·simp[WQ,gW,Zj9]
 ·simp only[WQ,gW,Zj9,Km,true_implies,L9,false_implies,and_true];cases t<;>rfl
@[go_sem] theorem ZCp (b:Bool) (nx i:Nat) (t:Bool) (d:Option Nat) (aa:List CO) (sl:Sl) (hp:Hp) (K:Sl→Hp→Prop) (v:AV) :
  WQ X M b nx i t d aa sl hp K (some { eff := { val:=v,adds:=[],sets:=[],dels:=[],frz:=[] },gone:=[] })=Wk X M nx (i+1) false aa (Zt sl d (Zj9 b v)) hp K:=ZsQ X M b nx i t d aa sl hp K v
@[congr] theorem ZBU {g g' : Option Bool} {nx i:Nat} {t t' : Bool} {d:Option Nat} {op:COp} {aa:List CO} {sl:Sl} {hp:Hp} {K:Sl→Hp→Prop} (h:g=g') (ht:t=t') :
  ZpY X M g nx i t d op aa sl hp K=ZpY X M g' nx i t' d op aa sl hp K:=by rw[h,ht]
@[congr] theorem ZBV {b b' : Bool} {nx i:Nat} {t:Bool} {d:Option Nat} {aa:List CO} {sl:Sl} {hp:Hp} {K:Sl→Hp→Prop} {e e' : Option Zd} (hb:b=b') (h:b'=true→e=e') :
  WQ X M b nx i t d aa sl hp K e=WQ X M b' nx i t d aa sl hp K e':=by
 subst hb;cases b
 ·simp[WQ,gW]
 ·rw[h rfl]
@[go_sem] theorem ZCq (nx i:Nat) (t:Bool) (d:Option Nat) (aa:List CO) (sl:Sl) (hp:Hp) (K:Sl→Hp→Prop) (v:AV) :
  UW X M nx i t d aa sl hp K (QR v)=Wk X M nx (i+1) false aa (Zt sl d v) hp K:=by cases t<;>rfl
@[go_sem] theorem ZCV (nx i:Nat) (t:Bool) (d:Option Nat) (aa:List CO) (sl:Sl) (hp:Hp) (K:Sl→Hp→Prop) (v:AV) :
  UW X M nx i t d aa sl hp K (some { eff := { val:=v,adds:=[],sets:=[],dels:=[],frz:=[] },gone:=[] })=Wk X M nx (i+1) false aa (Zt sl d v) hp K:=by cases t<;>rfl
@[go_sem] theorem ZCW (nx i:Nat) (t:Bool) (d:Option Nat) (aa:List CO) (sl:Sl) (hp:Hp) (K:Sl→Hp→Prop) (e:Zd) :
  UW X M nx i t d aa sl hp K (some e)=((t=false→Zg6 e e.gone e.eff.sets e.eff.dels e.eff.frz=some e)∧Q0 (nx+64*i) (nx+64*i+64) e.eff.adds=true∧Wk X M nx (i+1) false aa (Zt (Xi e.gone sl) d e.eff.val) (e.eff.on (Vl e.gone hp)) K):=by
 have ab:stW (Y3 (nx+64*i) d sl hp (some e)) (fun r=>Wk X M nx (i+1) false aa r.1 r.2 K)=(Q0 (nx+64*i) (nx+64*i+64) e.eff.adds=true∧Wk X M nx (i+1) false aa (Zt (Xi e.gone sl) d e.eff.val) (e.eff.on (Vl e.gone hp)) K):=by
  unfold Y3;rw[Zg];split<;>rename_i h
  ·simp only[Jn,h,true_and];rfl
  ·simp only[ZmV,h,false_and,Ka]
 unfold UW;cases t with
 | true=>simp only[Km];rw[ab];simp
 | false=>
  simp only[Ka,Kq,ZdY,Zg,true_implies];unfold Zg6;split
  ·rw[ab];simp
  ·simp[Y3,bnd,stW]
@[go_sem] theorem ZCX (nx i:Nat) (t:Bool) (d:Option Nat) (aa:List CO) (sl:Sl) (hp:Hp) (K:Sl→Hp→Prop):UW X M nx i t d aa sl hp K none=False:=by cases t<;>rfl
@[go_sem] theorem ZDj (nx i:Nat) (t:Bool) (d:Option Nat) (aa:List CO) (sl:Sl) (hp:Hp) (K:Sl→Hp→Prop) (c:Prop) [Decidable c] (a b:Option Zd) :
  UW X M nx i t d aa sl hp K (if c then a else b)=((c→UW X M nx i t d aa sl hp K a)∧(¬c→UW X M nx i t d aa sl hp K b)):=by
 by_cases h:c<;>simp[h]
@[go_sem] theorem quietC_ok (c:Zd):Zg6 c [] [] [] []=some c:=rfl
def W (c:ZZ) (st:St) (Q:Ex→St→Prop):Prop:=stW (QW X M c st) fun r=>Q r.1 r.2
@[congr] theorem W_congr {c:ZZ} {st aa : St} {Q:Ex→St→Prop} (h:st=aa):W X M c st Q=W X M c aa Q:=by rw[h]
@[congr] theorem ZDk {aa:List CO} {nx ab i i' : Nat} {sl sl' : Sl} {hp hp' : Hp} {K:Sl→Hp→Prop} (hn:nx=ab) (hi:i=i') (h:sl=sl') (h' : hp=hp') :
  ZeU X M nx i aa sl hp K=ZeU X M ab i' aa sl' hp' K:=by rw[h,h',hn,hi]
@[congr] theorem ZCY {aa:List CO} {nx ab i i' : Nat} {t t' : Bool} {sl sl' : Sl} {hp hp' : Hp} {K:Sl→Hp→Prop} (hn:nx=ab) (hi:i=i') (ht:t=t') (h:sl=sl') (h' : hp=hp') :
  Wk X M nx i t aa sl hp K=Wk X M ab i' t' aa sl' hp' K:=by rw[h,h',ht,hn,hi]
@[congr] theorem ZCZ {aa:List CO} {nx i:Nat} {d:Option Nat} {sl:Sl} {hp:Hp} {K:Sl→Hp→Prop} {e e' : Option Zd} (h:e=e') :
  Zcx X M nx i d aa sl hp K e=Zcx X M nx i d aa sl hp K e':=by rw[h]
@[congr] theorem ZCr {aa:List CO} {nx i:Nat} {t t' : Bool} {d:Option Nat} {sl:Sl} {hp:Hp} {K:Sl→Hp→Prop} {e e' : Option Zd} (ht:t=t') (h:e=e') :
  UW X M nx i t d aa sl hp K e=UW X M nx i t' d aa sl hp K e':=by rw[h,ht]
theorem ZCs (nx:Nat) (K:Sl→Hp→Prop):∀ (l:List CO) (i:Nat) (sl:Sl) (hp:Hp),ZeU X M nx i l sl hp K=stW (ZfX (Ze X M) M nx i l sl hp) fun r=>K r.1 r.2:=by
 intro l
 induction l with
 | nil=>intro i sl hp;rfl
 | cons o rest ih=>
  intro i sl hp;simp only[ZeU,ZfX,ih,ZcM];cases Z7 sl o.guard with
  | none=>rfl
  | some b=>cases b<;>simp[gW,ZcM,Jn]
theorem ZBl (nx:Nat) (K:Sl→Hp→Prop):∀ (l:List CO) (i:Nat) (t:Bool) (sl:Sl) (hp:Hp),Wk X M nx i t l sl hp K=stW (Jr (Ze X M) M nx i t l sl hp) fun r=>K r.1 r.2:=by
 intro l
 induction l with
 | nil=>intro i t sl hp;rfl
 | cons o rest ih=>
  intro i t sl hp;simp only[Wk,Jr,ih,ZcM];cases Z7 sl o.guard with
  | none=>rfl
  | some b=>cases b<;>simp[gW,ZcM,Jn]
def Zz2 (m nx:Nat) (Q:Ex→St→Prop) (sl:Sl) (hp:Hp):Prop:=Q .normal { sl:=sl,hp:=hp,nx:=nx,m:=m }
def Zwn (ops:List CO) (ps:List (Nat×Nat)) (K:Sl→Hp→Prop) (sl:Sl) (hp:Hp):Prop:=JE ops sl ps=true∧K sl hp
@[go_sem] theorem regQ_eq (m nx:Nat) (Q:Ex→St→Prop) (sl:Sl) (hp:Hp):Zz2 m nx Q sl hp=Q .normal { sl:=sl,hp:=hp,nx:=nx,m:=m }:=rfl
@[go_sem] theorem seenQ_eq (ops:List CO) (ps:List (Nat×Nat)) (K:Sl→Hp→Prop) (sl:Sl) (hp:Hp):Zwn ops ps K sl hp=(JE ops sl ps=true∧K sl hp):=rfl
@[go_sem] theorem W_skip (st:St) (Q:Ex→St→Prop):W X M .skip st Q=Q .normal st:=by simp[W,Zyc,Jn]
@[go_sem] theorem W_ret (st:St) (Q:Ex→St→Prop):W X M .ret st Q=Q .ret st:=by simp[W,ZAj,Jn]
@[go_sem] theorem W_exit (id:Nat) (st:St) (Q:Ex→St→Prop):W X M (.exit id) st Q=Q (.exit id) st:=by simp[W,Zyd,Jn]
@[go_sem] theorem W_stuck (st:St) (Q:Ex→St→Prop):W X M .stuck st Q=False:=by
 have h:QW X M .stuck st=none:=VL fun n=>by simp only[ZF]
 simp only[W,h,ZmV]
@[go_sem] theorem W_region (n:Nat) (ops:List CO) (st:St) (Q:Ex→St→Prop) :
  W X M (.region n none ops) st Q=ZeU X M st.nx 0 ops st.sl st.hp (Zz2 st.m (st.nx+64*n) Q):=by
 rw[ZCs,W,Zva,Znc,ZcM];rfl
theorem ZBm (n:Nat) (ps:List (Nat×Nat)) (ops:List CO) (st:St) (Q:Ex→St→Prop) :
  W X M (.region n (some ps) ops) st Q=Wk X M st.nx 0 false ops st.sl st.hp (Zwn ops ps (Zz2 st.m (st.nx+64*n) Q)):=by
 rw[ZBl,W,Zye,Znc,ZcM,ZrV,ZcM];congr 1
 funext r
 by_cases h:JE ops r.1 ps=true<;>simp[h,Zwn,Jn,ZmV,Zz2]
@[go_sem] theorem W_draw0 (n:Nat) (ops:List CO) (st:St) (Q:Ex→St→Prop) :
  W X M (.region n (some []) ops) st Q=Wk X M st.nx 0 false ops st.sl st.hp (Zz2 st.m (st.nx+64*n) Q):=by
 rw[ZBm];congr 1
 funext sl hp
 simp[Zwn,JE]
@[go_sem] theorem W_drawc (n:Nat) (p:Nat×Nat) (ps:List (Nat×Nat)) (ops:List CO) (st:St) (Q:Ex→St→Prop) :
  W X M (.region n (some (p :: ps)) ops) st Q=Wk X M st.nx 0 false ops st.sl st.hp (Zwn ops (p :: ps) (Zz2 st.m (st.nx+64*n) Q)):=ZBm X M n _ ops st Q
def ZyX (c:ZZ) (Q:Ex→St→Prop):Ex→St→Prop
 | .normal,st=>W X M c st Q
 | e,st=>Q e st
def blkQ (id:Nat) (Q:Ex→St→Prop):Ex→St→Prop
 | .exit j,st=>if j=id then Q .normal st else Q (.exit j) st
 | e,st=>Q e st
@[go_sem] theorem ZCt (c:ZZ) (Q:Ex→St→Prop) (st:St):ZyX X M c Q .normal st=W X M c st Q:=rfl
@[go_sem] theorem thenQ_ret (c:ZZ) (Q:Ex→St→Prop) (st:St):ZyX X M c Q .ret st=Q .ret st:=rfl
@[go_sem] theorem ZDl (c:ZZ) (Q:Ex→St→Prop) (id:Nat) (st:St):ZyX X M c Q (.exit id) st=Q (.exit id) st:=rfl
@[go_sem] theorem ZC0 (id:Nat) (Q:Ex→St→Prop) (st:St):blkQ id Q .normal st=Q .normal st:=rfl
@[go_sem] theorem blkQ_ret (id:Nat) (Q:Ex→St→Prop) (st:St):blkQ id Q .ret st=Q .ret st:=rfl
@[go_sem] theorem blkQ_exit (id j:Nat) (Q:Ex→St→Prop) (st:St):blkQ id Q (.exit j) st=if j=id then Q .normal st else Q (.exit j) st:=rfl
@[go_sem] theorem W_seq (a b:ZZ) (st:St) (Q:Ex→St→Prop):W X M (.seq a b) st Q=W X M a st (ZyX X M b Q):=by
 unfold W;rw[ZAk];cases h:QW X M a st with
 | none=>rfl
 | some r=>obtain⟨e,aa⟩:=r;cases e<;>rfl
@[go_sem] theorem W_cond (c:Opd) (a b:ZZ) (st:St) (Q:Ex→St→Prop) :
  W X M (.cond c a b) st Q=UR (evO st.sl c) (W X M a st Q) (W X M b st Q):=by
 unfold W;rw[Zyf];cases h:evO st.sl c with
 | d x=>cases x with
  | bool t=>cases t<;>simp[Zjq,UR]
  | _=>rfl
 | _=>rfl
@[go_sem] theorem W_block (id:Nat) (c:ZZ) (st:St) (Q:Ex→St→Prop):W X M (.block id c) st Q=W X M c st (blkQ id Q):=by
 unfold W;rw[ZwH];cases h:QW X M c st with
 | none=>rfl
 | some r=>
  obtain⟨e,aa⟩:=r;cases e with
  | exit j=>by_cases hj:j=id<;>simp[ZhV,hj,Jn,blkQ]
  | normal=>rfl
  | ret=>rfl
def keepQ (K:List Nat) (Q:Ex→St→Prop) (e:Ex) (st:St):Prop:=Q e { sl:=only K st.sl,hp:=st.hp,nx:=st.nx,m:=st.m }
@[go_sem] theorem keepQ_eq (K:List Nat) (Q:Ex→St→Prop) (e:Ex) (st:St):keepQ K Q e st=Q e { sl:=only K st.sl,hp:=st.hp,nx:=st.nx,m:=st.m }:=rfl
@[go_sem] theorem W_keep (K:List Nat) (c:ZZ) (st:St) (Q:Ex→St→Prop):W X M (.keep K c) st Q=W X M c st (keepQ K Q):=by
 unfold W;rw[Zyg];cases h:QW X M c st with
 | none=>rfl
 | some r=>rfl
def Zrq (c:ZZ) (Q:Ex→St→Prop) (r:Option St):Prop:=stW r fun st=>W X M c st Q
@[go_sem] theorem ZDm (c:ZZ) (Q:Ex→St→Prop) (st:St):Zrq X M c Q (some st)=W X M c st Q:=rfl
@[go_sem] theorem ZDn (c:ZZ) (Q:Ex→St→Prop):Zrq X M c Q none=False:=rfl
@[go_sem] theorem linkW_ite (c:ZZ) (Q:Ex→St→Prop) (p:Prop) [Decidable p] (a b:Option St):Zrq X M c Q (if p then a else b)=((p→Zrq X M c Q a)∧(¬p→Zrq X M c Q b)):=by
 by_cases h:p<;>simp[h]
@[go_sem] theorem W_link (id:Nat) (i:Opd) (j:Nat) (c:ZZ) (st:St) (Q:Ex→St→Prop):W X M (.link id i j c) st Q=Zrq X M c Q (Ze3 id i j st):=by
 unfold W Zrq;rw[Zyh];cases h:Ze3 id i j st<;>rfl
@[go_sem] theorem W_melt (c:ZZ) (st:St) (Q:Ex→St→Prop):W X M (.melt c) st Q=W X M c { sl:=st.sl,hp:=Zj8 ZdP st.hp,nx:=st.nx,m:=st.m } Q:=by
 unfold W;rw[Zyi];rfl
def LW (c:ZZ) (K:List Nat) (st:St) (Q:Ex→St→Prop):Prop:=stW (Zjs X M c K st) fun r=>Q r.1 r.2
@[congr] theorem LW_congr {c:ZZ} {K K' : List Nat} {st aa : St} {Q:Ex→St→Prop} (hk:K=K') (h:st=aa):LW X M c K st Q=LW X M c K' aa Q:=by rw[h,hk]
@[go_sem] theorem W_loop (c:ZZ) (st:St) (Q:Ex→St→Prop):W X M (.loop c) st Q=LW X M c (ZlN st.sl) st Q:=by
 unfold W LW;rw[Zyj]
def Zrr (c:ZZ) (K:List Nat) (Q:Ex→St→Prop):Ex→St→Prop
 | .normal,st=>LW X M c K st Q
 | e,st=>Q e st
@[go_sem] theorem ZCu (c:ZZ) (K:List Nat) (Q:Ex→St→Prop) (st:St):Zrr X M c K Q .normal st=LW X M c K st Q:=rfl
@[go_sem] theorem nextQ_ret (c:ZZ) (K:List Nat) (Q:Ex→St→Prop) (st:St):Zrr X M c K Q .ret st=Q .ret st:=rfl
@[go_sem] theorem ZDo (c:ZZ) (K:List Nat) (Q:Ex→St→Prop) (id:Nat) (st:St):Zrr X M c K Q (.exit id) st=Q (.exit id) st:=rfl
theorem ZO {c:ZZ} {K:List Nat} {st:St} {Q:Ex→St→Prop} (h:W X M c (WW K st) (Zrr X M c K Q)):LW X M c K st Q:=by
 unfold W at h;cases hv:QW X M c (WW K st) with
 | none=>rw[hv] at h;exact h.elim
 | some r=>
  rw[hv] at h;obtain⟨e,aa⟩:=r;unfold LW;cases e with
  | normal=>rw[ZwI X M hv];exact h
  | exit id=>rw[ZrW X M (by simp) hv];exact h
  | ret=>rw[ZrW X M (by simp) hv];exact h
def ZsR (sl:Sl):Sl→Sl
 | []=>sl
 | (k,v) :: r=>ZsR (ins sl k v) r
def Zlb (hp:Hp):Hp→Hp
 | []=>hp
 | (k,o) :: r=>Zlb (ins hp k o) r
theorem LW_ind {α:Type} (S:α→St) (I:α→Prop) (μ:α→Nat) {c:ZZ} {K:List Nat} {Q:Ex→St→Prop}
  (step:∀ a,I a→(∀ b st,I b→μ b<μ a→WW K st=S b→LW X M c K st Q)→W X M c (S a) (Zrr X M c K Q)) :
  ∀ a st,I a→WW K st=S a→LW X M c K st Q:=by
 have aa:∀ n a st,μ a=n→I a→WW K st=S a→LW X M c K st Q:=by
  intro n
  induction n using Nat.strongRecOn with
  | ind n ih=>
   intro a st hn ha hs;refine ZO X M ?_;rw[hs];exact step a ha fun b ab hb ae ad=>ih (μ b) (by omega) b ab rfl hb ad
 exact fun a st ha hs=>aa _ a st rfl ha hs
theorem ZgT {α:Type} (u:α→Sl) (uh:α→Hp) (I:α→Prop) (μ:α→Nat) (a:α) {c:ZZ} {K:List Nat} {Q:Ex→St→Prop} {st st0:St}
  (hc:WW K st=st0) (ha:I a) (h0:(⟨ZsR st0.sl (u a),Zlb st0.hp (uh a),st0.nx,st0.m⟩:St)=st0)
  (step:∀ a,I a→(∀ b st,I b→μ b<μ a→WW K st=⟨ZsR st0.sl (u b),Zlb st0.hp (uh b),st0.nx,st0.m⟩→LW X M c K st Q)→W X M c ⟨ZsR st0.sl (u a),Zlb st0.hp (uh a),st0.nx,st0.m⟩ (Zrr X M c K Q)) :
  LW X M c K st Q:=
 LW_ind X M (fun a=>⟨ZsR st0.sl (u a),Zlb st0.hp (uh a),st0.nx,st0.m⟩) I μ step a st ha (hc.trans h0.symm)
def ZuQ (m:Nat) (rs:List ZsW) (R:AV×List Zm→Prop):Ex→St→Prop:=fun e st=>stW (Zcl m rs (some (e,st))) R
def resW (m:Nat) (hp:Hp) (R:AV×List Zm→Prop) (vs:Option (List AV)):Prop:=stW vs fun vs=>R (VK m hp (ZcB vs))
@[go_sem] theorem resW_some (m:Nat) (hp:Hp) (R:AV×List Zm→Prop) (vs:List AV):resW m hp R (some vs)=R (VK m hp (ZcB vs)):=rfl
@[go_sem] theorem resW_none (m:Nat) (hp:Hp) (R:AV×List Zm→Prop):resW m hp R none=False:=rfl
@[go_sem] theorem endQ_ret (m:Nat) (rs:List ZsW) (R:AV×List Zm→Prop) (st:St):ZuQ m rs R .ret st=resW m st.hp R (QM (ZpQ st) rs):=by
 simp only[ZuQ,Zcl,ZcM];rfl
@[go_sem] theorem ZC1 (m:Nat) (rs:List ZsW) (R:AV×List Zm→Prop) (st:St):ZuQ m rs R .normal st=resW m st.hp R (QM (ZpQ st) rs):=by
 simp only[ZuQ,Zcl,ZcM];rfl
theorem ZBn {f:Nat} {as:List AV} {h:List Zm} (fn:Zr) {R:AV×List Zm→Prop} (hx:X f=some (.text fn)) (hl:as.length≤fn.nt)
  (hr:W X M fn.body { sl:=Wp 0 as,hp:=VN 0 h,nx:=h.length,m:=h.length } (ZuQ h.length fn.res R)):∃ r,Ze X M f as h=some r∧R r:=by
 unfold W at hr;cases hv:QW X M fn.body { sl:=Wp 0 as,hp:=VN 0 h,nx:=h.length,m:=h.length } with
 | none=>rw[hv] at hr;exact hr.elim
 | some q=>
  rw[hv] at hr;obtain⟨e,st⟩:=q;simp only[Jn,ZuQ] at hr;cases hk:Zcl h.length fn.res (some (e,st)) with
  | none=>rw[hk] at hr;exact hr.elim
  | some r=>rw[hk] at hr;exact⟨r,ZBC X M hx hl (by rw[hv];exact hk),hr⟩
theorem callE {f:Nat} {as:List AV} {h:List Zm} (fn:Zr) {r:AV×List Zm} (hx:X f=some (.text fn)) (hl:as.length≤fn.nt)
  (hr:W X M fn.body { sl:=Wp 0 as,hp:=VN 0 h,nx:=h.length,m:=h.length } (ZuQ h.length fn.res fun q=>q=r)):Ze X M f as h=some r:=by
 obtain⟨q,hq,rfl⟩:=ZBn X M fn hx hl hr;exact hq
end
@[go_sem] theorem vopE_move (C:Orc) (M:Zp) (sl:Sl) (hp:Hp) (base:Nat) (x:Opd):vop C M sl hp base (.move x)=QR (evO sl x):=by simp only[vop]
@[go_sem] theorem ZC2 (C:Orc) (M:Zp) (sl:Sl) (hp:Hp) (base:Nat) (s:Option Nat) (x:Opd):vop C M sl hp base (.assign s x)=Zel base s (evO sl x):=by simp only[vop]
@[go_sem] theorem vopE_pick (C:Orc) (M:Zp) (sl:Sl) (hp:Hp) (base:Nat) (c a b:Opd):vop C M sl hp base (.pick c a b)=ZhU (evO sl a) (evO sl b) (evO sl c):=by simp only[vop]
@[go_sem] theorem ZDp (C:Orc) (M:Zp) (sl:Sl) (hp:Hp) (base:Nat) (slc:List (Option Nat)) (cs:List AV):vop C M sl hp base (.alloc slc cs)=ZgW slc base cs:=by simp only[vop]
@[go_sem] theorem vopE_box (C:Orc) (M:Zp) (sl:Sl) (hp:Hp) (base:Nat) (x:Opd):vop C M sl hp base (.box x)=ZxT base (evO sl x):=by simp only[vop]
@[go_sem] theorem ZDq (C:Orc) (M:Zp) (sl:Sl) (hp:Hp) (base:Nat) (zs:List AV) (ps:List (Nat×Nat×Opd)):vop C M sl hp base (.build zs ps)=Zrx zs (evP sl ps):=by simp only[vop]
@[go_sem] theorem ZCv (C:Orc) (M:Zp) (sl:Sl) (hp:Hp) (base:Nat) (s:Nat) (xs:List Opd):vop C M sl hp base (.buildSl s xs)=buildSl hp base s (evL sl xs):=by simp only[vop]
@[go_sem] theorem vopE_load (C:Orc) (M:Zp) (sl:Sl) (hp:Hp) (base:Nat) (g:Bool) (s:Nat) (a:Opd):vop C M sl hp base (.load g s a)=Wa (Jp hp g s (evO sl a)):=by simp only[vop]
@[go_sem] theorem ZDr (C:Orc) (M:Zp) (sl:Sl) (hp:Hp) (base:Nat) (slc:List (Option Nat)) (s:Nat) (a x:Opd):vop C M sl hp base (.store slc s a x)=ZhZ (Zbm hp slc s base (evO sl x).cells (evO sl a)):=by simp only[vop]
@[go_sem] theorem ZBW (C:Orc) (M:Zp) (sl:Sl) (hp:Hp) (base:Nat) (x:Opd):vop C M sl hp base (.nilCheck x)=ZaR (evO sl x):=by simp only[vop]
@[go_sem] theorem vopE_bin (C:Orc) (M:Zp) (sl:Sl) (hp:Hp) (base:Nat) (op:BinOp) (eq:Bool) (x y:Opd):vop C M sl hp base (.bin op eq x y)=Zm1 op eq (evO sl x) (evO sl y):=by simp only[vop]
@[go_sem] theorem vopE_un (C:Orc) (M:Zp) (sl:Sl) (hp:Hp) (base:Nat) (op:UnOp) (x:Opd):vop C M sl hp base (.un op x)=Wa (vun op (evO sl x)):=by simp only[vop]
@[go_sem] theorem vopE_eqA (C:Orc) (M:Zp) (sl:Sl) (hp:Hp) (base:Nat) (neg:Bool) (ks:List Nat) (x y:Opd):vop C M sl hp base (.eqA neg ks x y)=ZsT neg ks (evO sl x) (evO sl y):=by simp only[vop]
@[go_sem] theorem ZDs (C:Orc) (M:Zp) (sl:Sl) (hp:Hp) (base:Nat) (k:IntKind) (x:Opd):vop C M sl hp base (.convI k x)=convI k (evO sl x):=by simp only[vop]
@[go_sem] theorem ZDt (C:Orc) (M:Zp) (sl:Sl) (hp:Hp) (base:Nat) (x:Opd):vop C M sl hp base (.convS x)=convS (evO sl x):=by simp only[vop]
@[go_sem] theorem vopE_fn (C:Orc) (M:Zp) (sl:Sl) (hp:Hp) (base:Nat) (f:Nat) (cs:List Opd):vop C M sl hp base (.fn f cs)=Wa (cloV f (evL sl cs)):=by simp only[vop]
@[go_sem] theorem vopE_make (C:Orc) (M:Zp) (sl:Sl) (hp:Hp) (base:Nat) (s b:Nat) (z:D) (l c:Opd):vop C M sl hp base (.make s b z l c)=bnd (idx (evO sl l)) fun l=>bnd (idx (evO sl c)) fun c=>Zrz base s b z l c:=by simp only[vop]
@[go_sem] theorem ZDu (C:Orc) (M:Zp) (sl:Sl) (hp:Hp) (base:Nat) (s:Nat) (x:Opd) (lo hi:Option Opd):vop C M sl hp base (.slice s x lo hi)=Wa (WL hp s (evM sl lo) (evM sl hi) (evO sl x)):=by simp only[vop]
@[go_sem] theorem ZC3 (C:Orc) (M:Zp) (sl:Sl) (hp:Hp) (base:Nat) (x:Opd) (lo hi:Option Opd):vop C M sl hp base (.sliceS x lo hi)=Wa (sliceS (evM sl lo) (evM sl hi) (evO sl x)):=by simp only[vop]
@[go_sem] theorem ZC4 (C:Orc) (M:Zp) (sl:Sl) (hp:Hp) (base:Nat) (x hi mx:Opd):vop C M sl hp base (.slice0 x hi mx)=Wa (slice0 hp (evO sl x) (idx (evO sl hi)) (idx (evO sl mx))):=by simp only[vop]
@[go_sem] theorem ZDv (C:Orc) (M:Zp) (sl:Sl) (hp:Hp) (base:Nat) (off:Nat) (x:Opd):vop C M sl hp base (.shift off x)=Wb off (evO sl x):=by simp only[vop]
@[go_sem] theorem vopE_part (C:Orc) (M:Zp) (sl:Sl) (hp:Hp) (base:Nat) (g:Bool) (s off:Nat) (x:Opd):vop C M sl hp base (.part g s off x)=Wa (ZmZ g s off (evO sl x)):=by simp only[vop]
@[go_sem] theorem vopE_iaS (C:Orc) (M:Zp) (sl:Sl) (hp:Hp) (base:Nat) (s:Nat) (x i:Opd):vop C M sl hp base (.iaS s x i)=bnd (idx (evO sl i)) fun n=>Zjj hp s (evO sl x) n:=by simp only[vop]
@[go_sem] theorem vopE_iaA (C:Orc) (M:Zp) (sl:Sl) (hp:Hp) (base:Nat) (len s:Nat) (x i:Opd):vop C M sl hp base (.iaA len s x i)=bnd (idx (evO sl i)) fun n=>Zo8 (evO sl x) n len s:=by simp only[vop]
@[go_sem] theorem vopE_ixS (C:Orc) (M:Zp) (sl:Sl) (hp:Hp) (base:Nat) (x i:Opd):vop C M sl hp base (.ixS x i)=bnd (idx (evO sl i)) fun n=>Zwx n (evO sl x):=by simp only[vop]
@[go_sem] theorem vopE_ixA (C:Orc) (M:Zp) (sl:Sl) (hp:Hp) (base:Nat) (g:Bool) (s len:Nat) (x i:Opd):vop C M sl hp base (.ixA g s len x i)=bnd (idx (evO sl i)) fun n=>ZxV g s len n (evO sl x):=by simp only[vop]
@[go_sem] theorem vopE_nth (C:Orc) (M:Zp) (sl:Sl) (hp:Hp) (base:Nat) (i:Nat) (x:Opd):vop C M sl hp base (.nth i x)=ZuU i (evO sl x):=by simp only[vop]
@[go_sem] theorem vopE_len (C:Orc) (M:Zp) (sl:Sl) (hp:Hp) (base:Nat) (x:Opd):vop C M sl hp base (.len x)=bnd (ZeT hp (evO sl x)) fun n=>QR (.d (.int .i64 n)):=by simp only[vop]
@[go_sem] theorem vopE_lenS (C:Orc) (M:Zp) (sl:Sl) (hp:Hp) (base:Nat) (x:Opd):vop C M sl hp base (.lenS x)=bnd (Zzy (evO sl x)) fun n=>QR (.d (.int .i64 n)):=by simp only[vop]
@[go_sem] theorem ZC5 (C:Orc) (M:Zp) (sl:Sl) (hp:Hp) (base:Nat) (s b:Nat) (str flat:Bool) (x y:Opd):vop C M sl hp base (.append s b str flat x y)=ZuV hp s b str flat base (evO sl x) (evO sl y):=by simp only[vop]
@[go_sem] theorem vopE_min (C:Orc) (M:Zp) (sl:Sl) (hp:Hp) (base:Nat) (x y:Opd):vop C M sl hp base (.min x y)=Zm3 (evO sl x) (evO sl y):=by simp only[vop]
@[go_sem] theorem vopE_max (C:Orc) (M:Zp) (sl:Sl) (hp:Hp) (base:Nat) (x y:Opd):vop C M sl hp base (.max x y)=Zm4 (evO sl x) (evO sl y):=by simp only[vop]
@[go_sem] theorem vopE_call (C:Orc) (M:Zp) (sl:Sl) (hp:Hp) (base:Nat) (f:Opd) (as:List Opd):vop C M sl hp base (.call f as)=ZdQ C M hp base (evL sl as) (evO sl f):=by simp only[vop]
@[go_sem] theorem ZC6 (C:Orc) (M:Zp) (sl:Sl) (hp:Hp) (base:Nat) (s:Nat) (x lo hi mx:Opd):vop C M sl hp base (.slice3 s x lo hi mx)=Wa (slice3 hp (evO sl x) (idx (evO sl lo)) (idx (evO sl hi)) (idx (evO sl mx))):=by simp only[vop]
@[go_sem] theorem ZDw (C:Orc) (M:Zp) (sl:Sl) (hp:Hp) (base:Nat) (s:Nat) (z:D) (x:Opd):vop C M sl hp base (.clear s z x)=ZhZ (ZeW hp s z (evO sl x)):=by simp only[vop]
@[go_sem] theorem ZCw (C:Orc) (M:Zp) (sl:Sl) (hp:Hp) (base:Nat) (s n:Nat) (xs:List Opd):vop C M sl hp base (.buildDp s n xs)=buildDp hp base s n (evL sl xs):=by simp only[vop]
@[go_sem] theorem ZDx (C:Orc) (M:Zp) (sl:Sl) (hp:Hp) (base:Nat) (s b:Nat) (f:Bool) (x y:Opd):vop C M sl hp base (.appDp s b f x y)=ZsU hp s b base (evO sl x) (evO sl y):=by simp only[vop]
@[go_sem] theorem ZDy (C:Orc) (M:Zp) (sl:Sl) (hp:Hp) (base:Nat) (s n:Nat) (x:Opd):vop C M sl hp base (.asgDp s n x)=asgDp base s n (evO sl x):=by simp only[vop]
@[go_sem] theorem ZDz (C:Orc) (M:Zp) (sl:Sl) (hp:Hp) (base:Nat):vop C M sl hp base .stuck=none:=by simp only[vop]
@[go_sem] theorem Zz3 (hp:Hp) (n:Nat) (aa:List Nat):QQ hp n [] aa=aa:=by cases n<;>rfl
@[go_sem] theorem tidy_d (hp:Hp) (ids:List Nat) (x:D):ZfY hp ids (.d x)=.d x:=rfl
@[go_sem] theorem tidy_nil (hp:Hp) (ids:List Nat):ZfY hp ids .nil=.nil:=rfl
@[go_sem] theorem tidy_junk (hp:Hp) (ids:List Nat):ZfY hp ids .junk=.junk:=rfl
@[go_sem] theorem tidy_tup (hp:Hp) (ids:List Nat) (vs:List AV):ZfY hp ids (.tup vs)=ren (WR ids) (kill (Zjo hp ids (ZC (.tup vs))) (.tup vs)):=rfl
@[go_sem] theorem tidy_agg (hp:Hp) (ids:List Nat) (vs:List AV):ZfY hp ids (.agg vs)=ren (WR ids) (kill (Zjo hp ids (ZC (.agg vs))) (.agg vs)):=rfl
@[go_sem] theorem tidy_clo (hp:Hp) (ids:List Nat) (f:Nat) (vs:List AV):ZfY hp ids (.clo f vs)=ren (WR ids) (kill (Zjo hp ids (ZC (.clo f vs))) (.clo f vs)):=rfl
@[go_sem] theorem tidy_nilp (hp:Hp) (ids:List Nat):ZfY hp ids .nilp=.nilp:=rfl
@[go_sem] theorem tidy_nili (hp:Hp) (ids:List Nat):ZfY hp ids .nili=.nili:=rfl
@[go_sem] theorem tidy_pim (hp:Hp) (ids:List Nat) (cs:List D):ZfY hp ids (.pim cs)=.pim cs:=rfl
@[go_sem] theorem tidy_ptr (hp:Hp) (ids:List Nat) (id o:Nat):ZfY hp ids (.ptr id o)=if Ze2 hp ids id=true then .ptr (WR ids id) o else .junk:=by
 simp only[ZfY,ZC,ZD,Zn,Zjo];split<;>simp[kill,ZX,Qg,ren,Zfz,Zfy]
@[go_sem] theorem tidy_prow (hp:Hp) (ids:List Nat) (id s i o:Nat):ZfY hp ids (.prow id s i o)=if Ze2 hp ids id=true then .prow (WR ids id) s i o else .junk:=by
 simp only[ZfY,ZC,ZD,Zn,Zjo];split<;>simp[kill,ZX,Qg,ren,Zfz,Zfy]
@[go_sem] theorem tidy_own (hp:Hp) (ids:List Nat) (id:Nat):ZfY hp ids (.own id)=if Ze2 hp ids id=true then .own (WR ids id) else .junk:=by
 simp only[ZfY,ZC,ZD,Zn,Zjo];split<;>simp[kill,ZX,Qg,ren,Zfz,Zfy]
@[go_sem] theorem tidy_ownv (hp:Hp) (ids:List Nat) (id a b:Nat):ZfY hp ids (.ownv id a b)=if Ze2 hp ids id=true then .ownv (WR ids id) a b else .junk:=by
 simp only[ZfY,ZC,ZD,Zn,Zjo];split<;>simp[kill,ZX,Qg,ren,Zfz,Zfy]
@[go_sem] theorem ZDA (hp:Hp) (x:D):VK 0 hp (.d x)=(.d x,[]):=by
 simp[VK,ZC,ZD,Zn,WV,Zz3,tidy_d,ZdL]
@[go_sem] theorem minI_eq (a b:Int):minI a b=min a b:=by unfold minI;split<;>omega
@[go_sem] theorem maxI_eq (a b:Int):maxI a b=max a b:=by unfold maxI;split<;>omega
@[go_sem] theorem negIf_f (r:Bool):Zry false r=r:=rfl
@[go_sem] theorem negIf_t (r:Bool):Zry true r=!r:=rfl
@[go_sem] theorem opt1_some (v:AV):Wa (some v)=QR v:=rfl
@[go_sem] theorem opt1_none:Wa none=none:=rfl
@[go_sem] theorem vbin_int (op:BinOp) (k k' : IntKind) (a b:Int):vbin op (.d (.int k a)) (.d (.int k' b))=ZaL op k k' a b:=rfl
@[go_sem] theorem binV_int (op:BinOp) (eq:Bool) (k k' : IntKind) (a b:Int):Zm1 op eq (.d (.int k a)) (.d (.int k' b))=Wa (ZaL op k k' a b):=rfl
@[go_sem] theorem binV_str (op:BinOp) (eq:Bool) (a b:List UInt8):Zm1 op eq (.d (.str a)) (.d (.str b))=Wa (asD (ZvQ op a b)):=rfl
@[go_sem] theorem int2_add (k:IntKind) (a b:Int):ZaL .add k k a b=some (.d (.int k (k.wrap (a+b)))):=by simp[ZaL,Jk,asD,Zg]
@[go_sem] theorem int2_sub (k:IntKind) (a b:Int):ZaL .sub k k a b=some (.d (.int k (k.wrap (a-b)))):=by simp[ZaL,Jk,asD,Zg]
@[go_sem] theorem int2_mul (k:IntKind) (a b:Int):ZaL .mul k k a b=some (.d (.int k (k.wrap (a*b)))):=by simp[ZaL,Jk,asD,Zg]
@[go_sem] theorem int2_quo (k:IntKind) (a b:Int):ZaL .quo k k a b=if b=0 then none else some (.d (.int k (k.wrap (a.tdiv b)))):=by simp only[ZaL,Jk,asD,if_true];split<;>rfl
@[go_sem] theorem int2_rem (k:IntKind) (a b:Int):ZaL .rem k k a b=if b=0 then none else some (.d (.int k (a.tmod b))):=by simp only[ZaL,Jk,asD,if_true];split<;>rfl
@[go_sem] theorem int2_eql (k:IntKind) (a b:Int):ZaL .eql k k a b=some (.d (.bool (decide (a=b)))):=by simp[ZaL,Jk,asD,Zg,BEq.beq]
@[go_sem] theorem int2_neq (k:IntKind) (a b:Int):ZaL .neq k k a b=some (.d (.bool (!decide (a=b)))):=by simp[ZaL,Jk,asD,Zg,bne,BEq.beq]
@[go_sem] theorem int2_lss (k:IntKind) (a b:Int):ZaL .lss k k a b=some (.d (.bool (decide (a<b)))):=by simp[ZaL,Jk,asD,Zg]
@[go_sem] theorem int2_leq (k:IntKind) (a b:Int):ZaL .leq k k a b=some (.d (.bool (decide (a≤b)))):=by simp[ZaL,Jk,asD,Zg]
@[go_sem] theorem int2_gtr (k:IntKind) (a b:Int):ZaL .gtr k k a b=some (.d (.bool (decide (b<a)))):=by simp[ZaL,Jk,asD,Zg]
@[go_sem] theorem int2_geq (k:IntKind) (a b:Int):ZaL .geq k k a b=some (.d (.bool (decide (b≤a)))):=by simp[ZaL,Jk,asD,Zg]
@[go_sem] theorem guardV_t (b:Bool):Zg2 true (.d (.bool b))=some b:=by cases b<;>rfl
def nb (b:Bool):Bool:=!b
@[go_sem] theorem nb_true:nb true=false:=rfl
@[go_sem] theorem nb_false:nb false=true:=rfl
@[go_sem] theorem nb_eq (b:Bool):(nb b=true)=(b=false):=by cases b<;>simp[nb]
@[go_sem] theorem guardV_f (b:Bool):Zg2 false (.d (.bool b))=some (nb b):=by cases b<;>rfl
@[go_sem] theorem ZDB (w:Bool):Zg2 w (.tup [])=some false:=rfl
@[go_sem] theorem ZCx (a b:Bool):Zg2 true (Zj9 a (.d (.bool b)))=some (a&&b):=by cases a<;>cases b<;>rfl
@[go_sem] theorem ZCy (a b:Bool):Zg2 false (Zj9 a (.d (.bool b)))=some (a&&nb b):=by cases a<;>cases b<;>rfl
@[go_sem] theorem iteV_true (v:AV):Zj9 true v=v:=rfl
@[go_sem] theorem ZDC (v:AV):Zj9 false v=.tup []:=rfl
@[go_sem] theorem ZDD (a b:AV):ZhU a b (.d (.bool true))=QR a:=rfl
@[go_sem] theorem ZC7 (a b:AV):ZhU a b (.d (.bool false))=QR b:=rfl
@[go_sem] theorem pickV_or (b c:Bool):ZhU (.d (.bool true)) (Zj9 (nb b) (.d (.bool c))) (.d (.bool b))=QR (.d (.bool (b || c))):=by cases b<;>rfl
@[go_sem] theorem pickV_and (b c:Bool):ZhU (Zj9 b (.d (.bool c))) (.d (.bool false)) (.d (.bool b))=QR (.d (.bool (b&&c))):=by cases b<;>rfl
theorem ZDE (a b:AV) (t:Bool):ZhU a b (.d (.bool t))=if t=true then QR a else QR b:=by cases t<;>rfl
@[go_sem] theorem dec_or (p q:Prop) [Decidable p] [Decidable q]:(decide p || decide q)=decide (p∨q):=by simp
@[go_sem] theorem dec_and (p q:Prop) [Decidable p] [Decidable q]:(decide p&&decide q)=decide (p∧q):=by simp
@[go_sem] theorem dec_not (p:Prop) [Decidable p]:(!decide p)=decide (¬p):=by simp
attribute [go_sem] Bool.or_eq_false_iff decide_eq_true_eq decide_eq_false_iff_not Bool.and_eq_true Bool.or_eq_true Bool.not_eq_true' Bool.not_eq_false' not_or Decidable.not_not
@[go_sem] theorem evO_t (sl:Sl) (n:Nat):evO sl (.t n)=gs sl n:=rfl
@[go_sem] theorem evO_v (sl:Sl) (a:AV):evO sl (.v a)=a:=rfl
@[go_sem] theorem evO_f (sl:Sl) (n:Nat):evO sl (.f n)=.clo n []:=rfl
@[go_sem] theorem gs_hit (k:Nat) (v:AV) (r:Sl):gs ((k,v) :: r) k=v:=by simp[gs,lkp,ZeS]
@[go_sem] theorem gs_cons (k t:Nat) (v:AV) (r:Sl):gs ((k,v) :: r) t=if k=t then v else gs r t:=by
 by_cases h:k=t<;>simp[gs,lkp,h,ZeS]
@[go_sem] theorem gs_nil (t:Nat):gs [] t=.junk:=rfl
attribute [go_sem] ZgH.eq_1 ZgH.eq_2
attribute [go_sem] ZbY.eq_1 ZbY.eq_2 ZbY.eq_3
attribute [go_sem] ZpN.eq_1 ZpN.eq_2 ZpN.eq_3
attribute [go_sem] Zcg.eq_1 Zcg.eq_2
attribute [go_sem] St.hp.eq_1
attribute [go_sem] Zcv.eq_1 Zcv.eq_2 Zcv.eq_3
attribute [go_sem] ZeS.eq_1 ZeS.eq_2
attribute [go_sem] agg2.eq_1 agg2.eq_2 agg2.eq_3
attribute [go_sem] ins.eq_1 ins.eq_2
attribute [go_sem] ZgJ.eq_1 ZgJ.eq_2
attribute [go_sem] X3.eq_1 X3.eq_2 X3.eq_3
attribute [go_sem] St.m.eq_1
attribute [go_sem] bnd.eq_1 bnd.eq_2
attribute [go_sem] ZaK.eq_1 ZaK.eq_2 ZaK.eq_3
attribute [go_sem] ZvQ.eq_1 ZvQ.eq_2 ZvQ.eq_3 ZvQ.eq_4
attribute [go_sem] AV.cells.eq_1 AV.cells.eq_2 AV.cells.eq_3 AV.cells.eq_4 AV.cells.eq_5 AV.cells.eq_6 AV.cells.eq_7 AV.cells.eq_8 AV.cells.eq_9 AV.cells.eq_10 AV.cells.eq_11 AV.cells.eq_12 AV.cells.eq_13 AV.cells.eq_14 AV.cells.eq_15 AV.cells.eq_16
attribute [go_sem] Qg.eq_1 Qg.eq_2 Qg.eq_3 Qg.eq_4 Qg.eq_5 Qg.eq_6 Qg.eq_7
attribute [go_sem] AV.solid.eq_1 AV.solid.eq_2 AV.solid.eq_3 AV.solid.eq_4
attribute [go_sem] WP.eq_1 WP.eq_2
attribute [go_sem] QM.eq_1 QM.eq_2
attribute [go_sem] ZgK.eq_1 ZgK.eq_2
attribute [go_sem] ZaJ.eq_1
attribute [go_sem] ZeT.eq_1 ZeT.eq_2 ZeT.eq_3 ZeT.eq_4 ZeT.eq_5
attribute [go_sem] Zi1.eq_1 Zi1.eq_2
attribute [go_sem] D.flat.eq_1
attribute [go_sem] give.eq_1 give.eq_2
attribute [go_sem] D.beq1.eq_1 D.beq1.eq_2 D.beq1.eq_3 D.beq1.eq_4
attribute [go_sem] Zfy.eq_1 Zfy.eq_2 Zfy.eq_3 Zfy.eq_4 Zfy.eq_5 Zfy.eq_6 Zfy.eq_7
attribute [go_sem] not1.eq_1 not1.eq_2
attribute [go_sem] X4.eq_1 X4.eq_2 X4.eq_3
attribute [go_sem] St.nx.eq_1
attribute [go_sem] ZD.eq_1 ZD.eq_2 ZD.eq_3
attribute [go_sem] Zfz.eq_1 Zfz.eq_2 Zfz.eq_3
attribute [go_sem] ZmE.eq_1 ZmE.eq_2
attribute [go_sem] vun.eq_1 vun.eq_2 vun.eq_3
attribute [go_sem] toD.eq_1 toD.eq_2
attribute [go_sem] Zn.eq_1 Zn.eq_2 Zn.eq_3 Zn.eq_4 Zn.eq_5 Zn.eq_6 Zn.eq_7 Zn.eq_8 Zn.eq_9 Zn.eq_10 Zn.eq_11 Zn.eq_12 Zn.eq_13 Zn.eq_14 Zn.eq_15 Zn.eq_16
attribute [go_sem] D.plain.eq_1 D.plain.eq_2 D.plain.eq_3 D.plain.eq_4 D.plain.eq_5
attribute [go_sem] Qf.eq_1
attribute [go_sem] ZX.eq_1 ZX.eq_2 ZX.eq_3
attribute [go_sem] Jz.eq_1 Jz.eq_2
attribute [go_sem] ZC.eq_1 ZC.eq_2
attribute [go_sem] Zxp.eq_1
attribute [go_sem] Zj8.eq_1 Zj8.eq_2
attribute [go_sem] Zcw.eq_1 Zcw.eq_2 Zcw.eq_3 Zcw.eq_4
attribute [go_sem] St.sl.eq_1
attribute [go_sem] Zzy.eq_1 Zzy.eq_2
attribute [go_sem] UI.eq_1 UI.eq_2
attribute [go_sem] ZgI.eq_1 ZgI.eq_2
attribute [go_sem] ren.eq_1 ren.eq_2
attribute [go_sem] kill.eq_1 kill.eq_2
attribute [go_sem] lkp.eq_1 lkp.eq_2
attribute [go_sem] Ztn.eq_1 Ztn.eq_2 Ztn.eq_3
attribute [go_sem] Yy.eq_1 Yy.eq_2
attribute [go_sem] beqL.eq_1 beqL.eq_2 beqL.eq_3
attribute [go_sem] D.cells.eq_1 D.cells.eq_2 D.cells.eq_3 D.cells.eq_4 D.cells.eq_5
attribute [go_sem] ZqX.eq_1 ZqX.eq_2
attribute [go_sem] Ztm.eq_1 Ztm.eq_2
attribute [go_sem] neg1.eq_1 neg1.eq_2
attribute [go_sem] ZnV.eq_1 ZnV.eq_2 ZnV.eq_3
attribute [go_sem] V9.eq_1 V9.eq_2 V9.eq_3
attribute [go_sem] asD.eq_1
attribute [go_sem] Jk.eq_1 Jk.eq_2 Jk.eq_3 Jk.eq_4 Jk.eq_5 Jk.eq_6 Jk.eq_7 Jk.eq_8 Jk.eq_9 Jk.eq_10 Jk.eq_11 Jk.eq_12 Jk.eq_13 Jk.eq_14 Jk.eq_15 Jk.eq_16 Jk.eq_17
attribute [go_sem] Zj7.eq_1 Zj7.eq_2 Zj7.eq_3 Zj7.eq_4 Zj7.eq_5
attribute [go_sem] D.one.eq_1 D.one.eq_2 D.one.eq_3 D.one.eq_4 D.one.eq_5
attribute [go_sem] freeze.eq_1 freeze.eq_2
attribute [go_sem] ZeV.eq_1
attribute [go_sem] loOf.eq_1 loOf.eq_2
attribute [go_sem] Eff.on.eq_1
attribute [go_sem] ZbG.eq_1 ZbG.eq_2
attribute [go_sem] cloV.eq_1
attribute [go_sem] slice0.eq_1 slice0.eq_2
attribute [go_sem] evM.eq_1 evM.eq_2
attribute [go_sem] hiOf.eq_1 hiOf.eq_2
attribute [go_sem] ZmZ.eq_1 ZmZ.eq_2 ZmZ.eq_3
attribute [go_sem] Zy0.eq_1
attribute [go_sem] idx.eq_1 idx.eq_2
attribute [go_sem] WL.eq_1 WL.eq_2 WL.eq_3 WL.eq_4 WL.eq_5
attribute [go_sem] Zb1.eq_1 Zb1.eq_2 Zb1.eq_3
attribute [go_sem] Qu.eq_1 Qu.eq_2
attribute [go_sem] D.notSl.eq_1 D.notSl.eq_2
attribute [go_sem] ZBo.eq_1 ZBo.eq_2
attribute [go_sem] ZdM.eq_1 ZdM.eq_2 ZdM.eq_3 ZdM.eq_4 ZdM.eq_5 ZdM.eq_6
attribute [go_sem] CO.guard.eq_1
attribute [go_sem] ZhZ.eq_1
attribute [go_sem] ZaP.eq_1
attribute [go_sem] ZdI.eq_1 ZdI.eq_2
attribute [go_sem] ZmY.eq_1
attribute [go_sem] Eff.adds.eq_1
attribute [go_sem] WR.eq_1 WR.eq_2
attribute [go_sem] Zh.eq_1 Zh.eq_2
attribute [go_sem] Zd.eff.eq_1
attribute [go_sem] Zji.eq_1 Zji.eq_2
attribute [go_sem] Zwx.eq_1 Zwx.eq_2
attribute [go_sem] Zoa.eq_1 Zoa.eq_2 Zoa.eq_3
attribute [go_sem] del.eq_1 del.eq_2
attribute [go_sem] Zrx.eq_1
attribute [go_sem] ZuR.eq_1 ZuR.eq_2
attribute [go_sem] Zbn.eq_1 Zbn.eq_2
attribute [go_sem] Zm4.eq_1 Zm4.eq_2
attribute [go_sem] ZaR.eq_1 ZaR.eq_2 ZaR.eq_3 ZaR.eq_4 ZaR.eq_5
attribute [go_sem] ZgW.eq_1
attribute [go_sem] slice3.eq_1
attribute [go_sem] ZdK.eq_1 ZdK.eq_2
attribute [go_sem] args.eq_1 args.eq_2
attribute [go_sem] ZlG.eq_1 ZlG.eq_2
attribute [go_sem] Zm3.eq_1 Zm3.eq_2
attribute [go_sem] Zci.eq_1 Zci.eq_2
attribute [go_sem] Zek.eq_1
attribute [go_sem] Zem.deepRow.eq_1 Zem.deepRow.eq_2
attribute [go_sem] ZjP.eq_1 ZjP.eq_2
attribute [go_sem] Zm2.eq_1
attribute [go_sem] evL.eq_1 evL.eq_2
attribute [go_sem] ZbH.eq_1 ZbH.eq_2 ZbH.eq_3
attribute [go_sem] ZdL.eq_1 ZdL.eq_2
attribute [go_sem] Zrw.eq_1 Zrw.eq_2
attribute [go_sem] Eff.sets.eq_1
attribute [go_sem] ZeY.eq_1 ZeY.eq_2 ZeY.eq_3
attribute [go_sem] ZmX.eq_1 ZmX.eq_2
attribute [go_sem] ZfJ.eq_1
attribute [go_sem] Zjh.eq_1 Zjh.eq_2
attribute [go_sem] Zbm.eq_1 Zbm.eq_2 Zbm.eq_3
attribute [go_sem] ZxV.eq_1
attribute [go_sem] ZsU.eq_1
attribute [go_sem] Wc.eq_1 Wc.eq_2
attribute [go_sem] ZBp.eq_1 ZBp.eq_2
attribute [go_sem] Zob.eq_1 Zob.eq_2
attribute [go_sem] ZdR.eq_1 ZdR.eq_2
attribute [go_sem] Zrz.eq_1
attribute [go_sem] buildDp.eq_1 buildDp.eq_2
attribute [go_sem] AV.atom.eq_1 AV.atom.eq_2 AV.atom.eq_3 AV.atom.eq_4 AV.atom.eq_5
attribute [go_sem] ZuV.eq_1
attribute [go_sem] Eff.dels.eq_1
attribute [go_sem] Zej.eq_1 Zej.eq_2 Zej.eq_3
attribute [go_sem] mat.eq_1 mat.eq_2 mat.eq_3
attribute [go_sem] ZV.eq_1
attribute [go_sem] ZdO.eq_1 ZdO.eq_2
attribute [go_sem] Zwu.eq_1 Zwu.eq_2
attribute [go_sem] ZuT.eq_1
attribute [go_sem] ZxT.eq_1
attribute [go_sem] UK.eq_1
attribute [go_sem] QF.eq_1 QF.eq_2 QF.eq_3 QF.eq_4
attribute [go_sem] ZxU.eq_1
attribute [go_sem] ZfK.eq_1 ZfK.eq_2
attribute [go_sem] Zwz.eq_1 Zwz.eq_2
attribute [go_sem] Zjg.eq_1 Zjg.eq_2 Zjg.eq_3 Zjg.eq_4
attribute [go_sem] ZlE.eq_1 ZlE.eq_2
attribute [go_sem] ZgV.eq_1 ZgV.eq_2
attribute [go_sem] ZfM.eq_1 ZfM.eq_2 ZfM.eq_3 ZfM.eq_4 ZfM.eq_5
attribute [go_sem] ZuS.eq_1 ZuS.eq_2
attribute [go_sem] Zoc.eq_1
attribute [go_sem] Zen.eq_1 Zen.eq_2
attribute [go_sem] convS.eq_1 convS.eq_2
attribute [go_sem] ZjQ.eq_1 ZjQ.eq_2
attribute [go_sem] CO.tl.eq_1
attribute [go_sem] Vi.eq_1 Vi.eq_2 Vi.eq_3
attribute [go_sem] CO.dst.eq_1
attribute [go_sem] teOf.eq_1
attribute [go_sem] ZxW.eq_1 ZxW.eq_2 ZxW.eq_3
attribute [go_sem] Zjf.eq_1
attribute [go_sem] ZlH.eq_1 ZlH.eq_2
attribute [go_sem] Zem.eq_1 Zem.eq_2 Zem.eq_3 Zem.eq_4
attribute [go_sem] Zm0.eq_1 Zm0.eq_2
attribute [go_sem] ZcQ.eq_1 ZcQ.eq_2 ZcQ.eq_3
attribute [go_sem] ZtT.eq_1
attribute [go_sem] Eff.val.eq_1
attribute [go_sem] sliceS.eq_1 sliceS.eq_2
attribute [go_sem] Vf.eq_1 Vf.eq_2 Vf.eq_3
attribute [go_sem] buildSl.eq_1 buildSl.eq_2
attribute [go_sem] Jp.eq_1 Jp.eq_2 Jp.eq_3 Jp.eq_4
attribute [go_sem] Za1.eq_1 Za1.eq_2 Za1.eq_3 Za1.eq_4 Za1.eq_5
attribute [go_sem] Zo7.eq_1 Zo7.eq_2
attribute [go_sem] Zo8.eq_1
attribute [go_sem] evP.eq_1 evP.eq_2
attribute [go_sem] ZdP.eq_1 ZdP.eq_2
attribute [go_sem] Zcy.eq_1
attribute [go_sem] ZfL.eq_1
attribute [go_sem] ZtS.eq_1 ZtS.eq_2
attribute [go_sem] Zry.eq_1
attribute [go_sem] Ul.eq_1
attribute [go_sem] Zwy.eq_1
attribute [go_sem] bnT.eq_1 bnT.eq_2
attribute [go_sem] ZdJ.eq_1 ZdJ.eq_2
attribute [go_sem] ZaO.eq_1 ZaO.eq_2
attribute [go_sem] ZdQ.eq_1 ZdQ.eq_2
attribute [go_sem] asgDp.eq_1 asgDp.eq_2
attribute [go_sem] ZlD.eq_1 ZlD.eq_2 ZlD.eq_3
attribute [go_sem] Zwv.eq_1 Zwv.eq_2
attribute [go_sem] CO.op.eq_1
attribute [go_sem] Zel.eq_1 Zel.eq_2
attribute [go_sem] ZeW.eq_1 ZeW.eq_2
attribute [go_sem] ZAa.eq_1 ZAa.eq_2
attribute [go_sem] ZuU.eq_1 ZuU.eq_2
attribute [go_sem] ZlF.eq_1 ZlF.eq_2
attribute [go_sem] ZeX.eq_1 ZeX.eq_2 ZeX.eq_3 ZeX.eq_4 ZeX.eq_5 ZeX.eq_6 ZeX.eq_7 ZeX.eq_8 ZeX.eq_9
attribute [go_sem] ZaQ.eq_1
attribute [go_sem] Wb.eq_1 Wb.eq_2 Wb.eq_3 Wb.eq_4
attribute [go_sem] Eff.frz.eq_1
attribute [go_sem] Ql.eq_1 Ql.eq_2
attribute [go_sem] ZjO.eq_1 ZjO.eq_2
attribute [go_sem] Zd.gone.eq_1
attribute [go_sem] meltIn.eq_1 meltIn.eq_2
attribute [go_sem] Zjj.eq_1
attribute [go_sem] Zww.eq_1 Zww.eq_2
attribute [go_sem] convI.eq_1 convI.eq_2
attribute [go_sem] ZpZ.eq_1 ZpZ.eq_2
attribute [go_sem] bd.eq_1
attribute [go_sem] ZdN.eq_1 ZdN.eq_2
attribute [go_sem] X6.eq_1
attribute [go_sem] ZfN.eq_1 ZfN.eq_2
attribute [go_sem] ZsT.eq_1 ZsT.eq_2
attribute [go_sem] Zy5.eq_1 Zy5.eq_2
attribute [go_sem] ZM.eq_1 ZM.eq_2 ZM.eq_3 ZM.eq_4 ZM.eq_5 ZM.eq_6 ZM.eq_7 ZM.eq_8 ZM.eq_9 ZM.eq_10 ZM.eq_11 ZM.eq_12 ZM.eq_13 ZM.eq_14 ZM.eq_15 ZM.eq_16 ZM.eq_17 ZM.eq_18 ZM.eq_19 ZM.eq_20 ZM.eq_21 ZM.eq_22 ZM.eq_23 ZM.eq_24 ZM.eq_25 ZM.eq_26 ZM.eq_27 ZM.eq_28 ZM.eq_29 ZM.eq_30 ZM.eq_31 ZM.eq_32 ZM.eq_33 ZM.eq_34 ZM.eq_35 ZM.eq_36 ZM.eq_37 ZM.eq_38 ZM.eq_39
attribute [go_sem] JP.eq_1 JP.eq_2 JP.eq_3 JP.eq_4 JP.eq_5
attribute [go_sem] Zjp.eq_1
attribute [go_sem] Zu6.eq_1 Zu6.eq_2
attribute [go_sem] ZcB.eq_1 ZcB.eq_2
attribute [go_sem] Ze3.eq_1
attribute [go_sem] Ze1.eq_1 Ze1.eq_2 Ze1.eq_3 Ze1.eq_4 Ze1.eq_5
attribute [go_sem] JE.eq_1 JE.eq_2
attribute [go_sem] ZrU.eq_1 ZrU.eq_2
attribute [go_sem] Xi.eq_1 Xi.eq_2
attribute [go_sem] only.eq_1 only.eq_2
attribute [go_sem] Zx9.eq_1 Zx9.eq_2
attribute [go_sem] Zjn.eq_1 Zjn.eq_2
attribute [go_sem] Wp.eq_1 Wp.eq_2
attribute [go_sem] okL.eq_1 okL.eq_2
attribute [go_sem] okC.eq_1 okC.eq_2 okC.eq_3 okC.eq_4 okC.eq_5 okC.eq_6 okC.eq_7 okC.eq_8 okC.eq_9 okC.eq_10
attribute [go_sem] Zp1.eq_1 Zp1.eq_2
attribute [go_sem] ZlN.eq_1 ZlN.eq_2
attribute [go_sem] Zg3.eq_1 Zg3.eq_2 Zg3.eq_3
attribute [go_sem] ZjX.eq_1 ZjX.eq_2
attribute [go_sem] Zjo.eq_1 Zjo.eq_2
attribute [go_sem] Xr.eq_1 Xr.eq_2
attribute [go_sem] Zt.eq_1 Zt.eq_2
attribute [go_sem] Wo.eq_1 Wo.eq_2 Wo.eq_3
attribute [go_sem] Znb.eq_1
attribute [go_sem] VN.eq_1 VN.eq_2
attribute [go_sem] ZaX.eq_1 ZaX.eq_2
attribute [go_sem] CO.starts.eq_1
attribute [go_sem] Vl.eq_1 Vl.eq_2
attribute [go_sem] Q0.eq_1 Q0.eq_2
attribute [go_sem] Zy4.eq_1 Zy4.eq_2
attribute [go_sem] Zon.eq_1
attribute [go_sem] Zg5.eq_1 Zg5.eq_2
attribute [go_sem] WV.eq_1 WV.eq_2
attribute [go_sem] Ze2.eq_1
attribute [go_sem] Zr.body.eq_1
attribute [go_sem] ZlO.eq_1 ZlO.eq_2
attribute [go_sem] JD.eq_1 JD.eq_2 JD.eq_3 JD.eq_4 JD.eq_5 JD.eq_6
attribute [go_sem] Zr.res.eq_1
attribute [go_sem] VJ.eq_1 VJ.eq_2
attribute [go_sem] Y4.eq_1 Y4.eq_2 Y4.eq_3 Y4.eq_4 Y4.eq_5 Y4.eq_6 Y4.eq_7 Y4.eq_8 Y4.eq_9 Y4.eq_10 Y4.eq_11 Y4.eq_12
attribute [go_sem] ZpQ.eq_1 ZpQ.eq_2
attribute [go_sem] Wn.eq_1 Wn.eq_2
attribute [go_sem] Zr.nt.eq_1
attribute [go_sem] okD.eq_1 okD.eq_2
attribute [go_sem] ZsT.eq_1 Za1.eq_1 Za1.eq_2 Za1.eq_3 Za1.eq_4
attribute [go_sem] WW.eq_1 ZdW.eq_1 ZdW.eq_2 ZdW.eq_3 ZdW.eq_4 ZdW.eq_5 ZdW.eq_6 ZdW.eq_7 ZdW.eq_8 ZdW.eq_9 ZdW.eq_10 VK.eq_1
attribute [go_sem] QQ.eq_3 Xh.eq_1 AV.atom.eq_1 AV.atom.eq_2 AV.atom.eq_3 AV.atom.eq_4
attribute [go_sem] ZsR.eq_1 ZsR.eq_2 Zlb.eq_1 Zlb.eq_2
attribute [go_sem] Zg ZAR ZB8
attribute [go_sem] List.map_cons List.map_nil List.flatMap_cons List.flatMap_nil List.append_nil List.nil_append List.cons_append List.length_cons List.length_nil List.all_cons List.all_nil List.any_cons List.any_nil List.contains_cons List.contains_nil List.filter_cons List.filter_nil List.drop_zero List.drop_succ_cons List.drop_nil List.take_zero List.take_succ_cons List.take_nil List.getElem?_cons_zero List.getElem?_cons_succ List.getElem?_nil Option.map_some Option.map_none Bool.and_true Bool.true_and Bool.and_false Bool.false_and Bool.or_true Bool.true_or Bool.or_false Bool.false_or Bool.not_true Bool.not_false decide_true decide_false and_true true_and and_false false_and not_true not_false_eq_true or_true true_or or_false false_or if_true if_false true_implies false_implies implies_true imp_self eq_self ne_eq beq_self_eq_true Bool.true_eq_false Bool.false_eq_true List.isEmpty_nil List.isEmpty_cons List.range_zero List.set_cons_zero List.set_cons_succ Option.some.injEq reduceCtorEq Nat.reduceLeDiff
def Zrs (hp:Hp):List Nat→List Nat
 | []=>[]
 | i :: r=>if Vi (lkp hp i)=true then i :: Zrs hp r else Zrs hp r
theorem gE (hp:Hp) (ids:List Nat):(ids.filter fun i=>Vi (lkp hp i))=Zrs hp ids:=by
 induction ids with
 | nil=>rfl
 | cons i r ih=>simp only[List.filter_cons,Zrs,ih]
def ZtJ (hp:Hp) (rs:List Nat):List Nat→Bool
 | []=>true
 | i :: r=>(Vi (lkp hp i) || rs.contains i)&&ZtJ hp rs r
def ZtK (hp:Hp):List Nat→Bool
 | []=>false
 | i :: r=>Zci (lkp hp i) || ZtK hp r
theorem gG (hp:Hp) (ids:List Nat):(ids.any fun i=>Zci (lkp hp i))=ZtK hp ids:=by
 induction ids with
 | nil=>rfl
 | cons i r ih=>simp only[List.any_cons,ZtK,ih]
attribute [go_sem] ZtK.eq_1 ZtK.eq_2
@[go_sem] theorem appTo_nil (hp:Hp) (s b:Nat) (str flat:Bool) (base:Nat) (y:AV):ZfO hp s b str flat base y .nil=Wc hp s b str flat base .nil y ([]++YJ hp y):=rfl
@[go_sem] theorem appTo_own (hp:Hp) (s b:Nat) (str flat:Bool) (base:Nat) (y:AV) (k:Nat):ZfO hp s b str flat base y (.own k)=Wc hp s b str flat base (.own k) y ((if Zci (lkp hp k)=true then [k] else [])++YJ hp y):=rfl
@[go_sem] theorem ZDF (hp:Hp) (s b:Nat) (str flat:Bool) (base:Nat) (y:AV) (k o n:Nat):ZfO hp s b str flat base y (.ownv k o n)=Wc hp s b str flat base (.ownv k o n) y ([]++YJ hp y):=rfl
@[go_sem] theorem deepId_d (hp:Hp) (x:D):YJ hp (.d x)=[]:=rfl
@[go_sem] theorem ZDG (hp:Hp):YJ hp .nil=[]:=rfl
@[go_sem] theorem ZC8 (hp:Hp) (k o n:Nat):YJ hp (.ownv k o n)=[]:=rfl
@[go_sem] theorem ZDH (hp:Hp) (k:Nat):YJ hp (.own k)=if Zci (lkp hp k)=true then [k] else []:=rfl
@[go_sem] theorem appTo_sub (hp:Hp) (s b:Nat) (str flat:Bool) (base:Nat) (y:AV) (id nm:Nat):ZfO hp s b str flat base y (.sub id nm)=if str then none else bnd (ZfM hp true y) fun q=>if (Zcv y).contains id then none else ZlH s b base id nm q (lkp hp id):=rfl
theorem gF (hp:Hp) (rs ids:List Nat):ZcP hp rs ids=ZtJ hp rs ids:=by
 induction ids with
 | nil=>rfl
 | cons i r ih=>simp only[ZcP,Lq,ZtJ] at ih ⊢;rw[ih]
attribute [go_sem] Zrs.eq_1 Zrs.eq_2 ZtJ.eq_1 ZtJ.eq_2
@[go_sem] theorem okV_d (x:D):okV (.d x)=true:=rfl
@[go_sem] theorem okV_nil:okV .nil=true:=rfl
@[go_sem] theorem okV_nilp:okV .nilp=true:=rfl
@[go_sem] theorem okV_nili:okV .nili=true:=rfl
@[go_sem] theorem okV_ptr (a b:Nat):okV (.ptr a b)=true:=rfl
@[go_sem] theorem okV_prow (a b c e:Nat):okV (.prow a b c e)=true:=rfl
@[go_sem] theorem okV_pim (cs:List D):okV (.pim cs)=true:=rfl
@[go_sem] theorem okV_own (a:Nat):okV (.own a)=true:=rfl
@[go_sem] theorem okV_ownv (a b c:Nat):okV (.ownv a b c)=true:=rfl
@[go_sem] theorem okV_agg (cs:List AV):okV (.agg cs)=Zu6 cs:=rfl
@[go_sem] theorem okV_tup0:okV (.tup [])=true:=rfl
@[go_sem] theorem ZC9 (sl:Sl) (a:COp) (k:Nat):seenSrc sl a (.own k)=Xr sl k (ZM a):=rfl
@[go_sem] theorem seenSrc_d (sl:Sl) (a:COp) (x:D):seenSrc sl a (.d x)=true:=rfl
@[go_sem] theorem ZDa (sl:Sl) (a:COp):seenSrc sl a .nil=true:=rfl
@[go_sem] theorem ZCz (sl:Sl) (a:COp) (x y z:Nat):seenSrc sl a (.ownv x y z)=true:=rfl
@[go_sem] theorem okV_iteV (b:Bool) (v:AV):okV (Zj9 b v)=(!b || okV v):=by cases b<;>simp[Zj9,okV]
@[go_sem] theorem awayV_d (sl:Sl) (xs:List Opd) (x:D):ZdX sl xs (.d x)=true:=rfl
@[go_sem] theorem awayV_nil (sl:Sl) (xs:List Opd):ZdX sl xs .nil=true:=rfl
@[go_sem] theorem ZDI (sl:Sl) (xs:List Opd):ZdX sl xs .nilp=true:=rfl
@[go_sem] theorem awayV_ptr (sl:Sl) (xs:List Opd) (k o:Nat):ZdX sl xs (.ptr k o)=Xr sl k xs:=rfl
@[go_sem] theorem awayV_pim (sl:Sl) (xs:List Opd) (cs:List D):ZdX sl xs (.pim cs)=true:=rfl
@[go_sem] theorem awayV_own (sl:Sl) (xs:List Opd) (a:Nat):ZdX sl xs (.own a)=true:=rfl
@[go_sem] theorem ZDJ (sl:Sl) (xs:List Opd) (a b c:Nat):ZdX sl xs (.ownv a b c)=true:=rfl
@[go_sem] theorem awayV_agg (sl:Sl) (xs:List Opd) (cs:List AV):ZdX sl xs (.agg cs)=true:=rfl
@[go_sem] theorem awayV_tup (sl:Sl) (xs:List Opd) (cs:List AV):ZdX sl xs (.tup cs)=true:=rfl
end Go.Abs.E
