import Derived.Test.YtfnegoimdljanaaGreatDoorAbsRun
set_option linter.unusedSimpArgs false
set_option linter.unusedVariables false
namespace Go.Abs.E
open Go Go.Abs
abbrev _root_.Go.Abs.Opd.i (n:Int):Opd:=.v (.d (.int .i64 n))
abbrev _root_.Go.Abs.Opd.b (x:Bool):Opd:=.v (.d (.bool x))
def stW {α:Type} (x:Option α) (K:α→Prop):Prop:=match x with
 | some a=>K a
 | none=>False
def gW (x:Option Bool) (A B:Prop):Prop:=match x with
 | some b=>(b=true→A)∧(b=false→B)
 | none=>False
def Wy (v:AV) (A B:Prop):Prop:=match v with
 | .d (.bool t)=>(t=true→A)∧(t=false→B)
 | _=>False
theorem YL {α:Type} (a:α) (K:α→Prop):stW (some a) K=K a:=rfl
theorem ZgE {α:Type} (K:α→Prop):stW none K=False:=rfl
theorem Za1 {α β:Type} (x:Option α) (f:α→Option β) (K:β→Prop):stW (bnd x f) K=stW x fun a=>stW (f a) K:=by cases x<;>rfl
@[go_sem] theorem ZyC (A B:Prop):gW (some true) A B=A:=by simp[gW]
@[go_sem] theorem gW_false (A B:Prop):gW (some false) A B=B:=by simp[gW]
@[go_sem] theorem gW_dec (p:Prop) [Decidable p] (A B:Prop):gW (some (decide p)) A B=((p→A)∧(¬p→B)):=by simp[gW]
@[go_sem] theorem gW_not (b:Bool) (A B:Prop):gW (some (!b)) A B=gW (some b) B A:=by cases b<;>simp[gW]
@[go_sem] theorem ZDJ (A B:Prop):Wy (.d (.bool true)) A B=A:=by simp[Wy]
@[go_sem] theorem ZDh (A B:Prop):Wy (.d (.bool false)) A B=B:=by simp[Wy]
@[go_sem] theorem condW_dec (p:Prop) [Decidable p] (A B:Prop):Wy (.d (.bool (decide p))) A B=((p→A)∧(¬p→B)):=by simp[Wy]
@[go_sem] theorem condW_not (b:Bool) (A B:Prop):Wy (.d (.bool (!b))) A B=Wy (.d (.bool b)) B A:=by cases b<;>simp[Wy]
@[go_sem] theorem condW_and (a b:Bool) (A B:Prop):Wy (.d (.bool (a&&b))) A B=Wy (.d (.bool a)) (Wy (.d (.bool b)) A B) B:=by cases a<;>cases b<;>simp[Wy]
@[go_sem] theorem condW_or (a b:Bool) (A B:Prop):Wy (.d (.bool (a || b))) A B=Wy (.d (.bool a)) A (Wy (.d (.bool b)) A B):=by cases a<;>cases b<;>simp[Wy]
@[go_sem] theorem ZDK (b:Bool) (A B:Prop):Wy (.d (.bool b)) A B=((b=true→A)∧(b=false→B)):=rfl
@[congr] theorem gW_congr {x y:Option Bool} {A B:Prop} (h:x=y):gW x A B=gW y A B:=by rw[h]
@[congr] theorem ZDi {v w:AV} {A B:Prop} (h:v=w):Wy v A B=Wy w A B:=by rw[h]
section
variable (X:Fns) (M:Zq)
noncomputable def ZbB (nx:Nat):Nat→List CO→Sl→Hp→(Sl→Hp→Prop)→Prop
 | _,[],sl,hp,K=>K sl hp
 | i,o :: rest,sl,hp,K=>gW (ZZ sl o.guard)
   (stW (Ys (nx+64*i) o.dst sl hp (vop (Zd X M) M sl hp (nx+64*i) o.op)) fun r=>ZbB nx (i+1) rest r.1 r.2 K)
   (ZbB nx (i+1) rest (Zs sl o.dst (.tup [])) hp K)
def ZaS (nx i:Nat) (d:Option Nat) (rest:List CO) (sl:Sl) (hp:Hp) (K:Sl→Hp→Prop) (e:Option Ze):Prop:=
 stW (Ys (nx+64*i) d sl hp e) fun r=>ZbB X M nx (i+1) rest r.1 r.2 K
@[go_sem] theorem opsW_nil (nx i:Nat) (sl:Sl) (hp:Hp) (K:Sl→Hp→Prop):ZbB X M nx i [] sl hp K=K sl hp:=rfl
@[go_sem] theorem opsW_cons (nx i:Nat) (d:Option Nat) (tl:Bool) (op:COp) (aa:List CO) (sl:Sl) (hp:Hp) (K:Sl→Hp→Prop) :
  ZbB X M nx i (⟨d,none,op,tl⟩ :: aa) sl hp K=ZaS X M nx i d aa sl hp K (vop (Zd X M) M sl hp (nx+64*i) op):=by
 simp[ZbB,ZaS,ZZ,ZyC]
def ZiE (b:Bool) (v:AV):AV:=if b then v else .tup []
def UC (b:Bool) (nx i:Nat) (d:Option Nat) (rest:List CO) (sl:Sl) (hp:Hp) (K:Sl→Hp→Prop) (e:Option Ze):Prop:=
 gW (some b) (ZaS X M nx i d rest sl hp K e) (ZbB X M nx (i+1) rest (Zs sl d (.tup [])) hp K)
def Zuf (g:Option Bool) (nx i:Nat) (d:Option Nat) (op:COp) (rest:List CO) (sl:Sl) (hp:Hp) (K:Sl→Hp→Prop):Prop:=
 gW g (ZaS X M nx i d rest sl hp K (vop (Zd X M) M sl hp (nx+64*i) op)) (ZbB X M nx (i+1) rest (Zs sl d (.tup [])) hp K)
@[go_sem] theorem ZDL (nx i g:Nat) (w:Bool) (d:Option Nat) (tl:Bool) (op:COp) (aa:List CO) (sl:Sl) (hp:Hp) (K:Sl→Hp→Prop) :
  ZbB X M nx i (⟨d,some (g,w),op,tl⟩ :: aa) sl hp K=Zuf X M (ZeZ w (gs sl g)) nx i d op aa sl hp K:=rfl
@[go_sem] theorem ZDj (b:Bool) (nx i:Nat) (d:Option Nat) (op:COp) (aa:List CO) (sl:Sl) (hp:Hp) (K:Sl→Hp→Prop) :
  Zuf X M (some b) nx i d op aa sl hp K=UC X M b nx i d aa sl hp K (vop (Zd X M) M sl hp (nx+64*i) op):=rfl
@[go_sem] theorem gA (nx i:Nat) (d:Option Nat) (aa:List CO) (sl:Sl) (hp:Hp) (K:Sl→Hp→Prop) (e:Option Ze) :
  UC X M true nx i d aa sl hp K e=ZaS X M nx i d aa sl hp K e:=by simp[UC,gW]
@[go_sem] theorem gB (nx i:Nat) (d:Option Nat) (aa:List CO) (sl:Sl) (hp:Hp) (K:Sl→Hp→Prop) (e:Option Ze) :
  UC X M false nx i d aa sl hp K e=ZbB X M nx (i+1) aa (Zs sl d (.tup [])) hp K:=by simp[UC,gW]
@[go_sem] theorem Zug (b:Bool) (nx i:Nat) (d:Option Nat) (aa:List CO) (sl:Sl) (hp:Hp) (K:Sl→Hp→Prop) (v:AV) :
  UC X M b nx i d aa sl hp K (Qp v)=ZbB X M nx (i+1) aa (Zs sl d (ZiE b v)) hp K:=by
 cases b
 ·simp[UC,gW,ZiE]
 ·simp only[UC,gW,ZiE,Kl,true_implies,Kav,false_implies,and_true];rfl
@[go_sem] theorem ZDk (b:Bool) (nx i:Nat) (d:Option Nat) (aa:List CO) (sl:Sl) (hp:Hp) (K:Sl→Hp→Prop) (v:AV) :
  UC X M b nx i d aa sl hp K (some { eff := { val:=v,adds:=[],sets:=[],dels:=[],frz:=[] },gone:=[] })=ZbB X M nx (i+1) aa (Zs sl d (ZiE b v)) hp K:=Zug X M b nx i d aa sl hp K v
@[congr] theorem ZCt {g g' : Option Bool} {nx i:Nat} {d:Option Nat} {op:COp} {aa:List CO} {sl:Sl} {hp:Hp} {K:Sl→Hp→Prop} (h:g=g') :
  Zuf X M g nx i d op aa sl hp K=Zuf X M g' nx i d op aa sl hp K:=by rw[h]
@[congr] theorem ZCu {b b' : Bool} {nx i:Nat} {d:Option Nat} {aa:List CO} {sl:Sl} {hp:Hp} {K:Sl→Hp→Prop} {e e' : Option Ze} (hb:b=b') (h:b'=true→e=e') :
  UC X M b nx i d aa sl hp K e=UC X M b' nx i d aa sl hp K e':=by
 subst hb;cases b
 ·simp[UC,gW]
 ·rw[h rfl]
@[go_sem] theorem ZDl (nx i:Nat) (d:Option Nat) (aa:List CO) (sl:Sl) (hp:Hp) (K:Sl→Hp→Prop) (v:AV) :
  ZaS X M nx i d aa sl hp K (Qp v)=ZbB X M nx (i+1) aa (Zs sl d v) hp K:=rfl
@[go_sem] theorem ZDM (nx i:Nat) (d:Option Nat) (aa:List CO) (sl:Sl) (hp:Hp) (K:Sl→Hp→Prop) (v:AV) :
  ZaS X M nx i d aa sl hp K (some { eff := { val:=v,adds:=[],sets:=[],dels:=[],frz:=[] },gone:=[] })=ZbB X M nx (i+1) aa (Zs sl d v) hp K:=rfl
@[go_sem] theorem ZDN (nx i:Nat) (d:Option Nat) (aa:List CO) (sl:Sl) (hp:Hp) (K:Sl→Hp→Prop) (e:Ze) :
  ZaS X M nx i d aa sl hp K (some e)=(QX (nx+64*i) (nx+64*i+64) e.eff.adds=true∧ZbB X M nx (i+1) aa (Zs (Xc e.gone sl) d e.eff.val) (e.eff.on (VL e.gone hp)) K):=by
 unfold ZaS Ys;rw[Zg];split<;>rename_i h
 ·simp only[YL,h,true_and];rfl
 ·simp only[ZgE,h,false_and,Ka]
@[go_sem] theorem ZDO (nx i:Nat) (d:Option Nat) (aa:List CO) (sl:Sl) (hp:Hp) (K:Sl→Hp→Prop):ZaS X M nx i d aa sl hp K none=False:=rfl
@[go_sem] theorem stepW_ite (nx i:Nat) (d:Option Nat) (aa:List CO) (sl:Sl) (hp:Hp) (K:Sl→Hp→Prop) (c:Prop) [Decidable c] (a b:Option Ze) :
  ZaS X M nx i d aa sl hp K (if c then a else b)=((c→ZaS X M nx i d aa sl hp K a)∧(¬c→ZaS X M nx i d aa sl hp K b)):=by
 by_cases h:c<;>simp[h]
noncomputable def YE (nx:Nat):Nat→Bool→List CO→Sl→Hp→(Sl→Hp→Prop)→Prop
 | _,_,[],sl,hp,K=>K sl hp
 | i,tail,o :: rest,sl,hp,K=>gW (ZZ sl o.guard)
   (stW (Ys (nx+64*i) o.dst sl hp (VQ (Zd X M) (X5 M) nx i (CO.starts o) o.op sl hp)) fun r=>YE nx (i+1) tail rest r.1 r.2 K)
   (YE nx (i+1) tail rest (Zs sl o.dst (.tup [])) hp K)
def WA (nx i:Nat) (t:Bool) (d:Option Nat) (rest:List CO) (sl:Sl) (hp:Hp) (K:Sl→Hp→Prop) (e:Option Ze):Prop:=
 stW (Ys (nx+64*i) d sl hp (if t then e else ZbR e)) fun r=>YE X M nx (i+1) false rest r.1 r.2 K
@[go_sem] theorem opsDW_nil (nx i:Nat) (t:Bool) (sl:Sl) (hp:Hp) (K:Sl→Hp→Prop):YE X M nx i t [] sl hp K=K sl hp:=rfl
@[go_sem] theorem ZDP (nx i:Nat) (d:Option Nat) (tl:Bool) (op:COp) (aa:List CO) (sl:Sl) (hp:Hp) (K:Sl→Hp→Prop) :
  YE X M nx i false (⟨d,none,op,tl⟩ :: aa) sl hp K=WA X M nx i (Zij op || tl) d aa sl hp K (vop (Zd X M) (X5 M) sl hp (nx+64*i) op):=by
 simp[YE,WA,ZZ,ZyC,VQ,CO.starts]
def VE (b:Bool) (nx i:Nat) (t:Bool) (d:Option Nat) (rest:List CO) (sl:Sl) (hp:Hp) (K:Sl→Hp→Prop) (e:Option Ze):Prop:=
 gW (some b) (WA X M nx i t d rest sl hp K e) (YE X M nx (i+1) false rest (Zs sl d (.tup [])) hp K)
def ZoS (g:Option Bool) (nx i:Nat) (t:Bool) (d:Option Nat) (op:COp) (rest:List CO) (sl:Sl) (hp:Hp) (K:Sl→Hp→Prop):Prop:=
 gW g (WA X M nx i t d rest sl hp K (vop (Zd X M) (X5 M) sl hp (nx+64*i) op)) (YE X M nx (i+1) false rest (Zs sl d (.tup [])) hp K)
@[go_sem] theorem ZDm (nx i g:Nat) (w:Bool) (d:Option Nat) (tl:Bool) (op:COp) (aa:List CO) (sl:Sl) (hp:Hp) (K:Sl→Hp→Prop) :
  YE X M nx i false (⟨d,some (g,w),op,tl⟩ :: aa) sl hp K=ZoS X M (ZeZ w (gs sl g)) nx i (Zij op || tl) d op aa sl hp K:=rfl
@[go_sem] theorem ZCv (b:Bool) (nx i:Nat) (t:Bool) (d:Option Nat) (op:COp) (aa:List CO) (sl:Sl) (hp:Hp) (K:Sl→Hp→Prop) :
  ZoS X M (some b) nx i t d op aa sl hp K=VE X M b nx i t d aa sl hp K (vop (Zd X M) (X5 M) sl hp (nx+64*i) op):=rfl
@[go_sem] theorem gC (nx i:Nat) (t:Bool) (d:Option Nat) (aa:List CO) (sl:Sl) (hp:Hp) (K:Sl→Hp→Prop) (e:Option Ze) :
  VE X M true nx i t d aa sl hp K e=WA X M nx i t d aa sl hp K e:=by simp[VE,gW]
@[go_sem] theorem gD (nx i:Nat) (t:Bool) (d:Option Nat) (aa:List CO) (sl:Sl) (hp:Hp) (K:Sl→Hp→Prop) (e:Option Ze) :
  VE X M false nx i t d aa sl hp K e=YE X M nx (i+1) false aa (Zs sl d (.tup [])) hp K:=by simp[VE,gW]
@[go_sem] theorem ZrP (b:Bool) (nx i:Nat) (t:Bool) (d:Option Nat) (aa:List CO) (sl:Sl) (hp:Hp) (K:Sl→Hp→Prop) (v:AV) :
  VE X M b nx i t d aa sl hp K (Qp v)=YE X M nx (i+1) false aa (Zs sl d (ZiE b v)) hp K:=by
 cases b
 ·simp[VE,gW,ZiE]
 ·simp only[VE,gW,ZiE,Kl,true_implies,Kav,false_implies,and_true];cases t<;>rfl
@[go_sem] theorem ZCw (b:Bool) (nx i:Nat) (t:Bool) (d:Option Nat) (aa:List CO) (sl:Sl) (hp:Hp) (K:Sl→Hp→Prop) (v:AV) :
  VE X M b nx i t d aa sl hp K (some { eff := { val:=v,adds:=[],sets:=[],dels:=[],frz:=[] },gone:=[] })=YE X M nx (i+1) false aa (Zs sl d (ZiE b v)) hp K:=ZrP X M b nx i t d aa sl hp K v
@[congr] theorem ZB6 {g g' : Option Bool} {nx i:Nat} {t t' : Bool} {d:Option Nat} {op:COp} {aa:List CO} {sl:Sl} {hp:Hp} {K:Sl→Hp→Prop} (h:g=g') (ht:t=t') :
  ZoS X M g nx i t d op aa sl hp K=ZoS X M g' nx i t' d op aa sl hp K:=by rw[h,ht]
@[congr] theorem ZB7 {b b' : Bool} {nx i:Nat} {t:Bool} {d:Option Nat} {aa:List CO} {sl:Sl} {hp:Hp} {K:Sl→Hp→Prop} {e e' : Option Ze} (hb:b=b') (h:b'=true→e=e') :
  VE X M b nx i t d aa sl hp K e=VE X M b' nx i t d aa sl hp K e':=by
 subst hb;cases b
 ·simp[VE,gW]
 ·rw[h rfl]
@[go_sem] theorem ZCx (nx i:Nat) (t:Bool) (d:Option Nat) (aa:List CO) (sl:Sl) (hp:Hp) (K:Sl→Hp→Prop) (v:AV) :
  WA X M nx i t d aa sl hp K (Qp v)=YE X M nx (i+1) false aa (Zs sl d v) hp K:=by cases t<;>rfl
@[go_sem] theorem ZDn (nx i:Nat) (t:Bool) (d:Option Nat) (aa:List CO) (sl:Sl) (hp:Hp) (K:Sl→Hp→Prop) (v:AV) :
  WA X M nx i t d aa sl hp K (some { eff := { val:=v,adds:=[],sets:=[],dels:=[],frz:=[] },gone:=[] })=YE X M nx (i+1) false aa (Zs sl d v) hp K:=by cases t<;>rfl
@[go_sem] theorem ZDo (nx i:Nat) (t:Bool) (d:Option Nat) (aa:List CO) (sl:Sl) (hp:Hp) (K:Sl→Hp→Prop) (e:Ze) :
  WA X M nx i t d aa sl hp K (some e)=((t=false→Ze4 e e.gone e.eff.sets e.eff.dels e.eff.frz=some e)∧QX (nx+64*i) (nx+64*i+64) e.eff.adds=true∧YE X M nx (i+1) false aa (Zs (Xc e.gone sl) d e.eff.val) (e.eff.on (VL e.gone hp)) K):=by
 have ab:stW (Ys (nx+64*i) d sl hp (some e)) (fun r=>YE X M nx (i+1) false aa r.1 r.2 K)=(QX (nx+64*i) (nx+64*i+64) e.eff.adds=true∧YE X M nx (i+1) false aa (Zs (Xc e.gone sl) d e.eff.val) (e.eff.on (VL e.gone hp)) K):=by
  unfold Ys;rw[Zg];split<;>rename_i h
  ·simp only[YL,h,true_and];rfl
  ·simp only[ZgE,h,false_and,Ka]
 unfold WA;cases t with
 | true=>simp only[Kl];rw[ab];simp
 | false=>
  simp only[Ka,Km,ZbR,Zg,true_implies];unfold Ze4;split
  ·rw[ab];simp
  ·simp[Ys,bnd,stW]
@[go_sem] theorem ZDp (nx i:Nat) (t:Bool) (d:Option Nat) (aa:List CO) (sl:Sl) (hp:Hp) (K:Sl→Hp→Prop):WA X M nx i t d aa sl hp K none=False:=by cases t<;>rfl
@[go_sem] theorem ZDQ (nx i:Nat) (t:Bool) (d:Option Nat) (aa:List CO) (sl:Sl) (hp:Hp) (K:Sl→Hp→Prop) (c:Prop) [Decidable c] (a b:Option Ze) :
  WA X M nx i t d aa sl hp K (if c then a else b)=((c→WA X M nx i t d aa sl hp K a)∧(¬c→WA X M nx i t d aa sl hp K b)):=by
 by_cases h:c<;>simp[h]
@[go_sem] theorem quietC_ok (c:Ze):Ze4 c [] [] [] []=some c:=rfl
def W (c:ZM) (st:St) (Q:Ex→St→Prop):Prop:=stW (QA X M c st) fun r=>Q r.1 r.2
@[congr] theorem W_congr {c:ZM} {st aa : St} {Q:Ex→St→Prop} (h:st=aa):W X M c st Q=W X M c aa Q:=by rw[h]
@[congr] theorem ZDR {aa:List CO} {nx ab i i' : Nat} {sl sl' : Sl} {hp hp' : Hp} {K:Sl→Hp→Prop} (hn:nx=ab) (hi:i=i') (h:sl=sl') (h' : hp=hp') :
  ZbB X M nx i aa sl hp K=ZbB X M ab i' aa sl' hp' K:=by rw[h,h',hn,hi]
@[congr] theorem ZDq {aa:List CO} {nx ab i i' : Nat} {t t' : Bool} {sl sl' : Sl} {hp hp' : Hp} {K:Sl→Hp→Prop} (hn:nx=ab) (hi:i=i') (ht:t=t') (h:sl=sl') (h' : hp=hp') :
  YE X M nx i t aa sl hp K=YE X M ab i' t' aa sl' hp' K:=by rw[h,h',ht,hn,hi]
@[congr] theorem ZDr {aa:List CO} {nx i:Nat} {d:Option Nat} {sl:Sl} {hp:Hp} {K:Sl→Hp→Prop} {e e' : Option Ze} (h:e=e') :
  ZaS X M nx i d aa sl hp K e=ZaS X M nx i d aa sl hp K e':=by rw[h]
@[congr] theorem ZCy {aa:List CO} {nx i:Nat} {t t' : Bool} {d:Option Nat} {sl:Sl} {hp:Hp} {K:Sl→Hp→Prop} {e e' : Option Ze} (ht:t=t') (h:e=e') :
  WA X M nx i t d aa sl hp K e=WA X M nx i t' d aa sl hp K e':=by rw[h,ht]
theorem ZyD (nx:Nat) (K:Sl→Hp→Prop):∀ (l:List CO) (i:Nat) (sl:Sl) (hp:Hp),ZbB X M nx i l sl hp K=stW (Ze3 (Zd X M) M nx i l sl hp) fun r=>K r.1 r.2:=by
 intro l
 induction l with
 | nil=>intro i sl hp;rfl
 | cons o rest ih=>
  intro i sl hp;simp only[ZbB,Ze3,ih,Za1];cases ZZ sl o.guard with
  | none=>rfl
  | some b=>cases b<;>simp[gW,Za1,YL]
theorem Zvx (nx:Nat) (K:Sl→Hp→Prop):∀ (l:List CO) (i:Nat) (t:Bool) (sl:Sl) (hp:Hp),YE X M nx i t l sl hp K=stW (Us (Zd X M) (X5 M) nx i t l sl hp) fun r=>K r.1 r.2:=by
 intro l
 induction l with
 | nil=>intro i t sl hp;rfl
 | cons o rest ih=>
  intro i t sl hp;simp only[YE,Us,ih,Za1];cases ZZ sl o.guard with
  | none=>rfl
  | some b=>cases b<;>simp[gW,Za1,YL]
def Zoc (m nx:Nat) (Q:Ex→St→Prop) (sl:Sl) (hp:Hp):Prop:=Q .normal { sl:=sl,hp:=hp,nx:=nx,m:=m }
def ZiR (ops:List CO) (ps:List (Nat×Nat)) (K:Sl→Hp→Prop) (sl:Sl) (hp:Hp):Prop:=VM ops sl ps=true∧K sl hp
@[go_sem] theorem regQ_eq (m nx:Nat) (Q:Ex→St→Prop) (sl:Sl) (hp:Hp):Zoc m nx Q sl hp=Q .normal { sl:=sl,hp:=hp,nx:=nx,m:=m }:=rfl
@[go_sem] theorem seenQ_eq (ops:List CO) (ps:List (Nat×Nat)) (K:Sl→Hp→Prop) (sl:Sl) (hp:Hp):ZiR ops ps K sl hp=(VM ops sl ps=true∧K sl hp):=rfl
@[go_sem] theorem W_skip (st:St) (Q:Ex→St→Prop):W X M .skip st Q=Q .normal st:=by simp[W,Zxs,YL]
@[go_sem] theorem W_ret (st:St) (Q:Ex→St→Prop):W X M .ret st Q=Q .ret st:=by simp[W,ZzW,YL]
@[go_sem] theorem W_exit (id:Nat) (st:St) (Q:Ex→St→Prop):W X M (.exit id) st Q=Q (.exit id) st:=by simp[W,Zxt,YL]
@[go_sem] theorem W_stuck (st:St) (Q:Ex→St→Prop):W X M .stuck st Q=False:=by
 have h:QA X M .stuck st=none:=XR fun n=>by simp only[ZG]
 simp only[W,h,ZgE]
@[go_sem] theorem W_region (n:Nat) (ops:List CO) (st:St) (Q:Ex→St→Prop) :
  W X M (.region n none ops) st Q=ZbB X M st.nx 0 ops st.sl st.hp (Zoc st.m (st.nx+64*n) Q):=by
 rw[ZyD,W,ZkQ,ZiG,Za1];rfl
theorem ZA0 (n:Nat) (ps:List (Nat×Nat)) (ops:List CO) (st:St) (Q:Ex→St→Prop) :
  W X M (.region n (some ps) ops) st Q=YE X M st.nx 0 false ops st.sl st.hp (ZiR ops ps (Zoc st.m (st.nx+64*n) Q)):=by
 rw[Zvx,W,Zp9,ZiG,Za1,ZkM,Za1];congr 1
 funext r
 by_cases h:VM ops r.1 ps=true<;>simp[h,ZiR,YL,ZgE,Zoc]
@[go_sem] theorem W_draw0 (n:Nat) (ops:List CO) (st:St) (Q:Ex→St→Prop) :
  W X M (.region n (some []) ops) st Q=YE X M st.nx 0 false ops st.sl st.hp (Zoc st.m (st.nx+64*n) Q):=by
 rw[ZA0];congr 1
 funext sl hp
 simp[ZiR,VM]
@[go_sem] theorem W_drawc (n:Nat) (p:Nat×Nat) (ps:List (Nat×Nat)) (ops:List CO) (st:St) (Q:Ex→St→Prop) :
  W X M (.region n (some (p :: ps)) ops) st Q=YE X M st.nx 0 false ops st.sl st.hp (ZiR ops (p :: ps) (Zoc st.m (st.nx+64*n) Q)):=ZA0 X M n _ ops st Q
def ZyE (c:ZM) (Q:Ex→St→Prop):Ex→St→Prop
 | .normal,st=>W X M c st Q
 | e,st=>Q e st
def blkQ (id:Nat) (Q:Ex→St→Prop):Ex→St→Prop
 | .exit j,st=>if j=id then Q .normal st else Q (.exit j) st
 | e,st=>Q e st
@[go_sem] theorem ZCz (c:ZM) (Q:Ex→St→Prop) (st:St):ZyE X M c Q .normal st=W X M c st Q:=rfl
@[go_sem] theorem thenQ_ret (c:ZM) (Q:Ex→St→Prop) (st:St):ZyE X M c Q .ret st=Q .ret st:=rfl
@[go_sem] theorem ZDS (c:ZM) (Q:Ex→St→Prop) (id:Nat) (st:St):ZyE X M c Q (.exit id) st=Q (.exit id) st:=rfl
@[go_sem] theorem ZDs (id:Nat) (Q:Ex→St→Prop) (st:St):blkQ id Q .normal st=Q .normal st:=rfl
@[go_sem] theorem blkQ_ret (id:Nat) (Q:Ex→St→Prop) (st:St):blkQ id Q .ret st=Q .ret st:=rfl
@[go_sem] theorem blkQ_exit (id j:Nat) (Q:Ex→St→Prop) (st:St):blkQ id Q (.exit j) st=if j=id then Q .normal st else Q (.exit j) st:=rfl
@[go_sem] theorem W_seq (a b:ZM) (st:St) (Q:Ex→St→Prop):W X M (.seq a b) st Q=W X M a st (ZyE X M b Q):=by
 unfold W;rw[ZzX];cases h:QA X M a st with
 | none=>rfl
 | some r=>obtain⟨e,aa⟩:=r;cases e<;>rfl
@[go_sem] theorem W_cond (c:Opd) (a b:ZM) (st:St) (Q:Ex→St→Prop) :
  W X M (.cond c a b) st Q=Wy (evO st.sl c) (W X M a st Q) (W X M b st Q):=by
 unfold W;rw[Zxu];cases h:evO st.sl c with
 | d x=>cases x with
  | bool t=>cases t<;>simp[ZiW,Wy]
  | _=>rfl
 | _=>rfl
@[go_sem] theorem W_block (id:Nat) (c:ZM) (st:St) (Q:Ex→St→Prop):W X M (.block id c) st Q=W X M c st (blkQ id Q):=by
 unfold W;rw[ZvS];cases h:QA X M c st with
 | none=>rfl
 | some r=>
  obtain⟨e,aa⟩:=r;cases e with
  | exit j=>by_cases hj:j=id<;>simp[ZgV,hj,YL,blkQ]
  | normal=>rfl
  | ret=>rfl
def keepQ (K:List Nat) (Q:Ex→St→Prop) (e:Ex) (st:St):Prop:=Q e { sl:=only K st.sl,hp:=st.hp,nx:=st.nx,m:=st.m }
@[go_sem] theorem keepQ_eq (K:List Nat) (Q:Ex→St→Prop) (e:Ex) (st:St):keepQ K Q e st=Q e { sl:=only K st.sl,hp:=st.hp,nx:=st.nx,m:=st.m }:=rfl
@[go_sem] theorem W_keep (K:List Nat) (c:ZM) (st:St) (Q:Ex→St→Prop):W X M (.keep K c) st Q=W X M c st (keepQ K Q):=by
 unfold W;rw[Zxv];cases h:QA X M c st with
 | none=>rfl
 | some r=>rfl
def shutQ (id nm:Nat) (Q:Ex→St→Prop) (e:Ex) (st:St):Prop:=Q e { sl:=st.sl,hp:=ZzU st.hp (ZnH st.hp id nm (lkp st.hp id)),nx:=st.nx,m:=st.m }
@[go_sem] theorem shutQ_eq (id nm:Nat) (Q:Ex→St→Prop) (e:Ex) (st:St):shutQ id nm Q e st=Q e { sl:=st.sl,hp:=ZzU st.hp (ZnH st.hp id nm (lkp st.hp id)),nx:=st.nx,m:=st.m }:=rfl
def ZpC (c:ZM) (Q:Ex→St→Prop) (r:Option St):Prop:=stW r fun st=>W X M c st Q
@[go_sem] theorem ZDT (c:ZM) (Q:Ex→St→Prop) (st:St):ZpC X M c Q (some st)=W X M c st Q:=rfl
@[go_sem] theorem ZDU (c:ZM) (Q:Ex→St→Prop):ZpC X M c Q none=False:=rfl
@[go_sem] theorem linkW_ite (c:ZM) (Q:Ex→St→Prop) (p:Prop) [Decidable p] (a b:Option St):ZpC X M c Q (if p then a else b)=((p→ZpC X M c Q a)∧(¬p→ZpC X M c Q b)):=by
 by_cases h:p<;>simp[h]
@[go_sem] theorem W_link (fl:Bool) (id:Nat) (i:Opd) (j:Nat) (c:ZM) (st:St) (Q:Ex→St→Prop):W X M (.link fl id i j c) st Q=ZpC X M c (shutQ id st.nx Q) (Ze5 fl id i j st):=by
 unfold W ZpC;rw[Zxw];cases h:Ze5 fl id i j st with
 | none=>rfl
 | some st1=>
  simp only[Zg,YL,W];cases h1:QA X M c st1 with
  | none=>rfl
  | some q=>rfl
@[go_sem] theorem W_melt (c:ZM) (st:St) (Q:Ex→St→Prop):W X M (.melt c) st Q=W X M c { sl:=st.sl,hp:=Zmg ZkG st.hp,nx:=st.nx,m:=st.m } Q:=by
 unfold W;rw[Zxx];rfl
def ZpD (st:St) (ds:List Nat) (Q:Ex→St→Prop) (e:Ex) (st2:St):Prop:=Q e { sl:=ZbS st2.sl ds st.sl,hp:=st.hp,nx:=st2.nx,m:=st2.m }
@[go_sem] theorem peekQ_eq (sl:Sl) (hp:Hp) (nx m:Nat) (ds:List Nat) (Q:Ex→St→Prop) (e:Ex) (aa:Sl) (ad:Hp) (ab m2:Nat):ZpD { sl:=sl,hp:=hp,nx:=nx,m:=m } ds Q e { sl:=aa,hp:=ad,nx:=ab,m:=m2 }=Q e { sl:=ZbS aa ds sl,hp:=hp,nx:=ab,m:=m2 }:=rfl
def Znz (n:Nat) (os:List CO) (id:Nat) (st:St) (Q:Ex→St→Prop):Option (List (Nat×Nat))→Option Zk→Prop
 | none,some o=>ZbB X M st.nx 0 os st.sl [(id,o)] (Zoc st.m (st.nx+64*n) (ZpD st (UT os) Q))
 | some ps,some o=>YE X M st.nx 0 false os st.sl [(id,o)] (ZiR os ps (Zoc st.m (st.nx+64*n) (ZpD st (UT os) Q)))
 | _,none=>False
@[go_sem] theorem ZDV (n:Nat) (os:List CO) (id:Nat) (sl:Sl) (hp:Hp) (nx m:Nat) (Q:Ex→St→Prop) (o:Zk):Znz X M n os id { sl:=sl,hp:=hp,nx:=nx,m:=m } Q none (some o)=ZbB X M nx 0 os sl [(id,o)] (Zoc m (nx+64*n) (ZpD { sl:=sl,hp:=hp,nx:=nx,m:=m } (UT os) Q)):=rfl
@[go_sem] theorem peekW_nil (n:Nat) (os:List CO) (id:Nat) (sl:Sl) (hp:Hp) (nx m:Nat) (Q:Ex→St→Prop) (o:Zk):Znz X M n os id { sl:=sl,hp:=hp,nx:=nx,m:=m } Q (some []) (some o)=YE X M nx 0 false os sl [(id,o)] (Zoc m (nx+64*n) (ZpD { sl:=sl,hp:=hp,nx:=nx,m:=m } (UT os) Q)):=by
 simp only[Znz];congr 1
 funext sl hp
 simp[ZiR,VM]
@[go_sem] theorem ZDW (n:Nat) (os:List CO) (id:Nat) (sl:Sl) (hp:Hp) (nx m:Nat) (Q:Ex→St→Prop) (o:Zk) (p:Nat×Nat) (ps:List (Nat×Nat)):Znz X M n os id { sl:=sl,hp:=hp,nx:=nx,m:=m } Q (some (p :: ps)) (some o)=YE X M nx 0 false os sl [(id,o)] (ZiR os (p :: ps) (Zoc m (nx+64*n) (ZpD { sl:=sl,hp:=hp,nx:=nx,m:=m } (UT os) Q))):=rfl
@[go_sem] theorem ZDX (n:Nat) (os:List CO) (id:Nat) (st:St) (Q:Ex→St→Prop) (d:Option (List (Nat×Nat))):Znz X M n os id st Q d none=False:=by cases d<;>rfl
@[go_sem] theorem W_peek (id n:Nat) (d:Option (List (Nat×Nat))) (os:List CO) (st:St) (Q:Ex→St→Prop):W X M (.peek id (.region n d os)) st Q=Znz X M n os id st Q d (Zp5 (lkp st.hp id)):=by
 unfold W;rw[Zxy];simp only[ZvP,Zg];unfold Zmm;cases h:Zp5 (lkp st.hp id) with
 | none=>cases d<;>rfl
 | some o=>
  cases d with
  | none=>
   simp only[Zg,Znz];rw[ZyD,ZkQ,ZiG];cases Ze3 (Zd X M) M st.nx 0 os st.sl [(id,o)] with
   | none=>rfl
   | some r=>rfl
  | some ps=>
   simp only[Zg,Znz];rw[Zvx,Zp9,ZiG];cases Us (Zd X M) (X5 M) st.nx 0 false os st.sl [(id,o)] with
   | none=>rfl
   | some r=>
    simp only[ZkM,Zg];by_cases h:VM os r.1 ps=true
    ·simp[h,ZiR,YL,Zg,Zp6,Zoc,ZpD]
    ·simp[h,ZiR,YL,ZgE,Zp6,bnd]
attribute [go_sem] Zp5.eq_1 Zp5.eq_2 Ze6.eq_1 Ze6.eq_2 Ze6.eq_3 Zof.eq_1 Zof.eq_2 UT.eq_1 UT.eq_2 ZbS.eq_1 ZbS.eq_2
def LW (c:ZM) (K:List Nat) (st:St) (Q:Ex→St→Prop):Prop:=stW (ZgX X M c K st) fun r=>Q r.1 r.2
@[congr] theorem LW_congr {c:ZM} {K K' : List Nat} {st aa : St} {Q:Ex→St→Prop} (hk:K=K') (h:st=aa):LW X M c K st Q=LW X M c K' aa Q:=by rw[h,hk]
@[go_sem] theorem W_loop (c:ZM) (st:St) (Q:Ex→St→Prop):W X M (.loop c) st Q=LW X M c (ZaB st.sl) st Q:=by
 unfold W LW;rw[Zxz]
def ZpE (c:ZM) (K:List Nat) (Q:Ex→St→Prop):Ex→St→Prop
 | .normal,st=>LW X M c K st Q
 | e,st=>Q e st
@[go_sem] theorem ZCA (c:ZM) (K:List Nat) (Q:Ex→St→Prop) (st:St):ZpE X M c K Q .normal st=LW X M c K st Q:=rfl
@[go_sem] theorem nextQ_ret (c:ZM) (K:List Nat) (Q:Ex→St→Prop) (st:St):ZpE X M c K Q .ret st=Q .ret st:=rfl
@[go_sem] theorem ZDY (c:ZM) (K:List Nat) (Q:Ex→St→Prop) (id:Nat) (st:St):ZpE X M c K Q (.exit id) st=Q (.exit id) st:=rfl
theorem ZB {c:ZM} {K:List Nat} {st:St} {Q:Ex→St→Prop} (h:W X M c (Ut K st) (ZpE X M c K Q)):LW X M c K st Q:=by
 unfold W at h;cases hv:QA X M c (Ut K st) with
 | none=>rw[hv] at h;exact h.elim
 | some r=>
  rw[hv] at h;obtain⟨e,aa⟩:=r;unfold LW;cases e with
  | normal=>rw[ZvT X M hv];exact h
  | exit id=>rw[Zqa X M (by simp) hv];exact h
  | ret=>rw[Zqa X M (by simp) hv];exact h
def ZrQ (sl:Sl):Sl→Sl
 | []=>sl
 | (k,v) :: r=>ZrQ (ins sl k v) r
def ZiS (hp:Hp):Hp→Hp
 | []=>hp
 | (k,o) :: r=>ZiS (ins hp k o) r
theorem LW_ind {α:Type} (S:α→St) (I:α→Prop) (μ:α→Nat) {c:ZM} {K:List Nat} {Q:Ex→St→Prop}
  (step:∀ a,I a→(∀ b st,I b→μ b<μ a→Ut K st=S b→LW X M c K st Q)→W X M c (S a) (ZpE X M c K Q)) :
  ∀ a st,I a→Ut K st=S a→LW X M c K st Q:=by
 have aa:∀ n a st,μ a=n→I a→Ut K st=S a→LW X M c K st Q:=by
  intro n
  induction n using Nat.strongRecOn with
  | ind n ih=>
   intro a st hn ha hs;refine ZB X M ?_;rw[hs];exact step a ha fun b ab hb ae ad=>ih (μ b) o_ b ab rfl hb ad
 exact fun a st ha hs=>aa _ a st rfl ha hs
theorem Yh {α:Type} (u:α→Sl) (uh:α→Hp) (I:α→Prop) (μ:α→Nat) (a:α) {c:ZM} {K:List Nat} {Q:Ex→St→Prop} {st st0:St}
  (hc:Ut K st=st0) (ha:I a) (h0:(⟨ZrQ st0.sl (u a),ZiS st0.hp (uh a),st0.nx,st0.m⟩:St)=st0)
  (step:∀ a,I a→(∀ b st,I b→μ b<μ a→Ut K st=⟨ZrQ st0.sl (u b),ZiS st0.hp (uh b),st0.nx,st0.m⟩→LW X M c K st Q)→W X M c ⟨ZrQ st0.sl (u a),ZiS st0.hp (uh a),st0.nx,st0.m⟩ (ZpE X M c K Q)) :
  LW X M c K st Q:=
 LW_ind X M (fun a=>⟨ZrQ st0.sl (u a),ZiS st0.hp (uh a),st0.nx,st0.m⟩) I μ step a st ha (hc.trans h0.symm)
def Zuh (m:Nat) (rs:List ZpX) (R:AV×List Zk→Prop):Ex→St→Prop:=fun e st=>stW (Zdx m rs (some (e,st))) R
def resW (m:Nat) (hp:Hp) (R:AV×List Zk→Prop) (vs:Option (List AV)):Prop:=stW vs fun vs=>R (V2 m hp (ZbT vs))
@[go_sem] theorem resW_some (m:Nat) (hp:Hp) (R:AV×List Zk→Prop) (vs:List AV):resW m hp R (some vs)=R (V2 m hp (ZbT vs)):=rfl
@[go_sem] theorem resW_none (m:Nat) (hp:Hp) (R:AV×List Zk→Prop):resW m hp R none=False:=rfl
@[go_sem] theorem endQ_ret (m:Nat) (rs:List ZpX) (R:AV×List Zk→Prop) (st:St):Zuh m rs R .ret st=resW m st.hp R (QF (Zp7 st) rs):=by
 simp only[Zuh,Zdx,Za1];rfl
@[go_sem] theorem ZDt (m:Nat) (rs:List ZpX) (R:AV×List Zk→Prop) (st:St):Zuh m rs R .normal st=resW m st.hp R (QF (Zp7 st) rs):=by
 simp only[Zuh,Zdx,Za1];rfl
theorem ZA1 {f:Nat} {as1:List AV} {h:List Zk} (fn:Zr) {R:AV×List Zk→Prop} (hx:X f=some (.text fn)) (hl:as1.length≤fn.nt)
  (hr:W X M fn.body { sl:=VN 0 as1,hp:=VR 0 h,nx:=h.length,m:=h.length } (Zuh h.length fn.res R)):∃ r,Zd X M f as1 h=some r∧R r:=by
 unfold W at hr;cases hv:QA X M fn.body { sl:=VN 0 as1,hp:=VR 0 h,nx:=h.length,m:=h.length } with
 | none=>rw[hv] at hr;exact hr.elim
 | some q=>
  rw[hv] at hr;obtain⟨e,st⟩:=q;simp only[YL,Zuh] at hr;cases hk:Zdx h.length fn.res (some (e,st)) with
  | none=>rw[hk] at hr;exact hr.elim
  | some r=>rw[hk] at hr;exact⟨r,ZBd X M hx hl (by rw[hv];exact hk),hr⟩
theorem callE {f:Nat} {as1:List AV} {h:List Zk} (fn:Zr) {r:AV×List Zk} (hx:X f=some (.text fn)) (hl:as1.length≤fn.nt)
  (hr:W X M fn.body { sl:=VN 0 as1,hp:=VR 0 h,nx:=h.length,m:=h.length } (Zuh h.length fn.res fun q=>q=r)):Zd X M f as1 h=some r:=by
 obtain⟨q,hq,rfl⟩:=ZA1 X M fn hx hl hr;exact hq
end
@[go_sem] theorem vopE_move (C:Orc) (M:Zq) (sl:Sl) (hp:Hp) (base:Nat) (x:Opd):vop C M sl hp base (.move x)=Qp (evO sl x):=by simp only[vop]
@[go_sem] theorem ZDu (C:Orc) (M:Zq) (sl:Sl) (hp:Hp) (base:Nat) (s:Option Nat) (x:Opd):vop C M sl hp base (.assign s x)=ZeW base s (evO sl x):=by simp only[vop]
@[go_sem] theorem vopE_pick (C:Orc) (M:Zq) (sl:Sl) (hp:Hp) (base:Nat) (c a b:Opd):vop C M sl hp base (.pick c a b)=ZgO (evO sl a) (evO sl b) (evO sl c):=by simp only[vop]
@[go_sem] theorem ZDZ (C:Orc) (M:Zq) (sl:Sl) (hp:Hp) (base:Nat) (slc:List (Option Nat)) (cs:List AV):vop C M sl hp base (.alloc slc cs)=ZgP slc base cs:=by simp only[vop]
@[go_sem] theorem vopE_box (C:Orc) (M:Zq) (sl:Sl) (hp:Hp) (base:Nat) (x:Opd):vop C M sl hp base (.box x)=ZzQ base (evO sl x):=by simp only[vop]
@[go_sem] theorem ZD0 (C:Orc) (M:Zq) (sl:Sl) (hp:Hp) (base:Nat) (zs:List AV) (ps:List (Nat×Nat×Opd)):vop C M sl hp base (.build zs ps)=ZpS zs (evP sl ps):=by simp only[vop]
@[go_sem] theorem ZCB (C:Orc) (M:Zq) (sl:Sl) (hp:Hp) (base:Nat) (s:Nat) (xs:List Opd):vop C M sl hp base (.buildSl s xs)=buildSl hp base s (evL sl xs):=by simp only[vop]
@[go_sem] theorem vopE_load (C:Orc) (M:Zq) (sl:Sl) (hp:Hp) (base:Nat) (g:Bool) (s:Nat) (a:Opd):vop C M sl hp base (.load g s a)=VO (WJ hp g s (evO sl a)):=by simp only[vop]
@[go_sem] theorem ZD1 (C:Orc) (M:Zq) (sl:Sl) (hp:Hp) (base:Nat) (slc:List (Option Nat)) (s:Nat) (a x:Opd):vop C M sl hp base (.store slc s a x)=Zgr (Zaz hp slc s base (evO sl x).cells (evO sl a)):=by simp only[vop]
@[go_sem] theorem ZB8 (C:Orc) (M:Zq) (sl:Sl) (hp:Hp) (base:Nat) (x:Opd):vop C M sl hp base (.nilCheck x)=JH (evO sl x):=by simp only[vop]
@[go_sem] theorem vopE_bin (C:Orc) (M:Zq) (sl:Sl) (hp:Hp) (base:Nat) (op:BinOp) (eq:Bool) (x y:Opd):vop C M sl hp base (.bin op eq x y)=ZgQ op eq (evO sl x) (evO sl y):=by simp only[vop]
@[go_sem] theorem vopE_un (C:Orc) (M:Zq) (sl:Sl) (hp:Hp) (base:Nat) (op:UnOp) (x:Opd):vop C M sl hp base (.un op x)=VO (vun op (evO sl x)):=by simp only[vop]
@[go_sem] theorem vopE_eqA (C:Orc) (M:Zq) (sl:Sl) (hp:Hp) (base:Nat) (neg:Bool) (ks:List Nat) (x y:Opd):vop C M sl hp base (.eqA neg ks x y)=Zum neg ks (evO sl x) (evO sl y):=by simp only[vop]
@[go_sem] theorem ZD2 (C:Orc) (M:Zq) (sl:Sl) (hp:Hp) (base:Nat) (k:IntKind) (x:Opd):vop C M sl hp base (.convI k x)=convI k (evO sl x):=by simp only[vop]
@[go_sem] theorem ZD3 (C:Orc) (M:Zq) (sl:Sl) (hp:Hp) (base:Nat) (x:Opd):vop C M sl hp base (.convS x)=convS (evO sl x):=by simp only[vop]
@[go_sem] theorem vopE_fn (C:Orc) (M:Zq) (sl:Sl) (hp:Hp) (base:Nat) (f:Nat) (cs:List Opd):vop C M sl hp base (.fn f cs)=VO (cloV f (evL sl cs)):=by simp only[vop]
@[go_sem] theorem vopE_make (C:Orc) (M:Zq) (sl:Sl) (hp:Hp) (base:Nat) (s b:Nat) (z:D) (l c:Opd):vop C M sl hp base (.make s b z l c)=bnd (idx (evO sl l)) fun l=>bnd (idx (evO sl c)) fun c=>ZsS base s b z l c:=by simp only[vop]
@[go_sem] theorem ZD4 (C:Orc) (M:Zq) (sl:Sl) (hp:Hp) (base:Nat) (s:Nat) (x:Opd) (lo hi:Option Opd):vop C M sl hp base (.slice s x lo hi)=VO (Vy hp s (evM sl lo) (evM sl hi) (evO sl x)):=by simp only[vop]
@[go_sem] theorem ZDv (C:Orc) (M:Zq) (sl:Sl) (hp:Hp) (base:Nat) (x:Opd) (lo hi:Option Opd):vop C M sl hp base (.sliceS x lo hi)=VO (sliceS (evM sl lo) (evM sl hi) (evO sl x)):=by simp only[vop]
@[go_sem] theorem ZDw (C:Orc) (M:Zq) (sl:Sl) (hp:Hp) (base:Nat) (x hi mx:Opd):vop C M sl hp base (.slice0 x hi mx)=VO (slice0 hp (evO sl x) (idx (evO sl hi)) (idx (evO sl mx))):=by simp only[vop]
@[go_sem] theorem ZD5 (C:Orc) (M:Zq) (sl:Sl) (hp:Hp) (base:Nat) (off:Nat) (x:Opd):vop C M sl hp base (.shift off x)=V0 off (evO sl x):=by simp only[vop]
@[go_sem] theorem vopE_part (C:Orc) (M:Zq) (sl:Sl) (hp:Hp) (base:Nat) (g:Bool) (s off:Nat) (x:Opd):vop C M sl hp base (.part g s off x)=VO (ZkF g s off (evO sl x)):=by simp only[vop]
@[go_sem] theorem vopE_iaS (C:Orc) (M:Zq) (sl:Sl) (hp:Hp) (base:Nat) (s:Nat) (x i:Opd):vop C M sl hp base (.iaS s x i)=bnd (idx (evO sl i)) fun n=>ZiV hp s (evO sl x) n:=by simp only[vop]
@[go_sem] theorem vopE_iaA (C:Orc) (M:Zq) (sl:Sl) (hp:Hp) (base:Nat) (len s:Nat) (x i:Opd):vop C M sl hp base (.iaA len s x i)=bnd (idx (evO sl i)) fun n=>ZpU (evO sl x) n len s:=by simp only[vop]
@[go_sem] theorem vopE_ixS (C:Orc) (M:Zq) (sl:Sl) (hp:Hp) (base:Nat) (x i:Opd):vop C M sl hp base (.ixS x i)=bnd (idx (evO sl i)) fun n=>Zxk n (evO sl x):=by simp only[vop]
@[go_sem] theorem vopE_ixA (C:Orc) (M:Zq) (sl:Sl) (hp:Hp) (base:Nat) (g:Bool) (s len:Nat) (x i:Opd):vop C M sl hp base (.ixA g s len x i)=bnd (idx (evO sl i)) fun n=>ZzS g s len n (evO sl x):=by simp only[vop]
@[go_sem] theorem vopE_nth (C:Orc) (M:Zq) (sl:Sl) (hp:Hp) (base:Nat) (i:Nat) (x:Opd):vop C M sl hp base (.nth i x)=ZvK i (evO sl x):=by simp only[vop]
@[go_sem] theorem vopE_len (C:Orc) (M:Zq) (sl:Sl) (hp:Hp) (base:Nat) (x:Opd):vop C M sl hp base (.len x)=bnd (Zdq hp (evO sl x)) fun n=>Qp (.d (.int .i64 n)):=by simp only[vop]
@[go_sem] theorem vopE_lenS (C:Orc) (M:Zq) (sl:Sl) (hp:Hp) (base:Nat) (x:Opd):vop C M sl hp base (.lenS x)=bnd (ZzO (evO sl x)) fun n=>Qp (.d (.int .i64 n)):=by simp only[vop]
@[go_sem] theorem ZDx (C:Orc) (M:Zq) (sl:Sl) (hp:Hp) (base:Nat) (s b:Nat) (str flat:Bool) (x y:Opd):vop C M sl hp base (.append s b str flat x y)=ZvL hp s b str flat base (evO sl x) (evO sl y):=by simp only[vop]
@[go_sem] theorem vopE_min (C:Orc) (M:Zq) (sl:Sl) (hp:Hp) (base:Nat) (x y:Opd):vop C M sl hp base (.min x y)=ZnD (evO sl x) (evO sl y):=by simp only[vop]
@[go_sem] theorem vopE_max (C:Orc) (M:Zq) (sl:Sl) (hp:Hp) (base:Nat) (x y:Opd):vop C M sl hp base (.max x y)=ZnE (evO sl x) (evO sl y):=by simp only[vop]
@[go_sem] theorem vopE_call (C:Orc) (M:Zq) (sl:Sl) (hp:Hp) (base:Nat) (f:Opd) (as1:List Opd):vop C M sl hp base (.call f as1)=Zdu C M hp base (evL sl as1) (evO sl f):=by simp only[vop]
@[go_sem] theorem ZDy (C:Orc) (M:Zq) (sl:Sl) (hp:Hp) (base:Nat) (s:Nat) (x lo hi mx:Opd):vop C M sl hp base (.slice3 s x lo hi mx)=VO (slice3 hp (evO sl x) (idx (evO sl lo)) (idx (evO sl hi)) (idx (evO sl mx))):=by simp only[vop]
@[go_sem] theorem ZD6 (C:Orc) (M:Zq) (sl:Sl) (hp:Hp) (base:Nat) (s:Nat) (z:D) (x:Opd):vop C M sl hp base (.clear s z x)=Zgr (ZeS hp s z (evO sl x)):=by simp only[vop]
@[go_sem] theorem ZDz (C:Orc) (M:Zq) (sl:Sl) (hp:Hp) (base:Nat) (s n:Nat) (xs:List Opd):vop C M sl hp base (.buildT s n xs)=buildT hp base s n (evL sl xs):=by simp only[vop]
@[go_sem] theorem vopE_appT (C:Orc) (M:Zq) (sl:Sl) (hp:Hp) (base:Nat) (s b:Nat) (f:Bool) (x y:Opd):vop C M sl hp base (.appT s b f x y)=appT hp s b base (evO sl x) (evO sl y):=by simp only[vop]
@[go_sem] theorem vopE_asgT (C:Orc) (M:Zq) (sl:Sl) (hp:Hp) (base:Nat) (s n:Nat) (x:Opd):vop C M sl hp base (.asgT s n x)=asgT base s n (evO sl x):=by simp only[vop]
@[go_sem] theorem ZD7 (C:Orc) (M:Zq) (sl:Sl) (hp:Hp) (base:Nat) (s b n:Nat) (z:D) (l c:Opd):vop C M sl hp base (.makeT s b n z l c)=bnd (idx (evO sl l)) fun l=>bnd (idx (evO sl c)) fun c=>makeT base s b n z l c:=by simp only[vop]
@[go_sem] theorem ZD8 (C:Orc) (M:Zq) (sl:Sl) (hp:Hp) (base:Nat):vop C M sl hp base .stuck=none:=by simp only[vop]
@[go_sem] theorem ZzF (hp:Hp) (n:Nat) (aa:List Nat):Q6 hp n [] aa=aa:=by cases n<;>rfl
@[go_sem] theorem tidy_d (hp:Hp) (ids:List Nat) (x:D):Zen hp ids (.d x)=.d x:=rfl
@[go_sem] theorem tidy_nil (hp:Hp) (ids:List Nat):Zen hp ids .nil=.nil:=rfl
@[go_sem] theorem tidy_junk (hp:Hp) (ids:List Nat):Zen hp ids .junk=.junk:=rfl
@[go_sem] theorem tidy_tup (hp:Hp) (ids:List Nat) (vs:List AV):Zen hp ids (.tup vs)=ren (VI ids) (kill (ZgT hp ids (Zx (.tup vs))) (.tup vs)):=rfl
@[go_sem] theorem tidy_agg (hp:Hp) (ids:List Nat) (vs:List AV):Zen hp ids (.agg vs)=ren (VI ids) (kill (ZgT hp ids (Zx (.agg vs))) (.agg vs)):=rfl
@[go_sem] theorem tidy_clo (hp:Hp) (ids:List Nat) (f:Nat) (vs:List AV):Zen hp ids (.clo f vs)=ren (VI ids) (kill (ZgT hp ids (Zx (.clo f vs))) (.clo f vs)):=rfl
@[go_sem] theorem tidy_nilp (hp:Hp) (ids:List Nat):Zen hp ids .nilp=.nilp:=rfl
@[go_sem] theorem tidy_nili (hp:Hp) (ids:List Nat):Zen hp ids .nili=.nili:=rfl
@[go_sem] theorem tidy_pim (hp:Hp) (ids:List Nat) (cs:List D):Zen hp ids (.pim cs)=.pim cs:=rfl
@[go_sem] theorem tidy_ptr (hp:Hp) (ids:List Nat) (id o:Nat):Zen hp ids (.ptr id o)=if Zdw hp ids id=true then .ptr (VI ids id) o else .junk:=by
 simp only[Zen,Zx,ZA,Zn,ZgT];split<;>simp[kill,ZS,Qb,ren,Zel,ZeR]
@[go_sem] theorem tidy_prow (hp:Hp) (ids:List Nat) (id s i o:Nat):Zen hp ids (.prow id s i o)=if Zdw hp ids id=true then .prow (VI ids id) s i o else .junk:=by
 simp only[Zen,Zx,ZA,Zn,ZgT];split<;>simp[kill,ZS,Qb,ren,Zel,ZeR]
@[go_sem] theorem tidy_own (hp:Hp) (ids:List Nat) (id:Nat):Zen hp ids (.own id)=if Zdw hp ids id=true then .own (VI ids id) else .junk:=by
 simp only[Zen,Zx,ZA,Zn,ZgT];split<;>simp[kill,ZS,Qb,ren,Zel,ZeR]
@[go_sem] theorem tidy_ownv (hp:Hp) (ids:List Nat) (id a b:Nat):Zen hp ids (.ownv id a b)=if Zdw hp ids id=true then .ownv (VI ids id) a b else .junk:=by
 simp only[Zen,Zx,ZA,Zn,ZgT];split<;>simp[kill,ZS,Qb,ren,Zel,ZeR]
@[go_sem] theorem ZD9 (hp:Hp) (x:D):V2 0 hp (.d x)=(.d x,[]):=by
 simp[V2,Zx,ZA,Zn,Wl,ZzF,tidy_d,Zdr]
@[go_sem] theorem minI_eq (a b:Int):minI a b=min a b:=by unfold minI;split<;>omega
@[go_sem] theorem maxI_eq (a b:Int):maxI a b=max a b:=by unfold maxI;split<;>omega
@[go_sem] theorem negIf_f (r:Bool):ZpT false r=r:=rfl
@[go_sem] theorem negIf_t (r:Bool):ZpT true r=!r:=rfl
@[go_sem] theorem opt1_some (v:AV):VO (some v)=Qp v:=rfl
@[go_sem] theorem opt1_none:VO none=none:=rfl
@[go_sem] theorem vbin_int (op:BinOp) (k k' : IntKind) (a b:Int):vbin op (.d (.int k a)) (.d (.int k' b))=UJ op k k' a b:=rfl
@[go_sem] theorem binV_int (op:BinOp) (eq:Bool) (k k' : IntKind) (a b:Int):ZgQ op eq (.d (.int k a)) (.d (.int k' b))=VO (UJ op k k' a b):=rfl
@[go_sem] theorem binV_str (op:BinOp) (eq:Bool) (a b:List UInt8):ZgQ op eq (.d (.str a)) (.d (.str b))=VO (asD (ZvF op a b)):=rfl
@[go_sem] theorem int2_add (k:IntKind) (a b:Int):UJ .add k k a b=some (.d (.int k (k.wrap (a+b)))):=by simp[UJ,WI,asD,Zg]
@[go_sem] theorem int2_sub (k:IntKind) (a b:Int):UJ .sub k k a b=some (.d (.int k (k.wrap (a-b)))):=by simp[UJ,WI,asD,Zg]
@[go_sem] theorem int2_mul (k:IntKind) (a b:Int):UJ .mul k k a b=some (.d (.int k (k.wrap (a*b)))):=by simp[UJ,WI,asD,Zg]
@[go_sem] theorem int2_quo (k:IntKind) (a b:Int):UJ .quo k k a b=if b=0 then none else some (.d (.int k (k.wrap (a.tdiv b)))):=by simp only[UJ,WI,asD,if_true];split<;>rfl
@[go_sem] theorem int2_rem (k:IntKind) (a b:Int):UJ .rem k k a b=if b=0 then none else some (.d (.int k (a.tmod b))):=by simp only[UJ,WI,asD,if_true];split<;>rfl
@[go_sem] theorem int2_eql (k:IntKind) (a b:Int):UJ .eql k k a b=some (.d (.bool (decide (a=b)))):=by simp[UJ,WI,asD,Zg,BEq.beq]
@[go_sem] theorem int2_neq (k:IntKind) (a b:Int):UJ .neq k k a b=some (.d (.bool (!decide (a=b)))):=by simp[UJ,WI,asD,Zg,bne,BEq.beq]
@[go_sem] theorem int2_lss (k:IntKind) (a b:Int):UJ .lss k k a b=some (.d (.bool (decide (a<b)))):=by simp[UJ,WI,asD,Zg]
@[go_sem] theorem int2_leq (k:IntKind) (a b:Int):UJ .leq k k a b=some (.d (.bool (decide (a≤b)))):=by simp[UJ,WI,asD,Zg]
@[go_sem] theorem int2_gtr (k:IntKind) (a b:Int):UJ .gtr k k a b=some (.d (.bool (decide (b<a)))):=by simp[UJ,WI,asD,Zg]
@[go_sem] theorem int2_geq (k:IntKind) (a b:Int):UJ .geq k k a b=some (.d (.bool (decide (b≤a)))):=by simp[UJ,WI,asD,Zg]
@[go_sem] theorem guardV_t (b:Bool):ZeZ true (.d (.bool b))=some b:=by cases b<;>rfl
def nb (b:Bool):Bool:=!b
@[go_sem] theorem nb_true:nb true=false:=rfl
@[go_sem] theorem nb_false:nb false=true:=rfl
@[go_sem] theorem nb_eq (b:Bool):(nb b=true)=(b=false):=by cases b<;>simp[nb]
@[go_sem] theorem guardV_f (b:Bool):ZeZ false (.d (.bool b))=some (nb b):=by cases b<;>rfl
@[go_sem] theorem ZEa (w:Bool):ZeZ w (.tup [])=some false:=rfl
@[go_sem] theorem ZCC (a b:Bool):ZeZ true (ZiE a (.d (.bool b)))=some (a&&b):=by cases a<;>cases b<;>rfl
@[go_sem] theorem ZCD (a b:Bool):ZeZ false (ZiE a (.d (.bool b)))=some (a&&nb b):=by cases a<;>cases b<;>rfl
@[go_sem] theorem iteV_true (v:AV):ZiE true v=v:=rfl
@[go_sem] theorem ZEb (v:AV):ZiE false v=.tup []:=rfl
@[go_sem] theorem ZEc (a b:AV):ZgO a b (.d (.bool true))=Qp a:=rfl
@[go_sem] theorem ZDA (a b:AV):ZgO a b (.d (.bool false))=Qp b:=rfl
@[go_sem] theorem pickV_or (b c:Bool):ZgO (.d (.bool true)) (ZiE (nb b) (.d (.bool c))) (.d (.bool b))=Qp (.d (.bool (b || c))):=by cases b<;>rfl
@[go_sem] theorem pickV_and (b c:Bool):ZgO (ZiE b (.d (.bool c))) (.d (.bool false)) (.d (.bool b))=Qp (.d (.bool (b&&c))):=by cases b<;>rfl
@[go_sem] theorem dec_or (p q:Prop) [Decidable p] [Decidable q]:(decide p || decide q)=decide (p∨q):=by simp
@[go_sem] theorem dec_and (p q:Prop) [Decidable p] [Decidable q]:(decide p&&decide q)=decide (p∧q):=by simp
@[go_sem] theorem dec_not (p:Prop) [Decidable p]:(!decide p)=decide (¬p):=by simp
attribute [go_sem] Bool.or_eq_false_iff decide_eq_true_eq decide_eq_false_iff_not Bool.and_eq_true Bool.or_eq_true Bool.not_eq_true' Bool.not_eq_false' not_or Decidable.not_not
@[go_sem] theorem evO_t (sl:Sl) (n:Nat):evO sl (.t n)=gs sl n:=rfl
@[go_sem] theorem evO_v (sl:Sl) (a:AV):evO sl (.v a)=a:=rfl
@[go_sem] theorem evO_f (sl:Sl) (n:Nat):evO sl (.f n)=.clo n []:=rfl
@[go_sem] theorem gs_hit (k:Nat) (v:AV) (r:Sl):gs ((k,v) :: r) k=v:=by simp[gs,lkp,ZbE]
@[go_sem] theorem gs_cons (k t:Nat) (v:AV) (r:Sl):gs ((k,v) :: r) t=if k=t then v else gs r t:=by
 by_cases h:k=t<;>simp[gs,lkp,h,ZbE]
@[go_sem] theorem gs_nil (t:Nat):gs [] t=.junk:=rfl
attribute [go_sem] ZeP.eq_1 ZeP.eq_2
attribute [go_sem] UI.eq_1 UI.eq_2 UI.eq_3 UI.eq_4
attribute [go_sem] Zkx.eq_1 Zkx.eq_2 Zkx.eq_3 Zkx.eq_4
attribute [go_sem] Ju.eq_1 Ju.eq_2
attribute [go_sem] St.hp.eq_1
attribute [go_sem] ZcV.eq_1 ZcV.eq_2 ZcV.eq_3
attribute [go_sem] ZbE.eq_1 ZbE.eq_2
attribute [go_sem] agg2.eq_1 agg2.eq_2 agg2.eq_3
attribute [go_sem] ins.eq_1 ins.eq_2
attribute [go_sem] ZeQ.eq_1 ZeQ.eq_2
attribute [go_sem] XK.eq_1 XK.eq_2 XK.eq_3
attribute [go_sem] St.m.eq_1
attribute [go_sem] bnd.eq_1 bnd.eq_2
@[go_sem] theorem u8_eq (n:Nat):u8 n=UInt8.ofNat n:=by unfold u8;rfl
attribute [go_sem] ZpN.eq_1 ZpN.eq_2 ZpN.eq_3
attribute [go_sem] UH.eq_1 UH.eq_2 UH.eq_3
attribute [go_sem] ZvF.eq_1 ZvF.eq_2 ZvF.eq_3 ZvF.eq_4
attribute [go_sem] AV.cells.eq_1 AV.cells.eq_2 AV.cells.eq_3 AV.cells.eq_4 AV.cells.eq_5 AV.cells.eq_6 AV.cells.eq_7 AV.cells.eq_8 AV.cells.eq_9 AV.cells.eq_10 AV.cells.eq_11 AV.cells.eq_12 AV.cells.eq_13 AV.cells.eq_14 AV.cells.eq_15
attribute [go_sem] Qb.eq_1 Qb.eq_2 Qb.eq_3 Qb.eq_4 Qb.eq_5 Qb.eq_6
attribute [go_sem] AV.solid.eq_1 AV.solid.eq_2 AV.solid.eq_3 AV.solid.eq_4
attribute [go_sem] VG.eq_1 VG.eq_2
attribute [go_sem] QF.eq_1 QF.eq_2
attribute [go_sem] Y6.eq_1 Y6.eq_2
attribute [go_sem] UG.eq_1
attribute [go_sem] Zdq.eq_1 Zdq.eq_2 Zdq.eq_3 Zdq.eq_4 Zdq.eq_5
attribute [go_sem] VY.eq_1 VY.eq_2
attribute [go_sem] D.flat.eq_1
attribute [go_sem] give.eq_1 give.eq_2
attribute [go_sem] D.beq1.eq_1 D.beq1.eq_2 D.beq1.eq_3 D.beq1.eq_4
attribute [go_sem] ZeR.eq_1 ZeR.eq_2 ZeR.eq_3 ZeR.eq_4 ZeR.eq_5 ZeR.eq_6
attribute [go_sem] not1.eq_1 not1.eq_2
attribute [go_sem] Xp.eq_1 Xp.eq_2 Xp.eq_3 Xp.eq_4
attribute [go_sem] St.nx.eq_1
attribute [go_sem] ZA.eq_1 ZA.eq_2 ZA.eq_3
attribute [go_sem] Zel.eq_1 Zel.eq_2 Zel.eq_3
attribute [go_sem] Zky.eq_1 Zky.eq_2
attribute [go_sem] vun.eq_1 vun.eq_2 vun.eq_3
attribute [go_sem] toD.eq_1 toD.eq_2
attribute [go_sem] Zn.eq_1 Zn.eq_2 Zn.eq_3 Zn.eq_4 Zn.eq_5 Zn.eq_6 Zn.eq_7 Zn.eq_8 Zn.eq_9 Zn.eq_10 Zn.eq_11 Zn.eq_12 Zn.eq_13 Zn.eq_14 Zn.eq_15
attribute [go_sem] D.plain.eq_1 D.plain.eq_2 D.plain.eq_3 D.plain.eq_4 D.plain.eq_5
attribute [go_sem] Zw.eq_1
attribute [go_sem] ZS.eq_1 ZS.eq_2 ZS.eq_3
attribute [go_sem] W1.eq_1 W1.eq_2
attribute [go_sem] Zx.eq_1 Zx.eq_2
attribute [go_sem] Zxj.eq_1
attribute [go_sem] Zmg.eq_1 Zmg.eq_2
attribute [go_sem] ZaV.eq_1 ZaV.eq_2 ZaV.eq_3 ZaV.eq_4
attribute [go_sem] St.sl.eq_1
attribute [go_sem] ZzO.eq_1 ZzO.eq_2
attribute [go_sem] Wk.eq_1 Wk.eq_2
attribute [go_sem] Zdp.eq_1 Zdp.eq_2
attribute [go_sem] ren.eq_1 ren.eq_2
attribute [go_sem] kill.eq_1 kill.eq_2
attribute [go_sem] lkp.eq_1 lkp.eq_2
attribute [go_sem] ZsQ.eq_1 ZsQ.eq_2 ZsQ.eq_3
attribute [go_sem] XA.eq_1 XA.eq_2
attribute [go_sem] beqL.eq_1 beqL.eq_2 beqL.eq_3
attribute [go_sem] D.cells.eq_1 D.cells.eq_2 D.cells.eq_3 D.cells.eq_4 D.cells.eq_5
attribute [go_sem] ZpL.eq_1 ZpL.eq_2
attribute [go_sem] ZsP.eq_1 ZsP.eq_2
attribute [go_sem] neg1.eq_1 neg1.eq_2
attribute [go_sem] Zmh.eq_1 Zmh.eq_2 Zmh.eq_3
attribute [go_sem] ZpM.eq_1 ZpM.eq_2
attribute [go_sem] Y5.eq_1 Y5.eq_2 Y5.eq_3
attribute [go_sem] asD.eq_1
attribute [go_sem] WI.eq_1 WI.eq_2 WI.eq_3 WI.eq_4 WI.eq_5 WI.eq_6 WI.eq_7 WI.eq_8 WI.eq_9 WI.eq_10 WI.eq_11 WI.eq_12 WI.eq_13 WI.eq_14 WI.eq_15 WI.eq_16 WI.eq_17
attribute [go_sem] ZiF.eq_1 ZiF.eq_2 ZiF.eq_3 ZiF.eq_4 ZiF.eq_5
attribute [go_sem] D.one.eq_1 D.one.eq_2 D.one.eq_3 D.one.eq_4 D.one.eq_5
attribute [go_sem] freeze.eq_1 freeze.eq_2
attribute [go_sem] ZbF.eq_1
attribute [go_sem] loOf.eq_1 loOf.eq_2
attribute [go_sem] Eff.on.eq_1
attribute [go_sem] appT.eq_1
attribute [go_sem] J3.eq_1 J3.eq_2
attribute [go_sem] cloV.eq_1
attribute [go_sem] slice0.eq_1 slice0.eq_2
attribute [go_sem] evM.eq_1 evM.eq_2
attribute [go_sem] UN.eq_1 UN.eq_2
attribute [go_sem] hiOf.eq_1 hiOf.eq_2
attribute [go_sem] ZkF.eq_1 ZkF.eq_2 ZkF.eq_3
attribute [go_sem] ZyI.eq_1
attribute [go_sem] idx.eq_1 idx.eq_2
attribute [go_sem] Vy.eq_1 Vy.eq_2 Vy.eq_3 Vy.eq_4 Vy.eq_5
attribute [go_sem] Jy.eq_1 Jy.eq_2 Jy.eq_3
attribute [go_sem] Z6.eq_1 Z6.eq_2
attribute [go_sem] D.notSl.eq_1 D.notSl.eq_2
attribute [go_sem] ZA5.eq_1 ZA5.eq_2
attribute [go_sem] ZbJ.eq_1 ZbJ.eq_2 ZbJ.eq_3 ZbJ.eq_4 ZbJ.eq_5 ZbJ.eq_6
attribute [go_sem] Y7.eq_1 Y7.eq_2 Y7.eq_3 Y7.eq_4
attribute [go_sem] CO.guard.eq_1
attribute [go_sem] Zgr.eq_1
attribute [go_sem] Zal.eq_1
attribute [go_sem] ZbG.eq_1 ZbG.eq_2 ZbG.eq_3
attribute [go_sem] ZkA.eq_1
attribute [go_sem] Eff.adds.eq_1
attribute [go_sem] ZnC.eq_1 ZnC.eq_2
attribute [go_sem] VI.eq_1 VI.eq_2
attribute [go_sem] Zi.eq_1 Zi.eq_2
attribute [go_sem] Ze.eff.eq_1
attribute [go_sem] ZgL.eq_1 ZgL.eq_2
attribute [go_sem] Zxk.eq_1 Zxk.eq_2
attribute [go_sem] Zmi.eq_1 Zmi.eq_2 Zmi.eq_3
attribute [go_sem] del.eq_1 del.eq_2
attribute [go_sem] ZpS.eq_1
attribute [go_sem] Zuj.eq_1 Zuj.eq_2
attribute [go_sem] JG.eq_1 JG.eq_2
attribute [go_sem] ZnE.eq_1 ZnE.eq_2
attribute [go_sem] D.isAgg.eq_1 D.isAgg.eq_2
attribute [go_sem] JH.eq_1 JH.eq_2 JH.eq_3 JH.eq_4 JH.eq_5
attribute [go_sem] ZgP.eq_1
attribute [go_sem] slice3.eq_1
attribute [go_sem] ZbI.eq_1 ZbI.eq_2
attribute [go_sem] args.eq_1 args.eq_2
attribute [go_sem] ZnD.eq_1 ZnD.eq_2
attribute [go_sem] ZeV.eq_1
attribute [go_sem] ZkB.eq_1 ZkB.eq_2 ZkD.eq_1 ZkD.eq_2
attribute [go_sem] UQ.eq_1
attribute [go_sem] evL.eq_1 evL.eq_2
attribute [go_sem] Zmj.eq_1 Zmj.eq_2 Zmj.eq_3
attribute [go_sem] UM.eq_1 UM.eq_2 UM.eq_3
attribute [go_sem] Zdr.eq_1 Zdr.eq_2
attribute [go_sem] ZpO.eq_1 ZpO.eq_2
attribute [go_sem] Eff.sets.eq_1
attribute [go_sem] Zds.eq_1 Zds.eq_2 Zds.eq_3
attribute [go_sem] Zkz.eq_1 Zkz.eq_2
attribute [go_sem] ZkE.eq_1 ZkE.eq_2
attribute [go_sem] Zaz.eq_1 Zaz.eq_2 Zaz.eq_3
attribute [go_sem] ZzS.eq_1
attribute [go_sem] makeT.eq_1
attribute [go_sem] Y8.eq_1 Y8.eq_2
attribute [go_sem] ZA6.eq_1 ZA6.eq_2
attribute [go_sem] ZpQ.eq_1 ZpQ.eq_2
attribute [go_sem] ZbN.eq_1 ZbN.eq_2
attribute [go_sem] ZsS.eq_1
attribute [go_sem] ZbM.eq_1 ZbM.eq_2
attribute [go_sem] AV.atom.eq_1 AV.atom.eq_2 AV.atom.eq_3 AV.atom.eq_4 AV.atom.eq_5
attribute [go_sem] Eff.dels.eq_1
attribute [go_sem] ZcW.eq_1 ZcW.eq_2 ZcW.eq_3
attribute [go_sem] mat.eq_1 mat.eq_2 mat.eq_3
attribute [go_sem] ZL.eq_1
attribute [go_sem] ZbL.eq_1 ZbL.eq_2
attribute [go_sem] Zul.eq_1
attribute [go_sem] ZzQ.eq_1
attribute [go_sem] ZcY.eq_1 ZcY.eq_2
attribute [go_sem] UO.eq_1
attribute [go_sem] QG.eq_1 QG.eq_2 QG.eq_3 QG.eq_4
attribute [go_sem] ZzR.eq_1
attribute [go_sem] ZgI.eq_1 ZgI.eq_2
attribute [go_sem] ZjH.eq_1 ZjH.eq_2
attribute [go_sem] ZvN.eq_1 ZvN.eq_2
attribute [go_sem] ZiU.eq_1 ZiU.eq_2 ZiU.eq_3 ZiU.eq_4
attribute [go_sem] ZjG.eq_1 ZjG.eq_2
attribute [go_sem] ZeT.eq_1 ZeT.eq_2
attribute [go_sem] ZgK.eq_1 ZgK.eq_2 ZgK.eq_3 ZgK.eq_4 ZgK.eq_5
attribute [go_sem] Zuk.eq_1 Zuk.eq_2
attribute [go_sem] ZpR.eq_1
attribute [go_sem] convS.eq_1 convS.eq_2
attribute [go_sem] ZkC.eq_1 ZkC.eq_2
attribute [go_sem] CO.tl.eq_1
attribute [go_sem] ZgM.eq_1 ZgM.eq_2 ZgM.eq_3 ZgM.eq_4
attribute [go_sem] CO.dst.eq_1
attribute [go_sem] teOf.eq_1
attribute [go_sem] Zxl.eq_1 Zxl.eq_2 Zxl.eq_3
attribute [go_sem] ZpP.eq_1
attribute [go_sem] ZvI.eq_1 ZvI.eq_2
attribute [go_sem] ZvJ.eq_1
attribute [go_sem] Eff.val.eq_1
attribute [go_sem] sliceS.eq_1 sliceS.eq_2
attribute [go_sem] Yx.eq_1 Yx.eq_2 Yx.eq_3
attribute [go_sem] ZgJ.eq_1 ZgJ.eq_2 ZgJ.eq_3 ZgJ.eq_4
attribute [go_sem] UK.eq_1
attribute [go_sem] buildSl.eq_1 buildSl.eq_2
attribute [go_sem] WJ.eq_1 WJ.eq_2 WJ.eq_3 WJ.eq_4
attribute [go_sem] Jv.eq_1 Jv.eq_2 Jv.eq_3 Jv.eq_4 Jv.eq_5
attribute [go_sem] ZnB.eq_1 ZnB.eq_2
attribute [go_sem] ZpU.eq_1
attribute [go_sem] evP.eq_1 evP.eq_2
attribute [go_sem] ZkG.eq_1 ZkG.eq_2
attribute [go_sem] ZcX.eq_1
attribute [go_sem] Zif.eq_1
attribute [go_sem] ZsR.eq_1 ZsR.eq_2
attribute [go_sem] ZpT.eq_1
attribute [go_sem] VZ.eq_1
attribute [go_sem] ZvM.eq_1
attribute [go_sem] bnT.eq_1 bnT.eq_2
attribute [go_sem] ZbH.eq_1 ZbH.eq_2
attribute [go_sem] VH.eq_1 VH.eq_2
attribute [go_sem] UP.eq_1 UP.eq_2
attribute [go_sem] asgT.eq_1 asgT.eq_2
attribute [go_sem] Zmk.eq_1 Zmk.eq_2
attribute [go_sem] Zdu.eq_1 Zdu.eq_2
attribute [go_sem] ZgN.eq_1 ZgN.eq_2 ZgN.eq_3 ZgN.eq_4
attribute [go_sem] ZvG.eq_1 ZvG.eq_2
attribute [go_sem] CO.op.eq_1
attribute [go_sem] ZeW.eq_1 ZeW.eq_2
attribute [go_sem] ZeS.eq_1 ZeS.eq_2
attribute [go_sem] ZzP.eq_1 ZzP.eq_2
attribute [go_sem] Zig.eq_1 Zig.eq_2 Zig.eq_3
attribute [go_sem] ZvK.eq_1 ZvK.eq_2
attribute [go_sem] ZjI.eq_1 ZjI.eq_2
attribute [go_sem] ZeU.eq_1 ZeU.eq_2
attribute [go_sem] ZcN.eq_1 ZcN.eq_2 ZcN.eq_3 ZcN.eq_4 ZcN.eq_5 ZcN.eq_6 ZcN.eq_7 ZcN.eq_8 ZcN.eq_9 ZcN.eq_10
attribute [go_sem] Zam.eq_1
attribute [go_sem] V0.eq_1 V0.eq_2 V0.eq_3 V0.eq_4
attribute [go_sem] Eff.frz.eq_1
attribute [go_sem] buildT.eq_1
attribute [go_sem] Qm.eq_1 Qm.eq_2
attribute [go_sem] Zie.eq_1 Zie.eq_2
attribute [go_sem] Ze.gone.eq_1
attribute [go_sem] meltIn.eq_1 meltIn.eq_2
attribute [go_sem] ZiV.eq_1
attribute [go_sem] ZvH.eq_1 ZvH.eq_2
attribute [go_sem] convI.eq_1 convI.eq_2
attribute [go_sem] ZoT.eq_1 ZoT.eq_2
attribute [go_sem] Za4.eq_1 Za4.eq_2 Za4.eq_3
attribute [go_sem] bd.eq_1
attribute [go_sem] ZbK.eq_1 ZbK.eq_2
attribute [go_sem] XL.eq_1
attribute [go_sem] Zum.eq_1 Zum.eq_2
attribute [go_sem] Zih.eq_1
attribute [go_sem] XU.eq_1 XU.eq_2
attribute [go_sem] ZyN.eq_1 ZyN.eq_2
attribute [go_sem] ZF.eq_1 ZF.eq_2 ZF.eq_3 ZF.eq_4 ZF.eq_5 ZF.eq_6 ZF.eq_7 ZF.eq_8 ZF.eq_9 ZF.eq_10 ZF.eq_11 ZF.eq_12 ZF.eq_13 ZF.eq_14 ZF.eq_15 ZF.eq_16 ZF.eq_17 ZF.eq_18 ZF.eq_19 ZF.eq_20 ZF.eq_21 ZF.eq_22 ZF.eq_23 ZF.eq_24 ZF.eq_25 ZF.eq_26 ZF.eq_27 ZF.eq_28 ZF.eq_29 ZF.eq_30 ZF.eq_31 ZF.eq_32 ZF.eq_33 ZF.eq_34 ZF.eq_35 ZF.eq_36 ZF.eq_37 ZF.eq_38 ZF.eq_39 ZF.eq_40
attribute [go_sem] Ug.eq_1 Ug.eq_2 Ug.eq_3 Ug.eq_4 Ug.eq_5
attribute [go_sem] ZgU.eq_1
attribute [go_sem] Zur.eq_1 Zur.eq_2
attribute [go_sem] ZbT.eq_1 ZbT.eq_2
attribute [go_sem] Ze5.eq_1 Zut.eq_1 Zut.eq_2 Zut.eq_3 ZBa.eq_1
attribute [go_sem] Zdv.eq_1 Zdv.eq_2 Zdv.eq_3 Zdv.eq_4 Zdv.eq_5
attribute [go_sem] VM.eq_1 VM.eq_2
attribute [go_sem] ZnH.eq_1 ZnH.eq_2
attribute [go_sem] ZzU.eq_1 ZzU.eq_2
attribute [go_sem] ZsU.eq_1 ZsU.eq_2
attribute [go_sem] Xc.eq_1 Xc.eq_2
attribute [go_sem] only.eq_1 only.eq_2
attribute [go_sem] Zxp.eq_1 Zxp.eq_2
attribute [go_sem] ZgS.eq_1 ZgS.eq_2
attribute [go_sem] VN.eq_1 VN.eq_2
attribute [go_sem] okL.eq_1 okL.eq_2
attribute [go_sem] okC.eq_1 okC.eq_2 okC.eq_3 okC.eq_4 okC.eq_5 okC.eq_6 okC.eq_7 okC.eq_8 okC.eq_9 okC.eq_10
attribute [go_sem] ZoU.eq_1 ZoU.eq_2
attribute [go_sem] ZaB.eq_1 ZaB.eq_2
attribute [go_sem] Ze0.eq_1 Ze0.eq_2 Ze0.eq_3
attribute [go_sem] Zij.eq_1 Zij.eq_2
attribute [go_sem] ZgT.eq_1 ZgT.eq_2
attribute [go_sem] QS.eq_1 QS.eq_2
attribute [go_sem] Zs.eq_1 Zs.eq_2
attribute [go_sem] Vh.eq_1 Vh.eq_2 Vh.eq_3
attribute [go_sem] ZkL.eq_1
attribute [go_sem] VR.eq_1 VR.eq_2
attribute [go_sem] Zus.eq_1 Zus.eq_2
attribute [go_sem] CO.starts.eq_1
attribute [go_sem] VL.eq_1 VL.eq_2
attribute [go_sem] QX.eq_1 QX.eq_2
attribute [go_sem] ZyM.eq_1 ZyM.eq_2
attribute [go_sem] ZjN.eq_1
attribute [go_sem] Zp3.eq_1 Zp3.eq_2 Zp3.eq_3
attribute [go_sem] Ze2.eq_1 Ze2.eq_2
attribute [go_sem] Wl.eq_1 Wl.eq_2
attribute [go_sem] Zdw.eq_1
attribute [go_sem] Zp4.eq_1 Zp4.eq_2
attribute [go_sem] ZyL.eq_1
attribute [go_sem] Zr.body.eq_1
attribute [go_sem] ZkN.eq_1
attribute [go_sem] ZjK.eq_1 ZjK.eq_2
attribute [go_sem] US.eq_1 US.eq_2 US.eq_3 US.eq_4 US.eq_5
attribute [go_sem] Zr.res.eq_1
attribute [go_sem] YM.eq_1 YM.eq_2
attribute [go_sem] X6.eq_1 X6.eq_2 X6.eq_3 X6.eq_4 X6.eq_5 X6.eq_6 X6.eq_7 X6.eq_8 X6.eq_9 X6.eq_10 X6.eq_11 X6.eq_12
attribute [go_sem] Zp7.eq_1 Zp7.eq_2
attribute [go_sem] Vg.eq_1 Vg.eq_2
attribute [go_sem] Zr.nt.eq_1
attribute [go_sem] okD.eq_1 okD.eq_2
attribute [go_sem] Zum.eq_1 Jv.eq_1 Jv.eq_2 Jv.eq_3 Jv.eq_4
attribute [go_sem] Ut.eq_1 ZbP.eq_1 ZbP.eq_2 ZbP.eq_3 ZbP.eq_4 ZbP.eq_5 ZbP.eq_6 ZbP.eq_7 ZbP.eq_8 ZbP.eq_9 ZbP.eq_10 V2.eq_1
attribute [go_sem] Q6.eq_3 XN.eq_1 AV.atom.eq_1 AV.atom.eq_2 AV.atom.eq_3 AV.atom.eq_4
attribute [go_sem] ZrQ.eq_1 ZrQ.eq_2 ZiS.eq_1 ZiS.eq_2
attribute [go_sem] Zg ZA3 ZCF
attribute [go_sem] List.map_cons List.map_nil List.flatMap_cons List.flatMap_nil List.append_nil List.nil_append List.cons_append List.length_cons List.length_nil List.all_cons List.all_nil List.any_cons List.any_nil List.contains_cons List.contains_nil List.filter_cons List.filter_nil List.drop_zero List.drop_succ_cons List.drop_nil List.take_zero List.take_succ_cons List.take_nil List.getElem?_cons_zero List.getElem?_cons_succ List.getElem?_nil Option.map_some Option.map_none Bool.and_true Bool.true_and Bool.and_false Bool.false_and Bool.or_true Bool.true_or Bool.or_false Bool.false_or Bool.not_true Bool.not_false decide_true decide_false and_true true_and and_false false_and not_true not_false_eq_true or_true true_or or_false false_or if_true if_false true_implies false_implies implies_true imp_self eq_self ne_eq beq_self_eq_true Bool.true_eq_false Bool.false_eq_true List.isEmpty_nil List.isEmpty_cons List.range_zero List.set_cons_zero List.set_cons_succ Option.some.injEq reduceCtorEq Nat.reduceLeDiff
def ZpF (hp:Hp):List Nat→List Nat
 | []=>[]
 | i :: r=>if ZgM (lkp hp i)=true then i :: ZpF hp r else ZpF hp r
theorem gE (hp:Hp) (ids:List Nat):(ids.filter fun i=>ZgM (lkp hp i))=ZpF hp ids:=by
 induction ids with
 | nil=>rfl
 | cons i r ih=>simp only[List.filter_cons,ZpF,ih]
def ZsG (hp:Hp) (rs:List Nat):List Nat→Bool
 | []=>true
 | i :: r=>(ZgM (lkp hp i) || rs.contains i)&&ZsG hp rs r
def ZsH (hp:Hp):List Nat→Bool
 | []=>false
 | i :: r=>ZbM (lkp hp i) || ZsH hp r
theorem gG (hp:Hp) (ids:List Nat):(ids.any fun i=>ZbM (lkp hp i))=ZsH hp ids:=by
 induction ids with
 | nil=>rfl
 | cons i r ih=>simp only[List.any_cons,ZsH,ih]
attribute [go_sem] ZsH.eq_1 ZsH.eq_2
@[go_sem] theorem appV_eq (hp:Hp) (s b:Nat) (str flat:Bool) (base:Nat) (x y:AV):ZvL hp s b str flat base x y=Zdt hp s b str flat base x y (XO hp x) (XO hp y):=rfl
attribute [go_sem] Zdt.eq_1 Zdt.eq_2 Zdt.eq_3
@[go_sem] theorem treeId_d (hp:Hp) (x:D):XO hp (.d x)=[]:=rfl
@[go_sem] theorem ZEe (hp:Hp):XO hp .nil=[]:=rfl
@[go_sem] theorem ZDB (hp:Hp) (k o n:Nat):XO hp (.ownv k o n)=[]:=rfl
@[go_sem] theorem ZEf (hp:Hp) (k:Nat):XO hp (.own k)=if ZbM (lkp hp k)=true then [k] else []:=rfl
@[go_sem] theorem noKeep_0 (M:Zq) (f:Nat):X5 M f 0=M f 0:=rfl
@[go_sem] theorem noKeep_1 (M:Zq) (f:Nat):X5 M f 1=M f 1:=rfl
@[go_sem] theorem noKeep_2 (M:Zq) (f:Nat):X5 M f 2=M f 2:=rfl
@[go_sem] theorem noKeep_3 (M:Zq) (f:Nat):X5 M f 3=M f 3:=rfl
@[go_sem] theorem noKeep_4 (M:Zq) (f:Nat):X5 M f 4=M f 4:=rfl
@[go_sem] theorem noKeep_5 (M:Zq) (f:Nat):X5 M f 5=M f 5:=rfl
@[go_sem] theorem noKeep_6 (M:Zq) (f:Nat):X5 M f 6=M f 6:=rfl
@[go_sem] theorem noKeep_99 (M:Zq) (f:Nat):X5 M f 99=false:=rfl
theorem gF (hp:Hp) (rs ids:List Nat):Za3 hp rs ids=ZsG hp rs ids:=by
 induction ids with
 | nil=>rfl
 | cons i r ih=>simp only[Za3,LC,ZsG] at ih ⊢;rw[ih]
attribute [go_sem] ZpF.eq_1 ZpF.eq_2 ZsG.eq_1 ZsG.eq_2
@[go_sem] theorem okV_d (x:D):okV (.d x)=true:=rfl
@[go_sem] theorem okV_nil:okV .nil=true:=rfl
@[go_sem] theorem okV_nilp:okV .nilp=true:=rfl
@[go_sem] theorem okV_nili:okV .nili=true:=rfl
@[go_sem] theorem okV_ptr (a b:Nat):okV (.ptr a b)=true:=rfl
@[go_sem] theorem okV_prow (a b c e:Nat):okV (.prow a b c e)=true:=rfl
@[go_sem] theorem okV_pim (cs:List D):okV (.pim cs)=true:=rfl
@[go_sem] theorem okV_own (a:Nat):okV (.own a)=true:=rfl
@[go_sem] theorem okV_ownv (a b c:Nat):okV (.ownv a b c)=true:=rfl
@[go_sem] theorem okV_agg (cs:List AV):okV (.agg cs)=Zur cs:=rfl
@[go_sem] theorem okV_tup0:okV (.tup [])=true:=rfl
@[go_sem] theorem ZEg (sl:Sl) (a:COp) (x y:Nat) (v:AV):Vz sl a (.ptr x y) v=true:=rfl
@[go_sem] theorem seenIn_d (sl:Sl) (a:COp) (x y z t:Nat) (v:D):Vz sl a (.prow x y z t) (.d v)=true:=rfl
@[go_sem] theorem ZEh (sl:Sl) (a:COp) (x y z t:Nat) (v:List AV):Vz sl a (.prow x y z t) (.agg v)=(okV (.agg v)&&XU sl (ZF a) (Zx (.agg v))):=rfl
@[go_sem] theorem ZEi (sl:Sl) (a:COp) (x y z t:Nat) (k:Nat):Vz sl a (.prow x y z t) (.own k)=(okV (.own k)&&XU sl (ZF a) (Zx (.own k))):=rfl
@[go_sem] theorem ZEj (sl:Sl) (a:COp) (x y z t:Nat):Vz sl a (.prow x y z t) .nil=(okV .nil&&XU sl (ZF a) (Zx .nil)):=rfl
@[go_sem] theorem ZDC (sl:Sl) (a:COp) (x y z t:Nat):Vz sl a (.prow x y z t) .nilp=(okV .nilp&&XU sl (ZF a) (Zx .nilp)):=rfl
@[go_sem] theorem ZDD (sl:Sl) (a:COp) (x y z t:Nat) (k m n:Nat):Vz sl a (.prow x y z t) (.ownv k m n)=(okV (.ownv k m n)&&XU sl (ZF a) (Zx (.ownv k m n))):=rfl
@[go_sem] theorem ZDE (sl:Sl) (a:COp) (k:Nat):seenSrc sl a (.own k)=QS sl k (ZF a):=rfl
@[go_sem] theorem seenSrc_d (sl:Sl) (a:COp) (x:D):seenSrc sl a (.d x)=true:=rfl
@[go_sem] theorem ZDF (sl:Sl) (a:COp):seenSrc sl a .nil=true:=rfl
@[go_sem] theorem ZCE (sl:Sl) (a:COp) (x y z:Nat):seenSrc sl a (.ownv x y z)=true:=rfl
@[go_sem] theorem okV_iteV (b:Bool) (v:AV):okV (ZiE b v)=(!b || okV v):=by cases b<;>simp[ZiE,okV]
@[go_sem] theorem awayV_d (sl:Sl) (xs:List Opd) (x:D):ZbQ sl xs (.d x)=true:=rfl
@[go_sem] theorem awayV_nil (sl:Sl) (xs:List Opd):ZbQ sl xs .nil=true:=rfl
@[go_sem] theorem ZEk (sl:Sl) (xs:List Opd):ZbQ sl xs .nilp=true:=rfl
@[go_sem] theorem awayV_ptr (sl:Sl) (xs:List Opd) (k o:Nat):ZbQ sl xs (.ptr k o)=QS sl k xs:=rfl
@[go_sem] theorem awayV_pim (sl:Sl) (xs:List Opd) (cs:List D):ZbQ sl xs (.pim cs)=true:=rfl
@[go_sem] theorem awayV_own (sl:Sl) (xs:List Opd) (a:Nat):ZbQ sl xs (.own a)=true:=rfl
@[go_sem] theorem ZEl (sl:Sl) (xs:List Opd) (a b c:Nat):ZbQ sl xs (.ownv a b c)=true:=rfl
@[go_sem] theorem awayV_agg (sl:Sl) (xs:List Opd) (cs:List AV):ZbQ sl xs (.agg cs)=true:=rfl
@[go_sem] theorem awayV_tup (sl:Sl) (xs:List Opd) (cs:List AV):ZbQ sl xs (.tup cs)=true:=rfl
end Go.Abs.E
