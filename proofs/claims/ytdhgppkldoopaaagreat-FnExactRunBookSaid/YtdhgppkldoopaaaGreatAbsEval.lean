/- Own text. -/
import Derived.Test.YtdhgppkldoopaaaGreatAbsRun
set_option linter.unusedVariables false
set_option linter.unusedSimpArgs false
namespace Go.Abs.E
open Go Go.Abs
abbrev _root_.Go.Abs.Opd.i (n:Int):Opd:=.v (.d (.int .i64 n))
abbrev _root_.Go.Abs.Opd.b (x:Bool):Opd:=.v (.d (.bool x))
def stW {α:Type} (x:Option α) (K:α→Prop):Prop:=match x with
 | some a=>K a
 | none=>False
def gW (x:Option Bool) (A B:Prop):Prop:=match x with
 | some b=>(b=true→A)∧(b=false→B)
 | none=>False
def WE (v:AV) (A B:Prop):Prop:=match v with
 | .d (.bool t)=>(t=true→A)∧(t=false→B)
 | _=>False
theorem Wc {α:Type} (a:α) (K:α→Prop):stW (some a) K=K a:=rfl
theorem ZkL {α:Type} (K:α→Prop):stW none K=False:=rfl
theorem ZaZ {α β:Type} (x:Option α) (f:α→Option β) (K:β→Prop):stW (bnd x f) K=stW x fun a=>stW (f a) K:=by cases x<;>rfl
@[go_sem] theorem Zwo (A B:Prop):gW (some true) A B=A:=by simp[gW]
@[go_sem] theorem gW_false (A B:Prop):gW (some false) A B=B:=by simp[gW]
@[go_sem] theorem gW_dec (p:Prop) [Decidable p] (A B:Prop):gW (some (decide p)) A B=((p→A)∧(¬p→B)):=by simp[gW]
@[go_sem] theorem gW_not (b:Bool) (A B:Prop):gW (some (!b)) A B=gW (some b) B A:=by cases b<;>simp[gW]
theorem gW_some (b:Bool) (A B:Prop):gW (some b) A B=((b=true→A)∧(b=false→B)):=rfl
@[go_sem] theorem ZA1 (A B:Prop):WE (.d (.bool true)) A B=A:=by simp[WE]
@[go_sem] theorem ZAz (A B:Prop):WE (.d (.bool false)) A B=B:=by simp[WE]
@[go_sem] theorem condW_dec (p:Prop) [Decidable p] (A B:Prop):WE (.d (.bool (decide p))) A B=((p→A)∧(¬p→B)):=by simp[WE]
@[go_sem] theorem condW_not (b:Bool) (A B:Prop):WE (.d (.bool (!b))) A B=WE (.d (.bool b)) B A:=by cases b<;>simp[WE]
@[go_sem] theorem condW_and (a b:Bool) (A B:Prop):WE (.d (.bool (a&&b))) A B=WE (.d (.bool a)) (WE (.d (.bool b)) A B) B:=by cases a<;>cases b<;>simp[WE]
@[go_sem] theorem condW_or (a b:Bool) (A B:Prop):WE (.d (.bool (a || b))) A B=WE (.d (.bool a)) A (WE (.d (.bool b)) A B):=by cases a<;>cases b<;>simp[WE]
@[go_sem] theorem ZA2 (b:Bool) (A B:Prop):WE (.d (.bool b)) A B=((b=true→A)∧(b=false→B)):=rfl
@[congr] theorem gW_congr {x y:Option Bool} {A B:Prop} (h:x=y):gW x A B=gW y A B:=by rw[h]
@[congr] theorem ZAA {v w:AV} {A B:Prop} (h:v=w):WE v A B=WE w A B:=by rw[h]
section
variable (X:Fns) (M:Zm)
noncomputable def Zc6 (nx:Nat):Nat→List CO→Sl→Hp→(Sl→Hp→Prop)→Prop
 | _,[],sl,hp,K=>K sl hp
 | i,o :: rest,sl,hp,K=>gW (ZY sl o.guard)
   (stW (Yk (nx+64*i) o.dst sl hp (vop (Zf X M) M sl hp (nx+64*i) o.op)) fun r=>Zc6 nx (i+1) rest r.1 r.2 K)
   (Zc6 nx (i+1) rest (Zp sl o.dst (.tup [])) hp K)
def ZaP (nx i:Nat) (d:Option Nat) (rest:List CO) (sl:Sl) (hp:Hp) (K:Sl→Hp→Prop) (e:Option Ze):Prop:=
 stW (Yk (nx+64*i) d sl hp e) fun r=>Zc6 X M nx (i+1) rest r.1 r.2 K
@[go_sem] theorem opsW_nil (nx i:Nat) (sl:Sl) (hp:Hp) (K:Sl→Hp→Prop):Zc6 X M nx i [] sl hp K=K sl hp:=rfl
@[go_sem] theorem opsW_cons (nx i:Nat) (d:Option Nat) (tl:Bool) (op:COp) (aa:List CO) (sl:Sl) (hp:Hp) (K:Sl→Hp→Prop) :
  Zc6 X M nx i (⟨d,none,op,tl⟩ :: aa) sl hp K=ZaP X M nx i d aa sl hp K (vop (Zf X M) M sl hp (nx+64*i) op):=by
 simp[Zc6,ZaP,ZY,Zwo]
def ZhI (b:Bool) (v:AV):AV:=if b then v else .tup []
def Jm (b:Bool) (nx i:Nat) (d:Option Nat) (rest:List CO) (sl:Sl) (hp:Hp) (K:Sl→Hp→Prop) (e:Option Ze):Prop:=
 gW (some b) (ZaP X M nx i d rest sl hp K e) (Zc6 X M nx (i+1) rest (Zp sl d (.tup [])) hp K)
def ZsG (g:Option Bool) (nx i:Nat) (d:Option Nat) (op:COp) (rest:List CO) (sl:Sl) (hp:Hp) (K:Sl→Hp→Prop):Prop:=
 gW g (ZaP X M nx i d rest sl hp K (vop (Zf X M) M sl hp (nx+64*i) op)) (Zc6 X M nx (i+1) rest (Zp sl d (.tup [])) hp K)
@[go_sem] theorem ZA3 (nx i g:Nat) (w:Bool) (d:Option Nat) (tl:Bool) (op:COp) (aa:List CO) (sl:Sl) (hp:Hp) (K:Sl→Hp→Prop) :
  Zc6 X M nx i (⟨d,some (g,w),op,tl⟩ :: aa) sl hp K=ZsG X M (ZeS w (gs sl g)) nx i d op aa sl hp K:=rfl
@[go_sem] theorem ZAB (b:Bool) (nx i:Nat) (d:Option Nat) (op:COp) (aa:List CO) (sl:Sl) (hp:Hp) (K:Sl→Hp→Prop) :
  ZsG X M (some b) nx i d op aa sl hp K=Jm X M b nx i d aa sl hp K (vop (Zf X M) M sl hp (nx+64*i) op):=rfl
@[go_sem] theorem gA (nx i:Nat) (d:Option Nat) (aa:List CO) (sl:Sl) (hp:Hp) (K:Sl→Hp→Prop) (e:Option Ze) :
  Jm X M true nx i d aa sl hp K e=ZaP X M nx i d aa sl hp K e:=by simp[Jm,gW]
@[go_sem] theorem gB (nx i:Nat) (d:Option Nat) (aa:List CO) (sl:Sl) (hp:Hp) (K:Sl→Hp→Prop) (e:Option Ze) :
  Jm X M false nx i d aa sl hp K e=Zc6 X M nx (i+1) aa (Zp sl d (.tup [])) hp K:=by simp[Jm,gW]
@[go_sem] theorem ZsH (b:Bool) (nx i:Nat) (d:Option Nat) (aa:List CO) (sl:Sl) (hp:Hp) (K:Sl→Hp→Prop) (v:AV) :
  Jm X M b nx i d aa sl hp K (QJ v)=Zc6 X M nx (i+1) aa (Zp sl d (ZhI b v)) hp K:=by
 cases b
 ·simp[Jm,gW,ZhI]
 ·simp only[Jm,gW,ZhI,Kn,true_implies,Bool.true_eq_false,false_implies,and_true];rfl
@[go_sem] theorem ZAC (b:Bool) (nx i:Nat) (d:Option Nat) (aa:List CO) (sl:Sl) (hp:Hp) (K:Sl→Hp→Prop) (v:AV) :
  Jm X M b nx i d aa sl hp K (some { eff := { val:=v,adds:=[],sets:=[],dels:=[],frz:=[] },gone:=[] })=Zc6 X M nx (i+1) aa (Zp sl d (ZhI b v)) hp K:=ZsH X M b nx i d aa sl hp K v
@[congr] theorem Zz4 {g g' : Option Bool} {nx i:Nat} {d:Option Nat} {op:COp} {aa:List CO} {sl:Sl} {hp:Hp} {K:Sl→Hp→Prop} (h:g=g') :
  ZsG X M g nx i d op aa sl hp K=ZsG X M g' nx i d op aa sl hp K:=by rw[h]
@[congr] theorem Zz5 {b b' : Bool} {nx i:Nat} {d:Option Nat} {aa:List CO} {sl:Sl} {hp:Hp} {K:Sl→Hp→Prop} {e e' : Option Ze} (hb:b=b') (h:b'=true→e=e') :
  Jm X M b nx i d aa sl hp K e=Jm X M b' nx i d aa sl hp K e':=by
 subst hb;cases b
 ·simp[Jm,gW]
 ·rw[h rfl]
@[go_sem] theorem ZAD (nx i:Nat) (d:Option Nat) (aa:List CO) (sl:Sl) (hp:Hp) (K:Sl→Hp→Prop) (v:AV) :
  ZaP X M nx i d aa sl hp K (QJ v)=Zc6 X M nx (i+1) aa (Zp sl d v) hp K:=rfl
@[go_sem] theorem ZA4 (nx i:Nat) (d:Option Nat) (aa:List CO) (sl:Sl) (hp:Hp) (K:Sl→Hp→Prop) (v:AV) :
  ZaP X M nx i d aa sl hp K (some { eff := { val:=v,adds:=[],sets:=[],dels:=[],frz:=[] },gone:=[] })=Zc6 X M nx (i+1) aa (Zp sl d v) hp K:=rfl
@[go_sem] theorem ZA5 (nx i:Nat) (d:Option Nat) (aa:List CO) (sl:Sl) (hp:Hp) (K:Sl→Hp→Prop) (e:Ze) :
  ZaP X M nx i d aa sl hp K (some e)=(QP (nx+64*i) (nx+64*i+64) e.eff.adds=true∧Zc6 X M nx (i+1) aa (Zp (QW e.gone sl) d e.eff.val) (e.eff.on (VL e.gone hp)) K):=by
 unfold ZaP Yk;rw[Zg];split<;>rename_i h
 ·simp only[Wc,h,true_and];rfl
 ·simp only[ZkL,h,false_and,Kc]
@[go_sem] theorem ZA6 (nx i:Nat) (d:Option Nat) (aa:List CO) (sl:Sl) (hp:Hp) (K:Sl→Hp→Prop):ZaP X M nx i d aa sl hp K none=False:=rfl
@[go_sem] theorem stepW_ite (nx i:Nat) (d:Option Nat) (aa:List CO) (sl:Sl) (hp:Hp) (K:Sl→Hp→Prop) (c:Prop) [Decidable c] (a b:Option Ze) :
  ZaP X M nx i d aa sl hp K (if c then a else b)=((c→ZaP X M nx i d aa sl hp K a)∧(¬c→ZaP X M nx i d aa sl hp K b)):=by
 by_cases h:c<;>simp[h]
noncomputable def Vb (nx:Nat):Nat→Bool→List CO→Sl→Hp→(Sl→Hp→Prop)→Prop
 | _,_,[],sl,hp,K=>K sl hp
 | i,tail,o :: rest,sl,hp,K=>gW (ZY sl o.guard)
   (stW (Yk (nx+64*i) o.dst sl hp (VN (Zf X M) (Yx M) nx i (CO.starts o) o.op sl hp)) fun r=>Vb nx (i+1) tail rest r.1 r.2 K)
   (Vb nx (i+1) tail rest (Zp sl o.dst (.tup [])) hp K)
def WI (nx i:Nat) (t:Bool) (d:Option Nat) (rest:List CO) (sl:Sl) (hp:Hp) (K:Sl→Hp→Prop) (e:Option Ze):Prop:=
 stW (Yk (nx+64*i) d sl hp (if t then e else Zb7 e)) fun r=>Vb X M nx (i+1) false rest r.1 r.2 K
@[go_sem] theorem opsDW_nil (nx i:Nat) (t:Bool) (sl:Sl) (hp:Hp) (K:Sl→Hp→Prop):Vb X M nx i t [] sl hp K=K sl hp:=rfl
@[go_sem] theorem ZA7 (nx i:Nat) (d:Option Nat) (tl:Bool) (op:COp) (aa:List CO) (sl:Sl) (hp:Hp) (K:Sl→Hp→Prop) :
  Vb X M nx i false (⟨d,none,op,tl⟩ :: aa) sl hp K=WI X M nx i (ZhA op || tl) d aa sl hp K (vop (Zf X M) (Yx M) sl hp (nx+64*i) op):=by
 simp[Vb,WI,ZY,Zwo,VN,CO.starts]
def VF (b:Bool) (nx i:Nat) (t:Bool) (d:Option Nat) (rest:List CO) (sl:Sl) (hp:Hp) (K:Sl→Hp→Prop) (e:Option Ze):Prop:=
 gW (some b) (WI X M nx i t d rest sl hp K e) (Vb X M nx (i+1) false rest (Zp sl d (.tup [])) hp K)
def ZnT (g:Option Bool) (nx i:Nat) (t:Bool) (d:Option Nat) (op:COp) (rest:List CO) (sl:Sl) (hp:Hp) (K:Sl→Hp→Prop):Prop:=
 gW g (WI X M nx i t d rest sl hp K (vop (Zf X M) (Yx M) sl hp (nx+64*i) op)) (Vb X M nx (i+1) false rest (Zp sl d (.tup [])) hp K)
@[go_sem] theorem ZAE (nx i g:Nat) (w:Bool) (d:Option Nat) (tl:Bool) (op:COp) (aa:List CO) (sl:Sl) (hp:Hp) (K:Sl→Hp→Prop) :
  Vb X M nx i false (⟨d,some (g,w),op,tl⟩ :: aa) sl hp K=ZnT X M (ZeS w (gs sl g)) nx i (ZhA op || tl) d op aa sl hp K:=rfl
@[go_sem] theorem Zz6 (b:Bool) (nx i:Nat) (t:Bool) (d:Option Nat) (op:COp) (aa:List CO) (sl:Sl) (hp:Hp) (K:Sl→Hp→Prop) :
  ZnT X M (some b) nx i t d op aa sl hp K=VF X M b nx i t d aa sl hp K (vop (Zf X M) (Yx M) sl hp (nx+64*i) op):=rfl
@[go_sem] theorem gC (nx i:Nat) (t:Bool) (d:Option Nat) (aa:List CO) (sl:Sl) (hp:Hp) (K:Sl→Hp→Prop) (e:Option Ze) :
  VF X M true nx i t d aa sl hp K e=WI X M nx i t d aa sl hp K e:=by simp[VF,gW]
@[go_sem] theorem gD (nx i:Nat) (t:Bool) (d:Option Nat) (aa:List CO) (sl:Sl) (hp:Hp) (K:Sl→Hp→Prop) (e:Option Ze) :
  VF X M false nx i t d aa sl hp K e=Vb X M nx (i+1) false aa (Zp sl d (.tup [])) hp K:=by simp[VF,gW]
@[go_sem] theorem ZqK (b:Bool) (nx i:Nat) (t:Bool) (d:Option Nat) (aa:List CO) (sl:Sl) (hp:Hp) (K:Sl→Hp→Prop) (v:AV) :
  VF X M b nx i t d aa sl hp K (QJ v)=Vb X M nx (i+1) false aa (Zp sl d (ZhI b v)) hp K:=by
 cases b
 ·simp[VF,gW,ZhI]
 ·simp only[VF,gW,ZhI,Kn,true_implies,Bool.true_eq_false,false_implies,and_true];cases t<;>rfl
@[go_sem] theorem Zz7 (b:Bool) (nx i:Nat) (t:Bool) (d:Option Nat) (aa:List CO) (sl:Sl) (hp:Hp) (K:Sl→Hp→Prop) (v:AV) :
  VF X M b nx i t d aa sl hp K (some { eff := { val:=v,adds:=[],sets:=[],dels:=[],frz:=[] },gone:=[] })=Vb X M nx (i+1) false aa (Zp sl d (ZhI b v)) hp K:=ZqK X M b nx i t d aa sl hp K v
@[congr] theorem ZzK {g g' : Option Bool} {nx i:Nat} {t t' : Bool} {d:Option Nat} {op:COp} {aa:List CO} {sl:Sl} {hp:Hp} {K:Sl→Hp→Prop} (h:g=g') (ht:t=t') :
  ZnT X M g nx i t d op aa sl hp K=ZnT X M g' nx i t' d op aa sl hp K:=by rw[h,ht]
@[congr] theorem ZzL {b b' : Bool} {nx i:Nat} {t:Bool} {d:Option Nat} {aa:List CO} {sl:Sl} {hp:Hp} {K:Sl→Hp→Prop} {e e' : Option Ze} (hb:b=b') (h:b'=true→e=e') :
  VF X M b nx i t d aa sl hp K e=VF X M b' nx i t d aa sl hp K e':=by
 subst hb;cases b
 ·simp[VF,gW]
 ·rw[h rfl]
@[go_sem] theorem Zz8 (nx i:Nat) (t:Bool) (d:Option Nat) (aa:List CO) (sl:Sl) (hp:Hp) (K:Sl→Hp→Prop) (v:AV) :
  WI X M nx i t d aa sl hp K (QJ v)=Vb X M nx (i+1) false aa (Zp sl d v) hp K:=by cases t<;>rfl
@[go_sem] theorem ZAF (nx i:Nat) (t:Bool) (d:Option Nat) (aa:List CO) (sl:Sl) (hp:Hp) (K:Sl→Hp→Prop) (v:AV) :
  WI X M nx i t d aa sl hp K (some { eff := { val:=v,adds:=[],sets:=[],dels:=[],frz:=[] },gone:=[] })=Vb X M nx (i+1) false aa (Zp sl d v) hp K:=by cases t<;>rfl
@[go_sem] theorem ZAG (nx i:Nat) (t:Bool) (d:Option Nat) (aa:List CO) (sl:Sl) (hp:Hp) (K:Sl→Hp→Prop) (e:Ze) :
  WI X M nx i t d aa sl hp K (some e)=((t=false→ZeW e e.gone e.eff.sets e.eff.dels e.eff.frz=some e)∧QP (nx+64*i) (nx+64*i+64) e.eff.adds=true∧Vb X M nx (i+1) false aa (Zp (QW e.gone sl) d e.eff.val) (e.eff.on (VL e.gone hp)) K):=by
 have ab:stW (Yk (nx+64*i) d sl hp (some e)) (fun r=>Vb X M nx (i+1) false aa r.1 r.2 K)=(QP (nx+64*i) (nx+64*i+64) e.eff.adds=true∧Vb X M nx (i+1) false aa (Zp (QW e.gone sl) d e.eff.val) (e.eff.on (VL e.gone hp)) K):=by
  unfold Yk;rw[Zg];split<;>rename_i h
  ·simp only[Wc,h,true_and];rfl
  ·simp only[ZkL,h,false_and,Kc]
 unfold WI;cases t with
 | true=>simp only[Kn];rw[ab];simp
 | false=>
  simp only[Kc,Ko,Zb7,Zg,true_implies];unfold ZeW;split
  ·rw[ab];simp
  ·simp[Yk,bnd,stW]
@[go_sem] theorem ZAH (nx i:Nat) (t:Bool) (d:Option Nat) (aa:List CO) (sl:Sl) (hp:Hp) (K:Sl→Hp→Prop):WI X M nx i t d aa sl hp K none=False:=by cases t<;>rfl
@[go_sem] theorem ZA8 (nx i:Nat) (t:Bool) (d:Option Nat) (aa:List CO) (sl:Sl) (hp:Hp) (K:Sl→Hp→Prop) (c:Prop) [Decidable c] (a b:Option Ze) :
  WI X M nx i t d aa sl hp K (if c then a else b)=((c→WI X M nx i t d aa sl hp K a)∧(¬c→WI X M nx i t d aa sl hp K b)):=by
 by_cases h:c<;>simp[h]
@[go_sem] theorem quietC_ok (c:Ze):ZeW c [] [] [] []=some c:=rfl
def W (c:ZT) (st:St) (Q:Ex→St→Prop):Prop:=stW (QC X M c st) fun r=>Q r.1 r.2
@[congr] theorem W_congr {c:ZT} {st aa : St} {Q:Ex→St→Prop} (h:st=aa):W X M c st Q=W X M c aa Q:=by rw[h]
@[congr] theorem ZA9 {aa:List CO} {nx ab i i' : Nat} {sl sl' : Sl} {hp hp' : Hp} {K:Sl→Hp→Prop} (hn:nx=ab) (hi:i=i') (h:sl=sl') (h' : hp=hp') :
  Zc6 X M nx i aa sl hp K=Zc6 X M ab i' aa sl' hp' K:=by rw[h,h',hn,hi]
@[congr] theorem ZAI {aa:List CO} {nx ab i i' : Nat} {t t' : Bool} {sl sl' : Sl} {hp hp' : Hp} {K:Sl→Hp→Prop} (hn:nx=ab) (hi:i=i') (ht:t=t') (h:sl=sl') (h' : hp=hp') :
  Vb X M nx i t aa sl hp K=Vb X M ab i' t' aa sl' hp' K:=by rw[h,h',ht,hn,hi]
@[congr] theorem ZAJ {aa:List CO} {nx i:Nat} {d:Option Nat} {sl:Sl} {hp:Hp} {K:Sl→Hp→Prop} {e e' : Option Ze} (h:e=e') :
  ZaP X M nx i d aa sl hp K e=ZaP X M nx i d aa sl hp K e':=by rw[h]
@[congr] theorem Zz9 {aa:List CO} {nx i:Nat} {t t' : Bool} {d:Option Nat} {sl:Sl} {hp:Hp} {K:Sl→Hp→Prop} {e e' : Option Ze} (ht:t=t') (h:e=e') :
  WI X M nx i t d aa sl hp K e=WI X M nx i t' d aa sl hp K e':=by rw[h,ht]
theorem ZAa (nx:Nat) (K:Sl→Hp→Prop):∀ (l:List CO) (i:Nat) (sl:Sl) (hp:Hp),Zc6 X M nx i l sl hp K=stW (ZgW (Zf X M) M nx i l sl hp) fun r=>K r.1 r.2:=by
 intro l
 induction l with
 | nil=>intro i sl hp;rfl
 | cons o rest ih=>
  intro i sl hp;simp only[Zc6,ZgW,ih,ZaZ];cases ZY sl o.guard with
  | none=>rfl
  | some b=>cases b<;>simp[gW,ZaZ,Wc]
theorem ZyQ (nx:Nat) (K:Sl→Hp→Prop):∀ (l:List CO) (i:Nat) (t:Bool) (sl:Sl) (hp:Hp),Vb X M nx i t l sl hp K=stW (JH (Zf X M) (Yx M) nx i t l sl hp) fun r=>K r.1 r.2:=by
 intro l
 induction l with
 | nil=>intro i t sl hp;rfl
 | cons o rest ih=>
  intro i t sl hp;simp only[Vb,JH,ih,ZaZ];cases ZY sl o.guard with
  | none=>rfl
  | some b=>cases b<;>simp[gW,ZaZ,Wc]
def Zxh (m nx:Nat) (Q:Ex→St→Prop) (sl:Sl) (hp:Hp):Prop:=Q .normal { sl:=sl,hp:=hp,nx:=nx,m:=m }
def Zud (ops:List CO) (ps:List (Nat×Nat)) (K:Sl→Hp→Prop) (sl:Sl) (hp:Hp):Prop:=Ua ops sl ps=true∧K sl hp
@[go_sem] theorem regQ_eq (m nx:Nat) (Q:Ex→St→Prop) (sl:Sl) (hp:Hp):Zxh m nx Q sl hp=Q .normal { sl:=sl,hp:=hp,nx:=nx,m:=m }:=rfl
@[go_sem] theorem seenQ_eq (ops:List CO) (ps:List (Nat×Nat)) (K:Sl→Hp→Prop) (sl:Sl) (hp:Hp):Zud ops ps K sl hp=(Ua ops sl ps=true∧K sl hp):=rfl
@[go_sem] theorem W_skip (st:St) (Q:Ex→St→Prop):W X M .skip st Q=Q .normal st:=by simp[W,ZvM,Wc]
@[go_sem] theorem W_ret (st:St) (Q:Ex→St→Prop):W X M .ret st Q=Q .ret st:=by simp[W,ZxC,Wc]
@[go_sem] theorem W_exit (id:Nat) (st:St) (Q:Ex→St→Prop):W X M (.exit id) st Q=Q (.exit id) st:=by simp[W,ZvN,Wc]
@[go_sem] theorem W_stuck (st:St) (Q:Ex→St→Prop):W X M .stuck st Q=False:=by
 have h:QC X M .stuck st=none:=YP fun n=>by simp only[ZK]
 simp only[W,h,ZkL]
@[go_sem] theorem W_region (n:Nat) (ops:List CO) (st:St) (Q:Ex→St→Prop) :
  W X M (.region n none ops) st Q=Zc6 X M st.nx 0 ops st.sl st.hp (Zxh st.m (st.nx+64*n) Q):=by
 rw[ZAa,W,Zs3,ZnM,ZaZ];rfl
theorem ZyR (n:Nat) (ps:List (Nat×Nat)) (ops:List CO) (st:St) (Q:Ex→St→Prop) :
  W X M (.region n (some ps) ops) st Q=Vb X M st.nx 0 false ops st.sl st.hp (Zud ops ps (Zxh st.m (st.nx+64*n) Q)):=by
 rw[ZyQ,W,ZvO,ZnM,ZaZ,ZrF,ZaZ];congr 1
 funext r
 by_cases h:Ua ops r.1 ps=true<;>simp[h,Zud,Wc,ZkL,Zxh]
@[go_sem] theorem W_draw0 (n:Nat) (ops:List CO) (st:St) (Q:Ex→St→Prop) :
  W X M (.region n (some []) ops) st Q=Vb X M st.nx 0 false ops st.sl st.hp (Zxh st.m (st.nx+64*n) Q):=by
 rw[ZyR];congr 1
 funext sl hp
 simp[Zud,Ua]
@[go_sem] theorem W_drawc (n:Nat) (p:Nat×Nat) (ps:List (Nat×Nat)) (ops:List CO) (st:St) (Q:Ex→St→Prop) :
  W X M (.region n (some (p :: ps)) ops) st Q=Vb X M st.nx 0 false ops st.sl st.hp (Zud ops (p :: ps) (Zxh st.m (st.nx+64*n) Q)):=ZyR X M n _ ops st Q
def Zwp (c:ZT) (Q:Ex→St→Prop):Ex→St→Prop
 | .normal,st=>W X M c st Q
 | e,st=>Q e st
def blkQ (id:Nat) (Q:Ex→St→Prop):Ex→St→Prop
 | .exit j,st=>if j=id then Q .normal st else Q (.exit j) st
 | e,st=>Q e st
@[go_sem] theorem ZAb (c:ZT) (Q:Ex→St→Prop) (st:St):Zwp X M c Q .normal st=W X M c st Q:=rfl
@[go_sem] theorem thenQ_ret (c:ZT) (Q:Ex→St→Prop) (st:St):Zwp X M c Q .ret st=Q .ret st:=rfl
@[go_sem] theorem ZBa (c:ZT) (Q:Ex→St→Prop) (id:Nat) (st:St):Zwp X M c Q (.exit id) st=Q (.exit id) st:=rfl
@[go_sem] theorem ZAK (id:Nat) (Q:Ex→St→Prop) (st:St):blkQ id Q .normal st=Q .normal st:=rfl
@[go_sem] theorem blkQ_ret (id:Nat) (Q:Ex→St→Prop) (st:St):blkQ id Q .ret st=Q .ret st:=rfl
@[go_sem] theorem blkQ_exit (id j:Nat) (Q:Ex→St→Prop) (st:St):blkQ id Q (.exit j) st=if j=id then Q .normal st else Q (.exit j) st:=rfl
@[go_sem] theorem W_seq (a b:ZT) (st:St) (Q:Ex→St→Prop):W X M (.seq a b) st Q=W X M a st (Zwp X M b Q):=by
 unfold W;rw[ZxD];cases h:QC X M a st with
 | none=>rfl
 | some r=>obtain⟨e,aa⟩:=r;cases e<;>rfl
@[go_sem] theorem W_cond (c:Opd) (a b:ZT) (st:St) (Q:Ex→St→Prop) :
  W X M (.cond c a b) st Q=WE (evO st.sl c) (W X M a st Q) (W X M b st Q):=by
 unfold W;rw[ZvP];cases h:evO st.sl c with
 | d x=>cases x with
  | bool t=>cases t<;>simp[ZiQ,WE]
  | _=>rfl
 | _=>rfl
@[go_sem] theorem W_block (id:Nat) (c:ZT) (st:St) (Q:Ex→St→Prop):W X M (.block id c) st Q=W X M c st (blkQ id Q):=by
 unfold W;rw[Zuz];cases h:QC X M c st with
 | none=>rfl
 | some r=>
  obtain⟨e,aa⟩:=r;cases e with
  | exit j=>by_cases hj:j=id<;>simp[ZgZ,hj,Wc,blkQ]
  | normal=>rfl
  | ret=>rfl
def keepQ (K:List Nat) (Q:Ex→St→Prop) (e:Ex) (st:St):Prop:=Q e { sl:=only K st.sl,hp:=st.hp,nx:=st.nx,m:=st.m }
@[go_sem] theorem keepQ_eq (K:List Nat) (Q:Ex→St→Prop) (e:Ex) (st:St):keepQ K Q e st=Q e { sl:=only K st.sl,hp:=st.hp,nx:=st.nx,m:=st.m }:=rfl
@[go_sem] theorem W_keep (K:List Nat) (c:ZT) (st:St) (Q:Ex→St→Prop):W X M (.keep K c) st Q=W X M c st (keepQ K Q):=by
 unfold W;rw[ZvQ];cases h:QC X M c st with
 | none=>rfl
 | some r=>rfl
def shutQ (id nm:Nat) (Q:Ex→St→Prop) (e:Ex) (st:St):Prop:=Q e { sl:=st.sl,hp:=ZxA st.hp (Zna st.hp id nm (lkp st.hp id)),nx:=st.nx,m:=st.m }
@[go_sem] theorem shutQ_eq (id nm:Nat) (Q:Ex→St→Prop) (e:Ex) (st:St):shutQ id nm Q e st=Q e { sl:=st.sl,hp:=ZxA st.hp (Zna st.hp id nm (lkp st.hp id)),nx:=st.nx,m:=st.m }:=rfl
def Zpl (c:ZT) (Q:Ex→St→Prop) (r:Option St):Prop:=stW r fun st=>W X M c st Q
@[go_sem] theorem ZBb (c:ZT) (Q:Ex→St→Prop) (st:St):Zpl X M c Q (some st)=W X M c st Q:=rfl
@[go_sem] theorem ZBc (c:ZT) (Q:Ex→St→Prop):Zpl X M c Q none=False:=rfl
@[go_sem] theorem linkW_ite (c:ZT) (Q:Ex→St→Prop) (p:Prop) [Decidable p] (a b:Option St):Zpl X M c Q (if p then a else b)=((p→Zpl X M c Q a)∧(¬p→Zpl X M c Q b)):=by
 by_cases h:p<;>simp[h]
@[go_sem] theorem W_link (fl:Bool) (id:Nat) (i:Opd) (j:Nat) (c:ZT) (st:St) (Q:Ex→St→Prop):W X M (.link fl id i j c) st Q=Zpl X M c (shutQ id st.nx Q) (ZeX fl id i j st):=by
 unfold W Zpl;rw[ZvR];cases h:ZeX fl id i j st with
 | none=>rfl
 | some st1=>
  simp only[Zg,Wc,W];cases h1:QC X M c st1 with
  | none=>rfl
  | some q=>rfl
@[go_sem] theorem W_melt (c:ZT) (st:St) (Q:Ex→St→Prop):W X M (.melt c) st Q=W X M c { sl:=st.sl,hp:=ZlB ZkS st.hp,nx:=st.nx,m:=st.m } Q:=by
 unfold W;rw[ZvS];rfl
def LW (c:ZT) (K:List Nat) (st:St) (Q:Ex→St→Prop):Prop:=stW (Zg1 X M c K st) fun r=>Q r.1 r.2
@[congr] theorem LW_congr {c:ZT} {K K' : List Nat} {st aa : St} {Q:Ex→St→Prop} (hk:K=K') (h:st=aa):LW X M c K st Q=LW X M c K' aa Q:=by rw[h,hk]
@[go_sem] theorem W_loop (c:ZT) (st:St) (Q:Ex→St→Prop):W X M (.loop c) st Q=LW X M c (ZaK st.sl) st Q:=by
 unfold W LW;rw[ZvT]
def Zpm (c:ZT) (K:List Nat) (Q:Ex→St→Prop):Ex→St→Prop
 | .normal,st=>LW X M c K st Q
 | e,st=>Q e st
@[go_sem] theorem ZAc (c:ZT) (K:List Nat) (Q:Ex→St→Prop) (st:St):Zpm X M c K Q .normal st=LW X M c K st Q:=rfl
@[go_sem] theorem nextQ_ret (c:ZT) (K:List Nat) (Q:Ex→St→Prop) (st:St):Zpm X M c K Q .ret st=Q .ret st:=rfl
@[go_sem] theorem ZBd (c:ZT) (K:List Nat) (Q:Ex→St→Prop) (id:Nat) (st:St):Zpm X M c K Q (.exit id) st=Q (.exit id) st:=rfl
theorem ZdE {c:ZT} {K:List Nat} {st:St} {Q:Ex→St→Prop} (h:W X M c (Uz K st) (Zpm X M c K Q)):LW X M c K st Q:=by
 unfold W at h;cases hv:QC X M c (Uz K st) with
 | none=>rw[hv] at h;exact h.elim
 | some r=>
  rw[hv] at h;obtain⟨e,aa⟩:=r;unfold LW;cases e with
  | normal=>rw[ZuA X M hv];exact h
  | exit id=>rw[ZpT X M (by simp) hv];exact h
  | ret=>rw[ZpT X M (by simp) hv];exact h
def ZqL (sl:Sl):Sl→Sl
 | []=>sl
 | (k,v) :: r=>ZqL (ins sl k v) r
def ZiM (hp:Hp):Hp→Hp
 | []=>hp
 | (k,o) :: r=>ZiM (ins hp k o) r
theorem LW_ind {α:Type} (S:α→St) (I:α→Prop) (μ:α→Nat) {c:ZT} {K:List Nat} {Q:Ex→St→Prop}
  (step:∀ a,I a→(∀ b st,I b→μ b<μ a→Uz K st=S b→LW X M c K st Q)→W X M c (S a) (Zpm X M c K Q)) :
  ∀ a st,I a→Uz K st=S a→LW X M c K st Q:=by
 have aa:∀ n a st,μ a=n→I a→Uz K st=S a→LW X M c K st Q:=by
  intro n
  induction n using Nat.strongRecOn with
  | ind n ih=>
   intro a st hn ha hs;refine ZdE X M ?_;rw[hs];exact step a ha fun b ab hb ae ad=>ih (μ b) (by omega) b ab rfl hb ad
 exact fun a st ha hs=>aa _ a st rfl ha hs
theorem YC {α:Type} (u:α→Sl) (uh:α→Hp) (I:α→Prop) (μ:α→Nat) (a:α) {c:ZT} {K:List Nat} {Q:Ex→St→Prop} {st st0:St}
  (hc:Uz K st=st0) (ha:I a) (h0:(⟨ZqL st0.sl (u a),ZiM st0.hp (uh a),st0.nx,st0.m⟩:St)=st0)
  (step:∀ a,I a→(∀ b st,I b→μ b<μ a→Uz K st=⟨ZqL st0.sl (u b),ZiM st0.hp (uh b),st0.nx,st0.m⟩→LW X M c K st Q)→W X M c ⟨ZqL st0.sl (u a),ZiM st0.hp (uh a),st0.nx,st0.m⟩ (Zpm X M c K Q)) :
  LW X M c K st Q:=
 LW_ind X M (fun a=>⟨ZqL st0.sl (u a),ZiM st0.hp (uh a),st0.nx,st0.m⟩) I μ step a st ha (hc.trans h0.symm)
def ZsI (m:Nat) (rs:List ZqO) (R:AV×List Zn→Prop):Ex→St→Prop:=fun e st=>stW (Zdg m rs (some (e,st))) R
def resW (m:Nat) (hp:Hp) (R:AV×List Zn→Prop) (vs:Option (List AV)):Prop:=stW vs fun vs=>R (Wi m hp (Zb8 vs))
@[go_sem] theorem resW_some (m:Nat) (hp:Hp) (R:AV×List Zn→Prop) (vs:List AV):resW m hp R (some vs)=R (Wi m hp (Zb8 vs)):=rfl
@[go_sem] theorem resW_none (m:Nat) (hp:Hp) (R:AV×List Zn→Prop):resW m hp R none=False:=rfl
@[go_sem] theorem endQ_ret (m:Nat) (rs:List ZqO) (R:AV×List Zn→Prop) (st:St):ZsI m rs R .ret st=resW m st.hp R (Qr (ZpR st) rs):=by
 simp only[ZsI,Zdg,ZaZ];rfl
@[go_sem] theorem ZAL (m:Nat) (rs:List ZqO) (R:AV×List Zn→Prop) (st:St):ZsI m rs R .normal st=resW m st.hp R (Qr (ZpR st) rs):=by
 simp only[ZsI,Zdg,ZaZ];rfl
theorem ZyS {f:Nat} {as:List AV} {h:List Zn} (fn:Zq) {R:AV×List Zn→Prop} (hx:X f=some (.text fn)) (hl:as.length≤fn.nt)
  (hr:W X M fn.body { sl:=VM 0 as,hp:=Wh 0 h,nx:=h.length,m:=h.length } (ZsI h.length fn.res R)):∃ r,Zf X M f as h=some r∧R r:=by
 unfold W at hr;cases hv:QC X M fn.body { sl:=VM 0 as,hp:=Wh 0 h,nx:=h.length,m:=h.length } with
 | none=>rw[hv] at hr;exact hr.elim
 | some q=>
  rw[hv] at hr;obtain⟨e,st⟩:=q;simp only[Wc,ZsI] at hr;cases hk:Zdg h.length fn.res (some (e,st)) with
  | none=>rw[hk] at hr;exact hr.elim
  | some r=>rw[hk] at hr;exact⟨r,Zy7 X M hx hl (by rw[hv];exact hk),hr⟩
theorem callE {f:Nat} {as:List AV} {h:List Zn} (fn:Zq) {r:AV×List Zn} (hx:X f=some (.text fn)) (hl:as.length≤fn.nt)
  (hr:W X M fn.body { sl:=VM 0 as,hp:=Wh 0 h,nx:=h.length,m:=h.length } (ZsI h.length fn.res fun q=>q=r)):Zf X M f as h=some r:=by
 obtain⟨q,hq,rfl⟩:=ZyS X M fn hx hl hr;exact hq
end
@[go_sem] theorem vopE_move (C:Orc) (M:Zm) (sl:Sl) (hp:Hp) (base:Nat) (x:Opd):vop C M sl hp base (.move x)=QJ (evO sl x):=by simp only[vop]
@[go_sem] theorem ZAM (C:Orc) (M:Zm) (sl:Sl) (hp:Hp) (base:Nat) (s:Option Nat) (x:Opd):vop C M sl hp base (.assign s x)=ZeL base s (evO sl x):=by simp only[vop]
@[go_sem] theorem vopE_pick (C:Orc) (M:Zm) (sl:Sl) (hp:Hp) (base:Nat) (c a b:Opd):vop C M sl hp base (.pick c a b)=ZgR (evO sl a) (evO sl b) (evO sl c):=by simp only[vop]
@[go_sem] theorem ZBe (C:Orc) (M:Zm) (sl:Sl) (hp:Hp) (base:Nat) (slc:List (Option Nat)) (cs:List AV):vop C M sl hp base (.alloc slc cs)=ZgS slc base cs:=by simp only[vop]
@[go_sem] theorem vopE_box (C:Orc) (M:Zm) (sl:Sl) (hp:Hp) (base:Nat) (x:Opd):vop C M sl hp base (.box x)=Zxq base (evO sl x):=by simp only[vop]
@[go_sem] theorem ZBf (C:Orc) (M:Zm) (sl:Sl) (hp:Hp) (base:Nat) (zs:List AV) (ps:List (Nat×Nat×Opd)):vop C M sl hp base (.build zs ps)=Zpu zs (evP sl ps):=by simp only[vop]
@[go_sem] theorem ZAd (C:Orc) (M:Zm) (sl:Sl) (hp:Hp) (base:Nat) (s:Nat) (xs:List Opd):vop C M sl hp base (.buildSl s xs)=buildSl hp base s (evL sl xs):=by simp only[vop]
@[go_sem] theorem vopE_load (C:Orc) (M:Zm) (sl:Sl) (hp:Hp) (base:Nat) (g:Bool) (s:Nat) (a:Opd):vop C M sl hp base (.load g s a)=Vy (W2 hp g s (evO sl a)):=by simp only[vop]
@[go_sem] theorem ZBg (C:Orc) (M:Zm) (sl:Sl) (hp:Hp) (base:Nat) (slc:List (Option Nat)) (s:Nat) (a x:Opd):vop C M sl hp base (.store slc s a x)=ZfD (ZaH hp slc s base (evO sl x).cells (evO sl a)):=by simp only[vop]
@[go_sem] theorem ZzM (C:Orc) (M:Zm) (sl:Sl) (hp:Hp) (base:Nat) (x:Opd):vop C M sl hp base (.nilCheck x)=JY (evO sl x):=by simp only[vop]
@[go_sem] theorem vopE_bin (C:Orc) (M:Zm) (sl:Sl) (hp:Hp) (base:Nat) (op:BinOp) (eq:Bool) (x y:Opd):vop C M sl hp base (.bin op eq x y)=Zpv op eq (evO sl x) (evO sl y):=by simp only[vop]
@[go_sem] theorem vopE_un (C:Orc) (M:Zm) (sl:Sl) (hp:Hp) (base:Nat) (op:UnOp) (x:Opd):vop C M sl hp base (.un op x)=Vy (vun op (evO sl x)):=by simp only[vop]
@[go_sem] theorem vopE_eqA (C:Orc) (M:Zm) (sl:Sl) (hp:Hp) (base:Nat) (neg:Bool) (ks:List Nat) (x y:Opd):vop C M sl hp base (.eqA neg ks x y)=ZsN neg ks (evO sl x) (evO sl y):=by simp only[vop]
@[go_sem] theorem ZBh (C:Orc) (M:Zm) (sl:Sl) (hp:Hp) (base:Nat) (k:IntKind) (x:Opd):vop C M sl hp base (.convI k x)=convI k (evO sl x):=by simp only[vop]
@[go_sem] theorem ZBi (C:Orc) (M:Zm) (sl:Sl) (hp:Hp) (base:Nat) (x:Opd):vop C M sl hp base (.convS x)=convS (evO sl x):=by simp only[vop]
@[go_sem] theorem vopE_fn (C:Orc) (M:Zm) (sl:Sl) (hp:Hp) (base:Nat) (f:Nat) (cs:List Opd):vop C M sl hp base (.fn f cs)=Vy (cloV f (evL sl cs)):=by simp only[vop]
@[go_sem] theorem vopE_make (C:Orc) (M:Zm) (sl:Sl) (hp:Hp) (base:Nat) (s b:Nat) (z:D) (l c:Opd):vop C M sl hp base (.make s b z l c)=bnd (idx (evO sl l)) fun l=>bnd (idx (evO sl c)) fun c=>Zrz base s b z l c:=by simp only[vop]
@[go_sem] theorem ZBj (C:Orc) (M:Zm) (sl:Sl) (hp:Hp) (base:Nat) (s:Nat) (x:Opd) (lo hi:Option Opd):vop C M sl hp base (.slice s x lo hi)=Vy (Vx hp s (evM sl lo) (evM sl hi) (evO sl x)):=by simp only[vop]
@[go_sem] theorem ZAN (C:Orc) (M:Zm) (sl:Sl) (hp:Hp) (base:Nat) (x:Opd) (lo hi:Option Opd):vop C M sl hp base (.sliceS x lo hi)=Vy (sliceS (evM sl lo) (evM sl hi) (evO sl x)):=by simp only[vop]
@[go_sem] theorem ZAO (C:Orc) (M:Zm) (sl:Sl) (hp:Hp) (base:Nat) (x hi mx:Opd):vop C M sl hp base (.slice0 x hi mx)=Vy (slice0 hp (evO sl x) (idx (evO sl hi)) (idx (evO sl mx))):=by simp only[vop]
@[go_sem] theorem ZBk (C:Orc) (M:Zm) (sl:Sl) (hp:Hp) (base:Nat) (off:Nat) (x:Opd):vop C M sl hp base (.shift off x)=Wf off (evO sl x):=by simp only[vop]
@[go_sem] theorem vopE_part (C:Orc) (M:Zm) (sl:Sl) (hp:Hp) (base:Nat) (g:Bool) (s off:Nat) (x:Opd):vop C M sl hp base (.part g s off x)=Vy (ZkR g s off (evO sl x)):=by simp only[vop]
@[go_sem] theorem vopE_iaS (C:Orc) (M:Zm) (sl:Sl) (hp:Hp) (base:Nat) (s:Nat) (x i:Opd):vop C M sl hp base (.iaS s x i)=bnd (idx (evO sl i)) fun n=>ZiP hp s (evO sl x) n:=by simp only[vop]
@[go_sem] theorem vopE_iaA (C:Orc) (M:Zm) (sl:Sl) (hp:Hp) (base:Nat) (len s:Nat) (x i:Opd):vop C M sl hp base (.iaA len s x i)=bnd (idx (evO sl i)) fun n=>Zpx (evO sl x) n len s:=by simp only[vop]
@[go_sem] theorem vopE_ixS (C:Orc) (M:Zm) (sl:Sl) (hp:Hp) (base:Nat) (x i:Opd):vop C M sl hp base (.ixS x i)=bnd (idx (evO sl i)) fun n=>Zvt n (evO sl x):=by simp only[vop]
@[go_sem] theorem vopE_ixA (C:Orc) (M:Zm) (sl:Sl) (hp:Hp) (base:Nat) (g:Bool) (s len:Nat) (x i:Opd):vop C M sl hp base (.ixA g s len x i)=bnd (idx (evO sl i)) fun n=>Zxs g s len n (evO sl x):=by simp only[vop]
@[go_sem] theorem vopE_nth (C:Orc) (M:Zm) (sl:Sl) (hp:Hp) (base:Nat) (i:Nat) (x:Opd):vop C M sl hp base (.nth i x)=Zun i (evO sl x):=by simp only[vop]
@[go_sem] theorem vopE_len (C:Orc) (M:Zm) (sl:Sl) (hp:Hp) (base:Nat) (x:Opd):vop C M sl hp base (.len x)=bnd (Zc5 hp (evO sl x)) fun n=>QJ (.d (.int .i64 n)):=by simp only[vop]
@[go_sem] theorem vopE_lenS (C:Orc) (M:Zm) (sl:Sl) (hp:Hp) (base:Nat) (x:Opd):vop C M sl hp base (.lenS x)=bnd (ZwQ (evO sl x)) fun n=>QJ (.d (.int .i64 n)):=by simp only[vop]
@[go_sem] theorem ZAP (C:Orc) (M:Zm) (sl:Sl) (hp:Hp) (base:Nat) (s b:Nat) (str flat:Bool) (x y:Opd):vop C M sl hp base (.append s b str flat x y)=Zuo hp s b str flat base (evO sl x) (evO sl y):=by simp only[vop]
@[go_sem] theorem vopE_min (C:Orc) (M:Zm) (sl:Sl) (hp:Hp) (base:Nat) (x y:Opd):vop C M sl hp base (.min x y)=Zm5 (evO sl x) (evO sl y):=by simp only[vop]
@[go_sem] theorem vopE_max (C:Orc) (M:Zm) (sl:Sl) (hp:Hp) (base:Nat) (x y:Opd):vop C M sl hp base (.max x y)=Zm6 (evO sl x) (evO sl y):=by simp only[vop]
@[go_sem] theorem vopE_call (C:Orc) (M:Zm) (sl:Sl) (hp:Hp) (base:Nat) (f:Opd) (as:List Opd):vop C M sl hp base (.call f as)=Zdb C M hp base (evL sl as) (evO sl f):=by simp only[vop]
@[go_sem] theorem ZAQ (C:Orc) (M:Zm) (sl:Sl) (hp:Hp) (base:Nat) (s:Nat) (x lo hi mx:Opd):vop C M sl hp base (.slice3 s x lo hi mx)=Vy (slice3 hp (evO sl x) (idx (evO sl lo)) (idx (evO sl hi)) (idx (evO sl mx))):=by simp only[vop]
@[go_sem] theorem ZBl (C:Orc) (M:Zm) (sl:Sl) (hp:Hp) (base:Nat) (s:Nat) (z:D) (x:Opd):vop C M sl hp base (.clear s z x)=ZfD (ZeH hp s z (evO sl x)):=by simp only[vop]
@[go_sem] theorem ZAR (C:Orc) (M:Zm) (sl:Sl) (hp:Hp) (base:Nat) (s n:Nat) (xs:List Opd):vop C M sl hp base (.buildT s n xs)=buildT hp base s n (evL sl xs):=by simp only[vop]
@[go_sem] theorem vopE_appT (C:Orc) (M:Zm) (sl:Sl) (hp:Hp) (base:Nat) (s b:Nat) (f:Bool) (x y:Opd):vop C M sl hp base (.appT s b f x y)=appT hp s b base (evO sl x) (evO sl y):=by simp only[vop]
@[go_sem] theorem vopE_asgT (C:Orc) (M:Zm) (sl:Sl) (hp:Hp) (base:Nat) (s n:Nat) (x:Opd):vop C M sl hp base (.asgT s n x)=asgT base s n (evO sl x):=by simp only[vop]
@[go_sem] theorem ZBm (C:Orc) (M:Zm) (sl:Sl) (hp:Hp) (base:Nat) (s b n:Nat) (z:D) (l c:Opd):vop C M sl hp base (.makeT s b n z l c)=bnd (idx (evO sl l)) fun l=>bnd (idx (evO sl c)) fun c=>makeT base s b n z l c:=by simp only[vop]
@[go_sem] theorem ZBn (C:Orc) (M:Zm) (sl:Sl) (hp:Hp) (base:Nat):vop C M sl hp base .stuck=none:=by simp only[vop]
@[go_sem] theorem Zxi (hp:Hp) (n:Nat) (aa:List Nat):QQ hp n [] aa=aa:=by cases n<;>rfl
@[go_sem] theorem tidy_d (hp:Hp) (ids:List Nat) (x:D):ZdP hp ids (.d x)=.d x:=rfl
@[go_sem] theorem tidy_nil (hp:Hp) (ids:List Nat):ZdP hp ids .nil=.nil:=rfl
@[go_sem] theorem tidy_junk (hp:Hp) (ids:List Nat):ZdP hp ids .junk=.junk:=rfl
@[go_sem] theorem tidy_tup (hp:Hp) (ids:List Nat) (vs:List AV):ZdP hp ids (.tup vs)=ren (VH ids) (kill (ZgX hp ids (Zx (.tup vs))) (.tup vs)):=rfl
@[go_sem] theorem tidy_agg (hp:Hp) (ids:List Nat) (vs:List AV):ZdP hp ids (.agg vs)=ren (VH ids) (kill (ZgX hp ids (Zx (.agg vs))) (.agg vs)):=rfl
@[go_sem] theorem tidy_clo (hp:Hp) (ids:List Nat) (f:Nat) (vs:List AV):ZdP hp ids (.clo f vs)=ren (VH ids) (kill (ZgX hp ids (Zx (.clo f vs))) (.clo f vs)):=rfl
@[go_sem] theorem tidy_nilp (hp:Hp) (ids:List Nat):ZdP hp ids .nilp=.nilp:=rfl
@[go_sem] theorem tidy_nili (hp:Hp) (ids:List Nat):ZdP hp ids .nili=.nili:=rfl
@[go_sem] theorem tidy_pim (hp:Hp) (ids:List Nat) (cs:List D):ZdP hp ids (.pim cs)=.pim cs:=rfl
@[go_sem] theorem tidy_ptr (hp:Hp) (ids:List Nat) (id o:Nat):ZdP hp ids (.ptr id o)=if Zdf hp ids id=true then .ptr (VH ids id) o else .junk:=by
 simp only[ZdP,Zx,Zz,Zl,ZgX];split<;>simp[kill,ZR,Qa,ren,Zdy,Zez]
@[go_sem] theorem tidy_prow (hp:Hp) (ids:List Nat) (id s i o:Nat):ZdP hp ids (.prow id s i o)=if Zdf hp ids id=true then .prow (VH ids id) s i o else .junk:=by
 simp only[ZdP,Zx,Zz,Zl,ZgX];split<;>simp[kill,ZR,Qa,ren,Zdy,Zez]
@[go_sem] theorem tidy_own (hp:Hp) (ids:List Nat) (id:Nat):ZdP hp ids (.own id)=if Zdf hp ids id=true then .own (VH ids id) else .junk:=by
 simp only[ZdP,Zx,Zz,Zl,ZgX];split<;>simp[kill,ZR,Qa,ren,Zdy,Zez]
@[go_sem] theorem tidy_ownv (hp:Hp) (ids:List Nat) (id a b:Nat):ZdP hp ids (.ownv id a b)=if Zdf hp ids id=true then .ownv (VH ids id) a b else .junk:=by
 simp only[ZdP,Zx,Zz,Zl,ZgX];split<;>simp[kill,ZR,Qa,ren,Zdy,Zez]
@[go_sem] theorem ZBo (hp:Hp) (x:D):Wi 0 hp (.d x)=(.d x,[]):=by
 simp[Wi,Zx,Zz,Zl,WB,Zxi,tidy_d,Zc8]
@[go_sem] theorem minI_eq (a b:Int):minI a b=min a b:=by unfold minI;split<;>omega
@[go_sem] theorem maxI_eq (a b:Int):maxI a b=max a b:=by unfold maxI;split<;>omega
@[go_sem] theorem negIf_f (r:Bool):Zpw false r=r:=rfl
@[go_sem] theorem negIf_t (r:Bool):Zpw true r=!r:=rfl
@[go_sem] theorem opt1_some (v:AV):Vy (some v)=QJ v:=rfl
@[go_sem] theorem opt1_none:Vy none=none:=rfl
@[go_sem] theorem vbin_int (op:BinOp) (k k' : IntKind) (a b:Int):vbin op (.d (.int k a)) (.d (.int k' b))=JT op k k' a b:=rfl
@[go_sem] theorem binV_int (op:BinOp) (eq:Bool) (k k' : IntKind) (a b:Int):Zpv op eq (.d (.int k a)) (.d (.int k' b))=Vy (JT op k k' a b):=rfl
@[go_sem] theorem binV_str (op:BinOp) (eq:Bool) (a b:List UInt8):Zpv op eq (.d (.str a)) (.d (.str b))=Vy (asD (ZtI op a b)):=rfl
@[go_sem] theorem int2_add (k:IntKind) (a b:Int):JT .add k k a b=some (.d (.int k (k.wrap (a+b)))):=by simp[JT,Ud,asD,Zg]
@[go_sem] theorem int2_sub (k:IntKind) (a b:Int):JT .sub k k a b=some (.d (.int k (k.wrap (a-b)))):=by simp[JT,Ud,asD,Zg]
@[go_sem] theorem int2_mul (k:IntKind) (a b:Int):JT .mul k k a b=some (.d (.int k (k.wrap (a*b)))):=by simp[JT,Ud,asD,Zg]
@[go_sem] theorem int2_quo (k:IntKind) (a b:Int):JT .quo k k a b=if b=0 then none else some (.d (.int k (k.wrap (a.tdiv b)))):=by simp only[JT,Ud,asD,if_true];split<;>rfl
@[go_sem] theorem int2_rem (k:IntKind) (a b:Int):JT .rem k k a b=if b=0 then none else some (.d (.int k (a.tmod b))):=by simp only[JT,Ud,asD,if_true];split<;>rfl
@[go_sem] theorem int2_eql (k:IntKind) (a b:Int):JT .eql k k a b=some (.d (.bool (decide (a=b)))):=by simp[JT,Ud,asD,Zg,BEq.beq]
@[go_sem] theorem int2_neq (k:IntKind) (a b:Int):JT .neq k k a b=some (.d (.bool (!decide (a=b)))):=by simp[JT,Ud,asD,Zg,bne,BEq.beq]
@[go_sem] theorem int2_lss (k:IntKind) (a b:Int):JT .lss k k a b=some (.d (.bool (decide (a<b)))):=by simp[JT,Ud,asD,Zg]
@[go_sem] theorem int2_leq (k:IntKind) (a b:Int):JT .leq k k a b=some (.d (.bool (decide (a≤b)))):=by simp[JT,Ud,asD,Zg]
@[go_sem] theorem int2_gtr (k:IntKind) (a b:Int):JT .gtr k k a b=some (.d (.bool (decide (b<a)))):=by simp[JT,Ud,asD,Zg]
@[go_sem] theorem int2_geq (k:IntKind) (a b:Int):JT .geq k k a b=some (.d (.bool (decide (b≤a)))):=by simp[JT,Ud,asD,Zg]
@[go_sem] theorem guardV_t (b:Bool):ZeS true (.d (.bool b))=some b:=by cases b<;>rfl
def nb (b:Bool):Bool:=!b
@[go_sem] theorem nb_true:nb true=false:=rfl
@[go_sem] theorem nb_false:nb false=true:=rfl
@[go_sem] theorem nb_eq (b:Bool):(nb b=true)=(b=false):=by cases b<;>simp[nb]
@[go_sem] theorem guardV_f (b:Bool):ZeS false (.d (.bool b))=some (nb b):=by cases b<;>rfl
@[go_sem] theorem ZBp (w:Bool):ZeS w (.tup [])=some false:=rfl
@[go_sem] theorem ZAe (a b:Bool):ZeS true (ZhI a (.d (.bool b)))=some (a&&b):=by cases a<;>cases b<;>rfl
@[go_sem] theorem ZAf (a b:Bool):ZeS false (ZhI a (.d (.bool b)))=some (a&&nb b):=by cases a<;>cases b<;>rfl
@[go_sem] theorem iteV_true (v:AV):ZhI true v=v:=rfl
@[go_sem] theorem ZBq (v:AV):ZhI false v=.tup []:=rfl
@[go_sem] theorem ZBr (a b:AV):ZgR a b (.d (.bool true))=QJ a:=rfl
@[go_sem] theorem ZAS (a b:AV):ZgR a b (.d (.bool false))=QJ b:=rfl
@[go_sem] theorem pickV_or (b c:Bool):ZgR (.d (.bool true)) (ZhI (nb b) (.d (.bool c))) (.d (.bool b))=QJ (.d (.bool (b || c))):=by cases b<;>rfl
@[go_sem] theorem pickV_and (b c:Bool):ZgR (ZhI b (.d (.bool c))) (.d (.bool false)) (.d (.bool b))=QJ (.d (.bool (b&&c))):=by cases b<;>rfl
theorem ZBs (a b:AV) (t:Bool):ZgR a b (.d (.bool t))=if t=true then QJ a else QJ b:=by cases t<;>rfl
@[go_sem] theorem dec_or (p q:Prop) [Decidable p] [Decidable q]:(decide p || decide q)=decide (p∨q):=by simp
@[go_sem] theorem dec_and (p q:Prop) [Decidable p] [Decidable q]:(decide p&&decide q)=decide (p∧q):=by simp
@[go_sem] theorem dec_not (p:Prop) [Decidable p]:(!decide p)=decide (¬p):=by simp
attribute [go_sem] Bool.or_eq_false_iff decide_eq_true_eq decide_eq_false_iff_not Bool.and_eq_true Bool.or_eq_true Bool.not_eq_true' Bool.not_eq_false' not_or Decidable.not_not
@[go_sem] theorem evO_t (sl:Sl) (n:Nat):evO sl (.t n)=gs sl n:=rfl
@[go_sem] theorem evO_v (sl:Sl) (a:AV):evO sl (.v a)=a:=rfl
@[go_sem] theorem evO_f (sl:Sl) (n:Nat):evO sl (.f n)=.clo n []:=rfl
@[go_sem] theorem gs_hit (k:Nat) (v:AV) (r:Sl):gs ((k,v) :: r) k=v:=by simp[gs,lkp,Zc3]
@[go_sem] theorem gs_cons (k t:Nat) (v:AV) (r:Sl):gs ((k,v) :: r) t=if k=t then v else gs r t:=by
 by_cases h:k=t<;>simp[gs,lkp,h,Zc3]
@[go_sem] theorem gs_nil (t:Nat):gs [] t=.junk:=rfl
attribute [go_sem] Zex.eq_1 Zex.eq_2
attribute [go_sem] Ji.eq_1 Ji.eq_2 Ji.eq_3 Ji.eq_4
attribute [go_sem] Zkt.eq_1 Zkt.eq_2 Zkt.eq_3 Zkt.eq_4
attribute [go_sem] JA.eq_1 JA.eq_2
attribute [go_sem] St.hp.eq_1
attribute [go_sem] Zcn.eq_1 Zcn.eq_2 Zcn.eq_3
attribute [go_sem] Zc3.eq_1 Zc3.eq_2
attribute [go_sem] agg2.eq_1 agg2.eq_2 agg2.eq_3
attribute [go_sem] ins.eq_1 ins.eq_2
attribute [go_sem] Zey.eq_1 Zey.eq_2
attribute [go_sem] XA.eq_1 XA.eq_2 XA.eq_3
attribute [go_sem] St.m.eq_1
attribute [go_sem] bnd.eq_1 bnd.eq_2
attribute [go_sem] Wy.eq_1 Wy.eq_2 Wy.eq_3
attribute [go_sem] ZtI.eq_1 ZtI.eq_2 ZtI.eq_3 ZtI.eq_4
attribute [go_sem] AV.cells.eq_1 AV.cells.eq_2 AV.cells.eq_3 AV.cells.eq_4 AV.cells.eq_5 AV.cells.eq_6 AV.cells.eq_7 AV.cells.eq_8 AV.cells.eq_9 AV.cells.eq_10 AV.cells.eq_11 AV.cells.eq_12 AV.cells.eq_13 AV.cells.eq_14 AV.cells.eq_15
attribute [go_sem] Qa.eq_1 Qa.eq_2 Qa.eq_3 Qa.eq_4 Qa.eq_5 Qa.eq_6
attribute [go_sem] AV.solid.eq_1 AV.solid.eq_2 AV.solid.eq_3 AV.solid.eq_4
attribute [go_sem] VE.eq_1 VE.eq_2
attribute [go_sem] Qr.eq_1 Qr.eq_2
attribute [go_sem] XM.eq_1 XM.eq_2
attribute [go_sem] Jh.eq_1
attribute [go_sem] Zc5.eq_1 Zc5.eq_2 Zc5.eq_3 Zc5.eq_4 Zc5.eq_5
attribute [go_sem] V7.eq_1 V7.eq_2
attribute [go_sem] D.flat.eq_1
attribute [go_sem] give.eq_1 give.eq_2
attribute [go_sem] D.beq1.eq_1 D.beq1.eq_2 D.beq1.eq_3 D.beq1.eq_4
attribute [go_sem] Zez.eq_1 Zez.eq_2 Zez.eq_3 Zez.eq_4 Zez.eq_5 Zez.eq_6
attribute [go_sem] not1.eq_1 not1.eq_2
attribute [go_sem] Q8.eq_1 Q8.eq_2 Q8.eq_3 Q8.eq_4
attribute [go_sem] St.nx.eq_1
attribute [go_sem] Zz.eq_1 Zz.eq_2 Zz.eq_3
attribute [go_sem] Zdy.eq_1 Zdy.eq_2 Zdy.eq_3
attribute [go_sem] Zku.eq_1 Zku.eq_2
attribute [go_sem] vun.eq_1 vun.eq_2 vun.eq_3
attribute [go_sem] toD.eq_1 toD.eq_2
attribute [go_sem] Zl.eq_1 Zl.eq_2 Zl.eq_3 Zl.eq_4 Zl.eq_5 Zl.eq_6 Zl.eq_7 Zl.eq_8 Zl.eq_9 Zl.eq_10 Zl.eq_11 Zl.eq_12 Zl.eq_13 Zl.eq_14 Zl.eq_15
attribute [go_sem] D.plain.eq_1 D.plain.eq_2 D.plain.eq_3 D.plain.eq_4 D.plain.eq_5
attribute [go_sem] Zv.eq_1
attribute [go_sem] ZR.eq_1 ZR.eq_2 ZR.eq_3
attribute [go_sem] W7.eq_1 W7.eq_2
attribute [go_sem] Zx.eq_1 Zx.eq_2
attribute [go_sem] Zu5.eq_1
attribute [go_sem] ZlB.eq_1 ZlB.eq_2
attribute [go_sem] ZaO.eq_1 ZaO.eq_2 ZaO.eq_3 ZaO.eq_4
attribute [go_sem] St.sl.eq_1
attribute [go_sem] ZwQ.eq_1 ZwQ.eq_2
attribute [go_sem] Wz.eq_1 Wz.eq_2
attribute [go_sem] Zc4.eq_1 Zc4.eq_2
attribute [go_sem] ren.eq_1 ren.eq_2
attribute [go_sem] kill.eq_1 kill.eq_2
attribute [go_sem] lkp.eq_1 lkp.eq_2
attribute [go_sem] Zq7.eq_1 Zq7.eq_2 Zq7.eq_3
attribute [go_sem] Xw.eq_1 Xw.eq_2
attribute [go_sem] beqL.eq_1 beqL.eq_2 beqL.eq_3
attribute [go_sem] D.cells.eq_1 D.cells.eq_2 D.cells.eq_3 D.cells.eq_4 D.cells.eq_5
attribute [go_sem] ZoN.eq_1 ZoN.eq_2
attribute [go_sem] Zq6.eq_1 Zq6.eq_2
attribute [go_sem] neg1.eq_1 neg1.eq_2
attribute [go_sem] ZlC.eq_1 ZlC.eq_2 ZlC.eq_3
attribute [go_sem] ZoO.eq_1 ZoO.eq_2
attribute [go_sem] Y4.eq_1 Y4.eq_2 Y4.eq_3
attribute [go_sem] asD.eq_1
attribute [go_sem] Ud.eq_1 Ud.eq_2 Ud.eq_3 Ud.eq_4 Ud.eq_5 Ud.eq_6 Ud.eq_7 Ud.eq_8 Ud.eq_9 Ud.eq_10 Ud.eq_11 Ud.eq_12 Ud.eq_13 Ud.eq_14 Ud.eq_15 Ud.eq_16 Ud.eq_17
attribute [go_sem] ZhH.eq_1 ZhH.eq_2 ZhH.eq_3 ZhH.eq_4 ZhH.eq_5
attribute [go_sem] D.one.eq_1 D.one.eq_2 D.one.eq_3 D.one.eq_4 D.one.eq_5
attribute [go_sem] freeze.eq_1 freeze.eq_2
attribute [go_sem] ZbR.eq_1
attribute [go_sem] loOf.eq_1 loOf.eq_2
attribute [go_sem] Eff.on.eq_1
attribute [go_sem] appT.eq_1
attribute [go_sem] Zae.eq_1 Zae.eq_2
attribute [go_sem] cloV.eq_1
attribute [go_sem] slice0.eq_1 slice0.eq_2
attribute [go_sem] evM.eq_1 evM.eq_2
attribute [go_sem] Jp.eq_1 Jp.eq_2
attribute [go_sem] hiOf.eq_1 hiOf.eq_2
attribute [go_sem] ZkR.eq_1 ZkR.eq_2 ZkR.eq_3
attribute [go_sem] Zwt.eq_1
attribute [go_sem] idx.eq_1 idx.eq_2
attribute [go_sem] Vx.eq_1 Vx.eq_2 Vx.eq_3 Vx.eq_4 Vx.eq_5
attribute [go_sem] JG.eq_1 JG.eq_2 JG.eq_3
attribute [go_sem] Qc.eq_1 Qc.eq_2
attribute [go_sem] D.notSl.eq_1 D.notSl.eq_2
attribute [go_sem] ZyT.eq_1 ZyT.eq_2
attribute [go_sem] ZbV.eq_1 ZbV.eq_2 ZbV.eq_3 ZbV.eq_4 ZbV.eq_5 ZbV.eq_6
attribute [go_sem] W9.eq_1 W9.eq_2 W9.eq_3
attribute [go_sem] CO.guard.eq_1
attribute [go_sem] ZfD.eq_1
attribute [go_sem] Zay.eq_1
attribute [go_sem] ZbS.eq_1 ZbS.eq_2 ZbS.eq_3
attribute [go_sem] ZkN.eq_1
attribute [go_sem] Eff.adds.eq_1
attribute [go_sem] Zm4.eq_1 Zm4.eq_2
attribute [go_sem] VH.eq_1 VH.eq_2
attribute [go_sem] Zh.eq_1 Zh.eq_2
attribute [go_sem] Ze.eff.eq_1
attribute [go_sem] ZgO.eq_1 ZgO.eq_2
attribute [go_sem] Zvt.eq_1 Zvt.eq_2
attribute [go_sem] ZlQ.eq_1 ZlQ.eq_2 ZlQ.eq_3
attribute [go_sem] del.eq_1 del.eq_2
attribute [go_sem] Zpu.eq_1
attribute [go_sem] ZsJ.eq_1 ZsJ.eq_2
attribute [go_sem] JX.eq_1 JX.eq_2
attribute [go_sem] Zm6.eq_1 Zm6.eq_2
attribute [go_sem] D.isAgg.eq_1 D.isAgg.eq_2
attribute [go_sem] JY.eq_1 JY.eq_2 JY.eq_3 JY.eq_4 JY.eq_5
attribute [go_sem] ZgS.eq_1
attribute [go_sem] slice3.eq_1
attribute [go_sem] ZbU.eq_1 ZbU.eq_2
attribute [go_sem] args.eq_1 args.eq_2
attribute [go_sem] Zm5.eq_1 Zm5.eq_2
attribute [go_sem] ZeK.eq_1
attribute [go_sem] ZkO.eq_1 ZkO.eq_2
attribute [go_sem] Js.eq_1
attribute [go_sem] evL.eq_1 evL.eq_2
attribute [go_sem] ZlR.eq_1 ZlR.eq_2 ZlR.eq_3
attribute [go_sem] Jo.eq_1 Jo.eq_2 Jo.eq_3
attribute [go_sem] Zc8.eq_1 Zc8.eq_2
attribute [go_sem] Zpr.eq_1 Zpr.eq_2
attribute [go_sem] Eff.sets.eq_1
attribute [go_sem] Zc9.eq_1 Zc9.eq_2 Zc9.eq_3
attribute [go_sem] ZkM.eq_1 ZkM.eq_2
attribute [go_sem] ZkQ.eq_1 ZkQ.eq_2
attribute [go_sem] ZaH.eq_1 ZaH.eq_2 ZaH.eq_3
attribute [go_sem] Zxs.eq_1
attribute [go_sem] makeT.eq_1
attribute [go_sem] Y6.eq_1 Y6.eq_2
attribute [go_sem] ZyU.eq_1 ZyU.eq_2
attribute [go_sem] Zps.eq_1 Zps.eq_2
attribute [go_sem] ZbZ.eq_1 ZbZ.eq_2
attribute [go_sem] Zrz.eq_1
attribute [go_sem] ZbY.eq_1 ZbY.eq_2
attribute [go_sem] AV.atom.eq_1 AV.atom.eq_2 AV.atom.eq_3 AV.atom.eq_4 AV.atom.eq_5
attribute [go_sem] Eff.dels.eq_1
attribute [go_sem] Zct.eq_1 Zct.eq_2 Zct.eq_3
attribute [go_sem] mat.eq_1 mat.eq_2 mat.eq_3
attribute [go_sem] ZI.eq_1
attribute [go_sem] ZbX.eq_1 ZbX.eq_2
attribute [go_sem] ZsM.eq_1
attribute [go_sem] Zxq.eq_1
attribute [go_sem] Zcv.eq_1 Zcv.eq_2
attribute [go_sem] Jq.eq_1
attribute [go_sem] Qt.eq_1 Qt.eq_2 Qt.eq_3 Qt.eq_4
attribute [go_sem] Zxr.eq_1
attribute [go_sem] ZgL.eq_1 ZgL.eq_2
attribute [go_sem] ZlS.eq_1 ZlS.eq_2
attribute [go_sem] Zuq.eq_1 Zuq.eq_2
attribute [go_sem] ZiO.eq_1 ZiO.eq_2 ZiO.eq_3 ZiO.eq_4
attribute [go_sem] Zjq.eq_1 Zjq.eq_2
attribute [go_sem] ZeI.eq_1 ZeI.eq_2
attribute [go_sem] ZgN.eq_1 ZgN.eq_2 ZgN.eq_3 ZgN.eq_4 ZgN.eq_5
attribute [go_sem] ZsK.eq_1 ZsK.eq_2
attribute [go_sem] Zpt.eq_1
attribute [go_sem] convS.eq_1 convS.eq_2
attribute [go_sem] ZkP.eq_1 ZkP.eq_2
attribute [go_sem] CO.tl.eq_1
attribute [go_sem] ZgP.eq_1 ZgP.eq_2 ZgP.eq_3 ZgP.eq_4
attribute [go_sem] CO.dst.eq_1
attribute [go_sem] teOf.eq_1
attribute [go_sem] Zvu.eq_1 Zvu.eq_2 Zvu.eq_3
attribute [go_sem] ZsL.eq_1
attribute [go_sem] Zul.eq_1 Zul.eq_2
attribute [go_sem] Zum.eq_1
attribute [go_sem] Eff.val.eq_1
attribute [go_sem] sliceS.eq_1 sliceS.eq_2
attribute [go_sem] Yw.eq_1 Yw.eq_2 Yw.eq_3
attribute [go_sem] ZgM.eq_1 ZgM.eq_2 ZgM.eq_3 ZgM.eq_4
attribute [go_sem] Jn.eq_1
attribute [go_sem] buildSl.eq_1 buildSl.eq_2
attribute [go_sem] W2.eq_1 W2.eq_2 W2.eq_3 W2.eq_4
attribute [go_sem] JB.eq_1 JB.eq_2 JB.eq_3 JB.eq_4 JB.eq_5
attribute [go_sem] Zm3.eq_1 Zm3.eq_2
attribute [go_sem] Zpx.eq_1
attribute [go_sem] evP.eq_1 evP.eq_2
attribute [go_sem] ZkS.eq_1 ZkS.eq_2
attribute [go_sem] Zcu.eq_1
attribute [go_sem] Zhq.eq_1
attribute [go_sem] Zry.eq_1 Zry.eq_2
attribute [go_sem] Zpw.eq_1
attribute [go_sem] We.eq_1
attribute [go_sem] Zup.eq_1
attribute [go_sem] bnT.eq_1 bnT.eq_2
attribute [go_sem] ZbT.eq_1 ZbT.eq_2
attribute [go_sem] Wd.eq_1 Wd.eq_2
attribute [go_sem] Jr.eq_1 Jr.eq_2
attribute [go_sem] asgT.eq_1 asgT.eq_2
attribute [go_sem] ZlT.eq_1 ZlT.eq_2
attribute [go_sem] Zdb.eq_1 Zdb.eq_2
attribute [go_sem] ZgQ.eq_1 ZgQ.eq_2 ZgQ.eq_3 ZgQ.eq_4
attribute [go_sem] Zuj.eq_1 Zuj.eq_2
attribute [go_sem] CO.op.eq_1
attribute [go_sem] ZeL.eq_1 ZeL.eq_2
attribute [go_sem] ZeH.eq_1 ZeH.eq_2
attribute [go_sem] Zxp.eq_1 Zxp.eq_2
attribute [go_sem] Zhr.eq_1 Zhr.eq_2 Zhr.eq_3
attribute [go_sem] Zun.eq_1 Zun.eq_2
attribute [go_sem] Zjr.eq_1 Zjr.eq_2
attribute [go_sem] ZeJ.eq_1 ZeJ.eq_2
attribute [go_sem] Zcc.eq_1 Zcc.eq_2 Zcc.eq_3 Zcc.eq_4 Zcc.eq_5 Zcc.eq_6 Zcc.eq_7 Zcc.eq_8 Zcc.eq_9 Zcc.eq_10
attribute [go_sem] Zaz.eq_1
attribute [go_sem] Wf.eq_1 Wf.eq_2 Wf.eq_3 Wf.eq_4
attribute [go_sem] Eff.frz.eq_1
attribute [go_sem] buildT.eq_1
attribute [go_sem] Qi.eq_1 Qi.eq_2
attribute [go_sem] Zhp.eq_1 Zhp.eq_2
attribute [go_sem] Ze.gone.eq_1
attribute [go_sem] meltIn.eq_1 meltIn.eq_2
attribute [go_sem] ZiP.eq_1
attribute [go_sem] Zuk.eq_1 Zuk.eq_2
attribute [go_sem] convI.eq_1 convI.eq_2
attribute [go_sem] ZnU.eq_1 ZnU.eq_2
attribute [go_sem] Za3.eq_1 Za3.eq_2 Za3.eq_3
attribute [go_sem] bd.eq_1
attribute [go_sem] ZbW.eq_1 ZbW.eq_2
attribute [go_sem] XC.eq_1
attribute [go_sem] ZsN.eq_1 ZsN.eq_2
attribute [go_sem] Zhs.eq_1
attribute [go_sem] XN.eq_1 XN.eq_2
attribute [go_sem] Zwz.eq_1 Zwz.eq_2
attribute [go_sem] ZE.eq_1 ZE.eq_2 ZE.eq_3 ZE.eq_4 ZE.eq_5 ZE.eq_6 ZE.eq_7 ZE.eq_8 ZE.eq_9 ZE.eq_10 ZE.eq_11 ZE.eq_12 ZE.eq_13 ZE.eq_14 ZE.eq_15 ZE.eq_16 ZE.eq_17 ZE.eq_18 ZE.eq_19 ZE.eq_20 ZE.eq_21 ZE.eq_22 ZE.eq_23 ZE.eq_24 ZE.eq_25 ZE.eq_26 ZE.eq_27 ZE.eq_28 ZE.eq_29 ZE.eq_30 ZE.eq_31 ZE.eq_32 ZE.eq_33 ZE.eq_34 ZE.eq_35 ZE.eq_36 ZE.eq_37 ZE.eq_38 ZE.eq_39 ZE.eq_40
attribute [go_sem] Ug.eq_1 Ug.eq_2 Ug.eq_3 Ug.eq_4 Ug.eq_5
attribute [go_sem] ZgY.eq_1
attribute [go_sem] ZsY.eq_1 ZsY.eq_2
attribute [go_sem] Zb8.eq_1 Zb8.eq_2
attribute [go_sem] ZeX.eq_1
attribute [go_sem] Zde.eq_1 Zde.eq_2 Zde.eq_3 Zde.eq_4 Zde.eq_5
attribute [go_sem] Ua.eq_1 Ua.eq_2
attribute [go_sem] Zna.eq_1 Zna.eq_2
attribute [go_sem] ZxA.eq_1 ZxA.eq_2
attribute [go_sem] ZrE.eq_1 ZrE.eq_2
attribute [go_sem] QW.eq_1 QW.eq_2
attribute [go_sem] only.eq_1 only.eq_2
attribute [go_sem] ZvJ.eq_1 ZvJ.eq_2
attribute [go_sem] ZgV.eq_1 ZgV.eq_2
attribute [go_sem] VM.eq_1 VM.eq_2
attribute [go_sem] okL.eq_1 okL.eq_2
attribute [go_sem] okC.eq_1 okC.eq_2 okC.eq_3 okC.eq_4 okC.eq_5 okC.eq_6 okC.eq_7 okC.eq_8 okC.eq_9 okC.eq_10
attribute [go_sem] ZnW.eq_1 ZnW.eq_2
attribute [go_sem] ZaK.eq_1 ZaK.eq_2
attribute [go_sem] ZeT.eq_1 ZeT.eq_2 ZeT.eq_3
attribute [go_sem] ZhA.eq_1 ZhA.eq_2
attribute [go_sem] ZgX.eq_1 ZgX.eq_2
attribute [go_sem] QL.eq_1 QL.eq_2
attribute [go_sem] Zp.eq_1 Zp.eq_2
attribute [go_sem] Ve.eq_1 Ve.eq_2 Ve.eq_3
attribute [go_sem] Zk1.eq_1
attribute [go_sem] Wh.eq_1 Wh.eq_2
attribute [go_sem] ZsZ.eq_1 ZsZ.eq_2
attribute [go_sem] CO.starts.eq_1
attribute [go_sem] VL.eq_1 VL.eq_2
attribute [go_sem] QP.eq_1 QP.eq_2
attribute [go_sem] Zwy.eq_1 Zwy.eq_2
attribute [go_sem] Zl6.eq_1
attribute [go_sem] ZpP.eq_1 ZpP.eq_2 ZpP.eq_3
attribute [go_sem] ZeV.eq_1 ZeV.eq_2
attribute [go_sem] WB.eq_1 WB.eq_2
attribute [go_sem] Zdf.eq_1
attribute [go_sem] ZpQ.eq_1 ZpQ.eq_2
attribute [go_sem] Zwx.eq_1
attribute [go_sem] Zq.body.eq_1
attribute [go_sem] Zk2.eq_1
attribute [go_sem] Zjz.eq_1 Zjz.eq_2
attribute [go_sem] Jx.eq_1 Jx.eq_2 Jx.eq_3 Jx.eq_4 Jx.eq_5
attribute [go_sem] Zq.res.eq_1
attribute [go_sem] YO.eq_1 YO.eq_2
attribute [go_sem] Yl.eq_1 Yl.eq_2 Yl.eq_3 Yl.eq_4 Yl.eq_5 Yl.eq_6 Yl.eq_7 Yl.eq_8 Yl.eq_9 Yl.eq_10 Yl.eq_11 Yl.eq_12
attribute [go_sem] ZpR.eq_1 ZpR.eq_2
attribute [go_sem] Vd.eq_1 Vd.eq_2
attribute [go_sem] Zq.nt.eq_1
attribute [go_sem] okD.eq_1 okD.eq_2
attribute [go_sem] ZsN.eq_1 JB.eq_1 JB.eq_2 JB.eq_3 JB.eq_4
attribute [go_sem] Uz.eq_1 Zb5.eq_1 Zb5.eq_2 Zb5.eq_3 Zb5.eq_4 Zb5.eq_5 Zb5.eq_6 Zb5.eq_7 Zb5.eq_8 Zb5.eq_9 Zb5.eq_10 Wi.eq_1
attribute [go_sem] QQ.eq_3 XF.eq_1 AV.atom.eq_1 AV.atom.eq_2 AV.atom.eq_3 AV.atom.eq_4
attribute [go_sem] ZqL.eq_1 ZqL.eq_2 ZiM.eq_1 ZiM.eq_2
attribute [go_sem] Zg Zyx ZzS
attribute [go_sem] List.map_cons List.map_nil List.flatMap_cons List.flatMap_nil List.append_nil List.nil_append List.cons_append List.length_cons List.length_nil List.all_cons List.all_nil List.any_cons List.any_nil List.contains_cons List.contains_nil List.filter_cons List.filter_nil List.drop_zero List.drop_succ_cons List.drop_nil List.take_zero List.take_succ_cons List.take_nil List.getElem?_cons_zero List.getElem?_cons_succ List.getElem?_nil Option.map_some Option.map_none Bool.and_true Bool.true_and Bool.and_false Bool.false_and Bool.or_true Bool.true_or Bool.or_false Bool.false_or Bool.not_true Bool.not_false decide_true decide_false and_true true_and and_false false_and not_true not_false_eq_true or_true true_or or_false false_or if_true if_false true_implies false_implies implies_true imp_self eq_self ne_eq beq_self_eq_true Bool.true_eq_false Bool.false_eq_true List.isEmpty_nil List.isEmpty_cons List.range_zero List.set_cons_zero List.set_cons_succ Option.some.injEq reduceCtorEq Nat.reduceLeDiff
def Zpn (hp:Hp):List Nat→List Nat
 | []=>[]
 | i :: r=>if ZgP (lkp hp i)=true then i :: Zpn hp r else Zpn hp r
theorem gE (hp:Hp) (ids:List Nat):(ids.filter fun i=>ZgP (lkp hp i))=Zpn hp ids:=by
 induction ids with
 | nil=>rfl
 | cons i r ih=>simp only[List.filter_cons,Zpn,ih]
def Zrq (hp:Hp) (rs:List Nat):List Nat→Bool
 | []=>true
 | i :: r=>(ZgP (lkp hp i) || rs.contains i)&&Zrq hp rs r
def Zrr (hp:Hp):List Nat→Bool
 | []=>false
 | i :: r=>ZbY (lkp hp i) || Zrr hp r
theorem gG (hp:Hp) (ids:List Nat):(ids.any fun i=>ZbY (lkp hp i))=Zrr hp ids:=by
 induction ids with
 | nil=>rfl
 | cons i r ih=>simp only[List.any_cons,Zrr,ih]
attribute [go_sem] Zrr.eq_1 Zrr.eq_2
@[go_sem] theorem appV_eq (hp:Hp) (s b:Nat) (str flat:Bool) (base:Nat) (x y:AV):Zuo hp s b str flat base x y=Zda hp s b str flat base x y (XG hp x) (XG hp y):=rfl
attribute [go_sem] Zda.eq_1 Zda.eq_2 Zda.eq_3
@[go_sem] theorem treeId_d (hp:Hp) (x:D):XG hp (.d x)=[]:=rfl
@[go_sem] theorem ZBt (hp:Hp):XG hp .nil=[]:=rfl
@[go_sem] theorem ZAT (hp:Hp) (k o n:Nat):XG hp (.ownv k o n)=[]:=rfl
@[go_sem] theorem ZBu (hp:Hp) (k:Nat):XG hp (.own k)=if ZbY (lkp hp k)=true then [k] else []:=rfl
@[go_sem] theorem noKeep_0 (M:Zm) (f:Nat):Yx M f 0=M f 0:=rfl
@[go_sem] theorem noKeep_1 (M:Zm) (f:Nat):Yx M f 1=M f 1:=rfl
@[go_sem] theorem noKeep_2 (M:Zm) (f:Nat):Yx M f 2=M f 2:=rfl
@[go_sem] theorem noKeep_3 (M:Zm) (f:Nat):Yx M f 3=M f 3:=rfl
@[go_sem] theorem noKeep_4 (M:Zm) (f:Nat):Yx M f 4=M f 4:=rfl
@[go_sem] theorem noKeep_5 (M:Zm) (f:Nat):Yx M f 5=M f 5:=rfl
@[go_sem] theorem noKeep_6 (M:Zm) (f:Nat):Yx M f 6=M f 6:=rfl
@[go_sem] theorem noKeep_99 (M:Zm) (f:Nat):Yx M f 99=false:=rfl
theorem gF (hp:Hp) (rs ids:List Nat):Za2 hp rs ids=Zrq hp rs ids:=by
 induction ids with
 | nil=>rfl
 | cons i r ih=>simp only[Za2,Ly,Zrq] at ih ⊢;rw[ih]
attribute [go_sem] Zpn.eq_1 Zpn.eq_2 Zrq.eq_1 Zrq.eq_2
@[go_sem] theorem okV_d (x:D):okV (.d x)=true:=rfl
@[go_sem] theorem okV_nil:okV .nil=true:=rfl
@[go_sem] theorem okV_nilp:okV .nilp=true:=rfl
@[go_sem] theorem okV_nili:okV .nili=true:=rfl
@[go_sem] theorem okV_ptr (a b:Nat):okV (.ptr a b)=true:=rfl
@[go_sem] theorem okV_prow (a b c e:Nat):okV (.prow a b c e)=true:=rfl
@[go_sem] theorem okV_pim (cs:List D):okV (.pim cs)=true:=rfl
@[go_sem] theorem okV_own (a:Nat):okV (.own a)=true:=rfl
@[go_sem] theorem okV_ownv (a b c:Nat):okV (.ownv a b c)=true:=rfl
@[go_sem] theorem okV_agg (cs:List AV):okV (.agg cs)=ZsY cs:=rfl
@[go_sem] theorem okV_tup0:okV (.tup [])=true:=rfl
@[go_sem] theorem ZBv (sl:Sl) (a:COp) (x y:Nat) (v:AV):Vz sl a (.ptr x y) v=true:=rfl
@[go_sem] theorem seenIn_d (sl:Sl) (a:COp) (x y z t:Nat) (v:D):Vz sl a (.prow x y z t) (.d v)=true:=rfl
@[go_sem] theorem ZBw (sl:Sl) (a:COp) (x y z t:Nat) (v:List AV):Vz sl a (.prow x y z t) (.agg v)=(okV (.agg v)&&XN sl (ZE a) (Zx (.agg v))):=rfl
@[go_sem] theorem ZBx (sl:Sl) (a:COp) (x y z t:Nat) (k:Nat):Vz sl a (.prow x y z t) (.own k)=(okV (.own k)&&XN sl (ZE a) (Zx (.own k))):=rfl
@[go_sem] theorem ZBy (sl:Sl) (a:COp) (x y z t:Nat):Vz sl a (.prow x y z t) .nil=(okV .nil&&XN sl (ZE a) (Zx .nil)):=rfl
@[go_sem] theorem ZAU (sl:Sl) (a:COp) (x y z t:Nat):Vz sl a (.prow x y z t) .nilp=(okV .nilp&&XN sl (ZE a) (Zx .nilp)):=rfl
@[go_sem] theorem ZAV (sl:Sl) (a:COp) (x y z t:Nat) (k m n:Nat):Vz sl a (.prow x y z t) (.ownv k m n)=(okV (.ownv k m n)&&XN sl (ZE a) (Zx (.ownv k m n))):=rfl
@[go_sem] theorem ZAW (sl:Sl) (a:COp) (k:Nat):seenSrc sl a (.own k)=QL sl k (ZE a):=rfl
@[go_sem] theorem seenSrc_d (sl:Sl) (a:COp) (x:D):seenSrc sl a (.d x)=true:=rfl
@[go_sem] theorem ZAX (sl:Sl) (a:COp):seenSrc sl a .nil=true:=rfl
@[go_sem] theorem ZAg (sl:Sl) (a:COp) (x y z:Nat):seenSrc sl a (.ownv x y z)=true:=rfl
@[go_sem] theorem okV_iteV (b:Bool) (v:AV):okV (ZhI b v)=(!b || okV v):=by cases b<;>simp[ZhI,okV]
@[go_sem] theorem awayV_d (sl:Sl) (xs:List Opd) (x:D):Zb6 sl xs (.d x)=true:=rfl
@[go_sem] theorem awayV_nil (sl:Sl) (xs:List Opd):Zb6 sl xs .nil=true:=rfl
@[go_sem] theorem ZBz (sl:Sl) (xs:List Opd):Zb6 sl xs .nilp=true:=rfl
@[go_sem] theorem awayV_ptr (sl:Sl) (xs:List Opd) (k o:Nat):Zb6 sl xs (.ptr k o)=QL sl k xs:=rfl
@[go_sem] theorem awayV_pim (sl:Sl) (xs:List Opd) (cs:List D):Zb6 sl xs (.pim cs)=true:=rfl
@[go_sem] theorem awayV_own (sl:Sl) (xs:List Opd) (a:Nat):Zb6 sl xs (.own a)=true:=rfl
@[go_sem] theorem ZBA (sl:Sl) (xs:List Opd) (a b c:Nat):Zb6 sl xs (.ownv a b c)=true:=rfl
@[go_sem] theorem awayV_agg (sl:Sl) (xs:List Opd) (cs:List AV):Zb6 sl xs (.agg cs)=true:=rfl
@[go_sem] theorem awayV_tup (sl:Sl) (xs:List Opd) (cs:List AV):Zb6 sl xs (.tup cs)=true:=rfl
end Go.Abs.E
