/- Own text. -/
import Derived.Test.YtefabmohhbhlfaaAbsEval
set_option linter.unusedVariables false
set_option linter.unusedSimpArgs false
namespace Go.Abs.L
open Go Go.Abs Go.Abs.E
theorem gZ:(∀ (X:Fns) (M:Zg) (nx i:Nat) (d:Option Nat) (aa:List CO) (sl:Sl) (hp:Hp) (K:Sl→Hp→Prop) (e:Option Zb),Vz X M true nx i d aa sl hp K e=WR X M nx i d aa sl hp K e) ∧
  (∀ (X:Fns) (M:Zg) (nx i:Nat) (d:Option Nat) (aa:List CO) (sl:Sl) (hp:Hp) (K:Sl→Hp→Prop) (e:Option Zb),Vz X M false nx i d aa sl hp K e=W8 X M nx (i+1) aa (Zi sl d (.tup [])) hp K) ∧
  (∀ (X:Fns) (M:Zg) (nx i:Nat) (t:Bool) (d:Option Nat) (aa:List CO) (sl:Sl) (hp:Hp) (K:Sl→Hp→Prop) (e:Option Zb),X9 X M true nx i t d aa sl hp K e=YQ X M nx i t d aa sl hp K e) ∧
  (∀ (X:Fns) (M:Zg) (nx i:Nat) (t:Bool) (d:Option Nat) (aa:List CO) (sl:Sl) (hp:Hp) (K:Sl→Hp→Prop) (e:Option Zb),X9 X M false nx i t d aa sl hp K e=Xn X M nx (i+1) false aa (Zi sl d (.tup [])) hp K) ∧
  (∀ (hp:Hp) (ids:List Nat),(ids.filter fun i=>ZaF (lkp hp i))=Zf6 hp ids)∧(∀ (hp:Hp) (ids:List Nat),(ids.any fun i=>Uh (lkp hp i))=ZiB hp ids) ∧
  (∀ (hp:Hp) (rs ids:List Nat),WX hp rs ids=ZiA hp rs ids):=
 ⟨fun X M _ _ _ _ _ _ _ _=>gA X M ..,fun X M _ _ _ _ _ _ _ _=>gB X M ..,fun X M _ _ _ _ _ _ _ _ _=>gC X M ..,fun X M _ _ _ _ _ _ _ _ _=>gD X M ..,gE,gG,gF⟩
theorem cE {X:Fns} {M:Zg} {f:Nat} {xs:List AV} {h:List Zh} {fn:Qo} {r:AV×List Zh} (hr:W X M fn.body { sl:=Yi 0 xs,hp:=Yu 0 h,nx:=h.length,m:=h.length } (ZjI h.length fn.res fun q=>q=r)) (hx:X f=some (.text fn):=by exact rfl) (hl:xs.length≤fn.nt:=by exact Nat.le_of_ble_eq_true rfl):Zu X M f xs h=some r:=callE X M fn hx hl hr
theorem cW {X:Fns} {M:Zg} {f:Nat} {xs:List AV} {h:List Zh} {fn:Qo} {R:AV×List Zh→Prop} (hr:W X M fn.body { sl:=Yi 0 xs,hp:=Yu 0 h,nx:=h.length,m:=h.length } (ZjI h.length fn.res R)) (hx:X f=some (.text fn):=by exact rfl) (hl:xs.length≤fn.nt:=by exact Nat.le_of_ble_eq_true rfl):∃ r,Zu X M f xs h=some r∧R r:=ZoW X M fn hx hl hr
theorem LO {X:Fns} {M:Zg} {α:Type} (u:α→Sl) (uh:α→Hp) (I:α→Prop) (μ:α→Nat) (a:α) {c:ZC} {K:List Nat} {Q:Ex→St→Prop} {st st0:St} (ha:I a)
  (step:∀ a,I a→(∀ b st,I b→μ b<μ a→Vl K st=⟨ZhV st0.sl (u b),ZbQ st0.hp (uh b),st0.nx,st0.m⟩→LW X M c K st Q)→W X M c ⟨ZhV st0.sl (u a),ZbQ st0.hp (uh a),st0.nx,st0.m⟩ (Zf5 X M c K Q))
  (hc:Vl K st=st0:=by simp +contextual -implicitDefEqProofs (maxSteps:=10^7) only[go_sem,seval,↓gZ]<;>exact rfl) (h0:(⟨ZhV st0.sl (u a),ZbQ st0.hp (uh a),st0.nx,st0.m⟩:St)=st0:=by exact rfl):LW X M c K st Q:=Ya X M u uh I μ a hc ha h0 step
theorem Xt {x:Int} (h1 : -9223372036854775808≤x) (h2:x<9223372036854775808):IntKind.i64.wrap x=x:=by
 unfold IntKind.wrap;simp only[IntKind.bits,IntKind.signed];simp;split<;>omega
theorem ZE {k:Nat} (h:k<4611686018427387904):IntKind.i64.wrap ((k:Int)+1)=((k+1:Nat):Int):=by
 rw[Xt (by omega) (by omega)];omega
@[go_sem] theorem wrap_0:IntKind.i64.wrap 0=0:=Xt (by omega) (by omega)
@[go_sem] theorem wrap_1:IntKind.i64.wrap 1=1:=Xt (by omega) (by omega)
@[go_sem] theorem wrap_2:IntKind.i64.wrap 2=2:=Xt (by omega) (by omega)
@[go_sem] theorem wrap_3:IntKind.i64.wrap 3=3:=Xt (by omega) (by omega)
def R64 (x:Int):Prop:=-9223372036854775808≤x∧x<9223372036854775808
theorem wi (x:Int) : -9223372036854775808≤x→x<9223372036854775808→IntKind.i64.wrap x=x:=fun h1 h2=>Xt h1 h2
theorem ZmW {p q:Prop} [Decidable p] [Decidable q] {h:List Zh} (e:p↔q):((AV.d (.bool (decide p)),h):AV×List Zh)=(AV.d (.bool (decide q)),h):=by
 have:decide p=decide q:=decide_eq_decide.2 e;rw[this]
theorem fin_t {q:Prop} [Decidable q] {h:List Zh} (e:q):((AV.d (.bool true),h):AV×List Zh)=(AV.d (.bool (decide q)),h):=by simp[e]
theorem ZoX {q:Prop} [Decidable q] {h:List Zh} (e:¬q):((AV.d (.bool false),h):AV×List Zh)=(AV.d (.bool (decide q)),h):=by simp[e]
structure Box where
 X:Int
 Y:Int
 W:Int
 H:Int
deriving DecidableEq,Inhabited
structure Pane where
 W:Int
 H:Int
 Turns:Bool
 Kind:Int
deriving DecidableEq,Inhabited
structure Zb9 where
 Pane:Pane
 Count:Int
deriving DecidableEq,Inhabited
structure ZM where
 W:Int
 H:Int
 Panes:List Pane
deriving DecidableEq,Inhabited
inductive Zs where
 | mk (Op At Pane:Int) (Turned:Bool) (Kids:List Zs)
structure Place where
 Pane:Int
 Turned:Bool
 Box:Box
deriving DecidableEq,Inhabited
structure XN where
 Label:Int
 W:Int
 H:Int
 Flaws:List Box
deriving DecidableEq,Inhabited
structure ZlV where
 Stock:List XN
 Opn:List Zb9
 Done:List Zb9
 Lost:Int
 Came:Int
deriving DecidableEq,Inhabited
abbrev i64 (n:Int):D:=.int .i64 n
abbrev J (n:Int):D:=.int .i64 n
@[go_sem] def Box.enc (b:Box):D:=.agg [.int .i64 b.X,.int .i64 b.Y,.int .i64 b.W,.int .i64 b.H]
@[go_sem] def Pane.enc (p:Pane):D:=.agg [.int .i64 p.W,.int .i64 p.H,.bool p.Turns,.int .i64 p.Kind]
@[go_sem] def Zb9.enc (l:Zb9):D:=.agg [.int .i64 l.Pane.W,.int .i64 l.Pane.H,.bool l.Pane.Turns,.int .i64 l.Pane.Kind,.int .i64 l.Count]
@[go_sem] def ZM.enc (k:ZM):D:=.agg [.int .i64 k.W,.int .i64 k.H,.sl (k.Panes.map Pane.enc)]
@[go_sem] def Place.enc (p:Place):D:=.agg [.int .i64 p.Pane,.bool p.Turned,.int .i64 p.Box.X,.int .i64 p.Box.Y,.int .i64 p.Box.W,.int .i64 p.Box.H]
@[go_sem] def XN.enc (p:XN):D:=.agg [.int .i64 p.Label,.int .i64 p.W,.int .i64 p.H,.sl (p.Flaws.map Box.enc)]
@[go_sem] def ZlV.enc (s:ZlV):D:=.agg [.sl (s.Stock.map XN.enc),.sl (s.Opn.map Zb9.enc),.sl (s.Done.map Zb9.enc),.int .i64 s.Lost,.int .i64 s.Came]
def Qs (n:Int):D:=.int .i64 n
attribute [go_sem] Qs
mutual
def Zs.enc:Zs→D
 | .mk o a p t ks=>.agg [.int .i64 o,.int .i64 a,.int .i64 p,.bool t,.sl (Zs.encL ks)]
def Zs.encL:List Zs→List D
 | []=>[]
 | p :: r=>Zs.enc p :: Zs.encL r
end
theorem Zs.encL_map:∀ (l:List Zs),Zs.encL l=l.map Zs.enc
 | []=>rfl
 | p :: r=>by simp[Zs.encL,Zs.encL_map r]
@[go_sem] theorem Zs.enc_mk (o a p:Int) (t:Bool) (ks:List Zs):Zs.enc (.mk o a p t ks)=.agg [.int .i64 o,.int .i64 a,.int .i64 p,.bool t,.sl (ks.map Zs.enc)]:=by
 rw[Zs.enc,Zs.encL_map]
theorem Wo {α:Type} {f:α→D} {s:Nat} (l:List α) (h:∀ x,(f x).cells.length=s):uni s (l.map f):=by
 intro y hy;obtain⟨x,_,rfl⟩:=Lc.1 hy;exact h x
theorem Jp {α:Type} {f:α→D} (l:List α) (h:∀ x,(f x).flat=true):QC (l.map f):=by
 intro y hy;obtain⟨x,_,rfl⟩:=Lc.1 hy;exact h x
def Wa (b:UInt8):D:=.int .u8 b.toNat
@[go_sem] theorem uni_encU (l:List UInt8):uni 1 (l.map Wa)=True:=eq_true (Wo l fun _=>rfl)
@[go_sem] theorem uni_encI (l:List Int):uni 1 (l.map Qs)=True:=eq_true (Wo l fun _=>rfl)
@[go_sem] theorem uni_Box (l:List Box):uni 4 (l.map Box.enc)=True:=eq_true (Wo l fun _=>rfl)
@[go_sem] theorem uni_Pane (l:List Pane):uni 4 (l.map Pane.enc)=True:=eq_true (Wo l fun _=>rfl)
@[go_sem] theorem uni_Line (l:List Zb9):uni 5 (l.map Zb9.enc)=True:=eq_true (Wo l fun _=>rfl)
@[go_sem] theorem uni_Place (l:List Place):uni 6 (l.map Place.enc)=True:=eq_true (Wo l fun _=>rfl)
@[go_sem] theorem uni_Piece (l:List XN):uni 4 (l.map XN.enc)=True:=eq_true (Wo l fun _=>rfl)
@[go_sem] theorem flat_encU (l:List UInt8):QC (l.map Wa)=True:=eq_true (Jp l fun _=>rfl)
@[go_sem] theorem flat_encI (l:List Int):QC (l.map Qs)=True:=eq_true (Jp l fun _=>rfl)
@[go_sem] theorem flat_Box (l:List Box):QC (l.map Box.enc)=True:=eq_true (Jp l fun _=>rfl)
@[go_sem] theorem flat_Pane (l:List Pane):QC (l.map Pane.enc)=True:=eq_true (Jp l fun _=>rfl)
@[go_sem] theorem flat_Line (l:List Zb9):QC (l.map Zb9.enc)=True:=eq_true (Jp l fun _=>rfl)
@[go_sem] theorem Zr0 (l:List Place):QC (l.map Place.enc)=True:=eq_true (Jp l fun _=>rfl)
@[go_sem] theorem uni_cons (s:Nat) (x:D) (l:List D):uni s (x :: l)=(x.cells.length=s∧uni s l):=by
 simp[uni]
@[go_sem] theorem uni_nil (s:Nat):uni s []=True:=by simp[uni]
@[go_sem] theorem flat_cons (x:D) (l:List D):QC (x :: l)=(x.flat=true∧QC l):=by
 simp[QC]
@[go_sem] theorem flat_nil:QC []=True:=by simp[QC]
@[go_sem] theorem take_map {α β:Type} (f:α→β) (l:List α) (i:Nat):(l.map f).take i=(l.take i).map f:=List.map_take.symm
@[go_sem] theorem drop_map {α β:Type} (f:α→β) (l:List α) (i:Nat):(l.map f).drop i=(l.drop i).map f:=List.map_drop.symm
theorem ZnX {x y:Int} (aa:0≤x) (hx:x<4611686018427387904) (ab:0≤y) (hy:y<4611686018427387904) :
  ∃ z:Int,0≤z∧z<4611686018427387904∧IntKind.i64.wrap ((BitVec.ofInt IntKind.i64.bits x ^^^ BitVec.ofInt IntKind.i64.bits y).toNat:Int)=z:=by
 have h1:(BitVec.ofInt IntKind.i64.bits x).toNat=x.toNat:=by
  simp only[IntKind.bits,BitVec.toNat_ofInt];congr 1
  omega
 have h2:(BitVec.ofInt IntKind.i64.bits y).toNat=y.toNat:=by
  simp only[IntKind.bits,BitVec.toNat_ofInt];congr 1
  omega
 rw[BitVec.toNat_xor,h1,h2];have h3:x.toNat ^^^ y.toNat<2 ^ 62:=Nat.xor_lt_two_pow (by omega) (by omega);exact⟨_,by omega,by omega,Xt (by omega) (by omega)⟩
def VB (b:Box):Prop:=1≤b.W∧b.W≤200∧1≤b.H∧b.H≤200∧0≤b.X∧b.X+b.W≤200∧0≤b.Y∧b.Y+b.H≤200
instance (b:Box):Decidable (VB b):=by unfold VB;infer_instance
def Zaz (a b:Box):Prop:=b.X≤a.X∧b.Y≤a.Y∧a.X+a.W≤b.X+b.W∧a.Y+a.H≤b.Y+b.H
instance (a b:Box):Decidable (Zaz a b):=by unfold Zaz;infer_instance
def ZkR (a b:Box):Prop:=a.X<b.X+b.W∧b.X<a.X+a.W∧a.Y<b.Y+b.H∧b.Y<a.Y+a.H
instance (a b:Box):Decidable (ZkR a b):=by unfold ZkR;infer_instance
def meetB (a b:Box):Box:=⟨max a.X b.X,max a.Y b.Y,min (a.X+a.W) (b.X+b.W)-max a.X b.X,min (a.Y+a.H) (b.Y+b.H)-max a.Y b.Y⟩
def VP (p:Pane):Prop:=1≤p.W∧p.W≤200∧1≤p.H∧p.H≤200∧0≤p.Kind∧p.Kind≤9
instance (p:Pane):Decidable (VP p):=by unfold VP;infer_instance
theorem Z1 {α:Type} {l:List α} {k:Nat} (h:k<l.length):∃ x,l[k]?=some x:=⟨l[k],by simp[h]⟩
theorem Zqs {α:Type} {a b:List α} {k:Nat} {x y:α} (hx:a[k]?=some x) (hy:b[k]?=some y) (h:a.take k=b.take k):(a.take (k+1)=b.take (k+1))↔x=y:=by
 rw[Lq,Lq,hx,hy,h];simp
attribute [go_sem] Nat.lt_irrefl Int.lt_irrefl Nat.le_refl Int.le_refl List.length_map List.getElem?_map Int.toNat_natCast List.length_append
@[go_sem] theorem app_map {α β:Type} (f:α→β) (l m:List α):l.map f++m.map f=(l++m).map f:=List.map_append.symm
@[go_sem] theorem cast0:((0:Nat):Int)=0:=rfl
@[go_sem] theorem cast1:((1:Nat):Int)=1:=rfl
@[go_sem] theorem Zr1 (n:Nat):(0≤(n:Int))=True:=by simp
@[go_sem] theorem cast_lt (a b:Nat):((a:Int)<(b:Int))=(a<b):=by simp
@[go_sem] theorem cast_le (a b:Nat):((a:Int)≤(b:Int))=(a≤b):=by simp
@[go_sem] theorem cast_eq (a b:Nat):((a:Int)=(b:Int))=(a=b):=by simp[Int.ofNat_inj]
@[go_sem] theorem Box.eta (b:Box):Box.mk b.X b.Y b.W b.H=b:=rfl
@[go_sem] theorem Pane.eta (b:Pane):Pane.mk b.W b.H b.Turns b.Kind=b:=rfl
@[go_sem] theorem Zb9.eta (b:Zb9):Zb9.mk b.Pane b.Count=b:=rfl
@[go_sem] theorem Place.eta (b:Place):Place.mk b.Pane b.Turned b.Box=b:=rfl
@[go_sem] theorem XN.eta (b:XN):XN.mk b.Label b.W b.H b.Flaws=b:=rfl
@[go_sem] theorem ZM.eta (b:ZM):ZM.mk b.W b.H b.Panes=b:=rfl
@[go_sem] theorem ZlV.eta (b:ZlV):ZlV.mk b.Stock b.Opn b.Done b.Lost b.Came=b:=rfl
end Go.Abs.L
