/- Own text. -/
import Derived.Test.YtefabmohhbhlfaaAbsEval
set_option linter.unusedVariables false
set_option linter.unusedSimpArgs false
namespace Go.Abs.L
open Go Go.Abs Go.Abs.E
theorem gZ:(∀ (X:Fns) (M:Zg) (nx i:Nat) (d:Option Nat) (aa:List CO) (sl:Sl) (hp:Hp) (K:Sl→Hp→Prop) (e:Option Zb),V1 X M true nx i d aa sl hp K e=Ul X M nx i d aa sl hp K e) ∧
  (∀ (X:Fns) (M:Zg) (nx i:Nat) (d:Option Nat) (aa:List CO) (sl:Sl) (hp:Hp) (K:Sl→Hp→Prop) (e:Option Zb),V1 X M false nx i d aa sl hp K e=UG X M nx (i+1) aa (Zi sl d (.tup [])) hp K) ∧
  (∀ (X:Fns) (M:Zg) (nx i:Nat) (t:Bool) (d:Option Nat) (aa:List CO) (sl:Sl) (hp:Hp) (K:Sl→Hp→Prop) (e:Option Zb),Yq X M true nx i t d aa sl hp K e=Vd X M nx i t d aa sl hp K e) ∧
  (∀ (X:Fns) (M:Zg) (nx i:Nat) (t:Bool) (d:Option Nat) (aa:List CO) (sl:Sl) (hp:Hp) (K:Sl→Hp→Prop) (e:Option Zb),Yq X M false nx i t d aa sl hp K e=XE X M nx (i+1) false aa (Zi sl d (.tup [])) hp K) ∧
  (∀ (hp:Hp) (ids:List Nat),(ids.filter fun i=>Zbj (lkp hp i))=ZgV hp ids)∧(∀ (hp:Hp) (ids:List Nat),(ids.any fun i=>UQ (lkp hp i))=Zjy hp ids) ∧
  (∀ (hp:Hp) (rs ids:List Nat),Ur hp rs ids=Zjx hp rs ids):=
 ⟨fun X M _ _ _ _ _ _ _ _=>gA X M ..,fun X M _ _ _ _ _ _ _ _=>gB X M ..,fun X M _ _ _ _ _ _ _ _ _=>gC X M ..,fun X M _ _ _ _ _ _ _ _ _=>gD X M ..,gE,gG,gF⟩
theorem cE {X:Fns} {M:Zg} {f:Nat} {xs:List AV} {h:List Zh} {fn:Z0} {r:AV×List Zh} (hr:W X M fn.body { sl:=Yz 0 xs,hp:=YL 0 h,nx:=h.length,m:=h.length } (ZkF h.length fn.res fun q=>q=r)) (hx:X f=some (.text fn):=by exact rfl) (hl:xs.length≤fn.nt:=by exact Nat.le_of_ble_eq_true rfl):Zj X M f xs h=some r:=callE X M fn hx hl hr
theorem cW {X:Fns} {M:Zg} {f:Nat} {xs:List AV} {h:List Zh} {fn:Z0} {R:AV×List Zh→Prop} (hr:W X M fn.body { sl:=Yz 0 xs,hp:=YL 0 h,nx:=h.length,m:=h.length } (ZkF h.length fn.res R)) (hx:X f=some (.text fn):=by exact rfl) (hl:xs.length≤fn.nt:=by exact Nat.le_of_ble_eq_true rfl):∃ r,Zj X M f xs h=some r∧R r:=ZqB X M fn hx hl hr
theorem LO {X:Fns} {M:Zg} {α:Type} (u:α→Sl) (uh:α→Hp) (I:α→Prop) (μ:α→Nat) (a:α) {c:ZC} {K:List Nat} {Q:Ex→St→Prop} {st st0:St} (ha:I a)
  (step:∀ a,I a→(∀ b st,I b→μ b<μ a→VK K st=⟨ZiP st0.sl (u b),Zcs st0.hp (uh b),st0.nx,st0.m⟩→LW X M c K st Q)→W X M c ⟨ZiP st0.sl (u a),Zcs st0.hp (uh a),st0.nx,st0.m⟩ (ZgU X M c K Q))
  (hc:VK K st=st0:=by simp +contextual -implicitDefEqProofs (maxSteps:=10^7) only[go_sem,seval,↓gZ]<;>exact rfl) (h0:(⟨ZiP st0.sl (u a),Zcs st0.hp (uh a),st0.nx,st0.m⟩:St)=st0:=by exact rfl):LW X M c K st Q:=WQ X M u uh I μ a hc ha h0 step
theorem Xy {x:Int} (h1 : -9223372036854775808≤x) (h2:x<9223372036854775808):IntKind.i64.wrap x=x:=by
 unfold IntKind.wrap;simp only[IntKind.bits,IntKind.signed];simp;split<;>omega
theorem ZD {k:Nat} (h:k<4611686018427387904):IntKind.i64.wrap ((k:Int)+1)=((k+1:Nat):Int):=by
 rw[Xy (by omega) (by omega)];omega
@[go_sem] theorem wrap_0:IntKind.i64.wrap 0=0:=Xy (by omega) (by omega)
@[go_sem] theorem wrap_1:IntKind.i64.wrap 1=1:=Xy (by omega) (by omega)
@[go_sem] theorem wrap_2:IntKind.i64.wrap 2=2:=Xy (by omega) (by omega)
@[go_sem] theorem wrap_3:IntKind.i64.wrap 3=3:=Xy (by omega) (by omega)
def R64 (x:Int):Prop:=-9223372036854775808≤x∧x<9223372036854775808
theorem wi (x:Int) : -9223372036854775808≤x→x<9223372036854775808→IntKind.i64.wrap x=x:=fun h1 h2=>Xy h1 h2
theorem ZgZ {p q:Prop} [Decidable p] [Decidable q] {h:List Zh} (e:p↔q):((AV.d (.bool (decide p)),h):AV×List Zh)=(AV.d (.bool (decide q)),h):=by
 have:decide p=decide q:=decide_eq_decide.2 e;rw[this]
theorem fin_t {q:Prop} [Decidable q] {h:List Zh} (e:q):((AV.d (.bool true),h):AV×List Zh)=(AV.d (.bool (decide q)),h):=by simp[e]
theorem ZlZ {q:Prop} [Decidable q] {h:List Zh} (e:¬q):((AV.d (.bool false),h):AV×List Zh)=(AV.d (.bool (decide q)),h):=by simp[e]
structure Box where
 X:Int
 Y:Int
 W:Int
 H:Int
deriving DecidableEq,Inhabited
structure Pane where
 W:Int
 H:Int
 Turns:Bool
 Kind:Int
deriving DecidableEq,Inhabited
structure ZcK where
 Pane:Pane
 Count:Int
deriving DecidableEq,Inhabited
structure ZO where
 W:Int
 H:Int
 Panes:List Pane
deriving DecidableEq,Inhabited
inductive Zl where
 | mk (Op At Pane:Int) (Turned:Bool) (Kids:List Zl)
structure Place where
 Pane:Int
 Turned:Bool
 Box:Box
deriving DecidableEq,Inhabited
structure X6 where
 Label:Int
 W:Int
 H:Int
 Flaws:List Box
deriving DecidableEq,Inhabited
structure Zni where
 Stock:List X6
 Opn:List ZcK
 Done:List ZcK
 Lost:Int
 Came:Int
deriving DecidableEq,Inhabited
abbrev i64 (n:Int):D:=.int .i64 n
abbrev J (n:Int):D:=.int .i64 n
@[go_sem] def Box.enc (b:Box):D:=.agg [.int .i64 b.X,.int .i64 b.Y,.int .i64 b.W,.int .i64 b.H]
@[go_sem] def Pane.enc (p:Pane):D:=.agg [.int .i64 p.W,.int .i64 p.H,.bool p.Turns,.int .i64 p.Kind]
@[go_sem] def ZcK.enc (l:ZcK):D:=.agg [.int .i64 l.Pane.W,.int .i64 l.Pane.H,.bool l.Pane.Turns,.int .i64 l.Pane.Kind,.int .i64 l.Count]
@[go_sem] def ZO.enc (k:ZO):D:=.agg [.int .i64 k.W,.int .i64 k.H,.sl (k.Panes.map Pane.enc)]
@[go_sem] def Place.enc (p:Place):D:=.agg [.int .i64 p.Pane,.bool p.Turned,.int .i64 p.Box.X,.int .i64 p.Box.Y,.int .i64 p.Box.W,.int .i64 p.Box.H]
@[go_sem] def X6.enc (p:X6):D:=.agg [.int .i64 p.Label,.int .i64 p.W,.int .i64 p.H,.sl (p.Flaws.map Box.enc)]
@[go_sem] def Zni.enc (s:Zni):D:=.agg [.sl (s.Stock.map X6.enc),.sl (s.Opn.map ZcK.enc),.sl (s.Done.map ZcK.enc),.int .i64 s.Lost,.int .i64 s.Came]
def Qn (n:Int):D:=.int .i64 n
attribute [go_sem] Qn
mutual
def Zl.enc:Zl→D
 | .mk o a p t ks=>.agg [.int .i64 o,.int .i64 a,.int .i64 p,.bool t,.sl (Zl.encL ks)]
def Zl.encL:List Zl→List D
 | []=>[]
 | p :: r=>Zl.enc p :: Zl.encL r
end
theorem Zl.encL_map:∀ (l:List Zl),Zl.encL l=l.map Zl.enc
 | []=>rfl
 | p :: r=>by simp[Zl.encL,Zl.encL_map r]
@[go_sem] theorem Zl.enc_mk (o a p:Int) (t:Bool) (ks:List Zl):Zl.enc (.mk o a p t ks)=.agg [.int .i64 o,.int .i64 a,.int .i64 p,.bool t,.sl (ks.map Zl.enc)]:=by
 rw[Zl.enc,Zl.encL_map]
theorem V2 {α:Type} {f:α→D} {s:Nat} (l:List α) (h:∀ x,(f x).cells.length=s):uni s (l.map f):=by
 intro y hy;obtain⟨x,_,rfl⟩:=KV.1 hy;exact h x
theorem UI {α:Type} {f:α→D} (l:List α) (h:∀ x,(f x).flat=true):Qw (l.map f):=by
 intro y hy;obtain⟨x,_,rfl⟩:=KV.1 hy;exact h x
def Vi (b:UInt8):D:=.int .u8 b.toNat
@[go_sem] theorem uni_encU (l:List UInt8):uni 1 (l.map Vi)=True:=eq_true (V2 l fun _=>rfl)
@[go_sem] theorem uni_encI (l:List Int):uni 1 (l.map Qn)=True:=eq_true (V2 l fun _=>rfl)
@[go_sem] theorem uni_Box (l:List Box):uni 4 (l.map Box.enc)=True:=eq_true (V2 l fun _=>rfl)
@[go_sem] theorem uni_Pane (l:List Pane):uni 4 (l.map Pane.enc)=True:=eq_true (V2 l fun _=>rfl)
@[go_sem] theorem uni_Line (l:List ZcK):uni 5 (l.map ZcK.enc)=True:=eq_true (V2 l fun _=>rfl)
@[go_sem] theorem uni_Place (l:List Place):uni 6 (l.map Place.enc)=True:=eq_true (V2 l fun _=>rfl)
@[go_sem] theorem uni_Piece (l:List X6):uni 4 (l.map X6.enc)=True:=eq_true (V2 l fun _=>rfl)
@[go_sem] theorem flat_encU (l:List UInt8):Qw (l.map Vi)=True:=eq_true (UI l fun _=>rfl)
@[go_sem] theorem flat_encI (l:List Int):Qw (l.map Qn)=True:=eq_true (UI l fun _=>rfl)
@[go_sem] theorem flat_Box (l:List Box):Qw (l.map Box.enc)=True:=eq_true (UI l fun _=>rfl)
@[go_sem] theorem flat_Pane (l:List Pane):Qw (l.map Pane.enc)=True:=eq_true (UI l fun _=>rfl)
@[go_sem] theorem flat_Line (l:List ZcK):Qw (l.map ZcK.enc)=True:=eq_true (UI l fun _=>rfl)
@[go_sem] theorem Ztr (l:List Place):Qw (l.map Place.enc)=True:=eq_true (UI l fun _=>rfl)
@[go_sem] theorem uni_cons (s:Nat) (x:D) (l:List D):uni s (x :: l)=(x.cells.length=s∧uni s l):=by
 simp[uni]
@[go_sem] theorem uni_nil (s:Nat):uni s []=True:=by simp[uni]
@[go_sem] theorem flat_cons (x:D) (l:List D):Qw (x :: l)=(x.flat=true∧Qw l):=by
 simp[Qw]
@[go_sem] theorem flat_nil:Qw []=True:=by simp[Qw]
@[go_sem] theorem take_map {α β:Type} (f:α→β) (l:List α) (i:Nat):(l.map f).take i=(l.take i).map f:=List.map_take.symm
@[go_sem] theorem drop_map {α β:Type} (f:α→β) (l:List α) (i:Nat):(l.map f).drop i=(l.drop i).map f:=List.map_drop.symm
theorem ZpA {x y:Int} (aa:0≤x) (hx:x<4611686018427387904) (ab:0≤y) (hy:y<4611686018427387904) :
  ∃ z:Int,0≤z∧z<4611686018427387904∧IntKind.i64.wrap ((BitVec.ofInt IntKind.i64.bits x ^^^ BitVec.ofInt IntKind.i64.bits y).toNat:Int)=z:=by
 have h1:(BitVec.ofInt IntKind.i64.bits x).toNat=x.toNat:=by
  simp only[IntKind.bits,BitVec.toNat_ofInt];congr 1
  omega
 have h2:(BitVec.ofInt IntKind.i64.bits y).toNat=y.toNat:=by
  simp only[IntKind.bits,BitVec.toNat_ofInt];congr 1
  omega
 rw[BitVec.toNat_xor,h1,h2];have h3:x.toNat ^^^ y.toNat<2 ^ 62:=Nat.xor_lt_two_pow (by omega) (by omega);exact⟨_,by omega,by omega,Xy (by omega) (by omega)⟩
def VB (b:Box):Prop:=1≤b.W∧b.W≤200∧1≤b.H∧b.H≤200∧0≤b.X∧b.X+b.W≤200∧0≤b.Y∧b.Y+b.H≤200
instance (b:Box):Decidable (VB b):=by unfold VB;infer_instance
def Qt (a b:Box):Prop:=b.X≤a.X∧b.Y≤a.Y∧a.X+a.W≤b.X+b.W∧a.Y+a.H≤b.Y+b.H
instance (a b:Box):Decidable (Qt a b):=by unfold Qt;infer_instance
def Ys (a b:Box):Prop:=a.X<b.X+b.W∧b.X<a.X+a.W∧a.Y<b.Y+b.H∧b.Y<a.Y+a.H
instance (a b:Box):Decidable (Ys a b):=by unfold Ys;infer_instance
def ZjE (a b:Box):Box:=⟨max a.X b.X,max a.Y b.Y,min (a.X+a.W) (b.X+b.W)-max a.X b.X,min (a.Y+a.H) (b.Y+b.H)-max a.Y b.Y⟩
def VP (p:Pane):Prop:=1≤p.W∧p.W≤200∧1≤p.H∧p.H≤200∧0≤p.Kind∧p.Kind≤9
instance (p:Pane):Decidable (VP p):=by unfold VP;infer_instance
theorem ZE {α:Type} {l:List α} {k:Nat} (h:k<l.length):∃ x,l[k]?=some x:=⟨l[k],by simp[h]⟩
theorem Zr0 {α:Type} {a b:List α} {k:Nat} {x y:α} (hx:a[k]?=some x) (hy:b[k]?=some y) (h:a.take k=b.take k):(a.take (k+1)=b.take (k+1))↔x=y:=by
 rw[KE,KE,hx,hy,h];simp
attribute [go_sem] Nat.lt_irrefl Int.lt_irrefl Nat.le_refl Int.le_refl List.length_map List.getElem?_map Int.toNat_natCast List.length_append
@[go_sem] theorem app_map {α β:Type} (f:α→β) (l m:List α):l.map f++m.map f=(l++m).map f:=List.map_append.symm
@[go_sem] theorem cast0:((0:Nat):Int)=0:=rfl
@[go_sem] theorem cast1:((1:Nat):Int)=1:=rfl
@[go_sem] theorem Zts (n:Nat):(0≤(n:Int))=True:=by simp
@[go_sem] theorem cast_lt (a b:Nat):((a:Int)<(b:Int))=(a<b):=by simp
@[go_sem] theorem cast_le (a b:Nat):((a:Int)≤(b:Int))=(a≤b):=by simp
@[go_sem] theorem cast_eq (a b:Nat):((a:Int)=(b:Int))=(a=b):=by simp[Int.ofNat_inj]
@[go_sem] theorem Box.eta (b:Box):Box.mk b.X b.Y b.W b.H=b:=rfl
@[go_sem] theorem Pane.eta (b:Pane):Pane.mk b.W b.H b.Turns b.Kind=b:=rfl
@[go_sem] theorem ZcK.eta (b:ZcK):ZcK.mk b.Pane b.Count=b:=rfl
@[go_sem] theorem Place.eta (b:Place):Place.mk b.Pane b.Turned b.Box=b:=rfl
@[go_sem] theorem X6.eta (b:X6):X6.mk b.Label b.W b.H b.Flaws=b:=rfl
@[go_sem] theorem ZO.eta (b:ZO):ZO.mk b.W b.H b.Panes=b:=rfl
@[go_sem] theorem Zni.eta (b:Zni):Zni.mk b.Stock b.Opn b.Done b.Lost b.Came=b:=rfl
end Go.Abs.L
