import Derived.Test.YtfnegoimdljanaaGreatDoorAbsEval
set_option linter.unusedSimpArgs false
set_option linter.unusedVariables false
namespace Go.Abs.L
open Go Go.Abs Go.Abs.E
@[go_sem ↓] theorem gZ:(∀ (X:Fns) (M:Zq) (nx i:Nat) (d:Option Nat) (aa:List CO) (sl:Sl) (hp:Hp) (K:Sl→Hp→Prop) (e:Option Ze),UC X M true nx i d aa sl hp K e=ZaS X M nx i d aa sl hp K e) ∧
  (∀ (X:Fns) (M:Zq) (nx i:Nat) (d:Option Nat) (aa:List CO) (sl:Sl) (hp:Hp) (K:Sl→Hp→Prop) (e:Option Ze),UC X M false nx i d aa sl hp K e=ZbB X M nx (i+1) aa (Zs sl d (.tup [])) hp K) ∧
  (∀ (X:Fns) (M:Zq) (nx i:Nat) (t:Bool) (d:Option Nat) (aa:List CO) (sl:Sl) (hp:Hp) (K:Sl→Hp→Prop) (e:Option Ze),VE X M true nx i t d aa sl hp K e=WA X M nx i t d aa sl hp K e) ∧
  (∀ (X:Fns) (M:Zq) (nx i:Nat) (t:Bool) (d:Option Nat) (aa:List CO) (sl:Sl) (hp:Hp) (K:Sl→Hp→Prop) (e:Option Ze),VE X M false nx i t d aa sl hp K e=YE X M nx (i+1) false aa (Zs sl d (.tup [])) hp K) ∧
  (∀ (hp:Hp) (ids:List Nat),(ids.filter fun i=>ZgM (lkp hp i))=ZpF hp ids)∧(∀ (hp:Hp) (ids:List Nat),(ids.any fun i=>ZbM (lkp hp i))=ZsH hp ids) ∧
  (∀ (hp:Hp) (rs ids:List Nat),Za3 hp rs ids=ZsG hp rs ids):=
 ⟨fun X M _ _ _ _ _ _ _ _=>gA X M ..,fun X M _ _ _ _ _ _ _ _=>gB X M ..,fun X M _ _ _ _ _ _ _ _ _=>gC X M ..,fun X M _ _ _ _ _ _ _ _ _=>gD X M ..,gE,gG,gF⟩
theorem cE {X:Fns} {M:Zq} {f:Nat} {xs:List AV} {h:List Zk} {fn:Zr} {r:AV×List Zk} (hr:W X M fn.body { sl:=VN 0 xs,hp:=VR 0 h,nx:=h.length,m:=h.length } (Zuh h.length fn.res fun q=>q=r)) (hx:X f=some (.text fn):=by exact rfl) (hl:xs.length≤fn.nt:=by exact Nat.le_of_ble_eq_true rfl):Zd X M f xs h=some r:=callE X M fn hx hl hr
theorem cW {X:Fns} {M:Zq} {f:Nat} {xs:List AV} {h:List Zk} {fn:Zr} {R:AV×List Zk→Prop} (hr:W X M fn.body { sl:=VN 0 xs,hp:=VR 0 h,nx:=h.length,m:=h.length } (Zuh h.length fn.res R)) (hx:X f=some (.text fn):=by exact rfl) (hl:xs.length≤fn.nt:=by exact Nat.le_of_ble_eq_true rfl):∃ r,Zd X M f xs h=some r∧R r:=ZA1 X M fn hx hl hr
theorem LO {X:Fns} {M:Zq} {α:Type} (u:α→Sl) (uh:α→Hp) (I:α→Prop) (μ:α→Nat) (a:α) {c:ZM} {K:List Nat} {Q:Ex→St→Prop} {st st0:St} (ha:I a)
  (step:∀ a,I a→(∀ b st,I b→μ b<μ a→Ut K st=⟨ZrQ st0.sl (u b),ZiS st0.hp (uh b),st0.nx,st0.m⟩→LW X M c K st Q)→W X M c ⟨ZrQ st0.sl (u a),ZiS st0.hp (uh a),st0.nx,st0.m⟩ (ZpE X M c K Q))
  (hc:Ut K st=st0:=by simp +contextual -implicitDefEqProofs (maxSteps:=10^7) only[go_sem,seval]<;>exact rfl) (h0:(⟨ZrQ st0.sl (u a),ZiS st0.hp (uh a),st0.nx,st0.m⟩:St)=st0:=by exact rfl):LW X M c K st Q:=Yh X M u uh I μ a hc ha h0 step
theorem WB {x:Int} (h1 : -9223372036854775808≤x) (h2:x<9223372036854775808):IntKind.i64.wrap x=x:=by
 unfold IntKind.wrap;simp only[IntKind.bits,IntKind.signed];simp;split<;>omega
theorem Zh {k:Nat} (h:k<4611686018427387904):IntKind.i64.wrap ((k:Int)+1)=((k+1:Nat):Int):=by
 rw[WB o_ o_];omega
@[go_sem] theorem wrap_0:IntKind.i64.wrap 0=0:=WB o_ o_
@[go_sem] theorem wrap_1:IntKind.i64.wrap 1=1:=WB o_ o_
@[go_sem] theorem wrap_2:IntKind.i64.wrap 2=2:=WB o_ o_
@[go_sem] theorem wrap_3:IntKind.i64.wrap 3=3:=WB o_ o_
def R64 (x:Int):Prop:=-9223372036854775808≤x∧x<9223372036854775808
theorem wi (x:Int) : -9223372036854775808≤x→x<9223372036854775808→IntKind.i64.wrap x=x:=fun h1 h2=>WB h1 h2
theorem ZaU {p q:Prop} [Decidable p] [Decidable q] {h:List Zk} (e:p↔q):((AV.d (.bool (decide p)),h):AV×List Zk)=(AV.d (.bool (decide q)),h):=by
 have:decide p=decide q:=decide_eq_decide.2 e;rw[this]
theorem ZyH {q:Prop} [Decidable q] {h:List Zk} (e:q):((AV.d (.bool true),h):AV×List Zk)=(AV.d (.bool (decide q)),h):=by simp[e]
theorem ZgH {q:Prop} [Decidable q] {h:List Zk} (e:¬q):((AV.d (.bool false),h):AV×List Zk)=(AV.d (.bool (decide q)),h):=by simp[e]
structure Box where
 X:Int
 Y:Int
 W:Int
 H:Int
deriving DecidableEq,Inhabited
structure Pane where
 W:Int
 H:Int
 Turns:Bool
 Kind:Int
deriving DecidableEq,Inhabited
structure Zc where
 Pane:Pane
 Count:Int
deriving DecidableEq,Inhabited
structure Zt where
 W:Int
 H:Int
 Panes:List Pane
deriving DecidableEq,Inhabited
inductive Zf where
 | mk (Op At Pane:Int) (Turned:Bool) (Kids:List Zf)
structure Place where
 Pane:Int
 Turned:Bool
 Box:Box
deriving DecidableEq,Inhabited
structure Zb where
 Label:Int
 W:Int
 H:Int
 Flaws:List Box
deriving DecidableEq,Inhabited
structure Zm where
 Stock:List Zb
 Opn:List Zc
 Done:List Zc
 Lost:Int
 Came:Int
deriving DecidableEq,Inhabited
abbrev i64 (n:Int):D:=.int .i64 n
abbrev J (n:Int):D:=.int .i64 n
@[go_sem] def Box.enc (b:Box):D:=.agg [.int .i64 b.X,.int .i64 b.Y,.int .i64 b.W,.int .i64 b.H]
@[go_sem] def Pane.enc (p:Pane):D:=.agg [.int .i64 p.W,.int .i64 p.H,.bool p.Turns,.int .i64 p.Kind]
@[go_sem] def Zc.enc (l:Zc):D:=.agg [.int .i64 l.Pane.W,.int .i64 l.Pane.H,.bool l.Pane.Turns,.int .i64 l.Pane.Kind,.int .i64 l.Count]
@[go_sem] def Zt.enc (k:Zt):D:=.agg [.int .i64 k.W,.int .i64 k.H,.sl (k.Panes.map Pane.enc)]
@[go_sem] def Place.enc (p:Place):D:=.agg [.int .i64 p.Pane,.bool p.Turned,.int .i64 p.Box.X,.int .i64 p.Box.Y,.int .i64 p.Box.W,.int .i64 p.Box.H]
@[go_sem] def Zb.enc (p:Zb):D:=.agg [.int .i64 p.Label,.int .i64 p.W,.int .i64 p.H,.sl (p.Flaws.map Box.enc)]
@[go_sem] def Zm.enc (s:Zm):D:=.agg [.sl (s.Stock.map Zb.enc),.sl (s.Opn.map Zc.enc),.sl (s.Done.map Zc.enc),.int .i64 s.Lost,.int .i64 s.Came]
def Yi (n:Int):D:=.int .i64 n
attribute [go_sem] Yi
mutual
def Zf.enc:Zf→D
 | .mk o a p t ks=>.agg [.int .i64 o,.int .i64 a,.int .i64 p,.bool t,.sl (Zf.encL ks)]
def Zf.encL:List Zf→List D
 | []=>[]
 | p :: r=>Zf.enc p :: Zf.encL r
end
theorem Zf.encL_map:∀ (l:List Zf),Zf.encL l=l.map Zf.enc
 | []=>rfl
 | p :: r=>by simp[Zf.encL,Zf.encL_map r]
@[go_sem] theorem Zf.enc_mk (o a p:Int) (t:Bool) (ks:List Zf):Zf.enc (.mk o a p t ks)=.agg [.int .i64 o,.int .i64 a,.int .i64 p,.bool t,.sl (ks.map Zf.enc)]:=by
 rw[Zf.enc,Zf.encL_map]
theorem J2 {α:Type} {f:α→D} {s:Nat} (l:List α) (h:∀ x,(f x).cells.length=s):uni s (l.map f):=by
 intro y hy;obtain⟨x,_,rfl⟩:=Lk.1 hy;exact h x
theorem ZbD {α:Type} {f:α→D} (l:List α) (h:∀ x,(f x).flat=true):Xb (l.map f):=by
 intro y hy;obtain⟨x,_,rfl⟩:=Lk.1 hy;exact h x
def UF (b:UInt8):D:=.int .u8 b.toNat
@[go_sem] theorem uni_encU (l:List UInt8):uni 1 (l.map UF)=True:=eq_true (J2 l fun _=>rfl)
@[go_sem] theorem uni_encI (l:List Int):uni 1 (l.map Yi)=True:=eq_true (J2 l fun _=>rfl)
@[go_sem] theorem uni_Box (l:List Box):uni 4 (l.map Box.enc)=True:=eq_true (J2 l fun _=>rfl)
@[go_sem] theorem uni_Pane (l:List Pane):uni 4 (l.map Pane.enc)=True:=eq_true (J2 l fun _=>rfl)
@[go_sem] theorem ZvE (l:List Zc):uni 5 (l.map Zc.enc)=True:=eq_true (J2 l fun _=>rfl)
@[go_sem] theorem uni_Place (l:List Place):uni 6 (l.map Place.enc)=True:=eq_true (J2 l fun _=>rfl)
@[go_sem] theorem uni_Piece (l:List Zb):uni 4 (l.map Zb.enc)=True:=eq_true (J2 l fun _=>rfl)
@[go_sem] theorem flat_encU (l:List UInt8):Xb (l.map UF)=True:=eq_true (ZbD l fun _=>rfl)
@[go_sem] theorem flat_encI (l:List Int):Xb (l.map Yi)=True:=eq_true (ZbD l fun _=>rfl)
@[go_sem] theorem flat_Box (l:List Box):Xb (l.map Box.enc)=True:=eq_true (ZbD l fun _=>rfl)
@[go_sem] theorem flat_Pane (l:List Pane):Xb (l.map Pane.enc)=True:=eq_true (ZbD l fun _=>rfl)
@[go_sem] theorem ZsO (l:List Zc):Xb (l.map Zc.enc)=True:=eq_true (ZbD l fun _=>rfl)
@[go_sem] theorem ZEm (l:List Place):Xb (l.map Place.enc)=True:=eq_true (ZbD l fun _=>rfl)
@[go_sem] theorem uni_cons (s:Nat) (x:D) (l:List D):uni s (x :: l)=(x.cells.length=s∧uni s l):=by
 simp[uni]
@[go_sem] theorem uni_nil (s:Nat):uni s []=True:=by simp[uni]
@[go_sem] theorem flat_cons (x:D) (l:List D):Xb (x :: l)=(x.flat=true∧Xb l):=by
 simp[Xb]
@[go_sem] theorem flat_nil:Xb []=True:=by simp[Xb]
@[go_sem] theorem take_map {α β:Type} (f:α→β) (l:List α) (i:Nat):(l.map f).take i=(l.take i).map f:=List.map_take.symm
@[go_sem] theorem drop_map {α β:Type} (f:α→β) (l:List α) (i:Nat):(l.map f).drop i=(l.drop i).map f:=List.map_drop.symm
theorem ZzN {x y:Int} (aa:0≤x) (hx:x<4611686018427387904) (ab:0≤y) (hy:y<4611686018427387904) :
  ∃ z:Int,0≤z∧z<4611686018427387904∧IntKind.i64.wrap ((BitVec.ofInt IntKind.i64.bits x ^^^ BitVec.ofInt IntKind.i64.bits y).toNat:Int)=z:=by
 have h1:(BitVec.ofInt IntKind.i64.bits x).toNat=x.toNat:=by
  simp only[IntKind.bits,BitVec.toNat_ofInt];congr 1
  omega
 have h2:(BitVec.ofInt IntKind.i64.bits y).toNat=y.toNat:=by
  simp only[IntKind.bits,BitVec.toNat_ofInt];congr 1
  omega
 rw[BitVec.toNat_xor,h1,h2];have h3:x.toNat ^^^ y.toNat<2 ^ 62:=Nat.xor_lt_two_pow o_ o_;exact⟨_,o_,o_,WB o_ o_⟩
def VB (b:Box):Prop:=1≤b.W∧b.W≤200∧1≤b.H∧b.H≤200∧0≤b.X∧b.X+b.W≤200∧0≤b.Y∧b.Y+b.H≤200
instance (b:Box):Decidable (VB b):=by unfold VB;infer_instance
def QE (a b:Box):Prop:=b.X≤a.X∧b.Y≤a.Y∧a.X+a.W≤b.X+b.W∧a.Y+a.H≤b.Y+b.H
instance (a b:Box):Decidable (QE a b):=by unfold QE;infer_instance
def XZ (a b:Box):Prop:=a.X<b.X+b.W∧b.X<a.X+a.W∧a.Y<b.Y+b.H∧b.Y<a.Y+a.H
instance (a b:Box):Decidable (XZ a b):=by unfold XZ;infer_instance
def Zf8 (a b:Box):Box:=⟨max a.X b.X,max a.Y b.Y,min (a.X+a.W) (b.X+b.W)-max a.X b.X,min (a.Y+a.H) (b.Y+b.H)-max a.Y b.Y⟩
def VP (p:Pane):Prop:=1≤p.W∧p.W≤200∧1≤p.H∧p.H≤200∧0≤p.Kind∧p.Kind≤9
instance (p:Pane):Decidable (VP p):=by unfold VP;infer_instance
theorem Zp {α:Type} {l:List α} {k:Nat} (h:k<l.length):∃ x,l[k]?=some x:=⟨l[k],by simp[h]⟩
theorem Zkv {α:Type} {a b:List α} {k:Nat} {x y:α} (hx:a[k]?=some x) (hy:b[k]?=some y) (h:a.take k=b.take k):(a.take (k+1)=b.take (k+1))↔x=y:=by
 rw[KH,KH,hx,hy,h];simp
attribute [go_sem] Nat.lt_irrefl Int.lt_irrefl Nat.le_refl Int.le_refl List.length_map List.getElem?_map Int.toNat_natCast List.length_append
@[go_sem] theorem app_map {α β:Type} (f:α→β) (l m:List α):l.map f++m.map f=(l++m).map f:=List.map_append.symm
@[go_sem] theorem cast0:((0:Nat):Int)=0:=rfl
@[go_sem] theorem cast1:((1:Nat):Int)=1:=rfl
@[go_sem] theorem ZEn (n:Nat):(0≤(n:Int))=True:=by simp
@[go_sem] theorem cast_lt (a b:Nat):((a:Int)<(b:Int))=(a<b):=by simp
@[go_sem] theorem cast_le (a b:Nat):((a:Int)≤(b:Int))=(a≤b):=by simp
@[go_sem] theorem cast_eq (a b:Nat):((a:Int)=(b:Int))=(a=b):=by simp[Int.ofNat_inj]
@[go_sem] theorem Box.eta (b:Box):Box.mk b.X b.Y b.W b.H=b:=rfl
@[go_sem] theorem Pane.eta (b:Pane):Pane.mk b.W b.H b.Turns b.Kind=b:=rfl
@[go_sem] theorem Zc.eta (b:Zc):Zc.mk b.Pane b.Count=b:=rfl
@[go_sem] theorem Place.eta (b:Place):Place.mk b.Pane b.Turned b.Box=b:=rfl
@[go_sem] theorem Zb.eta (b:Zb):Zb.mk b.Label b.W b.H b.Flaws=b:=rfl
@[go_sem] theorem Zt.eta (b:Zt):Zt.mk b.W b.H b.Panes=b:=rfl
@[go_sem] theorem Zm.eta (b:Zm):Zm.mk b.Stock b.Opn b.Done b.Lost b.Came=b:=rfl
end Go.Abs.L
