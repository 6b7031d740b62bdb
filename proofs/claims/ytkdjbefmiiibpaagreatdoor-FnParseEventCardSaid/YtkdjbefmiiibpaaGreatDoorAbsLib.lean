/- Data of the program as Lean's own,and small laws for contracts. Own text. -/
import Derived.Test.YtkdjbefmiiibpaaGreatDoorAbsEval
set_option linter.unusedVariables false
set_option linter.unusedSimpArgs false
namespace Go.Abs.L
open Go Go.Abs Go.Abs.E
theorem gZ:(∀ (X:Fns) (M:Zt) (nx i:Nat) (d:Option Nat) (rest:List CO) (sl:Sl) (hp:Hp) (K:Sl→Hp→Prop) (e:Option Zc),ZaX X M true nx i d rest sl hp K e=Zdm X M nx i d rest sl hp K e) ∧
  (∀ (X:Fns) (M:Zt) (nx i:Nat) (d:Option Nat) (rest:List CO) (sl:Sl) (hp:Hp) (K:Sl→Hp→Prop) (e:Option Zc),ZaX X M false nx i d rest sl hp K e=Zfw X M nx (i+1) rest (Zw sl d (.tup [])) hp K) ∧
  (∀ (X:Fns) (M:Zt) (nx i:Nat) (t:Bool) (d:Option Nat) (rest:List CO) (sl:Sl) (hp:Hp) (K:Sl→Hp→Prop) (e:Option Zc),Uz X M true nx i t d rest sl hp K e=JI X M nx i t d rest sl hp K e) ∧
  (∀ (X:Fns) (M:Zt) (nx i:Nat) (t:Bool) (d:Option Nat) (rest:List CO) (sl:Sl) (hp:Hp) (K:Sl→Hp→Prop) (e:Option Zc),Uz X M false nx i t d rest sl hp K e=WZ X M nx (i+1) false rest (Zw sl d (.tup [])) hp K) ∧
  (∀ (hp:Hp) (ids:List Nat),(ids.filter fun i=>We (lkp hp i))=Zpb hp ids)∧(∀ (hp:Hp) (ids:List Nat),(ids.any fun i=>ZcN (lkp hp i))=ZrZ hp ids) ∧
  (∀ (hp:Hp) (rs ids:List Nat),Zdz hp rs ids=ZrY hp rs ids):=
 ⟨fun X M _ _ _ _ _ _ _ _=>gA X M ..,fun X M _ _ _ _ _ _ _ _=>gB X M ..,fun X M _ _ _ _ _ _ _ _ _=>gC X M ..,fun X M _ _ _ _ _ _ _ _ _=>gD X M ..,gE,gG,gF⟩
theorem Zap {x:Int} (h1 : -9223372036854775808≤x) (h2:x<9223372036854775808):IntKind.i64.wrap x=x:=by
 unfold IntKind.wrap
 simp only[IntKind.bits,IntKind.signed]
 simp
 split<;>omega
theorem Zm {k:Nat} (h:k<4611686018427387904):IntKind.i64.wrap ((k:Int)+1)=((k+1:Nat):Int):=by
 rw[Zap (by omega) (by omega)];omega
@[go_sem] theorem wrap_0:IntKind.i64.wrap 0=0:=Zap (by omega) (by omega)
@[go_sem] theorem wrap_1:IntKind.i64.wrap 1=1:=Zap (by omega) (by omega)
@[go_sem] theorem wrap_2:IntKind.i64.wrap 2=2:=Zap (by omega) (by omega)
@[go_sem] theorem wrap_3:IntKind.i64.wrap 3=3:=Zap (by omega) (by omega)
def R64 (x:Int):Prop:=-9223372036854775808≤x∧x<9223372036854775808
theorem wi (x:Int) : -9223372036854775808≤x→x<9223372036854775808→IntKind.i64.wrap x=x:=fun h1 h2=>Zap h1 h2
theorem Zlq {p q:Prop} [Decidable p] [Decidable q] {h:List Zo} (e:p↔q):((AV.d (.bool (decide p)),h):AV×List Zo)=(AV.d (.bool (decide q)),h):=by
 have:decide p=decide q:=decide_eq_decide.2 e
 rw[this]
theorem fin_t {q:Prop} [Decidable q] {h:List Zo} (e:q):((AV.d (.bool true),h):AV×List Zo)=(AV.d (.bool (decide q)),h):=by simp[e]
theorem Zx1 {q:Prop} [Decidable q] {h:List Zo} (e:¬q):((AV.d (.bool false),h):AV×List Zo)=(AV.d (.bool (decide q)),h):=by simp[e]
structure Box where
 X:Int
 Y:Int
 W:Int
 H:Int
deriving DecidableEq,Inhabited
structure Pane where
 W:Int
 H:Int
 Turns:Bool
 Kind:Int
deriving DecidableEq,Inhabited
structure Zi where
 Pane:Pane
 Count:Int
deriving DecidableEq,Inhabited
structure XJ where
 W:Int
 H:Int
 Panes:List Pane
deriving DecidableEq,Inhabited
inductive Zj where
 | mk (Op At Pane:Int) (Turned:Bool) (Kids:List Zj)
structure Place where
 Pane:Int
 Turned:Bool
 Box:Box
deriving DecidableEq,Inhabited
structure Zd where
 Label:Int
 W:Int
 H:Int
 Flaws:List Box
deriving DecidableEq,Inhabited
structure Z9 where
 Stock:List Zd
 Opn:List Zi
 Done:List Zi
 Lost:Int
 Came:Int
deriving DecidableEq,Inhabited
abbrev i64 (n:Int):D:=.int .i64 n
abbrev J (n:Int):D:=.int .i64 n
@[go_sem] def Box.enc (b:Box):D:=.agg [.int .i64 b.X,.int .i64 b.Y,.int .i64 b.W,.int .i64 b.H]
@[go_sem] def Pane.enc (p:Pane):D:=.agg [.int .i64 p.W,.int .i64 p.H,.bool p.Turns,.int .i64 p.Kind]
@[go_sem] def Zi.enc (l:Zi):D:=.agg [.int .i64 l.Pane.W,.int .i64 l.Pane.H,.bool l.Pane.Turns,.int .i64 l.Pane.Kind,.int .i64 l.Count]
@[go_sem] def XJ.enc (k:XJ):D:=.agg [.int .i64 k.W,.int .i64 k.H,.sl (k.Panes.map Pane.enc)]
@[go_sem] def Place.enc (p:Place):D:=.agg [.int .i64 p.Pane,.bool p.Turned,.int .i64 p.Box.X,.int .i64 p.Box.Y,.int .i64 p.Box.W,.int .i64 p.Box.H]
@[go_sem] def Zd.enc (p:Zd):D:=.agg [.int .i64 p.Label,.int .i64 p.W,.int .i64 p.H,.sl (p.Flaws.map Box.enc)]
@[go_sem] def Z9.enc (s:Z9):D:=.agg [.sl (s.Stock.map Zd.enc),.sl (s.Opn.map Zi.enc),.sl (s.Done.map Zi.enc),.int .i64 s.Lost,.int .i64 s.Came]
def YL (n:Int):D:=.int .i64 n
attribute [go_sem] YL
mutual
def Zj.enc:Zj→D
 | .mk o a p t ks=>.agg [.int .i64 o,.int .i64 a,.int .i64 p,.bool t,.sl (Zj.encL ks)]
def Zj.encL:List Zj→List D
 | []=>[]
 | p :: r=>Zj.enc p :: Zj.encL r
end
theorem Zj.encL_map:∀ (l:List Zj),Zj.encL l=l.map Zj.enc
 | []=>rfl
 | p :: r=>by simp[Zj.encL,Zj.encL_map r]
@[go_sem] theorem Zj.enc_mk (o a p:Int) (t:Bool) (ks:List Zj):Zj.enc (.mk o a p t ks)=.agg [.int .i64 o,.int .i64 a,.int .i64 p,.bool t,.sl (ks.map Zj.enc)]:=by
 rw[Zj.enc,Zj.encL_map]
theorem Zdy {α:Type} {f:α→D} {s:Nat} (l:List α) (h:∀ x,(f x).cells.length=s):uni s (l.map f):=by
 intro y hy
 obtain⟨x,_,rfl⟩:=List.mem_map.1 hy
 exact h x
theorem Zgv {α:Type} {f:α→D} (l:List α) (h:∀ x,(f x).flat=true):Q7 (l.map f):=by
 intro y hy
 obtain⟨x,_,rfl⟩:=List.mem_map.1 hy
 exact h x
def VM (b:UInt8):D:=.int .u8 b.toNat
@[go_sem] theorem uni_encU (l:List UInt8):uni 1 (l.map VM)=True:=eq_true (Zdy l fun _=>rfl)
@[go_sem] theorem uni_encI (l:List Int):uni 1 (l.map YL)=True:=eq_true (Zdy l fun _=>rfl)
@[go_sem] theorem uni_Box (l:List Box):uni 4 (l.map Box.enc)=True:=eq_true (Zdy l fun _=>rfl)
@[go_sem] theorem uni_Pane (l:List Pane):uni 4 (l.map Pane.enc)=True:=eq_true (Zdy l fun _=>rfl)
@[go_sem] theorem uni_Line (l:List Zi):uni 5 (l.map Zi.enc)=True:=eq_true (Zdy l fun _=>rfl)
@[go_sem] theorem uni_Place (l:List Place):uni 6 (l.map Place.enc)=True:=eq_true (Zdy l fun _=>rfl)
@[go_sem] theorem uni_Piece (l:List Zd):uni 4 (l.map Zd.enc)=True:=eq_true (Zdy l fun _=>rfl)
@[go_sem] theorem flat_encU (l:List UInt8):Q7 (l.map VM)=True:=eq_true (Zgv l fun _=>rfl)
@[go_sem] theorem flat_encI (l:List Int):Q7 (l.map YL)=True:=eq_true (Zgv l fun _=>rfl)
@[go_sem] theorem flat_Box (l:List Box):Q7 (l.map Box.enc)=True:=eq_true (Zgv l fun _=>rfl)
@[go_sem] theorem flat_Pane (l:List Pane):Q7 (l.map Pane.enc)=True:=eq_true (Zgv l fun _=>rfl)
@[go_sem] theorem flat_Line (l:List Zi):Q7 (l.map Zi.enc)=True:=eq_true (Zgv l fun _=>rfl)
@[go_sem] theorem ZFW (l:List Place):Q7 (l.map Place.enc)=True:=eq_true (Zgv l fun _=>rfl)
@[go_sem] theorem uni_cons (s:Nat) (x:D) (l:List D):uni s (x :: l)=(x.cells.length=s∧uni s l):=by
 simp[uni]
@[go_sem] theorem uni_nil (s:Nat):uni s []=True:=by simp[uni]
@[go_sem] theorem flat_cons (x:D) (l:List D):Q7 (x :: l)=(x.flat=true∧Q7 l):=by
 simp[Q7]
@[go_sem] theorem flat_nil:Q7 []=True:=by simp[Q7]
@[go_sem] theorem take_map {α β:Type} (f:α→β) (l:List α) (i:Nat):(l.map f).take i=(l.take i).map f:=List.map_take.symm
@[go_sem] theorem drop_map {α β:Type} (f:α→β) (l:List α) (i:Nat):(l.map f).drop i=(l.drop i).map f:=List.map_drop.symm
theorem Zzi {x y:Int} (hx0:0≤x) (hx:x<4611686018427387904) (hy0:0≤y) (hy:y<4611686018427387904) :
  ∃ z:Int,0≤z∧z<4611686018427387904∧IntKind.i64.wrap ((BitVec.ofInt IntKind.i64.bits x ^^^ BitVec.ofInt IntKind.i64.bits y).toNat:Int)=z:=by
 have h1:(BitVec.ofInt IntKind.i64.bits x).toNat=x.toNat:=by
  simp only[IntKind.bits,BitVec.toNat_ofInt]
  congr 1
  omega
 have h2:(BitVec.ofInt IntKind.i64.bits y).toNat=y.toNat:=by
  simp only[IntKind.bits,BitVec.toNat_ofInt]
  congr 1
  omega
 rw[BitVec.toNat_xor,h1,h2]
 have h3:x.toNat ^^^ y.toNat<2 ^ 62:=Nat.xor_lt_two_pow (by omega) (by omega)
 exact⟨_,by omega,by omega,Zap (by omega) (by omega)⟩
def VB (b:Box):Prop:=1≤b.W∧b.W≤200∧1≤b.H∧b.H≤200∧0≤b.X∧b.X+b.W≤200∧0≤b.Y∧b.Y+b.H≤200
instance (b:Box):Decidable (VB b):=by unfold VB;infer_instance
def Zfx (a b:Box):Prop:=b.X≤a.X∧b.Y≤a.Y∧a.X+a.W≤b.X+b.W∧a.Y+a.H≤b.Y+b.H
instance (a b:Box):Decidable (Zfx a b):=by unfold Zfx;infer_instance
def Zh5 (a b:Box):Prop:=a.X<b.X+b.W∧b.X<a.X+a.W∧a.Y<b.Y+b.H∧b.Y<a.Y+a.H
instance (a b:Box):Decidable (Zh5 a b):=by unfold Zh5;infer_instance
def Zr4 (a b:Box):Box:=⟨max a.X b.X,max a.Y b.Y,min (a.X+a.W) (b.X+b.W)-max a.X b.X,min (a.Y+a.H) (b.Y+b.H)-max a.Y b.Y⟩
def VP (p:Pane):Prop:=1≤p.W∧p.W≤200∧1≤p.H∧p.H≤200∧0≤p.Kind∧p.Kind≤9
instance (p:Pane):Decidable (VP p):=by unfold VP;infer_instance
theorem ZU {α:Type} {l:List α} {k:Nat} (h:k<l.length):∃ x,l[k]?=some x:=⟨l[k],by simp[h]⟩
theorem ZC1 {α:Type} {a b:List α} {k:Nat} {x y:α} (hx:a[k]?=some x) (hy:b[k]?=some y) (h:a.take k=b.take k):(a.take (k+1)=b.take (k+1))↔x=y:=by
 rw[List.take_add_one,List.take_add_one,hx,hy,h];simp
attribute [go_sem] Nat.lt_irrefl Int.lt_irrefl Nat.le_refl Int.le_refl List.length_map List.getElem?_map Int.toNat_natCast List.length_append
@[go_sem] theorem app_map {α β:Type} (f:α→β) (l m:List α):l.map f++m.map f=(l++m).map f:=List.map_append.symm
@[go_sem] theorem cast0:((0:Nat):Int)=0:=rfl
@[go_sem] theorem cast1:((1:Nat):Int)=1:=rfl
@[go_sem] theorem ZFX (n:Nat):(0≤(n:Int))=True:=by simp
@[go_sem] theorem cast_lt (a b:Nat):((a:Int)<(b:Int))=(a<b):=by simp
@[go_sem] theorem cast_le (a b:Nat):((a:Int)≤(b:Int))=(a≤b):=by simp
@[go_sem] theorem cast_eq (a b:Nat):((a:Int)=(b:Int))=(a=b):=by simp[Int.ofNat_inj]
@[go_sem] theorem Box.eta (b:Box):Box.mk b.X b.Y b.W b.H=b:=rfl
@[go_sem] theorem Pane.eta (b:Pane):Pane.mk b.W b.H b.Turns b.Kind=b:=rfl
@[go_sem] theorem Zi.eta (b:Zi):Zi.mk b.Pane b.Count=b:=rfl
@[go_sem] theorem Place.eta (b:Place):Place.mk b.Pane b.Turned b.Box=b:=rfl
@[go_sem] theorem Zd.eta (b:Zd):Zd.mk b.Label b.W b.H b.Flaws=b:=rfl
@[go_sem] theorem XJ.eta (b:XJ):XJ.mk b.W b.H b.Panes=b:=rfl
@[go_sem] theorem Z9.eta (b:Z9):Z9.mk b.Stock b.Opn b.Done b.Lost b.Came=b:=rfl
end Go.Abs.L
