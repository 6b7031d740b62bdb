/- Data of the program as Lean's own,and small laws for contracts. Own text. -/
import Derived.Test.YtemkonmgcoceaaaDoorAbsEval
set_option linter.unusedVariables false
set_option linter.unusedSimpArgs false
namespace Go.Abs.L
open Go Go.Abs Go.Abs.E
theorem gZ:(∀ (X:Fns) (M:Zj) (nx i:Nat) (d:Option Nat) (rest:List CO) (sl:Sl) (hp:Hp) (K:Sl→Hp→Prop) (e:Option Zb),VS X M true nx i d rest sl hp K e=W3 X M nx i d rest sl hp K e) ∧
  (∀ (X:Fns) (M:Zj) (nx i:Nat) (d:Option Nat) (rest:List CO) (sl:Sl) (hp:Hp) (K:Sl→Hp→Prop) (e:Option Zb),VS X M false nx i d rest sl hp K e=Js X M nx (i+1) rest (Zl sl d (.tup [])) hp K) ∧
  (∀ (X:Fns) (M:Zj) (nx i:Nat) (t:Bool) (d:Option Nat) (rest:List CO) (sl:Sl) (hp:Hp) (K:Sl→Hp→Prop) (e:Option Zb),Yr X M true nx i t d rest sl hp K e=Y3 X M nx i t d rest sl hp K e) ∧
  (∀ (X:Fns) (M:Zj) (nx i:Nat) (t:Bool) (d:Option Nat) (rest:List CO) (sl:Sl) (hp:Hp) (K:Sl→Hp→Prop) (e:Option Zb),Yr X M false nx i t d rest sl hp K e=Yd X M nx (i+1) false rest (Zl sl d (.tup [])) hp K) ∧
  (∀ (hp:Hp) (ids:List Nat),(ids.filter fun i=>XL (lkp hp i))=ZgK hp ids)∧(∀ (hp:Hp) (ids:List Nat),(ids.any fun i=>WR (lkp hp i))=Ziv hp ids) ∧
  (∀ (hp:Hp) (rs ids:List Nat),Ug hp rs ids=Ziu hp rs ids):=
 ⟨fun X M _ _ _ _ _ _ _ _=>gA X M ..,fun X M _ _ _ _ _ _ _ _=>gB X M ..,fun X M _ _ _ _ _ _ _ _ _=>gC X M ..,fun X M _ _ _ _ _ _ _ _ _=>gD X M ..,gE,gG,gF⟩
theorem ZcN {x:Int} (h1 : -9223372036854775808≤x) (h2:x<9223372036854775808):IntKind.i64.wrap x=x:=by
 unfold IntKind.wrap
 simp only[IntKind.bits,IntKind.signed]
 simp
 split<;>omega
theorem XT {k:Nat} (h:k<4611686018427387904):IntKind.i64.wrap ((k:Int)+1)=((k+1:Nat):Int):=by
 rw[ZcN (by omega) (by omega)];omega
@[go_sem] theorem wrap_0:IntKind.i64.wrap 0=0:=ZcN (by omega) (by omega)
@[go_sem] theorem wrap_1:IntKind.i64.wrap 1=1:=ZcN (by omega) (by omega)
@[go_sem] theorem wrap_2:IntKind.i64.wrap 2=2:=ZcN (by omega) (by omega)
@[go_sem] theorem wrap_3:IntKind.i64.wrap 3=3:=ZcN (by omega) (by omega)
def R64 (x:Int):Prop:=-9223372036854775808≤x∧x<9223372036854775808
theorem wi (x:Int) : -9223372036854775808≤x→x<9223372036854775808→IntKind.i64.wrap x=x:=fun h1 h2=>ZcN h1 h2
theorem fin_b {p q:Prop} [Decidable p] [Decidable q] {h:List Zi} (e:p↔q):((AV.d (.bool (decide p)),h):AV×List Zi)=(AV.d (.bool (decide q)),h):=by
 have:decide p=decide q:=decide_eq_decide.2 e
 rw[this]
theorem fin_t {q:Prop} [Decidable q] {h:List Zi} (e:q):((AV.d (.bool true),h):AV×List Zi)=(AV.d (.bool (decide q)),h):=by simp[e]
theorem fin_f {q:Prop} [Decidable q] {h:List Zi} (e:¬q):((AV.d (.bool false),h):AV×List Zi)=(AV.d (.bool (decide q)),h):=by simp[e]
structure Box where
 X:Int
 Y:Int
 W:Int
 H:Int
deriving DecidableEq,Inhabited
structure Pane where
 W:Int
 H:Int
 Turns:Bool
 Kind:Int
deriving DecidableEq,Inhabited
structure QF where
 Pane:Pane
 Count:Int
deriving DecidableEq,Inhabited
structure Ue where
 W:Int
 H:Int
 Panes:List Pane
deriving DecidableEq,Inhabited
inductive Ze where
 | mk (Op At Pane:Int) (Turned:Bool) (Kids:List Ze)
structure Vy where
 Pane:Int
 Turned:Bool
 Box:Box
deriving DecidableEq,Inhabited
structure XU where
 Label:Int
 W:Int
 H:Int
 Flaws:List Box
deriving DecidableEq,Inhabited
structure Zjx where
 Stock:List XU
 Opn:List QF
 Done:List QF
 Lost:Int
 Came:Int
deriving DecidableEq,Inhabited
abbrev i64 (n:Int):D:=.int .i64 n
abbrev J (n:Int):D:=.int .i64 n
@[go_sem] def Box.enc (b:Box):D:=.agg [.int .i64 b.X,.int .i64 b.Y,.int .i64 b.W,.int .i64 b.H]
@[go_sem] def Pane.enc (p:Pane):D:=.agg [.int .i64 p.W,.int .i64 p.H,.bool p.Turns,.int .i64 p.Kind]
@[go_sem] def QF.enc (l:QF):D:=.agg [.int .i64 l.Pane.W,.int .i64 l.Pane.H,.bool l.Pane.Turns,.int .i64 l.Pane.Kind,.int .i64 l.Count]
@[go_sem] def Ue.enc (k:Ue):D:=.agg [.int .i64 k.W,.int .i64 k.H,.sl (k.Panes.map Pane.enc)]
@[go_sem] def Vy.enc (p:Vy):D:=.agg [.int .i64 p.Pane,.bool p.Turned,.int .i64 p.Box.X,.int .i64 p.Box.Y,.int .i64 p.Box.W,.int .i64 p.Box.H]
@[go_sem] def XU.enc (p:XU):D:=.agg [.int .i64 p.Label,.int .i64 p.W,.int .i64 p.H,.sl (p.Flaws.map Box.enc)]
@[go_sem] def Zjx.enc (s:Zjx):D:=.agg [.sl (s.Stock.map XU.enc),.sl (s.Opn.map QF.enc),.sl (s.Done.map QF.enc),.int .i64 s.Lost,.int .i64 s.Came]
def Ju (n:Int):D:=.int .i64 n
attribute [go_sem] Ju
mutual
def Ze.enc:Ze→D
 | .mk o a p t ks=>.agg [.int .i64 o,.int .i64 a,.int .i64 p,.bool t,.sl (Ze.encL ks)]
def Ze.encL:List Ze→List D
 | []=>[]
 | p :: r=>Ze.enc p :: Ze.encL r
end
theorem Ze.encL_map:∀ (l:List Ze),Ze.encL l=l.map Ze.enc
 | []=>rfl
 | p :: r=>by simp[Ze.encL,Ze.encL_map r]
@[go_sem] theorem Ze.enc_mk (o a p:Int) (t:Bool) (ks:List Ze):Ze.enc (.mk o a p t ks)=.agg [.int .i64 o,.int .i64 a,.int .i64 p,.bool t,.sl (ks.map Ze.enc)]:=by
 rw[Ze.enc,Ze.encL_map]
theorem Uf {α:Type} {f:α→D} {s:Nat} (l:List α) (h:∀ x,(f x).cells.length=s):uni s (l.map f):=by
 intro y hy
 obtain⟨x,_,rfl⟩:=List.mem_map.1 hy
 exact h x
theorem J2 {α:Type} {f:α→D} (l:List α) (h:∀ x,(f x).flat=true):Qi (l.map f):=by
 intro y hy
 obtain⟨x,_,rfl⟩:=List.mem_map.1 hy
 exact h x
def Zof (b:UInt8):D:=.int .u8 b.toNat
@[go_sem] theorem uni_encU (l:List UInt8):uni 1 (l.map Zof)=True:=eq_true (Uf l fun _=>rfl)
@[go_sem] theorem uni_encI (l:List Int):uni 1 (l.map Ju)=True:=eq_true (Uf l fun _=>rfl)
@[go_sem] theorem uni_Box (l:List Box):uni 4 (l.map Box.enc)=True:=eq_true (Uf l fun _=>rfl)
@[go_sem] theorem uni_Pane (l:List Pane):uni 4 (l.map Pane.enc)=True:=eq_true (Uf l fun _=>rfl)
@[go_sem] theorem uni_Line (l:List QF):uni 5 (l.map QF.enc)=True:=eq_true (Uf l fun _=>rfl)
@[go_sem] theorem uni_Place (l:List Vy):uni 6 (l.map Vy.enc)=True:=eq_true (Uf l fun _=>rfl)
@[go_sem] theorem uni_Piece (l:List XU):uni 4 (l.map XU.enc)=True:=eq_true (Uf l fun _=>rfl)
@[go_sem] theorem flat_encU (l:List UInt8):Qi (l.map Zof)=True:=eq_true (J2 l fun _=>rfl)
@[go_sem] theorem flat_encI (l:List Int):Qi (l.map Ju)=True:=eq_true (J2 l fun _=>rfl)
@[go_sem] theorem flat_Box (l:List Box):Qi (l.map Box.enc)=True:=eq_true (J2 l fun _=>rfl)
@[go_sem] theorem flat_Pane (l:List Pane):Qi (l.map Pane.enc)=True:=eq_true (J2 l fun _=>rfl)
@[go_sem] theorem flat_Line (l:List QF):Qi (l.map QF.enc)=True:=eq_true (J2 l fun _=>rfl)
@[go_sem] theorem Zr4 (l:List Vy):Qi (l.map Vy.enc)=True:=eq_true (J2 l fun _=>rfl)
@[go_sem] theorem uni_cons (s:Nat) (x:D) (l:List D):uni s (x :: l)=(x.cells.length=s∧uni s l):=by
 simp[uni]
@[go_sem] theorem uni_nil (s:Nat):uni s []=True:=by simp[uni]
@[go_sem] theorem flat_cons (x:D) (l:List D):Qi (x :: l)=(x.flat=true∧Qi l):=by
 simp[Qi]
@[go_sem] theorem flat_nil:Qi []=True:=by simp[Qi]
@[go_sem] theorem take_map {α β:Type} (f:α→β) (l:List α) (i:Nat):(l.map f).take i=(l.take i).map f:=List.map_take.symm
@[go_sem] theorem drop_map {α β:Type} (f:α→β) (l:List α) (i:Nat):(l.map f).drop i=(l.drop i).map f:=List.map_drop.symm
theorem xor_bound {x y:Int} (hx0:0≤x) (hx:x<4611686018427387904) (hy0:0≤y) (hy:y<4611686018427387904) :
  ∃ z:Int,0≤z∧z<4611686018427387904∧IntKind.i64.wrap ((BitVec.ofInt IntKind.i64.bits x ^^^ BitVec.ofInt IntKind.i64.bits y).toNat:Int)=z:=by
 have h1:(BitVec.ofInt IntKind.i64.bits x).toNat=x.toNat:=by
  simp only[IntKind.bits,BitVec.toNat_ofInt]
  congr 1
  omega
 have h2:(BitVec.ofInt IntKind.i64.bits y).toNat=y.toNat:=by
  simp only[IntKind.bits,BitVec.toNat_ofInt]
  congr 1
  omega
 rw[BitVec.toNat_xor,h1,h2]
 have h3:x.toNat ^^^ y.toNat<2 ^ 62:=Nat.xor_lt_two_pow (by omega) (by omega)
 exact⟨_,by omega,by omega,ZcN (by omega) (by omega)⟩
def VB (b:Box):Prop:=1≤b.W∧b.W≤200∧1≤b.H∧b.H≤200∧0≤b.X∧b.X+b.W≤200∧0≤b.Y∧b.Y+b.H≤200
instance (b:Box):Decidable (VB b):=by unfold VB;infer_instance
def Zbr (a b:Box):Prop:=b.X≤a.X∧b.Y≤a.Y∧a.X+a.W≤b.X+b.W∧a.Y+a.H≤b.Y+b.H
instance (a b:Box):Decidable (Zbr a b):=by unfold Zbr;infer_instance
def ZkV (a b:Box):Prop:=a.X<b.X+b.W∧b.X<a.X+a.W∧a.Y<b.Y+b.H∧b.Y<a.Y+a.H
instance (a b:Box):Decidable (ZkV a b):=by unfold ZkV;infer_instance
def meetB (a b:Box):Box:=⟨max a.X b.X,max a.Y b.Y,min (a.X+a.W) (b.X+b.W)-max a.X b.X,min (a.Y+a.H) (b.Y+b.H)-max a.Y b.Y⟩
def VP (p:Pane):Prop:=1≤p.W∧p.W≤200∧1≤p.H∧p.H≤200∧0≤p.Kind∧p.Kind≤9
instance (p:Pane):Decidable (VP p):=by unfold VP;infer_instance
theorem Vo {α:Type} {l:List α} {k:Nat} (h:k<l.length):∃ x,l[k]?=some x:=⟨l[k],by simp[h]⟩
theorem ZqA {α:Type} {a b:List α} {k:Nat} {x y:α} (hx:a[k]?=some x) (hy:b[k]?=some y) (h:a.take k=b.take k):(a.take (k+1)=b.take (k+1))↔x=y:=by
 rw[List.take_add_one,List.take_add_one,hx,hy,h];simp
attribute [go_sem] Nat.lt_irrefl Int.lt_irrefl Nat.le_refl Int.le_refl List.length_map List.getElem?_map Int.toNat_natCast List.length_append
@[go_sem] theorem app_map {α β:Type} (f:α→β) (l m:List α):l.map f++m.map f=(l++m).map f:=List.map_append.symm
@[go_sem] theorem cast0:((0:Nat):Int)=0:=rfl
@[go_sem] theorem cast1:((1:Nat):Int)=1:=rfl
@[go_sem] theorem Zr5 (n:Nat):(0≤(n:Int))=True:=by simp
@[go_sem] theorem cast_lt (a b:Nat):((a:Int)<(b:Int))=(a<b):=by simp
@[go_sem] theorem cast_le (a b:Nat):((a:Int)≤(b:Int))=(a≤b):=by simp
@[go_sem] theorem cast_eq (a b:Nat):((a:Int)=(b:Int))=(a=b):=by simp[Int.ofNat_inj]
@[go_sem] theorem Box.eta (b:Box):Box.mk b.X b.Y b.W b.H=b:=rfl
@[go_sem] theorem Pane.eta (b:Pane):Pane.mk b.W b.H b.Turns b.Kind=b:=rfl
@[go_sem] theorem QF.eta (b:QF):QF.mk b.Pane b.Count=b:=rfl
@[go_sem] theorem Vy.eta (b:Vy):Vy.mk b.Pane b.Turned b.Box=b:=rfl
@[go_sem] theorem XU.eta (b:XU):XU.mk b.Label b.W b.H b.Flaws=b:=rfl
@[go_sem] theorem Ue.eta (b:Ue):Ue.mk b.W b.H b.Panes=b:=rfl
@[go_sem] theorem Zjx.eta (b:Zjx):Zjx.mk b.Stock b.Opn b.Done b.Lost b.Came=b:=rfl
end Go.Abs.L
