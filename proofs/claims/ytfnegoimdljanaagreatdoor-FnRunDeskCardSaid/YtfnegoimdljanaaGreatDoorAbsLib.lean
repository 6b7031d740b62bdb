import Derived.Test.YtfnegoimdljanaaGreatDoorAbsEval
set_option linter.all false
namespace Go.Abs.L
open Go Go.Abs Go.Abs.E
@[go_sem ↓] theorem gZ:(∀ (X:Fns) (M:Zr) (nx i:Nat) (d:Option Nat) (aa:List CO) (sl:Sl) (hp:Hp) (K:Sl→Hp→Prop) (e:Option Zf),U6 X M true nx i d aa sl hp K e=Zbl X M nx i d aa sl hp K e) ∧
  (∀ (X:Fns) (M:Zr) (nx i:Nat) (d:Option Nat) (aa:List CO) (sl:Sl) (hp:Hp) (K:Sl→Hp→Prop) (e:Option Zf),U6 X M false nx i d aa sl hp K e=Zb1 X M nx (i+1) aa (Zs sl d (.tup [])) hp K) ∧
  (∀ (X:Fns) (M:Zr) (nx i:Nat) (t:Bool) (d:Option Nat) (aa:List CO) (sl:Sl) (hp:Hp) (K:Sl→Hp→Prop) (e:Option Zf),V1 X M true nx i t d aa sl hp K e=W3 X M nx i t d aa sl hp K e) ∧
  (∀ (X:Fns) (M:Zr) (nx i:Nat) (t:Bool) (d:Option Nat) (aa:List CO) (sl:Sl) (hp:Hp) (K:Sl→Hp→Prop) (e:Option Zf),V1 X M false nx i t d aa sl hp K e=Y1 X M nx (i+1) false aa (Zs sl d (.tup [])) hp K) ∧
  (∀ (hp:Hp) (ids:List Nat),(ids.filter fun i=>ZhG (lkp hp i))=ZqY hp ids)∧(∀ (hp:Hp) (ids:List Nat),(ids.any fun i=>Zcd (lkp hp i))=Zui hp ids) ∧
  (∀ (hp:Hp) (rs ids:List Nat),Zbu hp rs ids=Zuh hp rs ids):=
 ⟨fun X M _ _ _ _ _ _ _ _=>gA X M ..,fun X M _ _ _ _ _ _ _ _=>gB X M ..,fun X M _ _ _ _ _ _ _ _ _=>gC X M ..,fun X M _ _ _ _ _ _ _ _ _=>gD X M ..,gE,gG,gF⟩
theorem cE {X:Fns} {M:Zr} {f:Nat} {xs:List AV} {h:List Zm} {fn:Zp} {r:AV×List Zm} (hr:W X M fn.body { sl:=Wa 0 xs,hp:=Wf 0 h,nx:=h.length,m:=h.length } (ZvN h.length fn.res fun q=>q=r)) (hx:X f=some (.text fn):=by exact rfl) (hl:xs.length≤fn.nt:=by exact Nat.le_of_ble_eq_true rfl):Zd X M f xs h=some r:=callE X M fn hx hl hr
theorem cW {X:Fns} {M:Zr} {f:Nat} {xs:List AV} {h:List Zm} {fn:Zp} {R:AV×List Zm→Prop} (hr:W X M fn.body { sl:=Wa 0 xs,hp:=Wf 0 h,nx:=h.length,m:=h.length } (ZvN h.length fn.res R)) (hx:X f=some (.text fn):=by exact rfl) (hl:xs.length≤fn.nt:=by exact Nat.le_of_ble_eq_true rfl):∃ r,Zd X M f xs h=some r∧R r:=ZC4 X M fn hx hl hr
theorem LO {X:Fns} {M:Zr} {α:Type} (u:α→Sl) (uh:α→Hp) (I:α→Prop) (μ:α→Nat) (a:α) {c:ZN} {K:List Nat} {Q:Ex→St→Prop} {st st0:St} (ha:I a)
  (step:∀ a,I a→(∀ b st,I b→μ b<μ a→UW K st=⟨Ztm st0.sl (u b),ZjU st0.hp (uh b),st0.nx,st0.m⟩→LW X M c K st Q)→W X M c ⟨Ztm st0.sl (u a),ZjU st0.hp (uh a),st0.nx,st0.m⟩ (ZqX X M c K Q))
  (hc:UW K st=st0:=by simp +contextual -implicitDefEqProofs (maxSteps:=10^7) only[go_sem,seval]<;>exact rfl) (h0:(⟨Ztm st0.sl (u a),ZjU st0.hp (uh a),st0.nx,st0.m⟩:St)=st0:=by exact rfl):LW X M c K st Q:=X1 X M u uh I μ a hc ha h0 step
theorem W4 {x:Int} (h1 : -9223372036854775808≤x) (h2:x<9223372036854775808):IntKind.i64.wrap x=x:=by
 unfold IntKind.wrap;simp only[IntKind.bits,IntKind.signed];simp;split<;>omega
theorem Zg {k:Nat} (h:k<4611686018427387904):IntKind.i64.wrap ((k:Int)+1)=((k+1:Nat):Int):=by
 rw[W4 o_ o_];omega
@[go_sem] theorem wrap_0:IntKind.i64.wrap 0=0:=W4 o_ o_
@[go_sem] theorem wrap_1:IntKind.i64.wrap 1=1:=W4 o_ o_
@[go_sem] theorem wrap_2:IntKind.i64.wrap 2=2:=W4 o_ o_
@[go_sem] theorem wrap_3:IntKind.i64.wrap 3=3:=W4 o_ o_
def R64 (x:Int):Prop:=-9223372036854775808≤x∧x<9223372036854775808
theorem wi (x:Int) : -9223372036854775808≤x→x<9223372036854775808→IntKind.i64.wrap x=x:=fun h1 h2=>W4 h1 h2
theorem Zb3 {p q:Prop} [Decidable p] [Decidable q] {h:List Zm} (e:p↔q):((AV.d (.bool (decide p)),h):AV×List Zm)=(AV.d (.bool (decide q)),h):=by
 have:decide p=decide q:=decide_eq_decide.2 e;rw[this]
theorem ZAC {q:Prop} [Decidable q] {h:List Zm} (e:q):((AV.d (.bool true),h):AV×List Zm)=(AV.d (.bool (decide q)),h):=by simp[e]
theorem ZhB {q:Prop} [Decidable q] {h:List Zm} (e:¬q):((AV.d (.bool false),h):AV×List Zm)=(AV.d (.bool (decide q)),h):=by simp[e]
structure Box where
 X:Int
 Y:Int
 W:Int
 H:Int
deriving DecidableEq,Inhabited
structure Pane where
 W:Int
 H:Int
 Turns:Bool
 Kind:Int
deriving DecidableEq,Inhabited
structure Zc where
 Pane:Pane
 Count:Int
deriving DecidableEq,Inhabited
structure Zv where
 W:Int
 H:Int
 Panes:List Pane
deriving DecidableEq,Inhabited
inductive Ze where
 | mk (Op At Pane:Int) (Turned:Bool) (Kids:List Ze)
structure Place where
 Pane:Int
 Turned:Bool
 Box:Box
deriving DecidableEq,Inhabited
structure Zb where
 Label:Int
 W:Int
 H:Int
 Flaws:List Box
deriving DecidableEq,Inhabited
structure Zo where
 Stock:List Zb
 Opn:List Zc
 Done:List Zc
 Lost:Int
 Came:Int
deriving DecidableEq,Inhabited
abbrev i64 (n:Int):D:=.int .i64 n
abbrev J (n:Int):D:=.int .i64 n
@[go_sem] def Box.enc (b:Box):D:=.agg [.int .i64 b.X,.int .i64 b.Y,.int .i64 b.W,.int .i64 b.H]
@[go_sem] def Pane.enc (p:Pane):D:=.agg [.int .i64 p.W,.int .i64 p.H,.bool p.Turns,.int .i64 p.Kind]
@[go_sem] def Zc.enc (l:Zc):D:=.agg [.int .i64 l.Pane.W,.int .i64 l.Pane.H,.bool l.Pane.Turns,.int .i64 l.Pane.Kind,.int .i64 l.Count]
@[go_sem] def Zv.enc (k:Zv):D:=.agg [.int .i64 k.W,.int .i64 k.H,.sl (k.Panes.map Pane.enc)]
@[go_sem] def Place.enc (p:Place):D:=.agg [.int .i64 p.Pane,.bool p.Turned,.int .i64 p.Box.X,.int .i64 p.Box.Y,.int .i64 p.Box.W,.int .i64 p.Box.H]
@[go_sem] def Zb.enc (p:Zb):D:=.agg [.int .i64 p.Label,.int .i64 p.W,.int .i64 p.H,.sl (p.Flaws.map Box.enc)]
@[go_sem] def Zo.enc (s:Zo):D:=.agg [.sl (s.Stock.map Zb.enc),.sl (s.Opn.map Zc.enc),.sl (s.Done.map Zc.enc),.int .i64 s.Lost,.int .i64 s.Came]
def XA (n:Int):D:=.int .i64 n
attribute [go_sem] XA
mutual
def Ze.enc:Ze→D
 | .mk o a p t ks=>.agg [.int .i64 o,.int .i64 a,.int .i64 p,.bool t,.sl (Ze.encL ks)]
def Ze.encL:List Ze→List D
 | []=>[]
 | p :: r=>Ze.enc p :: Ze.encL r
end
theorem Ze.encL_map:∀ (l:List Ze),Ze.encL l=l.map Ze.enc
 | []=>rfl
 | p :: r=>by simp[Ze.encL,Ze.encL_map r]
@[go_sem] theorem Ze.enc_mk (o a p:Int) (t:Bool) (ks:List Ze):Ze.enc (.mk o a p t ks)=.agg [.int .i64 o,.int .i64 a,.int .i64 p,.bool t,.sl (ks.map Ze.enc)]:=by
 rw[Ze.enc,Ze.encL_map]
theorem Zas {α:Type} {f:α→D} {s:Nat} (l:List α) (h:∀ x,(f x).cells.length=s):uni s (l.map f):=by
 intro y hy;obtain⟨x,_,rfl⟩:=Ll.1 hy;exact h x
theorem Zb4 {α:Type} {f:α→D} (l:List α) (h:∀ x,(f x).flat=true):Xm (l.map f):=by
 intro y hy;obtain⟨x,_,rfl⟩:=Ll.1 hy;exact h x
def YU (b:UInt8):D:=.int .u8 b.toNat
@[go_sem] theorem uni_encU (l:List UInt8):uni 1 (l.map YU)=True:=eq_true (Zas l fun _=>rfl)
@[go_sem] theorem uni_encI (l:List Int):uni 1 (l.map XA)=True:=eq_true (Zas l fun _=>rfl)
@[go_sem] theorem uni_Box (l:List Box):uni 4 (l.map Box.enc)=True:=eq_true (Zas l fun _=>rfl)
@[go_sem] theorem uni_Pane (l:List Pane):uni 4 (l.map Pane.enc)=True:=eq_true (Zas l fun _=>rfl)
@[go_sem] theorem Zxe (l:List Zc):uni 5 (l.map Zc.enc)=True:=eq_true (Zas l fun _=>rfl)
@[go_sem] theorem uni_Place (l:List Place):uni 6 (l.map Place.enc)=True:=eq_true (Zas l fun _=>rfl)
@[go_sem] theorem uni_Piece (l:List Zb):uni 4 (l.map Zb.enc)=True:=eq_true (Zas l fun _=>rfl)
@[go_sem] theorem flat_encU (l:List UInt8):Xm (l.map YU)=True:=eq_true (Zb4 l fun _=>rfl)
@[go_sem] theorem flat_encI (l:List Int):Xm (l.map XA)=True:=eq_true (Zb4 l fun _=>rfl)
@[go_sem] theorem flat_Box (l:List Box):Xm (l.map Box.enc)=True:=eq_true (Zb4 l fun _=>rfl)
@[go_sem] theorem flat_Pane (l:List Pane):Xm (l.map Pane.enc)=True:=eq_true (Zb4 l fun _=>rfl)
@[go_sem] theorem Zur (l:List Zc):Xm (l.map Zc.enc)=True:=eq_true (Zb4 l fun _=>rfl)
@[go_sem] theorem ZGb (l:List Place):Xm (l.map Place.enc)=True:=eq_true (Zb4 l fun _=>rfl)
@[go_sem] theorem uni_cons (s:Nat) (x:D) (l:List D):uni s (x :: l)=(x.cells.length=s∧uni s l):=by
 simp[uni]
@[go_sem] theorem uni_nil (s:Nat):uni s []=True:=by simp[uni]
@[go_sem] theorem flat_cons (x:D) (l:List D):Xm (x :: l)=(x.flat=true∧Xm l):=by
 simp[Xm]
@[go_sem] theorem flat_nil:Xm []=True:=by simp[Xm]
@[go_sem] theorem take_map {α β:Type} (f:α→β) (l:List α) (i:Nat):(l.map f).take i=(l.take i).map f:=List.map_take.symm
@[go_sem] theorem drop_map {α β:Type} (f:α→β) (l:List α) (i:Nat):(l.map f).drop i=(l.drop i).map f:=List.map_drop.symm
theorem ZBL {x y:Int} (aa:0≤x) (hx:x<4611686018427387904) (ab:0≤y) (hy:y<4611686018427387904) :
  ∃ z:Int,0≤z∧z<4611686018427387904∧IntKind.i64.wrap ((BitVec.ofInt IntKind.i64.bits x ^^^ BitVec.ofInt IntKind.i64.bits y).toNat:Int)=z:=by
 have h1:(BitVec.ofInt IntKind.i64.bits x).toNat=x.toNat:=by
  simp only[IntKind.bits,BitVec.toNat_ofInt];congr 1
  omega
 have h2:(BitVec.ofInt IntKind.i64.bits y).toNat=y.toNat:=by
  simp only[IntKind.bits,BitVec.toNat_ofInt];congr 1
  omega
 rw[BitVec.toNat_xor,h1,h2];have h3:x.toNat ^^^ y.toNat<2 ^ 62:=Nat.xor_lt_two_pow o_ o_;exact⟨_,o_,o_,W4 o_ o_⟩
def VB (b:Box):Prop:=1≤b.W∧b.W≤200∧1≤b.H∧b.H≤200∧0≤b.X∧b.X+b.W≤200∧0≤b.Y∧b.Y+b.H≤200
instance (b:Box):Decidable (VB b):=by unfold VB;infer_instance
def QI (a b:Box):Prop:=b.X≤a.X∧b.Y≤a.Y∧a.X+a.W≤b.X+b.W∧a.Y+a.H≤b.Y+b.H
instance (a b:Box):Decidable (QI a b):=by unfold QI;infer_instance
def Yk (a b:Box):Prop:=a.X<b.X+b.W∧b.X<a.X+a.W∧a.Y<b.Y+b.H∧b.Y<a.Y+a.H
instance (a b:Box):Decidable (Yk a b):=by unfold Yk;infer_instance
def Zg0 (a b:Box):Box:=⟨max a.X b.X,max a.Y b.Y,min (a.X+a.W) (b.X+b.W)-max a.X b.X,min (a.Y+a.H) (b.Y+b.H)-max a.Y b.Y⟩
def VP (p:Pane):Prop:=1≤p.W∧p.W≤200∧1≤p.H∧p.H≤200∧0≤p.Kind∧p.Kind≤9
instance (p:Pane):Decidable (VP p):=by unfold VP;infer_instance
theorem Zn {α:Type} {l:List α} {k:Nat} (h:k<l.length):∃ x,l[k]?=some x:=⟨l[k],by simp[h]⟩
attribute [go_sem] Nat.lt_irrefl Int.lt_irrefl Nat.le_refl Int.le_refl List.length_map List.getElem?_map Int.toNat_natCast List.length_append
@[go_sem] theorem app_map {α β:Type} (f:α→β) (l m:List α):l.map f++m.map f=(l++m).map f:=List.map_append.symm
@[go_sem] theorem cast0:((0:Nat):Int)=0:=rfl
@[go_sem] theorem cast1:((1:Nat):Int)=1:=rfl
@[go_sem] theorem ZGc (n:Nat):(0≤(n:Int))=True:=by simp
@[go_sem] theorem cast_lt (a b:Nat):((a:Int)<(b:Int))=(a<b):=by simp
@[go_sem] theorem cast_le (a b:Nat):((a:Int)≤(b:Int))=(a≤b):=by simp
@[go_sem] theorem cast_eq (a b:Nat):((a:Int)=(b:Int))=(a=b):=by simp[Int.ofNat_inj]
@[go_sem] theorem Box.eta (b:Box):Box.mk b.X b.Y b.W b.H=b:=rfl
@[go_sem] theorem Pane.eta (b:Pane):Pane.mk b.W b.H b.Turns b.Kind=b:=rfl
@[go_sem] theorem Zc.eta (b:Zc):Zc.mk b.Pane b.Count=b:=rfl
@[go_sem] theorem Place.eta (b:Place):Place.mk b.Pane b.Turned b.Box=b:=rfl
@[go_sem] theorem Zb.eta (b:Zb):Zb.mk b.Label b.W b.H b.Flaws=b:=rfl
@[go_sem] theorem Zv.eta (b:Zv):Zv.mk b.W b.H b.Panes=b:=rfl
@[go_sem] theorem Zo.eta (b:Zo):Zo.mk b.Stock b.Opn b.Done b.Lost b.Came=b:=rfl
end Go.Abs.L
