/- The abstract semantics: data,abstract values,own objects,and what each operation of the model's code does to them. Own text. -/
import Derived.Orders
import Derived.Laws.AppendOwn
set_option linter.unusedVariables false
set_option linter.unusedSimpArgs false
namespace Go.Abs
open Go
inductive D where
 | int (k:IntKind) (n:Int)
 | bool (b:Bool)
 | str (s:List UInt8)
 | sl (xs:List D)
 | agg (cs:List D)
def D.cells:D→List D
 | .agg cs=>cs
 | .int k n=>[.int k n]
 | .bool b=>[.bool b]
 | .str s=>[.str s]
 | .sl xs=>[.sl xs]
def D.plain:D→Bool
 | .int _ _=>true
 | .bool _=>true
 | .str _=>true
 | .sl _=>false
 | .agg _=>false
def D.one:D→Bool
 | .int _ _=>true
 | .bool _=>true
 | .str _=>true
 | .sl _=>true
 | .agg _=>false
def ZdT (p:D→Bool):List D→Bool
 | []=>true
 | x :: xs=>p x&&ZdT p xs
def D.flat (d:D):Bool:=ZdT D.plain d.cells
inductive AV where
 | d (x:D)
 | nil
 | nilp
 | nili
 | ptr (id off:Nat)
 | prow (id sz i off:Nat)
 | pim (cs:List D)
 | own (id:Nat)
 | ownv (id off len:Nat)
 | sub (id nm:Nat)
 | bnil (id e:Nat)
 | bbuf (te:Nat) (l:List UInt8)
 | agg (cs:List AV)
 | tup (vs:List AV)
 | clo (f:Nat) (caps:List AV)
 | junk
inductive Zo where
 | box (cs:List AV)
 | row (sz:Nat) (xs:List D) (ex fz:Bool)
 | deep (sz ns:Nat) (xs:List D) (lk:Option (Nat×Nat×Nat))
abbrev Hp:=List (Nat×Zo)
abbrev Sl:=List (Nat×AV)
def bnd {α β:Type} (x:Option α) (f:α→Option β):Option β:=match x with
 | some a=>f a
 | none=>none
@[congr] theorem bnd_congr {α β:Type} {x y:Option α} {f:α→Option β} (h:x=y):bnd x f=bnd y f:=by rw[h]
theorem Zf {α β:Type} (a:α) (f:α→Option β):bnd (some a) f=f a:=rfl
theorem ZAi {α β:Type} (f:α→Option β):bnd none f=none:=rfl
theorem ZCz {α β:Type} (c:Prop) [Decidable c] (a b:Option α) (f:α→Option β):bnd (if c then a else b) f=if c then bnd a f else bnd b f:=by split<;>rfl
theorem Za {α β:Type} {x:Option α} {f:α→Option β} {r:β} (h:bnd x f=some r):∃ a,x=some a∧f a=some r:=by
 cases x with
 | none=>cases h
 | some a=>exact⟨a,rfl,h⟩
def lkp {α:Type}:List (Nat×α)→Nat→Option α
 | [],_=>none
 | (k,v) :: r,t=>if k=t then some v else lkp r t
def ins {α:Type}:List (Nat×α)→Nat→α→List (Nat×α)
 | [],t,v=>[(t,v)]
 | (k,v) :: r,t,x=>if k<t then (t,x) :: (k,v) :: r else if k=t then (t,x) :: r else (k,v) :: ins r t x
def Zfu:Option AV→AV
 | some v=>v
 | none=>.junk
def gs (sl:Sl) (t:Nat):AV:=Zfu (lkp sl t)
structure St where
 sl:Sl
 hp:Hp
 nx:Nat
 m:Nat
def ZoE:AV→Option D
 | .d x=>if x.one then some x else none
 | _=>none
def Zg5:List AV→Option (List D)
 | []=>some []
 | v :: r=>bnd (ZoE v) fun x=>bnd (Zg5 r) fun ds=>some (x :: ds)
def YM:List AV→Bool
 | []=>true
 | .bbuf _ _ :: _=>false
 | _ :: r=>YM r
def ZrA:AV→Bool
 | .clo _ _=>true
 | _=>false
def Zg6:List AV→Bool
 | []=>false
 | v :: r=>ZrA v || Zg6 r
def Zac (cs:List AV):Option (List D)→AV
 | some ds=>.d (.agg ds)
 | none=>if Zg6 cs then .junk else .agg cs
def AV.solid:AV→Bool
 | .junk=>false
 | .bbuf _ _=>false
 | .tup _=>false
 | _=>true
def Vj:List AV→Bool
 | []=>true
 | v :: r=>v.solid&&Vj r
def ZaT (cs:List AV):AV:=Zac cs (Zg5 cs)
def AV.cells:AV→List AV
 | .agg cs=>cs
 | .d x=>x.cells.map .d
 | .nil=>[.nil] | .nilp=>[.nilp] | .nili=>[.nili] | .ptr a b=>[.ptr a b] | .prow a b c e=>[.prow a b c e] | .pim cs=>[.pim cs]
 | .own a=>[.own a] | .ownv a b c=>[.ownv a b c] | .sub a b=>[.sub a b] | .bnil a b=>[.bnil a b] | .bbuf a b=>[.bbuf a b] | .tup vs=>[.tup vs] | .clo f c=>[.clo f c] | .junk=>[.junk]
def JE:Value→AV
 | .bool b=>.d (.bool b)
 | .int k n=>.d (.int k n)
 | .string s=>.d (.str s.data.toList)
 | .slice none 0 0=>.nil
 | .pointer none=>.nilp
 | .nilIface=>.nili
 | _=>.junk
def evC:Value→AV
 | .agg cs=>ZaT (cs.toList.map JE)
 | v=>JE v
def ev (sl:Sl):Operand→AV
 | .tmp t=>gs sl t
 | .const v=>evC v
 | .global _=>.junk
 | .func f=>.clo f []
def Zt8:Value→Option D
 | .bool b=>some (.bool b)
 | .int k n=>some (.int k n)
 | .string s=>some (.str s.data.toList)
 | .slice none 0 0=>some (.sl [])
 | _=>none
def Q6 {α β:Type} (f:α→Option β):List α→Option (List β)
 | []=>some []
 | x :: r=>bnd (f x) fun y=>bnd (Q6 f r) fun ys=>some (y :: ys)
def evD:Value→Option D
 | .agg cs=>bnd (Q6 Zt8 cs.toList) fun ds=>some (.agg ds)
 | v=>Zt8 v
def ZaU:Option Zo→Option (List D)
 | some (.row _ xs _ _)=>some xs
 | some (.deep _ _ xs _)=>some xs
 | _=>none
def ZjY (hp:Hp):AV→Option D
 | .d x=>some x
 | .nil=>some (.sl [])
 | .own id=>bnd (ZaU (lkp hp id)) fun xs=>some (.sl xs)
 | .ownv id off n=>bnd (ZaU (lkp hp id)) fun xs=>some (.sl ((xs.drop off).take n))
 | _=>none
def toD (hp:Hp):AV→Option D
 | .agg cs=>bnd (Q6 (ZjY hp) cs) fun ds=>if ZdT D.one ds then some (.agg ds) else none
 | v=>ZjY hp v
def Zdk:AV→List Nat
 | .own id=>[id]
 | .ownv id _ _=>[id]
 | _=>[]
def Zg7:AV→List Nat
 | .agg cs=>cs.flatMap Zdk
 | v=>Zdk v
def Zp:AV→List Nat
 | .own id=>[id]
 | .ownv id _ _=>[id]
 | .ptr id _=>[id]
 | .prow id _ _ _=>[id]
 | .sub id nm=>[id,nm]
 | .bnil id _=>[id]
 | .junk | .bbuf _ _ | .d _ | .nil | .nilp | .nili | .pim _ | .agg _ | .tup _ | .clo _ _=>[]
def ZJ:AV→List Nat
 | .agg cs=>cs.flatMap Zp
 | .clo _ cs=>cs.flatMap Zp
 | v=>Zp v
def ZI:AV→List Nat
 | .tup vs=>vs.flatMap ZJ
 | v=>ZJ v
def Zcq:Zo→List Nat
 | .box cs=>cs.flatMap ZJ
 | .row _ _ _ _=>[]
 | .deep _ _ _ _=>[]
def Zgl (g:Nat→Nat):AV→AV
 | .own id=>.own (g id)
 | .ownv id a b=>.ownv (g id) a b
 | .ptr id o=>.ptr (g id) o
 | .prow id s i o=>.prow (g id) s i o
 | .sub id nm=>.sub (g id) (g nm)
 | .bnil id e=>.bnil (g id) e
 | v=>v
def Zgm (g:Nat→Nat):AV→AV
 | .agg cs=>.agg (cs.map (Zgl g))
 | .clo f cs=>.clo f (cs.map (Zgl g))
 | v=>Zgl g v
def ren (g:Nat→Nat):AV→AV
 | .tup vs=>.tup (vs.map (Zgm g))
 | v=>Zgm g v
def Zn0 (g:Nat→Nat):Zo→Zo
 | .box cs=>.box (cs.map (Zgm g))
 | .row s x e f=>.row s x e f
 | .deep s n x _=>.deep s n x none
def Qr (bad:List Nat):AV→AV
 | .own id=>if bad.contains id then .junk else .own id
 | .ownv id a b=>if bad.contains id then .junk else .ownv id a b
 | .ptr id o=>if bad.contains id then .junk else .ptr id o
 | .prow id s i o=>if bad.contains id then .junk else .prow id s i o
 | .sub id nm=>if bad.contains id || bad.contains nm then .junk else .sub id nm
 | .bnil id e=>if bad.contains id then .junk else .bnil id e
 | v=>v
def Z6 (bad:List Nat):AV→AV
 | .agg cs=>.agg (cs.map (Qr bad))
 | .clo f cs=>.clo f (cs.map (Qr bad))
 | v=>Qr bad v
def kill (bad:List Nat):AV→AV
 | .tup vs=>.tup (vs.map (Z6 bad))
 | v=>Z6 bad v
def Zin (bad:List Nat):Option (Nat×Nat×Nat)→Option (Nat×Nat×Nat)
 | some q=>if bad.contains q.1 then none else some q
 | none=>none
def YN (bad:List Nat):Zo→Zo
 | .box cs=>.box (cs.map (Z6 bad))
 | .row s x e f=>.row s x e f
 | .deep s n x l=>.deep s n x (Zin bad l)
def ZjZ {α β:Type} (f:α→β):List (Nat×α)→List (Nat×β)
 | []=>[]
 | (k,v) :: r=>(k,f v) :: ZjZ f r
def WK:Zo→Zo
 | .row s x e _=>.row s x e true
 | .deep s n x l=>.deep s n x l
 | o=>o
def freeze (ids:List Nat):Hp→Hp
 | []=>[]
 | (k,o) :: r=>(k,if ids.contains k then WK o else o) :: freeze ids r
def Zla:Option Zo→Option (List D×Bool)
 | some (.row _ xs ex _)=>some (xs,ex)
 | _=>none
def Zdl (hp:Hp):AV→Option (D×Bool×List Nat)
 | .d x=>some (x,x.flat,[])
 | .nil=>some (.sl [],true,[])
 | .own id=>bnd (Zla (lkp hp id)) fun q=>some (.sl q.1,q.2,[id])
 | _=>none
def Uy (hp:Hp):List AV→Option (List D×Bool×List Nat)
 | []=>some ([],true,[])
 | v :: r=>bnd (Zdl hp v) fun q=>bnd (Uy hp r) fun p=>
   if q.1.one&&!q.2.2.any p.2.2.contains then some (q.1 :: p.1,q.2.1&&p.2.1,q.2.2++p.2.2) else none
def give (hp:Hp):AV→Option (D×Bool×List Nat)
 | .agg cs=>bnd (Uy hp cs) fun p=>some (.agg p.1,p.2.1,p.2.2)
 | v=>Zdl hp v
def Jb (hp:Hp):List AV→Option (List D×Bool×List Nat)
 | []=>some ([],true,[])
 | v :: r=>bnd (give hp v) fun q=>bnd (Jb hp r) fun p=>
   if !q.2.2.any p.2.2.contains then some (q.1 :: p.1,q.2.1&&p.2.1,q.2.2++p.2.2) else none
def Qp {α:Type} (cs:List α) (off:Nat) (vs:List α):List α:=cs.take off++vs++cs.drop (off+vs.length)
def Zg8 (x:D) (off:Nat) (ds:List D):D:=match x with
 | .agg cs=>.agg (Qp cs off ds)
 | _=>ds.headD x
def JP (op:BinOp) (k:IntKind) (a b:Int):Option D:=
 match op with
 | .add=>some (.int k (k.wrap (a+b)))
 | .sub=>some (.int k (k.wrap (a-b)))
 | .mul=>some (.int k (k.wrap (a*b)))
 | .quo=>if b=0 then none else some (.int k (k.wrap (a.tdiv b)))
 | .rem=>if b=0 then none else some (.int k (a.tmod b))
 | .and=>some (.int k (k.wrap (BitVec.ofInt k.bits a &&& BitVec.ofInt k.bits b).toNat))
 | .or=>some (.int k (k.wrap (BitVec.ofInt k.bits a ||| BitVec.ofInt k.bits b).toNat))
 | .xor=>some (.int k (k.wrap (BitVec.ofInt k.bits a ^^^ BitVec.ofInt k.bits b).toNat))
 | .andNot=>some (.int k (k.wrap (BitVec.ofInt k.bits a &&& ~~~(BitVec.ofInt k.bits b)).toNat))
 | .eql=>some (.bool (a==b))
 | .neq=>some (.bool (a != b))
 | .lss=>some (.bool (decide (a<b)))
 | .leq=>some (.bool (decide (a≤b)))
 | .gtr=>some (.bool (decide (a>b)))
 | .geq=>some (.bool (decide (a≥b)))
 | .shl | .shr=>none
def Zmm (op:BinOp) (k:IntKind) (a b:Int):Option D:=
 if b<0 then none else
 match op with
 | .shl=>some (.int k (k.wrap (a*2 ^ (min b.toNat k.bits))))
 | .shr=>some (.int k (a.fdiv (2 ^ (min b.toNat k.bits))))
 | _=>none
def Zv3:Nat:=1152921504606846976
def Zt9 (op:BinOp) (a b:List UInt8):Option D:=
 match op with
 | .add=>if a.length+b.length≤Zv3 then some (.str (a++b)) else none
 | .eql=>some (.bool (a==b))
 | .neq=>some (.bool (!(a==b)))
 | _=>none
def D.beq1:D→D→Option Bool
 | .int _ a,.int _ b=>some (a==b)
 | .bool a,.bool b=>some (a==b)
 | .str a,.str b=>some (a==b)
 | _,_=>none
def beqL:List D→List D→Option Bool
 | [],[]=>some true
 | x :: xs,y :: ys=>bnd (D.beq1 x y) fun a=>bnd (beqL xs ys) fun b=>some (a&&b)
 | _,_=>none
def agg2 (op:BinOp) (r:Option Bool):Option AV:=match op with
 | .eql=>bnd r fun r=>some (.d (.bool r))
 | .neq=>bnd r fun r=>some (.d (.bool (!r)))
 | _=>none
def asD (r:Option D):Option AV:=bnd r fun x=>some (.d x)
def ZaV (op:BinOp) (k k' : IntKind) (a b:Int):Option AV:=match op with
 | .shl | .shr=>asD (Zmm op k a b)
 | _=>if k=k' then asD (JP op k a b) else none
def ZrB (op:BinOp) (a b:Bool):Option AV:=match op with
 | .eql=>some (.d (.bool (a==b)))
 | .neq=>some (.d (.bool (!(a==b))))
 | _=>none
def vbin (op:BinOp):AV→AV→Option AV
 | .d (.int k a),.d (.int k' b)=>ZaV op k k' a b
 | .d (.str a),.d (.str b)=>asD (Zt9 op a b)
 | _,_=>none
def neg1 (op:UnOp) (k:IntKind) (a:Int):Option AV:=match op with
 | .neg=>some (.d (.int k (k.wrap (0-a))))
 | _=>none
def not1 (op:UnOp) (a:Bool):Option AV:=match op with
 | .not=>some (.d (.bool (!a)))
 | _=>none
def vun (op:UnOp):AV→Option AV
 | .d (.int k a)=>neg1 op k a
 | .d (.bool a)=>not1 op a
 | _=>none
def Zfv (hp:Hp):AV→Option Nat
 | .d (.sl xs)=>some xs.length
 | .nil=>some 0
 | .own id=>bnd (ZaU (lkp hp id)) fun xs=>some xs.length
 | .ownv _ _ n=>some n
 | _=>none
def ZyI:AV→Option Nat
 | .d (.str s)=>some s.length
 | _=>none
def minI (a b:Int):Int:=if b<a then b else a
def maxI (a b:Int):Int:=if b>a then b else a
end Go.Abs
