/- The abstract semantics: data,abstract values,own objects,and what each operation of the model's code does to them. Own text. -/
import Derived.Orders
import Derived.Laws.AppendOwn
set_option linter.unusedVariables false
set_option linter.unusedSimpArgs false
namespace Go.Abs
open Go
inductive D where
 | int (k:IntKind) (n:Int)
 | bool (b:Bool)
 | str (s:List UInt8)
 | sl (xs:List D)
 | agg (cs:List D)
def D.cells:D→List D
 | .agg cs=>cs
 | .int k n=>[.int k n]
 | .bool b=>[.bool b]
 | .str s=>[.str s]
 | .sl xs=>[.sl xs]
def D.plain:D→Bool
 | .int _ _=>true
 | .bool _=>true
 | .str _=>true
 | .sl _=>false
 | .agg _=>false
def D.one:D→Bool
 | .int _ _=>true
 | .bool _=>true
 | .str _=>true
 | .sl _=>true
 | .agg _=>false
def Zb1 (p:D→Bool):List D→Bool
 | []=>true
 | x :: xs=>p x&&Zb1 p xs
def D.flat (d:D):Bool:=Zb1 D.plain d.cells
inductive AV where
 | d (x:D)
 | nil
 | nilp
 | nili
 | ptr (id off:Nat)
 | prow (id sz i off:Nat)
 | pim (cs:List D)
 | own (id:Nat)
 | ownv (id off len:Nat)
 | sub (id nm:Nat)
 | bnil (id e:Nat)
 | bbuf (te:Nat) (l:List UInt8)
 | agg (cs:List AV)
 | tup (vs:List AV)
 | clo (f:Nat) (caps:List AV)
 | junk
inductive Zl where
 | box (cs:List AV)
 | row (sz:Nat) (xs:List D) (ex fz:Bool)
 | deep (sz ns:Nat) (xs:List D) (lk:Option (Nat×Nat×Nat))
abbrev Hp:=List (Nat×Zl)
abbrev Sl:=List (Nat×AV)
def bnd {α β:Type} (x:Option α) (f:α→Option β):Option β:=match x with
 | some a=>f a
 | none=>none
@[congr] theorem bnd_congr {α β:Type} {x y:Option α} {f:α→Option β} (h:x=y):bnd x f=bnd y f:=by rw[h]
theorem Ze {α β:Type} (a:α) (f:α→Option β):bnd (some a) f=f a:=rfl
theorem Zxk {α β:Type} (f:α→Option β):bnd none f=none:=rfl
theorem Zz3 {α β:Type} (c:Prop) [Decidable c] (a b:Option α) (f:α→Option β):bnd (if c then a else b) f=if c then bnd a f else bnd b f:=by split<;>rfl
theorem Za {α β:Type} {x:Option α} {f:α→Option β} {r:β} (h:bnd x f=some r):∃ a,x=some a∧f a=some r:=by
 cases x with
 | none=>cases h
 | some a=>exact⟨a,rfl,h⟩
def lkp {α:Type}:List (Nat×α)→Nat→Option α
 | [],_=>none
 | (k,v) :: r,t=>if k=t then some v else lkp r t
def ins {α:Type}:List (Nat×α)→Nat→α→List (Nat×α)
 | [],t,v=>[(t,v)]
 | (k,v) :: r,t,x=>if k<t then (t,x) :: (k,v) :: r else if k=t then (t,x) :: r else (k,v) :: ins r t x
def ZcR:Option AV→AV
 | some v=>v
 | none=>.junk
def gs (sl:Sl) (t:Nat):AV:=ZcR (lkp sl t)
structure St where
 sl:Sl
 hp:Hp
 nx:Nat
 m:Nat
def ZlN:AV→Option D
 | .d x=>if x.one then some x else none
 | _=>none
def Zd0:List AV→Option (List D)
 | []=>some []
 | v :: r=>bnd (ZlN v) fun x=>bnd (Zd0 r) fun ds=>some (x :: ds)
def X7:List AV→Bool
 | []=>true
 | .bbuf _ _ :: _=>false
 | _ :: r=>X7 r
def Zoy:AV→Bool
 | .clo _ _=>true
 | _=>false
def Zd1:List AV→Bool
 | []=>false
 | v :: r=>Zoy v || Zd1 r
def UX (cs:List AV):Option (List D)→AV
 | some ds=>.d (.agg ds)
 | none=>if Zd1 cs then .junk else .agg cs
def AV.solid:AV→Bool
 | .junk=>false
 | .bbuf _ _=>false
 | .tup _=>false
 | _=>true
def YE:List AV→Bool
 | []=>true
 | v :: r=>v.solid&&YE r
def JR (cs:List AV):AV:=UX cs (Zd0 cs)
def AV.cells:AV→List AV
 | .agg cs=>cs
 | .d x=>x.cells.map .d
 | .nil=>[.nil] | .nilp=>[.nilp] | .nili=>[.nili] | .ptr a b=>[.ptr a b] | .prow a b c e=>[.prow a b c e] | .pim cs=>[.pim cs]
 | .own a=>[.own a] | .ownv a b c=>[.ownv a b c] | .sub a b=>[.sub a b] | .bnil a b=>[.bnil a b] | .bbuf a b=>[.bbuf a b] | .tup vs=>[.tup vs] | .clo f c=>[.clo f c] | .junk=>[.junk]
def Us:Value→AV
 | .bool b=>.d (.bool b)
 | .int k n=>.d (.int k n)
 | .string s=>.d (.str s.data.toList)
 | .slice none 0 0=>.nil
 | .pointer none=>.nilp
 | .nilIface=>.nili
 | _=>.junk
def evC:Value→AV
 | .agg cs=>JR (cs.toList.map Us)
 | v=>Us v
def ev (sl:Sl):Operand→AV
 | .tmp t=>gs sl t
 | .const v=>evC v
 | .global _=>.junk
 | .func f=>.clo f []
def Zrz:Value→Option D
 | .bool b=>some (.bool b)
 | .int k n=>some (.int k n)
 | .string s=>some (.str s.data.toList)
 | .slice none 0 0=>some (.sl [])
 | _=>none
def QU {α β:Type} (f:α→Option β):List α→Option (List β)
 | []=>some []
 | x :: r=>bnd (f x) fun y=>bnd (QU f r) fun ys=>some (y :: ys)
def evD:Value→Option D
 | .agg cs=>bnd (QU Zrz cs.toList) fun ds=>some (.agg ds)
 | v=>Zrz v
def JS:Option Zl→Option (List D)
 | some (.row _ xs _ _)=>some xs
 | some (.deep _ _ xs _)=>some xs
 | _=>none
def Zgj (hp:Hp):AV→Option D
 | .d x=>some x
 | .nil=>some (.sl [])
 | .own id=>bnd (JS (lkp hp id)) fun xs=>some (.sl xs)
 | .ownv id off n=>bnd (JS (lkp hp id)) fun xs=>some (.sl ((xs.drop off).take n))
 | _=>none
def toD (hp:Hp):AV→Option D
 | .agg cs=>bnd (QU (Zgj hp) cs) fun ds=>if Zb1 D.one ds then some (.agg ds) else none
 | v=>Zgj hp v
def Zbh:AV→List Nat
 | .own id=>[id]
 | .ownv id _ _=>[id]
 | _=>[]
def Zd2:AV→List Nat
 | .agg cs=>cs.flatMap Zbh
 | v=>Zbh v
def Zm:AV→List Nat
 | .own id=>[id]
 | .ownv id _ _=>[id]
 | .ptr id _=>[id]
 | .prow id _ _ _=>[id]
 | .sub id nm=>[id,nm]
 | .bnil id _=>[id]
 | .junk | .bbuf _ _ | .d _ | .nil | .nilp | .nili | .pim _ | .agg _ | .tup _ | .clo _ _=>[]
def ZG:AV→List Nat
 | .agg cs=>cs.flatMap Zm
 | .clo _ cs=>cs.flatMap Zm
 | v=>Zm v
def ZF:AV→List Nat
 | .tup vs=>vs.flatMap ZG
 | v=>ZG v
def ZaS:Zl→List Nat
 | .box cs=>cs.flatMap ZG
 | .row _ _ _ _=>[]
 | .deep _ _ _ _=>[]
def Zdj (g:Nat→Nat):AV→AV
 | .own id=>.own (g id)
 | .ownv id a b=>.ownv (g id) a b
 | .ptr id o=>.ptr (g id) o
 | .prow id s i o=>.prow (g id) s i o
 | .sub id nm=>.sub (g id) (g nm)
 | .bnil id e=>.bnil (g id) e
 | v=>v
def Zdk (g:Nat→Nat):AV→AV
 | .agg cs=>.agg (cs.map (Zdj g))
 | .clo f cs=>.clo f (cs.map (Zdj g))
 | v=>Zdj g v
def ren (g:Nat→Nat):AV→AV
 | .tup vs=>.tup (vs.map (Zdk g))
 | v=>Zdk g v
def ZkC (g:Nat→Nat):Zl→Zl
 | .box cs=>.box (cs.map (Zdk g))
 | .row s x e f=>.row s x e f
 | .deep s n x _=>.deep s n x none
def Qk (bad:List Nat):AV→AV
 | .own id=>if bad.contains id then .junk else .own id
 | .ownv id a b=>if bad.contains id then .junk else .ownv id a b
 | .ptr id o=>if bad.contains id then .junk else .ptr id o
 | .prow id s i o=>if bad.contains id then .junk else .prow id s i o
 | .sub id nm=>if bad.contains id || bad.contains nm then .junk else .sub id nm
 | .bnil id e=>if bad.contains id then .junk else .bnil id e
 | v=>v
def Z0 (bad:List Nat):AV→AV
 | .agg cs=>.agg (cs.map (Qk bad))
 | .clo f cs=>.clo f (cs.map (Qk bad))
 | v=>Qk bad v
def kill (bad:List Nat):AV→AV
 | .tup vs=>.tup (vs.map (Z0 bad))
 | v=>Z0 bad v
def Ze8 (bad:List Nat):Option (Nat×Nat×Nat)→Option (Nat×Nat×Nat)
 | some q=>if bad.contains q.1 then none else some q
 | none=>none
def X8 (bad:List Nat):Zl→Zl
 | .box cs=>.box (cs.map (Z0 bad))
 | .row s x e f=>.row s x e f
 | .deep s n x l=>.deep s n x (Ze8 bad l)
def Zgk {α β:Type} (f:α→β):List (Nat×α)→List (Nat×β)
 | []=>[]
 | (k,v) :: r=>(k,f v) :: Zgk f r
def VR:Zl→Zl
 | .row s x e _=>.row s x e true
 | .deep s n x l=>.deep s n x l
 | o=>o
def freeze (ids:List Nat):Hp→Hp
 | []=>[]
 | (k,o) :: r=>(k,if ids.contains k then VR o else o) :: freeze ids r
def ZhO:Option Zl→Option (List D×Bool)
 | some (.row _ xs ex _)=>some (xs,ex)
 | _=>none
def Zbi (hp:Hp):AV→Option (D×Bool×List Nat)
 | .d x=>some (x,x.flat,[])
 | .nil=>some (.sl [],true,[])
 | .own id=>bnd (ZhO (lkp hp id)) fun q=>some (.sl q.1,q.2,[id])
 | _=>none
def Ws (hp:Hp):List AV→Option (List D×Bool×List Nat)
 | []=>some ([],true,[])
 | v :: r=>bnd (Zbi hp v) fun q=>bnd (Ws hp r) fun p=>
   if q.1.one&&!q.2.2.any p.2.2.contains then some (q.1 :: p.1,q.2.1&&p.2.1,q.2.2++p.2.2) else none
def give (hp:Hp):AV→Option (D×Bool×List Nat)
 | .agg cs=>bnd (Ws hp cs) fun p=>some (.agg p.1,p.2.1,p.2.2)
 | v=>Zbi hp v
def Ul (hp:Hp):List AV→Option (List D×Bool×List Nat)
 | []=>some ([],true,[])
 | v :: r=>bnd (give hp v) fun q=>bnd (Ul hp r) fun p=>
   if !q.2.2.any p.2.2.contains then some (q.1 :: p.1,q.2.1&&p.2.1,q.2.2++p.2.2) else none
def Qj {α:Type} (cs:List α) (off:Nat) (vs:List α):List α:=cs.take off++vs++cs.drop (off+vs.length)
def Zd3 (x:D) (off:Nat) (ds:List D):D:=match x with
 | .agg cs=>.agg (Qj cs off ds)
 | _=>ds.headD x
def UK (op:BinOp) (k:IntKind) (a b:Int):Option D:=
 match op with
 | .add=>some (.int k (k.wrap (a+b)))
 | .sub=>some (.int k (k.wrap (a-b)))
 | .mul=>some (.int k (k.wrap (a*b)))
 | .quo=>if b=0 then none else some (.int k (k.wrap (a.tdiv b)))
 | .rem=>if b=0 then none else some (.int k (a.tmod b))
 | .and=>some (.int k (k.wrap (BitVec.ofInt k.bits a &&& BitVec.ofInt k.bits b).toNat))
 | .or=>some (.int k (k.wrap (BitVec.ofInt k.bits a ||| BitVec.ofInt k.bits b).toNat))
 | .xor=>some (.int k (k.wrap (BitVec.ofInt k.bits a ^^^ BitVec.ofInt k.bits b).toNat))
 | .andNot=>some (.int k (k.wrap (BitVec.ofInt k.bits a &&& ~~~(BitVec.ofInt k.bits b)).toNat))
 | .eql=>some (.bool (a==b))
 | .neq=>some (.bool (a != b))
 | .lss=>some (.bool (decide (a<b)))
 | .leq=>some (.bool (decide (a≤b)))
 | .gtr=>some (.bool (decide (a>b)))
 | .geq=>some (.bool (decide (a≥b)))
 | .shl | .shr=>none
def ZiU (op:BinOp) (k:IntKind) (a b:Int):Option D:=
 if b<0 then none else
 match op with
 | .shl=>some (.int k (k.wrap (a*2 ^ (min b.toNat k.bits))))
 | .shr=>some (.int k (a.fdiv (2 ^ (min b.toNat k.bits))))
 | _=>none
def Ztc:Nat:=1152921504606846976
def ZrA (op:BinOp) (a b:List UInt8):Option D:=
 match op with
 | .add=>if a.length+b.length≤Ztc then some (.str (a++b)) else none
 | .eql=>some (.bool (a==b))
 | .neq=>some (.bool (!(a==b)))
 | _=>none
def D.beq1:D→D→Option Bool
 | .int _ a,.int _ b=>some (a==b)
 | .bool a,.bool b=>some (a==b)
 | .str a,.str b=>some (a==b)
 | _,_=>none
def beqL:List D→List D→Option Bool
 | [],[]=>some true
 | x :: xs,y :: ys=>bnd (D.beq1 x y) fun a=>bnd (beqL xs ys) fun b=>some (a&&b)
 | _,_=>none
def agg2 (op:BinOp) (r:Option Bool):Option AV:=match op with
 | .eql=>bnd r fun r=>some (.d (.bool r))
 | .neq=>bnd r fun r=>some (.d (.bool (!r)))
 | _=>none
def asD (r:Option D):Option AV:=bnd r fun x=>some (.d x)
def JT (op:BinOp) (k k' : IntKind) (a b:Int):Option AV:=match op with
 | .shl | .shr=>asD (ZiU op k a b)
 | _=>if k=k' then asD (UK op k a b) else none
def Zoz (op:BinOp) (a b:Bool):Option AV:=match op with
 | .eql=>some (.d (.bool (a==b)))
 | .neq=>some (.d (.bool (!(a==b))))
 | _=>none
def vbin (op:BinOp):AV→AV→Option AV
 | .d (.int k a),.d (.int k' b)=>JT op k k' a b
 | .d (.str a),.d (.str b)=>asD (ZrA op a b)
 | _,_=>none
def neg1 (op:UnOp) (k:IntKind) (a:Int):Option AV:=match op with
 | .neg=>some (.d (.int k (k.wrap (0-a))))
 | _=>none
def not1 (op:UnOp) (a:Bool):Option AV:=match op with
 | .not=>some (.d (.bool (!a)))
 | _=>none
def vun (op:UnOp):AV→Option AV
 | .d (.int k a)=>neg1 op k a
 | .d (.bool a)=>not1 op a
 | _=>none
def ZcS (hp:Hp):AV→Option Nat
 | .d (.sl xs)=>some xs.length
 | .nil=>some 0
 | .own id=>bnd (JS (lkp hp id)) fun xs=>some xs.length
 | .ownv _ _ n=>some n
 | _=>none
def Zvw:AV→Option Nat
 | .d (.str s)=>some s.length
 | _=>none
def minI (a b:Int):Int:=if b<a then b else a
def maxI (a b:Int):Int:=if b>a then b else a
end Go.Abs
