/- The abstract semantics: data,abstract values,own objects,and what each operation of the model's code does to them. Own text. -/
import Derived.Orders
import Derived.Laws.AppendOwn
set_option linter.unusedVariables false
set_option linter.unusedSimpArgs false
namespace Go.Abs
open Go
inductive D where
 | int (k:IntKind) (n:Int)
 | bool (b:Bool)
 | str (s:List UInt8)
 | sl (xs:List D)
 | agg (cs:List D)
def D.cells:D→List D
 | .agg cs=>cs
 | .int k n=>[.int k n]
 | .bool b=>[.bool b]
 | .str s=>[.str s]
 | .sl xs=>[.sl xs]
def D.plain:D→Bool
 | .int _ _=>true
 | .bool _=>true
 | .str _=>true
 | .sl _=>false
 | .agg _=>false
def D.one:D→Bool
 | .int _ _=>true
 | .bool _=>true
 | .str _=>true
 | .sl _=>true
 | .agg _=>false
def ZcV (p:D→Bool):List D→Bool
 | []=>true
 | x :: xs=>p x&&ZcV p xs
def D.flat (d:D):Bool:=ZcV D.plain d.cells
inductive AV where
 | d (x:D)
 | nil
 | nilp
 | nili
 | ptr (id off:Nat)
 | prow (id sz i off:Nat)
 | pim (cs:List D)
 | own (id:Nat)
 | ownv (id off len:Nat)
 | sub (id nm:Nat)
 | agg (cs:List AV)
 | tup (vs:List AV)
 | clo (f:Nat) (caps:List AV)
 | junk
inductive Zt where
 | box (cs:List AV)
 | row (sz:Nat) (xs:List D) (ex fz:Bool)
 | deep (sz ns:Nat) (xs:List D) (lk:Option (Nat×Nat×Nat))
abbrev Hp:=List (Nat×Zt)
abbrev Sl:=List (Nat×AV)
def bnd {α β:Type} (x:Option α) (f:α→Option β):Option β:=match x with
 | some a=>f a
 | none=>none
@[congr] theorem bnd_congr {α β:Type} {x y:Option α} {f:α→Option β} (h:x=y):bnd x f=bnd y f:=by rw[h]
theorem Zj {α β:Type} (a:α) (f:α→Option β):bnd (some a) f=f a:=rfl
theorem ZzH {α β:Type} (f:α→Option β):bnd none f=none:=rfl
theorem ZBP {α β:Type} (c:Prop) [Decidable c] (a b:Option α) (f:α→Option β):bnd (if c then a else b) f=if c then bnd a f else bnd b f:=by split<;>rfl
theorem Za {α β:Type} {x:Option α} {f:α→Option β} {r:β} (h:bnd x f=some r):∃ a,x=some a∧f a=some r:=by
 cases x with
 | none=>cases h
 | some a=>exact⟨a,rfl,h⟩
def lkp {α:Type}:List (Nat×α)→Nat→Option α
 | [],_=>none
 | (k,v) :: r,t=>if k=t then some v else lkp r t
def ins {α:Type}:List (Nat×α)→Nat→α→List (Nat×α)
 | [],t,v=>[(t,v)]
 | (k,v) :: r,t,x=>if k<t then (t,x) :: (k,v) :: r else if k=t then (t,x) :: r else (k,v) :: ins r t x
def ZeQ:Option AV→AV
 | some v=>v
 | none=>.junk
def gs (sl:Sl) (t:Nat):AV:=ZeQ (lkp sl t)
structure St where
 sl:Sl
 hp:Hp
 nx:Nat
 m:Nat
def Zo3:AV→Option D
 | .d x=>if x.one then some x else none
 | _=>none
def Zjl:List AV→Option (List D)
 | []=>some []
 | v :: r=>bnd (Zo3 v) fun x=>bnd (Zjl r) fun ds=>some (x :: ds)
def Zsl:AV→Bool
 | .clo _ _=>true
 | _=>false
def Zf0:List AV→Bool
 | []=>false
 | v :: r=>Zsl v || Zf0 r
def ZiQ (cs:List AV):Option (List D)→AV
 | some ds=>.d (.agg ds)
 | none=>if Zf0 cs then .junk else .agg cs
def AV.solid:AV→Bool
 | .junk=>false
 | .tup _=>false
 | _=>true
def Wl:List AV→Bool
 | []=>true
 | v :: r=>v.solid&&Wl r
def Zc9 (cs:List AV):AV:=ZiQ cs (Zjl cs)
def AV.cells:AV→List AV
 | .agg cs=>cs
 | .d x=>x.cells.map .d
 | .nil=>[.nil] | .nilp=>[.nilp] | .nili=>[.nili] | .ptr a b=>[.ptr a b] | .prow a b c e=>[.prow a b c e] | .pim cs=>[.pim cs]
 | .own a=>[.own a] | .ownv a b c=>[.ownv a b c] | .sub a b=>[.sub a b] | .tup vs=>[.tup vs] | .clo f c=>[.clo f c] | .junk=>[.junk]
def Znu:Value→AV
 | .bool b=>.d (.bool b)
 | .int k n=>.d (.int k n)
 | .string s=>.d (.str s.data.toList)
 | .slice none 0 0=>.nil
 | .pointer none=>.nilp
 | .nilIface=>.nili
 | _=>.junk
def evC:Value→AV
 | .agg cs=>Zc9 (cs.toList.map Znu)
 | v=>Znu v
def ev (sl:Sl):Operand→AV
 | .tmp t=>gs sl t
 | .const v=>evC v
 | .global _=>.junk
 | .func f=>.clo f []
def ZuN:Value→Option D
 | .bool b=>some (.bool b)
 | .int k n=>some (.int k n)
 | .string s=>some (.str s.data.toList)
 | .slice none 0 0=>some (.sl [])
 | _=>none
def QV {α β:Type} (f:α→Option β):List α→Option (List β)
 | []=>some []
 | x :: r=>bnd (f x) fun y=>bnd (QV f r) fun ys=>some (y :: ys)
def evD:Value→Option D
 | .agg cs=>bnd (QV ZuN cs.toList) fun ds=>some (.agg ds)
 | v=>ZuN v
def ZaQ:Option Zt→Option (List D)
 | some (.row _ xs _ _)=>some xs
 | some (.deep _ _ xs _)=>some xs
 | _=>none
def Zjm (hp:Hp):AV→Option D
 | .d x=>some x
 | .nil=>some (.sl [])
 | .own id=>bnd (ZaQ (lkp hp id)) fun xs=>some (.sl xs)
 | .ownv id off n=>bnd (ZaQ (lkp hp id)) fun xs=>some (.sl ((xs.drop off).take n))
 | _=>none
def toD (hp:Hp):AV→Option D
 | .agg cs=>bnd (QV (Zjm hp) cs) fun ds=>if ZcV D.one ds then some (.agg ds) else none
 | v=>Zjm hp v
def Zda:AV→List Nat
 | .own id=>[id]
 | .ownv id _ _=>[id]
 | _=>[]
def Zf1:AV→List Nat
 | .agg cs=>cs.flatMap Zda
 | v=>Zda v
def Zq:AV→List Nat
 | .own id=>[id]
 | .ownv id _ _=>[id]
 | .ptr id _=>[id]
 | .prow id _ _ _=>[id]
 | .sub id nm=>[id,nm]
 | .junk | .d _ | .nil | .nilp | .nili | .pim _ | .agg _ | .tup _ | .clo _ _=>[]
def ZK:AV→List Nat
 | .agg cs=>cs.flatMap Zq
 | .clo _ cs=>cs.flatMap Zq
 | v=>Zq v
def ZJ:AV→List Nat
 | .tup vs=>vs.flatMap ZK
 | v=>ZK v
def Zcv:Zt→List Nat
 | .box cs=>cs.flatMap ZK
 | .row _ _ _ _=>[]
 | .deep _ _ _ _=>[]
def Zhi (g:Nat→Nat):AV→AV
 | .own id=>.own (g id)
 | .ownv id a b=>.ownv (g id) a b
 | .ptr id o=>.ptr (g id) o
 | .prow id s i o=>.prow (g id) s i o
 | .sub id nm=>.sub (g id) (g nm)
 | v=>v
def Zhj (g:Nat→Nat):AV→AV
 | .agg cs=>.agg (cs.map (Zhi g))
 | .clo f cs=>.clo f (cs.map (Zhi g))
 | v=>Zhi g v
def ren (g:Nat→Nat):AV→AV
 | .tup vs=>.tup (vs.map (Zhj g))
 | v=>Zhj g v
def Zoi (g:Nat→Nat):Zt→Zt
 | .box cs=>.box (cs.map (Zhj g))
 | .row s x e f=>.row s x e f
 | .deep s n x _=>.deep s n x none
def Qr (bad:List Nat):AV→AV
 | .own id=>if bad.contains id then .junk else .own id
 | .ownv id a b=>if bad.contains id then .junk else .ownv id a b
 | .ptr id o=>if bad.contains id then .junk else .ptr id o
 | .prow id s i o=>if bad.contains id then .junk else .prow id s i o
 | .sub id nm=>if bad.contains id || bad.contains nm then .junk else .sub id nm
 | v=>v
def Z9 (bad:List Nat):AV→AV
 | .agg cs=>.agg (cs.map (Qr bad))
 | .clo f cs=>.clo f (cs.map (Qr bad))
 | v=>Qr bad v
def kill (bad:List Nat):AV→AV
 | .tup vs=>.tup (vs.map (Z9 bad))
 | v=>Z9 bad v
def Zhn (bad:List Nat):Option (Nat×Nat×Nat)→Option (Nat×Nat×Nat)
 | some q=>if bad.contains q.1 then none else some q
 | none=>none
def YB (bad:List Nat):Zt→Zt
 | .box cs=>.box (cs.map (Z9 bad))
 | .row s x e f=>.row s x e f
 | .deep s n x l=>.deep s n x (Zhn bad l)
def Zjn {α β:Type} (f:α→β):List (Nat×α)→List (Nat×β)
 | []=>[]
 | (k,v) :: r=>(k,f v) :: Zjn f r
def WM:Zt→Zt
 | .row s x e _=>.row s x e true
 | .deep s n x l=>.deep s n x l
 | o=>o
def freeze (ids:List Nat):Hp→Hp
 | []=>[]
 | (k,o) :: r=>(k,if ids.contains k then WM o else o) :: freeze ids r
def Zla:Option Zt→Option (List D×Bool)
 | some (.row _ xs ex _)=>some (xs,ex)
 | _=>none
def Zdb (hp:Hp):AV→Option (D×Bool×List Nat)
 | .d x=>some (x,x.flat,[])
 | .nil=>some (.sl [],true,[])
 | .own id=>bnd (Zla (lkp hp id)) fun q=>some (.sl q.1,q.2,[id])
 | _=>none
def Uw (hp:Hp):List AV→Option (List D×Bool×List Nat)
 | []=>some ([],true,[])
 | v :: r=>bnd (Zdb hp v) fun q=>bnd (Uw hp r) fun p=>
   if q.1.one&&!q.2.2.any p.2.2.contains then some (q.1 :: p.1,q.2.1&&p.2.1,q.2.2++p.2.2) else none
def give (hp:Hp):AV→Option (D×Bool×List Nat)
 | .agg cs=>bnd (Uw hp cs) fun p=>some (.agg p.1,p.2.1,p.2.2)
 | v=>Zdb hp v
def Jg (hp:Hp):List AV→Option (List D×Bool×List Nat)
 | []=>some ([],true,[])
 | v :: r=>bnd (give hp v) fun q=>bnd (Jg hp r) fun p=>
   if !q.2.2.any p.2.2.contains then some (q.1 :: p.1,q.2.1&&p.2.1,q.2.2++p.2.2) else none
def Qp {α:Type} (cs:List α) (off:Nat) (vs:List α):List α:=cs.take off++vs++cs.drop (off+vs.length)
def ZiR (x:D) (off:Nat) (ds:List D):D:=match x with
 | .agg cs=>.agg (Qp cs off ds)
 | _=>ds.headD x
def JP (op:BinOp) (k:IntKind) (a b:Int):Option D:=
 match op with
 | .add=>some (.int k (k.wrap (a+b)))
 | .sub=>some (.int k (k.wrap (a-b)))
 | .mul=>some (.int k (k.wrap (a*b)))
 | .quo=>if b=0 then none else some (.int k (k.wrap (a.tdiv b)))
 | .rem=>if b=0 then none else some (.int k (a.tmod b))
 | .and=>some (.int k (k.wrap (BitVec.ofInt k.bits a &&& BitVec.ofInt k.bits b).toNat))
 | .or=>some (.int k (k.wrap (BitVec.ofInt k.bits a ||| BitVec.ofInt k.bits b).toNat))
 | .xor=>some (.int k (k.wrap (BitVec.ofInt k.bits a ^^^ BitVec.ofInt k.bits b).toNat))
 | .andNot=>some (.int k (k.wrap (BitVec.ofInt k.bits a &&& ~~~(BitVec.ofInt k.bits b)).toNat))
 | .eql=>some (.bool (a==b))
 | .neq=>some (.bool (a != b))
 | .lss=>some (.bool (decide (a<b)))
 | .leq=>some (.bool (decide (a≤b)))
 | .gtr=>some (.bool (decide (a>b)))
 | .geq=>some (.bool (decide (a≥b)))
 | .shl | .shr=>none
def Zmz (op:BinOp) (k:IntKind) (a b:Int):Option D:=
 if b<0 then none else
 match op with
 | .shl=>some (.int k (k.wrap (a*2 ^ (min b.toNat k.bits))))
 | .shr=>some (.int k (a.fdiv (2 ^ (min b.toNat k.bits))))
 | _=>none
def Zwv:Nat:=1152921504606846976
def ZuO (op:BinOp) (a b:List UInt8):Option D:=
 match op with
 | .add=>if a.length+b.length≤Zwv then some (.str (a++b)) else none
 | .eql=>some (.bool (a==b))
 | .neq=>some (.bool (!(a==b)))
 | _=>none
def D.beq1:D→D→Option Bool
 | .int _ a,.int _ b=>some (a==b)
 | .bool a,.bool b=>some (a==b)
 | .str a,.str b=>some (a==b)
 | _,_=>none
def beqL:List D→List D→Option Bool
 | [],[]=>some true
 | x :: xs,y :: ys=>bnd (D.beq1 x y) fun a=>bnd (beqL xs ys) fun b=>some (a&&b)
 | _,_=>none
def agg2 (op:BinOp) (r:Option Bool):Option AV:=match op with
 | .eql=>bnd r fun r=>some (.d (.bool r))
 | .neq=>bnd r fun r=>some (.d (.bool (!r)))
 | _=>none
def asD (r:Option D):Option AV:=bnd r fun x=>some (.d x)
def ZaR (op:BinOp) (k k' : IntKind) (a b:Int):Option AV:=match op with
 | .shl | .shr=>asD (Zmz op k a b)
 | _=>if k=k' then asD (JP op k a b) else none
def Zsm (op:BinOp) (a b:Bool):Option AV:=match op with
 | .eql=>some (.d (.bool (a==b)))
 | .neq=>some (.d (.bool (!(a==b))))
 | _=>none
def vbin (op:BinOp):AV→AV→Option AV
 | .d (.int k a),.d (.int k' b)=>ZaR op k k' a b
 | .d (.str a),.d (.str b)=>asD (ZuO op a b)
 | _,_=>none
def neg1 (op:UnOp) (k:IntKind) (a:Int):Option AV:=match op with
 | .neg=>some (.d (.int k (k.wrap (0-a))))
 | _=>none
def not1 (op:UnOp) (a:Bool):Option AV:=match op with
 | .not=>some (.d (.bool (!a)))
 | _=>none
def vun (op:UnOp):AV→Option AV
 | .d (.int k a)=>neg1 op k a
 | .d (.bool a)=>not1 op a
 | _=>none
def ZeR (hp:Hp):AV→Option Nat
 | .d (.sl xs)=>some xs.length
 | .nil=>some 0
 | .own id=>bnd (ZaQ (lkp hp id)) fun xs=>some xs.length
 | .ownv _ _ n=>some n
 | _=>none
def Zyr:AV→Option Nat
 | .d (.str s)=>some s.length
 | _=>none
def minI (a b:Int):Int:=if b<a then b else a
def maxI (a b:Int):Int:=if b>a then b else a
end Go.Abs
