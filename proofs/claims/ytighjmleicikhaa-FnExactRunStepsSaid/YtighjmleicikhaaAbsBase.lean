/- Own text. -/
import Derived.Orders
import Derived.Laws.AppendOwn
set_option linter.unusedVariables false
set_option linter.unusedSimpArgs false
namespace Go.Abs
open Go
abbrev Ka:=@Bool.false_eq_true
abbrev Kb:=@Bool.and_eq_true
abbrev Kc:=@List.getElem?_eq_some_iff
abbrev Kd:=@List.mem_append
abbrev Ke:=@List.mem_cons
abbrev Kf:=@Nat.le_refl
abbrev Kg:=@if_false
abbrev Kh:=@if_true
abbrev Ki:=@List.eq_nil_of_length_eq_zero
abbrev Kj:=@decide_eq_true_eq
abbrev Kk:=@List.length_cons
abbrev Kl:=@List.mem_flatMap
abbrev Km:=@List.getElem?_eq_getElem
abbrev Kn:=@List.length_append
abbrev Ko:=@List.mem_cons_of_mem
abbrev Kp:=@if_neg
abbrev Kq:=@List.map_cons
abbrev Kr:=@List.mem_of_getElem?
abbrev Ks:=@Nat.ne_of_gt
abbrev Kt:=@List.getElem?_append_right
abbrev Ku:=@if_pos
abbrev Kv:=@List.map_congr_left
abbrev Kw:=@List.flatMap_cons
abbrev Kx:=@List.all_eq_true
abbrev Ky:=@List.getElem?_append_left
abbrev Kz:=@Nat.mul_le_mul_right
abbrev KA:=@Array.getElem?_eq_some_iff
abbrev KB:=@List.drop_eq_getElem_cons
abbrev KC:=@Nat.add_mul
abbrev KD:=@List.contains_eq_mem
abbrev KE:=@List.getElem?_eq_none
abbrev KF:=@Bool.not_eq_true'
abbrev KG:=@List.mem_singleton
abbrev KH:=@decide_eq_false_iff_not
abbrev KI:=@List.length_nil
abbrev KJ:=@List.count_pos_iff
abbrev KK:=@Nat.lt_or_ge
abbrev KL:=@List.cons_append
abbrev KM:=@List.append_assoc
abbrev KN:=@List.getElem?_drop
abbrev KO:=@Option.map_some
abbrev KP:=@List.getElem?_set_self
abbrev KQ:=@List.flatten_cons
abbrev KR:=@Option.isSome_iff_exists
abbrev KS:=@List.map_nil
abbrev KT:=@List.ext_getElem?
abbrev KU:=@Nat.add_assoc
abbrev KV:=@List.getElem?_set_ne
abbrev KW:=@List.mem_cons_self
abbrev KX:=@List.length_map
abbrev KY:=@List.take_add_one
abbrev KZ:=@List.getElem?_cons_succ
abbrev K0:=@List.getElem?_take
abbrev K1:=@Bool.or_eq_true
abbrev K2:=@List.nodup_cons
abbrev K3:=@Array.length_toList
abbrev K4:=@List.take_append_drop
abbrev K5:=@List.nodup_nil
abbrev K6:=@List.mem_range
abbrev K7:=@List.mem_map
abbrev K8:=@Nat.eq_zero_or_pos
abbrev K9:=@Nat.add_sub_cancel_left
abbrev La:=@List.all_cons
abbrev Lb:=@Nat.zero_add
abbrev Lc:=@Nat.le_trans
abbrev Ld:=@List.map_id
abbrev Le:=@List.length_take
abbrev Lf:=@List.pairwise_append
abbrev Lg:=@Bool.false_and
abbrev Lh:=@List.getElem?_map
abbrev Li:=@List.replicate_succ
abbrev Lj:=@Bool.true_and
abbrev Lk:=@Nat.lt_or_gt_of_ne
abbrev Ll:=@List.filterMap_append
abbrev Lm:=@List.getElem?_of_mem
abbrev Ln:=@List.nodup_iff_count
abbrev Lo:=@List.flatten_append
abbrev Lp:=@List.any_eq_true
abbrev Lq:=@List.length_drop
abbrev Lr:=@List.pairwise_cons
abbrev Ls:=@Nat.add_zero
abbrev Lt:=@List.map_append
abbrev Lu:=@List.append_nil
abbrev Lv:=@List.nil_append
abbrev Lw:=@List.mem_iff_getElem?
abbrev Lx:=@Array.getElem?_modify
abbrev Ly:=@Array.getElem?_toList
abbrev Lz:=@List.nodup_append
abbrev LA:=@List.size_toArray
abbrev LB:=@Array.toList_setIfInBounds
abbrev LC:=@List.getElem?_append
abbrev LD:=@List.drop_length
abbrev LF:=@Int.natCast_zero
abbrev LG:=@List.not_mem_nil
abbrev LH:=@List.nodup_range
abbrev LI:=@Nat.le_max_right
abbrev LJ:=@List.filterMap_cons
abbrev LK:=@Bool.and_true
abbrev LL:=@decide_eq_false
abbrev LM:=@Nat.le_max_left
abbrev LN:=@Nat.sub_self
abbrev LP:=@decide_eq_true
abbrev LQ:=@List.drop_drop
inductive D where
 | int (k:IntKind) (n:Int)
 | bool (b:Bool)
 | str (s:List UInt8)
 | sl (xs:List D)
 | agg (cs:List D)
def D.cells:D→List D
 | .agg cs=>cs
 | .int k n=>[.int k n]
 | .bool b=>[.bool b]
 | .str s=>[.str s]
 | .sl xs=>[.sl xs]
def D.plain:D→Bool
 | .int _ _=>true
 | .bool _=>true
 | .str _=>true
 | .sl _=>false
 | .agg _=>false
def D.one:D→Bool
 | .int _ _=>true
 | .bool _=>true
 | .str _=>true
 | .sl _=>true
 | .agg _=>false
def W1 (p:D→Bool):List D→Bool
 | []=>true
 | x :: xs=>p x&&W1 p xs
def D.flat (d:D):Bool:=W1 D.plain d.cells
inductive AV where
 | d (x:D)
 | nil
 | nilp
 | nili
 | ptr (id off:Nat)
 | prow (id sz i off:Nat)
 | pim (cs:List D)
 | own (id:Nat)
 | ownv (id off len:Nat)
 | bnil (id e:Nat)
 | bbuf (te:Nat) (l:List UInt8)
 | agg (cs:List AV)
 | tup (vs:List AV)
 | clo (f:Nat) (caps:List AV)
 | junk
inductive Zh where
 | box (cs:List AV)
 | row (sz:Nat) (xs:List D) (ex fz:Bool)
 | tree (sz ns:Nat) (xs:List D) (lk:Option (Option Nat×Nat×Nat))
 | gone
abbrev Hp:=List (Nat×Zh)
abbrev Sl:=List (Nat×AV)
def bnd {α β:Type} (x:Option α) (f:α→Option β):Option β:=match x with
 | some a=>f a
 | none=>none
@[congr] theorem bnd_congr {α β:Type} {x y:Option α} {f:α→Option β} (h:x=y):bnd x f=bnd y f:=by rw[h]
theorem Zc {α β:Type} (a:α) (f:α→Option β):bnd (some a) f=f a:=rfl
theorem ZpU {α β:Type} (f:α→Option β):bnd none f=none:=rfl
theorem Zry {α β:Type} (c:Prop) [Decidable c] (a b:Option α) (f:α→Option β):bnd (if c then a else b) f=if c then bnd a f else bnd b f:=by split<;>rfl
theorem Za {α β:Type} {x:Option α} {f:α→Option β} {r:β} (h:bnd x f=some r):∃ a,x=some a∧f a=some r:=by
 cases x with
 | none=>cases h
 | some a=>exact⟨a,rfl,h⟩
def lkp {α:Type}:List (Nat×α)→Nat→Option α
 | [],_=>none
 | (k,v) :: r,t=>if k=t then some v else lkp r t
def ins {α:Type}:List (Nat×α)→Nat→α→List (Nat×α)
 | [],t,v=>[(t,v)]
 | (k,v) :: r,t,x=>if k<t then (t,x) :: (k,v) :: r else if k=t then (t,x) :: r else (k,v) :: ins r t x
def Ji:Option AV→AV
 | some v=>v
 | none=>.junk
def gs (sl:Sl) (t:Nat):AV:=Ji (lkp sl t)
structure St where
 sl:Sl
 hp:Hp
 nx:Nat
 m:Nat
def Zgn:AV→Option D
 | .d x=>if x.one then some x else none
 | _=>none
def J6:List AV→Option (List D)
 | []=>some []
 | v :: r=>bnd (Zgn v) fun x=>bnd (J6 r) fun ds=>some (x :: ds)
def QP:List AV→Bool
 | []=>true
 | .bbuf _ _ :: _=>false
 | _ :: r=>QP r
def Ziw:AV→Bool
 | .clo _ _=>true
 | _=>false
def Jj:List AV→Bool
 | []=>false
 | v :: r=>Ziw v || Jj r
def Va (cs:List AV):Option (List D)→AV
 | some ds=>.d (.agg ds)
 | none=>if Jj cs then .junk else .agg cs
def AV.solid:AV→Bool
 | .junk=>false
 | .bbuf _ _=>false
 | .tup _=>false
 | _=>true
def QY:List AV→Bool
 | []=>true
 | v :: r=>v.solid&&QY r
def VG (cs:List AV):AV:=Va cs (J6 cs)
def AV.cells:AV→List AV
 | .agg cs=>cs
 | .d x=>x.cells.map .d
 | .nil=>[.nil] | .nilp=>[.nilp] | .nili=>[.nili] | .ptr a b=>[.ptr a b] | .prow a b c e=>[.prow a b c e] | .pim cs=>[.pim cs]
 | .own a=>[.own a] | .ownv a b c=>[.ownv a b c] | .bnil a b=>[.bnil a b] | .bbuf a b=>[.bbuf a b] | .tup vs=>[.tup vs] | .clo f c=>[.clo f c] | .junk=>[.junk]
def YN:Value→AV
 | .bool b=>.d (.bool b)
 | .int k n=>.d (.int k n)
 | .string s=>.d (.str s.data.toList)
 | .slice none 0 0=>.nil
 | .pointer none=>.nilp
 | .nilIface=>.nili
 | _=>.junk
def evC:Value→AV
 | .agg cs=>VG (cs.toList.map YN)
 | v=>YN v
def ev (sl:Sl):Operand→AV
 | .tmp t=>gs sl t
 | .const v=>evC v
 | .global _=>.junk
 | .func f=>.clo f []
def Zde:Value→Option D
 | .bool b=>some (.bool b)
 | .int k n=>some (.int k n)
 | .string s=>some (.str s.data.toList)
 | .slice none 0 0=>some (.sl [])
 | _=>none
def Z6 {α β:Type} (f:α→Option β):List α→Option (List β)
 | []=>some []
 | x :: r=>bnd (f x) fun y=>bnd (Z6 f r) fun ys=>some (y :: ys)
def evD:Value→Option D
 | .agg cs=>bnd (Z6 Zde cs.toList) fun ds=>some (.agg ds)
 | v=>Zde v
def YH:Option Zh→Option (List D)
 | some (.row _ xs _ _)=>some xs
 | some (.tree _ _ xs none)=>some xs
 | _=>none
def Zb3 (hp:Hp):AV→Option D
 | .d x=>some x
 | .nil=>some (.sl [])
 | .own id=>bnd (YH (lkp hp id)) fun xs=>some (.sl xs)
 | .ownv id off n=>bnd (YH (lkp hp id)) fun xs=>some (.sl ((xs.drop off).take n))
 | _=>none
def toD (hp:Hp):AV→Option D
 | .agg cs=>bnd (Z6 (Zb3 hp) cs) fun ds=>if W1 D.one ds then some (.agg ds) else none
 | v=>Zb3 hp v
def UZ:AV→List Nat
 | .own id=>[id]
 | .ownv id _ _=>[id]
 | _=>[]
def J7:AV→List Nat
 | .agg cs=>cs.flatMap UZ
 | v=>UZ v
def Zf:AV→List Nat
 | .own id=>[id]
 | .ownv id _ _=>[id]
 | .ptr id _=>[id]
 | .prow id _ _ _=>[id]
 | .bnil id _=>[id]
 | .junk | .bbuf _ _ | .d _ | .nil | .nilp | .nili | .pim _ | .agg _ | .tup _ | .clo _ _=>[]
def Zo:AV→List Nat
 | .agg cs=>cs.flatMap Zf
 | .clo _ cs=>cs.flatMap Zf
 | v=>Zf v
def Zm:AV→List Nat
 | .tup vs=>vs.flatMap Zo
 | v=>Zo v
def VH:Zh→List Nat
 | .box cs=>cs.flatMap Zo
 | .row _ _ _ _=>[]
 | .tree _ _ _ _=>[]
 | .gone=>[]
def Zgo:Option (Option Nat×Nat×Nat)→Option (Option Nat×Nat×Nat)
 | some q=>some (none,q.2)
 | none=>none
def J8 (g:Nat→Nat):AV→AV
 | .own id=>.own (g id)
 | .ownv id a b=>.ownv (g id) a b
 | .ptr id o=>.ptr (g id) o
 | .prow id s i o=>.prow (g id) s i o
 | .bnil id e=>.bnil (g id) e
 | v=>v
def Jk (g:Nat→Nat):AV→AV
 | .agg cs=>.agg (cs.map (J8 g))
 | .clo f cs=>.clo f (cs.map (J8 g))
 | v=>J8 g v
def ren (g:Nat→Nat):AV→AV
 | .tup vs=>.tup (vs.map (Jk g))
 | v=>Jk g v
def Zdf (g:Nat→Nat):Zh→Zh
 | .box cs=>.box (cs.map (Jk g))
 | .row s x e f=>.row s x e f
 | .tree s n x l=>.tree s n x (Zgo l)
 | .gone=>.gone
def ZM (bad:List Nat):AV→AV
 | .own id=>if bad.contains id then .junk else .own id
 | .ownv id a b=>if bad.contains id then .junk else .ownv id a b
 | .ptr id o=>if bad.contains id then .junk else .ptr id o
 | .prow id s i o=>if bad.contains id then .junk else .prow id s i o
 | .bnil id e=>if bad.contains id then .junk else .bnil id e
 | v=>v
def Zz (bad:List Nat):AV→AV
 | .agg cs=>.agg (cs.map (ZM bad))
 | .clo f cs=>.clo f (cs.map (ZM bad))
 | v=>ZM bad v
def kill (bad:List Nat):AV→AV
 | .tup vs=>.tup (vs.map (Zz bad))
 | v=>Zz bad v
def Yp (bad:List Nat):Option (Option Nat×Nat×Nat)→Option (Option Nat×Nat×Nat)
 | some (some nm,q)=>if bad.contains nm then some (none,q) else some (some nm,q)
 | l=>l
def QJ (bad:List Nat):Zh→Zh
 | .box cs=>.box (cs.map (Zz bad))
 | .row s x e f=>.row s x e f
 | .tree s n x l=>.tree s n x (Yp bad l)
 | .gone=>.gone
def Zef {α β:Type} (f:α→β):List (Nat×α)→List (Nat×β)
 | []=>[]
 | (k,v) :: r=>(k,f v) :: Zef f r
def XL:Zh→Zh
 | .row s x e _=>.row s x e true
 | .tree s n x l=>.tree s n x l
 | o=>o
def freeze (ids:List Nat):Hp→Hp
 | []=>[]
 | (k,o) :: r=>(k,if ids.contains k then XL o else o) :: freeze ids r
def Zdg:Option Zh→Option (List D×Bool)
 | some (.row _ xs ex _)=>some (xs,ex)
 | _=>none
def WV (hp:Hp):AV→Option (D×Bool×List Nat)
 | .d x=>some (x,x.flat,[])
 | .nil=>some (.sl [],true,[])
 | .own id=>bnd (Zdg (lkp hp id)) fun q=>some (.sl q.1,q.2,[id])
 | _=>none
def X6 (hp:Hp):List AV→Option (List D×Bool×List Nat)
 | []=>some ([],true,[])
 | v :: r=>bnd (WV hp v) fun q=>bnd (X6 hp r) fun p=>
   if q.1.one&&!q.2.2.any p.2.2.contains then some (q.1 :: p.1,q.2.1&&p.2.1,q.2.2++p.2.2) else none
def give (hp:Hp):AV→Option (D×Bool×List Nat)
 | .agg cs=>bnd (X6 hp cs) fun p=>some (.agg p.1,p.2.1,p.2.2)
 | v=>WV hp v
def YI (hp:Hp):List AV→Option (List D×Bool×List Nat)
 | []=>some ([],true,[])
 | v :: r=>bnd (give hp v) fun q=>bnd (YI hp r) fun p=>
   if !q.2.2.any p.2.2.contains then some (q.1 :: p.1,q.2.1&&p.2.1,q.2.2++p.2.2) else none
def Zl {α:Type} (cs:List α) (off:Nat) (vs:List α):List α:=cs.take off++vs++cs.drop (off+vs.length)
def Xn (x:D) (off:Nat) (ds:List D):D:=match x with
 | .agg cs=>.agg (Zl cs off ds)
 | _=>ds.headD x
def Vh (op:BinOp) (k:IntKind) (a b:Int):Option D:=
 match op with
 | .add=>some (.int k (k.wrap (a+b)))
 | .sub=>some (.int k (k.wrap (a-b)))
 | .mul=>some (.int k (k.wrap (a*b)))
 | .quo=>if b=0 then none else some (.int k (k.wrap (a.tdiv b)))
 | .rem=>if b=0 then none else some (.int k (a.tmod b))
 | .and=>some (.int k (k.wrap (BitVec.ofInt k.bits a &&& BitVec.ofInt k.bits b).toNat))
 | .or=>some (.int k (k.wrap (BitVec.ofInt k.bits a ||| BitVec.ofInt k.bits b).toNat))
 | .xor=>some (.int k (k.wrap (BitVec.ofInt k.bits a ^^^ BitVec.ofInt k.bits b).toNat))
 | .andNot=>some (.int k (k.wrap (BitVec.ofInt k.bits a &&& ~~~(BitVec.ofInt k.bits b)).toNat))
 | .eql=>some (.bool (a==b))
 | .neq=>some (.bool (a != b))
 | .lss=>some (.bool (decide (a<b)))
 | .leq=>some (.bool (decide (a≤b)))
 | .gtr=>some (.bool (decide (a>b)))
 | .geq=>some (.bool (decide (a≥b)))
 | .shl | .shr=>none
def Zeg (op:BinOp) (k:IntKind) (a b:Int):Option D:=
 if b<0 then none else
 match op with
 | .shl=>some (.int k (k.wrap (a*2 ^ (min b.toNat k.bits))))
 | .shr=>some (.int k (a.fdiv (2 ^ (min b.toNat k.bits))))
 | _=>none
def Zmy:Nat:=1152921504606846976
def Zlc (op:BinOp) (a b:List UInt8):Option D:=
 match op with
 | .add=>if a.length+b.length≤Zmy then some (.str (a++b)) else none
 | .eql=>some (.bool (a==b))
 | .neq=>some (.bool (!(a==b)))
 | _=>none
def D.beq1:D→D→Option Bool
 | .int _ a,.int _ b=>some (a==b)
 | .bool a,.bool b=>some (a==b)
 | .str a,.str b=>some (a==b)
 | _,_=>none
def beqL:List D→List D→Option Bool
 | [],[]=>some true
 | x :: xs,y :: ys=>bnd (D.beq1 x y) fun a=>bnd (beqL xs ys) fun b=>some (a&&b)
 | _,_=>none
def agg2 (op:BinOp) (r:Option Bool):Option AV:=match op with
 | .eql=>bnd r fun r=>some (.d (.bool r))
 | .neq=>bnd r fun r=>some (.d (.bool (!r)))
 | _=>none
def asD (r:Option D):Option AV:=bnd r fun x=>some (.d x)
def V9 (op:BinOp) (k k' : IntKind) (a b:Int):Option AV:=match op with
 | .shl | .shr=>asD (Zeg op k a b)
 | _=>if k=k' then asD (Vh op k a b) else none
def Zix (op:BinOp) (a b:Bool):Option AV:=match op with
 | .eql=>some (.d (.bool (a==b)))
 | .neq=>some (.d (.bool (!(a==b))))
 | _=>none
def vbin (op:BinOp):AV→AV→Option AV
 | .d (.int k a),.d (.int k' b)=>V9 op k k' a b
 | .d (.str a),.d (.str b)=>asD (Zlc op a b)
 | _,_=>none
def neg1 (op:UnOp) (k:IntKind) (a:Int):Option AV:=match op with
 | .neg=>some (.d (.int k (k.wrap (0-a))))
 | _=>none
def not1 (op:UnOp) (a:Bool):Option AV:=match op with
 | .not=>some (.d (.bool (!a)))
 | _=>none
def vun (op:UnOp):AV→Option AV
 | .d (.int k a)=>neg1 op k a
 | .d (.bool a)=>not1 op a
 | _=>none
def Jl (hp:Hp):AV→Option Nat
 | .d (.sl xs)=>some xs.length
 | .nil=>some 0
 | .own id=>bnd (YH (lkp hp id)) fun xs=>some xs.length
 | .ownv _ _ n=>some n
 | _=>none
def Zor:AV→Option Nat
 | .d (.str s)=>some s.length
 | _=>none
def minI (a b:Int):Int:=if b<a then b else a
def maxI (a b:Int):Int:=if b>a then b else a
end Go.Abs
