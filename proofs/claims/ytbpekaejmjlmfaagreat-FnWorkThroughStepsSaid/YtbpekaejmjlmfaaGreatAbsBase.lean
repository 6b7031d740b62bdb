/- Own text. -/
import Derived.Orders
import Derived.Laws.AppendOwn
set_option linter.unusedVariables false
set_option linter.unusedSimpArgs false
namespace Go.Abs
open Go
abbrev Ka:=@Bool.false_eq_true
abbrev Kb:=@List.mem_of_getElem?
abbrev Kc:=@List.getElem?_eq_some_iff
abbrev Kd:=@Bool.and_eq_true
abbrev Ke:=@decide_eq_true
abbrev Kf:=@List.mem_append
abbrev Kg:=@List.mem_cons
abbrev Kh:=@decide_eq_false
abbrev Ki:=@if_neg
abbrev Kj:=@if_false
abbrev Kk:=@if_true
abbrev Kl:=@if_pos
abbrev Km:=@List.length_cons
abbrev Kn:=@List.length_filterMap_le
abbrev Ko:=@List.map_cons
abbrev Kp:=@List.length_append
abbrev Kq:=@Nat.le_refl
abbrev Kr:=@decide_eq_true_eq
abbrev Ks:=@List.eq_nil_of_length_eq_zero
abbrev Kt:=@Nat.le_trans
abbrev Ku:=@List.drop_eq_getElem_cons
abbrev Kv:=@List.length_map
abbrev Kw:=@List.take_add_one
abbrev Kx:=@List.mem_flatMap
abbrev Ky:=@List.mem_cons_of_mem
abbrev Kz:=@List.map_nil
abbrev KA:=@Int.toNat_natCast
abbrev KB:=@List.take_of_length_le
abbrev KC:=@List.getElem?_append_left
abbrev KD:=@List.getElem?_append_right
abbrev KE:=@Nat.ne_of_gt
abbrev KF:=@List.getElem?_cons_succ
abbrev KG:=@List.map_append
abbrev KH:=@List.mem_singleton
abbrev KI:=@List.length_nil
abbrev KJ:=@List.append_nil
abbrev KK:=@List.cons_append
abbrev KL:=@List.getElem?_eq_getElem
abbrev KM:=@List.map_congr_left
abbrev KN:=@Nat.mul_le_mul_right
abbrev KO:=@List.flatMap_cons
abbrev KP:=@Array.getElem?_eq_some_iff
abbrev KQ:=@Nat.add_mul
abbrev KR:=@List.nodup_cons
abbrev KS:=@Bool.not_eq_true'
abbrev KT:=@decide_eq_false_iff_not
abbrev KU:=@List.getElem?_eq_none
abbrev KV:=@Bool.decide_and
abbrev KW:=@Nat.add_assoc
abbrev KX:=@List.mem_map
abbrev KY:=@Option.isSome_none
abbrev KZ:=@List.all_eq_true
abbrev K0:=@List.contains_eq_mem
abbrev K3:=@List.getElem?_cons_zero
abbrev K4:=@Nat.zero_add
abbrev K5:=@Bool.decide_or
abbrev K6:=@List.append_assoc
abbrev K7:=@Option.isSome_iff_exists
abbrev K8:=@List.mem_of_mem_take
abbrev K9:=@Nat.lt_or_ge
abbrev La:=@List.count_pos_iff
abbrev Lc:=@List.getElem?_map
abbrev Ld:=@Option.map_some
abbrev Le:=@List.filterMap_cons
abbrev Lf:=@Bool.true_and
abbrev Lg:=@List.getElem?_set_ne
abbrev Lh:=@List.flatten_cons
abbrev Li:=@Option.isSome_some
abbrev Lj:=@Bool.or_eq_true
abbrev Lk:=@List.nodup_nil
abbrev Ll:=@List.mem_cons_self
abbrev Lm:=@List.getElem?_drop
abbrev Ln:=@List.not_mem_nil
abbrev Lo:=@List.take_length
abbrev Lp:=@Array.length_toList
abbrev Lq:=@List.filterMap_append
abbrev Lr:=@List.ext_getElem?
abbrev Ls:=@List.mem_filterMap
abbrev Lt:=@List.getElem?_take
abbrev Lu:=@List.flatten_append
abbrev Lv:=@Bool.false_or
abbrev Lw:=@List.mem_range
abbrev Lx:=@List.nil_append
abbrev Ly:=@Option.toList_some
abbrev Lz:=@Nat.eq_zero_or_pos
abbrev LA:=@List.pairwise_append
abbrev LB:=@Bool.not_eq_true
abbrev LC:=@List.getElem?_of_mem
abbrev LD:=@List.length_take
abbrev LF:=@Nat.add_sub_cancel_left
abbrev LG:=@List.all_cons
abbrev LH:=@List.nodup_append
abbrev LI:=@List.getElem?_set
abbrev LJ:=@List.getElem?_set_self
abbrev LK:=@List.map_id
abbrev LL:=@List.length_filter_le
abbrev LM:=@List.take_append_drop
abbrev LN:=@List.mem_filter
abbrev LP:=@List.replicate_succ
abbrev LQ:=@List.any_eq_true
abbrev LR:=@List.length_drop
abbrev LS:=@List.pairwise_cons
abbrev LU:=@Bool.false_and
abbrev LV:=@Nat.lt_or_gt_of_ne
abbrev LX:=@Array.getElem?_toList
abbrev LY:=@List.mem_of_mem_drop
abbrev LZ:=@List.nodup_iff_count
abbrev L0:=@List.size_toArray
abbrev L3:=@List.eq_of_mem_replicate
abbrev L4:=@List.mem_of_mem_eraseIdx
abbrev L5:=@List.take_succ_cons
abbrev L6:=@Nat.add_le_add_left
abbrev L7:=@List.eraseIdx_cons_succ
abbrev L8:=@Int.mul_nonneg
abbrev L9:=@Int.mul_le_mul
abbrev Kaa:=@Int.le_refl
abbrev Kab:=@List.append_eq_nil_iff
abbrev Kac:=@List.set_cons_succ
abbrev Kad:=@Nat.add_zero
abbrev Kae:=@Bool.and_true
abbrev Kaf:=@Array.getElem?_modify
abbrev Kag:=@List.getElem?_toArray
abbrev Kah:=@Bool.or_eq_false_iff
abbrev Kai:=@Nat.zero_le
abbrev Kaj:=@List.take_zero
abbrev Kak:=@List.eraseIdx_of_length_le
abbrev Kal:=@Array.toList_setIfInBounds
abbrev Kam:=@List.getElem?_append
abbrev Kan:=@List.map_set
abbrev Kao:=@List.nodup_range
abbrev Kap:=@Nat.le_max_right
abbrev Kaq:=@List.mem_map_of_mem
abbrev Kar:=@Nat.le_max_left
abbrev Kas:=@List.set_cons_zero
abbrev Kat:=@Bool.true_eq_false
abbrev Kau:=@Bool.true_or
inductive D where
 | int (k:IntKind) (n:Int)
 | bool (b:Bool)
 | str (s:List UInt8)
 | sl (xs:List D)
 | agg (cs:List D)
def D.cells:D→List D
 | .agg cs=>cs
 | .int k n=>[.int k n]
 | .bool b=>[.bool b]
 | .str s=>[.str s]
 | .sl xs=>[.sl xs]
def D.plain:D→Bool
 | .int _ _=>true
 | .bool _=>true
 | .str _=>true
 | .sl _=>false
 | .agg _=>false
def D.one:D→Bool
 | .int _ _=>true
 | .bool _=>true
 | .str _=>true
 | .sl _=>true
 | .agg _=>false
def Za7 (p:D→Bool):List D→Bool
 | []=>true
 | x :: xs=>p x&&Za7 p xs
def D.flat (d:D):Bool:=Za7 D.plain d.cells
inductive AV where
 | d (x:D)
 | nil
 | nilp
 | nili
 | ptr (id off:Nat)
 | prow (id sz i off:Nat)
 | pim (cs:List D)
 | own (id:Nat)
 | ownv (id off len:Nat)
 | bnil (id e:Nat)
 | bbuf (te:Nat) (l:List UInt8)
 | agg (cs:List AV)
 | tup (vs:List AV)
 | clo (f:Nat) (caps:List AV)
 | junk
inductive Zn where
 | box (cs:List AV)
 | row (sz:Nat) (xs:List D) (ex fz:Bool)
 | tree (sz ns:Nat) (xs:List D) (lk:Option (Option Nat×Nat×Nat))
 | gone
abbrev Hp:=List (Nat×Zn)
abbrev Sl:=List (Nat×AV)
def bnd {α β:Type} (x:Option α) (f:α→Option β):Option β:=match x with
 | some a=>f a
 | none=>none
@[congr] theorem bnd_congr {α β:Type} {x y:Option α} {f:α→Option β} (h:x=y):bnd x f=bnd y f:=by rw[h]
theorem Zg {α β:Type} (a:α) (f:α→Option β):bnd (some a) f=f a:=rfl
theorem ZBj {α β:Type} (f:α→Option β):bnd none f=none:=rfl
theorem ZCL {α β:Type} (c:Prop) [Decidable c] (a b:Option α) (f:α→Option β):bnd (if c then a else b) f=if c then bnd a f else bnd b f:=by split<;>rfl
theorem Za {α β:Type} {x:Option α} {f:α→Option β} {r:β} (h:bnd x f=some r):∃ a,x=some a∧f a=some r:=by
 cases x with
 | none=>cases h
 | some a=>exact⟨a,rfl,h⟩
def lkp {α:Type}:List (Nat×α)→Nat→Option α
 | [],_=>none
 | (k,v) :: r,t=>if k=t then some v else lkp r t
def ins {α:Type}:List (Nat×α)→Nat→α→List (Nat×α)
 | [],t,v=>[(t,v)]
 | (k,v) :: r,t,x=>if k<t then (t,x) :: (k,v) :: r else if k=t then (t,x) :: r else (k,v) :: ins r t x
def ZeQ:Option AV→AV
 | some v=>v
 | none=>.junk
def gs (sl:Sl) (t:Nat):AV:=ZeQ (lkp sl t)
structure St where
 sl:Sl
 hp:Hp
 nx:Nat
 m:Nat
def Zp3:AV→Option D
 | .d x=>if x.one then some x else none
 | _=>none
def Zgb:List AV→Option (List D)
 | []=>some []
 | v :: r=>bnd (Zp3 v) fun x=>bnd (Zgb r) fun ds=>some (x :: ds)
def XD:List AV→Bool
 | []=>true
 | .bbuf _ _ :: _=>false
 | _ :: r=>XD r
def Zs6:AV→Bool
 | .clo _ _=>true
 | _=>false
def ZeR:List AV→Bool
 | []=>false
 | v :: r=>Zs6 v || ZeR r
def JC (cs:List AV):Option (List D)→AV
 | some ds=>.d (.agg ds)
 | none=>if ZeR cs then .junk else .agg cs
def AV.solid:AV→Bool
 | .junk=>false
 | .bbuf _ _=>false
 | .tup _=>false
 | _=>true
def X0:List AV→Bool
 | []=>true
 | v :: r=>v.solid&&X0 r
def ZaK (cs:List AV):AV:=JC cs (Zgb cs)
def AV.cells:AV→List AV
 | .agg cs=>cs
 | .d x=>x.cells.map .d
 | .nil=>[.nil] | .nilp=>[.nilp] | .nili=>[.nili] | .ptr a b=>[.ptr a b] | .prow a b c e=>[.prow a b c e] | .pim cs=>[.pim cs]
 | .own a=>[.own a] | .ownv a b c=>[.ownv a b c] | .bnil a b=>[.bnil a b] | .bbuf a b=>[.bbuf a b] | .tup vs=>[.tup vs] | .clo f c=>[.clo f c] | .junk=>[.junk]
def UU:Value→AV
 | .bool b=>.d (.bool b)
 | .int k n=>.d (.int k n)
 | .string s=>.d (.str s.data.toList)
 | .slice none 0 0=>.nil
 | .pointer none=>.nilp
 | .nilIface=>.nili
 | _=>.junk
def evC:Value→AV
 | .agg cs=>ZaK (cs.toList.map UU)
 | v=>UU v
def ev (sl:Sl):Operand→AV
 | .tmp t=>gs sl t
 | .const v=>evC v
 | .global _=>.junk
 | .func f=>.clo f []
def ZkA:Value→Option D
 | .bool b=>some (.bool b)
 | .int k n=>some (.int k n)
 | .string s=>some (.str s.data.toList)
 | .slice none 0 0=>some (.sl [])
 | _=>none
def QH {α β:Type} (f:α→Option β):List α→Option (List β)
 | []=>some []
 | x :: r=>bnd (f x) fun y=>bnd (QH f r) fun ys=>some (y :: ys)
def evD:Value→Option D
 | .agg cs=>bnd (QH ZkA cs.toList) fun ds=>some (.agg ds)
 | v=>ZkA v
def UM:Option Zn→Option (List D)
 | some (.row _ xs _ _)=>some xs
 | some (.tree _ _ xs none)=>some xs
 | _=>none
def ZiQ (hp:Hp):AV→Option D
 | .d x=>some x
 | .nil=>some (.sl [])
 | .own id=>bnd (UM (lkp hp id)) fun xs=>some (.sl xs)
 | .ownv id off n=>bnd (UM (lkp hp id)) fun xs=>some (.sl ((xs.drop off).take n))
 | _=>none
def toD (hp:Hp):AV→Option D
 | .agg cs=>bnd (QH (ZiQ hp) cs) fun ds=>if Za7 D.one ds then some (.agg ds) else none
 | v=>ZiQ hp v
def Zd9:AV→List Nat
 | .own id=>[id]
 | .ownv id _ _=>[id]
 | _=>[]
def Zgc:AV→List Nat
 | .agg cs=>cs.flatMap Zd9
 | v=>Zd9 v
def Zo:AV→List Nat
 | .own id=>[id]
 | .ownv id _ _=>[id]
 | .ptr id _=>[id]
 | .prow id _ _ _=>[id]
 | .bnil id _=>[id]
 | .junk | .bbuf _ _ | .d _ | .nil | .nilp | .nili | .pim _ | .agg _ | .tup _ | .clo _ _=>[]
def ZA:AV→List Nat
 | .agg cs=>cs.flatMap Zo
 | .clo _ cs=>cs.flatMap Zo
 | v=>Zo v
def Zy:AV→List Nat
 | .tup vs=>vs.flatMap ZA
 | v=>ZA v
def ZaL:Zn→List Nat
 | .box cs=>cs.flatMap ZA
 | .row _ _ _ _=>[]
 | .tree _ _ _ _=>[]
 | .gone=>[]
def Zp4:Option (Option Nat×Nat×Nat)→Option (Option Nat×Nat×Nat)
 | some q=>some (none,q.2)
 | none=>none
def Zgd (g:Nat→Nat):AV→AV
 | .own id=>.own (g id)
 | .ownv id a b=>.ownv (g id) a b
 | .ptr id o=>.ptr (g id) o
 | .prow id s i o=>.prow (g id) s i o
 | .bnil id e=>.bnil (g id) e
 | v=>v
def ZeS (g:Nat→Nat):AV→AV
 | .agg cs=>.agg (cs.map (Zgd g))
 | .clo f cs=>.clo f (cs.map (Zgd g))
 | v=>Zgd g v
def ren (g:Nat→Nat):AV→AV
 | .tup vs=>.tup (vs.map (ZeS g))
 | v=>ZeS g v
def ZkB (g:Nat→Nat):Zn→Zn
 | .box cs=>.box (cs.map (ZeS g))
 | .row s x e f=>.row s x e f
 | .tree s n x l=>.tree s n x (Zp4 l)
 | .gone=>.gone
def Qh (bad:List Nat):AV→AV
 | .own id=>if bad.contains id then .junk else .own id
 | .ownv id a b=>if bad.contains id then .junk else .ownv id a b
 | .ptr id o=>if bad.contains id then .junk else .ptr id o
 | .prow id s i o=>if bad.contains id then .junk else .prow id s i o
 | .bnil id e=>if bad.contains id then .junk else .bnil id e
 | v=>v
def ZW (bad:List Nat):AV→AV
 | .agg cs=>.agg (cs.map (Qh bad))
 | .clo f cs=>.clo f (cs.map (Qh bad))
 | v=>Qh bad v
def kill (bad:List Nat):AV→AV
 | .tup vs=>.tup (vs.map (ZW bad))
 | v=>ZW bad v
def Ub (bad:List Nat):Option (Option Nat×Nat×Nat)→Option (Option Nat×Nat×Nat)
 | some (some nm,q)=>if bad.contains nm then some (none,q) else some (some nm,q)
 | l=>l
def Xt (bad:List Nat):Zn→Zn
 | .box cs=>.box (cs.map (ZW bad))
 | .row s x e f=>.row s x e f
 | .tree s n x l=>.tree s n x (Ub bad l)
 | .gone=>.gone
def ZlX {α β:Type} (f:α→β):List (Nat×α)→List (Nat×β)
 | []=>[]
 | (k,v) :: r=>(k,f v) :: ZlX f r
def V0:Zn→Zn
 | .row s x e _=>.row s x e true
 | .tree s n x l=>.tree s n x l
 | o=>o
def freeze (ids:List Nat):Hp→Hp
 | []=>[]
 | (k,o) :: r=>(k,if ids.contains k then V0 o else o) :: freeze ids r
def ZkC:Option Zn→Option (List D×Bool)
 | some (.row _ xs ex _)=>some (xs,ex)
 | _=>none
def Zcl (hp:Hp):AV→Option (D×Bool×List Nat)
 | .d x=>some (x,x.flat,[])
 | .nil=>some (.sl [],true,[])
 | .own id=>bnd (ZkC (lkp hp id)) fun q=>some (.sl q.1,q.2,[id])
 | _=>none
def WG (hp:Hp):List AV→Option (List D×Bool×List Nat)
 | []=>some ([],true,[])
 | v :: r=>bnd (Zcl hp v) fun q=>bnd (WG hp r) fun p=>
   if q.1.one&&!q.2.2.any p.2.2.contains then some (q.1 :: p.1,q.2.1&&p.2.1,q.2.2++p.2.2) else none
def give (hp:Hp):AV→Option (D×Bool×List Nat)
 | .agg cs=>bnd (WG hp cs) fun p=>some (.agg p.1,p.2.1,p.2.2)
 | v=>Zcl hp v
def UN (hp:Hp):List AV→Option (List D×Bool×List Nat)
 | []=>some ([],true,[])
 | v :: r=>bnd (give hp v) fun q=>bnd (UN hp r) fun p=>
   if !q.2.2.any p.2.2.contains then some (q.1 :: p.1,q.2.1&&p.2.1,q.2.2++p.2.2) else none
def Zw {α:Type} (cs:List α) (off:Nat) (vs:List α):List α:=cs.take off++vs++cs.drop (off+vs.length)
def WH (x:D) (off:Nat) (ds:List D):D:=match x with
 | .agg cs=>.agg (Zw cs off ds)
 | _=>ds.headD x
def Jp (op:BinOp) (k:IntKind) (a b:Int):Option D:=
 match op with
 | .add=>some (.int k (k.wrap (a+b)))
 | .sub=>some (.int k (k.wrap (a-b)))
 | .mul=>some (.int k (k.wrap (a*b)))
 | .quo=>if b=0 then none else some (.int k (k.wrap (a.tdiv b)))
 | .rem=>if b=0 then none else some (.int k (a.tmod b))
 | .and=>some (.int k (k.wrap (BitVec.ofInt k.bits a &&& BitVec.ofInt k.bits b).toNat))
 | .or=>some (.int k (k.wrap (BitVec.ofInt k.bits a ||| BitVec.ofInt k.bits b).toNat))
 | .xor=>some (.int k (k.wrap (BitVec.ofInt k.bits a ^^^ BitVec.ofInt k.bits b).toNat))
 | .andNot=>some (.int k (k.wrap (BitVec.ofInt k.bits a &&& ~~~(BitVec.ofInt k.bits b)).toNat))
 | .eql=>some (.bool (a==b))
 | .neq=>some (.bool (a != b))
 | .lss=>some (.bool (decide (a<b)))
 | .leq=>some (.bool (decide (a≤b)))
 | .gtr=>some (.bool (decide (a>b)))
 | .geq=>some (.bool (decide (a≥b)))
 | .shl | .shr=>none
def ZlY (op:BinOp) (k:IntKind) (a b:Int):Option D:=
 if b<0 then none else
 match op with
 | .shl=>some (.int k (k.wrap (a*2 ^ (min b.toNat k.bits))))
 | .shr=>some (.int k (a.fdiv (2 ^ (min b.toNat k.bits))))
 | _=>none
def ZxP:Nat:=1152921504606846976
def Zwb (op:BinOp) (a b:List UInt8):Option D:=
 match op with
 | .add=>if a.length+b.length≤ZxP then some (.str (a++b)) else none
 | .eql=>some (.bool (a==b))
 | .neq=>some (.bool (!(a==b)))
 | _=>none
def D.beq1:D→D→Option Bool
 | .int _ a,.int _ b=>some (a==b)
 | .bool a,.bool b=>some (a==b)
 | .str a,.str b=>some (a==b)
 | _,_=>none
def beqL:List D→List D→Option Bool
 | [],[]=>some true
 | x :: xs,y :: ys=>bnd (D.beq1 x y) fun a=>bnd (beqL xs ys) fun b=>some (a&&b)
 | _,_=>none
def agg2 (op:BinOp) (r:Option Bool):Option AV:=match op with
 | .eql=>bnd r fun r=>some (.d (.bool r))
 | .neq=>bnd r fun r=>some (.d (.bool (!r)))
 | _=>none
def asD (r:Option D):Option AV:=bnd r fun x=>some (.d x)
def ZaM (op:BinOp) (k k' : IntKind) (a b:Int):Option AV:=match op with
 | .shl | .shr=>asD (ZlY op k a b)
 | _=>if k=k' then asD (Jp op k a b) else none
def Zs7 (op:BinOp) (a b:Bool):Option AV:=match op with
 | .eql=>some (.d (.bool (a==b)))
 | .neq=>some (.d (.bool (!(a==b))))
 | _=>none
def vbin (op:BinOp):AV→AV→Option AV
 | .d (.int k a),.d (.int k' b)=>ZaM op k k' a b
 | .d (.str a),.d (.str b)=>asD (Zwb op a b)
 | _,_=>none
def neg1 (op:UnOp) (k:IntKind) (a:Int):Option AV:=match op with
 | .neg=>some (.d (.int k (k.wrap (0-a))))
 | _=>none
def not1 (op:UnOp) (a:Bool):Option AV:=match op with
 | .not=>some (.d (.bool (!a)))
 | _=>none
def vun (op:UnOp):AV→Option AV
 | .d (.int k a)=>neg1 op k a
 | .d (.bool a)=>not1 op a
 | _=>none
def ZeT (hp:Hp):AV→Option Nat
 | .d (.sl xs)=>some xs.length
 | .nil=>some 0
 | .own id=>bnd (UM (lkp hp id)) fun xs=>some xs.length
 | .ownv _ _ n=>some n
 | _=>none
def ZzX:AV→Option Nat
 | .d (.str s)=>some s.length
 | _=>none
def minI (a b:Int):Int:=if b<a then b else a
def maxI (a b:Int):Int:=if b>a then b else a
end Go.Abs
