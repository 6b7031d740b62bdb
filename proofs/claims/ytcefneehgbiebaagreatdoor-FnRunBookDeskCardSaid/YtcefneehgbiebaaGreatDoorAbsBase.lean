/- Own text. -/
import Derived.Orders
import Derived.Laws.AppendOwn
set_option linter.unusedVariables false
set_option linter.unusedSimpArgs false
namespace Go.Abs
open Go
abbrev Ka:=@Bool.false_eq_true
abbrev Kb:=@List.getElem?_eq_some_iff
abbrev Kc:=@List.mem_of_getElem?
abbrev Kd:=@List.mem_cons
abbrev Ke:=@if_neg
abbrev Kf:=@Bool.and_eq_true
abbrev Kg:=@List.mem_append
abbrev Kh:=@if_pos
abbrev Ki:=@decide_eq_true
abbrev Kj:=@List.map_cons
abbrev Kk:=@decide_eq_false
abbrev Kl:=@List.length_filterMap_le
abbrev Km:=@if_true
abbrev Kn:=@List.getElem?_eq_getElem
abbrev Ko:=@decide_eq_true_eq
abbrev Kp:=@List.length_cons
abbrev Kq:=@if_false
abbrev Kr:=@List.length_append
abbrev Ks:=@List.eq_nil_of_length_eq_zero
abbrev Kt:=@Nat.le_refl
abbrev Ku:=@List.not_mem_nil
abbrev Kv:=@List.cons_append
abbrev Kw:=@List.drop_eq_getElem_cons
abbrev Kx:=@List.map_nil
abbrev Ky:=@List.mem_flatMap
abbrev Kz:=@Nat.le_trans
abbrev KA:=@List.mem_cons_of_mem
abbrev KB:=@Int.toNat_natCast
abbrev KC:=@List.mem_singleton
abbrev KD:=@Option.isSome_none
abbrev KE:=@List.append_assoc
abbrev KF:=@Nat.mul_le_mul_right
abbrev KG:=@Nat.ne_of_gt
abbrev KH:=@Nat.add_mul
abbrev KI:=@Option.map_some
abbrev KJ:=@List.flatMap_cons
abbrev KK:=@List.flatten_cons
abbrev KL:=@List.take_add_one
abbrev KM:=@Option.bind_some
abbrev KN:=@List.take_of_length_le
abbrev KO:=@List.length_nil
abbrev KP:=@List.length_map
abbrev KQ:=@List.getElem?_append_right
abbrev KR:=@Array.getElem?_eq_some_iff
abbrev KS:=@List.map_congr_left
abbrev KT:=@List.all_eq_true
abbrev KU:=@List.contains_eq_mem
abbrev KV:=@Option.bind_eq_some_iff
abbrev KW:=@List.getElem?_eq_none
abbrev KX:=@List.getElem?_map
abbrev KY:=@List.append_nil
abbrev KZ:=@Nat.lt_or_ge
abbrev K0:=@List.mem_of_mem_take
abbrev K1:=@List.take_length
abbrev K3:=@List.getElem?_of_mem
abbrev K4:=@Bool.not_eq_true'
abbrev K5:=@List.mem_cons_self
abbrev K6:=@decide_eq_false_iff_not
abbrev K7:=@Int.toNat_of_nonneg
abbrev K8:=@List.getElem?_append_left
abbrev K9:=@List.map_append
abbrev La:=@Nat.zero_add
abbrev Lc:=@Option.isSome_iff_exists
abbrev Ld:=@List.mem_map
abbrev Le:=@List.nil_append
abbrev Lf:=@List.filterMap_cons
abbrev Lg:=@List.getElem?_take
abbrev Lh:=@List.mem_or_eq_of_mem_set
abbrev Li:=@Nat.add_assoc
abbrev Lj:=@List.mem_range
abbrev Lk:=@Bool.or_eq_true
abbrev Ll:=@List.getElem?_drop
abbrev Lm:=@List.mem_filterMap
abbrev Ln:=@List.getElem?_append
abbrev Lo:=@List.length_take
abbrev Lp:=@List.getElem?_cons_zero
abbrev Lq:=@List.getElem?_cons_succ
abbrev Lr:=@List.all_cons
abbrev Ls:=@List.take_succ_eq_append_getElem
abbrev Lt:=@Array.length_toList
abbrev Lu:=@List.map_id
abbrev Lv:=@List.takeWhile_append_dropWhile
abbrev Lw:=@List.filterMap_append
abbrev Lx:=@List.take_append_drop
abbrev Ly:=@Option.isSome_some
abbrev Lz:=@Nat.add_sub_cancel_left
abbrev LA:=@List.size_toArray
abbrev LB:=@List.getElem?_set
abbrev LC:=@List.length_drop
abbrev LD:=@Nat.lt_or_gt_of_ne
abbrev LF:=@Array.getElem?_toList
abbrev LG:=@List.ext_getElem?
abbrev LH:=@List.mem_of_mem_drop
abbrev LI:=@List.pairwise_append
abbrev LJ:=@List.map_set
abbrev LK:=@List.mem_of_mem_eraseIdx
abbrev LL:=@List.eq_of_mem_replicate
abbrev LM:=@List.flatten_append
abbrev LN:=@List.take_succ_cons
abbrev LP:=@Bool.not_eq_true
abbrev LQ:=@Option.bind_none
abbrev LR:=@Nat.zero_le
abbrev LS:=@List.pairwise_cons
abbrev LU:=@List.append_eq_nil_iff
abbrev LV:=@Nat.lt_of_lt_of_le
abbrev LX:=@Option.toList_some
abbrev LY:=@Bool.decide_and
abbrev LZ:=@Bool.and_true
abbrev L0:=@List.length_replicate
abbrev L1:=@Int.mul_nonneg
abbrev L2:=@Int.mul_le_mul
abbrev L3:=@Bool.or_eq_false_iff
abbrev L4:=@List.eraseIdx_of_length_le
abbrev L5:=@Bool.decide_or
abbrev L6:=@List.any_eq_true
abbrev L7:=@Nat.sub_zero
abbrev L8:=@Nat.le_max_right
abbrev L9:=@List.mem_map_of_mem
abbrev Kaa:=@List.nodup_cons
abbrev Kab:=@Nat.le_max_left
abbrev Kac:=@Bool.true_eq_false
inductive D where
 | int (k:IntKind) (n:Int)
 | bool (b:Bool)
 | str (s:List UInt8)
 | sl (xs:List D)
 | agg (cs:List D)
def D.cells:D→List D
 | .agg cs=>cs
 | .int k n=>[.int k n]
 | .bool b=>[.bool b]
 | .str s=>[.str s]
 | .sl xs=>[.sl xs]
def D.plain:D→Bool
 | .int _ _=>true
 | .bool _=>true
 | .str _=>true
 | .sl _=>false
 | .agg _=>false
def D.one:D→Bool
 | .int _ _=>true
 | .bool _=>true
 | .str _=>true
 | .sl _=>true
 | .agg _=>false
def Zb0 (p:D→Bool):List D→Bool
 | []=>true
 | x :: xs=>p x&&Zb0 p xs
def D.flat (d:D):Bool:=Zb0 D.plain d.cells
inductive AV where
 | d (x:D)
 | nil
 | nilp
 | nili
 | ptr (id off:Nat)
 | prow (id sz i off:Nat)
 | pim (cs:List D)
 | own (id:Nat)
 | ownv (id off len:Nat)
 | sub (id nm:Nat)
 | bnil (id e:Nat)
 | bbuf (te:Nat) (l:List UInt8)
 | agg (cs:List AV)
 | tup (vs:List AV)
 | clo (f:Nat) (caps:List AV)
 | junk
inductive Zm where
 | box (cs:List AV)
 | row (sz:Nat) (xs:List D) (ex fz:Bool)
 | deep (sz ns:Nat) (xs:List D) (lk:Option (Nat×Nat×Nat))
abbrev Hp:=List (Nat×Zm)
abbrev Sl:=List (Nat×AV)
def bnd {α β:Type} (x:Option α) (f:α→Option β):Option β:=match x with
 | some a=>f a
 | none=>none
@[congr] theorem bnd_congr {α β:Type} {x y:Option α} {f:α→Option β} (h:x=y):bnd x f=bnd y f:=by rw[h]
theorem Zg {α β:Type} (a:α) (f:α→Option β):bnd (some a) f=f a:=rfl
theorem ZAw {α β:Type} (f:α→Option β):bnd none f=none:=rfl
theorem ZB3 {α β:Type} (c:Prop) [Decidable c] (a b:Option α) (f:α→Option β):bnd (if c then a else b) f=if c then bnd a f else bnd b f:=by split<;>rfl
theorem Za {α β:Type} {x:Option α} {f:α→Option β} {r:β} (h:bnd x f=some r):∃ a,x=some a∧f a=some r:=by
 cases x with
 | none=>cases h
 | some a=>exact⟨a,rfl,h⟩
def lkp {α:Type}:List (Nat×α)→Nat→Option α
 | [],_=>none
 | (k,v) :: r,t=>if k=t then some v else lkp r t
def ins {α:Type}:List (Nat×α)→Nat→α→List (Nat×α)
 | [],t,v=>[(t,v)]
 | (k,v) :: r,t,x=>if k<t then (t,x) :: (k,v) :: r else if k=t then (t,x) :: r else (k,v) :: ins r t x
def Zee:Option AV→AV
 | some v=>v
 | none=>.junk
def gs (sl:Sl) (t:Nat):AV:=Zee (lkp sl t)
structure St where
 sl:Sl
 hp:Hp
 nx:Nat
 m:Nat
def Zoo:AV→Option D
 | .d x=>if x.one then some x else none
 | _=>none
def Zfz:List AV→Option (List D)
 | []=>some []
 | v :: r=>bnd (Zoo v) fun x=>bnd (Zfz r) fun ds=>some (x :: ds)
def XY:List AV→Bool
 | []=>true
 | .bbuf _ _ :: _=>false
 | _ :: r=>XY r
def Zsn:AV→Bool
 | .clo _ _=>true
 | _=>false
def ZfA:List AV→Bool
 | []=>false
 | v :: r=>Zsn v || ZfA r
def Jl (cs:List AV):Option (List D)→AV
 | some ds=>.d (.agg ds)
 | none=>if ZfA cs then .junk else .agg cs
def AV.solid:AV→Bool
 | .junk=>false
 | .bbuf _ _=>false
 | .tup _=>false
 | _=>true
def Ym:List AV→Bool
 | []=>true
 | v :: r=>v.solid&&Ym r
def J1 (cs:List AV):AV:=Jl cs (Zfz cs)
def AV.cells:AV→List AV
 | .agg cs=>cs
 | .d x=>x.cells.map .d
 | .nil=>[.nil] | .nilp=>[.nilp] | .nili=>[.nili] | .ptr a b=>[.ptr a b] | .prow a b c e=>[.prow a b c e] | .pim cs=>[.pim cs]
 | .own a=>[.own a] | .ownv a b c=>[.ownv a b c] | .sub a b=>[.sub a b] | .bnil a b=>[.bnil a b] | .bbuf a b=>[.bbuf a b] | .tup vs=>[.tup vs] | .clo f c=>[.clo f c] | .junk=>[.junk]
def UG:Value→AV
 | .bool b=>.d (.bool b)
 | .int k n=>.d (.int k n)
 | .string s=>.d (.str s.data.toList)
 | .slice none 0 0=>.nil
 | .pointer none=>.nilp
 | .nilIface=>.nili
 | _=>.junk
def evC:Value→AV
 | .agg cs=>J1 (cs.toList.map UG)
 | v=>UG v
def ev (sl:Sl):Operand→AV
 | .tmp t=>gs sl t
 | .const v=>evC v
 | .global _=>.junk
 | .func f=>.clo f []
def Zu6:Value→Option D
 | .bool b=>some (.bool b)
 | .int k n=>some (.int k n)
 | .string s=>some (.str s.data.toList)
 | .slice none 0 0=>some (.sl [])
 | _=>none
def QG {α β:Type} (f:α→Option β):List α→Option (List β)
 | []=>some []
 | x :: r=>bnd (f x) fun y=>bnd (QG f r) fun ys=>some (y :: ys)
def evD:Value→Option D
 | .agg cs=>bnd (QG Zu6 cs.toList) fun ds=>some (.agg ds)
 | v=>Zu6 v
def J2:Option Zm→Option (List D)
 | some (.row _ xs _ _)=>some xs
 | some (.deep _ _ xs _)=>some xs
 | _=>none
def Ziu (hp:Hp):AV→Option D
 | .d x=>some x
 | .nil=>some (.sl [])
 | .own id=>bnd (J2 (lkp hp id)) fun xs=>some (.sl xs)
 | .ownv id off n=>bnd (J2 (lkp hp id)) fun xs=>some (.sl ((xs.drop off).take n))
 | _=>none
def toD (hp:Hp):AV→Option D
 | .agg cs=>bnd (QG (Ziu hp) cs) fun ds=>if Zb0 D.one ds then some (.agg ds) else none
 | v=>Ziu hp v
def Zck:AV→List Nat
 | .own id=>[id]
 | .ownv id _ _=>[id]
 | _=>[]
def ZfB:AV→List Nat
 | .agg cs=>cs.flatMap Zck
 | v=>Zck v
def Zn:AV→List Nat
 | .own id=>[id]
 | .ownv id _ _=>[id]
 | .ptr id _=>[id]
 | .prow id _ _ _=>[id]
 | .sub id nm=>[id,nm]
 | .bnil id _=>[id]
 | .junk | .bbuf _ _ | .d _ | .nil | .nilp | .nili | .pim _ | .agg _ | .tup _ | .clo _ _=>[]
def ZE:AV→List Nat
 | .agg cs=>cs.flatMap Zn
 | .clo _ cs=>cs.flatMap Zn
 | v=>Zn v
def ZD:AV→List Nat
 | .tup vs=>vs.flatMap ZE
 | v=>ZE v
def ZbH:Zm→List Nat
 | .box cs=>cs.flatMap ZE
 | .row _ _ _ _=>[]
 | .deep _ _ _ _=>[]
def ZeQ (g:Nat→Nat):AV→AV
 | .own id=>.own (g id)
 | .ownv id a b=>.ownv (g id) a b
 | .ptr id o=>.ptr (g id) o
 | .prow id s i o=>.prow (g id) s i o
 | .sub id nm=>.sub (g id) (g nm)
 | .bnil id e=>.bnil (g id) e
 | v=>v
def ZeR (g:Nat→Nat):AV→AV
 | .agg cs=>.agg (cs.map (ZeQ g))
 | .clo f cs=>.clo f (cs.map (ZeQ g))
 | v=>ZeQ g v
def ren (g:Nat→Nat):AV→AV
 | .tup vs=>.tup (vs.map (ZeR g))
 | v=>ZeR g v
def Zm5 (g:Nat→Nat):Zm→Zm
 | .box cs=>.box (cs.map (ZeR g))
 | .row s x e f=>.row s x e f
 | .deep s n x _=>.deep s n x none
def Qf (bad:List Nat):AV→AV
 | .own id=>if bad.contains id then .junk else .own id
 | .ownv id a b=>if bad.contains id then .junk else .ownv id a b
 | .ptr id o=>if bad.contains id then .junk else .ptr id o
 | .prow id s i o=>if bad.contains id then .junk else .prow id s i o
 | .sub id nm=>if bad.contains id || bad.contains nm then .junk else .sub id nm
 | .bnil id e=>if bad.contains id then .junk else .bnil id e
 | v=>v
def ZV (bad:List Nat):AV→AV
 | .agg cs=>.agg (cs.map (Qf bad))
 | .clo f cs=>.clo f (cs.map (Qf bad))
 | v=>Qf bad v
def kill (bad:List Nat):AV→AV
 | .tup vs=>.tup (vs.map (ZV bad))
 | v=>ZV bad v
def ZgT (bad:List Nat):Option (Nat×Nat×Nat)→Option (Nat×Nat×Nat)
 | some q=>if bad.contains q.1 then none else some q
 | none=>none
def XZ (bad:List Nat):Zm→Zm
 | .box cs=>.box (cs.map (ZV bad))
 | .row s x e f=>.row s x e f
 | .deep s n x l=>.deep s n x (ZgT bad l)
def Ziv {α β:Type} (f:α→β):List (Nat×α)→List (Nat×β)
 | []=>[]
 | (k,v) :: r=>(k,f v) :: Ziv f r
def VQ:Zm→Zm
 | .row s x e _=>.row s x e true
 | .deep s n x l=>.deep s n x l
 | o=>o
def freeze (ids:List Nat):Hp→Hp
 | []=>[]
 | (k,o) :: r=>(k,if ids.contains k then VQ o else o) :: freeze ids r
def ZjR:Option Zm→Option (List D×Bool)
 | some (.row _ xs ex _)=>some (xs,ex)
 | _=>none
def Zcl (hp:Hp):AV→Option (D×Bool×List Nat)
 | .d x=>some (x,x.flat,[])
 | .nil=>some (.sl [],true,[])
 | .own id=>bnd (ZjR (lkp hp id)) fun q=>some (.sl q.1,q.2,[id])
 | _=>none
def WF (hp:Hp):List AV→Option (List D×Bool×List Nat)
 | []=>some ([],true,[])
 | v :: r=>bnd (Zcl hp v) fun q=>bnd (WF hp r) fun p=>
   if q.1.one&&!q.2.2.any p.2.2.contains then some (q.1 :: p.1,q.2.1&&p.2.1,q.2.2++p.2.2) else none
def give (hp:Hp):AV→Option (D×Bool×List Nat)
 | .agg cs=>bnd (WF hp cs) fun p=>some (.agg p.1,p.2.1,p.2.2)
 | v=>Zcl hp v
def Ug (hp:Hp):List AV→Option (List D×Bool×List Nat)
 | []=>some ([],true,[])
 | v :: r=>bnd (give hp v) fun q=>bnd (Ug hp r) fun p=>
   if !q.2.2.any p.2.2.contains then some (q.1 :: p.1,q.2.1&&p.2.1,q.2.2++p.2.2) else none
def Qe {α:Type} (cs:List α) (off:Nat) (vs:List α):List α:=cs.take off++vs++cs.drop (off+vs.length)
def ZfC (x:D) (off:Nat) (ds:List D):D:=match x with
 | .agg cs=>.agg (Qe cs off ds)
 | _=>ds.headD x
def UQ (op:BinOp) (k:IntKind) (a b:Int):Option D:=
 match op with
 | .add=>some (.int k (k.wrap (a+b)))
 | .sub=>some (.int k (k.wrap (a-b)))
 | .mul=>some (.int k (k.wrap (a*b)))
 | .quo=>if b=0 then none else some (.int k (k.wrap (a.tdiv b)))
 | .rem=>if b=0 then none else some (.int k (a.tmod b))
 | .and=>some (.int k (k.wrap (BitVec.ofInt k.bits a &&& BitVec.ofInt k.bits b).toNat))
 | .or=>some (.int k (k.wrap (BitVec.ofInt k.bits a ||| BitVec.ofInt k.bits b).toNat))
 | .xor=>some (.int k (k.wrap (BitVec.ofInt k.bits a ^^^ BitVec.ofInt k.bits b).toNat))
 | .andNot=>some (.int k (k.wrap (BitVec.ofInt k.bits a &&& ~~~(BitVec.ofInt k.bits b)).toNat))
 | .eql=>some (.bool (a==b))
 | .neq=>some (.bool (a != b))
 | .lss=>some (.bool (decide (a<b)))
 | .leq=>some (.bool (decide (a≤b)))
 | .gtr=>some (.bool (decide (a>b)))
 | .geq=>some (.bool (decide (a≥b)))
 | .shl | .shr=>none
def Zk5 (op:BinOp) (k:IntKind) (a b:Int):Option D:=
 if b<0 then none else
 match op with
 | .shl=>some (.int k (k.wrap (a*2 ^ (min b.toNat k.bits))))
 | .shr=>some (.int k (a.fdiv (2 ^ (min b.toNat k.bits))))
 | _=>none
def ZwX:Nat:=1152921504606846976
def Zu7 (op:BinOp) (a b:List UInt8):Option D:=
 match op with
 | .add=>if a.length+b.length≤ZwX then some (.str (a++b)) else none
 | .eql=>some (.bool (a==b))
 | .neq=>some (.bool (!(a==b)))
 | _=>none
def D.beq1:D→D→Option Bool
 | .int _ a,.int _ b=>some (a==b)
 | .bool a,.bool b=>some (a==b)
 | .str a,.str b=>some (a==b)
 | _,_=>none
def beqL:List D→List D→Option Bool
 | [],[]=>some true
 | x :: xs,y :: ys=>bnd (D.beq1 x y) fun a=>bnd (beqL xs ys) fun b=>some (a&&b)
 | _,_=>none
def agg2 (op:BinOp) (r:Option Bool):Option AV:=match op with
 | .eql=>bnd r fun r=>some (.d (.bool r))
 | .neq=>bnd r fun r=>some (.d (.bool (!r)))
 | _=>none
def asD (r:Option D):Option AV:=bnd r fun x=>some (.d x)
def J3 (op:BinOp) (k k' : IntKind) (a b:Int):Option AV:=match op with
 | .shl | .shr=>asD (Zk5 op k a b)
 | _=>if k=k' then asD (UQ op k a b) else none
def Zso (op:BinOp) (a b:Bool):Option AV:=match op with
 | .eql=>some (.d (.bool (a==b)))
 | .neq=>some (.d (.bool (!(a==b))))
 | _=>none
def vbin (op:BinOp):AV→AV→Option AV
 | .d (.int k a),.d (.int k' b)=>J3 op k k' a b
 | .d (.str a),.d (.str b)=>asD (Zu7 op a b)
 | _,_=>none
def neg1 (op:UnOp) (k:IntKind) (a:Int):Option AV:=match op with
 | .neg=>some (.d (.int k (k.wrap (0-a))))
 | _=>none
def not1 (op:UnOp) (a:Bool):Option AV:=match op with
 | .not=>some (.d (.bool (!a)))
 | _=>none
def vun (op:UnOp):AV→Option AV
 | .d (.int k a)=>neg1 op k a
 | .d (.bool a)=>not1 op a
 | _=>none
def Zef (hp:Hp):AV→Option Nat
 | .d (.sl xs)=>some xs.length
 | .nil=>some 0
 | .own id=>bnd (J2 (lkp hp id)) fun xs=>some xs.length
 | .ownv _ _ n=>some n
 | _=>none
def Zzd:AV→Option Nat
 | .d (.str s)=>some s.length
 | _=>none
def minI (a b:Int):Int:=if b<a then b else a
def maxI (a b:Int):Int:=if b>a then b else a
end Go.Abs
