/- Own text. -/
import Derived.Orders
import Derived.Laws.AppendOwn
set_option linter.unusedVariables false
set_option linter.unusedSimpArgs false
namespace Go.Abs
open Go
abbrev Ka:=@Bool.false_eq_true
abbrev Kb:=@List.getElem?_eq_some_iff
abbrev Kc:=@List.mem_of_getElem?
abbrev Kd:=@if_neg
abbrev Ke:=@List.mem_cons
abbrev Kf:=@Bool.and_eq_true
abbrev Kg:=@List.mem_append
abbrev Kh:=@if_pos
abbrev Ki:=@decide_eq_true
abbrev Kj:=@decide_eq_false
abbrev Kk:=@List.map_cons
abbrev Kl:=@List.length_filterMap_le
abbrev Km:=@if_true
abbrev Kn:=@decide_eq_true_eq
abbrev Ko:=@List.length_cons
abbrev Kp:=@List.length_append
abbrev Kq:=@if_false
abbrev Kr:=@List.eq_nil_of_length_eq_zero
abbrev Ks:=@List.getElem?_eq_getElem
abbrev Kt:=@Nat.le_refl
abbrev Ku:=@List.not_mem_nil
abbrev Kv:=@List.cons_append
abbrev Kw:=@List.map_nil
abbrev Kx:=@List.drop_eq_getElem_cons
abbrev Ky:=@List.mem_flatMap
abbrev Kz:=@Nat.le_trans
abbrev KA:=@List.mem_singleton
abbrev KB:=@List.mem_cons_of_mem
abbrev KC:=@Option.isSome_none
abbrev KD:=@Nat.mul_le_mul_right
abbrev KE:=@Nat.ne_of_gt
abbrev KF:=@Int.toNat_natCast
abbrev KG:=@Nat.add_mul
abbrev KH:=@List.take_of_length_le
abbrev KI:=@Option.bind_some
abbrev KJ:=@Option.map_some
abbrev KK:=@List.flatMap_cons
abbrev KL:=@List.length_nil
abbrev KM:=@List.flatten_cons
abbrev KN:=@List.append_assoc
abbrev KO:=@Array.getElem?_eq_some_iff
abbrev KP:=@List.take_add_one
abbrev KQ:=@Option.bind_eq_some_iff
abbrev KR:=@List.length_map
abbrev KS:=@List.map_congr_left
abbrev KT:=@List.all_eq_true
abbrev KU:=@List.append_nil
abbrev KV:=@List.contains_eq_mem
abbrev KW:=@List.getElem?_eq_none
abbrev KX:=@List.getElem?_map
abbrev KY:=@List.take_length
abbrev KZ:=@Nat.lt_or_ge
abbrev K0:=@List.getElem?_of_mem
abbrev K1:=@Bool.not_eq_true'
abbrev K3:=@List.mem_cons_self
abbrev K4:=@decide_eq_false_iff_not
abbrev K5:=@Nat.zero_add
abbrev K6:=@List.mem_of_mem_take
abbrev K7:=@Option.isSome_iff_exists
abbrev K8:=@List.getElem?_append_right
abbrev K9:=@List.getElem?_append_left
abbrev La:=@List.mem_map
abbrev Lc:=@List.map_append
abbrev Ld:=@Int.toNat_of_nonneg
abbrev Le:=@List.filterMap_cons
abbrev Lf:=@List.getElem?_take
abbrev Lg:=@List.nil_append
abbrev Lh:=@List.mem_or_eq_of_mem_set
abbrev Li:=@List.mem_range
abbrev Lj:=@Bool.or_eq_true
abbrev Lk:=@List.mem_filterMap
abbrev Ll:=@List.getElem?_drop
abbrev Lm:=@List.getElem?_cons_zero
abbrev Ln:=@List.getElem?_cons_succ
abbrev Lo:=@List.getElem?_append
abbrev Lp:=@List.length_take
abbrev Lq:=@List.all_cons
abbrev Lr:=@Nat.add_assoc
abbrev Ls:=@List.take_succ_eq_append_getElem
abbrev Lt:=@Array.length_toList
abbrev Lu:=@List.map_id
abbrev Lv:=@List.takeWhile_append_dropWhile
abbrev Lw:=@List.filterMap_append
abbrev Lx:=@Option.isSome_some
abbrev Ly:=@List.getElem?_set
abbrev Lz:=@List.size_toArray
abbrev LA:=@Nat.sub_zero
abbrev LB:=@List.length_drop
abbrev LC:=@Nat.lt_or_gt_of_ne
abbrev LD:=@Array.getElem?_toList
abbrev LE:=@List.mem_of_mem_drop
abbrev LF:=@List.map_set
abbrev LG:=@List.ext_getElem?
abbrev LH:=@List.pairwise_append
abbrev LI:=@List.mem_of_mem_eraseIdx
abbrev LJ:=@List.eq_of_mem_replicate
abbrev LK:=@List.take_succ_cons
abbrev LM:=@Option.bind_none
abbrev LN:=@Bool.not_eq_true
abbrev LP:=@Nat.zero_le
abbrev LQ:=@Option.toList_some
abbrev LR:=@List.append_eq_nil_iff
abbrev LS:=@List.pairwise_cons
abbrev LT:=@Nat.lt_of_lt_of_le
abbrev LU:=@Bool.decide_and
abbrev LV:=@Bool.and_true
abbrev LX:=@List.take_append_drop
abbrev LY:=@Int.mul_nonneg
abbrev LZ:=@Int.mul_le_mul
abbrev L0:=@List.eraseIdx_of_length_le
abbrev L1:=@Bool.decide_or
abbrev L2:=@Bool.or_eq_false_iff
abbrev L3:=@List.any_eq_true
abbrev L4:=@Nat.le_max_right
abbrev L5:=@List.mem_map_of_mem
abbrev L6:=@List.flatten_append
abbrev L7:=@List.nodup_cons
abbrev L8:=@Nat.le_max_left
abbrev L9:=@Bool.true_eq_false
abbrev Kaa:=@List.drop_zero
inductive D where
 | int (k:IntKind) (n:Int)
 | bool (b:Bool)
 | str (s:List UInt8)
 | sl (xs:List D)
 | agg (cs:List D)
def D.cells:D→List D
 | .agg cs=>cs
 | .int k n=>[.int k n]
 | .bool b=>[.bool b]
 | .str s=>[.str s]
 | .sl xs=>[.sl xs]
def D.plain:D→Bool
 | .int _ _=>true
 | .bool _=>true
 | .str _=>true
 | .sl _=>false
 | .agg _=>false
def D.one:D→Bool
 | .int _ _=>true
 | .bool _=>true
 | .str _=>true
 | .sl _=>true
 | .agg _=>false
def Zcg (p:D→Bool):List D→Bool
 | []=>true
 | x :: xs=>p x&&Zcg p xs
def D.flat (d:D):Bool:=Zcg D.plain d.cells
inductive AV where
 | d (x:D)
 | nil
 | nilp
 | nili
 | ptr (id off:Nat)
 | prow (id sz i off:Nat)
 | pim (cs:List D)
 | own (id:Nat)
 | ownv (id off len:Nat)
 | sub (id nm:Nat)
 | bnil (id e:Nat)
 | bbuf (te:Nat) (l:List UInt8)
 | agg (cs:List AV)
 | tup (vs:List AV)
 | clo (f:Nat) (caps:List AV)
 | junk
inductive Zm where
 | box (cs:List AV)
 | row (sz:Nat) (xs:List D) (ex fz:Bool)
 | deep (sz ns:Nat) (xs:List D) (lk:Option (Nat×Nat×Nat))
abbrev Hp:=List (Nat×Zm)
abbrev Sl:=List (Nat×AV)
def bnd {α β:Type} (x:Option α) (f:α→Option β):Option β:=match x with
 | some a=>f a
 | none=>none
@[congr] theorem bnd_congr {α β:Type} {x y:Option α} {f:α→Option β} (h:x=y):bnd x f=bnd y f:=by rw[h]
theorem Zg {α β:Type} (a:α) (f:α→Option β):bnd (some a) f=f a:=rfl
theorem ZAR {α β:Type} (f:α→Option β):bnd none f=none:=rfl
theorem ZB8 {α β:Type} (c:Prop) [Decidable c] (a b:Option α) (f:α→Option β):bnd (if c then a else b) f=if c then bnd a f else bnd b f:=by split<;>rfl
theorem Za {α β:Type} {x:Option α} {f:α→Option β} {r:β} (h:bnd x f=some r):∃ a,x=some a∧f a=some r:=by
 cases x with
 | none=>cases h
 | some a=>exact⟨a,rfl,h⟩
def lkp {α:Type}:List (Nat×α)→Nat→Option α
 | [],_=>none
 | (k,v) :: r,t=>if k=t then some v else lkp r t
def ins {α:Type}:List (Nat×α)→Nat→α→List (Nat×α)
 | [],t,v=>[(t,v)]
 | (k,v) :: r,t,x=>if k<t then (t,x) :: (k,v) :: r else if k=t then (t,x) :: r else (k,v) :: ins r t x
def ZeS:Option AV→AV
 | some v=>v
 | none=>.junk
def gs (sl:Sl) (t:Nat):AV:=ZeS (lkp sl t)
structure St where
 sl:Sl
 hp:Hp
 nx:Nat
 m:Nat
def ZqX:AV→Option D
 | .d x=>if x.one then some x else none
 | _=>none
def ZgH:List AV→Option (List D)
 | []=>some []
 | v :: r=>bnd (ZqX v) fun x=>bnd (ZgH r) fun ds=>some (x :: ds)
def X3:List AV→Bool
 | []=>true
 | .bbuf _ _ :: _=>false
 | _ :: r=>X3 r
def Ztm:AV→Bool
 | .clo _ _=>true
 | _=>false
def ZgI:List AV→Bool
 | []=>false
 | v :: r=>Ztm v || ZgI r
def Jz (cs:List AV):Option (List D)→AV
 | some ds=>.d (.agg ds)
 | none=>if ZgI cs then .junk else .agg cs
def AV.solid:AV→Bool
 | .junk=>false
 | .bbuf _ _=>false
 | .tup _=>false
 | _=>true
def Yy:List AV→Bool
 | []=>true
 | v :: r=>v.solid&&Yy r
def ZaJ (cs:List AV):AV:=Jz cs (ZgH cs)
def AV.cells:AV→List AV
 | .agg cs=>cs
 | .d x=>x.cells.map .d
 | .nil=>[.nil] | .nilp=>[.nilp] | .nili=>[.nili] | .ptr a b=>[.ptr a b] | .prow a b c e=>[.prow a b c e] | .pim cs=>[.pim cs]
 | .own a=>[.own a] | .ownv a b c=>[.ownv a b c] | .sub a b=>[.sub a b] | .bnil a b=>[.bnil a b] | .bbuf a b=>[.bbuf a b] | .tup vs=>[.tup vs] | .clo f c=>[.clo f c] | .junk=>[.junk]
def UQ:Value→AV
 | .bool b=>.d (.bool b)
 | .int k n=>.d (.int k n)
 | .string s=>.d (.str s.data.toList)
 | .slice none 0 0=>.nil
 | .pointer none=>.nilp
 | .nilIface=>.nili
 | _=>.junk
def evC:Value→AV
 | .agg cs=>ZaJ (cs.toList.map UQ)
 | v=>UQ v
def ev (sl:Sl):Operand→AV
 | .tmp t=>gs sl t
 | .const v=>evC v
 | .global _=>.junk
 | .func f=>.clo f []
def ZvP:Value→Option D
 | .bool b=>some (.bool b)
 | .int k n=>some (.int k n)
 | .string s=>some (.str s.data.toList)
 | .slice none 0 0=>some (.sl [])
 | _=>none
def QM {α β:Type} (f:α→Option β):List α→Option (List β)
 | []=>some []
 | x :: r=>bnd (f x) fun y=>bnd (QM f r) fun ys=>some (y :: ys)
def evD:Value→Option D
 | .agg cs=>bnd (QM ZvP cs.toList) fun ds=>some (.agg ds)
 | v=>ZvP v
def ZaK:Option Zm→Option (List D)
 | some (.row _ xs _ _)=>some xs
 | some (.deep _ _ xs _)=>some xs
 | _=>none
def Zj7 (hp:Hp):AV→Option D
 | .d x=>some x
 | .nil=>some (.sl [])
 | .own id=>bnd (ZaK (lkp hp id)) fun xs=>some (.sl xs)
 | .ownv id off n=>bnd (ZaK (lkp hp id)) fun xs=>some (.sl ((xs.drop off).take n))
 | _=>none
def toD (hp:Hp):AV→Option D
 | .agg cs=>bnd (QM (Zj7 hp) cs) fun ds=>if Zcg D.one ds then some (.agg ds) else none
 | v=>Zj7 hp v
def Zcv:AV→List Nat
 | .own id=>[id]
 | .ownv id _ _=>[id]
 | _=>[]
def ZgJ:AV→List Nat
 | .agg cs=>cs.flatMap Zcv
 | v=>Zcv v
def Zn:AV→List Nat
 | .own id=>[id]
 | .ownv id _ _=>[id]
 | .ptr id _=>[id]
 | .prow id _ _ _=>[id]
 | .sub id nm=>[id,nm]
 | .bnil id _=>[id]
 | .junk | .bbuf _ _ | .d _ | .nil | .nilp | .nili | .pim _ | .agg _ | .tup _ | .clo _ _=>[]
def ZD:AV→List Nat
 | .agg cs=>cs.flatMap Zn
 | .clo _ cs=>cs.flatMap Zn
 | v=>Zn v
def ZC:AV→List Nat
 | .tup vs=>vs.flatMap ZD
 | v=>ZD v
def ZbY:Zm→List Nat
 | .box cs=>cs.flatMap ZD
 | .row _ _ _ _=>[]
 | .deep _ _ _ _=>[]
def Zfy (g:Nat→Nat):AV→AV
 | .own id=>.own (g id)
 | .ownv id a b=>.ownv (g id) a b
 | .ptr id o=>.ptr (g id) o
 | .prow id s i o=>.prow (g id) s i o
 | .sub id nm=>.sub (g id) (g nm)
 | .bnil id e=>.bnil (g id) e
 | v=>v
def Zfz (g:Nat→Nat):AV→AV
 | .agg cs=>.agg (cs.map (Zfy g))
 | .clo f cs=>.clo f (cs.map (Zfy g))
 | v=>Zfy g v
def ren (g:Nat→Nat):AV→AV
 | .tup vs=>.tup (vs.map (Zfz g))
 | v=>Zfz g v
def ZpN (g:Nat→Nat):Zm→Zm
 | .box cs=>.box (cs.map (Zfz g))
 | .row s x e f=>.row s x e f
 | .deep s n x _=>.deep s n x none
def Qg (bad:List Nat):AV→AV
 | .own id=>if bad.contains id then .junk else .own id
 | .ownv id a b=>if bad.contains id then .junk else .ownv id a b
 | .ptr id o=>if bad.contains id then .junk else .ptr id o
 | .prow id s i o=>if bad.contains id then .junk else .prow id s i o
 | .sub id nm=>if bad.contains id || bad.contains nm then .junk else .sub id nm
 | .bnil id e=>if bad.contains id then .junk else .bnil id e
 | v=>v
def ZX (bad:List Nat):AV→AV
 | .agg cs=>.agg (cs.map (Qg bad))
 | .clo f cs=>.clo f (cs.map (Qg bad))
 | v=>Qg bad v
def kill (bad:List Nat):AV→AV
 | .tup vs=>.tup (vs.map (ZX bad))
 | v=>ZX bad v
def Zi1 (bad:List Nat):Option (Nat×Nat×Nat)→Option (Nat×Nat×Nat)
 | some q=>if bad.contains q.1 then none else some q
 | none=>none
def X4 (bad:List Nat):Zm→Zm
 | .box cs=>.box (cs.map (ZX bad))
 | .row s x e f=>.row s x e f
 | .deep s n x l=>.deep s n x (Zi1 bad l)
def Zj8 {α β:Type} (f:α→β):List (Nat×α)→List (Nat×β)
 | []=>[]
 | (k,v) :: r=>(k,f v) :: Zj8 f r
def V9:Zm→Zm
 | .row s x e _=>.row s x e true
 | .deep s n x l=>.deep s n x l
 | o=>o
def freeze (ids:List Nat):Hp→Hp
 | []=>[]
 | (k,o) :: r=>(k,if ids.contains k then V9 o else o) :: freeze ids r
def ZmE:Option Zm→Option (List D×Bool)
 | some (.row _ xs ex _)=>some (xs,ex)
 | _=>none
def Zcw (hp:Hp):AV→Option (D×Bool×List Nat)
 | .d x=>some (x,x.flat,[])
 | .nil=>some (.sl [],true,[])
 | .own id=>bnd (ZmE (lkp hp id)) fun q=>some (.sl q.1,q.2,[id])
 | _=>none
def WP (hp:Hp):List AV→Option (List D×Bool×List Nat)
 | []=>some ([],true,[])
 | v :: r=>bnd (Zcw hp v) fun q=>bnd (WP hp r) fun p=>
   if q.1.one&&!q.2.2.any p.2.2.contains then some (q.1 :: p.1,q.2.1&&p.2.1,q.2.2++p.2.2) else none
def give (hp:Hp):AV→Option (D×Bool×List Nat)
 | .agg cs=>bnd (WP hp cs) fun p=>some (.agg p.1,p.2.1,p.2.2)
 | v=>Zcw hp v
def UI (hp:Hp):List AV→Option (List D×Bool×List Nat)
 | []=>some ([],true,[])
 | v :: r=>bnd (give hp v) fun q=>bnd (UI hp r) fun p=>
   if !q.2.2.any p.2.2.contains then some (q.1 :: p.1,q.2.1&&p.2.1,q.2.2++p.2.2) else none
def Qf {α:Type} (cs:List α) (off:Nat) (vs:List α):List α:=cs.take off++vs++cs.drop (off+vs.length)
def ZgK (x:D) (off:Nat) (ds:List D):D:=match x with
 | .agg cs=>.agg (Qf cs off ds)
 | _=>ds.headD x
def Jk (op:BinOp) (k:IntKind) (a b:Int):Option D:=
 match op with
 | .add=>some (.int k (k.wrap (a+b)))
 | .sub=>some (.int k (k.wrap (a-b)))
 | .mul=>some (.int k (k.wrap (a*b)))
 | .quo=>if b=0 then none else some (.int k (k.wrap (a.tdiv b)))
 | .rem=>if b=0 then none else some (.int k (a.tmod b))
 | .and=>some (.int k (k.wrap (BitVec.ofInt k.bits a &&& BitVec.ofInt k.bits b).toNat))
 | .or=>some (.int k (k.wrap (BitVec.ofInt k.bits a ||| BitVec.ofInt k.bits b).toNat))
 | .xor=>some (.int k (k.wrap (BitVec.ofInt k.bits a ^^^ BitVec.ofInt k.bits b).toNat))
 | .andNot=>some (.int k (k.wrap (BitVec.ofInt k.bits a &&& ~~~(BitVec.ofInt k.bits b)).toNat))
 | .eql=>some (.bool (a==b))
 | .neq=>some (.bool (a != b))
 | .lss=>some (.bool (decide (a<b)))
 | .leq=>some (.bool (decide (a≤b)))
 | .gtr=>some (.bool (decide (a>b)))
 | .geq=>some (.bool (decide (a≥b)))
 | .shl | .shr=>none
def ZnV (op:BinOp) (k:IntKind) (a b:Int):Option D:=
 if b<0 then none else
 match op with
 | .shl=>some (.int k (k.wrap (a*2 ^ (min b.toNat k.bits))))
 | .shr=>some (.int k (a.fdiv (2 ^ (min b.toNat k.bits))))
 | _=>none
def Zxp:Nat:=1152921504606846976
def ZvQ (op:BinOp) (a b:List UInt8):Option D:=
 match op with
 | .add=>if a.length+b.length≤Zxp then some (.str (a++b)) else none
 | .eql=>some (.bool (a==b))
 | .neq=>some (.bool (!(a==b)))
 | _=>none
def D.beq1:D→D→Option Bool
 | .int _ a,.int _ b=>some (a==b)
 | .bool a,.bool b=>some (a==b)
 | .str a,.str b=>some (a==b)
 | _,_=>none
def beqL:List D→List D→Option Bool
 | [],[]=>some true
 | x :: xs,y :: ys=>bnd (D.beq1 x y) fun a=>bnd (beqL xs ys) fun b=>some (a&&b)
 | _,_=>none
def agg2 (op:BinOp) (r:Option Bool):Option AV:=match op with
 | .eql=>bnd r fun r=>some (.d (.bool r))
 | .neq=>bnd r fun r=>some (.d (.bool (!r)))
 | _=>none
def asD (r:Option D):Option AV:=bnd r fun x=>some (.d x)
def ZaL (op:BinOp) (k k' : IntKind) (a b:Int):Option AV:=match op with
 | .shl | .shr=>asD (ZnV op k a b)
 | _=>if k=k' then asD (Jk op k a b) else none
def Ztn (op:BinOp) (a b:Bool):Option AV:=match op with
 | .eql=>some (.d (.bool (a==b)))
 | .neq=>some (.d (.bool (!(a==b))))
 | _=>none
def vbin (op:BinOp):AV→AV→Option AV
 | .d (.int k a),.d (.int k' b)=>ZaL op k k' a b
 | .d (.str a),.d (.str b)=>asD (ZvQ op a b)
 | _,_=>none
def neg1 (op:UnOp) (k:IntKind) (a:Int):Option AV:=match op with
 | .neg=>some (.d (.int k (k.wrap (0-a))))
 | _=>none
def not1 (op:UnOp) (a:Bool):Option AV:=match op with
 | .not=>some (.d (.bool (!a)))
 | _=>none
def vun (op:UnOp):AV→Option AV
 | .d (.int k a)=>neg1 op k a
 | .d (.bool a)=>not1 op a
 | _=>none
def ZeT (hp:Hp):AV→Option Nat
 | .d (.sl xs)=>some xs.length
 | .nil=>some 0
 | .own id=>bnd (ZaK (lkp hp id)) fun xs=>some xs.length
 | .ownv _ _ n=>some n
 | _=>none
def Zzy:AV→Option Nat
 | .d (.str s)=>some s.length
 | _=>none
def minI (a b:Int):Int:=if b<a then b else a
def maxI (a b:Int):Int:=if b>a then b else a
end Go.Abs
