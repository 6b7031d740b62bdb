/- Own text. -/
import Derived.Orders
import Derived.Laws.AppendOwn
set_option linter.unusedVariables false
set_option linter.unusedSimpArgs false
namespace Go.Abs
open Go
abbrev Ka:=@Bool.false_eq_true
abbrev Kb:=@Bool.and_eq_true
abbrev Kc:=@List.mem_append
abbrev Kd:=@List.getElem?_eq_some_iff
abbrev Ke:=@List.mem_cons
abbrev Kf:=@Nat.le_refl
abbrev Kg:=@List.mem_of_getElem?
abbrev Kh:=@List.eq_nil_of_length_eq_zero
abbrev Ki:=@List.length_append
abbrev Kj:=@if_false
abbrev Kk:=@List.length_cons
abbrev Kl:=@if_true
abbrev Km:=@List.getElem?_append_right
abbrev Kn:=@List.getElem?_append_left
abbrev Ko:=@List.map_cons
abbrev Kp:=@if_neg
abbrev Kq:=@decide_eq_true_eq
abbrev Kr:=@List.mem_flatMap
abbrev Ks:=@List.mem_cons_of_mem
abbrev Kt:=@if_pos
abbrev Ku:=@Nat.ne_of_gt
abbrev Kv:=@decide_eq_false
abbrev Kw:=@List.map_congr_left
abbrev Kx:=@List.getElem?_eq_getElem
abbrev Ky:=@Nat.mul_le_mul_right
abbrev Kz:=@List.flatMap_cons
abbrev KA:=@Nat.add_mul
abbrev KB:=@Array.getElem?_eq_some_iff
abbrev KC:=@List.mem_singleton
abbrev KD:=@Nat.add_assoc
abbrev KE:=@List.all_eq_true
abbrev KF:=@List.contains_eq_mem
abbrev KG:=@List.getElem?_cons_succ
abbrev KH:=@List.getElem?_eq_none
abbrev KI:=@Bool.not_eq_true'
abbrev KJ:=@List.getElem?_map
abbrev KK:=@Option.map_some
abbrev KL:=@List.count_pos_iff
abbrev KM:=@List.length_nil
abbrev KN:=@Array.length_toList
abbrev KO:=@Nat.lt_or_ge
abbrev KP:=@Nat.zero_add
abbrev KQ:=@List.length_map
abbrev KR:=@List.flatten_cons
abbrev KS:=@List.getElem?_take
abbrev KT:=@decide_eq_false_iff_not
abbrev KU:=@List.cons_append
abbrev KV:=@List.length_take
abbrev KW:=@List.ext_getElem?
abbrev KX:=@List.getElem?_drop
abbrev KY:=@Option.isSome_iff_exists
abbrev KZ:=@List.take_length
abbrev K0:=@List.getElem?_set_ne
abbrev K1:=@List.mem_cons_self
abbrev K2:=@decide_eq_true
abbrev K3:=@Int.toNat_natCast
abbrev K4:=@List.getElem?_set
abbrev K5:=@List.getElem?_cons_zero
abbrev K6:=@Nat.add_sub_cancel_left
abbrev K7:=@List.mem_range
abbrev K8:=@List.getD_eq_getElem?_getD
abbrev K9:=@List.nodup_cons
abbrev La:=@List.flatten_append
abbrev Lb:=@List.nodup_nil
abbrev Lc:=@List.mem_map
abbrev Ld:=@Bool.or_eq_true
abbrev Le:=@List.map_append
abbrev Lg:=@List.headD_cons
abbrev Lh:=@Nat.eq_zero_or_pos
abbrev Li:=@Nat.add_sub_cancel
abbrev Lj:=@List.all_cons
abbrev Lk:=@List.map_nil
abbrev Ll:=@List.getElem?_range
abbrev Lm:=@List.map_id
abbrev Ln:=@List.take_append_drop
abbrev Lo:=@List.length_drop
abbrev Lp:=@List.length_filterMap_le
abbrev Lq:=@List.take_add_one
abbrev Lr:=@List.nil_append
abbrev Lt:=@List.replicate_succ
abbrev Lu:=@List.take_of_length_le
abbrev Lv:=@Nat.le_trans
abbrev Lw:=@List.getElem?_set_self
abbrev Lx:=@Nat.add_zero
abbrev Ly:=@List.any_eq_true
abbrev Lz:=@Bool.not_eq_true
abbrev LA:=@List.not_mem_nil
abbrev LB:=@Nat.lt_or_gt_of_ne
abbrev LC:=@List.filterMap_append
abbrev LD:=@Array.getElem?_toList
abbrev LF:=@List.drop_eq_getElem_cons
abbrev LG:=@List.append_nil
abbrev LH:=@List.length_set
abbrev LI:=@List.nodup_append
abbrev LJ:=@List.append_assoc
abbrev LK:=@List.getElem?_of_mem
abbrev LL:=@List.pairwise_append
abbrev LM:=@List.nodup_iff_count
abbrev LN:=@List.size_toArray
abbrev LP:=@Nat.add_le_add_left
abbrev LQ:=@Int.mul_nonneg
abbrev LR:=@List.pairwise_cons
abbrev LS:=@Nat.min_eq_left
abbrev LU:=@Int.mul_assoc
abbrev LV:=@Array.getElem?_modify
abbrev LX:=@List.getElem?_toArray
abbrev LY:=@List.mem_of_mem_take
abbrev LZ:=@Int.mul_le_mul
abbrev L0:=@Array.toList_setIfInBounds
abbrev L1:=@List.getElem?_append
abbrev L2:=@Int.tdiv_eq_ediv_of_nonneg
abbrev L3:=@List.nodup_range
abbrev L4:=@Nat.le_max_right
abbrev L5:=@List.filterMap_cons
abbrev L6:=@Bool.and_true
abbrev L7:=@Nat.le_max_left
abbrev L8:=@Nat.lt_of_lt_of_le
abbrev L9:=@Option.toList_some
abbrev Kaa:=@Nat.sub_zero
abbrev Kab:=@Int.mul_comm
inductive D where
 | int (k:IntKind) (n:Int)
 | bool (b:Bool)
 | str (s:List UInt8)
 | sl (xs:List D)
 | agg (cs:List D)
def D.cells:D→List D
 | .agg cs=>cs
 | .int k n=>[.int k n]
 | .bool b=>[.bool b]
 | .str s=>[.str s]
 | .sl xs=>[.sl xs]
def D.plain:D→Bool
 | .int _ _=>true
 | .bool _=>true
 | .str _=>true
 | .sl _=>false
 | .agg _=>false
def D.one:D→Bool
 | .int _ _=>true
 | .bool _=>true
 | .str _=>true
 | .sl _=>true
 | .agg _=>false
def Vb (p:D→Bool):List D→Bool
 | []=>true
 | x :: xs=>p x&&Vb p xs
def D.flat (d:D):Bool:=Vb D.plain d.cells
inductive AV where
 | d (x:D)
 | nil
 | nilp
 | nili
 | ptr (id off:Nat)
 | prow (id sz i off:Nat)
 | pim (cs:List D)
 | own (id:Nat)
 | ownv (id off len:Nat)
 | bnil (id e:Nat)
 | bbuf (te:Nat) (l:List UInt8)
 | agg (cs:List AV)
 | tup (vs:List AV)
 | clo (f:Nat) (caps:List AV)
 | junk
inductive Zh where
 | box (cs:List AV)
 | row (sz:Nat) (xs:List D) (ex fz:Bool)
 | tree (sz ns:Nat) (xs:List D) (lk:Option (Option Nat×Nat×Nat))
 | gone
abbrev Hp:=List (Nat×Zh)
abbrev Sl:=List (Nat×AV)
def bnd {α β:Type} (x:Option α) (f:α→Option β):Option β:=match x with
 | some a=>f a
 | none=>none
@[congr] theorem bnd_congr {α β:Type} {x y:Option α} {f:α→Option β} (h:x=y):bnd x f=bnd y f:=by rw[h]
theorem Zc {α β:Type} (a:α) (f:α→Option β):bnd (some a) f=f a:=rfl
theorem ZoA {α β:Type} (f:α→Option β):bnd none f=none:=rfl
theorem Zp3 {α β:Type} (c:Prop) [Decidable c] (a b:Option α) (f:α→Option β):bnd (if c then a else b) f=if c then bnd a f else bnd b f:=by split<;>rfl
theorem Za {α β:Type} {x:Option α} {f:α→Option β} {r:β} (h:bnd x f=some r):∃ a,x=some a∧f a=some r:=by
 cases x with
 | none=>cases h
 | some a=>exact⟨a,rfl,h⟩
def lkp {α:Type}:List (Nat×α)→Nat→Option α
 | [],_=>none
 | (k,v) :: r,t=>if k=t then some v else lkp r t
def ins {α:Type}:List (Nat×α)→Nat→α→List (Nat×α)
 | [],t,v=>[(t,v)]
 | (k,v) :: r,t,x=>if k<t then (t,x) :: (k,v) :: r else if k=t then (t,x) :: r else (k,v) :: ins r t x
def W5:Option AV→AV
 | some v=>v
 | none=>.junk
def gs (sl:Sl) (t:Nat):AV:=W5 (lkp sl t)
structure St where
 sl:Sl
 hp:Hp
 nx:Nat
 m:Nat
def Zft:AV→Option D
 | .d x=>if x.one then some x else none
 | _=>none
def UB:List AV→Option (List D)
 | []=>some []
 | v :: r=>bnd (Zft v) fun x=>bnd (UB r) fun ds=>some (x :: ds)
def QH:List AV→Bool
 | []=>true
 | .bbuf _ _ :: _=>false
 | _ :: r=>QH r
def Zig:AV→Bool
 | .clo _ _=>true
 | _=>false
def UT:List AV→Bool
 | []=>false
 | v :: r=>Zig v || UT r
def Y7 (cs:List AV):Option (List D)→AV
 | some ds=>.d (.agg ds)
 | none=>if UT cs then .junk else .agg cs
def AV.solid:AV→Bool
 | .junk=>false
 | .bbuf _ _=>false
 | .tup _=>false
 | _=>true
def Qv:List AV→Bool
 | []=>true
 | v :: r=>v.solid&&Qv r
def Vs (cs:List AV):AV:=Y7 cs (UB cs)
def AV.cells:AV→List AV
 | .agg cs=>cs
 | .d x=>x.cells.map .d
 | .nil=>[.nil] | .nilp=>[.nilp] | .nili=>[.nili] | .ptr a b=>[.ptr a b] | .prow a b c e=>[.prow a b c e] | .pim cs=>[.pim cs]
 | .own a=>[.own a] | .ownv a b c=>[.ownv a b c] | .bnil a b=>[.bnil a b] | .bbuf a b=>[.bbuf a b] | .tup vs=>[.tup vs] | .clo f c=>[.clo f c] | .junk=>[.junk]
def YO:Value→AV
 | .bool b=>.d (.bool b)
 | .int k n=>.d (.int k n)
 | .string s=>.d (.str s.data.toList)
 | .slice none 0 0=>.nil
 | .pointer none=>.nilp
 | .nilIface=>.nili
 | _=>.junk
def evC:Value→AV
 | .agg cs=>Vs (cs.toList.map YO)
 | v=>YO v
def ev (sl:Sl):Operand→AV
 | .tmp t=>gs sl t
 | .const v=>evC v
 | .global _=>.junk
 | .func f=>.clo f []
def Zct:Value→Option D
 | .bool b=>some (.bool b)
 | .int k n=>some (.int k n)
 | .string s=>some (.str s.data.toList)
 | .slice none 0 0=>some (.sl [])
 | _=>none
def Z7 {α β:Type} (f:α→Option β):List α→Option (List β)
 | []=>some []
 | x :: r=>bnd (f x) fun y=>bnd (Z7 f r) fun ys=>some (y :: ys)
def evD:Value→Option D
 | .agg cs=>bnd (Z7 Zct cs.toList) fun ds=>some (.agg ds)
 | v=>Zct v
def Vt:Option Zh→Option (List D)
 | some (.row _ xs _ _)=>some xs
 | some (.tree _ _ xs none)=>some xs
 | _=>none
def ZbC (hp:Hp):AV→Option D
 | .d x=>some x
 | .nil=>some (.sl [])
 | .own id=>bnd (Vt (lkp hp id)) fun xs=>some (.sl xs)
 | .ownv id off n=>bnd (Vt (lkp hp id)) fun xs=>some (.sl ((xs.drop off).take n))
 | _=>none
def toD (hp:Hp):AV→Option D
 | .agg cs=>bnd (Z7 (ZbC hp) cs) fun ds=>if Vb D.one ds then some (.agg ds) else none
 | v=>ZbC hp v
def UF:AV→List Nat
 | .own id=>[id]
 | .ownv id _ _=>[id]
 | _=>[]
def JD:AV→List Nat
 | .agg cs=>cs.flatMap UF
 | v=>UF v
def Zf:AV→List Nat
 | .own id=>[id]
 | .ownv id _ _=>[id]
 | .ptr id _=>[id]
 | .prow id _ _ _=>[id]
 | .bnil id _=>[id]
 | .junk | .bbuf _ _ | .d _ | .nil | .nilp | .nili | .pim _ | .agg _ | .tup _ | .clo _ _=>[]
def Zn:AV→List Nat
 | .agg cs=>cs.flatMap Zf
 | .clo _ cs=>cs.flatMap Zf
 | v=>Zf v
def Zm:AV→List Nat
 | .tup vs=>vs.flatMap Zn
 | v=>Zn v
def Vu:Zh→List Nat
 | .box cs=>cs.flatMap Zn
 | .row _ _ _ _=>[]
 | .tree _ _ _ _=>[]
 | .gone=>[]
def Zfu:Option (Option Nat×Nat×Nat)→Option (Option Nat×Nat×Nat)
 | some q=>some (none,q.2)
 | none=>none
def JE (g:Nat→Nat):AV→AV
 | .own id=>.own (g id)
 | .ownv id a b=>.ownv (g id) a b
 | .ptr id o=>.ptr (g id) o
 | .prow id s i o=>.prow (g id) s i o
 | .bnil id e=>.bnil (g id) e
 | v=>v
def UU (g:Nat→Nat):AV→AV
 | .agg cs=>.agg (cs.map (JE g))
 | .clo f cs=>.clo f (cs.map (JE g))
 | v=>JE g v
def ren (g:Nat→Nat):AV→AV
 | .tup vs=>.tup (vs.map (UU g))
 | v=>UU g v
def Zcu (g:Nat→Nat):Zh→Zh
 | .box cs=>.box (cs.map (UU g))
 | .row s x e f=>.row s x e f
 | .tree s n x l=>.tree s n x (Zfu l)
 | .gone=>.gone
def ZP (bad:List Nat):AV→AV
 | .own id=>if bad.contains id then .junk else .own id
 | .ownv id a b=>if bad.contains id then .junk else .ownv id a b
 | .ptr id o=>if bad.contains id then .junk else .ptr id o
 | .prow id s i o=>if bad.contains id then .junk else .prow id s i o
 | .bnil id e=>if bad.contains id then .junk else .bnil id e
 | v=>v
def ZD (bad:List Nat):AV→AV
 | .agg cs=>.agg (cs.map (ZP bad))
 | .clo f cs=>.clo f (cs.map (ZP bad))
 | v=>ZP bad v
def kill (bad:List Nat):AV→AV
 | .tup vs=>.tup (vs.map (ZD bad))
 | v=>ZD bad v
def Yl (bad:List Nat):Option (Option Nat×Nat×Nat)→Option (Option Nat×Nat×Nat)
 | some (some nm,q)=>if bad.contains nm then some (none,q) else some (some nm,q)
 | l=>l
def QD (bad:List Nat):Zh→Zh
 | .box cs=>.box (cs.map (ZD bad))
 | .row s x e f=>.row s x e f
 | .tree s n x l=>.tree s n x (Yl bad l)
 | .gone=>.gone
def Zdy {α β:Type} (f:α→β):List (Nat×α)→List (Nat×β)
 | []=>[]
 | (k,v) :: r=>(k,f v) :: Zdy f r
def XD:Zh→Zh
 | .row s x e _=>.row s x e true
 | .tree s n x l=>.tree s n x l
 | o=>o
def freeze (ids:List Nat):Hp→Hp
 | []=>[]
 | (k,o) :: r=>(k,if ids.contains k then XD o else o) :: freeze ids r
def Zcv:Option Zh→Option (List D×Bool)
 | some (.row _ xs ex _)=>some (xs,ex)
 | _=>none
def WP (hp:Hp):AV→Option (D×Bool×List Nat)
 | .d x=>some (x,x.flat,[])
 | .nil=>some (.sl [],true,[])
 | .own id=>bnd (Zcv (lkp hp id)) fun q=>some (.sl q.1,q.2,[id])
 | _=>none
def X7 (hp:Hp):List AV→Option (List D×Bool×List Nat)
 | []=>some ([],true,[])
 | v :: r=>bnd (WP hp v) fun q=>bnd (X7 hp r) fun p=>
   if q.1.one&&!q.2.2.any p.2.2.contains then some (q.1 :: p.1,q.2.1&&p.2.1,q.2.2++p.2.2) else none
def give (hp:Hp):AV→Option (D×Bool×List Nat)
 | .agg cs=>bnd (X7 hp cs) fun p=>some (.agg p.1,p.2.1,p.2.2)
 | v=>WP hp v
def YG (hp:Hp):List AV→Option (List D×Bool×List Nat)
 | []=>some ([],true,[])
 | v :: r=>bnd (give hp v) fun q=>bnd (YG hp r) fun p=>
   if !q.2.2.any p.2.2.contains then some (q.1 :: p.1,q.2.1&&p.2.1,q.2.2++p.2.2) else none
def Zk {α:Type} (cs:List α) (off:Nat) (vs:List α):List α:=cs.take off++vs++cs.drop (off+vs.length)
def X8 (x:D) (off:Nat) (ds:List D):D:=match x with
 | .agg cs=>.agg (Zk cs off ds)
 | _=>ds.headD x
def YT (op:BinOp) (k:IntKind) (a b:Int):Option D:=
 match op with
 | .add=>some (.int k (k.wrap (a+b)))
 | .sub=>some (.int k (k.wrap (a-b)))
 | .mul=>some (.int k (k.wrap (a*b)))
 | .quo=>if b=0 then none else some (.int k (k.wrap (a.tdiv b)))
 | .rem=>if b=0 then none else some (.int k (a.tmod b))
 | .and=>some (.int k (k.wrap (BitVec.ofInt k.bits a &&& BitVec.ofInt k.bits b).toNat))
 | .or=>some (.int k (k.wrap (BitVec.ofInt k.bits a ||| BitVec.ofInt k.bits b).toNat))
 | .xor=>some (.int k (k.wrap (BitVec.ofInt k.bits a ^^^ BitVec.ofInt k.bits b).toNat))
 | .andNot=>some (.int k (k.wrap (BitVec.ofInt k.bits a &&& ~~~(BitVec.ofInt k.bits b)).toNat))
 | .eql=>some (.bool (a==b))
 | .neq=>some (.bool (a != b))
 | .lss=>some (.bool (decide (a<b)))
 | .leq=>some (.bool (decide (a≤b)))
 | .gtr=>some (.bool (decide (a>b)))
 | .geq=>some (.bool (decide (a≥b)))
 | .shl | .shr=>none
def Zdz (op:BinOp) (k:IntKind) (a b:Int):Option D:=
 if b<0 then none else
 match op with
 | .shl=>some (.int k (k.wrap (a*2 ^ (min b.toNat k.bits))))
 | .shr=>some (.int k (a.fdiv (2 ^ (min b.toNat k.bits))))
 | _=>none
def Zlx:Nat:=1152921504606846976
def Zki (op:BinOp) (a b:List UInt8):Option D:=
 match op with
 | .add=>if a.length+b.length≤Zlx then some (.str (a++b)) else none
 | .eql=>some (.bool (a==b))
 | .neq=>some (.bool (!(a==b)))
 | _=>none
def D.beq1:D→D→Option Bool
 | .int _ a,.int _ b=>some (a==b)
 | .bool a,.bool b=>some (a==b)
 | .str a,.str b=>some (a==b)
 | _,_=>none
def beqL:List D→List D→Option Bool
 | [],[]=>some true
 | x :: xs,y :: ys=>bnd (D.beq1 x y) fun a=>bnd (beqL xs ys) fun b=>some (a&&b)
 | _,_=>none
def agg2 (op:BinOp) (r:Option Bool):Option AV:=match op with
 | .eql=>bnd r fun r=>some (.d (.bool r))
 | .neq=>bnd r fun r=>some (.d (.bool (!r)))
 | _=>none
def asD (r:Option D):Option AV:=bnd r fun x=>some (.d x)
def Vv (op:BinOp) (k k' : IntKind) (a b:Int):Option AV:=match op with
 | .shl | .shr=>asD (Zdz op k a b)
 | _=>if k=k' then asD (YT op k a b) else none
def Zih (op:BinOp) (a b:Bool):Option AV:=match op with
 | .eql=>some (.d (.bool (a==b)))
 | .neq=>some (.d (.bool (!(a==b))))
 | _=>none
def vbin (op:BinOp):AV→AV→Option AV
 | .d (.int k a),.d (.int k' b)=>Vv op k k' a b
 | .d (.str a),.d (.str b)=>asD (Zki op a b)
 | _,_=>none
def neg1 (op:UnOp) (k:IntKind) (a:Int):Option AV:=match op with
 | .neg=>some (.d (.int k (k.wrap (0-a))))
 | _=>none
def not1 (op:UnOp) (a:Bool):Option AV:=match op with
 | .not=>some (.d (.bool (!a)))
 | _=>none
def vun (op:UnOp):AV→Option AV
 | .d (.int k a)=>neg1 op k a
 | .d (.bool a)=>not1 op a
 | _=>none
def Zfv:Option Zh→Option (List D)
 | some (.row _ xs _ _)=>some xs
 | some (.tree _ _ xs _)=>some xs
 | _=>none
def UV (hp:Hp):AV→Option Nat
 | .d (.sl xs)=>some xs.length
 | .nil=>some 0
 | .own id=>bnd (Zfv (lkp hp id)) fun xs=>some xs.length
 | .ownv _ _ n=>some n
 | _=>none
def Znp:AV→Option Nat
 | .d (.str s)=>some s.length
 | _=>none
def minI (a b:Int):Int:=if b<a then b else a
def maxI (a b:Int):Int:=if b>a then b else a
end Go.Abs
