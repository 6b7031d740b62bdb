/- Own text. -/
import Derived.Orders
import Derived.Laws.AppendOwn
set_option linter.unusedVariables false
set_option linter.unusedSimpArgs false
namespace Go.Abs
open Go
abbrev Ka:=@Bool.false_eq_true
abbrev Kb:=@List.getElem?_eq_some_iff
abbrev Kc:=@Bool.and_eq_true
abbrev Kd:=@List.mem_append
abbrev Ke:=@List.mem_cons
abbrev Kf:=@if_neg
abbrev Kg:=@Nat.le_refl
abbrev Kh:=@List.eq_nil_of_length_eq_zero
abbrev Ki:=@List.map_cons
abbrev Kj:=@List.getElem?_eq_getElem
abbrev Kk:=@decide_eq_true_eq
abbrev Kl:=@if_true
abbrev Km:=@List.length_cons
abbrev Kn:=@if_false
abbrev Ko:=@if_pos
abbrev Kp:=@List.mem_of_getElem?
abbrev Kq:=@List.mem_flatMap
abbrev Kr:=@List.mem_cons_of_mem
abbrev Ks:=@List.length_append
abbrev Kt:=@Nat.ne_of_gt
abbrev Ku:=@List.map_nil
abbrev Kv:=@List.cons_append
abbrev Kw:=@List.flatMap_cons
abbrev Kx:=@List.all_eq_true
abbrev Ky:=@Option.isSome_none
abbrev Kz:=@List.mem_singleton
abbrev KA:=@Nat.mul_le_mul_right
abbrev KB:=@List.getElem?_append_right
abbrev KC:=@Array.getElem?_eq_some_iff
abbrev KD:=@Int.toNat_of_nonneg
abbrev KE:=@Option.bind_eq_some_iff
abbrev KF:=@Option.bind_some
abbrev KG:=@Nat.add_mul
abbrev KH:=@List.append_assoc
abbrev KI:=@List.not_mem_nil
abbrev KJ:=@List.map_congr_left
abbrev KK:=@List.contains_eq_mem
abbrev KL:=@List.getElem?_append_left
abbrev KM:=@List.getElem?_drop
abbrev KN:=@List.take_length
abbrev KO:=@List.count_pos_iff
abbrev KP:=@Option.map_some
abbrev KQ:=@Nat.lt_or_ge
abbrev KR:=@Bool.not_eq_true'
abbrev KS:=@List.getElem?_eq_none
abbrev KT:=@List.drop_eq_getElem_cons
abbrev KU:=@List.append_nil
abbrev KV:=@decide_eq_false_iff_not
abbrev KW:=@List.flatten_cons
abbrev KX:=@List.mem_cons_self
abbrev KY:=@Option.isSome_iff_exists
abbrev KZ:=@List.take_append_drop
abbrev K0:=@Nat.add_assoc
abbrev La:=@List.getElem?_set_ne
abbrev Lb:=@List.getElem?_take
abbrev Lc:=@List.map_append
abbrev Ld:=@Array.length_toList
abbrev Le:=@List.mem_map
abbrev Lf:=@List.take_succ_eq_append_getElem
abbrev Lg:=@List.getElem?_map
abbrev Lh:=@List.ext_getElem?
abbrev Li:=@List.length_nil
abbrev Lj:=@List.length_map
abbrev Lk:=@List.nodup_cons
abbrev Ll:=@List.getElem?_set_self
abbrev Lm:=@List.length_drop
abbrev Ln:=@List.nodup_nil
abbrev Lo:=@List.mem_range
abbrev Lp:=@Nat.eq_zero_or_pos
abbrev Lq:=@Nat.add_sub_cancel_left
abbrev Lr:=@List.all_cons
abbrev Ls:=@Nat.zero_add
abbrev Lt:=@List.nil_append
abbrev Lu:=@List.map_id
abbrev Lv:=@Bool.or_eq_true
abbrev Lw:=@List.takeWhile_append_dropWhile
abbrev Lx:=@List.length_take
abbrev Ly:=@Int.toNat_natCast
abbrev Lz:=@List.take_of_length_le
abbrev LA:=@Option.bind_none
abbrev LB:=@Nat.lt_or_gt_of_ne
abbrev LC:=@List.singleton_append
abbrev LD:=@List.filterMap_append
abbrev LF:=@Array.getElem?_modify
abbrev LG:=@Array.getElem?_toList
abbrev LH:=@List.take_add_one
abbrev LI:=@Nat.add_zero
abbrev LJ:=@List.getElem?_of_mem
abbrev LK:=@List.pairwise_append
abbrev LL:=@List.nodup_iff_count
abbrev LM:=@List.replicate_succ
abbrev LN:=@List.flatten_append
abbrev LP:=@List.any_eq_true
abbrev LQ:=@Nat.le_trans
abbrev LR:=@List.pairwise_cons
abbrev LS:=@Nat.lt_of_lt_of_le
abbrev LU:=@Bool.and_true
abbrev LV:=@List.mem_iff_getElem?
abbrev LX:=@List.nodup_append
abbrev LY:=@List.size_toArray
abbrev LZ:=@List.take_zero
abbrev L0:=@List.count_le_length
abbrev L1:=@List.drop_drop
abbrev L2:=@Array.toList_setIfInBounds
abbrev L3:=@List.getElem?_append
abbrev L4:=@List.nodup_range
abbrev L5:=@Nat.le_max_right
abbrev L6:=@List.take_succ_cons
abbrev L7:=@List.filterMap_cons
abbrev L8:=@Nat.le_max_left
abbrev L9:=@Option.isSome_some
abbrev Kaa:=@Nat.zero_le
abbrev Kab:=@Bool.not_false
inductive D where
 | int (k:IntKind) (n:Int)
 | bool (b:Bool)
 | str (s:List UInt8)
 | sl (xs:List D)
 | agg (cs:List D)
def D.cells:D→List D
 | .agg cs=>cs
 | .int k n=>[.int k n]
 | .bool b=>[.bool b]
 | .str s=>[.str s]
 | .sl xs=>[.sl xs]
def D.plain:D→Bool
 | .int _ _=>true
 | .bool _=>true
 | .str _=>true
 | .sl _=>false
 | .agg _=>false
def D.one:D→Bool
 | .int _ _=>true
 | .bool _=>true
 | .str _=>true
 | .sl _=>true
 | .agg _=>false
def Uv (p:D→Bool):List D→Bool
 | []=>true
 | x :: xs=>p x&&Uv p xs
def D.flat (d:D):Bool:=Uv D.plain d.cells
inductive AV where
 | d (x:D)
 | nil
 | nilp
 | nili
 | ptr (id off:Nat)
 | prow (id sz i off:Nat)
 | pim (cs:List D)
 | own (id:Nat)
 | ownv (id off len:Nat)
 | bnil (id e:Nat)
 | bbuf (te:Nat) (l:List UInt8)
 | agg (cs:List AV)
 | tup (vs:List AV)
 | clo (f:Nat) (caps:List AV)
 | junk
inductive Zf where
 | box (cs:List AV)
 | row (sz:Nat) (xs:List D) (ex fz:Bool)
 | tree (sz ns:Nat) (xs:List D) (lk:Option (Option Nat×Nat×Nat))
 | gone
abbrev Hp:=List (Nat×Zf)
abbrev Sl:=List (Nat×AV)
def bnd {α β:Type} (x:Option α) (f:α→Option β):Option β:=match x with
 | some a=>f a
 | none=>none
@[congr] theorem bnd_congr {α β:Type} {x y:Option α} {f:α→Option β} (h:x=y):bnd x f=bnd y f:=by rw[h]
theorem Zc {α β:Type} (a:α) (f:α→Option β):bnd (some a) f=f a:=rfl
theorem Zrt {α β:Type} (f:α→Option β):bnd none f=none:=rfl
theorem ZsF {α β:Type} (c:Prop) [Decidable c] (a b:Option α) (f:α→Option β):bnd (if c then a else b) f=if c then bnd a f else bnd b f:=by split<;>rfl
theorem Za {α β:Type} {x:Option α} {f:α→Option β} {r:β} (h:bnd x f=some r):∃ a,x=some a∧f a=some r:=by
 cases x with
 | none=>cases h
 | some a=>exact⟨a,rfl,h⟩
def lkp {α:Type}:List (Nat×α)→Nat→Option α
 | [],_=>none
 | (k,v) :: r,t=>if k=t then some v else lkp r t
def ins {α:Type}:List (Nat×α)→Nat→α→List (Nat×α)
 | [],t,v=>[(t,v)]
 | (k,v) :: r,t,x=>if k<t then (t,x) :: (k,v) :: r else if k=t then (t,x) :: r else (k,v) :: ins r t x
def JO:Option AV→AV
 | some v=>v
 | none=>.junk
def gs (sl:Sl) (t:Nat):AV:=JO (lkp sl t)
structure St where
 sl:Sl
 hp:Hp
 nx:Nat
 m:Nat
def ZhJ:AV→Option D
 | .d x=>if x.one then some x else none
 | _=>none
def ZaI:List AV→Option (List D)
 | []=>some []
 | v :: r=>bnd (ZhJ v) fun x=>bnd (ZaI r) fun ds=>some (x :: ds)
def Q9:List AV→Bool
 | []=>true
 | .bbuf _ _ :: _=>false
 | _ :: r=>Q9 r
def ZjV:AV→Bool
 | .clo _ _=>true
 | _=>false
def JP:List AV→Bool
 | []=>false
 | v :: r=>ZjV v || JP r
def VF (cs:List AV):Option (List D)→AV
 | some ds=>.d (.agg ds)
 | none=>if JP cs then .junk else .agg cs
def AV.solid:AV→Bool
 | .junk=>false
 | .bbuf _ _=>false
 | .tup _=>false
 | _=>true
def Q6:List AV→Bool
 | []=>true
 | v :: r=>v.solid&&Q6 r
def We (cs:List AV):AV:=VF cs (ZaI cs)
def AV.cells:AV→List AV
 | .agg cs=>cs
 | .d x=>x.cells.map .d
 | .nil=>[.nil] | .nilp=>[.nilp] | .nili=>[.nili] | .ptr a b=>[.ptr a b] | .prow a b c e=>[.prow a b c e] | .pim cs=>[.pim cs]
 | .own a=>[.own a] | .ownv a b c=>[.ownv a b c] | .bnil a b=>[.bnil a b] | .bbuf a b=>[.bbuf a b] | .tup vs=>[.tup vs] | .clo f c=>[.clo f c] | .junk=>[.junk]
def Vk:Value→AV
 | .bool b=>.d (.bool b)
 | .int k n=>.d (.int k n)
 | .string s=>.d (.str s.data.toList)
 | .slice none 0 0=>.nil
 | .pointer none=>.nilp
 | .nilIface=>.nili
 | _=>.junk
def evC:Value→AV
 | .agg cs=>We (cs.toList.map Vk)
 | v=>Vk v
def ev (sl:Sl):Operand→AV
 | .tmp t=>gs sl t
 | .const v=>evC v
 | .global _=>.junk
 | .func f=>.clo f []
def Zd6:Value→Option D
 | .bool b=>some (.bool b)
 | .int k n=>some (.int k n)
 | .string s=>some (.str s.data.toList)
 | .slice none 0 0=>some (.sl [])
 | _=>none
def Qe {α β:Type} (f:α→Option β):List α→Option (List β)
 | []=>some []
 | x :: r=>bnd (f x) fun y=>bnd (Qe f r) fun ys=>some (y :: ys)
def evD:Value→Option D
 | .agg cs=>bnd (Qe Zd6 cs.toList) fun ds=>some (.agg ds)
 | v=>Zd6 v
def Vd:Option Zf→Option (List D)
 | some (.row _ xs _ _)=>some xs
 | some (.tree _ _ xs none)=>some xs
 | _=>none
def ZcR (hp:Hp):AV→Option D
 | .d x=>some x
 | .nil=>some (.sl [])
 | .own id=>bnd (Vd (lkp hp id)) fun xs=>some (.sl xs)
 | .ownv id off n=>bnd (Vd (lkp hp id)) fun xs=>some (.sl ((xs.drop off).take n))
 | _=>none
def toD (hp:Hp):AV→Option D
 | .agg cs=>bnd (Qe (ZcR hp) cs) fun ds=>if Uv D.one ds then some (.agg ds) else none
 | v=>ZcR hp v
def Jx:AV→List Nat
 | .own id=>[id]
 | .ownv id _ _=>[id]
 | _=>[]
def ZaJ:AV→List Nat
 | .agg cs=>cs.flatMap Jx
 | v=>Jx v
def Zg:AV→List Nat
 | .own id=>[id]
 | .ownv id _ _=>[id]
 | .ptr id _=>[id]
 | .prow id _ _ _=>[id]
 | .bnil id _=>[id]
 | .junk | .bbuf _ _ | .d _ | .nil | .nilp | .nili | .pim _ | .agg _ | .tup _ | .clo _ _=>[]
def Zo:AV→List Nat
 | .agg cs=>cs.flatMap Zg
 | .clo _ cs=>cs.flatMap Zg
 | v=>Zg v
def Zl:AV→List Nat
 | .tup vs=>vs.flatMap Zo
 | v=>Zo v
def Wf:Zf→List Nat
 | .box cs=>cs.flatMap Zo
 | .row _ _ _ _=>[]
 | .tree _ _ _ _=>[]
 | .gone=>[]
def ZhK:Option (Option Nat×Nat×Nat)→Option (Option Nat×Nat×Nat)
 | some q=>some (none,q.2)
 | none=>none
def ZaK (g:Nat→Nat):AV→AV
 | .own id=>.own (g id)
 | .ownv id a b=>.ownv (g id) a b
 | .ptr id o=>.ptr (g id) o
 | .prow id s i o=>.prow (g id) s i o
 | .bnil id e=>.bnil (g id) e
 | v=>v
def Zah (g:Nat→Nat):AV→AV
 | .agg cs=>.agg (cs.map (ZaK g))
 | .clo f cs=>.clo f (cs.map (ZaK g))
 | v=>ZaK g v
def ren (g:Nat→Nat):AV→AV
 | .tup vs=>.tup (vs.map (Zah g))
 | v=>Zah g v
def Zd7 (g:Nat→Nat):Zf→Zf
 | .box cs=>.box (cs.map (Zah g))
 | .row s x e f=>.row s x e f
 | .tree s n x l=>.tree s n x (ZhK l)
 | .gone=>.gone
def ZU (bad:List Nat):AV→AV
 | .own id=>if bad.contains id then .junk else .own id
 | .ownv id a b=>if bad.contains id then .junk else .ownv id a b
 | .ptr id o=>if bad.contains id then .junk else .ptr id o
 | .prow id s i o=>if bad.contains id then .junk else .prow id s i o
 | .bnil id e=>if bad.contains id then .junk else .bnil id e
 | v=>v
def ZF (bad:List Nat):AV→AV
 | .agg cs=>.agg (cs.map (ZU bad))
 | .clo f cs=>.clo f (cs.map (ZU bad))
 | v=>ZU bad v
def kill (bad:List Nat):AV→AV
 | .tup vs=>.tup (vs.map (ZF bad))
 | v=>ZF bad v
def YV (bad:List Nat):Option (Option Nat×Nat×Nat)→Option (Option Nat×Nat×Nat)
 | some (some nm,q)=>if bad.contains nm then some (none,q) else some (some nm,q)
 | l=>l
def QU (bad:List Nat):Zf→Zf
 | .box cs=>.box (cs.map (ZF bad))
 | .row s x e f=>.row s x e f
 | .tree s n x l=>.tree s n x (YV bad l)
 | .gone=>.gone
def Zfh {α β:Type} (f:α→β):List (Nat×α)→List (Nat×β)
 | []=>[]
 | (k,v) :: r=>(k,f v) :: Zfh f r
def Yh:Zf→Zf
 | .row s x e _=>.row s x e true
 | .tree s n x l=>.tree s n x l
 | o=>o
def freeze (ids:List Nat):Hp→Hp
 | []=>[]
 | (k,o) :: r=>(k,if ids.contains k then Yh o else o) :: freeze ids r
def Zd8:Option Zf→Option (List D×Bool)
 | some (.row _ xs ex _)=>some (xs,ex)
 | _=>none
def Um (hp:Hp):AV→Option (D×Bool×List Nat)
 | .d x=>some (x,x.flat,[])
 | .nil=>some (.sl [],true,[])
 | .own id=>bnd (Zd8 (lkp hp id)) fun q=>some (.sl q.1,q.2,[id])
 | _=>none
def YE (hp:Hp):List AV→Option (List D×Bool×List Nat)
 | []=>some ([],true,[])
 | v :: r=>bnd (Um hp v) fun q=>bnd (YE hp r) fun p=>
   if q.1.one&&!q.2.2.any p.2.2.contains then some (q.1 :: p.1,q.2.1&&p.2.1,q.2.2++p.2.2) else none
def give (hp:Hp):AV→Option (D×Bool×List Nat)
 | .agg cs=>bnd (YE hp cs) fun p=>some (.agg p.1,p.2.1,p.2.2)
 | v=>Um hp v
def Ve (hp:Hp):List AV→Option (List D×Bool×List Nat)
 | []=>some ([],true,[])
 | v :: r=>bnd (give hp v) fun q=>bnd (Ve hp r) fun p=>
   if !q.2.2.any p.2.2.contains then some (q.1 :: p.1,q.2.1&&p.2.1,q.2.2++p.2.2) else none
def Zk {α:Type} (cs:List α) (off:Nat) (vs:List α):List α:=cs.take off++vs++cs.drop (off+vs.length)
def Yi (x:D) (off:Nat) (ds:List D):D:=match x with
 | .agg cs=>.agg (Zk cs off ds)
 | _=>ds.headD x
def VO (op:BinOp) (k:IntKind) (a b:Int):Option D:=
 match op with
 | .add=>some (.int k (k.wrap (a+b)))
 | .sub=>some (.int k (k.wrap (a-b)))
 | .mul=>some (.int k (k.wrap (a*b)))
 | .quo=>if b=0 then none else some (.int k (k.wrap (a.tdiv b)))
 | .rem=>if b=0 then none else some (.int k (a.tmod b))
 | .and=>some (.int k (k.wrap (BitVec.ofInt k.bits a &&& BitVec.ofInt k.bits b).toNat))
 | .or=>some (.int k (k.wrap (BitVec.ofInt k.bits a ||| BitVec.ofInt k.bits b).toNat))
 | .xor=>some (.int k (k.wrap (BitVec.ofInt k.bits a ^^^ BitVec.ofInt k.bits b).toNat))
 | .andNot=>some (.int k (k.wrap (BitVec.ofInt k.bits a &&& ~~~(BitVec.ofInt k.bits b)).toNat))
 | .eql=>some (.bool (a==b))
 | .neq=>some (.bool (a != b))
 | .lss=>some (.bool (decide (a<b)))
 | .leq=>some (.bool (decide (a≤b)))
 | .gtr=>some (.bool (decide (a>b)))
 | .geq=>some (.bool (decide (a≥b)))
 | .shl | .shr=>none
def Zfi (op:BinOp) (k:IntKind) (a b:Int):Option D:=
 if b<0 then none else
 match op with
 | .shl=>some (.int k (k.wrap (a*2 ^ (min b.toNat k.bits))))
 | .shr=>some (.int k (a.fdiv (2 ^ (min b.toNat k.bits))))
 | _=>none
def ZnO:Nat:=1152921504606846976
def Zms (op:BinOp) (a b:List UInt8):Option D:=
 match op with
 | .add=>if a.length+b.length≤ZnO then some (.str (a++b)) else none
 | .eql=>some (.bool (a==b))
 | .neq=>some (.bool (!(a==b)))
 | _=>none
def D.beq1:D→D→Option Bool
 | .int _ a,.int _ b=>some (a==b)
 | .bool a,.bool b=>some (a==b)
 | .str a,.str b=>some (a==b)
 | _,_=>none
def beqL:List D→List D→Option Bool
 | [],[]=>some true
 | x :: xs,y :: ys=>bnd (D.beq1 x y) fun a=>bnd (beqL xs ys) fun b=>some (a&&b)
 | _,_=>none
def agg2 (op:BinOp) (r:Option Bool):Option AV:=match op with
 | .eql=>bnd r fun r=>some (.d (.bool r))
 | .neq=>bnd r fun r=>some (.d (.bool (!r)))
 | _=>none
def asD (r:Option D):Option AV:=bnd r fun x=>some (.d x)
def WD (op:BinOp) (k k' : IntKind) (a b:Int):Option AV:=match op with
 | .shl | .shr=>asD (Zfi op k a b)
 | _=>if k=k' then asD (VO op k a b) else none
def ZjW (op:BinOp) (a b:Bool):Option AV:=match op with
 | .eql=>some (.d (.bool (a==b)))
 | .neq=>some (.d (.bool (!(a==b))))
 | _=>none
def vbin (op:BinOp):AV→AV→Option AV
 | .d (.int k a),.d (.int k' b)=>WD op k k' a b
 | .d (.str a),.d (.str b)=>asD (Zms op a b)
 | _,_=>none
def neg1 (op:UnOp) (k:IntKind) (a:Int):Option AV:=match op with
 | .neg=>some (.d (.int k (k.wrap (0-a))))
 | _=>none
def not1 (op:UnOp) (a:Bool):Option AV:=match op with
 | .not=>some (.d (.bool (!a)))
 | _=>none
def vun (op:UnOp):AV→Option AV
 | .d (.int k a)=>neg1 op k a
 | .d (.bool a)=>not1 op a
 | _=>none
def JQ (hp:Hp):AV→Option Nat
 | .d (.sl xs)=>some xs.length
 | .nil=>some 0
 | .own id=>bnd (Vd (lkp hp id)) fun xs=>some xs.length
 | .ownv _ _ n=>some n
 | _=>none
def ZpV:AV→Option Nat
 | .d (.str s)=>some s.length
 | _=>none
def minI (a b:Int):Int:=if b<a then b else a
def maxI (a b:Int):Int:=if b>a then b else a
end Go.Abs
