/- Own text. -/
import Derived.Orders
import Derived.Laws.AppendOwn
set_option linter.unusedVariables false
set_option linter.unusedSimpArgs false
namespace Go.Abs
open Go
abbrev Ka:=@Bool.false_eq_true
abbrev Kb:=@Bool.and_eq_true
abbrev Kc:=@List.getElem?_eq_some_iff
abbrev Kd:=@List.mem_append
abbrev Ke:=@List.mem_cons
abbrev Kf:=@if_neg
abbrev Kg:=@Nat.le_refl
abbrev Kh:=@List.eq_nil_of_length_eq_zero
abbrev Ki:=@List.getElem?_eq_getElem
abbrev Kj:=@decide_eq_true_eq
abbrev Kk:=@if_true
abbrev Kl:=@List.map_cons
abbrev Km:=@if_false
abbrev Kn:=@List.length_cons
abbrev Ko:=@if_pos
abbrev Kp:=@List.mem_flatMap
abbrev Kq:=@List.mem_cons_of_mem
abbrev Kr:=@List.mem_of_getElem?
abbrev Ks:=@Nat.ne_of_gt
abbrev Kt:=@List.length_append
abbrev Ku:=@List.cons_append
abbrev Kv:=@List.map_nil
abbrev Kw:=@List.flatMap_cons
abbrev Kx:=@List.all_eq_true
abbrev Ky:=@List.mem_singleton
abbrev Kz:=@Nat.mul_le_mul_right
abbrev KA:=@List.getElem?_append_right
abbrev KB:=@Array.getElem?_eq_some_iff
abbrev KC:=@Int.toNat_of_nonneg
abbrev KD:=@Option.bind_eq_some_iff
abbrev KE:=@Option.bind_some
abbrev KF:=@Nat.add_mul
abbrev KG:=@Option.isSome_none
abbrev KH:=@List.not_mem_nil
abbrev KI:=@List.map_congr_left
abbrev KJ:=@List.contains_eq_mem
abbrev KK:=@List.getElem?_append_left
abbrev KL:=@List.getElem?_drop
abbrev KM:=@List.count_pos_iff
abbrev KN:=@Option.map_some
abbrev KO:=@Nat.lt_or_ge
abbrev KP:=@Bool.not_eq_true'
abbrev KQ:=@List.getElem?_eq_none
abbrev KR:=@List.take_length
abbrev KS:=@decide_eq_false_iff_not
abbrev KT:=@List.append_assoc
abbrev KU:=@List.flatten_cons
abbrev KV:=@List.mem_cons_self
abbrev KW:=@Option.isSome_iff_exists
abbrev KX:=@List.take_append_drop
abbrev KY:=@Nat.add_assoc
abbrev KZ:=@List.getElem?_set_ne
abbrev K0:=@List.getElem?_take
abbrev K1:=@Array.length_toList
abbrev K2:=@List.take_succ_eq_append_getElem
abbrev K3:=@List.getElem?_map
abbrev K4:=@List.ext_getElem?
abbrev K5:=@List.length_map
abbrev K6:=@List.nodup_cons
abbrev K7:=@List.length_drop
abbrev K8:=@List.mem_map
abbrev K9:=@List.drop_eq_getElem_cons
abbrev La:=@List.nodup_nil
abbrev Lb:=@List.mem_range
abbrev Lc:=@Nat.eq_zero_or_pos
abbrev Ld:=@Nat.add_sub_cancel_left
abbrev Le:=@List.all_cons
abbrev Lf:=@List.getElem?_set_self
abbrev Lg:=@List.append_nil
abbrev Lh:=@List.nil_append
abbrev Li:=@List.map_append
abbrev Lj:=@List.map_id
abbrev Lk:=@Bool.or_eq_true
abbrev Ll:=@List.takeWhile_append_dropWhile
abbrev Lm:=@List.length_take
abbrev Ln:=@Int.toNat_natCast
abbrev Lo:=@List.length_nil
abbrev Lp:=@List.take_of_length_le
abbrev Lq:=@Option.bind_none
abbrev Lr:=@Nat.lt_or_gt_of_ne
abbrev Ls:=@List.filterMap_append
abbrev Lt:=@Array.getElem?_modify
abbrev Lu:=@Array.getElem?_toList
abbrev Lv:=@List.take_add_one
abbrev Lw:=@Nat.zero_add
abbrev Lx:=@Nat.add_zero
abbrev Ly:=@List.getElem?_of_mem
abbrev Lz:=@List.pairwise_append
abbrev LA:=@List.nodup_iff_count
abbrev LB:=@List.replicate_succ
abbrev LC:=@List.flatten_append
abbrev LD:=@List.any_eq_true
abbrev LF:=@Nat.le_trans
abbrev LG:=@List.pairwise_cons
abbrev LH:=@Nat.lt_of_lt_of_le
abbrev LI:=@Bool.and_true
abbrev LJ:=@List.mem_iff_getElem?
abbrev LK:=@List.nodup_append
abbrev LL:=@List.size_toArray
abbrev LM:=@List.drop_drop
abbrev LN:=@Array.toList_setIfInBounds
abbrev LP:=@List.getElem?_append
abbrev LQ:=@List.nodup_range
abbrev LR:=@Nat.le_max_right
abbrev LS:=@List.take_succ_cons
abbrev LU:=@List.filterMap_cons
abbrev LV:=@Nat.le_max_left
abbrev LX:=@Nat.zero_le
abbrev LY:=@Bool.not_false
inductive D where
 | int (k:IntKind) (n:Int)
 | bool (b:Bool)
 | str (s:List UInt8)
 | sl (xs:List D)
 | agg (cs:List D)
def D.cells:D→List D
 | .agg cs=>cs
 | .int k n=>[.int k n]
 | .bool b=>[.bool b]
 | .str s=>[.str s]
 | .sl xs=>[.sl xs]
def D.plain:D→Bool
 | .int _ _=>true
 | .bool _=>true
 | .str _=>true
 | .sl _=>false
 | .agg _=>false
def D.one:D→Bool
 | .int _ _=>true
 | .bool _=>true
 | .str _=>true
 | .sl _=>true
 | .agg _=>false
def Ur (p:D→Bool):List D→Bool
 | []=>true
 | x :: xs=>p x&&Ur p xs
def D.flat (d:D):Bool:=Ur D.plain d.cells
inductive AV where
 | d (x:D)
 | nil
 | nilp
 | nili
 | ptr (id off:Nat)
 | prow (id sz i off:Nat)
 | pim (cs:List D)
 | own (id:Nat)
 | ownv (id off len:Nat)
 | bnil (id e:Nat)
 | bbuf (te:Nat) (l:List UInt8)
 | agg (cs:List AV)
 | tup (vs:List AV)
 | clo (f:Nat) (caps:List AV)
 | junk
inductive Zf where
 | box (cs:List AV)
 | row (sz:Nat) (xs:List D) (ex fz:Bool)
 | tree (sz ns:Nat) (xs:List D) (lk:Option (Option Nat×Nat×Nat))
 | gone
abbrev Hp:=List (Nat×Zf)
abbrev Sl:=List (Nat×AV)
def bnd {α β:Type} (x:Option α) (f:α→Option β):Option β:=match x with
 | some a=>f a
 | none=>none
@[congr] theorem bnd_congr {α β:Type} {x y:Option α} {f:α→Option β} (h:x=y):bnd x f=bnd y f:=by rw[h]
theorem Zc {α β:Type} (a:α) (f:α→Option β):bnd (some a) f=f a:=rfl
theorem Zra {α β:Type} (f:α→Option β):bnd none f=none:=rfl
theorem Zsr {α β:Type} (c:Prop) [Decidable c] (a b:Option α) (f:α→Option β):bnd (if c then a else b) f=if c then bnd a f else bnd b f:=by split<;>rfl
theorem Za {α β:Type} {x:Option α} {f:α→Option β} {r:β} (h:bnd x f=some r):∃ a,x=some a∧f a=some r:=by
 cases x with
 | none=>cases h
 | some a=>exact⟨a,rfl,h⟩
def lkp {α:Type}:List (Nat×α)→Nat→Option α
 | [],_=>none
 | (k,v) :: r,t=>if k=t then some v else lkp r t
def ins {α:Type}:List (Nat×α)→Nat→α→List (Nat×α)
 | [],t,v=>[(t,v)]
 | (k,v) :: r,t,x=>if k<t then (t,x) :: (k,v) :: r else if k=t then (t,x) :: r else (k,v) :: ins r t x
def JF:Option AV→AV
 | some v=>v
 | none=>.junk
def gs (sl:Sl) (t:Nat):AV:=JF (lkp sl t)
structure St where
 sl:Sl
 hp:Hp
 nx:Nat
 m:Nat
def Zht:AV→Option D
 | .d x=>if x.one then some x else none
 | _=>none
def Zay:List AV→Option (List D)
 | []=>some []
 | v :: r=>bnd (Zht v) fun x=>bnd (Zay r) fun ds=>some (x :: ds)
def Xa:List AV→Bool
 | []=>true
 | .bbuf _ _ :: _=>false
 | _ :: r=>Xa r
def ZjE:AV→Bool
 | .clo _ _=>true
 | _=>false
def JG:List AV→Bool
 | []=>false
 | v :: r=>ZjE v || JG r
def VA (cs:List AV):Option (List D)→AV
 | some ds=>.d (.agg ds)
 | none=>if JG cs then .junk else .agg cs
def AV.solid:AV→Bool
 | .junk=>false
 | .bbuf _ _=>false
 | .tup _=>false
 | _=>true
def Q7:List AV→Bool
 | []=>true
 | v :: r=>v.solid&&Q7 r
def Wa (cs:List AV):AV:=VA cs (Zay cs)
def AV.cells:AV→List AV
 | .agg cs=>cs
 | .d x=>x.cells.map .d
 | .nil=>[.nil] | .nilp=>[.nilp] | .nili=>[.nili] | .ptr a b=>[.ptr a b] | .prow a b c e=>[.prow a b c e] | .pim cs=>[.pim cs]
 | .own a=>[.own a] | .ownv a b c=>[.ownv a b c] | .bnil a b=>[.bnil a b] | .bbuf a b=>[.bbuf a b] | .tup vs=>[.tup vs] | .clo f c=>[.clo f c] | .junk=>[.junk]
def Vg:Value→AV
 | .bool b=>.d (.bool b)
 | .int k n=>.d (.int k n)
 | .string s=>.d (.str s.data.toList)
 | .slice none 0 0=>.nil
 | .pointer none=>.nilp
 | .nilIface=>.nili
 | _=>.junk
def evC:Value→AV
 | .agg cs=>Wa (cs.toList.map Vg)
 | v=>Vg v
def ev (sl:Sl):Operand→AV
 | .tmp t=>gs sl t
 | .const v=>evC v
 | .global _=>.junk
 | .func f=>.clo f []
def ZdV:Value→Option D
 | .bool b=>some (.bool b)
 | .int k n=>some (.int k n)
 | .string s=>some (.str s.data.toList)
 | .slice none 0 0=>some (.sl [])
 | _=>none
def Qe {α β:Type} (f:α→Option β):List α→Option (List β)
 | []=>some []
 | x :: r=>bnd (f x) fun y=>bnd (Qe f r) fun ys=>some (y :: ys)
def evD:Value→Option D
 | .agg cs=>bnd (Qe ZdV cs.toList) fun ds=>some (.agg ds)
 | v=>ZdV v
def Y8:Option Zf→Option (List D)
 | some (.row _ xs _ _)=>some xs
 | some (.tree _ _ xs none)=>some xs
 | _=>none
def ZcJ (hp:Hp):AV→Option D
 | .d x=>some x
 | .nil=>some (.sl [])
 | .own id=>bnd (Y8 (lkp hp id)) fun xs=>some (.sl xs)
 | .ownv id off n=>bnd (Y8 (lkp hp id)) fun xs=>some (.sl ((xs.drop off).take n))
 | _=>none
def toD (hp:Hp):AV→Option D
 | .agg cs=>bnd (Qe (ZcJ hp) cs) fun ds=>if Ur D.one ds then some (.agg ds) else none
 | v=>ZcJ hp v
def Jo:AV→List Nat
 | .own id=>[id]
 | .ownv id _ _=>[id]
 | _=>[]
def Zaz:AV→List Nat
 | .agg cs=>cs.flatMap Jo
 | v=>Jo v
def Zg:AV→List Nat
 | .own id=>[id]
 | .ownv id _ _=>[id]
 | .ptr id _=>[id]
 | .prow id _ _ _=>[id]
 | .bnil id _=>[id]
 | .junk | .bbuf _ _ | .d _ | .nil | .nilp | .nili | .pim _ | .agg _ | .tup _ | .clo _ _=>[]
def Zo:AV→List Nat
 | .agg cs=>cs.flatMap Zg
 | .clo _ cs=>cs.flatMap Zg
 | v=>Zg v
def Zl:AV→List Nat
 | .tup vs=>vs.flatMap Zo
 | v=>Zo v
def Wb:Zf→List Nat
 | .box cs=>cs.flatMap Zo
 | .row _ _ _ _=>[]
 | .tree _ _ _ _=>[]
 | .gone=>[]
def Zhu:Option (Option Nat×Nat×Nat)→Option (Option Nat×Nat×Nat)
 | some q=>some (none,q.2)
 | none=>none
def ZaA (g:Nat→Nat):AV→AV
 | .own id=>.own (g id)
 | .ownv id a b=>.ownv (g id) a b
 | .ptr id o=>.ptr (g id) o
 | .prow id s i o=>.prow (g id) s i o
 | .bnil id e=>.bnil (g id) e
 | v=>v
def J4 (g:Nat→Nat):AV→AV
 | .agg cs=>.agg (cs.map (ZaA g))
 | .clo f cs=>.clo f (cs.map (ZaA g))
 | v=>ZaA g v
def ren (g:Nat→Nat):AV→AV
 | .tup vs=>.tup (vs.map (J4 g))
 | v=>J4 g v
def ZdW (g:Nat→Nat):Zf→Zf
 | .box cs=>.box (cs.map (J4 g))
 | .row s x e f=>.row s x e f
 | .tree s n x l=>.tree s n x (Zhu l)
 | .gone=>.gone
def ZT (bad:List Nat):AV→AV
 | .own id=>if bad.contains id then .junk else .own id
 | .ownv id a b=>if bad.contains id then .junk else .ownv id a b
 | .ptr id o=>if bad.contains id then .junk else .ptr id o
 | .prow id s i o=>if bad.contains id then .junk else .prow id s i o
 | .bnil id e=>if bad.contains id then .junk else .bnil id e
 | v=>v
def ZE (bad:List Nat):AV→AV
 | .agg cs=>.agg (cs.map (ZT bad))
 | .clo f cs=>.clo f (cs.map (ZT bad))
 | v=>ZT bad v
def kill (bad:List Nat):AV→AV
 | .tup vs=>.tup (vs.map (ZE bad))
 | v=>ZE bad v
def YS (bad:List Nat):Option (Option Nat×Nat×Nat)→Option (Option Nat×Nat×Nat)
 | some (some nm,q)=>if bad.contains nm then some (none,q) else some (some nm,q)
 | l=>l
def QU (bad:List Nat):Zf→Zf
 | .box cs=>.box (cs.map (ZE bad))
 | .row s x e f=>.row s x e f
 | .tree s n x l=>.tree s n x (YS bad l)
 | .gone=>.gone
def ZeY {α β:Type} (f:α→β):List (Nat×α)→List (Nat×β)
 | []=>[]
 | (k,v) :: r=>(k,f v) :: ZeY f r
def Ye:Zf→Zf
 | .row s x e _=>.row s x e true
 | .tree s n x l=>.tree s n x l
 | o=>o
def freeze (ids:List Nat):Hp→Hp
 | []=>[]
 | (k,o) :: r=>(k,if ids.contains k then Ye o else o) :: freeze ids r
def ZdX:Option Zf→Option (List D×Bool)
 | some (.row _ xs ex _)=>some (xs,ex)
 | _=>none
def Uh (hp:Hp):AV→Option (D×Bool×List Nat)
 | .d x=>some (x,x.flat,[])
 | .nil=>some (.sl [],true,[])
 | .own id=>bnd (ZdX (lkp hp id)) fun q=>some (.sl q.1,q.2,[id])
 | _=>none
def YA (hp:Hp):List AV→Option (List D×Bool×List Nat)
 | []=>some ([],true,[])
 | v :: r=>bnd (Uh hp v) fun q=>bnd (YA hp r) fun p=>
   if q.1.one&&!q.2.2.any p.2.2.contains then some (q.1 :: p.1,q.2.1&&p.2.1,q.2.2++p.2.2) else none
def give (hp:Hp):AV→Option (D×Bool×List Nat)
 | .agg cs=>bnd (YA hp cs) fun p=>some (.agg p.1,p.2.1,p.2.2)
 | v=>Uh hp v
def Y9 (hp:Hp):List AV→Option (List D×Bool×List Nat)
 | []=>some ([],true,[])
 | v :: r=>bnd (give hp v) fun q=>bnd (Y9 hp r) fun p=>
   if !q.2.2.any p.2.2.contains then some (q.1 :: p.1,q.2.1&&p.2.1,q.2.2++p.2.2) else none
def Zk {α:Type} (cs:List α) (off:Nat) (vs:List α):List α:=cs.take off++vs++cs.drop (off+vs.length)
def Yf (x:D) (off:Nat) (ds:List D):D:=match x with
 | .agg cs=>.agg (Zk cs off ds)
 | _=>ds.headD x
def VK (op:BinOp) (k:IntKind) (a b:Int):Option D:=
 match op with
 | .add=>some (.int k (k.wrap (a+b)))
 | .sub=>some (.int k (k.wrap (a-b)))
 | .mul=>some (.int k (k.wrap (a*b)))
 | .quo=>if b=0 then none else some (.int k (k.wrap (a.tdiv b)))
 | .rem=>if b=0 then none else some (.int k (a.tmod b))
 | .and=>some (.int k (k.wrap (BitVec.ofInt k.bits a &&& BitVec.ofInt k.bits b).toNat))
 | .or=>some (.int k (k.wrap (BitVec.ofInt k.bits a ||| BitVec.ofInt k.bits b).toNat))
 | .xor=>some (.int k (k.wrap (BitVec.ofInt k.bits a ^^^ BitVec.ofInt k.bits b).toNat))
 | .andNot=>some (.int k (k.wrap (BitVec.ofInt k.bits a &&& ~~~(BitVec.ofInt k.bits b)).toNat))
 | .eql=>some (.bool (a==b))
 | .neq=>some (.bool (a != b))
 | .lss=>some (.bool (decide (a<b)))
 | .leq=>some (.bool (decide (a≤b)))
 | .gtr=>some (.bool (decide (a>b)))
 | .geq=>some (.bool (decide (a≥b)))
 | .shl | .shr=>none
def ZeZ (op:BinOp) (k:IntKind) (a b:Int):Option D:=
 if b<0 then none else
 match op with
 | .shl=>some (.int k (k.wrap (a*2 ^ (min b.toNat k.bits))))
 | .shr=>some (.int k (a.fdiv (2 ^ (min b.toNat k.bits))))
 | _=>none
def Znt:Nat:=1152921504606846976
def Zl9 (op:BinOp) (a b:List UInt8):Option D:=
 match op with
 | .add=>if a.length+b.length≤Znt then some (.str (a++b)) else none
 | .eql=>some (.bool (a==b))
 | .neq=>some (.bool (!(a==b)))
 | _=>none
def D.beq1:D→D→Option Bool
 | .int _ a,.int _ b=>some (a==b)
 | .bool a,.bool b=>some (a==b)
 | .str a,.str b=>some (a==b)
 | _,_=>none
def beqL:List D→List D→Option Bool
 | [],[]=>some true
 | x :: xs,y :: ys=>bnd (D.beq1 x y) fun a=>bnd (beqL xs ys) fun b=>some (a&&b)
 | _,_=>none
def agg2 (op:BinOp) (r:Option Bool):Option AV:=match op with
 | .eql=>bnd r fun r=>some (.d (.bool r))
 | .neq=>bnd r fun r=>some (.d (.bool (!r)))
 | _=>none
def asD (r:Option D):Option AV:=bnd r fun x=>some (.d x)
def Wz (op:BinOp) (k k' : IntKind) (a b:Int):Option AV:=match op with
 | .shl | .shr=>asD (ZeZ op k a b)
 | _=>if k=k' then asD (VK op k a b) else none
def ZjF (op:BinOp) (a b:Bool):Option AV:=match op with
 | .eql=>some (.d (.bool (a==b)))
 | .neq=>some (.d (.bool (!(a==b))))
 | _=>none
def vbin (op:BinOp):AV→AV→Option AV
 | .d (.int k a),.d (.int k' b)=>Wz op k k' a b
 | .d (.str a),.d (.str b)=>asD (Zl9 op a b)
 | _,_=>none
def neg1 (op:UnOp) (k:IntKind) (a:Int):Option AV:=match op with
 | .neg=>some (.d (.int k (k.wrap (0-a))))
 | _=>none
def not1 (op:UnOp) (a:Bool):Option AV:=match op with
 | .not=>some (.d (.bool (!a)))
 | _=>none
def vun (op:UnOp):AV→Option AV
 | .d (.int k a)=>neg1 op k a
 | .d (.bool a)=>not1 op a
 | _=>none
def JH (hp:Hp):AV→Option Nat
 | .d (.sl xs)=>some xs.length
 | .nil=>some 0
 | .own id=>bnd (Y8 (lkp hp id)) fun xs=>some xs.length
 | .ownv _ _ n=>some n
 | _=>none
def Zpz:AV→Option Nat
 | .d (.str s)=>some s.length
 | _=>none
def minI (a b:Int):Int:=if b<a then b else a
def maxI (a b:Int):Int:=if b>a then b else a
end Go.Abs
