/- Own text. -/
import Derived.Orders
import Derived.Laws.AppendOwn
set_option linter.unusedVariables false
set_option linter.unusedSimpArgs false
namespace Go.Abs
open Go
abbrev Ka:=@Bool.false_eq_true
abbrev Kb:=@Bool.and_eq_true
abbrev Kc:=@List.getElem?_eq_some_iff
abbrev Kd:=@List.mem_append
abbrev Ke:=@List.mem_cons
abbrev Kf:=@Nat.le_refl
abbrev Kg:=@List.eq_nil_of_length_eq_zero
abbrev Kh:=@if_false
abbrev Ki:=@if_true
abbrev Kj:=@List.mem_flatMap
abbrev Kk:=@List.mem_of_getElem?
abbrev Kl:=@List.getElem?_eq_getElem
abbrev Km:=@List.mem_cons_of_mem
abbrev Kn:=@Nat.ne_of_gt
abbrev Ko:=@if_neg
abbrev Kp:=@List.getElem?_append_right
abbrev Kq:=@List.flatMap_cons
abbrev Kr:=@List.all_eq_true
abbrev Ks:=@List.map_cons
abbrev Kt:=@decide_eq_true_eq
abbrev Ku:=@Nat.mul_le_mul_right
abbrev Kv:=@Array.getElem?_eq_some_iff
abbrev Kw:=@if_pos
abbrev Kx:=@Nat.add_mul
abbrev Ky:=@List.cons_append
abbrev Kz:=@List.map_congr_left
abbrev KA:=@List.contains_eq_mem
abbrev KB:=@List.getElem?_append_left
abbrev KC:=@decide_eq_true
abbrev KD:=@List.length_cons
abbrev KE:=@decide_eq_false
abbrev KF:=@Bool.not_eq_true'
abbrev KG:=@List.getElem?_eq_none
abbrev KH:=@List.count_pos_iff
abbrev KI:=@List.drop_eq_getElem_cons
abbrev KJ:=@Nat.lt_or_ge
abbrev KK:=@List.length_append
abbrev KL:=@List.getElem?_drop
abbrev KM:=@decide_eq_false_iff_not
abbrev KN:=@Option.map_some
abbrev KO:=@List.getElem?_set_self
abbrev KP:=@List.flatten_cons
abbrev KQ:=@List.mem_singleton
abbrev KR:=@Option.isSome_iff_exists
abbrev KS:=@Nat.add_assoc
abbrev KT:=@List.getElem?_set_ne
abbrev KU:=@List.mem_cons_self
abbrev KV:=@List.take_append_drop
abbrev KW:=@List.ext_getElem?
abbrev KX:=@List.getElem?_take
abbrev KY:=@List.nodup_cons
abbrev KZ:=@List.mem_map
abbrev K0:=@Array.length_toList
abbrev K1:=@List.take_add_one
abbrev K2:=@List.append_assoc
abbrev K3:=@List.nodup_nil
abbrev K4:=@List.mem_range
abbrev K5:=@Nat.eq_zero_or_pos
abbrev K6:=@List.mem_of_mem_take
abbrev K7:=@Nat.add_sub_cancel_left
abbrev K8:=@List.all_cons
abbrev K9:=@List.map_id
abbrev La:=@Bool.or_eq_true
abbrev Lb:=@List.length_take
abbrev Lc:=@List.getElem?_map
abbrev Ld:=@List.replicate_succ
abbrev Le:=@List.take_of_length_le
abbrev Lf:=@Nat.lt_or_gt_of_ne
abbrev Lg:=@List.filterMap_append
abbrev Lh:=@List.getElem?_of_mem
abbrev Li:=@List.pairwise_append
abbrev Lj:=@List.nodup_iff_count
abbrev Lk:=@List.flatten_append
abbrev Ll:=@List.getElem?_cons_succ
abbrev Lm:=@Int.natCast_zero
abbrev Ln:=@List.any_eq_true
abbrev Lo:=@List.length_drop
abbrev Lp:=@List.pairwise_cons
abbrev Lq:=@Nat.add_zero
abbrev Lr:=@List.length_map
abbrev Ls:=@List.nil_append
abbrev Lt:=@Array.getElem?_modify
abbrev Lu:=@Array.getElem?_toList
abbrev Lv:=@List.nodup_append
abbrev Lw:=@List.size_toArray
abbrev Lx:=@Int.mul_nonneg
abbrev Ly:=@Int.mul_le_mul
abbrev Lz:=@List.mem_of_mem_drop
abbrev LA:=@Array.toList_setIfInBounds
abbrev LB:=@List.getElem?_append
abbrev LC:=@List.not_mem_nil
abbrev LD:=@List.nodup_range
abbrev LF:=@Nat.le_trans
abbrev LG:=@Nat.le_max_right
abbrev LH:=@List.filterMap_cons
abbrev LI:=@Bool.and_true
abbrev LJ:=@Nat.le_max_left
abbrev LK:=@Nat.zero_add
abbrev LL:=@Nat.sub_self
abbrev LM:=@Int.add_zero
abbrev LN:=@List.map_nil
abbrev LP:=@List.drop_drop
inductive D where
 | int (k:IntKind) (n:Int)
 | bool (b:Bool)
 | str (s:List UInt8)
 | sl (xs:List D)
 | agg (cs:List D)
def D.cells:D→List D
 | .agg cs=>cs
 | .int k n=>[.int k n]
 | .bool b=>[.bool b]
 | .str s=>[.str s]
 | .sl xs=>[.sl xs]
def D.plain:D→Bool
 | .int _ _=>true
 | .bool _=>true
 | .str _=>true
 | .sl _=>false
 | .agg _=>false
def D.one:D→Bool
 | .int _ _=>true
 | .bool _=>true
 | .str _=>true
 | .sl _=>true
 | .agg _=>false
def Wg (p:D→Bool):List D→Bool
 | []=>true
 | x :: xs=>p x&&Wg p xs
def D.flat (d:D):Bool:=Wg D.plain d.cells
inductive AV where
 | d (x:D)
 | nil
 | nilp
 | nili
 | ptr (id off:Nat)
 | prow (id sz i off:Nat)
 | pim (cs:List D)
 | own (id:Nat)
 | ownv (id off len:Nat)
 | bnil (id e:Nat)
 | bbuf (te:Nat) (l:List UInt8)
 | agg (cs:List AV)
 | tup (vs:List AV)
 | clo (f:Nat) (caps:List AV)
 | junk
inductive Zh where
 | box (cs:List AV)
 | row (sz:Nat) (xs:List D) (ex fz:Bool)
 | tree (sz ns:Nat) (xs:List D) (lk:Option (Option Nat×Nat×Nat))
 | gone
abbrev Hp:=List (Nat×Zh)
abbrev Sl:=List (Nat×AV)
def bnd {α β:Type} (x:Option α) (f:α→Option β):Option β:=match x with
 | some a=>f a
 | none=>none
@[congr] theorem bnd_congr {α β:Type} {x y:Option α} {f:α→Option β} (h:x=y):bnd x f=bnd y f:=by rw[h]
theorem Zc {α β:Type} (a:α) (f:α→Option β):bnd (some a) f=f a:=rfl
theorem Zph {α β:Type} (f:α→Option β):bnd none f=none:=rfl
theorem ZqB {α β:Type} (c:Prop) [Decidable c] (a b:Option α) (f:α→Option β):bnd (if c then a else b) f=if c then bnd a f else bnd b f:=by split<;>rfl
theorem Za {α β:Type} {x:Option α} {f:α→Option β} {r:β} (h:bnd x f=some r):∃ a,x=some a∧f a=some r:=by
 cases x with
 | none=>cases h
 | some a=>exact⟨a,rfl,h⟩
def lkp {α:Type}:List (Nat×α)→Nat→Option α
 | [],_=>none
 | (k,v) :: r,t=>if k=t then some v else lkp r t
def ins {α:Type}:List (Nat×α)→Nat→α→List (Nat×α)
 | [],t,v=>[(t,v)]
 | (k,v) :: r,t,x=>if k<t then (t,x) :: (k,v) :: r else if k=t then (t,x) :: r else (k,v) :: ins r t x
def UW:Option AV→AV
 | some v=>v
 | none=>.junk
def gs (sl:Sl) (t:Nat):AV:=UW (lkp sl t)
structure St where
 sl:Sl
 hp:Hp
 nx:Nat
 m:Nat
def Zf2:AV→Option D
 | .d x=>if x.one then some x else none
 | _=>none
def JJ:List AV→Option (List D)
 | []=>some []
 | v :: r=>bnd (Zf2 v) fun x=>bnd (JJ r) fun ds=>some (x :: ds)
def QK:List AV→Bool
 | []=>true
 | .bbuf _ _ :: _=>false
 | _ :: r=>QK r
def Zie:AV→Bool
 | .clo _ _=>true
 | _=>false
def UX:List AV→Bool
 | []=>false
 | v :: r=>Zie v || UX r
def YF (cs:List AV):Option (List D)→AV
 | some ds=>.d (.agg ds)
 | none=>if UX cs then .junk else .agg cs
def AV.solid:AV→Bool
 | .junk=>false
 | .bbuf _ _=>false
 | .tup _=>false
 | _=>true
def QI:List AV→Bool
 | []=>true
 | v :: r=>v.solid&&QI r
def Vg (cs:List AV):AV:=YF cs (JJ cs)
def AV.cells:AV→List AV
 | .agg cs=>cs
 | .d x=>x.cells.map .d
 | .nil=>[.nil] | .nilp=>[.nilp] | .nili=>[.nili] | .ptr a b=>[.ptr a b] | .prow a b c e=>[.prow a b c e] | .pim cs=>[.pim cs]
 | .own a=>[.own a] | .ownv a b c=>[.ownv a b c] | .bnil a b=>[.bnil a b] | .bbuf a b=>[.bbuf a b] | .tup vs=>[.tup vs] | .clo f c=>[.clo f c] | .junk=>[.junk]
def Yj:Value→AV
 | .bool b=>.d (.bool b)
 | .int k n=>.d (.int k n)
 | .string s=>.d (.str s.data.toList)
 | .slice none 0 0=>.nil
 | .pointer none=>.nilp
 | .nilIface=>.nili
 | _=>.junk
def evC:Value→AV
 | .agg cs=>Vg (cs.toList.map Yj)
 | v=>Yj v
def ev (sl:Sl):Operand→AV
 | .tmp t=>gs sl t
 | .const v=>evC v
 | .global _=>.junk
 | .func f=>.clo f []
def ZcI:Value→Option D
 | .bool b=>some (.bool b)
 | .int k n=>some (.int k n)
 | .string s=>some (.str s.data.toList)
 | .slice none 0 0=>some (.sl [])
 | _=>none
def Z5 {α β:Type} (f:α→Option β):List α→Option (List β)
 | []=>some []
 | x :: r=>bnd (f x) fun y=>bnd (Z5 f r) fun ys=>some (y :: ys)
def evD:Value→Option D
 | .agg cs=>bnd (Z5 ZcI cs.toList) fun ds=>some (.agg ds)
 | v=>ZcI v
def Yc:Option Zh→Option (List D)
 | some (.row _ xs _ _)=>some xs
 | some (.tree _ _ xs none)=>some xs
 | _=>none
def ZbD (hp:Hp):AV→Option D
 | .d x=>some x
 | .nil=>some (.sl [])
 | .own id=>bnd (Yc (lkp hp id)) fun xs=>some (.sl xs)
 | .ownv id off n=>bnd (Yc (lkp hp id)) fun xs=>some (.sl ((xs.drop off).take n))
 | _=>none
def toD (hp:Hp):AV→Option D
 | .agg cs=>bnd (Z5 (ZbD hp) cs) fun ds=>if Wg D.one ds then some (.agg ds) else none
 | v=>ZbD hp v
def Uy:AV→List Nat
 | .own id=>[id]
 | .ownv id _ _=>[id]
 | _=>[]
def JK:AV→List Nat
 | .agg cs=>cs.flatMap Uy
 | v=>Uy v
def Ze:AV→List Nat
 | .own id=>[id]
 | .ownv id _ _=>[id]
 | .ptr id _=>[id]
 | .prow id _ _ _=>[id]
 | .bnil id _=>[id]
 | .junk | .bbuf _ _ | .d _ | .nil | .nilp | .nili | .pim _ | .agg _ | .tup _ | .clo _ _=>[]
def Zn:AV→List Nat
 | .agg cs=>cs.flatMap Ze
 | .clo _ cs=>cs.flatMap Ze
 | v=>Ze v
def Zl:AV→List Nat
 | .tup vs=>vs.flatMap Zn
 | v=>Zn v
def Vh:Zh→List Nat
 | .box cs=>cs.flatMap Zn
 | .row _ _ _ _=>[]
 | .tree _ _ _ _=>[]
 | .gone=>[]
def Zf3:Option (Option Nat×Nat×Nat)→Option (Option Nat×Nat×Nat)
 | some q=>some (none,q.2)
 | none=>none
def JL (g:Nat→Nat):AV→AV
 | .own id=>.own (g id)
 | .ownv id a b=>.ownv (g id) a b
 | .ptr id o=>.ptr (g id) o
 | .prow id s i o=>.prow (g id) s i o
 | .bnil id e=>.bnil (g id) e
 | v=>v
def Jb (g:Nat→Nat):AV→AV
 | .agg cs=>.agg (cs.map (JL g))
 | .clo f cs=>.clo f (cs.map (JL g))
 | v=>JL g v
def ren (g:Nat→Nat):AV→AV
 | .tup vs=>.tup (vs.map (Jb g))
 | v=>Jb g v
def ZcJ (g:Nat→Nat):Zh→Zh
 | .box cs=>.box (cs.map (Jb g))
 | .row s x e f=>.row s x e f
 | .tree s n x l=>.tree s n x (Zf3 l)
 | .gone=>.gone
def ZN (bad:List Nat):AV→AV
 | .own id=>if bad.contains id then .junk else .own id
 | .ownv id a b=>if bad.contains id then .junk else .ownv id a b
 | .ptr id o=>if bad.contains id then .junk else .ptr id o
 | .prow id s i o=>if bad.contains id then .junk else .prow id s i o
 | .bnil id e=>if bad.contains id then .junk else .bnil id e
 | v=>v
def Zy (bad:List Nat):AV→AV
 | .agg cs=>.agg (cs.map (ZN bad))
 | .clo f cs=>.clo f (cs.map (ZN bad))
 | v=>ZN bad v
def kill (bad:List Nat):AV→AV
 | .tup vs=>.tup (vs.map (Zy bad))
 | v=>Zy bad v
def XW (bad:List Nat):Option (Option Nat×Nat×Nat)→Option (Option Nat×Nat×Nat)
 | some (some nm,q)=>if bad.contains nm then some (none,q) else some (some nm,q)
 | l=>l
def QA (bad:List Nat):Zh→Zh
 | .box cs=>.box (cs.map (Zy bad))
 | .row s x e f=>.row s x e f
 | .tree s n x l=>.tree s n x (XW bad l)
 | .gone=>.gone
def ZdG {α β:Type} (f:α→β):List (Nat×α)→List (Nat×β)
 | []=>[]
 | (k,v) :: r=>(k,f v) :: ZdG f r
def Xq:Zh→Zh
 | .row s x e _=>.row s x e true
 | .tree s n x l=>.tree s n x l
 | o=>o
def freeze (ids:List Nat):Hp→Hp
 | []=>[]
 | (k,o) :: r=>(k,if ids.contains k then Xq o else o) :: freeze ids r
def ZcK:Option Zh→Option (List D×Bool)
 | some (.row _ xs ex _)=>some (xs,ex)
 | _=>none
def Wx (hp:Hp):AV→Option (D×Bool×List Nat)
 | .d x=>some (x,x.flat,[])
 | .nil=>some (.sl [],true,[])
 | .own id=>bnd (ZcK (lkp hp id)) fun q=>some (.sl q.1,q.2,[id])
 | _=>none
def XH (hp:Hp):List AV→Option (List D×Bool×List Nat)
 | []=>some ([],true,[])
 | v :: r=>bnd (Wx hp v) fun q=>bnd (XH hp r) fun p=>
   if q.1.one&&!q.2.2.any p.2.2.contains then some (q.1 :: p.1,q.2.1&&p.2.1,q.2.2++p.2.2) else none
def give (hp:Hp):AV→Option (D×Bool×List Nat)
 | .agg cs=>bnd (XH hp cs) fun p=>some (.agg p.1,p.2.1,p.2.2)
 | v=>Wx hp v
def Yd (hp:Hp):List AV→Option (List D×Bool×List Nat)
 | []=>some ([],true,[])
 | v :: r=>bnd (give hp v) fun q=>bnd (Yd hp r) fun p=>
   if !q.2.2.any p.2.2.contains then some (q.1 :: p.1,q.2.1&&p.2.1,q.2.2++p.2.2) else none
def Zk {α:Type} (cs:List α) (off:Nat) (vs:List α):List α:=cs.take off++vs++cs.drop (off+vs.length)
def Q2 (x:D) (off:Nat) (ds:List D):D:=match x with
 | .agg cs=>.agg (Zk cs off ds)
 | _=>ds.headD x
def YL (op:BinOp) (k:IntKind) (a b:Int):Option D:=
 match op with
 | .add=>some (.int k (k.wrap (a+b)))
 | .sub=>some (.int k (k.wrap (a-b)))
 | .mul=>some (.int k (k.wrap (a*b)))
 | .quo=>if b=0 then none else some (.int k (k.wrap (a.tdiv b)))
 | .rem=>if b=0 then none else some (.int k (a.tmod b))
 | .and=>some (.int k (k.wrap (BitVec.ofInt k.bits a &&& BitVec.ofInt k.bits b).toNat))
 | .or=>some (.int k (k.wrap (BitVec.ofInt k.bits a ||| BitVec.ofInt k.bits b).toNat))
 | .xor=>some (.int k (k.wrap (BitVec.ofInt k.bits a ^^^ BitVec.ofInt k.bits b).toNat))
 | .andNot=>some (.int k (k.wrap (BitVec.ofInt k.bits a &&& ~~~(BitVec.ofInt k.bits b)).toNat))
 | .eql=>some (.bool (a==b))
 | .neq=>some (.bool (a != b))
 | .lss=>some (.bool (decide (a<b)))
 | .leq=>some (.bool (decide (a≤b)))
 | .gtr=>some (.bool (decide (a>b)))
 | .geq=>some (.bool (decide (a≥b)))
 | .shl | .shr=>none
def ZdH (op:BinOp) (k:IntKind) (a b:Int):Option D:=
 if b<0 then none else
 match op with
 | .shl=>some (.int k (k.wrap (a*2 ^ (min b.toNat k.bits))))
 | .shr=>some (.int k (a.fdiv (2 ^ (min b.toNat k.bits))))
 | _=>none
def Zl4:Nat:=1152921504606846976
def ZkR (op:BinOp) (a b:List UInt8):Option D:=
 match op with
 | .add=>if a.length+b.length≤Zl4 then some (.str (a++b)) else none
 | .eql=>some (.bool (a==b))
 | .neq=>some (.bool (!(a==b)))
 | _=>none
def D.beq1:D→D→Option Bool
 | .int _ a,.int _ b=>some (a==b)
 | .bool a,.bool b=>some (a==b)
 | .str a,.str b=>some (a==b)
 | _,_=>none
def beqL:List D→List D→Option Bool
 | [],[]=>some true
 | x :: xs,y :: ys=>bnd (D.beq1 x y) fun a=>bnd (beqL xs ys) fun b=>some (a&&b)
 | _,_=>none
def agg2 (op:BinOp) (r:Option Bool):Option AV:=match op with
 | .eql=>bnd r fun r=>some (.d (.bool r))
 | .neq=>bnd r fun r=>some (.d (.bool (!r)))
 | _=>none
def asD (r:Option D):Option AV:=bnd r fun x=>some (.d x)
def VN (op:BinOp) (k k' : IntKind) (a b:Int):Option AV:=match op with
 | .shl | .shr=>asD (ZdH op k a b)
 | _=>if k=k' then asD (YL op k a b) else none
def Zif (op:BinOp) (a b:Bool):Option AV:=match op with
 | .eql=>some (.d (.bool (a==b)))
 | .neq=>some (.d (.bool (!(a==b))))
 | _=>none
def vbin (op:BinOp):AV→AV→Option AV
 | .d (.int k a),.d (.int k' b)=>VN op k k' a b
 | .d (.str a),.d (.str b)=>asD (ZkR op a b)
 | _,_=>none
def neg1 (op:UnOp) (k:IntKind) (a:Int):Option AV:=match op with
 | .neg=>some (.d (.int k (k.wrap (0-a))))
 | _=>none
def not1 (op:UnOp) (a:Bool):Option AV:=match op with
 | .not=>some (.d (.bool (!a)))
 | _=>none
def vun (op:UnOp):AV→Option AV
 | .d (.int k a)=>neg1 op k a
 | .d (.bool a)=>not1 op a
 | _=>none
def UY (hp:Hp):AV→Option Nat
 | .d (.sl xs)=>some xs.length
 | .nil=>some 0
 | .own id=>bnd (Yc (lkp hp id)) fun xs=>some xs.length
 | .ownv _ _ n=>some n
 | _=>none
def ZnQ:AV→Option Nat
 | .d (.str s)=>some s.length
 | _=>none
def minI (a b:Int):Int:=if b<a then b else a
def maxI (a b:Int):Int:=if b>a then b else a
end Go.Abs
