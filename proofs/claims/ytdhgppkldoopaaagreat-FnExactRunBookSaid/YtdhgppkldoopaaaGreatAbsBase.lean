/- Own text. -/
import Derived.Orders
import Derived.Laws.AppendOwn
set_option linter.unusedVariables false
set_option linter.unusedSimpArgs false
namespace Go.Abs
open Go
abbrev Ka:=@List.getElem?_eq_some_iff
abbrev Kb:=@List.mem_of_getElem?
abbrev Kc:=@Bool.false_eq_true
abbrev Kd:=@Bool.and_eq_true
abbrev Ke:=@List.mem_append
abbrev Kf:=@List.mem_cons
abbrev Kg:=@decide_eq_true
abbrev Kh:=@decide_eq_false
abbrev Ki:=@List.length_filterMap_le
abbrev Kj:=@if_neg
abbrev Kk:=@Nat.le_refl
abbrev Kl:=@if_pos
abbrev Km:=@List.eq_nil_of_length_eq_zero
abbrev Kn:=@if_true
abbrev Ko:=@if_false
abbrev Kp:=@List.map_cons
abbrev Kq:=@List.mem_flatMap
abbrev Kr:=@List.mem_cons_of_mem
abbrev Ks:=@List.length_cons
abbrev Kt:=@List.getElem?_eq_getElem
abbrev Ku:=@decide_eq_true_eq
abbrev Kv:=@Nat.le_trans
abbrev Kw:=@List.drop_eq_getElem_cons
abbrev Kx:=@List.length_append
abbrev Ky:=@Nat.ne_of_gt
abbrev Kz:=@List.getElem?_append_right
abbrev KA:=@List.flatMap_cons
abbrev KB:=@List.all_eq_true
abbrev KC:=@Nat.mul_le_mul_right
abbrev KD:=@List.cons_append
abbrev KE:=@Array.getElem?_eq_some_iff
abbrev KF:=@List.getElem?_eq_none
abbrev KG:=@Nat.add_mul
abbrev KH:=@List.map_congr_left
abbrev KI:=@List.contains_eq_mem
abbrev KJ:=@List.getElem?_append_left
abbrev KK:=@List.take_add_one
abbrev KL:=@List.mem_singleton
abbrev KM:=@List.getElem?_set_self
abbrev KN:=@Nat.lt_or_ge
abbrev KO:=@Bool.not_eq_true'
abbrev KP:=@List.count_pos_iff
abbrev KQ:=@List.length_map
abbrev KR:=@List.getElem?_drop
abbrev KS:=@List.getElem?_cons_succ
abbrev KT:=@decide_eq_false_iff_not
abbrev KU:=@List.nodup_cons
abbrev KV:=@Option.map_some
abbrev KW:=@List.getElem?_set_ne
abbrev KX:=@List.map_nil
abbrev KY:=@List.mem_of_mem_take
abbrev KZ:=@List.flatten_cons
abbrev K0:=@Option.isSome_iff_exists
abbrev La:=@List.length_nil
abbrev Lc:=@List.getElem?_cons_zero
abbrev Ld:=@Int.natCast_zero
abbrev Le:=@Int.toNat_natCast
abbrev Lf:=@Nat.add_assoc
abbrev Lg:=@List.mem_cons_self
abbrev Lh:=@List.filterMap_cons
abbrev Li:=@List.take_append_drop
abbrev Lj:=@List.getElem?_map
abbrev Lk:=@List.mem_map
abbrev Ll:=@List.ext_getElem?
abbrev Lm:=@List.getElem?_take
abbrev Ln:=@List.append_nil
abbrev Lo:=@List.take_of_length_le
abbrev Lp:=@Array.length_toList
abbrev Lq:=@List.append_assoc
abbrev Lr:=@List.nodup_nil
abbrev Ls:=@List.mem_range
abbrev Lt:=@Bool.or_eq_true
abbrev Lu:=@List.mem_filterMap
abbrev Lv:=@Nat.eq_zero_or_pos
abbrev Lw:=@List.getElem?_of_mem
abbrev Lx:=@Nat.add_sub_cancel_left
abbrev Ly:=@List.all_cons
abbrev Lz:=@Int.add_zero
abbrev LA:=@List.map_id
abbrev LB:=@List.filterMap_append
abbrev LC:=@List.length_take
abbrev LD:=@List.getElem?_set
abbrev LF:=@List.length_set
abbrev LG:=@List.replicate_succ
abbrev LH:=@Bool.not_eq_true
abbrev LI:=@Nat.lt_or_gt_of_ne
abbrev LJ:=@List.map_set
abbrev LK:=@List.mem_of_mem_drop
abbrev LL:=@List.nodup_append
abbrev LM:=@List.pairwise_append
abbrev LN:=@List.nodup_iff_count
abbrev LP:=@List.eq_of_mem_replicate
abbrev LQ:=@List.mem_of_mem_eraseIdx
abbrev LR:=@List.take_succ_cons
abbrev LS:=@List.flatten_append
abbrev LU:=@List.take_length
abbrev LV:=@List.not_mem_nil
abbrev LX:=@List.any_eq_true
abbrev LY:=@List.length_drop
abbrev LZ:=@List.append_eq_nil_iff
abbrev L0:=@Nat.zero_add
abbrev L1:=@List.pairwise_cons
abbrev L2:=@Nat.add_zero
abbrev L3:=@List.nil_append
abbrev L4:=@Bool.and_true
abbrev L5:=@List.mem_iff_getElem?
abbrev L6:=@Array.getElem?_modify
abbrev L7:=@Array.getElem?_toList
abbrev L8:=@List.size_toArray
abbrev L9:=@Bool.or_eq_false_iff
abbrev Kaa:=@List.take_zero
abbrev Kab:=@Int.mul_nonneg
abbrev Kac:=@Int.mul_le_mul
abbrev Kad:=@List.eraseIdx_of_length_le
abbrev Kae:=@Array.toList_setIfInBounds
abbrev Kaf:=@List.getElem?_append
abbrev Kag:=@Nat.mul_zero
abbrev Kah:=@List.nodup_range
abbrev Kai:=@Nat.le_max_right
abbrev Kaj:=@List.mem_map_of_mem
abbrev Kak:=@List.map_append
abbrev Kal:=@Nat.le_max_left
abbrev Kam:=@Nat.sub_self
abbrev Kan:=@List.set_set
abbrev Kao:=@List.drop_drop
inductive D where
 | int (k:IntKind) (n:Int)
 | bool (b:Bool)
 | str (s:List UInt8)
 | sl (xs:List D)
 | agg (cs:List D)
def D.cells:D→List D
 | .agg cs=>cs
 | .int k n=>[.int k n]
 | .bool b=>[.bool b]
 | .str s=>[.str s]
 | .sl xs=>[.sl xs]
def D.plain:D→Bool
 | .int _ _=>true
 | .bool _=>true
 | .str _=>true
 | .sl _=>false
 | .agg _=>false
def D.one:D→Bool
 | .int _ _=>true
 | .bool _=>true
 | .str _=>true
 | .sl _=>true
 | .agg _=>false
def JA (p:D→Bool):List D→Bool
 | []=>true
 | x :: xs=>p x&&JA p xs
def D.flat (d:D):Bool:=JA D.plain d.cells
inductive AV where
 | d (x:D)
 | nil
 | nilp
 | nili
 | ptr (id off:Nat)
 | prow (id sz i off:Nat)
 | pim (cs:List D)
 | own (id:Nat)
 | ownv (id off len:Nat)
 | bnil (id e:Nat)
 | bbuf (te:Nat) (l:List UInt8)
 | agg (cs:List AV)
 | tup (vs:List AV)
 | clo (f:Nat) (caps:List AV)
 | junk
inductive Zn where
 | box (cs:List AV)
 | row (sz:Nat) (xs:List D) (ex fz:Bool)
 | tree (sz ns:Nat) (xs:List D) (lk:Option (Option Nat×Nat×Nat))
 | gone
abbrev Hp:=List (Nat×Zn)
abbrev Sl:=List (Nat×AV)
def bnd {α β:Type} (x:Option α) (f:α→Option β):Option β:=match x with
 | some a=>f a
 | none=>none
@[congr] theorem bnd_congr {α β:Type} {x y:Option α} {f:α→Option β} (h:x=y):bnd x f=bnd y f:=by rw[h]
theorem Zg {α β:Type} (a:α) (f:α→Option β):bnd (some a) f=f a:=rfl
theorem Zyx {α β:Type} (f:α→Option β):bnd none f=none:=rfl
theorem ZzS {α β:Type} (c:Prop) [Decidable c] (a b:Option α) (f:α→Option β):bnd (if c then a else b) f=if c then bnd a f else bnd b f:=by split<;>rfl
theorem Za {α β:Type} {x:Option α} {f:α→Option β} {r:β} (h:bnd x f=some r):∃ a,x=some a∧f a=some r:=by
 cases x with
 | none=>cases h
 | some a=>exact⟨a,rfl,h⟩
def lkp {α:Type}:List (Nat×α)→Nat→Option α
 | [],_=>none
 | (k,v) :: r,t=>if k=t then some v else lkp r t
def ins {α:Type}:List (Nat×α)→Nat→α→List (Nat×α)
 | [],t,v=>[(t,v)]
 | (k,v) :: r,t,x=>if k<t then (t,x) :: (k,v) :: r else if k=t then (t,x) :: r else (k,v) :: ins r t x
def Zc3:Option AV→AV
 | some v=>v
 | none=>.junk
def gs (sl:Sl) (t:Nat):AV:=Zc3 (lkp sl t)
structure St where
 sl:Sl
 hp:Hp
 nx:Nat
 m:Nat
def ZoN:AV→Option D
 | .d x=>if x.one then some x else none
 | _=>none
def Zex:List AV→Option (List D)
 | []=>some []
 | v :: r=>bnd (ZoN v) fun x=>bnd (Zex r) fun ds=>some (x :: ds)
def XA:List AV→Bool
 | []=>true
 | .bbuf _ _ :: _=>false
 | _ :: r=>XA r
def Zq6:AV→Bool
 | .clo _ _=>true
 | _=>false
def Zc4:List AV→Bool
 | []=>false
 | v :: r=>Zq6 v || Zc4 r
def W7 (cs:List AV):Option (List D)→AV
 | some ds=>.d (.agg ds)
 | none=>if Zc4 cs then .junk else .agg cs
def AV.solid:AV→Bool
 | .junk=>false
 | .bbuf _ _=>false
 | .tup _=>false
 | _=>true
def Xw:List AV→Bool
 | []=>true
 | v :: r=>v.solid&&Xw r
def Jh (cs:List AV):AV:=W7 cs (Zex cs)
def AV.cells:AV→List AV
 | .agg cs=>cs
 | .d x=>x.cells.map .d
 | .nil=>[.nil] | .nilp=>[.nilp] | .nili=>[.nili] | .ptr a b=>[.ptr a b] | .prow a b c e=>[.prow a b c e] | .pim cs=>[.pim cs]
 | .own a=>[.own a] | .ownv a b c=>[.ownv a b c] | .bnil a b=>[.bnil a b] | .bbuf a b=>[.bbuf a b] | .tup vs=>[.tup vs] | .clo f c=>[.clo f c] | .junk=>[.junk]
def WD:Value→AV
 | .bool b=>.d (.bool b)
 | .int k n=>.d (.int k n)
 | .string s=>.d (.str s.data.toList)
 | .slice none 0 0=>.nil
 | .pointer none=>.nilp
 | .nilIface=>.nili
 | _=>.junk
def evC:Value→AV
 | .agg cs=>Jh (cs.toList.map WD)
 | v=>WD v
def ev (sl:Sl):Operand→AV
 | .tmp t=>gs sl t
 | .const v=>evC v
 | .global _=>.junk
 | .func f=>.clo f []
def Zks:Value→Option D
 | .bool b=>some (.bool b)
 | .int k n=>some (.int k n)
 | .string s=>some (.str s.data.toList)
 | .slice none 0 0=>some (.sl [])
 | _=>none
def Qr {α β:Type} (f:α→Option β):List α→Option (List β)
 | []=>some []
 | x :: r=>bnd (f x) fun y=>bnd (Qr f r) fun ys=>some (y :: ys)
def evD:Value→Option D
 | .agg cs=>bnd (Qr Zks cs.toList) fun ds=>some (.agg ds)
 | v=>Zks v
def Wy:Option Zn→Option (List D)
 | some (.row _ xs _ _)=>some xs
 | some (.tree _ _ xs none)=>some xs
 | _=>none
def ZhH (hp:Hp):AV→Option D
 | .d x=>some x
 | .nil=>some (.sl [])
 | .own id=>bnd (Wy (lkp hp id)) fun xs=>some (.sl xs)
 | .ownv id off n=>bnd (Wy (lkp hp id)) fun xs=>some (.sl ((xs.drop off).take n))
 | _=>none
def toD (hp:Hp):AV→Option D
 | .agg cs=>bnd (Qr (ZhH hp) cs) fun ds=>if JA D.one ds then some (.agg ds) else none
 | v=>ZhH hp v
def Zcn:AV→List Nat
 | .own id=>[id]
 | .ownv id _ _=>[id]
 | _=>[]
def Zey:AV→List Nat
 | .agg cs=>cs.flatMap Zcn
 | v=>Zcn v
def Zl:AV→List Nat
 | .own id=>[id]
 | .ownv id _ _=>[id]
 | .ptr id _=>[id]
 | .prow id _ _ _=>[id]
 | .bnil id _=>[id]
 | .junk | .bbuf _ _ | .d _ | .nil | .nilp | .nili | .pim _ | .agg _ | .tup _ | .clo _ _=>[]
def Zz:AV→List Nat
 | .agg cs=>cs.flatMap Zl
 | .clo _ cs=>cs.flatMap Zl
 | v=>Zl v
def Zx:AV→List Nat
 | .tup vs=>vs.flatMap Zz
 | v=>Zz v
def Ji:Zn→List Nat
 | .box cs=>cs.flatMap Zz
 | .row _ _ _ _=>[]
 | .tree _ _ _ _=>[]
 | .gone=>[]
def ZoO:Option (Option Nat×Nat×Nat)→Option (Option Nat×Nat×Nat)
 | some q=>some (none,q.2)
 | none=>none
def Zez (g:Nat→Nat):AV→AV
 | .own id=>.own (g id)
 | .ownv id a b=>.ownv (g id) a b
 | .ptr id o=>.ptr (g id) o
 | .prow id s i o=>.prow (g id) s i o
 | .bnil id e=>.bnil (g id) e
 | v=>v
def Zdy (g:Nat→Nat):AV→AV
 | .agg cs=>.agg (cs.map (Zez g))
 | .clo f cs=>.clo f (cs.map (Zez g))
 | v=>Zez g v
def ren (g:Nat→Nat):AV→AV
 | .tup vs=>.tup (vs.map (Zdy g))
 | v=>Zdy g v
def Zkt (g:Nat→Nat):Zn→Zn
 | .box cs=>.box (cs.map (Zdy g))
 | .row s x e f=>.row s x e f
 | .tree s n x l=>.tree s n x (ZoO l)
 | .gone=>.gone
def Qa (bad:List Nat):AV→AV
 | .own id=>if bad.contains id then .junk else .own id
 | .ownv id a b=>if bad.contains id then .junk else .ownv id a b
 | .ptr id o=>if bad.contains id then .junk else .ptr id o
 | .prow id s i o=>if bad.contains id then .junk else .prow id s i o
 | .bnil id e=>if bad.contains id then .junk else .bnil id e
 | v=>v
def ZR (bad:List Nat):AV→AV
 | .agg cs=>.agg (cs.map (Qa bad))
 | .clo f cs=>.clo f (cs.map (Qa bad))
 | v=>Qa bad v
def kill (bad:List Nat):AV→AV
 | .tup vs=>.tup (vs.map (ZR bad))
 | v=>ZR bad v
def V7 (bad:List Nat):Option (Option Nat×Nat×Nat)→Option (Option Nat×Nat×Nat)
 | some (some nm,q)=>if bad.contains nm then some (none,q) else some (some nm,q)
 | l=>l
def Q8 (bad:List Nat):Zn→Zn
 | .box cs=>.box (cs.map (ZR bad))
 | .row s x e f=>.row s x e f
 | .tree s n x l=>.tree s n x (V7 bad l)
 | .gone=>.gone
def ZlB {α β:Type} (f:α→β):List (Nat×α)→List (Nat×β)
 | []=>[]
 | (k,v) :: r=>(k,f v) :: ZlB f r
def Y4:Zn→Zn
 | .row s x e _=>.row s x e true
 | .tree s n x l=>.tree s n x l
 | o=>o
def freeze (ids:List Nat):Hp→Hp
 | []=>[]
 | (k,o) :: r=>(k,if ids.contains k then Y4 o else o) :: freeze ids r
def Zku:Option Zn→Option (List D×Bool)
 | some (.row _ xs ex _)=>some (xs,ex)
 | _=>none
def ZaO (hp:Hp):AV→Option (D×Bool×List Nat)
 | .d x=>some (x,x.flat,[])
 | .nil=>some (.sl [],true,[])
 | .own id=>bnd (Zku (lkp hp id)) fun q=>some (.sl q.1,q.2,[id])
 | _=>none
def VE (hp:Hp):List AV→Option (List D×Bool×List Nat)
 | []=>some ([],true,[])
 | v :: r=>bnd (ZaO hp v) fun q=>bnd (VE hp r) fun p=>
   if q.1.one&&!q.2.2.any p.2.2.contains then some (q.1 :: p.1,q.2.1&&p.2.1,q.2.2++p.2.2) else none
def give (hp:Hp):AV→Option (D×Bool×List Nat)
 | .agg cs=>bnd (VE hp cs) fun p=>some (.agg p.1,p.2.1,p.2.2)
 | v=>ZaO hp v
def Wz (hp:Hp):List AV→Option (List D×Bool×List Nat)
 | []=>some ([],true,[])
 | v :: r=>bnd (give hp v) fun q=>bnd (Wz hp r) fun p=>
   if !q.2.2.any p.2.2.contains then some (q.1 :: p.1,q.2.1&&p.2.1,q.2.2++p.2.2) else none
def Zv {α:Type} (cs:List α) (off:Nat) (vs:List α):List α:=cs.take off++vs++cs.drop (off+vs.length)
def XM (x:D) (off:Nat) (ds:List D):D:=match x with
 | .agg cs=>.agg (Zv cs off ds)
 | _=>ds.headD x
def Ud (op:BinOp) (k:IntKind) (a b:Int):Option D:=
 match op with
 | .add=>some (.int k (k.wrap (a+b)))
 | .sub=>some (.int k (k.wrap (a-b)))
 | .mul=>some (.int k (k.wrap (a*b)))
 | .quo=>if b=0 then none else some (.int k (k.wrap (a.tdiv b)))
 | .rem=>if b=0 then none else some (.int k (a.tmod b))
 | .and=>some (.int k (k.wrap (BitVec.ofInt k.bits a &&& BitVec.ofInt k.bits b).toNat))
 | .or=>some (.int k (k.wrap (BitVec.ofInt k.bits a ||| BitVec.ofInt k.bits b).toNat))
 | .xor=>some (.int k (k.wrap (BitVec.ofInt k.bits a ^^^ BitVec.ofInt k.bits b).toNat))
 | .andNot=>some (.int k (k.wrap (BitVec.ofInt k.bits a &&& ~~~(BitVec.ofInt k.bits b)).toNat))
 | .eql=>some (.bool (a==b))
 | .neq=>some (.bool (a != b))
 | .lss=>some (.bool (decide (a<b)))
 | .leq=>some (.bool (decide (a≤b)))
 | .gtr=>some (.bool (decide (a>b)))
 | .geq=>some (.bool (decide (a≥b)))
 | .shl | .shr=>none
def ZlC (op:BinOp) (k:IntKind) (a b:Int):Option D:=
 if b<0 then none else
 match op with
 | .shl=>some (.int k (k.wrap (a*2 ^ (min b.toNat k.bits))))
 | .shr=>some (.int k (a.fdiv (2 ^ (min b.toNat k.bits))))
 | _=>none
def Zu5:Nat:=1152921504606846976
def ZtI (op:BinOp) (a b:List UInt8):Option D:=
 match op with
 | .add=>if a.length+b.length≤Zu5 then some (.str (a++b)) else none
 | .eql=>some (.bool (a==b))
 | .neq=>some (.bool (!(a==b)))
 | _=>none
def D.beq1:D→D→Option Bool
 | .int _ a,.int _ b=>some (a==b)
 | .bool a,.bool b=>some (a==b)
 | .str a,.str b=>some (a==b)
 | _,_=>none
def beqL:List D→List D→Option Bool
 | [],[]=>some true
 | x :: xs,y :: ys=>bnd (D.beq1 x y) fun a=>bnd (beqL xs ys) fun b=>some (a&&b)
 | _,_=>none
def agg2 (op:BinOp) (r:Option Bool):Option AV:=match op with
 | .eql=>bnd r fun r=>some (.d (.bool r))
 | .neq=>bnd r fun r=>some (.d (.bool (!r)))
 | _=>none
def asD (r:Option D):Option AV:=bnd r fun x=>some (.d x)
def JT (op:BinOp) (k k' : IntKind) (a b:Int):Option AV:=match op with
 | .shl | .shr=>asD (ZlC op k a b)
 | _=>if k=k' then asD (Ud op k a b) else none
def Zq7 (op:BinOp) (a b:Bool):Option AV:=match op with
 | .eql=>some (.d (.bool (a==b)))
 | .neq=>some (.d (.bool (!(a==b))))
 | _=>none
def vbin (op:BinOp):AV→AV→Option AV
 | .d (.int k a),.d (.int k' b)=>JT op k k' a b
 | .d (.str a),.d (.str b)=>asD (ZtI op a b)
 | _,_=>none
def neg1 (op:UnOp) (k:IntKind) (a:Int):Option AV:=match op with
 | .neg=>some (.d (.int k (k.wrap (0-a))))
 | _=>none
def not1 (op:UnOp) (a:Bool):Option AV:=match op with
 | .not=>some (.d (.bool (!a)))
 | _=>none
def vun (op:UnOp):AV→Option AV
 | .d (.int k a)=>neg1 op k a
 | .d (.bool a)=>not1 op a
 | _=>none
def Zc5 (hp:Hp):AV→Option Nat
 | .d (.sl xs)=>some xs.length
 | .nil=>some 0
 | .own id=>bnd (Wy (lkp hp id)) fun xs=>some xs.length
 | .ownv _ _ n=>some n
 | _=>none
def ZwQ:AV→Option Nat
 | .d (.str s)=>some s.length
 | _=>none
def minI (a b:Int):Int:=if b<a then b else a
def maxI (a b:Int):Int:=if b>a then b else a
end Go.Abs
