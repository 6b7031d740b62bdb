/- Own text. -/
import Derived.Orders
import Derived.Laws.AppendOwn
set_option linter.unusedVariables false
set_option linter.unusedSimpArgs false
namespace Go.Abs
open Go
abbrev Ka:=@Bool.false_eq_true
abbrev Kb:=@Bool.and_eq_true
abbrev Kc:=@List.mem_append
abbrev Kd:=@List.getElem?_eq_some_iff
abbrev Ke:=@List.mem_cons
abbrev Kf:=@Nat.le_refl
abbrev Kg:=@List.mem_of_getElem?
abbrev Kh:=@List.eq_nil_of_length_eq_zero
abbrev Ki:=@if_false
abbrev Kj:=@if_true
abbrev Kk:=@List.mem_flatMap
abbrev Kl:=@List.getElem?_eq_getElem
abbrev Km:=@List.mem_cons_of_mem
abbrev Kn:=@decide_eq_true_eq
abbrev Ko:=@if_neg
abbrev Kp:=@List.length_cons
abbrev Kq:=@Nat.ne_of_gt
abbrev Kr:=@List.length_filterMap_le
abbrev Ks:=@List.length_append
abbrev Kt:=@if_pos
abbrev Ku:=@List.getElem?_append_right
abbrev Kv:=@List.flatMap_cons
abbrev Kw:=@List.all_eq_true
abbrev Kx:=@Nat.mul_le_mul_right
abbrev Ky:=@List.map_cons
abbrev Kz:=@Array.getElem?_eq_some_iff
abbrev KA:=@Nat.add_mul
abbrev KB:=@List.map_congr_left
abbrev KC:=@List.contains_eq_mem
abbrev KD:=@List.getElem?_append_left
abbrev KE:=@List.getElem?_eq_none
abbrev KF:=@Bool.not_eq_true'
abbrev KG:=@List.count_pos_iff
abbrev KH:=@Nat.lt_or_ge
abbrev KI:=@Nat.le_trans
abbrev KJ:=@List.cons_append
abbrev KK:=@List.getElem?_drop
abbrev KL:=@decide_eq_false_iff_not
abbrev KM:=@Option.map_some
abbrev KN:=@List.flatten_cons
abbrev KO:=@List.getElem?_set_self
abbrev KP:=@Option.isSome_iff_exists
abbrev KQ:=@Nat.add_assoc
abbrev KR:=@List.getElem?_set_ne
abbrev KS:=@List.mem_cons_self
abbrev KT:=@List.mem_singleton
abbrev KU:=@List.ext_getElem?
abbrev KV:=@List.getElem?_take
abbrev KW:=@List.nodup_cons
abbrev KX:=@List.mem_map
abbrev KY:=@Array.length_toList
abbrev KZ:=@List.append_assoc
abbrev K0:=@List.take_append_drop
abbrev K1:=@List.nodup_nil
abbrev K2:=@List.mem_range
abbrev K3:=@List.length_map
abbrev K4:=@List.length_nil
abbrev K5:=@Nat.eq_zero_or_pos
abbrev K6:=@Nat.add_sub_cancel_left
abbrev K7:=@List.all_cons
abbrev K8:=@List.map_id
abbrev K9:=@Bool.or_eq_true
abbrev La:=@List.drop_eq_getElem_cons
abbrev Lb:=@List.length_take
abbrev Lc:=@List.getElem?_of_mem
abbrev Ld:=@List.getElem?_map
abbrev Le:=@List.getElem?_cons_succ
abbrev Lf:=@List.replicate_succ
abbrev Lg:=@Int.natCast_zero
abbrev Lh:=@Nat.lt_or_gt_of_ne
abbrev Li:=@List.filterMap_append
abbrev Lj:=@List.pairwise_append
abbrev Lk:=@List.nodup_iff_count
abbrev Ll:=@List.flatten_append
abbrev Lm:=@List.any_eq_true
abbrev Ln:=@List.length_drop
abbrev Lo:=@List.getElem?_cons_zero
abbrev Lp:=@List.pairwise_cons
abbrev Lq:=@Nat.add_zero
abbrev Lr:=@List.nil_append
abbrev Ls:=@Array.getElem?_modify
abbrev Lt:=@Array.getElem?_toList
abbrev Lu:=@List.mem_iff_getElem?
abbrev Lv:=@List.nodup_append
abbrev Lw:=@List.take_add_one
abbrev Lx:=@List.size_toArray
abbrev Ly:=@Array.toList_setIfInBounds
abbrev Lz:=@List.getElem?_append
abbrev LA:=@Bool.not_eq_true
abbrev LB:=@List.not_mem_nil
abbrev LC:=@List.nodup_range
abbrev LD:=@Nat.le_max_right
abbrev LF:=@Int.add_zero
abbrev LG:=@List.filterMap_cons
abbrev LH:=@Bool.and_true
abbrev LI:=@Nat.le_max_left
abbrev LJ:=@List.drop_drop
abbrev LK:=@List.map_nil
abbrev LL:=@List.take_zero
abbrev LM:=@Nat.sub_self
inductive D where
 | int (k:IntKind) (n:Int)
 | bool (b:Bool)
 | str (s:List UInt8)
 | sl (xs:List D)
 | agg (cs:List D)
def D.cells:D→List D
 | .agg cs=>cs
 | .int k n=>[.int k n]
 | .bool b=>[.bool b]
 | .str s=>[.str s]
 | .sl xs=>[.sl xs]
def D.plain:D→Bool
 | .int _ _=>true
 | .bool _=>true
 | .str _=>true
 | .sl _=>false
 | .agg _=>false
def D.one:D→Bool
 | .int _ _=>true
 | .bool _=>true
 | .str _=>true
 | .sl _=>true
 | .agg _=>false
def WM (p:D→Bool):List D→Bool
 | []=>true
 | x :: xs=>p x&&WM p xs
def D.flat (d:D):Bool:=WM D.plain d.cells
inductive AV where
 | d (x:D)
 | nil
 | nilp
 | nili
 | ptr (id off:Nat)
 | prow (id sz i off:Nat)
 | pim (cs:List D)
 | own (id:Nat)
 | ownv (id off len:Nat)
 | bnil (id e:Nat)
 | bbuf (te:Nat) (l:List UInt8)
 | agg (cs:List AV)
 | tup (vs:List AV)
 | clo (f:Nat) (caps:List AV)
 | junk
inductive Zj where
 | box (cs:List AV)
 | row (sz:Nat) (xs:List D) (ex fz:Bool)
 | tree (sz ns:Nat) (xs:List D) (lk:Option (Option Nat×Nat×Nat))
 | gone
abbrev Hp:=List (Nat×Zj)
abbrev Sl:=List (Nat×AV)
def bnd {α β:Type} (x:Option α) (f:α→Option β):Option β:=match x with
 | some a=>f a
 | none=>none
@[congr] theorem bnd_congr {α β:Type} {x y:Option α} {f:α→Option β} (h:x=y):bnd x f=bnd y f:=by rw[h]
theorem Zc {α β:Type} (a:α) (f:α→Option β):bnd (some a) f=f a:=rfl
theorem Zp6 {α β:Type} (f:α→Option β):bnd none f=none:=rfl
theorem ZrM {α β:Type} (c:Prop) [Decidable c] (a b:Option α) (f:α→Option β):bnd (if c then a else b) f=if c then bnd a f else bnd b f:=by split<;>rfl
theorem Za {α β:Type} {x:Option α} {f:α→Option β} {r:β} (h:bnd x f=some r):∃ a,x=some a∧f a=some r:=by
 cases x with
 | none=>cases h
 | some a=>exact⟨a,rfl,h⟩
def lkp {α:Type}:List (Nat×α)→Nat→Option α
 | [],_=>none
 | (k,v) :: r,t=>if k=t then some v else lkp r t
def ins {α:Type}:List (Nat×α)→Nat→α→List (Nat×α)
 | [],t,v=>[(t,v)]
 | (k,v) :: r,t,x=>if k<t then (t,x) :: (k,v) :: r else if k=t then (t,x) :: r else (k,v) :: ins r t x
def Jv:Option AV→AV
 | some v=>v
 | none=>.junk
def gs (sl:Sl) (t:Nat):AV:=Jv (lkp sl t)
structure St where
 sl:Sl
 hp:Hp
 nx:Nat
 m:Nat
def Zgy:AV→Option D
 | .d x=>if x.one then some x else none
 | _=>none
def Zag:List AV→Option (List D)
 | []=>some []
 | v :: r=>bnd (Zgy v) fun x=>bnd (Zag r) fun ds=>some (x :: ds)
def QW:List AV→Bool
 | []=>true
 | .bbuf _ _ :: _=>false
 | _ :: r=>QW r
def Zjd:AV→Bool
 | .clo _ _=>true
 | _=>false
def Jw:List AV→Bool
 | []=>false
 | v :: r=>Zjd v || Jw r
def Vg (cs:List AV):Option (List D)→AV
 | some ds=>.d (.agg ds)
 | none=>if Jw cs then .junk else .agg cs
def AV.solid:AV→Bool
 | .junk=>false
 | .bbuf _ _=>false
 | .tup _=>false
 | _=>true
def QT:List AV→Bool
 | []=>true
 | v :: r=>v.solid&&QT r
def VF (cs:List AV):AV:=Vg cs (Zag cs)
def AV.cells:AV→List AV
 | .agg cs=>cs
 | .d x=>x.cells.map .d
 | .nil=>[.nil] | .nilp=>[.nilp] | .nili=>[.nili] | .ptr a b=>[.ptr a b] | .prow a b c e=>[.prow a b c e] | .pim cs=>[.pim cs]
 | .own a=>[.own a] | .ownv a b c=>[.ownv a b c] | .bnil a b=>[.bnil a b] | .bbuf a b=>[.bbuf a b] | .tup vs=>[.tup vs] | .clo f c=>[.clo f c] | .junk=>[.junk]
def YR:Value→AV
 | .bool b=>.d (.bool b)
 | .int k n=>.d (.int k n)
 | .string s=>.d (.str s.data.toList)
 | .slice none 0 0=>.nil
 | .pointer none=>.nilp
 | .nilIface=>.nili
 | _=>.junk
def evC:Value→AV
 | .agg cs=>VF (cs.toList.map YR)
 | v=>YR v
def ev (sl:Sl):Operand→AV
 | .tmp t=>gs sl t
 | .const v=>evC v
 | .global _=>.junk
 | .func f=>.clo f []
def ZdH:Value→Option D
 | .bool b=>some (.bool b)
 | .int k n=>some (.int k n)
 | .string s=>some (.str s.data.toList)
 | .slice none 0 0=>some (.sl [])
 | _=>none
def Qd {α β:Type} (f:α→Option β):List α→Option (List β)
 | []=>some []
 | x :: r=>bnd (f x) fun y=>bnd (Qd f r) fun ys=>some (y :: ys)
def evD:Value→Option D
 | .agg cs=>bnd (Qd ZdH cs.toList) fun ds=>some (.agg ds)
 | v=>ZdH v
def YI:Option Zj→Option (List D)
 | some (.row _ xs _ _)=>some xs
 | some (.tree _ _ xs none)=>some xs
 | _=>none
def ZcF (hp:Hp):AV→Option D
 | .d x=>some x
 | .nil=>some (.sl [])
 | .own id=>bnd (YI (lkp hp id)) fun xs=>some (.sl xs)
 | .ownv id off n=>bnd (YI (lkp hp id)) fun xs=>some (.sl ((xs.drop off).take n))
 | _=>none
def toD (hp:Hp):AV→Option D
 | .agg cs=>bnd (Qd (ZcF hp) cs) fun ds=>if WM D.one ds then some (.agg ds) else none
 | v=>ZcF hp v
def Jb:AV→List Nat
 | .own id=>[id]
 | .ownv id _ _=>[id]
 | _=>[]
def Zah:AV→List Nat
 | .agg cs=>cs.flatMap Jb
 | v=>Jb v
def Zf:AV→List Nat
 | .own id=>[id]
 | .ownv id _ _=>[id]
 | .ptr id _=>[id]
 | .prow id _ _ _=>[id]
 | .bnil id _=>[id]
 | .junk | .bbuf _ _ | .d _ | .nil | .nilp | .nili | .pim _ | .agg _ | .tup _ | .clo _ _=>[]
def Zq:AV→List Nat
 | .agg cs=>cs.flatMap Zf
 | .clo _ cs=>cs.flatMap Zf
 | v=>Zf v
def Zn:AV→List Nat
 | .tup vs=>vs.flatMap Zq
 | v=>Zq v
def VG:Zj→List Nat
 | .box cs=>cs.flatMap Zq
 | .row _ _ _ _=>[]
 | .tree _ _ _ _=>[]
 | .gone=>[]
def Zgz:Option (Option Nat×Nat×Nat)→Option (Option Nat×Nat×Nat)
 | some q=>some (none,q.2)
 | none=>none
def Zai (g:Nat→Nat):AV→AV
 | .own id=>.own (g id)
 | .ownv id a b=>.ownv (g id) a b
 | .ptr id o=>.ptr (g id) o
 | .prow id s i o=>.prow (g id) s i o
 | .bnil id e=>.bnil (g id) e
 | v=>v
def JR (g:Nat→Nat):AV→AV
 | .agg cs=>.agg (cs.map (Zai g))
 | .clo f cs=>.clo f (cs.map (Zai g))
 | v=>Zai g v
def ren (g:Nat→Nat):AV→AV
 | .tup vs=>.tup (vs.map (JR g))
 | v=>JR g v
def ZdI (g:Nat→Nat):Zj→Zj
 | .box cs=>.box (cs.map (JR g))
 | .row s x e f=>.row s x e f
 | .tree s n x l=>.tree s n x (Zgz l)
 | .gone=>.gone
def ZS (bad:List Nat):AV→AV
 | .own id=>if bad.contains id then .junk else .own id
 | .ownv id a b=>if bad.contains id then .junk else .ownv id a b
 | .ptr id o=>if bad.contains id then .junk else .ptr id o
 | .prow id s i o=>if bad.contains id then .junk else .prow id s i o
 | .bnil id e=>if bad.contains id then .junk else .bnil id e
 | v=>v
def ZD (bad:List Nat):AV→AV
 | .agg cs=>.agg (cs.map (ZS bad))
 | .clo f cs=>.clo f (cs.map (ZS bad))
 | v=>ZS bad v
def kill (bad:List Nat):AV→AV
 | .tup vs=>.tup (vs.map (ZD bad))
 | v=>ZD bad v
def Ym (bad:List Nat):Option (Option Nat×Nat×Nat)→Option (Option Nat×Nat×Nat)
 | some (some nm,q)=>if bad.contains nm then some (none,q) else some (some nm,q)
 | l=>l
def QH (bad:List Nat):Zj→Zj
 | .box cs=>.box (cs.map (ZD bad))
 | .row s x e f=>.row s x e f
 | .tree s n x l=>.tree s n x (Ym bad l)
 | .gone=>.gone
def ZeA {α β:Type} (f:α→β):List (Nat×α)→List (Nat×β)
 | []=>[]
 | (k,v) :: r=>(k,f v) :: ZeA f r
def XL:Zj→Zj
 | .row s x e _=>.row s x e true
 | .tree s n x l=>.tree s n x l
 | o=>o
def freeze (ids:List Nat):Hp→Hp
 | []=>[]
 | (k,o) :: r=>(k,if ids.contains k then XL o else o) :: freeze ids r
def ZdJ:Option Zj→Option (List D×Bool)
 | some (.row _ xs ex _)=>some (xs,ex)
 | _=>none
def W9 (hp:Hp):AV→Option (D×Bool×List Nat)
 | .d x=>some (x,x.flat,[])
 | .nil=>some (.sl [],true,[])
 | .own id=>bnd (ZdJ (lkp hp id)) fun q=>some (.sl q.1,q.2,[id])
 | _=>none
def Yb (hp:Hp):List AV→Option (List D×Bool×List Nat)
 | []=>some ([],true,[])
 | v :: r=>bnd (W9 hp v) fun q=>bnd (Yb hp r) fun p=>
   if q.1.one&&!q.2.2.any p.2.2.contains then some (q.1 :: p.1,q.2.1&&p.2.1,q.2.2++p.2.2) else none
def give (hp:Hp):AV→Option (D×Bool×List Nat)
 | .agg cs=>bnd (Yb hp cs) fun p=>some (.agg p.1,p.2.1,p.2.2)
 | v=>W9 hp v
def YJ (hp:Hp):List AV→Option (List D×Bool×List Nat)
 | []=>some ([],true,[])
 | v :: r=>bnd (give hp v) fun q=>bnd (YJ hp r) fun p=>
   if !q.2.2.any p.2.2.contains then some (q.1 :: p.1,q.2.1&&p.2.1,q.2.2++p.2.2) else none
def Zl {α:Type} (cs:List α) (off:Nat) (vs:List α):List α:=cs.take off++vs++cs.drop (off+vs.length)
def Xi (x:D) (off:Nat) (ds:List D):D:=match x with
 | .agg cs=>.agg (Zl cs off ds)
 | _=>ds.headD x
def Vl (op:BinOp) (k:IntKind) (a b:Int):Option D:=
 match op with
 | .add=>some (.int k (k.wrap (a+b)))
 | .sub=>some (.int k (k.wrap (a-b)))
 | .mul=>some (.int k (k.wrap (a*b)))
 | .quo=>if b=0 then none else some (.int k (k.wrap (a.tdiv b)))
 | .rem=>if b=0 then none else some (.int k (a.tmod b))
 | .and=>some (.int k (k.wrap (BitVec.ofInt k.bits a &&& BitVec.ofInt k.bits b).toNat))
 | .or=>some (.int k (k.wrap (BitVec.ofInt k.bits a ||| BitVec.ofInt k.bits b).toNat))
 | .xor=>some (.int k (k.wrap (BitVec.ofInt k.bits a ^^^ BitVec.ofInt k.bits b).toNat))
 | .andNot=>some (.int k (k.wrap (BitVec.ofInt k.bits a &&& ~~~(BitVec.ofInt k.bits b)).toNat))
 | .eql=>some (.bool (a==b))
 | .neq=>some (.bool (a != b))
 | .lss=>some (.bool (decide (a<b)))
 | .leq=>some (.bool (decide (a≤b)))
 | .gtr=>some (.bool (decide (a>b)))
 | .geq=>some (.bool (decide (a≥b)))
 | .shl | .shr=>none
def ZeB (op:BinOp) (k:IntKind) (a b:Int):Option D:=
 if b<0 then none else
 match op with
 | .shl=>some (.int k (k.wrap (a*2 ^ (min b.toNat k.bits))))
 | .shr=>some (.int k (a.fdiv (2 ^ (min b.toNat k.bits))))
 | _=>none
def Zm3:Nat:=1152921504606846976
def Zlo (op:BinOp) (a b:List UInt8):Option D:=
 match op with
 | .add=>if a.length+b.length≤Zm3 then some (.str (a++b)) else none
 | .eql=>some (.bool (a==b))
 | .neq=>some (.bool (!(a==b)))
 | _=>none
def D.beq1:D→D→Option Bool
 | .int _ a,.int _ b=>some (a==b)
 | .bool a,.bool b=>some (a==b)
 | .str a,.str b=>some (a==b)
 | _,_=>none
def beqL:List D→List D→Option Bool
 | [],[]=>some true
 | x :: xs,y :: ys=>bnd (D.beq1 x y) fun a=>bnd (beqL xs ys) fun b=>some (a&&b)
 | _,_=>none
def agg2 (op:BinOp) (r:Option Bool):Option AV:=match op with
 | .eql=>bnd r fun r=>some (.d (.bool r))
 | .neq=>bnd r fun r=>some (.d (.bool (!r)))
 | _=>none
def asD (r:Option D):Option AV:=bnd r fun x=>some (.d x)
def Wl (op:BinOp) (k k' : IntKind) (a b:Int):Option AV:=match op with
 | .shl | .shr=>asD (ZeB op k a b)
 | _=>if k=k' then asD (Vl op k a b) else none
def Zje (op:BinOp) (a b:Bool):Option AV:=match op with
 | .eql=>some (.d (.bool (a==b)))
 | .neq=>some (.d (.bool (!(a==b))))
 | _=>none
def vbin (op:BinOp):AV→AV→Option AV
 | .d (.int k a),.d (.int k' b)=>Wl op k k' a b
 | .d (.str a),.d (.str b)=>asD (Zlo op a b)
 | _,_=>none
def neg1 (op:UnOp) (k:IntKind) (a:Int):Option AV:=match op with
 | .neg=>some (.d (.int k (k.wrap (0-a))))
 | _=>none
def not1 (op:UnOp) (a:Bool):Option AV:=match op with
 | .not=>some (.d (.bool (!a)))
 | _=>none
def vun (op:UnOp):AV→Option AV
 | .d (.int k a)=>neg1 op k a
 | .d (.bool a)=>not1 op a
 | _=>none
def Jx (hp:Hp):AV→Option Nat
 | .d (.sl xs)=>some xs.length
 | .nil=>some 0
 | .own id=>bnd (YI (lkp hp id)) fun xs=>some xs.length
 | .ownv _ _ n=>some n
 | _=>none
def ZoW:AV→Option Nat
 | .d (.str s)=>some s.length
 | _=>none
def minI (a b:Int):Int:=if b<a then b else a
def maxI (a b:Int):Int:=if b>a then b else a
end Go.Abs
