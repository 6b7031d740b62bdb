/- Own text. -/
import Derived.Orders
import Derived.Laws.AppendOwn
set_option linter.unusedVariables false
set_option linter.unusedSimpArgs false
namespace Go.Abs
open Go
abbrev Ka:=@Bool.false_eq_true
abbrev Kb:=@Bool.and_eq_true
abbrev Kc:=@List.getElem?_eq_some_iff
abbrev Kd:=@List.mem_append
abbrev Ke:=@List.mem_of_getElem?
abbrev Kf:=@List.mem_cons
abbrev Kg:=@List.length_cons
abbrev Kh:=@Nat.le_refl
abbrev Ki:=@if_false
abbrev Kj:=@List.length_append
abbrev Kk:=@if_true
abbrev Kl:=@decide_eq_true_eq
abbrev Km:=@List.eq_nil_of_length_eq_zero
abbrev Kn:=@if_neg
abbrev Ko:=@if_pos
abbrev Kp:=@List.getElem?_append_right
abbrev Kq:=@List.map_cons
abbrev Kr:=@List.getElem?_append_left
abbrev Ks:=@List.mem_flatMap
abbrev Kt:=@List.mem_cons_of_mem
abbrev Ku:=@Nat.ne_of_gt
abbrev Kv:=@List.mem_singleton
abbrev Kw:=@List.length_map
abbrev Kx:=@List.getElem?_map
abbrev Ky:=@decide_eq_false
abbrev Kz:=@List.getElem?_eq_getElem
abbrev KA:=@List.flatten_cons
abbrev KB:=@List.length_drop
abbrev KC:=@Nat.mul_le_mul_right
abbrev KD:=@List.flatMap_cons
abbrev KE:=@List.take_add_one
abbrev KF:=@Array.getElem?_eq_some_iff
abbrev KG:=@Nat.add_mul
abbrev KH:=@List.length_nil
abbrev KI:=@Nat.add_assoc
abbrev KJ:=@List.map_congr_left
abbrev KK:=@List.all_eq_true
abbrev KL:=@List.cons_append
abbrev KM:=@List.contains_eq_mem
abbrev KN:=@decide_eq_true
abbrev KO:=@Bool.not_eq_true'
abbrev KP:=@List.length_take
abbrev KQ:=@List.take_of_length_le
abbrev KR:=@List.getElem?_eq_none
abbrev KS:=@List.getElem?_take
abbrev KT:=@List.count_pos_iff
abbrev KU:=@Array.length_toList
abbrev KV:=@List.mem_map
abbrev KW:=@Option.map_some
abbrev KX:=@List.map_append
abbrev KY:=@List.getElem?_drop
abbrev KZ:=@Nat.lt_or_ge
abbrev K0:=@decide_eq_false_iff_not
abbrev K3:=@List.drop_eq_getElem_cons
abbrev K4:=@List.nil_append
abbrev K5:=@List.pairwise_append
abbrev K6:=@Option.isSome_iff_exists
abbrev K7:=@List.pairwise_cons
abbrev K8:=@List.getElem?_set_ne
abbrev K9:=@List.mem_cons_self
abbrev La:=@List.flatten_append
abbrev Lb:=@List.getElem?_cons_succ
abbrev Lc:=@Nat.add_sub_cancel_left
abbrev Ld:=@List.nodup_cons
abbrev Le:=@List.mem_filter
abbrev Lf:=@List.append_nil
abbrev Lg:=@Bool.or_eq_true
abbrev Lh:=@List.not_mem_nil
abbrev Li:=@List.take_length
abbrev Lj:=@List.ext_getElem?
abbrev Lk:=@List.any_eq_false
abbrev Ll:=@List.take_append_drop
abbrev Lm:=@List.nodup_nil
abbrev Ln:=@List.mem_range
abbrev Lo:=@Nat.zero_add
abbrev Lp:=@Nat.le_trans
abbrev Lq:=@Nat.eq_zero_or_pos
abbrev Lr:=@List.any_eq_true
abbrev Lt:=@List.all_cons
abbrev Lu:=@List.getD_eq_getElem?_getD
abbrev Lv:=@List.map_nil
abbrev Lw:=@List.map_id
abbrev Lx:=@List.length_filterMap_le
abbrev Ly:=@List.drop_drop
abbrev Lz:=@List.append_assoc
abbrev LA:=@List.getElem?_set
abbrev LB:=@List.headD_cons
abbrev LC:=@List.replicate_succ
abbrev LD:=@List.getElem?_set_self
abbrev LF:=@Bool.and_true
abbrev LG:=@Nat.lt_or_gt_of_ne
abbrev LH:=@List.filterMap_append
abbrev LI:=@Array.getElem?_toList
abbrev LJ:=@List.nodup_append
abbrev LK:=@List.mem_of_mem_take
abbrev LL:=@List.getElem?_of_mem
abbrev LM:=@Nat.add_zero
abbrev LN:=@List.nodup_iff_count
abbrev LP:=@List.size_toArray
abbrev LQ:=@List.filter_eq_self
abbrev LR:=@Nat.add_le_add_left
abbrev LS:=@List.filter_cons
abbrev LU:=@List.getElem?_cons_zero
abbrev LV:=@Nat.sub_zero
abbrev LX:=@List.filter_filter
abbrev LY:=@Nat.min_eq_left
abbrev LZ:=@Array.getElem?_modify
abbrev L0:=@List.getElem?_toArray
abbrev L1:=@List.mem_of_mem_drop
abbrev L2:=@Array.toList_setIfInBounds
abbrev L3:=@List.getElem?_append
abbrev L4:=@Bool.not_eq_true
abbrev L5:=@List.nodup_range
abbrev L6:=@Nat.le_max_right
abbrev L7:=@List.drop_length
abbrev L8:=@List.filterMap_cons
abbrev L9:=@Nat.le_max_left
abbrev Kaa:=@List.length_set
abbrev Kab:=@List.filter_append
abbrev Kac:=@Nat.lt_of_lt_of_le
abbrev Kad:=@Option.toList_some
abbrev Kae:=@Int.le_refl
abbrev Kaf:=@List.take_zero
abbrev Kag:=@List.drop_zero
inductive D where
 | int (k:IntKind) (n:Int)
 | bool (b:Bool)
 | str (s:List UInt8)
 | sl (xs:List D)
 | agg (cs:List D)
def D.cells:D→List D
 | .agg cs=>cs
 | .int k n=>[.int k n]
 | .bool b=>[.bool b]
 | .str s=>[.str s]
 | .sl xs=>[.sl xs]
def D.plain:D→Bool
 | .int _ _=>true
 | .bool _=>true
 | .str _=>true
 | .sl _=>false
 | .agg _=>false
def D.one:D→Bool
 | .int _ _=>true
 | .bool _=>true
 | .str _=>true
 | .sl _=>true
 | .agg _=>false
def Wr (p:D→Bool):List D→Bool
 | []=>true
 | x :: xs=>p x&&Wr p xs
def D.flat (d:D):Bool:=Wr D.plain d.cells
inductive AV where
 | d (x:D)
 | nil
 | nilp
 | nili
 | ptr (id off:Nat)
 | prow (id sz i off:Nat)
 | pim (cs:List D)
 | own (id:Nat)
 | ownv (id off len:Nat)
 | bnil (id e:Nat)
 | bbuf (te:Nat) (l:List UInt8)
 | agg (cs:List AV)
 | tup (vs:List AV)
 | clo (f:Nat) (caps:List AV)
 | junk
inductive Zh where
 | box (cs:List AV)
 | row (sz:Nat) (xs:List D) (ex fz:Bool)
 | tree (sz ns:Nat) (xs:List D) (lk:Option (Option Nat×Nat×Nat))
 | gone
abbrev Hp:=List (Nat×Zh)
abbrev Sl:=List (Nat×AV)
def bnd {α β:Type} (x:Option α) (f:α→Option β):Option β:=match x with
 | some a=>f a
 | none=>none
@[congr] theorem bnd_congr {α β:Type} {x y:Option α} {f:α→Option β} (h:x=y):bnd x f=bnd y f:=by rw[h]
theorem Zc {α β:Type} (a:α) (f:α→Option β):bnd (some a) f=f a:=rfl
theorem Zqf {α β:Type} (f:α→Option β):bnd none f=none:=rfl
theorem ZrB {α β:Type} (c:Prop) [Decidable c] (a b:Option α) (f:α→Option β):bnd (if c then a else b) f=if c then bnd a f else bnd b f:=by split<;>rfl
theorem Za {α β:Type} {x:Option α} {f:α→Option β} {r:β} (h:bnd x f=some r):∃ a,x=some a∧f a=some r:=by
 cases x with
 | none=>cases h
 | some a=>exact⟨a,rfl,h⟩
def lkp {α:Type}:List (Nat×α)→Nat→Option α
 | [],_=>none
 | (k,v) :: r,t=>if k=t then some v else lkp r t
def ins {α:Type}:List (Nat×α)→Nat→α→List (Nat×α)
 | [],t,v=>[(t,v)]
 | (k,v) :: r,t,x=>if k<t then (t,x) :: (k,v) :: r else if k=t then (t,x) :: r else (k,v) :: ins r t x
def UD:Option AV→AV
 | some v=>v
 | none=>.junk
def gs (sl:Sl) (t:Nat):AV:=UD (lkp sl t)
structure St where
 sl:Sl
 hp:Hp
 nx:Nat
 m:Nat
def Zgi:AV→Option D
 | .d x=>if x.one then some x else none
 | _=>none
def Zad:List AV→Option (List D)
 | []=>some []
 | v :: r=>bnd (Zgi v) fun x=>bnd (Zad r) fun ds=>some (x :: ds)
def QU:List AV→Bool
 | []=>true
 | .bbuf _ _ :: _=>false
 | _ :: r=>QU r
def Zjd:AV→Bool
 | .clo _ _=>true
 | _=>false
def Jy:List AV→Bool
 | []=>false
 | v :: r=>Zjd v || Jy r
def Vw (cs:List AV):Option (List D)→AV
 | some ds=>.d (.agg ds)
 | none=>if Jy cs then .junk else .agg cs
def AV.solid:AV→Bool
 | .junk=>false
 | .bbuf _ _=>false
 | .tup _=>false
 | _=>true
def QP:List AV→Bool
 | []=>true
 | v :: r=>v.solid&&QP r
def VT (cs:List AV):AV:=Vw cs (Zad cs)
def AV.cells:AV→List AV
 | .agg cs=>cs
 | .d x=>x.cells.map .d
 | .nil=>[.nil] | .nilp=>[.nilp] | .nili=>[.nili] | .ptr a b=>[.ptr a b] | .prow a b c e=>[.prow a b c e] | .pim cs=>[.pim cs]
 | .own a=>[.own a] | .ownv a b c=>[.ownv a b c] | .bnil a b=>[.bnil a b] | .bbuf a b=>[.bbuf a b] | .tup vs=>[.tup vs] | .clo f c=>[.clo f c] | .junk=>[.junk]
def Vb:Value→AV
 | .bool b=>.d (.bool b)
 | .int k n=>.d (.int k n)
 | .string s=>.d (.str s.data.toList)
 | .slice none 0 0=>.nil
 | .pointer none=>.nilp
 | .nilIface=>.nili
 | _=>.junk
def evC:Value→AV
 | .agg cs=>VT (cs.toList.map Vb)
 | v=>Vb v
def ev (sl:Sl):Operand→AV
 | .tmp t=>gs sl t
 | .const v=>evC v
 | .global _=>.junk
 | .func f=>.clo f []
def Zc0:Value→Option D
 | .bool b=>some (.bool b)
 | .int k n=>some (.int k n)
 | .string s=>some (.str s.data.toList)
 | .slice none 0 0=>some (.sl [])
 | _=>none
def Qb {α β:Type} (f:α→Option β):List α→Option (List β)
 | []=>some []
 | x :: r=>bnd (f x) fun y=>bnd (Qb f r) fun ys=>some (y :: ys)
def evD:Value→Option D
 | .agg cs=>bnd (Qb Zc0 cs.toList) fun ds=>some (.agg ds)
 | v=>Zc0 v
def VU:Option Zh→Option (List D)
 | some (.row _ xs _ _)=>some xs
 | some (.tree _ _ xs none)=>some xs
 | _=>none
def Zcd (hp:Hp):AV→Option D
 | .d x=>some x
 | .nil=>some (.sl [])
 | .own id=>bnd (VU (lkp hp id)) fun xs=>some (.sl xs)
 | .ownv id off n=>bnd (VU (lkp hp id)) fun xs=>some (.sl ((xs.drop off).take n))
 | _=>none
def toD (hp:Hp):AV→Option D
 | .agg cs=>bnd (Qb (Zcd hp) cs) fun ds=>if Wr D.one ds then some (.agg ds) else none
 | v=>Zcd hp v
def Jh:AV→List Nat
 | .own id=>[id]
 | .ownv id _ _=>[id]
 | _=>[]
def Zae:AV→List Nat
 | .agg cs=>cs.flatMap Jh
 | v=>Jh v
def Zf:AV→List Nat
 | .own id=>[id]
 | .ownv id _ _=>[id]
 | .ptr id _=>[id]
 | .prow id _ _ _=>[id]
 | .bnil id _=>[id]
 | .junk | .bbuf _ _ | .d _ | .nil | .nilp | .nili | .pim _ | .agg _ | .tup _ | .clo _ _=>[]
def Zr:AV→List Nat
 | .agg cs=>cs.flatMap Zf
 | .clo _ cs=>cs.flatMap Zf
 | v=>Zf v
def Zo:AV→List Nat
 | .tup vs=>vs.flatMap Zr
 | v=>Zr v
def VV:Zh→List Nat
 | .box cs=>cs.flatMap Zr
 | .row _ _ _ _=>[]
 | .tree _ _ _ _=>[]
 | .gone=>[]
def Zgj:Option (Option Nat×Nat×Nat)→Option (Option Nat×Nat×Nat)
 | some q=>some (none,q.2)
 | none=>none
def Zaf (g:Nat→Nat):AV→AV
 | .own id=>.own (g id)
 | .ownv id a b=>.ownv (g id) a b
 | .ptr id o=>.ptr (g id) o
 | .prow id s i o=>.prow (g id) s i o
 | .bnil id e=>.bnil (g id) e
 | v=>v
def JR (g:Nat→Nat):AV→AV
 | .agg cs=>.agg (cs.map (Zaf g))
 | .clo f cs=>.clo f (cs.map (Zaf g))
 | v=>Zaf g v
def ren (g:Nat→Nat):AV→AV
 | .tup vs=>.tup (vs.map (JR g))
 | v=>JR g v
def Zc1 (g:Nat→Nat):Zh→Zh
 | .box cs=>.box (cs.map (JR g))
 | .row s x e f=>.row s x e f
 | .tree s n x l=>.tree s n x (Zgj l)
 | .gone=>.gone
def ZT (bad:List Nat):AV→AV
 | .own id=>if bad.contains id then .junk else .own id
 | .ownv id a b=>if bad.contains id then .junk else .ownv id a b
 | .ptr id o=>if bad.contains id then .junk else .ptr id o
 | .prow id s i o=>if bad.contains id then .junk else .prow id s i o
 | .bnil id e=>if bad.contains id then .junk else .bnil id e
 | v=>v
def ZF (bad:List Nat):AV→AV
 | .agg cs=>.agg (cs.map (ZT bad))
 | .clo f cs=>.clo f (cs.map (ZT bad))
 | v=>ZT bad v
def kill (bad:List Nat):AV→AV
 | .tup vs=>.tup (vs.map (ZF bad))
 | v=>ZF bad v
def YC (bad:List Nat):Option (Option Nat×Nat×Nat)→Option (Option Nat×Nat×Nat)
 | some (some nm,q)=>if bad.contains nm then some (none,q) else some (some nm,q)
 | l=>l
def QF (bad:List Nat):Zh→Zh
 | .box cs=>.box (cs.map (ZF bad))
 | .row s x e f=>.row s x e f
 | .tree s n x l=>.tree s n x (YC bad l)
 | .gone=>.gone
def Zee {α β:Type} (f:α→β):List (Nat×α)→List (Nat×β)
 | []=>[]
 | (k,v) :: r=>(k,f v) :: Zee f r
def XW:Zh→Zh
 | .row s x e _=>.row s x e true
 | .tree s n x l=>.tree s n x l
 | o=>o
def freeze (ids:List Nat):Hp→Hp
 | []=>[]
 | (k,o) :: r=>(k,if ids.contains k then XW o else o) :: freeze ids r
def Zc2:Option Zh→Option (List D×Bool)
 | some (.row _ xs ex _)=>some (xs,ex)
 | _=>none
def Uj (hp:Hp):AV→Option (D×Bool×List Nat)
 | .d x=>some (x,x.flat,[])
 | .nil=>some (.sl [],true,[])
 | .own id=>bnd (Zc2 (lkp hp id)) fun q=>some (.sl q.1,q.2,[id])
 | _=>none
def Yo (hp:Hp):List AV→Option (List D×Bool×List Nat)
 | []=>some ([],true,[])
 | v :: r=>bnd (Uj hp v) fun q=>bnd (Yo hp r) fun p=>
   if q.1.one&&!q.2.2.any p.2.2.contains then some (q.1 :: p.1,q.2.1&&p.2.1,q.2.2++p.2.2) else none
def give (hp:Hp):AV→Option (D×Bool×List Nat)
 | .agg cs=>bnd (Yo hp cs) fun p=>some (.agg p.1,p.2.1,p.2.2)
 | v=>Uj hp v
def Y2 (hp:Hp):List AV→Option (List D×Bool×List Nat)
 | []=>some ([],true,[])
 | v :: r=>bnd (give hp v) fun q=>bnd (Y2 hp r) fun p=>
   if !q.2.2.any p.2.2.contains then some (q.1 :: p.1,q.2.1&&p.2.1,q.2.2++p.2.2) else none
def Zn {α:Type} (cs:List α) (off:Nat) (vs:List α):List α:=cs.take off++vs++cs.drop (off+vs.length)
def Yp (x:D) (off:Nat) (ds:List D):D:=match x with
 | .agg cs=>.agg (Zn cs off ds)
 | _=>ds.headD x
def Vg (op:BinOp) (k:IntKind) (a b:Int):Option D:=
 match op with
 | .add=>some (.int k (k.wrap (a+b)))
 | .sub=>some (.int k (k.wrap (a-b)))
 | .mul=>some (.int k (k.wrap (a*b)))
 | .quo=>if b=0 then none else some (.int k (k.wrap (a.tdiv b)))
 | .rem=>if b=0 then none else some (.int k (a.tmod b))
 | .and=>some (.int k (k.wrap (BitVec.ofInt k.bits a &&& BitVec.ofInt k.bits b).toNat))
 | .or=>some (.int k (k.wrap (BitVec.ofInt k.bits a ||| BitVec.ofInt k.bits b).toNat))
 | .xor=>some (.int k (k.wrap (BitVec.ofInt k.bits a ^^^ BitVec.ofInt k.bits b).toNat))
 | .andNot=>some (.int k (k.wrap (BitVec.ofInt k.bits a &&& ~~~(BitVec.ofInt k.bits b)).toNat))
 | .eql=>some (.bool (a==b))
 | .neq=>some (.bool (a != b))
 | .lss=>some (.bool (decide (a<b)))
 | .leq=>some (.bool (decide (a≤b)))
 | .gtr=>some (.bool (decide (a>b)))
 | .geq=>some (.bool (decide (a≥b)))
 | .shl | .shr=>none
def Zef (op:BinOp) (k:IntKind) (a b:Int):Option D:=
 if b<0 then none else
 match op with
 | .shl=>some (.int k (k.wrap (a*2 ^ (min b.toNat k.bits))))
 | .shr=>some (.int k (a.fdiv (2 ^ (min b.toNat k.bits))))
 | _=>none
def ZmU:Nat:=1152921504606846976
def Zlq (op:BinOp) (a b:List UInt8):Option D:=
 match op with
 | .add=>if a.length+b.length≤ZmU then some (.str (a++b)) else none
 | .eql=>some (.bool (a==b))
 | .neq=>some (.bool (!(a==b)))
 | _=>none
def D.beq1:D→D→Option Bool
 | .int _ a,.int _ b=>some (a==b)
 | .bool a,.bool b=>some (a==b)
 | .str a,.str b=>some (a==b)
 | _,_=>none
def beqL:List D→List D→Option Bool
 | [],[]=>some true
 | x :: xs,y :: ys=>bnd (D.beq1 x y) fun a=>bnd (beqL xs ys) fun b=>some (a&&b)
 | _,_=>none
def agg2 (op:BinOp) (r:Option Bool):Option AV:=match op with
 | .eql=>bnd r fun r=>some (.d (.bool r))
 | .neq=>bnd r fun r=>some (.d (.bool (!r)))
 | _=>none
def asD (r:Option D):Option AV:=bnd r fun x=>some (.d x)
def VX (op:BinOp) (k k' : IntKind) (a b:Int):Option AV:=match op with
 | .shl | .shr=>asD (Zef op k a b)
 | _=>if k=k' then asD (Vg op k a b) else none
def Zje (op:BinOp) (a b:Bool):Option AV:=match op with
 | .eql=>some (.d (.bool (a==b)))
 | .neq=>some (.d (.bool (!(a==b))))
 | _=>none
def vbin (op:BinOp):AV→AV→Option AV
 | .d (.int k a),.d (.int k' b)=>VX op k k' a b
 | .d (.str a),.d (.str b)=>asD (Zlq op a b)
 | _,_=>none
def neg1 (op:UnOp) (k:IntKind) (a:Int):Option AV:=match op with
 | .neg=>some (.d (.int k (k.wrap (0-a))))
 | _=>none
def not1 (op:UnOp) (a:Bool):Option AV:=match op with
 | .not=>some (.d (.bool (!a)))
 | _=>none
def vun (op:UnOp):AV→Option AV
 | .d (.int k a)=>neg1 op k a
 | .d (.bool a)=>not1 op a
 | _=>none
def Zgk:Option Zh→Option (List D)
 | some (.row _ xs _ _)=>some xs
 | some (.tree _ _ xs _)=>some xs
 | _=>none
def Jz (hp:Hp):AV→Option Nat
 | .d (.sl xs)=>some xs.length
 | .nil=>some 0
 | .own id=>bnd (Zgk (lkp hp id)) fun xs=>some xs.length
 | .ownv _ _ n=>some n
 | _=>none
def Zo2:AV→Option Nat
 | .d (.str s)=>some s.length
 | _=>none
def minI (a b:Int):Int:=if b<a then b else a
def maxI (a b:Int):Int:=if b>a then b else a
end Go.Abs
