/- Own text. -/
import Derived.Orders
import Derived.Laws.AppendOwn
set_option linter.unusedVariables false
set_option linter.unusedSimpArgs false
namespace Go.Abs
open Go
abbrev Ka:=@Bool.false_eq_true
abbrev Kb:=@List.getElem?_eq_some_iff
abbrev Kc:=@List.mem_of_getElem?
abbrev Kd:=@if_neg
abbrev Ke:=@Bool.and_eq_true
abbrev Kf:=@List.mem_cons
abbrev Kg:=@List.mem_append
abbrev Kh:=@decide_eq_true
abbrev Ki:=@if_pos
abbrev Kj:=@List.map_cons
abbrev Kk:=@decide_eq_false
abbrev Kl:=@List.length_filterMap_le
abbrev Km:=@if_true
abbrev Kn:=@decide_eq_true_eq
abbrev Ko:=@if_false
abbrev Kp:=@List.eq_nil_of_length_eq_zero
abbrev Kq:=@List.getElem?_eq_getElem
abbrev Kr:=@Nat.le_refl
abbrev Ks:=@List.length_cons
abbrev Kt:=@List.length_append
abbrev Ku:=@List.map_nil
abbrev Kv:=@List.mem_flatMap
abbrev Kw:=@List.drop_eq_getElem_cons
abbrev Kx:=@Nat.le_trans
abbrev Ky:=@List.not_mem_nil
abbrev Kz:=@List.mem_cons_of_mem
abbrev KA:=@List.mem_singleton
abbrev KB:=@Nat.mul_le_mul_right
abbrev KC:=@Nat.ne_of_gt
abbrev KD:=@Int.toNat_natCast
abbrev KE:=@Nat.add_mul
abbrev KF:=@List.cons_append
abbrev KG:=@List.flatMap_cons
abbrev KH:=@List.take_of_length_le
abbrev KI:=@Option.bind_some
abbrev KJ:=@Option.map_some
abbrev KK:=@List.flatten_cons
abbrev KL:=@List.length_map
abbrev KM:=@List.length_nil
abbrev KN:=@Array.getElem?_eq_some_iff
abbrev KO:=@List.map_congr_left
abbrev KP:=@List.all_eq_true
abbrev KQ:=@List.contains_eq_mem
abbrev KR:=@List.getElem?_eq_none
abbrev KS:=@List.getElem?_map
abbrev KT:=@Nat.lt_or_ge
abbrev KU:=@List.take_add_one
abbrev KV:=@List.getElem?_of_mem
abbrev KW:=@Bool.not_eq_true'
abbrev KX:=@List.mem_cons_self
abbrev KY:=@decide_eq_false_iff_not
abbrev KZ:=@Option.bind_eq_some_iff
abbrev K0:=@List.mem_of_mem_take
abbrev K1:=@Option.isSome_iff_exists
abbrev K2:=@Nat.zero_add
abbrev K3:=@List.getElem?_append_right
abbrev K4:=@List.getElem?_append_left
abbrev K5:=@List.mem_map
abbrev K6:=@List.filterMap_cons
abbrev K7:=@List.getElem?_take
abbrev K8:=@List.append_nil
abbrev K9:=@List.map_append
abbrev La:=@List.take_length
abbrev Lc:=@List.append_assoc
abbrev Ld:=@List.mem_range
abbrev Le:=@Bool.or_eq_true
abbrev Lf:=@List.getElem?_drop
abbrev Lg:=@List.mem_filterMap
abbrev Lh:=@Option.isSome_none
abbrev Li:=@List.getElem?_append
abbrev Lj:=@List.length_take
abbrev Lk:=@List.getElem?_cons_zero
abbrev Ll:=@List.getElem?_cons_succ
abbrev Lm:=@List.all_cons
abbrev Ln:=@Nat.add_assoc
abbrev Lo:=@List.take_succ_eq_append_getElem
abbrev Lp:=@Array.length_toList
abbrev Lq:=@List.map_id
abbrev Lr:=@List.takeWhile_append_dropWhile
abbrev Ls:=@List.filterMap_append
abbrev Lt:=@List.size_toArray
abbrev Lu:=@List.nil_append
abbrev Lv:=@List.length_drop
abbrev Lw:=@Nat.lt_or_gt_of_ne
abbrev Lx:=@Option.isSome_some
abbrev Ly:=@Array.getElem?_toList
abbrev Lz:=@List.ext_getElem?
abbrev LA:=@List.mem_of_mem_drop
abbrev LB:=@List.pairwise_append
abbrev LC:=@List.getElem?_set
abbrev LD:=@List.mem_of_mem_eraseIdx
abbrev LE:=@List.eq_of_mem_replicate
abbrev LF:=@Int.toNat_of_nonneg
abbrev LG:=@List.take_succ_cons
abbrev LH:=@Bool.not_eq_true
abbrev LI:=@Option.bind_none
abbrev LJ:=@Nat.zero_le
abbrev LK:=@List.pairwise_cons
abbrev LL:=@List.append_eq_nil_iff
abbrev LM:=@Nat.lt_of_lt_of_le
abbrev LN:=@Bool.decide_and
abbrev LP:=@Bool.and_true
abbrev LQ:=@List.take_append_drop
abbrev LR:=@Int.mul_nonneg
abbrev LS:=@Int.mul_le_mul
abbrev LT:=@Bool.or_eq_false_iff
abbrev LU:=@List.eraseIdx_of_length_le
abbrev LV:=@Bool.decide_or
abbrev LX:=@List.any_eq_true
abbrev LY:=@Nat.sub_zero
abbrev LZ:=@Nat.le_max_right
abbrev L0:=@List.map_set
abbrev L1:=@List.mem_map_of_mem
abbrev L2:=@List.flatten_append
abbrev L3:=@List.nodup_cons
abbrev L4:=@Nat.le_max_left
abbrev L5:=@Bool.true_eq_false
abbrev L6:=@Option.toList_some
inductive D where
 | int (k:IntKind) (n:Int)
 | bool (b:Bool)
 | str (s:List UInt8)
 | sl (xs:List D)
 | agg (cs:List D)
def D.cells:D→List D
 | .agg cs=>cs
 | .int k n=>[.int k n]
 | .bool b=>[.bool b]
 | .str s=>[.str s]
 | .sl xs=>[.sl xs]
def D.plain:D→Bool
 | .int _ _=>true
 | .bool _=>true
 | .str _=>true
 | .sl _=>false
 | .agg _=>false
def D.one:D→Bool
 | .int _ _=>true
 | .bool _=>true
 | .str _=>true
 | .sl _=>true
 | .agg _=>false
def Zbw (p:D→Bool):List D→Bool
 | []=>true
 | x :: xs=>p x&&Zbw p xs
def D.flat (d:D):Bool:=Zbw D.plain d.cells
inductive AV where
 | d (x:D)
 | nil
 | nilp
 | nili
 | ptr (id off:Nat)
 | prow (id sz i off:Nat)
 | pim (cs:List D)
 | own (id:Nat)
 | ownv (id off len:Nat)
 | sub (id nm:Nat)
 | bnil (id e:Nat)
 | bbuf (te:Nat) (l:List UInt8)
 | agg (cs:List AV)
 | tup (vs:List AV)
 | clo (f:Nat) (caps:List AV)
 | junk
inductive Zl where
 | box (cs:List AV)
 | row (sz:Nat) (xs:List D) (ex fz:Bool)
 | deep (sz ns:Nat) (xs:List D) (lk:Option (Nat×Nat×Nat))
abbrev Hp:=List (Nat×Zl)
abbrev Sl:=List (Nat×AV)
def bnd {α β:Type} (x:Option α) (f:α→Option β):Option β:=match x with
 | some a=>f a
 | none=>none
@[congr] theorem bnd_congr {α β:Type} {x y:Option α} {f:α→Option β} (h:x=y):bnd x f=bnd y f:=by rw[h]
theorem Zg {α β:Type} (a:α) (f:α→Option β):bnd (some a) f=f a:=rfl
theorem Zza {α β:Type} (f:α→Option β):bnd none f=none:=rfl
theorem ZAG {α β:Type} (c:Prop) [Decidable c] (a b:Option α) (f:α→Option β):bnd (if c then a else b) f=if c then bnd a f else bnd b f:=by split<;>rfl
theorem Za {α β:Type} {x:Option α} {f:α→Option β} {r:β} (h:bnd x f=some r):∃ a,x=some a∧f a=some r:=by
 cases x with
 | none=>cases h
 | some a=>exact⟨a,rfl,h⟩
def lkp {α:Type}:List (Nat×α)→Nat→Option α
 | [],_=>none
 | (k,v) :: r,t=>if k=t then some v else lkp r t
def ins {α:Type}:List (Nat×α)→Nat→α→List (Nat×α)
 | [],t,v=>[(t,v)]
 | (k,v) :: r,t,x=>if k<t then (t,x) :: (k,v) :: r else if k=t then (t,x) :: r else (k,v) :: ins r t x
def ZdB:Option AV→AV
 | some v=>v
 | none=>.junk
def gs (sl:Sl) (t:Nat):AV:=ZdB (lkp sl t)
structure St where
 sl:Sl
 hp:Hp
 nx:Nat
 m:Nat
def Znx:AV→Option D
 | .d x=>if x.one then some x else none
 | _=>none
def ZeX:List AV→Option (List D)
 | []=>some []
 | v :: r=>bnd (Znx v) fun x=>bnd (ZeX r) fun ds=>some (x :: ds)
def XU:List AV→Bool
 | []=>true
 | .bbuf _ _ :: _=>false
 | _ :: r=>XU r
def Zrm:AV→Bool
 | .clo _ _=>true
 | _=>false
def ZeY:List AV→Bool
 | []=>false
 | v :: r=>Zrm v || ZeY r
def UV (cs:List AV):Option (List D)→AV
 | some ds=>.d (.agg ds)
 | none=>if ZeY cs then .junk else .agg cs
def AV.solid:AV→Bool
 | .junk=>false
 | .bbuf _ _=>false
 | .tup _=>false
 | _=>true
def Ye:List AV→Bool
 | []=>true
 | v :: r=>v.solid&&Ye r
def Jw (cs:List AV):AV:=UV cs (ZeX cs)
def AV.cells:AV→List AV
 | .agg cs=>cs
 | .d x=>x.cells.map .d
 | .nil=>[.nil] | .nilp=>[.nilp] | .nili=>[.nili] | .ptr a b=>[.ptr a b] | .prow a b c e=>[.prow a b c e] | .pim cs=>[.pim cs]
 | .own a=>[.own a] | .ownv a b c=>[.ownv a b c] | .sub a b=>[.sub a b] | .bnil a b=>[.bnil a b] | .bbuf a b=>[.bbuf a b] | .tup vs=>[.tup vs] | .clo f c=>[.clo f c] | .junk=>[.junk]
def Un:Value→AV
 | .bool b=>.d (.bool b)
 | .int k n=>.d (.int k n)
 | .string s=>.d (.str s.data.toList)
 | .slice none 0 0=>.nil
 | .pointer none=>.nilp
 | .nilIface=>.nili
 | _=>.junk
def evC:Value→AV
 | .agg cs=>Jw (cs.toList.map Un)
 | v=>Un v
def ev (sl:Sl):Operand→AV
 | .tmp t=>gs sl t
 | .const v=>evC v
 | .global _=>.junk
 | .func f=>.clo f []
def Zt1:Value→Option D
 | .bool b=>some (.bool b)
 | .int k n=>some (.int k n)
 | .string s=>some (.str s.data.toList)
 | .slice none 0 0=>some (.sl [])
 | _=>none
def QF {α β:Type} (f:α→Option β):List α→Option (List β)
 | []=>some []
 | x :: r=>bnd (f x) fun y=>bnd (QF f r) fun ys=>some (y :: ys)
def evD:Value→Option D
 | .agg cs=>bnd (QF Zt1 cs.toList) fun ds=>some (.agg ds)
 | v=>Zt1 v
def Jx:Option Zl→Option (List D)
 | some (.row _ xs _ _)=>some xs
 | some (.deep _ _ xs _)=>some xs
 | _=>none
def ZhX (hp:Hp):AV→Option D
 | .d x=>some x
 | .nil=>some (.sl [])
 | .own id=>bnd (Jx (lkp hp id)) fun xs=>some (.sl xs)
 | .ownv id off n=>bnd (Jx (lkp hp id)) fun xs=>some (.sl ((xs.drop off).take n))
 | _=>none
def toD (hp:Hp):AV→Option D
 | .agg cs=>bnd (QF (ZhX hp) cs) fun ds=>if Zbw D.one ds then some (.agg ds) else none
 | v=>ZhX hp v
def ZbO:AV→List Nat
 | .own id=>[id]
 | .ownv id _ _=>[id]
 | _=>[]
def ZeZ:AV→List Nat
 | .agg cs=>cs.flatMap ZbO
 | v=>ZbO v
def Zm:AV→List Nat
 | .own id=>[id]
 | .ownv id _ _=>[id]
 | .ptr id _=>[id]
 | .prow id _ _ _=>[id]
 | .sub id nm=>[id,nm]
 | .bnil id _=>[id]
 | .junk | .bbuf _ _ | .d _ | .nil | .nilp | .nili | .pim _ | .agg _ | .tup _ | .clo _ _=>[]
def ZC:AV→List Nat
 | .agg cs=>cs.flatMap Zm
 | .clo _ cs=>cs.flatMap Zm
 | v=>Zm v
def ZB:AV→List Nat
 | .tup vs=>vs.flatMap ZC
 | v=>ZC v
def Zbe:Zl→List Nat
 | .box cs=>cs.flatMap ZC
 | .row _ _ _ _=>[]
 | .deep _ _ _ _=>[]
def Zee (g:Nat→Nat):AV→AV
 | .own id=>.own (g id)
 | .ownv id a b=>.ownv (g id) a b
 | .ptr id o=>.ptr (g id) o
 | .prow id s i o=>.prow (g id) s i o
 | .sub id nm=>.sub (g id) (g nm)
 | .bnil id e=>.bnil (g id) e
 | v=>v
def Zef (g:Nat→Nat):AV→AV
 | .agg cs=>.agg (cs.map (Zee g))
 | .clo f cs=>.clo f (cs.map (Zee g))
 | v=>Zee g v
def ren (g:Nat→Nat):AV→AV
 | .tup vs=>.tup (vs.map (Zef g))
 | v=>Zef g v
def Zmi (g:Nat→Nat):Zl→Zl
 | .box cs=>.box (cs.map (Zef g))
 | .row s x e f=>.row s x e f
 | .deep s n x _=>.deep s n x none
def Qa (bad:List Nat):AV→AV
 | .own id=>if bad.contains id then .junk else .own id
 | .ownv id a b=>if bad.contains id then .junk else .ownv id a b
 | .ptr id o=>if bad.contains id then .junk else .ptr id o
 | .prow id s i o=>if bad.contains id then .junk else .prow id s i o
 | .sub id nm=>if bad.contains id || bad.contains nm then .junk else .sub id nm
 | .bnil id e=>if bad.contains id then .junk else .bnil id e
 | v=>v
def ZT (bad:List Nat):AV→AV
 | .agg cs=>.agg (cs.map (Qa bad))
 | .clo f cs=>.clo f (cs.map (Qa bad))
 | v=>Qa bad v
def kill (bad:List Nat):AV→AV
 | .tup vs=>.tup (vs.map (ZT bad))
 | v=>ZT bad v
def Zgl (bad:List Nat):Option (Nat×Nat×Nat)→Option (Nat×Nat×Nat)
 | some q=>if bad.contains q.1 then none else some q
 | none=>none
def XV (bad:List Nat):Zl→Zl
 | .box cs=>.box (cs.map (ZT bad))
 | .row s x e f=>.row s x e f
 | .deep s n x l=>.deep s n x (Zgl bad l)
def ZhY {α β:Type} (f:α→β):List (Nat×α)→List (Nat×β)
 | []=>[]
 | (k,v) :: r=>(k,f v) :: ZhY f r
def VD:Zl→Zl
 | .row s x e _=>.row s x e true
 | .deep s n x l=>.deep s n x l
 | o=>o
def freeze (ids:List Nat):Hp→Hp
 | []=>[]
 | (k,o) :: r=>(k,if ids.contains k then VD o else o) :: freeze ids r
def Zja:Option Zl→Option (List D×Bool)
 | some (.row _ xs ex _)=>some (xs,ex)
 | _=>none
def ZbP (hp:Hp):AV→Option (D×Bool×List Nat)
 | .d x=>some (x,x.flat,[])
 | .nil=>some (.sl [],true,[])
 | .own id=>bnd (Zja (lkp hp id)) fun q=>some (.sl q.1,q.2,[id])
 | _=>none
def Wp (hp:Hp):List AV→Option (List D×Bool×List Nat)
 | []=>some ([],true,[])
 | v :: r=>bnd (ZbP hp v) fun q=>bnd (Wp hp r) fun p=>
   if q.1.one&&!q.2.2.any p.2.2.contains then some (q.1 :: p.1,q.2.1&&p.2.1,q.2.2++p.2.2) else none
def give (hp:Hp):AV→Option (D×Bool×List Nat)
 | .agg cs=>bnd (Wp hp cs) fun p=>some (.agg p.1,p.2.1,p.2.2)
 | v=>ZbP hp v
def WZ (hp:Hp):List AV→Option (List D×Bool×List Nat)
 | []=>some ([],true,[])
 | v :: r=>bnd (give hp v) fun q=>bnd (WZ hp r) fun p=>
   if !q.2.2.any p.2.2.contains then some (q.1 :: p.1,q.2.1&&p.2.1,q.2.2++p.2.2) else none
def Z9 {α:Type} (cs:List α) (off:Nat) (vs:List α):List α:=cs.take off++vs++cs.drop (off+vs.length)
def Ze0 (x:D) (off:Nat) (ds:List D):D:=match x with
 | .agg cs=>.agg (Z9 cs off ds)
 | _=>ds.headD x
def Uu (op:BinOp) (k:IntKind) (a b:Int):Option D:=
 match op with
 | .add=>some (.int k (k.wrap (a+b)))
 | .sub=>some (.int k (k.wrap (a-b)))
 | .mul=>some (.int k (k.wrap (a*b)))
 | .quo=>if b=0 then none else some (.int k (k.wrap (a.tdiv b)))
 | .rem=>if b=0 then none else some (.int k (a.tmod b))
 | .and=>some (.int k (k.wrap (BitVec.ofInt k.bits a &&& BitVec.ofInt k.bits b).toNat))
 | .or=>some (.int k (k.wrap (BitVec.ofInt k.bits a ||| BitVec.ofInt k.bits b).toNat))
 | .xor=>some (.int k (k.wrap (BitVec.ofInt k.bits a ^^^ BitVec.ofInt k.bits b).toNat))
 | .andNot=>some (.int k (k.wrap (BitVec.ofInt k.bits a &&& ~~~(BitVec.ofInt k.bits b)).toNat))
 | .eql=>some (.bool (a==b))
 | .neq=>some (.bool (a != b))
 | .lss=>some (.bool (decide (a<b)))
 | .leq=>some (.bool (decide (a≤b)))
 | .gtr=>some (.bool (decide (a>b)))
 | .geq=>some (.bool (decide (a≥b)))
 | .shl | .shr=>none
def Zkp (op:BinOp) (k:IntKind) (a b:Int):Option D:=
 if b<0 then none else
 match op with
 | .shl=>some (.int k (k.wrap (a*2 ^ (min b.toNat k.bits))))
 | .shr=>some (.int k (a.fdiv (2 ^ (min b.toNat k.bits))))
 | _=>none
def ZvK:Nat:=1152921504606846976
def Zt2 (op:BinOp) (a b:List UInt8):Option D:=
 match op with
 | .add=>if a.length+b.length≤ZvK then some (.str (a++b)) else none
 | .eql=>some (.bool (a==b))
 | .neq=>some (.bool (!(a==b)))
 | _=>none
def D.beq1:D→D→Option Bool
 | .int _ a,.int _ b=>some (a==b)
 | .bool a,.bool b=>some (a==b)
 | .str a,.str b=>some (a==b)
 | _,_=>none
def beqL:List D→List D→Option Bool
 | [],[]=>some true
 | x :: xs,y :: ys=>bnd (D.beq1 x y) fun a=>bnd (beqL xs ys) fun b=>some (a&&b)
 | _,_=>none
def agg2 (op:BinOp) (r:Option Bool):Option AV:=match op with
 | .eql=>bnd r fun r=>some (.d (.bool r))
 | .neq=>bnd r fun r=>some (.d (.bool (!r)))
 | _=>none
def asD (r:Option D):Option AV:=bnd r fun x=>some (.d x)
def Jy (op:BinOp) (k k' : IntKind) (a b:Int):Option AV:=match op with
 | .shl | .shr=>asD (Zkp op k a b)
 | _=>if k=k' then asD (Uu op k a b) else none
def Zrn (op:BinOp) (a b:Bool):Option AV:=match op with
 | .eql=>some (.d (.bool (a==b)))
 | .neq=>some (.d (.bool (!(a==b))))
 | _=>none
def vbin (op:BinOp):AV→AV→Option AV
 | .d (.int k a),.d (.int k' b)=>Jy op k k' a b
 | .d (.str a),.d (.str b)=>asD (Zt2 op a b)
 | _,_=>none
def neg1 (op:UnOp) (k:IntKind) (a:Int):Option AV:=match op with
 | .neg=>some (.d (.int k (k.wrap (0-a))))
 | _=>none
def not1 (op:UnOp) (a:Bool):Option AV:=match op with
 | .not=>some (.d (.bool (!a)))
 | _=>none
def vun (op:UnOp):AV→Option AV
 | .d (.int k a)=>neg1 op k a
 | .d (.bool a)=>not1 op a
 | _=>none
def ZdC (hp:Hp):AV→Option Nat
 | .d (.sl xs)=>some xs.length
 | .nil=>some 0
 | .own id=>bnd (Jx (lkp hp id)) fun xs=>some xs.length
 | .ownv _ _ n=>some n
 | _=>none
def ZxV:AV→Option Nat
 | .d (.str s)=>some s.length
 | _=>none
def minI (a b:Int):Int:=if b<a then b else a
def maxI (a b:Int):Int:=if b>a then b else a
end Go.Abs
