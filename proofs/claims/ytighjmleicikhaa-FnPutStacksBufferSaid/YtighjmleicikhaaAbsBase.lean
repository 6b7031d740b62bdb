/- Own text. -/
import Derived.Orders
import Derived.Laws.AppendOwn
set_option linter.unusedVariables false
set_option linter.unusedSimpArgs false
namespace Go.Abs
open Go
abbrev Ka:=@Bool.false_eq_true
abbrev Kb:=@List.getElem?_eq_some_iff
abbrev Kc:=@Bool.and_eq_true
abbrev Kd:=@List.mem_append
abbrev Ke:=@List.mem_cons
abbrev Kf:=@List.eq_nil_of_length_eq_zero
abbrev Kg:=@Nat.le_refl
abbrev Kh:=@if_false
abbrev Ki:=@if_true
abbrev Kj:=@List.getElem?_eq_getElem
abbrev Kk:=@List.mem_flatMap
abbrev Kl:=@List.mem_of_getElem?
abbrev Km:=@List.mem_cons_of_mem
abbrev Kn:=@if_neg
abbrev Ko:=@List.length_append
abbrev Kp:=@Nat.ne_of_gt
abbrev Kq:=@List.getElem?_append_left
abbrev Kr:=@decide_eq_false
abbrev Ks:=@Array.getElem?_eq_some_iff
abbrev Kt:=@List.getElem?_append_right
abbrev Ku:=@decide_eq_true
abbrev Kv:=@List.length_cons
abbrev Kw:=@if_pos
abbrev Kx:=@Nat.mul_le_mul_right
abbrev Ky:=@List.map_cons
abbrev Kz:=@List.flatMap_cons
abbrev KA:=@Nat.add_mul
abbrev KB:=@decide_eq_true_eq
abbrev KC:=@Nat.add_assoc
abbrev KD:=@List.take_add_one
abbrev KE:=@List.map_congr_left
abbrev KF:=@List.all_eq_true
abbrev KG:=@List.contains_eq_mem
abbrev KH:=@List.getElem?_eq_none
abbrev KI:=@List.getElem?_set_ne
abbrev KJ:=@Bool.not_eq_true'
abbrev KK:=@Option.map_some
abbrev KL:=@List.count_pos_iff
abbrev KM:=@List.length_drop
abbrev KN:=@Nat.lt_or_ge
abbrev KO:=@Nat.zero_add
abbrev KP:=@decide_eq_false_iff_not
abbrev KQ:=@List.length_take
abbrev KR:=@List.append_assoc
abbrev KS:=@List.flatten_cons
abbrev KT:=@Option.isSome_iff_exists
abbrev KU:=@List.getElem?_take
abbrev KV:=@List.mem_singleton
abbrev KW:=@List.nil_append
abbrev KX:=@List.cons_append
abbrev KY:=@List.getD_eq_getElem?_getD
abbrev KZ:=@List.getElem?_of_mem
abbrev K0:=@List.mem_cons_self
abbrev K1:=@List.getElem?_drop
abbrev K2:=@List.nodup_cons
abbrev K3:=@List.map_append
abbrev K4:=@Array.length_toList
abbrev K5:=@Nat.add_sub_cancel_left
abbrev K6:=@List.getElem?_cons_succ
abbrev K7:=@List.mem_range
abbrev K8:=@Nat.eq_zero_or_pos
abbrev K9:=@List.mem_map
abbrev La:=@List.take_of_length_le
abbrev Lb:=@List.drop_eq_getElem_cons
abbrev Lc:=@List.flatten_append
abbrev Ld:=@List.ext_getElem?
abbrev Le:=@List.nodup_nil
abbrev Lf:=@List.length_map
abbrev Lg:=@List.headD_cons
abbrev Lh:=@List.getElem?_cons_zero
abbrev Li:=@List.all_cons
abbrev Lj:=@List.getElem?_map
abbrev Lk:=@List.map_id
abbrev Ll:=@Bool.or_eq_true
abbrev Lm:=@List.length_nil
abbrev Ln:=@Array.getElem?_modify
abbrev Lo:=@List.take_append_drop
abbrev Lp:=@List.take_length
abbrev Lq:=@Nat.add_zero
abbrev Lr:=@List.pairwise_append
abbrev Ls:=@List.take_zero
abbrev Lt:=@List.nodup_append
abbrev Lu:=@List.getElem?_set_self
abbrev Lv:=@Nat.lt_or_gt_of_ne
abbrev Lw:=@List.filterMap_append
abbrev Lx:=@Array.getElem?_toList
abbrev Ly:=@Nat.le_trans
abbrev Lz:=@List.nodup_iff_count
abbrev LA:=@List.size_toArray
abbrev LB:=@List.replicate_succ
abbrev LC:=@Nat.add_le_add_left
abbrev LD:=@List.any_eq_true
abbrev LF:=@Nat.sub_zero
abbrev LG:=@List.pairwise_cons
abbrev LH:=@List.map_nil
abbrev LI:=@List.append_nil
abbrev LJ:=@List.getElem?_toArray
abbrev LK:=@Array.toList_setIfInBounds
abbrev LM:=@List.getElem?_append
abbrev LN:=@List.not_mem_nil
abbrev LP:=@List.nodup_range
abbrev LQ:=@Nat.le_max_right
abbrev LR:=@Option.getD_some
abbrev LS:=@List.getElem?_range
abbrev LU:=@List.filterMap_cons
abbrev LV:=@Bool.and_true
abbrev LX:=@Nat.le_max_left
abbrev LY:=@Nat.lt_of_lt_of_le
abbrev LZ:=@List.map_set
inductive D where
 | int (k:IntKind) (n:Int)
 | bool (b:Bool)
 | str (s:List UInt8)
 | sl (xs:List D)
 | agg (cs:List D)
def D.cells:D→List D
 | .agg cs=>cs
 | .int k n=>[.int k n]
 | .bool b=>[.bool b]
 | .str s=>[.str s]
 | .sl xs=>[.sl xs]
def D.plain:D→Bool
 | .int _ _=>true
 | .bool _=>true
 | .str _=>true
 | .sl _=>false
 | .agg _=>false
def D.one:D→Bool
 | .int _ _=>true
 | .bool _=>true
 | .str _=>true
 | .sl _=>true
 | .agg _=>false
def V4 (p:D→Bool):List D→Bool
 | []=>true
 | x :: xs=>p x&&V4 p xs
def D.flat (d:D):Bool:=V4 D.plain d.cells
inductive AV where
 | d (x:D)
 | nil
 | nilp
 | nili
 | ptr (id off:Nat)
 | prow (id sz i off:Nat)
 | pim (cs:List D)
 | own (id:Nat)
 | ownv (id off len:Nat)
 | bnil (id e:Nat)
 | bbuf (te:Nat) (l:List UInt8)
 | agg (cs:List AV)
 | tup (vs:List AV)
 | clo (f:Nat) (caps:List AV)
 | junk
inductive Zg where
 | box (cs:List AV)
 | row (sz:Nat) (xs:List D) (ex fz:Bool)
 | tree (sz ns:Nat) (xs:List D) (lk:Option (Option Nat×Nat×Nat))
 | gone
abbrev Hp:=List (Nat×Zg)
abbrev Sl:=List (Nat×AV)
def bnd {α β:Type} (x:Option α) (f:α→Option β):Option β:=match x with
 | some a=>f a
 | none=>none
@[congr] theorem bnd_congr {α β:Type} {x y:Option α} {f:α→Option β} (h:x=y):bnd x f=bnd y f:=by rw[h]
theorem Zc {α β:Type} (a:α) (f:α→Option β):bnd (some a) f=f a:=rfl
theorem Zmh {α β:Type} (f:α→Option β):bnd none f=none:=rfl
theorem Znq {α β:Type} (c:Prop) [Decidable c] (a b:Option α) (f:α→Option β):bnd (if c then a else b) f=if c then bnd a f else bnd b f:=by split<;>rfl
theorem Za {α β:Type} {x:Option α} {f:α→Option β} {r:β} (h:bnd x f=some r):∃ a,x=some a∧f a=some r:=by
 cases x with
 | none=>cases h
 | some a=>exact⟨a,rfl,h⟩
def lkp {α:Type}:List (Nat×α)→Nat→Option α
 | [],_=>none
 | (k,v) :: r,t=>if k=t then some v else lkp r t
def ins {α:Type}:List (Nat×α)→Nat→α→List (Nat×α)
 | [],t,v=>[(t,v)]
 | (k,v) :: r,t,x=>if k<t then (t,x) :: (k,v) :: r else if k=t then (t,x) :: r else (k,v) :: ins r t x
def W0:Option AV→AV
 | some v=>v
 | none=>.junk
def gs (sl:Sl) (t:Nat):AV:=W0 (lkp sl t)
structure St where
 sl:Sl
 hp:Hp
 nx:Nat
 m:Nat
def ZdR:AV→Option D
 | .d x=>if x.one then some x else none
 | _=>none
def UB:List AV→Option (List D)
 | []=>some []
 | v :: r=>bnd (ZdR v) fun x=>bnd (UB r) fun ds=>some (x :: ds)
def QC:List AV→Bool
 | []=>true
 | .bbuf _ _ :: _=>false
 | _ :: r=>QC r
def ZfW:AV→Bool
 | .clo _ _=>true
 | _=>false
def W1:List AV→Bool
 | []=>false
 | v :: r=>ZfW v || W1 r
def Yv (cs:List AV):Option (List D)→AV
 | some ds=>.d (.agg ds)
 | none=>if W1 cs then .junk else .agg cs
def AV.solid:AV→Bool
 | .junk=>false
 | .bbuf _ _=>false
 | .tup _=>false
 | _=>true
def Qx:List AV→Bool
 | []=>true
 | v :: r=>v.solid&&Qx r
def YP (cs:List AV):AV:=Yv cs (UB cs)
def AV.cells:AV→List AV
 | .agg cs=>cs
 | .d x=>x.cells.map .d
 | .nil=>[.nil] | .nilp=>[.nilp] | .nili=>[.nili] | .ptr a b=>[.ptr a b] | .prow a b c e=>[.prow a b c e] | .pim cs=>[.pim cs]
 | .own a=>[.own a] | .ownv a b c=>[.ownv a b c] | .bnil a b=>[.bnil a b] | .bbuf a b=>[.bbuf a b] | .tup vs=>[.tup vs] | .clo f c=>[.clo f c] | .junk=>[.junk]
def Yf:Value→AV
 | .bool b=>.d (.bool b)
 | .int k n=>.d (.int k n)
 | .string s=>.d (.str s.data.toList)
 | .slice none 0 0=>.nil
 | .pointer none=>.nilp
 | .nilIface=>.nili
 | _=>.junk
def evC:Value→AV
 | .agg cs=>YP (cs.toList.map Yf)
 | v=>Yf v
def ev (sl:Sl):Operand→AV
 | .tmp t=>gs sl t
 | .const v=>evC v
 | .global _=>.junk
 | .func f=>.clo f []
def Zbi:Value→Option D
 | .bool b=>some (.bool b)
 | .int k n=>some (.int k n)
 | .string s=>some (.str s.data.toList)
 | .slice none 0 0=>some (.sl [])
 | _=>none
def ZY {α β:Type} (f:α→Option β):List α→Option (List β)
 | []=>some []
 | x :: r=>bnd (f x) fun y=>bnd (ZY f r) fun ys=>some (y :: ys)
def evD:Value→Option D
 | .agg cs=>bnd (ZY Zbi cs.toList) fun ds=>some (.agg ds)
 | v=>Zbi v
def X7:Option Zg→Option (List D)
 | some (.row _ xs _ _)=>some xs
 | some (.tree _ _ xs none)=>some xs
 | _=>none
def Zaw (hp:Hp):AV→Option D
 | .d x=>some x
 | .nil=>some (.sl [])
 | .own id=>bnd (X7 (lkp hp id)) fun xs=>some (.sl xs)
 | .ownv id off n=>bnd (X7 (lkp hp id)) fun xs=>some (.sl ((xs.drop off).take n))
 | _=>none
def toD (hp:Hp):AV→Option D
 | .agg cs=>bnd (ZY (Zaw hp) cs) fun ds=>if V4 D.one ds then some (.agg ds) else none
 | v=>Zaw hp v
def WM:AV→List Nat
 | .own id=>[id]
 | .ownv id _ _=>[id]
 | _=>[]
def UC:AV→List Nat
 | .agg cs=>cs.flatMap WM
 | v=>WM v
def Ze:AV→List Nat
 | .own id=>[id]
 | .ownv id _ _=>[id]
 | .ptr id _=>[id]
 | .prow id _ _ _=>[id]
 | .bnil id _=>[id]
 | .junk | .bbuf _ _ | .d _ | .nil | .nilp | .nili | .pim _ | .agg _ | .tup _ | .clo _ _=>[]
def Zm:AV→List Nat
 | .agg cs=>cs.flatMap Ze
 | .clo _ cs=>cs.flatMap Ze
 | v=>Ze v
def Zj:AV→List Nat
 | .tup vs=>vs.flatMap Zm
 | v=>Zm v
def YQ:Zg→List Nat
 | .box cs=>cs.flatMap Zm
 | .row _ _ _ _=>[]
 | .tree _ _ _ _=>[]
 | .gone=>[]
def ZdS:Option (Option Nat×Nat×Nat)→Option (Option Nat×Nat×Nat)
 | some q=>some (none,q.2)
 | none=>none
def UD (g:Nat→Nat):AV→AV
 | .own id=>.own (g id)
 | .ownv id a b=>.ownv (g id) a b
 | .ptr id o=>.ptr (g id) o
 | .prow id s i o=>.prow (g id) s i o
 | .bnil id e=>.bnil (g id) e
 | v=>v
def Uj (g:Nat→Nat):AV→AV
 | .agg cs=>.agg (cs.map (UD g))
 | .clo f cs=>.clo f (cs.map (UD g))
 | v=>UD g v
def ren (g:Nat→Nat):AV→AV
 | .tup vs=>.tup (vs.map (Uj g))
 | v=>Uj g v
def Zbj (g:Nat→Nat):Zg→Zg
 | .box cs=>.box (cs.map (Uj g))
 | .row s x e f=>.row s x e f
 | .tree s n x l=>.tree s n x (ZdS l)
 | .gone=>.gone
def ZK (bad:List Nat):AV→AV
 | .own id=>if bad.contains id then .junk else .own id
 | .ownv id a b=>if bad.contains id then .junk else .ownv id a b
 | .ptr id o=>if bad.contains id then .junk else .ptr id o
 | .prow id s i o=>if bad.contains id then .junk else .prow id s i o
 | .bnil id e=>if bad.contains id then .junk else .bnil id e
 | v=>v
def Zv (bad:List Nat):AV→AV
 | .agg cs=>.agg (cs.map (ZK bad))
 | .clo f cs=>.clo f (cs.map (ZK bad))
 | v=>ZK bad v
def kill (bad:List Nat):AV→AV
 | .tup vs=>.tup (vs.map (Zv bad))
 | v=>Zv bad v
def XQ (bad:List Nat):Option (Option Nat×Nat×Nat)→Option (Option Nat×Nat×Nat)
 | some (some nm,q)=>if bad.contains nm then some (none,q) else some (some nm,q)
 | l=>l
def Qo (bad:List Nat):Zg→Zg
 | .box cs=>.box (cs.map (Zv bad))
 | .row s x e f=>.row s x e f
 | .tree s n x l=>.tree s n x (XQ bad l)
 | .gone=>.gone
def Zb9 {α β:Type} (f:α→β):List (Nat×α)→List (Nat×β)
 | []=>[]
 | (k,v) :: r=>(k,f v) :: Zb9 f r
def Xl:Zg→Zg
 | .row s x e _=>.row s x e true
 | .tree s n x l=>.tree s n x l
 | o=>o
def freeze (ids:List Nat):Hp→Hp
 | []=>[]
 | (k,o) :: r=>(k,if ids.contains k then Xl o else o) :: freeze ids r
def Zbk:Option Zg→Option (List D×Bool)
 | some (.row _ xs ex _)=>some (xs,ex)
 | _=>none
def V1 (hp:Hp):AV→Option (D×Bool×List Nat)
 | .d x=>some (x,x.flat,[])
 | .nil=>some (.sl [],true,[])
 | .own id=>bnd (Zbk (lkp hp id)) fun q=>some (.sl q.1,q.2,[id])
 | _=>none
def XE (hp:Hp):List AV→Option (List D×Bool×List Nat)
 | []=>some ([],true,[])
 | v :: r=>bnd (V1 hp v) fun q=>bnd (XE hp r) fun p=>
   if q.1.one&&!q.2.2.any p.2.2.contains then some (q.1 :: p.1,q.2.1&&p.2.1,q.2.2++p.2.2) else none
def give (hp:Hp):AV→Option (D×Bool×List Nat)
 | .agg cs=>bnd (XE hp cs) fun p=>some (.agg p.1,p.2.1,p.2.2)
 | v=>V1 hp v
def X8 (hp:Hp):List AV→Option (List D×Bool×List Nat)
 | []=>some ([],true,[])
 | v :: r=>bnd (give hp v) fun q=>bnd (X8 hp r) fun p=>
   if !q.2.2.any p.2.2.contains then some (q.1 :: p.1,q.2.1&&p.2.1,q.2.2++p.2.2) else none
def Zi {α:Type} (cs:List α) (off:Nat) (vs:List α):List α:=cs.take off++vs++cs.drop (off+vs.length)
def XF (x:D) (off:Nat) (ds:List D):D:=match x with
 | .agg cs=>.agg (Zi cs off ds)
 | _=>ds.headD x
def Yl (op:BinOp) (k:IntKind) (a b:Int):Option D:=
 match op with
 | .add=>some (.int k (k.wrap (a+b)))
 | .sub=>some (.int k (k.wrap (a-b)))
 | .mul=>some (.int k (k.wrap (a*b)))
 | .quo=>if b=0 then none else some (.int k (k.wrap (a.tdiv b)))
 | .rem=>if b=0 then none else some (.int k (a.tmod b))
 | .and=>some (.int k (k.wrap (BitVec.ofInt k.bits a &&& BitVec.ofInt k.bits b).toNat))
 | .or=>some (.int k (k.wrap (BitVec.ofInt k.bits a ||| BitVec.ofInt k.bits b).toNat))
 | .xor=>some (.int k (k.wrap (BitVec.ofInt k.bits a ^^^ BitVec.ofInt k.bits b).toNat))
 | .andNot=>some (.int k (k.wrap (BitVec.ofInt k.bits a &&& ~~~(BitVec.ofInt k.bits b)).toNat))
 | .eql=>some (.bool (a==b))
 | .neq=>some (.bool (a != b))
 | .lss=>some (.bool (decide (a<b)))
 | .leq=>some (.bool (decide (a≤b)))
 | .gtr=>some (.bool (decide (a>b)))
 | .geq=>some (.bool (decide (a≥b)))
 | .shl | .shr=>none
def Zca (op:BinOp) (k:IntKind) (a b:Int):Option D:=
 if b<0 then none else
 match op with
 | .shl=>some (.int k (k.wrap (a*2 ^ (min b.toNat k.bits))))
 | .shr=>some (.int k (a.fdiv (2 ^ (min b.toNat k.bits))))
 | _=>none
def Zja:Nat:=1152921504606846976
def ZhX (op:BinOp) (a b:List UInt8):Option D:=
 match op with
 | .add=>if a.length+b.length≤Zja then some (.str (a++b)) else none
 | .eql=>some (.bool (a==b))
 | .neq=>some (.bool (!(a==b)))
 | _=>none
def D.beq1:D→D→Option Bool
 | .int _ a,.int _ b=>some (a==b)
 | .bool a,.bool b=>some (a==b)
 | .str a,.str b=>some (a==b)
 | _,_=>none
def beqL:List D→List D→Option Bool
 | [],[]=>some true
 | x :: xs,y :: ys=>bnd (D.beq1 x y) fun a=>bnd (beqL xs ys) fun b=>some (a&&b)
 | _,_=>none
def agg2 (op:BinOp) (r:Option Bool):Option AV:=match op with
 | .eql=>bnd r fun r=>some (.d (.bool r))
 | .neq=>bnd r fun r=>some (.d (.bool (!r)))
 | _=>none
def asD (r:Option D):Option AV:=bnd r fun x=>some (.d x)
def YR (op:BinOp) (k k' : IntKind) (a b:Int):Option AV:=match op with
 | .shl | .shr=>asD (Zca op k a b)
 | _=>if k=k' then asD (Yl op k a b) else none
def ZfX (op:BinOp) (a b:Bool):Option AV:=match op with
 | .eql=>some (.d (.bool (a==b)))
 | .neq=>some (.d (.bool (!(a==b))))
 | _=>none
def vbin (op:BinOp):AV→AV→Option AV
 | .d (.int k a),.d (.int k' b)=>YR op k k' a b
 | .d (.str a),.d (.str b)=>asD (ZhX op a b)
 | _,_=>none
def neg1 (op:UnOp) (k:IntKind) (a:Int):Option AV:=match op with
 | .neg=>some (.d (.int k (k.wrap (0-a))))
 | _=>none
def not1 (op:UnOp) (a:Bool):Option AV:=match op with
 | .not=>some (.d (.bool (!a)))
 | _=>none
def vun (op:UnOp):AV→Option AV
 | .d (.int k a)=>neg1 op k a
 | .d (.bool a)=>not1 op a
 | _=>none
def W2 (hp:Hp):AV→Option Nat
 | .d (.sl xs)=>some xs.length
 | .nil=>some 0
 | .own id=>bnd (X7 (lkp hp id)) fun xs=>some xs.length
 | .ownv _ _ n=>some n
 | _=>none
def Zk4:AV→Option Nat
 | .d (.str s)=>some s.length
 | _=>none
def minI (a b:Int):Int:=if b<a then b else a
def maxI (a b:Int):Int:=if b>a then b else a
end Go.Abs
