/- Own text. -/
import Derived.Orders
import Derived.Laws.AppendOwn
set_option linter.unusedVariables false
set_option linter.unusedSimpArgs false
namespace Go.Abs
open Go
abbrev Ka:=@Bool.false_eq_true
abbrev Kb:=@Bool.and_eq_true
abbrev Kc:=@List.mem_append
abbrev Kd:=@List.getElem?_eq_some_iff
abbrev Ke:=@Nat.le_refl
abbrev Kf:=@List.mem_cons
abbrev Kg:=@if_false
abbrev Kh:=@if_true
abbrev Ki:=@List.mem_of_getElem?
abbrev Kj:=@List.eq_nil_of_length_eq_zero
abbrev Kk:=@if_neg
abbrev Kl:=@List.mem_flatMap
abbrev Km:=@List.getElem?_eq_getElem
abbrev Kn:=@List.mem_cons_of_mem
abbrev Ko:=@if_pos
abbrev Kp:=@decide_eq_false
abbrev Kq:=@Nat.ne_of_gt
abbrev Kr:=@decide_eq_true_eq
abbrev Ks:=@List.getElem?_append_right
abbrev Kt:=@List.flatMap_cons
abbrev Ku:=@List.all_eq_true
abbrev Kv:=@Nat.mul_le_mul_right
abbrev Kw:=@List.map_cons
abbrev Kx:=@Array.getElem?_eq_some_iff
abbrev Ky:=@List.take_of_length_le
abbrev Kz:=@decide_eq_true
abbrev KA:=@Nat.add_mul
abbrev KB:=@List.map_congr_left
abbrev KC:=@List.length_cons
abbrev KD:=@List.contains_eq_mem
abbrev KE:=@List.getElem?_append_left
abbrev KF:=@List.getElem?_eq_none
abbrev KG:=@List.take_add_one
abbrev KH:=@List.length_map
abbrev KI:=@Bool.not_eq_true'
abbrev KJ:=@List.count_pos_iff
abbrev KK:=@Nat.lt_or_ge
abbrev KL:=@List.cons_append
abbrev KM:=@List.getElem?_drop
abbrev KN:=@decide_eq_false_iff_not
abbrev KO:=@Option.map_some
abbrev KP:=@List.flatten_cons
abbrev KQ:=@Option.isSome_iff_exists
abbrev KR:=@List.length_append
abbrev KS:=@List.map_append
abbrev KT:=@Nat.add_assoc
abbrev KU:=@List.getElem?_set_ne
abbrev KV:=@List.mem_cons_self
abbrev KW:=@List.mem_singleton
abbrev KX:=@List.getElem?_set_self
abbrev KY:=@List.append_nil
abbrev KZ:=@List.mem_map
abbrev K0:=@List.ext_getElem?
abbrev K3:=@List.getElem?_take
abbrev K4:=@Bool.decide_or
abbrev K5:=@List.nodup_cons
abbrev K6:=@Bool.decide_and
abbrev K7:=@Nat.le_trans
abbrev K8:=@List.drop_eq_getElem_cons
abbrev K9:=@Array.length_toList
abbrev La:=@List.append_assoc
abbrev Lb:=@List.take_append_drop
abbrev Lc:=@List.nodup_nil
abbrev Ld:=@List.mem_range
abbrev Le:=@List.mem_filter
abbrev Lf:=@Bool.or_eq_true
abbrev Lg:=@Nat.eq_zero_or_pos
abbrev Lh:=@Nat.add_sub_cancel_left
abbrev Li:=@List.all_cons
abbrev Lj:=@List.getElem?_map
abbrev Lk:=@List.map_id
abbrev Ll:=@List.length_take
abbrev Lm:=@List.pairwise_append
abbrev Ln:=@List.replicate_succ
abbrev Lo:=@List.any_eq_true
abbrev Lp:=@Int.natCast_zero
abbrev Lq:=@Nat.lt_or_gt_of_ne
abbrev Lr:=@List.pairwise_cons
abbrev Ls:=@List.filterMap_append
abbrev Lt:=@List.getElem?_of_mem
abbrev Lu:=@List.nodup_iff_count
abbrev Lv:=@List.map_nil
abbrev Lw:=@Bool.and_true
abbrev Lx:=@List.flatten_append
abbrev Ly:=@List.filter_cons
abbrev Lz:=@List.length_drop
abbrev LA:=@Nat.add_zero
abbrev LB:=@List.nil_append
abbrev LC:=@Array.getElem?_modify
abbrev LD:=@Array.getElem?_toList
abbrev LF:=@List.length_filter_le
abbrev LG:=@List.nodup_append
abbrev LH:=@List.size_toArray
abbrev LI:=@Array.toList_setIfInBounds
abbrev LJ:=@List.getElem?_append
abbrev LK:=@List.not_mem_nil
abbrev LL:=@List.nodup_range
abbrev LM:=@Nat.le_max_right
abbrev LN:=@Int.add_zero
abbrev LP:=@List.filterMap_cons
abbrev LQ:=@Nat.le_max_left
abbrev LR:=@List.drop_drop
abbrev LS:=@Nat.sub_self
inductive D where
 | int (k:IntKind) (n:Int)
 | bool (b:Bool)
 | str (s:List UInt8)
 | sl (xs:List D)
 | agg (cs:List D)
def D.cells:D→List D
 | .agg cs=>cs
 | .int k n=>[.int k n]
 | .bool b=>[.bool b]
 | .str s=>[.str s]
 | .sl xs=>[.sl xs]
def D.plain:D→Bool
 | .int _ _=>true
 | .bool _=>true
 | .str _=>true
 | .sl _=>false
 | .agg _=>false
def D.one:D→Bool
 | .int _ _=>true
 | .bool _=>true
 | .str _=>true
 | .sl _=>true
 | .agg _=>false
def Wz (p:D→Bool):List D→Bool
 | []=>true
 | x :: xs=>p x&&Wz p xs
def D.flat (d:D):Bool:=Wz D.plain d.cells
inductive AV where
 | d (x:D)
 | nil
 | nilp
 | nili
 | ptr (id off:Nat)
 | prow (id sz i off:Nat)
 | pim (cs:List D)
 | own (id:Nat)
 | ownv (id off len:Nat)
 | bnil (id e:Nat)
 | bbuf (te:Nat) (l:List UInt8)
 | agg (cs:List AV)
 | tup (vs:List AV)
 | clo (f:Nat) (caps:List AV)
 | junk
inductive Zg where
 | box (cs:List AV)
 | row (sz:Nat) (xs:List D) (ex fz:Bool)
 | tree (sz ns:Nat) (xs:List D) (lk:Option (Option Nat×Nat×Nat))
 | gone
abbrev Hp:=List (Nat×Zg)
abbrev Sl:=List (Nat×AV)
def bnd {α β:Type} (x:Option α) (f:α→Option β):Option β:=match x with
 | some a=>f a
 | none=>none
@[congr] theorem bnd_congr {α β:Type} {x y:Option α} {f:α→Option β} (h:x=y):bnd x f=bnd y f:=by rw[h]
theorem Zc {α β:Type} (a:α) (f:α→Option β):bnd (some a) f=f a:=rfl
theorem ZoU {α β:Type} (f:α→Option β):bnd none f=none:=rfl
theorem Zqp {α β:Type} (c:Prop) [Decidable c] (a b:Option α) (f:α→Option β):bnd (if c then a else b) f=if c then bnd a f else bnd b f:=by split<;>rfl
theorem Za {α β:Type} {x:Option α} {f:α→Option β} {r:β} (h:bnd x f=some r):∃ a,x=some a∧f a=some r:=by
 cases x with
 | none=>cases h
 | some a=>exact⟨a,rfl,h⟩
def lkp {α:Type}:List (Nat×α)→Nat→Option α
 | [],_=>none
 | (k,v) :: r,t=>if k=t then some v else lkp r t
def ins {α:Type}:List (Nat×α)→Nat→α→List (Nat×α)
 | [],t,v=>[(t,v)]
 | (k,v) :: r,t,x=>if k<t then (t,x) :: (k,v) :: r else if k=t then (t,x) :: r else (k,v) :: ins r t x
def UI:Option AV→AV
 | some v=>v
 | none=>.junk
def gs (sl:Sl) (t:Nat):AV:=UI (lkp sl t)
structure St where
 sl:Sl
 hp:Hp
 nx:Nat
 m:Nat
def Zfo:AV→Option D
 | .d x=>if x.one then some x else none
 | _=>none
def Jr:List AV→Option (List D)
 | []=>some []
 | v :: r=>bnd (Zfo v) fun x=>bnd (Jr r) fun ds=>some (x :: ds)
def QP:List AV→Bool
 | []=>true
 | .bbuf _ _ :: _=>false
 | _ :: r=>QP r
def Zh0:AV→Bool
 | .clo _ _=>true
 | _=>false
def UJ:List AV→Bool
 | []=>false
 | v :: r=>Zh0 v || UJ r
def YR (cs:List AV):Option (List D)→AV
 | some ds=>.d (.agg ds)
 | none=>if UJ cs then .junk else .agg cs
def AV.solid:AV→Bool
 | .junk=>false
 | .bbuf _ _=>false
 | .tup _=>false
 | _=>true
def QM:List AV→Bool
 | []=>true
 | v :: r=>v.solid&&QM r
def Vd (cs:List AV):AV:=YR cs (Jr cs)
def AV.cells:AV→List AV
 | .agg cs=>cs
 | .d x=>x.cells.map .d
 | .nil=>[.nil] | .nilp=>[.nilp] | .nili=>[.nili] | .ptr a b=>[.ptr a b] | .prow a b c e=>[.prow a b c e] | .pim cs=>[.pim cs]
 | .own a=>[.own a] | .ownv a b c=>[.ownv a b c] | .bnil a b=>[.bnil a b] | .bbuf a b=>[.bbuf a b] | .tup vs=>[.tup vs] | .clo f c=>[.clo f c] | .junk=>[.junk]
def Yz:Value→AV
 | .bool b=>.d (.bool b)
 | .int k n=>.d (.int k n)
 | .string s=>.d (.str s.data.toList)
 | .slice none 0 0=>.nil
 | .pointer none=>.nilp
 | .nilIface=>.nili
 | _=>.junk
def evC:Value→AV
 | .agg cs=>Vd (cs.toList.map Yz)
 | v=>Yz v
def ev (sl:Sl):Operand→AV
 | .tmp t=>gs sl t
 | .const v=>evC v
 | .global _=>.junk
 | .func f=>.clo f []
def Zcv:Value→Option D
 | .bool b=>some (.bool b)
 | .int k n=>some (.int k n)
 | .string s=>some (.str s.data.toList)
 | .slice none 0 0=>some (.sl [])
 | _=>none
def Z3 {α β:Type} (f:α→Option β):List α→Option (List β)
 | []=>some []
 | x :: r=>bnd (f x) fun y=>bnd (Z3 f r) fun ys=>some (y :: ys)
def evD:Value→Option D
 | .agg cs=>bnd (Z3 Zcv cs.toList) fun ds=>some (.agg ds)
 | v=>Zcv v
def Yq:Option Zg→Option (List D)
 | some (.row _ xs _ _)=>some xs
 | some (.tree _ _ xs none)=>some xs
 | _=>none
def Zbx (hp:Hp):AV→Option D
 | .d x=>some x
 | .nil=>some (.sl [])
 | .own id=>bnd (Yq (lkp hp id)) fun xs=>some (.sl xs)
 | .ownv id off n=>bnd (Yq (lkp hp id)) fun xs=>some (.sl ((xs.drop off).take n))
 | _=>none
def toD (hp:Hp):AV→Option D
 | .agg cs=>bnd (Z3 (Zbx hp) cs) fun ds=>if Wz D.one ds then some (.agg ds) else none
 | v=>Zbx hp v
def Us:AV→List Nat
 | .own id=>[id]
 | .ownv id _ _=>[id]
 | _=>[]
def Js:AV→List Nat
 | .agg cs=>cs.flatMap Us
 | v=>Us v
def Ze:AV→List Nat
 | .own id=>[id]
 | .ownv id _ _=>[id]
 | .ptr id _=>[id]
 | .prow id _ _ _=>[id]
 | .bnil id _=>[id]
 | .junk | .bbuf _ _ | .d _ | .nil | .nilp | .nili | .pim _ | .agg _ | .tup _ | .clo _ _=>[]
def Zn:AV→List Nat
 | .agg cs=>cs.flatMap Ze
 | .clo _ cs=>cs.flatMap Ze
 | v=>Ze v
def Zl:AV→List Nat
 | .tup vs=>vs.flatMap Zn
 | v=>Zn v
def Ve:Zg→List Nat
 | .box cs=>cs.flatMap Zn
 | .row _ _ _ _=>[]
 | .tree _ _ _ _=>[]
 | .gone=>[]
def Zfp:Option (Option Nat×Nat×Nat)→Option (Option Nat×Nat×Nat)
 | some q=>some (none,q.2)
 | none=>none
def Jt (g:Nat→Nat):AV→AV
 | .own id=>.own (g id)
 | .ownv id a b=>.ownv (g id) a b
 | .ptr id o=>.ptr (g id) o
 | .prow id s i o=>.prow (g id) s i o
 | .bnil id e=>.bnil (g id) e
 | v=>v
def U2 (g:Nat→Nat):AV→AV
 | .agg cs=>.agg (cs.map (Jt g))
 | .clo f cs=>.clo f (cs.map (Jt g))
 | v=>Jt g v
def ren (g:Nat→Nat):AV→AV
 | .tup vs=>.tup (vs.map (U2 g))
 | v=>U2 g v
def Zcw (g:Nat→Nat):Zg→Zg
 | .box cs=>.box (cs.map (U2 g))
 | .row s x e f=>.row s x e f
 | .tree s n x l=>.tree s n x (Zfp l)
 | .gone=>.gone
def ZK (bad:List Nat):AV→AV
 | .own id=>if bad.contains id then .junk else .own id
 | .ownv id a b=>if bad.contains id then .junk else .ownv id a b
 | .ptr id o=>if bad.contains id then .junk else .ptr id o
 | .prow id s i o=>if bad.contains id then .junk else .prow id s i o
 | .bnil id e=>if bad.contains id then .junk else .bnil id e
 | v=>v
def Zw (bad:List Nat):AV→AV
 | .agg cs=>.agg (cs.map (ZK bad))
 | .clo f cs=>.clo f (cs.map (ZK bad))
 | v=>ZK bad v
def kill (bad:List Nat):AV→AV
 | .tup vs=>.tup (vs.map (Zw bad))
 | v=>Zw bad v
def X6 (bad:List Nat):Option (Option Nat×Nat×Nat)→Option (Option Nat×Nat×Nat)
 | some (some nm,q)=>if bad.contains nm then some (none,q) else some (some nm,q)
 | l=>l
def QC (bad:List Nat):Zg→Zg
 | .box cs=>.box (cs.map (Zw bad))
 | .row s x e f=>.row s x e f
 | .tree s n x l=>.tree s n x (X6 bad l)
 | .gone=>.gone
def Zdt {α β:Type} (f:α→β):List (Nat×α)→List (Nat×β)
 | []=>[]
 | (k,v) :: r=>(k,f v) :: Zdt f r
def XC:Zg→Zg
 | .row s x e _=>.row s x e true
 | .tree s n x l=>.tree s n x l
 | o=>o
def freeze (ids:List Nat):Hp→Hp
 | []=>[]
 | (k,o) :: r=>(k,if ids.contains k then XC o else o) :: freeze ids r
def Zcx:Option Zg→Option (List D×Bool)
 | some (.row _ xs ex _)=>some (xs,ex)
 | _=>none
def Ww (hp:Hp):AV→Option (D×Bool×List Nat)
 | .d x=>some (x,x.flat,[])
 | .nil=>some (.sl [],true,[])
 | .own id=>bnd (Zcx (lkp hp id)) fun q=>some (.sl q.1,q.2,[id])
 | _=>none
def XW (hp:Hp):List AV→Option (List D×Bool×List Nat)
 | []=>some ([],true,[])
 | v :: r=>bnd (Ww hp v) fun q=>bnd (XW hp r) fun p=>
   if q.1.one&&!q.2.2.any p.2.2.contains then some (q.1 :: p.1,q.2.1&&p.2.1,q.2.2++p.2.2) else none
def give (hp:Hp):AV→Option (D×Bool×List Nat)
 | .agg cs=>bnd (XW hp cs) fun p=>some (.agg p.1,p.2.1,p.2.2)
 | v=>Ww hp v
def Yr (hp:Hp):List AV→Option (List D×Bool×List Nat)
 | []=>some ([],true,[])
 | v :: r=>bnd (give hp v) fun q=>bnd (Yr hp r) fun p=>
   if !q.2.2.any p.2.2.contains then some (q.1 :: p.1,q.2.1&&p.2.1,q.2.2++p.2.2) else none
def Zk {α:Type} (cs:List α) (off:Nat) (vs:List α):List α:=cs.take off++vs++cs.drop (off+vs.length)
def Xp (x:D) (off:Nat) (ds:List D):D:=match x with
 | .agg cs=>.agg (Zk cs off ds)
 | _=>ds.headD x
def YV (op:BinOp) (k:IntKind) (a b:Int):Option D:=
 match op with
 | .add=>some (.int k (k.wrap (a+b)))
 | .sub=>some (.int k (k.wrap (a-b)))
 | .mul=>some (.int k (k.wrap (a*b)))
 | .quo=>if b=0 then none else some (.int k (k.wrap (a.tdiv b)))
 | .rem=>if b=0 then none else some (.int k (a.tmod b))
 | .and=>some (.int k (k.wrap (BitVec.ofInt k.bits a &&& BitVec.ofInt k.bits b).toNat))
 | .or=>some (.int k (k.wrap (BitVec.ofInt k.bits a ||| BitVec.ofInt k.bits b).toNat))
 | .xor=>some (.int k (k.wrap (BitVec.ofInt k.bits a ^^^ BitVec.ofInt k.bits b).toNat))
 | .andNot=>some (.int k (k.wrap (BitVec.ofInt k.bits a &&& ~~~(BitVec.ofInt k.bits b)).toNat))
 | .eql=>some (.bool (a==b))
 | .neq=>some (.bool (a != b))
 | .lss=>some (.bool (decide (a<b)))
 | .leq=>some (.bool (decide (a≤b)))
 | .gtr=>some (.bool (decide (a>b)))
 | .geq=>some (.bool (decide (a≥b)))
 | .shl | .shr=>none
def Zdu (op:BinOp) (k:IntKind) (a b:Int):Option D:=
 if b<0 then none else
 match op with
 | .shl=>some (.int k (k.wrap (a*2 ^ (min b.toNat k.bits))))
 | .shr=>some (.int k (a.fdiv (2 ^ (min b.toNat k.bits))))
 | _=>none
def ZlK:Nat:=1152921504606846976
def Zki (op:BinOp) (a b:List UInt8):Option D:=
 match op with
 | .add=>if a.length+b.length≤ZlK then some (.str (a++b)) else none
 | .eql=>some (.bool (a==b))
 | .neq=>some (.bool (!(a==b)))
 | _=>none
def D.beq1:D→D→Option Bool
 | .int _ a,.int _ b=>some (a==b)
 | .bool a,.bool b=>some (a==b)
 | .str a,.str b=>some (a==b)
 | _,_=>none
def beqL:List D→List D→Option Bool
 | [],[]=>some true
 | x :: xs,y :: ys=>bnd (D.beq1 x y) fun a=>bnd (beqL xs ys) fun b=>some (a&&b)
 | _,_=>none
def agg2 (op:BinOp) (r:Option Bool):Option AV:=match op with
 | .eql=>bnd r fun r=>some (.d (.bool r))
 | .neq=>bnd r fun r=>some (.d (.bool (!r)))
 | _=>none
def asD (r:Option D):Option AV:=bnd r fun x=>some (.d x)
def VK (op:BinOp) (k k' : IntKind) (a b:Int):Option AV:=match op with
 | .shl | .shr=>asD (Zdu op k a b)
 | _=>if k=k' then asD (YV op k a b) else none
def Zh1 (op:BinOp) (a b:Bool):Option AV:=match op with
 | .eql=>some (.d (.bool (a==b)))
 | .neq=>some (.d (.bool (!(a==b))))
 | _=>none
def vbin (op:BinOp):AV→AV→Option AV
 | .d (.int k a),.d (.int k' b)=>VK op k k' a b
 | .d (.str a),.d (.str b)=>asD (Zki op a b)
 | _,_=>none
def neg1 (op:UnOp) (k:IntKind) (a:Int):Option AV:=match op with
 | .neg=>some (.d (.int k (k.wrap (0-a))))
 | _=>none
def not1 (op:UnOp) (a:Bool):Option AV:=match op with
 | .not=>some (.d (.bool (!a)))
 | _=>none
def vun (op:UnOp):AV→Option AV
 | .d (.int k a)=>neg1 op k a
 | .d (.bool a)=>not1 op a
 | _=>none
def UK (hp:Hp):AV→Option Nat
 | .d (.sl xs)=>some xs.length
 | .nil=>some 0
 | .own id=>bnd (Yq (lkp hp id)) fun xs=>some xs.length
 | .ownv _ _ n=>some n
 | _=>none
def ZnF:AV→Option Nat
 | .d (.str s)=>some s.length
 | _=>none
def minI (a b:Int):Int:=if b<a then b else a
def maxI (a b:Int):Int:=if b>a then b else a
end Go.Abs
