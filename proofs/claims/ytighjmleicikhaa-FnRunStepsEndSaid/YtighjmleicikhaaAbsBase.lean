/- Own text. -/
import Derived.Orders
import Derived.Laws.AppendOwn
set_option linter.unusedVariables false
set_option linter.unusedSimpArgs false
namespace Go.Abs
open Go
abbrev Ka:=@Bool.false_eq_true
abbrev Kb:=@Bool.and_eq_true
abbrev Kc:=@List.getElem?_eq_some_iff
abbrev Kd:=@List.mem_append
abbrev Ke:=@List.mem_cons
abbrev Kf:=@if_false
abbrev Kg:=@List.length_append
abbrev Kh:=@if_true
abbrev Ki:=@List.length_cons
abbrev Kj:=@Nat.le_refl
abbrev Kk:=@decide_eq_true_eq
abbrev Kl:=@List.eq_nil_of_length_eq_zero
abbrev Km:=@List.map_cons
abbrev Kn:=@List.mem_flatMap
abbrev Ko:=@List.mem_cons_of_mem
abbrev Kp:=@if_neg
abbrev Kq:=@List.getElem?_append_left
abbrev Kr:=@List.mem_of_getElem?
abbrev Ks:=@Nat.ne_of_gt
abbrev Kt:=@List.getElem?_append_right
abbrev Ku:=@List.map_nil
abbrev Kv:=@if_pos
abbrev Kw:=@List.append_assoc
abbrev Kx:=@List.getElem?_eq_getElem
abbrev Ky:=@List.map_congr_left
abbrev Kz:=@Nat.mul_le_mul_right
abbrev KA:=@List.length_nil
abbrev KB:=@List.flatMap_cons
abbrev KC:=@decide_eq_false_iff_not
abbrev KD:=@Array.getElem?_eq_some_iff
abbrev KE:=@Nat.add_mul
abbrev KF:=@Bool.not_eq_true'
abbrev KG:=@List.length_map
abbrev KH:=@Nat.add_assoc
abbrev KI:=@List.mem_singleton
abbrev KJ:=@List.all_eq_true
abbrev KK:=@List.contains_eq_mem
abbrev KL:=@List.getElem?_eq_none
abbrev KM:=@List.count_pos_iff
abbrev KN:=@Nat.lt_or_ge
abbrev KO:=@Bool.true_and
abbrev KP:=@List.nodup_cons
abbrev KQ:=@List.drop_eq_getElem_cons
abbrev KR:=@Option.map_some
abbrev KS:=@List.flatten_cons
abbrev KT:=@Option.isSome_iff_exists
abbrev KU:=@List.mem_map
abbrev KV:=@List.cons_append
abbrev KW:=@List.length_take
abbrev KX:=@List.getElem?_set_ne
abbrev KY:=@List.mem_cons_self
abbrev KZ:=@List.getElem?_drop
abbrev K0:=@Nat.zero_add
abbrev K1:=@Nat.le_trans
abbrev K2:=@List.nodup_nil
abbrev K3:=@Bool.or_eq_true
abbrev K4:=@Array.length_toList
abbrev K5:=@List.getElem?_take
abbrev K6:=@Bool.false_and
abbrev K7:=@decide_eq_true
abbrev K8:=@List.append_nil
abbrev K9:=@List.take_of_length_le
abbrev La:=@List.flatten_append
abbrev Lb:=@List.take_add_one
abbrev Lc:=@List.ext_getElem?
abbrev Ld:=@List.mem_range
abbrev Le:=@List.nil_append
abbrev Lf:=@List.map_append
abbrev Lg:=@Bool.decide_and
abbrev Lh:=@Nat.eq_zero_or_pos
abbrev Li:=@Nat.add_sub_cancel_left
abbrev Lj:=@List.getElem?_cons_succ
abbrev Lk:=@List.all_cons
abbrev Ll:=@Bool.decide_or
abbrev Lm:=@List.map_id
abbrev Ln:=@decide_eq_false
abbrev Lo:=@List.not_mem_nil
abbrev Lp:=@List.length_filterMap_le
abbrev Lq:=@List.getElem?_of_mem
abbrev Lr:=@List.pairwise_append
abbrev Ls:=@List.nodup_append
abbrev Lt:=@List.getElem?_set_self
abbrev Lu:=@Bool.and_true
abbrev Lv:=@List.length_drop
abbrev Lw:=@Nat.lt_or_gt_of_ne
abbrev Lx:=@List.filterMap_append
abbrev Ly:=@Array.getElem?_toList
abbrev Lz:=@List.take_append_drop
abbrev LA:=@Nat.zero_le
abbrev LB:=@List.getElem?_map
abbrev LC:=@List.nodup_iff_count
abbrev LD:=@List.size_toArray
abbrev LF:=@List.replicate_succ
abbrev LG:=@Nat.add_le_add_left
abbrev LH:=@List.any_eq_true
abbrev LI:=@List.pairwise_cons
abbrev LJ:=@Nat.add_zero
abbrev LK:=@Array.getElem?_modify
abbrev LL:=@List.getElem?_toArray
abbrev LM:=@Array.toList_setIfInBounds
abbrev LN:=@List.getElem?_append
abbrev LP:=@List.nodup_range
abbrev LQ:=@Nat.le_max_right
abbrev LR:=@List.filterMap_cons
abbrev LS:=@Nat.le_max_left
inductive D where
 | int (k:IntKind) (n:Int)
 | bool (b:Bool)
 | str (s:List UInt8)
 | sl (xs:List D)
 | agg (cs:List D)
def D.cells:D→List D
 | .agg cs=>cs
 | .int k n=>[.int k n]
 | .bool b=>[.bool b]
 | .str s=>[.str s]
 | .sl xs=>[.sl xs]
def D.plain:D→Bool
 | .int _ _=>true
 | .bool _=>true
 | .str _=>true
 | .sl _=>false
 | .agg _=>false
def D.one:D→Bool
 | .int _ _=>true
 | .bool _=>true
 | .str _=>true
 | .sl _=>true
 | .agg _=>false
def Ur (p:D→Bool):List D→Bool
 | []=>true
 | x :: xs=>p x&&Ur p xs
def D.flat (d:D):Bool:=Ur D.plain d.cells
inductive AV where
 | d (x:D)
 | nil
 | nilp
 | nili
 | ptr (id off:Nat)
 | prow (id sz i off:Nat)
 | pim (cs:List D)
 | own (id:Nat)
 | ownv (id off len:Nat)
 | bnil (id e:Nat)
 | bbuf (te:Nat) (l:List UInt8)
 | agg (cs:List AV)
 | tup (vs:List AV)
 | clo (f:Nat) (caps:List AV)
 | junk
inductive Zh where
 | box (cs:List AV)
 | row (sz:Nat) (xs:List D) (ex fz:Bool)
 | tree (sz ns:Nat) (xs:List D) (lk:Option (Option Nat×Nat×Nat))
 | gone
abbrev Hp:=List (Nat×Zh)
abbrev Sl:=List (Nat×AV)
def bnd {α β:Type} (x:Option α) (f:α→Option β):Option β:=match x with
 | some a=>f a
 | none=>none
@[congr] theorem bnd_congr {α β:Type} {x y:Option α} {f:α→Option β} (h:x=y):bnd x f=bnd y f:=by rw[h]
theorem Zc {α β:Type} (a:α) (f:α→Option β):bnd (some a) f=f a:=rfl
theorem ZoL {α β:Type} (f:α→Option β):bnd none f=none:=rfl
theorem Zp8 {α β:Type} (c:Prop) [Decidable c] (a b:Option α) (f:α→Option β):bnd (if c then a else b) f=if c then bnd a f else bnd b f:=by split<;>rfl
theorem Za {α β:Type} {x:Option α} {f:α→Option β} {r:β} (h:bnd x f=some r):∃ a,x=some a∧f a=some r:=by
 cases x with
 | none=>cases h
 | some a=>exact⟨a,rfl,h⟩
def lkp {α:Type}:List (Nat×α)→Nat→Option α
 | [],_=>none
 | (k,v) :: r,t=>if k=t then some v else lkp r t
def ins {α:Type}:List (Nat×α)→Nat→α→List (Nat×α)
 | [],t,v=>[(t,v)]
 | (k,v) :: r,t,x=>if k<t then (t,x) :: (k,v) :: r else if k=t then (t,x) :: r else (k,v) :: ins r t x
def JC:Option AV→AV
 | some v=>v
 | none=>.junk
def gs (sl:Sl) (t:Nat):AV:=JC (lkp sl t)
structure St where
 sl:Sl
 hp:Hp
 nx:Nat
 m:Nat
def ZfR:AV→Option D
 | .d x=>if x.one then some x else none
 | _=>none
def Zag:List AV→Option (List D)
 | []=>some []
 | v :: r=>bnd (ZfR v) fun x=>bnd (Zag r) fun ds=>some (x :: ds)
def QP:List AV→Bool
 | []=>true
 | .bbuf _ _ :: _=>false
 | _ :: r=>QP r
def Zin:AV→Bool
 | .clo _ _=>true
 | _=>false
def JD:List AV→Bool
 | []=>false
 | v :: r=>Zin v || JD r
def VD (cs:List AV):Option (List D)→AV
 | some ds=>.d (.agg ds)
 | none=>if JD cs then .junk else .agg cs
def AV.solid:AV→Bool
 | .junk=>false
 | .bbuf _ _=>false
 | .tup _=>false
 | _=>true
def QW:List AV→Bool
 | []=>true
 | v :: r=>v.solid&&QW r
def V7 (cs:List AV):AV:=VD cs (Zag cs)
def AV.cells:AV→List AV
 | .agg cs=>cs
 | .d x=>x.cells.map .d
 | .nil=>[.nil] | .nilp=>[.nilp] | .nili=>[.nili] | .ptr a b=>[.ptr a b] | .prow a b c e=>[.prow a b c e] | .pim cs=>[.pim cs]
 | .own a=>[.own a] | .ownv a b c=>[.ownv a b c] | .bnil a b=>[.bnil a b] | .bbuf a b=>[.bbuf a b] | .tup vs=>[.tup vs] | .clo f c=>[.clo f c] | .junk=>[.junk]
def Vg:Value→AV
 | .bool b=>.d (.bool b)
 | .int k n=>.d (.int k n)
 | .string s=>.d (.str s.data.toList)
 | .slice none 0 0=>.nil
 | .pointer none=>.nilp
 | .nilIface=>.nili
 | _=>.junk
def evC:Value→AV
 | .agg cs=>V7 (cs.toList.map Vg)
 | v=>Vg v
def ev (sl:Sl):Operand→AV
 | .tmp t=>gs sl t
 | .const v=>evC v
 | .global _=>.junk
 | .func f=>.clo f []
def Zda:Value→Option D
 | .bool b=>some (.bool b)
 | .int k n=>some (.int k n)
 | .string s=>some (.str s.data.toList)
 | .slice none 0 0=>some (.sl [])
 | _=>none
def Qb {α β:Type} (f:α→Option β):List α→Option (List β)
 | []=>some []
 | x :: r=>bnd (f x) fun y=>bnd (Qb f r) fun ys=>some (y :: ys)
def evD:Value→Option D
 | .agg cs=>bnd (Qb Zda cs.toList) fun ds=>some (.agg ds)
 | v=>Zda v
def Y2:Option Zh→Option (List D)
 | some (.row _ xs _ _)=>some xs
 | some (.tree _ _ xs none)=>some xs
 | _=>none
def Zch (hp:Hp):AV→Option D
 | .d x=>some x
 | .nil=>some (.sl [])
 | .own id=>bnd (Y2 (lkp hp id)) fun xs=>some (.sl xs)
 | .ownv id off n=>bnd (Y2 (lkp hp id)) fun xs=>some (.sl ((xs.drop off).take n))
 | _=>none
def toD (hp:Hp):AV→Option D
 | .agg cs=>bnd (Qb (Zch hp) cs) fun ds=>if Ur D.one ds then some (.agg ds) else none
 | v=>Zch hp v
def Jm:AV→List Nat
 | .own id=>[id]
 | .ownv id _ _=>[id]
 | _=>[]
def Zah:AV→List Nat
 | .agg cs=>cs.flatMap Jm
 | v=>Jm v
def Zf:AV→List Nat
 | .own id=>[id]
 | .ownv id _ _=>[id]
 | .ptr id _=>[id]
 | .prow id _ _ _=>[id]
 | .bnil id _=>[id]
 | .junk | .bbuf _ _ | .d _ | .nil | .nilp | .nili | .pim _ | .agg _ | .tup _ | .clo _ _=>[]
def Zp:AV→List Nat
 | .agg cs=>cs.flatMap Zf
 | .clo _ cs=>cs.flatMap Zf
 | v=>Zf v
def Zo:AV→List Nat
 | .tup vs=>vs.flatMap Zp
 | v=>Zp v
def V8:Zh→List Nat
 | .box cs=>cs.flatMap Zp
 | .row _ _ _ _=>[]
 | .tree _ _ _ _=>[]
 | .gone=>[]
def ZfS:Option (Option Nat×Nat×Nat)→Option (Option Nat×Nat×Nat)
 | some q=>some (none,q.2)
 | none=>none
def Zai (g:Nat→Nat):AV→AV
 | .own id=>.own (g id)
 | .ownv id a b=>.ownv (g id) a b
 | .ptr id o=>.ptr (g id) o
 | .prow id s i o=>.prow (g id) s i o
 | .bnil id e=>.bnil (g id) e
 | v=>v
def JE (g:Nat→Nat):AV→AV
 | .agg cs=>.agg (cs.map (Zai g))
 | .clo f cs=>.clo f (cs.map (Zai g))
 | v=>Zai g v
def ren (g:Nat→Nat):AV→AV
 | .tup vs=>.tup (vs.map (JE g))
 | v=>JE g v
def Zdb (g:Nat→Nat):Zh→Zh
 | .box cs=>.box (cs.map (JE g))
 | .row s x e f=>.row s x e f
 | .tree s n x l=>.tree s n x (ZfS l)
 | .gone=>.gone
def ZQ (bad:List Nat):AV→AV
 | .own id=>if bad.contains id then .junk else .own id
 | .ownv id a b=>if bad.contains id then .junk else .ownv id a b
 | .ptr id o=>if bad.contains id then .junk else .ptr id o
 | .prow id s i o=>if bad.contains id then .junk else .prow id s i o
 | .bnil id e=>if bad.contains id then .junk else .bnil id e
 | v=>v
def ZB (bad:List Nat):AV→AV
 | .agg cs=>.agg (cs.map (ZQ bad))
 | .clo f cs=>.clo f (cs.map (ZQ bad))
 | v=>ZQ bad v
def kill (bad:List Nat):AV→AV
 | .tup vs=>.tup (vs.map (ZB bad))
 | v=>ZB bad v
def YE (bad:List Nat):Option (Option Nat×Nat×Nat)→Option (Option Nat×Nat×Nat)
 | some (some nm,q)=>if bad.contains nm then some (none,q) else some (some nm,q)
 | l=>l
def QJ (bad:List Nat):Zh→Zh
 | .box cs=>.box (cs.map (ZB bad))
 | .row s x e f=>.row s x e f
 | .tree s n x l=>.tree s n x (YE bad l)
 | .gone=>.gone
def Zd7 {α β:Type} (f:α→β):List (Nat×α)→List (Nat×β)
 | []=>[]
 | (k,v) :: r=>(k,f v) :: Zd7 f r
def X0:Zh→Zh
 | .row s x e _=>.row s x e true
 | .tree s n x l=>.tree s n x l
 | o=>o
def freeze (ids:List Nat):Hp→Hp
 | []=>[]
 | (k,o) :: r=>(k,if ids.contains k then X0 o else o) :: freeze ids r
def Zdc:Option Zh→Option (List D×Bool)
 | some (.row _ xs ex _)=>some (xs,ex)
 | _=>none
def Uo (hp:Hp):AV→Option (D×Bool×List Nat)
 | .d x=>some (x,x.flat,[])
 | .nil=>some (.sl [],true,[])
 | .own id=>bnd (Zdc (lkp hp id)) fun q=>some (.sl q.1,q.2,[id])
 | _=>none
def Yt (hp:Hp):List AV→Option (List D×Bool×List Nat)
 | []=>some ([],true,[])
 | v :: r=>bnd (Uo hp v) fun q=>bnd (Yt hp r) fun p=>
   if q.1.one&&!q.2.2.any p.2.2.contains then some (q.1 :: p.1,q.2.1&&p.2.1,q.2.2++p.2.2) else none
def give (hp:Hp):AV→Option (D×Bool×List Nat)
 | .agg cs=>bnd (Yt hp cs) fun p=>some (.agg p.1,p.2.1,p.2.2)
 | v=>Uo hp v
def Y3 (hp:Hp):List AV→Option (List D×Bool×List Nat)
 | []=>some ([],true,[])
 | v :: r=>bnd (give hp v) fun q=>bnd (Y3 hp r) fun p=>
   if !q.2.2.any p.2.2.contains then some (q.1 :: p.1,q.2.1&&p.2.1,q.2.2++p.2.2) else none
def Zm {α:Type} (cs:List α) (off:Nat) (vs:List α):List α:=cs.take off++vs++cs.drop (off+vs.length)
def Yu (x:D) (off:Nat) (ds:List D):D:=match x with
 | .agg cs=>.agg (Zm cs off ds)
 | _=>ds.headD x
def Vm (op:BinOp) (k:IntKind) (a b:Int):Option D:=
 match op with
 | .add=>some (.int k (k.wrap (a+b)))
 | .sub=>some (.int k (k.wrap (a-b)))
 | .mul=>some (.int k (k.wrap (a*b)))
 | .quo=>if b=0 then none else some (.int k (k.wrap (a.tdiv b)))
 | .rem=>if b=0 then none else some (.int k (a.tmod b))
 | .and=>some (.int k (k.wrap (BitVec.ofInt k.bits a &&& BitVec.ofInt k.bits b).toNat))
 | .or=>some (.int k (k.wrap (BitVec.ofInt k.bits a ||| BitVec.ofInt k.bits b).toNat))
 | .xor=>some (.int k (k.wrap (BitVec.ofInt k.bits a ^^^ BitVec.ofInt k.bits b).toNat))
 | .andNot=>some (.int k (k.wrap (BitVec.ofInt k.bits a &&& ~~~(BitVec.ofInt k.bits b)).toNat))
 | .eql=>some (.bool (a==b))
 | .neq=>some (.bool (a != b))
 | .lss=>some (.bool (decide (a<b)))
 | .leq=>some (.bool (decide (a≤b)))
 | .gtr=>some (.bool (decide (a>b)))
 | .geq=>some (.bool (decide (a≥b)))
 | .shl | .shr=>none
def Zd8 (op:BinOp) (k:IntKind) (a b:Int):Option D:=
 if b<0 then none else
 match op with
 | .shl=>some (.int k (k.wrap (a*2 ^ (min b.toNat k.bits))))
 | .shr=>some (.int k (a.fdiv (2 ^ (min b.toNat k.bits))))
 | _=>none
def ZlK:Nat:=1152921504606846976
def Zkp (op:BinOp) (a b:List UInt8):Option D:=
 match op with
 | .add=>if a.length+b.length≤ZlK then some (.str (a++b)) else none
 | .eql=>some (.bool (a==b))
 | .neq=>some (.bool (!(a==b)))
 | _=>none
def D.beq1:D→D→Option Bool
 | .int _ a,.int _ b=>some (a==b)
 | .bool a,.bool b=>some (a==b)
 | .str a,.str b=>some (a==b)
 | _,_=>none
def beqL:List D→List D→Option Bool
 | [],[]=>some true
 | x :: xs,y :: ys=>bnd (D.beq1 x y) fun a=>bnd (beqL xs ys) fun b=>some (a&&b)
 | _,_=>none
def agg2 (op:BinOp) (r:Option Bool):Option AV:=match op with
 | .eql=>bnd r fun r=>some (.d (.bool r))
 | .neq=>bnd r fun r=>some (.d (.bool (!r)))
 | _=>none
def asD (r:Option D):Option AV:=bnd r fun x=>some (.d x)
def V9 (op:BinOp) (k k' : IntKind) (a b:Int):Option AV:=match op with
 | .shl | .shr=>asD (Zd8 op k a b)
 | _=>if k=k' then asD (Vm op k a b) else none
def Zio (op:BinOp) (a b:Bool):Option AV:=match op with
 | .eql=>some (.d (.bool (a==b)))
 | .neq=>some (.d (.bool (!(a==b))))
 | _=>none
def vbin (op:BinOp):AV→AV→Option AV
 | .d (.int k a),.d (.int k' b)=>V9 op k k' a b
 | .d (.str a),.d (.str b)=>asD (Zkp op a b)
 | _,_=>none
def neg1 (op:UnOp) (k:IntKind) (a:Int):Option AV:=match op with
 | .neg=>some (.d (.int k (k.wrap (0-a))))
 | _=>none
def not1 (op:UnOp) (a:Bool):Option AV:=match op with
 | .not=>some (.d (.bool (!a)))
 | _=>none
def vun (op:UnOp):AV→Option AV
 | .d (.int k a)=>neg1 op k a
 | .d (.bool a)=>not1 op a
 | _=>none
def JF (hp:Hp):AV→Option Nat
 | .d (.sl xs)=>some xs.length
 | .nil=>some 0
 | .own id=>bnd (Y2 (lkp hp id)) fun xs=>some xs.length
 | .ownv _ _ n=>some n
 | _=>none
def ZnB:AV→Option Nat
 | .d (.str s)=>some s.length
 | _=>none
def minI (a b:Int):Int:=if b<a then b else a
def maxI (a b:Int):Int:=if b>a then b else a
end Go.Abs
