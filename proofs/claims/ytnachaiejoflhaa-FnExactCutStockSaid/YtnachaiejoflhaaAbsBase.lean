/- Own text. -/
import Derived.Orders
import Derived.Laws.AppendOwn
set_option linter.unusedVariables false
set_option linter.unusedSimpArgs false
namespace Go.Abs
open Go
abbrev Ka:=@Bool.false_eq_true
abbrev Kb:=@Bool.and_eq_true
abbrev Kc:=@List.getElem?_eq_some_iff
abbrev Kd:=@List.mem_append
abbrev Ke:=@List.mem_of_getElem?
abbrev Kf:=@List.mem_cons
abbrev Kg:=@Nat.le_refl
abbrev Kh:=@List.eq_nil_of_length_eq_zero
abbrev Ki:=@if_false
abbrev Kj:=@if_true
abbrev Kk:=@List.mem_flatMap
abbrev Kl:=@List.getElem?_eq_getElem
abbrev Km:=@List.mem_cons_of_mem
abbrev Kn:=@if_neg
abbrev Ko:=@decide_eq_true_eq
abbrev Kp:=@List.length_cons
abbrev Kq:=@List.length_filterMap_le
abbrev Kr:=@Nat.ne_of_gt
abbrev Ks:=@List.length_append
abbrev Kt:=@if_pos
abbrev Ku:=@List.getElem?_append_right
abbrev Kv:=@List.flatMap_cons
abbrev Kw:=@List.all_eq_true
abbrev Kx:=@List.map_cons
abbrev Ky:=@Nat.mul_le_mul_right
abbrev Kz:=@Array.getElem?_eq_some_iff
abbrev KA:=@Nat.add_mul
abbrev KB:=@List.map_congr_left
abbrev KC:=@List.contains_eq_mem
abbrev KD:=@Nat.le_trans
abbrev KE:=@List.getElem?_append_left
abbrev KF:=@List.getElem?_eq_none
abbrev KG:=@Nat.lt_or_ge
abbrev KH:=@Bool.not_eq_true'
abbrev KI:=@List.cons_append
abbrev KJ:=@List.count_pos_iff
abbrev KK:=@List.getElem?_drop
abbrev KL:=@decide_eq_false_iff_not
abbrev KM:=@Option.map_some
abbrev KN:=@List.flatten_cons
abbrev KO:=@List.getElem?_set_self
abbrev KP:=@Option.isSome_iff_exists
abbrev KQ:=@Nat.add_assoc
abbrev KR:=@List.getElem?_set_ne
abbrev KS:=@List.drop_eq_getElem_cons
abbrev KT:=@List.mem_cons_self
abbrev KU:=@List.mem_singleton
abbrev KV:=@List.ext_getElem?
abbrev KW:=@List.getElem?_take
abbrev KX:=@List.nodup_cons
abbrev KY:=@List.length_nil
abbrev KZ:=@Array.length_toList
abbrev K0:=@List.append_assoc
abbrev K1:=@List.take_append_drop
abbrev K2:=@List.nodup_nil
abbrev K3:=@List.mem_range
abbrev K4:=@List.mem_map
abbrev K5:=@List.length_map
abbrev K6:=@Nat.eq_zero_or_pos
abbrev K7:=@List.getElem?_of_mem
abbrev K8:=@Nat.add_sub_cancel_left
abbrev K9:=@List.all_cons
abbrev La:=@List.take_add_one
abbrev Lb:=@List.map_id
abbrev Lc:=@Bool.or_eq_true
abbrev Ld:=@List.length_take
abbrev Le:=@decide_eq_true
abbrev Lf:=@List.getElem?_map
abbrev Lg:=@List.getElem?_cons_succ
abbrev Lh:=@decide_eq_false
abbrev Li:=@List.replicate_succ
abbrev Lj:=@Int.natCast_zero
abbrev Lk:=@Nat.lt_or_gt_of_ne
abbrev Ll:=@List.filterMap_append
abbrev Lm:=@List.pairwise_append
abbrev Ln:=@List.nodup_iff_count
abbrev Lo:=@List.flatten_append
abbrev Lp:=@List.any_eq_true
abbrev Lq:=@List.length_drop
abbrev Lr:=@List.getElem?_cons_zero
abbrev Ls:=@List.pairwise_cons
abbrev Lt:=@Nat.add_zero
abbrev Lu:=@List.nil_append
abbrev Lv:=@Bool.and_true
abbrev Lw:=@Array.getElem?_modify
abbrev Lx:=@Array.getElem?_toList
abbrev Ly:=@List.mem_iff_getElem?
abbrev Lz:=@List.nodup_append
abbrev LA:=@List.size_toArray
abbrev LB:=@List.mem_of_mem_take
abbrev LC:=@List.mem_of_mem_drop
abbrev LD:=@Array.toList_setIfInBounds
abbrev LF:=@List.getElem?_append
abbrev LG:=@List.eraseIdx_of_length_le
abbrev LH:=@Bool.not_eq_true
abbrev LI:=@List.nodup_range
abbrev LJ:=@List.not_mem_nil
abbrev LK:=@Nat.le_max_right
abbrev LL:=@Int.add_zero
abbrev LM:=@List.filterMap_cons
abbrev LN:=@Nat.le_max_left
abbrev LP:=@List.drop_drop
abbrev LQ:=@List.map_nil
abbrev LR:=@List.take_zero
abbrev LS:=@Nat.sub_self
inductive D where
 | int (k:IntKind) (n:Int)
 | bool (b:Bool)
 | str (s:List UInt8)
 | sl (xs:List D)
 | agg (cs:List D)
def D.cells:D→List D
 | .agg cs=>cs
 | .int k n=>[.int k n]
 | .bool b=>[.bool b]
 | .str s=>[.str s]
 | .sl xs=>[.sl xs]
def D.plain:D→Bool
 | .int _ _=>true
 | .bool _=>true
 | .str _=>true
 | .sl _=>false
 | .agg _=>false
def D.one:D→Bool
 | .int _ _=>true
 | .bool _=>true
 | .str _=>true
 | .sl _=>true
 | .agg _=>false
def Wy (p:D→Bool):List D→Bool
 | []=>true
 | x :: xs=>p x&&Wy p xs
def D.flat (d:D):Bool:=Wy D.plain d.cells
inductive AV where
 | d (x:D)
 | nil
 | nilp
 | nili
 | ptr (id off:Nat)
 | prow (id sz i off:Nat)
 | pim (cs:List D)
 | own (id:Nat)
 | ownv (id off len:Nat)
 | bnil (id e:Nat)
 | bbuf (te:Nat) (l:List UInt8)
 | agg (cs:List AV)
 | tup (vs:List AV)
 | clo (f:Nat) (caps:List AV)
 | junk
inductive Zk where
 | box (cs:List AV)
 | row (sz:Nat) (xs:List D) (ex fz:Bool)
 | tree (sz ns:Nat) (xs:List D) (lk:Option (Option Nat×Nat×Nat))
 | gone
abbrev Hp:=List (Nat×Zk)
abbrev Sl:=List (Nat×AV)
def bnd {α β:Type} (x:Option α) (f:α→Option β):Option β:=match x with
 | some a=>f a
 | none=>none
@[congr] theorem bnd_congr {α β:Type} {x y:Option α} {f:α→Option β} (h:x=y):bnd x f=bnd y f:=by rw[h]
theorem Zc {α β:Type} (a:α) (f:α→Option β):bnd (some a) f=f a:=rfl
theorem Zrr {α β:Type} (f:α→Option β):bnd none f=none:=rfl
theorem Zs1 {α β:Type} (c:Prop) [Decidable c] (a b:Option α) (f:α→Option β):bnd (if c then a else b) f=if c then bnd a f else bnd b f:=by split<;>rfl
theorem Za {α β:Type} {x:Option α} {f:α→Option β} {r:β} (h:bnd x f=some r):∃ a,x=some a∧f a=some r:=by
 cases x with
 | none=>cases h
 | some a=>exact⟨a,rfl,h⟩
def lkp {α:Type}:List (Nat×α)→Nat→Option α
 | [],_=>none
 | (k,v) :: r,t=>if k=t then some v else lkp r t
def ins {α:Type}:List (Nat×α)→Nat→α→List (Nat×α)
 | [],t,v=>[(t,v)]
 | (k,v) :: r,t,x=>if k<t then (t,x) :: (k,v) :: r else if k=t then (t,x) :: r else (k,v) :: ins r t x
def JV:Option AV→AV
 | some v=>v
 | none=>.junk
def gs (sl:Sl) (t:Nat):AV:=JV (lkp sl t)
structure St where
 sl:Sl
 hp:Hp
 nx:Nat
 m:Nat
def Zhh:AV→Option D
 | .d x=>if x.one then some x else none
 | _=>none
def ZaL:List AV→Option (List D)
 | []=>some []
 | v :: r=>bnd (Zhh v) fun x=>bnd (ZaL r) fun ds=>some (x :: ds)
def QW:List AV→Bool
 | []=>true
 | .bbuf _ _ :: _=>false
 | _ :: r=>QW r
def Zki:AV→Bool
 | .clo _ _=>true
 | _=>false
def JW:List AV→Bool
 | []=>false
 | v :: r=>Zki v || JW r
def Vt (cs:List AV):Option (List D)→AV
 | some ds=>.d (.agg ds)
 | none=>if JW cs then .junk else .agg cs
def AV.solid:AV→Bool
 | .junk=>false
 | .bbuf _ _=>false
 | .tup _=>false
 | _=>true
def QS:List AV→Bool
 | []=>true
 | v :: r=>v.solid&&QS r
def VV (cs:List AV):AV:=Vt cs (ZaL cs)
def AV.cells:AV→List AV
 | .agg cs=>cs
 | .d x=>x.cells.map .d
 | .nil=>[.nil] | .nilp=>[.nilp] | .nili=>[.nili] | .ptr a b=>[.ptr a b] | .prow a b c e=>[.prow a b c e] | .pim cs=>[.pim cs]
 | .own a=>[.own a] | .ownv a b c=>[.ownv a b c] | .bnil a b=>[.bnil a b] | .bbuf a b=>[.bbuf a b] | .tup vs=>[.tup vs] | .clo f c=>[.clo f c] | .junk=>[.junk]
def Y2:Value→AV
 | .bool b=>.d (.bool b)
 | .int k n=>.d (.int k n)
 | .string s=>.d (.str s.data.toList)
 | .slice none 0 0=>.nil
 | .pointer none=>.nilp
 | .nilIface=>.nili
 | _=>.junk
def evC:Value→AV
 | .agg cs=>VV (cs.toList.map Y2)
 | v=>Y2 v
def ev (sl:Sl):Operand→AV
 | .tmp t=>gs sl t
 | .const v=>evC v
 | .global _=>.junk
 | .func f=>.clo f []
def Zep:Value→Option D
 | .bool b=>some (.bool b)
 | .int k n=>some (.int k n)
 | .string s=>some (.str s.data.toList)
 | .slice none 0 0=>some (.sl [])
 | _=>none
def Qa {α β:Type} (f:α→Option β):List α→Option (List β)
 | []=>some []
 | x :: r=>bnd (f x) fun y=>bnd (Qa f r) fun ys=>some (y :: ys)
def evD:Value→Option D
 | .agg cs=>bnd (Qa Zep cs.toList) fun ds=>some (.agg ds)
 | v=>Zep v
def YS:Option Zk→Option (List D)
 | some (.row _ xs _ _)=>some xs
 | some (.tree _ _ xs none)=>some xs
 | _=>none
def Zdn (hp:Hp):AV→Option D
 | .d x=>some x
 | .nil=>some (.sl [])
 | .own id=>bnd (YS (lkp hp id)) fun xs=>some (.sl xs)
 | .ownv id off n=>bnd (YS (lkp hp id)) fun xs=>some (.sl ((xs.drop off).take n))
 | _=>none
def toD (hp:Hp):AV→Option D
 | .agg cs=>bnd (Qa (Zdn hp) cs) fun ds=>if Wy D.one ds then some (.agg ds) else none
 | v=>Zdn hp v
def JC:AV→List Nat
 | .own id=>[id]
 | .ownv id _ _=>[id]
 | _=>[]
def ZaM:AV→List Nat
 | .agg cs=>cs.flatMap JC
 | v=>JC v
def Zi:AV→List Nat
 | .own id=>[id]
 | .ownv id _ _=>[id]
 | .ptr id _=>[id]
 | .prow id _ _ _=>[id]
 | .bnil id _=>[id]
 | .junk | .bbuf _ _ | .d _ | .nil | .nilp | .nili | .pim _ | .agg _ | .tup _ | .clo _ _=>[]
def Zs:AV→List Nat
 | .agg cs=>cs.flatMap Zi
 | .clo _ cs=>cs.flatMap Zi
 | v=>Zi v
def Zo:AV→List Nat
 | .tup vs=>vs.flatMap Zs
 | v=>Zs v
def VX:Zk→List Nat
 | .box cs=>cs.flatMap Zs
 | .row _ _ _ _=>[]
 | .tree _ _ _ _=>[]
 | .gone=>[]
def Zhi:Option (Option Nat×Nat×Nat)→Option (Option Nat×Nat×Nat)
 | some q=>some (none,q.2)
 | none=>none
def ZaN (g:Nat→Nat):AV→AV
 | .own id=>.own (g id)
 | .ownv id a b=>.ownv (g id) a b
 | .ptr id o=>.ptr (g id) o
 | .prow id s i o=>.prow (g id) s i o
 | .bnil id e=>.bnil (g id) e
 | v=>v
def Zap (g:Nat→Nat):AV→AV
 | .agg cs=>.agg (cs.map (ZaN g))
 | .clo f cs=>.clo f (cs.map (ZaN g))
 | v=>ZaN g v
def ren (g:Nat→Nat):AV→AV
 | .tup vs=>.tup (vs.map (Zap g))
 | v=>Zap g v
def Zeq (g:Nat→Nat):Zk→Zk
 | .box cs=>.box (cs.map (Zap g))
 | .row s x e f=>.row s x e f
 | .tree s n x l=>.tree s n x (Zhi l)
 | .gone=>.gone
def ZT (bad:List Nat):AV→AV
 | .own id=>if bad.contains id then .junk else .own id
 | .ownv id a b=>if bad.contains id then .junk else .ownv id a b
 | .ptr id o=>if bad.contains id then .junk else .ptr id o
 | .prow id s i o=>if bad.contains id then .junk else .prow id s i o
 | .bnil id e=>if bad.contains id then .junk else .bnil id e
 | v=>v
def ZG (bad:List Nat):AV→AV
 | .agg cs=>.agg (cs.map (ZT bad))
 | .clo f cs=>.clo f (cs.map (ZT bad))
 | v=>ZT bad v
def kill (bad:List Nat):AV→AV
 | .tup vs=>.tup (vs.map (ZG bad))
 | v=>ZG bad v
def Yv (bad:List Nat):Option (Option Nat×Nat×Nat)→Option (Option Nat×Nat×Nat)
 | some (some nm,q)=>if bad.contains nm then some (none,q) else some (some nm,q)
 | l=>l
def QH (bad:List Nat):Zk→Zk
 | .box cs=>.box (cs.map (ZG bad))
 | .row s x e f=>.row s x e f
 | .tree s n x l=>.tree s n x (Yv bad l)
 | .gone=>.gone
def Zfl {α β:Type} (f:α→β):List (Nat×α)→List (Nat×β)
 | []=>[]
 | (k,v) :: r=>(k,f v) :: Zfl f r
def XM:Zk→Zk
 | .row s x e _=>.row s x e true
 | .tree s n x l=>.tree s n x l
 | o=>o
def freeze (ids:List Nat):Hp→Hp
 | []=>[]
 | (k,o) :: r=>(k,if ids.contains k then XM o else o) :: freeze ids r
def Zer:Option Zk→Option (List D×Bool)
 | some (.row _ xs ex _)=>some (xs,ex)
 | _=>none
def Uw (hp:Hp):AV→Option (D×Bool×List Nat)
 | .d x=>some (x,x.flat,[])
 | .nil=>some (.sl [],true,[])
 | .own id=>bnd (Zer (lkp hp id)) fun q=>some (.sl q.1,q.2,[id])
 | _=>none
def Yi (hp:Hp):List AV→Option (List D×Bool×List Nat)
 | []=>some ([],true,[])
 | v :: r=>bnd (Uw hp v) fun q=>bnd (Yi hp r) fun p=>
   if q.1.one&&!q.2.2.any p.2.2.contains then some (q.1 :: p.1,q.2.1&&p.2.1,q.2.2++p.2.2) else none
def give (hp:Hp):AV→Option (D×Bool×List Nat)
 | .agg cs=>bnd (Yi hp cs) fun p=>some (.agg p.1,p.2.1,p.2.2)
 | v=>Uw hp v
def YT (hp:Hp):List AV→Option (List D×Bool×List Nat)
 | []=>some ([],true,[])
 | v :: r=>bnd (give hp v) fun q=>bnd (YT hp r) fun p=>
   if !q.2.2.any p.2.2.contains then some (q.1 :: p.1,q.2.1&&p.2.1,q.2.2++p.2.2) else none
def Zm {α:Type} (cs:List α) (off:Nat) (vs:List α):List α:=cs.take off++vs++cs.drop (off+vs.length)
def Xf (x:D) (off:Nat) (ds:List D):D:=match x with
 | .agg cs=>.agg (Zm cs off ds)
 | _=>ds.headD x
def Vz (op:BinOp) (k:IntKind) (a b:Int):Option D:=
 match op with
 | .add=>some (.int k (k.wrap (a+b)))
 | .sub=>some (.int k (k.wrap (a-b)))
 | .mul=>some (.int k (k.wrap (a*b)))
 | .quo=>if b=0 then none else some (.int k (k.wrap (a.tdiv b)))
 | .rem=>if b=0 then none else some (.int k (a.tmod b))
 | .and=>some (.int k (k.wrap (BitVec.ofInt k.bits a &&& BitVec.ofInt k.bits b).toNat))
 | .or=>some (.int k (k.wrap (BitVec.ofInt k.bits a ||| BitVec.ofInt k.bits b).toNat))
 | .xor=>some (.int k (k.wrap (BitVec.ofInt k.bits a ^^^ BitVec.ofInt k.bits b).toNat))
 | .andNot=>some (.int k (k.wrap (BitVec.ofInt k.bits a &&& ~~~(BitVec.ofInt k.bits b)).toNat))
 | .eql=>some (.bool (a==b))
 | .neq=>some (.bool (a != b))
 | .lss=>some (.bool (decide (a<b)))
 | .leq=>some (.bool (decide (a≤b)))
 | .gtr=>some (.bool (decide (a>b)))
 | .geq=>some (.bool (decide (a≥b)))
 | .shl | .shr=>none
def Zfm (op:BinOp) (k:IntKind) (a b:Int):Option D:=
 if b<0 then none else
 match op with
 | .shl=>some (.int k (k.wrap (a*2 ^ (min b.toNat k.bits))))
 | .shr=>some (.int k (a.fdiv (2 ^ (min b.toNat k.bits))))
 | _=>none
def Zon:Nat:=1152921504606846976
def ZmC (op:BinOp) (a b:List UInt8):Option D:=
 match op with
 | .add=>if a.length+b.length≤Zon then some (.str (a++b)) else none
 | .eql=>some (.bool (a==b))
 | .neq=>some (.bool (!(a==b)))
 | _=>none
def D.beq1:D→D→Option Bool
 | .int _ a,.int _ b=>some (a==b)
 | .bool a,.bool b=>some (a==b)
 | .str a,.str b=>some (a==b)
 | _,_=>none
def beqL:List D→List D→Option Bool
 | [],[]=>some true
 | x :: xs,y :: ys=>bnd (D.beq1 x y) fun a=>bnd (beqL xs ys) fun b=>some (a&&b)
 | _,_=>none
def agg2 (op:BinOp) (r:Option Bool):Option AV:=match op with
 | .eql=>bnd r fun r=>some (.d (.bool r))
 | .neq=>bnd r fun r=>some (.d (.bool (!r)))
 | _=>none
def asD (r:Option D):Option AV:=bnd r fun x=>some (.d x)
def WH (op:BinOp) (k k' : IntKind) (a b:Int):Option AV:=match op with
 | .shl | .shr=>asD (Zfm op k a b)
 | _=>if k=k' then asD (Vz op k a b) else none
def Zkj (op:BinOp) (a b:Bool):Option AV:=match op with
 | .eql=>some (.d (.bool (a==b)))
 | .neq=>some (.d (.bool (!(a==b))))
 | _=>none
def vbin (op:BinOp):AV→AV→Option AV
 | .d (.int k a),.d (.int k' b)=>WH op k k' a b
 | .d (.str a),.d (.str b)=>asD (ZmC op a b)
 | _,_=>none
def neg1 (op:UnOp) (k:IntKind) (a:Int):Option AV:=match op with
 | .neg=>some (.d (.int k (k.wrap (0-a))))
 | _=>none
def not1 (op:UnOp) (a:Bool):Option AV:=match op with
 | .not=>some (.d (.bool (!a)))
 | _=>none
def vun (op:UnOp):AV→Option AV
 | .d (.int k a)=>neg1 op k a
 | .d (.bool a)=>not1 op a
 | _=>none
def JX (hp:Hp):AV→Option Nat
 | .d (.sl xs)=>some xs.length
 | .nil=>some 0
 | .own id=>bnd (YS (lkp hp id)) fun xs=>some xs.length
 | .ownv _ _ n=>some n
 | _=>none
def Zqh:AV→Option Nat
 | .d (.str s)=>some s.length
 | _=>none
def minI (a b:Int):Int:=if b<a then b else a
def maxI (a b:Int):Int:=if b>a then b else a
end Go.Abs
