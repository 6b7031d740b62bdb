/- Own text. -/
import Derived.Orders
import Derived.Laws.AppendOwn
set_option linter.unusedVariables false
set_option linter.unusedSimpArgs false
namespace Go.Abs
open Go
abbrev Ka:=@Bool.false_eq_true
abbrev Kb:=@Bool.and_eq_true
abbrev Kc:=@List.mem_append
abbrev Kd:=@List.getElem?_eq_some_iff
abbrev Ke:=@List.mem_cons
abbrev Kf:=@if_false
abbrev Kg:=@if_true
abbrev Kh:=@Nat.le_refl
abbrev Ki:=@List.length_cons
abbrev Kj:=@decide_eq_true_eq
abbrev Kk:=@List.length_append
abbrev Kl:=@if_neg
abbrev Km:=@if_pos
abbrev Kn:=@List.map_cons
abbrev Ko:=@List.eq_nil_of_length_eq_zero
abbrev Kp:=@List.mem_of_getElem?
abbrev Kq:=@decide_eq_false
abbrev Kr:=@List.mem_flatMap
abbrev Ks:=@List.mem_cons_of_mem
abbrev Kt:=@List.length_map
abbrev Ku:=@List.getElem?_append_left
abbrev Kv:=@List.getElem?_append_right
abbrev Kw:=@decide_eq_true
abbrev Kx:=@List.map_congr_left
abbrev Ky:=@Nat.ne_of_gt
abbrev Kz:=@Nat.zero_add
abbrev KA:=@List.mem_singleton
abbrev KB:=@List.map_nil
abbrev KC:=@List.take_add_one
abbrev KD:=@List.length_nil
abbrev KE:=@List.getElem?_eq_getElem
abbrev KF:=@Nat.mul_le_mul_right
abbrev KG:=@List.flatMap_cons
abbrev KH:=@Bool.not_eq_true'
abbrev KI:=@Nat.add_mul
abbrev KJ:=@Array.getElem?_eq_some_iff
abbrev KK:=@Nat.add_assoc
abbrev KL:=@decide_eq_false_iff_not
abbrev KM:=@List.map_append
abbrev KN:=@List.cons_append
abbrev KO:=@List.all_eq_true
abbrev KP:=@List.contains_eq_mem
abbrev KQ:=@List.mem_map
abbrev KR:=@List.getElem?_eq_none
abbrev KS:=@List.append_assoc
abbrev KT:=@List.take_of_length_le
abbrev KU:=@Option.map_some
abbrev KV:=@List.count_pos_iff
abbrev KW:=@Array.length_toList
abbrev KX:=@Nat.lt_or_ge
abbrev KY:=@List.nodup_cons
abbrev KZ:=@Int.toNat_natCast
abbrev K0:=@List.flatten_cons
abbrev K3:=@List.getElem?_cons_succ
abbrev K4:=@Nat.mul_one
abbrev K5:=@Bool.or_eq_true
abbrev K6:=@List.append_nil
abbrev K7:=@List.ext_getElem?
abbrev K8:=@List.mem_cons_self
abbrev K9:=@Option.isSome_iff_exists
abbrev La:=@Bool.true_and
abbrev Lb:=@List.pairwise_append
abbrev Lc:=@List.getElem?_set_ne
abbrev Ld:=@List.getElem?_drop
abbrev Le:=@Nat.le_trans
abbrev Lg:=@Nat.add_sub_cancel_left
abbrev Lh:=@List.nodup_nil
abbrev Li:=@List.mem_range
abbrev Lj:=@List.getElem?_take
abbrev Lk:=@List.mem_filter
abbrev Ll:=@List.take_length
abbrev Lm:=@List.drop_eq_getElem_cons
abbrev Ln:=@List.flatten_append
abbrev Lo:=@List.getElem?_map
abbrev Lp:=@List.any_eq_false
abbrev Lq:=@Nat.add_sub_cancel
abbrev Lr:=@Nat.eq_zero_or_pos
abbrev Lt:=@List.any_eq_true
abbrev Lu:=@List.length_take
abbrev Lv:=@List.all_cons
abbrev Lw:=@List.nodup_append
abbrev Lx:=@List.getD_eq_getElem?_getD
abbrev Ly:=@List.getElem?_range
abbrev Lz:=@List.nil_append
abbrev LA:=@List.map_id
abbrev LB:=@List.not_mem_nil
abbrev LC:=@Option.toList_some
abbrev LD:=@Bool.and_true
abbrev LF:=@List.length_filterMap_le
abbrev LG:=@List.getElem?_set_self
abbrev LH:=@List.length_drop
abbrev LI:=@List.pairwise_cons
abbrev LJ:=@Nat.lt_or_gt_of_ne
abbrev LK:=@List.length_filter_le
abbrev LL:=@List.filterMap_append
abbrev LM:=@Array.getElem?_toList
abbrev LN:=@List.take_append_drop
abbrev LP:=@List.getElem?_set
abbrev LQ:=@List.getElem?_of_mem
abbrev LR:=@List.nodup_iff_count
abbrev LS:=@List.size_toArray
abbrev LU:=@List.filter_eq_self
abbrev LV:=@List.replicate_succ
abbrev LX:=@Nat.add_le_add_left
abbrev LY:=@List.filter_cons
abbrev LZ:=@Nat.zero_le
abbrev L0:=@List.filter_filter
abbrev L1:=@Nat.add_zero
abbrev L2:=@Bool.decide_and
abbrev L3:=@Int.natCast_one
abbrev L4:=@Array.getElem?_modify
abbrev L5:=@List.getElem?_toArray
abbrev L6:=@Bool.false_and
abbrev L7:=@List.take_zero
abbrev L8:=@List.mem_of_mem_take
abbrev L9:=@Array.toList_setIfInBounds
abbrev Kaa:=@List.getElem?_append
abbrev Kab:=@Bool.not_eq_true
abbrev Kac:=@List.map_map
abbrev Kad:=@List.nodup_range
abbrev Kae:=@Nat.le_max_right
abbrev Kaf:=@List.filterMap_cons
abbrev Kag:=@List.headD_cons
abbrev Kah:=@Nat.le_max_left
abbrev Kai:=@List.filter_append
abbrev Kaj:=@Nat.lt_of_lt_of_le
abbrev Kak:=@Bool.decide_or
inductive D where
 | int (k:IntKind) (n:Int)
 | bool (b:Bool)
 | str (s:List UInt8)
 | sl (xs:List D)
 | agg (cs:List D)
def D.cells:D→List D
 | .agg cs=>cs
 | .int k n=>[.int k n]
 | .bool b=>[.bool b]
 | .str s=>[.str s]
 | .sl xs=>[.sl xs]
def D.plain:D→Bool
 | .int _ _=>true
 | .bool _=>true
 | .str _=>true
 | .sl _=>false
 | .agg _=>false
def D.one:D→Bool
 | .int _ _=>true
 | .bool _=>true
 | .str _=>true
 | .sl _=>true
 | .agg _=>false
def Ul (p:D→Bool):List D→Bool
 | []=>true
 | x :: xs=>p x&&Ul p xs
def D.flat (d:D):Bool:=Ul D.plain d.cells
inductive AV where
 | d (x:D)
 | nil
 | nilp
 | nili
 | ptr (id off:Nat)
 | prow (id sz i off:Nat)
 | pim (cs:List D)
 | own (id:Nat)
 | ownv (id off len:Nat)
 | bnil (id e:Nat)
 | bbuf (te:Nat) (l:List UInt8)
 | agg (cs:List AV)
 | tup (vs:List AV)
 | clo (f:Nat) (caps:List AV)
 | junk
inductive Zg where
 | box (cs:List AV)
 | row (sz:Nat) (xs:List D) (ex fz:Bool)
 | tree (sz ns:Nat) (xs:List D) (lk:Option (Option Nat×Nat×Nat))
 | gone
abbrev Hp:=List (Nat×Zg)
abbrev Sl:=List (Nat×AV)
def bnd {α β:Type} (x:Option α) (f:α→Option β):Option β:=match x with
 | some a=>f a
 | none=>none
@[congr] theorem bnd_congr {α β:Type} {x y:Option α} {f:α→Option β} (h:x=y):bnd x f=bnd y f:=by rw[h]
theorem Zc {α β:Type} (a:α) (f:α→Option β):bnd (some a) f=f a:=rfl
theorem Zsp {α β:Type} (f:α→Option β):bnd none f=none:=rfl
theorem ZtX {α β:Type} (c:Prop) [Decidable c] (a b:Option α) (f:α→Option β):bnd (if c then a else b) f=if c then bnd a f else bnd b f:=by split<;>rfl
theorem Za {α β:Type} {x:Option α} {f:α→Option β} {r:β} (h:bnd x f=some r):∃ a,x=some a∧f a=some r:=by
 cases x with
 | none=>cases h
 | some a=>exact⟨a,rfl,h⟩
def lkp {α:Type}:List (Nat×α)→Nat→Option α
 | [],_=>none
 | (k,v) :: r,t=>if k=t then some v else lkp r t
def ins {α:Type}:List (Nat×α)→Nat→α→List (Nat×α)
 | [],t,v=>[(t,v)]
 | (k,v) :: r,t,x=>if k<t then (t,x) :: (k,v) :: r else if k=t then (t,x) :: r else (k,v) :: ins r t x
def JF:Option AV→AV
 | some v=>v
 | none=>.junk
def gs (sl:Sl) (t:Nat):AV:=JF (lkp sl t)
structure St where
 sl:Sl
 hp:Hp
 nx:Nat
 m:Nat
def ZiF:AV→Option D
 | .d x=>if x.one then some x else none
 | _=>none
def J6:List AV→Option (List D)
 | []=>some []
 | v :: r=>bnd (ZiF v) fun x=>bnd (J6 r) fun ds=>some (x :: ds)
def QP:List AV→Bool
 | []=>true
 | .bbuf _ _ :: _=>false
 | _ :: r=>QP r
def ZkW:AV→Bool
 | .clo _ _=>true
 | _=>false
def ZaD:List AV→Bool
 | []=>false
 | v :: r=>ZkW v || ZaD r
def We (cs:List AV):Option (List D)→AV
 | some ds=>.d (.agg ds)
 | none=>if ZaD cs then .junk else .agg cs
def AV.solid:AV→Bool
 | .junk=>false
 | .bbuf _ _=>false
 | .tup _=>false
 | _=>true
def QI:List AV→Bool
 | []=>true
 | v :: r=>v.solid&&QI r
def WO (cs:List AV):AV:=We cs (J6 cs)
def AV.cells:AV→List AV
 | .agg cs=>cs
 | .d x=>x.cells.map .d
 | .nil=>[.nil] | .nilp=>[.nilp] | .nili=>[.nili] | .ptr a b=>[.ptr a b] | .prow a b c e=>[.prow a b c e] | .pim cs=>[.pim cs]
 | .own a=>[.own a] | .ownv a b c=>[.ownv a b c] | .bnil a b=>[.bnil a b] | .bbuf a b=>[.bbuf a b] | .tup vs=>[.tup vs] | .clo f c=>[.clo f c] | .junk=>[.junk]
def VM:Value→AV
 | .bool b=>.d (.bool b)
 | .int k n=>.d (.int k n)
 | .string s=>.d (.str s.data.toList)
 | .slice none 0 0=>.nil
 | .pointer none=>.nilp
 | .nilIface=>.nili
 | _=>.junk
def evC:Value→AV
 | .agg cs=>WO (cs.toList.map VM)
 | v=>VM v
def ev (sl:Sl):Operand→AV
 | .tmp t=>gs sl t
 | .const v=>evC v
 | .global _=>.junk
 | .func f=>.clo f []
def ZeP:Value→Option D
 | .bool b=>some (.bool b)
 | .int k n=>some (.int k n)
 | .string s=>some (.str s.data.toList)
 | .slice none 0 0=>some (.sl [])
 | _=>none
def Qi {α β:Type} (f:α→Option β):List α→Option (List β)
 | []=>some []
 | x :: r=>bnd (f x) fun y=>bnd (Qi f r) fun ys=>some (y :: ys)
def evD:Value→Option D
 | .agg cs=>bnd (Qi ZeP cs.toList) fun ds=>some (.agg ds)
 | v=>ZeP v
def VF:Option Zg→Option (List D)
 | some (.row _ xs _ _)=>some xs
 | some (.tree _ _ xs none)=>some xs
 | _=>none
def Zdw (hp:Hp):AV→Option D
 | .d x=>some x
 | .nil=>some (.sl [])
 | .own id=>bnd (VF (lkp hp id)) fun xs=>some (.sl xs)
 | .ownv id off n=>bnd (VF (lkp hp id)) fun xs=>some (.sl ((xs.drop off).take n))
 | _=>none
def toD (hp:Hp):AV→Option D
 | .agg cs=>bnd (Qi (Zdw hp) cs) fun ds=>if Ul D.one ds then some (.agg ds) else none
 | v=>Zdw hp v
def Zac:AV→List Nat
 | .own id=>[id]
 | .ownv id _ _=>[id]
 | _=>[]
def Zbv:AV→List Nat
 | .agg cs=>cs.flatMap Zac
 | v=>Zac v
def Ze:AV→List Nat
 | .own id=>[id]
 | .ownv id _ _=>[id]
 | .ptr id _=>[id]
 | .prow id _ _ _=>[id]
 | .bnil id _=>[id]
 | .junk | .bbuf _ _ | .d _ | .nil | .nilp | .nili | .pim _ | .agg _ | .tup _ | .clo _ _=>[]
def Zp:AV→List Nat
 | .agg cs=>cs.flatMap Ze
 | .clo _ cs=>cs.flatMap Ze
 | v=>Ze v
def Zo:AV→List Nat
 | .tup vs=>vs.flatMap Zp
 | v=>Zp v
def WP:Zg→List Nat
 | .box cs=>cs.flatMap Zp
 | .row _ _ _ _=>[]
 | .tree _ _ _ _=>[]
 | .gone=>[]
def ZiG:Option (Option Nat×Nat×Nat)→Option (Option Nat×Nat×Nat)
 | some q=>some (none,q.2)
 | none=>none
def Zbw (g:Nat→Nat):AV→AV
 | .own id=>.own (g id)
 | .ownv id a b=>.ownv (g id) a b
 | .ptr id o=>.ptr (g id) o
 | .prow id s i o=>.prow (g id) s i o
 | .bnil id e=>.bnil (g id) e
 | v=>v
def J7 (g:Nat→Nat):AV→AV
 | .agg cs=>.agg (cs.map (Zbw g))
 | .clo f cs=>.clo f (cs.map (Zbw g))
 | v=>Zbw g v
def ren (g:Nat→Nat):AV→AV
 | .tup vs=>.tup (vs.map (J7 g))
 | v=>J7 g v
def ZeQ (g:Nat→Nat):Zg→Zg
 | .box cs=>.box (cs.map (J7 g))
 | .row s x e f=>.row s x e f
 | .tree s n x l=>.tree s n x (ZiG l)
 | .gone=>.gone
def ZW (bad:List Nat):AV→AV
 | .own id=>if bad.contains id then .junk else .own id
 | .ownv id a b=>if bad.contains id then .junk else .ownv id a b
 | .ptr id o=>if bad.contains id then .junk else .ptr id o
 | .prow id s i o=>if bad.contains id then .junk else .prow id s i o
 | .bnil id e=>if bad.contains id then .junk else .bnil id e
 | v=>v
def ZH (bad:List Nat):AV→AV
 | .agg cs=>.agg (cs.map (ZW bad))
 | .clo f cs=>.clo f (cs.map (ZW bad))
 | v=>ZW bad v
def kill (bad:List Nat):AV→AV
 | .tup vs=>.tup (vs.map (ZH bad))
 | v=>ZH bad v
def Ve (bad:List Nat):Option (Option Nat×Nat×Nat)→Option (Option Nat×Nat×Nat)
 | some (some nm,q)=>if bad.contains nm then some (none,q) else some (some nm,q)
 | l=>l
def QU (bad:List Nat):Zg→Zg
 | .box cs=>.box (cs.map (ZH bad))
 | .row s x e f=>.row s x e f
 | .tree s n x l=>.tree s n x (Ve bad l)
 | .gone=>.gone
def ZfX {α β:Type} (f:α→β):List (Nat×α)→List (Nat×β)
 | []=>[]
 | (k,v) :: r=>(k,f v) :: ZfX f r
def Yl:Zg→Zg
 | .row s x e _=>.row s x e true
 | .tree s n x l=>.tree s n x l
 | o=>o
def freeze (ids:List Nat):Hp→Hp
 | []=>[]
 | (k,o) :: r=>(k,if ids.contains k then Yl o else o) :: freeze ids r
def ZeR:Option Zg→Option (List D×Bool)
 | some (.row _ xs ex _)=>some (xs,ex)
 | _=>none
def U7 (hp:Hp):AV→Option (D×Bool×List Nat)
 | .d x=>some (x,x.flat,[])
 | .nil=>some (.sl [],true,[])
 | .own id=>bnd (ZeR (lkp hp id)) fun q=>some (.sl q.1,q.2,[id])
 | _=>none
def YS (hp:Hp):List AV→Option (List D×Bool×List Nat)
 | []=>some ([],true,[])
 | v :: r=>bnd (U7 hp v) fun q=>bnd (YS hp r) fun p=>
   if q.1.one&&!q.2.2.any p.2.2.contains then some (q.1 :: p.1,q.2.1&&p.2.1,q.2.2++p.2.2) else none
def give (hp:Hp):AV→Option (D×Bool×List Nat)
 | .agg cs=>bnd (YS hp cs) fun p=>some (.agg p.1,p.2.1,p.2.2)
 | v=>U7 hp v
def VG (hp:Hp):List AV→Option (List D×Bool×List Nat)
 | []=>some ([],true,[])
 | v :: r=>bnd (give hp v) fun q=>bnd (VG hp r) fun p=>
   if !q.2.2.any p.2.2.contains then some (q.1 :: p.1,q.2.1&&p.2.1,q.2.2++p.2.2) else none
def Zm {α:Type} (cs:List α) (off:Nat) (vs:List α):List α:=cs.take off++vs++cs.drop (off+vs.length)
def YT (x:D) (off:Nat) (ds:List D):D:=match x with
 | .agg cs=>.agg (Zm cs off ds)
 | _=>ds.headD x
def V8 (op:BinOp) (k:IntKind) (a b:Int):Option D:=
 match op with
 | .add=>some (.int k (k.wrap (a+b)))
 | .sub=>some (.int k (k.wrap (a-b)))
 | .mul=>some (.int k (k.wrap (a*b)))
 | .quo=>if b=0 then none else some (.int k (k.wrap (a.tdiv b)))
 | .rem=>if b=0 then none else some (.int k (a.tmod b))
 | .and=>some (.int k (k.wrap (BitVec.ofInt k.bits a &&& BitVec.ofInt k.bits b).toNat))
 | .or=>some (.int k (k.wrap (BitVec.ofInt k.bits a ||| BitVec.ofInt k.bits b).toNat))
 | .xor=>some (.int k (k.wrap (BitVec.ofInt k.bits a ^^^ BitVec.ofInt k.bits b).toNat))
 | .andNot=>some (.int k (k.wrap (BitVec.ofInt k.bits a &&& ~~~(BitVec.ofInt k.bits b)).toNat))
 | .eql=>some (.bool (a==b))
 | .neq=>some (.bool (a != b))
 | .lss=>some (.bool (decide (a<b)))
 | .leq=>some (.bool (decide (a≤b)))
 | .gtr=>some (.bool (decide (a>b)))
 | .geq=>some (.bool (decide (a≥b)))
 | .shl | .shr=>none
def ZfY (op:BinOp) (k:IntKind) (a b:Int):Option D:=
 if b<0 then none else
 match op with
 | .shl=>some (.int k (k.wrap (a*2 ^ (min b.toNat k.bits))))
 | .shr=>some (.int k (a.fdiv (2 ^ (min b.toNat k.bits))))
 | _=>none
def ZoH:Nat:=1152921504606846976
def Znh (op:BinOp) (a b:List UInt8):Option D:=
 match op with
 | .add=>if a.length+b.length≤ZoH then some (.str (a++b)) else none
 | .eql=>some (.bool (a==b))
 | .neq=>some (.bool (!(a==b)))
 | _=>none
def D.beq1:D→D→Option Bool
 | .int _ a,.int _ b=>some (a==b)
 | .bool a,.bool b=>some (a==b)
 | .str a,.str b=>some (a==b)
 | _,_=>none
def beqL:List D→List D→Option Bool
 | [],[]=>some true
 | x :: xs,y :: ys=>bnd (D.beq1 x y) fun a=>bnd (beqL xs ys) fun b=>some (a&&b)
 | _,_=>none
def agg2 (op:BinOp) (r:Option Bool):Option AV:=match op with
 | .eql=>bnd r fun r=>some (.d (.bool r))
 | .neq=>bnd r fun r=>some (.d (.bool (!r)))
 | _=>none
def asD (r:Option D):Option AV:=bnd r fun x=>some (.d x)
def WQ (op:BinOp) (k k' : IntKind) (a b:Int):Option AV:=match op with
 | .shl | .shr=>asD (ZfY op k a b)
 | _=>if k=k' then asD (V8 op k a b) else none
def ZkX (op:BinOp) (a b:Bool):Option AV:=match op with
 | .eql=>some (.d (.bool (a==b)))
 | .neq=>some (.d (.bool (!(a==b))))
 | _=>none
def vbin (op:BinOp):AV→AV→Option AV
 | .d (.int k a),.d (.int k' b)=>WQ op k k' a b
 | .d (.str a),.d (.str b)=>asD (Znh op a b)
 | _,_=>none
def neg1 (op:UnOp) (k:IntKind) (a:Int):Option AV:=match op with
 | .neg=>some (.d (.int k (k.wrap (0-a))))
 | _=>none
def not1 (op:UnOp) (a:Bool):Option AV:=match op with
 | .not=>some (.d (.bool (!a)))
 | _=>none
def vun (op:UnOp):AV→Option AV
 | .d (.int k a)=>neg1 op k a
 | .d (.bool a)=>not1 op a
 | _=>none
def ZaE (hp:Hp):AV→Option Nat
 | .d (.sl xs)=>some xs.length
 | .nil=>some 0
 | .own id=>bnd (VF (lkp hp id)) fun xs=>some xs.length
 | .ownv _ _ n=>some n
 | _=>none
def ZqU:AV→Option Nat
 | .d (.str s)=>some s.length
 | _=>none
def minI (a b:Int):Int:=if b<a then b else a
def maxI (a b:Int):Int:=if b>a then b else a
end Go.Abs
