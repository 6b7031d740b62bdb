import Derived.Orders
import Derived.Laws.AppendOwn
set_option linter.all false
namespace Go.Abs
open Go
abbrev Ka:=@Bool.false_eq_true
abbrev Kb:=@List.mem_of_getElem?
abbrev Kc:=@List.getElem?_eq_some_iff
abbrev Kd:=@if_neg
abbrev Ke:=@List.mem_cons
abbrev Kf:=@Bool.and_eq_true
theorem o_ {p:Prop} (h:p:=by omega):p:=h
theorem p_ {p:Prop} (h:p:=by simp only;omega):p:=h
abbrev Kg:=@if_pos
abbrev Kh:=@List.map_cons
abbrev Ki:=@decide_eq_true
abbrev Kj:=@List.mem_append
abbrev Kk:=@decide_eq_false
abbrev Kl:=@List.length_cons
abbrev Km:=@if_true
abbrev Kn:=@if_false
abbrev Ko:=@decide_eq_true_eq
abbrev Kp:=@List.map_nil
abbrev Kq:=@List.length_append
abbrev Kr:=@Nat.le_refl
abbrev Ks:=@List.length_filterMap_le
abbrev Kt:=@List.eq_nil_of_length_eq_zero
abbrev Ku:=@List.drop_eq_getElem_cons
abbrev Kv:=@Option.isSome_none
abbrev Kw:=@List.getElem?_eq_getElem
abbrev Kx:=@List.not_mem_nil
abbrev Ky:=@Nat.le_trans
abbrev Kz:=@Int.toNat_natCast
abbrev KA:=@List.mem_cons_of_mem
abbrev KB:=@List.take_add_one
abbrev KC:=@List.mem_flatMap
abbrev KD:=@List.mem_singleton
abbrev KE:=@List.append_nil
abbrev KF:=@List.cons_append
abbrev KG:=@List.length_map
abbrev KH:=@List.take_of_length_le
abbrev KI:=@List.take_length
abbrev KJ:=@List.map_append
abbrev KK:=@Nat.ne_of_gt
abbrev KL:=@List.getElem?_append_right
abbrev KM:=@List.append_assoc
abbrev KN:=@List.getElem?_append_left
abbrev KO:=@List.length_nil
abbrev KP:=@Array.getElem?_eq_some_iff
abbrev KQ:=@Nat.mul_le_mul_right
abbrev KR:=@Int.toNat_of_nonneg
abbrev KS:=@Option.bind_some
abbrev KT:=@List.flatMap_cons
abbrev KU:=@Nat.add_mul
abbrev KV:=@Option.isSome_some
abbrev KW:=@Nat.add_assoc
abbrev KX:=@List.getElem?_cons_zero
abbrev KY:=@List.getElem?_cons_succ
abbrev KZ:=@Option.bind_eq_some_iff
abbrev K0:=@Nat.zero_add
abbrev K3:=@List.map_congr_left
abbrev K4:=@List.all_eq_true
abbrev K5:=@List.contains_eq_mem
abbrev K6:=@List.nil_append
abbrev K7:=@Nat.lt_or_ge
abbrev K8:=@List.getElem?_eq_none
abbrev K9:=@Bool.not_eq_true'
abbrev La:=@List.getElem?_map
abbrev Lc:=@List.count_pos_iff
abbrev Ld:=@Option.map_some
abbrev Le:=@Array.length_toList
abbrev Lf:=@Bool.decide_and
abbrev Lg:=@Option.isSome_iff_exists
abbrev Lh:=@List.mem_of_mem_take
abbrev Li:=@Bool.decide_or
abbrev Lj:=@List.flatten_cons
abbrev Lk:=@List.getElem?_drop
abbrev Ll:=@List.mem_map
abbrev Lm:=@List.mem_cons_self
abbrev Ln:=@decide_eq_false_iff_not
abbrev Lo:=@List.nodup_cons
abbrev Lp:=@List.getElem?_set_ne
abbrev Lq:=@List.getElem?_take
abbrev Lr:=@List.length_drop
abbrev Ls:=@List.filterMap_cons
abbrev Lt:=@List.take_append_drop
abbrev Lu:=@List.take_succ_eq_append_getElem
abbrev Lv:=@Nat.add_sub_cancel_left
abbrev Lw:=@List.mem_filterMap
abbrev Lx:=@Bool.or_eq_true
abbrev Ly:=@List.mem_or_eq_of_mem_set
abbrev Lz:=@List.flatten_append
abbrev LA:=@List.nodup_nil
abbrev LB:=@List.mem_range
abbrev LC:=@Nat.eq_zero_or_pos
abbrev LD:=@Bool.not_eq_true
abbrev LF:=@List.length_take
abbrev LG:=@List.getElem?_of_mem
abbrev LH:=@List.all_cons
abbrev LI:=@List.ext_getElem?
abbrev LJ:=@List.getElem?_set
abbrev LK:=@List.getElem?_set_self
abbrev LL:=@List.map_id
abbrev LM:=@List.takeWhile_append_dropWhile
abbrev LN:=@Array.getElem?_toList
abbrev LP:=@List.filterMap_append
abbrev LQ:=@List.singleton_append
abbrev LR:=@List.any_eq_true
abbrev LS:=@Option.toList_some
abbrev LU:=@Bool.false_or
abbrev LV:=@List.pairwise_append
abbrev LX:=@List.nodup_append
abbrev LY:=@List.mem_filter
abbrev LZ:=@List.replicate_succ
abbrev L0:=@List.take_succ_cons
abbrev L3:=@Nat.add_zero
abbrev L4:=@Option.bind_none
abbrev L5:=@Nat.lt_or_gt_of_ne
abbrev L6:=@List.pairwise_cons
abbrev L7:=@Nat.lt_of_lt_of_le
abbrev L8:=@List.length_replicate
abbrev L9:=@Array.getElem?_modify
abbrev Kaa:=@List.size_toArray
abbrev Kab:=@List.mem_of_mem_drop
abbrev Kac:=@List.nodup_iff_count
abbrev Kad:=@List.map_set
abbrev Kae:=@Bool.and_true
abbrev Kaf:=@List.eq_of_mem_replicate
abbrev Kag:=@List.mem_of_mem_eraseIdx
abbrev Kah:=@Nat.add_le_add_left
abbrev Kai:=@Int.le_refl
abbrev Kaj:=@List.append_eq_nil_iff
abbrev Kak:=@List.set_cons_succ
abbrev Kal:=@Bool.true_and
abbrev Kam:=@List.getElem?_toArray
abbrev Kan:=@List.length_filter_le
abbrev Kao:=@Bool.not_false
abbrev Kap:=@List.getElem?_append
abbrev Kaq:=@Nat.zero_le
abbrev Kar:=@Bool.or_eq_false_iff
abbrev Kas:=@Array.toList_setIfInBounds
abbrev Kat:=@Int.mul_nonneg
abbrev Kau:=@Int.mul_le_mul
abbrev Kav:=@List.count_le_length
abbrev Kaw:=@List.eraseIdx_of_length_le
abbrev Kax:=@List.nodup_range
abbrev Kay:=@Nat.le_max_right
abbrev Kaz:=@List.mem_map_of_mem
abbrev KaA:=@Nat.le_max_left
abbrev KaB:=@Bool.true_eq_false
abbrev KaC:=@List.set_cons_zero
abbrev KaD:=@List.drop_drop
inductive D where
 | int (k:IntKind) (n:Int)
 | bool (b:Bool)
 | str (s:List UInt8)
 | sl (xs:List D)
 | agg (cs:List D)
def D.cells:D→List D
 | .agg cs=>cs
 | .int k n=>[.int k n]
 | .bool b=>[.bool b]
 | .str s=>[.str s]
 | .sl xs=>[.sl xs]
def D.plain:D→Bool
 | .int _ _=>true
 | .bool _=>true
 | .str _=>true
 | .sl _=>false
 | .agg _=>false
def D.one:D→Bool
 | .int _ _=>true
 | .bool _=>true
 | .str _=>true
 | .sl _=>true
 | .agg _=>false
def JY (p:D→Bool):List D→Bool
 | []=>true
 | x :: xs=>p x&&JY p xs
def D.flat (d:D):Bool:=JY D.plain d.cells
inductive AV where
 | d (x:D)
 | nil
 | nilp
 | nili
 | ptr (id off:Nat)
 | prow (id sz i off:Nat)
 | pim (cs:List D)
 | own (id:Nat)
 | ownv (id off len:Nat)
 | bnil (id e:Nat)
 | bbuf (te:Nat) (l:List UInt8)
 | agg (cs:List AV)
 | tup (vs:List AV)
 | clo (f:Nat) (caps:List AV)
 | junk
inductive Zm where
 | box (cs:List AV)
 | row (sz:Nat) (xs:List D) (ex fz:Bool)
 | tree (sz ns:Nat) (xs:List D) (lk:Option (Option Nat×Nat×Nat))
 | gone
abbrev Hp:=List (Nat×Zm)
abbrev Sl:=List (Nat×AV)
def bnd {α β:Type} (x:Option α) (f:α→Option β):Option β:=match x with
 | some a=>f a
 | none=>none
@[congr] theorem bnd_congr {α β:Type} {x y:Option α} {f:α→Option β} (h:x=y):bnd x f=bnd y f:=by rw[h]
theorem Zh {α β:Type} (a:α) (f:α→Option β):bnd (some a) f=f a:=rfl
theorem ZC7 {α β:Type} (f:α→Option β):bnd none f=none:=rfl
theorem ZEC {α β:Type} (c:Prop) [Decidable c] (a b:Option α) (f:α→Option β):bnd (if c then a else b) f=if c then bnd a f else bnd b f:=by split<;>rfl
theorem Za {α β:Type} {x:Option α} {f:α→Option β} {r:β} (h:bnd x f=some r):∃ a,x=some a∧f a=some r:=by
 cases x with
 | none=>cases h
 | some a=>exact⟨a,rfl,h⟩
def lkp {α:Type}:List (Nat×α)→Nat→Option α
 | [],_=>none
 | (k,v) :: r,t=>if k=t then some v else lkp r t
def ins {α:Type}:List (Nat×α)→Nat→α→List (Nat×α)
 | [],t,v=>[(t,v)]
 | (k,v) :: r,t,x=>if k<t then (t,x) :: (k,v) :: r else if k=t then (t,x) :: r else (k,v) :: ins r t x
def Zb5:Option AV→AV
 | some v=>v
 | none=>.junk
def gs (sl:Sl) (t:Nat):AV:=Zb5 (lkp sl t)
structure St where
 sl:Sl
 hp:Hp
 nx:Nat
 m:Nat
def Zq5:AV→Option D
 | .d x=>if x.one then some x else none
 | _=>none
def ZfA:List AV→Option (List D)
 | []=>some []
 | v :: r=>bnd (Zq5 v) fun x=>bnd (ZfA r) fun ds=>some (x :: ds)
def X3:List AV→Bool
 | []=>true
 | .bbuf _ _ :: _=>false
 | _ :: r=>X3 r
def Zus:AV→Bool
 | .clo _ _=>true
 | _=>false
def ZdP:List AV→Bool
 | []=>false
 | v :: r=>Zus v || ZdP r
def Uu (cs:List AV):Option (List D)→AV
 | some ds=>.d (.agg ds)
 | none=>if ZdP cs then .junk else .agg cs
def AV.solid:AV→Bool
 | .junk=>false
 | .bbuf _ _=>false
 | .tup _=>false
 | _=>true
def XQ:List AV→Bool
 | []=>true
 | v :: r=>v.solid&&XQ r
def U9 (cs:List AV):AV:=Uu cs (ZfA cs)
def AV.cells:AV→List AV
 | .agg cs=>cs
 | .d x=>x.cells.map .d
 | .nil=>[.nil] | .nilp=>[.nilp] | .nili=>[.nili] | .ptr a b=>[.ptr a b] | .prow a b c e=>[.prow a b c e] | .pim cs=>[.pim cs]
 | .own a=>[.own a] | .ownv a b c=>[.ownv a b c] | .bnil a b=>[.bnil a b] | .bbuf a b=>[.bbuf a b] | .tup vs=>[.tup vs] | .clo f c=>[.clo f c] | .junk=>[.junk]
@[irreducible] def u8 (n:Nat):UInt8:=UInt8.ofNat n
def u8L:List UInt8→List UInt8
 | []=>[]
 | c :: r=>u8 c.toNat :: u8L r
theorem ZC8:∀ l:List UInt8,u8L l=l
 | []=>rfl
 | c :: r=>by
  rw[u8L,ZC8 r];congr 1
  unfold u8;exact UInt8.ofNat_toNat
def W1:Value→AV
 | .bool b=>.d (.bool b)
 | .int k n=>.d (.int k n)
 | .string s=>.d (.str (u8L s.data.toList))
 | .slice none 0 0=>.nil
 | .pointer none=>.nilp
 | .nilIface=>.nili
 | _=>.junk
def evC:Value→AV
 | .agg cs=>U9 (cs.toList.map W1)
 | v=>W1 v
def ev (sl:Sl):Operand→AV
 | .tmp t=>gs sl t
 | .const v=>evC v
 | .global _=>.junk
 | .func f=>.clo f []
def ZlI:Value→Option D
 | .bool b=>some (.bool b)
 | .int k n=>some (.int k n)
 | .string s=>some (.str s.data.toList)
 | .slice none 0 0=>some (.sl [])
 | _=>none
def QJ {α β:Type} (f:α→Option β):List α→Option (List β)
 | []=>some []
 | x :: r=>bnd (f x) fun y=>bnd (QJ f r) fun ys=>some (y :: ys)
def evD:Value→Option D
 | .agg cs=>bnd (QJ ZlI cs.toList) fun ds=>some (.agg ds)
 | v=>ZlI v
def Ja:Option Zm→Option (List D)
 | some (.row _ xs _ _)=>some xs
 | some (.tree _ _ xs none)=>some xs
 | _=>none
def ZjG (hp:Hp):AV→Option D
 | .d x=>some x
 | .nil=>some (.sl [])
 | .own id=>bnd (Ja (lkp hp id)) fun xs=>some (.sl xs)
 | .ownv id off n=>bnd (Ja (lkp hp id)) fun xs=>some (.sl ((xs.drop off).take n))
 | _=>none
def toD (hp:Hp):AV→Option D
 | .agg cs=>bnd (QJ (ZjG hp) cs) fun ds=>if JY D.one ds then some (.agg ds) else none
 | v=>ZjG hp v
def Zdp:AV→List Nat
 | .own id=>[id]
 | .ownv id _ _=>[id]
 | _=>[]
def ZfB:AV→List Nat
 | .agg cs=>cs.flatMap Zdp
 | v=>Zdp v
def Zq:AV→List Nat
 | .own id=>[id]
 | .ownv id _ _=>[id]
 | .ptr id _=>[id]
 | .prow id _ _ _=>[id]
 | .bnil id _=>[id]
 | .junk | .bbuf _ _ | .d _ | .nil | .nilp | .nili | .pim _ | .agg _ | .tup _ | .clo _ _=>[]
def ZC:AV→List Nat
 | .agg cs=>cs.flatMap Zq
 | .clo _ cs=>cs.flatMap Zq
 | v=>Zq v
def Zy:AV→List Nat
 | .tup vs=>vs.flatMap ZC
 | v=>ZC v
def Jb:Zm→List Nat
 | .box cs=>cs.flatMap ZC
 | .row _ _ _ _=>[]
 | .tree _ _ _ _=>[]
 | .gone=>[]
def Zq6:Option (Option Nat×Nat×Nat)→Option (Option Nat×Nat×Nat)
 | some q=>some (none,q.2)
 | none=>none
def ZfC (g:Nat→Nat):AV→AV
 | .own id=>.own (g id)
 | .ownv id a b=>.ownv (g id) a b
 | .ptr id o=>.ptr (g id) o
 | .prow id s i o=>.prow (g id) s i o
 | .bnil id e=>.bnil (g id) e
 | v=>v
def ZeW (g:Nat→Nat):AV→AV
 | .agg cs=>.agg (cs.map (ZfC g))
 | .clo f cs=>.clo f (cs.map (ZfC g))
 | v=>ZfC g v
def ren (g:Nat→Nat):AV→AV
 | .tup vs=>.tup (vs.map (ZeW g))
 | v=>ZeW g v
def ZlJ (g:Nat→Nat):Zm→Zm
 | .box cs=>.box (cs.map (ZeW g))
 | .row s x e f=>.row s x e f
 | .tree s n x l=>.tree s n x (Zq6 l)
 | .gone=>.gone
def Qk (bad:List Nat):AV→AV
 | .own id=>if bad.contains id then .junk else .own id
 | .ownv id a b=>if bad.contains id then .junk else .ownv id a b
 | .ptr id o=>if bad.contains id then .junk else .ptr id o
 | .prow id s i o=>if bad.contains id then .junk else .prow id s i o
 | .bnil id e=>if bad.contains id then .junk else .bnil id e
 | v=>v
def ZU (bad:List Nat):AV→AV
 | .agg cs=>.agg (cs.map (Qk bad))
 | .clo f cs=>.clo f (cs.map (Qk bad))
 | v=>Qk bad v
def kill (bad:List Nat):AV→AV
 | .tup vs=>.tup (vs.map (ZU bad))
 | v=>ZU bad v
def Wm (bad:List Nat):Option (Option Nat×Nat×Nat)→Option (Option Nat×Nat×Nat)
 | some (some nm,q)=>if bad.contains nm then some (none,q) else some (some nm,q)
 | l=>l
def XE (bad:List Nat):Zm→Zm
 | .box cs=>.box (cs.map (ZU bad))
 | .row s x e f=>.row s x e f
 | .tree s n x l=>.tree s n x (Wm bad l)
 | .gone=>.gone
def Znv {α β:Type} (f:α→β):List (Nat×α)→List (Nat×β)
 | []=>[]
 | (k,v) :: r=>(k,f v) :: Znv f r
def Vr:Zm→Zm
 | .row s x e _=>.row s x e true
 | .tree s n x l=>.tree s n x l
 | o=>o
def freeze (ids:List Nat):Hp→Hp
 | []=>[]
 | (k,o) :: r=>(k,if ids.contains k then Vr o else o) :: freeze ids r
def ZlK:Option Zm→Option (List D×Bool)
 | some (.row _ xs ex _)=>some (xs,ex)
 | _=>none
def Zbn (hp:Hp):AV→Option (D×Bool×List Nat)
 | .d x=>some (x,x.flat,[])
 | .nil=>some (.sl [],true,[])
 | .own id=>bnd (ZlK (lkp hp id)) fun q=>some (.sl q.1,q.2,[id])
 | _=>none
def V3 (hp:Hp):List AV→Option (List D×Bool×List Nat)
 | []=>some ([],true,[])
 | v :: r=>bnd (Zbn hp v) fun q=>bnd (V3 hp r) fun p=>
   if q.1.one&&!q.2.2.any p.2.2.contains then some (q.1 :: p.1,q.2.1&&p.2.1,q.2.2++p.2.2) else none
def give (hp:Hp):AV→Option (D×Bool×List Nat)
 | .agg cs=>bnd (V3 hp cs) fun p=>some (.agg p.1,p.2.1,p.2.2)
 | v=>Zbn hp v
def WL (hp:Hp):List AV→Option (List D×Bool×List Nat)
 | []=>some ([],true,[])
 | v :: r=>bnd (give hp v) fun q=>bnd (WL hp r) fun p=>
   if !q.2.2.any p.2.2.contains then some (q.1 :: p.1,q.2.1&&p.2.1,q.2.2++p.2.2) else none
def Zx {α:Type} (cs:List α) (off:Nat) (vs:List α):List α:=cs.take off++vs++cs.drop (off+vs.length)
def Vs (x:D) (off:Nat) (ds:List D):D:=match x with
 | .agg cs=>.agg (Zx cs off ds)
 | _=>ds.headD x
def Ud (op:BinOp) (k:IntKind) (a b:Int):Option D:=
 match op with
 | .add=>some (.int k (k.wrap (a+b)))
 | .sub=>some (.int k (k.wrap (a-b)))
 | .mul=>some (.int k (k.wrap (a*b)))
 | .quo=>if b=0 then none else some (.int k (k.wrap (a.tdiv b)))
 | .rem=>if b=0 then none else some (.int k (a.tmod b))
 | .and=>some (.int k (k.wrap (BitVec.ofInt k.bits a &&& BitVec.ofInt k.bits b).toNat))
 | .or=>some (.int k (k.wrap (BitVec.ofInt k.bits a ||| BitVec.ofInt k.bits b).toNat))
 | .xor=>some (.int k (k.wrap (BitVec.ofInt k.bits a ^^^ BitVec.ofInt k.bits b).toNat))
 | .andNot=>some (.int k (k.wrap (BitVec.ofInt k.bits a &&& ~~~(BitVec.ofInt k.bits b)).toNat))
 | .eql=>some (.bool (a==b))
 | .neq=>some (.bool (a != b))
 | .lss=>some (.bool (decide (a<b)))
 | .leq=>some (.bool (decide (a≤b)))
 | .gtr=>some (.bool (decide (a>b)))
 | .geq=>some (.bool (decide (a≥b)))
 | .shl | .shr=>none
def Znw (op:BinOp) (k:IntKind) (a b:Int):Option D:=
 if b<0 then none else
 match op with
 | .shl=>some (.int k (k.wrap (a*2 ^ (min b.toNat k.bits))))
 | .shr=>some (.int k (a.fdiv (2 ^ (min b.toNat k.bits))))
 | _=>none
def Zy6:Nat:=1152921504606846976
def Zxf (op:BinOp) (a b:List UInt8):Option D:=
 match op with
 | .add=>if a.length+b.length≤Zy6 then some (.str (a++b)) else none
 | .eql=>some (.bool (a==b))
 | .neq=>some (.bool (!(a==b)))
 | _=>none
def D.beq1:D→D→Option Bool
 | .int _ a,.int _ b=>some (a==b)
 | .bool a,.bool b=>some (a==b)
 | .str a,.str b=>some (a==b)
 | _,_=>none
def beqL:List D→List D→Option Bool
 | [],[]=>some true
 | x :: xs,y :: ys=>bnd (D.beq1 x y) fun a=>bnd (beqL xs ys) fun b=>some (a&&b)
 | _,_=>none
def agg2 (op:BinOp) (r:Option Bool):Option AV:=match op with
 | .eql=>bnd r fun r=>some (.d (.bool r))
 | .neq=>bnd r fun r=>some (.d (.bool (!r)))
 | _=>none
def asD (r:Option D):Option AV:=bnd r fun x=>some (.d x)
def Jc (op:BinOp) (k k' : IntKind) (a b:Int):Option AV:=match op with
 | .shl | .shr=>asD (Znw op k a b)
 | _=>if k=k' then asD (Ud op k a b) else none
def Zut (op:BinOp) (a b:Bool):Option AV:=match op with
 | .eql=>some (.d (.bool (a==b)))
 | .neq=>some (.d (.bool (!(a==b))))
 | _=>none
def vbin (op:BinOp):AV→AV→Option AV
 | .d (.int k a),.d (.int k' b)=>Jc op k k' a b
 | .d (.str a),.d (.str b)=>asD (Zxf op a b)
 | _,_=>none
def neg1 (op:UnOp) (k:IntKind) (a:Int):Option AV:=match op with
 | .neg=>some (.d (.int k (k.wrap (0-a))))
 | _=>none
def not1 (op:UnOp) (a:Bool):Option AV:=match op with
 | .not=>some (.d (.bool (!a)))
 | _=>none
def vun (op:UnOp):AV→Option AV
 | .d (.int k a)=>neg1 op k a
 | .d (.bool a)=>not1 op a
 | _=>none
def Zq7:Option Zm→Option (List D)
 | some (.row _ xs _ _)=>some xs
 | some (.tree _ _ xs _)=>some xs
 | _=>none
def ZdQ (hp:Hp):AV→Option Nat
 | .d (.sl xs)=>some xs.length
 | .nil=>some 0
 | .own id=>bnd (Zq7 (lkp hp id)) fun xs=>some xs.length
 | .ownv _ _ n=>some n
 | _=>none
def ZBM:AV→Option Nat
 | .d (.str s)=>some s.length
 | _=>none
def minI (a b:Int):Int:=if b<a then b else a
def maxI (a b:Int):Int:=if b>a then b else a
end Go.Abs
namespace Go.Abs
open Go
def mat:List (Option Nat)→List AV→Nat→List AV×Hp
 | some s :: ts,.nil :: vs,b=>let r:=mat ts vs (b+1);(.own b :: r.1,(b,.row s [] true false) :: r.2)
 | _ :: ts,v :: vs,b=>let r:=mat ts vs b;(v :: r.1,r.2)
 | _,vs,_=>(vs,[])
def Znx:List AV→Bool
 | []=>false
 | .nil :: _=>true
 | _ :: r=>Znx r
structure Eff where
 val:AV
 adds:Hp:=[]
 sets:Hp:=[]
 dels:List Nat:=[]
 frz:List Nat:=[]
def Zi:Hp→Hp→Hp
 | hp,[]=>hp
 | hp,(k,o) :: r=>Zi (ins hp k o) r
def del:Hp→Nat→Hp
 | [],_=>[]
 | (k,o) :: r,t=>if k=t then del r t else (k,o) :: del r t
def Qe:Hp→List Nat→Hp
 | hp,[]=>hp
 | hp,k :: r=>Qe (del hp k) r
def Qq (ids:List Nat) (hp:Hp):Hp:=match ids with
 | []=>hp
 | _=>freeze ids hp
def Eff.on (e:Eff) (hp:Hp):Hp:=Zi (Zi (Qe (Qq e.frz hp) e.dels) e.sets) e.adds
def ZBN:List AV→Nat→List AV→List AV
 | cs,_,[]=>cs
 | cs,off,v :: r=>ZBN (cs.set off v) (off+1) r
def ZoO:List AV→List (Nat×Nat×AV)→Option (List AV)
 | cells,[]=>some cells
 | cells,q :: r=>if q.2.2.solid∧q.2.2.cells.length=q.2.1∧q.1+q.2.1≤cells.length then ZoO (ZBN cells q.1 q.2.2.cells) r else none
def AV.atom:AV→Bool
 | .d x=>x.one
 | .agg _=>false
 | .tup _=>false
 | .clo _ _=>false
 | _=>true
def Zjc:List AV→Bool
 | []=>true
 | v :: r=>v.atom&&Zjc r
def cloV (f:Nat) (cs:List AV):Option AV:=if Zjc cs then some (.clo f cs) else none
def ZlL:AV→AV
 | .bbuf _ _=>.junk
 | v=>v
def Zat (agg:Bool) (s off:Nat):Option Zm→Option AV
 | some (.box cs)=>if agg then (if off+s≤cs.length then some (U9 ((cs.drop off).take s)) else none) else (cs[off]?).map ZlL
 | _=>none
def Zb6 (agg:Bool) (s off:Nat) (cs:List D):Option AV:=
 if agg then (if off+s≤cs.length then some (.d (.agg ((cs.drop off).take s))) else none) else asD cs[off]?
def ZlM (agg:Bool) (s sz off:Nat) (x:D):Option AV:=if x.cells.length=sz then Zb6 agg s off x.cells else none
def ZoP (i off:Nat):Option (Option Nat×Nat×Nat)→Option AV
 | some (some nm,i',c)=>if i=i'∧off=c then some (.own nm) else none
 | _=>none
def Jd (i off:Nat) (lk:Option (Option Nat×Nat×Nat)) (x:D):Option AV:=match x.cells[off]? with
 | some (.sl _)=>ZoP i off lk
 | some y=>if y.plain then some (.d y) else none
 | none=>none
def Je (id:Nat) (agg:Bool) (s sz i off:Nat):Option Zm→Option AV
 | some (.row sz' xs _ _)=>if sz=sz' then bnd xs[i]? (ZlM agg s sz off) else none
 | some (.tree sz' _ xs lk)=>if sz=sz' then (if agg then none else bnd xs[i]? (Jd i off lk)) else none
 | _=>none
def Ue (hp:Hp) (agg:Bool) (s:Nat):AV→Option AV
 | .ptr id off=>Zat agg s off (lkp hp id)
 | .prow id sz i off=>Je id agg s sz i off (lkp hp id)
 | .pim cs=>Zb6 agg s 0 cs
 | _=>none
def ZvO:AV→Option D
 | .d x=>if x.plain then some x else none
 | _=>none
def Zxg:List AV→Option (List D)
 | []=>some []
 | v :: r=>bnd (ZvO v) fun x=>bnd (Zxg r) fun ds=>some (x :: ds)
def ZhC (slc:List (Option Nat)) (s base id off:Nat) (vs:List AV):Option Zm→Option Eff
 | some (.box cs)=>if vs.length=s∧off+s≤cs.length∧XQ vs∧X3 cs=true then
    (if Znx vs then some { val := .junk, adds := (mat slc vs base).2, sets := [(id, .box (Zx cs off (mat slc vs base).1))] }
      else some { val:=.junk,sets:=[(id,.box (Zx cs off vs))] })
   else none
 | _=>none
def D.notSl:D→Bool
 | .sl _=>false
 | _=>true
def Zjd (s id sz i off:Nat) (xs:List D) (ex:Bool) (x:D) (q:List D×Bool×List Nat):Option Eff:=
 if x.notSl∧x.cells.length=sz∧q.1.length=s∧off+s≤sz∧q.2.2.contains id=false then
  some { val:=.junk,sets:=[(id,.row sz (xs.set i (Vs x off q.1)) (ex&&q.2.1) false)],frz:=q.2.2 } else none
def Zje (n id:Nat):Option Zm→Option (D×List Nat)
 | some (.row sz xs true false)=>if sz=n∧JY D.flat xs then some (.sl xs,[id]) else none
 | some (.tree sz n' xs none)=>if sz=n∧n'=n then some (.sl xs,[id]) else none
 | _=>none
def ZhD (hp:Hp) (n:Nat):AV→Option (D×List Nat)
 | .d x=>if x.plain then some (x,[]) else none
 | .nil=>some (.sl [],[])
 | .own id=>Zje n id (lkp hp id)
 | _=>none
def V4 (hp:Hp) (n:Nat):List AV→Option (List D×List Nat)
 | []=>some ([],[])
 | v :: r=>bnd (ZhD hp n v) fun q=>bnd (V4 hp n r) fun p=>if !q.2.any p.2.contains then some (q.1 :: p.1,q.2++p.2) else none
def D.isAgg:D→Bool
 | .agg _=>true
 | _=>false
def Jf (i off s:Nat):Option (Option Nat×Nat×Nat)→Option (Option Nat×Nat×Nat)
 | some (nm,i',c)=>if i=i'∧off≤c∧c<off+s then none else some (nm,i',c)
 | none=>none
def Zjf (s id sz n i off:Nat) (xs:List D) (lk:Option (Option Nat×Nat×Nat)) (x:D) (q:List D×List Nat):Option Eff:=
 if x.isAgg∧x.cells.length=sz∧q.1.length=s∧off+s≤sz∧q.2.contains id=false then
  some { val:=.junk,sets:=[(id,.tree sz n (xs.set i (Vs x off q.1)) (Jf i off s lk))],dels:=q.2 } else none
def Zb7 (hp:Hp) (s id sz i off:Nat) (vs:List AV):Option Zm→Option Eff
 | some (.row sz' xs ex false)=>if sz=sz' then bnd xs[i]? fun x=>bnd (V3 hp vs) fun q=>Zjd s id sz i off xs ex x q else none
 | some (.tree sz' n xs lk)=>if sz=sz' then bnd xs[i]? fun x=>bnd (V4 hp n vs) fun q=>Zjf s id sz n i off xs lk x q else none
 | _=>none
def ZaY (hp:Hp) (slc:List (Option Nat)) (s base:Nat) (vs:List AV):AV→Option Eff
 | .ptr id off=>ZhC slc s base id off vs (lkp hp id)
 | .prow id sz i off=>Zb7 hp s id sz i off vs (lkp hp id)
 | _=>none
def uni (s:Nat) (ys:List D):Prop:=∀ y∈ys,y.cells.length=s
def ZM:Nat:=140737488355328
def Xm (ys:List D):Prop:=∀ y∈ys,y.flat=true
def ZvP (flat:Bool):Option Zm→Option (List D×Bool)
 | some (.row _ ys ex _)=>some (ys,ex || flat)
 | _=>none
def Zq8:AV→Option (List D×Bool)
 | .d (.str s)=>some (s.map fun b=>.int .u8 b.toNat,true)
 | _=>none
def Zp9 (flat:Bool) (off n:Nat):Option Zm→Option (List D×Bool)
 | some (.row _ ys ex _)=>some ((ys.drop off).take n,ex || flat)
 | _=>none
def ZhE (hp:Hp) (flat:Bool):AV→Option (List D×Bool)
 | .nil=>some ([],true)
 | .d (.sl ys)=>some (ys,flat)
 | .own id=>ZvP flat (lkp hp id)
 | .ownv id off n=>Zp9 flat off n (lkp hp id)
 | _=>none
def Zq9 (sz base:Nat) (dels:List Nat) (xs:List D) (ex:Bool):Eff:=
 { val:=.own base,adds:=[(base,.row sz xs ex false)],dels:=dels }
def Zra (sz by_ base id:Nat) (ys:List D) (ex' : Bool):Option Zm→Option Eff
 | some (.row sz' xs ex false)=>if sz'=sz∧(xs.length+ys.length)*by_≤ZM∧xs.length+ys.length≤ZM then some (Zq9 sz base [id] (xs++ys) (ex&&ex')) else none
 | _=>none
def ZlN (sz by_ base id n:Nat) (ys:List D) (ex' : Bool):Option Zm→Option Eff
 | some (.row sz' xs ex false)=>if sz'=sz∧(n+ys.length)*by_≤ZM∧n+ys.length≤ZM then some (Zq9 sz base [id] (xs.take n++ys) (ex&&ex')) else none
 | _=>none
def ZlO (sz base id n:Nat) (ys:List D) (ex' : Bool):Option Zm→Option Eff
 | some (.row sz' xs ex false)=>if sz'=sz∧0<xs.length∧n+ys.length≤xs.length then
   some { val:=.ownv base 0 (n+ys.length),adds:=[(base,.row sz (xs.take n++ys++xs.drop (n+ys.length)) (ex&&ex') false)],dels:=[id] } else none
 | _=>none
def ZlP (sz by_ base id off n:Nat) (ys:List D):Option Zm→Option Eff
 | some (.row sz' xs _ false)=>if sz'=sz∧(n+ys.length)*by_≤ZM∧n+ys.length≤ZM then some (Zq9 sz base [id] ((xs.drop off).take n++ys) false) else none
 | _=>none
def ZjW (hp:Hp) (sz by_:Nat) (base:Nat) (src:List Nat) (ys:List D) (ex' : Bool):AV→Option Eff
 | .nil=>if ys.length*by_≤ZM∧ys.length≤ZM then some (Zq9 sz base [] ys ex') else none
 | .own id=>if src.contains id then none else Zra sz by_ base id ys ex' (lkp hp id)
 | .ownv id off n=>if off≠0 then (if src.contains id then none else ZlP sz by_ base id off n ys (lkp hp id)) else if src.contains id then ZlO sz base id n ys ex' (lkp hp id) else ZlN sz by_ base id n ys ex' (lkp hp id)
 | _=>none
open Classical in
noncomputable def Jg (hp:Hp) (sz by_:Nat) (str flat:Bool) (base:Nat) (s x:AV):Option Eff:=
 bnd (if str then Zq8 x else ZhE hp flat x) fun q=>if uni sz q.1∧(flat=true→Xm q.1) then ZjW hp sz by_ base (Zdp x) q.1 q.2 s else none
def idx (i:AV):Option Int:=match i with
 | .d (.int _ n)=>some n
 | _=>none
def ZAD (sz:Nat) (y:D):Option AV:=if y.cells.length=sz then some (.pim y.cells) else none
def Zdq (sz id n:Nat):Option Zm→Option AV
 | some (.row sz' xs _ _)=>if sz'=sz∧n<xs.length then some (.prow id sz n 0) else none
 | some (.tree sz' _ xs _)=>if sz'=sz∧n<xs.length then some (.prow id sz n 0) else none
 | _=>none
def Zb8 (sz id off m n:Nat):Option Zm→Option AV
 | some (.row sz' _ _ _)=>if sz'=sz∧n<m then some (.prow id sz (off+n) 0) else none
 | _=>none
def QK (hp:Hp) (sz n:Nat):AV→Option AV
 | .d (.sl xs)=>bnd xs[n]? (ZAD sz)
 | .own id=>Zdq sz id n (lkp hp id)
 | .ownv id off m=>Zb8 sz id off m n (lkp hp id)
 | _=>none
def bd (m:Nat) (v:AV):Option Nat:=bnd (idx v) fun n=>if 0≤n∧n≤m then some n.toNat else none
def hiOf (len:Nat):Option AV→Option Nat
 | none=>some len
 | some v=>bd len v
def loOf (h:Nat):Option AV→Option Nat
 | none=>some 0
 | some v=>bd h v
def ZvQ (len:Nat) (lo hi:Option AV):Option (Nat×Nat):=bnd (hiOf len hi) fun h=>bnd (loOf h lo) fun l=>some (l,h)
def Zxh (id n:Nat):Option AV→Option AV→Option AV
 | none,none=>some (.own id)
 | lo,hi=>bnd (ZvQ n lo hi) fun b=>some (.ownv id b.1 (b.2-b.1))
def Zb9 (s id:Nat) (lo hi:Option AV):Option Zm→Option AV
 | some (.row sz xs _ _)=>if sz=s then Zxh id xs.length lo hi else none
 | _=>none
def ZC9 (n m:Nat) (lo:Option AV):Option AV→Option (Nat×Nat)
 | none=>ZvQ n lo none
 | some h=>ZvQ m lo (some h)
def J9 (s id off n:Nat) (lo hi:Option AV):Option Zm→Option AV
 | some (.row sz xs _ _)=>if sz=s then bnd (ZC9 n (xs.length-off) lo hi) fun b=>some (.ownv id (off+b.1) (b.2-b.1)) else none
 | _=>none
def slice3 (hp:Hp) (x:AV) (lo hi mx:Option Int):Option AV:=bnd lo fun l=>bnd hi fun h=>bnd mx fun m=>bnd (ZdQ hp x) fun n=>
 if 0≤l∧l≤h∧h≤m∧m≤n then some .junk else none
def ZlQ (s id off n:Nat) (z:D):Option Zm→Option Eff
 | some (.row sz xs ex false)=>if sz=s∧z.cells.length=s∧off+n≤xs.length then some { val:=.tup [],sets:=[(id,.row sz (xs.take off++List.replicate n z++xs.drop (off+n)) ex false)] } else none
 | _=>none
def ZfD (hp:Hp) (s:Nat) (z:D):AV→Option Eff
 | .ownv id off n=>ZlQ s id off n z (lkp hp id)
 | _=>none
open Classical in
noncomputable def VY (hp:Hp) (s:Nat) (lo hi:Option AV):AV→Option AV
 | .d (.sl xs)=>if uni s xs then bnd (ZvQ xs.length lo hi) fun b=>some (.d (.sl ((xs.take b.2).drop b.1))) else none
 | .nil=>bnd (ZvQ 0 lo hi) fun _=>some .nil
 | .own id=>Zb9 s id lo hi (lkp hp id)
 | .ownv id off n=>J9 s id off n lo hi (lkp hp id)
 | _=>none
def sliceS (lo hi:Option AV):AV→Option AV
 | .d (.str s)=>bnd (ZvQ s.length lo hi) fun b=>some (.d (.str ((s.take b.2).drop b.1)))
 | _=>none
def slice0 (hp:Hp) (x:AV) (hi mx:Option Int):Option AV:=match hi,mx with
 | some 0,some 0=>bnd (ZdQ hp x) fun _=>some .nil
 | _,_=>none
def ZlR (agg:Bool) (s off:Nat):AV→Option AV
 | .d (.agg cs)=>Zb6 agg s off cs
 | .agg cs=>if agg then (if off+s≤cs.length then some (U9 ((cs.drop off).take s)) else none) else cs[off]?
 | _=>none
abbrev Orc:=Nat→List AV→List Zm→Option (AV×List Zm)
abbrev Zr:=Nat→Nat→Bool
def ZfE (hp:Hp) (id:Nat):Bool→Option AV
 | true=>some (.own id)
 | false=>asD (ZjG hp (.own id))
def ZhF:Bool→Option AV
 | true=>some .nil
 | false=>some (.d (.sl []))
def ZfF (hp:Hp) (cs:List AV):Bool→Option AV
 | true=>if ZdP cs then none else some (.agg cs)
 | false=>asD (toD hp (.agg cs))
def Zdh (hp:Hp) (m:Bool):AV→Option AV
 | .ptr a b=>some (.ptr a b)
 | .clo f c=>some (.clo f c)
 | .nilp=>some .nilp
 | .nili=>some .nili
 | .pim c=>some (.pim c)
 | .own id=>ZfE hp id m
 | .nil=>ZhF m
 | .d x=>some (.d x)
 | .agg cs=>ZfF hp cs m
 | v=>asD (toD hp v)
def args (hp:Hp) (m:Nat→Bool):Nat→List AV→Option (List AV)
 | _,[]=>some []
 | i,v :: r=>bnd (Zdh hp (m i) v) fun a=>bnd (args hp m (i+1) r) fun as1=>some (a :: as1)
def Jh (hp:Hp) (go:List Nat→List Nat→List Nat) (id:Nat) (todo acc:List Nat):Option Zm→List Nat
 | some o=>go (todo++Jb o) (acc++[id])
 | none=>go todo acc
def Xi (hp:Hp):Nat→List Nat→List Nat→List Nat
 | 0,_,acc=>acc
 | _+1,[],acc=>acc
 | n+1,id :: todo,acc=>if acc.contains id then Xi hp n todo acc else Jh hp (Xi hp n) id todo acc (lkp hp id)
def V5:List Nat→Nat→Nat
 | [],_=>0
 | x :: r,t=>if x=t then 0 else V5 r t+1
def Zxi:Option Zm→Zm
 | some o=>o
 | none=>.gone
def ZdR (hp:Hp):List Nat→List Zm
 | []=>[]
 | id :: r=>Zxi (lkp hp id) :: ZdR hp r
def ZaI (ids:List Nat) (o:Zm):Zm:=ZlJ (V5 ids) (XE ((Jb o).filter fun i=>!ids.contains i) o)
def ZhG:Option Zm→Bool
 | some (.row _ _ _ _)=>true
 | some (.tree _ _ _ _)=>true
 | some .gone=>true
 | _=>false
def Zca:AV→Bool
 | .d x=>x.flat
 | .pim _=>false
 | .agg _=>false
 | .tup _=>false
 | .clo _ _=>false
 | _=>true
def ZdS:AV→Bool
 | .agg cs=>cs.all Zca
 | .clo _ cs=>cs.all Zca
 | v=>Zca v
def Zuu:AV→Bool
 | .tup vs=>vs.all ZdS
 | v=>ZdS v
def ZhH:Zm→Bool
 | .box cs=>cs.all ZdS
 | .row _ _ ex fz=>ex&&!fz
 | .tree _ _ _ _=>true
 | .gone=>true
def ZkK (d:Nat):Option Nat→Nat
 | some i=>i
 | none=>d
def Wn (ids:List Nat) (base k:Nat):Nat:=ZkK (base+(k-ids.length)) ids[k]?
def Zcb (g:Nat→Nat):List Nat→List Zm→Hp
 | id :: ids,o :: os=>(id,ZlJ g o) :: Zcb g ids os
 | _,_=>[]
def Zcc (g:Nat→Nat):Nat→List Zm→Hp
 | _,[]=>[]
 | k,o :: os=>(k,ZlJ g o) :: Zcc g (k+1) os
structure Zf where
 eff:Eff
 gone:List Nat
def X6 (_hp:Hp):Nat:=1000
def YV:List AV→List AV→List Nat
 | v :: vs,.d _ :: as1=>ZfB v++YV vs as1
 | _ :: vs,_ :: as1=>YV vs as1
 | _,_=>[]
def Zcd:Option Zm→Bool
 | some (.tree _ _ _ _)=>true
 | _=>false
def Zny:List Nat→List Zm→List Nat
 | id :: ids,.gone :: os=>id :: Zny ids os
 | _ :: ids,_ :: os=>Zny ids os
 | _,_=>[]
def ZkL (hp:Hp) (ids:List Nat) (out:List Zm):Bool→List Nat
 | true=>Zny ids out
 | false=>ids.filter fun i=>ZhG (lkp hp i)
def ZaJ (keep:Bool) (hp:Hp) (base:Nat) (ids lent:List Nat) (r:AV) (out:List Zm):Option Zf:=
 if out.length<ids.length then none else if !(Zuu r&&out.all ZhH)&&lent.any fun i=>Zcd (lkp hp i) then none else
  some { eff := { val:=ren (Wn ids base) r,adds:=Zcc (Wn ids base) base (out.drop ids.length),sets:=Zcb (Wn ids base) ids out,frz:=if Zuu r&&out.all ZhH then [] else lent },gone:=ZkL hp ids out keep }
def J1:AV→List Nat
 | .ptr id _=>[id]
 | .clo _ cs=>cs.flatMap Zq
 | _=>[]
def Zbu (hp:Hp) (rs ids:List Nat):Bool:=ids.all fun i=>ZhG (lkp hp i) || rs.contains i
def ZfG (C:Orc) (keep:Bool) (hp:Hp) (base f:Nat) (lent:List Nat) (as1:List AV) (ids:List Nat):Option Zf:=
 if (as1.flatMap Zy).all ids.contains∧¬lent.any ids.contains∧Zbu hp (as1.flatMap J1) ids=true then
  bnd (C f (as1.map (ren (V5 ids))) ((ZdR hp ids).map (ZaI ids))) fun q=>ZaJ keep hp base ids lent q.1 q.2
 else none
def Zdr (C:Orc) (m:Nat→Bool) (hp:Hp) (base f:Nat) (avs:List AV):Option Zf:=
 bnd (args hp m 0 avs) fun as1=>ZfG C (m 99) hp base f (YV avs as1) as1 (Xi hp (X6 hp) (as1.flatMap Zy) [])
def QR (v:AV):Option Zf:=some { eff := { val:=v },gone:=[] }
def Wd (v:Option AV):Option Zf:=bnd v QR
def Zhk (e:Option Eff):Option Zf:=bnd e fun e=>some { eff:=e,gone:=[] }
def ZfH (base:Nat) (e:Option Nat):AV→Option Zf
 | .nil=>bnd e fun s=>some { eff := { val:=.own base,adds:=[(base,.row s [] true false)] },gone:=[] }
 | v=>QR v
def ZhI (a b:AV):AV→Option Zf
 | .d (.bool t)=>if t then QR a else QR b
 | _=>none
def ZkM (base:Nat):AV→AV
 | .bnil _ e=>.bnil base e
 | v=>v
def bnT (t te:Nat):List AV→List AV
 | [.nilp,.nil]=>[.bnil 0 t,.bbuf te []]
 | cs=>cs
def ZDa:List AV→Bool
 | [.bnil _ _,.bbuf _ []]=>true
 | _=>false
def Zrb (slc:List (Option Nat)) (base:Nat) (cs:List AV):Option Zf:=
 if X3 cs=false then (if ZDa cs=true then some { eff := { val:=.ptr base 0,adds:=[(base,.box cs)] },gone:=[] } else none) else
 if Znx cs then some { eff := { val:=.ptr base 0,adds:=(base,.box (mat slc cs (base+1)).1) :: (mat slc cs (base+1)).2 },gone:=[] }
 else some { eff := { val:=.ptr base 0,adds:=[(base,.box cs)] },gone:=[] }
def ZhJ (slc:List (Option Nat)) (base:Nat) (cs:List AV):Option Zf:=Zrb slc base (cs.map (ZkM base))
def ZBO (base:Nat) (x:AV):Option Zf:=if x.solid&&X3 x.cells then some { eff := { val:=.ptr base 0,adds:=[(base,.box x.cells)] },gone:=[] } else none
def Zrc (zs:List AV) (ps:List (Nat×Nat×AV)):Option Zf:=bnd (ZoO zs ps) fun cs=>QR (U9 cs)
def ZBP (base s:Nat) (q:List D×Bool×List Nat):Option Zf:=
 if q.1.all (fun d=>d.cells.length==s) then some { eff := { val:=.own base,adds:=[(base,.row s q.1 q.2.1 false)],frz:=q.2.2 },gone:=[] } else none
def buildSl (hp:Hp) (base s:Nat):List AV→Option Zf
 | []=>QR .nil
 | v :: vs=>bnd (WL hp (v :: vs)) (ZBP base s)
def Vt (hp:Hp) (n s:Nat):List AV→Option (List D×List Nat)
 | []=>some ([],[])
 | .agg cs :: r=>bnd (V4 hp n cs) fun q=>bnd (Vt hp n s r) fun p=>
   if q.1.length=s∧(!q.2.any p.2.contains)=true then some (.agg q.1 :: p.1,q.2++p.2) else none
 | .own id :: r=>bnd (V4 hp n [.own id]) fun q=>bnd (Vt hp n s r) fun p=>
   if q.1.length=s∧(!q.2.any p.2.contains)=true then some (.agg q.1 :: p.1,q.2++p.2) else none
 | _=>none
def asgT (base s n:Nat):AV→Option Zf
 | .nil=>some { eff := { val:=.own base,adds:=[(base,.tree s n [] none)] },gone:=[] }
 | _=>none
def buildT (hp:Hp) (base s n:Nat) (vs:List AV):Option Zf:=
 if vs.isEmpty=false then bnd (Vt hp n s vs) fun q=>some { eff := { val:=.own base,adds:=[(base,.tree s n q.1 none)],dels:=q.2 },gone:=[] } else none
def Zaa:AV→Option Zf
 | .ptr a b=>QR (.ptr a b)
 | .prow a b c d=>QR (.prow a b c d)
 | .pim c=>QR (.pim c)
 | .clo f c=>QR (.clo f c)
 | _=>none
def Zpu (op:BinOp) (eq:Bool):AV→AV→Option Zf
 | .d (.bool a),.d (.bool b)=>if eq then Wd (Zut op a b) else none
 | a,b=>Wd (vbin op a b)
def JZ:List Nat→List D→List D→Option Bool
 | [],[],[]=>some true
 | 0 :: ks,.int k a :: cs,.int k' b :: ds=>if k=k' then bnd (JZ ks cs ds) fun r=>some (decide (a=b)&&r) else none
 | 1 :: ks,.bool a :: cs,.bool b :: ds=>bnd (JZ ks cs ds) fun r=>some (decide (a=b)&&r)
 | 2 :: ks,.str a :: cs,.str b :: ds=>bnd (JZ ks cs ds) fun r=>some (decide (a=b)&&r)
 | _,_,_=>none
def Zrd (neg:Bool) (r:Bool):Bool:=if neg then !r else r
def ZvR (neg:Bool) (ks:List Nat):AV→AV→Option Zf
 | .d (.agg cs),.d (.agg ds)=>bnd (JZ ks cs ds) fun r=>QR (.d (.bool (Zrd neg r)))
 | _,_=>none
def convI (k:IntKind):AV→Option Zf
 | .d (.int _ n)=>QR (.d (.int k (k.wrap n)))
 | _=>none
def convS:AV→Option Zf
 | .d (.str s)=>QR (.d (.str s))
 | _=>none
def Zuv (base s b:Nat) (z:D) (l c:Int):Option Zf:=
 if 0≤l∧l≤c∧c*b≤ZM∧c≤ZM∧z.cells.length=s then
  some { eff := { val:=.own base,adds:=[(base,.row s (List.replicate l.toNat z) true false)] },gone:=[] } else none
def makeT (base s b ns:Nat) (z:D) (l c:Int):Option Zf:=
 if 0≤l∧l≤c∧c*b≤ZM∧c≤ZM∧z.cells.length=s∧z.isAgg=true then
  some { eff := { val:=.own base,adds:=[(base,.tree s ns (List.replicate l.toNat z) none)] },gone:=[] } else none
def Wo (off:Nat):AV→Option Zf
 | .ptr id o=>QR (.ptr id (o+off))
 | .prow id sz i o=>QR (.prow id sz i (o+off))
 | .pim cs=>QR (.pim (cs.drop off))
 | _=>none
def Zre (x:AV) (n:Int) (len s:Nat):Option Zf:=if 0≤n∧n<len then Wo (n.toNat*s) x else none
def ZjX (hp:Hp) (s:Nat) (x:AV) (n:Int):Option Zf:=if 0≤n then Wd (QK hp s n.toNat x) else none
def Zxj (s:List UInt8) (n:Int):Option Zf:=if 0≤n then bnd s[n.toNat]? fun b=>QR (.d (.int .u8 b.toNat)) else none
def ZBQ (g:Bool) (s len:Nat) (n:Int) (v:AV):Option Zf:=if 0≤n∧n<len then Wd (ZlR g s (n.toNat*s) v) else none
def Zy7 (n:Int):AV→Option Zf
 | .d (.str s)=>Zxj s n
 | _=>none
def Zxk (i:Nat):AV→Option Zf
 | .tup vs=>Wd vs[i]?
 | _=>none
def Znz:Option Zm→Option (Nat×Nat×List D)
 | some (.tree s n xs none)=>some (s,n,xs)
 | _=>none
def Zds (hp:Hp):AV→Option (Nat×Nat×Nat×List D)
 | .own id=>bnd (Znz (lkp hp id)) fun q=>some (id,q)
 | _=>none
def Zbv (hp:Hp) (s b base id n:Nat) (ys:List D):AV→Option Eff
 | .nil=>if ys.length*b≤ZM∧ys.length≤ZM then some { val:=.own base,adds:=[(base,.tree s n ys none)],dels:=[id] } else none
 | .own id1=>bnd (Znz (lkp hp id1)) fun q=>if q.1=s∧q.2.1=n∧id1≠id∧(q.2.2.length+ys.length)*b≤ZM∧q.2.2.length+ys.length≤ZM then
   some { val:=.own base,adds:=[(base,.tree s n (q.2.2++ys) none)],dels:=[id1,id] } else none
 | _=>none
def Ji (xs:List D) (i c:Nat):Option (List D):=bnd xs[i]? fun x=>match x.cells[c]? with
 | some (.sl ys)=>some ys
 | _=>none
def X7 (hp:Hp):AV→List Nat
 | .own id=>if Zcd (lkp hp id) then [id] else []
 | _=>[]
def ZlS:Zm→Zm
 | .tree s _ xs none=>.row s xs true false
 | o=>o
def meltIn (hp:Hp):List Nat→Hp
 | []=>hp
 | i :: r=>match lkp hp i with
  | some o=>ins (meltIn hp r) i (ZlS o)
  | none=>meltIn hp r
noncomputable def Vu (hp:Hp) (s b:Nat) (str flat:Bool) (base:Nat) (x y:AV):List Nat→Option Eff
 | []=>Jg hp s b str flat base x y
 | i :: r=>if flat then none else bnd (Jg (meltIn hp (i :: r)) s b str flat base x y) fun e=>some { val:=e.val,adds:=e.adds,sets:=e.sets,dels:=e.dels++(i :: r),frz:=e.frz }
def appT (hp:Hp) (s b base:Nat) (x y:AV):Option Zf:=Zhk (bnd (Zds hp y) fun q=>if q.2.1=s then Zbv hp s b base q.1 q.2.2.1 q.2.2.2 x else none)
noncomputable def ZdT (hp:Hp) (s b:Nat) (str flat:Bool) (base:Nat) (x y:AV):List Nat→List Nat→Option Zf
 | [],m=>Zhk (Vu hp s b str flat base x y m)
 | i :: r,[]=>Zhk (Vu hp s b str flat base x y (i :: r))
 | _ :: _,_ :: _=>if flat || str then none else appT hp s b base x y
noncomputable def Zxl (hp:Hp) (s b:Nat) (str flat:Bool) (base:Nat) (x y:AV):Option Zf:=ZdT hp s b str flat base x y (X7 hp x) (X7 hp y)
def ZoQ:AV→AV→Option Zf
 | .d (.int k a),.d (.int k' b)=>if k=k' then QR (.d (.int k (minI a b))) else none
 | _,_=>none
def ZoR:AV→AV→Option Zf
 | .d (.int k a),.d (.int k' b)=>if k=k' then QR (.d (.int k (maxI a b))) else none
 | _,_=>none
inductive Opd where
 | t (n:Nat)
 | v (a:AV)
 | f (n:Nat)
def evO (sl:Sl):Opd→AV
 | .t n=>gs sl n
 | .v a=>a
 | .f n=>.clo n []
def evL (sl:Sl):List Opd→List AV
 | []=>[]
 | x :: r=>evO sl x :: evL sl r
def evP (sl:Sl):List (Nat×Nat×Opd)→List (Nat×Nat×AV)
 | []=>[]
 | (a,b,x) :: r=>(a,b,evO sl x) :: evP sl r
def evM (sl:Sl):Option Opd→Option AV
 | none=>none
 | some x=>some (evO sl x)
inductive COp where
 | move (x:Opd)
 | assign (s:Option Nat) (x:Opd)
 | pick (c a b:Opd)
 | alloc (slc:List (Option Nat)) (cs:List AV)
 | box (x:Opd)
 | build (zs:List AV) (ps:List (Nat×Nat×Opd))
 | buildSl (s:Nat) (xs:List Opd)
 | load (g:Bool) (s:Nat) (a:Opd)
 | store (slc:List (Option Nat)) (s:Nat) (a x:Opd)
 | nilCheck (x:Opd)
 | bin (op:BinOp) (eq:Bool) (x y:Opd)
 | un (op:UnOp) (x:Opd)
 | eqA (neg:Bool) (ks:List Nat) (x y:Opd)
 | convI (k:IntKind) (x:Opd)
 | convS (x:Opd)
 | fn (f:Nat) (caps:List Opd)
 | make (s b:Nat) (z:D) (l c:Opd)
 | slice (s:Nat) (x:Opd) (lo hi:Option Opd)
 | sliceS (x:Opd) (lo hi:Option Opd)
 | slice0 (x hi mx:Opd)
 | shift (off:Nat) (x:Opd)
 | part (g:Bool) (s off:Nat) (x:Opd)
 | iaS (s:Nat) (x i:Opd)
 | iaA (len s:Nat) (x i:Opd)
 | ixS (x i:Opd)
 | ixA (g:Bool) (s len:Nat) (x i:Opd)
 | nth (i:Nat) (x:Opd)
 | len (x:Opd)
 | lenS (x:Opd)
 | append (s b:Nat) (str flat:Bool) (x y:Opd)
 | min (x y:Opd)
 | max (x y:Opd)
 | call (f:Opd) (as1:List Opd)
 | slice3 (s:Nat) (x lo hi mx:Opd)
 | clear (s:Nat) (z:D) (x:Opd)
 | stuck
 | buildT (s n:Nat) (xs:List Opd)
 | appT (s b:Nat) (flat:Bool) (x y:Opd)
 | asgT (s n:Nat) (x:Opd)
 | makeT (s b n:Nat) (z:D) (l c:Opd)
structure CO where
 dst:Option Nat
 guard:Option (Nat×Bool)
 op:COp
 tl:Bool
def ZdU (C:Orc) (M:Zr) (hp:Hp) (base:Nat) (as1:List AV):AV→Option Zf
 | .clo g caps=>Zdr C (M g) hp base g (as1++caps)
 | _=>none
noncomputable def vop (C:Orc) (M:Zr) (sl:Sl) (hp:Hp) (base:Nat):COp→Option Zf
 | .move x=>QR (evO sl x)
 | .assign s x=>ZfH base s (evO sl x)
 | .pick c a b=>ZhI (evO sl a) (evO sl b) (evO sl c)
 | .alloc slc cs=>ZhJ slc base cs
 | .box x=>ZBO base (evO sl x)
 | .build zs ps=>Zrc zs (evP sl ps)
 | .buildSl s xs=>buildSl hp base s (evL sl xs)
 | .load g s a=>Wd (Ue hp g s (evO sl a))
 | .store slc s a x=>Zhk (ZaY hp slc s base (evO sl x).cells (evO sl a))
 | .nilCheck x=>Zaa (evO sl x)
 | .bin op eq x y=>Zpu op eq (evO sl x) (evO sl y)
 | .un op x=>Wd (vun op (evO sl x))
 | .eqA neg ks x y=>ZvR neg ks (evO sl x) (evO sl y)
 | .convI k x=>convI k (evO sl x)
 | .convS x=>convS (evO sl x)
 | .fn f cs=>Wd (cloV f (evL sl cs))
 | .make s b z l c=>bnd (idx (evO sl l)) fun l=>bnd (idx (evO sl c)) fun c=>Zuv base s b z l c
 | .slice s x lo hi=>Wd (VY hp s (evM sl lo) (evM sl hi) (evO sl x))
 | .sliceS x lo hi=>Wd (sliceS (evM sl lo) (evM sl hi) (evO sl x))
 | .slice0 x hi mx=>Wd (slice0 hp (evO sl x) (idx (evO sl hi)) (idx (evO sl mx)))
 | .shift off x=>Wo off (evO sl x)
 | .part g s off x=>Wd (ZlR g s off (evO sl x))
 | .iaS s x i=>bnd (idx (evO sl i)) fun n=>ZjX hp s (evO sl x) n
 | .iaA len s x i=>bnd (idx (evO sl i)) fun n=>Zre (evO sl x) n len s
 | .ixS x i=>bnd (idx (evO sl i)) fun n=>Zy7 n (evO sl x)
 | .ixA g s len x i=>bnd (idx (evO sl i)) fun n=>ZBQ g s len n (evO sl x)
 | .nth i x=>Zxk i (evO sl x)
 | .len x=>bnd (ZdQ hp (evO sl x)) fun n=>QR (.d (.int .i64 n))
 | .lenS x=>bnd (ZBM (evO sl x)) fun n=>QR (.d (.int .i64 n))
 | .append s b str flat x y=>Zxl hp s b str flat base (evO sl x) (evO sl y)
 | .min x y=>ZoQ (evO sl x) (evO sl y)
 | .max x y=>ZoR (evO sl x) (evO sl y)
 | .call f as1=>ZdU C M hp base (evL sl as1) (evO sl f)
 | .slice3 _ x lo hi mx=>Wd (slice3 hp (evO sl x) (idx (evO sl lo)) (idx (evO sl hi)) (idx (evO sl mx)))
 | .clear s z x=>Zhk (ZfD hp s z (evO sl x))
 | .stuck=>none
 | .buildT s n xs=>buildT hp base s n (evL sl xs)
 | .appT s b _ x y=>appT hp s b base (evO sl x) (evO sl y)
 | .asgT s n x=>asgT base s n (evO sl x)
 | .makeT s b n z l c=>bnd (idx (evO sl l)) fun l=>bnd (idx (evO sl c)) fun c=>makeT base s b n z l c
section
variable (P:Program)
def Yp (t:TypeId):Option TypeId:=match P.underlying t with
 | some (.slice e)=>some e
 | _=>none
def Zab (t:TypeId):Bool:=match P.underlying t with
 | some .string=>true
 | _=>false
def Zjg (t:TypeId):Bool:=match P.underlying t with
 | some .bool=>true
 | _=>false
def ZBR (t:TypeId):Option IntKind:=match P.underlying t with
 | some (.int k)=>some k
 | _=>none
def ZkN (t:TypeId):Option (Nat×TypeId):=match P.underlying t with
 | some (.array n e)=>some (n,e)
 | _=>none
def ZeX (t:TypeId):Option Bool:=match P.underlying t with
 | some (.struct _)=>some true
 | some (.array _ _)=>some true
 | some _=>some false
 | none=>none
def ZfI (s:TypeId) (f:Nat):Option (Nat×TypeId):=match P.underlying s with
 | some (.struct fs)=>match fs[f]? with
  | some x=>if P.cellsOf x.type=0 then none else some (x.offset,x.type)
  | none=>none
 | _=>none
def ZaK (t:TypeId):Option Value:=match P.info? t with
 | some i=>i.zero
 | none=>none
def ZAE:Nat→TypeId→List TypeId
 | 0,t=>[t]
 | n+1,t=>match P.underlying t with
  | some (.struct fs)=>fs.toList.flatMap fun f=>ZAE n f.type
  | some (.array k e)=>(List.replicate k (ZAE n e)).flatten
  | _=>[t]
def slcT (t:TypeId):List (Option Nat):=(ZAE P 4 t).map fun c=>(Yp P c).map P.cellsOf
def flatE (t:TypeId):Bool:=(ZAE P 4 t).all fun c=>match P.underlying c with
 | some (.int _)=>true
 | some .bool=>true
 | some .string=>true
 | _=>false
def Zce:Nat→TypeId→Nat→Option (List (Nat×Nat))
 | 0,_,_=>none
 | n+1,t,off=>match P.underlying t with
  | some (.int _)=>if P.cellsOf t=1 then some [(off,0)] else none
  | some .bool=>if P.cellsOf t=1 then some [(off,1)] else none
  | some .string=>if P.cellsOf t=1 then some [(off,2)] else none
  | some (.struct fs)=>if P.stoodInHeld t then none else
    bnd (QJ (fun f:Field=>if f.name = "_"∨P.cellsOf t<f.offset+P.cellsOf f.type then none else Zce n f.type (off+f.offset)) fs.toList) fun ls=>some ls.flatten
  | _=>none
def X4 (t:TypeId):Bool:=match P.underlying t with
 | some (.struct _)=>true
 | _=>false
def Zxm (t:TypeId):Option (List Nat):=bnd (Zce P 5 t 0) fun ls=>
 if ls.map (·.1)=List.range (P.cellsOf t)∧X4 P t=true∧P.eqGuardType P.depth t=false then some (ls.map (·.2)) else none
def Zxn (neg:Bool) (op:BinOp) (t:TypeId) (x y:Opd):Option (List Nat)→COp
 | some ks=>.eqA neg ks x y
 | none=>.bin op (Zjg P t) x y
def Zy8 (op:BinOp) (t:TypeId) (x y:Opd):COp:=match op with
 | .eql=>Zxn P false .eql t x y (Zxm P t)
 | .neq=>Zxn P true .neq t x y (Zxm P t)
 | op=>.bin op (Zjg P t) x y
end
section
variable (P:Program)
def ZZ:Operand→Option Opd
 | .tmp t=>some (.t t)
 | .const v=>some (.v (evC v))
 | .global _=>none
 | .func f=>some (.f f)
def Zxo (pl:Nat→Option (Nat×Nat)) (q:Nat×Operand):Option (Nat×Nat×Opd):=bnd (pl q.1) fun p=>bnd (ZZ q.2) fun x=>some (p.1,p.2,x)
def cOO:Option Operand→Option (Option Opd)
 | none=>some none
 | some x=>bnd (ZZ x) fun y=>some (some y)
def ZfJ (t:TypeId):Option (Nat×TypeId)→Nat→Option (Nat×Nat)
 | none,i=>bnd (ZfI P t i) fun q=>some (q.1,P.cellsOf q.2)
 | some a,i=>some (i*P.cellsOf a.2,P.cellsOf a.2)
def W5 (t:TypeId):Bool:=match P.info? t with
 | some i=>(match i.zero with
  | some z=>z.cells.size==i.size&&decide (0<i.size)
  | none=>false)
 | none=>false
def ZlT (t:TypeId):Bool:=match P.underlying t with
 | some (.struct fs)=>fs.toList.all fun f=>(P.info? f.type).isSome
 | some (.array _ e)=>(P.info? e).isSome
 | _=>false
def ZoS (e:TypeId) (u:TypeId):Option Bool:=match Yp P u with
 | some e'=>if e'=e then some false else none
 | none=>if Zab P u then some true else none
def Zrf (x i:Opd) (a:Option (Nat×TypeId)):Option TypeId→Option COp
 | some e=>if (P.info? e).isSome then some (.iaS (P.cellsOf e) x i) else none
 | none=>bnd a fun a=>if (P.info? a.2).isSome then some (.iaA a.1 (P.cellsOf a.2) x i) else none
def ZvS (x i:Opd) (str:Bool) (a:Option (Nat×TypeId)):Option COp:=
 if str then some (.ixS x i) else bnd a fun a=>bnd (ZeX P a.2) fun g=>some (.ixA g (P.cellsOf a.2) a.1 x i)
def ZAF (x:Opd) (ss sd:Bool):Option IntKind→Option IntKind→Option COp
 | some _,some k=>some (.convI k x)
 | _,_=>if ss&&sd then some (.convS x) else none
def cLen (x:Opd) (str:Bool):Option TypeId→Option COp
 | some _=>some (.len x)
 | none=>if str then some (.lenS x) else none
def Zy9 (x:Opd) (lo hi:Option Opd) (str:Bool):Option TypeId→Option COp
 | some e=>if (P.info? e).isSome then some (.slice (P.cellsOf e) x lo hi) else none
 | none=>if str then some (.sliceS x lo hi) else none
def Zcf:Builtin→List Operand→List TypeId→Option COp
 | .len,[x],[t]=>bnd (ZZ x) fun x=>cLen x (Zab P t) (Yp P t)
 | .append,[s,x],[t,u]=>bnd (Yp P t) fun e=>bnd (ZoS P e u) fun str=>bnd (ZZ s) fun s=>bnd (ZZ x) fun x=>
   if W5 P e then some (.append (P.cellsOf e) (P.bytesOf e) str (flatE P e) s x) else none
 | .min,[x,y],_=>bnd (ZZ x) fun x=>bnd (ZZ y) fun y=>some (.min x y)
 | .max,[x,y],_=>bnd (ZZ x) fun x=>bnd (ZZ y) fun y=>some (.max x y)
 | .clear,[x],[t]=>bnd (Yp P t) fun e=>bnd (ZZ x) fun x=>bnd (ZaK P e) fun z=>bnd (evD z) fun z=>if W5 P e then some (.clear (P.cellsOf e) z x) else none
 | _,_,_=>none
def teOf (t:TypeId):Nat:=match bnd (ZfI P t 1) fun q=>Yp P q.2 with
 | some e=>e
 | none=>0
def cOp (ty:TypeId):Op→Option COp
 | .move x=>bnd (ZZ x) fun x=>some (.move x)
 | .assign x=>bnd (ZZ x) fun x=>some (.assign (bnd (Yp P ty) fun e=>some (P.cellsOf e)) x)
 | .pick c a b=>bnd (ZZ c) fun c=>bnd (ZZ a) fun a=>bnd (ZZ b) fun b=>some (.pick c a b)
 | .alloc t=>bnd (ZaK P t) fun z=>some (.alloc (slcT P t) (bnT t (teOf P t) (evC z).cells))
 | .box _ x=>bnd (ZZ x) fun x=>some (.box x)
 | .build t ps=>bnd (ZaK P t) fun z=>bnd (QJ (Zxo (ZfJ P t (ZkN P t))) ps.toList) fun qs=>if ZlT P t then some (.build (evC z).cells qs) else none
 | .buildSlice t n ps=>bnd (Yp P t) fun e=>bnd (QJ (fun q:Nat×Operand=>ZZ q.2) ps.toList) fun xs=>
   if ps.toList.map (·.1)=List.range n∧n*P.cellsOf e≤16777216∧W5 P e then some (.buildSl (P.cellsOf e) xs) else none
 | .load t a=>bnd (ZeX P t) fun g=>bnd (ZZ a) fun a=>some (.load g (P.cellsOf t) a)
 | .store t a x=>bnd (ZZ a) fun a=>bnd (ZZ x) fun x=>if (P.info? t).isSome then some (.store (slcT P t) (P.cellsOf t) a x) else none
 | .nilCheck x=>bnd (ZZ x) fun x=>some (.nilCheck x)
 | .binOp op t x y _=>bnd (ZZ x) fun x=>bnd (ZZ y) fun y=>some (Zy8 P op t x y)
 | .unOp op _ x=>bnd (ZZ x) fun x=>some (.un op x)
 | .convert s d x=>bnd (ZZ x) fun x=>ZAF x (Zab P s) (Zab P d) (ZBR P s) (ZBR P d)
 | .makeFunc (.func f) fs cs=>if fs.toList.isEmpty then bnd (QJ ZZ cs.toList) fun cs=>some (.fn f cs) else none
 | .makeSlice t l c=>bnd (Yp P t) fun e=>bnd (ZZ l) fun l=>bnd (ZZ c) fun c=>bnd (ZaK P e) fun z=>bnd (evD z) fun z=>if W5 P e then some (.make (P.cellsOf e) (P.bytesOf e) z l c) else none
 | .slice t x lo hi none=>bnd (ZZ x) fun x=>bnd (cOO lo) fun lo=>bnd (cOO hi) fun hi=>Zy9 P x lo hi (Zab P t) (Yp P t)
 | .slice t x none (some hi) (some mx)=>bnd (Yp P t) fun e=>if (P.info? e).isSome then bnd (ZZ x) fun x=>bnd (ZZ hi) fun hi=>bnd (ZZ mx) fun mx=>some (.slice0 x hi mx) else none
 | .slice t x (some lo) (some hi) (some mx)=>bnd (Yp P t) fun e=>if (P.info? e).isSome then bnd (ZZ x) fun x=>bnd (ZZ lo) fun lo=>bnd (ZZ hi) fun hi=>bnd (ZZ mx) fun mx=>some (.slice3 (P.cellsOf e) x lo hi mx) else none
 | .fieldAddr s x f=>bnd (ZfI P s f) fun q=>bnd (ZZ x) fun x=>some (.shift q.1 x)
 | .field t x f=>bnd (ZfI P t f) fun q=>bnd (ZeX P q.2) fun g=>bnd (ZZ x) fun x=>some (.part g (P.cellsOf q.2) q.1 x)
 | .indexAddr t x i=>bnd (ZZ x) fun x=>bnd (ZZ i) fun i=>Zrf P x i (ZkN P t) (Yp P t)
 | .index t x i=>bnd (ZZ x) fun x=>bnd (ZZ i) fun i=>ZvS P x i (Zab P t) (ZkN P t)
 | .extract x i=>bnd (ZZ x) fun x=>some (.nth i x)
 | .call { callee:=.builtin b,args:=as1,argTypes:=ts }=>Zcf P b as1.toList ts.toList
 | .call { callee:=.value f,args:=as1,argTypes:=_ }=>bnd (ZZ f) fun f=>bnd (QJ ZZ as1.toList) fun as1=>some (.call f as1)
 | _=>none
def Zrg (ops:List Oper):Option (Nat×Bool)→Option (Option (Nat×Bool))
 | none=>some none
 | some q=>bnd ops[q.1]? fun g=>bnd g.dst fun t=>some (some (t,q.2))
def QY (nt:Nat):Option Nat→Bool
 | none=>true
 | some t=>decide (t<nt)
def V6 (ops:Array Oper) (i:Nat):List Nat:=match ops[i]? with
 | some o=>(o.after.toList.filter fun e=>Region.binds .any e).map fun e=>e.on
 | none=>[]
def ZhK (ops:Array Oper):Nat→Nat→Nat→Bool
 | 0,i,j=>(V6 ops i).contains j
 | n+1,i,j=>(V6 ops i).contains j || (V6 ops i).any fun z=>ZhK ops n z j
def startO:Op→Bool
 | .call { callee:=.builtin .append,args:=_,argTypes:=_ }=>true
 | .buildSlice _ _ _=>true
 | _=>false
def callO:Op→Bool
 | .call { callee:=.value (.func _),args:=_,argTypes:=_ }=>true
 | _=>false
def cloO:Op→Bool
 | .call { callee:=.value (.tmp _),args:=_,argTypes:=_ }=>true
 | _=>false
def ZDb:Op→Bool
 | .move _=>true
 | _=>false
def aheadO:Op→Bool
 | .store _ _ _=>false
 | .box _ _=>false
 | .assign _=>false
 | .makeFunc _ _ _=>false
 | .makeSlice _ _ _=>false
 | .call { callee:=.builtin .append,args:=_,argTypes:=_ }=>false
 | .call { callee:=.value _,args:=_,argTypes:=_ }=>false
 | _=>true
def ZED:Op→Bool
 | .move _=>true
 | .alloc _=>true
 | .buildSlice _ _ _=>true
 | .load _ _=>true
 | .nilCheck _=>true
 | .binOp _ _ _ _ _=>true
 | .unOp _ _ _=>true
 | .convert _ _ _=>true
 | .fieldAddr _ _ _=>true
 | .indexAddr _ _ _=>true
 | .slice _ _ _ _ _=>true
 | .call { callee:=.builtin .len,args:=_,argTypes:=_ }=>true
 | _=>false
def appO:Op→Bool
 | .call { callee:=.builtin .append,args:=_,argTypes:=_ }=>true
 | _=>false
def lookO:Op→Bool
 | .move _=>true
 | .load _ _=>true
 | .nilCheck _=>true
 | .binOp _ _ _ _ _=>true
 | .convert _ _ _=>true
 | .fieldAddr _ _ _=>true
 | .field _ _ _=>true
 | .extract _ _=>true
 | .indexAddr _ _ _=>true
 | .slice _ _ _ _ _=>true
 | .call { callee:=.builtin .len,args:=_,argTypes:=_ }=>true
 | _=>false
def atO (f:Op→Bool) (ops:List Oper) (k:Nat):Bool:=match ops[k]? with
 | some o=>f o.op
 | none=>false
def firmAt (ops:List Oper) (i:Nat):Bool:=
 (List.range ops.length).all fun k=>if k<i then ZhK ops.toArray 6 i k || atO ZDb ops k else k==i || ZhK ops.toArray 6 k i || atO ZDb ops k
def firmP (ops:List Oper) (i:Nat):Bool:=
 (List.range ops.length).all fun k=>if k<i then ZhK ops.toArray 6 i k || atO lookO ops k else k==i || ZhK ops.toArray 6 k i || atO ZDb ops k
def firmC (ops:List Oper) (i:Nat):Bool:=
 (List.range ops.length).all fun k=>if k<i then ZhK ops.toArray 6 i k || atO aheadO ops k else k==i || ZhK ops.toArray 6 k i || atO ZED ops k
def firmX (ops:List Oper) (i:Nat):Bool:=
 (List.range ops.length).all fun k=>k==i || if k<i then ZhK ops.toArray 6 i k else ZhK ops.toArray 6 k i
def ZlU (ops:List Oper) (o:Oper):Nat:=ops.findIdx fun x=>x.dst==o.dst
def firm (ops:List Oper) (o:Oper):Bool:=(startO o.op&&firmAt ops (ZlU ops o)) || (callO o.op&&firmC ops (ZlU ops o)) || (appO o.op&&firmP ops (ZlU ops o)) || (cloO o.op&&firmX ops (ZlU ops o))
def V7:Option COp→COp
 | some c=>c
 | none=>.stuck
def ZoT (nt:Nat) (ops:List Oper) (o:Oper):Option CO:=bnd (Zrg ops o.guard) fun g=>
 if QY nt o.dst then some { dst:=o.dst,guard:=g,op:=V7 (cOp P o.type o.op),tl:=firm ops o } else none
end
end Go.Abs
