import Derived.Orders
import Derived.Laws.AppendOwn
set_option linter.unusedSimpArgs false
set_option linter.unusedVariables false
namespace Go.Abs
open Go
abbrev Ka:=@Bool.false_eq_true
abbrev Kb:=@List.mem_of_getElem?
abbrev Kc:=@List.getElem?_eq_some_iff
abbrev Kd:=@List.mem_cons
abbrev Ke:=@if_neg
abbrev Kf:=@Bool.and_eq_true
theorem o_ {p:Prop} (h:p:=by omega):p:=h
theorem p_ {p:Prop} (h:p:=by simp only;omega):p:=h
abbrev Kg:=@decide_eq_true
abbrev Kh:=@List.mem_append
abbrev Ki:=@decide_eq_false
abbrev Kj:=@if_pos
abbrev Kk:=@List.map_cons
abbrev Kl:=@if_true
abbrev Km:=@if_false
abbrev Kn:=@List.length_cons
abbrev Ko:=@decide_eq_true_eq
abbrev Kp:=@Nat.le_refl
abbrev Kq:=@List.length_filterMap_le
abbrev Kr:=@List.length_append
abbrev Ks:=@List.eq_nil_of_length_eq_zero
abbrev Kt:=@List.map_nil
abbrev Ku:=@Nat.le_trans
abbrev Kv:=@List.mem_cons_of_mem
abbrev Kw:=@List.take_of_length_le
abbrev Kx:=@List.drop_eq_getElem_cons
abbrev Ky:=@Int.toNat_natCast
abbrev Kz:=@List.mem_flatMap
abbrev KA:=@List.cons_append
abbrev KB:=@List.length_map
abbrev KC:=@List.not_mem_nil
abbrev KD:=@List.append_nil
abbrev KE:=@Nat.ne_of_gt
abbrev KF:=@List.getElem?_append_right
abbrev KG:=@List.mem_singleton
abbrev KH:=@List.take_add_one
abbrev KI:=@List.getElem?_append_left
abbrev KJ:=@List.map_append
abbrev KK:=@List.getElem?_eq_getElem
abbrev KL:=@List.length_nil
abbrev KM:=@Nat.mul_le_mul_right
abbrev KN:=@Option.bind_some
abbrev KO:=@Array.getElem?_eq_some_iff
abbrev KP:=@Option.isSome_none
abbrev KQ:=@List.flatMap_cons
abbrev KR:=@Nat.add_mul
abbrev KS:=@Nat.add_assoc
abbrev KT:=@List.getElem?_cons_zero
abbrev KU:=@List.getElem?_cons_succ
abbrev KV:=@List.map_congr_left
abbrev KW:=@List.all_eq_true
abbrev KX:=@List.contains_eq_mem
abbrev KY:=@List.mem_of_mem_take
abbrev KZ:=@List.getElem?_eq_none
abbrev K0:=@Bool.not_eq_true'
abbrev K3:=@List.count_pos_iff
abbrev K4:=@Option.map_some
abbrev K5:=@Array.length_toList
abbrev K6:=@Bool.decide_and
abbrev K7:=@Nat.lt_or_ge
abbrev K8:=@Nat.zero_add
abbrev K9:=@Option.isSome_iff_exists
abbrev La:=@Bool.decide_or
abbrev Lc:=@List.flatten_cons
abbrev Ld:=@List.getElem?_map
abbrev Le:=@List.append_assoc
abbrev Lf:=@Option.bind_eq_some_iff
abbrev Lg:=@Option.isSome_some
abbrev Lh:=@List.mem_cons_self
abbrev Li:=@decide_eq_false_iff_not
abbrev Lj:=@List.nodup_cons
abbrev Lk:=@List.mem_map
abbrev Ll:=@List.getElem?_set_ne
abbrev Lm:=@List.nil_append
abbrev Ln:=@List.take_length
abbrev Lo:=@List.getElem?_drop
abbrev Lp:=@List.getElem?_take
abbrev Lq:=@List.filterMap_cons
abbrev Lr:=@Nat.add_sub_cancel_left
abbrev Ls:=@List.mem_filterMap
abbrev Lt:=@Bool.or_eq_true
abbrev Lu:=@List.take_succ_cons
abbrev Lv:=@List.flatten_append
abbrev Lw:=@List.nodup_nil
abbrev Lx:=@List.mem_range
abbrev Ly:=@Nat.eq_zero_or_pos
abbrev Lz:=@Bool.not_eq_true
abbrev LA:=@List.getElem?_of_mem
abbrev LB:=@List.length_take
abbrev LC:=@List.all_cons
abbrev LD:=@List.ext_getElem?
abbrev LF:=@List.getElem?_set_self
abbrev LG:=@List.take_succ_eq_append_getElem
abbrev LH:=@List.map_id
abbrev LI:=@List.takeWhile_append_dropWhile
abbrev LJ:=@Array.getElem?_toList
abbrev LK:=@List.take_append_drop
abbrev LL:=@List.filterMap_append
abbrev LM:=@List.any_eq_true
abbrev LN:=@Bool.false_or
abbrev LP:=@List.pairwise_append
abbrev LQ:=@List.nodup_append
abbrev LR:=@List.getElem?_set
abbrev LS:=@List.mem_filter
abbrev LU:=@List.replicate_succ
abbrev LV:=@List.length_drop
abbrev LX:=@Nat.lt_or_gt_of_ne
abbrev LY:=@List.pairwise_cons
abbrev LZ:=@Nat.lt_of_lt_of_le
abbrev L0:=@Array.getElem?_modify
abbrev L3:=@List.mem_of_mem_drop
abbrev L4:=@List.nodup_iff_count
abbrev L5:=@List.size_toArray
abbrev L6:=@Bool.and_true
abbrev L7:=@List.eq_of_mem_replicate
abbrev L8:=@List.mem_of_mem_eraseIdx
abbrev L9:=@Nat.add_le_add_left
abbrev Kaa:=@Option.bind_none
abbrev Kab:=@Int.le_refl
abbrev Kac:=@List.append_eq_nil_iff
abbrev Kad:=@List.set_cons_succ
abbrev Kae:=@Nat.add_zero
abbrev Kaf:=@Bool.true_and
abbrev Kag:=@List.getElem?_toArray
abbrev Kah:=@List.length_filter_le
abbrev Kai:=@List.singleton_append
abbrev Kaj:=@Nat.zero_le
abbrev Kak:=@Bool.or_eq_false_iff
abbrev Kal:=@Array.toList_setIfInBounds
abbrev Kam:=@List.getElem?_append
abbrev Kan:=@Int.mul_nonneg
abbrev Kao:=@Int.mul_le_mul
abbrev Kap:=@List.eraseIdx_of_length_le
abbrev Kaq:=@List.nodup_range
abbrev Kar:=@Nat.le_max_right
abbrev Kas:=@List.map_set
abbrev Kat:=@List.mem_map_of_mem
abbrev Kau:=@Nat.le_max_left
abbrev Kav:=@Bool.true_eq_false
abbrev Kaw:=@List.set_cons_zero
abbrev Kax:=@Option.toList_some
abbrev Kay:=@Bool.not_false
abbrev Kaz:=@List.drop_drop
inductive D where
 | int (k:IntKind) (n:Int)
 | bool (b:Bool)
 | str (s:List UInt8)
 | sl (xs:List D)
 | agg (cs:List D)
def D.cells:D→List D
 | .agg cs=>cs
 | .int k n=>[.int k n]
 | .bool b=>[.bool b]
 | .str s=>[.str s]
 | .sl xs=>[.sl xs]
def D.plain:D→Bool
 | .int _ _=>true
 | .bool _=>true
 | .str _=>true
 | .sl _=>false
 | .agg _=>false
def D.one:D→Bool
 | .int _ _=>true
 | .bool _=>true
 | .str _=>true
 | .sl _=>true
 | .agg _=>false
def Ju (p:D→Bool):List D→Bool
 | []=>true
 | x :: xs=>p x&&Ju p xs
def D.flat (d:D):Bool:=Ju D.plain d.cells
inductive AV where
 | d (x:D)
 | nil
 | nilp
 | nili
 | ptr (id off:Nat)
 | prow (id sz i off:Nat)
 | pim (cs:List D)
 | own (id:Nat)
 | ownv (id off len:Nat)
 | bnil (id e:Nat)
 | bbuf (te:Nat) (l:List UInt8)
 | agg (cs:List AV)
 | tup (vs:List AV)
 | clo (f:Nat) (caps:List AV)
 | junk
inductive Zk where
 | box (cs:List AV)
 | row (sz:Nat) (xs:List D) (ex fz:Bool)
 | tree (sz ns:Nat) (xs:List D) (lk:Option (Option Nat×Nat×Nat))
 | gone
abbrev Hp:=List (Nat×Zk)
abbrev Sl:=List (Nat×AV)
def bnd {α β:Type} (x:Option α) (f:α→Option β):Option β:=match x with
 | some a=>f a
 | none=>none
@[congr] theorem bnd_congr {α β:Type} {x y:Option α} {f:α→Option β} (h:x=y):bnd x f=bnd y f:=by rw[h]
theorem Zg {α β:Type} (a:α) (f:α→Option β):bnd (some a) f=f a:=rfl
theorem ZA3 {α β:Type} (f:α→Option β):bnd none f=none:=rfl
theorem ZCF {α β:Type} (c:Prop) [Decidable c] (a b:Option α) (f:α→Option β):bnd (if c then a else b) f=if c then bnd a f else bnd b f:=by split<;>rfl
theorem Za {α β:Type} {x:Option α} {f:α→Option β} {r:β} (h:bnd x f=some r):∃ a,x=some a∧f a=some r:=by
 cases x with
 | none=>cases h
 | some a=>exact⟨a,rfl,h⟩
def lkp {α:Type}:List (Nat×α)→Nat→Option α
 | [],_=>none
 | (k,v) :: r,t=>if k=t then some v else lkp r t
def ins {α:Type}:List (Nat×α)→Nat→α→List (Nat×α)
 | [],t,v=>[(t,v)]
 | (k,v) :: r,t,x=>if k<t then (t,x) :: (k,v) :: r else if k=t then (t,x) :: r else (k,v) :: ins r t x
def ZbE:Option AV→AV
 | some v=>v
 | none=>.junk
def gs (sl:Sl) (t:Nat):AV:=ZbE (lkp sl t)
structure St where
 sl:Sl
 hp:Hp
 nx:Nat
 m:Nat
def ZpL:AV→Option D
 | .d x=>if x.one then some x else none
 | _=>none
def ZeP:List AV→Option (List D)
 | []=>some []
 | v :: r=>bnd (ZpL v) fun x=>bnd (ZeP r) fun ds=>some (x :: ds)
def XK:List AV→Bool
 | []=>true
 | .bbuf _ _ :: _=>false
 | _ :: r=>XK r
def ZsP:AV→Bool
 | .clo _ _=>true
 | _=>false
def Zdp:List AV→Bool
 | []=>false
 | v :: r=>ZsP v || Zdp r
def W1 (cs:List AV):Option (List D)→AV
 | some ds=>.d (.agg ds)
 | none=>if Zdp cs then .junk else .agg cs
def AV.solid:AV→Bool
 | .junk=>false
 | .bbuf _ _=>false
 | .tup _=>false
 | _=>true
def XA:List AV→Bool
 | []=>true
 | v :: r=>v.solid&&XA r
def UG (cs:List AV):AV:=W1 cs (ZeP cs)
def AV.cells:AV→List AV
 | .agg cs=>cs
 | .d x=>x.cells.map .d
 | .nil=>[.nil] | .nilp=>[.nilp] | .nili=>[.nili] | .ptr a b=>[.ptr a b] | .prow a b c e=>[.prow a b c e] | .pim cs=>[.pim cs]
 | .own a=>[.own a] | .ownv a b c=>[.ownv a b c] | .bnil a b=>[.bnil a b] | .bbuf a b=>[.bbuf a b] | .tup vs=>[.tup vs] | .clo f c=>[.clo f c] | .junk=>[.junk]
@[irreducible] def u8 (n:Nat):UInt8:=UInt8.ofNat n
def u8L:List UInt8→List UInt8
 | []=>[]
 | c :: r=>u8 c.toNat :: u8L r
theorem ZA4:∀ l:List UInt8,u8L l=l
 | []=>rfl
 | c :: r=>by
  rw[u8L,ZA4 r];congr 1
  unfold u8;exact UInt8.ofNat_toNat
def Wz:Value→AV
 | .bool b=>.d (.bool b)
 | .int k n=>.d (.int k n)
 | .string s=>.d (.str (u8L s.data.toList))
 | .slice none 0 0=>.nil
 | .pointer none=>.nilp
 | .nilIface=>.nili
 | _=>.junk
def evC:Value→AV
 | .agg cs=>UG (cs.toList.map Wz)
 | v=>Wz v
def ev (sl:Sl):Operand→AV
 | .tmp t=>gs sl t
 | .const v=>evC v
 | .global _=>.junk
 | .func f=>.clo f []
def Zkw:Value→Option D
 | .bool b=>some (.bool b)
 | .int k n=>some (.int k n)
 | .string s=>some (.str s.data.toList)
 | .slice none 0 0=>some (.sl [])
 | _=>none
def QF {α β:Type} (f:α→Option β):List α→Option (List β)
 | []=>some []
 | x :: r=>bnd (f x) fun y=>bnd (QF f r) fun ys=>some (y :: ys)
def evD:Value→Option D
 | .agg cs=>bnd (QF Zkw cs.toList) fun ds=>some (.agg ds)
 | v=>Zkw v
def UH:Option Zk→Option (List D)
 | some (.row _ xs _ _)=>some xs
 | some (.tree _ _ xs none)=>some xs
 | _=>none
def ZiF (hp:Hp):AV→Option D
 | .d x=>some x
 | .nil=>some (.sl [])
 | .own id=>bnd (UH (lkp hp id)) fun xs=>some (.sl xs)
 | .ownv id off n=>bnd (UH (lkp hp id)) fun xs=>some (.sl ((xs.drop off).take n))
 | _=>none
def toD (hp:Hp):AV→Option D
 | .agg cs=>bnd (QF (ZiF hp) cs) fun ds=>if Ju D.one ds then some (.agg ds) else none
 | v=>ZiF hp v
def ZcV:AV→List Nat
 | .own id=>[id]
 | .ownv id _ _=>[id]
 | _=>[]
def ZeQ:AV→List Nat
 | .agg cs=>cs.flatMap ZcV
 | v=>ZcV v
def Zn:AV→List Nat
 | .own id=>[id]
 | .ownv id _ _=>[id]
 | .ptr id _=>[id]
 | .prow id _ _ _=>[id]
 | .bnil id _=>[id]
 | .junk | .bbuf _ _ | .d _ | .nil | .nilp | .nili | .pim _ | .agg _ | .tup _ | .clo _ _=>[]
def ZA:AV→List Nat
 | .agg cs=>cs.flatMap Zn
 | .clo _ cs=>cs.flatMap Zn
 | v=>Zn v
def Zx:AV→List Nat
 | .tup vs=>vs.flatMap ZA
 | v=>ZA v
def UI:Zk→List Nat
 | .box cs=>cs.flatMap ZA
 | .row _ _ _ _=>[]
 | .tree _ _ _ _=>[]
 | .gone=>[]
def ZpM:Option (Option Nat×Nat×Nat)→Option (Option Nat×Nat×Nat)
 | some q=>some (none,q.2)
 | none=>none
def ZeR (g:Nat→Nat):AV→AV
 | .own id=>.own (g id)
 | .ownv id a b=>.ownv (g id) a b
 | .ptr id o=>.ptr (g id) o
 | .prow id s i o=>.prow (g id) s i o
 | .bnil id e=>.bnil (g id) e
 | v=>v
def Zel (g:Nat→Nat):AV→AV
 | .agg cs=>.agg (cs.map (ZeR g))
 | .clo f cs=>.clo f (cs.map (ZeR g))
 | v=>ZeR g v
def ren (g:Nat→Nat):AV→AV
 | .tup vs=>.tup (vs.map (Zel g))
 | v=>Zel g v
def Zkx (g:Nat→Nat):Zk→Zk
 | .box cs=>.box (cs.map (Zel g))
 | .row s x e f=>.row s x e f
 | .tree s n x l=>.tree s n x (ZpM l)
 | .gone=>.gone
def Qb (bad:List Nat):AV→AV
 | .own id=>if bad.contains id then .junk else .own id
 | .ownv id a b=>if bad.contains id then .junk else .ownv id a b
 | .ptr id o=>if bad.contains id then .junk else .ptr id o
 | .prow id s i o=>if bad.contains id then .junk else .prow id s i o
 | .bnil id e=>if bad.contains id then .junk else .bnil id e
 | v=>v
def ZS (bad:List Nat):AV→AV
 | .agg cs=>.agg (cs.map (Qb bad))
 | .clo f cs=>.clo f (cs.map (Qb bad))
 | v=>Qb bad v
def kill (bad:List Nat):AV→AV
 | .tup vs=>.tup (vs.map (ZS bad))
 | v=>ZS bad v
def VY (bad:List Nat):Option (Option Nat×Nat×Nat)→Option (Option Nat×Nat×Nat)
 | some (some nm,q)=>if bad.contains nm then some (none,q) else some (some nm,q)
 | l=>l
def Xp (bad:List Nat):Zk→Zk
 | .box cs=>.box (cs.map (ZS bad))
 | .row s x e f=>.row s x e f
 | .tree s n x l=>.tree s n x (VY bad l)
 | .gone=>.gone
def Zmg {α β:Type} (f:α→β):List (Nat×α)→List (Nat×β)
 | []=>[]
 | (k,v) :: r=>(k,f v) :: Zmg f r
def Y5:Zk→Zk
 | .row s x e _=>.row s x e true
 | .tree s n x l=>.tree s n x l
 | o=>o
def freeze (ids:List Nat):Hp→Hp
 | []=>[]
 | (k,o) :: r=>(k,if ids.contains k then Y5 o else o) :: freeze ids r
def Zky:Option Zk→Option (List D×Bool)
 | some (.row _ xs ex _)=>some (xs,ex)
 | _=>none
def ZaV (hp:Hp):AV→Option (D×Bool×List Nat)
 | .d x=>some (x,x.flat,[])
 | .nil=>some (.sl [],true,[])
 | .own id=>bnd (Zky (lkp hp id)) fun q=>some (.sl q.1,q.2,[id])
 | _=>none
def VG (hp:Hp):List AV→Option (List D×Bool×List Nat)
 | []=>some ([],true,[])
 | v :: r=>bnd (ZaV hp v) fun q=>bnd (VG hp r) fun p=>
   if q.1.one&&!q.2.2.any p.2.2.contains then some (q.1 :: p.1,q.2.1&&p.2.1,q.2.2++p.2.2) else none
def give (hp:Hp):AV→Option (D×Bool×List Nat)
 | .agg cs=>bnd (VG hp cs) fun p=>some (.agg p.1,p.2.1,p.2.2)
 | v=>ZaV hp v
def Wk (hp:Hp):List AV→Option (List D×Bool×List Nat)
 | []=>some ([],true,[])
 | v :: r=>bnd (give hp v) fun q=>bnd (Wk hp r) fun p=>
   if !q.2.2.any p.2.2.contains then some (q.1 :: p.1,q.2.1&&p.2.1,q.2.2++p.2.2) else none
def Zw {α:Type} (cs:List α) (off:Nat) (vs:List α):List α:=cs.take off++vs++cs.drop (off+vs.length)
def Y6 (x:D) (off:Nat) (ds:List D):D:=match x with
 | .agg cs=>.agg (Zw cs off ds)
 | _=>ds.headD x
def WI (op:BinOp) (k:IntKind) (a b:Int):Option D:=
 match op with
 | .add=>some (.int k (k.wrap (a+b)))
 | .sub=>some (.int k (k.wrap (a-b)))
 | .mul=>some (.int k (k.wrap (a*b)))
 | .quo=>if b=0 then none else some (.int k (k.wrap (a.tdiv b)))
 | .rem=>if b=0 then none else some (.int k (a.tmod b))
 | .and=>some (.int k (k.wrap (BitVec.ofInt k.bits a &&& BitVec.ofInt k.bits b).toNat))
 | .or=>some (.int k (k.wrap (BitVec.ofInt k.bits a ||| BitVec.ofInt k.bits b).toNat))
 | .xor=>some (.int k (k.wrap (BitVec.ofInt k.bits a ^^^ BitVec.ofInt k.bits b).toNat))
 | .andNot=>some (.int k (k.wrap (BitVec.ofInt k.bits a &&& ~~~(BitVec.ofInt k.bits b)).toNat))
 | .eql=>some (.bool (a==b))
 | .neq=>some (.bool (a != b))
 | .lss=>some (.bool (decide (a<b)))
 | .leq=>some (.bool (decide (a≤b)))
 | .gtr=>some (.bool (decide (a>b)))
 | .geq=>some (.bool (decide (a≥b)))
 | .shl | .shr=>none
def Zmh (op:BinOp) (k:IntKind) (a b:Int):Option D:=
 if b<0 then none else
 match op with
 | .shl=>some (.int k (k.wrap (a*2 ^ (min b.toNat k.bits))))
 | .shr=>some (.int k (a.fdiv (2 ^ (min b.toNat k.bits))))
 | _=>none
def Zxj:Nat:=1152921504606846976
def ZvF (op:BinOp) (a b:List UInt8):Option D:=
 match op with
 | .add=>if a.length+b.length≤Zxj then some (.str (a++b)) else none
 | .eql=>some (.bool (a==b))
 | .neq=>some (.bool (!(a==b)))
 | _=>none
def D.beq1:D→D→Option Bool
 | .int _ a,.int _ b=>some (a==b)
 | .bool a,.bool b=>some (a==b)
 | .str a,.str b=>some (a==b)
 | _,_=>none
def beqL:List D→List D→Option Bool
 | [],[]=>some true
 | x :: xs,y :: ys=>bnd (D.beq1 x y) fun a=>bnd (beqL xs ys) fun b=>some (a&&b)
 | _,_=>none
def agg2 (op:BinOp) (r:Option Bool):Option AV:=match op with
 | .eql=>bnd r fun r=>some (.d (.bool r))
 | .neq=>bnd r fun r=>some (.d (.bool (!r)))
 | _=>none
def asD (r:Option D):Option AV:=bnd r fun x=>some (.d x)
def UJ (op:BinOp) (k k' : IntKind) (a b:Int):Option AV:=match op with
 | .shl | .shr=>asD (Zmh op k a b)
 | _=>if k=k' then asD (WI op k a b) else none
def ZsQ (op:BinOp) (a b:Bool):Option AV:=match op with
 | .eql=>some (.d (.bool (a==b)))
 | .neq=>some (.d (.bool (!(a==b))))
 | _=>none
def vbin (op:BinOp):AV→AV→Option AV
 | .d (.int k a),.d (.int k' b)=>UJ op k k' a b
 | .d (.str a),.d (.str b)=>asD (ZvF op a b)
 | _,_=>none
def neg1 (op:UnOp) (k:IntKind) (a:Int):Option AV:=match op with
 | .neg=>some (.d (.int k (k.wrap (0-a))))
 | _=>none
def not1 (op:UnOp) (a:Bool):Option AV:=match op with
 | .not=>some (.d (.bool (!a)))
 | _=>none
def vun (op:UnOp):AV→Option AV
 | .d (.int k a)=>neg1 op k a
 | .d (.bool a)=>not1 op a
 | _=>none
def ZpN:Option Zk→Option (List D)
 | some (.row _ xs _ _)=>some xs
 | some (.tree _ _ xs _)=>some xs
 | _=>none
def Zdq (hp:Hp):AV→Option Nat
 | .d (.sl xs)=>some xs.length
 | .nil=>some 0
 | .own id=>bnd (ZpN (lkp hp id)) fun xs=>some xs.length
 | .ownv _ _ n=>some n
 | _=>none
def ZzO:AV→Option Nat
 | .d (.str s)=>some s.length
 | _=>none
def minI (a b:Int):Int:=if b<a then b else a
def maxI (a b:Int):Int:=if b>a then b else a
end Go.Abs
namespace Go.Abs
open Go
def mat:List (Option Nat)→List AV→Nat→List AV×Hp
 | some s :: ts,.nil :: vs,b=>let r:=mat ts vs (b+1);(.own b :: r.1,(b,.row s [] true false) :: r.2)
 | _ :: ts,v :: vs,b=>let r:=mat ts vs b;(v :: r.1,r.2)
 | _,vs,_=>(vs,[])
def Zmi:List AV→Bool
 | []=>false
 | .nil :: _=>true
 | _ :: r=>Zmi r
structure Eff where
 val:AV
 adds:Hp:=[]
 sets:Hp:=[]
 dels:List Nat:=[]
 frz:List Nat:=[]
def Zi:Hp→Hp→Hp
 | hp,[]=>hp
 | hp,(k,o) :: r=>Zi (ins hp k o) r
def del:Hp→Nat→Hp
 | [],_=>[]
 | (k,o) :: r,t=>if k=t then del r t else (k,o) :: del r t
def Z6:Hp→List Nat→Hp
 | hp,[]=>hp
 | hp,k :: r=>Z6 (del hp k) r
def Qm (ids:List Nat) (hp:Hp):Hp:=match ids with
 | []=>hp
 | _=>freeze ids hp
def Eff.on (e:Eff) (hp:Hp):Hp:=Zi (Zi (Z6 (Qm e.frz hp) e.dels) e.sets) e.adds
def ZzP:List AV→Nat→List AV→List AV
 | cs,_,[]=>cs
 | cs,off,v :: r=>ZzP (cs.set off v) (off+1) r
def ZnB:List AV→List (Nat×Nat×AV)→Option (List AV)
 | cells,[]=>some cells
 | cells,q :: r=>if q.2.2.solid∧q.2.2.cells.length=q.2.1∧q.1+q.2.1≤cells.length then ZnB (ZzP cells q.1 q.2.2.cells) r else none
def AV.atom:AV→Bool
 | .d x=>x.one
 | .agg _=>false
 | .tup _=>false
 | .clo _ _=>false
 | _=>true
def Zie:List AV→Bool
 | []=>true
 | v :: r=>v.atom&&Zie r
def cloV (f:Nat) (cs:List AV):Option AV:=if Zie cs then some (.clo f cs) else none
def Zkz:AV→AV
 | .bbuf _ _=>.junk
 | v=>v
def J3 (agg:Bool) (s off:Nat):Option Zk→Option AV
 | some (.box cs)=>if agg then (if off+s≤cs.length then some (UG ((cs.drop off).take s)) else none) else (cs[off]?).map Zkz
 | _=>none
def ZbF (agg:Bool) (s off:Nat) (cs:List D):Option AV:=
 if agg then (if off+s≤cs.length then some (.d (.agg ((cs.drop off).take s))) else none) else asD cs[off]?
def ZkA (agg:Bool) (s sz off:Nat) (x:D):Option AV:=if x.cells.length=sz then ZbF agg s off x.cells else none
def ZnC (i off:Nat):Option (Option Nat×Nat×Nat)→Option AV
 | some (some nm,i',c)=>if i=i'∧off=c then some (.own nm) else none
 | _=>none
def UK (i off:Nat) (lk:Option (Option Nat×Nat×Nat)) (x:D):Option AV:=match x.cells[off]? with
 | some (.sl _)=>ZnC i off lk
 | some y=>if y.plain then some (.d y) else none
 | none=>none
def UM (id:Nat) (agg:Bool) (s sz i off:Nat):Option Zk→Option AV
 | some (.row sz' xs _ _)=>if sz=sz' then bnd xs[i]? (ZkA agg s sz off) else none
 | some (.tree sz' _ xs lk)=>if sz=sz' then (if agg then none else bnd xs[i]? (UK i off lk)) else none
 | _=>none
def WJ (hp:Hp) (agg:Bool) (s:Nat):AV→Option AV
 | .ptr id off=>J3 agg s off (lkp hp id)
 | .prow id sz i off=>UM id agg s sz i off (lkp hp id)
 | .pim cs=>ZbF agg s 0 cs
 | _=>none
def Zuj:AV→Option D
 | .d x=>if x.plain then some x else none
 | _=>none
def ZvG:List AV→Option (List D)
 | []=>some []
 | v :: r=>bnd (Zuj v) fun x=>bnd (ZvG r) fun ds=>some (x :: ds)
def ZgI (slc:List (Option Nat)) (s base id off:Nat) (vs:List AV):Option Zk→Option Eff
 | some (.box cs)=>if vs.length=s∧off+s≤cs.length∧XA vs∧XK cs=true then
    (if Zmi vs then some { val := .junk, adds := (mat slc vs base).2, sets := [(id, .box (Zw cs off (mat slc vs base).1))] }
      else some { val:=.junk,sets:=[(id,.box (Zw cs off vs))] })
   else none
 | _=>none
def D.notSl:D→Bool
 | .sl _=>false
 | _=>true
def Zif (s id sz i off:Nat) (xs:List D) (ex:Bool) (x:D) (q:List D×Bool×List Nat):Option Eff:=
 if x.notSl∧x.cells.length=sz∧q.1.length=s∧off+s≤sz∧q.2.2.contains id=false then
  some { val:=.junk,sets:=[(id,.row sz (xs.set i (Y6 x off q.1)) (ex&&q.2.1) false)],frz:=q.2.2 } else none
def Zig (n id:Nat):Option Zk→Option (D×List Nat)
 | some (.row sz xs true false)=>if sz=n∧Ju D.flat xs then some (.sl xs,[id]) else none
 | some (.tree sz n' xs none)=>if sz=n∧n'=n then some (.sl xs,[id]) else none
 | _=>none
def ZgJ (hp:Hp) (n:Nat):AV→Option (D×List Nat)
 | .d x=>if x.plain then some (x,[]) else none
 | .nil=>some (.sl [],[])
 | .own id=>Zig n id (lkp hp id)
 | _=>none
def VH (hp:Hp) (n:Nat):List AV→Option (List D×List Nat)
 | []=>some ([],[])
 | v :: r=>bnd (ZgJ hp n v) fun q=>bnd (VH hp n r) fun p=>if !q.2.any p.2.contains then some (q.1 :: p.1,q.2++p.2) else none
def D.isAgg:D→Bool
 | .agg _=>true
 | _=>false
def UN (i off s:Nat):Option (Option Nat×Nat×Nat)→Option (Option Nat×Nat×Nat)
 | some (nm,i',c)=>if i=i'∧off≤c∧c<off+s then none else some (nm,i',c)
 | none=>none
def Zih (s id sz n i off:Nat) (xs:List D) (lk:Option (Option Nat×Nat×Nat)) (x:D) (q:List D×List Nat):Option Eff:=
 if x.isAgg∧x.cells.length=sz∧q.1.length=s∧off+s≤sz∧q.2.contains id=false then
  some { val:=.junk,sets:=[(id,.tree sz n (xs.set i (Y6 x off q.1)) (UN i off s lk))],dels:=q.2 } else none
def ZbG (hp:Hp) (s id sz i off:Nat) (vs:List AV):Option Zk→Option Eff
 | some (.row sz' xs ex false)=>if sz=sz' then bnd xs[i]? fun x=>bnd (VG hp vs) fun q=>Zif s id sz i off xs ex x q else none
 | some (.tree sz' n xs lk)=>if sz=sz' then bnd xs[i]? fun x=>bnd (VH hp n vs) fun q=>Zih s id sz n i off xs lk x q else none
 | _=>none
def Zaz (hp:Hp) (slc:List (Option Nat)) (s base:Nat) (vs:List AV):AV→Option Eff
 | .ptr id off=>ZgI slc s base id off vs (lkp hp id)
 | .prow id sz i off=>ZbG hp s id sz i off vs (lkp hp id)
 | _=>none
def uni (s:Nat) (ys:List D):Prop:=∀ y∈ys,y.cells.length=s
def ZL:Nat:=140737488355328
def Xb (ys:List D):Prop:=∀ y∈ys,y.flat=true
def Zuk (flat:Bool):Option Zk→Option (List D×Bool)
 | some (.row _ ys ex _)=>some (ys,ex || flat)
 | _=>none
def ZpO:AV→Option (List D×Bool)
 | .d (.str s)=>some (s.map fun b=>.int .u8 b.toNat,true)
 | _=>none
def ZoT (flat:Bool) (off n:Nat):Option Zk→Option (List D×Bool)
 | some (.row _ ys ex _)=>some ((ys.drop off).take n,ex || flat)
 | _=>none
def ZgK (hp:Hp) (flat:Bool):AV→Option (List D×Bool)
 | .nil=>some ([],true)
 | .d (.sl ys)=>some (ys,flat)
 | .own id=>Zuk flat (lkp hp id)
 | .ownv id off n=>ZoT flat off n (lkp hp id)
 | _=>none
def ZpP (sz base:Nat) (dels:List Nat) (xs:List D) (ex:Bool):Eff:=
 { val:=.own base,adds:=[(base,.row sz xs ex false)],dels:=dels }
def ZpQ (sz by_ base id:Nat) (ys:List D) (ex' : Bool):Option Zk→Option Eff
 | some (.row sz' xs ex false)=>if sz'=sz∧(xs.length+ys.length)*by_≤ZL∧xs.length+ys.length≤ZL then some (ZpP sz base [id] (xs++ys) (ex&&ex')) else none
 | _=>none
def ZkB (sz by_ base id n:Nat) (ys:List D) (ex' : Bool):Option Zk→Option Eff
 | some (.row sz' xs ex false)=>if sz'=sz∧(n+ys.length)*by_≤ZL∧n+ys.length≤ZL then some (ZpP sz base [id] (xs.take n++ys) (ex&&ex')) else none
 | _=>none
def ZkC (sz base id n:Nat) (ys:List D) (ex' : Bool):Option Zk→Option Eff
 | some (.row sz' xs ex false)=>if sz'=sz∧0<xs.length∧n+ys.length≤xs.length then
   some { val:=.ownv base 0 (n+ys.length),adds:=[(base,.row sz (xs.take n++ys++xs.drop (n+ys.length)) (ex&&ex') false)],dels:=[id] } else none
 | _=>none
def ZkD (sz by_ base id off n:Nat) (ys:List D):Option Zk→Option Eff
 | some (.row sz' xs _ false)=>if sz'=sz∧(n+ys.length)*by_≤ZL∧n+ys.length≤ZL then some (ZpP sz base [id] ((xs.drop off).take n++ys) false) else none
 | _=>none
def ZiU (hp:Hp) (sz by_:Nat) (base:Nat) (src:List Nat) (ys:List D) (ex' : Bool):AV→Option Eff
 | .nil=>if ys.length*by_≤ZL∧ys.length≤ZL then some (ZpP sz base [] ys ex') else none
 | .own id=>if src.contains id then none else ZpQ sz by_ base id ys ex' (lkp hp id)
 | .ownv id off n=>if off≠0 then (if src.contains id then none else ZkD sz by_ base id off n ys (lkp hp id)) else if src.contains id then ZkC sz base id n ys ex' (lkp hp id) else ZkB sz by_ base id n ys ex' (lkp hp id)
 | _=>none
open Classical in
noncomputable def UO (hp:Hp) (sz by_:Nat) (str flat:Bool) (base:Nat) (s x:AV):Option Eff:=
 bnd (if str then ZpO x else ZgK hp flat x) fun q=>if uni sz q.1∧(flat=true→Xb q.1) then ZiU hp sz by_ base (ZcV x) q.1 q.2 s else none
def idx (i:AV):Option Int:=match i with
 | .d (.int _ n)=>some n
 | _=>none
def ZyI (sz:Nat) (y:D):Option AV:=if y.cells.length=sz then some (.pim y.cells) else none
def ZcW (sz id n:Nat):Option Zk→Option AV
 | some (.row sz' xs _ _)=>if sz'=sz∧n<xs.length then some (.prow id sz n 0) else none
 | some (.tree sz' _ xs _)=>if sz'=sz∧n<xs.length then some (.prow id sz n 0) else none
 | _=>none
def ZbH (sz id off m n:Nat):Option Zk→Option AV
 | some (.row sz' _ _ _)=>if sz'=sz∧n<m then some (.prow id sz (off+n) 0) else none
 | _=>none
def QG (hp:Hp) (sz n:Nat):AV→Option AV
 | .d (.sl xs)=>bnd xs[n]? (ZyI sz)
 | .own id=>ZcW sz id n (lkp hp id)
 | .ownv id off m=>ZbH sz id off m n (lkp hp id)
 | _=>none
def bd (m:Nat) (v:AV):Option Nat:=bnd (idx v) fun n=>if 0≤n∧n≤m then some n.toNat else none
def hiOf (len:Nat):Option AV→Option Nat
 | none=>some len
 | some v=>bd len v
def loOf (h:Nat):Option AV→Option Nat
 | none=>some 0
 | some v=>bd h v
def Zul (len:Nat) (lo hi:Option AV):Option (Nat×Nat):=bnd (hiOf len hi) fun h=>bnd (loOf h lo) fun l=>some (l,h)
def ZvH (id n:Nat):Option AV→Option AV→Option AV
 | none,none=>some (.own id)
 | lo,hi=>bnd (Zul n lo hi) fun b=>some (.ownv id b.1 (b.2-b.1))
def ZbI (s id:Nat) (lo hi:Option AV):Option Zk→Option AV
 | some (.row sz xs _ _)=>if sz=s then ZvH id xs.length lo hi else none
 | _=>none
def ZA5 (n m:Nat) (lo:Option AV):Option AV→Option (Nat×Nat)
 | none=>Zul n lo none
 | some h=>Zul m lo (some h)
def JG (s id off n:Nat) (lo hi:Option AV):Option Zk→Option AV
 | some (.row sz xs _ _)=>if sz=s then bnd (ZA5 n (xs.length-off) lo hi) fun b=>some (.ownv id (off+b.1) (b.2-b.1)) else none
 | _=>none
def slice3 (hp:Hp) (x:AV) (lo hi mx:Option Int):Option AV:=bnd lo fun l=>bnd hi fun h=>bnd mx fun m=>bnd (Zdq hp x) fun n=>
 if 0≤l∧l≤h∧h≤m∧m≤n then some .junk else none
def ZkE (s id off n:Nat) (z:D):Option Zk→Option Eff
 | some (.row sz xs ex false)=>if sz=s∧z.cells.length=s∧off+n≤xs.length then some { val:=.tup [],sets:=[(id,.row sz (xs.take off++List.replicate n z++xs.drop (off+n)) ex false)] } else none
 | _=>none
def ZeS (hp:Hp) (s:Nat) (z:D):AV→Option Eff
 | .ownv id off n=>ZkE s id off n z (lkp hp id)
 | _=>none
open Classical in
noncomputable def Vy (hp:Hp) (s:Nat) (lo hi:Option AV):AV→Option AV
 | .d (.sl xs)=>if uni s xs then bnd (Zul xs.length lo hi) fun b=>some (.d (.sl ((xs.take b.2).drop b.1))) else none
 | .nil=>bnd (Zul 0 lo hi) fun _=>some .nil
 | .own id=>ZbI s id lo hi (lkp hp id)
 | .ownv id off n=>JG s id off n lo hi (lkp hp id)
 | _=>none
def sliceS (lo hi:Option AV):AV→Option AV
 | .d (.str s)=>bnd (Zul s.length lo hi) fun b=>some (.d (.str ((s.take b.2).drop b.1)))
 | _=>none
def slice0 (hp:Hp) (x:AV) (hi mx:Option Int):Option AV:=match hi,mx with
 | some 0,some 0=>bnd (Zdq hp x) fun _=>some .nil
 | _,_=>none
def ZkF (agg:Bool) (s off:Nat):AV→Option AV
 | .d (.agg cs)=>ZbF agg s off cs
 | .agg cs=>if agg then (if off+s≤cs.length then some (UG ((cs.drop off).take s)) else none) else cs[off]?
 | _=>none
abbrev Orc:=Nat→List AV→List Zk→Option (AV×List Zk)
abbrev Zq:=Nat→Nat→Bool
def ZeT (hp:Hp) (id:Nat):Bool→Option AV
 | true=>some (.own id)
 | false=>asD (ZiF hp (.own id))
def ZgL:Bool→Option AV
 | true=>some .nil
 | false=>some (.d (.sl []))
def ZeU (hp:Hp) (cs:List AV):Bool→Option AV
 | true=>if Zdp cs then none else some (.agg cs)
 | false=>asD (toD hp (.agg cs))
def ZcN (hp:Hp) (m:Bool):AV→Option AV
 | .ptr a b=>some (.ptr a b)
 | .clo f c=>some (.clo f c)
 | .nilp=>some .nilp
 | .nili=>some .nili
 | .pim c=>some (.pim c)
 | .own id=>ZeT hp id m
 | .nil=>ZgL m
 | .d x=>some (.d x)
 | .agg cs=>ZeU hp cs m
 | v=>asD (toD hp v)
def args (hp:Hp) (m:Nat→Bool):Nat→List AV→Option (List AV)
 | _,[]=>some []
 | i,v :: r=>bnd (ZcN hp (m i) v) fun a=>bnd (args hp m (i+1) r) fun as1=>some (a :: as1)
def UP (hp:Hp) (go:List Nat→List Nat→List Nat) (id:Nat) (todo acc:List Nat):Option Zk→List Nat
 | some o=>go (todo++UI o) (acc++[id])
 | none=>go todo acc
def Q6 (hp:Hp):Nat→List Nat→List Nat→List Nat
 | 0,_,acc=>acc
 | _+1,[],acc=>acc
 | n+1,id :: todo,acc=>if acc.contains id then Q6 hp n todo acc else UP hp (Q6 hp n) id todo acc (lkp hp id)
def VI:List Nat→Nat→Nat
 | [],_=>0
 | x :: r,t=>if x=t then 0 else VI r t+1
def ZvI:Option Zk→Zk
 | some o=>o
 | none=>.gone
def Zdr (hp:Hp):List Nat→List Zk
 | []=>[]
 | id :: r=>ZvI (lkp hp id) :: Zdr hp r
def Zal (ids:List Nat) (o:Zk):Zk:=Zkx (VI ids) (Xp ((UI o).filter fun i=>!ids.contains i) o)
def ZgM:Option Zk→Bool
 | some (.row _ _ _ _)=>true
 | some (.tree _ _ _ _)=>true
 | some .gone=>true
 | _=>false
def ZbJ:AV→Bool
 | .d x=>x.flat
 | .pim _=>false
 | .agg _=>false
 | .tup _=>false
 | .clo _ _=>false
 | _=>true
def Zds:AV→Bool
 | .agg cs=>cs.all ZbJ
 | .clo _ cs=>cs.all ZbJ
 | v=>ZbJ v
def ZsR:AV→Bool
 | .tup vs=>vs.all Zds
 | v=>Zds v
def ZgN:Zk→Bool
 | .box cs=>cs.all Zds
 | .row _ _ ex fz=>ex&&!fz
 | .tree _ _ _ _=>true
 | .gone=>true
def ZjG (d:Nat):Option Nat→Nat
 | some i=>i
 | none=>d
def VZ (ids:List Nat) (base k:Nat):Nat:=ZjG (base+(k-ids.length)) ids[k]?
def ZbK (g:Nat→Nat):List Nat→List Zk→Hp
 | id :: ids,o :: os=>(id,Zkx g o) :: ZbK g ids os
 | _,_=>[]
def ZbL (g:Nat→Nat):Nat→List Zk→Hp
 | _,[]=>[]
 | k,o :: os=>(k,Zkx g o) :: ZbL g (k+1) os
structure Ze where
 eff:Eff
 gone:List Nat
def XN (_hp:Hp):Nat:=1000
def Yx:List AV→List AV→List Nat
 | v :: vs,.d _ :: as1=>ZeQ v++Yx vs as1
 | _ :: vs,_ :: as1=>Yx vs as1
 | _,_=>[]
def ZbM:Option Zk→Bool
 | some (.tree _ _ _ _)=>true
 | _=>false
def Zmj:List Nat→List Zk→List Nat
 | id :: ids,.gone :: os=>id :: Zmj ids os
 | _ :: ids,_ :: os=>Zmj ids os
 | _,_=>[]
def ZjH (hp:Hp) (ids:List Nat) (out:List Zk):Bool→List Nat
 | true=>Zmj ids out
 | false=>ids.filter fun i=>ZgM (lkp hp i)
def Zam (keep:Bool) (hp:Hp) (base:Nat) (ids lent:List Nat) (r:AV) (out:List Zk):Option Ze:=
 if out.length<ids.length then none else if !(ZsR r&&out.all ZgN)&&lent.any fun i=>ZbM (lkp hp i) then none else
  some { eff := { val:=ren (VZ ids base) r,adds:=ZbL (VZ ids base) base (out.drop ids.length),sets:=ZbK (VZ ids base) ids out,frz:=if ZsR r&&out.all ZgN then [] else lent },gone:=ZjH hp ids out keep }
def Jy:AV→List Nat
 | .ptr id _=>[id]
 | .clo _ cs=>cs.flatMap Zn
 | _=>[]
def Za3 (hp:Hp) (rs ids:List Nat):Bool:=ids.all fun i=>ZgM (lkp hp i) || rs.contains i
def ZeV (C:Orc) (keep:Bool) (hp:Hp) (base f:Nat) (lent:List Nat) (as1:List AV) (ids:List Nat):Option Ze:=
 if (as1.flatMap Zx).all ids.contains∧¬lent.any ids.contains∧Za3 hp (as1.flatMap Jy) ids=true then
  bnd (C f (as1.map (ren (VI ids))) ((Zdr hp ids).map (Zal ids))) fun q=>Zam keep hp base ids lent q.1 q.2
 else none
def ZcX (C:Orc) (m:Nat→Bool) (hp:Hp) (base f:Nat) (avs:List AV):Option Ze:=
 bnd (args hp m 0 avs) fun as1=>ZeV C (m 99) hp base f (Yx avs as1) as1 (Q6 hp (XN hp) (as1.flatMap Zx) [])
def Qp (v:AV):Option Ze:=some { eff := { val:=v },gone:=[] }
def VO (v:Option AV):Option Ze:=bnd v Qp
def Zgr (e:Option Eff):Option Ze:=bnd e fun e=>some { eff:=e,gone:=[] }
def ZeW (base:Nat) (e:Option Nat):AV→Option Ze
 | .nil=>bnd e fun s=>some { eff := { val:=.own base,adds:=[(base,.row s [] true false)] },gone:=[] }
 | v=>Qp v
def ZgO (a b:AV):AV→Option Ze
 | .d (.bool t)=>if t then Qp a else Qp b
 | _=>none
def ZjI (base:Nat):AV→AV
 | .bnil _ e=>.bnil base e
 | v=>v
def bnT (t te:Nat):List AV→List AV
 | [.nilp,.nil]=>[.bnil 0 t,.bbuf te []]
 | cs=>cs
def ZA6:List AV→Bool
 | [.bnil _ _,.bbuf _ []]=>true
 | _=>false
def ZpR (slc:List (Option Nat)) (base:Nat) (cs:List AV):Option Ze:=
 if XK cs=false then (if ZA6 cs=true then some { eff := { val:=.ptr base 0,adds:=[(base,.box cs)] },gone:=[] } else none) else
 if Zmi cs then some { eff := { val:=.ptr base 0,adds:=(base,.box (mat slc cs (base+1)).1) :: (mat slc cs (base+1)).2 },gone:=[] }
 else some { eff := { val:=.ptr base 0,adds:=[(base,.box cs)] },gone:=[] }
def ZgP (slc:List (Option Nat)) (base:Nat) (cs:List AV):Option Ze:=ZpR slc base (cs.map (ZjI base))
def ZzQ (base:Nat) (x:AV):Option Ze:=if x.solid&&XK x.cells then some { eff := { val:=.ptr base 0,adds:=[(base,.box x.cells)] },gone:=[] } else none
def ZpS (zs:List AV) (ps:List (Nat×Nat×AV)):Option Ze:=bnd (ZnB zs ps) fun cs=>Qp (UG cs)
def ZzR (base s:Nat) (q:List D×Bool×List Nat):Option Ze:=
 if q.1.all (fun d=>d.cells.length==s) then some { eff := { val:=.own base,adds:=[(base,.row s q.1 q.2.1 false)],frz:=q.2.2 },gone:=[] } else none
def buildSl (hp:Hp) (base s:Nat):List AV→Option Ze
 | []=>Qp .nil
 | v :: vs=>bnd (Wk hp (v :: vs)) (ZzR base s)
def Y7 (hp:Hp) (n s:Nat):List AV→Option (List D×List Nat)
 | []=>some ([],[])
 | .agg cs :: r=>bnd (VH hp n cs) fun q=>bnd (Y7 hp n s r) fun p=>
   if q.1.length=s∧(!q.2.any p.2.contains)=true then some (.agg q.1 :: p.1,q.2++p.2) else none
 | .own id :: r=>bnd (VH hp n [.own id]) fun q=>bnd (Y7 hp n s r) fun p=>
   if q.1.length=s∧(!q.2.any p.2.contains)=true then some (.agg q.1 :: p.1,q.2++p.2) else none
 | _=>none
def asgT (base s n:Nat):AV→Option Ze
 | .nil=>some { eff := { val:=.own base,adds:=[(base,.tree s n [] none)] },gone:=[] }
 | _=>none
def buildT (hp:Hp) (base s n:Nat) (vs:List AV):Option Ze:=
 if vs.isEmpty=false then bnd (Y7 hp n s vs) fun q=>some { eff := { val:=.own base,adds:=[(base,.tree s n q.1 none)],dels:=q.2 },gone:=[] } else none
def JH:AV→Option Ze
 | .ptr a b=>Qp (.ptr a b)
 | .prow a b c d=>Qp (.prow a b c d)
 | .pim c=>Qp (.pim c)
 | .clo f c=>Qp (.clo f c)
 | _=>none
def ZgQ (op:BinOp) (eq:Bool):AV→AV→Option Ze
 | .d (.bool a),.d (.bool b)=>if eq then VO (ZsQ op a b) else none
 | a,b=>VO (vbin op a b)
def Jv:List Nat→List D→List D→Option Bool
 | [],[],[]=>some true
 | 0 :: ks,.int k a :: cs,.int k' b :: ds=>if k=k' then bnd (Jv ks cs ds) fun r=>some (decide (a=b)&&r) else none
 | 1 :: ks,.bool a :: cs,.bool b :: ds=>bnd (Jv ks cs ds) fun r=>some (decide (a=b)&&r)
 | 2 :: ks,.str a :: cs,.str b :: ds=>bnd (Jv ks cs ds) fun r=>some (decide (a=b)&&r)
 | _,_,_=>none
def ZpT (neg:Bool) (r:Bool):Bool:=if neg then !r else r
def Zum (neg:Bool) (ks:List Nat):AV→AV→Option Ze
 | .d (.agg cs),.d (.agg ds)=>bnd (Jv ks cs ds) fun r=>Qp (.d (.bool (ZpT neg r)))
 | _,_=>none
def convI (k:IntKind):AV→Option Ze
 | .d (.int _ n)=>Qp (.d (.int k (k.wrap n)))
 | _=>none
def convS:AV→Option Ze
 | .d (.str s)=>Qp (.d (.str s))
 | _=>none
def ZsS (base s b:Nat) (z:D) (l c:Int):Option Ze:=
 if 0≤l∧l≤c∧c*b≤ZL∧c≤ZL∧z.cells.length=s then
  some { eff := { val:=.own base,adds:=[(base,.row s (List.replicate l.toNat z) true false)] },gone:=[] } else none
def makeT (base s b ns:Nat) (z:D) (l c:Int):Option Ze:=
 if 0≤l∧l≤c∧c*b≤ZL∧c≤ZL∧z.cells.length=s∧z.isAgg=true then
  some { eff := { val:=.own base,adds:=[(base,.tree s ns (List.replicate l.toNat z) none)] },gone:=[] } else none
def V0 (off:Nat):AV→Option Ze
 | .ptr id o=>Qp (.ptr id (o+off))
 | .prow id sz i o=>Qp (.prow id sz i (o+off))
 | .pim cs=>Qp (.pim (cs.drop off))
 | _=>none
def ZpU (x:AV) (n:Int) (len s:Nat):Option Ze:=if 0≤n∧n<len then V0 (n.toNat*s) x else none
def ZiV (hp:Hp) (s:Nat) (x:AV) (n:Int):Option Ze:=if 0≤n then VO (QG hp s n.toNat x) else none
def ZvJ (s:List UInt8) (n:Int):Option Ze:=if 0≤n then bnd s[n.toNat]? fun b=>Qp (.d (.int .u8 b.toNat)) else none
def ZzS (g:Bool) (s len:Nat) (n:Int) (v:AV):Option Ze:=if 0≤n∧n<len then VO (ZkF g s (n.toNat*s) v) else none
def Zxk (n:Int):AV→Option Ze
 | .d (.str s)=>ZvJ s n
 | _=>none
def ZvK (i:Nat):AV→Option Ze
 | .tup vs=>VO vs[i]?
 | _=>none
def Zmk:Option Zk→Option (Nat×Nat×List D)
 | some (.tree s n xs none)=>some (s,n,xs)
 | _=>none
def ZcY (hp:Hp):AV→Option (Nat×Nat×Nat×List D)
 | .own id=>bnd (Zmk (lkp hp id)) fun q=>some (id,q)
 | _=>none
def Za4 (hp:Hp) (s b base id n:Nat) (ys:List D):AV→Option Eff
 | .nil=>if ys.length*b≤ZL∧ys.length≤ZL then some { val:=.own base,adds:=[(base,.tree s n ys none)],dels:=[id] } else none
 | .own id1=>bnd (Zmk (lkp hp id1)) fun q=>if q.1=s∧q.2.1=n∧id1≠id∧(q.2.2.length+ys.length)*b≤ZL∧q.2.2.length+ys.length≤ZL then
   some { val:=.own base,adds:=[(base,.tree s n (q.2.2++ys) none)],dels:=[id1,id] } else none
 | _=>none
def UQ (xs:List D) (i c:Nat):Option (List D):=bnd xs[i]? fun x=>match x.cells[c]? with
 | some (.sl ys)=>some ys
 | _=>none
def XO (hp:Hp):AV→List Nat
 | .own id=>if ZbM (lkp hp id) then [id] else []
 | _=>[]
def ZkG:Zk→Zk
 | .tree s _ xs none=>.row s xs true false
 | o=>o
def meltIn (hp:Hp):List Nat→Hp
 | []=>hp
 | i :: r=>match lkp hp i with
  | some o=>ins (meltIn hp r) i (ZkG o)
  | none=>meltIn hp r
noncomputable def Y8 (hp:Hp) (s b:Nat) (str flat:Bool) (base:Nat) (x y:AV):List Nat→Option Eff
 | []=>UO hp s b str flat base x y
 | i :: r=>if flat then none else bnd (UO (meltIn hp (i :: r)) s b str flat base x y) fun e=>some { val:=e.val,adds:=e.adds,sets:=e.sets,dels:=e.dels++(i :: r),frz:=e.frz }
def appT (hp:Hp) (s b base:Nat) (x y:AV):Option Ze:=Zgr (bnd (ZcY hp y) fun q=>if q.2.1=s then Za4 hp s b base q.1 q.2.2.1 q.2.2.2 x else none)
noncomputable def Zdt (hp:Hp) (s b:Nat) (str flat:Bool) (base:Nat) (x y:AV):List Nat→List Nat→Option Ze
 | [],m=>Zgr (Y8 hp s b str flat base x y m)
 | i :: r,[]=>Zgr (Y8 hp s b str flat base x y (i :: r))
 | _ :: _,_ :: _=>if flat || str then none else appT hp s b base x y
noncomputable def ZvL (hp:Hp) (s b:Nat) (str flat:Bool) (base:Nat) (x y:AV):Option Ze:=Zdt hp s b str flat base x y (XO hp x) (XO hp y)
def ZnD:AV→AV→Option Ze
 | .d (.int k a),.d (.int k' b)=>if k=k' then Qp (.d (.int k (minI a b))) else none
 | _,_=>none
def ZnE:AV→AV→Option Ze
 | .d (.int k a),.d (.int k' b)=>if k=k' then Qp (.d (.int k (maxI a b))) else none
 | _,_=>none
inductive Opd where
 | t (n:Nat)
 | v (a:AV)
 | f (n:Nat)
def evO (sl:Sl):Opd→AV
 | .t n=>gs sl n
 | .v a=>a
 | .f n=>.clo n []
def evL (sl:Sl):List Opd→List AV
 | []=>[]
 | x :: r=>evO sl x :: evL sl r
def evP (sl:Sl):List (Nat×Nat×Opd)→List (Nat×Nat×AV)
 | []=>[]
 | (a,b,x) :: r=>(a,b,evO sl x) :: evP sl r
def evM (sl:Sl):Option Opd→Option AV
 | none=>none
 | some x=>some (evO sl x)
inductive COp where
 | move (x:Opd)
 | assign (s:Option Nat) (x:Opd)
 | pick (c a b:Opd)
 | alloc (slc:List (Option Nat)) (cs:List AV)
 | box (x:Opd)
 | build (zs:List AV) (ps:List (Nat×Nat×Opd))
 | buildSl (s:Nat) (xs:List Opd)
 | load (g:Bool) (s:Nat) (a:Opd)
 | store (slc:List (Option Nat)) (s:Nat) (a x:Opd)
 | nilCheck (x:Opd)
 | bin (op:BinOp) (eq:Bool) (x y:Opd)
 | un (op:UnOp) (x:Opd)
 | eqA (neg:Bool) (ks:List Nat) (x y:Opd)
 | convI (k:IntKind) (x:Opd)
 | convS (x:Opd)
 | fn (f:Nat) (caps:List Opd)
 | make (s b:Nat) (z:D) (l c:Opd)
 | slice (s:Nat) (x:Opd) (lo hi:Option Opd)
 | sliceS (x:Opd) (lo hi:Option Opd)
 | slice0 (x hi mx:Opd)
 | shift (off:Nat) (x:Opd)
 | part (g:Bool) (s off:Nat) (x:Opd)
 | iaS (s:Nat) (x i:Opd)
 | iaA (len s:Nat) (x i:Opd)
 | ixS (x i:Opd)
 | ixA (g:Bool) (s len:Nat) (x i:Opd)
 | nth (i:Nat) (x:Opd)
 | len (x:Opd)
 | lenS (x:Opd)
 | append (s b:Nat) (str flat:Bool) (x y:Opd)
 | min (x y:Opd)
 | max (x y:Opd)
 | call (f:Opd) (as1:List Opd)
 | slice3 (s:Nat) (x lo hi mx:Opd)
 | clear (s:Nat) (z:D) (x:Opd)
 | stuck
 | buildT (s n:Nat) (xs:List Opd)
 | appT (s b:Nat) (flat:Bool) (x y:Opd)
 | asgT (s n:Nat) (x:Opd)
 | makeT (s b n:Nat) (z:D) (l c:Opd)
structure CO where
 dst:Option Nat
 guard:Option (Nat×Bool)
 op:COp
 tl:Bool
def Zdu (C:Orc) (M:Zq) (hp:Hp) (base:Nat) (as1:List AV):AV→Option Ze
 | .clo g caps=>ZcX C (M g) hp base g (as1++caps)
 | _=>none
noncomputable def vop (C:Orc) (M:Zq) (sl:Sl) (hp:Hp) (base:Nat):COp→Option Ze
 | .move x=>Qp (evO sl x)
 | .assign s x=>ZeW base s (evO sl x)
 | .pick c a b=>ZgO (evO sl a) (evO sl b) (evO sl c)
 | .alloc slc cs=>ZgP slc base cs
 | .box x=>ZzQ base (evO sl x)
 | .build zs ps=>ZpS zs (evP sl ps)
 | .buildSl s xs=>buildSl hp base s (evL sl xs)
 | .load g s a=>VO (WJ hp g s (evO sl a))
 | .store slc s a x=>Zgr (Zaz hp slc s base (evO sl x).cells (evO sl a))
 | .nilCheck x=>JH (evO sl x)
 | .bin op eq x y=>ZgQ op eq (evO sl x) (evO sl y)
 | .un op x=>VO (vun op (evO sl x))
 | .eqA neg ks x y=>Zum neg ks (evO sl x) (evO sl y)
 | .convI k x=>convI k (evO sl x)
 | .convS x=>convS (evO sl x)
 | .fn f cs=>VO (cloV f (evL sl cs))
 | .make s b z l c=>bnd (idx (evO sl l)) fun l=>bnd (idx (evO sl c)) fun c=>ZsS base s b z l c
 | .slice s x lo hi=>VO (Vy hp s (evM sl lo) (evM sl hi) (evO sl x))
 | .sliceS x lo hi=>VO (sliceS (evM sl lo) (evM sl hi) (evO sl x))
 | .slice0 x hi mx=>VO (slice0 hp (evO sl x) (idx (evO sl hi)) (idx (evO sl mx)))
 | .shift off x=>V0 off (evO sl x)
 | .part g s off x=>VO (ZkF g s off (evO sl x))
 | .iaS s x i=>bnd (idx (evO sl i)) fun n=>ZiV hp s (evO sl x) n
 | .iaA len s x i=>bnd (idx (evO sl i)) fun n=>ZpU (evO sl x) n len s
 | .ixS x i=>bnd (idx (evO sl i)) fun n=>Zxk n (evO sl x)
 | .ixA g s len x i=>bnd (idx (evO sl i)) fun n=>ZzS g s len n (evO sl x)
 | .nth i x=>ZvK i (evO sl x)
 | .len x=>bnd (Zdq hp (evO sl x)) fun n=>Qp (.d (.int .i64 n))
 | .lenS x=>bnd (ZzO (evO sl x)) fun n=>Qp (.d (.int .i64 n))
 | .append s b str flat x y=>ZvL hp s b str flat base (evO sl x) (evO sl y)
 | .min x y=>ZnD (evO sl x) (evO sl y)
 | .max x y=>ZnE (evO sl x) (evO sl y)
 | .call f as1=>Zdu C M hp base (evL sl as1) (evO sl f)
 | .slice3 _ x lo hi mx=>VO (slice3 hp (evO sl x) (idx (evO sl lo)) (idx (evO sl hi)) (idx (evO sl mx)))
 | .clear s z x=>Zgr (ZeS hp s z (evO sl x))
 | .stuck=>none
 | .buildT s n xs=>buildT hp base s n (evL sl xs)
 | .appT s b _ x y=>appT hp s b base (evO sl x) (evO sl y)
 | .asgT s n x=>asgT base s n (evO sl x)
 | .makeT s b n z l c=>bnd (idx (evO sl l)) fun l=>bnd (idx (evO sl c)) fun c=>makeT base s b n z l c
section
variable (P:Program)
def X4 (t:TypeId):Option TypeId:=match P.underlying t with
 | some (.slice e)=>some e
 | _=>none
def JI (t:TypeId):Bool:=match P.underlying t with
 | some .string=>true
 | _=>false
def Zii (t:TypeId):Bool:=match P.underlying t with
 | some .bool=>true
 | _=>false
def ZzT (t:TypeId):Option IntKind:=match P.underlying t with
 | some (.int k)=>some k
 | _=>none
def ZjJ (t:TypeId):Option (Nat×TypeId):=match P.underlying t with
 | some (.array n e)=>some (n,e)
 | _=>none
def Zem (t:TypeId):Option Bool:=match P.underlying t with
 | some (.struct _)=>some true
 | some (.array _ _)=>some true
 | some _=>some false
 | none=>none
def ZeX (s:TypeId) (f:Nat):Option (Nat×TypeId):=match P.underlying s with
 | some (.struct fs)=>match fs[f]? with
  | some x=>if P.cellsOf x.type=0 then none else some (x.offset,x.type)
  | none=>none
 | _=>none
def Zan (t:TypeId):Option Value:=match P.info? t with
 | some i=>i.zero
 | none=>none
def ZyJ:Nat→TypeId→List TypeId
 | 0,t=>[t]
 | n+1,t=>match P.underlying t with
  | some (.struct fs)=>fs.toList.flatMap fun f=>ZyJ n f.type
  | some (.array k e)=>(List.replicate k (ZyJ n e)).flatten
  | _=>[t]
def slcT (t:TypeId):List (Option Nat):=(ZyJ P 4 t).map fun c=>(X4 P c).map P.cellsOf
def flatE (t:TypeId):Bool:=(ZyJ P 4 t).all fun c=>match P.underlying c with
 | some (.int _)=>true
 | some .bool=>true
 | some .string=>true
 | _=>false
def ZbN:Nat→TypeId→Nat→Option (List (Nat×Nat))
 | 0,_,_=>none
 | n+1,t,off=>match P.underlying t with
  | some (.int _)=>if P.cellsOf t=1 then some [(off,0)] else none
  | some .bool=>if P.cellsOf t=1 then some [(off,1)] else none
  | some .string=>if P.cellsOf t=1 then some [(off,2)] else none
  | some (.struct fs)=>if P.stoodInHeld t then none else
    bnd (QF (fun f:Field=>if f.name = "_"∨P.cellsOf t<f.offset+P.cellsOf f.type then none else ZbN n f.type (off+f.offset)) fs.toList) fun ls=>some ls.flatten
  | _=>none
def XL (t:TypeId):Bool:=match P.underlying t with
 | some (.struct _)=>true
 | _=>false
def ZvM (t:TypeId):Option (List Nat):=bnd (ZbN P 5 t 0) fun ls=>
 if ls.map (·.1)=List.range (P.cellsOf t)∧XL P t=true∧P.eqGuardType P.depth t=false then some (ls.map (·.2)) else none
def ZvN (neg:Bool) (op:BinOp) (t:TypeId) (x y:Opd):Option (List Nat)→COp
 | some ks=>.eqA neg ks x y
 | none=>.bin op (Zii P t) x y
def Zxl (op:BinOp) (t:TypeId) (x y:Opd):COp:=match op with
 | .eql=>ZvN P false .eql t x y (ZvM P t)
 | .neq=>ZvN P true .neq t x y (ZvM P t)
 | op=>.bin op (Zii P t) x y
end
section
variable (P:Program)
def ZW:Operand→Option Opd
 | .tmp t=>some (.t t)
 | .const v=>some (.v (evC v))
 | .global _=>none
 | .func f=>some (.f f)
def ZvO (pl:Nat→Option (Nat×Nat)) (q:Nat×Operand):Option (Nat×Nat×Opd):=bnd (pl q.1) fun p=>bnd (ZW q.2) fun x=>some (p.1,p.2,x)
def cOO:Option Operand→Option (Option Opd)
 | none=>some none
 | some x=>bnd (ZW x) fun y=>some (some y)
def ZeY (t:TypeId):Option (Nat×TypeId)→Nat→Option (Nat×Nat)
 | none,i=>bnd (ZeX P t i) fun q=>some (q.1,P.cellsOf q.2)
 | some a,i=>some (i*P.cellsOf a.2,P.cellsOf a.2)
def WC (t:TypeId):Bool:=match P.info? t with
 | some i=>(match i.zero with
  | some z=>z.cells.size==i.size&&decide (0<i.size)
  | none=>false)
 | none=>false
def ZkH (t:TypeId):Bool:=match P.underlying t with
 | some (.struct fs)=>fs.toList.all fun f=>(P.info? f.type).isSome
 | some (.array _ e)=>(P.info? e).isSome
 | _=>false
def ZnF (e:TypeId) (u:TypeId):Option Bool:=match X4 P u with
 | some e'=>if e'=e then some false else none
 | none=>if JI P u then some true else none
def ZpV (x i:Opd) (a:Option (Nat×TypeId)):Option TypeId→Option COp
 | some e=>if (P.info? e).isSome then some (.iaS (P.cellsOf e) x i) else none
 | none=>bnd a fun a=>if (P.info? a.2).isSome then some (.iaA a.1 (P.cellsOf a.2) x i) else none
def Zun (x i:Opd) (str:Bool) (a:Option (Nat×TypeId)):Option COp:=
 if str then some (.ixS x i) else bnd a fun a=>bnd (Zem P a.2) fun g=>some (.ixA g (P.cellsOf a.2) a.1 x i)
def ZyK (x:Opd) (ss sd:Bool):Option IntKind→Option IntKind→Option COp
 | some _,some k=>some (.convI k x)
 | _,_=>if ss&&sd then some (.convS x) else none
def cLen (x:Opd) (str:Bool):Option TypeId→Option COp
 | some _=>some (.len x)
 | none=>if str then some (.lenS x) else none
def Zxm (x:Opd) (lo hi:Option Opd) (str:Bool):Option TypeId→Option COp
 | some e=>if (P.info? e).isSome then some (.slice (P.cellsOf e) x lo hi) else none
 | none=>if str then some (.sliceS x lo hi) else none
def ZbO:Builtin→List Operand→List TypeId→Option COp
 | .len,[x],[t]=>bnd (ZW x) fun x=>cLen x (JI P t) (X4 P t)
 | .append,[s,x],[t,u]=>bnd (X4 P t) fun e=>bnd (ZnF P e u) fun str=>bnd (ZW s) fun s=>bnd (ZW x) fun x=>
   if WC P e then some (.append (P.cellsOf e) (P.bytesOf e) str (flatE P e) s x) else none
 | .min,[x,y],_=>bnd (ZW x) fun x=>bnd (ZW y) fun y=>some (.min x y)
 | .max,[x,y],_=>bnd (ZW x) fun x=>bnd (ZW y) fun y=>some (.max x y)
 | .clear,[x],[t]=>bnd (X4 P t) fun e=>bnd (ZW x) fun x=>bnd (Zan P e) fun z=>bnd (evD z) fun z=>if WC P e then some (.clear (P.cellsOf e) z x) else none
 | _,_,_=>none
def teOf (t:TypeId):Nat:=match bnd (ZeX P t 1) fun q=>X4 P q.2 with
 | some e=>e
 | none=>0
def cOp (ty:TypeId):Op→Option COp
 | .move x=>bnd (ZW x) fun x=>some (.move x)
 | .assign x=>bnd (ZW x) fun x=>some (.assign (bnd (X4 P ty) fun e=>some (P.cellsOf e)) x)
 | .pick c a b=>bnd (ZW c) fun c=>bnd (ZW a) fun a=>bnd (ZW b) fun b=>some (.pick c a b)
 | .alloc t=>bnd (Zan P t) fun z=>some (.alloc (slcT P t) (bnT t (teOf P t) (evC z).cells))
 | .box _ x=>bnd (ZW x) fun x=>some (.box x)
 | .build t ps=>bnd (Zan P t) fun z=>bnd (QF (ZvO (ZeY P t (ZjJ P t))) ps.toList) fun qs=>if ZkH P t then some (.build (evC z).cells qs) else none
 | .buildSlice t n ps=>bnd (X4 P t) fun e=>bnd (QF (fun q:Nat×Operand=>ZW q.2) ps.toList) fun xs=>
   if ps.toList.map (·.1)=List.range n∧n*P.cellsOf e≤16777216∧WC P e then some (.buildSl (P.cellsOf e) xs) else none
 | .load t a=>bnd (Zem P t) fun g=>bnd (ZW a) fun a=>some (.load g (P.cellsOf t) a)
 | .store t a x=>bnd (ZW a) fun a=>bnd (ZW x) fun x=>if (P.info? t).isSome then some (.store (slcT P t) (P.cellsOf t) a x) else none
 | .nilCheck x=>bnd (ZW x) fun x=>some (.nilCheck x)
 | .binOp op t x y _=>bnd (ZW x) fun x=>bnd (ZW y) fun y=>some (Zxl P op t x y)
 | .unOp op _ x=>bnd (ZW x) fun x=>some (.un op x)
 | .convert s d x=>bnd (ZW x) fun x=>ZyK x (JI P s) (JI P d) (ZzT P s) (ZzT P d)
 | .makeFunc (.func f) fs cs=>if fs.toList.isEmpty then bnd (QF ZW cs.toList) fun cs=>some (.fn f cs) else none
 | .makeSlice t l c=>bnd (X4 P t) fun e=>bnd (ZW l) fun l=>bnd (ZW c) fun c=>bnd (Zan P e) fun z=>bnd (evD z) fun z=>if WC P e then some (.make (P.cellsOf e) (P.bytesOf e) z l c) else none
 | .slice t x lo hi none=>bnd (ZW x) fun x=>bnd (cOO lo) fun lo=>bnd (cOO hi) fun hi=>Zxm P x lo hi (JI P t) (X4 P t)
 | .slice t x none (some hi) (some mx)=>bnd (X4 P t) fun e=>if (P.info? e).isSome then bnd (ZW x) fun x=>bnd (ZW hi) fun hi=>bnd (ZW mx) fun mx=>some (.slice0 x hi mx) else none
 | .slice t x (some lo) (some hi) (some mx)=>bnd (X4 P t) fun e=>if (P.info? e).isSome then bnd (ZW x) fun x=>bnd (ZW lo) fun lo=>bnd (ZW hi) fun hi=>bnd (ZW mx) fun mx=>some (.slice3 (P.cellsOf e) x lo hi mx) else none
 | .fieldAddr s x f=>bnd (ZeX P s f) fun q=>bnd (ZW x) fun x=>some (.shift q.1 x)
 | .field t x f=>bnd (ZeX P t f) fun q=>bnd (Zem P q.2) fun g=>bnd (ZW x) fun x=>some (.part g (P.cellsOf q.2) q.1 x)
 | .indexAddr t x i=>bnd (ZW x) fun x=>bnd (ZW i) fun i=>ZpV P x i (ZjJ P t) (X4 P t)
 | .index t x i=>bnd (ZW x) fun x=>bnd (ZW i) fun i=>Zun P x i (JI P t) (ZjJ P t)
 | .extract x i=>bnd (ZW x) fun x=>some (.nth i x)
 | .call { callee:=.builtin b,args:=as1,argTypes:=ts }=>ZbO P b as1.toList ts.toList
 | .call { callee:=.value f,args:=as1,argTypes:=_ }=>bnd (ZW f) fun f=>bnd (QF ZW as1.toList) fun as1=>some (.call f as1)
 | _=>none
def ZpW (ops:List Oper):Option (Nat×Bool)→Option (Option (Nat×Bool))
 | none=>some none
 | some q=>bnd ops[q.1]? fun g=>bnd g.dst fun t=>some (some (t,q.2))
def QP (nt:Nat):Option Nat→Bool
 | none=>true
 | some t=>decide (t<nt)
def VJ (ops:Array Oper) (i:Nat):List Nat:=match ops[i]? with
 | some o=>(o.after.toList.filter fun e=>Region.binds .any e).map fun e=>e.on
 | none=>[]
def ZgR (ops:Array Oper):Nat→Nat→Nat→Bool
 | 0,i,j=>(VJ ops i).contains j
 | n+1,i,j=>(VJ ops i).contains j || (VJ ops i).any fun z=>ZgR ops n z j
def startO:Op→Bool
 | .call { callee:=.builtin .append,args:=_,argTypes:=_ }=>true
 | .buildSlice _ _ _=>true
 | _=>false
def callO:Op→Bool
 | .call { callee:=.value (.func _),args:=_,argTypes:=_ }=>true
 | _=>false
def cloO:Op→Bool
 | .call { callee:=.value (.tmp _),args:=_,argTypes:=_ }=>true
 | _=>false
def ZA7:Op→Bool
 | .move _=>true
 | _=>false
def aheadO:Op→Bool
 | .store _ _ _=>false
 | .box _ _=>false
 | .assign _=>false
 | .makeFunc _ _ _=>false
 | .makeSlice _ _ _=>false
 | .call { callee:=.builtin .append,args:=_,argTypes:=_ }=>false
 | .call { callee:=.value _,args:=_,argTypes:=_ }=>false
 | _=>true
def ZCG:Op→Bool
 | .move _=>true
 | .alloc _=>true
 | .buildSlice _ _ _=>true
 | .load _ _=>true
 | .nilCheck _=>true
 | .binOp _ _ _ _ _=>true
 | .unOp _ _ _=>true
 | .convert _ _ _=>true
 | .fieldAddr _ _ _=>true
 | .indexAddr _ _ _=>true
 | .slice _ _ _ _ _=>true
 | .call { callee:=.builtin .len,args:=_,argTypes:=_ }=>true
 | _=>false
def appO:Op→Bool
 | .call { callee:=.builtin .append,args:=_,argTypes:=_ }=>true
 | _=>false
def lookO:Op→Bool
 | .move _=>true
 | .load _ _=>true
 | .nilCheck _=>true
 | .binOp _ _ _ _ _=>true
 | .convert _ _ _=>true
 | .fieldAddr _ _ _=>true
 | .field _ _ _=>true
 | .extract _ _=>true
 | .indexAddr _ _ _=>true
 | .slice _ _ _ _ _=>true
 | .call { callee:=.builtin .len,args:=_,argTypes:=_ }=>true
 | _=>false
def atO (f:Op→Bool) (ops:List Oper) (k:Nat):Bool:=match ops[k]? with
 | some o=>f o.op
 | none=>false
def firmAt (ops:List Oper) (i:Nat):Bool:=
 (List.range ops.length).all fun k=>if k<i then ZgR ops.toArray 6 i k || atO ZA7 ops k else k==i || ZgR ops.toArray 6 k i || atO ZA7 ops k
def firmP (ops:List Oper) (i:Nat):Bool:=
 (List.range ops.length).all fun k=>if k<i then ZgR ops.toArray 6 i k || atO lookO ops k else k==i || ZgR ops.toArray 6 k i || atO ZA7 ops k
def firmC (ops:List Oper) (i:Nat):Bool:=
 (List.range ops.length).all fun k=>if k<i then ZgR ops.toArray 6 i k || atO aheadO ops k else k==i || ZgR ops.toArray 6 k i || atO ZCG ops k
def firmX (ops:List Oper) (i:Nat):Bool:=
 (List.range ops.length).all fun k=>k==i || if k<i then ZgR ops.toArray 6 i k else ZgR ops.toArray 6 k i
def ZkI (ops:List Oper) (o:Oper):Nat:=ops.findIdx fun x=>x.dst==o.dst
def firm (ops:List Oper) (o:Oper):Bool:=(startO o.op&&firmAt ops (ZkI ops o)) || (callO o.op&&firmC ops (ZkI ops o)) || (appO o.op&&firmP ops (ZkI ops o)) || (cloO o.op&&firmX ops (ZkI ops o))
def VK:Option COp→COp
 | some c=>c
 | none=>.stuck
def ZnG (nt:Nat) (ops:List Oper) (o:Oper):Option CO:=bnd (ZpW ops o.guard) fun g=>
 if QP nt o.dst then some { dst:=o.dst,guard:=g,op:=VK (cOp P o.type o.op),tl:=firm ops o } else none
end
end Go.Abs
