/- Own text. -/
import Derived.Orders
import Derived.Laws.AppendOwn
set_option linter.unusedVariables false
set_option linter.unusedSimpArgs false
namespace Go.Abs
open Go
abbrev Ka:=@Bool.false_eq_true
abbrev Kb:=@List.getElem?_eq_some_iff
abbrev Kc:=@List.mem_of_getElem?
abbrev Kd:=@if_neg
abbrev Ke:=@List.mem_cons
abbrev Kf:=@Bool.and_eq_true
abbrev Kg:=@if_pos
abbrev Kh:=@decide_eq_true
abbrev Ki:=@List.mem_append
abbrev Kj:=@decide_eq_false
abbrev Kk:=@List.map_cons
abbrev Kl:=@List.length_cons
abbrev Km:=@if_true
abbrev Kn:=@if_false
abbrev Ko:=@decide_eq_true_eq
abbrev Kp:=@Nat.le_refl
abbrev Kq:=@List.length_append
abbrev Kr:=@List.length_filterMap_le
abbrev Ks:=@List.map_nil
abbrev Kt:=@List.eq_nil_of_length_eq_zero
abbrev Ku:=@List.drop_eq_getElem_cons
abbrev Kv:=@List.getElem?_eq_getElem
abbrev Kw:=@Option.isSome_none
abbrev Kx:=@Nat.le_trans
abbrev Ky:=@Int.toNat_natCast
abbrev Kz:=@List.mem_cons_of_mem
abbrev KA:=@List.mem_flatMap
abbrev KB:=@List.take_add_one
abbrev KC:=@List.length_map
abbrev KD:=@List.cons_append
abbrev KE:=@List.mem_singleton
abbrev KF:=@List.append_nil
abbrev KG:=@List.getElem?_append_right
abbrev KH:=@Nat.ne_of_gt
abbrev KI:=@List.map_append
abbrev KJ:=@List.take_of_length_le
abbrev KK:=@List.append_assoc
abbrev KL:=@List.not_mem_nil
abbrev KM:=@List.getElem?_append_left
abbrev KN:=@List.take_length
abbrev KO:=@Int.toNat_of_nonneg
abbrev KP:=@Nat.mul_le_mul_right
abbrev KQ:=@List.length_nil
abbrev KR:=@Array.getElem?_eq_some_iff
abbrev KS:=@List.flatMap_cons
abbrev KT:=@Option.bind_some
abbrev KU:=@List.all_eq_true
abbrev KV:=@Nat.add_mul
abbrev KW:=@Nat.add_assoc
abbrev KX:=@List.getElem?_cons_zero
abbrev KY:=@List.getElem?_cons_succ
abbrev KZ:=@Option.bind_eq_some_iff
abbrev K0:=@List.getElem?_map
abbrev K3:=@Nat.lt_or_ge
abbrev K4:=@Option.isSome_some
abbrev K5:=@List.map_congr_left
abbrev K6:=@List.contains_eq_mem
abbrev K7:=@Nat.zero_add
abbrev K8:=@List.getElem?_eq_none
abbrev K9:=@Bool.not_eq_true'
abbrev La:=@List.count_pos_iff
abbrev Lc:=@Option.map_some
abbrev Ld:=@Bool.decide_and
abbrev Le:=@Array.length_toList
abbrev Lf:=@Option.isSome_iff_exists
abbrev Lg:=@List.mem_of_mem_take
abbrev Lh:=@Bool.decide_or
abbrev Li:=@List.mem_map
abbrev Lj:=@List.flatten_cons
abbrev Lk:=@List.getElem?_drop
abbrev Ll:=@List.nil_append
abbrev Lm:=@List.mem_cons_self
abbrev Ln:=@decide_eq_false_iff_not
abbrev Lo:=@List.nodup_cons
abbrev Lp:=@List.getElem?_set_ne
abbrev Lq:=@List.take_append_drop
abbrev Lr:=@List.getElem?_take
abbrev Ls:=@List.length_drop
abbrev Lt:=@List.filterMap_cons
abbrev Lu:=@List.take_succ_eq_append_getElem
abbrev Lv:=@Nat.add_sub_cancel_left
abbrev Lw:=@List.mem_filterMap
abbrev Lx:=@Bool.or_eq_true
abbrev Ly:=@List.flatten_append
abbrev Lz:=@List.nodup_nil
abbrev LA:=@List.mem_range
abbrev LB:=@Nat.eq_zero_or_pos
abbrev LC:=@List.length_take
abbrev LD:=@Bool.not_eq_true
abbrev LF:=@List.getElem?_of_mem
abbrev LG:=@List.all_cons
abbrev LH:=@List.getElem?_set_self
abbrev LI:=@List.ext_getElem?
abbrev LJ:=@List.replicate_succ
abbrev LK:=@List.map_id
abbrev LL:=@List.takeWhile_append_dropWhile
abbrev LM:=@List.filterMap_append
abbrev LN:=@List.singleton_append
abbrev LP:=@Array.getElem?_toList
abbrev LQ:=@List.any_eq_true
abbrev LR:=@Bool.false_or
abbrev LS:=@List.pairwise_append
abbrev LU:=@List.nodup_append
abbrev LV:=@List.getElem?_set
abbrev LX:=@List.mem_filter
abbrev LY:=@List.take_succ_cons
abbrev LZ:=@Option.bind_none
abbrev L0:=@List.pairwise_cons
abbrev L3:=@Option.toList_some
abbrev L4:=@Nat.lt_or_gt_of_ne
abbrev L5:=@Nat.lt_of_lt_of_le
abbrev L6:=@List.length_replicate
abbrev L7:=@Array.getElem?_modify
abbrev L8:=@Nat.add_zero
abbrev L9:=@List.mem_of_mem_drop
abbrev Kaa:=@List.nodup_iff_count
abbrev Kab:=@List.size_toArray
abbrev Kac:=@List.eq_of_mem_replicate
abbrev Kad:=@Bool.and_true
abbrev Kae:=@List.mem_of_mem_eraseIdx
abbrev Kaf:=@Nat.add_le_add_left
abbrev Kag:=@Int.le_refl
abbrev Kah:=@List.set_cons_zero
abbrev Kai:=@List.append_eq_nil_iff
abbrev Kaj:=@List.set_cons_succ
abbrev Kak:=@Bool.true_and
abbrev Kal:=@List.length_filter_le
abbrev Kam:=@List.getElem?_toArray
abbrev Kan:=@Int.mul_nonneg
abbrev Kao:=@Int.mul_le_mul
abbrev Kap:=@Bool.or_eq_false_iff
abbrev Kaq:=@List.drop_drop
abbrev Kar:=@List.count_le_length
abbrev Kas:=@Bool.not_false
abbrev Kat:=@List.eraseIdx_of_length_le
abbrev Kau:=@Nat.zero_le
abbrev Kav:=@Array.toList_setIfInBounds
abbrev Kaw:=@List.getElem?_append
abbrev Kax:=@List.map_set
abbrev Kay:=@List.nodup_range
abbrev Kaz:=@Nat.le_max_right
abbrev KaA:=@List.mem_map_of_mem
abbrev KaB:=@List.headD_cons
abbrev KaC:=@Nat.le_max_left
abbrev KaD:=@Bool.true_eq_false
inductive D where
 | int (k:IntKind) (n:Int)
 | bool (b:Bool)
 | str (s:List UInt8)
 | sl (xs:List D)
 | agg (cs:List D)
def D.cells:D→List D
 | .agg cs=>cs
 | .int k n=>[.int k n]
 | .bool b=>[.bool b]
 | .str s=>[.str s]
 | .sl xs=>[.sl xs]
def D.plain:D→Bool
 | .int _ _=>true
 | .bool _=>true
 | .str _=>true
 | .sl _=>false
 | .agg _=>false
def D.one:D→Bool
 | .int _ _=>true
 | .bool _=>true
 | .str _=>true
 | .sl _=>true
 | .agg _=>false
def ZaB (p:D→Bool):List D→Bool
 | []=>true
 | x :: xs=>p x&&ZaB p xs
def D.flat (d:D):Bool:=ZaB D.plain d.cells
inductive AV where
 | d (x:D)
 | nil
 | nilp
 | nili
 | ptr (id off:Nat)
 | prow (id sz i off:Nat)
 | pim (cs:List D)
 | own (id:Nat)
 | ownv (id off len:Nat)
 | bnil (id e:Nat)
 | bbuf (te:Nat) (l:List UInt8)
 | agg (cs:List AV)
 | tup (vs:List AV)
 | clo (f:Nat) (caps:List AV)
 | junk
inductive Zm where
 | box (cs:List AV)
 | row (sz:Nat) (xs:List D) (ex fz:Bool)
 | tree (sz ns:Nat) (xs:List D) (lk:Option (Option Nat×Nat×Nat))
 | gone
abbrev Hp:=List (Nat×Zm)
abbrev Sl:=List (Nat×AV)
def bnd {α β:Type} (x:Option α) (f:α→Option β):Option β:=match x with
 | some a=>f a
 | none=>none
@[congr] theorem bnd_congr {α β:Type} {x y:Option α} {f:α→Option β} (h:x=y):bnd x f=bnd y f:=by rw[h]
theorem Zh {α β:Type} (a:α) (f:α→Option β):bnd (some a) f=f a:=rfl
theorem ZFW {α β:Type} (f:α→Option β):bnd none f=none:=rfl
theorem ZHk {α β:Type} (c:Prop) [Decidable c] (a b:Option α) (f:α→Option β):bnd (if c then a else b) f=if c then bnd a f else bnd b f:=by split<;>rfl
theorem Za {α β:Type} {x:Option α} {f:α→Option β} {r:β} (h:bnd x f=some r):∃ a,x=some a∧f a=some r:=by
 cases x with
 | none=>cases h
 | some a=>exact⟨a,rfl,h⟩
def lkp {α:Type}:List (Nat×α)→Nat→Option α
 | [],_=>none
 | (k,v) :: r,t=>if k=t then some v else lkp r t
def ins {α:Type}:List (Nat×α)→Nat→α→List (Nat×α)
 | [],t,v=>[(t,v)]
 | (k,v) :: r,t,x=>if k<t then (t,x) :: (k,v) :: r else if k=t then (t,x) :: r else (k,v) :: ins r t x
def Zen:Option AV→AV
 | some v=>v
 | none=>.junk
def gs (sl:Sl) (t:Nat):AV:=Zen (lkp sl t)
structure St where
 sl:Sl
 hp:Hp
 nx:Nat
 m:Nat
def Ztr:AV→Option D
 | .d x=>if x.one then some x else none
 | _=>none
def ZhH:List AV→Option (List D)
 | []=>some []
 | v :: r=>bnd (Ztr v) fun x=>bnd (ZhH r) fun ds=>some (x :: ds)
def X9:List AV→Bool
 | []=>true
 | .bbuf _ _ :: _=>false
 | _ :: r=>X9 r
def ZwG:AV→Bool
 | .clo _ _=>true
 | _=>false
def ZfZ:List AV→Bool
 | []=>false
 | v :: r=>ZwG v || ZfZ r
def U8 (cs:List AV):Option (List D)→AV
 | some ds=>.d (.agg ds)
 | none=>if ZfZ cs then .junk else .agg cs
def AV.solid:AV→Bool
 | .junk=>false
 | .bbuf _ _=>false
 | .tup _=>false
 | _=>true
def X1:List AV→Bool
 | []=>true
 | v :: r=>v.solid&&X1 r
def Zaj (cs:List AV):AV:=U8 cs (ZhH cs)
def AV.cells:AV→List AV
 | .agg cs=>cs
 | .d x=>x.cells.map .d
 | .nil=>[.nil] | .nilp=>[.nilp] | .nili=>[.nili] | .ptr a b=>[.ptr a b] | .prow a b c e=>[.prow a b c e] | .pim cs=>[.pim cs]
 | .own a=>[.own a] | .ownv a b c=>[.ownv a b c] | .bnil a b=>[.bnil a b] | .bbuf a b=>[.bbuf a b] | .tup vs=>[.tup vs] | .clo f c=>[.clo f c] | .junk=>[.junk]
@[irreducible] def u8 (n:Nat):UInt8:=UInt8.ofNat n
def u8L:List UInt8→List UInt8
 | []=>[]
 | c :: r=>u8 c.toNat :: u8L r
theorem ZFX:∀ l:List UInt8,u8L l=l
 | []=>rfl
 | c :: r=>by
  rw[u8L,ZFX r];congr 1
  unfold u8;exact UInt8.ofNat_toNat
def Uv:Value→AV
 | .bool b=>.d (.bool b)
 | .int k n=>.d (.int k n)
 | .string s=>.d (.str (u8L s.data.toList))
 | .slice none 0 0=>.nil
 | .pointer none=>.nilp
 | .nilIface=>.nili
 | _=>.junk
def evC:Value→AV
 | .agg cs=>Zaj (cs.toList.map Uv)
 | v=>Uv v
def ev (sl:Sl):Operand→AV
 | .tmp t=>gs sl t
 | .const v=>evC v
 | .global _=>.junk
 | .func f=>.clo f []
def ZmR:Value→Option D
 | .bool b=>some (.bool b)
 | .int k n=>some (.int k n)
 | .string s=>some (.str s.data.toList)
 | .slice none 0 0=>some (.sl [])
 | _=>none
def QJ {α β:Type} (f:α→Option β):List α→Option (List β)
 | []=>some []
 | x :: r=>bnd (f x) fun y=>bnd (QJ f r) fun ys=>some (y :: ys)
def evD:Value→Option D
 | .agg cs=>bnd (QJ ZmR cs.toList) fun ds=>some (.agg ds)
 | v=>ZmR v
def Zak:Option Zm→Option (List D)
 | some (.row _ xs _ _)=>some xs
 | some (.tree _ _ xs none)=>some xs
 | _=>none
def Zkz (hp:Hp):AV→Option D
 | .d x=>some x
 | .nil=>some (.sl [])
 | .own id=>bnd (Zak (lkp hp id)) fun xs=>some (.sl xs)
 | .ownv id off n=>bnd (Zak (lkp hp id)) fun xs=>some (.sl ((xs.drop off).take n))
 | _=>none
def toD (hp:Hp):AV→Option D
 | .agg cs=>bnd (QJ (Zkz hp) cs) fun ds=>if ZaB D.one ds then some (.agg ds) else none
 | v=>Zkz hp v
def Zfj:AV→List Nat
 | .own id=>[id]
 | .ownv id _ _=>[id]
 | _=>[]
def ZhI:AV→List Nat
 | .agg cs=>cs.flatMap Zfj
 | v=>Zfj v
def Zo:AV→List Nat
 | .own id=>[id]
 | .ownv id _ _=>[id]
 | .ptr id _=>[id]
 | .prow id _ _ _=>[id]
 | .bnil id _=>[id]
 | .junk | .bbuf _ _ | .d _ | .nil | .nilp | .nili | .pim _ | .agg _ | .tup _ | .clo _ _=>[]
def ZC:AV→List Nat
 | .agg cs=>cs.flatMap Zo
 | .clo _ cs=>cs.flatMap Zo
 | v=>Zo v
def Zz:AV→List Nat
 | .tup vs=>vs.flatMap ZC
 | v=>ZC v
def Zal:Zm→List Nat
 | .box cs=>cs.flatMap ZC
 | .row _ _ _ _=>[]
 | .tree _ _ _ _=>[]
 | .gone=>[]
def Zts:Option (Option Nat×Nat×Nat)→Option (Option Nat×Nat×Nat)
 | some q=>some (none,q.2)
 | none=>none
def ZhJ (g:Nat→Nat):AV→AV
 | .own id=>.own (g id)
 | .ownv id a b=>.ownv (g id) a b
 | .ptr id o=>.ptr (g id) o
 | .prow id s i o=>.prow (g id) s i o
 | .bnil id e=>.bnil (g id) e
 | v=>v
def ZgE (g:Nat→Nat):AV→AV
 | .agg cs=>.agg (cs.map (ZhJ g))
 | .clo f cs=>.clo f (cs.map (ZhJ g))
 | v=>ZhJ g v
def ren (g:Nat→Nat):AV→AV
 | .tup vs=>.tup (vs.map (ZgE g))
 | v=>ZgE g v
def ZmS (g:Nat→Nat):Zm→Zm
 | .box cs=>.box (cs.map (ZgE g))
 | .row s x e f=>.row s x e f
 | .tree s n x l=>.tree s n x (Zts l)
 | .gone=>.gone
def Qh (bad:List Nat):AV→AV
 | .own id=>if bad.contains id then .junk else .own id
 | .ownv id a b=>if bad.contains id then .junk else .ownv id a b
 | .ptr id o=>if bad.contains id then .junk else .ptr id o
 | .prow id s i o=>if bad.contains id then .junk else .prow id s i o
 | .bnil id e=>if bad.contains id then .junk else .bnil id e
 | v=>v
def ZV (bad:List Nat):AV→AV
 | .agg cs=>.agg (cs.map (Qh bad))
 | .clo f cs=>.clo f (cs.map (Qh bad))
 | v=>Qh bad v
def kill (bad:List Nat):AV→AV
 | .tup vs=>.tup (vs.map (ZV bad))
 | v=>ZV bad v
def W2 (bad:List Nat):Option (Option Nat×Nat×Nat)→Option (Option Nat×Nat×Nat)
 | some (some nm,q)=>if bad.contains nm then some (none,q) else some (some nm,q)
 | l=>l
def XG (bad:List Nat):Zm→Zm
 | .box cs=>.box (cs.map (ZV bad))
 | .row s x e f=>.row s x e f
 | .tree s n x l=>.tree s n x (W2 bad l)
 | .gone=>.gone
def Zos {α β:Type} (f:α→β):List (Nat×α)→List (Nat×β)
 | []=>[]
 | (k,v) :: r=>(k,f v) :: Zos f r
def VM:Zm→Zm
 | .row s x e _=>.row s x e true
 | .tree s n x l=>.tree s n x l
 | o=>o
def freeze (ids:List Nat):Hp→Hp
 | []=>[]
 | (k,o) :: r=>(k,if ids.contains k then VM o else o) :: freeze ids r
def ZmT:Option Zm→Option (List D×Bool)
 | some (.row _ xs ex _)=>some (xs,ex)
 | _=>none
def ZcB (hp:Hp):AV→Option (D×Bool×List Nat)
 | .d x=>some (x,x.flat,[])
 | .nil=>some (.sl [],true,[])
 | .own id=>bnd (ZmT (lkp hp id)) fun q=>some (.sl q.1,q.2,[id])
 | _=>none
def Ws (hp:Hp):List AV→Option (List D×Bool×List Nat)
 | []=>some ([],true,[])
 | v :: r=>bnd (ZcB hp v) fun q=>bnd (Ws hp r) fun p=>
   if q.1.one&&!q.2.2.any p.2.2.contains then some (q.1 :: p.1,q.2.1&&p.2.1,q.2.2++p.2.2) else none
def give (hp:Hp):AV→Option (D×Bool×List Nat)
 | .agg cs=>bnd (Ws hp cs) fun p=>some (.agg p.1,p.2.1,p.2.2)
 | v=>ZcB hp v
def Uo (hp:Hp):List AV→Option (List D×Bool×List Nat)
 | []=>some ([],true,[])
 | v :: r=>bnd (give hp v) fun q=>bnd (Uo hp r) fun p=>
   if !q.2.2.any p.2.2.contains then some (q.1 :: p.1,q.2.1&&p.2.1,q.2.2++p.2.2) else none
def Zy {α:Type} (cs:List α) (off:Nat) (vs:List α):List α:=cs.take off++vs++cs.drop (off+vs.length)
def VN (x:D) (off:Nat) (ds:List D):D:=match x with
 | .agg cs=>.agg (Zy cs off ds)
 | _=>ds.headD x
def Jg (op:BinOp) (k:IntKind) (a b:Int):Option D:=
 match op with
 | .add=>some (.int k (k.wrap (a+b)))
 | .sub=>some (.int k (k.wrap (a-b)))
 | .mul=>some (.int k (k.wrap (a*b)))
 | .quo=>if b=0 then none else some (.int k (k.wrap (a.tdiv b)))
 | .rem=>if b=0 then none else some (.int k (a.tmod b))
 | .and=>some (.int k (k.wrap (BitVec.ofInt k.bits a &&& BitVec.ofInt k.bits b).toNat))
 | .or=>some (.int k (k.wrap (BitVec.ofInt k.bits a ||| BitVec.ofInt k.bits b).toNat))
 | .xor=>some (.int k (k.wrap (BitVec.ofInt k.bits a ^^^ BitVec.ofInt k.bits b).toNat))
 | .andNot=>some (.int k (k.wrap (BitVec.ofInt k.bits a &&& ~~~(BitVec.ofInt k.bits b)).toNat))
 | .eql=>some (.bool (a==b))
 | .neq=>some (.bool (a != b))
 | .lss=>some (.bool (decide (a<b)))
 | .leq=>some (.bool (decide (a≤b)))
 | .gtr=>some (.bool (decide (a>b)))
 | .geq=>some (.bool (decide (a≥b)))
 | .shl | .shr=>none
def Zot (op:BinOp) (k:IntKind) (a b:Int):Option D:=
 if b<0 then none else
 match op with
 | .shl=>some (.int k (k.wrap (a*2 ^ (min b.toNat k.bits))))
 | .shr=>some (.int k (a.fdiv (2 ^ (min b.toNat k.bits))))
 | _=>none
def ZB2:Nat:=1152921504606846976
def ZAu (op:BinOp) (a b:List UInt8):Option D:=
 match op with
 | .add=>if a.length+b.length≤ZB2 then some (.str (a++b)) else none
 | .eql=>some (.bool (a==b))
 | .neq=>some (.bool (!(a==b)))
 | _=>none
def D.beq1:D→D→Option Bool
 | .int _ a,.int _ b=>some (a==b)
 | .bool a,.bool b=>some (a==b)
 | .str a,.str b=>some (a==b)
 | _,_=>none
def beqL:List D→List D→Option Bool
 | [],[]=>some true
 | x :: xs,y :: ys=>bnd (D.beq1 x y) fun a=>bnd (beqL xs ys) fun b=>some (a&&b)
 | _,_=>none
def agg2 (op:BinOp) (r:Option Bool):Option AV:=match op with
 | .eql=>bnd r fun r=>some (.d (.bool r))
 | .neq=>bnd r fun r=>some (.d (.bool (!r)))
 | _=>none
def asD (r:Option D):Option AV:=bnd r fun x=>some (.d x)
def ZaW (op:BinOp) (k k' : IntKind) (a b:Int):Option AV:=match op with
 | .shl | .shr=>asD (Zot op k a b)
 | _=>if k=k' then asD (Jg op k a b) else none
def ZwH (op:BinOp) (a b:Bool):Option AV:=match op with
 | .eql=>some (.d (.bool (a==b)))
 | .neq=>some (.d (.bool (!(a==b))))
 | _=>none
def vbin (op:BinOp):AV→AV→Option AV
 | .d (.int k a),.d (.int k' b)=>ZaW op k k' a b
 | .d (.str a),.d (.str b)=>asD (ZAu op a b)
 | _,_=>none
def neg1 (op:UnOp) (k:IntKind) (a:Int):Option AV:=match op with
 | .neg=>some (.d (.int k (k.wrap (0-a))))
 | _=>none
def not1 (op:UnOp) (a:Bool):Option AV:=match op with
 | .not=>some (.d (.bool (!a)))
 | _=>none
def vun (op:UnOp):AV→Option AV
 | .d (.int k a)=>neg1 op k a
 | .d (.bool a)=>not1 op a
 | _=>none
def Ztt:Option Zm→Option (List D)
 | some (.row _ xs _ _)=>some xs
 | some (.tree _ _ xs _)=>some xs
 | _=>none
def Zf0 (hp:Hp):AV→Option Nat
 | .d (.sl xs)=>some xs.length
 | .nil=>some 0
 | .own id=>bnd (Ztt (lkp hp id)) fun xs=>some xs.length
 | .ownv _ _ n=>some n
 | _=>none
def ZEv:AV→Option Nat
 | .d (.str s)=>some s.length
 | _=>none
def minI (a b:Int):Int:=if b<a then b else a
def maxI (a b:Int):Int:=if b>a then b else a
end Go.Abs
set_option linter.unusedVariables false
set_option linter.unusedSimpArgs false
namespace Go.Abs
open Go
def mat:List (Option Nat)→List AV→Nat→List AV×Hp
 | some s :: ts,.nil :: vs,b=>let r:=mat ts vs (b+1);(.own b :: r.1,(b,.row s [] true false) :: r.2)
 | _ :: ts,v :: vs,b=>let r:=mat ts vs b;(v :: r.1,r.2)
 | _,vs,_=>(vs,[])
def Zou:List AV→Bool
 | []=>false
 | .nil :: _=>true
 | _ :: r=>Zou r
structure Eff where
 val:AV
 adds:Hp:=[]
 sets:Hp:=[]
 dels:List Nat:=[]
 frz:List Nat:=[]
def Zi:Hp→Hp→Hp
 | hp,[]=>hp
 | hp,(k,o) :: r=>Zi (ins hp k o) r
def del:Hp→Nat→Hp
 | [],_=>[]
 | (k,o) :: r,t=>if k=t then del r t else (k,o) :: del r t
def Qc:Hp→List Nat→Hp
 | hp,[]=>hp
 | hp,k :: r=>Qc (del hp k) r
def Qq (ids:List Nat) (hp:Hp):Hp:=match ids with
 | []=>hp
 | _=>freeze ids hp
def Eff.on (e:Eff) (hp:Hp):Hp:=Zi (Zi (Qc (Qq e.frz hp) e.dels) e.sets) e.adds
def ZEw:List AV→Nat→List AV→List AV
 | cs,_,[]=>cs
 | cs,off,v :: r=>ZEw (cs.set off v) (off+1) r
def Zpp:List AV→List (Nat×Nat×AV)→Option (List AV)
 | cells,[]=>some cells
 | cells,q :: r=>if q.2.2.solid∧q.2.2.cells.length=q.2.1∧q.1+q.2.1≤cells.length then Zpp (ZEw cells q.1 q.2.2.cells) r else none
def AV.atom:AV→Bool
 | .d x=>x.one
 | .agg _=>false
 | .tup _=>false
 | .clo _ _=>false
 | _=>true
def Zkc:List AV→Bool
 | []=>true
 | v :: r=>v.atom&&Zkc r
def cloV (f:Nat) (cs:List AV):Option AV:=if Zkc cs then some (.clo f cs) else none
def ZmU:AV→AV
 | .bbuf _ _=>.junk
 | v=>v
def ZbP (agg:Bool) (s off:Nat):Option Zm→Option AV
 | some (.box cs)=>if agg then (if off+s≤cs.length then some (Zaj ((cs.drop off).take s)) else none) else (cs[off]?).map ZmU
 | _=>none
def Zeo (agg:Bool) (s off:Nat) (cs:List D):Option AV:=
 if agg then (if off+s≤cs.length then some (.d (.agg ((cs.drop off).take s))) else none) else asD cs[off]?
def ZmV (agg:Bool) (s sz off:Nat) (x:D):Option AV:=if x.cells.length=sz then Zeo agg s off x.cells else none
def Zpq (i off:Nat):Option (Option Nat×Nat×Nat)→Option AV
 | some (some nm,i',c)=>if i=i'∧off=c then some (.own nm) else none
 | _=>none
def Zam (i off:Nat) (lk:Option (Option Nat×Nat×Nat)) (x:D):Option AV:=match x.cells[off]? with
 | some (.sl _)=>Zpq i off lk
 | some y=>if y.plain then some (.d y) else none
 | none=>none
def Zan (id:Nat) (agg:Bool) (s sz i off:Nat):Option Zm→Option AV
 | some (.row sz' xs _ _)=>if sz=sz' then bnd xs[i]? (ZmV agg s sz off) else none
 | some (.tree sz' _ xs lk)=>if sz=sz' then (if agg then none else bnd xs[i]? (Zam i off lk)) else none
 | _=>none
def UO (hp:Hp) (agg:Bool) (s:Nat):AV→Option AV
 | .ptr id off=>ZbP agg s off (lkp hp id)
 | .prow id sz i off=>Zan id agg s sz i off (lkp hp id)
 | .pim cs=>Zeo agg s 0 cs
 | _=>none
def Zyn:AV→Option D
 | .d x=>if x.plain then some x else none
 | _=>none
def ZAv:List AV→Option (List D)
 | []=>some []
 | v :: r=>bnd (Zyn v) fun x=>bnd (ZAv r) fun ds=>some (x :: ds)
def Zjh (slc:List (Option Nat)) (s base id off:Nat) (vs:List AV):Option Zm→Option Eff
 | some (.box cs)=>if vs.length=s∧off+s≤cs.length∧X1 vs∧X9 cs=true then
    (if Zou vs then some { val := .junk, adds := (mat slc vs base).2, sets := [(id, .box (Zy cs off (mat slc vs base).1))] }
      else some { val:=.junk,sets:=[(id,.box (Zy cs off vs))] })
   else none
 | _=>none
def D.notSl:D→Bool
 | .sl _=>false
 | _=>true
def Zkd (s id sz i off:Nat) (xs:List D) (ex:Bool) (x:D) (q:List D×Bool×List Nat):Option Eff:=
 if x.notSl∧x.cells.length=sz∧q.1.length=s∧off+s≤sz∧q.2.2.contains id=false then
  some { val:=.junk,sets:=[(id,.row sz (xs.set i (VN x off q.1)) (ex&&q.2.1) false)],frz:=q.2.2 } else none
def Zke (n id:Nat):Option Zm→Option (D×List Nat)
 | some (.row sz xs true false)=>if sz=n∧ZaB D.flat xs then some (.sl xs,[id]) else none
 | some (.tree sz n' xs none)=>if sz=n∧n'=n then some (.sl xs,[id]) else none
 | _=>none
def Zji (hp:Hp) (n:Nat):AV→Option (D×List Nat)
 | .d x=>if x.plain then some (x,[]) else none
 | .nil=>some (.sl [],[])
 | .own id=>Zke n id (lkp hp id)
 | _=>none
def Wt (hp:Hp) (n:Nat):List AV→Option (List D×List Nat)
 | []=>some ([],[])
 | v :: r=>bnd (Zji hp n v) fun q=>bnd (Wt hp n r) fun p=>if !q.2.any p.2.contains then some (q.1 :: p.1,q.2++p.2) else none
def D.isAgg:D→Bool
 | .agg _=>true
 | _=>false
def Zao (i off s:Nat):Option (Option Nat×Nat×Nat)→Option (Option Nat×Nat×Nat)
 | some (nm,i',c)=>if i=i'∧off≤c∧c<off+s then none else some (nm,i',c)
 | none=>none
def Zkf (s id sz n i off:Nat) (xs:List D) (lk:Option (Option Nat×Nat×Nat)) (x:D) (q:List D×List Nat):Option Eff:=
 if x.isAgg∧x.cells.length=sz∧q.1.length=s∧off+s≤sz∧q.2.contains id=false then
  some { val:=.junk,sets:=[(id,.tree sz n (xs.set i (VN x off q.1)) (Zao i off s lk))],dels:=q.2 } else none
def Zep (hp:Hp) (s id sz i off:Nat) (vs:List AV):Option Zm→Option Eff
 | some (.row sz' xs ex false)=>if sz=sz' then bnd xs[i]? fun x=>bnd (Ws hp vs) fun q=>Zkd s id sz i off xs ex x q else none
 | some (.tree sz' n xs lk)=>if sz=sz' then bnd xs[i]? fun x=>bnd (Wt hp n vs) fun q=>Zkf s id sz n i off xs lk x q else none
 | _=>none
def Zcr (hp:Hp) (slc:List (Option Nat)) (s base:Nat) (vs:List AV):AV→Option Eff
 | .ptr id off=>Zjh slc s base id off vs (lkp hp id)
 | .prow id sz i off=>Zep hp s id sz i off vs (lkp hp id)
 | _=>none
def uni (s:Nat) (ys:List D):Prop:=∀ y∈ys,y.cells.length=s
def ZM:Nat:=140737488355328
def Xz (ys:List D):Prop:=∀ y∈ys,y.flat=true
def Zyo (flat:Bool):Option Zm→Option (List D×Bool)
 | some (.row _ ys ex _)=>some (ys,ex || flat)
 | _=>none
def Ztu:AV→Option (List D×Bool)
 | .d (.str s)=>some (s.map fun b=>.int .u8 b.toNat,true)
 | _=>none
def ZqU (flat:Bool) (off n:Nat):Option Zm→Option (List D×Bool)
 | some (.row _ ys ex _)=>some ((ys.drop off).take n,ex || flat)
 | _=>none
def Zjj (hp:Hp) (flat:Bool):AV→Option (List D×Bool)
 | .nil=>some ([],true)
 | .d (.sl ys)=>some (ys,flat)
 | .own id=>Zyo flat (lkp hp id)
 | .ownv id off n=>ZqU flat off n (lkp hp id)
 | _=>none
def Ztv (sz base:Nat) (dels:List Nat) (xs:List D) (ex:Bool):Eff:=
 { val:=.own base,adds:=[(base,.row sz xs ex false)],dels:=dels }
def Ztw (sz by_ base id:Nat) (ys:List D) (ex' : Bool):Option Zm→Option Eff
 | some (.row sz' xs ex false)=>if sz'=sz∧(xs.length+ys.length)*by_≤ZM∧xs.length+ys.length≤ZM then some (Ztv sz base [id] (xs++ys) (ex&&ex')) else none
 | _=>none
def ZmW (sz by_ base id n:Nat) (ys:List D) (ex' : Bool):Option Zm→Option Eff
 | some (.row sz' xs ex false)=>if sz'=sz∧(n+ys.length)*by_≤ZM∧n+ys.length≤ZM then some (Ztv sz base [id] (xs.take n++ys) (ex&&ex')) else none
 | _=>none
def ZmX (sz base id n:Nat) (ys:List D) (ex' : Bool):Option Zm→Option Eff
 | some (.row sz' xs ex false)=>if sz'=sz∧0<xs.length∧n+ys.length≤xs.length then
   some { val:=.ownv base 0 (n+ys.length),adds:=[(base,.row sz (xs.take n++ys++xs.drop (n+ys.length)) (ex&&ex') false)],dels:=[id] } else none
 | _=>none
def ZmY (sz by_ base id off n:Nat) (ys:List D):Option Zm→Option Eff
 | some (.row sz' xs _ false)=>if sz'=sz∧(n+ys.length)*by_≤ZM∧n+ys.length≤ZM then some (Ztv sz base [id] ((xs.drop off).take n++ys) false) else none
 | _=>none
def Zk0 (hp:Hp) (sz by_:Nat) (base:Nat) (src:List Nat) (ys:List D) (ex' : Bool):AV→Option Eff
 | .nil=>if ys.length*by_≤ZM∧ys.length≤ZM then some (Ztv sz base [] ys ex') else none
 | .own id=>if src.contains id then none else Ztw sz by_ base id ys ex' (lkp hp id)
 | .ownv id off n=>if off≠0 then (if src.contains id then none else ZmY sz by_ base id off n ys (lkp hp id)) else if src.contains id then ZmX sz base id n ys ex' (lkp hp id) else ZmW sz by_ base id n ys ex' (lkp hp id)
 | _=>none
open Classical in
noncomputable def Zap (hp:Hp) (sz by_:Nat) (str flat:Bool) (base:Nat) (s x:AV):Option Eff:=
 bnd (if str then Ztu x else Zjj hp flat x) fun q=>if uni sz q.1∧(flat=true→Xz q.1) then Zk0 hp sz by_ base (Zfj x) q.1 q.2 s else none
def idx (i:AV):Option Int:=match i with
 | .d (.int _ n)=>some n
 | _=>none
def ZDf (sz:Nat) (y:D):Option AV:=if y.cells.length=sz then some (.pim y.cells) else none
def Zfk (sz id n:Nat):Option Zm→Option AV
 | some (.row sz' xs _ _)=>if sz'=sz∧n<xs.length then some (.prow id sz n 0) else none
 | some (.tree sz' _ xs _)=>if sz'=sz∧n<xs.length then some (.prow id sz n 0) else none
 | _=>none
def Zeq (sz id off m n:Nat):Option Zm→Option AV
 | some (.row sz' _ _ _)=>if sz'=sz∧n<m then some (.prow id sz (off+n) 0) else none
 | _=>none
def QK (hp:Hp) (sz n:Nat):AV→Option AV
 | .d (.sl xs)=>bnd xs[n]? (ZDf sz)
 | .own id=>Zfk sz id n (lkp hp id)
 | .ownv id off m=>Zeq sz id off m n (lkp hp id)
 | _=>none
def bd (m:Nat) (v:AV):Option Nat:=bnd (idx v) fun n=>if 0≤n∧n≤m then some n.toNat else none
def hiOf (len:Nat):Option AV→Option Nat
 | none=>some len
 | some v=>bd len v
def loOf (h:Nat):Option AV→Option Nat
 | none=>some 0
 | some v=>bd h v
def Zyp (len:Nat) (lo hi:Option AV):Option (Nat×Nat):=bnd (hiOf len hi) fun h=>bnd (loOf h lo) fun l=>some (l,h)
def ZAw (id n:Nat):Option AV→Option AV→Option AV
 | none,none=>some (.own id)
 | lo,hi=>bnd (Zyp n lo hi) fun b=>some (.ownv id b.1 (b.2-b.1))
def Zer (s id:Nat) (lo hi:Option AV):Option Zm→Option AV
 | some (.row sz xs _ _)=>if sz=s then ZAw id xs.length lo hi else none
 | _=>none
def ZFY (n m:Nat) (lo:Option AV):Option AV→Option (Nat×Nat)
 | none=>Zyp n lo none
 | some h=>Zyp m lo (some h)
def ZaX (s id off n:Nat) (lo hi:Option AV):Option Zm→Option AV
 | some (.row sz xs _ _)=>if sz=s then bnd (ZFY n (xs.length-off) lo hi) fun b=>some (.ownv id (off+b.1) (b.2-b.1)) else none
 | _=>none
def slice3 (hp:Hp) (x:AV) (lo hi mx:Option Int):Option AV:=bnd lo fun l=>bnd hi fun h=>bnd mx fun m=>bnd (Zf0 hp x) fun n=>
 if 0≤l∧l≤h∧h≤m∧m≤n then some .junk else none
def ZmZ (s id off n:Nat) (z:D):Option Zm→Option Eff
 | some (.row sz xs ex false)=>if sz=s∧z.cells.length=s∧off+n≤xs.length then some { val:=.tup [],sets:=[(id,.row sz (xs.take off++List.replicate n z++xs.drop (off+n)) ex false)] } else none
 | _=>none
def ZhK (hp:Hp) (s:Nat) (z:D):AV→Option Eff
 | .ownv id off n=>ZmZ s id off n z (lkp hp id)
 | _=>none
open Classical in
noncomputable def Wj (hp:Hp) (s:Nat) (lo hi:Option AV):AV→Option AV
 | .d (.sl xs)=>if uni s xs then bnd (Zyp xs.length lo hi) fun b=>some (.d (.sl ((xs.take b.2).drop b.1))) else none
 | .nil=>bnd (Zyp 0 lo hi) fun _=>some .nil
 | .own id=>Zer s id lo hi (lkp hp id)
 | .ownv id off n=>ZaX s id off n lo hi (lkp hp id)
 | _=>none
def sliceS (lo hi:Option AV):AV→Option AV
 | .d (.str s)=>bnd (Zyp s.length lo hi) fun b=>some (.d (.str ((s.take b.2).drop b.1)))
 | _=>none
def slice0 (hp:Hp) (x:AV) (hi mx:Option Int):Option AV:=match hi,mx with
 | some 0,some 0=>bnd (Zf0 hp x) fun _=>some .nil
 | _,_=>none
def Zm0 (agg:Bool) (s off:Nat):AV→Option AV
 | .d (.agg cs)=>Zeo agg s off cs
 | .agg cs=>if agg then (if off+s≤cs.length then some (Zaj ((cs.drop off).take s)) else none) else cs[off]?
 | _=>none
abbrev Orc:=Nat→List AV→List Zm→Option (AV×List Zm)
abbrev Zs:=Nat→Nat→Bool
def ZhL (hp:Hp) (id:Nat):Bool→Option AV
 | true=>some (.own id)
 | false=>asD (Zkz hp (.own id))
def Zjk:Bool→Option AV
 | true=>some .nil
 | false=>some (.d (.sl []))
def ZhM (hp:Hp) (cs:List AV):Bool→Option AV
 | true=>if ZfZ cs then none else some (.agg cs)
 | false=>asD (toD hp (.agg cs))
def ZeH (hp:Hp) (m:Bool):AV→Option AV
 | .ptr a b=>some (.ptr a b)
 | .clo f c=>some (.clo f c)
 | .nilp=>some .nilp
 | .nili=>some .nili
 | .pim c=>some (.pim c)
 | .own id=>ZhL hp id m
 | .nil=>Zjk m
 | .d x=>some (.d x)
 | .agg cs=>ZhM hp cs m
 | v=>asD (toD hp v)
def args (hp:Hp) (m:Nat→Bool):Nat→List AV→Option (List AV)
 | _,[]=>some []
 | i,v :: r=>bnd (ZeH hp (m i) v) fun a=>bnd (args hp m (i+1) r) fun as1=>some (a :: as1)
def Zaq (hp:Hp) (go:List Nat→List Nat→List Nat) (id:Nat) (todo acc:List Nat):Option Zm→List Nat
 | some o=>go (todo++Zal o) (acc++[id])
 | none=>go todo acc
def Xm (hp:Hp):Nat→List Nat→List Nat→List Nat
 | 0,_,acc=>acc
 | _+1,[],acc=>acc
 | n+1,id :: todo,acc=>if acc.contains id then Xm hp n todo acc else Zaq hp (Xm hp n) id todo acc (lkp hp id)
def Wu:List Nat→Nat→Nat
 | [],_=>0
 | x :: r,t=>if x=t then 0 else Wu r t+1
def ZAx:Option Zm→Zm
 | some o=>o
 | none=>.gone
def Zf1 (hp:Hp):List Nat→List Zm
 | []=>[]
 | id :: r=>ZAx (lkp hp id) :: Zf1 hp r
def Zb8 (ids:List Nat) (o:Zm):Zm:=ZmS (Wu ids) (XG ((Zal o).filter fun i=>!ids.contains i) o)
def Zjl:Option Zm→Bool
 | some (.row _ _ _ _)=>true
 | some (.tree _ _ _ _)=>true
 | some .gone=>true
 | _=>false
def Zes:AV→Bool
 | .d x=>x.flat
 | .pim _=>false
 | .agg _=>false
 | .tup _=>false
 | .clo _ _=>false
 | _=>true
def Zf2:AV→Bool
 | .agg cs=>cs.all Zes
 | .clo _ cs=>cs.all Zes
 | v=>Zes v
def ZwI:AV→Bool
 | .tup vs=>vs.all Zf2
 | v=>Zf2 v
def Zjm:Zm→Bool
 | .box cs=>cs.all Zf2
 | .row _ _ ex fz=>ex&&!fz
 | .tree _ _ _ _=>true
 | .gone=>true
def ZlI (d:Nat):Option Nat→Nat
 | some i=>i
 | none=>d
def W3 (ids:List Nat) (base k:Nat):Nat:=ZlI (base+(k-ids.length)) ids[k]?
def Zet (g:Nat→Nat):List Nat→List Zm→Hp
 | id :: ids,o :: os=>(id,ZmS g o) :: Zet g ids os
 | _,_=>[]
def Zeu (g:Nat→Nat):Nat→List Zm→Hp
 | _,[]=>[]
 | k,o :: os=>(k,ZmS g o) :: Zeu g (k+1) os
structure Zf where
 eff:Eff
 gone:List Nat
def Yd (_hp:Hp):Nat:=1000
def Y7:List AV→List AV→List Nat
 | v :: vs,.d _ :: as1=>ZhI v++Y7 vs as1
 | _ :: vs,_ :: as1=>Y7 vs as1
 | _,_=>[]
def Zev:Option Zm→Bool
 | some (.tree _ _ _ _)=>true
 | _=>false
def Zov:List Nat→List Zm→List Nat
 | id :: ids,.gone :: os=>id :: Zov ids os
 | _ :: ids,_ :: os=>Zov ids os
 | _,_=>[]
def ZlJ (hp:Hp) (ids:List Nat) (out:List Zm):Bool→List Nat
 | true=>Zov ids out
 | false=>ids.filter fun i=>Zjl (lkp hp i)
def Zb9 (keep:Bool) (hp:Hp) (base:Nat) (ids lent:List Nat) (r:AV) (out:List Zm):Option Zf:=
 if out.length<ids.length then none else if !(ZwI r&&out.all Zjm)&&lent.any fun i=>Zev (lkp hp i) then none else
  some { eff := { val:=ren (W3 ids base) r,adds:=Zeu (W3 ids base) base (out.drop ids.length),sets:=Zet (W3 ids base) ids out,frz:=if ZwI r&&out.all Zjm then [] else lent },gone:=ZlJ hp ids out keep }
def ZaE:AV→List Nat
 | .ptr id _=>[id]
 | .clo _ cs=>cs.flatMap Zo
 | _=>[]
def Zds (hp:Hp) (rs ids:List Nat):Bool:=ids.all fun i=>Zjl (lkp hp i) || rs.contains i
def ZhN (C:Orc) (keep:Bool) (hp:Hp) (base f:Nat) (lent:List Nat) (as1:List AV) (ids:List Nat):Option Zf:=
 if (as1.flatMap Zz).all ids.contains∧¬lent.any ids.contains∧Zds hp (as1.flatMap ZaE) ids=true then
  bnd (C f (as1.map (ren (Wu ids))) ((Zf1 hp ids).map (Zb8 ids))) fun q=>Zb9 keep hp base ids lent q.1 q.2
 else none
def Zfl (C:Orc) (m:Nat→Bool) (hp:Hp) (base f:Nat) (avs:List AV):Option Zf:=
 bnd (args hp m 0 avs) fun as1=>ZhN C (m 99) hp base f (Y7 avs as1) as1 (Xm hp (Yd hp) (as1.flatMap Zz) [])
def QV (v:AV):Option Zf:=some { eff := { val:=v },gone:=[] }
def WA (v:Option AV):Option Zf:=bnd v QV
def Zin (e:Option Eff):Option Zf:=bnd e fun e=>some { eff:=e,gone:=[] }
def ZhO (base:Nat) (e:Option Nat):AV→Option Zf
 | .nil=>bnd e fun s=>some { eff := { val:=.own base,adds:=[(base,.row s [] true false)] },gone:=[] }
 | v=>QV v
def Zjn (a b:AV):AV→Option Zf
 | .d (.bool t)=>if t then QV a else QV b
 | _=>none
def ZlK (base:Nat):AV→AV
 | .bnil _ e=>.bnil base e
 | v=>v
def bnT (t te:Nat):List AV→List AV
 | [.nilp,.nil]=>[.bnil 0 t,.bbuf te []]
 | cs=>cs
def ZFZ:List AV→Bool
 | [.bnil _ _,.bbuf _ []]=>true
 | _=>false
def Ztx (slc:List (Option Nat)) (base:Nat) (cs:List AV):Option Zf:=
 if X9 cs=false then (if ZFZ cs=true then some { eff := { val:=.ptr base 0,adds:=[(base,.box cs)] },gone:=[] } else none) else
 if Zou cs then some { eff := { val:=.ptr base 0,adds:=(base,.box (mat slc cs (base+1)).1) :: (mat slc cs (base+1)).2 },gone:=[] }
 else some { eff := { val:=.ptr base 0,adds:=[(base,.box cs)] },gone:=[] }
def Zjo (slc:List (Option Nat)) (base:Nat) (cs:List AV):Option Zf:=Ztx slc base (cs.map (ZlK base))
def ZEx (base:Nat) (x:AV):Option Zf:=if x.solid&&X9 x.cells then some { eff := { val:=.ptr base 0,adds:=[(base,.box x.cells)] },gone:=[] } else none
def Zty (zs:List AV) (ps:List (Nat×Nat×AV)):Option Zf:=bnd (Zpp zs ps) fun cs=>QV (Zaj cs)
def ZEy (base s:Nat) (q:List D×Bool×List Nat):Option Zf:=
 if q.1.all (fun d=>d.cells.length==s) then some { eff := { val:=.own base,adds:=[(base,.row s q.1 q.2.1 false)],frz:=q.2.2 },gone:=[] } else none
def buildSl (hp:Hp) (base s:Nat):List AV→Option Zf
 | []=>QV .nil
 | v :: vs=>bnd (Uo hp (v :: vs)) (ZEy base s)
def VO (hp:Hp) (n s:Nat):List AV→Option (List D×List Nat)
 | []=>some ([],[])
 | .agg cs :: r=>bnd (Wt hp n cs) fun q=>bnd (VO hp n s r) fun p=>
   if q.1.length=s∧(!q.2.any p.2.contains)=true then some (.agg q.1 :: p.1,q.2++p.2) else none
 | .own id :: r=>bnd (Wt hp n [.own id]) fun q=>bnd (VO hp n s r) fun p=>
   if q.1.length=s∧(!q.2.any p.2.contains)=true then some (.agg q.1 :: p.1,q.2++p.2) else none
 | _=>none
def asgT (base s n:Nat):AV→Option Zf
 | .nil=>some { eff := { val:=.own base,adds:=[(base,.tree s n [] none)] },gone:=[] }
 | _=>none
def buildT (hp:Hp) (base s n:Nat) (vs:List AV):Option Zf:=
 if vs.isEmpty=false then bnd (VO hp n s vs) fun q=>some { eff := { val:=.own base,adds:=[(base,.tree s n q.1 none)],dels:=q.2 },gone:=[] } else none
def ZaY:AV→Option Zf
 | .ptr a b=>QV (.ptr a b)
 | .prow a b c d=>QV (.prow a b c d)
 | .pim c=>QV (.pim c)
 | .clo f c=>QV (.clo f c)
 | _=>none
def ZqH (op:BinOp) (eq:Bool):AV→AV→Option Zf
 | .d (.bool a),.d (.bool b)=>if eq then WA (ZwH op a b) else none
 | a,b=>WA (vbin op a b)
def ZaC:List Nat→List D→List D→Option Bool
 | [],[],[]=>some true
 | 0 :: ks,.int k a :: cs,.int k' b :: ds=>if k=k' then bnd (ZaC ks cs ds) fun r=>some (decide (a=b)&&r) else none
 | 1 :: ks,.bool a :: cs,.bool b :: ds=>bnd (ZaC ks cs ds) fun r=>some (decide (a=b)&&r)
 | 2 :: ks,.str a :: cs,.str b :: ds=>bnd (ZaC ks cs ds) fun r=>some (decide (a=b)&&r)
 | _,_,_=>none
def Ztz (neg:Bool) (r:Bool):Bool:=if neg then !r else r
def Zyq (neg:Bool) (ks:List Nat):AV→AV→Option Zf
 | .d (.agg cs),.d (.agg ds)=>bnd (ZaC ks cs ds) fun r=>QV (.d (.bool (Ztz neg r)))
 | _,_=>none
def convI (k:IntKind):AV→Option Zf
 | .d (.int _ n)=>QV (.d (.int k (k.wrap n)))
 | _=>none
def convS:AV→Option Zf
 | .d (.str s)=>QV (.d (.str s))
 | _=>none
def ZwJ (base s b:Nat) (z:D) (l c:Int):Option Zf:=
 if 0≤l∧l≤c∧c*b≤ZM∧c≤ZM∧z.cells.length=s then
  some { eff := { val:=.own base,adds:=[(base,.row s (List.replicate l.toNat z) true false)] },gone:=[] } else none
def makeT (base s b ns:Nat) (z:D) (l c:Int):Option Zf:=
 if 0≤l∧l≤c∧c*b≤ZM∧c≤ZM∧z.cells.length=s∧z.isAgg=true then
  some { eff := { val:=.own base,adds:=[(base,.tree s ns (List.replicate l.toNat z) none)] },gone:=[] } else none
def W4 (off:Nat):AV→Option Zf
 | .ptr id o=>QV (.ptr id (o+off))
 | .prow id sz i o=>QV (.prow id sz i (o+off))
 | .pim cs=>QV (.pim (cs.drop off))
 | _=>none
def ZtA (x:AV) (n:Int) (len s:Nat):Option Zf:=if 0≤n∧n<len then W4 (n.toNat*s) x else none
def Zk1 (hp:Hp) (s:Nat) (x:AV) (n:Int):Option Zf:=if 0≤n then WA (QK hp s n.toNat x) else none
def ZAy (s:List UInt8) (n:Int):Option Zf:=if 0≤n then bnd s[n.toNat]? fun b=>QV (.d (.int .u8 b.toNat)) else none
def ZEz (g:Bool) (s len:Nat) (n:Int) (v:AV):Option Zf:=if 0≤n∧n<len then WA (Zm0 g s (n.toNat*s) v) else none
def ZB3 (n:Int):AV→Option Zf
 | .d (.str s)=>ZAy s n
 | _=>none
def ZAz (i:Nat):AV→Option Zf
 | .tup vs=>WA vs[i]?
 | _=>none
def Zow:Option Zm→Option (Nat×Nat×List D)
 | some (.tree s n xs none)=>some (s,n,xs)
 | _=>none
def Zfm (hp:Hp):AV→Option (Nat×Nat×Nat×List D)
 | .own id=>bnd (Zow (lkp hp id)) fun q=>some (id,q)
 | _=>none
def Zdt (hp:Hp) (s b base id n:Nat) (ys:List D):AV→Option Eff
 | .nil=>if ys.length*b≤ZM∧ys.length≤ZM then some { val:=.own base,adds:=[(base,.tree s n ys none)],dels:=[id] } else none
 | .own id1=>bnd (Zow (lkp hp id1)) fun q=>if q.1=s∧q.2.1=n∧id1≠id∧(q.2.2.length+ys.length)*b≤ZM∧q.2.2.length+ys.length≤ZM then
   some { val:=.own base,adds:=[(base,.tree s n (q.2.2++ys) none)],dels:=[id1,id] } else none
 | _=>none
def Zar (xs:List D) (i c:Nat):Option (List D):=bnd xs[i]? fun x=>match x.cells[c]? with
 | some (.sl ys)=>some ys
 | _=>none
def Ye (hp:Hp):AV→List Nat
 | .own id=>if Zev (lkp hp id) then [id] else []
 | _=>[]
def Zm1:Zm→Zm
 | .tree s _ xs none=>.row s xs true false
 | o=>o
def meltIn (hp:Hp):List Nat→Hp
 | []=>hp
 | i :: r=>match lkp hp i with
  | some o=>ins (meltIn hp r) i (Zm1 o)
  | none=>meltIn hp r
noncomputable def VQ (hp:Hp) (s b:Nat) (str flat:Bool) (base:Nat) (x y:AV):List Nat→Option Eff
 | []=>Zap hp s b str flat base x y
 | i :: r=>if flat then none else bnd (Zap (meltIn hp (i :: r)) s b str flat base x y) fun e=>some { val:=e.val,adds:=e.adds,sets:=e.sets,dels:=e.dels++(i :: r),frz:=e.frz }
def appT (hp:Hp) (s b base:Nat) (x y:AV):Option Zf:=Zin (bnd (Zfm hp y) fun q=>if q.2.1=s then Zdt hp s b base q.1 q.2.2.1 q.2.2.2 x else none)
noncomputable def Zf3 (hp:Hp) (s b:Nat) (str flat:Bool) (base:Nat) (x y:AV):List Nat→List Nat→Option Zf
 | [],m=>Zin (VQ hp s b str flat base x y m)
 | i :: r,[]=>Zin (VQ hp s b str flat base x y (i :: r))
 | _ :: _,_ :: _=>if flat || str then none else appT hp s b base x y
noncomputable def ZAA (hp:Hp) (s b:Nat) (str flat:Bool) (base:Nat) (x y:AV):Option Zf:=Zf3 hp s b str flat base x y (Ye hp x) (Ye hp y)
def Zpr:AV→AV→Option Zf
 | .d (.int k a),.d (.int k' b)=>if k=k' then QV (.d (.int k (minI a b))) else none
 | _,_=>none
def Zps:AV→AV→Option Zf
 | .d (.int k a),.d (.int k' b)=>if k=k' then QV (.d (.int k (maxI a b))) else none
 | _,_=>none
inductive Opd where
 | t (n:Nat)
 | v (a:AV)
 | f (n:Nat)
def evO (sl:Sl):Opd→AV
 | .t n=>gs sl n
 | .v a=>a
 | .f n=>.clo n []
def evL (sl:Sl):List Opd→List AV
 | []=>[]
 | x :: r=>evO sl x :: evL sl r
def evP (sl:Sl):List (Nat×Nat×Opd)→List (Nat×Nat×AV)
 | []=>[]
 | (a,b,x) :: r=>(a,b,evO sl x) :: evP sl r
def evM (sl:Sl):Option Opd→Option AV
 | none=>none
 | some x=>some (evO sl x)
inductive COp where
 | move (x:Opd)
 | assign (s:Option Nat) (x:Opd)
 | pick (c a b:Opd)
 | alloc (slc:List (Option Nat)) (cs:List AV)
 | box (x:Opd)
 | build (zs:List AV) (ps:List (Nat×Nat×Opd))
 | buildSl (s:Nat) (xs:List Opd)
 | load (g:Bool) (s:Nat) (a:Opd)
 | store (slc:List (Option Nat)) (s:Nat) (a x:Opd)
 | nilCheck (x:Opd)
 | bin (op:BinOp) (eq:Bool) (x y:Opd)
 | un (op:UnOp) (x:Opd)
 | eqA (neg:Bool) (ks:List Nat) (x y:Opd)
 | convI (k:IntKind) (x:Opd)
 | convS (x:Opd)
 | fn (f:Nat) (caps:List Opd)
 | make (s b:Nat) (z:D) (l c:Opd)
 | slice (s:Nat) (x:Opd) (lo hi:Option Opd)
 | sliceS (x:Opd) (lo hi:Option Opd)
 | slice0 (x hi mx:Opd)
 | shift (off:Nat) (x:Opd)
 | part (g:Bool) (s off:Nat) (x:Opd)
 | iaS (s:Nat) (x i:Opd)
 | iaA (len s:Nat) (x i:Opd)
 | ixS (x i:Opd)
 | ixA (g:Bool) (s len:Nat) (x i:Opd)
 | nth (i:Nat) (x:Opd)
 | len (x:Opd)
 | lenS (x:Opd)
 | append (s b:Nat) (str flat:Bool) (x y:Opd)
 | min (x y:Opd)
 | max (x y:Opd)
 | call (f:Opd) (as1:List Opd)
 | slice3 (s:Nat) (x lo hi mx:Opd)
 | clear (s:Nat) (z:D) (x:Opd)
 | stuck
 | buildT (s n:Nat) (xs:List Opd)
 | appT (s b:Nat) (flat:Bool) (x y:Opd)
 | asgT (s n:Nat) (x:Opd)
 | makeT (s b n:Nat) (z:D) (l c:Opd)
structure CO where
 dst:Option Nat
 guard:Option (Nat×Bool)
 op:COp
 tl:Bool
def Zf4 (C:Orc) (M:Zs) (hp:Hp) (base:Nat) (as1:List AV):AV→Option Zf
 | .clo g caps=>Zfl C (M g) hp base g (as1++caps)
 | _=>none
noncomputable def vop (C:Orc) (M:Zs) (sl:Sl) (hp:Hp) (base:Nat):COp→Option Zf
 | .move x=>QV (evO sl x)
 | .assign s x=>ZhO base s (evO sl x)
 | .pick c a b=>Zjn (evO sl a) (evO sl b) (evO sl c)
 | .alloc slc cs=>Zjo slc base cs
 | .box x=>ZEx base (evO sl x)
 | .build zs ps=>Zty zs (evP sl ps)
 | .buildSl s xs=>buildSl hp base s (evL sl xs)
 | .load g s a=>WA (UO hp g s (evO sl a))
 | .store slc s a x=>Zin (Zcr hp slc s base (evO sl x).cells (evO sl a))
 | .nilCheck x=>ZaY (evO sl x)
 | .bin op eq x y=>ZqH op eq (evO sl x) (evO sl y)
 | .un op x=>WA (vun op (evO sl x))
 | .eqA neg ks x y=>Zyq neg ks (evO sl x) (evO sl y)
 | .convI k x=>convI k (evO sl x)
 | .convS x=>convS (evO sl x)
 | .fn f cs=>WA (cloV f (evL sl cs))
 | .make s b z l c=>bnd (idx (evO sl l)) fun l=>bnd (idx (evO sl c)) fun c=>ZwJ base s b z l c
 | .slice s x lo hi=>WA (Wj hp s (evM sl lo) (evM sl hi) (evO sl x))
 | .sliceS x lo hi=>WA (sliceS (evM sl lo) (evM sl hi) (evO sl x))
 | .slice0 x hi mx=>WA (slice0 hp (evO sl x) (idx (evO sl hi)) (idx (evO sl mx)))
 | .shift off x=>W4 off (evO sl x)
 | .part g s off x=>WA (Zm0 g s off (evO sl x))
 | .iaS s x i=>bnd (idx (evO sl i)) fun n=>Zk1 hp s (evO sl x) n
 | .iaA len s x i=>bnd (idx (evO sl i)) fun n=>ZtA (evO sl x) n len s
 | .ixS x i=>bnd (idx (evO sl i)) fun n=>ZB3 n (evO sl x)
 | .ixA g s len x i=>bnd (idx (evO sl i)) fun n=>ZEz g s len n (evO sl x)
 | .nth i x=>ZAz i (evO sl x)
 | .len x=>bnd (Zf0 hp (evO sl x)) fun n=>QV (.d (.int .i64 n))
 | .lenS x=>bnd (ZEv (evO sl x)) fun n=>QV (.d (.int .i64 n))
 | .append s b str flat x y=>ZAA hp s b str flat base (evO sl x) (evO sl y)
 | .min x y=>Zpr (evO sl x) (evO sl y)
 | .max x y=>Zps (evO sl x) (evO sl y)
 | .call f as1=>Zf4 C M hp base (evL sl as1) (evO sl f)
 | .slice3 _ x lo hi mx=>WA (slice3 hp (evO sl x) (idx (evO sl lo)) (idx (evO sl hi)) (idx (evO sl mx)))
 | .clear s z x=>Zin (ZhK hp s z (evO sl x))
 | .stuck=>none
 | .buildT s n xs=>buildT hp base s n (evL sl xs)
 | .appT s b _ x y=>appT hp s b base (evO sl x) (evO sl y)
 | .asgT s n x=>asgT base s n (evO sl x)
 | .makeT s b n z l c=>bnd (idx (evO sl l)) fun l=>bnd (idx (evO sl c)) fun c=>makeT base s b n z l c
section
variable (P:Program)
def Yu (t:TypeId):Option TypeId:=match P.underlying t with
 | some (.slice e)=>some e
 | _=>none
def ZaZ (t:TypeId):Bool:=match P.underlying t with
 | some .string=>true
 | _=>false
def Zkg (t:TypeId):Bool:=match P.underlying t with
 | some .bool=>true
 | _=>false
def ZEA (t:TypeId):Option IntKind:=match P.underlying t with
 | some (.int k)=>some k
 | _=>none
def ZlL (t:TypeId):Option (Nat×TypeId):=match P.underlying t with
 | some (.array n e)=>some (n,e)
 | _=>none
def ZgF (t:TypeId):Option Bool:=match P.underlying t with
 | some (.struct _)=>some true
 | some (.array _ _)=>some true
 | some _=>some false
 | none=>none
def ZhP (s:TypeId) (f:Nat):Option (Nat×TypeId):=match P.underlying s with
 | some (.struct fs)=>match fs[f]? with
  | some x=>if P.cellsOf x.type=0 then none else some (x.offset,x.type)
  | none=>none
 | _=>none
def Zca (t:TypeId):Option Value:=match P.info? t with
 | some i=>i.zero
 | none=>none
def ZDg:Nat→TypeId→List TypeId
 | 0,t=>[t]
 | n+1,t=>match P.underlying t with
  | some (.struct fs)=>fs.toList.flatMap fun f=>ZDg n f.type
  | some (.array k e)=>(List.replicate k (ZDg n e)).flatten
  | _=>[t]
def slcT (t:TypeId):List (Option Nat):=(ZDg P 4 t).map fun c=>(Yu P c).map P.cellsOf
def flatE (t:TypeId):Bool:=(ZDg P 4 t).all fun c=>match P.underlying c with
 | some (.int _)=>true
 | some .bool=>true
 | some .string=>true
 | _=>false
def Zew:Nat→TypeId→Nat→Option (List (Nat×Nat))
 | 0,_,_=>none
 | n+1,t,off=>match P.underlying t with
  | some (.int _)=>if P.cellsOf t=1 then some [(off,0)] else none
  | some .bool=>if P.cellsOf t=1 then some [(off,1)] else none
  | some .string=>if P.cellsOf t=1 then some [(off,2)] else none
  | some (.struct fs)=>if P.stoodInHeld t then none else
    bnd (QJ (fun f:Field=>if f.name = "_"∨P.cellsOf t<f.offset+P.cellsOf f.type then none else Zew n f.type (off+f.offset)) fs.toList) fun ls=>some ls.flatten
  | _=>none
def Ya (t:TypeId):Bool:=match P.underlying t with
 | some (.struct _)=>true
 | _=>false
def ZAB (t:TypeId):Option (List Nat):=bnd (Zew P 5 t 0) fun ls=>
 if ls.map (·.1)=List.range (P.cellsOf t)∧Ya P t=true∧P.eqGuardType P.depth t=false then some (ls.map (·.2)) else none
def ZAC (neg:Bool) (op:BinOp) (t:TypeId) (x y:Opd):Option (List Nat)→COp
 | some ks=>.eqA neg ks x y
 | none=>.bin op (Zkg P t) x y
def ZB4 (op:BinOp) (t:TypeId) (x y:Opd):COp:=match op with
 | .eql=>ZAC P false .eql t x y (ZAB P t)
 | .neq=>ZAC P true .neq t x y (ZAB P t)
 | op=>.bin op (Zkg P t) x y
end
section
variable (P:Program)
def ZZ:Operand→Option Opd
 | .tmp t=>some (.t t)
 | .const v=>some (.v (evC v))
 | .global _=>none
 | .func f=>some (.f f)
def ZAD (pl:Nat→Option (Nat×Nat)) (q:Nat×Operand):Option (Nat×Nat×Opd):=bnd (pl q.1) fun p=>bnd (ZZ q.2) fun x=>some (p.1,p.2,x)
def cOO:Option Operand→Option (Option Opd)
 | none=>some none
 | some x=>bnd (ZZ x) fun y=>some (some y)
def ZhQ (t:TypeId):Option (Nat×TypeId)→Nat→Option (Nat×Nat)
 | none,i=>bnd (ZhP P t i) fun q=>some (q.1,P.cellsOf q.2)
 | some a,i=>some (i*P.cellsOf a.2,P.cellsOf a.2)
def Uy (t:TypeId):Bool:=match P.info? t with
 | some i=>(match i.zero with
  | some z=>z.cells.size==i.size&&decide (0<i.size)
  | none=>false)
 | none=>false
def Zm2 (t:TypeId):Bool:=match P.underlying t with
 | some (.struct fs)=>fs.toList.all fun f=>(P.info? f.type).isSome
 | some (.array _ e)=>(P.info? e).isSome
 | _=>false
def Zpt (e:TypeId) (u:TypeId):Option Bool:=match Yu P u with
 | some e'=>if e'=e then some false else none
 | none=>if ZaZ P u then some true else none
def ZtB (x i:Opd) (a:Option (Nat×TypeId)):Option TypeId→Option COp
 | some e=>if (P.info? e).isSome then some (.iaS (P.cellsOf e) x i) else none
 | none=>bnd a fun a=>if (P.info? a.2).isSome then some (.iaA a.1 (P.cellsOf a.2) x i) else none
def Zyr (x i:Opd) (str:Bool) (a:Option (Nat×TypeId)):Option COp:=
 if str then some (.ixS x i) else bnd a fun a=>bnd (ZgF P a.2) fun g=>some (.ixA g (P.cellsOf a.2) a.1 x i)
def ZDh (x:Opd) (ss sd:Bool):Option IntKind→Option IntKind→Option COp
 | some _,some k=>some (.convI k x)
 | _,_=>if ss&&sd then some (.convS x) else none
def cLen (x:Opd) (str:Bool):Option TypeId→Option COp
 | some _=>some (.len x)
 | none=>if str then some (.lenS x) else none
def ZB5 (x:Opd) (lo hi:Option Opd) (str:Bool):Option TypeId→Option COp
 | some e=>if (P.info? e).isSome then some (.slice (P.cellsOf e) x lo hi) else none
 | none=>if str then some (.sliceS x lo hi) else none
def Zex:Builtin→List Operand→List TypeId→Option COp
 | .len,[x],[t]=>bnd (ZZ x) fun x=>cLen x (ZaZ P t) (Yu P t)
 | .append,[s,x],[t,u]=>bnd (Yu P t) fun e=>bnd (Zpt P e u) fun str=>bnd (ZZ s) fun s=>bnd (ZZ x) fun x=>
   if Uy P e then some (.append (P.cellsOf e) (P.bytesOf e) str (flatE P e) s x) else none
 | .min,[x,y],_=>bnd (ZZ x) fun x=>bnd (ZZ y) fun y=>some (.min x y)
 | .max,[x,y],_=>bnd (ZZ x) fun x=>bnd (ZZ y) fun y=>some (.max x y)
 | .clear,[x],[t]=>bnd (Yu P t) fun e=>bnd (ZZ x) fun x=>bnd (Zca P e) fun z=>bnd (evD z) fun z=>if Uy P e then some (.clear (P.cellsOf e) z x) else none
 | _,_,_=>none
def teOf (t:TypeId):Nat:=match bnd (ZhP P t 1) fun q=>Yu P q.2 with
 | some e=>e
 | none=>0
def cOp (ty:TypeId):Op→Option COp
 | .move x=>bnd (ZZ x) fun x=>some (.move x)
 | .assign x=>bnd (ZZ x) fun x=>some (.assign (bnd (Yu P ty) fun e=>some (P.cellsOf e)) x)
 | .pick c a b=>bnd (ZZ c) fun c=>bnd (ZZ a) fun a=>bnd (ZZ b) fun b=>some (.pick c a b)
 | .alloc t=>bnd (Zca P t) fun z=>some (.alloc (slcT P t) (bnT t (teOf P t) (evC z).cells))
 | .box _ x=>bnd (ZZ x) fun x=>some (.box x)
 | .build t ps=>bnd (Zca P t) fun z=>bnd (QJ (ZAD (ZhQ P t (ZlL P t))) ps.toList) fun qs=>if Zm2 P t then some (.build (evC z).cells qs) else none
 | .buildSlice t n ps=>bnd (Yu P t) fun e=>bnd (QJ (fun q:Nat×Operand=>ZZ q.2) ps.toList) fun xs=>
   if ps.toList.map (·.1)=List.range n∧n*P.cellsOf e≤16777216∧Uy P e then some (.buildSl (P.cellsOf e) xs) else none
 | .load t a=>bnd (ZgF P t) fun g=>bnd (ZZ a) fun a=>some (.load g (P.cellsOf t) a)
 | .store t a x=>bnd (ZZ a) fun a=>bnd (ZZ x) fun x=>if (P.info? t).isSome then some (.store (slcT P t) (P.cellsOf t) a x) else none
 | .nilCheck x=>bnd (ZZ x) fun x=>some (.nilCheck x)
 | .binOp op t x y _=>bnd (ZZ x) fun x=>bnd (ZZ y) fun y=>some (ZB4 P op t x y)
 | .unOp op _ x=>bnd (ZZ x) fun x=>some (.un op x)
 | .convert s d x=>bnd (ZZ x) fun x=>ZDh x (ZaZ P s) (ZaZ P d) (ZEA P s) (ZEA P d)
 | .makeFunc (.func f) fs cs=>if fs.toList.isEmpty then bnd (QJ ZZ cs.toList) fun cs=>some (.fn f cs) else none
 | .makeSlice t l c=>bnd (Yu P t) fun e=>bnd (ZZ l) fun l=>bnd (ZZ c) fun c=>bnd (Zca P e) fun z=>bnd (evD z) fun z=>if Uy P e then some (.make (P.cellsOf e) (P.bytesOf e) z l c) else none
 | .slice t x lo hi none=>bnd (ZZ x) fun x=>bnd (cOO lo) fun lo=>bnd (cOO hi) fun hi=>ZB5 P x lo hi (ZaZ P t) (Yu P t)
 | .slice t x none (some hi) (some mx)=>bnd (Yu P t) fun e=>if (P.info? e).isSome then bnd (ZZ x) fun x=>bnd (ZZ hi) fun hi=>bnd (ZZ mx) fun mx=>some (.slice0 x hi mx) else none
 | .slice t x (some lo) (some hi) (some mx)=>bnd (Yu P t) fun e=>if (P.info? e).isSome then bnd (ZZ x) fun x=>bnd (ZZ lo) fun lo=>bnd (ZZ hi) fun hi=>bnd (ZZ mx) fun mx=>some (.slice3 (P.cellsOf e) x lo hi mx) else none
 | .fieldAddr s x f=>bnd (ZhP P s f) fun q=>bnd (ZZ x) fun x=>some (.shift q.1 x)
 | .field t x f=>bnd (ZhP P t f) fun q=>bnd (ZgF P q.2) fun g=>bnd (ZZ x) fun x=>some (.part g (P.cellsOf q.2) q.1 x)
 | .indexAddr t x i=>bnd (ZZ x) fun x=>bnd (ZZ i) fun i=>ZtB P x i (ZlL P t) (Yu P t)
 | .index t x i=>bnd (ZZ x) fun x=>bnd (ZZ i) fun i=>Zyr P x i (ZaZ P t) (ZlL P t)
 | .extract x i=>bnd (ZZ x) fun x=>some (.nth i x)
 | .call { callee:=.builtin b,args:=as1,argTypes:=ts }=>Zex P b as1.toList ts.toList
 | .call { callee:=.value f,args:=as1,argTypes:=_ }=>bnd (ZZ f) fun f=>bnd (QJ ZZ as1.toList) fun as1=>some (.call f as1)
 | _=>none
def ZtC (ops:List Oper):Option (Nat×Bool)→Option (Option (Nat×Bool))
 | none=>some none
 | some q=>bnd ops[q.1]? fun g=>bnd g.dst fun t=>some (some (t,q.2))
def Q7 (nt:Nat):Option Nat→Bool
 | none=>true
 | some t=>decide (t<nt)
def Wv (ops:Array Oper) (i:Nat):List Nat:=match ops[i]? with
 | some o=>(o.after.toList.filter fun e=>Region.binds .any e).map fun e=>e.on
 | none=>[]
def Zjp (ops:Array Oper):Nat→Nat→Nat→Bool
 | 0,i,j=>(Wv ops i).contains j
 | n+1,i,j=>(Wv ops i).contains j || (Wv ops i).any fun z=>Zjp ops n z j
def startO:Op→Bool
 | .call { callee:=.builtin .append,args:=_,argTypes:=_ }=>true
 | .buildSlice _ _ _=>true
 | _=>false
def callO:Op→Bool
 | .call { callee:=.value (.func _),args:=_,argTypes:=_ }=>true
 | _=>false
def cloO:Op→Bool
 | .call { callee:=.value (.tmp _),args:=_,argTypes:=_ }=>true
 | _=>false
def ZF0:Op→Bool
 | .move _=>true
 | _=>false
def aheadO:Op→Bool
 | .store _ _ _=>false
 | .box _ _=>false
 | .assign _=>false
 | .makeFunc _ _ _=>false
 | .makeSlice _ _ _=>false
 | .call { callee:=.builtin .append,args:=_,argTypes:=_ }=>false
 | .call { callee:=.value _,args:=_,argTypes:=_ }=>false
 | _=>true
def ZHl:Op→Bool
 | .move _=>true
 | .alloc _=>true
 | .buildSlice _ _ _=>true
 | .load _ _=>true
 | .nilCheck _=>true
 | .binOp _ _ _ _ _=>true
 | .unOp _ _ _=>true
 | .convert _ _ _=>true
 | .fieldAddr _ _ _=>true
 | .indexAddr _ _ _=>true
 | .slice _ _ _ _ _=>true
 | .call { callee:=.builtin .len,args:=_,argTypes:=_ }=>true
 | _=>false
def appO:Op→Bool
 | .call { callee:=.builtin .append,args:=_,argTypes:=_ }=>true
 | _=>false
def lookO:Op→Bool
 | .move _=>true
 | .load _ _=>true
 | .nilCheck _=>true
 | .binOp _ _ _ _ _=>true
 | .convert _ _ _=>true
 | .fieldAddr _ _ _=>true
 | .field _ _ _=>true
 | .extract _ _=>true
 | .indexAddr _ _ _=>true
 | .slice _ _ _ _ _=>true
 | .call { callee:=.builtin .len,args:=_,argTypes:=_ }=>true
 | _=>false
def atO (f:Op→Bool) (ops:List Oper) (k:Nat):Bool:=match ops[k]? with
 | some o=>f o.op
 | none=>false
def firmAt (ops:List Oper) (i:Nat):Bool:=
 (List.range ops.length).all fun k=>if k<i then Zjp ops.toArray 6 i k || atO ZF0 ops k else k==i || Zjp ops.toArray 6 k i || atO ZF0 ops k
def firmP (ops:List Oper) (i:Nat):Bool:=
 (List.range ops.length).all fun k=>if k<i then Zjp ops.toArray 6 i k || atO lookO ops k else k==i || Zjp ops.toArray 6 k i || atO ZF0 ops k
def firmC (ops:List Oper) (i:Nat):Bool:=
 (List.range ops.length).all fun k=>if k<i then Zjp ops.toArray 6 i k || atO aheadO ops k else k==i || Zjp ops.toArray 6 k i || atO ZHl ops k
def firmX (ops:List Oper) (i:Nat):Bool:=
 (List.range ops.length).all fun k=>k==i || if k<i then Zjp ops.toArray 6 i k else Zjp ops.toArray 6 k i
def Zm3 (ops:List Oper) (o:Oper):Nat:=ops.findIdx fun x=>x.dst==o.dst
def firm (ops:List Oper) (o:Oper):Bool:=(startO o.op&&firmAt ops (Zm3 ops o)) || (callO o.op&&firmC ops (Zm3 ops o)) || (appO o.op&&firmP ops (Zm3 ops o)) || (cloO o.op&&firmX ops (Zm3 ops o))
def Ww:Option COp→COp
 | some c=>c
 | none=>.stuck
def Zpu (nt:Nat) (ops:List Oper) (o:Oper):Option CO:=bnd (ZtC ops o.guard) fun g=>
 if Q7 nt o.dst then some { dst:=o.dst,guard:=g,op:=Ww (cOp P o.type o.op),tl:=firm ops o } else none
end
end Go.Abs
