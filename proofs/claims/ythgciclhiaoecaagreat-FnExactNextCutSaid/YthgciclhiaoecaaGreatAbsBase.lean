/- Own text. -/
import Derived.Orders
import Derived.Laws.AppendOwn
set_option linter.unusedVariables false
set_option linter.unusedSimpArgs false
namespace Go.Abs
open Go
abbrev Ka:=@Bool.false_eq_true
abbrev Kb:=@List.mem_of_getElem?
abbrev Kc:=@List.getElem?_eq_some_iff
abbrev Kd:=@Bool.and_eq_true
abbrev Ke:=@List.mem_append
abbrev Kf:=@List.mem_cons
abbrev Kg:=@if_neg
abbrev Kh:=@decide_eq_true
abbrev Ki:=@decide_eq_false
abbrev Kj:=@if_pos
abbrev Kk:=@if_false
abbrev Kl:=@Nat.le_refl
abbrev Km:=@if_true
abbrev Kn:=@List.length_filterMap_le
abbrev Ko:=@List.map_cons
abbrev Kp:=@List.eq_nil_of_length_eq_zero
abbrev Kq:=@List.length_cons
abbrev Kr:=@Nat.le_trans
abbrev Ks:=@List.drop_eq_getElem_cons
abbrev Kt:=@decide_eq_true_eq
abbrev Ku:=@List.mem_flatMap
abbrev Kv:=@List.mem_cons_of_mem
abbrev Kw:=@List.getElem?_eq_getElem
abbrev Kx:=@List.length_append
abbrev Ky:=@List.take_add_one
abbrev Kz:=@Int.toNat_natCast
abbrev KA:=@Nat.ne_of_gt
abbrev KB:=@List.length_map
abbrev KC:=@List.take_of_length_le
abbrev KD:=@List.getElem?_append_right
abbrev KE:=@List.append_nil
abbrev KF:=@List.flatMap_cons
abbrev KG:=@List.all_eq_true
abbrev KH:=@List.getElem?_cons_succ
abbrev KI:=@Nat.mul_le_mul_right
abbrev KJ:=@List.cons_append
abbrev KK:=@Array.getElem?_eq_some_iff
abbrev KL:=@List.getElem?_cons_zero
abbrev KM:=@List.map_nil
abbrev KN:=@List.getElem?_eq_none
abbrev KO:=@Nat.add_mul
abbrev KP:=@List.mem_singleton
abbrev KQ:=@Option.isSome_none
abbrev KR:=@List.map_congr_left
abbrev KS:=@List.contains_eq_mem
abbrev KT:=@List.getElem?_append_left
abbrev KU:=@List.map_append
abbrev KV:=@Bool.decide_and
abbrev KW:=@List.getElem?_set_self
abbrev KX:=@Option.isSome_iff_exists
abbrev KY:=@Nat.lt_or_ge
abbrev KZ:=@Bool.decide_or
abbrev K0:=@Int.natCast_zero
abbrev La:=@Bool.not_eq_true'
abbrev Lc:=@List.count_pos_iff
abbrev Ld:=@List.getElem?_map
abbrev Le:=@List.getElem?_drop
abbrev Lf:=@decide_eq_false_iff_not
abbrev Lg:=@List.nodup_cons
abbrev Lh:=@Option.map_some
abbrev Li:=@List.mem_map
abbrev Lj:=@List.getElem?_set_ne
abbrev Lk:=@List.mem_of_mem_take
abbrev Ll:=@List.flatten_cons
abbrev Lm:=@Option.isSome_some
abbrev Ln:=@List.length_nil
abbrev Lo:=@Nat.add_assoc
abbrev Lp:=@List.mem_cons_self
abbrev Lq:=@List.filterMap_cons
abbrev Lr:=@List.take_append_drop
abbrev Ls:=@Int.add_zero
abbrev Lt:=@List.ext_getElem?
abbrev Lu:=@List.mem_filterMap
abbrev Lv:=@List.getElem?_take
abbrev Lw:=@Array.length_toList
abbrev Lx:=@List.append_assoc
abbrev Ly:=@List.nodup_nil
abbrev Lz:=@List.mem_range
abbrev LA:=@Bool.or_eq_true
abbrev LB:=@Nat.eq_zero_or_pos
abbrev LC:=@List.take_length
abbrev LD:=@List.getElem?_of_mem
abbrev LF:=@Nat.add_sub_cancel_left
abbrev LG:=@List.all_cons
abbrev LH:=@Nat.zero_add
abbrev LI:=@List.replicate_succ
abbrev LJ:=@List.map_id
abbrev LK:=@List.filterMap_append
abbrev LL:=@Bool.not_eq_true
abbrev LM:=@List.length_take
abbrev LN:=@Bool.false_or
abbrev LP:=@List.pairwise_append
abbrev LQ:=@List.getElem?_set
abbrev LR:=@List.length_set
abbrev LS:=@List.nil_append
abbrev LU:=@List.mem_filter
abbrev LV:=@List.any_eq_true
abbrev LX:=@List.pairwise_cons
abbrev LY:=@List.take_zero
abbrev LZ:=@Nat.lt_or_gt_of_ne
abbrev L0:=@List.map_set
abbrev L3:=@List.nodup_append
abbrev L4:=@List.mem_of_mem_drop
abbrev L5:=@List.nodup_iff_count
abbrev L6:=@List.eq_of_mem_replicate
abbrev L7:=@List.take_succ_cons
abbrev L8:=@List.flatten_append
abbrev L9:=@List.not_mem_nil
abbrev Kaa:=@List.length_drop
abbrev Kab:=@List.set_cons_zero
abbrev Kac:=@List.append_eq_nil_iff
abbrev Kad:=@List.set_cons_succ
abbrev Kae:=@Nat.add_zero
abbrev Kaf:=@Bool.true_and
abbrev Kag:=@Bool.and_true
abbrev Kah:=@List.length_filter_le
abbrev Kai:=@Array.getElem?_modify
abbrev Kaj:=@Array.getElem?_toList
abbrev Kak:=@List.size_toArray
abbrev Kal:=@Bool.or_eq_false_iff
abbrev Kam:=@Int.le_refl
abbrev Kan:=@Int.mul_nonneg
abbrev Kao:=@Int.mul_le_mul
abbrev Kap:=@List.eraseIdx_of_length_le
abbrev Kaq:=@Array.toList_setIfInBounds
abbrev Kar:=@List.getElem?_append
abbrev Kas:=@Nat.mul_zero
abbrev Kat:=@List.nodup_range
abbrev Kau:=@Nat.le_max_right
abbrev Kav:=@List.mem_map_of_mem
abbrev Kaw:=@Nat.le_max_left
abbrev Kax:=@Bool.true_eq_false
abbrev Kay:=@Nat.sub_self
abbrev Kaz:=@List.set_set
abbrev KaA:=@List.drop_drop
inductive D where
 | int (k:IntKind) (n:Int)
 | bool (b:Bool)
 | str (s:List UInt8)
 | sl (xs:List D)
 | agg (cs:List D)
def D.cells:D→List D
 | .agg cs=>cs
 | .int k n=>[.int k n]
 | .bool b=>[.bool b]
 | .str s=>[.str s]
 | .sl xs=>[.sl xs]
def D.plain:D→Bool
 | .int _ _=>true
 | .bool _=>true
 | .str _=>true
 | .sl _=>false
 | .agg _=>false
def D.one:D→Bool
 | .int _ _=>true
 | .bool _=>true
 | .str _=>true
 | .sl _=>true
 | .agg _=>false
def Zaa (p:D→Bool):List D→Bool
 | []=>true
 | x :: xs=>p x&&Zaa p xs
def D.flat (d:D):Bool:=Zaa D.plain d.cells
inductive AV where
 | d (x:D)
 | nil
 | nilp
 | nili
 | ptr (id off:Nat)
 | prow (id sz i off:Nat)
 | pim (cs:List D)
 | own (id:Nat)
 | ownv (id off len:Nat)
 | bnil (id e:Nat)
 | bbuf (te:Nat) (l:List UInt8)
 | agg (cs:List AV)
 | tup (vs:List AV)
 | clo (f:Nat) (caps:List AV)
 | junk
inductive Zn where
 | box (cs:List AV)
 | row (sz:Nat) (xs:List D) (ex fz:Bool)
 | tree (sz ns:Nat) (xs:List D) (lk:Option (Option Nat×Nat×Nat))
 | gone
abbrev Hp:=List (Nat×Zn)
abbrev Sl:=List (Nat×AV)
def bnd {α β:Type} (x:Option α) (f:α→Option β):Option β:=match x with
 | some a=>f a
 | none=>none
@[congr] theorem bnd_congr {α β:Type} {x y:Option α} {f:α→Option β} (h:x=y):bnd x f=bnd y f:=by rw[h]
theorem Zg {α β:Type} (a:α) (f:α→Option β):bnd (some a) f=f a:=rfl
theorem ZAW {α β:Type} (f:α→Option β):bnd none f=none:=rfl
theorem ZCi {α β:Type} (c:Prop) [Decidable c] (a b:Option α) (f:α→Option β):bnd (if c then a else b) f=if c then bnd a f else bnd b f:=by split<;>rfl
theorem Za {α β:Type} {x:Option α} {f:α→Option β} {r:β} (h:bnd x f=some r):∃ a,x=some a∧f a=some r:=by
 cases x with
 | none=>cases h
 | some a=>exact⟨a,rfl,h⟩
def lkp {α:Type}:List (Nat×α)→Nat→Option α
 | [],_=>none
 | (k,v) :: r,t=>if k=t then some v else lkp r t
def ins {α:Type}:List (Nat×α)→Nat→α→List (Nat×α)
 | [],t,v=>[(t,v)]
 | (k,v) :: r,t,x=>if k<t then (t,x) :: (k,v) :: r else if k=t then (t,x) :: r else (k,v) :: ins r t x
def Zd4:Option AV→AV
 | some v=>v
 | none=>.junk
def gs (sl:Sl) (t:Nat):AV:=Zd4 (lkp sl t)
structure St where
 sl:Sl
 hp:Hp
 nx:Nat
 m:Nat
def ZqJ:AV→Option D
 | .d x=>if x.one then some x else none
 | _=>none
def Zfq:List AV→Option (List D)
 | []=>some []
 | v :: r=>bnd (ZqJ v) fun x=>bnd (Zfq r) fun ds=>some (x :: ds)
def XJ:List AV→Bool
 | []=>true
 | .bbuf _ _ :: _=>false
 | _ :: r=>XJ r
def Zte:AV→Bool
 | .clo _ _=>true
 | _=>false
def Zd5:List AV→Bool
 | []=>false
 | v :: r=>Zte v || Zd5 r
def UD (cs:List AV):Option (List D)→AV
 | some ds=>.d (.agg ds)
 | none=>if Zd5 cs then .junk else .agg cs
def AV.solid:AV→Bool
 | .junk=>false
 | .bbuf _ _=>false
 | .tup _=>false
 | _=>true
def XH:List AV→Bool
 | []=>true
 | v :: r=>v.solid&&XH r
def JQ (cs:List AV):AV:=UD cs (Zfq cs)
def AV.cells:AV→List AV
 | .agg cs=>cs
 | .d x=>x.cells.map .d
 | .nil=>[.nil] | .nilp=>[.nilp] | .nili=>[.nili] | .ptr a b=>[.ptr a b] | .prow a b c e=>[.prow a b c e] | .pim cs=>[.pim cs]
 | .own a=>[.own a] | .ownv a b c=>[.ownv a b c] | .bnil a b=>[.bnil a b] | .bbuf a b=>[.bbuf a b] | .tup vs=>[.tup vs] | .clo f c=>[.clo f c] | .junk=>[.junk]
def W0:Value→AV
 | .bool b=>.d (.bool b)
 | .int k n=>.d (.int k n)
 | .string s=>.d (.str s.data.toList)
 | .slice none 0 0=>.nil
 | .pointer none=>.nilp
 | .nilIface=>.nili
 | _=>.junk
def evC:Value→AV
 | .agg cs=>JQ (cs.toList.map W0)
 | v=>W0 v
def ev (sl:Sl):Operand→AV
 | .tmp t=>gs sl t
 | .const v=>evC v
 | .global _=>.junk
 | .func f=>.clo f []
def ZlT:Value→Option D
 | .bool b=>some (.bool b)
 | .int k n=>some (.int k n)
 | .string s=>some (.str s.data.toList)
 | .slice none 0 0=>some (.sl [])
 | _=>none
def Qy {α β:Type} (f:α→Option β):List α→Option (List β)
 | []=>some []
 | x :: r=>bnd (f x) fun y=>bnd (Qy f r) fun ys=>some (y :: ys)
def evD:Value→Option D
 | .agg cs=>bnd (Qy ZlT cs.toList) fun ds=>some (.agg ds)
 | v=>ZlT v
def WU:Option Zn→Option (List D)
 | some (.row _ xs _ _)=>some xs
 | some (.tree _ _ xs none)=>some xs
 | _=>none
def ZiZ (hp:Hp):AV→Option D
 | .d x=>some x
 | .nil=>some (.sl [])
 | .own id=>bnd (WU (lkp hp id)) fun xs=>some (.sl xs)
 | .ownv id off n=>bnd (WU (lkp hp id)) fun xs=>some (.sl ((xs.drop off).take n))
 | _=>none
def toD (hp:Hp):AV→Option D
 | .agg cs=>bnd (Qy (ZiZ hp) cs) fun ds=>if Zaa D.one ds then some (.agg ds) else none
 | v=>ZiZ hp v
def Zdp:AV→List Nat
 | .own id=>[id]
 | .ownv id _ _=>[id]
 | _=>[]
def Zfr:AV→List Nat
 | .agg cs=>cs.flatMap Zdp
 | v=>Zdp v
def Zl:AV→List Nat
 | .own id=>[id]
 | .ownv id _ _=>[id]
 | .ptr id _=>[id]
 | .prow id _ _ _=>[id]
 | .bnil id _=>[id]
 | .junk | .bbuf _ _ | .d _ | .nil | .nilp | .nili | .pim _ | .agg _ | .tup _ | .clo _ _=>[]
def Zy:AV→List Nat
 | .agg cs=>cs.flatMap Zl
 | .clo _ cs=>cs.flatMap Zl
 | v=>Zl v
def Zw:AV→List Nat
 | .tup vs=>vs.flatMap Zy
 | v=>Zy v
def JR:Zn→List Nat
 | .box cs=>cs.flatMap Zy
 | .row _ _ _ _=>[]
 | .tree _ _ _ _=>[]
 | .gone=>[]
def ZqK:Option (Option Nat×Nat×Nat)→Option (Option Nat×Nat×Nat)
 | some q=>some (none,q.2)
 | none=>none
def Zfs (g:Nat→Nat):AV→AV
 | .own id=>.own (g id)
 | .ownv id a b=>.ownv (g id) a b
 | .ptr id o=>.ptr (g id) o
 | .prow id s i o=>.prow (g id) s i o
 | .bnil id e=>.bnil (g id) e
 | v=>v
def Zex (g:Nat→Nat):AV→AV
 | .agg cs=>.agg (cs.map (Zfs g))
 | .clo f cs=>.clo f (cs.map (Zfs g))
 | v=>Zfs g v
def ren (g:Nat→Nat):AV→AV
 | .tup vs=>.tup (vs.map (Zex g))
 | v=>Zex g v
def ZlU (g:Nat→Nat):Zn→Zn
 | .box cs=>.box (cs.map (Zex g))
 | .row s x e f=>.row s x e f
 | .tree s n x l=>.tree s n x (ZqK l)
 | .gone=>.gone
def Qd (bad:List Nat):AV→AV
 | .own id=>if bad.contains id then .junk else .own id
 | .ownv id a b=>if bad.contains id then .junk else .ownv id a b
 | .ptr id o=>if bad.contains id then .junk else .ptr id o
 | .prow id s i o=>if bad.contains id then .junk else .prow id s i o
 | .bnil id e=>if bad.contains id then .junk else .bnil id e
 | v=>v
def ZS (bad:List Nat):AV→AV
 | .agg cs=>.agg (cs.map (Qd bad))
 | .clo f cs=>.clo f (cs.map (Qd bad))
 | v=>Qd bad v
def kill (bad:List Nat):AV→AV
 | .tup vs=>.tup (vs.map (ZS bad))
 | v=>ZS bad v
def Wt (bad:List Nat):Option (Option Nat×Nat×Nat)→Option (Option Nat×Nat×Nat)
 | some (some nm,q)=>if bad.contains nm then some (none,q) else some (some nm,q)
 | l=>l
def Xh (bad:List Nat):Zn→Zn
 | .box cs=>.box (cs.map (ZS bad))
 | .row s x e f=>.row s x e f
 | .tree s n x l=>.tree s n x (Wt bad l)
 | .gone=>.gone
def Znb {α β:Type} (f:α→β):List (Nat×α)→List (Nat×β)
 | []=>[]
 | (k,v) :: r=>(k,f v) :: Znb f r
def Vt:Zn→Zn
 | .row s x e _=>.row s x e true
 | .tree s n x l=>.tree s n x l
 | o=>o
def freeze (ids:List Nat):Hp→Hp
 | []=>[]
 | (k,o) :: r=>(k,if ids.contains k then Vt o else o) :: freeze ids r
def ZlV:Option Zn→Option (List D×Bool)
 | some (.row _ xs ex _)=>some (xs,ex)
 | _=>none
def Zby (hp:Hp):AV→Option (D×Bool×List Nat)
 | .d x=>some (x,x.flat,[])
 | .nil=>some (.sl [],true,[])
 | .own id=>bnd (ZlV (lkp hp id)) fun q=>some (.sl q.1,q.2,[id])
 | _=>none
def V1 (hp:Hp):List AV→Option (List D×Bool×List Nat)
 | []=>some ([],true,[])
 | v :: r=>bnd (Zby hp v) fun q=>bnd (V1 hp r) fun p=>
   if q.1.one&&!q.2.2.any p.2.2.contains then some (q.1 :: p.1,q.2.1&&p.2.1,q.2.2++p.2.2) else none
def give (hp:Hp):AV→Option (D×Bool×List Nat)
 | .agg cs=>bnd (V1 hp cs) fun p=>some (.agg p.1,p.2.1,p.2.2)
 | v=>Zby hp v
def WV (hp:Hp):List AV→Option (List D×Bool×List Nat)
 | []=>some ([],true,[])
 | v :: r=>bnd (give hp v) fun q=>bnd (WV hp r) fun p=>
   if !q.2.2.any p.2.2.contains then some (q.1 :: p.1,q.2.1&&p.2.1,q.2.2++p.2.2) else none
def Zu {α:Type} (cs:List α) (off:Nat) (vs:List α):List α:=cs.take off++vs++cs.drop (off+vs.length)
def Yy (x:D) (off:Nat) (ds:List D):D:=match x with
 | .agg cs=>.agg (Zu cs off ds)
 | _=>ds.headD x
def UI (op:BinOp) (k:IntKind) (a b:Int):Option D:=
 match op with
 | .add=>some (.int k (k.wrap (a+b)))
 | .sub=>some (.int k (k.wrap (a-b)))
 | .mul=>some (.int k (k.wrap (a*b)))
 | .quo=>if b=0 then none else some (.int k (k.wrap (a.tdiv b)))
 | .rem=>if b=0 then none else some (.int k (a.tmod b))
 | .and=>some (.int k (k.wrap (BitVec.ofInt k.bits a &&& BitVec.ofInt k.bits b).toNat))
 | .or=>some (.int k (k.wrap (BitVec.ofInt k.bits a ||| BitVec.ofInt k.bits b).toNat))
 | .xor=>some (.int k (k.wrap (BitVec.ofInt k.bits a ^^^ BitVec.ofInt k.bits b).toNat))
 | .andNot=>some (.int k (k.wrap (BitVec.ofInt k.bits a &&& ~~~(BitVec.ofInt k.bits b)).toNat))
 | .eql=>some (.bool (a==b))
 | .neq=>some (.bool (a != b))
 | .lss=>some (.bool (decide (a<b)))
 | .leq=>some (.bool (decide (a≤b)))
 | .gtr=>some (.bool (decide (a>b)))
 | .geq=>some (.bool (decide (a≥b)))
 | .shl | .shr=>none
def Znc (op:BinOp) (k:IntKind) (a b:Int):Option D:=
 if b<0 then none else
 match op with
 | .shl=>some (.int k (k.wrap (a*2 ^ (min b.toNat k.bits))))
 | .shr=>some (.int k (a.fdiv (2 ^ (min b.toNat k.bits))))
 | _=>none
def Zxj:Nat:=1152921504606846976
def ZvR (op:BinOp) (a b:List UInt8):Option D:=
 match op with
 | .add=>if a.length+b.length≤Zxj then some (.str (a++b)) else none
 | .eql=>some (.bool (a==b))
 | .neq=>some (.bool (!(a==b)))
 | _=>none
def D.beq1:D→D→Option Bool
 | .int _ a,.int _ b=>some (a==b)
 | .bool a,.bool b=>some (a==b)
 | .str a,.str b=>some (a==b)
 | _,_=>none
def beqL:List D→List D→Option Bool
 | [],[]=>some true
 | x :: xs,y :: ys=>bnd (D.beq1 x y) fun a=>bnd (beqL xs ys) fun b=>some (a&&b)
 | _,_=>none
def agg2 (op:BinOp) (r:Option Bool):Option AV:=match op with
 | .eql=>bnd r fun r=>some (.d (.bool r))
 | .neq=>bnd r fun r=>some (.d (.bool (!r)))
 | _=>none
def asD (r:Option D):Option AV:=bnd r fun x=>some (.d x)
def Zaw (op:BinOp) (k k' : IntKind) (a b:Int):Option AV:=match op with
 | .shl | .shr=>asD (Znc op k a b)
 | _=>if k=k' then asD (UI op k a b) else none
def Ztf (op:BinOp) (a b:Bool):Option AV:=match op with
 | .eql=>some (.d (.bool (a==b)))
 | .neq=>some (.d (.bool (!(a==b))))
 | _=>none
def vbin (op:BinOp):AV→AV→Option AV
 | .d (.int k a),.d (.int k' b)=>Zaw op k k' a b
 | .d (.str a),.d (.str b)=>asD (ZvR op a b)
 | _,_=>none
def neg1 (op:UnOp) (k:IntKind) (a:Int):Option AV:=match op with
 | .neg=>some (.d (.int k (k.wrap (0-a))))
 | _=>none
def not1 (op:UnOp) (a:Bool):Option AV:=match op with
 | .not=>some (.d (.bool (!a)))
 | _=>none
def vun (op:UnOp):AV→Option AV
 | .d (.int k a)=>neg1 op k a
 | .d (.bool a)=>not1 op a
 | _=>none
def Zd6 (hp:Hp):AV→Option Nat
 | .d (.sl xs)=>some xs.length
 | .nil=>some 0
 | .own id=>bnd (WU (lkp hp id)) fun xs=>some xs.length
 | .ownv _ _ n=>some n
 | _=>none
def Zzf:AV→Option Nat
 | .d (.str s)=>some s.length
 | _=>none
def minI (a b:Int):Int:=if b<a then b else a
def maxI (a b:Int):Int:=if b>a then b else a
end Go.Abs
