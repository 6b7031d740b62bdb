/- The abstract semantics: operations,regions,codes,calls. Own text. -/
import Derived.Test.YtpobhkoombldlaaGreatAbsBase
set_option linter.unusedVariables false
set_option linter.unusedSimpArgs false
namespace Go.Abs
open Go
def mat:List (Option Nat)→List AV→Nat→List AV×Hp
 | some s :: ts,.nil :: vs,b=>let r:=mat ts vs (b+1);(.own b :: r.1,(b,.row s [] true false) :: r.2)
 | _ :: ts,v :: vs,b=>let r:=mat ts vs b;(v :: r.1,r.2)
 | _,vs,_=>(vs,[])
def ZmL:List AV→Bool
 | []=>false
 | .nil :: _=>true
 | _ :: r=>ZmL r
structure Eff where
 val:AV
 adds:Hp:=[]
 sets:Hp:=[]
 dels:List Nat:=[]
 frz:List Nat:=[]
def Zi:Hp→Hp→Hp
 | hp,[]=>hp
 | hp,(k,o) :: r=>Zi (ins hp k o) r
def del:Hp→Nat→Hp
 | [],_=>[]
 | (k,o) :: r,t=>if k=t then del r t else (k,o) :: del r t
def Qv:Hp→List Nat→Hp
 | hp,[]=>hp
 | hp,k :: r=>Qv (del hp k) r
def Ql (ids:List Nat) (hp:Hp):Hp:=match ids with
 | []=>hp
 | _=>freeze ids hp
def Eff.on (e:Eff) (hp:Hp):Hp:=Zi (Zi (Qv (Ql e.frz hp) e.dels) e.sets) e.adds
def Zy1:List AV→Nat→List AV→List AV
 | cs,_,[]=>cs
 | cs,off,v :: r=>Zy1 (cs.set off v) (off+1) r
def ZnN:List AV→List (Nat×Nat×AV)→Option (List AV)
 | cells,[]=>some cells
 | cells,q :: r=>if q.2.2.solid∧q.2.2.cells.length=q.2.1∧q.1+q.2.1≤cells.length then ZnN (Zy1 cells q.1 q.2.2.cells) r else none
def AV.atom:AV→Bool
 | .d x=>x.one
 | .agg _=>false
 | .tup _=>false
 | .clo _ _=>false
 | _=>true
def Zi0:List AV→Bool
 | []=>true
 | v :: r=>v.atom&&Zi0 r
def cloV (f:Nat) (cs:List AV):Option AV:=if Zi0 cs then some (.clo f cs) else none
def Zcj (agg:Bool) (s off:Nat):Option Zt→Option AV
 | some (.box cs)=>if agg then (if off+s≤cs.length then some (Zc9 ((cs.drop off).take s)) else none) else cs[off]?
 | _=>none
def ZeU (agg:Bool) (s off:Nat) (cs:List D):Option AV:=
 if agg then (if off+s≤cs.length then some (.d (.agg ((cs.drop off).take s))) else none) else asD cs[off]?
def Zlt (agg:Bool) (s sz off:Nat) (x:D):Option AV:=if x.cells.length=sz then ZeU agg s off x.cells else none
def Zvs (id i off:Nat):Option (Nat×Nat×Nat)→Option AV
 | some (nm,i',c)=>if i=i'∧off=c then some (.sub id nm) else none
 | none=>none
def Zfk (id i off:Nat) (lk:Option (Nat×Nat×Nat)) (x:D):Option AV:=match x.cells[off]? with
 | some (.sl _)=>Zvs id i off lk
 | some y=>if y.plain then some (.d y) else none
 | none=>none
def Zck (id:Nat) (agg:Bool) (s sz i off:Nat):Option Zt→Option AV
 | some (.row sz' xs _ _)=>if sz=sz' then bnd xs[i]? (Zlt agg s sz off) else none
 | some (.deep sz' _ xs lk)=>if sz=sz' then (if agg then none else bnd xs[i]? (Zfk id i off lk)) else none
 | _=>none
def JU (hp:Hp) (agg:Bool) (s:Nat):AV→Option AV
 | .ptr id off=>Zcj agg s off (lkp hp id)
 | .prow id sz i off=>Zck id agg s sz i off (lkp hp id)
 | .pim cs=>ZeU agg s 0 cs
 | _=>none
def ZtO:AV→Option D
 | .d x=>if x.plain then some x else none
 | _=>none
def Zvt:List AV→Option (List D)
 | []=>some []
 | v :: r=>bnd (ZtO v) fun x=>bnd (Zvt r) fun ds=>some (x :: ds)
def Zfl (slc:List (Option Nat)) (s base id off:Nat) (vs:List AV):Option Zt→Option Eff
 | some (.box cs)=>if vs.length=s∧off+s≤cs.length∧Wl vs then
    (if ZmL vs then some { val := .junk, adds := (mat slc vs base).2, sets := [(id, .box (Qp cs off (mat slc vs base).1))] }
      else some { val:=.junk,sets:=[(id,.box (Qp cs off vs))] })
   else none
 | _=>none
def D.notSl:D→Bool
 | .sl _=>false
 | _=>true
def Zfm (s id sz i off:Nat) (xs:List D) (ex:Bool) (x:D) (q:List D×Bool×List Nat):Option Eff:=
 if x.notSl∧x.cells.length=sz∧q.1.length=s∧off+s≤sz∧q.2.2.contains id=false then
  some { val:=.junk,sets:=[(id,.row sz (xs.set i (ZiR x off q.1)) (ex&&q.2.1) false)],frz:=q.2.2 } else none
def ZdS (hp:Hp) (s id sz i off:Nat) (vs:List AV):Option Zt→Option Eff
 | some (.row sz' xs ex false)=>if sz=sz' then bnd xs[i]? fun x=>bnd (Uw hp vs) fun q=>Zfm s id sz i off xs ex x q else none
 | _=>none
def ZbR (hp:Hp) (slc:List (Option Nat)) (s base:Nat) (vs:List AV):AV→Option Eff
 | .ptr id off=>Zfl slc s base id off vs (lkp hp id)
 | .prow id sz i off=>ZdS hp s id sz i off vs (lkp hp id)
 | _=>none
def uni (s:Nat) (ys:List D):Prop:=∀ y∈ys,y.cells.length=s
def ZZ:Nat:=140737488355328
def QM (ys:List D):Prop:=∀ y∈ys,y.flat=true
def ZtP (flat:Bool):Option Zt→Option (List D×Bool)
 | some (.row _ ys ex _)=>some (ys,ex || flat)
 | _=>none
def ZpD:AV→Option (List D×Bool)
 | .d (.str s)=>some (s.map fun b=>.int .u8 b.toNat,true)
 | _=>none
def ZoV (flat:Bool) (off n:Nat):Option Zt→Option (List D×Bool)
 | some (.row _ ys ex _)=>some ((ys.drop off).take n,ex || flat)
 | _=>none
def Zfn (hp:Hp) (flat:Bool):AV→Option (List D×Bool)
 | .nil=>some ([],true)
 | .d (.sl ys)=>some (ys,flat)
 | .own id=>ZtP flat (lkp hp id)
 | .ownv id off n=>ZoV flat off n (lkp hp id)
 | _=>none
def Zhx (sz base:Nat) (dels:List Nat) (xs:List D) (ex:Bool):Eff:=
 { val:=.own base,adds:=[(base,.row sz xs ex false)],dels:=dels }
def ZmM (sz by_ base id:Nat) (ys:List D) (ex' : Bool):Option Zt→Option Eff
 | some (.row sz' xs ex false)=>if sz'=sz∧(xs.length+ys.length)*by_≤ZZ∧xs.length+ys.length≤ZZ then some (Zhx sz base [id] (xs++ys) (ex&&ex')) else none
 | _=>none
def Zi1 (sz by_ base id n:Nat) (ys:List D) (ex' : Bool):Option Zt→Option Eff
 | some (.row sz' xs ex false)=>if sz'=sz∧(n+ys.length)*by_≤ZZ∧n+ys.length≤ZZ then some (Zhx sz base [id] (xs.take n++ys) (ex&&ex')) else none
 | _=>none
def Zi2 (sz base id n:Nat) (ys:List D) (ex' : Bool):Option Zt→Option Eff
 | some (.row sz' xs ex false)=>if sz'=sz∧0<xs.length∧n+ys.length≤xs.length then
   some { val:=.ownv base 0 (n+ys.length),adds:=[(base,.row sz (xs.take n++ys++xs.drop (n+ys.length)) (ex&&ex') false)],dels:=[id] } else none
 | _=>none
def Zhy (hp:Hp) (sz by_:Nat) (base:Nat) (src:List Nat) (ys:List D) (ex' : Bool):AV→Option Eff
 | .nil=>if ys.length*by_≤ZZ∧ys.length≤ZZ then some (Zhx sz base [] ys ex') else none
 | .own id=>if src.contains id then none else ZmM sz by_ base id ys ex' (lkp hp id)
 | .ownv id off n=>if off≠0 then none else if src.contains id then Zi2 sz base id n ys ex' (lkp hp id) else Zi1 sz by_ base id n ys ex' (lkp hp id)
 | _=>none
open Classical in
noncomputable def Ji (hp:Hp) (sz by_:Nat) (str flat:Bool) (base:Nat) (s x:AV):Option Eff:=
 bnd (if str then ZpD x else Zfn hp flat x) fun q=>if uni sz q.1∧(flat=true→QM q.1) then Zhy hp sz by_ base (Zda x) q.1 q.2 s else none
def idx (i:AV):Option Int:=match i with
 | .d (.int _ n)=>some n
 | _=>none
def Zya (sz:Nat) (y:D):Option AV:=if y.cells.length=sz then some (.pim y.cells) else none
def Zeu (sz id n:Nat):Option Zt→Option AV
 | some (.row sz' xs _ _)=>if sz'=sz∧n<xs.length then some (.prow id sz n 0) else none
 | some (.deep sz' _ xs _)=>if sz'=sz∧n<xs.length then some (.prow id sz n 0) else none
 | _=>none
def ZdT (sz id off m n:Nat):Option Zt→Option AV
 | some (.row sz' _ _ _)=>if sz'=sz∧n<m then some (.prow id sz (off+n) 0) else none
 | _=>none
def QQ (hp:Hp) (sz n:Nat):AV→Option AV
 | .d (.sl xs)=>bnd xs[n]? (Zya sz)
 | .own id=>Zeu sz id n (lkp hp id)
 | .ownv id off m=>ZdT sz id off m n (lkp hp id)
 | _=>none
def bd (m:Nat) (v:AV):Option Nat:=bnd (idx v) fun n=>if 0≤n∧n≤m then some n.toNat else none
def hiOf (len:Nat):Option AV→Option Nat
 | none=>some len
 | some v=>bd len v
def loOf (h:Nat):Option AV→Option Nat
 | none=>some 0
 | some v=>bd h v
def ZtQ (len:Nat) (lo hi:Option AV):Option (Nat×Nat):=bnd (hiOf len hi) fun h=>bnd (loOf h lo) fun l=>some (l,h)
def Zvu (id n:Nat):Option AV→Option AV→Option AV
 | none,none=>some (.own id)
 | lo,hi=>bnd (ZtQ n lo hi) fun b=>some (.ownv id b.1 (b.2-b.1))
def ZdU (s id:Nat) (lo hi:Option AV):Option Zt→Option AV
 | some (.row sz xs _ _)=>if sz=s then Zvu id xs.length lo hi else none
 | _=>none
def ZAa (n m:Nat) (lo:Option AV):Option AV→Option (Nat×Nat)
 | none=>ZtQ n lo none
 | some h=>ZtQ m lo (some h)
def ZbS (s id off n:Nat) (lo hi:Option AV):Option Zt→Option AV
 | some (.row sz xs _ _)=>if sz=s then bnd (ZAa n (xs.length-off) lo hi) fun b=>some (.ownv id (off+b.1) (b.2-b.1)) else none
 | _=>none
def slice3 (hp:Hp) (x:AV) (lo hi mx:Option Int):Option AV:=bnd lo fun l=>bnd hi fun h=>bnd mx fun m=>bnd (ZeR hp x) fun n=>
 if 0≤l∧l≤h∧h≤m∧m≤n then some .junk else none
def Zhz (s id off n:Nat) (z:D):Option Zt→Option Eff
 | some (.row sz xs ex false)=>if sz=s∧z.cells.length=s∧off+n≤xs.length then some { val:=.tup [],sets:=[(id,.row sz (xs.take off++List.replicate n z++xs.drop (off+n)) ex false)] } else none
 | _=>none
def ZeV (hp:Hp) (s:Nat) (z:D):AV→Option Eff
 | .ownv id off n=>Zhz s id off n z (lkp hp id)
 | _=>none
open Classical in
noncomputable def Us (hp:Hp) (s:Nat) (lo hi:Option AV):AV→Option AV
 | .d (.sl xs)=>if uni s xs then bnd (ZtQ xs.length lo hi) fun b=>some (.d (.sl ((xs.take b.2).drop b.1))) else none
 | .nil=>bnd (ZtQ 0 lo hi) fun _=>some .nil
 | .own id=>ZdU s id lo hi (lkp hp id)
 | .ownv id off n=>ZbS s id off n lo hi (lkp hp id)
 | _=>none
def sliceS (lo hi:Option AV):AV→Option AV
 | .d (.str s)=>bnd (ZtQ s.length lo hi) fun b=>some (.d (.str ((s.take b.2).drop b.1)))
 | _=>none
def slice0 (hp:Hp) (x:AV) (hi mx:Option Int):Option AV:=match hi,mx with
 | some 0,some 0=>bnd (ZeR hp x) fun _=>some .nil
 | _,_=>none
def Zlu (agg:Bool) (s off:Nat):AV→Option AV
 | .d (.agg cs)=>ZeU agg s off cs
 | .agg cs=>if agg then (if off+s≤cs.length then some (Zc9 ((cs.drop off).take s)) else none) else cs[off]?
 | _=>none
abbrev Orc:=Nat→List AV→List Zt→Option (AV×List Zt)
abbrev Zu:=Nat→Nat→Bool
def Zgc (hp:Hp) (id:Nat):Bool→Option AV
 | true=>some (.own id)
 | false=>asD (Zjm hp (.own id))
def ZhA:Bool→Option AV
 | true=>some .nil
 | false=>some (.d (.sl []))
def ZeW (hp:Hp) (m:Bool):AV→Option AV
 | .ptr a b=>some (.ptr a b)
 | .clo f c=>some (.clo f c)
 | .nilp=>some .nilp
 | .nili=>some .nili
 | .pim c=>some (.pim c)
 | .own id=>Zgc hp id m
 | .nil=>ZhA m
 | .d x=>some (.d x)
 | v=>asD (toD hp v)
def args (hp:Hp) (m:Nat→Bool):Nat→List AV→Option (List AV)
 | _,[]=>some []
 | i,v :: r=>bnd (ZeW hp (m i) v) fun a=>bnd (args hp m (i+1) r) fun as=>some (a :: as)
def ZaU (hp:Hp) (go:List Nat→List Nat→List Nat) (id:Nat) (todo acc:List Nat):Option Zt→List Nat
 | some o=>go (todo++Zcv o) (acc++[id])
 | none=>go todo acc
def Q0 (hp:Hp):Nat→List Nat→List Nat→List Nat
 | 0,_,acc=>acc
 | _+1,[],acc=>acc
 | n+1,id :: todo,acc=>if acc.contains id then Q0 hp n todo acc else ZaU hp (Q0 hp n) id todo acc (lkp hp id)
def Uy:List Nat→Nat→Nat
 | [],_=>0
 | x :: r,t=>if x=t then 0 else Uy r t+1
def Zlv:Option Zt→Zt
 | some o=>o
 | none=>.row 0 [] true false
def ZdV (hp:Hp):List Nat→List Zt
 | []=>[]
 | id :: r=>Zlv (lkp hp id) :: ZdV hp r
def ZaV (ids:List Nat) (o:Zt):Zt:=Zoi (Uy ids) (YB ((Zcv o).filter fun i=>!ids.contains i) o)
def We:Option Zt→Bool
 | some (.row _ _ _ _)=>true
 | some (.deep _ _ _ _)=>true
 | _=>false
def ZdW:AV→Bool
 | .d x=>x.flat
 | .pim _=>false
 | .agg _=>false
 | .tup _=>false
 | .clo _ _=>false
 | _=>true
def ZeX:AV→Bool
 | .agg cs=>cs.all ZdW
 | .clo _ cs=>cs.all ZdW
 | v=>ZdW v
def ZsP:AV→Bool
 | .tup vs=>vs.all ZeX
 | v=>ZeX v
def ZkG:Zt→Bool
 | .box cs=>cs.all ZeX
 | .row _ _ ex fz=>ex&&!fz
 | .deep _ _ _ _=>true
def ZkH (d:Nat):Option Nat→Nat
 | some i=>i
 | none=>d
def UG (ids:List Nat) (base k:Nat):Nat:=ZkH (base+(k-ids.length)) ids[k]?
def ZdX (g:Nat→Nat):List Nat→List Zt→Hp
 | id :: ids,o :: os=>(id,Zoi g o) :: ZdX g ids os
 | _,_=>[]
def ZdY (g:Nat→Nat):Nat→List Zt→Hp
 | _,[]=>[]
 | k,o :: os=>(k,Zoi g o) :: ZdY g (k+1) os
structure Zf where
 eff:Eff
 gone:List Nat
def XL (_hp:Hp):Nat:=1000
def VX:List AV→List AV→List Nat
 | v :: vs,.d _ :: as=>Zf1 v++VX vs as
 | _ :: vs,_ :: as=>VX vs as
 | _,_=>[]
def ZcX:Option Zt→Bool
 | some (.deep _ _ _ _)=>true
 | _=>false
def ZaW (hp:Hp) (base:Nat) (ids lent:List Nat) (r:AV) (out:List Zt):Option Zf:=
 if out.length<ids.length then none else if !(ZsP r&&out.all ZkG)&&lent.any fun i=>ZcX (lkp hp i) then none else
  some { eff := { val:=ren (UG ids base) r,adds:=ZdY (UG ids base) base (out.drop ids.length),sets:=ZdX (UG ids base) ids out,frz:=if ZsP r&&out.all ZkG then [] else lent },gone:=ids.filter fun i=>We (lkp hp i) }
def Zcy:AV→List Nat
 | .ptr id _=>[id]
 | .clo _ cs=>cs.flatMap Zq
 | _=>[]
def Zdm (hp:Hp) (rs ids:List Nat):Bool:=ids.all fun i=>We (lkp hp i) || rs.contains i
def Zev (C:Orc) (hp:Hp) (base f:Nat) (lent:List Nat) (as:List AV) (ids:List Nat):Option Zf:=
 if (as.flatMap ZJ).all ids.contains∧¬lent.any ids.contains∧Zdm hp (as.flatMap Zcy) ids=true then
  bnd (C f (as.map (ren (Uy ids))) ((ZdV hp ids).map (ZaV ids))) fun q=>ZaW hp base ids lent q.1 q.2
 else none
def Zde (C:Orc) (m:Nat→Bool) (hp:Hp) (base f:Nat) (avs:List AV):Option Zf:=
 bnd (args hp m 0 avs) fun as=>Zev C hp base f (VX avs as) as (Q0 hp (XL hp) (as.flatMap ZJ) [])
def Qs (v:AV):Option Zf:=some { eff := { val:=v },gone:=[] }
def Ut (v:Option AV):Option Zf:=bnd v Qs
def Zhk (e:Option Eff):Option Zf:=bnd e fun e=>some { eff:=e,gone:=[] }
def Zew (base:Nat) (e:Option Nat):AV→Option Zf
 | .nil=>bnd e fun s=>some { eff := { val:=.own base,adds:=[(base,.row s [] true false)] },gone:=[] }
 | v=>Qs v
def ZgE (a b:AV):AV→Option Zf
 | .d (.bool t)=>if t then Qs a else Qs b
 | _=>none
def Zgd (slc:List (Option Nat)) (base:Nat) (cs:List AV):Option Zf:=
 if ZmL cs then some { eff := { val:=.ptr base 0,adds:=(base,.box (mat slc cs (base+1)).1) :: (mat slc cs (base+1)).2 },gone:=[] }
 else some { eff := { val:=.ptr base 0,adds:=[(base,.box cs)] },gone:=[] }
def Zw3 (base:Nat) (x:AV):Option Zf:=if x.solid then some { eff := { val:=.ptr base 0,adds:=[(base,.box x.cells)] },gone:=[] } else none
def ZpE (zs:List AV) (ps:List (Nat×Nat×AV)):Option Zf:=bnd (ZnN zs ps) fun cs=>Qs (Zc9 cs)
def Zw4 (base s:Nat) (q:List D×Bool×List Nat):Option Zf:=
 if q.1.all (fun d=>d.cells.length==s) then some { eff := { val:=.own base,adds:=[(base,.row s q.1 q.2.1 false)],frz:=q.2.2 },gone:=[] } else none
def buildSl (hp:Hp) (base s:Nat):List AV→Option Zf
 | []=>Qs .nil
 | v :: vs=>bnd (Jg hp (v :: vs)) (Zw4 base s)
def Zex (hp:Hp) (n:Nat):AV→Option (D×List Nat)
 | .d x=>if x.plain then some (x,[]) else none
 | .nil=>some (.sl [],[])
 | .own id=>deepRow n id (lkp hp id)
 | _=>none
where deepRow (n id:Nat):Option Zt→Option (D×List Nat)
 | some (.row sz xs true false)=>if sz=n∧ZcV D.flat xs then some (.sl xs,[id]) else none
 | _=>none
def Zfo (hp:Hp) (n:Nat):List AV→Option (List D×List Nat)
 | []=>some ([],[])
 | v :: r=>bnd (Zex hp n v) fun q=>bnd (Zfo hp n r) fun p=>if !q.2.any p.2.contains then some (q.1 :: p.1,q.2++p.2) else none
def asgDp (base s n:Nat):AV→Option Zf
 | .nil=>some { eff := { val:=.own base,adds:=[(base,.deep s n [] none)] },gone:=[] }
 | _=>none
def buildDp (hp:Hp) (base s n:Nat):List AV→Option Zf
 | [.agg cs]=>bnd (Zfo hp n cs) fun q=>if q.1.length=s then some { eff := { val:=.own base,adds:=[(base,.deep s n [.agg q.1] none)],dels:=q.2 },gone:=[] } else none
 | _=>none
def ZaX:AV→Option Zf
 | .ptr a b=>Qs (.ptr a b)
 | .prow a b c d=>Qs (.prow a b c d)
 | .pim c=>Qs (.pim c)
 | .clo f c=>Qs (.clo f c)
 | _=>none
def Zfp (op:BinOp) (eq:Bool):AV→AV→Option Zf
 | .d (.bool a),.d (.bool b)=>if eq then Ut (Zsm op a b) else none
 | a,b=>Ut (vbin op a b)
def ZbJ:List Nat→List D→List D→Option Bool
 | [],[],[]=>some true
 | 0 :: ks,.int k a :: cs,.int k' b :: ds=>if k=k' then bnd (ZbJ ks cs ds) fun r=>some (decide (a=b)&&r) else none
 | 1 :: ks,.bool a :: cs,.bool b :: ds=>bnd (ZbJ ks cs ds) fun r=>some (decide (a=b)&&r)
 | 2 :: ks,.str a :: cs,.str b :: ds=>bnd (ZbJ ks cs ds) fun r=>some (decide (a=b)&&r)
 | _,_,_=>none
def ZpF (neg:Bool) (r:Bool):Bool:=if neg then !r else r
def ZrA (neg:Bool) (ks:List Nat):AV→AV→Option Zf
 | .d (.agg cs),.d (.agg ds)=>bnd (ZbJ ks cs ds) fun r=>Qs (.d (.bool (ZpF neg r)))
 | _,_=>none
def convI (k:IntKind):AV→Option Zf
 | .d (.int _ n)=>Qs (.d (.int k (k.wrap n)))
 | _=>none
def convS:AV→Option Zf
 | .d (.str s)=>Qs (.d (.str s))
 | _=>none
def ZpG (base s b:Nat) (z:D) (l c:Int):Option Zf:=
 if 0≤l∧l≤c∧c*b≤ZZ∧c≤ZZ∧z.cells.length=s then
  some { eff := { val:=.own base,adds:=[(base,.row s (List.replicate l.toNat z) true false)] },gone:=[] } else none
def WN (off:Nat):AV→Option Zf
 | .ptr id o=>Qs (.ptr id (o+off))
 | .prow id sz i o=>Qs (.prow id sz i (o+off))
 | .pim cs=>Qs (.pim (cs.drop off))
 | _=>none
def ZnO (x:AV) (n:Int) (len s:Nat):Option Zf:=if 0≤n∧n<len then WN (n.toNat*s) x else none
def ZhB (hp:Hp) (s:Nat) (x:AV) (n:Int):Option Zf:=if 0≤n then Ut (QQ hp s n.toNat x) else none
def ZsQ (s:List UInt8) (n:Int):Option Zf:=if 0≤n then bnd s[n.toNat]? fun b=>Qs (.d (.int .u8 b.toNat)) else none
def Zw5 (g:Bool) (s len:Nat) (n:Int) (v:AV):Option Zf:=if 0≤n∧n<len then Ut (Zlu g s (n.toNat*s) v) else none
def Zvv (n:Int):AV→Option Zf
 | .d (.str s)=>ZsQ s n
 | _=>none
def ZtR (i:Nat):AV→Option Zf
 | .tup vs=>Ut vs[i]?
 | _=>none
def ZkI:Option Zt→Option (Nat×Nat×List D)
 | some (.deep s n xs _)=>some (s,n,xs)
 | _=>none
def Zey (hp:Hp):AV→Option (Nat×Nat×Nat×List D)
 | .own id=>bnd (ZkI (lkp hp id)) fun q=>some (id,q)
 | _=>none
def Zdn (hp:Hp) (s b base id n:Nat) (ys:List D):AV→Option Eff
 | .nil=>if ys.length*b≤ZZ∧ys.length≤ZZ then some { val:=.own base,adds:=[(base,.deep s n ys none)],dels:=[id] } else none
 | .own id1=>bnd (ZkI (lkp hp id1)) fun q=>if q.1=s∧q.2.1=n∧id1≠id∧(q.2.2.length+ys.length)*b≤ZZ∧q.2.2.length+ys.length≤ZZ then
   some { val:=.own base,adds:=[(base,.deep s n (q.2.2++ys) none)],dels:=[id1,id] } else none
 | _=>none
def Zlw (xs:List D) (i c:Nat):Option (List D):=bnd xs[i]? fun x=>match x.cells[c]? with
 | some (.sl ys)=>some ys
 | _=>none
open Classical in
noncomputable def ZkJ (s b base id nm:Nat) (q:List D×Bool):Option Zt→Option Eff
 | some (.deep sz n xs (some (nm',i,c)))=>bnd (Zlw xs i c) fun fl=>if nm=nm'∧n=s∧uni s q.1∧QM q.1∧(fl.length+q.1.length)*b≤ZZ∧fl.length+q.1.length≤ZZ then
   some { val:=.own base,adds:=[(base,.row s (fl++q.1) true true)],sets:=[(id,.row sz xs true false)] } else none
 | _=>none
def Vp (hp:Hp):AV→List Nat
 | .own id=>if ZcX (lkp hp id) then [id] else []
 | _=>[]
def ZdZ:Zt→Zt
 | .deep s _ xs _=>.row s xs true false
 | o=>o
def meltIn (hp:Hp):List Nat→Hp
 | []=>hp
 | i :: r=>match lkp hp i with
  | some o=>ins (meltIn hp r) i (ZdZ o)
  | none=>meltIn hp r
noncomputable def WO (hp:Hp) (s b:Nat) (str flat:Bool) (base:Nat) (x y:AV):List Nat→Option Eff
 | []=>Ji hp s b str flat base x y
 | i :: r=>if flat then none else bnd (Ji (meltIn hp (i :: r)) s b str flat base x y) fun e=>some { val:=e.val,adds:=e.adds,sets:=e.sets,dels:=e.dels++(i :: r),frz:=e.frz }
noncomputable def Zfq (hp:Hp) (s b:Nat) (str flat:Bool) (base:Nat) (y:AV):AV→Option Eff
 | .sub id nm=>if str then none else bnd (Zfn hp true y) fun q=>if (Zda y).contains id then none else ZkJ s b base id nm q (lkp hp id)
 | x=>WO hp s b str flat base x y (Vp hp x++Vp hp y)
def ZrB (hp:Hp) (s b base:Nat) (x y:AV):Option Zf:=Zhk (bnd (Zey hp y) fun q=>if q.2.1=s then Zdn hp s b base q.1 q.2.2.1 q.2.2.2 x else none)
noncomputable def ZtS (hp:Hp) (s b:Nat) (str flat:Bool) (base:Nat) (x y:AV):Option Zf:=Zhk (Zfq hp s b str flat base y x)
def Zlx:AV→AV→Option Zf
 | .d (.int k a),.d (.int k' b)=>if k=k' then Qs (.d (.int k (minI a b))) else none
 | _,_=>none
def Zly:AV→AV→Option Zf
 | .d (.int k a),.d (.int k' b)=>if k=k' then Qs (.d (.int k (maxI a b))) else none
 | _,_=>none
inductive Opd where
 | t (n:Nat)
 | v (a:AV)
 | f (n:Nat)
def evO (sl:Sl):Opd→AV
 | .t n=>gs sl n
 | .v a=>a
 | .f n=>.clo n []
def evL (sl:Sl):List Opd→List AV
 | []=>[]
 | x :: r=>evO sl x :: evL sl r
def evP (sl:Sl):List (Nat×Nat×Opd)→List (Nat×Nat×AV)
 | []=>[]
 | (a,b,x) :: r=>(a,b,evO sl x) :: evP sl r
def evM (sl:Sl):Option Opd→Option AV
 | none=>none
 | some x=>some (evO sl x)
inductive COp where
 | move (x:Opd)
 | assign (s:Option Nat) (x:Opd)
 | pick (c a b:Opd)
 | alloc (slc:List (Option Nat)) (cs:List AV)
 | box (x:Opd)
 | build (zs:List AV) (ps:List (Nat×Nat×Opd))
 | buildSl (s:Nat) (xs:List Opd)
 | load (g:Bool) (s:Nat) (a:Opd)
 | store (slc:List (Option Nat)) (s:Nat) (a x:Opd)
 | nilCheck (x:Opd)
 | bin (op:BinOp) (eq:Bool) (x y:Opd)
 | un (op:UnOp) (x:Opd)
 | eqA (neg:Bool) (ks:List Nat) (x y:Opd)
 | convI (k:IntKind) (x:Opd)
 | convS (x:Opd)
 | fn (f:Nat) (caps:List Opd)
 | make (s b:Nat) (z:D) (l c:Opd)
 | slice (s:Nat) (x:Opd) (lo hi:Option Opd)
 | sliceS (x:Opd) (lo hi:Option Opd)
 | slice0 (x hi mx:Opd)
 | shift (off:Nat) (x:Opd)
 | part (g:Bool) (s off:Nat) (x:Opd)
 | iaS (s:Nat) (x i:Opd)
 | iaA (len s:Nat) (x i:Opd)
 | ixS (x i:Opd)
 | ixA (g:Bool) (s len:Nat) (x i:Opd)
 | nth (i:Nat) (x:Opd)
 | len (x:Opd)
 | lenS (x:Opd)
 | append (s b:Nat) (str flat:Bool) (x y:Opd)
 | min (x y:Opd)
 | max (x y:Opd)
 | call (f:Opd) (as:List Opd)
 | slice3 (s:Nat) (x lo hi mx:Opd)
 | clear (s:Nat) (z:D) (x:Opd)
 | stuck
 | buildDp (s n:Nat) (xs:List Opd)
 | appDp (s b:Nat) (flat:Bool) (x y:Opd)
 | asgDp (s n:Nat) (x:Opd)
structure CO where
 dst:Option Nat
 guard:Option (Nat×Bool)
 op:COp
 tl:Bool
def Zd0 (C:Orc) (M:Zu) (hp:Hp) (base:Nat) (as:List AV):AV→Option Zf
 | .clo g caps=>Zde C (M g) hp base g (as++caps)
 | _=>none
noncomputable def vop (C:Orc) (M:Zu) (sl:Sl) (hp:Hp) (base:Nat):COp→Option Zf
 | .move x=>Qs (evO sl x)
 | .assign s x=>Zew base s (evO sl x)
 | .pick c a b=>ZgE (evO sl a) (evO sl b) (evO sl c)
 | .alloc slc cs=>Zgd slc base cs
 | .box x=>Zw3 base (evO sl x)
 | .build zs ps=>ZpE zs (evP sl ps)
 | .buildSl s xs=>buildSl hp base s (evL sl xs)
 | .load g s a=>Ut (JU hp g s (evO sl a))
 | .store slc s a x=>Zhk (ZbR hp slc s base (evO sl x).cells (evO sl a))
 | .nilCheck x=>ZaX (evO sl x)
 | .bin op eq x y=>Zfp op eq (evO sl x) (evO sl y)
 | .un op x=>Ut (vun op (evO sl x))
 | .eqA neg ks x y=>ZrA neg ks (evO sl x) (evO sl y)
 | .convI k x=>convI k (evO sl x)
 | .convS x=>convS (evO sl x)
 | .fn f cs=>Ut (cloV f (evL sl cs))
 | .make s b z l c=>bnd (idx (evO sl l)) fun l=>bnd (idx (evO sl c)) fun c=>ZpG base s b z l c
 | .slice s x lo hi=>Ut (Us hp s (evM sl lo) (evM sl hi) (evO sl x))
 | .sliceS x lo hi=>Ut (sliceS (evM sl lo) (evM sl hi) (evO sl x))
 | .slice0 x hi mx=>Ut (slice0 hp (evO sl x) (idx (evO sl hi)) (idx (evO sl mx)))
 | .shift off x=>WN off (evO sl x)
 | .part g s off x=>Ut (Zlu g s off (evO sl x))
 | .iaS s x i=>bnd (idx (evO sl i)) fun n=>ZhB hp s (evO sl x) n
 | .iaA len s x i=>bnd (idx (evO sl i)) fun n=>ZnO (evO sl x) n len s
 | .ixS x i=>bnd (idx (evO sl i)) fun n=>Zvv n (evO sl x)
 | .ixA g s len x i=>bnd (idx (evO sl i)) fun n=>Zw5 g s len n (evO sl x)
 | .nth i x=>ZtR i (evO sl x)
 | .len x=>bnd (ZeR hp (evO sl x)) fun n=>Qs (.d (.int .i64 n))
 | .lenS x=>bnd (Zyr (evO sl x)) fun n=>Qs (.d (.int .i64 n))
 | .append s b str flat x y=>ZtS hp s b str flat base (evO sl x) (evO sl y)
 | .min x y=>Zlx (evO sl x) (evO sl y)
 | .max x y=>Zly (evO sl x) (evO sl y)
 | .call f as=>Zd0 C M hp base (evL sl as) (evO sl f)
 | .slice3 _ x lo hi mx=>Ut (slice3 hp (evO sl x) (idx (evO sl lo)) (idx (evO sl hi)) (idx (evO sl mx)))
 | .clear s z x=>Zhk (ZeV hp s z (evO sl x))
 | .stuck=>none
 | .buildDp s n xs=>buildDp hp base s n (evL sl xs)
 | .appDp s b _ x y=>ZrB hp s b base (evO sl x) (evO sl y)
 | .asgDp s n x=>asgDp base s n (evO sl x)
section
variable (P:Program)
def Vn (t:TypeId):Option TypeId:=match P.underlying t with
 | some (.slice e)=>some e
 | _=>none
def ZbT (t:TypeId):Bool:=match P.underlying t with
 | some .string=>true
 | _=>false
def Zi3 (t:TypeId):Bool:=match P.underlying t with
 | some .bool=>true
 | _=>false
def Zy2 (t:TypeId):Option IntKind:=match P.underlying t with
 | some (.int k)=>some k
 | _=>none
def ZkK (t:TypeId):Option (Nat×TypeId):=match P.underlying t with
 | some (.array n e)=>some (n,e)
 | _=>none
def Zfr (t:TypeId):Option Bool:=match P.underlying t with
 | some (.struct _)=>some true
 | some (.array _ _)=>some true
 | some _=>some false
 | none=>none
def ZhC (s:TypeId) (f:Nat):Option (Nat×TypeId):=match P.underlying s with
 | some (.struct fs)=>match fs[f]? with
  | some x=>if P.cellsOf x.type=0 then none else some (x.offset,x.type)
  | none=>none
 | _=>none
def Zdf (t:TypeId):Option Value:=match P.info? t with
 | some i=>i.zero
 | none=>none
def Zyb:Nat→TypeId→List TypeId
 | 0,t=>[t]
 | n+1,t=>match P.underlying t with
  | some (.struct fs)=>fs.toList.flatMap fun f=>Zyb n f.type
  | some (.array k e)=>(List.replicate k (Zyb n e)).flatten
  | _=>[t]
def slcT (t:TypeId):List (Option Nat):=(Zyb P 4 t).map fun c=>(Vn P c).map P.cellsOf
def flatE (t:TypeId):Bool:=(Zyb P 4 t).all fun c=>match P.underlying c with
 | some (.int _)=>true
 | some .bool=>true
 | some .string=>true
 | _=>false
def Zd1:Nat→TypeId→Nat→Option (List (Nat×Nat))
 | 0,_,_=>none
 | n+1,t,off=>match P.underlying t with
  | some (.int _)=>if P.cellsOf t=1 then some [(off,0)] else none
  | some .bool=>if P.cellsOf t=1 then some [(off,1)] else none
  | some .string=>if P.cellsOf t=1 then some [(off,2)] else none
  | some (.struct fs)=>if P.stoodInHeld t then none else
    bnd (QV (fun f:Field=>if f.name = "_"∨P.cellsOf t<f.offset+P.cellsOf f.type then none else Zd1 n f.type (off+f.offset)) fs.toList) fun ls=>some ls.flatten
  | _=>none
def YD (t:TypeId):Bool:=match P.underlying t with
 | some (.struct _)=>true
 | _=>false
def Zvw (t:TypeId):Option (List Nat):=bnd (Zd1 P 5 t 0) fun ls=>
 if ls.map (·.1)=List.range (P.cellsOf t)∧YD P t=true∧P.eqGuardType P.depth t=false then some (ls.map (·.2)) else none
def Zvx (neg:Bool) (op:BinOp) (t:TypeId) (x y:Opd):Option (List Nat)→COp
 | some ks=>.eqA neg ks x y
 | none=>.bin op (Zi3 P t) x y
def Zw6 (op:BinOp) (t:TypeId) (x y:Opd):COp:=match op with
 | .eql=>Zvx P false .eql t x y (Zvw P t)
 | .neq=>Zvx P true .neq t x y (Zvw P t)
 | op=>.bin op (Zi3 P t) x y
end
section
variable (P:Program)
def Qb:Operand→Option Opd
 | .tmp t=>some (.t t)
 | .const v=>some (.v (evC v))
 | .global _=>none
 | .func f=>some (.f f)
def Zvy (pl:Nat→Option (Nat×Nat)) (q:Nat×Operand):Option (Nat×Nat×Opd):=bnd (pl q.1) fun p=>bnd (Qb q.2) fun x=>some (p.1,p.2,x)
def cOO:Option Operand→Option (Option Opd)
 | none=>some none
 | some x=>bnd (Qb x) fun y=>some (some y)
def Zge (t:TypeId):Option (Nat×TypeId)→Nat→Option (Nat×Nat)
 | none,i=>bnd (ZhC P t i) fun q=>some (q.1,P.cellsOf q.2)
 | some a,i=>some (i*P.cellsOf a.2,P.cellsOf a.2)
def ZaB (t:TypeId):Bool:=match P.info? t with
 | some i=>(match i.zero with
  | some z=>z.cells.size==i.size&&decide (0<i.size)
  | none=>false)
 | none=>false
def Zlz (t:TypeId):Bool:=match P.underlying t with
 | some (.struct fs)=>fs.toList.all fun f=>(P.info? f.type).isSome
 | some (.array _ e)=>(P.info? e).isSome
 | _=>false
def ZnP (e:TypeId) (u:TypeId):Option Bool:=match Vn P u with
 | some e'=>if e'=e then some false else none
 | none=>if ZbT P u then some true else none
def ZpH (x i:Opd) (a:Option (Nat×TypeId)):Option TypeId→Option COp
 | some e=>if (P.info? e).isSome then some (.iaS (P.cellsOf e) x i) else none
 | none=>bnd a fun a=>if (P.info? a.2).isSome then some (.iaA a.1 (P.cellsOf a.2) x i) else none
def ZtT (x i:Opd) (str:Bool) (a:Option (Nat×TypeId)):Option COp:=
 if str then some (.ixS x i) else bnd a fun a=>bnd (Zfr P a.2) fun g=>some (.ixA g (P.cellsOf a.2) a.1 x i)
def Zyc (x:Opd) (ss sd:Bool):Option IntKind→Option IntKind→Option COp
 | some _,some k=>some (.convI k x)
 | _,_=>if ss&&sd then some (.convS x) else none
def cLen (x:Opd) (str:Bool):Option TypeId→Option COp
 | some _=>some (.len x)
 | none=>if str then some (.lenS x) else none
def Zw7 (x:Opd) (lo hi:Option Opd) (str:Bool):Option TypeId→Option COp
 | some e=>if (P.info? e).isSome then some (.slice (P.cellsOf e) x lo hi) else none
 | none=>if str then some (.sliceS x lo hi) else none
def Zfs:Builtin→List Operand→List TypeId→Option COp
 | .len,[x],[t]=>bnd (Qb x) fun x=>cLen x (ZbT P t) (Vn P t)
 | .append,[s,x],[t,u]=>bnd (Vn P t) fun e=>bnd (ZnP P e u) fun str=>bnd (Qb s) fun s=>bnd (Qb x) fun x=>
   if ZaB P e then some (.append (P.cellsOf e) (P.bytesOf e) str (flatE P e) s x) else none
 | .min,[x,y],_=>bnd (Qb x) fun x=>bnd (Qb y) fun y=>some (.min x y)
 | .max,[x,y],_=>bnd (Qb x) fun x=>bnd (Qb y) fun y=>some (.max x y)
 | .clear,[x],[t]=>bnd (Vn P t) fun e=>bnd (Qb x) fun x=>bnd (Zdf P e) fun z=>bnd (evD z) fun z=>if ZaB P e then some (.clear (P.cellsOf e) z x) else none
 | _,_,_=>none
def cOp (ty:TypeId):Op→Option COp
 | .move x=>bnd (Qb x) fun x=>some (.move x)
 | .assign x=>bnd (Qb x) fun x=>some (.assign (bnd (Vn P ty) fun e=>some (P.cellsOf e)) x)
 | .pick c a b=>bnd (Qb c) fun c=>bnd (Qb a) fun a=>bnd (Qb b) fun b=>some (.pick c a b)
 | .alloc t=>bnd (Zdf P t) fun z=>some (.alloc (slcT P t) (evC z).cells)
 | .box _ x=>bnd (Qb x) fun x=>some (.box x)
 | .build t ps=>bnd (Zdf P t) fun z=>bnd (QV (Zvy (Zge P t (ZkK P t))) ps.toList) fun qs=>if Zlz P t then some (.build (evC z).cells qs) else none
 | .buildSlice t n ps=>bnd (Vn P t) fun e=>bnd (QV (fun q:Nat×Operand=>Qb q.2) ps.toList) fun xs=>
   if ps.toList.map (·.1)=List.range n∧n*P.cellsOf e≤16777216∧ZaB P e then some (.buildSl (P.cellsOf e) xs) else none
 | .load t a=>bnd (Zfr P t) fun g=>bnd (Qb a) fun a=>some (.load g (P.cellsOf t) a)
 | .store t a x=>bnd (Qb a) fun a=>bnd (Qb x) fun x=>if (P.info? t).isSome then some (.store (slcT P t) (P.cellsOf t) a x) else none
 | .nilCheck x=>bnd (Qb x) fun x=>some (.nilCheck x)
 | .binOp op t x y _=>bnd (Qb x) fun x=>bnd (Qb y) fun y=>some (Zw6 P op t x y)
 | .unOp op _ x=>bnd (Qb x) fun x=>some (.un op x)
 | .convert s d x=>bnd (Qb x) fun x=>Zyc x (ZbT P s) (ZbT P d) (Zy2 P s) (Zy2 P d)
 | .makeFunc (.func f) fs cs=>if fs.toList.isEmpty then bnd (QV Qb cs.toList) fun cs=>some (.fn f cs) else none
 | .makeSlice t l c=>bnd (Vn P t) fun e=>bnd (Qb l) fun l=>bnd (Qb c) fun c=>bnd (Zdf P e) fun z=>bnd (evD z) fun z=>if ZaB P e then some (.make (P.cellsOf e) (P.bytesOf e) z l c) else none
 | .slice t x lo hi none=>bnd (Qb x) fun x=>bnd (cOO lo) fun lo=>bnd (cOO hi) fun hi=>Zw7 P x lo hi (ZbT P t) (Vn P t)
 | .slice t x none (some hi) (some mx)=>bnd (Vn P t) fun e=>if (P.info? e).isSome then bnd (Qb x) fun x=>bnd (Qb hi) fun hi=>bnd (Qb mx) fun mx=>some (.slice0 x hi mx) else none
 | .slice t x (some lo) (some hi) (some mx)=>bnd (Vn P t) fun e=>if (P.info? e).isSome then bnd (Qb x) fun x=>bnd (Qb lo) fun lo=>bnd (Qb hi) fun hi=>bnd (Qb mx) fun mx=>some (.slice3 (P.cellsOf e) x lo hi mx) else none
 | .fieldAddr s x f=>bnd (ZhC P s f) fun q=>bnd (Qb x) fun x=>some (.shift q.1 x)
 | .field t x f=>bnd (ZhC P t f) fun q=>bnd (Zfr P q.2) fun g=>bnd (Qb x) fun x=>some (.part g (P.cellsOf q.2) q.1 x)
 | .indexAddr t x i=>bnd (Qb x) fun x=>bnd (Qb i) fun i=>ZpH P x i (ZkK P t) (Vn P t)
 | .index t x i=>bnd (Qb x) fun x=>bnd (Qb i) fun i=>ZtT P x i (ZbT P t) (ZkK P t)
 | .extract x i=>bnd (Qb x) fun x=>some (.nth i x)
 | .call { callee:=.builtin b,args:=as,argTypes:=ts }=>Zfs P b as.toList ts.toList
 | .call { callee:=.value f,args:=as,argTypes:=_ }=>bnd (Qb f) fun f=>bnd (QV Qb as.toList) fun as=>some (.call f as)
 | _=>none
def ZpI (ops:List Oper):Option (Nat×Bool)→Option (Option (Nat×Bool))
 | none=>some none
 | some q=>bnd ops[q.1]? fun g=>bnd g.dst fun t=>some (some (t,q.2))
def XA (nt:Nat):Option Nat→Bool
 | none=>true
 | some t=>decide (t<nt)
def Uz (ops:Array Oper) (i:Nat):List Nat:=match ops[i]? with
 | some o=>(o.after.toList.filter fun e=>Region.binds .any e).map fun e=>e.on
 | none=>[]
def ZkL (ops:Array Oper):Nat→Nat→Nat→Bool
 | 0,i,j=>(Uz ops i).contains j
 | n+1,i,j=>(Uz ops i).contains j || (Uz ops i).any fun z=>ZkL ops n z j
def startO:Op→Bool
 | .call { callee:=.builtin .append,args:=_,argTypes:=_ }=>true
 | .buildSlice _ _ _=>true
 | _=>false
def callO:Op→Bool
 | .call { callee:=.value (.func _),args:=_,argTypes:=_ }=>true
 | _=>false
def ZAb:Op→Bool
 | .move _=>true
 | _=>false
def aheadO:Op→Bool
 | .store _ _ _=>false
 | .box _ _=>false
 | .assign _=>false
 | .makeFunc _ _ _=>false
 | .makeSlice _ _ _=>false
 | .call { callee:=.builtin .append,args:=_,argTypes:=_ }=>false
 | .call { callee:=.value _,args:=_,argTypes:=_ }=>false
 | _=>true
def ZCg:Op→Bool
 | .move _=>true
 | .alloc _=>true
 | .buildSlice _ _ _=>true
 | .load _ _=>true
 | .nilCheck _=>true
 | .binOp _ _ _ _ _=>true
 | .unOp _ _ _=>true
 | .convert _ _ _=>true
 | .fieldAddr _ _ _=>true
 | .indexAddr _ _ _=>true
 | .slice _ _ _ _ _=>true
 | .call { callee:=.builtin .len,args:=_,argTypes:=_ }=>true
 | _=>false
def appO:Op→Bool
 | .call { callee:=.builtin .append,args:=_,argTypes:=_ }=>true
 | _=>false
def lookO:Op→Bool
 | .move _=>true
 | .load _ _=>true
 | .nilCheck _=>true
 | .binOp _ _ _ _ _=>true
 | .convert _ _ _=>true
 | .fieldAddr _ _ _=>true
 | .field _ _ _=>true
 | .extract _ _=>true
 | .indexAddr _ _ _=>true
 | .slice _ _ _ _ _=>true
 | .call { callee:=.builtin .len,args:=_,argTypes:=_ }=>true
 | _=>false
def atO (f:Op→Bool) (ops:List Oper) (k:Nat):Bool:=match ops[k]? with
 | some o=>f o.op
 | none=>false
def firmAt (ops:List Oper) (i:Nat):Bool:=
 (List.range ops.length).all fun k=>if k<i then ZkL ops.toArray 6 i k || atO ZAb ops k else k==i || ZkL ops.toArray 6 k i || atO ZAb ops k
def firmP (ops:List Oper) (i:Nat):Bool:=
 (List.range ops.length).all fun k=>if k<i then ZkL ops.toArray 6 i k || atO lookO ops k else k==i || ZkL ops.toArray 6 k i || atO ZAb ops k
def firmC (ops:List Oper) (i:Nat):Bool:=
 (List.range ops.length).all fun k=>if k<i then ZkL ops.toArray 6 i k || atO aheadO ops k else k==i || ZkL ops.toArray 6 k i || atO ZCg ops k
def ZpJ (ops:List Oper) (o:Oper):Nat:=ops.findIdx fun x=>x.dst==o.dst
def firm (ops:List Oper) (o:Oper):Bool:=(startO o.op&&firmAt ops (ZpJ ops o)) || (callO o.op&&firmC ops (ZpJ ops o)) || (appO o.op&&firmP ops (ZpJ ops o))
def Zao:Option COp→COp
 | some c=>c
 | none=>.stuck
def ZnQ (nt:Nat) (ops:List Oper) (o:Oper):Option CO:=bnd (ZpI ops o.guard) fun g=>
 if XA nt o.dst then some { dst:=o.dst,guard:=g,op:=Zao (cOp P o.type o.op),tl:=firm ops o } else none
end
end Go.Abs
