/- Own text. -/
import Derived.Test.YtcefneehgbiebaaGreatDoorAbsBase
set_option linter.unusedVariables false
set_option linter.unusedSimpArgs false
namespace Go.Abs
open Go
def mat:List (Option Nat)→List AV→Nat→List AV×Hp
 | some s :: ts,.nil :: vs,b=>let r:=mat ts vs (b+1);(.own b :: r.1,(b,.row s [] true false) :: r.2)
 | _ :: ts,v :: vs,b=>let r:=mat ts vs b;(v :: r.1,r.2)
 | _,vs,_=>(vs,[])
def Zll:List AV→Bool
 | []=>false
 | .nil :: _=>true
 | _ :: r=>Zll r
structure Eff where
 val:AV
 adds:Hp:=[]
 sets:Hp:=[]
 dels:List Nat:=[]
 frz:List Nat:=[]
def Zh:Hp→Hp→Hp
 | hp,[]=>hp
 | hp,(k,o) :: r=>Zh (ins hp k o) r
def del:Hp→Nat→Hp
 | [],_=>[]
 | (k,o) :: r,t=>if k=t then del r t else (k,o) :: del r t
def Qs:Hp→List Nat→Hp
 | hp,[]=>hp
 | hp,k :: r=>Qs (del hp k) r
def Qi (ids:List Nat) (hp:Hp):Hp:=match ids with
 | []=>hp
 | _=>freeze ids hp
def Eff.on (e:Eff) (hp:Hp):Hp:=Zh (Zh (Qs (Qi e.frz hp) e.dels) e.sets) e.adds
def ZzS:List AV→Nat→List AV→List AV
 | cs,_,[]=>cs
 | cs,off,v :: r=>ZzS (cs.set off v) (off+1) r
def ZmH:List AV→List (Nat×Nat×AV)→Option (List AV)
 | cells,[]=>some cells
 | cells,q :: r=>if q.2.2.solid∧q.2.2.cells.length=q.2.1∧q.1+q.2.1≤cells.length then ZmH (ZzS cells q.1 q.2.2.cells) r else none
def AV.atom:AV→Bool
 | .d x=>x.one
 | .agg _=>false
 | .tup _=>false
 | .clo _ _=>false
 | _=>true
def Zh7:List AV→Bool
 | []=>true
 | v :: r=>v.atom&&Zh7 r
def cloV (f:Nat) (cs:List AV):Option AV:=if Zh7 cs then some (.clo f cs) else none
def Zj8:AV→AV
 | .bbuf _ _=>.junk
 | v=>v
def Zbv (agg:Bool) (s off:Nat):Option Zm→Option AV
 | some (.box cs)=>if agg then (if off+s≤cs.length then some (J1 ((cs.drop off).take s)) else none) else (cs[off]?).map Zj8
 | _=>none
def Zeh (agg:Bool) (s off:Nat) (cs:List D):Option AV:=
 if agg then (if off+s≤cs.length then some (.d (.agg ((cs.drop off).take s))) else none) else asD cs[off]?
def Zj9 (agg:Bool) (s sz off:Nat) (x:D):Option AV:=if x.cells.length=sz then Zeh agg s off x.cells else none
def ZvK (id i off:Nat):Option (Nat×Nat×Nat)→Option AV
 | some (nm,i',c)=>if i=i'∧off=c then some (.sub id nm) else none
 | none=>none
def Ze1 (id i off:Nat) (lk:Option (Nat×Nat×Nat)) (x:D):Option AV:=match x.cells[off]? with
 | some (.sl _)=>ZvK id i off lk
 | some y=>if y.plain then some (.d y) else none
 | none=>none
def Zbw (id:Nat) (agg:Bool) (s sz i off:Nat):Option Zm→Option AV
 | some (.row sz' xs _ _)=>if sz=sz' then bnd xs[i]? (Zj9 agg s sz off) else none
 | some (.deep sz' _ xs lk)=>if sz=sz' then (if agg then none else bnd xs[i]? (Ze1 id i off lk)) else none
 | _=>none
def UV (hp:Hp) (agg:Bool) (s:Nat):AV→Option AV
 | .ptr id off=>Zbv agg s off (lkp hp id)
 | .prow id sz i off=>Zbw id agg s sz i off (lkp hp id)
 | .pim cs=>Zeh agg s 0 cs
 | _=>none
def Zt3:AV→Option D
 | .d x=>if x.plain then some x else none
 | _=>none
def ZvL:List AV→Option (List D)
 | []=>some []
 | v :: r=>bnd (Zt3 v) fun x=>bnd (ZvL r) fun ds=>some (x :: ds)
def Ze2 (slc:List (Option Nat)) (s base id off:Nat) (vs:List AV):Option Zm→Option Eff
 | some (.box cs)=>if vs.length=s∧off+s≤cs.length∧Ym vs∧XY cs=true then
    (if Zll vs then some { val := .junk, adds := (mat slc vs base).2, sets := [(id, .box (Qe cs off (mat slc vs base).1))] }
      else some { val:=.junk,sets:=[(id,.box (Qe cs off vs))] })
   else none
 | _=>none
def D.notSl:D→Bool
 | .sl _=>false
 | _=>true
def Ze3 (s id sz i off:Nat) (xs:List D) (ex:Bool) (x:D) (q:List D×Bool×List Nat):Option Eff:=
 if x.notSl∧x.cells.length=sz∧q.1.length=s∧off+s≤sz∧q.2.2.contains id=false then
  some { val:=.junk,sets:=[(id,.row sz (xs.set i (ZfC x off q.1)) (ex&&q.2.1) false)],frz:=q.2.2 } else none
def Zc3 (hp:Hp) (s id sz i off:Nat) (vs:List AV):Option Zm→Option Eff
 | some (.row sz' xs ex false)=>if sz=sz' then bnd xs[i]? fun x=>bnd (WF hp vs) fun q=>Ze3 s id sz i off xs ex x q else none
 | _=>none
def Za7 (hp:Hp) (slc:List (Option Nat)) (s base:Nat) (vs:List AV):AV→Option Eff
 | .ptr id off=>Ze2 slc s base id off vs (lkp hp id)
 | .prow id sz i off=>Zc3 hp s id sz i off vs (lkp hp id)
 | _=>none
def uni (s:Nat) (ys:List D):Prop:=∀ y∈ys,y.cells.length=s
def ZU:Nat:=140737488355328
def QH (ys:List D):Prop:=∀ y∈ys,y.flat=true
def Zt4 (flat:Bool):Option Zm→Option (List D×Bool)
 | some (.row _ ys ex _)=>some (ys,ex || flat)
 | _=>none
def ZoY:AV→Option (List D×Bool)
 | .d (.str s)=>some (s.map fun b=>.int .u8 b.toNat,true)
 | _=>none
def Zoe (flat:Bool) (off n:Nat):Option Zm→Option (List D×Bool)
 | some (.row _ ys ex _)=>some ((ys.drop off).take n,ex || flat)
 | _=>none
def Ze4 (hp:Hp) (flat:Bool):AV→Option (List D×Bool)
 | .nil=>some ([],true)
 | .d (.sl ys)=>some (ys,flat)
 | .own id=>Zt4 flat (lkp hp id)
 | .ownv id off n=>Zoe flat off n (lkp hp id)
 | _=>none
def Zg7 (sz base:Nat) (dels:List Nat) (xs:List D) (ex:Bool):Eff:=
 { val:=.own base,adds:=[(base,.row sz xs ex false)],dels:=dels }
def Zlm (sz by_ base id:Nat) (ys:List D) (ex' : Bool):Option Zm→Option Eff
 | some (.row sz' xs ex false)=>if sz'=sz∧(xs.length+ys.length)*by_≤ZU∧xs.length+ys.length≤ZU then some (Zg7 sz base [id] (xs++ys) (ex&&ex')) else none
 | _=>none
def Zh8 (sz by_ base id n:Nat) (ys:List D) (ex' : Bool):Option Zm→Option Eff
 | some (.row sz' xs ex false)=>if sz'=sz∧(n+ys.length)*by_≤ZU∧n+ys.length≤ZU then some (Zg7 sz base [id] (xs.take n++ys) (ex&&ex')) else none
 | _=>none
def Zh9 (sz base id n:Nat) (ys:List D) (ex' : Bool):Option Zm→Option Eff
 | some (.row sz' xs ex false)=>if sz'=sz∧0<xs.length∧n+ys.length≤xs.length then
   some { val:=.ownv base 0 (n+ys.length),adds:=[(base,.row sz (xs.take n++ys++xs.drop (n+ys.length)) (ex&&ex') false)],dels:=[id] } else none
 | _=>none
def Zg8 (hp:Hp) (sz by_:Nat) (base:Nat) (src:List Nat) (ys:List D) (ex' : Bool):AV→Option Eff
 | .nil=>if ys.length*by_≤ZU∧ys.length≤ZU then some (Zg7 sz base [] ys ex') else none
 | .own id=>if src.contains id then none else Zlm sz by_ base id ys ex' (lkp hp id)
 | .ownv id off n=>if off≠0 then none else if src.contains id then Zh9 sz base id n ys ex' (lkp hp id) else Zh8 sz by_ base id n ys ex' (lkp hp id)
 | _=>none
open Classical in
noncomputable def Ui (hp:Hp) (sz by_:Nat) (str flat:Bool) (base:Nat) (s x:AV):Option Eff:=
 bnd (if str then ZoY x else Ze4 hp flat x) fun q=>if uni sz q.1∧(flat=true→QH q.1) then Zg8 hp sz by_ base (Zck x) q.1 q.2 s else none
def idx (i:AV):Option Int:=match i with
 | .d (.int _ n)=>some n
 | _=>none
def ZyK (sz:Nat) (y:D):Option AV:=if y.cells.length=sz then some (.pim y.cells) else none
def ZdX (sz id n:Nat):Option Zm→Option AV
 | some (.row sz' xs _ _)=>if sz'=sz∧n<xs.length then some (.prow id sz n 0) else none
 | some (.deep sz' _ xs _)=>if sz'=sz∧n<xs.length then some (.prow id sz n 0) else none
 | _=>none
def Zc4 (sz id off m n:Nat):Option Zm→Option AV
 | some (.row sz' _ _ _)=>if sz'=sz∧n<m then some (.prow id sz (off+n) 0) else none
 | _=>none
def QB (hp:Hp) (sz n:Nat):AV→Option AV
 | .d (.sl xs)=>bnd xs[n]? (ZyK sz)
 | .own id=>ZdX sz id n (lkp hp id)
 | .ownv id off m=>Zc4 sz id off m n (lkp hp id)
 | _=>none
def bd (m:Nat) (v:AV):Option Nat:=bnd (idx v) fun n=>if 0≤n∧n≤m then some n.toNat else none
def hiOf (len:Nat):Option AV→Option Nat
 | none=>some len
 | some v=>bd len v
def loOf (h:Nat):Option AV→Option Nat
 | none=>some 0
 | some v=>bd h v
def Zt5 (len:Nat) (lo hi:Option AV):Option (Nat×Nat):=bnd (hiOf len hi) fun h=>bnd (loOf h lo) fun l=>some (l,h)
def ZvM (id n:Nat):Option AV→Option AV→Option AV
 | none,none=>some (.own id)
 | lo,hi=>bnd (Zt5 n lo hi) fun b=>some (.ownv id b.1 (b.2-b.1))
def Zc5 (s id:Nat) (lo hi:Option AV):Option Zm→Option AV
 | some (.row sz xs _ _)=>if sz=s then ZvM id xs.length lo hi else none
 | _=>none
def ZA4 (n m:Nat) (lo:Option AV):Option AV→Option (Nat×Nat)
 | none=>Zt5 n lo none
 | some h=>Zt5 m lo (some h)
def Za8 (s id off n:Nat) (lo hi:Option AV):Option Zm→Option AV
 | some (.row sz xs _ _)=>if sz=s then bnd (ZA4 n (xs.length-off) lo hi) fun b=>some (.ownv id (off+b.1) (b.2-b.1)) else none
 | _=>none
def slice3 (hp:Hp) (x:AV) (lo hi mx:Option Int):Option AV:=bnd lo fun l=>bnd hi fun h=>bnd mx fun m=>bnd (Zef hp x) fun n=>
 if 0≤l∧l≤h∧h≤m∧m≤n then some .junk else none
def Zg9 (s id off n:Nat) (z:D):Option Zm→Option Eff
 | some (.row sz xs ex false)=>if sz=s∧z.cells.length=s∧off+n≤xs.length then some { val:=.tup [],sets:=[(id,.row sz (xs.take off++List.replicate n z++xs.drop (off+n)) ex false)] } else none
 | _=>none
def Zei (hp:Hp) (s:Nat) (z:D):AV→Option Eff
 | .ownv id off n=>Zg9 s id off n z (lkp hp id)
 | _=>none
open Classical in
noncomputable def WA (hp:Hp) (s:Nat) (lo hi:Option AV):AV→Option AV
 | .d (.sl xs)=>if uni s xs then bnd (Zt5 xs.length lo hi) fun b=>some (.d (.sl ((xs.take b.2).drop b.1))) else none
 | .nil=>bnd (Zt5 0 lo hi) fun _=>some .nil
 | .own id=>Zc5 s id lo hi (lkp hp id)
 | .ownv id off n=>Za8 s id off n lo hi (lkp hp id)
 | _=>none
def sliceS (lo hi:Option AV):AV→Option AV
 | .d (.str s)=>bnd (Zt5 s.length lo hi) fun b=>some (.d (.str ((s.take b.2).drop b.1)))
 | _=>none
def slice0 (hp:Hp) (x:AV) (hi mx:Option Int):Option AV:=match hi,mx with
 | some 0,some 0=>bnd (Zef hp x) fun _=>some .nil
 | _,_=>none
def Zka (agg:Bool) (s off:Nat):AV→Option AV
 | .d (.agg cs)=>Zeh agg s off cs
 | .agg cs=>if agg then (if off+s≤cs.length then some (J1 ((cs.drop off).take s)) else none) else cs[off]?
 | _=>none
abbrev Orc:=Nat→List AV→List Zm→Option (AV×List Zm)
abbrev Zp:=Nat→Nat→Bool
def ZfL (hp:Hp) (id:Nat):Bool→Option AV
 | true=>some (.own id)
 | false=>asD (Ziu hp (.own id))
def Zha:Bool→Option AV
 | true=>some .nil
 | false=>some (.d (.sl []))
def Zej (hp:Hp) (m:Bool):AV→Option AV
 | .ptr a b=>some (.ptr a b)
 | .clo f c=>some (.clo f c)
 | .nilp=>some .nilp
 | .nili=>some .nili
 | .pim c=>some (.pim c)
 | .own id=>ZfL hp id m
 | .nil=>Zha m
 | .d x=>some (.d x)
 | v=>asD (toD hp v)
def args (hp:Hp) (m:Nat→Bool):Nat→List AV→Option (List AV)
 | _,[]=>some []
 | i,v :: r=>bnd (Zej hp (m i) v) fun a=>bnd (args hp m (i+1) r) fun as=>some (a :: as)
def J6 (hp:Hp) (go:List Nat→List Nat→List Nat) (id:Nat) (todo acc:List Nat):Option Zm→List Nat
 | some o=>go (todo++ZbH o) (acc++[id])
 | none=>go todo acc
def QM (hp:Hp):Nat→List Nat→List Nat→List Nat
 | 0,_,acc=>acc
 | _+1,[],acc=>acc
 | n+1,id :: todo,acc=>if acc.contains id then QM hp n todo acc else J6 hp (QM hp n) id todo acc (lkp hp id)
def WH:List Nat→Nat→Nat
 | [],_=>0
 | x :: r,t=>if x=t then 0 else WH r t+1
def Zkb:Option Zm→Zm
 | some o=>o
 | none=>.row 0 [] true false
def Zc6 (hp:Hp):List Nat→List Zm
 | []=>[]
 | id :: r=>Zkb (lkp hp id) :: Zc6 hp r
def J7 (ids:List Nat) (o:Zm):Zm:=Zm5 (WH ids) (XZ ((ZbH o).filter fun i=>!ids.contains i) o)
def Vb:Option Zm→Bool
 | some (.row _ _ _ _)=>true
 | some (.deep _ _ _ _)=>true
 | _=>false
def Zc7:AV→Bool
 | .d x=>x.flat
 | .pim _=>false
 | .agg _=>false
 | .tup _=>false
 | .clo _ _=>false
 | _=>true
def Zek:AV→Bool
 | .agg cs=>cs.all Zc7
 | .clo _ cs=>cs.all Zc7
 | v=>Zc7 v
def ZsQ:AV→Bool
 | .tup vs=>vs.all Zek
 | v=>Zek v
def Zjc:Zm→Bool
 | .box cs=>cs.all Zek
 | .row _ _ ex fz=>ex&&!fz
 | .deep _ _ _ _=>true
def Zjd (d:Nat):Option Nat→Nat
 | some i=>i
 | none=>d
def WW (ids:List Nat) (base k:Nat):Nat:=Zjd (base+(k-ids.length)) ids[k]?
def Zc8 (g:Nat→Nat):List Nat→List Zm→Hp
 | id :: ids,o :: os=>(id,Zm5 g o) :: Zc8 g ids os
 | _,_=>[]
def Zc9 (g:Nat→Nat):Nat→List Zm→Hp
 | _,[]=>[]
 | k,o :: os=>(k,Zm5 g o) :: Zc9 g (k+1) os
structure Zd where
 eff:Eff
 gone:List Nat
def Xd (_hp:Hp):Nat:=1000
def YY:List AV→List AV→List Nat
 | v :: vs,.d _ :: as=>ZfB v++YY vs as
 | _ :: vs,_ :: as=>YY vs as
 | _,_=>[]
def Zb2:Option Zm→Bool
 | some (.deep _ _ _ _)=>true
 | _=>false
def J8 (hp:Hp) (base:Nat) (ids lent:List Nat) (r:AV) (out:List Zm):Option Zd:=
 if out.length<ids.length then none else if !(ZsQ r&&out.all Zjc)&&lent.any fun i=>Zb2 (lkp hp i) then none else
  some { eff := { val:=ren (WW ids base) r,adds:=Zc9 (WW ids base) base (out.drop ids.length),sets:=Zc8 (WW ids base) ids out,frz:=if ZsQ r&&out.all Zjc then [] else lent },gone:=ids.filter fun i=>Vb (lkp hp i) }
def ZbK:AV→List Nat
 | .ptr id _=>[id]
 | .clo _ cs=>cs.flatMap Zn
 | _=>[]
def Zcy (hp:Hp) (rs ids:List Nat):Bool:=ids.all fun i=>Vb (lkp hp i) || rs.contains i
def ZdY (C:Orc) (hp:Hp) (base f:Nat) (lent:List Nat) (as:List AV) (ids:List Nat):Option Zd:=
 if (as.flatMap ZD).all ids.contains∧¬lent.any ids.contains∧Zcy hp (as.flatMap ZbK) ids=true then
  bnd (C f (as.map (ren (WH ids))) ((Zc6 hp ids).map (J7 ids))) fun q=>J8 hp base ids lent q.1 q.2
 else none
def Zcn (C:Orc) (m:Nat→Bool) (hp:Hp) (base f:Nat) (avs:List AV):Option Zd:=
 bnd (args hp m 0 avs) fun as=>ZdY C hp base f (YY avs as) as (QM hp (Xd hp) (as.flatMap ZD) [])
def QN (v:AV):Option Zd:=some { eff := { val:=v },gone:=[] }
def WB (v:Option AV):Option Zd:=bnd v QN
def ZgO (e:Option Eff):Option Zd:=bnd e fun e=>some { eff:=e,gone:=[] }
def ZdZ (base:Nat) (e:Option Nat):AV→Option Zd
 | .nil=>bnd e fun s=>some { eff := { val:=.own base,adds:=[(base,.row s [] true false)] },gone:=[] }
 | v=>QN v
def ZgF (a b:AV):AV→Option Zd
 | .d (.bool t)=>if t then QN a else QN b
 | _=>none
def Zje (base:Nat):AV→AV
 | .bnil _ e=>.bnil base e
 | v=>v
def bnT (t te:Nat):List AV→List AV
 | [.nilp,.nil]=>[.bnil 0 t,.bbuf te []]
 | cs=>cs
def ZA5:List AV→Bool
 | [.bnil _ _,.bbuf _ []]=>true
 | _=>false
def Zln (slc:List (Option Nat)) (base:Nat) (cs:List AV):Option Zd:=
 if XY cs=false then (if ZA5 cs=true then some { eff := { val:=.ptr base 0,adds:=[(base,.box cs)] },gone:=[] } else none) else
 if Zll cs then some { eff := { val:=.ptr base 0,adds:=(base,.box (mat slc cs (base+1)).1) :: (mat slc cs (base+1)).2 },gone:=[] }
 else some { eff := { val:=.ptr base 0,adds:=[(base,.box cs)] },gone:=[] }
def ZfM (slc:List (Option Nat)) (base:Nat) (cs:List AV):Option Zd:=Zln slc base (cs.map (Zje base))
def Zxr (base:Nat) (x:AV):Option Zd:=if x.solid&&XY x.cells then some { eff := { val:=.ptr base 0,adds:=[(base,.box x.cells)] },gone:=[] } else none
def ZoZ (zs:List AV) (ps:List (Nat×Nat×AV)):Option Zd:=bnd (ZmH zs ps) fun cs=>QN (J1 cs)
def Zxs (base s:Nat) (q:List D×Bool×List Nat):Option Zd:=
 if q.1.all (fun d=>d.cells.length==s) then some { eff := { val:=.own base,adds:=[(base,.row s q.1 q.2.1 false)],frz:=q.2.2 },gone:=[] } else none
def buildSl (hp:Hp) (base s:Nat):List AV→Option Zd
 | []=>QN .nil
 | v :: vs=>bnd (Ug hp (v :: vs)) (Zxs base s)
def Zd0 (hp:Hp) (n:Nat):AV→Option (D×List Nat)
 | .d x=>if x.plain then some (x,[]) else none
 | .nil=>some (.sl [],[])
 | .own id=>deepRow n id (lkp hp id)
 | _=>none
where deepRow (n id:Nat):Option Zm→Option (D×List Nat)
 | some (.row sz xs true false)=>if sz=n∧Zb0 D.flat xs then some (.sl xs,[id]) else none
 | _=>none
def Ze5 (hp:Hp) (n:Nat):List AV→Option (List D×List Nat)
 | []=>some ([],[])
 | v :: r=>bnd (Zd0 hp n v) fun q=>bnd (Ze5 hp n r) fun p=>if !q.2.any p.2.contains then some (q.1 :: p.1,q.2++p.2) else none
def asgDp (base s n:Nat):AV→Option Zd
 | .nil=>some { eff := { val:=.own base,adds:=[(base,.deep s n [] none)] },gone:=[] }
 | _=>none
def buildDp (hp:Hp) (base s n:Nat):List AV→Option Zd
 | [.agg cs]=>bnd (Ze5 hp n cs) fun q=>if q.1.length=s then some { eff := { val:=.own base,adds:=[(base,.deep s n [.agg q.1] none)],dels:=q.2 },gone:=[] } else none
 | _=>none
def J9:AV→Option Zd
 | .ptr a b=>QN (.ptr a b)
 | .prow a b c d=>QN (.prow a b c d)
 | .pim c=>QN (.pim c)
 | .clo f c=>QN (.clo f c)
 | _=>none
def Zm7 (op:BinOp) (eq:Bool):AV→AV→Option Zd
 | .d (.bool a),.d (.bool b)=>if eq then WB (Zso op a b) else none
 | a,b=>WB (vbin op a b)
def ZaW:List Nat→List D→List D→Option Bool
 | [],[],[]=>some true
 | 0 :: ks,.int k a :: cs,.int k' b :: ds=>if k=k' then bnd (ZaW ks cs ds) fun r=>some (decide (a=b)&&r) else none
 | 1 :: ks,.bool a :: cs,.bool b :: ds=>bnd (ZaW ks cs ds) fun r=>some (decide (a=b)&&r)
 | 2 :: ks,.str a :: cs,.str b :: ds=>bnd (ZaW ks cs ds) fun r=>some (decide (a=b)&&r)
 | _,_,_=>none
def Zo0 (neg:Bool) (r:Bool):Bool:=if neg then !r else r
def Zrd (neg:Bool) (ks:List Nat):AV→AV→Option Zd
 | .d (.agg cs),.d (.agg ds)=>bnd (ZaW ks cs ds) fun r=>QN (.d (.bool (Zo0 neg r)))
 | _,_=>none
def convI (k:IntKind):AV→Option Zd
 | .d (.int _ n)=>QN (.d (.int k (k.wrap n)))
 | _=>none
def convS:AV→Option Zd
 | .d (.str s)=>QN (.d (.str s))
 | _=>none
def Zo1 (base s b:Nat) (z:D) (l c:Int):Option Zd:=
 if 0≤l∧l≤c∧c*b≤ZU∧c≤ZU∧z.cells.length=s then
  some { eff := { val:=.own base,adds:=[(base,.row s (List.replicate l.toNat z) true false)] },gone:=[] } else none
def VR (off:Nat):AV→Option Zd
 | .ptr id o=>QN (.ptr id (o+off))
 | .prow id sz i o=>QN (.prow id sz i (o+off))
 | .pim cs=>QN (.pim (cs.drop off))
 | _=>none
def ZmI (x:AV) (n:Int) (len s:Nat):Option Zd:=if 0≤n∧n<len then VR (n.toNat*s) x else none
def Zhb (hp:Hp) (s:Nat) (x:AV) (n:Int):Option Zd:=if 0≤n then WB (QB hp s n.toNat x) else none
def ZsR (s:List UInt8) (n:Int):Option Zd:=if 0≤n then bnd s[n.toNat]? fun b=>QN (.d (.int .u8 b.toNat)) else none
def Zxt (g:Bool) (s len:Nat) (n:Int) (v:AV):Option Zd:=if 0≤n∧n<len then WB (Zka g s (n.toNat*s) v) else none
def ZvN (n:Int):AV→Option Zd
 | .d (.str s)=>ZsR s n
 | _=>none
def Zt6 (i:Nat):AV→Option Zd
 | .tup vs=>WB vs[i]?
 | _=>none
def Zjf:Option Zm→Option (Nat×Nat×List D)
 | some (.deep s n xs _)=>some (s,n,xs)
 | _=>none
def Zd1 (hp:Hp):AV→Option (Nat×Nat×Nat×List D)
 | .own id=>bnd (Zjf (lkp hp id)) fun q=>some (id,q)
 | _=>none
def Zcz (hp:Hp) (s b base id n:Nat) (ys:List D):AV→Option Eff
 | .nil=>if ys.length*b≤ZU∧ys.length≤ZU then some { val:=.own base,adds:=[(base,.deep s n ys none)],dels:=[id] } else none
 | .own id1=>bnd (Zjf (lkp hp id1)) fun q=>if q.1=s∧q.2.1=n∧id1≠id∧(q.2.2.length+ys.length)*b≤ZU∧q.2.2.length+ys.length≤ZU then
   some { val:=.own base,adds:=[(base,.deep s n (q.2.2++ys) none)],dels:=[id1,id] } else none
 | _=>none
def Zkc (xs:List D) (i c:Nat):Option (List D):=bnd xs[i]? fun x=>match x.cells[c]? with
 | some (.sl ys)=>some ys
 | _=>none
open Classical in
noncomputable def Zjg (s b base id nm:Nat) (q:List D×Bool):Option Zm→Option Eff
 | some (.deep sz n xs (some (nm',i,c)))=>bnd (Zkc xs i c) fun fl=>if nm=nm'∧n=s∧uni s q.1∧QH q.1∧(fl.length+q.1.length)*b≤ZU∧fl.length+q.1.length≤ZU then
   some { val:=.own base,adds:=[(base,.row s (fl++q.1) true true)],sets:=[(id,.row sz xs true false)] } else none
 | _=>none
def YC (hp:Hp):AV→List Nat
 | .own id=>if Zb2 (lkp hp id) then [id] else []
 | _=>[]
def Zda:Zm→Zm
 | .deep s _ xs _=>.row s xs true false
 | o=>o
def meltIn (hp:Hp):List Nat→Hp
 | []=>hp
 | i :: r=>match lkp hp i with
  | some o=>ins (meltIn hp r) i (Zda o)
  | none=>meltIn hp r
noncomputable def VS (hp:Hp) (s b:Nat) (str flat:Bool) (base:Nat) (x y:AV):List Nat→Option Eff
 | []=>Ui hp s b str flat base x y
 | i :: r=>if flat then none else bnd (Ui (meltIn hp (i :: r)) s b str flat base x y) fun e=>some { val:=e.val,adds:=e.adds,sets:=e.sets,dels:=e.dels++(i :: r),frz:=e.frz }
noncomputable def Ze6 (hp:Hp) (s b:Nat) (str flat:Bool) (base:Nat) (y:AV):AV→Option Eff
 | .sub id nm=>if str then none else bnd (Ze4 hp true y) fun q=>if (Zck y).contains id then none else Zjg s b base id nm q (lkp hp id)
 | x=>VS hp s b str flat base x y (YC hp x++YC hp y)
def Zre (hp:Hp) (s b base:Nat) (x y:AV):Option Zd:=ZgO (bnd (Zd1 hp y) fun q=>if q.2.1=s then Zcz hp s b base q.1 q.2.2.1 q.2.2.2 x else none)
noncomputable def Zt7 (hp:Hp) (s b:Nat) (str flat:Bool) (base:Nat) (x y:AV):Option Zd:=ZgO (Ze6 hp s b str flat base y x)
def Zkd:AV→AV→Option Zd
 | .d (.int k a),.d (.int k' b)=>if k=k' then QN (.d (.int k (minI a b))) else none
 | _,_=>none
def Zke:AV→AV→Option Zd
 | .d (.int k a),.d (.int k' b)=>if k=k' then QN (.d (.int k (maxI a b))) else none
 | _,_=>none
inductive Opd where
 | t (n:Nat)
 | v (a:AV)
 | f (n:Nat)
def evO (sl:Sl):Opd→AV
 | .t n=>gs sl n
 | .v a=>a
 | .f n=>.clo n []
def evL (sl:Sl):List Opd→List AV
 | []=>[]
 | x :: r=>evO sl x :: evL sl r
def evP (sl:Sl):List (Nat×Nat×Opd)→List (Nat×Nat×AV)
 | []=>[]
 | (a,b,x) :: r=>(a,b,evO sl x) :: evP sl r
def evM (sl:Sl):Option Opd→Option AV
 | none=>none
 | some x=>some (evO sl x)
inductive COp where
 | move (x:Opd)
 | assign (s:Option Nat) (x:Opd)
 | pick (c a b:Opd)
 | alloc (slc:List (Option Nat)) (cs:List AV)
 | box (x:Opd)
 | build (zs:List AV) (ps:List (Nat×Nat×Opd))
 | buildSl (s:Nat) (xs:List Opd)
 | load (g:Bool) (s:Nat) (a:Opd)
 | store (slc:List (Option Nat)) (s:Nat) (a x:Opd)
 | nilCheck (x:Opd)
 | bin (op:BinOp) (eq:Bool) (x y:Opd)
 | un (op:UnOp) (x:Opd)
 | eqA (neg:Bool) (ks:List Nat) (x y:Opd)
 | convI (k:IntKind) (x:Opd)
 | convS (x:Opd)
 | fn (f:Nat) (caps:List Opd)
 | make (s b:Nat) (z:D) (l c:Opd)
 | slice (s:Nat) (x:Opd) (lo hi:Option Opd)
 | sliceS (x:Opd) (lo hi:Option Opd)
 | slice0 (x hi mx:Opd)
 | shift (off:Nat) (x:Opd)
 | part (g:Bool) (s off:Nat) (x:Opd)
 | iaS (s:Nat) (x i:Opd)
 | iaA (len s:Nat) (x i:Opd)
 | ixS (x i:Opd)
 | ixA (g:Bool) (s len:Nat) (x i:Opd)
 | nth (i:Nat) (x:Opd)
 | len (x:Opd)
 | lenS (x:Opd)
 | append (s b:Nat) (str flat:Bool) (x y:Opd)
 | min (x y:Opd)
 | max (x y:Opd)
 | call (f:Opd) (as:List Opd)
 | slice3 (s:Nat) (x lo hi mx:Opd)
 | clear (s:Nat) (z:D) (x:Opd)
 | stuck
 | buildDp (s n:Nat) (xs:List Opd)
 | appDp (s b:Nat) (flat:Bool) (x y:Opd)
 | asgDp (s n:Nat) (x:Opd)
structure CO where
 dst:Option Nat
 guard:Option (Nat×Bool)
 op:COp
 tl:Bool
def Zdb (C:Orc) (M:Zp) (hp:Hp) (base:Nat) (as:List AV):AV→Option Zd
 | .clo g caps=>Zcn C (M g) hp base g (as++caps)
 | _=>none
noncomputable def vop (C:Orc) (M:Zp) (sl:Sl) (hp:Hp) (base:Nat):COp→Option Zd
 | .move x=>QN (evO sl x)
 | .assign s x=>ZdZ base s (evO sl x)
 | .pick c a b=>ZgF (evO sl a) (evO sl b) (evO sl c)
 | .alloc slc cs=>ZfM slc base cs
 | .box x=>Zxr base (evO sl x)
 | .build zs ps=>ZoZ zs (evP sl ps)
 | .buildSl s xs=>buildSl hp base s (evL sl xs)
 | .load g s a=>WB (UV hp g s (evO sl a))
 | .store slc s a x=>ZgO (Za7 hp slc s base (evO sl x).cells (evO sl a))
 | .nilCheck x=>J9 (evO sl x)
 | .bin op eq x y=>Zm7 op eq (evO sl x) (evO sl y)
 | .un op x=>WB (vun op (evO sl x))
 | .eqA neg ks x y=>Zrd neg ks (evO sl x) (evO sl y)
 | .convI k x=>convI k (evO sl x)
 | .convS x=>convS (evO sl x)
 | .fn f cs=>WB (cloV f (evL sl cs))
 | .make s b z l c=>bnd (idx (evO sl l)) fun l=>bnd (idx (evO sl c)) fun c=>Zo1 base s b z l c
 | .slice s x lo hi=>WB (WA hp s (evM sl lo) (evM sl hi) (evO sl x))
 | .sliceS x lo hi=>WB (sliceS (evM sl lo) (evM sl hi) (evO sl x))
 | .slice0 x hi mx=>WB (slice0 hp (evO sl x) (idx (evO sl hi)) (idx (evO sl mx)))
 | .shift off x=>VR off (evO sl x)
 | .part g s off x=>WB (Zka g s off (evO sl x))
 | .iaS s x i=>bnd (idx (evO sl i)) fun n=>Zhb hp s (evO sl x) n
 | .iaA len s x i=>bnd (idx (evO sl i)) fun n=>ZmI (evO sl x) n len s
 | .ixS x i=>bnd (idx (evO sl i)) fun n=>ZvN n (evO sl x)
 | .ixA g s len x i=>bnd (idx (evO sl i)) fun n=>Zxt g s len n (evO sl x)
 | .nth i x=>Zt6 i (evO sl x)
 | .len x=>bnd (Zef hp (evO sl x)) fun n=>QN (.d (.int .i64 n))
 | .lenS x=>bnd (Zzd (evO sl x)) fun n=>QN (.d (.int .i64 n))
 | .append s b str flat x y=>Zt7 hp s b str flat base (evO sl x) (evO sl y)
 | .min x y=>Zkd (evO sl x) (evO sl y)
 | .max x y=>Zke (evO sl x) (evO sl y)
 | .call f as=>Zdb C M hp base (evL sl as) (evO sl f)
 | .slice3 _ x lo hi mx=>WB (slice3 hp (evO sl x) (idx (evO sl lo)) (idx (evO sl hi)) (idx (evO sl mx)))
 | .clear s z x=>ZgO (Zei hp s z (evO sl x))
 | .stuck=>none
 | .buildDp s n xs=>buildDp hp base s n (evL sl xs)
 | .appDp s b _ x y=>Zre hp s b base (evO sl x) (evO sl y)
 | .asgDp s n x=>asgDp base s n (evO sl x)
section
variable (P:Program)
def Yn (t:TypeId):Option TypeId:=match P.underlying t with
 | some (.slice e)=>some e
 | _=>none
def Za9 (t:TypeId):Bool:=match P.underlying t with
 | some .string=>true
 | _=>false
def Zia (t:TypeId):Bool:=match P.underlying t with
 | some .bool=>true
 | _=>false
def ZzT (t:TypeId):Option IntKind:=match P.underlying t with
 | some (.int k)=>some k
 | _=>none
def Zjh (t:TypeId):Option (Nat×TypeId):=match P.underlying t with
 | some (.array n e)=>some (n,e)
 | _=>none
def Ze7 (t:TypeId):Option Bool:=match P.underlying t with
 | some (.struct _)=>some true
 | some (.array _ _)=>some true
 | some _=>some false
 | none=>none
def ZfN (s:TypeId) (f:Nat):Option (Nat×TypeId):=match P.underlying s with
 | some (.struct fs)=>match fs[f]? with
  | some x=>if P.cellsOf x.type=0 then none else some (x.offset,x.type)
  | none=>none
 | _=>none
def Zco (t:TypeId):Option Value:=match P.info? t with
 | some i=>i.zero
 | none=>none
def ZyL:Nat→TypeId→List TypeId
 | 0,t=>[t]
 | n+1,t=>match P.underlying t with
  | some (.struct fs)=>fs.toList.flatMap fun f=>ZyL n f.type
  | some (.array k e)=>(List.replicate k (ZyL n e)).flatten
  | _=>[t]
def slcT (t:TypeId):List (Option Nat):=(ZyL P 4 t).map fun c=>(Yn P c).map P.cellsOf
def flatE (t:TypeId):Bool:=(ZyL P 4 t).all fun c=>match P.underlying c with
 | some (.int _)=>true
 | some .bool=>true
 | some .string=>true
 | _=>false
def Zdc:Nat→TypeId→Nat→Option (List (Nat×Nat))
 | 0,_,_=>none
 | n+1,t,off=>match P.underlying t with
  | some (.int _)=>if P.cellsOf t=1 then some [(off,0)] else none
  | some .bool=>if P.cellsOf t=1 then some [(off,1)] else none
  | some .string=>if P.cellsOf t=1 then some [(off,2)] else none
  | some (.struct fs)=>if P.stoodInHeld t then none else
    bnd (QG (fun f:Field=>if f.name = "_"∨P.cellsOf t<f.offset+P.cellsOf f.type then none else Zdc n f.type (off+f.offset)) fs.toList) fun ls=>some ls.flatten
  | _=>none
def X1 (t:TypeId):Bool:=match P.underlying t with
 | some (.struct _)=>true
 | _=>false
def ZvO (t:TypeId):Option (List Nat):=bnd (Zdc P 5 t 0) fun ls=>
 if ls.map (·.1)=List.range (P.cellsOf t)∧X1 P t=true∧P.eqGuardType P.depth t=false then some (ls.map (·.2)) else none
def ZvP (neg:Bool) (op:BinOp) (t:TypeId) (x y:Opd):Option (List Nat)→COp
 | some ks=>.eqA neg ks x y
 | none=>.bin op (Zia P t) x y
def Zxu (op:BinOp) (t:TypeId) (x y:Opd):COp:=match op with
 | .eql=>ZvP P false .eql t x y (ZvO P t)
 | .neq=>ZvP P true .neq t x y (ZvO P t)
 | op=>.bin op (Zia P t) x y
end
section
variable (P:Program)
def Z5:Operand→Option Opd
 | .tmp t=>some (.t t)
 | .const v=>some (.v (evC v))
 | .global _=>none
 | .func f=>some (.f f)
def ZvQ (pl:Nat→Option (Nat×Nat)) (q:Nat×Operand):Option (Nat×Nat×Opd):=bnd (pl q.1) fun p=>bnd (Z5 q.2) fun x=>some (p.1,p.2,x)
def cOO:Option Operand→Option (Option Opd)
 | none=>some none
 | some x=>bnd (Z5 x) fun y=>some (some y)
def ZfO (t:TypeId):Option (Nat×TypeId)→Nat→Option (Nat×Nat)
 | none,i=>bnd (ZfN P t i) fun q=>some (q.1,P.cellsOf q.2)
 | some a,i=>some (i*P.cellsOf a.2,P.cellsOf a.2)
def Jz (t:TypeId):Bool:=match P.info? t with
 | some i=>(match i.zero with
  | some z=>z.cells.size==i.size&&decide (0<i.size)
  | none=>false)
 | none=>false
def Zkf (t:TypeId):Bool:=match P.underlying t with
 | some (.struct fs)=>fs.toList.all fun f=>(P.info? f.type).isSome
 | some (.array _ e)=>(P.info? e).isSome
 | _=>false
def ZmJ (e:TypeId) (u:TypeId):Option Bool:=match Yn P u with
 | some e'=>if e'=e then some false else none
 | none=>if Za9 P u then some true else none
def Zo2 (x i:Opd) (a:Option (Nat×TypeId)):Option TypeId→Option COp
 | some e=>if (P.info? e).isSome then some (.iaS (P.cellsOf e) x i) else none
 | none=>bnd a fun a=>if (P.info? a.2).isSome then some (.iaA a.1 (P.cellsOf a.2) x i) else none
def Zt8 (x i:Opd) (str:Bool) (a:Option (Nat×TypeId)):Option COp:=
 if str then some (.ixS x i) else bnd a fun a=>bnd (Ze7 P a.2) fun g=>some (.ixA g (P.cellsOf a.2) a.1 x i)
def ZyM (x:Opd) (ss sd:Bool):Option IntKind→Option IntKind→Option COp
 | some _,some k=>some (.convI k x)
 | _,_=>if ss&&sd then some (.convS x) else none
def cLen (x:Opd) (str:Bool):Option TypeId→Option COp
 | some _=>some (.len x)
 | none=>if str then some (.lenS x) else none
def Zxv (x:Opd) (lo hi:Option Opd) (str:Bool):Option TypeId→Option COp
 | some e=>if (P.info? e).isSome then some (.slice (P.cellsOf e) x lo hi) else none
 | none=>if str then some (.sliceS x lo hi) else none
def Ze8:Builtin→List Operand→List TypeId→Option COp
 | .len,[x],[t]=>bnd (Z5 x) fun x=>cLen x (Za9 P t) (Yn P t)
 | .append,[s,x],[t,u]=>bnd (Yn P t) fun e=>bnd (ZmJ P e u) fun str=>bnd (Z5 s) fun s=>bnd (Z5 x) fun x=>
   if Jz P e then some (.append (P.cellsOf e) (P.bytesOf e) str (flatE P e) s x) else none
 | .min,[x,y],_=>bnd (Z5 x) fun x=>bnd (Z5 y) fun y=>some (.min x y)
 | .max,[x,y],_=>bnd (Z5 x) fun x=>bnd (Z5 y) fun y=>some (.max x y)
 | .clear,[x],[t]=>bnd (Yn P t) fun e=>bnd (Z5 x) fun x=>bnd (Zco P e) fun z=>bnd (evD z) fun z=>if Jz P e then some (.clear (P.cellsOf e) z x) else none
 | _,_,_=>none
def teOf (t:TypeId):Nat:=match bnd (ZfN P t 1) fun q=>Yn P q.2 with
 | some e=>e
 | none=>0
def cOp (ty:TypeId):Op→Option COp
 | .move x=>bnd (Z5 x) fun x=>some (.move x)
 | .assign x=>bnd (Z5 x) fun x=>some (.assign (bnd (Yn P ty) fun e=>some (P.cellsOf e)) x)
 | .pick c a b=>bnd (Z5 c) fun c=>bnd (Z5 a) fun a=>bnd (Z5 b) fun b=>some (.pick c a b)
 | .alloc t=>bnd (Zco P t) fun z=>some (.alloc (slcT P t) (bnT t (teOf P t) (evC z).cells))
 | .box _ x=>bnd (Z5 x) fun x=>some (.box x)
 | .build t ps=>bnd (Zco P t) fun z=>bnd (QG (ZvQ (ZfO P t (Zjh P t))) ps.toList) fun qs=>if Zkf P t then some (.build (evC z).cells qs) else none
 | .buildSlice t n ps=>bnd (Yn P t) fun e=>bnd (QG (fun q:Nat×Operand=>Z5 q.2) ps.toList) fun xs=>
   if ps.toList.map (·.1)=List.range n∧n*P.cellsOf e≤16777216∧Jz P e then some (.buildSl (P.cellsOf e) xs) else none
 | .load t a=>bnd (Ze7 P t) fun g=>bnd (Z5 a) fun a=>some (.load g (P.cellsOf t) a)
 | .store t a x=>bnd (Z5 a) fun a=>bnd (Z5 x) fun x=>if (P.info? t).isSome then some (.store (slcT P t) (P.cellsOf t) a x) else none
 | .nilCheck x=>bnd (Z5 x) fun x=>some (.nilCheck x)
 | .binOp op t x y _=>bnd (Z5 x) fun x=>bnd (Z5 y) fun y=>some (Zxu P op t x y)
 | .unOp op _ x=>bnd (Z5 x) fun x=>some (.un op x)
 | .convert s d x=>bnd (Z5 x) fun x=>ZyM x (Za9 P s) (Za9 P d) (ZzT P s) (ZzT P d)
 | .makeFunc (.func f) fs cs=>if fs.toList.isEmpty then bnd (QG Z5 cs.toList) fun cs=>some (.fn f cs) else none
 | .makeSlice t l c=>bnd (Yn P t) fun e=>bnd (Z5 l) fun l=>bnd (Z5 c) fun c=>bnd (Zco P e) fun z=>bnd (evD z) fun z=>if Jz P e then some (.make (P.cellsOf e) (P.bytesOf e) z l c) else none
 | .slice t x lo hi none=>bnd (Z5 x) fun x=>bnd (cOO lo) fun lo=>bnd (cOO hi) fun hi=>Zxv P x lo hi (Za9 P t) (Yn P t)
 | .slice t x none (some hi) (some mx)=>bnd (Yn P t) fun e=>if (P.info? e).isSome then bnd (Z5 x) fun x=>bnd (Z5 hi) fun hi=>bnd (Z5 mx) fun mx=>some (.slice0 x hi mx) else none
 | .slice t x (some lo) (some hi) (some mx)=>bnd (Yn P t) fun e=>if (P.info? e).isSome then bnd (Z5 x) fun x=>bnd (Z5 lo) fun lo=>bnd (Z5 hi) fun hi=>bnd (Z5 mx) fun mx=>some (.slice3 (P.cellsOf e) x lo hi mx) else none
 | .fieldAddr s x f=>bnd (ZfN P s f) fun q=>bnd (Z5 x) fun x=>some (.shift q.1 x)
 | .field t x f=>bnd (ZfN P t f) fun q=>bnd (Ze7 P q.2) fun g=>bnd (Z5 x) fun x=>some (.part g (P.cellsOf q.2) q.1 x)
 | .indexAddr t x i=>bnd (Z5 x) fun x=>bnd (Z5 i) fun i=>Zo2 P x i (Zjh P t) (Yn P t)
 | .index t x i=>bnd (Z5 x) fun x=>bnd (Z5 i) fun i=>Zt8 P x i (Za9 P t) (Zjh P t)
 | .extract x i=>bnd (Z5 x) fun x=>some (.nth i x)
 | .call { callee:=.builtin b,args:=as,argTypes:=ts }=>Ze8 P b as.toList ts.toList
 | .call { callee:=.value f,args:=as,argTypes:=_ }=>bnd (Z5 f) fun f=>bnd (QG Z5 as.toList) fun as=>some (.call f as)
 | _=>none
def Zo3 (ops:List Oper):Option (Nat×Bool)→Option (Option (Nat×Bool))
 | none=>some none
 | some q=>bnd ops[q.1]? fun g=>bnd g.dst fun t=>some (some (t,q.2))
def Xb (nt:Nat):Option Nat→Bool
 | none=>true
 | some t=>decide (t<nt)
def WI (ops:Array Oper) (i:Nat):List Nat:=match ops[i]? with
 | some o=>(o.after.toList.filter fun e=>Region.binds .any e).map fun e=>e.on
 | none=>[]
def Zji (ops:Array Oper):Nat→Nat→Nat→Bool
 | 0,i,j=>(WI ops i).contains j
 | n+1,i,j=>(WI ops i).contains j || (WI ops i).any fun z=>Zji ops n z j
def startO:Op→Bool
 | .call { callee:=.builtin .append,args:=_,argTypes:=_ }=>true
 | .buildSlice _ _ _=>true
 | _=>false
def callO:Op→Bool
 | .call { callee:=.value (.func _),args:=_,argTypes:=_ }=>true
 | _=>false
def ZA6:Op→Bool
 | .move _=>true
 | _=>false
def aheadO:Op→Bool
 | .store _ _ _=>false
 | .box _ _=>false
 | .assign _=>false
 | .makeFunc _ _ _=>false
 | .makeSlice _ _ _=>false
 | .call { callee:=.builtin .append,args:=_,argTypes:=_ }=>false
 | .call { callee:=.value _,args:=_,argTypes:=_ }=>false
 | _=>true
def ZCw:Op→Bool
 | .move _=>true
 | .alloc _=>true
 | .buildSlice _ _ _=>true
 | .load _ _=>true
 | .nilCheck _=>true
 | .binOp _ _ _ _ _=>true
 | .unOp _ _ _=>true
 | .convert _ _ _=>true
 | .fieldAddr _ _ _=>true
 | .indexAddr _ _ _=>true
 | .slice _ _ _ _ _=>true
 | .call { callee:=.builtin .len,args:=_,argTypes:=_ }=>true
 | _=>false
def appO:Op→Bool
 | .call { callee:=.builtin .append,args:=_,argTypes:=_ }=>true
 | _=>false
def lookO:Op→Bool
 | .move _=>true
 | .load _ _=>true
 | .nilCheck _=>true
 | .binOp _ _ _ _ _=>true
 | .convert _ _ _=>true
 | .fieldAddr _ _ _=>true
 | .field _ _ _=>true
 | .extract _ _=>true
 | .indexAddr _ _ _=>true
 | .slice _ _ _ _ _=>true
 | .call { callee:=.builtin .len,args:=_,argTypes:=_ }=>true
 | _=>false
def atO (f:Op→Bool) (ops:List Oper) (k:Nat):Bool:=match ops[k]? with
 | some o=>f o.op
 | none=>false
def firmAt (ops:List Oper) (i:Nat):Bool:=
 (List.range ops.length).all fun k=>if k<i then Zji ops.toArray 6 i k || atO ZA6 ops k else k==i || Zji ops.toArray 6 k i || atO ZA6 ops k
def firmP (ops:List Oper) (i:Nat):Bool:=
 (List.range ops.length).all fun k=>if k<i then Zji ops.toArray 6 i k || atO lookO ops k else k==i || Zji ops.toArray 6 k i || atO ZA6 ops k
def firmC (ops:List Oper) (i:Nat):Bool:=
 (List.range ops.length).all fun k=>if k<i then Zji ops.toArray 6 i k || atO aheadO ops k else k==i || Zji ops.toArray 6 k i || atO ZCw ops k
def Zo4 (ops:List Oper) (o:Oper):Nat:=ops.findIdx fun x=>x.dst==o.dst
def firm (ops:List Oper) (o:Oper):Bool:=(startO o.op&&firmAt ops (Zo4 ops o)) || (callO o.op&&firmC ops (Zo4 ops o)) || (appO o.op&&firmP ops (Zo4 ops o))
def Jo:Option COp→COp
 | some c=>c
 | none=>.stuck
def ZmK (nt:Nat) (ops:List Oper) (o:Oper):Option CO:=bnd (Zo3 ops o.guard) fun g=>
 if Xb nt o.dst then some { dst:=o.dst,guard:=g,op:=Jo (cOp P o.type o.op),tl:=firm ops o } else none
end
end Go.Abs
