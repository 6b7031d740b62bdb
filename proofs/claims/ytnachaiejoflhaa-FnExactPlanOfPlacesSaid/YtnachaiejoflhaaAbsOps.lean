/- Own text. -/
import Derived.Test.YtnachaiejoflhaaAbsBase
set_option linter.unusedVariables false
set_option linter.unusedSimpArgs false
namespace Go.Abs
open Go
def mat:List (Option Nat)→List AV→Nat→List AV×Hp
 | some s :: ts,.nil :: vs,b=>let r:=mat ts vs (b+1);(.own b :: r.1,(b,.row s [] true false) :: r.2)
 | _ :: ts,v :: vs,b=>let r:=mat ts vs b;(v :: r.1,r.2)
 | _,vs,_=>(vs,[])
def ZdF:List AV→Bool
 | []=>false
 | .nil :: _=>true
 | _ :: r=>ZdF r
structure Eff where
 val:AV
 adds:Hp:=[]
 sets:Hp:=[]
 dels:List Nat:=[]
 frz:List Nat:=[]
def Zd:Hp→Hp→Hp
 | hp,[]=>hp
 | hp,(k,o) :: r=>Zd (ins hp k o) r
def del:Hp→Nat→Hp
 | [],_=>[]
 | (k,o) :: r,t=>if k=t then del r t else (k,o) :: del r t
def ZN:Hp→List Nat→Hp
 | hp,[]=>hp
 | hp,k :: r=>ZN (del hp k) r
def ZQ (ids:List Nat) (hp:Hp):Hp:=match ids with
 | []=>hp
 | _=>freeze ids hp
def Eff.on (e:Eff) (hp:Hp):Hp:=Zd (Zd (ZN (ZQ e.frz hp) e.dels) e.sets) e.adds
def Zoe:List AV→Nat→List AV→List AV
 | cs,_,[]=>cs
 | cs,off,v :: r=>Zoe (cs.set off v) (off+1) r
def Zex:List AV→List (Nat×Nat×AV)→Option (List AV)
 | cells,[]=>some cells
 | cells,q :: r=>if q.2.2.solid∧q.2.2.cells.length=q.2.1∧q.1+q.2.1≤cells.length then Zex (Zoe cells q.1 q.2.2.cells) r else none
def AV.atom:AV→Bool
 | .d x=>x.one
 | .agg _=>false
 | .tup _=>false
 | .clo _ _=>false
 | _=>true
def Zbf:List AV→Bool
 | []=>true
 | v :: r=>v.atom&&Zbf r
def cloV (f:Nat) (cs:List AV):Option AV:=if Zbf cs then some (.clo f cs) else none
def ZcO:AV→AV
 | .bbuf _ _=>.junk
 | v=>v
def V3 (agg:Bool) (s off:Nat):Option Zg→Option AV
 | some (.box cs)=>if agg then (if off+s≤cs.length then some (Vd ((cs.drop off).take s)) else none) else (cs[off]?).map ZcO
 | _=>none
def WY (agg:Bool) (s off:Nat) (cs:List D):Option AV:=
 if agg then (if off+s≤cs.length then some (.d (.agg ((cs.drop off).take s))) else none) else asD cs[off]?
def ZcP (agg:Bool) (s sz off:Nat) (x:D):Option AV:=if x.cells.length=sz then WY agg s off x.cells else none
def Zey (i off:Nat):Option (Option Nat×Nat×Nat)→Option AV
 | some (some nm,i',c)=>if i=i'∧off=c then some (.own nm) else none
 | _=>none
def Vj (i off:Nat) (lk:Option (Option Nat×Nat×Nat)) (x:D):Option AV:=match x.cells[off]? with
 | some (.sl _)=>Zey i off lk
 | some y=>if y.plain then some (.d y) else none
 | none=>none
def Vk (id:Nat) (agg:Bool) (s sz i off:Nat):Option Zg→Option AV
 | some (.row sz' xs _ _)=>if sz=sz' then bnd xs[i]? (ZcP agg s sz off) else none
 | some (.tree sz' _ xs lk)=>if sz=sz' then (if agg then none else bnd xs[i]? (Vj i off lk)) else none
 | _=>none
def YI (hp:Hp) (agg:Bool) (s:Nat):AV→Option AV
 | .ptr id off=>V3 agg s off (lkp hp id)
 | .prow id sz i off=>Vk id agg s sz i off (lkp hp id)
 | .pim cs=>WY agg s 0 cs
 | _=>none
def Zjt:AV→Option D
 | .d x=>if x.plain then some x else none
 | _=>none
def ZkR:List AV→Option (List D)
 | []=>some []
 | v :: r=>bnd (Zjt v) fun x=>bnd (ZkR r) fun ds=>some (x :: ds)
def Zaz (slc:List (Option Nat)) (s base id off:Nat) (vs:List AV):Option Zg→Option Eff
 | some (.box cs)=>if vs.length=s∧off+s≤cs.length∧QM vs∧QP cs=true then
    (if ZdF vs then some { val := .junk, adds := (mat slc vs base).2, sets := [(id, .box (Zk cs off (mat slc vs base).1))] }
      else some { val:=.junk,sets:=[(id,.box (Zk cs off vs))] })
   else none
 | _=>none
def D.notSl:D→Bool
 | .sl _=>false
 | _=>true
def Zbg (s id sz i off:Nat) (xs:List D) (ex:Bool) (x:D) (q:List D×Bool×List Nat):Option Eff:=
 if x.notSl∧x.cells.length=sz∧q.1.length=s∧off+s≤sz∧q.2.2.contains id=false then
  some { val:=.junk,sets:=[(id,.row sz (xs.set i (Xp x off q.1)) (ex&&q.2.1) false)],frz:=q.2.2 } else none
def Zbh (n id:Nat):Option Zg→Option (D×List Nat)
 | some (.row sz xs true false)=>if sz=n∧Wz D.flat xs then some (.sl xs,[id]) else none
 | some (.tree sz n' xs none)=>if sz=n∧n'=n then some (.sl xs,[id]) else none
 | _=>none
def ZaA (hp:Hp) (n:Nat):AV→Option (D×List Nat)
 | .d x=>if x.plain then some (x,[]) else none
 | .nil=>some (.sl [],[])
 | .own id=>Zbh n id (lkp hp id)
 | _=>none
def Yc (hp:Hp) (n:Nat):List AV→Option (List D×List Nat)
 | []=>some ([],[])
 | v :: r=>bnd (ZaA hp n v) fun q=>bnd (Yc hp n r) fun p=>if !q.2.any p.2.contains then some (q.1 :: p.1,q.2++p.2) else none
def D.isAgg:D→Bool
 | .agg _=>true
 | _=>false
def Vl (i off s:Nat):Option (Option Nat×Nat×Nat)→Option (Option Nat×Nat×Nat)
 | some (nm,i',c)=>if i=i'∧off≤c∧c<off+s then none else some (nm,i',c)
 | none=>none
def Zbi (s id sz n i off:Nat) (xs:List D) (lk:Option (Option Nat×Nat×Nat)) (x:D) (q:List D×List Nat):Option Eff:=
 if x.isAgg∧x.cells.length=sz∧q.1.length=s∧off+s≤sz∧q.2.contains id=false then
  some { val:=.junk,sets:=[(id,.tree sz n (xs.set i (Xp x off q.1)) (Vl i off s lk))],dels:=q.2 } else none
def WZ (hp:Hp) (s id sz i off:Nat) (vs:List AV):Option Zg→Option Eff
 | some (.row sz' xs ex false)=>if sz=sz' then bnd xs[i]? fun x=>bnd (XW hp vs) fun q=>Zbg s id sz i off xs ex x q else none
 | some (.tree sz' n xs lk)=>if sz=sz' then bnd xs[i]? fun x=>bnd (Yc hp n vs) fun q=>Zbi s id sz n i off xs lk x q else none
 | _=>none
def Wq (hp:Hp) (slc:List (Option Nat)) (s base:Nat) (vs:List AV):AV→Option Eff
 | .ptr id off=>Zaz slc s base id off vs (lkp hp id)
 | .prow id sz i off=>WZ hp s id sz i off vs (lkp hp id)
 | _=>none
def uni (s:Nat) (ys:List D):Prop:=∀ y∈ys,y.cells.length=s
def ZH:Nat:=140737488355328
def Qu (ys:List D):Prop:=∀ y∈ys,y.flat=true
def Zju (flat:Bool):Option Zg→Option (List D×Bool)
 | some (.row _ ys ex _)=>some (ys,ex || flat)
 | _=>none
def Zf6:AV→Option (List D×Bool)
 | .d (.str s)=>some (s.map fun b=>.int .u8 b.toNat,true)
 | _=>none
def Zfd (flat:Bool) (off n:Nat):Option Zg→Option (List D×Bool)
 | some (.row _ ys ex _)=>some ((ys.drop off).take n,ex || flat)
 | _=>none
def ZaB (hp:Hp) (flat:Bool):AV→Option (List D×Bool)
 | .nil=>some ([],true)
 | .d (.sl ys)=>some (ys,flat)
 | .own id=>Zju flat (lkp hp id)
 | .ownv id off n=>Zfd flat off n (lkp hp id)
 | _=>none
def Zjv (sz base:Nat) (dels:List Nat) (xs:List D) (ex:Bool):Eff:=
 { val:=.own base,adds:=[(base,.row sz xs ex false)],dels:=dels }
def Zf7 (sz by_ base id:Nat) (ys:List D) (ex' : Bool):Option Zg→Option Eff
 | some (.row sz' xs ex false)=>if sz'=sz∧(xs.length+ys.length)*by_≤ZH∧xs.length+ys.length≤ZH then some (Zjv sz base [id] (xs++ys) (ex&&ex')) else none
 | _=>none
def ZcQ (sz by_ base id n:Nat) (ys:List D) (ex' : Bool):Option Zg→Option Eff
 | some (.row sz' xs ex false)=>if sz'=sz∧(n+ys.length)*by_≤ZH∧n+ys.length≤ZH then some (Zjv sz base [id] (xs.take n++ys) (ex&&ex')) else none
 | _=>none
def ZcR (sz base id n:Nat) (ys:List D) (ex' : Bool):Option Zg→Option Eff
 | some (.row sz' xs ex false)=>if sz'=sz∧0<xs.length∧n+ys.length≤xs.length then
   some { val:=.ownv base 0 (n+ys.length),adds:=[(base,.row sz (xs.take n++ys++xs.drop (n+ys.length)) (ex&&ex') false)],dels:=[id] } else none
 | _=>none
def ZbM (hp:Hp) (sz by_:Nat) (base:Nat) (src:List Nat) (ys:List D) (ex' : Bool):AV→Option Eff
 | .nil=>if ys.length*by_≤ZH∧ys.length≤ZH then some (Zjv sz base [] ys ex') else none
 | .own id=>if src.contains id then none else Zf7 sz by_ base id ys ex' (lkp hp id)
 | .ownv id off n=>if off≠0 then none else if src.contains id then ZcR sz base id n ys ex' (lkp hp id) else ZcQ sz by_ base id n ys ex' (lkp hp id)
 | _=>none
open Classical in
noncomputable def Vm (hp:Hp) (sz by_:Nat) (str flat:Bool) (base:Nat) (s x:AV):Option Eff:=
 bnd (if str then Zf6 x else ZaB hp flat x) fun q=>if uni sz q.1∧(flat=true→Qu q.1) then ZbM hp sz by_ base (Us x) q.1 q.2 s else none
def idx (i:AV):Option Int:=match i with
 | .d (.int _ n)=>some n
 | _=>none
def Zng (sz:Nat) (y:D):Option AV:=if y.cells.length=sz then some (.pim y.cells) else none
def Ux (sz id n:Nat):Option Zg→Option AV
 | some (.row sz' xs _ _)=>if sz'=sz∧n<xs.length then some (.prow id sz n 0) else none
 | some (.tree sz' _ xs _)=>if sz'=sz∧n<xs.length then some (.prow id sz n 0) else none
 | _=>none
def W0 (sz id off m n:Nat):Option Zg→Option AV
 | some (.row sz' _ _ _)=>if sz'=sz∧n<m then some (.prow id sz (off+n) 0) else none
 | _=>none
def Z6 (hp:Hp) (sz n:Nat):AV→Option AV
 | .d (.sl xs)=>bnd xs[n]? (Zng sz)
 | .own id=>Ux sz id n (lkp hp id)
 | .ownv id off m=>W0 sz id off m n (lkp hp id)
 | _=>none
def bd (m:Nat) (v:AV):Option Nat:=bnd (idx v) fun n=>if 0≤n∧n≤m then some n.toNat else none
def hiOf (len:Nat):Option AV→Option Nat
 | none=>some len
 | some v=>bd len v
def loOf (h:Nat):Option AV→Option Nat
 | none=>some 0
 | some v=>bd h v
def Zjw (len:Nat) (lo hi:Option AV):Option (Nat×Nat):=bnd (hiOf len hi) fun h=>bnd (loOf h lo) fun l=>some (l,h)
def ZkS (id n:Nat):Option AV→Option AV→Option AV
 | none,none=>some (.own id)
 | lo,hi=>bnd (Zjw n lo hi) fun b=>some (.ownv id b.1 (b.2-b.1))
def W1 (s id:Nat) (lo hi:Option AV):Option Zg→Option AV
 | some (.row sz xs _ _)=>if sz=s then ZkS id xs.length lo hi else none
 | _=>none
def Zpl (n m:Nat) (lo:Option AV):Option AV→Option (Nat×Nat)
 | none=>Zjw n lo none
 | some h=>Zjw m lo (some h)
def VO (s id off n:Nat) (lo hi:Option AV):Option Zg→Option AV
 | some (.row sz xs _ _)=>if sz=s then bnd (Zpl n (xs.length-off) lo hi) fun b=>some (.ownv id (off+b.1) (b.2-b.1)) else none
 | _=>none
def slice3 (hp:Hp) (x:AV) (lo hi mx:Option Int):Option AV:=bnd lo fun l=>bnd hi fun h=>bnd mx fun m=>bnd (UK hp x) fun n=>
 if 0≤l∧l≤h∧h≤m∧m≤n then some .junk else none
def ZcS (s id off n:Nat) (z:D):Option Zg→Option Eff
 | some (.row sz xs ex false)=>if sz=s∧z.cells.length=s∧off+n≤xs.length then some { val:=.tup [],sets:=[(id,.row sz (xs.take off++List.replicate n z++xs.drop (off+n)) ex false)] } else none
 | _=>none
def JC (hp:Hp) (s:Nat) (z:D):AV→Option Eff
 | .ownv id off n=>ZcS s id off n z (lkp hp id)
 | _=>none
open Classical in
noncomputable def XS (hp:Hp) (s:Nat) (lo hi:Option AV):AV→Option AV
 | .d (.sl xs)=>if uni s xs then bnd (Zjw xs.length lo hi) fun b=>some (.d (.sl ((xs.take b.2).drop b.1))) else none
 | .nil=>bnd (Zjw 0 lo hi) fun _=>some .nil
 | .own id=>W1 s id lo hi (lkp hp id)
 | .ownv id off n=>VO s id off n lo hi (lkp hp id)
 | _=>none
def sliceS (lo hi:Option AV):AV→Option AV
 | .d (.str s)=>bnd (Zjw s.length lo hi) fun b=>some (.d (.str ((s.take b.2).drop b.1)))
 | _=>none
def slice0 (hp:Hp) (x:AV) (hi mx:Option Int):Option AV:=match hi,mx with
 | some 0,some 0=>bnd (UK hp x) fun _=>some .nil
 | _,_=>none
def ZcT (agg:Bool) (s off:Nat):AV→Option AV
 | .d (.agg cs)=>WY agg s off cs
 | .agg cs=>if agg then (if off+s≤cs.length then some (Vd ((cs.drop off).take s)) else none) else cs[off]?
 | _=>none
abbrev Orc:=Nat→List AV→List Zg→Option (AV×List Zg)
abbrev Zf:=Nat→Nat→Bool
def JD (hp:Hp) (id:Nat):Bool→Option AV
 | true=>some (.own id)
 | false=>asD (Zbx hp (.own id))
def ZaC:Bool→Option AV
 | true=>some .nil
 | false=>some (.d (.sl []))
def JE (hp:Hp) (cs:List AV):Bool→Option AV
 | true=>if UJ cs then none else some (.agg cs)
 | false=>asD (toD hp (.agg cs))
def Ur (hp:Hp) (m:Bool):AV→Option AV
 | .ptr a b=>some (.ptr a b)
 | .clo f c=>some (.clo f c)
 | .nilp=>some .nilp
 | .nili=>some .nili
 | .pim c=>some (.pim c)
 | .own id=>JD hp id m
 | .nil=>ZaC m
 | .d x=>some (.d x)
 | .agg cs=>JE hp cs m
 | v=>asD (toD hp v)
def args (hp:Hp) (m:Nat→Bool):Nat→List AV→Option (List AV)
 | _,[]=>some []
 | i,v :: r=>bnd (Ur hp (m i) v) fun a=>bnd (args hp m (i+1) r) fun as=>some (a :: as)
def Vn (hp:Hp) (go:List Nat→List Nat→List Nat) (id:Nat) (todo acc:List Nat):Option Zg→List Nat
 | some o=>go (todo++Ve o) (acc++[id])
 | none=>go todo acc
def Qq (hp:Hp):Nat→List Nat→List Nat→List Nat
 | 0,_,acc=>acc
 | _+1,[],acc=>acc
 | n+1,id :: todo,acc=>if acc.contains id then Qq hp n todo acc else Vn hp (Qq hp n) id todo acc (lkp hp id)
def XZ:List Nat→Nat→Nat
 | [],_=>0
 | x :: r,t=>if x=t then 0 else XZ r t+1
def ZkT:Option Zg→Zg
 | some o=>o
 | none=>.gone
def UN (hp:Hp):List Nat→List Zg
 | []=>[]
 | id :: r=>ZkT (lkp hp id) :: UN hp r
def Wa (ids:List Nat) (o:Zg):Zg:=Zcw (XZ ids) (QC ((Ve o).filter fun i=>!ids.contains i) o)
def ZaD:Option Zg→Bool
 | some (.row _ _ _ _)=>true
 | some (.tree _ _ _ _)=>true
 | some .gone=>true
 | _=>false
def W2:AV→Bool
 | .d x=>x.flat
 | .pim _=>false
 | .agg _=>false
 | .tup _=>false
 | .clo _ _=>false
 | _=>true
def UO:AV→Bool
 | .agg cs=>cs.all W2
 | .clo _ cs=>cs.all W2
 | v=>W2 v
def Ziq:AV→Bool
 | .tup vs=>vs.all UO
 | v=>UO v
def ZaE:Zg→Bool
 | .box cs=>cs.all UO
 | .row _ _ ex fz=>ex&&!fz
 | .tree _ _ _ _=>true
 | .gone=>true
def Zb7 (d:Nat):Option Nat→Nat
 | some i=>i
 | none=>d
def Yd (ids:List Nat) (base k:Nat):Nat:=Zb7 (base+(k-ids.length)) ids[k]?
def W3 (g:Nat→Nat):List Nat→List Zg→Hp
 | id :: ids,o :: os=>(id,Zcw g o) :: W3 g ids os
 | _,_=>[]
def W4 (g:Nat→Nat):Nat→List Zg→Hp
 | _,[]=>[]
 | k,o :: os=>(k,Zcw g o) :: W4 g (k+1) os
structure Zb where
 eff:Eff
 gone:List Nat
def QT (_hp:Hp):Nat:=1000
def Xi:List AV→List AV→List Nat
 | v :: vs,.d _ :: as=>Js v++Xi vs as
 | _ :: vs,_ :: as=>Xi vs as
 | _,_=>[]
def W5:Option Zg→Bool
 | some (.tree _ _ _ _)=>true
 | _=>false
def ZdG:List Nat→List Zg→List Nat
 | id :: ids,.gone :: os=>id :: ZdG ids os
 | _ :: ids,_ :: os=>ZdG ids os
 | _,_=>[]
def ZdH (hp:Hp) (ids:List Nat) (out:List Zg):Bool→List Nat
 | true=>ZdG ids out
 | false=>ids.filter fun i=>ZaD (lkp hp i)
def Wb (keep:Bool) (hp:Hp) (base:Nat) (ids lent:List Nat) (r:AV) (out:List Zg):Option Zb:=
 if out.length<ids.length then none else if !(Ziq r&&out.all ZaE)&&lent.any fun i=>W5 (lkp hp i) then none else
  some { eff := { val:=ren (Yd ids base) r,adds:=W4 (Yd ids base) base (out.drop ids.length),sets:=W3 (Yd ids base) ids out,frz:=if Ziq r&&out.all ZaE then [] else lent },gone:=ZdH hp ids out keep }
def VE:AV→List Nat
 | .ptr id _=>[id]
 | .clo _ cs=>cs.flatMap Ze
 | _=>[]
def WF (hp:Hp) (rs ids:List Nat):Bool:=ids.all fun i=>ZaD (lkp hp i) || rs.contains i
def JF (C:Orc) (keep:Bool) (hp:Hp) (base f:Nat) (lent:List Nat) (as:List AV) (ids:List Nat):Option Zb:=
 if (as.flatMap Zl).all ids.contains∧¬lent.any ids.contains∧WF hp (as.flatMap VE) ids=true then
  bnd (C f (as.map (ren (XZ ids))) ((UN hp ids).map (Wa ids))) fun q=>Wb keep hp base ids lent q.1 q.2
 else none
def Uy (C:Orc) (m:Nat→Bool) (hp:Hp) (base f:Nat) (avs:List AV):Option Zb:=
 bnd (args hp m 0 avs) fun as=>JF C (m 99) hp base f (Xi avs as) as (Qq hp (QT hp) (as.flatMap Zl) [])
def Qf (v:AV):Option Zb:=some { eff := { val:=v },gone:=[] }
def XT (v:Option AV):Option Zb:=bnd v Qf
def Zak (e:Option Eff):Option Zb:=bnd e fun e=>some { eff:=e,gone:=[] }
def JG (base:Nat) (e:Option Nat):AV→Option Zb
 | .nil=>bnd e fun s=>some { eff := { val:=.own base,adds:=[(base,.row s [] true false)] },gone:=[] }
 | v=>Qf v
def ZaF (a b:AV):AV→Option Zb
 | .d (.bool t)=>if t then Qf a else Qf b
 | _=>none
def Zb8 (base:Nat):AV→AV
 | .bnil _ e=>.bnil base e
 | v=>v
def bnT (t te:Nat):List AV→List AV
 | [.nilp,.nil]=>[.bnil 0 t,.bbuf te []]
 | cs=>cs
def Zpm:List AV→Bool
 | [.bnil _ _,.bbuf _ []]=>true
 | _=>false
def Zf8 (slc:List (Option Nat)) (base:Nat) (cs:List AV):Option Zb:=
 if QP cs=false then (if Zpm cs=true then some { eff := { val:=.ptr base 0,adds:=[(base,.box cs)] },gone:=[] } else none) else
 if ZdF cs then some { eff := { val:=.ptr base 0,adds:=(base,.box (mat slc cs (base+1)).1) :: (mat slc cs (base+1)).2 },gone:=[] }
 else some { eff := { val:=.ptr base 0,adds:=[(base,.box cs)] },gone:=[] }
def ZaG (slc:List (Option Nat)) (base:Nat) (cs:List AV):Option Zb:=Zf8 slc base (cs.map (Zb8 base))
def Zof (base:Nat) (x:AV):Option Zb:=if x.solid&&QP x.cells then some { eff := { val:=.ptr base 0,adds:=[(base,.box x.cells)] },gone:=[] } else none
def Zf9 (zs:List AV) (ps:List (Nat×Nat×AV)):Option Zb:=bnd (Zex zs ps) fun cs=>Qf (Vd cs)
def Zog (base s:Nat) (q:List D×Bool×List Nat):Option Zb:=
 if q.1.all (fun d=>d.cells.length==s) then some { eff := { val:=.own base,adds:=[(base,.row s q.1 q.2.1 false)],frz:=q.2.2 },gone:=[] } else none
def buildSl (hp:Hp) (base s:Nat):List AV→Option Zb
 | []=>Qf .nil
 | v :: vs=>bnd (Yr hp (v :: vs)) (Zog base s)
def YT (hp:Hp) (n s:Nat):List AV→Option (List D×List Nat)
 | []=>some ([],[])
 | .agg cs :: r=>bnd (Yc hp n cs) fun q=>bnd (YT hp n s r) fun p=>
   if q.1.length=s∧(!q.2.any p.2.contains)=true then some (.agg q.1 :: p.1,q.2++p.2) else none
 | _=>none
def asgT (base s n:Nat):AV→Option Zb
 | .nil=>some { eff := { val:=.own base,adds:=[(base,.tree s n [] none)] },gone:=[] }
 | _=>none
def buildT (hp:Hp) (base s n:Nat) (vs:List AV):Option Zb:=
 if vs.isEmpty=false then bnd (YT hp n s vs) fun q=>some { eff := { val:=.own base,adds:=[(base,.tree s n q.1 none)],dels:=q.2 },gone:=[] } else none
def VQ:AV→Option Zb
 | .ptr a b=>Qf (.ptr a b)
 | .prow a b c d=>Qf (.prow a b c d)
 | .pim c=>Qf (.pim c)
 | .clo f c=>Qf (.clo f c)
 | _=>none
def ZeR (op:BinOp) (eq:Bool):AV→AV→Option Zb
 | .d (.bool a),.d (.bool b)=>if eq then XT (Zh1 op a b) else none
 | a,b=>XT (vbin op a b)
def VA:List Nat→List D→List D→Option Bool
 | [],[],[]=>some true
 | 0 :: ks,.int k a :: cs,.int k' b :: ds=>if k=k' then bnd (VA ks cs ds) fun r=>some (decide (a=b)&&r) else none
 | 1 :: ks,.bool a :: cs,.bool b :: ds=>bnd (VA ks cs ds) fun r=>some (decide (a=b)&&r)
 | 2 :: ks,.str a :: cs,.str b :: ds=>bnd (VA ks cs ds) fun r=>some (decide (a=b)&&r)
 | _,_,_=>none
def Zga (neg:Bool) (r:Bool):Bool:=if neg then !r else r
def Zjx (neg:Bool) (ks:List Nat):AV→AV→Option Zb
 | .d (.agg cs),.d (.agg ds)=>bnd (VA ks cs ds) fun r=>Qf (.d (.bool (Zga neg r)))
 | _,_=>none
def convI (k:IntKind):AV→Option Zb
 | .d (.int _ n)=>Qf (.d (.int k (k.wrap n)))
 | _=>none
def convS:AV→Option Zb
 | .d (.str s)=>Qf (.d (.str s))
 | _=>none
def Zir (base s b:Nat) (z:D) (l c:Int):Option Zb:=
 if 0≤l∧l≤c∧c*b≤ZH∧c≤ZH∧z.cells.length=s then
  some { eff := { val:=.own base,adds:=[(base,.row s (List.replicate l.toNat z) true false)] },gone:=[] } else none
def makeT (base s b ns:Nat) (z:D) (l c:Int):Option Zb:=
 if 0≤l∧l≤c∧c*b≤ZH∧c≤ZH∧z.cells.length=s∧z.isAgg=true then
  some { eff := { val:=.own base,adds:=[(base,.tree s ns (List.replicate l.toNat z) none)] },gone:=[] } else none
def Ye (off:Nat):AV→Option Zb
 | .ptr id o=>Qf (.ptr id (o+off))
 | .prow id sz i o=>Qf (.prow id sz i (o+off))
 | .pim cs=>Qf (.pim (cs.drop off))
 | _=>none
def Zgb (x:AV) (n:Int) (len s:Nat):Option Zb:=if 0≤n∧n<len then Ye (n.toNat*s) x else none
def ZbN (hp:Hp) (s:Nat) (x:AV) (n:Int):Option Zb:=if 0≤n then XT (Z6 hp s n.toNat x) else none
def ZkU (s:List UInt8) (n:Int):Option Zb:=if 0≤n then bnd s[n.toNat]? fun b=>Qf (.d (.int .u8 b.toNat)) else none
def Zoh (g:Bool) (s len:Nat) (n:Int) (v:AV):Option Zb:=if 0≤n∧n<len then XT (ZcT g s (n.toNat*s) v) else none
def Zme (n:Int):AV→Option Zb
 | .d (.str s)=>ZkU s n
 | _=>none
def ZkV (i:Nat):AV→Option Zb
 | .tup vs=>XT vs[i]?
 | _=>none
def ZdI:Option Zg→Option (Nat×Nat×List D)
 | some (.tree s n xs none)=>some (s,n,xs)
 | _=>none
def JH (hp:Hp):AV→Option (Nat×Nat×Nat×List D)
 | .own id=>bnd (ZdI (lkp hp id)) fun q=>some (id,q)
 | _=>none
def Uz (hp:Hp) (s b base id n:Nat) (ys:List D):AV→Option Eff
 | .nil=>if ys.length*b≤ZH∧ys.length≤ZH then some { val:=.own base,adds:=[(base,.tree s n ys none)],dels:=[id] } else none
 | .own id1=>bnd (ZdI (lkp hp id1)) fun q=>if q.1=s∧q.2.1=n∧id1≠id∧(q.2.2.length+ys.length)*b≤ZH∧q.2.2.length+ys.length≤ZH then
   some { val:=.own base,adds:=[(base,.tree s n (q.2.2++ys) none)],dels:=[id1,id] } else none
 | _=>none
def Vo (xs:List D) (i c:Nat):Option (List D):=bnd xs[i]? fun x=>match x.cells[c]? with
 | some (.sl ys)=>some ys
 | _=>none
def XE (hp:Hp):AV→List Nat
 | .own id=>if W5 (lkp hp id) then [id] else []
 | _=>[]
def ZcU:Zg→Zg
 | .tree s _ xs none=>.row s xs true false
 | o=>o
def meltIn (hp:Hp):List Nat→Hp
 | []=>hp
 | i :: r=>match lkp hp i with
  | some o=>ins (meltIn hp r) i (ZcU o)
  | none=>meltIn hp r
noncomputable def Yt (hp:Hp) (s b:Nat) (str flat:Bool) (base:Nat) (x y:AV):List Nat→Option Eff
 | []=>Vm hp s b str flat base x y
 | i :: r=>if flat then none else bnd (Vm (meltIn hp (i :: r)) s b str flat base x y) fun e=>some { val:=e.val,adds:=e.adds,sets:=e.sets,dels:=e.dels++(i :: r),frz:=e.frz }
def appT (hp:Hp) (s b base:Nat) (x y:AV):Option Zb:=Zak (bnd (JH hp y) fun q=>if q.2.1=s then Uz hp s b base q.1 q.2.2.1 q.2.2.2 x else none)
noncomputable def ZkW (hp:Hp) (s b:Nat) (str flat:Bool) (base:Nat) (x y:AV):Option Zb:=Zak (Yt hp s b str flat base x y (XE hp x++XE hp y))
def Zez:AV→AV→Option Zb
 | .d (.int k a),.d (.int k' b)=>if k=k' then Qf (.d (.int k (minI a b))) else none
 | _,_=>none
def ZeA:AV→AV→Option Zb
 | .d (.int k a),.d (.int k' b)=>if k=k' then Qf (.d (.int k (maxI a b))) else none
 | _,_=>none
inductive Opd where
 | t (n:Nat)
 | v (a:AV)
 | f (n:Nat)
def evO (sl:Sl):Opd→AV
 | .t n=>gs sl n
 | .v a=>a
 | .f n=>.clo n []
def evL (sl:Sl):List Opd→List AV
 | []=>[]
 | x :: r=>evO sl x :: evL sl r
def evP (sl:Sl):List (Nat×Nat×Opd)→List (Nat×Nat×AV)
 | []=>[]
 | (a,b,x) :: r=>(a,b,evO sl x) :: evP sl r
def evM (sl:Sl):Option Opd→Option AV
 | none=>none
 | some x=>some (evO sl x)
inductive COp where
 | move (x:Opd)
 | assign (s:Option Nat) (x:Opd)
 | pick (c a b:Opd)
 | alloc (slc:List (Option Nat)) (cs:List AV)
 | box (x:Opd)
 | build (zs:List AV) (ps:List (Nat×Nat×Opd))
 | buildSl (s:Nat) (xs:List Opd)
 | load (g:Bool) (s:Nat) (a:Opd)
 | store (slc:List (Option Nat)) (s:Nat) (a x:Opd)
 | nilCheck (x:Opd)
 | bin (op:BinOp) (eq:Bool) (x y:Opd)
 | un (op:UnOp) (x:Opd)
 | eqA (neg:Bool) (ks:List Nat) (x y:Opd)
 | convI (k:IntKind) (x:Opd)
 | convS (x:Opd)
 | fn (f:Nat) (caps:List Opd)
 | make (s b:Nat) (z:D) (l c:Opd)
 | slice (s:Nat) (x:Opd) (lo hi:Option Opd)
 | sliceS (x:Opd) (lo hi:Option Opd)
 | slice0 (x hi mx:Opd)
 | shift (off:Nat) (x:Opd)
 | part (g:Bool) (s off:Nat) (x:Opd)
 | iaS (s:Nat) (x i:Opd)
 | iaA (len s:Nat) (x i:Opd)
 | ixS (x i:Opd)
 | ixA (g:Bool) (s len:Nat) (x i:Opd)
 | nth (i:Nat) (x:Opd)
 | len (x:Opd)
 | lenS (x:Opd)
 | append (s b:Nat) (str flat:Bool) (x y:Opd)
 | min (x y:Opd)
 | max (x y:Opd)
 | call (f:Opd) (as:List Opd)
 | slice3 (s:Nat) (x lo hi mx:Opd)
 | clear (s:Nat) (z:D) (x:Opd)
 | stuck
 | buildT (s n:Nat) (xs:List Opd)
 | appT (s b:Nat) (flat:Bool) (x y:Opd)
 | asgT (s n:Nat) (x:Opd)
 | makeT (s b n:Nat) (z:D) (l c:Opd)
structure CO where
 dst:Option Nat
 guard:Option (Nat×Bool)
 op:COp
 tl:Bool
def UP (C:Orc) (M:Zf) (hp:Hp) (base:Nat) (as:List AV):AV→Option Zb
 | .clo g caps=>Uy C (M g) hp base g (as++caps)
 | _=>none
noncomputable def vop (C:Orc) (M:Zf) (sl:Sl) (hp:Hp) (base:Nat):COp→Option Zb
 | .move x=>Qf (evO sl x)
 | .assign s x=>JG base s (evO sl x)
 | .pick c a b=>ZaF (evO sl a) (evO sl b) (evO sl c)
 | .alloc slc cs=>ZaG slc base cs
 | .box x=>Zof base (evO sl x)
 | .build zs ps=>Zf9 zs (evP sl ps)
 | .buildSl s xs=>buildSl hp base s (evL sl xs)
 | .load g s a=>XT (YI hp g s (evO sl a))
 | .store slc s a x=>Zak (Wq hp slc s base (evO sl x).cells (evO sl a))
 | .nilCheck x=>VQ (evO sl x)
 | .bin op eq x y=>ZeR op eq (evO sl x) (evO sl y)
 | .un op x=>XT (vun op (evO sl x))
 | .eqA neg ks x y=>Zjx neg ks (evO sl x) (evO sl y)
 | .convI k x=>convI k (evO sl x)
 | .convS x=>convS (evO sl x)
 | .fn f cs=>XT (cloV f (evL sl cs))
 | .make s b z l c=>bnd (idx (evO sl l)) fun l=>bnd (idx (evO sl c)) fun c=>Zir base s b z l c
 | .slice s x lo hi=>XT (XS hp s (evM sl lo) (evM sl hi) (evO sl x))
 | .sliceS x lo hi=>XT (sliceS (evM sl lo) (evM sl hi) (evO sl x))
 | .slice0 x hi mx=>XT (slice0 hp (evO sl x) (idx (evO sl hi)) (idx (evO sl mx)))
 | .shift off x=>Ye off (evO sl x)
 | .part g s off x=>XT (ZcT g s off (evO sl x))
 | .iaS s x i=>bnd (idx (evO sl i)) fun n=>ZbN hp s (evO sl x) n
 | .iaA len s x i=>bnd (idx (evO sl i)) fun n=>Zgb (evO sl x) n len s
 | .ixS x i=>bnd (idx (evO sl i)) fun n=>Zme n (evO sl x)
 | .ixA g s len x i=>bnd (idx (evO sl i)) fun n=>Zoh g s len n (evO sl x)
 | .nth i x=>ZkV i (evO sl x)
 | .len x=>bnd (UK hp (evO sl x)) fun n=>Qf (.d (.int .i64 n))
 | .lenS x=>bnd (ZnF (evO sl x)) fun n=>Qf (.d (.int .i64 n))
 | .append s b str flat x y=>ZkW hp s b str flat base (evO sl x) (evO sl y)
 | .min x y=>Zez (evO sl x) (evO sl y)
 | .max x y=>ZeA (evO sl x) (evO sl y)
 | .call f as=>UP C M hp base (evL sl as) (evO sl f)
 | .slice3 _ x lo hi mx=>XT (slice3 hp (evO sl x) (idx (evO sl lo)) (idx (evO sl hi)) (idx (evO sl mx)))
 | .clear s z x=>Zak (JC hp s z (evO sl x))
 | .stuck=>none
 | .buildT s n xs=>buildT hp base s n (evL sl xs)
 | .appT s b _ x y=>appT hp s b base (evO sl x) (evO sl y)
 | .asgT s n x=>asgT base s n (evO sl x)
 | .makeT s b n z l c=>bnd (idx (evO sl l)) fun l=>bnd (idx (evO sl c)) fun c=>makeT base s b n z l c
section
variable (P:Program)
def Q2 (t:TypeId):Option TypeId:=match P.underlying t with
 | some (.slice e)=>some e
 | _=>none
def VR (t:TypeId):Bool:=match P.underlying t with
 | some .string=>true
 | _=>false
def Zbj (t:TypeId):Bool:=match P.underlying t with
 | some .bool=>true
 | _=>false
def Zoi (t:TypeId):Option IntKind:=match P.underlying t with
 | some (.int k)=>some k
 | _=>none
def Zb9 (t:TypeId):Option (Nat×TypeId):=match P.underlying t with
 | some (.array n e)=>some (n,e)
 | _=>none
def Jb (t:TypeId):Option Bool:=match P.underlying t with
 | some (.struct _)=>some true
 | some (.array _ _)=>some true
 | some _=>some false
 | none=>none
def JI (s:TypeId) (f:Nat):Option (Nat×TypeId):=match P.underlying s with
 | some (.struct fs)=>match fs[f]? with
  | some x=>if P.cellsOf x.type=0 then none else some (x.offset,x.type)
  | none=>none
 | _=>none
def Wc (t:TypeId):Option Value:=match P.info? t with
 | some i=>i.zero
 | none=>none
def Znh:Nat→TypeId→List TypeId
 | 0,t=>[t]
 | n+1,t=>match P.underlying t with
  | some (.struct fs)=>fs.toList.flatMap fun f=>Znh n f.type
  | some (.array k e)=>(List.replicate k (Znh n e)).flatten
  | _=>[t]
def slcT (t:TypeId):List (Option Nat):=(Znh P 4 t).map fun c=>(Q2 P c).map P.cellsOf
def flatE (t:TypeId):Bool:=(Znh P 4 t).all fun c=>match P.underlying c with
 | some (.int _)=>true
 | some .bool=>true
 | some .string=>true
 | _=>false
def W6:Nat→TypeId→Nat→Option (List (Nat×Nat))
 | 0,_,_=>none
 | n+1,t,off=>match P.underlying t with
  | some (.int _)=>if P.cellsOf t=1 then some [(off,0)] else none
  | some .bool=>if P.cellsOf t=1 then some [(off,1)] else none
  | some .string=>if P.cellsOf t=1 then some [(off,2)] else none
  | some (.struct fs)=>if P.stoodInHeld t then none else
    bnd (Z3 (fun f:Field=>if f.name = "_"∨P.cellsOf t<f.offset+P.cellsOf f.type then none else W6 n f.type (off+f.offset)) fs.toList) fun ls=>some ls.flatten
  | _=>none
def QR (t:TypeId):Bool:=match P.underlying t with
 | some (.struct _)=>true
 | _=>false
def ZkX (t:TypeId):Option (List Nat):=bnd (W6 P 5 t 0) fun ls=>
 if ls.map (·.1)=List.range (P.cellsOf t)∧QR P t=true∧P.eqGuardType P.depth t=false then some (ls.map (·.2)) else none
def ZkY (neg:Bool) (op:BinOp) (t:TypeId) (x y:Opd):Option (List Nat)→COp
 | some ks=>.eqA neg ks x y
 | none=>.bin op (Zbj P t) x y
def Zmf (op:BinOp) (t:TypeId) (x y:Opd):COp:=match op with
 | .eql=>ZkY P false .eql t x y (ZkX P t)
 | .neq=>ZkY P true .neq t x y (ZkX P t)
 | op=>.bin op (Zbj P t) x y
end
section
variable (P:Program)
def ZC:Operand→Option Opd
 | .tmp t=>some (.t t)
 | .const v=>some (.v (evC v))
 | .global _=>none
 | .func f=>some (.f f)
def ZkZ (pl:Nat→Option (Nat×Nat)) (q:Nat×Operand):Option (Nat×Nat×Opd):=bnd (pl q.1) fun p=>bnd (ZC q.2) fun x=>some (p.1,p.2,x)
def cOO:Option Operand→Option (Option Opd)
 | none=>some none
 | some x=>bnd (ZC x) fun y=>some (some y)
def JJ (t:TypeId):Option (Nat×TypeId)→Nat→Option (Nat×Nat)
 | none,i=>bnd (JI P t i) fun q=>some (q.1,P.cellsOf q.2)
 | some a,i=>some (i*P.cellsOf a.2,P.cellsOf a.2)
def YD (t:TypeId):Bool:=match P.info? t with
 | some i=>(match i.zero with
  | some z=>z.cells.size==i.size&&decide (0<i.size)
  | none=>false)
 | none=>false
def ZcV (t:TypeId):Bool:=match P.underlying t with
 | some (.struct fs)=>fs.toList.all fun f=>(P.info? f.type).isSome
 | some (.array _ e)=>(P.info? e).isSome
 | _=>false
def ZeB (e:TypeId) (u:TypeId):Option Bool:=match Q2 P u with
 | some e'=>if e'=e then some false else none
 | none=>if VR P u then some true else none
def Zgc (x i:Opd) (a:Option (Nat×TypeId)):Option TypeId→Option COp
 | some e=>if (P.info? e).isSome then some (.iaS (P.cellsOf e) x i) else none
 | none=>bnd a fun a=>if (P.info? a.2).isSome then some (.iaA a.1 (P.cellsOf a.2) x i) else none
def Zjy (x i:Opd) (str:Bool) (a:Option (Nat×TypeId)):Option COp:=
 if str then some (.ixS x i) else bnd a fun a=>bnd (Jb P a.2) fun g=>some (.ixA g (P.cellsOf a.2) a.1 x i)
def Zni (x:Opd) (ss sd:Bool):Option IntKind→Option IntKind→Option COp
 | some _,some k=>some (.convI k x)
 | _,_=>if ss&&sd then some (.convS x) else none
def cLen (x:Opd) (str:Bool):Option TypeId→Option COp
 | some _=>some (.len x)
 | none=>if str then some (.lenS x) else none
def Zmg (x:Opd) (lo hi:Option Opd) (str:Bool):Option TypeId→Option COp
 | some e=>if (P.info? e).isSome then some (.slice (P.cellsOf e) x lo hi) else none
 | none=>if str then some (.sliceS x lo hi) else none
def W7:Builtin→List Operand→List TypeId→Option COp
 | .len,[x],[t]=>bnd (ZC x) fun x=>cLen x (VR P t) (Q2 P t)
 | .append,[s,x],[t,u]=>bnd (Q2 P t) fun e=>bnd (ZeB P e u) fun str=>bnd (ZC s) fun s=>bnd (ZC x) fun x=>
   if YD P e then some (.append (P.cellsOf e) (P.bytesOf e) str (flatE P e) s x) else none
 | .min,[x,y],_=>bnd (ZC x) fun x=>bnd (ZC y) fun y=>some (.min x y)
 | .max,[x,y],_=>bnd (ZC x) fun x=>bnd (ZC y) fun y=>some (.max x y)
 | .clear,[x],[t]=>bnd (Q2 P t) fun e=>bnd (ZC x) fun x=>bnd (Wc P e) fun z=>bnd (evD z) fun z=>if YD P e then some (.clear (P.cellsOf e) z x) else none
 | _,_,_=>none
def teOf (t:TypeId):Nat:=match bnd (JI P t 1) fun q=>Q2 P q.2 with
 | some e=>e
 | none=>0
def cOp (ty:TypeId):Op→Option COp
 | .move x=>bnd (ZC x) fun x=>some (.move x)
 | .assign x=>bnd (ZC x) fun x=>some (.assign (bnd (Q2 P ty) fun e=>some (P.cellsOf e)) x)
 | .pick c a b=>bnd (ZC c) fun c=>bnd (ZC a) fun a=>bnd (ZC b) fun b=>some (.pick c a b)
 | .alloc t=>bnd (Wc P t) fun z=>some (.alloc (slcT P t) (bnT t (teOf P t) (evC z).cells))
 | .box _ x=>bnd (ZC x) fun x=>some (.box x)
 | .build t ps=>bnd (Wc P t) fun z=>bnd (Z3 (ZkZ (JJ P t (Zb9 P t))) ps.toList) fun qs=>if ZcV P t then some (.build (evC z).cells qs) else none
 | .buildSlice t n ps=>bnd (Q2 P t) fun e=>bnd (Z3 (fun q:Nat×Operand=>ZC q.2) ps.toList) fun xs=>
   if ps.toList.map (·.1)=List.range n∧n*P.cellsOf e≤16777216∧YD P e then some (.buildSl (P.cellsOf e) xs) else none
 | .load t a=>bnd (Jb P t) fun g=>bnd (ZC a) fun a=>some (.load g (P.cellsOf t) a)
 | .store t a x=>bnd (ZC a) fun a=>bnd (ZC x) fun x=>if (P.info? t).isSome then some (.store (slcT P t) (P.cellsOf t) a x) else none
 | .nilCheck x=>bnd (ZC x) fun x=>some (.nilCheck x)
 | .binOp op t x y _=>bnd (ZC x) fun x=>bnd (ZC y) fun y=>some (Zmf P op t x y)
 | .unOp op _ x=>bnd (ZC x) fun x=>some (.un op x)
 | .convert s d x=>bnd (ZC x) fun x=>Zni x (VR P s) (VR P d) (Zoi P s) (Zoi P d)
 | .makeFunc (.func f) fs cs=>if fs.toList.isEmpty then bnd (Z3 ZC cs.toList) fun cs=>some (.fn f cs) else none
 | .makeSlice t l c=>bnd (Q2 P t) fun e=>bnd (ZC l) fun l=>bnd (ZC c) fun c=>bnd (Wc P e) fun z=>bnd (evD z) fun z=>if YD P e then some (.make (P.cellsOf e) (P.bytesOf e) z l c) else none
 | .slice t x lo hi none=>bnd (ZC x) fun x=>bnd (cOO lo) fun lo=>bnd (cOO hi) fun hi=>Zmg P x lo hi (VR P t) (Q2 P t)
 | .slice t x none (some hi) (some mx)=>bnd (Q2 P t) fun e=>if (P.info? e).isSome then bnd (ZC x) fun x=>bnd (ZC hi) fun hi=>bnd (ZC mx) fun mx=>some (.slice0 x hi mx) else none
 | .slice t x (some lo) (some hi) (some mx)=>bnd (Q2 P t) fun e=>if (P.info? e).isSome then bnd (ZC x) fun x=>bnd (ZC lo) fun lo=>bnd (ZC hi) fun hi=>bnd (ZC mx) fun mx=>some (.slice3 (P.cellsOf e) x lo hi mx) else none
 | .fieldAddr s x f=>bnd (JI P s f) fun q=>bnd (ZC x) fun x=>some (.shift q.1 x)
 | .field t x f=>bnd (JI P t f) fun q=>bnd (Jb P q.2) fun g=>bnd (ZC x) fun x=>some (.part g (P.cellsOf q.2) q.1 x)
 | .indexAddr t x i=>bnd (ZC x) fun x=>bnd (ZC i) fun i=>Zgc P x i (Zb9 P t) (Q2 P t)
 | .index t x i=>bnd (ZC x) fun x=>bnd (ZC i) fun i=>Zjy P x i (VR P t) (Zb9 P t)
 | .extract x i=>bnd (ZC x) fun x=>some (.nth i x)
 | .call { callee:=.builtin b,args:=as,argTypes:=ts }=>W7 P b as.toList ts.toList
 | .call { callee:=.value f,args:=as,argTypes:=_ }=>bnd (ZC f) fun f=>bnd (Z3 ZC as.toList) fun as=>some (.call f as)
 | _=>none
def Zgd (ops:List Oper):Option (Nat×Bool)→Option (Option (Nat×Bool))
 | none=>some none
 | some q=>bnd ops[q.1]? fun g=>bnd g.dst fun t=>some (some (t,q.2))
def Qk (nt:Nat):Option Nat→Bool
 | none=>true
 | some t=>decide (t<nt)
def X0 (ops:Array Oper) (i:Nat):List Nat:=match ops[i]? with
 | some o=>(o.after.toList.filter fun e=>Region.binds .any e).map fun e=>e.on
 | none=>[]
def Zca (ops:Array Oper):Nat→Nat→Nat→Bool
 | 0,i,j=>(X0 ops i).contains j
 | n+1,i,j=>(X0 ops i).contains j || (X0 ops i).any fun z=>Zca ops n z j
def startO:Op→Bool
 | .call { callee:=.builtin .append,args:=_,argTypes:=_ }=>true
 | .buildSlice _ _ _=>true
 | _=>false
def callO:Op→Bool
 | .call { callee:=.value (.func _),args:=_,argTypes:=_ }=>true
 | _=>false
def Zpn:Op→Bool
 | .move _=>true
 | _=>false
def aheadO:Op→Bool
 | .store _ _ _=>false
 | .box _ _=>false
 | .assign _=>false
 | .makeFunc _ _ _=>false
 | .makeSlice _ _ _=>false
 | .call { callee:=.builtin .append,args:=_,argTypes:=_ }=>false
 | .call { callee:=.value _,args:=_,argTypes:=_ }=>false
 | _=>true
def ZqQ:Op→Bool
 | .move _=>true
 | .alloc _=>true
 | .buildSlice _ _ _=>true
 | .load _ _=>true
 | .nilCheck _=>true
 | .binOp _ _ _ _ _=>true
 | .unOp _ _ _=>true
 | .convert _ _ _=>true
 | .fieldAddr _ _ _=>true
 | .indexAddr _ _ _=>true
 | .slice _ _ _ _ _=>true
 | .call { callee:=.builtin .len,args:=_,argTypes:=_ }=>true
 | _=>false
def appO:Op→Bool
 | .call { callee:=.builtin .append,args:=_,argTypes:=_ }=>true
 | _=>false
def lookO:Op→Bool
 | .move _=>true
 | .load _ _=>true
 | .nilCheck _=>true
 | .binOp _ _ _ _ _=>true
 | .convert _ _ _=>true
 | .fieldAddr _ _ _=>true
 | .field _ _ _=>true
 | .extract _ _=>true
 | .indexAddr _ _ _=>true
 | .slice _ _ _ _ _=>true
 | .call { callee:=.builtin .len,args:=_,argTypes:=_ }=>true
 | _=>false
def atO (f:Op→Bool) (ops:List Oper) (k:Nat):Bool:=match ops[k]? with
 | some o=>f o.op
 | none=>false
def firmAt (ops:List Oper) (i:Nat):Bool:=
 (List.range ops.length).all fun k=>if k<i then Zca ops.toArray 6 i k || atO Zpn ops k else k==i || Zca ops.toArray 6 k i || atO Zpn ops k
def firmP (ops:List Oper) (i:Nat):Bool:=
 (List.range ops.length).all fun k=>if k<i then Zca ops.toArray 6 i k || atO lookO ops k else k==i || Zca ops.toArray 6 k i || atO Zpn ops k
def firmC (ops:List Oper) (i:Nat):Bool:=
 (List.range ops.length).all fun k=>if k<i then Zca ops.toArray 6 i k || atO aheadO ops k else k==i || Zca ops.toArray 6 k i || atO ZqQ ops k
def Zge (ops:List Oper) (o:Oper):Nat:=ops.findIdx fun x=>x.dst==o.dst
def firm (ops:List Oper) (o:Oper):Bool:=(startO o.op&&firmAt ops (Zge ops o)) || (callO o.op&&firmC ops (Zge ops o)) || (appO o.op&&firmP ops (Zge ops o))
def X1:Option COp→COp
 | some c=>c
 | none=>.stuck
def ZeC (nt:Nat) (ops:List Oper) (o:Oper):Option CO:=bnd (Zgd ops o.guard) fun g=>
 if Qk nt o.dst then some { dst:=o.dst,guard:=g,op:=X1 (cOp P o.type o.op),tl:=firm ops o } else none
end
end Go.Abs
