/- Own text. -/
import Derived.Test.YtnachaiejoflhaaAbsBase
set_option linter.unusedVariables false
set_option linter.unusedSimpArgs false
namespace Go.Abs
open Go
def mat:List (Option Nat)→List AV→Nat→List AV×Hp
 | some s :: ts,.nil :: vs,b=>let r:=mat ts vs (b+1);(.own b :: r.1,(b,.row s [] true false) :: r.2)
 | _ :: ts,v :: vs,b=>let r:=mat ts vs b;(v :: r.1,r.2)
 | _,vs,_=>(vs,[])
def ZeM:List AV→Bool
 | []=>false
 | .nil :: _=>true
 | _ :: r=>ZeM r
structure Eff where
 val:AV
 adds:Hp:=[]
 sets:Hp:=[]
 dels:List Nat:=[]
 frz:List Nat:=[]
def Zd:Hp→Hp→Hp
 | hp,[]=>hp
 | hp,(k,o) :: r=>Zd (ins hp k o) r
def del:Hp→Nat→Hp
 | [],_=>[]
 | (k,o) :: r,t=>if k=t then del r t else (k,o) :: del r t
def ZU:Hp→List Nat→Hp
 | hp,[]=>hp
 | hp,k :: r=>ZU (del hp k) r
def ZZ (ids:List Nat) (hp:Hp):Hp:=match ids with
 | []=>hp
 | _=>freeze ids hp
def Eff.on (e:Eff) (hp:Hp):Hp:=Zd (Zd (ZU (ZZ e.frz hp) e.dels) e.sets) e.adds
def Zpv:List AV→Nat→List AV→List AV
 | cs,_,[]=>cs
 | cs,off,v :: r=>Zpv (cs.set off v) (off+1) r
def ZfJ:List AV→List (Nat×Nat×AV)→Option (List AV)
 | cells,[]=>some cells
 | cells,q :: r=>if q.2.2.solid∧q.2.2.cells.length=q.2.1∧q.1+q.2.1≤cells.length then ZfJ (Zpv cells q.1 q.2.2.cells) r else none
def AV.atom:AV→Bool
 | .d x=>x.one
 | .agg _=>false
 | .tup _=>false
 | .clo _ _=>false
 | _=>true
def Zcp:List AV→Bool
 | []=>true
 | v :: r=>v.atom&&Zcp r
def cloV (f:Nat) (cs:List AV):Option AV:=if Zcp cs then some (.clo f cs) else none
def Zd0:AV→AV
 | .bbuf _ _=>.junk
 | v=>v
def WG (agg:Bool) (s off:Nat):Option Zj→Option AV
 | some (.box cs)=>if agg then (if off+s≤cs.length then some (VF ((cs.drop off).take s)) else none) else (cs[off]?).map Zd0
 | _=>none
def Uy (agg:Bool) (s off:Nat) (cs:List D):Option AV:=
 if agg then (if off+s≤cs.length then some (.d (.agg ((cs.drop off).take s))) else none) else asD cs[off]?
def Zd1 (agg:Bool) (s sz off:Nat) (x:D):Option AV:=if x.cells.length=sz then Uy agg s off x.cells else none
def ZfK (i off:Nat):Option (Option Nat×Nat×Nat)→Option AV
 | some (some nm,i',c)=>if i=i'∧off=c then some (.own nm) else none
 | _=>none
def VL (i off:Nat) (lk:Option (Option Nat×Nat×Nat)) (x:D):Option AV:=match x.cells[off]? with
 | some (.sl _)=>ZfK i off lk
 | some y=>if y.plain then some (.d y) else none
 | none=>none
def VM (id:Nat) (agg:Bool) (s sz i off:Nat):Option Zj→Option AV
 | some (.row sz' xs _ _)=>if sz=sz' then bnd xs[i]? (Zd1 agg s sz off) else none
 | some (.tree sz' _ xs lk)=>if sz=sz' then (if agg then none else bnd xs[i]? (VL i off lk)) else none
 | _=>none
def Y4 (hp:Hp) (agg:Bool) (s:Nat):AV→Option AV
 | .ptr id off=>WG agg s off (lkp hp id)
 | .prow id sz i off=>VM id agg s sz i off (lkp hp id)
 | .pim cs=>Uy agg s 0 cs
 | _=>none
def Zkz:AV→Option D
 | .d x=>if x.plain then some x else none
 | _=>none
def ZlV:List AV→Option (List D)
 | []=>some []
 | v :: r=>bnd (Zkz v) fun x=>bnd (ZlV r) fun ds=>some (x :: ds)
def ZbA (slc:List (Option Nat)) (s base id off:Nat) (vs:List AV):Option Zj→Option Eff
 | some (.box cs)=>if vs.length=s∧off+s≤cs.length∧QT vs∧QW cs=true then
    (if ZeM vs then some { val := .junk, adds := (mat slc vs base).2, sets := [(id, .box (Zl cs off (mat slc vs base).1))] }
      else some { val:=.junk,sets:=[(id,.box (Zl cs off vs))] })
   else none
 | _=>none
def D.notSl:D→Bool
 | .sl _=>false
 | _=>true
def Zcq (s id sz i off:Nat) (xs:List D) (ex:Bool) (x:D) (q:List D×Bool×List Nat):Option Eff:=
 if x.notSl∧x.cells.length=sz∧q.1.length=s∧off+s≤sz∧q.2.2.contains id=false then
  some { val:=.junk,sets:=[(id,.row sz (xs.set i (Xi x off q.1)) (ex&&q.2.1) false)],frz:=q.2.2 } else none
def Zcr (n id:Nat):Option Zj→Option (D×List Nat)
 | some (.row sz xs true false)=>if sz=n∧WM D.flat xs then some (.sl xs,[id]) else none
 | some (.tree sz n' xs none)=>if sz=n∧n'=n then some (.sl xs,[id]) else none
 | _=>none
def ZbB (hp:Hp) (n:Nat):AV→Option (D×List Nat)
 | .d x=>if x.plain then some (x,[]) else none
 | .nil=>some (.sl [],[])
 | .own id=>Zcr n id (lkp hp id)
 | _=>none
def Ys (hp:Hp) (n:Nat):List AV→Option (List D×List Nat)
 | []=>some ([],[])
 | v :: r=>bnd (ZbB hp n v) fun q=>bnd (Ys hp n r) fun p=>if !q.2.any p.2.contains then some (q.1 :: p.1,q.2++p.2) else none
def D.isAgg:D→Bool
 | .agg _=>true
 | _=>false
def VN (i off s:Nat):Option (Option Nat×Nat×Nat)→Option (Option Nat×Nat×Nat)
 | some (nm,i',c)=>if i=i'∧off≤c∧c<off+s then none else some (nm,i',c)
 | none=>none
def Zcs (s id sz n i off:Nat) (xs:List D) (lk:Option (Option Nat×Nat×Nat)) (x:D) (q:List D×List Nat):Option Eff:=
 if x.isAgg∧x.cells.length=sz∧q.1.length=s∧off+s≤sz∧q.2.contains id=false then
  some { val:=.junk,sets:=[(id,.tree sz n (xs.set i (Xi x off q.1)) (VN i off s lk))],dels:=q.2 } else none
def Uz (hp:Hp) (s id sz i off:Nat) (vs:List AV):Option Zj→Option Eff
 | some (.row sz' xs ex false)=>if sz=sz' then bnd xs[i]? fun x=>bnd (Yb hp vs) fun q=>Zcq s id sz i off xs ex x q else none
 | some (.tree sz' n xs lk)=>if sz=sz' then bnd xs[i]? fun x=>bnd (Ys hp n vs) fun q=>Zcs s id sz n i off xs lk x q else none
 | _=>none
def W3 (hp:Hp) (slc:List (Option Nat)) (s base:Nat) (vs:List AV):AV→Option Eff
 | .ptr id off=>ZbA slc s base id off vs (lkp hp id)
 | .prow id sz i off=>Uz hp s id sz i off vs (lkp hp id)
 | _=>none
def uni (s:Nat) (ys:List D):Prop:=∀ y∈ys,y.cells.length=s
def ZB:Nat:=140737488355328
def QG (ys:List D):Prop:=∀ y∈ys,y.flat=true
def ZkA (flat:Bool):Option Zj→Option (List D×Bool)
 | some (.row _ ys ex _)=>some (ys,ex || flat)
 | _=>none
def Zhg:AV→Option (List D×Bool)
 | .d (.str s)=>some (s.map fun b=>.int .u8 b.toNat,true)
 | _=>none
def Zgp (flat:Bool) (off n:Nat):Option Zj→Option (List D×Bool)
 | some (.row _ ys ex _)=>some ((ys.drop off).take n,ex || flat)
 | _=>none
def ZbC (hp:Hp) (flat:Bool):AV→Option (List D×Bool)
 | .nil=>some ([],true)
 | .d (.sl ys)=>some (ys,flat)
 | .own id=>ZkA flat (lkp hp id)
 | .ownv id off n=>Zgp flat off n (lkp hp id)
 | _=>none
def ZkB (sz base:Nat) (dels:List Nat) (xs:List D) (ex:Bool):Eff:=
 { val:=.own base,adds:=[(base,.row sz xs ex false)],dels:=dels }
def Zhh (sz by_ base id:Nat) (ys:List D) (ex' : Bool):Option Zj→Option Eff
 | some (.row sz' xs ex false)=>if sz'=sz∧(xs.length+ys.length)*by_≤ZB∧xs.length+ys.length≤ZB then some (ZkB sz base [id] (xs++ys) (ex&&ex')) else none
 | _=>none
def Zd2 (sz by_ base id n:Nat) (ys:List D) (ex' : Bool):Option Zj→Option Eff
 | some (.row sz' xs ex false)=>if sz'=sz∧(n+ys.length)*by_≤ZB∧n+ys.length≤ZB then some (ZkB sz base [id] (xs.take n++ys) (ex&&ex')) else none
 | _=>none
def Zd3 (sz base id n:Nat) (ys:List D) (ex' : Bool):Option Zj→Option Eff
 | some (.row sz' xs ex false)=>if sz'=sz∧0<xs.length∧n+ys.length≤xs.length then
   some { val:=.ownv base 0 (n+ys.length),adds:=[(base,.row sz (xs.take n++ys++xs.drop (n+ys.length)) (ex&&ex') false)],dels:=[id] } else none
 | _=>none
def ZcT (hp:Hp) (sz by_:Nat) (base:Nat) (src:List Nat) (ys:List D) (ex' : Bool):AV→Option Eff
 | .nil=>if ys.length*by_≤ZB∧ys.length≤ZB then some (ZkB sz base [] ys ex') else none
 | .own id=>if src.contains id then none else Zhh sz by_ base id ys ex' (lkp hp id)
 | .ownv id off n=>if off≠0 then none else if src.contains id then Zd3 sz base id n ys ex' (lkp hp id) else Zd2 sz by_ base id n ys ex' (lkp hp id)
 | _=>none
open Classical in
noncomputable def VO (hp:Hp) (sz by_:Nat) (str flat:Bool) (base:Nat) (s x:AV):Option Eff:=
 bnd (if str then Zhg x else ZbC hp flat x) fun q=>if uni sz q.1∧(flat=true→QG q.1) then ZcT hp sz by_ base (Jb x) q.1 q.2 s else none
def idx (i:AV):Option Int:=match i with
 | .d (.int _ n)=>some n
 | _=>none
def Zoy (sz:Nat) (y:D):Option AV:=if y.cells.length=sz then some (.pim y.cells) else none
def Jh (sz id n:Nat):Option Zj→Option AV
 | some (.row sz' xs _ _)=>if sz'=sz∧n<xs.length then some (.prow id sz n 0) else none
 | some (.tree sz' _ xs _)=>if sz'=sz∧n<xs.length then some (.prow id sz n 0) else none
 | _=>none
def UA (sz id off m n:Nat):Option Zj→Option AV
 | some (.row sz' _ _ _)=>if sz'=sz∧n<m then some (.prow id sz (off+n) 0) else none
 | _=>none
def Qg (hp:Hp) (sz n:Nat):AV→Option AV
 | .d (.sl xs)=>bnd xs[n]? (Zoy sz)
 | .own id=>Jh sz id n (lkp hp id)
 | .ownv id off m=>UA sz id off m n (lkp hp id)
 | _=>none
def bd (m:Nat) (v:AV):Option Nat:=bnd (idx v) fun n=>if 0≤n∧n≤m then some n.toNat else none
def hiOf (len:Nat):Option AV→Option Nat
 | none=>some len
 | some v=>bd len v
def loOf (h:Nat):Option AV→Option Nat
 | none=>some 0
 | some v=>bd h v
def ZkC (len:Nat) (lo hi:Option AV):Option (Nat×Nat):=bnd (hiOf len hi) fun h=>bnd (loOf h lo) fun l=>some (l,h)
def ZlW (id n:Nat):Option AV→Option AV→Option AV
 | none,none=>some (.own id)
 | lo,hi=>bnd (ZkC n lo hi) fun b=>some (.ownv id b.1 (b.2-b.1))
def UB (s id:Nat) (lo hi:Option AV):Option Zj→Option AV
 | some (.row sz xs _ _)=>if sz=s then ZlW id xs.length lo hi else none
 | _=>none
def Zqx (n m:Nat) (lo:Option AV):Option AV→Option (Nat×Nat)
 | none=>ZkC n lo none
 | some h=>ZkC m lo (some h)
def Wp (s id off n:Nat) (lo hi:Option AV):Option Zj→Option AV
 | some (.row sz xs _ _)=>if sz=s then bnd (Zqx n (xs.length-off) lo hi) fun b=>some (.ownv id (off+b.1) (b.2-b.1)) else none
 | _=>none
def slice3 (hp:Hp) (x:AV) (lo hi mx:Option Int):Option AV:=bnd lo fun l=>bnd hi fun h=>bnd mx fun m=>bnd (Jx hp x) fun n=>
 if 0≤l∧l≤h∧h≤m∧m≤n then some .junk else none
def Zd4 (s id off n:Nat) (z:D):Option Zj→Option Eff
 | some (.row sz xs ex false)=>if sz=s∧z.cells.length=s∧off+n≤xs.length then some { val:=.tup [],sets:=[(id,.row sz (xs.take off++List.replicate n z++xs.drop (off+n)) ex false)] } else none
 | _=>none
def Zar (hp:Hp) (s:Nat) (z:D):AV→Option Eff
 | .ownv id off n=>Zd4 s id off n z (lkp hp id)
 | _=>none
open Classical in
noncomputable def X8 (hp:Hp) (s:Nat) (lo hi:Option AV):AV→Option AV
 | .d (.sl xs)=>if uni s xs then bnd (ZkC xs.length lo hi) fun b=>some (.d (.sl ((xs.take b.2).drop b.1))) else none
 | .nil=>bnd (ZkC 0 lo hi) fun _=>some .nil
 | .own id=>UB s id lo hi (lkp hp id)
 | .ownv id off n=>Wp s id off n lo hi (lkp hp id)
 | _=>none
def sliceS (lo hi:Option AV):AV→Option AV
 | .d (.str s)=>bnd (ZkC s.length lo hi) fun b=>some (.d (.str ((s.take b.2).drop b.1)))
 | _=>none
def slice0 (hp:Hp) (x:AV) (hi mx:Option Int):Option AV:=match hi,mx with
 | some 0,some 0=>bnd (Jx hp x) fun _=>some .nil
 | _,_=>none
def Zd5 (agg:Bool) (s off:Nat):AV→Option AV
 | .d (.agg cs)=>Uy agg s off cs
 | .agg cs=>if agg then (if off+s≤cs.length then some (VF ((cs.drop off).take s)) else none) else cs[off]?
 | _=>none
abbrev Orc:=Nat→List AV→List Zj→Option (AV×List Zj)
abbrev Zh:=Nat→Nat→Bool
def Zas (hp:Hp) (id:Nat):Bool→Option AV
 | true=>some (.own id)
 | false=>asD (ZcF hp (.own id))
def ZbD:Bool→Option AV
 | true=>some .nil
 | false=>some (.d (.sl []))
def Zat (hp:Hp) (cs:List AV):Bool→Option AV
 | true=>if Jw cs then none else some (.agg cs)
 | false=>asD (toD hp (.agg cs))
def Ja (hp:Hp) (m:Bool):AV→Option AV
 | .ptr a b=>some (.ptr a b)
 | .clo f c=>some (.clo f c)
 | .nilp=>some .nilp
 | .nili=>some .nili
 | .pim c=>some (.pim c)
 | .own id=>Zas hp id m
 | .nil=>ZbD m
 | .d x=>some (.d x)
 | .agg cs=>Zat hp cs m
 | v=>asD (toD hp v)
def args (hp:Hp) (m:Nat→Bool):Nat→List AV→Option (List AV)
 | _,[]=>some []
 | i,v :: r=>bnd (Ja hp (m i) v) fun a=>bnd (args hp m (i+1) r) fun as=>some (a :: as)
def VQ (hp:Hp) (go:List Nat→List Nat→List Nat) (id:Nat) (todo acc:List Nat):Option Zj→List Nat
 | some o=>go (todo++VG o) (acc++[id])
 | none=>go todo acc
def Qz (hp:Hp):Nat→List Nat→List Nat→List Nat
 | 0,_,acc=>acc
 | _+1,[],acc=>acc
 | n+1,id :: todo,acc=>if acc.contains id then Qz hp n todo acc else VQ hp (Qz hp n) id todo acc (lkp hp id)
def Ye:List Nat→Nat→Nat
 | [],_=>0
 | x :: r,t=>if x=t then 0 else Ye r t+1
def ZlX:Option Zj→Zj
 | some o=>o
 | none=>.gone
def JA (hp:Hp):List Nat→List Zj
 | []=>[]
 | id :: r=>ZlX (lkp hp id) :: JA hp r
def WO (ids:List Nat) (o:Zj):Zj:=ZdI (Ye ids) (QH ((VG o).filter fun i=>!ids.contains i) o)
def ZbE:Option Zj→Bool
 | some (.row _ _ _ _)=>true
 | some (.tree _ _ _ _)=>true
 | some .gone=>true
 | _=>false
def UC:AV→Bool
 | .d x=>x.flat
 | .pim _=>false
 | .agg _=>false
 | .tup _=>false
 | .clo _ _=>false
 | _=>true
def JB:AV→Bool
 | .agg cs=>cs.all UC
 | .clo _ cs=>cs.all UC
 | v=>UC v
def ZjD:AV→Bool
 | .tup vs=>vs.all JB
 | v=>JB v
def ZbF:Zj→Bool
 | .box cs=>cs.all JB
 | .row _ _ ex fz=>ex&&!fz
 | .tree _ _ _ _=>true
 | .gone=>true
def Zde (d:Nat):Option Nat→Nat
 | some i=>i
 | none=>d
def Yt (ids:List Nat) (base k:Nat):Nat:=Zde (base+(k-ids.length)) ids[k]?
def UD (g:Nat→Nat):List Nat→List Zj→Hp
 | id :: ids,o :: os=>(id,ZdI g o) :: UD g ids os
 | _,_=>[]
def UE (g:Nat→Nat):Nat→List Zj→Hp
 | _,[]=>[]
 | k,o :: os=>(k,ZdI g o) :: UE g (k+1) os
structure Zb where
 eff:Eff
 gone:List Nat
def QZ (_hp:Hp):Nat:=1000
def Xo:List AV→List AV→List Nat
 | v :: vs,.d _ :: as=>Zah v++Xo vs as
 | _ :: vs,_ :: as=>Xo vs as
 | _,_=>[]
def UF:Option Zj→Bool
 | some (.tree _ _ _ _)=>true
 | _=>false
def ZeN:List Nat→List Zj→List Nat
 | id :: ids,.gone :: os=>id :: ZeN ids os
 | _ :: ids,_ :: os=>ZeN ids os
 | _,_=>[]
def ZeO (hp:Hp) (ids:List Nat) (out:List Zj):Bool→List Nat
 | true=>ZeN ids out
 | false=>ids.filter fun i=>ZbE (lkp hp i)
def WP (keep:Bool) (hp:Hp) (base:Nat) (ids lent:List Nat) (r:AV) (out:List Zj):Option Zb:=
 if out.length<ids.length then none else if !(ZjD r&&out.all ZbF)&&lent.any fun i=>UF (lkp hp i) then none else
  some { eff := { val:=ren (Yt ids base) r,adds:=UE (Yt ids base) base (out.drop ids.length),sets:=UD (Yt ids base) ids out,frz:=if ZjD r&&out.all ZbF then [] else lent },gone:=ZeO hp ids out keep }
def Wh:AV→List Nat
 | .ptr id _=>[id]
 | .clo _ cs=>cs.flatMap Zf
 | _=>[]
def Ug (hp:Hp) (rs ids:List Nat):Bool:=ids.all fun i=>ZbE (lkp hp i) || rs.contains i
def Zau (C:Orc) (keep:Bool) (hp:Hp) (base f:Nat) (lent:List Nat) (as:List AV) (ids:List Nat):Option Zb:=
 if (as.flatMap Zn).all ids.contains∧¬lent.any ids.contains∧Ug hp (as.flatMap Wh) ids=true then
  bnd (C f (as.map (ren (Ye ids))) ((JA hp ids).map (WO ids))) fun q=>WP keep hp base ids lent q.1 q.2
 else none
def Ji (C:Orc) (m:Nat→Bool) (hp:Hp) (base f:Nat) (avs:List AV):Option Zb:=
 bnd (args hp m 0 avs) fun as=>Zau C (m 99) hp base f (Xo avs as) as (Qz hp (QZ hp) (as.flatMap Zn) [])
def Qs (v:AV):Option Zb:=some { eff := { val:=v },gone:=[] }
def X9 (v:Option AV):Option Zb:=bnd v Qs
def Zbi (e:Option Eff):Option Zb:=bnd e fun e=>some { eff:=e,gone:=[] }
def Zav (base:Nat) (e:Option Nat):AV→Option Zb
 | .nil=>bnd e fun s=>some { eff := { val:=.own base,adds:=[(base,.row s [] true false)] },gone:=[] }
 | v=>Qs v
def ZbG (a b:AV):AV→Option Zb
 | .d (.bool t)=>if t then Qs a else Qs b
 | _=>none
def Zdf (base:Nat):AV→AV
 | .bnil _ e=>.bnil base e
 | v=>v
def bnT (t te:Nat):List AV→List AV
 | [.nilp,.nil]=>[.bnil 0 t,.bbuf te []]
 | cs=>cs
def Zqy:List AV→Bool
 | [.bnil _ _,.bbuf _ []]=>true
 | _=>false
def Zhi (slc:List (Option Nat)) (base:Nat) (cs:List AV):Option Zb:=
 if QW cs=false then (if Zqy cs=true then some { eff := { val:=.ptr base 0,adds:=[(base,.box cs)] },gone:=[] } else none) else
 if ZeM cs then some { eff := { val:=.ptr base 0,adds:=(base,.box (mat slc cs (base+1)).1) :: (mat slc cs (base+1)).2 },gone:=[] }
 else some { eff := { val:=.ptr base 0,adds:=[(base,.box cs)] },gone:=[] }
def ZbH (slc:List (Option Nat)) (base:Nat) (cs:List AV):Option Zb:=Zhi slc base (cs.map (Zdf base))
def Zpw (base:Nat) (x:AV):Option Zb:=if x.solid&&QW x.cells then some { eff := { val:=.ptr base 0,adds:=[(base,.box x.cells)] },gone:=[] } else none
def Zhj (zs:List AV) (ps:List (Nat×Nat×AV)):Option Zb:=bnd (ZfJ zs ps) fun cs=>Qs (VF cs)
def Zpx (base s:Nat) (q:List D×Bool×List Nat):Option Zb:=
 if q.1.all (fun d=>d.cells.length==s) then some { eff := { val:=.own base,adds:=[(base,.row s q.1 q.2.1 false)],frz:=q.2.2 },gone:=[] } else none
def buildSl (hp:Hp) (base s:Nat):List AV→Option Zb
 | []=>Qs .nil
 | v :: vs=>bnd (YJ hp (v :: vs)) (Zpx base s)
def Vi (hp:Hp) (n s:Nat):List AV→Option (List D×List Nat)
 | []=>some ([],[])
 | .agg cs :: r=>bnd (Ys hp n cs) fun q=>bnd (Vi hp n s r) fun p=>
   if q.1.length=s∧(!q.2.any p.2.contains)=true then some (.agg q.1 :: p.1,q.2++p.2) else none
 | _=>none
def asgT (base s n:Nat):AV→Option Zb
 | .nil=>some { eff := { val:=.own base,adds:=[(base,.tree s n [] none)] },gone:=[] }
 | _=>none
def buildT (hp:Hp) (base s n:Nat) (vs:List AV):Option Zb:=
 if vs.isEmpty=false then bnd (Vi hp n s vs) fun q=>some { eff := { val:=.own base,adds:=[(base,.tree s n q.1 none)],dels:=q.2 },gone:=[] } else none
def Wq:AV→Option Zb
 | .ptr a b=>Qs (.ptr a b)
 | .prow a b c d=>Qs (.prow a b c d)
 | .pim c=>Qs (.pim c)
 | .clo f c=>Qs (.clo f c)
 | _=>none
def Zhk (op:BinOp) (eq:Bool):AV→AV→Option Zb
 | .d (.bool a),.d (.bool b)=>if eq then X9 (Zje op a b) else none
 | a,b=>X9 (vbin op a b)
def We:List Nat→List D→List D→Option Bool
 | [],[],[]=>some true
 | 0 :: ks,.int k a :: cs,.int k' b :: ds=>if k=k' then bnd (We ks cs ds) fun r=>some (decide (a=b)&&r) else none
 | 1 :: ks,.bool a :: cs,.bool b :: ds=>bnd (We ks cs ds) fun r=>some (decide (a=b)&&r)
 | 2 :: ks,.str a :: cs,.str b :: ds=>bnd (We ks cs ds) fun r=>some (decide (a=b)&&r)
 | _,_,_=>none
def Zhl (neg:Bool) (r:Bool):Bool:=if neg then !r else r
def ZkD (neg:Bool) (ks:List Nat):AV→AV→Option Zb
 | .d (.agg cs),.d (.agg ds)=>bnd (We ks cs ds) fun r=>Qs (.d (.bool (Zhl neg r)))
 | _,_=>none
def convI (k:IntKind):AV→Option Zb
 | .d (.int _ n)=>Qs (.d (.int k (k.wrap n)))
 | _=>none
def convS:AV→Option Zb
 | .d (.str s)=>Qs (.d (.str s))
 | _=>none
def ZjE (base s b:Nat) (z:D) (l c:Int):Option Zb:=
 if 0≤l∧l≤c∧c*b≤ZB∧c≤ZB∧z.cells.length=s then
  some { eff := { val:=.own base,adds:=[(base,.row s (List.replicate l.toNat z) true false)] },gone:=[] } else none
def makeT (base s b ns:Nat) (z:D) (l c:Int):Option Zb:=
 if 0≤l∧l≤c∧c*b≤ZB∧c≤ZB∧z.cells.length=s∧z.isAgg=true then
  some { eff := { val:=.own base,adds:=[(base,.tree s ns (List.replicate l.toNat z) none)] },gone:=[] } else none
def Yu (off:Nat):AV→Option Zb
 | .ptr id o=>Qs (.ptr id (o+off))
 | .prow id sz i o=>Qs (.prow id sz i (o+off))
 | .pim cs=>Qs (.pim (cs.drop off))
 | _=>none
def Zhm (x:AV) (n:Int) (len s:Nat):Option Zb:=if 0≤n∧n<len then Yu (n.toNat*s) x else none
def ZcU (hp:Hp) (s:Nat) (x:AV) (n:Int):Option Zb:=if 0≤n then X9 (Qg hp s n.toNat x) else none
def ZlY (s:List UInt8) (n:Int):Option Zb:=if 0≤n then bnd s[n.toNat]? fun b=>Qs (.d (.int .u8 b.toNat)) else none
def Zpy (g:Bool) (s len:Nat) (n:Int) (v:AV):Option Zb:=if 0≤n∧n<len then X9 (Zd5 g s (n.toNat*s) v) else none
def Znx (n:Int):AV→Option Zb
 | .d (.str s)=>ZlY s n
 | _=>none
def ZlZ (i:Nat):AV→Option Zb
 | .tup vs=>X9 vs[i]?
 | _=>none
def ZeP:Option Zj→Option (Nat×Nat×List D)
 | some (.tree s n xs none)=>some (s,n,xs)
 | _=>none
def Zaw (hp:Hp):AV→Option (Nat×Nat×Nat×List D)
 | .own id=>bnd (ZeP (lkp hp id)) fun q=>some (id,q)
 | _=>none
def Jj (hp:Hp) (s b base id n:Nat) (ys:List D):AV→Option Eff
 | .nil=>if ys.length*b≤ZB∧ys.length≤ZB then some { val:=.own base,adds:=[(base,.tree s n ys none)],dels:=[id] } else none
 | .own id1=>bnd (ZeP (lkp hp id1)) fun q=>if q.1=s∧q.2.1=n∧id1≠id∧(q.2.2.length+ys.length)*b≤ZB∧q.2.2.length+ys.length≤ZB then
   some { val:=.own base,adds:=[(base,.tree s n (q.2.2++ys) none)],dels:=[id1,id] } else none
 | _=>none
def VR (xs:List D) (i c:Nat):Option (List D):=bnd xs[i]? fun x=>match x.cells[c]? with
 | some (.sl ys)=>some ys
 | _=>none
def XN (hp:Hp):AV→List Nat
 | .own id=>if UF (lkp hp id) then [id] else []
 | _=>[]
def Zd6:Zj→Zj
 | .tree s _ xs none=>.row s xs true false
 | o=>o
def meltIn (hp:Hp):List Nat→Hp
 | []=>hp
 | i :: r=>match lkp hp i with
  | some o=>ins (meltIn hp r) i (Zd6 o)
  | none=>meltIn hp r
noncomputable def YL (hp:Hp) (s b:Nat) (str flat:Bool) (base:Nat) (x y:AV):List Nat→Option Eff
 | []=>VO hp s b str flat base x y
 | i :: r=>if flat then none else bnd (VO (meltIn hp (i :: r)) s b str flat base x y) fun e=>some { val:=e.val,adds:=e.adds,sets:=e.sets,dels:=e.dels++(i :: r),frz:=e.frz }
def appT (hp:Hp) (s b base:Nat) (x y:AV):Option Zb:=Zbi (bnd (Zaw hp y) fun q=>if q.2.1=s then Jj hp s b base q.1 q.2.2.1 q.2.2.2 x else none)
noncomputable def Zl0 (hp:Hp) (s b:Nat) (str flat:Bool) (base:Nat) (x y:AV):Option Zb:=Zbi (YL hp s b str flat base x y (XN hp x++XN hp y))
def ZfL:AV→AV→Option Zb
 | .d (.int k a),.d (.int k' b)=>if k=k' then Qs (.d (.int k (minI a b))) else none
 | _,_=>none
def ZfM:AV→AV→Option Zb
 | .d (.int k a),.d (.int k' b)=>if k=k' then Qs (.d (.int k (maxI a b))) else none
 | _,_=>none
inductive Opd where
 | t (n:Nat)
 | v (a:AV)
 | f (n:Nat)
def evO (sl:Sl):Opd→AV
 | .t n=>gs sl n
 | .v a=>a
 | .f n=>.clo n []
def evL (sl:Sl):List Opd→List AV
 | []=>[]
 | x :: r=>evO sl x :: evL sl r
def evP (sl:Sl):List (Nat×Nat×Opd)→List (Nat×Nat×AV)
 | []=>[]
 | (a,b,x) :: r=>(a,b,evO sl x) :: evP sl r
def evM (sl:Sl):Option Opd→Option AV
 | none=>none
 | some x=>some (evO sl x)
inductive COp where
 | move (x:Opd)
 | assign (s:Option Nat) (x:Opd)
 | pick (c a b:Opd)
 | alloc (slc:List (Option Nat)) (cs:List AV)
 | box (x:Opd)
 | build (zs:List AV) (ps:List (Nat×Nat×Opd))
 | buildSl (s:Nat) (xs:List Opd)
 | load (g:Bool) (s:Nat) (a:Opd)
 | store (slc:List (Option Nat)) (s:Nat) (a x:Opd)
 | nilCheck (x:Opd)
 | bin (op:BinOp) (eq:Bool) (x y:Opd)
 | un (op:UnOp) (x:Opd)
 | eqA (neg:Bool) (ks:List Nat) (x y:Opd)
 | convI (k:IntKind) (x:Opd)
 | convS (x:Opd)
 | fn (f:Nat) (caps:List Opd)
 | make (s b:Nat) (z:D) (l c:Opd)
 | slice (s:Nat) (x:Opd) (lo hi:Option Opd)
 | sliceS (x:Opd) (lo hi:Option Opd)
 | slice0 (x hi mx:Opd)
 | shift (off:Nat) (x:Opd)
 | part (g:Bool) (s off:Nat) (x:Opd)
 | iaS (s:Nat) (x i:Opd)
 | iaA (len s:Nat) (x i:Opd)
 | ixS (x i:Opd)
 | ixA (g:Bool) (s len:Nat) (x i:Opd)
 | nth (i:Nat) (x:Opd)
 | len (x:Opd)
 | lenS (x:Opd)
 | append (s b:Nat) (str flat:Bool) (x y:Opd)
 | min (x y:Opd)
 | max (x y:Opd)
 | call (f:Opd) (as:List Opd)
 | slice3 (s:Nat) (x lo hi mx:Opd)
 | clear (s:Nat) (z:D) (x:Opd)
 | stuck
 | buildT (s n:Nat) (xs:List Opd)
 | appT (s b:Nat) (flat:Bool) (x y:Opd)
 | asgT (s n:Nat) (x:Opd)
 | makeT (s b n:Nat) (z:D) (l c:Opd)
structure CO where
 dst:Option Nat
 guard:Option (Nat×Bool)
 op:COp
 tl:Bool
def JC (C:Orc) (M:Zh) (hp:Hp) (base:Nat) (as:List AV):AV→Option Zb
 | .clo g caps=>Ji C (M g) hp base g (as++caps)
 | _=>none
noncomputable def vop (C:Orc) (M:Zh) (sl:Sl) (hp:Hp) (base:Nat):COp→Option Zb
 | .move x=>Qs (evO sl x)
 | .assign s x=>Zav base s (evO sl x)
 | .pick c a b=>ZbG (evO sl a) (evO sl b) (evO sl c)
 | .alloc slc cs=>ZbH slc base cs
 | .box x=>Zpw base (evO sl x)
 | .build zs ps=>Zhj zs (evP sl ps)
 | .buildSl s xs=>buildSl hp base s (evL sl xs)
 | .load g s a=>X9 (Y4 hp g s (evO sl a))
 | .store slc s a x=>Zbi (W3 hp slc s base (evO sl x).cells (evO sl a))
 | .nilCheck x=>Wq (evO sl x)
 | .bin op eq x y=>Zhk op eq (evO sl x) (evO sl y)
 | .un op x=>X9 (vun op (evO sl x))
 | .eqA neg ks x y=>ZkD neg ks (evO sl x) (evO sl y)
 | .convI k x=>convI k (evO sl x)
 | .convS x=>convS (evO sl x)
 | .fn f cs=>X9 (cloV f (evL sl cs))
 | .make s b z l c=>bnd (idx (evO sl l)) fun l=>bnd (idx (evO sl c)) fun c=>ZjE base s b z l c
 | .slice s x lo hi=>X9 (X8 hp s (evM sl lo) (evM sl hi) (evO sl x))
 | .sliceS x lo hi=>X9 (sliceS (evM sl lo) (evM sl hi) (evO sl x))
 | .slice0 x hi mx=>X9 (slice0 hp (evO sl x) (idx (evO sl hi)) (idx (evO sl mx)))
 | .shift off x=>Yu off (evO sl x)
 | .part g s off x=>X9 (Zd5 g s off (evO sl x))
 | .iaS s x i=>bnd (idx (evO sl i)) fun n=>ZcU hp s (evO sl x) n
 | .iaA len s x i=>bnd (idx (evO sl i)) fun n=>Zhm (evO sl x) n len s
 | .ixS x i=>bnd (idx (evO sl i)) fun n=>Znx n (evO sl x)
 | .ixA g s len x i=>bnd (idx (evO sl i)) fun n=>Zpy g s len n (evO sl x)
 | .nth i x=>ZlZ i (evO sl x)
 | .len x=>bnd (Jx hp (evO sl x)) fun n=>Qs (.d (.int .i64 n))
 | .lenS x=>bnd (ZoW (evO sl x)) fun n=>Qs (.d (.int .i64 n))
 | .append s b str flat x y=>Zl0 hp s b str flat base (evO sl x) (evO sl y)
 | .min x y=>ZfL (evO sl x) (evO sl y)
 | .max x y=>ZfM (evO sl x) (evO sl y)
 | .call f as=>JC C M hp base (evL sl as) (evO sl f)
 | .slice3 _ x lo hi mx=>X9 (slice3 hp (evO sl x) (idx (evO sl lo)) (idx (evO sl hi)) (idx (evO sl mx)))
 | .clear s z x=>Zbi (Zar hp s z (evO sl x))
 | .stuck=>none
 | .buildT s n xs=>buildT hp base s n (evL sl xs)
 | .appT s b _ x y=>appT hp s b base (evO sl x) (evO sl y)
 | .asgT s n x=>asgT base s n (evO sl x)
 | .makeT s b n z l c=>bnd (idx (evO sl l)) fun l=>bnd (idx (evO sl c)) fun c=>makeT base s b n z l c
section
variable (P:Program)
def Q5 (t:TypeId):Option TypeId:=match P.underlying t with
 | some (.slice e)=>some e
 | _=>none
def Wr (t:TypeId):Bool:=match P.underlying t with
 | some .string=>true
 | _=>false
def Zct (t:TypeId):Bool:=match P.underlying t with
 | some .bool=>true
 | _=>false
def Zpz (t:TypeId):Option IntKind:=match P.underlying t with
 | some (.int k)=>some k
 | _=>none
def Zdg (t:TypeId):Option (Nat×TypeId):=match P.underlying t with
 | some (.array n e)=>some (n,e)
 | _=>none
def J2 (t:TypeId):Option Bool:=match P.underlying t with
 | some (.struct _)=>some true
 | some (.array _ _)=>some true
 | some _=>some false
 | none=>none
def Zax (s:TypeId) (f:Nat):Option (Nat×TypeId):=match P.underlying s with
 | some (.struct fs)=>match fs[f]? with
  | some x=>if P.cellsOf x.type=0 then none else some (x.offset,x.type)
  | none=>none
 | _=>none
def WQ (t:TypeId):Option Value:=match P.info? t with
 | some i=>i.zero
 | none=>none
def Zoz:Nat→TypeId→List TypeId
 | 0,t=>[t]
 | n+1,t=>match P.underlying t with
  | some (.struct fs)=>fs.toList.flatMap fun f=>Zoz n f.type
  | some (.array k e)=>(List.replicate k (Zoz n e)).flatten
  | _=>[t]
def slcT (t:TypeId):List (Option Nat):=(Zoz P 4 t).map fun c=>(Q5 P c).map P.cellsOf
def flatE (t:TypeId):Bool:=(Zoz P 4 t).all fun c=>match P.underlying c with
 | some (.int _)=>true
 | some .bool=>true
 | some .string=>true
 | _=>false
def UG:Nat→TypeId→Nat→Option (List (Nat×Nat))
 | 0,_,_=>none
 | n+1,t,off=>match P.underlying t with
  | some (.int _)=>if P.cellsOf t=1 then some [(off,0)] else none
  | some .bool=>if P.cellsOf t=1 then some [(off,1)] else none
  | some .string=>if P.cellsOf t=1 then some [(off,2)] else none
  | some (.struct fs)=>if P.stoodInHeld t then none else
    bnd (Qd (fun f:Field=>if f.name = "_"∨P.cellsOf t<f.offset+P.cellsOf f.type then none else UG n f.type (off+f.offset)) fs.toList) fun ls=>some ls.flatten
  | _=>none
def QY (t:TypeId):Bool:=match P.underlying t with
 | some (.struct _)=>true
 | _=>false
def Zl1 (t:TypeId):Option (List Nat):=bnd (UG P 5 t 0) fun ls=>
 if ls.map (·.1)=List.range (P.cellsOf t)∧QY P t=true∧P.eqGuardType P.depth t=false then some (ls.map (·.2)) else none
def Zl2 (neg:Bool) (op:BinOp) (t:TypeId) (x y:Opd):Option (List Nat)→COp
 | some ks=>.eqA neg ks x y
 | none=>.bin op (Zct P t) x y
def Zny (op:BinOp) (t:TypeId) (x y:Opd):COp:=match op with
 | .eql=>Zl2 P false .eql t x y (Zl1 P t)
 | .neq=>Zl2 P true .neq t x y (Zl1 P t)
 | op=>.bin op (Zct P t) x y
end
section
variable (P:Program)
def ZJ:Operand→Option Opd
 | .tmp t=>some (.t t)
 | .const v=>some (.v (evC v))
 | .global _=>none
 | .func f=>some (.f f)
def Zl3 (pl:Nat→Option (Nat×Nat)) (q:Nat×Operand):Option (Nat×Nat×Opd):=bnd (pl q.1) fun p=>bnd (ZJ q.2) fun x=>some (p.1,p.2,x)
def cOO:Option Operand→Option (Option Opd)
 | none=>some none
 | some x=>bnd (ZJ x) fun y=>some (some y)
def Zay (t:TypeId):Option (Nat×TypeId)→Nat→Option (Nat×Nat)
 | none,i=>bnd (Zax P t i) fun q=>some (q.1,P.cellsOf q.2)
 | some a,i=>some (i*P.cellsOf a.2,P.cellsOf a.2)
def YZ (t:TypeId):Bool:=match P.info? t with
 | some i=>(match i.zero with
  | some z=>z.cells.size==i.size&&decide (0<i.size)
  | none=>false)
 | none=>false
def Zd7 (t:TypeId):Bool:=match P.underlying t with
 | some (.struct fs)=>fs.toList.all fun f=>(P.info? f.type).isSome
 | some (.array _ e)=>(P.info? e).isSome
 | _=>false
def ZfN (e:TypeId) (u:TypeId):Option Bool:=match Q5 P u with
 | some e'=>if e'=e then some false else none
 | none=>if Wr P u then some true else none
def Zhn (x i:Opd) (a:Option (Nat×TypeId)):Option TypeId→Option COp
 | some e=>if (P.info? e).isSome then some (.iaS (P.cellsOf e) x i) else none
 | none=>bnd a fun a=>if (P.info? a.2).isSome then some (.iaA a.1 (P.cellsOf a.2) x i) else none
def ZkE (x i:Opd) (str:Bool) (a:Option (Nat×TypeId)):Option COp:=
 if str then some (.ixS x i) else bnd a fun a=>bnd (J2 P a.2) fun g=>some (.ixA g (P.cellsOf a.2) a.1 x i)
def ZoA (x:Opd) (ss sd:Bool):Option IntKind→Option IntKind→Option COp
 | some _,some k=>some (.convI k x)
 | _,_=>if ss&&sd then some (.convS x) else none
def cLen (x:Opd) (str:Bool):Option TypeId→Option COp
 | some _=>some (.len x)
 | none=>if str then some (.lenS x) else none
def Znz (x:Opd) (lo hi:Option Opd) (str:Bool):Option TypeId→Option COp
 | some e=>if (P.info? e).isSome then some (.slice (P.cellsOf e) x lo hi) else none
 | none=>if str then some (.sliceS x lo hi) else none
def UH:Builtin→List Operand→List TypeId→Option COp
 | .len,[x],[t]=>bnd (ZJ x) fun x=>cLen x (Wr P t) (Q5 P t)
 | .append,[s,x],[t,u]=>bnd (Q5 P t) fun e=>bnd (ZfN P e u) fun str=>bnd (ZJ s) fun s=>bnd (ZJ x) fun x=>
   if YZ P e then some (.append (P.cellsOf e) (P.bytesOf e) str (flatE P e) s x) else none
 | .min,[x,y],_=>bnd (ZJ x) fun x=>bnd (ZJ y) fun y=>some (.min x y)
 | .max,[x,y],_=>bnd (ZJ x) fun x=>bnd (ZJ y) fun y=>some (.max x y)
 | .clear,[x],[t]=>bnd (Q5 P t) fun e=>bnd (ZJ x) fun x=>bnd (WQ P e) fun z=>bnd (evD z) fun z=>if YZ P e then some (.clear (P.cellsOf e) z x) else none
 | _,_,_=>none
def teOf (t:TypeId):Nat:=match bnd (Zax P t 1) fun q=>Q5 P q.2 with
 | some e=>e
 | none=>0
def cOp (ty:TypeId):Op→Option COp
 | .move x=>bnd (ZJ x) fun x=>some (.move x)
 | .assign x=>bnd (ZJ x) fun x=>some (.assign (bnd (Q5 P ty) fun e=>some (P.cellsOf e)) x)
 | .pick c a b=>bnd (ZJ c) fun c=>bnd (ZJ a) fun a=>bnd (ZJ b) fun b=>some (.pick c a b)
 | .alloc t=>bnd (WQ P t) fun z=>some (.alloc (slcT P t) (bnT t (teOf P t) (evC z).cells))
 | .box _ x=>bnd (ZJ x) fun x=>some (.box x)
 | .build t ps=>bnd (WQ P t) fun z=>bnd (Qd (Zl3 (Zay P t (Zdg P t))) ps.toList) fun qs=>if Zd7 P t then some (.build (evC z).cells qs) else none
 | .buildSlice t n ps=>bnd (Q5 P t) fun e=>bnd (Qd (fun q:Nat×Operand=>ZJ q.2) ps.toList) fun xs=>
   if ps.toList.map (·.1)=List.range n∧n*P.cellsOf e≤16777216∧YZ P e then some (.buildSl (P.cellsOf e) xs) else none
 | .load t a=>bnd (J2 P t) fun g=>bnd (ZJ a) fun a=>some (.load g (P.cellsOf t) a)
 | .store t a x=>bnd (ZJ a) fun a=>bnd (ZJ x) fun x=>if (P.info? t).isSome then some (.store (slcT P t) (P.cellsOf t) a x) else none
 | .nilCheck x=>bnd (ZJ x) fun x=>some (.nilCheck x)
 | .binOp op t x y _=>bnd (ZJ x) fun x=>bnd (ZJ y) fun y=>some (Zny P op t x y)
 | .unOp op _ x=>bnd (ZJ x) fun x=>some (.un op x)
 | .convert s d x=>bnd (ZJ x) fun x=>ZoA x (Wr P s) (Wr P d) (Zpz P s) (Zpz P d)
 | .makeFunc (.func f) fs cs=>if fs.toList.isEmpty then bnd (Qd ZJ cs.toList) fun cs=>some (.fn f cs) else none
 | .makeSlice t l c=>bnd (Q5 P t) fun e=>bnd (ZJ l) fun l=>bnd (ZJ c) fun c=>bnd (WQ P e) fun z=>bnd (evD z) fun z=>if YZ P e then some (.make (P.cellsOf e) (P.bytesOf e) z l c) else none
 | .slice t x lo hi none=>bnd (ZJ x) fun x=>bnd (cOO lo) fun lo=>bnd (cOO hi) fun hi=>Znz P x lo hi (Wr P t) (Q5 P t)
 | .slice t x none (some hi) (some mx)=>bnd (Q5 P t) fun e=>if (P.info? e).isSome then bnd (ZJ x) fun x=>bnd (ZJ hi) fun hi=>bnd (ZJ mx) fun mx=>some (.slice0 x hi mx) else none
 | .slice t x (some lo) (some hi) (some mx)=>bnd (Q5 P t) fun e=>if (P.info? e).isSome then bnd (ZJ x) fun x=>bnd (ZJ lo) fun lo=>bnd (ZJ hi) fun hi=>bnd (ZJ mx) fun mx=>some (.slice3 (P.cellsOf e) x lo hi mx) else none
 | .fieldAddr s x f=>bnd (Zax P s f) fun q=>bnd (ZJ x) fun x=>some (.shift q.1 x)
 | .field t x f=>bnd (Zax P t f) fun q=>bnd (J2 P q.2) fun g=>bnd (ZJ x) fun x=>some (.part g (P.cellsOf q.2) q.1 x)
 | .indexAddr t x i=>bnd (ZJ x) fun x=>bnd (ZJ i) fun i=>Zhn P x i (Zdg P t) (Q5 P t)
 | .index t x i=>bnd (ZJ x) fun x=>bnd (ZJ i) fun i=>ZkE P x i (Wr P t) (Zdg P t)
 | .extract x i=>bnd (ZJ x) fun x=>some (.nth i x)
 | .call { callee:=.builtin b,args:=as,argTypes:=ts }=>UH P b as.toList ts.toList
 | .call { callee:=.value f,args:=as,argTypes:=_ }=>bnd (ZJ f) fun f=>bnd (Qd ZJ as.toList) fun as=>some (.call f as)
 | _=>none
def Zho (ops:List Oper):Option (Nat×Bool)→Option (Option (Nat×Bool))
 | none=>some none
 | some q=>bnd ops[q.1]? fun g=>bnd g.dst fun t=>some (some (t,q.2))
def Qv (nt:Nat):Option Nat→Bool
 | none=>true
 | some t=>decide (t<nt)
def Yf (ops:Array Oper) (i:Nat):List Nat:=match ops[i]? with
 | some o=>(o.after.toList.filter fun e=>Region.binds .any e).map fun e=>e.on
 | none=>[]
def Zdh (ops:Array Oper):Nat→Nat→Nat→Bool
 | 0,i,j=>(Yf ops i).contains j
 | n+1,i,j=>(Yf ops i).contains j || (Yf ops i).any fun z=>Zdh ops n z j
def startO:Op→Bool
 | .call { callee:=.builtin .append,args:=_,argTypes:=_ }=>true
 | .buildSlice _ _ _=>true
 | _=>false
def callO:Op→Bool
 | .call { callee:=.value (.func _),args:=_,argTypes:=_ }=>true
 | _=>false
def Zqz:Op→Bool
 | .move _=>true
 | _=>false
def aheadO:Op→Bool
 | .store _ _ _=>false
 | .box _ _=>false
 | .assign _=>false
 | .makeFunc _ _ _=>false
 | .makeSlice _ _ _=>false
 | .call { callee:=.builtin .append,args:=_,argTypes:=_ }=>false
 | .call { callee:=.value _,args:=_,argTypes:=_ }=>false
 | _=>true
def Zsd:Op→Bool
 | .move _=>true
 | .alloc _=>true
 | .buildSlice _ _ _=>true
 | .load _ _=>true
 | .nilCheck _=>true
 | .binOp _ _ _ _ _=>true
 | .unOp _ _ _=>true
 | .convert _ _ _=>true
 | .fieldAddr _ _ _=>true
 | .indexAddr _ _ _=>true
 | .slice _ _ _ _ _=>true
 | .call { callee:=.builtin .len,args:=_,argTypes:=_ }=>true
 | _=>false
def appO:Op→Bool
 | .call { callee:=.builtin .append,args:=_,argTypes:=_ }=>true
 | _=>false
def lookO:Op→Bool
 | .move _=>true
 | .load _ _=>true
 | .nilCheck _=>true
 | .binOp _ _ _ _ _=>true
 | .convert _ _ _=>true
 | .fieldAddr _ _ _=>true
 | .field _ _ _=>true
 | .extract _ _=>true
 | .indexAddr _ _ _=>true
 | .slice _ _ _ _ _=>true
 | .call { callee:=.builtin .len,args:=_,argTypes:=_ }=>true
 | _=>false
def atO (f:Op→Bool) (ops:List Oper) (k:Nat):Bool:=match ops[k]? with
 | some o=>f o.op
 | none=>false
def firmAt (ops:List Oper) (i:Nat):Bool:=
 (List.range ops.length).all fun k=>if k<i then Zdh ops.toArray 6 i k || atO Zqz ops k else k==i || Zdh ops.toArray 6 k i || atO Zqz ops k
def firmP (ops:List Oper) (i:Nat):Bool:=
 (List.range ops.length).all fun k=>if k<i then Zdh ops.toArray 6 i k || atO lookO ops k else k==i || Zdh ops.toArray 6 k i || atO Zqz ops k
def firmC (ops:List Oper) (i:Nat):Bool:=
 (List.range ops.length).all fun k=>if k<i then Zdh ops.toArray 6 i k || atO aheadO ops k else k==i || Zdh ops.toArray 6 k i || atO Zsd ops k
def Zhp (ops:List Oper) (o:Oper):Nat:=ops.findIdx fun x=>x.dst==o.dst
def firm (ops:List Oper) (o:Oper):Bool:=(startO o.op&&firmAt ops (Zhp ops o)) || (callO o.op&&firmC ops (Zhp ops o)) || (appO o.op&&firmP ops (Zhp ops o))
def Yg:Option COp→COp
 | some c=>c
 | none=>.stuck
def ZfO (nt:Nat) (ops:List Oper) (o:Oper):Option CO:=bnd (Zho ops o.guard) fun g=>
 if Qv nt o.dst then some { dst:=o.dst,guard:=g,op:=Yg (cOp P o.type o.op),tl:=firm ops o } else none
end
end Go.Abs
