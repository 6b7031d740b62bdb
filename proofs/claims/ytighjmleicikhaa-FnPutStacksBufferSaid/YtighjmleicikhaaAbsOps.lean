/- Own text. -/
import Derived.Test.YtighjmleicikhaaAbsBase
set_option linter.unusedVariables false
set_option linter.unusedSimpArgs false
namespace Go.Abs
open Go
def mat:List (Option Nat)→List AV→Nat→List AV×Hp
 | some s :: ts,.nil :: vs,b=>let r:=mat ts vs (b+1);(.own b :: r.1,(b,.row s [] true false) :: r.2)
 | _ :: ts,v :: vs,b=>let r:=mat ts vs b;(v :: r.1,r.2)
 | _,vs,_=>(vs,[])
def Zcl:List AV→Bool
 | []=>false
 | .nil :: _=>true
 | _ :: r=>Zcl r
structure Eff where
 val:AV
 adds:Hp:=[]
 sets:Hp:=[]
 dels:List Nat:=[]
 frz:List Nat:=[]
def Zd:Hp→Hp→Hp
 | hp,[]=>hp
 | hp,(k,o) :: r=>Zd (ins hp k o) r
def del:Hp→Nat→Hp
 | [],_=>[]
 | (k,o) :: r,t=>if k=t then del r t else (k,o) :: del r t
def ZI:Hp→List Nat→Hp
 | hp,[]=>hp
 | hp,k :: r=>ZI (del hp k) r
def ZO (ids:List Nat) (hp:Hp):Hp:=match ids with
 | []=>hp
 | _=>freeze ids hp
def Eff.on (e:Eff) (hp:Hp):Hp:=Zd (Zd (ZI (ZO e.frz hp) e.dels) e.sets) e.adds
def ZlF:List AV→Nat→List AV→List AV
 | cs,_,[]=>cs
 | cs,off,v :: r=>ZlF (cs.set off v) (off+1) r
def Zdd:List AV→List (Nat×Nat×AV)→Option (List AV)
 | cells,[]=>some cells
 | cells,q :: r=>if q.2.2.solid∧q.2.2.cells.length=q.2.1∧q.1+q.2.1≤cells.length then Zdd (ZlF cells q.1 q.2.2.cells) r else none
def AV.atom:AV→Bool
 | .d x=>x.one
 | .agg _=>false
 | .tup _=>false
 | .clo _ _=>false
 | _=>true
def Zac:List AV→Bool
 | []=>true
 | v :: r=>v.atom&&Zac r
def cloV (f:Nat) (cs:List AV):Option AV:=if Zac cs then some (.clo f cs) else none
def ZbA:AV→AV
 | .bbuf _ _=>.junk
 | v=>v
def Vw (agg:Bool) (s off:Nat):Option Zg→Option AV
 | some (.box cs)=>if agg then (if off+s≤cs.length then some (YP ((cs.drop off).take s)) else none) else (cs[off]?).map ZbA
 | _=>none
def Wm (agg:Bool) (s off:Nat) (cs:List D):Option AV:=
 if agg then (if off+s≤cs.length then some (.d (.agg ((cs.drop off).take s))) else none) else asD cs[off]?
def ZbB (agg:Bool) (s sz off:Nat) (x:D):Option AV:=if x.cells.length=sz then Wm agg s off x.cells else none
def Zde (i off:Nat):Option (Option Nat×Nat×Nat)→Option AV
 | some (some nm,i',c)=>if i=i'∧off=c then some (.own nm) else none
 | _=>none
def YV (i off:Nat) (lk:Option (Option Nat×Nat×Nat)) (x:D):Option AV:=match x.cells[off]? with
 | some (.sl _)=>Zde i off lk
 | some y=>if y.plain then some (.d y) else none
 | none=>none
def YW (id:Nat) (agg:Bool) (s sz i off:Nat):Option Zg→Option AV
 | some (.row sz' xs _ _)=>if sz=sz' then bnd xs[i]? (ZbB agg s sz off) else none
 | some (.tree sz' _ xs lk)=>if sz=sz' then (if agg then none else bnd xs[i]? (YV i off lk)) else none
 | _=>none
def Yo (hp:Hp) (agg:Bool) (s:Nat):AV→Option AV
 | .ptr id off=>Vw agg s off (lkp hp id)
 | .prow id sz i off=>YW id agg s sz i off (lkp hp id)
 | .pim cs=>Wm agg s 0 cs
 | _=>none
def Zhg:AV→Option D
 | .d x=>if x.plain then some x else none
 | _=>none
def Ziw:List AV→Option (List D)
 | []=>some []
 | v :: r=>bnd (Zhg v) fun x=>bnd (Ziw r) fun ds=>some (x :: ds)
def Jx (slc:List (Option Nat)) (s base id off:Nat) (vs:List AV):Option Zg→Option Eff
 | some (.box cs)=>if vs.length=s∧off+s≤cs.length∧Qx vs∧QC cs=true then
    (if Zcl vs then some { val := .junk, adds := (mat slc vs base).2, sets := [(id, .box (Zi cs off (mat slc vs base).1))] }
      else some { val:=.junk,sets:=[(id,.box (Zi cs off vs))] })
   else none
 | _=>none
def D.notSl:D→Bool
 | .sl _=>false
 | _=>true
def Zad (s id sz i off:Nat) (xs:List D) (ex:Bool) (x:D) (q:List D×Bool×List Nat):Option Eff:=
 if x.notSl∧x.cells.length=sz∧q.1.length=s∧off+s≤sz∧q.2.2.contains id=false then
  some { val:=.junk,sets:=[(id,.row sz (xs.set i (XF x off q.1)) (ex&&q.2.1) false)],frz:=q.2.2 } else none
def Zae (n id:Nat):Option Zg→Option (D×List Nat)
 | some (.row sz xs true false)=>if sz=n∧V4 D.flat xs then some (.sl xs,[id]) else none
 | some (.tree sz n' xs none)=>if sz=n∧n'=n then some (.sl xs,[id]) else none
 | _=>none
def Jy (hp:Hp) (n:Nat):AV→Option (D×List Nat)
 | .d x=>if x.plain then some (x,[]) else none
 | .nil=>some (.sl [],[])
 | .own id=>Zae n id (lkp hp id)
 | _=>none
def XY (hp:Hp) (n:Nat):List AV→Option (List D×List Nat)
 | []=>some ([],[])
 | v :: r=>bnd (Jy hp n v) fun q=>bnd (XY hp n r) fun p=>if !q.2.any p.2.contains then some (q.1 :: p.1,q.2++p.2) else none
def D.isAgg:D→Bool
 | .agg _=>true
 | _=>false
def YX (i off s:Nat):Option (Option Nat×Nat×Nat)→Option (Option Nat×Nat×Nat)
 | some (nm,i',c)=>if i=i'∧off≤c∧c<off+s then none else some (nm,i',c)
 | none=>none
def Zaf (s id sz n i off:Nat) (xs:List D) (lk:Option (Option Nat×Nat×Nat)) (x:D) (q:List D×List Nat):Option Eff:=
 if x.isAgg∧x.cells.length=sz∧q.1.length=s∧off+s≤sz∧q.2.contains id=false then
  some { val:=.junk,sets:=[(id,.tree sz n (xs.set i (XF x off q.1)) (YX i off s lk))],dels:=q.2 } else none
def Wn (hp:Hp) (s id sz i off:Nat) (vs:List AV):Option Zg→Option Eff
 | some (.row sz' xs ex false)=>if sz=sz' then bnd xs[i]? fun x=>bnd (XE hp vs) fun q=>Zad s id sz i off xs ex x q else none
 | some (.tree sz' n xs lk)=>if sz=sz' then bnd xs[i]? fun x=>bnd (XY hp n vs) fun q=>Zaf s id sz n i off xs lk x q else none
 | _=>none
def VT (hp:Hp) (slc:List (Option Nat)) (s base:Nat) (vs:List AV):AV→Option Eff
 | .ptr id off=>Jx slc s base id off vs (lkp hp id)
 | .prow id sz i off=>Wn hp s id sz i off vs (lkp hp id)
 | _=>none
def uni (s:Nat) (ys:List D):Prop:=∀ y∈ys,y.cells.length=s
def ZG:Nat:=140737488355328
def Qn (ys:List D):Prop:=∀ y∈ys,y.flat=true
def Zhh (flat:Bool):Option Zg→Option (List D×Bool)
 | some (.row _ ys ex _)=>some (ys,ex || flat)
 | _=>none
def Zex:AV→Option (List D×Bool)
 | .d (.str s)=>some (s.map fun b=>.int .u8 b.toNat,true)
 | _=>none
def ZdJ (flat:Bool) (off n:Nat):Option Zg→Option (List D×Bool)
 | some (.row _ ys ex _)=>some ((ys.drop off).take n,ex || flat)
 | _=>none
def Jz (hp:Hp) (flat:Bool):AV→Option (List D×Bool)
 | .nil=>some ([],true)
 | .d (.sl ys)=>some (ys,flat)
 | .own id=>Zhh flat (lkp hp id)
 | .ownv id off n=>ZdJ flat off n (lkp hp id)
 | _=>none
def Zey (sz base:Nat) (dels:List Nat) (xs:List D) (ex:Bool):Eff:=
 { val:=.own base,adds:=[(base,.row sz xs ex false)],dels:=dels }
def Zez (sz by_ base id:Nat) (ys:List D) (ex' : Bool):Option Zg→Option Eff
 | some (.row sz' xs ex false)=>if sz'=sz∧(xs.length+ys.length)*by_≤ZG∧xs.length+ys.length≤ZG then some (Zey sz base [id] (xs++ys) (ex&&ex')) else none
 | _=>none
def ZbC (sz by_ base id n:Nat) (ys:List D) (ex' : Bool):Option Zg→Option Eff
 | some (.row sz' xs ex false)=>if sz'=sz∧(n+ys.length)*by_≤ZG∧n+ys.length≤ZG then some (Zey sz base [id] (xs.take n++ys) (ex&&ex')) else none
 | _=>none
def ZbD (sz base id n:Nat) (ys:List D) (ex' : Bool):Option Zg→Option Eff
 | some (.row sz' xs ex false)=>if sz'=sz∧0<xs.length∧n+ys.length≤xs.length then
   some { val:=.ownv base 0 (n+ys.length),adds:=[(base,.row sz (xs.take n++ys++xs.drop (n+ys.length)) (ex&&ex') false)],dels:=[id] } else none
 | _=>none
def ZbE (sz by_ base id off n:Nat) (ys:List D):Option Zg→Option Eff
 | some (.row sz' xs _ false)=>if sz'=sz∧(n+ys.length)*by_≤ZG∧n+ys.length≤ZG then some (Zey sz base [id] ((xs.drop off).take n++ys) false) else none
 | _=>none
def ZaK (hp:Hp) (sz by_:Nat) (base:Nat) (src:List Nat) (ys:List D) (ex' : Bool):AV→Option Eff
 | .nil=>if ys.length*by_≤ZG∧ys.length≤ZG then some (Zey sz base [] ys ex') else none
 | .own id=>if src.contains id then none else Zez sz by_ base id ys ex' (lkp hp id)
 | .ownv id off n=>if off≠0 then (if src.contains id then none else ZbE sz by_ base id off n ys (lkp hp id)) else if src.contains id then ZbD sz base id n ys ex' (lkp hp id) else ZbC sz by_ base id n ys ex' (lkp hp id)
 | _=>none
open Classical in
noncomputable def YY (hp:Hp) (sz by_:Nat) (str flat:Bool) (base:Nat) (s x:AV):Option Eff:=
 bnd (if str then Zex x else Jz hp flat x) fun q=>if uni sz q.1∧(flat=true→Qn q.1) then ZaK hp sz by_ base (WM x) q.1 q.2 s else none
def idx (i:AV):Option Int:=match i with
 | .d (.int _ n)=>some n
 | _=>none
def ZkB (sz:Nat) (y:D):Option AV:=if y.cells.length=sz then some (.pim y.cells) else none
def WS (sz id n:Nat):Option Zg→Option AV
 | some (.row sz' xs _ _)=>if sz'=sz∧n<xs.length then some (.prow id sz n 0) else none
 | some (.tree sz' _ xs _)=>if sz'=sz∧n<xs.length then some (.prow id sz n 0) else none
 | _=>none
def Wo (sz id off m n:Nat):Option Zg→Option AV
 | some (.row sz' _ _ _)=>if sz'=sz∧n<m then some (.prow id sz (off+n) 0) else none
 | _=>none
def Z0 (hp:Hp) (sz n:Nat):AV→Option AV
 | .d (.sl xs)=>bnd xs[n]? (ZkB sz)
 | .own id=>WS sz id n (lkp hp id)
 | .ownv id off m=>Wo sz id off m n (lkp hp id)
 | _=>none
def bd (m:Nat) (v:AV):Option Nat:=bnd (idx v) fun n=>if 0≤n∧n≤m then some n.toNat else none
def hiOf (len:Nat):Option AV→Option Nat
 | none=>some len
 | some v=>bd len v
def loOf (h:Nat):Option AV→Option Nat
 | none=>some 0
 | some v=>bd h v
def Zhi (len:Nat) (lo hi:Option AV):Option (Nat×Nat):=bnd (hiOf len hi) fun h=>bnd (loOf h lo) fun l=>some (l,h)
def Zix (id n:Nat):Option AV→Option AV→Option AV
 | none,none=>some (.own id)
 | lo,hi=>bnd (Zhi n lo hi) fun b=>some (.ownv id b.1 (b.2-b.1))
def Wp (s id:Nat) (lo hi:Option AV):Option Zg→Option AV
 | some (.row sz xs _ _)=>if sz=s then Zix id xs.length lo hi else none
 | _=>none
def ZmI (n m:Nat) (lo:Option AV):Option AV→Option (Nat×Nat)
 | none=>Zhi n lo none
 | some h=>Zhi m lo (some h)
def Vl (s id off n:Nat) (lo hi:Option AV):Option Zg→Option AV
 | some (.row sz xs _ _)=>if sz=s then bnd (ZmI n (xs.length-off) lo hi) fun b=>some (.ownv id (off+b.1) (b.2-b.1)) else none
 | _=>none
def slice3 (hp:Hp) (x:AV) (lo hi mx:Option Int):Option AV:=bnd lo fun l=>bnd hi fun h=>bnd mx fun m=>bnd (W2 hp x) fun n=>
 if 0≤l∧l≤h∧h≤m∧m≤n then some .junk else none
def ZbF (s id off n:Nat) (z:D):Option Zg→Option Eff
 | some (.row sz xs ex false)=>if sz=s∧z.cells.length=s∧off+n≤xs.length then some { val:=.tup [],sets:=[(id,.row sz (xs.take off++List.replicate n z++xs.drop (off+n)) ex false)] } else none
 | _=>none
def UL (hp:Hp) (s:Nat) (z:D):AV→Option Eff
 | .ownv id off n=>ZbF s id off n z (lkp hp id)
 | _=>none
open Classical in
noncomputable def XB (hp:Hp) (s:Nat) (lo hi:Option AV):AV→Option AV
 | .d (.sl xs)=>if uni s xs then bnd (Zhi xs.length lo hi) fun b=>some (.d (.sl ((xs.take b.2).drop b.1))) else none
 | .nil=>bnd (Zhi 0 lo hi) fun _=>some .nil
 | .own id=>Wp s id lo hi (lkp hp id)
 | .ownv id off n=>Vl s id off n lo hi (lkp hp id)
 | _=>none
def sliceS (lo hi:Option AV):AV→Option AV
 | .d (.str s)=>bnd (Zhi s.length lo hi) fun b=>some (.d (.str ((s.take b.2).drop b.1)))
 | _=>none
def slice0 (hp:Hp) (x:AV) (hi mx:Option Int):Option AV:=match hi,mx with
 | some 0,some 0=>bnd (W2 hp x) fun _=>some .nil
 | _,_=>none
def ZbG (agg:Bool) (s off:Nat):AV→Option AV
 | .d (.agg cs)=>Wm agg s off cs
 | .agg cs=>if agg then (if off+s≤cs.length then some (YP ((cs.drop off).take s)) else none) else cs[off]?
 | _=>none
abbrev Orc:=Nat→List AV→List Zg→Option (AV×List Zg)
abbrev Zf:=Nat→Nat→Bool
def UM (hp:Hp) (id:Nat):Bool→Option AV
 | true=>some (.own id)
 | false=>asD (Zaw hp (.own id))
def JA:Bool→Option AV
 | true=>some .nil
 | false=>some (.d (.sl []))
def UN (hp:Hp) (cs:List AV):Bool→Option AV
 | true=>if W1 cs then none else some (.agg cs)
 | false=>asD (toD hp (.agg cs))
def WL (hp:Hp) (m:Bool):AV→Option AV
 | .ptr a b=>some (.ptr a b)
 | .clo f c=>some (.clo f c)
 | .nilp=>some .nilp
 | .nili=>some .nili
 | .pim c=>some (.pim c)
 | .own id=>UM hp id m
 | .nil=>JA m
 | .d x=>some (.d x)
 | .agg cs=>UN hp cs m
 | v=>asD (toD hp v)
def args (hp:Hp) (m:Nat→Bool):Nat→List AV→Option (List AV)
 | _,[]=>some []
 | i,v :: r=>bnd (WL hp (m i) v) fun a=>bnd (args hp m (i+1) r) fun as=>some (a :: as)
def YZ (hp:Hp) (go:List Nat→List Nat→List Nat) (id:Nat) (todo acc:List Nat):Option Zg→List Nat
 | some o=>go (todo++YQ o) (acc++[id])
 | none=>go todo acc
def Qh (hp:Hp):Nat→List Nat→List Nat→List Nat
 | 0,_,acc=>acc
 | _+1,[],acc=>acc
 | n+1,id :: todo,acc=>if acc.contains id then Qh hp n todo acc else YZ hp (Qh hp n) id todo acc (lkp hp id)
def XI:List Nat→Nat→Nat
 | [],_=>0
 | x :: r,t=>if x=t then 0 else XI r t+1
def Ziy:Option Zg→Zg
 | some o=>o
 | none=>.gone
def W5 (hp:Hp):List Nat→List Zg
 | []=>[]
 | id :: r=>Ziy (lkp hp id) :: W5 hp r
def VF (ids:List Nat) (o:Zg):Zg:=Zbj (XI ids) (Qo ((YQ o).filter fun i=>!ids.contains i) o)
def JB:Option Zg→Bool
 | some (.row _ _ _ _)=>true
 | some (.tree _ _ _ _)=>true
 | some .gone=>true
 | _=>false
def Wq:AV→Bool
 | .d x=>x.flat
 | .pim _=>false
 | .agg _=>false
 | .tup _=>false
 | .clo _ _=>false
 | _=>true
def W6:AV→Bool
 | .agg cs=>cs.all Wq
 | .clo _ cs=>cs.all Wq
 | v=>Wq v
def Zgl:AV→Bool
 | .tup vs=>vs.all W6
 | v=>W6 v
def JC:Zg→Bool
 | .box cs=>cs.all W6
 | .row _ _ ex fz=>ex&&!fz
 | .tree _ _ _ _=>true
 | .gone=>true
def Za0 (d:Nat):Option Nat→Nat
 | some i=>i
 | none=>d
def XZ (ids:List Nat) (base k:Nat):Nat:=Za0 (base+(k-ids.length)) ids[k]?
def Wr (g:Nat→Nat):List Nat→List Zg→Hp
 | id :: ids,o :: os=>(id,Zbj g o) :: Wr g ids os
 | _,_=>[]
def Ws (g:Nat→Nat):Nat→List Zg→Hp
 | _,[]=>[]
 | k,o :: os=>(k,Zbj g o) :: Ws g (k+1) os
structure Zb where
 eff:Eff
 gone:List Nat
def QH (_hp:Hp):Nat:=1000
def Q7:List AV→List AV→List Nat
 | v :: vs,.d _ :: as=>UC v++Q7 vs as
 | _ :: vs,_ :: as=>Q7 vs as
 | _,_=>[]
def Wt:Option Zg→Bool
 | some (.tree _ _ _ _)=>true
 | _=>false
def Zcm:List Nat→List Zg→List Nat
 | id :: ids,.gone :: os=>id :: Zcm ids os
 | _ :: ids,_ :: os=>Zcm ids os
 | _,_=>[]
def Zcn (hp:Hp) (ids:List Nat) (out:List Zg):Bool→List Nat
 | true=>Zcm ids out
 | false=>ids.filter fun i=>JB (lkp hp i)
def VG (keep:Bool) (hp:Hp) (base:Nat) (ids lent:List Nat) (r:AV) (out:List Zg):Option Zb:=
 if out.length<ids.length then none else if !(Zgl r&&out.all JC)&&lent.any fun i=>Wt (lkp hp i) then none else
  some { eff := { val:=ren (XZ ids base) r,adds:=Ws (XZ ids base) base (out.drop ids.length),sets:=Wr (XZ ids base) ids out,frz:=if Zgl r&&out.all JC then [] else lent },gone:=Zcn hp ids out keep }
def Ve:AV→List Nat
 | .ptr id _=>[id]
 | .clo _ cs=>cs.flatMap Ze
 | _=>[]
def V9 (hp:Hp) (rs ids:List Nat):Bool:=ids.all fun i=>JB (lkp hp i) || rs.contains i
def UO (C:Orc) (keep:Bool) (hp:Hp) (base f:Nat) (lent:List Nat) (as:List AV) (ids:List Nat):Option Zb:=
 if (as.flatMap Zj).all ids.contains∧¬lent.any ids.contains∧V9 hp (as.flatMap Ve) ids=true then
  bnd (C f (as.map (ren (XI ids))) ((W5 hp ids).map (VF ids))) fun q=>VG keep hp base ids lent q.1 q.2
 else none
def WT (C:Orc) (m:Nat→Bool) (hp:Hp) (base f:Nat) (avs:List AV):Option Zb:=
 bnd (args hp m 0 avs) fun as=>UO C (m 99) hp base f (Q7 avs as) as (Qh hp (QH hp) (as.flatMap Zj) [])
def Z7 (v:AV):Option Zb:=some { eff := { val:=v },gone:=[] }
def XN (v:Option AV):Option Zb:=bnd v Z7
def Jj (e:Option Eff):Option Zb:=bnd e fun e=>some { eff:=e,gone:=[] }
def UP (base:Nat) (e:Option Nat):AV→Option Zb
 | .nil=>bnd e fun s=>some { eff := { val:=.own base,adds:=[(base,.row s [] true false)] },gone:=[] }
 | v=>Z7 v
def JD (a b:AV):AV→Option Zb
 | .d (.bool t)=>if t then Z7 a else Z7 b
 | _=>none
def Za1 (base:Nat):AV→AV
 | .bnil _ e=>.bnil base e
 | v=>v
def bnT (t te:Nat):List AV→List AV
 | [.nilp,.nil]=>[.bnil 0 t,.bbuf te []]
 | cs=>cs
def ZmJ:List AV→Bool
 | [.bnil _ _,.bbuf _ []]=>true
 | _=>false
def ZeA (slc:List (Option Nat)) (base:Nat) (cs:List AV):Option Zb:=
 if QC cs=false then (if ZmJ cs=true then some { eff := { val:=.ptr base 0,adds:=[(base,.box cs)] },gone:=[] } else none) else
 if Zcl cs then some { eff := { val:=.ptr base 0,adds:=(base,.box (mat slc cs (base+1)).1) :: (mat slc cs (base+1)).2 },gone:=[] }
 else some { eff := { val:=.ptr base 0,adds:=[(base,.box cs)] },gone:=[] }
def JE (slc:List (Option Nat)) (base:Nat) (cs:List AV):Option Zb:=ZeA slc base (cs.map (Za1 base))
def ZlG (base:Nat) (x:AV):Option Zb:=if x.solid&&QC x.cells then some { eff := { val:=.ptr base 0,adds:=[(base,.box x.cells)] },gone:=[] } else none
def ZeB (zs:List AV) (ps:List (Nat×Nat×AV)):Option Zb:=bnd (Zdd zs ps) fun cs=>Z7 (YP cs)
def ZlH (base s:Nat) (q:List D×Bool×List Nat):Option Zb:=
 if q.1.all (fun d=>d.cells.length==s) then some { eff := { val:=.own base,adds:=[(base,.row s q.1 q.2.1 false)],frz:=q.2.2 },gone:=[] } else none
def buildSl (hp:Hp) (base s:Nat):List AV→Option Zb
 | []=>Z7 .nil
 | v :: vs=>bnd (X8 hp (v :: vs)) (ZlH base s)
def Yx (hp:Hp) (n s:Nat):List AV→Option (List D×List Nat)
 | []=>some ([],[])
 | .agg cs :: r=>bnd (XY hp n cs) fun q=>bnd (Yx hp n s r) fun p=>
   if q.1.length=s∧(!q.2.any p.2.contains)=true then some (.agg q.1 :: p.1,q.2++p.2) else none
 | _=>none
def asgT (base s n:Nat):AV→Option Zb
 | .nil=>some { eff := { val:=.own base,adds:=[(base,.tree s n [] none)] },gone:=[] }
 | _=>none
def buildT (hp:Hp) (base s n:Nat) (vs:List AV):Option Zb:=
 if vs.isEmpty=false then bnd (Yx hp n s vs) fun q=>some { eff := { val:=.own base,adds:=[(base,.tree s n q.1 none)],dels:=q.2 },gone:=[] } else none
def Vm:AV→Option Zb
 | .ptr a b=>Z7 (.ptr a b)
 | .prow a b c d=>Z7 (.prow a b c d)
 | .pim c=>Z7 (.pim c)
 | .clo f c=>Z7 (.clo f c)
 | _=>none
def ZeC (op:BinOp) (eq:Bool):AV→AV→Option Zb
 | .d (.bool a),.d (.bool b)=>if eq then XN (ZfX op a b) else none
 | a,b=>XN (vbin op a b)
def Vb:List Nat→List D→List D→Option Bool
 | [],[],[]=>some true
 | 0 :: ks,.int k a :: cs,.int k' b :: ds=>if k=k' then bnd (Vb ks cs ds) fun r=>some (decide (a=b)&&r) else none
 | 1 :: ks,.bool a :: cs,.bool b :: ds=>bnd (Vb ks cs ds) fun r=>some (decide (a=b)&&r)
 | 2 :: ks,.str a :: cs,.str b :: ds=>bnd (Vb ks cs ds) fun r=>some (decide (a=b)&&r)
 | _,_,_=>none
def ZeD (neg:Bool) (r:Bool):Bool:=if neg then !r else r
def Zhj (neg:Bool) (ks:List Nat):AV→AV→Option Zb
 | .d (.agg cs),.d (.agg ds)=>bnd (Vb ks cs ds) fun r=>Z7 (.d (.bool (ZeD neg r)))
 | _,_=>none
def convI (k:IntKind):AV→Option Zb
 | .d (.int _ n)=>Z7 (.d (.int k (k.wrap n)))
 | _=>none
def convS:AV→Option Zb
 | .d (.str s)=>Z7 (.d (.str s))
 | _=>none
def Zgm (base s b:Nat) (z:D) (l c:Int):Option Zb:=
 if 0≤l∧l≤c∧c*b≤ZG∧c≤ZG∧z.cells.length=s then
  some { eff := { val:=.own base,adds:=[(base,.row s (List.replicate l.toNat z) true false)] },gone:=[] } else none
def makeT (base s b ns:Nat) (z:D) (l c:Int):Option Zb:=
 if 0≤l∧l≤c∧c*b≤ZG∧c≤ZG∧z.cells.length=s∧z.isAgg=true then
  some { eff := { val:=.own base,adds:=[(base,.tree s ns (List.replicate l.toNat z) none)] },gone:=[] } else none
def X0 (off:Nat):AV→Option Zb
 | .ptr id o=>Z7 (.ptr id (o+off))
 | .prow id sz i o=>Z7 (.prow id sz i (o+off))
 | .pim cs=>Z7 (.pim (cs.drop off))
 | _=>none
def ZeE (x:AV) (n:Int) (len s:Nat):Option Zb:=if 0≤n∧n<len then X0 (n.toNat*s) x else none
def ZaL (hp:Hp) (s:Nat) (x:AV) (n:Int):Option Zb:=if 0≤n then XN (Z0 hp s n.toNat x) else none
def Ziz (s:List UInt8) (n:Int):Option Zb:=if 0≤n then bnd s[n.toNat]? fun b=>Z7 (.d (.int .u8 b.toNat)) else none
def ZlI (g:Bool) (s len:Nat) (n:Int) (v:AV):Option Zb:=if 0≤n∧n<len then XN (ZbG g s (n.toNat*s) v) else none
def ZjC (n:Int):AV→Option Zb
 | .d (.str s)=>Ziz s n
 | _=>none
def ZiA (i:Nat):AV→Option Zb
 | .tup vs=>XN vs[i]?
 | _=>none
def Zco:Option Zg→Option (Nat×Nat×List D)
 | some (.tree s n xs none)=>some (s,n,xs)
 | _=>none
def WU (hp:Hp):AV→Option (Nat×Nat×Nat×List D)
 | .own id=>bnd (Zco (lkp hp id)) fun q=>some (id,q)
 | _=>none
def Wa (hp:Hp) (s b base id n:Nat) (ys:List D):AV→Option Eff
 | .nil=>if ys.length*b≤ZG∧ys.length≤ZG then some { val:=.own base,adds:=[(base,.tree s n ys none)],dels:=[id] } else none
 | .own id1=>bnd (Zco (lkp hp id1)) fun q=>if q.1=s∧q.2.1=n∧id1≠id∧(q.2.2.length+ys.length)*b≤ZG∧q.2.2.length+ys.length≤ZG then
   some { val:=.own base,adds:=[(base,.tree s n (q.2.2++ys) none)],dels:=[id1,id] } else none
 | _=>none
def Y0 (xs:List D) (i c:Nat):Option (List D):=bnd xs[i]? fun x=>match x.cells[c]? with
 | some (.sl ys)=>some ys
 | _=>none
def QI (hp:Hp):AV→List Nat
 | .own id=>if Wt (lkp hp id) then [id] else []
 | _=>[]
def ZbH:Zg→Zg
 | .tree s _ xs none=>.row s xs true false
 | o=>o
def meltIn (hp:Hp):List Nat→Hp
 | []=>hp
 | i :: r=>match lkp hp i with
  | some o=>ins (meltIn hp r) i (ZbH o)
  | none=>meltIn hp r
noncomputable def Xn (hp:Hp) (s b:Nat) (str flat:Bool) (base:Nat) (x y:AV):List Nat→Option Eff
 | []=>YY hp s b str flat base x y
 | i :: r=>if flat then none else bnd (YY (meltIn hp (i :: r)) s b str flat base x y) fun e=>some { val:=e.val,adds:=e.adds,sets:=e.sets,dels:=e.dels++(i :: r),frz:=e.frz }
def appT (hp:Hp) (s b base:Nat) (x y:AV):Option Zb:=Jj (bnd (WU hp y) fun q=>if q.2.1=s then Wa hp s b base q.1 q.2.2.1 q.2.2.2 x else none)
noncomputable def W7 (hp:Hp) (s b:Nat) (str flat:Bool) (base:Nat) (x y:AV):List Nat→List Nat→Option Zb
 | [],m=>Jj (Xn hp s b str flat base x y m)
 | i :: r,[]=>Jj (Xn hp s b str flat base x y (i :: r))
 | _ :: _,_ :: _=>if flat || str then none else appT hp s b base x y
noncomputable def ZiB (hp:Hp) (s b:Nat) (str flat:Bool) (base:Nat) (x y:AV):Option Zb:=W7 hp s b str flat base x y (QI hp x) (QI hp y)
def Zdf:AV→AV→Option Zb
 | .d (.int k a),.d (.int k' b)=>if k=k' then Z7 (.d (.int k (minI a b))) else none
 | _,_=>none
def Zdg:AV→AV→Option Zb
 | .d (.int k a),.d (.int k' b)=>if k=k' then Z7 (.d (.int k (maxI a b))) else none
 | _,_=>none
inductive Opd where
 | t (n:Nat)
 | v (a:AV)
 | f (n:Nat)
def evO (sl:Sl):Opd→AV
 | .t n=>gs sl n
 | .v a=>a
 | .f n=>.clo n []
def evL (sl:Sl):List Opd→List AV
 | []=>[]
 | x :: r=>evO sl x :: evL sl r
def evP (sl:Sl):List (Nat×Nat×Opd)→List (Nat×Nat×AV)
 | []=>[]
 | (a,b,x) :: r=>(a,b,evO sl x) :: evP sl r
def evM (sl:Sl):Option Opd→Option AV
 | none=>none
 | some x=>some (evO sl x)
inductive COp where
 | move (x:Opd)
 | assign (s:Option Nat) (x:Opd)
 | pick (c a b:Opd)
 | alloc (slc:List (Option Nat)) (cs:List AV)
 | box (x:Opd)
 | build (zs:List AV) (ps:List (Nat×Nat×Opd))
 | buildSl (s:Nat) (xs:List Opd)
 | load (g:Bool) (s:Nat) (a:Opd)
 | store (slc:List (Option Nat)) (s:Nat) (a x:Opd)
 | nilCheck (x:Opd)
 | bin (op:BinOp) (eq:Bool) (x y:Opd)
 | un (op:UnOp) (x:Opd)
 | eqA (neg:Bool) (ks:List Nat) (x y:Opd)
 | convI (k:IntKind) (x:Opd)
 | convS (x:Opd)
 | fn (f:Nat) (caps:List Opd)
 | make (s b:Nat) (z:D) (l c:Opd)
 | slice (s:Nat) (x:Opd) (lo hi:Option Opd)
 | sliceS (x:Opd) (lo hi:Option Opd)
 | slice0 (x hi mx:Opd)
 | shift (off:Nat) (x:Opd)
 | part (g:Bool) (s off:Nat) (x:Opd)
 | iaS (s:Nat) (x i:Opd)
 | iaA (len s:Nat) (x i:Opd)
 | ixS (x i:Opd)
 | ixA (g:Bool) (s len:Nat) (x i:Opd)
 | nth (i:Nat) (x:Opd)
 | len (x:Opd)
 | lenS (x:Opd)
 | append (s b:Nat) (str flat:Bool) (x y:Opd)
 | min (x y:Opd)
 | max (x y:Opd)
 | call (f:Opd) (as:List Opd)
 | slice3 (s:Nat) (x lo hi mx:Opd)
 | clear (s:Nat) (z:D) (x:Opd)
 | stuck
 | buildT (s n:Nat) (xs:List Opd)
 | appT (s b:Nat) (flat:Bool) (x y:Opd)
 | asgT (s n:Nat) (x:Opd)
 | makeT (s b n:Nat) (z:D) (l c:Opd)
structure CO where
 dst:Option Nat
 guard:Option (Nat×Bool)
 op:COp
 tl:Bool
def W8 (C:Orc) (M:Zf) (hp:Hp) (base:Nat) (as:List AV):AV→Option Zb
 | .clo g caps=>WT C (M g) hp base g (as++caps)
 | _=>none
noncomputable def vop (C:Orc) (M:Zf) (sl:Sl) (hp:Hp) (base:Nat):COp→Option Zb
 | .move x=>Z7 (evO sl x)
 | .assign s x=>UP base s (evO sl x)
 | .pick c a b=>JD (evO sl a) (evO sl b) (evO sl c)
 | .alloc slc cs=>JE slc base cs
 | .box x=>ZlG base (evO sl x)
 | .build zs ps=>ZeB zs (evP sl ps)
 | .buildSl s xs=>buildSl hp base s (evL sl xs)
 | .load g s a=>XN (Yo hp g s (evO sl a))
 | .store slc s a x=>Jj (VT hp slc s base (evO sl x).cells (evO sl a))
 | .nilCheck x=>Vm (evO sl x)
 | .bin op eq x y=>ZeC op eq (evO sl x) (evO sl y)
 | .un op x=>XN (vun op (evO sl x))
 | .eqA neg ks x y=>Zhj neg ks (evO sl x) (evO sl y)
 | .convI k x=>convI k (evO sl x)
 | .convS x=>convS (evO sl x)
 | .fn f cs=>XN (cloV f (evL sl cs))
 | .make s b z l c=>bnd (idx (evO sl l)) fun l=>bnd (idx (evO sl c)) fun c=>Zgm base s b z l c
 | .slice s x lo hi=>XN (XB hp s (evM sl lo) (evM sl hi) (evO sl x))
 | .sliceS x lo hi=>XN (sliceS (evM sl lo) (evM sl hi) (evO sl x))
 | .slice0 x hi mx=>XN (slice0 hp (evO sl x) (idx (evO sl hi)) (idx (evO sl mx)))
 | .shift off x=>X0 off (evO sl x)
 | .part g s off x=>XN (ZbG g s off (evO sl x))
 | .iaS s x i=>bnd (idx (evO sl i)) fun n=>ZaL hp s (evO sl x) n
 | .iaA len s x i=>bnd (idx (evO sl i)) fun n=>ZeE (evO sl x) n len s
 | .ixS x i=>bnd (idx (evO sl i)) fun n=>ZjC n (evO sl x)
 | .ixA g s len x i=>bnd (idx (evO sl i)) fun n=>ZlI g s len n (evO sl x)
 | .nth i x=>ZiA i (evO sl x)
 | .len x=>bnd (W2 hp (evO sl x)) fun n=>Z7 (.d (.int .i64 n))
 | .lenS x=>bnd (Zk4 (evO sl x)) fun n=>Z7 (.d (.int .i64 n))
 | .append s b str flat x y=>ZiB hp s b str flat base (evO sl x) (evO sl y)
 | .min x y=>Zdf (evO sl x) (evO sl y)
 | .max x y=>Zdg (evO sl x) (evO sl y)
 | .call f as=>W8 C M hp base (evL sl as) (evO sl f)
 | .slice3 _ x lo hi mx=>XN (slice3 hp (evO sl x) (idx (evO sl lo)) (idx (evO sl hi)) (idx (evO sl mx)))
 | .clear s z x=>Jj (UL hp s z (evO sl x))
 | .stuck=>none
 | .buildT s n xs=>buildT hp base s n (evL sl xs)
 | .appT s b _ x y=>appT hp s b base (evO sl x) (evO sl y)
 | .asgT s n x=>asgT base s n (evO sl x)
 | .makeT s b n z l c=>bnd (idx (evO sl l)) fun l=>bnd (idx (evO sl c)) fun c=>makeT base s b n z l c
section
variable (P:Program)
def QN (t:TypeId):Option TypeId:=match P.underlying t with
 | some (.slice e)=>some e
 | _=>none
def Vn (t:TypeId):Bool:=match P.underlying t with
 | some .string=>true
 | _=>false
def Zag (t:TypeId):Bool:=match P.underlying t with
 | some .bool=>true
 | _=>false
def ZlJ (t:TypeId):Option IntKind:=match P.underlying t with
 | some (.int k)=>some k
 | _=>none
def Za2 (t:TypeId):Option (Nat×TypeId):=match P.underlying t with
 | some (.array n e)=>some (n,e)
 | _=>none
def Ut (t:TypeId):Option Bool:=match P.underlying t with
 | some (.struct _)=>some true
 | some (.array _ _)=>some true
 | some _=>some false
 | none=>none
def UQ (s:TypeId) (f:Nat):Option (Nat×TypeId):=match P.underlying s with
 | some (.struct fs)=>match fs[f]? with
  | some x=>if P.cellsOf x.type=0 then none else some (x.offset,x.type)
  | none=>none
 | _=>none
def VH (t:TypeId):Option Value:=match P.info? t with
 | some i=>i.zero
 | none=>none
def ZkC:Nat→TypeId→List TypeId
 | 0,t=>[t]
 | n+1,t=>match P.underlying t with
  | some (.struct fs)=>fs.toList.flatMap fun f=>ZkC n f.type
  | some (.array k e)=>(List.replicate k (ZkC n e)).flatten
  | _=>[t]
def slcT (t:TypeId):List (Option Nat):=(ZkC P 4 t).map fun c=>(QN P c).map P.cellsOf
def flatE (t:TypeId):Bool:=(ZkC P 4 t).all fun c=>match P.underlying c with
 | some (.int _)=>true
 | some .bool=>true
 | some .string=>true
 | _=>false
def Wu:Nat→TypeId→Nat→Option (List (Nat×Nat))
 | 0,_,_=>none
 | n+1,t,off=>match P.underlying t with
  | some (.int _)=>if P.cellsOf t=1 then some [(off,0)] else none
  | some .bool=>if P.cellsOf t=1 then some [(off,1)] else none
  | some .string=>if P.cellsOf t=1 then some [(off,2)] else none
  | some (.struct fs)=>if P.stoodInHeld t then none else
    bnd (ZY (fun f:Field=>if f.name = "_"∨P.cellsOf t<f.offset+P.cellsOf f.type then none else Wu n f.type (off+f.offset)) fs.toList) fun ls=>some ls.flatten
  | _=>none
def QE (t:TypeId):Bool:=match P.underlying t with
 | some (.struct _)=>true
 | _=>false
def ZiC (t:TypeId):Option (List Nat):=bnd (Wu P 5 t 0) fun ls=>
 if ls.map (·.1)=List.range (P.cellsOf t)∧QE P t=true∧P.eqGuardType P.depth t=false then some (ls.map (·.2)) else none
def ZiD (neg:Bool) (op:BinOp) (t:TypeId) (x y:Opd):Option (List Nat)→COp
 | some ks=>.eqA neg ks x y
 | none=>.bin op (Zag P t) x y
def ZjD (op:BinOp) (t:TypeId) (x y:Opd):COp:=match op with
 | .eql=>ZiD P false .eql t x y (ZiC P t)
 | .neq=>ZiD P true .neq t x y (ZiC P t)
 | op=>.bin op (Zag P t) x y
end
section
variable (P:Program)
def ZA:Operand→Option Opd
 | .tmp t=>some (.t t)
 | .const v=>some (.v (evC v))
 | .global _=>none
 | .func f=>some (.f f)
def ZiE (pl:Nat→Option (Nat×Nat)) (q:Nat×Operand):Option (Nat×Nat×Opd):=bnd (pl q.1) fun p=>bnd (ZA q.2) fun x=>some (p.1,p.2,x)
def cOO:Option Operand→Option (Option Opd)
 | none=>some none
 | some x=>bnd (ZA x) fun y=>some (some y)
def UR (t:TypeId):Option (Nat×TypeId)→Nat→Option (Nat×Nat)
 | none,i=>bnd (UQ P t i) fun q=>some (q.1,P.cellsOf q.2)
 | some a,i=>some (i*P.cellsOf a.2,P.cellsOf a.2)
def Yj (t:TypeId):Bool:=match P.info? t with
 | some i=>(match i.zero with
  | some z=>z.cells.size==i.size&&decide (0<i.size)
  | none=>false)
 | none=>false
def ZbI (t:TypeId):Bool:=match P.underlying t with
 | some (.struct fs)=>fs.toList.all fun f=>(P.info? f.type).isSome
 | some (.array _ e)=>(P.info? e).isSome
 | _=>false
def Zdh (e:TypeId) (u:TypeId):Option Bool:=match QN P u with
 | some e'=>if e'=e then some false else none
 | none=>if Vn P u then some true else none
def ZeF (x i:Opd) (a:Option (Nat×TypeId)):Option TypeId→Option COp
 | some e=>if (P.info? e).isSome then some (.iaS (P.cellsOf e) x i) else none
 | none=>bnd a fun a=>if (P.info? a.2).isSome then some (.iaA a.1 (P.cellsOf a.2) x i) else none
def Zhk (x i:Opd) (str:Bool) (a:Option (Nat×TypeId)):Option COp:=
 if str then some (.ixS x i) else bnd a fun a=>bnd (Ut P a.2) fun g=>some (.ixA g (P.cellsOf a.2) a.1 x i)
def ZkD (x:Opd) (ss sd:Bool):Option IntKind→Option IntKind→Option COp
 | some _,some k=>some (.convI k x)
 | _,_=>if ss&&sd then some (.convS x) else none
def cLen (x:Opd) (str:Bool):Option TypeId→Option COp
 | some _=>some (.len x)
 | none=>if str then some (.lenS x) else none
def ZjE (x:Opd) (lo hi:Option Opd) (str:Bool):Option TypeId→Option COp
 | some e=>if (P.info? e).isSome then some (.slice (P.cellsOf e) x lo hi) else none
 | none=>if str then some (.sliceS x lo hi) else none
def Wv:Builtin→List Operand→List TypeId→Option COp
 | .len,[x],[t]=>bnd (ZA x) fun x=>cLen x (Vn P t) (QN P t)
 | .append,[s,x],[t,u]=>bnd (QN P t) fun e=>bnd (Zdh P e u) fun str=>bnd (ZA s) fun s=>bnd (ZA x) fun x=>
   if Yj P e then some (.append (P.cellsOf e) (P.bytesOf e) str (flatE P e) s x) else none
 | .min,[x,y],_=>bnd (ZA x) fun x=>bnd (ZA y) fun y=>some (.min x y)
 | .max,[x,y],_=>bnd (ZA x) fun x=>bnd (ZA y) fun y=>some (.max x y)
 | .clear,[x],[t]=>bnd (QN P t) fun e=>bnd (ZA x) fun x=>bnd (VH P e) fun z=>bnd (evD z) fun z=>if Yj P e then some (.clear (P.cellsOf e) z x) else none
 | _,_,_=>none
def teOf (t:TypeId):Nat:=match bnd (UQ P t 1) fun q=>QN P q.2 with
 | some e=>e
 | none=>0
def cOp (ty:TypeId):Op→Option COp
 | .move x=>bnd (ZA x) fun x=>some (.move x)
 | .assign x=>bnd (ZA x) fun x=>some (.assign (bnd (QN P ty) fun e=>some (P.cellsOf e)) x)
 | .pick c a b=>bnd (ZA c) fun c=>bnd (ZA a) fun a=>bnd (ZA b) fun b=>some (.pick c a b)
 | .alloc t=>bnd (VH P t) fun z=>some (.alloc (slcT P t) (bnT t (teOf P t) (evC z).cells))
 | .box _ x=>bnd (ZA x) fun x=>some (.box x)
 | .build t ps=>bnd (VH P t) fun z=>bnd (ZY (ZiE (UR P t (Za2 P t))) ps.toList) fun qs=>if ZbI P t then some (.build (evC z).cells qs) else none
 | .buildSlice t n ps=>bnd (QN P t) fun e=>bnd (ZY (fun q:Nat×Operand=>ZA q.2) ps.toList) fun xs=>
   if ps.toList.map (·.1)=List.range n∧n*P.cellsOf e≤16777216∧Yj P e then some (.buildSl (P.cellsOf e) xs) else none
 | .load t a=>bnd (Ut P t) fun g=>bnd (ZA a) fun a=>some (.load g (P.cellsOf t) a)
 | .store t a x=>bnd (ZA a) fun a=>bnd (ZA x) fun x=>if (P.info? t).isSome then some (.store (slcT P t) (P.cellsOf t) a x) else none
 | .nilCheck x=>bnd (ZA x) fun x=>some (.nilCheck x)
 | .binOp op t x y _=>bnd (ZA x) fun x=>bnd (ZA y) fun y=>some (ZjD P op t x y)
 | .unOp op _ x=>bnd (ZA x) fun x=>some (.un op x)
 | .convert s d x=>bnd (ZA x) fun x=>ZkD x (Vn P s) (Vn P d) (ZlJ P s) (ZlJ P d)
 | .makeFunc (.func f) fs cs=>if fs.toList.isEmpty then bnd (ZY ZA cs.toList) fun cs=>some (.fn f cs) else none
 | .makeSlice t l c=>bnd (QN P t) fun e=>bnd (ZA l) fun l=>bnd (ZA c) fun c=>bnd (VH P e) fun z=>bnd (evD z) fun z=>if Yj P e then some (.make (P.cellsOf e) (P.bytesOf e) z l c) else none
 | .slice t x lo hi none=>bnd (ZA x) fun x=>bnd (cOO lo) fun lo=>bnd (cOO hi) fun hi=>ZjE P x lo hi (Vn P t) (QN P t)
 | .slice t x none (some hi) (some mx)=>bnd (QN P t) fun e=>if (P.info? e).isSome then bnd (ZA x) fun x=>bnd (ZA hi) fun hi=>bnd (ZA mx) fun mx=>some (.slice0 x hi mx) else none
 | .slice t x (some lo) (some hi) (some mx)=>bnd (QN P t) fun e=>if (P.info? e).isSome then bnd (ZA x) fun x=>bnd (ZA lo) fun lo=>bnd (ZA hi) fun hi=>bnd (ZA mx) fun mx=>some (.slice3 (P.cellsOf e) x lo hi mx) else none
 | .fieldAddr s x f=>bnd (UQ P s f) fun q=>bnd (ZA x) fun x=>some (.shift q.1 x)
 | .field t x f=>bnd (UQ P t f) fun q=>bnd (Ut P q.2) fun g=>bnd (ZA x) fun x=>some (.part g (P.cellsOf q.2) q.1 x)
 | .indexAddr t x i=>bnd (ZA x) fun x=>bnd (ZA i) fun i=>ZeF P x i (Za2 P t) (QN P t)
 | .index t x i=>bnd (ZA x) fun x=>bnd (ZA i) fun i=>Zhk P x i (Vn P t) (Za2 P t)
 | .extract x i=>bnd (ZA x) fun x=>some (.nth i x)
 | .call { callee:=.builtin b,args:=as,argTypes:=ts }=>Wv P b as.toList ts.toList
 | .call { callee:=.value f,args:=as,argTypes:=_ }=>bnd (ZA f) fun f=>bnd (ZY ZA as.toList) fun as=>some (.call f as)
 | _=>none
def ZeG (ops:List Oper):Option (Nat×Bool)→Option (Option (Nat×Bool))
 | none=>some none
 | some q=>bnd ops[q.1]? fun g=>bnd g.dst fun t=>some (some (t,q.2))
def Qa (nt:Nat):Option Nat→Bool
 | none=>true
 | some t=>decide (t<nt)
def XJ (ops:Array Oper) (i:Nat):List Nat:=match ops[i]? with
 | some o=>(o.after.toList.filter fun e=>Region.binds .any e).map fun e=>e.on
 | none=>[]
def Za3 (ops:Array Oper):Nat→Nat→Nat→Bool
 | 0,i,j=>(XJ ops i).contains j
 | n+1,i,j=>(XJ ops i).contains j || (XJ ops i).any fun z=>Za3 ops n z j
def startO:Op→Bool
 | .call { callee:=.builtin .append,args:=_,argTypes:=_ }=>true
 | .buildSlice _ _ _=>true
 | _=>false
def callO:Op→Bool
 | .call { callee:=.value (.func _),args:=_,argTypes:=_ }=>true
 | _=>false
def ZmK:Op→Bool
 | .move _=>true
 | _=>false
def aheadO:Op→Bool
 | .store _ _ _=>false
 | .box _ _=>false
 | .assign _=>false
 | .makeFunc _ _ _=>false
 | .makeSlice _ _ _=>false
 | .call { callee:=.builtin .append,args:=_,argTypes:=_ }=>false
 | .call { callee:=.value _,args:=_,argTypes:=_ }=>false
 | _=>true
def ZnR:Op→Bool
 | .move _=>true
 | .alloc _=>true
 | .buildSlice _ _ _=>true
 | .load _ _=>true
 | .nilCheck _=>true
 | .binOp _ _ _ _ _=>true
 | .unOp _ _ _=>true
 | .convert _ _ _=>true
 | .fieldAddr _ _ _=>true
 | .indexAddr _ _ _=>true
 | .slice _ _ _ _ _=>true
 | .call { callee:=.builtin .len,args:=_,argTypes:=_ }=>true
 | _=>false
def appO:Op→Bool
 | .call { callee:=.builtin .append,args:=_,argTypes:=_ }=>true
 | _=>false
def lookO:Op→Bool
 | .move _=>true
 | .load _ _=>true
 | .nilCheck _=>true
 | .binOp _ _ _ _ _=>true
 | .convert _ _ _=>true
 | .fieldAddr _ _ _=>true
 | .field _ _ _=>true
 | .extract _ _=>true
 | .indexAddr _ _ _=>true
 | .slice _ _ _ _ _=>true
 | .call { callee:=.builtin .len,args:=_,argTypes:=_ }=>true
 | _=>false
def atO (f:Op→Bool) (ops:List Oper) (k:Nat):Bool:=match ops[k]? with
 | some o=>f o.op
 | none=>false
def firmAt (ops:List Oper) (i:Nat):Bool:=
 (List.range ops.length).all fun k=>if k<i then Za3 ops.toArray 6 i k || atO ZmK ops k else k==i || Za3 ops.toArray 6 k i || atO ZmK ops k
def firmP (ops:List Oper) (i:Nat):Bool:=
 (List.range ops.length).all fun k=>if k<i then Za3 ops.toArray 6 i k || atO lookO ops k else k==i || Za3 ops.toArray 6 k i || atO ZmK ops k
def firmC (ops:List Oper) (i:Nat):Bool:=
 (List.range ops.length).all fun k=>if k<i then Za3 ops.toArray 6 i k || atO aheadO ops k else k==i || Za3 ops.toArray 6 k i || atO ZnR ops k
def ZeH (ops:List Oper) (o:Oper):Nat:=ops.findIdx fun x=>x.dst==o.dst
def firm (ops:List Oper) (o:Oper):Bool:=(startO o.op&&firmAt ops (ZeH ops o)) || (callO o.op&&firmC ops (ZeH ops o)) || (appO o.op&&firmP ops (ZeH ops o))
def XK:Option COp→COp
 | some c=>c
 | none=>.stuck
def Zdi (nt:Nat) (ops:List Oper) (o:Oper):Option CO:=bnd (ZeG ops o.guard) fun g=>
 if Qa nt o.dst then some { dst:=o.dst,guard:=g,op:=XK (cOp P o.type o.op),tl:=firm ops o } else none
end
end Go.Abs
