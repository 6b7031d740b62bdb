/- Own text. -/
import Derived.Test.YtighjmleicikhaaAbsBase
set_option linter.unusedVariables false
set_option linter.unusedSimpArgs false
namespace Go.Abs
open Go
def mat:List (Option Nat)→List AV→Nat→List AV×Hp
 | some s :: ts,.nil :: vs,b=>let r:=mat ts vs (b+1);(.own b :: r.1,(b,.row s [] true false) :: r.2)
 | _ :: ts,v :: vs,b=>let r:=mat ts vs b;(v :: r.1,r.2)
 | _,vs,_=>(vs,[])
def Zbf:List AV→Bool
 | []=>false
 | .nil :: _=>true
 | _ :: r=>Zbf r
structure Eff where
 val:AV
 adds:Hp:=[]
 sets:Hp:=[]
 dels:List Nat:=[]
 frz:List Nat:=[]
def Zd:Hp→Hp→Hp
 | hp,[]=>hp
 | hp,(k,o) :: r=>Zd (ins hp k o) r
def del:Hp→Nat→Hp
 | [],_=>[]
 | (k,o) :: r,t=>if k=t then del r t else (k,o) :: del r t
def ZN:Hp→List Nat→Hp
 | hp,[]=>hp
 | hp,k :: r=>ZN (del hp k) r
def ZZ (ids:List Nat) (hp:Hp):Hp:=match ids with
 | []=>hp
 | _=>freeze ids hp
def Eff.on (e:Eff) (hp:Hp):Hp:=Zd (Zd (ZN (ZZ e.frz hp) e.dels) e.sets) e.adds
def Zoe:List AV→Nat→List AV→List AV
 | cs,_,[]=>cs
 | cs,off,v :: r=>Zoe (cs.set off v) (off+1) r
def Ze7:List AV→List (Nat×Nat×AV)→Option (List AV)
 | cells,[]=>some cells
 | cells,q :: r=>if q.2.2.solid∧q.2.2.cells.length=q.2.1∧q.1+q.2.1≤cells.length then Ze7 (Zoe cells q.1 q.2.2.cells) r else none
def AV.atom:AV→Bool
 | .d x=>x.one
 | .agg _=>false
 | .tup _=>false
 | .clo _ _=>false
 | _=>true
def ZbW:List AV→Bool
 | []=>true
 | v :: r=>v.atom&&ZbW r
def cloV (f:Nat) (cs:List AV):Option AV:=if ZbW cs then some (.clo f cs) else none
def Zdu:AV→AV
 | .bbuf _ _=>.junk
 | v=>v
def W0 (agg:Bool) (s off:Nat):Option Zh→Option AV
 | some (.box cs)=>if agg then (if off+s≤cs.length then some (V7 ((cs.drop off).take s)) else none) else (cs[off]?).map Zdu
 | _=>none
def UR (agg:Bool) (s off:Nat) (cs:List D):Option AV:=
 if agg then (if off+s≤cs.length then some (.d (.agg ((cs.drop off).take s))) else none) else asD cs[off]?
def Zdv (agg:Bool) (s sz off:Nat) (x:D):Option AV:=if x.cells.length=sz then UR agg s off x.cells else none
def Ze8 (i off:Nat):Option (Option Nat×Nat×Nat)→Option AV
 | some (some nm,i',c)=>if i=i'∧off=c then some (.own nm) else none
 | _=>none
def We (i off:Nat) (lk:Option (Option Nat×Nat×Nat)) (x:D):Option AV:=match x.cells[off]? with
 | some (.sl _)=>Ze8 i off lk
 | some y=>if y.plain then some (.d y) else none
 | none=>none
def Wf (id:Nat) (agg:Bool) (s sz i off:Nat):Option Zh→Option AV
 | some (.row sz' xs _ _)=>if sz=sz' then bnd xs[i]? (Zdv agg s sz off) else none
 | some (.tree sz' _ xs lk)=>if sz=sz' then (if agg then none else bnd xs[i]? (We i off lk)) else none
 | _=>none
def Vo (hp:Hp) (agg:Bool) (s:Nat):AV→Option AV
 | .ptr id off=>W0 agg s off (lkp hp id)
 | .prow id sz i off=>Wf id agg s sz i off (lkp hp id)
 | .pim cs=>UR agg s 0 cs
 | _=>none
def ZjK:AV→Option D
 | .d x=>if x.plain then some x else none
 | _=>none
def ZkY:List AV→Option (List D)
 | []=>some []
 | v :: r=>bnd (ZjK v) fun x=>bnd (ZkY r) fun ds=>some (x :: ds)
def Zbg (slc:List (Option Nat)) (s base id off:Nat) (vs:List AV):Option Zh→Option Eff
 | some (.box cs)=>if vs.length=s∧off+s≤cs.length∧QW vs∧QP cs=true then
    (if Zbf vs then some { val := .junk, adds := (mat slc vs base).2, sets := [(id, .box (Zm cs off (mat slc vs base).1))] }
      else some { val:=.junk,sets:=[(id,.box (Zm cs off vs))] })
   else none
 | _=>none
def D.notSl:D→Bool
 | .sl _=>false
 | _=>true
def ZbX (s id sz i off:Nat) (xs:List D) (ex:Bool) (x:D) (q:List D×Bool×List Nat):Option Eff:=
 if x.notSl∧x.cells.length=sz∧q.1.length=s∧off+s≤sz∧q.2.2.contains id=false then
  some { val:=.junk,sets:=[(id,.row sz (xs.set i (Yu x off q.1)) (ex&&q.2.1) false)],frz:=q.2.2 } else none
def ZbY (n id:Nat):Option Zh→Option (D×List Nat)
 | some (.row sz xs true false)=>if sz=n∧Ur D.flat xs then some (.sl xs,[id]) else none
 | some (.tree sz n' xs none)=>if sz=n∧n'=n then some (.sl xs,[id]) else none
 | _=>none
def Zbh (hp:Hp) (n:Nat):AV→Option (D×List Nat)
 | .d x=>if x.plain then some (x,[]) else none
 | .nil=>some (.sl [],[])
 | .own id=>ZbY n id (lkp hp id)
 | _=>none
def YL (hp:Hp) (n:Nat):List AV→Option (List D×List Nat)
 | []=>some ([],[])
 | v :: r=>bnd (Zbh hp n v) fun q=>bnd (YL hp n r) fun p=>if !q.2.any p.2.contains then some (q.1 :: p.1,q.2++p.2) else none
def D.isAgg:D→Bool
 | .agg _=>true
 | _=>false
def Wg (i off s:Nat):Option (Option Nat×Nat×Nat)→Option (Option Nat×Nat×Nat)
 | some (nm,i',c)=>if i=i'∧off≤c∧c<off+s then none else some (nm,i',c)
 | none=>none
def ZbZ (s id sz n i off:Nat) (xs:List D) (lk:Option (Option Nat×Nat×Nat)) (x:D) (q:List D×List Nat):Option Eff:=
 if x.isAgg∧x.cells.length=sz∧q.1.length=s∧off+s≤sz∧q.2.contains id=false then
  some { val:=.junk,sets:=[(id,.tree sz n (xs.set i (Yu x off q.1)) (Wg i off s lk))],dels:=q.2 } else none
def US (hp:Hp) (s id sz i off:Nat) (vs:List AV):Option Zh→Option Eff
 | some (.row sz' xs ex false)=>if sz=sz' then bnd xs[i]? fun x=>bnd (Yt hp vs) fun q=>ZbX s id sz i off xs ex x q else none
 | some (.tree sz' n xs lk)=>if sz=sz' then bnd xs[i]? fun x=>bnd (YL hp n vs) fun q=>ZbZ s id sz n i off xs lk x q else none
 | _=>none
def Uh (hp:Hp) (slc:List (Option Nat)) (s base:Nat) (vs:List AV):AV→Option Eff
 | .ptr id off=>Zbg slc s base id off vs (lkp hp id)
 | .prow id sz i off=>US hp s id sz i off vs (lkp hp id)
 | _=>none
def uni (s:Nat) (ys:List D):Prop:=∀ y∈ys,y.cells.length=s
def Zt:Nat:=140737488355328
def QA (ys:List D):Prop:=∀ y∈ys,y.flat=true
def ZjL (flat:Bool):Option Zh→Option (List D×Bool)
 | some (.row _ ys ex _)=>some (ys,ex || flat)
 | _=>none
def Zgz:AV→Option (List D×Bool)
 | .d (.str s)=>some (s.map fun b=>.int .u8 b.toNat,true)
 | _=>none
def ZfH (flat:Bool) (off n:Nat):Option Zh→Option (List D×Bool)
 | some (.row _ ys ex _)=>some ((ys.drop off).take n,ex || flat)
 | _=>none
def Zbi (hp:Hp) (flat:Bool):AV→Option (List D×Bool)
 | .nil=>some ([],true)
 | .d (.sl ys)=>some (ys,flat)
 | .own id=>ZjL flat (lkp hp id)
 | .ownv id off n=>ZfH flat off n (lkp hp id)
 | _=>none
def ZgA (sz base:Nat) (dels:List Nat) (xs:List D) (ex:Bool):Eff:=
 { val:=.own base,adds:=[(base,.row sz xs ex false)],dels:=dels }
def ZgB (sz by_ base id:Nat) (ys:List D) (ex' : Bool):Option Zh→Option Eff
 | some (.row sz' xs ex false)=>if sz'=sz∧(xs.length+ys.length)*by_≤Zt∧xs.length+ys.length≤Zt then some (ZgA sz base [id] (xs++ys) (ex&&ex')) else none
 | _=>none
def Zdw (sz by_ base id n:Nat) (ys:List D) (ex' : Bool):Option Zh→Option Eff
 | some (.row sz' xs ex false)=>if sz'=sz∧(n+ys.length)*by_≤Zt∧n+ys.length≤Zt then some (ZgA sz base [id] (xs.take n++ys) (ex&&ex')) else none
 | _=>none
def Zdx (sz base id n:Nat) (ys:List D) (ex' : Bool):Option Zh→Option Eff
 | some (.row sz' xs ex false)=>if sz'=sz∧0<xs.length∧n+ys.length≤xs.length then
   some { val:=.ownv base 0 (n+ys.length),adds:=[(base,.row sz (xs.take n++ys++xs.drop (n+ys.length)) (ex&&ex') false)],dels:=[id] } else none
 | _=>none
def Zdy (sz by_ base id off n:Nat) (ys:List D):Option Zh→Option Eff
 | some (.row sz' xs _ false)=>if sz'=sz∧(n+ys.length)*by_≤Zt∧n+ys.length≤Zt then some (ZgA sz base [id] ((xs.drop off).take n++ys) false) else none
 | _=>none
def Zcy (hp:Hp) (sz by_:Nat) (base:Nat) (src:List Nat) (ys:List D) (ex' : Bool):AV→Option Eff
 | .nil=>if ys.length*by_≤Zt∧ys.length≤Zt then some (ZgA sz base [] ys ex') else none
 | .own id=>if src.contains id then none else ZgB sz by_ base id ys ex' (lkp hp id)
 | .ownv id off n=>if off≠0 then (if src.contains id then none else Zdy sz by_ base id off n ys (lkp hp id)) else if src.contains id then Zdx sz base id n ys ex' (lkp hp id) else Zdw sz by_ base id n ys ex' (lkp hp id)
 | _=>none
open Classical in
noncomputable def Wh (hp:Hp) (sz by_:Nat) (str flat:Bool) (base:Nat) (s x:AV):Option Eff:=
 bnd (if str then Zgz x else Zbi hp flat x) fun q=>if uni sz q.1∧(flat=true→QA q.1) then Zcy hp sz by_ base (Jm x) q.1 q.2 s else none
def idx (i:AV):Option Int:=match i with
 | .d (.int _ n)=>some n
 | _=>none
def Znd (sz:Nat) (y:D):Option AV:=if y.cells.length=sz then some (.pim y.cells) else none
def Jr (sz id n:Nat):Option Zh→Option AV
 | some (.row sz' xs _ _)=>if sz'=sz∧n<xs.length then some (.prow id sz n 0) else none
 | some (.tree sz' _ xs _)=>if sz'=sz∧n<xs.length then some (.prow id sz n 0) else none
 | _=>none
def UT (sz id off m n:Nat):Option Zh→Option AV
 | some (.row sz' _ _ _)=>if sz'=sz∧n<m then some (.prow id sz (off+n) 0) else none
 | _=>none
def Qd (hp:Hp) (sz n:Nat):AV→Option AV
 | .d (.sl xs)=>bnd xs[n]? (Znd sz)
 | .own id=>Jr sz id n (lkp hp id)
 | .ownv id off m=>UT sz id off m n (lkp hp id)
 | _=>none
def bd (m:Nat) (v:AV):Option Nat:=bnd (idx v) fun n=>if 0≤n∧n≤m then some n.toNat else none
def hiOf (len:Nat):Option AV→Option Nat
 | none=>some len
 | some v=>bd len v
def loOf (h:Nat):Option AV→Option Nat
 | none=>some 0
 | some v=>bd h v
def ZjM (len:Nat) (lo hi:Option AV):Option (Nat×Nat):=bnd (hiOf len hi) fun h=>bnd (loOf h lo) fun l=>some (l,h)
def ZkZ (id n:Nat):Option AV→Option AV→Option AV
 | none,none=>some (.own id)
 | lo,hi=>bnd (ZjM n lo hi) fun b=>some (.ownv id b.1 (b.2-b.1))
def UU (s id:Nat) (lo hi:Option AV):Option Zh→Option AV
 | some (.row sz xs _ _)=>if sz=s then ZkZ id xs.length lo hi else none
 | _=>none
def Zpe (n m:Nat) (lo:Option AV):Option AV→Option (Nat×Nat)
 | none=>ZjM n lo none
 | some h=>ZjM m lo (some h)
def WP (s id off n:Nat) (lo hi:Option AV):Option Zh→Option AV
 | some (.row sz xs _ _)=>if sz=s then bnd (Zpe n (xs.length-off) lo hi) fun b=>some (.ownv id (off+b.1) (b.2-b.1)) else none
 | _=>none
def slice3 (hp:Hp) (x:AV) (lo hi mx:Option Int):Option AV:=bnd lo fun l=>bnd hi fun h=>bnd mx fun m=>bnd (JF hp x) fun n=>
 if 0≤l∧l≤h∧h≤m∧m≤n then some .junk else none
def Zdz (s id off n:Nat) (z:D):Option Zh→Option Eff
 | some (.row sz xs ex false)=>if sz=s∧z.cells.length=s∧off+n≤xs.length then some { val:=.tup [],sets:=[(id,.row sz (xs.take off++List.replicate n z++xs.drop (off+n)) ex false)] } else none
 | _=>none
def Zaq (hp:Hp) (s:Nat) (z:D):AV→Option Eff
 | .ownv id off n=>Zdz s id off n z (lkp hp id)
 | _=>none
open Classical in
noncomputable def Yp (hp:Hp) (s:Nat) (lo hi:Option AV):AV→Option AV
 | .d (.sl xs)=>if uni s xs then bnd (ZjM xs.length lo hi) fun b=>some (.d (.sl ((xs.take b.2).drop b.1))) else none
 | .nil=>bnd (ZjM 0 lo hi) fun _=>some .nil
 | .own id=>UU s id lo hi (lkp hp id)
 | .ownv id off n=>WP s id off n lo hi (lkp hp id)
 | _=>none
def sliceS (lo hi:Option AV):AV→Option AV
 | .d (.str s)=>bnd (ZjM s.length lo hi) fun b=>some (.d (.str ((s.take b.2).drop b.1)))
 | _=>none
def slice0 (hp:Hp) (x:AV) (hi mx:Option Int):Option AV:=match hi,mx with
 | some 0,some 0=>bnd (JF hp x) fun _=>some .nil
 | _,_=>none
def ZdA (agg:Bool) (s off:Nat):AV→Option AV
 | .d (.agg cs)=>UR agg s off cs
 | .agg cs=>if agg then (if off+s≤cs.length then some (V7 ((cs.drop off).take s)) else none) else cs[off]?
 | _=>none
abbrev Orc:=Nat→List AV→List Zh→Option (AV×List Zh)
abbrev Zg:=Nat→Nat→Bool
def Zar (hp:Hp) (id:Nat):Bool→Option AV
 | true=>some (.own id)
 | false=>asD (Zch hp (.own id))
def Zbj:Bool→Option AV
 | true=>some .nil
 | false=>some (.d (.sl []))
def Zas (hp:Hp) (cs:List AV):Bool→Option AV
 | true=>if JD cs then none else some (.agg cs)
 | false=>asD (toD hp (.agg cs))
def Jl (hp:Hp) (m:Bool):AV→Option AV
 | .ptr a b=>some (.ptr a b)
 | .clo f c=>some (.clo f c)
 | .nilp=>some .nilp
 | .nili=>some .nili
 | .pim c=>some (.pim c)
 | .own id=>Zar hp id m
 | .nil=>Zbj m
 | .d x=>some (.d x)
 | .agg cs=>Zas hp cs m
 | v=>asD (toD hp v)
def args (hp:Hp) (m:Nat→Bool):Nat→List AV→Option (List AV)
 | _,[]=>some []
 | i,v :: r=>bnd (Jl hp (m i) v) fun a=>bnd (args hp m (i+1) r) fun as=>some (a :: as)
def Wi (hp:Hp) (go:List Nat→List Nat→List Nat) (id:Nat) (todo acc:List Nat):Option Zh→List Nat
 | some o=>go (todo++V8 o) (acc++[id])
 | none=>go todo acc
def Qz (hp:Hp):Nat→List Nat→List Nat→List Nat
 | 0,_,acc=>acc
 | _+1,[],acc=>acc
 | n+1,id :: todo,acc=>if acc.contains id then Qz hp n todo acc else Wi hp (Qz hp n) id todo acc (lkp hp id)
def Yx:List Nat→Nat→Nat
 | [],_=>0
 | x :: r,t=>if x=t then 0 else Yx r t+1
def Zk0:Option Zh→Zh
 | some o=>o
 | none=>.gone
def JI (hp:Hp):List Nat→List Zh
 | []=>[]
 | id :: r=>Zk0 (lkp hp id) :: JI hp r
def W6 (ids:List Nat) (o:Zh):Zh:=Zdb (Yx ids) (QJ ((V8 o).filter fun i=>!ids.contains i) o)
def Zbk:Option Zh→Bool
 | some (.row _ _ _ _)=>true
 | some (.tree _ _ _ _)=>true
 | some .gone=>true
 | _=>false
def UV:AV→Bool
 | .d x=>x.flat
 | .pim _=>false
 | .agg _=>false
 | .tup _=>false
 | .clo _ _=>false
 | _=>true
def JJ:AV→Bool
 | .agg cs=>cs.all UV
 | .clo _ cs=>cs.all UV
 | v=>UV v
def ZiN:AV→Bool
 | .tup vs=>vs.all JJ
 | v=>JJ v
def Zbl:Zh→Bool
 | .box cs=>cs.all JJ
 | .row _ _ ex fz=>ex&&!fz
 | .tree _ _ _ _=>true
 | .gone=>true
def ZcQ (d:Nat):Option Nat→Nat
 | some i=>i
 | none=>d
def YM (ids:List Nat) (base k:Nat):Nat:=ZcQ (base+(k-ids.length)) ids[k]?
def UW (g:Nat→Nat):List Nat→List Zh→Hp
 | id :: ids,o :: os=>(id,Zdb g o) :: UW g ids os
 | _,_=>[]
def UX (g:Nat→Nat):Nat→List Zh→Hp
 | _,[]=>[]
 | k,o :: os=>(k,Zdb g o) :: UX g (k+1) os
structure Zb where
 eff:Eff
 gone:List Nat
def Q7 (_hp:Hp):Nat:=1000
def XI:List AV→List AV→List Nat
 | v :: vs,.d _ :: as=>Zah v++XI vs as
 | _ :: vs,_ :: as=>XI vs as
 | _,_=>[]
def UY:Option Zh→Bool
 | some (.tree _ _ _ _)=>true
 | _=>false
def Zej:List Nat→List Zh→List Nat
 | id :: ids,.gone :: os=>id :: Zej ids os
 | _ :: ids,_ :: os=>Zej ids os
 | _,_=>[]
def Zek (hp:Hp) (ids:List Nat) (out:List Zh):Bool→List Nat
 | true=>Zej ids out
 | false=>ids.filter fun i=>Zbk (lkp hp i)
def W7 (keep:Bool) (hp:Hp) (base:Nat) (ids lent:List Nat) (r:AV) (out:List Zh):Option Zb:=
 if out.length<ids.length then none else if !(ZiN r&&out.all Zbl)&&lent.any fun i=>UY (lkp hp i) then none else
  some { eff := { val:=ren (YM ids base) r,adds:=UX (YM ids base) base (out.drop ids.length),sets:=UW (YM ids base) ids out,frz:=if ZiN r&&out.all Zbl then [] else lent },gone:=Zek hp ids out keep }
def WI:AV→List Nat
 | .ptr id _=>[id]
 | .clo _ cs=>cs.flatMap Zf
 | _=>[]
def Ux (hp:Hp) (rs ids:List Nat):Bool:=ids.all fun i=>Zbk (lkp hp i) || rs.contains i
def Zat (C:Orc) (keep:Bool) (hp:Hp) (base f:Nat) (lent:List Nat) (as:List AV) (ids:List Nat):Option Zb:=
 if (as.flatMap Zo).all ids.contains∧¬lent.any ids.contains∧Ux hp (as.flatMap WI) ids=true then
  bnd (C f (as.map (ren (Yx ids))) ((JI hp ids).map (W6 ids))) fun q=>W7 keep hp base ids lent q.1 q.2
 else none
def Js (C:Orc) (m:Nat→Bool) (hp:Hp) (base f:Nat) (avs:List AV):Option Zb:=
 bnd (args hp m 0 avs) fun as=>Zat C (m 99) hp base f (XI avs as) as (Qz hp (Q7 hp) (as.flatMap Zo) [])
def Qk (v:AV):Option Zb:=some { eff := { val:=v },gone:=[] }
def Yq (v:Option AV):Option Zb:=bnd v Qk
def Za2 (e:Option Eff):Option Zb:=bnd e fun e=>some { eff:=e,gone:=[] }
def Zau (base:Nat) (e:Option Nat):AV→Option Zb
 | .nil=>bnd e fun s=>some { eff := { val:=.own base,adds:=[(base,.row s [] true false)] },gone:=[] }
 | v=>Qk v
def Zbm (a b:AV):AV→Option Zb
 | .d (.bool t)=>if t then Qk a else Qk b
 | _=>none
def Zcj (base:Nat):AV→AV
 | .bnil _ e=>.bnil base e
 | v=>v
def bnT (t te:Nat):List AV→List AV
 | [.nilp,.nil]=>[.bnil 0 t,.bbuf te []]
 | cs=>cs
def Zpf:List AV→Bool
 | [.bnil _ _,.bbuf _ []]=>true
 | _=>false
def ZgC (slc:List (Option Nat)) (base:Nat) (cs:List AV):Option Zb:=
 if QP cs=false then (if Zpf cs=true then some { eff := { val:=.ptr base 0,adds:=[(base,.box cs)] },gone:=[] } else none) else
 if Zbf cs then some { eff := { val:=.ptr base 0,adds:=(base,.box (mat slc cs (base+1)).1) :: (mat slc cs (base+1)).2 },gone:=[] }
 else some { eff := { val:=.ptr base 0,adds:=[(base,.box cs)] },gone:=[] }
def Zbn (slc:List (Option Nat)) (base:Nat) (cs:List AV):Option Zb:=ZgC slc base (cs.map (Zcj base))
def Zof (base:Nat) (x:AV):Option Zb:=if x.solid&&QP x.cells then some { eff := { val:=.ptr base 0,adds:=[(base,.box x.cells)] },gone:=[] } else none
def ZgD (zs:List AV) (ps:List (Nat×Nat×AV)):Option Zb:=bnd (Ze7 zs ps) fun cs=>Qk (V7 cs)
def Zog (base s:Nat) (q:List D×Bool×List Nat):Option Zb:=
 if q.1.all (fun d=>d.cells.length==s) then some { eff := { val:=.own base,adds:=[(base,.row s q.1 q.2.1 false)],frz:=q.2.2 },gone:=[] } else none
def buildSl (hp:Hp) (base s:Nat):List AV→Option Zb
 | []=>Qk .nil
 | v :: vs=>bnd (Y3 hp (v :: vs)) (Zog base s)
def VF (hp:Hp) (n s:Nat):List AV→Option (List D×List Nat)
 | []=>some ([],[])
 | .agg cs :: r=>bnd (YL hp n cs) fun q=>bnd (VF hp n s r) fun p=>
   if q.1.length=s∧(!q.2.any p.2.contains)=true then some (.agg q.1 :: p.1,q.2++p.2) else none
 | _=>none
def asgT (base s n:Nat):AV→Option Zb
 | .nil=>some { eff := { val:=.own base,adds:=[(base,.tree s n [] none)] },gone:=[] }
 | _=>none
def buildT (hp:Hp) (base s n:Nat) (vs:List AV):Option Zb:=
 if vs.isEmpty=false then bnd (VF hp n s vs) fun q=>some { eff := { val:=.own base,adds:=[(base,.tree s n q.1 none)],dels:=q.2 },gone:=[] } else none
def WQ:AV→Option Zb
 | .ptr a b=>Qk (.ptr a b)
 | .prow a b c d=>Qk (.prow a b c d)
 | .pim c=>Qk (.pim c)
 | .clo f c=>Qk (.clo f c)
 | _=>none
def Zfo (op:BinOp) (eq:Bool):AV→AV→Option Zb
 | .d (.bool a),.d (.bool b)=>if eq then Yq (Zio op a b) else none
 | a,b=>Yq (vbin op a b)
def WF:List Nat→List D→List D→Option Bool
 | [],[],[]=>some true
 | 0 :: ks,.int k a :: cs,.int k' b :: ds=>if k=k' then bnd (WF ks cs ds) fun r=>some (decide (a=b)&&r) else none
 | 1 :: ks,.bool a :: cs,.bool b :: ds=>bnd (WF ks cs ds) fun r=>some (decide (a=b)&&r)
 | 2 :: ks,.str a :: cs,.str b :: ds=>bnd (WF ks cs ds) fun r=>some (decide (a=b)&&r)
 | _,_,_=>none
def ZgE (neg:Bool) (r:Bool):Bool:=if neg then !r else r
def ZjN (neg:Bool) (ks:List Nat):AV→AV→Option Zb
 | .d (.agg cs),.d (.agg ds)=>bnd (WF ks cs ds) fun r=>Qk (.d (.bool (ZgE neg r)))
 | _,_=>none
def convI (k:IntKind):AV→Option Zb
 | .d (.int _ n)=>Qk (.d (.int k (k.wrap n)))
 | _=>none
def convS:AV→Option Zb
 | .d (.str s)=>Qk (.d (.str s))
 | _=>none
def ZiO (base s b:Nat) (z:D) (l c:Int):Option Zb:=
 if 0≤l∧l≤c∧c*b≤Zt∧c≤Zt∧z.cells.length=s then
  some { eff := { val:=.own base,adds:=[(base,.row s (List.replicate l.toNat z) true false)] },gone:=[] } else none
def makeT (base s b ns:Nat) (z:D) (l c:Int):Option Zb:=
 if 0≤l∧l≤c∧c*b≤Zt∧c≤Zt∧z.cells.length=s∧z.isAgg=true then
  some { eff := { val:=.own base,adds:=[(base,.tree s ns (List.replicate l.toNat z) none)] },gone:=[] } else none
def YN (off:Nat):AV→Option Zb
 | .ptr id o=>Qk (.ptr id (o+off))
 | .prow id sz i o=>Qk (.prow id sz i (o+off))
 | .pim cs=>Qk (.pim (cs.drop off))
 | _=>none
def ZgF (x:AV) (n:Int) (len s:Nat):Option Zb:=if 0≤n∧n<len then YN (n.toNat*s) x else none
def Zcz (hp:Hp) (s:Nat) (x:AV) (n:Int):Option Zb:=if 0≤n then Yq (Qd hp s n.toNat x) else none
def Zk1 (s:List UInt8) (n:Int):Option Zb:=if 0≤n then bnd s[n.toNat]? fun b=>Qk (.d (.int .u8 b.toNat)) else none
def Zoh (g:Bool) (s len:Nat) (n:Int) (v:AV):Option Zb:=if 0≤n∧n<len then Yq (ZdA g s (n.toNat*s) v) else none
def Zme (n:Int):AV→Option Zb
 | .d (.str s)=>Zk1 s n
 | _=>none
def Zk2 (i:Nat):AV→Option Zb
 | .tup vs=>Yq vs[i]?
 | _=>none
def Zel:Option Zh→Option (Nat×Nat×List D)
 | some (.tree s n xs none)=>some (s,n,xs)
 | _=>none
def Jt (hp:Hp):AV→Option (Nat×Nat×Nat×List D)
 | .own id=>bnd (Zel (lkp hp id)) fun q=>some (id,q)
 | _=>none
def Uy (hp:Hp) (s b base id n:Nat) (ys:List D):AV→Option Eff
 | .nil=>if ys.length*b≤Zt∧ys.length≤Zt then some { val:=.own base,adds:=[(base,.tree s n ys none)],dels:=[id] } else none
 | .own id1=>bnd (Zel (lkp hp id1)) fun q=>if q.1=s∧q.2.1=n∧id1≠id∧(q.2.2.length+ys.length)*b≤Zt∧q.2.2.length+ys.length≤Zt then
   some { val:=.own base,adds:=[(base,.tree s n (q.2.2++ys) none)],dels:=[id1,id] } else none
 | _=>none
def Wj (xs:List D) (i c:Nat):Option (List D):=bnd xs[i]? fun x=>match x.cells[c]? with
 | some (.sl ys)=>some ys
 | _=>none
def Q8 (hp:Hp):AV→List Nat
 | .own id=>if UY (lkp hp id) then [id] else []
 | _=>[]
def ZdB:Zh→Zh
 | .tree s _ xs none=>.row s xs true false
 | o=>o
def meltIn (hp:Hp):List Nat→Hp
 | []=>hp
 | i :: r=>match lkp hp i with
  | some o=>ins (meltIn hp r) i (ZdB o)
  | none=>meltIn hp r
noncomputable def X2 (hp:Hp) (s b:Nat) (str flat:Bool) (base:Nat) (x y:AV):List Nat→Option Eff
 | []=>Wh hp s b str flat base x y
 | i :: r=>if flat then none else bnd (Wh (meltIn hp (i :: r)) s b str flat base x y) fun e=>some { val:=e.val,adds:=e.adds,sets:=e.sets,dels:=e.dels++(i :: r),frz:=e.frz }
def appT (hp:Hp) (s b base:Nat) (x y:AV):Option Zb:=Za2 (bnd (Jt hp y) fun q=>if q.2.1=s then Uy hp s b base q.1 q.2.2.1 q.2.2.2 x else none)
noncomputable def JK (hp:Hp) (s b:Nat) (str flat:Bool) (base:Nat) (x y:AV):List Nat→List Nat→Option Zb
 | [],m=>Za2 (X2 hp s b str flat base x y m)
 | i :: r,[]=>Za2 (X2 hp s b str flat base x y (i :: r))
 | _ :: _,_ :: _=>if flat || str then none else appT hp s b base x y
noncomputable def Zk3 (hp:Hp) (s b:Nat) (str flat:Bool) (base:Nat) (x y:AV):Option Zb:=JK hp s b str flat base x y (Q8 hp x) (Q8 hp y)
def Ze9:AV→AV→Option Zb
 | .d (.int k a),.d (.int k' b)=>if k=k' then Qk (.d (.int k (minI a b))) else none
 | _,_=>none
def Zfa:AV→AV→Option Zb
 | .d (.int k a),.d (.int k' b)=>if k=k' then Qk (.d (.int k (maxI a b))) else none
 | _,_=>none
inductive Opd where
 | t (n:Nat)
 | v (a:AV)
 | f (n:Nat)
def evO (sl:Sl):Opd→AV
 | .t n=>gs sl n
 | .v a=>a
 | .f n=>.clo n []
def evL (sl:Sl):List Opd→List AV
 | []=>[]
 | x :: r=>evO sl x :: evL sl r
def evP (sl:Sl):List (Nat×Nat×Opd)→List (Nat×Nat×AV)
 | []=>[]
 | (a,b,x) :: r=>(a,b,evO sl x) :: evP sl r
def evM (sl:Sl):Option Opd→Option AV
 | none=>none
 | some x=>some (evO sl x)
inductive COp where
 | move (x:Opd)
 | assign (s:Option Nat) (x:Opd)
 | pick (c a b:Opd)
 | alloc (slc:List (Option Nat)) (cs:List AV)
 | box (x:Opd)
 | build (zs:List AV) (ps:List (Nat×Nat×Opd))
 | buildSl (s:Nat) (xs:List Opd)
 | load (g:Bool) (s:Nat) (a:Opd)
 | store (slc:List (Option Nat)) (s:Nat) (a x:Opd)
 | nilCheck (x:Opd)
 | bin (op:BinOp) (eq:Bool) (x y:Opd)
 | un (op:UnOp) (x:Opd)
 | eqA (neg:Bool) (ks:List Nat) (x y:Opd)
 | convI (k:IntKind) (x:Opd)
 | convS (x:Opd)
 | fn (f:Nat) (caps:List Opd)
 | make (s b:Nat) (z:D) (l c:Opd)
 | slice (s:Nat) (x:Opd) (lo hi:Option Opd)
 | sliceS (x:Opd) (lo hi:Option Opd)
 | slice0 (x hi mx:Opd)
 | shift (off:Nat) (x:Opd)
 | part (g:Bool) (s off:Nat) (x:Opd)
 | iaS (s:Nat) (x i:Opd)
 | iaA (len s:Nat) (x i:Opd)
 | ixS (x i:Opd)
 | ixA (g:Bool) (s len:Nat) (x i:Opd)
 | nth (i:Nat) (x:Opd)
 | len (x:Opd)
 | lenS (x:Opd)
 | append (s b:Nat) (str flat:Bool) (x y:Opd)
 | min (x y:Opd)
 | max (x y:Opd)
 | call (f:Opd) (as:List Opd)
 | slice3 (s:Nat) (x lo hi mx:Opd)
 | clear (s:Nat) (z:D) (x:Opd)
 | stuck
 | buildT (s n:Nat) (xs:List Opd)
 | appT (s b:Nat) (flat:Bool) (x y:Opd)
 | asgT (s n:Nat) (x:Opd)
 | makeT (s b n:Nat) (z:D) (l c:Opd)
structure CO where
 dst:Option Nat
 guard:Option (Nat×Bool)
 op:COp
 tl:Bool
def JL (C:Orc) (M:Zg) (hp:Hp) (base:Nat) (as:List AV):AV→Option Zb
 | .clo g caps=>Js C (M g) hp base g (as++caps)
 | _=>none
noncomputable def vop (C:Orc) (M:Zg) (sl:Sl) (hp:Hp) (base:Nat):COp→Option Zb
 | .move x=>Qk (evO sl x)
 | .assign s x=>Zau base s (evO sl x)
 | .pick c a b=>Zbm (evO sl a) (evO sl b) (evO sl c)
 | .alloc slc cs=>Zbn slc base cs
 | .box x=>Zof base (evO sl x)
 | .build zs ps=>ZgD zs (evP sl ps)
 | .buildSl s xs=>buildSl hp base s (evL sl xs)
 | .load g s a=>Yq (Vo hp g s (evO sl a))
 | .store slc s a x=>Za2 (Uh hp slc s base (evO sl x).cells (evO sl a))
 | .nilCheck x=>WQ (evO sl x)
 | .bin op eq x y=>Zfo op eq (evO sl x) (evO sl y)
 | .un op x=>Yq (vun op (evO sl x))
 | .eqA neg ks x y=>ZjN neg ks (evO sl x) (evO sl y)
 | .convI k x=>convI k (evO sl x)
 | .convS x=>convS (evO sl x)
 | .fn f cs=>Yq (cloV f (evL sl cs))
 | .make s b z l c=>bnd (idx (evO sl l)) fun l=>bnd (idx (evO sl c)) fun c=>ZiO base s b z l c
 | .slice s x lo hi=>Yq (Yp hp s (evM sl lo) (evM sl hi) (evO sl x))
 | .sliceS x lo hi=>Yq (sliceS (evM sl lo) (evM sl hi) (evO sl x))
 | .slice0 x hi mx=>Yq (slice0 hp (evO sl x) (idx (evO sl hi)) (idx (evO sl mx)))
 | .shift off x=>YN off (evO sl x)
 | .part g s off x=>Yq (ZdA g s off (evO sl x))
 | .iaS s x i=>bnd (idx (evO sl i)) fun n=>Zcz hp s (evO sl x) n
 | .iaA len s x i=>bnd (idx (evO sl i)) fun n=>ZgF (evO sl x) n len s
 | .ixS x i=>bnd (idx (evO sl i)) fun n=>Zme n (evO sl x)
 | .ixA g s len x i=>bnd (idx (evO sl i)) fun n=>Zoh g s len n (evO sl x)
 | .nth i x=>Zk2 i (evO sl x)
 | .len x=>bnd (JF hp (evO sl x)) fun n=>Qk (.d (.int .i64 n))
 | .lenS x=>bnd (ZnB (evO sl x)) fun n=>Qk (.d (.int .i64 n))
 | .append s b str flat x y=>Zk3 hp s b str flat base (evO sl x) (evO sl y)
 | .min x y=>Ze9 (evO sl x) (evO sl y)
 | .max x y=>Zfa (evO sl x) (evO sl y)
 | .call f as=>JL C M hp base (evL sl as) (evO sl f)
 | .slice3 _ x lo hi mx=>Yq (slice3 hp (evO sl x) (idx (evO sl lo)) (idx (evO sl hi)) (idx (evO sl mx)))
 | .clear s z x=>Za2 (Zaq hp s z (evO sl x))
 | .stuck=>none
 | .buildT s n xs=>buildT hp base s n (evL sl xs)
 | .appT s b _ x y=>appT hp s b base (evO sl x) (evO sl y)
 | .asgT s n x=>asgT base s n (evO sl x)
 | .makeT s b n z l c=>bnd (idx (evO sl l)) fun l=>bnd (idx (evO sl c)) fun c=>makeT base s b n z l c
section
variable (P:Program)
def Xn (t:TypeId):Option TypeId:=match P.underlying t with
 | some (.slice e)=>some e
 | _=>none
def WR (t:TypeId):Bool:=match P.underlying t with
 | some .string=>true
 | _=>false
def Zb0 (t:TypeId):Bool:=match P.underlying t with
 | some .bool=>true
 | _=>false
def Zoi (t:TypeId):Option IntKind:=match P.underlying t with
 | some (.int k)=>some k
 | _=>none
def ZcR (t:TypeId):Option (Nat×TypeId):=match P.underlying t with
 | some (.array n e)=>some (n,e)
 | _=>none
def J4 (t:TypeId):Option Bool:=match P.underlying t with
 | some (.struct _)=>some true
 | some (.array _ _)=>some true
 | some _=>some false
 | none=>none
def Zav (s:TypeId) (f:Nat):Option (Nat×TypeId):=match P.underlying s with
 | some (.struct fs)=>match fs[f]? with
  | some x=>if P.cellsOf x.type=0 then none else some (x.offset,x.type)
  | none=>none
 | _=>none
def W8 (t:TypeId):Option Value:=match P.info? t with
 | some i=>i.zero
 | none=>none
def Zne:Nat→TypeId→List TypeId
 | 0,t=>[t]
 | n+1,t=>match P.underlying t with
  | some (.struct fs)=>fs.toList.flatMap fun f=>Zne n f.type
  | some (.array k e)=>(List.replicate k (Zne n e)).flatten
  | _=>[t]
def slcT (t:TypeId):List (Option Nat):=(Zne P 4 t).map fun c=>(Xn P c).map P.cellsOf
def flatE (t:TypeId):Bool:=(Zne P 4 t).all fun c=>match P.underlying c with
 | some (.int _)=>true
 | some .bool=>true
 | some .string=>true
 | _=>false
def UZ:Nat→TypeId→Nat→Option (List (Nat×Nat))
 | 0,_,_=>none
 | n+1,t,off=>match P.underlying t with
  | some (.int _)=>if P.cellsOf t=1 then some [(off,0)] else none
  | some .bool=>if P.cellsOf t=1 then some [(off,1)] else none
  | some .string=>if P.cellsOf t=1 then some [(off,2)] else none
  | some (.struct fs)=>if P.stoodInHeld t then none else
    bnd (Qb (fun f:Field=>if f.name = "_"∨P.cellsOf t<f.offset+P.cellsOf f.type then none else UZ n f.type (off+f.offset)) fs.toList) fun ls=>some ls.flatten
  | _=>none
def Q3 (t:TypeId):Bool:=match P.underlying t with
 | some (.struct _)=>true
 | _=>false
def Zk4 (t:TypeId):Option (List Nat):=bnd (UZ P 5 t 0) fun ls=>
 if ls.map (·.1)=List.range (P.cellsOf t)∧Q3 P t=true∧P.eqGuardType P.depth t=false then some (ls.map (·.2)) else none
def Zk5 (neg:Bool) (op:BinOp) (t:TypeId) (x y:Opd):Option (List Nat)→COp
 | some ks=>.eqA neg ks x y
 | none=>.bin op (Zb0 P t) x y
def Zmf (op:BinOp) (t:TypeId) (x y:Opd):COp:=match op with
 | .eql=>Zk5 P false .eql t x y (Zk4 P t)
 | .neq=>Zk5 P true .neq t x y (Zk4 P t)
 | op=>.bin op (Zb0 P t) x y
end
section
variable (P:Program)
def ZI:Operand→Option Opd
 | .tmp t=>some (.t t)
 | .const v=>some (.v (evC v))
 | .global _=>none
 | .func f=>some (.f f)
def Zk6 (pl:Nat→Option (Nat×Nat)) (q:Nat×Operand):Option (Nat×Nat×Opd):=bnd (pl q.1) fun p=>bnd (ZI q.2) fun x=>some (p.1,p.2,x)
def cOO:Option Operand→Option (Option Opd)
 | none=>some none
 | some x=>bnd (ZI x) fun y=>some (some y)
def Zaw (t:TypeId):Option (Nat×TypeId)→Nat→Option (Nat×Nat)
 | none,i=>bnd (Zav P t i) fun q=>some (q.1,P.cellsOf q.2)
 | some a,i=>some (i*P.cellsOf a.2,P.cellsOf a.2)
def Vk (t:TypeId):Bool:=match P.info? t with
 | some i=>(match i.zero with
  | some z=>z.cells.size==i.size&&decide (0<i.size)
  | none=>false)
 | none=>false
def ZdC (t:TypeId):Bool:=match P.underlying t with
 | some (.struct fs)=>fs.toList.all fun f=>(P.info? f.type).isSome
 | some (.array _ e)=>(P.info? e).isSome
 | _=>false
def Zfb (e:TypeId) (u:TypeId):Option Bool:=match Xn P u with
 | some e'=>if e'=e then some false else none
 | none=>if WR P u then some true else none
def ZgG (x i:Opd) (a:Option (Nat×TypeId)):Option TypeId→Option COp
 | some e=>if (P.info? e).isSome then some (.iaS (P.cellsOf e) x i) else none
 | none=>bnd a fun a=>if (P.info? a.2).isSome then some (.iaA a.1 (P.cellsOf a.2) x i) else none
def ZjO (x i:Opd) (str:Bool) (a:Option (Nat×TypeId)):Option COp:=
 if str then some (.ixS x i) else bnd a fun a=>bnd (J4 P a.2) fun g=>some (.ixA g (P.cellsOf a.2) a.1 x i)
def Znf (x:Opd) (ss sd:Bool):Option IntKind→Option IntKind→Option COp
 | some _,some k=>some (.convI k x)
 | _,_=>if ss&&sd then some (.convS x) else none
def cLen (x:Opd) (str:Bool):Option TypeId→Option COp
 | some _=>some (.len x)
 | none=>if str then some (.lenS x) else none
def Zmg (x:Opd) (lo hi:Option Opd) (str:Bool):Option TypeId→Option COp
 | some e=>if (P.info? e).isSome then some (.slice (P.cellsOf e) x lo hi) else none
 | none=>if str then some (.sliceS x lo hi) else none
def U0:Builtin→List Operand→List TypeId→Option COp
 | .len,[x],[t]=>bnd (ZI x) fun x=>cLen x (WR P t) (Xn P t)
 | .append,[s,x],[t,u]=>bnd (Xn P t) fun e=>bnd (Zfb P e u) fun str=>bnd (ZI s) fun s=>bnd (ZI x) fun x=>
   if Vk P e then some (.append (P.cellsOf e) (P.bytesOf e) str (flatE P e) s x) else none
 | .min,[x,y],_=>bnd (ZI x) fun x=>bnd (ZI y) fun y=>some (.min x y)
 | .max,[x,y],_=>bnd (ZI x) fun x=>bnd (ZI y) fun y=>some (.max x y)
 | .clear,[x],[t]=>bnd (Xn P t) fun e=>bnd (ZI x) fun x=>bnd (W8 P e) fun z=>bnd (evD z) fun z=>if Vk P e then some (.clear (P.cellsOf e) z x) else none
 | _,_,_=>none
def teOf (t:TypeId):Nat:=match bnd (Zav P t 1) fun q=>Xn P q.2 with
 | some e=>e
 | none=>0
def cOp (ty:TypeId):Op→Option COp
 | .move x=>bnd (ZI x) fun x=>some (.move x)
 | .assign x=>bnd (ZI x) fun x=>some (.assign (bnd (Xn P ty) fun e=>some (P.cellsOf e)) x)
 | .pick c a b=>bnd (ZI c) fun c=>bnd (ZI a) fun a=>bnd (ZI b) fun b=>some (.pick c a b)
 | .alloc t=>bnd (W8 P t) fun z=>some (.alloc (slcT P t) (bnT t (teOf P t) (evC z).cells))
 | .box _ x=>bnd (ZI x) fun x=>some (.box x)
 | .build t ps=>bnd (W8 P t) fun z=>bnd (Qb (Zk6 (Zaw P t (ZcR P t))) ps.toList) fun qs=>if ZdC P t then some (.build (evC z).cells qs) else none
 | .buildSlice t n ps=>bnd (Xn P t) fun e=>bnd (Qb (fun q:Nat×Operand=>ZI q.2) ps.toList) fun xs=>
   if ps.toList.map (·.1)=List.range n∧n*P.cellsOf e≤16777216∧Vk P e then some (.buildSl (P.cellsOf e) xs) else none
 | .load t a=>bnd (J4 P t) fun g=>bnd (ZI a) fun a=>some (.load g (P.cellsOf t) a)
 | .store t a x=>bnd (ZI a) fun a=>bnd (ZI x) fun x=>if (P.info? t).isSome then some (.store (slcT P t) (P.cellsOf t) a x) else none
 | .nilCheck x=>bnd (ZI x) fun x=>some (.nilCheck x)
 | .binOp op t x y _=>bnd (ZI x) fun x=>bnd (ZI y) fun y=>some (Zmf P op t x y)
 | .unOp op _ x=>bnd (ZI x) fun x=>some (.un op x)
 | .convert s d x=>bnd (ZI x) fun x=>Znf x (WR P s) (WR P d) (Zoi P s) (Zoi P d)
 | .makeFunc (.func f) fs cs=>if fs.toList.isEmpty then bnd (Qb ZI cs.toList) fun cs=>some (.fn f cs) else none
 | .makeSlice t l c=>bnd (Xn P t) fun e=>bnd (ZI l) fun l=>bnd (ZI c) fun c=>bnd (W8 P e) fun z=>bnd (evD z) fun z=>if Vk P e then some (.make (P.cellsOf e) (P.bytesOf e) z l c) else none
 | .slice t x lo hi none=>bnd (ZI x) fun x=>bnd (cOO lo) fun lo=>bnd (cOO hi) fun hi=>Zmg P x lo hi (WR P t) (Xn P t)
 | .slice t x none (some hi) (some mx)=>bnd (Xn P t) fun e=>if (P.info? e).isSome then bnd (ZI x) fun x=>bnd (ZI hi) fun hi=>bnd (ZI mx) fun mx=>some (.slice0 x hi mx) else none
 | .slice t x (some lo) (some hi) (some mx)=>bnd (Xn P t) fun e=>if (P.info? e).isSome then bnd (ZI x) fun x=>bnd (ZI lo) fun lo=>bnd (ZI hi) fun hi=>bnd (ZI mx) fun mx=>some (.slice3 (P.cellsOf e) x lo hi mx) else none
 | .fieldAddr s x f=>bnd (Zav P s f) fun q=>bnd (ZI x) fun x=>some (.shift q.1 x)
 | .field t x f=>bnd (Zav P t f) fun q=>bnd (J4 P q.2) fun g=>bnd (ZI x) fun x=>some (.part g (P.cellsOf q.2) q.1 x)
 | .indexAddr t x i=>bnd (ZI x) fun x=>bnd (ZI i) fun i=>ZgG P x i (ZcR P t) (Xn P t)
 | .index t x i=>bnd (ZI x) fun x=>bnd (ZI i) fun i=>ZjO P x i (WR P t) (ZcR P t)
 | .extract x i=>bnd (ZI x) fun x=>some (.nth i x)
 | .call { callee:=.builtin b,args:=as,argTypes:=ts }=>U0 P b as.toList ts.toList
 | .call { callee:=.value f,args:=as,argTypes:=_ }=>bnd (ZI f) fun f=>bnd (Qb ZI as.toList) fun as=>some (.call f as)
 | _=>none
def ZgH (ops:List Oper):Option (Nat×Bool)→Option (Option (Nat×Bool))
 | none=>some none
 | some q=>bnd ops[q.1]? fun g=>bnd g.dst fun t=>some (some (t,q.2))
def Qo (nt:Nat):Option Nat→Bool
 | none=>true
 | some t=>decide (t<nt)
def Yy (ops:Array Oper) (i:Nat):List Nat:=match ops[i]? with
 | some o=>(o.after.toList.filter fun e=>Region.binds .any e).map fun e=>e.on
 | none=>[]
def ZcS (ops:Array Oper):Nat→Nat→Nat→Bool
 | 0,i,j=>(Yy ops i).contains j
 | n+1,i,j=>(Yy ops i).contains j || (Yy ops i).any fun z=>ZcS ops n z j
def startO:Op→Bool
 | .call { callee:=.builtin .append,args:=_,argTypes:=_ }=>true
 | .buildSlice _ _ _=>true
 | _=>false
def callO:Op→Bool
 | .call { callee:=.value (.func _),args:=_,argTypes:=_ }=>true
 | _=>false
def Zpg:Op→Bool
 | .move _=>true
 | _=>false
def aheadO:Op→Bool
 | .store _ _ _=>false
 | .box _ _=>false
 | .assign _=>false
 | .makeFunc _ _ _=>false
 | .makeSlice _ _ _=>false
 | .call { callee:=.builtin .append,args:=_,argTypes:=_ }=>false
 | .call { callee:=.value _,args:=_,argTypes:=_ }=>false
 | _=>true
def Zqz:Op→Bool
 | .move _=>true
 | .alloc _=>true
 | .buildSlice _ _ _=>true
 | .load _ _=>true
 | .nilCheck _=>true
 | .binOp _ _ _ _ _=>true
 | .unOp _ _ _=>true
 | .convert _ _ _=>true
 | .fieldAddr _ _ _=>true
 | .indexAddr _ _ _=>true
 | .slice _ _ _ _ _=>true
 | .call { callee:=.builtin .len,args:=_,argTypes:=_ }=>true
 | _=>false
def appO:Op→Bool
 | .call { callee:=.builtin .append,args:=_,argTypes:=_ }=>true
 | _=>false
def lookO:Op→Bool
 | .move _=>true
 | .load _ _=>true
 | .nilCheck _=>true
 | .binOp _ _ _ _ _=>true
 | .convert _ _ _=>true
 | .fieldAddr _ _ _=>true
 | .field _ _ _=>true
 | .extract _ _=>true
 | .indexAddr _ _ _=>true
 | .slice _ _ _ _ _=>true
 | .call { callee:=.builtin .len,args:=_,argTypes:=_ }=>true
 | _=>false
def atO (f:Op→Bool) (ops:List Oper) (k:Nat):Bool:=match ops[k]? with
 | some o=>f o.op
 | none=>false
def firmAt (ops:List Oper) (i:Nat):Bool:=
 (List.range ops.length).all fun k=>if k<i then ZcS ops.toArray 6 i k || atO Zpg ops k else k==i || ZcS ops.toArray 6 k i || atO Zpg ops k
def firmP (ops:List Oper) (i:Nat):Bool:=
 (List.range ops.length).all fun k=>if k<i then ZcS ops.toArray 6 i k || atO lookO ops k else k==i || ZcS ops.toArray 6 k i || atO Zpg ops k
def firmC (ops:List Oper) (i:Nat):Bool:=
 (List.range ops.length).all fun k=>if k<i then ZcS ops.toArray 6 i k || atO aheadO ops k else k==i || ZcS ops.toArray 6 k i || atO Zqz ops k
def ZgI (ops:List Oper) (o:Oper):Nat:=ops.findIdx fun x=>x.dst==o.dst
def firm (ops:List Oper) (o:Oper):Bool:=(startO o.op&&firmAt ops (ZgI ops o)) || (callO o.op&&firmC ops (ZgI ops o)) || (appO o.op&&firmP ops (ZgI ops o))
def Yz:Option COp→COp
 | some c=>c
 | none=>.stuck
def Zfc (nt:Nat) (ops:List Oper) (o:Oper):Option CO:=bnd (ZgH ops o.guard) fun g=>
 if Qo nt o.dst then some { dst:=o.dst,guard:=g,op:=Yz (cOp P o.type o.op),tl:=firm ops o } else none
end
end Go.Abs
