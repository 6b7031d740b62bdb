/- Own text. -/
import Derived.Test.YtnachaiejoflhaaAbsBase
set_option linter.unusedVariables false
set_option linter.unusedSimpArgs false
namespace Go.Abs
open Go
def mat:List (Option Nat)→List AV→Nat→List AV×Hp
 | some s :: ts,.nil :: vs,b=>let r:=mat ts vs (b+1);(.own b :: r.1,(b,.row s [] true false) :: r.2)
 | _ :: ts,v :: vs,b=>let r:=mat ts vs b;(v :: r.1,r.2)
 | _,vs,_=>(vs,[])
def Zfx:List AV→Bool
 | []=>false
 | .nil :: _=>true
 | _ :: r=>Zfx r
structure Eff where
 val:AV
 adds:Hp:=[]
 sets:Hp:=[]
 dels:List Nat:=[]
 frz:List Nat:=[]
def Zd:Hp→Hp→Hp
 | hp,[]=>hp
 | hp,(k,o) :: r=>Zd (ins hp k o) r
def del:Hp→Nat→Hp
 | [],_=>[]
 | (k,o) :: r,t=>if k=t then del r t else (k,o) :: del r t
def ZV:Hp→List Nat→Hp
 | hp,[]=>hp
 | hp,k :: r=>ZV (del hp k) r
def Z1 (ids:List Nat) (hp:Hp):Hp:=match ids with
 | []=>hp
 | _=>freeze ids hp
def Eff.on (e:Eff) (hp:Hp):Hp:=Zd (Zd (ZV (Z1 e.frz hp) e.dels) e.sets) e.adds
def ZqQ:List AV→Nat→List AV→List AV
 | cs,_,[]=>cs
 | cs,off,v :: r=>ZqQ (cs.set off v) (off+1) r
def Zgu:List AV→List (Nat×Nat×AV)→Option (List AV)
 | cells,[]=>some cells
 | cells,q :: r=>if q.2.2.solid∧q.2.2.cells.length=q.2.1∧q.1+q.2.1≤cells.length then Zgu (ZqQ cells q.1 q.2.2.cells) r else none
def AV.atom:AV→Bool
 | .d x=>x.one
 | .agg _=>false
 | .tup _=>false
 | .clo _ _=>false
 | _=>true
def Zc0:List AV→Bool
 | []=>true
 | v :: r=>v.atom&&Zc0 r
def cloV (f:Nat) (cs:List AV):Option AV:=if Zc0 cs then some (.clo f cs) else none
def ZeH:AV→AV
 | .bbuf _ _=>.junk
 | v=>v
def WZ (agg:Bool) (s off:Nat):Option Zk→Option AV
 | some (.box cs)=>if agg then (if off+s≤cs.length then some (VV ((cs.drop off).take s)) else none) else (cs[off]?).map ZeH
 | _=>none
def UW (agg:Bool) (s off:Nat) (cs:List D):Option AV:=
 if agg then (if off+s≤cs.length then some (.d (.agg ((cs.drop off).take s))) else none) else asD cs[off]?
def ZeI (agg:Bool) (s sz off:Nat) (x:D):Option AV:=if x.cells.length=sz then UW agg s off x.cells else none
def Zgv (i off:Nat):Option (Option Nat×Nat×Nat)→Option AV
 | some (some nm,i',c)=>if i=i'∧off=c then some (.own nm) else none
 | _=>none
def V3 (i off:Nat) (lk:Option (Option Nat×Nat×Nat)) (x:D):Option AV:=match x.cells[off]? with
 | some (.sl _)=>Zgv i off lk
 | some y=>if y.plain then some (.d y) else none
 | none=>none
def V4 (id:Nat) (agg:Bool) (s sz i off:Nat):Option Zk→Option AV
 | some (.row sz' xs _ _)=>if sz=sz' then bnd xs[i]? (ZeI agg s sz off) else none
 | some (.tree sz' _ xs lk)=>if sz=sz' then (if agg then none else bnd xs[i]? (V3 i off lk)) else none
 | _=>none
def Vc (hp:Hp) (agg:Bool) (s:Nat):AV→Option AV
 | .ptr id off=>WZ agg s off (lkp hp id)
 | .prow id sz i off=>V4 id agg s sz i off (lkp hp id)
 | .pim cs=>UW agg s 0 cs
 | _=>none
def ZlH:AV→Option D
 | .d x=>if x.plain then some x else none
 | _=>none
def Znb:List AV→Option (List D)
 | []=>some []
 | v :: r=>bnd (ZlH v) fun x=>bnd (Znb r) fun ds=>some (x :: ds)
def Zb8 (slc:List (Option Nat)) (s base id off:Nat) (vs:List AV):Option Zk→Option Eff
 | some (.box cs)=>if vs.length=s∧off+s≤cs.length∧QS vs∧QW cs=true then
    (if Zfx vs then some { val := .junk, adds := (mat slc vs base).2, sets := [(id, .box (Zm cs off (mat slc vs base).1))] }
      else some { val:=.junk,sets:=[(id,.box (Zm cs off vs))] })
   else none
 | _=>none
def D.notSl:D→Bool
 | .sl _=>false
 | _=>true
def Zc1 (s id sz i off:Nat) (xs:List D) (ex:Bool) (x:D) (q:List D×Bool×List Nat):Option Eff:=
 if x.notSl∧x.cells.length=sz∧q.1.length=s∧off+s≤sz∧q.2.2.contains id=false then
  some { val:=.junk,sets:=[(id,.row sz (xs.set i (Xf x off q.1)) (ex&&q.2.1) false)],frz:=q.2.2 } else none
def Zc2 (n id:Nat):Option Zk→Option (D×List Nat)
 | some (.row sz xs true false)=>if sz=n∧Wy D.flat xs then some (.sl xs,[id]) else none
 | some (.tree sz n' xs none)=>if sz=n∧n'=n then some (.sl xs,[id]) else none
 | _=>none
def Zb9 (hp:Hp) (n:Nat):AV→Option (D×List Nat)
 | .d x=>if x.plain then some (x,[]) else none
 | .nil=>some (.sl [],[])
 | .own id=>Zc2 n id (lkp hp id)
 | _=>none
def YB (hp:Hp) (n:Nat):List AV→Option (List D×List Nat)
 | []=>some ([],[])
 | v :: r=>bnd (Zb9 hp n v) fun q=>bnd (YB hp n r) fun p=>if !q.2.any p.2.contains then some (q.1 :: p.1,q.2++p.2) else none
def D.isAgg:D→Bool
 | .agg _=>true
 | _=>false
def V5 (i off s:Nat):Option (Option Nat×Nat×Nat)→Option (Option Nat×Nat×Nat)
 | some (nm,i',c)=>if i=i'∧off≤c∧c<off+s then none else some (nm,i',c)
 | none=>none
def Zc3 (s id sz n i off:Nat) (xs:List D) (lk:Option (Option Nat×Nat×Nat)) (x:D) (q:List D×List Nat):Option Eff:=
 if x.isAgg∧x.cells.length=sz∧q.1.length=s∧off+s≤sz∧q.2.contains id=false then
  some { val:=.junk,sets:=[(id,.tree sz n (xs.set i (Xf x off q.1)) (V5 i off s lk))],dels:=q.2 } else none
def UX (hp:Hp) (s id sz i off:Nat) (vs:List AV):Option Zk→Option Eff
 | some (.row sz' xs ex false)=>if sz=sz' then bnd xs[i]? fun x=>bnd (Yi hp vs) fun q=>Zc1 s id sz i off xs ex x q else none
 | some (.tree sz' n xs lk)=>if sz=sz' then bnd xs[i]? fun x=>bnd (YB hp n vs) fun q=>Zc3 s id sz n i off xs lk x q else none
 | _=>none
def Uo (hp:Hp) (slc:List (Option Nat)) (s base:Nat) (vs:List AV):AV→Option Eff
 | .ptr id off=>Zb8 slc s base id off vs (lkp hp id)
 | .prow id sz i off=>UX hp s id sz i off vs (lkp hp id)
 | _=>none
def uni (s:Nat) (ys:List D):Prop:=∀ y∈ys,y.cells.length=s
def ZC:Nat:=140737488355328
def QG (ys:List D):Prop:=∀ y∈ys,y.flat=true
def ZlI (flat:Bool):Option Zk→Option (List D×Bool)
 | some (.row _ ys ex _)=>some (ys,ex || flat)
 | _=>none
def Zh0:AV→Option (List D×Bool)
 | .d (.str s)=>some (s.map fun b=>.int .u8 b.toNat,true)
 | _=>none
def Zg8 (flat:Bool) (off n:Nat):Option Zk→Option (List D×Bool)
 | some (.row _ ys ex _)=>some ((ys.drop off).take n,ex || flat)
 | _=>none
def Zca (hp:Hp) (flat:Bool):AV→Option (List D×Bool)
 | .nil=>some ([],true)
 | .d (.sl ys)=>some (ys,flat)
 | .own id=>ZlI flat (lkp hp id)
 | .ownv id off n=>Zg8 flat off n (lkp hp id)
 | _=>none
def ZlJ (sz base:Nat) (dels:List Nat) (xs:List D) (ex:Bool):Eff:=
 { val:=.own base,adds:=[(base,.row sz xs ex false)],dels:=dels }
def Zh1 (sz by_ base id:Nat) (ys:List D) (ex' : Bool):Option Zk→Option Eff
 | some (.row sz' xs ex false)=>if sz'=sz∧(xs.length+ys.length)*by_≤ZC∧xs.length+ys.length≤ZC then some (ZlJ sz base [id] (xs++ys) (ex&&ex')) else none
 | _=>none
def ZeJ (sz by_ base id n:Nat) (ys:List D) (ex' : Bool):Option Zk→Option Eff
 | some (.row sz' xs ex false)=>if sz'=sz∧(n+ys.length)*by_≤ZC∧n+ys.length≤ZC then some (ZlJ sz base [id] (xs.take n++ys) (ex&&ex')) else none
 | _=>none
def ZeK (sz base id n:Nat) (ys:List D) (ex' : Bool):Option Zk→Option Eff
 | some (.row sz' xs ex false)=>if sz'=sz∧0<xs.length∧n+ys.length≤xs.length then
   some { val:=.ownv base 0 (n+ys.length),adds:=[(base,.row sz (xs.take n++ys++xs.drop (n+ys.length)) (ex&&ex') false)],dels:=[id] } else none
 | _=>none
def ZdD (hp:Hp) (sz by_:Nat) (base:Nat) (src:List Nat) (ys:List D) (ex' : Bool):AV→Option Eff
 | .nil=>if ys.length*by_≤ZC∧ys.length≤ZC then some (ZlJ sz base [] ys ex') else none
 | .own id=>if src.contains id then none else Zh1 sz by_ base id ys ex' (lkp hp id)
 | .ownv id off n=>if off≠0 then none else if src.contains id then ZeK sz base id n ys ex' (lkp hp id) else ZeJ sz by_ base id n ys ex' (lkp hp id)
 | _=>none
open Classical in
noncomputable def V6 (hp:Hp) (sz by_:Nat) (str flat:Bool) (base:Nat) (s x:AV):Option Eff:=
 bnd (if str then Zh0 x else Zca hp flat x) fun q=>if uni sz q.1∧(flat=true→QG q.1) then ZdD hp sz by_ base (JC x) q.1 q.2 s else none
def idx (i:AV):Option Int:=match i with
 | .d (.int _ n)=>some n
 | _=>none
def ZpT (sz:Nat) (y:D):Option AV:=if y.cells.length=sz then some (.pim y.cells) else none
def JI (sz id n:Nat):Option Zk→Option AV
 | some (.row sz' xs _ _)=>if sz'=sz∧n<xs.length then some (.prow id sz n 0) else none
 | some (.tree sz' _ xs _)=>if sz'=sz∧n<xs.length then some (.prow id sz n 0) else none
 | _=>none
def UY (sz id off m n:Nat):Option Zk→Option AV
 | some (.row sz' _ _ _)=>if sz'=sz∧n<m then some (.prow id sz (off+n) 0) else none
 | _=>none
def Qd (hp:Hp) (sz n:Nat):AV→Option AV
 | .d (.sl xs)=>bnd xs[n]? (ZpT sz)
 | .own id=>JI sz id n (lkp hp id)
 | .ownv id off m=>UY sz id off m n (lkp hp id)
 | _=>none
def bd (m:Nat) (v:AV):Option Nat:=bnd (idx v) fun n=>if 0≤n∧n≤m then some n.toNat else none
def hiOf (len:Nat):Option AV→Option Nat
 | none=>some len
 | some v=>bd len v
def loOf (h:Nat):Option AV→Option Nat
 | none=>some 0
 | some v=>bd h v
def ZlK (len:Nat) (lo hi:Option AV):Option (Nat×Nat):=bnd (hiOf len hi) fun h=>bnd (loOf h lo) fun l=>some (l,h)
def Znc (id n:Nat):Option AV→Option AV→Option AV
 | none,none=>some (.own id)
 | lo,hi=>bnd (ZlK n lo hi) fun b=>some (.ownv id b.1 (b.2-b.1))
def UZ (s id:Nat) (lo hi:Option AV):Option Zk→Option AV
 | some (.row sz xs _ _)=>if sz=s then Znc id xs.length lo hi else none
 | _=>none
def ZrS (n m:Nat) (lo:Option AV):Option AV→Option (Nat×Nat)
 | none=>ZlK n lo none
 | some h=>ZlK m lo (some h)
def WL (s id off n:Nat) (lo hi:Option AV):Option Zk→Option AV
 | some (.row sz xs _ _)=>if sz=s then bnd (ZrS n (xs.length-off) lo hi) fun b=>some (.ownv id (off+b.1) (b.2-b.1)) else none
 | _=>none
def slice3 (hp:Hp) (x:AV) (lo hi mx:Option Int):Option AV:=bnd lo fun l=>bnd hi fun h=>bnd mx fun m=>bnd (JX hp x) fun n=>
 if 0≤l∧l≤h∧h≤m∧m≤n then some .junk else none
def ZeL (s id off n:Nat) (z:D):Option Zk→Option Eff
 | some (.row sz xs ex false)=>if sz=s∧z.cells.length=s∧off+n≤xs.length then some { val:=.tup [],sets:=[(id,.row sz (xs.take off++List.replicate n z++xs.drop (off+n)) ex false)] } else none
 | _=>none
def ZaW (hp:Hp) (s:Nat) (z:D):AV→Option Eff
 | .ownv id off n=>ZeL s id off n z (lkp hp id)
 | _=>none
open Classical in
noncomputable def Yf (hp:Hp) (s:Nat) (lo hi:Option AV):AV→Option AV
 | .d (.sl xs)=>if uni s xs then bnd (ZlK xs.length lo hi) fun b=>some (.d (.sl ((xs.take b.2).drop b.1))) else none
 | .nil=>bnd (ZlK 0 lo hi) fun _=>some .nil
 | .own id=>UZ s id lo hi (lkp hp id)
 | .ownv id off n=>WL s id off n lo hi (lkp hp id)
 | _=>none
def sliceS (lo hi:Option AV):AV→Option AV
 | .d (.str s)=>bnd (ZlK s.length lo hi) fun b=>some (.d (.str ((s.take b.2).drop b.1)))
 | _=>none
def slice0 (hp:Hp) (x:AV) (hi mx:Option Int):Option AV:=match hi,mx with
 | some 0,some 0=>bnd (JX hp x) fun _=>some .nil
 | _,_=>none
def ZeM (agg:Bool) (s off:Nat):AV→Option AV
 | .d (.agg cs)=>UW agg s off cs
 | .agg cs=>if agg then (if off+s≤cs.length then some (VV ((cs.drop off).take s)) else none) else cs[off]?
 | _=>none
abbrev Orc:=Nat→List AV→List Zk→Option (AV×List Zk)
abbrev Zj:=Nat→Nat→Bool
def ZaX (hp:Hp) (id:Nat):Bool→Option AV
 | true=>some (.own id)
 | false=>asD (Zdn hp (.own id))
def Zcb:Bool→Option AV
 | true=>some .nil
 | false=>some (.d (.sl []))
def ZaY (hp:Hp) (cs:List AV):Bool→Option AV
 | true=>if JW cs then none else some (.agg cs)
 | false=>asD (toD hp (.agg cs))
def JB (hp:Hp) (m:Bool):AV→Option AV
 | .ptr a b=>some (.ptr a b)
 | .clo f c=>some (.clo f c)
 | .nilp=>some .nilp
 | .nili=>some .nili
 | .pim c=>some (.pim c)
 | .own id=>ZaX hp id m
 | .nil=>Zcb m
 | .d x=>some (.d x)
 | .agg cs=>ZaY hp cs m
 | v=>asD (toD hp v)
def args (hp:Hp) (m:Nat→Bool):Nat→List AV→Option (List AV)
 | _,[]=>some []
 | i,v :: r=>bnd (JB hp (m i) v) fun a=>bnd (args hp m (i+1) r) fun as=>some (a :: as)
def V7 (hp:Hp) (go:List Nat→List Nat→List Nat) (id:Nat) (todo acc:List Nat):Option Zk→List Nat
 | some o=>go (todo++VX o) (acc++[id])
 | none=>go todo acc
def Qy (hp:Hp):Nat→List Nat→List Nat→List Nat
 | 0,_,acc=>acc
 | _+1,[],acc=>acc
 | n+1,id :: todo,acc=>if acc.contains id then Qy hp n todo acc else V7 hp (Qy hp n) id todo acc (lkp hp id)
def Yl:List Nat→Nat→Nat
 | [],_=>0
 | x :: r,t=>if x=t then 0 else Yl r t+1
def Znd:Option Zk→Zk
 | some o=>o
 | none=>.gone
def J1 (hp:Hp):List Nat→List Zk
 | []=>[]
 | id :: r=>Znd (lkp hp id) :: J1 hp r
def W6 (ids:List Nat) (o:Zk):Zk:=Zeq (Yl ids) (QH ((VX o).filter fun i=>!ids.contains i) o)
def Zcc:Option Zk→Bool
 | some (.row _ _ _ _)=>true
 | some (.tree _ _ _ _)=>true
 | some .gone=>true
 | _=>false
def U0:AV→Bool
 | .d x=>x.flat
 | .pim _=>false
 | .agg _=>false
 | .tup _=>false
 | .clo _ _=>false
 | _=>true
def J2:AV→Bool
 | .agg cs=>cs.all U0
 | .clo _ cs=>cs.all U0
 | v=>U0 v
def ZkI:AV→Bool
 | .tup vs=>vs.all J2
 | v=>J2 v
def Zcd:Zk→Bool
 | .box cs=>cs.all J2
 | .row _ _ ex fz=>ex&&!fz
 | .tree _ _ _ _=>true
 | .gone=>true
def ZdX (d:Nat):Option Nat→Nat
 | some i=>i
 | none=>d
def YC (ids:List Nat) (base k:Nat):Nat:=ZdX (base+(k-ids.length)) ids[k]?
def U1 (g:Nat→Nat):List Nat→List Zk→Hp
 | id :: ids,o :: os=>(id,Zeq g o) :: U1 g ids os
 | _,_=>[]
def U2 (g:Nat→Nat):Nat→List Zk→Hp
 | _,[]=>[]
 | k,o :: os=>(k,Zeq g o) :: U2 g (k+1) os
structure Zb where
 eff:Eff
 gone:List Nat
def QZ (_hp:Hp):Nat:=1000
def Xw:List AV→List AV→List Nat
 | v :: vs,.d _ :: as=>ZaM v++Xw vs as
 | _ :: vs,_ :: as=>Xw vs as
 | _,_=>[]
def U3:Option Zk→Bool
 | some (.tree _ _ _ _)=>true
 | _=>false
def Zfy:List Nat→List Zk→List Nat
 | id :: ids,.gone :: os=>id :: Zfy ids os
 | _ :: ids,_ :: os=>Zfy ids os
 | _,_=>[]
def Zfz (hp:Hp) (ids:List Nat) (out:List Zk):Bool→List Nat
 | true=>Zfy ids out
 | false=>ids.filter fun i=>Zcc (lkp hp i)
def W7 (keep:Bool) (hp:Hp) (base:Nat) (ids lent:List Nat) (r:AV) (out:List Zk):Option Zb:=
 if out.length<ids.length then none else if !(ZkI r&&out.all Zcd)&&lent.any fun i=>U3 (lkp hp i) then none else
  some { eff := { val:=ren (YC ids base) r,adds:=U2 (YC ids base) base (out.drop ids.length),sets:=U1 (YC ids base) ids out,frz:=if ZkI r&&out.all Zcd then [] else lent },gone:=Zfz hp ids out keep }
def WC:AV→List Nat
 | .ptr id _=>[id]
 | .clo _ cs=>cs.flatMap Zi
 | _=>[]
def UD (hp:Hp) (rs ids:List Nat):Bool:=ids.all fun i=>Zcc (lkp hp i) || rs.contains i
def ZaZ (C:Orc) (keep:Bool) (hp:Hp) (base f:Nat) (lent:List Nat) (as:List AV) (ids:List Nat):Option Zb:=
 if (as.flatMap Zo).all ids.contains∧¬lent.any ids.contains∧UD hp (as.flatMap WC) ids=true then
  bnd (C f (as.map (ren (Yl ids))) ((J1 hp ids).map (W6 ids))) fun q=>W7 keep hp base ids lent q.1 q.2
 else none
def JJ (C:Orc) (m:Nat→Bool) (hp:Hp) (base f:Nat) (avs:List AV):Option Zb:=
 bnd (args hp m 0 avs) fun as=>ZaZ C (m 99) hp base f (Xw avs as) as (Qy hp (QZ hp) (as.flatMap Zo) [])
def Qr (v:AV):Option Zb:=some { eff := { val:=v },gone:=[] }
def Yg (v:Option AV):Option Zb:=bnd v Qr
def ZbQ (e:Option Eff):Option Zb:=bnd e fun e=>some { eff:=e,gone:=[] }
def Za0 (base:Nat) (e:Option Nat):AV→Option Zb
 | .nil=>bnd e fun s=>some { eff := { val:=.own base,adds:=[(base,.row s [] true false)] },gone:=[] }
 | v=>Qr v
def Zce (a b:AV):AV→Option Zb
 | .d (.bool t)=>if t then Qr a else Qr b
 | _=>none
def ZdY (base:Nat):AV→AV
 | .bnil _ e=>.bnil base e
 | v=>v
def bnT (t te:Nat):List AV→List AV
 | [.nilp,.nil]=>[.bnil 0 t,.bbuf te []]
 | cs=>cs
def ZrT:List AV→Bool
 | [.bnil _ _,.bbuf _ []]=>true
 | _=>false
def Zh2 (slc:List (Option Nat)) (base:Nat) (cs:List AV):Option Zb:=
 if QW cs=false then (if ZrT cs=true then some { eff := { val:=.ptr base 0,adds:=[(base,.box cs)] },gone:=[] } else none) else
 if Zfx cs then some { eff := { val:=.ptr base 0,adds:=(base,.box (mat slc cs (base+1)).1) :: (mat slc cs (base+1)).2 },gone:=[] }
 else some { eff := { val:=.ptr base 0,adds:=[(base,.box cs)] },gone:=[] }
def Zcf (slc:List (Option Nat)) (base:Nat) (cs:List AV):Option Zb:=Zh2 slc base (cs.map (ZdY base))
def ZqR (base:Nat) (x:AV):Option Zb:=if x.solid&&QW x.cells then some { eff := { val:=.ptr base 0,adds:=[(base,.box x.cells)] },gone:=[] } else none
def Zh3 (zs:List AV) (ps:List (Nat×Nat×AV)):Option Zb:=bnd (Zgu zs ps) fun cs=>Qr (VV cs)
def ZqS (base s:Nat) (q:List D×Bool×List Nat):Option Zb:=
 if q.1.all (fun d=>d.cells.length==s) then some { eff := { val:=.own base,adds:=[(base,.row s q.1 q.2.1 false)],frz:=q.2.2 },gone:=[] } else none
def buildSl (hp:Hp) (base s:Nat):List AV→Option Zb
 | []=>Qr .nil
 | v :: vs=>bnd (YT hp (v :: vs)) (ZqS base s)
def Vv (hp:Hp) (n s:Nat):List AV→Option (List D×List Nat)
 | []=>some ([],[])
 | .agg cs :: r=>bnd (YB hp n cs) fun q=>bnd (Vv hp n s r) fun p=>
   if q.1.length=s∧(!q.2.any p.2.contains)=true then some (.agg q.1 :: p.1,q.2++p.2) else none
 | _=>none
def asgT (base s n:Nat):AV→Option Zb
 | .nil=>some { eff := { val:=.own base,adds:=[(base,.tree s n [] none)] },gone:=[] }
 | _=>none
def buildT (hp:Hp) (base s n:Nat) (vs:List AV):Option Zb:=
 if vs.isEmpty=false then bnd (Vv hp n s vs) fun q=>some { eff := { val:=.own base,adds:=[(base,.tree s n q.1 none)],dels:=q.2 },gone:=[] } else none
def WM:AV→Option Zb
 | .ptr a b=>Qr (.ptr a b)
 | .prow a b c d=>Qr (.prow a b c d)
 | .pim c=>Qr (.pim c)
 | .clo f c=>Qr (.clo f c)
 | _=>none
def Zh4 (op:BinOp) (eq:Bool):AV→AV→Option Zb
 | .d (.bool a),.d (.bool b)=>if eq then Yg (Zkj op a b) else none
 | a,b=>Yg (vbin op a b)
def Wz:List Nat→List D→List D→Option Bool
 | [],[],[]=>some true
 | 0 :: ks,.int k a :: cs,.int k' b :: ds=>if k=k' then bnd (Wz ks cs ds) fun r=>some (decide (a=b)&&r) else none
 | 1 :: ks,.bool a :: cs,.bool b :: ds=>bnd (Wz ks cs ds) fun r=>some (decide (a=b)&&r)
 | 2 :: ks,.str a :: cs,.str b :: ds=>bnd (Wz ks cs ds) fun r=>some (decide (a=b)&&r)
 | _,_,_=>none
def Zh5 (neg:Bool) (r:Bool):Bool:=if neg then !r else r
def ZlL (neg:Bool) (ks:List Nat):AV→AV→Option Zb
 | .d (.agg cs),.d (.agg ds)=>bnd (Wz ks cs ds) fun r=>Qr (.d (.bool (Zh5 neg r)))
 | _,_=>none
def convI (k:IntKind):AV→Option Zb
 | .d (.int _ n)=>Qr (.d (.int k (k.wrap n)))
 | _=>none
def convS:AV→Option Zb
 | .d (.str s)=>Qr (.d (.str s))
 | _=>none
def ZkJ (base s b:Nat) (z:D) (l c:Int):Option Zb:=
 if 0≤l∧l≤c∧c*b≤ZC∧c≤ZC∧z.cells.length=s then
  some { eff := { val:=.own base,adds:=[(base,.row s (List.replicate l.toNat z) true false)] },gone:=[] } else none
def makeT (base s b ns:Nat) (z:D) (l c:Int):Option Zb:=
 if 0≤l∧l≤c∧c*b≤ZC∧c≤ZC∧z.cells.length=s∧z.isAgg=true then
  some { eff := { val:=.own base,adds:=[(base,.tree s ns (List.replicate l.toNat z) none)] },gone:=[] } else none
def YD (off:Nat):AV→Option Zb
 | .ptr id o=>Qr (.ptr id (o+off))
 | .prow id sz i o=>Qr (.prow id sz i (o+off))
 | .pim cs=>Qr (.pim (cs.drop off))
 | _=>none
def Zh6 (x:AV) (n:Int) (len s:Nat):Option Zb:=if 0≤n∧n<len then YD (n.toNat*s) x else none
def ZdE (hp:Hp) (s:Nat) (x:AV) (n:Int):Option Zb:=if 0≤n then Yg (Qd hp s n.toNat x) else none
def Zne (s:List UInt8) (n:Int):Option Zb:=if 0≤n then bnd s[n.toNat]? fun b=>Qr (.d (.int .u8 b.toNat)) else none
def ZqT (g:Bool) (s len:Nat) (n:Int) (v:AV):Option Zb:=if 0≤n∧n<len then Yg (ZeM g s (n.toNat*s) v) else none
def ZoQ (n:Int):AV→Option Zb
 | .d (.str s)=>Zne s n
 | _=>none
def Znf (i:Nat):AV→Option Zb
 | .tup vs=>Yg vs[i]?
 | _=>none
def ZfA:Option Zk→Option (Nat×Nat×List D)
 | some (.tree s n xs none)=>some (s,n,xs)
 | _=>none
def JK (hp:Hp):AV→Option (Nat×Nat×Nat×List D)
 | .own id=>bnd (ZfA (lkp hp id)) fun q=>some (id,q)
 | _=>none
def UE (hp:Hp) (s b base id n:Nat) (ys:List D):AV→Option Eff
 | .nil=>if ys.length*b≤ZC∧ys.length≤ZC then some { val:=.own base,adds:=[(base,.tree s n ys none)],dels:=[id] } else none
 | .own id1=>bnd (ZfA (lkp hp id1)) fun q=>if q.1=s∧q.2.1=n∧id1≠id∧(q.2.2.length+ys.length)*b≤ZC∧q.2.2.length+ys.length≤ZC then
   some { val:=.own base,adds:=[(base,.tree s n (q.2.2++ys) none)],dels:=[id1,id] } else none
 | _=>none
def V8 (xs:List D) (i c:Nat):Option (List D):=bnd xs[i]? fun x=>match x.cells[c]? with
 | some (.sl ys)=>some ys
 | _=>none
def Q0 (hp:Hp):AV→List Nat
 | .own id=>if U3 (lkp hp id) then [id] else []
 | _=>[]
def ZeN:Zk→Zk
 | .tree s _ xs none=>.row s xs true false
 | o=>o
def meltIn (hp:Hp):List Nat→Hp
 | []=>hp
 | i :: r=>match lkp hp i with
  | some o=>ins (meltIn hp r) i (ZeN o)
  | none=>meltIn hp r
noncomputable def XO (hp:Hp) (s b:Nat) (str flat:Bool) (base:Nat) (x y:AV):List Nat→Option Eff
 | []=>V6 hp s b str flat base x y
 | i :: r=>if flat then none else bnd (V6 (meltIn hp (i :: r)) s b str flat base x y) fun e=>some { val:=e.val,adds:=e.adds,sets:=e.sets,dels:=e.dels++(i :: r),frz:=e.frz }
def appT (hp:Hp) (s b base:Nat) (x y:AV):Option Zb:=ZbQ (bnd (JK hp y) fun q=>if q.2.1=s then UE hp s b base q.1 q.2.2.1 q.2.2.2 x else none)
noncomputable def J3 (hp:Hp) (s b:Nat) (str flat:Bool) (base:Nat) (x y:AV):List Nat→List Nat→Option Zb
 | [],m=>ZbQ (XO hp s b str flat base x y m)
 | i :: r,[]=>ZbQ (XO hp s b str flat base x y (i :: r))
 | _ :: _,_ :: _=>if flat || str then none else appT hp s b base x y
noncomputable def Zng (hp:Hp) (s b:Nat) (str flat:Bool) (base:Nat) (x y:AV):Option Zb:=J3 hp s b str flat base x y (Q0 hp x) (Q0 hp y)
def Zgw:AV→AV→Option Zb
 | .d (.int k a),.d (.int k' b)=>if k=k' then Qr (.d (.int k (minI a b))) else none
 | _,_=>none
def Zgx:AV→AV→Option Zb
 | .d (.int k a),.d (.int k' b)=>if k=k' then Qr (.d (.int k (maxI a b))) else none
 | _,_=>none
inductive Opd where
 | t (n:Nat)
 | v (a:AV)
 | f (n:Nat)
def evO (sl:Sl):Opd→AV
 | .t n=>gs sl n
 | .v a=>a
 | .f n=>.clo n []
def evL (sl:Sl):List Opd→List AV
 | []=>[]
 | x :: r=>evO sl x :: evL sl r
def evP (sl:Sl):List (Nat×Nat×Opd)→List (Nat×Nat×AV)
 | []=>[]
 | (a,b,x) :: r=>(a,b,evO sl x) :: evP sl r
def evM (sl:Sl):Option Opd→Option AV
 | none=>none
 | some x=>some (evO sl x)
inductive COp where
 | move (x:Opd)
 | assign (s:Option Nat) (x:Opd)
 | pick (c a b:Opd)
 | alloc (slc:List (Option Nat)) (cs:List AV)
 | box (x:Opd)
 | build (zs:List AV) (ps:List (Nat×Nat×Opd))
 | buildSl (s:Nat) (xs:List Opd)
 | load (g:Bool) (s:Nat) (a:Opd)
 | store (slc:List (Option Nat)) (s:Nat) (a x:Opd)
 | nilCheck (x:Opd)
 | bin (op:BinOp) (eq:Bool) (x y:Opd)
 | un (op:UnOp) (x:Opd)
 | eqA (neg:Bool) (ks:List Nat) (x y:Opd)
 | convI (k:IntKind) (x:Opd)
 | convS (x:Opd)
 | fn (f:Nat) (caps:List Opd)
 | make (s b:Nat) (z:D) (l c:Opd)
 | slice (s:Nat) (x:Opd) (lo hi:Option Opd)
 | sliceS (x:Opd) (lo hi:Option Opd)
 | slice0 (x hi mx:Opd)
 | shift (off:Nat) (x:Opd)
 | part (g:Bool) (s off:Nat) (x:Opd)
 | iaS (s:Nat) (x i:Opd)
 | iaA (len s:Nat) (x i:Opd)
 | ixS (x i:Opd)
 | ixA (g:Bool) (s len:Nat) (x i:Opd)
 | nth (i:Nat) (x:Opd)
 | len (x:Opd)
 | lenS (x:Opd)
 | append (s b:Nat) (str flat:Bool) (x y:Opd)
 | min (x y:Opd)
 | max (x y:Opd)
 | call (f:Opd) (as:List Opd)
 | slice3 (s:Nat) (x lo hi mx:Opd)
 | clear (s:Nat) (z:D) (x:Opd)
 | stuck
 | buildT (s n:Nat) (xs:List Opd)
 | appT (s b:Nat) (flat:Bool) (x y:Opd)
 | asgT (s n:Nat) (x:Opd)
 | makeT (s b n:Nat) (z:D) (l c:Opd)
structure CO where
 dst:Option Nat
 guard:Option (Nat×Bool)
 op:COp
 tl:Bool
def J4 (C:Orc) (M:Zj) (hp:Hp) (base:Nat) (as:List AV):AV→Option Zb
 | .clo g caps=>JJ C (M g) hp base g (as++caps)
 | _=>none
noncomputable def vop (C:Orc) (M:Zj) (sl:Sl) (hp:Hp) (base:Nat):COp→Option Zb
 | .move x=>Qr (evO sl x)
 | .assign s x=>Za0 base s (evO sl x)
 | .pick c a b=>Zce (evO sl a) (evO sl b) (evO sl c)
 | .alloc slc cs=>Zcf slc base cs
 | .box x=>ZqR base (evO sl x)
 | .build zs ps=>Zh3 zs (evP sl ps)
 | .buildSl s xs=>buildSl hp base s (evL sl xs)
 | .load g s a=>Yg (Vc hp g s (evO sl a))
 | .store slc s a x=>ZbQ (Uo hp slc s base (evO sl x).cells (evO sl a))
 | .nilCheck x=>WM (evO sl x)
 | .bin op eq x y=>Zh4 op eq (evO sl x) (evO sl y)
 | .un op x=>Yg (vun op (evO sl x))
 | .eqA neg ks x y=>ZlL neg ks (evO sl x) (evO sl y)
 | .convI k x=>convI k (evO sl x)
 | .convS x=>convS (evO sl x)
 | .fn f cs=>Yg (cloV f (evL sl cs))
 | .make s b z l c=>bnd (idx (evO sl l)) fun l=>bnd (idx (evO sl c)) fun c=>ZkJ base s b z l c
 | .slice s x lo hi=>Yg (Yf hp s (evM sl lo) (evM sl hi) (evO sl x))
 | .sliceS x lo hi=>Yg (sliceS (evM sl lo) (evM sl hi) (evO sl x))
 | .slice0 x hi mx=>Yg (slice0 hp (evO sl x) (idx (evO sl hi)) (idx (evO sl mx)))
 | .shift off x=>YD off (evO sl x)
 | .part g s off x=>Yg (ZeM g s off (evO sl x))
 | .iaS s x i=>bnd (idx (evO sl i)) fun n=>ZdE hp s (evO sl x) n
 | .iaA len s x i=>bnd (idx (evO sl i)) fun n=>Zh6 (evO sl x) n len s
 | .ixS x i=>bnd (idx (evO sl i)) fun n=>ZoQ n (evO sl x)
 | .ixA g s len x i=>bnd (idx (evO sl i)) fun n=>ZqT g s len n (evO sl x)
 | .nth i x=>Znf i (evO sl x)
 | .len x=>bnd (JX hp (evO sl x)) fun n=>Qr (.d (.int .i64 n))
 | .lenS x=>bnd (Zqh (evO sl x)) fun n=>Qr (.d (.int .i64 n))
 | .append s b str flat x y=>Zng hp s b str flat base (evO sl x) (evO sl y)
 | .min x y=>Zgw (evO sl x) (evO sl y)
 | .max x y=>Zgx (evO sl x) (evO sl y)
 | .call f as=>J4 C M hp base (evL sl as) (evO sl f)
 | .slice3 _ x lo hi mx=>Yg (slice3 hp (evO sl x) (idx (evO sl lo)) (idx (evO sl hi)) (idx (evO sl mx)))
 | .clear s z x=>ZbQ (ZaW hp s z (evO sl x))
 | .stuck=>none
 | .buildT s n xs=>buildT hp base s n (evL sl xs)
 | .appT s b _ x y=>appT hp s b base (evO sl x) (evO sl y)
 | .asgT s n x=>asgT base s n (evO sl x)
 | .makeT s b n z l c=>bnd (idx (evO sl l)) fun l=>bnd (idx (evO sl c)) fun c=>makeT base s b n z l c
section
variable (P:Program)
def Q7 (t:TypeId):Option TypeId:=match P.underlying t with
 | some (.slice e)=>some e
 | _=>none
def WN (t:TypeId):Bool:=match P.underlying t with
 | some .string=>true
 | _=>false
def Zc4 (t:TypeId):Bool:=match P.underlying t with
 | some .bool=>true
 | _=>false
def ZqU (t:TypeId):Option IntKind:=match P.underlying t with
 | some (.int k)=>some k
 | _=>none
def ZdZ (t:TypeId):Option (Nat×TypeId):=match P.underlying t with
 | some (.array n e)=>some (n,e)
 | _=>none
def ZaA (t:TypeId):Option Bool:=match P.underlying t with
 | some (.struct _)=>some true
 | some (.array _ _)=>some true
 | some _=>some false
 | none=>none
def Za1 (s:TypeId) (f:Nat):Option (Nat×TypeId):=match P.underlying s with
 | some (.struct fs)=>match fs[f]? with
  | some x=>if P.cellsOf x.type=0 then none else some (x.offset,x.type)
  | none=>none
 | _=>none
def W8 (t:TypeId):Option Value:=match P.info? t with
 | some i=>i.zero
 | none=>none
def ZpU:Nat→TypeId→List TypeId
 | 0,t=>[t]
 | n+1,t=>match P.underlying t with
  | some (.struct fs)=>fs.toList.flatMap fun f=>ZpU n f.type
  | some (.array k e)=>(List.replicate k (ZpU n e)).flatten
  | _=>[t]
def slcT (t:TypeId):List (Option Nat):=(ZpU P 4 t).map fun c=>(Q7 P c).map P.cellsOf
def flatE (t:TypeId):Bool:=(ZpU P 4 t).all fun c=>match P.underlying c with
 | some (.int _)=>true
 | some .bool=>true
 | some .string=>true
 | _=>false
def U4:Nat→TypeId→Nat→Option (List (Nat×Nat))
 | 0,_,_=>none
 | n+1,t,off=>match P.underlying t with
  | some (.int _)=>if P.cellsOf t=1 then some [(off,0)] else none
  | some .bool=>if P.cellsOf t=1 then some [(off,1)] else none
  | some .string=>if P.cellsOf t=1 then some [(off,2)] else none
  | some (.struct fs)=>if P.stoodInHeld t then none else
    bnd (Qa (fun f:Field=>if f.name = "_"∨P.cellsOf t<f.offset+P.cellsOf f.type then none else U4 n f.type (off+f.offset)) fs.toList) fun ls=>some ls.flatten
  | _=>none
def QY (t:TypeId):Bool:=match P.underlying t with
 | some (.struct _)=>true
 | _=>false
def Znh (t:TypeId):Option (List Nat):=bnd (U4 P 5 t 0) fun ls=>
 if ls.map (·.1)=List.range (P.cellsOf t)∧QY P t=true∧P.eqGuardType P.depth t=false then some (ls.map (·.2)) else none
def Zni (neg:Bool) (op:BinOp) (t:TypeId) (x y:Opd):Option (List Nat)→COp
 | some ks=>.eqA neg ks x y
 | none=>.bin op (Zc4 P t) x y
def ZoR (op:BinOp) (t:TypeId) (x y:Opd):COp:=match op with
 | .eql=>Zni P false .eql t x y (Znh P t)
 | .neq=>Zni P true .neq t x y (Znh P t)
 | op=>.bin op (Zc4 P t) x y
end
section
variable (P:Program)
def ZL:Operand→Option Opd
 | .tmp t=>some (.t t)
 | .const v=>some (.v (evC v))
 | .global _=>none
 | .func f=>some (.f f)
def Znj (pl:Nat→Option (Nat×Nat)) (q:Nat×Operand):Option (Nat×Nat×Opd):=bnd (pl q.1) fun p=>bnd (ZL q.2) fun x=>some (p.1,p.2,x)
def cOO:Option Operand→Option (Option Opd)
 | none=>some none
 | some x=>bnd (ZL x) fun y=>some (some y)
def Za2 (t:TypeId):Option (Nat×TypeId)→Nat→Option (Nat×Nat)
 | none,i=>bnd (Za1 P t i) fun q=>some (q.1,P.cellsOf q.2)
 | some a,i=>some (i*P.cellsOf a.2,P.cellsOf a.2)
def Y7 (t:TypeId):Bool:=match P.info? t with
 | some i=>(match i.zero with
  | some z=>z.cells.size==i.size&&decide (0<i.size)
  | none=>false)
 | none=>false
def ZeO (t:TypeId):Bool:=match P.underlying t with
 | some (.struct fs)=>fs.toList.all fun f=>(P.info? f.type).isSome
 | some (.array _ e)=>(P.info? e).isSome
 | _=>false
def Zgy (e:TypeId) (u:TypeId):Option Bool:=match Q7 P u with
 | some e'=>if e'=e then some false else none
 | none=>if WN P u then some true else none
def Zh7 (x i:Opd) (a:Option (Nat×TypeId)):Option TypeId→Option COp
 | some e=>if (P.info? e).isSome then some (.iaS (P.cellsOf e) x i) else none
 | none=>bnd a fun a=>if (P.info? a.2).isSome then some (.iaA a.1 (P.cellsOf a.2) x i) else none
def ZlM (x i:Opd) (str:Bool) (a:Option (Nat×TypeId)):Option COp:=
 if str then some (.ixS x i) else bnd a fun a=>bnd (ZaA P a.2) fun g=>some (.ixA g (P.cellsOf a.2) a.1 x i)
def ZpV (x:Opd) (ss sd:Bool):Option IntKind→Option IntKind→Option COp
 | some _,some k=>some (.convI k x)
 | _,_=>if ss&&sd then some (.convS x) else none
def cLen (x:Opd) (str:Bool):Option TypeId→Option COp
 | some _=>some (.len x)
 | none=>if str then some (.lenS x) else none
def ZoS (x:Opd) (lo hi:Option Opd) (str:Bool):Option TypeId→Option COp
 | some e=>if (P.info? e).isSome then some (.slice (P.cellsOf e) x lo hi) else none
 | none=>if str then some (.sliceS x lo hi) else none
def U5:Builtin→List Operand→List TypeId→Option COp
 | .len,[x],[t]=>bnd (ZL x) fun x=>cLen x (WN P t) (Q7 P t)
 | .append,[s,x],[t,u]=>bnd (Q7 P t) fun e=>bnd (Zgy P e u) fun str=>bnd (ZL s) fun s=>bnd (ZL x) fun x=>
   if Y7 P e then some (.append (P.cellsOf e) (P.bytesOf e) str (flatE P e) s x) else none
 | .min,[x,y],_=>bnd (ZL x) fun x=>bnd (ZL y) fun y=>some (.min x y)
 | .max,[x,y],_=>bnd (ZL x) fun x=>bnd (ZL y) fun y=>some (.max x y)
 | .clear,[x],[t]=>bnd (Q7 P t) fun e=>bnd (ZL x) fun x=>bnd (W8 P e) fun z=>bnd (evD z) fun z=>if Y7 P e then some (.clear (P.cellsOf e) z x) else none
 | _,_,_=>none
def teOf (t:TypeId):Nat:=match bnd (Za1 P t 1) fun q=>Q7 P q.2 with
 | some e=>e
 | none=>0
def cOp (ty:TypeId):Op→Option COp
 | .move x=>bnd (ZL x) fun x=>some (.move x)
 | .assign x=>bnd (ZL x) fun x=>some (.assign (bnd (Q7 P ty) fun e=>some (P.cellsOf e)) x)
 | .pick c a b=>bnd (ZL c) fun c=>bnd (ZL a) fun a=>bnd (ZL b) fun b=>some (.pick c a b)
 | .alloc t=>bnd (W8 P t) fun z=>some (.alloc (slcT P t) (bnT t (teOf P t) (evC z).cells))
 | .box _ x=>bnd (ZL x) fun x=>some (.box x)
 | .build t ps=>bnd (W8 P t) fun z=>bnd (Qa (Znj (Za2 P t (ZdZ P t))) ps.toList) fun qs=>if ZeO P t then some (.build (evC z).cells qs) else none
 | .buildSlice t n ps=>bnd (Q7 P t) fun e=>bnd (Qa (fun q:Nat×Operand=>ZL q.2) ps.toList) fun xs=>
   if ps.toList.map (·.1)=List.range n∧n*P.cellsOf e≤16777216∧Y7 P e then some (.buildSl (P.cellsOf e) xs) else none
 | .load t a=>bnd (ZaA P t) fun g=>bnd (ZL a) fun a=>some (.load g (P.cellsOf t) a)
 | .store t a x=>bnd (ZL a) fun a=>bnd (ZL x) fun x=>if (P.info? t).isSome then some (.store (slcT P t) (P.cellsOf t) a x) else none
 | .nilCheck x=>bnd (ZL x) fun x=>some (.nilCheck x)
 | .binOp op t x y _=>bnd (ZL x) fun x=>bnd (ZL y) fun y=>some (ZoR P op t x y)
 | .unOp op _ x=>bnd (ZL x) fun x=>some (.un op x)
 | .convert s d x=>bnd (ZL x) fun x=>ZpV x (WN P s) (WN P d) (ZqU P s) (ZqU P d)
 | .makeFunc (.func f) fs cs=>if fs.toList.isEmpty then bnd (Qa ZL cs.toList) fun cs=>some (.fn f cs) else none
 | .makeSlice t l c=>bnd (Q7 P t) fun e=>bnd (ZL l) fun l=>bnd (ZL c) fun c=>bnd (W8 P e) fun z=>bnd (evD z) fun z=>if Y7 P e then some (.make (P.cellsOf e) (P.bytesOf e) z l c) else none
 | .slice t x lo hi none=>bnd (ZL x) fun x=>bnd (cOO lo) fun lo=>bnd (cOO hi) fun hi=>ZoS P x lo hi (WN P t) (Q7 P t)
 | .slice t x none (some hi) (some mx)=>bnd (Q7 P t) fun e=>if (P.info? e).isSome then bnd (ZL x) fun x=>bnd (ZL hi) fun hi=>bnd (ZL mx) fun mx=>some (.slice0 x hi mx) else none
 | .slice t x (some lo) (some hi) (some mx)=>bnd (Q7 P t) fun e=>if (P.info? e).isSome then bnd (ZL x) fun x=>bnd (ZL lo) fun lo=>bnd (ZL hi) fun hi=>bnd (ZL mx) fun mx=>some (.slice3 (P.cellsOf e) x lo hi mx) else none
 | .fieldAddr s x f=>bnd (Za1 P s f) fun q=>bnd (ZL x) fun x=>some (.shift q.1 x)
 | .field t x f=>bnd (Za1 P t f) fun q=>bnd (ZaA P q.2) fun g=>bnd (ZL x) fun x=>some (.part g (P.cellsOf q.2) q.1 x)
 | .indexAddr t x i=>bnd (ZL x) fun x=>bnd (ZL i) fun i=>Zh7 P x i (ZdZ P t) (Q7 P t)
 | .index t x i=>bnd (ZL x) fun x=>bnd (ZL i) fun i=>ZlM P x i (WN P t) (ZdZ P t)
 | .extract x i=>bnd (ZL x) fun x=>some (.nth i x)
 | .call { callee:=.builtin b,args:=as,argTypes:=ts }=>U5 P b as.toList ts.toList
 | .call { callee:=.value f,args:=as,argTypes:=_ }=>bnd (ZL f) fun f=>bnd (Qa ZL as.toList) fun as=>some (.call f as)
 | _=>none
def Zh8 (ops:List Oper):Option (Nat×Bool)→Option (Option (Nat×Bool))
 | none=>some none
 | some q=>bnd ops[q.1]? fun g=>bnd g.dst fun t=>some (some (t,q.2))
def Qu (nt:Nat):Option Nat→Bool
 | none=>true
 | some t=>decide (t<nt)
def Ym (ops:Array Oper) (i:Nat):List Nat:=match ops[i]? with
 | some o=>(o.after.toList.filter fun e=>Region.binds .any e).map fun e=>e.on
 | none=>[]
def Zd0 (ops:Array Oper):Nat→Nat→Nat→Bool
 | 0,i,j=>(Ym ops i).contains j
 | n+1,i,j=>(Ym ops i).contains j || (Ym ops i).any fun z=>Zd0 ops n z j
def startO:Op→Bool
 | .call { callee:=.builtin .append,args:=_,argTypes:=_ }=>true
 | .buildSlice _ _ _=>true
 | _=>false
def callO:Op→Bool
 | .call { callee:=.value (.func _),args:=_,argTypes:=_ }=>true
 | _=>false
def ZrU:Op→Bool
 | .move _=>true
 | _=>false
def aheadO:Op→Bool
 | .store _ _ _=>false
 | .box _ _=>false
 | .assign _=>false
 | .makeFunc _ _ _=>false
 | .makeSlice _ _ _=>false
 | .call { callee:=.builtin .append,args:=_,argTypes:=_ }=>false
 | .call { callee:=.value _,args:=_,argTypes:=_ }=>false
 | _=>true
def Zts:Op→Bool
 | .move _=>true
 | .alloc _=>true
 | .buildSlice _ _ _=>true
 | .load _ _=>true
 | .nilCheck _=>true
 | .binOp _ _ _ _ _=>true
 | .unOp _ _ _=>true
 | .convert _ _ _=>true
 | .fieldAddr _ _ _=>true
 | .indexAddr _ _ _=>true
 | .slice _ _ _ _ _=>true
 | .call { callee:=.builtin .len,args:=_,argTypes:=_ }=>true
 | _=>false
def appO:Op→Bool
 | .call { callee:=.builtin .append,args:=_,argTypes:=_ }=>true
 | _=>false
def lookO:Op→Bool
 | .move _=>true
 | .load _ _=>true
 | .nilCheck _=>true
 | .binOp _ _ _ _ _=>true
 | .convert _ _ _=>true
 | .fieldAddr _ _ _=>true
 | .field _ _ _=>true
 | .extract _ _=>true
 | .indexAddr _ _ _=>true
 | .slice _ _ _ _ _=>true
 | .call { callee:=.builtin .len,args:=_,argTypes:=_ }=>true
 | _=>false
def atO (f:Op→Bool) (ops:List Oper) (k:Nat):Bool:=match ops[k]? with
 | some o=>f o.op
 | none=>false
def firmAt (ops:List Oper) (i:Nat):Bool:=
 (List.range ops.length).all fun k=>if k<i then Zd0 ops.toArray 6 i k || atO ZrU ops k else k==i || Zd0 ops.toArray 6 k i || atO ZrU ops k
def firmP (ops:List Oper) (i:Nat):Bool:=
 (List.range ops.length).all fun k=>if k<i then Zd0 ops.toArray 6 i k || atO lookO ops k else k==i || Zd0 ops.toArray 6 k i || atO ZrU ops k
def firmC (ops:List Oper) (i:Nat):Bool:=
 (List.range ops.length).all fun k=>if k<i then Zd0 ops.toArray 6 i k || atO aheadO ops k else k==i || Zd0 ops.toArray 6 k i || atO Zts ops k
def Zh9 (ops:List Oper) (o:Oper):Nat:=ops.findIdx fun x=>x.dst==o.dst
def firm (ops:List Oper) (o:Oper):Bool:=(startO o.op&&firmAt ops (Zh9 ops o)) || (callO o.op&&firmC ops (Zh9 ops o)) || (appO o.op&&firmP ops (Zh9 ops o))
def Yn:Option COp→COp
 | some c=>c
 | none=>.stuck
def Zgz (nt:Nat) (ops:List Oper) (o:Oper):Option CO:=bnd (Zh8 ops o.guard) fun g=>
 if Qu nt o.dst then some { dst:=o.dst,guard:=g,op:=Yn (cOp P o.type o.op),tl:=firm ops o } else none
end
end Go.Abs
