/- Own text. -/
import Derived.Test.YthgciclhiaoecaaGreatAbsBase
set_option linter.unusedVariables false
set_option linter.unusedSimpArgs false
namespace Go.Abs
open Go
def mat:List (Option Nat)→List AV→Nat→List AV×Hp
 | some s :: ts,.nil :: vs,b=>let r:=mat ts vs (b+1);(.own b :: r.1,(b,.row s [] true false) :: r.2)
 | _ :: ts,v :: vs,b=>let r:=mat ts vs b;(v :: r.1,r.2)
 | _,vs,_=>(vs,[])
def Znr:List AV→Bool
 | []=>false
 | .nil :: _=>true
 | _ :: r=>Znr r
structure Eff where
 val:AV
 adds:Hp:=[]
 sets:Hp:=[]
 dels:List Nat:=[]
 frz:List Nat:=[]
def Zi:Hp→Hp→Hp
 | hp,[]=>hp
 | hp,(k,o) :: r=>Zi (ins hp k o) r
def del:Hp→Nat→Hp
 | [],_=>[]
 | (k,o) :: r,t=>if k=t then del r t else (k,o) :: del r t
def Qf:Hp→List Nat→Hp
 | hp,[]=>hp
 | hp,k :: r=>Qf (del hp k) r
def Qk (ids:List Nat) (hp:Hp):Hp:=match ids with
 | []=>hp
 | _=>freeze ids hp
def Eff.on (e:Eff) (hp:Hp):Hp:=Zi (Zi (Qf (Qk e.frz hp) e.dels) e.sets) e.adds
def ZzO:List AV→Nat→List AV→List AV
 | cs,_,[]=>cs
 | cs,off,v :: r=>ZzO (cs.set off v) (off+1) r
def ZoH:List AV→List (Nat×Nat×AV)→Option (List AV)
 | cells,[]=>some cells
 | cells,q :: r=>if q.2.2.solid∧q.2.2.cells.length=q.2.1∧q.1+q.2.1≤cells.length then ZoH (ZzO cells q.1 q.2.2.cells) r else none
def AV.atom:AV→Bool
 | .d x=>x.one
 | .agg _=>false
 | .tup _=>false
 | .clo _ _=>false
 | _=>true
def ZiK:List AV→Bool
 | []=>true
 | v :: r=>v.atom&&ZiK r
def cloV (f:Nat) (cs:List AV):Option AV:=if ZiK cs then some (.clo f cs) else none
def Zmf:AV→AV
 | .bbuf _ _=>.junk
 | v=>v
def ZaW (agg:Bool) (s off:Nat):Option Zn→Option AV
 | some (.box cs)=>if agg then (if off+s≤cs.length then some (JQ ((cs.drop off).take s)) else none) else (cs[off]?).map Zmf
 | _=>none
def ZcO (agg:Bool) (s off:Nat) (cs:List D):Option AV:=
 if agg then (if off+s≤cs.length then some (.d (.agg ((cs.drop off).take s))) else none) else asD cs[off]?
def Zmg (agg:Bool) (s sz off:Nat) (x:D):Option AV:=if x.cells.length=sz then ZcO agg s off x.cells else none
def ZoI (i off:Nat):Option (Option Nat×Nat×Nat)→Option AV
 | some (some nm,i',c)=>if i=i'∧off=c then some (.own nm) else none
 | _=>none
def JX (i off:Nat) (lk:Option (Option Nat×Nat×Nat)) (x:D):Option AV:=match x.cells[off]? with
 | some (.sl _)=>ZoI i off lk
 | some y=>if y.plain then some (.d y) else none
 | none=>none
def JY (id:Nat) (agg:Bool) (s sz i off:Nat):Option Zn→Option AV
 | some (.row sz' xs _ _)=>if sz=sz' then bnd xs[i]? (Zmg agg s sz off) else none
 | some (.tree sz' _ xs lk)=>if sz=sz' then (if agg then none else bnd xs[i]? (JX i off lk)) else none
 | _=>none
def Uu (hp:Hp) (agg:Bool) (s:Nat):AV→Option AV
 | .ptr id off=>ZaW agg s off (lkp hp id)
 | .prow id sz i off=>JY id agg s sz i off (lkp hp id)
 | .pim cs=>ZcO agg s 0 cs
 | _=>none
def ZuP:AV→Option D
 | .d x=>if x.plain then some x else none
 | _=>none
def Zwu:List AV→Option (List D)
 | []=>some []
 | v :: r=>bnd (ZuP v) fun x=>bnd (Zwu r) fun ds=>some (x :: ds)
def ZhY (slc:List (Option Nat)) (s base id off:Nat) (vs:List AV):Option Zn→Option Eff
 | some (.box cs)=>if vs.length=s∧off+s≤cs.length∧XH vs∧XJ cs=true then
    (if Znr vs then some { val := .junk, adds := (mat slc vs base).2, sets := [(id, .box (Zu cs off (mat slc vs base).1))] }
      else some { val:=.junk,sets:=[(id,.box (Zu cs off vs))] })
   else none
 | _=>none
def D.notSl:D→Bool
 | .sl _=>false
 | _=>true
def ZiL (s id sz i off:Nat) (xs:List D) (ex:Bool) (x:D) (q:List D×Bool×List Nat):Option Eff:=
 if x.notSl∧x.cells.length=sz∧q.1.length=s∧off+s≤sz∧q.2.2.contains id=false then
  some { val:=.junk,sets:=[(id,.row sz (xs.set i (Yy x off q.1)) (ex&&q.2.1) false)],frz:=q.2.2 } else none
def ZiM (n id:Nat):Option Zn→Option (D×List Nat)
 | some (.row sz xs true false)=>if sz=n∧Zaa D.flat xs then some (.sl xs,[id]) else none
 | some (.tree sz n' xs none)=>if sz=n∧n'=n then some (.sl xs,[id]) else none
 | _=>none
def ZhZ (hp:Hp) (n:Nat):AV→Option (D×List Nat)
 | .d x=>if x.plain then some (x,[]) else none
 | .nil=>some (.sl [],[])
 | .own id=>ZiM n id (lkp hp id)
 | _=>none
def Wz (hp:Hp) (n:Nat):List AV→Option (List D×List Nat)
 | []=>some ([],[])
 | v :: r=>bnd (ZhZ hp n v) fun q=>bnd (Wz hp n r) fun p=>if !q.2.any p.2.contains then some (q.1 :: p.1,q.2++p.2) else none
def D.isAgg:D→Bool
 | .agg _=>true
 | _=>false
def JZ (i off s:Nat):Option (Option Nat×Nat×Nat)→Option (Option Nat×Nat×Nat)
 | some (nm,i',c)=>if i=i'∧off≤c∧c<off+s then none else some (nm,i',c)
 | none=>none
def ZiN (s id sz n i off:Nat) (xs:List D) (lk:Option (Option Nat×Nat×Nat)) (x:D) (q:List D×List Nat):Option Eff:=
 if x.isAgg∧x.cells.length=sz∧q.1.length=s∧off+s≤sz∧q.2.contains id=false then
  some { val:=.junk,sets:=[(id,.tree sz n (xs.set i (Yy x off q.1)) (JZ i off s lk))],dels:=q.2 } else none
def ZcP (hp:Hp) (s id sz i off:Nat) (vs:List AV):Option Zn→Option Eff
 | some (.row sz' xs ex false)=>if sz=sz' then bnd xs[i]? fun x=>bnd (V1 hp vs) fun q=>ZiL s id sz i off xs ex x q else none
 | some (.tree sz' n xs lk)=>if sz=sz' then bnd xs[i]? fun x=>bnd (Wz hp n vs) fun q=>ZiN s id sz n i off xs lk x q else none
 | _=>none
def Zbr (hp:Hp) (slc:List (Option Nat)) (s base:Nat) (vs:List AV):AV→Option Eff
 | .ptr id off=>ZhY slc s base id off vs (lkp hp id)
 | .prow id sz i off=>ZcP hp s id sz i off vs (lkp hp id)
 | _=>none
def uni (s:Nat) (ys:List D):Prop:=∀ y∈ys,y.cells.length=s
def ZK:Nat:=140737488355328
def Q9 (ys:List D):Prop:=∀ y∈ys,y.flat=true
def ZuQ (flat:Bool):Option Zn→Option (List D×Bool)
 | some (.row _ ys ex _)=>some (ys,ex || flat)
 | _=>none
def Zrn:AV→Option (List D×Bool)
 | .d (.str s)=>some (s.map fun b=>.int .u8 b.toNat,true)
 | _=>none
def Zpy (flat:Bool) (off n:Nat):Option Zn→Option (List D×Bool)
 | some (.row _ ys ex _)=>some ((ys.drop off).take n,ex || flat)
 | _=>none
def Zh0 (hp:Hp) (flat:Bool):AV→Option (List D×Bool)
 | .nil=>some ([],true)
 | .d (.sl ys)=>some (ys,flat)
 | .own id=>ZuQ flat (lkp hp id)
 | .ownv id off n=>Zpy flat off n (lkp hp id)
 | _=>none
def ZuR (sz base:Nat) (dels:List Nat) (xs:List D) (ex:Bool):Eff:=
 { val:=.own base,adds:=[(base,.row sz xs ex false)],dels:=dels }
def Zro (sz by_ base id:Nat) (ys:List D) (ex' : Bool):Option Zn→Option Eff
 | some (.row sz' xs ex false)=>if sz'=sz∧(xs.length+ys.length)*by_≤ZK∧xs.length+ys.length≤ZK then some (ZuR sz base [id] (xs++ys) (ex&&ex')) else none
 | _=>none
def Zmh (sz by_ base id n:Nat) (ys:List D) (ex' : Bool):Option Zn→Option Eff
 | some (.row sz' xs ex false)=>if sz'=sz∧(n+ys.length)*by_≤ZK∧n+ys.length≤ZK then some (ZuR sz base [id] (xs.take n++ys) (ex&&ex')) else none
 | _=>none
def Zmi (sz base id n:Nat) (ys:List D) (ex' : Bool):Option Zn→Option Eff
 | some (.row sz' xs ex false)=>if sz'=sz∧0<xs.length∧n+ys.length≤xs.length then
   some { val:=.ownv base 0 (n+ys.length),adds:=[(base,.row sz (xs.take n++ys++xs.drop (n+ys.length)) (ex&&ex') false)],dels:=[id] } else none
 | _=>none
def Zka (hp:Hp) (sz by_:Nat) (base:Nat) (src:List Nat) (ys:List D) (ex' : Bool):AV→Option Eff
 | .nil=>if ys.length*by_≤ZK∧ys.length≤ZK then some (ZuR sz base [] ys ex') else none
 | .own id=>if src.contains id then none else Zro sz by_ base id ys ex' (lkp hp id)
 | .ownv id off n=>if off≠0 then none else if src.contains id then Zmi sz base id n ys ex' (lkp hp id) else Zmh sz by_ base id n ys ex' (lkp hp id)
 | _=>none
open Classical in
noncomputable def J0 (hp:Hp) (sz by_:Nat) (str flat:Bool) (base:Nat) (s x:AV):Option Eff:=
 bnd (if str then Zrn x else Zh0 hp flat x) fun q=>if uni sz q.1∧(flat=true→Q9 q.1) then Zka hp sz by_ base (Zdp x) q.1 q.2 s else none
def idx (i:AV):Option Int:=match i with
 | .d (.int _ n)=>some n
 | _=>none
def ZyM (sz:Nat) (y:D):Option AV:=if y.cells.length=sz then some (.pim y.cells) else none
def Zdv (sz id n:Nat):Option Zn→Option AV
 | some (.row sz' xs _ _)=>if sz'=sz∧n<xs.length then some (.prow id sz n 0) else none
 | some (.tree sz' _ xs _)=>if sz'=sz∧n<xs.length then some (.prow id sz n 0) else none
 | _=>none
def ZcQ (sz id off m n:Nat):Option Zn→Option AV
 | some (.row sz' _ _ _)=>if sz'=sz∧n<m then some (.prow id sz (off+n) 0) else none
 | _=>none
def QB (hp:Hp) (sz n:Nat):AV→Option AV
 | .d (.sl xs)=>bnd xs[n]? (ZyM sz)
 | .own id=>Zdv sz id n (lkp hp id)
 | .ownv id off m=>ZcQ sz id off m n (lkp hp id)
 | _=>none
def bd (m:Nat) (v:AV):Option Nat:=bnd (idx v) fun n=>if 0≤n∧n≤m then some n.toNat else none
def hiOf (len:Nat):Option AV→Option Nat
 | none=>some len
 | some v=>bd len v
def loOf (h:Nat):Option AV→Option Nat
 | none=>some 0
 | some v=>bd h v
def ZuS (len:Nat) (lo hi:Option AV):Option (Nat×Nat):=bnd (hiOf len hi) fun h=>bnd (loOf h lo) fun l=>some (l,h)
def Zwv (id n:Nat):Option AV→Option AV→Option AV
 | none,none=>some (.own id)
 | lo,hi=>bnd (ZuS n lo hi) fun b=>some (.ownv id b.1 (b.2-b.1))
def ZcR (s id:Nat) (lo hi:Option AV):Option Zn→Option AV
 | some (.row sz xs _ _)=>if sz=s then Zwv id xs.length lo hi else none
 | _=>none
def ZBj (n m:Nat) (lo:Option AV):Option AV→Option (Nat×Nat)
 | none=>ZuS n lo none
 | some h=>ZuS m lo (some h)
def ZaA (s id off n:Nat) (lo hi:Option AV):Option Zn→Option AV
 | some (.row sz xs _ _)=>if sz=s then bnd (ZBj n (xs.length-off) lo hi) fun b=>some (.ownv id (off+b.1) (b.2-b.1)) else none
 | _=>none
def slice3 (hp:Hp) (x:AV) (lo hi mx:Option Int):Option AV:=bnd lo fun l=>bnd hi fun h=>bnd mx fun m=>bnd (Zd6 hp x) fun n=>
 if 0≤l∧l≤h∧h≤m∧m≤n then some .junk else none
def Zmj (s id off n:Nat) (z:D):Option Zn→Option Eff
 | some (.row sz xs ex false)=>if sz=s∧z.cells.length=s∧off+n≤xs.length then some { val:=.tup [],sets:=[(id,.row sz (xs.take off++List.replicate n z++xs.drop (off+n)) ex false)] } else none
 | _=>none
def ZfC (hp:Hp) (s:Nat) (z:D):AV→Option Eff
 | .ownv id off n=>Zmj s id off n z (lkp hp id)
 | _=>none
open Classical in
noncomputable def VX (hp:Hp) (s:Nat) (lo hi:Option AV):AV→Option AV
 | .d (.sl xs)=>if uni s xs then bnd (ZuS xs.length lo hi) fun b=>some (.d (.sl ((xs.take b.2).drop b.1))) else none
 | .nil=>bnd (ZuS 0 lo hi) fun _=>some .nil
 | .own id=>ZcR s id lo hi (lkp hp id)
 | .ownv id off n=>ZaA s id off n lo hi (lkp hp id)
 | _=>none
def sliceS (lo hi:Option AV):AV→Option AV
 | .d (.str s)=>bnd (ZuS s.length lo hi) fun b=>some (.d (.str ((s.take b.2).drop b.1)))
 | _=>none
def slice0 (hp:Hp) (x:AV) (hi mx:Option Int):Option AV:=match hi,mx with
 | some 0,some 0=>bnd (Zd6 hp x) fun _=>some .nil
 | _,_=>none
def Zmk (agg:Bool) (s off:Nat):AV→Option AV
 | .d (.agg cs)=>ZcO agg s off cs
 | .agg cs=>if agg then (if off+s≤cs.length then some (JQ ((cs.drop off).take s)) else none) else cs[off]?
 | _=>none
abbrev Orc:=Nat→List AV→List Zn→Option (AV×List Zn)
abbrev Zm:=Nat→Nat→Bool
def ZfD (hp:Hp) (id:Nat):Bool→Option AV
 | true=>some (.own id)
 | false=>asD (ZiZ hp (.own id))
def Zh1:Bool→Option AV
 | true=>some .nil
 | false=>some (.d (.sl []))
def ZfE (hp:Hp) (cs:List AV):Bool→Option AV
 | true=>if Zd5 cs then none else some (.agg cs)
 | false=>asD (toD hp (.agg cs))
def Zdb (hp:Hp) (m:Bool):AV→Option AV
 | .ptr a b=>some (.ptr a b)
 | .clo f c=>some (.clo f c)
 | .nilp=>some .nilp
 | .nili=>some .nili
 | .pim c=>some (.pim c)
 | .own id=>ZfD hp id m
 | .nil=>Zh1 m
 | .d x=>some (.d x)
 | .agg cs=>ZfE hp cs m
 | v=>asD (toD hp v)
def args (hp:Hp) (m:Nat→Bool):Nat→List AV→Option (List AV)
 | _,[]=>some []
 | i,v :: r=>bnd (Zdb hp (m i) v) fun a=>bnd (args hp m (i+1) r) fun as=>some (a :: as)
def J1 (hp:Hp) (go:List Nat→List Nat→List Nat) (id:Nat) (todo acc:List Nat):Option Zn→List Nat
 | some o=>go (todo++JR o) (acc++[id])
 | none=>go todo acc
def QZ (hp:Hp):Nat→List Nat→List Nat→List Nat
 | 0,_,acc=>acc
 | _+1,[],acc=>acc
 | n+1,id :: todo,acc=>if acc.contains id then QZ hp n todo acc else J1 hp (QZ hp n) id todo acc (lkp hp id)
def V4:List Nat→Nat→Nat
 | [],_=>0
 | x :: r,t=>if x=t then 0 else V4 r t+1
def Zww:Option Zn→Zn
 | some o=>o
 | none=>.gone
def Zd9 (hp:Hp):List Nat→List Zn
 | []=>[]
 | id :: r=>Zww (lkp hp id) :: Zd9 hp r
def Zbd (ids:List Nat) (o:Zn):Zn:=ZlU (V4 ids) (Xh ((JR o).filter fun i=>!ids.contains i) o)
def Zh2:Option Zn→Bool
 | some (.row _ _ _ _)=>true
 | some (.tree _ _ _ _)=>true
 | some .gone=>true
 | _=>false
def ZcS:AV→Bool
 | .d x=>x.flat
 | .pim _=>false
 | .agg _=>false
 | .tup _=>false
 | .clo _ _=>false
 | _=>true
def Zea:AV→Bool
 | .agg cs=>cs.all ZcS
 | .clo _ cs=>cs.all ZcS
 | v=>ZcS v
def ZtH:AV→Bool
 | .tup vs=>vs.all Zea
 | v=>Zea v
def Zh3:Zn→Bool
 | .box cs=>cs.all Zea
 | .row _ _ ex fz=>ex&&!fz
 | .tree _ _ _ _=>true
 | .gone=>true
def ZkP (d:Nat):Option Nat→Nat
 | some i=>i
 | none=>d
def WA (ids:List Nat) (base k:Nat):Nat:=ZkP (base+(k-ids.length)) ids[k]?
def ZcT (g:Nat→Nat):List Nat→List Zn→Hp
 | id :: ids,o :: os=>(id,ZlU g o) :: ZcT g ids os
 | _,_=>[]
def ZcU (g:Nat→Nat):Nat→List Zn→Hp
 | _,[]=>[]
 | k,o :: os=>(k,ZlU g o) :: ZcU g (k+1) os
structure Zf where
 eff:Eff
 gone:List Nat
def XQ (_hp:Hp):Nat:=1000
def YN:List AV→List AV→List Nat
 | v :: vs,.d _ :: as=>Zfr v++YN vs as
 | _ :: vs,_ :: as=>YN vs as
 | _,_=>[]
def ZcV:Option Zn→Bool
 | some (.tree _ _ _ _)=>true
 | _=>false
def Zns:List Nat→List Zn→List Nat
 | id :: ids,.gone :: os=>id :: Zns ids os
 | _ :: ids,_ :: os=>Zns ids os
 | _,_=>[]
def Znt (hp:Hp) (ids:List Nat) (out:List Zn):Bool→List Nat
 | true=>Zns ids out
 | false=>ids.filter fun i=>Zh2 (lkp hp i)
def Zbe (keep:Bool) (hp:Hp) (base:Nat) (ids lent:List Nat) (r:AV) (out:List Zn):Option Zf:=
 if out.length<ids.length then none else if !(ZtH r&&out.all Zh3)&&lent.any fun i=>ZcV (lkp hp i) then none else
  some { eff := { val:=ren (WA ids base) r,adds:=ZcU (WA ids base) base (out.drop ids.length),sets:=ZcT (WA ids base) ids out,frz:=if ZtH r&&out.all Zh3 then [] else lent },gone:=Znt hp ids out keep }
def Zag:AV→List Nat
 | .ptr id _=>[id]
 | .clo _ cs=>cs.flatMap Zl
 | _=>[]
def ZbM (hp:Hp) (rs ids:List Nat):Bool:=ids.all fun i=>Zh2 (lkp hp i) || rs.contains i
def ZfF (C:Orc) (keep:Bool) (hp:Hp) (base f:Nat) (lent:List Nat) (as:List AV) (ids:List Nat):Option Zf:=
 if (as.flatMap Zw).all ids.contains∧¬lent.any ids.contains∧ZbM hp (as.flatMap Zag) ids=true then
  bnd (C f (as.map (ren (V4 ids))) ((Zd9 hp ids).map (Zbd ids))) fun q=>Zbe keep hp base ids lent q.1 q.2
 else none
def Zdw (C:Orc) (m:Nat→Bool) (hp:Hp) (base f:Nat) (avs:List AV):Option Zf:=
 bnd (args hp m 0 avs) fun as=>ZfF C (m 99) hp base f (YN avs as) as (QZ hp (XQ hp) (as.flatMap Zw) [])
def QJ (v:AV):Option Zf:=some { eff := { val:=v },gone:=[] }
def VY (v:Option AV):Option Zf:=bnd v QJ
def ZgE (e:Option Eff):Option Zf:=bnd e fun e=>some { eff:=e,gone:=[] }
def ZfG (base:Nat) (e:Option Nat):AV→Option Zf
 | .nil=>bnd e fun s=>some { eff := { val:=.own base,adds:=[(base,.row s [] true false)] },gone:=[] }
 | v=>QJ v
def Zh4 (a b:AV):AV→Option Zf
 | .d (.bool t)=>if t then QJ a else QJ b
 | _=>none
def ZkQ (base:Nat):AV→AV
 | .bnil _ e=>.bnil base e
 | v=>v
def bnT (t te:Nat):List AV→List AV
 | [.nilp,.nil]=>[.bnil 0 t,.bbuf te []]
 | cs=>cs
def ZBk:List AV→Bool
 | [.bnil _ _,.bbuf _ []]=>true
 | _=>false
def Zrp (slc:List (Option Nat)) (base:Nat) (cs:List AV):Option Zf:=
 if XJ cs=false then (if ZBk cs=true then some { eff := { val:=.ptr base 0,adds:=[(base,.box cs)] },gone:=[] } else none) else
 if Znr cs then some { eff := { val:=.ptr base 0,adds:=(base,.box (mat slc cs (base+1)).1) :: (mat slc cs (base+1)).2 },gone:=[] }
 else some { eff := { val:=.ptr base 0,adds:=[(base,.box cs)] },gone:=[] }
def Zh5 (slc:List (Option Nat)) (base:Nat) (cs:List AV):Option Zf:=Zrp slc base (cs.map (ZkQ base))
def ZzP (base:Nat) (x:AV):Option Zf:=if x.solid&&XJ x.cells then some { eff := { val:=.ptr base 0,adds:=[(base,.box x.cells)] },gone:=[] } else none
def Zrq (zs:List AV) (ps:List (Nat×Nat×AV)):Option Zf:=bnd (ZoH zs ps) fun cs=>QJ (JQ cs)
def ZzQ (base s:Nat) (q:List D×Bool×List Nat):Option Zf:=
 if q.1.all (fun d=>d.cells.length==s) then some { eff := { val:=.own base,adds:=[(base,.row s q.1 q.2.1 false)],frz:=q.2.2 },gone:=[] } else none
def buildSl (hp:Hp) (base s:Nat):List AV→Option Zf
 | []=>QJ .nil
 | v :: vs=>bnd (WV hp (v :: vs)) (ZzQ base s)
def UF (hp:Hp) (n s:Nat):List AV→Option (List D×List Nat)
 | []=>some ([],[])
 | .agg cs :: r=>bnd (Wz hp n cs) fun q=>bnd (UF hp n s r) fun p=>
   if q.1.length=s∧(!q.2.any p.2.contains)=true then some (.agg q.1 :: p.1,q.2++p.2) else none
 | _=>none
def asgT (base s n:Nat):AV→Option Zf
 | .nil=>some { eff := { val:=.own base,adds:=[(base,.tree s n [] none)] },gone:=[] }
 | _=>none
def buildT (hp:Hp) (base s n:Nat) (vs:List AV):Option Zf:=
 if vs.isEmpty=false then bnd (UF hp n s vs) fun q=>some { eff := { val:=.own base,adds:=[(base,.tree s n q.1 none)],dels:=q.2 },gone:=[] } else none
def ZaB:AV→Option Zf
 | .ptr a b=>QJ (.ptr a b)
 | .prow a b c d=>QJ (.prow a b c d)
 | .pim c=>QJ (.pim c)
 | .clo f c=>QJ (.clo f c)
 | _=>none
def Znu (op:BinOp) (eq:Bool):AV→AV→Option Zf
 | .d (.bool a),.d (.bool b)=>if eq then VY (Ztf op a b) else none
 | a,b=>VY (vbin op a b)
def Zac:List Nat→List D→List D→Option Bool
 | [],[],[]=>some true
 | 0 :: ks,.int k a :: cs,.int k' b :: ds=>if k=k' then bnd (Zac ks cs ds) fun r=>some (decide (a=b)&&r) else none
 | 1 :: ks,.bool a :: cs,.bool b :: ds=>bnd (Zac ks cs ds) fun r=>some (decide (a=b)&&r)
 | 2 :: ks,.str a :: cs,.str b :: ds=>bnd (Zac ks cs ds) fun r=>some (decide (a=b)&&r)
 | _,_,_=>none
def Zrr (neg:Bool) (r:Bool):Bool:=if neg then !r else r
def ZuT (neg:Bool) (ks:List Nat):AV→AV→Option Zf
 | .d (.agg cs),.d (.agg ds)=>bnd (Zac ks cs ds) fun r=>QJ (.d (.bool (Zrr neg r)))
 | _,_=>none
def convI (k:IntKind):AV→Option Zf
 | .d (.int _ n)=>QJ (.d (.int k (k.wrap n)))
 | _=>none
def convS:AV→Option Zf
 | .d (.str s)=>QJ (.d (.str s))
 | _=>none
def ZtI (base s b:Nat) (z:D) (l c:Int):Option Zf:=
 if 0≤l∧l≤c∧c*b≤ZK∧c≤ZK∧z.cells.length=s then
  some { eff := { val:=.own base,adds:=[(base,.row s (List.replicate l.toNat z) true false)] },gone:=[] } else none
def makeT (base s b ns:Nat) (z:D) (l c:Int):Option Zf:=
 if 0≤l∧l≤c∧c*b≤ZK∧c≤ZK∧z.cells.length=s∧z.isAgg=true then
  some { eff := { val:=.own base,adds:=[(base,.tree s ns (List.replicate l.toNat z) none)] },gone:=[] } else none
def WB (off:Nat):AV→Option Zf
 | .ptr id o=>QJ (.ptr id (o+off))
 | .prow id sz i o=>QJ (.prow id sz i (o+off))
 | .pim cs=>QJ (.pim (cs.drop off))
 | _=>none
def Zrs (x:AV) (n:Int) (len s:Nat):Option Zf:=if 0≤n∧n<len then WB (n.toNat*s) x else none
def Zkb (hp:Hp) (s:Nat) (x:AV) (n:Int):Option Zf:=if 0≤n then VY (QB hp s n.toNat x) else none
def Zwx (s:List UInt8) (n:Int):Option Zf:=if 0≤n then bnd s[n.toNat]? fun b=>QJ (.d (.int .u8 b.toNat)) else none
def ZzR (g:Bool) (s len:Nat) (n:Int) (v:AV):Option Zf:=if 0≤n∧n<len then VY (Zmk g s (n.toNat*s) v) else none
def ZxJ (n:Int):AV→Option Zf
 | .d (.str s)=>Zwx s n
 | _=>none
def Zwy (i:Nat):AV→Option Zf
 | .tup vs=>VY vs[i]?
 | _=>none
def Znv:Option Zn→Option (Nat×Nat×List D)
 | some (.tree s n xs none)=>some (s,n,xs)
 | _=>none
def Zdx (hp:Hp):AV→Option (Nat×Nat×Nat×List D)
 | .own id=>bnd (Znv (lkp hp id)) fun q=>some (id,q)
 | _=>none
def ZbN (hp:Hp) (s b base id n:Nat) (ys:List D):AV→Option Eff
 | .nil=>if ys.length*b≤ZK∧ys.length≤ZK then some { val:=.own base,adds:=[(base,.tree s n ys none)],dels:=[id] } else none
 | .own id1=>bnd (Znv (lkp hp id1)) fun q=>if q.1=s∧q.2.1=n∧id1≠id∧(q.2.2.length+ys.length)*b≤ZK∧q.2.2.length+ys.length≤ZK then
   some { val:=.own base,adds:=[(base,.tree s n (q.2.2++ys) none)],dels:=[id1,id] } else none
 | _=>none
def J2 (xs:List D) (i c:Nat):Option (List D):=bnd xs[i]? fun x=>match x.cells[c]? with
 | some (.sl ys)=>some ys
 | _=>none
def XR (hp:Hp):AV→List Nat
 | .own id=>if ZcV (lkp hp id) then [id] else []
 | _=>[]
def Zml:Zn→Zn
 | .tree s _ xs none=>.row s xs true false
 | o=>o
def meltIn (hp:Hp):List Nat→Hp
 | []=>hp
 | i :: r=>match lkp hp i with
  | some o=>ins (meltIn hp r) i (Zml o)
  | none=>meltIn hp r
noncomputable def Vw (hp:Hp) (s b:Nat) (str flat:Bool) (base:Nat) (x y:AV):List Nat→Option Eff
 | []=>J0 hp s b str flat base x y
 | i :: r=>if flat then none else bnd (J0 (meltIn hp (i :: r)) s b str flat base x y) fun e=>some { val:=e.val,adds:=e.adds,sets:=e.sets,dels:=e.dels++(i :: r),frz:=e.frz }
def appT (hp:Hp) (s b base:Nat) (x y:AV):Option Zf:=ZgE (bnd (Zdx hp y) fun q=>if q.2.1=s then ZbN hp s b base q.1 q.2.2.1 q.2.2.2 x else none)
noncomputable def Zeb (hp:Hp) (s b:Nat) (str flat:Bool) (base:Nat) (x y:AV):List Nat→List Nat→Option Zf
 | [],m=>ZgE (Vw hp s b str flat base x y m)
 | i :: r,[]=>ZgE (Vw hp s b str flat base x y (i :: r))
 | _ :: _,_ :: _=>if flat || str then none else appT hp s b base x y
noncomputable def Zwz (hp:Hp) (s b:Nat) (str flat:Bool) (base:Nat) (x y:AV):Option Zf:=Zeb hp s b str flat base x y (XR hp x) (XR hp y)
def ZoJ:AV→AV→Option Zf
 | .d (.int k a),.d (.int k' b)=>if k=k' then QJ (.d (.int k (minI a b))) else none
 | _,_=>none
def ZoK:AV→AV→Option Zf
 | .d (.int k a),.d (.int k' b)=>if k=k' then QJ (.d (.int k (maxI a b))) else none
 | _,_=>none
inductive Opd where
 | t (n:Nat)
 | v (a:AV)
 | f (n:Nat)
def evO (sl:Sl):Opd→AV
 | .t n=>gs sl n
 | .v a=>a
 | .f n=>.clo n []
def evL (sl:Sl):List Opd→List AV
 | []=>[]
 | x :: r=>evO sl x :: evL sl r
def evP (sl:Sl):List (Nat×Nat×Opd)→List (Nat×Nat×AV)
 | []=>[]
 | (a,b,x) :: r=>(a,b,evO sl x) :: evP sl r
def evM (sl:Sl):Option Opd→Option AV
 | none=>none
 | some x=>some (evO sl x)
inductive COp where
 | move (x:Opd)
 | assign (s:Option Nat) (x:Opd)
 | pick (c a b:Opd)
 | alloc (slc:List (Option Nat)) (cs:List AV)
 | box (x:Opd)
 | build (zs:List AV) (ps:List (Nat×Nat×Opd))
 | buildSl (s:Nat) (xs:List Opd)
 | load (g:Bool) (s:Nat) (a:Opd)
 | store (slc:List (Option Nat)) (s:Nat) (a x:Opd)
 | nilCheck (x:Opd)
 | bin (op:BinOp) (eq:Bool) (x y:Opd)
 | un (op:UnOp) (x:Opd)
 | eqA (neg:Bool) (ks:List Nat) (x y:Opd)
 | convI (k:IntKind) (x:Opd)
 | convS (x:Opd)
 | fn (f:Nat) (caps:List Opd)
 | make (s b:Nat) (z:D) (l c:Opd)
 | slice (s:Nat) (x:Opd) (lo hi:Option Opd)
 | sliceS (x:Opd) (lo hi:Option Opd)
 | slice0 (x hi mx:Opd)
 | shift (off:Nat) (x:Opd)
 | part (g:Bool) (s off:Nat) (x:Opd)
 | iaS (s:Nat) (x i:Opd)
 | iaA (len s:Nat) (x i:Opd)
 | ixS (x i:Opd)
 | ixA (g:Bool) (s len:Nat) (x i:Opd)
 | nth (i:Nat) (x:Opd)
 | len (x:Opd)
 | lenS (x:Opd)
 | append (s b:Nat) (str flat:Bool) (x y:Opd)
 | min (x y:Opd)
 | max (x y:Opd)
 | call (f:Opd) (as:List Opd)
 | slice3 (s:Nat) (x lo hi mx:Opd)
 | clear (s:Nat) (z:D) (x:Opd)
 | stuck
 | buildT (s n:Nat) (xs:List Opd)
 | appT (s b:Nat) (flat:Bool) (x y:Opd)
 | asgT (s n:Nat) (x:Opd)
 | makeT (s b n:Nat) (z:D) (l c:Opd)
structure CO where
 dst:Option Nat
 guard:Option (Nat×Bool)
 op:COp
 tl:Bool
def Zec (C:Orc) (M:Zm) (hp:Hp) (base:Nat) (as:List AV):AV→Option Zf
 | .clo g caps=>Zdw C (M g) hp base g (as++caps)
 | _=>none
noncomputable def vop (C:Orc) (M:Zm) (sl:Sl) (hp:Hp) (base:Nat):COp→Option Zf
 | .move x=>QJ (evO sl x)
 | .assign s x=>ZfG base s (evO sl x)
 | .pick c a b=>Zh4 (evO sl a) (evO sl b) (evO sl c)
 | .alloc slc cs=>Zh5 slc base cs
 | .box x=>ZzP base (evO sl x)
 | .build zs ps=>Zrq zs (evP sl ps)
 | .buildSl s xs=>buildSl hp base s (evL sl xs)
 | .load g s a=>VY (Uu hp g s (evO sl a))
 | .store slc s a x=>ZgE (Zbr hp slc s base (evO sl x).cells (evO sl a))
 | .nilCheck x=>ZaB (evO sl x)
 | .bin op eq x y=>Znu op eq (evO sl x) (evO sl y)
 | .un op x=>VY (vun op (evO sl x))
 | .eqA neg ks x y=>ZuT neg ks (evO sl x) (evO sl y)
 | .convI k x=>convI k (evO sl x)
 | .convS x=>convS (evO sl x)
 | .fn f cs=>VY (cloV f (evL sl cs))
 | .make s b z l c=>bnd (idx (evO sl l)) fun l=>bnd (idx (evO sl c)) fun c=>ZtI base s b z l c
 | .slice s x lo hi=>VY (VX hp s (evM sl lo) (evM sl hi) (evO sl x))
 | .sliceS x lo hi=>VY (sliceS (evM sl lo) (evM sl hi) (evO sl x))
 | .slice0 x hi mx=>VY (slice0 hp (evO sl x) (idx (evO sl hi)) (idx (evO sl mx)))
 | .shift off x=>WB off (evO sl x)
 | .part g s off x=>VY (Zmk g s off (evO sl x))
 | .iaS s x i=>bnd (idx (evO sl i)) fun n=>Zkb hp s (evO sl x) n
 | .iaA len s x i=>bnd (idx (evO sl i)) fun n=>Zrs (evO sl x) n len s
 | .ixS x i=>bnd (idx (evO sl i)) fun n=>ZxJ n (evO sl x)
 | .ixA g s len x i=>bnd (idx (evO sl i)) fun n=>ZzR g s len n (evO sl x)
 | .nth i x=>Zwy i (evO sl x)
 | .len x=>bnd (Zd6 hp (evO sl x)) fun n=>QJ (.d (.int .i64 n))
 | .lenS x=>bnd (Zzf (evO sl x)) fun n=>QJ (.d (.int .i64 n))
 | .append s b str flat x y=>Zwz hp s b str flat base (evO sl x) (evO sl y)
 | .min x y=>ZoJ (evO sl x) (evO sl y)
 | .max x y=>ZoK (evO sl x) (evO sl y)
 | .call f as=>Zec C M hp base (evL sl as) (evO sl f)
 | .slice3 _ x lo hi mx=>VY (slice3 hp (evO sl x) (idx (evO sl lo)) (idx (evO sl hi)) (idx (evO sl mx)))
 | .clear s z x=>ZgE (ZfC hp s z (evO sl x))
 | .stuck=>none
 | .buildT s n xs=>buildT hp base s n (evL sl xs)
 | .appT s b _ x y=>appT hp s b base (evO sl x) (evO sl y)
 | .asgT s n x=>asgT base s n (evO sl x)
 | .makeT s b n z l c=>bnd (idx (evO sl l)) fun l=>bnd (idx (evO sl c)) fun c=>makeT base s b n z l c
section
variable (P:Program)
def X9 (t:TypeId):Option TypeId:=match P.underlying t with
 | some (.slice e)=>some e
 | _=>none
def ZaC (t:TypeId):Bool:=match P.underlying t with
 | some .string=>true
 | _=>false
def ZiO (t:TypeId):Bool:=match P.underlying t with
 | some .bool=>true
 | _=>false
def ZzS (t:TypeId):Option IntKind:=match P.underlying t with
 | some (.int k)=>some k
 | _=>none
def ZkR (t:TypeId):Option (Nat×TypeId):=match P.underlying t with
 | some (.array n e)=>some (n,e)
 | _=>none
def ZeG (t:TypeId):Option Bool:=match P.underlying t with
 | some (.struct _)=>some true
 | some (.array _ _)=>some true
 | some _=>some false
 | none=>none
def ZfH (s:TypeId) (f:Nat):Option (Nat×TypeId):=match P.underlying s with
 | some (.struct fs)=>match fs[f]? with
  | some x=>if P.cellsOf x.type=0 then none else some (x.offset,x.type)
  | none=>none
 | _=>none
def Zbf (t:TypeId):Option Value:=match P.info? t with
 | some i=>i.zero
 | none=>none
def ZyN:Nat→TypeId→List TypeId
 | 0,t=>[t]
 | n+1,t=>match P.underlying t with
  | some (.struct fs)=>fs.toList.flatMap fun f=>ZyN n f.type
  | some (.array k e)=>(List.replicate k (ZyN n e)).flatten
  | _=>[t]
def slcT (t:TypeId):List (Option Nat):=(ZyN P 4 t).map fun c=>(X9 P c).map P.cellsOf
def flatE (t:TypeId):Bool:=(ZyN P 4 t).all fun c=>match P.underlying c with
 | some (.int _)=>true
 | some .bool=>true
 | some .string=>true
 | _=>false
def ZcW:Nat→TypeId→Nat→Option (List (Nat×Nat))
 | 0,_,_=>none
 | n+1,t,off=>match P.underlying t with
  | some (.int _)=>if P.cellsOf t=1 then some [(off,0)] else none
  | some .bool=>if P.cellsOf t=1 then some [(off,1)] else none
  | some .string=>if P.cellsOf t=1 then some [(off,2)] else none
  | some (.struct fs)=>if P.stoodInHeld t then none else
    bnd (Qy (fun f:Field=>if f.name = "_"∨P.cellsOf t<f.offset+P.cellsOf f.type then none else ZcW n f.type (off+f.offset)) fs.toList) fun ls=>some ls.flatten
  | _=>none
def XL (t:TypeId):Bool:=match P.underlying t with
 | some (.struct _)=>true
 | _=>false
def ZwA (t:TypeId):Option (List Nat):=bnd (ZcW P 5 t 0) fun ls=>
 if ls.map (·.1)=List.range (P.cellsOf t)∧XL P t=true∧P.eqGuardType P.depth t=false then some (ls.map (·.2)) else none
def ZwB (neg:Bool) (op:BinOp) (t:TypeId) (x y:Opd):Option (List Nat)→COp
 | some ks=>.eqA neg ks x y
 | none=>.bin op (ZiO P t) x y
def ZxK (op:BinOp) (t:TypeId) (x y:Opd):COp:=match op with
 | .eql=>ZwB P false .eql t x y (ZwA P t)
 | .neq=>ZwB P true .neq t x y (ZwA P t)
 | op=>.bin op (ZiO P t) x y
end
section
variable (P:Program)
def ZW:Operand→Option Opd
 | .tmp t=>some (.t t)
 | .const v=>some (.v (evC v))
 | .global _=>none
 | .func f=>some (.f f)
def ZwC (pl:Nat→Option (Nat×Nat)) (q:Nat×Operand):Option (Nat×Nat×Opd):=bnd (pl q.1) fun p=>bnd (ZW q.2) fun x=>some (p.1,p.2,x)
def cOO:Option Operand→Option (Option Opd)
 | none=>some none
 | some x=>bnd (ZW x) fun y=>some (some y)
def ZfI (t:TypeId):Option (Nat×TypeId)→Nat→Option (Nat×Nat)
 | none,i=>bnd (ZfH P t i) fun q=>some (q.1,P.cellsOf q.2)
 | some a,i=>some (i*P.cellsOf a.2,P.cellsOf a.2)
def W4 (t:TypeId):Bool:=match P.info? t with
 | some i=>(match i.zero with
  | some z=>z.cells.size==i.size&&decide (0<i.size)
  | none=>false)
 | none=>false
def Zmm (t:TypeId):Bool:=match P.underlying t with
 | some (.struct fs)=>fs.toList.all fun f=>(P.info? f.type).isSome
 | some (.array _ e)=>(P.info? e).isSome
 | _=>false
def ZoL (e:TypeId) (u:TypeId):Option Bool:=match X9 P u with
 | some e'=>if e'=e then some false else none
 | none=>if ZaC P u then some true else none
def Zrt (x i:Opd) (a:Option (Nat×TypeId)):Option TypeId→Option COp
 | some e=>if (P.info? e).isSome then some (.iaS (P.cellsOf e) x i) else none
 | none=>bnd a fun a=>if (P.info? a.2).isSome then some (.iaA a.1 (P.cellsOf a.2) x i) else none
def ZuU (x i:Opd) (str:Bool) (a:Option (Nat×TypeId)):Option COp:=
 if str then some (.ixS x i) else bnd a fun a=>bnd (ZeG P a.2) fun g=>some (.ixA g (P.cellsOf a.2) a.1 x i)
def ZyO (x:Opd) (ss sd:Bool):Option IntKind→Option IntKind→Option COp
 | some _,some k=>some (.convI k x)
 | _,_=>if ss&&sd then some (.convS x) else none
def cLen (x:Opd) (str:Bool):Option TypeId→Option COp
 | some _=>some (.len x)
 | none=>if str then some (.lenS x) else none
def ZxL (x:Opd) (lo hi:Option Opd) (str:Bool):Option TypeId→Option COp
 | some e=>if (P.info? e).isSome then some (.slice (P.cellsOf e) x lo hi) else none
 | none=>if str then some (.sliceS x lo hi) else none
def ZcX:Builtin→List Operand→List TypeId→Option COp
 | .len,[x],[t]=>bnd (ZW x) fun x=>cLen x (ZaC P t) (X9 P t)
 | .append,[s,x],[t,u]=>bnd (X9 P t) fun e=>bnd (ZoL P e u) fun str=>bnd (ZW s) fun s=>bnd (ZW x) fun x=>
   if W4 P e then some (.append (P.cellsOf e) (P.bytesOf e) str (flatE P e) s x) else none
 | .min,[x,y],_=>bnd (ZW x) fun x=>bnd (ZW y) fun y=>some (.min x y)
 | .max,[x,y],_=>bnd (ZW x) fun x=>bnd (ZW y) fun y=>some (.max x y)
 | .clear,[x],[t]=>bnd (X9 P t) fun e=>bnd (ZW x) fun x=>bnd (Zbf P e) fun z=>bnd (evD z) fun z=>if W4 P e then some (.clear (P.cellsOf e) z x) else none
 | _,_,_=>none
def teOf (t:TypeId):Nat:=match bnd (ZfH P t 1) fun q=>X9 P q.2 with
 | some e=>e
 | none=>0
def cOp (ty:TypeId):Op→Option COp
 | .move x=>bnd (ZW x) fun x=>some (.move x)
 | .assign x=>bnd (ZW x) fun x=>some (.assign (bnd (X9 P ty) fun e=>some (P.cellsOf e)) x)
 | .pick c a b=>bnd (ZW c) fun c=>bnd (ZW a) fun a=>bnd (ZW b) fun b=>some (.pick c a b)
 | .alloc t=>bnd (Zbf P t) fun z=>some (.alloc (slcT P t) (bnT t (teOf P t) (evC z).cells))
 | .box _ x=>bnd (ZW x) fun x=>some (.box x)
 | .build t ps=>bnd (Zbf P t) fun z=>bnd (Qy (ZwC (ZfI P t (ZkR P t))) ps.toList) fun qs=>if Zmm P t then some (.build (evC z).cells qs) else none
 | .buildSlice t n ps=>bnd (X9 P t) fun e=>bnd (Qy (fun q:Nat×Operand=>ZW q.2) ps.toList) fun xs=>
   if ps.toList.map (·.1)=List.range n∧n*P.cellsOf e≤16777216∧W4 P e then some (.buildSl (P.cellsOf e) xs) else none
 | .load t a=>bnd (ZeG P t) fun g=>bnd (ZW a) fun a=>some (.load g (P.cellsOf t) a)
 | .store t a x=>bnd (ZW a) fun a=>bnd (ZW x) fun x=>if (P.info? t).isSome then some (.store (slcT P t) (P.cellsOf t) a x) else none
 | .nilCheck x=>bnd (ZW x) fun x=>some (.nilCheck x)
 | .binOp op t x y _=>bnd (ZW x) fun x=>bnd (ZW y) fun y=>some (ZxK P op t x y)
 | .unOp op _ x=>bnd (ZW x) fun x=>some (.un op x)
 | .convert s d x=>bnd (ZW x) fun x=>ZyO x (ZaC P s) (ZaC P d) (ZzS P s) (ZzS P d)
 | .makeFunc (.func f) fs cs=>if fs.toList.isEmpty then bnd (Qy ZW cs.toList) fun cs=>some (.fn f cs) else none
 | .makeSlice t l c=>bnd (X9 P t) fun e=>bnd (ZW l) fun l=>bnd (ZW c) fun c=>bnd (Zbf P e) fun z=>bnd (evD z) fun z=>if W4 P e then some (.make (P.cellsOf e) (P.bytesOf e) z l c) else none
 | .slice t x lo hi none=>bnd (ZW x) fun x=>bnd (cOO lo) fun lo=>bnd (cOO hi) fun hi=>ZxL P x lo hi (ZaC P t) (X9 P t)
 | .slice t x none (some hi) (some mx)=>bnd (X9 P t) fun e=>if (P.info? e).isSome then bnd (ZW x) fun x=>bnd (ZW hi) fun hi=>bnd (ZW mx) fun mx=>some (.slice0 x hi mx) else none
 | .slice t x (some lo) (some hi) (some mx)=>bnd (X9 P t) fun e=>if (P.info? e).isSome then bnd (ZW x) fun x=>bnd (ZW lo) fun lo=>bnd (ZW hi) fun hi=>bnd (ZW mx) fun mx=>some (.slice3 (P.cellsOf e) x lo hi mx) else none
 | .fieldAddr s x f=>bnd (ZfH P s f) fun q=>bnd (ZW x) fun x=>some (.shift q.1 x)
 | .field t x f=>bnd (ZfH P t f) fun q=>bnd (ZeG P q.2) fun g=>bnd (ZW x) fun x=>some (.part g (P.cellsOf q.2) q.1 x)
 | .indexAddr t x i=>bnd (ZW x) fun x=>bnd (ZW i) fun i=>Zrt P x i (ZkR P t) (X9 P t)
 | .index t x i=>bnd (ZW x) fun x=>bnd (ZW i) fun i=>ZuU P x i (ZaC P t) (ZkR P t)
 | .extract x i=>bnd (ZW x) fun x=>some (.nth i x)
 | .call { callee:=.builtin b,args:=as,argTypes:=ts }=>ZcX P b as.toList ts.toList
 | .call { callee:=.value f,args:=as,argTypes:=_ }=>bnd (ZW f) fun f=>bnd (Qy ZW as.toList) fun as=>some (.call f as)
 | _=>none
def Zru (ops:List Oper):Option (Nat×Bool)→Option (Option (Nat×Bool))
 | none=>some none
 | some q=>bnd ops[q.1]? fun g=>bnd g.dst fun t=>some (some (t,q.2))
def QT (nt:Nat):Option Nat→Bool
 | none=>true
 | some t=>decide (t<nt)
def V5 (ops:Array Oper) (i:Nat):List Nat:=match ops[i]? with
 | some o=>(o.after.toList.filter fun e=>Region.binds .any e).map fun e=>e.on
 | none=>[]
def ZkS (ops:Array Oper):Nat→Nat→Nat→Bool
 | 0,i,j=>(V5 ops i).contains j
 | n+1,i,j=>(V5 ops i).contains j || (V5 ops i).any fun z=>ZkS ops n z j
def startO:Op→Bool
 | .call { callee:=.builtin .append,args:=_,argTypes:=_ }=>true
 | .buildSlice _ _ _=>true
 | _=>false
def callO:Op→Bool
 | .call { callee:=.value (.func _),args:=_,argTypes:=_ }=>true
 | _=>false
def ZBl:Op→Bool
 | .move _=>true
 | _=>false
def aheadO:Op→Bool
 | .store _ _ _=>false
 | .box _ _=>false
 | .assign _=>false
 | .makeFunc _ _ _=>false
 | .makeSlice _ _ _=>false
 | .call { callee:=.builtin .append,args:=_,argTypes:=_ }=>false
 | .call { callee:=.value _,args:=_,argTypes:=_ }=>false
 | _=>true
def ZCI:Op→Bool
 | .move _=>true
 | .alloc _=>true
 | .buildSlice _ _ _=>true
 | .load _ _=>true
 | .nilCheck _=>true
 | .binOp _ _ _ _ _=>true
 | .unOp _ _ _=>true
 | .convert _ _ _=>true
 | .fieldAddr _ _ _=>true
 | .indexAddr _ _ _=>true
 | .slice _ _ _ _ _=>true
 | .call { callee:=.builtin .len,args:=_,argTypes:=_ }=>true
 | _=>false
def appO:Op→Bool
 | .call { callee:=.builtin .append,args:=_,argTypes:=_ }=>true
 | _=>false
def lookO:Op→Bool
 | .move _=>true
 | .load _ _=>true
 | .nilCheck _=>true
 | .binOp _ _ _ _ _=>true
 | .convert _ _ _=>true
 | .fieldAddr _ _ _=>true
 | .field _ _ _=>true
 | .extract _ _=>true
 | .indexAddr _ _ _=>true
 | .slice _ _ _ _ _=>true
 | .call { callee:=.builtin .len,args:=_,argTypes:=_ }=>true
 | _=>false
def atO (f:Op→Bool) (ops:List Oper) (k:Nat):Bool:=match ops[k]? with
 | some o=>f o.op
 | none=>false
def firmAt (ops:List Oper) (i:Nat):Bool:=
 (List.range ops.length).all fun k=>if k<i then ZkS ops.toArray 6 i k || atO ZBl ops k else k==i || ZkS ops.toArray 6 k i || atO ZBl ops k
def firmP (ops:List Oper) (i:Nat):Bool:=
 (List.range ops.length).all fun k=>if k<i then ZkS ops.toArray 6 i k || atO lookO ops k else k==i || ZkS ops.toArray 6 k i || atO ZBl ops k
def firmC (ops:List Oper) (i:Nat):Bool:=
 (List.range ops.length).all fun k=>if k<i then ZkS ops.toArray 6 i k || atO aheadO ops k else k==i || ZkS ops.toArray 6 k i || atO ZCI ops k
def Zrv (ops:List Oper) (o:Oper):Nat:=ops.findIdx fun x=>x.dst==o.dst
def firm (ops:List Oper) (o:Oper):Bool:=(startO o.op&&firmAt ops (Zrv ops o)) || (callO o.op&&firmC ops (Zrv ops o)) || (appO o.op&&firmP ops (Zrv ops o))
def V6:Option COp→COp
 | some c=>c
 | none=>.stuck
def ZoM (nt:Nat) (ops:List Oper) (o:Oper):Option CO:=bnd (Zru ops o.guard) fun g=>
 if QT nt o.dst then some { dst:=o.dst,guard:=g,op:=V6 (cOp P o.type o.op),tl:=firm ops o } else none
end
end Go.Abs
