/- Own text. -/
import Derived.Test.YtbpekaejmjlmfaaGreatAbsBase
set_option linter.unusedVariables false
set_option linter.unusedSimpArgs false
namespace Go.Abs
open Go
def mat:List (Option Nat)→List AV→Nat→List AV×Hp
 | some s :: ts,.nil :: vs,b=>let r:=mat ts vs (b+1);(.own b :: r.1,(b,.row s [] true false) :: r.2)
 | _ :: ts,v :: vs,b=>let r:=mat ts vs b;(v :: r.1,r.2)
 | _,vs,_=>(vs,[])
def ZhL:List AV→Bool
 | []=>false
 | .nil :: _=>true
 | _ :: r=>ZhL r
structure Eff where
 val:AV
 adds:Hp:=[]
 sets:Hp:=[]
 dels:List Nat:=[]
 frz:List Nat:=[]
def Zi:Hp→Hp→Hp
 | hp,[]=>hp
 | hp,(k,o) :: r=>Zi (ins hp k o) r
def del:Hp→Nat→Hp
 | [],_=>[]
 | (k,o) :: r,t=>if k=t then del r t else (k,o) :: del r t
def Qe:Hp→List Nat→Hp
 | hp,[]=>hp
 | hp,k :: r=>Qe (del hp k) r
def Qr (ids:List Nat) (hp:Hp):Hp:=match ids with
 | []=>hp
 | _=>freeze ids hp
def Eff.on (e:Eff) (hp:Hp):Hp:=Zi (Zi (Qe (Qr e.frz hp) e.dels) e.sets) e.adds
def ZAx:List AV→Nat→List AV→List AV
 | cs,_,[]=>cs
 | cs,off,v :: r=>ZAx (cs.set off v) (off+1) r
def Zm3:List AV→List (Nat×Nat×AV)→Option (List AV)
 | cells,[]=>some cells
 | cells,q :: r=>if q.2.2.solid∧q.2.2.cells.length=q.2.1∧q.1+q.2.1≤cells.length then Zm3 (ZAx cells q.1 q.2.2.cells) r else none
def AV.atom:AV→Bool
 | .d x=>x.one
 | .agg _=>false
 | .tup _=>false
 | .clo _ _=>false
 | _=>true
def ZiA:List AV→Bool
 | []=>true
 | v :: r=>v.atom&&ZiA r
def cloV (f:Nat) (cs:List AV):Option AV:=if ZiA cs then some (.clo f cs) else none
def ZkV:AV→AV
 | .bbuf _ _=>.junk
 | v=>v
def ZbK (agg:Bool) (s off:Nat):Option Zn→Option AV
 | some (.box cs)=>if agg then (if off+s≤cs.length then some (ZaK ((cs.drop off).take s)) else none) else (cs[off]?).map ZkV
 | _=>none
def ZdB (agg:Bool) (s off:Nat) (cs:List D):Option AV:=
 if agg then (if off+s≤cs.length then some (.d (.agg ((cs.drop off).take s))) else none) else asD cs[off]?
def ZkW (agg:Bool) (s sz off:Nat) (x:D):Option AV:=if x.cells.length=sz then ZdB agg s off x.cells else none
def Zm4 (i off:Nat):Option (Option Nat×Nat×Nat)→Option AV
 | some (some nm,i',c)=>if i=i'∧off=c then some (.own nm) else none
 | _=>none
def ZaV (i off:Nat) (lk:Option (Option Nat×Nat×Nat)) (x:D):Option AV:=match x.cells[off]? with
 | some (.sl _)=>Zm4 i off lk
 | some y=>if y.plain then some (.d y) else none
 | none=>none
def ZaW (id:Nat) (agg:Bool) (s sz i off:Nat):Option Zn→Option AV
 | some (.row sz' xs _ _)=>if sz=sz' then bnd xs[i]? (ZkW agg s sz off) else none
 | some (.tree sz' _ xs lk)=>if sz=sz' then (if agg then none else bnd xs[i]? (ZaV i off lk)) else none
 | _=>none
def Jr (hp:Hp) (agg:Bool) (s:Nat):AV→Option AV
 | .ptr id off=>ZbK agg s off (lkp hp id)
 | .prow id sz i off=>ZaW id agg s sz i off (lkp hp id)
 | .pim cs=>ZdB agg s 0 cs
 | _=>none
def Zu0:AV→Option D
 | .d x=>if x.plain then some x else none
 | _=>none
def ZwN:List AV→Option (List D)
 | []=>some []
 | v :: r=>bnd (Zu0 v) fun x=>bnd (ZwN r) fun ds=>some (x :: ds)
def ZhM (slc:List (Option Nat)) (s base id off:Nat) (vs:List AV):Option Zn→Option Eff
 | some (.box cs)=>if vs.length=s∧off+s≤cs.length∧X0 vs∧XD cs=true then
    (if ZhL vs then some { val := .junk, adds := (mat slc vs base).2, sets := [(id, .box (Zw cs off (mat slc vs base).1))] }
      else some { val:=.junk,sets:=[(id,.box (Zw cs off vs))] })
   else none
 | _=>none
def D.notSl:D→Bool
 | .sl _=>false
 | _=>true
def ZiB (s id sz i off:Nat) (xs:List D) (ex:Bool) (x:D) (q:List D×Bool×List Nat):Option Eff:=
 if x.notSl∧x.cells.length=sz∧q.1.length=s∧off+s≤sz∧q.2.2.contains id=false then
  some { val:=.junk,sets:=[(id,.row sz (xs.set i (WH x off q.1)) (ex&&q.2.1) false)],frz:=q.2.2 } else none
def ZiC (n id:Nat):Option Zn→Option (D×List Nat)
 | some (.row sz xs true false)=>if sz=n∧Za7 D.flat xs then some (.sl xs,[id]) else none
 | some (.tree sz n' xs none)=>if sz=n∧n'=n then some (.sl xs,[id]) else none
 | _=>none
def ZhN (hp:Hp) (n:Nat):AV→Option (D×List Nat)
 | .d x=>if x.plain then some (x,[]) else none
 | .nil=>some (.sl [],[])
 | .own id=>ZiC n id (lkp hp id)
 | _=>none
def Ui (hp:Hp) (n:Nat):List AV→Option (List D×List Nat)
 | []=>some ([],[])
 | v :: r=>bnd (ZhN hp n v) fun q=>bnd (Ui hp n r) fun p=>if !q.2.any p.2.contains then some (q.1 :: p.1,q.2++p.2) else none
def D.isAgg:D→Bool
 | .agg _=>true
 | _=>false
def ZaX (i off s:Nat):Option (Option Nat×Nat×Nat)→Option (Option Nat×Nat×Nat)
 | some (nm,i',c)=>if i=i'∧off≤c∧c<off+s then none else some (nm,i',c)
 | none=>none
def ZiD (s id sz n i off:Nat) (xs:List D) (lk:Option (Option Nat×Nat×Nat)) (x:D) (q:List D×List Nat):Option Eff:=
 if x.isAgg∧x.cells.length=sz∧q.1.length=s∧off+s≤sz∧q.2.contains id=false then
  some { val:=.junk,sets:=[(id,.tree sz n (xs.set i (WH x off q.1)) (ZaX i off s lk))],dels:=q.2 } else none
def ZdC (hp:Hp) (s id sz i off:Nat) (vs:List AV):Option Zn→Option Eff
 | some (.row sz' xs ex false)=>if sz=sz' then bnd xs[i]? fun x=>bnd (WG hp vs) fun q=>ZiB s id sz i off xs ex x q else none
 | some (.tree sz' n xs lk)=>if sz=sz' then bnd xs[i]? fun x=>bnd (Ui hp n vs) fun q=>ZiD s id sz n i off xs lk x q else none
 | _=>none
def Zcf (hp:Hp) (slc:List (Option Nat)) (s base:Nat) (vs:List AV):AV→Option Eff
 | .ptr id off=>ZhM slc s base id off vs (lkp hp id)
 | .prow id sz i off=>ZdC hp s id sz i off vs (lkp hp id)
 | _=>none
def uni (s:Nat) (ys:List D):Prop:=∀ y∈ys,y.cells.length=s
def ZI:Nat:=140737488355328
def Q7 (ys:List D):Prop:=∀ y∈ys,y.flat=true
def Zu1 (flat:Bool):Option Zn→Option (List D×Bool)
 | some (.row _ ys ex _)=>some (ys,ex || flat)
 | _=>none
def ZqI:AV→Option (List D×Bool)
 | .d (.str s)=>some (s.map fun b=>.int .u8 b.toNat,true)
 | _=>none
def Zou (flat:Bool) (off n:Nat):Option Zn→Option (List D×Bool)
 | some (.row _ ys ex _)=>some ((ys.drop off).take n,ex || flat)
 | _=>none
def ZhO (hp:Hp) (flat:Bool):AV→Option (List D×Bool)
 | .nil=>some ([],true)
 | .d (.sl ys)=>some (ys,flat)
 | .own id=>Zu1 flat (lkp hp id)
 | .ownv id off n=>Zou flat off n (lkp hp id)
 | _=>none
def ZqJ (sz base:Nat) (dels:List Nat) (xs:List D) (ex:Bool):Eff:=
 { val:=.own base,adds:=[(base,.row sz xs ex false)],dels:=dels }
def ZqK (sz by_ base id:Nat) (ys:List D) (ex' : Bool):Option Zn→Option Eff
 | some (.row sz' xs ex false)=>if sz'=sz∧(xs.length+ys.length)*by_≤ZI∧xs.length+ys.length≤ZI then some (ZqJ sz base [id] (xs++ys) (ex&&ex')) else none
 | _=>none
def ZkX (sz by_ base id n:Nat) (ys:List D) (ex' : Bool):Option Zn→Option Eff
 | some (.row sz' xs ex false)=>if sz'=sz∧(n+ys.length)*by_≤ZI∧n+ys.length≤ZI then some (ZqJ sz base [id] (xs.take n++ys) (ex&&ex')) else none
 | _=>none
def ZkY (sz base id n:Nat) (ys:List D) (ex' : Bool):Option Zn→Option Eff
 | some (.row sz' xs ex false)=>if sz'=sz∧0<xs.length∧n+ys.length≤xs.length then
   some { val:=.ownv base 0 (n+ys.length),adds:=[(base,.row sz (xs.take n++ys++xs.drop (n+ys.length)) (ex&&ex') false)],dels:=[id] } else none
 | _=>none
def ZkZ (sz by_ base id off n:Nat) (ys:List D):Option Zn→Option Eff
 | some (.row sz' xs _ false)=>if sz'=sz∧(n+ys.length)*by_≤ZI∧n+ys.length≤ZI then some (ZqJ sz base [id] ((xs.drop off).take n++ys) false) else none
 | _=>none
def Zjl (hp:Hp) (sz by_:Nat) (base:Nat) (src:List Nat) (ys:List D) (ex' : Bool):AV→Option Eff
 | .nil=>if ys.length*by_≤ZI∧ys.length≤ZI then some (ZqJ sz base [] ys ex') else none
 | .own id=>if src.contains id then none else ZqK sz by_ base id ys ex' (lkp hp id)
 | .ownv id off n=>if off≠0 then (if src.contains id then none else ZkZ sz by_ base id off n ys (lkp hp id)) else if src.contains id then ZkY sz base id n ys ex' (lkp hp id) else ZkX sz by_ base id n ys ex' (lkp hp id)
 | _=>none
open Classical in
noncomputable def ZaY (hp:Hp) (sz by_:Nat) (str flat:Bool) (base:Nat) (s x:AV):Option Eff:=
 bnd (if str then ZqI x else ZhO hp flat x) fun q=>if uni sz q.1∧(flat=true→Q7 q.1) then Zjl hp sz by_ base (Zd9 x) q.1 q.2 s else none
def idx (i:AV):Option Int:=match i with
 | .d (.int _ n)=>some n
 | _=>none
def Zzl (sz:Nat) (y:D):Option AV:=if y.cells.length=sz then some (.pim y.cells) else none
def Zeg (sz id n:Nat):Option Zn→Option AV
 | some (.row sz' xs _ _)=>if sz'=sz∧n<xs.length then some (.prow id sz n 0) else none
 | some (.tree sz' _ xs _)=>if sz'=sz∧n<xs.length then some (.prow id sz n 0) else none
 | _=>none
def ZdD (sz id off m n:Nat):Option Zn→Option AV
 | some (.row sz' _ _ _)=>if sz'=sz∧n<m then some (.prow id sz (off+n) 0) else none
 | _=>none
def QJ (hp:Hp) (sz n:Nat):AV→Option AV
 | .d (.sl xs)=>bnd xs[n]? (Zzl sz)
 | .own id=>Zeg sz id n (lkp hp id)
 | .ownv id off m=>ZdD sz id off m n (lkp hp id)
 | _=>none
def bd (m:Nat) (v:AV):Option Nat:=bnd (idx v) fun n=>if 0≤n∧n≤m then some n.toNat else none
def hiOf (len:Nat):Option AV→Option Nat
 | none=>some len
 | some v=>bd len v
def loOf (h:Nat):Option AV→Option Nat
 | none=>some 0
 | some v=>bd h v
def Zu2 (len:Nat) (lo hi:Option AV):Option (Nat×Nat):=bnd (hiOf len hi) fun h=>bnd (loOf h lo) fun l=>some (l,h)
def ZwO (id n:Nat):Option AV→Option AV→Option AV
 | none,none=>some (.own id)
 | lo,hi=>bnd (Zu2 n lo hi) fun b=>some (.ownv id b.1 (b.2-b.1))
def ZdE (s id:Nat) (lo hi:Option AV):Option Zn→Option AV
 | some (.row sz xs _ _)=>if sz=s then ZwO id xs.length lo hi else none
 | _=>none
def ZBI (n m:Nat) (lo:Option AV):Option AV→Option (Nat×Nat)
 | none=>Zu2 n lo none
 | some h=>Zu2 m lo (some h)
def Zbs (s id off n:Nat) (lo hi:Option AV):Option Zn→Option AV
 | some (.row sz xs _ _)=>if sz=s then bnd (ZBI n (xs.length-off) lo hi) fun b=>some (.ownv id (off+b.1) (b.2-b.1)) else none
 | _=>none
def slice3 (hp:Hp) (x:AV) (lo hi mx:Option Int):Option AV:=bnd lo fun l=>bnd hi fun h=>bnd mx fun m=>bnd (ZeT hp x) fun n=>
 if 0≤l∧l≤h∧h≤m∧m≤n then some .junk else none
def Zk0 (s id off n:Nat) (z:D):Option Zn→Option Eff
 | some (.row sz xs ex false)=>if sz=s∧z.cells.length=s∧off+n≤xs.length then some { val:=.tup [],sets:=[(id,.row sz (xs.take off++List.replicate n z++xs.drop (off+n)) ex false)] } else none
 | _=>none
def Zgn (hp:Hp) (s:Nat) (z:D):AV→Option Eff
 | .ownv id off n=>Zk0 s id off n z (lkp hp id)
 | _=>none
open Classical in
noncomputable def WC (hp:Hp) (s:Nat) (lo hi:Option AV):AV→Option AV
 | .d (.sl xs)=>if uni s xs then bnd (Zu2 xs.length lo hi) fun b=>some (.d (.sl ((xs.take b.2).drop b.1))) else none
 | .nil=>bnd (Zu2 0 lo hi) fun _=>some .nil
 | .own id=>ZdE s id lo hi (lkp hp id)
 | .ownv id off n=>Zbs s id off n lo hi (lkp hp id)
 | _=>none
def sliceS (lo hi:Option AV):AV→Option AV
 | .d (.str s)=>bnd (Zu2 s.length lo hi) fun b=>some (.d (.str ((s.take b.2).drop b.1)))
 | _=>none
def slice0 (hp:Hp) (x:AV) (hi mx:Option Int):Option AV:=match hi,mx with
 | some 0,some 0=>bnd (ZeT hp x) fun _=>some .nil
 | _,_=>none
def Zk1 (agg:Bool) (s off:Nat):AV→Option AV
 | .d (.agg cs)=>ZdB agg s off cs
 | .agg cs=>if agg then (if off+s≤cs.length then some (ZaK ((cs.drop off).take s)) else none) else cs[off]?
 | _=>none
abbrev Orc:=Nat→List AV→List Zn→Option (AV×List Zn)
abbrev Zp:=Nat→Nat→Bool
def Zgo (hp:Hp) (id:Nat):Bool→Option AV
 | true=>some (.own id)
 | false=>asD (ZiQ hp (.own id))
def ZhP:Bool→Option AV
 | true=>some .nil
 | false=>some (.d (.sl []))
def Zgp (hp:Hp) (cs:List AV):Bool→Option AV
 | true=>if ZeR cs then none else some (.agg cs)
 | false=>asD (toD hp (.agg cs))
def ZdX (hp:Hp) (m:Bool):AV→Option AV
 | .ptr a b=>some (.ptr a b)
 | .clo f c=>some (.clo f c)
 | .nilp=>some .nilp
 | .nili=>some .nili
 | .pim c=>some (.pim c)
 | .own id=>Zgo hp id m
 | .nil=>ZhP m
 | .d x=>some (.d x)
 | .agg cs=>Zgp hp cs m
 | v=>asD (toD hp v)
def args (hp:Hp) (m:Nat→Bool):Nat→List AV→Option (List AV)
 | _,[]=>some []
 | i,v :: r=>bnd (ZdX hp (m i) v) fun a=>bnd (args hp m (i+1) r) fun as=>some (a :: as)
def ZaZ (hp:Hp) (go:List Nat→List Nat→List Nat) (id:Nat) (todo acc:List Nat):Option Zn→List Nat
 | some o=>go (todo++ZaL o) (acc++[id])
 | none=>go todo acc
def Xb (hp:Hp):Nat→List Nat→List Nat→List Nat
 | 0,_,acc=>acc
 | _+1,[],acc=>acc
 | n+1,id :: todo,acc=>if acc.contains id then Xb hp n todo acc else ZaZ hp (Xb hp n) id todo acc (lkp hp id)
def WK:List Nat→Nat→Nat
 | [],_=>0
 | x :: r,t=>if x=t then 0 else WK r t+1
def ZwP:Option Zn→Zn
 | some o=>o
 | none=>.gone
def ZeV (hp:Hp):List Nat→List Zn
 | []=>[]
 | id :: r=>ZwP (lkp hp id) :: ZeV hp r
def Zb3 (ids:List Nat) (o:Zn):Zn:=ZkB (WK ids) (Xt ((ZaL o).filter fun i=>!ids.contains i) o)
def ZhQ:Option Zn→Bool
 | some (.row _ _ _ _)=>true
 | some (.tree _ _ _ _)=>true
 | some .gone=>true
 | _=>false
def ZdF:AV→Bool
 | .d x=>x.flat
 | .pim _=>false
 | .agg _=>false
 | .tup _=>false
 | .clo _ _=>false
 | _=>true
def ZeW:AV→Bool
 | .agg cs=>cs.all ZdF
 | .clo _ cs=>cs.all ZdF
 | v=>ZdF v
def Ztz:AV→Bool
 | .tup vs=>vs.all ZeW
 | v=>ZeW v
def ZhR:Zn→Bool
 | .box cs=>cs.all ZeW
 | .row _ _ ex fz=>ex&&!fz
 | .tree _ _ _ _=>true
 | .gone=>true
def ZjS (d:Nat):Option Nat→Nat
 | some i=>i
 | none=>d
def Uj (ids:List Nat) (base k:Nat):Nat:=ZjS (base+(k-ids.length)) ids[k]?
def ZdG (g:Nat→Nat):List Nat→List Zn→Hp
 | id :: ids,o :: os=>(id,ZkB g o) :: ZdG g ids os
 | _,_=>[]
def ZdH (g:Nat→Nat):Nat→List Zn→Hp
 | _,[]=>[]
 | k,o :: os=>(k,ZkB g o) :: ZdH g (k+1) os
structure Zf where
 eff:Eff
 gone:List Nat
def X9 (_hp:Hp):Nat:=1000
def Ve:List AV→List AV→List Nat
 | v :: vs,.d _ :: as=>Zgc v++Ve vs as
 | _ :: vs,_ :: as=>Ve vs as
 | _,_=>[]
def ZdI:Option Zn→Bool
 | some (.tree _ _ _ _)=>true
 | _=>false
def Zmd:List Nat→List Zn→List Nat
 | id :: ids,.gone :: os=>id :: Zmd ids os
 | _ :: ids,_ :: os=>Zmd ids os
 | _,_=>[]
def Zme (hp:Hp) (ids:List Nat) (out:List Zn):Bool→List Nat
 | true=>Zmd ids out
 | false=>ids.filter fun i=>ZhQ (lkp hp i)
def Zb4 (keep:Bool) (hp:Hp) (base:Nat) (ids lent:List Nat) (r:AV) (out:List Zn):Option Zf:=
 if out.length<ids.length then none else if !(Ztz r&&out.all ZhR)&&lent.any fun i=>ZdI (lkp hp i) then none else
  some { eff := { val:=ren (Uj ids base) r,adds:=ZdH (Uj ids base) base (out.drop ids.length),sets:=ZdG (Uj ids base) ids out,frz:=if Ztz r&&out.all ZhR then [] else lent },gone:=Zme hp ids out keep }
def Zbc:AV→List Nat
 | .ptr id _=>[id]
 | .clo _ cs=>cs.flatMap Zo
 | _=>[]
def ZcA (hp:Hp) (rs ids:List Nat):Bool:=ids.all fun i=>ZhQ (lkp hp i) || rs.contains i
def Zgq (C:Orc) (keep:Bool) (hp:Hp) (base f:Nat) (lent:List Nat) (as:List AV) (ids:List Nat):Option Zf:=
 if (as.flatMap Zy).all ids.contains∧¬lent.any ids.contains∧ZcA hp (as.flatMap Zbc) ids=true then
  bnd (C f (as.map (ren (WK ids))) ((ZeV hp ids).map (Zb3 ids))) fun q=>Zb4 keep hp base ids lent q.1 q.2
 else none
def Zeh (C:Orc) (m:Nat→Bool) (hp:Hp) (base f:Nat) (avs:List AV):Option Zf:=
 bnd (args hp m 0 avs) fun as=>Zgq C (m 99) hp base f (Ve avs as) as (Xb hp (X9 hp) (as.flatMap Zy) [])
def QD (v:AV):Option Zf:=some { eff := { val:=v },gone:=[] }
def WP (v:Option AV):Option Zf:=bnd v QD
def Zg0 (e:Option Eff):Option Zf:=bnd e fun e=>some { eff:=e,gone:=[] }
def Zgr (base:Nat) (e:Option Nat):AV→Option Zf
 | .nil=>bnd e fun s=>some { eff := { val:=.own base,adds:=[(base,.row s [] true false)] },gone:=[] }
 | v=>QD v
def ZhS (a b:AV):AV→Option Zf
 | .d (.bool t)=>if t then QD a else QD b
 | _=>none
def ZiS (base:Nat):AV→AV
 | .bnil _ e=>.bnil base e
 | v=>v
def bnT (t te:Nat):List AV→List AV
 | [.nilp,.nil]=>[.bnil 0 t,.bbuf te []]
 | cs=>cs
def ZBJ:List AV→Bool
 | [.bnil _ _,.bbuf _ []]=>true
 | _=>false
def ZqL (slc:List (Option Nat)) (base:Nat) (cs:List AV):Option Zf:=
 if XD cs=false then (if ZBJ cs=true then some { eff := { val:=.ptr base 0,adds:=[(base,.box cs)] },gone:=[] } else none) else
 if ZhL cs then some { eff := { val:=.ptr base 0,adds:=(base,.box (mat slc cs (base+1)).1) :: (mat slc cs (base+1)).2 },gone:=[] }
 else some { eff := { val:=.ptr base 0,adds:=[(base,.box cs)] },gone:=[] }
def ZhT (slc:List (Option Nat)) (base:Nat) (cs:List AV):Option Zf:=ZqL slc base (cs.map (ZiS base))
def ZAy (base:Nat) (x:AV):Option Zf:=if x.solid&&XD x.cells then some { eff := { val:=.ptr base 0,adds:=[(base,.box x.cells)] },gone:=[] } else none
def ZqM (zs:List AV) (ps:List (Nat×Nat×AV)):Option Zf:=bnd (Zm3 zs ps) fun cs=>QD (ZaK cs)
def ZAz (base s:Nat) (q:List D×Bool×List Nat):Option Zf:=
 if q.1.all (fun d=>d.cells.length==s) then some { eff := { val:=.own base,adds:=[(base,.row s q.1 q.2.1 false)],frz:=q.2.2 },gone:=[] } else none
def buildSl (hp:Hp) (base s:Nat):List AV→Option Zf
 | []=>QD .nil
 | v :: vs=>bnd (UN hp (v :: vs)) (ZAz base s)
def JE (hp:Hp) (n s:Nat):List AV→Option (List D×List Nat)
 | []=>some ([],[])
 | .agg cs :: r=>bnd (Ui hp n cs) fun q=>bnd (JE hp n s r) fun p=>
   if q.1.length=s∧(!q.2.any p.2.contains)=true then some (.agg q.1 :: p.1,q.2++p.2) else none
 | _=>none
def asgT (base s n:Nat):AV→Option Zf
 | .nil=>some { eff := { val:=.own base,adds:=[(base,.tree s n [] none)] },gone:=[] }
 | _=>none
def buildT (hp:Hp) (base s n:Nat) (vs:List AV):Option Zf:=
 if vs.isEmpty=false then bnd (JE hp n s vs) fun q=>some { eff := { val:=.own base,adds:=[(base,.tree s n q.1 none)],dels:=q.2 },gone:=[] } else none
def Zbt:AV→Option Zf
 | .ptr a b=>QD (.ptr a b)
 | .prow a b c d=>QD (.prow a b c d)
 | .pim c=>QD (.pim c)
 | .clo f c=>QD (.clo f c)
 | _=>none
def ZjT (op:BinOp) (eq:Bool):AV→AV→Option Zf
 | .d (.bool a),.d (.bool b)=>if eq then WP (Zs7 op a b) else none
 | a,b=>WP (vbin op a b)
def Za8:List Nat→List D→List D→Option Bool
 | [],[],[]=>some true
 | 0 :: ks,.int k a :: cs,.int k' b :: ds=>if k=k' then bnd (Za8 ks cs ds) fun r=>some (decide (a=b)&&r) else none
 | 1 :: ks,.bool a :: cs,.bool b :: ds=>bnd (Za8 ks cs ds) fun r=>some (decide (a=b)&&r)
 | 2 :: ks,.str a :: cs,.str b :: ds=>bnd (Za8 ks cs ds) fun r=>some (decide (a=b)&&r)
 | _,_,_=>none
def ZqN (neg:Bool) (r:Bool):Bool:=if neg then !r else r
def Zu3 (neg:Bool) (ks:List Nat):AV→AV→Option Zf
 | .d (.agg cs),.d (.agg ds)=>bnd (Za8 ks cs ds) fun r=>QD (.d (.bool (ZqN neg r)))
 | _,_=>none
def convI (k:IntKind):AV→Option Zf
 | .d (.int _ n)=>QD (.d (.int k (k.wrap n)))
 | _=>none
def convS:AV→Option Zf
 | .d (.str s)=>QD (.d (.str s))
 | _=>none
def ZtA (base s b:Nat) (z:D) (l c:Int):Option Zf:=
 if 0≤l∧l≤c∧c*b≤ZI∧c≤ZI∧z.cells.length=s then
  some { eff := { val:=.own base,adds:=[(base,.row s (List.replicate l.toNat z) true false)] },gone:=[] } else none
def makeT (base s b ns:Nat) (z:D) (l c:Int):Option Zf:=
 if 0≤l∧l≤c∧c*b≤ZI∧c≤ZI∧z.cells.length=s∧z.isAgg=true then
  some { eff := { val:=.own base,adds:=[(base,.tree s ns (List.replicate l.toNat z) none)] },gone:=[] } else none
def Uk (off:Nat):AV→Option Zf
 | .ptr id o=>QD (.ptr id (o+off))
 | .prow id sz i o=>QD (.prow id sz i (o+off))
 | .pim cs=>QD (.pim (cs.drop off))
 | _=>none
def ZqO (x:AV) (n:Int) (len s:Nat):Option Zf:=if 0≤n∧n<len then Uk (n.toNat*s) x else none
def Zjm (hp:Hp) (s:Nat) (x:AV) (n:Int):Option Zf:=if 0≤n then WP (QJ hp s n.toNat x) else none
def ZwQ (s:List UInt8) (n:Int):Option Zf:=if 0≤n then bnd s[n.toNat]? fun b=>QD (.d (.int .u8 b.toNat)) else none
def ZAA (g:Bool) (s len:Nat) (n:Int) (v:AV):Option Zf:=if 0≤n∧n<len then WP (Zk1 g s (n.toNat*s) v) else none
def Zyg (n:Int):AV→Option Zf
 | .d (.str s)=>ZwQ s n
 | _=>none
def ZwR (i:Nat):AV→Option Zf
 | .tup vs=>WP vs[i]?
 | _=>none
def Zmf:Option Zn→Option (Nat×Nat×List D)
 | some (.tree s n xs none)=>some (s,n,xs)
 | _=>none
def Zei (hp:Hp):AV→Option (Nat×Nat×Nat×List D)
 | .own id=>bnd (Zmf (lkp hp id)) fun q=>some (id,q)
 | _=>none
def ZcB (hp:Hp) (s b base id n:Nat) (ys:List D):AV→Option Eff
 | .nil=>if ys.length*b≤ZI∧ys.length≤ZI then some { val:=.own base,adds:=[(base,.tree s n ys none)],dels:=[id] } else none
 | .own id1=>bnd (Zmf (lkp hp id1)) fun q=>if q.1=s∧q.2.1=n∧id1≠id∧(q.2.2.length+ys.length)*b≤ZI∧q.2.2.length+ys.length≤ZI then
   some { val:=.own base,adds:=[(base,.tree s n (q.2.2++ys) none)],dels:=[id1,id] } else none
 | _=>none
def Za0 (xs:List D) (i c:Nat):Option (List D):=bnd xs[i]? fun x=>match x.cells[c]? with
 | some (.sl ys)=>some ys
 | _=>none
def Ya (hp:Hp):AV→List Nat
 | .own id=>if ZdI (lkp hp id) then [id] else []
 | _=>[]
def Zk2:Zn→Zn
 | .tree s _ xs none=>.row s xs true false
 | o=>o
def meltIn (hp:Hp):List Nat→Hp
 | []=>hp
 | i :: r=>match lkp hp i with
  | some o=>ins (meltIn hp r) i (Zk2 o)
  | none=>meltIn hp r
noncomputable def V3 (hp:Hp) (s b:Nat) (str flat:Bool) (base:Nat) (x y:AV):List Nat→Option Eff
 | []=>ZaY hp s b str flat base x y
 | i :: r=>if flat then none else bnd (ZaY (meltIn hp (i :: r)) s b str flat base x y) fun e=>some { val:=e.val,adds:=e.adds,sets:=e.sets,dels:=e.dels++(i :: r),frz:=e.frz }
def appT (hp:Hp) (s b base:Nat) (x y:AV):Option Zf:=Zg0 (bnd (Zei hp y) fun q=>if q.2.1=s then ZcB hp s b base q.1 q.2.2.1 q.2.2.2 x else none)
noncomputable def ZeX (hp:Hp) (s b:Nat) (str flat:Bool) (base:Nat) (x y:AV):List Nat→List Nat→Option Zf
 | [],m=>Zg0 (V3 hp s b str flat base x y m)
 | i :: r,[]=>Zg0 (V3 hp s b str flat base x y (i :: r))
 | _ :: _,_ :: _=>if flat || str then none else appT hp s b base x y
noncomputable def ZwS (hp:Hp) (s b:Nat) (str flat:Bool) (base:Nat) (x y:AV):Option Zf:=ZeX hp s b str flat base x y (Ya hp x) (Ya hp y)
def Zm5:AV→AV→Option Zf
 | .d (.int k a),.d (.int k' b)=>if k=k' then QD (.d (.int k (minI a b))) else none
 | _,_=>none
def Zm6:AV→AV→Option Zf
 | .d (.int k a),.d (.int k' b)=>if k=k' then QD (.d (.int k (maxI a b))) else none
 | _,_=>none
inductive Opd where
 | t (n:Nat)
 | v (a:AV)
 | f (n:Nat)
def evO (sl:Sl):Opd→AV
 | .t n=>gs sl n
 | .v a=>a
 | .f n=>.clo n []
def evL (sl:Sl):List Opd→List AV
 | []=>[]
 | x :: r=>evO sl x :: evL sl r
def evP (sl:Sl):List (Nat×Nat×Opd)→List (Nat×Nat×AV)
 | []=>[]
 | (a,b,x) :: r=>(a,b,evO sl x) :: evP sl r
def evM (sl:Sl):Option Opd→Option AV
 | none=>none
 | some x=>some (evO sl x)
inductive COp where
 | move (x:Opd)
 | assign (s:Option Nat) (x:Opd)
 | pick (c a b:Opd)
 | alloc (slc:List (Option Nat)) (cs:List AV)
 | box (x:Opd)
 | build (zs:List AV) (ps:List (Nat×Nat×Opd))
 | buildSl (s:Nat) (xs:List Opd)
 | load (g:Bool) (s:Nat) (a:Opd)
 | store (slc:List (Option Nat)) (s:Nat) (a x:Opd)
 | nilCheck (x:Opd)
 | bin (op:BinOp) (eq:Bool) (x y:Opd)
 | un (op:UnOp) (x:Opd)
 | eqA (neg:Bool) (ks:List Nat) (x y:Opd)
 | convI (k:IntKind) (x:Opd)
 | convS (x:Opd)
 | fn (f:Nat) (caps:List Opd)
 | make (s b:Nat) (z:D) (l c:Opd)
 | slice (s:Nat) (x:Opd) (lo hi:Option Opd)
 | sliceS (x:Opd) (lo hi:Option Opd)
 | slice0 (x hi mx:Opd)
 | shift (off:Nat) (x:Opd)
 | part (g:Bool) (s off:Nat) (x:Opd)
 | iaS (s:Nat) (x i:Opd)
 | iaA (len s:Nat) (x i:Opd)
 | ixS (x i:Opd)
 | ixA (g:Bool) (s len:Nat) (x i:Opd)
 | nth (i:Nat) (x:Opd)
 | len (x:Opd)
 | lenS (x:Opd)
 | append (s b:Nat) (str flat:Bool) (x y:Opd)
 | min (x y:Opd)
 | max (x y:Opd)
 | call (f:Opd) (as:List Opd)
 | slice3 (s:Nat) (x lo hi mx:Opd)
 | clear (s:Nat) (z:D) (x:Opd)
 | stuck
 | buildT (s n:Nat) (xs:List Opd)
 | appT (s b:Nat) (flat:Bool) (x y:Opd)
 | asgT (s n:Nat) (x:Opd)
 | makeT (s b n:Nat) (z:D) (l c:Opd)
structure CO where
 dst:Option Nat
 guard:Option (Nat×Bool)
 op:COp
 tl:Bool
def ZeY (C:Orc) (M:Zp) (hp:Hp) (base:Nat) (as:List AV):AV→Option Zf
 | .clo g caps=>Zeh C (M g) hp base g (as++caps)
 | _=>none
noncomputable def vop (C:Orc) (M:Zp) (sl:Sl) (hp:Hp) (base:Nat):COp→Option Zf
 | .move x=>QD (evO sl x)
 | .assign s x=>Zgr base s (evO sl x)
 | .pick c a b=>ZhS (evO sl a) (evO sl b) (evO sl c)
 | .alloc slc cs=>ZhT slc base cs
 | .box x=>ZAy base (evO sl x)
 | .build zs ps=>ZqM zs (evP sl ps)
 | .buildSl s xs=>buildSl hp base s (evL sl xs)
 | .load g s a=>WP (Jr hp g s (evO sl a))
 | .store slc s a x=>Zg0 (Zcf hp slc s base (evO sl x).cells (evO sl a))
 | .nilCheck x=>Zbt (evO sl x)
 | .bin op eq x y=>ZjT op eq (evO sl x) (evO sl y)
 | .un op x=>WP (vun op (evO sl x))
 | .eqA neg ks x y=>Zu3 neg ks (evO sl x) (evO sl y)
 | .convI k x=>convI k (evO sl x)
 | .convS x=>convS (evO sl x)
 | .fn f cs=>WP (cloV f (evL sl cs))
 | .make s b z l c=>bnd (idx (evO sl l)) fun l=>bnd (idx (evO sl c)) fun c=>ZtA base s b z l c
 | .slice s x lo hi=>WP (WC hp s (evM sl lo) (evM sl hi) (evO sl x))
 | .sliceS x lo hi=>WP (sliceS (evM sl lo) (evM sl hi) (evO sl x))
 | .slice0 x hi mx=>WP (slice0 hp (evO sl x) (idx (evO sl hi)) (idx (evO sl mx)))
 | .shift off x=>Uk off (evO sl x)
 | .part g s off x=>WP (Zk1 g s off (evO sl x))
 | .iaS s x i=>bnd (idx (evO sl i)) fun n=>Zjm hp s (evO sl x) n
 | .iaA len s x i=>bnd (idx (evO sl i)) fun n=>ZqO (evO sl x) n len s
 | .ixS x i=>bnd (idx (evO sl i)) fun n=>Zyg n (evO sl x)
 | .ixA g s len x i=>bnd (idx (evO sl i)) fun n=>ZAA g s len n (evO sl x)
 | .nth i x=>ZwR i (evO sl x)
 | .len x=>bnd (ZeT hp (evO sl x)) fun n=>QD (.d (.int .i64 n))
 | .lenS x=>bnd (ZzX (evO sl x)) fun n=>QD (.d (.int .i64 n))
 | .append s b str flat x y=>ZwS hp s b str flat base (evO sl x) (evO sl y)
 | .min x y=>Zm5 (evO sl x) (evO sl y)
 | .max x y=>Zm6 (evO sl x) (evO sl y)
 | .call f as=>ZeY C M hp base (evL sl as) (evO sl f)
 | .slice3 _ x lo hi mx=>WP (slice3 hp (evO sl x) (idx (evO sl lo)) (idx (evO sl hi)) (idx (evO sl mx)))
 | .clear s z x=>Zg0 (Zgn hp s z (evO sl x))
 | .stuck=>none
 | .buildT s n xs=>buildT hp base s n (evL sl xs)
 | .appT s b _ x y=>appT hp s b base (evO sl x) (evO sl y)
 | .asgT s n x=>asgT base s n (evO sl x)
 | .makeT s b n z l c=>bnd (idx (evO sl l)) fun l=>bnd (idx (evO sl c)) fun c=>makeT base s b n z l c
section
variable (P:Program)
def Yr (t:TypeId):Option TypeId:=match P.underlying t with
 | some (.slice e)=>some e
 | _=>none
def Zbu (t:TypeId):Bool:=match P.underlying t with
 | some .string=>true
 | _=>false
def ZiE (t:TypeId):Bool:=match P.underlying t with
 | some .bool=>true
 | _=>false
def ZAB (t:TypeId):Option IntKind:=match P.underlying t with
 | some (.int k)=>some k
 | _=>none
def ZjU (t:TypeId):Option (Nat×TypeId):=match P.underlying t with
 | some (.array n e)=>some (n,e)
 | _=>none
def Zfq (t:TypeId):Option Bool:=match P.underlying t with
 | some (.struct _)=>some true
 | some (.array _ _)=>some true
 | some _=>some false
 | none=>none
def Zgs (s:TypeId) (f:Nat):Option (Nat×TypeId):=match P.underlying s with
 | some (.struct fs)=>match fs[f]? with
  | some x=>if P.cellsOf x.type=0 then none else some (x.offset,x.type)
  | none=>none
 | _=>none
def Zb5 (t:TypeId):Option Value:=match P.info? t with
 | some i=>i.zero
 | none=>none
def Zzm:Nat→TypeId→List TypeId
 | 0,t=>[t]
 | n+1,t=>match P.underlying t with
  | some (.struct fs)=>fs.toList.flatMap fun f=>Zzm n f.type
  | some (.array k e)=>(List.replicate k (Zzm n e)).flatten
  | _=>[t]
def slcT (t:TypeId):List (Option Nat):=(Zzm P 4 t).map fun c=>(Yr P c).map P.cellsOf
def flatE (t:TypeId):Bool:=(Zzm P 4 t).all fun c=>match P.underlying c with
 | some (.int _)=>true
 | some .bool=>true
 | some .string=>true
 | _=>false
def ZdJ:Nat→TypeId→Nat→Option (List (Nat×Nat))
 | 0,_,_=>none
 | n+1,t,off=>match P.underlying t with
  | some (.int _)=>if P.cellsOf t=1 then some [(off,0)] else none
  | some .bool=>if P.cellsOf t=1 then some [(off,1)] else none
  | some .string=>if P.cellsOf t=1 then some [(off,2)] else none
  | some (.struct fs)=>if P.stoodInHeld t then none else
    bnd (QH (fun f:Field=>if f.name = "_"∨P.cellsOf t<f.offset+P.cellsOf f.type then none else ZdJ n f.type (off+f.offset)) fs.toList) fun ls=>some ls.flatten
  | _=>none
def X6 (t:TypeId):Bool:=match P.underlying t with
 | some (.struct _)=>true
 | _=>false
def ZwT (t:TypeId):Option (List Nat):=bnd (ZdJ P 5 t 0) fun ls=>
 if ls.map (·.1)=List.range (P.cellsOf t)∧X6 P t=true∧P.eqGuardType P.depth t=false then some (ls.map (·.2)) else none
def ZwU (neg:Bool) (op:BinOp) (t:TypeId) (x y:Opd):Option (List Nat)→COp
 | some ks=>.eqA neg ks x y
 | none=>.bin op (ZiE P t) x y
def Zyh (op:BinOp) (t:TypeId) (x y:Opd):COp:=match op with
 | .eql=>ZwU P false .eql t x y (ZwT P t)
 | .neq=>ZwU P true .neq t x y (ZwT P t)
 | op=>.bin op (ZiE P t) x y
end
section
variable (P:Program)
def Z4:Operand→Option Opd
 | .tmp t=>some (.t t)
 | .const v=>some (.v (evC v))
 | .global _=>none
 | .func f=>some (.f f)
def ZwV (pl:Nat→Option (Nat×Nat)) (q:Nat×Operand):Option (Nat×Nat×Opd):=bnd (pl q.1) fun p=>bnd (Z4 q.2) fun x=>some (p.1,p.2,x)
def cOO:Option Operand→Option (Option Opd)
 | none=>some none
 | some x=>bnd (Z4 x) fun y=>some (some y)
def Zgt (t:TypeId):Option (Nat×TypeId)→Nat→Option (Nat×Nat)
 | none,i=>bnd (Zgs P t i) fun q=>some (q.1,P.cellsOf q.2)
 | some a,i=>some (i*P.cellsOf a.2,P.cellsOf a.2)
def U2 (t:TypeId):Bool:=match P.info? t with
 | some i=>(match i.zero with
  | some z=>z.cells.size==i.size&&decide (0<i.size)
  | none=>false)
 | none=>false
def Zk3 (t:TypeId):Bool:=match P.underlying t with
 | some (.struct fs)=>fs.toList.all fun f=>(P.info? f.type).isSome
 | some (.array _ e)=>(P.info? e).isSome
 | _=>false
def Zm7 (e:TypeId) (u:TypeId):Option Bool:=match Yr P u with
 | some e'=>if e'=e then some false else none
 | none=>if Zbu P u then some true else none
def ZqP (x i:Opd) (a:Option (Nat×TypeId)):Option TypeId→Option COp
 | some e=>if (P.info? e).isSome then some (.iaS (P.cellsOf e) x i) else none
 | none=>bnd a fun a=>if (P.info? a.2).isSome then some (.iaA a.1 (P.cellsOf a.2) x i) else none
def Zu4 (x i:Opd) (str:Bool) (a:Option (Nat×TypeId)):Option COp:=
 if str then some (.ixS x i) else bnd a fun a=>bnd (Zfq P a.2) fun g=>some (.ixA g (P.cellsOf a.2) a.1 x i)
def Zzn (x:Opd) (ss sd:Bool):Option IntKind→Option IntKind→Option COp
 | some _,some k=>some (.convI k x)
 | _,_=>if ss&&sd then some (.convS x) else none
def cLen (x:Opd) (str:Bool):Option TypeId→Option COp
 | some _=>some (.len x)
 | none=>if str then some (.lenS x) else none
def Zyi (x:Opd) (lo hi:Option Opd) (str:Bool):Option TypeId→Option COp
 | some e=>if (P.info? e).isSome then some (.slice (P.cellsOf e) x lo hi) else none
 | none=>if str then some (.sliceS x lo hi) else none
def ZdK:Builtin→List Operand→List TypeId→Option COp
 | .len,[x],[t]=>bnd (Z4 x) fun x=>cLen x (Zbu P t) (Yr P t)
 | .append,[s,x],[t,u]=>bnd (Yr P t) fun e=>bnd (Zm7 P e u) fun str=>bnd (Z4 s) fun s=>bnd (Z4 x) fun x=>
   if U2 P e then some (.append (P.cellsOf e) (P.bytesOf e) str (flatE P e) s x) else none
 | .min,[x,y],_=>bnd (Z4 x) fun x=>bnd (Z4 y) fun y=>some (.min x y)
 | .max,[x,y],_=>bnd (Z4 x) fun x=>bnd (Z4 y) fun y=>some (.max x y)
 | .clear,[x],[t]=>bnd (Yr P t) fun e=>bnd (Z4 x) fun x=>bnd (Zb5 P e) fun z=>bnd (evD z) fun z=>if U2 P e then some (.clear (P.cellsOf e) z x) else none
 | _,_,_=>none
def teOf (t:TypeId):Nat:=match bnd (Zgs P t 1) fun q=>Yr P q.2 with
 | some e=>e
 | none=>0
def cOp (ty:TypeId):Op→Option COp
 | .move x=>bnd (Z4 x) fun x=>some (.move x)
 | .assign x=>bnd (Z4 x) fun x=>some (.assign (bnd (Yr P ty) fun e=>some (P.cellsOf e)) x)
 | .pick c a b=>bnd (Z4 c) fun c=>bnd (Z4 a) fun a=>bnd (Z4 b) fun b=>some (.pick c a b)
 | .alloc t=>bnd (Zb5 P t) fun z=>some (.alloc (slcT P t) (bnT t (teOf P t) (evC z).cells))
 | .box _ x=>bnd (Z4 x) fun x=>some (.box x)
 | .build t ps=>bnd (Zb5 P t) fun z=>bnd (QH (ZwV (Zgt P t (ZjU P t))) ps.toList) fun qs=>if Zk3 P t then some (.build (evC z).cells qs) else none
 | .buildSlice t n ps=>bnd (Yr P t) fun e=>bnd (QH (fun q:Nat×Operand=>Z4 q.2) ps.toList) fun xs=>
   if ps.toList.map (·.1)=List.range n∧n*P.cellsOf e≤16777216∧U2 P e then some (.buildSl (P.cellsOf e) xs) else none
 | .load t a=>bnd (Zfq P t) fun g=>bnd (Z4 a) fun a=>some (.load g (P.cellsOf t) a)
 | .store t a x=>bnd (Z4 a) fun a=>bnd (Z4 x) fun x=>if (P.info? t).isSome then some (.store (slcT P t) (P.cellsOf t) a x) else none
 | .nilCheck x=>bnd (Z4 x) fun x=>some (.nilCheck x)
 | .binOp op t x y _=>bnd (Z4 x) fun x=>bnd (Z4 y) fun y=>some (Zyh P op t x y)
 | .unOp op _ x=>bnd (Z4 x) fun x=>some (.un op x)
 | .convert s d x=>bnd (Z4 x) fun x=>Zzn x (Zbu P s) (Zbu P d) (ZAB P s) (ZAB P d)
 | .makeFunc (.func f) fs cs=>if fs.toList.isEmpty then bnd (QH Z4 cs.toList) fun cs=>some (.fn f cs) else none
 | .makeSlice t l c=>bnd (Yr P t) fun e=>bnd (Z4 l) fun l=>bnd (Z4 c) fun c=>bnd (Zb5 P e) fun z=>bnd (evD z) fun z=>if U2 P e then some (.make (P.cellsOf e) (P.bytesOf e) z l c) else none
 | .slice t x lo hi none=>bnd (Z4 x) fun x=>bnd (cOO lo) fun lo=>bnd (cOO hi) fun hi=>Zyi P x lo hi (Zbu P t) (Yr P t)
 | .slice t x none (some hi) (some mx)=>bnd (Yr P t) fun e=>if (P.info? e).isSome then bnd (Z4 x) fun x=>bnd (Z4 hi) fun hi=>bnd (Z4 mx) fun mx=>some (.slice0 x hi mx) else none
 | .slice t x (some lo) (some hi) (some mx)=>bnd (Yr P t) fun e=>if (P.info? e).isSome then bnd (Z4 x) fun x=>bnd (Z4 lo) fun lo=>bnd (Z4 hi) fun hi=>bnd (Z4 mx) fun mx=>some (.slice3 (P.cellsOf e) x lo hi mx) else none
 | .fieldAddr s x f=>bnd (Zgs P s f) fun q=>bnd (Z4 x) fun x=>some (.shift q.1 x)
 | .field t x f=>bnd (Zgs P t f) fun q=>bnd (Zfq P q.2) fun g=>bnd (Z4 x) fun x=>some (.part g (P.cellsOf q.2) q.1 x)
 | .indexAddr t x i=>bnd (Z4 x) fun x=>bnd (Z4 i) fun i=>ZqP P x i (ZjU P t) (Yr P t)
 | .index t x i=>bnd (Z4 x) fun x=>bnd (Z4 i) fun i=>Zu4 P x i (Zbu P t) (ZjU P t)
 | .extract x i=>bnd (Z4 x) fun x=>some (.nth i x)
 | .call { callee:=.builtin b,args:=as,argTypes:=ts }=>ZdK P b as.toList ts.toList
 | .call { callee:=.value f,args:=as,argTypes:=_ }=>bnd (Z4 f) fun f=>bnd (QH Z4 as.toList) fun as=>some (.call f as)
 | _=>none
def ZqQ (ops:List Oper):Option (Nat×Bool)→Option (Option (Nat×Bool))
 | none=>some none
 | some q=>bnd ops[q.1]? fun g=>bnd g.dst fun t=>some (some (t,q.2))
def QX (nt:Nat):Option Nat→Bool
 | none=>true
 | some t=>decide (t<nt)
def WL (ops:Array Oper) (i:Nat):List Nat:=match ops[i]? with
 | some o=>(o.after.toList.filter fun e=>Region.binds .any e).map fun e=>e.on
 | none=>[]
def ZjV (ops:Array Oper):Nat→Nat→Nat→Bool
 | 0,i,j=>(WL ops i).contains j
 | n+1,i,j=>(WL ops i).contains j || (WL ops i).any fun z=>ZjV ops n z j
def startO:Op→Bool
 | .call { callee:=.builtin .append,args:=_,argTypes:=_ }=>true
 | .buildSlice _ _ _=>true
 | _=>false
def callO:Op→Bool
 | .call { callee:=.value (.func _),args:=_,argTypes:=_ }=>true
 | _=>false
def ZBK:Op→Bool
 | .move _=>true
 | _=>false
def aheadO:Op→Bool
 | .store _ _ _=>false
 | .box _ _=>false
 | .assign _=>false
 | .makeFunc _ _ _=>false
 | .makeSlice _ _ _=>false
 | .call { callee:=.builtin .append,args:=_,argTypes:=_ }=>false
 | .call { callee:=.value _,args:=_,argTypes:=_ }=>false
 | _=>true
def ZDb:Op→Bool
 | .move _=>true
 | .alloc _=>true
 | .buildSlice _ _ _=>true
 | .load _ _=>true
 | .nilCheck _=>true
 | .binOp _ _ _ _ _=>true
 | .unOp _ _ _=>true
 | .convert _ _ _=>true
 | .fieldAddr _ _ _=>true
 | .indexAddr _ _ _=>true
 | .slice _ _ _ _ _=>true
 | .call { callee:=.builtin .len,args:=_,argTypes:=_ }=>true
 | _=>false
def appO:Op→Bool
 | .call { callee:=.builtin .append,args:=_,argTypes:=_ }=>true
 | _=>false
def lookO:Op→Bool
 | .move _=>true
 | .load _ _=>true
 | .nilCheck _=>true
 | .binOp _ _ _ _ _=>true
 | .convert _ _ _=>true
 | .fieldAddr _ _ _=>true
 | .field _ _ _=>true
 | .extract _ _=>true
 | .indexAddr _ _ _=>true
 | .slice _ _ _ _ _=>true
 | .call { callee:=.builtin .len,args:=_,argTypes:=_ }=>true
 | _=>false
def atO (f:Op→Bool) (ops:List Oper) (k:Nat):Bool:=match ops[k]? with
 | some o=>f o.op
 | none=>false
def firmAt (ops:List Oper) (i:Nat):Bool:=
 (List.range ops.length).all fun k=>if k<i then ZjV ops.toArray 6 i k || atO ZBK ops k else k==i || ZjV ops.toArray 6 k i || atO ZBK ops k
def firmP (ops:List Oper) (i:Nat):Bool:=
 (List.range ops.length).all fun k=>if k<i then ZjV ops.toArray 6 i k || atO lookO ops k else k==i || ZjV ops.toArray 6 k i || atO ZBK ops k
def firmC (ops:List Oper) (i:Nat):Bool:=
 (List.range ops.length).all fun k=>if k<i then ZjV ops.toArray 6 i k || atO aheadO ops k else k==i || ZjV ops.toArray 6 k i || atO ZDb ops k
def ZqR (ops:List Oper) (o:Oper):Nat:=ops.findIdx fun x=>x.dst==o.dst
def firm (ops:List Oper) (o:Oper):Bool:=(startO o.op&&firmAt ops (ZqR ops o)) || (callO o.op&&firmC ops (ZqR ops o)) || (appO o.op&&firmP ops (ZqR ops o))
def WM:Option COp→COp
 | some c=>c
 | none=>.stuck
def Zm8 (nt:Nat) (ops:List Oper) (o:Oper):Option CO:=bnd (ZqQ ops o.guard) fun g=>
 if QX nt o.dst then some { dst:=o.dst,guard:=g,op:=WM (cOp P o.type o.op),tl:=firm ops o } else none
end
end Go.Abs
