/- The abstract semantics: operations,regions,codes,calls. Own text. -/
import Derived.Test.YtkdjbefmiiibpaaGreatDoorAbsBase
set_option linter.unusedVariables false
set_option linter.unusedSimpArgs false
namespace Go.Abs
open Go
def mat:List (Option Nat)→List AV→Nat→List AV×Hp
 | some s :: ts,.nil :: vs,b=>let r:=mat ts vs (b+1);(.own b :: r.1,(b,.row s [] true false) :: r.2)
 | _ :: ts,v :: vs,b=>let r:=mat ts vs b;(v :: r.1,r.2)
 | _,vs,_=>(vs,[])
def Zi7:List AV→Bool
 | []=>false
 | .nil :: _=>true
 | _ :: r=>Zi7 r
structure Eff where
 val:AV
 adds:Hp:=[]
 sets:Hp:=[]
 dels:List Nat:=[]
 frz:List Nat:=[]
def Zf:Hp→Hp→Hp
 | hp,[]=>hp
 | hp,(k,o) :: r=>Zf (ins hp k o) r
def del:Hp→Nat→Hp
 | [],_=>[]
 | (k,o) :: r,t=>if k=t then del r t else (k,o) :: del r t
def Qz:Hp→List Nat→Hp
 | hp,[]=>hp
 | hp,k :: r=>Qz (del hp k) r
def Qq (ids:List Nat) (hp:Hp):Hp:=match ids with
 | []=>hp
 | _=>freeze ids hp
def Eff.on (e:Eff) (hp:Hp):Hp:=Zf (Zf (Qz (Qq e.frz hp) e.dels) e.sets) e.adds
def Zwa:List AV→Nat→List AV→List AV
 | cs,_,[]=>cs
 | cs,off,v :: r=>Zwa (cs.set off v) (off+1) r
def ZjW:List AV→List (Nat×Nat×AV)→Option (List AV)
 | cells,[]=>some cells
 | cells,q :: r=>if q.2.2.solid∧q.2.2.cells.length=q.2.1∧q.1+q.2.1≤cells.length then ZjW (Zwa cells q.1 q.2.2.cells) r else none
def AV.atom:AV→Bool
 | .d x=>x.one
 | .agg _=>false
 | .tup _=>false
 | .clo _ _=>false
 | _=>true
def ZfW:List AV→Bool
 | []=>true
 | v :: r=>v.atom&&ZfW r
def cloV (f:Nat) (cs:List AV):Option AV:=if ZfW cs then some (.clo f cs) else none
def Zh5:AV→AV
 | .bbuf _ _=>.junk
 | v=>v
def ZaE (agg:Bool) (s off:Nat):Option Zl→Option AV
 | some (.box cs)=>if agg then (if off+s≤cs.length then some (JR ((cs.drop off).take s)) else none) else (cs[off]?).map Zh5
 | _=>none
def ZcW (agg:Bool) (s off:Nat) (cs:List D):Option AV:=
 if agg then (if off+s≤cs.length then some (.d (.agg ((cs.drop off).take s))) else none) else asD cs[off]?
def Zh6 (agg:Bool) (s sz off:Nat) (x:D):Option AV:=if x.cells.length=sz then ZcW agg s off x.cells else none
def Zsd (id i off:Nat):Option (Nat×Nat×Nat)→Option AV
 | some (nm,i',c)=>if i=i'∧off=c then some (.sub id nm) else none
 | none=>none
def Zdv (id i off:Nat) (lk:Option (Nat×Nat×Nat)) (x:D):Option AV:=match x.cells[off]? with
 | some (.sl _)=>Zsd id i off lk
 | some y=>if y.plain then some (.d y) else none
 | none=>none
def ZaF (id:Nat) (agg:Bool) (s sz i off:Nat):Option Zl→Option AV
 | some (.row sz' xs _ _)=>if sz=sz' then bnd xs[i]? (Zh6 agg s sz off) else none
 | some (.deep sz' _ xs lk)=>if sz=sz' then (if agg then none else bnd xs[i]? (Zdv id i off lk)) else none
 | _=>none
def UP (hp:Hp) (agg:Bool) (s:Nat):AV→Option AV
 | .ptr id off=>ZaE agg s off (lkp hp id)
 | .prow id sz i off=>ZaF id agg s sz i off (lkp hp id)
 | .pim cs=>ZcW agg s 0 cs
 | _=>none
def Zqu:AV→Option D
 | .d x=>if x.plain then some x else none
 | _=>none
def Zse:List AV→Option (List D)
 | []=>some []
 | v :: r=>bnd (Zqu v) fun x=>bnd (Zse r) fun ds=>some (x :: ds)
def Zdw (slc:List (Option Nat)) (s base id off:Nat) (vs:List AV):Option Zl→Option Eff
 | some (.box cs)=>if vs.length=s∧off+s≤cs.length∧YE vs∧X7 cs=true then
    (if Zi7 vs then some { val := .junk, adds := (mat slc vs base).2, sets := [(id, .box (Qj cs off (mat slc vs base).1))] }
      else some { val:=.junk,sets:=[(id,.box (Qj cs off vs))] })
   else none
 | _=>none
def D.notSl:D→Bool
 | .sl _=>false
 | _=>true
def Zdx (s id sz i off:Nat) (xs:List D) (ex:Bool) (x:D) (q:List D×Bool×List Nat):Option Eff:=
 if x.notSl∧x.cells.length=sz∧q.1.length=s∧off+s≤sz∧q.2.2.contains id=false then
  some { val:=.junk,sets:=[(id,.row sz (xs.set i (Zd3 x off q.1)) (ex&&q.2.1) false)],frz:=q.2.2 } else none
def Zb8 (hp:Hp) (s id sz i off:Nat) (vs:List AV):Option Zl→Option Eff
 | some (.row sz' xs ex false)=>if sz=sz' then bnd xs[i]? fun x=>bnd (Ws hp vs) fun q=>Zdx s id sz i off xs ex x q else none
 | _=>none
def Zap (hp:Hp) (slc:List (Option Nat)) (s base:Nat) (vs:List AV):AV→Option Eff
 | .ptr id off=>Zdw slc s base id off vs (lkp hp id)
 | .prow id sz i off=>Zb8 hp s id sz i off vs (lkp hp id)
 | _=>none
def uni (s:Nat) (ys:List D):Prop:=∀ y∈ys,y.cells.length=s
def QA:Nat:=140737488355328
def QV (ys:List D):Prop:=∀ y∈ys,y.flat=true
def Zqv (flat:Bool):Option Zl→Option (List D×Bool)
 | some (.row _ ys ex _)=>some (ys,ex || flat)
 | _=>none
def Zmr:AV→Option (List D×Bool)
 | .d (.str s)=>some (s.map fun b=>.int .u8 b.toNat,true)
 | _=>none
def ZkO (flat:Bool) (off n:Nat):Option Zl→Option (List D×Bool)
 | some (.row _ ys ex _)=>some ((ys.drop off).take n,ex || flat)
 | _=>none
def Zdy (hp:Hp) (flat:Bool):AV→Option (List D×Bool)
 | .nil=>some ([],true)
 | .d (.sl ys)=>some (ys,flat)
 | .own id=>Zqv flat (lkp hp id)
 | .ownv id off n=>ZkO flat off n (lkp hp id)
 | _=>none
def Zfj (sz base:Nat) (dels:List Nat) (xs:List D) (ex:Bool):Eff:=
 { val:=.own base,adds:=[(base,.row sz xs ex false)],dels:=dels }
def Zi8 (sz by_ base id:Nat) (ys:List D) (ex' : Bool):Option Zl→Option Eff
 | some (.row sz' xs ex false)=>if sz'=sz∧(xs.length+ys.length)*by_≤QA∧xs.length+ys.length≤QA then some (Zfj sz base [id] (xs++ys) (ex&&ex')) else none
 | _=>none
def ZfX (sz by_ base id n:Nat) (ys:List D) (ex' : Bool):Option Zl→Option Eff
 | some (.row sz' xs ex false)=>if sz'=sz∧(n+ys.length)*by_≤QA∧n+ys.length≤QA then some (Zfj sz base [id] (xs.take n++ys) (ex&&ex')) else none
 | _=>none
def ZfY (sz base id n:Nat) (ys:List D) (ex' : Bool):Option Zl→Option Eff
 | some (.row sz' xs ex false)=>if sz'=sz∧0<xs.length∧n+ys.length≤xs.length then
   some { val:=.ownv base 0 (n+ys.length),adds:=[(base,.row sz (xs.take n++ys++xs.drop (n+ys.length)) (ex&&ex') false)],dels:=[id] } else none
 | _=>none
def Zfk (hp:Hp) (sz by_:Nat) (base:Nat) (src:List Nat) (ys:List D) (ex' : Bool):AV→Option Eff
 | .nil=>if ys.length*by_≤QA∧ys.length≤QA then some (Zfj sz base [] ys ex') else none
 | .own id=>if src.contains id then none else Zi8 sz by_ base id ys ex' (lkp hp id)
 | .ownv id off n=>if off≠0 then none else if src.contains id then ZfY sz base id n ys ex' (lkp hp id) else ZfX sz by_ base id n ys ex' (lkp hp id)
 | _=>none
open Classical in
noncomputable def Un (hp:Hp) (sz by_:Nat) (str flat:Bool) (base:Nat) (s x:AV):Option Eff:=
 bnd (if str then Zmr x else Zdy hp flat x) fun q=>if uni sz q.1∧(flat=true→QV q.1) then Zfk hp sz by_ base (Zbh x) q.1 q.2 s else none
def idx (i:AV):Option Int:=match i with
 | .d (.int _ n)=>some n
 | _=>none
def ZuQ (sz:Nat) (y:D):Option AV:=if y.cells.length=sz then some (.pim y.cells) else none
def Zcz (sz id n:Nat):Option Zl→Option AV
 | some (.row sz' xs _ _)=>if sz'=sz∧n<xs.length then some (.prow id sz n 0) else none
 | some (.deep sz' _ xs _)=>if sz'=sz∧n<xs.length then some (.prow id sz n 0) else none
 | _=>none
def Zb9 (sz id off m n:Nat):Option Zl→Option AV
 | some (.row sz' _ _ _)=>if sz'=sz∧n<m then some (.prow id sz (off+n) 0) else none
 | _=>none
def QO (hp:Hp) (sz n:Nat):AV→Option AV
 | .d (.sl xs)=>bnd xs[n]? (ZuQ sz)
 | .own id=>Zcz sz id n (lkp hp id)
 | .ownv id off m=>Zb9 sz id off m n (lkp hp id)
 | _=>none
def bd (m:Nat) (v:AV):Option Nat:=bnd (idx v) fun n=>if 0≤n∧n≤m then some n.toNat else none
def hiOf (len:Nat):Option AV→Option Nat
 | none=>some len
 | some v=>bd len v
def loOf (h:Nat):Option AV→Option Nat
 | none=>some 0
 | some v=>bd h v
def Zqw (len:Nat) (lo hi:Option AV):Option (Nat×Nat):=bnd (hiOf len hi) fun h=>bnd (loOf h lo) fun l=>some (l,h)
def Zsf (id n:Nat):Option AV→Option AV→Option AV
 | none,none=>some (.own id)
 | lo,hi=>bnd (Zqw n lo hi) fun b=>some (.ownv id b.1 (b.2-b.1))
def Zca (s id:Nat) (lo hi:Option AV):Option Zl→Option AV
 | some (.row sz xs _ _)=>if sz=s then Zsf id xs.length lo hi else none
 | _=>none
def ZxU (n m:Nat) (lo:Option AV):Option AV→Option (Nat×Nat)
 | none=>Zqw n lo none
 | some h=>Zqw m lo (some h)
def Zaq (s id off n:Nat) (lo hi:Option AV):Option Zl→Option AV
 | some (.row sz xs _ _)=>if sz=s then bnd (ZxU n (xs.length-off) lo hi) fun b=>some (.ownv id (off+b.1) (b.2-b.1)) else none
 | _=>none
def slice3 (hp:Hp) (x:AV) (lo hi mx:Option Int):Option AV:=bnd lo fun l=>bnd hi fun h=>bnd mx fun m=>bnd (ZcS hp x) fun n=>
 if 0≤l∧l≤h∧h≤m∧m≤n then some .junk else none
def Zfl (s id off n:Nat) (z:D):Option Zl→Option Eff
 | some (.row sz xs ex false)=>if sz=s∧z.cells.length=s∧off+n≤xs.length then some { val:=.tup [],sets:=[(id,.row sz (xs.take off++List.replicate n z++xs.drop (off+n)) ex false)] } else none
 | _=>none
def ZcX (hp:Hp) (s:Nat) (z:D):AV→Option Eff
 | .ownv id off n=>Zfl s id off n z (lkp hp id)
 | _=>none
open Classical in
noncomputable def Wp (hp:Hp) (s:Nat) (lo hi:Option AV):AV→Option AV
 | .d (.sl xs)=>if uni s xs then bnd (Zqw xs.length lo hi) fun b=>some (.d (.sl ((xs.take b.2).drop b.1))) else none
 | .nil=>bnd (Zqw 0 lo hi) fun _=>some .nil
 | .own id=>Zca s id lo hi (lkp hp id)
 | .ownv id off n=>Zaq s id off n lo hi (lkp hp id)
 | _=>none
def sliceS (lo hi:Option AV):AV→Option AV
 | .d (.str s)=>bnd (Zqw s.length lo hi) fun b=>some (.d (.str ((s.take b.2).drop b.1)))
 | _=>none
def slice0 (hp:Hp) (x:AV) (hi mx:Option Int):Option AV:=match hi,mx with
 | some 0,some 0=>bnd (ZcS hp x) fun _=>some .nil
 | _,_=>none
def Zh7 (agg:Bool) (s off:Nat):AV→Option AV
 | .d (.agg cs)=>ZcW agg s off cs
 | .agg cs=>if agg then (if off+s≤cs.length then some (JR ((cs.drop off).take s)) else none) else cs[off]?
 | _=>none
abbrev Orc:=Nat→List AV→List Zl→Option (AV×List Zl)
abbrev Zo:=Nat→Nat→Bool
def Zed (hp:Hp) (id:Nat):Bool→Option AV
 | true=>some (.own id)
 | false=>asD (Zgj hp (.own id))
def Zfm:Bool→Option AV
 | true=>some .nil
 | false=>some (.d (.sl []))
def ZcY (hp:Hp) (m:Bool):AV→Option AV
 | .ptr a b=>some (.ptr a b)
 | .clo f c=>some (.clo f c)
 | .nilp=>some .nilp
 | .nili=>some .nili
 | .pim c=>some (.pim c)
 | .own id=>Zed hp id m
 | .nil=>Zfm m
 | .d x=>some (.d x)
 | v=>asD (toD hp v)
def args (hp:Hp) (m:Nat→Bool):Nat→List AV→Option (List AV)
 | _,[]=>some []
 | i,v :: r=>bnd (ZcY hp (m i) v) fun a=>bnd (args hp m (i+1) r) fun as=>some (a :: as)
def JW (hp:Hp) (go:List Nat→List Nat→List Nat) (id:Nat) (todo acc:List Nat):Option Zl→List Nat
 | some o=>go (todo++ZaS o) (acc++[id])
 | none=>go todo acc
def QX (hp:Hp):Nat→List Nat→List Nat→List Nat
 | 0,_,acc=>acc
 | _+1,[],acc=>acc
 | n+1,id :: todo,acc=>if acc.contains id then QX hp n todo acc else JW hp (QX hp n) id todo acc (lkp hp id)
def Wu:List Nat→Nat→Nat
 | [],_=>0
 | x :: r,t=>if x=t then 0 else Wu r t+1
def Zh8:Option Zl→Zl
 | some o=>o
 | none=>.row 0 [] true false
def Zcb (hp:Hp):List Nat→List Zl
 | []=>[]
 | id :: r=>Zh8 (lkp hp id) :: Zcb hp r
def JX (ids:List Nat) (o:Zl):Zl:=ZkC (Wu ids) (X8 ((ZaS o).filter fun i=>!ids.contains i) o)
def Ve:Option Zl→Bool
 | some (.row _ _ _ _)=>true
 | some (.deep _ _ _ _)=>true
 | _=>false
def Zcc:AV→Bool
 | .d x=>x.flat
 | .pim _=>false
 | .agg _=>false
 | .tup _=>false
 | .clo _ _=>false
 | _=>true
def ZcZ:AV→Bool
 | .agg cs=>cs.all Zcc
 | .clo _ cs=>cs.all Zcc
 | v=>Zcc v
def Zo3:AV→Bool
 | .tup vs=>vs.all ZcZ
 | v=>ZcZ v
def Zg3:Zl→Bool
 | .box cs=>cs.all ZcZ
 | .row _ _ ex fz=>ex&&!fz
 | .deep _ _ _ _=>true
def Zg4 (d:Nat):Option Nat→Nat
 | some i=>i
 | none=>d
def WV (ids:List Nat) (base k:Nat):Nat:=Zg4 (base+(k-ids.length)) ids[k]?
def Zcd (g:Nat→Nat):List Nat→List Zl→Hp
 | id :: ids,o :: os=>(id,ZkC g o) :: Zcd g ids os
 | _,_=>[]
def Zce (g:Nat→Nat):Nat→List Zl→Hp
 | _,[]=>[]
 | k,o :: os=>(k,ZkC g o) :: Zce g (k+1) os
structure Zb where
 eff:Eff
 gone:List Nat
def Xz (_hp:Hp):Nat:=1000
def Vc:List AV→List AV→List Nat
 | v :: vs,.d _ :: as=>Zd2 v++Vc vs as
 | _ :: vs,_ :: as=>Vc vs as
 | _,_=>[]
def Za5:Option Zl→Bool
 | some (.deep _ _ _ _)=>true
 | _=>false
def JY (hp:Hp) (base:Nat) (ids lent:List Nat) (r:AV) (out:List Zl):Option Zb:=
 if out.length<ids.length then none else if !(Zo3 r&&out.all Zg3)&&lent.any fun i=>Za5 (lkp hp i) then none else
  some { eff := { val:=ren (WV ids base) r,adds:=Zce (WV ids base) base (out.drop ids.length),sets:=Zcd (WV ids base) ids out,frz:=if Zo3 r&&out.all Zg3 then [] else lent },gone:=ids.filter fun i=>Ve (lkp hp i) }
def ZaV:AV→List Nat
 | .ptr id _=>[id]
 | .clo _ cs=>cs.flatMap Zm
 | _=>[]
def Zbz (hp:Hp) (rs ids:List Nat):Bool:=ids.all fun i=>Ve (lkp hp i) || rs.contains i
def ZcA (C:Orc) (hp:Hp) (base f:Nat) (lent:List Nat) (as:List AV) (ids:List Nat):Option Zb:=
 if (as.flatMap ZF).all ids.contains∧¬lent.any ids.contains∧Zbz hp (as.flatMap ZaV) ids=true then
  bnd (C f (as.map (ren (Wu ids))) ((Zcb hp ids).map (JX ids))) fun q=>JY hp base ids lent q.1 q.2
 else none
def Zbk (C:Orc) (m:Nat→Bool) (hp:Hp) (base f:Nat) (avs:List AV):Option Zb:=
 bnd (args hp m 0 avs) fun as=>ZcA C hp base f (Vc avs as) as (QX hp (Xz hp) (as.flatMap ZF) [])
def QY (v:AV):Option Zb:=some { eff := { val:=v },gone:=[] }
def Wq (v:Option AV):Option Zb:=bnd v QY
def ZeL (e:Option Eff):Option Zb:=bnd e fun e=>some { eff:=e,gone:=[] }
def ZcB (base:Nat) (e:Option Nat):AV→Option Zb
 | .nil=>bnd e fun s=>some { eff := { val:=.own base,adds:=[(base,.row s [] true false)] },gone:=[] }
 | v=>QY v
def ZeE (a b:AV):AV→Option Zb
 | .d (.bool t)=>if t then QY a else QY b
 | _=>none
def Zg5 (base:Nat):AV→AV
 | .bnil _ e=>.bnil base e
 | v=>v
def bnT (t te:Nat):List AV→List AV
 | [.nilp,.nil]=>[.bnil 0 t,.bbuf te []]
 | cs=>cs
def ZxV:List AV→Bool
 | [.bnil _ _,.bbuf _ []]=>true
 | _=>false
def Zi9 (slc:List (Option Nat)) (base:Nat) (cs:List AV):Option Zb:=
 if X7 cs=false then (if ZxV cs=true then some { eff := { val:=.ptr base 0,adds:=[(base,.box cs)] },gone:=[] } else none) else
 if Zi7 cs then some { eff := { val:=.ptr base 0,adds:=(base,.box (mat slc cs (base+1)).1) :: (mat slc cs (base+1)).2 },gone:=[] }
 else some { eff := { val:=.ptr base 0,adds:=[(base,.box cs)] },gone:=[] }
def Zee (slc:List (Option Nat)) (base:Nat) (cs:List AV):Option Zb:=Zi9 slc base (cs.map (Zg5 base))
def ZtM (base:Nat) (x:AV):Option Zb:=if x.solid&&X7 x.cells then some { eff := { val:=.ptr base 0,adds:=[(base,.box x.cells)] },gone:=[] } else none
def Zms (zs:List AV) (ps:List (Nat×Nat×AV)):Option Zb:=bnd (ZjW zs ps) fun cs=>QY (JR cs)
def ZtN (base s:Nat) (q:List D×Bool×List Nat):Option Zb:=
 if q.1.all (fun d=>d.cells.length==s) then some { eff := { val:=.own base,adds:=[(base,.row s q.1 q.2.1 false)],frz:=q.2.2 },gone:=[] } else none
def buildSl (hp:Hp) (base s:Nat):List AV→Option Zb
 | []=>QY .nil
 | v :: vs=>bnd (Ul hp (v :: vs)) (ZtN base s)
def ZcC (hp:Hp) (n:Nat):AV→Option (D×List Nat)
 | .d x=>if x.plain then some (x,[]) else none
 | .nil=>some (.sl [],[])
 | .own id=>deepRow n id (lkp hp id)
 | _=>none
where deepRow (n id:Nat):Option Zl→Option (D×List Nat)
 | some (.row sz xs true false)=>if sz=n∧Zb1 D.flat xs then some (.sl xs,[id]) else none
 | _=>none
def Zdz (hp:Hp) (n:Nat):List AV→Option (List D×List Nat)
 | []=>some ([],[])
 | v :: r=>bnd (ZcC hp n v) fun q=>bnd (Zdz hp n r) fun p=>if !q.2.any p.2.contains then some (q.1 :: p.1,q.2++p.2) else none
def asgDp (base s n:Nat):AV→Option Zb
 | .nil=>some { eff := { val:=.own base,adds:=[(base,.deep s n [] none)] },gone:=[] }
 | _=>none
def buildDp (hp:Hp) (base s n:Nat):List AV→Option Zb
 | [.agg cs]=>bnd (Zdz hp n cs) fun q=>if q.1.length=s then some { eff := { val:=.own base,adds:=[(base,.deep s n [.agg q.1] none)],dels:=q.2 },gone:=[] } else none
 | _=>none
def JZ:AV→Option Zb
 | .ptr a b=>QY (.ptr a b)
 | .prow a b c d=>QY (.prow a b c d)
 | .pim c=>QY (.pim c)
 | .clo f c=>QY (.clo f c)
 | _=>none
def ZkE (op:BinOp) (eq:Bool):AV→AV→Option Zb
 | .d (.bool a),.d (.bool b)=>if eq then Wq (Zoz op a b) else none
 | a,b=>Wq (vbin op a b)
def J7:List Nat→List D→List D→Option Bool
 | [],[],[]=>some true
 | 0 :: ks,.int k a :: cs,.int k' b :: ds=>if k=k' then bnd (J7 ks cs ds) fun r=>some (decide (a=b)&&r) else none
 | 1 :: ks,.bool a :: cs,.bool b :: ds=>bnd (J7 ks cs ds) fun r=>some (decide (a=b)&&r)
 | 2 :: ks,.str a :: cs,.str b :: ds=>bnd (J7 ks cs ds) fun r=>some (decide (a=b)&&r)
 | _,_,_=>none
def Zmt (neg:Bool) (r:Bool):Bool:=if neg then !r else r
def Zoe (neg:Bool) (ks:List Nat):AV→AV→Option Zb
 | .d (.agg cs),.d (.agg ds)=>bnd (J7 ks cs ds) fun r=>QY (.d (.bool (Zmt neg r)))
 | _,_=>none
def convI (k:IntKind):AV→Option Zb
 | .d (.int _ n)=>QY (.d (.int k (k.wrap n)))
 | _=>none
def convS:AV→Option Zb
 | .d (.str s)=>QY (.d (.str s))
 | _=>none
def Zmu (base s b:Nat) (z:D) (l c:Int):Option Zb:=
 if 0≤l∧l≤c∧c*b≤QA∧c≤QA∧z.cells.length=s then
  some { eff := { val:=.own base,adds:=[(base,.row s (List.replicate l.toNat z) true false)] },gone:=[] } else none
def VS (off:Nat):AV→Option Zb
 | .ptr id o=>QY (.ptr id (o+off))
 | .prow id sz i o=>QY (.prow id sz i (o+off))
 | .pim cs=>QY (.pim (cs.drop off))
 | _=>none
def ZjX (x:AV) (n:Int) (len s:Nat):Option Zb:=if 0≤n∧n<len then VS (n.toNat*s) x else none
def Zfn (hp:Hp) (s:Nat) (x:AV) (n:Int):Option Zb:=if 0≤n then Wq (QO hp s n.toNat x) else none
def Zo4 (s:List UInt8) (n:Int):Option Zb:=if 0≤n then bnd s[n.toNat]? fun b=>QY (.d (.int .u8 b.toNat)) else none
def ZtO (g:Bool) (s len:Nat) (n:Int) (v:AV):Option Zb:=if 0≤n∧n<len then Wq (Zh7 g s (n.toNat*s) v) else none
def Zsg (n:Int):AV→Option Zb
 | .d (.str s)=>Zo4 s n
 | _=>none
def Zqx (i:Nat):AV→Option Zb
 | .tup vs=>Wq vs[i]?
 | _=>none
def Zg6:Option Zl→Option (Nat×Nat×List D)
 | some (.deep s n xs _)=>some (s,n,xs)
 | _=>none
def ZcD (hp:Hp):AV→Option (Nat×Nat×Nat×List D)
 | .own id=>bnd (Zg6 (lkp hp id)) fun q=>some (id,q)
 | _=>none
def ZbA (hp:Hp) (s b base id n:Nat) (ys:List D):AV→Option Eff
 | .nil=>if ys.length*b≤QA∧ys.length≤QA then some { val:=.own base,adds:=[(base,.deep s n ys none)],dels:=[id] } else none
 | .own id1=>bnd (Zg6 (lkp hp id1)) fun q=>if q.1=s∧q.2.1=n∧id1≠id∧(q.2.2.length+ys.length)*b≤QA∧q.2.2.length+ys.length≤QA then
   some { val:=.own base,adds:=[(base,.deep s n (q.2.2++ys) none)],dels:=[id1,id] } else none
 | _=>none
def Zh9 (xs:List D) (i c:Nat):Option (List D):=bnd xs[i]? fun x=>match x.cells[c]? with
 | some (.sl ys)=>some ys
 | _=>none
open Classical in
noncomputable def Zg7 (s b base id nm:Nat) (q:List D×Bool):Option Zl→Option Eff
 | some (.deep sz n xs (some (nm',i,c)))=>bnd (Zh9 xs i c) fun fl=>if nm=nm'∧n=s∧uni s q.1∧QV q.1∧(fl.length+q.1.length)*b≤QA∧fl.length+q.1.length≤QA then
   some { val:=.own base,adds:=[(base,.row s (fl++q.1) true true)],sets:=[(id,.row sz xs true false)] } else none
 | _=>none
def YN (hp:Hp):AV→List Nat
 | .own id=>if Za5 (lkp hp id) then [id] else []
 | _=>[]
def Zcf:Zl→Zl
 | .deep s _ xs _=>.row s xs true false
 | o=>o
def meltIn (hp:Hp):List Nat→Hp
 | []=>hp
 | i :: r=>match lkp hp i with
  | some o=>ins (meltIn hp r) i (Zcf o)
  | none=>meltIn hp r
noncomputable def VT (hp:Hp) (s b:Nat) (str flat:Bool) (base:Nat) (x y:AV):List Nat→Option Eff
 | []=>Un hp s b str flat base x y
 | i :: r=>if flat then none else bnd (Un (meltIn hp (i :: r)) s b str flat base x y) fun e=>some { val:=e.val,adds:=e.adds,sets:=e.sets,dels:=e.dels++(i :: r),frz:=e.frz }
noncomputable def ZdA (hp:Hp) (s b:Nat) (str flat:Bool) (base:Nat) (y:AV):AV→Option Eff
 | .sub id nm=>if str then none else bnd (Zdy hp true y) fun q=>if (Zbh y).contains id then none else Zg7 s b base id nm q (lkp hp id)
 | x=>VT hp s b str flat base x y (YN hp x++YN hp y)
def Zof (hp:Hp) (s b base:Nat) (x y:AV):Option Zb:=ZeL (bnd (ZcD hp y) fun q=>if q.2.1=s then ZbA hp s b base q.1 q.2.2.1 q.2.2.2 x else none)
noncomputable def Zqy (hp:Hp) (s b:Nat) (str flat:Bool) (base:Nat) (x y:AV):Option Zb:=ZeL (ZdA hp s b str flat base y x)
def Zia:AV→AV→Option Zb
 | .d (.int k a),.d (.int k' b)=>if k=k' then QY (.d (.int k (minI a b))) else none
 | _,_=>none
def Zib:AV→AV→Option Zb
 | .d (.int k a),.d (.int k' b)=>if k=k' then QY (.d (.int k (maxI a b))) else none
 | _,_=>none
inductive Opd where
 | t (n:Nat)
 | v (a:AV)
 | f (n:Nat)
def evO (sl:Sl):Opd→AV
 | .t n=>gs sl n
 | .v a=>a
 | .f n=>.clo n []
def evL (sl:Sl):List Opd→List AV
 | []=>[]
 | x :: r=>evO sl x :: evL sl r
def evP (sl:Sl):List (Nat×Nat×Opd)→List (Nat×Nat×AV)
 | []=>[]
 | (a,b,x) :: r=>(a,b,evO sl x) :: evP sl r
def evM (sl:Sl):Option Opd→Option AV
 | none=>none
 | some x=>some (evO sl x)
inductive COp where
 | move (x:Opd)
 | assign (s:Option Nat) (x:Opd)
 | pick (c a b:Opd)
 | alloc (slc:List (Option Nat)) (cs:List AV)
 | box (x:Opd)
 | build (zs:List AV) (ps:List (Nat×Nat×Opd))
 | buildSl (s:Nat) (xs:List Opd)
 | load (g:Bool) (s:Nat) (a:Opd)
 | store (slc:List (Option Nat)) (s:Nat) (a x:Opd)
 | nilCheck (x:Opd)
 | bin (op:BinOp) (eq:Bool) (x y:Opd)
 | un (op:UnOp) (x:Opd)
 | eqA (neg:Bool) (ks:List Nat) (x y:Opd)
 | convI (k:IntKind) (x:Opd)
 | convS (x:Opd)
 | fn (f:Nat) (caps:List Opd)
 | make (s b:Nat) (z:D) (l c:Opd)
 | slice (s:Nat) (x:Opd) (lo hi:Option Opd)
 | sliceS (x:Opd) (lo hi:Option Opd)
 | slice0 (x hi mx:Opd)
 | shift (off:Nat) (x:Opd)
 | part (g:Bool) (s off:Nat) (x:Opd)
 | iaS (s:Nat) (x i:Opd)
 | iaA (len s:Nat) (x i:Opd)
 | ixS (x i:Opd)
 | ixA (g:Bool) (s len:Nat) (x i:Opd)
 | nth (i:Nat) (x:Opd)
 | len (x:Opd)
 | lenS (x:Opd)
 | append (s b:Nat) (str flat:Bool) (x y:Opd)
 | min (x y:Opd)
 | max (x y:Opd)
 | call (f:Opd) (as:List Opd)
 | slice3 (s:Nat) (x lo hi mx:Opd)
 | clear (s:Nat) (z:D) (x:Opd)
 | stuck
 | buildDp (s n:Nat) (xs:List Opd)
 | appDp (s b:Nat) (flat:Bool) (x y:Opd)
 | asgDp (s n:Nat) (x:Opd)
structure CO where
 dst:Option Nat
 guard:Option (Nat×Bool)
 op:COp
 tl:Bool
def Zcg (C:Orc) (M:Zo) (hp:Hp) (base:Nat) (as:List AV):AV→Option Zb
 | .clo g caps=>Zbk C (M g) hp base g (as++caps)
 | _=>none
noncomputable def vop (C:Orc) (M:Zo) (sl:Sl) (hp:Hp) (base:Nat):COp→Option Zb
 | .move x=>QY (evO sl x)
 | .assign s x=>ZcB base s (evO sl x)
 | .pick c a b=>ZeE (evO sl a) (evO sl b) (evO sl c)
 | .alloc slc cs=>Zee slc base cs
 | .box x=>ZtM base (evO sl x)
 | .build zs ps=>Zms zs (evP sl ps)
 | .buildSl s xs=>buildSl hp base s (evL sl xs)
 | .load g s a=>Wq (UP hp g s (evO sl a))
 | .store slc s a x=>ZeL (Zap hp slc s base (evO sl x).cells (evO sl a))
 | .nilCheck x=>JZ (evO sl x)
 | .bin op eq x y=>ZkE op eq (evO sl x) (evO sl y)
 | .un op x=>Wq (vun op (evO sl x))
 | .eqA neg ks x y=>Zoe neg ks (evO sl x) (evO sl y)
 | .convI k x=>convI k (evO sl x)
 | .convS x=>convS (evO sl x)
 | .fn f cs=>Wq (cloV f (evL sl cs))
 | .make s b z l c=>bnd (idx (evO sl l)) fun l=>bnd (idx (evO sl c)) fun c=>Zmu base s b z l c
 | .slice s x lo hi=>Wq (Wp hp s (evM sl lo) (evM sl hi) (evO sl x))
 | .sliceS x lo hi=>Wq (sliceS (evM sl lo) (evM sl hi) (evO sl x))
 | .slice0 x hi mx=>Wq (slice0 hp (evO sl x) (idx (evO sl hi)) (idx (evO sl mx)))
 | .shift off x=>VS off (evO sl x)
 | .part g s off x=>Wq (Zh7 g s off (evO sl x))
 | .iaS s x i=>bnd (idx (evO sl i)) fun n=>Zfn hp s (evO sl x) n
 | .iaA len s x i=>bnd (idx (evO sl i)) fun n=>ZjX (evO sl x) n len s
 | .ixS x i=>bnd (idx (evO sl i)) fun n=>Zsg n (evO sl x)
 | .ixA g s len x i=>bnd (idx (evO sl i)) fun n=>ZtO g s len n (evO sl x)
 | .nth i x=>Zqx i (evO sl x)
 | .len x=>bnd (ZcS hp (evO sl x)) fun n=>QY (.d (.int .i64 n))
 | .lenS x=>bnd (Zvw (evO sl x)) fun n=>QY (.d (.int .i64 n))
 | .append s b str flat x y=>Zqy hp s b str flat base (evO sl x) (evO sl y)
 | .min x y=>Zia (evO sl x) (evO sl y)
 | .max x y=>Zib (evO sl x) (evO sl y)
 | .call f as=>Zcg C M hp base (evL sl as) (evO sl f)
 | .slice3 _ x lo hi mx=>Wq (slice3 hp (evO sl x) (idx (evO sl lo)) (idx (evO sl hi)) (idx (evO sl mx)))
 | .clear s z x=>ZeL (ZcX hp s z (evO sl x))
 | .stuck=>none
 | .buildDp s n xs=>buildDp hp base s n (evL sl xs)
 | .appDp s b _ x y=>Zof hp s b base (evO sl x) (evO sl y)
 | .asgDp s n x=>asgDp base s n (evO sl x)
section
variable (P:Program)
def YL (t:TypeId):Option TypeId:=match P.underlying t with
 | some (.slice e)=>some e
 | _=>none
def Zar (t:TypeId):Bool:=match P.underlying t with
 | some .string=>true
 | _=>false
def ZfZ (t:TypeId):Bool:=match P.underlying t with
 | some .bool=>true
 | _=>false
def Zwb (t:TypeId):Option IntKind:=match P.underlying t with
 | some (.int k)=>some k
 | _=>none
def Zg8 (t:TypeId):Option (Nat×TypeId):=match P.underlying t with
 | some (.array n e)=>some (n,e)
 | _=>none
def ZdB (t:TypeId):Option Bool:=match P.underlying t with
 | some (.struct _)=>some true
 | some (.array _ _)=>some true
 | some _=>some false
 | none=>none
def Zef (s:TypeId) (f:Nat):Option (Nat×TypeId):=match P.underlying s with
 | some (.struct fs)=>match fs[f]? with
  | some x=>if P.cellsOf x.type=0 then none else some (x.offset,x.type)
  | none=>none
 | _=>none
def Zbl (t:TypeId):Option Value:=match P.info? t with
 | some i=>i.zero
 | none=>none
def ZuR:Nat→TypeId→List TypeId
 | 0,t=>[t]
 | n+1,t=>match P.underlying t with
  | some (.struct fs)=>fs.toList.flatMap fun f=>ZuR n f.type
  | some (.array k e)=>(List.replicate k (ZuR n e)).flatten
  | _=>[t]
def slcT (t:TypeId):List (Option Nat):=(ZuR P 4 t).map fun c=>(YL P c).map P.cellsOf
def flatE (t:TypeId):Bool:=(ZuR P 4 t).all fun c=>match P.underlying c with
 | some (.int _)=>true
 | some .bool=>true
 | some .string=>true
 | _=>false
def Zch:Nat→TypeId→Nat→Option (List (Nat×Nat))
 | 0,_,_=>none
 | n+1,t,off=>match P.underlying t with
  | some (.int _)=>if P.cellsOf t=1 then some [(off,0)] else none
  | some .bool=>if P.cellsOf t=1 then some [(off,1)] else none
  | some .string=>if P.cellsOf t=1 then some [(off,2)] else none
  | some (.struct fs)=>if P.stoodInHeld t then none else
    bnd (QU (fun f:Field=>if f.name = "_"∨P.cellsOf t<f.offset+P.cellsOf f.type then none else Zch n f.type (off+f.offset)) fs.toList) fun ls=>some ls.flatten
  | _=>none
def Ya (t:TypeId):Bool:=match P.underlying t with
 | some (.struct _)=>true
 | _=>false
def Zsh (t:TypeId):Option (List Nat):=bnd (Zch P 5 t 0) fun ls=>
 if ls.map (·.1)=List.range (P.cellsOf t)∧Ya P t=true∧P.eqGuardType P.depth t=false then some (ls.map (·.2)) else none
def Zsi (neg:Bool) (op:BinOp) (t:TypeId) (x y:Opd):Option (List Nat)→COp
 | some ks=>.eqA neg ks x y
 | none=>.bin op (ZfZ P t) x y
def ZtP (op:BinOp) (t:TypeId) (x y:Opd):COp:=match op with
 | .eql=>Zsi P false .eql t x y (Zsh P t)
 | .neq=>Zsi P true .neq t x y (Zsh P t)
 | op=>.bin op (ZfZ P t) x y
end
section
variable (P:Program)
def Z8:Operand→Option Opd
 | .tmp t=>some (.t t)
 | .const v=>some (.v (evC v))
 | .global _=>none
 | .func f=>some (.f f)
def Zsj (pl:Nat→Option (Nat×Nat)) (q:Nat×Operand):Option (Nat×Nat×Opd):=bnd (pl q.1) fun p=>bnd (Z8 q.2) fun x=>some (p.1,p.2,x)
def cOO:Option Operand→Option (Option Opd)
 | none=>some none
 | some x=>bnd (Z8 x) fun y=>some (some y)
def Zeg (t:TypeId):Option (Nat×TypeId)→Nat→Option (Nat×Nat)
 | none,i=>bnd (Zef P t i) fun q=>some (q.1,P.cellsOf q.2)
 | some a,i=>some (i*P.cellsOf a.2,P.cellsOf a.2)
def Jb (t:TypeId):Bool:=match P.info? t with
 | some i=>(match i.zero with
  | some z=>z.cells.size==i.size&&decide (0<i.size)
  | none=>false)
 | none=>false
def Zic (t:TypeId):Bool:=match P.underlying t with
 | some (.struct fs)=>fs.toList.all fun f=>(P.info? f.type).isSome
 | some (.array _ e)=>(P.info? e).isSome
 | _=>false
def ZjY (e:TypeId) (u:TypeId):Option Bool:=match YL P u with
 | some e'=>if e'=e then some false else none
 | none=>if Zar P u then some true else none
def Zmv (x i:Opd) (a:Option (Nat×TypeId)):Option TypeId→Option COp
 | some e=>if (P.info? e).isSome then some (.iaS (P.cellsOf e) x i) else none
 | none=>bnd a fun a=>if (P.info? a.2).isSome then some (.iaA a.1 (P.cellsOf a.2) x i) else none
def Zqz (x i:Opd) (str:Bool) (a:Option (Nat×TypeId)):Option COp:=
 if str then some (.ixS x i) else bnd a fun a=>bnd (ZdB P a.2) fun g=>some (.ixA g (P.cellsOf a.2) a.1 x i)
def ZuS (x:Opd) (ss sd:Bool):Option IntKind→Option IntKind→Option COp
 | some _,some k=>some (.convI k x)
 | _,_=>if ss&&sd then some (.convS x) else none
def cLen (x:Opd) (str:Bool):Option TypeId→Option COp
 | some _=>some (.len x)
 | none=>if str then some (.lenS x) else none
def ZtQ (x:Opd) (lo hi:Option Opd) (str:Bool):Option TypeId→Option COp
 | some e=>if (P.info? e).isSome then some (.slice (P.cellsOf e) x lo hi) else none
 | none=>if str then some (.sliceS x lo hi) else none
def ZdC:Builtin→List Operand→List TypeId→Option COp
 | .len,[x],[t]=>bnd (Z8 x) fun x=>cLen x (Zar P t) (YL P t)
 | .append,[s,x],[t,u]=>bnd (YL P t) fun e=>bnd (ZjY P e u) fun str=>bnd (Z8 s) fun s=>bnd (Z8 x) fun x=>
   if Jb P e then some (.append (P.cellsOf e) (P.bytesOf e) str (flatE P e) s x) else none
 | .min,[x,y],_=>bnd (Z8 x) fun x=>bnd (Z8 y) fun y=>some (.min x y)
 | .max,[x,y],_=>bnd (Z8 x) fun x=>bnd (Z8 y) fun y=>some (.max x y)
 | .clear,[x],[t]=>bnd (YL P t) fun e=>bnd (Z8 x) fun x=>bnd (Zbl P e) fun z=>bnd (evD z) fun z=>if Jb P e then some (.clear (P.cellsOf e) z x) else none
 | _,_,_=>none
def teOf (t:TypeId):Nat:=match bnd (Zef P t 1) fun q=>YL P q.2 with
 | some e=>e
 | none=>0
def cOp (ty:TypeId):Op→Option COp
 | .move x=>bnd (Z8 x) fun x=>some (.move x)
 | .assign x=>bnd (Z8 x) fun x=>some (.assign (bnd (YL P ty) fun e=>some (P.cellsOf e)) x)
 | .pick c a b=>bnd (Z8 c) fun c=>bnd (Z8 a) fun a=>bnd (Z8 b) fun b=>some (.pick c a b)
 | .alloc t=>bnd (Zbl P t) fun z=>some (.alloc (slcT P t) (bnT t (teOf P t) (evC z).cells))
 | .box _ x=>bnd (Z8 x) fun x=>some (.box x)
 | .build t ps=>bnd (Zbl P t) fun z=>bnd (QU (Zsj (Zeg P t (Zg8 P t))) ps.toList) fun qs=>if Zic P t then some (.build (evC z).cells qs) else none
 | .buildSlice t n ps=>bnd (YL P t) fun e=>bnd (QU (fun q:Nat×Operand=>Z8 q.2) ps.toList) fun xs=>
   if ps.toList.map (·.1)=List.range n∧n*P.cellsOf e≤16777216∧Jb P e then some (.buildSl (P.cellsOf e) xs) else none
 | .load t a=>bnd (ZdB P t) fun g=>bnd (Z8 a) fun a=>some (.load g (P.cellsOf t) a)
 | .store t a x=>bnd (Z8 a) fun a=>bnd (Z8 x) fun x=>if (P.info? t).isSome then some (.store (slcT P t) (P.cellsOf t) a x) else none
 | .nilCheck x=>bnd (Z8 x) fun x=>some (.nilCheck x)
 | .binOp op t x y _=>bnd (Z8 x) fun x=>bnd (Z8 y) fun y=>some (ZtP P op t x y)
 | .unOp op _ x=>bnd (Z8 x) fun x=>some (.un op x)
 | .convert s d x=>bnd (Z8 x) fun x=>ZuS x (Zar P s) (Zar P d) (Zwb P s) (Zwb P d)
 | .makeFunc (.func f) fs cs=>if fs.toList.isEmpty then bnd (QU Z8 cs.toList) fun cs=>some (.fn f cs) else none
 | .makeSlice t l c=>bnd (YL P t) fun e=>bnd (Z8 l) fun l=>bnd (Z8 c) fun c=>bnd (Zbl P e) fun z=>bnd (evD z) fun z=>if Jb P e then some (.make (P.cellsOf e) (P.bytesOf e) z l c) else none
 | .slice t x lo hi none=>bnd (Z8 x) fun x=>bnd (cOO lo) fun lo=>bnd (cOO hi) fun hi=>ZtQ P x lo hi (Zar P t) (YL P t)
 | .slice t x none (some hi) (some mx)=>bnd (YL P t) fun e=>if (P.info? e).isSome then bnd (Z8 x) fun x=>bnd (Z8 hi) fun hi=>bnd (Z8 mx) fun mx=>some (.slice0 x hi mx) else none
 | .slice t x (some lo) (some hi) (some mx)=>bnd (YL P t) fun e=>if (P.info? e).isSome then bnd (Z8 x) fun x=>bnd (Z8 lo) fun lo=>bnd (Z8 hi) fun hi=>bnd (Z8 mx) fun mx=>some (.slice3 (P.cellsOf e) x lo hi mx) else none
 | .fieldAddr s x f=>bnd (Zef P s f) fun q=>bnd (Z8 x) fun x=>some (.shift q.1 x)
 | .field t x f=>bnd (Zef P t f) fun q=>bnd (ZdB P q.2) fun g=>bnd (Z8 x) fun x=>some (.part g (P.cellsOf q.2) q.1 x)
 | .indexAddr t x i=>bnd (Z8 x) fun x=>bnd (Z8 i) fun i=>Zmv P x i (Zg8 P t) (YL P t)
 | .index t x i=>bnd (Z8 x) fun x=>bnd (Z8 i) fun i=>Zqz P x i (Zar P t) (Zg8 P t)
 | .extract x i=>bnd (Z8 x) fun x=>some (.nth i x)
 | .call { callee:=.builtin b,args:=as,argTypes:=ts }=>ZdC P b as.toList ts.toList
 | .call { callee:=.value f,args:=as,argTypes:=_ }=>bnd (Z8 f) fun f=>bnd (QU Z8 as.toList) fun as=>some (.call f as)
 | _=>none
def Zmw (ops:List Oper):Option (Nat×Bool)→Option (Option (Nat×Bool))
 | none=>some none
 | some q=>bnd ops[q.1]? fun g=>bnd g.dst fun t=>some (some (t,q.2))
def Xj (nt:Nat):Option Nat→Bool
 | none=>true
 | some t=>decide (t<nt)
def Wv (ops:Array Oper) (i:Nat):List Nat:=match ops[i]? with
 | some o=>(o.after.toList.filter fun e=>Region.binds .any e).map fun e=>e.on
 | none=>[]
def Zg9 (ops:Array Oper):Nat→Nat→Nat→Bool
 | 0,i,j=>(Wv ops i).contains j
 | n+1,i,j=>(Wv ops i).contains j || (Wv ops i).any fun z=>Zg9 ops n z j
def startO:Op→Bool
 | .call { callee:=.builtin .append,args:=_,argTypes:=_ }=>true
 | .buildSlice _ _ _=>true
 | _=>false
def callO:Op→Bool
 | .call { callee:=.value (.func _),args:=_,argTypes:=_ }=>true
 | _=>false
def ZxW:Op→Bool
 | .move _=>true
 | _=>false
def aheadO:Op→Bool
 | .store _ _ _=>false
 | .box _ _=>false
 | .assign _=>false
 | .makeFunc _ _ _=>false
 | .makeSlice _ _ _=>false
 | .call { callee:=.builtin .append,args:=_,argTypes:=_ }=>false
 | .call { callee:=.value _,args:=_,argTypes:=_ }=>false
 | _=>true
def ZAx:Op→Bool
 | .move _=>true
 | .alloc _=>true
 | .buildSlice _ _ _=>true
 | .load _ _=>true
 | .nilCheck _=>true
 | .binOp _ _ _ _ _=>true
 | .unOp _ _ _=>true
 | .convert _ _ _=>true
 | .fieldAddr _ _ _=>true
 | .indexAddr _ _ _=>true
 | .slice _ _ _ _ _=>true
 | .call { callee:=.builtin .len,args:=_,argTypes:=_ }=>true
 | _=>false
def appO:Op→Bool
 | .call { callee:=.builtin .append,args:=_,argTypes:=_ }=>true
 | _=>false
def lookO:Op→Bool
 | .move _=>true
 | .load _ _=>true
 | .nilCheck _=>true
 | .binOp _ _ _ _ _=>true
 | .convert _ _ _=>true
 | .fieldAddr _ _ _=>true
 | .field _ _ _=>true
 | .extract _ _=>true
 | .indexAddr _ _ _=>true
 | .slice _ _ _ _ _=>true
 | .call { callee:=.builtin .len,args:=_,argTypes:=_ }=>true
 | _=>false
def atO (f:Op→Bool) (ops:List Oper) (k:Nat):Bool:=match ops[k]? with
 | some o=>f o.op
 | none=>false
def firmAt (ops:List Oper) (i:Nat):Bool:=
 (List.range ops.length).all fun k=>if k<i then Zg9 ops.toArray 6 i k || atO ZxW ops k else k==i || Zg9 ops.toArray 6 k i || atO ZxW ops k
def firmP (ops:List Oper) (i:Nat):Bool:=
 (List.range ops.length).all fun k=>if k<i then Zg9 ops.toArray 6 i k || atO lookO ops k else k==i || Zg9 ops.toArray 6 k i || atO ZxW ops k
def firmC (ops:List Oper) (i:Nat):Bool:=
 (List.range ops.length).all fun k=>if k<i then Zg9 ops.toArray 6 i k || atO aheadO ops k else k==i || Zg9 ops.toArray 6 k i || atO ZAx ops k
def Zmx (ops:List Oper) (o:Oper):Nat:=ops.findIdx fun x=>x.dst==o.dst
def firm (ops:List Oper) (o:Oper):Bool:=(startO o.op&&firmAt ops (Zmx ops o)) || (callO o.op&&firmC ops (Zmx ops o)) || (appO o.op&&firmP ops (Zmx ops o))
def U0:Option COp→COp
 | some c=>c
 | none=>.stuck
def ZjZ (nt:Nat) (ops:List Oper) (o:Oper):Option CO:=bnd (Zmw ops o.guard) fun g=>
 if Xj nt o.dst then some { dst:=o.dst,guard:=g,op:=U0 (cOp P o.type o.op),tl:=firm ops o } else none
end
end Go.Abs
