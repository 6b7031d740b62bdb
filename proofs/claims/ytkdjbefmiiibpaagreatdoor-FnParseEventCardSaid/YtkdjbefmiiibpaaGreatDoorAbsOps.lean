/- The abstract semantics: operations,regions,codes,calls. Own text. -/
import Derived.Test.YtkdjbefmiiibpaaGreatDoorAbsBase
set_option linter.unusedVariables false
set_option linter.unusedSimpArgs false
namespace Go.Abs
open Go
def mat:List (Option Nat)→List AV→Nat→List AV×Hp
 | some s :: ts,.nil :: vs,b=>let r:=mat ts vs (b+1);(.own b :: r.1,(b,.row s [] true false) :: r.2)
 | _ :: ts,v :: vs,b=>let r:=mat ts vs b;(v :: r.1,r.2)
 | _,vs,_=>(vs,[])
def ZmB:List AV→Bool
 | []=>false
 | .nil :: _=>true
 | _ :: r=>ZmB r
structure Eff where
 val:AV
 adds:Hp:=[]
 sets:Hp:=[]
 dels:List Nat:=[]
 frz:List Nat:=[]
def Zg:Hp→Hp→Hp
 | hp,[]=>hp
 | hp,(k,o) :: r=>Zg (ins hp k o) r
def del:Hp→Nat→Hp
 | [],_=>[]
 | (k,o) :: r,t=>if k=t then del r t else (k,o) :: del r t
def QH:Hp→List Nat→Hp
 | hp,[]=>hp
 | hp,k :: r=>QH (del hp k) r
def Qu (ids:List Nat) (hp:Hp):Hp:=match ids with
 | []=>hp
 | _=>freeze ids hp
def Eff.on (e:Eff) (hp:Hp):Hp:=Zg (Zg (QH (Qu e.frz hp) e.dels) e.sets) e.adds
def Zzj:List AV→Nat→List AV→List AV
 | cs,_,[]=>cs
 | cs,off,v :: r=>Zzj (cs.set off v) (off+1) r
def ZnA:List AV→List (Nat×Nat×AV)→Option (List AV)
 | cells,[]=>some cells
 | cells,q :: r=>if q.2.2.solid∧q.2.2.cells.length=q.2.1∧q.1+q.2.1≤cells.length then ZnA (Zzj cells q.1 q.2.2.cells) r else none
def AV.atom:AV→Bool
 | .d x=>x.one
 | .agg _=>false
 | .tup _=>false
 | .clo _ _=>false
 | _=>true
def Zjz:List AV→Bool
 | []=>true
 | v :: r=>v.atom&&Zjz r
def cloV (f:Nat) (cs:List AV):Option AV:=if Zjz cs then some (.clo f cs) else none
def Zlr:AV→AV
 | .bbuf _ _=>.junk
 | v=>v
def Zck (agg:Bool) (s off:Nat):Option Zo→Option AV
 | some (.box cs)=>if agg then (if off+s≤cs.length then some (ZaT ((cs.drop off).take s)) else none) else (cs[off]?).map Zlr
 | _=>none
def Zfy (agg:Bool) (s off:Nat) (cs:List D):Option AV:=
 if agg then (if off+s≤cs.length then some (.d (.agg ((cs.drop off).take s))) else none) else asD cs[off]?
def Zls (agg:Bool) (s sz off:Nat) (x:D):Option AV:=if x.cells.length=sz then Zfy agg s off x.cells else none
def ZuM (id i off:Nat):Option (Nat×Nat×Nat)→Option AV
 | some (nm,i',c)=>if i=i'∧off=c then some (.sub id nm) else none
 | none=>none
def Zgw (id i off:Nat) (lk:Option (Nat×Nat×Nat)) (x:D):Option AV:=match x.cells[off]? with
 | some (.sl _)=>ZuM id i off lk
 | some y=>if y.plain then some (.d y) else none
 | none=>none
def Zcl (id:Nat) (agg:Bool) (s sz i off:Nat):Option Zo→Option AV
 | some (.row sz' xs _ _)=>if sz=sz' then bnd xs[i]? (Zls agg s sz off) else none
 | some (.deep sz' _ xs lk)=>if sz=sz' then (if agg then none else bnd xs[i]? (Zgw id i off lk)) else none
 | _=>none
def JU (hp:Hp) (agg:Bool) (s:Nat):AV→Option AV
 | .ptr id off=>Zck agg s off (lkp hp id)
 | .prow id sz i off=>Zcl id agg s sz i off (lkp hp id)
 | .pim cs=>Zfy agg s 0 cs
 | _=>none
def Zs7:AV→Option D
 | .d x=>if x.plain then some x else none
 | _=>none
def ZuN:List AV→Option (List D)
 | []=>some []
 | v :: r=>bnd (Zs7 v) fun x=>bnd (ZuN r) fun ds=>some (x :: ds)
def Zgx (slc:List (Option Nat)) (s base id off:Nat) (vs:List AV):Option Zo→Option Eff
 | some (.box cs)=>if vs.length=s∧off+s≤cs.length∧Vj vs∧YM cs=true then
    (if ZmB vs then some { val := .junk, adds := (mat slc vs base).2, sets := [(id, .box (Qp cs off (mat slc vs base).1))] }
      else some { val:=.junk,sets:=[(id,.box (Qp cs off vs))] })
   else none
 | _=>none
def D.notSl:D→Bool
 | .sl _=>false
 | _=>true
def Zgy (s id sz i off:Nat) (xs:List D) (ex:Bool) (x:D) (q:List D×Bool×List Nat):Option Eff:=
 if x.notSl∧x.cells.length=sz∧q.1.length=s∧off+s≤sz∧q.2.2.contains id=false then
  some { val:=.junk,sets:=[(id,.row sz (xs.set i (Zg8 x off q.1)) (ex&&q.2.1) false)],frz:=q.2.2 } else none
def Zd0 (hp:Hp) (s id sz i off:Nat) (vs:List AV):Option Zo→Option Eff
 | some (.row sz' xs ex false)=>if sz=sz' then bnd xs[i]? fun x=>bnd (Uy hp vs) fun q=>Zgy s id sz i off xs ex x q else none
 | _=>none
def ZbI (hp:Hp) (slc:List (Option Nat)) (s base:Nat) (vs:List AV):AV→Option Eff
 | .ptr id off=>Zgx slc s base id off vs (lkp hp id)
 | .prow id sz i off=>Zd0 hp s id sz i off vs (lkp hp id)
 | _=>none
def uni (s:Nat) (ys:List D):Prop:=∀ y∈ys,y.cells.length=s
def QI:Nat:=140737488355328
def Q7 (ys:List D):Prop:=∀ y∈ys,y.flat=true
def Zs8 (flat:Bool):Option Zo→Option (List D×Bool)
 | some (.row _ ys ex _)=>some (ys,ex || flat)
 | _=>none
def Zpf:AV→Option (List D×Bool)
 | .d (.str s)=>some (s.map fun b=>.int .u8 b.toNat,true)
 | _=>none
def Zot (flat:Bool) (off n:Nat):Option Zo→Option (List D×Bool)
 | some (.row _ ys ex _)=>some ((ys.drop off).take n,ex || flat)
 | _=>none
def Zgz (hp:Hp) (flat:Bool):AV→Option (List D×Bool)
 | .nil=>some ([],true)
 | .d (.sl ys)=>some (ys,flat)
 | .own id=>Zs8 flat (lkp hp id)
 | .ownv id off n=>Zot flat off n (lkp hp id)
 | _=>none
def Ziy (sz base:Nat) (dels:List Nat) (xs:List D) (ex:Bool):Eff:=
 { val:=.own base,adds:=[(base,.row sz xs ex false)],dels:=dels }
def ZmC (sz by_ base id:Nat) (ys:List D) (ex' : Bool):Option Zo→Option Eff
 | some (.row sz' xs ex false)=>if sz'=sz∧(xs.length+ys.length)*by_≤QI∧xs.length+ys.length≤QI then some (Ziy sz base [id] (xs++ys) (ex&&ex')) else none
 | _=>none
def ZjA (sz by_ base id n:Nat) (ys:List D) (ex' : Bool):Option Zo→Option Eff
 | some (.row sz' xs ex false)=>if sz'=sz∧(n+ys.length)*by_≤QI∧n+ys.length≤QI then some (Ziy sz base [id] (xs.take n++ys) (ex&&ex')) else none
 | _=>none
def ZjB (sz base id n:Nat) (ys:List D) (ex' : Bool):Option Zo→Option Eff
 | some (.row sz' xs ex false)=>if sz'=sz∧0<xs.length∧n+ys.length≤xs.length then
   some { val:=.ownv base 0 (n+ys.length),adds:=[(base,.row sz (xs.take n++ys++xs.drop (n+ys.length)) (ex&&ex') false)],dels:=[id] } else none
 | _=>none
def Ziz (hp:Hp) (sz by_:Nat) (base:Nat) (src:List Nat) (ys:List D) (ex' : Bool):AV→Option Eff
 | .nil=>if ys.length*by_≤QI∧ys.length≤QI then some (Ziy sz base [] ys ex') else none
 | .own id=>if src.contains id then none else ZmC sz by_ base id ys ex' (lkp hp id)
 | .ownv id off n=>if off≠0 then none else if src.contains id then ZjB sz base id n ys ex' (lkp hp id) else ZjA sz by_ base id n ys ex' (lkp hp id)
 | _=>none
open Classical in
noncomputable def Jd (hp:Hp) (sz by_:Nat) (str flat:Bool) (base:Nat) (s x:AV):Option Eff:=
 bnd (if str then Zpf x else Zgz hp flat x) fun q=>if uni sz q.1∧(flat=true→Q7 q.1) then Ziz hp sz by_ base (Zdk x) q.1 q.2 s else none
def idx (i:AV):Option Int:=match i with
 | .d (.int _ n)=>some n
 | _=>none
def Zx2 (sz:Nat) (y:D):Option AV:=if y.cells.length=sz then some (.pim y.cells) else none
def Zfd (sz id n:Nat):Option Zo→Option AV
 | some (.row sz' xs _ _)=>if sz'=sz∧n<xs.length then some (.prow id sz n 0) else none
 | some (.deep sz' _ xs _)=>if sz'=sz∧n<xs.length then some (.prow id sz n 0) else none
 | _=>none
def Zd1 (sz id off m n:Nat):Option Zo→Option AV
 | some (.row sz' _ _ _)=>if sz'=sz∧n<m then some (.prow id sz (off+n) 0) else none
 | _=>none
def QW (hp:Hp) (sz n:Nat):AV→Option AV
 | .d (.sl xs)=>bnd xs[n]? (Zx2 sz)
 | .own id=>Zfd sz id n (lkp hp id)
 | .ownv id off m=>Zd1 sz id off m n (lkp hp id)
 | _=>none
def bd (m:Nat) (v:AV):Option Nat:=bnd (idx v) fun n=>if 0≤n∧n≤m then some n.toNat else none
def hiOf (len:Nat):Option AV→Option Nat
 | none=>some len
 | some v=>bd len v
def loOf (h:Nat):Option AV→Option Nat
 | none=>some 0
 | some v=>bd h v
def Zs9 (len:Nat) (lo hi:Option AV):Option (Nat×Nat):=bnd (hiOf len hi) fun h=>bnd (loOf h lo) fun l=>some (l,h)
def ZuO (id n:Nat):Option AV→Option AV→Option AV
 | none,none=>some (.own id)
 | lo,hi=>bnd (Zs9 n lo hi) fun b=>some (.ownv id b.1 (b.2-b.1))
def Zd2 (s id:Nat) (lo hi:Option AV):Option Zo→Option AV
 | some (.row sz xs _ _)=>if sz=s then ZuO id xs.length lo hi else none
 | _=>none
def ZAO (n m:Nat) (lo:Option AV):Option AV→Option (Nat×Nat)
 | none=>Zs9 n lo none
 | some h=>Zs9 m lo (some h)
def ZbJ (s id off n:Nat) (lo hi:Option AV):Option Zo→Option AV
 | some (.row sz xs _ _)=>if sz=s then bnd (ZAO n (xs.length-off) lo hi) fun b=>some (.ownv id (off+b.1) (b.2-b.1)) else none
 | _=>none
def slice3 (hp:Hp) (x:AV) (lo hi mx:Option Int):Option AV:=bnd lo fun l=>bnd hi fun h=>bnd mx fun m=>bnd (Zfv hp x) fun n=>
 if 0≤l∧l≤h∧h≤m∧m≤n then some .junk else none
def ZiA (s id off n:Nat) (z:D):Option Zo→Option Eff
 | some (.row sz xs ex false)=>if sz=s∧z.cells.length=s∧off+n≤xs.length then some { val:=.tup [],sets:=[(id,.row sz (xs.take off++List.replicate n z++xs.drop (off+n)) ex false)] } else none
 | _=>none
def Zfz (hp:Hp) (s:Nat) (z:D):AV→Option Eff
 | .ownv id off n=>ZiA s id off n z (lkp hp id)
 | _=>none
open Classical in
noncomputable def Ux (hp:Hp) (s:Nat) (lo hi:Option AV):AV→Option AV
 | .d (.sl xs)=>if uni s xs then bnd (Zs9 xs.length lo hi) fun b=>some (.d (.sl ((xs.take b.2).drop b.1))) else none
 | .nil=>bnd (Zs9 0 lo hi) fun _=>some .nil
 | .own id=>Zd2 s id lo hi (lkp hp id)
 | .ownv id off n=>ZbJ s id off n lo hi (lkp hp id)
 | _=>none
def sliceS (lo hi:Option AV):AV→Option AV
 | .d (.str s)=>bnd (Zs9 s.length lo hi) fun b=>some (.d (.str ((s.take b.2).drop b.1)))
 | _=>none
def slice0 (hp:Hp) (x:AV) (hi mx:Option Int):Option AV:=match hi,mx with
 | some 0,some 0=>bnd (Zfv hp x) fun _=>some .nil
 | _,_=>none
def Zlt (agg:Bool) (s off:Nat):AV→Option AV
 | .d (.agg cs)=>Zfy agg s off cs
 | .agg cs=>if agg then (if off+s≤cs.length then some (ZaT ((cs.drop off).take s)) else none) else cs[off]?
 | _=>none
abbrev Orc:=Nat→List AV→List Zo→Option (AV×List Zo)
abbrev Zt:=Nat→Nat→Bool
def Zhk (hp:Hp) (id:Nat):Bool→Option AV
 | true=>some (.own id)
 | false=>asD (ZjY hp (.own id))
def ZiB:Bool→Option AV
 | true=>some .nil
 | false=>some (.d (.sl []))
def ZfA (hp:Hp) (m:Bool):AV→Option AV
 | .ptr a b=>some (.ptr a b)
 | .clo f c=>some (.clo f c)
 | .nilp=>some .nilp
 | .nili=>some .nili
 | .pim c=>some (.pim c)
 | .own id=>Zhk hp id m
 | .nil=>ZiB m
 | .d x=>some (.d x)
 | v=>asD (toD hp v)
def args (hp:Hp) (m:Nat→Bool):Nat→List AV→Option (List AV)
 | _,[]=>some []
 | i,v :: r=>bnd (ZfA hp (m i) v) fun a=>bnd (args hp m (i+1) r) fun as=>some (a :: as)
def ZaY (hp:Hp) (go:List Nat→List Nat→List Nat) (id:Nat) (todo acc:List Nat):Option Zo→List Nat
 | some o=>go (todo++Zcq o) (acc++[id])
 | none=>go todo acc
def Xd (hp:Hp):Nat→List Nat→List Nat→List Nat
 | 0,_,acc=>acc
 | _+1,[],acc=>acc
 | n+1,id :: todo,acc=>if acc.contains id then Xd hp n todo acc else ZaY hp (Xd hp n) id todo acc (lkp hp id)
def UA:List Nat→Nat→Nat
 | [],_=>0
 | x :: r,t=>if x=t then 0 else UA r t+1
def Zlu:Option Zo→Zo
 | some o=>o
 | none=>.row 0 [] true false
def Zd3 (hp:Hp):List Nat→List Zo
 | []=>[]
 | id :: r=>Zlu (lkp hp id) :: Zd3 hp r
def ZaZ (ids:List Nat) (o:Zo):Zo:=Zn0 (UA ids) (YN ((Zcq o).filter fun i=>!ids.contains i) o)
def We:Option Zo→Bool
 | some (.row _ _ _ _)=>true
 | some (.deep _ _ _ _)=>true
 | _=>false
def Zd4:AV→Bool
 | .d x=>x.flat
 | .pim _=>false
 | .agg _=>false
 | .tup _=>false
 | .clo _ _=>false
 | _=>true
def ZfB:AV→Bool
 | .agg cs=>cs.all Zd4
 | .clo _ cs=>cs.all Zd4
 | v=>Zd4 v
def Zr5:AV→Bool
 | .tup vs=>vs.all ZfB
 | v=>ZfB v
def Zkz:Zo→Bool
 | .box cs=>cs.all ZfB
 | .row _ _ ex fz=>ex&&!fz
 | .deep _ _ _ _=>true
def ZkA (d:Nat):Option Nat→Nat
 | some i=>i
 | none=>d
def UJ (ids:List Nat) (base k:Nat):Nat:=ZkA (base+(k-ids.length)) ids[k]?
def Zd5 (g:Nat→Nat):List Nat→List Zo→Hp
 | id :: ids,o :: os=>(id,Zn0 g o) :: Zd5 g ids os
 | _,_=>[]
def Zd6 (g:Nat→Nat):Nat→List Zo→Hp
 | _,[]=>[]
 | k,o :: os=>(k,Zn0 g o) :: Zd6 g (k+1) os
structure Zc where
 eff:Eff
 gone:List Nat
def XO (_hp:Hp):Nat:=1000
def V1:List AV→List AV→List Nat
 | v :: vs,.d _ :: as=>Zg7 v++V1 vs as
 | _ :: vs,_ :: as=>V1 vs as
 | _,_=>[]
def ZcN:Option Zo→Bool
 | some (.deep _ _ _ _)=>true
 | _=>false
def Za0 (hp:Hp) (base:Nat) (ids lent:List Nat) (r:AV) (out:List Zo):Option Zc:=
 if out.length<ids.length then none else if !(Zr5 r&&out.all Zkz)&&lent.any fun i=>ZcN (lkp hp i) then none else
  some { eff := { val:=ren (UJ ids base) r,adds:=Zd6 (UJ ids base) base (out.drop ids.length),sets:=Zd5 (UJ ids base) ids out,frz:=if Zr5 r&&out.all Zkz then [] else lent },gone:=ids.filter fun i=>We (lkp hp i) }
def Zct:AV→List Nat
 | .ptr id _=>[id]
 | .clo _ cs=>cs.flatMap Zp
 | _=>[]
def Zdz (hp:Hp) (rs ids:List Nat):Bool:=ids.all fun i=>We (lkp hp i) || rs.contains i
def Zfe (C:Orc) (hp:Hp) (base f:Nat) (lent:List Nat) (as:List AV) (ids:List Nat):Option Zc:=
 if (as.flatMap ZI).all ids.contains∧¬lent.any ids.contains∧Zdz hp (as.flatMap Zct) ids=true then
  bnd (C f (as.map (ren (UA ids))) ((Zd3 hp ids).map (ZaZ ids))) fun q=>Za0 hp base ids lent q.1 q.2
 else none
def Zdn (C:Orc) (m:Nat→Bool) (hp:Hp) (base f:Nat) (avs:List AV):Option Zc:=
 bnd (args hp m 0 avs) fun as=>Zfe C hp base f (V1 avs as) as (Xd hp (XO hp) (as.flatMap ZI) [])
def QT (v:AV):Option Zc:=some { eff := { val:=v },gone:=[] }
def WL (v:Option AV):Option Zc:=bnd v QT
def Zik (e:Option Eff):Option Zc:=bnd e fun e=>some { eff:=e,gone:=[] }
def Zff (base:Nat) (e:Option Nat):AV→Option Zc
 | .nil=>bnd e fun s=>some { eff := { val:=.own base,adds:=[(base,.row s [] true false)] },gone:=[] }
 | v=>QT v
def Zh6 (a b:AV):AV→Option Zc
 | .d (.bool t)=>if t then QT a else QT b
 | _=>none
def ZkB (base:Nat):AV→AV
 | .bnil _ e=>.bnil base e
 | v=>v
def bnT (t te:Nat):List AV→List AV
 | [.nilp,.nil]=>[.bnil 0 t,.bbuf te []]
 | cs=>cs
def ZAP:List AV→Bool
 | [.bnil _ _,.bbuf _ []]=>true
 | _=>false
def ZmD (slc:List (Option Nat)) (base:Nat) (cs:List AV):Option Zc:=
 if YM cs=false then (if ZAP cs=true then some { eff := { val:=.ptr base 0,adds:=[(base,.box cs)] },gone:=[] } else none) else
 if ZmB cs then some { eff := { val:=.ptr base 0,adds:=(base,.box (mat slc cs (base+1)).1) :: (mat slc cs (base+1)).2 },gone:=[] }
 else some { eff := { val:=.ptr base 0,adds:=[(base,.box cs)] },gone:=[] }
def Zhl (slc:List (Option Nat)) (base:Nat) (cs:List AV):Option Zc:=ZmD slc base (cs.map (ZkB base))
def Zwz (base:Nat) (x:AV):Option Zc:=if x.solid&&YM x.cells then some { eff := { val:=.ptr base 0,adds:=[(base,.box x.cells)] },gone:=[] } else none
def Zpg (zs:List AV) (ps:List (Nat×Nat×AV)):Option Zc:=bnd (ZnA zs ps) fun cs=>QT (ZaT cs)
def ZwA (base s:Nat) (q:List D×Bool×List Nat):Option Zc:=
 if q.1.all (fun d=>d.cells.length==s) then some { eff := { val:=.own base,adds:=[(base,.row s q.1 q.2.1 false)],frz:=q.2.2 },gone:=[] } else none
def buildSl (hp:Hp) (base s:Nat):List AV→Option Zc
 | []=>QT .nil
 | v :: vs=>bnd (Jb hp (v :: vs)) (ZwA base s)
def Zfg (hp:Hp) (n:Nat):AV→Option (D×List Nat)
 | .d x=>if x.plain then some (x,[]) else none
 | .nil=>some (.sl [],[])
 | .own id=>deepRow n id (lkp hp id)
 | _=>none
where deepRow (n id:Nat):Option Zo→Option (D×List Nat)
 | some (.row sz xs true false)=>if sz=n∧ZdT D.flat xs then some (.sl xs,[id]) else none
 | _=>none
def ZgA (hp:Hp) (n:Nat):List AV→Option (List D×List Nat)
 | []=>some ([],[])
 | v :: r=>bnd (Zfg hp n v) fun q=>bnd (ZgA hp n r) fun p=>if !q.2.any p.2.contains then some (q.1 :: p.1,q.2++p.2) else none
def asgDp (base s n:Nat):AV→Option Zc
 | .nil=>some { eff := { val:=.own base,adds:=[(base,.deep s n [] none)] },gone:=[] }
 | _=>none
def buildDp (hp:Hp) (base s n:Nat):List AV→Option Zc
 | [.agg cs]=>bnd (ZgA hp n cs) fun q=>if q.1.length=s then some { eff := { val:=.own base,adds:=[(base,.deep s n [.agg q.1] none)],dels:=q.2 },gone:=[] } else none
 | _=>none
def Za1:AV→Option Zc
 | .ptr a b=>QT (.ptr a b)
 | .prow a b c d=>QT (.prow a b c d)
 | .pim c=>QT (.pim c)
 | .clo f c=>QT (.clo f c)
 | _=>none
def ZiC (op:BinOp) (eq:Bool):AV→AV→Option Zc
 | .d (.bool a),.d (.bool b)=>if eq then WL (ZrB op a b) else none
 | a,b=>WL (vbin op a b)
def Zbx:List Nat→List D→List D→Option Bool
 | [],[],[]=>some true
 | 0 :: ks,.int k a :: cs,.int k' b :: ds=>if k=k' then bnd (Zbx ks cs ds) fun r=>some (decide (a=b)&&r) else none
 | 1 :: ks,.bool a :: cs,.bool b :: ds=>bnd (Zbx ks cs ds) fun r=>some (decide (a=b)&&r)
 | 2 :: ks,.str a :: cs,.str b :: ds=>bnd (Zbx ks cs ds) fun r=>some (decide (a=b)&&r)
 | _,_,_=>none
def Zph (neg:Bool) (r:Bool):Bool:=if neg then !r else r
def ZqU (neg:Bool) (ks:List Nat):AV→AV→Option Zc
 | .d (.agg cs),.d (.agg ds)=>bnd (Zbx ks cs ds) fun r=>QT (.d (.bool (Zph neg r)))
 | _,_=>none
def convI (k:IntKind):AV→Option Zc
 | .d (.int _ n)=>QT (.d (.int k (k.wrap n)))
 | _=>none
def convS:AV→Option Zc
 | .d (.str s)=>QT (.d (.str s))
 | _=>none
def Zpi (base s b:Nat) (z:D) (l c:Int):Option Zc:=
 if 0≤l∧l≤c∧c*b≤QI∧c≤QI∧z.cells.length=s then
  some { eff := { val:=.own base,adds:=[(base,.row s (List.replicate l.toNat z) true false)] },gone:=[] } else none
def WM (off:Nat):AV→Option Zc
 | .ptr id o=>QT (.ptr id (o+off))
 | .prow id sz i o=>QT (.prow id sz i (o+off))
 | .pim cs=>QT (.pim (cs.drop off))
 | _=>none
def ZnB (x:AV) (n:Int) (len s:Nat):Option Zc:=if 0≤n∧n<len then WM (n.toNat*s) x else none
def ZiD (hp:Hp) (s:Nat) (x:AV) (n:Int):Option Zc:=if 0≤n then WL (QW hp s n.toNat x) else none
def Zr6 (s:List UInt8) (n:Int):Option Zc:=if 0≤n then bnd s[n.toNat]? fun b=>QT (.d (.int .u8 b.toNat)) else none
def ZwB (g:Bool) (s len:Nat) (n:Int) (v:AV):Option Zc:=if 0≤n∧n<len then WL (Zlt g s (n.toNat*s) v) else none
def ZuP (n:Int):AV→Option Zc
 | .d (.str s)=>Zr6 s n
 | _=>none
def Zta (i:Nat):AV→Option Zc
 | .tup vs=>WL vs[i]?
 | _=>none
def ZkC:Option Zo→Option (Nat×Nat×List D)
 | some (.deep s n xs _)=>some (s,n,xs)
 | _=>none
def Zfh (hp:Hp):AV→Option (Nat×Nat×Nat×List D)
 | .own id=>bnd (ZkC (lkp hp id)) fun q=>some (id,q)
 | _=>none
def ZdA (hp:Hp) (s b base id n:Nat) (ys:List D):AV→Option Eff
 | .nil=>if ys.length*b≤QI∧ys.length≤QI then some { val:=.own base,adds:=[(base,.deep s n ys none)],dels:=[id] } else none
 | .own id1=>bnd (ZkC (lkp hp id1)) fun q=>if q.1=s∧q.2.1=n∧id1≠id∧(q.2.2.length+ys.length)*b≤QI∧q.2.2.length+ys.length≤QI then
   some { val:=.own base,adds:=[(base,.deep s n (q.2.2++ys) none)],dels:=[id1,id] } else none
 | _=>none
def Zlv (xs:List D) (i c:Nat):Option (List D):=bnd xs[i]? fun x=>match x.cells[c]? with
 | some (.sl ys)=>some ys
 | _=>none
open Classical in
noncomputable def ZkD (s b base id nm:Nat) (q:List D×Bool):Option Zo→Option Eff
 | some (.deep sz n xs (some (nm',i,c)))=>bnd (Zlv xs i c) fun fl=>if nm=nm'∧n=s∧uni s q.1∧Q7 q.1∧(fl.length+q.1.length)*b≤QI∧fl.length+q.1.length≤QI then
   some { val:=.own base,adds:=[(base,.row s (fl++q.1) true true)],sets:=[(id,.row sz xs true false)] } else none
 | _=>none
def VE (hp:Hp):AV→List Nat
 | .own id=>if ZcN (lkp hp id) then [id] else []
 | _=>[]
def Zd7:Zo→Zo
 | .deep s _ xs _=>.row s xs true false
 | o=>o
def meltIn (hp:Hp):List Nat→Hp
 | []=>hp
 | i :: r=>match lkp hp i with
  | some o=>ins (meltIn hp r) i (Zd7 o)
  | none=>meltIn hp r
noncomputable def WN (hp:Hp) (s b:Nat) (str flat:Bool) (base:Nat) (x y:AV):List Nat→Option Eff
 | []=>Jd hp s b str flat base x y
 | i :: r=>if flat then none else bnd (Jd (meltIn hp (i :: r)) s b str flat base x y) fun e=>some { val:=e.val,adds:=e.adds,sets:=e.sets,dels:=e.dels++(i :: r),frz:=e.frz }
noncomputable def ZgB (hp:Hp) (s b:Nat) (str flat:Bool) (base:Nat) (y:AV):AV→Option Eff
 | .sub id nm=>if str then none else bnd (Zgz hp true y) fun q=>if (Zdk y).contains id then none else ZkD s b base id nm q (lkp hp id)
 | x=>WN hp s b str flat base x y (VE hp x++VE hp y)
def ZqV (hp:Hp) (s b base:Nat) (x y:AV):Option Zc:=Zik (bnd (Zfh hp y) fun q=>if q.2.1=s then ZdA hp s b base q.1 q.2.2.1 q.2.2.2 x else none)
noncomputable def Ztb (hp:Hp) (s b:Nat) (str flat:Bool) (base:Nat) (x y:AV):Option Zc:=Zik (ZgB hp s b str flat base y x)
def Zlw:AV→AV→Option Zc
 | .d (.int k a),.d (.int k' b)=>if k=k' then QT (.d (.int k (minI a b))) else none
 | _,_=>none
def Zlx:AV→AV→Option Zc
 | .d (.int k a),.d (.int k' b)=>if k=k' then QT (.d (.int k (maxI a b))) else none
 | _,_=>none
inductive Opd where
 | t (n:Nat)
 | v (a:AV)
 | f (n:Nat)
def evO (sl:Sl):Opd→AV
 | .t n=>gs sl n
 | .v a=>a
 | .f n=>.clo n []
def evL (sl:Sl):List Opd→List AV
 | []=>[]
 | x :: r=>evO sl x :: evL sl r
def evP (sl:Sl):List (Nat×Nat×Opd)→List (Nat×Nat×AV)
 | []=>[]
 | (a,b,x) :: r=>(a,b,evO sl x) :: evP sl r
def evM (sl:Sl):Option Opd→Option AV
 | none=>none
 | some x=>some (evO sl x)
inductive COp where
 | move (x:Opd)
 | assign (s:Option Nat) (x:Opd)
 | pick (c a b:Opd)
 | alloc (slc:List (Option Nat)) (cs:List AV)
 | box (x:Opd)
 | build (zs:List AV) (ps:List (Nat×Nat×Opd))
 | buildSl (s:Nat) (xs:List Opd)
 | load (g:Bool) (s:Nat) (a:Opd)
 | store (slc:List (Option Nat)) (s:Nat) (a x:Opd)
 | nilCheck (x:Opd)
 | bin (op:BinOp) (eq:Bool) (x y:Opd)
 | un (op:UnOp) (x:Opd)
 | eqA (neg:Bool) (ks:List Nat) (x y:Opd)
 | convI (k:IntKind) (x:Opd)
 | convS (x:Opd)
 | fn (f:Nat) (caps:List Opd)
 | make (s b:Nat) (z:D) (l c:Opd)
 | slice (s:Nat) (x:Opd) (lo hi:Option Opd)
 | sliceS (x:Opd) (lo hi:Option Opd)
 | slice0 (x hi mx:Opd)
 | shift (off:Nat) (x:Opd)
 | part (g:Bool) (s off:Nat) (x:Opd)
 | iaS (s:Nat) (x i:Opd)
 | iaA (len s:Nat) (x i:Opd)
 | ixS (x i:Opd)
 | ixA (g:Bool) (s len:Nat) (x i:Opd)
 | nth (i:Nat) (x:Opd)
 | len (x:Opd)
 | lenS (x:Opd)
 | append (s b:Nat) (str flat:Bool) (x y:Opd)
 | min (x y:Opd)
 | max (x y:Opd)
 | call (f:Opd) (as:List Opd)
 | slice3 (s:Nat) (x lo hi mx:Opd)
 | clear (s:Nat) (z:D) (x:Opd)
 | stuck
 | buildDp (s n:Nat) (xs:List Opd)
 | appDp (s b:Nat) (flat:Bool) (x y:Opd)
 | asgDp (s n:Nat) (x:Opd)
structure CO where
 dst:Option Nat
 guard:Option (Nat×Bool)
 op:COp
 tl:Bool
def Zd8 (C:Orc) (M:Zt) (hp:Hp) (base:Nat) (as:List AV):AV→Option Zc
 | .clo g caps=>Zdn C (M g) hp base g (as++caps)
 | _=>none
noncomputable def vop (C:Orc) (M:Zt) (sl:Sl) (hp:Hp) (base:Nat):COp→Option Zc
 | .move x=>QT (evO sl x)
 | .assign s x=>Zff base s (evO sl x)
 | .pick c a b=>Zh6 (evO sl a) (evO sl b) (evO sl c)
 | .alloc slc cs=>Zhl slc base cs
 | .box x=>Zwz base (evO sl x)
 | .build zs ps=>Zpg zs (evP sl ps)
 | .buildSl s xs=>buildSl hp base s (evL sl xs)
 | .load g s a=>WL (JU hp g s (evO sl a))
 | .store slc s a x=>Zik (ZbI hp slc s base (evO sl x).cells (evO sl a))
 | .nilCheck x=>Za1 (evO sl x)
 | .bin op eq x y=>ZiC op eq (evO sl x) (evO sl y)
 | .un op x=>WL (vun op (evO sl x))
 | .eqA neg ks x y=>ZqU neg ks (evO sl x) (evO sl y)
 | .convI k x=>convI k (evO sl x)
 | .convS x=>convS (evO sl x)
 | .fn f cs=>WL (cloV f (evL sl cs))
 | .make s b z l c=>bnd (idx (evO sl l)) fun l=>bnd (idx (evO sl c)) fun c=>Zpi base s b z l c
 | .slice s x lo hi=>WL (Ux hp s (evM sl lo) (evM sl hi) (evO sl x))
 | .sliceS x lo hi=>WL (sliceS (evM sl lo) (evM sl hi) (evO sl x))
 | .slice0 x hi mx=>WL (slice0 hp (evO sl x) (idx (evO sl hi)) (idx (evO sl mx)))
 | .shift off x=>WM off (evO sl x)
 | .part g s off x=>WL (Zlt g s off (evO sl x))
 | .iaS s x i=>bnd (idx (evO sl i)) fun n=>ZiD hp s (evO sl x) n
 | .iaA len s x i=>bnd (idx (evO sl i)) fun n=>ZnB (evO sl x) n len s
 | .ixS x i=>bnd (idx (evO sl i)) fun n=>ZuP n (evO sl x)
 | .ixA g s len x i=>bnd (idx (evO sl i)) fun n=>ZwB g s len n (evO sl x)
 | .nth i x=>Zta i (evO sl x)
 | .len x=>bnd (Zfv hp (evO sl x)) fun n=>QT (.d (.int .i64 n))
 | .lenS x=>bnd (ZyI (evO sl x)) fun n=>QT (.d (.int .i64 n))
 | .append s b str flat x y=>Ztb hp s b str flat base (evO sl x) (evO sl y)
 | .min x y=>Zlw (evO sl x) (evO sl y)
 | .max x y=>Zlx (evO sl x) (evO sl y)
 | .call f as=>Zd8 C M hp base (evL sl as) (evO sl f)
 | .slice3 _ x lo hi mx=>WL (slice3 hp (evO sl x) (idx (evO sl lo)) (idx (evO sl hi)) (idx (evO sl mx)))
 | .clear s z x=>Zik (Zfz hp s z (evO sl x))
 | .stuck=>none
 | .buildDp s n xs=>buildDp hp base s n (evL sl xs)
 | .appDp s b _ x y=>ZqV hp s b base (evO sl x) (evO sl y)
 | .asgDp s n x=>asgDp base s n (evO sl x)
section
variable (P:Program)
def VD (t:TypeId):Option TypeId:=match P.underlying t with
 | some (.slice e)=>some e
 | _=>none
def ZbK (t:TypeId):Bool:=match P.underlying t with
 | some .string=>true
 | _=>false
def ZjC (t:TypeId):Bool:=match P.underlying t with
 | some .bool=>true
 | _=>false
def Zzk (t:TypeId):Option IntKind:=match P.underlying t with
 | some (.int k)=>some k
 | _=>none
def ZkE (t:TypeId):Option (Nat×TypeId):=match P.underlying t with
 | some (.array n e)=>some (n,e)
 | _=>none
def ZgC (t:TypeId):Option Bool:=match P.underlying t with
 | some (.struct _)=>some true
 | some (.array _ _)=>some true
 | some _=>some false
 | none=>none
def Zhm (s:TypeId) (f:Nat):Option (Nat×TypeId):=match P.underlying s with
 | some (.struct fs)=>match fs[f]? with
  | some x=>if P.cellsOf x.type=0 then none else some (x.offset,x.type)
  | none=>none
 | _=>none
def Zdo (t:TypeId):Option Value:=match P.info? t with
 | some i=>i.zero
 | none=>none
def Zx3:Nat→TypeId→List TypeId
 | 0,t=>[t]
 | n+1,t=>match P.underlying t with
  | some (.struct fs)=>fs.toList.flatMap fun f=>Zx3 n f.type
  | some (.array k e)=>(List.replicate k (Zx3 n e)).flatten
  | _=>[t]
def slcT (t:TypeId):List (Option Nat):=(Zx3 P 4 t).map fun c=>(VD P c).map P.cellsOf
def flatE (t:TypeId):Bool:=(Zx3 P 4 t).all fun c=>match P.underlying c with
 | some (.int _)=>true
 | some .bool=>true
 | some .string=>true
 | _=>false
def Zd9:Nat→TypeId→Nat→Option (List (Nat×Nat))
 | 0,_,_=>none
 | n+1,t,off=>match P.underlying t with
  | some (.int _)=>if P.cellsOf t=1 then some [(off,0)] else none
  | some .bool=>if P.cellsOf t=1 then some [(off,1)] else none
  | some .string=>if P.cellsOf t=1 then some [(off,2)] else none
  | some (.struct fs)=>if P.stoodInHeld t then none else
    bnd (Q6 (fun f:Field=>if f.name = "_"∨P.cellsOf t<f.offset+P.cellsOf f.type then none else Zd9 n f.type (off+f.offset)) fs.toList) fun ls=>some ls.flatten
  | _=>none
def YP (t:TypeId):Bool:=match P.underlying t with
 | some (.struct _)=>true
 | _=>false
def ZuQ (t:TypeId):Option (List Nat):=bnd (Zd9 P 5 t 0) fun ls=>
 if ls.map (·.1)=List.range (P.cellsOf t)∧YP P t=true∧P.eqGuardType P.depth t=false then some (ls.map (·.2)) else none
def ZuR (neg:Bool) (op:BinOp) (t:TypeId) (x y:Opd):Option (List Nat)→COp
 | some ks=>.eqA neg ks x y
 | none=>.bin op (ZjC P t) x y
def ZwC (op:BinOp) (t:TypeId) (x y:Opd):COp:=match op with
 | .eql=>ZuR P false .eql t x y (ZuQ P t)
 | .neq=>ZuR P true .neq t x y (ZuQ P t)
 | op=>.bin op (ZjC P t) x y
end
section
variable (P:Program)
def Qd:Operand→Option Opd
 | .tmp t=>some (.t t)
 | .const v=>some (.v (evC v))
 | .global _=>none
 | .func f=>some (.f f)
def ZuS (pl:Nat→Option (Nat×Nat)) (q:Nat×Operand):Option (Nat×Nat×Opd):=bnd (pl q.1) fun p=>bnd (Qd q.2) fun x=>some (p.1,p.2,x)
def cOO:Option Operand→Option (Option Opd)
 | none=>some none
 | some x=>bnd (Qd x) fun y=>some (some y)
def Zhn (t:TypeId):Option (Nat×TypeId)→Nat→Option (Nat×Nat)
 | none,i=>bnd (Zhm P t i) fun q=>some (q.1,P.cellsOf q.2)
 | some a,i=>some (i*P.cellsOf a.2,P.cellsOf a.2)
def Zaq (t:TypeId):Bool:=match P.info? t with
 | some i=>(match i.zero with
  | some z=>z.cells.size==i.size&&decide (0<i.size)
  | none=>false)
 | none=>false
def Zly (t:TypeId):Bool:=match P.underlying t with
 | some (.struct fs)=>fs.toList.all fun f=>(P.info? f.type).isSome
 | some (.array _ e)=>(P.info? e).isSome
 | _=>false
def ZnC (e:TypeId) (u:TypeId):Option Bool:=match VD P u with
 | some e'=>if e'=e then some false else none
 | none=>if ZbK P u then some true else none
def Zpj (x i:Opd) (a:Option (Nat×TypeId)):Option TypeId→Option COp
 | some e=>if (P.info? e).isSome then some (.iaS (P.cellsOf e) x i) else none
 | none=>bnd a fun a=>if (P.info? a.2).isSome then some (.iaA a.1 (P.cellsOf a.2) x i) else none
def Ztc (x i:Opd) (str:Bool) (a:Option (Nat×TypeId)):Option COp:=
 if str then some (.ixS x i) else bnd a fun a=>bnd (ZgC P a.2) fun g=>some (.ixA g (P.cellsOf a.2) a.1 x i)
def Zx4 (x:Opd) (ss sd:Bool):Option IntKind→Option IntKind→Option COp
 | some _,some k=>some (.convI k x)
 | _,_=>if ss&&sd then some (.convS x) else none
def cLen (x:Opd) (str:Bool):Option TypeId→Option COp
 | some _=>some (.len x)
 | none=>if str then some (.lenS x) else none
def ZwD (x:Opd) (lo hi:Option Opd) (str:Bool):Option TypeId→Option COp
 | some e=>if (P.info? e).isSome then some (.slice (P.cellsOf e) x lo hi) else none
 | none=>if str then some (.sliceS x lo hi) else none
def ZgD:Builtin→List Operand→List TypeId→Option COp
 | .len,[x],[t]=>bnd (Qd x) fun x=>cLen x (ZbK P t) (VD P t)
 | .append,[s,x],[t,u]=>bnd (VD P t) fun e=>bnd (ZnC P e u) fun str=>bnd (Qd s) fun s=>bnd (Qd x) fun x=>
   if Zaq P e then some (.append (P.cellsOf e) (P.bytesOf e) str (flatE P e) s x) else none
 | .min,[x,y],_=>bnd (Qd x) fun x=>bnd (Qd y) fun y=>some (.min x y)
 | .max,[x,y],_=>bnd (Qd x) fun x=>bnd (Qd y) fun y=>some (.max x y)
 | .clear,[x],[t]=>bnd (VD P t) fun e=>bnd (Qd x) fun x=>bnd (Zdo P e) fun z=>bnd (evD z) fun z=>if Zaq P e then some (.clear (P.cellsOf e) z x) else none
 | _,_,_=>none
def teOf (t:TypeId):Nat:=match bnd (Zhm P t 1) fun q=>VD P q.2 with
 | some e=>e
 | none=>0
def cOp (ty:TypeId):Op→Option COp
 | .move x=>bnd (Qd x) fun x=>some (.move x)
 | .assign x=>bnd (Qd x) fun x=>some (.assign (bnd (VD P ty) fun e=>some (P.cellsOf e)) x)
 | .pick c a b=>bnd (Qd c) fun c=>bnd (Qd a) fun a=>bnd (Qd b) fun b=>some (.pick c a b)
 | .alloc t=>bnd (Zdo P t) fun z=>some (.alloc (slcT P t) (bnT t (teOf P t) (evC z).cells))
 | .box _ x=>bnd (Qd x) fun x=>some (.box x)
 | .build t ps=>bnd (Zdo P t) fun z=>bnd (Q6 (ZuS (Zhn P t (ZkE P t))) ps.toList) fun qs=>if Zly P t then some (.build (evC z).cells qs) else none
 | .buildSlice t n ps=>bnd (VD P t) fun e=>bnd (Q6 (fun q:Nat×Operand=>Qd q.2) ps.toList) fun xs=>
   if ps.toList.map (·.1)=List.range n∧n*P.cellsOf e≤16777216∧Zaq P e then some (.buildSl (P.cellsOf e) xs) else none
 | .load t a=>bnd (ZgC P t) fun g=>bnd (Qd a) fun a=>some (.load g (P.cellsOf t) a)
 | .store t a x=>bnd (Qd a) fun a=>bnd (Qd x) fun x=>if (P.info? t).isSome then some (.store (slcT P t) (P.cellsOf t) a x) else none
 | .nilCheck x=>bnd (Qd x) fun x=>some (.nilCheck x)
 | .binOp op t x y _=>bnd (Qd x) fun x=>bnd (Qd y) fun y=>some (ZwC P op t x y)
 | .unOp op _ x=>bnd (Qd x) fun x=>some (.un op x)
 | .convert s d x=>bnd (Qd x) fun x=>Zx4 x (ZbK P s) (ZbK P d) (Zzk P s) (Zzk P d)
 | .makeFunc (.func f) fs cs=>if fs.toList.isEmpty then bnd (Q6 Qd cs.toList) fun cs=>some (.fn f cs) else none
 | .makeSlice t l c=>bnd (VD P t) fun e=>bnd (Qd l) fun l=>bnd (Qd c) fun c=>bnd (Zdo P e) fun z=>bnd (evD z) fun z=>if Zaq P e then some (.make (P.cellsOf e) (P.bytesOf e) z l c) else none
 | .slice t x lo hi none=>bnd (Qd x) fun x=>bnd (cOO lo) fun lo=>bnd (cOO hi) fun hi=>ZwD P x lo hi (ZbK P t) (VD P t)
 | .slice t x none (some hi) (some mx)=>bnd (VD P t) fun e=>if (P.info? e).isSome then bnd (Qd x) fun x=>bnd (Qd hi) fun hi=>bnd (Qd mx) fun mx=>some (.slice0 x hi mx) else none
 | .slice t x (some lo) (some hi) (some mx)=>bnd (VD P t) fun e=>if (P.info? e).isSome then bnd (Qd x) fun x=>bnd (Qd lo) fun lo=>bnd (Qd hi) fun hi=>bnd (Qd mx) fun mx=>some (.slice3 (P.cellsOf e) x lo hi mx) else none
 | .fieldAddr s x f=>bnd (Zhm P s f) fun q=>bnd (Qd x) fun x=>some (.shift q.1 x)
 | .field t x f=>bnd (Zhm P t f) fun q=>bnd (ZgC P q.2) fun g=>bnd (Qd x) fun x=>some (.part g (P.cellsOf q.2) q.1 x)
 | .indexAddr t x i=>bnd (Qd x) fun x=>bnd (Qd i) fun i=>Zpj P x i (ZkE P t) (VD P t)
 | .index t x i=>bnd (Qd x) fun x=>bnd (Qd i) fun i=>Ztc P x i (ZbK P t) (ZkE P t)
 | .extract x i=>bnd (Qd x) fun x=>some (.nth i x)
 | .call { callee:=.builtin b,args:=as,argTypes:=ts }=>ZgD P b as.toList ts.toList
 | .call { callee:=.value f,args:=as,argTypes:=_ }=>bnd (Qd f) fun f=>bnd (Q6 Qd as.toList) fun as=>some (.call f as)
 | _=>none
def Zpk (ops:List Oper):Option (Nat×Bool)→Option (Option (Nat×Bool))
 | none=>some none
 | some q=>bnd ops[q.1]? fun g=>bnd g.dst fun t=>some (some (t,q.2))
def XI (nt:Nat):Option Nat→Bool
 | none=>true
 | some t=>decide (t<nt)
def UB (ops:Array Oper) (i:Nat):List Nat:=match ops[i]? with
 | some o=>(o.after.toList.filter fun e=>Region.binds .any e).map fun e=>e.on
 | none=>[]
def ZkF (ops:Array Oper):Nat→Nat→Nat→Bool
 | 0,i,j=>(UB ops i).contains j
 | n+1,i,j=>(UB ops i).contains j || (UB ops i).any fun z=>ZkF ops n z j
def startO:Op→Bool
 | .call { callee:=.builtin .append,args:=_,argTypes:=_ }=>true
 | .buildSlice _ _ _=>true
 | _=>false
def callO:Op→Bool
 | .call { callee:=.value (.func _),args:=_,argTypes:=_ }=>true
 | _=>false
def ZAQ:Op→Bool
 | .move _=>true
 | _=>false
def aheadO:Op→Bool
 | .store _ _ _=>false
 | .box _ _=>false
 | .assign _=>false
 | .makeFunc _ _ _=>false
 | .makeSlice _ _ _=>false
 | .call { callee:=.builtin .append,args:=_,argTypes:=_ }=>false
 | .call { callee:=.value _,args:=_,argTypes:=_ }=>false
 | _=>true
def ZC2:Op→Bool
 | .move _=>true
 | .alloc _=>true
 | .buildSlice _ _ _=>true
 | .load _ _=>true
 | .nilCheck _=>true
 | .binOp _ _ _ _ _=>true
 | .unOp _ _ _=>true
 | .convert _ _ _=>true
 | .fieldAddr _ _ _=>true
 | .indexAddr _ _ _=>true
 | .slice _ _ _ _ _=>true
 | .call { callee:=.builtin .len,args:=_,argTypes:=_ }=>true
 | _=>false
def appO:Op→Bool
 | .call { callee:=.builtin .append,args:=_,argTypes:=_ }=>true
 | _=>false
def lookO:Op→Bool
 | .move _=>true
 | .load _ _=>true
 | .nilCheck _=>true
 | .binOp _ _ _ _ _=>true
 | .convert _ _ _=>true
 | .fieldAddr _ _ _=>true
 | .field _ _ _=>true
 | .extract _ _=>true
 | .indexAddr _ _ _=>true
 | .slice _ _ _ _ _=>true
 | .call { callee:=.builtin .len,args:=_,argTypes:=_ }=>true
 | _=>false
def atO (f:Op→Bool) (ops:List Oper) (k:Nat):Bool:=match ops[k]? with
 | some o=>f o.op
 | none=>false
def firmAt (ops:List Oper) (i:Nat):Bool:=
 (List.range ops.length).all fun k=>if k<i then ZkF ops.toArray 6 i k || atO ZAQ ops k else k==i || ZkF ops.toArray 6 k i || atO ZAQ ops k
def firmP (ops:List Oper) (i:Nat):Bool:=
 (List.range ops.length).all fun k=>if k<i then ZkF ops.toArray 6 i k || atO lookO ops k else k==i || ZkF ops.toArray 6 k i || atO ZAQ ops k
def firmC (ops:List Oper) (i:Nat):Bool:=
 (List.range ops.length).all fun k=>if k<i then ZkF ops.toArray 6 i k || atO aheadO ops k else k==i || ZkF ops.toArray 6 k i || atO ZC2 ops k
def Zpl (ops:List Oper) (o:Oper):Nat:=ops.findIdx fun x=>x.dst==o.dst
def firm (ops:List Oper) (o:Oper):Bool:=(startO o.op&&firmAt ops (Zpl ops o)) || (callO o.op&&firmC ops (Zpl ops o)) || (appO o.op&&firmP ops (Zpl ops o))
def Zaf:Option COp→COp
 | some c=>c
 | none=>.stuck
def ZnD (nt:Nat) (ops:List Oper) (o:Oper):Option CO:=bnd (Zpk ops o.guard) fun g=>
 if XI nt o.dst then some { dst:=o.dst,guard:=g,op:=Zaf (cOp P o.type o.op),tl:=firm ops o } else none
end
end Go.Abs
