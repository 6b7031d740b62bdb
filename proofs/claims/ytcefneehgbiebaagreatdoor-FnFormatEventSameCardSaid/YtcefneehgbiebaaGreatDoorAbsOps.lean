/- Own text. -/
import Derived.Test.YtcefneehgbiebaaGreatDoorAbsBase
set_option linter.unusedVariables false
set_option linter.unusedSimpArgs false
namespace Go.Abs
open Go
def mat:List (Option Nat)→List AV→Nat→List AV×Hp
 | some s :: ts,.nil :: vs,b=>let r:=mat ts vs (b+1);(.own b :: r.1,(b,.row s [] true false) :: r.2)
 | _ :: ts,v :: vs,b=>let r:=mat ts vs b;(v :: r.1,r.2)
 | _,vs,_=>(vs,[])
def ZkF:List AV→Bool
 | []=>false
 | .nil :: _=>true
 | _ :: r=>ZkF r
structure Eff where
 val:AV
 adds:Hp:=[]
 sets:Hp:=[]
 dels:List Nat:=[]
 frz:List Nat:=[]
def Zh:Hp→Hp→Hp
 | hp,[]=>hp
 | hp,(k,o) :: r=>Zh (ins hp k o) r
def del:Hp→Nat→Hp
 | [],_=>[]
 | (k,o) :: r,t=>if k=t then del r t else (k,o) :: del r t
def Qm:Hp→List Nat→Hp
 | hp,[]=>hp
 | hp,k :: r=>Qm (del hp k) r
def Qc (ids:List Nat) (hp:Hp):Hp:=match ids with
 | []=>hp
 | _=>freeze ids hp
def Eff.on (e:Eff) (hp:Hp):Hp:=Zh (Zh (Qm (Qc e.frz hp) e.dels) e.sets) e.adds
def ZyA:List AV→Nat→List AV→List AV
 | cs,_,[]=>cs
 | cs,off,v :: r=>ZyA (cs.set off v) (off+1) r
def ZlX:List AV→List (Nat×Nat×AV)→Option (List AV)
 | cells,[]=>some cells
 | cells,q :: r=>if q.2.2.solid∧q.2.2.cells.length=q.2.1∧q.1+q.2.1≤cells.length then ZlX (ZyA cells q.1 q.2.2.cells) r else none
def AV.atom:AV→Bool
 | .d x=>x.one
 | .agg _=>false
 | .tup _=>false
 | .clo _ _=>false
 | _=>true
def Zhx:List AV→Bool
 | []=>true
 | v :: r=>v.atom&&Zhx r
def cloV (f:Nat) (cs:List AV):Option AV:=if Zhx cs then some (.clo f cs) else none
def Zjs:AV→AV
 | .bbuf _ _=>.junk
 | v=>v
def Za0 (agg:Bool) (s off:Nat):Option Zl→Option AV
 | some (.box cs)=>if agg then (if off+s≤cs.length then some (Jw ((cs.drop off).take s)) else none) else (cs[off]?).map Zjs
 | _=>none
def ZdE (agg:Bool) (s off:Nat) (cs:List D):Option AV:=
 if agg then (if off+s≤cs.length then some (.d (.agg ((cs.drop off).take s))) else none) else asD cs[off]?
def Zjt (agg:Bool) (s sz off:Nat) (x:D):Option AV:=if x.cells.length=sz then ZdE agg s off x.cells else none
def ZuF (id i off:Nat):Option (Nat×Nat×Nat)→Option AV
 | some (nm,i',c)=>if i=i'∧off=c then some (.sub id nm) else none
 | none=>none
def Zep (id i off:Nat) (lk:Option (Nat×Nat×Nat)) (x:D):Option AV:=match x.cells[off]? with
 | some (.sl _)=>ZuF id i off lk
 | some y=>if y.plain then some (.d y) else none
 | none=>none
def Za1 (id:Nat) (agg:Bool) (s sz i off:Nat):Option Zl→Option AV
 | some (.row sz' xs _ _)=>if sz=sz' then bnd xs[i]? (Zjt agg s sz off) else none
 | some (.deep sz' _ xs lk)=>if sz=sz' then (if agg then none else bnd xs[i]? (Zep id i off lk)) else none
 | _=>none
def Uz (hp:Hp) (agg:Bool) (s:Nat):AV→Option AV
 | .ptr id off=>Za0 agg s off (lkp hp id)
 | .prow id sz i off=>Za1 id agg s sz i off (lkp hp id)
 | .pim cs=>ZdE agg s 0 cs
 | _=>none
def ZsY:AV→Option D
 | .d x=>if x.plain then some x else none
 | _=>none
def ZuG:List AV→Option (List D)
 | []=>some []
 | v :: r=>bnd (ZsY v) fun x=>bnd (ZuG r) fun ds=>some (x :: ds)
def Zeq (slc:List (Option Nat)) (s base id off:Nat) (vs:List AV):Option Zl→Option Eff
 | some (.box cs)=>if vs.length=s∧off+s≤cs.length∧Ye vs∧XU cs=true then
    (if ZkF vs then some { val := .junk, adds := (mat slc vs base).2, sets := [(id, .box (Z9 cs off (mat slc vs base).1))] }
      else some { val:=.junk,sets:=[(id,.box (Z9 cs off vs))] })
   else none
 | _=>none
def D.notSl:D→Bool
 | .sl _=>false
 | _=>true
def Zer (s id sz i off:Nat) (xs:List D) (ex:Bool) (x:D) (q:List D×Bool×List Nat):Option Eff:=
 if x.notSl∧x.cells.length=sz∧q.1.length=s∧off+s≤sz∧q.2.2.contains id=false then
  some { val:=.junk,sets:=[(id,.row sz (xs.set i (Ze0 x off q.1)) (ex&&q.2.1) false)],frz:=q.2.2 } else none
def Zct (hp:Hp) (s id sz i off:Nat) (vs:List AV):Option Zl→Option Eff
 | some (.row sz' xs ex false)=>if sz=sz' then bnd xs[i]? fun x=>bnd (Wp hp vs) fun q=>Zer s id sz i off xs ex x q else none
 | _=>none
def ZaB (hp:Hp) (slc:List (Option Nat)) (s base:Nat) (vs:List AV):AV→Option Eff
 | .ptr id off=>Zeq slc s base id off vs (lkp hp id)
 | .prow id sz i off=>Zct hp s id sz i off vs (lkp hp id)
 | _=>none
def uni (s:Nat) (ys:List D):Prop:=∀ y∈ys,y.cells.length=s
def ZR:Nat:=140737488355328
def QG (ys:List D):Prop:=∀ y∈ys,y.flat=true
def ZsZ (flat:Bool):Option Zl→Option (List D×Bool)
 | some (.row _ ys ex _)=>some (ys,ex || flat)
 | _=>none
def Zn7:AV→Option (List D×Bool)
 | .d (.str s)=>some (s.map fun b=>.int .u8 b.toNat,true)
 | _=>none
def Zno (flat:Bool) (off n:Nat):Option Zl→Option (List D×Bool)
 | some (.row _ ys ex _)=>some ((ys.drop off).take n,ex || flat)
 | _=>none
def Zes (hp:Hp) (flat:Bool):AV→Option (List D×Bool)
 | .nil=>some ([],true)
 | .d (.sl ys)=>some (ys,flat)
 | .own id=>ZsZ flat (lkp hp id)
 | .ownv id off n=>Zno flat off n (lkp hp id)
 | _=>none
def Zgz (sz base:Nat) (dels:List Nat) (xs:List D) (ex:Bool):Eff:=
 { val:=.own base,adds:=[(base,.row sz xs ex false)],dels:=dels }
def ZkG (sz by_ base id:Nat) (ys:List D) (ex' : Bool):Option Zl→Option Eff
 | some (.row sz' xs ex false)=>if sz'=sz∧(xs.length+ys.length)*by_≤ZR∧xs.length+ys.length≤ZR then some (Zgz sz base [id] (xs++ys) (ex&&ex')) else none
 | _=>none
def Zhy (sz by_ base id n:Nat) (ys:List D) (ex' : Bool):Option Zl→Option Eff
 | some (.row sz' xs ex false)=>if sz'=sz∧(n+ys.length)*by_≤ZR∧n+ys.length≤ZR then some (Zgz sz base [id] (xs.take n++ys) (ex&&ex')) else none
 | _=>none
def Zhz (sz base id n:Nat) (ys:List D) (ex' : Bool):Option Zl→Option Eff
 | some (.row sz' xs ex false)=>if sz'=sz∧0<xs.length∧n+ys.length≤xs.length then
   some { val:=.ownv base 0 (n+ys.length),adds:=[(base,.row sz (xs.take n++ys++xs.drop (n+ys.length)) (ex&&ex') false)],dels:=[id] } else none
 | _=>none
def ZgA (hp:Hp) (sz by_:Nat) (base:Nat) (src:List Nat) (ys:List D) (ex' : Bool):AV→Option Eff
 | .nil=>if ys.length*by_≤ZR∧ys.length≤ZR then some (Zgz sz base [] ys ex') else none
 | .own id=>if src.contains id then none else ZkG sz by_ base id ys ex' (lkp hp id)
 | .ownv id off n=>if off≠0 then none else if src.contains id then Zhz sz base id n ys ex' (lkp hp id) else Zhy sz by_ base id n ys ex' (lkp hp id)
 | _=>none
open Classical in
noncomputable def W1 (hp:Hp) (sz by_:Nat) (str flat:Bool) (base:Nat) (s x:AV):Option Eff:=
 bnd (if str then Zn7 x else Zes hp flat x) fun q=>if uni sz q.1∧(flat=true→QG q.1) then ZgA hp sz by_ base (ZbO x) q.1 q.2 s else none
def idx (i:AV):Option Int:=match i with
 | .d (.int _ n)=>some n
 | _=>none
def Zxx (sz:Nat) (y:D):Option AV:=if y.cells.length=sz then some (.pim y.cells) else none
def Zdk (sz id n:Nat):Option Zl→Option AV
 | some (.row sz' xs _ _)=>if sz'=sz∧n<xs.length then some (.prow id sz n 0) else none
 | some (.deep sz' _ xs _)=>if sz'=sz∧n<xs.length then some (.prow id sz n 0) else none
 | _=>none
def Zcu (sz id off m n:Nat):Option Zl→Option AV
 | some (.row sz' _ _ _)=>if sz'=sz∧n<m then some (.prow id sz (off+n) 0) else none
 | _=>none
def Qy (hp:Hp) (sz n:Nat):AV→Option AV
 | .d (.sl xs)=>bnd xs[n]? (Zxx sz)
 | .own id=>Zdk sz id n (lkp hp id)
 | .ownv id off m=>Zcu sz id off m n (lkp hp id)
 | _=>none
def bd (m:Nat) (v:AV):Option Nat:=bnd (idx v) fun n=>if 0≤n∧n≤m then some n.toNat else none
def hiOf (len:Nat):Option AV→Option Nat
 | none=>some len
 | some v=>bd len v
def loOf (h:Nat):Option AV→Option Nat
 | none=>some 0
 | some v=>bd h v
def Zs0 (len:Nat) (lo hi:Option AV):Option (Nat×Nat):=bnd (hiOf len hi) fun h=>bnd (loOf h lo) fun l=>some (l,h)
def ZuH (id n:Nat):Option AV→Option AV→Option AV
 | none,none=>some (.own id)
 | lo,hi=>bnd (Zs0 n lo hi) fun b=>some (.ownv id b.1 (b.2-b.1))
def Zcv (s id:Nat) (lo hi:Option AV):Option Zl→Option AV
 | some (.row sz xs _ _)=>if sz=s then ZuH id xs.length lo hi else none
 | _=>none
def ZzI (n m:Nat) (lo:Option AV):Option AV→Option (Nat×Nat)
 | none=>Zs0 n lo none
 | some h=>Zs0 m lo (some h)
def ZaC (s id off n:Nat) (lo hi:Option AV):Option Zl→Option AV
 | some (.row sz xs _ _)=>if sz=s then bnd (ZzI n (xs.length-off) lo hi) fun b=>some (.ownv id (off+b.1) (b.2-b.1)) else none
 | _=>none
def slice3 (hp:Hp) (x:AV) (lo hi mx:Option Int):Option AV:=bnd lo fun l=>bnd hi fun h=>bnd mx fun m=>bnd (ZdC hp x) fun n=>
 if 0≤l∧l≤h∧h≤m∧m≤n then some .junk else none
def ZgB (s id off n:Nat) (z:D):Option Zl→Option Eff
 | some (.row sz xs ex false)=>if sz=s∧z.cells.length=s∧off+n≤xs.length then some { val:=.tup [],sets:=[(id,.row sz (xs.take off++List.replicate n z++xs.drop (off+n)) ex false)] } else none
 | _=>none
def ZdF (hp:Hp) (s:Nat) (z:D):AV→Option Eff
 | .ownv id off n=>ZgB s id off n z (lkp hp id)
 | _=>none
open Classical in
noncomputable def Wm (hp:Hp) (s:Nat) (lo hi:Option AV):AV→Option AV
 | .d (.sl xs)=>if uni s xs then bnd (Zs0 xs.length lo hi) fun b=>some (.d (.sl ((xs.take b.2).drop b.1))) else none
 | .nil=>bnd (Zs0 0 lo hi) fun _=>some .nil
 | .own id=>Zcv s id lo hi (lkp hp id)
 | .ownv id off n=>ZaC s id off n lo hi (lkp hp id)
 | _=>none
def sliceS (lo hi:Option AV):AV→Option AV
 | .d (.str s)=>bnd (Zs0 s.length lo hi) fun b=>some (.d (.str ((s.take b.2).drop b.1)))
 | _=>none
def slice0 (hp:Hp) (x:AV) (hi mx:Option Int):Option AV:=match hi,mx with
 | some 0,some 0=>bnd (ZdC hp x) fun _=>some .nil
 | _,_=>none
def Zju (agg:Bool) (s off:Nat):AV→Option AV
 | .d (.agg cs)=>ZdE agg s off cs
 | .agg cs=>if agg then (if off+s≤cs.length then some (Jw ((cs.drop off).take s)) else none) else cs[off]?
 | _=>none
abbrev Orc:=Nat→List AV→List Zl→Option (AV×List Zl)
abbrev Zn:=Nat→Nat→Bool
def Zfb (hp:Hp) (id:Nat):Bool→Option AV
 | true=>some (.own id)
 | false=>asD (ZhX hp (.own id))
def ZgC:Bool→Option AV
 | true=>some .nil
 | false=>some (.d (.sl []))
def ZdG (hp:Hp) (m:Bool):AV→Option AV
 | .ptr a b=>some (.ptr a b)
 | .clo f c=>some (.clo f c)
 | .nilp=>some .nilp
 | .nili=>some .nili
 | .pim c=>some (.pim c)
 | .own id=>Zfb hp id m
 | .nil=>ZgC m
 | .d x=>some (.d x)
 | v=>asD (toD hp v)
def args (hp:Hp) (m:Nat→Bool):Nat→List AV→Option (List AV)
 | _,[]=>some []
 | i,v :: r=>bnd (ZdG hp (m i) v) fun a=>bnd (args hp m (i+1) r) fun as=>some (a :: as)
def JC (hp:Hp) (go:List Nat→List Nat→List Nat) (id:Nat) (todo acc:List Nat):Option Zl→List Nat
 | some o=>go (todo++Zbe o) (acc++[id])
 | none=>go todo acc
def QL (hp:Hp):Nat→List Nat→List Nat→List Nat
 | 0,_,acc=>acc
 | _+1,[],acc=>acc
 | n+1,id :: todo,acc=>if acc.contains id then QL hp n todo acc else JC hp (QL hp n) id todo acc (lkp hp id)
def Wr:List Nat→Nat→Nat
 | [],_=>0
 | x :: r,t=>if x=t then 0 else Wr r t+1
def Zjv:Option Zl→Zl
 | some o=>o
 | none=>.row 0 [] true false
def Zcw (hp:Hp):List Nat→List Zl
 | []=>[]
 | id :: r=>Zjv (lkp hp id) :: Zcw hp r
def JD (ids:List Nat) (o:Zl):Zl:=Zmi (Wr ids) (XV ((Zbe o).filter fun i=>!ids.contains i) o)
def Y1:Option Zl→Bool
 | some (.row _ _ _ _)=>true
 | some (.deep _ _ _ _)=>true
 | _=>false
def Zcx:AV→Bool
 | .d x=>x.flat
 | .pim _=>false
 | .agg _=>false
 | .tup _=>false
 | .clo _ _=>false
 | _=>true
def ZdH:AV→Bool
 | .agg cs=>cs.all Zcx
 | .clo _ cs=>cs.all Zcx
 | v=>Zcx v
def ZrP:AV→Bool
 | .tup vs=>vs.all ZdH
 | v=>ZdH v
def ZiA:Zl→Bool
 | .box cs=>cs.all ZdH
 | .row _ _ ex fz=>ex&&!fz
 | .deep _ _ _ _=>true
def ZiB (d:Nat):Option Nat→Nat
 | some i=>i
 | none=>d
def WF (ids:List Nat) (base k:Nat):Nat:=ZiB (base+(k-ids.length)) ids[k]?
def Zcy (g:Nat→Nat):List Nat→List Zl→Hp
 | id :: ids,o :: os=>(id,Zmi g o) :: Zcy g ids os
 | _,_=>[]
def Zcz (g:Nat→Nat):Nat→List Zl→Hp
 | _,[]=>[]
 | k,o :: os=>(k,Zmi g o) :: Zcz g (k+1) os
structure Zd where
 eff:Eff
 gone:List Nat
def Q9 (_hp:Hp):Nat:=1000
def YN:List AV→List AV→List Nat
 | v :: vs,.d _ :: as=>ZeZ v++YN vs as
 | _ :: vs,_ :: as=>YN vs as
 | _,_=>[]
def Zby:Option Zl→Bool
 | some (.deep _ _ _ _)=>true
 | _=>false
def JE (hp:Hp) (base:Nat) (ids lent:List Nat) (r:AV) (out:List Zl):Option Zd:=
 if out.length<ids.length then none else if !(ZrP r&&out.all ZiA)&&lent.any fun i=>Zby (lkp hp i) then none else
  some { eff := { val:=ren (WF ids base) r,adds:=Zcz (WF ids base) base (out.drop ids.length),sets:=Zcy (WF ids base) ids out,frz:=if ZrP r&&out.all ZiA then [] else lent },gone:=ids.filter fun i=>Y1 (lkp hp i) }
def Zbh:AV→List Nat
 | .ptr id _=>[id]
 | .clo _ cs=>cs.flatMap Zm
 | _=>[]
def Zb1 (hp:Hp) (rs ids:List Nat):Bool:=ids.all fun i=>Y1 (lkp hp i) || rs.contains i
def Zdl (C:Orc) (hp:Hp) (base f:Nat) (lent:List Nat) (as:List AV) (ids:List Nat):Option Zd:=
 if (as.flatMap ZB).all ids.contains∧¬lent.any ids.contains∧Zb1 hp (as.flatMap Zbh) ids=true then
  bnd (C f (as.map (ren (Wr ids))) ((Zcw hp ids).map (JD ids))) fun q=>JE hp base ids lent q.1 q.2
 else none
def ZbR (C:Orc) (m:Nat→Bool) (hp:Hp) (base f:Nat) (avs:List AV):Option Zd:=
 bnd (args hp m 0 avs) fun as=>Zdl C hp base f (YN avs as) as (QL hp (Q9 hp) (as.flatMap ZB) [])
def QM (v:AV):Option Zd:=some { eff := { val:=v },gone:=[] }
def VE (v:Option AV):Option Zd:=bnd v QM
def Zgg (e:Option Eff):Option Zd:=bnd e fun e=>some { eff:=e,gone:=[] }
def Zdm (base:Nat) (e:Option Nat):AV→Option Zd
 | .nil=>bnd e fun s=>some { eff := { val:=.own base,adds:=[(base,.row s [] true false)] },gone:=[] }
 | v=>QM v
def Zf3 (a b:AV):AV→Option Zd
 | .d (.bool t)=>if t then QM a else QM b
 | _=>none
def ZiC (base:Nat):AV→AV
 | .bnil _ e=>.bnil base e
 | v=>v
def bnT (t te:Nat):List AV→List AV
 | [.nilp,.nil]=>[.bnil 0 t,.bbuf te []]
 | cs=>cs
def ZzJ:List AV→Bool
 | [.bnil _ _,.bbuf _ []]=>true
 | _=>false
def ZkH (slc:List (Option Nat)) (base:Nat) (cs:List AV):Option Zd:=
 if XU cs=false then (if ZzJ cs=true then some { eff := { val:=.ptr base 0,adds:=[(base,.box cs)] },gone:=[] } else none) else
 if ZkF cs then some { eff := { val:=.ptr base 0,adds:=(base,.box (mat slc cs (base+1)).1) :: (mat slc cs (base+1)).2 },gone:=[] }
 else some { eff := { val:=.ptr base 0,adds:=[(base,.box cs)] },gone:=[] }
def Zfc (slc:List (Option Nat)) (base:Nat) (cs:List AV):Option Zd:=ZkH slc base (cs.map (ZiC base))
def Zwe (base:Nat) (x:AV):Option Zd:=if x.solid&&XU x.cells then some { eff := { val:=.ptr base 0,adds:=[(base,.box x.cells)] },gone:=[] } else none
def Zn8 (zs:List AV) (ps:List (Nat×Nat×AV)):Option Zd:=bnd (ZlX zs ps) fun cs=>QM (Jw cs)
def Zwf (base s:Nat) (q:List D×Bool×List Nat):Option Zd:=
 if q.1.all (fun d=>d.cells.length==s) then some { eff := { val:=.own base,adds:=[(base,.row s q.1 q.2.1 false)],frz:=q.2.2 },gone:=[] } else none
def buildSl (hp:Hp) (base s:Nat):List AV→Option Zd
 | []=>QM .nil
 | v :: vs=>bnd (WZ hp (v :: vs)) (Zwf base s)
def Zdn (hp:Hp) (n:Nat):AV→Option (D×List Nat)
 | .d x=>if x.plain then some (x,[]) else none
 | .nil=>some (.sl [],[])
 | .own id=>deepRow n id (lkp hp id)
 | _=>none
where deepRow (n id:Nat):Option Zl→Option (D×List Nat)
 | some (.row sz xs true false)=>if sz=n∧Zbw D.flat xs then some (.sl xs,[id]) else none
 | _=>none
def Zet (hp:Hp) (n:Nat):List AV→Option (List D×List Nat)
 | []=>some ([],[])
 | v :: r=>bnd (Zdn hp n v) fun q=>bnd (Zet hp n r) fun p=>if !q.2.any p.2.contains then some (q.1 :: p.1,q.2++p.2) else none
def asgDp (base s n:Nat):AV→Option Zd
 | .nil=>some { eff := { val:=.own base,adds:=[(base,.deep s n [] none)] },gone:=[] }
 | _=>none
def buildDp (hp:Hp) (base s n:Nat):List AV→Option Zd
 | [.agg cs]=>bnd (Zet hp n cs) fun q=>if q.1.length=s then some { eff := { val:=.own base,adds:=[(base,.deep s n [.agg q.1] none)],dels:=q.2 },gone:=[] } else none
 | _=>none
def JF:AV→Option Zd
 | .ptr a b=>QM (.ptr a b)
 | .prow a b c d=>QM (.prow a b c d)
 | .pim c=>QM (.pim c)
 | .clo f c=>QM (.clo f c)
 | _=>none
def Zjw (op:BinOp) (eq:Bool):AV→AV→Option Zd
 | .d (.bool a),.d (.bool b)=>if eq then VE (Zrn op a b) else none
 | a,b=>VE (vbin op a b)
def Zar:List Nat→List D→List D→Option Bool
 | [],[],[]=>some true
 | 0 :: ks,.int k a :: cs,.int k' b :: ds=>if k=k' then bnd (Zar ks cs ds) fun r=>some (decide (a=b)&&r) else none
 | 1 :: ks,.bool a :: cs,.bool b :: ds=>bnd (Zar ks cs ds) fun r=>some (decide (a=b)&&r)
 | 2 :: ks,.str a :: cs,.str b :: ds=>bnd (Zar ks cs ds) fun r=>some (decide (a=b)&&r)
 | _,_,_=>none
def Zn9 (neg:Bool) (r:Bool):Bool:=if neg then !r else r
def Zqf (neg:Bool) (ks:List Nat):AV→AV→Option Zd
 | .d (.agg cs),.d (.agg ds)=>bnd (Zar ks cs ds) fun r=>QM (.d (.bool (Zn9 neg r)))
 | _,_=>none
def convI (k:IntKind):AV→Option Zd
 | .d (.int _ n)=>QM (.d (.int k (k.wrap n)))
 | _=>none
def convS:AV→Option Zd
 | .d (.str s)=>QM (.d (.str s))
 | _=>none
def Zoa (base s b:Nat) (z:D) (l c:Int):Option Zd:=
 if 0≤l∧l≤c∧c*b≤ZR∧c≤ZR∧z.cells.length=s then
  some { eff := { val:=.own base,adds:=[(base,.row s (List.replicate l.toNat z) true false)] },gone:=[] } else none
def VF (off:Nat):AV→Option Zd
 | .ptr id o=>QM (.ptr id (o+off))
 | .prow id sz i o=>QM (.prow id sz i (o+off))
 | .pim cs=>QM (.pim (cs.drop off))
 | _=>none
def ZlY (x:AV) (n:Int) (len s:Nat):Option Zd:=if 0≤n∧n<len then VF (n.toNat*s) x else none
def ZgD (hp:Hp) (s:Nat) (x:AV) (n:Int):Option Zd:=if 0≤n then VE (Qy hp s n.toNat x) else none
def ZrQ (s:List UInt8) (n:Int):Option Zd:=if 0≤n then bnd s[n.toNat]? fun b=>QM (.d (.int .u8 b.toNat)) else none
def Zwg (g:Bool) (s len:Nat) (n:Int) (v:AV):Option Zd:=if 0≤n∧n<len then VE (Zju g s (n.toNat*s) v) else none
def ZuI (n:Int):AV→Option Zd
 | .d (.str s)=>ZrQ s n
 | _=>none
def Zs1 (i:Nat):AV→Option Zd
 | .tup vs=>VE vs[i]?
 | _=>none
def ZiD:Option Zl→Option (Nat×Nat×List D)
 | some (.deep s n xs _)=>some (s,n,xs)
 | _=>none
def Zdo (hp:Hp):AV→Option (Nat×Nat×Nat×List D)
 | .own id=>bnd (ZiD (lkp hp id)) fun q=>some (id,q)
 | _=>none
def Zb2 (hp:Hp) (s b base id n:Nat) (ys:List D):AV→Option Eff
 | .nil=>if ys.length*b≤ZR∧ys.length≤ZR then some { val:=.own base,adds:=[(base,.deep s n ys none)],dels:=[id] } else none
 | .own id1=>bnd (ZiD (lkp hp id1)) fun q=>if q.1=s∧q.2.1=n∧id1≠id∧(q.2.2.length+ys.length)*b≤ZR∧q.2.2.length+ys.length≤ZR then
   some { val:=.own base,adds:=[(base,.deep s n (q.2.2++ys) none)],dels:=[id1,id] } else none
 | _=>none
def Zjx (xs:List D) (i c:Nat):Option (List D):=bnd xs[i]? fun x=>match x.cells[c]? with
 | some (.sl ys)=>some ys
 | _=>none
open Classical in
noncomputable def ZiE (s b base id nm:Nat) (q:List D×Bool):Option Zl→Option Eff
 | some (.deep sz n xs (some (nm',i,c)))=>bnd (Zjx xs i c) fun fl=>if nm=nm'∧n=s∧uni s q.1∧QG q.1∧(fl.length+q.1.length)*b≤ZR∧fl.length+q.1.length≤ZR then
   some { val:=.own base,adds:=[(base,.row s (fl++q.1) true true)],sets:=[(id,.row sz xs true false)] } else none
 | _=>none
def Yu (hp:Hp):AV→List Nat
 | .own id=>if Zby (lkp hp id) then [id] else []
 | _=>[]
def ZcA:Zl→Zl
 | .deep s _ xs _=>.row s xs true false
 | o=>o
def meltIn (hp:Hp):List Nat→Hp
 | []=>hp
 | i :: r=>match lkp hp i with
  | some o=>ins (meltIn hp r) i (ZcA o)
  | none=>meltIn hp r
noncomputable def VG (hp:Hp) (s b:Nat) (str flat:Bool) (base:Nat) (x y:AV):List Nat→Option Eff
 | []=>W1 hp s b str flat base x y
 | i :: r=>if flat then none else bnd (W1 (meltIn hp (i :: r)) s b str flat base x y) fun e=>some { val:=e.val,adds:=e.adds,sets:=e.sets,dels:=e.dels++(i :: r),frz:=e.frz }
noncomputable def Zeu (hp:Hp) (s b:Nat) (str flat:Bool) (base:Nat) (y:AV):AV→Option Eff
 | .sub id nm=>if str then none else bnd (Zes hp true y) fun q=>if (ZbO y).contains id then none else ZiE s b base id nm q (lkp hp id)
 | x=>VG hp s b str flat base x y (Yu hp x++Yu hp y)
def Zqg (hp:Hp) (s b base:Nat) (x y:AV):Option Zd:=Zgg (bnd (Zdo hp y) fun q=>if q.2.1=s then Zb2 hp s b base q.1 q.2.2.1 q.2.2.2 x else none)
noncomputable def Zs2 (hp:Hp) (s b:Nat) (str flat:Bool) (base:Nat) (x y:AV):Option Zd:=Zgg (Zeu hp s b str flat base y x)
def Zjy:AV→AV→Option Zd
 | .d (.int k a),.d (.int k' b)=>if k=k' then QM (.d (.int k (minI a b))) else none
 | _,_=>none
def Zjz:AV→AV→Option Zd
 | .d (.int k a),.d (.int k' b)=>if k=k' then QM (.d (.int k (maxI a b))) else none
 | _,_=>none
inductive Opd where
 | t (n:Nat)
 | v (a:AV)
 | f (n:Nat)
def evO (sl:Sl):Opd→AV
 | .t n=>gs sl n
 | .v a=>a
 | .f n=>.clo n []
def evL (sl:Sl):List Opd→List AV
 | []=>[]
 | x :: r=>evO sl x :: evL sl r
def evP (sl:Sl):List (Nat×Nat×Opd)→List (Nat×Nat×AV)
 | []=>[]
 | (a,b,x) :: r=>(a,b,evO sl x) :: evP sl r
def evM (sl:Sl):Option Opd→Option AV
 | none=>none
 | some x=>some (evO sl x)
inductive COp where
 | move (x:Opd)
 | assign (s:Option Nat) (x:Opd)
 | pick (c a b:Opd)
 | alloc (slc:List (Option Nat)) (cs:List AV)
 | box (x:Opd)
 | build (zs:List AV) (ps:List (Nat×Nat×Opd))
 | buildSl (s:Nat) (xs:List Opd)
 | load (g:Bool) (s:Nat) (a:Opd)
 | store (slc:List (Option Nat)) (s:Nat) (a x:Opd)
 | nilCheck (x:Opd)
 | bin (op:BinOp) (eq:Bool) (x y:Opd)
 | un (op:UnOp) (x:Opd)
 | eqA (neg:Bool) (ks:List Nat) (x y:Opd)
 | convI (k:IntKind) (x:Opd)
 | convS (x:Opd)
 | fn (f:Nat) (caps:List Opd)
 | make (s b:Nat) (z:D) (l c:Opd)
 | slice (s:Nat) (x:Opd) (lo hi:Option Opd)
 | sliceS (x:Opd) (lo hi:Option Opd)
 | slice0 (x hi mx:Opd)
 | shift (off:Nat) (x:Opd)
 | part (g:Bool) (s off:Nat) (x:Opd)
 | iaS (s:Nat) (x i:Opd)
 | iaA (len s:Nat) (x i:Opd)
 | ixS (x i:Opd)
 | ixA (g:Bool) (s len:Nat) (x i:Opd)
 | nth (i:Nat) (x:Opd)
 | len (x:Opd)
 | lenS (x:Opd)
 | append (s b:Nat) (str flat:Bool) (x y:Opd)
 | min (x y:Opd)
 | max (x y:Opd)
 | call (f:Opd) (as:List Opd)
 | slice3 (s:Nat) (x lo hi mx:Opd)
 | clear (s:Nat) (z:D) (x:Opd)
 | stuck
 | buildDp (s n:Nat) (xs:List Opd)
 | appDp (s b:Nat) (flat:Bool) (x y:Opd)
 | asgDp (s n:Nat) (x:Opd)
structure CO where
 dst:Option Nat
 guard:Option (Nat×Bool)
 op:COp
 tl:Bool
def ZcB (C:Orc) (M:Zn) (hp:Hp) (base:Nat) (as:List AV):AV→Option Zd
 | .clo g caps=>ZbR C (M g) hp base g (as++caps)
 | _=>none
noncomputable def vop (C:Orc) (M:Zn) (sl:Sl) (hp:Hp) (base:Nat):COp→Option Zd
 | .move x=>QM (evO sl x)
 | .assign s x=>Zdm base s (evO sl x)
 | .pick c a b=>Zf3 (evO sl a) (evO sl b) (evO sl c)
 | .alloc slc cs=>Zfc slc base cs
 | .box x=>Zwe base (evO sl x)
 | .build zs ps=>Zn8 zs (evP sl ps)
 | .buildSl s xs=>buildSl hp base s (evL sl xs)
 | .load g s a=>VE (Uz hp g s (evO sl a))
 | .store slc s a x=>Zgg (ZaB hp slc s base (evO sl x).cells (evO sl a))
 | .nilCheck x=>JF (evO sl x)
 | .bin op eq x y=>Zjw op eq (evO sl x) (evO sl y)
 | .un op x=>VE (vun op (evO sl x))
 | .eqA neg ks x y=>Zqf neg ks (evO sl x) (evO sl y)
 | .convI k x=>convI k (evO sl x)
 | .convS x=>convS (evO sl x)
 | .fn f cs=>VE (cloV f (evL sl cs))
 | .make s b z l c=>bnd (idx (evO sl l)) fun l=>bnd (idx (evO sl c)) fun c=>Zoa base s b z l c
 | .slice s x lo hi=>VE (Wm hp s (evM sl lo) (evM sl hi) (evO sl x))
 | .sliceS x lo hi=>VE (sliceS (evM sl lo) (evM sl hi) (evO sl x))
 | .slice0 x hi mx=>VE (slice0 hp (evO sl x) (idx (evO sl hi)) (idx (evO sl mx)))
 | .shift off x=>VF off (evO sl x)
 | .part g s off x=>VE (Zju g s off (evO sl x))
 | .iaS s x i=>bnd (idx (evO sl i)) fun n=>ZgD hp s (evO sl x) n
 | .iaA len s x i=>bnd (idx (evO sl i)) fun n=>ZlY (evO sl x) n len s
 | .ixS x i=>bnd (idx (evO sl i)) fun n=>ZuI n (evO sl x)
 | .ixA g s len x i=>bnd (idx (evO sl i)) fun n=>Zwg g s len n (evO sl x)
 | .nth i x=>Zs1 i (evO sl x)
 | .len x=>bnd (ZdC hp (evO sl x)) fun n=>QM (.d (.int .i64 n))
 | .lenS x=>bnd (ZxV (evO sl x)) fun n=>QM (.d (.int .i64 n))
 | .append s b str flat x y=>Zs2 hp s b str flat base (evO sl x) (evO sl y)
 | .min x y=>Zjy (evO sl x) (evO sl y)
 | .max x y=>Zjz (evO sl x) (evO sl y)
 | .call f as=>ZcB C M hp base (evL sl as) (evO sl f)
 | .slice3 _ x lo hi mx=>VE (slice3 hp (evO sl x) (idx (evO sl lo)) (idx (evO sl hi)) (idx (evO sl mx)))
 | .clear s z x=>Zgg (ZdF hp s z (evO sl x))
 | .stuck=>none
 | .buildDp s n xs=>buildDp hp base s n (evL sl xs)
 | .appDp s b _ x y=>Zqg hp s b base (evO sl x) (evO sl y)
 | .asgDp s n x=>asgDp base s n (evO sl x)
section
variable (P:Program)
def Yf (t:TypeId):Option TypeId:=match P.underlying t with
 | some (.slice e)=>some e
 | _=>none
def ZaD (t:TypeId):Bool:=match P.underlying t with
 | some .string=>true
 | _=>false
def ZhA (t:TypeId):Bool:=match P.underlying t with
 | some .bool=>true
 | _=>false
def ZyB (t:TypeId):Option IntKind:=match P.underlying t with
 | some (.int k)=>some k
 | _=>none
def ZiF (t:TypeId):Option (Nat×TypeId):=match P.underlying t with
 | some (.array n e)=>some (n,e)
 | _=>none
def Zev (t:TypeId):Option Bool:=match P.underlying t with
 | some (.struct _)=>some true
 | some (.array _ _)=>some true
 | some _=>some false
 | none=>none
def Zfd (s:TypeId) (f:Nat):Option (Nat×TypeId):=match P.underlying s with
 | some (.struct fs)=>match fs[f]? with
  | some x=>if P.cellsOf x.type=0 then none else some (x.offset,x.type)
  | none=>none
 | _=>none
def ZbS (t:TypeId):Option Value:=match P.info? t with
 | some i=>i.zero
 | none=>none
def Zxy:Nat→TypeId→List TypeId
 | 0,t=>[t]
 | n+1,t=>match P.underlying t with
  | some (.struct fs)=>fs.toList.flatMap fun f=>Zxy n f.type
  | some (.array k e)=>(List.replicate k (Zxy n e)).flatten
  | _=>[t]
def slcT (t:TypeId):List (Option Nat):=(Zxy P 4 t).map fun c=>(Yf P c).map P.cellsOf
def flatE (t:TypeId):Bool:=(Zxy P 4 t).all fun c=>match P.underlying c with
 | some (.int _)=>true
 | some .bool=>true
 | some .string=>true
 | _=>false
def ZcC:Nat→TypeId→Nat→Option (List (Nat×Nat))
 | 0,_,_=>none
 | n+1,t,off=>match P.underlying t with
  | some (.int _)=>if P.cellsOf t=1 then some [(off,0)] else none
  | some .bool=>if P.cellsOf t=1 then some [(off,1)] else none
  | some .string=>if P.cellsOf t=1 then some [(off,2)] else none
  | some (.struct fs)=>if P.stoodInHeld t then none else
    bnd (QF (fun f:Field=>if f.name = "_"∨P.cellsOf t<f.offset+P.cellsOf f.type then none else ZcC n f.type (off+f.offset)) fs.toList) fun ls=>some ls.flatten
  | _=>none
def XX (t:TypeId):Bool:=match P.underlying t with
 | some (.struct _)=>true
 | _=>false
def ZuJ (t:TypeId):Option (List Nat):=bnd (ZcC P 5 t 0) fun ls=>
 if ls.map (·.1)=List.range (P.cellsOf t)∧XX P t=true∧P.eqGuardType P.depth t=false then some (ls.map (·.2)) else none
def ZuK (neg:Bool) (op:BinOp) (t:TypeId) (x y:Opd):Option (List Nat)→COp
 | some ks=>.eqA neg ks x y
 | none=>.bin op (ZhA P t) x y
def Zwh (op:BinOp) (t:TypeId) (x y:Opd):COp:=match op with
 | .eql=>ZuK P false .eql t x y (ZuJ P t)
 | .neq=>ZuK P true .neq t x y (ZuJ P t)
 | op=>.bin op (ZhA P t) x y
end
section
variable (P:Program)
def Z2:Operand→Option Opd
 | .tmp t=>some (.t t)
 | .const v=>some (.v (evC v))
 | .global _=>none
 | .func f=>some (.f f)
def ZuL (pl:Nat→Option (Nat×Nat)) (q:Nat×Operand):Option (Nat×Nat×Opd):=bnd (pl q.1) fun p=>bnd (Z2 q.2) fun x=>some (p.1,p.2,x)
def cOO:Option Operand→Option (Option Opd)
 | none=>some none
 | some x=>bnd (Z2 x) fun y=>some (some y)
def Zfe (t:TypeId):Option (Nat×TypeId)→Nat→Option (Nat×Nat)
 | none,i=>bnd (Zfd P t i) fun q=>some (q.1,P.cellsOf q.2)
 | some a,i=>some (i*P.cellsOf a.2,P.cellsOf a.2)
def U8 (t:TypeId):Bool:=match P.info? t with
 | some i=>(match i.zero with
  | some z=>z.cells.size==i.size&&decide (0<i.size)
  | none=>false)
 | none=>false
def ZjA (t:TypeId):Bool:=match P.underlying t with
 | some (.struct fs)=>fs.toList.all fun f=>(P.info? f.type).isSome
 | some (.array _ e)=>(P.info? e).isSome
 | _=>false
def ZlZ (e:TypeId) (u:TypeId):Option Bool:=match Yf P u with
 | some e'=>if e'=e then some false else none
 | none=>if ZaD P u then some true else none
def Zob (x i:Opd) (a:Option (Nat×TypeId)):Option TypeId→Option COp
 | some e=>if (P.info? e).isSome then some (.iaS (P.cellsOf e) x i) else none
 | none=>bnd a fun a=>if (P.info? a.2).isSome then some (.iaA a.1 (P.cellsOf a.2) x i) else none
def Zs3 (x i:Opd) (str:Bool) (a:Option (Nat×TypeId)):Option COp:=
 if str then some (.ixS x i) else bnd a fun a=>bnd (Zev P a.2) fun g=>some (.ixA g (P.cellsOf a.2) a.1 x i)
def Zxz (x:Opd) (ss sd:Bool):Option IntKind→Option IntKind→Option COp
 | some _,some k=>some (.convI k x)
 | _,_=>if ss&&sd then some (.convS x) else none
def cLen (x:Opd) (str:Bool):Option TypeId→Option COp
 | some _=>some (.len x)
 | none=>if str then some (.lenS x) else none
def Zwi (x:Opd) (lo hi:Option Opd) (str:Bool):Option TypeId→Option COp
 | some e=>if (P.info? e).isSome then some (.slice (P.cellsOf e) x lo hi) else none
 | none=>if str then some (.sliceS x lo hi) else none
def Zew:Builtin→List Operand→List TypeId→Option COp
 | .len,[x],[t]=>bnd (Z2 x) fun x=>cLen x (ZaD P t) (Yf P t)
 | .append,[s,x],[t,u]=>bnd (Yf P t) fun e=>bnd (ZlZ P e u) fun str=>bnd (Z2 s) fun s=>bnd (Z2 x) fun x=>
   if U8 P e then some (.append (P.cellsOf e) (P.bytesOf e) str (flatE P e) s x) else none
 | .min,[x,y],_=>bnd (Z2 x) fun x=>bnd (Z2 y) fun y=>some (.min x y)
 | .max,[x,y],_=>bnd (Z2 x) fun x=>bnd (Z2 y) fun y=>some (.max x y)
 | .clear,[x],[t]=>bnd (Yf P t) fun e=>bnd (Z2 x) fun x=>bnd (ZbS P e) fun z=>bnd (evD z) fun z=>if U8 P e then some (.clear (P.cellsOf e) z x) else none
 | _,_,_=>none
def teOf (t:TypeId):Nat:=match bnd (Zfd P t 1) fun q=>Yf P q.2 with
 | some e=>e
 | none=>0
def cOp (ty:TypeId):Op→Option COp
 | .move x=>bnd (Z2 x) fun x=>some (.move x)
 | .assign x=>bnd (Z2 x) fun x=>some (.assign (bnd (Yf P ty) fun e=>some (P.cellsOf e)) x)
 | .pick c a b=>bnd (Z2 c) fun c=>bnd (Z2 a) fun a=>bnd (Z2 b) fun b=>some (.pick c a b)
 | .alloc t=>bnd (ZbS P t) fun z=>some (.alloc (slcT P t) (bnT t (teOf P t) (evC z).cells))
 | .box _ x=>bnd (Z2 x) fun x=>some (.box x)
 | .build t ps=>bnd (ZbS P t) fun z=>bnd (QF (ZuL (Zfe P t (ZiF P t))) ps.toList) fun qs=>if ZjA P t then some (.build (evC z).cells qs) else none
 | .buildSlice t n ps=>bnd (Yf P t) fun e=>bnd (QF (fun q:Nat×Operand=>Z2 q.2) ps.toList) fun xs=>
   if ps.toList.map (·.1)=List.range n∧n*P.cellsOf e≤16777216∧U8 P e then some (.buildSl (P.cellsOf e) xs) else none
 | .load t a=>bnd (Zev P t) fun g=>bnd (Z2 a) fun a=>some (.load g (P.cellsOf t) a)
 | .store t a x=>bnd (Z2 a) fun a=>bnd (Z2 x) fun x=>if (P.info? t).isSome then some (.store (slcT P t) (P.cellsOf t) a x) else none
 | .nilCheck x=>bnd (Z2 x) fun x=>some (.nilCheck x)
 | .binOp op t x y _=>bnd (Z2 x) fun x=>bnd (Z2 y) fun y=>some (Zwh P op t x y)
 | .unOp op _ x=>bnd (Z2 x) fun x=>some (.un op x)
 | .convert s d x=>bnd (Z2 x) fun x=>Zxz x (ZaD P s) (ZaD P d) (ZyB P s) (ZyB P d)
 | .makeFunc (.func f) fs cs=>if fs.toList.isEmpty then bnd (QF Z2 cs.toList) fun cs=>some (.fn f cs) else none
 | .makeSlice t l c=>bnd (Yf P t) fun e=>bnd (Z2 l) fun l=>bnd (Z2 c) fun c=>bnd (ZbS P e) fun z=>bnd (evD z) fun z=>if U8 P e then some (.make (P.cellsOf e) (P.bytesOf e) z l c) else none
 | .slice t x lo hi none=>bnd (Z2 x) fun x=>bnd (cOO lo) fun lo=>bnd (cOO hi) fun hi=>Zwi P x lo hi (ZaD P t) (Yf P t)
 | .slice t x none (some hi) (some mx)=>bnd (Yf P t) fun e=>if (P.info? e).isSome then bnd (Z2 x) fun x=>bnd (Z2 hi) fun hi=>bnd (Z2 mx) fun mx=>some (.slice0 x hi mx) else none
 | .slice t x (some lo) (some hi) (some mx)=>bnd (Yf P t) fun e=>if (P.info? e).isSome then bnd (Z2 x) fun x=>bnd (Z2 lo) fun lo=>bnd (Z2 hi) fun hi=>bnd (Z2 mx) fun mx=>some (.slice3 (P.cellsOf e) x lo hi mx) else none
 | .fieldAddr s x f=>bnd (Zfd P s f) fun q=>bnd (Z2 x) fun x=>some (.shift q.1 x)
 | .field t x f=>bnd (Zfd P t f) fun q=>bnd (Zev P q.2) fun g=>bnd (Z2 x) fun x=>some (.part g (P.cellsOf q.2) q.1 x)
 | .indexAddr t x i=>bnd (Z2 x) fun x=>bnd (Z2 i) fun i=>Zob P x i (ZiF P t) (Yf P t)
 | .index t x i=>bnd (Z2 x) fun x=>bnd (Z2 i) fun i=>Zs3 P x i (ZaD P t) (ZiF P t)
 | .extract x i=>bnd (Z2 x) fun x=>some (.nth i x)
 | .call { callee:=.builtin b,args:=as,argTypes:=ts }=>Zew P b as.toList ts.toList
 | .call { callee:=.value f,args:=as,argTypes:=_ }=>bnd (Z2 f) fun f=>bnd (QF Z2 as.toList) fun as=>some (.call f as)
 | _=>none
def Zoc (ops:List Oper):Option (Nat×Bool)→Option (Option (Nat×Bool))
 | none=>some none
 | some q=>bnd ops[q.1]? fun g=>bnd g.dst fun t=>some (some (t,q.2))
def Q7 (nt:Nat):Option Nat→Bool
 | none=>true
 | some t=>decide (t<nt)
def Ws (ops:Array Oper) (i:Nat):List Nat:=match ops[i]? with
 | some o=>(o.after.toList.filter fun e=>Region.binds .any e).map fun e=>e.on
 | none=>[]
def ZiG (ops:Array Oper):Nat→Nat→Nat→Bool
 | 0,i,j=>(Ws ops i).contains j
 | n+1,i,j=>(Ws ops i).contains j || (Ws ops i).any fun z=>ZiG ops n z j
def startO:Op→Bool
 | .call { callee:=.builtin .append,args:=_,argTypes:=_ }=>true
 | .buildSlice _ _ _=>true
 | _=>false
def callO:Op→Bool
 | .call { callee:=.value (.func _),args:=_,argTypes:=_ }=>true
 | _=>false
def ZzK:Op→Bool
 | .move _=>true
 | _=>false
def aheadO:Op→Bool
 | .store _ _ _=>false
 | .box _ _=>false
 | .assign _=>false
 | .makeFunc _ _ _=>false
 | .makeSlice _ _ _=>false
 | .call { callee:=.builtin .append,args:=_,argTypes:=_ }=>false
 | .call { callee:=.value _,args:=_,argTypes:=_ }=>false
 | _=>true
def ZA8:Op→Bool
 | .move _=>true
 | .alloc _=>true
 | .buildSlice _ _ _=>true
 | .load _ _=>true
 | .nilCheck _=>true
 | .binOp _ _ _ _ _=>true
 | .unOp _ _ _=>true
 | .convert _ _ _=>true
 | .fieldAddr _ _ _=>true
 | .indexAddr _ _ _=>true
 | .slice _ _ _ _ _=>true
 | .call { callee:=.builtin .len,args:=_,argTypes:=_ }=>true
 | _=>false
def appO:Op→Bool
 | .call { callee:=.builtin .append,args:=_,argTypes:=_ }=>true
 | _=>false
def lookO:Op→Bool
 | .move _=>true
 | .load _ _=>true
 | .nilCheck _=>true
 | .binOp _ _ _ _ _=>true
 | .convert _ _ _=>true
 | .fieldAddr _ _ _=>true
 | .field _ _ _=>true
 | .extract _ _=>true
 | .indexAddr _ _ _=>true
 | .slice _ _ _ _ _=>true
 | .call { callee:=.builtin .len,args:=_,argTypes:=_ }=>true
 | _=>false
def atO (f:Op→Bool) (ops:List Oper) (k:Nat):Bool:=match ops[k]? with
 | some o=>f o.op
 | none=>false
def firmAt (ops:List Oper) (i:Nat):Bool:=
 (List.range ops.length).all fun k=>if k<i then ZiG ops.toArray 6 i k || atO ZzK ops k else k==i || ZiG ops.toArray 6 k i || atO ZzK ops k
def firmP (ops:List Oper) (i:Nat):Bool:=
 (List.range ops.length).all fun k=>if k<i then ZiG ops.toArray 6 i k || atO lookO ops k else k==i || ZiG ops.toArray 6 k i || atO ZzK ops k
def firmC (ops:List Oper) (i:Nat):Bool:=
 (List.range ops.length).all fun k=>if k<i then ZiG ops.toArray 6 i k || atO aheadO ops k else k==i || ZiG ops.toArray 6 k i || atO ZA8 ops k
def Zod (ops:List Oper) (o:Oper):Nat:=ops.findIdx fun x=>x.dst==o.dst
def firm (ops:List Oper) (o:Oper):Bool:=(startO o.op&&firmAt ops (Zod ops o)) || (callO o.op&&firmC ops (Zod ops o)) || (appO o.op&&firmP ops (Zod ops o))
def UY:Option COp→COp
 | some c=>c
 | none=>.stuck
def Zl0 (nt:Nat) (ops:List Oper) (o:Oper):Option CO:=bnd (Zoc ops o.guard) fun g=>
 if Q7 nt o.dst then some { dst:=o.dst,guard:=g,op:=UY (cOp P o.type o.op),tl:=firm ops o } else none
end
end Go.Abs
