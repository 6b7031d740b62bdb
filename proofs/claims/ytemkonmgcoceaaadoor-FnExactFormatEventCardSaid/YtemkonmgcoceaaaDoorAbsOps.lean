/- The abstract semantics: operations,regions,codes,calls. Own text. -/
import Derived.Test.YtemkonmgcoceaaaDoorAbsBase
set_option linter.unusedVariables false
set_option linter.unusedSimpArgs false
namespace Go.Abs
open Go
def mat:List (Option Nat)→List AV→Nat→List AV×Hp
 | some s :: ts,.nil :: vs,b=>let r:=mat ts vs (b+1);(.own b :: r.1,(b,.row s [] true false) :: r.2)
 | _ :: ts,v :: vs,b=>let r:=mat ts vs b;(v :: r.1,r.2)
 | _,vs,_=>(vs,[])
def Zeq:List AV→Bool
 | []=>false
 | .nil :: _=>true
 | _ :: r=>Zeq r
structure Eff where
 val:AV
 adds:Hp:=[]
 sets:Hp:=[]
 dels:List Nat:=[]
 frz:List Nat:=[]
def Zc:Hp→Hp→Hp
 | hp,[]=>hp
 | hp,(k,o) :: r=>Zc (ins hp k o) r
def del:Hp→Nat→Hp
 | [],_=>[]
 | (k,o) :: r,t=>if k=t then del r t else (k,o) :: del r t
def Z4:Hp→List Nat→Hp
 | hp,[]=>hp
 | hp,k :: r=>Z4 (del hp k) r
def ZX (ids:List Nat) (hp:Hp):Hp:=match ids with
 | []=>hp
 | _=>freeze ids hp
def Eff.on (e:Eff) (hp:Hp):Hp:=Zc (Zc (Z4 (ZX e.frz hp) e.dels) e.sets) e.adds
def Zog:List AV→Nat→List AV→List AV
 | cs,_,[]=>cs
 | cs,off,v :: r=>Zog (cs.set off v) (off+1) r
def Zfh:List AV→List (Nat×Nat×AV)→Option (List AV)
 | cells,[]=>some cells
 | cells,q :: r=>if q.2.2.solid∧q.2.2.cells.length=q.2.1∧q.1+q.2.1≤cells.length then Zfh (Zog cells q.1 q.2.2.cells) r else none
def AV.atom:AV→Bool
 | .d x=>x.one
 | .agg _=>false
 | .tup _=>false
 | .clo _ _=>false
 | _=>true
def ZbV:List AV→Bool
 | []=>true
 | v :: r=>v.atom&&ZbV r
def cloV (f:Nat) (cs:List AV):Option AV:=if ZbV cs then some (.clo f cs) else none
def ZdD:AV→AV
 | .bbuf _ _=>.junk
 | v=>v
def Wz (agg:Bool) (s off:Nat):Option Zi→Option AV
 | some (.box cs)=>if agg then (if off+s≤cs.length then some (VO ((cs.drop off).take s)) else none) else (cs[off]?).map ZdD
 | _=>none
def Jv (agg:Bool) (s off:Nat) (cs:List D):Option AV:=
 if agg then (if off+s≤cs.length then some (.d (.agg ((cs.drop off).take s))) else none) else asD cs[off]?
def ZdE (agg:Bool) (s sz off:Nat) (x:D):Option AV:=if x.cells.length=sz then Jv agg s off x.cells else none
def ZkX (id i off:Nat):Option (Nat×Nat×Nat)→Option AV
 | some (nm,i',c)=>if i=i'∧off=c then some (.sub id nm) else none
 | none=>none
def J3 (id i off:Nat) (lk:Option (Nat×Nat×Nat)) (x:D):Option AV:=match x.cells[off]? with
 | some (.sl _)=>ZkX id i off lk
 | some y=>if y.plain then some (.d y) else none
 | none=>none
def WA (id:Nat) (agg:Bool) (s sz i off:Nat):Option Zi→Option AV
 | some (.row sz' xs _ _)=>if sz=sz' then bnd xs[i]? (ZdE agg s sz off) else none
 | some (.deep sz' _ xs lk)=>if sz=sz' then (if agg then none else bnd xs[i]? (J3 id i off lk)) else none
 | _=>none
def Y9 (hp:Hp) (agg:Bool) (s:Nat):AV→Option AV
 | .ptr id off=>Wz agg s off (lkp hp id)
 | .prow id sz i off=>WA id agg s sz i off (lkp hp id)
 | .pim cs=>Jv agg s 0 cs
 | _=>none
def Zjy:AV→Option D
 | .d x=>if x.plain then some x else none
 | _=>none
def ZkY:List AV→Option (List D)
 | []=>some []
 | v :: r=>bnd (Zjy v) fun x=>bnd (ZkY r) fun ds=>some (x :: ds)
def J4 (slc:List (Option Nat)) (s base id off:Nat) (vs:List AV):Option Zi→Option Eff
 | some (.box cs)=>if vs.length=s∧off+s≤cs.length∧Xl vs∧Q1 cs=true then
    (if Zeq vs then some { val := .junk, adds := (mat slc vs base).2, sets := [(id, .box (ZP cs off (mat slc vs base).1))] }
      else some { val:=.junk,sets:=[(id,.box (ZP cs off vs))] })
   else none
 | _=>none
def D.notSl:D→Bool
 | .sl _=>false
 | _=>true
def J5 (s id sz i off:Nat) (xs:List D) (ex:Bool) (x:D) (q:List D×Bool×List Nat):Option Eff:=
 if x.notSl∧x.cells.length=sz∧q.1.length=s∧off+s≤sz∧q.2.2.contains id=false then
  some { val:=.junk,sets:=[(id,.row sz (xs.set i (U7 x off q.1)) (ex&&q.2.1) false)],frz:=q.2.2 } else none
def UL (hp:Hp) (s id sz i off:Nat) (vs:List AV):Option Zi→Option Eff
 | some (.row sz' xs ex false)=>if sz=sz' then bnd xs[i]? fun x=>bnd (Yq hp vs) fun q=>J5 s id sz i off xs ex x q else none
 | _=>none
def Wm (hp:Hp) (slc:List (Option Nat)) (s base:Nat) (vs:List AV):AV→Option Eff
 | .ptr id off=>J4 slc s base id off vs (lkp hp id)
 | .prow id sz i off=>UL hp s id sz i off vs (lkp hp id)
 | _=>none
def uni (s:Nat) (ys:List D):Prop:=∀ y∈ys,y.cells.length=s
def ZR:Nat:=140737488355328
def Qi (ys:List D):Prop:=∀ y∈ys,y.flat=true
def Zjz (flat:Bool):Option Zi→Option (List D×Bool)
 | some (.row _ ys ex _)=>some (ys,ex || flat)
 | _=>none
def ZgQ:AV→Option (List D×Bool)
 | .d (.str s)=>some (s.map fun b=>.int .u8 b.toNat,true)
 | _=>none
def ZfK (flat:Bool) (off n:Nat):Option Zi→Option (List D×Bool)
 | some (.row _ ys ex _)=>some ((ys.drop off).take n,ex || flat)
 | _=>none
def J6 (hp:Hp) (flat:Bool):AV→Option (List D×Bool)
 | .nil=>some ([],true)
 | .d (.sl ys)=>some (ys,flat)
 | .own id=>Zjz flat (lkp hp id)
 | .ownv id off n=>ZfK flat off n (lkp hp id)
 | _=>none
def Zbs (sz base:Nat) (dels:List Nat) (xs:List D) (ex:Bool):Eff:=
 { val:=.own base,adds:=[(base,.row sz xs ex false)],dels:=dels }
def Zer (sz by_ base id:Nat) (ys:List D) (ex' : Bool):Option Zi→Option Eff
 | some (.row sz' xs ex false)=>if sz'=sz∧(xs.length+ys.length)*by_≤ZR∧xs.length+ys.length≤ZR then some (Zbs sz base [id] (xs++ys) (ex&&ex')) else none
 | _=>none
def ZbW (sz by_ base id n:Nat) (ys:List D) (ex' : Bool):Option Zi→Option Eff
 | some (.row sz' xs ex false)=>if sz'=sz∧(n+ys.length)*by_≤ZR∧n+ys.length≤ZR then some (Zbs sz base [id] (xs.take n++ys) (ex&&ex')) else none
 | _=>none
def ZbX (sz base id n:Nat) (ys:List D) (ex' : Bool):Option Zi→Option Eff
 | some (.row sz' xs ex false)=>if sz'=sz∧0<xs.length∧n+ys.length≤xs.length then
   some { val:=.ownv base 0 (n+ys.length),adds:=[(base,.row sz (xs.take n++ys++xs.drop (n+ys.length)) (ex&&ex') false)],dels:=[id] } else none
 | _=>none
def Zbt (hp:Hp) (sz by_:Nat) (base:Nat) (src:List Nat) (ys:List D) (ex' : Bool):AV→Option Eff
 | .nil=>if ys.length*by_≤ZR∧ys.length≤ZR then some (Zbs sz base [] ys ex') else none
 | .own id=>if src.contains id then none else Zer sz by_ base id ys ex' (lkp hp id)
 | .ownv id off n=>if off≠0 then none else if src.contains id then ZbX sz base id n ys ex' (lkp hp id) else ZbW sz by_ base id n ys ex' (lkp hp id)
 | _=>none
open Classical in
noncomputable def YU (hp:Hp) (sz by_:Nat) (str flat:Bool) (base:Nat) (s x:AV):Option Eff:=
 bnd (if str then ZgQ x else J6 hp flat x) fun q=>if uni sz q.1∧(flat=true→Qi q.1) then Zbt hp sz by_ base (W1 x) q.1 q.2 s else none
def idx (i:AV):Option Int:=match i with
 | .d (.int _ n)=>some n
 | _=>none
def Znc (sz:Nat) (y:D):Option AV:=if y.cells.length=sz then some (.pim y.cells) else none
def Jc (sz id n:Nat):Option Zi→Option AV
 | some (.row sz' xs _ _)=>if sz'=sz∧n<xs.length then some (.prow id sz n 0) else none
 | some (.deep sz' _ xs _)=>if sz'=sz∧n<xs.length then some (.prow id sz n 0) else none
 | _=>none
def UM (sz id off m n:Nat):Option Zi→Option AV
 | some (.row sz' _ _ _)=>if sz'=sz∧n<m then some (.prow id sz (off+n) 0) else none
 | _=>none
def Qd (hp:Hp) (sz n:Nat):AV→Option AV
 | .d (.sl xs)=>bnd xs[n]? (Znc sz)
 | .own id=>Jc sz id n (lkp hp id)
 | .ownv id off m=>UM sz id off m n (lkp hp id)
 | _=>none
def bd (m:Nat) (v:AV):Option Nat:=bnd (idx v) fun n=>if 0≤n∧n≤m then some n.toNat else none
def hiOf (len:Nat):Option AV→Option Nat
 | none=>some len
 | some v=>bd len v
def loOf (h:Nat):Option AV→Option Nat
 | none=>some 0
 | some v=>bd h v
def ZjA (len:Nat) (lo hi:Option AV):Option (Nat×Nat):=bnd (hiOf len hi) fun h=>bnd (loOf h lo) fun l=>some (l,h)
def ZkZ (id n:Nat):Option AV→Option AV→Option AV
 | none,none=>some (.own id)
 | lo,hi=>bnd (ZjA n lo hi) fun b=>some (.ownv id b.1 (b.2-b.1))
def UN (s id:Nat) (lo hi:Option AV):Option Zi→Option AV
 | some (.row sz xs _ _)=>if sz=s then ZkZ id xs.length lo hi else none
 | _=>none
def Zpo (n m:Nat) (lo:Option AV):Option AV→Option (Nat×Nat)
 | none=>ZjA n lo none
 | some h=>ZjA m lo (some h)
def Wn (s id off n:Nat) (lo hi:Option AV):Option Zi→Option AV
 | some (.row sz xs _ _)=>if sz=s then bnd (Zpo n (xs.length-off) lo hi) fun b=>some (.ownv id (off+b.1) (b.2-b.1)) else none
 | _=>none
def slice3 (hp:Hp) (x:AV) (lo hi mx:Option Int):Option AV:=bnd lo fun l=>bnd hi fun h=>bnd mx fun m=>bnd (Jr hp x) fun n=>
 if 0≤l∧l≤h∧h≤m∧m≤n then some .junk else none
def Zbu (s id off n:Nat) (z:D):Option Zi→Option Eff
 | some (.row sz xs ex false)=>if sz=s∧z.cells.length=s∧off+n≤xs.length then some { val:=.tup [],sets:=[(id,.row sz (xs.take off++List.replicate n z++xs.drop (off+n)) ex false)] } else none
 | _=>none
def Jw (hp:Hp) (s:Nat) (z:D):AV→Option Eff
 | .ownv id off n=>Zbu s id off n z (lkp hp id)
 | _=>none
open Classical in
noncomputable def Yn (hp:Hp) (s:Nat) (lo hi:Option AV):AV→Option AV
 | .d (.sl xs)=>if uni s xs then bnd (ZjA xs.length lo hi) fun b=>some (.d (.sl ((xs.take b.2).drop b.1))) else none
 | .nil=>bnd (ZjA 0 lo hi) fun _=>some .nil
 | .own id=>UN s id lo hi (lkp hp id)
 | .ownv id off n=>Wn s id off n lo hi (lkp hp id)
 | _=>none
def sliceS (lo hi:Option AV):AV→Option AV
 | .d (.str s)=>bnd (ZjA s.length lo hi) fun b=>some (.d (.str ((s.take b.2).drop b.1)))
 | _=>none
def slice0 (hp:Hp) (x:AV) (hi mx:Option Int):Option AV:=match hi,mx with
 | some 0,some 0=>bnd (Jr hp x) fun _=>some .nil
 | _,_=>none
def ZdF (agg:Bool) (s off:Nat):AV→Option AV
 | .d (.agg cs)=>Jv agg s off cs
 | .agg cs=>if agg then (if off+s≤cs.length then some (VO ((cs.drop off).take s)) else none) else cs[off]?
 | _=>none
abbrev Orc:=Nat→List AV→List Zi→Option (AV×List Zi)
abbrev Zj:=Nat→Nat→Bool
def Zaz (hp:Hp) (id:Nat):Bool→Option AV
 | true=>some (.own id)
 | false=>asD (Zb9 hp (.own id))
def Zbv:Bool→Option AV
 | true=>some .nil
 | false=>some (.d (.sl []))
def Jx (hp:Hp) (m:Bool):AV→Option AV
 | .ptr a b=>some (.ptr a b)
 | .clo f c=>some (.clo f c)
 | .nilp=>some .nilp
 | .nili=>some .nili
 | .pim c=>some (.pim c)
 | .own id=>Zaz hp id m
 | .nil=>Zbv m
 | .d x=>some (.d x)
 | v=>asD (toD hp v)
def args (hp:Hp) (m:Nat→Bool):Nat→List AV→Option (List AV)
 | _,[]=>some []
 | i,v :: r=>bnd (Jx hp (m i) v) fun a=>bnd (args hp m (i+1) r) fun as=>some (a :: as)
def VU (hp:Hp) (go:List Nat→List Nat→List Nat) (id:Nat) (todo acc:List Nat):Option Zi→List Nat
 | some o=>go (todo++WJ o) (acc++[id])
 | none=>go todo acc
def Qj (hp:Hp):Nat→List Nat→List Nat→List Nat
 | 0,_,acc=>acc
 | _+1,[],acc=>acc
 | n+1,id :: todo,acc=>if acc.contains id then Qj hp n todo acc else VU hp (Qj hp n) id todo acc (lkp hp id)
def Ys:List Nat→Nat→Nat
 | [],_=>0
 | x :: r,t=>if x=t then 0 else Ys r t+1
def ZdG:Option Zi→Zi
 | some o=>o
 | none=>.row 0 [] true false
def UO (hp:Hp):List Nat→List Zi
 | []=>[]
 | id :: r=>ZdG (lkp hp id) :: UO hp r
def VV (ids:List Nat) (o:Zi):Zi:=Zfz (Ys ids) (Q2 ((WJ o).filter fun i=>!ids.contains i) o)
def XL:Option Zi→Bool
 | some (.row _ _ _ _)=>true
 | some (.deep _ _ _ _)=>true
 | _=>false
def UP:AV→Bool
 | .d x=>x.flat
 | .pim _=>false
 | .agg _=>false
 | .tup _=>false
 | .clo _ _=>false
 | _=>true
def Jy:AV→Bool
 | .agg cs=>cs.all UP
 | .clo _ cs=>cs.all UP
 | v=>UP v
def ZiB:AV→Bool
 | .tup vs=>vs.all Jy
 | v=>Jy v
def ZcO:Zi→Bool
 | .box cs=>cs.all Jy
 | .row _ _ ex fz=>ex&&!fz
 | .deep _ _ _ _=>true
def ZcP (d:Nat):Option Nat→Nat
 | some i=>i
 | none=>d
def YG (ids:List Nat) (base k:Nat):Nat:=ZcP (base+(k-ids.length)) ids[k]?
def UQ (g:Nat→Nat):List Nat→List Zi→Hp
 | id :: ids,o :: os=>(id,Zfz g o) :: UQ g ids os
 | _,_=>[]
def UR (g:Nat→Nat):Nat→List Zi→Hp
 | _,[]=>[]
 | k,o :: os=>(k,Zfz g o) :: UR g (k+1) os
structure Zb where
 eff:Eff
 gone:List Nat
def QI (_hp:Hp):Nat:=1000
def XJ:List AV→List AV→List Nat
 | v :: vs,.d _ :: as=>Zap v++XJ vs as
 | _ :: vs,_ :: as=>XJ vs as
 | _,_=>[]
def WR:Option Zi→Bool
 | some (.deep _ _ _ _)=>true
 | _=>false
def VX (hp:Hp) (base:Nat) (ids lent:List Nat) (r:AV) (out:List Zi):Option Zb:=
 if out.length<ids.length then none else if !(ZiB r&&out.all ZcO)&&lent.any fun i=>WR (lkp hp i) then none else
  some { eff := { val:=ren (YG ids base) r,adds:=UR (YG ids base) base (out.drop ids.length),sets:=UQ (YG ids base) ids out,frz:=if ZiB r&&out.all ZcO then [] else lent },gone:=ids.filter fun i=>XL (lkp hp i) }
def WM:AV→List Nat
 | .ptr id _=>[id]
 | .clo _ cs=>cs.flatMap Zf
 | _=>[]
def Ug (hp:Hp) (rs ids:List Nat):Bool:=ids.all fun i=>XL (lkp hp i) || rs.contains i
def Jd (C:Orc) (hp:Hp) (base f:Nat) (lent:List Nat) (as:List AV) (ids:List Nat):Option Zb:=
 if (as.flatMap Zs).all ids.contains∧¬lent.any ids.contains∧Ug hp (as.flatMap WM) ids=true then
  bnd (C f (as.map (ren (Ys ids))) ((UO hp ids).map (VV ids))) fun q=>VX hp base ids lent q.1 q.2
 else none
def W4 (C:Orc) (m:Nat→Bool) (hp:Hp) (base f:Nat) (avs:List AV):Option Zb:=
 bnd (args hp m 0 avs) fun as=>Jd C hp base f (XJ avs as) as (Qj hp (QI hp) (as.flatMap Zs) [])
def Ql (v:AV):Option Zb:=some { eff := { val:=v },gone:=[] }
def Yf (v:Option AV):Option Zb:=bnd v Ql
def Za4 (e:Option Eff):Option Zb:=bnd e fun e=>some { eff:=e,gone:=[] }
def Je (base:Nat) (e:Option Nat):AV→Option Zb
 | .nil=>bnd e fun s=>some { eff := { val:=.own base,adds:=[(base,.row s [] true false)] },gone:=[] }
 | v=>Ql v
def Za2 (a b:AV):AV→Option Zb
 | .d (.bool t)=>if t then Ql a else Ql b
 | _=>none
def ZcQ (base:Nat):AV→AV
 | .bnil _ e=>.bnil base e
 | v=>v
def bnT (t te:Nat):List AV→List AV
 | [.nilp,.nil]=>[.bnil 0 t,.bbuf te []]
 | cs=>cs
def Zpp:List AV→Bool
 | [.bnil _ _,.bbuf _ []]=>true
 | _=>false
def Zes (slc:List (Option Nat)) (base:Nat) (cs:List AV):Option Zb:=
 if Q1 cs=false then (if Zpp cs=true then some { eff := { val:=.ptr base 0,adds:=[(base,.box cs)] },gone:=[] } else none) else
 if Zeq cs then some { eff := { val:=.ptr base 0,adds:=(base,.box (mat slc cs (base+1)).1) :: (mat slc cs (base+1)).2 },gone:=[] }
 else some { eff := { val:=.ptr base 0,adds:=[(base,.box cs)] },gone:=[] }
def ZaA (slc:List (Option Nat)) (base:Nat) (cs:List AV):Option Zb:=Zes slc base (cs.map (ZcQ base))
def Zmk (base:Nat) (x:AV):Option Zb:=if x.solid&&Q1 x.cells then some { eff := { val:=.ptr base 0,adds:=[(base,.box x.cells)] },gone:=[] } else none
def ZgR (zs:List AV) (ps:List (Nat×Nat×AV)):Option Zb:=bnd (Zfh zs ps) fun cs=>Ql (VO cs)
def Zml (base s:Nat) (q:List D×Bool×List Nat):Option Zb:=
 if q.1.all (fun d=>d.cells.length==s) then some { eff := { val:=.own base,adds:=[(base,.row s q.1 q.2.1 false)],frz:=q.2.2 },gone:=[] } else none
def buildSl (hp:Hp) (base s:Nat):List AV→Option Zb
 | []=>Ql .nil
 | v :: vs=>bnd (YS hp (v :: vs)) (Zml base s)
def Jf (hp:Hp) (n:Nat):AV→Option (D×List Nat)
 | .d x=>if x.plain then some (x,[]) else none
 | .nil=>some (.sl [],[])
 | .own id=>deepRow n id (lkp hp id)
 | _=>none
where deepRow (n id:Nat):Option Zi→Option (D×List Nat)
 | some (.row sz xs true false)=>if sz=n∧UE D.flat xs then some (.sl xs,[id]) else none
 | _=>none
def J7 (hp:Hp) (n:Nat):List AV→Option (List D×List Nat)
 | []=>some ([],[])
 | v :: r=>bnd (Jf hp n v) fun q=>bnd (J7 hp n r) fun p=>if !q.2.any p.2.contains then some (q.1 :: p.1,q.2++p.2) else none
def asgDp (base s n:Nat):AV→Option Zb
 | .nil=>some { eff := { val:=.own base,adds:=[(base,.deep s n [] none)] },gone:=[] }
 | _=>none
def buildDp (hp:Hp) (base s n:Nat):List AV→Option Zb
 | [.agg cs]=>bnd (J7 hp n cs) fun q=>if q.1.length=s then some { eff := { val:=.own base,adds:=[(base,.deep s n [.agg q.1] none)],dels:=q.2 },gone:=[] } else none
 | _=>none
def VY:AV→Option Zb
 | .ptr a b=>Ql (.ptr a b)
 | .prow a b c d=>Ql (.prow a b c d)
 | .pim c=>Ql (.pim c)
 | .clo f c=>Ql (.clo f c)
 | _=>none
def ZfB (op:BinOp) (eq:Bool):AV→AV→Option Zb
 | .d (.bool a),.d (.bool b)=>if eq then Yf (Zh9 op a b) else none
 | a,b=>Yf (vbin op a b)
def V5:List Nat→List D→List D→Option Bool
 | [],[],[]=>some true
 | 0 :: ks,.int k a :: cs,.int k' b :: ds=>if k=k' then bnd (V5 ks cs ds) fun r=>some (decide (a=b)&&r) else none
 | 1 :: ks,.bool a :: cs,.bool b :: ds=>bnd (V5 ks cs ds) fun r=>some (decide (a=b)&&r)
 | 2 :: ks,.str a :: cs,.str b :: ds=>bnd (V5 ks cs ds) fun r=>some (decide (a=b)&&r)
 | _,_,_=>none
def ZgS (neg:Bool) (r:Bool):Bool:=if neg then !r else r
def ZhU (neg:Bool) (ks:List Nat):AV→AV→Option Zb
 | .d (.agg cs),.d (.agg ds)=>bnd (V5 ks cs ds) fun r=>Ql (.d (.bool (ZgS neg r)))
 | _,_=>none
def convI (k:IntKind):AV→Option Zb
 | .d (.int _ n)=>Ql (.d (.int k (k.wrap n)))
 | _=>none
def convS:AV→Option Zb
 | .d (.str s)=>Ql (.d (.str s))
 | _=>none
def ZgT (base s b:Nat) (z:D) (l c:Int):Option Zb:=
 if 0≤l∧l≤c∧c*b≤ZR∧c≤ZR∧z.cells.length=s then
  some { eff := { val:=.own base,adds:=[(base,.row s (List.replicate l.toNat z) true false)] },gone:=[] } else none
def X9 (off:Nat):AV→Option Zb
 | .ptr id o=>Ql (.ptr id (o+off))
 | .prow id sz i o=>Ql (.prow id sz i (o+off))
 | .pim cs=>Ql (.pim (cs.drop off))
 | _=>none
def Zfi (x:AV) (n:Int) (len s:Nat):Option Zb:=if 0≤n∧n<len then X9 (n.toNat*s) x else none
def Zbw (hp:Hp) (s:Nat) (x:AV) (n:Int):Option Zb:=if 0≤n then Yf (Qd hp s n.toNat x) else none
def ZiC (s:List UInt8) (n:Int):Option Zb:=if 0≤n then bnd s[n.toNat]? fun b=>Ql (.d (.int .u8 b.toNat)) else none
def Zmm (g:Bool) (s len:Nat) (n:Int) (v:AV):Option Zb:=if 0≤n∧n<len then Yf (ZdF g s (n.toNat*s) v) else none
def Zk0 (n:Int):AV→Option Zb
 | .d (.str s)=>ZiC s n
 | _=>none
def ZjB (i:Nat):AV→Option Zb
 | .tup vs=>Yf vs[i]?
 | _=>none
def ZcR:Option Zi→Option (Nat×Nat×List D)
 | some (.deep s n xs _)=>some (s,n,xs)
 | _=>none
def Jg (hp:Hp):AV→Option (Nat×Nat×Nat×List D)
 | .own id=>bnd (ZcR (lkp hp id)) fun q=>some (id,q)
 | _=>none
def Uh (hp:Hp) (s b base id n:Nat) (ys:List D):AV→Option Eff
 | .nil=>if ys.length*b≤ZR∧ys.length≤ZR then some { val:=.own base,adds:=[(base,.deep s n ys none)],dels:=[id] } else none
 | .own id1=>bnd (ZcR (lkp hp id1)) fun q=>if q.1=s∧q.2.1=n∧id1≠id∧(q.2.2.length+ys.length)*b≤ZR∧q.2.2.length+ys.length≤ZR then
   some { val:=.own base,adds:=[(base,.deep s n (q.2.2++ys) none)],dels:=[id1,id] } else none
 | _=>none
def ZdH (xs:List D) (i c:Nat):Option (List D):=bnd xs[i]? fun x=>match x.cells[c]? with
 | some (.sl ys)=>some ys
 | _=>none
open Classical in
noncomputable def ZcS (s b base id nm:Nat) (q:List D×Bool):Option Zi→Option Eff
 | some (.deep sz n xs (some (nm',i,c)))=>bnd (ZdH xs i c) fun fl=>if nm=nm'∧n=s∧uni s q.1∧Qi q.1∧(fl.length+q.1.length)*b≤ZR∧fl.length+q.1.length≤ZR then
   some { val:=.own base,adds:=[(base,.row s (fl++q.1) true true)],sets:=[(id,.row sz xs true false)] } else none
 | _=>none
def Xt (hp:Hp):AV→List Nat
 | .own id=>if WR (lkp hp id) then [id] else []
 | _=>[]
def US:Zi→Zi
 | .deep s _ xs _=>.row s xs true false
 | o=>o
def meltIn (hp:Hp):List Nat→Hp
 | []=>hp
 | i :: r=>match lkp hp i with
  | some o=>ins (meltIn hp r) i (US o)
  | none=>meltIn hp r
noncomputable def Ya (hp:Hp) (s b:Nat) (str flat:Bool) (base:Nat) (x y:AV):List Nat→Option Eff
 | []=>YU hp s b str flat base x y
 | i :: r=>if flat then none else bnd (YU (meltIn hp (i :: r)) s b str flat base x y) fun e=>some { val:=e.val,adds:=e.adds,sets:=e.sets,dels:=e.dels++(i :: r),frz:=e.frz }
noncomputable def J8 (hp:Hp) (s b:Nat) (str flat:Bool) (base:Nat) (y:AV):AV→Option Eff
 | .sub id nm=>if str then none else bnd (J6 hp true y) fun q=>if (W1 y).contains id then none else ZcS s b base id nm q (lkp hp id)
 | x=>Ya hp s b str flat base x y (Xt hp x++Xt hp y)
def ZhV (hp:Hp) (s b base:Nat) (x y:AV):Option Zb:=Za4 (bnd (Jg hp y) fun q=>if q.2.1=s then Uh hp s b base q.1 q.2.2.1 q.2.2.2 x else none)
noncomputable def ZjC (hp:Hp) (s b:Nat) (str flat:Bool) (base:Nat) (x y:AV):Option Zb:=Za4 (J8 hp s b str flat base y x)
def ZdI:AV→AV→Option Zb
 | .d (.int k a),.d (.int k' b)=>if k=k' then Ql (.d (.int k (minI a b))) else none
 | _,_=>none
def ZdJ:AV→AV→Option Zb
 | .d (.int k a),.d (.int k' b)=>if k=k' then Ql (.d (.int k (maxI a b))) else none
 | _,_=>none
inductive Opd where
 | t (n:Nat)
 | v (a:AV)
 | f (n:Nat)
def evO (sl:Sl):Opd→AV
 | .t n=>gs sl n
 | .v a=>a
 | .f n=>.clo n []
def evL (sl:Sl):List Opd→List AV
 | []=>[]
 | x :: r=>evO sl x :: evL sl r
def evP (sl:Sl):List (Nat×Nat×Opd)→List (Nat×Nat×AV)
 | []=>[]
 | (a,b,x) :: r=>(a,b,evO sl x) :: evP sl r
def evM (sl:Sl):Option Opd→Option AV
 | none=>none
 | some x=>some (evO sl x)
inductive COp where
 | move (x:Opd)
 | assign (s:Option Nat) (x:Opd)
 | pick (c a b:Opd)
 | alloc (slc:List (Option Nat)) (cs:List AV)
 | box (x:Opd)
 | build (zs:List AV) (ps:List (Nat×Nat×Opd))
 | buildSl (s:Nat) (xs:List Opd)
 | load (g:Bool) (s:Nat) (a:Opd)
 | store (slc:List (Option Nat)) (s:Nat) (a x:Opd)
 | nilCheck (x:Opd)
 | bin (op:BinOp) (eq:Bool) (x y:Opd)
 | un (op:UnOp) (x:Opd)
 | eqA (neg:Bool) (ks:List Nat) (x y:Opd)
 | convI (k:IntKind) (x:Opd)
 | convS (x:Opd)
 | fn (f:Nat) (caps:List Opd)
 | make (s b:Nat) (z:D) (l c:Opd)
 | slice (s:Nat) (x:Opd) (lo hi:Option Opd)
 | sliceS (x:Opd) (lo hi:Option Opd)
 | slice0 (x hi mx:Opd)
 | shift (off:Nat) (x:Opd)
 | part (g:Bool) (s off:Nat) (x:Opd)
 | iaS (s:Nat) (x i:Opd)
 | iaA (len s:Nat) (x i:Opd)
 | ixS (x i:Opd)
 | ixA (g:Bool) (s len:Nat) (x i:Opd)
 | nth (i:Nat) (x:Opd)
 | len (x:Opd)
 | lenS (x:Opd)
 | append (s b:Nat) (str flat:Bool) (x y:Opd)
 | min (x y:Opd)
 | max (x y:Opd)
 | call (f:Opd) (as:List Opd)
 | slice3 (s:Nat) (x lo hi mx:Opd)
 | clear (s:Nat) (z:D) (x:Opd)
 | stuck
 | buildDp (s n:Nat) (xs:List Opd)
 | appDp (s b:Nat) (flat:Bool) (x y:Opd)
 | asgDp (s n:Nat) (x:Opd)
structure CO where
 dst:Option Nat
 guard:Option (Nat×Bool)
 op:COp
 tl:Bool
def UT (C:Orc) (M:Zj) (hp:Hp) (base:Nat) (as:List AV):AV→Option Zb
 | .clo g caps=>W4 C (M g) hp base g (as++caps)
 | _=>none
noncomputable def vop (C:Orc) (M:Zj) (sl:Sl) (hp:Hp) (base:Nat):COp→Option Zb
 | .move x=>Ql (evO sl x)
 | .assign s x=>Je base s (evO sl x)
 | .pick c a b=>Za2 (evO sl a) (evO sl b) (evO sl c)
 | .alloc slc cs=>ZaA slc base cs
 | .box x=>Zmk base (evO sl x)
 | .build zs ps=>ZgR zs (evP sl ps)
 | .buildSl s xs=>buildSl hp base s (evL sl xs)
 | .load g s a=>Yf (Y9 hp g s (evO sl a))
 | .store slc s a x=>Za4 (Wm hp slc s base (evO sl x).cells (evO sl a))
 | .nilCheck x=>VY (evO sl x)
 | .bin op eq x y=>ZfB op eq (evO sl x) (evO sl y)
 | .un op x=>Yf (vun op (evO sl x))
 | .eqA neg ks x y=>ZhU neg ks (evO sl x) (evO sl y)
 | .convI k x=>convI k (evO sl x)
 | .convS x=>convS (evO sl x)
 | .fn f cs=>Yf (cloV f (evL sl cs))
 | .make s b z l c=>bnd (idx (evO sl l)) fun l=>bnd (idx (evO sl c)) fun c=>ZgT base s b z l c
 | .slice s x lo hi=>Yf (Yn hp s (evM sl lo) (evM sl hi) (evO sl x))
 | .sliceS x lo hi=>Yf (sliceS (evM sl lo) (evM sl hi) (evO sl x))
 | .slice0 x hi mx=>Yf (slice0 hp (evO sl x) (idx (evO sl hi)) (idx (evO sl mx)))
 | .shift off x=>X9 off (evO sl x)
 | .part g s off x=>Yf (ZdF g s off (evO sl x))
 | .iaS s x i=>bnd (idx (evO sl i)) fun n=>Zbw hp s (evO sl x) n
 | .iaA len s x i=>bnd (idx (evO sl i)) fun n=>Zfi (evO sl x) n len s
 | .ixS x i=>bnd (idx (evO sl i)) fun n=>Zk0 n (evO sl x)
 | .ixA g s len x i=>bnd (idx (evO sl i)) fun n=>Zmm g s len n (evO sl x)
 | .nth i x=>ZjB i (evO sl x)
 | .len x=>bnd (Jr hp (evO sl x)) fun n=>Ql (.d (.int .i64 n))
 | .lenS x=>bnd (ZnE (evO sl x)) fun n=>Ql (.d (.int .i64 n))
 | .append s b str flat x y=>ZjC hp s b str flat base (evO sl x) (evO sl y)
 | .min x y=>ZdI (evO sl x) (evO sl y)
 | .max x y=>ZdJ (evO sl x) (evO sl y)
 | .call f as=>UT C M hp base (evL sl as) (evO sl f)
 | .slice3 _ x lo hi mx=>Yf (slice3 hp (evO sl x) (idx (evO sl lo)) (idx (evO sl hi)) (idx (evO sl mx)))
 | .clear s z x=>Za4 (Jw hp s z (evO sl x))
 | .stuck=>none
 | .buildDp s n xs=>buildDp hp base s n (evL sl xs)
 | .appDp s b _ x y=>ZhV hp s b base (evO sl x) (evO sl y)
 | .asgDp s n x=>asgDp base s n (evO sl x)
section
variable (P:Program)
def Xr (t:TypeId):Option TypeId:=match P.underlying t with
 | some (.slice e)=>some e
 | _=>none
def Wo (t:TypeId):Bool:=match P.underlying t with
 | some .string=>true
 | _=>false
def ZbY (t:TypeId):Bool:=match P.underlying t with
 | some .bool=>true
 | _=>false
def Zoh (t:TypeId):Option IntKind:=match P.underlying t with
 | some (.int k)=>some k
 | _=>none
def ZcT (t:TypeId):Option (Nat×TypeId):=match P.underlying t with
 | some (.array n e)=>some (n,e)
 | _=>none
def J9 (t:TypeId):Option Bool:=match P.underlying t with
 | some (.struct _)=>some true
 | some (.array _ _)=>some true
 | some _=>some false
 | none=>none
def ZaB (s:TypeId) (f:Nat):Option (Nat×TypeId):=match P.underlying s with
 | some (.struct fs)=>match fs[f]? with
  | some x=>if P.cellsOf x.type=0 then none else some (x.offset,x.type)
  | none=>none
 | _=>none
def W5 (t:TypeId):Option Value:=match P.info? t with
 | some i=>i.zero
 | none=>none
def Znd:Nat→TypeId→List TypeId
 | 0,t=>[t]
 | n+1,t=>match P.underlying t with
  | some (.struct fs)=>fs.toList.flatMap fun f=>Znd n f.type
  | some (.array k e)=>(List.replicate k (Znd n e)).flatten
  | _=>[t]
def slcT (t:TypeId):List (Option Nat):=(Znd P 4 t).map fun c=>(Xr P c).map P.cellsOf
def flatE (t:TypeId):Bool:=(Znd P 4 t).all fun c=>match P.underlying c with
 | some (.int _)=>true
 | some .bool=>true
 | some .string=>true
 | _=>false
def UU:Nat→TypeId→Nat→Option (List (Nat×Nat))
 | 0,_,_=>none
 | n+1,t,off=>match P.underlying t with
  | some (.int _)=>if P.cellsOf t=1 then some [(off,0)] else none
  | some .bool=>if P.cellsOf t=1 then some [(off,1)] else none
  | some .string=>if P.cellsOf t=1 then some [(off,2)] else none
  | some (.struct fs)=>if P.stoodInHeld t then none else
    bnd (Qh (fun f:Field=>if f.name = "_"∨P.cellsOf t<f.offset+P.cellsOf f.type then none else UU n f.type (off+f.offset)) fs.toList) fun ls=>some ls.flatten
  | _=>none
def Q4 (t:TypeId):Bool:=match P.underlying t with
 | some (.struct _)=>true
 | _=>false
def Zk1 (t:TypeId):Option (List Nat):=bnd (UU P 5 t 0) fun ls=>
 if ls.map (·.1)=List.range (P.cellsOf t)∧Q4 P t=true∧P.eqGuardType P.depth t=false then some (ls.map (·.2)) else none
def Zk2 (neg:Bool) (op:BinOp) (t:TypeId) (x y:Opd):Option (List Nat)→COp
 | some ks=>.eqA neg ks x y
 | none=>.bin op (ZbY P t) x y
def Zmn (op:BinOp) (t:TypeId) (x y:Opd):COp:=match op with
 | .eql=>Zk2 P false .eql t x y (Zk1 P t)
 | .neq=>Zk2 P true .neq t x y (Zk1 P t)
 | op=>.bin op (ZbY P t) x y
end
section
variable (P:Program)
def ZL:Operand→Option Opd
 | .tmp t=>some (.t t)
 | .const v=>some (.v (evC v))
 | .global _=>none
 | .func f=>some (.f f)
def Zk3 (pl:Nat→Option (Nat×Nat)) (q:Nat×Operand):Option (Nat×Nat×Opd):=bnd (pl q.1) fun p=>bnd (ZL q.2) fun x=>some (p.1,p.2,x)
def cOO:Option Operand→Option (Option Opd)
 | none=>some none
 | some x=>bnd (ZL x) fun y=>some (some y)
def ZaC (t:TypeId):Option (Nat×TypeId)→Nat→Option (Nat×Nat)
 | none,i=>bnd (ZaB P t i) fun q=>some (q.1,P.cellsOf q.2)
 | some a,i=>some (i*P.cellsOf a.2,P.cellsOf a.2)
def Vp (t:TypeId):Bool:=match P.info? t with
 | some i=>(match i.zero with
  | some z=>z.cells.size==i.size&&decide (0<i.size)
  | none=>false)
 | none=>false
def ZdK (t:TypeId):Bool:=match P.underlying t with
 | some (.struct fs)=>fs.toList.all fun f=>(P.info? f.type).isSome
 | some (.array _ e)=>(P.info? e).isSome
 | _=>false
def Zfj (e:TypeId) (u:TypeId):Option Bool:=match Xr P u with
 | some e'=>if e'=e then some false else none
 | none=>if Wo P u then some true else none
def ZgU (x i:Opd) (a:Option (Nat×TypeId)):Option TypeId→Option COp
 | some e=>if (P.info? e).isSome then some (.iaS (P.cellsOf e) x i) else none
 | none=>bnd a fun a=>if (P.info? a.2).isSome then some (.iaA a.1 (P.cellsOf a.2) x i) else none
def ZjD (x i:Opd) (str:Bool) (a:Option (Nat×TypeId)):Option COp:=
 if str then some (.ixS x i) else bnd a fun a=>bnd (J9 P a.2) fun g=>some (.ixA g (P.cellsOf a.2) a.1 x i)
def Zne (x:Opd) (ss sd:Bool):Option IntKind→Option IntKind→Option COp
 | some _,some k=>some (.convI k x)
 | _,_=>if ss&&sd then some (.convS x) else none
def cLen (x:Opd) (str:Bool):Option TypeId→Option COp
 | some _=>some (.len x)
 | none=>if str then some (.lenS x) else none
def Zmo (x:Opd) (lo hi:Option Opd) (str:Bool):Option TypeId→Option COp
 | some e=>if (P.info? e).isSome then some (.slice (P.cellsOf e) x lo hi) else none
 | none=>if str then some (.sliceS x lo hi) else none
def Zaa:Builtin→List Operand→List TypeId→Option COp
 | .len,[x],[t]=>bnd (ZL x) fun x=>cLen x (Wo P t) (Xr P t)
 | .append,[s,x],[t,u]=>bnd (Xr P t) fun e=>bnd (Zfj P e u) fun str=>bnd (ZL s) fun s=>bnd (ZL x) fun x=>
   if Vp P e then some (.append (P.cellsOf e) (P.bytesOf e) str (flatE P e) s x) else none
 | .min,[x,y],_=>bnd (ZL x) fun x=>bnd (ZL y) fun y=>some (.min x y)
 | .max,[x,y],_=>bnd (ZL x) fun x=>bnd (ZL y) fun y=>some (.max x y)
 | .clear,[x],[t]=>bnd (Xr P t) fun e=>bnd (ZL x) fun x=>bnd (W5 P e) fun z=>bnd (evD z) fun z=>if Vp P e then some (.clear (P.cellsOf e) z x) else none
 | _,_,_=>none
def teOf (t:TypeId):Nat:=match bnd (ZaB P t 1) fun q=>Xr P q.2 with
 | some e=>e
 | none=>0
def cOp (ty:TypeId):Op→Option COp
 | .move x=>bnd (ZL x) fun x=>some (.move x)
 | .assign x=>bnd (ZL x) fun x=>some (.assign (bnd (Xr P ty) fun e=>some (P.cellsOf e)) x)
 | .pick c a b=>bnd (ZL c) fun c=>bnd (ZL a) fun a=>bnd (ZL b) fun b=>some (.pick c a b)
 | .alloc t=>bnd (W5 P t) fun z=>some (.alloc (slcT P t) (bnT t (teOf P t) (evC z).cells))
 | .box _ x=>bnd (ZL x) fun x=>some (.box x)
 | .build t ps=>bnd (W5 P t) fun z=>bnd (Qh (Zk3 (ZaC P t (ZcT P t))) ps.toList) fun qs=>if ZdK P t then some (.build (evC z).cells qs) else none
 | .buildSlice t n ps=>bnd (Xr P t) fun e=>bnd (Qh (fun q:Nat×Operand=>ZL q.2) ps.toList) fun xs=>
   if ps.toList.map (·.1)=List.range n∧n*P.cellsOf e≤16777216∧Vp P e then some (.buildSl (P.cellsOf e) xs) else none
 | .load t a=>bnd (J9 P t) fun g=>bnd (ZL a) fun a=>some (.load g (P.cellsOf t) a)
 | .store t a x=>bnd (ZL a) fun a=>bnd (ZL x) fun x=>if (P.info? t).isSome then some (.store (slcT P t) (P.cellsOf t) a x) else none
 | .nilCheck x=>bnd (ZL x) fun x=>some (.nilCheck x)
 | .binOp op t x y _=>bnd (ZL x) fun x=>bnd (ZL y) fun y=>some (Zmn P op t x y)
 | .unOp op _ x=>bnd (ZL x) fun x=>some (.un op x)
 | .convert s d x=>bnd (ZL x) fun x=>Zne x (Wo P s) (Wo P d) (Zoh P s) (Zoh P d)
 | .makeFunc (.func f) fs cs=>if fs.toList.isEmpty then bnd (Qh ZL cs.toList) fun cs=>some (.fn f cs) else none
 | .makeSlice t l c=>bnd (Xr P t) fun e=>bnd (ZL l) fun l=>bnd (ZL c) fun c=>bnd (W5 P e) fun z=>bnd (evD z) fun z=>if Vp P e then some (.make (P.cellsOf e) (P.bytesOf e) z l c) else none
 | .slice t x lo hi none=>bnd (ZL x) fun x=>bnd (cOO lo) fun lo=>bnd (cOO hi) fun hi=>Zmo P x lo hi (Wo P t) (Xr P t)
 | .slice t x none (some hi) (some mx)=>bnd (Xr P t) fun e=>if (P.info? e).isSome then bnd (ZL x) fun x=>bnd (ZL hi) fun hi=>bnd (ZL mx) fun mx=>some (.slice0 x hi mx) else none
 | .slice t x (some lo) (some hi) (some mx)=>bnd (Xr P t) fun e=>if (P.info? e).isSome then bnd (ZL x) fun x=>bnd (ZL lo) fun lo=>bnd (ZL hi) fun hi=>bnd (ZL mx) fun mx=>some (.slice3 (P.cellsOf e) x lo hi mx) else none
 | .fieldAddr s x f=>bnd (ZaB P s f) fun q=>bnd (ZL x) fun x=>some (.shift q.1 x)
 | .field t x f=>bnd (ZaB P t f) fun q=>bnd (J9 P q.2) fun g=>bnd (ZL x) fun x=>some (.part g (P.cellsOf q.2) q.1 x)
 | .indexAddr t x i=>bnd (ZL x) fun x=>bnd (ZL i) fun i=>ZgU P x i (ZcT P t) (Xr P t)
 | .index t x i=>bnd (ZL x) fun x=>bnd (ZL i) fun i=>ZjD P x i (Wo P t) (ZcT P t)
 | .extract x i=>bnd (ZL x) fun x=>some (.nth i x)
 | .call { callee:=.builtin b,args:=as,argTypes:=ts }=>Zaa P b as.toList ts.toList
 | .call { callee:=.value f,args:=as,argTypes:=_ }=>bnd (ZL f) fun f=>bnd (Qh ZL as.toList) fun as=>some (.call f as)
 | _=>none
def ZgV (ops:List Oper):Option (Nat×Bool)→Option (Option (Nat×Bool))
 | none=>some none
 | some q=>bnd ops[q.1]? fun g=>bnd g.dst fun t=>some (some (t,q.2))
def QG (nt:Nat):Option Nat→Bool
 | none=>true
 | some t=>decide (t<nt)
def Yt (ops:Array Oper) (i:Nat):List Nat:=match ops[i]? with
 | some o=>(o.after.toList.filter fun e=>Region.binds .any e).map fun e=>e.on
 | none=>[]
def ZcU (ops:Array Oper):Nat→Nat→Nat→Bool
 | 0,i,j=>(Yt ops i).contains j
 | n+1,i,j=>(Yt ops i).contains j || (Yt ops i).any fun z=>ZcU ops n z j
def startO:Op→Bool
 | .call { callee:=.builtin .append,args:=_,argTypes:=_ }=>true
 | .buildSlice _ _ _=>true
 | _=>false
def callO:Op→Bool
 | .call { callee:=.value (.func _),args:=_,argTypes:=_ }=>true
 | _=>false
def Zpq:Op→Bool
 | .move _=>true
 | _=>false
def aheadO:Op→Bool
 | .store _ _ _=>false
 | .box _ _=>false
 | .assign _=>false
 | .makeFunc _ _ _=>false
 | .makeSlice _ _ _=>false
 | .call { callee:=.builtin .append,args:=_,argTypes:=_ }=>false
 | .call { callee:=.value _,args:=_,argTypes:=_ }=>false
 | _=>true
def ZqB:Op→Bool
 | .move _=>true
 | .alloc _=>true
 | .buildSlice _ _ _=>true
 | .load _ _=>true
 | .nilCheck _=>true
 | .binOp _ _ _ _ _=>true
 | .unOp _ _ _=>true
 | .convert _ _ _=>true
 | .fieldAddr _ _ _=>true
 | .indexAddr _ _ _=>true
 | .slice _ _ _ _ _=>true
 | .call { callee:=.builtin .len,args:=_,argTypes:=_ }=>true
 | _=>false
def appO:Op→Bool
 | .call { callee:=.builtin .append,args:=_,argTypes:=_ }=>true
 | _=>false
def lookO:Op→Bool
 | .move _=>true
 | .load _ _=>true
 | .nilCheck _=>true
 | .binOp _ _ _ _ _=>true
 | .convert _ _ _=>true
 | .fieldAddr _ _ _=>true
 | .field _ _ _=>true
 | .extract _ _=>true
 | .indexAddr _ _ _=>true
 | .slice _ _ _ _ _=>true
 | .call { callee:=.builtin .len,args:=_,argTypes:=_ }=>true
 | _=>false
def atO (f:Op→Bool) (ops:List Oper) (k:Nat):Bool:=match ops[k]? with
 | some o=>f o.op
 | none=>false
def firmAt (ops:List Oper) (i:Nat):Bool:=
 (List.range ops.length).all fun k=>if k<i then ZcU ops.toArray 6 i k || atO Zpq ops k else k==i || ZcU ops.toArray 6 k i || atO Zpq ops k
def firmP (ops:List Oper) (i:Nat):Bool:=
 (List.range ops.length).all fun k=>if k<i then ZcU ops.toArray 6 i k || atO lookO ops k else k==i || ZcU ops.toArray 6 k i || atO Zpq ops k
def firmC (ops:List Oper) (i:Nat):Bool:=
 (List.range ops.length).all fun k=>if k<i then ZcU ops.toArray 6 i k || atO aheadO ops k else k==i || ZcU ops.toArray 6 k i || atO ZqB ops k
def ZgW (ops:List Oper) (o:Oper):Nat:=ops.findIdx fun x=>x.dst==o.dst
def firm (ops:List Oper) (o:Oper):Bool:=(startO o.op&&firmAt ops (ZgW ops o)) || (callO o.op&&firmC ops (ZgW ops o)) || (appO o.op&&firmP ops (ZgW ops o))
def Vg:Option COp→COp
 | some c=>c
 | none=>.stuck
def Zfk (nt:Nat) (ops:List Oper) (o:Oper):Option CO:=bnd (ZgV ops o.guard) fun g=>
 if QG nt o.dst then some { dst:=o.dst,guard:=g,op:=Vg (cOp P o.type o.op),tl:=firm ops o } else none
end
end Go.Abs
