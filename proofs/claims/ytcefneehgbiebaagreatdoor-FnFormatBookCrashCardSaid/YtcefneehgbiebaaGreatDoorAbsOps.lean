/- Own text. -/
import Derived.Test.YtcefneehgbiebaaGreatDoorAbsBase
set_option linter.unusedVariables false
set_option linter.unusedSimpArgs false
namespace Go.Abs
open Go
def mat:List (Option Nat)→List AV→Nat→List AV×Hp
 | some s :: ts,.nil :: vs,b=>let r:=mat ts vs (b+1);(.own b :: r.1,(b,.row s [] true false) :: r.2)
 | _ :: ts,v :: vs,b=>let r:=mat ts vs b;(v :: r.1,r.2)
 | _,vs,_=>(vs,[])
def Zoa:List AV→Bool
 | []=>false
 | .nil :: _=>true
 | _ :: r=>Zoa r
structure Eff where
 val:AV
 adds:Hp:=[]
 sets:Hp:=[]
 dels:List Nat:=[]
 frz:List Nat:=[]
def Zh:Hp→Hp→Hp
 | hp,[]=>hp
 | hp,(k,o) :: r=>Zh (ins hp k o) r
def del:Hp→Nat→Hp
 | [],_=>[]
 | (k,o) :: r,t=>if k=t then del r t else (k,o) :: del r t
def Qu:Hp→List Nat→Hp
 | hp,[]=>hp
 | hp,k :: r=>Qu (del hp k) r
def Ql (ids:List Nat) (hp:Hp):Hp:=match ids with
 | []=>hp
 | _=>freeze ids hp
def Eff.on (e:Eff) (hp:Hp):Hp:=Zh (Zh (Qu (Ql e.frz hp) e.dels) e.sets) e.adds
def ZAa:List AV→Nat→List AV→List AV
 | cs,_,[]=>cs
 | cs,off,v :: r=>ZAa (cs.set off v) (off+1) r
def Zo7:List AV→List (Nat×Nat×AV)→Option (List AV)
 | cells,[]=>some cells
 | cells,q :: r=>if q.2.2.solid∧q.2.2.cells.length=q.2.1∧q.1+q.2.1≤cells.length then Zo7 (ZAa cells q.1 q.2.2.cells) r else none
def AV.atom:AV→Bool
 | .d x=>x.one
 | .agg _=>false
 | .tup _=>false
 | .clo _ _=>false
 | _=>true
def ZjO:List AV→Bool
 | []=>true
 | v :: r=>v.atom&&ZjO r
def cloV (f:Nat) (cs:List AV):Option AV:=if ZjO cs then some (.clo f cs) else none
def ZmX:AV→AV
 | .bbuf _ _=>.junk
 | v=>v
def ZbG (agg:Bool) (s off:Nat):Option Zm→Option AV
 | some (.box cs)=>if agg then (if off+s≤cs.length then some (ZaJ ((cs.drop off).take s)) else none) else (cs[off]?).map ZmX
 | _=>none
def ZeV (agg:Bool) (s off:Nat) (cs:List D):Option AV:=
 if agg then (if off+s≤cs.length then some (.d (.agg ((cs.drop off).take s))) else none) else asD cs[off]?
def ZmY (agg:Bool) (s sz off:Nat) (x:D):Option AV:=if x.cells.length=sz then ZeV agg s off x.cells else none
def Zwu (id i off:Nat):Option (Nat×Nat×Nat)→Option AV
 | some (nm,i',c)=>if i=i'∧off=c then some (.sub id nm) else none
 | none=>none
def ZfJ (id i off:Nat) (lk:Option (Nat×Nat×Nat)) (x:D):Option AV:=match x.cells[off]? with
 | some (.sl _)=>Zwu id i off lk
 | some y=>if y.plain then some (.d y) else none
 | none=>none
def ZbH (id:Nat) (agg:Bool) (s sz i off:Nat):Option Zm→Option AV
 | some (.row sz' xs _ _)=>if sz=sz' then bnd xs[i]? (ZmY agg s sz off) else none
 | some (.deep sz' _ xs lk)=>if sz=sz' then (if agg then none else bnd xs[i]? (ZfJ id i off lk)) else none
 | _=>none
def Jp (hp:Hp) (agg:Bool) (s:Nat):AV→Option AV
 | .ptr id off=>ZbG agg s off (lkp hp id)
 | .prow id sz i off=>ZbH id agg s sz i off (lkp hp id)
 | .pim cs=>ZeV agg s 0 cs
 | _=>none
def ZuR:AV→Option D
 | .d x=>if x.plain then some x else none
 | _=>none
def Zwv:List AV→Option (List D)
 | []=>some []
 | v :: r=>bnd (ZuR v) fun x=>bnd (Zwv r) fun ds=>some (x :: ds)
def ZfK (slc:List (Option Nat)) (s base id off:Nat) (vs:List AV):Option Zm→Option Eff
 | some (.box cs)=>if vs.length=s∧off+s≤cs.length∧Yy vs∧X3 cs=true then
    (if Zoa vs then some { val := .junk, adds := (mat slc vs base).2, sets := [(id, .box (Qf cs off (mat slc vs base).1))] }
      else some { val:=.junk,sets:=[(id,.box (Qf cs off vs))] })
   else none
 | _=>none
def D.notSl:D→Bool
 | .sl _=>false
 | _=>true
def ZfL (s id sz i off:Nat) (xs:List D) (ex:Bool) (x:D) (q:List D×Bool×List Nat):Option Eff:=
 if x.notSl∧x.cells.length=sz∧q.1.length=s∧off+s≤sz∧q.2.2.contains id=false then
  some { val:=.junk,sets:=[(id,.row sz (xs.set i (ZgK x off q.1)) (ex&&q.2.1) false)],frz:=q.2.2 } else none
def ZdI (hp:Hp) (s id sz i off:Nat) (vs:List AV):Option Zm→Option Eff
 | some (.row sz' xs ex false)=>if sz=sz' then bnd xs[i]? fun x=>bnd (WP hp vs) fun q=>ZfL s id sz i off xs ex x q else none
 | _=>none
def Zbm (hp:Hp) (slc:List (Option Nat)) (s base:Nat) (vs:List AV):AV→Option Eff
 | .ptr id off=>ZfK slc s base id off vs (lkp hp id)
 | .prow id sz i off=>ZdI hp s id sz i off vs (lkp hp id)
 | _=>none
def uni (s:Nat) (ys:List D):Prop:=∀ y∈ys,y.cells.length=s
def ZV:Nat:=140737488355328
def QN (ys:List D):Prop:=∀ y∈ys,y.flat=true
def ZuS (flat:Bool):Option Zm→Option (List D×Bool)
 | some (.row _ ys ex _)=>some (ys,ex || flat)
 | _=>none
def Zrw:AV→Option (List D×Bool)
 | .d (.str s)=>some (s.map fun b=>.int .u8 b.toNat,true)
 | _=>none
def ZpZ (flat:Bool) (off n:Nat):Option Zm→Option (List D×Bool)
 | some (.row _ ys ex _)=>some ((ys.drop off).take n,ex || flat)
 | _=>none
def ZfM (hp:Hp) (flat:Bool):AV→Option (List D×Bool)
 | .nil=>some ([],true)
 | .d (.sl ys)=>some (ys,flat)
 | .own id=>ZuS flat (lkp hp id)
 | .ownv id off n=>ZpZ flat off n (lkp hp id)
 | _=>none
def Zjf (sz base:Nat) (dels:List Nat) (xs:List D) (ex:Bool):Eff:=
 { val:=.own base,adds:=[(base,.row sz xs ex false)],dels:=dels }
def Zob (sz by_ base id:Nat) (ys:List D) (ex' : Bool):Option Zm→Option Eff
 | some (.row sz' xs ex false)=>if sz'=sz∧(xs.length+ys.length)*by_≤ZV∧xs.length+ys.length≤ZV then some (Zjf sz base [id] (xs++ys) (ex&&ex')) else none
 | _=>none
def ZjP (sz by_ base id n:Nat) (ys:List D) (ex' : Bool):Option Zm→Option Eff
 | some (.row sz' xs ex false)=>if sz'=sz∧(n+ys.length)*by_≤ZV∧n+ys.length≤ZV then some (Zjf sz base [id] (xs.take n++ys) (ex&&ex')) else none
 | _=>none
def ZjQ (sz base id n:Nat) (ys:List D) (ex' : Bool):Option Zm→Option Eff
 | some (.row sz' xs ex false)=>if sz'=sz∧0<xs.length∧n+ys.length≤xs.length then
   some { val:=.ownv base 0 (n+ys.length),adds:=[(base,.row sz (xs.take n++ys++xs.drop (n+ys.length)) (ex&&ex') false)],dels:=[id] } else none
 | _=>none
def Zjg (hp:Hp) (sz by_:Nat) (base:Nat) (src:List Nat) (ys:List D) (ex' : Bool):AV→Option Eff
 | .nil=>if ys.length*by_≤ZV∧ys.length≤ZV then some (Zjf sz base [] ys ex') else none
 | .own id=>if src.contains id then none else Zob sz by_ base id ys ex' (lkp hp id)
 | .ownv id off n=>if off≠0 then none else if src.contains id then ZjQ sz base id n ys ex' (lkp hp id) else ZjP sz by_ base id n ys ex' (lkp hp id)
 | _=>none
open Classical in
noncomputable def UK (hp:Hp) (sz by_:Nat) (str flat:Bool) (base:Nat) (s x:AV):Option Eff:=
 bnd (if str then Zrw x else ZfM hp flat x) fun q=>if uni sz q.1∧(flat=true→QN q.1) then Zjg hp sz by_ base (Zcv x) q.1 q.2 s else none
def idx (i:AV):Option Int:=match i with
 | .d (.int _ n)=>some n
 | _=>none
def Zy0 (sz:Nat) (y:D):Option AV:=if y.cells.length=sz then some (.pim y.cells) else none
def Zej (sz id n:Nat):Option Zm→Option AV
 | some (.row sz' xs _ _)=>if sz'=sz∧n<xs.length then some (.prow id sz n 0) else none
 | some (.deep sz' _ xs _)=>if sz'=sz∧n<xs.length then some (.prow id sz n 0) else none
 | _=>none
def ZdJ (sz id off m n:Nat):Option Zm→Option AV
 | some (.row sz' _ _ _)=>if sz'=sz∧n<m then some (.prow id sz (off+n) 0) else none
 | _=>none
def QF (hp:Hp) (sz n:Nat):AV→Option AV
 | .d (.sl xs)=>bnd xs[n]? (Zy0 sz)
 | .own id=>Zej sz id n (lkp hp id)
 | .ownv id off m=>ZdJ sz id off m n (lkp hp id)
 | _=>none
def bd (m:Nat) (v:AV):Option Nat:=bnd (idx v) fun n=>if 0≤n∧n≤m then some n.toNat else none
def hiOf (len:Nat):Option AV→Option Nat
 | none=>some len
 | some v=>bd len v
def loOf (h:Nat):Option AV→Option Nat
 | none=>some 0
 | some v=>bd h v
def ZuT (len:Nat) (lo hi:Option AV):Option (Nat×Nat):=bnd (hiOf len hi) fun h=>bnd (loOf h lo) fun l=>some (l,h)
def Zww (id n:Nat):Option AV→Option AV→Option AV
 | none,none=>some (.own id)
 | lo,hi=>bnd (ZuT n lo hi) fun b=>some (.ownv id b.1 (b.2-b.1))
def ZdK (s id:Nat) (lo hi:Option AV):Option Zm→Option AV
 | some (.row sz xs _ _)=>if sz=s then Zww id xs.length lo hi else none
 | _=>none
def ZBo (n m:Nat) (lo:Option AV):Option AV→Option (Nat×Nat)
 | none=>ZuT n lo none
 | some h=>ZuT m lo (some h)
def Zbn (s id off n:Nat) (lo hi:Option AV):Option Zm→Option AV
 | some (.row sz xs _ _)=>if sz=s then bnd (ZBo n (xs.length-off) lo hi) fun b=>some (.ownv id (off+b.1) (b.2-b.1)) else none
 | _=>none
def slice3 (hp:Hp) (x:AV) (lo hi mx:Option Int):Option AV:=bnd lo fun l=>bnd hi fun h=>bnd mx fun m=>bnd (ZeT hp x) fun n=>
 if 0≤l∧l≤h∧h≤m∧m≤n then some .junk else none
def Zjh (s id off n:Nat) (z:D):Option Zm→Option Eff
 | some (.row sz xs ex false)=>if sz=s∧z.cells.length=s∧off+n≤xs.length then some { val:=.tup [],sets:=[(id,.row sz (xs.take off++List.replicate n z++xs.drop (off+n)) ex false)] } else none
 | _=>none
def ZeW (hp:Hp) (s:Nat) (z:D):AV→Option Eff
 | .ownv id off n=>Zjh s id off n z (lkp hp id)
 | _=>none
open Classical in
noncomputable def WL (hp:Hp) (s:Nat) (lo hi:Option AV):AV→Option AV
 | .d (.sl xs)=>if uni s xs then bnd (ZuT xs.length lo hi) fun b=>some (.d (.sl ((xs.take b.2).drop b.1))) else none
 | .nil=>bnd (ZuT 0 lo hi) fun _=>some .nil
 | .own id=>ZdK s id lo hi (lkp hp id)
 | .ownv id off n=>Zbn s id off n lo hi (lkp hp id)
 | _=>none
def sliceS (lo hi:Option AV):AV→Option AV
 | .d (.str s)=>bnd (ZuT s.length lo hi) fun b=>some (.d (.str ((s.take b.2).drop b.1)))
 | _=>none
def slice0 (hp:Hp) (x:AV) (hi mx:Option Int):Option AV:=match hi,mx with
 | some 0,some 0=>bnd (ZeT hp x) fun _=>some .nil
 | _,_=>none
def ZmZ (agg:Bool) (s off:Nat):AV→Option AV
 | .d (.agg cs)=>ZeV agg s off cs
 | .agg cs=>if agg then (if off+s≤cs.length then some (ZaJ ((cs.drop off).take s)) else none) else cs[off]?
 | _=>none
abbrev Orc:=Nat→List AV→List Zm→Option (AV×List Zm)
abbrev Zp:=Nat→Nat→Bool
def ZgV (hp:Hp) (id:Nat):Bool→Option AV
 | true=>some (.own id)
 | false=>asD (Zj7 hp (.own id))
def Zji:Bool→Option AV
 | true=>some .nil
 | false=>some (.d (.sl []))
def ZeX (hp:Hp) (m:Bool):AV→Option AV
 | .ptr a b=>some (.ptr a b)
 | .clo f c=>some (.clo f c)
 | .nilp=>some .nilp
 | .nili=>some .nili
 | .pim c=>some (.pim c)
 | .own id=>ZgV hp id m
 | .nil=>Zji m
 | .d x=>some (.d x)
 | v=>asD (toD hp v)
def args (hp:Hp) (m:Nat→Bool):Nat→List AV→Option (List AV)
 | _,[]=>some []
 | i,v :: r=>bnd (ZeX hp (m i) v) fun a=>bnd (args hp m (i+1) r) fun as=>some (a :: as)
def ZaO (hp:Hp) (go:List Nat→List Nat→List Nat) (id:Nat) (todo acc:List Nat):Option Zm→List Nat
 | some o=>go (todo++ZbY o) (acc++[id])
 | none=>go todo acc
def QQ (hp:Hp):Nat→List Nat→List Nat→List Nat
 | 0,_,acc=>acc
 | _+1,[],acc=>acc
 | n+1,id :: todo,acc=>if acc.contains id then QQ hp n todo acc else ZaO hp (QQ hp n) id todo acc (lkp hp id)
def WR:List Nat→Nat→Nat
 | [],_=>0
 | x :: r,t=>if x=t then 0 else WR r t+1
def Zm0:Option Zm→Zm
 | some o=>o
 | none=>.row 0 [] true false
def ZdL (hp:Hp):List Nat→List Zm
 | []=>[]
 | id :: r=>Zm0 (lkp hp id) :: ZdL hp r
def ZaP (ids:List Nat) (o:Zm):Zm:=ZpN (WR ids) (X4 ((ZbY o).filter fun i=>!ids.contains i) o)
def Vi:Option Zm→Bool
 | some (.row _ _ _ _)=>true
 | some (.deep _ _ _ _)=>true
 | _=>false
def ZdM:AV→Bool
 | .d x=>x.flat
 | .pim _=>false
 | .agg _=>false
 | .tup _=>false
 | .clo _ _=>false
 | _=>true
def ZeY:AV→Bool
 | .agg cs=>cs.all ZdM
 | .clo _ cs=>cs.all ZdM
 | v=>ZdM v
def ZtS:AV→Bool
 | .tup vs=>vs.all ZeY
 | v=>ZeY v
def ZlD:Zm→Bool
 | .box cs=>cs.all ZeY
 | .row _ _ ex fz=>ex&&!fz
 | .deep _ _ _ _=>true
def ZlE (d:Nat):Option Nat→Nat
 | some i=>i
 | none=>d
def Ul (ids:List Nat) (base k:Nat):Nat:=ZlE (base+(k-ids.length)) ids[k]?
def ZdN (g:Nat→Nat):List Nat→List Zm→Hp
 | id :: ids,o :: os=>(id,ZpN g o) :: ZdN g ids os
 | _,_=>[]
def ZdO (g:Nat→Nat):Nat→List Zm→Hp
 | _,[]=>[]
 | k,o :: os=>(k,ZpN g o) :: ZdO g (k+1) os
structure Zd where
 eff:Eff
 gone:List Nat
def Xh (_hp:Hp):Nat:=1000
def Vf:List AV→List AV→List Nat
 | v :: vs,.d _ :: as=>ZgJ v++Vf vs as
 | _ :: vs,_ :: as=>Vf vs as
 | _,_=>[]
def Zci:Option Zm→Bool
 | some (.deep _ _ _ _)=>true
 | _=>false
def ZaQ (hp:Hp) (base:Nat) (ids lent:List Nat) (r:AV) (out:List Zm):Option Zd:=
 if out.length<ids.length then none else if !(ZtS r&&out.all ZlD)&&lent.any fun i=>Zci (lkp hp i) then none else
  some { eff := { val:=ren (Ul ids base) r,adds:=ZdO (Ul ids base) base (out.drop ids.length),sets:=ZdN (Ul ids base) ids out,frz:=if ZtS r&&out.all ZlD then [] else lent },gone:=ids.filter fun i=>Vi (lkp hp i) }
def Zb1:AV→List Nat
 | .ptr id _=>[id]
 | .clo _ cs=>cs.flatMap Zn
 | _=>[]
def ZcP (hp:Hp) (rs ids:List Nat):Bool:=ids.all fun i=>Vi (lkp hp i) || rs.contains i
def Zek (C:Orc) (hp:Hp) (base f:Nat) (lent:List Nat) (as:List AV) (ids:List Nat):Option Zd:=
 if (as.flatMap ZC).all ids.contains∧¬lent.any ids.contains∧ZcP hp (as.flatMap Zb1) ids=true then
  bnd (C f (as.map (ren (WR ids))) ((ZdL hp ids).map (ZaP ids))) fun q=>ZaQ hp base ids lent q.1 q.2
 else none
def Zcy (C:Orc) (m:Nat→Bool) (hp:Hp) (base f:Nat) (avs:List AV):Option Zd:=
 bnd (args hp m 0 avs) fun as=>Zek C hp base f (Vf avs as) as (QQ hp (Xh hp) (as.flatMap ZC) [])
def QR (v:AV):Option Zd:=some { eff := { val:=v },gone:=[] }
def Wa (v:Option AV):Option Zd:=bnd v QR
def ZhZ (e:Option Eff):Option Zd:=bnd e fun e=>some { eff:=e,gone:=[] }
def Zel (base:Nat) (e:Option Nat):AV→Option Zd
 | .nil=>bnd e fun s=>some { eff := { val:=.own base,adds:=[(base,.row s [] true false)] },gone:=[] }
 | v=>QR v
def ZhU (a b:AV):AV→Option Zd
 | .d (.bool t)=>if t then QR a else QR b
 | _=>none
def ZlF (base:Nat):AV→AV
 | .bnil _ e=>.bnil base e
 | v=>v
def bnT (t te:Nat):List AV→List AV
 | [.nilp,.nil]=>[.bnil 0 t,.bbuf te []]
 | cs=>cs
def ZBp:List AV→Bool
 | [.bnil _ _,.bbuf _ []]=>true
 | _=>false
def Zoc (slc:List (Option Nat)) (base:Nat) (cs:List AV):Option Zd:=
 if X3 cs=false then (if ZBp cs=true then some { eff := { val:=.ptr base 0,adds:=[(base,.box cs)] },gone:=[] } else none) else
 if Zoa cs then some { eff := { val:=.ptr base 0,adds:=(base,.box (mat slc cs (base+1)).1) :: (mat slc cs (base+1)).2 },gone:=[] }
 else some { eff := { val:=.ptr base 0,adds:=[(base,.box cs)] },gone:=[] }
def ZgW (slc:List (Option Nat)) (base:Nat) (cs:List AV):Option Zd:=Zoc slc base (cs.map (ZlF base))
def ZxT (base:Nat) (x:AV):Option Zd:=if x.solid&&X3 x.cells then some { eff := { val:=.ptr base 0,adds:=[(base,.box x.cells)] },gone:=[] } else none
def Zrx (zs:List AV) (ps:List (Nat×Nat×AV)):Option Zd:=bnd (Zo7 zs ps) fun cs=>QR (ZaJ cs)
def ZxU (base s:Nat) (q:List D×Bool×List Nat):Option Zd:=
 if q.1.all (fun d=>d.cells.length==s) then some { eff := { val:=.own base,adds:=[(base,.row s q.1 q.2.1 false)],frz:=q.2.2 },gone:=[] } else none
def buildSl (hp:Hp) (base s:Nat):List AV→Option Zd
 | []=>QR .nil
 | v :: vs=>bnd (UI hp (v :: vs)) (ZxU base s)
def Zem (hp:Hp) (n:Nat):AV→Option (D×List Nat)
 | .d x=>if x.plain then some (x,[]) else none
 | .nil=>some (.sl [],[])
 | .own id=>deepRow n id (lkp hp id)
 | _=>none
where deepRow (n id:Nat):Option Zm→Option (D×List Nat)
 | some (.row sz xs true false)=>if sz=n∧Zcg D.flat xs then some (.sl xs,[id]) else none
 | _=>none
def ZfN (hp:Hp) (n:Nat):List AV→Option (List D×List Nat)
 | []=>some ([],[])
 | v :: r=>bnd (Zem hp n v) fun q=>bnd (ZfN hp n r) fun p=>if !q.2.any p.2.contains then some (q.1 :: p.1,q.2++p.2) else none
def asgDp (base s n:Nat):AV→Option Zd
 | .nil=>some { eff := { val:=.own base,adds:=[(base,.deep s n [] none)] },gone:=[] }
 | _=>none
def buildDp (hp:Hp) (base s n:Nat):List AV→Option Zd
 | [.agg cs]=>bnd (ZfN hp n cs) fun q=>if q.1.length=s then some { eff := { val:=.own base,adds:=[(base,.deep s n [.agg q.1] none)],dels:=q.2 },gone:=[] } else none
 | _=>none
def ZaR:AV→Option Zd
 | .ptr a b=>QR (.ptr a b)
 | .prow a b c d=>QR (.prow a b c d)
 | .pim c=>QR (.pim c)
 | .clo f c=>QR (.clo f c)
 | _=>none
def Zm1 (op:BinOp) (eq:Bool):AV→AV→Option Zd
 | .d (.bool a),.d (.bool b)=>if eq then Wa (Ztn op a b) else none
 | a,b=>Wa (vbin op a b)
def Za1:List Nat→List D→List D→Option Bool
 | [],[],[]=>some true
 | 0 :: ks,.int k a :: cs,.int k' b :: ds=>if k=k' then bnd (Za1 ks cs ds) fun r=>some (decide (a=b)&&r) else none
 | 1 :: ks,.bool a :: cs,.bool b :: ds=>bnd (Za1 ks cs ds) fun r=>some (decide (a=b)&&r)
 | 2 :: ks,.str a :: cs,.str b :: ds=>bnd (Za1 ks cs ds) fun r=>some (decide (a=b)&&r)
 | _,_,_=>none
def Zry (neg:Bool) (r:Bool):Bool:=if neg then !r else r
def ZsT (neg:Bool) (ks:List Nat):AV→AV→Option Zd
 | .d (.agg cs),.d (.agg ds)=>bnd (Za1 ks cs ds) fun r=>QR (.d (.bool (Zry neg r)))
 | _,_=>none
def convI (k:IntKind):AV→Option Zd
 | .d (.int _ n)=>QR (.d (.int k (k.wrap n)))
 | _=>none
def convS:AV→Option Zd
 | .d (.str s)=>QR (.d (.str s))
 | _=>none
def Zrz (base s b:Nat) (z:D) (l c:Int):Option Zd:=
 if 0≤l∧l≤c∧c*b≤ZV∧c≤ZV∧z.cells.length=s then
  some { eff := { val:=.own base,adds:=[(base,.row s (List.replicate l.toNat z) true false)] },gone:=[] } else none
def Wb (off:Nat):AV→Option Zd
 | .ptr id o=>QR (.ptr id (o+off))
 | .prow id sz i o=>QR (.prow id sz i (o+off))
 | .pim cs=>QR (.pim (cs.drop off))
 | _=>none
def Zo8 (x:AV) (n:Int) (len s:Nat):Option Zd:=if 0≤n∧n<len then Wb (n.toNat*s) x else none
def Zjj (hp:Hp) (s:Nat) (x:AV) (n:Int):Option Zd:=if 0≤n then Wa (QF hp s n.toNat x) else none
def ZtT (s:List UInt8) (n:Int):Option Zd:=if 0≤n then bnd s[n.toNat]? fun b=>QR (.d (.int .u8 b.toNat)) else none
def ZxV (g:Bool) (s len:Nat) (n:Int) (v:AV):Option Zd:=if 0≤n∧n<len then Wa (ZmZ g s (n.toNat*s) v) else none
def Zwx (n:Int):AV→Option Zd
 | .d (.str s)=>ZtT s n
 | _=>none
def ZuU (i:Nat):AV→Option Zd
 | .tup vs=>Wa vs[i]?
 | _=>none
def ZlG:Option Zm→Option (Nat×Nat×List D)
 | some (.deep s n xs _)=>some (s,n,xs)
 | _=>none
def Zen (hp:Hp):AV→Option (Nat×Nat×Nat×List D)
 | .own id=>bnd (ZlG (lkp hp id)) fun q=>some (id,q)
 | _=>none
def ZcQ (hp:Hp) (s b base id n:Nat) (ys:List D):AV→Option Eff
 | .nil=>if ys.length*b≤ZV∧ys.length≤ZV then some { val:=.own base,adds:=[(base,.deep s n ys none)],dels:=[id] } else none
 | .own id1=>bnd (ZlG (lkp hp id1)) fun q=>if q.1=s∧q.2.1=n∧id1≠id∧(q.2.2.length+ys.length)*b≤ZV∧q.2.2.length+ys.length≤ZV then
   some { val:=.own base,adds:=[(base,.deep s n (q.2.2++ys) none)],dels:=[id1,id] } else none
 | _=>none
def Zm2 (xs:List D) (i c:Nat):Option (List D):=bnd xs[i]? fun x=>match x.cells[c]? with
 | some (.sl ys)=>some ys
 | _=>none
open Classical in
noncomputable def ZlH (s b base id nm:Nat) (q:List D×Bool):Option Zm→Option Eff
 | some (.deep sz n xs (some (nm',i,c)))=>bnd (Zm2 xs i c) fun fl=>if nm=nm'∧n=s∧uni s q.1∧QN q.1∧(fl.length+q.1.length)*b≤ZV∧fl.length+q.1.length≤ZV then
   some { val:=.own base,adds:=[(base,.row s (fl++q.1) true true)],sets:=[(id,.row sz xs true false)] } else none
 | _=>none
def YJ (hp:Hp):AV→List Nat
 | .own id=>if Zci (lkp hp id) then [id] else []
 | _=>[]
def ZdP:Zm→Zm
 | .deep s _ xs _=>.row s xs true false
 | o=>o
def meltIn (hp:Hp):List Nat→Hp
 | []=>hp
 | i :: r=>match lkp hp i with
  | some o=>ins (meltIn hp r) i (ZdP o)
  | none=>meltIn hp r
noncomputable def Wc (hp:Hp) (s b:Nat) (str flat:Bool) (base:Nat) (x y:AV):List Nat→Option Eff
 | []=>UK hp s b str flat base x y
 | i :: r=>if flat then none else bnd (UK (meltIn hp (i :: r)) s b str flat base x y) fun e=>some { val:=e.val,adds:=e.adds,sets:=e.sets,dels:=e.dels++(i :: r),frz:=e.frz }
noncomputable def ZfO (hp:Hp) (s b:Nat) (str flat:Bool) (base:Nat) (y:AV):AV→Option Eff
 | .sub id nm=>if str then none else bnd (ZfM hp true y) fun q=>if (Zcv y).contains id then none else ZlH s b base id nm q (lkp hp id)
 | x=>Wc hp s b str flat base x y (YJ hp x++YJ hp y)
def ZsU (hp:Hp) (s b base:Nat) (x y:AV):Option Zd:=ZhZ (bnd (Zen hp y) fun q=>if q.2.1=s then ZcQ hp s b base q.1 q.2.2.1 q.2.2.2 x else none)
noncomputable def ZuV (hp:Hp) (s b:Nat) (str flat:Bool) (base:Nat) (x y:AV):Option Zd:=ZhZ (ZfO hp s b str flat base y x)
def Zm3:AV→AV→Option Zd
 | .d (.int k a),.d (.int k' b)=>if k=k' then QR (.d (.int k (minI a b))) else none
 | _,_=>none
def Zm4:AV→AV→Option Zd
 | .d (.int k a),.d (.int k' b)=>if k=k' then QR (.d (.int k (maxI a b))) else none
 | _,_=>none
inductive Opd where
 | t (n:Nat)
 | v (a:AV)
 | f (n:Nat)
def evO (sl:Sl):Opd→AV
 | .t n=>gs sl n
 | .v a=>a
 | .f n=>.clo n []
def evL (sl:Sl):List Opd→List AV
 | []=>[]
 | x :: r=>evO sl x :: evL sl r
def evP (sl:Sl):List (Nat×Nat×Opd)→List (Nat×Nat×AV)
 | []=>[]
 | (a,b,x) :: r=>(a,b,evO sl x) :: evP sl r
def evM (sl:Sl):Option Opd→Option AV
 | none=>none
 | some x=>some (evO sl x)
inductive COp where
 | move (x:Opd)
 | assign (s:Option Nat) (x:Opd)
 | pick (c a b:Opd)
 | alloc (slc:List (Option Nat)) (cs:List AV)
 | box (x:Opd)
 | build (zs:List AV) (ps:List (Nat×Nat×Opd))
 | buildSl (s:Nat) (xs:List Opd)
 | load (g:Bool) (s:Nat) (a:Opd)
 | store (slc:List (Option Nat)) (s:Nat) (a x:Opd)
 | nilCheck (x:Opd)
 | bin (op:BinOp) (eq:Bool) (x y:Opd)
 | un (op:UnOp) (x:Opd)
 | eqA (neg:Bool) (ks:List Nat) (x y:Opd)
 | convI (k:IntKind) (x:Opd)
 | convS (x:Opd)
 | fn (f:Nat) (caps:List Opd)
 | make (s b:Nat) (z:D) (l c:Opd)
 | slice (s:Nat) (x:Opd) (lo hi:Option Opd)
 | sliceS (x:Opd) (lo hi:Option Opd)
 | slice0 (x hi mx:Opd)
 | shift (off:Nat) (x:Opd)
 | part (g:Bool) (s off:Nat) (x:Opd)
 | iaS (s:Nat) (x i:Opd)
 | iaA (len s:Nat) (x i:Opd)
 | ixS (x i:Opd)
 | ixA (g:Bool) (s len:Nat) (x i:Opd)
 | nth (i:Nat) (x:Opd)
 | len (x:Opd)
 | lenS (x:Opd)
 | append (s b:Nat) (str flat:Bool) (x y:Opd)
 | min (x y:Opd)
 | max (x y:Opd)
 | call (f:Opd) (as:List Opd)
 | slice3 (s:Nat) (x lo hi mx:Opd)
 | clear (s:Nat) (z:D) (x:Opd)
 | stuck
 | buildDp (s n:Nat) (xs:List Opd)
 | appDp (s b:Nat) (flat:Bool) (x y:Opd)
 | asgDp (s n:Nat) (x:Opd)
structure CO where
 dst:Option Nat
 guard:Option (Nat×Bool)
 op:COp
 tl:Bool
def ZdQ (C:Orc) (M:Zp) (hp:Hp) (base:Nat) (as:List AV):AV→Option Zd
 | .clo g caps=>Zcy C (M g) hp base g (as++caps)
 | _=>none
noncomputable def vop (C:Orc) (M:Zp) (sl:Sl) (hp:Hp) (base:Nat):COp→Option Zd
 | .move x=>QR (evO sl x)
 | .assign s x=>Zel base s (evO sl x)
 | .pick c a b=>ZhU (evO sl a) (evO sl b) (evO sl c)
 | .alloc slc cs=>ZgW slc base cs
 | .box x=>ZxT base (evO sl x)
 | .build zs ps=>Zrx zs (evP sl ps)
 | .buildSl s xs=>buildSl hp base s (evL sl xs)
 | .load g s a=>Wa (Jp hp g s (evO sl a))
 | .store slc s a x=>ZhZ (Zbm hp slc s base (evO sl x).cells (evO sl a))
 | .nilCheck x=>ZaR (evO sl x)
 | .bin op eq x y=>Zm1 op eq (evO sl x) (evO sl y)
 | .un op x=>Wa (vun op (evO sl x))
 | .eqA neg ks x y=>ZsT neg ks (evO sl x) (evO sl y)
 | .convI k x=>convI k (evO sl x)
 | .convS x=>convS (evO sl x)
 | .fn f cs=>Wa (cloV f (evL sl cs))
 | .make s b z l c=>bnd (idx (evO sl l)) fun l=>bnd (idx (evO sl c)) fun c=>Zrz base s b z l c
 | .slice s x lo hi=>Wa (WL hp s (evM sl lo) (evM sl hi) (evO sl x))
 | .sliceS x lo hi=>Wa (sliceS (evM sl lo) (evM sl hi) (evO sl x))
 | .slice0 x hi mx=>Wa (slice0 hp (evO sl x) (idx (evO sl hi)) (idx (evO sl mx)))
 | .shift off x=>Wb off (evO sl x)
 | .part g s off x=>Wa (ZmZ g s off (evO sl x))
 | .iaS s x i=>bnd (idx (evO sl i)) fun n=>Zjj hp s (evO sl x) n
 | .iaA len s x i=>bnd (idx (evO sl i)) fun n=>Zo8 (evO sl x) n len s
 | .ixS x i=>bnd (idx (evO sl i)) fun n=>Zwx n (evO sl x)
 | .ixA g s len x i=>bnd (idx (evO sl i)) fun n=>ZxV g s len n (evO sl x)
 | .nth i x=>ZuU i (evO sl x)
 | .len x=>bnd (ZeT hp (evO sl x)) fun n=>QR (.d (.int .i64 n))
 | .lenS x=>bnd (Zzy (evO sl x)) fun n=>QR (.d (.int .i64 n))
 | .append s b str flat x y=>ZuV hp s b str flat base (evO sl x) (evO sl y)
 | .min x y=>Zm3 (evO sl x) (evO sl y)
 | .max x y=>Zm4 (evO sl x) (evO sl y)
 | .call f as=>ZdQ C M hp base (evL sl as) (evO sl f)
 | .slice3 _ x lo hi mx=>Wa (slice3 hp (evO sl x) (idx (evO sl lo)) (idx (evO sl hi)) (idx (evO sl mx)))
 | .clear s z x=>ZhZ (ZeW hp s z (evO sl x))
 | .stuck=>none
 | .buildDp s n xs=>buildDp hp base s n (evL sl xs)
 | .appDp s b _ x y=>ZsU hp s b base (evO sl x) (evO sl y)
 | .asgDp s n x=>asgDp base s n (evO sl x)
section
variable (P:Program)
def Yz (t:TypeId):Option TypeId:=match P.underlying t with
 | some (.slice e)=>some e
 | _=>none
def Zbo (t:TypeId):Bool:=match P.underlying t with
 | some .string=>true
 | _=>false
def ZjR (t:TypeId):Bool:=match P.underlying t with
 | some .bool=>true
 | _=>false
def ZAb (t:TypeId):Option IntKind:=match P.underlying t with
 | some (.int k)=>some k
 | _=>none
def ZlI (t:TypeId):Option (Nat×TypeId):=match P.underlying t with
 | some (.array n e)=>some (n,e)
 | _=>none
def ZfP (t:TypeId):Option Bool:=match P.underlying t with
 | some (.struct _)=>some true
 | some (.array _ _)=>some true
 | some _=>some false
 | none=>none
def ZgX (s:TypeId) (f:Nat):Option (Nat×TypeId):=match P.underlying s with
 | some (.struct fs)=>match fs[f]? with
  | some x=>if P.cellsOf x.type=0 then none else some (x.offset,x.type)
  | none=>none
 | _=>none
def Zcz (t:TypeId):Option Value:=match P.info? t with
 | some i=>i.zero
 | none=>none
def Zy1:Nat→TypeId→List TypeId
 | 0,t=>[t]
 | n+1,t=>match P.underlying t with
  | some (.struct fs)=>fs.toList.flatMap fun f=>Zy1 n f.type
  | some (.array k e)=>(List.replicate k (Zy1 n e)).flatten
  | _=>[t]
def slcT (t:TypeId):List (Option Nat):=(Zy1 P 4 t).map fun c=>(Yz P c).map P.cellsOf
def flatE (t:TypeId):Bool:=(Zy1 P 4 t).all fun c=>match P.underlying c with
 | some (.int _)=>true
 | some .bool=>true
 | some .string=>true
 | _=>false
def ZdR:Nat→TypeId→Nat→Option (List (Nat×Nat))
 | 0,_,_=>none
 | n+1,t,off=>match P.underlying t with
  | some (.int _)=>if P.cellsOf t=1 then some [(off,0)] else none
  | some .bool=>if P.cellsOf t=1 then some [(off,1)] else none
  | some .string=>if P.cellsOf t=1 then some [(off,2)] else none
  | some (.struct fs)=>if P.stoodInHeld t then none else
    bnd (QM (fun f:Field=>if f.name = "_"∨P.cellsOf t<f.offset+P.cellsOf f.type then none else ZdR n f.type (off+f.offset)) fs.toList) fun ls=>some ls.flatten
  | _=>none
def X6 (t:TypeId):Bool:=match P.underlying t with
 | some (.struct _)=>true
 | _=>false
def Zwy (t:TypeId):Option (List Nat):=bnd (ZdR P 5 t 0) fun ls=>
 if ls.map (·.1)=List.range (P.cellsOf t)∧X6 P t=true∧P.eqGuardType P.depth t=false then some (ls.map (·.2)) else none
def Zwz (neg:Bool) (op:BinOp) (t:TypeId) (x y:Opd):Option (List Nat)→COp
 | some ks=>.eqA neg ks x y
 | none=>.bin op (ZjR P t) x y
def ZxW (op:BinOp) (t:TypeId) (x y:Opd):COp:=match op with
 | .eql=>Zwz P false .eql t x y (Zwy P t)
 | .neq=>Zwz P true .neq t x y (Zwy P t)
 | op=>.bin op (ZjR P t) x y
end
section
variable (P:Program)
def Z6:Operand→Option Opd
 | .tmp t=>some (.t t)
 | .const v=>some (.v (evC v))
 | .global _=>none
 | .func f=>some (.f f)
def ZwA (pl:Nat→Option (Nat×Nat)) (q:Nat×Operand):Option (Nat×Nat×Opd):=bnd (pl q.1) fun p=>bnd (Z6 q.2) fun x=>some (p.1,p.2,x)
def cOO:Option Operand→Option (Option Opd)
 | none=>some none
 | some x=>bnd (Z6 x) fun y=>some (some y)
def ZgY (t:TypeId):Option (Nat×TypeId)→Nat→Option (Nat×Nat)
 | none,i=>bnd (ZgX P t i) fun q=>some (q.1,P.cellsOf q.2)
 | some a,i=>some (i*P.cellsOf a.2,P.cellsOf a.2)
def JN (t:TypeId):Bool:=match P.info? t with
 | some i=>(match i.zero with
  | some z=>z.cells.size==i.size&&decide (0<i.size)
  | none=>false)
 | none=>false
def Zm5 (t:TypeId):Bool:=match P.underlying t with
 | some (.struct fs)=>fs.toList.all fun f=>(P.info? f.type).isSome
 | some (.array _ e)=>(P.info? e).isSome
 | _=>false
def Zo9 (e:TypeId) (u:TypeId):Option Bool:=match Yz P u with
 | some e'=>if e'=e then some false else none
 | none=>if Zbo P u then some true else none
def ZrA (x i:Opd) (a:Option (Nat×TypeId)):Option TypeId→Option COp
 | some e=>if (P.info? e).isSome then some (.iaS (P.cellsOf e) x i) else none
 | none=>bnd a fun a=>if (P.info? a.2).isSome then some (.iaA a.1 (P.cellsOf a.2) x i) else none
def ZuW (x i:Opd) (str:Bool) (a:Option (Nat×TypeId)):Option COp:=
 if str then some (.ixS x i) else bnd a fun a=>bnd (ZfP P a.2) fun g=>some (.ixA g (P.cellsOf a.2) a.1 x i)
def Zy2 (x:Opd) (ss sd:Bool):Option IntKind→Option IntKind→Option COp
 | some _,some k=>some (.convI k x)
 | _,_=>if ss&&sd then some (.convS x) else none
def cLen (x:Opd) (str:Bool):Option TypeId→Option COp
 | some _=>some (.len x)
 | none=>if str then some (.lenS x) else none
def ZxX (x:Opd) (lo hi:Option Opd) (str:Bool):Option TypeId→Option COp
 | some e=>if (P.info? e).isSome then some (.slice (P.cellsOf e) x lo hi) else none
 | none=>if str then some (.sliceS x lo hi) else none
def ZfQ:Builtin→List Operand→List TypeId→Option COp
 | .len,[x],[t]=>bnd (Z6 x) fun x=>cLen x (Zbo P t) (Yz P t)
 | .append,[s,x],[t,u]=>bnd (Yz P t) fun e=>bnd (Zo9 P e u) fun str=>bnd (Z6 s) fun s=>bnd (Z6 x) fun x=>
   if JN P e then some (.append (P.cellsOf e) (P.bytesOf e) str (flatE P e) s x) else none
 | .min,[x,y],_=>bnd (Z6 x) fun x=>bnd (Z6 y) fun y=>some (.min x y)
 | .max,[x,y],_=>bnd (Z6 x) fun x=>bnd (Z6 y) fun y=>some (.max x y)
 | .clear,[x],[t]=>bnd (Yz P t) fun e=>bnd (Z6 x) fun x=>bnd (Zcz P e) fun z=>bnd (evD z) fun z=>if JN P e then some (.clear (P.cellsOf e) z x) else none
 | _,_,_=>none
def teOf (t:TypeId):Nat:=match bnd (ZgX P t 1) fun q=>Yz P q.2 with
 | some e=>e
 | none=>0
def cOp (ty:TypeId):Op→Option COp
 | .move x=>bnd (Z6 x) fun x=>some (.move x)
 | .assign x=>bnd (Z6 x) fun x=>some (.assign (bnd (Yz P ty) fun e=>some (P.cellsOf e)) x)
 | .pick c a b=>bnd (Z6 c) fun c=>bnd (Z6 a) fun a=>bnd (Z6 b) fun b=>some (.pick c a b)
 | .alloc t=>bnd (Zcz P t) fun z=>some (.alloc (slcT P t) (bnT t (teOf P t) (evC z).cells))
 | .box _ x=>bnd (Z6 x) fun x=>some (.box x)
 | .build t ps=>bnd (Zcz P t) fun z=>bnd (QM (ZwA (ZgY P t (ZlI P t))) ps.toList) fun qs=>if Zm5 P t then some (.build (evC z).cells qs) else none
 | .buildSlice t n ps=>bnd (Yz P t) fun e=>bnd (QM (fun q:Nat×Operand=>Z6 q.2) ps.toList) fun xs=>
   if ps.toList.map (·.1)=List.range n∧n*P.cellsOf e≤16777216∧JN P e then some (.buildSl (P.cellsOf e) xs) else none
 | .load t a=>bnd (ZfP P t) fun g=>bnd (Z6 a) fun a=>some (.load g (P.cellsOf t) a)
 | .store t a x=>bnd (Z6 a) fun a=>bnd (Z6 x) fun x=>if (P.info? t).isSome then some (.store (slcT P t) (P.cellsOf t) a x) else none
 | .nilCheck x=>bnd (Z6 x) fun x=>some (.nilCheck x)
 | .binOp op t x y _=>bnd (Z6 x) fun x=>bnd (Z6 y) fun y=>some (ZxW P op t x y)
 | .unOp op _ x=>bnd (Z6 x) fun x=>some (.un op x)
 | .convert s d x=>bnd (Z6 x) fun x=>Zy2 x (Zbo P s) (Zbo P d) (ZAb P s) (ZAb P d)
 | .makeFunc (.func f) fs cs=>if fs.toList.isEmpty then bnd (QM Z6 cs.toList) fun cs=>some (.fn f cs) else none
 | .makeSlice t l c=>bnd (Yz P t) fun e=>bnd (Z6 l) fun l=>bnd (Z6 c) fun c=>bnd (Zcz P e) fun z=>bnd (evD z) fun z=>if JN P e then some (.make (P.cellsOf e) (P.bytesOf e) z l c) else none
 | .slice t x lo hi none=>bnd (Z6 x) fun x=>bnd (cOO lo) fun lo=>bnd (cOO hi) fun hi=>ZxX P x lo hi (Zbo P t) (Yz P t)
 | .slice t x none (some hi) (some mx)=>bnd (Yz P t) fun e=>if (P.info? e).isSome then bnd (Z6 x) fun x=>bnd (Z6 hi) fun hi=>bnd (Z6 mx) fun mx=>some (.slice0 x hi mx) else none
 | .slice t x (some lo) (some hi) (some mx)=>bnd (Yz P t) fun e=>if (P.info? e).isSome then bnd (Z6 x) fun x=>bnd (Z6 lo) fun lo=>bnd (Z6 hi) fun hi=>bnd (Z6 mx) fun mx=>some (.slice3 (P.cellsOf e) x lo hi mx) else none
 | .fieldAddr s x f=>bnd (ZgX P s f) fun q=>bnd (Z6 x) fun x=>some (.shift q.1 x)
 | .field t x f=>bnd (ZgX P t f) fun q=>bnd (ZfP P q.2) fun g=>bnd (Z6 x) fun x=>some (.part g (P.cellsOf q.2) q.1 x)
 | .indexAddr t x i=>bnd (Z6 x) fun x=>bnd (Z6 i) fun i=>ZrA P x i (ZlI P t) (Yz P t)
 | .index t x i=>bnd (Z6 x) fun x=>bnd (Z6 i) fun i=>ZuW P x i (Zbo P t) (ZlI P t)
 | .extract x i=>bnd (Z6 x) fun x=>some (.nth i x)
 | .call { callee:=.builtin b,args:=as,argTypes:=ts }=>ZfQ P b as.toList ts.toList
 | .call { callee:=.value f,args:=as,argTypes:=_ }=>bnd (Z6 f) fun f=>bnd (QM Z6 as.toList) fun as=>some (.call f as)
 | _=>none
def ZrB (ops:List Oper):Option (Nat×Bool)→Option (Option (Nat×Bool))
 | none=>some none
 | some q=>bnd ops[q.1]? fun g=>bnd g.dst fun t=>some (some (t,q.2))
def Xb (nt:Nat):Option Nat→Bool
 | none=>true
 | some t=>decide (t<nt)
def WS (ops:Array Oper) (i:Nat):List Nat:=match ops[i]? with
 | some o=>(o.after.toList.filter fun e=>Region.binds .any e).map fun e=>e.on
 | none=>[]
def ZlJ (ops:Array Oper):Nat→Nat→Nat→Bool
 | 0,i,j=>(WS ops i).contains j
 | n+1,i,j=>(WS ops i).contains j || (WS ops i).any fun z=>ZlJ ops n z j
def startO:Op→Bool
 | .call { callee:=.builtin .append,args:=_,argTypes:=_ }=>true
 | .buildSlice _ _ _=>true
 | _=>false
def callO:Op→Bool
 | .call { callee:=.value (.func _),args:=_,argTypes:=_ }=>true
 | _=>false
def ZBq:Op→Bool
 | .move _=>true
 | _=>false
def aheadO:Op→Bool
 | .store _ _ _=>false
 | .box _ _=>false
 | .assign _=>false
 | .makeFunc _ _ _=>false
 | .makeSlice _ _ _=>false
 | .call { callee:=.builtin .append,args:=_,argTypes:=_ }=>false
 | .call { callee:=.value _,args:=_,argTypes:=_ }=>false
 | _=>true
def ZCA:Op→Bool
 | .move _=>true
 | .alloc _=>true
 | .buildSlice _ _ _=>true
 | .load _ _=>true
 | .nilCheck _=>true
 | .binOp _ _ _ _ _=>true
 | .unOp _ _ _=>true
 | .convert _ _ _=>true
 | .fieldAddr _ _ _=>true
 | .indexAddr _ _ _=>true
 | .slice _ _ _ _ _=>true
 | .call { callee:=.builtin .len,args:=_,argTypes:=_ }=>true
 | _=>false
def appO:Op→Bool
 | .call { callee:=.builtin .append,args:=_,argTypes:=_ }=>true
 | _=>false
def lookO:Op→Bool
 | .move _=>true
 | .load _ _=>true
 | .nilCheck _=>true
 | .binOp _ _ _ _ _=>true
 | .convert _ _ _=>true
 | .fieldAddr _ _ _=>true
 | .field _ _ _=>true
 | .extract _ _=>true
 | .indexAddr _ _ _=>true
 | .slice _ _ _ _ _=>true
 | .call { callee:=.builtin .len,args:=_,argTypes:=_ }=>true
 | _=>false
def atO (f:Op→Bool) (ops:List Oper) (k:Nat):Bool:=match ops[k]? with
 | some o=>f o.op
 | none=>false
def firmAt (ops:List Oper) (i:Nat):Bool:=
 (List.range ops.length).all fun k=>if k<i then ZlJ ops.toArray 6 i k || atO ZBq ops k else k==i || ZlJ ops.toArray 6 k i || atO ZBq ops k
def firmP (ops:List Oper) (i:Nat):Bool:=
 (List.range ops.length).all fun k=>if k<i then ZlJ ops.toArray 6 i k || atO lookO ops k else k==i || ZlJ ops.toArray 6 k i || atO ZBq ops k
def firmC (ops:List Oper) (i:Nat):Bool:=
 (List.range ops.length).all fun k=>if k<i then ZlJ ops.toArray 6 i k || atO aheadO ops k else k==i || ZlJ ops.toArray 6 k i || atO ZCA ops k
def ZrC (ops:List Oper) (o:Oper):Nat:=ops.findIdx fun x=>x.dst==o.dst
def firm (ops:List Oper) (o:Oper):Bool:=(startO o.op&&firmAt ops (ZrC ops o)) || (callO o.op&&firmC ops (ZrC ops o)) || (appO o.op&&firmP ops (ZrC ops o))
def JC:Option COp→COp
 | some c=>c
 | none=>.stuck
def Zpa (nt:Nat) (ops:List Oper) (o:Oper):Option CO:=bnd (ZrB ops o.guard) fun g=>
 if Xb nt o.dst then some { dst:=o.dst,guard:=g,op:=JC (cOp P o.type o.op),tl:=firm ops o } else none
end
end Go.Abs
