/- The abstract semantics: operations,regions,codes,calls. Own text. -/
import Derived.Test.YtpobhkoombldlaaGreatAbsBase
set_option linter.unusedVariables false
set_option linter.unusedSimpArgs false
namespace Go.Abs
open Go
def mat:List (Option Nat)→List AV→Nat→List AV×Hp
 | some s :: ts,.nil :: vs,b=>let r:=mat ts vs (b+1);(.own b :: r.1,(b,.row s [] true false) :: r.2)
 | _ :: ts,v :: vs,b=>let r:=mat ts vs b;(v :: r.1,r.2)
 | _,vs,_=>(vs,[])
def Znj:List AV→Bool
 | []=>false
 | .nil :: _=>true
 | _ :: r=>Znj r
structure Eff where
 val:AV
 adds:Hp:=[]
 sets:Hp:=[]
 dels:List Nat:=[]
 frz:List Nat:=[]
def Zi:Hp→Hp→Hp
 | hp,[]=>hp
 | hp,(k,o) :: r=>Zi (ins hp k o) r
def del:Hp→Nat→Hp
 | [],_=>[]
 | (k,o) :: r,t=>if k=t then del r t else (k,o) :: del r t
def Qy:Hp→List Nat→Hp
 | hp,[]=>hp
 | hp,k :: r=>Qy (del hp k) r
def Qo (ids:List Nat) (hp:Hp):Hp:=match ids with
 | []=>hp
 | _=>freeze ids hp
def Eff.on (e:Eff) (hp:Hp):Hp:=Zi (Zi (Qy (Qo e.frz hp) e.dels) e.sets) e.adds
def Zza:List AV→Nat→List AV→List AV
 | cs,_,[]=>cs
 | cs,off,v :: r=>Zza (cs.set off v) (off+1) r
def Zoh:List AV→List (Nat×Nat×AV)→Option (List AV)
 | cells,[]=>some cells
 | cells,q :: r=>if q.2.2.solid∧q.2.2.cells.length=q.2.1∧q.1+q.2.1≤cells.length then Zoh (Zza cells q.1 q.2.2.cells) r else none
def AV.atom:AV→Bool
 | .d x=>x.one
 | .agg _=>false
 | .tup _=>false
 | .clo _ _=>false
 | _=>true
def Zkp:List AV→Bool
 | []=>true
 | v :: r=>v.atom&&Zkp r
def cloV (f:Nat) (cs:List AV):Option AV:=if Zkp cs then some (.clo f cs) else none
def ZdJ (agg:Bool) (s off:Nat):Option Zt→Option AV
 | some (.box cs)=>if agg then (if off+s≤cs.length then some (Ze8 ((cs.drop off).take s)) else none) else cs[off]?
 | _=>none
def Zhl (agg:Bool) (s off:Nat) (cs:List D):Option AV:=
 if agg then (if off+s≤cs.length then some (.d (.agg ((cs.drop off).take s))) else none) else asD cs[off]?
def Zmg (agg:Bool) (s sz off:Nat) (x:D):Option AV:=if x.cells.length=sz then Zhl agg s off x.cells else none
def ZvD (id i off:Nat):Option (Nat×Nat×Nat)→Option AV
 | some (nm,i',c)=>if i=i'∧off=c then some (.sub id nm) else none
 | none=>none
def ZhM (id i off:Nat) (lk:Option (Nat×Nat×Nat)) (x:D):Option AV:=match x.cells[off]? with
 | some (.sl _)=>ZvD id i off lk
 | some y=>if y.plain then some (.d y) else none
 | none=>none
def ZdK (id:Nat) (agg:Bool) (s sz i off:Nat):Option Zt→Option AV
 | some (.row sz' xs _ _)=>if sz=sz' then bnd xs[i]? (Zmg agg s sz off) else none
 | some (.deep sz' _ xs lk)=>if sz=sz' then (if agg then none else bnd xs[i]? (ZhM id i off lk)) else none
 | _=>none
def Zaf (hp:Hp) (agg:Bool) (s:Nat):AV→Option AV
 | .ptr id off=>ZdJ agg s off (lkp hp id)
 | .prow id sz i off=>ZdK id agg s sz i off (lkp hp id)
 | .pim cs=>Zhl agg s 0 cs
 | _=>none
def Zt0:AV→Option D
 | .d x=>if x.plain then some x else none
 | _=>none
def ZvE:List AV→Option (List D)
 | []=>some []
 | v :: r=>bnd (Zt0 v) fun x=>bnd (ZvE r) fun ds=>some (x :: ds)
def ZhN (slc:List (Option Nat)) (s base id off:Nat) (vs:List AV):Option Zt→Option Eff
 | some (.box cs)=>if vs.length=s∧off+s≤cs.length∧Wl vs then
    (if Znj vs then some { val := .junk, adds := (mat slc vs base).2, sets := [(id, .box (Qt cs off (mat slc vs base).1))] }
      else some { val:=.junk,sets:=[(id,.box (Qt cs off vs))] })
   else none
 | _=>none
def D.notSl:D→Bool
 | .sl _=>false
 | _=>true
def ZhO (s id sz i off:Nat) (xs:List D) (ex:Bool) (x:D) (q:List D×Bool×List Nat):Option Eff:=
 if x.notSl∧x.cells.length=sz∧q.1.length=s∧off+s≤sz∧q.2.2.contains id=false then
  some { val:=.junk,sets:=[(id,.row sz (xs.set i (Zkd x off q.1)) (ex&&q.2.1) false)],frz:=q.2.2 } else none
def Zge (hp:Hp) (s id sz i off:Nat) (vs:List AV):Option Zt→Option Eff
 | some (.row sz' xs ex false)=>if sz=sz' then bnd xs[i]? fun x=>bnd (UD hp vs) fun q=>ZhO s id sz i off xs ex x q else none
 | _=>none
def Zdh (hp:Hp) (slc:List (Option Nat)) (s base:Nat) (vs:List AV):AV→Option Eff
 | .ptr id off=>ZhN slc s base id off vs (lkp hp id)
 | .prow id sz i off=>Zge hp s id sz i off vs (lkp hp id)
 | _=>none
def uni (s:Nat) (ys:List D):Prop:=∀ y∈ys,y.cells.length=s
def ZX:Nat:=140737488355328
def QM (ys:List D):Prop:=∀ y∈ys,y.flat=true
def Zt1 (flat:Bool):Option Zt→Option (List D×Bool)
 | some (.row _ ys ex _)=>some (ys,ex || flat)
 | _=>none
def ZpY:AV→Option (List D×Bool)
 | .d (.str s)=>some (s.map fun b=>.int .u8 b.toNat,true)
 | _=>none
def Zpg (flat:Bool) (off n:Nat):Option Zt→Option (List D×Bool)
 | some (.row _ ys ex _)=>some ((ys.drop off).take n,ex || flat)
 | _=>none
def ZhP (hp:Hp) (flat:Bool):AV→Option (List D×Bool)
 | .nil=>some ([],true)
 | .d (.sl ys)=>some (ys,flat)
 | .own id=>Zt1 flat (lkp hp id)
 | .ownv id off n=>Zpg flat off n (lkp hp id)
 | _=>none
def Zjp (sz base:Nat) (dels:List Nat) (xs:List D) (ex:Bool):Eff:=
 { val:=.own base,adds:=[(base,.row sz xs ex false)],dels:=dels }
def Znk (sz by_ base id:Nat) (ys:List D) (ex' : Bool):Option Zt→Option Eff
 | some (.row sz' xs ex false)=>if sz'=sz∧(xs.length+ys.length)*by_≤ZX∧xs.length+ys.length≤ZX then some (Zjp sz base [id] (xs++ys) (ex&&ex')) else none
 | _=>none
def Zkq (sz by_ base id n:Nat) (ys:List D) (ex' : Bool):Option Zt→Option Eff
 | some (.row sz' xs ex false)=>if sz'=sz∧(n+ys.length)*by_≤ZX∧n+ys.length≤ZX then some (Zjp sz base [id] (xs.take n++ys) (ex&&ex')) else none
 | _=>none
def Zkr (sz base id n:Nat) (ys:List D) (ex' : Bool):Option Zt→Option Eff
 | some (.row sz' xs ex false)=>if sz'=sz∧0<xs.length∧n+ys.length≤xs.length then
   some { val:=.ownv base 0 (n+ys.length),adds:=[(base,.row sz (xs.take n++ys++xs.drop (n+ys.length)) (ex&&ex') false)],dels:=[id] } else none
 | _=>none
def Zjq (hp:Hp) (sz by_:Nat) (base:Nat) (src:List Nat) (ys:List D) (ex' : Bool):AV→Option Eff
 | .nil=>if ys.length*by_≤ZX∧ys.length≤ZX then some (Zjp sz base [] ys ex') else none
 | .own id=>if src.contains id then none else Znk sz by_ base id ys ex' (lkp hp id)
 | .ownv id off n=>if off≠0 then none else if src.contains id then Zkr sz base id n ys ex' (lkp hp id) else Zkq sz by_ base id n ys ex' (lkp hp id)
 | _=>none
open Classical in
noncomputable def Jx (hp:Hp) (sz by_:Nat) (str flat:Bool) (base:Nat) (s x:AV):Option Eff:=
 bnd (if str then ZpY x else ZhP hp flat x) fun q=>if uni sz q.1∧(flat=true→QM q.1) then Zjq hp sz by_ base (Ze9 x) q.1 q.2 s else none
def idx (i:AV):Option Int:=match i with
 | .d (.int _ n)=>some n
 | _=>none
def Zyj (sz:Nat) (y:D):Option AV:=if y.cells.length=sz then some (.pim y.cells) else none
def ZgQ (sz id n:Nat):Option Zt→Option AV
 | some (.row sz' xs _ _)=>if sz'=sz∧n<xs.length then some (.prow id sz n 0) else none
 | some (.deep sz' _ xs _)=>if sz'=sz∧n<xs.length then some (.prow id sz n 0) else none
 | _=>none
def Zgf (sz id off m n:Nat):Option Zt→Option AV
 | some (.row sz' _ _ _)=>if sz'=sz∧n<m then some (.prow id sz (off+n) 0) else none
 | _=>none
def QP (hp:Hp) (sz n:Nat):AV→Option AV
 | .d (.sl xs)=>bnd xs[n]? (Zyj sz)
 | .own id=>ZgQ sz id n (lkp hp id)
 | .ownv id off m=>Zgf sz id off m n (lkp hp id)
 | _=>none
def bd (m:Nat) (v:AV):Option Nat:=bnd (idx v) fun n=>if 0≤n∧n≤m then some n.toNat else none
def hiOf (len:Nat):Option AV→Option Nat
 | none=>some len
 | some v=>bd len v
def loOf (h:Nat):Option AV→Option Nat
 | none=>some 0
 | some v=>bd h v
def Zt2 (len:Nat) (lo hi:Option AV):Option (Nat×Nat):=bnd (hiOf len hi) fun h=>bnd (loOf h lo) fun l=>some (l,h)
def ZvF (id n:Nat):Option AV→Option AV→Option AV
 | none,none=>some (.own id)
 | lo,hi=>bnd (Zt2 n lo hi) fun b=>some (.ownv id b.1 (b.2-b.1))
def Zgg (s id:Nat) (lo hi:Option AV):Option Zt→Option AV
 | some (.row sz xs _ _)=>if sz=s then ZvF id xs.length lo hi else none
 | _=>none
def ZAe (n m:Nat) (lo:Option AV):Option AV→Option (Nat×Nat)
 | none=>Zt2 n lo none
 | some h=>Zt2 m lo (some h)
def Zdi (s id off n:Nat) (lo hi:Option AV):Option Zt→Option AV
 | some (.row sz xs _ _)=>if sz=s then bnd (ZAe n (xs.length-off) lo hi) fun b=>some (.ownv id (off+b.1) (b.2-b.1)) else none
 | _=>none
def slice3 (hp:Hp) (x:AV) (lo hi mx:Option Int):Option AV:=bnd lo fun l=>bnd hi fun h=>bnd mx fun m=>bnd (Zhi hp x) fun n=>
 if 0≤l∧l≤h∧h≤m∧m≤n then some .junk else none
def Zjr (s id off n:Nat) (z:D):Option Zt→Option Eff
 | some (.row sz xs ex false)=>if sz=s∧z.cells.length=s∧off+n≤xs.length then some { val:=.tup [],sets:=[(id,.row sz (xs.take off++List.replicate n z++xs.drop (off+n)) ex false)] } else none
 | _=>none
def Zhm (hp:Hp) (s:Nat) (z:D):AV→Option Eff
 | .ownv id off n=>Zjr s id off n z (lkp hp id)
 | _=>none
open Classical in
noncomputable def Uz (hp:Hp) (s:Nat) (lo hi:Option AV):AV→Option AV
 | .d (.sl xs)=>if uni s xs then bnd (Zt2 xs.length lo hi) fun b=>some (.d (.sl ((xs.take b.2).drop b.1))) else none
 | .nil=>bnd (Zt2 0 lo hi) fun _=>some .nil
 | .own id=>Zgg s id lo hi (lkp hp id)
 | .ownv id off n=>Zdi s id off n lo hi (lkp hp id)
 | _=>none
def sliceS (lo hi:Option AV):AV→Option AV
 | .d (.str s)=>bnd (Zt2 s.length lo hi) fun b=>some (.d (.str ((s.take b.2).drop b.1)))
 | _=>none
def slice0 (hp:Hp) (x:AV) (hi mx:Option Int):Option AV:=match hi,mx with
 | some 0,some 0=>bnd (Zhi hp x) fun _=>some .nil
 | _,_=>none
def Zmh (agg:Bool) (s off:Nat):AV→Option AV
 | .d (.agg cs)=>Zhl agg s off cs
 | .agg cs=>if agg then (if off+s≤cs.length then some (Ze8 ((cs.drop off).take s)) else none) else cs[off]?
 | _=>none
abbrev Orc:=Nat→List AV→List Zt→Option (AV×List Zt)
abbrev Zu:=Nat→Nat→Bool
def Ziq (hp:Hp) (id:Nat):Bool→Option AV
 | true=>some (.own id)
 | false=>asD (ZkN hp (.own id))
def Zjs:Bool→Option AV
 | true=>some .nil
 | false=>some (.d (.sl []))
def Zhn (hp:Hp) (m:Bool):AV→Option AV
 | .ptr a b=>some (.ptr a b)
 | .clo f c=>some (.clo f c)
 | .nilp=>some .nilp
 | .nili=>some .nili
 | .pim c=>some (.pim c)
 | .own id=>Ziq hp id m
 | .nil=>Zjs m
 | .d x=>some (.d x)
 | v=>asD (toD hp v)
def args (hp:Hp) (m:Nat→Bool):Nat→List AV→Option (List AV)
 | _,[]=>some []
 | i,v :: r=>bnd (Zhn hp (m i) v) fun a=>bnd (args hp m (i+1) r) fun as=>some (a :: as)
def ZbO (hp:Hp) (go:List Nat→List Nat→List Nat) (id:Nat) (todo acc:List Nat):Option Zt→List Nat
 | some o=>go (todo++Zew o) (acc++[id])
 | none=>go todo acc
def Q0 (hp:Hp):Nat→List Nat→List Nat→List Nat
 | 0,_,acc=>acc
 | _+1,[],acc=>acc
 | n+1,id :: todo,acc=>if acc.contains id then Q0 hp n todo acc else ZbO hp (Q0 hp n) id todo acc (lkp hp id)
def UF:List Nat→Nat→Nat
 | [],_=>0
 | x :: r,t=>if x=t then 0 else UF r t+1
def Zmi:Option Zt→Zt
 | some o=>o
 | none=>.row 0 [] true false
def Zgh (hp:Hp):List Nat→List Zt
 | []=>[]
 | id :: r=>Zmi (lkp hp id) :: Zgh hp r
def ZbP (ids:List Nat) (o:Zt):Zt:=ZoF (UF ids) (Yw ((Zew o).filter fun i=>!ids.contains i) o)
def Wg:Option Zt→Bool
 | some (.row _ _ _ _)=>true
 | some (.deep _ _ _ _)=>true
 | _=>false
def Zgi:AV→Bool
 | .d x=>x.flat
 | .pim _=>false
 | .agg _=>false
 | .tup _=>false
 | .clo _ _=>false
 | _=>true
def Zho:AV→Bool
 | .agg cs=>cs.all Zgi
 | .clo _ cs=>cs.all Zgi
 | v=>Zgi v
def Zs0:AV→Bool
 | .tup vs=>vs.all Zho
 | v=>Zho v
def Zls:Zt→Bool
 | .box cs=>cs.all Zho
 | .row _ _ ex fz=>ex&&!fz
 | .deep _ _ _ _=>true
def Zlt (d:Nat):Option Nat→Nat
 | some i=>i
 | none=>d
def UR (ids:List Nat) (base k:Nat):Nat:=Zlt (base+(k-ids.length)) ids[k]?
def Zgj (g:Nat→Nat):List Nat→List Zt→Hp
 | id :: ids,o :: os=>(id,ZoF g o) :: Zgj g ids os
 | _,_=>[]
def Zgk (g:Nat→Nat):Nat→List Zt→Hp
 | _,[]=>[]
 | k,o :: os=>(k,ZoF g o) :: Zgk g (k+1) os
structure Zf where
 eff:Eff
 gone:List Nat
def XE (_hp:Hp):Nat:=1000
def V0:List AV→List AV→List Nat
 | v :: vs,.d _ :: as=>Zig v++V0 vs as
 | _ :: vs,_ :: as=>V0 vs as
 | _,_=>[]
def ZeU:Option Zt→Bool
 | some (.deep _ _ _ _)=>true
 | _=>false
def ZbQ (hp:Hp) (base:Nat) (ids lent:List Nat) (r:AV) (out:List Zt):Option Zf:=
 if out.length<ids.length then none else if !(Zs0 r&&out.all Zls)&&lent.any fun i=>ZeU (lkp hp i) then none else
  some { eff := { val:=ren (UR ids base) r,adds:=Zgk (UR ids base) base (out.drop ids.length),sets:=Zgj (UR ids base) ids out,frz:=if Zs0 r&&out.all Zls then [] else lent },gone:=ids.filter fun i=>Wg (lkp hp i) }
def Zez:AV→List Nat
 | .ptr id _=>[id]
 | .clo _ cs=>cs.flatMap Zq
 | _=>[]
def Zfm (hp:Hp) (rs ids:List Nat):Bool:=ids.all fun i=>Wg (lkp hp i) || rs.contains i
def ZgR (C:Orc) (hp:Hp) (base f:Nat) (lent:List Nat) (as:List AV) (ids:List Nat):Option Zf:=
 if (as.flatMap ZH).all ids.contains∧¬lent.any ids.contains∧Zfm hp (as.flatMap Zez) ids=true then
  bnd (C f (as.map (ren (UF ids))) ((Zgh hp ids).map (ZbP ids))) fun q=>ZbQ hp base ids lent q.1 q.2
 else none
def Zfd (C:Orc) (m:Nat→Bool) (hp:Hp) (base f:Nat) (avs:List AV):Option Zf:=
 bnd (args hp m 0 avs) fun as=>ZgR C hp base f (V0 avs as) as (Q0 hp (XE hp) (as.flatMap ZH) [])
def Qm (v:AV):Option Zf:=some { eff := { val:=v },gone:=[] }
def UA (v:Option AV):Option Zf:=bnd v Qm
def Zjb (e:Option Eff):Option Zf:=bnd e fun e=>some { eff:=e,gone:=[] }
def ZgS (base:Nat) (e:Option Nat):AV→Option Zf
 | .nil=>bnd e fun s=>some { eff := { val:=.own base,adds:=[(base,.row s [] true false)] },gone:=[] }
 | v=>Qm v
def ZiY (a b:AV):AV→Option Zf
 | .d (.bool t)=>if t then Qm a else Qm b
 | _=>none
def Zir (slc:List (Option Nat)) (base:Nat) (cs:List AV):Option Zf:=
 if Znj cs then some { eff := { val:=.ptr base 0,adds:=(base,.box (mat slc cs (base+1)).1) :: (mat slc cs (base+1)).2 },gone:=[] }
 else some { eff := { val:=.ptr base 0,adds:=[(base,.box cs)] },gone:=[] }
def Zxc (base:Nat) (x:AV):Option Zf:=if x.solid then some { eff := { val:=.ptr base 0,adds:=[(base,.box x.cells)] },gone:=[] } else none
def ZpZ (zs:List AV) (ps:List (Nat×Nat×AV)):Option Zf:=bnd (Zoh zs ps) fun cs=>Qm (Ze8 cs)
def Zxd (base s:Nat) (q:List D×Bool×List Nat):Option Zf:=
 if q.1.all (fun d=>d.cells.length==s) then some { eff := { val:=.own base,adds:=[(base,.row s q.1 q.2.1 false)],frz:=q.2.2 },gone:=[] } else none
def buildSl (hp:Hp) (base s:Nat):List AV→Option Zf
 | []=>Qm .nil
 | v :: vs=>bnd (Jv hp (v :: vs)) (Zxd base s)
def ZgT (hp:Hp) (n:Nat):AV→Option (D×List Nat)
 | .d x=>if x.plain then some (x,[]) else none
 | .nil=>some (.sl [],[])
 | .own id=>deepRow n id (lkp hp id)
 | _=>none
where deepRow (n id:Nat):Option Zt→Option (D×List Nat)
 | some (.row sz xs true false)=>if sz=n∧ZeS D.flat xs then some (.sl xs,[id]) else none
 | _=>none
def ZhQ (hp:Hp) (n:Nat):List AV→Option (List D×List Nat)
 | []=>some ([],[])
 | v :: r=>bnd (ZgT hp n v) fun q=>bnd (ZhQ hp n r) fun p=>if !q.2.any p.2.contains then some (q.1 :: p.1,q.2++p.2) else none
def asgDp (base s n:Nat):AV→Option Zf
 | .nil=>some { eff := { val:=.own base,adds:=[(base,.deep s n [] none)] },gone:=[] }
 | _=>none
def buildDp (hp:Hp) (base s n:Nat):List AV→Option Zf
 | [.agg cs]=>bnd (ZhQ hp n cs) fun q=>if q.1.length=s then some { eff := { val:=.own base,adds:=[(base,.deep s n [.agg q.1] none)],dels:=q.2 },gone:=[] } else none
 | _=>none
def ZbR:AV→Option Zf
 | .ptr a b=>Qm (.ptr a b)
 | .prow a b c d=>Qm (.prow a b c d)
 | .pim c=>Qm (.pim c)
 | .clo f c=>Qm (.clo f c)
 | _=>none
def Zfn (op:BinOp) (eq:Bool):AV→AV→Option Zf
 | .d (.bool a),.d (.bool b)=>if eq then UA (ZsB op a b) else none
 | a,b=>UA (vbin op a b)
def Zc9:List Nat→List D→List D→Option Bool
 | [],[],[]=>some true
 | 0 :: ks,.int k a :: cs,.int k' b :: ds=>if k=k' then bnd (Zc9 ks cs ds) fun r=>some (decide (a=b)&&r) else none
 | 1 :: ks,.bool a :: cs,.bool b :: ds=>bnd (Zc9 ks cs ds) fun r=>some (decide (a=b)&&r)
 | 2 :: ks,.str a :: cs,.str b :: ds=>bnd (Zc9 ks cs ds) fun r=>some (decide (a=b)&&r)
 | _,_,_=>none
def Zp0 (neg:Bool) (r:Bool):Bool:=if neg then !r else r
def ZrP (neg:Bool) (ks:List Nat):AV→AV→Option Zf
 | .d (.agg cs),.d (.agg ds)=>bnd (Zc9 ks cs ds) fun r=>Qm (.d (.bool (Zp0 neg r)))
 | _,_=>none
def convI (k:IntKind):AV→Option Zf
 | .d (.int _ n)=>Qm (.d (.int k (k.wrap n)))
 | _=>none
def convS:AV→Option Zf
 | .d (.str s)=>Qm (.d (.str s))
 | _=>none
def Zp1 (base s b:Nat) (z:D) (l c:Int):Option Zf:=
 if 0≤l∧l≤c∧c*b≤ZX∧c≤ZX∧z.cells.length=s then
  some { eff := { val:=.own base,adds:=[(base,.row s (List.replicate l.toNat z) true false)] },gone:=[] } else none
def WU (off:Nat):AV→Option Zf
 | .ptr id o=>Qm (.ptr id (o+off))
 | .prow id sz i o=>Qm (.prow id sz i (o+off))
 | .pim cs=>Qm (.pim (cs.drop off))
 | _=>none
def Zoi (x:AV) (n:Int) (len s:Nat):Option Zf:=if 0≤n∧n<len then WU (n.toNat*s) x else none
def Zjt (hp:Hp) (s:Nat) (x:AV) (n:Int):Option Zf:=if 0≤n then UA (QP hp s n.toNat x) else none
def Zs1 (s:List UInt8) (n:Int):Option Zf:=if 0≤n then bnd s[n.toNat]? fun b=>Qm (.d (.int .u8 b.toNat)) else none
def Zxe (g:Bool) (s len:Nat) (n:Int) (v:AV):Option Zf:=if 0≤n∧n<len then UA (Zmh g s (n.toNat*s) v) else none
def ZvG (n:Int):AV→Option Zf
 | .d (.str s)=>Zs1 s n
 | _=>none
def Zt3 (i:Nat):AV→Option Zf
 | .tup vs=>UA vs[i]?
 | _=>none
def Zlu:Option Zt→Option (Nat×Nat×List D)
 | some (.deep s n xs _)=>some (s,n,xs)
 | _=>none
def ZgU (hp:Hp):AV→Option (Nat×Nat×Nat×List D)
 | .own id=>bnd (Zlu (lkp hp id)) fun q=>some (id,q)
 | _=>none
def Zfo (hp:Hp) (s b base id n:Nat) (ys:List D):AV→Option Eff
 | .nil=>if ys.length*b≤ZX∧ys.length≤ZX then some { val:=.own base,adds:=[(base,.deep s n ys none)],dels:=[id] } else none
 | .own id1=>bnd (Zlu (lkp hp id1)) fun q=>if q.1=s∧q.2.1=n∧id1≠id∧(q.2.2.length+ys.length)*b≤ZX∧q.2.2.length+ys.length≤ZX then
   some { val:=.own base,adds:=[(base,.deep s n (q.2.2++ys) none)],dels:=[id1,id] } else none
 | _=>none
def Zmj (xs:List D) (i c:Nat):Option (List D):=bnd xs[i]? fun x=>match x.cells[c]? with
 | some (.sl ys)=>some ys
 | _=>none
open Classical in
noncomputable def Zlv (s b base id nm:Nat) (q:List D×Bool):Option Zt→Option Eff
 | some (.deep sz n xs (some (nm',i,c)))=>bnd (Zmj xs i c) fun fl=>if nm=nm'∧n=s∧uni s q.1∧QM q.1∧(fl.length+q.1.length)*b≤ZX∧fl.length+q.1.length≤ZX then
   some { val:=.own base,adds:=[(base,.row s (fl++q.1) true true)],sets:=[(id,.row sz xs true false)] } else none
 | _=>none
def Vs (hp:Hp):AV→List Nat
 | .own id=>if ZeU (lkp hp id) then [id] else []
 | _=>[]
def Zgl:Zt→Zt
 | .deep s _ xs _=>.row s xs true false
 | o=>o
def meltIn (hp:Hp):List Nat→Hp
 | []=>hp
 | i :: r=>match lkp hp i with
  | some o=>ins (meltIn hp r) i (Zgl o)
  | none=>meltIn hp r
noncomputable def WV (hp:Hp) (s b:Nat) (str flat:Bool) (base:Nat) (x y:AV):List Nat→Option Eff
 | []=>Jx hp s b str flat base x y
 | i :: r=>if flat then none else bnd (Jx (meltIn hp (i :: r)) s b str flat base x y) fun e=>some { val:=e.val,adds:=e.adds,sets:=e.sets,dels:=e.dels++(i :: r),frz:=e.frz }
noncomputable def ZhR (hp:Hp) (s b:Nat) (str flat:Bool) (base:Nat) (y:AV):AV→Option Eff
 | .sub id nm=>if str then none else bnd (ZhP hp true y) fun q=>if (Ze9 y).contains id then none else Zlv s b base id nm q (lkp hp id)
 | x=>WV hp s b str flat base x y (Vs hp x++Vs hp y)
def ZrQ (hp:Hp) (s b base:Nat) (x y:AV):Option Zf:=Zjb (bnd (ZgU hp y) fun q=>if q.2.1=s then Zfo hp s b base q.1 q.2.2.1 q.2.2.2 x else none)
noncomputable def Zt4 (hp:Hp) (s b:Nat) (str flat:Bool) (base:Nat) (x y:AV):Option Zf:=Zjb (ZhR hp s b str flat base y x)
def Zmk:AV→AV→Option Zf
 | .d (.int k a),.d (.int k' b)=>if k=k' then Qm (.d (.int k (minI a b))) else none
 | _,_=>none
def Zml:AV→AV→Option Zf
 | .d (.int k a),.d (.int k' b)=>if k=k' then Qm (.d (.int k (maxI a b))) else none
 | _,_=>none
inductive Opd where
 | t (n:Nat)
 | v (a:AV)
 | f (n:Nat)
def evO (sl:Sl):Opd→AV
 | .t n=>gs sl n
 | .v a=>a
 | .f n=>.clo n []
def evL (sl:Sl):List Opd→List AV
 | []=>[]
 | x :: r=>evO sl x :: evL sl r
def evP (sl:Sl):List (Nat×Nat×Opd)→List (Nat×Nat×AV)
 | []=>[]
 | (a,b,x) :: r=>(a,b,evO sl x) :: evP sl r
def evM (sl:Sl):Option Opd→Option AV
 | none=>none
 | some x=>some (evO sl x)
inductive COp where
 | move (x:Opd)
 | assign (s:Option Nat) (x:Opd)
 | pick (c a b:Opd)
 | alloc (slc:List (Option Nat)) (cs:List AV)
 | box (x:Opd)
 | build (zs:List AV) (ps:List (Nat×Nat×Opd))
 | buildSl (s:Nat) (xs:List Opd)
 | load (g:Bool) (s:Nat) (a:Opd)
 | store (slc:List (Option Nat)) (s:Nat) (a x:Opd)
 | nilCheck (x:Opd)
 | bin (op:BinOp) (eq:Bool) (x y:Opd)
 | un (op:UnOp) (x:Opd)
 | eqA (neg:Bool) (ks:List Nat) (x y:Opd)
 | convI (k:IntKind) (x:Opd)
 | convS (x:Opd)
 | fn (f:Nat) (caps:List Opd)
 | make (s b:Nat) (z:D) (l c:Opd)
 | slice (s:Nat) (x:Opd) (lo hi:Option Opd)
 | sliceS (x:Opd) (lo hi:Option Opd)
 | slice0 (x hi mx:Opd)
 | shift (off:Nat) (x:Opd)
 | part (g:Bool) (s off:Nat) (x:Opd)
 | iaS (s:Nat) (x i:Opd)
 | iaA (len s:Nat) (x i:Opd)
 | ixS (x i:Opd)
 | ixA (g:Bool) (s len:Nat) (x i:Opd)
 | nth (i:Nat) (x:Opd)
 | len (x:Opd)
 | lenS (x:Opd)
 | append (s b:Nat) (str flat:Bool) (x y:Opd)
 | min (x y:Opd)
 | max (x y:Opd)
 | call (f:Opd) (as:List Opd)
 | slice3 (s:Nat) (x lo hi mx:Opd)
 | clear (s:Nat) (z:D) (x:Opd)
 | stuck
 | buildDp (s n:Nat) (xs:List Opd)
 | appDp (s b:Nat) (flat:Bool) (x y:Opd)
 | asgDp (s n:Nat) (x:Opd)
structure CO where
 dst:Option Nat
 guard:Option (Nat×Bool)
 op:COp
 tl:Bool
def Zgm (C:Orc) (M:Zu) (hp:Hp) (base:Nat) (as:List AV):AV→Option Zf
 | .clo g caps=>Zfd C (M g) hp base g (as++caps)
 | _=>none
noncomputable def vop (C:Orc) (M:Zu) (sl:Sl) (hp:Hp) (base:Nat):COp→Option Zf
 | .move x=>Qm (evO sl x)
 | .assign s x=>ZgS base s (evO sl x)
 | .pick c a b=>ZiY (evO sl a) (evO sl b) (evO sl c)
 | .alloc slc cs=>Zir slc base cs
 | .box x=>Zxc base (evO sl x)
 | .build zs ps=>ZpZ zs (evP sl ps)
 | .buildSl s xs=>buildSl hp base s (evL sl xs)
 | .load g s a=>UA (Zaf hp g s (evO sl a))
 | .store slc s a x=>Zjb (Zdh hp slc s base (evO sl x).cells (evO sl a))
 | .nilCheck x=>ZbR (evO sl x)
 | .bin op eq x y=>Zfn op eq (evO sl x) (evO sl y)
 | .un op x=>UA (vun op (evO sl x))
 | .eqA neg ks x y=>ZrP neg ks (evO sl x) (evO sl y)
 | .convI k x=>convI k (evO sl x)
 | .convS x=>convS (evO sl x)
 | .fn f cs=>UA (cloV f (evL sl cs))
 | .make s b z l c=>bnd (idx (evO sl l)) fun l=>bnd (idx (evO sl c)) fun c=>Zp1 base s b z l c
 | .slice s x lo hi=>UA (Uz hp s (evM sl lo) (evM sl hi) (evO sl x))
 | .sliceS x lo hi=>UA (sliceS (evM sl lo) (evM sl hi) (evO sl x))
 | .slice0 x hi mx=>UA (slice0 hp (evO sl x) (idx (evO sl hi)) (idx (evO sl mx)))
 | .shift off x=>WU off (evO sl x)
 | .part g s off x=>UA (Zmh g s off (evO sl x))
 | .iaS s x i=>bnd (idx (evO sl i)) fun n=>Zjt hp s (evO sl x) n
 | .iaA len s x i=>bnd (idx (evO sl i)) fun n=>Zoi (evO sl x) n len s
 | .ixS x i=>bnd (idx (evO sl i)) fun n=>ZvG n (evO sl x)
 | .ixA g s len x i=>bnd (idx (evO sl i)) fun n=>Zxe g s len n (evO sl x)
 | .nth i x=>Zt3 i (evO sl x)
 | .len x=>bnd (Zhi hp (evO sl x)) fun n=>Qm (.d (.int .i64 n))
 | .lenS x=>bnd (ZyA (evO sl x)) fun n=>Qm (.d (.int .i64 n))
 | .append s b str flat x y=>Zt4 hp s b str flat base (evO sl x) (evO sl y)
 | .min x y=>Zmk (evO sl x) (evO sl y)
 | .max x y=>Zml (evO sl x) (evO sl y)
 | .call f as=>Zgm C M hp base (evL sl as) (evO sl f)
 | .slice3 _ x lo hi mx=>UA (slice3 hp (evO sl x) (idx (evO sl lo)) (idx (evO sl hi)) (idx (evO sl mx)))
 | .clear s z x=>Zjb (Zhm hp s z (evO sl x))
 | .stuck=>none
 | .buildDp s n xs=>buildDp hp base s n (evL sl xs)
 | .appDp s b _ x y=>ZrQ hp s b base (evO sl x) (evO sl y)
 | .asgDp s n x=>asgDp base s n (evO sl x)
section
variable (P:Program)
def Vq (t:TypeId):Option TypeId:=match P.underlying t with
 | some (.slice e)=>some e
 | _=>none
def Zdj (t:TypeId):Bool:=match P.underlying t with
 | some .string=>true
 | _=>false
def Zks (t:TypeId):Bool:=match P.underlying t with
 | some .bool=>true
 | _=>false
def Zzb (t:TypeId):Option IntKind:=match P.underlying t with
 | some (.int k)=>some k
 | _=>none
def Zlw (t:TypeId):Option (Nat×TypeId):=match P.underlying t with
 | some (.array n e)=>some (n,e)
 | _=>none
def ZhS (t:TypeId):Option Bool:=match P.underlying t with
 | some (.struct _)=>some true
 | some (.array _ _)=>some true
 | some _=>some false
 | none=>none
def Zju (s:TypeId) (f:Nat):Option (Nat×TypeId):=match P.underlying s with
 | some (.struct fs)=>match fs[f]? with
  | some x=>if P.cellsOf x.type=0 then none else some (x.offset,x.type)
  | none=>none
 | _=>none
def Zfe (t:TypeId):Option Value:=match P.info? t with
 | some i=>i.zero
 | none=>none
def Zyk:Nat→TypeId→List TypeId
 | 0,t=>[t]
 | n+1,t=>match P.underlying t with
  | some (.struct fs)=>fs.toList.flatMap fun f=>Zyk n f.type
  | some (.array k e)=>(List.replicate k (Zyk n e)).flatten
  | _=>[t]
def slcT (t:TypeId):List (Option Nat):=(Zyk P 4 t).map fun c=>(Vq P c).map P.cellsOf
def flatE (t:TypeId):Bool:=(Zyk P 4 t).all fun c=>match P.underlying c with
 | some (.int _)=>true
 | some .bool=>true
 | some .string=>true
 | _=>false
def Zgn:Nat→TypeId→Nat→Option (List (Nat×Nat))
 | 0,_,_=>none
 | n+1,t,off=>match P.underlying t with
  | some (.int _)=>if P.cellsOf t=1 then some [(off,0)] else none
  | some .bool=>if P.cellsOf t=1 then some [(off,1)] else none
  | some .string=>if P.cellsOf t=1 then some [(off,2)] else none
  | some (.struct fs)=>if P.stoodInHeld t then none else
    bnd (QV (fun f:Field=>if f.name = "_"∨P.cellsOf t<f.offset+P.cellsOf f.type then none else Zgn n f.type (off+f.offset)) fs.toList) fun ls=>some ls.flatten
  | _=>none
def Yy (t:TypeId):Bool:=match P.underlying t with
 | some (.struct _)=>true
 | _=>false
def ZvH (t:TypeId):Option (List Nat):=bnd (Zgn P 5 t 0) fun ls=>
 if ls.map (·.1)=List.range (P.cellsOf t)∧Yy P t=true∧P.eqGuardType P.depth t=false then some (ls.map (·.2)) else none
def ZvI (neg:Bool) (op:BinOp) (t:TypeId) (x y:Opd):Option (List Nat)→COp
 | some ks=>.eqA neg ks x y
 | none=>.bin op (Zks P t) x y
def Zxf (op:BinOp) (t:TypeId) (x y:Opd):COp:=match op with
 | .eql=>ZvI P false .eql t x y (ZvH P t)
 | .neq=>ZvI P true .neq t x y (ZvH P t)
 | op=>.bin op (Zks P t) x y
end
section
variable (P:Program)
def Z9:Operand→Option Opd
 | .tmp t=>some (.t t)
 | .const v=>some (.v (evC v))
 | .global _=>none
 | .func f=>some (.f f)
def ZvJ (pl:Nat→Option (Nat×Nat)) (q:Nat×Operand):Option (Nat×Nat×Opd):=bnd (pl q.1) fun p=>bnd (Z9 q.2) fun x=>some (p.1,p.2,x)
def cOO:Option Operand→Option (Option Opd)
 | none=>some none
 | some x=>bnd (Z9 x) fun y=>some (some y)
def Zis (t:TypeId):Option (Nat×TypeId)→Nat→Option (Nat×Nat)
 | none,i=>bnd (Zju P t i) fun q=>some (q.1,P.cellsOf q.2)
 | some a,i=>some (i*P.cellsOf a.2,P.cellsOf a.2)
def Zbs (t:TypeId):Bool:=match P.info? t with
 | some i=>(match i.zero with
  | some z=>z.cells.size==i.size&&decide (0<i.size)
  | none=>false)
 | none=>false
def Zmm (t:TypeId):Bool:=match P.underlying t with
 | some (.struct fs)=>fs.toList.all fun f=>(P.info? f.type).isSome
 | some (.array _ e)=>(P.info? e).isSome
 | _=>false
def Zoj (e:TypeId) (u:TypeId):Option Bool:=match Vq P u with
 | some e'=>if e'=e then some false else none
 | none=>if Zdj P u then some true else none
def Zp2 (x i:Opd) (a:Option (Nat×TypeId)):Option TypeId→Option COp
 | some e=>if (P.info? e).isSome then some (.iaS (P.cellsOf e) x i) else none
 | none=>bnd a fun a=>if (P.info? a.2).isSome then some (.iaA a.1 (P.cellsOf a.2) x i) else none
def Zt5 (x i:Opd) (str:Bool) (a:Option (Nat×TypeId)):Option COp:=
 if str then some (.ixS x i) else bnd a fun a=>bnd (ZhS P a.2) fun g=>some (.ixA g (P.cellsOf a.2) a.1 x i)
def Zyl (x:Opd) (ss sd:Bool):Option IntKind→Option IntKind→Option COp
 | some _,some k=>some (.convI k x)
 | _,_=>if ss&&sd then some (.convS x) else none
def cLen (x:Opd) (str:Bool):Option TypeId→Option COp
 | some _=>some (.len x)
 | none=>if str then some (.lenS x) else none
def Zxg (x:Opd) (lo hi:Option Opd) (str:Bool):Option TypeId→Option COp
 | some e=>if (P.info? e).isSome then some (.slice (P.cellsOf e) x lo hi) else none
 | none=>if str then some (.sliceS x lo hi) else none
def ZhT:Builtin→List Operand→List TypeId→Option COp
 | .len,[x],[t]=>bnd (Z9 x) fun x=>cLen x (Zdj P t) (Vq P t)
 | .append,[s,x],[t,u]=>bnd (Vq P t) fun e=>bnd (Zoj P e u) fun str=>bnd (Z9 s) fun s=>bnd (Z9 x) fun x=>
   if Zbs P e then some (.append (P.cellsOf e) (P.bytesOf e) str (flatE P e) s x) else none
 | .min,[x,y],_=>bnd (Z9 x) fun x=>bnd (Z9 y) fun y=>some (.min x y)
 | .max,[x,y],_=>bnd (Z9 x) fun x=>bnd (Z9 y) fun y=>some (.max x y)
 | .clear,[x],[t]=>bnd (Vq P t) fun e=>bnd (Z9 x) fun x=>bnd (Zfe P e) fun z=>bnd (evD z) fun z=>if Zbs P e then some (.clear (P.cellsOf e) z x) else none
 | _,_,_=>none
def cOp (ty:TypeId):Op→Option COp
 | .move x=>bnd (Z9 x) fun x=>some (.move x)
 | .assign x=>bnd (Z9 x) fun x=>some (.assign (bnd (Vq P ty) fun e=>some (P.cellsOf e)) x)
 | .pick c a b=>bnd (Z9 c) fun c=>bnd (Z9 a) fun a=>bnd (Z9 b) fun b=>some (.pick c a b)
 | .alloc t=>bnd (Zfe P t) fun z=>some (.alloc (slcT P t) (evC z).cells)
 | .box _ x=>bnd (Z9 x) fun x=>some (.box x)
 | .build t ps=>bnd (Zfe P t) fun z=>bnd (QV (ZvJ (Zis P t (Zlw P t))) ps.toList) fun qs=>if Zmm P t then some (.build (evC z).cells qs) else none
 | .buildSlice t n ps=>bnd (Vq P t) fun e=>bnd (QV (fun q:Nat×Operand=>Z9 q.2) ps.toList) fun xs=>
   if ps.toList.map (·.1)=List.range n∧n*P.cellsOf e≤16777216∧Zbs P e then some (.buildSl (P.cellsOf e) xs) else none
 | .load t a=>bnd (ZhS P t) fun g=>bnd (Z9 a) fun a=>some (.load g (P.cellsOf t) a)
 | .store t a x=>bnd (Z9 a) fun a=>bnd (Z9 x) fun x=>if (P.info? t).isSome then some (.store (slcT P t) (P.cellsOf t) a x) else none
 | .nilCheck x=>bnd (Z9 x) fun x=>some (.nilCheck x)
 | .binOp op t x y _=>bnd (Z9 x) fun x=>bnd (Z9 y) fun y=>some (Zxf P op t x y)
 | .unOp op _ x=>bnd (Z9 x) fun x=>some (.un op x)
 | .convert s d x=>bnd (Z9 x) fun x=>Zyl x (Zdj P s) (Zdj P d) (Zzb P s) (Zzb P d)
 | .makeFunc (.func f) fs cs=>if fs.toList.isEmpty then bnd (QV Z9 cs.toList) fun cs=>some (.fn f cs) else none
 | .makeSlice t l c=>bnd (Vq P t) fun e=>bnd (Z9 l) fun l=>bnd (Z9 c) fun c=>bnd (Zfe P e) fun z=>bnd (evD z) fun z=>if Zbs P e then some (.make (P.cellsOf e) (P.bytesOf e) z l c) else none
 | .slice t x lo hi none=>bnd (Z9 x) fun x=>bnd (cOO lo) fun lo=>bnd (cOO hi) fun hi=>Zxg P x lo hi (Zdj P t) (Vq P t)
 | .slice t x none (some hi) (some mx)=>bnd (Vq P t) fun e=>if (P.info? e).isSome then bnd (Z9 x) fun x=>bnd (Z9 hi) fun hi=>bnd (Z9 mx) fun mx=>some (.slice0 x hi mx) else none
 | .slice t x (some lo) (some hi) (some mx)=>bnd (Vq P t) fun e=>if (P.info? e).isSome then bnd (Z9 x) fun x=>bnd (Z9 lo) fun lo=>bnd (Z9 hi) fun hi=>bnd (Z9 mx) fun mx=>some (.slice3 (P.cellsOf e) x lo hi mx) else none
 | .fieldAddr s x f=>bnd (Zju P s f) fun q=>bnd (Z9 x) fun x=>some (.shift q.1 x)
 | .field t x f=>bnd (Zju P t f) fun q=>bnd (ZhS P q.2) fun g=>bnd (Z9 x) fun x=>some (.part g (P.cellsOf q.2) q.1 x)
 | .indexAddr t x i=>bnd (Z9 x) fun x=>bnd (Z9 i) fun i=>Zp2 P x i (Zlw P t) (Vq P t)
 | .index t x i=>bnd (Z9 x) fun x=>bnd (Z9 i) fun i=>Zt5 P x i (Zdj P t) (Zlw P t)
 | .extract x i=>bnd (Z9 x) fun x=>some (.nth i x)
 | .call { callee:=.builtin b,args:=as,argTypes:=ts }=>ZhT P b as.toList ts.toList
 | .call { callee:=.value f,args:=as,argTypes:=_ }=>bnd (Z9 f) fun f=>bnd (QV Z9 as.toList) fun as=>some (.call f as)
 | _=>none
def Zp3 (ops:List Oper):Option (Nat×Bool)→Option (Option (Nat×Bool))
 | none=>some none
 | some q=>bnd ops[q.1]? fun g=>bnd g.dst fun t=>some (some (t,q.2))
def Xu (nt:Nat):Option Nat→Bool
 | none=>true
 | some t=>decide (t<nt)
def UG (ops:Array Oper) (i:Nat):List Nat:=match ops[i]? with
 | some o=>(o.after.toList.filter fun e=>Region.binds .any e).map fun e=>e.on
 | none=>[]
def Zlx (ops:Array Oper):Nat→Nat→Nat→Bool
 | 0,i,j=>(UG ops i).contains j
 | n+1,i,j=>(UG ops i).contains j || (UG ops i).any fun z=>Zlx ops n z j
def startO:Op→Bool
 | .call { callee:=.builtin .append,args:=_,argTypes:=_ }=>true
 | .buildSlice _ _ _=>true
 | _=>false
def callO:Op→Bool
 | .call { callee:=.value (.func _),args:=_,argTypes:=_ }=>true
 | _=>false
def ZAf:Op→Bool
 | .move _=>true
 | _=>false
def aheadO:Op→Bool
 | .store _ _ _=>false
 | .box _ _=>false
 | .assign _=>false
 | .makeFunc _ _ _=>false
 | .makeSlice _ _ _=>false
 | .call { callee:=.builtin .append,args:=_,argTypes:=_ }=>false
 | .call { callee:=.value _,args:=_,argTypes:=_ }=>false
 | _=>true
def ZCi:Op→Bool
 | .move _=>true
 | .alloc _=>true
 | .buildSlice _ _ _=>true
 | .load _ _=>true
 | .nilCheck _=>true
 | .binOp _ _ _ _ _=>true
 | .unOp _ _ _=>true
 | .convert _ _ _=>true
 | .fieldAddr _ _ _=>true
 | .indexAddr _ _ _=>true
 | .slice _ _ _ _ _=>true
 | .call { callee:=.builtin .len,args:=_,argTypes:=_ }=>true
 | _=>false
def appO:Op→Bool
 | .call { callee:=.builtin .append,args:=_,argTypes:=_ }=>true
 | _=>false
def lookO:Op→Bool
 | .move _=>true
 | .load _ _=>true
 | .nilCheck _=>true
 | .binOp _ _ _ _ _=>true
 | .convert _ _ _=>true
 | .fieldAddr _ _ _=>true
 | .field _ _ _=>true
 | .extract _ _=>true
 | .indexAddr _ _ _=>true
 | .slice _ _ _ _ _=>true
 | .call { callee:=.builtin .len,args:=_,argTypes:=_ }=>true
 | _=>false
def atO (f:Op→Bool) (ops:List Oper) (k:Nat):Bool:=match ops[k]? with
 | some o=>f o.op
 | none=>false
def firmAt (ops:List Oper) (i:Nat):Bool:=
 (List.range ops.length).all fun k=>if k<i then Zlx ops.toArray 6 i k || atO ZAf ops k else k==i || Zlx ops.toArray 6 k i || atO ZAf ops k
def firmP (ops:List Oper) (i:Nat):Bool:=
 (List.range ops.length).all fun k=>if k<i then Zlx ops.toArray 6 i k || atO lookO ops k else k==i || Zlx ops.toArray 6 k i || atO ZAf ops k
def firmC (ops:List Oper) (i:Nat):Bool:=
 (List.range ops.length).all fun k=>if k<i then Zlx ops.toArray 6 i k || atO aheadO ops k else k==i || Zlx ops.toArray 6 k i || atO ZCi ops k
def Zp4 (ops:List Oper) (o:Oper):Nat:=ops.findIdx fun x=>x.dst==o.dst
def firm (ops:List Oper) (o:Oper):Bool:=(startO o.op&&firmAt ops (Zp4 ops o)) || (callO o.op&&firmC ops (Zp4 ops o)) || (appO o.op&&firmP ops (Zp4 ops o))
def ZaP:Option COp→COp
 | some c=>c
 | none=>.stuck
def Zok (nt:Nat) (ops:List Oper) (o:Oper):Option CO:=bnd (Zp3 ops o.guard) fun g=>
 if Xu nt o.dst then some { dst:=o.dst,guard:=g,op:=ZaP (cOp P o.type o.op),tl:=firm ops o } else none
end
end Go.Abs
