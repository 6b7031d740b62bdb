/- Own text. -/
import Derived.Test.YtefabmohhbhlfaaAbsBase
set_option linter.unusedVariables false
set_option linter.unusedSimpArgs false
namespace Go.Abs
open Go
def mat:List (Option Nat)→List AV→Nat→List AV×Hp
 | some s :: ts,.nil :: vs,b=>let r:=mat ts vs (b+1);(.own b :: r.1,(b,.row s [] true false) :: r.2)
 | _ :: ts,v :: vs,b=>let r:=mat ts vs b;(v :: r.1,r.2)
 | _,vs,_=>(vs,[])
def Zeq:List AV→Bool
 | []=>false
 | .nil :: _=>true
 | _ :: r=>Zeq r
structure Eff where
 val:AV
 adds:Hp:=[]
 sets:Hp:=[]
 dels:List Nat:=[]
 frz:List Nat:=[]
def Zd:Hp→Hp→Hp
 | hp,[]=>hp
 | hp,(k,o) :: r=>Zd (ins hp k o) r
def del:Hp→Nat→Hp
 | [],_=>[]
 | (k,o) :: r,t=>if k=t then del r t else (k,o) :: del r t
def ZP:Hp→List Nat→Hp
 | hp,[]=>hp
 | hp,k :: r=>ZP (del hp k) r
def Z2 (ids:List Nat) (hp:Hp):Hp:=match ids with
 | []=>hp
 | _=>freeze ids hp
def Eff.on (e:Eff) (hp:Hp):Hp:=Zd (Zd (ZP (Z2 e.frz hp) e.dels) e.sets) e.adds
def ZpB:List AV→Nat→List AV→List AV
 | cs,_,[]=>cs
 | cs,off,v :: r=>ZpB (cs.set off v) (off+1) r
def Zfl:List AV→List (Nat×Nat×AV)→Option (List AV)
 | cells,[]=>some cells
 | cells,q :: r=>if q.2.2.solid∧q.2.2.cells.length=q.2.1∧q.1+q.2.1≤cells.length then Zfl (ZpB cells q.1 q.2.2.cells) r else none
def AV.atom:AV→Bool
 | .d x=>x.one
 | .agg _=>false
 | .tup _=>false
 | .clo _ _=>false
 | _=>true
def ZbX:List AV→Bool
 | []=>true
 | v :: r=>v.atom&&ZbX r
def cloV (f:Nat) (cs:List AV):Option AV:=if ZbX cs then some (.clo f cs) else none
def Zdi:AV→AV
 | .bbuf _ _=>.junk
 | v=>v
def WR (agg:Bool) (s off:Nat):Option Zh→Option AV
 | some (.box cs)=>if agg then (if off+s≤cs.length then some (VT ((cs.drop off).take s)) else none) else (cs[off]?).map Zdi
 | _=>none
def UJ (agg:Bool) (s off:Nat) (cs:List D):Option AV:=
 if agg then (if off+s≤cs.length then some (.d (.agg ((cs.drop off).take s))) else none) else asD cs[off]?
def Zdj (agg:Bool) (s sz off:Nat) (x:D):Option AV:=if x.cells.length=sz then UJ agg s off x.cells else none
def Zfm (i off:Nat):Option (Option Nat×Nat×Nat)→Option AV
 | some (some nm,i',c)=>if i=i'∧off=c then some (.own nm) else none
 | _=>none
def V3 (i off:Nat) (lk:Option (Option Nat×Nat×Nat)) (x:D):Option AV:=match x.cells[off]? with
 | some (.sl _)=>Zfm i off lk
 | some y=>if y.plain then some (.d y) else none
 | none=>none
def V4 (id:Nat) (agg:Bool) (s sz i off:Nat):Option Zh→Option AV
 | some (.row sz' xs _ _)=>if sz=sz' then bnd xs[i]? (Zdj agg s sz off) else none
 | some (.tree sz' _ xs lk)=>if sz=sz' then (if agg then none else bnd xs[i]? (V3 i off lk)) else none
 | _=>none
def Vj (hp:Hp) (agg:Bool) (s:Nat):AV→Option AV
 | .ptr id off=>WR agg s off (lkp hp id)
 | .prow id sz i off=>V4 id agg s sz i off (lkp hp id)
 | .pim cs=>UJ agg s 0 cs
 | _=>none
def ZkG:AV→Option D
 | .d x=>if x.plain then some x else none
 | _=>none
def Zl0:List AV→Option (List D)
 | []=>some []
 | v :: r=>bnd (ZkG v) fun x=>bnd (Zl0 r) fun ds=>some (x :: ds)
def Zbf (slc:List (Option Nat)) (s base id off:Nat) (vs:List AV):Option Zh→Option Eff
 | some (.box cs)=>if vs.length=s∧off+s≤cs.length∧QP vs∧QU cs=true then
    (if Zeq vs then some { val := .junk, adds := (mat slc vs base).2, sets := [(id, .box (Zn cs off (mat slc vs base).1))] }
      else some { val:=.junk,sets:=[(id,.box (Zn cs off vs))] })
   else none
 | _=>none
def D.notSl:D→Bool
 | .sl _=>false
 | _=>true
def ZbY (s id sz i off:Nat) (xs:List D) (ex:Bool) (x:D) (q:List D×Bool×List Nat):Option Eff:=
 if x.notSl∧x.cells.length=sz∧q.1.length=s∧off+s≤sz∧q.2.2.contains id=false then
  some { val:=.junk,sets:=[(id,.row sz (xs.set i (Yp x off q.1)) (ex&&q.2.1) false)],frz:=q.2.2 } else none
def ZbZ (n id:Nat):Option Zh→Option (D×List Nat)
 | some (.row sz xs true false)=>if sz=n∧Wr D.flat xs then some (.sl xs,[id]) else none
 | some (.tree sz n' xs none)=>if sz=n∧n'=n then some (.sl xs,[id]) else none
 | _=>none
def Zbg (hp:Hp) (n:Nat):AV→Option (D×List Nat)
 | .d x=>if x.plain then some (x,[]) else none
 | .nil=>some (.sl [],[])
 | .own id=>ZbZ n id (lkp hp id)
 | _=>none
def Yt (hp:Hp) (n:Nat):List AV→Option (List D×List Nat)
 | []=>some ([],[])
 | v :: r=>bnd (Zbg hp n v) fun q=>bnd (Yt hp n r) fun p=>if !q.2.any p.2.contains then some (q.1 :: p.1,q.2++p.2) else none
def D.isAgg:D→Bool
 | .agg _=>true
 | _=>false
def V5 (i off s:Nat):Option (Option Nat×Nat×Nat)→Option (Option Nat×Nat×Nat)
 | some (nm,i',c)=>if i=i'∧off≤c∧c<off+s then none else some (nm,i',c)
 | none=>none
def Zb0 (s id sz n i off:Nat) (xs:List D) (lk:Option (Option Nat×Nat×Nat)) (x:D) (q:List D×List Nat):Option Eff:=
 if x.isAgg∧x.cells.length=sz∧q.1.length=s∧off+s≤sz∧q.2.contains id=false then
  some { val:=.junk,sets:=[(id,.tree sz n (xs.set i (Yp x off q.1)) (V5 i off s lk))],dels:=q.2 } else none
def UK (hp:Hp) (s id sz i off:Nat) (vs:List AV):Option Zh→Option Eff
 | some (.row sz' xs ex false)=>if sz=sz' then bnd xs[i]? fun x=>bnd (Yo hp vs) fun q=>ZbY s id sz i off xs ex x q else none
 | some (.tree sz' n xs lk)=>if sz=sz' then bnd xs[i]? fun x=>bnd (Yt hp n vs) fun q=>Zb0 s id sz n i off xs lk x q else none
 | _=>none
def Ud (hp:Hp) (slc:List (Option Nat)) (s base:Nat) (vs:List AV):AV→Option Eff
 | .ptr id off=>Zbf slc s base id off vs (lkp hp id)
 | .prow id sz i off=>UK hp s id sz i off vs (lkp hp id)
 | _=>none
def uni (s:Nat) (ys:List D):Prop:=∀ y∈ys,y.cells.length=s
def Zz:Nat:=140737488355328
def Qw (ys:List D):Prop:=∀ y∈ys,y.flat=true
def ZkH (flat:Bool):Option Zh→Option (List D×Bool)
 | some (.row _ ys ex _)=>some (ys,ex || flat)
 | _=>none
def Zg0:AV→Option (List D×Bool)
 | .d (.str s)=>some (s.map fun b=>.int .u8 b.toNat,true)
 | _=>none
def Zf8 (flat:Bool) (off n:Nat):Option Zh→Option (List D×Bool)
 | some (.row _ ys ex _)=>some ((ys.drop off).take n,ex || flat)
 | _=>none
def Zbh (hp:Hp) (flat:Bool):AV→Option (List D×Bool)
 | .nil=>some ([],true)
 | .d (.sl ys)=>some (ys,flat)
 | .own id=>ZkH flat (lkp hp id)
 | .ownv id off n=>Zf8 flat off n (lkp hp id)
 | _=>none
def Zg1 (sz base:Nat) (dels:List Nat) (xs:List D) (ex:Bool):Eff:=
 { val:=.own base,adds:=[(base,.row sz xs ex false)],dels:=dels }
def Zg2 (sz by_ base id:Nat) (ys:List D) (ex' : Bool):Option Zh→Option Eff
 | some (.row sz' xs ex false)=>if sz'=sz∧(xs.length+ys.length)*by_≤Zz∧xs.length+ys.length≤Zz then some (Zg1 sz base [id] (xs++ys) (ex&&ex')) else none
 | _=>none
def Zdk (sz by_ base id n:Nat) (ys:List D) (ex' : Bool):Option Zh→Option Eff
 | some (.row sz' xs ex false)=>if sz'=sz∧(n+ys.length)*by_≤Zz∧n+ys.length≤Zz then some (Zg1 sz base [id] (xs.take n++ys) (ex&&ex')) else none
 | _=>none
def Zdl (sz base id n:Nat) (ys:List D) (ex' : Bool):Option Zh→Option Eff
 | some (.row sz' xs ex false)=>if sz'=sz∧0<xs.length∧n+ys.length≤xs.length then
   some { val:=.ownv base 0 (n+ys.length),adds:=[(base,.row sz (xs.take n++ys++xs.drop (n+ys.length)) (ex&&ex') false)],dels:=[id] } else none
 | _=>none
def Zdm (sz by_ base id off n:Nat) (ys:List D):Option Zh→Option Eff
 | some (.row sz' xs _ false)=>if sz'=sz∧(n+ys.length)*by_≤Zz∧n+ys.length≤Zz then some (Zg1 sz base [id] ((xs.drop off).take n++ys) false) else none
 | _=>none
def Zcu (hp:Hp) (sz by_:Nat) (base:Nat) (src:List Nat) (ys:List D) (ex' : Bool):AV→Option Eff
 | .nil=>if ys.length*by_≤Zz∧ys.length≤Zz then some (Zg1 sz base [] ys ex') else none
 | .own id=>if src.contains id then none else Zg2 sz by_ base id ys ex' (lkp hp id)
 | .ownv id off n=>if off≠0 then (if src.contains id then none else Zdm sz by_ base id off n ys (lkp hp id)) else if src.contains id then Zdl sz base id n ys ex' (lkp hp id) else Zdk sz by_ base id n ys ex' (lkp hp id)
 | _=>none
open Classical in
noncomputable def V6 (hp:Hp) (sz by_:Nat) (str flat:Bool) (base:Nat) (s x:AV):Option Eff:=
 bnd (if str then Zg0 x else Zbh hp flat x) fun q=>if uni sz q.1∧(flat=true→Qw q.1) then Zcu hp sz by_ base (Jh x) q.1 q.2 s else none
def idx (i:AV):Option Int:=match i with
 | .d (.int _ n)=>some n
 | _=>none
def Zov (sz:Nat) (y:D):Option AV:=if y.cells.length=sz then some (.pim y.cells) else none
def Jn (sz id n:Nat):Option Zh→Option AV
 | some (.row sz' xs _ _)=>if sz'=sz∧n<xs.length then some (.prow id sz n 0) else none
 | some (.tree sz' _ xs _)=>if sz'=sz∧n<xs.length then some (.prow id sz n 0) else none
 | _=>none
def UL (sz id off m n:Nat):Option Zh→Option AV
 | some (.row sz' _ _ _)=>if sz'=sz∧n<m then some (.prow id sz (off+n) 0) else none
 | _=>none
def Qd (hp:Hp) (sz n:Nat):AV→Option AV
 | .d (.sl xs)=>bnd xs[n]? (Zov sz)
 | .own id=>Jn sz id n (lkp hp id)
 | .ownv id off m=>UL sz id off m n (lkp hp id)
 | _=>none
def bd (m:Nat) (v:AV):Option Nat:=bnd (idx v) fun n=>if 0≤n∧n≤m then some n.toNat else none
def hiOf (len:Nat):Option AV→Option Nat
 | none=>some len
 | some v=>bd len v
def loOf (h:Nat):Option AV→Option Nat
 | none=>some 0
 | some v=>bd h v
def ZkI (len:Nat) (lo hi:Option AV):Option (Nat×Nat):=bnd (hiOf len hi) fun h=>bnd (loOf h lo) fun l=>some (l,h)
def Zl1 (id n:Nat):Option AV→Option AV→Option AV
 | none,none=>some (.own id)
 | lo,hi=>bnd (ZkI n lo hi) fun b=>some (.ownv id b.1 (b.2-b.1))
def UM (s id:Nat) (lo hi:Option AV):Option Zh→Option AV
 | some (.row sz xs _ _)=>if sz=s then Zl1 id xs.length lo hi else none
 | _=>none
def ZqC (n m:Nat) (lo:Option AV):Option AV→Option (Nat×Nat)
 | none=>ZkI n lo none
 | some h=>ZkI m lo (some h)
def WA (s id off n:Nat) (lo hi:Option AV):Option Zh→Option AV
 | some (.row sz xs _ _)=>if sz=s then bnd (ZqC n (xs.length-off) lo hi) fun b=>some (.ownv id (off+b.1) (b.2-b.1)) else none
 | _=>none
def slice3 (hp:Hp) (x:AV) (lo hi mx:Option Int):Option AV:=bnd lo fun l=>bnd hi fun h=>bnd mx fun m=>bnd (Jz hp x) fun n=>
 if 0≤l∧l≤h∧h≤m∧m≤n then some .junk else none
def Zdn (s id off n:Nat) (z:D):Option Zh→Option Eff
 | some (.row sz xs ex false)=>if sz=s∧z.cells.length=s∧off+n≤xs.length then some { val:=.tup [],sets:=[(id,.row sz (xs.take off++List.replicate n z++xs.drop (off+n)) ex false)] } else none
 | _=>none
def Zan (hp:Hp) (s:Nat) (z:D):AV→Option Eff
 | .ownv id off n=>Zdn s id off n z (lkp hp id)
 | _=>none
open Classical in
noncomputable def Yl (hp:Hp) (s:Nat) (lo hi:Option AV):AV→Option AV
 | .d (.sl xs)=>if uni s xs then bnd (ZkI xs.length lo hi) fun b=>some (.d (.sl ((xs.take b.2).drop b.1))) else none
 | .nil=>bnd (ZkI 0 lo hi) fun _=>some .nil
 | .own id=>UM s id lo hi (lkp hp id)
 | .ownv id off n=>WA s id off n lo hi (lkp hp id)
 | _=>none
def sliceS (lo hi:Option AV):AV→Option AV
 | .d (.str s)=>bnd (ZkI s.length lo hi) fun b=>some (.d (.str ((s.take b.2).drop b.1)))
 | _=>none
def slice0 (hp:Hp) (x:AV) (hi mx:Option Int):Option AV:=match hi,mx with
 | some 0,some 0=>bnd (Jz hp x) fun _=>some .nil
 | _,_=>none
def Zdo (agg:Bool) (s off:Nat):AV→Option AV
 | .d (.agg cs)=>UJ agg s off cs
 | .agg cs=>if agg then (if off+s≤cs.length then some (VT ((cs.drop off).take s)) else none) else cs[off]?
 | _=>none
abbrev Orc:=Nat→List AV→List Zh→Option (AV×List Zh)
abbrev Zg:=Nat→Nat→Bool
def Zao (hp:Hp) (id:Nat):Bool→Option AV
 | true=>some (.own id)
 | false=>asD (Zcd hp (.own id))
def Zbi:Bool→Option AV
 | true=>some .nil
 | false=>some (.d (.sl []))
def Zap (hp:Hp) (cs:List AV):Bool→Option AV
 | true=>if Jy cs then none else some (.agg cs)
 | false=>asD (toD hp (.agg cs))
def Je (hp:Hp) (m:Bool):AV→Option AV
 | .ptr a b=>some (.ptr a b)
 | .clo f c=>some (.clo f c)
 | .nilp=>some .nilp
 | .nili=>some .nili
 | .pim c=>some (.pim c)
 | .own id=>Zao hp id m
 | .nil=>Zbi m
 | .d x=>some (.d x)
 | .agg cs=>Zap hp cs m
 | v=>asD (toD hp v)
def args (hp:Hp) (m:Nat→Bool):Nat→List AV→Option (List AV)
 | _,[]=>some []
 | i,v :: r=>bnd (Je hp (m i) v) fun a=>bnd (args hp m (i+1) r) fun as=>some (a :: as)
def V7 (hp:Hp) (go:List Nat→List Nat→List Nat) (id:Nat) (todo acc:List Nat):Option Zh→List Nat
 | some o=>go (todo++VV o) (acc++[id])
 | none=>go todo acc
def Qv (hp:Hp):Nat→List Nat→List Nat→List Nat
 | 0,_,acc=>acc
 | _+1,[],acc=>acc
 | n+1,id :: todo,acc=>if acc.contains id then Qv hp n todo acc else V7 hp (Qv hp n) id todo acc (lkp hp id)
def Yu:List Nat→Nat→Nat
 | [],_=>0
 | x :: r,t=>if x=t then 0 else Yu r t+1
def Zl2:Option Zh→Zh
 | some o=>o
 | none=>.gone
def JB (hp:Hp):List Nat→List Zh
 | []=>[]
 | id :: r=>Zl2 (lkp hp id) :: JB hp r
def W0 (ids:List Nat) (o:Zh):Zh:=Zc1 (Yu ids) (QF ((VV o).filter fun i=>!ids.contains i) o)
def Zbj:Option Zh→Bool
 | some (.row _ _ _ _)=>true
 | some (.tree _ _ _ _)=>true
 | some .gone=>true
 | _=>false
def UN:AV→Bool
 | .d x=>x.flat
 | .pim _=>false
 | .agg _=>false
 | .tup _=>false
 | .clo _ _=>false
 | _=>true
def JC:AV→Bool
 | .agg cs=>cs.all UN
 | .clo _ cs=>cs.all UN
 | v=>UN v
def ZjF:AV→Bool
 | .tup vs=>vs.all JC
 | v=>JC v
def Zbk:Zh→Bool
 | .box cs=>cs.all JC
 | .row _ _ ex fz=>ex&&!fz
 | .tree _ _ _ _=>true
 | .gone=>true
def ZcL (d:Nat):Option Nat→Nat
 | some i=>i
 | none=>d
def YI (ids:List Nat) (base k:Nat):Nat:=ZcL (base+(k-ids.length)) ids[k]?
def UO (g:Nat→Nat):List Nat→List Zh→Hp
 | id :: ids,o :: os=>(id,Zc1 g o) :: UO g ids os
 | _,_=>[]
def UP (g:Nat→Nat):Nat→List Zh→Hp
 | _,[]=>[]
 | k,o :: os=>(k,Zc1 g o) :: UP g (k+1) os
structure Zb where
 eff:Eff
 gone:List Nat
def QX (_hp:Hp):Nat:=1000
def Xz:List AV→List AV→List Nat
 | v :: vs,.d _ :: as=>Zae v++Xz vs as
 | _ :: vs,_ :: as=>Xz vs as
 | _,_=>[]
def UQ:Option Zh→Bool
 | some (.tree _ _ _ _)=>true
 | _=>false
def Zer:List Nat→List Zh→List Nat
 | id :: ids,.gone :: os=>id :: Zer ids os
 | _ :: ids,_ :: os=>Zer ids os
 | _,_=>[]
def Zes (hp:Hp) (ids:List Nat) (out:List Zh):Bool→List Nat
 | true=>Zer ids out
 | false=>ids.filter fun i=>Zbj (lkp hp i)
def W1 (keep:Bool) (hp:Hp) (base:Nat) (ids lent:List Nat) (r:AV) (out:List Zh):Option Zb:=
 if out.length<ids.length then none else if !(ZjF r&&out.all Zbk)&&lent.any fun i=>UQ (lkp hp i) then none else
  some { eff := { val:=ren (YI ids base) r,adds:=UP (YI ids base) base (out.drop ids.length),sets:=UO (YI ids base) ids out,frz:=if ZjF r&&out.all Zbk then [] else lent },gone:=Zes hp ids out keep }
def Wu:AV→List Nat
 | .ptr id _=>[id]
 | .clo _ cs=>cs.flatMap Zf
 | _=>[]
def Ur (hp:Hp) (rs ids:List Nat):Bool:=ids.all fun i=>Zbj (lkp hp i) || rs.contains i
def Zaq (C:Orc) (keep:Bool) (hp:Hp) (base f:Nat) (lent:List Nat) (as:List AV) (ids:List Nat):Option Zb:=
 if (as.flatMap Zo).all ids.contains∧¬lent.any ids.contains∧Ur hp (as.flatMap Wu) ids=true then
  bnd (C f (as.map (ren (Yu ids))) ((JB hp ids).map (W0 ids))) fun q=>W1 keep hp base ids lent q.1 q.2
 else none
def Jo (C:Orc) (m:Nat→Bool) (hp:Hp) (base f:Nat) (avs:List AV):Option Zb:=
 bnd (args hp m 0 avs) fun as=>Zaq C (m 99) hp base f (Xz avs as) as (Qv hp (QX hp) (as.flatMap Zo) [])
def Qe (v:AV):Option Zb:=some { eff := { val:=v },gone:=[] }
def YA (v:Option AV):Option Zb:=bnd v Qe
def Za2 (e:Option Eff):Option Zb:=bnd e fun e=>some { eff:=e,gone:=[] }
def Zar (base:Nat) (e:Option Nat):AV→Option Zb
 | .nil=>bnd e fun s=>some { eff := { val:=.own base,adds:=[(base,.row s [] true false)] },gone:=[] }
 | v=>Qe v
def Zbl (a b:AV):AV→Option Zb
 | .d (.bool t)=>if t then Qe a else Qe b
 | _=>none
def ZcM (base:Nat):AV→AV
 | .bnil _ e=>.bnil base e
 | v=>v
def bnT (t te:Nat):List AV→List AV
 | [.nilp,.nil]=>[.bnil 0 t,.bbuf te []]
 | cs=>cs
def ZqD:List AV→Bool
 | [.bnil _ _,.bbuf _ []]=>true
 | _=>false
def Zg3 (slc:List (Option Nat)) (base:Nat) (cs:List AV):Option Zb:=
 if QU cs=false then (if ZqD cs=true then some { eff := { val:=.ptr base 0,adds:=[(base,.box cs)] },gone:=[] } else none) else
 if Zeq cs then some { eff := { val:=.ptr base 0,adds:=(base,.box (mat slc cs (base+1)).1) :: (mat slc cs (base+1)).2 },gone:=[] }
 else some { eff := { val:=.ptr base 0,adds:=[(base,.box cs)] },gone:=[] }
def Zbm (slc:List (Option Nat)) (base:Nat) (cs:List AV):Option Zb:=Zg3 slc base (cs.map (ZcM base))
def ZpC (base:Nat) (x:AV):Option Zb:=if x.solid&&QU x.cells then some { eff := { val:=.ptr base 0,adds:=[(base,.box x.cells)] },gone:=[] } else none
def Zg4 (zs:List AV) (ps:List (Nat×Nat×AV)):Option Zb:=bnd (Zfl zs ps) fun cs=>Qe (VT cs)
def ZpD (base s:Nat) (q:List D×Bool×List Nat):Option Zb:=
 if q.1.all (fun d=>d.cells.length==s) then some { eff := { val:=.own base,adds:=[(base,.row s q.1 q.2.1 false)],frz:=q.2.2 },gone:=[] } else none
def buildSl (hp:Hp) (base s:Nat):List AV→Option Zb
 | []=>Qe .nil
 | v :: vs=>bnd (Y2 hp (v :: vs)) (ZpD base s)
def XY (hp:Hp) (n s:Nat):List AV→Option (List D×List Nat)
 | []=>some ([],[])
 | .agg cs :: r=>bnd (Yt hp n cs) fun q=>bnd (XY hp n s r) fun p=>
   if q.1.length=s∧(!q.2.any p.2.contains)=true then some (.agg q.1 :: p.1,q.2++p.2) else none
 | .own id :: r=>bnd (Yt hp n [.own id]) fun q=>bnd (XY hp n s r) fun p=>
   if q.1.length=s∧(!q.2.any p.2.contains)=true then some (.agg q.1 :: p.1,q.2++p.2) else none
 | _=>none
def asgT (base s n:Nat):AV→Option Zb
 | .nil=>some { eff := { val:=.own base,adds:=[(base,.tree s n [] none)] },gone:=[] }
 | _=>none
def buildT (hp:Hp) (base s n:Nat) (vs:List AV):Option Zb:=
 if vs.isEmpty=false then bnd (XY hp n s vs) fun q=>some { eff := { val:=.own base,adds:=[(base,.tree s n q.1 none)],dels:=q.2 },gone:=[] } else none
def WB:AV→Option Zb
 | .ptr a b=>Qe (.ptr a b)
 | .prow a b c d=>Qe (.prow a b c d)
 | .pim c=>Qe (.pim c)
 | .clo f c=>Qe (.clo f c)
 | _=>none
def Zet (op:BinOp) (eq:Bool):AV→AV→Option Zb
 | .d (.bool a),.d (.bool b)=>if eq then YA (Zje op a b) else none
 | a,b=>YA (vbin op a b)
def Ws:List Nat→List D→List D→Option Bool
 | [],[],[]=>some true
 | 0 :: ks,.int k a :: cs,.int k' b :: ds=>if k=k' then bnd (Ws ks cs ds) fun r=>some (decide (a=b)&&r) else none
 | 1 :: ks,.bool a :: cs,.bool b :: ds=>bnd (Ws ks cs ds) fun r=>some (decide (a=b)&&r)
 | 2 :: ks,.str a :: cs,.str b :: ds=>bnd (Ws ks cs ds) fun r=>some (decide (a=b)&&r)
 | _,_,_=>none
def Zg5 (neg:Bool) (r:Bool):Bool:=if neg then !r else r
def ZkJ (neg:Bool) (ks:List Nat):AV→AV→Option Zb
 | .d (.agg cs),.d (.agg ds)=>bnd (Ws ks cs ds) fun r=>Qe (.d (.bool (Zg5 neg r)))
 | _,_=>none
def convI (k:IntKind):AV→Option Zb
 | .d (.int _ n)=>Qe (.d (.int k (k.wrap n)))
 | _=>none
def convS:AV→Option Zb
 | .d (.str s)=>Qe (.d (.str s))
 | _=>none
def ZjG (base s b:Nat) (z:D) (l c:Int):Option Zb:=
 if 0≤l∧l≤c∧c*b≤Zz∧c≤Zz∧z.cells.length=s then
  some { eff := { val:=.own base,adds:=[(base,.row s (List.replicate l.toNat z) true false)] },gone:=[] } else none
def makeT (base s b ns:Nat) (z:D) (l c:Int):Option Zb:=
 if 0≤l∧l≤c∧c*b≤Zz∧c≤Zz∧z.cells.length=s∧z.isAgg=true then
  some { eff := { val:=.own base,adds:=[(base,.tree s ns (List.replicate l.toNat z) none)] },gone:=[] } else none
def YJ (off:Nat):AV→Option Zb
 | .ptr id o=>Qe (.ptr id (o+off))
 | .prow id sz i o=>Qe (.prow id sz i (o+off))
 | .pim cs=>Qe (.pim (cs.drop off))
 | _=>none
def Zg6 (x:AV) (n:Int) (len s:Nat):Option Zb:=if 0≤n∧n<len then YJ (n.toNat*s) x else none
def Zcv (hp:Hp) (s:Nat) (x:AV) (n:Int):Option Zb:=if 0≤n then YA (Qd hp s n.toNat x) else none
def Zl3 (s:List UInt8) (n:Int):Option Zb:=if 0≤n then bnd s[n.toNat]? fun b=>Qe (.d (.int .u8 b.toNat)) else none
def ZpE (g:Bool) (s len:Nat) (n:Int) (v:AV):Option Zb:=if 0≤n∧n<len then YA (Zdo g s (n.toNat*s) v) else none
def Znj (n:Int):AV→Option Zb
 | .d (.str s)=>Zl3 s n
 | _=>none
def Zl4 (i:Nat):AV→Option Zb
 | .tup vs=>YA vs[i]?
 | _=>none
def Zeu:Option Zh→Option (Nat×Nat×List D)
 | some (.tree s n xs none)=>some (s,n,xs)
 | _=>none
def Jp (hp:Hp):AV→Option (Nat×Nat×Nat×List D)
 | .own id=>bnd (Zeu (lkp hp id)) fun q=>some (id,q)
 | _=>none
def Us (hp:Hp) (s b base id n:Nat) (ys:List D):AV→Option Eff
 | .nil=>if ys.length*b≤Zz∧ys.length≤Zz then some { val:=.own base,adds:=[(base,.tree s n ys none)],dels:=[id] } else none
 | .own id1=>bnd (Zeu (lkp hp id1)) fun q=>if q.1=s∧q.2.1=n∧id1≠id∧(q.2.2.length+ys.length)*b≤Zz∧q.2.2.length+ys.length≤Zz then
   some { val:=.own base,adds:=[(base,.tree s n (q.2.2++ys) none)],dels:=[id1,id] } else none
 | _=>none
def V8 (xs:List D) (i c:Nat):Option (List D):=bnd xs[i]? fun x=>match x.cells[c]? with
 | some (.sl ys)=>some ys
 | _=>none
def QY (hp:Hp):AV→List Nat
 | .own id=>if UQ (lkp hp id) then [id] else []
 | _=>[]
def Zdp:Zh→Zh
 | .tree s _ xs none=>.row s xs true false
 | o=>o
def meltIn (hp:Hp):List Nat→Hp
 | []=>hp
 | i :: r=>match lkp hp i with
  | some o=>ins (meltIn hp r) i (Zdp o)
  | none=>meltIn hp r
noncomputable def XZ (hp:Hp) (s b:Nat) (str flat:Bool) (base:Nat) (x y:AV):List Nat→Option Eff
 | []=>V6 hp s b str flat base x y
 | i :: r=>if flat then none else bnd (V6 (meltIn hp (i :: r)) s b str flat base x y) fun e=>some { val:=e.val,adds:=e.adds,sets:=e.sets,dels:=e.dels++(i :: r),frz:=e.frz }
def appT (hp:Hp) (s b base:Nat) (x y:AV):Option Zb:=Za2 (bnd (Jp hp y) fun q=>if q.2.1=s then Us hp s b base q.1 q.2.2.1 q.2.2.2 x else none)
noncomputable def JD (hp:Hp) (s b:Nat) (str flat:Bool) (base:Nat) (x y:AV):List Nat→List Nat→Option Zb
 | [],m=>Za2 (XZ hp s b str flat base x y m)
 | i :: r,[]=>Za2 (XZ hp s b str flat base x y (i :: r))
 | _ :: _,_ :: _=>if flat || str then none else appT hp s b base x y
noncomputable def Zl5 (hp:Hp) (s b:Nat) (str flat:Bool) (base:Nat) (x y:AV):Option Zb:=JD hp s b str flat base x y (QY hp x) (QY hp y)
def Zfn:AV→AV→Option Zb
 | .d (.int k a),.d (.int k' b)=>if k=k' then Qe (.d (.int k (minI a b))) else none
 | _,_=>none
def Zfo:AV→AV→Option Zb
 | .d (.int k a),.d (.int k' b)=>if k=k' then Qe (.d (.int k (maxI a b))) else none
 | _,_=>none
inductive Opd where
 | t (n:Nat)
 | v (a:AV)
 | f (n:Nat)
def evO (sl:Sl):Opd→AV
 | .t n=>gs sl n
 | .v a=>a
 | .f n=>.clo n []
def evL (sl:Sl):List Opd→List AV
 | []=>[]
 | x :: r=>evO sl x :: evL sl r
def evP (sl:Sl):List (Nat×Nat×Opd)→List (Nat×Nat×AV)
 | []=>[]
 | (a,b,x) :: r=>(a,b,evO sl x) :: evP sl r
def evM (sl:Sl):Option Opd→Option AV
 | none=>none
 | some x=>some (evO sl x)
inductive COp where
 | move (x:Opd)
 | assign (s:Option Nat) (x:Opd)
 | pick (c a b:Opd)
 | alloc (slc:List (Option Nat)) (cs:List AV)
 | box (x:Opd)
 | build (zs:List AV) (ps:List (Nat×Nat×Opd))
 | buildSl (s:Nat) (xs:List Opd)
 | load (g:Bool) (s:Nat) (a:Opd)
 | store (slc:List (Option Nat)) (s:Nat) (a x:Opd)
 | nilCheck (x:Opd)
 | bin (op:BinOp) (eq:Bool) (x y:Opd)
 | un (op:UnOp) (x:Opd)
 | eqA (neg:Bool) (ks:List Nat) (x y:Opd)
 | convI (k:IntKind) (x:Opd)
 | convS (x:Opd)
 | fn (f:Nat) (caps:List Opd)
 | make (s b:Nat) (z:D) (l c:Opd)
 | slice (s:Nat) (x:Opd) (lo hi:Option Opd)
 | sliceS (x:Opd) (lo hi:Option Opd)
 | slice0 (x hi mx:Opd)
 | shift (off:Nat) (x:Opd)
 | part (g:Bool) (s off:Nat) (x:Opd)
 | iaS (s:Nat) (x i:Opd)
 | iaA (len s:Nat) (x i:Opd)
 | ixS (x i:Opd)
 | ixA (g:Bool) (s len:Nat) (x i:Opd)
 | nth (i:Nat) (x:Opd)
 | len (x:Opd)
 | lenS (x:Opd)
 | append (s b:Nat) (str flat:Bool) (x y:Opd)
 | min (x y:Opd)
 | max (x y:Opd)
 | call (f:Opd) (as:List Opd)
 | slice3 (s:Nat) (x lo hi mx:Opd)
 | clear (s:Nat) (z:D) (x:Opd)
 | stuck
 | buildT (s n:Nat) (xs:List Opd)
 | appT (s b:Nat) (flat:Bool) (x y:Opd)
 | asgT (s n:Nat) (x:Opd)
 | makeT (s b n:Nat) (z:D) (l c:Opd)
structure CO where
 dst:Option Nat
 guard:Option (Nat×Bool)
 op:COp
 tl:Bool
def JE (C:Orc) (M:Zg) (hp:Hp) (base:Nat) (as:List AV):AV→Option Zb
 | .clo g caps=>Jo C (M g) hp base g (as++caps)
 | _=>none
noncomputable def vop (C:Orc) (M:Zg) (sl:Sl) (hp:Hp) (base:Nat):COp→Option Zb
 | .move x=>Qe (evO sl x)
 | .assign s x=>Zar base s (evO sl x)
 | .pick c a b=>Zbl (evO sl a) (evO sl b) (evO sl c)
 | .alloc slc cs=>Zbm slc base cs
 | .box x=>ZpC base (evO sl x)
 | .build zs ps=>Zg4 zs (evP sl ps)
 | .buildSl s xs=>buildSl hp base s (evL sl xs)
 | .load g s a=>YA (Vj hp g s (evO sl a))
 | .store slc s a x=>Za2 (Ud hp slc s base (evO sl x).cells (evO sl a))
 | .nilCheck x=>WB (evO sl x)
 | .bin op eq x y=>Zet op eq (evO sl x) (evO sl y)
 | .un op x=>YA (vun op (evO sl x))
 | .eqA neg ks x y=>ZkJ neg ks (evO sl x) (evO sl y)
 | .convI k x=>convI k (evO sl x)
 | .convS x=>convS (evO sl x)
 | .fn f cs=>YA (cloV f (evL sl cs))
 | .make s b z l c=>bnd (idx (evO sl l)) fun l=>bnd (idx (evO sl c)) fun c=>ZjG base s b z l c
 | .slice s x lo hi=>YA (Yl hp s (evM sl lo) (evM sl hi) (evO sl x))
 | .sliceS x lo hi=>YA (sliceS (evM sl lo) (evM sl hi) (evO sl x))
 | .slice0 x hi mx=>YA (slice0 hp (evO sl x) (idx (evO sl hi)) (idx (evO sl mx)))
 | .shift off x=>YJ off (evO sl x)
 | .part g s off x=>YA (Zdo g s off (evO sl x))
 | .iaS s x i=>bnd (idx (evO sl i)) fun n=>Zcv hp s (evO sl x) n
 | .iaA len s x i=>bnd (idx (evO sl i)) fun n=>Zg6 (evO sl x) n len s
 | .ixS x i=>bnd (idx (evO sl i)) fun n=>Znj n (evO sl x)
 | .ixA g s len x i=>bnd (idx (evO sl i)) fun n=>ZpE g s len n (evO sl x)
 | .nth i x=>Zl4 i (evO sl x)
 | .len x=>bnd (Jz hp (evO sl x)) fun n=>Qe (.d (.int .i64 n))
 | .lenS x=>bnd (Zo2 (evO sl x)) fun n=>Qe (.d (.int .i64 n))
 | .append s b str flat x y=>Zl5 hp s b str flat base (evO sl x) (evO sl y)
 | .min x y=>Zfn (evO sl x) (evO sl y)
 | .max x y=>Zfo (evO sl x) (evO sl y)
 | .call f as=>JE C M hp base (evL sl as) (evO sl f)
 | .slice3 _ x lo hi mx=>YA (slice3 hp (evO sl x) (idx (evO sl lo)) (idx (evO sl hi)) (idx (evO sl mx)))
 | .clear s z x=>Za2 (Zan hp s z (evO sl x))
 | .stuck=>none
 | .buildT s n xs=>buildT hp base s n (evL sl xs)
 | .appT s b _ x y=>appT hp s b base (evO sl x) (evO sl y)
 | .asgT s n x=>asgT base s n (evO sl x)
 | .makeT s b n z l c=>bnd (idx (evO sl l)) fun l=>bnd (idx (evO sl c)) fun c=>makeT base s b n z l c
section
variable (P:Program)
def Q8 (t:TypeId):Option TypeId:=match P.underlying t with
 | some (.slice e)=>some e
 | _=>none
def WC (t:TypeId):Bool:=match P.underlying t with
 | some .string=>true
 | _=>false
def Zb1 (t:TypeId):Bool:=match P.underlying t with
 | some .bool=>true
 | _=>false
def ZpF (t:TypeId):Option IntKind:=match P.underlying t with
 | some (.int k)=>some k
 | _=>none
def ZcN (t:TypeId):Option (Nat×TypeId):=match P.underlying t with
 | some (.array n e)=>some (n,e)
 | _=>none
def JZ (t:TypeId):Option Bool:=match P.underlying t with
 | some (.struct _)=>some true
 | some (.array _ _)=>some true
 | some _=>some false
 | none=>none
def Zas (s:TypeId) (f:Nat):Option (Nat×TypeId):=match P.underlying s with
 | some (.struct fs)=>match fs[f]? with
  | some x=>if P.cellsOf x.type=0 then none else some (x.offset,x.type)
  | none=>none
 | _=>none
def W2 (t:TypeId):Option Value:=match P.info? t with
 | some i=>i.zero
 | none=>none
def Zow:Nat→TypeId→List TypeId
 | 0,t=>[t]
 | n+1,t=>match P.underlying t with
  | some (.struct fs)=>fs.toList.flatMap fun f=>Zow n f.type
  | some (.array k e)=>(List.replicate k (Zow n e)).flatten
  | _=>[t]
def slcT (t:TypeId):List (Option Nat):=(Zow P 4 t).map fun c=>(Q8 P c).map P.cellsOf
def flatE (t:TypeId):Bool:=(Zow P 4 t).all fun c=>match P.underlying c with
 | some (.int _)=>true
 | some .bool=>true
 | some .string=>true
 | _=>false
def UR:Nat→TypeId→Nat→Option (List (Nat×Nat))
 | 0,_,_=>none
 | n+1,t,off=>match P.underlying t with
  | some (.int _)=>if P.cellsOf t=1 then some [(off,0)] else none
  | some .bool=>if P.cellsOf t=1 then some [(off,1)] else none
  | some .string=>if P.cellsOf t=1 then some [(off,2)] else none
  | some (.struct fs)=>if P.stoodInHeld t then none else
    bnd (Qb (fun f:Field=>if f.name = "_"∨P.cellsOf t<f.offset+P.cellsOf f.type then none else UR n f.type (off+f.offset)) fs.toList) fun ls=>some ls.flatten
  | _=>none
def QW (t:TypeId):Bool:=match P.underlying t with
 | some (.struct _)=>true
 | _=>false
def Zl6 (t:TypeId):Option (List Nat):=bnd (UR P 5 t 0) fun ls=>
 if ls.map (·.1)=List.range (P.cellsOf t)∧QW P t=true∧P.eqGuardType P.depth t=false then some (ls.map (·.2)) else none
def Zl7 (neg:Bool) (op:BinOp) (t:TypeId) (x y:Opd):Option (List Nat)→COp
 | some ks=>.eqA neg ks x y
 | none=>.bin op (Zb1 P t) x y
def Znk (op:BinOp) (t:TypeId) (x y:Opd):COp:=match op with
 | .eql=>Zl7 P false .eql t x y (Zl6 P t)
 | .neq=>Zl7 P true .neq t x y (Zl6 P t)
 | op=>.bin op (Zb1 P t) x y
end
section
variable (P:Program)
def ZJ:Operand→Option Opd
 | .tmp t=>some (.t t)
 | .const v=>some (.v (evC v))
 | .global _=>none
 | .func f=>some (.f f)
def Zl8 (pl:Nat→Option (Nat×Nat)) (q:Nat×Operand):Option (Nat×Nat×Opd):=bnd (pl q.1) fun p=>bnd (ZJ q.2) fun x=>some (p.1,p.2,x)
def cOO:Option Operand→Option (Option Opd)
 | none=>some none
 | some x=>bnd (ZJ x) fun y=>some (some y)
def Zat (t:TypeId):Option (Nat×TypeId)→Nat→Option (Nat×Nat)
 | none,i=>bnd (Zas P t i) fun q=>some (q.1,P.cellsOf q.2)
 | some a,i=>some (i*P.cellsOf a.2,P.cellsOf a.2)
def Ve (t:TypeId):Bool:=match P.info? t with
 | some i=>(match i.zero with
  | some z=>z.cells.size==i.size&&decide (0<i.size)
  | none=>false)
 | none=>false
def Zdq (t:TypeId):Bool:=match P.underlying t with
 | some (.struct fs)=>fs.toList.all fun f=>(P.info? f.type).isSome
 | some (.array _ e)=>(P.info? e).isSome
 | _=>false
def Zfp (e:TypeId) (u:TypeId):Option Bool:=match Q8 P u with
 | some e'=>if e'=e then some false else none
 | none=>if WC P u then some true else none
def Zg7 (x i:Opd) (a:Option (Nat×TypeId)):Option TypeId→Option COp
 | some e=>if (P.info? e).isSome then some (.iaS (P.cellsOf e) x i) else none
 | none=>bnd a fun a=>if (P.info? a.2).isSome then some (.iaA a.1 (P.cellsOf a.2) x i) else none
def ZkK (x i:Opd) (str:Bool) (a:Option (Nat×TypeId)):Option COp:=
 if str then some (.ixS x i) else bnd a fun a=>bnd (JZ P a.2) fun g=>some (.ixA g (P.cellsOf a.2) a.1 x i)
def Zox (x:Opd) (ss sd:Bool):Option IntKind→Option IntKind→Option COp
 | some _,some k=>some (.convI k x)
 | _,_=>if ss&&sd then some (.convS x) else none
def cLen (x:Opd) (str:Bool):Option TypeId→Option COp
 | some _=>some (.len x)
 | none=>if str then some (.lenS x) else none
def Znl (x:Opd) (lo hi:Option Opd) (str:Bool):Option TypeId→Option COp
 | some e=>if (P.info? e).isSome then some (.slice (P.cellsOf e) x lo hi) else none
 | none=>if str then some (.sliceS x lo hi) else none
def US:Builtin→List Operand→List TypeId→Option COp
 | .len,[x],[t]=>bnd (ZJ x) fun x=>cLen x (WC P t) (Q8 P t)
 | .append,[s,x],[t,u]=>bnd (Q8 P t) fun e=>bnd (Zfp P e u) fun str=>bnd (ZJ s) fun s=>bnd (ZJ x) fun x=>
   if Ve P e then some (.append (P.cellsOf e) (P.bytesOf e) str (flatE P e) s x) else none
 | .min,[x,y],_=>bnd (ZJ x) fun x=>bnd (ZJ y) fun y=>some (.min x y)
 | .max,[x,y],_=>bnd (ZJ x) fun x=>bnd (ZJ y) fun y=>some (.max x y)
 | .clear,[x],[t]=>bnd (Q8 P t) fun e=>bnd (ZJ x) fun x=>bnd (W2 P e) fun z=>bnd (evD z) fun z=>if Ve P e then some (.clear (P.cellsOf e) z x) else none
 | _,_,_=>none
def teOf (t:TypeId):Nat:=match bnd (Zas P t 1) fun q=>Q8 P q.2 with
 | some e=>e
 | none=>0
def cOp (ty:TypeId):Op→Option COp
 | .move x=>bnd (ZJ x) fun x=>some (.move x)
 | .assign x=>bnd (ZJ x) fun x=>some (.assign (bnd (Q8 P ty) fun e=>some (P.cellsOf e)) x)
 | .pick c a b=>bnd (ZJ c) fun c=>bnd (ZJ a) fun a=>bnd (ZJ b) fun b=>some (.pick c a b)
 | .alloc t=>bnd (W2 P t) fun z=>some (.alloc (slcT P t) (bnT t (teOf P t) (evC z).cells))
 | .box _ x=>bnd (ZJ x) fun x=>some (.box x)
 | .build t ps=>bnd (W2 P t) fun z=>bnd (Qb (Zl8 (Zat P t (ZcN P t))) ps.toList) fun qs=>if Zdq P t then some (.build (evC z).cells qs) else none
 | .buildSlice t n ps=>bnd (Q8 P t) fun e=>bnd (Qb (fun q:Nat×Operand=>ZJ q.2) ps.toList) fun xs=>
   if ps.toList.map (·.1)=List.range n∧n*P.cellsOf e≤16777216∧Ve P e then some (.buildSl (P.cellsOf e) xs) else none
 | .load t a=>bnd (JZ P t) fun g=>bnd (ZJ a) fun a=>some (.load g (P.cellsOf t) a)
 | .store t a x=>bnd (ZJ a) fun a=>bnd (ZJ x) fun x=>if (P.info? t).isSome then some (.store (slcT P t) (P.cellsOf t) a x) else none
 | .nilCheck x=>bnd (ZJ x) fun x=>some (.nilCheck x)
 | .binOp op t x y _=>bnd (ZJ x) fun x=>bnd (ZJ y) fun y=>some (Znk P op t x y)
 | .unOp op _ x=>bnd (ZJ x) fun x=>some (.un op x)
 | .convert s d x=>bnd (ZJ x) fun x=>Zox x (WC P s) (WC P d) (ZpF P s) (ZpF P d)
 | .makeFunc (.func f) fs cs=>if fs.toList.isEmpty then bnd (Qb ZJ cs.toList) fun cs=>some (.fn f cs) else none
 | .makeSlice t l c=>bnd (Q8 P t) fun e=>bnd (ZJ l) fun l=>bnd (ZJ c) fun c=>bnd (W2 P e) fun z=>bnd (evD z) fun z=>if Ve P e then some (.make (P.cellsOf e) (P.bytesOf e) z l c) else none
 | .slice t x lo hi none=>bnd (ZJ x) fun x=>bnd (cOO lo) fun lo=>bnd (cOO hi) fun hi=>Znl P x lo hi (WC P t) (Q8 P t)
 | .slice t x none (some hi) (some mx)=>bnd (Q8 P t) fun e=>if (P.info? e).isSome then bnd (ZJ x) fun x=>bnd (ZJ hi) fun hi=>bnd (ZJ mx) fun mx=>some (.slice0 x hi mx) else none
 | .slice t x (some lo) (some hi) (some mx)=>bnd (Q8 P t) fun e=>if (P.info? e).isSome then bnd (ZJ x) fun x=>bnd (ZJ lo) fun lo=>bnd (ZJ hi) fun hi=>bnd (ZJ mx) fun mx=>some (.slice3 (P.cellsOf e) x lo hi mx) else none
 | .fieldAddr s x f=>bnd (Zas P s f) fun q=>bnd (ZJ x) fun x=>some (.shift q.1 x)
 | .field t x f=>bnd (Zas P t f) fun q=>bnd (JZ P q.2) fun g=>bnd (ZJ x) fun x=>some (.part g (P.cellsOf q.2) q.1 x)
 | .indexAddr t x i=>bnd (ZJ x) fun x=>bnd (ZJ i) fun i=>Zg7 P x i (ZcN P t) (Q8 P t)
 | .index t x i=>bnd (ZJ x) fun x=>bnd (ZJ i) fun i=>ZkK P x i (WC P t) (ZcN P t)
 | .extract x i=>bnd (ZJ x) fun x=>some (.nth i x)
 | .call { callee:=.builtin b,args:=as,argTypes:=ts }=>US P b as.toList ts.toList
 | .call { callee:=.value f,args:=as,argTypes:=_ }=>bnd (ZJ f) fun f=>bnd (Qb ZJ as.toList) fun as=>some (.call f as)
 | _=>none
def Zg8 (ops:List Oper):Option (Nat×Bool)→Option (Option (Nat×Bool))
 | none=>some none
 | some q=>bnd ops[q.1]? fun g=>bnd g.dst fun t=>some (some (t,q.2))
def Qm (nt:Nat):Option Nat→Bool
 | none=>true
 | some t=>decide (t<nt)
def Yv (ops:Array Oper) (i:Nat):List Nat:=match ops[i]? with
 | some o=>(o.after.toList.filter fun e=>Region.binds .any e).map fun e=>e.on
 | none=>[]
def Zbn (ops:Array Oper):Nat→Nat→Nat→Bool
 | 0,i,j=>(Yv ops i).contains j
 | n+1,i,j=>(Yv ops i).contains j || (Yv ops i).any fun z=>Zbn ops n z j
def startO:Op→Bool
 | .call { callee:=.builtin .append,args:=_,argTypes:=_ }=>true
 | .buildSlice _ _ _=>true
 | _=>false
def callO:Op→Bool
 | .call { callee:=.value (.func _),args:=_,argTypes:=_ }=>true
 | _=>false
def cloO:Op→Bool
 | .call { callee:=.value (.tmp _),args:=_,argTypes:=_ }=>true
 | _=>false
def ZqE:Op→Bool
 | .move _=>true
 | _=>false
def aheadO:Op→Bool
 | .store _ _ _=>false
 | .box _ _=>false
 | .assign _=>false
 | .makeFunc _ _ _=>false
 | .makeSlice _ _ _=>false
 | .call { callee:=.builtin .append,args:=_,argTypes:=_ }=>false
 | .call { callee:=.value _,args:=_,argTypes:=_ }=>false
 | _=>true
def Zr1:Op→Bool
 | .move _=>true
 | .alloc _=>true
 | .buildSlice _ _ _=>true
 | .load _ _=>true
 | .nilCheck _=>true
 | .binOp _ _ _ _ _=>true
 | .unOp _ _ _=>true
 | .convert _ _ _=>true
 | .fieldAddr _ _ _=>true
 | .indexAddr _ _ _=>true
 | .slice _ _ _ _ _=>true
 | .call { callee:=.builtin .len,args:=_,argTypes:=_ }=>true
 | _=>false
def appO:Op→Bool
 | .call { callee:=.builtin .append,args:=_,argTypes:=_ }=>true
 | _=>false
def lookO:Op→Bool
 | .move _=>true
 | .load _ _=>true
 | .nilCheck _=>true
 | .binOp _ _ _ _ _=>true
 | .convert _ _ _=>true
 | .fieldAddr _ _ _=>true
 | .field _ _ _=>true
 | .extract _ _=>true
 | .indexAddr _ _ _=>true
 | .slice _ _ _ _ _=>true
 | .call { callee:=.builtin .len,args:=_,argTypes:=_ }=>true
 | _=>false
def atO (f:Op→Bool) (ops:List Oper) (k:Nat):Bool:=match ops[k]? with
 | some o=>f o.op
 | none=>false
def firmAt (ops:List Oper) (i:Nat):Bool:=
 (List.range ops.length).all fun k=>if k<i then Zbn ops.toArray 6 i k || atO ZqE ops k else k==i || Zbn ops.toArray 6 k i || atO ZqE ops k
def firmP (ops:List Oper) (i:Nat):Bool:=
 (List.range ops.length).all fun k=>if k<i then Zbn ops.toArray 6 i k || atO lookO ops k else k==i || Zbn ops.toArray 6 k i || atO ZqE ops k
def firmC (ops:List Oper) (i:Nat):Bool:=
 (List.range ops.length).all fun k=>if k<i then Zbn ops.toArray 6 i k || atO aheadO ops k else k==i || Zbn ops.toArray 6 k i || atO Zr1 ops k
def firmX (ops:List Oper) (i:Nat):Bool:=
 (List.range ops.length).all fun k=>k==i || if k<i then Zbn ops.toArray 6 i k else Zbn ops.toArray 6 k i
def Zdr (ops:List Oper) (o:Oper):Nat:=ops.findIdx fun x=>x.dst==o.dst
def firm (ops:List Oper) (o:Oper):Bool:=(startO o.op&&firmAt ops (Zdr ops o)) || (callO o.op&&firmC ops (Zdr ops o)) || (appO o.op&&firmP ops (Zdr ops o)) || (cloO o.op&&firmX ops (Zdr ops o))
def Yw:Option COp→COp
 | some c=>c
 | none=>.stuck
def Zfq (nt:Nat) (ops:List Oper) (o:Oper):Option CO:=bnd (Zg8 ops o.guard) fun g=>
 if Qm nt o.dst then some { dst:=o.dst,guard:=g,op:=Yw (cOp P o.type o.op),tl:=firm ops o } else none
end
end Go.Abs
