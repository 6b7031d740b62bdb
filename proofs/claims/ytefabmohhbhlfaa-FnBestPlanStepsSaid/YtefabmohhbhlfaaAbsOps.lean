/- Own text. -/
import Derived.Test.YtefabmohhbhlfaaAbsBase
set_option linter.unusedVariables false
set_option linter.unusedSimpArgs false
namespace Go.Abs
open Go
def mat:List (Option Nat)→List AV→Nat→List AV×Hp
 | some s :: ts,.nil :: vs,b=>let r:=mat ts vs (b+1);(.own b :: r.1,(b,.row s [] true false) :: r.2)
 | _ :: ts,v :: vs,b=>let r:=mat ts vs b;(v :: r.1,r.2)
 | _,vs,_=>(vs,[])
def ZaG:List AV→Bool
 | []=>false
 | .nil :: _=>true
 | _ :: r=>ZaG r
structure Eff where
 val:AV
 adds:Hp:=[]
 sets:Hp:=[]
 dels:List Nat:=[]
 frz:List Nat:=[]
def Zd:Hp→Hp→Hp
 | hp,[]=>hp
 | hp,(k,o) :: r=>Zd (ins hp k o) r
def del:Hp→Nat→Hp
 | [],_=>[]
 | (k,o) :: r,t=>if k=t then del r t else (k,o) :: del r t
def ZU:Hp→List Nat→Hp
 | hp,[]=>hp
 | hp,k :: r=>ZU (del hp k) r
def Z8 (ids:List Nat) (hp:Hp):Hp:=match ids with
 | []=>hp
 | _=>freeze ids hp
def Eff.on (e:Eff) (hp:Hp):Hp:=Zd (Zd (ZU (Z8 e.frz hp) e.dels) e.sets) e.adds
def Zrv:List AV→Nat→List AV→List AV
 | cs,_,[]=>cs
 | cs,off,v :: r=>Zrv (cs.set off v) (off+1) r
def ZgY:List AV→List (Nat×Nat×AV)→Option (List AV)
 | cells,[]=>some cells
 | cells,q :: r=>if q.2.2.solid∧q.2.2.cells.length=q.2.1∧q.1+q.2.1≤cells.length then ZgY (Zrv cells q.1 q.2.2.cells) r else none
def AV.atom:AV→Bool
 | .d x=>x.one
 | .agg _=>false
 | .tup _=>false
 | .clo _ _=>false
 | _=>true
def Zdg:List AV→Bool
 | []=>true
 | v :: r=>v.atom&&Zdg r
def cloV (f:Nat) (cs:List AV):Option AV:=if Zdg cs then some (.clo f cs) else none
def Ze8:AV→AV
 | .bbuf _ _=>.junk
 | v=>v
def UF (agg:Bool) (s off:Nat):Option Zg→Option AV
 | some (.box cs)=>if agg then (if off+s≤cs.length then some (WO ((cs.drop off).take s)) else none) else (cs[off]?).map Ze8
 | _=>none
def JM (agg:Bool) (s off:Nat) (cs:List D):Option AV:=
 if agg then (if off+s≤cs.length then some (.d (.agg ((cs.drop off).take s))) else none) else asD cs[off]?
def Ze9 (agg:Bool) (s sz off:Nat) (x:D):Option AV:=if x.cells.length=sz then JM agg s off x.cells else none
def ZgZ (i off:Nat):Option (Option Nat×Nat×Nat)→Option AV
 | some (some nm,i',c)=>if i=i'∧off=c then some (.own nm) else none
 | _=>none
def WV (i off:Nat) (lk:Option (Option Nat×Nat×Nat)) (x:D):Option AV:=match x.cells[off]? with
 | some (.sl _)=>ZgZ i off lk
 | some y=>if y.plain then some (.d y) else none
 | none=>none
def WW (id:Nat) (agg:Bool) (s sz i off:Nat):Option Zg→Option AV
 | some (.row sz' xs _ _)=>if sz=sz' then bnd xs[i]? (Ze9 agg s sz off) else none
 | some (.tree sz' _ xs lk)=>if sz=sz' then (if agg then none else bnd xs[i]? (WV i off lk)) else none
 | _=>none
def Wa (hp:Hp) (agg:Bool) (s:Nat):AV→Option AV
 | .ptr id off=>UF agg s off (lkp hp id)
 | .prow id sz i off=>WW id agg s sz i off (lkp hp id)
 | .pim cs=>JM agg s 0 cs
 | _=>none
def Zmv:AV→Option D
 | .d x=>if x.plain then some x else none
 | _=>none
def ZnR:List AV→Option (List D)
 | []=>some []
 | v :: r=>bnd (Zmv v) fun x=>bnd (ZnR r) fun ds=>some (x :: ds)
def Zcx (slc:List (Option Nat)) (s base id off:Nat) (vs:List AV):Option Zg→Option Eff
 | some (.box cs)=>if vs.length=s∧off+s≤cs.length∧QI vs∧QP cs=true then
    (if ZaG vs then some { val := .junk, adds := (mat slc vs base).2, sets := [(id, .box (Zm cs off (mat slc vs base).1))] }
      else some { val:=.junk,sets:=[(id,.box (Zm cs off vs))] })
   else none
 | _=>none
def D.notSl:D→Bool
 | .sl _=>false
 | _=>true
def Zdh (s id sz i off:Nat) (xs:List D) (ex:Bool) (x:D) (q:List D×Bool×List Nat):Option Eff:=
 if x.notSl∧x.cells.length=sz∧q.1.length=s∧off+s≤sz∧q.2.2.contains id=false then
  some { val:=.junk,sets:=[(id,.row sz (xs.set i (YT x off q.1)) (ex&&q.2.1) false)],frz:=q.2.2 } else none
def Zdi (n id:Nat):Option Zg→Option (D×List Nat)
 | some (.row sz xs true false)=>if sz=n∧Ul D.flat xs then some (.sl xs,[id]) else none
 | some (.tree sz n' xs none)=>if sz=n∧n'=n then some (.sl xs,[id]) else none
 | _=>none
def Zcy (hp:Hp) (n:Nat):AV→Option (D×List Nat)
 | .d x=>if x.plain then some (x,[]) else none
 | .nil=>some (.sl [],[])
 | .own id=>Zdi n id (lkp hp id)
 | _=>none
def YW (hp:Hp) (n:Nat):List AV→Option (List D×List Nat)
 | []=>some ([],[])
 | v :: r=>bnd (Zcy hp n v) fun q=>bnd (YW hp n r) fun p=>if !q.2.any p.2.contains then some (q.1 :: p.1,q.2++p.2) else none
def D.isAgg:D→Bool
 | .agg _=>true
 | _=>false
def WX (i off s:Nat):Option (Option Nat×Nat×Nat)→Option (Option Nat×Nat×Nat)
 | some (nm,i',c)=>if i=i'∧off≤c∧c<off+s then none else some (nm,i',c)
 | none=>none
def Zdj (s id sz n i off:Nat) (xs:List D) (lk:Option (Option Nat×Nat×Nat)) (x:D) (q:List D×List Nat):Option Eff:=
 if x.isAgg∧x.cells.length=sz∧q.1.length=s∧off+s≤sz∧q.2.contains id=false then
  some { val:=.junk,sets:=[(id,.tree sz n (xs.set i (YT x off q.1)) (WX i off s lk))],dels:=q.2 } else none
def JN (hp:Hp) (s id sz i off:Nat) (vs:List AV):Option Zg→Option Eff
 | some (.row sz' xs ex false)=>if sz=sz' then bnd xs[i]? fun x=>bnd (YS hp vs) fun q=>Zdh s id sz i off xs ex x q else none
 | some (.tree sz' n xs lk)=>if sz=sz' then bnd xs[i]? fun x=>bnd (YW hp n vs) fun q=>Zdj s id sz n i off xs lk x q else none
 | _=>none
def U0 (hp:Hp) (slc:List (Option Nat)) (s base:Nat) (vs:List AV):AV→Option Eff
 | .ptr id off=>Zcx slc s base id off vs (lkp hp id)
 | .prow id sz i off=>JN hp s id sz i off vs (lkp hp id)
 | _=>none
def uni (s:Nat) (ys:List D):Prop:=∀ y∈ys,y.cells.length=s
def Zy:Nat:=140737488355328
def QD (ys:List D):Prop:=∀ y∈ys,y.flat=true
def Zmw (flat:Bool):Option Zg→Option (List D×Bool)
 | some (.row _ ys ex _)=>some (ys,ex || flat)
 | _=>none
def Zjm:AV→Option (List D×Bool)
 | .d (.str s)=>some (s.map fun b=>.int .u8 b.toNat,true)
 | _=>none
def ZhH (flat:Bool) (off n:Nat):Option Zg→Option (List D×Bool)
 | some (.row _ ys ex _)=>some ((ys.drop off).take n,ex || flat)
 | _=>none
def Zcz (hp:Hp) (flat:Bool):AV→Option (List D×Bool)
 | .nil=>some ([],true)
 | .d (.sl ys)=>some (ys,flat)
 | .own id=>Zmw flat (lkp hp id)
 | .ownv id off n=>ZhH flat off n (lkp hp id)
 | _=>none
def Zjn (sz base:Nat) (dels:List Nat) (xs:List D) (ex:Bool):Eff:=
 { val:=.own base,adds:=[(base,.row sz xs ex false)],dels:=dels }
def Zjo (sz by_ base id:Nat) (ys:List D) (ex' : Bool):Option Zg→Option Eff
 | some (.row sz' xs ex false)=>if sz'=sz∧(xs.length+ys.length)*by_≤Zy∧xs.length+ys.length≤Zy then some (Zjn sz base [id] (xs++ys) (ex&&ex')) else none
 | _=>none
def Zfa (sz by_ base id n:Nat) (ys:List D) (ex' : Bool):Option Zg→Option Eff
 | some (.row sz' xs ex false)=>if sz'=sz∧(n+ys.length)*by_≤Zy∧n+ys.length≤Zy then some (Zjn sz base [id] (xs.take n++ys) (ex&&ex')) else none
 | _=>none
def Zfb (sz base id n:Nat) (ys:List D) (ex' : Bool):Option Zg→Option Eff
 | some (.row sz' xs ex false)=>if sz'=sz∧0<xs.length∧n+ys.length≤xs.length then
   some { val:=.ownv base 0 (n+ys.length),adds:=[(base,.row sz (xs.take n++ys++xs.drop (n+ys.length)) (ex&&ex') false)],dels:=[id] } else none
 | _=>none
def Zfc (sz by_ base id off n:Nat) (ys:List D):Option Zg→Option Eff
 | some (.row sz' xs _ false)=>if sz'=sz∧(n+ys.length)*by_≤Zy∧n+ys.length≤Zy then some (Zjn sz base [id] ((xs.drop off).take n++ys) false) else none
 | _=>none
def ZdV (hp:Hp) (sz by_:Nat) (base:Nat) (src:List Nat) (ys:List D) (ex' : Bool):AV→Option Eff
 | .nil=>if ys.length*by_≤Zy∧ys.length≤Zy then some (Zjn sz base [] ys ex') else none
 | .own id=>if src.contains id then none else Zjo sz by_ base id ys ex' (lkp hp id)
 | .ownv id off n=>if off≠0 then (if src.contains id then none else Zfc sz by_ base id off n ys (lkp hp id)) else if src.contains id then Zfb sz base id n ys ex' (lkp hp id) else Zfa sz by_ base id n ys ex' (lkp hp id)
 | _=>none
open Classical in
noncomputable def WY (hp:Hp) (sz by_:Nat) (str flat:Bool) (base:Nat) (s x:AV):Option Eff:=
 bnd (if str then Zjm x else Zcz hp flat x) fun q=>if uni sz q.1∧(flat=true→QD q.1) then ZdV hp sz by_ base (Zac x) q.1 q.2 s else none
def idx (i:AV):Option Int:=match i with
 | .d (.int _ n)=>some n
 | _=>none
def Zqi (sz:Nat) (y:D):Option AV:=if y.cells.length=sz then some (.pim y.cells) else none
def Zai (sz id n:Nat):Option Zg→Option AV
 | some (.row sz' xs _ _)=>if sz'=sz∧n<xs.length then some (.prow id sz n 0) else none
 | some (.tree sz' _ xs _)=>if sz'=sz∧n<xs.length then some (.prow id sz n 0) else none
 | _=>none
def JO (sz id off m n:Nat):Option Zg→Option AV
 | some (.row sz' _ _ _)=>if sz'=sz∧n<m then some (.prow id sz (off+n) 0) else none
 | _=>none
def Qk (hp:Hp) (sz n:Nat):AV→Option AV
 | .d (.sl xs)=>bnd xs[n]? (Zqi sz)
 | .own id=>Zai sz id n (lkp hp id)
 | .ownv id off m=>JO sz id off m n (lkp hp id)
 | _=>none
def bd (m:Nat) (v:AV):Option Nat:=bnd (idx v) fun n=>if 0≤n∧n≤m then some n.toNat else none
def hiOf (len:Nat):Option AV→Option Nat
 | none=>some len
 | some v=>bd len v
def loOf (h:Nat):Option AV→Option Nat
 | none=>some 0
 | some v=>bd h v
def Zmx (len:Nat) (lo hi:Option AV):Option (Nat×Nat):=bnd (hiOf len hi) fun h=>bnd (loOf h lo) fun l=>some (l,h)
def ZnS (id n:Nat):Option AV→Option AV→Option AV
 | none,none=>some (.own id)
 | lo,hi=>bnd (Zmx n lo hi) fun b=>some (.ownv id b.1 (b.2-b.1))
def JP (s id:Nat) (lo hi:Option AV):Option Zg→Option AV
 | some (.row sz xs _ _)=>if sz=s then ZnS id xs.length lo hi else none
 | _=>none
def ZsM (n m:Nat) (lo:Option AV):Option AV→Option (Nat×Nat)
 | none=>Zmx n lo none
 | some h=>Zmx m lo (some h)
def Up (s id off n:Nat) (lo hi:Option AV):Option Zg→Option AV
 | some (.row sz xs _ _)=>if sz=s then bnd (ZsM n (xs.length-off) lo hi) fun b=>some (.ownv id (off+b.1) (b.2-b.1)) else none
 | _=>none
def slice3 (hp:Hp) (x:AV) (lo hi mx:Option Int):Option AV:=bnd lo fun l=>bnd hi fun h=>bnd mx fun m=>bnd (ZaE hp x) fun n=>
 if 0≤l∧l≤h∧h≤m∧m≤n then some .junk else none
def Zfd (s id off n:Nat) (z:D):Option Zg→Option Eff
 | some (.row sz xs ex false)=>if sz=s∧z.cells.length=s∧off+n≤xs.length then some { val:=.tup [],sets:=[(id,.row sz (xs.take off++List.replicate n z++xs.drop (off+n)) ex false)] } else none
 | _=>none
def ZbE (hp:Hp) (s:Nat) (z:D):AV→Option Eff
 | .ownv id off n=>Zfd s id off n z (lkp hp id)
 | _=>none
open Classical in
noncomputable def YP (hp:Hp) (s:Nat) (lo hi:Option AV):AV→Option AV
 | .d (.sl xs)=>if uni s xs then bnd (Zmx xs.length lo hi) fun b=>some (.d (.sl ((xs.take b.2).drop b.1))) else none
 | .nil=>bnd (Zmx 0 lo hi) fun _=>some .nil
 | .own id=>JP s id lo hi (lkp hp id)
 | .ownv id off n=>Up s id off n lo hi (lkp hp id)
 | _=>none
def sliceS (lo hi:Option AV):AV→Option AV
 | .d (.str s)=>bnd (Zmx s.length lo hi) fun b=>some (.d (.str ((s.take b.2).drop b.1)))
 | _=>none
def slice0 (hp:Hp) (x:AV) (hi mx:Option Int):Option AV:=match hi,mx with
 | some 0,some 0=>bnd (ZaE hp x) fun _=>some .nil
 | _,_=>none
def Zfe (agg:Bool) (s off:Nat):AV→Option AV
 | .d (.agg cs)=>JM agg s off cs
 | .agg cs=>if agg then (if off+s≤cs.length then some (WO ((cs.drop off).take s)) else none) else cs[off]?
 | _=>none
abbrev Orc:=Nat→List AV→List Zg→Option (AV×List Zg)
abbrev Zf:=Nat→Nat→Bool
def ZbF (hp:Hp) (id:Nat):Bool→Option AV
 | true=>some (.own id)
 | false=>asD (Zdw hp (.own id))
def ZcA:Bool→Option AV
 | true=>some .nil
 | false=>some (.d (.sl []))
def ZbG (hp:Hp) (cs:List AV):Bool→Option AV
 | true=>if ZaD cs then none else some (.agg cs)
 | false=>asD (toD hp (.agg cs))
def J8 (hp:Hp) (m:Bool):AV→Option AV
 | .ptr a b=>some (.ptr a b)
 | .clo f c=>some (.clo f c)
 | .nilp=>some .nilp
 | .nili=>some .nili
 | .pim c=>some (.pim c)
 | .own id=>ZbF hp id m
 | .nil=>ZcA m
 | .d x=>some (.d x)
 | .agg cs=>ZbG hp cs m
 | v=>asD (toD hp v)
def args (hp:Hp) (m:Nat→Bool):Nat→List AV→Option (List AV)
 | _,[]=>some []
 | i,v :: r=>bnd (J8 hp (m i) v) fun a=>bnd (args hp m (i+1) r) fun as=>some (a :: as)
def WZ (hp:Hp) (go:List Nat→List Nat→List Nat) (id:Nat) (todo acc:List Nat):Option Zg→List Nat
 | some o=>go (todo++WP o) (acc++[id])
 | none=>go todo acc
def QF (hp:Hp):Nat→List Nat→List Nat→List Nat
 | 0,_,acc=>acc
 | _+1,[],acc=>acc
 | n+1,id :: todo,acc=>if acc.contains id then QF hp n todo acc else WZ hp (QF hp n) id todo acc (lkp hp id)
def YX:List Nat→Nat→Nat
 | [],_=>0
 | x :: r,t=>if x=t then 0 else YX r t+1
def ZnT:Option Zg→Zg
 | some o=>o
 | none=>.gone
def ZaH (hp:Hp):List Nat→List Zg
 | []=>[]
 | id :: r=>ZnT (lkp hp id) :: ZaH hp r
def UR (ids:List Nat) (o:Zg):Zg:=ZeQ (YX ids) (QU ((WP o).filter fun i=>!ids.contains i) o)
def ZcB:Option Zg→Bool
 | some (.row _ _ _ _)=>true
 | some (.tree _ _ _ _)=>true
 | some .gone=>true
 | _=>false
def JQ:AV→Bool
 | .d x=>x.flat
 | .pim _=>false
 | .agg _=>false
 | .tup _=>false
 | .clo _ _=>false
 | _=>true
def ZaI:AV→Bool
 | .agg cs=>cs.all JQ
 | .clo _ cs=>cs.all JQ
 | v=>JQ v
def Zlo:AV→Bool
 | .tup vs=>vs.all ZaI
 | v=>ZaI v
def ZcC:Zg→Bool
 | .box cs=>cs.all ZaI
 | .row _ _ ex fz=>ex&&!fz
 | .tree _ _ _ _=>true
 | .gone=>true
def Zeh (d:Nat):Option Nat→Nat
 | some i=>i
 | none=>d
def Vk (ids:List Nat) (base k:Nat):Nat:=Zeh (base+(k-ids.length)) ids[k]?
def JR (g:Nat→Nat):List Nat→List Zg→Hp
 | id :: ids,o :: os=>(id,ZeQ g o) :: JR g ids os
 | _,_=>[]
def JS (g:Nat→Nat):Nat→List Zg→Hp
 | _,[]=>[]
 | k,o :: os=>(k,ZeQ g o) :: JS g (k+1) os
structure Zb where
 eff:Eff
 gone:List Nat
def Xh (_hp:Hp):Nat:=1000
def XW:List AV→List AV→List Nat
 | v :: vs,.d _ :: as=>Zbv v++XW vs as
 | _ :: vs,_ :: as=>XW vs as
 | _,_=>[]
def JT:Option Zg→Bool
 | some (.tree _ _ _ _)=>true
 | _=>false
def Zf9:List Nat→List Zg→List Nat
 | id :: ids,.gone :: os=>id :: Zf9 ids os
 | _ :: ids,_ :: os=>Zf9 ids os
 | _,_=>[]
def Zga (hp:Hp) (ids:List Nat) (out:List Zg):Bool→List Nat
 | true=>Zf9 ids out
 | false=>ids.filter fun i=>ZcB (lkp hp i)
def US (keep:Bool) (hp:Hp) (base:Nat) (ids lent:List Nat) (r:AV) (out:List Zg):Option Zb:=
 if out.length<ids.length then none else if !(Zlo r&&out.all ZcC)&&lent.any fun i=>JT (lkp hp i) then none else
  some { eff := { val:=ren (Vk ids base) r,adds:=JS (Vk ids base) base (out.drop ids.length),sets:=JR (Vk ids base) ids out,frz:=if Zlo r&&out.all ZcC then [] else lent },gone:=Zga hp ids out keep }
def Ud:AV→List Nat
 | .ptr id _=>[id]
 | .clo _ cs=>cs.flatMap Ze
 | _=>[]
def Ji (hp:Hp) (rs ids:List Nat):Bool:=ids.all fun i=>ZcB (lkp hp i) || rs.contains i
def ZbH (C:Orc) (keep:Bool) (hp:Hp) (base f:Nat) (lent:List Nat) (as:List AV) (ids:List Nat):Option Zb:=
 if (as.flatMap Zo).all ids.contains∧¬lent.any ids.contains∧Ji hp (as.flatMap Ud) ids=true then
  bnd (C f (as.map (ren (YX ids))) ((ZaH hp ids).map (UR ids))) fun q=>US keep hp base ids lent q.1 q.2
 else none
def Zaj (C:Orc) (m:Nat→Bool) (hp:Hp) (base f:Nat) (avs:List AV):Option Zb:=
 bnd (args hp m 0 avs) fun as=>ZbH C (m 99) hp base f (XW avs as) as (QF hp (Xh hp) (as.flatMap Zo) [])
def Qf (v:AV):Option Zb:=some { eff := { val:=v },gone:=[] }
def Y3 (v:Option AV):Option Zb:=bnd v Qf
def Zb8 (e:Option Eff):Option Zb:=bnd e fun e=>some { eff:=e,gone:=[] }
def ZbI (base:Nat) (e:Option Nat):AV→Option Zb
 | .nil=>bnd e fun s=>some { eff := { val:=.own base,adds:=[(base,.row s [] true false)] },gone:=[] }
 | v=>Qf v
def ZcD (a b:AV):AV→Option Zb
 | .d (.bool t)=>if t then Qf a else Qf b
 | _=>none
def ZcE (base:Nat):AV→AV
 | .bnil _ e=>.bnil base e
 | v=>v
def bnT (t te:Nat):List AV→List AV
 | [.nilp,.nil]=>[.bnil 0 t,.bbuf te []]
 | cs=>cs
def ZsN:List AV→Bool
 | [.bnil _ _,.bbuf _ []]=>true
 | _=>false
def Zjp (slc:List (Option Nat)) (base:Nat) (cs:List AV):Option Zb:=
 if QP cs=false then (if ZsN cs=true then some { eff := { val:=.ptr base 0,adds:=[(base,.box cs)] },gone:=[] } else none) else
 if ZaG cs then some { eff := { val:=.ptr base 0,adds:=(base,.box (mat slc cs (base+1)).1) :: (mat slc cs (base+1)).2 },gone:=[] }
 else some { eff := { val:=.ptr base 0,adds:=[(base,.box cs)] },gone:=[] }
def ZcF (slc:List (Option Nat)) (base:Nat) (cs:List AV):Option Zb:=Zjp slc base (cs.map (ZcE base))
def Zrw (base:Nat) (x:AV):Option Zb:=if x.solid&&QP x.cells then some { eff := { val:=.ptr base 0,adds:=[(base,.box x.cells)] },gone:=[] } else none
def Zjq (zs:List AV) (ps:List (Nat×Nat×AV)):Option Zb:=bnd (ZgY zs ps) fun cs=>Qf (WO cs)
def rowV (base s:Nat) (q:List D×Bool×List Nat):Option Zb:=
 if q.1.all (fun d=>d.cells.length==s) then some { eff := { val:=.own base,adds:=[(base,.row s q.1 q.2.1 false)],frz:=q.2.2 },gone:=[] } else none
def buildSl (hp:Hp) (base s:Nat):List AV→Option Zb
 | []=>Qf .nil
 | v :: vs=>bnd (VG hp (v :: vs)) (rowV base s)
def Yn (hp:Hp) (n s:Nat):List AV→Option (List D×List Nat)
 | []=>some ([],[])
 | .agg cs :: r=>bnd (YW hp n cs) fun q=>bnd (Yn hp n s r) fun p=>
   if q.1.length=s∧(!q.2.any p.2.contains)=true then some (.agg q.1 :: p.1,q.2++p.2) else none
 | .own id :: r=>bnd (YW hp n [.own id]) fun q=>bnd (Yn hp n s r) fun p=>
   if q.1.length=s∧(!q.2.any p.2.contains)=true then some (.agg q.1 :: p.1,q.2++p.2) else none
 | _=>none
def asgT (base s n:Nat):AV→Option Zb
 | .nil=>some { eff := { val:=.own base,adds:=[(base,.tree s n [] none)] },gone:=[] }
 | _=>none
def buildT (hp:Hp) (base s n:Nat) (vs:List AV):Option Zb:=
 if vs.isEmpty=false then bnd (Yn hp n s vs) fun q=>some { eff := { val:=.own base,adds:=[(base,.tree s n q.1 none)],dels:=q.2 },gone:=[] } else none
def Uq:AV→Option Zb
 | .ptr a b=>Qf (.ptr a b)
 | .prow a b c d=>Qf (.prow a b c d)
 | .pim c=>Qf (.pim c)
 | .clo f c=>Qf (.clo f c)
 | _=>none
def Zei (op:BinOp) (eq:Bool):AV→AV→Option Zb
 | .d (.bool a),.d (.bool b)=>if eq then Y3 (ZkX op a b) else none
 | a,b=>Y3 (vbin op a b)
def Ub:List Nat→List D→List D→Option Bool
 | [],[],[]=>some true
 | 0 :: ks,.int k a :: cs,.int k' b :: ds=>if k=k' then bnd (Ub ks cs ds) fun r=>some (decide (a=b)&&r) else none
 | 1 :: ks,.bool a :: cs,.bool b :: ds=>bnd (Ub ks cs ds) fun r=>some (decide (a=b)&&r)
 | 2 :: ks,.str a :: cs,.str b :: ds=>bnd (Ub ks cs ds) fun r=>some (decide (a=b)&&r)
 | _,_,_=>none
def Zjr (neg:Bool) (r:Bool):Bool:=if neg then !r else r
def Zmy (neg:Bool) (ks:List Nat):AV→AV→Option Zb
 | .d (.agg cs),.d (.agg ds)=>bnd (Ub ks cs ds) fun r=>Qf (.d (.bool (Zjr neg r)))
 | _,_=>none
def convI (k:IntKind):AV→Option Zb
 | .d (.int _ n)=>Qf (.d (.int k (k.wrap n)))
 | _=>none
def convS:AV→Option Zb
 | .d (.str s)=>Qf (.d (.str s))
 | _=>none
def Zlp (base s b:Nat) (z:D) (l c:Int):Option Zb:=
 if 0≤l∧l≤c∧c*b≤Zy∧c≤Zy∧z.cells.length=s then
  some { eff := { val:=.own base,adds:=[(base,.row s (List.replicate l.toNat z) true false)] },gone:=[] } else none
def makeT (base s b ns:Nat) (z:D) (l c:Int):Option Zb:=
 if 0≤l∧l≤c∧c*b≤Zy∧c≤Zy∧z.cells.length=s∧z.isAgg=true then
  some { eff := { val:=.own base,adds:=[(base,.tree s ns (List.replicate l.toNat z) none)] },gone:=[] } else none
def Vl (off:Nat):AV→Option Zb
 | .ptr id o=>Qf (.ptr id (o+off))
 | .prow id sz i o=>Qf (.prow id sz i (o+off))
 | .pim cs=>Qf (.pim (cs.drop off))
 | _=>none
def Zjs (x:AV) (n:Int) (len s:Nat):Option Zb:=if 0≤n∧n<len then Vl (n.toNat*s) x else none
def ZdW (hp:Hp) (s:Nat) (x:AV) (n:Int):Option Zb:=if 0≤n then Y3 (Qk hp s n.toNat x) else none
def ZnU (s:List UInt8) (n:Int):Option Zb:=if 0≤n then bnd s[n.toNat]? fun b=>Qf (.d (.int .u8 b.toNat)) else none
def Zrx (g:Bool) (s len:Nat) (n:Int) (v:AV):Option Zb:=if 0≤n∧n<len then Y3 (Zfe g s (n.toNat*s) v) else none
def Zo7 (n:Int):AV→Option Zb
 | .d (.str s)=>ZnU s n
 | _=>none
def ZnV (i:Nat):AV→Option Zb
 | .tup vs=>Y3 vs[i]?
 | _=>none
def Zgb:Option Zg→Option (Nat×Nat×List D)
 | some (.tree s n xs none)=>some (s,n,xs)
 | _=>none
def Zak (hp:Hp):AV→Option (Nat×Nat×Nat×List D)
 | .own id=>bnd (Zgb (lkp hp id)) fun q=>some (id,q)
 | _=>none
def Jj (hp:Hp) (s b base id n:Nat) (ys:List D):AV→Option Eff
 | .nil=>if ys.length*b≤Zy∧ys.length≤Zy then some { val:=.own base,adds:=[(base,.tree s n ys none)],dels:=[id] } else none
 | .own id1=>bnd (Zgb (lkp hp id1)) fun q=>if q.1=s∧q.2.1=n∧id1≠id∧(q.2.2.length+ys.length)*b≤Zy∧q.2.2.length+ys.length≤Zy then
   some { val:=.own base,adds:=[(base,.tree s n (q.2.2++ys) none)],dels:=[id1,id] } else none
 | _=>none
def W0 (xs:List D) (i c:Nat):Option (List D):=bnd xs[i]? fun x=>match x.cells[c]? with
 | some (.sl ys)=>some ys
 | _=>none
def Xi (hp:Hp):AV→List Nat
 | .own id=>if JT (lkp hp id) then [id] else []
 | _=>[]
def Zff:Zg→Zg
 | .tree s _ xs none=>.row s xs true false
 | o=>o
def meltIn (hp:Hp):List Nat→Hp
 | []=>hp
 | i :: r=>match lkp hp i with
  | some o=>ins (meltIn hp r) i (Zff o)
  | none=>meltIn hp r
noncomputable def Yo (hp:Hp) (s b:Nat) (str flat:Bool) (base:Nat) (x y:AV):List Nat→Option Eff
 | []=>WY hp s b str flat base x y
 | i :: r=>if flat then none else bnd (WY (meltIn hp (i :: r)) s b str flat base x y) fun e=>some { val:=e.val,adds:=e.adds,sets:=e.sets,dels:=e.dels++(i :: r),frz:=e.frz }
def appT (hp:Hp) (s b base:Nat) (x y:AV):Option Zb:=Zb8 (bnd (Zak hp y) fun q=>if q.2.1=s then Jj hp s b base q.1 q.2.2.1 q.2.2.2 x else none)
noncomputable def ZaJ (hp:Hp) (s b:Nat) (str flat:Bool) (base:Nat) (x y:AV):List Nat→List Nat→Option Zb
 | [],m=>Zb8 (Yo hp s b str flat base x y m)
 | i :: r,[]=>Zb8 (Yo hp s b str flat base x y (i :: r))
 | _ :: _,_ :: _=>if flat || str then none else appT hp s b base x y
noncomputable def ZnW (hp:Hp) (s b:Nat) (str flat:Bool) (base:Nat) (x y:AV):Option Zb:=ZaJ hp s b str flat base x y (Xi hp x) (Xi hp y)
def Zg0:AV→AV→Option Zb
 | .d (.int k a),.d (.int k' b)=>if k=k' then Qf (.d (.int k (minI a b))) else none
 | _,_=>none
def Zg1:AV→AV→Option Zb
 | .d (.int k a),.d (.int k' b)=>if k=k' then Qf (.d (.int k (maxI a b))) else none
 | _,_=>none
inductive Opd where
 | t (n:Nat)
 | v (a:AV)
 | f (n:Nat)
def evO (sl:Sl):Opd→AV
 | .t n=>gs sl n
 | .v a=>a
 | .f n=>.clo n []
def evL (sl:Sl):List Opd→List AV
 | []=>[]
 | x :: r=>evO sl x :: evL sl r
def evP (sl:Sl):List (Nat×Nat×Opd)→List (Nat×Nat×AV)
 | []=>[]
 | (a,b,x) :: r=>(a,b,evO sl x) :: evP sl r
def evM (sl:Sl):Option Opd→Option AV
 | none=>none
 | some x=>some (evO sl x)
inductive COp where
 | move (x:Opd)
 | assign (s:Option Nat) (x:Opd)
 | pick (c a b:Opd)
 | alloc (slc:List (Option Nat)) (cs:List AV)
 | box (x:Opd)
 | build (zs:List AV) (ps:List (Nat×Nat×Opd))
 | buildSl (s:Nat) (xs:List Opd)
 | load (g:Bool) (s:Nat) (a:Opd)
 | store (slc:List (Option Nat)) (s:Nat) (a x:Opd)
 | nilCheck (x:Opd)
 | bin (op:BinOp) (eq:Bool) (x y:Opd)
 | un (op:UnOp) (x:Opd)
 | eqA (neg:Bool) (ks:List Nat) (x y:Opd)
 | convI (k:IntKind) (x:Opd)
 | convS (x:Opd)
 | fn (f:Nat) (caps:List Opd)
 | make (s b:Nat) (z:D) (l c:Opd)
 | slice (s:Nat) (x:Opd) (lo hi:Option Opd)
 | sliceS (x:Opd) (lo hi:Option Opd)
 | slice0 (x hi mx:Opd)
 | shift (off:Nat) (x:Opd)
 | part (g:Bool) (s off:Nat) (x:Opd)
 | iaS (s:Nat) (x i:Opd)
 | iaA (len s:Nat) (x i:Opd)
 | ixS (x i:Opd)
 | ixA (g:Bool) (s len:Nat) (x i:Opd)
 | nth (i:Nat) (x:Opd)
 | len (x:Opd)
 | lenS (x:Opd)
 | append (s b:Nat) (str flat:Bool) (x y:Opd)
 | min (x y:Opd)
 | max (x y:Opd)
 | call (f:Opd) (as:List Opd)
 | slice3 (s:Nat) (x lo hi mx:Opd)
 | clear (s:Nat) (z:D) (x:Opd)
 | stuck
 | buildT (s n:Nat) (xs:List Opd)
 | appT (s b:Nat) (flat:Bool) (x y:Opd)
 | asgT (s n:Nat) (x:Opd)
 | makeT (s b n:Nat) (z:D) (l c:Opd)
structure CO where
 dst:Option Nat
 guard:Option (Nat×Bool)
 op:COp
 tl:Bool
def ZaK (C:Orc) (M:Zf) (hp:Hp) (base:Nat) (as:List AV):AV→Option Zb
 | .clo g caps=>Zaj C (M g) hp base g (as++caps)
 | _=>none
noncomputable def vop (C:Orc) (M:Zf) (sl:Sl) (hp:Hp) (base:Nat):COp→Option Zb
 | .move x=>Qf (evO sl x)
 | .assign s x=>ZbI base s (evO sl x)
 | .pick c a b=>ZcD (evO sl a) (evO sl b) (evO sl c)
 | .alloc slc cs=>ZcF slc base cs
 | .box x=>Zrw base (evO sl x)
 | .build zs ps=>Zjq zs (evP sl ps)
 | .buildSl s xs=>buildSl hp base s (evL sl xs)
 | .load g s a=>Y3 (Wa hp g s (evO sl a))
 | .store slc s a x=>Zb8 (U0 hp slc s base (evO sl x).cells (evO sl a))
 | .nilCheck x=>Uq (evO sl x)
 | .bin op eq x y=>Zei op eq (evO sl x) (evO sl y)
 | .un op x=>Y3 (vun op (evO sl x))
 | .eqA neg ks x y=>Zmy neg ks (evO sl x) (evO sl y)
 | .convI k x=>convI k (evO sl x)
 | .convS x=>convS (evO sl x)
 | .fn f cs=>Y3 (cloV f (evL sl cs))
 | .make s b z l c=>bnd (idx (evO sl l)) fun l=>bnd (idx (evO sl c)) fun c=>Zlp base s b z l c
 | .slice s x lo hi=>Y3 (YP hp s (evM sl lo) (evM sl hi) (evO sl x))
 | .sliceS x lo hi=>Y3 (sliceS (evM sl lo) (evM sl hi) (evO sl x))
 | .slice0 x hi mx=>Y3 (slice0 hp (evO sl x) (idx (evO sl hi)) (idx (evO sl mx)))
 | .shift off x=>Vl off (evO sl x)
 | .part g s off x=>Y3 (Zfe g s off (evO sl x))
 | .iaS s x i=>bnd (idx (evO sl i)) fun n=>ZdW hp s (evO sl x) n
 | .iaA len s x i=>bnd (idx (evO sl i)) fun n=>Zjs (evO sl x) n len s
 | .ixS x i=>bnd (idx (evO sl i)) fun n=>Zo7 n (evO sl x)
 | .ixA g s len x i=>bnd (idx (evO sl i)) fun n=>Zrx g s len n (evO sl x)
 | .nth i x=>ZnV i (evO sl x)
 | .len x=>bnd (ZaE hp (evO sl x)) fun n=>Qf (.d (.int .i64 n))
 | .lenS x=>bnd (ZqU (evO sl x)) fun n=>Qf (.d (.int .i64 n))
 | .append s b str flat x y=>ZnW hp s b str flat base (evO sl x) (evO sl y)
 | .min x y=>Zg0 (evO sl x) (evO sl y)
 | .max x y=>Zg1 (evO sl x) (evO sl y)
 | .call f as=>ZaK C M hp base (evL sl as) (evO sl f)
 | .slice3 _ x lo hi mx=>Y3 (slice3 hp (evO sl x) (idx (evO sl lo)) (idx (evO sl hi)) (idx (evO sl mx)))
 | .clear s z x=>Zb8 (ZbE hp s z (evO sl x))
 | .stuck=>none
 | .buildT s n xs=>buildT hp base s n (evL sl xs)
 | .appT s b _ x y=>appT hp s b base (evO sl x) (evO sl y)
 | .asgT s n x=>asgT base s n (evO sl x)
 | .makeT s b n z l c=>bnd (idx (evO sl l)) fun l=>bnd (idx (evO sl c)) fun c=>makeT base s b n z l c
section
variable (P:Program)
def Xw (t:TypeId):Option TypeId:=match P.underlying t with
 | some (.slice e)=>some e
 | _=>none
def Ur (t:TypeId):Bool:=match P.underlying t with
 | some .string=>true
 | _=>false
def Zdk (t:TypeId):Bool:=match P.underlying t with
 | some .bool=>true
 | _=>false
def Zry (t:TypeId):Option IntKind:=match P.underlying t with
 | some (.int k)=>some k
 | _=>none
def Zej (t:TypeId):Option (Nat×TypeId):=match P.underlying t with
 | some (.array n e)=>some (n,e)
 | _=>none
def Za7 (t:TypeId):Option Bool:=match P.underlying t with
 | some (.struct _)=>some true
 | some (.array _ _)=>some true
 | some _=>some false
 | none=>none
def ZbJ (s:TypeId) (f:Nat):Option (Nat×TypeId):=match P.underlying s with
 | some (.struct fs)=>match fs[f]? with
  | some x=>if P.cellsOf x.type=0 then none else some (x.offset,x.type)
  | none=>none
 | _=>none
def UT (t:TypeId):Option Value:=match P.info? t with
 | some i=>i.zero
 | none=>none
def Zqj:Nat→TypeId→List TypeId
 | 0,t=>[t]
 | n+1,t=>match P.underlying t with
  | some (.struct fs)=>fs.toList.flatMap fun f=>Zqj n f.type
  | some (.array k e)=>(List.replicate k (Zqj n e)).flatten
  | _=>[t]
def slcT (t:TypeId):List (Option Nat):=(Zqj P 4 t).map fun c=>(Xw P c).map P.cellsOf
def flatE (t:TypeId):Bool:=(Zqj P 4 t).all fun c=>match P.underlying c with
 | some (.int _)=>true
 | some .bool=>true
 | some .string=>true
 | _=>false
def JU:Nat→TypeId→Nat→Option (List (Nat×Nat))
 | 0,_,_=>none
 | n+1,t,off=>match P.underlying t with
  | some (.int _)=>if P.cellsOf t=1 then some [(off,0)] else none
  | some .bool=>if P.cellsOf t=1 then some [(off,1)] else none
  | some .string=>if P.cellsOf t=1 then some [(off,2)] else none
  | some (.struct fs)=>if P.stoodInHeld t then none else
    bnd (Qi (fun f:Field=>if f.name = "_"∨P.cellsOf t<f.offset+P.cellsOf f.type then none else JU n f.type (off+f.offset)) fs.toList) fun ls=>some ls.flatten
  | _=>none
def Xg (t:TypeId):Bool:=match P.underlying t with
 | some (.struct _)=>true
 | _=>false
def ZnX (t:TypeId):Option (List Nat):=bnd (JU P 5 t 0) fun ls=>
 if ls.map (·.1)=List.range (P.cellsOf t)∧Xg P t=true∧P.eqGuardType P.depth t=false then some (ls.map (·.2)) else none
def ZnY (neg:Bool) (op:BinOp) (t:TypeId) (x y:Opd):Option (List Nat)→COp
 | some ks=>.eqA neg ks x y
 | none=>.bin op (Zdk P t) x y
def Zo8 (op:BinOp) (t:TypeId) (x y:Opd):COp:=match op with
 | .eql=>ZnY P false .eql t x y (ZnX P t)
 | .neq=>ZnY P true .neq t x y (ZnX P t)
 | op=>.bin op (Zdk P t) x y
end
section
variable (P:Program)
def ZO:Operand→Option Opd
 | .tmp t=>some (.t t)
 | .const v=>some (.v (evC v))
 | .global _=>none
 | .func f=>some (.f f)
def ZnZ (pl:Nat→Option (Nat×Nat)) (q:Nat×Operand):Option (Nat×Nat×Opd):=bnd (pl q.1) fun p=>bnd (ZO q.2) fun x=>some (p.1,p.2,x)
def cOO:Option Operand→Option (Option Opd)
 | none=>some none
 | some x=>bnd (ZO x) fun y=>some (some y)
def ZbK (t:TypeId):Option (Nat×TypeId)→Nat→Option (Nat×Nat)
 | none,i=>bnd (ZbJ P t i) fun q=>some (q.1,P.cellsOf q.2)
 | some a,i=>some (i*P.cellsOf a.2,P.cellsOf a.2)
def VT (t:TypeId):Bool:=match P.info? t with
 | some i=>(match i.zero with
  | some z=>z.cells.size==i.size&&decide (0<i.size)
  | none=>false)
 | none=>false
def Zfg (t:TypeId):Bool:=match P.underlying t with
 | some (.struct fs)=>fs.toList.all fun f=>(P.info? f.type).isSome
 | some (.array _ e)=>(P.info? e).isSome
 | _=>false
def Zg2 (e:TypeId) (u:TypeId):Option Bool:=match Xw P u with
 | some e'=>if e'=e then some false else none
 | none=>if Ur P u then some true else none
def Zjt (x i:Opd) (a:Option (Nat×TypeId)):Option TypeId→Option COp
 | some e=>if (P.info? e).isSome then some (.iaS (P.cellsOf e) x i) else none
 | none=>bnd a fun a=>if (P.info? a.2).isSome then some (.iaA a.1 (P.cellsOf a.2) x i) else none
def Zmz (x i:Opd) (str:Bool) (a:Option (Nat×TypeId)):Option COp:=
 if str then some (.ixS x i) else bnd a fun a=>bnd (Za7 P a.2) fun g=>some (.ixA g (P.cellsOf a.2) a.1 x i)
def Zqk (x:Opd) (ss sd:Bool):Option IntKind→Option IntKind→Option COp
 | some _,some k=>some (.convI k x)
 | _,_=>if ss&&sd then some (.convS x) else none
def cLen (x:Opd) (str:Bool):Option TypeId→Option COp
 | some _=>some (.len x)
 | none=>if str then some (.lenS x) else none
def Zo9 (x:Opd) (lo hi:Option Opd) (str:Bool):Option TypeId→Option COp
 | some e=>if (P.info? e).isSome then some (.slice (P.cellsOf e) x lo hi) else none
 | none=>if str then some (.sliceS x lo hi) else none
def JV:Builtin→List Operand→List TypeId→Option COp
 | .len,[x],[t]=>bnd (ZO x) fun x=>cLen x (Ur P t) (Xw P t)
 | .append,[s,x],[t,u]=>bnd (Xw P t) fun e=>bnd (Zg2 P e u) fun str=>bnd (ZO s) fun s=>bnd (ZO x) fun x=>
   if VT P e then some (.append (P.cellsOf e) (P.bytesOf e) str (flatE P e) s x) else none
 | .min,[x,y],_=>bnd (ZO x) fun x=>bnd (ZO y) fun y=>some (.min x y)
 | .max,[x,y],_=>bnd (ZO x) fun x=>bnd (ZO y) fun y=>some (.max x y)
 | .clear,[x],[t]=>bnd (Xw P t) fun e=>bnd (ZO x) fun x=>bnd (UT P e) fun z=>bnd (evD z) fun z=>if VT P e then some (.clear (P.cellsOf e) z x) else none
 | _,_,_=>none
def teOf (t:TypeId):Nat:=match bnd (ZbJ P t 1) fun q=>Xw P q.2 with
 | some e=>e
 | none=>0
def cOp (ty:TypeId):Op→Option COp
 | .move x=>bnd (ZO x) fun x=>some (.move x)
 | .assign x=>bnd (ZO x) fun x=>some (.assign (bnd (Xw P ty) fun e=>some (P.cellsOf e)) x)
 | .pick c a b=>bnd (ZO c) fun c=>bnd (ZO a) fun a=>bnd (ZO b) fun b=>some (.pick c a b)
 | .alloc t=>bnd (UT P t) fun z=>some (.alloc (slcT P t) (bnT t (teOf P t) (evC z).cells))
 | .box _ x=>bnd (ZO x) fun x=>some (.box x)
 | .build t ps=>bnd (UT P t) fun z=>bnd (Qi (ZnZ (ZbK P t (Zej P t))) ps.toList) fun qs=>if Zfg P t then some (.build (evC z).cells qs) else none
 | .buildSlice t n ps=>bnd (Xw P t) fun e=>bnd (Qi (fun q:Nat×Operand=>ZO q.2) ps.toList) fun xs=>
   if ps.toList.map (·.1)=List.range n∧n*P.cellsOf e≤16777216∧VT P e then some (.buildSl (P.cellsOf e) xs) else none
 | .load t a=>bnd (Za7 P t) fun g=>bnd (ZO a) fun a=>some (.load g (P.cellsOf t) a)
 | .store t a x=>bnd (ZO a) fun a=>bnd (ZO x) fun x=>if (P.info? t).isSome then some (.store (slcT P t) (P.cellsOf t) a x) else none
 | .nilCheck x=>bnd (ZO x) fun x=>some (.nilCheck x)
 | .binOp op t x y _=>bnd (ZO x) fun x=>bnd (ZO y) fun y=>some (Zo8 P op t x y)
 | .unOp op _ x=>bnd (ZO x) fun x=>some (.un op x)
 | .convert s d x=>bnd (ZO x) fun x=>Zqk x (Ur P s) (Ur P d) (Zry P s) (Zry P d)
 | .makeFunc (.func f) fs cs=>if fs.toList.isEmpty then bnd (Qi ZO cs.toList) fun cs=>some (.fn f cs) else none
 | .makeSlice t l c=>bnd (Xw P t) fun e=>bnd (ZO l) fun l=>bnd (ZO c) fun c=>bnd (UT P e) fun z=>bnd (evD z) fun z=>if VT P e then some (.make (P.cellsOf e) (P.bytesOf e) z l c) else none
 | .slice t x lo hi none=>bnd (ZO x) fun x=>bnd (cOO lo) fun lo=>bnd (cOO hi) fun hi=>Zo9 P x lo hi (Ur P t) (Xw P t)
 | .slice t x none (some hi) (some mx)=>bnd (Xw P t) fun e=>if (P.info? e).isSome then bnd (ZO x) fun x=>bnd (ZO hi) fun hi=>bnd (ZO mx) fun mx=>some (.slice0 x hi mx) else none
 | .slice t x (some lo) (some hi) (some mx)=>bnd (Xw P t) fun e=>if (P.info? e).isSome then bnd (ZO x) fun x=>bnd (ZO lo) fun lo=>bnd (ZO hi) fun hi=>bnd (ZO mx) fun mx=>some (.slice3 (P.cellsOf e) x lo hi mx) else none
 | .fieldAddr s x f=>bnd (ZbJ P s f) fun q=>bnd (ZO x) fun x=>some (.shift q.1 x)
 | .field t x f=>bnd (ZbJ P t f) fun q=>bnd (Za7 P q.2) fun g=>bnd (ZO x) fun x=>some (.part g (P.cellsOf q.2) q.1 x)
 | .indexAddr t x i=>bnd (ZO x) fun x=>bnd (ZO i) fun i=>Zjt P x i (Zej P t) (Xw P t)
 | .index t x i=>bnd (ZO x) fun x=>bnd (ZO i) fun i=>Zmz P x i (Ur P t) (Zej P t)
 | .extract x i=>bnd (ZO x) fun x=>some (.nth i x)
 | .call { callee:=.builtin b,args:=as,argTypes:=ts }=>JV P b as.toList ts.toList
 | .call { callee:=.value f,args:=as,argTypes:=_ }=>bnd (ZO f) fun f=>bnd (Qi ZO as.toList) fun as=>some (.call f as)
 | _=>none
def Zju (ops:List Oper):Option (Nat×Bool)→Option (Option (Nat×Bool))
 | none=>some none
 | some q=>bnd ops[q.1]? fun g=>bnd g.dst fun t=>some (some (t,q.2))
def Qv (nt:Nat):Option Nat→Bool
 | none=>true
 | some t=>decide (t<nt)
def YY (ops:Array Oper) (i:Nat):List Nat:=match ops[i]? with
 | some o=>(o.after.toList.filter fun e=>Region.binds .any e).map fun e=>e.on
 | none=>[]
def ZcG (ops:Array Oper):Nat→Nat→Nat→Bool
 | 0,i,j=>(YY ops i).contains j
 | n+1,i,j=>(YY ops i).contains j || (YY ops i).any fun z=>ZcG ops n z j
def startO:Op→Bool
 | .call { callee:=.builtin .append,args:=_,argTypes:=_ }=>true
 | .buildSlice _ _ _=>true
 | _=>false
def callO:Op→Bool
 | .call { callee:=.value (.func _),args:=_,argTypes:=_ }=>true
 | _=>false
def cloO:Op→Bool
 | .call { callee:=.value (.tmp _),args:=_,argTypes:=_ }=>true
 | _=>false
def ZsO:Op→Bool
 | .move _=>true
 | _=>false
def aheadO:Op→Bool
 | .store _ _ _=>false
 | .box _ _=>false
 | .assign _=>false
 | .makeFunc _ _ _=>false
 | .makeSlice _ _ _=>false
 | .call { callee:=.builtin .append,args:=_,argTypes:=_ }=>false
 | .call { callee:=.value _,args:=_,argTypes:=_ }=>false
 | _=>true
def Zuo:Op→Bool
 | .move _=>true
 | .alloc _=>true
 | .buildSlice _ _ _=>true
 | .load _ _=>true
 | .nilCheck _=>true
 | .binOp _ _ _ _ _=>true
 | .unOp _ _ _=>true
 | .convert _ _ _=>true
 | .fieldAddr _ _ _=>true
 | .indexAddr _ _ _=>true
 | .slice _ _ _ _ _=>true
 | .call { callee:=.builtin .len,args:=_,argTypes:=_ }=>true
 | _=>false
def appO:Op→Bool
 | .call { callee:=.builtin .append,args:=_,argTypes:=_ }=>true
 | _=>false
def lookO:Op→Bool
 | .move _=>true
 | .load _ _=>true
 | .nilCheck _=>true
 | .binOp _ _ _ _ _=>true
 | .convert _ _ _=>true
 | .fieldAddr _ _ _=>true
 | .field _ _ _=>true
 | .extract _ _=>true
 | .indexAddr _ _ _=>true
 | .slice _ _ _ _ _=>true
 | .call { callee:=.builtin .len,args:=_,argTypes:=_ }=>true
 | _=>false
def atO (f:Op→Bool) (ops:List Oper) (k:Nat):Bool:=match ops[k]? with
 | some o=>f o.op
 | none=>false
def firmAt (ops:List Oper) (i:Nat):Bool:=
 (List.range ops.length).all fun k=>if k<i then ZcG ops.toArray 6 i k || atO ZsO ops k else k==i || ZcG ops.toArray 6 k i || atO ZsO ops k
def firmP (ops:List Oper) (i:Nat):Bool:=
 (List.range ops.length).all fun k=>if k<i then ZcG ops.toArray 6 i k || atO lookO ops k else k==i || ZcG ops.toArray 6 k i || atO ZsO ops k
def firmC (ops:List Oper) (i:Nat):Bool:=
 (List.range ops.length).all fun k=>if k<i then ZcG ops.toArray 6 i k || atO aheadO ops k else k==i || ZcG ops.toArray 6 k i || atO Zuo ops k
def firmX (ops:List Oper) (i:Nat):Bool:=
 (List.range ops.length).all fun k=>k==i || if k<i then ZcG ops.toArray 6 i k else ZcG ops.toArray 6 k i
def Zfh (ops:List Oper) (o:Oper):Nat:=ops.findIdx fun x=>x.dst==o.dst
def firm (ops:List Oper) (o:Oper):Bool:=(startO o.op&&firmAt ops (Zfh ops o)) || (callO o.op&&firmC ops (Zfh ops o)) || (appO o.op&&firmP ops (Zfh ops o)) || (cloO o.op&&firmX ops (Zfh ops o))
def YZ:Option COp→COp
 | some c=>c
 | none=>.stuck
def Zg3 (nt:Nat) (ops:List Oper) (o:Oper):Option CO:=bnd (Zju ops o.guard) fun g=>
 if Qv nt o.dst then some { dst:=o.dst,guard:=g,op:=YZ (cOp P o.type o.op),tl:=firm ops o } else none
end
end Go.Abs
