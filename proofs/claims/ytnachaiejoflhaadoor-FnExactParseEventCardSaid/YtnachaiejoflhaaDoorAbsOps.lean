/- Own text. -/
import Derived.Test.YtnachaiejoflhaaDoorAbsBase
set_option linter.unusedVariables false
set_option linter.unusedSimpArgs false
namespace Go.Abs
open Go
def mat:List (Option Nat)→List AV→Nat→List AV×Hp
 | some s :: ts,.nil :: vs,b=>let r:=mat ts vs (b+1);(.own b :: r.1,(b,.row s [] true false) :: r.2)
 | _ :: ts,v :: vs,b=>let r:=mat ts vs b;(v :: r.1,r.2)
 | _,vs,_=>(vs,[])
def Zfb:List AV→Bool
 | []=>false
 | .nil :: _=>true
 | _ :: r=>Zfb r
structure Eff where
 val:AV
 adds:Hp:=[]
 sets:Hp:=[]
 dels:List Nat:=[]
 frz:List Nat:=[]
def Zd:Hp→Hp→Hp
 | hp,[]=>hp
 | hp,(k,o) :: r=>Zd (ins hp k o) r
def del:Hp→Nat→Hp
 | [],_=>[]
 | (k,o) :: r,t=>if k=t then del r t else (k,o) :: del r t
def ZV:Hp→List Nat→Hp
 | hp,[]=>hp
 | hp,k :: r=>ZV (del hp k) r
def Z0 (ids:List Nat) (hp:Hp):Hp:=match ids with
 | []=>hp
 | _=>freeze ids hp
def Eff.on (e:Eff) (hp:Hp):Hp:=Zd (Zd (ZV (Z0 e.frz hp) e.dels) e.sets) e.adds
def Zp9:List AV→Nat→List AV→List AV
 | cs,_,[]=>cs
 | cs,off,v :: r=>Zp9 (cs.set off v) (off+1) r
def Zf3:List AV→List (Nat×Nat×AV)→Option (List AV)
 | cells,[]=>some cells
 | cells,q :: r=>if q.2.2.solid∧q.2.2.cells.length=q.2.1∧q.1+q.2.1≤cells.length then Zf3 (Zp9 cells q.1 q.2.2.cells) r else none
def AV.atom:AV→Bool
 | .d x=>x.one
 | .agg _=>false
 | .tup _=>false
 | .clo _ _=>false
 | _=>true
def Zcp:List AV→Bool
 | []=>true
 | v :: r=>v.atom&&Zcp r
def cloV (f:Nat) (cs:List AV):Option AV:=if Zcp cs then some (.clo f cs) else none
def Zed:AV→AV
 | .bbuf _ _=>.junk
 | v=>v
def WS (agg:Bool) (s off:Nat):Option Zf→Option AV
 | some (.box cs)=>if agg then (if off+s≤cs.length then some (Wa ((cs.drop off).take s)) else none) else (cs[off]?).map Zed
 | _=>none
def U1 (agg:Bool) (s off:Nat) (cs:List D):Option AV:=
 if agg then (if off+s≤cs.length then some (.d (.agg ((cs.drop off).take s))) else none) else asD cs[off]?
def Zee (agg:Bool) (s sz off:Nat) (x:D):Option AV:=if x.cells.length=sz then U1 agg s off x.cells else none
def Zf4 (i off:Nat):Option (Option Nat×Nat×Nat)→Option AV
 | some (some nm,i',c)=>if i=i'∧off=c then some (.own nm) else none
 | _=>none
def Wf (i off:Nat) (lk:Option (Option Nat×Nat×Nat)) (x:D):Option AV:=match x.cells[off]? with
 | some (.sl _)=>Zf4 i off lk
 | some y=>if y.plain then some (.d y) else none
 | none=>none
def Wg (id:Nat) (agg:Bool) (s sz i off:Nat):Option Zf→Option AV
 | some (.row sz' xs _ _)=>if sz=sz' then bnd xs[i]? (Zee agg s sz off) else none
 | some (.tree sz' _ xs lk)=>if sz=sz' then (if agg then none else bnd xs[i]? (Wf i off lk)) else none
 | _=>none
def Vw (hp:Hp) (agg:Bool) (s:Nat):AV→Option AV
 | .ptr id off=>WS agg s off (lkp hp id)
 | .prow id sz i off=>Wg id agg s sz i off (lkp hp id)
 | .pim cs=>U1 agg s 0 cs
 | _=>none
def Zlk:AV→Option D
 | .d x=>if x.plain then some x else none
 | _=>none
def ZmH:List AV→Option (List D)
 | []=>some []
 | v :: r=>bnd (Zlk v) fun x=>bnd (ZmH r) fun ds=>some (x :: ds)
def ZbI (slc:List (Option Nat)) (s base id off:Nat) (vs:List AV):Option Zf→Option Eff
 | some (.box cs)=>if vs.length=s∧off+s≤cs.length∧Q7 vs∧Xa cs=true then
    (if Zfb vs then some { val := .junk, adds := (mat slc vs base).2, sets := [(id, .box (Zk cs off (mat slc vs base).1))] }
      else some { val:=.junk,sets:=[(id,.box (Zk cs off vs))] })
   else none
 | _=>none
def D.notSl:D→Bool
 | .sl _=>false
 | _=>true
def Zcq (s id sz i off:Nat) (xs:List D) (ex:Bool) (x:D) (q:List D×Bool×List Nat):Option Eff:=
 if x.notSl∧x.cells.length=sz∧q.1.length=s∧off+s≤sz∧q.2.2.contains id=false then
  some { val:=.junk,sets:=[(id,.row sz (xs.set i (Yf x off q.1)) (ex&&q.2.1) false)],frz:=q.2.2 } else none
def Zcr (n id:Nat):Option Zf→Option (D×List Nat)
 | some (.row sz xs true false)=>if sz=n∧Ur D.flat xs then some (.sl xs,[id]) else none
 | some (.tree sz n' xs none)=>if sz=n∧n'=n then some (.sl xs,[id]) else none
 | _=>none
def ZbJ (hp:Hp) (n:Nat):AV→Option (D×List Nat)
 | .d x=>if x.plain then some (x,[]) else none
 | .nil=>some (.sl [],[])
 | .own id=>Zcr n id (lkp hp id)
 | _=>none
def YY (hp:Hp) (n:Nat):List AV→Option (List D×List Nat)
 | []=>some ([],[])
 | v :: r=>bnd (ZbJ hp n v) fun q=>bnd (YY hp n r) fun p=>if !q.2.any p.2.contains then some (q.1 :: p.1,q.2++p.2) else none
def D.isAgg:D→Bool
 | .agg _=>true
 | _=>false
def Wh (i off s:Nat):Option (Option Nat×Nat×Nat)→Option (Option Nat×Nat×Nat)
 | some (nm,i',c)=>if i=i'∧off≤c∧c<off+s then none else some (nm,i',c)
 | none=>none
def Zcs (s id sz n i off:Nat) (xs:List D) (lk:Option (Option Nat×Nat×Nat)) (x:D) (q:List D×List Nat):Option Eff:=
 if x.isAgg∧x.cells.length=sz∧q.1.length=s∧off+s≤sz∧q.2.contains id=false then
  some { val:=.junk,sets:=[(id,.tree sz n (xs.set i (Yf x off q.1)) (Wh i off s lk))],dels:=q.2 } else none
def U2 (hp:Hp) (s id sz i off:Nat) (vs:List AV):Option Zf→Option Eff
 | some (.row sz' xs ex false)=>if sz=sz' then bnd xs[i]? fun x=>bnd (YA hp vs) fun q=>Zcq s id sz i off xs ex x q else none
 | some (.tree sz' n xs lk)=>if sz=sz' then bnd xs[i]? fun x=>bnd (YY hp n vs) fun q=>Zcs s id sz n i off xs lk x q else none
 | _=>none
def Uc (hp:Hp) (slc:List (Option Nat)) (s base:Nat) (vs:List AV):AV→Option Eff
 | .ptr id off=>ZbI slc s base id off vs (lkp hp id)
 | .prow id sz i off=>U2 hp s id sz i off vs (lkp hp id)
 | _=>none
def uni (s:Nat) (ys:List D):Prop:=∀ y∈ys,y.cells.length=s
def ZZ:Nat:=140737488355328
def QQ (ys:List D):Prop:=∀ y∈ys,y.flat=true
def Zll (flat:Bool):Option Zf→Option (List D×Bool)
 | some (.row _ ys ex _)=>some (ys,ex || flat)
 | _=>none
def Zh9:AV→Option (List D×Bool)
 | .d (.str s)=>some (s.map fun b=>.int .u8 b.toNat,true)
 | _=>none
def ZgM (flat:Bool) (off n:Nat):Option Zf→Option (List D×Bool)
 | some (.row _ ys ex _)=>some ((ys.drop off).take n,ex || flat)
 | _=>none
def ZbK (hp:Hp) (flat:Bool):AV→Option (List D×Bool)
 | .nil=>some ([],true)
 | .d (.sl ys)=>some (ys,flat)
 | .own id=>Zll flat (lkp hp id)
 | .ownv id off n=>ZgM flat off n (lkp hp id)
 | _=>none
def Zlm (sz base:Nat) (dels:List Nat) (xs:List D) (ex:Bool):Eff:=
 { val:=.own base,adds:=[(base,.row sz xs ex false)],dels:=dels }
def Zia (sz by_ base id:Nat) (ys:List D) (ex' : Bool):Option Zf→Option Eff
 | some (.row sz' xs ex false)=>if sz'=sz∧(xs.length+ys.length)*by_≤ZZ∧xs.length+ys.length≤ZZ then some (Zlm sz base [id] (xs++ys) (ex&&ex')) else none
 | _=>none
def Zef (sz by_ base id n:Nat) (ys:List D) (ex' : Bool):Option Zf→Option Eff
 | some (.row sz' xs ex false)=>if sz'=sz∧(n+ys.length)*by_≤ZZ∧n+ys.length≤ZZ then some (Zlm sz base [id] (xs.take n++ys) (ex&&ex')) else none
 | _=>none
def Zeg (sz base id n:Nat) (ys:List D) (ex' : Bool):Option Zf→Option Eff
 | some (.row sz' xs ex false)=>if sz'=sz∧0<xs.length∧n+ys.length≤xs.length then
   some { val:=.ownv base 0 (n+ys.length),adds:=[(base,.row sz (xs.take n++ys++xs.drop (n+ys.length)) (ex&&ex') false)],dels:=[id] } else none
 | _=>none
def ZcY (hp:Hp) (sz by_:Nat) (base:Nat) (src:List Nat) (ys:List D) (ex' : Bool):AV→Option Eff
 | .nil=>if ys.length*by_≤ZZ∧ys.length≤ZZ then some (Zlm sz base [] ys ex') else none
 | .own id=>if src.contains id then none else Zia sz by_ base id ys ex' (lkp hp id)
 | .ownv id off n=>if off≠0 then none else if src.contains id then Zeg sz base id n ys ex' (lkp hp id) else Zef sz by_ base id n ys ex' (lkp hp id)
 | _=>none
open Classical in
noncomputable def Wi (hp:Hp) (sz by_:Nat) (str flat:Bool) (base:Nat) (s x:AV):Option Eff:=
 bnd (if str then Zh9 x else ZbK hp flat x) fun q=>if uni sz q.1∧(flat=true→QQ q.1) then ZcY hp sz by_ base (Jo x) q.1 q.2 s else none
def idx (i:AV):Option Int:=match i with
 | .d (.int _ n)=>some n
 | _=>none
def Zo1 (sz:Nat) (y:D):Option AV:=if y.cells.length=sz then some (.pim y.cells) else none
def Jt (sz id n:Nat):Option Zf→Option AV
 | some (.row sz' xs _ _)=>if sz'=sz∧n<xs.length then some (.prow id sz n 0) else none
 | some (.tree sz' _ xs _)=>if sz'=sz∧n<xs.length then some (.prow id sz n 0) else none
 | _=>none
def U3 (sz id off m n:Nat):Option Zf→Option AV
 | some (.row sz' _ _ _)=>if sz'=sz∧n<m then some (.prow id sz (off+n) 0) else none
 | _=>none
def Qh (hp:Hp) (sz n:Nat):AV→Option AV
 | .d (.sl xs)=>bnd xs[n]? (Zo1 sz)
 | .own id=>Jt sz id n (lkp hp id)
 | .ownv id off m=>U3 sz id off m n (lkp hp id)
 | _=>none
def bd (m:Nat) (v:AV):Option Nat:=bnd (idx v) fun n=>if 0≤n∧n≤m then some n.toNat else none
def hiOf (len:Nat):Option AV→Option Nat
 | none=>some len
 | some v=>bd len v
def loOf (h:Nat):Option AV→Option Nat
 | none=>some 0
 | some v=>bd h v
def Zln (len:Nat) (lo hi:Option AV):Option (Nat×Nat):=bnd (hiOf len hi) fun h=>bnd (loOf h lo) fun l=>some (l,h)
def ZmI (id n:Nat):Option AV→Option AV→Option AV
 | none,none=>some (.own id)
 | lo,hi=>bnd (Zln n lo hi) fun b=>some (.ownv id b.1 (b.2-b.1))
def U4 (s id:Nat) (lo hi:Option AV):Option Zf→Option AV
 | some (.row sz xs _ _)=>if sz=s then ZmI id xs.length lo hi else none
 | _=>none
def ZrC (n m:Nat) (lo:Option AV):Option AV→Option (Nat×Nat)
 | none=>Zln n lo none
 | some h=>Zln m lo (some h)
def WD (s id off n:Nat) (lo hi:Option AV):Option Zf→Option AV
 | some (.row sz xs _ _)=>if sz=s then bnd (ZrC n (xs.length-off) lo hi) fun b=>some (.ownv id (off+b.1) (b.2-b.1)) else none
 | _=>none
def slice3 (hp:Hp) (x:AV) (lo hi mx:Option Int):Option AV:=bnd lo fun l=>bnd hi fun h=>bnd mx fun m=>bnd (JH hp x) fun n=>
 if 0≤l∧l≤h∧h≤m∧m≤n then some .junk else none
def Zeh (s id off n:Nat) (z:D):Option Zf→Option Eff
 | some (.row sz xs ex false)=>if sz=s∧z.cells.length=s∧off+n≤xs.length then some { val:=.tup [],sets:=[(id,.row sz (xs.take off++List.replicate n z++xs.drop (off+n)) ex false)] } else none
 | _=>none
def ZaI (hp:Hp) (s:Nat) (z:D):AV→Option Eff
 | .ownv id off n=>Zeh s id off n z (lkp hp id)
 | _=>none
open Classical in
noncomputable def Yv (hp:Hp) (s:Nat) (lo hi:Option AV):AV→Option AV
 | .d (.sl xs)=>if uni s xs then bnd (Zln xs.length lo hi) fun b=>some (.d (.sl ((xs.take b.2).drop b.1))) else none
 | .nil=>bnd (Zln 0 lo hi) fun _=>some .nil
 | .own id=>U4 s id lo hi (lkp hp id)
 | .ownv id off n=>WD s id off n lo hi (lkp hp id)
 | _=>none
def sliceS (lo hi:Option AV):AV→Option AV
 | .d (.str s)=>bnd (Zln s.length lo hi) fun b=>some (.d (.str ((s.take b.2).drop b.1)))
 | _=>none
def slice0 (hp:Hp) (x:AV) (hi mx:Option Int):Option AV:=match hi,mx with
 | some 0,some 0=>bnd (JH hp x) fun _=>some .nil
 | _,_=>none
def Zei (agg:Bool) (s off:Nat):AV→Option AV
 | .d (.agg cs)=>U1 agg s off cs
 | .agg cs=>if agg then (if off+s≤cs.length then some (Wa ((cs.drop off).take s)) else none) else cs[off]?
 | _=>none
abbrev Orc:=Nat→List AV→List Zf→Option (AV×List Zf)
abbrev Zh:=Nat→Nat→Bool
def ZaJ (hp:Hp) (id:Nat):Bool→Option AV
 | true=>some (.own id)
 | false=>asD (ZcJ hp (.own id))
def ZbL:Bool→Option AV
 | true=>some .nil
 | false=>some (.d (.sl []))
def ZaK (hp:Hp) (cs:List AV):Bool→Option AV
 | true=>if JG cs then none else some (.agg cs)
 | false=>asD (toD hp (.agg cs))
def Jl (hp:Hp) (m:Bool):AV→Option AV
 | .ptr a b=>some (.ptr a b)
 | .clo f c=>some (.clo f c)
 | .nilp=>some .nilp
 | .nili=>some .nili
 | .pim c=>some (.pim c)
 | .own id=>ZaJ hp id m
 | .nil=>ZbL m
 | .d x=>some (.d x)
 | .agg cs=>ZaK hp cs m
 | v=>asD (toD hp v)
def args (hp:Hp) (m:Nat→Bool):Nat→List AV→Option (List AV)
 | _,[]=>some []
 | i,v :: r=>bnd (Jl hp (m i) v) fun a=>bnd (args hp m (i+1) r) fun as=>some (a :: as)
def Wj (hp:Hp) (go:List Nat→List Nat→List Nat) (id:Nat) (todo acc:List Nat):Option Zf→List Nat
 | some o=>go (todo++Wb o) (acc++[id])
 | none=>go todo acc
def QF (hp:Hp):Nat→List Nat→List Nat→List Nat
 | 0,_,acc=>acc
 | _+1,[],acc=>acc
 | n+1,id :: todo,acc=>if acc.contains id then QF hp n todo acc else Wj hp (QF hp n) id todo acc (lkp hp id)
def YD:List Nat→Nat→Nat
 | [],_=>0
 | x :: r,t=>if x=t then 0 else YD r t+1
def ZmJ:Option Zf→Zf
 | some o=>o
 | none=>.gone
def JK (hp:Hp):List Nat→List Zf
 | []=>[]
 | id :: r=>ZmJ (lkp hp id) :: JK hp r
def W0 (ids:List Nat) (o:Zf):Zf:=ZdW (YD ids) (QU ((Wb o).filter fun i=>!ids.contains i) o)
def ZbM:Option Zf→Bool
 | some (.row _ _ _ _)=>true
 | some (.tree _ _ _ _)=>true
 | some .gone=>true
 | _=>false
def U5:AV→Bool
 | .d x=>x.flat
 | .pim _=>false
 | .agg _=>false
 | .tup _=>false
 | .clo _ _=>false
 | _=>true
def JL:AV→Bool
 | .agg cs=>cs.all U5
 | .clo _ cs=>cs.all U5
 | v=>U5 v
def Zj6:AV→Bool
 | .tup vs=>vs.all JL
 | v=>JL v
def ZbN:Zf→Bool
 | .box cs=>cs.all JL
 | .row _ _ ex fz=>ex&&!fz
 | .tree _ _ _ _=>true
 | .gone=>true
def Zdu (d:Nat):Option Nat→Nat
 | some i=>i
 | none=>d
def YZ (ids:List Nat) (base k:Nat):Nat:=Zdu (base+(k-ids.length)) ids[k]?
def U6 (g:Nat→Nat):List Nat→List Zf→Hp
 | id :: ids,o :: os=>(id,ZdW g o) :: U6 g ids os
 | _,_=>[]
def U7 (g:Nat→Nat):Nat→List Zf→Hp
 | _,[]=>[]
 | k,o :: os=>(k,ZdW g o) :: U7 g (k+1) os
structure Zb where
 eff:Eff
 gone:List Nat
def Xe (_hp:Hp):Nat:=1000
def XU:List AV→List AV→List Nat
 | v :: vs,.d _ :: as=>Zaz v++XU vs as
 | _ :: vs,_ :: as=>XU vs as
 | _,_=>[]
def U8:Option Zf→Bool
 | some (.tree _ _ _ _)=>true
 | _=>false
def Zfc:List Nat→List Zf→List Nat
 | id :: ids,.gone :: os=>id :: Zfc ids os
 | _ :: ids,_ :: os=>Zfc ids os
 | _,_=>[]
def Zfd (hp:Hp) (ids:List Nat) (out:List Zf):Bool→List Nat
 | true=>Zfc ids out
 | false=>ids.filter fun i=>ZbM (lkp hp i)
def W1 (keep:Bool) (hp:Hp) (base:Nat) (ids lent:List Nat) (r:AV) (out:List Zf):Option Zb:=
 if out.length<ids.length then none else if !(Zj6 r&&out.all ZbN)&&lent.any fun i=>U8 (lkp hp i) then none else
  some { eff := { val:=ren (YZ ids base) r,adds:=U7 (YZ ids base) base (out.drop ids.length),sets:=U6 (YZ ids base) ids out,frz:=if Zj6 r&&out.all ZbN then [] else lent },gone:=Zfd hp ids out keep }
def Wt:AV→List Nat
 | .ptr id _=>[id]
 | .clo _ cs=>cs.flatMap Zg
 | _=>[]
def Uy (hp:Hp) (rs ids:List Nat):Bool:=ids.all fun i=>ZbM (lkp hp i) || rs.contains i
def ZaL (C:Orc) (keep:Bool) (hp:Hp) (base f:Nat) (lent:List Nat) (as:List AV) (ids:List Nat):Option Zb:=
 if (as.flatMap Zl).all ids.contains∧¬lent.any ids.contains∧Uy hp (as.flatMap Wt) ids=true then
  bnd (C f (as.map (ren (YD ids))) ((JK hp ids).map (W0 ids))) fun q=>W1 keep hp base ids lent q.1 q.2
 else none
def Ju (C:Orc) (m:Nat→Bool) (hp:Hp) (base f:Nat) (avs:List AV):Option Zb:=
 bnd (args hp m 0 avs) fun as=>ZaL C (m 99) hp base f (XU avs as) as (QF hp (Xe hp) (as.flatMap Zl) [])
def Qw (v:AV):Option Zb:=some { eff := { val:=v },gone:=[] }
def Yw (v:Option AV):Option Zb:=bnd v Qw
def Zbb (e:Option Eff):Option Zb:=bnd e fun e=>some { eff:=e,gone:=[] }
def ZaM (base:Nat) (e:Option Nat):AV→Option Zb
 | .nil=>bnd e fun s=>some { eff := { val:=.own base,adds:=[(base,.row s [] true false)] },gone:=[] }
 | v=>Qw v
def ZbO (a b:AV):AV→Option Zb
 | .d (.bool t)=>if t then Qw a else Qw b
 | _=>none
def Zdv (base:Nat):AV→AV
 | .bnil _ e=>.bnil base e
 | v=>v
def bnT (t te:Nat):List AV→List AV
 | [.nilp,.nil]=>[.bnil 0 t,.bbuf te []]
 | cs=>cs
def ZrD:List AV→Bool
 | [.bnil _ _,.bbuf _ []]=>true
 | _=>false
def Zib (slc:List (Option Nat)) (base:Nat) (cs:List AV):Option Zb:=
 if Xa cs=false then (if ZrD cs=true then some { eff := { val:=.ptr base 0,adds:=[(base,.box cs)] },gone:=[] } else none) else
 if Zfb cs then some { eff := { val:=.ptr base 0,adds:=(base,.box (mat slc cs (base+1)).1) :: (mat slc cs (base+1)).2 },gone:=[] }
 else some { eff := { val:=.ptr base 0,adds:=[(base,.box cs)] },gone:=[] }
def ZbP (slc:List (Option Nat)) (base:Nat) (cs:List AV):Option Zb:=Zib slc base (cs.map (Zdv base))
def Zqa (base:Nat) (x:AV):Option Zb:=if x.solid&&Xa x.cells then some { eff := { val:=.ptr base 0,adds:=[(base,.box x.cells)] },gone:=[] } else none
def Zic (zs:List AV) (ps:List (Nat×Nat×AV)):Option Zb:=bnd (Zf3 zs ps) fun cs=>Qw (Wa cs)
def Zqb (base s:Nat) (q:List D×Bool×List Nat):Option Zb:=
 if q.1.all (fun d=>d.cells.length==s) then some { eff := { val:=.own base,adds:=[(base,.row s q.1 q.2.1 false)],frz:=q.2.2 },gone:=[] } else none
def buildSl (hp:Hp) (base s:Nat):List AV→Option Zb
 | []=>Qw .nil
 | v :: vs=>bnd (Y9 hp (v :: vs)) (Zqb base s)
def VD (hp:Hp) (n s:Nat):List AV→Option (List D×List Nat)
 | []=>some ([],[])
 | .agg cs :: r=>bnd (YY hp n cs) fun q=>bnd (VD hp n s r) fun p=>
   if q.1.length=s∧(!q.2.any p.2.contains)=true then some (.agg q.1 :: p.1,q.2++p.2) else none
 | _=>none
def asgT (base s n:Nat):AV→Option Zb
 | .nil=>some { eff := { val:=.own base,adds:=[(base,.tree s n [] none)] },gone:=[] }
 | _=>none
def buildT (hp:Hp) (base s n:Nat) (vs:List AV):Option Zb:=
 if vs.isEmpty=false then bnd (VD hp n s vs) fun q=>some { eff := { val:=.own base,adds:=[(base,.tree s n q.1 none)],dels:=q.2 },gone:=[] } else none
def WE:AV→Option Zb
 | .ptr a b=>Qw (.ptr a b)
 | .prow a b c d=>Qw (.prow a b c d)
 | .pim c=>Qw (.pim c)
 | .clo f c=>Qw (.clo f c)
 | _=>none
def Zid (op:BinOp) (eq:Bool):AV→AV→Option Zb
 | .d (.bool a),.d (.bool b)=>if eq then Yw (ZjF op a b) else none
 | a,b=>Yw (vbin op a b)
def Wq:List Nat→List D→List D→Option Bool
 | [],[],[]=>some true
 | 0 :: ks,.int k a :: cs,.int k' b :: ds=>if k=k' then bnd (Wq ks cs ds) fun r=>some (decide (a=b)&&r) else none
 | 1 :: ks,.bool a :: cs,.bool b :: ds=>bnd (Wq ks cs ds) fun r=>some (decide (a=b)&&r)
 | 2 :: ks,.str a :: cs,.str b :: ds=>bnd (Wq ks cs ds) fun r=>some (decide (a=b)&&r)
 | _,_,_=>none
def Zie (neg:Bool) (r:Bool):Bool:=if neg then !r else r
def Zlo (neg:Bool) (ks:List Nat):AV→AV→Option Zb
 | .d (.agg cs),.d (.agg ds)=>bnd (Wq ks cs ds) fun r=>Qw (.d (.bool (Zie neg r)))
 | _,_=>none
def convI (k:IntKind):AV→Option Zb
 | .d (.int _ n)=>Qw (.d (.int k (k.wrap n)))
 | _=>none
def convS:AV→Option Zb
 | .d (.str s)=>Qw (.d (.str s))
 | _=>none
def Zj7 (base s b:Nat) (z:D) (l c:Int):Option Zb:=
 if 0≤l∧l≤c∧c*b≤ZZ∧c≤ZZ∧z.cells.length=s then
  some { eff := { val:=.own base,adds:=[(base,.row s (List.replicate l.toNat z) true false)] },gone:=[] } else none
def makeT (base s b ns:Nat) (z:D) (l c:Int):Option Zb:=
 if 0≤l∧l≤c∧c*b≤ZZ∧c≤ZZ∧z.cells.length=s∧z.isAgg=true then
  some { eff := { val:=.own base,adds:=[(base,.tree s ns (List.replicate l.toNat z) none)] },gone:=[] } else none
def Y0 (off:Nat):AV→Option Zb
 | .ptr id o=>Qw (.ptr id (o+off))
 | .prow id sz i o=>Qw (.prow id sz i (o+off))
 | .pim cs=>Qw (.pim (cs.drop off))
 | _=>none
def Zif (x:AV) (n:Int) (len s:Nat):Option Zb:=if 0≤n∧n<len then Y0 (n.toNat*s) x else none
def ZcZ (hp:Hp) (s:Nat) (x:AV) (n:Int):Option Zb:=if 0≤n then Yw (Qh hp s n.toNat x) else none
def ZmK (s:List UInt8) (n:Int):Option Zb:=if 0≤n then bnd s[n.toNat]? fun b=>Qw (.d (.int .u8 b.toNat)) else none
def Zqc (g:Bool) (s len:Nat) (n:Int) (v:AV):Option Zb:=if 0≤n∧n<len then Yw (Zei g s (n.toNat*s) v) else none
def ZnU (n:Int):AV→Option Zb
 | .d (.str s)=>ZmK s n
 | _=>none
def ZmL (i:Nat):AV→Option Zb
 | .tup vs=>Yw vs[i]?
 | _=>none
def Zfe:Option Zf→Option (Nat×Nat×List D)
 | some (.tree s n xs none)=>some (s,n,xs)
 | _=>none
def ZaN (hp:Hp):AV→Option (Nat×Nat×Nat×List D)
 | .own id=>bnd (Zfe (lkp hp id)) fun q=>some (id,q)
 | _=>none
def Jv (hp:Hp) (s b base id n:Nat) (ys:List D):AV→Option Eff
 | .nil=>if ys.length*b≤ZZ∧ys.length≤ZZ then some { val:=.own base,adds:=[(base,.tree s n ys none)],dels:=[id] } else none
 | .own id1=>bnd (Zfe (lkp hp id1)) fun q=>if q.1=s∧q.2.1=n∧id1≠id∧(q.2.2.length+ys.length)*b≤ZZ∧q.2.2.length+ys.length≤ZZ then
   some { val:=.own base,adds:=[(base,.tree s n (q.2.2++ys) none)],dels:=[id1,id] } else none
 | _=>none
def Wk (xs:List D) (i c:Nat):Option (List D):=bnd xs[i]? fun x=>match x.cells[c]? with
 | some (.sl ys)=>some ys
 | _=>none
def Yh (hp:Hp):AV→List Nat
 | .own id=>if U8 (lkp hp id) then [id] else []
 | _=>[]
def Zej:Zf→Zf
 | .tree s _ xs none=>.row s xs true false
 | o=>o
def meltIn (hp:Hp):List Nat→Hp
 | []=>hp
 | i :: r=>match lkp hp i with
  | some o=>ins (meltIn hp r) i (Zej o)
  | none=>meltIn hp r
noncomputable def Vb (hp:Hp) (s b:Nat) (str flat:Bool) (base:Nat) (x y:AV):List Nat→Option Eff
 | []=>Wi hp s b str flat base x y
 | i :: r=>if flat then none else bnd (Wi (meltIn hp (i :: r)) s b str flat base x y) fun e=>some { val:=e.val,adds:=e.adds,sets:=e.sets,dels:=e.dels++(i :: r),frz:=e.frz }
def appT (hp:Hp) (s b base:Nat) (x y:AV):Option Zb:=Zbb (bnd (ZaN hp y) fun q=>if q.2.1=s then Jv hp s b base q.1 q.2.2.1 q.2.2.2 x else none)
noncomputable def ZmM (hp:Hp) (s b:Nat) (str flat:Bool) (base:Nat) (x y:AV):Option Zb:=Zbb (Vb hp s b str flat base x y (Yh hp x++Yh hp y))
def Zf5:AV→AV→Option Zb
 | .d (.int k a),.d (.int k' b)=>if k=k' then Qw (.d (.int k (minI a b))) else none
 | _,_=>none
def Zf6:AV→AV→Option Zb
 | .d (.int k a),.d (.int k' b)=>if k=k' then Qw (.d (.int k (maxI a b))) else none
 | _,_=>none
inductive Opd where
 | t (n:Nat)
 | v (a:AV)
 | f (n:Nat)
def evO (sl:Sl):Opd→AV
 | .t n=>gs sl n
 | .v a=>a
 | .f n=>.clo n []
def evL (sl:Sl):List Opd→List AV
 | []=>[]
 | x :: r=>evO sl x :: evL sl r
def evP (sl:Sl):List (Nat×Nat×Opd)→List (Nat×Nat×AV)
 | []=>[]
 | (a,b,x) :: r=>(a,b,evO sl x) :: evP sl r
def evM (sl:Sl):Option Opd→Option AV
 | none=>none
 | some x=>some (evO sl x)
inductive COp where
 | move (x:Opd)
 | assign (s:Option Nat) (x:Opd)
 | pick (c a b:Opd)
 | alloc (slc:List (Option Nat)) (cs:List AV)
 | box (x:Opd)
 | build (zs:List AV) (ps:List (Nat×Nat×Opd))
 | buildSl (s:Nat) (xs:List Opd)
 | load (g:Bool) (s:Nat) (a:Opd)
 | store (slc:List (Option Nat)) (s:Nat) (a x:Opd)
 | nilCheck (x:Opd)
 | bin (op:BinOp) (eq:Bool) (x y:Opd)
 | un (op:UnOp) (x:Opd)
 | eqA (neg:Bool) (ks:List Nat) (x y:Opd)
 | convI (k:IntKind) (x:Opd)
 | convS (x:Opd)
 | fn (f:Nat) (caps:List Opd)
 | make (s b:Nat) (z:D) (l c:Opd)
 | slice (s:Nat) (x:Opd) (lo hi:Option Opd)
 | sliceS (x:Opd) (lo hi:Option Opd)
 | slice0 (x hi mx:Opd)
 | shift (off:Nat) (x:Opd)
 | part (g:Bool) (s off:Nat) (x:Opd)
 | iaS (s:Nat) (x i:Opd)
 | iaA (len s:Nat) (x i:Opd)
 | ixS (x i:Opd)
 | ixA (g:Bool) (s len:Nat) (x i:Opd)
 | nth (i:Nat) (x:Opd)
 | len (x:Opd)
 | lenS (x:Opd)
 | append (s b:Nat) (str flat:Bool) (x y:Opd)
 | min (x y:Opd)
 | max (x y:Opd)
 | call (f:Opd) (as:List Opd)
 | slice3 (s:Nat) (x lo hi mx:Opd)
 | clear (s:Nat) (z:D) (x:Opd)
 | stuck
 | buildT (s n:Nat) (xs:List Opd)
 | appT (s b:Nat) (flat:Bool) (x y:Opd)
 | asgT (s n:Nat) (x:Opd)
 | makeT (s b n:Nat) (z:D) (l c:Opd)
structure CO where
 dst:Option Nat
 guard:Option (Nat×Bool)
 op:COp
 tl:Bool
def JM (C:Orc) (M:Zh) (hp:Hp) (base:Nat) (as:List AV):AV→Option Zb
 | .clo g caps=>Ju C (M g) hp base g (as++caps)
 | _=>none
noncomputable def vop (C:Orc) (M:Zh) (sl:Sl) (hp:Hp) (base:Nat):COp→Option Zb
 | .move x=>Qw (evO sl x)
 | .assign s x=>ZaM base s (evO sl x)
 | .pick c a b=>ZbO (evO sl a) (evO sl b) (evO sl c)
 | .alloc slc cs=>ZbP slc base cs
 | .box x=>Zqa base (evO sl x)
 | .build zs ps=>Zic zs (evP sl ps)
 | .buildSl s xs=>buildSl hp base s (evL sl xs)
 | .load g s a=>Yw (Vw hp g s (evO sl a))
 | .store slc s a x=>Zbb (Uc hp slc s base (evO sl x).cells (evO sl a))
 | .nilCheck x=>WE (evO sl x)
 | .bin op eq x y=>Zid op eq (evO sl x) (evO sl y)
 | .un op x=>Yw (vun op (evO sl x))
 | .eqA neg ks x y=>Zlo neg ks (evO sl x) (evO sl y)
 | .convI k x=>convI k (evO sl x)
 | .convS x=>convS (evO sl x)
 | .fn f cs=>Yw (cloV f (evL sl cs))
 | .make s b z l c=>bnd (idx (evO sl l)) fun l=>bnd (idx (evO sl c)) fun c=>Zj7 base s b z l c
 | .slice s x lo hi=>Yw (Yv hp s (evM sl lo) (evM sl hi) (evO sl x))
 | .sliceS x lo hi=>Yw (sliceS (evM sl lo) (evM sl hi) (evO sl x))
 | .slice0 x hi mx=>Yw (slice0 hp (evO sl x) (idx (evO sl hi)) (idx (evO sl mx)))
 | .shift off x=>Y0 off (evO sl x)
 | .part g s off x=>Yw (Zei g s off (evO sl x))
 | .iaS s x i=>bnd (idx (evO sl i)) fun n=>ZcZ hp s (evO sl x) n
 | .iaA len s x i=>bnd (idx (evO sl i)) fun n=>Zif (evO sl x) n len s
 | .ixS x i=>bnd (idx (evO sl i)) fun n=>ZnU n (evO sl x)
 | .ixA g s len x i=>bnd (idx (evO sl i)) fun n=>Zqc g s len n (evO sl x)
 | .nth i x=>ZmL i (evO sl x)
 | .len x=>bnd (JH hp (evO sl x)) fun n=>Qw (.d (.int .i64 n))
 | .lenS x=>bnd (Zpz (evO sl x)) fun n=>Qw (.d (.int .i64 n))
 | .append s b str flat x y=>ZmM hp s b str flat base (evO sl x) (evO sl y)
 | .min x y=>Zf5 (evO sl x) (evO sl y)
 | .max x y=>Zf6 (evO sl x) (evO sl y)
 | .call f as=>JM C M hp base (evL sl as) (evO sl f)
 | .slice3 _ x lo hi mx=>Yw (slice3 hp (evO sl x) (idx (evO sl lo)) (idx (evO sl hi)) (idx (evO sl mx)))
 | .clear s z x=>Zbb (ZaI hp s z (evO sl x))
 | .stuck=>none
 | .buildT s n xs=>buildT hp base s n (evL sl xs)
 | .appT s b _ x y=>appT hp s b base (evO sl x) (evO sl y)
 | .asgT s n x=>asgT base s n (evO sl x)
 | .makeT s b n z l c=>bnd (idx (evO sl l)) fun l=>bnd (idx (evO sl c)) fun c=>makeT base s b n z l c
section
variable (P:Program)
def Xx (t:TypeId):Option TypeId:=match P.underlying t with
 | some (.slice e)=>some e
 | _=>none
def WF (t:TypeId):Bool:=match P.underlying t with
 | some .string=>true
 | _=>false
def Zct (t:TypeId):Bool:=match P.underlying t with
 | some .bool=>true
 | _=>false
def Zqd (t:TypeId):Option IntKind:=match P.underlying t with
 | some (.int k)=>some k
 | _=>none
def Zdw (t:TypeId):Option (Nat×TypeId):=match P.underlying t with
 | some (.array n e)=>some (n,e)
 | _=>none
def Zad (t:TypeId):Option Bool:=match P.underlying t with
 | some (.struct _)=>some true
 | some (.array _ _)=>some true
 | some _=>some false
 | none=>none
def ZaO (s:TypeId) (f:Nat):Option (Nat×TypeId):=match P.underlying s with
 | some (.struct fs)=>match fs[f]? with
  | some x=>if P.cellsOf x.type=0 then none else some (x.offset,x.type)
  | none=>none
 | _=>none
def W2 (t:TypeId):Option Value:=match P.info? t with
 | some i=>i.zero
 | none=>none
def Zo2:Nat→TypeId→List TypeId
 | 0,t=>[t]
 | n+1,t=>match P.underlying t with
  | some (.struct fs)=>fs.toList.flatMap fun f=>Zo2 n f.type
  | some (.array k e)=>(List.replicate k (Zo2 n e)).flatten
  | _=>[t]
def slcT (t:TypeId):List (Option Nat):=(Zo2 P 4 t).map fun c=>(Xx P c).map P.cellsOf
def flatE (t:TypeId):Bool:=(Zo2 P 4 t).all fun c=>match P.underlying c with
 | some (.int _)=>true
 | some .bool=>true
 | some .string=>true
 | _=>false
def U9:Nat→TypeId→Nat→Option (List (Nat×Nat))
 | 0,_,_=>none
 | n+1,t,off=>match P.underlying t with
  | some (.int _)=>if P.cellsOf t=1 then some [(off,0)] else none
  | some .bool=>if P.cellsOf t=1 then some [(off,1)] else none
  | some .string=>if P.cellsOf t=1 then some [(off,2)] else none
  | some (.struct fs)=>if P.stoodInHeld t then none else
    bnd (Qe (fun f:Field=>if f.name = "_"∨P.cellsOf t<f.offset+P.cellsOf f.type then none else U9 n f.type (off+f.offset)) fs.toList) fun ls=>some ls.flatten
  | _=>none
def Xc (t:TypeId):Bool:=match P.underlying t with
 | some (.struct _)=>true
 | _=>false
def ZmN (t:TypeId):Option (List Nat):=bnd (U9 P 5 t 0) fun ls=>
 if ls.map (·.1)=List.range (P.cellsOf t)∧Xc P t=true∧P.eqGuardType P.depth t=false then some (ls.map (·.2)) else none
def ZmO (neg:Bool) (op:BinOp) (t:TypeId) (x y:Opd):Option (List Nat)→COp
 | some ks=>.eqA neg ks x y
 | none=>.bin op (Zct P t) x y
def ZnV (op:BinOp) (t:TypeId) (x y:Opd):COp:=match op with
 | .eql=>ZmO P false .eql t x y (ZmN P t)
 | .neq=>ZmO P true .neq t x y (ZmN P t)
 | op=>.bin op (Zct P t) x y
end
section
variable (P:Program)
def ZJ:Operand→Option Opd
 | .tmp t=>some (.t t)
 | .const v=>some (.v (evC v))
 | .global _=>none
 | .func f=>some (.f f)
def ZmP (pl:Nat→Option (Nat×Nat)) (q:Nat×Operand):Option (Nat×Nat×Opd):=bnd (pl q.1) fun p=>bnd (ZJ q.2) fun x=>some (p.1,p.2,x)
def cOO:Option Operand→Option (Option Opd)
 | none=>some none
 | some x=>bnd (ZJ x) fun y=>some (some y)
def ZaP (t:TypeId):Option (Nat×TypeId)→Nat→Option (Nat×Nat)
 | none,i=>bnd (ZaO P t i) fun q=>some (q.1,P.cellsOf q.2)
 | some a,i=>some (i*P.cellsOf a.2,P.cellsOf a.2)
def Vl (t:TypeId):Bool:=match P.info? t with
 | some i=>(match i.zero with
  | some z=>z.cells.size==i.size&&decide (0<i.size)
  | none=>false)
 | none=>false
def Zek (t:TypeId):Bool:=match P.underlying t with
 | some (.struct fs)=>fs.toList.all fun f=>(P.info? f.type).isSome
 | some (.array _ e)=>(P.info? e).isSome
 | _=>false
def Zf7 (e:TypeId) (u:TypeId):Option Bool:=match Xx P u with
 | some e'=>if e'=e then some false else none
 | none=>if WF P u then some true else none
def Zig (x i:Opd) (a:Option (Nat×TypeId)):Option TypeId→Option COp
 | some e=>if (P.info? e).isSome then some (.iaS (P.cellsOf e) x i) else none
 | none=>bnd a fun a=>if (P.info? a.2).isSome then some (.iaA a.1 (P.cellsOf a.2) x i) else none
def Zlp (x i:Opd) (str:Bool) (a:Option (Nat×TypeId)):Option COp:=
 if str then some (.ixS x i) else bnd a fun a=>bnd (Zad P a.2) fun g=>some (.ixA g (P.cellsOf a.2) a.1 x i)
def Zo3 (x:Opd) (ss sd:Bool):Option IntKind→Option IntKind→Option COp
 | some _,some k=>some (.convI k x)
 | _,_=>if ss&&sd then some (.convS x) else none
def cLen (x:Opd) (str:Bool):Option TypeId→Option COp
 | some _=>some (.len x)
 | none=>if str then some (.lenS x) else none
def ZnW (x:Opd) (lo hi:Option Opd) (str:Bool):Option TypeId→Option COp
 | some e=>if (P.info? e).isSome then some (.slice (P.cellsOf e) x lo hi) else none
 | none=>if str then some (.sliceS x lo hi) else none
def Ja:Builtin→List Operand→List TypeId→Option COp
 | .len,[x],[t]=>bnd (ZJ x) fun x=>cLen x (WF P t) (Xx P t)
 | .append,[s,x],[t,u]=>bnd (Xx P t) fun e=>bnd (Zf7 P e u) fun str=>bnd (ZJ s) fun s=>bnd (ZJ x) fun x=>
   if Vl P e then some (.append (P.cellsOf e) (P.bytesOf e) str (flatE P e) s x) else none
 | .min,[x,y],_=>bnd (ZJ x) fun x=>bnd (ZJ y) fun y=>some (.min x y)
 | .max,[x,y],_=>bnd (ZJ x) fun x=>bnd (ZJ y) fun y=>some (.max x y)
 | .clear,[x],[t]=>bnd (Xx P t) fun e=>bnd (ZJ x) fun x=>bnd (W2 P e) fun z=>bnd (evD z) fun z=>if Vl P e then some (.clear (P.cellsOf e) z x) else none
 | _,_,_=>none
def teOf (t:TypeId):Nat:=match bnd (ZaO P t 1) fun q=>Xx P q.2 with
 | some e=>e
 | none=>0
def cOp (ty:TypeId):Op→Option COp
 | .move x=>bnd (ZJ x) fun x=>some (.move x)
 | .assign x=>bnd (ZJ x) fun x=>some (.assign (bnd (Xx P ty) fun e=>some (P.cellsOf e)) x)
 | .pick c a b=>bnd (ZJ c) fun c=>bnd (ZJ a) fun a=>bnd (ZJ b) fun b=>some (.pick c a b)
 | .alloc t=>bnd (W2 P t) fun z=>some (.alloc (slcT P t) (bnT t (teOf P t) (evC z).cells))
 | .box _ x=>bnd (ZJ x) fun x=>some (.box x)
 | .build t ps=>bnd (W2 P t) fun z=>bnd (Qe (ZmP (ZaP P t (Zdw P t))) ps.toList) fun qs=>if Zek P t then some (.build (evC z).cells qs) else none
 | .buildSlice t n ps=>bnd (Xx P t) fun e=>bnd (Qe (fun q:Nat×Operand=>ZJ q.2) ps.toList) fun xs=>
   if ps.toList.map (·.1)=List.range n∧n*P.cellsOf e≤16777216∧Vl P e then some (.buildSl (P.cellsOf e) xs) else none
 | .load t a=>bnd (Zad P t) fun g=>bnd (ZJ a) fun a=>some (.load g (P.cellsOf t) a)
 | .store t a x=>bnd (ZJ a) fun a=>bnd (ZJ x) fun x=>if (P.info? t).isSome then some (.store (slcT P t) (P.cellsOf t) a x) else none
 | .nilCheck x=>bnd (ZJ x) fun x=>some (.nilCheck x)
 | .binOp op t x y _=>bnd (ZJ x) fun x=>bnd (ZJ y) fun y=>some (ZnV P op t x y)
 | .unOp op _ x=>bnd (ZJ x) fun x=>some (.un op x)
 | .convert s d x=>bnd (ZJ x) fun x=>Zo3 x (WF P s) (WF P d) (Zqd P s) (Zqd P d)
 | .makeFunc (.func f) fs cs=>if fs.toList.isEmpty then bnd (Qe ZJ cs.toList) fun cs=>some (.fn f cs) else none
 | .makeSlice t l c=>bnd (Xx P t) fun e=>bnd (ZJ l) fun l=>bnd (ZJ c) fun c=>bnd (W2 P e) fun z=>bnd (evD z) fun z=>if Vl P e then some (.make (P.cellsOf e) (P.bytesOf e) z l c) else none
 | .slice t x lo hi none=>bnd (ZJ x) fun x=>bnd (cOO lo) fun lo=>bnd (cOO hi) fun hi=>ZnW P x lo hi (WF P t) (Xx P t)
 | .slice t x none (some hi) (some mx)=>bnd (Xx P t) fun e=>if (P.info? e).isSome then bnd (ZJ x) fun x=>bnd (ZJ hi) fun hi=>bnd (ZJ mx) fun mx=>some (.slice0 x hi mx) else none
 | .slice t x (some lo) (some hi) (some mx)=>bnd (Xx P t) fun e=>if (P.info? e).isSome then bnd (ZJ x) fun x=>bnd (ZJ lo) fun lo=>bnd (ZJ hi) fun hi=>bnd (ZJ mx) fun mx=>some (.slice3 (P.cellsOf e) x lo hi mx) else none
 | .fieldAddr s x f=>bnd (ZaO P s f) fun q=>bnd (ZJ x) fun x=>some (.shift q.1 x)
 | .field t x f=>bnd (ZaO P t f) fun q=>bnd (Zad P q.2) fun g=>bnd (ZJ x) fun x=>some (.part g (P.cellsOf q.2) q.1 x)
 | .indexAddr t x i=>bnd (ZJ x) fun x=>bnd (ZJ i) fun i=>Zig P x i (Zdw P t) (Xx P t)
 | .index t x i=>bnd (ZJ x) fun x=>bnd (ZJ i) fun i=>Zlp P x i (WF P t) (Zdw P t)
 | .extract x i=>bnd (ZJ x) fun x=>some (.nth i x)
 | .call { callee:=.builtin b,args:=as,argTypes:=ts }=>Ja P b as.toList ts.toList
 | .call { callee:=.value f,args:=as,argTypes:=_ }=>bnd (ZJ f) fun f=>bnd (Qe ZJ as.toList) fun as=>some (.call f as)
 | _=>none
def Zih (ops:List Oper):Option (Nat×Bool)→Option (Option (Nat×Bool))
 | none=>some none
 | some q=>bnd ops[q.1]? fun g=>bnd g.dst fun t=>some (some (t,q.2))
def Qz (nt:Nat):Option Nat→Bool
 | none=>true
 | some t=>decide (t<nt)
def YE (ops:Array Oper) (i:Nat):List Nat:=match ops[i]? with
 | some o=>(o.after.toList.filter fun e=>Region.binds .any e).map fun e=>e.on
 | none=>[]
def Zdx (ops:Array Oper):Nat→Nat→Nat→Bool
 | 0,i,j=>(YE ops i).contains j
 | n+1,i,j=>(YE ops i).contains j || (YE ops i).any fun z=>Zdx ops n z j
def startO:Op→Bool
 | .call { callee:=.builtin .append,args:=_,argTypes:=_ }=>true
 | .buildSlice _ _ _=>true
 | _=>false
def callO:Op→Bool
 | .call { callee:=.value (.func _),args:=_,argTypes:=_ }=>true
 | _=>false
def ZrE:Op→Bool
 | .move _=>true
 | _=>false
def aheadO:Op→Bool
 | .store _ _ _=>false
 | .box _ _=>false
 | .assign _=>false
 | .makeFunc _ _ _=>false
 | .makeSlice _ _ _=>false
 | .call { callee:=.builtin .append,args:=_,argTypes:=_ }=>false
 | .call { callee:=.value _,args:=_,argTypes:=_ }=>false
 | _=>true
def ZsT:Op→Bool
 | .move _=>true
 | .alloc _=>true
 | .buildSlice _ _ _=>true
 | .load _ _=>true
 | .nilCheck _=>true
 | .binOp _ _ _ _ _=>true
 | .unOp _ _ _=>true
 | .convert _ _ _=>true
 | .fieldAddr _ _ _=>true
 | .indexAddr _ _ _=>true
 | .slice _ _ _ _ _=>true
 | .call { callee:=.builtin .len,args:=_,argTypes:=_ }=>true
 | _=>false
def appO:Op→Bool
 | .call { callee:=.builtin .append,args:=_,argTypes:=_ }=>true
 | _=>false
def lookO:Op→Bool
 | .move _=>true
 | .load _ _=>true
 | .nilCheck _=>true
 | .binOp _ _ _ _ _=>true
 | .convert _ _ _=>true
 | .fieldAddr _ _ _=>true
 | .field _ _ _=>true
 | .extract _ _=>true
 | .indexAddr _ _ _=>true
 | .slice _ _ _ _ _=>true
 | .call { callee:=.builtin .len,args:=_,argTypes:=_ }=>true
 | _=>false
def atO (f:Op→Bool) (ops:List Oper) (k:Nat):Bool:=match ops[k]? with
 | some o=>f o.op
 | none=>false
def firmAt (ops:List Oper) (i:Nat):Bool:=
 (List.range ops.length).all fun k=>if k<i then Zdx ops.toArray 6 i k || atO ZrE ops k else k==i || Zdx ops.toArray 6 k i || atO ZrE ops k
def firmP (ops:List Oper) (i:Nat):Bool:=
 (List.range ops.length).all fun k=>if k<i then Zdx ops.toArray 6 i k || atO lookO ops k else k==i || Zdx ops.toArray 6 k i || atO ZrE ops k
def firmC (ops:List Oper) (i:Nat):Bool:=
 (List.range ops.length).all fun k=>if k<i then Zdx ops.toArray 6 i k || atO aheadO ops k else k==i || Zdx ops.toArray 6 k i || atO ZsT ops k
def Zii (ops:List Oper) (o:Oper):Nat:=ops.findIdx fun x=>x.dst==o.dst
def firm (ops:List Oper) (o:Oper):Bool:=(startO o.op&&firmAt ops (Zii ops o)) || (callO o.op&&firmC ops (Zii ops o)) || (appO o.op&&firmP ops (Zii ops o))
def YF:Option COp→COp
 | some c=>c
 | none=>.stuck
def Zf8 (nt:Nat) (ops:List Oper) (o:Oper):Option CO:=bnd (Zih ops o.guard) fun g=>
 if Qz nt o.dst then some { dst:=o.dst,guard:=g,op:=YF (cOp P o.type o.op),tl:=firm ops o } else none
end
end Go.Abs
