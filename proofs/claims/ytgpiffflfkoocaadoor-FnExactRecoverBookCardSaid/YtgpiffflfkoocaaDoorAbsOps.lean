/- Own text. -/
import Derived.Test.YtgpiffflfkoocaaDoorAbsBase
set_option linter.unusedVariables false
set_option linter.unusedSimpArgs false
namespace Go.Abs
open Go
def mat:List (Option Nat)→List AV→Nat→List AV×Hp
 | some s :: ts,.nil :: vs,b=>let r:=mat ts vs (b+1);(.own b :: r.1,(b,.row s [] true false) :: r.2)
 | _ :: ts,v :: vs,b=>let r:=mat ts vs b;(v :: r.1,r.2)
 | _,vs,_=>(vs,[])
def Zfu:List AV→Bool
 | []=>false
 | .nil :: _=>true
 | _ :: r=>Zfu r
structure Eff where
 val:AV
 adds:Hp:=[]
 sets:Hp:=[]
 dels:List Nat:=[]
 frz:List Nat:=[]
def Zd:Hp→Hp→Hp
 | hp,[]=>hp
 | hp,(k,o) :: r=>Zd (ins hp k o) r
def del:Hp→Nat→Hp
 | [],_=>[]
 | (k,o) :: r,t=>if k=t then del r t else (k,o) :: del r t
def ZW:Hp→List Nat→Hp
 | hp,[]=>hp
 | hp,k :: r=>ZW (del hp k) r
def Z0 (ids:List Nat) (hp:Hp):Hp:=match ids with
 | []=>hp
 | _=>freeze ids hp
def Eff.on (e:Eff) (hp:Hp):Hp:=Zd (Zd (ZW (Z0 e.frz hp) e.dels) e.sets) e.adds
def Zqv:List AV→Nat→List AV→List AV
 | cs,_,[]=>cs
 | cs,off,v :: r=>Zqv (cs.set off v) (off+1) r
def Zgn:List AV→List (Nat×Nat×AV)→Option (List AV)
 | cells,[]=>some cells
 | cells,q :: r=>if q.2.2.solid∧q.2.2.cells.length=q.2.1∧q.1+q.2.1≤cells.length then Zgn (Zqv cells q.1 q.2.2.cells) r else none
def AV.atom:AV→Bool
 | .d x=>x.one
 | .agg _=>false
 | .tup _=>false
 | .clo _ _=>false
 | _=>true
def Zcx:List AV→Bool
 | []=>true
 | v :: r=>v.atom&&Zcx r
def cloV (f:Nat) (cs:List AV):Option AV:=if Zcx cs then some (.clo f cs) else none
def Zep:AV→AV
 | .bbuf _ _=>.junk
 | v=>v
def WT (agg:Bool) (s off:Nat):Option Zf→Option AV
 | some (.box cs)=>if agg then (if off+s≤cs.length then some (We ((cs.drop off).take s)) else none) else (cs[off]?).map Zep
 | _=>none
def U9 (agg:Bool) (s off:Nat) (cs:List D):Option AV:=
 if agg then (if off+s≤cs.length then some (.d (.agg ((cs.drop off).take s))) else none) else asD cs[off]?
def Zeq (agg:Bool) (s sz off:Nat) (x:D):Option AV:=if x.cells.length=sz then U9 agg s off x.cells else none
def Zgo (i off:Nat):Option (Option Nat×Nat×Nat)→Option AV
 | some (some nm,i',c)=>if i=i'∧off=c then some (.own nm) else none
 | _=>none
def Wj (i off:Nat) (lk:Option (Option Nat×Nat×Nat)) (x:D):Option AV:=match x.cells[off]? with
 | some (.sl _)=>Zgo i off lk
 | some y=>if y.plain then some (.d y) else none
 | none=>none
def Wk (id:Nat) (agg:Bool) (s sz i off:Nat):Option Zf→Option AV
 | some (.row sz' xs _ _)=>if sz=sz' then bnd xs[i]? (Zeq agg s sz off) else none
 | some (.tree sz' _ xs lk)=>if sz=sz' then (if agg then none else bnd xs[i]? (Wj i off lk)) else none
 | _=>none
def VA (hp:Hp) (agg:Bool) (s:Nat):AV→Option AV
 | .ptr id off=>WT agg s off (lkp hp id)
 | .prow id sz i off=>Wk id agg s sz i off (lkp hp id)
 | .pim cs=>U9 agg s 0 cs
 | _=>none
def Zlz:AV→Option D
 | .d x=>if x.plain then some x else none
 | _=>none
def Zm2:List AV→Option (List D)
 | []=>some []
 | v :: r=>bnd (Zlz v) fun x=>bnd (Zm2 r) fun ds=>some (x :: ds)
def ZbT (slc:List (Option Nat)) (s base id off:Nat) (vs:List AV):Option Zf→Option Eff
 | some (.box cs)=>if vs.length=s∧off+s≤cs.length∧Q6 vs∧Q9 cs=true then
    (if Zfu vs then some { val := .junk, adds := (mat slc vs base).2, sets := [(id, .box (Zk cs off (mat slc vs base).1))] }
      else some { val:=.junk,sets:=[(id,.box (Zk cs off vs))] })
   else none
 | _=>none
def D.notSl:D→Bool
 | .sl _=>false
 | _=>true
def Zcy (s id sz i off:Nat) (xs:List D) (ex:Bool) (x:D) (q:List D×Bool×List Nat):Option Eff:=
 if x.notSl∧x.cells.length=sz∧q.1.length=s∧off+s≤sz∧q.2.2.contains id=false then
  some { val:=.junk,sets:=[(id,.row sz (xs.set i (Yi x off q.1)) (ex&&q.2.1) false)],frz:=q.2.2 } else none
def Zcz (n id:Nat):Option Zf→Option (D×List Nat)
 | some (.row sz xs true false)=>if sz=n∧Uv D.flat xs then some (.sl xs,[id]) else none
 | some (.tree sz n' xs none)=>if sz=n∧n'=n then some (.sl xs,[id]) else none
 | _=>none
def ZbU (hp:Hp) (n:Nat):AV→Option (D×List Nat)
 | .d x=>if x.plain then some (x,[]) else none
 | .nil=>some (.sl [],[])
 | .own id=>Zcz n id (lkp hp id)
 | _=>none
def Y1 (hp:Hp) (n:Nat):List AV→Option (List D×List Nat)
 | []=>some ([],[])
 | v :: r=>bnd (ZbU hp n v) fun q=>bnd (Y1 hp n r) fun p=>if !q.2.any p.2.contains then some (q.1 :: p.1,q.2++p.2) else none
def D.isAgg:D→Bool
 | .agg _=>true
 | _=>false
def Wl (i off s:Nat):Option (Option Nat×Nat×Nat)→Option (Option Nat×Nat×Nat)
 | some (nm,i',c)=>if i=i'∧off≤c∧c<off+s then none else some (nm,i',c)
 | none=>none
def ZcA (s id sz n i off:Nat) (xs:List D) (lk:Option (Option Nat×Nat×Nat)) (x:D) (q:List D×List Nat):Option Eff:=
 if x.isAgg∧x.cells.length=sz∧q.1.length=s∧off+s≤sz∧q.2.contains id=false then
  some { val:=.junk,sets:=[(id,.tree sz n (xs.set i (Yi x off q.1)) (Wl i off s lk))],dels:=q.2 } else none
def Ja (hp:Hp) (s id sz i off:Nat) (vs:List AV):Option Zf→Option Eff
 | some (.row sz' xs ex false)=>if sz=sz' then bnd xs[i]? fun x=>bnd (YE hp vs) fun q=>Zcy s id sz i off xs ex x q else none
 | some (.tree sz' n xs lk)=>if sz=sz' then bnd xs[i]? fun x=>bnd (Y1 hp n vs) fun q=>ZcA s id sz n i off xs lk x q else none
 | _=>none
def Uh (hp:Hp) (slc:List (Option Nat)) (s base:Nat) (vs:List AV):AV→Option Eff
 | .ptr id off=>ZbT slc s base id off vs (lkp hp id)
 | .prow id sz i off=>Ja hp s id sz i off vs (lkp hp id)
 | _=>none
def uni (s:Nat) (ys:List D):Prop:=∀ y∈ys,y.cells.length=s
def ZZ:Nat:=140737488355328
def QS (ys:List D):Prop:=∀ y∈ys,y.flat=true
def ZlA (flat:Bool):Option Zf→Option (List D×Bool)
 | some (.row _ ys ex _)=>some (ys,ex || flat)
 | _=>none
def Ziq:AV→Option (List D×Bool)
 | .d (.str s)=>some (s.map fun b=>.int .u8 b.toNat,true)
 | _=>none
def Zg7 (flat:Bool) (off n:Nat):Option Zf→Option (List D×Bool)
 | some (.row _ ys ex _)=>some ((ys.drop off).take n,ex || flat)
 | _=>none
def ZbV (hp:Hp) (flat:Bool):AV→Option (List D×Bool)
 | .nil=>some ([],true)
 | .d (.sl ys)=>some (ys,flat)
 | .own id=>ZlA flat (lkp hp id)
 | .ownv id off n=>Zg7 flat off n (lkp hp id)
 | _=>none
def ZlB (sz base:Nat) (dels:List Nat) (xs:List D) (ex:Bool):Eff:=
 { val:=.own base,adds:=[(base,.row sz xs ex false)],dels:=dels }
def Zir (sz by_ base id:Nat) (ys:List D) (ex' : Bool):Option Zf→Option Eff
 | some (.row sz' xs ex false)=>if sz'=sz∧(xs.length+ys.length)*by_≤ZZ∧xs.length+ys.length≤ZZ then some (ZlB sz base [id] (xs++ys) (ex&&ex')) else none
 | _=>none
def Zer (sz by_ base id n:Nat) (ys:List D) (ex' : Bool):Option Zf→Option Eff
 | some (.row sz' xs ex false)=>if sz'=sz∧(n+ys.length)*by_≤ZZ∧n+ys.length≤ZZ then some (ZlB sz base [id] (xs.take n++ys) (ex&&ex')) else none
 | _=>none
def Zes (sz base id n:Nat) (ys:List D) (ex' : Bool):Option Zf→Option Eff
 | some (.row sz' xs ex false)=>if sz'=sz∧0<xs.length∧n+ys.length≤xs.length then
   some { val:=.ownv base 0 (n+ys.length),adds:=[(base,.row sz (xs.take n++ys++xs.drop (n+ys.length)) (ex&&ex') false)],dels:=[id] } else none
 | _=>none
def Zc7 (hp:Hp) (sz by_:Nat) (base:Nat) (src:List Nat) (ys:List D) (ex' : Bool):AV→Option Eff
 | .nil=>if ys.length*by_≤ZZ∧ys.length≤ZZ then some (ZlB sz base [] ys ex') else none
 | .own id=>if src.contains id then none else Zir sz by_ base id ys ex' (lkp hp id)
 | .ownv id off n=>if off≠0 then none else if src.contains id then Zes sz base id n ys ex' (lkp hp id) else Zer sz by_ base id n ys ex' (lkp hp id)
 | _=>none
open Classical in
noncomputable def Wm (hp:Hp) (sz by_:Nat) (str flat:Bool) (base:Nat) (s x:AV):Option Eff:=
 bnd (if str then Ziq x else ZbV hp flat x) fun q=>if uni sz q.1∧(flat=true→QS q.1) then Zc7 hp sz by_ base (Jx x) q.1 q.2 s else none
def idx (i:AV):Option Int:=match i with
 | .d (.int _ n)=>some n
 | _=>none
def Zpl (sz:Nat) (y:D):Option AV:=if y.cells.length=sz then some (.pim y.cells) else none
def JC (sz id n:Nat):Option Zf→Option AV
 | some (.row sz' xs _ _)=>if sz'=sz∧n<xs.length then some (.prow id sz n 0) else none
 | some (.tree sz' _ xs _)=>if sz'=sz∧n<xs.length then some (.prow id sz n 0) else none
 | _=>none
def Jb (sz id off m n:Nat):Option Zf→Option AV
 | some (.row sz' _ _ _)=>if sz'=sz∧n<m then some (.prow id sz (off+n) 0) else none
 | _=>none
def Qh (hp:Hp) (sz n:Nat):AV→Option AV
 | .d (.sl xs)=>bnd xs[n]? (Zpl sz)
 | .own id=>JC sz id n (lkp hp id)
 | .ownv id off m=>Jb sz id off m n (lkp hp id)
 | _=>none
def bd (m:Nat) (v:AV):Option Nat:=bnd (idx v) fun n=>if 0≤n∧n≤m then some n.toNat else none
def hiOf (len:Nat):Option AV→Option Nat
 | none=>some len
 | some v=>bd len v
def loOf (h:Nat):Option AV→Option Nat
 | none=>some 0
 | some v=>bd h v
def ZlC (len:Nat) (lo hi:Option AV):Option (Nat×Nat):=bnd (hiOf len hi) fun h=>bnd (loOf h lo) fun l=>some (l,h)
def Zm3 (id n:Nat):Option AV→Option AV→Option AV
 | none,none=>some (.own id)
 | lo,hi=>bnd (ZlC n lo hi) fun b=>some (.ownv id b.1 (b.2-b.1))
def Jc (s id:Nat) (lo hi:Option AV):Option Zf→Option AV
 | some (.row sz xs _ _)=>if sz=s then Zm3 id xs.length lo hi else none
 | _=>none
def ZrV (n m:Nat) (lo:Option AV):Option AV→Option (Nat×Nat)
 | none=>ZlC n lo none
 | some h=>ZlC m lo (some h)
def WH (s id off n:Nat) (lo hi:Option AV):Option Zf→Option AV
 | some (.row sz xs _ _)=>if sz=s then bnd (ZrV n (xs.length-off) lo hi) fun b=>some (.ownv id (off+b.1) (b.2-b.1)) else none
 | _=>none
def slice3 (hp:Hp) (x:AV) (lo hi mx:Option Int):Option AV:=bnd lo fun l=>bnd hi fun h=>bnd mx fun m=>bnd (JQ hp x) fun n=>
 if 0≤l∧l≤h∧h≤m∧m≤n then some .junk else none
def Zet (s id off n:Nat) (z:D):Option Zf→Option Eff
 | some (.row sz xs ex false)=>if sz=s∧z.cells.length=s∧off+n≤xs.length then some { val:=.tup [],sets:=[(id,.row sz (xs.take off++List.replicate n z++xs.drop (off+n)) ex false)] } else none
 | _=>none
def ZaS (hp:Hp) (s:Nat) (z:D):AV→Option Eff
 | .ownv id off n=>Zet s id off n z (lkp hp id)
 | _=>none
open Classical in
noncomputable def Yz (hp:Hp) (s:Nat) (lo hi:Option AV):AV→Option AV
 | .d (.sl xs)=>if uni s xs then bnd (ZlC xs.length lo hi) fun b=>some (.d (.sl ((xs.take b.2).drop b.1))) else none
 | .nil=>bnd (ZlC 0 lo hi) fun _=>some .nil
 | .own id=>Jc s id lo hi (lkp hp id)
 | .ownv id off n=>WH s id off n lo hi (lkp hp id)
 | _=>none
def sliceS (lo hi:Option AV):AV→Option AV
 | .d (.str s)=>bnd (ZlC s.length lo hi) fun b=>some (.d (.str ((s.take b.2).drop b.1)))
 | _=>none
def slice0 (hp:Hp) (x:AV) (hi mx:Option Int):Option AV:=match hi,mx with
 | some 0,some 0=>bnd (JQ hp x) fun _=>some .nil
 | _,_=>none
def Zeu (agg:Bool) (s off:Nat):AV→Option AV
 | .d (.agg cs)=>U9 agg s off cs
 | .agg cs=>if agg then (if off+s≤cs.length then some (We ((cs.drop off).take s)) else none) else cs[off]?
 | _=>none
abbrev Orc:=Nat→List AV→List Zf→Option (AV×List Zf)
abbrev Zh:=Nat→Nat→Bool
def ZaT (hp:Hp) (id:Nat):Bool→Option AV
 | true=>some (.own id)
 | false=>asD (ZcR hp (.own id))
def ZbW:Bool→Option AV
 | true=>some .nil
 | false=>some (.d (.sl []))
def ZaU (hp:Hp) (cs:List AV):Bool→Option AV
 | true=>if JP cs then none else some (.agg cs)
 | false=>asD (toD hp (.agg cs))
def Jt (hp:Hp) (m:Bool):AV→Option AV
 | .ptr a b=>some (.ptr a b)
 | .clo f c=>some (.clo f c)
 | .nilp=>some .nilp
 | .nili=>some .nili
 | .pim c=>some (.pim c)
 | .own id=>ZaT hp id m
 | .nil=>ZbW m
 | .d x=>some (.d x)
 | .agg cs=>ZaU hp cs m
 | v=>asD (toD hp v)
def args (hp:Hp) (m:Nat→Bool):Nat→List AV→Option (List AV)
 | _,[]=>some []
 | i,v :: r=>bnd (Jt hp (m i) v) fun a=>bnd (args hp m (i+1) r) fun as=>some (a :: as)
def Wn (hp:Hp) (go:List Nat→List Nat→List Nat) (id:Nat) (todo acc:List Nat):Option Zf→List Nat
 | some o=>go (todo++Wf o) (acc++[id])
 | none=>go todo acc
def QF (hp:Hp):Nat→List Nat→List Nat→List Nat
 | 0,_,acc=>acc
 | _+1,[],acc=>acc
 | n+1,id :: todo,acc=>if acc.contains id then QF hp n todo acc else Wn hp (QF hp n) id todo acc (lkp hp id)
def YH:List Nat→Nat→Nat
 | [],_=>0
 | x :: r,t=>if x=t then 0 else YH r t+1
def Zm4:Option Zf→Zf
 | some o=>o
 | none=>.gone
def JS (hp:Hp):List Nat→List Zf
 | []=>[]
 | id :: r=>Zm4 (lkp hp id) :: JS hp r
def W2 (ids:List Nat) (o:Zf):Zf:=Zd7 (YH ids) (QU ((Wf o).filter fun i=>!ids.contains i) o)
def ZbX:Option Zf→Bool
 | some (.row _ _ _ _)=>true
 | some (.tree _ _ _ _)=>true
 | some .gone=>true
 | _=>false
def Jd:AV→Bool
 | .d x=>x.flat
 | .pim _=>false
 | .agg _=>false
 | .tup _=>false
 | .clo _ _=>false
 | _=>true
def JT:AV→Bool
 | .agg cs=>cs.all Jd
 | .clo _ cs=>cs.all Jd
 | v=>Jd v
def Zkn:AV→Bool
 | .tup vs=>vs.all JT
 | v=>JT v
def ZbY:Zf→Bool
 | .box cs=>cs.all JT
 | .row _ _ ex fz=>ex&&!fz
 | .tree _ _ _ _=>true
 | .gone=>true
def ZdD (d:Nat):Option Nat→Nat
 | some i=>i
 | none=>d
def Y2 (ids:List Nat) (base k:Nat):Nat:=ZdD (base+(k-ids.length)) ids[k]?
def Je (g:Nat→Nat):List Nat→List Zf→Hp
 | id :: ids,o :: os=>(id,Zd7 g o) :: Je g ids os
 | _,_=>[]
def Jf (g:Nat→Nat):Nat→List Zf→Hp
 | _,[]=>[]
 | k,o :: os=>(k,Zd7 g o) :: Jf g (k+1) os
structure Zb where
 eff:Eff
 gone:List Nat
def Xd (_hp:Hp):Nat:=1000
def XV:List AV→List AV→List Nat
 | v :: vs,.d _ :: as=>ZaJ v++XV vs as
 | _ :: vs,_ :: as=>XV vs as
 | _,_=>[]
def Jg:Option Zf→Bool
 | some (.tree _ _ _ _)=>true
 | _=>false
def Zfv:List Nat→List Zf→List Nat
 | id :: ids,.gone :: os=>id :: Zfv ids os
 | _ :: ids,_ :: os=>Zfv ids os
 | _,_=>[]
def Zfw (hp:Hp) (ids:List Nat) (out:List Zf):Bool→List Nat
 | true=>Zfv ids out
 | false=>ids.filter fun i=>ZbX (lkp hp i)
def W3 (keep:Bool) (hp:Hp) (base:Nat) (ids lent:List Nat) (r:AV) (out:List Zf):Option Zb:=
 if out.length<ids.length then none else if !(Zkn r&&out.all ZbY)&&lent.any fun i=>Jg (lkp hp i) then none else
  some { eff := { val:=ren (Y2 ids base) r,adds:=Jf (Y2 ids base) base (out.drop ids.length),sets:=Je (Y2 ids base) ids out,frz:=if Zkn r&&out.all ZbY then [] else lent },gone:=Zfw hp ids out keep }
def Wx:AV→List Nat
 | .ptr id _=>[id]
 | .clo _ cs=>cs.flatMap Zg
 | _=>[]
def UC (hp:Hp) (rs ids:List Nat):Bool:=ids.all fun i=>ZbX (lkp hp i) || rs.contains i
def ZaV (C:Orc) (keep:Bool) (hp:Hp) (base f:Nat) (lent:List Nat) (as:List AV) (ids:List Nat):Option Zb:=
 if (as.flatMap Zl).all ids.contains∧¬lent.any ids.contains∧UC hp (as.flatMap Wx) ids=true then
  bnd (C f (as.map (ren (YH ids))) ((JS hp ids).map (W2 ids))) fun q=>W3 keep hp base ids lent q.1 q.2
 else none
def JD (C:Orc) (m:Nat→Bool) (hp:Hp) (base f:Nat) (avs:List AV):Option Zb:=
 bnd (args hp m 0 avs) fun as=>ZaV C (m 99) hp base f (XV avs as) as (QF hp (Xd hp) (as.flatMap Zl) [])
def Qw (v:AV):Option Zb:=some { eff := { val:=v },gone:=[] }
def YA (v:Option AV):Option Zb:=bnd v Qw
def Zbl (e:Option Eff):Option Zb:=bnd e fun e=>some { eff:=e,gone:=[] }
def ZaW (base:Nat) (e:Option Nat):AV→Option Zb
 | .nil=>bnd e fun s=>some { eff := { val:=.own base,adds:=[(base,.row s [] true false)] },gone:=[] }
 | v=>Qw v
def ZbZ (a b:AV):AV→Option Zb
 | .d (.bool t)=>if t then Qw a else Qw b
 | _=>none
def ZdE (base:Nat):AV→AV
 | .bnil _ e=>.bnil base e
 | v=>v
def bnT (t te:Nat):List AV→List AV
 | [.nilp,.nil]=>[.bnil 0 t,.bbuf te []]
 | cs=>cs
def ZrW:List AV→Bool
 | [.bnil _ _,.bbuf _ []]=>true
 | _=>false
def Zis (slc:List (Option Nat)) (base:Nat) (cs:List AV):Option Zb:=
 if Q9 cs=false then (if ZrW cs=true then some { eff := { val:=.ptr base 0,adds:=[(base,.box cs)] },gone:=[] } else none) else
 if Zfu cs then some { eff := { val:=.ptr base 0,adds:=(base,.box (mat slc cs (base+1)).1) :: (mat slc cs (base+1)).2 },gone:=[] }
 else some { eff := { val:=.ptr base 0,adds:=[(base,.box cs)] },gone:=[] }
def Zb0 (slc:List (Option Nat)) (base:Nat) (cs:List AV):Option Zb:=Zis slc base (cs.map (ZdE base))
def Zqw (base:Nat) (x:AV):Option Zb:=if x.solid&&Q9 x.cells then some { eff := { val:=.ptr base 0,adds:=[(base,.box x.cells)] },gone:=[] } else none
def Zit (zs:List AV) (ps:List (Nat×Nat×AV)):Option Zb:=bnd (Zgn zs ps) fun cs=>Qw (We cs)
def Zqx (base s:Nat) (q:List D×Bool×List Nat):Option Zb:=
 if q.1.all (fun d=>d.cells.length==s) then some { eff := { val:=.own base,adds:=[(base,.row s q.1 q.2.1 false)],frz:=q.2.2 },gone:=[] } else none
def buildSl (hp:Hp) (base s:Nat):List AV→Option Zb
 | []=>Qw .nil
 | v :: vs=>bnd (Ve hp (v :: vs)) (Zqx base s)
def VH (hp:Hp) (n s:Nat):List AV→Option (List D×List Nat)
 | []=>some ([],[])
 | .agg cs :: r=>bnd (Y1 hp n cs) fun q=>bnd (VH hp n s r) fun p=>
   if q.1.length=s∧(!q.2.any p.2.contains)=true then some (.agg q.1 :: p.1,q.2++p.2) else none
 | _=>none
def asgT (base s n:Nat):AV→Option Zb
 | .nil=>some { eff := { val:=.own base,adds:=[(base,.tree s n [] none)] },gone:=[] }
 | _=>none
def buildT (hp:Hp) (base s n:Nat) (vs:List AV):Option Zb:=
 if vs.isEmpty=false then bnd (VH hp n s vs) fun q=>some { eff := { val:=.own base,adds:=[(base,.tree s n q.1 none)],dels:=q.2 },gone:=[] } else none
def WI:AV→Option Zb
 | .ptr a b=>Qw (.ptr a b)
 | .prow a b c d=>Qw (.prow a b c d)
 | .pim c=>Qw (.pim c)
 | .clo f c=>Qw (.clo f c)
 | _=>none
def Ziu (op:BinOp) (eq:Bool):AV→AV→Option Zb
 | .d (.bool a),.d (.bool b)=>if eq then YA (ZjW op a b) else none
 | a,b=>YA (vbin op a b)
def Wu:List Nat→List D→List D→Option Bool
 | [],[],[]=>some true
 | 0 :: ks,.int k a :: cs,.int k' b :: ds=>if k=k' then bnd (Wu ks cs ds) fun r=>some (decide (a=b)&&r) else none
 | 1 :: ks,.bool a :: cs,.bool b :: ds=>bnd (Wu ks cs ds) fun r=>some (decide (a=b)&&r)
 | 2 :: ks,.str a :: cs,.str b :: ds=>bnd (Wu ks cs ds) fun r=>some (decide (a=b)&&r)
 | _,_,_=>none
def Ziv (neg:Bool) (r:Bool):Bool:=if neg then !r else r
def ZlD (neg:Bool) (ks:List Nat):AV→AV→Option Zb
 | .d (.agg cs),.d (.agg ds)=>bnd (Wu ks cs ds) fun r=>Qw (.d (.bool (Ziv neg r)))
 | _,_=>none
def convI (k:IntKind):AV→Option Zb
 | .d (.int _ n)=>Qw (.d (.int k (k.wrap n)))
 | _=>none
def convS:AV→Option Zb
 | .d (.str s)=>Qw (.d (.str s))
 | _=>none
def Zko (base s b:Nat) (z:D) (l c:Int):Option Zb:=
 if 0≤l∧l≤c∧c*b≤ZZ∧c≤ZZ∧z.cells.length=s then
  some { eff := { val:=.own base,adds:=[(base,.row s (List.replicate l.toNat z) true false)] },gone:=[] } else none
def makeT (base s b ns:Nat) (z:D) (l c:Int):Option Zb:=
 if 0≤l∧l≤c∧c*b≤ZZ∧c≤ZZ∧z.cells.length=s∧z.isAgg=true then
  some { eff := { val:=.own base,adds:=[(base,.tree s ns (List.replicate l.toNat z) none)] },gone:=[] } else none
def Y3 (off:Nat):AV→Option Zb
 | .ptr id o=>Qw (.ptr id (o+off))
 | .prow id sz i o=>Qw (.prow id sz i (o+off))
 | .pim cs=>Qw (.pim (cs.drop off))
 | _=>none
def Ziw (x:AV) (n:Int) (len s:Nat):Option Zb:=if 0≤n∧n<len then Y3 (n.toNat*s) x else none
def Zc8 (hp:Hp) (s:Nat) (x:AV) (n:Int):Option Zb:=if 0≤n then YA (Qh hp s n.toNat x) else none
def Zm5 (s:List UInt8) (n:Int):Option Zb:=if 0≤n then bnd s[n.toNat]? fun b=>Qw (.d (.int .u8 b.toNat)) else none
def Zqy (g:Bool) (s len:Nat) (n:Int) (v:AV):Option Zb:=if 0≤n∧n<len then YA (Zeu g s (n.toNat*s) v) else none
def Zoe (n:Int):AV→Option Zb
 | .d (.str s)=>Zm5 s n
 | _=>none
def Zm6 (i:Nat):AV→Option Zb
 | .tup vs=>YA vs[i]?
 | _=>none
def Zfx:Option Zf→Option (Nat×Nat×List D)
 | some (.tree s n xs none)=>some (s,n,xs)
 | _=>none
def JE (hp:Hp):AV→Option (Nat×Nat×Nat×List D)
 | .own id=>bnd (Zfx (lkp hp id)) fun q=>some (id,q)
 | _=>none
def UD (hp:Hp) (s b base id n:Nat) (ys:List D):AV→Option Eff
 | .nil=>if ys.length*b≤ZZ∧ys.length≤ZZ then some { val:=.own base,adds:=[(base,.tree s n ys none)],dels:=[id] } else none
 | .own id1=>bnd (Zfx (lkp hp id1)) fun q=>if q.1=s∧q.2.1=n∧id1≠id∧(q.2.2.length+ys.length)*b≤ZZ∧q.2.2.length+ys.length≤ZZ then
   some { val:=.own base,adds:=[(base,.tree s n (q.2.2++ys) none)],dels:=[id1,id] } else none
 | _=>none
def Wo (xs:List D) (i c:Nat):Option (List D):=bnd xs[i]? fun x=>match x.cells[c]? with
 | some (.sl ys)=>some ys
 | _=>none
def Xe (hp:Hp):AV→List Nat
 | .own id=>if Jg (lkp hp id) then [id] else []
 | _=>[]
def Zev:Zf→Zf
 | .tree s _ xs none=>.row s xs true false
 | o=>o
def meltIn (hp:Hp):List Nat→Hp
 | []=>hp
 | i :: r=>match lkp hp i with
  | some o=>ins (meltIn hp r) i (Zev o)
  | none=>meltIn hp r
noncomputable def Yk (hp:Hp) (s b:Nat) (str flat:Bool) (base:Nat) (x y:AV):List Nat→Option Eff
 | []=>Wm hp s b str flat base x y
 | i :: r=>if flat then none else bnd (Wm (meltIn hp (i :: r)) s b str flat base x y) fun e=>some { val:=e.val,adds:=e.adds,sets:=e.sets,dels:=e.dels++(i :: r),frz:=e.frz }
def appT (hp:Hp) (s b base:Nat) (x y:AV):Option Zb:=Zbl (bnd (JE hp y) fun q=>if q.2.1=s then UD hp s b base q.1 q.2.2.1 q.2.2.2 x else none)
noncomputable def JU (hp:Hp) (s b:Nat) (str flat:Bool) (base:Nat) (x y:AV):List Nat→List Nat→Option Zb
 | [],m=>Zbl (Yk hp s b str flat base x y m)
 | i :: r,[]=>Zbl (Yk hp s b str flat base x y (i :: r))
 | _ :: _,_ :: _=>if flat || str then none else appT hp s b base x y
noncomputable def Zm7 (hp:Hp) (s b:Nat) (str flat:Bool) (base:Nat) (x y:AV):Option Zb:=JU hp s b str flat base x y (Xe hp x) (Xe hp y)
def Zgp:AV→AV→Option Zb
 | .d (.int k a),.d (.int k' b)=>if k=k' then Qw (.d (.int k (minI a b))) else none
 | _,_=>none
def Zgq:AV→AV→Option Zb
 | .d (.int k a),.d (.int k' b)=>if k=k' then Qw (.d (.int k (maxI a b))) else none
 | _,_=>none
inductive Opd where
 | t (n:Nat)
 | v (a:AV)
 | f (n:Nat)
def evO (sl:Sl):Opd→AV
 | .t n=>gs sl n
 | .v a=>a
 | .f n=>.clo n []
def evL (sl:Sl):List Opd→List AV
 | []=>[]
 | x :: r=>evO sl x :: evL sl r
def evP (sl:Sl):List (Nat×Nat×Opd)→List (Nat×Nat×AV)
 | []=>[]
 | (a,b,x) :: r=>(a,b,evO sl x) :: evP sl r
def evM (sl:Sl):Option Opd→Option AV
 | none=>none
 | some x=>some (evO sl x)
inductive COp where
 | move (x:Opd)
 | assign (s:Option Nat) (x:Opd)
 | pick (c a b:Opd)
 | alloc (slc:List (Option Nat)) (cs:List AV)
 | box (x:Opd)
 | build (zs:List AV) (ps:List (Nat×Nat×Opd))
 | buildSl (s:Nat) (xs:List Opd)
 | load (g:Bool) (s:Nat) (a:Opd)
 | store (slc:List (Option Nat)) (s:Nat) (a x:Opd)
 | nilCheck (x:Opd)
 | bin (op:BinOp) (eq:Bool) (x y:Opd)
 | un (op:UnOp) (x:Opd)
 | eqA (neg:Bool) (ks:List Nat) (x y:Opd)
 | convI (k:IntKind) (x:Opd)
 | convS (x:Opd)
 | fn (f:Nat) (caps:List Opd)
 | make (s b:Nat) (z:D) (l c:Opd)
 | slice (s:Nat) (x:Opd) (lo hi:Option Opd)
 | sliceS (x:Opd) (lo hi:Option Opd)
 | slice0 (x hi mx:Opd)
 | shift (off:Nat) (x:Opd)
 | part (g:Bool) (s off:Nat) (x:Opd)
 | iaS (s:Nat) (x i:Opd)
 | iaA (len s:Nat) (x i:Opd)
 | ixS (x i:Opd)
 | ixA (g:Bool) (s len:Nat) (x i:Opd)
 | nth (i:Nat) (x:Opd)
 | len (x:Opd)
 | lenS (x:Opd)
 | append (s b:Nat) (str flat:Bool) (x y:Opd)
 | min (x y:Opd)
 | max (x y:Opd)
 | call (f:Opd) (as:List Opd)
 | slice3 (s:Nat) (x lo hi mx:Opd)
 | clear (s:Nat) (z:D) (x:Opd)
 | stuck
 | buildT (s n:Nat) (xs:List Opd)
 | appT (s b:Nat) (flat:Bool) (x y:Opd)
 | asgT (s n:Nat) (x:Opd)
 | makeT (s b n:Nat) (z:D) (l c:Opd)
structure CO where
 dst:Option Nat
 guard:Option (Nat×Bool)
 op:COp
 tl:Bool
def JV (C:Orc) (M:Zh) (hp:Hp) (base:Nat) (as:List AV):AV→Option Zb
 | .clo g caps=>JD C (M g) hp base g (as++caps)
 | _=>none
noncomputable def vop (C:Orc) (M:Zh) (sl:Sl) (hp:Hp) (base:Nat):COp→Option Zb
 | .move x=>Qw (evO sl x)
 | .assign s x=>ZaW base s (evO sl x)
 | .pick c a b=>ZbZ (evO sl a) (evO sl b) (evO sl c)
 | .alloc slc cs=>Zb0 slc base cs
 | .box x=>Zqw base (evO sl x)
 | .build zs ps=>Zit zs (evP sl ps)
 | .buildSl s xs=>buildSl hp base s (evL sl xs)
 | .load g s a=>YA (VA hp g s (evO sl a))
 | .store slc s a x=>Zbl (Uh hp slc s base (evO sl x).cells (evO sl a))
 | .nilCheck x=>WI (evO sl x)
 | .bin op eq x y=>Ziu op eq (evO sl x) (evO sl y)
 | .un op x=>YA (vun op (evO sl x))
 | .eqA neg ks x y=>ZlD neg ks (evO sl x) (evO sl y)
 | .convI k x=>convI k (evO sl x)
 | .convS x=>convS (evO sl x)
 | .fn f cs=>YA (cloV f (evL sl cs))
 | .make s b z l c=>bnd (idx (evO sl l)) fun l=>bnd (idx (evO sl c)) fun c=>Zko base s b z l c
 | .slice s x lo hi=>YA (Yz hp s (evM sl lo) (evM sl hi) (evO sl x))
 | .sliceS x lo hi=>YA (sliceS (evM sl lo) (evM sl hi) (evO sl x))
 | .slice0 x hi mx=>YA (slice0 hp (evO sl x) (idx (evO sl hi)) (idx (evO sl mx)))
 | .shift off x=>Y3 off (evO sl x)
 | .part g s off x=>YA (Zeu g s off (evO sl x))
 | .iaS s x i=>bnd (idx (evO sl i)) fun n=>Zc8 hp s (evO sl x) n
 | .iaA len s x i=>bnd (idx (evO sl i)) fun n=>Ziw (evO sl x) n len s
 | .ixS x i=>bnd (idx (evO sl i)) fun n=>Zoe n (evO sl x)
 | .ixA g s len x i=>bnd (idx (evO sl i)) fun n=>Zqy g s len n (evO sl x)
 | .nth i x=>Zm6 i (evO sl x)
 | .len x=>bnd (JQ hp (evO sl x)) fun n=>Qw (.d (.int .i64 n))
 | .lenS x=>bnd (ZpV (evO sl x)) fun n=>Qw (.d (.int .i64 n))
 | .append s b str flat x y=>Zm7 hp s b str flat base (evO sl x) (evO sl y)
 | .min x y=>Zgp (evO sl x) (evO sl y)
 | .max x y=>Zgq (evO sl x) (evO sl y)
 | .call f as=>JV C M hp base (evL sl as) (evO sl f)
 | .slice3 _ x lo hi mx=>YA (slice3 hp (evO sl x) (idx (evO sl lo)) (idx (evO sl hi)) (idx (evO sl mx)))
 | .clear s z x=>Zbl (ZaS hp s z (evO sl x))
 | .stuck=>none
 | .buildT s n xs=>buildT hp base s n (evL sl xs)
 | .appT s b _ x y=>appT hp s b base (evO sl x) (evO sl y)
 | .asgT s n x=>asgT base s n (evO sl x)
 | .makeT s b n z l c=>bnd (idx (evO sl l)) fun l=>bnd (idx (evO sl c)) fun c=>makeT base s b n z l c
section
variable (P:Program)
def Xz (t:TypeId):Option TypeId:=match P.underlying t with
 | some (.slice e)=>some e
 | _=>none
def WJ (t:TypeId):Bool:=match P.underlying t with
 | some .string=>true
 | _=>false
def ZcB (t:TypeId):Bool:=match P.underlying t with
 | some .bool=>true
 | _=>false
def Zqz (t:TypeId):Option IntKind:=match P.underlying t with
 | some (.int k)=>some k
 | _=>none
def ZdF (t:TypeId):Option (Nat×TypeId):=match P.underlying t with
 | some (.array n e)=>some (n,e)
 | _=>none
def Zaq (t:TypeId):Option Bool:=match P.underlying t with
 | some (.struct _)=>some true
 | some (.array _ _)=>some true
 | some _=>some false
 | none=>none
def ZaX (s:TypeId) (f:Nat):Option (Nat×TypeId):=match P.underlying s with
 | some (.struct fs)=>match fs[f]? with
  | some x=>if P.cellsOf x.type=0 then none else some (x.offset,x.type)
  | none=>none
 | _=>none
def W4 (t:TypeId):Option Value:=match P.info? t with
 | some i=>i.zero
 | none=>none
def Zpm:Nat→TypeId→List TypeId
 | 0,t=>[t]
 | n+1,t=>match P.underlying t with
  | some (.struct fs)=>fs.toList.flatMap fun f=>Zpm n f.type
  | some (.array k e)=>(List.replicate k (Zpm n e)).flatten
  | _=>[t]
def slcT (t:TypeId):List (Option Nat):=(Zpm P 4 t).map fun c=>(Xz P c).map P.cellsOf
def flatE (t:TypeId):Bool:=(Zpm P 4 t).all fun c=>match P.underlying c with
 | some (.int _)=>true
 | some .bool=>true
 | some .string=>true
 | _=>false
def Jh:Nat→TypeId→Nat→Option (List (Nat×Nat))
 | 0,_,_=>none
 | n+1,t,off=>match P.underlying t with
  | some (.int _)=>if P.cellsOf t=1 then some [(off,0)] else none
  | some .bool=>if P.cellsOf t=1 then some [(off,1)] else none
  | some .string=>if P.cellsOf t=1 then some [(off,2)] else none
  | some (.struct fs)=>if P.stoodInHeld t then none else
    bnd (Qe (fun f:Field=>if f.name = "_"∨P.cellsOf t<f.offset+P.cellsOf f.type then none else Jh n f.type (off+f.offset)) fs.toList) fun ls=>some ls.flatten
  | _=>none
def Xb (t:TypeId):Bool:=match P.underlying t with
 | some (.struct _)=>true
 | _=>false
def Zm8 (t:TypeId):Option (List Nat):=bnd (Jh P 5 t 0) fun ls=>
 if ls.map (·.1)=List.range (P.cellsOf t)∧Xb P t=true∧P.eqGuardType P.depth t=false then some (ls.map (·.2)) else none
def Zm9 (neg:Bool) (op:BinOp) (t:TypeId) (x y:Opd):Option (List Nat)→COp
 | some ks=>.eqA neg ks x y
 | none=>.bin op (ZcB P t) x y
def Zof (op:BinOp) (t:TypeId) (x y:Opd):COp:=match op with
 | .eql=>Zm9 P false .eql t x y (Zm8 P t)
 | .neq=>Zm9 P true .neq t x y (Zm8 P t)
 | op=>.bin op (ZcB P t) x y
end
section
variable (P:Program)
def ZJ:Operand→Option Opd
 | .tmp t=>some (.t t)
 | .const v=>some (.v (evC v))
 | .global _=>none
 | .func f=>some (.f f)
def Zna (pl:Nat→Option (Nat×Nat)) (q:Nat×Operand):Option (Nat×Nat×Opd):=bnd (pl q.1) fun p=>bnd (ZJ q.2) fun x=>some (p.1,p.2,x)
def cOO:Option Operand→Option (Option Opd)
 | none=>some none
 | some x=>bnd (ZJ x) fun y=>some (some y)
def ZaY (t:TypeId):Option (Nat×TypeId)→Nat→Option (Nat×Nat)
 | none,i=>bnd (ZaX P t i) fun q=>some (q.1,P.cellsOf q.2)
 | some a,i=>some (i*P.cellsOf a.2,P.cellsOf a.2)
def Vp (t:TypeId):Bool:=match P.info? t with
 | some i=>(match i.zero with
  | some z=>z.cells.size==i.size&&decide (0<i.size)
  | none=>false)
 | none=>false
def Zew (t:TypeId):Bool:=match P.underlying t with
 | some (.struct fs)=>fs.toList.all fun f=>(P.info? f.type).isSome
 | some (.array _ e)=>(P.info? e).isSome
 | _=>false
def Zgr (e:TypeId) (u:TypeId):Option Bool:=match Xz P u with
 | some e'=>if e'=e then some false else none
 | none=>if WJ P u then some true else none
def Zix (x i:Opd) (a:Option (Nat×TypeId)):Option TypeId→Option COp
 | some e=>if (P.info? e).isSome then some (.iaS (P.cellsOf e) x i) else none
 | none=>bnd a fun a=>if (P.info? a.2).isSome then some (.iaA a.1 (P.cellsOf a.2) x i) else none
def ZlE (x i:Opd) (str:Bool) (a:Option (Nat×TypeId)):Option COp:=
 if str then some (.ixS x i) else bnd a fun a=>bnd (Zaq P a.2) fun g=>some (.ixA g (P.cellsOf a.2) a.1 x i)
def Zpn (x:Opd) (ss sd:Bool):Option IntKind→Option IntKind→Option COp
 | some _,some k=>some (.convI k x)
 | _,_=>if ss&&sd then some (.convS x) else none
def cLen (x:Opd) (str:Bool):Option TypeId→Option COp
 | some _=>some (.len x)
 | none=>if str then some (.lenS x) else none
def Zog (x:Opd) (lo hi:Option Opd) (str:Bool):Option TypeId→Option COp
 | some e=>if (P.info? e).isSome then some (.slice (P.cellsOf e) x lo hi) else none
 | none=>if str then some (.sliceS x lo hi) else none
def Ji:Builtin→List Operand→List TypeId→Option COp
 | .len,[x],[t]=>bnd (ZJ x) fun x=>cLen x (WJ P t) (Xz P t)
 | .append,[s,x],[t,u]=>bnd (Xz P t) fun e=>bnd (Zgr P e u) fun str=>bnd (ZJ s) fun s=>bnd (ZJ x) fun x=>
   if Vp P e then some (.append (P.cellsOf e) (P.bytesOf e) str (flatE P e) s x) else none
 | .min,[x,y],_=>bnd (ZJ x) fun x=>bnd (ZJ y) fun y=>some (.min x y)
 | .max,[x,y],_=>bnd (ZJ x) fun x=>bnd (ZJ y) fun y=>some (.max x y)
 | .clear,[x],[t]=>bnd (Xz P t) fun e=>bnd (ZJ x) fun x=>bnd (W4 P e) fun z=>bnd (evD z) fun z=>if Vp P e then some (.clear (P.cellsOf e) z x) else none
 | _,_,_=>none
def teOf (t:TypeId):Nat:=match bnd (ZaX P t 1) fun q=>Xz P q.2 with
 | some e=>e
 | none=>0
def cOp (ty:TypeId):Op→Option COp
 | .move x=>bnd (ZJ x) fun x=>some (.move x)
 | .assign x=>bnd (ZJ x) fun x=>some (.assign (bnd (Xz P ty) fun e=>some (P.cellsOf e)) x)
 | .pick c a b=>bnd (ZJ c) fun c=>bnd (ZJ a) fun a=>bnd (ZJ b) fun b=>some (.pick c a b)
 | .alloc t=>bnd (W4 P t) fun z=>some (.alloc (slcT P t) (bnT t (teOf P t) (evC z).cells))
 | .box _ x=>bnd (ZJ x) fun x=>some (.box x)
 | .build t ps=>bnd (W4 P t) fun z=>bnd (Qe (Zna (ZaY P t (ZdF P t))) ps.toList) fun qs=>if Zew P t then some (.build (evC z).cells qs) else none
 | .buildSlice t n ps=>bnd (Xz P t) fun e=>bnd (Qe (fun q:Nat×Operand=>ZJ q.2) ps.toList) fun xs=>
   if ps.toList.map (·.1)=List.range n∧n*P.cellsOf e≤16777216∧Vp P e then some (.buildSl (P.cellsOf e) xs) else none
 | .load t a=>bnd (Zaq P t) fun g=>bnd (ZJ a) fun a=>some (.load g (P.cellsOf t) a)
 | .store t a x=>bnd (ZJ a) fun a=>bnd (ZJ x) fun x=>if (P.info? t).isSome then some (.store (slcT P t) (P.cellsOf t) a x) else none
 | .nilCheck x=>bnd (ZJ x) fun x=>some (.nilCheck x)
 | .binOp op t x y _=>bnd (ZJ x) fun x=>bnd (ZJ y) fun y=>some (Zof P op t x y)
 | .unOp op _ x=>bnd (ZJ x) fun x=>some (.un op x)
 | .convert s d x=>bnd (ZJ x) fun x=>Zpn x (WJ P s) (WJ P d) (Zqz P s) (Zqz P d)
 | .makeFunc (.func f) fs cs=>if fs.toList.isEmpty then bnd (Qe ZJ cs.toList) fun cs=>some (.fn f cs) else none
 | .makeSlice t l c=>bnd (Xz P t) fun e=>bnd (ZJ l) fun l=>bnd (ZJ c) fun c=>bnd (W4 P e) fun z=>bnd (evD z) fun z=>if Vp P e then some (.make (P.cellsOf e) (P.bytesOf e) z l c) else none
 | .slice t x lo hi none=>bnd (ZJ x) fun x=>bnd (cOO lo) fun lo=>bnd (cOO hi) fun hi=>Zog P x lo hi (WJ P t) (Xz P t)
 | .slice t x none (some hi) (some mx)=>bnd (Xz P t) fun e=>if (P.info? e).isSome then bnd (ZJ x) fun x=>bnd (ZJ hi) fun hi=>bnd (ZJ mx) fun mx=>some (.slice0 x hi mx) else none
 | .slice t x (some lo) (some hi) (some mx)=>bnd (Xz P t) fun e=>if (P.info? e).isSome then bnd (ZJ x) fun x=>bnd (ZJ lo) fun lo=>bnd (ZJ hi) fun hi=>bnd (ZJ mx) fun mx=>some (.slice3 (P.cellsOf e) x lo hi mx) else none
 | .fieldAddr s x f=>bnd (ZaX P s f) fun q=>bnd (ZJ x) fun x=>some (.shift q.1 x)
 | .field t x f=>bnd (ZaX P t f) fun q=>bnd (Zaq P q.2) fun g=>bnd (ZJ x) fun x=>some (.part g (P.cellsOf q.2) q.1 x)
 | .indexAddr t x i=>bnd (ZJ x) fun x=>bnd (ZJ i) fun i=>Zix P x i (ZdF P t) (Xz P t)
 | .index t x i=>bnd (ZJ x) fun x=>bnd (ZJ i) fun i=>ZlE P x i (WJ P t) (ZdF P t)
 | .extract x i=>bnd (ZJ x) fun x=>some (.nth i x)
 | .call { callee:=.builtin b,args:=as,argTypes:=ts }=>Ji P b as.toList ts.toList
 | .call { callee:=.value f,args:=as,argTypes:=_ }=>bnd (ZJ f) fun f=>bnd (Qe ZJ as.toList) fun as=>some (.call f as)
 | _=>none
def Ziy (ops:List Oper):Option (Nat×Bool)→Option (Option (Nat×Bool))
 | none=>some none
 | some q=>bnd ops[q.1]? fun g=>bnd g.dst fun t=>some (some (t,q.2))
def Qz (nt:Nat):Option Nat→Bool
 | none=>true
 | some t=>decide (t<nt)
def YI (ops:Array Oper) (i:Nat):List Nat:=match ops[i]? with
 | some o=>(o.after.toList.filter fun e=>Region.binds .any e).map fun e=>e.on
 | none=>[]
def ZdG (ops:Array Oper):Nat→Nat→Nat→Bool
 | 0,i,j=>(YI ops i).contains j
 | n+1,i,j=>(YI ops i).contains j || (YI ops i).any fun z=>ZdG ops n z j
def startO:Op→Bool
 | .call { callee:=.builtin .append,args:=_,argTypes:=_ }=>true
 | .buildSlice _ _ _=>true
 | _=>false
def callO:Op→Bool
 | .call { callee:=.value (.func _),args:=_,argTypes:=_ }=>true
 | _=>false
def ZrX:Op→Bool
 | .move _=>true
 | _=>false
def aheadO:Op→Bool
 | .store _ _ _=>false
 | .box _ _=>false
 | .assign _=>false
 | .makeFunc _ _ _=>false
 | .makeSlice _ _ _=>false
 | .call { callee:=.builtin .append,args:=_,argTypes:=_ }=>false
 | .call { callee:=.value _,args:=_,argTypes:=_ }=>false
 | _=>true
def Zs7:Op→Bool
 | .move _=>true
 | .alloc _=>true
 | .buildSlice _ _ _=>true
 | .load _ _=>true
 | .nilCheck _=>true
 | .binOp _ _ _ _ _=>true
 | .unOp _ _ _=>true
 | .convert _ _ _=>true
 | .fieldAddr _ _ _=>true
 | .indexAddr _ _ _=>true
 | .slice _ _ _ _ _=>true
 | .call { callee:=.builtin .len,args:=_,argTypes:=_ }=>true
 | _=>false
def appO:Op→Bool
 | .call { callee:=.builtin .append,args:=_,argTypes:=_ }=>true
 | _=>false
def lookO:Op→Bool
 | .move _=>true
 | .load _ _=>true
 | .nilCheck _=>true
 | .binOp _ _ _ _ _=>true
 | .convert _ _ _=>true
 | .fieldAddr _ _ _=>true
 | .field _ _ _=>true
 | .extract _ _=>true
 | .indexAddr _ _ _=>true
 | .slice _ _ _ _ _=>true
 | .call { callee:=.builtin .len,args:=_,argTypes:=_ }=>true
 | _=>false
def atO (f:Op→Bool) (ops:List Oper) (k:Nat):Bool:=match ops[k]? with
 | some o=>f o.op
 | none=>false
def firmAt (ops:List Oper) (i:Nat):Bool:=
 (List.range ops.length).all fun k=>if k<i then ZdG ops.toArray 6 i k || atO ZrX ops k else k==i || ZdG ops.toArray 6 k i || atO ZrX ops k
def firmP (ops:List Oper) (i:Nat):Bool:=
 (List.range ops.length).all fun k=>if k<i then ZdG ops.toArray 6 i k || atO lookO ops k else k==i || ZdG ops.toArray 6 k i || atO ZrX ops k
def firmC (ops:List Oper) (i:Nat):Bool:=
 (List.range ops.length).all fun k=>if k<i then ZdG ops.toArray 6 i k || atO aheadO ops k else k==i || ZdG ops.toArray 6 k i || atO Zs7 ops k
def Ziz (ops:List Oper) (o:Oper):Nat:=ops.findIdx fun x=>x.dst==o.dst
def firm (ops:List Oper) (o:Oper):Bool:=(startO o.op&&firmAt ops (Ziz ops o)) || (callO o.op&&firmC ops (Ziz ops o)) || (appO o.op&&firmP ops (Ziz ops o))
def YJ:Option COp→COp
 | some c=>c
 | none=>.stuck
def Zgs (nt:Nat) (ops:List Oper) (o:Oper):Option CO:=bnd (Ziy ops o.guard) fun g=>
 if Qz nt o.dst then some { dst:=o.dst,guard:=g,op:=YJ (cOp P o.type o.op),tl:=firm ops o } else none
end
end Go.Abs
