/- Own text. -/
import Derived.Test.YtighjmleicikhaaAbsOps
set_option linter.unusedVariables false
set_option linter.unusedSimpArgs false
namespace Go.Abs
open Go
inductive Ex where
 | normal
 | exit (id:Nat)
 | ret
def Qv (lo hi:Nat):Hp→Bool
 | []=>true
 | (k,_) :: r=>decide (lo≤k)&&decide (k<hi)&&Qv (k+1) hi r
def QC (gone:List Nat) (sl:Sl):Sl:=match gone with
 | []=>sl
 | _=>Zd7 (kill gone) sl
def YA (gone:List Nat) (hp:Hp):Hp:=match gone with
 | []=>hp
 | _=>Zd7 (QJ gone) hp
def Zk (sl:Sl) (dst:Option Nat) (v:AV):Sl:=match dst with
 | some t=>ins sl t v
 | none=>sl
def Zb.on (e:Zb) (dst:Option Nat) (sl:Sl) (hp:Hp):Sl×Hp:=
 (Zk (QC e.gone sl) dst e.eff.val,e.eff.on (YA e.gone hp))
def XC (base:Nat) (dst:Option Nat) (sl:Sl) (hp:Hp) (e:Option Zb):Option (Sl×Hp):=
 bnd e fun e=>if Qv base (base+64) e.eff.adds then some (e.on dst sl hp) else none
def ZaB (want:Bool):AV→Option Bool
 | .d (.bool b)=>some (b==want)
 | .tup []=>some false
 | _=>none
def ZJ (sl:Sl):Option (Nat×Bool)→Option Bool
 | none=>some true
 | some q=>ZaB q.2 (gs sl q.1)
inductive ZE where
 | skip
 | region (n:Nat) (draw:Option (List (Nat×Nat))) (ops:List CO)
 | seq (a b:ZE)
 | cond (c:Opd) (a b:ZE)
 | block (id:Nat) (c:ZE)
 | loop (c:ZE)
 | exit (id:Nat)
 | ret
 | keep (K:List Nat) (c:ZE)
 | stuck
 | link (fl:Bool) (id:Nat) (i:Opd) (j:Nat) (c:ZE)
 | melt (c:ZE)
inductive ZhY where
 | tmp (t:Nat)
 | cell (a:Nat) (g:Bool) (s:Nat)
structure Z6 where
 nt:Nat
 res:List ZhY
 body:ZE
def Zmn (x:Option Opd):List Opd:=match x with
 | some y=>[y]
 | none=>[]
def Zu:COp→List Opd
 | .move x=>[x]
 | .assign _ x=>[x]
 | .pick c a b=>[c,a,b]
 | .alloc _ _=>[]
 | .box x=>[x]
 | .build _ ps=>ps.map fun q=>q.2.2
 | .buildSl _ xs=>xs
 | .load _ _ a=>[a]
 | .store _ _ a x=>[a,x]
 | .nilCheck x=>[x]
 | .bin _ _ x y=>[x,y]
 | .un _ x=>[x]
 | .eqA _ _ x y=>[x,y]
 | .convI _ x=>[x]
 | .convS x=>[x]
 | .fn _ cs=>cs
 | .make _ _ _ l c=>[l,c]
 | .slice _ x lo hi=>x :: (Zmn lo++Zmn hi)
 | .sliceS x lo hi=>x :: (Zmn lo++Zmn hi)
 | .slice0 x hi mx=>[x,hi,mx]
 | .shift _ x=>[x]
 | .part _ _ _ x=>[x]
 | .iaS _ x i=>[x,i]
 | .iaA _ _ x i=>[x,i]
 | .ixS x i=>[x,i]
 | .ixA _ _ _ x i=>[x,i]
 | .nth _ x=>[x]
 | .len x=>[x]
 | .lenS x=>[x]
 | .append _ _ _ _ x y=>[x,y]
 | .min x y=>[x,y]
 | .max x y=>[x,y]
 | .call f as=>f :: as
 | .slice3 _ x lo hi mx=>[x,lo,hi,mx]
 | .clear _ _ x=>[x]
 | .stuck=>[]
 | .buildT _ _ xs=>xs
 | .appT _ _ _ x y=>[x,y]
 | .asgT _ _ x=>[x]
 | .makeT _ _ _ _ l c=>[l,c]
def Zb5:COp→Bool
 | .store _ _ _ _=>true
 | _=>false
def isApp:COp→Bool
 | .append _ _ _ _ _ _=>true
 | _=>false
def ZgS (c:COp):Bool:=Zb5 c || isApp c
def CO.starts (o:CO):Bool:=Zb5 o.op || o.tl
def ZG (os:List CO) (i:Nat):Bool:=match os[i]? with
 | some o=>CO.starts o
 | none=>false
def Ui:Opd→List Nat
 | .t n=>[n]
 | _=>[]
def ZgT:Option (Nat×Bool)→List Nat
 | some q=>[q.1]
 | none=>[]
def XP (o:CO):List Nat:=(Zu o.op).flatMap Ui++ZgT o.guard
def Qj:Option Nat→List Nat→Bool
 | some d,l=>!l.contains d
 | none,_=>true
def WS:Option Nat→Option Nat→Bool
 | some d,some e=>d != e
 | _,_=>true
def QS (a b:CO):Bool:=Qj a.dst (XP b)&&WS a.dst b.dst&&Qj b.dst (XP a)
def XR:Opd→Bool
 | .v a=>(Zo a).isEmpty&&!Zin a
 | _=>true
def ZjV (os:List CO) (j i:Nat):Bool:=match os[j]?,os[i]? with
 | some a,some b=>QS a b
 | _,_=>false
def YO:COp→Bool
 | .load _ _ _=>false
 | .store _ _ _ _=>false
 | .slice _ _ _ _=>false
 | .slice0 _ _ _=>false
 | .iaS _ _ _=>false
 | .len _=>false
 | .append _ _ _ _ _ _=>false
 | .buildSl _ _=>false
 | .buildT _ _ _=>false
 | .appT _ _ _ _ _=>false
 | .asgT _ _ _=>false
 | .makeT _ _ _ _ _ _=>false
 | .call _ _=>false
 | .slice3 _ _ _ _ _=>false
 | .clear _ _ _=>false
 | _=>true
def Wm:COp→Bool
 | .load _ _ _=>true
 | .slice _ _ _ _=>true
 | .slice0 _ _ _=>true
 | .iaS _ _ _=>true
 | .len _=>true
 | _=>false
def Zmo:COp→Bool
 | .clear _ _ _=>false
 | .store _ _ _ _=>false
 | .append _ _ _ _ _ _=>false
 | .buildSl _ _=>false
 | .buildT _ _ _=>false
 | .appT _ _ _ _ _=>false
 | .asgT _ _ _=>false
 | .makeT _ _ _ _ _ _=>false
 | .call _ _=>false
 | _=>true
def VV (os:List CO) (k:Nat):Option Nat:=match os[k]? with
 | some o=>o.dst
 | none=>none
def ZjW (os:List CO) (k:Nat):List Nat:=match os[k]? with
 | some o=>XP o
 | none=>[]
def Uj (os:List CO) (k:Nat):Bool:=(List.range os.length).all fun q=>decide (q<k) || Qj (VV os q) (ZjW os k)
def XS:COp→Bool
 | .move _=>true
 | _=>false
def ZaC:COp→Bool
 | .append _ _ _ _ _ _=>true
 | .buildSl _ _=>true
 | _=>false
def W2:COp→Bool
 | .call (.f _) _=>true
 | _=>false
def Zer:COp→List Opd
 | .call _ as=>as
 | _=>[]
def Zmp:COp→Bool
 | .alloc _ _=>false
 | .box _=>false
 | .assign _ _=>false
 | .make _ _ _ _ _=>false
 | .fn _ _=>false
 | _=>true
def ZiV:COp→Bool
 | .buildSl _ _=>true
 | _=>false
def JM:AV→Bool
 | .d _=>true
 | .nil=>true
 | .nilp=>true
 | .nili=>true
 | _=>false
def Yb:List AV→Bool
 | []=>true
 | c :: r=>JM c&&Yb r
def ZfK:COp→Bool
 | .alloc _ cs=>Yb cs
 | _=>false
def ZgU (c:COp):Bool:=Wm c || ZiV c || (YO c&&Zmp c) || ZfK c
def ZdI:COp→Bool
 | .alloc _ cs=>Yb cs
 | .buildSl _ _=>true
 | .load _ _ _=>true
 | .nilCheck _=>true
 | .bin _ _ _ _=>true
 | .un _ _=>true
 | .convI _ _=>true
 | .shift _ _=>true
 | .iaS _ _ _=>true
 | .slice _ _ _ _=>true
 | .len _=>true
 | .sliceS _ _ _=>true
 | .lenS _=>true
 | _=>false
def ZqD:Option Nat→Bool
 | some _=>true
 | none=>false
def Zfq (os:List CO) (k:Nat):Bool:=ZqD (VV os k)&&(List.range os.length).all fun q=>q==k || WS (VV os q) (VV os k)
def ZdJ (os:List CO) (j i:Nat):Bool:=Uj os j&&Uj os i
def Zpo (os:List CO) (j i:Nat) (a b:COp):Bool:=
 Zmo b || (ZgS b&&(YO a || (!XS a&&Wm a&&ZdJ os j i))) || (XS a&&(ZaC b || Zfq os j)) || (!XS a&&W2 b&&ZgU a&&ZdJ os j i&&Zfq os j)
def Zpp (os:List CO) (j i:Nat) (a b:COp):Bool:=(XS b&&Zfq os i) || (!XS b&&W2 a&&ZdI b&&ZdJ os j i&&Zfq os i)
def ZjX (os:List CO) (j i:Nat):Bool:=match os[j]?,os[i]? with
 | some a,some b=>if ZG os j then !ZG os i&&Zpp os j i a.op b.op else !ZG os i || Zpo os j i a.op b.op
 | _,_=>false
def ZaD (os:List CO) (j i:Nat):Option (Nat×Nat):=match os[j]?,os[i]? with
 | some a,some b=>if ZG os j then (if XS b.op || W2 a.op then some (i,j) else none) else
   if ZG os i&&(if ZgS b.op then !(YO a.op) else if XS a.op then !(ZaC b.op) else W2 b.op) then some (j,i) else none
 | _,_=>none
def optP:Option (Nat×Nat)→List (Nat×Nat)
 | some p=>[p]
 | none=>[]
def U2 (ops:Array Oper) (os:List CO):List (Nat×Nat):=
 (List.range ops.size).flatMap fun i=>(List.range i).flatMap fun j=>if ZcS ops 6 i j then [] else optP (ZaD os j i)
def ZgV (ops:Array Oper) (os:List CO):Bool:=
 (List.range ops.size).all (fun i=>(Yy ops i).all fun e=>decide (e<i)) &&
 (List.range ops.size).all (fun i=>(List.range i).all fun j=>(Yy ops i).contains j || ZjV os j i) &&
 (List.range ops.size).all (fun i=>(List.range i).all fun j=>ZcS ops 6 i j || ZjX os j i) &&
 os.all (fun o=>(Zu o.op).all XR)
def U3 (id:Nat):AV→Bool
 | .d _=>true
 | .pim _=>true
 | .nil=>true
 | .ptr k _=>k != id
 | .prow k _ _ _=>k != id
 | .own k=>k != id
 | .ownv k _ _=>k != id
 | .nilp=>true
 | .nili=>true
 | .tup []=>true
 | _=>false
def okC:AV→Bool
 | .d _=>true
 | .pim _=>true
 | .nil=>true
 | .ptr _ _=>true
 | .prow _ _ _ _=>true
 | .own _=>true
 | .ownv _ _ _=>true
 | .nilp=>true
 | .nili=>true
 | _=>false
def ZjY:List AV→Bool
 | []=>true
 | v :: r=>okC v&&ZjY r
def okV:AV→Bool
 | .agg cs=>ZjY cs
 | .tup []=>true
 | v=>okC v
def okL (sl:Sl):List Opd→Bool
 | []=>true
 | x :: r=>okV (evO sl x)&&okL sl r
def okD (sl:Sl):Option Nat→Bool
 | some t=>okV (gs sl t)
 | none=>true
def Yc:AV→Option Nat
 | .ptr k _=>some k
 | .prow k _ _ _=>some k
 | _=>none
def Qq (sl:Sl) (id:Nat):List Opd→Bool
 | []=>true
 | x :: r=>U3 id (evO sl x)&&Qq sl id r
def ZaE (sl:Sl) (a:COp):Option Nat→Bool
 | some id=>Qq sl id (Zu a)
 | none=>false
def U4 (sl:Sl) (xs:List Opd):AV→Bool
 | .ptr k _=>Qq sl k xs
 | .prow _ _ _ _=>false
 | _=>true
def Zbo (sl:Sl) (xs:List Opd):List Opd→Bool
 | []=>true
 | y :: r=>U4 sl xs (evO sl y)&&Zbo sl xs r
def Wn (sl:Sl) (a:COp):AV→Bool
 | .nil=>true
 | .tup []=>true
 | .own k=>Qq sl k (Zu a)
 | .ownv k _ _=>Qq sl k (Zu a)
 | _=>false
def seenSrc (sl:Sl) (a:COp):AV→Bool
 | .own k=>Qq sl k (Zu a)
 | v=>okV v
def Xe (sl:Sl) (xs:List Opd):List Nat→Bool
 | []=>true
 | k :: r=>Qq sl k xs&&Xe sl xs r
def Yr (sl:Sl) (a:COp):AV→AV→Bool
 | .prow _ _ _ _,.d _=>true
 | .prow _ _ _ _,v=>okV v&&Xe sl (Zu a) (Zo v)
 | _,_=>true
def VM (sl:Sl) (d:Option Nat):COp→COp→Bool
 | .move _,_=>okD sl d
 | a,.store _ _ x y=>ZaE sl a (Yc (evO sl x))&&Yr sl a (evO sl x) (evO sl y)
 | a,.append _ _ _ flat x y=>Wn sl a (evO sl x)&&(flat || seenSrc sl a (evO sl y))
 | a,.call _ as=>okL sl (Zu a)&&(okD sl d&&(okL sl as&&Zbo sl (Zu a) as))
 | _,_=>false
def ZdK (os:List CO) (sl:Sl) (p:Nat×Nat):Bool:=match os[p.1]?,os[p.2]? with
 | some a,some b=>VM sl a.dst a.op b.op
 | _,_=>false
def VH (os:List CO) (sl:Sl):List (Nat×Nat)→Bool
 | []=>true
 | p :: r=>ZdK os sl p&&VH os sl r
def XK (M:Zg):Zg:=fun f i=>i != 99&&M f i
section
variable (C:Orc) (M:Zg)
noncomputable def Zbp (nx:Nat):Nat→List CO→Sl→Hp→Option (Sl×Hp)
 | _,[],sl,hp=>some (sl,hp)
 | i,o :: rest,sl,hp=>bnd (ZJ sl o.guard) fun b=>
   if b then bnd (XC (nx+64*i) o.dst sl hp (vop C M sl hp (nx+64*i) o.op)) fun r=>Zbp nx (i+1) rest r.1 r.2
   else Zbp nx (i+1) rest (Zk sl o.dst (.tup [])) hp
def ZaF (c:Zb):List Nat→Hp→List Nat→List Nat→Option Zb
 | [],[],[],[]=>some c
 | _,_,_,_=>none
def U5 (e:Option Zb):Option Zb:=bnd e fun c=>ZaF c c.gone c.eff.sets c.eff.dels c.eff.frz
noncomputable def YD (nx i:Nat) (tail:Bool) (o:COp) (sl:Sl) (hp:Hp):Option Zb:=
 if tail then vop C M sl hp (nx+64*i) o else U5 (vop C M sl hp (nx+64*i) o)
noncomputable def WJ (nx:Nat):Nat→Bool→List CO→Sl→Hp→Option (Sl×Hp)
 | _,_,[],sl,hp=>some (sl,hp)
 | i,t,o :: rest,sl,hp=>bnd (ZJ sl o.guard) fun b=>
   if b then bnd (XC (nx+64*i) o.dst sl hp (YD C M nx i (CO.starts o) o.op sl hp)) fun r=>WJ nx (i+1) t rest r.1 r.2
   else WJ nx (i+1) t rest (Zk sl o.dst (.tup [])) hp
def Uk {α:Type}:List (Nat×α)→List Nat
 | []=>[]
 | (k,_) :: r=>k :: Uk r
def only {α:Type} (K:List Nat):List (Nat×α)→List (Nat×α)
 | []=>[]
 | (k,v) :: r=>if K.contains k then (k,v) :: only K r else only K r
def YP:Nat→List Zh→Hp
 | _,[]=>[]
 | k,o :: r=>YP (k+1) r++[(k,o)]
def ZiW:Sl→List Nat
 | []=>[]
 | (_,v) :: r=>Zo v++ZiW r
def ZjZ:Option Zh→Bool
 | some _=>true
 | none=>false
def JN (hp:Hp) (ids:List Nat) (i:Nat):Bool:=ids.contains i&&ZjZ (lkp hp i)
def Zbq (hp:Hp) (ids:List Nat):List Nat→List Nat
 | []=>[]
 | i :: r=>if JN hp ids i then Zbq hp ids r else i :: Zbq hp ids r
def J6 (hp:Hp) (ids:List Nat) (v:AV):AV:=ren (Yx ids) (kill (Zbq hp ids (Zo v)) v)
def Zbr (hp:Hp) (ids:List Nat) (o:Zh):Zh:=Zdb (Yx ids) (QJ (Zbq hp ids (V8 o)) o)
def Zmq:Option Zh→List Nat
 | some o=>V8 o
 | none=>[]
def Y7 (hp:Hp):List Nat→List Nat
 | []=>[]
 | id :: r=>Zmq (lkp hp id)++Y7 hp r
def VX (K:List Nat) (st:St):St:=
 let sl:=only K st.sl
 let ids:=Qz st.hp (Q7 st.hp) (ZiW sl++Y7 st.hp (List.range st.m)) (List.range st.m)
 { sl:=Zd7 (J6 st.hp ids) sl,hp:=YP 0 ((JI st.hp ids).map (Zbr st.hp ids)),nx:=ids.length,m:=st.m }
def WK (f:St→Option (Ex×St)) (K:List Nat):Nat→St→Option (Ex×St)
 | 0,_=>none
 | n+1,st=>match f (VX K st) with
  | some (.normal,st')=>WK f K n st'
  | r=>r
def andThen (r:Option (Ex×St)) (k:St→Option (Ex×St)):Option (Ex×St):=match r with
 | some (.normal,st)=>k st
 | r=>r
def ZcA (v:AV) (a b:Option (Ex×St)):Option (Ex×St):=match v with
 | .d (.bool t)=>if t then a else b
 | _=>none
def Zbs (id:Nat) (r:Option (Ex×St)):Option (Ex×St):=match r with
 | some (.exit j,st)=>if j=id then some (.normal,st) else some (.exit j,st)
 | r=>r
def ZiX (ops:List CO) (ps:List (Nat×Nat)) (r:Option (Sl×Hp)):Option (Sl×Hp):=bnd r fun r=>if VH ops r.1 ps then some r else none
def Zfr (m nx:Nat) (r:Option (Sl×Hp)):Option (Ex×St):=bnd r fun r=>some (.normal,{ sl:=r.1,hp:=r.2,nx:=nx,m:=m })
def ZgW (K:List Nat) (r:Option (Ex×St)):Option (Ex×St):=match r with
 | some q=>some (q.1,{ q.2 with sl:=only K q.2.sl })
 | none=>none
def Znm (fl:Bool) (k:Nat) (ys:List D):Option Zh:=if fl then (if Ur D.flat ys then some (.row k ys true false) else none) else some (.tree k k ys none)
def ZdL (xs:List D) (n j:Nat) (y:D):Option (List D):=bnd xs[n]? fun x=>some (xs.set n (Yu x j [y]))
def Znn (fl:Bool) (nx n j:Nat):Option Zh→Option (Zh×Zh)
 | some (.tree s k xs none)=>bnd (Wj xs n j) fun ys=>bnd (Znm fl k ys) fun o=>bnd (ZdL xs n j (.sl [])) fun xs'=>some (.tree s k xs' (some (some nx,n,j)),o)
 | _=>none
def ZaG (fl:Bool) (id:Nat) (i:Opd) (j:Nat) (st:St):Option St:=bnd (idx (evO st.sl i)) fun n=>if 0≤n then bnd (Znn fl st.nx n.toNat j (lkp st.hp id)) fun q=>some { st with hp:=ins (ins st.hp id q.1) st.nx q.2,nx:=st.nx+64 } else none
def ZgX (k:Nat):Option Zh→Option (List D)
 | some (.row k' ys true false)=>if k'=k∧Ur D.flat ys then some ys else none
 | some (.tree k' n ys none)=>if k'=k∧n=k then some ys else none
 | _=>none
def Zff (hp:Hp) (id nm:Nat):Option Zh→Option Hp
 | some (.tree s k xs (some (some nm',n,j)))=>if nm'=nm then bnd (ZgX k (lkp hp nm)) fun ys=>bnd (ZdL xs n j (.sl ys)) fun xs'=>some (ins (del hp nm) id (.tree s k xs' none)) else none
 | _=>none
def Zon (hp:Hp):Option Hp→Hp
 | some h=>h
 | none=>hp
def ZgY (id nm:Nat) (r:Option (Ex×St)):Option (Ex×St):=match r with
 | some q=>some (q.1,{ q.2 with hp:=Zon q.2.hp (Zff q.2.hp id nm (lkp q.2.hp id)) })
 | none=>none
def Zj0 (st:St):St := { st with hp:=Zd7 ZdB st.hp }
noncomputable def Zx (N:Nat):ZE→St→Option (Ex×St)
 | .skip,st=>some (.normal,st)
 | .region n none ops,st=>Zfr st.m (st.nx+64*n) (Zbp C M st.nx 0 ops st.sl st.hp)
 | .region n (some ps) ops,st=>Zfr st.m (st.nx+64*n) (ZiX ops ps (WJ C (XK M) st.nx 0 false ops st.sl st.hp))
 | .seq a b,st=>andThen (Zx N a st) (Zx N b)
 | .cond c a b,st=>ZcA (evO st.sl c) (Zx N a st) (Zx N b st)
 | .block id c,st=>Zbs id (Zx N c st)
 | .loop c,st=>WK (Zx N c) (Uk st.sl) N st
 | .exit id,st=>some (.exit id,st)
 | .ret,st=>some (.ret,st)
 | .keep K c,st=>ZgW K (Zx N c st)
 | .stuck,_=>none
 | .link fl id i j c,st=>bnd (ZaG fl id i j st) fun st1=>ZgY id st.nx (Zx N c st1)
 | .melt c,st=>Zx N c (Zj0 st)
def ZgZ (st:St):ZhY→Option AV
 | .tmp t=>some (gs st.sl t)
 | .cell a g s=>Vo st.hp g s (gs st.sl a)
def YQ (m:Nat) (hp:Hp) (v:AV):AV×List Zh:=
 let ids:=Qz hp (Q7 hp) (Zo v++Y7 hp (List.range m)) (List.range m)
 (J6 hp ids v,(JI hp ids).map (Zbr hp ids))
def Zno:AV→Bool
 | .tup _=>true
 | _=>false
def ZcW:List AV→Bool
 | []=>false
 | v :: r=>Zno v || ZcW r
def U6:List AV→AV
 | [v]=>v
 | vs=>if ZcW vs then .junk else .tup vs
def YB:Nat→List AV→Sl
 | _,[]=>[]
 | k,v :: r=>YB (k+1) r++[(k,v)]
def JO (m:Nat) (rs:List ZhY) (r:Option (Ex×St)):Option (AV×List Zh):=match r with
 | some (.normal,st)=>bnd (Qb (ZgZ st) rs) fun vs=>some (YQ m st.hp (U6 vs))
 | some (.ret,st)=>bnd (Qb (ZgZ st) rs) fun vs=>some (YQ m st.hp (U6 vs))
 | _=>none
noncomputable def Zg0 (N:Nat) (fn:Z6) (as:List AV) (h:List Zh):Option (AV×List Zh):=
 if as.length≤fn.nt then JO h.length fn.res (Zx C M N fn.body { sl:=YB 0 as,hp:=YP 0 h,nx:=h.length,m:=h.length }) else none
end
inductive Fn where
 | text (f:Z6)
 | prim (p:List AV→List Zh→Option (AV×List Zh))
abbrev Fns:=Nat→Option Fn
noncomputable def Zes (C:Orc) (M:Zg) (N:Nat) (as:List AV) (h:List Zh):Option Fn→Option (AV×List Zh)
 | some (.text f)=>Zg0 C M N f as h
 | some (.prim p)=>p as h
 | none=>none
noncomputable def Z1 (X:Fns) (M:Zg):Nat→Orc
 | 0,_,_,_=>none
 | n+1,f,as,h=>Zes (Z1 X M n) M n as h (X f)
open Classical in
noncomputable def lim {α:Type} (x:Nat→Option α):Option α:=if h:∃ r,∃ n,x n=some r then some h.choose else none
def Zoo {α:Type} (x:Nat→Option α):Prop:=∀ n r,x n=some r→x (n+1)=some r
theorem Zoo.le {α:Type} {x:Nat→Option α} (h:Zoo x) {n m:Nat} {r:α} (hr:x n=some r) (aa:n≤m):x m=some r:=by
 induction aa with
 | refl=>exact hr
 | step _ ih=>exact h _ _ ih
theorem ZcX {α:Type} {x:Nat→Option α} (h:Zoo x) {n:Nat} {r:α} (hr:x n=some r):lim x=some r:=by
 have he:∃ r,∃ n,x n=some r:=⟨r,n,hr⟩
 unfold lim;rw[dif_pos he];obtain⟨m,hm⟩:=he.choose_spec;have h1:=h.le hm (LS m n);have h2:=h.le hr (LQ m n);rw[h1] at h2;exact h2
theorem Zbt {α:Type} {x:Nat→Option α} {r:α} (hr:lim x=some r):∃ n,x n=some r:=by
 unfold lim at hr;split at hr
 ·rename_i h;obtain⟨n,hn⟩:=h.choose_spec;exact⟨n,by rw[hn];exact hr⟩
 ·cases hr
def Orc.le (C C' : Orc):Prop:=∀ f as h r,C f as h=some r→C' f as h=some r
section
variable {M:Zg} {C C' : Orc}
theorem Ul {α β:Type} {x x' : Option α} {f f' : α→Option β} {r:β} (hx:∀ a,x=some a→x'=some a) (hf:∀ a,f a=some r→f' a=some r) (h:bnd x f=some r):bnd x' f'=some r:=by
 obtain⟨a,h1,h2⟩:=Za h;rw[hx a h1];exact hf a h2
theorem Zpq (h:C.le C') {m:Nat→Bool} {hp:Hp} {base f:Nat} {aa:List AV} {r:Zb}
  (hr:Js C m hp base f aa=some r):Js C' m hp base f aa=some r:=by
 unfold Js at hr ⊢;refine Ul (fun _ h=>h) (fun as hr=>?_) hr;unfold Zat at hr ⊢;by_cases hc:(as.flatMap Zo).all (Qz hp (Q7 hp) (as.flatMap Zo) []).contains∧¬(XI aa as).any (Qz hp (Q7 hp) (as.flatMap Zo) []).contains∧Ux hp (as.flatMap WI) (Qz hp (Q7 hp) (as.flatMap Zo) [])=true
 ·rw[Kv hc] at hr ⊢;exact Ul (fun q hq=>h _ _ _ _ hq) (fun _ h=>h) hr
 ·rw[Kp hc] at hr;cases hr
theorem Zj1 (h:C.le C') {sl:Sl} {hp:Hp} {base:Nat} {o:COp} {r:Zb} (hr:vop C M sl hp base o=some r) :
  vop C' M sl hp base o=some r:=by
 cases o with
 | call f as=>
  simp only[vop] at hr ⊢;cases hg:evO sl f<;>simp only[hg,JL] at hr ⊢ <;> first | exact Zpq h hr | exact hr
 | _=>exact hr
theorem Zj2 (h:C.le C') (nx:Nat):∀ (l:List CO) (i:Nat) (sl:Sl) (hp:Hp) (r:Sl×Hp),
  Zbp C M nx i l sl hp=some r→Zbp C' M nx i l sl hp=some r:=by
 intro l
 induction l with
 | nil=>intro i sl hp r hr;exact hr
 | cons o rest ih=>
  intro i sl hp r hr;simp only[Zbp] at hr ⊢;refine Ul (fun _ h=>h) (fun b hr=>?_) hr;cases b
  ·simp only[Ka,Kf] at hr ⊢;exact ih _ _ _ _ hr
  ·simp only[Kh] at hr ⊢;refine Ul (fun q hq=>?_) (fun q hq=>ih _ _ _ _ hq) hr;unfold XC at hq ⊢;exact Ul (fun e he=>Zj1 h he) (fun _ h=>h) hq
theorem Znp (h:C.le C') {nx i:Nat} {t:Bool} {o:COp} {sl:Sl} {hp:Hp} {e:Zb} (he:YD C M nx i t o sl hp=some e) :
  YD C' M nx i t o sl hp=some e:=by
 unfold YD at he ⊢;cases t
 ·simp only[Ka,Kf,U5] at he ⊢;exact Ul (fun _ hv=>Zj1 h hv) (fun _ h=>h) he
 ·simp only[Kh] at he ⊢;exact Zj1 h he
theorem ZdM (h:C.le C') (nx:Nat):∀ (l:List CO) (i:Nat) (t:Bool) (sl:Sl) (hp:Hp) (r:Sl×Hp),
  WJ C M nx i t l sl hp=some r→WJ C' M nx i t l sl hp=some r:=by
 intro l
 induction l with
 | nil=>intro i t sl hp r hr;exact hr
 | cons o rest ih=>
  intro i t sl hp r hr;simp only[WJ] at hr ⊢;refine Ul (fun _ h=>h) (fun b hr=>?_) hr;cases b
  ·simp only[Ka,Kf] at hr ⊢;exact ih _ _ _ _ _ hr
  ·simp only[Kh] at hr ⊢;refine Ul (fun q hq=>?_) (fun q hq=>ih _ _ _ _ _ hq) hr;unfold XC at hq ⊢;exact Ul (fun e he=>Znp h he) (fun _ h=>h) hq
theorem ZdN {f g:St→Option (Ex×St)} (h:∀ st r,f st=some r→g st=some r) (K:List Nat) :
  ∀ (n m:Nat) (st:St) (r:Ex×St),n≤m→WK f K n st=some r→WK g K m st=some r:=by
 intro n
 induction n with
 | zero=>intro m st r _ hr;simp[WK] at hr
 | succ n ih=>
  intro m st r hm hr;cases m with
  | zero=>omega
  | succ m=>
   simp only[WK] at hr ⊢;cases hf:f (VX K st) with
   | none=>simp[hf] at hr
   | some q=>
    rw[hf] at hr;rw[h _ _ hf];obtain⟨e,aa⟩:=q;cases e with
    | normal=>exact ih m aa r (by omega) hr
    | exit id=>exact hr
    | ret=>exact hr
theorem ZfL (h:C.le C') {N N' : Nat} (hN:N≤N'):∀ (c:ZE) (st:St) (r:Ex×St),
  Zx C M N c st=some r→Zx C' M N' c st=some r:=by
 intro c
 induction c with
 | skip=>intro st r hr;simpa [Zx] using hr
 | region n draw ops=>
  intro st r hr;cases draw
  ·simp only[Zx,Zfr] at hr ⊢;exact Ul (fun q hq=>Zj2 h _ _ _ _ _ _ hq) (fun _ h=>h) hr
  ·simp only[Zx,Zfr,ZiX] at hr ⊢;exact Ul (fun q hq=>Ul (fun q hq=>ZdM h _ _ _ _ _ _ _ hq) (fun _ h=>h) hq) (fun _ h=>h) hr
 | seq a b iha ihb=>
  intro st r hr;simp only[Zx] at hr ⊢;cases ha:Zx C M N a st with
  | none=>simp[ha,andThen] at hr
  | some q=>
   rw[ha] at hr;rw[iha _ _ ha];obtain⟨e,aa⟩:=q;cases e with
   | normal=>exact ihb _ _ hr
   | exit id=>exact hr
   | ret=>exact hr
 | cond c a b iha ihb=>
  intro st r hr;simp only[Zx,ZcA] at hr ⊢;split at hr
  ·rename_i t ht;cases t
   ·simp only[Ka,Kf] at hr ⊢;exact ihb _ _ hr
   ·simp only[Kh] at hr ⊢;exact iha _ _ hr
  ·cases hr
 | block id c ih=>
  intro st r hr;simp only[Zx] at hr ⊢;cases hc:Zx C M N c st with
  | none=>simp[hc,Zbs] at hr
  | some q=>rw[hc] at hr;rw[ih _ _ hc];exact hr
 | loop c ih=>
  intro st r hr;simp only[Zx] at hr ⊢;exact ZdN ih _ _ _ _ _ hN hr
 | exit id=>intro st r hr;simpa [Zx] using hr
 | ret=>intro st r hr;simpa [Zx] using hr
 | keep K c ih=>
  intro st r hr;simp only[Zx] at hr ⊢;cases hc:Zx C M N c st with
  | none=>simp[hc,ZgW] at hr
  | some q=>rw[hc] at hr;rw[ih _ _ hc];exact hr
 | stuck=>intro st r hr;simp[Zx] at hr
 | link fl id i j c ih=>
  intro st r hr;simp only[Zx] at hr ⊢;obtain⟨aa,h1,h2⟩:=Za hr;rw[h1,Zc];cases hc:Zx C M N c aa with
  | none=>simp[hc,ZgY] at h2
  | some q=>rw[hc] at h2;rw[ih _ _ hc];exact h2
 | melt c ih=>
  intro st r hr;simp only[Zx] at hr ⊢;exact ih _ r hr
theorem Zpr (h:C.le C') {N N' : Nat} (hN:N≤N') {f:Z6} {as:List AV} {hh:List Zh} {r:AV×List Zh}
  (hr:Zg0 C M N f as hh=some r):Zg0 C' M N' f as hh=some r:=by
 unfold Zg0 at hr ⊢;by_cases hl:as.length≤f.nt
 ·rw[Kv hl] at hr ⊢;cases hv:Zx C M N f.body { sl:=YB 0 as,hp:=YP 0 hh,nx:=hh.length,m:=hh.length } with
  | none=>simp[hv,JO] at hr
  | some q=>rw[hv] at hr;rw[ZfL h hN _ _ _ hv];exact hr
 ·rw[Kp hl] at hr;cases hr
end
section
variable (X:Fns) (M:Zg)
theorem Zet:∀ n,(Z1 X M n).le (Z1 X M (n+1)):=by
 intro n
 induction n with
 | zero=>intro f as h r hr;simp[Z1] at hr
 | succ n ih=>
  intro f as h r hr;rw[Z1] at hr ⊢;cases hf:X f with
  | none=>rw[hf] at hr;cases hr
  | some g=>
   rw[hf] at hr;cases g with
   | text g=>exact Zpr ih (Nat.le_succ n) hr
   | prim p=>exact hr
noncomputable def Zl (f:Nat) (as:List AV) (h:List Zh):Option (AV×List Zh):=lim fun n=>Z1 X M n f as h
noncomputable def Qi (c:ZE) (st:St):Option (Ex×St):=lim fun n=>Zx (Z1 X M n) M n c st
theorem Jv (f:Nat) (as:List AV) (h:List Zh):Zoo fun n=>Z1 X M n f as h:=fun n r hr=>Zet X M n f as h r hr
theorem ZaH (n:Nat):(Z1 X M n).le (Zl X M):=fun f as h _ hr=>ZcX (Jv X M f as h) hr
theorem ZcY (c:ZE) (st:St):Zoo fun n=>Zx (Z1 X M n) M n c st:=fun n r hr=>ZfL (Zet X M n) (Nat.le_succ n) c st r hr
theorem U7 {n m:Nat} (h:n≤m):(Z1 X M n).le (Z1 X M m):=fun f as hh _ hr=>(Jv X M f as hh).le hr h
theorem Zld {m:Nat→Bool} {hp:Hp} {base f:Nat} {aa:List AV} {r:Zb}
  (hr:Js (Zl X M) m hp base f aa=some r):∃ n,Js (Z1 X M n) m hp base f aa=some r:=by
 unfold Js at hr ⊢;obtain⟨as,ab,hr⟩:=Za hr;simp only[ab,Zc];unfold Zat at hr ⊢;by_cases hc:(as.flatMap Zo).all (Qz hp (Q7 hp) (as.flatMap Zo) []).contains∧¬(XI aa as).any (Qz hp (Q7 hp) (as.flatMap Zo) []).contains∧Ux hp (as.flatMap WI) (Qz hp (Q7 hp) (as.flatMap Zo) [])=true
 ·rw[Kv hc] at hr;obtain⟨q,hq,hr⟩:=Za hr;obtain⟨n,hn⟩:=Zbt hq;refine⟨n,?_⟩;rw[Kv hc,hn];exact hr
 ·rw[Kp hc] at hr;cases hr
theorem Zeu {M' : Zg} {sl:Sl} {hp:Hp} {base:Nat} {o:COp} {r:Zb} (hr:vop (Zl X M) M' sl hp base o=some r) :
  ∃ n,vop (Z1 X M n) M' sl hp base o=some r:=by
 cases o with
 | call f as=>
  simp only[vop] at hr ⊢;cases hg:evO sl f<;>simp only[hg,JL] at hr ⊢ <;> first | exact Zld X M hr | exact⟨0,hr⟩
 | _=>exact⟨0,hr⟩
theorem Zmr (nx:Nat):∀ (l:List CO) (i:Nat) (sl:Sl) (hp:Hp) (r:Sl×Hp),
  Zbp (Zl X M) M nx i l sl hp=some r→∃ n,Zbp (Z1 X M n) M nx i l sl hp=some r:=by
 intro l
 induction l with
 | nil=>intro i sl hp r hr;exact⟨0,hr⟩
 | cons o rest ih=>
  intro i sl hp r hr;simp only[Zbp] at hr ⊢;obtain⟨b,hb,hr⟩:=Za hr;simp only[hb,Zc];cases b
  ·simp only[Ka,Kf] at hr ⊢;exact ih _ _ _ _ hr
  ·simp only[Kh] at hr ⊢;obtain⟨q,hq,hr⟩:=Za hr;unfold XC at hq;obtain⟨e,he,hq⟩:=Za hq;obtain⟨n1,h1⟩:=Zeu X M he;obtain⟨n2,h2⟩:=ih _ _ _ _ hr;refine⟨max n1 n2,?_⟩;unfold XC;rw[Zj1 (U7 X M (LS n1 n2)) h1,Zc,hq,Zc];exact Zj2 (U7 X M (LQ n1 n2)) _ _ _ _ _ _ h2
theorem Zms {M' : Zg} {nx i:Nat} {t:Bool} {o:COp} {sl:Sl} {hp:Hp} {e:Zb} (he:YD (Zl X M) M' nx i t o sl hp=some e) :
  ∃ n,YD (Z1 X M n) M' nx i t o sl hp=some e:=by
 unfold YD at he ⊢;cases t
 ·simp only[Ka,Kf,U5] at he ⊢;obtain⟨e',aa,h2⟩:=Za he;obtain⟨n,hn⟩:=Zeu X M aa;exact⟨n,by rw[hn];exact h2⟩
 ·simp only[Kh] at he ⊢;exact Zeu X M he
theorem Zle {M' : Zg} (nx:Nat):∀ (l:List CO) (i:Nat) (t:Bool) (sl:Sl) (hp:Hp) (r:Sl×Hp),
  WJ (Zl X M) M' nx i t l sl hp=some r→∃ n,WJ (Z1 X M n) M' nx i t l sl hp=some r:=by
 intro l
 induction l with
 | nil=>intro i t sl hp r hr;exact⟨0,hr⟩
 | cons o rest ih=>
  intro i t sl hp r hr;simp only[WJ] at hr ⊢;obtain⟨b,hb,hr⟩:=Za hr;simp only[hb,Zc];cases b
  ·simp only[Ka,Kf] at hr ⊢;exact ih _ _ _ _ _ hr
  ·simp only[Kh] at hr ⊢;obtain⟨q,hq,hr⟩:=Za hr;unfold XC at hq;obtain⟨e,he,hq⟩:=Za hq;obtain⟨n1,h1⟩:=Zms X M he;obtain⟨n2,h2⟩:=ih _ _ _ _ _ hr;refine⟨max n1 n2,?_⟩;unfold XC;rw[Znp (U7 X M (LS n1 n2)) h1,Zc,hq,Zc];exact ZdM (U7 X M (LQ n1 n2)) _ _ _ _ _ _ _ h2
theorem QL {c:ZE} {st:St} {n:Nat} {r:Ex×St} (h:Zx (Z1 X M n) M n c st=some r):Qi X M c st=some r:=
 ZcX (ZcY X M c st) h
theorem XT {α:Type} {x:Nat→Option α} (h:∀ n,x n=none):lim x=none:=by
 cases hx:lim x with
 | none=>rfl
 | some r=>obtain⟨n,hn⟩:=Zbt hx;rw[h n] at hn;cases hn
theorem Zmt (st:St):Qi X M .skip st=some (.normal,st):=QL X M (n:=0) (by simp[Zx])
theorem Zmu (id:Nat) (st:St):Qi X M (.exit id) st=some (.exit id,st):=QL X M (n:=0) (by simp[Zx])
theorem Zop (st:St):Qi X M .ret st=some (.ret,st):=QL X M (n:=0) (by simp[Zx])
theorem Zj3 (n:Nat) (ops:List CO) (st:St) :
  Qi X M (.region n none ops) st=Zfr st.m (st.nx+64*n) (Zbp (Zl X M) M st.nx 0 ops st.sl st.hp):=by
 cases h:Zbp (Zl X M) M st.nx 0 ops st.sl st.hp with
 | some r=>
  obtain⟨k,hk⟩:=Zmr X M _ _ _ _ _ _ h;exact QL X M (n:=k) (by simp only[Zx,hk,Zfr,Zc])
 | none=>
  refine XT fun k=>?_;simp only[Zx];cases hn:Zbp (Z1 X M k) M st.nx 0 ops st.sl st.hp with
  | none=>rfl
  | some r=>rw[Zj2 (ZaH X M k) _ _ _ _ _ _ hn] at h;cases h
theorem Zmv (n:Nat) (ps:List (Nat×Nat)) (ops:List CO) (st:St) :
  Qi X M (.region n (some ps) ops) st=Zfr st.m (st.nx+64*n) (ZiX ops ps (WJ (Zl X M) (XK M) st.nx 0 false ops st.sl st.hp)):=by
 cases h:WJ (Zl X M) (XK M) st.nx 0 false ops st.sl st.hp with
 | some r=>
  obtain⟨k,hk⟩:=Zle X M _ _ _ _ _ _ _ h;cases hs:ZiX ops ps (some r) with
  | none=>
   refine XT fun k'=>?_;simp only[Zx];cases hn:WJ (Z1 X M k') (XK M) st.nx 0 false ops st.sl st.hp with
   | none=>rfl
   | some r' =>
    have:=ZdM (ZaH X M k') _ _ _ _ _ _ _ hn;rw[h] at this;cases this;rw[hs];rfl
  | some r'=>exact QL X M (n:=k) (by simp only[Zx,hk,hs];rfl)
 | none=>
  refine XT fun k=>?_;simp only[Zx];cases hn:WJ (Z1 X M k) (XK M) st.nx 0 false ops st.sl st.hp with
  | none=>rfl
  | some r=>rw[ZdM (ZaH X M k) _ _ _ _ _ _ _ hn] at h;cases h
theorem Wo {c:ZE} {st:St} {r:Ex×St} (h:Qi X M c st=some r):∃ n,∀ m,n≤m→Zx (Z1 X M m) M m c st=some r:=by
 obtain⟨n,hn⟩:=Zbt h;exact⟨n,fun m hm=>(ZcY X M c st).le hn hm⟩
theorem Zoq (a b:ZE) (st:St):Qi X M (.seq a b) st=andThen (Qi X M a st) (Qi X M b):=by
 cases ha:Qi X M a st with
 | none=>
  refine XT fun n=>?_;cases h:Zx (Z1 X M n) M n a st with
  | none=>simp[Zx,h,andThen]
  | some q=>rw[QL X M h] at ha;cases ha
 | some q=>
  obtain⟨e,aa⟩:=q;obtain⟨n,hn⟩:=Wo X M ha;cases e with
  | normal=>
   simp only[andThen];cases hb:Qi X M b aa with
   | none=>
    refine XT fun k=>?_;cases h:Zx (Z1 X M k) M k (.seq a b) st with
    | none=>rfl
    | some q=>
     have h1:=(ZcY X M (.seq a b) st).le h (LS k n);simp only[Zx,hn _ (LQ k n),andThen] at h1;rw[QL X M h1] at hb;cases hb
   | some q=>
    obtain⟨m,hm⟩:=Wo X M hb;refine QL X M (n:=max n m) ?_;simp only[Zx,hn _ (LS n m),andThen,hm _ (LQ n m)]
  | exit id=>exact QL X M (n:=n) (by simp only[Zx,hn _ (Kj n),andThen])
  | ret=>exact QL X M (n:=n) (by simp only[Zx,hn _ (Kj n),andThen])
theorem Zmw (c:Opd) (a b:ZE) (st:St) :
  Qi X M (.cond c a b) st=ZcA (evO st.sl c) (Qi X M a st) (Qi X M b st):=by
 unfold ZcA;split
 ·rename_i t h;cases t
  ·simp only[Ka,Kf,Qi,Zx,h,ZcA]
  ·simp only[Kh,Qi,Zx,h,ZcA]
 ·rename_i h;refine XT fun n=>?_;simp only[Zx,ZcA]
theorem Zlf (id:Nat) (c:ZE) (st:St):Qi X M (.block id c) st=Zbs id (Qi X M c st):=by
 cases hc:Qi X M c st with
 | none=>
  refine XT fun n=>?_;cases h:Zx (Z1 X M n) M n c st with
  | none=>simp[Zx,h,Zbs]
  | some q=>rw[QL X M h] at hc;cases hc
 | some q=>
  obtain⟨n,hn⟩:=Wo X M hc;cases hb:Zbs id (some q) with
  | none=>
   obtain⟨e,aa⟩:=q;cases e<;>simp[Zbs] at hb
   split at hb<;>cases hb
  | some r=>exact QL X M (n:=n) (by simp only[Zx,hn _ (Kj n),hb])
theorem Zmx (K:List Nat) (c:ZE) (st:St):Qi X M (.keep K c) st=ZgW K (Qi X M c st):=by
 cases hc:Qi X M c st with
 | none=>
  refine XT fun n=>?_;cases h:Zx (Z1 X M n) M n c st with
  | none=>simp[Zx,h,ZgW]
  | some q=>rw[QL X M h] at hc;cases hc
 | some q=>
  obtain⟨n,hn⟩:=Wo X M hc;exact QL X M (n:=n) (by simp only[Zx,hn _ (Kj n),ZgW])
theorem Zmy (fl:Bool) (id:Nat) (i:Opd) (j:Nat) (c:ZE) (st:St):Qi X M (.link fl id i j c) st=bnd (ZaG fl id i j st) fun st1=>ZgY id st.nx (Qi X M c st1):=by
 cases hl:ZaG fl id i j st with
 | none=>
  refine XT fun n=>?_;simp only[Zx,hl];rfl
 | some st' =>
  rw[Zc];cases hc:Qi X M c st' with
  | none=>
   refine XT fun n=>?_;cases h:Zx (Z1 X M n) M n c st' with
   | none=>simp only[Zx,hl,Zc,h];rfl
   | some q=>rw[QL X M h] at hc;cases hc
  | some q=>
   obtain⟨n,hn⟩:=Wo X M hc;exact QL X M (n:=n) (by simp only[Zx,hl,Zc,hn _ (Kj n)];rfl)
theorem Zmz (c:ZE) (st:St):Qi X M (.melt c) st=Qi X M c (Zj0 st):=by
 cases hc:Qi X M c (Zj0 st) with
 | none=>
  refine XT fun n=>?_;cases h:Zx (Z1 X M n) M n c (Zj0 st) with
  | none=>simp only[Zx,h]
  | some q=>rw[QL X M h] at hc;cases hc
 | some q=>
  obtain⟨n,hn⟩:=Wo X M hc;exact QL X M (n:=n) (by simp only[Zx,hn _ (Kj n)])
noncomputable def Zbu (c:ZE) (K:List Nat) (st:St):Option (Ex×St):=lim fun n=>WK (Zx (Z1 X M n) M n c) K n st
theorem Jw (c:ZE) (K:List Nat) (st:St):Zoo fun n=>WK (Zx (Z1 X M n) M n c) K n st:=fun n r hr=>
 ZdN (fun _ _ h=>ZfL (Zet X M n) (Nat.le_succ n) c _ _ h) K n (n+1) st r (Nat.le_succ n) hr
theorem ZmA (c:ZE) (st:St):Qi X M (.loop c) st=Zbu X M c (Uk st.sl) st:=by
 simp only[Qi,Zbu,Zx]
theorem Zlg {c:ZE} {K:List Nat} {st aa : St} (h:Qi X M c (VX K st)=some (.normal,aa)) :
  Zbu X M c K st=Zbu X M c K aa:=by
 obtain⟨n,hn⟩:=Wo X M h;cases hl:Zbu X M c K aa with
 | none=>
  refine XT fun k=>?_;cases hk:WK (Zx (Z1 X M k) M k c) K k st with
  | none=>rfl
  | some q=>
   have h1:=(Jw X M c K st).le hk (show k≤max k n+1 by omega);simp only[WK] at h1;rw[hn (max k n+1) (by omega)] at h1;simp only[] at h1;have h2:=ZdN (fun _ _ h=>h) K (max k n) (max k n+1) aa q (Nat.le_succ _) h1;rw[show Zbu X M c K aa=some q from ZcX (Jw X M c K aa) h2] at hl;cases hl
 | some q=>
  obtain⟨m,hm⟩:=Zbt hl;refine ZcX (Jw X M c K st) (n:=max n m+1) ?_;simp only[WK,hn (max n m+1) (by omega)];exact ZdN (fun _ _ h=>ZfL (U7 X M (show m≤max n m+1 by omega)) (show m≤max n m+1 by omega) c _ _ h) K m (max n m) aa q (by omega) hm
theorem Zg1 {c:ZE} {K:List Nat} {st aa : St} {e:Ex} (he:e≠.normal) (h:Qi X M c (VX K st)=some (e,aa)) :
  Zbu X M c K st=some (e,aa):=by
 obtain⟨n,hn⟩:=Wo X M h;refine ZcX (Jw X M c K st) (n:=n+1) ?_;simp only[WK,hn (n+1) (by omega)];cases e with
 | normal=>exact absurd rfl he
 | exit id=>rfl
 | ret=>rfl
theorem Zps {f:Nat} {as:List AV} {h:List Zh} {fn:Z6} {r:AV×List Zh} (hx:X f=some (.text fn))
  (hl:as.length≤fn.nt) (hr:JO h.length fn.res (Qi X M fn.body { sl:=YB 0 as,hp:=YP 0 h,nx:=h.length,m:=h.length })=some r) :
  Zl X M f as h=some r:=by
 cases hv:Qi X M fn.body { sl:=YB 0 as,hp:=YP 0 h,nx:=h.length,m:=h.length } with
 | none=>rw[hv] at hr;simp[JO] at hr
 | some q=>
  rw[hv] at hr;obtain⟨n,hn⟩:=Wo X M hv;refine ZcX (Jv X M f as h) (n:=n+1) ?_;simp only[Z1,hx,Zes,Zg0,hl,Kh,hn n (Kj n)];exact hr
theorem ZmB {f:Nat} {as:List AV} {h:List Zh} {p:List AV→List Zh→Option (AV×List Zh)} {r:AV×List Zh} (hx:X f=some (.prim p)) (hp:p as h=some r) :
  Zl X M f as h=some r:=
 ZcX (Jv X M f as h) (n:=1) (by simp only[Z1,hx,Zes,hp])
end
section
variable (P:Program)
def Vi (nt:Nat):Code→Option ZE
 | .skip=>some .skip
 | .region _ ops draw=>bnd (Qb (Zfc P nt ops.toList) ops.toList) fun os=>if draw then (if ZgV ops os then some (.region ops.toList.length (some (U2 ops os)) os) else some .stuck) else some (.region ops.toList.length none os)
 | .seq a b=>bnd (Vi nt a) fun a=>bnd (Vi nt b) fun b=>some (.seq a b)
 | .cond c a b=>bnd (ZI c) fun c=>bnd (Vi nt a) fun a=>bnd (Vi nt b) fun b=>some (.cond c a b)
 | .block id c=>bnd (Vi nt c) fun c=>some (.block id c)
 | .loop c=>bnd (Vi nt c) fun c=>some (.loop c)
 | .exit id=>some (.exit id)
 | .ret=>some .ret
 | _=>some .stuck
def ZaI:COp→COp
 | .buildT s _ xs=>.buildSl s xs
 | .asgT s _ x=>.assign (some s) x
 | .appT s b flat x y=>.append s b false flat x y
 | .makeT s b _ z l c=>.make s b z l c
 | c=>c
def Zev:List CO→List CO
 | []=>[]
 | o :: r => { o with op:=ZaI o.op } :: Zev r
def ZmC:Option (List (Nat×Nat))→List CO→List CO
 | none,ops=>Zev ops
 | some _,ops=>ops
def XD:ZE→ZE
 | .keep _ c=>XD c
 | .seq a b=>.seq (XD a) (XD b)
 | .cond c a b=>.cond c (XD a) (XD b)
 | .block id c=>.block id (XD c)
 | .loop c=>.loop (XD c)
 | .region n d ops=>.region n d (ZmC d ops)
 | .link _ _ _ _ c=>XD c
 | .melt c=>XD c
 | .skip=>.skip
 | .exit id=>.exit id
 | .ret=>.ret
 | .stuck=>.stuck
def Zew (cf:Z6):Z6 := { nt:=cf.nt,res:=cf.res,body:=XD cf.body }
def cRes:ResultVar→Option ZhY
 | .tmp t=>some (.tmp t)
 | .cell a t=>bnd (J4 P t) fun g=>some (.cell a g (P.cellsOf t))
def cFun (fn:Func):Option Z6:=bnd fn.body fun c=>bnd (Vi P fn.ntmps c) fun b=>bnd (Qb (cRes P) fn.results.toList) fun rs=>some { nt:=fn.ntmps,res:=rs,body:=b }
end
end Go.Abs
