/- Own text. -/
import Derived.Test.YtnachaiejoflhaaAbsOps
set_option linter.unusedVariables false
set_option linter.unusedSimpArgs false
namespace Go.Abs
open Go
inductive Ex where
 | normal
 | exit (id:Nat)
 | ret
def Qp (lo hi:Nat):Hp→Bool
 | []=>true
 | (k,_) :: r=>decide (lo≤k)&&decide (k<hi)&&Qp (k+1) hi r
def Qs (gone:List Nat) (sl:Sl):Sl:=match gone with
 | []=>sl
 | _=>ZdG (kill gone) sl
def XN (gone:List Nat) (hp:Hp):Hp:=match gone with
 | []=>hp
 | _=>ZdG (QA gone) hp
def Zi (sl:Sl) (dst:Option Nat) (v:AV):Sl:=match dst with
 | some t=>ins sl t v
 | none=>sl
def Zb.on (e:Zb) (dst:Option Nat) (sl:Sl) (hp:Hp):Sl×Hp:=
 (Zi (Qs e.gone sl) dst e.eff.val,e.eff.on (XN e.gone hp))
def Q5 (base:Nat) (dst:Option Nat) (sl:Sl) (hp:Hp) (e:Option Zb):Option (Sl×Hp):=
 bnd e fun e=>if Qp base (base+64) e.eff.adds then some (e.on dst sl hp) else none
def J6 (want:Bool):AV→Option Bool
 | .d (.bool b)=>some (b==want)
 | .tup []=>some false
 | _=>none
def ZF (sl:Sl):Option (Nat×Bool)→Option Bool
 | none=>some true
 | some q=>J6 q.2 (gs sl q.1)
inductive ZB where
 | skip
 | region (n:Nat) (draw:Option (List (Nat×Nat))) (ops:List CO)
 | seq (a b:ZB)
 | cond (c:Opd) (a b:ZB)
 | block (id:Nat) (c:ZB)
 | loop (c:ZB)
 | exit (id:Nat)
 | ret
 | keep (K:List Nat) (c:ZB)
 | stuck
 | link (fl:Bool) (id:Nat) (i:Opd) (j:Nat) (c:ZB)
 | melt (c:ZB)
inductive Zh3 where
 | tmp (t:Nat)
 | cell (a:Nat) (g:Bool) (s:Nat)
structure ZL where
 nt:Nat
 res:List Zh3
 body:ZB
def ZmF (x:Option Opd):List Opd:=match x with
 | some y=>[y]
 | none=>[]
def Zq:COp→List Opd
 | .move x=>[x]
 | .assign _ x=>[x]
 | .pick c a b=>[c,a,b]
 | .alloc _ _=>[]
 | .box x=>[x]
 | .build _ ps=>ps.map fun q=>q.2.2
 | .buildSl _ xs=>xs
 | .load _ _ a=>[a]
 | .store _ _ a x=>[a,x]
 | .nilCheck x=>[x]
 | .bin _ _ x y=>[x,y]
 | .un _ x=>[x]
 | .eqA _ _ x y=>[x,y]
 | .convI _ x=>[x]
 | .convS x=>[x]
 | .fn _ cs=>cs
 | .make _ _ _ l c=>[l,c]
 | .slice _ x lo hi=>x :: (ZmF lo++ZmF hi)
 | .sliceS x lo hi=>x :: (ZmF lo++ZmF hi)
 | .slice0 x hi mx=>[x,hi,mx]
 | .shift _ x=>[x]
 | .part _ _ _ x=>[x]
 | .iaS _ x i=>[x,i]
 | .iaA _ _ x i=>[x,i]
 | .ixS x i=>[x,i]
 | .ixA _ _ _ x i=>[x,i]
 | .nth _ x=>[x]
 | .len x=>[x]
 | .lenS x=>[x]
 | .append _ _ _ _ x y=>[x,y]
 | .min x y=>[x,y]
 | .max x y=>[x,y]
 | .call f as=>f :: as
 | .slice3 _ x lo hi mx=>[x,lo,hi,mx]
 | .clear _ _ x=>[x]
 | .stuck=>[]
 | .buildT _ _ xs=>xs
 | .appT _ _ _ x y=>[x,y]
 | .asgT _ _ x=>[x]
 | .makeT _ _ _ _ l c=>[l,c]
def Zbv:COp→Bool
 | .store _ _ _ _=>true
 | _=>false
def isApp:COp→Bool
 | .append _ _ _ _ _ _=>true
 | _=>false
def Zg1 (c:COp):Bool:=Zbv c || isApp c
def CO.starts (o:CO):Bool:=Zbv o.op || o.tl
def ZD (os:List CO) (i:Nat):Bool:=match os[i]? with
 | some o=>CO.starts o
 | none=>false
def Ws:Opd→List Nat
 | .t n=>[n]
 | _=>[]
def Zg2:Option (Nat×Bool)→List Nat
 | some q=>[q.1]
 | none=>[]
def Xb (o:CO):List Nat:=(Zq o.op).flatMap Ws++Zg2 o.guard
def Qg:Option Nat→List Nat→Bool
 | some d,l=>!l.contains d
 | none,_=>true
def VX:Option Nat→Option Nat→Bool
 | some d,some e=>d != e
 | _,_=>true
def QG (a b:CO):Bool:=Qg a.dst (Xb b)&&VX a.dst b.dst&&Qg b.dst (Xb a)
def Xd:Opd→Bool
 | .v a=>(Zl a).isEmpty&&!Zie a
 | _=>true
def Zj6 (os:List CO) (j i:Nat):Bool:=match os[j]?,os[i]? with
 | some a,some b=>QG a b
 | _,_=>false
def X6:COp→Bool
 | .load _ _ _=>false
 | .store _ _ _ _=>false
 | .slice _ _ _ _=>false
 | .slice0 _ _ _=>false
 | .iaS _ _ _=>false
 | .len _=>false
 | .append _ _ _ _ _ _=>false
 | .buildSl _ _=>false
 | .buildT _ _ _=>false
 | .appT _ _ _ _ _=>false
 | .asgT _ _ _=>false
 | .makeT _ _ _ _ _ _=>false
 | .call _ _=>false
 | .slice3 _ _ _ _ _=>false
 | .clear _ _ _=>false
 | _=>true
def Vu:COp→Bool
 | .load _ _ _=>true
 | .slice _ _ _ _=>true
 | .slice0 _ _ _=>true
 | .iaS _ _ _=>true
 | .len _=>true
 | _=>false
def ZmG:COp→Bool
 | .clear _ _ _=>false
 | .store _ _ _ _=>false
 | .append _ _ _ _ _ _=>false
 | .buildSl _ _=>false
 | .buildT _ _ _=>false
 | .appT _ _ _ _ _=>false
 | .asgT _ _ _=>false
 | .makeT _ _ _ _ _ _=>false
 | .call _ _=>false
 | _=>true
def YZ (os:List CO) (k:Nat):Option Nat:=match os[k]? with
 | some o=>o.dst
 | none=>none
def Zj7 (os:List CO) (k:Nat):List Nat:=match os[k]? with
 | some o=>Xb o
 | none=>[]
def Wt (os:List CO) (k:Nat):Bool:=(List.range os.length).all fun q=>decide (q<k) || Qg (YZ os q) (Zj7 os k)
def Xi:COp→Bool
 | .move _=>true
 | _=>false
def J7:COp→Bool
 | .append _ _ _ _ _ _=>true
 | .buildSl _ _=>true
 | _=>false
def V8:COp→Bool
 | .call (.f _) _=>true
 | _=>false
def Zd0:COp→List Opd
 | .call _ as=>as
 | _=>[]
def ZmH:COp→Bool
 | .alloc _ _=>false
 | .box _=>false
 | .assign _ _=>false
 | .make _ _ _ _ _=>false
 | .fn _ _=>false
 | _=>true
def ZiM:COp→Bool
 | .buildSl _ _=>true
 | _=>false
def U4:AV→Bool
 | .d _=>true
 | .nil=>true
 | .nilp=>true
 | .nili=>true
 | _=>false
def Xx:List AV→Bool
 | []=>true
 | c :: r=>U4 c&&Xx r
def Zfj:COp→Bool
 | .alloc _ cs=>Xx cs
 | _=>false
def Zg3 (c:COp):Bool:=Vu c || ZiM c || (X6 c&&ZmH c) || Zfj c
def Zde:COp→Bool
 | .alloc _ cs=>Xx cs
 | .buildSl _ _=>true
 | .load _ _ _=>true
 | .nilCheck _=>true
 | .bin _ _ _ _=>true
 | .un _ _=>true
 | .convI _ _=>true
 | .shift _ _=>true
 | .iaS _ _ _=>true
 | .slice _ _ _ _=>true
 | .len _=>true
 | .sliceS _ _ _=>true
 | .lenS _=>true
 | _=>false
def Zq7:Option Nat→Bool
 | some _=>true
 | none=>false
def Ze9 (os:List CO) (k:Nat):Bool:=Zq7 (YZ os k)&&(List.range os.length).all fun q=>q==k || VX (YZ os q) (YZ os k)
def Zdf (os:List CO) (j i:Nat):Bool:=Wt os j&&Wt os i
def ZpU (os:List CO) (j i:Nat) (a b:COp):Bool:=
 ZmG b || (Zg1 b&&(X6 a || (!Xi a&&Vu a&&Zdf os j i))) || (Xi a&&(J7 b || Ze9 os j)) || (!Xi a&&V8 b&&Zg3 a&&Zdf os j i&&Ze9 os j)
def ZpV (os:List CO) (j i:Nat) (a b:COp):Bool:=(Xi b&&Ze9 os i) || (!Xi b&&V8 a&&Zde b&&Zdf os j i&&Ze9 os i)
def Zj8 (os:List CO) (j i:Nat):Bool:=match os[j]?,os[i]? with
 | some a,some b=>if ZD os j then !ZD os i&&ZpV os j i a.op b.op else !ZD os i || ZpU os j i a.op b.op
 | _,_=>false
def J8 (os:List CO) (j i:Nat):Option (Nat×Nat):=match os[j]?,os[i]? with
 | some a,some b=>if ZD os j then (if Xi b.op || V8 a.op then some (i,j) else none) else
   if ZD os i&&(if Zg1 b.op then !(X6 a.op) else if Xi a.op then !(J7 b.op) else V8 b.op) then some (j,i) else none
 | _,_=>none
def optP:Option (Nat×Nat)→List (Nat×Nat)
 | some p=>[p]
 | none=>[]
def Ul (ops:Array Oper) (os:List CO):List (Nat×Nat):=
 (List.range ops.size).flatMap fun i=>(List.range i).flatMap fun j=>if Zcs ops 6 i j then [] else optP (J8 os j i)
def Zg4 (ops:Array Oper) (os:List CO):Bool:=
 (List.range ops.size).all (fun i=>(XL ops i).all fun e=>decide (e<i)) &&
 (List.range ops.size).all (fun i=>(List.range i).all fun j=>(XL ops i).contains j || Zj6 os j i) &&
 (List.range ops.size).all (fun i=>(List.range i).all fun j=>Zcs ops 6 i j || Zj8 os j i) &&
 os.all (fun o=>(Zq o.op).all Xd)
def Um (id:Nat):AV→Bool
 | .d _=>true
 | .pim _=>true
 | .nil=>true
 | .ptr k _=>k != id
 | .prow k _ _ _=>k != id
 | .own k=>k != id
 | .ownv k _ _=>k != id
 | .nilp=>true
 | .nili=>true
 | .tup []=>true
 | _=>false
def okC:AV→Bool
 | .d _=>true
 | .pim _=>true
 | .nil=>true
 | .ptr _ _=>true
 | .prow _ _ _ _=>true
 | .own _=>true
 | .ownv _ _ _=>true
 | .nilp=>true
 | .nili=>true
 | _=>false
def Zj9:List AV→Bool
 | []=>true
 | v :: r=>okC v&&Zj9 r
def okV:AV→Bool
 | .agg cs=>Zj9 cs
 | .tup []=>true
 | v=>okC v
def okL (sl:Sl):List Opd→Bool
 | []=>true
 | x :: r=>okV (evO sl x)&&okL sl r
def okD (sl:Sl):Option Nat→Bool
 | some t=>okV (gs sl t)
 | none=>true
def Xy:AV→Option Nat
 | .ptr k _=>some k
 | .prow k _ _ _=>some k
 | _=>none
def Ql (sl:Sl) (id:Nat):List Opd→Bool
 | []=>true
 | x :: r=>Um id (evO sl x)&&Ql sl id r
def J9 (sl:Sl) (a:COp):Option Nat→Bool
 | some id=>Ql sl id (Zq a)
 | none=>false
def Un (sl:Sl) (xs:List Opd):AV→Bool
 | .ptr k _=>Ql sl k xs
 | .prow _ _ _ _=>false
 | _=>true
def ZaY (sl:Sl) (xs:List Opd):List Opd→Bool
 | []=>true
 | y :: r=>Un sl xs (evO sl y)&&ZaY sl xs r
def Vv (sl:Sl) (a:COp):AV→Bool
 | .nil=>true
 | .tup []=>true
 | .own k=>Ql sl k (Zq a)
 | .ownv k _ _=>Ql sl k (Zq a)
 | _=>false
def seenSrc (sl:Sl) (a:COp):AV→Bool
 | .own k=>Ql sl k (Zq a)
 | v=>okV v
def QQ (sl:Sl) (xs:List Opd):List Nat→Bool
 | []=>true
 | k :: r=>Ql sl k xs&&QQ sl xs r
def XG (sl:Sl) (a:COp):AV→AV→Bool
 | .prow _ _ _ _,.d _=>true
 | .prow _ _ _ _,v=>okV v&&QQ sl (Zq a) (Zl v)
 | _,_=>true
def YN (sl:Sl) (d:Option Nat):COp→COp→Bool
 | .move _,_=>okD sl d
 | a,.store _ _ x y=>J9 sl a (Xy (evO sl x))&&XG sl a (evO sl x) (evO sl y)
 | a,.append _ _ _ flat x y=>Vv sl a (evO sl x)&&(flat || seenSrc sl a (evO sl y))
 | a,.call _ as=>okL sl (Zq a)&&(okD sl d&&(okL sl as&&ZaY sl (Zq a) as))
 | _,_=>false
def Zdg (os:List CO) (sl:Sl) (p:Nat×Nat):Bool:=match os[p.1]?,os[p.2]? with
 | some a,some b=>YN sl a.dst a.op b.op
 | _,_=>false
def YI (os:List CO) (sl:Sl):List (Nat×Nat)→Bool
 | []=>true
 | p :: r=>Zdg os sl p&&YI os sl r
def Q9 (M:Zf):Zf:=fun f i=>i != 99&&M f i
section
variable (C:Orc) (M:Zf)
noncomputable def ZaZ (nx:Nat):Nat→List CO→Sl→Hp→Option (Sl×Hp)
 | _,[],sl,hp=>some (sl,hp)
 | i,o :: rest,sl,hp=>bnd (ZF sl o.guard) fun b=>
   if b then bnd (Q5 (nx+64*i) o.dst sl hp (vop C M sl hp (nx+64*i) o.op)) fun r=>ZaZ nx (i+1) rest r.1 r.2
   else ZaZ nx (i+1) rest (Zi sl o.dst (.tup [])) hp
def Zaa (c:Zb):List Nat→Hp→List Nat→List Nat→Option Zb
 | [],[],[],[]=>some c
 | _,_,_,_=>none
def Uo (e:Option Zb):Option Zb:=bnd e fun c=>Zaa c c.gone c.eff.sets c.eff.dels c.eff.frz
noncomputable def XP (nx i:Nat) (tail:Bool) (o:COp) (sl:Sl) (hp:Hp):Option Zb:=
 if tail then vop C M sl hp (nx+64*i) o else Uo (vop C M sl hp (nx+64*i) o)
noncomputable def VC (nx:Nat):Nat→Bool→List CO→Sl→Hp→Option (Sl×Hp)
 | _,_,[],sl,hp=>some (sl,hp)
 | i,t,o :: rest,sl,hp=>bnd (ZF sl o.guard) fun b=>
   if b then bnd (Q5 (nx+64*i) o.dst sl hp (XP C M nx i (CO.starts o) o.op sl hp)) fun r=>VC nx (i+1) t rest r.1 r.2
   else VC nx (i+1) t rest (Zi sl o.dst (.tup [])) hp
def Wu {α:Type}:List (Nat×α)→List Nat
 | []=>[]
 | (k,_) :: r=>k :: Wu r
def only {α:Type} (K:List Nat):List (Nat×α)→List (Nat×α)
 | []=>[]
 | (k,v) :: r=>if K.contains k then (k,v) :: only K r else only K r
def X7:Nat→List Zh→Hp
 | _,[]=>[]
 | k,o :: r=>X7 (k+1) r++[(k,o)]
def ZiN:Sl→List Nat
 | []=>[]
 | (_,v) :: r=>Zl v++ZiN r
def Zka:Option Zh→Bool
 | some _=>true
 | none=>false
def U5 (hp:Hp) (ids:List Nat) (i:Nat):Bool:=ids.contains i&&Zka (lkp hp i)
def Za0 (hp:Hp) (ids:List Nat):List Nat→List Nat
 | []=>[]
 | i :: r=>if U5 hp ids i then Za0 hp ids r else i :: Za0 hp ids r
def Jn (hp:Hp) (ids:List Nat) (v:AV):AV:=ren (XK ids) (kill (Za0 hp ids (Zl v)) v)
def Za1 (hp:Hp) (ids:List Nat) (o:Zh):Zh:=ZcJ (XK ids) (QA (Za0 hp ids (Vh o)) o)
def ZmI:Option Zh→List Nat
 | some o=>Vh o
 | none=>[]
def Yg (hp:Hp):List Nat→List Nat
 | []=>[]
 | id :: r=>ZmI (lkp hp id)++Yg hp r
def Y0 (K:List Nat) (st:St):St:=
 let sl:=only K st.sl
 let ids:=Qr st.hp (QN st.hp) (ZiN sl++Yg st.hp (List.range st.m)) (List.range st.m)
 { sl:=ZdG (Jn st.hp ids) sl,hp:=X7 0 ((U1 st.hp ids).map (Za1 st.hp ids)),nx:=ids.length,m:=st.m }
def VD (f:St→Option (Ex×St)) (K:List Nat):Nat→St→Option (Ex×St)
 | 0,_=>none
 | n+1,st=>match f (Y0 K st) with
  | some (.normal,st')=>VD f K n st'
  | r=>r
def andThen (r:Option (Ex×St)) (k:St→Option (Ex×St)):Option (Ex×St):=match r with
 | some (.normal,st)=>k st
 | r=>r
def ZbZ (v:AV) (a b:Option (Ex×St)):Option (Ex×St):=match v with
 | .d (.bool t)=>if t then a else b
 | _=>none
def Za2 (id:Nat) (r:Option (Ex×St)):Option (Ex×St):=match r with
 | some (.exit j,st)=>if j=id then some (.normal,st) else some (.exit j,st)
 | r=>r
def ZiO (ops:List CO) (ps:List (Nat×Nat)) (r:Option (Sl×Hp)):Option (Sl×Hp):=bnd r fun r=>if YI ops r.1 ps then some r else none
def Zfa (m nx:Nat) (r:Option (Sl×Hp)):Option (Ex×St):=bnd r fun r=>some (.normal,{ sl:=r.1,hp:=r.2,nx:=nx,m:=m })
def Zg5 (K:List Nat) (r:Option (Ex×St)):Option (Ex×St):=match r with
 | some q=>some (q.1,{ q.2 with sl:=only K q.2.sl })
 | none=>none
def Zny (fl:Bool) (k:Nat) (ys:List D):Option Zh:=if fl then (if Wg D.flat ys then some (.row k ys true false) else none) else some (.tree k k ys none)
def Zdh (xs:List D) (n j:Nat) (y:D):Option (List D):=bnd xs[n]? fun x=>some (xs.set n (Q2 x j [y]))
def Znz (fl:Bool) (nx n j:Nat):Option Zh→Option (Zh×Zh)
 | some (.tree s k xs none)=>bnd (Vs xs n j) fun ys=>bnd (Zny fl k ys) fun o=>bnd (Zdh xs n j (.sl [])) fun xs'=>some (.tree s k xs' (some (some nx,n,j)),o)
 | _=>none
def Zab (fl:Bool) (id:Nat) (i:Opd) (j:Nat) (st:St):Option St:=bnd (idx (evO st.sl i)) fun n=>if 0≤n then bnd (Znz fl st.nx n.toNat j (lkp st.hp id)) fun q=>some { st with hp:=ins (ins st.hp id q.1) st.nx q.2,nx:=st.nx+64 } else none
def Zg6 (k:Nat):Option Zh→Option (List D)
 | some (.row k' ys true false)=>if k'=k∧Wg D.flat ys then some ys else none
 | some (.tree k' n ys none)=>if k'=k∧n=k then some ys else none
 | _=>none
def ZeL (hp:Hp) (id nm:Nat):Option Zh→Option Hp
 | some (.tree s k xs (some (some nm',n,j)))=>if nm'=nm then bnd (Zg6 k (lkp hp nm)) fun ys=>bnd (Zdh xs n j (.sl ys)) fun xs'=>some (ins (del hp nm) id (.tree s k xs' none)) else none
 | _=>none
def ZoB (hp:Hp):Option Hp→Hp
 | some h=>h
 | none=>hp
def Zg7 (id nm:Nat) (r:Option (Ex×St)):Option (Ex×St):=match r with
 | some q=>some (q.1,{ q.2 with hp:=ZoB q.2.hp (ZeL q.2.hp id nm (lkp q.2.hp id)) })
 | none=>none
def Zkb (st:St):St := { st with hp:=ZdG Zc6 st.hp }
noncomputable def Zu (N:Nat):ZB→St→Option (Ex×St)
 | .skip,st=>some (.normal,st)
 | .region n none ops,st=>Zfa st.m (st.nx+64*n) (ZaZ C M st.nx 0 ops st.sl st.hp)
 | .region n (some ps) ops,st=>Zfa st.m (st.nx+64*n) (ZiO ops ps (VC C (Q9 M) st.nx 0 false ops st.sl st.hp))
 | .seq a b,st=>andThen (Zu N a st) (Zu N b)
 | .cond c a b,st=>ZbZ (evO st.sl c) (Zu N a st) (Zu N b st)
 | .block id c,st=>Za2 id (Zu N c st)
 | .loop c,st=>VD (Zu N c) (Wu st.sl) N st
 | .exit id,st=>some (.exit id,st)
 | .ret,st=>some (.ret,st)
 | .keep K c,st=>Zg5 K (Zu N c st)
 | .stuck,_=>none
 | .link fl id i j c,st=>bnd (Zab fl id i j st) fun st1=>Zg7 id st.nx (Zu N c st1)
 | .melt c,st=>Zu N c (Zkb st)
def Zg8 (st:St):Zh3→Option AV
 | .tmp t=>some (gs st.sl t)
 | .cell a g s=>YD st.hp g s (gs st.sl a)
def X8 (m:Nat) (hp:Hp) (v:AV):AV×List Zh:=
 let ids:=Qr hp (QN hp) (Zl v++Yg hp (List.range m)) (List.range m)
 (Jn hp ids v,(U1 hp ids).map (Za1 hp ids))
def ZnA:AV→Bool
 | .tup _=>true
 | _=>false
def Zcy:List AV→Bool
 | []=>false
 | v :: r=>ZnA v || Zcy r
def Up:List AV→AV
 | [v]=>v
 | vs=>if Zcy vs then .junk else .tup vs
def XO:Nat→List AV→Sl
 | _,[]=>[]
 | k,v :: r=>XO (k+1) r++[(k,v)]
def U6 (m:Nat) (rs:List Zh3) (r:Option (Ex×St)):Option (AV×List Zh):=match r with
 | some (.normal,st)=>bnd (Z5 (Zg8 st) rs) fun vs=>some (X8 m st.hp (Up vs))
 | some (.ret,st)=>bnd (Z5 (Zg8 st) rs) fun vs=>some (X8 m st.hp (Up vs))
 | _=>none
noncomputable def Zg9 (N:Nat) (fn:ZL) (as:List AV) (h:List Zh):Option (AV×List Zh):=
 if as.length≤fn.nt then U6 h.length fn.res (Zu C M N fn.body { sl:=XO 0 as,hp:=X7 0 h,nx:=h.length,m:=h.length }) else none
end
inductive Fn where
 | text (f:ZL)
 | prim (p:List AV→List Zh→Option (AV×List Zh))
abbrev Fns:=Nat→Option Fn
noncomputable def Zd1 (C:Orc) (M:Zf) (N:Nat) (as:List AV) (h:List Zh):Option Fn→Option (AV×List Zh)
 | some (.text f)=>Zg9 C M N f as h
 | some (.prim p)=>p as h
 | none=>none
noncomputable def ZX (X:Fns) (M:Zf):Nat→Orc
 | 0,_,_,_=>none
 | n+1,f,as,h=>Zd1 (ZX X M n) M n as h (X f)
open Classical in
noncomputable def lim {α:Type} (x:Nat→Option α):Option α:=if h:∃ r,∃ n,x n=some r then some h.choose else none
def ZoC {α:Type} (x:Nat→Option α):Prop:=∀ n r,x n=some r→x (n+1)=some r
theorem ZoC.le {α:Type} {x:Nat→Option α} (h:ZoC x) {n m:Nat} {r:α} (hr:x n=some r) (aa:n≤m):x m=some r:=by
 induction aa with
 | refl=>exact hr
 | step _ ih=>exact h _ _ ih
theorem Zcz {α:Type} {x:Nat→Option α} (h:ZoC x) {n:Nat} {r:α} (hr:x n=some r):lim x=some r:=by
 have he:∃ r,∃ n,x n=some r:=⟨r,n,hr⟩
 unfold lim;rw[dif_pos he];obtain⟨m,hm⟩:=he.choose_spec;have h1:=h.le hm (LJ m n);have h2:=h.le hr (LG m n);rw[h1] at h2;exact h2
theorem Za3 {α:Type} {x:Nat→Option α} {r:α} (hr:lim x=some r):∃ n,x n=some r:=by
 unfold lim at hr;split at hr
 ·rename_i h;obtain⟨n,hn⟩:=h.choose_spec;exact⟨n,by rw[hn];exact hr⟩
 ·cases hr
def Orc.le (C C' : Orc):Prop:=∀ f as h r,C f as h=some r→C' f as h=some r
section
variable {M:Zf} {C C' : Orc}
theorem Wv {α β:Type} {x x' : Option α} {f f' : α→Option β} {r:β} (hx:∀ a,x=some a→x'=some a) (hf:∀ a,f a=some r→f' a=some r) (h:bnd x f=some r):bnd x' f'=some r:=by
 obtain⟨a,h1,h2⟩:=Za h;rw[hx a h1];exact hf a h2
theorem ZpW (h:C.le C') {m:Nat→Bool} {hp:Hp} {base f:Nat} {aa:List AV} {r:Zb}
  (hr:UE C m hp base f aa=some r):UE C' m hp base f aa=some r:=by
 unfold UE at hr ⊢;refine Wv (fun _ h=>h) (fun as hr=>?_) hr;unfold JX at hr ⊢;by_cases hc:(as.flatMap Zl).all (Qr hp (QN hp) (as.flatMap Zl) []).contains∧¬(Q8 aa as).any (Qr hp (QN hp) (as.flatMap Zl) []).contains∧WI hp (as.flatMap VA) (Qr hp (QN hp) (as.flatMap Zl) [])=true
 ·rw[Kw hc] at hr ⊢;exact Wv (fun q hq=>h _ _ _ _ hq) (fun _ h=>h) hr
 ·rw[Ko hc] at hr;cases hr
theorem Zkc (h:C.le C') {sl:Sl} {hp:Hp} {base:Nat} {o:COp} {r:Zb} (hr:vop C M sl hp base o=some r) :
  vop C' M sl hp base o=some r:=by
 cases o with
 | call f as=>
  simp only[vop] at hr ⊢;cases hg:evO sl f<;>simp only[hg,U3] at hr ⊢ <;> first | exact ZpW h hr | exact hr
 | _=>exact hr
theorem Zkd (h:C.le C') (nx:Nat):∀ (l:List CO) (i:Nat) (sl:Sl) (hp:Hp) (r:Sl×Hp),
  ZaZ C M nx i l sl hp=some r→ZaZ C' M nx i l sl hp=some r:=by
 intro l
 induction l with
 | nil=>intro i sl hp r hr;exact hr
 | cons o rest ih=>
  intro i sl hp r hr;simp only[ZaZ] at hr ⊢;refine Wv (fun _ h=>h) (fun b hr=>?_) hr;cases b
  ·simp only[Ka,Kh] at hr ⊢;exact ih _ _ _ _ hr
  ·simp only[Ki] at hr ⊢;refine Wv (fun q hq=>?_) (fun q hq=>ih _ _ _ _ hq) hr;unfold Q5 at hq ⊢;exact Wv (fun e he=>Zkc h he) (fun _ h=>h) hq
theorem ZnB (h:C.le C') {nx i:Nat} {t:Bool} {o:COp} {sl:Sl} {hp:Hp} {e:Zb} (he:XP C M nx i t o sl hp=some e) :
  XP C' M nx i t o sl hp=some e:=by
 unfold XP at he ⊢;cases t
 ·simp only[Ka,Kh,Uo] at he ⊢;exact Wv (fun _ hv=>Zkc h hv) (fun _ h=>h) he
 ·simp only[Ki] at he ⊢;exact Zkc h he
theorem Zdi (h:C.le C') (nx:Nat):∀ (l:List CO) (i:Nat) (t:Bool) (sl:Sl) (hp:Hp) (r:Sl×Hp),
  VC C M nx i t l sl hp=some r→VC C' M nx i t l sl hp=some r:=by
 intro l
 induction l with
 | nil=>intro i t sl hp r hr;exact hr
 | cons o rest ih=>
  intro i t sl hp r hr;simp only[VC] at hr ⊢;refine Wv (fun _ h=>h) (fun b hr=>?_) hr;cases b
  ·simp only[Ka,Kh] at hr ⊢;exact ih _ _ _ _ _ hr
  ·simp only[Ki] at hr ⊢;refine Wv (fun q hq=>?_) (fun q hq=>ih _ _ _ _ _ hq) hr;unfold Q5 at hq ⊢;exact Wv (fun e he=>ZnB h he) (fun _ h=>h) hq
theorem Zdj {f g:St→Option (Ex×St)} (h:∀ st r,f st=some r→g st=some r) (K:List Nat) :
  ∀ (n m:Nat) (st:St) (r:Ex×St),n≤m→VD f K n st=some r→VD g K m st=some r:=by
 intro n
 induction n with
 | zero=>intro m st r _ hr;simp[VD] at hr
 | succ n ih=>
  intro m st r hm hr;cases m with
  | zero=>omega
  | succ m=>
   simp only[VD] at hr ⊢;cases hf:f (Y0 K st) with
   | none=>simp[hf] at hr
   | some q=>
    rw[hf] at hr;rw[h _ _ hf];obtain⟨e,aa⟩:=q;cases e with
    | normal=>exact ih m aa r (by omega) hr
    | exit id=>exact hr
    | ret=>exact hr
theorem Zfk (h:C.le C') {N N' : Nat} (hN:N≤N'):∀ (c:ZB) (st:St) (r:Ex×St),
  Zu C M N c st=some r→Zu C' M N' c st=some r:=by
 intro c
 induction c with
 | skip=>intro st r hr;simpa [Zu] using hr
 | region n draw ops=>
  intro st r hr;cases draw
  ·simp only[Zu,Zfa] at hr ⊢;exact Wv (fun q hq=>Zkd h _ _ _ _ _ _ hq) (fun _ h=>h) hr
  ·simp only[Zu,Zfa,ZiO] at hr ⊢;exact Wv (fun q hq=>Wv (fun q hq=>Zdi h _ _ _ _ _ _ _ hq) (fun _ h=>h) hq) (fun _ h=>h) hr
 | seq a b iha ihb=>
  intro st r hr;simp only[Zu] at hr ⊢;cases ha:Zu C M N a st with
  | none=>simp[ha,andThen] at hr
  | some q=>
   rw[ha] at hr;rw[iha _ _ ha];obtain⟨e,aa⟩:=q;cases e with
   | normal=>exact ihb _ _ hr
   | exit id=>exact hr
   | ret=>exact hr
 | cond c a b iha ihb=>
  intro st r hr;simp only[Zu,ZbZ] at hr ⊢;split at hr
  ·rename_i t ht;cases t
   ·simp only[Ka,Kh] at hr ⊢;exact ihb _ _ hr
   ·simp only[Ki] at hr ⊢;exact iha _ _ hr
  ·cases hr
 | block id c ih=>
  intro st r hr;simp only[Zu] at hr ⊢;cases hc:Zu C M N c st with
  | none=>simp[hc,Za2] at hr
  | some q=>rw[hc] at hr;rw[ih _ _ hc];exact hr
 | loop c ih=>
  intro st r hr;simp only[Zu] at hr ⊢;exact Zdj ih _ _ _ _ _ hN hr
 | exit id=>intro st r hr;simpa [Zu] using hr
 | ret=>intro st r hr;simpa [Zu] using hr
 | keep K c ih=>
  intro st r hr;simp only[Zu] at hr ⊢;cases hc:Zu C M N c st with
  | none=>simp[hc,Zg5] at hr
  | some q=>rw[hc] at hr;rw[ih _ _ hc];exact hr
 | stuck=>intro st r hr;simp[Zu] at hr
 | link fl id i j c ih=>
  intro st r hr;simp only[Zu] at hr ⊢;obtain⟨aa,h1,h2⟩:=Za hr;rw[h1,Zc];cases hc:Zu C M N c aa with
  | none=>simp[hc,Zg7] at h2
  | some q=>rw[hc] at h2;rw[ih _ _ hc];exact h2
 | melt c ih=>
  intro st r hr;simp only[Zu] at hr ⊢;exact ih _ r hr
theorem ZpX (h:C.le C') {N N' : Nat} (hN:N≤N') {f:ZL} {as:List AV} {hh:List Zh} {r:AV×List Zh}
  (hr:Zg9 C M N f as hh=some r):Zg9 C' M N' f as hh=some r:=by
 unfold Zg9 at hr ⊢;by_cases hl:as.length≤f.nt
 ·rw[Kw hl] at hr ⊢;cases hv:Zu C M N f.body { sl:=XO 0 as,hp:=X7 0 hh,nx:=hh.length,m:=hh.length } with
  | none=>simp[hv,U6] at hr
  | some q=>rw[hv] at hr;rw[Zfk h hN _ _ _ hv];exact hr
 ·rw[Ko hl] at hr;cases hr
end
section
variable (X:Fns) (M:Zf)
theorem Zd2:∀ n,(ZX X M n).le (ZX X M (n+1)):=by
 intro n
 induction n with
 | zero=>intro f as h r hr;simp[ZX] at hr
 | succ n ih=>
  intro f as h r hr;rw[ZX] at hr ⊢;cases hf:X f with
  | none=>rw[hf] at hr;cases hr
  | some g=>
   rw[hf] at hr;cases g with
   | text g=>exact ZpX ih (Nat.le_succ n) hr
   | prim p=>exact hr
noncomputable def Zj (f:Nat) (as:List AV) (h:List Zh):Option (AV×List Zh):=lim fun n=>ZX X M n f as h
noncomputable def Qf (c:ZB) (st:St):Option (Ex×St):=lim fun n=>Zu (ZX X M n) M n c st
theorem UH (f:Nat) (as:List AV) (h:List Zh):ZoC fun n=>ZX X M n f as h:=fun n r hr=>Zd2 X M n f as h r hr
theorem Zac (n:Nat):(ZX X M n).le (Zj X M):=fun f as h _ hr=>Zcz (UH X M f as h) hr
theorem ZcA (c:ZB) (st:St):ZoC fun n=>Zu (ZX X M n) M n c st:=fun n r hr=>Zfk (Zd2 X M n) (Nat.le_succ n) c st r hr
theorem Uq {n m:Nat} (h:n≤m):(ZX X M n).le (ZX X M m):=fun f as hh _ hr=>(UH X M f as hh).le hr h
theorem ZlF {m:Nat→Bool} {hp:Hp} {base f:Nat} {aa:List AV} {r:Zb}
  (hr:UE (Zj X M) m hp base f aa=some r):∃ n,UE (ZX X M n) m hp base f aa=some r:=by
 unfold UE at hr ⊢;obtain⟨as,ab,hr⟩:=Za hr;simp only[ab,Zc];unfold JX at hr ⊢;by_cases hc:(as.flatMap Zl).all (Qr hp (QN hp) (as.flatMap Zl) []).contains∧¬(Q8 aa as).any (Qr hp (QN hp) (as.flatMap Zl) []).contains∧WI hp (as.flatMap VA) (Qr hp (QN hp) (as.flatMap Zl) [])=true
 ·rw[Kw hc] at hr;obtain⟨q,hq,hr⟩:=Za hr;obtain⟨n,hn⟩:=Za3 hq;refine⟨n,?_⟩;rw[Kw hc,hn];exact hr
 ·rw[Ko hc] at hr;cases hr
theorem Zd3 {M' : Zf} {sl:Sl} {hp:Hp} {base:Nat} {o:COp} {r:Zb} (hr:vop (Zj X M) M' sl hp base o=some r) :
  ∃ n,vop (ZX X M n) M' sl hp base o=some r:=by
 cases o with
 | call f as=>
  simp only[vop] at hr ⊢;cases hg:evO sl f<;>simp only[hg,U3] at hr ⊢ <;> first | exact ZlF X M hr | exact⟨0,hr⟩
 | _=>exact⟨0,hr⟩
theorem ZmJ (nx:Nat):∀ (l:List CO) (i:Nat) (sl:Sl) (hp:Hp) (r:Sl×Hp),
  ZaZ (Zj X M) M nx i l sl hp=some r→∃ n,ZaZ (ZX X M n) M nx i l sl hp=some r:=by
 intro l
 induction l with
 | nil=>intro i sl hp r hr;exact⟨0,hr⟩
 | cons o rest ih=>
  intro i sl hp r hr;simp only[ZaZ] at hr ⊢;obtain⟨b,hb,hr⟩:=Za hr;simp only[hb,Zc];cases b
  ·simp only[Ka,Kh] at hr ⊢;exact ih _ _ _ _ hr
  ·simp only[Ki] at hr ⊢;obtain⟨q,hq,hr⟩:=Za hr;unfold Q5 at hq;obtain⟨e,he,hq⟩:=Za hq;obtain⟨n1,h1⟩:=Zd3 X M he;obtain⟨n2,h2⟩:=ih _ _ _ _ hr;refine⟨max n1 n2,?_⟩;unfold Q5;rw[Zkc (Uq X M (LJ n1 n2)) h1,Zc,hq,Zc];exact Zkd (Uq X M (LG n1 n2)) _ _ _ _ _ _ h2
theorem ZmK {M' : Zf} {nx i:Nat} {t:Bool} {o:COp} {sl:Sl} {hp:Hp} {e:Zb} (he:XP (Zj X M) M' nx i t o sl hp=some e) :
  ∃ n,XP (ZX X M n) M' nx i t o sl hp=some e:=by
 unfold XP at he ⊢;cases t
 ·simp only[Ka,Kh,Uo] at he ⊢;obtain⟨e',aa,h2⟩:=Za he;obtain⟨n,hn⟩:=Zd3 X M aa;exact⟨n,by rw[hn];exact h2⟩
 ·simp only[Ki] at he ⊢;exact Zd3 X M he
theorem ZlG {M' : Zf} (nx:Nat):∀ (l:List CO) (i:Nat) (t:Bool) (sl:Sl) (hp:Hp) (r:Sl×Hp),
  VC (Zj X M) M' nx i t l sl hp=some r→∃ n,VC (ZX X M n) M' nx i t l sl hp=some r:=by
 intro l
 induction l with
 | nil=>intro i t sl hp r hr;exact⟨0,hr⟩
 | cons o rest ih=>
  intro i t sl hp r hr;simp only[VC] at hr ⊢;obtain⟨b,hb,hr⟩:=Za hr;simp only[hb,Zc];cases b
  ·simp only[Ka,Kh] at hr ⊢;exact ih _ _ _ _ _ hr
  ·simp only[Ki] at hr ⊢;obtain⟨q,hq,hr⟩:=Za hr;unfold Q5 at hq;obtain⟨e,he,hq⟩:=Za hq;obtain⟨n1,h1⟩:=ZmK X M he;obtain⟨n2,h2⟩:=ih _ _ _ _ _ hr;refine⟨max n1 n2,?_⟩;unfold Q5;rw[ZnB (Uq X M (LJ n1 n2)) h1,Zc,hq,Zc];exact Zdi (Uq X M (LG n1 n2)) _ _ _ _ _ _ _ h2
theorem QB {c:ZB} {st:St} {n:Nat} {r:Ex×St} (h:Zu (ZX X M n) M n c st=some r):Qf X M c st=some r:=
 Zcz (ZcA X M c st) h
theorem Xj {α:Type} {x:Nat→Option α} (h:∀ n,x n=none):lim x=none:=by
 cases hx:lim x with
 | none=>rfl
 | some r=>obtain⟨n,hn⟩:=Za3 hx;rw[h n] at hn;cases hn
theorem ZmL (st:St):Qf X M .skip st=some (.normal,st):=QB X M (n:=0) (by simp[Zu])
theorem ZmM (id:Nat) (st:St):Qf X M (.exit id) st=some (.exit id,st):=QB X M (n:=0) (by simp[Zu])
theorem ZoD (st:St):Qf X M .ret st=some (.ret,st):=QB X M (n:=0) (by simp[Zu])
theorem Zke (n:Nat) (ops:List CO) (st:St) :
  Qf X M (.region n none ops) st=Zfa st.m (st.nx+64*n) (ZaZ (Zj X M) M st.nx 0 ops st.sl st.hp):=by
 cases h:ZaZ (Zj X M) M st.nx 0 ops st.sl st.hp with
 | some r=>
  obtain⟨k,hk⟩:=ZmJ X M _ _ _ _ _ _ h;exact QB X M (n:=k) (by simp only[Zu,hk,Zfa,Zc])
 | none=>
  refine Xj fun k=>?_;simp only[Zu];cases hn:ZaZ (ZX X M k) M st.nx 0 ops st.sl st.hp with
  | none=>rfl
  | some r=>rw[Zkd (Zac X M k) _ _ _ _ _ _ hn] at h;cases h
theorem ZmN (n:Nat) (ps:List (Nat×Nat)) (ops:List CO) (st:St) :
  Qf X M (.region n (some ps) ops) st=Zfa st.m (st.nx+64*n) (ZiO ops ps (VC (Zj X M) (Q9 M) st.nx 0 false ops st.sl st.hp)):=by
 cases h:VC (Zj X M) (Q9 M) st.nx 0 false ops st.sl st.hp with
 | some r=>
  obtain⟨k,hk⟩:=ZlG X M _ _ _ _ _ _ _ h;cases hs:ZiO ops ps (some r) with
  | none=>
   refine Xj fun k'=>?_;simp only[Zu];cases hn:VC (ZX X M k') (Q9 M) st.nx 0 false ops st.sl st.hp with
   | none=>rfl
   | some r' =>
    have:=Zdi (Zac X M k') _ _ _ _ _ _ _ hn;rw[h] at this;cases this;rw[hs];rfl
  | some r'=>exact QB X M (n:=k) (by simp only[Zu,hk,hs];rfl)
 | none=>
  refine Xj fun k=>?_;simp only[Zu];cases hn:VC (ZX X M k) (Q9 M) st.nx 0 false ops st.sl st.hp with
  | none=>rfl
  | some r=>rw[Zdi (Zac X M k) _ _ _ _ _ _ _ hn] at h;cases h
theorem Vw {c:ZB} {st:St} {r:Ex×St} (h:Qf X M c st=some r):∃ n,∀ m,n≤m→Zu (ZX X M m) M m c st=some r:=by
 obtain⟨n,hn⟩:=Za3 h;exact⟨n,fun m hm=>(ZcA X M c st).le hn hm⟩
theorem ZoE (a b:ZB) (st:St):Qf X M (.seq a b) st=andThen (Qf X M a st) (Qf X M b):=by
 cases ha:Qf X M a st with
 | none=>
  refine Xj fun n=>?_;cases h:Zu (ZX X M n) M n a st with
  | none=>simp[Zu,h,andThen]
  | some q=>rw[QB X M h] at ha;cases ha
 | some q=>
  obtain⟨e,aa⟩:=q;obtain⟨n,hn⟩:=Vw X M ha;cases e with
  | normal=>
   simp only[andThen];cases hb:Qf X M b aa with
   | none=>
    refine Xj fun k=>?_;cases h:Zu (ZX X M k) M k (.seq a b) st with
    | none=>rfl
    | some q=>
     have h1:=(ZcA X M (.seq a b) st).le h (LJ k n);simp only[Zu,hn _ (LG k n),andThen] at h1;rw[QB X M h1] at hb;cases hb
   | some q=>
    obtain⟨m,hm⟩:=Vw X M hb;refine QB X M (n:=max n m) ?_;simp only[Zu,hn _ (LJ n m),andThen,hm _ (LG n m)]
  | exit id=>exact QB X M (n:=n) (by simp only[Zu,hn _ (Kf n),andThen])
  | ret=>exact QB X M (n:=n) (by simp only[Zu,hn _ (Kf n),andThen])
theorem ZmO (c:Opd) (a b:ZB) (st:St) :
  Qf X M (.cond c a b) st=ZbZ (evO st.sl c) (Qf X M a st) (Qf X M b st):=by
 unfold ZbZ;split
 ·rename_i t h;cases t
  ·simp only[Ka,Kh,Qf,Zu,h,ZbZ]
  ·simp only[Ki,Qf,Zu,h,ZbZ]
 ·rename_i h;refine Xj fun n=>?_;simp only[Zu,ZbZ]
theorem ZlH (id:Nat) (c:ZB) (st:St):Qf X M (.block id c) st=Za2 id (Qf X M c st):=by
 cases hc:Qf X M c st with
 | none=>
  refine Xj fun n=>?_;cases h:Zu (ZX X M n) M n c st with
  | none=>simp[Zu,h,Za2]
  | some q=>rw[QB X M h] at hc;cases hc
 | some q=>
  obtain⟨n,hn⟩:=Vw X M hc;cases hb:Za2 id (some q) with
  | none=>
   obtain⟨e,aa⟩:=q;cases e<;>simp[Za2] at hb
   split at hb<;>cases hb
  | some r=>exact QB X M (n:=n) (by simp only[Zu,hn _ (Kf n),hb])
theorem ZmP (K:List Nat) (c:ZB) (st:St):Qf X M (.keep K c) st=Zg5 K (Qf X M c st):=by
 cases hc:Qf X M c st with
 | none=>
  refine Xj fun n=>?_;cases h:Zu (ZX X M n) M n c st with
  | none=>simp[Zu,h,Zg5]
  | some q=>rw[QB X M h] at hc;cases hc
 | some q=>
  obtain⟨n,hn⟩:=Vw X M hc;exact QB X M (n:=n) (by simp only[Zu,hn _ (Kf n),Zg5])
theorem ZmQ (fl:Bool) (id:Nat) (i:Opd) (j:Nat) (c:ZB) (st:St):Qf X M (.link fl id i j c) st=bnd (Zab fl id i j st) fun st1=>Zg7 id st.nx (Qf X M c st1):=by
 cases hl:Zab fl id i j st with
 | none=>
  refine Xj fun n=>?_;simp only[Zu,hl];rfl
 | some st' =>
  rw[Zc];cases hc:Qf X M c st' with
  | none=>
   refine Xj fun n=>?_;cases h:Zu (ZX X M n) M n c st' with
   | none=>simp only[Zu,hl,Zc,h];rfl
   | some q=>rw[QB X M h] at hc;cases hc
  | some q=>
   obtain⟨n,hn⟩:=Vw X M hc;exact QB X M (n:=n) (by simp only[Zu,hl,Zc,hn _ (Kf n)];rfl)
theorem ZmR (c:ZB) (st:St):Qf X M (.melt c) st=Qf X M c (Zkb st):=by
 cases hc:Qf X M c (Zkb st) with
 | none=>
  refine Xj fun n=>?_;cases h:Zu (ZX X M n) M n c (Zkb st) with
  | none=>simp only[Zu,h]
  | some q=>rw[QB X M h] at hc;cases hc
 | some q=>
  obtain⟨n,hn⟩:=Vw X M hc;exact QB X M (n:=n) (by simp only[Zu,hn _ (Kf n)])
noncomputable def Za4 (c:ZB) (K:List Nat) (st:St):Option (Ex×St):=lim fun n=>VD (Zu (ZX X M n) M n c) K n st
theorem UI (c:ZB) (K:List Nat) (st:St):ZoC fun n=>VD (Zu (ZX X M n) M n c) K n st:=fun n r hr=>
 Zdj (fun _ _ h=>Zfk (Zd2 X M n) (Nat.le_succ n) c _ _ h) K n (n+1) st r (Nat.le_succ n) hr
theorem ZmS (c:ZB) (st:St):Qf X M (.loop c) st=Za4 X M c (Wu st.sl) st:=by
 simp only[Qf,Za4,Zu]
theorem ZlI {c:ZB} {K:List Nat} {st aa : St} (h:Qf X M c (Y0 K st)=some (.normal,aa)) :
  Za4 X M c K st=Za4 X M c K aa:=by
 obtain⟨n,hn⟩:=Vw X M h;cases hl:Za4 X M c K aa with
 | none=>
  refine Xj fun k=>?_;cases hk:VD (Zu (ZX X M k) M k c) K k st with
  | none=>rfl
  | some q=>
   have h1:=(UI X M c K st).le hk (show k≤max k n+1 by omega);simp only[VD] at h1;rw[hn (max k n+1) (by omega)] at h1;simp only[] at h1;have h2:=Zdj (fun _ _ h=>h) K (max k n) (max k n+1) aa q (Nat.le_succ _) h1;rw[show Za4 X M c K aa=some q from Zcz (UI X M c K aa) h2] at hl;cases hl
 | some q=>
  obtain⟨m,hm⟩:=Za3 hl;refine Zcz (UI X M c K st) (n:=max n m+1) ?_;simp only[VD,hn (max n m+1) (by omega)];exact Zdj (fun _ _ h=>Zfk (Uq X M (show m≤max n m+1 by omega)) (show m≤max n m+1 by omega) c _ _ h) K m (max n m) aa q (by omega) hm
theorem Zha {c:ZB} {K:List Nat} {st aa : St} {e:Ex} (he:e≠.normal) (h:Qf X M c (Y0 K st)=some (e,aa)) :
  Za4 X M c K st=some (e,aa):=by
 obtain⟨n,hn⟩:=Vw X M h;refine Zcz (UI X M c K st) (n:=n+1) ?_;simp only[VD,hn (n+1) (by omega)];cases e with
 | normal=>exact absurd rfl he
 | exit id=>rfl
 | ret=>rfl
theorem ZpY {f:Nat} {as:List AV} {h:List Zh} {fn:ZL} {r:AV×List Zh} (hx:X f=some (.text fn))
  (hl:as.length≤fn.nt) (hr:U6 h.length fn.res (Qf X M fn.body { sl:=XO 0 as,hp:=X7 0 h,nx:=h.length,m:=h.length })=some r) :
  Zj X M f as h=some r:=by
 cases hv:Qf X M fn.body { sl:=XO 0 as,hp:=X7 0 h,nx:=h.length,m:=h.length } with
 | none=>rw[hv] at hr;simp[U6] at hr
 | some q=>
  rw[hv] at hr;obtain⟨n,hn⟩:=Vw X M hv;refine Zcz (UH X M f as h) (n:=n+1) ?_;simp only[ZX,hx,Zd1,Zg9,hl,Ki,hn n (Kf n)];exact hr
theorem Zsx {f:Nat} {as:List AV} {h:List Zh} {p:List AV→List Zh→Option (AV×List Zh)} {r:AV×List Zh} (hx:X f=some (.prim p)) (hp:p as h=some r) :
  Zj X M f as h=some r:=
 Zcz (UH X M f as h) (n:=1) (by simp only[ZX,hx,Zd1,hp])
end
section
variable (P:Program)
def Yl (nt:Nat):Code→Option ZB
 | .skip=>some .skip
 | .region _ ops draw=>bnd (Z5 (ZeI P nt ops.toList) ops.toList) fun os=>if draw then (if Zg4 ops os then some (.region ops.toList.length (some (Ul ops os)) os) else some .stuck) else some (.region ops.toList.length none os)
 | .seq a b=>bnd (Yl nt a) fun a=>bnd (Yl nt b) fun b=>some (.seq a b)
 | .cond c a b=>bnd (ZE c) fun c=>bnd (Yl nt a) fun a=>bnd (Yl nt b) fun b=>some (.cond c a b)
 | .block id c=>bnd (Yl nt c) fun c=>some (.block id c)
 | .loop c=>bnd (Yl nt c) fun c=>some (.loop c)
 | .exit id=>some (.exit id)
 | .ret=>some .ret
 | _=>some .stuck
def Zad:COp→COp
 | .buildT s _ xs=>.buildSl s xs
 | .asgT s _ x=>.assign (some s) x
 | .appT s b flat x y=>.append s b false flat x y
 | .makeT s b _ z l c=>.make s b z l c
 | c=>c
def Zd4:List CO→List CO
 | []=>[]
 | o :: r => { o with op:=Zad o.op } :: Zd4 r
def ZmT:Option (List (Nat×Nat))→List CO→List CO
 | none,ops=>Zd4 ops
 | some _,ops=>ops
def Q6:ZB→ZB
 | .keep _ c=>Q6 c
 | .seq a b=>.seq (Q6 a) (Q6 b)
 | .cond c a b=>.cond c (Q6 a) (Q6 b)
 | .block id c=>.block id (Q6 c)
 | .loop c=>.loop (Q6 c)
 | .region n d ops=>.region n d (ZmT d ops)
 | .link _ _ _ _ c=>Q6 c
 | .melt c=>Q6 c
 | .skip=>.skip
 | .exit id=>.exit id
 | .ret=>.ret
 | .stuck=>.stuck
def Zd5 (cf:ZL):ZL := { nt:=cf.nt,res:=cf.res,body:=Q6 cf.body }
def cRes:ResultVar→Option Zh3
 | .tmp t=>some (.tmp t)
 | .cell a t=>bnd (Jl P t) fun g=>some (.cell a g (P.cellsOf t))
def cFun (fn:Func):Option ZL:=bnd fn.body fun c=>bnd (Yl P fn.ntmps c) fun b=>bnd (Z5 (cRes P) fn.results.toList) fun rs=>some { nt:=fn.ntmps,res:=rs,body:=b }
end
end Go.Abs
