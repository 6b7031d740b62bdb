/- Own text. -/
import Derived.Test.YthgciclhiaoecaaGreatAbsOps
set_option linter.unusedVariables false
set_option linter.unusedSimpArgs false
namespace Go.Abs
open Go
inductive Ex where
 | normal
 | exit (id:Nat)
 | ret
def QW (lo hi:Nat):Hp→Bool
 | []=>true
 | (k,_) :: r=>decide (lo≤k)&&decide (k<hi)&&QW (k+1) hi r
def Xa (gone:List Nat) (sl:Sl):Sl:=match gone with
 | []=>sl
 | _=>Znb (kill gone) sl
def V7 (gone:List Nat) (hp:Hp):Hp:=match gone with
 | []=>hp
 | _=>Znb (Xh gone) hp
def Zr (sl:Sl) (dst:Option Nat) (v:AV):Sl:=match dst with
 | some t=>ins sl t v
 | none=>sl
def Zf.on (e:Zf) (dst:Option Nat) (sl:Sl) (hp:Hp):Sl×Hp:=
 (Zr (Xa e.gone sl) dst e.eff.val,e.eff.on (V7 e.gone hp))
def YD (base:Nat) (dst:Option Nat) (sl:Sl) (hp:Hp) (e:Option Zf):Option (Sl×Hp):=
 bnd e fun e=>if QW base (base+64) e.eff.adds then some (e.on dst sl hp) else none
def ZfM (want:Bool):AV→Option Bool
 | .d (.bool b)=>some (b==want)
 | .tup []=>some false
 | _=>none
def ZY (sl:Sl):Option (Nat×Bool)→Option Bool
 | none=>some true
 | some q=>ZfM q.2 (gs sl q.1)
inductive ZU where
 | skip
 | region (n:Nat) (draw:Option (List (Nat×Nat))) (ops:List CO)
 | seq (a b:ZU)
 | cond (c:Opd) (a b:ZU)
 | block (id:Nat) (c:ZU)
 | loop (c:ZU)
 | exit (id:Nat)
 | ret
 | keep (K:List Nat) (c:ZU)
 | stuck
 | link (fl:Bool) (id:Nat) (i:Opd) (j:Nat) (c:ZU)
 | melt (c:ZU)
inductive ZsL where
 | tmp (t:Nat)
 | cell (a:Nat) (g:Bool) (s:Nat)
structure Zp where
 nt:Nat
 res:List ZsL
 body:ZU
def ZsM (x:Option Opd):List Opd:=match x with
 | some y=>[y]
 | none=>[]
def ZD:COp→List Opd
 | .move x=>[x]
 | .assign _ x=>[x]
 | .pick c a b=>[c,a,b]
 | .alloc _ _=>[]
 | .box x=>[x]
 | .build _ ps=>ps.map fun q=>q.2.2
 | .buildSl _ xs=>xs
 | .load _ _ a=>[a]
 | .store _ _ a x=>[a,x]
 | .nilCheck x=>[x]
 | .bin _ _ x y=>[x,y]
 | .un _ x=>[x]
 | .eqA _ _ x y=>[x,y]
 | .convI _ x=>[x]
 | .convS x=>[x]
 | .fn _ cs=>cs
 | .make _ _ _ l c=>[l,c]
 | .slice _ x lo hi=>x :: (ZsM lo++ZsM hi)
 | .sliceS x lo hi=>x :: (ZsM lo++ZsM hi)
 | .slice0 x hi mx=>[x,hi,mx]
 | .shift _ x=>[x]
 | .part _ _ _ x=>[x]
 | .iaS _ x i=>[x,i]
 | .iaA _ _ x i=>[x,i]
 | .ixS x i=>[x,i]
 | .ixA _ _ _ x i=>[x,i]
 | .nth _ x=>[x]
 | .len x=>[x]
 | .lenS x=>[x]
 | .append _ _ _ _ x y=>[x,y]
 | .min x y=>[x,y]
 | .max x y=>[x,y]
 | .call f as=>f :: as
 | .slice3 _ x lo hi mx=>[x,lo,hi,mx]
 | .clear _ _ x=>[x]
 | .stuck=>[]
 | .buildT _ _ xs=>xs
 | .appT _ _ _ x y=>[x,y]
 | .asgT _ _ x=>[x]
 | .makeT _ _ _ _ l c=>[l,c]
def ZiS:COp→Bool
 | .store _ _ _ _=>true
 | _=>false
def isApp:COp→Bool
 | .append _ _ _ _ _ _=>true
 | _=>false
def ZrF (c:COp):Bool:=ZiS c || isApp c
def CO.starts (o:CO):Bool:=ZiS o.op || o.tl
def ZV (os:List CO) (i:Nat):Bool:=match os[i]? with
 | some o=>CO.starts o
 | none=>false
def Zbs:Opd→List Nat
 | .t n=>[n]
 | _=>[]
def ZrG:Option (Nat×Bool)→List Nat
 | some q=>[q.1]
 | none=>[]
def Y6 (o:CO):List Nat:=(ZD o.op).flatMap Zbs++ZrG o.guard
def QN:Option Nat→List Nat→Bool
 | some d,l=>!l.contains d
 | none,_=>true
def ZaD:Option Nat→Option Nat→Bool
 | some d,some e=>d != e
 | _,_=>true
def XB (a b:CO):Bool:=QN a.dst (Y6 b)&&ZaD a.dst b.dst&&QN b.dst (Y6 a)
def YT:Opd→Bool
 | .v a=>(Zw a).isEmpty&&!Zte a
 | _=>true
def Zu0 (os:List CO) (j i:Nat):Bool:=match os[j]?,os[i]? with
 | some a,some b=>XB a b
 | _,_=>false
def WC:COp→Bool
 | .load _ _ _=>false
 | .store _ _ _ _=>false
 | .slice _ _ _ _=>false
 | .slice0 _ _ _=>false
 | .iaS _ _ _=>false
 | .len _=>false
 | .append _ _ _ _ _ _=>false
 | .buildSl _ _=>false
 | .buildT _ _ _=>false
 | .appT _ _ _ _ _=>false
 | .asgT _ _ _=>false
 | .makeT _ _ _ _ _ _=>false
 | .call _ _=>false
 | .slice3 _ _ _ _ _=>false
 | .clear _ _ _=>false
 | _=>true
def J5:COp→Bool
 | .load _ _ _=>true
 | .slice _ _ _ _=>true
 | .slice0 _ _ _=>true
 | .iaS _ _ _=>true
 | .len _=>true
 | _=>false
def ZxV:COp→Bool
 | .clear _ _ _=>false
 | .store _ _ _ _=>false
 | .append _ _ _ _ _ _=>false
 | .buildSl _ _=>false
 | .buildT _ _ _=>false
 | .appT _ _ _ _ _=>false
 | .asgT _ _ _=>false
 | .makeT _ _ _ _ _ _=>false
 | .call _ _=>false
 | _=>true
def U3 (os:List CO) (k:Nat):Option Nat:=match os[k]? with
 | some o=>o.dst
 | none=>none
def Zu1 (os:List CO) (k:Nat):List Nat:=match os[k]? with
 | some o=>Y6 o
 | none=>[]
def Zbt (os:List CO) (k:Nat):Bool:=(List.range os.length).all fun q=>decide (q<k) || QN (U3 os q) (Zu1 os k)
def Y7:COp→Bool
 | .move _=>true
 | _=>false
def ZfN:COp→Bool
 | .append _ _ _ _ _ _=>true
 | .buildSl _ _=>true
 | _=>false
def ZaY:COp→Bool
 | .call (.f _) _=>true
 | _=>false
def ZnD:COp→List Opd
 | .call _ as=>as
 | _=>[]
def ZxW:COp→Bool
 | .alloc _ _=>false
 | .box _=>false
 | .assign _ _=>false
 | .make _ _ _ _ _=>false
 | .fn _ _=>false
 | _=>true
def ZtK:COp→Bool
 | .buildSl _ _=>true
 | _=>false
def Zef:AV→Bool
 | .d _=>true
 | .nil=>true
 | .nilp=>true
 | .nili=>true
 | _=>false
def VD:List AV→Bool
 | []=>true
 | c :: r=>Zef c&&VD r
def ZpA:COp→Bool
 | .alloc _ cs=>VD cs
 | _=>false
def ZrH (c:COp):Bool:=J5 c || ZtK c || (WC c&&ZxW c) || ZpA c
def Zmq:COp→Bool
 | .alloc _ cs=>VD cs
 | .buildSl _ _=>true
 | .load _ _ _=>true
 | .nilCheck _=>true
 | .bin _ _ _ _=>true
 | .un _ _=>true
 | .convI _ _=>true
 | .shift _ _=>true
 | .iaS _ _ _=>true
 | .slice _ _ _ _=>true
 | .len _=>true
 | .sliceS _ _ _=>true
 | .lenS _=>true
 | _=>false
def ZCL:Option Nat→Bool
 | some _=>true
 | none=>false
def Zpp (os:List CO) (k:Nat):Bool:=ZCL (U3 os k)&&(List.range os.length).all fun q=>q==k || ZaD (U3 os q) (U3 os k)
def Zmr (os:List CO) (j i:Nat):Bool:=Zbt os j&&Zbt os i
def ZBs (os:List CO) (j i:Nat) (a b:COp):Bool:=
 ZxV b || (ZrF b&&(WC a || (!Y7 a&&J5 a&&Zmr os j i))) || (Y7 a&&(ZfN b || Zpp os j)) || (!Y7 a&&ZaY b&&ZrH a&&Zmr os j i&&Zpp os j)
def ZBt (os:List CO) (j i:Nat) (a b:COp):Bool:=(Y7 b&&Zpp os i) || (!Y7 b&&ZaY a&&Zmq b&&Zmr os j i&&Zpp os i)
def Zu2 (os:List CO) (j i:Nat):Bool:=match os[j]?,os[i]? with
 | some a,some b=>if ZV os j then !ZV os i&&ZBt os j i a.op b.op else !ZV os i || ZBs os j i a.op b.op
 | _,_=>false
def ZfO (os:List CO) (j i:Nat):Option (Nat×Nat):=match os[j]?,os[i]? with
 | some a,some b=>if ZV os j then (if Y7 b.op || ZaY a.op then some (i,j) else none) else
   if ZV os i&&(if ZrF b.op then !(WC a.op) else if Y7 a.op then !(ZfN b.op) else ZaY b.op) then some (j,i) else none
 | _,_=>none
def optP:Option (Nat×Nat)→List (Nat×Nat)
 | some p=>[p]
 | none=>[]
def Zc1 (ops:Array Oper) (os:List CO):List (Nat×Nat):=
 (List.range ops.size).flatMap fun i=>(List.range i).flatMap fun j=>if ZkS ops 6 i j then [] else optP (ZfO os j i)
def ZrI (ops:Array Oper) (os:List CO):Bool:=
 (List.range ops.size).all (fun i=>(V5 ops i).all fun e=>decide (e<i)) &&
 (List.range ops.size).all (fun i=>(List.range i).all fun j=>(V5 ops i).contains j || Zu0 os j i) &&
 (List.range ops.size).all (fun i=>(List.range i).all fun j=>ZkS ops 6 i j || Zu2 os j i) &&
 os.all (fun o=>(ZD o.op).all YT)
def Zc2 (id:Nat):AV→Bool
 | .d _=>true
 | .pim _=>true
 | .nil=>true
 | .ptr k _=>k != id
 | .prow k _ _ _=>k != id
 | .own k=>k != id
 | .ownv k _ _=>k != id
 | .nilp=>true
 | .nili=>true
 | .tup []=>true
 | _=>false
def okC:AV→Bool
 | .d _=>true
 | .pim _=>true
 | .nil=>true
 | .ptr _ _=>true
 | .prow _ _ _ _=>true
 | .own _=>true
 | .ownv _ _ _=>true
 | .nilp=>true
 | .nili=>true
 | _=>false
def Zu3:List AV→Bool
 | []=>true
 | v :: r=>okC v&&Zu3 r
def okV:AV→Bool
 | .agg cs=>Zu3 cs
 | .tup []=>true
 | v=>okC v
def okL (sl:Sl):List Opd→Bool
 | []=>true
 | x :: r=>okV (evO sl x)&&okL sl r
def okD (sl:Sl):Option Nat→Bool
 | some t=>okV (gs sl t)
 | none=>true
def VE:AV→Option Nat
 | .ptr k _=>some k
 | .prow k _ _ _=>some k
 | _=>none
def QS (sl:Sl) (id:Nat):List Opd→Bool
 | []=>true
 | x :: r=>Zc2 id (evO sl x)&&QS sl id r
def ZfP (sl:Sl) (a:COp):Option Nat→Bool
 | some id=>QS sl id (ZD a)
 | none=>false
def Zc3 (sl:Sl) (xs:List Opd):AV→Bool
 | .ptr k _=>QS sl k xs
 | .prow _ _ _ _=>false
 | _=>true
def Zh7 (sl:Sl) (xs:List Opd):List Opd→Bool
 | []=>true
 | y :: r=>Zc3 sl xs (evO sl y)&&Zh7 sl xs r
def J6 (sl:Sl) (a:COp):AV→Bool
 | .nil=>true
 | .tup []=>true
 | .own k=>QS sl k (ZD a)
 | .ownv k _ _=>QS sl k (ZD a)
 | _=>false
def seenSrc (sl:Sl) (a:COp):AV→Bool
 | .own k=>QS sl k (ZD a)
 | v=>okV v
def X0 (sl:Sl) (xs:List Opd):List Nat→Bool
 | []=>true
 | k :: r=>QS sl k xs&&X0 sl xs r
def VZ (sl:Sl) (a:COp):AV→AV→Bool
 | .prow _ _ _ _,.d _=>true
 | .prow _ _ _ _,v=>okV v&&X0 sl (ZD a) (Zw v)
 | _,_=>true
def UM (sl:Sl) (d:Option Nat):COp→COp→Bool
 | .move _,_=>okD sl d
 | a,.store _ _ x y=>ZfP sl a (VE (evO sl x))&&VZ sl a (evO sl x) (evO sl y)
 | a,.append _ _ _ flat x y=>J6 sl a (evO sl x)&&(flat || seenSrc sl a (evO sl y))
 | a,.call _ as=>okL sl (ZD a)&&(okD sl d&&(okL sl as&&Zh7 sl (ZD a) as))
 | _,_=>false
def Zms (os:List CO) (sl:Sl) (p:Nat×Nat):Bool:=match os[p.1]?,os[p.2]? with
 | some a,some b=>UM sl a.dst a.op b.op
 | _,_=>false
def UG (os:List CO) (sl:Sl):List (Nat×Nat)→Bool
 | []=>true
 | p :: r=>Zms os sl p&&UG os sl r
def YO (M:Zm):Zm:=fun f i=>i != 99&&M f i
section
variable (C:Orc) (M:Zm)
noncomputable def Zh8 (nx:Nat):Nat→List CO→Sl→Hp→Option (Sl×Hp)
 | _,[],sl,hp=>some (sl,hp)
 | i,o :: rest,sl,hp=>bnd (ZY sl o.guard) fun b=>
   if b then bnd (YD (nx+64*i) o.dst sl hp (vop C M sl hp (nx+64*i) o.op)) fun r=>Zh8 nx (i+1) rest r.1 r.2
   else Zh8 nx (i+1) rest (Zr sl o.dst (.tup [])) hp
def ZfQ (c:Zf):List Nat→Hp→List Nat→List Nat→Option Zf
 | [],[],[],[]=>some c
 | _,_,_,_=>none
def Zc4 (e:Option Zf):Option Zf:=bnd e fun c=>ZfQ c c.gone c.eff.sets c.eff.dels c.eff.frz
noncomputable def V9 (nx i:Nat) (tail:Bool) (o:COp) (sl:Sl) (hp:Hp):Option Zf:=
 if tail then vop C M sl hp (nx+64*i) o else Zc4 (vop C M sl hp (nx+64*i) o)
noncomputable def Zah (nx:Nat):Nat→Bool→List CO→Sl→Hp→Option (Sl×Hp)
 | _,_,[],sl,hp=>some (sl,hp)
 | i,t,o :: rest,sl,hp=>bnd (ZY sl o.guard) fun b=>
   if b then bnd (YD (nx+64*i) o.dst sl hp (V9 C M nx i (CO.starts o) o.op sl hp)) fun r=>Zah nx (i+1) t rest r.1 r.2
   else Zah nx (i+1) t rest (Zr sl o.dst (.tup [])) hp
def Zbu {α:Type}:List (Nat×α)→List Nat
 | []=>[]
 | (k,_) :: r=>k :: Zbu r
def only {α:Type} (K:List Nat):List (Nat×α)→List (Nat×α)
 | []=>[]
 | (k,v) :: r=>if K.contains k then (k,v) :: only K r else only K r
def WD:Nat→List Zn→Hp
 | _,[]=>[]
 | k,o :: r=>WD (k+1) r++[(k,o)]
def ZtL:Sl→List Nat
 | []=>[]
 | (_,v) :: r=>Zw v++ZtL r
def Zu4:Option Zn→Bool
 | some _=>true
 | none=>false
def Zeg (hp:Hp) (ids:List Nat) (i:Nat):Bool:=ids.contains i&&Zu4 (lkp hp i)
def Zh9 (hp:Hp) (ids:List Nat):List Nat→List Nat
 | []=>[]
 | i :: r=>if Zeg hp ids i then Zh9 hp ids r else i :: Zh9 hp ids r
def ZeM (hp:Hp) (ids:List Nat) (v:AV):AV:=ren (V4 ids) (kill (Zh9 hp ids (Zw v)) v)
def Zia (hp:Hp) (ids:List Nat) (o:Zn):Zn:=ZlU (V4 ids) (Xh (Zh9 hp ids (JR o)) o)
def ZxX:Option Zn→List Nat
 | some o=>JR o
 | none=>[]
def WX (hp:Hp):List Nat→List Nat
 | []=>[]
 | id :: r=>ZxX (lkp hp id)++WX hp r
def U4 (K:List Nat) (st:St):St:=
 let sl:=only K st.sl
 let ids:=QZ st.hp (XQ st.hp) (ZtL sl++WX st.hp (List.range st.m)) (List.range st.m)
 { sl:=Znb (ZeM st.hp ids) sl,hp:=WD 0 ((Zd9 st.hp ids).map (Zia st.hp ids)),nx:=ids.length,m:=st.m }
def Zai (f:St→Option (Ex×St)) (K:List Nat):Nat→St→Option (Ex×St)
 | 0,_=>none
 | n+1,st=>match f (U4 K st) with
  | some (.normal,st')=>Zai f K n st'
  | r=>r
def andThen (r:Option (Ex×St)) (k:St→Option (Ex×St)):Option (Ex×St):=match r with
 | some (.normal,st)=>k st
 | r=>r
def Zkc (v:AV) (a b:Option (Ex×St)):Option (Ex×St):=match v with
 | .d (.bool t)=>if t then a else b
 | _=>none
def Zib (id:Nat) (r:Option (Ex×St)):Option (Ex×St):=match r with
 | some (.exit j,st)=>if j=id then some (.normal,st) else some (.exit j,st)
 | r=>r
def ZtM (ops:List CO) (ps:List (Nat×Nat)) (r:Option (Sl×Hp)):Option (Sl×Hp):=bnd r fun r=>if UG ops r.1 ps then some r else none
def Zpq (m nx:Nat) (r:Option (Sl×Hp)):Option (Ex×St):=bnd r fun r=>some (.normal,{ sl:=r.1,hp:=r.2,nx:=nx,m:=m })
def ZrJ (K:List Nat) (r:Option (Ex×St)):Option (Ex×St):=match r with
 | some q=>some (q.1,{ q.2 with sl:=only K q.2.sl })
 | none=>none
def ZyQ (fl:Bool) (k:Nat) (ys:List D):Option Zn:=if fl then (if Zaa D.flat ys then some (.row k ys true false) else none) else some (.tree k k ys none)
def Zmt (xs:List D) (n j:Nat) (y:D):Option (List D):=bnd xs[n]? fun x=>some (xs.set n (Yy x j [y]))
def ZyR (fl:Bool) (nx n j:Nat):Option Zn→Option (Zn×Zn)
 | some (.tree s k xs none)=>bnd (J2 xs n j) fun ys=>bnd (ZyQ fl k ys) fun o=>bnd (Zmt xs n j (.sl [])) fun xs'=>some (.tree s k xs' (some (some nx,n,j)),o)
 | _=>none
def ZfR (fl:Bool) (id:Nat) (i:Opd) (j:Nat) (st:St):Option St:=bnd (idx (evO st.sl i)) fun n=>if 0≤n then bnd (ZyR fl st.nx n.toNat j (lkp st.hp id)) fun q=>some { st with hp:=ins (ins st.hp id q.1) st.nx q.2,nx:=st.nx+64 } else none
def ZrK (k:Nat):Option Zn→Option (List D)
 | some (.row k' ys true false)=>if k'=k∧Zaa D.flat ys then some ys else none
 | some (.tree k' n ys none)=>if k'=k∧n=k then some ys else none
 | _=>none
def ZoO (hp:Hp) (id nm:Nat):Option Zn→Option Hp
 | some (.tree s k xs (some (some nm',n,j)))=>if nm'=nm then bnd (ZrK k (lkp hp nm)) fun ys=>bnd (Zmt xs n j (.sl ys)) fun xs'=>some (ins (del hp nm) id (.tree s k xs' none)) else none
 | _=>none
def ZzZ (hp:Hp):Option Hp→Hp
 | some h=>h
 | none=>hp
def ZrL (id nm:Nat) (r:Option (Ex×St)):Option (Ex×St):=match r with
 | some q=>some (q.1,{ q.2 with hp:=ZzZ q.2.hp (ZoO q.2.hp id nm (lkp q.2.hp id)) })
 | none=>none
def Zu5 (st:St):St := { st with hp:=Znb Zml st.hp }
noncomputable def ZH (N:Nat):ZU→St→Option (Ex×St)
 | .skip,st=>some (.normal,st)
 | .region n none ops,st=>Zpq st.m (st.nx+64*n) (Zh8 C M st.nx 0 ops st.sl st.hp)
 | .region n (some ps) ops,st=>Zpq st.m (st.nx+64*n) (ZtM ops ps (Zah C (YO M) st.nx 0 false ops st.sl st.hp))
 | .seq a b,st=>andThen (ZH N a st) (ZH N b)
 | .cond c a b,st=>Zkc (evO st.sl c) (ZH N a st) (ZH N b st)
 | .block id c,st=>Zib id (ZH N c st)
 | .loop c,st=>Zai (ZH N c) (Zbu st.sl) N st
 | .exit id,st=>some (.exit id,st)
 | .ret,st=>some (.ret,st)
 | .keep K c,st=>ZrJ K (ZH N c st)
 | .stuck,_=>none
 | .link fl id i j c,st=>bnd (ZfR fl id i j st) fun st1=>ZrL id st.nx (ZH N c st1)
 | .melt c,st=>ZH N c (Zu5 st)
def ZrM (st:St):ZsL→Option AV
 | .tmp t=>some (gs st.sl t)
 | .cell a g s=>Uu st.hp g s (gs st.sl a)
def WE (m:Nat) (hp:Hp) (v:AV):AV×List Zn:=
 let ids:=QZ hp (XQ hp) (Zw v++WX hp (List.range m)) (List.range m)
 (ZeM hp ids v,(Zd9 hp ids).map (Zia hp ids))
def ZyS:AV→Bool
 | .tup _=>true
 | _=>false
def ZkV:List AV→Bool
 | []=>false
 | v :: r=>ZyS v || ZkV r
def Zc5:List AV→AV
 | [v]=>v
 | vs=>if ZkV vs then .junk else .tup vs
def V8:Nat→List AV→Sl
 | _,[]=>[]
 | k,v :: r=>V8 (k+1) r++[(k,v)]
def Zeh (m:Nat) (rs:List ZsL) (r:Option (Ex×St)):Option (AV×List Zn):=match r with
 | some (.normal,st)=>bnd (Qy (ZrM st) rs) fun vs=>some (WE m st.hp (Zc5 vs))
 | some (.ret,st)=>bnd (Qy (ZrM st) rs) fun vs=>some (WE m st.hp (Zc5 vs))
 | _=>none
noncomputable def ZrN (N:Nat) (fn:Zp) (as:List AV) (h:List Zn):Option (AV×List Zn):=
 if as.length≤fn.nt then Zeh h.length fn.res (ZH C M N fn.body { sl:=V8 0 as,hp:=WD 0 h,nx:=h.length,m:=h.length }) else none
end
inductive Fn where
 | text (f:Zp)
 | prim (p:List AV→List Zn→Option (AV×List Zn))
abbrev Fns:=Nat→Option Fn
noncomputable def ZnE (C:Orc) (M:Zm) (N:Nat) (as:List AV) (h:List Zn):Option Fn→Option (AV×List Zn)
 | some (.text f)=>ZrN C M N f as h
 | some (.prim p)=>p as h
 | none=>none
noncomputable def Qo (X:Fns) (M:Zm):Nat→Orc
 | 0,_,_,_=>none
 | n+1,f,as,h=>ZnE (Qo X M n) M n as h (X f)
open Classical in
noncomputable def lim {α:Type} (x:Nat→Option α):Option α:=if h:∃ r,∃ n,x n=some r then some h.choose else none
def Zz0 {α:Type} (x:Nat→Option α):Prop:=∀ n r,x n=some r→x (n+1)=some r
theorem Zz0.le {α:Type} {x:Nat→Option α} (h:Zz0 x) {n m:Nat} {r:α} (hr:x n=some r) (aa:n≤m):x m=some r:=by
 induction aa with
 | refl=>exact hr
 | step _ ih=>exact h _ _ ih
theorem ZkW {α:Type} {x:Nat→Option α} (h:Zz0 x) {n:Nat} {r:α} (hr:x n=some r):lim x=some r:=by
 have he:∃ r,∃ n,x n=some r:=⟨r,n,hr⟩
 unfold lim;rw[dif_pos he];obtain⟨m,hm⟩:=he.choose_spec;have h1:=h.le hm (Kaw m n);have h2:=h.le hr (Kau m n);rw[h1] at h2;exact h2
theorem Zic {α:Type} {x:Nat→Option α} {r:α} (hr:lim x=some r):∃ n,x n=some r:=by
 unfold lim at hr;split at hr
 ·rename_i h;obtain⟨n,hn⟩:=h.choose_spec;exact⟨n,by rw[hn];exact hr⟩
 ·cases hr
def Orc.le (C C' : Orc):Prop:=∀ f as h r,C f as h=some r→C' f as h=some r
section
variable {M:Zm} {C C' : Orc}
theorem Zbv {α β:Type} {x x' : Option α} {f f' : α→Option β} {r:β} (hx:∀ a,x=some a→x'=some a) (hf:∀ a,f a=some r→f' a=some r) (h:bnd x f=some r):bnd x' f'=some r:=by
 obtain⟨a,h1,h2⟩:=Za h;rw[hx a h1];exact hf a h2
theorem ZBu (h:C.le C') {m:Nat→Bool} {hp:Hp} {base f:Nat} {aa:List AV} {r:Zf}
  (hr:Zdw C m hp base f aa=some r):Zdw C' m hp base f aa=some r:=by
 unfold Zdw at hr ⊢;refine Zbv (fun _ h=>h) (fun as hr=>?_) hr;unfold ZfF at hr ⊢;by_cases hc:(as.flatMap Zw).all (QZ hp (XQ hp) (as.flatMap Zw) []).contains∧¬(YN aa as).any (QZ hp (XQ hp) (as.flatMap Zw) []).contains∧ZbM hp (as.flatMap Zag) (QZ hp (XQ hp) (as.flatMap Zw) [])=true
 ·rw[Kj hc] at hr ⊢;exact Zbv (fun q hq=>h _ _ _ _ hq) (fun _ h=>h) hr
 ·rw[Kg hc] at hr;cases hr
theorem Zu6 (h:C.le C') {sl:Sl} {hp:Hp} {base:Nat} {o:COp} {r:Zf} (hr:vop C M sl hp base o=some r) :
  vop C' M sl hp base o=some r:=by
 cases o with
 | call f as=>
  simp only[vop] at hr ⊢;cases hg:evO sl f<;>simp only[hg,Zec] at hr ⊢ <;> first | exact ZBu h hr | exact hr
 | _=>exact hr
theorem Zu7 (h:C.le C') (nx:Nat):∀ (l:List CO) (i:Nat) (sl:Sl) (hp:Hp) (r:Sl×Hp),
  Zh8 C M nx i l sl hp=some r→Zh8 C' M nx i l sl hp=some r:=by
 intro l
 induction l with
 | nil=>intro i sl hp r hr;exact hr
 | cons o rest ih=>
  intro i sl hp r hr;simp only[Zh8] at hr ⊢;refine Zbv (fun _ h=>h) (fun b hr=>?_) hr;cases b
  ·simp only[Ka,Kk] at hr ⊢;exact ih _ _ _ _ hr
  ·simp only[Km] at hr ⊢;refine Zbv (fun q hq=>?_) (fun q hq=>ih _ _ _ _ hq) hr;unfold YD at hq ⊢;exact Zbv (fun e he=>Zu6 h he) (fun _ h=>h) hq
theorem ZyT (h:C.le C') {nx i:Nat} {t:Bool} {o:COp} {sl:Sl} {hp:Hp} {e:Zf} (he:V9 C M nx i t o sl hp=some e) :
  V9 C' M nx i t o sl hp=some e:=by
 unfold V9 at he ⊢;cases t
 ·simp only[Ka,Kk,Zc4] at he ⊢;exact Zbv (fun _ hv=>Zu6 h hv) (fun _ h=>h) he
 ·simp only[Km] at he ⊢;exact Zu6 h he
theorem Zmu (h:C.le C') (nx:Nat):∀ (l:List CO) (i:Nat) (t:Bool) (sl:Sl) (hp:Hp) (r:Sl×Hp),
  Zah C M nx i t l sl hp=some r→Zah C' M nx i t l sl hp=some r:=by
 intro l
 induction l with
 | nil=>intro i t sl hp r hr;exact hr
 | cons o rest ih=>
  intro i t sl hp r hr;simp only[Zah] at hr ⊢;refine Zbv (fun _ h=>h) (fun b hr=>?_) hr;cases b
  ·simp only[Ka,Kk] at hr ⊢;exact ih _ _ _ _ _ hr
  ·simp only[Km] at hr ⊢;refine Zbv (fun q hq=>?_) (fun q hq=>ih _ _ _ _ _ hq) hr;unfold YD at hq ⊢;exact Zbv (fun e he=>ZyT h he) (fun _ h=>h) hq
theorem Zmv {f g:St→Option (Ex×St)} (h:∀ st r,f st=some r→g st=some r) (K:List Nat) :
  ∀ (n m:Nat) (st:St) (r:Ex×St),n≤m→Zai f K n st=some r→Zai g K m st=some r:=by
 intro n
 induction n with
 | zero=>intro m st r _ hr;simp[Zai] at hr
 | succ n ih=>
  intro m st r hm hr;cases m with
  | zero=>omega
  | succ m=>
   simp only[Zai] at hr ⊢;cases hf:f (U4 K st) with
   | none=>simp[hf] at hr
   | some q=>
    rw[hf] at hr;rw[h _ _ hf];obtain⟨e,aa⟩:=q;cases e with
    | normal=>exact ih m aa r (by omega) hr
    | exit id=>exact hr
    | ret=>exact hr
theorem ZpB (h:C.le C') {N N' : Nat} (hN:N≤N'):∀ (c:ZU) (st:St) (r:Ex×St),
  ZH C M N c st=some r→ZH C' M N' c st=some r:=by
 intro c
 induction c with
 | skip=>intro st r hr;simpa [ZH] using hr
 | region n draw ops=>
  intro st r hr;cases draw
  ·simp only[ZH,Zpq] at hr ⊢;exact Zbv (fun q hq=>Zu7 h _ _ _ _ _ _ hq) (fun _ h=>h) hr
  ·simp only[ZH,Zpq,ZtM] at hr ⊢;exact Zbv (fun q hq=>Zbv (fun q hq=>Zmu h _ _ _ _ _ _ _ hq) (fun _ h=>h) hq) (fun _ h=>h) hr
 | seq a b iha ihb=>
  intro st r hr;simp only[ZH] at hr ⊢;cases ha:ZH C M N a st with
  | none=>simp[ha,andThen] at hr
  | some q=>
   rw[ha] at hr;rw[iha _ _ ha];obtain⟨e,aa⟩:=q;cases e with
   | normal=>exact ihb _ _ hr
   | exit id=>exact hr
   | ret=>exact hr
 | cond c a b iha ihb=>
  intro st r hr;simp only[ZH,Zkc] at hr ⊢;split at hr
  ·rename_i t ht;cases t
   ·simp only[Ka,Kk] at hr ⊢;exact ihb _ _ hr
   ·simp only[Km] at hr ⊢;exact iha _ _ hr
  ·cases hr
 | block id c ih=>
  intro st r hr;simp only[ZH] at hr ⊢;cases hc:ZH C M N c st with
  | none=>simp[hc,Zib] at hr
  | some q=>rw[hc] at hr;rw[ih _ _ hc];exact hr
 | loop c ih=>
  intro st r hr;simp only[ZH] at hr ⊢;exact Zmv ih _ _ _ _ _ hN hr
 | exit id=>intro st r hr;simpa [ZH] using hr
 | ret=>intro st r hr;simpa [ZH] using hr
 | keep K c ih=>
  intro st r hr;simp only[ZH] at hr ⊢;cases hc:ZH C M N c st with
  | none=>simp[hc,ZrJ] at hr
  | some q=>rw[hc] at hr;rw[ih _ _ hc];exact hr
 | stuck=>intro st r hr;simp[ZH] at hr
 | link fl id i j c ih=>
  intro st r hr;simp only[ZH] at hr ⊢;obtain⟨aa,h1,h2⟩:=Za hr;rw[h1,Zg];cases hc:ZH C M N c aa with
  | none=>simp[hc,ZrL] at h2
  | some q=>rw[hc] at h2;rw[ih _ _ hc];exact h2
 | melt c ih=>
  intro st r hr;simp only[ZH] at hr ⊢;exact ih _ r hr
theorem ZBv (h:C.le C') {N N' : Nat} (hN:N≤N') {f:Zp} {as:List AV} {hh:List Zn} {r:AV×List Zn}
  (hr:ZrN C M N f as hh=some r):ZrN C' M N' f as hh=some r:=by
 unfold ZrN at hr ⊢;by_cases hl:as.length≤f.nt
 ·rw[Kj hl] at hr ⊢;cases hv:ZH C M N f.body { sl:=V8 0 as,hp:=WD 0 hh,nx:=hh.length,m:=hh.length } with
  | none=>simp[hv,Zeh] at hr
  | some q=>rw[hv] at hr;rw[ZpB h hN _ _ _ hv];exact hr
 ·rw[Kg hl] at hr;cases hr
end
section
variable (X:Fns) (M:Zm)
theorem ZnF:∀ n,(Qo X M n).le (Qo X M (n+1)):=by
 intro n
 induction n with
 | zero=>intro f as h r hr;simp[Qo] at hr
 | succ n ih=>
  intro f as h r hr;rw[Qo] at hr ⊢;cases hf:X f with
  | none=>rw[hf] at hr;cases hr
  | some g=>
   rw[hf] at hr;cases g with
   | text g=>exact ZBv ih (Nat.le_succ n) hr
   | prim p=>exact hr
noncomputable def Zd (f:Nat) (as:List AV) (h:List Zn):Option (AV×List Zn):=lim fun n=>Qo X M n f as h
noncomputable def QK (c:ZU) (st:St):Option (Ex×St):=lim fun n=>ZH (Qo X M n) M n c st
theorem ZdB (f:Nat) (as:List AV) (h:List Zn):Zz0 fun n=>Qo X M n f as h:=fun n r hr=>ZnF X M n f as h r hr
theorem ZfS (n:Nat):(Qo X M n).le (Zd X M):=fun f as h _ hr=>ZkW (ZdB X M f as h) hr
theorem ZkX (c:ZU) (st:St):Zz0 fun n=>ZH (Qo X M n) M n c st:=fun n r hr=>ZpB (ZnF X M n) (Nat.le_succ n) c st r hr
theorem Zc6 {n m:Nat} (h:n≤m):(Qo X M n).le (Qo X M m):=fun f as hh _ hr=>(ZdB X M f as hh).le hr h
theorem ZwG {m:Nat→Bool} {hp:Hp} {base f:Nat} {aa:List AV} {r:Zf}
  (hr:Zdw (Zd X M) m hp base f aa=some r):∃ n,Zdw (Qo X M n) m hp base f aa=some r:=by
 unfold Zdw at hr ⊢;obtain⟨as,ab,hr⟩:=Za hr;simp only[ab,Zg];unfold ZfF at hr ⊢;by_cases hc:(as.flatMap Zw).all (QZ hp (XQ hp) (as.flatMap Zw) []).contains∧¬(YN aa as).any (QZ hp (XQ hp) (as.flatMap Zw) []).contains∧ZbM hp (as.flatMap Zag) (QZ hp (XQ hp) (as.flatMap Zw) [])=true
 ·rw[Kj hc] at hr;obtain⟨q,hq,hr⟩:=Za hr;obtain⟨n,hn⟩:=Zic hq;refine⟨n,?_⟩;rw[Kj hc,hn];exact hr
 ·rw[Kg hc] at hr;cases hr
theorem ZnG {M' : Zm} {sl:Sl} {hp:Hp} {base:Nat} {o:COp} {r:Zf} (hr:vop (Zd X M) M' sl hp base o=some r) :
  ∃ n,vop (Qo X M n) M' sl hp base o=some r:=by
 cases o with
 | call f as=>
  simp only[vop] at hr ⊢;cases hg:evO sl f<;>simp only[hg,Zec] at hr ⊢ <;> first | exact ZwG X M hr | exact⟨0,hr⟩
 | _=>exact⟨0,hr⟩
theorem ZxY (nx:Nat):∀ (l:List CO) (i:Nat) (sl:Sl) (hp:Hp) (r:Sl×Hp),
  Zh8 (Zd X M) M nx i l sl hp=some r→∃ n,Zh8 (Qo X M n) M nx i l sl hp=some r:=by
 intro l
 induction l with
 | nil=>intro i sl hp r hr;exact⟨0,hr⟩
 | cons o rest ih=>
  intro i sl hp r hr;simp only[Zh8] at hr ⊢;obtain⟨b,hb,hr⟩:=Za hr;simp only[hb,Zg];cases b
  ·simp only[Ka,Kk] at hr ⊢;exact ih _ _ _ _ hr
  ·simp only[Km] at hr ⊢;obtain⟨q,hq,hr⟩:=Za hr;unfold YD at hq;obtain⟨e,he,hq⟩:=Za hq;obtain⟨n1,h1⟩:=ZnG X M he;obtain⟨n2,h2⟩:=ih _ _ _ _ hr;refine⟨max n1 n2,?_⟩;unfold YD;rw[Zu6 (Zc6 X M (Kaw n1 n2)) h1,Zg,hq,Zg];exact Zu7 (Zc6 X M (Kau n1 n2)) _ _ _ _ _ _ h2
theorem ZxZ {M' : Zm} {nx i:Nat} {t:Bool} {o:COp} {sl:Sl} {hp:Hp} {e:Zf} (he:V9 (Zd X M) M' nx i t o sl hp=some e) :
  ∃ n,V9 (Qo X M n) M' nx i t o sl hp=some e:=by
 unfold V9 at he ⊢;cases t
 ·simp only[Ka,Kk,Zc4] at he ⊢;obtain⟨e',aa,h2⟩:=Za he;obtain⟨n,hn⟩:=ZnG X M aa;exact⟨n,by rw[hn];exact h2⟩
 ·simp only[Km] at he ⊢;exact ZnG X M he
theorem ZwH {M' : Zm} (nx:Nat):∀ (l:List CO) (i:Nat) (t:Bool) (sl:Sl) (hp:Hp) (r:Sl×Hp),
  Zah (Zd X M) M' nx i t l sl hp=some r→∃ n,Zah (Qo X M n) M' nx i t l sl hp=some r:=by
 intro l
 induction l with
 | nil=>intro i t sl hp r hr;exact⟨0,hr⟩
 | cons o rest ih=>
  intro i t sl hp r hr;simp only[Zah] at hr ⊢;obtain⟨b,hb,hr⟩:=Za hr;simp only[hb,Zg];cases b
  ·simp only[Ka,Kk] at hr ⊢;exact ih _ _ _ _ _ hr
  ·simp only[Km] at hr ⊢;obtain⟨q,hq,hr⟩:=Za hr;unfold YD at hq;obtain⟨e,he,hq⟩:=Za hq;obtain⟨n1,h1⟩:=ZxZ X M he;obtain⟨n2,h2⟩:=ih _ _ _ _ _ hr;refine⟨max n1 n2,?_⟩;unfold YD;rw[ZyT (Zc6 X M (Kaw n1 n2)) h1,Zg,hq,Zg];exact Zmu (Zc6 X M (Kau n1 n2)) _ _ _ _ _ _ _ h2
theorem Xi {c:ZU} {st:St} {n:Nat} {r:Ex×St} (h:ZH (Qo X M n) M n c st=some r):QK X M c st=some r:=
 ZkW (ZkX X M c st) h
theorem Y8 {α:Type} {x:Nat→Option α} (h:∀ n,x n=none):lim x=none:=by
 cases hx:lim x with
 | none=>rfl
 | some r=>obtain⟨n,hn⟩:=Zic hx;rw[h n] at hn;cases hn
theorem Zx0 (st:St):QK X M .skip st=some (.normal,st):=Xi X M (n:=0) (by simp[ZH])
theorem Zx1 (id:Nat) (st:St):QK X M (.exit id) st=some (.exit id,st):=Xi X M (n:=0) (by simp[ZH])
theorem Zz1 (st:St):QK X M .ret st=some (.ret,st):=Xi X M (n:=0) (by simp[ZH])
theorem Zu8 (n:Nat) (ops:List CO) (st:St) :
  QK X M (.region n none ops) st=Zpq st.m (st.nx+64*n) (Zh8 (Zd X M) M st.nx 0 ops st.sl st.hp):=by
 cases h:Zh8 (Zd X M) M st.nx 0 ops st.sl st.hp with
 | some r=>
  obtain⟨k,hk⟩:=ZxY X M _ _ _ _ _ _ h;exact Xi X M (n:=k) (by simp only[ZH,hk,Zpq,Zg])
 | none=>
  refine Y8 fun k=>?_;simp only[ZH];cases hn:Zh8 (Qo X M k) M st.nx 0 ops st.sl st.hp with
  | none=>rfl
  | some r=>rw[Zu7 (ZfS X M k) _ _ _ _ _ _ hn] at h;cases h
theorem Zx2 (n:Nat) (ps:List (Nat×Nat)) (ops:List CO) (st:St) :
  QK X M (.region n (some ps) ops) st=Zpq st.m (st.nx+64*n) (ZtM ops ps (Zah (Zd X M) (YO M) st.nx 0 false ops st.sl st.hp)):=by
 cases h:Zah (Zd X M) (YO M) st.nx 0 false ops st.sl st.hp with
 | some r=>
  obtain⟨k,hk⟩:=ZwH X M _ _ _ _ _ _ _ h;cases hs:ZtM ops ps (some r) with
  | none=>
   refine Y8 fun k'=>?_;simp only[ZH];cases hn:Zah (Qo X M k') (YO M) st.nx 0 false ops st.sl st.hp with
   | none=>rfl
   | some r' =>
    have:=Zmu (ZfS X M k') _ _ _ _ _ _ _ hn;rw[h] at this;cases this;rw[hs];rfl
  | some r'=>exact Xi X M (n:=k) (by simp only[ZH,hk,hs];rfl)
 | none=>
  refine Y8 fun k=>?_;simp only[ZH];cases hn:Zah (Qo X M k) (YO M) st.nx 0 false ops st.sl st.hp with
  | none=>rfl
  | some r=>rw[Zmu (ZfS X M k) _ _ _ _ _ _ _ hn] at h;cases h
theorem J7 {c:ZU} {st:St} {r:Ex×St} (h:QK X M c st=some r):∃ n,∀ m,n≤m→ZH (Qo X M m) M m c st=some r:=by
 obtain⟨n,hn⟩:=Zic h;exact⟨n,fun m hm=>(ZkX X M c st).le hn hm⟩
theorem Zz2 (a b:ZU) (st:St):QK X M (.seq a b) st=andThen (QK X M a st) (QK X M b):=by
 cases ha:QK X M a st with
 | none=>
  refine Y8 fun n=>?_;cases h:ZH (Qo X M n) M n a st with
  | none=>simp[ZH,h,andThen]
  | some q=>rw[Xi X M h] at ha;cases ha
 | some q=>
  obtain⟨e,aa⟩:=q;obtain⟨n,hn⟩:=J7 X M ha;cases e with
  | normal=>
   simp only[andThen];cases hb:QK X M b aa with
   | none=>
    refine Y8 fun k=>?_;cases h:ZH (Qo X M k) M k (.seq a b) st with
    | none=>rfl
    | some q=>
     have h1:=(ZkX X M (.seq a b) st).le h (Kaw k n);simp only[ZH,hn _ (Kau k n),andThen] at h1;rw[Xi X M h1] at hb;cases hb
   | some q=>
    obtain⟨m,hm⟩:=J7 X M hb;refine Xi X M (n:=max n m) ?_;simp only[ZH,hn _ (Kaw n m),andThen,hm _ (Kau n m)]
  | exit id=>exact Xi X M (n:=n) (by simp only[ZH,hn _ (Kl n),andThen])
  | ret=>exact Xi X M (n:=n) (by simp only[ZH,hn _ (Kl n),andThen])
theorem Zx3 (c:Opd) (a b:ZU) (st:St) :
  QK X M (.cond c a b) st=Zkc (evO st.sl c) (QK X M a st) (QK X M b st):=by
 unfold Zkc;split
 ·rename_i t h;cases t
  ·simp only[Ka,Kk,QK,ZH,h,Zkc]
  ·simp only[Km,QK,ZH,h,Zkc]
 ·rename_i h;refine Y8 fun n=>?_;simp only[ZH,Zkc]
theorem ZwI (id:Nat) (c:ZU) (st:St):QK X M (.block id c) st=Zib id (QK X M c st):=by
 cases hc:QK X M c st with
 | none=>
  refine Y8 fun n=>?_;cases h:ZH (Qo X M n) M n c st with
  | none=>simp[ZH,h,Zib]
  | some q=>rw[Xi X M h] at hc;cases hc
 | some q=>
  obtain⟨n,hn⟩:=J7 X M hc;cases hb:Zib id (some q) with
  | none=>
   obtain⟨e,aa⟩:=q;cases e<;>simp[Zib] at hb
   split at hb<;>cases hb
  | some r=>exact Xi X M (n:=n) (by simp only[ZH,hn _ (Kl n),hb])
theorem Zx4 (K:List Nat) (c:ZU) (st:St):QK X M (.keep K c) st=ZrJ K (QK X M c st):=by
 cases hc:QK X M c st with
 | none=>
  refine Y8 fun n=>?_;cases h:ZH (Qo X M n) M n c st with
  | none=>simp[ZH,h,ZrJ]
  | some q=>rw[Xi X M h] at hc;cases hc
 | some q=>
  obtain⟨n,hn⟩:=J7 X M hc;exact Xi X M (n:=n) (by simp only[ZH,hn _ (Kl n),ZrJ])
theorem Zx5 (fl:Bool) (id:Nat) (i:Opd) (j:Nat) (c:ZU) (st:St):QK X M (.link fl id i j c) st=bnd (ZfR fl id i j st) fun st1=>ZrL id st.nx (QK X M c st1):=by
 cases hl:ZfR fl id i j st with
 | none=>
  refine Y8 fun n=>?_;simp only[ZH,hl];rfl
 | some st' =>
  rw[Zg];cases hc:QK X M c st' with
  | none=>
   refine Y8 fun n=>?_;cases h:ZH (Qo X M n) M n c st' with
   | none=>simp only[ZH,hl,Zg,h];rfl
   | some q=>rw[Xi X M h] at hc;cases hc
  | some q=>
   obtain⟨n,hn⟩:=J7 X M hc;exact Xi X M (n:=n) (by simp only[ZH,hl,Zg,hn _ (Kl n)];rfl)
theorem Zx6 (c:ZU) (st:St):QK X M (.melt c) st=QK X M c (Zu5 st):=by
 cases hc:QK X M c (Zu5 st) with
 | none=>
  refine Y8 fun n=>?_;cases h:ZH (Qo X M n) M n c (Zu5 st) with
  | none=>simp only[ZH,h]
  | some q=>rw[Xi X M h] at hc;cases hc
 | some q=>
  obtain⟨n,hn⟩:=J7 X M hc;exact Xi X M (n:=n) (by simp only[ZH,hn _ (Kl n)])
noncomputable def Zid (c:ZU) (K:List Nat) (st:St):Option (Ex×St):=lim fun n=>Zai (ZH (Qo X M n) M n c) K n st
theorem ZdC (c:ZU) (K:List Nat) (st:St):Zz0 fun n=>Zai (ZH (Qo X M n) M n c) K n st:=fun n r hr=>
 Zmv (fun _ _ h=>ZpB (ZnF X M n) (Nat.le_succ n) c _ _ h) K n (n+1) st r (Nat.le_succ n) hr
theorem Zx7 (c:ZU) (st:St):QK X M (.loop c) st=Zid X M c (Zbu st.sl) st:=by
 simp only[QK,Zid,ZH]
theorem ZwJ {c:ZU} {K:List Nat} {st aa : St} (h:QK X M c (U4 K st)=some (.normal,aa)) :
  Zid X M c K st=Zid X M c K aa:=by
 obtain⟨n,hn⟩:=J7 X M h;cases hl:Zid X M c K aa with
 | none=>
  refine Y8 fun k=>?_;cases hk:Zai (ZH (Qo X M k) M k c) K k st with
  | none=>rfl
  | some q=>
   have h1:=(ZdC X M c K st).le hk (show k≤max k n+1 by omega);simp only[Zai] at h1;rw[hn (max k n+1) (by omega)] at h1;simp only[] at h1;have h2:=Zmv (fun _ _ h=>h) K (max k n) (max k n+1) aa q (Nat.le_succ _) h1;rw[show Zid X M c K aa=some q from ZkW (ZdC X M c K aa) h2] at hl;cases hl
 | some q=>
  obtain⟨m,hm⟩:=Zic hl;refine ZkW (ZdC X M c K st) (n:=max n m+1) ?_;simp only[Zai,hn (max n m+1) (by omega)];exact Zmv (fun _ _ h=>ZpB (Zc6 X M (show m≤max n m+1 by omega)) (show m≤max n m+1 by omega) c _ _ h) K m (max n m) aa q (by omega) hm
theorem ZrO {c:ZU} {K:List Nat} {st aa : St} {e:Ex} (he:e≠.normal) (h:QK X M c (U4 K st)=some (e,aa)) :
  Zid X M c K st=some (e,aa):=by
 obtain⟨n,hn⟩:=J7 X M h;refine ZkW (ZdC X M c K st) (n:=n+1) ?_;simp only[Zai,hn (n+1) (by omega)];cases e with
 | normal=>exact absurd rfl he
 | exit id=>rfl
 | ret=>rfl
theorem ZBw {f:Nat} {as:List AV} {h:List Zn} {fn:Zp} {r:AV×List Zn} (hx:X f=some (.text fn))
  (hl:as.length≤fn.nt) (hr:Zeh h.length fn.res (QK X M fn.body { sl:=V8 0 as,hp:=WD 0 h,nx:=h.length,m:=h.length })=some r) :
  Zd X M f as h=some r:=by
 cases hv:QK X M fn.body { sl:=V8 0 as,hp:=WD 0 h,nx:=h.length,m:=h.length } with
 | none=>rw[hv] at hr;simp[Zeh] at hr
 | some q=>
  rw[hv] at hr;obtain⟨n,hn⟩:=J7 X M hv;refine ZkW (ZdB X M f as h) (n:=n+1) ?_;simp only[Qo,hx,ZnE,ZrN,hl,Km,hn n (Kl n)];exact hr
theorem ZrP {f:Nat} {as:List AV} {h:List Zn} {p:List AV→List Zn→Option (AV×List Zn)} {r:AV×List Zn} (hx:X f=some (.prim p)) (hp:p as h=some r) :
  Zd X M f as h=some r:=
 ZkW (ZdB X M f as h) (n:=1) (by simp only[Qo,hx,ZnE,hp])
end
section
variable (P:Program)
def W2 (nt:Nat):Code→Option ZU
 | .skip=>some .skip
 | .region _ ops draw=>bnd (Qy (ZoM P nt ops.toList) ops.toList) fun os=>if draw then (if ZrI ops os then some (.region ops.toList.length (some (Zc1 ops os)) os) else some .stuck) else some (.region ops.toList.length none os)
 | .seq a b=>bnd (W2 nt a) fun a=>bnd (W2 nt b) fun b=>some (.seq a b)
 | .cond c a b=>bnd (ZW c) fun c=>bnd (W2 nt a) fun a=>bnd (W2 nt b) fun b=>some (.cond c a b)
 | .block id c=>bnd (W2 nt c) fun c=>some (.block id c)
 | .loop c=>bnd (W2 nt c) fun c=>some (.loop c)
 | .exit id=>some (.exit id)
 | .ret=>some .ret
 | _=>some .stuck
def ZfT:COp→COp
 | .buildT s _ xs=>.buildSl s xs
 | .asgT s _ x=>.assign (some s) x
 | .appT s b flat x y=>.append s b false flat x y
 | .makeT s b _ z l c=>.make s b z l c
 | c=>c
def ZnH:List CO→List CO
 | []=>[]
 | o :: r => { o with op:=ZfT o.op } :: ZnH r
def Zx8:Option (List (Nat×Nat))→List CO→List CO
 | none,ops=>ZnH ops
 | some _,ops=>ops
def YE:ZU→ZU
 | .keep _ c=>YE c
 | .seq a b=>.seq (YE a) (YE b)
 | .cond c a b=>.cond c (YE a) (YE b)
 | .block id c=>.block id (YE c)
 | .loop c=>.loop (YE c)
 | .region n d ops=>.region n d (Zx8 d ops)
 | .link _ _ _ _ c=>YE c
 | .melt c=>YE c
 | .skip=>.skip
 | .exit id=>.exit id
 | .ret=>.ret
 | .stuck=>.stuck
def ZnI (cf:Zp):Zp := { nt:=cf.nt,res:=cf.res,body:=YE cf.body }
def cRes:ResultVar→Option ZsL
 | .tmp t=>some (.tmp t)
 | .cell a t=>bnd (ZeG P t) fun g=>some (.cell a g (P.cellsOf t))
def cFun (fn:Func):Option Zp:=bnd fn.body fun c=>bnd (W2 P fn.ntmps c) fun b=>bnd (Qy (cRes P) fn.results.toList) fun rs=>some { nt:=fn.ntmps,res:=rs,body:=b }
end
end Go.Abs
