import Derived.Test.YtfnegoimdljanaaGreatDoorAbsOps
set_option linter.unusedSimpArgs false
set_option linter.unusedVariables false
namespace Go.Abs
open Go
inductive Ex where
 | normal
 | exit (id:Nat)
 | ret
def QX (lo hi:Nat):Hp→Bool
 | []=>true
 | (k,_) :: r=>decide (lo≤k)&&decide (k<hi)&&QX (k+1) hi r
def Xc (gone:List Nat) (sl:Sl):Sl:=match gone with
 | []=>sl
 | _=>Zmg (kill gone) sl
def VL (gone:List Nat) (hp:Hp):Hp:=match gone with
 | []=>hp
 | _=>Zmg (Xp gone) hp
def Zs (sl:Sl) (dst:Option Nat) (v:AV):Sl:=match dst with
 | some t=>ins sl t v
 | none=>sl
def Ze.on (e:Ze) (dst:Option Nat) (sl:Sl) (hp:Hp):Sl×Hp:=
 (Zs (Xc e.gone sl) dst e.eff.val,e.eff.on (VL e.gone hp))
def Ys (base:Nat) (dst:Option Nat) (sl:Sl) (hp:Hp) (e:Option Ze):Option (Sl×Hp):=
 bnd e fun e=>if QX base (base+64) e.eff.adds then some (e.on dst sl hp) else none
def ZeZ (want:Bool):AV→Option Bool
 | .d (.bool b)=>some (b==want)
 | .tup []=>some false
 | _=>none
def ZZ (sl:Sl):Option (Nat×Bool)→Option Bool
 | none=>some true
 | some q=>ZeZ q.2 (gs sl q.1)
inductive ZM where
 | skip
 | region (n:Nat) (draw:Option (List (Nat×Nat))) (ops:List CO)
 | seq (a b:ZM)
 | cond (c:Opd) (a b:ZM)
 | block (id:Nat) (c:ZM)
 | loop (c:ZM)
 | exit (id:Nat)
 | ret
 | keep (K:List Nat) (c:ZM)
 | stuck
 | link (fl:Bool) (id:Nat) (i:Opd) (j:Nat) (c:ZM)
 | melt (c:ZM)
 | peek (id:Nat) (c:ZM)
inductive ZpX where
 | tmp (t:Nat)
 | cell (a:Nat) (g:Bool) (s:Nat)
structure Zr where
 nt:Nat
 res:List ZpX
 body:ZM
def Zod (x:Option Opd):List Opd:=match x with
 | some y=>[y]
 | none=>[]
def ZF:COp→List Opd
 | .move x=>[x]
 | .assign _ x=>[x]
 | .pick c a b=>[c,a,b]
 | .alloc _ _=>[]
 | .box x=>[x]
 | .build _ ps=>ps.map fun q=>q.2.2
 | .buildSl _ xs=>xs
 | .load _ _ a=>[a]
 | .store _ _ a x=>[a,x]
 | .nilCheck x=>[x]
 | .bin _ _ x y=>[x,y]
 | .un _ x=>[x]
 | .eqA _ _ x y=>[x,y]
 | .convI _ x=>[x]
 | .convS x=>[x]
 | .fn _ cs=>cs
 | .make _ _ _ l c=>[l,c]
 | .slice _ x lo hi=>x :: (Zod lo++Zod hi)
 | .sliceS x lo hi=>x :: (Zod lo++Zod hi)
 | .slice0 x hi mx=>[x,hi,mx]
 | .shift _ x=>[x]
 | .part _ _ _ x=>[x]
 | .iaS _ x i=>[x,i]
 | .iaA _ _ x i=>[x,i]
 | .ixS x i=>[x,i]
 | .ixA _ _ _ x i=>[x,i]
 | .nth _ x=>[x]
 | .len x=>[x]
 | .lenS x=>[x]
 | .append _ _ _ _ x y=>[x,y]
 | .min x y=>[x,y]
 | .max x y=>[x,y]
 | .call f as1=>f :: as1
 | .slice3 _ x lo hi mx=>[x,lo,hi,mx]
 | .clear _ _ x=>[x]
 | .stuck=>[]
 | .buildT _ _ xs=>xs
 | .appT _ _ _ x y=>[x,y]
 | .asgT _ _ x=>[x]
 | .makeT _ _ _ _ l c=>[l,c]
def Zij:COp→Bool
 | .store _ _ _ _=>true
 | _=>false
def isApp:COp→Bool
 | .append _ _ _ _ _ _=>true
 | _=>false
def ZpY (c:COp):Bool:=Zij c || isApp c
def CO.starts (o:CO):Bool:=Zij o.op || o.tl
def ZV (os:List CO) (i:Nat):Bool:=match os[i]? with
 | some o=>CO.starts o
 | none=>false
def WD:Opd→List Nat
 | .t n=>[n]
 | _=>[]
def ZpZ:Option (Nat×Bool)→List Nat
 | some q=>[q.1]
 | none=>[]
def looks (o:CO):List Nat:=(ZF o.op).flatMap WD++ZpZ o.guard
def QL:Option Nat→List Nat→Bool
 | some d,l=>!l.contains d
 | none,_=>true
def JJ:Option Nat→Option Nat→Bool
 | some d,some e=>d != e
 | _,_=>true
def Xx (a b:CO):Bool:=QL a.dst (looks b)&&JJ a.dst b.dst&&QL b.dst (looks a)
def YI:Opd→Bool
 | .v a=>(Zx a).isEmpty&&!ZsP a
 | _=>true
def Zuo (os:List CO) (j i:Nat):Bool:=match os[j]?,os[i]? with
 | some a,some b=>Xx a b
 | _,_=>false
def V1:COp→Bool
 | .load _ _ _=>false
 | .store _ _ _ _=>false
 | .slice _ _ _ _=>false
 | .slice0 _ _ _=>false
 | .iaS _ _ _=>false
 | .len _=>false
 | .append _ _ _ _ _ _=>false
 | .buildSl _ _=>false
 | .buildT _ _ _=>false
 | .appT _ _ _ _ _=>false
 | .asgT _ _ _=>false
 | .makeT _ _ _ _ _ _=>false
 | .call _ _=>false
 | .slice3 _ _ _ _ _=>false
 | .clear _ _ _=>false
 | _=>true
def UR:COp→Bool
 | .load _ _ _=>true
 | .slice _ _ _ _=>true
 | .slice0 _ _ _=>true
 | .iaS _ _ _=>true
 | .len _=>true
 | _=>false
def Zxn:COp→Bool
 | .clear _ _ _=>false
 | .store _ _ _ _=>false
 | .append _ _ _ _ _ _=>false
 | .buildSl _ _=>false
 | .buildT _ _ _=>false
 | .appT _ _ _ _ _=>false
 | .asgT _ _ _=>false
 | .makeT _ _ _ _ _ _=>false
 | .call _ _=>false
 | _=>true
def Ur (os:List CO) (k:Nat):Option Nat:=match os[k]? with
 | some o=>o.dst
 | none=>none
def Zup (os:List CO) (k:Nat):List Nat:=match os[k]? with
 | some o=>looks o
 | none=>[]
def ZaA (os:List CO) (k:Nat):Bool:=(List.range os.length).all fun q=>decide (q<k) || QL (Ur os q) (Zup os k)
def YM:COp→Bool
 | .move _=>true
 | _=>false
def Ze0:COp→Bool
 | .append _ _ _ _ _ _=>true
 | .buildSl _ _=>true
 | _=>false
def J4:COp→Bool
 | .call (.f _) _=>true
 | _=>false
def Zml:COp→List Opd
 | .call _ as1=>as1
 | _=>[]
def Zxo:COp→Bool
 | .alloc _ _=>false
 | .box _=>false
 | .assign _ _=>false
 | .make _ _ _ _ _=>false
 | .fn _ _=>false
 | _=>true
def ZsT:COp→Bool
 | .buildSl _ _=>true
 | _=>false
def Zdv:AV→Bool
 | .d _=>true
 | .nil=>true
 | .nilp=>true
 | .nili=>true
 | _=>false
def Vg:List AV→Bool
 | []=>true
 | c :: r=>Zdv c&&Vg r
def ZoU:COp→Bool
 | .alloc _ cs=>Vg cs
 | _=>false
def Zp0 (c:COp):Bool:=UR c || ZsT c || (V1 c&&Zxo c) || ZoU c
def ZkJ:COp→Bool
 | .alloc _ cs=>Vg cs
 | .buildSl _ _=>true
 | .load _ _ _=>true
 | .nilCheck _=>true
 | .bin _ _ _ _=>true
 | .un _ _=>true
 | .convI _ _=>true
 | .shift _ _=>true
 | .iaS _ _ _=>true
 | .slice _ _ _ _=>true
 | .len _=>true
 | .sliceS _ _ _=>true
 | .lenS _=>true
 | _=>false
def ZCH:Option Nat→Bool
 | some _=>true
 | none=>false
def Zoe (os:List CO) (k:Nat):Bool:=ZCH (Ur os k)&&(List.range os.length).all fun q=>q==k || JJ (Ur os q) (Ur os k)
def ZkK (os:List CO) (j i:Nat):Bool:=ZaA os j&&ZaA os i
def ZA8 (os:List CO) (j i:Nat) (a b:COp):Bool:=
 Zxn b || (ZpY b&&(V1 a || (!YM a&&UR a&&ZkK os j i))) || (YM a&&(Ze0 b || Zoe os j)) || (!YM a&&J4 b&&Zp0 a&&ZkK os j i&&Zoe os j)
def ZA9 (os:List CO) (j i:Nat) (a b:COp):Bool:=(YM b&&Zoe os i) || (!YM b&&J4 a&&ZkJ b&&ZkK os j i&&Zoe os i)
def Zuq (os:List CO) (j i:Nat):Bool:=match os[j]?,os[i]? with
 | some a,some b=>if ZV os j then !ZV os i&&ZA9 os j i a.op b.op else !ZV os i || ZA8 os j i a.op b.op
 | _,_=>false
def Ze1 (os:List CO) (j i:Nat):Option (Nat×Nat):=match os[j]?,os[i]? with
 | some a,some b=>if ZV os j then (if YM b.op || J4 a.op then some (i,j) else none) else
   if ZV os i&&(if ZpY b.op then !(V1 a.op) else if YM a.op then !(Ze0 b.op) else J4 b.op) then some (j,i) else none
 | _,_=>none
def optP:Option (Nat×Nat)→List (Nat×Nat)
 | some p=>[p]
 | none=>[]
def JK (ops:Array Oper) (os:List CO):List (Nat×Nat):=
 (List.range ops.size).flatMap fun i=>(List.range i).flatMap fun j=>if ZgR ops 6 i j then [] else optP (Ze1 os j i)
def Zp1 (ops:Array Oper) (os:List CO):Bool:=
 (List.range ops.size).all (fun i=>(VJ ops i).all fun e=>decide (e<i)) &&
 (List.range ops.size).all (fun i=>(List.range i).all fun j=>(VJ ops i).contains j || Zuo os j i) &&
 (List.range ops.size).all (fun i=>(List.range i).all fun j=>ZgR ops 6 i j || Zuq os j i) &&
 os.all (fun o=>(ZF o.op).all YI)
def ZbP (id:Nat):AV→Bool
 | .d _=>true
 | .pim _=>true
 | .nil=>true
 | .ptr k _=>k != id
 | .prow k _ _ _=>k != id
 | .own k=>k != id
 | .ownv k _ _=>k != id
 | .nilp=>true
 | .nili=>true
 | .tup []=>true
 | _=>false
def okC:AV→Bool
 | .d _=>true
 | .pim _=>true
 | .nil=>true
 | .ptr _ _=>true
 | .prow _ _ _ _=>true
 | .own _=>true
 | .ownv _ _ _=>true
 | .nilp=>true
 | .nili=>true
 | _=>false
def Zur:List AV→Bool
 | []=>true
 | v :: r=>okC v&&Zur r
def okV:AV→Bool
 | .agg cs=>Zur cs
 | .tup []=>true
 | v=>okC v
def okL (sl:Sl):List Opd→Bool
 | []=>true
 | x :: r=>okV (evO sl x)&&okL sl r
def okD (sl:Sl):Option Nat→Bool
 | some t=>okV (gs sl t)
 | none=>true
def Vh:AV→Option Nat
 | .ptr k _=>some k
 | .prow k _ _ _=>some k
 | _=>none
def QS (sl:Sl) (id:Nat):List Opd→Bool
 | []=>true
 | x :: r=>ZbP id (evO sl x)&&QS sl id r
def Ze2 (sl:Sl) (a:COp):Option Nat→Bool
 | some id=>QS sl id (ZF a)
 | none=>false
def ZbQ (sl:Sl) (xs:List Opd):AV→Bool
 | .ptr k _=>QS sl k xs
 | .prow _ _ _ _=>false
 | _=>true
def ZgS (sl:Sl) (xs:List Opd):List Opd→Bool
 | []=>true
 | y :: r=>ZbQ sl xs (evO sl y)&&ZgS sl xs r
def US (sl:Sl) (a:COp):AV→Bool
 | .nil=>true
 | .tup []=>true
 | .own k=>QS sl k (ZF a)
 | .ownv k _ _=>QS sl k (ZF a)
 | _=>false
def seenSrc (sl:Sl) (a:COp):AV→Bool
 | .own k=>QS sl k (ZF a)
 | v=>okV v
def XU (sl:Sl) (xs:List Opd):List Nat→Bool
 | []=>true
 | k :: r=>QS sl k xs&&XU sl xs r
def Vz (sl:Sl) (a:COp):AV→AV→Bool
 | .prow _ _ _ _,.d _=>true
 | .prow _ _ _ _,v=>okV v&&XU sl (ZF a) (Zx v)
 | _,_=>true
def Ug (sl:Sl) (d:Option Nat):COp→COp→Bool
 | .move _,_=>okD sl d
 | a,.store _ _ x y=>Ze2 sl a (Vh (evO sl x))&&Vz sl a (evO sl x) (evO sl y)
 | a,.append _ _ _ flat x y=>US sl a (evO sl x)&&(flat || seenSrc sl a (evO sl y))
 | a,.call _ as1=>okL sl (ZF a)&&(okD sl d&&(okL sl as1&&ZgS sl (ZF a) as1))
 | _,_=>false
def ZkL (os:List CO) (sl:Sl) (p:Nat×Nat):Bool:=match os[p.1]?,os[p.2]? with
 | some a,some b=>Ug sl a.dst a.op b.op
 | _,_=>false
def VM (os:List CO) (sl:Sl):List (Nat×Nat)→Bool
 | []=>true
 | p :: r=>ZkL os sl p&&VM os sl r
def X5 (M:Zq):Zq:=fun f i=>i != 99&&M f i
section
variable (C:Orc) (M:Zq)
noncomputable def Ze3 (nx:Nat):Nat→List CO→Sl→Hp→Option (Sl×Hp)
 | _,[],sl,hp=>some (sl,hp)
 | i,o :: rest,sl,hp=>bnd (ZZ sl o.guard) fun b=>
   if b then bnd (Ys (nx+64*i) o.dst sl hp (vop C M sl hp (nx+64*i) o.op)) fun r=>Ze3 nx (i+1) rest r.1 r.2
   else Ze3 nx (i+1) rest (Zs sl o.dst (.tup [])) hp
def Ze4 (c:Ze):List Nat→Hp→List Nat→List Nat→Option Ze
 | [],[],[],[]=>some c
 | _,_,_,_=>none
def ZbR (e:Option Ze):Option Ze:=bnd e fun c=>Ze4 c c.gone c.eff.sets c.eff.dels c.eff.frz
noncomputable def VQ (nx i:Nat) (tail:Bool) (o:COp) (sl:Sl) (hp:Hp):Option Ze:=
 if tail then vop C M sl hp (nx+64*i) o else ZbR (vop C M sl hp (nx+64*i) o)
noncomputable def Us (nx:Nat):Nat→Bool→List CO→Sl→Hp→Option (Sl×Hp)
 | _,_,[],sl,hp=>some (sl,hp)
 | i,t,o :: rest,sl,hp=>bnd (ZZ sl o.guard) fun b=>
   if b then bnd (Ys (nx+64*i) o.dst sl hp (VQ C M nx i (CO.starts o) o.op sl hp)) fun r=>Us nx (i+1) t rest r.1 r.2
   else Us nx (i+1) t rest (Zs sl o.dst (.tup [])) hp
def ZaB {α:Type}:List (Nat×α)→List Nat
 | []=>[]
 | (k,_) :: r=>k :: ZaB r
def only {α:Type} (K:List Nat):List (Nat×α)→List (Nat×α)
 | []=>[]
 | (k,v) :: r=>if K.contains k then (k,v) :: only K r else only K r
def VR:Nat→List Zk→Hp
 | _,[]=>[]
 | k,o :: r=>VR (k+1) r++[(k,o)]
def ZsU:Sl→List Nat
 | []=>[]
 | (_,v) :: r=>Zx v++ZsU r
def Zus:Option Zk→Bool
 | some _=>true
 | none=>false
def Zdw (hp:Hp) (ids:List Nat) (i:Nat):Bool:=ids.contains i&&Zus (lkp hp i)
def ZgT (hp:Hp) (ids:List Nat):List Nat→List Nat
 | []=>[]
 | i :: r=>if Zdw hp ids i then ZgT hp ids r else i :: ZgT hp ids r
def Zen (hp:Hp) (ids:List Nat) (v:AV):AV:=ren (VI ids) (kill (ZgT hp ids (Zx v)) v)
def ZgU (hp:Hp) (ids:List Nat) (o:Zk):Zk:=Zkx (VI ids) (Xp (ZgT hp ids (UI o)) o)
def Zxp:Option Zk→List Nat
 | some o=>UI o
 | none=>[]
def Wl (hp:Hp):List Nat→List Nat
 | []=>[]
 | id :: r=>Zxp (lkp hp id)++Wl hp r
def Ut (K:List Nat) (st:St):St:=
 let sl:=only K st.sl
 let ids:=Q6 st.hp (XN st.hp) (ZsU sl++Wl st.hp (List.range st.m)) (List.range st.m)
 { sl:=Zmg (Zen st.hp ids) sl,hp:=VR 0 ((Zdr st.hp ids).map (ZgU st.hp ids)),nx:=ids.length,m:=st.m }
def Jz (f:St→Option (Ex×St)) (K:List Nat):Nat→St→Option (Ex×St)
 | 0,_=>none
 | n+1,st=>match f (Ut K st) with
  | some (.normal,st')=>Jz f K n st'
  | r=>r
def andThen (r:Option (Ex×St)) (k:St→Option (Ex×St)):Option (Ex×St):=match r with
 | some (.normal,st)=>k st
 | r=>r
def ZiW (v:AV) (a b:Option (Ex×St)):Option (Ex×St):=match v with
 | .d (.bool t)=>if t then a else b
 | _=>none
def ZgV (id:Nat) (r:Option (Ex×St)):Option (Ex×St):=match r with
 | some (.exit j,st)=>if j=id then some (.normal,st) else some (.exit j,st)
 | r=>r
def ZkM (ops:List CO) (ps:List (Nat×Nat)) (r:Option (Sl×Hp)):Option (Sl×Hp):=bnd r fun r=>if VM ops r.1 ps then some r else none
def ZiG (m nx:Nat) (r:Option (Sl×Hp)):Option (Ex×St):=bnd r fun r=>some (.normal,{ sl:=r.1,hp:=r.2,nx:=nx,m:=m })
def Zp2 (K:List Nat) (r:Option (Ex×St)):Option (Ex×St):=match r with
 | some q=>some (q.1,{ q.2 with sl:=only K q.2.sl })
 | none=>none
def ZyL (fl:Bool) (k:Nat) (ys:List D):Option Zk:=if fl then (if Ju D.flat ys then some (.row k ys true false) else none) else some (.tree k k ys none)
def ZkN (xs:List D) (n j:Nat) (y:D):Option (List D):=bnd xs[n]? fun x=>some (xs.set n (Y6 x j [y]))
def ZyM (fl:Bool) (nx n j:Nat):Option Zk→Option (Zk×Zk)
 | some (.tree s k xs none)=>bnd (UQ xs n j) fun ys=>bnd (ZyL fl k ys) fun o=>bnd (ZkN xs n j (.sl [])) fun xs'=>some (.tree s k xs' (some (some nx,n,j)),o)
 | _=>none
def ZBa:Option Zk→Option Int
 | some (.tree _ _ xs _)=>some ((xs.length:Int)-1)
 | _=>none
def Zut (st:St) (id:Nat):Opd→Option Int
 | .t n=>idx (gs st.sl n)
 | .v a=>idx a
 | .f _=>ZBa (lkp st.hp id)
def Ze5 (fl:Bool) (id:Nat) (i:Opd) (j:Nat) (st:St):Option St:=bnd (Zut st id i) fun n=>if 0≤n then bnd (ZyM fl st.nx n.toNat j (lkp st.hp id)) fun q=>some { st with hp:=ins (ins st.hp id q.1) st.nx q.2,nx:=st.nx+64 } else none
def Zp3 (k:Nat):Option Zk→Option (List D)
 | some (.row k' ys true false)=>if k'=k∧Ju D.flat ys then some ys else none
 | some (.tree k' n ys none)=>if k'=k∧n=k then some ys else none
 | _=>none
def ZnH (hp:Hp) (id nm:Nat):Option Zk→Option Hp
 | some (.tree s k xs (some (some nm',n,j)))=>if nm'=nm then bnd (Zp3 k (lkp hp nm)) fun ys=>bnd (ZkN xs n j (.sl ys)) fun xs'=>some (ins (del hp nm) id (.tree s k xs' none)) else none
 | _=>none
def ZzU (hp:Hp):Option Hp→Hp
 | some h=>h
 | none=>hp
def Zp4 (id nm:Nat) (r:Option (Ex×St)):Option (Ex×St):=match r with
 | some q=>some (q.1,{ q.2 with hp:=ZzU q.2.hp (ZnH q.2.hp id nm (lkp q.2.hp id)) })
 | none=>none
def Zuu (st:St):St := { st with hp:=Zmg ZkG st.hp }
def Zp5:Option Zk→Option Zk
 | some (.tree s _ xs none)=>some (.row s xs false true)
 | _=>none
def Ze6:AV→AV
 | .d (.int k n)=>.d (.int k n)
 | .d (.bool b)=>.d (.bool b)
 | _=>.junk
def Zof:Option Nat→List Nat→List Nat
 | some t,l=>t :: l
 | none,l=>l
def UT:List CO→List Nat
 | []=>[]
 | o :: r=>Zof o.dst (UT r)
def ZvP:ZM→Option (List Nat)
 | .region _ _ os=>some (UT os)
 | _=>none
def ZbS (sl2:Sl):List Nat→Sl→Sl
 | [],sl=>sl
 | t :: r,sl=>ZbS sl2 r (ins sl t (Ze6 (gs sl2 t)))
def Zmm (id:Nat) (st:St):Option St:=bnd (Zp5 (lkp st.hp id)) fun o=>some { st with hp:=[(id,o)] }
def Zp6 (st:St) (ds:List Nat) (r:Option (Ex×St)):Option (Ex×St):=match r with
 | some q=>some (q.1,{ q.2 with sl:=ZbS q.2.sl ds st.sl,hp:=st.hp })
 | none=>none
noncomputable def ZG (N:Nat):ZM→St→Option (Ex×St)
 | .skip,st=>some (.normal,st)
 | .region n none ops,st=>ZiG st.m (st.nx+64*n) (Ze3 C M st.nx 0 ops st.sl st.hp)
 | .region n (some ps) ops,st=>ZiG st.m (st.nx+64*n) (ZkM ops ps (Us C (X5 M) st.nx 0 false ops st.sl st.hp))
 | .seq a b,st=>andThen (ZG N a st) (ZG N b)
 | .cond c a b,st=>ZiW (evO st.sl c) (ZG N a st) (ZG N b st)
 | .block id c,st=>ZgV id (ZG N c st)
 | .loop c,st=>Jz (ZG N c) (ZaB st.sl) N st
 | .exit id,st=>some (.exit id,st)
 | .ret,st=>some (.ret,st)
 | .keep K c,st=>Zp2 K (ZG N c st)
 | .stuck,_=>none
 | .link fl id i j c,st=>bnd (Ze5 fl id i j st) fun st1=>Zp4 id st.nx (ZG N c st1)
 | .melt c,st=>ZG N c (Zuu st)
 | .peek id c,st=>bnd (ZvP c) fun ds=>bnd (Zmm id st) fun st1=>Zp6 st ds (ZG N c st1)
def Zp7 (st:St):ZpX→Option AV
 | .tmp t=>some (gs st.sl t)
 | .cell a g s=>WJ st.hp g s (gs st.sl a)
def V2 (m:Nat) (hp:Hp) (v:AV):AV×List Zk:=
 let ids:=Q6 hp (XN hp) (Zx v++Wl hp (List.range m)) (List.range m)
 (Zen hp ids v,(Zdr hp ids).map (ZgU hp ids))
def ZyN:AV→Bool
 | .tup _=>true
 | _=>false
def ZjK:List AV→Bool
 | []=>false
 | v :: r=>ZyN v || ZjK r
def ZbT:List AV→AV
 | [v]=>v
 | vs=>if ZjK vs then .junk else .tup vs
def VN:Nat→List AV→Sl
 | _,[]=>[]
 | k,v :: r=>VN (k+1) r++[(k,v)]
def Zdx (m:Nat) (rs:List ZpX) (r:Option (Ex×St)):Option (AV×List Zk):=match r with
 | some (.normal,st)=>bnd (QF (Zp7 st) rs) fun vs=>some (V2 m st.hp (ZbT vs))
 | some (.ret,st)=>bnd (QF (Zp7 st) rs) fun vs=>some (V2 m st.hp (ZbT vs))
 | _=>none
noncomputable def Zp8 (N:Nat) (fn:Zr) (as1:List AV) (h:List Zk):Option (AV×List Zk):=
 if as1.length≤fn.nt then Zdx h.length fn.res (ZG C M N fn.body { sl:=VN 0 as1,hp:=VR 0 h,nx:=h.length,m:=h.length }) else none
end
inductive Fn where
 | text (f:Zr)
 | prim (p:List AV→List Zk→Option (AV×List Zk))
abbrev Fns:=Nat→Option Fn
noncomputable def Zmn (C:Orc) (M:Zq) (N:Nat) (as1:List AV) (h:List Zk):Option Fn→Option (AV×List Zk)
 | some (.text f)=>Zp8 C M N f as1 h
 | some (.prim p)=>p as1 h
 | none=>none
noncomputable def Qj (X:Fns) (M:Zq):Nat→Orc
 | 0,_,_,_=>none
 | n+1,f,as1,h=>Zmn (Qj X M n) M n as1 h (X f)
open Classical in
noncomputable def lim {α:Type} (x:Nat→Option α):Option α:=if h:∃ r,∃ n,x n=some r then some h.choose else none
def ZzV {α:Type} (x:Nat→Option α):Prop:=∀ n r,x n=some r→x (n+1)=some r
theorem ZzV.le {α:Type} {x:Nat→Option α} (h:ZzV x) {n m:Nat} {r:α} (hr:x n=some r) (aa:n≤m):x m=some r:=by
 induction aa with
 | refl=>exact hr
 | step _ ih=>exact h _ _ ih
theorem ZjL {α:Type} {x:Nat→Option α} (h:ZzV x) {n:Nat} {r:α} (hr:x n=some r):lim x=some r:=by
 have he:∃ r,∃ n,x n=some r:=⟨r,n,hr⟩
 unfold lim;rw[dif_pos he];obtain⟨m,hm⟩:=he.choose_spec;have h1:=h.le hm (Kau m n);have h2:=h.le hr (Kar m n);rw[h1] at h2;exact h2
theorem ZgW {α:Type} {x:Nat→Option α} {r:α} (hr:lim x=some r):∃ n,x n=some r:=by
 unfold lim at hr;split at hr
 ·rename_i h;obtain⟨n,hn⟩:=h.choose_spec;exact⟨n,by rw[hn];exact hr⟩
 ·cases hr
def Orc.le (C C' : Orc):Prop:=∀ f as1 h r,C f as1 h=some r→C' f as1 h=some r
section
variable {M:Zq} {C C' : Orc}
theorem ZaC {α β:Type} {x x' : Option α} {f f' : α→Option β} {r:β} (hx:∀ a,x=some a→x'=some a) (hf:∀ a,f a=some r→f' a=some r) (h:bnd x f=some r):bnd x' f'=some r:=by
 obtain⟨a,h1,h2⟩:=Za h;rw[hx a h1];exact hf a h2
theorem ZBb (h:C.le C') {m:Nat→Bool} {hp:Hp} {base f:Nat} {aa:List AV} {r:Ze}
  (hr:ZcX C m hp base f aa=some r):ZcX C' m hp base f aa=some r:=by
 unfold ZcX at hr ⊢;refine ZaC (fun _ h=>h) (fun as1 hr=>?_) hr;unfold ZeV at hr ⊢;by_cases hc:(as1.flatMap Zx).all (Q6 hp (XN hp) (as1.flatMap Zx) []).contains∧¬(Yx aa as1).any (Q6 hp (XN hp) (as1.flatMap Zx) []).contains∧Za3 hp (as1.flatMap Jy) (Q6 hp (XN hp) (as1.flatMap Zx) [])=true
 ·rw[Kj hc] at hr ⊢;exact ZaC (fun q hq=>h _ _ _ _ hq) (fun _ h=>h) hr
 ·rw[Ke hc] at hr;cases hr
theorem Zuv (h:C.le C') {sl:Sl} {hp:Hp} {base:Nat} {o:COp} {r:Ze} (hr:vop C M sl hp base o=some r) :
  vop C' M sl hp base o=some r:=by
 cases o with
 | call f as1=>
  simp only[vop] at hr ⊢;cases hg:evO sl f<;>simp only[hg,Zdu] at hr ⊢ <;> first | exact ZBb h hr | exact hr
 | _=>exact hr
theorem Zuw (h:C.le C') (nx:Nat):∀ (l:List CO) (i:Nat) (sl:Sl) (hp:Hp) (r:Sl×Hp),
  Ze3 C M nx i l sl hp=some r→Ze3 C' M nx i l sl hp=some r:=by
 intro l
 induction l with
 | nil=>intro i sl hp r hr;exact hr
 | cons o rest ih=>
  intro i sl hp r hr;simp only[Ze3] at hr ⊢;refine ZaC (fun _ h=>h) (fun b hr=>?_) hr;cases b
  ·simp only[Ka,Km] at hr ⊢;exact ih _ _ _ _ hr
  ·simp only[Kl] at hr ⊢;refine ZaC (fun q hq=>?_) (fun q hq=>ih _ _ _ _ hq) hr;unfold Ys at hq ⊢;exact ZaC (fun e he=>Zuv h he) (fun _ h=>h) hq
theorem ZyO (h:C.le C') {nx i:Nat} {t:Bool} {o:COp} {sl:Sl} {hp:Hp} {e:Ze} (he:VQ C M nx i t o sl hp=some e) :
  VQ C' M nx i t o sl hp=some e:=by
 unfold VQ at he ⊢;cases t
 ·simp only[Ka,Km,ZbR] at he ⊢;exact ZaC (fun _ hv=>Zuv h hv) (fun _ h=>h) he
 ·simp only[Kl] at he ⊢;exact Zuv h he
theorem ZkO (h:C.le C') (nx:Nat):∀ (l:List CO) (i:Nat) (t:Bool) (sl:Sl) (hp:Hp) (r:Sl×Hp),
  Us C M nx i t l sl hp=some r→Us C' M nx i t l sl hp=some r:=by
 intro l
 induction l with
 | nil=>intro i t sl hp r hr;exact hr
 | cons o rest ih=>
  intro i t sl hp r hr;simp only[Us] at hr ⊢;refine ZaC (fun _ h=>h) (fun b hr=>?_) hr;cases b
  ·simp only[Ka,Km] at hr ⊢;exact ih _ _ _ _ _ hr
  ·simp only[Kl] at hr ⊢;refine ZaC (fun q hq=>?_) (fun q hq=>ih _ _ _ _ _ hq) hr;unfold Ys at hq ⊢;exact ZaC (fun e he=>ZyO h he) (fun _ h=>h) hq
theorem ZkP {f g:St→Option (Ex×St)} (h:∀ st r,f st=some r→g st=some r) (K:List Nat) :
  ∀ (n m:Nat) (st:St) (r:Ex×St),n≤m→Jz f K n st=some r→Jz g K m st=some r:=by
 intro n
 induction n with
 | zero=>intro m st r _ hr;simp[Jz] at hr
 | succ n ih=>
  intro m st r hm hr;cases m with
  | zero=>omega
  | succ m=>
   simp only[Jz] at hr ⊢;cases hf:f (Ut K st) with
   | none=>simp[hf] at hr
   | some q=>
    rw[hf] at hr;rw[h _ _ hf];obtain⟨e,aa⟩:=q;cases e with
    | normal=>exact ih m aa r o_ hr
    | exit id=>exact hr
    | ret=>exact hr
theorem ZoV (h:C.le C') {N N' : Nat} (hN:N≤N'):∀ (c:ZM) (st:St) (r:Ex×St),
  ZG C M N c st=some r→ZG C' M N' c st=some r:=by
 intro c
 induction c with
 | skip=>intro st r hr;simpa [ZG] using hr
 | region n draw ops=>
  intro st r hr;cases draw
  ·simp only[ZG,ZiG] at hr ⊢;exact ZaC (fun q hq=>Zuw h _ _ _ _ _ _ hq) (fun _ h=>h) hr
  ·simp only[ZG,ZiG,ZkM] at hr ⊢;exact ZaC (fun q hq=>ZaC (fun q hq=>ZkO h _ _ _ _ _ _ _ hq) (fun _ h=>h) hq) (fun _ h=>h) hr
 | seq a b iha ihb=>
  intro st r hr;simp only[ZG] at hr ⊢;cases ha:ZG C M N a st with
  | none=>simp[ha,andThen] at hr
  | some q=>
   rw[ha] at hr;rw[iha _ _ ha];obtain⟨e,aa⟩:=q;cases e with
   | normal=>exact ihb _ _ hr
   | exit id=>exact hr
   | ret=>exact hr
 | cond c a b iha ihb=>
  intro st r hr;simp only[ZG,ZiW] at hr ⊢;split at hr
  ·rename_i t ht;cases t
   ·simp only[Ka,Km] at hr ⊢;exact ihb _ _ hr
   ·simp only[Kl] at hr ⊢;exact iha _ _ hr
  ·cases hr
 | block id c ih=>
  intro st r hr;simp only[ZG] at hr ⊢;cases hc:ZG C M N c st with
  | none=>simp[hc,ZgV] at hr
  | some q=>rw[hc] at hr;rw[ih _ _ hc];exact hr
 | loop c ih=>
  intro st r hr;simp only[ZG] at hr ⊢;exact ZkP ih _ _ _ _ _ hN hr
 | exit id=>intro st r hr;simpa [ZG] using hr
 | ret=>intro st r hr;simpa [ZG] using hr
 | keep K c ih=>
  intro st r hr;simp only[ZG] at hr ⊢;cases hc:ZG C M N c st with
  | none=>simp[hc,Zp2] at hr
  | some q=>rw[hc] at hr;rw[ih _ _ hc];exact hr
 | stuck=>intro st r hr;simp[ZG] at hr
 | link fl id i j c ih=>
  intro st r hr;simp only[ZG] at hr ⊢;obtain⟨aa,h1,h2⟩:=Za hr;rw[h1,Zg];cases hc:ZG C M N c aa with
  | none=>simp[hc,Zp4] at h2
  | some q=>rw[hc] at h2;rw[ih _ _ hc];exact h2
 | melt c ih=>
  intro st r hr;simp only[ZG] at hr ⊢;exact ih _ r hr
 | peek id c ih=>
  intro st r hr;simp only[ZG] at hr ⊢;obtain⟨ds,h0,hr⟩:=Za hr;obtain⟨aa,h1,h2⟩:=Za hr;rw[h0,Zg,h1,Zg];cases hc:ZG C M N c aa with
  | none=>simp[hc,Zp6] at h2
  | some q=>rw[hc] at h2;rw[ih _ _ hc];exact h2
theorem ZBc (h:C.le C') {N N' : Nat} (hN:N≤N') {f:Zr} {as1:List AV} {hh:List Zk} {r:AV×List Zk}
  (hr:Zp8 C M N f as1 hh=some r):Zp8 C' M N' f as1 hh=some r:=by
 unfold Zp8 at hr ⊢;by_cases hl:as1.length≤f.nt
 ·rw[Kj hl] at hr ⊢;cases hv:ZG C M N f.body { sl:=VN 0 as1,hp:=VR 0 hh,nx:=hh.length,m:=hh.length } with
  | none=>simp[hv,Zdx] at hr
  | some q=>rw[hv] at hr;rw[ZoV h hN _ _ _ hv];exact hr
 ·rw[Ke hl] at hr;cases hr
end
section
variable (X:Fns) (M:Zq)
theorem Zmo:∀ n,(Qj X M n).le (Qj X M (n+1)):=by
 intro n
 induction n with
 | zero=>intro f as1 h r hr;simp[Qj] at hr
 | succ n ih=>
  intro f as1 h r hr;rw[Qj] at hr ⊢;cases hf:X f with
  | none=>rw[hf] at hr;cases hr
  | some g=>
   rw[hf] at hr;cases g with
   | text g=>exact ZBc ih (Nat.le_succ n) hr
   | prim p=>exact hr
noncomputable def Zd (f:Nat) (as1:List AV) (h:List Zk):Option (AV×List Zk):=lim fun n=>Qj X M n f as1 h
noncomputable def QA (c:ZM) (st:St):Option (Ex×St):=lim fun n=>ZG (Qj X M n) M n c st
theorem ZcZ (f:Nat) (as1:List AV) (h:List Zk):ZzV fun n=>Qj X M n f as1 h:=fun n r hr=>Zmo X M n f as1 h r hr
theorem Ze7 (n:Nat):(Qj X M n).le (Zd X M):=fun f as1 h _ hr=>ZjL (ZcZ X M f as1 h) hr
theorem ZjM (c:ZM) (st:St):ZzV fun n=>ZG (Qj X M n) M n c st:=fun n r hr=>ZoV (Zmo X M n) (Nat.le_succ n) c st r hr
theorem ZbU {n m:Nat} (h:n≤m):(Qj X M n).le (Qj X M m):=fun f as1 hh _ hr=>(ZcZ X M f as1 hh).le hr h
theorem ZvQ {m:Nat→Bool} {hp:Hp} {base f:Nat} {aa:List AV} {r:Ze}
  (hr:ZcX (Zd X M) m hp base f aa=some r):∃ n,ZcX (Qj X M n) m hp base f aa=some r:=by
 unfold ZcX at hr ⊢;obtain⟨as1,ab,hr⟩:=Za hr;simp only[ab,Zg];unfold ZeV at hr ⊢;by_cases hc:(as1.flatMap Zx).all (Q6 hp (XN hp) (as1.flatMap Zx) []).contains∧¬(Yx aa as1).any (Q6 hp (XN hp) (as1.flatMap Zx) []).contains∧Za3 hp (as1.flatMap Jy) (Q6 hp (XN hp) (as1.flatMap Zx) [])=true
 ·rw[Kj hc] at hr;obtain⟨q,hq,hr⟩:=Za hr;obtain⟨n,hn⟩:=ZgW hq;refine⟨n,?_⟩;rw[Kj hc,hn];exact hr
 ·rw[Ke hc] at hr;cases hr
theorem Zmp {M' : Zq} {sl:Sl} {hp:Hp} {base:Nat} {o:COp} {r:Ze} (hr:vop (Zd X M) M' sl hp base o=some r) :
  ∃ n,vop (Qj X M n) M' sl hp base o=some r:=by
 cases o with
 | call f as1=>
  simp only[vop] at hr ⊢;cases hg:evO sl f<;>simp only[hg,Zdu] at hr ⊢ <;> first | exact ZvQ X M hr | exact⟨0,hr⟩
 | _=>exact⟨0,hr⟩
theorem Zxq (nx:Nat):∀ (l:List CO) (i:Nat) (sl:Sl) (hp:Hp) (r:Sl×Hp),
  Ze3 (Zd X M) M nx i l sl hp=some r→∃ n,Ze3 (Qj X M n) M nx i l sl hp=some r:=by
 intro l
 induction l with
 | nil=>intro i sl hp r hr;exact⟨0,hr⟩
 | cons o rest ih=>
  intro i sl hp r hr;simp only[Ze3] at hr ⊢;obtain⟨b,hb,hr⟩:=Za hr;simp only[hb,Zg];cases b
  ·simp only[Ka,Km] at hr ⊢;exact ih _ _ _ _ hr
  ·simp only[Kl] at hr ⊢;obtain⟨q,hq,hr⟩:=Za hr;unfold Ys at hq;obtain⟨e,he,hq⟩:=Za hq;obtain⟨n1,h1⟩:=Zmp X M he;obtain⟨n2,h2⟩:=ih _ _ _ _ hr;refine⟨max n1 n2,?_⟩;unfold Ys;rw[Zuv (ZbU X M (Kau n1 n2)) h1,Zg,hq,Zg];exact Zuw (ZbU X M (Kar n1 n2)) _ _ _ _ _ _ h2
theorem Zxr {M' : Zq} {nx i:Nat} {t:Bool} {o:COp} {sl:Sl} {hp:Hp} {e:Ze} (he:VQ (Zd X M) M' nx i t o sl hp=some e) :
  ∃ n,VQ (Qj X M n) M' nx i t o sl hp=some e:=by
 unfold VQ at he ⊢;cases t
 ·simp only[Ka,Km,ZbR] at he ⊢;obtain⟨e',aa,h2⟩:=Za he;obtain⟨n,hn⟩:=Zmp X M aa;exact⟨n,by rw[hn];exact h2⟩
 ·simp only[Kl] at he ⊢;exact Zmp X M he
theorem ZvR {M' : Zq} (nx:Nat):∀ (l:List CO) (i:Nat) (t:Bool) (sl:Sl) (hp:Hp) (r:Sl×Hp),
  Us (Zd X M) M' nx i t l sl hp=some r→∃ n,Us (Qj X M n) M' nx i t l sl hp=some r:=by
 intro l
 induction l with
 | nil=>intro i t sl hp r hr;exact⟨0,hr⟩
 | cons o rest ih=>
  intro i t sl hp r hr;simp only[Us] at hr ⊢;obtain⟨b,hb,hr⟩:=Za hr;simp only[hb,Zg];cases b
  ·simp only[Ka,Km] at hr ⊢;exact ih _ _ _ _ _ hr
  ·simp only[Kl] at hr ⊢;obtain⟨q,hq,hr⟩:=Za hr;unfold Ys at hq;obtain⟨e,he,hq⟩:=Za hq;obtain⟨n1,h1⟩:=Zxr X M he;obtain⟨n2,h2⟩:=ih _ _ _ _ _ hr;refine⟨max n1 n2,?_⟩;unfold Ys;rw[ZyO (ZbU X M (Kau n1 n2)) h1,Zg,hq,Zg];exact ZkO (ZbU X M (Kar n1 n2)) _ _ _ _ _ _ _ h2
theorem QZ {c:ZM} {st:St} {n:Nat} {r:Ex×St} (h:ZG (Qj X M n) M n c st=some r):QA X M c st=some r:=
 ZjL (ZjM X M c st) h
theorem XR {α:Type} {x:Nat→Option α} (h:∀ n,x n=none):lim x=none:=by
 cases hx:lim x with
 | none=>rfl
 | some r=>obtain⟨n,hn⟩:=ZgW hx;rw[h n] at hn;cases hn
theorem Zxs (st:St):QA X M .skip st=some (.normal,st):=QZ X M (n:=0) (by simp[ZG])
theorem Zxt (id:Nat) (st:St):QA X M (.exit id) st=some (.exit id,st):=QZ X M (n:=0) (by simp[ZG])
theorem ZzW (st:St):QA X M .ret st=some (.ret,st):=QZ X M (n:=0) (by simp[ZG])
theorem ZkQ (n:Nat) (ops:List CO) (st:St) :
  QA X M (.region n none ops) st=ZiG st.m (st.nx+64*n) (Ze3 (Zd X M) M st.nx 0 ops st.sl st.hp):=by
 cases h:Ze3 (Zd X M) M st.nx 0 ops st.sl st.hp with
 | some r=>
  obtain⟨k,hk⟩:=Zxq X M _ _ _ _ _ _ h;exact QZ X M (n:=k) (by simp only[ZG,hk,ZiG,Zg])
 | none=>
  refine XR fun k=>?_;simp only[ZG];cases hn:Ze3 (Qj X M k) M st.nx 0 ops st.sl st.hp with
  | none=>rfl
  | some r=>rw[Zuw (Ze7 X M k) _ _ _ _ _ _ hn] at h;cases h
theorem Zp9 (n:Nat) (ps:List (Nat×Nat)) (ops:List CO) (st:St) :
  QA X M (.region n (some ps) ops) st=ZiG st.m (st.nx+64*n) (ZkM ops ps (Us (Zd X M) (X5 M) st.nx 0 false ops st.sl st.hp)):=by
 cases h:Us (Zd X M) (X5 M) st.nx 0 false ops st.sl st.hp with
 | some r=>
  obtain⟨k,hk⟩:=ZvR X M _ _ _ _ _ _ _ h;cases hs:ZkM ops ps (some r) with
  | none=>
   refine XR fun k'=>?_;simp only[ZG];cases hn:Us (Qj X M k') (X5 M) st.nx 0 false ops st.sl st.hp with
   | none=>rfl
   | some r' =>
    have:=ZkO (Ze7 X M k') _ _ _ _ _ _ _ hn;rw[h] at this;cases this;rw[hs];rfl
  | some r'=>exact QZ X M (n:=k) (by simp only[ZG,hk,hs];rfl)
 | none=>
  refine XR fun k=>?_;simp only[ZG];cases hn:Us (Qj X M k) (X5 M) st.nx 0 false ops st.sl st.hp with
  | none=>rfl
  | some r=>rw[ZkO (Ze7 X M k) _ _ _ _ _ _ _ hn] at h;cases h
theorem W3 {c:ZM} {st:St} {r:Ex×St} (h:QA X M c st=some r):∃ n,∀ m,n≤m→ZG (Qj X M m) M m c st=some r:=by
 obtain⟨n,hn⟩:=ZgW h;exact⟨n,fun m hm=>(ZjM X M c st).le hn hm⟩
theorem ZzX (a b:ZM) (st:St):QA X M (.seq a b) st=andThen (QA X M a st) (QA X M b):=by
 cases ha:QA X M a st with
 | none=>
  refine XR fun n=>?_;cases h:ZG (Qj X M n) M n a st with
  | none=>simp[ZG,h,andThen]
  | some q=>rw[QZ X M h] at ha;cases ha
 | some q=>
  obtain⟨e,aa⟩:=q;obtain⟨n,hn⟩:=W3 X M ha;cases e with
  | normal=>
   simp only[andThen];cases hb:QA X M b aa with
   | none=>
    refine XR fun k=>?_;cases h:ZG (Qj X M k) M k (.seq a b) st with
    | none=>rfl
    | some q=>
     have h1:=(ZjM X M (.seq a b) st).le h (Kau k n);simp only[ZG,hn _ (Kar k n),andThen] at h1;rw[QZ X M h1] at hb;cases hb
   | some q=>
    obtain⟨m,hm⟩:=W3 X M hb;refine QZ X M (n:=max n m) ?_;simp only[ZG,hn _ (Kau n m),andThen,hm _ (Kar n m)]
  | exit id=>exact QZ X M (n:=n) (by simp only[ZG,hn _ (Kp n),andThen])
  | ret=>exact QZ X M (n:=n) (by simp only[ZG,hn _ (Kp n),andThen])
theorem Zxu (c:Opd) (a b:ZM) (st:St) :
  QA X M (.cond c a b) st=ZiW (evO st.sl c) (QA X M a st) (QA X M b st):=by
 unfold ZiW;split
 ·rename_i t h;cases t
  ·simp only[Ka,Km,QA,ZG,h,ZiW]
  ·simp only[Kl,QA,ZG,h,ZiW]
 ·rename_i h;refine XR fun n=>?_;simp only[ZG,ZiW]
theorem ZvS (id:Nat) (c:ZM) (st:St):QA X M (.block id c) st=ZgV id (QA X M c st):=by
 cases hc:QA X M c st with
 | none=>
  refine XR fun n=>?_;cases h:ZG (Qj X M n) M n c st with
  | none=>simp[ZG,h,ZgV]
  | some q=>rw[QZ X M h] at hc;cases hc
 | some q=>
  obtain⟨n,hn⟩:=W3 X M hc;cases hb:ZgV id (some q) with
  | none=>
   obtain⟨e,aa⟩:=q;cases e<;>simp[ZgV] at hb
   split at hb<;>cases hb
  | some r=>exact QZ X M (n:=n) (by simp only[ZG,hn _ (Kp n),hb])
theorem Zxv (K:List Nat) (c:ZM) (st:St):QA X M (.keep K c) st=Zp2 K (QA X M c st):=by
 cases hc:QA X M c st with
 | none=>
  refine XR fun n=>?_;cases h:ZG (Qj X M n) M n c st with
  | none=>simp[ZG,h,Zp2]
  | some q=>rw[QZ X M h] at hc;cases hc
 | some q=>
  obtain⟨n,hn⟩:=W3 X M hc;exact QZ X M (n:=n) (by simp only[ZG,hn _ (Kp n),Zp2])
theorem Zxw (fl:Bool) (id:Nat) (i:Opd) (j:Nat) (c:ZM) (st:St):QA X M (.link fl id i j c) st=bnd (Ze5 fl id i j st) fun st1=>Zp4 id st.nx (QA X M c st1):=by
 cases hl:Ze5 fl id i j st with
 | none=>
  refine XR fun n=>?_;simp only[ZG,hl];rfl
 | some st' =>
  rw[Zg];cases hc:QA X M c st' with
  | none=>
   refine XR fun n=>?_;cases h:ZG (Qj X M n) M n c st' with
   | none=>simp only[ZG,hl,Zg,h];rfl
   | some q=>rw[QZ X M h] at hc;cases hc
  | some q=>
   obtain⟨n,hn⟩:=W3 X M hc;exact QZ X M (n:=n) (by simp only[ZG,hl,Zg,hn _ (Kp n)];rfl)
theorem Zxx (c:ZM) (st:St):QA X M (.melt c) st=QA X M c (Zuu st):=by
 cases hc:QA X M c (Zuu st) with
 | none=>
  refine XR fun n=>?_;cases h:ZG (Qj X M n) M n c (Zuu st) with
  | none=>simp only[ZG,h]
  | some q=>rw[QZ X M h] at hc;cases hc
 | some q=>
  obtain⟨n,hn⟩:=W3 X M hc;exact QZ X M (n:=n) (by simp only[ZG,hn _ (Kp n)])
theorem Zxy (id:Nat) (c:ZM) (st:St):QA X M (.peek id c) st=bnd (ZvP c) fun ds=>bnd (Zmm id st) fun st1=>Zp6 st ds (QA X M c st1):=by
 cases h0:ZvP c with
 | none=>exact XR fun n=>by simp only[ZG,h0];rfl
 | some ds=>
  cases hl:Zmm id st with
  | none=>exact XR fun n=>by simp only[ZG,h0,hl];rfl
  | some st' =>
   rw[Zg,Zg];cases hc:QA X M c st' with
   | none=>
    refine XR fun n=>?_;cases h:ZG (Qj X M n) M n c st' with
    | none=>simp only[ZG,h0,hl,Zg,h];rfl
    | some q=>rw[QZ X M h] at hc;cases hc
   | some q=>
    obtain⟨n,hn⟩:=W3 X M hc;exact QZ X M (n:=n) (by simp only[ZG,h0,hl,Zg,hn _ (Kp n)];rfl)
noncomputable def ZgX (c:ZM) (K:List Nat) (st:St):Option (Ex×St):=lim fun n=>Jz (ZG (Qj X M n) M n c) K n st
theorem Zc0 (c:ZM) (K:List Nat) (st:St):ZzV fun n=>Jz (ZG (Qj X M n) M n c) K n st:=fun n r hr=>
 ZkP (fun _ _ h=>ZoV (Zmo X M n) (Nat.le_succ n) c _ _ h) K n (n+1) st r (Nat.le_succ n) hr
theorem Zxz (c:ZM) (st:St):QA X M (.loop c) st=ZgX X M c (ZaB st.sl) st:=by
 simp only[QA,ZgX,ZG]
theorem ZvT {c:ZM} {K:List Nat} {st aa : St} (h:QA X M c (Ut K st)=some (.normal,aa)) :
  ZgX X M c K st=ZgX X M c K aa:=by
 obtain⟨n,hn⟩:=W3 X M h;cases hl:ZgX X M c K aa with
 | none=>
  refine XR fun k=>?_;cases hk:Jz (ZG (Qj X M k) M k c) K k st with
  | none=>rfl
  | some q=>
   have h1:=(Zc0 X M c K st).le hk (show k≤max k n+1 by omega);simp only[Jz] at h1;rw[hn (max k n+1) o_] at h1;simp only[] at h1;have h2:=ZkP (fun _ _ h=>h) K (max k n) (max k n+1) aa q (Nat.le_succ _) h1;rw[show ZgX X M c K aa=some q from ZjL (Zc0 X M c K aa) h2] at hl;cases hl
 | some q=>
  obtain⟨m,hm⟩:=ZgW hl;refine ZjL (Zc0 X M c K st) (n:=max n m+1) ?_;simp only[Jz,hn (max n m+1) o_];exact ZkP (fun _ _ h=>ZoV (ZbU X M (show m≤max n m+1 by omega)) (show m≤max n m+1 by omega) c _ _ h) K m (max n m) aa q o_ hm
theorem Zqa {c:ZM} {K:List Nat} {st aa : St} {e:Ex} (he:e≠.normal) (h:QA X M c (Ut K st)=some (e,aa)) :
  ZgX X M c K st=some (e,aa):=by
 obtain⟨n,hn⟩:=W3 X M h;refine ZjL (Zc0 X M c K st) (n:=n+1) ?_;simp only[Jz,hn (n+1) o_];cases e with
 | normal=>exact absurd rfl he
 | exit id=>rfl
 | ret=>rfl
theorem ZBd {f:Nat} {as1:List AV} {h:List Zk} {fn:Zr} {r:AV×List Zk} (hx:X f=some (.text fn))
  (hl:as1.length≤fn.nt) (hr:Zdx h.length fn.res (QA X M fn.body { sl:=VN 0 as1,hp:=VR 0 h,nx:=h.length,m:=h.length })=some r) :
  Zd X M f as1 h=some r:=by
 cases hv:QA X M fn.body { sl:=VN 0 as1,hp:=VR 0 h,nx:=h.length,m:=h.length } with
 | none=>rw[hv] at hr;simp[Zdx] at hr
 | some q=>
  rw[hv] at hr;obtain⟨n,hn⟩:=W3 X M hv;refine ZjL (ZcZ X M f as1 h) (n:=n+1) ?_;simp only[Qj,hx,Zmn,Zp8,hl,Kl,hn n (Kp n)];exact hr
theorem Y9 {f:Nat} {as1:List AV} {h:List Zk} {p:List AV→List Zk→Option (AV×List Zk)} {r:AV×List Zk} (hx:X f=some (.prim p)) (hp:p as1 h=some r) :
  Zd X M f as1 h=some r:=
 ZjL (ZcZ X M f as1 h) (n:=1) (by simp only[Qj,hx,Zmn,hp])
end
section
variable (P:Program)
def V3 (nt:Nat):Code→Option ZM
 | .skip=>some .skip
 | .region _ ops draw=>bnd (QF (ZnG P nt ops.toList) ops.toList) fun os=>if draw then (if Zp1 ops os then some (.region ops.toList.length (some (JK ops os)) os) else some .stuck) else some (.region ops.toList.length none os)
 | .seq a b=>bnd (V3 nt a) fun a=>bnd (V3 nt b) fun b=>some (.seq a b)
 | .cond c a b=>bnd (ZW c) fun c=>bnd (V3 nt a) fun a=>bnd (V3 nt b) fun b=>some (.cond c a b)
 | .block id c=>bnd (V3 nt c) fun c=>some (.block id c)
 | .loop c=>bnd (V3 nt c) fun c=>some (.loop c)
 | .exit id=>some (.exit id)
 | .ret=>some .ret
 | _=>some .stuck
def Ze8:COp→COp
 | .buildT s _ xs=>.buildSl s xs
 | .asgT s _ x=>.assign (some s) x
 | .appT s b flat x y=>.append s b false flat x y
 | .makeT s b _ z l c=>.make s b z l c
 | c=>c
def Zmq:List CO→List CO
 | []=>[]
 | o :: r => { o with op:=Ze8 o.op } :: Zmq r
def Zqb:Option (List (Nat×Nat))→List CO→List CO
 | none,ops=>Zmq ops
 | some _,ops=>ops
def X6:ZM→ZM
 | .keep _ c=>X6 c
 | .seq a b=>.seq (X6 a) (X6 b)
 | .cond c a b=>.cond c (X6 a) (X6 b)
 | .block id c=>.block id (X6 c)
 | .loop c=>.loop (X6 c)
 | .region n d ops=>.region n d (Zqb d ops)
 | .link _ _ _ _ c=>X6 c
 | .melt c=>X6 c
 | .peek _ c=>X6 c
 | .skip=>.skip
 | .exit id=>.exit id
 | .ret=>.ret
 | .stuck=>.stuck
def ZjN (cf:Zr):Zr := { nt:=cf.nt,res:=cf.res,body:=X6 cf.body }
def cRes:ResultVar→Option ZpX
 | .tmp t=>some (.tmp t)
 | .cell a t=>bnd (Zem P t) fun g=>some (.cell a g (P.cellsOf t))
def ZxA (fn:Func):Option Zr:=bnd fn.body fun c=>bnd (V3 P fn.ntmps c) fun b=>bnd (QF (cRes P) fn.results.toList) fun rs=>some { nt:=fn.ntmps,res:=rs,body:=b }
end
end Go.Abs
