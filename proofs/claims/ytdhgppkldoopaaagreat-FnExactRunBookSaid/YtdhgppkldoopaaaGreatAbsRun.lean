/- Own text. -/
import Derived.Test.YtdhgppkldoopaaaGreatAbsOps
set_option linter.unusedVariables false
set_option linter.unusedSimpArgs false
namespace Go.Abs
open Go
inductive Ex where
 | normal
 | exit (id:Nat)
 | ret
def QP (lo hi:Nat):Hp→Bool
 | []=>true
 | (k,_) :: r=>decide (lo≤k)&&decide (k<hi)&&QP (k+1) hi r
def QW (gone:List Nat) (sl:Sl):Sl:=match gone with
 | []=>sl
 | _=>ZlB (kill gone) sl
def VL (gone:List Nat) (hp:Hp):Hp:=match gone with
 | []=>hp
 | _=>ZlB (Q8 gone) hp
def Zp (sl:Sl) (dst:Option Nat) (v:AV):Sl:=match dst with
 | some t=>ins sl t v
 | none=>sl
def Ze.on (e:Ze) (dst:Option Nat) (sl:Sl) (hp:Hp):Sl×Hp:=
 (Zp (QW e.gone sl) dst e.eff.val,e.eff.on (VL e.gone hp))
def Yk (base:Nat) (dst:Option Nat) (sl:Sl) (hp:Hp) (e:Option Ze):Option (Sl×Hp):=
 bnd e fun e=>if QP base (base+64) e.eff.adds then some (e.on dst sl hp) else none
def ZeS (want:Bool):AV→Option Bool
 | .d (.bool b)=>some (b==want)
 | .tup []=>some false
 | _=>none
def ZY (sl:Sl):Option (Nat×Bool)→Option Bool
 | none=>some true
 | some q=>ZeS q.2 (gs sl q.1)
inductive ZT where
 | skip
 | region (n:Nat) (draw:Option (List (Nat×Nat))) (ops:List CO)
 | seq (a b:ZT)
 | cond (c:Opd) (a b:ZT)
 | block (id:Nat) (c:ZT)
 | loop (c:ZT)
 | exit (id:Nat)
 | ret
 | keep (K:List Nat) (c:ZT)
 | stuck
 | link (fl:Bool) (id:Nat) (i:Opd) (j:Nat) (c:ZT)
 | melt (c:ZT)
inductive ZqO where
 | tmp (t:Nat)
 | cell (a:Nat) (g:Bool) (s:Nat)
structure Zq where
 nt:Nat
 res:List ZqO
 body:ZT
def ZqP (x:Option Opd):List Opd:=match x with
 | some y=>[y]
 | none=>[]
def ZE:COp→List Opd
 | .move x=>[x]
 | .assign _ x=>[x]
 | .pick c a b=>[c,a,b]
 | .alloc _ _=>[]
 | .box x=>[x]
 | .build _ ps=>ps.map fun q=>q.2.2
 | .buildSl _ xs=>xs
 | .load _ _ a=>[a]
 | .store _ _ a x=>[a,x]
 | .nilCheck x=>[x]
 | .bin _ _ x y=>[x,y]
 | .un _ x=>[x]
 | .eqA _ _ x y=>[x,y]
 | .convI _ x=>[x]
 | .convS x=>[x]
 | .fn _ cs=>cs
 | .make _ _ _ l c=>[l,c]
 | .slice _ x lo hi=>x :: (ZqP lo++ZqP hi)
 | .sliceS x lo hi=>x :: (ZqP lo++ZqP hi)
 | .slice0 x hi mx=>[x,hi,mx]
 | .shift _ x=>[x]
 | .part _ _ _ x=>[x]
 | .iaS _ x i=>[x,i]
 | .iaA _ _ x i=>[x,i]
 | .ixS x i=>[x,i]
 | .ixA _ _ _ x i=>[x,i]
 | .nth _ x=>[x]
 | .len x=>[x]
 | .lenS x=>[x]
 | .append _ _ _ _ x y=>[x,y]
 | .min x y=>[x,y]
 | .max x y=>[x,y]
 | .call f as=>f :: as
 | .slice3 _ x lo hi mx=>[x,lo,hi,mx]
 | .clear _ _ x=>[x]
 | .stuck=>[]
 | .buildT _ _ xs=>xs
 | .appT _ _ _ x y=>[x,y]
 | .asgT _ _ x=>[x]
 | .makeT _ _ _ _ l c=>[l,c]
def ZhA:COp→Bool
 | .store _ _ _ _=>true
 | _=>false
def isApp:COp→Bool
 | .append _ _ _ _ _ _=>true
 | _=>false
def ZpK (c:COp):Bool:=ZhA c || isApp c
def CO.starts (o:CO):Bool:=ZhA o.op || o.tl
def ZU (os:List CO) (i:Nat):Bool:=match os[i]? with
 | some o=>CO.starts o
 | none=>false
def ZaI:Opd→List Nat
 | .t n=>[n]
 | _=>[]
def ZpL:Option (Nat×Bool)→List Nat
 | some q=>[q.1]
 | none=>[]
def YA (o:CO):List Nat:=(ZE o.op).flatMap ZaI++ZpL o.guard
def QE:Option Nat→List Nat→Bool
 | some d,l=>!l.contains d
 | none,_=>true
def J1:Option Nat→Option Nat→Bool
 | some d,some e=>d != e
 | _,_=>true
def Xo (a b:CO):Bool:=QE a.dst (YA b)&&J1 a.dst b.dst&&QE b.dst (YA a)
def YD:Opd→Bool
 | .v a=>(Zx a).isEmpty&&!Zq6 a
 | _=>true
def ZsV (os:List CO) (j i:Nat):Bool:=match os[j]?,os[i]? with
 | some a,some b=>Xo a b
 | _,_=>false
def Wg:COp→Bool
 | .load _ _ _=>false
 | .store _ _ _ _=>false
 | .slice _ _ _ _=>false
 | .slice0 _ _ _=>false
 | .iaS _ _ _=>false
 | .len _=>false
 | .append _ _ _ _ _ _=>false
 | .buildSl _ _=>false
 | .buildT _ _ _=>false
 | .appT _ _ _ _ _=>false
 | .asgT _ _ _=>false
 | .makeT _ _ _ _ _ _=>false
 | .call _ _=>false
 | .slice3 _ _ _ _ _=>false
 | .clear _ _ _=>false
 | _=>true
def Jw:COp→Bool
 | .load _ _ _=>true
 | .slice _ _ _ _=>true
 | .slice0 _ _ _=>true
 | .iaS _ _ _=>true
 | .len _=>true
 | _=>false
def ZvH:COp→Bool
 | .clear _ _ _=>false
 | .store _ _ _ _=>false
 | .append _ _ _ _ _ _=>false
 | .buildSl _ _=>false
 | .buildT _ _ _=>false
 | .appT _ _ _ _ _=>false
 | .asgT _ _ _=>false
 | .makeT _ _ _ _ _ _=>false
 | .call _ _=>false
 | _=>true
def Uy (os:List CO) (k:Nat):Option Nat:=match os[k]? with
 | some o=>o.dst
 | none=>none
def ZsW (os:List CO) (k:Nat):List Nat:=match os[k]? with
 | some o=>YA o
 | none=>[]
def ZaJ (os:List CO) (k:Nat):Bool:=(List.range os.length).all fun q=>decide (q<k) || QE (Uy os q) (ZsW os k)
def YO:COp→Bool
 | .move _=>true
 | _=>false
def ZeT:COp→Bool
 | .append _ _ _ _ _ _=>true
 | .buildSl _ _=>true
 | _=>false
def Zag:COp→Bool
 | .call (.f _) _=>true
 | _=>false
def Zl1:COp→List Opd
 | .call _ as=>as
 | _=>[]
def ZvI:COp→Bool
 | .alloc _ _=>false
 | .box _=>false
 | .assign _ _=>false
 | .make _ _ _ _ _=>false
 | .fn _ _=>false
 | _=>true
def ZrD:COp→Bool
 | .buildSl _ _=>true
 | _=>false
def Zde:AV→Bool
 | .d _=>true
 | .nil=>true
 | .nilp=>true
 | .nili=>true
 | _=>false
def Vd:List AV→Bool
 | []=>true
 | c :: r=>Zde c&&Vd r
def ZnW:COp→Bool
 | .alloc _ cs=>Vd cs
 | _=>false
def ZpM (c:COp):Bool:=Jw c || ZrD c || (Wg c&&ZvI c) || ZnW c
def ZkZ:COp→Bool
 | .alloc _ cs=>Vd cs
 | .buildSl _ _=>true
 | .load _ _ _=>true
 | .nilCheck _=>true
 | .bin _ _ _ _=>true
 | .un _ _=>true
 | .convI _ _=>true
 | .shift _ _=>true
 | .iaS _ _ _=>true
 | .slice _ _ _ _=>true
 | .len _=>true
 | .sliceS _ _ _=>true
 | .lenS _=>true
 | _=>false
def ZAl:Option Nat→Bool
 | some _=>true
 | none=>false
def ZnL (os:List CO) (k:Nat):Bool:=ZAl (Uy os k)&&(List.range os.length).all fun q=>q==k || J1 (Uy os q) (Uy os k)
def Zk0 (os:List CO) (j i:Nat):Bool:=ZaJ os j&&ZaJ os i
def Zy3 (os:List CO) (j i:Nat) (a b:COp):Bool:=
 ZvH b || (ZpK b&&(Wg a || (!YO a&&Jw a&&Zk0 os j i))) || (YO a&&(ZeT b || ZnL os j)) || (!YO a&&Zag b&&ZpM a&&Zk0 os j i&&ZnL os j)
def Zy4 (os:List CO) (j i:Nat) (a b:COp):Bool:=(YO b&&ZnL os i) || (!YO b&&Zag a&&ZkZ b&&Zk0 os j i&&ZnL os i)
def ZsX (os:List CO) (j i:Nat):Bool:=match os[j]?,os[i]? with
 | some a,some b=>if ZU os j then !ZU os i&&Zy4 os j i a.op b.op else !ZU os i || Zy3 os j i a.op b.op
 | _,_=>false
def ZeU (os:List CO) (j i:Nat):Option (Nat×Nat):=match os[j]?,os[i]? with
 | some a,some b=>if ZU os j then (if YO b.op || Zag a.op then some (i,j) else none) else
   if ZU os i&&(if ZpK b.op then !(Wg a.op) else if YO a.op then !(ZeT b.op) else Zag b.op) then some (j,i) else none
 | _,_=>none
def optP:Option (Nat×Nat)→List (Nat×Nat)
 | some p=>[p]
 | none=>[]
def Zb4 (ops:Array Oper) (os:List CO):List (Nat×Nat):=
 (List.range ops.size).flatMap fun i=>(List.range i).flatMap fun j=>if Zjt ops 6 i j then [] else optP (ZeU os j i)
def ZpN (ops:Array Oper) (os:List CO):Bool:=
 (List.range ops.size).all (fun i=>(VI ops i).all fun e=>decide (e<i)) &&
 (List.range ops.size).all (fun i=>(List.range i).all fun j=>(VI ops i).contains j || ZsV os j i) &&
 (List.range ops.size).all (fun i=>(List.range i).all fun j=>Zjt ops 6 i j || ZsX os j i) &&
 os.all (fun o=>(ZE o.op).all YD)
def Zb5 (id:Nat):AV→Bool
 | .d _=>true
 | .pim _=>true
 | .nil=>true
 | .ptr k _=>k != id
 | .prow k _ _ _=>k != id
 | .own k=>k != id
 | .ownv k _ _=>k != id
 | .nilp=>true
 | .nili=>true
 | .tup []=>true
 | _=>false
def okC:AV→Bool
 | .d _=>true
 | .pim _=>true
 | .nil=>true
 | .ptr _ _=>true
 | .prow _ _ _ _=>true
 | .own _=>true
 | .ownv _ _ _=>true
 | .nilp=>true
 | .nili=>true
 | _=>false
def ZsY:List AV→Bool
 | []=>true
 | v :: r=>okC v&&ZsY r
def okV:AV→Bool
 | .agg cs=>ZsY cs
 | .tup []=>true
 | v=>okC v
def okL (sl:Sl):List Opd→Bool
 | []=>true
 | x :: r=>okV (evO sl x)&&okL sl r
def okD (sl:Sl):Option Nat→Bool
 | some t=>okV (gs sl t)
 | none=>true
def Ve:AV→Option Nat
 | .ptr k _=>some k
 | .prow k _ _ _=>some k
 | _=>none
def QL (sl:Sl) (id:Nat):List Opd→Bool
 | []=>true
 | x :: r=>Zb5 id (evO sl x)&&QL sl id r
def ZeV (sl:Sl) (a:COp):Option Nat→Bool
 | some id=>QL sl id (ZE a)
 | none=>false
def Zb6 (sl:Sl) (xs:List Opd):AV→Bool
 | .ptr k _=>QL sl k xs
 | .prow _ _ _ _=>false
 | _=>true
def ZgV (sl:Sl) (xs:List Opd):List Opd→Bool
 | []=>true
 | y :: r=>Zb6 sl xs (evO sl y)&&ZgV sl xs r
def Jx (sl:Sl) (a:COp):AV→Bool
 | .nil=>true
 | .tup []=>true
 | .own k=>QL sl k (ZE a)
 | .ownv k _ _=>QL sl k (ZE a)
 | _=>false
def seenSrc (sl:Sl) (a:COp):AV→Bool
 | .own k=>QL sl k (ZE a)
 | v=>okV v
def XN (sl:Sl) (xs:List Opd):List Nat→Bool
 | []=>true
 | k :: r=>QL sl k xs&&XN sl xs r
def Vz (sl:Sl) (a:COp):AV→AV→Bool
 | .prow _ _ _ _,.d _=>true
 | .prow _ _ _ _,v=>okV v&&XN sl (ZE a) (Zx v)
 | _,_=>true
def Ug (sl:Sl) (d:Option Nat):COp→COp→Bool
 | .move _,_=>okD sl d
 | a,.store _ _ x y=>ZeV sl a (Ve (evO sl x))&&Vz sl a (evO sl x) (evO sl y)
 | a,.append _ _ _ flat x y=>Jx sl a (evO sl x)&&(flat || seenSrc sl a (evO sl y))
 | a,.call _ as=>okL sl (ZE a)&&(okD sl d&&(okL sl as&&ZgV sl (ZE a) as))
 | _,_=>false
def Zk1 (os:List CO) (sl:Sl) (p:Nat×Nat):Bool:=match os[p.1]?,os[p.2]? with
 | some a,some b=>Ug sl a.dst a.op b.op
 | _,_=>false
def Ua (os:List CO) (sl:Sl):List (Nat×Nat)→Bool
 | []=>true
 | p :: r=>Zk1 os sl p&&Ua os sl r
def Yx (M:Zm):Zm:=fun f i=>i != 99&&M f i
section
variable (C:Orc) (M:Zm)
noncomputable def ZgW (nx:Nat):Nat→List CO→Sl→Hp→Option (Sl×Hp)
 | _,[],sl,hp=>some (sl,hp)
 | i,o :: rest,sl,hp=>bnd (ZY sl o.guard) fun b=>
   if b then bnd (Yk (nx+64*i) o.dst sl hp (vop C M sl hp (nx+64*i) o.op)) fun r=>ZgW nx (i+1) rest r.1 r.2
   else ZgW nx (i+1) rest (Zp sl o.dst (.tup [])) hp
def ZeW (c:Ze):List Nat→Hp→List Nat→List Nat→Option Ze
 | [],[],[],[]=>some c
 | _,_,_,_=>none
def Zb7 (e:Option Ze):Option Ze:=bnd e fun c=>ZeW c c.gone c.eff.sets c.eff.dels c.eff.frz
noncomputable def VN (nx i:Nat) (tail:Bool) (o:COp) (sl:Sl) (hp:Hp):Option Ze:=
 if tail then vop C M sl hp (nx+64*i) o else Zb7 (vop C M sl hp (nx+64*i) o)
noncomputable def JH (nx:Nat):Nat→Bool→List CO→Sl→Hp→Option (Sl×Hp)
 | _,_,[],sl,hp=>some (sl,hp)
 | i,t,o :: rest,sl,hp=>bnd (ZY sl o.guard) fun b=>
   if b then bnd (Yk (nx+64*i) o.dst sl hp (VN C M nx i (CO.starts o) o.op sl hp)) fun r=>JH nx (i+1) t rest r.1 r.2
   else JH nx (i+1) t rest (Zp sl o.dst (.tup [])) hp
def ZaK {α:Type}:List (Nat×α)→List Nat
 | []=>[]
 | (k,_) :: r=>k :: ZaK r
def only {α:Type} (K:List Nat):List (Nat×α)→List (Nat×α)
 | []=>[]
 | (k,v) :: r=>if K.contains k then (k,v) :: only K r else only K r
def Wh:Nat→List Zn→Hp
 | _,[]=>[]
 | k,o :: r=>Wh (k+1) r++[(k,o)]
def ZrE:Sl→List Nat
 | []=>[]
 | (_,v) :: r=>Zx v++ZrE r
def ZsZ:Option Zn→Bool
 | some _=>true
 | none=>false
def Zdf (hp:Hp) (ids:List Nat) (i:Nat):Bool:=ids.contains i&&ZsZ (lkp hp i)
def ZgX (hp:Hp) (ids:List Nat):List Nat→List Nat
 | []=>[]
 | i :: r=>if Zdf hp ids i then ZgX hp ids r else i :: ZgX hp ids r
def ZdP (hp:Hp) (ids:List Nat) (v:AV):AV:=ren (VH ids) (kill (ZgX hp ids (Zx v)) v)
def ZgY (hp:Hp) (ids:List Nat) (o:Zn):Zn:=Zkt (VH ids) (Q8 (ZgX hp ids (Ji o)) o)
def ZvJ:Option Zn→List Nat
 | some o=>Ji o
 | none=>[]
def WB (hp:Hp):List Nat→List Nat
 | []=>[]
 | id :: r=>ZvJ (lkp hp id)++WB hp r
def Uz (K:List Nat) (st:St):St:=
 let sl:=only K st.sl
 let ids:=QQ st.hp (XF st.hp) (ZrE sl++WB st.hp (List.range st.m)) (List.range st.m)
 { sl:=ZlB (ZdP st.hp ids) sl,hp:=Wh 0 ((Zc8 st.hp ids).map (ZgY st.hp ids)),nx:=ids.length,m:=st.m }
def JI (f:St→Option (Ex×St)) (K:List Nat):Nat→St→Option (Ex×St)
 | 0,_=>none
 | n+1,st=>match f (Uz K st) with
  | some (.normal,st')=>JI f K n st'
  | r=>r
def andThen (r:Option (Ex×St)) (k:St→Option (Ex×St)):Option (Ex×St):=match r with
 | some (.normal,st)=>k st
 | r=>r
def ZiQ (v:AV) (a b:Option (Ex×St)):Option (Ex×St):=match v with
 | .d (.bool t)=>if t then a else b
 | _=>none
def ZgZ (id:Nat) (r:Option (Ex×St)):Option (Ex×St):=match r with
 | some (.exit j,st)=>if j=id then some (.normal,st) else some (.exit j,st)
 | r=>r
def ZrF (ops:List CO) (ps:List (Nat×Nat)) (r:Option (Sl×Hp)):Option (Sl×Hp):=bnd r fun r=>if Ua ops r.1 ps then some r else none
def ZnM (m nx:Nat) (r:Option (Sl×Hp)):Option (Ex×St):=bnd r fun r=>some (.normal,{ sl:=r.1,hp:=r.2,nx:=nx,m:=m })
def ZpO (K:List Nat) (r:Option (Ex×St)):Option (Ex×St):=match r with
 | some q=>some (q.1,{ q.2 with sl:=only K q.2.sl })
 | none=>none
def Zwx (fl:Bool) (k:Nat) (ys:List D):Option Zn:=if fl then (if JA D.flat ys then some (.row k ys true false) else none) else some (.tree k k ys none)
def Zk2 (xs:List D) (n j:Nat) (y:D):Option (List D):=bnd xs[n]? fun x=>some (xs.set n (XM x j [y]))
def Zwy (fl:Bool) (nx n j:Nat):Option Zn→Option (Zn×Zn)
 | some (.tree s k xs none)=>bnd (Js xs n j) fun ys=>bnd (Zwx fl k ys) fun o=>bnd (Zk2 xs n j (.sl [])) fun xs'=>some (.tree s k xs' (some (some nx,n,j)),o)
 | _=>none
def ZeX (fl:Bool) (id:Nat) (i:Opd) (j:Nat) (st:St):Option St:=bnd (idx (evO st.sl i)) fun n=>if 0≤n then bnd (Zwy fl st.nx n.toNat j (lkp st.hp id)) fun q=>some { st with hp:=ins (ins st.hp id q.1) st.nx q.2,nx:=st.nx+64 } else none
def ZpP (k:Nat):Option Zn→Option (List D)
 | some (.row k' ys true false)=>if k'=k∧JA D.flat ys then some ys else none
 | some (.tree k' n ys none)=>if k'=k∧n=k then some ys else none
 | _=>none
def Zna (hp:Hp) (id nm:Nat):Option Zn→Option Hp
 | some (.tree s k xs (some (some nm',n,j)))=>if nm'=nm then bnd (ZpP k (lkp hp nm)) fun ys=>bnd (Zk2 xs n j (.sl ys)) fun xs'=>some (ins (del hp nm) id (.tree s k xs' none)) else none
 | _=>none
def ZxA (hp:Hp):Option Hp→Hp
 | some h=>h
 | none=>hp
def ZpQ (id nm:Nat) (r:Option (Ex×St)):Option (Ex×St):=match r with
 | some q=>some (q.1,{ q.2 with hp:=ZxA q.2.hp (Zna q.2.hp id nm (lkp q.2.hp id)) })
 | none=>none
def Zs0 (st:St):St := { st with hp:=ZlB ZkS st.hp }
noncomputable def ZK (N:Nat):ZT→St→Option (Ex×St)
 | .skip,st=>some (.normal,st)
 | .region n none ops,st=>ZnM st.m (st.nx+64*n) (ZgW C M st.nx 0 ops st.sl st.hp)
 | .region n (some ps) ops,st=>ZnM st.m (st.nx+64*n) (ZrF ops ps (JH C (Yx M) st.nx 0 false ops st.sl st.hp))
 | .seq a b,st=>andThen (ZK N a st) (ZK N b)
 | .cond c a b,st=>ZiQ (evO st.sl c) (ZK N a st) (ZK N b st)
 | .block id c,st=>ZgZ id (ZK N c st)
 | .loop c,st=>JI (ZK N c) (ZaK st.sl) N st
 | .exit id,st=>some (.exit id,st)
 | .ret,st=>some (.ret,st)
 | .keep K c,st=>ZpO K (ZK N c st)
 | .stuck,_=>none
 | .link fl id i j c,st=>bnd (ZeX fl id i j st) fun st1=>ZpQ id st.nx (ZK N c st1)
 | .melt c,st=>ZK N c (Zs0 st)
def ZpR (st:St):ZqO→Option AV
 | .tmp t=>some (gs st.sl t)
 | .cell a g s=>W2 st.hp g s (gs st.sl a)
def Wi (m:Nat) (hp:Hp) (v:AV):AV×List Zn:=
 let ids:=QQ hp (XF hp) (Zx v++WB hp (List.range m)) (List.range m)
 (ZdP hp ids v,(Zc8 hp ids).map (ZgY hp ids))
def Zwz:AV→Bool
 | .tup _=>true
 | _=>false
def Zjz:List AV→Bool
 | []=>false
 | v :: r=>Zwz v || Zjz r
def Zb8:List AV→AV
 | [v]=>v
 | vs=>if Zjz vs then .junk else .tup vs
def VM:Nat→List AV→Sl
 | _,[]=>[]
 | k,v :: r=>VM (k+1) r++[(k,v)]
def Zdg (m:Nat) (rs:List ZqO) (r:Option (Ex×St)):Option (AV×List Zn):=match r with
 | some (.normal,st)=>bnd (Qr (ZpR st) rs) fun vs=>some (Wi m st.hp (Zb8 vs))
 | some (.ret,st)=>bnd (Qr (ZpR st) rs) fun vs=>some (Wi m st.hp (Zb8 vs))
 | _=>none
noncomputable def ZpS (N:Nat) (fn:Zq) (as:List AV) (h:List Zn):Option (AV×List Zn):=
 if as.length≤fn.nt then Zdg h.length fn.res (ZK C M N fn.body { sl:=VM 0 as,hp:=Wh 0 h,nx:=h.length,m:=h.length }) else none
end
inductive Fn where
 | text (f:Zq)
 | prim (p:List AV→List Zn→Option (AV×List Zn))
abbrev Fns:=Nat→Option Fn
noncomputable def Zl2 (C:Orc) (M:Zm) (N:Nat) (as:List AV) (h:List Zn):Option Fn→Option (AV×List Zn)
 | some (.text f)=>ZpS C M N f as h
 | some (.prim p)=>p as h
 | none=>none
noncomputable def Qk (X:Fns) (M:Zm):Nat→Orc
 | 0,_,_,_=>none
 | n+1,f,as,h=>Zl2 (Qk X M n) M n as h (X f)
open Classical in
noncomputable def lim {α:Type} (x:Nat→Option α):Option α:=if h:∃ r,∃ n,x n=some r then some h.choose else none
def ZxB {α:Type} (x:Nat→Option α):Prop:=∀ n r,x n=some r→x (n+1)=some r
theorem ZxB.le {α:Type} {x:Nat→Option α} (h:ZxB x) {n m:Nat} {r:α} (hr:x n=some r) (aa:n≤m):x m=some r:=by
 induction aa with
 | refl=>exact hr
 | step _ ih=>exact h _ _ ih
theorem ZjA {α:Type} {x:Nat→Option α} (h:ZxB x) {n:Nat} {r:α} (hr:x n=some r):lim x=some r:=by
 have he:∃ r,∃ n,x n=some r:=⟨r,n,hr⟩
 unfold lim;rw[dif_pos he];obtain⟨m,hm⟩:=he.choose_spec;have h1:=h.le hm (Kal m n);have h2:=h.le hr (Kai m n);rw[h1] at h2;exact h2
theorem Zg0 {α:Type} {x:Nat→Option α} {r:α} (hr:lim x=some r):∃ n,x n=some r:=by
 unfold lim at hr;split at hr
 ·rename_i h;obtain⟨n,hn⟩:=h.choose_spec;exact⟨n,by rw[hn];exact hr⟩
 ·cases hr
def Orc.le (C C' : Orc):Prop:=∀ f as h r,C f as h=some r→C' f as h=some r
section
variable {M:Zm} {C C' : Orc}
theorem ZaL {α β:Type} {x x' : Option α} {f f' : α→Option β} {r:β} (hx:∀ a,x=some a→x'=some a) (hf:∀ a,f a=some r→f' a=some r) (h:bnd x f=some r):bnd x' f'=some r:=by
 obtain⟨a,h1,h2⟩:=Za h;rw[hx a h1];exact hf a h2
theorem Zy5 (h:C.le C') {m:Nat→Bool} {hp:Hp} {base f:Nat} {aa:List AV} {r:Ze}
  (hr:Zcu C m hp base f aa=some r):Zcu C' m hp base f aa=some r:=by
 unfold Zcu at hr ⊢;refine ZaL (fun _ h=>h) (fun as hr=>?_) hr;unfold ZeK at hr ⊢;by_cases hc:(as.flatMap Zx).all (QQ hp (XF hp) (as.flatMap Zx) []).contains∧¬(Yw aa as).any (QQ hp (XF hp) (as.flatMap Zx) []).contains∧Za2 hp (as.flatMap JG) (QQ hp (XF hp) (as.flatMap Zx) [])=true
 ·rw[Kl hc] at hr ⊢;exact ZaL (fun q hq=>h _ _ _ _ hq) (fun _ h=>h) hr
 ·rw[Kj hc] at hr;cases hr
theorem Zs1 (h:C.le C') {sl:Sl} {hp:Hp} {base:Nat} {o:COp} {r:Ze} (hr:vop C M sl hp base o=some r) :
  vop C' M sl hp base o=some r:=by
 cases o with
 | call f as=>
  simp only[vop] at hr ⊢;cases hg:evO sl f<;>simp only[hg,Zdb] at hr ⊢ <;> first | exact Zy5 h hr | exact hr
 | _=>exact hr
theorem Zs2 (h:C.le C') (nx:Nat):∀ (l:List CO) (i:Nat) (sl:Sl) (hp:Hp) (r:Sl×Hp),
  ZgW C M nx i l sl hp=some r→ZgW C' M nx i l sl hp=some r:=by
 intro l
 induction l with
 | nil=>intro i sl hp r hr;exact hr
 | cons o rest ih=>
  intro i sl hp r hr;simp only[ZgW] at hr ⊢;refine ZaL (fun _ h=>h) (fun b hr=>?_) hr;cases b
  ·simp only[Kc,Ko] at hr ⊢;exact ih _ _ _ _ hr
  ·simp only[Kn] at hr ⊢;refine ZaL (fun q hq=>?_) (fun q hq=>ih _ _ _ _ hq) hr;unfold Yk at hq ⊢;exact ZaL (fun e he=>Zs1 h he) (fun _ h=>h) hq
theorem ZwA (h:C.le C') {nx i:Nat} {t:Bool} {o:COp} {sl:Sl} {hp:Hp} {e:Ze} (he:VN C M nx i t o sl hp=some e) :
  VN C' M nx i t o sl hp=some e:=by
 unfold VN at he ⊢;cases t
 ·simp only[Kc,Ko,Zb7] at he ⊢;exact ZaL (fun _ hv=>Zs1 h hv) (fun _ h=>h) he
 ·simp only[Kn] at he ⊢;exact Zs1 h he
theorem Zk3 (h:C.le C') (nx:Nat):∀ (l:List CO) (i:Nat) (t:Bool) (sl:Sl) (hp:Hp) (r:Sl×Hp),
  JH C M nx i t l sl hp=some r→JH C' M nx i t l sl hp=some r:=by
 intro l
 induction l with
 | nil=>intro i t sl hp r hr;exact hr
 | cons o rest ih=>
  intro i t sl hp r hr;simp only[JH] at hr ⊢;refine ZaL (fun _ h=>h) (fun b hr=>?_) hr;cases b
  ·simp only[Kc,Ko] at hr ⊢;exact ih _ _ _ _ _ hr
  ·simp only[Kn] at hr ⊢;refine ZaL (fun q hq=>?_) (fun q hq=>ih _ _ _ _ _ hq) hr;unfold Yk at hq ⊢;exact ZaL (fun e he=>ZwA h he) (fun _ h=>h) hq
theorem Zk4 {f g:St→Option (Ex×St)} (h:∀ st r,f st=some r→g st=some r) (K:List Nat) :
  ∀ (n m:Nat) (st:St) (r:Ex×St),n≤m→JI f K n st=some r→JI g K m st=some r:=by
 intro n
 induction n with
 | zero=>intro m st r _ hr;simp[JI] at hr
 | succ n ih=>
  intro m st r hm hr;cases m with
  | zero=>omega
  | succ m=>
   simp only[JI] at hr ⊢;cases hf:f (Uz K st) with
   | none=>simp[hf] at hr
   | some q=>
    rw[hf] at hr;rw[h _ _ hf];obtain⟨e,aa⟩:=q;cases e with
    | normal=>exact ih m aa r (by omega) hr
    | exit id=>exact hr
    | ret=>exact hr
theorem ZnX (h:C.le C') {N N' : Nat} (hN:N≤N'):∀ (c:ZT) (st:St) (r:Ex×St),
  ZK C M N c st=some r→ZK C' M N' c st=some r:=by
 intro c
 induction c with
 | skip=>intro st r hr;simpa [ZK] using hr
 | region n draw ops=>
  intro st r hr;cases draw
  ·simp only[ZK,ZnM] at hr ⊢;exact ZaL (fun q hq=>Zs2 h _ _ _ _ _ _ hq) (fun _ h=>h) hr
  ·simp only[ZK,ZnM,ZrF] at hr ⊢;exact ZaL (fun q hq=>ZaL (fun q hq=>Zk3 h _ _ _ _ _ _ _ hq) (fun _ h=>h) hq) (fun _ h=>h) hr
 | seq a b iha ihb=>
  intro st r hr;simp only[ZK] at hr ⊢;cases ha:ZK C M N a st with
  | none=>simp[ha,andThen] at hr
  | some q=>
   rw[ha] at hr;rw[iha _ _ ha];obtain⟨e,aa⟩:=q;cases e with
   | normal=>exact ihb _ _ hr
   | exit id=>exact hr
   | ret=>exact hr
 | cond c a b iha ihb=>
  intro st r hr;simp only[ZK,ZiQ] at hr ⊢;split at hr
  ·rename_i t ht;cases t
   ·simp only[Kc,Ko] at hr ⊢;exact ihb _ _ hr
   ·simp only[Kn] at hr ⊢;exact iha _ _ hr
  ·cases hr
 | block id c ih=>
  intro st r hr;simp only[ZK] at hr ⊢;cases hc:ZK C M N c st with
  | none=>simp[hc,ZgZ] at hr
  | some q=>rw[hc] at hr;rw[ih _ _ hc];exact hr
 | loop c ih=>
  intro st r hr;simp only[ZK] at hr ⊢;exact Zk4 ih _ _ _ _ _ hN hr
 | exit id=>intro st r hr;simpa [ZK] using hr
 | ret=>intro st r hr;simpa [ZK] using hr
 | keep K c ih=>
  intro st r hr;simp only[ZK] at hr ⊢;cases hc:ZK C M N c st with
  | none=>simp[hc,ZpO] at hr
  | some q=>rw[hc] at hr;rw[ih _ _ hc];exact hr
 | stuck=>intro st r hr;simp[ZK] at hr
 | link fl id i j c ih=>
  intro st r hr;simp only[ZK] at hr ⊢;obtain⟨aa,h1,h2⟩:=Za hr;rw[h1,Zg];cases hc:ZK C M N c aa with
  | none=>simp[hc,ZpQ] at h2
  | some q=>rw[hc] at h2;rw[ih _ _ hc];exact h2
 | melt c ih=>
  intro st r hr;simp only[ZK] at hr ⊢;exact ih _ r hr
theorem Zy6 (h:C.le C') {N N' : Nat} (hN:N≤N') {f:Zq} {as:List AV} {hh:List Zn} {r:AV×List Zn}
  (hr:ZpS C M N f as hh=some r):ZpS C' M N' f as hh=some r:=by
 unfold ZpS at hr ⊢;by_cases hl:as.length≤f.nt
 ·rw[Kl hl] at hr ⊢;cases hv:ZK C M N f.body { sl:=VM 0 as,hp:=Wh 0 hh,nx:=hh.length,m:=hh.length } with
  | none=>simp[hv,Zdg] at hr
  | some q=>rw[hv] at hr;rw[ZnX h hN _ _ _ hv];exact hr
 ·rw[Kj hl] at hr;cases hr
end
section
variable (X:Fns) (M:Zm)
theorem Zl3:∀ n,(Qk X M n).le (Qk X M (n+1)):=by
 intro n
 induction n with
 | zero=>intro f as h r hr;simp[Qk] at hr
 | succ n ih=>
  intro f as h r hr;rw[Qk] at hr ⊢;cases hf:X f with
  | none=>rw[hf] at hr;cases hr
  | some g=>
   rw[hf] at hr;cases g with
   | text g=>exact Zy6 ih (Nat.le_succ n) hr
   | prim p=>exact hr
noncomputable def Zf (f:Nat) (as:List AV) (h:List Zn):Option (AV×List Zn):=lim fun n=>Qk X M n f as h
noncomputable def QC (c:ZT) (st:St):Option (Ex×St):=lim fun n=>ZK (Qk X M n) M n c st
theorem Zcz (f:Nat) (as:List AV) (h:List Zn):ZxB fun n=>Qk X M n f as h:=fun n r hr=>Zl3 X M n f as h r hr
theorem ZeY (n:Nat):(Qk X M n).le (Zf X M):=fun f as h _ hr=>ZjA (Zcz X M f as h) hr
theorem ZjB (c:ZT) (st:St):ZxB fun n=>ZK (Qk X M n) M n c st:=fun n r hr=>ZnX (Zl3 X M n) (Nat.le_succ n) c st r hr
theorem Zb9 {n m:Nat} (h:n≤m):(Qk X M n).le (Qk X M m):=fun f as hh _ hr=>(Zcz X M f as hh).le hr h
theorem Zux {m:Nat→Bool} {hp:Hp} {base f:Nat} {aa:List AV} {r:Ze}
  (hr:Zcu (Zf X M) m hp base f aa=some r):∃ n,Zcu (Qk X M n) m hp base f aa=some r:=by
 unfold Zcu at hr ⊢;obtain⟨as,ab,hr⟩:=Za hr;simp only[ab,Zg];unfold ZeK at hr ⊢;by_cases hc:(as.flatMap Zx).all (QQ hp (XF hp) (as.flatMap Zx) []).contains∧¬(Yw aa as).any (QQ hp (XF hp) (as.flatMap Zx) []).contains∧Za2 hp (as.flatMap JG) (QQ hp (XF hp) (as.flatMap Zx) [])=true
 ·rw[Kl hc] at hr;obtain⟨q,hq,hr⟩:=Za hr;obtain⟨n,hn⟩:=Zg0 hq;refine⟨n,?_⟩;rw[Kl hc,hn];exact hr
 ·rw[Kj hc] at hr;cases hr
theorem Zl4 {M' : Zm} {sl:Sl} {hp:Hp} {base:Nat} {o:COp} {r:Ze} (hr:vop (Zf X M) M' sl hp base o=some r) :
  ∃ n,vop (Qk X M n) M' sl hp base o=some r:=by
 cases o with
 | call f as=>
  simp only[vop] at hr ⊢;cases hg:evO sl f<;>simp only[hg,Zdb] at hr ⊢ <;> first | exact Zux X M hr | exact⟨0,hr⟩
 | _=>exact⟨0,hr⟩
theorem ZvK (nx:Nat):∀ (l:List CO) (i:Nat) (sl:Sl) (hp:Hp) (r:Sl×Hp),
  ZgW (Zf X M) M nx i l sl hp=some r→∃ n,ZgW (Qk X M n) M nx i l sl hp=some r:=by
 intro l
 induction l with
 | nil=>intro i sl hp r hr;exact⟨0,hr⟩
 | cons o rest ih=>
  intro i sl hp r hr;simp only[ZgW] at hr ⊢;obtain⟨b,hb,hr⟩:=Za hr;simp only[hb,Zg];cases b
  ·simp only[Kc,Ko] at hr ⊢;exact ih _ _ _ _ hr
  ·simp only[Kn] at hr ⊢;obtain⟨q,hq,hr⟩:=Za hr;unfold Yk at hq;obtain⟨e,he,hq⟩:=Za hq;obtain⟨n1,h1⟩:=Zl4 X M he;obtain⟨n2,h2⟩:=ih _ _ _ _ hr;refine⟨max n1 n2,?_⟩;unfold Yk;rw[Zs1 (Zb9 X M (Kal n1 n2)) h1,Zg,hq,Zg];exact Zs2 (Zb9 X M (Kai n1 n2)) _ _ _ _ _ _ h2
theorem ZvL {M' : Zm} {nx i:Nat} {t:Bool} {o:COp} {sl:Sl} {hp:Hp} {e:Ze} (he:VN (Zf X M) M' nx i t o sl hp=some e) :
  ∃ n,VN (Qk X M n) M' nx i t o sl hp=some e:=by
 unfold VN at he ⊢;cases t
 ·simp only[Kc,Ko,Zb7] at he ⊢;obtain⟨e',aa,h2⟩:=Za he;obtain⟨n,hn⟩:=Zl4 X M aa;exact⟨n,by rw[hn];exact h2⟩
 ·simp only[Kn] at he ⊢;exact Zl4 X M he
theorem Zuy {M' : Zm} (nx:Nat):∀ (l:List CO) (i:Nat) (t:Bool) (sl:Sl) (hp:Hp) (r:Sl×Hp),
  JH (Zf X M) M' nx i t l sl hp=some r→∃ n,JH (Qk X M n) M' nx i t l sl hp=some r:=by
 intro l
 induction l with
 | nil=>intro i t sl hp r hr;exact⟨0,hr⟩
 | cons o rest ih=>
  intro i t sl hp r hr;simp only[JH] at hr ⊢;obtain⟨b,hb,hr⟩:=Za hr;simp only[hb,Zg];cases b
  ·simp only[Kc,Ko] at hr ⊢;exact ih _ _ _ _ _ hr
  ·simp only[Kn] at hr ⊢;obtain⟨q,hq,hr⟩:=Za hr;unfold Yk at hq;obtain⟨e,he,hq⟩:=Za hq;obtain⟨n1,h1⟩:=ZvL X M he;obtain⟨n2,h2⟩:=ih _ _ _ _ _ hr;refine⟨max n1 n2,?_⟩;unfold Yk;rw[ZwA (Zb9 X M (Kal n1 n2)) h1,Zg,hq,Zg];exact Zk3 (Zb9 X M (Kai n1 n2)) _ _ _ _ _ _ _ h2
theorem Q9 {c:ZT} {st:St} {n:Nat} {r:Ex×St} (h:ZK (Qk X M n) M n c st=some r):QC X M c st=some r:=
 ZjA (ZjB X M c st) h
theorem YP {α:Type} {x:Nat→Option α} (h:∀ n,x n=none):lim x=none:=by
 cases hx:lim x with
 | none=>rfl
 | some r=>obtain⟨n,hn⟩:=Zg0 hx;rw[h n] at hn;cases hn
theorem ZvM (st:St):QC X M .skip st=some (.normal,st):=Q9 X M (n:=0) (by simp[ZK])
theorem ZvN (id:Nat) (st:St):QC X M (.exit id) st=some (.exit id,st):=Q9 X M (n:=0) (by simp[ZK])
theorem ZxC (st:St):QC X M .ret st=some (.ret,st):=Q9 X M (n:=0) (by simp[ZK])
theorem Zs3 (n:Nat) (ops:List CO) (st:St) :
  QC X M (.region n none ops) st=ZnM st.m (st.nx+64*n) (ZgW (Zf X M) M st.nx 0 ops st.sl st.hp):=by
 cases h:ZgW (Zf X M) M st.nx 0 ops st.sl st.hp with
 | some r=>
  obtain⟨k,hk⟩:=ZvK X M _ _ _ _ _ _ h;exact Q9 X M (n:=k) (by simp only[ZK,hk,ZnM,Zg])
 | none=>
  refine YP fun k=>?_;simp only[ZK];cases hn:ZgW (Qk X M k) M st.nx 0 ops st.sl st.hp with
  | none=>rfl
  | some r=>rw[Zs2 (ZeY X M k) _ _ _ _ _ _ hn] at h;cases h
theorem ZvO (n:Nat) (ps:List (Nat×Nat)) (ops:List CO) (st:St) :
  QC X M (.region n (some ps) ops) st=ZnM st.m (st.nx+64*n) (ZrF ops ps (JH (Zf X M) (Yx M) st.nx 0 false ops st.sl st.hp)):=by
 cases h:JH (Zf X M) (Yx M) st.nx 0 false ops st.sl st.hp with
 | some r=>
  obtain⟨k,hk⟩:=Zuy X M _ _ _ _ _ _ _ h;cases hs:ZrF ops ps (some r) with
  | none=>
   refine YP fun k'=>?_;simp only[ZK];cases hn:JH (Qk X M k') (Yx M) st.nx 0 false ops st.sl st.hp with
   | none=>rfl
   | some r' =>
    have:=Zk3 (ZeY X M k') _ _ _ _ _ _ _ hn;rw[h] at this;cases this;rw[hs];rfl
  | some r'=>exact Q9 X M (n:=k) (by simp only[ZK,hk,hs];rfl)
 | none=>
  refine YP fun k=>?_;simp only[ZK];cases hn:JH (Qk X M k) (Yx M) st.nx 0 false ops st.sl st.hp with
  | none=>rfl
  | some r=>rw[Zk3 (ZeY X M k) _ _ _ _ _ _ _ hn] at h;cases h
theorem Jy {c:ZT} {st:St} {r:Ex×St} (h:QC X M c st=some r):∃ n,∀ m,n≤m→ZK (Qk X M m) M m c st=some r:=by
 obtain⟨n,hn⟩:=Zg0 h;exact⟨n,fun m hm=>(ZjB X M c st).le hn hm⟩
theorem ZxD (a b:ZT) (st:St):QC X M (.seq a b) st=andThen (QC X M a st) (QC X M b):=by
 cases ha:QC X M a st with
 | none=>
  refine YP fun n=>?_;cases h:ZK (Qk X M n) M n a st with
  | none=>simp[ZK,h,andThen]
  | some q=>rw[Q9 X M h] at ha;cases ha
 | some q=>
  obtain⟨e,aa⟩:=q;obtain⟨n,hn⟩:=Jy X M ha;cases e with
  | normal=>
   simp only[andThen];cases hb:QC X M b aa with
   | none=>
    refine YP fun k=>?_;cases h:ZK (Qk X M k) M k (.seq a b) st with
    | none=>rfl
    | some q=>
     have h1:=(ZjB X M (.seq a b) st).le h (Kal k n);simp only[ZK,hn _ (Kai k n),andThen] at h1;rw[Q9 X M h1] at hb;cases hb
   | some q=>
    obtain⟨m,hm⟩:=Jy X M hb;refine Q9 X M (n:=max n m) ?_;simp only[ZK,hn _ (Kal n m),andThen,hm _ (Kai n m)]
  | exit id=>exact Q9 X M (n:=n) (by simp only[ZK,hn _ (Kk n),andThen])
  | ret=>exact Q9 X M (n:=n) (by simp only[ZK,hn _ (Kk n),andThen])
theorem ZvP (c:Opd) (a b:ZT) (st:St) :
  QC X M (.cond c a b) st=ZiQ (evO st.sl c) (QC X M a st) (QC X M b st):=by
 unfold ZiQ;split
 ·rename_i t h;cases t
  ·simp only[Kc,Ko,QC,ZK,h,ZiQ]
  ·simp only[Kn,QC,ZK,h,ZiQ]
 ·rename_i h;refine YP fun n=>?_;simp only[ZK,ZiQ]
theorem Zuz (id:Nat) (c:ZT) (st:St):QC X M (.block id c) st=ZgZ id (QC X M c st):=by
 cases hc:QC X M c st with
 | none=>
  refine YP fun n=>?_;cases h:ZK (Qk X M n) M n c st with
  | none=>simp[ZK,h,ZgZ]
  | some q=>rw[Q9 X M h] at hc;cases hc
 | some q=>
  obtain⟨n,hn⟩:=Jy X M hc;cases hb:ZgZ id (some q) with
  | none=>
   obtain⟨e,aa⟩:=q;cases e<;>simp[ZgZ] at hb
   split at hb<;>cases hb
  | some r=>exact Q9 X M (n:=n) (by simp only[ZK,hn _ (Kk n),hb])
theorem ZvQ (K:List Nat) (c:ZT) (st:St):QC X M (.keep K c) st=ZpO K (QC X M c st):=by
 cases hc:QC X M c st with
 | none=>
  refine YP fun n=>?_;cases h:ZK (Qk X M n) M n c st with
  | none=>simp[ZK,h,ZpO]
  | some q=>rw[Q9 X M h] at hc;cases hc
 | some q=>
  obtain⟨n,hn⟩:=Jy X M hc;exact Q9 X M (n:=n) (by simp only[ZK,hn _ (Kk n),ZpO])
theorem ZvR (fl:Bool) (id:Nat) (i:Opd) (j:Nat) (c:ZT) (st:St):QC X M (.link fl id i j c) st=bnd (ZeX fl id i j st) fun st1=>ZpQ id st.nx (QC X M c st1):=by
 cases hl:ZeX fl id i j st with
 | none=>
  refine YP fun n=>?_;simp only[ZK,hl];rfl
 | some st' =>
  rw[Zg];cases hc:QC X M c st' with
  | none=>
   refine YP fun n=>?_;cases h:ZK (Qk X M n) M n c st' with
   | none=>simp only[ZK,hl,Zg,h];rfl
   | some q=>rw[Q9 X M h] at hc;cases hc
  | some q=>
   obtain⟨n,hn⟩:=Jy X M hc;exact Q9 X M (n:=n) (by simp only[ZK,hl,Zg,hn _ (Kk n)];rfl)
theorem ZvS (c:ZT) (st:St):QC X M (.melt c) st=QC X M c (Zs0 st):=by
 cases hc:QC X M c (Zs0 st) with
 | none=>
  refine YP fun n=>?_;cases h:ZK (Qk X M n) M n c (Zs0 st) with
  | none=>simp only[ZK,h]
  | some q=>rw[Q9 X M h] at hc;cases hc
 | some q=>
  obtain⟨n,hn⟩:=Jy X M hc;exact Q9 X M (n:=n) (by simp only[ZK,hn _ (Kk n)])
noncomputable def Zg1 (c:ZT) (K:List Nat) (st:St):Option (Ex×St):=lim fun n=>JI (ZK (Qk X M n) M n c) K n st
theorem ZcA (c:ZT) (K:List Nat) (st:St):ZxB fun n=>JI (ZK (Qk X M n) M n c) K n st:=fun n r hr=>
 Zk4 (fun _ _ h=>ZnX (Zl3 X M n) (Nat.le_succ n) c _ _ h) K n (n+1) st r (Nat.le_succ n) hr
theorem ZvT (c:ZT) (st:St):QC X M (.loop c) st=Zg1 X M c (ZaK st.sl) st:=by
 simp only[QC,Zg1,ZK]
theorem ZuA {c:ZT} {K:List Nat} {st aa : St} (h:QC X M c (Uz K st)=some (.normal,aa)) :
  Zg1 X M c K st=Zg1 X M c K aa:=by
 obtain⟨n,hn⟩:=Jy X M h;cases hl:Zg1 X M c K aa with
 | none=>
  refine YP fun k=>?_;cases hk:JI (ZK (Qk X M k) M k c) K k st with
  | none=>rfl
  | some q=>
   have h1:=(ZcA X M c K st).le hk (show k≤max k n+1 by omega);simp only[JI] at h1;rw[hn (max k n+1) (by omega)] at h1;simp only[] at h1;have h2:=Zk4 (fun _ _ h=>h) K (max k n) (max k n+1) aa q (Nat.le_succ _) h1;rw[show Zg1 X M c K aa=some q from ZjA (ZcA X M c K aa) h2] at hl;cases hl
 | some q=>
  obtain⟨m,hm⟩:=Zg0 hl;refine ZjA (ZcA X M c K st) (n:=max n m+1) ?_;simp only[JI,hn (max n m+1) (by omega)];exact Zk4 (fun _ _ h=>ZnX (Zb9 X M (show m≤max n m+1 by omega)) (show m≤max n m+1 by omega) c _ _ h) K m (max n m) aa q (by omega) hm
theorem ZpT {c:ZT} {K:List Nat} {st aa : St} {e:Ex} (he:e≠.normal) (h:QC X M c (Uz K st)=some (e,aa)) :
  Zg1 X M c K st=some (e,aa):=by
 obtain⟨n,hn⟩:=Jy X M h;refine ZjA (ZcA X M c K st) (n:=n+1) ?_;simp only[JI,hn (n+1) (by omega)];cases e with
 | normal=>exact absurd rfl he
 | exit id=>rfl
 | ret=>rfl
theorem Zy7 {f:Nat} {as:List AV} {h:List Zn} {fn:Zq} {r:AV×List Zn} (hx:X f=some (.text fn))
  (hl:as.length≤fn.nt) (hr:Zdg h.length fn.res (QC X M fn.body { sl:=VM 0 as,hp:=Wh 0 h,nx:=h.length,m:=h.length })=some r) :
  Zf X M f as h=some r:=by
 cases hv:QC X M fn.body { sl:=VM 0 as,hp:=Wh 0 h,nx:=h.length,m:=h.length } with
 | none=>rw[hv] at hr;simp[Zdg] at hr
 | some q=>
  rw[hv] at hr;obtain⟨n,hn⟩:=Jy X M hv;refine ZjA (Zcz X M f as h) (n:=n+1) ?_;simp only[Qk,hx,Zl2,ZpS,hl,Kn,hn n (Kk n)];exact hr
theorem ZpU {f:Nat} {as:List AV} {h:List Zn} {p:List AV→List Zn→Option (AV×List Zn)} {r:AV×List Zn} (hx:X f=some (.prim p)) (hp:p as h=some r) :
  Zf X M f as h=some r:=
 ZjA (Zcz X M f as h) (n:=1) (by simp only[Qk,hx,Zl2,hp])
end
section
variable (P:Program)
def WG (nt:Nat):Code→Option ZT
 | .skip=>some .skip
 | .region _ ops draw=>bnd (Qr (Zm8 P nt ops.toList) ops.toList) fun os=>if draw then (if ZpN ops os then some (.region ops.toList.length (some (Zb4 ops os)) os) else some .stuck) else some (.region ops.toList.length none os)
 | .seq a b=>bnd (WG nt a) fun a=>bnd (WG nt b) fun b=>some (.seq a b)
 | .cond c a b=>bnd (ZW c) fun c=>bnd (WG nt a) fun a=>bnd (WG nt b) fun b=>some (.cond c a b)
 | .block id c=>bnd (WG nt c) fun c=>some (.block id c)
 | .loop c=>bnd (WG nt c) fun c=>some (.loop c)
 | .exit id=>some (.exit id)
 | .ret=>some .ret
 | _=>some .stuck
def ZeZ:COp→COp
 | .buildT s _ xs=>.buildSl s xs
 | .asgT s _ x=>.assign (some s) x
 | .appT s b flat x y=>.append s b false flat x y
 | .makeT s b _ z l c=>.make s b z l c
 | c=>c
def Zl5:List CO→List CO
 | []=>[]
 | o :: r => { o with op:=ZeZ o.op } :: Zl5 r
def ZvU:Option (List (Nat×Nat))→List CO→List CO
 | none,ops=>Zl5 ops
 | some _,ops=>ops
def Yl:ZT→ZT
 | .keep _ c=>Yl c
 | .seq a b=>.seq (Yl a) (Yl b)
 | .cond c a b=>.cond c (Yl a) (Yl b)
 | .block id c=>.block id (Yl c)
 | .loop c=>.loop (Yl c)
 | .region n d ops=>.region n d (ZvU d ops)
 | .link _ _ _ _ c=>Yl c
 | .melt c=>Yl c
 | .skip=>.skip
 | .exit id=>.exit id
 | .ret=>.ret
 | .stuck=>.stuck
def Zl6 (cf:Zq):Zq := { nt:=cf.nt,res:=cf.res,body:=Yl cf.body }
def cRes:ResultVar→Option ZqO
 | .tmp t=>some (.tmp t)
 | .cell a t=>bnd (ZdI P t) fun g=>some (.cell a g (P.cellsOf t))
def cFun (fn:Func):Option Zq:=bnd fn.body fun c=>bnd (WG P fn.ntmps c) fun b=>bnd (Qr (cRes P) fn.results.toList) fun rs=>some { nt:=fn.ntmps,res:=rs,body:=b }
end
end Go.Abs
