/- Own text. -/
import Derived.Test.YtnachaiejoflhaaAbsOps
set_option linter.unusedVariables false
set_option linter.unusedSimpArgs false
namespace Go.Abs
open Go
inductive Ex where
 | normal
 | exit (id:Nat)
 | ret
def Qx (lo hi:Nat):Hp→Bool
 | []=>true
 | (k,_) :: r=>decide (lo≤k)&&decide (k<hi)&&Qx (k+1) hi r
def QA (gone:List Nat) (sl:Sl):Sl:=match gone with
 | []=>sl
 | _=>Zfl (kill gone) sl
def Yq (gone:List Nat) (hp:Hp):Hp:=match gone with
 | []=>hp
 | _=>Zfl (QH gone) hp
def Zl (sl:Sl) (dst:Option Nat) (v:AV):Sl:=match dst with
 | some t=>ins sl t v
 | none=>sl
def Zb.on (e:Zb) (dst:Option Nat) (sl:Sl) (hp:Hp):Sl×Hp:=
 (Zl (QA e.gone sl) dst e.eff.val,e.eff.on (Yq e.gone hp))
def Xq (base:Nat) (dst:Option Nat) (sl:Sl) (hp:Hp) (e:Option Zb):Option (Sl×Hp):=
 bnd e fun e=>if Qx base (base+64) e.eff.adds then some (e.on dst sl hp) else none
def Za7 (want:Bool):AV→Option Bool
 | .d (.bool b)=>some (b==want)
 | .tup []=>some false
 | _=>none
def ZM (sl:Sl):Option (Nat×Bool)→Option Bool
 | none=>some true
 | some q=>Za7 q.2 (gs sl q.1)
inductive ZI where
 | skip
 | region (n:Nat) (draw:Option (List (Nat×Nat))) (ops:List CO)
 | seq (a b:ZI)
 | cond (c:Opd) (a b:ZI)
 | block (id:Nat) (c:ZI)
 | loop (c:ZI)
 | exit (id:Nat)
 | ret
 | keep (K:List Nat) (c:ZI)
 | stuck
 | link (fl:Bool) (id:Nat) (i:Opd) (j:Nat) (c:ZI)
 | melt (c:ZI)
inductive Zjt where
 | tmp (t:Nat)
 | cell (a:Nat) (g:Bool) (s:Nat)
structure ZE where
 nt:Nat
 res:List Zjt
 body:ZI
def Znp (x:Option Opd):List Opd:=match x with
 | some y=>[y]
 | none=>[]
def Zv:COp→List Opd
 | .move x=>[x]
 | .assign _ x=>[x]
 | .pick c a b=>[c,a,b]
 | .alloc _ _=>[]
 | .box x=>[x]
 | .build _ ps=>ps.map fun q=>q.2.2
 | .buildSl _ xs=>xs
 | .load _ _ a=>[a]
 | .store _ _ a x=>[a,x]
 | .nilCheck x=>[x]
 | .bin _ _ x y=>[x,y]
 | .un _ x=>[x]
 | .eqA _ _ x y=>[x,y]
 | .convI _ x=>[x]
 | .convS x=>[x]
 | .fn _ cs=>cs
 | .make _ _ _ l c=>[l,c]
 | .slice _ x lo hi=>x :: (Znp lo++Znp hi)
 | .sliceS x lo hi=>x :: (Znp lo++Znp hi)
 | .slice0 x hi mx=>[x,hi,mx]
 | .shift _ x=>[x]
 | .part _ _ _ x=>[x]
 | .iaS _ x i=>[x,i]
 | .iaA _ _ x i=>[x,i]
 | .ixS x i=>[x,i]
 | .ixA _ _ _ x i=>[x,i]
 | .nth _ x=>[x]
 | .len x=>[x]
 | .lenS x=>[x]
 | .append _ _ _ _ x y=>[x,y]
 | .min x y=>[x,y]
 | .max x y=>[x,y]
 | .call f as=>f :: as
 | .slice3 _ x lo hi mx=>[x,lo,hi,mx]
 | .clear _ _ x=>[x]
 | .stuck=>[]
 | .buildT _ _ xs=>xs
 | .appT _ _ _ x y=>[x,y]
 | .asgT _ _ x=>[x]
 | .makeT _ _ _ _ l c=>[l,c]
def Zdc:COp→Bool
 | .store _ _ _ _=>true
 | _=>false
def isApp:COp→Bool
 | .append _ _ _ _ _ _=>true
 | _=>false
def Zih (c:COp):Bool:=Zdc c || isApp c
def CO.starts (o:CO):Bool:=Zdc o.op || o.tl
def ZK (os:List CO) (i:Nat):Bool:=match os[i]? with
 | some o=>CO.starts o
 | none=>false
def Up:Opd→List Nat
 | .t n=>[n]
 | _=>[]
def Zii:Option (Nat×Bool)→List Nat
 | some q=>[q.1]
 | none=>[]
def XA (o:CO):List Nat:=(Zv o.op).flatMap Up++Zii o.guard
def Qn:Option Nat→List Nat→Bool
 | some d,l=>!l.contains d
 | none,_=>true
def WP:Option Nat→Option Nat→Bool
 | some d,some e=>d != e
 | _,_=>true
def QN (a b:CO):Bool:=Qn a.dst (XA b)&&WP a.dst b.dst&&Qn b.dst (XA a)
def XC:Opd→Bool
 | .v a=>(Zo a).isEmpty&&!Zki a
 | _=>true
def ZlS (os:List CO) (j i:Nat):Bool:=match os[j]?,os[i]? with
 | some a,some b=>QN a b
 | _,_=>false
def YE:COp→Bool
 | .load _ _ _=>false
 | .store _ _ _ _=>false
 | .slice _ _ _ _=>false
 | .slice0 _ _ _=>false
 | .iaS _ _ _=>false
 | .len _=>false
 | .append _ _ _ _ _ _=>false
 | .buildSl _ _=>false
 | .buildT _ _ _=>false
 | .appT _ _ _ _ _=>false
 | .asgT _ _ _=>false
 | .makeT _ _ _ _ _ _=>false
 | .call _ _=>false
 | .slice3 _ _ _ _ _=>false
 | .clear _ _ _=>false
 | _=>true
def Wa:COp→Bool
 | .load _ _ _=>true
 | .slice _ _ _ _=>true
 | .slice0 _ _ _=>true
 | .iaS _ _ _=>true
 | .len _=>true
 | _=>false
def Zo0:COp→Bool
 | .clear _ _ _=>false
 | .store _ _ _ _=>false
 | .append _ _ _ _ _ _=>false
 | .buildSl _ _=>false
 | .buildT _ _ _=>false
 | .appT _ _ _ _ _=>false
 | .asgT _ _ _=>false
 | .makeT _ _ _ _ _ _=>false
 | .call _ _=>false
 | _=>true
def VL (os:List CO) (k:Nat):Option Nat:=match os[k]? with
 | some o=>o.dst
 | none=>none
def ZlT (os:List CO) (k:Nat):List Nat:=match os[k]? with
 | some o=>XA o
 | none=>[]
def Uq (os:List CO) (k:Nat):Bool:=(List.range os.length).all fun q=>decide (q<k) || Qn (VL os q) (ZlT os k)
def XD:COp→Bool
 | .move _=>true
 | _=>false
def Za8:COp→Bool
 | .append _ _ _ _ _ _=>true
 | .buildSl _ _=>true
 | _=>false
def W0:COp→Bool
 | .call (.f _) _=>true
 | _=>false
def ZfI:COp→List Opd
 | .call _ as=>as
 | _=>[]
def Zo1:COp→Bool
 | .alloc _ _=>false
 | .box _=>false
 | .assign _ _=>false
 | .make _ _ _ _ _=>false
 | .fn _ _=>false
 | _=>true
def ZkN:COp→Bool
 | .buildSl _ _=>true
 | _=>false
def J6:AV→Bool
 | .d _=>true
 | .nil=>true
 | .nilp=>true
 | .nili=>true
 | _=>false
def X0:List AV→Bool
 | []=>true
 | c :: r=>J6 c&&X0 r
def Zha:COp→Bool
 | .alloc _ cs=>X0 cs
 | _=>false
def Zij (c:COp):Bool:=Wa c || ZkN c || (YE c&&Zo1 c) || Zha c
def ZeV:COp→Bool
 | .alloc _ cs=>X0 cs
 | .buildSl _ _=>true
 | .load _ _ _=>true
 | .nilCheck _=>true
 | .bin _ _ _ _=>true
 | .un _ _=>true
 | .convI _ _=>true
 | .shift _ _=>true
 | .iaS _ _ _=>true
 | .slice _ _ _ _=>true
 | .len _=>true
 | .sliceS _ _ _=>true
 | .lenS _=>true
 | _=>false
def Ztv:Option Nat→Bool
 | some _=>true
 | none=>false
def ZgN (os:List CO) (k:Nat):Bool:=Ztv (VL os k)&&(List.range os.length).all fun q=>q==k || WP (VL os q) (VL os k)
def ZeW (os:List CO) (j i:Nat):Bool:=Uq os j&&Uq os i
def ZrZ (os:List CO) (j i:Nat) (a b:COp):Bool:=
 Zo0 b || (Zih b&&(YE a || (!XD a&&Wa a&&ZeW os j i))) || (XD a&&(Za8 b || ZgN os j)) || (!XD a&&W0 b&&Zij a&&ZeW os j i&&ZgN os j)
def Zr0 (os:List CO) (j i:Nat) (a b:COp):Bool:=(XD b&&ZgN os i) || (!XD b&&W0 a&&ZeV b&&ZeW os j i&&ZgN os i)
def ZlU (os:List CO) (j i:Nat):Bool:=match os[j]?,os[i]? with
 | some a,some b=>if ZK os j then !ZK os i&&Zr0 os j i a.op b.op else !ZK os i || ZrZ os j i a.op b.op
 | _,_=>false
def Za9 (os:List CO) (j i:Nat):Option (Nat×Nat):=match os[j]?,os[i]? with
 | some a,some b=>if ZK os j then (if XD b.op || W0 a.op then some (i,j) else none) else
   if ZK os i&&(if Zih b.op then !(YE a.op) else if XD a.op then !(Za8 b.op) else W0 b.op) then some (j,i) else none
 | _,_=>none
def optP:Option (Nat×Nat)→List (Nat×Nat)
 | some p=>[p]
 | none=>[]
def Jb (ops:Array Oper) (os:List CO):List (Nat×Nat):=
 (List.range ops.size).flatMap fun i=>(List.range i).flatMap fun j=>if Zd0 ops 6 i j then [] else optP (Za9 os j i)
def Zik (ops:Array Oper) (os:List CO):Bool:=
 (List.range ops.size).all (fun i=>(Ym ops i).all fun e=>decide (e<i)) &&
 (List.range ops.size).all (fun i=>(List.range i).all fun j=>(Ym ops i).contains j || ZlS os j i) &&
 (List.range ops.size).all (fun i=>(List.range i).all fun j=>Zd0 ops 6 i j || ZlU os j i) &&
 os.all (fun o=>(Zv o.op).all XC)
def Jc (id:Nat):AV→Bool
 | .d _=>true
 | .pim _=>true
 | .nil=>true
 | .ptr k _=>k != id
 | .prow k _ _ _=>k != id
 | .own k=>k != id
 | .ownv k _ _=>k != id
 | .nilp=>true
 | .nili=>true
 | .tup []=>true
 | _=>false
def okC:AV→Bool
 | .d _=>true
 | .pim _=>true
 | .nil=>true
 | .ptr _ _=>true
 | .prow _ _ _ _=>true
 | .own _=>true
 | .ownv _ _ _=>true
 | .nilp=>true
 | .nili=>true
 | _=>false
def ZlV:List AV→Bool
 | []=>true
 | v :: r=>okC v&&ZlV r
def okV:AV→Bool
 | .agg cs=>ZlV cs
 | .tup []=>true
 | v=>okC v
def okL (sl:Sl):List Opd→Bool
 | []=>true
 | x :: r=>okV (evO sl x)&&okL sl r
def okD (sl:Sl):Option Nat→Bool
 | some t=>okV (gs sl t)
 | none=>true
def X1:AV→Option Nat
 | .ptr k _=>some k
 | .prow k _ _ _=>some k
 | _=>none
def Qt (sl:Sl) (id:Nat):List Opd→Bool
 | []=>true
 | x :: r=>Jc id (evO sl x)&&Qt sl id r
def Zba (sl:Sl) (a:COp):Option Nat→Bool
 | some id=>Qt sl id (Zv a)
 | none=>false
def Jd (sl:Sl) (xs:List Opd):AV→Bool
 | .ptr k _=>Qt sl k xs
 | .prow _ _ _ _=>false
 | _=>true
def Zci (sl:Sl) (xs:List Opd):List Opd→Bool
 | []=>true
 | y :: r=>Jd sl xs (evO sl y)&&Zci sl xs r
def Wb (sl:Sl) (a:COp):AV→Bool
 | .nil=>true
 | .tup []=>true
 | .own k=>Qt sl k (Zv a)
 | .ownv k _ _=>Qt sl k (Zv a)
 | _=>false
def seenSrc (sl:Sl) (a:COp):AV→Bool
 | .own k=>Qt sl k (Zv a)
 | v=>okV v
def Q5 (sl:Sl) (xs:List Opd):List Nat→Bool
 | []=>true
 | k :: r=>Qt sl k xs&&Q5 sl xs r
def Yh (sl:Sl) (a:COp):AV→AV→Bool
 | .prow _ _ _ _,.d _=>true
 | .prow _ _ _ _,v=>okV v&&Q5 sl (Zv a) (Zo v)
 | _,_=>true
def VD (sl:Sl) (d:Option Nat):COp→COp→Bool
 | .move _,_=>okD sl d
 | a,.store _ _ x y=>Zba sl a (X1 (evO sl x))&&Yh sl a (evO sl x) (evO sl y)
 | a,.append _ _ _ flat x y=>Wb sl a (evO sl x)&&(flat || seenSrc sl a (evO sl y))
 | a,.call _ as=>okL sl (Zv a)&&(okD sl d&&(okL sl as&&Zci sl (Zv a) as))
 | _,_=>false
def ZeX (os:List CO) (sl:Sl) (p:Nat×Nat):Bool:=match os[p.1]?,os[p.2]? with
 | some a,some b=>VD sl a.dst a.op b.op
 | _,_=>false
def Vw (os:List CO) (sl:Sl):List (Nat×Nat)→Bool
 | []=>true
 | p :: r=>ZeX os sl p&&Vw os sl r
def Xx (M:Zj):Zj:=fun f i=>i != 99&&M f i
section
variable (C:Orc) (M:Zj)
noncomputable def Zcj (nx:Nat):Nat→List CO→Sl→Hp→Option (Sl×Hp)
 | _,[],sl,hp=>some (sl,hp)
 | i,o :: rest,sl,hp=>bnd (ZM sl o.guard) fun b=>
   if b then bnd (Xq (nx+64*i) o.dst sl hp (vop C M sl hp (nx+64*i) o.op)) fun r=>Zcj nx (i+1) rest r.1 r.2
   else Zcj nx (i+1) rest (Zl sl o.dst (.tup [])) hp
def Zbb (c:Zb):List Nat→Hp→List Nat→List Nat→Option Zb
 | [],[],[],[]=>some c
 | _,_,_,_=>none
def Je (e:Option Zb):Option Zb:=bnd e fun c=>Zbb c c.gone c.eff.sets c.eff.dels c.eff.frz
noncomputable def Yt (nx i:Nat) (tail:Bool) (o:COp) (sl:Sl) (hp:Hp):Option Zb:=
 if tail then vop C M sl hp (nx+64*i) o else Je (vop C M sl hp (nx+64*i) o)
noncomputable def WE (nx:Nat):Nat→Bool→List CO→Sl→Hp→Option (Sl×Hp)
 | _,_,[],sl,hp=>some (sl,hp)
 | i,t,o :: rest,sl,hp=>bnd (ZM sl o.guard) fun b=>
   if b then bnd (Xq (nx+64*i) o.dst sl hp (Yt C M nx i (CO.starts o) o.op sl hp)) fun r=>WE nx (i+1) t rest r.1 r.2
   else WE nx (i+1) t rest (Zl sl o.dst (.tup [])) hp
def Ur {α:Type}:List (Nat×α)→List Nat
 | []=>[]
 | (k,_) :: r=>k :: Ur r
def only {α:Type} (K:List Nat):List (Nat×α)→List (Nat×α)
 | []=>[]
 | (k,v) :: r=>if K.contains k then (k,v) :: only K r else only K r
def YF:Nat→List Zk→Hp
 | _,[]=>[]
 | k,o :: r=>YF (k+1) r++[(k,o)]
def ZkO:Sl→List Nat
 | []=>[]
 | (_,v) :: r=>Zo v++ZkO r
def ZlW:Option Zk→Bool
 | some _=>true
 | none=>false
def J7 (hp:Hp) (ids:List Nat) (i:Nat):Bool:=ids.contains i&&ZlW (lkp hp i)
def Zck (hp:Hp) (ids:List Nat):List Nat→List Nat
 | []=>[]
 | i :: r=>if J7 hp ids i then Zck hp ids r else i :: Zck hp ids r
def ZaD (hp:Hp) (ids:List Nat) (v:AV):AV:=ren (Yl ids) (kill (Zck hp ids (Zo v)) v)
def Zcl (hp:Hp) (ids:List Nat) (o:Zk):Zk:=Zeq (Yl ids) (QH (Zck hp ids (VX o)) o)
def Zo2:Option Zk→List Nat
 | some o=>VX o
 | none=>[]
def YV (hp:Hp):List Nat→List Nat
 | []=>[]
 | id :: r=>Zo2 (lkp hp id)++YV hp r
def VM (K:List Nat) (st:St):St:=
 let sl:=only K st.sl
 let ids:=Qy st.hp (QZ st.hp) (ZkO sl++YV st.hp (List.range st.m)) (List.range st.m)
 { sl:=Zfl (ZaD st.hp ids) sl,hp:=YF 0 ((J1 st.hp ids).map (Zcl st.hp ids)),nx:=ids.length,m:=st.m }
def WF (f:St→Option (Ex×St)) (K:List Nat):Nat→St→Option (Ex×St)
 | 0,_=>none
 | n+1,st=>match f (VM K st) with
  | some (.normal,st')=>WF f K n st'
  | r=>r
def andThen (r:Option (Ex×St)) (k:St→Option (Ex×St)):Option (Ex×St):=match r with
 | some (.normal,st)=>k st
 | r=>r
def ZdF (v:AV) (a b:Option (Ex×St)):Option (Ex×St):=match v with
 | .d (.bool t)=>if t then a else b
 | _=>none
def Zcm (id:Nat) (r:Option (Ex×St)):Option (Ex×St):=match r with
 | some (.exit j,st)=>if j=id then some (.normal,st) else some (.exit j,st)
 | r=>r
def ZkP (ops:List CO) (ps:List (Nat×Nat)) (r:Option (Sl×Hp)):Option (Sl×Hp):=bnd r fun r=>if Vw ops r.1 ps then some r else none
def ZgO (m nx:Nat) (r:Option (Sl×Hp)):Option (Ex×St):=bnd r fun r=>some (.normal,{ sl:=r.1,hp:=r.2,nx:=nx,m:=m })
def Zil (K:List Nat) (r:Option (Ex×St)):Option (Ex×St):=match r with
 | some q=>some (q.1,{ q.2 with sl:=only K q.2.sl })
 | none=>none
def ZpY (fl:Bool) (k:Nat) (ys:List D):Option Zk:=if fl then (if Wy D.flat ys then some (.row k ys true false) else none) else some (.tree k k ys none)
def ZeY (xs:List D) (n j:Nat) (y:D):Option (List D):=bnd xs[n]? fun x=>some (xs.set n (Xf x j [y]))
def ZpZ (fl:Bool) (nx n j:Nat):Option Zk→Option (Zk×Zk)
 | some (.tree s k xs none)=>bnd (V8 xs n j) fun ys=>bnd (ZpY fl k ys) fun o=>bnd (ZeY xs n j (.sl [])) fun xs'=>some (.tree s k xs' (some (some nx,n,j)),o)
 | _=>none
def Zbc (fl:Bool) (id:Nat) (i:Opd) (j:Nat) (st:St):Option St:=bnd (idx (evO st.sl i)) fun n=>if 0≤n then bnd (ZpZ fl st.nx n.toNat j (lkp st.hp id)) fun q=>some { st with hp:=ins (ins st.hp id q.1) st.nx q.2,nx:=st.nx+64 } else none
def Zim (k:Nat):Option Zk→Option (List D)
 | some (.row k' ys true false)=>if k'=k∧Wy D.flat ys then some ys else none
 | some (.tree k' n ys none)=>if k'=k∧n=k then some ys else none
 | _=>none
def ZgB (hp:Hp) (id nm:Nat):Option Zk→Option Hp
 | some (.tree s k xs (some (some nm',n,j)))=>if nm'=nm then bnd (Zim k (lkp hp nm)) fun ys=>bnd (ZeY xs n j (.sl ys)) fun xs'=>some (ins (del hp nm) id (.tree s k xs' none)) else none
 | _=>none
def Zq1 (hp:Hp):Option Hp→Hp
 | some h=>h
 | none=>hp
def Zin (id nm:Nat) (r:Option (Ex×St)):Option (Ex×St):=match r with
 | some q=>some (q.1,{ q.2 with hp:=Zq1 q.2.hp (ZgB q.2.hp id nm (lkp q.2.hp id)) })
 | none=>none
def ZlX (st:St):St := { st with hp:=Zfl ZeN st.hp }
noncomputable def Zy (N:Nat):ZI→St→Option (Ex×St)
 | .skip,st=>some (.normal,st)
 | .region n none ops,st=>ZgO st.m (st.nx+64*n) (Zcj C M st.nx 0 ops st.sl st.hp)
 | .region n (some ps) ops,st=>ZgO st.m (st.nx+64*n) (ZkP ops ps (WE C (Xx M) st.nx 0 false ops st.sl st.hp))
 | .seq a b,st=>andThen (Zy N a st) (Zy N b)
 | .cond c a b,st=>ZdF (evO st.sl c) (Zy N a st) (Zy N b st)
 | .block id c,st=>Zcm id (Zy N c st)
 | .loop c,st=>WF (Zy N c) (Ur st.sl) N st
 | .exit id,st=>some (.exit id,st)
 | .ret,st=>some (.ret,st)
 | .keep K c,st=>Zil K (Zy N c st)
 | .stuck,_=>none
 | .link fl id i j c,st=>bnd (Zbc fl id i j st) fun st1=>Zin id st.nx (Zy N c st1)
 | .melt c,st=>Zy N c (ZlX st)
def Zio (st:St):Zjt→Option AV
 | .tmp t=>some (gs st.sl t)
 | .cell a g s=>Vc st.hp g s (gs st.sl a)
def YG (m:Nat) (hp:Hp) (v:AV):AV×List Zk:=
 let ids:=Qy hp (QZ hp) (Zo v++YV hp (List.range m)) (List.range m)
 (ZaD hp ids v,(J1 hp ids).map (Zcl hp ids))
def Zp0:AV→Bool
 | .tup _=>true
 | _=>false
def Zd5:List AV→Bool
 | []=>false
 | v :: r=>Zp0 v || Zd5 r
def Jf:List AV→AV
 | [v]=>v
 | vs=>if Zd5 vs then .junk else .tup vs
def Yr:Nat→List AV→Sl
 | _,[]=>[]
 | k,v :: r=>Yr (k+1) r++[(k,v)]
def J8 (m:Nat) (rs:List Zjt) (r:Option (Ex×St)):Option (AV×List Zk):=match r with
 | some (.normal,st)=>bnd (Qa (Zio st) rs) fun vs=>some (YG m st.hp (Jf vs))
 | some (.ret,st)=>bnd (Qa (Zio st) rs) fun vs=>some (YG m st.hp (Jf vs))
 | _=>none
noncomputable def Zip (N:Nat) (fn:ZE) (as:List AV) (h:List Zk):Option (AV×List Zk):=
 if as.length≤fn.nt then J8 h.length fn.res (Zy C M N fn.body { sl:=Yr 0 as,hp:=YF 0 h,nx:=h.length,m:=h.length }) else none
end
inductive Fn where
 | text (f:ZE)
 | prim (p:List AV→List Zk→Option (AV×List Zk))
abbrev Fns:=Nat→Option Fn
noncomputable def ZfJ (C:Orc) (M:Zj) (N:Nat) (as:List AV) (h:List Zk):Option Fn→Option (AV×List Zk)
 | some (.text f)=>Zip C M N f as h
 | some (.prim p)=>p as h
 | none=>none
noncomputable def Z4 (X:Fns) (M:Zj):Nat→Orc
 | 0,_,_,_=>none
 | n+1,f,as,h=>ZfJ (Z4 X M n) M n as h (X f)
open Classical in
noncomputable def lim {α:Type} (x:Nat→Option α):Option α:=if h:∃ r,∃ n,x n=some r then some h.choose else none
def Zq2 {α:Type} (x:Nat→Option α):Prop:=∀ n r,x n=some r→x (n+1)=some r
theorem Zq2.le {α:Type} {x:Nat→Option α} (h:Zq2 x) {n m:Nat} {r:α} (hr:x n=some r) (aa:n≤m):x m=some r:=by
 induction aa with
 | refl=>exact hr
 | step _ ih=>exact h _ _ ih
theorem Zd6 {α:Type} {x:Nat→Option α} (h:Zq2 x) {n:Nat} {r:α} (hr:x n=some r):lim x=some r:=by
 have he:∃ r,∃ n,x n=some r:=⟨r,n,hr⟩
 unfold lim;rw[dif_pos he];obtain⟨m,hm⟩:=he.choose_spec;have h1:=h.le hm (LN m n);have h2:=h.le hr (LK m n);rw[h1] at h2;exact h2
theorem Zcn {α:Type} {x:Nat→Option α} {r:α} (hr:lim x=some r):∃ n,x n=some r:=by
 unfold lim at hr;split at hr
 ·rename_i h;obtain⟨n,hn⟩:=h.choose_spec;exact⟨n,by rw[hn];exact hr⟩
 ·cases hr
def Orc.le (C C' : Orc):Prop:=∀ f as h r,C f as h=some r→C' f as h=some r
section
variable {M:Zj} {C C' : Orc}
theorem Us {α β:Type} {x x' : Option α} {f f' : α→Option β} {r:β} (hx:∀ a,x=some a→x'=some a) (hf:∀ a,f a=some r→f' a=some r) (h:bnd x f=some r):bnd x' f'=some r:=by
 obtain⟨a,h1,h2⟩:=Za h;rw[hx a h1];exact hf a h2
theorem Zr1 (h:C.le C') {m:Nat→Bool} {hp:Hp} {base f:Nat} {aa:List AV} {r:Zb}
  (hr:JJ C m hp base f aa=some r):JJ C' m hp base f aa=some r:=by
 unfold JJ at hr ⊢;refine Us (fun _ h=>h) (fun as hr=>?_) hr;unfold ZaZ at hr ⊢;by_cases hc:(as.flatMap Zo).all (Qy hp (QZ hp) (as.flatMap Zo) []).contains∧¬(Xw aa as).any (Qy hp (QZ hp) (as.flatMap Zo) []).contains∧UD hp (as.flatMap WC) (Qy hp (QZ hp) (as.flatMap Zo) [])=true
 ·rw[Kt hc] at hr ⊢;exact Us (fun q hq=>h _ _ _ _ hq) (fun _ h=>h) hr
 ·rw[Kn hc] at hr;cases hr
theorem ZlY (h:C.le C') {sl:Sl} {hp:Hp} {base:Nat} {o:COp} {r:Zb} (hr:vop C M sl hp base o=some r) :
  vop C' M sl hp base o=some r:=by
 cases o with
 | call f as=>
  simp only[vop] at hr ⊢;cases hg:evO sl f<;>simp only[hg,J4] at hr ⊢ <;> first | exact Zr1 h hr | exact hr
 | _=>exact hr
theorem ZlZ (h:C.le C') (nx:Nat):∀ (l:List CO) (i:Nat) (sl:Sl) (hp:Hp) (r:Sl×Hp),
  Zcj C M nx i l sl hp=some r→Zcj C' M nx i l sl hp=some r:=by
 intro l
 induction l with
 | nil=>intro i sl hp r hr;exact hr
 | cons o rest ih=>
  intro i sl hp r hr;simp only[Zcj] at hr ⊢;refine Us (fun _ h=>h) (fun b hr=>?_) hr;cases b
  ·simp only[Ka,Ki] at hr ⊢;exact ih _ _ _ _ hr
  ·simp only[Kj] at hr ⊢;refine Us (fun q hq=>?_) (fun q hq=>ih _ _ _ _ hq) hr;unfold Xq at hq ⊢;exact Us (fun e he=>ZlY h he) (fun _ h=>h) hq
theorem Zp1 (h:C.le C') {nx i:Nat} {t:Bool} {o:COp} {sl:Sl} {hp:Hp} {e:Zb} (he:Yt C M nx i t o sl hp=some e) :
  Yt C' M nx i t o sl hp=some e:=by
 unfold Yt at he ⊢;cases t
 ·simp only[Ka,Ki,Je] at he ⊢;exact Us (fun _ hv=>ZlY h hv) (fun _ h=>h) he
 ·simp only[Kj] at he ⊢;exact ZlY h he
theorem ZeZ (h:C.le C') (nx:Nat):∀ (l:List CO) (i:Nat) (t:Bool) (sl:Sl) (hp:Hp) (r:Sl×Hp),
  WE C M nx i t l sl hp=some r→WE C' M nx i t l sl hp=some r:=by
 intro l
 induction l with
 | nil=>intro i t sl hp r hr;exact hr
 | cons o rest ih=>
  intro i t sl hp r hr;simp only[WE] at hr ⊢;refine Us (fun _ h=>h) (fun b hr=>?_) hr;cases b
  ·simp only[Ka,Ki] at hr ⊢;exact ih _ _ _ _ _ hr
  ·simp only[Kj] at hr ⊢;refine Us (fun q hq=>?_) (fun q hq=>ih _ _ _ _ _ hq) hr;unfold Xq at hq ⊢;exact Us (fun e he=>Zp1 h he) (fun _ h=>h) hq
theorem Ze0 {f g:St→Option (Ex×St)} (h:∀ st r,f st=some r→g st=some r) (K:List Nat) :
  ∀ (n m:Nat) (st:St) (r:Ex×St),n≤m→WF f K n st=some r→WF g K m st=some r:=by
 intro n
 induction n with
 | zero=>intro m st r _ hr;simp[WF] at hr
 | succ n ih=>
  intro m st r hm hr;cases m with
  | zero=>omega
  | succ m=>
   simp only[WF] at hr ⊢;cases hf:f (VM K st) with
   | none=>simp[hf] at hr
   | some q=>
    rw[hf] at hr;rw[h _ _ hf];obtain⟨e,aa⟩:=q;cases e with
    | normal=>exact ih m aa r (by omega) hr
    | exit id=>exact hr
    | ret=>exact hr
theorem Zhb (h:C.le C') {N N' : Nat} (hN:N≤N'):∀ (c:ZI) (st:St) (r:Ex×St),
  Zy C M N c st=some r→Zy C' M N' c st=some r:=by
 intro c
 induction c with
 | skip=>intro st r hr;simpa [Zy] using hr
 | region n draw ops=>
  intro st r hr;cases draw
  ·simp only[Zy,ZgO] at hr ⊢;exact Us (fun q hq=>ZlZ h _ _ _ _ _ _ hq) (fun _ h=>h) hr
  ·simp only[Zy,ZgO,ZkP] at hr ⊢;exact Us (fun q hq=>Us (fun q hq=>ZeZ h _ _ _ _ _ _ _ hq) (fun _ h=>h) hq) (fun _ h=>h) hr
 | seq a b iha ihb=>
  intro st r hr;simp only[Zy] at hr ⊢;cases ha:Zy C M N a st with
  | none=>simp[ha,andThen] at hr
  | some q=>
   rw[ha] at hr;rw[iha _ _ ha];obtain⟨e,aa⟩:=q;cases e with
   | normal=>exact ihb _ _ hr
   | exit id=>exact hr
   | ret=>exact hr
 | cond c a b iha ihb=>
  intro st r hr;simp only[Zy,ZdF] at hr ⊢;split at hr
  ·rename_i t ht;cases t
   ·simp only[Ka,Ki] at hr ⊢;exact ihb _ _ hr
   ·simp only[Kj] at hr ⊢;exact iha _ _ hr
  ·cases hr
 | block id c ih=>
  intro st r hr;simp only[Zy] at hr ⊢;cases hc:Zy C M N c st with
  | none=>simp[hc,Zcm] at hr
  | some q=>rw[hc] at hr;rw[ih _ _ hc];exact hr
 | loop c ih=>
  intro st r hr;simp only[Zy] at hr ⊢;exact Ze0 ih _ _ _ _ _ hN hr
 | exit id=>intro st r hr;simpa [Zy] using hr
 | ret=>intro st r hr;simpa [Zy] using hr
 | keep K c ih=>
  intro st r hr;simp only[Zy] at hr ⊢;cases hc:Zy C M N c st with
  | none=>simp[hc,Zil] at hr
  | some q=>rw[hc] at hr;rw[ih _ _ hc];exact hr
 | stuck=>intro st r hr;simp[Zy] at hr
 | link fl id i j c ih=>
  intro st r hr;simp only[Zy] at hr ⊢;obtain⟨aa,h1,h2⟩:=Za hr;rw[h1,Zc];cases hc:Zy C M N c aa with
  | none=>simp[hc,Zin] at h2
  | some q=>rw[hc] at h2;rw[ih _ _ hc];exact h2
 | melt c ih=>
  intro st r hr;simp only[Zy] at hr ⊢;exact ih _ r hr
theorem Zr2 (h:C.le C') {N N' : Nat} (hN:N≤N') {f:ZE} {as:List AV} {hh:List Zk} {r:AV×List Zk}
  (hr:Zip C M N f as hh=some r):Zip C' M N' f as hh=some r:=by
 unfold Zip at hr ⊢;by_cases hl:as.length≤f.nt
 ·rw[Kt hl] at hr ⊢;cases hv:Zy C M N f.body { sl:=Yr 0 as,hp:=YF 0 hh,nx:=hh.length,m:=hh.length } with
  | none=>simp[hv,J8] at hr
  | some q=>rw[hv] at hr;rw[Zhb h hN _ _ _ hv];exact hr
 ·rw[Kn hl] at hr;cases hr
end
section
variable (X:Fns) (M:Zj)
theorem ZfK:∀ n,(Z4 X M n).le (Z4 X M (n+1)):=by
 intro n
 induction n with
 | zero=>intro f as h r hr;simp[Z4] at hr
 | succ n ih=>
  intro f as h r hr;rw[Z4] at hr ⊢;cases hf:X f with
  | none=>rw[hf] at hr;cases hr
  | some g=>
   rw[hf] at hr;cases g with
   | text g=>exact Zr2 ih (Nat.le_succ n) hr
   | prim p=>exact hr
noncomputable def Zh (f:Nat) (as:List AV) (h:List Zk):Option (AV×List Zk):=lim fun n=>Z4 X M n f as h
noncomputable def Qm (c:ZI) (st:St):Option (Ex×St):=lim fun n=>Zy (Z4 X M n) M n c st
theorem JP (f:Nat) (as:List AV) (h:List Zk):Zq2 fun n=>Z4 X M n f as h:=fun n r hr=>ZfK X M n f as h r hr
theorem Zbd (n:Nat):(Z4 X M n).le (Zh X M):=fun f as h _ hr=>Zd6 (JP X M f as h) hr
theorem Zd7 (c:ZI) (st:St):Zq2 fun n=>Zy (Z4 X M n) M n c st:=fun n r hr=>Zhb (ZfK X M n) (Nat.le_succ n) c st r hr
theorem Jg {n m:Nat} (h:n≤m):(Z4 X M n).le (Z4 X M m):=fun f as hh _ hr=>(JP X M f as hh).le hr h
theorem Znq {m:Nat→Bool} {hp:Hp} {base f:Nat} {aa:List AV} {r:Zb}
  (hr:JJ (Zh X M) m hp base f aa=some r):∃ n,JJ (Z4 X M n) m hp base f aa=some r:=by
 unfold JJ at hr ⊢;obtain⟨as,ab,hr⟩:=Za hr;simp only[ab,Zc];unfold ZaZ at hr ⊢;by_cases hc:(as.flatMap Zo).all (Qy hp (QZ hp) (as.flatMap Zo) []).contains∧¬(Xw aa as).any (Qy hp (QZ hp) (as.flatMap Zo) []).contains∧UD hp (as.flatMap WC) (Qy hp (QZ hp) (as.flatMap Zo) [])=true
 ·rw[Kt hc] at hr;obtain⟨q,hq,hr⟩:=Za hr;obtain⟨n,hn⟩:=Zcn hq;refine⟨n,?_⟩;rw[Kt hc,hn];exact hr
 ·rw[Kn hc] at hr;cases hr
theorem ZfL {M' : Zj} {sl:Sl} {hp:Hp} {base:Nat} {o:COp} {r:Zb} (hr:vop (Zh X M) M' sl hp base o=some r) :
  ∃ n,vop (Z4 X M n) M' sl hp base o=some r:=by
 cases o with
 | call f as=>
  simp only[vop] at hr ⊢;cases hg:evO sl f<;>simp only[hg,J4] at hr ⊢ <;> first | exact Znq X M hr | exact⟨0,hr⟩
 | _=>exact⟨0,hr⟩
theorem Zo3 (nx:Nat):∀ (l:List CO) (i:Nat) (sl:Sl) (hp:Hp) (r:Sl×Hp),
  Zcj (Zh X M) M nx i l sl hp=some r→∃ n,Zcj (Z4 X M n) M nx i l sl hp=some r:=by
 intro l
 induction l with
 | nil=>intro i sl hp r hr;exact⟨0,hr⟩
 | cons o rest ih=>
  intro i sl hp r hr;simp only[Zcj] at hr ⊢;obtain⟨b,hb,hr⟩:=Za hr;simp only[hb,Zc];cases b
  ·simp only[Ka,Ki] at hr ⊢;exact ih _ _ _ _ hr
  ·simp only[Kj] at hr ⊢;obtain⟨q,hq,hr⟩:=Za hr;unfold Xq at hq;obtain⟨e,he,hq⟩:=Za hq;obtain⟨n1,h1⟩:=ZfL X M he;obtain⟨n2,h2⟩:=ih _ _ _ _ hr;refine⟨max n1 n2,?_⟩;unfold Xq;rw[ZlY (Jg X M (LN n1 n2)) h1,Zc,hq,Zc];exact ZlZ (Jg X M (LK n1 n2)) _ _ _ _ _ _ h2
theorem Zo4 {M' : Zj} {nx i:Nat} {t:Bool} {o:COp} {sl:Sl} {hp:Hp} {e:Zb} (he:Yt (Zh X M) M' nx i t o sl hp=some e) :
  ∃ n,Yt (Z4 X M n) M' nx i t o sl hp=some e:=by
 unfold Yt at he ⊢;cases t
 ·simp only[Ka,Ki,Je] at he ⊢;obtain⟨e',aa,h2⟩:=Za he;obtain⟨n,hn⟩:=ZfL X M aa;exact⟨n,by rw[hn];exact h2⟩
 ·simp only[Kj] at he ⊢;exact ZfL X M he
theorem Znr {M' : Zj} (nx:Nat):∀ (l:List CO) (i:Nat) (t:Bool) (sl:Sl) (hp:Hp) (r:Sl×Hp),
  WE (Zh X M) M' nx i t l sl hp=some r→∃ n,WE (Z4 X M n) M' nx i t l sl hp=some r:=by
 intro l
 induction l with
 | nil=>intro i t sl hp r hr;exact⟨0,hr⟩
 | cons o rest ih=>
  intro i t sl hp r hr;simp only[WE] at hr ⊢;obtain⟨b,hb,hr⟩:=Za hr;simp only[hb,Zc];cases b
  ·simp only[Ka,Ki] at hr ⊢;exact ih _ _ _ _ _ hr
  ·simp only[Kj] at hr ⊢;obtain⟨q,hq,hr⟩:=Za hr;unfold Xq at hq;obtain⟨e,he,hq⟩:=Za hq;obtain⟨n1,h1⟩:=Zo4 X M he;obtain⟨n2,h2⟩:=ih _ _ _ _ _ hr;refine⟨max n1 n2,?_⟩;unfold Xq;rw[Zp1 (Jg X M (LN n1 n2)) h1,Zc,hq,Zc];exact ZeZ (Jg X M (LK n1 n2)) _ _ _ _ _ _ _ h2
theorem QI {c:ZI} {st:St} {n:Nat} {r:Ex×St} (h:Zy (Z4 X M n) M n c st=some r):Qm X M c st=some r:=
 Zd6 (Zd7 X M c st) h
theorem XE {α:Type} {x:Nat→Option α} (h:∀ n,x n=none):lim x=none:=by
 cases hx:lim x with
 | none=>rfl
 | some r=>obtain⟨n,hn⟩:=Zcn hx;rw[h n] at hn;cases hn
theorem Zo5 (st:St):Qm X M .skip st=some (.normal,st):=QI X M (n:=0) (by simp[Zy])
theorem Zo6 (id:Nat) (st:St):Qm X M (.exit id) st=some (.exit id,st):=QI X M (n:=0) (by simp[Zy])
theorem Zq3 (st:St):Qm X M .ret st=some (.ret,st):=QI X M (n:=0) (by simp[Zy])
theorem Zl0 (n:Nat) (ops:List CO) (st:St) :
  Qm X M (.region n none ops) st=ZgO st.m (st.nx+64*n) (Zcj (Zh X M) M st.nx 0 ops st.sl st.hp):=by
 cases h:Zcj (Zh X M) M st.nx 0 ops st.sl st.hp with
 | some r=>
  obtain⟨k,hk⟩:=Zo3 X M _ _ _ _ _ _ h;exact QI X M (n:=k) (by simp only[Zy,hk,ZgO,Zc])
 | none=>
  refine XE fun k=>?_;simp only[Zy];cases hn:Zcj (Z4 X M k) M st.nx 0 ops st.sl st.hp with
  | none=>rfl
  | some r=>rw[ZlZ (Zbd X M k) _ _ _ _ _ _ hn] at h;cases h
theorem Zo7 (n:Nat) (ps:List (Nat×Nat)) (ops:List CO) (st:St) :
  Qm X M (.region n (some ps) ops) st=ZgO st.m (st.nx+64*n) (ZkP ops ps (WE (Zh X M) (Xx M) st.nx 0 false ops st.sl st.hp)):=by
 cases h:WE (Zh X M) (Xx M) st.nx 0 false ops st.sl st.hp with
 | some r=>
  obtain⟨k,hk⟩:=Znr X M _ _ _ _ _ _ _ h;cases hs:ZkP ops ps (some r) with
  | none=>
   refine XE fun k'=>?_;simp only[Zy];cases hn:WE (Z4 X M k') (Xx M) st.nx 0 false ops st.sl st.hp with
   | none=>rfl
   | some r' =>
    have:=ZeZ (Zbd X M k') _ _ _ _ _ _ _ hn;rw[h] at this;cases this;rw[hs];rfl
  | some r'=>exact QI X M (n:=k) (by simp only[Zy,hk,hs];rfl)
 | none=>
  refine XE fun k=>?_;simp only[Zy];cases hn:WE (Z4 X M k) (Xx M) st.nx 0 false ops st.sl st.hp with
  | none=>rfl
  | some r=>rw[ZeZ (Zbd X M k) _ _ _ _ _ _ _ hn] at h;cases h
theorem Wc {c:ZI} {st:St} {r:Ex×St} (h:Qm X M c st=some r):∃ n,∀ m,n≤m→Zy (Z4 X M m) M m c st=some r:=by
 obtain⟨n,hn⟩:=Zcn h;exact⟨n,fun m hm=>(Zd7 X M c st).le hn hm⟩
theorem Zq4 (a b:ZI) (st:St):Qm X M (.seq a b) st=andThen (Qm X M a st) (Qm X M b):=by
 cases ha:Qm X M a st with
 | none=>
  refine XE fun n=>?_;cases h:Zy (Z4 X M n) M n a st with
  | none=>simp[Zy,h,andThen]
  | some q=>rw[QI X M h] at ha;cases ha
 | some q=>
  obtain⟨e,aa⟩:=q;obtain⟨n,hn⟩:=Wc X M ha;cases e with
  | normal=>
   simp only[andThen];cases hb:Qm X M b aa with
   | none=>
    refine XE fun k=>?_;cases h:Zy (Z4 X M k) M k (.seq a b) st with
    | none=>rfl
    | some q=>
     have h1:=(Zd7 X M (.seq a b) st).le h (LN k n);simp only[Zy,hn _ (LK k n),andThen] at h1;rw[QI X M h1] at hb;cases hb
   | some q=>
    obtain⟨m,hm⟩:=Wc X M hb;refine QI X M (n:=max n m) ?_;simp only[Zy,hn _ (LN n m),andThen,hm _ (LK n m)]
  | exit id=>exact QI X M (n:=n) (by simp only[Zy,hn _ (Kg n),andThen])
  | ret=>exact QI X M (n:=n) (by simp only[Zy,hn _ (Kg n),andThen])
theorem Zo8 (c:Opd) (a b:ZI) (st:St) :
  Qm X M (.cond c a b) st=ZdF (evO st.sl c) (Qm X M a st) (Qm X M b st):=by
 unfold ZdF;split
 ·rename_i t h;cases t
  ·simp only[Ka,Ki,Qm,Zy,h,ZdF]
  ·simp only[Kj,Qm,Zy,h,ZdF]
 ·rename_i h;refine XE fun n=>?_;simp only[Zy,ZdF]
theorem Zns (id:Nat) (c:ZI) (st:St):Qm X M (.block id c) st=Zcm id (Qm X M c st):=by
 cases hc:Qm X M c st with
 | none=>
  refine XE fun n=>?_;cases h:Zy (Z4 X M n) M n c st with
  | none=>simp[Zy,h,Zcm]
  | some q=>rw[QI X M h] at hc;cases hc
 | some q=>
  obtain⟨n,hn⟩:=Wc X M hc;cases hb:Zcm id (some q) with
  | none=>
   obtain⟨e,aa⟩:=q;cases e<;>simp[Zcm] at hb
   split at hb<;>cases hb
  | some r=>exact QI X M (n:=n) (by simp only[Zy,hn _ (Kg n),hb])
theorem Zo9 (K:List Nat) (c:ZI) (st:St):Qm X M (.keep K c) st=Zil K (Qm X M c st):=by
 cases hc:Qm X M c st with
 | none=>
  refine XE fun n=>?_;cases h:Zy (Z4 X M n) M n c st with
  | none=>simp[Zy,h,Zil]
  | some q=>rw[QI X M h] at hc;cases hc
 | some q=>
  obtain⟨n,hn⟩:=Wc X M hc;exact QI X M (n:=n) (by simp only[Zy,hn _ (Kg n),Zil])
theorem Zpa (fl:Bool) (id:Nat) (i:Opd) (j:Nat) (c:ZI) (st:St):Qm X M (.link fl id i j c) st=bnd (Zbc fl id i j st) fun aa=>Zin id st.nx (Qm X M c aa):=by
 cases hl:Zbc fl id i j st with
 | none=>
  refine XE fun n=>?_;simp only[Zy,hl];rfl
 | some st' =>
  rw[Zc];cases hc:Qm X M c st' with
  | none=>
   refine XE fun n=>?_;cases h:Zy (Z4 X M n) M n c st' with
   | none=>simp only[Zy,hl,Zc,h];rfl
   | some q=>rw[QI X M h] at hc;cases hc
  | some q=>
   obtain⟨n,hn⟩:=Wc X M hc;exact QI X M (n:=n) (by simp only[Zy,hl,Zc,hn _ (Kg n)];rfl)
theorem Zpb (c:ZI) (st:St):Qm X M (.melt c) st=Qm X M c (ZlX st):=by
 cases hc:Qm X M c (ZlX st) with
 | none=>
  refine XE fun n=>?_;cases h:Zy (Z4 X M n) M n c (ZlX st) with
  | none=>simp only[Zy,h]
  | some q=>rw[QI X M h] at hc;cases hc
 | some q=>
  obtain⟨n,hn⟩:=Wc X M hc;exact QI X M (n:=n) (by simp only[Zy,hn _ (Kg n)])
noncomputable def Zco (c:ZI) (K:List Nat) (st:St):Option (Ex×St):=lim fun n=>WF (Zy (Z4 X M n) M n c) K n st
theorem JQ (c:ZI) (K:List Nat) (st:St):Zq2 fun n=>WF (Zy (Z4 X M n) M n c) K n st:=fun n r hr=>
 Ze0 (fun _ _ h=>Zhb (ZfK X M n) (Nat.le_succ n) c _ _ h) K n (n+1) st r (Nat.le_succ n) hr
theorem Zpc (c:ZI) (st:St):Qm X M (.loop c) st=Zco X M c (Ur st.sl) st:=by
 simp only[Qm,Zco,Zy]
theorem Znt {c:ZI} {K:List Nat} {st aa : St} (h:Qm X M c (VM K st)=some (.normal,aa)) :
  Zco X M c K st=Zco X M c K aa:=by
 obtain⟨n,hn⟩:=Wc X M h;cases hl:Zco X M c K aa with
 | none=>
  refine XE fun k=>?_;cases hk:WF (Zy (Z4 X M k) M k c) K k st with
  | none=>rfl
  | some q=>
   have h1:=(JQ X M c K st).le hk (show k≤max k n+1 by omega);simp only[WF] at h1;rw[hn (max k n+1) (by omega)] at h1;simp only[] at h1;have h2:=Ze0 (fun _ _ h=>h) K (max k n) (max k n+1) aa q (Nat.le_succ _) h1;rw[show Zco X M c K aa=some q from Zd6 (JQ X M c K aa) h2] at hl;cases hl
 | some q=>
  obtain⟨m,hm⟩:=Zcn hl;refine Zd6 (JQ X M c K st) (n:=max n m+1) ?_;simp only[WF,hn (max n m+1) (by omega)];exact Ze0 (fun _ _ h=>Zhb (Jg X M (show m≤max n m+1 by omega)) (show m≤max n m+1 by omega) c _ _ h) K m (max n m) aa q (by omega) hm
theorem Ziq {c:ZI} {K:List Nat} {st aa : St} {e:Ex} (he:e≠.normal) (h:Qm X M c (VM K st)=some (e,aa)) :
  Zco X M c K st=some (e,aa):=by
 obtain⟨n,hn⟩:=Wc X M h;refine Zd6 (JQ X M c K st) (n:=n+1) ?_;simp only[WF,hn (n+1) (by omega)];cases e with
 | normal=>exact absurd rfl he
 | exit id=>rfl
 | ret=>rfl
theorem Zr3 {f:Nat} {as:List AV} {h:List Zk} {fn:ZE} {r:AV×List Zk} (hx:X f=some (.text fn))
  (hl:as.length≤fn.nt) (hr:J8 h.length fn.res (Qm X M fn.body { sl:=Yr 0 as,hp:=YF 0 h,nx:=h.length,m:=h.length })=some r) :
  Zh X M f as h=some r:=by
 cases hv:Qm X M fn.body { sl:=Yr 0 as,hp:=YF 0 h,nx:=h.length,m:=h.length } with
 | none=>rw[hv] at hr;simp[J8] at hr
 | some q=>
  rw[hv] at hr;obtain⟨n,hn⟩:=Wc X M hv;refine Zd6 (JP X M f as h) (n:=n+1) ?_;simp only[Z4,hx,ZfJ,Zip,hl,Kj,hn n (Kg n)];exact hr
theorem ZuQ {f:Nat} {as:List AV} {h:List Zk} {p:List AV→List Zk→Option (AV×List Zk)} {r:AV×List Zk} (hx:X f=some (.prim p)) (hp:p as h=some r) :
  Zh X M f as h=some r:=
 Zd6 (JP X M f as h) (n:=1) (by simp only[Z4,hx,ZfJ,hp])
end
section
variable (P:Program)
def Y5 (nt:Nat):Code→Option ZI
 | .skip=>some .skip
 | .region _ ops draw=>bnd (Qa (Zgz P nt ops.toList) ops.toList) fun os=>if draw then (if Zik ops os then some (.region ops.toList.length (some (Jb ops os)) os) else some .stuck) else some (.region ops.toList.length none os)
 | .seq a b=>bnd (Y5 nt a) fun a=>bnd (Y5 nt b) fun b=>some (.seq a b)
 | .cond c a b=>bnd (ZL c) fun c=>bnd (Y5 nt a) fun a=>bnd (Y5 nt b) fun b=>some (.cond c a b)
 | .block id c=>bnd (Y5 nt c) fun c=>some (.block id c)
 | .loop c=>bnd (Y5 nt c) fun c=>some (.loop c)
 | .exit id=>some (.exit id)
 | .ret=>some .ret
 | _=>some .stuck
def Zbe:COp→COp
 | .buildT s _ xs=>.buildSl s xs
 | .asgT s _ x=>.assign (some s) x
 | .appT s b flat x y=>.append s b false flat x y
 | .makeT s b _ z l c=>.make s b z l c
 | c=>c
def ZfM:List CO→List CO
 | []=>[]
 | o :: r => { o with op:=Zbe o.op } :: ZfM r
def Zpd:Option (List (Nat×Nat))→List CO→List CO
 | none,ops=>ZfM ops
 | some _,ops=>ops
def Xr:ZI→ZI
 | .keep _ c=>Xr c
 | .seq a b=>.seq (Xr a) (Xr b)
 | .cond c a b=>.cond c (Xr a) (Xr b)
 | .block id c=>.block id (Xr c)
 | .loop c=>.loop (Xr c)
 | .region n d ops=>.region n d (Zpd d ops)
 | .link _ _ _ _ c=>Xr c
 | .melt c=>Xr c
 | .skip=>.skip
 | .exit id=>.exit id
 | .ret=>.ret
 | .stuck=>.stuck
def ZfN (cf:ZE):ZE := { nt:=cf.nt,res:=cf.res,body:=Xr cf.body }
def cRes:ResultVar→Option Zjt
 | .tmp t=>some (.tmp t)
 | .cell a t=>bnd (ZaA P t) fun g=>some (.cell a g (P.cellsOf t))
def cFun (fn:Func):Option ZE:=bnd fn.body fun c=>bnd (Y5 P fn.ntmps c) fun b=>bnd (Qa (cRes P) fn.results.toList) fun rs=>some { nt:=fn.ntmps,res:=rs,body:=b }
end
end Go.Abs
