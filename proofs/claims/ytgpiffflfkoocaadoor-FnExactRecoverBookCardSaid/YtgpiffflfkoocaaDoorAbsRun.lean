/- Own text. -/
import Derived.Test.YtgpiffflfkoocaaDoorAbsOps
set_option linter.unusedVariables false
set_option linter.unusedSimpArgs false
namespace Go.Abs
open Go
inductive Ex where
 | normal
 | exit (id:Nat)
 | ret
def QD (lo hi:Nat):Hp→Bool
 | []=>true
 | (k,_) :: r=>decide (lo≤k)&&decide (k<hi)&&QD (k+1) hi r
def QN (gone:List Nat) (sl:Sl):Sl:=match gone with
 | []=>sl
 | _=>Zfh (kill gone) sl
def YK (gone:List Nat) (hp:Hp):Hp:=match gone with
 | []=>hp
 | _=>Zfh (QU gone) hp
def Zi (sl:Sl) (dst:Option Nat) (v:AV):Sl:=match dst with
 | some t=>ins sl t v
 | none=>sl
def Zb.on (e:Zb) (dst:Option Nat) (sl:Sl) (hp:Hp):Sl×Hp:=
 (Zi (QN e.gone sl) dst e.eff.val,e.eff.on (YK e.gone hp))
def XS (base:Nat) (dst:Option Nat) (sl:Sl) (hp:Hp) (e:Option Zb):Option (Sl×Hp):=
 bnd e fun e=>if QD base (base+64) e.eff.adds then some (e.on dst sl hp) else none
def Za4 (want:Bool):AV→Option Bool
 | .d (.bool b)=>some (b==want)
 | .tup []=>some false
 | _=>none
def ZK (sl:Sl):Option (Nat×Bool)→Option Bool
 | none=>some true
 | some q=>Za4 q.2 (gs sl q.1)
inductive ZH where
 | skip
 | region (n:Nat) (draw:Option (List (Nat×Nat))) (ops:List CO)
 | seq (a b:ZH)
 | cond (c:Opd) (a b:ZH)
 | block (id:Nat) (c:ZH)
 | loop (c:ZH)
 | exit (id:Nat)
 | ret
 | keep (K:List Nat) (c:ZH)
 | stuck
 | link (fl:Bool) (id:Nat) (i:Opd) (j:Nat) (c:ZH)
 | melt (c:ZH)
inductive ZjH where
 | tmp (t:Nat)
 | cell (a:Nat) (g:Bool) (s:Nat)
structure Z9 where
 nt:Nat
 res:List ZjH
 body:ZH
def Zni (x:Option Opd):List Opd:=match x with
 | some y=>[y]
 | none=>[]
def Zr:COp→List Opd
 | .move x=>[x]
 | .assign _ x=>[x]
 | .pick c a b=>[c,a,b]
 | .alloc _ _=>[]
 | .box x=>[x]
 | .build _ ps=>ps.map fun q=>q.2.2
 | .buildSl _ xs=>xs
 | .load _ _ a=>[a]
 | .store _ _ a x=>[a,x]
 | .nilCheck x=>[x]
 | .bin _ _ x y=>[x,y]
 | .un _ x=>[x]
 | .eqA _ _ x y=>[x,y]
 | .convI _ x=>[x]
 | .convS x=>[x]
 | .fn _ cs=>cs
 | .make _ _ _ l c=>[l,c]
 | .slice _ x lo hi=>x :: (Zni lo++Zni hi)
 | .sliceS x lo hi=>x :: (Zni lo++Zni hi)
 | .slice0 x hi mx=>[x,hi,mx]
 | .shift _ x=>[x]
 | .part _ _ _ x=>[x]
 | .iaS _ x i=>[x,i]
 | .iaA _ _ x i=>[x,i]
 | .ixS x i=>[x,i]
 | .ixA _ _ _ x i=>[x,i]
 | .nth _ x=>[x]
 | .len x=>[x]
 | .lenS x=>[x]
 | .append _ _ _ _ x y=>[x,y]
 | .min x y=>[x,y]
 | .max x y=>[x,y]
 | .call f as=>f :: as
 | .slice3 _ x lo hi mx=>[x,lo,hi,mx]
 | .clear _ _ x=>[x]
 | .stuck=>[]
 | .buildT _ _ xs=>xs
 | .appT _ _ _ x y=>[x,y]
 | .asgT _ _ x=>[x]
 | .makeT _ _ _ _ l c=>[l,c]
def ZcF:COp→Bool
 | .store _ _ _ _=>true
 | _=>false
def isApp:COp→Bool
 | .append _ _ _ _ _ _=>true
 | _=>false
def ZiL (c:COp):Bool:=ZcF c || isApp c
def CO.starts (o:CO):Bool:=ZcF o.op || o.tl
def ZI (os:List CO) (i:Nat):Bool:=match os[i]? with
 | some o=>CO.starts o
 | none=>false
def Ui:Opd→List Nat
 | .t n=>[n]
 | _=>[]
def ZiM:Option (Nat×Bool)→List Nat
 | some q=>[q.1]
 | none=>[]
def looks (o:CO):List Nat:=(Zr o.op).flatMap Ui++ZiM o.guard
def Qr:Option Nat→List Nat→Bool
 | some d,l=>!l.contains d
 | none,_=>true
def WK:Option Nat→Option Nat→Bool
 | some d,some e=>d != e
 | _,_=>true
def Q4 (a b:CO):Bool:=Qr a.dst (looks b)&&WK a.dst b.dst&&Qr b.dst (looks a)
def X0:Opd→Bool
 | .v a=>(Zl a).isEmpty&&!ZjV a
 | _=>true
def ZlM (os:List CO) (j i:Nat):Bool:=match os[j]?,os[i]? with
 | some a,some b=>Q4 a b
 | _,_=>false
def Y4:COp→Bool
 | .load _ _ _=>false
 | .store _ _ _ _=>false
 | .slice _ _ _ _=>false
 | .slice0 _ _ _=>false
 | .iaS _ _ _=>false
 | .len _=>false
 | .append _ _ _ _ _ _=>false
 | .buildSl _ _=>false
 | .buildT _ _ _=>false
 | .appT _ _ _ _ _=>false
 | .asgT _ _ _=>false
 | .makeT _ _ _ _ _ _=>false
 | .call _ _=>false
 | .slice3 _ _ _ _ _=>false
 | .clear _ _ _=>false
 | _=>true
def Wq:COp→Bool
 | .load _ _ _=>true
 | .slice _ _ _ _=>true
 | .slice0 _ _ _=>true
 | .iaS _ _ _=>true
 | .len _=>true
 | _=>false
def Zor:COp→Bool
 | .clear _ _ _=>false
 | .store _ _ _ _=>false
 | .append _ _ _ _ _ _=>false
 | .buildSl _ _=>false
 | .buildT _ _ _=>false
 | .appT _ _ _ _ _=>false
 | .asgT _ _ _=>false
 | .makeT _ _ _ _ _ _=>false
 | .call _ _=>false
 | _=>true
def V2 (os:List CO) (k:Nat):Option Nat:=match os[k]? with
 | some o=>o.dst
 | none=>none
def ZlN (os:List CO) (k:Nat):List Nat:=match os[k]? with
 | some o=>looks o
 | none=>[]
def Uj (os:List CO) (k:Nat):Bool:=(List.range os.length).all fun q=>decide (q<k) || Qr (V2 os q) (ZlN os k)
def X8:COp→Bool
 | .move _=>true
 | _=>false
def Za5:COp→Bool
 | .append _ _ _ _ _ _=>true
 | .buildSl _ _=>true
 | _=>false
def WU:COp→Bool
 | .call (.f _) _=>true
 | _=>false
def ZfF:COp→List Opd
 | .call _ as=>as
 | _=>[]
def Zos:COp→Bool
 | .alloc _ _=>false
 | .box _=>false
 | .assign _ _=>false
 | .make _ _ _ _ _=>false
 | .fn _ _=>false
 | _=>true
def Zku:COp→Bool
 | .buildSl _ _=>true
 | _=>false
def JX:AV→Bool
 | .d _=>true
 | .nil=>true
 | .nilp=>true
 | .nili=>true
 | _=>false
def Yr:List AV→Bool
 | []=>true
 | c :: r=>JX c&&Yr r
def Zha:COp→Bool
 | .alloc _ cs=>Yr cs
 | _=>false
def ZiN (c:COp):Bool:=Wq c || Zku c || (Y4 c&&Zos c) || Zha c
def ZeD:COp→Bool
 | .alloc _ cs=>Yr cs
 | .buildSl _ _=>true
 | .load _ _ _=>true
 | .nilCheck _=>true
 | .bin _ _ _ _=>true
 | .un _ _=>true
 | .convI _ _=>true
 | .shift _ _=>true
 | .iaS _ _ _=>true
 | .slice _ _ _ _=>true
 | .len _=>true
 | .sliceS _ _ _=>true
 | .lenS _=>true
 | _=>false
def Ztc:Option Nat→Bool
 | some _=>true
 | none=>false
def ZgX (os:List CO) (k:Nat):Bool:=Ztc (V2 os k)&&(List.range os.length).all fun q=>q==k || WK (V2 os q) (V2 os k)
def ZeE (os:List CO) (j i:Nat):Bool:=Uj os j&&Uj os i
def Zsa (os:List CO) (j i:Nat) (a b:COp):Bool:=
 Zor b || (ZiL b&&(Y4 a || (!X8 a&&Wq a&&ZeE os j i))) || (X8 a&&(Za5 b || ZgX os j)) || (!X8 a&&WU b&&ZiN a&&ZeE os j i&&ZgX os j)
def Zsb (os:List CO) (j i:Nat) (a b:COp):Bool:=(X8 b&&ZgX os i) || (!X8 b&&WU a&&ZeD b&&ZeE os j i&&ZgX os i)
def ZlO (os:List CO) (j i:Nat):Bool:=match os[j]?,os[i]? with
 | some a,some b=>if ZI os j then !ZI os i&&Zsb os j i a.op b.op else !ZI os i || Zsa os j i a.op b.op
 | _,_=>false
def Za6 (os:List CO) (j i:Nat):Option (Nat×Nat):=match os[j]?,os[i]? with
 | some a,some b=>if ZI os j then (if X8 b.op || WU a.op then some (i,j) else none) else
   if ZI os i&&(if ZiL b.op then !(Y4 a.op) else if X8 a.op then !(Za5 b.op) else WU b.op) then some (j,i) else none
 | _,_=>none
def optP:Option (Nat×Nat)→List (Nat×Nat)
 | some p=>[p]
 | none=>[]
def Jk (ops:Array Oper) (os:List CO):List (Nat×Nat):=
 (List.range ops.size).flatMap fun i=>(List.range i).flatMap fun j=>if ZdG ops 6 i j then [] else optP (Za6 os j i)
def ZiO (ops:Array Oper) (os:List CO):Bool:=
 (List.range ops.size).all (fun i=>(YI ops i).all fun e=>decide (e<i)) &&
 (List.range ops.size).all (fun i=>(List.range i).all fun j=>(YI ops i).contains j || ZlM os j i) &&
 (List.range ops.size).all (fun i=>(List.range i).all fun j=>ZdG ops 6 i j || ZlO os j i) &&
 os.all (fun o=>(Zr o.op).all X0)
def Jl (id:Nat):AV→Bool
 | .d _=>true
 | .pim _=>true
 | .nil=>true
 | .ptr k _=>k != id
 | .prow k _ _ _=>k != id
 | .own k=>k != id
 | .ownv k _ _=>k != id
 | .nilp=>true
 | .nili=>true
 | .tup []=>true
 | _=>false
def okC:AV→Bool
 | .d _=>true
 | .pim _=>true
 | .nil=>true
 | .ptr _ _=>true
 | .prow _ _ _ _=>true
 | .own _=>true
 | .ownv _ _ _=>true
 | .nilp=>true
 | .nili=>true
 | _=>false
def ZlP:List AV→Bool
 | []=>true
 | v :: r=>okC v&&ZlP r
def okV:AV→Bool
 | .agg cs=>ZlP cs
 | .tup []=>true
 | v=>okC v
def okL (sl:Sl):List Opd→Bool
 | []=>true
 | x :: r=>okV (evO sl x)&&okL sl r
def okD (sl:Sl):Option Nat→Bool
 | some t=>okV (gs sl t)
 | none=>true
def Ys:AV→Option Nat
 | .ptr k _=>some k
 | .prow k _ _ _=>some k
 | _=>none
def Qy (sl:Sl) (id:Nat):List Opd→Bool
 | []=>true
 | x :: r=>Jl id (evO sl x)&&Qy sl id r
def Za7 (sl:Sl) (a:COp):Option Nat→Bool
 | some id=>Qy sl id (Zr a)
 | none=>false
def Jm (sl:Sl) (xs:List Opd):AV→Bool
 | .ptr k _=>Qy sl k xs
 | .prow _ _ _ _=>false
 | _=>true
def Zb2 (sl:Sl) (xs:List Opd):List Opd→Bool
 | []=>true
 | y :: r=>Jm sl xs (evO sl y)&&Zb2 sl xs r
def Wr (sl:Sl) (a:COp):AV→Bool
 | .nil=>true
 | .tup []=>true
 | .own k=>Qy sl k (Zr a)
 | .ownv k _ _=>Qy sl k (Zr a)
 | _=>false
def seenSrc (sl:Sl) (a:COp):AV→Bool
 | .own k=>Qy sl k (Zr a)
 | v=>okV v
def Xm (sl:Sl) (xs:List Opd):List Nat→Bool
 | []=>true
 | k :: r=>Qy sl k xs&&Xm sl xs r
def YB (sl:Sl) (a:COp):AV→AV→Bool
 | .prow _ _ _ _,.d _=>true
 | .prow _ _ _ _,v=>okV v&&Xm sl (Zr a) (Zl v)
 | _,_=>true
def VS (sl:Sl) (d:Option Nat):COp→COp→Bool
 | .move _,_=>okD sl d
 | a,.store _ _ x y=>Za7 sl a (Ys (evO sl x))&&YB sl a (evO sl x) (evO sl y)
 | a,.append _ _ _ flat x y=>Wr sl a (evO sl x)&&(flat || seenSrc sl a (evO sl y))
 | a,.call _ as=>okL sl (Zr a)&&(okD sl d&&(okL sl as&&Zb2 sl (Zr a) as))
 | _,_=>false
def ZeF (os:List CO) (sl:Sl) (p:Nat×Nat):Bool:=match os[p.1]?,os[p.2]? with
 | some a,some b=>VS sl a.dst a.op b.op
 | _,_=>false
def VI (os:List CO) (sl:Sl):List (Nat×Nat)→Bool
 | []=>true
 | p :: r=>ZeF os sl p&&VI os sl r
def XW (M:Zh):Zh:=fun f i=>i != 99&&M f i
section
variable (C:Orc) (M:Zh)
noncomputable def Zb3 (nx:Nat):Nat→List CO→Sl→Hp→Option (Sl×Hp)
 | _,[],sl,hp=>some (sl,hp)
 | i,o :: rest,sl,hp=>bnd (ZK sl o.guard) fun b=>
   if b then bnd (XS (nx+64*i) o.dst sl hp (vop C M sl hp (nx+64*i) o.op)) fun r=>Zb3 nx (i+1) rest r.1 r.2
   else Zb3 nx (i+1) rest (Zi sl o.dst (.tup [])) hp
def Za8 (c:Zb):List Nat→Hp→List Nat→List Nat→Option Zb
 | [],[],[],[]=>some c
 | _,_,_,_=>none
def Jn (e:Option Zb):Option Zb:=bnd e fun c=>Za8 c c.gone c.eff.sets c.eff.dels c.eff.frz
noncomputable def YM (nx i:Nat) (tail:Bool) (o:COp) (sl:Sl) (hp:Hp):Option Zb:=
 if tail then vop C M sl hp (nx+64*i) o else Jn (vop C M sl hp (nx+64*i) o)
noncomputable def Wy (nx:Nat):Nat→Bool→List CO→Sl→Hp→Option (Sl×Hp)
 | _,_,[],sl,hp=>some (sl,hp)
 | i,t,o :: rest,sl,hp=>bnd (ZK sl o.guard) fun b=>
   if b then bnd (XS (nx+64*i) o.dst sl hp (YM C M nx i (CO.starts o) o.op sl hp)) fun r=>Wy nx (i+1) t rest r.1 r.2
   else Wy nx (i+1) t rest (Zi sl o.dst (.tup [])) hp
def Uk {α:Type}:List (Nat×α)→List Nat
 | []=>[]
 | (k,_) :: r=>k :: Uk r
def only {α:Type} (K:List Nat):List (Nat×α)→List (Nat×α)
 | []=>[]
 | (k,v) :: r=>if K.contains k then (k,v) :: only K r else only K r
def YN:Nat→List Zf→Hp
 | _,[]=>[]
 | k,o :: r=>YN (k+1) r++[(k,o)]
def Zkv:Sl→List Nat
 | []=>[]
 | (_,v) :: r=>Zl v++Zkv r
def ZlQ:Option Zf→Bool
 | some _=>true
 | none=>false
def JY (hp:Hp) (ids:List Nat) (i:Nat):Bool:=ids.contains i&&ZlQ (lkp hp i)
def Zb4 (hp:Hp) (ids:List Nat):List Nat→List Nat
 | []=>[]
 | i :: r=>if JY hp ids i then Zb4 hp ids r else i :: Zb4 hp ids r
def Zau (hp:Hp) (ids:List Nat) (v:AV):AV:=ren (YH ids) (kill (Zb4 hp ids (Zl v)) v)
def Zb5 (hp:Hp) (ids:List Nat) (o:Zf):Zf:=Zd7 (YH ids) (QU (Zb4 hp ids (Wf o)) o)
def Zot:Option Zf→List Nat
 | some o=>Wf o
 | none=>[]
def Vg (hp:Hp):List Nat→List Nat
 | []=>[]
 | id :: r=>Zot (lkp hp id)++Vg hp r
def V3 (K:List Nat) (st:St):St:=
 let sl:=only K st.sl
 let ids:=QF st.hp (Xd st.hp) (Zkv sl++Vg st.hp (List.range st.m)) (List.range st.m)
 { sl:=Zfh (Zau st.hp ids) sl,hp:=YN 0 ((JS st.hp ids).map (Zb5 st.hp ids)),nx:=ids.length,m:=st.m }
def Wz (f:St→Option (Ex×St)) (K:List Nat):Nat→St→Option (Ex×St)
 | 0,_=>none
 | n+1,st=>match f (V3 K st) with
  | some (.normal,st')=>Wz f K n st'
  | r=>r
def andThen (r:Option (Ex×St)) (k:St→Option (Ex×St)):Option (Ex×St):=match r with
 | some (.normal,st)=>k st
 | r=>r
def Zc9 (v:AV) (a b:Option (Ex×St)):Option (Ex×St):=match v with
 | .d (.bool t)=>if t then a else b
 | _=>none
def Zb6 (id:Nat) (r:Option (Ex×St)):Option (Ex×St):=match r with
 | some (.exit j,st)=>if j=id then some (.normal,st) else some (.exit j,st)
 | r=>r
def Zkw (ops:List CO) (ps:List (Nat×Nat)) (r:Option (Sl×Hp)):Option (Sl×Hp):=bnd r fun r=>if VI ops r.1 ps then some r else none
def ZgY (m nx:Nat) (r:Option (Sl×Hp)):Option (Ex×St):=bnd r fun r=>some (.normal,{ sl:=r.1,hp:=r.2,nx:=nx,m:=m })
def ZiP (K:List Nat) (r:Option (Ex×St)):Option (Ex×St):=match r with
 | some q=>some (q.1,{ q.2 with sl:=only K q.2.sl })
 | none=>none
def Zpt (fl:Bool) (k:Nat) (ys:List D):Option Zf:=if fl then (if Uv D.flat ys then some (.row k ys true false) else none) else some (.tree k k ys none)
def ZeG (xs:List D) (n j:Nat) (y:D):Option (List D):=bnd xs[n]? fun x=>some (xs.set n (Yi x j [y]))
def Zpu (fl:Bool) (nx n j:Nat):Option Zf→Option (Zf×Zf)
 | some (.tree s k xs none)=>bnd (Wo xs n j) fun ys=>bnd (Zpt fl k ys) fun o=>bnd (ZeG xs n j (.sl [])) fun xs'=>some (.tree s k xs' (some (some nx,n,j)),o)
 | _=>none
def Za9 (fl:Bool) (id:Nat) (i:Opd) (j:Nat) (st:St):Option St:=bnd (idx (evO st.sl i)) fun n=>if 0≤n then bnd (Zpu fl st.nx n.toNat j (lkp st.hp id)) fun q=>some { st with hp:=ins (ins st.hp id q.1) st.nx q.2,nx:=st.nx+64 } else none
def ZiQ (k:Nat):Option Zf→Option (List D)
 | some (.row k' ys true false)=>if k'=k∧Uv D.flat ys then some ys else none
 | some (.tree k' n ys none)=>if k'=k∧n=k then some ys else none
 | _=>none
def Zgv (hp:Hp) (id nm:Nat):Option Zf→Option Hp
 | some (.tree s k xs (some (some nm',n,j)))=>if nm'=nm then bnd (ZiQ k (lkp hp nm)) fun ys=>bnd (ZeG xs n j (.sl ys)) fun xs'=>some (ins (del hp nm) id (.tree s k xs' none)) else none
 | _=>none
def ZqG (hp:Hp):Option Hp→Hp
 | some h=>h
 | none=>hp
def ZiR (id nm:Nat) (r:Option (Ex×St)):Option (Ex×St):=match r with
 | some q=>some (q.1,{ q.2 with hp:=ZqG q.2.hp (Zgv q.2.hp id nm (lkp q.2.hp id)) })
 | none=>none
def ZlR (st:St):St := { st with hp:=Zfh Zev st.hp }
noncomputable def Zv (N:Nat):ZH→St→Option (Ex×St)
 | .skip,st=>some (.normal,st)
 | .region n none ops,st=>ZgY st.m (st.nx+64*n) (Zb3 C M st.nx 0 ops st.sl st.hp)
 | .region n (some ps) ops,st=>ZgY st.m (st.nx+64*n) (Zkw ops ps (Wy C (XW M) st.nx 0 false ops st.sl st.hp))
 | .seq a b,st=>andThen (Zv N a st) (Zv N b)
 | .cond c a b,st=>Zc9 (evO st.sl c) (Zv N a st) (Zv N b st)
 | .block id c,st=>Zb6 id (Zv N c st)
 | .loop c,st=>Wz (Zv N c) (Uk st.sl) N st
 | .exit id,st=>some (.exit id,st)
 | .ret,st=>some (.ret,st)
 | .keep K c,st=>ZiP K (Zv N c st)
 | .stuck,_=>none
 | .link fl id i j c,st=>bnd (Za9 fl id i j st) fun st1=>ZiR id st.nx (Zv N c st1)
 | .melt c,st=>Zv N c (ZlR st)
def ZiS (st:St):ZjH→Option AV
 | .tmp t=>some (gs st.sl t)
 | .cell a g s=>VA st.hp g s (gs st.sl a)
def Y5 (m:Nat) (hp:Hp) (v:AV):AV×List Zf:=
 let ids:=QF hp (Xd hp) (Zl v++Vg hp (List.range m)) (List.range m)
 (Zau hp ids v,(JS hp ids).map (Zb5 hp ids))
def Zpv:AV→Bool
 | .tup _=>true
 | _=>false
def ZdM:List AV→Bool
 | []=>false
 | v :: r=>Zpv v || ZdM r
def Jo:List AV→AV
 | [v]=>v
 | vs=>if ZdM vs then .junk else .tup vs
def YL:Nat→List AV→Sl
 | _,[]=>[]
 | k,v :: r=>YL (k+1) r++[(k,v)]
def JZ (m:Nat) (rs:List ZjH) (r:Option (Ex×St)):Option (AV×List Zf):=match r with
 | some (.normal,st)=>bnd (Qe (ZiS st) rs) fun vs=>some (Y5 m st.hp (Jo vs))
 | some (.ret,st)=>bnd (Qe (ZiS st) rs) fun vs=>some (Y5 m st.hp (Jo vs))
 | _=>none
noncomputable def ZiT (N:Nat) (fn:Z9) (as:List AV) (h:List Zf):Option (AV×List Zf):=
 if as.length≤fn.nt then JZ h.length fn.res (Zv C M N fn.body { sl:=YL 0 as,hp:=YN 0 h,nx:=h.length,m:=h.length }) else none
end
inductive Fn where
 | text (f:Z9)
 | prim (p:List AV→List Zf→Option (AV×List Zf))
abbrev Fns:=Nat→Option Fn
noncomputable def ZfG (C:Orc) (M:Zh) (N:Nat) (as:List AV) (h:List Zf):Option Fn→Option (AV×List Zf)
 | some (.text f)=>ZiT C M N f as h
 | some (.prim p)=>p as h
 | none=>none
noncomputable def Z3 (X:Fns) (M:Zh):Nat→Orc
 | 0,_,_,_=>none
 | n+1,f,as,h=>ZfG (Z3 X M n) M n as h (X f)
open Classical in
noncomputable def lim {α:Type} (x:Nat→Option α):Option α:=if h:∃ r,∃ n,x n=some r then some h.choose else none
def ZqH {α:Type} (x:Nat→Option α):Prop:=∀ n r,x n=some r→x (n+1)=some r
theorem ZqH.le {α:Type} {x:Nat→Option α} (h:ZqH x) {n m:Nat} {r:α} (hr:x n=some r) (aa:n≤m):x m=some r:=by
 induction aa with
 | refl=>exact hr
 | step _ ih=>exact h _ _ ih
theorem ZdN {α:Type} {x:Nat→Option α} (h:ZqH x) {n:Nat} {r:α} (hr:x n=some r):lim x=some r:=by
 have he:∃ r,∃ n,x n=some r:=⟨r,n,hr⟩
 unfold lim;rw[dif_pos he];obtain⟨m,hm⟩:=he.choose_spec;have h1:=h.le hm (L8 m n);have h2:=h.le hr (L5 m n);rw[h1] at h2;exact h2
theorem Zb7 {α:Type} {x:Nat→Option α} {r:α} (hr:lim x=some r):∃ n,x n=some r:=by
 unfold lim at hr;split at hr
 ·rename_i h;obtain⟨n,hn⟩:=h.choose_spec;exact⟨n,by rw[hn];exact hr⟩
 ·cases hr
def Orc.le (C C' : Orc):Prop:=∀ f as h r,C f as h=some r→C' f as h=some r
section
variable {M:Zh} {C C' : Orc}
theorem Ul {α β:Type} {x x' : Option α} {f f' : α→Option β} {r:β} (hx:∀ a,x=some a→x'=some a) (hf:∀ a,f a=some r→f' a=some r) (h:bnd x f=some r):bnd x' f'=some r:=by
 obtain⟨a,h1,h2⟩:=Za h;rw[hx a h1];exact hf a h2
theorem Zsc (h:C.le C') {m:Nat→Bool} {hp:Hp} {base f:Nat} {aa:List AV} {r:Zb}
  (hr:JD C m hp base f aa=some r):JD C' m hp base f aa=some r:=by
 unfold JD at hr ⊢;refine Ul (fun _ h=>h) (fun as hr=>?_) hr;unfold ZaV at hr ⊢;by_cases hc:(as.flatMap Zl).all (QF hp (Xd hp) (as.flatMap Zl) []).contains∧¬(XV aa as).any (QF hp (Xd hp) (as.flatMap Zl) []).contains∧UC hp (as.flatMap Wx) (QF hp (Xd hp) (as.flatMap Zl) [])=true
 ·rw[Ko hc] at hr ⊢;exact Ul (fun q hq=>h _ _ _ _ hq) (fun _ h=>h) hr
 ·rw[Kf hc] at hr;cases hr
theorem ZlS (h:C.le C') {sl:Sl} {hp:Hp} {base:Nat} {o:COp} {r:Zb} (hr:vop C M sl hp base o=some r) :
  vop C' M sl hp base o=some r:=by
 cases o with
 | call f as=>
  simp only[vop] at hr ⊢;cases hg:evO sl f<;>simp only[hg,JV] at hr ⊢ <;> first | exact Zsc h hr | exact hr
 | _=>exact hr
theorem ZlT (h:C.le C') (nx:Nat):∀ (l:List CO) (i:Nat) (sl:Sl) (hp:Hp) (r:Sl×Hp),
  Zb3 C M nx i l sl hp=some r→Zb3 C' M nx i l sl hp=some r:=by
 intro l
 induction l with
 | nil=>intro i sl hp r hr;exact hr
 | cons o rest ih=>
  intro i sl hp r hr;simp only[Zb3] at hr ⊢;refine Ul (fun _ h=>h) (fun b hr=>?_) hr;cases b
  ·simp only[Ka,Kn] at hr ⊢;exact ih _ _ _ _ hr
  ·simp only[Kl] at hr ⊢;refine Ul (fun q hq=>?_) (fun q hq=>ih _ _ _ _ hq) hr;unfold XS at hq ⊢;exact Ul (fun e he=>ZlS h he) (fun _ h=>h) hq
theorem Zpw (h:C.le C') {nx i:Nat} {t:Bool} {o:COp} {sl:Sl} {hp:Hp} {e:Zb} (he:YM C M nx i t o sl hp=some e) :
  YM C' M nx i t o sl hp=some e:=by
 unfold YM at he ⊢;cases t
 ·simp only[Ka,Kn,Jn] at he ⊢;exact Ul (fun _ hv=>ZlS h hv) (fun _ h=>h) he
 ·simp only[Kl] at he ⊢;exact ZlS h he
theorem ZeH (h:C.le C') (nx:Nat):∀ (l:List CO) (i:Nat) (t:Bool) (sl:Sl) (hp:Hp) (r:Sl×Hp),
  Wy C M nx i t l sl hp=some r→Wy C' M nx i t l sl hp=some r:=by
 intro l
 induction l with
 | nil=>intro i t sl hp r hr;exact hr
 | cons o rest ih=>
  intro i t sl hp r hr;simp only[Wy] at hr ⊢;refine Ul (fun _ h=>h) (fun b hr=>?_) hr;cases b
  ·simp only[Ka,Kn] at hr ⊢;exact ih _ _ _ _ _ hr
  ·simp only[Kl] at hr ⊢;refine Ul (fun q hq=>?_) (fun q hq=>ih _ _ _ _ _ hq) hr;unfold XS at hq ⊢;exact Ul (fun e he=>Zpw h he) (fun _ h=>h) hq
theorem ZeI {f g:St→Option (Ex×St)} (h:∀ st r,f st=some r→g st=some r) (K:List Nat) :
  ∀ (n m:Nat) (st:St) (r:Ex×St),n≤m→Wz f K n st=some r→Wz g K m st=some r:=by
 intro n
 induction n with
 | zero=>intro m st r _ hr;simp[Wz] at hr
 | succ n ih=>
  intro m st r hm hr;cases m with
  | zero=>omega
  | succ m=>
   simp only[Wz] at hr ⊢;cases hf:f (V3 K st) with
   | none=>simp[hf] at hr
   | some q=>
    rw[hf] at hr;rw[h _ _ hf];obtain⟨e,aa⟩:=q;cases e with
    | normal=>exact ih m aa r (by omega) hr
    | exit id=>exact hr
    | ret=>exact hr
theorem Zhb (h:C.le C') {N N' : Nat} (hN:N≤N'):∀ (c:ZH) (st:St) (r:Ex×St),
  Zv C M N c st=some r→Zv C' M N' c st=some r:=by
 intro c
 induction c with
 | skip=>intro st r hr;simpa [Zv] using hr
 | region n draw ops=>
  intro st r hr;cases draw
  ·simp only[Zv,ZgY] at hr ⊢;exact Ul (fun q hq=>ZlT h _ _ _ _ _ _ hq) (fun _ h=>h) hr
  ·simp only[Zv,ZgY,Zkw] at hr ⊢;exact Ul (fun q hq=>Ul (fun q hq=>ZeH h _ _ _ _ _ _ _ hq) (fun _ h=>h) hq) (fun _ h=>h) hr
 | seq a b iha ihb=>
  intro st r hr;simp only[Zv] at hr ⊢;cases ha:Zv C M N a st with
  | none=>simp[ha,andThen] at hr
  | some q=>
   rw[ha] at hr;rw[iha _ _ ha];obtain⟨e,aa⟩:=q;cases e with
   | normal=>exact ihb _ _ hr
   | exit id=>exact hr
   | ret=>exact hr
 | cond c a b iha ihb=>
  intro st r hr;simp only[Zv,Zc9] at hr ⊢;split at hr
  ·rename_i t ht;cases t
   ·simp only[Ka,Kn] at hr ⊢;exact ihb _ _ hr
   ·simp only[Kl] at hr ⊢;exact iha _ _ hr
  ·cases hr
 | block id c ih=>
  intro st r hr;simp only[Zv] at hr ⊢;cases hc:Zv C M N c st with
  | none=>simp[hc,Zb6] at hr
  | some q=>rw[hc] at hr;rw[ih _ _ hc];exact hr
 | loop c ih=>
  intro st r hr;simp only[Zv] at hr ⊢;exact ZeI ih _ _ _ _ _ hN hr
 | exit id=>intro st r hr;simpa [Zv] using hr
 | ret=>intro st r hr;simpa [Zv] using hr
 | keep K c ih=>
  intro st r hr;simp only[Zv] at hr ⊢;cases hc:Zv C M N c st with
  | none=>simp[hc,ZiP] at hr
  | some q=>rw[hc] at hr;rw[ih _ _ hc];exact hr
 | stuck=>intro st r hr;simp[Zv] at hr
 | link fl id i j c ih=>
  intro st r hr;simp only[Zv] at hr ⊢;obtain⟨aa,h1,h2⟩:=Za hr;rw[h1,Zc];cases hc:Zv C M N c aa with
  | none=>simp[hc,ZiR] at h2
  | some q=>rw[hc] at h2;rw[ih _ _ hc];exact h2
 | melt c ih=>
  intro st r hr;simp only[Zv] at hr ⊢;exact ih _ r hr
theorem Zsd (h:C.le C') {N N' : Nat} (hN:N≤N') {f:Z9} {as:List AV} {hh:List Zf} {r:AV×List Zf}
  (hr:ZiT C M N f as hh=some r):ZiT C' M N' f as hh=some r:=by
 unfold ZiT at hr ⊢;by_cases hl:as.length≤f.nt
 ·rw[Ko hl] at hr ⊢;cases hv:Zv C M N f.body { sl:=YL 0 as,hp:=YN 0 hh,nx:=hh.length,m:=hh.length } with
  | none=>simp[hv,JZ] at hr
  | some q=>rw[hv] at hr;rw[Zhb h hN _ _ _ hv];exact hr
 ·rw[Kf hl] at hr;cases hr
end
section
variable (X:Fns) (M:Zh)
theorem ZfH:∀ n,(Z3 X M n).le (Z3 X M (n+1)):=by
 intro n
 induction n with
 | zero=>intro f as h r hr;simp[Z3] at hr
 | succ n ih=>
  intro f as h r hr;rw[Z3] at hr ⊢;cases hf:X f with
  | none=>rw[hf] at hr;cases hr
  | some g=>
   rw[hf] at hr;cases g with
   | text g=>exact Zsd ih (Nat.le_succ n) hr
   | prim p=>exact hr
noncomputable def Zj (f:Nat) (as:List AV) (h:List Zf):Option (AV×List Zf):=lim fun n=>Z3 X M n f as h
noncomputable def Qo (c:ZH) (st:St):Option (Ex×St):=lim fun n=>Zv (Z3 X M n) M n c st
theorem JF (f:Nat) (as:List AV) (h:List Zf):ZqH fun n=>Z3 X M n f as h:=fun n r hr=>ZfH X M n f as h r hr
theorem Zba (n:Nat):(Z3 X M n).le (Zj X M):=fun f as h _ hr=>ZdN (JF X M f as h) hr
theorem ZdO (c:ZH) (st:St):ZqH fun n=>Zv (Z3 X M n) M n c st:=fun n r hr=>Zhb (ZfH X M n) (Nat.le_succ n) c st r hr
theorem Jp {n m:Nat} (h:n≤m):(Z3 X M n).le (Z3 X M m):=fun f as hh _ hr=>(JF X M f as hh).le hr h
theorem Znj {m:Nat→Bool} {hp:Hp} {base f:Nat} {aa:List AV} {r:Zb}
  (hr:JD (Zj X M) m hp base f aa=some r):∃ n,JD (Z3 X M n) m hp base f aa=some r:=by
 unfold JD at hr ⊢;obtain⟨as,ab,hr⟩:=Za hr;simp only[ab,Zc];unfold ZaV at hr ⊢;by_cases hc:(as.flatMap Zl).all (QF hp (Xd hp) (as.flatMap Zl) []).contains∧¬(XV aa as).any (QF hp (Xd hp) (as.flatMap Zl) []).contains∧UC hp (as.flatMap Wx) (QF hp (Xd hp) (as.flatMap Zl) [])=true
 ·rw[Ko hc] at hr;obtain⟨q,hq,hr⟩:=Za hr;obtain⟨n,hn⟩:=Zb7 hq;refine⟨n,?_⟩;rw[Ko hc,hn];exact hr
 ·rw[Kf hc] at hr;cases hr
theorem ZfI {M' : Zh} {sl:Sl} {hp:Hp} {base:Nat} {o:COp} {r:Zb} (hr:vop (Zj X M) M' sl hp base o=some r) :
  ∃ n,vop (Z3 X M n) M' sl hp base o=some r:=by
 cases o with
 | call f as=>
  simp only[vop] at hr ⊢;cases hg:evO sl f<;>simp only[hg,JV] at hr ⊢ <;> first | exact Znj X M hr | exact⟨0,hr⟩
 | _=>exact⟨0,hr⟩
theorem Zou (nx:Nat):∀ (l:List CO) (i:Nat) (sl:Sl) (hp:Hp) (r:Sl×Hp),
  Zb3 (Zj X M) M nx i l sl hp=some r→∃ n,Zb3 (Z3 X M n) M nx i l sl hp=some r:=by
 intro l
 induction l with
 | nil=>intro i sl hp r hr;exact⟨0,hr⟩
 | cons o rest ih=>
  intro i sl hp r hr;simp only[Zb3] at hr ⊢;obtain⟨b,hb,hr⟩:=Za hr;simp only[hb,Zc];cases b
  ·simp only[Ka,Kn] at hr ⊢;exact ih _ _ _ _ hr
  ·simp only[Kl] at hr ⊢;obtain⟨q,hq,hr⟩:=Za hr;unfold XS at hq;obtain⟨e,he,hq⟩:=Za hq;obtain⟨n1,h1⟩:=ZfI X M he;obtain⟨n2,h2⟩:=ih _ _ _ _ hr;refine⟨max n1 n2,?_⟩;unfold XS;rw[ZlS (Jp X M (L8 n1 n2)) h1,Zc,hq,Zc];exact ZlT (Jp X M (L5 n1 n2)) _ _ _ _ _ _ h2
theorem Zov {M' : Zh} {nx i:Nat} {t:Bool} {o:COp} {sl:Sl} {hp:Hp} {e:Zb} (he:YM (Zj X M) M' nx i t o sl hp=some e) :
  ∃ n,YM (Z3 X M n) M' nx i t o sl hp=some e:=by
 unfold YM at he ⊢;cases t
 ·simp only[Ka,Kn,Jn] at he ⊢;obtain⟨e',aa,h2⟩:=Za he;obtain⟨n,hn⟩:=ZfI X M aa;exact⟨n,by rw[hn];exact h2⟩
 ·simp only[Kl] at he ⊢;exact ZfI X M he
theorem Znk {M' : Zh} (nx:Nat):∀ (l:List CO) (i:Nat) (t:Bool) (sl:Sl) (hp:Hp) (r:Sl×Hp),
  Wy (Zj X M) M' nx i t l sl hp=some r→∃ n,Wy (Z3 X M n) M' nx i t l sl hp=some r:=by
 intro l
 induction l with
 | nil=>intro i t sl hp r hr;exact⟨0,hr⟩
 | cons o rest ih=>
  intro i t sl hp r hr;simp only[Wy] at hr ⊢;obtain⟨b,hb,hr⟩:=Za hr;simp only[hb,Zc];cases b
  ·simp only[Ka,Kn] at hr ⊢;exact ih _ _ _ _ _ hr
  ·simp only[Kl] at hr ⊢;obtain⟨q,hq,hr⟩:=Za hr;unfold XS at hq;obtain⟨e,he,hq⟩:=Za hq;obtain⟨n1,h1⟩:=Zov X M he;obtain⟨n2,h2⟩:=ih _ _ _ _ _ hr;refine⟨max n1 n2,?_⟩;unfold XS;rw[Zpw (Jp X M (L8 n1 n2)) h1,Zc,hq,Zc];exact ZeH (Jp X M (L5 n1 n2)) _ _ _ _ _ _ _ h2
theorem QW {c:ZH} {st:St} {n:Nat} {r:Ex×St} (h:Zv (Z3 X M n) M n c st=some r):Qo X M c st=some r:=
 ZdN (ZdO X M c st) h
theorem X9 {α:Type} {x:Nat→Option α} (h:∀ n,x n=none):lim x=none:=by
 cases hx:lim x with
 | none=>rfl
 | some r=>obtain⟨n,hn⟩:=Zb7 hx;rw[h n] at hn;cases hn
theorem Zow (st:St):Qo X M .skip st=some (.normal,st):=QW X M (n:=0) (by simp[Zv])
theorem Zox (id:Nat) (st:St):Qo X M (.exit id) st=some (.exit id,st):=QW X M (n:=0) (by simp[Zv])
theorem ZqI (st:St):Qo X M .ret st=some (.ret,st):=QW X M (n:=0) (by simp[Zv])
theorem ZlU (n:Nat) (ops:List CO) (st:St) :
  Qo X M (.region n none ops) st=ZgY st.m (st.nx+64*n) (Zb3 (Zj X M) M st.nx 0 ops st.sl st.hp):=by
 cases h:Zb3 (Zj X M) M st.nx 0 ops st.sl st.hp with
 | some r=>
  obtain⟨k,hk⟩:=Zou X M _ _ _ _ _ _ h;exact QW X M (n:=k) (by simp only[Zv,hk,ZgY,Zc])
 | none=>
  refine X9 fun k=>?_;simp only[Zv];cases hn:Zb3 (Z3 X M k) M st.nx 0 ops st.sl st.hp with
  | none=>rfl
  | some r=>rw[ZlT (Zba X M k) _ _ _ _ _ _ hn] at h;cases h
theorem Zoy (n:Nat) (ps:List (Nat×Nat)) (ops:List CO) (st:St) :
  Qo X M (.region n (some ps) ops) st=ZgY st.m (st.nx+64*n) (Zkw ops ps (Wy (Zj X M) (XW M) st.nx 0 false ops st.sl st.hp)):=by
 cases h:Wy (Zj X M) (XW M) st.nx 0 false ops st.sl st.hp with
 | some r=>
  obtain⟨k,hk⟩:=Znk X M _ _ _ _ _ _ _ h;cases hs:Zkw ops ps (some r) with
  | none=>
   refine X9 fun k'=>?_;simp only[Zv];cases hn:Wy (Z3 X M k') (XW M) st.nx 0 false ops st.sl st.hp with
   | none=>rfl
   | some r' =>
    have:=ZeH (Zba X M k') _ _ _ _ _ _ _ hn;rw[h] at this;cases this;rw[hs];rfl
  | some r'=>exact QW X M (n:=k) (by simp only[Zv,hk,hs];rfl)
 | none=>
  refine X9 fun k=>?_;simp only[Zv];cases hn:Wy (Z3 X M k) (XW M) st.nx 0 false ops st.sl st.hp with
  | none=>rfl
  | some r=>rw[ZeH (Zba X M k) _ _ _ _ _ _ _ hn] at h;cases h
theorem Ws {c:ZH} {st:St} {r:Ex×St} (h:Qo X M c st=some r):∃ n,∀ m,n≤m→Zv (Z3 X M m) M m c st=some r:=by
 obtain⟨n,hn⟩:=Zb7 h;exact⟨n,fun m hm=>(ZdO X M c st).le hn hm⟩
theorem ZqJ (a b:ZH) (st:St):Qo X M (.seq a b) st=andThen (Qo X M a st) (Qo X M b):=by
 cases ha:Qo X M a st with
 | none=>
  refine X9 fun n=>?_;cases h:Zv (Z3 X M n) M n a st with
  | none=>simp[Zv,h,andThen]
  | some q=>rw[QW X M h] at ha;cases ha
 | some q=>
  obtain⟨e,aa⟩:=q;obtain⟨n,hn⟩:=Ws X M ha;cases e with
  | normal=>
   simp only[andThen];cases hb:Qo X M b aa with
   | none=>
    refine X9 fun k=>?_;cases h:Zv (Z3 X M k) M k (.seq a b) st with
    | none=>rfl
    | some q=>
     have h1:=(ZdO X M (.seq a b) st).le h (L8 k n);simp only[Zv,hn _ (L5 k n),andThen] at h1;rw[QW X M h1] at hb;cases hb
   | some q=>
    obtain⟨m,hm⟩:=Ws X M hb;refine QW X M (n:=max n m) ?_;simp only[Zv,hn _ (L8 n m),andThen,hm _ (L5 n m)]
  | exit id=>exact QW X M (n:=n) (by simp only[Zv,hn _ (Kg n),andThen])
  | ret=>exact QW X M (n:=n) (by simp only[Zv,hn _ (Kg n),andThen])
theorem Zoz (c:Opd) (a b:ZH) (st:St) :
  Qo X M (.cond c a b) st=Zc9 (evO st.sl c) (Qo X M a st) (Qo X M b st):=by
 unfold Zc9;split
 ·rename_i t h;cases t
  ·simp only[Ka,Kn,Qo,Zv,h,Zc9]
  ·simp only[Kl,Qo,Zv,h,Zc9]
 ·rename_i h;refine X9 fun n=>?_;simp only[Zv,Zc9]
theorem Znl (id:Nat) (c:ZH) (st:St):Qo X M (.block id c) st=Zb6 id (Qo X M c st):=by
 cases hc:Qo X M c st with
 | none=>
  refine X9 fun n=>?_;cases h:Zv (Z3 X M n) M n c st with
  | none=>simp[Zv,h,Zb6]
  | some q=>rw[QW X M h] at hc;cases hc
 | some q=>
  obtain⟨n,hn⟩:=Ws X M hc;cases hb:Zb6 id (some q) with
  | none=>
   obtain⟨e,aa⟩:=q;cases e<;>simp[Zb6] at hb
   split at hb<;>cases hb
  | some r=>exact QW X M (n:=n) (by simp only[Zv,hn _ (Kg n),hb])
theorem ZoA (K:List Nat) (c:ZH) (st:St):Qo X M (.keep K c) st=ZiP K (Qo X M c st):=by
 cases hc:Qo X M c st with
 | none=>
  refine X9 fun n=>?_;cases h:Zv (Z3 X M n) M n c st with
  | none=>simp[Zv,h,ZiP]
  | some q=>rw[QW X M h] at hc;cases hc
 | some q=>
  obtain⟨n,hn⟩:=Ws X M hc;exact QW X M (n:=n) (by simp only[Zv,hn _ (Kg n),ZiP])
theorem ZoB (fl:Bool) (id:Nat) (i:Opd) (j:Nat) (c:ZH) (st:St):Qo X M (.link fl id i j c) st=bnd (Za9 fl id i j st) fun aa=>ZiR id st.nx (Qo X M c aa):=by
 cases hl:Za9 fl id i j st with
 | none=>
  refine X9 fun n=>?_;simp only[Zv,hl];rfl
 | some st' =>
  rw[Zc];cases hc:Qo X M c st' with
  | none=>
   refine X9 fun n=>?_;cases h:Zv (Z3 X M n) M n c st' with
   | none=>simp only[Zv,hl,Zc,h];rfl
   | some q=>rw[QW X M h] at hc;cases hc
  | some q=>
   obtain⟨n,hn⟩:=Ws X M hc;exact QW X M (n:=n) (by simp only[Zv,hl,Zc,hn _ (Kg n)];rfl)
theorem ZoC (c:ZH) (st:St):Qo X M (.melt c) st=Qo X M c (ZlR st):=by
 cases hc:Qo X M c (ZlR st) with
 | none=>
  refine X9 fun n=>?_;cases h:Zv (Z3 X M n) M n c (ZlR st) with
  | none=>simp only[Zv,h]
  | some q=>rw[QW X M h] at hc;cases hc
 | some q=>
  obtain⟨n,hn⟩:=Ws X M hc;exact QW X M (n:=n) (by simp only[Zv,hn _ (Kg n)])
noncomputable def Zb8 (c:ZH) (K:List Nat) (st:St):Option (Ex×St):=lim fun n=>Wz (Zv (Z3 X M n) M n c) K n st
theorem JG (c:ZH) (K:List Nat) (st:St):ZqH fun n=>Wz (Zv (Z3 X M n) M n c) K n st:=fun n r hr=>
 ZeI (fun _ _ h=>Zhb (ZfH X M n) (Nat.le_succ n) c _ _ h) K n (n+1) st r (Nat.le_succ n) hr
theorem ZoD (c:ZH) (st:St):Qo X M (.loop c) st=Zb8 X M c (Uk st.sl) st:=by
 simp only[Qo,Zb8,Zv]
theorem Znm {c:ZH} {K:List Nat} {st aa : St} (h:Qo X M c (V3 K st)=some (.normal,aa)) :
  Zb8 X M c K st=Zb8 X M c K aa:=by
 obtain⟨n,hn⟩:=Ws X M h;cases hl:Zb8 X M c K aa with
 | none=>
  refine X9 fun k=>?_;cases hk:Wz (Zv (Z3 X M k) M k c) K k st with
  | none=>rfl
  | some q=>
   have h1:=(JG X M c K st).le hk (show k≤max k n+1 by omega);simp only[Wz] at h1;rw[hn (max k n+1) (by omega)] at h1;simp only[] at h1;have h2:=ZeI (fun _ _ h=>h) K (max k n) (max k n+1) aa q (Nat.le_succ _) h1;rw[show Zb8 X M c K aa=some q from ZdN (JG X M c K aa) h2] at hl;cases hl
 | some q=>
  obtain⟨m,hm⟩:=Zb7 hl;refine ZdN (JG X M c K st) (n:=max n m+1) ?_;simp only[Wz,hn (max n m+1) (by omega)];exact ZeI (fun _ _ h=>Zhb (Jp X M (show m≤max n m+1 by omega)) (show m≤max n m+1 by omega) c _ _ h) K m (max n m) aa q (by omega) hm
theorem ZiU {c:ZH} {K:List Nat} {st aa : St} {e:Ex} (he:e≠.normal) (h:Qo X M c (V3 K st)=some (e,aa)) :
  Zb8 X M c K st=some (e,aa):=by
 obtain⟨n,hn⟩:=Ws X M h;refine ZdN (JG X M c K st) (n:=n+1) ?_;simp only[Wz,hn (n+1) (by omega)];cases e with
 | normal=>exact absurd rfl he
 | exit id=>rfl
 | ret=>rfl
theorem Zse {f:Nat} {as:List AV} {h:List Zf} {fn:Z9} {r:AV×List Zf} (hx:X f=some (.text fn))
  (hl:as.length≤fn.nt) (hr:JZ h.length fn.res (Qo X M fn.body { sl:=YL 0 as,hp:=YN 0 h,nx:=h.length,m:=h.length })=some r) :
  Zj X M f as h=some r:=by
 cases hv:Qo X M fn.body { sl:=YL 0 as,hp:=YN 0 h,nx:=h.length,m:=h.length } with
 | none=>rw[hv] at hr;simp[JZ] at hr
 | some q=>
  rw[hv] at hr;obtain⟨n,hn⟩:=Ws X M hv;refine ZdN (JF X M f as h) (n:=n+1) ?_;simp only[Z3,hx,ZfG,ZiT,hl,Kl,hn n (Kg n)];exact hr
theorem ZiV {f:Nat} {as:List AV} {h:List Zf} {p:List AV→List Zf→Option (AV×List Zf)} {r:AV×List Zf} (hx:X f=some (.prim p)) (hp:p as h=some r) :
  Zj X M f as h=some r:=
 ZdN (JF X M f as h) (n:=1) (by simp only[Z3,hx,ZfG,hp])
end
section
variable (P:Program)
def Vm (nt:Nat):Code→Option ZH
 | .skip=>some .skip
 | .region _ ops draw=>bnd (Qe (Zgs P nt ops.toList) ops.toList) fun os=>if draw then (if ZiO ops os then some (.region ops.toList.length (some (Jk ops os)) os) else some .stuck) else some (.region ops.toList.length none os)
 | .seq a b=>bnd (Vm nt a) fun a=>bnd (Vm nt b) fun b=>some (.seq a b)
 | .cond c a b=>bnd (ZJ c) fun c=>bnd (Vm nt a) fun a=>bnd (Vm nt b) fun b=>some (.cond c a b)
 | .block id c=>bnd (Vm nt c) fun c=>some (.block id c)
 | .loop c=>bnd (Vm nt c) fun c=>some (.loop c)
 | .exit id=>some (.exit id)
 | .ret=>some .ret
 | _=>some .stuck
def Zbb:COp→COp
 | .buildT s _ xs=>.buildSl s xs
 | .asgT s _ x=>.assign (some s) x
 | .appT s b flat x y=>.append s b false flat x y
 | .makeT s b _ z l c=>.make s b z l c
 | c=>c
def ZfJ:List CO→List CO
 | []=>[]
 | o :: r => { o with op:=Zbb o.op } :: ZfJ r
def ZoE:Option (List (Nat×Nat))→List CO→List CO
 | none,ops=>ZfJ ops
 | some _,ops=>ops
def XT:ZH→ZH
 | .keep _ c=>XT c
 | .seq a b=>.seq (XT a) (XT b)
 | .cond c a b=>.cond c (XT a) (XT b)
 | .block id c=>.block id (XT c)
 | .loop c=>.loop (XT c)
 | .region n d ops=>.region n d (ZoE d ops)
 | .link _ _ _ _ c=>XT c
 | .melt c=>XT c
 | .skip=>.skip
 | .exit id=>.exit id
 | .ret=>.ret
 | .stuck=>.stuck
def ZfK (cf:Z9):Z9 := { nt:=cf.nt,res:=cf.res,body:=XT cf.body }
def cRes:ResultVar→Option ZjH
 | .tmp t=>some (.tmp t)
 | .cell a t=>bnd (Zaq P t) fun g=>some (.cell a g (P.cellsOf t))
def cFun (fn:Func):Option Z9:=bnd fn.body fun c=>bnd (Vm P fn.ntmps c) fun b=>bnd (Qe (cRes P) fn.results.toList) fun rs=>some { nt:=fn.ntmps,res:=rs,body:=b }
end
end Go.Abs
