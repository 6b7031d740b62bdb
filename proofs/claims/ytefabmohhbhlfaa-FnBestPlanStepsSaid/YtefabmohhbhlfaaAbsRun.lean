/- Own text. -/
import Derived.Test.YtefabmohhbhlfaaAbsOps
set_option linter.unusedVariables false
set_option linter.unusedSimpArgs false
namespace Go.Abs
open Go
inductive Ex where
 | normal
 | exit (id:Nat)
 | ret
def QA (lo hi:Nat):Hp→Bool
 | []=>true
 | (k,_) :: r=>decide (lo≤k)&&decide (k<hi)&&QA (k+1) hi r
def QK (gone:List Nat) (sl:Sl):Sl:=match gone with
 | []=>sl
 | _=>ZfX (kill gone) sl
def Y0 (gone:List Nat) (hp:Hp):Hp:=match gone with
 | []=>hp
 | _=>ZfX (QU gone) hp
def Zk (sl:Sl) (dst:Option Nat) (v:AV):Sl:=match dst with
 | some t=>ins sl t v
 | none=>sl
def Zb.on (e:Zb) (dst:Option Nat) (sl:Sl) (hp:Hp):Sl×Hp:=
 (Zk (QK e.gone sl) dst e.eff.val,e.eff.on (Y0 e.gone hp))
def XQ (base:Nat) (dst:Option Nat) (sl:Sl) (hp:Hp) (e:Option Zb):Option (Sl×Hp):=
 bnd e fun e=>if QA base (base+64) e.eff.adds then some (e.on dst sl hp) else none
def ZbP (want:Bool):AV→Option Bool
 | .d (.bool b)=>some (b==want)
 | .tup []=>some false
 | _=>none
def ZR (sl:Sl):Option (Nat×Bool)→Option Bool
 | none=>some true
 | some q=>ZbP q.2 (gs sl q.1)
inductive ZG where
 | skip
 | region (n:Nat) (draw:Option (List (Nat×Nat))) (ops:List CO)
 | seq (a b:ZG)
 | cond (c:Opd) (a b:ZG)
 | block (id:Nat) (c:ZG)
 | loop (c:ZG)
 | exit (id:Nat)
 | ret
 | keep (K:List Nat) (c:ZG)
 | stuck
 | link (fl:Bool) (id:Nat) (i:Opd) (j:Nat) (c:ZG)
 | melt (c:ZG)
 | peek (id:Nat) (c:ZG)
inductive ZkM where
 | tmp (t:Nat)
 | cell (a:Nat) (g:Bool) (s:Nat)
structure ZT where
 nt:Nat
 res:List ZkM
 body:ZG
def Zpk (x:Option Opd):List Opd:=match x with
 | some y=>[y]
 | none=>[]
def Zv:COp→List Opd
 | .move x=>[x]
 | .assign _ x=>[x]
 | .pick c a b=>[c,a,b]
 | .alloc _ _=>[]
 | .box x=>[x]
 | .build _ ps=>ps.map fun q=>q.2.2
 | .buildSl _ xs=>xs
 | .load _ _ a=>[a]
 | .store _ _ a x=>[a,x]
 | .nilCheck x=>[x]
 | .bin _ _ x y=>[x,y]
 | .un _ x=>[x]
 | .eqA _ _ x y=>[x,y]
 | .convI _ x=>[x]
 | .convS x=>[x]
 | .fn _ cs=>cs
 | .make _ _ _ l c=>[l,c]
 | .slice _ x lo hi=>x :: (Zpk lo++Zpk hi)
 | .sliceS x lo hi=>x :: (Zpk lo++Zpk hi)
 | .slice0 x hi mx=>[x,hi,mx]
 | .shift _ x=>[x]
 | .part _ _ _ x=>[x]
 | .iaS _ x i=>[x,i]
 | .iaA _ _ x i=>[x,i]
 | .ixS x i=>[x,i]
 | .ixA _ _ _ x i=>[x,i]
 | .nth _ x=>[x]
 | .len x=>[x]
 | .lenS x=>[x]
 | .append _ _ _ _ x y=>[x,y]
 | .min x y=>[x,y]
 | .max x y=>[x,y]
 | .call f as=>f :: as
 | .slice3 _ x lo hi mx=>[x,lo,hi,mx]
 | .clear _ _ x=>[x]
 | .stuck=>[]
 | .buildT _ _ xs=>xs
 | .appT _ _ _ x y=>[x,y]
 | .asgT _ _ x=>[x]
 | .makeT _ _ _ _ l c=>[l,c]
def Zdo:COp→Bool
 | .store _ _ _ _=>true
 | _=>false
def isApp:COp→Bool
 | .append _ _ _ _ _ _=>true
 | _=>false
def ZjE (c:COp):Bool:=Zdo c || isApp c
def CO.starts (o:CO):Bool:=Zdo o.op || o.tl
def ZM (os:List CO) (i:Nat):Bool:=match os[i]? with
 | some o=>CO.starts o
 | none=>false
def U1:Opd→List Nat
 | .t n=>[n]
 | _=>[]
def ZjF:Option (Nat×Bool)→List Nat
 | some q=>[q.1]
 | none=>[]
def X0 (o:CO):List Nat:=(Zv o.op).flatMap U1++ZjF o.guard
def Qr:Option Nat→List Nat→Bool
 | some d,l=>!l.contains d
 | none,_=>true
def Ut:Option Nat→Option Nat→Bool
 | some d,some e=>d != e
 | _,_=>true
def Q7 (a b:CO):Bool:=Qr a.dst (X0 b)&&Ut a.dst b.dst&&Qr b.dst (X0 a)
def X3:Opd→Bool
 | .v a=>(Zo a).isEmpty&&!ZkW a
 | _=>true
def ZmI (os:List CO) (j i:Nat):Bool:=match os[j]?,os[i]? with
 | some a,some b=>Q7 a b
 | _,_=>false
def Vm:COp→Bool
 | .load _ _ _=>false
 | .store _ _ _ _=>false
 | .slice _ _ _ _=>false
 | .slice0 _ _ _=>false
 | .iaS _ _ _=>false
 | .len _=>false
 | .append _ _ _ _ _ _=>false
 | .buildSl _ _=>false
 | .buildT _ _ _=>false
 | .appT _ _ _ _ _=>false
 | .asgT _ _ _=>false
 | .makeT _ _ _ _ _ _=>false
 | .call _ _=>false
 | .slice3 _ _ _ _ _=>false
 | .clear _ _ _=>false
 | _=>true
def W4:COp→Bool
 | .load _ _ _=>true
 | .slice _ _ _ _=>true
 | .slice0 _ _ _=>true
 | .iaS _ _ _=>true
 | .len _=>true
 | _=>false
def Zpl:COp→Bool
 | .clear _ _ _=>false
 | .store _ _ _ _=>false
 | .append _ _ _ _ _ _=>false
 | .buildSl _ _=>false
 | .buildT _ _ _=>false
 | .appT _ _ _ _ _=>false
 | .asgT _ _ _=>false
 | .makeT _ _ _ _ _ _=>false
 | .call _ _=>false
 | _=>true
def Ws (os:List CO) (k:Nat):Option Nat:=match os[k]? with
 | some o=>o.dst
 | none=>none
def ZmJ (os:List CO) (k:Nat):List Nat:=match os[k]? with
 | some o=>X0 o
 | none=>[]
def U3 (os:List CO) (k:Nat):Bool:=(List.range os.length).all fun q=>decide (q<k) || Qr (Ws os q) (ZmJ os k)
def Yd:COp→Bool
 | .move _=>true
 | _=>false
def ZbQ:COp→Bool
 | .append _ _ _ _ _ _=>true
 | .buildSl _ _=>true
 | _=>false
def UG:COp→Bool
 | .call (.f _) _=>true
 | _=>false
def Zgi:COp→List Opd
 | .call _ as=>as
 | _=>[]
def Zpm:COp→Bool
 | .alloc _ _=>false
 | .box _=>false
 | .assign _ _=>false
 | .make _ _ _ _ _=>false
 | .fn _ _=>false
 | _=>true
def Zlv:COp→Bool
 | .buildSl _ _=>true
 | _=>false
def ZaM:AV→Bool
 | .d _=>true
 | .nil=>true
 | .nilp=>true
 | .nili=>true
 | _=>false
def Yz:List AV→Bool
 | []=>true
 | c :: r=>ZaM c&&Yz r
def ZhK:COp→Bool
 | .alloc _ cs=>Yz cs
 | _=>false
def ZjG (c:COp):Bool:=W4 c || Zlv c || (Vm c&&Zpm c) || ZhK c
def Zfo:COp→Bool
 | .alloc _ cs=>Yz cs
 | .buildSl _ _=>true
 | .load _ _ _=>true
 | .nilCheck _=>true
 | .bin _ _ _ _=>true
 | .un _ _=>true
 | .convI _ _=>true
 | .shift _ _=>true
 | .iaS _ _ _=>true
 | .slice _ _ _ _=>true
 | .len _=>true
 | .sliceS _ _ _=>true
 | .lenS _=>true
 | _=>false
def Zut:Option Nat→Bool
 | some _=>true
 | none=>false
def ZhA (os:List CO) (k:Nat):Bool:=Zut (Ws os k)&&(List.range os.length).all fun q=>q==k || Ut (Ws os q) (Ws os k)
def Zfp (os:List CO) (j i:Nat):Bool:=U3 os j&&U3 os i
def Zs0 (os:List CO) (j i:Nat) (a b:COp):Bool:=
 Zpl b || (ZjE b&&(Vm a || (!Yd a&&W4 a&&Zfp os j i))) || (Yd a&&(ZbQ b || ZhA os j)) || (!Yd a&&UG b&&ZjG a&&Zfp os j i&&ZhA os j)
def Zs1 (os:List CO) (j i:Nat) (a b:COp):Bool:=(Yd b&&ZhA os i) || (!Yd b&&UG a&&Zfo b&&Zfp os j i&&ZhA os i)
def ZmK (os:List CO) (j i:Nat):Bool:=match os[j]?,os[i]? with
 | some a,some b=>if ZM os j then !ZM os i&&Zs1 os j i a.op b.op else !ZM os i || Zs0 os j i a.op b.op
 | _,_=>false
def ZbR (os:List CO) (j i:Nat):Option (Nat×Nat):=match os[j]?,os[i]? with
 | some a,some b=>if ZM os j then (if Yd b.op || UG a.op then some (i,j) else none) else
   if ZM os i&&(if ZjE b.op then !(Vm a.op) else if Yd a.op then !(ZbQ b.op) else UG b.op) then some (j,i) else none
 | _,_=>none
def optP:Option (Nat×Nat)→List (Nat×Nat)
 | some p=>[p]
 | none=>[]
def Uu (ops:Array Oper) (os:List CO):List (Nat×Nat):=
 (List.range ops.size).flatMap fun i=>(List.range i).flatMap fun j=>if ZcG ops 6 i j then [] else optP (ZbR os j i)
def ZjH (ops:Array Oper) (os:List CO):Bool:=
 (List.range ops.size).all (fun i=>(YY ops i).all fun e=>decide (e<i)) &&
 (List.range ops.size).all (fun i=>(List.range i).all fun j=>(YY ops i).contains j || ZmI os j i) &&
 (List.range ops.size).all (fun i=>(List.range i).all fun j=>ZcG ops 6 i j || ZmK os j i) &&
 os.all (fun o=>(Zv o.op).all X3)
def JX (id:Nat):AV→Bool
 | .d _=>true
 | .pim _=>true
 | .nil=>true
 | .ptr k _=>k != id
 | .prow k _ _ _=>k != id
 | .own k=>k != id
 | .ownv k _ _=>k != id
 | .nilp=>true
 | .nili=>true
 | .tup []=>true
 | _=>false
def okC:AV→Bool
 | .d _=>true
 | .pim _=>true
 | .nil=>true
 | .ptr _ _=>true
 | .prow _ _ _ _=>true
 | .own _=>true
 | .ownv _ _ _=>true
 | .nilp=>true
 | .nili=>true
 | _=>false
def ZmL:List AV→Bool
 | []=>true
 | v :: r=>okC v&&ZmL r
def okV:AV→Bool
 | .agg cs=>ZmL cs
 | .tup []=>true
 | v=>okC v
def okL (sl:Sl):List Opd→Bool
 | []=>true
 | x :: r=>okV (evO sl x)&&okL sl r
def okD (sl:Sl):Option Nat→Bool
 | some t=>okV (gs sl t)
 | none=>true
def YA:AV→Option Nat
 | .ptr k _=>some k
 | .prow k _ _ _=>some k
 | _=>none
def Qx (sl:Sl) (id:Nat):List Opd→Bool
 | []=>true
 | x :: r=>JX id (evO sl x)&&Qx sl id r
def ZbS (sl:Sl) (a:COp):Option Nat→Bool
 | some id=>Qx sl id (Zv a)
 | none=>false
def JY (sl:Sl) (xs:List Opd):AV→Bool
 | .ptr k _=>Qx sl k xs
 | .prow _ _ _ _=>false
 | _=>true
def ZcH (sl:Sl) (xs:List Opd):List Opd→Bool
 | []=>true
 | y :: r=>JY sl xs (evO sl y)&&ZcH sl xs r
def W5 (sl:Sl) (a:COp):AV→Bool
 | .nil=>true
 | .tup []=>true
 | .own k=>Qx sl k (Zv a)
 | .ownv k _ _=>Qx sl k (Zv a)
 | _=>false
def seenSrc (sl:Sl) (a:COp):AV→Bool
 | .own k=>Qx sl k (Zv a)
 | v=>okV v
def Xo (sl:Sl) (xs:List Opd):List Nat→Bool
 | []=>true
 | k :: r=>Qx sl k xs&&Xo sl xs r
def YQ (sl:Sl) (a:COp):AV→AV→Bool
 | .prow _ _ _ _,.d _=>true
 | .prow _ _ _ _,v=>okV v&&Xo sl (Zv a) (Zo v)
 | _,_=>true
def Wk (sl:Sl) (d:Option Nat):COp→COp→Bool
 | .move _,_=>okD sl d
 | a,.store _ _ x y=>ZbS sl a (YA (evO sl x))&&YQ sl a (evO sl x) (evO sl y)
 | a,.append _ _ _ flat x y=>W5 sl a (evO sl x)&&(flat || seenSrc sl a (evO sl y))
 | a,.call _ as=>okL sl (Zv a)&&(okD sl d&&(okL sl as&&ZcH sl (Zv a) as))
 | _,_=>false
def Zfq (os:List CO) (sl:Sl) (p:Nat×Nat):Bool:=match os[p.1]?,os[p.2]? with
 | some a,some b=>Wk sl a.dst a.op b.op
 | _,_=>false
def Y1 (os:List CO) (sl:Sl):List (Nat×Nat)→Bool
 | []=>true
 | p :: r=>Zfq os sl p&&Y1 os sl r
def Xy (M:Zf):Zf:=fun f i=>i != 99&&M f i
section
variable (C:Orc) (M:Zf)
noncomputable def ZbT (nx:Nat):Nat→List CO→Sl→Hp→Option (Sl×Hp)
 | _,[],sl,hp=>some (sl,hp)
 | i,o :: rest,sl,hp=>bnd (ZR sl o.guard) fun b=>
   if b then bnd (XQ (nx+64*i) o.dst sl hp (vop C M sl hp (nx+64*i) o.op)) fun r=>ZbT nx (i+1) rest r.1 r.2
   else ZbT nx (i+1) rest (Zk sl o.dst (.tup [])) hp
def ZbU (c:Zb):List Nat→Hp→List Nat→List Nat→Option Zb
 | [],[],[],[]=>some c
 | _,_,_,_=>none
def JZ (e:Option Zb):Option Zb:=bnd e fun c=>ZbU c c.gone c.eff.sets c.eff.dels c.eff.frz
noncomputable def Y4 (nx i:Nat) (tail:Bool) (o:COp) (sl:Sl) (hp:Hp):Option Zb:=
 if tail then vop C M sl hp (nx+64*i) o else JZ (vop C M sl hp (nx+64*i) o)
noncomputable def Wt (nx:Nat):Nat→Bool→List CO→Sl→Hp→Option (Sl×Hp)
 | _,_,[],sl,hp=>some (sl,hp)
 | i,t,o :: rest,sl,hp=>bnd (ZR sl o.guard) fun b=>
   if b then bnd (XQ (nx+64*i) o.dst sl hp (Y4 C M nx i (CO.starts o) o.op sl hp)) fun r=>Wt nx (i+1) t rest r.1 r.2
   else Wt nx (i+1) t rest (Zk sl o.dst (.tup [])) hp
def U4 {α:Type}:List (Nat×α)→List Nat
 | []=>[]
 | (k,_) :: r=>k :: U4 r
def only {α:Type} (K:List Nat):List (Nat×α)→List (Nat×α)
 | []=>[]
 | (k,v) :: r=>if K.contains k then (k,v) :: only K r else only K r
def Vn:Nat→List Zg→Hp
 | _,[]=>[]
 | k,o :: r=>Vn (k+1) r++[(k,o)]
def Zlw:Sl→List Nat
 | []=>[]
 | (_,v) :: r=>Zo v++Zlw r
def ZmM:Option Zg→Bool
 | some _=>true
 | none=>false
def ZaN (hp:Hp) (ids:List Nat) (i:Nat):Bool:=ids.contains i&&ZmM (lkp hp i)
def ZcI (hp:Hp) (ids:List Nat):List Nat→List Nat
 | []=>[]
 | i :: r=>if ZaN hp ids i then ZcI hp ids r else i :: ZcI hp ids r
def Zbb (hp:Hp) (ids:List Nat) (v:AV):AV:=ren (YX ids) (kill (ZcI hp ids (Zo v)) v)
def ZcJ (hp:Hp) (ids:List Nat) (o:Zg):Zg:=ZeQ (YX ids) (QU (ZcI hp ids (WP o)) o)
def Zpn:Option Zg→List Nat
 | some o=>WP o
 | none=>[]
def VI (hp:Hp):List Nat→List Nat
 | []=>[]
 | id :: r=>Zpn (lkp hp id)++VI hp r
def Wu (K:List Nat) (st:St):St:=
 let sl:=only K st.sl
 let ids:=QF st.hp (Xh st.hp) (Zlw sl++VI st.hp (List.range st.m)) (List.range st.m)
 { sl:=ZfX (Zbb st.hp ids) sl,hp:=Vn 0 ((ZaH st.hp ids).map (ZcJ st.hp ids)),nx:=ids.length,m:=st.m }
def Ue (f:St→Option (Ex×St)) (K:List Nat):Nat→St→Option (Ex×St)
 | 0,_=>none
 | n+1,st=>match f (Wu K st) with
  | some (.normal,st')=>Ue f K n st'
  | r=>r
def andThen (r:Option (Ex×St)) (k:St→Option (Ex×St)):Option (Ex×St):=match r with
 | some (.normal,st)=>k st
 | r=>r
def ZdX (v:AV) (a b:Option (Ex×St)):Option (Ex×St):=match v with
 | .d (.bool t)=>if t then a else b
 | _=>none
def ZcK (id:Nat) (r:Option (Ex×St)):Option (Ex×St):=match r with
 | some (.exit j,st)=>if j=id then some (.normal,st) else some (.exit j,st)
 | r=>r
def Zfr (ops:List CO) (ps:List (Nat×Nat)) (r:Option (Sl×Hp)):Option (Sl×Hp):=bnd r fun r=>if Y1 ops r.1 ps then some r else none
def Zdy (m nx:Nat) (r:Option (Sl×Hp)):Option (Ex×St):=bnd r fun r=>some (.normal,{ sl:=r.1,hp:=r.2,nx:=nx,m:=m })
def ZjI (K:List Nat) (r:Option (Ex×St)):Option (Ex×St):=match r with
 | some q=>some (q.1,{ q.2 with sl:=only K q.2.sl })
 | none=>none
def Zqq (fl:Bool) (k:Nat) (ys:List D):Option Zg:=if fl then (if Ul D.flat ys then some (.row k ys true false) else none) else some (.tree k k ys none)
def Zfs (xs:List D) (n j:Nat) (y:D):Option (List D):=bnd xs[n]? fun x=>some (xs.set n (YT x j [y]))
def Zqr (fl:Bool) (nx n j:Nat):Option Zg→Option (Zg×Zg)
 | some (.tree s k xs none)=>bnd (W0 xs n j) fun ys=>bnd (Zqq fl k ys) fun o=>bnd (Zfs xs n j (.sl [])) fun xs'=>some (.tree s k xs' (some (some nx,n,j)),o)
 | _=>none
def Zs2:Option Zg→Option Int
 | some (.tree _ _ xs _)=>some ((xs.length:Int)-1)
 | _=>none
def ZmN (st:St) (id:Nat):Opd→Option Int
 | .t n=>idx (gs st.sl n)
 | .v a=>idx a
 | .f _=>Zs2 (lkp st.hp id)
def ZbV (fl:Bool) (id:Nat) (i:Opd) (j:Nat) (st:St):Option St:=bnd (ZmN st id i) fun n=>if 0≤n then bnd (Zqr fl st.nx n.toNat j (lkp st.hp id)) fun q=>some { st with hp:=ins (ins st.hp id q.1) st.nx q.2,nx:=st.nx+64 } else none
def ZjJ (k:Nat):Option Zg→Option (List D)
 | some (.row k' ys true false)=>if k'=k∧Ul D.flat ys then some ys else none
 | some (.tree k' n ys none)=>if k'=k∧n=k then some ys else none
 | _=>none
def Zg6 (hp:Hp) (id nm:Nat):Option Zg→Option Hp
 | some (.tree s k xs (some (some nm',n,j)))=>if nm'=nm then bnd (ZjJ k (lkp hp nm)) fun ys=>bnd (Zfs xs n j (.sl ys)) fun xs'=>some (ins (del hp nm) id (.tree s k xs' none)) else none
 | _=>none
def ZrE (hp:Hp):Option Hp→Hp
 | some h=>h
 | none=>hp
def ZjK (id nm:Nat) (r:Option (Ex×St)):Option (Ex×St):=match r with
 | some q=>some (q.1,{ q.2 with hp:=ZrE q.2.hp (Zg6 q.2.hp id nm (lkp q.2.hp id)) })
 | none=>none
def ZmO (st:St):St := { st with hp:=ZfX Zff st.hp }
def ZjL:Option Zg→Option Zg
 | some (.tree s _ xs none)=>some (.row s xs false true)
 | _=>none
def ZbW:AV→AV
 | .d (.int k n)=>.d (.int k n)
 | .d (.bool b)=>.d (.bool b)
 | _=>.junk
def ZjM:Option Nat→List Nat→List Nat
 | some t,l=>t :: l
 | none,l=>l
def W6:List CO→List Nat
 | []=>[]
 | o :: r=>ZjM o.dst (W6 r)
def Zn6:ZG→Option (List Nat)
 | .region _ _ os=>some (W6 os)
 | _=>none
def J0 (sl2:Sl):List Nat→Sl→Sl
 | [],sl=>sl
 | t :: r,sl=>J0 sl2 r (ins sl t (ZbW (gs sl2 t)))
def Zgj (id:Nat) (st:St):Option St:=bnd (ZjL (lkp st.hp id)) fun o=>some { st with hp:=[(id,o)] }
def ZjN (st:St) (ds:List Nat) (r:Option (Ex×St)):Option (Ex×St):=match r with
 | some q=>some (q.1,{ q.2 with sl:=J0 q.2.sl ds st.sl,hp:=st.hp })
 | none=>none
noncomputable def Zw (N:Nat):ZG→St→Option (Ex×St)
 | .skip,st=>some (.normal,st)
 | .region n none ops,st=>Zdy st.m (st.nx+64*n) (ZbT C M st.nx 0 ops st.sl st.hp)
 | .region n (some ps) ops,st=>Zdy st.m (st.nx+64*n) (Zfr ops ps (Wt C (Xy M) st.nx 0 false ops st.sl st.hp))
 | .seq a b,st=>andThen (Zw N a st) (Zw N b)
 | .cond c a b,st=>ZdX (evO st.sl c) (Zw N a st) (Zw N b st)
 | .block id c,st=>ZcK id (Zw N c st)
 | .loop c,st=>Ue (Zw N c) (U4 st.sl) N st
 | .exit id,st=>some (.exit id,st)
 | .ret,st=>some (.ret,st)
 | .keep K c,st=>ZjI K (Zw N c st)
 | .stuck,_=>none
 | .link fl id i j c,st=>bnd (ZbV fl id i j st) fun st1=>ZjK id st.nx (Zw N c st1)
 | .melt c,st=>Zw N c (ZmO st)
 | .peek id c,st=>bnd (Zn6 c) fun ds=>bnd (Zgj id st) fun st1=>ZjN st ds (Zw N c st1)
def ZjO (st:St):ZkM→Option AV
 | .tmp t=>some (gs st.sl t)
 | .cell a g s=>Wa st.hp g s (gs st.sl a)
def Vo (m:Nat) (hp:Hp) (v:AV):AV×List Zg:=
 let ids:=QF hp (Xh hp) (Zo v++VI hp (List.range m)) (List.range m)
 (Zbb hp ids v,(ZaH hp ids).map (ZcJ hp ids))
def Zqs:AV→Bool
 | .tup _=>true
 | _=>false
def Zeo:List AV→Bool
 | []=>false
 | v :: r=>Zqs v || Zeo r
def J1:List AV→AV
 | [v]=>v
 | vs=>if Zeo vs then .junk else .tup vs
def Y2:Nat→List AV→Sl
 | _,[]=>[]
 | k,v :: r=>Y2 (k+1) r++[(k,v)]
def ZaO (m:Nat) (rs:List ZkM) (r:Option (Ex×St)):Option (AV×List Zg):=match r with
 | some (.normal,st)=>bnd (Qi (ZjO st) rs) fun vs=>some (Vo m st.hp (J1 vs))
 | some (.ret,st)=>bnd (Qi (ZjO st) rs) fun vs=>some (Vo m st.hp (J1 vs))
 | _=>none
noncomputable def ZjP (N:Nat) (fn:ZT) (as:List AV) (h:List Zg):Option (AV×List Zg):=
 if as.length≤fn.nt then ZaO h.length fn.res (Zw C M N fn.body { sl:=Y2 0 as,hp:=Vn 0 h,nx:=h.length,m:=h.length }) else none
end
inductive Fn where
 | text (f:ZT)
 | prim (p:List AV→List Zg→Option (AV×List Zg))
abbrev Fns:=Nat→Option Fn
noncomputable def Zgk (C:Orc) (M:Zf) (N:Nat) (as:List AV) (h:List Zg):Option Fn→Option (AV×List Zg)
 | some (.text f)=>ZjP C M N f as h
 | some (.prim p)=>p as h
 | none=>none
noncomputable def Z7 (X:Fns) (M:Zf):Nat→Orc
 | 0,_,_,_=>none
 | n+1,f,as,h=>Zgk (Z7 X M n) M n as h (X f)
open Classical in
noncomputable def lim {α:Type} (x:Nat→Option α):Option α:=if h:∃ r,∃ n,x n=some r then some h.choose else none
def ZrF {α:Type} (x:Nat→Option α):Prop:=∀ n r,x n=some r→x (n+1)=some r
theorem ZrF.le {α:Type} {x:Nat→Option α} (h:ZrF x) {n m:Nat} {r:α} (hr:x n=some r) (aa:n≤m):x m=some r:=by
 induction aa with
 | refl=>exact hr
 | step _ ih=>exact h _ _ ih
theorem Zep {α:Type} {x:Nat→Option α} (h:ZrF x) {n:Nat} {r:α} (hr:x n=some r):lim x=some r:=by
 have he:∃ r,∃ n,x n=some r:=⟨r,n,hr⟩
 unfold lim;rw[dif_pos he];obtain⟨m,hm⟩:=he.choose_spec;have h1:=h.le hm (Kah m n);have h2:=h.le hr (Kae m n);rw[h1] at h2;exact h2
theorem ZcL {α:Type} {x:Nat→Option α} {r:α} (hr:lim x=some r):∃ n,x n=some r:=by
 unfold lim at hr;split at hr
 ·rename_i h;obtain⟨n,hn⟩:=h.choose_spec;exact⟨n,by rw[hn];exact hr⟩
 ·cases hr
def Orc.le (C C' : Orc):Prop:=∀ f as h r,C f as h=some r→C' f as h=some r
section
variable {M:Zf} {C C' : Orc}
theorem U5 {α β:Type} {x x' : Option α} {f f' : α→Option β} {r:β} (hx:∀ a,x=some a→x'=some a) (hf:∀ a,f a=some r→f' a=some r) (h:bnd x f=some r):bnd x' f'=some r:=by
 obtain⟨a,h1,h2⟩:=Za h;rw[hx a h1];exact hf a h2
theorem Zs3 (h:C.le C') {m:Nat→Bool} {hp:Hp} {base f:Nat} {aa:List AV} {r:Zb}
  (hr:Zaj C m hp base f aa=some r):Zaj C' m hp base f aa=some r:=by
 unfold Zaj at hr ⊢;refine U5 (fun _ h=>h) (fun as hr=>?_) hr;unfold ZbH at hr ⊢;by_cases hc:(as.flatMap Zo).all (QF hp (Xh hp) (as.flatMap Zo) []).contains∧¬(XW aa as).any (QF hp (Xh hp) (as.flatMap Zo) []).contains∧Ji hp (as.flatMap Ud) (QF hp (Xh hp) (as.flatMap Zo) [])=true
 ·rw[Km hc] at hr ⊢;exact U5 (fun q hq=>h _ _ _ _ hq) (fun _ h=>h) hr
 ·rw[Kl hc] at hr;cases hr
theorem ZmP (h:C.le C') {sl:Sl} {hp:Hp} {base:Nat} {o:COp} {r:Zb} (hr:vop C M sl hp base o=some r) :
  vop C' M sl hp base o=some r:=by
 cases o with
 | call f as=>
  simp only[vop] at hr ⊢;cases hg:evO sl f<;>simp only[hg,ZaK] at hr ⊢ <;> first | exact Zs3 h hr | exact hr
 | _=>exact hr
theorem ZmQ (h:C.le C') (nx:Nat):∀ (l:List CO) (i:Nat) (sl:Sl) (hp:Hp) (r:Sl×Hp),
  ZbT C M nx i l sl hp=some r→ZbT C' M nx i l sl hp=some r:=by
 intro l
 induction l with
 | nil=>intro i sl hp r hr;exact hr
 | cons o rest ih=>
  intro i sl hp r hr;simp only[ZbT] at hr ⊢;refine U5 (fun _ h=>h) (fun b hr=>?_) hr;cases b
  ·simp only[Ka,Kf] at hr ⊢;exact ih _ _ _ _ hr
  ·simp only[Kg] at hr ⊢;refine U5 (fun q hq=>?_) (fun q hq=>ih _ _ _ _ hq) hr;unfold XQ at hq ⊢;exact U5 (fun e he=>ZmP h he) (fun _ h=>h) hq
theorem Zqt (h:C.le C') {nx i:Nat} {t:Bool} {o:COp} {sl:Sl} {hp:Hp} {e:Zb} (he:Y4 C M nx i t o sl hp=some e) :
  Y4 C' M nx i t o sl hp=some e:=by
 unfold Y4 at he ⊢;cases t
 ·simp only[Ka,Kf,JZ] at he ⊢;exact U5 (fun _ hv=>ZmP h hv) (fun _ h=>h) he
 ·simp only[Kg] at he ⊢;exact ZmP h he
theorem Zft (h:C.le C') (nx:Nat):∀ (l:List CO) (i:Nat) (t:Bool) (sl:Sl) (hp:Hp) (r:Sl×Hp),
  Wt C M nx i t l sl hp=some r→Wt C' M nx i t l sl hp=some r:=by
 intro l
 induction l with
 | nil=>intro i t sl hp r hr;exact hr
 | cons o rest ih=>
  intro i t sl hp r hr;simp only[Wt] at hr ⊢;refine U5 (fun _ h=>h) (fun b hr=>?_) hr;cases b
  ·simp only[Ka,Kf] at hr ⊢;exact ih _ _ _ _ _ hr
  ·simp only[Kg] at hr ⊢;refine U5 (fun q hq=>?_) (fun q hq=>ih _ _ _ _ _ hq) hr;unfold XQ at hq ⊢;exact U5 (fun e he=>Zqt h he) (fun _ h=>h) hq
theorem Zfu {f g:St→Option (Ex×St)} (h:∀ st r,f st=some r→g st=some r) (K:List Nat) :
  ∀ (n m:Nat) (st:St) (r:Ex×St),n≤m→Ue f K n st=some r→Ue g K m st=some r:=by
 intro n
 induction n with
 | zero=>intro m st r _ hr;simp[Ue] at hr
 | succ n ih=>
  intro m st r hm hr;cases m with
  | zero=>omega
  | succ m=>
   simp only[Ue] at hr ⊢;cases hf:f (Wu K st) with
   | none=>simp[hf] at hr
   | some q=>
    rw[hf] at hr;rw[h _ _ hf];obtain⟨e,aa⟩:=q;cases e with
    | normal=>exact ih m aa r (by omega) hr
    | exit id=>exact hr
    | ret=>exact hr
theorem ZhL (h:C.le C') {N N' : Nat} (hN:N≤N'):∀ (c:ZG) (st:St) (r:Ex×St),
  Zw C M N c st=some r→Zw C' M N' c st=some r:=by
 intro c
 induction c with
 | skip=>intro st r hr;simpa [Zw] using hr
 | region n draw ops=>
  intro st r hr;cases draw
  ·simp only[Zw,Zdy] at hr ⊢;exact U5 (fun q hq=>ZmQ h _ _ _ _ _ _ hq) (fun _ h=>h) hr
  ·simp only[Zw,Zdy,Zfr] at hr ⊢;exact U5 (fun q hq=>U5 (fun q hq=>Zft h _ _ _ _ _ _ _ hq) (fun _ h=>h) hq) (fun _ h=>h) hr
 | seq a b iha ihb=>
  intro st r hr;simp only[Zw] at hr ⊢;cases ha:Zw C M N a st with
  | none=>simp[ha,andThen] at hr
  | some q=>
   rw[ha] at hr;rw[iha _ _ ha];obtain⟨e,aa⟩:=q;cases e with
   | normal=>exact ihb _ _ hr
   | exit id=>exact hr
   | ret=>exact hr
 | cond c a b iha ihb=>
  intro st r hr;simp only[Zw,ZdX] at hr ⊢;split at hr
  ·rename_i t ht;cases t
   ·simp only[Ka,Kf] at hr ⊢;exact ihb _ _ hr
   ·simp only[Kg] at hr ⊢;exact iha _ _ hr
  ·cases hr
 | block id c ih=>
  intro st r hr;simp only[Zw] at hr ⊢;cases hc:Zw C M N c st with
  | none=>simp[hc,ZcK] at hr
  | some q=>rw[hc] at hr;rw[ih _ _ hc];exact hr
 | loop c ih=>
  intro st r hr;simp only[Zw] at hr ⊢;exact Zfu ih _ _ _ _ _ hN hr
 | exit id=>intro st r hr;simpa [Zw] using hr
 | ret=>intro st r hr;simpa [Zw] using hr
 | keep K c ih=>
  intro st r hr;simp only[Zw] at hr ⊢;cases hc:Zw C M N c st with
  | none=>simp[hc,ZjI] at hr
  | some q=>rw[hc] at hr;rw[ih _ _ hc];exact hr
 | stuck=>intro st r hr;simp[Zw] at hr
 | link fl id i j c ih=>
  intro st r hr;simp only[Zw] at hr ⊢;obtain⟨aa,h1,h2⟩:=Za hr;rw[h1,Zc];cases hc:Zw C M N c aa with
  | none=>simp[hc,ZjK] at h2
  | some q=>rw[hc] at h2;rw[ih _ _ hc];exact h2
 | melt c ih=>
  intro st r hr;simp only[Zw] at hr ⊢;exact ih _ r hr
 | peek id c ih=>
  intro st r hr;simp only[Zw] at hr ⊢;obtain⟨ds,h0,hr⟩:=Za hr;obtain⟨aa,h1,h2⟩:=Za hr;rw[h0,Zc,h1,Zc];cases hc:Zw C M N c aa with
  | none=>simp[hc,ZjN] at h2
  | some q=>rw[hc] at h2;rw[ih _ _ hc];exact h2
theorem Zs4 (h:C.le C') {N N' : Nat} (hN:N≤N') {f:ZT} {as:List AV} {hh:List Zg} {r:AV×List Zg}
  (hr:ZjP C M N f as hh=some r):ZjP C' M N' f as hh=some r:=by
 unfold ZjP at hr ⊢;by_cases hl:as.length≤f.nt
 ·rw[Km hl] at hr ⊢;cases hv:Zw C M N f.body { sl:=Y2 0 as,hp:=Vn 0 hh,nx:=hh.length,m:=hh.length } with
  | none=>simp[hv,ZaO] at hr
  | some q=>rw[hv] at hr;rw[ZhL h hN _ _ _ hv];exact hr
 ·rw[Kl hl] at hr;cases hr
end
section
variable (X:Fns) (M:Zf)
theorem Zgl:∀ n,(Z7 X M n).le (Z7 X M (n+1)):=by
 intro n
 induction n with
 | zero=>intro f as h r hr;simp[Z7] at hr
 | succ n ih=>
  intro f as h r hr;rw[Z7] at hr ⊢;cases hf:X f with
  | none=>rw[hf] at hr;cases hr
  | some g=>
   rw[hf] at hr;cases g with
   | text g=>exact Zs4 ih (Nat.le_succ n) hr
   | prim p=>exact hr
noncomputable def Zi (f:Nat) (as:List AV) (h:List Zg):Option (AV×List Zg):=lim fun n=>Z7 X M n f as h
noncomputable def Qg (c:ZG) (st:St):Option (Ex×St):=lim fun n=>Zw (Z7 X M n) M n c st
theorem Zam (f:Nat) (as:List AV) (h:List Zg):ZrF fun n=>Z7 X M n f as h:=fun n r hr=>Zgl X M n f as h r hr
theorem ZbX (n:Nat):(Z7 X M n).le (Zi X M):=fun f as h _ hr=>Zep (Zam X M f as h) hr
theorem Zeq (c:ZG) (st:St):ZrF fun n=>Zw (Z7 X M n) M n c st:=fun n r hr=>ZhL (Zgl X M n) (Nat.le_succ n) c st r hr
theorem J2 {n m:Nat} (h:n≤m):(Z7 X M n).le (Z7 X M m):=fun f as hh _ hr=>(Zam X M f as hh).le hr h
theorem Zn7 {m:Nat→Bool} {hp:Hp} {base f:Nat} {aa:List AV} {r:Zb}
  (hr:Zaj (Zi X M) m hp base f aa=some r):∃ n,Zaj (Z7 X M n) m hp base f aa=some r:=by
 unfold Zaj at hr ⊢;obtain⟨as,ab,hr⟩:=Za hr;simp only[ab,Zc];unfold ZbH at hr ⊢;by_cases hc:(as.flatMap Zo).all (QF hp (Xh hp) (as.flatMap Zo) []).contains∧¬(XW aa as).any (QF hp (Xh hp) (as.flatMap Zo) []).contains∧Ji hp (as.flatMap Ud) (QF hp (Xh hp) (as.flatMap Zo) [])=true
 ·rw[Km hc] at hr;obtain⟨q,hq,hr⟩:=Za hr;obtain⟨n,hn⟩:=ZcL hq;refine⟨n,?_⟩;rw[Km hc,hn];exact hr
 ·rw[Kl hc] at hr;cases hr
theorem Zgm {M' : Zf} {sl:Sl} {hp:Hp} {base:Nat} {o:COp} {r:Zb} (hr:vop (Zi X M) M' sl hp base o=some r) :
  ∃ n,vop (Z7 X M n) M' sl hp base o=some r:=by
 cases o with
 | call f as=>
  simp only[vop] at hr ⊢;cases hg:evO sl f<;>simp only[hg,ZaK] at hr ⊢ <;> first | exact Zn7 X M hr | exact⟨0,hr⟩
 | _=>exact⟨0,hr⟩
theorem Zpo (nx:Nat):∀ (l:List CO) (i:Nat) (sl:Sl) (hp:Hp) (r:Sl×Hp),
  ZbT (Zi X M) M nx i l sl hp=some r→∃ n,ZbT (Z7 X M n) M nx i l sl hp=some r:=by
 intro l
 induction l with
 | nil=>intro i sl hp r hr;exact⟨0,hr⟩
 | cons o rest ih=>
  intro i sl hp r hr;simp only[ZbT] at hr ⊢;obtain⟨b,hb,hr⟩:=Za hr;simp only[hb,Zc];cases b
  ·simp only[Ka,Kf] at hr ⊢;exact ih _ _ _ _ hr
  ·simp only[Kg] at hr ⊢;obtain⟨q,hq,hr⟩:=Za hr;unfold XQ at hq;obtain⟨e,he,hq⟩:=Za hq;obtain⟨n1,h1⟩:=Zgm X M he;obtain⟨n2,h2⟩:=ih _ _ _ _ hr;refine⟨max n1 n2,?_⟩;unfold XQ;rw[ZmP (J2 X M (Kah n1 n2)) h1,Zc,hq,Zc];exact ZmQ (J2 X M (Kae n1 n2)) _ _ _ _ _ _ h2
theorem Zpp {M' : Zf} {nx i:Nat} {t:Bool} {o:COp} {sl:Sl} {hp:Hp} {e:Zb} (he:Y4 (Zi X M) M' nx i t o sl hp=some e) :
  ∃ n,Y4 (Z7 X M n) M' nx i t o sl hp=some e:=by
 unfold Y4 at he ⊢;cases t
 ·simp only[Ka,Kf,JZ] at he ⊢;obtain⟨e',aa,h2⟩:=Za he;obtain⟨n,hn⟩:=Zgm X M aa;exact⟨n,by rw[hn];exact h2⟩
 ·simp only[Kg] at he ⊢;exact Zgm X M he
theorem Zn8 {M' : Zf} (nx:Nat):∀ (l:List CO) (i:Nat) (t:Bool) (sl:Sl) (hp:Hp) (r:Sl×Hp),
  Wt (Zi X M) M' nx i t l sl hp=some r→∃ n,Wt (Z7 X M n) M' nx i t l sl hp=some r:=by
 intro l
 induction l with
 | nil=>intro i t sl hp r hr;exact⟨0,hr⟩
 | cons o rest ih=>
  intro i t sl hp r hr;simp only[Wt] at hr ⊢;obtain⟨b,hb,hr⟩:=Za hr;simp only[hb,Zc];cases b
  ·simp only[Ka,Kf] at hr ⊢;exact ih _ _ _ _ _ hr
  ·simp only[Kg] at hr ⊢;obtain⟨q,hq,hr⟩:=Za hr;unfold XQ at hq;obtain⟨e,he,hq⟩:=Za hq;obtain⟨n1,h1⟩:=Zpp X M he;obtain⟨n2,h2⟩:=ih _ _ _ _ _ hr;refine⟨max n1 n2,?_⟩;unfold XQ;rw[Zqt (J2 X M (Kah n1 n2)) h1,Zc,hq,Zc];exact Zft (J2 X M (Kae n1 n2)) _ _ _ _ _ _ _ h2
theorem QC {c:ZG} {st:St} {n:Nat} {r:Ex×St} (h:Zw (Z7 X M n) M n c st=some r):Qg X M c st=some r:=
 Zep (Zeq X M c st) h
theorem Xl {α:Type} {x:Nat→Option α} (h:∀ n,x n=none):lim x=none:=by
 cases hx:lim x with
 | none=>rfl
 | some r=>obtain⟨n,hn⟩:=ZcL hx;rw[h n] at hn;cases hn
theorem Zpq (st:St):Qg X M .skip st=some (.normal,st):=QC X M (n:=0) (by simp[Zw])
theorem Zpr (id:Nat) (st:St):Qg X M (.exit id) st=some (.exit id,st):=QC X M (n:=0) (by simp[Zw])
theorem ZrG (st:St):Qg X M .ret st=some (.ret,st):=QC X M (n:=0) (by simp[Zw])
theorem Zfv (n:Nat) (ops:List CO) (st:St) :
  Qg X M (.region n none ops) st=Zdy st.m (st.nx+64*n) (ZbT (Zi X M) M st.nx 0 ops st.sl st.hp):=by
 cases h:ZbT (Zi X M) M st.nx 0 ops st.sl st.hp with
 | some r=>
  obtain⟨k,hk⟩:=Zpo X M _ _ _ _ _ _ h;exact QC X M (n:=k) (by simp only[Zw,hk,Zdy,Zc])
 | none=>
  refine Xl fun k=>?_;simp only[Zw];cases hn:ZbT (Z7 X M k) M st.nx 0 ops st.sl st.hp with
  | none=>rfl
  | some r=>rw[ZmQ (ZbX X M k) _ _ _ _ _ _ hn] at h;cases h
theorem ZjQ (n:Nat) (ps:List (Nat×Nat)) (ops:List CO) (st:St) :
  Qg X M (.region n (some ps) ops) st=Zdy st.m (st.nx+64*n) (Zfr ops ps (Wt (Zi X M) (Xy M) st.nx 0 false ops st.sl st.hp)):=by
 cases h:Wt (Zi X M) (Xy M) st.nx 0 false ops st.sl st.hp with
 | some r=>
  obtain⟨k,hk⟩:=Zn8 X M _ _ _ _ _ _ _ h;cases hs:Zfr ops ps (some r) with
  | none=>
   refine Xl fun k'=>?_;simp only[Zw];cases hn:Wt (Z7 X M k') (Xy M) st.nx 0 false ops st.sl st.hp with
   | none=>rfl
   | some r' =>
    have:=Zft (ZbX X M k') _ _ _ _ _ _ _ hn;rw[h] at this;cases this;rw[hs];rfl
  | some r'=>exact QC X M (n:=k) (by simp only[Zw,hk,hs];rfl)
 | none=>
  refine Xl fun k=>?_;simp only[Zw];cases hn:Wt (Z7 X M k) (Xy M) st.nx 0 false ops st.sl st.hp with
  | none=>rfl
  | some r=>rw[Zft (ZbX X M k) _ _ _ _ _ _ _ hn] at h;cases h
theorem Wg {c:ZG} {st:St} {r:Ex×St} (h:Qg X M c st=some r):∃ n,∀ m,n≤m→Zw (Z7 X M m) M m c st=some r:=by
 obtain⟨n,hn⟩:=ZcL h;exact⟨n,fun m hm=>(Zeq X M c st).le hn hm⟩
theorem ZrH (a b:ZG) (st:St):Qg X M (.seq a b) st=andThen (Qg X M a st) (Qg X M b):=by
 cases ha:Qg X M a st with
 | none=>
  refine Xl fun n=>?_;cases h:Zw (Z7 X M n) M n a st with
  | none=>simp[Zw,h,andThen]
  | some q=>rw[QC X M h] at ha;cases ha
 | some q=>
  obtain⟨e,aa⟩:=q;obtain⟨n,hn⟩:=Wg X M ha;cases e with
  | normal=>
   simp only[andThen];cases hb:Qg X M b aa with
   | none=>
    refine Xl fun k=>?_;cases h:Zw (Z7 X M k) M k (.seq a b) st with
    | none=>rfl
    | some q=>
     have h1:=(Zeq X M (.seq a b) st).le h (Kah k n);simp only[Zw,hn _ (Kae k n),andThen] at h1;rw[QC X M h1] at hb;cases hb
   | some q=>
    obtain⟨m,hm⟩:=Wg X M hb;refine QC X M (n:=max n m) ?_;simp only[Zw,hn _ (Kah n m),andThen,hm _ (Kae n m)]
  | exit id=>exact QC X M (n:=n) (by simp only[Zw,hn _ (Kh n),andThen])
  | ret=>exact QC X M (n:=n) (by simp only[Zw,hn _ (Kh n),andThen])
theorem Zps (c:Opd) (a b:ZG) (st:St) :
  Qg X M (.cond c a b) st=ZdX (evO st.sl c) (Qg X M a st) (Qg X M b st):=by
 unfold ZdX;split
 ·rename_i t h;cases t
  ·simp only[Ka,Kf,Qg,Zw,h,ZdX]
  ·simp only[Kg,Qg,Zw,h,ZdX]
 ·rename_i h;refine Xl fun n=>?_;simp only[Zw,ZdX]
theorem Zn9 (id:Nat) (c:ZG) (st:St):Qg X M (.block id c) st=ZcK id (Qg X M c st):=by
 cases hc:Qg X M c st with
 | none=>
  refine Xl fun n=>?_;cases h:Zw (Z7 X M n) M n c st with
  | none=>simp[Zw,h,ZcK]
  | some q=>rw[QC X M h] at hc;cases hc
 | some q=>
  obtain⟨n,hn⟩:=Wg X M hc;cases hb:ZcK id (some q) with
  | none=>
   obtain⟨e,aa⟩:=q;cases e<;>simp[ZcK] at hb
   split at hb<;>cases hb
  | some r=>exact QC X M (n:=n) (by simp only[Zw,hn _ (Kh n),hb])
theorem Zpt (K:List Nat) (c:ZG) (st:St):Qg X M (.keep K c) st=ZjI K (Qg X M c st):=by
 cases hc:Qg X M c st with
 | none=>
  refine Xl fun n=>?_;cases h:Zw (Z7 X M n) M n c st with
  | none=>simp[Zw,h,ZjI]
  | some q=>rw[QC X M h] at hc;cases hc
 | some q=>
  obtain⟨n,hn⟩:=Wg X M hc;exact QC X M (n:=n) (by simp only[Zw,hn _ (Kh n),ZjI])
theorem Zpu (fl:Bool) (id:Nat) (i:Opd) (j:Nat) (c:ZG) (st:St):Qg X M (.link fl id i j c) st=bnd (ZbV fl id i j st) fun st1=>ZjK id st.nx (Qg X M c st1):=by
 cases hl:ZbV fl id i j st with
 | none=>
  refine Xl fun n=>?_;simp only[Zw,hl];rfl
 | some st' =>
  rw[Zc];cases hc:Qg X M c st' with
  | none=>
   refine Xl fun n=>?_;cases h:Zw (Z7 X M n) M n c st' with
   | none=>simp only[Zw,hl,Zc,h];rfl
   | some q=>rw[QC X M h] at hc;cases hc
  | some q=>
   obtain⟨n,hn⟩:=Wg X M hc;exact QC X M (n:=n) (by simp only[Zw,hl,Zc,hn _ (Kh n)];rfl)
theorem Zpv (c:ZG) (st:St):Qg X M (.melt c) st=Qg X M c (ZmO st):=by
 cases hc:Qg X M c (ZmO st) with
 | none=>
  refine Xl fun n=>?_;cases h:Zw (Z7 X M n) M n c (ZmO st) with
  | none=>simp only[Zw,h]
  | some q=>rw[QC X M h] at hc;cases hc
 | some q=>
  obtain⟨n,hn⟩:=Wg X M hc;exact QC X M (n:=n) (by simp only[Zw,hn _ (Kh n)])
theorem Zpw (id:Nat) (c:ZG) (st:St):Qg X M (.peek id c) st=bnd (Zn6 c) fun ds=>bnd (Zgj id st) fun st1=>ZjN st ds (Qg X M c st1):=by
 cases h0:Zn6 c with
 | none=>exact Xl fun n=>by simp only[Zw,h0];rfl
 | some ds=>
  cases hl:Zgj id st with
  | none=>exact Xl fun n=>by simp only[Zw,h0,hl];rfl
  | some st' =>
   rw[Zc,Zc];cases hc:Qg X M c st' with
   | none=>
    refine Xl fun n=>?_;cases h:Zw (Z7 X M n) M n c st' with
    | none=>simp only[Zw,h0,hl,Zc,h];rfl
    | some q=>rw[QC X M h] at hc;cases hc
   | some q=>
    obtain⟨n,hn⟩:=Wg X M hc;exact QC X M (n:=n) (by simp only[Zw,h0,hl,Zc,hn _ (Kh n)];rfl)
noncomputable def ZcM (c:ZG) (K:List Nat) (st:St):Option (Ex×St):=lim fun n=>Ue (Zw (Z7 X M n) M n c) K n st
theorem Zan (c:ZG) (K:List Nat) (st:St):ZrF fun n=>Ue (Zw (Z7 X M n) M n c) K n st:=fun n r hr=>
 Zfu (fun _ _ h=>ZhL (Zgl X M n) (Nat.le_succ n) c _ _ h) K n (n+1) st r (Nat.le_succ n) hr
theorem Zpx (c:ZG) (st:St):Qg X M (.loop c) st=ZcM X M c (U4 st.sl) st:=by
 simp only[Qg,ZcM,Zw]
theorem Zoa {c:ZG} {K:List Nat} {st aa : St} (h:Qg X M c (Wu K st)=some (.normal,aa)) :
  ZcM X M c K st=ZcM X M c K aa:=by
 obtain⟨n,hn⟩:=Wg X M h;cases hl:ZcM X M c K aa with
 | none=>
  refine Xl fun k=>?_;cases hk:Ue (Zw (Z7 X M k) M k c) K k st with
  | none=>rfl
  | some q=>
   have h1:=(Zan X M c K st).le hk (show k≤max k n+1 by omega);simp only[Ue] at h1;rw[hn (max k n+1) (by omega)] at h1;simp only[] at h1;have h2:=Zfu (fun _ _ h=>h) K (max k n) (max k n+1) aa q (Nat.le_succ _) h1;rw[show ZcM X M c K aa=some q from Zep (Zan X M c K aa) h2] at hl;cases hl
 | some q=>
  obtain⟨m,hm⟩:=ZcL hl;refine Zep (Zan X M c K st) (n:=max n m+1) ?_;simp only[Ue,hn (max n m+1) (by omega)];exact Zfu (fun _ _ h=>ZhL (J2 X M (show m≤max n m+1 by omega)) (show m≤max n m+1 by omega) c _ _ h) K m (max n m) aa q (by omega) hm
theorem ZjR {c:ZG} {K:List Nat} {st aa : St} {e:Ex} (he:e≠.normal) (h:Qg X M c (Wu K st)=some (e,aa)) :
  ZcM X M c K st=some (e,aa):=by
 obtain⟨n,hn⟩:=Wg X M h;refine Zep (Zan X M c K st) (n:=n+1) ?_;simp only[Ue,hn (n+1) (by omega)];cases e with
 | normal=>exact absurd rfl he
 | exit id=>rfl
 | ret=>rfl
theorem Zs5 {f:Nat} {as:List AV} {h:List Zg} {fn:ZT} {r:AV×List Zg} (hx:X f=some (.text fn))
  (hl:as.length≤fn.nt) (hr:ZaO h.length fn.res (Qg X M fn.body { sl:=Y2 0 as,hp:=Vn 0 h,nx:=h.length,m:=h.length })=some r) :
  Zi X M f as h=some r:=by
 cases hv:Qg X M fn.body { sl:=Y2 0 as,hp:=Vn 0 h,nx:=h.length,m:=h.length } with
 | none=>rw[hv] at hr;simp[ZaO] at hr
 | some q=>
  rw[hv] at hr;obtain⟨n,hn⟩:=Wg X M hv;refine Zep (Zam X M f as h) (n:=n+1) ?_;simp only[Z7,hx,Zgk,ZjP,hl,Kg,hn n (Kh n)];exact hr
theorem Zpy {f:Nat} {as:List AV} {h:List Zg} {p:List AV→List Zg→Option (AV×List Zg)} {r:AV×List Zg} (hx:X f=some (.prim p)) (hp:p as h=some r) :
  Zi X M f as h=some r:=
 Zep (Zam X M f as h) (n:=1) (by simp only[Z7,hx,Zgk,hp])
end
section
variable (P:Program)
def Vp (nt:Nat):Code→Option ZG
 | .skip=>some .skip
 | .region _ ops draw=>bnd (Qi (Zg3 P nt ops.toList) ops.toList) fun os=>if draw then (if ZjH ops os then some (.region ops.toList.length (some (Uu ops os)) os) else some .stuck) else some (.region ops.toList.length none os)
 | .seq a b=>bnd (Vp nt a) fun a=>bnd (Vp nt b) fun b=>some (.seq a b)
 | .cond c a b=>bnd (ZO c) fun c=>bnd (Vp nt a) fun a=>bnd (Vp nt b) fun b=>some (.cond c a b)
 | .block id c=>bnd (Vp nt c) fun c=>some (.block id c)
 | .loop c=>bnd (Vp nt c) fun c=>some (.loop c)
 | .exit id=>some (.exit id)
 | .ret=>some .ret
 | _=>some .stuck
def ZbY:COp→COp
 | .buildT s _ xs=>.buildSl s xs
 | .asgT s _ x=>.assign (some s) x
 | .appT s b flat x y=>.append s b false flat x y
 | .makeT s b _ z l c=>.make s b z l c
 | c=>c
def Zgn:List CO→List CO
 | []=>[]
 | o :: r => { o with op:=ZbY o.op } :: Zgn r
def ZjS:Option (List (Nat×Nat))→List CO→List CO
 | none,ops=>Zgn ops
 | some _,ops=>ops
def Xz:ZG→ZG
 | .keep _ c=>Xz c
 | .seq a b=>.seq (Xz a) (Xz b)
 | .cond c a b=>.cond c (Xz a) (Xz b)
 | .block id c=>.block id (Xz c)
 | .loop c=>.loop (Xz c)
 | .region n d ops=>.region n d (ZjS d ops)
 | .link _ _ _ _ c=>Xz c
 | .melt c=>Xz c
 | .peek _ c=>Xz c
 | .skip=>.skip
 | .exit id=>.exit id
 | .ret=>.ret
 | .stuck=>.stuck
def Zgo (cf:ZT):ZT := { nt:=cf.nt,res:=cf.res,body:=Xz cf.body }
def cRes:ResultVar→Option ZkM
 | .tmp t=>some (.tmp t)
 | .cell a t=>bnd (Za7 P t) fun g=>some (.cell a g (P.cellsOf t))
def cFun (fn:Func):Option ZT:=bnd fn.body fun c=>bnd (Vp P fn.ntmps c) fun b=>bnd (Qi (cRes P) fn.results.toList) fun rs=>some { nt:=fn.ntmps,res:=rs,body:=b }
end
end Go.Abs
