/- Own text. -/
import Derived.Test.YtfnegoimdljanaaGreatDoorAbsOps
set_option linter.unusedVariables false
set_option linter.unusedSimpArgs false
namespace Go.Abs
open Go
inductive Ex where
 | normal
 | exit (id:Nat)
 | ret
def Xf (lo hi:Nat):Hp→Bool
 | []=>true
 | (k,_) :: r=>decide (lo≤k)&&decide (k<hi)&&Xf (k+1) hi r
def XA (gone:List Nat) (sl:Sl):Sl:=match gone with
 | []=>sl
 | _=>Zos (kill gone) sl
def Wx (gone:List Nat) (hp:Hp):Hp:=match gone with
 | []=>hp
 | _=>Zos (XG gone) hp
def Zt (sl:Sl) (dst:Option Nat) (v:AV):Sl:=match dst with
 | some t=>ins sl t v
 | none=>sl
def Zf.on (e:Zf) (dst:Option Nat) (sl:Sl) (hp:Hp):Sl×Hp:=
 (Zt (XA e.gone sl) dst e.eff.val,e.eff.on (Wx e.gone hp))
def YZ (base:Nat) (dst:Option Nat) (sl:Sl) (hp:Hp) (e:Option Zf):Option (Sl×Hp):=
 bnd e fun e=>if Xf base (base+64) e.eff.adds then some (e.on dst sl hp) else none
def ZhR (want:Bool):AV→Option Bool
 | .d (.bool b)=>some (b==want)
 | .tup []=>some false
 | _=>none
def Z3 (sl:Sl):Option (Nat×Bool)→Option Bool
 | none=>some true
 | some q=>ZhR q.2 (gs sl q.1)
inductive ZN where
 | skip
 | region (n:Nat) (draw:Option (List (Nat×Nat))) (ops:List CO)
 | seq (a b:ZN)
 | cond (c:Opd) (a b:ZN)
 | block (id:Nat) (c:ZN)
 | loop (c:ZN)
 | exit (id:Nat)
 | ret
 | keep (K:List Nat) (c:ZN)
 | stuck
 | link (fl:Bool) (id:Nat) (i:Opd) (j:Nat) (c:ZN)
 | melt (c:ZN)
 | peek (id:Nat) (c:ZN)
inductive ZtD where
 | tmp (t:Nat)
 | cell (a:Nat) (g:Bool) (s:Nat)
structure Zr where
 nt:Nat
 res:List ZtD
 body:ZN
def ZtE (x:Option Opd):List Opd:=match x with
 | some y=>[y]
 | none=>[]
def ZF:COp→List Opd
 | .move x=>[x]
 | .assign _ x=>[x]
 | .pick c a b=>[c,a,b]
 | .alloc _ _=>[]
 | .box x=>[x]
 | .build _ ps=>ps.map fun q=>q.2.2
 | .buildSl _ xs=>xs
 | .load _ _ a=>[a]
 | .store _ _ a x=>[a,x]
 | .nilCheck x=>[x]
 | .bin _ _ x y=>[x,y]
 | .un _ x=>[x]
 | .eqA _ _ x y=>[x,y]
 | .convI _ x=>[x]
 | .convS x=>[x]
 | .fn _ cs=>cs
 | .make _ _ _ l c=>[l,c]
 | .slice _ x lo hi=>x :: (ZtE lo++ZtE hi)
 | .sliceS x lo hi=>x :: (ZtE lo++ZtE hi)
 | .slice0 x hi mx=>[x,hi,mx]
 | .shift _ x=>[x]
 | .part _ _ _ x=>[x]
 | .iaS _ x i=>[x,i]
 | .iaA _ _ x i=>[x,i]
 | .ixS x i=>[x,i]
 | .ixA _ _ _ x i=>[x,i]
 | .nth _ x=>[x]
 | .len x=>[x]
 | .lenS x=>[x]
 | .append _ _ _ _ x y=>[x,y]
 | .min x y=>[x,y]
 | .max x y=>[x,y]
 | .call f as1=>f :: as1
 | .slice3 _ x lo hi mx=>[x,lo,hi,mx]
 | .clear _ _ x=>[x]
 | .stuck=>[]
 | .buildT _ _ xs=>xs
 | .appT _ _ _ x y=>[x,y]
 | .asgT _ _ x=>[x]
 | .makeT _ _ _ _ l c=>[l,c]
def Zkh:COp→Bool
 | .store _ _ _ _=>true
 | _=>false
def isApp:COp→Bool
 | .append _ _ _ _ _ _=>true
 | _=>false
def ZtF (c:COp):Bool:=Zkh c || isApp c
def CO.starts (o:CO):Bool:=Zkh o.op || o.tl
def ZX (os:List CO) (i:Nat):Bool:=match os[i]? with
 | some o=>CO.starts o
 | none=>false
def Uz:Opd→List Nat
 | .t n=>[n]
 | _=>[]
def ZtG:Option (Nat×Bool)→List Nat
 | some q=>[q.1]
 | none=>[]
def looks (o:CO):List Nat:=(ZF o.op).flatMap Uz++ZtG o.guard
def QY:Option Nat→List Nat→Bool
 | some d,l=>!l.contains d
 | none,_=>true
def Za0:Option Nat→Option Nat→Bool
 | some d,some e=>d != e
 | _,_=>true
def XT (a b:CO):Bool:=QY a.dst (looks b)&&Za0 a.dst b.dst&&QY b.dst (looks a)
def Vd:Opd→Bool
 | .v a=>(Zz a).isEmpty&&!ZwG a
 | _=>true
def Zys (os:List CO) (j i:Nat):Bool:=match os[j]?,os[i]? with
 | some a,some b=>XT a b
 | _,_=>false
def W5:COp→Bool
 | .load _ _ _=>false
 | .store _ _ _ _=>false
 | .slice _ _ _ _=>false
 | .slice0 _ _ _=>false
 | .iaS _ _ _=>false
 | .len _=>false
 | .append _ _ _ _ _ _=>false
 | .buildSl _ _=>false
 | .buildT _ _ _=>false
 | .appT _ _ _ _ _=>false
 | .asgT _ _ _=>false
 | .makeT _ _ _ _ _ _=>false
 | .call _ _=>false
 | .slice3 _ _ _ _ _=>false
 | .clear _ _ _=>false
 | _=>true
def Zas:COp→Bool
 | .load _ _ _=>true
 | .slice _ _ _ _=>true
 | .slice0 _ _ _=>true
 | .iaS _ _ _=>true
 | .len _=>true
 | _=>false
def ZB6:COp→Bool
 | .clear _ _ _=>false
 | .store _ _ _ _=>false
 | .append _ _ _ _ _ _=>false
 | .buildSl _ _=>false
 | .buildT _ _ _=>false
 | .appT _ _ _ _ _=>false
 | .asgT _ _ _=>false
 | .makeT _ _ _ _ _ _=>false
 | .call _ _=>false
 | _=>true
def Jp (os:List CO) (k:Nat):Option Nat:=match os[k]? with
 | some o=>o.dst
 | none=>none
def Zyt (os:List CO) (k:Nat):List Nat:=match os[k]? with
 | some o=>looks o
 | none=>[]
def Zcs (os:List CO) (k:Nat):Bool:=(List.range os.length).all fun q=>decide (q<k) || QY (Jp os q) (Zyt os k)
def Vs:COp→Bool
 | .move _=>true
 | _=>false
def ZhS:COp→Bool
 | .append _ _ _ _ _ _=>true
 | .buildSl _ _=>true
 | _=>false
def ZbQ:COp→Bool
 | .call (.f _) _=>true
 | _=>false
def Zox:COp→List Opd
 | .call _ as1=>as1
 | _=>[]
def ZB7:COp→Bool
 | .alloc _ _=>false
 | .box _=>false
 | .assign _ _=>false
 | .make _ _ _ _ _=>false
 | .fn _ _=>false
 | _=>true
def ZwK:COp→Bool
 | .buildSl _ _=>true
 | _=>false
def Zf5:AV→Bool
 | .d _=>true
 | .nil=>true
 | .nilp=>true
 | .nili=>true
 | _=>false
def V0:List AV→Bool
 | []=>true
 | c :: r=>Zf5 c&&V0 r
def ZqV:COp→Bool
 | .alloc _ cs=>V0 cs
 | _=>false
def ZtH (c:COp):Bool:=Zas c || ZwK c || (W5 c&&ZB7 c) || ZqV c
def Zm4:COp→Bool
 | .alloc _ cs=>V0 cs
 | .buildSl _ _=>true
 | .load _ _ _=>true
 | .nilCheck _=>true
 | .bin _ _ _ _=>true
 | .un _ _=>true
 | .convI _ _=>true
 | .shift _ _=>true
 | .iaS _ _ _=>true
 | .slice _ _ _ _=>true
 | .len _=>true
 | .sliceS _ _ _=>true
 | .lenS _=>true
 | _=>false
def ZHm:Option Nat→Bool
 | some _=>true
 | none=>false
def ZqI (os:List CO) (k:Nat):Bool:=ZHm (Jp os k)&&(List.range os.length).all fun q=>q==k || Za0 (Jp os q) (Jp os k)
def Zm5 (os:List CO) (j i:Nat):Bool:=Zcs os j&&Zcs os i
def ZF1 (os:List CO) (j i:Nat) (a b:COp):Bool:=
 ZB6 b || (ZtF b&&(W5 a || (!Vs a&&Zas a&&Zm5 os j i))) || (Vs a&&(ZhS b || ZqI os j)) || (!Vs a&&ZbQ b&&ZtH a&&Zm5 os j i&&ZqI os j)
def ZF2 (os:List CO) (j i:Nat) (a b:COp):Bool:=(Vs b&&ZqI os i) || (!Vs b&&ZbQ a&&Zm4 b&&Zm5 os j i&&ZqI os i)
def Zyu (os:List CO) (j i:Nat):Bool:=match os[j]?,os[i]? with
 | some a,some b=>if ZX os j then !ZX os i&&ZF2 os j i a.op b.op else !ZX os i || ZF1 os j i a.op b.op
 | _,_=>false
def ZhT (os:List CO) (j i:Nat):Option (Nat×Nat):=match os[j]?,os[i]? with
 | some a,some b=>if ZX os j then (if Vs b.op || ZbQ a.op then some (i,j) else none) else
   if ZX os i&&(if ZtF b.op then !(W5 a.op) else if Vs a.op then !(ZhS b.op) else ZbQ b.op) then some (j,i) else none
 | _,_=>none
def optP:Option (Nat×Nat)→List (Nat×Nat)
 | some p=>[p]
 | none=>[]
def Za1 (ops:Array Oper) (os:List CO):List (Nat×Nat):=
 (List.range ops.size).flatMap fun i=>(List.range i).flatMap fun j=>if Zjp ops 6 i j then [] else optP (ZhT os j i)
def ZtI (ops:Array Oper) (os:List CO):Bool:=
 (List.range ops.size).all (fun i=>(Wv ops i).all fun e=>decide (e<i)) &&
 (List.range ops.size).all (fun i=>(List.range i).all fun j=>(Wv ops i).contains j || Zys os j i) &&
 (List.range ops.size).all (fun i=>(List.range i).all fun j=>Zjp ops 6 i j || Zyu os j i) &&
 os.all (fun o=>(ZF o.op).all Vd)
def Zey (id:Nat):AV→Bool
 | .d _=>true
 | .pim _=>true
 | .nil=>true
 | .ptr k _=>k != id
 | .prow k _ _ _=>k != id
 | .own k=>k != id
 | .ownv k _ _=>k != id
 | .nilp=>true
 | .nili=>true
 | .tup []=>true
 | _=>false
def okC:AV→Bool
 | .d _=>true
 | .pim _=>true
 | .nil=>true
 | .ptr _ _=>true
 | .prow _ _ _ _=>true
 | .own _=>true
 | .ownv _ _ _=>true
 | .nilp=>true
 | .nili=>true
 | _=>false
def Zyv:List AV→Bool
 | []=>true
 | v :: r=>okC v&&Zyv r
def okV:AV→Bool
 | .agg cs=>Zyv cs
 | .tup []=>true
 | v=>okC v
def okL (sl:Sl):List Opd→Bool
 | []=>true
 | x :: r=>okV (evO sl x)&&okL sl r
def okD (sl:Sl):Option Nat→Bool
 | some t=>okV (gs sl t)
 | none=>true
def V1:AV→Option Nat
 | .ptr k _=>some k
 | .prow k _ _ _=>some k
 | _=>none
def Xc (sl:Sl) (id:Nat):List Opd→Bool
 | []=>true
 | x :: r=>Zey id (evO sl x)&&Xc sl id r
def ZhU (sl:Sl) (a:COp):Option Nat→Bool
 | some id=>Xc sl id (ZF a)
 | none=>false
def Zez (sl:Sl) (xs:List Opd):AV→Bool
 | .ptr k _=>Xc sl k xs
 | .prow _ _ _ _=>false
 | _=>true
def Zjq (sl:Sl) (xs:List Opd):List Opd→Bool
 | []=>true
 | y :: r=>Zez sl xs (evO sl y)&&Zjq sl xs r
def Zat (sl:Sl) (a:COp):AV→Bool
 | .nil=>true
 | .tup []=>true
 | .own k=>Xc sl k (ZF a)
 | .ownv k _ _=>Xc sl k (ZF a)
 | _=>false
def seenSrc (sl:Sl) (a:COp):AV→Bool
 | .own k=>Xc sl k (ZF a)
 | v=>okV v
def Ym (sl:Sl) (xs:List Opd):List Nat→Bool
 | []=>true
 | k :: r=>Xc sl k xs&&Ym sl xs r
def Wk (sl:Sl) (a:COp):AV→AV→Bool
 | .prow _ _ _ _,.d _=>true
 | .prow _ _ _ _,v=>okV v&&Ym sl (ZF a) (Zz v)
 | _,_=>true
def Jh (sl:Sl) (d:Option Nat):COp→COp→Bool
 | .move _,_=>okD sl d
 | a,.store _ _ x y=>ZhU sl a (V1 (evO sl x))&&Wk sl a (evO sl x) (evO sl y)
 | a,.append _ _ _ flat x y=>Zat sl a (evO sl x)&&(flat || seenSrc sl a (evO sl y))
 | a,.call _ as1=>okL sl (ZF a)&&(okD sl d&&(okL sl as1&&Zjq sl (ZF a) as1))
 | _,_=>false
def Zm6 (os:List CO) (sl:Sl) (p:Nat×Nat):Bool:=match os[p.1]?,os[p.2]? with
 | some a,some b=>Jh sl a.dst a.op b.op
 | _,_=>false
def Wy (os:List CO) (sl:Sl):List (Nat×Nat)→Bool
 | []=>true
 | p :: r=>Zm6 os sl p&&Wy os sl r
def YF (M:Zs):Zs:=fun f i=>i != 99&&M f i
section
variable (C:Orc) (M:Zs)
noncomputable def ZhV (nx:Nat):Nat→List CO→Sl→Hp→Option (Sl×Hp)
 | _,[],sl,hp=>some (sl,hp)
 | i,o :: rest,sl,hp=>bnd (Z3 sl o.guard) fun b=>
   if b then bnd (YZ (nx+64*i) o.dst sl hp (vop C M sl hp (nx+64*i) o.op)) fun r=>ZhV nx (i+1) rest r.1 r.2
   else ZhV nx (i+1) rest (Zt sl o.dst (.tup [])) hp
def ZhW (c:Zf):List Nat→Hp→List Nat→List Nat→Option Zf
 | [],[],[],[]=>some c
 | _,_,_,_=>none
def ZeA (e:Option Zf):Option Zf:=bnd e fun c=>ZhW c c.gone c.eff.sets c.eff.dels c.eff.frz
noncomputable def WB (nx i:Nat) (tail:Bool) (o:COp) (sl:Sl) (hp:Hp):Option Zf:=
 if tail then vop C M sl hp (nx+64*i) o else ZeA (vop C M sl hp (nx+64*i) o)
noncomputable def Jq (nx:Nat):Nat→Bool→List CO→Sl→Hp→Option (Sl×Hp)
 | _,_,[],sl,hp=>some (sl,hp)
 | i,t,o :: rest,sl,hp=>bnd (Z3 sl o.guard) fun b=>
   if b then bnd (YZ (nx+64*i) o.dst sl hp (WB C M nx i (CO.starts o) o.op sl hp)) fun r=>Jq nx (i+1) t rest r.1 r.2
   else Jq nx (i+1) t rest (Zt sl o.dst (.tup [])) hp
def Zct {α:Type}:List (Nat×α)→List Nat
 | []=>[]
 | (k,_) :: r=>k :: Zct r
def only {α:Type} (K:List Nat):List (Nat×α)→List (Nat×α)
 | []=>[]
 | (k,v) :: r=>if K.contains k then (k,v) :: only K r else only K r
def WC:Nat→List Zm→Hp
 | _,[]=>[]
 | k,o :: r=>WC (k+1) r++[(k,o)]
def ZwL:Sl→List Nat
 | []=>[]
 | (_,v) :: r=>Zz v++ZwL r
def Zyw:Option Zm→Bool
 | some _=>true
 | none=>false
def Zf6 (hp:Hp) (ids:List Nat) (i:Nat):Bool:=ids.contains i&&Zyw (lkp hp i)
def Zjr (hp:Hp) (ids:List Nat):List Nat→List Nat
 | []=>[]
 | i :: r=>if Zf6 hp ids i then Zjr hp ids r else i :: Zjr hp ids r
def ZgG (hp:Hp) (ids:List Nat) (v:AV):AV:=ren (Wu ids) (kill (Zjr hp ids (Zz v)) v)
def Zjs (hp:Hp) (ids:List Nat) (o:Zm):Zm:=ZmS (Wu ids) (XG (Zjr hp ids (Zal o)) o)
def ZB8:Option Zm→List Nat
 | some o=>Zal o
 | none=>[]
def Up (hp:Hp):List Nat→List Nat
 | []=>[]
 | id :: r=>ZB8 (lkp hp id)++Up hp r
def Jr (K:List Nat) (st:St):St:=
 let sl:=only K st.sl
 let ids:=Xm st.hp (Yd st.hp) (ZwL sl++Up st.hp (List.range st.m)) (List.range st.m)
 { sl:=Zos (ZgG st.hp ids) sl,hp:=WC 0 ((Zf1 st.hp ids).map (Zjs st.hp ids)),nx:=ids.length,m:=st.m }
def ZaF (f:St→Option (Ex×St)) (K:List Nat):Nat→St→Option (Ex×St)
 | 0,_=>none
 | n+1,st=>match f (Jr K st) with
  | some (.normal,st')=>ZaF f K n st'
  | r=>r
def andThen (r:Option (Ex×St)) (k:St→Option (Ex×St)):Option (Ex×St):=match r with
 | some (.normal,st)=>k st
 | r=>r
def Zk2 (v:AV) (a b:Option (Ex×St)):Option (Ex×St):=match v with
 | .d (.bool t)=>if t then a else b
 | _=>none
def Zjt (id:Nat) (r:Option (Ex×St)):Option (Ex×St):=match r with
 | some (.exit j,st)=>if j=id then some (.normal,st) else some (.exit j,st)
 | r=>r
def Zm7 (ops:List CO) (ps:List (Nat×Nat)) (r:Option (Sl×Hp)):Option (Sl×Hp):=bnd r fun r=>if Wy ops r.1 ps then some r else none
def ZkA (m nx:Nat) (r:Option (Sl×Hp)):Option (Ex×St):=bnd r fun r=>some (.normal,{ sl:=r.1,hp:=r.2,nx:=nx,m:=m })
def ZtJ (K:List Nat) (r:Option (Ex×St)):Option (Ex×St):=match r with
 | some q=>some (q.1,{ q.2 with sl:=only K q.2.sl })
 | none=>none
def ZDi (fl:Bool) (k:Nat) (ys:List D):Option Zm:=if fl then (if ZaB D.flat ys then some (.row k ys true false) else none) else some (.tree k k ys none)
def Zm8 (xs:List D) (n j:Nat) (y:D):Option (List D):=bnd xs[n]? fun x=>some (xs.set n (VN x j [y]))
def ZDj (fl:Bool) (nx n j:Nat):Option Zm→Option (Zm×Zm)
 | some (.tree s k xs none)=>bnd (Zar xs n j) fun ys=>bnd (ZDi fl k ys) fun o=>bnd (Zm8 xs n j (.sl [])) fun xs'=>some (.tree s k xs' (some (some nx,n,j)),o)
 | _=>none
def ZF3:Option Zm→Option Int
 | some (.tree _ _ xs _)=>some ((xs.length:Int)-1)
 | _=>none
def Zyx (st:St) (id:Nat):Opd→Option Int
 | .t n=>idx (gs st.sl n)
 | .v a=>idx a
 | .f _=>ZF3 (lkp st.hp id)
def ZhX (fl:Bool) (id:Nat) (i:Opd) (j:Nat) (st:St):Option St:=bnd (Zyx st id i) fun n=>if 0≤n then bnd (ZDj fl st.nx n.toNat j (lkp st.hp id)) fun q=>some { st with hp:=ins (ins st.hp id q.1) st.nx q.2,nx:=st.nx+64 } else none
def ZtK (k:Nat):Option Zm→Option (List D)
 | some (.row k' ys true false)=>if k'=k∧ZaB D.flat ys then some ys else none
 | some (.tree k' n ys none)=>if k'=k∧n=k then some ys else none
 | _=>none
def Zpv (hp:Hp) (id nm:Nat):Option Zm→Option Hp
 | some (.tree s k xs (some (some nm',n,j)))=>if nm'=nm then bnd (ZtK k (lkp hp nm)) fun ys=>bnd (Zm8 xs n j (.sl ys)) fun xs'=>some (ins (del hp nm) id (.tree s k xs' none)) else none
 | _=>none
def ZEB (hp:Hp):Option Hp→Hp
 | some h=>h
 | none=>hp
def ZtL (id nm:Nat) (r:Option (Ex×St)):Option (Ex×St):=match r with
 | some q=>some (q.1,{ q.2 with hp:=ZEB q.2.hp (Zpv q.2.hp id nm (lkp q.2.hp id)) })
 | none=>none
def Zyy (st:St):St := { st with hp:=Zos Zm1 st.hp }
def ZtM:Option Zm→Option Zm
 | some (.tree s _ xs none)=>some (.row s xs false true)
 | _=>none
def ZhY:AV→AV
 | .d (.int k n)=>.d (.int k n)
 | .d (.bool b)=>.d (.bool b)
 | _=>.junk
def ZqJ:Option Nat→List Nat→List Nat
 | some t,l=>t :: l
 | none,l=>l
def Zau:List CO→List Nat
 | []=>[]
 | o :: r=>ZqJ o.dst (Zau r)
def ZAE:ZN→Option (List Nat)
 | .region _ _ os=>some (Zau os)
 | _=>none
def ZeB (sl2:Sl):List Nat→Sl→Sl
 | [],sl=>sl
 | t :: r,sl=>ZeB sl2 r (ins sl t (ZhY (gs sl2 t)))
def Zoy (id:Nat) (st:St):Option St:=bnd (ZtM (lkp st.hp id)) fun o=>some { st with hp:=[(id,o)] }
def ZtN (st:St) (ds:List Nat) (r:Option (Ex×St)):Option (Ex×St):=match r with
 | some q=>some (q.1,{ q.2 with sl:=ZeB q.2.sl ds st.sl,hp:=st.hp })
 | none=>none
noncomputable def ZH (N:Nat):ZN→St→Option (Ex×St)
 | .skip,st=>some (.normal,st)
 | .region n none ops,st=>ZkA st.m (st.nx+64*n) (ZhV C M st.nx 0 ops st.sl st.hp)
 | .region n (some ps) ops,st=>ZkA st.m (st.nx+64*n) (Zm7 ops ps (Jq C (YF M) st.nx 0 false ops st.sl st.hp))
 | .seq a b,st=>andThen (ZH N a st) (ZH N b)
 | .cond c a b,st=>Zk2 (evO st.sl c) (ZH N a st) (ZH N b st)
 | .block id c,st=>Zjt id (ZH N c st)
 | .loop c,st=>ZaF (ZH N c) (Zct st.sl) N st
 | .exit id,st=>some (.exit id,st)
 | .ret,st=>some (.ret,st)
 | .keep K c,st=>ZtJ K (ZH N c st)
 | .stuck,_=>none
 | .link fl id i j c,st=>bnd (ZhX fl id i j st) fun st1=>ZtL id st.nx (ZH N c st1)
 | .melt c,st=>ZH N c (Zyy st)
 | .peek id c,st=>bnd (ZAE c) fun ds=>bnd (Zoy id st) fun st1=>ZtN st ds (ZH N c st1)
def ZtO (st:St):ZtD→Option AV
 | .tmp t=>some (gs st.sl t)
 | .cell a g s=>UO st.hp g s (gs st.sl a)
def W6 (m:Nat) (hp:Hp) (v:AV):AV×List Zm:=
 let ids:=Xm hp (Yd hp) (Zz v++Up hp (List.range m)) (List.range m)
 (ZgG hp ids v,(Zf1 hp ids).map (Zjs hp ids))
def ZDk:AV→Bool
 | .tup _=>true
 | _=>false
def ZlM:List AV→Bool
 | []=>false
 | v :: r=>ZDk v || ZlM r
def ZeC:List AV→AV
 | [v]=>v
 | vs=>if ZlM vs then .junk else .tup vs
def Wz:Nat→List AV→Sl
 | _,[]=>[]
 | k,v :: r=>Wz (k+1) r++[(k,v)]
def Zf7 (m:Nat) (rs:List ZtD) (r:Option (Ex×St)):Option (AV×List Zm):=match r with
 | some (.normal,st)=>bnd (QJ (ZtO st) rs) fun vs=>some (W6 m st.hp (ZeC vs))
 | some (.ret,st)=>bnd (QJ (ZtO st) rs) fun vs=>some (W6 m st.hp (ZeC vs))
 | _=>none
noncomputable def ZtP (N:Nat) (fn:Zr) (as1:List AV) (h:List Zm):Option (AV×List Zm):=
 if as1.length≤fn.nt then Zf7 h.length fn.res (ZH C M N fn.body { sl:=Wz 0 as1,hp:=WC 0 h,nx:=h.length,m:=h.length }) else none
end
inductive Fn where
 | text (f:Zr)
 | prim (p:List AV→List Zm→Option (AV×List Zm))
abbrev Fns:=Nat→Option Fn
noncomputable def Zoz (C:Orc) (M:Zs) (N:Nat) (as1:List AV) (h:List Zm):Option Fn→Option (AV×List Zm)
 | some (.text f)=>ZtP C M N f as1 h
 | some (.prim p)=>p as1 h
 | none=>none
noncomputable def Qo (X:Fns) (M:Zs):Nat→Orc
 | 0,_,_,_=>none
 | n+1,f,as1,h=>Zoz (Qo X M n) M n as1 h (X f)
open Classical in
noncomputable def lim {α:Type} (x:Nat→Option α):Option α:=if h:∃ r,∃ n,x n=some r then some h.choose else none
def ZEC {α:Type} (x:Nat→Option α):Prop:=∀ n r,x n=some r→x (n+1)=some r
theorem ZEC.le {α:Type} {x:Nat→Option α} (h:ZEC x) {n m:Nat} {r:α} (hr:x n=some r) (aa:n≤m):x m=some r:=by
 induction aa with
 | refl=>exact hr
 | step _ ih=>exact h _ _ ih
theorem ZlN {α:Type} {x:Nat→Option α} (h:ZEC x) {n:Nat} {r:α} (hr:x n=some r):lim x=some r:=by
 have he:∃ r,∃ n,x n=some r:=⟨r,n,hr⟩
 unfold lim;rw[dif_pos he];obtain⟨m,hm⟩:=he.choose_spec;have h1:=h.le hm (KaC m n);have h2:=h.le hr (Kaz m n);rw[h1] at h2;exact h2
theorem Zju {α:Type} {x:Nat→Option α} {r:α} (hr:lim x=some r):∃ n,x n=some r:=by
 unfold lim at hr;split at hr
 ·rename_i h;obtain⟨n,hn⟩:=h.choose_spec;exact⟨n,by rw[hn];exact hr⟩
 ·cases hr
def Orc.le (C C' : Orc):Prop:=∀ f as1 h r,C f as1 h=some r→C' f as1 h=some r
section
variable {M:Zs} {C C' : Orc}
theorem Zcu {α β:Type} {x x' : Option α} {f f' : α→Option β} {r:β} (hx:∀ a,x=some a→x'=some a) (hf:∀ a,f a=some r→f' a=some r) (h:bnd x f=some r):bnd x' f'=some r:=by
 obtain⟨a,h1,h2⟩:=Za h;rw[hx a h1];exact hf a h2
theorem ZF4 (h:C.le C') {m:Nat→Bool} {hp:Hp} {base f:Nat} {aa:List AV} {r:Zf}
  (hr:Zfl C m hp base f aa=some r):Zfl C' m hp base f aa=some r:=by
 unfold Zfl at hr ⊢;refine Zcu (fun _ h=>h) (fun as1 hr=>?_) hr;unfold ZhN at hr ⊢;by_cases hc:(as1.flatMap Zz).all (Xm hp (Yd hp) (as1.flatMap Zz) []).contains∧¬(Y7 aa as1).any (Xm hp (Yd hp) (as1.flatMap Zz) []).contains∧Zds hp (as1.flatMap ZaE) (Xm hp (Yd hp) (as1.flatMap Zz) [])=true
 ·rw[Kg hc] at hr ⊢;exact Zcu (fun q hq=>h _ _ _ _ hq) (fun _ h=>h) hr
 ·rw[Kd hc] at hr;cases hr
theorem Zyz (h:C.le C') {sl:Sl} {hp:Hp} {base:Nat} {o:COp} {r:Zf} (hr:vop C M sl hp base o=some r) :
  vop C' M sl hp base o=some r:=by
 cases o with
 | call f as1=>
  simp only[vop] at hr ⊢;cases hg:evO sl f<;>simp only[hg,Zf4] at hr ⊢ <;> first | exact ZF4 h hr | exact hr
 | _=>exact hr
theorem ZyA (h:C.le C') (nx:Nat):∀ (l:List CO) (i:Nat) (sl:Sl) (hp:Hp) (r:Sl×Hp),
  ZhV C M nx i l sl hp=some r→ZhV C' M nx i l sl hp=some r:=by
 intro l
 induction l with
 | nil=>intro i sl hp r hr;exact hr
 | cons o rest ih=>
  intro i sl hp r hr;simp only[ZhV] at hr ⊢;refine Zcu (fun _ h=>h) (fun b hr=>?_) hr;cases b
  ·simp only[Ka,Kn] at hr ⊢;exact ih _ _ _ _ hr
  ·simp only[Km] at hr ⊢;refine Zcu (fun q hq=>?_) (fun q hq=>ih _ _ _ _ hq) hr;unfold YZ at hq ⊢;exact Zcu (fun e he=>Zyz h he) (fun _ h=>h) hq
theorem ZDl (h:C.le C') {nx i:Nat} {t:Bool} {o:COp} {sl:Sl} {hp:Hp} {e:Zf} (he:WB C M nx i t o sl hp=some e) :
  WB C' M nx i t o sl hp=some e:=by
 unfold WB at he ⊢;cases t
 ·simp only[Ka,Kn,ZeA] at he ⊢;exact Zcu (fun _ hv=>Zyz h hv) (fun _ h=>h) he
 ·simp only[Km] at he ⊢;exact Zyz h he
theorem Zm9 (h:C.le C') (nx:Nat):∀ (l:List CO) (i:Nat) (t:Bool) (sl:Sl) (hp:Hp) (r:Sl×Hp),
  Jq C M nx i t l sl hp=some r→Jq C' M nx i t l sl hp=some r:=by
 intro l
 induction l with
 | nil=>intro i t sl hp r hr;exact hr
 | cons o rest ih=>
  intro i t sl hp r hr;simp only[Jq] at hr ⊢;refine Zcu (fun _ h=>h) (fun b hr=>?_) hr;cases b
  ·simp only[Ka,Kn] at hr ⊢;exact ih _ _ _ _ _ hr
  ·simp only[Km] at hr ⊢;refine Zcu (fun q hq=>?_) (fun q hq=>ih _ _ _ _ _ hq) hr;unfold YZ at hq ⊢;exact Zcu (fun e he=>ZDl h he) (fun _ h=>h) hq
theorem Zna {f g:St→Option (Ex×St)} (h:∀ st r,f st=some r→g st=some r) (K:List Nat) :
  ∀ (n m:Nat) (st:St) (r:Ex×St),n≤m→ZaF f K n st=some r→ZaF g K m st=some r:=by
 intro n
 induction n with
 | zero=>intro m st r _ hr;simp[ZaF] at hr
 | succ n ih=>
  intro m st r hm hr;cases m with
  | zero=>omega
  | succ m=>
   simp only[ZaF] at hr ⊢;cases hf:f (Jr K st) with
   | none=>simp[hf] at hr
   | some q=>
    rw[hf] at hr;rw[h _ _ hf];obtain⟨e,aa⟩:=q;cases e with
    | normal=>exact ih m aa r (by omega) hr
    | exit id=>exact hr
    | ret=>exact hr
theorem ZqW (h:C.le C') {N N' : Nat} (hN:N≤N'):∀ (c:ZN) (st:St) (r:Ex×St),
  ZH C M N c st=some r→ZH C' M N' c st=some r:=by
 intro c
 induction c with
 | skip=>intro st r hr;simpa [ZH] using hr
 | region n draw ops=>
  intro st r hr;cases draw
  ·simp only[ZH,ZkA] at hr ⊢;exact Zcu (fun q hq=>ZyA h _ _ _ _ _ _ hq) (fun _ h=>h) hr
  ·simp only[ZH,ZkA,Zm7] at hr ⊢;exact Zcu (fun q hq=>Zcu (fun q hq=>Zm9 h _ _ _ _ _ _ _ hq) (fun _ h=>h) hq) (fun _ h=>h) hr
 | seq a b iha ihb=>
  intro st r hr;simp only[ZH] at hr ⊢;cases ha:ZH C M N a st with
  | none=>simp[ha,andThen] at hr
  | some q=>
   rw[ha] at hr;rw[iha _ _ ha];obtain⟨e,aa⟩:=q;cases e with
   | normal=>exact ihb _ _ hr
   | exit id=>exact hr
   | ret=>exact hr
 | cond c a b iha ihb=>
  intro st r hr;simp only[ZH,Zk2] at hr ⊢;split at hr
  ·rename_i t ht;cases t
   ·simp only[Ka,Kn] at hr ⊢;exact ihb _ _ hr
   ·simp only[Km] at hr ⊢;exact iha _ _ hr
  ·cases hr
 | block id c ih=>
  intro st r hr;simp only[ZH] at hr ⊢;cases hc:ZH C M N c st with
  | none=>simp[hc,Zjt] at hr
  | some q=>rw[hc] at hr;rw[ih _ _ hc];exact hr
 | loop c ih=>
  intro st r hr;simp only[ZH] at hr ⊢;exact Zna ih _ _ _ _ _ hN hr
 | exit id=>intro st r hr;simpa [ZH] using hr
 | ret=>intro st r hr;simpa [ZH] using hr
 | keep K c ih=>
  intro st r hr;simp only[ZH] at hr ⊢;cases hc:ZH C M N c st with
  | none=>simp[hc,ZtJ] at hr
  | some q=>rw[hc] at hr;rw[ih _ _ hc];exact hr
 | stuck=>intro st r hr;simp[ZH] at hr
 | link fl id i j c ih=>
  intro st r hr;simp only[ZH] at hr ⊢;obtain⟨aa,h1,h2⟩:=Za hr;rw[h1,Zh];cases hc:ZH C M N c aa with
  | none=>simp[hc,ZtL] at h2
  | some q=>rw[hc] at h2;rw[ih _ _ hc];exact h2
 | melt c ih=>
  intro st r hr;simp only[ZH] at hr ⊢;exact ih _ r hr
 | peek id c ih=>
  intro st r hr;simp only[ZH] at hr ⊢;obtain⟨ds,h0,hr⟩:=Za hr;obtain⟨aa,h1,h2⟩:=Za hr;rw[h0,Zh,h1,Zh];cases hc:ZH C M N c aa with
  | none=>simp[hc,ZtN] at h2
  | some q=>rw[hc] at h2;rw[ih _ _ hc];exact h2
theorem ZF5 (h:C.le C') {N N' : Nat} (hN:N≤N') {f:Zr} {as1:List AV} {hh:List Zm} {r:AV×List Zm}
  (hr:ZtP C M N f as1 hh=some r):ZtP C' M N' f as1 hh=some r:=by
 unfold ZtP at hr ⊢;by_cases hl:as1.length≤f.nt
 ·rw[Kg hl] at hr ⊢;cases hv:ZH C M N f.body { sl:=Wz 0 as1,hp:=WC 0 hh,nx:=hh.length,m:=hh.length } with
  | none=>simp[hv,Zf7] at hr
  | some q=>rw[hv] at hr;rw[ZqW h hN _ _ _ hv];exact hr
 ·rw[Kd hl] at hr;cases hr
end
section
variable (X:Fns) (M:Zs)
theorem ZoA:∀ n,(Qo X M n).le (Qo X M (n+1)):=by
 intro n
 induction n with
 | zero=>intro f as1 h r hr;simp[Qo] at hr
 | succ n ih=>
  intro f as1 h r hr;rw[Qo] at hr ⊢;cases hf:X f with
  | none=>rw[hf] at hr;cases hr
  | some g=>
   rw[hf] at hr;cases g with
   | text g=>exact ZF5 ih (Nat.le_succ n) hr
   | prim p=>exact hr
noncomputable def Zd (f:Nat) (as1:List AV) (h:List Zm):Option (AV×List Zm):=lim fun n=>Qo X M n f as1 h
noncomputable def QD (c:ZN) (st:St):Option (Ex×St):=lim fun n=>ZH (Qo X M n) M n c st
theorem Zfn (f:Nat) (as1:List AV) (h:List Zm):ZEC fun n=>Qo X M n f as1 h:=fun n r hr=>ZoA X M n f as1 h r hr
theorem ZhZ (n:Nat):(Qo X M n).le (Zd X M):=fun f as1 h _ hr=>ZlN (Zfn X M f as1 h) hr
theorem ZlO (c:ZN) (st:St):ZEC fun n=>ZH (Qo X M n) M n c st:=fun n r hr=>ZqW (ZoA X M n) (Nat.le_succ n) c st r hr
theorem ZeD {n m:Nat} (h:n≤m):(Qo X M n).le (Qo X M m):=fun f as1 hh _ hr=>(Zfn X M f as1 hh).le hr h
theorem ZAF {m:Nat→Bool} {hp:Hp} {base f:Nat} {aa:List AV} {r:Zf}
  (hr:Zfl (Zd X M) m hp base f aa=some r):∃ n,Zfl (Qo X M n) m hp base f aa=some r:=by
 unfold Zfl at hr ⊢;obtain⟨as1,ab,hr⟩:=Za hr;simp only[ab,Zh];unfold ZhN at hr ⊢;by_cases hc:(as1.flatMap Zz).all (Xm hp (Yd hp) (as1.flatMap Zz) []).contains∧¬(Y7 aa as1).any (Xm hp (Yd hp) (as1.flatMap Zz) []).contains∧Zds hp (as1.flatMap ZaE) (Xm hp (Yd hp) (as1.flatMap Zz) [])=true
 ·rw[Kg hc] at hr;obtain⟨q,hq,hr⟩:=Za hr;obtain⟨n,hn⟩:=Zju hq;refine⟨n,?_⟩;rw[Kg hc,hn];exact hr
 ·rw[Kd hc] at hr;cases hr
theorem ZoB {M' : Zs} {sl:Sl} {hp:Hp} {base:Nat} {o:COp} {r:Zf} (hr:vop (Zd X M) M' sl hp base o=some r) :
  ∃ n,vop (Qo X M n) M' sl hp base o=some r:=by
 cases o with
 | call f as1=>
  simp only[vop] at hr ⊢;cases hg:evO sl f<;>simp only[hg,Zf4] at hr ⊢ <;> first | exact ZAF X M hr | exact⟨0,hr⟩
 | _=>exact⟨0,hr⟩
theorem ZB9 (nx:Nat):∀ (l:List CO) (i:Nat) (sl:Sl) (hp:Hp) (r:Sl×Hp),
  ZhV (Zd X M) M nx i l sl hp=some r→∃ n,ZhV (Qo X M n) M nx i l sl hp=some r:=by
 intro l
 induction l with
 | nil=>intro i sl hp r hr;exact⟨0,hr⟩
 | cons o rest ih=>
  intro i sl hp r hr;simp only[ZhV] at hr ⊢;obtain⟨b,hb,hr⟩:=Za hr;simp only[hb,Zh];cases b
  ·simp only[Ka,Kn] at hr ⊢;exact ih _ _ _ _ hr
  ·simp only[Km] at hr ⊢;obtain⟨q,hq,hr⟩:=Za hr;unfold YZ at hq;obtain⟨e,he,hq⟩:=Za hq;obtain⟨n1,h1⟩:=ZoB X M he;obtain⟨n2,h2⟩:=ih _ _ _ _ hr;refine⟨max n1 n2,?_⟩;unfold YZ;rw[Zyz (ZeD X M (KaC n1 n2)) h1,Zh,hq,Zh];exact ZyA (ZeD X M (Kaz n1 n2)) _ _ _ _ _ _ h2
theorem ZCa {M' : Zs} {nx i:Nat} {t:Bool} {o:COp} {sl:Sl} {hp:Hp} {e:Zf} (he:WB (Zd X M) M' nx i t o sl hp=some e) :
  ∃ n,WB (Qo X M n) M' nx i t o sl hp=some e:=by
 unfold WB at he ⊢;cases t
 ·simp only[Ka,Kn,ZeA] at he ⊢;obtain⟨e',aa,h2⟩:=Za he;obtain⟨n,hn⟩:=ZoB X M aa;exact⟨n,by rw[hn];exact h2⟩
 ·simp only[Km] at he ⊢;exact ZoB X M he
theorem ZAG {M' : Zs} (nx:Nat):∀ (l:List CO) (i:Nat) (t:Bool) (sl:Sl) (hp:Hp) (r:Sl×Hp),
  Jq (Zd X M) M' nx i t l sl hp=some r→∃ n,Jq (Qo X M n) M' nx i t l sl hp=some r:=by
 intro l
 induction l with
 | nil=>intro i t sl hp r hr;exact⟨0,hr⟩
 | cons o rest ih=>
  intro i t sl hp r hr;simp only[Jq] at hr ⊢;obtain⟨b,hb,hr⟩:=Za hr;simp only[hb,Zh];cases b
  ·simp only[Ka,Kn] at hr ⊢;exact ih _ _ _ _ _ hr
  ·simp only[Km] at hr ⊢;obtain⟨q,hq,hr⟩:=Za hr;unfold YZ at hq;obtain⟨e,he,hq⟩:=Za hq;obtain⟨n1,h1⟩:=ZCa X M he;obtain⟨n2,h2⟩:=ih _ _ _ _ _ hr;refine⟨max n1 n2,?_⟩;unfold YZ;rw[ZDl (ZeD X M (KaC n1 n2)) h1,Zh,hq,Zh];exact Zm9 (ZeD X M (Kaz n1 n2)) _ _ _ _ _ _ _ h2
theorem Xh {c:ZN} {st:St} {n:Nat} {r:Ex×St} (h:ZH (Qo X M n) M n c st=some r):QD X M c st=some r:=
 ZlN (ZlO X M c st) h
theorem Yg {α:Type} {x:Nat→Option α} (h:∀ n,x n=none):lim x=none:=by
 cases hx:lim x with
 | none=>rfl
 | some r=>obtain⟨n,hn⟩:=Zju hx;rw[h n] at hn;cases hn
theorem ZCb (st:St):QD X M .skip st=some (.normal,st):=Xh X M (n:=0) (by simp[ZH])
theorem ZCc (id:Nat) (st:St):QD X M (.exit id) st=some (.exit id,st):=Xh X M (n:=0) (by simp[ZH])
theorem ZED (st:St):QD X M .ret st=some (.ret,st):=Xh X M (n:=0) (by simp[ZH])
theorem Znb (n:Nat) (ops:List CO) (st:St) :
  QD X M (.region n none ops) st=ZkA st.m (st.nx+64*n) (ZhV (Zd X M) M st.nx 0 ops st.sl st.hp):=by
 cases h:ZhV (Zd X M) M st.nx 0 ops st.sl st.hp with
 | some r=>
  obtain⟨k,hk⟩:=ZB9 X M _ _ _ _ _ _ h;exact Xh X M (n:=k) (by simp only[ZH,hk,ZkA,Zh])
 | none=>
  refine Yg fun k=>?_;simp only[ZH];cases hn:ZhV (Qo X M k) M st.nx 0 ops st.sl st.hp with
  | none=>rfl
  | some r=>rw[ZyA (ZhZ X M k) _ _ _ _ _ _ hn] at h;cases h
theorem ZtQ (n:Nat) (ps:List (Nat×Nat)) (ops:List CO) (st:St) :
  QD X M (.region n (some ps) ops) st=ZkA st.m (st.nx+64*n) (Zm7 ops ps (Jq (Zd X M) (YF M) st.nx 0 false ops st.sl st.hp)):=by
 cases h:Jq (Zd X M) (YF M) st.nx 0 false ops st.sl st.hp with
 | some r=>
  obtain⟨k,hk⟩:=ZAG X M _ _ _ _ _ _ _ h;cases hs:Zm7 ops ps (some r) with
  | none=>
   refine Yg fun k'=>?_;simp only[ZH];cases hn:Jq (Qo X M k') (YF M) st.nx 0 false ops st.sl st.hp with
   | none=>rfl
   | some r' =>
    have:=Zm9 (ZhZ X M k') _ _ _ _ _ _ _ hn;rw[h] at this;cases this;rw[hs];rfl
  | some r'=>exact Xh X M (n:=k) (by simp only[ZH,hk,hs];rfl)
 | none=>
  refine Yg fun k=>?_;simp only[ZH];cases hn:Jq (Qo X M k) (YF M) st.nx 0 false ops st.sl st.hp with
  | none=>rfl
  | some r=>rw[Zm9 (ZhZ X M k) _ _ _ _ _ _ _ hn] at h;cases h
theorem U9 {c:ZN} {st:St} {r:Ex×St} (h:QD X M c st=some r):∃ n,∀ m,n≤m→ZH (Qo X M m) M m c st=some r:=by
 obtain⟨n,hn⟩:=Zju h;exact⟨n,fun m hm=>(ZlO X M c st).le hn hm⟩
theorem ZEE (a b:ZN) (st:St):QD X M (.seq a b) st=andThen (QD X M a st) (QD X M b):=by
 cases ha:QD X M a st with
 | none=>
  refine Yg fun n=>?_;cases h:ZH (Qo X M n) M n a st with
  | none=>simp[ZH,h,andThen]
  | some q=>rw[Xh X M h] at ha;cases ha
 | some q=>
  obtain⟨e,aa⟩:=q;obtain⟨n,hn⟩:=U9 X M ha;cases e with
  | normal=>
   simp only[andThen];cases hb:QD X M b aa with
   | none=>
    refine Yg fun k=>?_;cases h:ZH (Qo X M k) M k (.seq a b) st with
    | none=>rfl
    | some q=>
     have h1:=(ZlO X M (.seq a b) st).le h (KaC k n);simp only[ZH,hn _ (Kaz k n),andThen] at h1;rw[Xh X M h1] at hb;cases hb
   | some q=>
    obtain⟨m,hm⟩:=U9 X M hb;refine Xh X M (n:=max n m) ?_;simp only[ZH,hn _ (KaC n m),andThen,hm _ (Kaz n m)]
  | exit id=>exact Xh X M (n:=n) (by simp only[ZH,hn _ (Kp n),andThen])
  | ret=>exact Xh X M (n:=n) (by simp only[ZH,hn _ (Kp n),andThen])
theorem ZCd (c:Opd) (a b:ZN) (st:St) :
  QD X M (.cond c a b) st=Zk2 (evO st.sl c) (QD X M a st) (QD X M b st):=by
 unfold Zk2;split
 ·rename_i t h;cases t
  ·simp only[Ka,Kn,QD,ZH,h,Zk2]
  ·simp only[Km,QD,ZH,h,Zk2]
 ·rename_i h;refine Yg fun n=>?_;simp only[ZH,Zk2]
theorem ZAH (id:Nat) (c:ZN) (st:St):QD X M (.block id c) st=Zjt id (QD X M c st):=by
 cases hc:QD X M c st with
 | none=>
  refine Yg fun n=>?_;cases h:ZH (Qo X M n) M n c st with
  | none=>simp[ZH,h,Zjt]
  | some q=>rw[Xh X M h] at hc;cases hc
 | some q=>
  obtain⟨n,hn⟩:=U9 X M hc;cases hb:Zjt id (some q) with
  | none=>
   obtain⟨e,aa⟩:=q;cases e<;>simp[Zjt] at hb
   split at hb<;>cases hb
  | some r=>exact Xh X M (n:=n) (by simp only[ZH,hn _ (Kp n),hb])
theorem ZCe (K:List Nat) (c:ZN) (st:St):QD X M (.keep K c) st=ZtJ K (QD X M c st):=by
 cases hc:QD X M c st with
 | none=>
  refine Yg fun n=>?_;cases h:ZH (Qo X M n) M n c st with
  | none=>simp[ZH,h,ZtJ]
  | some q=>rw[Xh X M h] at hc;cases hc
 | some q=>
  obtain⟨n,hn⟩:=U9 X M hc;exact Xh X M (n:=n) (by simp only[ZH,hn _ (Kp n),ZtJ])
theorem ZCf (fl:Bool) (id:Nat) (i:Opd) (j:Nat) (c:ZN) (st:St):QD X M (.link fl id i j c) st=bnd (ZhX fl id i j st) fun st1=>ZtL id st.nx (QD X M c st1):=by
 cases hl:ZhX fl id i j st with
 | none=>
  refine Yg fun n=>?_;simp only[ZH,hl];rfl
 | some st' =>
  rw[Zh];cases hc:QD X M c st' with
  | none=>
   refine Yg fun n=>?_;cases h:ZH (Qo X M n) M n c st' with
   | none=>simp only[ZH,hl,Zh,h];rfl
   | some q=>rw[Xh X M h] at hc;cases hc
  | some q=>
   obtain⟨n,hn⟩:=U9 X M hc;exact Xh X M (n:=n) (by simp only[ZH,hl,Zh,hn _ (Kp n)];rfl)
theorem ZCg (c:ZN) (st:St):QD X M (.melt c) st=QD X M c (Zyy st):=by
 cases hc:QD X M c (Zyy st) with
 | none=>
  refine Yg fun n=>?_;cases h:ZH (Qo X M n) M n c (Zyy st) with
  | none=>simp only[ZH,h]
  | some q=>rw[Xh X M h] at hc;cases hc
 | some q=>
  obtain⟨n,hn⟩:=U9 X M hc;exact Xh X M (n:=n) (by simp only[ZH,hn _ (Kp n)])
theorem ZCh (id:Nat) (c:ZN) (st:St):QD X M (.peek id c) st=bnd (ZAE c) fun ds=>bnd (Zoy id st) fun st1=>ZtN st ds (QD X M c st1):=by
 cases h0:ZAE c with
 | none=>exact Yg fun n=>by simp only[ZH,h0];rfl
 | some ds=>
  cases hl:Zoy id st with
  | none=>exact Yg fun n=>by simp only[ZH,h0,hl];rfl
  | some st' =>
   rw[Zh,Zh];cases hc:QD X M c st' with
   | none=>
    refine Yg fun n=>?_;cases h:ZH (Qo X M n) M n c st' with
    | none=>simp only[ZH,h0,hl,Zh,h];rfl
    | some q=>rw[Xh X M h] at hc;cases hc
   | some q=>
    obtain⟨n,hn⟩:=U9 X M hc;exact Xh X M (n:=n) (by simp only[ZH,h0,hl,Zh,hn _ (Kp n)];rfl)
noncomputable def Zjv (c:ZN) (K:List Nat) (st:St):Option (Ex×St):=lim fun n=>ZaF (ZH (Qo X M n) M n c) K n st
theorem Zfo (c:ZN) (K:List Nat) (st:St):ZEC fun n=>ZaF (ZH (Qo X M n) M n c) K n st:=fun n r hr=>
 Zna (fun _ _ h=>ZqW (ZoA X M n) (Nat.le_succ n) c _ _ h) K n (n+1) st r (Nat.le_succ n) hr
theorem ZCi (c:ZN) (st:St):QD X M (.loop c) st=Zjv X M c (Zct st.sl) st:=by
 simp only[QD,Zjv,ZH]
theorem ZAI {c:ZN} {K:List Nat} {st aa : St} (h:QD X M c (Jr K st)=some (.normal,aa)) :
  Zjv X M c K st=Zjv X M c K aa:=by
 obtain⟨n,hn⟩:=U9 X M h;cases hl:Zjv X M c K aa with
 | none=>
  refine Yg fun k=>?_;cases hk:ZaF (ZH (Qo X M k) M k c) K k st with
  | none=>rfl
  | some q=>
   have h1:=(Zfo X M c K st).le hk (show k≤max k n+1 by omega);simp only[ZaF] at h1;rw[hn (max k n+1) (by omega)] at h1;simp only[] at h1;have h2:=Zna (fun _ _ h=>h) K (max k n) (max k n+1) aa q (Nat.le_succ _) h1;rw[show Zjv X M c K aa=some q from ZlN (Zfo X M c K aa) h2] at hl;cases hl
 | some q=>
  obtain⟨m,hm⟩:=Zju hl;refine ZlN (Zfo X M c K st) (n:=max n m+1) ?_;simp only[ZaF,hn (max n m+1) (by omega)];exact Zna (fun _ _ h=>ZqW (ZeD X M (show m≤max n m+1 by omega)) (show m≤max n m+1 by omega) c _ _ h) K m (max n m) aa q (by omega) hm
theorem ZtR {c:ZN} {K:List Nat} {st aa : St} {e:Ex} (he:e≠.normal) (h:QD X M c (Jr K st)=some (e,aa)) :
  Zjv X M c K st=some (e,aa):=by
 obtain⟨n,hn⟩:=U9 X M h;refine ZlN (Zfo X M c K st) (n:=n+1) ?_;simp only[ZaF,hn (n+1) (by omega)];cases e with
 | normal=>exact absurd rfl he
 | exit id=>rfl
 | ret=>rfl
theorem ZF6 {f:Nat} {as1:List AV} {h:List Zm} {fn:Zr} {r:AV×List Zm} (hx:X f=some (.text fn))
  (hl:as1.length≤fn.nt) (hr:Zf7 h.length fn.res (QD X M fn.body { sl:=Wz 0 as1,hp:=WC 0 h,nx:=h.length,m:=h.length })=some r) :
  Zd X M f as1 h=some r:=by
 cases hv:QD X M fn.body { sl:=Wz 0 as1,hp:=WC 0 h,nx:=h.length,m:=h.length } with
 | none=>rw[hv] at hr;simp[Zf7] at hr
 | some q=>
  rw[hv] at hr;obtain⟨n,hn⟩:=U9 X M hv;refine ZlN (Zfn X M f as1 h) (n:=n+1) ?_;simp only[Qo,hx,Zoz,ZtP,hl,Km,hn n (Kp n)];exact hr
theorem VR {f:Nat} {as1:List AV} {h:List Zm} {p:List AV→List Zm→Option (AV×List Zm)} {r:AV×List Zm} (hx:X f=some (.prim p)) (hp:p as1 h=some r) :
  Zd X M f as1 h=some r:=
 ZlN (Zfn X M f as1 h) (n:=1) (by simp only[Qo,hx,Zoz,hp])
end
section
variable (P:Program)
def W7 (nt:Nat):Code→Option ZN
 | .skip=>some .skip
 | .region _ ops draw=>bnd (QJ (Zpu P nt ops.toList) ops.toList) fun os=>if draw then (if ZtI ops os then some (.region ops.toList.length (some (Za1 ops os)) os) else some .stuck) else some (.region ops.toList.length none os)
 | .seq a b=>bnd (W7 nt a) fun a=>bnd (W7 nt b) fun b=>some (.seq a b)
 | .cond c a b=>bnd (ZZ c) fun c=>bnd (W7 nt a) fun a=>bnd (W7 nt b) fun b=>some (.cond c a b)
 | .block id c=>bnd (W7 nt c) fun c=>some (.block id c)
 | .loop c=>bnd (W7 nt c) fun c=>some (.loop c)
 | .exit id=>some (.exit id)
 | .ret=>some .ret
 | _=>some .stuck
def Zh0:COp→COp
 | .buildT s _ xs=>.buildSl s xs
 | .asgT s _ x=>.assign (some s) x
 | .appT s b flat x y=>.append s b false flat x y
 | .makeT s b _ z l c=>.make s b z l c
 | c=>c
def ZoC:List CO→List CO
 | []=>[]
 | o :: r => { o with op:=Zh0 o.op } :: ZoC r
def ZtS:Option (List (Nat×Nat))→List CO→List CO
 | none,ops=>ZoC ops
 | some _,ops=>ops
def YG:ZN→ZN
 | .keep _ c=>YG c
 | .seq a b=>.seq (YG a) (YG b)
 | .cond c a b=>.cond c (YG a) (YG b)
 | .block id c=>.block id (YG c)
 | .loop c=>.loop (YG c)
 | .region n d ops=>.region n d (ZtS d ops)
 | .link _ _ _ _ c=>YG c
 | .melt c=>YG c
 | .peek _ c=>YG c
 | .skip=>.skip
 | .exit id=>.exit id
 | .ret=>.ret
 | .stuck=>.stuck
def ZlP (cf:Zr):Zr := { nt:=cf.nt,res:=cf.res,body:=YG cf.body }
def cRes:ResultVar→Option ZtD
 | .tmp t=>some (.tmp t)
 | .cell a t=>bnd (ZgF P t) fun g=>some (.cell a g (P.cellsOf t))
def Zvx (fn:Func):Option Zr:=bnd fn.body fun c=>bnd (W7 P fn.ntmps c) fun b=>bnd (QJ (cRes P) fn.results.toList) fun rs=>some { nt:=fn.ntmps,res:=rs,body:=b }
end
end Go.Abs
