/- Own text. -/
import Derived.Test.YtefabmohhbhlfaaAbsOps
set_option linter.unusedVariables false
set_option linter.unusedSimpArgs false
namespace Go.Abs
open Go
inductive Ex where
 | normal
 | exit (id:Nat)
 | ret
def Qr (lo hi:Nat):Hp→Bool
 | []=>true
 | (k,_) :: r=>decide (lo≤k)&&decide (k<hi)&&Qr (k+1) hi r
def Qy (gone:List Nat) (sl:Sl):Sl:=match gone with
 | []=>sl
 | _=>Zee (kill gone) sl
def Yx (gone:List Nat) (hp:Hp):Hp:=match gone with
 | []=>hp
 | _=>Zee (QF gone) hp
def Zi (sl:Sl) (dst:Option Nat) (v:AV):Sl:=match dst with
 | some t=>ins sl t v
 | none=>sl
def Zb.on (e:Zb) (dst:Option Nat) (sl:Sl) (hp:Hp):Sl×Hp:=
 (Zi (Qy e.gone sl) dst e.eff.val,e.eff.on (Yx e.gone hp))
def Xu (base:Nat) (dst:Option Nat) (sl:Sl) (hp:Hp) (e:Option Zb):Option (Sl×Hp):=
 bnd e fun e=>if Qr base (base+64) e.eff.adds then some (e.on dst sl hp) else none
def Zax (want:Bool):AV→Option Bool
 | .d (.bool b)=>some (b==want)
 | .tup []=>some false
 | _=>none
def ZL (sl:Sl):Option (Nat×Bool)→Option Bool
 | none=>some true
 | some q=>Zax q.2 (gs sl q.1)
inductive ZC where
 | skip
 | region (n:Nat) (draw:Option (List (Nat×Nat))) (ops:List CO)
 | seq (a b:ZC)
 | cond (c:Opd) (a b:ZC)
 | block (id:Nat) (c:ZC)
 | loop (c:ZC)
 | exit (id:Nat)
 | ret
 | keep (K:List Nat) (c:ZC)
 | stuck
 | link (fl:Bool) (id:Nat) (i:Opd) (j:Nat) (c:ZC)
 | melt (c:ZC)
 | peek (id:Nat) (c:ZC)
inductive ZiS where
 | tmp (t:Nat)
 | cell (a:Nat) (g:Bool) (s:Nat)
structure Z0 where
 nt:Nat
 res:List ZiS
 body:ZC
def Znw (x:Option Opd):List Opd:=match x with
 | some y=>[y]
 | none=>[]
def Zt:COp→List Opd
 | .move x=>[x]
 | .assign _ x=>[x]
 | .pick c a b=>[c,a,b]
 | .alloc _ _=>[]
 | .box x=>[x]
 | .build _ ps=>ps.map fun q=>q.2.2
 | .buildSl _ xs=>xs
 | .load _ _ a=>[a]
 | .store _ _ a x=>[a,x]
 | .nilCheck x=>[x]
 | .bin _ _ x y=>[x,y]
 | .un _ x=>[x]
 | .eqA _ _ x y=>[x,y]
 | .convI _ x=>[x]
 | .convS x=>[x]
 | .fn _ cs=>cs
 | .make _ _ _ l c=>[l,c]
 | .slice _ x lo hi=>x :: (Znw lo++Znw hi)
 | .sliceS x lo hi=>x :: (Znw lo++Znw hi)
 | .slice0 x hi mx=>[x,hi,mx]
 | .shift _ x=>[x]
 | .part _ _ _ x=>[x]
 | .iaS _ x i=>[x,i]
 | .iaA _ _ x i=>[x,i]
 | .ixS x i=>[x,i]
 | .ixA _ _ _ x i=>[x,i]
 | .nth _ x=>[x]
 | .len x=>[x]
 | .lenS x=>[x]
 | .append _ _ _ _ x y=>[x,y]
 | .min x y=>[x,y]
 | .max x y=>[x,y]
 | .call f as=>f :: as
 | .slice3 _ x lo hi mx=>[x,lo,hi,mx]
 | .clear _ _ x=>[x]
 | .stuck=>[]
 | .buildT _ _ xs=>xs
 | .appT _ _ _ x y=>[x,y]
 | .asgT _ _ x=>[x]
 | .makeT _ _ _ _ l c=>[l,c]
def Zb4:COp→Bool
 | .store _ _ _ _=>true
 | _=>false
def isApp:COp→Bool
 | .append _ _ _ _ _ _=>true
 | _=>false
def Zhj (c:COp):Bool:=Zb4 c || isApp c
def CO.starts (o:CO):Bool:=Zb4 o.op || o.tl
def ZI (os:List CO) (i:Nat):Bool:=match os[i]? with
 | some o=>CO.starts o
 | none=>false
def Ue:Opd→List Nat
 | .t n=>[n]
 | _=>[]
def Zhk:Option (Nat×Bool)→List Nat
 | some q=>[q.1]
 | none=>[]
def XG (o:CO):List Nat:=(Zt o.op).flatMap Ue++Zhk o.guard
def Qi:Option Nat→List Nat→Bool
 | some d,l=>!l.contains d
 | none,_=>true
def WE:Option Nat→Option Nat→Bool
 | some d,some e=>d != e
 | _,_=>true
def QL (a b:CO):Bool:=Qi a.dst (XG b)&&WE a.dst b.dst&&Qi b.dst (XG a)
def XI:Opd→Bool
 | .v a=>(Zo a).isEmpty&&!Zjd a
 | _=>true
def ZkS (os:List CO) (j i:Nat):Bool:=match os[j]?,os[i]? with
 | some a,some b=>QL a b
 | _,_=>false
def YK:COp→Bool
 | .load _ _ _=>false
 | .store _ _ _ _=>false
 | .slice _ _ _ _=>false
 | .slice0 _ _ _=>false
 | .iaS _ _ _=>false
 | .len _=>false
 | .append _ _ _ _ _ _=>false
 | .buildSl _ _=>false
 | .buildT _ _ _=>false
 | .appT _ _ _ _ _=>false
 | .asgT _ _ _=>false
 | .makeT _ _ _ _ _ _=>false
 | .call _ _=>false
 | .slice3 _ _ _ _ _=>false
 | .clear _ _ _=>false
 | _=>true
def Wc:COp→Bool
 | .load _ _ _=>true
 | .slice _ _ _ _=>true
 | .slice0 _ _ _=>true
 | .iaS _ _ _=>true
 | .len _=>true
 | _=>false
def Znx:COp→Bool
 | .clear _ _ _=>false
 | .store _ _ _ _=>false
 | .append _ _ _ _ _ _=>false
 | .buildSl _ _=>false
 | .buildT _ _ _=>false
 | .appT _ _ _ _ _=>false
 | .asgT _ _ _=>false
 | .makeT _ _ _ _ _ _=>false
 | .call _ _=>false
 | _=>true
def VI (os:List CO) (k:Nat):Option Nat:=match os[k]? with
 | some o=>o.dst
 | none=>none
def ZkT (os:List CO) (k:Nat):List Nat:=match os[k]? with
 | some o=>XG o
 | none=>[]
def Uf (os:List CO) (k:Nat):Bool:=(List.range os.length).all fun q=>decide (q<k) || Qi (VI os q) (ZkT os k)
def XL:COp→Bool
 | .move _=>true
 | _=>false
def Zay:COp→Bool
 | .append _ _ _ _ _ _=>true
 | .buildSl _ _=>true
 | _=>false
def WS:COp→Bool
 | .call (.f _) _=>true
 | _=>false
def ZeC:COp→List Opd
 | .call _ as=>as
 | _=>[]
def Zny:COp→Bool
 | .alloc _ _=>false
 | .box _=>false
 | .assign _ _=>false
 | .make _ _ _ _ _=>false
 | .fn _ _=>false
 | _=>true
def ZjN:COp→Bool
 | .buildSl _ _=>true
 | _=>false
def JG:AV→Bool
 | .d _=>true
 | .nil=>true
 | .nilp=>true
 | .nili=>true
 | _=>false
def X7:List AV→Bool
 | []=>true
 | c :: r=>JG c&&X7 r
def Zgb:COp→Bool
 | .alloc _ cs=>X7 cs
 | _=>false
def Zhl (c:COp):Bool:=Wc c || ZjN c || (YK c&&Zny c) || Zgb c
def Zdz:COp→Bool
 | .alloc _ cs=>X7 cs
 | .buildSl _ _=>true
 | .load _ _ _=>true
 | .nilCheck _=>true
 | .bin _ _ _ _=>true
 | .un _ _=>true
 | .convI _ _=>true
 | .shift _ _=>true
 | .iaS _ _ _=>true
 | .slice _ _ _ _=>true
 | .len _=>true
 | .sliceS _ _ _=>true
 | .lenS _=>true
 | _=>false
def Zr5:Option Nat→Bool
 | some _=>true
 | none=>false
def ZfJ (os:List CO) (k:Nat):Bool:=Zr5 (VI os k)&&(List.range os.length).all fun q=>q==k || WE (VI os q) (VI os k)
def ZdA (os:List CO) (j i:Nat):Bool:=Uf os j&&Uf os i
def ZqP (os:List CO) (j i:Nat) (a b:COp):Bool:=
 Znx b || (Zhj b&&(YK a || (!XL a&&Wc a&&ZdA os j i))) || (XL a&&(Zay b || ZfJ os j)) || (!XL a&&WS b&&Zhl a&&ZdA os j i&&ZfJ os j)
def ZqQ (os:List CO) (j i:Nat) (a b:COp):Bool:=(XL b&&ZfJ os i) || (!XL b&&WS a&&Zdz b&&ZdA os j i&&ZfJ os i)
def ZkU (os:List CO) (j i:Nat):Bool:=match os[j]?,os[i]? with
 | some a,some b=>if ZI os j then !ZI os i&&ZqQ os j i a.op b.op else !ZI os i || ZqP os j i a.op b.op
 | _,_=>false
def Zaz (os:List CO) (j i:Nat):Option (Nat×Nat):=match os[j]?,os[i]? with
 | some a,some b=>if ZI os j then (if XL b.op || WS a.op then some (i,j) else none) else
   if ZI os i&&(if Zhj b.op then !(YK a.op) else if XL a.op then !(Zay b.op) else WS b.op) then some (j,i) else none
 | _,_=>none
def optP:Option (Nat×Nat)→List (Nat×Nat)
 | some p=>[p]
 | none=>[]
def WF (ops:Array Oper) (os:List CO):List (Nat×Nat):=
 (List.range ops.size).flatMap fun i=>(List.range i).flatMap fun j=>if Zbn ops 6 i j then [] else optP (Zaz os j i)
def Zhm (ops:Array Oper) (os:List CO):Bool:=
 (List.range ops.size).all (fun i=>(Yv ops i).all fun e=>decide (e<i)) &&
 (List.range ops.size).all (fun i=>(List.range i).all fun j=>(Yv ops i).contains j || ZkS os j i) &&
 (List.range ops.size).all (fun i=>(List.range i).all fun j=>Zbn ops 6 i j || ZkU os j i) &&
 os.all (fun o=>(Zt o.op).all XI)
def UU (id:Nat):AV→Bool
 | .d _=>true
 | .pim _=>true
 | .nil=>true
 | .ptr k _=>k != id
 | .prow k _ _ _=>k != id
 | .own k=>k != id
 | .ownv k _ _=>k != id
 | .nilp=>true
 | .nili=>true
 | .tup []=>true
 | _=>false
def okC:AV→Bool
 | .d _=>true
 | .pim _=>true
 | .nil=>true
 | .ptr _ _=>true
 | .prow _ _ _ _=>true
 | .own _=>true
 | .ownv _ _ _=>true
 | .nilp=>true
 | .nili=>true
 | _=>false
def ZkV:List AV→Bool
 | []=>true
 | v :: r=>okC v&&ZkV r
def okV:AV→Bool
 | .agg cs=>ZkV cs
 | .tup []=>true
 | v=>okC v
def okL (sl:Sl):List Opd→Bool
 | []=>true
 | x :: r=>okV (evO sl x)&&okL sl r
def okD (sl:Sl):Option Nat→Bool
 | some t=>okV (gs sl t)
 | none=>true
def X8:AV→Option Nat
 | .ptr k _=>some k
 | .prow k _ _ _=>some k
 | _=>none
def Qo (sl:Sl) (id:Nat):List Opd→Bool
 | []=>true
 | x :: r=>UU id (evO sl x)&&Qo sl id r
def ZaA (sl:Sl) (a:COp):Option Nat→Bool
 | some id=>Qo sl id (Zt a)
 | none=>false
def UV (sl:Sl) (xs:List Opd):AV→Bool
 | .ptr k _=>Qo sl k xs
 | .prow _ _ _ _=>false
 | _=>true
def Zbo (sl:Sl) (xs:List Opd):List Opd→Bool
 | []=>true
 | y :: r=>UV sl xs (evO sl y)&&Zbo sl xs r
def Wd (sl:Sl) (a:COp):AV→Bool
 | .nil=>true
 | .tup []=>true
 | .own k=>Qo sl k (Zt a)
 | .ownv k _ _=>Qo sl k (Zt a)
 | _=>false
def seenSrc (sl:Sl) (a:COp):AV→Bool
 | .own k=>Qo sl k (Zt a)
 | v=>okV v
def Q3 (sl:Sl) (xs:List Opd):List Nat→Bool
 | []=>true
 | k :: r=>Qo sl k xs&&Q3 sl xs r
def Ym (sl:Sl) (a:COp):AV→AV→Bool
 | .prow _ _ _ _,.d _=>true
 | .prow _ _ _ _,v=>okV v&&Q3 sl (Zt a) (Zo v)
 | _,_=>true
def VA (sl:Sl) (d:Option Nat):COp→COp→Bool
 | .move _,_=>okD sl d
 | a,.store _ _ x y=>ZaA sl a (X8 (evO sl x))&&Ym sl a (evO sl x) (evO sl y)
 | a,.append _ _ _ flat x y=>Wd sl a (evO sl x)&&(flat || seenSrc sl a (evO sl y))
 | a,.call _ as=>okL sl (Zt a)&&(okD sl d&&(okL sl as&&Zbo sl (Zt a) as))
 | _,_=>false
def ZdB (os:List CO) (sl:Sl) (p:Nat×Nat):Bool:=match os[p.1]?,os[p.2]? with
 | some a,some b=>VA sl a.dst a.op b.op
 | _,_=>false
def Yy (os:List CO) (sl:Sl):List (Nat×Nat)→Bool
 | []=>true
 | p :: r=>ZdB os sl p&&Yy os sl r
def Xa (M:Zg):Zg:=fun f i=>i != 99&&M f i
section
variable (C:Orc) (M:Zg)
noncomputable def ZaB (nx:Nat):Nat→List CO→Sl→Hp→Option (Sl×Hp)
 | _,[],sl,hp=>some (sl,hp)
 | i,o :: rest,sl,hp=>bnd (ZL sl o.guard) fun b=>
   if b then bnd (Xu (nx+64*i) o.dst sl hp (vop C M sl hp (nx+64*i) o.op)) fun r=>ZaB nx (i+1) rest r.1 r.2
   else ZaB nx (i+1) rest (Zi sl o.dst (.tup [])) hp
def ZaC (c:Zb):List Nat→Hp→List Nat→List Nat→Option Zb
 | [],[],[],[]=>some c
 | _,_,_,_=>none
def UW (e:Option Zb):Option Zb:=bnd e fun c=>ZaC c c.gone c.eff.sets c.eff.dels c.eff.frz
noncomputable def YB (nx i:Nat) (tail:Bool) (o:COp) (sl:Sl) (hp:Hp):Option Zb:=
 if tail then vop C M sl hp (nx+64*i) o else UW (vop C M sl hp (nx+64*i) o)
noncomputable def VJ (nx:Nat):Nat→Bool→List CO→Sl→Hp→Option (Sl×Hp)
 | _,_,[],sl,hp=>some (sl,hp)
 | i,t,o :: rest,sl,hp=>bnd (ZL sl o.guard) fun b=>
   if b then bnd (Xu (nx+64*i) o.dst sl hp (YB C M nx i (CO.starts o) o.op sl hp)) fun r=>VJ nx (i+1) t rest r.1 r.2
   else VJ nx (i+1) t rest (Zi sl o.dst (.tup [])) hp
def Ug {α:Type}:List (Nat×α)→List Nat
 | []=>[]
 | (k,_) :: r=>k :: Ug r
def only {α:Type} (K:List Nat):List (Nat×α)→List (Nat×α)
 | []=>[]
 | (k,v) :: r=>if K.contains k then (k,v) :: only K r else only K r
def YL:Nat→List Zh→Hp
 | _,[]=>[]
 | k,o :: r=>YL (k+1) r++[(k,o)]
def ZjO:Sl→List Nat
 | []=>[]
 | (_,v) :: r=>Zo v++ZjO r
def ZkW:Option Zh→Bool
 | some _=>true
 | none=>false
def JH (hp:Hp) (ids:List Nat) (i:Nat):Bool:=ids.contains i&&ZkW (lkp hp i)
def Zbp (hp:Hp) (ids:List Nat):List Nat→List Nat
 | []=>[]
 | i :: r=>if JH hp ids i then Zbp hp ids r else i :: Zbp hp ids r
def J2 (hp:Hp) (ids:List Nat) (v:AV):AV:=ren (Yu ids) (kill (Zbp hp ids (Zo v)) v)
def Zbq (hp:Hp) (ids:List Nat) (o:Zh):Zh:=Zc1 (Yu ids) (QF (Zbp hp ids (VV o)) o)
def Znz:Option Zh→List Nat
 | some o=>VV o
 | none=>[]
def Y4 (hp:Hp):List Nat→List Nat
 | []=>[]
 | id :: r=>Znz (lkp hp id)++Y4 hp r
def VK (K:List Nat) (st:St):St:=
 let sl:=only K st.sl
 let ids:=Qv st.hp (QX st.hp) (ZjO sl++Y4 st.hp (List.range st.m)) (List.range st.m)
 { sl:=Zee (J2 st.hp ids) sl,hp:=YL 0 ((JB st.hp ids).map (Zbq st.hp ids)),nx:=ids.length,m:=st.m }
def Wv (f:St→Option (Ex×St)) (K:List Nat):Nat→St→Option (Ex×St)
 | 0,_=>none
 | n+1,st=>match f (VK K st) with
  | some (.normal,st')=>Wv f K n st'
  | r=>r
def andThen (r:Option (Ex×St)) (k:St→Option (Ex×St)):Option (Ex×St):=match r with
 | some (.normal,st)=>k st
 | r=>r
def Zcw (v:AV) (a b:Option (Ex×St)):Option (Ex×St):=match v with
 | .d (.bool t)=>if t then a else b
 | _=>none
def Zbr (id:Nat) (r:Option (Ex×St)):Option (Ex×St):=match r with
 | some (.exit j,st)=>if j=id then some (.normal,st) else some (.exit j,st)
 | r=>r
def ZdC (ops:List CO) (ps:List (Nat×Nat)) (r:Option (Sl×Hp)):Option (Sl×Hp):=bnd r fun r=>if Yy ops r.1 ps then some r else none
def Zcf (m nx:Nat) (r:Option (Sl×Hp)):Option (Ex×St):=bnd r fun r=>some (.normal,{ sl:=r.1,hp:=r.2,nx:=nx,m:=m })
def Zhn (K:List Nat) (r:Option (Ex×St)):Option (Ex×St):=match r with
 | some q=>some (q.1,{ q.2 with sl:=only K q.2.sl })
 | none=>none
def ZoE (fl:Bool) (k:Nat) (ys:List D):Option Zh:=if fl then (if Wr D.flat ys then some (.row k ys true false) else none) else some (.tree k k ys none)
def ZdD (xs:List D) (n j:Nat) (y:D):Option (List D):=bnd xs[n]? fun x=>some (xs.set n (Yp x j [y]))
def ZoF (fl:Bool) (nx n j:Nat):Option Zh→Option (Zh×Zh)
 | some (.tree s k xs none)=>bnd (V8 xs n j) fun ys=>bnd (ZoE fl k ys) fun o=>bnd (ZdD xs n j (.sl [])) fun xs'=>some (.tree s k xs' (some (some nx,n,j)),o)
 | _=>none
def ZqR:Option Zh→Option Int
 | some (.tree _ _ xs _)=>some ((xs.length:Int)-1)
 | _=>none
def ZkX (st:St) (id:Nat):Opd→Option Int
 | .t n=>idx (gs st.sl n)
 | .v a=>idx a
 | .f _=>ZqR (lkp st.hp id)
def ZaD (fl:Bool) (id:Nat) (i:Opd) (j:Nat) (st:St):Option St:=bnd (ZkX st id i) fun n=>if 0≤n then bnd (ZoF fl st.nx n.toNat j (lkp st.hp id)) fun q=>some { st with hp:=ins (ins st.hp id q.1) st.nx q.2,nx:=st.nx+64 } else none
def Zho (k:Nat):Option Zh→Option (List D)
 | some (.row k' ys true false)=>if k'=k∧Wr D.flat ys then some ys else none
 | some (.tree k' n ys none)=>if k'=k∧n=k then some ys else none
 | _=>none
def Zft (hp:Hp) (id nm:Nat):Option Zh→Option Hp
 | some (.tree s k xs (some (some nm',n,j)))=>if nm'=nm then bnd (Zho k (lkp hp nm)) fun ys=>bnd (ZdD xs n j (.sl ys)) fun xs'=>some (ins (del hp nm) id (.tree s k xs' none)) else none
 | _=>none
def ZpM (hp:Hp):Option Hp→Hp
 | some h=>h
 | none=>hp
def Zhp (id nm:Nat) (r:Option (Ex×St)):Option (Ex×St):=match r with
 | some q=>some (q.1,{ q.2 with hp:=ZpM q.2.hp (Zft q.2.hp id nm (lkp q.2.hp id)) })
 | none=>none
def ZkY (st:St):St := { st with hp:=Zee Zdp st.hp }
def Zhq:Option Zh→Option Zh
 | some (.tree s _ xs none)=>some (.row s xs false true)
 | _=>none
def ZaE:AV→AV
 | .d (.int k n)=>.d (.int k n)
 | .d (.bool b)=>.d (.bool b)
 | _=>.junk
def Zhr:Option Nat→List Nat→List Nat
 | some t,l=>t :: l
 | none,l=>l
def We:List CO→List Nat
 | []=>[]
 | o :: r=>Zhr o.dst (We r)
def Zmg:ZC→Option (List Nat)
 | .region _ _ os=>some (We os)
 | _=>none
def UX (sl2:Sl):List Nat→Sl→Sl
 | [],sl=>sl
 | t :: r,sl=>UX sl2 r (ins sl t (ZaE (gs sl2 t)))
def ZeD (id:Nat) (st:St):Option St:=bnd (Zhq (lkp st.hp id)) fun o=>some { st with hp:=[(id,o)] }
def Zhs (st:St) (ds:List Nat) (r:Option (Ex×St)):Option (Ex×St):=match r with
 | some q=>some (q.1,{ q.2 with sl:=UX q.2.sl ds st.sl,hp:=st.hp })
 | none=>none
noncomputable def Zu (N:Nat):ZC→St→Option (Ex×St)
 | .skip,st=>some (.normal,st)
 | .region n none ops,st=>Zcf st.m (st.nx+64*n) (ZaB C M st.nx 0 ops st.sl st.hp)
 | .region n (some ps) ops,st=>Zcf st.m (st.nx+64*n) (ZdC ops ps (VJ C (Xa M) st.nx 0 false ops st.sl st.hp))
 | .seq a b,st=>andThen (Zu N a st) (Zu N b)
 | .cond c a b,st=>Zcw (evO st.sl c) (Zu N a st) (Zu N b st)
 | .block id c,st=>Zbr id (Zu N c st)
 | .loop c,st=>Wv (Zu N c) (Ug st.sl) N st
 | .exit id,st=>some (.exit id,st)
 | .ret,st=>some (.ret,st)
 | .keep K c,st=>Zhn K (Zu N c st)
 | .stuck,_=>none
 | .link fl id i j c,st=>bnd (ZaD fl id i j st) fun st1=>Zhp id st.nx (Zu N c st1)
 | .melt c,st=>Zu N c (ZkY st)
 | .peek id c,st=>bnd (Zmg c) fun ds=>bnd (ZeD id st) fun st1=>Zhs st ds (Zu N c st1)
def Zht (st:St):ZiS→Option AV
 | .tmp t=>some (gs st.sl t)
 | .cell a g s=>Vj st.hp g s (gs st.sl a)
def YM (m:Nat) (hp:Hp) (v:AV):AV×List Zh:=
 let ids:=Qv hp (QX hp) (Zo v++Y4 hp (List.range m)) (List.range m)
 (J2 hp ids v,(JB hp ids).map (Zbq hp ids))
def ZoG:AV→Bool
 | .tup _=>true
 | _=>false
def ZcS:List AV→Bool
 | []=>false
 | v :: r=>ZoG v || ZcS r
def UY:List AV→AV
 | [v]=>v
 | vs=>if ZcS vs then .junk else .tup vs
def Yz:Nat→List AV→Sl
 | _,[]=>[]
 | k,v :: r=>Yz (k+1) r++[(k,v)]
def JI (m:Nat) (rs:List ZiS) (r:Option (Ex×St)):Option (AV×List Zh):=match r with
 | some (.normal,st)=>bnd (Qb (Zht st) rs) fun vs=>some (YM m st.hp (UY vs))
 | some (.ret,st)=>bnd (Qb (Zht st) rs) fun vs=>some (YM m st.hp (UY vs))
 | _=>none
noncomputable def Zhu (N:Nat) (fn:Z0) (as:List AV) (h:List Zh):Option (AV×List Zh):=
 if as.length≤fn.nt then JI h.length fn.res (Zu C M N fn.body { sl:=Yz 0 as,hp:=YL 0 h,nx:=h.length,m:=h.length }) else none
end
inductive Fn where
 | text (f:Z0)
 | prim (p:List AV→List Zh→Option (AV×List Zh))
abbrev Fns:=Nat→Option Fn
noncomputable def ZeE (C:Orc) (M:Zg) (N:Nat) (as:List AV) (h:List Zh):Option Fn→Option (AV×List Zh)
 | some (.text f)=>Zhu C M N f as h
 | some (.prim p)=>p as h
 | none=>none
noncomputable def Z1 (X:Fns) (M:Zg):Nat→Orc
 | 0,_,_,_=>none
 | n+1,f,as,h=>ZeE (Z1 X M n) M n as h (X f)
open Classical in
noncomputable def lim {α:Type} (x:Nat→Option α):Option α:=if h:∃ r,∃ n,x n=some r then some h.choose else none
def ZpN {α:Type} (x:Nat→Option α):Prop:=∀ n r,x n=some r→x (n+1)=some r
theorem ZpN.le {α:Type} {x:Nat→Option α} (h:ZpN x) {n m:Nat} {r:α} (hr:x n=some r) (aa:n≤m):x m=some r:=by
 induction aa with
 | refl=>exact hr
 | step _ ih=>exact h _ _ ih
theorem ZcT {α:Type} {x:Nat→Option α} (h:ZpN x) {n:Nat} {r:α} (hr:x n=some r):lim x=some r:=by
 have he:∃ r,∃ n,x n=some r:=⟨r,n,hr⟩
 unfold lim;rw[dif_pos he];obtain⟨m,hm⟩:=he.choose_spec;have h1:=h.le hm (L9 m n);have h2:=h.le hr (L6 m n);rw[h1] at h2;exact h2
theorem Zbs {α:Type} {x:Nat→Option α} {r:α} (hr:lim x=some r):∃ n,x n=some r:=by
 unfold lim at hr;split at hr
 ·rename_i h;obtain⟨n,hn⟩:=h.choose_spec;exact⟨n,by rw[hn];exact hr⟩
 ·cases hr
def Orc.le (C C' : Orc):Prop:=∀ f as h r,C f as h=some r→C' f as h=some r
section
variable {M:Zg} {C C' : Orc}
theorem Uh {α β:Type} {x x' : Option α} {f f' : α→Option β} {r:β} (hx:∀ a,x=some a→x'=some a) (hf:∀ a,f a=some r→f' a=some r) (h:bnd x f=some r):bnd x' f'=some r:=by
 obtain⟨a,h1,h2⟩:=Za h;rw[hx a h1];exact hf a h2
theorem ZqS (h:C.le C') {m:Nat→Bool} {hp:Hp} {base f:Nat} {aa:List AV} {r:Zb}
  (hr:Jo C m hp base f aa=some r):Jo C' m hp base f aa=some r:=by
 unfold Jo at hr ⊢;refine Uh (fun _ h=>h) (fun as hr=>?_) hr;unfold Zaq at hr ⊢;by_cases hc:(as.flatMap Zo).all (Qv hp (QX hp) (as.flatMap Zo) []).contains∧¬(Xz aa as).any (Qv hp (QX hp) (as.flatMap Zo) []).contains∧Ur hp (as.flatMap Wu) (Qv hp (QX hp) (as.flatMap Zo) [])=true
 ·rw[Ko hc] at hr ⊢;exact Uh (fun q hq=>h _ _ _ _ hq) (fun _ h=>h) hr
 ·rw[Kn hc] at hr;cases hr
theorem ZkZ (h:C.le C') {sl:Sl} {hp:Hp} {base:Nat} {o:COp} {r:Zb} (hr:vop C M sl hp base o=some r) :
  vop C' M sl hp base o=some r:=by
 cases o with
 | call f as=>
  simp only[vop] at hr ⊢;cases hg:evO sl f<;>simp only[hg,JE] at hr ⊢ <;> first | exact ZqS h hr | exact hr
 | _=>exact hr
theorem Zk0 (h:C.le C') (nx:Nat):∀ (l:List CO) (i:Nat) (sl:Sl) (hp:Hp) (r:Sl×Hp),
  ZaB C M nx i l sl hp=some r→ZaB C' M nx i l sl hp=some r:=by
 intro l
 induction l with
 | nil=>intro i sl hp r hr;exact hr
 | cons o rest ih=>
  intro i sl hp r hr;simp only[ZaB] at hr ⊢;refine Uh (fun _ h=>h) (fun b hr=>?_) hr;cases b
  ·simp only[Ka,Ki] at hr ⊢;exact ih _ _ _ _ hr
  ·simp only[Kk] at hr ⊢;refine Uh (fun q hq=>?_) (fun q hq=>ih _ _ _ _ hq) hr;unfold Xu at hq ⊢;exact Uh (fun e he=>ZkZ h he) (fun _ h=>h) hq
theorem ZoH (h:C.le C') {nx i:Nat} {t:Bool} {o:COp} {sl:Sl} {hp:Hp} {e:Zb} (he:YB C M nx i t o sl hp=some e) :
  YB C' M nx i t o sl hp=some e:=by
 unfold YB at he ⊢;cases t
 ·simp only[Ka,Ki,UW] at he ⊢;exact Uh (fun _ hv=>ZkZ h hv) (fun _ h=>h) he
 ·simp only[Kk] at he ⊢;exact ZkZ h he
theorem ZdE (h:C.le C') (nx:Nat):∀ (l:List CO) (i:Nat) (t:Bool) (sl:Sl) (hp:Hp) (r:Sl×Hp),
  VJ C M nx i t l sl hp=some r→VJ C' M nx i t l sl hp=some r:=by
 intro l
 induction l with
 | nil=>intro i t sl hp r hr;exact hr
 | cons o rest ih=>
  intro i t sl hp r hr;simp only[VJ] at hr ⊢;refine Uh (fun _ h=>h) (fun b hr=>?_) hr;cases b
  ·simp only[Ka,Ki] at hr ⊢;exact ih _ _ _ _ _ hr
  ·simp only[Kk] at hr ⊢;refine Uh (fun q hq=>?_) (fun q hq=>ih _ _ _ _ _ hq) hr;unfold Xu at hq ⊢;exact Uh (fun e he=>ZoH h he) (fun _ h=>h) hq
theorem ZdF {f g:St→Option (Ex×St)} (h:∀ st r,f st=some r→g st=some r) (K:List Nat) :
  ∀ (n m:Nat) (st:St) (r:Ex×St),n≤m→Wv f K n st=some r→Wv g K m st=some r:=by
 intro n
 induction n with
 | zero=>intro m st r _ hr;simp[Wv] at hr
 | succ n ih=>
  intro m st r hm hr;cases m with
  | zero=>omega
  | succ m=>
   simp only[Wv] at hr ⊢;cases hf:f (VK K st) with
   | none=>simp[hf] at hr
   | some q=>
    rw[hf] at hr;rw[h _ _ hf];obtain⟨e,aa⟩:=q;cases e with
    | normal=>exact ih m aa r (by omega) hr
    | exit id=>exact hr
    | ret=>exact hr
theorem Zgc (h:C.le C') {N N' : Nat} (hN:N≤N'):∀ (c:ZC) (st:St) (r:Ex×St),
  Zu C M N c st=some r→Zu C' M N' c st=some r:=by
 intro c
 induction c with
 | skip=>intro st r hr;simpa [Zu] using hr
 | region n draw ops=>
  intro st r hr;cases draw
  ·simp only[Zu,Zcf] at hr ⊢;exact Uh (fun q hq=>Zk0 h _ _ _ _ _ _ hq) (fun _ h=>h) hr
  ·simp only[Zu,Zcf,ZdC] at hr ⊢;exact Uh (fun q hq=>Uh (fun q hq=>ZdE h _ _ _ _ _ _ _ hq) (fun _ h=>h) hq) (fun _ h=>h) hr
 | seq a b iha ihb=>
  intro st r hr;simp only[Zu] at hr ⊢;cases ha:Zu C M N a st with
  | none=>simp[ha,andThen] at hr
  | some q=>
   rw[ha] at hr;rw[iha _ _ ha];obtain⟨e,aa⟩:=q;cases e with
   | normal=>exact ihb _ _ hr
   | exit id=>exact hr
   | ret=>exact hr
 | cond c a b iha ihb=>
  intro st r hr;simp only[Zu,Zcw] at hr ⊢;split at hr
  ·rename_i t ht;cases t
   ·simp only[Ka,Ki] at hr ⊢;exact ihb _ _ hr
   ·simp only[Kk] at hr ⊢;exact iha _ _ hr
  ·cases hr
 | block id c ih=>
  intro st r hr;simp only[Zu] at hr ⊢;cases hc:Zu C M N c st with
  | none=>simp[hc,Zbr] at hr
  | some q=>rw[hc] at hr;rw[ih _ _ hc];exact hr
 | loop c ih=>
  intro st r hr;simp only[Zu] at hr ⊢;exact ZdF ih _ _ _ _ _ hN hr
 | exit id=>intro st r hr;simpa [Zu] using hr
 | ret=>intro st r hr;simpa [Zu] using hr
 | keep K c ih=>
  intro st r hr;simp only[Zu] at hr ⊢;cases hc:Zu C M N c st with
  | none=>simp[hc,Zhn] at hr
  | some q=>rw[hc] at hr;rw[ih _ _ hc];exact hr
 | stuck=>intro st r hr;simp[Zu] at hr
 | link fl id i j c ih=>
  intro st r hr;simp only[Zu] at hr ⊢;obtain⟨aa,h1,h2⟩:=Za hr;rw[h1,Zc];cases hc:Zu C M N c aa with
  | none=>simp[hc,Zhp] at h2
  | some q=>rw[hc] at h2;rw[ih _ _ hc];exact h2
 | melt c ih=>
  intro st r hr;simp only[Zu] at hr ⊢;exact ih _ r hr
 | peek id c ih=>
  intro st r hr;simp only[Zu] at hr ⊢;obtain⟨ds,h0,hr⟩:=Za hr;obtain⟨aa,h1,h2⟩:=Za hr;rw[h0,Zc,h1,Zc];cases hc:Zu C M N c aa with
  | none=>simp[hc,Zhs] at h2
  | some q=>rw[hc] at h2;rw[ih _ _ hc];exact h2
theorem ZqT (h:C.le C') {N N' : Nat} (hN:N≤N') {f:Z0} {as:List AV} {hh:List Zh} {r:AV×List Zh}
  (hr:Zhu C M N f as hh=some r):Zhu C' M N' f as hh=some r:=by
 unfold Zhu at hr ⊢;by_cases hl:as.length≤f.nt
 ·rw[Ko hl] at hr ⊢;cases hv:Zu C M N f.body { sl:=Yz 0 as,hp:=YL 0 hh,nx:=hh.length,m:=hh.length } with
  | none=>simp[hv,JI] at hr
  | some q=>rw[hv] at hr;rw[Zgc h hN _ _ _ hv];exact hr
 ·rw[Kn hl] at hr;cases hr
end
section
variable (X:Fns) (M:Zg)
theorem ZeF:∀ n,(Z1 X M n).le (Z1 X M (n+1)):=by
 intro n
 induction n with
 | zero=>intro f as h r hr;simp[Z1] at hr
 | succ n ih=>
  intro f as h r hr;rw[Z1] at hr ⊢;cases hf:X f with
  | none=>rw[hf] at hr;cases hr
  | some g=>
   rw[hf] at hr;cases g with
   | text g=>exact ZqT ih (Nat.le_succ n) hr
   | prim p=>exact hr
noncomputable def Zj (f:Nat) (as:List AV) (h:List Zh):Option (AV×List Zh):=lim fun n=>Z1 X M n f as h
noncomputable def Z8 (c:ZC) (st:St):Option (Ex×St):=lim fun n=>Zu (Z1 X M n) M n c st
theorem Jr (f:Nat) (as:List AV) (h:List Zh):ZpN fun n=>Z1 X M n f as h:=fun n r hr=>ZeF X M n f as h r hr
theorem ZaF (n:Nat):(Z1 X M n).le (Zj X M):=fun f as h _ hr=>ZcT (Jr X M f as h) hr
theorem ZcU (c:ZC) (st:St):ZpN fun n=>Zu (Z1 X M n) M n c st:=fun n r hr=>Zgc (ZeF X M n) (Nat.le_succ n) c st r hr
theorem UZ {n m:Nat} (h:n≤m):(Z1 X M n).le (Z1 X M m):=fun f as hh _ hr=>(Jr X M f as hh).le hr h
theorem Zmh {m:Nat→Bool} {hp:Hp} {base f:Nat} {aa:List AV} {r:Zb}
  (hr:Jo (Zj X M) m hp base f aa=some r):∃ n,Jo (Z1 X M n) m hp base f aa=some r:=by
 unfold Jo at hr ⊢;obtain⟨as,ab,hr⟩:=Za hr;simp only[ab,Zc];unfold Zaq at hr ⊢;by_cases hc:(as.flatMap Zo).all (Qv hp (QX hp) (as.flatMap Zo) []).contains∧¬(Xz aa as).any (Qv hp (QX hp) (as.flatMap Zo) []).contains∧Ur hp (as.flatMap Wu) (Qv hp (QX hp) (as.flatMap Zo) [])=true
 ·rw[Ko hc] at hr;obtain⟨q,hq,hr⟩:=Za hr;obtain⟨n,hn⟩:=Zbs hq;refine⟨n,?_⟩;rw[Ko hc,hn];exact hr
 ·rw[Kn hc] at hr;cases hr
theorem ZeG {M' : Zg} {sl:Sl} {hp:Hp} {base:Nat} {o:COp} {r:Zb} (hr:vop (Zj X M) M' sl hp base o=some r) :
  ∃ n,vop (Z1 X M n) M' sl hp base o=some r:=by
 cases o with
 | call f as=>
  simp only[vop] at hr ⊢;cases hg:evO sl f<;>simp only[hg,JE] at hr ⊢ <;> first | exact Zmh X M hr | exact⟨0,hr⟩
 | _=>exact⟨0,hr⟩
theorem ZnA (nx:Nat):∀ (l:List CO) (i:Nat) (sl:Sl) (hp:Hp) (r:Sl×Hp),
  ZaB (Zj X M) M nx i l sl hp=some r→∃ n,ZaB (Z1 X M n) M nx i l sl hp=some r:=by
 intro l
 induction l with
 | nil=>intro i sl hp r hr;exact⟨0,hr⟩
 | cons o rest ih=>
  intro i sl hp r hr;simp only[ZaB] at hr ⊢;obtain⟨b,hb,hr⟩:=Za hr;simp only[hb,Zc];cases b
  ·simp only[Ka,Ki] at hr ⊢;exact ih _ _ _ _ hr
  ·simp only[Kk] at hr ⊢;obtain⟨q,hq,hr⟩:=Za hr;unfold Xu at hq;obtain⟨e,he,hq⟩:=Za hq;obtain⟨n1,h1⟩:=ZeG X M he;obtain⟨n2,h2⟩:=ih _ _ _ _ hr;refine⟨max n1 n2,?_⟩;unfold Xu;rw[ZkZ (UZ X M (L9 n1 n2)) h1,Zc,hq,Zc];exact Zk0 (UZ X M (L6 n1 n2)) _ _ _ _ _ _ h2
theorem ZnB {M' : Zg} {nx i:Nat} {t:Bool} {o:COp} {sl:Sl} {hp:Hp} {e:Zb} (he:YB (Zj X M) M' nx i t o sl hp=some e) :
  ∃ n,YB (Z1 X M n) M' nx i t o sl hp=some e:=by
 unfold YB at he ⊢;cases t
 ·simp only[Ka,Ki,UW] at he ⊢;obtain⟨e',aa,h2⟩:=Za he;obtain⟨n,hn⟩:=ZeG X M aa;exact⟨n,by rw[hn];exact h2⟩
 ·simp only[Kk] at he ⊢;exact ZeG X M he
theorem Zmi {M' : Zg} (nx:Nat):∀ (l:List CO) (i:Nat) (t:Bool) (sl:Sl) (hp:Hp) (r:Sl×Hp),
  VJ (Zj X M) M' nx i t l sl hp=some r→∃ n,VJ (Z1 X M n) M' nx i t l sl hp=some r:=by
 intro l
 induction l with
 | nil=>intro i t sl hp r hr;exact⟨0,hr⟩
 | cons o rest ih=>
  intro i t sl hp r hr;simp only[VJ] at hr ⊢;obtain⟨b,hb,hr⟩:=Za hr;simp only[hb,Zc];cases b
  ·simp only[Ka,Ki] at hr ⊢;exact ih _ _ _ _ _ hr
  ·simp only[Kk] at hr ⊢;obtain⟨q,hq,hr⟩:=Za hr;unfold Xu at hq;obtain⟨e,he,hq⟩:=Za hq;obtain⟨n1,h1⟩:=ZnB X M he;obtain⟨n2,h2⟩:=ih _ _ _ _ _ hr;refine⟨max n1 n2,?_⟩;unfold Xu;rw[ZoH (UZ X M (L9 n1 n2)) h1,Zc,hq,Zc];exact ZdE (UZ X M (L6 n1 n2)) _ _ _ _ _ _ _ h2
theorem Qs {c:ZC} {st:St} {n:Nat} {r:Ex×St} (h:Zu (Z1 X M n) M n c st=some r):Z8 X M c st=some r:=
 ZcT (ZcU X M c st) h
theorem Q1 {α:Type} {x:Nat→Option α} (h:∀ n,x n=none):lim x=none:=by
 cases hx:lim x with
 | none=>rfl
 | some r=>obtain⟨n,hn⟩:=Zbs hx;rw[h n] at hn;cases hn
theorem ZnC (st:St):Z8 X M .skip st=some (.normal,st):=Qs X M (n:=0) (by simp[Zu])
theorem ZnD (id:Nat) (st:St):Z8 X M (.exit id) st=some (.exit id,st):=Qs X M (n:=0) (by simp[Zu])
theorem ZpO (st:St):Z8 X M .ret st=some (.ret,st):=Qs X M (n:=0) (by simp[Zu])
theorem ZdG (n:Nat) (ops:List CO) (st:St) :
  Z8 X M (.region n none ops) st=Zcf st.m (st.nx+64*n) (ZaB (Zj X M) M st.nx 0 ops st.sl st.hp):=by
 cases h:ZaB (Zj X M) M st.nx 0 ops st.sl st.hp with
 | some r=>
  obtain⟨k,hk⟩:=ZnA X M _ _ _ _ _ _ h;exact Qs X M (n:=k) (by simp only[Zu,hk,Zcf,Zc])
 | none=>
  refine Q1 fun k=>?_;simp only[Zu];cases hn:ZaB (Z1 X M k) M st.nx 0 ops st.sl st.hp with
  | none=>rfl
  | some r=>rw[Zk0 (ZaF X M k) _ _ _ _ _ _ hn] at h;cases h
theorem Zhv (n:Nat) (ps:List (Nat×Nat)) (ops:List CO) (st:St) :
  Z8 X M (.region n (some ps) ops) st=Zcf st.m (st.nx+64*n) (ZdC ops ps (VJ (Zj X M) (Xa M) st.nx 0 false ops st.sl st.hp)):=by
 cases h:VJ (Zj X M) (Xa M) st.nx 0 false ops st.sl st.hp with
 | some r=>
  obtain⟨k,hk⟩:=Zmi X M _ _ _ _ _ _ _ h;cases hs:ZdC ops ps (some r) with
  | none=>
   refine Q1 fun k'=>?_;simp only[Zu];cases hn:VJ (Z1 X M k') (Xa M) st.nx 0 false ops st.sl st.hp with
   | none=>rfl
   | some r' =>
    have:=ZdE (ZaF X M k') _ _ _ _ _ _ _ hn;rw[h] at this;cases this;rw[hs];rfl
  | some r'=>exact Qs X M (n:=k) (by simp only[Zu,hk,hs];rfl)
 | none=>
  refine Q1 fun k=>?_;simp only[Zu];cases hn:VJ (Z1 X M k) (Xa M) st.nx 0 false ops st.sl st.hp with
  | none=>rfl
  | some r=>rw[ZdE (ZaF X M k) _ _ _ _ _ _ _ hn] at h;cases h
theorem Vy {c:ZC} {st:St} {r:Ex×St} (h:Z8 X M c st=some r):∃ n,∀ m,n≤m→Zu (Z1 X M m) M m c st=some r:=by
 obtain⟨n,hn⟩:=Zbs h;exact⟨n,fun m hm=>(ZcU X M c st).le hn hm⟩
theorem ZpP (a b:ZC) (st:St):Z8 X M (.seq a b) st=andThen (Z8 X M a st) (Z8 X M b):=by
 cases ha:Z8 X M a st with
 | none=>
  refine Q1 fun n=>?_;cases h:Zu (Z1 X M n) M n a st with
  | none=>simp[Zu,h,andThen]
  | some q=>rw[Qs X M h] at ha;cases ha
 | some q=>
  obtain⟨e,aa⟩:=q;obtain⟨n,hn⟩:=Vy X M ha;cases e with
  | normal=>
   simp only[andThen];cases hb:Z8 X M b aa with
   | none=>
    refine Q1 fun k=>?_;cases h:Zu (Z1 X M k) M k (.seq a b) st with
    | none=>rfl
    | some q=>
     have h1:=(ZcU X M (.seq a b) st).le h (L9 k n);simp only[Zu,hn _ (L6 k n),andThen] at h1;rw[Qs X M h1] at hb;cases hb
   | some q=>
    obtain⟨m,hm⟩:=Vy X M hb;refine Qs X M (n:=max n m) ?_;simp only[Zu,hn _ (L9 n m),andThen,hm _ (L6 n m)]
  | exit id=>exact Qs X M (n:=n) (by simp only[Zu,hn _ (Kh n),andThen])
  | ret=>exact Qs X M (n:=n) (by simp only[Zu,hn _ (Kh n),andThen])
theorem ZnE (c:Opd) (a b:ZC) (st:St) :
  Z8 X M (.cond c a b) st=Zcw (evO st.sl c) (Z8 X M a st) (Z8 X M b st):=by
 unfold Zcw;split
 ·rename_i t h;cases t
  ·simp only[Ka,Ki,Z8,Zu,h,Zcw]
  ·simp only[Kk,Z8,Zu,h,Zcw]
 ·rename_i h;refine Q1 fun n=>?_;simp only[Zu,Zcw]
theorem Zmj (id:Nat) (c:ZC) (st:St):Z8 X M (.block id c) st=Zbr id (Z8 X M c st):=by
 cases hc:Z8 X M c st with
 | none=>
  refine Q1 fun n=>?_;cases h:Zu (Z1 X M n) M n c st with
  | none=>simp[Zu,h,Zbr]
  | some q=>rw[Qs X M h] at hc;cases hc
 | some q=>
  obtain⟨n,hn⟩:=Vy X M hc;cases hb:Zbr id (some q) with
  | none=>
   obtain⟨e,aa⟩:=q;cases e<;>simp[Zbr] at hb
   split at hb<;>cases hb
  | some r=>exact Qs X M (n:=n) (by simp only[Zu,hn _ (Kh n),hb])
theorem ZnF (K:List Nat) (c:ZC) (st:St):Z8 X M (.keep K c) st=Zhn K (Z8 X M c st):=by
 cases hc:Z8 X M c st with
 | none=>
  refine Q1 fun n=>?_;cases h:Zu (Z1 X M n) M n c st with
  | none=>simp[Zu,h,Zhn]
  | some q=>rw[Qs X M h] at hc;cases hc
 | some q=>
  obtain⟨n,hn⟩:=Vy X M hc;exact Qs X M (n:=n) (by simp only[Zu,hn _ (Kh n),Zhn])
theorem ZnG (fl:Bool) (id:Nat) (i:Opd) (j:Nat) (c:ZC) (st:St):Z8 X M (.link fl id i j c) st=bnd (ZaD fl id i j st) fun st1=>Zhp id st.nx (Z8 X M c st1):=by
 cases hl:ZaD fl id i j st with
 | none=>
  refine Q1 fun n=>?_;simp only[Zu,hl];rfl
 | some st' =>
  rw[Zc];cases hc:Z8 X M c st' with
  | none=>
   refine Q1 fun n=>?_;cases h:Zu (Z1 X M n) M n c st' with
   | none=>simp only[Zu,hl,Zc,h];rfl
   | some q=>rw[Qs X M h] at hc;cases hc
  | some q=>
   obtain⟨n,hn⟩:=Vy X M hc;exact Qs X M (n:=n) (by simp only[Zu,hl,Zc,hn _ (Kh n)];rfl)
theorem ZnH (c:ZC) (st:St):Z8 X M (.melt c) st=Z8 X M c (ZkY st):=by
 cases hc:Z8 X M c (ZkY st) with
 | none=>
  refine Q1 fun n=>?_;cases h:Zu (Z1 X M n) M n c (ZkY st) with
  | none=>simp only[Zu,h]
  | some q=>rw[Qs X M h] at hc;cases hc
 | some q=>
  obtain⟨n,hn⟩:=Vy X M hc;exact Qs X M (n:=n) (by simp only[Zu,hn _ (Kh n)])
theorem ZnI (id:Nat) (c:ZC) (st:St):Z8 X M (.peek id c) st=bnd (Zmg c) fun ds=>bnd (ZeD id st) fun st1=>Zhs st ds (Z8 X M c st1):=by
 cases h0:Zmg c with
 | none=>exact Q1 fun n=>by simp only[Zu,h0];rfl
 | some ds=>
  cases hl:ZeD id st with
  | none=>exact Q1 fun n=>by simp only[Zu,h0,hl];rfl
  | some st' =>
   rw[Zc,Zc];cases hc:Z8 X M c st' with
   | none=>
    refine Q1 fun n=>?_;cases h:Zu (Z1 X M n) M n c st' with
    | none=>simp only[Zu,h0,hl,Zc,h];rfl
    | some q=>rw[Qs X M h] at hc;cases hc
   | some q=>
    obtain⟨n,hn⟩:=Vy X M hc;exact Qs X M (n:=n) (by simp only[Zu,h0,hl,Zc,hn _ (Kh n)];rfl)
noncomputable def Zbt (c:ZC) (K:List Nat) (st:St):Option (Ex×St):=lim fun n=>Wv (Zu (Z1 X M n) M n c) K n st
theorem Js (c:ZC) (K:List Nat) (st:St):ZpN fun n=>Wv (Zu (Z1 X M n) M n c) K n st:=fun n r hr=>
 ZdF (fun _ _ h=>Zgc (ZeF X M n) (Nat.le_succ n) c _ _ h) K n (n+1) st r (Nat.le_succ n) hr
theorem ZnJ (c:ZC) (st:St):Z8 X M (.loop c) st=Zbt X M c (Ug st.sl) st:=by
 simp only[Z8,Zbt,Zu]
theorem Zmk {c:ZC} {K:List Nat} {st aa : St} (h:Z8 X M c (VK K st)=some (.normal,aa)) :
  Zbt X M c K st=Zbt X M c K aa:=by
 obtain⟨n,hn⟩:=Vy X M h;cases hl:Zbt X M c K aa with
 | none=>
  refine Q1 fun k=>?_;cases hk:Wv (Zu (Z1 X M k) M k c) K k st with
  | none=>rfl
  | some q=>
   have h1:=(Js X M c K st).le hk (show k≤max k n+1 by omega);simp only[Wv] at h1;rw[hn (max k n+1) (by omega)] at h1;simp only[] at h1;have h2:=ZdF (fun _ _ h=>h) K (max k n) (max k n+1) aa q (Nat.le_succ _) h1;rw[show Zbt X M c K aa=some q from ZcT (Js X M c K aa) h2] at hl;cases hl
 | some q=>
  obtain⟨m,hm⟩:=Zbs hl;refine ZcT (Js X M c K st) (n:=max n m+1) ?_;simp only[Wv,hn (max n m+1) (by omega)];exact ZdF (fun _ _ h=>Zgc (UZ X M (show m≤max n m+1 by omega)) (show m≤max n m+1 by omega) c _ _ h) K m (max n m) aa q (by omega) hm
theorem Zhw {c:ZC} {K:List Nat} {st aa : St} {e:Ex} (he:e≠.normal) (h:Z8 X M c (VK K st)=some (e,aa)) :
  Zbt X M c K st=some (e,aa):=by
 obtain⟨n,hn⟩:=Vy X M h;refine ZcT (Js X M c K st) (n:=n+1) ?_;simp only[Wv,hn (n+1) (by omega)];cases e with
 | normal=>exact absurd rfl he
 | exit id=>rfl
 | ret=>rfl
theorem ZqU {f:Nat} {as:List AV} {h:List Zh} {fn:Z0} {r:AV×List Zh} (hx:X f=some (.text fn))
  (hl:as.length≤fn.nt) (hr:JI h.length fn.res (Z8 X M fn.body { sl:=Yz 0 as,hp:=YL 0 h,nx:=h.length,m:=h.length })=some r) :
  Zj X M f as h=some r:=by
 cases hv:Z8 X M fn.body { sl:=Yz 0 as,hp:=YL 0 h,nx:=h.length,m:=h.length } with
 | none=>rw[hv] at hr;simp[JI] at hr
 | some q=>
  rw[hv] at hr;obtain⟨n,hn⟩:=Vy X M hv;refine ZcT (Jr X M f as h) (n:=n+1) ?_;simp only[Z1,hx,ZeE,Zhu,hl,Kk,hn n (Kh n)];exact hr
theorem Ztv {f:Nat} {as:List AV} {h:List Zh} {p:List AV→List Zh→Option (AV×List Zh)} {r:AV×List Zh} (hx:X f=some (.prim p)) (hp:p as h=some r) :
  Zj X M f as h=some r:=
 ZcT (Jr X M f as h) (n:=1) (by simp only[Z1,hx,ZeE,hp])
end
section
variable (P:Program)
def YN (nt:Nat):Code→Option ZC
 | .skip=>some .skip
 | .region _ ops draw=>bnd (Qb (Zfq P nt ops.toList) ops.toList) fun os=>if draw then (if Zhm ops os then some (.region ops.toList.length (some (WF ops os)) os) else some .stuck) else some (.region ops.toList.length none os)
 | .seq a b=>bnd (YN nt a) fun a=>bnd (YN nt b) fun b=>some (.seq a b)
 | .cond c a b=>bnd (ZJ c) fun c=>bnd (YN nt a) fun a=>bnd (YN nt b) fun b=>some (.cond c a b)
 | .block id c=>bnd (YN nt c) fun c=>some (.block id c)
 | .loop c=>bnd (YN nt c) fun c=>some (.loop c)
 | .exit id=>some (.exit id)
 | .ret=>some .ret
 | _=>some .stuck
def ZaG:COp→COp
 | .buildT s _ xs=>.buildSl s xs
 | .asgT s _ x=>.assign (some s) x
 | .appT s b flat x y=>.append s b false flat x y
 | .makeT s b _ z l c=>.make s b z l c
 | c=>c
def ZeH:List CO→List CO
 | []=>[]
 | o :: r => { o with op:=ZaG o.op } :: ZeH r
def Zhx:Option (List (Nat×Nat))→List CO→List CO
 | none,ops=>ZeH ops
 | some _,ops=>ops
def Xb:ZC→ZC
 | .keep _ c=>Xb c
 | .seq a b=>.seq (Xb a) (Xb b)
 | .cond c a b=>.cond c (Xb a) (Xb b)
 | .block id c=>.block id (Xb c)
 | .loop c=>.loop (Xb c)
 | .region n d ops=>.region n d (Zhx d ops)
 | .link _ _ _ _ c=>Xb c
 | .melt c=>Xb c
 | .peek _ c=>Xb c
 | .skip=>.skip
 | .exit id=>.exit id
 | .ret=>.ret
 | .stuck=>.stuck
def ZeI (cf:Z0):Z0 := { nt:=cf.nt,res:=cf.res,body:=Xb cf.body }
def cRes:ResultVar→Option ZiS
 | .tmp t=>some (.tmp t)
 | .cell a t=>bnd (JZ P t) fun g=>some (.cell a g (P.cellsOf t))
def cFun (fn:Func):Option Z0:=bnd fn.body fun c=>bnd (YN P fn.ntmps c) fun b=>bnd (Qb (cRes P) fn.results.toList) fun rs=>some { nt:=fn.ntmps,res:=rs,body:=b }
end
end Go.Abs
