/- Own text. -/
import Derived.Test.YtnachaiejoflhaaAbsOps
set_option linter.unusedVariables false
set_option linter.unusedSimpArgs false
namespace Go.Abs
open Go
inductive Ex where
 | normal
 | exit (id:Nat)
 | ret
def Qy (lo hi:Nat):Hp→Bool
 | []=>true
 | (k,_) :: r=>decide (lo≤k)&&decide (k<hi)&&Qy (k+1) hi r
def QA (gone:List Nat) (sl:Sl):Sl:=match gone with
 | []=>sl
 | _=>ZeA (kill gone) sl
def Yi (gone:List Nat) (hp:Hp):Hp:=match gone with
 | []=>hp
 | _=>ZeA (QH gone) hp
def Zk (sl:Sl) (dst:Option Nat) (v:AV):Sl:=match dst with
 | some t=>ins sl t v
 | none=>sl
def Zb.on (e:Zb) (dst:Option Nat) (sl:Sl) (hp:Hp):Sl×Hp:=
 (Zk (QA e.gone sl) dst e.eff.val,e.eff.on (Yi e.gone hp))
def Xm (base:Nat) (dst:Option Nat) (sl:Sl) (hp:Hp) (e:Option Zb):Option (Sl×Hp):=
 bnd e fun e=>if Qy base (base+64) e.eff.adds then some (e.on dst sl hp) else none
def ZaE (want:Bool):AV→Option Bool
 | .d (.bool b)=>some (b==want)
 | .tup []=>some false
 | _=>none
def ZL (sl:Sl):Option (Nat×Bool)→Option Bool
 | none=>some true
 | some q=>ZaE q.2 (gs sl q.1)
inductive ZF where
 | skip
 | region (n:Nat) (draw:Option (List (Nat×Nat))) (ops:List CO)
 | seq (a b:ZF)
 | cond (c:Opd) (a b:ZF)
 | block (id:Nat) (c:ZF)
 | loop (c:ZF)
 | exit (id:Nat)
 | ret
 | keep (K:List Nat) (c:ZF)
 | stuck
 | link (fl:Bool) (id:Nat) (i:Opd) (j:Nat) (c:ZF)
 | melt (c:ZF)
inductive Ziw where
 | tmp (t:Nat)
 | cell (a:Nat) (g:Bool) (s:Nat)
structure ZK where
 nt:Nat
 res:List Ziw
 body:ZF
def ZnH (x:Option Opd):List Opd:=match x with
 | some y=>[y]
 | none=>[]
def Zt:COp→List Opd
 | .move x=>[x]
 | .assign _ x=>[x]
 | .pick c a b=>[c,a,b]
 | .alloc _ _=>[]
 | .box x=>[x]
 | .build _ ps=>ps.map fun q=>q.2.2
 | .buildSl _ xs=>xs
 | .load _ _ a=>[a]
 | .store _ _ a x=>[a,x]
 | .nilCheck x=>[x]
 | .bin _ _ x y=>[x,y]
 | .un _ x=>[x]
 | .eqA _ _ x y=>[x,y]
 | .convI _ x=>[x]
 | .convS x=>[x]
 | .fn _ cs=>cs
 | .make _ _ _ l c=>[l,c]
 | .slice _ x lo hi=>x :: (ZnH lo++ZnH hi)
 | .sliceS x lo hi=>x :: (ZnH lo++ZnH hi)
 | .slice0 x hi mx=>[x,hi,mx]
 | .shift _ x=>[x]
 | .part _ _ _ x=>[x]
 | .iaS _ x i=>[x,i]
 | .iaA _ _ x i=>[x,i]
 | .ixS x i=>[x,i]
 | .ixA _ _ _ x i=>[x,i]
 | .nth _ x=>[x]
 | .len x=>[x]
 | .lenS x=>[x]
 | .append _ _ _ _ x y=>[x,y]
 | .min x y=>[x,y]
 | .max x y=>[x,y]
 | .call f as=>f :: as
 | .slice3 _ x lo hi mx=>[x,lo,hi,mx]
 | .clear _ _ x=>[x]
 | .stuck=>[]
 | .buildT _ _ xs=>xs
 | .appT _ _ _ x y=>[x,y]
 | .asgT _ _ x=>[x]
 | .makeT _ _ _ _ l c=>[l,c]
def Zcy:COp→Bool
 | .store _ _ _ _=>true
 | _=>false
def isApp:COp→Bool
 | .append _ _ _ _ _ _=>true
 | _=>false
def Zhv (c:COp):Bool:=Zcy c || isApp c
def CO.starts (o:CO):Bool:=Zcy o.op || o.tl
def ZG (os:List CO) (i:Nat):Bool:=match os[i]? with
 | some o=>CO.starts o
 | none=>false
def W4:Opd→List Nat
 | .t n=>[n]
 | _=>[]
def Zhw:Option (Nat×Bool)→List Nat
 | some q=>[q.1]
 | none=>[]
def Xt (o:CO):List Nat:=(Zt o.op).flatMap W4++Zhw o.guard
def Qp:Option Nat→List Nat→Bool
 | some d,l=>!l.contains d
 | none,_=>true
def Wv:Option Nat→Option Nat→Bool
 | some d,some e=>d != e
 | _,_=>true
def QO (a b:CO):Bool:=Qp a.dst (Xt b)&&Wv a.dst b.dst&&Qp b.dst (Xt a)
def Xy:Opd→Bool
 | .v a=>(Zn a).isEmpty&&!Zjd a
 | _=>true
def ZkK (os:List CO) (j i:Nat):Bool:=match os[j]?,os[i]? with
 | some a,some b=>QO a b
 | _,_=>false
def Yv:COp→Bool
 | .load _ _ _=>false
 | .store _ _ _ _=>false
 | .slice _ _ _ _=>false
 | .slice0 _ _ _=>false
 | .iaS _ _ _=>false
 | .len _=>false
 | .append _ _ _ _ _ _=>false
 | .buildSl _ _=>false
 | .buildT _ _ _=>false
 | .appT _ _ _ _ _=>false
 | .asgT _ _ _=>false
 | .makeT _ _ _ _ _ _=>false
 | .call _ _=>false
 | .slice3 _ _ _ _ _=>false
 | .clear _ _ _=>false
 | _=>true
def VU:COp→Bool
 | .load _ _ _=>true
 | .slice _ _ _ _=>true
 | .slice0 _ _ _=>true
 | .iaS _ _ _=>true
 | .len _=>true
 | _=>false
def ZnI:COp→Bool
 | .clear _ _ _=>false
 | .store _ _ _ _=>false
 | .append _ _ _ _ _ _=>false
 | .buildSl _ _=>false
 | .buildT _ _ _=>false
 | .appT _ _ _ _ _=>false
 | .asgT _ _ _=>false
 | .makeT _ _ _ _ _ _=>false
 | .call _ _=>false
 | _=>true
def Vu (os:List CO) (k:Nat):Option Nat:=match os[k]? with
 | some o=>o.dst
 | none=>none
def ZkL (os:List CO) (k:Nat):List Nat:=match os[k]? with
 | some o=>Xt o
 | none=>[]
def W5 (os:List CO) (k:Nat):Bool:=(List.range os.length).all fun q=>decide (q<k) || Qp (Vu os q) (ZkL os k)
def XA:COp→Bool
 | .move _=>true
 | _=>false
def ZaF:COp→Bool
 | .append _ _ _ _ _ _=>true
 | .buildSl _ _=>true
 | _=>false
def WH:COp→Bool
 | .call (.f _) _=>true
 | _=>false
def ZeY:COp→List Opd
 | .call _ as=>as
 | _=>[]
def ZnJ:COp→Bool
 | .alloc _ _=>false
 | .box _=>false
 | .assign _ _=>false
 | .make _ _ _ _ _=>false
 | .fn _ _=>false
 | _=>true
def ZjI:COp→Bool
 | .buildSl _ _=>true
 | _=>false
def JE:AV→Bool
 | .d _=>true
 | .nil=>true
 | .nilp=>true
 | .nili=>true
 | _=>false
def XY:List AV→Bool
 | []=>true
 | c :: r=>JE c&&XY r
def Zgr:COp→Bool
 | .alloc _ cs=>XY cs
 | _=>false
def Zhx (c:COp):Bool:=VU c || ZjI c || (Yv c&&ZnJ c) || Zgr c
def Zec:COp→Bool
 | .alloc _ cs=>XY cs
 | .buildSl _ _=>true
 | .load _ _ _=>true
 | .nilCheck _=>true
 | .bin _ _ _ _=>true
 | .un _ _=>true
 | .convI _ _=>true
 | .shift _ _=>true
 | .iaS _ _ _=>true
 | .slice _ _ _ _=>true
 | .len _=>true
 | .sliceS _ _ _=>true
 | .lenS _=>true
 | _=>false
def Zsg:Option Nat→Bool
 | some _=>true
 | none=>false
def Zf1 (os:List CO) (k:Nat):Bool:=Zsg (Vu os k)&&(List.range os.length).all fun q=>q==k || Wv (Vu os q) (Vu os k)
def Zed (os:List CO) (j i:Nat):Bool:=W5 os j&&W5 os i
def ZqE (os:List CO) (j i:Nat) (a b:COp):Bool:=
 ZnI b || (Zhv b&&(Yv a || (!XA a&&VU a&&Zed os j i))) || (XA a&&(ZaF b || Zf1 os j)) || (!XA a&&WH b&&Zhx a&&Zed os j i&&Zf1 os j)
def ZqF (os:List CO) (j i:Nat) (a b:COp):Bool:=(XA b&&Zf1 os i) || (!XA b&&WH a&&Zec b&&Zed os j i&&Zf1 os i)
def ZkM (os:List CO) (j i:Nat):Bool:=match os[j]?,os[i]? with
 | some a,some b=>if ZG os j then !ZG os i&&ZqF os j i a.op b.op else !ZG os i || ZqE os j i a.op b.op
 | _,_=>false
def ZaG (os:List CO) (j i:Nat):Option (Nat×Nat):=match os[j]?,os[i]? with
 | some a,some b=>if ZG os j then (if XA b.op || WH a.op then some (i,j) else none) else
   if ZG os i&&(if Zhv b.op then !(Yv a.op) else if XA a.op then !(ZaF b.op) else WH b.op) then some (j,i) else none
 | _,_=>none
def optP:Option (Nat×Nat)→List (Nat×Nat)
 | some p=>[p]
 | none=>[]
def UL (ops:Array Oper) (os:List CO):List (Nat×Nat):=
 (List.range ops.size).flatMap fun i=>(List.range i).flatMap fun j=>if Zdh ops 6 i j then [] else optP (ZaG os j i)
def Zhy (ops:Array Oper) (os:List CO):Bool:=
 (List.range ops.size).all (fun i=>(Yf ops i).all fun e=>decide (e<i)) &&
 (List.range ops.size).all (fun i=>(List.range i).all fun j=>(Yf ops i).contains j || ZkK os j i) &&
 (List.range ops.size).all (fun i=>(List.range i).all fun j=>Zdh ops 6 i j || ZkM os j i) &&
 os.all (fun o=>(Zt o.op).all Xy)
def UM (id:Nat):AV→Bool
 | .d _=>true
 | .pim _=>true
 | .nil=>true
 | .ptr k _=>k != id
 | .prow k _ _ _=>k != id
 | .own k=>k != id
 | .ownv k _ _=>k != id
 | .nilp=>true
 | .nili=>true
 | .tup []=>true
 | _=>false
def okC:AV→Bool
 | .d _=>true
 | .pim _=>true
 | .nil=>true
 | .ptr _ _=>true
 | .prow _ _ _ _=>true
 | .own _=>true
 | .ownv _ _ _=>true
 | .nilp=>true
 | .nili=>true
 | _=>false
def ZkN:List AV→Bool
 | []=>true
 | v :: r=>okC v&&ZkN r
def okV:AV→Bool
 | .agg cs=>ZkN cs
 | .tup []=>true
 | v=>okC v
def okL (sl:Sl):List Opd→Bool
 | []=>true
 | x :: r=>okV (evO sl x)&&okL sl r
def okD (sl:Sl):Option Nat→Bool
 | some t=>okV (gs sl t)
 | none=>true
def XZ:AV→Option Nat
 | .ptr k _=>some k
 | .prow k _ _ _=>some k
 | _=>none
def Qu (sl:Sl) (id:Nat):List Opd→Bool
 | []=>true
 | x :: r=>UM id (evO sl x)&&Qu sl id r
def ZaH (sl:Sl) (a:COp):Option Nat→Bool
 | some id=>Qu sl id (Zt a)
 | none=>false
def UN (sl:Sl) (xs:List Opd):AV→Bool
 | .ptr k _=>Qu sl k xs
 | .prow _ _ _ _=>false
 | _=>true
def ZbN (sl:Sl) (xs:List Opd):List Opd→Bool
 | []=>true
 | y :: r=>UN sl xs (evO sl y)&&ZbN sl xs r
def VV (sl:Sl) (a:COp):AV→Bool
 | .nil=>true
 | .tup []=>true
 | .own k=>Qu sl k (Zt a)
 | .ownv k _ _=>Qu sl k (Zt a)
 | _=>false
def seenSrc (sl:Sl) (a:COp):AV→Bool
 | .own k=>Qu sl k (Zt a)
 | v=>okV v
def Q3 (sl:Sl) (xs:List Opd):List Nat→Bool
 | []=>true
 | k :: r=>Qu sl k xs&&Q3 sl xs r
def Ya (sl:Sl) (a:COp):AV→AV→Bool
 | .prow _ _ _ _,.d _=>true
 | .prow _ _ _ _,v=>okV v&&Q3 sl (Zt a) (Zn v)
 | _,_=>true
def Vn (sl:Sl) (d:Option Nat):COp→COp→Bool
 | .move _,_=>okD sl d
 | a,.store _ _ x y=>ZaH sl a (XZ (evO sl x))&&Ya sl a (evO sl x) (evO sl y)
 | a,.append _ _ _ flat x y=>VV sl a (evO sl x)&&(flat || seenSrc sl a (evO sl y))
 | a,.call _ as=>okL sl (Zt a)&&(okD sl d&&(okL sl as&&ZbN sl (Zt a) as))
 | _,_=>false
def Zee (os:List CO) (sl:Sl) (p:Nat×Nat):Bool:=match os[p.1]?,os[p.2]? with
 | some a,some b=>Vn sl a.dst a.op b.op
 | _,_=>false
def Vj (os:List CO) (sl:Sl):List (Nat×Nat)→Bool
 | []=>true
 | p :: r=>Zee os sl p&&Vj os sl r
def Xp (M:Zh):Zh:=fun f i=>i != 99&&M f i
section
variable (C:Orc) (M:Zh)
noncomputable def ZbO (nx:Nat):Nat→List CO→Sl→Hp→Option (Sl×Hp)
 | _,[],sl,hp=>some (sl,hp)
 | i,o :: rest,sl,hp=>bnd (ZL sl o.guard) fun b=>
   if b then bnd (Xm (nx+64*i) o.dst sl hp (vop C M sl hp (nx+64*i) o.op)) fun r=>ZbO nx (i+1) rest r.1 r.2
   else ZbO nx (i+1) rest (Zk sl o.dst (.tup [])) hp
def ZaI (c:Zb):List Nat→Hp→List Nat→List Nat→Option Zb
 | [],[],[],[]=>some c
 | _,_,_,_=>none
def UO (e:Option Zb):Option Zb:=bnd e fun c=>ZaI c c.gone c.eff.sets c.eff.dels c.eff.frz
noncomputable def Yk (nx i:Nat) (tail:Bool) (o:COp) (sl:Sl) (hp:Hp):Option Zb:=
 if tail then vop C M sl hp (nx+64*i) o else UO (vop C M sl hp (nx+64*i) o)
noncomputable def Wi (nx:Nat):Nat→Bool→List CO→Sl→Hp→Option (Sl×Hp)
 | _,_,[],sl,hp=>some (sl,hp)
 | i,t,o :: rest,sl,hp=>bnd (ZL sl o.guard) fun b=>
   if b then bnd (Xm (nx+64*i) o.dst sl hp (Yk C M nx i (CO.starts o) o.op sl hp)) fun r=>Wi nx (i+1) t rest r.1 r.2
   else Wi nx (i+1) t rest (Zk sl o.dst (.tup [])) hp
def W6 {α:Type}:List (Nat×α)→List Nat
 | []=>[]
 | (k,_) :: r=>k :: W6 r
def only {α:Type} (K:List Nat):List (Nat×α)→List (Nat×α)
 | []=>[]
 | (k,v) :: r=>if K.contains k then (k,v) :: only K r else only K r
def Yw:Nat→List Zj→Hp
 | _,[]=>[]
 | k,o :: r=>Yw (k+1) r++[(k,o)]
def ZjJ:Sl→List Nat
 | []=>[]
 | (_,v) :: r=>Zn v++ZjJ r
def ZkO:Option Zj→Bool
 | some _=>true
 | none=>false
def JF (hp:Hp) (ids:List Nat) (i:Nat):Bool:=ids.contains i&&ZkO (lkp hp i)
def ZbP (hp:Hp) (ids:List Nat):List Nat→List Nat
 | []=>[]
 | i :: r=>if JF hp ids i then ZbP hp ids r else i :: ZbP hp ids r
def J6 (hp:Hp) (ids:List Nat) (v:AV):AV:=ren (Ye ids) (kill (ZbP hp ids (Zn v)) v)
def ZbQ (hp:Hp) (ids:List Nat) (o:Zj):Zj:=ZdI (Ye ids) (QH (ZbP hp ids (VG o)) o)
def ZnK:Option Zj→List Nat
 | some o=>VG o
 | none=>[]
def YM (hp:Hp):List Nat→List Nat
 | []=>[]
 | id :: r=>ZnK (lkp hp id)++YM hp r
def Vv (K:List Nat) (st:St):St:=
 let sl:=only K st.sl
 let ids:=Qz st.hp (QZ st.hp) (ZjJ sl++YM st.hp (List.range st.m)) (List.range st.m)
 { sl:=ZeA (J6 st.hp ids) sl,hp:=Yw 0 ((JA st.hp ids).map (ZbQ st.hp ids)),nx:=ids.length,m:=st.m }
def Wj (f:St→Option (Ex×St)) (K:List Nat):Nat→St→Option (Ex×St)
 | 0,_=>none
 | n+1,st=>match f (Vv K st) with
  | some (.normal,st')=>Wj f K n st'
  | r=>r
def andThen (r:Option (Ex×St)) (k:St→Option (Ex×St)):Option (Ex×St):=match r with
 | some (.normal,st)=>k st
 | r=>r
def ZcV (v:AV) (a b:Option (Ex×St)):Option (Ex×St):=match v with
 | .d (.bool t)=>if t then a else b
 | _=>none
def ZbR (id:Nat) (r:Option (Ex×St)):Option (Ex×St):=match r with
 | some (.exit j,st)=>if j=id then some (.normal,st) else some (.exit j,st)
 | r=>r
def ZjK (ops:List CO) (ps:List (Nat×Nat)) (r:Option (Sl×Hp)):Option (Sl×Hp):=bnd r fun r=>if Vj ops r.1 ps then some r else none
def Zf2 (m nx:Nat) (r:Option (Sl×Hp)):Option (Ex×St):=bnd r fun r=>some (.normal,{ sl:=r.1,hp:=r.2,nx:=nx,m:=m })
def Zhz (K:List Nat) (r:Option (Ex×St)):Option (Ex×St):=match r with
 | some q=>some (q.1,{ q.2 with sl:=only K q.2.sl })
 | none=>none
def ZoD (fl:Bool) (k:Nat) (ys:List D):Option Zj:=if fl then (if WM D.flat ys then some (.row k ys true false) else none) else some (.tree k k ys none)
def Zef (xs:List D) (n j:Nat) (y:D):Option (List D):=bnd xs[n]? fun x=>some (xs.set n (Xi x j [y]))
def ZoE (fl:Bool) (nx n j:Nat):Option Zj→Option (Zj×Zj)
 | some (.tree s k xs none)=>bnd (VR xs n j) fun ys=>bnd (ZoD fl k ys) fun o=>bnd (Zef xs n j (.sl [])) fun xs'=>some (.tree s k xs' (some (some nx,n,j)),o)
 | _=>none
def ZaJ (fl:Bool) (id:Nat) (i:Opd) (j:Nat) (st:St):Option St:=bnd (idx (evO st.sl i)) fun n=>if 0≤n then bnd (ZoE fl st.nx n.toNat j (lkp st.hp id)) fun q=>some { st with hp:=ins (ins st.hp id q.1) st.nx q.2,nx:=st.nx+64 } else none
def ZhA (k:Nat):Option Zj→Option (List D)
 | some (.row k' ys true false)=>if k'=k∧WM D.flat ys then some ys else none
 | some (.tree k' n ys none)=>if k'=k∧n=k then some ys else none
 | _=>none
def ZfQ (hp:Hp) (id nm:Nat):Option Zj→Option Hp
 | some (.tree s k xs (some (some nm',n,j)))=>if nm'=nm then bnd (ZhA k (lkp hp nm)) fun ys=>bnd (Zef xs n j (.sl ys)) fun xs'=>some (ins (del hp nm) id (.tree s k xs' none)) else none
 | _=>none
def ZpG (hp:Hp):Option Hp→Hp
 | some h=>h
 | none=>hp
def ZhB (id nm:Nat) (r:Option (Ex×St)):Option (Ex×St):=match r with
 | some q=>some (q.1,{ q.2 with hp:=ZpG q.2.hp (ZfQ q.2.hp id nm (lkp q.2.hp id)) })
 | none=>none
def ZkP (st:St):St := { st with hp:=ZeA Zd6 st.hp }
noncomputable def Zx (N:Nat):ZF→St→Option (Ex×St)
 | .skip,st=>some (.normal,st)
 | .region n none ops,st=>Zf2 st.m (st.nx+64*n) (ZbO C M st.nx 0 ops st.sl st.hp)
 | .region n (some ps) ops,st=>Zf2 st.m (st.nx+64*n) (ZjK ops ps (Wi C (Xp M) st.nx 0 false ops st.sl st.hp))
 | .seq a b,st=>andThen (Zx N a st) (Zx N b)
 | .cond c a b,st=>ZcV (evO st.sl c) (Zx N a st) (Zx N b st)
 | .block id c,st=>ZbR id (Zx N c st)
 | .loop c,st=>Wj (Zx N c) (W6 st.sl) N st
 | .exit id,st=>some (.exit id,st)
 | .ret,st=>some (.ret,st)
 | .keep K c,st=>Zhz K (Zx N c st)
 | .stuck,_=>none
 | .link fl id i j c,st=>bnd (ZaJ fl id i j st) fun st1=>ZhB id st.nx (Zx N c st1)
 | .melt c,st=>Zx N c (ZkP st)
def ZhC (st:St):Ziw→Option AV
 | .tmp t=>some (gs st.sl t)
 | .cell a g s=>Y4 st.hp g s (gs st.sl a)
def Yx (m:Nat) (hp:Hp) (v:AV):AV×List Zj:=
 let ids:=Qz hp (QZ hp) (Zn v++YM hp (List.range m)) (List.range m)
 (J6 hp ids v,(JA hp ids).map (ZbQ hp ids))
def ZoF:AV→Bool
 | .tup _=>true
 | _=>false
def Zdm:List AV→Bool
 | []=>false
 | v :: r=>ZoF v || Zdm r
def UP:List AV→AV
 | [v]=>v
 | vs=>if Zdm vs then .junk else .tup vs
def Yj:Nat→List AV→Sl
 | _,[]=>[]
 | k,v :: r=>Yj (k+1) r++[(k,v)]
def JG (m:Nat) (rs:List Ziw) (r:Option (Ex×St)):Option (AV×List Zj):=match r with
 | some (.normal,st)=>bnd (Qd (ZhC st) rs) fun vs=>some (Yx m st.hp (UP vs))
 | some (.ret,st)=>bnd (Qd (ZhC st) rs) fun vs=>some (Yx m st.hp (UP vs))
 | _=>none
noncomputable def ZhD (N:Nat) (fn:ZK) (as:List AV) (h:List Zj):Option (AV×List Zj):=
 if as.length≤fn.nt then JG h.length fn.res (Zx C M N fn.body { sl:=Yj 0 as,hp:=Yw 0 h,nx:=h.length,m:=h.length }) else none
end
inductive Fn where
 | text (f:ZK)
 | prim (p:List AV→List Zj→Option (AV×List Zj))
abbrev Fns:=Nat→Option Fn
noncomputable def ZeZ (C:Orc) (M:Zh) (N:Nat) (as:List AV) (h:List Zj):Option Fn→Option (AV×List Zj)
 | some (.text f)=>ZhD C M N f as h
 | some (.prim p)=>p as h
 | none=>none
noncomputable def Z3 (X:Fns) (M:Zh):Nat→Orc
 | 0,_,_,_=>none
 | n+1,f,as,h=>ZeZ (Z3 X M n) M n as h (X f)
open Classical in
noncomputable def lim {α:Type} (x:Nat→Option α):Option α:=if h:∃ r,∃ n,x n=some r then some h.choose else none
def ZpH {α:Type} (x:Nat→Option α):Prop:=∀ n r,x n=some r→x (n+1)=some r
theorem ZpH.le {α:Type} {x:Nat→Option α} (h:ZpH x) {n m:Nat} {r:α} (hr:x n=some r) (aa:n≤m):x m=some r:=by
 induction aa with
 | refl=>exact hr
 | step _ ih=>exact h _ _ ih
theorem Zdn {α:Type} {x:Nat→Option α} (h:ZpH x) {n:Nat} {r:α} (hr:x n=some r):lim x=some r:=by
 have he:∃ r,∃ n,x n=some r:=⟨r,n,hr⟩
 unfold lim;rw[dif_pos he];obtain⟨m,hm⟩:=he.choose_spec;have h1:=h.le hm (LI m n);have h2:=h.le hr (LD m n);rw[h1] at h2;exact h2
theorem ZbS {α:Type} {x:Nat→Option α} {r:α} (hr:lim x=some r):∃ n,x n=some r:=by
 unfold lim at hr;split at hr
 ·rename_i h;obtain⟨n,hn⟩:=h.choose_spec;exact⟨n,by rw[hn];exact hr⟩
 ·cases hr
def Orc.le (C C' : Orc):Prop:=∀ f as h r,C f as h=some r→C' f as h=some r
section
variable {M:Zh} {C C' : Orc}
theorem W7 {α β:Type} {x x' : Option α} {f f' : α→Option β} {r:β} (hx:∀ a,x=some a→x'=some a) (hf:∀ a,f a=some r→f' a=some r) (h:bnd x f=some r):bnd x' f'=some r:=by
 obtain⟨a,h1,h2⟩:=Za h;rw[hx a h1];exact hf a h2
theorem ZqG (h:C.le C') {m:Nat→Bool} {hp:Hp} {base f:Nat} {aa:List AV} {r:Zb}
  (hr:Ji C m hp base f aa=some r):Ji C' m hp base f aa=some r:=by
 unfold Ji at hr ⊢;refine W7 (fun _ h=>h) (fun as hr=>?_) hr;unfold Zau at hr ⊢;by_cases hc:(as.flatMap Zn).all (Qz hp (QZ hp) (as.flatMap Zn) []).contains∧¬(Xo aa as).any (Qz hp (QZ hp) (as.flatMap Zn) []).contains∧Ug hp (as.flatMap Wh) (Qz hp (QZ hp) (as.flatMap Zn) [])=true
 ·rw[Kt hc] at hr ⊢;exact W7 (fun q hq=>h _ _ _ _ hq) (fun _ h=>h) hr
 ·rw[Ko hc] at hr;cases hr
theorem ZkQ (h:C.le C') {sl:Sl} {hp:Hp} {base:Nat} {o:COp} {r:Zb} (hr:vop C M sl hp base o=some r) :
  vop C' M sl hp base o=some r:=by
 cases o with
 | call f as=>
  simp only[vop] at hr ⊢;cases hg:evO sl f<;>simp only[hg,JC] at hr ⊢ <;> first | exact ZqG h hr | exact hr
 | _=>exact hr
theorem ZkR (h:C.le C') (nx:Nat):∀ (l:List CO) (i:Nat) (sl:Sl) (hp:Hp) (r:Sl×Hp),
  ZbO C M nx i l sl hp=some r→ZbO C' M nx i l sl hp=some r:=by
 intro l
 induction l with
 | nil=>intro i sl hp r hr;exact hr
 | cons o rest ih=>
  intro i sl hp r hr;simp only[ZbO] at hr ⊢;refine W7 (fun _ h=>h) (fun b hr=>?_) hr;cases b
  ·simp only[Ka,Ki] at hr ⊢;exact ih _ _ _ _ hr
  ·simp only[Kj] at hr ⊢;refine W7 (fun q hq=>?_) (fun q hq=>ih _ _ _ _ hq) hr;unfold Xm at hq ⊢;exact W7 (fun e he=>ZkQ h he) (fun _ h=>h) hq
theorem ZoG (h:C.le C') {nx i:Nat} {t:Bool} {o:COp} {sl:Sl} {hp:Hp} {e:Zb} (he:Yk C M nx i t o sl hp=some e) :
  Yk C' M nx i t o sl hp=some e:=by
 unfold Yk at he ⊢;cases t
 ·simp only[Ka,Ki,UO] at he ⊢;exact W7 (fun _ hv=>ZkQ h hv) (fun _ h=>h) he
 ·simp only[Kj] at he ⊢;exact ZkQ h he
theorem Zeg (h:C.le C') (nx:Nat):∀ (l:List CO) (i:Nat) (t:Bool) (sl:Sl) (hp:Hp) (r:Sl×Hp),
  Wi C M nx i t l sl hp=some r→Wi C' M nx i t l sl hp=some r:=by
 intro l
 induction l with
 | nil=>intro i t sl hp r hr;exact hr
 | cons o rest ih=>
  intro i t sl hp r hr;simp only[Wi] at hr ⊢;refine W7 (fun _ h=>h) (fun b hr=>?_) hr;cases b
  ·simp only[Ka,Ki] at hr ⊢;exact ih _ _ _ _ _ hr
  ·simp only[Kj] at hr ⊢;refine W7 (fun q hq=>?_) (fun q hq=>ih _ _ _ _ _ hq) hr;unfold Xm at hq ⊢;exact W7 (fun e he=>ZoG h he) (fun _ h=>h) hq
theorem Zeh {f g:St→Option (Ex×St)} (h:∀ st r,f st=some r→g st=some r) (K:List Nat) :
  ∀ (n m:Nat) (st:St) (r:Ex×St),n≤m→Wj f K n st=some r→Wj g K m st=some r:=by
 intro n
 induction n with
 | zero=>intro m st r _ hr;simp[Wj] at hr
 | succ n ih=>
  intro m st r hm hr;cases m with
  | zero=>omega
  | succ m=>
   simp only[Wj] at hr ⊢;cases hf:f (Vv K st) with
   | none=>simp[hf] at hr
   | some q=>
    rw[hf] at hr;rw[h _ _ hf];obtain⟨e,aa⟩:=q;cases e with
    | normal=>exact ih m aa r (by omega) hr
    | exit id=>exact hr
    | ret=>exact hr
theorem Zgs (h:C.le C') {N N' : Nat} (hN:N≤N'):∀ (c:ZF) (st:St) (r:Ex×St),
  Zx C M N c st=some r→Zx C' M N' c st=some r:=by
 intro c
 induction c with
 | skip=>intro st r hr;simpa [Zx] using hr
 | region n draw ops=>
  intro st r hr;cases draw
  ·simp only[Zx,Zf2] at hr ⊢;exact W7 (fun q hq=>ZkR h _ _ _ _ _ _ hq) (fun _ h=>h) hr
  ·simp only[Zx,Zf2,ZjK] at hr ⊢;exact W7 (fun q hq=>W7 (fun q hq=>Zeg h _ _ _ _ _ _ _ hq) (fun _ h=>h) hq) (fun _ h=>h) hr
 | seq a b iha ihb=>
  intro st r hr;simp only[Zx] at hr ⊢;cases ha:Zx C M N a st with
  | none=>simp[ha,andThen] at hr
  | some q=>
   rw[ha] at hr;rw[iha _ _ ha];obtain⟨e,aa⟩:=q;cases e with
   | normal=>exact ihb _ _ hr
   | exit id=>exact hr
   | ret=>exact hr
 | cond c a b iha ihb=>
  intro st r hr;simp only[Zx,ZcV] at hr ⊢;split at hr
  ·rename_i t ht;cases t
   ·simp only[Ka,Ki] at hr ⊢;exact ihb _ _ hr
   ·simp only[Kj] at hr ⊢;exact iha _ _ hr
  ·cases hr
 | block id c ih=>
  intro st r hr;simp only[Zx] at hr ⊢;cases hc:Zx C M N c st with
  | none=>simp[hc,ZbR] at hr
  | some q=>rw[hc] at hr;rw[ih _ _ hc];exact hr
 | loop c ih=>
  intro st r hr;simp only[Zx] at hr ⊢;exact Zeh ih _ _ _ _ _ hN hr
 | exit id=>intro st r hr;simpa [Zx] using hr
 | ret=>intro st r hr;simpa [Zx] using hr
 | keep K c ih=>
  intro st r hr;simp only[Zx] at hr ⊢;cases hc:Zx C M N c st with
  | none=>simp[hc,Zhz] at hr
  | some q=>rw[hc] at hr;rw[ih _ _ hc];exact hr
 | stuck=>intro st r hr;simp[Zx] at hr
 | link fl id i j c ih=>
  intro st r hr;simp only[Zx] at hr ⊢;obtain⟨aa,h1,h2⟩:=Za hr;rw[h1,Zc];cases hc:Zx C M N c aa with
  | none=>simp[hc,ZhB] at h2
  | some q=>rw[hc] at h2;rw[ih _ _ hc];exact h2
 | melt c ih=>
  intro st r hr;simp only[Zx] at hr ⊢;exact ih _ r hr
theorem ZqH (h:C.le C') {N N' : Nat} (hN:N≤N') {f:ZK} {as:List AV} {hh:List Zj} {r:AV×List Zj}
  (hr:ZhD C M N f as hh=some r):ZhD C' M N' f as hh=some r:=by
 unfold ZhD at hr ⊢;by_cases hl:as.length≤f.nt
 ·rw[Kt hl] at hr ⊢;cases hv:Zx C M N f.body { sl:=Yj 0 as,hp:=Yw 0 hh,nx:=hh.length,m:=hh.length } with
  | none=>simp[hv,JG] at hr
  | some q=>rw[hv] at hr;rw[Zgs h hN _ _ _ hv];exact hr
 ·rw[Ko hl] at hr;cases hr
end
section
variable (X:Fns) (M:Zh)
theorem Ze0:∀ n,(Z3 X M n).le (Z3 X M (n+1)):=by
 intro n
 induction n with
 | zero=>intro f as h r hr;simp[Z3] at hr
 | succ n ih=>
  intro f as h r hr;rw[Z3] at hr ⊢;cases hf:X f with
  | none=>rw[hf] at hr;cases hr
  | some g=>
   rw[hf] at hr;cases g with
   | text g=>exact ZqH ih (Nat.le_succ n) hr
   | prim p=>exact hr
noncomputable def Zi (f:Nat) (as:List AV) (h:List Zj):Option (AV×List Zj):=lim fun n=>Z3 X M n f as h
noncomputable def Qo (c:ZF) (st:St):Option (Ex×St):=lim fun n=>Zx (Z3 X M n) M n c st
theorem Jo (f:Nat) (as:List AV) (h:List Zj):ZpH fun n=>Z3 X M n f as h:=fun n r hr=>Ze0 X M n f as h r hr
theorem ZaK (n:Nat):(Z3 X M n).le (Zi X M):=fun f as h _ hr=>Zdn (Jo X M f as h) hr
theorem Zdo (c:ZF) (st:St):ZpH fun n=>Zx (Z3 X M n) M n c st:=fun n r hr=>Zgs (Ze0 X M n) (Nat.le_succ n) c st r hr
theorem UQ {n m:Nat} (h:n≤m):(Z3 X M n).le (Z3 X M m):=fun f as hh _ hr=>(Jo X M f as hh).le hr h
theorem Zma {m:Nat→Bool} {hp:Hp} {base f:Nat} {aa:List AV} {r:Zb}
  (hr:Ji (Zi X M) m hp base f aa=some r):∃ n,Ji (Z3 X M n) m hp base f aa=some r:=by
 unfold Ji at hr ⊢;obtain⟨as,ab,hr⟩:=Za hr;simp only[ab,Zc];unfold Zau at hr ⊢;by_cases hc:(as.flatMap Zn).all (Qz hp (QZ hp) (as.flatMap Zn) []).contains∧¬(Xo aa as).any (Qz hp (QZ hp) (as.flatMap Zn) []).contains∧Ug hp (as.flatMap Wh) (Qz hp (QZ hp) (as.flatMap Zn) [])=true
 ·rw[Kt hc] at hr;obtain⟨q,hq,hr⟩:=Za hr;obtain⟨n,hn⟩:=ZbS hq;refine⟨n,?_⟩;rw[Kt hc,hn];exact hr
 ·rw[Ko hc] at hr;cases hr
theorem Ze1 {M' : Zh} {sl:Sl} {hp:Hp} {base:Nat} {o:COp} {r:Zb} (hr:vop (Zi X M) M' sl hp base o=some r) :
  ∃ n,vop (Z3 X M n) M' sl hp base o=some r:=by
 cases o with
 | call f as=>
  simp only[vop] at hr ⊢;cases hg:evO sl f<;>simp only[hg,JC] at hr ⊢ <;> first | exact Zma X M hr | exact⟨0,hr⟩
 | _=>exact⟨0,hr⟩
theorem ZnL (nx:Nat):∀ (l:List CO) (i:Nat) (sl:Sl) (hp:Hp) (r:Sl×Hp),
  ZbO (Zi X M) M nx i l sl hp=some r→∃ n,ZbO (Z3 X M n) M nx i l sl hp=some r:=by
 intro l
 induction l with
 | nil=>intro i sl hp r hr;exact⟨0,hr⟩
 | cons o rest ih=>
  intro i sl hp r hr;simp only[ZbO] at hr ⊢;obtain⟨b,hb,hr⟩:=Za hr;simp only[hb,Zc];cases b
  ·simp only[Ka,Ki] at hr ⊢;exact ih _ _ _ _ hr
  ·simp only[Kj] at hr ⊢;obtain⟨q,hq,hr⟩:=Za hr;unfold Xm at hq;obtain⟨e,he,hq⟩:=Za hq;obtain⟨n1,h1⟩:=Ze1 X M he;obtain⟨n2,h2⟩:=ih _ _ _ _ hr;refine⟨max n1 n2,?_⟩;unfold Xm;rw[ZkQ (UQ X M (LI n1 n2)) h1,Zc,hq,Zc];exact ZkR (UQ X M (LD n1 n2)) _ _ _ _ _ _ h2
theorem ZnM {M' : Zh} {nx i:Nat} {t:Bool} {o:COp} {sl:Sl} {hp:Hp} {e:Zb} (he:Yk (Zi X M) M' nx i t o sl hp=some e) :
  ∃ n,Yk (Z3 X M n) M' nx i t o sl hp=some e:=by
 unfold Yk at he ⊢;cases t
 ·simp only[Ka,Ki,UO] at he ⊢;obtain⟨e',aa,h2⟩:=Za he;obtain⟨n,hn⟩:=Ze1 X M aa;exact⟨n,by rw[hn];exact h2⟩
 ·simp only[Kj] at he ⊢;exact Ze1 X M he
theorem Zmb {M' : Zh} (nx:Nat):∀ (l:List CO) (i:Nat) (t:Bool) (sl:Sl) (hp:Hp) (r:Sl×Hp),
  Wi (Zi X M) M' nx i t l sl hp=some r→∃ n,Wi (Z3 X M n) M' nx i t l sl hp=some r:=by
 intro l
 induction l with
 | nil=>intro i t sl hp r hr;exact⟨0,hr⟩
 | cons o rest ih=>
  intro i t sl hp r hr;simp only[Wi] at hr ⊢;obtain⟨b,hb,hr⟩:=Za hr;simp only[hb,Zc];cases b
  ·simp only[Ka,Ki] at hr ⊢;exact ih _ _ _ _ _ hr
  ·simp only[Kj] at hr ⊢;obtain⟨q,hq,hr⟩:=Za hr;unfold Xm at hq;obtain⟨e,he,hq⟩:=Za hq;obtain⟨n1,h1⟩:=ZnM X M he;obtain⟨n2,h2⟩:=ih _ _ _ _ _ hr;refine⟨max n1 n2,?_⟩;unfold Xm;rw[ZoG (UQ X M (LI n1 n2)) h1,Zc,hq,Zc];exact Zeg (UQ X M (LD n1 n2)) _ _ _ _ _ _ _ h2
theorem QI {c:ZF} {st:St} {n:Nat} {r:Ex×St} (h:Zx (Z3 X M n) M n c st=some r):Qo X M c st=some r:=
 Zdn (Zdo X M c st) h
theorem XB {α:Type} {x:Nat→Option α} (h:∀ n,x n=none):lim x=none:=by
 cases hx:lim x with
 | none=>rfl
 | some r=>obtain⟨n,hn⟩:=ZbS hx;rw[h n] at hn;cases hn
theorem ZnN (st:St):Qo X M .skip st=some (.normal,st):=QI X M (n:=0) (by simp[Zx])
theorem ZnO (id:Nat) (st:St):Qo X M (.exit id) st=some (.exit id,st):=QI X M (n:=0) (by simp[Zx])
theorem ZpI (st:St):Qo X M .ret st=some (.ret,st):=QI X M (n:=0) (by simp[Zx])
theorem ZkS (n:Nat) (ops:List CO) (st:St) :
  Qo X M (.region n none ops) st=Zf2 st.m (st.nx+64*n) (ZbO (Zi X M) M st.nx 0 ops st.sl st.hp):=by
 cases h:ZbO (Zi X M) M st.nx 0 ops st.sl st.hp with
 | some r=>
  obtain⟨k,hk⟩:=ZnL X M _ _ _ _ _ _ h;exact QI X M (n:=k) (by simp only[Zx,hk,Zf2,Zc])
 | none=>
  refine XB fun k=>?_;simp only[Zx];cases hn:ZbO (Z3 X M k) M st.nx 0 ops st.sl st.hp with
  | none=>rfl
  | some r=>rw[ZkR (ZaK X M k) _ _ _ _ _ _ hn] at h;cases h
theorem ZnP (n:Nat) (ps:List (Nat×Nat)) (ops:List CO) (st:St) :
  Qo X M (.region n (some ps) ops) st=Zf2 st.m (st.nx+64*n) (ZjK ops ps (Wi (Zi X M) (Xp M) st.nx 0 false ops st.sl st.hp)):=by
 cases h:Wi (Zi X M) (Xp M) st.nx 0 false ops st.sl st.hp with
 | some r=>
  obtain⟨k,hk⟩:=Zmb X M _ _ _ _ _ _ _ h;cases hs:ZjK ops ps (some r) with
  | none=>
   refine XB fun k'=>?_;simp only[Zx];cases hn:Wi (Z3 X M k') (Xp M) st.nx 0 false ops st.sl st.hp with
   | none=>rfl
   | some r' =>
    have:=Zeg (ZaK X M k') _ _ _ _ _ _ _ hn;rw[h] at this;cases this;rw[hs];rfl
  | some r'=>exact QI X M (n:=k) (by simp only[Zx,hk,hs];rfl)
 | none=>
  refine XB fun k=>?_;simp only[Zx];cases hn:Wi (Z3 X M k) (Xp M) st.nx 0 false ops st.sl st.hp with
  | none=>rfl
  | some r=>rw[Zeg (ZaK X M k) _ _ _ _ _ _ _ hn] at h;cases h
theorem VX {c:ZF} {st:St} {r:Ex×St} (h:Qo X M c st=some r):∃ n,∀ m,n≤m→Zx (Z3 X M m) M m c st=some r:=by
 obtain⟨n,hn⟩:=ZbS h;exact⟨n,fun m hm=>(Zdo X M c st).le hn hm⟩
theorem ZpJ (a b:ZF) (st:St):Qo X M (.seq a b) st=andThen (Qo X M a st) (Qo X M b):=by
 cases ha:Qo X M a st with
 | none=>
  refine XB fun n=>?_;cases h:Zx (Z3 X M n) M n a st with
  | none=>simp[Zx,h,andThen]
  | some q=>rw[QI X M h] at ha;cases ha
 | some q=>
  obtain⟨e,aa⟩:=q;obtain⟨n,hn⟩:=VX X M ha;cases e with
  | normal=>
   simp only[andThen];cases hb:Qo X M b aa with
   | none=>
    refine XB fun k=>?_;cases h:Zx (Z3 X M k) M k (.seq a b) st with
    | none=>rfl
    | some q=>
     have h1:=(Zdo X M (.seq a b) st).le h (LI k n);simp only[Zx,hn _ (LD k n),andThen] at h1;rw[QI X M h1] at hb;cases hb
   | some q=>
    obtain⟨m,hm⟩:=VX X M hb;refine QI X M (n:=max n m) ?_;simp only[Zx,hn _ (LI n m),andThen,hm _ (LD n m)]
  | exit id=>exact QI X M (n:=n) (by simp only[Zx,hn _ (Kf n),andThen])
  | ret=>exact QI X M (n:=n) (by simp only[Zx,hn _ (Kf n),andThen])
theorem ZnQ (c:Opd) (a b:ZF) (st:St) :
  Qo X M (.cond c a b) st=ZcV (evO st.sl c) (Qo X M a st) (Qo X M b st):=by
 unfold ZcV;split
 ·rename_i t h;cases t
  ·simp only[Ka,Ki,Qo,Zx,h,ZcV]
  ·simp only[Kj,Qo,Zx,h,ZcV]
 ·rename_i h;refine XB fun n=>?_;simp only[Zx,ZcV]
theorem Zmc (id:Nat) (c:ZF) (st:St):Qo X M (.block id c) st=ZbR id (Qo X M c st):=by
 cases hc:Qo X M c st with
 | none=>
  refine XB fun n=>?_;cases h:Zx (Z3 X M n) M n c st with
  | none=>simp[Zx,h,ZbR]
  | some q=>rw[QI X M h] at hc;cases hc
 | some q=>
  obtain⟨n,hn⟩:=VX X M hc;cases hb:ZbR id (some q) with
  | none=>
   obtain⟨e,aa⟩:=q;cases e<;>simp[ZbR] at hb
   split at hb<;>cases hb
  | some r=>exact QI X M (n:=n) (by simp only[Zx,hn _ (Kf n),hb])
theorem ZnR (K:List Nat) (c:ZF) (st:St):Qo X M (.keep K c) st=Zhz K (Qo X M c st):=by
 cases hc:Qo X M c st with
 | none=>
  refine XB fun n=>?_;cases h:Zx (Z3 X M n) M n c st with
  | none=>simp[Zx,h,Zhz]
  | some q=>rw[QI X M h] at hc;cases hc
 | some q=>
  obtain⟨n,hn⟩:=VX X M hc;exact QI X M (n:=n) (by simp only[Zx,hn _ (Kf n),Zhz])
theorem ZnS (fl:Bool) (id:Nat) (i:Opd) (j:Nat) (c:ZF) (st:St):Qo X M (.link fl id i j c) st=bnd (ZaJ fl id i j st) fun aa=>ZhB id st.nx (Qo X M c aa):=by
 cases hl:ZaJ fl id i j st with
 | none=>
  refine XB fun n=>?_;simp only[Zx,hl];rfl
 | some st' =>
  rw[Zc];cases hc:Qo X M c st' with
  | none=>
   refine XB fun n=>?_;cases h:Zx (Z3 X M n) M n c st' with
   | none=>simp only[Zx,hl,Zc,h];rfl
   | some q=>rw[QI X M h] at hc;cases hc
  | some q=>
   obtain⟨n,hn⟩:=VX X M hc;exact QI X M (n:=n) (by simp only[Zx,hl,Zc,hn _ (Kf n)];rfl)
theorem ZnT (c:ZF) (st:St):Qo X M (.melt c) st=Qo X M c (ZkP st):=by
 cases hc:Qo X M c (ZkP st) with
 | none=>
  refine XB fun n=>?_;cases h:Zx (Z3 X M n) M n c (ZkP st) with
  | none=>simp only[Zx,h]
  | some q=>rw[QI X M h] at hc;cases hc
 | some q=>
  obtain⟨n,hn⟩:=VX X M hc;exact QI X M (n:=n) (by simp only[Zx,hn _ (Kf n)])
noncomputable def ZbT (c:ZF) (K:List Nat) (st:St):Option (Ex×St):=lim fun n=>Wj (Zx (Z3 X M n) M n c) K n st
theorem Jp (c:ZF) (K:List Nat) (st:St):ZpH fun n=>Wj (Zx (Z3 X M n) M n c) K n st:=fun n r hr=>
 Zeh (fun _ _ h=>Zgs (Ze0 X M n) (Nat.le_succ n) c _ _ h) K n (n+1) st r (Nat.le_succ n) hr
theorem ZnU (c:ZF) (st:St):Qo X M (.loop c) st=ZbT X M c (W6 st.sl) st:=by
 simp only[Qo,ZbT,Zx]
theorem Zmd {c:ZF} {K:List Nat} {st aa : St} (h:Qo X M c (Vv K st)=some (.normal,aa)) :
  ZbT X M c K st=ZbT X M c K aa:=by
 obtain⟨n,hn⟩:=VX X M h;cases hl:ZbT X M c K aa with
 | none=>
  refine XB fun k=>?_;cases hk:Wj (Zx (Z3 X M k) M k c) K k st with
  | none=>rfl
  | some q=>
   have h1:=(Jp X M c K st).le hk (show k≤max k n+1 by omega);simp only[Wj] at h1;rw[hn (max k n+1) (by omega)] at h1;simp only[] at h1;have h2:=Zeh (fun _ _ h=>h) K (max k n) (max k n+1) aa q (Nat.le_succ _) h1;rw[show ZbT X M c K aa=some q from Zdn (Jp X M c K aa) h2] at hl;cases hl
 | some q=>
  obtain⟨m,hm⟩:=ZbS hl;refine Zdn (Jp X M c K st) (n:=max n m+1) ?_;simp only[Wj,hn (max n m+1) (by omega)];exact Zeh (fun _ _ h=>Zgs (UQ X M (show m≤max n m+1 by omega)) (show m≤max n m+1 by omega) c _ _ h) K m (max n m) aa q (by omega) hm
theorem ZhE {c:ZF} {K:List Nat} {st aa : St} {e:Ex} (he:e≠.normal) (h:Qo X M c (Vv K st)=some (e,aa)) :
  ZbT X M c K st=some (e,aa):=by
 obtain⟨n,hn⟩:=VX X M h;refine Zdn (Jp X M c K st) (n:=n+1) ?_;simp only[Wj,hn (n+1) (by omega)];cases e with
 | normal=>exact absurd rfl he
 | exit id=>rfl
 | ret=>rfl
theorem ZqI {f:Nat} {as:List AV} {h:List Zj} {fn:ZK} {r:AV×List Zj} (hx:X f=some (.text fn))
  (hl:as.length≤fn.nt) (hr:JG h.length fn.res (Qo X M fn.body { sl:=Yj 0 as,hp:=Yw 0 h,nx:=h.length,m:=h.length })=some r) :
  Zi X M f as h=some r:=by
 cases hv:Qo X M fn.body { sl:=Yj 0 as,hp:=Yw 0 h,nx:=h.length,m:=h.length } with
 | none=>rw[hv] at hr;simp[JG] at hr
 | some q=>
  rw[hv] at hr;obtain⟨n,hn⟩:=VX X M hv;refine Zdn (Jo X M f as h) (n:=n+1) ?_;simp only[Z3,hx,ZeZ,ZhD,hl,Kj,hn n (Kf n)];exact hr
theorem ZtC {f:Nat} {as:List AV} {h:List Zj} {p:List AV→List Zj→Option (AV×List Zj)} {r:AV×List Zj} (hx:X f=some (.prim p)) (hp:p as h=some r) :
  Zi X M f as h=some r:=
 Zdn (Jo X M f as h) (n:=1) (by simp only[Z3,hx,ZeZ,hp])
end
section
variable (P:Program)
def YW (nt:Nat):Code→Option ZF
 | .skip=>some .skip
 | .region _ ops draw=>bnd (Qd (ZfO P nt ops.toList) ops.toList) fun os=>if draw then (if Zhy ops os then some (.region ops.toList.length (some (UL ops os)) os) else some .stuck) else some (.region ops.toList.length none os)
 | .seq a b=>bnd (YW nt a) fun a=>bnd (YW nt b) fun b=>some (.seq a b)
 | .cond c a b=>bnd (ZJ c) fun c=>bnd (YW nt a) fun a=>bnd (YW nt b) fun b=>some (.cond c a b)
 | .block id c=>bnd (YW nt c) fun c=>some (.block id c)
 | .loop c=>bnd (YW nt c) fun c=>some (.loop c)
 | .exit id=>some (.exit id)
 | .ret=>some .ret
 | _=>some .stuck
def ZaL:COp→COp
 | .buildT s _ xs=>.buildSl s xs
 | .asgT s _ x=>.assign (some s) x
 | .appT s b flat x y=>.append s b false flat x y
 | .makeT s b _ z l c=>.make s b z l c
 | c=>c
def Ze2:List CO→List CO
 | []=>[]
 | o :: r => { o with op:=ZaL o.op } :: Ze2 r
def ZnV:Option (List (Nat×Nat))→List CO→List CO
 | none,ops=>Ze2 ops
 | some _,ops=>ops
def Xn:ZF→ZF
 | .keep _ c=>Xn c
 | .seq a b=>.seq (Xn a) (Xn b)
 | .cond c a b=>.cond c (Xn a) (Xn b)
 | .block id c=>.block id (Xn c)
 | .loop c=>.loop (Xn c)
 | .region n d ops=>.region n d (ZnV d ops)
 | .link _ _ _ _ c=>Xn c
 | .melt c=>Xn c
 | .skip=>.skip
 | .exit id=>.exit id
 | .ret=>.ret
 | .stuck=>.stuck
def Ze3 (cf:ZK):ZK := { nt:=cf.nt,res:=cf.res,body:=Xn cf.body }
def cRes:ResultVar→Option Ziw
 | .tmp t=>some (.tmp t)
 | .cell a t=>bnd (J2 P t) fun g=>some (.cell a g (P.cellsOf t))
def cFun (fn:Func):Option ZK:=bnd fn.body fun c=>bnd (YW P fn.ntmps c) fun b=>bnd (Qd (cRes P) fn.results.toList) fun rs=>some { nt:=fn.ntmps,res:=rs,body:=b }
end
end Go.Abs
