/- Own text. -/
import Derived.Test.YtighjmleicikhaaAbsOps
set_option linter.unusedVariables false
set_option linter.unusedSimpArgs false
namespace Go.Abs
open Go
inductive Ex where
 | normal
 | exit (id:Nat)
 | ret
def Qu (lo hi:Nat):Hp→Bool
 | []=>true
 | (k,_) :: r=>decide (lo≤k)&&decide (k<hi)&&Qu (k+1) hi r
def Qz (gone:List Nat) (sl:Sl):Sl:=match gone with
 | []=>sl
 | _=>Zef (kill gone) sl
def Yd (gone:List Nat) (hp:Hp):Hp:=match gone with
 | []=>hp
 | _=>Zef (QJ gone) hp
def Zi (sl:Sl) (dst:Option Nat) (v:AV):Sl:=match dst with
 | some t=>ins sl t v
 | none=>sl
def Zb.on (e:Zb) (dst:Option Nat) (sl:Sl) (hp:Hp):Sl×Hp:=
 (Zi (Qz e.gone sl) dst e.eff.val,e.eff.on (Yd e.gone hp))
def Xq (base:Nat) (dst:Option Nat) (sl:Sl) (hp:Hp) (e:Option Zb):Option (Sl×Hp):=
 bnd e fun e=>if Qu base (base+64) e.eff.adds then some (e.on dst sl hp) else none
def Zar (want:Bool):AV→Option Bool
 | .d (.bool b)=>some (b==want)
 | .tup []=>some false
 | _=>none
def ZG (sl:Sl):Option (Nat×Bool)→Option Bool
 | none=>some true
 | some q=>Zar q.2 (gs sl q.1)
inductive ZC where
 | skip
 | region (n:Nat) (draw:Option (List (Nat×Nat))) (ops:List CO)
 | seq (a b:ZC)
 | cond (c:Opd) (a b:ZC)
 | block (id:Nat) (c:ZC)
 | loop (c:ZC)
 | exit (id:Nat)
 | ret
 | keep (K:List Nat) (c:ZC)
 | stuck
 | link (fl:Bool) (id:Nat) (i:Opd) (j:Nat) (c:ZC)
 | melt (c:ZC)
inductive Zip where
 | tmp (t:Nat)
 | cell (a:Nat) (g:Bool) (s:Nat)
structure ZT where
 nt:Nat
 res:List Zip
 body:ZC
def Zna (x:Option Opd):List Opd:=match x with
 | some y=>[y]
 | none=>[]
def Zr:COp→List Opd
 | .move x=>[x]
 | .assign _ x=>[x]
 | .pick c a b=>[c,a,b]
 | .alloc _ _=>[]
 | .box x=>[x]
 | .build _ ps=>ps.map fun q=>q.2.2
 | .buildSl _ xs=>xs
 | .load _ _ a=>[a]
 | .store _ _ a x=>[a,x]
 | .nilCheck x=>[x]
 | .bin _ _ x y=>[x,y]
 | .un _ x=>[x]
 | .eqA _ _ x y=>[x,y]
 | .convI _ x=>[x]
 | .convS x=>[x]
 | .fn _ cs=>cs
 | .make _ _ _ l c=>[l,c]
 | .slice _ x lo hi=>x :: (Zna lo++Zna hi)
 | .sliceS x lo hi=>x :: (Zna lo++Zna hi)
 | .slice0 x hi mx=>[x,hi,mx]
 | .shift _ x=>[x]
 | .part _ _ _ x=>[x]
 | .iaS _ x i=>[x,i]
 | .iaA _ _ x i=>[x,i]
 | .ixS x i=>[x,i]
 | .ixA _ _ _ x i=>[x,i]
 | .nth _ x=>[x]
 | .len x=>[x]
 | .lenS x=>[x]
 | .append _ _ _ _ x y=>[x,y]
 | .min x y=>[x,y]
 | .max x y=>[x,y]
 | .call f as=>f :: as
 | .slice3 _ x lo hi mx=>[x,lo,hi,mx]
 | .clear _ _ x=>[x]
 | .stuck=>[]
 | .buildT _ _ xs=>xs
 | .appT _ _ _ x y=>[x,y]
 | .asgT _ _ x=>[x]
 | .makeT _ _ _ _ l c=>[l,c]
def ZbV:COp→Bool
 | .store _ _ _ _=>true
 | _=>false
def isApp:COp→Bool
 | .append _ _ _ _ _ _=>true
 | _=>false
def Zhn (c:COp):Bool:=ZbV c || isApp c
def CO.starts (o:CO):Bool:=ZbV o.op || o.tl
def ZD (os:List CO) (i:Nat):Bool:=match os[i]? with
 | some o=>CO.starts o
 | none=>false
def WR:Opd→List Nat
 | .t n=>[n]
 | _=>[]
def Zho:Option (Nat×Bool)→List Nat
 | some q=>[q.1]
 | none=>[]
def Xx (o:CO):List Nat:=(Zr o.op).flatMap WR++Zho o.guard
def Qk:Option Nat→List Nat→Bool
 | some d,l=>!l.contains d
 | none,_=>true
def Wk:Option Nat→Option Nat→Bool
 | some d,some e=>d != e
 | _,_=>true
def QW (a b:CO):Bool:=Qk a.dst (Xx b)&&Wk a.dst b.dst&&Qk b.dst (Xx a)
def Xz:Opd→Bool
 | .v a=>(Zm a).isEmpty&&!Ziw a
 | _=>true
def Zku (os:List CO) (j i:Nat):Bool:=match os[j]?,os[i]? with
 | some a,some b=>QW a b
 | _,_=>false
def Yy:COp→Bool
 | .load _ _ _=>false
 | .store _ _ _ _=>false
 | .slice _ _ _ _=>false
 | .slice0 _ _ _=>false
 | .iaS _ _ _=>false
 | .len _=>false
 | .append _ _ _ _ _ _=>false
 | .buildSl _ _=>false
 | .buildT _ _ _=>false
 | .appT _ _ _ _ _=>false
 | .asgT _ _ _=>false
 | .makeT _ _ _ _ _ _=>false
 | .call _ _=>false
 | .slice3 _ _ _ _ _=>false
 | .clear _ _ _=>false
 | _=>true
def VU:COp→Bool
 | .load _ _ _=>true
 | .slice _ _ _ _=>true
 | .slice0 _ _ _=>true
 | .iaS _ _ _=>true
 | .len _=>true
 | _=>false
def Znb:COp→Bool
 | .clear _ _ _=>false
 | .store _ _ _ _=>false
 | .append _ _ _ _ _ _=>false
 | .buildSl _ _=>false
 | .buildT _ _ _=>false
 | .appT _ _ _ _ _=>false
 | .asgT _ _ _=>false
 | .makeT _ _ _ _ _ _=>false
 | .call _ _=>false
 | _=>true
def Vs (os:List CO) (k:Nat):Option Nat:=match os[k]? with
 | some o=>o.dst
 | none=>none
def Zkv (os:List CO) (k:Nat):List Nat:=match os[k]? with
 | some o=>Xx o
 | none=>[]
def WS (os:List CO) (k:Nat):Bool:=(List.range os.length).all fun q=>decide (q<k) || Qk (Vs os q) (Zkv os k)
def XD:COp→Bool
 | .move _=>true
 | _=>false
def Zas:COp→Bool
 | .append _ _ _ _ _ _=>true
 | .buildSl _ _=>true
 | _=>false
def Wv:COp→Bool
 | .call (.f _) _=>true
 | _=>false
def Zez:COp→List Opd
 | .call _ as=>as
 | _=>[]
def Znc:COp→Bool
 | .alloc _ _=>false
 | .box _=>false
 | .assign _ _=>false
 | .make _ _ _ _ _=>false
 | .fn _ _=>false
 | _=>true
def Zi3:COp→Bool
 | .buildSl _ _=>true
 | _=>false
def Jt:AV→Bool
 | .d _=>true
 | .nil=>true
 | .nilp=>true
 | .nili=>true
 | _=>false
def XS:List AV→Bool
 | []=>true
 | c :: r=>Jt c&&XS r
def ZfJ:COp→Bool
 | .alloc _ cs=>XS cs
 | _=>false
def Zhp (c:COp):Bool:=VU c || Zi3 c || (Yy c&&Znc c) || ZfJ c
def ZdL:COp→Bool
 | .alloc _ cs=>XS cs
 | .buildSl _ _=>true
 | .load _ _ _=>true
 | .nilCheck _=>true
 | .bin _ _ _ _=>true
 | .un _ _=>true
 | .convI _ _=>true
 | .shift _ _=>true
 | .iaS _ _ _=>true
 | .slice _ _ _ _=>true
 | .len _=>true
 | .sliceS _ _ _=>true
 | .lenS _=>true
 | _=>false
def Zr4:Option Nat→Bool
 | some _=>true
 | none=>false
def Zfy (os:List CO) (k:Nat):Bool:=Zr4 (Vs os k)&&(List.range os.length).all fun q=>q==k || Wk (Vs os q) (Vs os k)
def ZdM (os:List CO) (j i:Nat):Bool:=WS os j&&WS os i
def Zqx (os:List CO) (j i:Nat) (a b:COp):Bool:=
 Znb b || (Zhn b&&(Yy a || (!XD a&&VU a&&ZdM os j i))) || (XD a&&(Zas b || Zfy os j)) || (!XD a&&Wv b&&Zhp a&&ZdM os j i&&Zfy os j)
def Zqy (os:List CO) (j i:Nat) (a b:COp):Bool:=(XD b&&Zfy os i) || (!XD b&&Wv a&&ZdL b&&ZdM os j i&&Zfy os i)
def Zkw (os:List CO) (j i:Nat):Bool:=match os[j]?,os[i]? with
 | some a,some b=>if ZD os j then !ZD os i&&Zqy os j i a.op b.op else !ZD os i || Zqx os j i a.op b.op
 | _,_=>false
def Zat (os:List CO) (j i:Nat):Option (Nat×Nat):=match os[j]?,os[i]? with
 | some a,some b=>if ZD os j then (if XD b.op || Wv a.op then some (i,j) else none) else
   if ZD os i&&(if Zhn b.op then !(Yy a.op) else if XD a.op then !(Zas b.op) else Wv b.op) then some (j,i) else none
 | _,_=>none
def optP:Option (Nat×Nat)→List (Nat×Nat)
 | some p=>[p]
 | none=>[]
def UL (ops:Array Oper) (os:List CO):List (Nat×Nat):=
 (List.range ops.size).flatMap fun i=>(List.range i).flatMap fun j=>if ZcW ops 6 i j then [] else optP (Zat os j i)
def Zhq (ops:Array Oper) (os:List CO):Bool:=
 (List.range ops.size).all (fun i=>(Ya ops i).all fun e=>decide (e<i)) &&
 (List.range ops.size).all (fun i=>(List.range i).all fun j=>(Ya ops i).contains j || Zku os j i) &&
 (List.range ops.size).all (fun i=>(List.range i).all fun j=>ZcW ops 6 i j || Zkw os j i) &&
 os.all (fun o=>(Zr o.op).all Xz)
def UM (id:Nat):AV→Bool
 | .d _=>true
 | .pim _=>true
 | .nil=>true
 | .ptr k _=>k != id
 | .prow k _ _ _=>k != id
 | .own k=>k != id
 | .ownv k _ _=>k != id
 | .nilp=>true
 | .nili=>true
 | .tup []=>true
 | _=>false
def okC:AV→Bool
 | .d _=>true
 | .pim _=>true
 | .nil=>true
 | .ptr _ _=>true
 | .prow _ _ _ _=>true
 | .own _=>true
 | .ownv _ _ _=>true
 | .nilp=>true
 | .nili=>true
 | _=>false
def Zkx:List AV→Bool
 | []=>true
 | v :: r=>okC v&&Zkx r
def okV:AV→Bool
 | .agg cs=>Zkx cs
 | .tup []=>true
 | v=>okC v
def okL (sl:Sl):List Opd→Bool
 | []=>true
 | x :: r=>okV (evO sl x)&&okL sl r
def okD (sl:Sl):Option Nat→Bool
 | some t=>okV (gs sl t)
 | none=>true
def XT:AV→Option Nat
 | .ptr k _=>some k
 | .prow k _ _ _=>some k
 | _=>none
def Qq (sl:Sl) (id:Nat):List Opd→Bool
 | []=>true
 | x :: r=>UM id (evO sl x)&&Qq sl id r
def Zau (sl:Sl) (a:COp):Option Nat→Bool
 | some id=>Qq sl id (Zr a)
 | none=>false
def UN (sl:Sl) (xs:List Opd):AV→Bool
 | .ptr k _=>Qq sl k xs
 | .prow _ _ _ _=>false
 | _=>true
def Zbl (sl:Sl) (xs:List Opd):List Opd→Bool
 | []=>true
 | y :: r=>UN sl xs (evO sl y)&&Zbl sl xs r
def VV (sl:Sl) (a:COp):AV→Bool
 | .nil=>true
 | .tup []=>true
 | .own k=>Qq sl k (Zr a)
 | .ownv k _ _=>Qq sl k (Zr a)
 | _=>false
def seenSrc (sl:Sl) (a:COp):AV→Bool
 | .own k=>Qq sl k (Zr a)
 | v=>okV v
def Xb (sl:Sl) (xs:List Opd):List Nat→Bool
 | []=>true
 | k :: r=>Qq sl k xs&&Xb sl xs r
def X4 (sl:Sl) (a:COp):AV→AV→Bool
 | .prow _ _ _ _,.d _=>true
 | .prow _ _ _ _,v=>okV v&&Xb sl (Zr a) (Zm v)
 | _,_=>true
def Vj (sl:Sl) (d:Option Nat):COp→COp→Bool
 | .move _,_=>okD sl d
 | a,.store _ _ x y=>Zau sl a (XT (evO sl x))&&X4 sl a (evO sl x) (evO sl y)
 | a,.append _ _ _ flat x y=>VV sl a (evO sl x)&&(flat || seenSrc sl a (evO sl y))
 | a,.call _ as=>okL sl (Zr a)&&(okD sl d&&(okL sl as&&Zbl sl (Zr a) as))
 | _,_=>false
def ZdN (os:List CO) (sl:Sl) (p:Nat×Nat):Bool:=match os[p.1]?,os[p.2]? with
 | some a,some b=>Vj sl a.dst a.op b.op
 | _,_=>false
def Vd (os:List CO) (sl:Sl):List (Nat×Nat)→Bool
 | []=>true
 | p :: r=>ZdN os sl p&&Vd os sl r
def Xv (M:Zg):Zg:=fun f i=>i != 99&&M f i
section
variable (C:Orc) (M:Zg)
noncomputable def Zbm (nx:Nat):Nat→List CO→Sl→Hp→Option (Sl×Hp)
 | _,[],sl,hp=>some (sl,hp)
 | i,o :: rest,sl,hp=>bnd (ZG sl o.guard) fun b=>
   if b then bnd (Xq (nx+64*i) o.dst sl hp (vop C M sl hp (nx+64*i) o.op)) fun r=>Zbm nx (i+1) rest r.1 r.2
   else Zbm nx (i+1) rest (Zi sl o.dst (.tup [])) hp
def Zav (c:Zb):List Nat→Hp→List Nat→List Nat→Option Zb
 | [],[],[],[]=>some c
 | _,_,_,_=>none
def UO (e:Option Zb):Option Zb:=bnd e fun c=>Zav c c.gone c.eff.sets c.eff.dels c.eff.frz
noncomputable def Yf (nx i:Nat) (tail:Bool) (o:COp) (sl:Sl) (hp:Hp):Option Zb:=
 if tail then vop C M sl hp (nx+64*i) o else UO (vop C M sl hp (nx+64*i) o)
noncomputable def V3 (nx:Nat):Nat→Bool→List CO→Sl→Hp→Option (Sl×Hp)
 | _,_,[],sl,hp=>some (sl,hp)
 | i,t,o :: rest,sl,hp=>bnd (ZG sl o.guard) fun b=>
   if b then bnd (Xq (nx+64*i) o.dst sl hp (Yf C M nx i (CO.starts o) o.op sl hp)) fun r=>V3 nx (i+1) t rest r.1 r.2
   else V3 nx (i+1) t rest (Zi sl o.dst (.tup [])) hp
def WT {α:Type}:List (Nat×α)→List Nat
 | []=>[]
 | (k,_) :: r=>k :: WT r
def only {α:Type} (K:List Nat):List (Nat×α)→List (Nat×α)
 | []=>[]
 | (k,v) :: r=>if K.contains k then (k,v) :: only K r else only K r
def Yz:Nat→List Zh→Hp
 | _,[]=>[]
 | k,o :: r=>Yz (k+1) r++[(k,o)]
def Zi4:Sl→List Nat
 | []=>[]
 | (_,v) :: r=>Zm v++Zi4 r
def Zky:Option Zh→Bool
 | some _=>true
 | none=>false
def Ju (hp:Hp) (ids:List Nat) (i:Nat):Bool:=ids.contains i&&Zky (lkp hp i)
def Zbn (hp:Hp) (ids:List Nat):List Nat→List Nat
 | []=>[]
 | i :: r=>if Ju hp ids i then Zbn hp ids r else i :: Zbn hp ids r
def JO (hp:Hp) (ids:List Nat) (v:AV):AV:=ren (X9 ids) (kill (Zbn hp ids (Zm v)) v)
def Zbo (hp:Hp) (ids:List Nat) (o:Zh):Zh:=Zdf (X9 ids) (QJ (Zbn hp ids (VH o)) o)
def Znd:Option Zh→List Nat
 | some o=>VH o
 | none=>[]
def YK (hp:Hp):List Nat→List Nat
 | []=>[]
 | id :: r=>Znd (lkp hp id)++YK hp r
def Vt (K:List Nat) (st:St):St:=
 let sl:=only K st.sl
 let ids:=Qw st.hp (Q3 st.hp) (Zi4 sl++YK st.hp (List.range st.m)) (List.range st.m)
 { sl:=Zef (JO st.hp ids) sl,hp:=Yz 0 ((Jo st.hp ids).map (Zbo st.hp ids)),nx:=ids.length,m:=st.m }
def V4 (f:St→Option (Ex×St)) (K:List Nat):Nat→St→Option (Ex×St)
 | 0,_=>none
 | n+1,st=>match f (Vt K st) with
  | some (.normal,st')=>V4 f K n st'
  | r=>r
def andThen (r:Option (Ex×St)) (k:St→Option (Ex×St)):Option (Ex×St):=match r with
 | some (.normal,st)=>k st
 | r=>r
def Zcr (v:AV) (a b:Option (Ex×St)):Option (Ex×St):=match v with
 | .d (.bool t)=>if t then a else b
 | _=>none
def Zbp (id:Nat) (r:Option (Ex×St)):Option (Ex×St):=match r with
 | some (.exit j,st)=>if j=id then some (.normal,st) else some (.exit j,st)
 | r=>r
def Zi5 (ops:List CO) (ps:List (Nat×Nat)) (r:Option (Sl×Hp)):Option (Sl×Hp):=bnd r fun r=>if Vd ops r.1 ps then some r else none
def Zfz (m nx:Nat) (r:Option (Sl×Hp)):Option (Ex×St):=bnd r fun r=>some (.normal,{ sl:=r.1,hp:=r.2,nx:=nx,m:=m })
def Zhr (K:List Nat) (r:Option (Ex×St)):Option (Ex×St):=match r with
 | some q=>some (q.1,{ q.2 with sl:=only K q.2.sl })
 | none=>none
def Zn7 (fl:Bool) (k:Nat) (ys:List D):Option Zh:=if fl then (if W1 D.flat ys then some (.row k ys true false) else none) else some (.tree k k ys none)
def ZdO (xs:List D) (n j:Nat) (y:D):Option (List D):=bnd xs[n]? fun x=>some (xs.set n (Xn x j [y]))
def Zn8 (fl:Bool) (nx n j:Nat):Option Zh→Option (Zh×Zh)
 | some (.tree s k xs none)=>bnd (VS xs n j) fun ys=>bnd (Zn7 fl k ys) fun o=>bnd (ZdO xs n j (.sl [])) fun xs'=>some (.tree s k xs' (some (some nx,n,j)),o)
 | _=>none
def Zaw (fl:Bool) (id:Nat) (i:Opd) (j:Nat) (st:St):Option St:=bnd (idx (evO st.sl i)) fun n=>if 0≤n then bnd (Zn8 fl st.nx n.toNat j (lkp st.hp id)) fun q=>some { st with hp:=ins (ins st.hp id q.1) st.nx q.2,nx:=st.nx+64 } else none
def Zhs (k:Nat):Option Zh→Option (List D)
 | some (.row k' ys true false)=>if k'=k∧W1 D.flat ys then some ys else none
 | some (.tree k' n ys none)=>if k'=k∧n=k then some ys else none
 | _=>none
def Zfh (hp:Hp) (id nm:Nat):Option Zh→Option Hp
 | some (.tree s k xs (some (some nm',n,j)))=>if nm'=nm then bnd (Zhs k (lkp hp nm)) fun ys=>bnd (ZdO xs n j (.sl ys)) fun xs'=>some (ins (del hp nm) id (.tree s k xs' none)) else none
 | _=>none
def Zpc (hp:Hp):Option Hp→Hp
 | some h=>h
 | none=>hp
def Zht (id nm:Nat) (r:Option (Ex×St)):Option (Ex×St):=match r with
 | some q=>some (q.1,{ q.2 with hp:=Zpc q.2.hp (Zfh q.2.hp id nm (lkp q.2.hp id)) })
 | none=>none
def Zkz (st:St):St := { st with hp:=Zef ZdD st.hp }
noncomputable def Zu (N:Nat):ZC→St→Option (Ex×St)
 | .skip,st=>some (.normal,st)
 | .region n none ops,st=>Zfz st.m (st.nx+64*n) (Zbm C M st.nx 0 ops st.sl st.hp)
 | .region n (some ps) ops,st=>Zfz st.m (st.nx+64*n) (Zi5 ops ps (V3 C (Xv M) st.nx 0 false ops st.sl st.hp))
 | .seq a b,st=>andThen (Zu N a st) (Zu N b)
 | .cond c a b,st=>Zcr (evO st.sl c) (Zu N a st) (Zu N b st)
 | .block id c,st=>Zbp id (Zu N c st)
 | .loop c,st=>V4 (Zu N c) (WT st.sl) N st
 | .exit id,st=>some (.exit id,st)
 | .ret,st=>some (.ret,st)
 | .keep K c,st=>Zhr K (Zu N c st)
 | .stuck,_=>none
 | .link fl id i j c,st=>bnd (Zaw fl id i j st) fun st1=>Zht id st.nx (Zu N c st1)
 | .melt c,st=>Zu N c (Zkz st)
def Zhu (st:St):Zip→Option AV
 | .tmp t=>some (gs st.sl t)
 | .cell a g s=>Y7 st.hp g s (gs st.sl a)
def YA (m:Nat) (hp:Hp) (v:AV):AV×List Zh:=
 let ids:=Qw hp (Q3 hp) (Zm v++YK hp (List.range m)) (List.range m)
 (JO hp ids v,(Jo hp ids).map (Zbo hp ids))
def Zn9:AV→Bool
 | .tup _=>true
 | _=>false
def Zc1:List AV→Bool
 | []=>false
 | v :: r=>Zn9 v || Zc1 r
def UP:List AV→AV
 | [v]=>v
 | vs=>if Zc1 vs then .junk else .tup vs
def Ye:Nat→List AV→Sl
 | _,[]=>[]
 | k,v :: r=>Ye (k+1) r++[(k,v)]
def Jv (m:Nat) (rs:List Zip) (r:Option (Ex×St)):Option (AV×List Zh):=match r with
 | some (.normal,st)=>bnd (Z6 (Zhu st) rs) fun vs=>some (YA m st.hp (UP vs))
 | some (.ret,st)=>bnd (Z6 (Zhu st) rs) fun vs=>some (YA m st.hp (UP vs))
 | _=>none
noncomputable def Zhv (N:Nat) (fn:ZT) (as:List AV) (h:List Zh):Option (AV×List Zh):=
 if as.length≤fn.nt then Jv h.length fn.res (Zu C M N fn.body { sl:=Ye 0 as,hp:=Yz 0 h,nx:=h.length,m:=h.length }) else none
end
inductive Fn where
 | text (f:ZT)
 | prim (p:List AV→List Zh→Option (AV×List Zh))
abbrev Fns:=Nat→Option Fn
noncomputable def ZeA (C:Orc) (M:Zg) (N:Nat) (as:List AV) (h:List Zh):Option Fn→Option (AV×List Zh)
 | some (.text f)=>Zhv C M N f as h
 | some (.prim p)=>p as h
 | none=>none
noncomputable def ZY (X:Fns) (M:Zg):Nat→Orc
 | 0,_,_,_=>none
 | n+1,f,as,h=>ZeA (ZY X M n) M n as h (X f)
open Classical in
noncomputable def lim {α:Type} (x:Nat→Option α):Option α:=if h:∃ r,∃ n,x n=some r then some h.choose else none
def Zpd {α:Type} (x:Nat→Option α):Prop:=∀ n r,x n=some r→x (n+1)=some r
theorem Zpd.le {α:Type} {x:Nat→Option α} (h:Zpd x) {n m:Nat} {r:α} (hr:x n=some r) (aa:n≤m):x m=some r:=by
 induction aa with
 | refl=>exact hr
 | step _ ih=>exact h _ _ ih
theorem Zc2 {α:Type} {x:Nat→Option α} (h:Zpd x) {n:Nat} {r:α} (hr:x n=some r):lim x=some r:=by
 have he:∃ r,∃ n,x n=some r:=⟨r,n,hr⟩
 unfold lim;rw[dif_pos he];obtain⟨m,hm⟩:=he.choose_spec;have h1:=h.le hm (LM m n);have h2:=h.le hr (LI m n);rw[h1] at h2;exact h2
theorem Zbq {α:Type} {x:Nat→Option α} {r:α} (hr:lim x=some r):∃ n,x n=some r:=by
 unfold lim at hr;split at hr
 ·rename_i h;obtain⟨n,hn⟩:=h.choose_spec;exact⟨n,by rw[hn];exact hr⟩
 ·cases hr
def Orc.le (C C' : Orc):Prop:=∀ f as h r,C f as h=some r→C' f as h=some r
section
variable {M:Zg} {C C' : Orc}
theorem WU {α β:Type} {x x' : Option α} {f f' : α→Option β} {r:β} (hx:∀ a,x=some a→x'=some a) (hf:∀ a,f a=some r→f' a=some r) (h:bnd x f=some r):bnd x' f'=some r:=by
 obtain⟨a,h1,h2⟩:=Za h;rw[hx a h1];exact hf a h2
theorem Zqz (h:C.le C') {m:Nat→Bool} {hp:Hp} {base f:Nat} {aa:List AV} {r:Zb}
  (hr:U5 C m hp base f aa=some r):U5 C' m hp base f aa=some r:=by
 unfold U5 at hr ⊢;refine WU (fun _ h=>h) (fun as hr=>?_) hr;unfold Zaj at hr ⊢;by_cases hc:(as.flatMap Zm).all (Qw hp (Q3 hp) (as.flatMap Zm) []).contains∧¬(Xu aa as).any (Qw hp (Q3 hp) (as.flatMap Zm) []).contains∧W7 hp (as.flatMap V2) (Qw hp (Q3 hp) (as.flatMap Zm) [])=true
 ·rw[Ku hc] at hr ⊢;exact WU (fun q hq=>h _ _ _ _ hq) (fun _ h=>h) hr
 ·rw[Kp hc] at hr;cases hr
theorem ZkA (h:C.le C') {sl:Sl} {hp:Hp} {base:Nat} {o:COp} {r:Zb} (hr:vop C M sl hp base o=some r) :
  vop C' M sl hp base o=some r:=by
 cases o with
 | call f as=>
  simp only[vop] at hr ⊢;cases hg:evO sl f<;>simp only[hg,Jr] at hr ⊢ <;> first | exact Zqz h hr | exact hr
 | _=>exact hr
theorem ZkB (h:C.le C') (nx:Nat):∀ (l:List CO) (i:Nat) (sl:Sl) (hp:Hp) (r:Sl×Hp),
  Zbm C M nx i l sl hp=some r→Zbm C' M nx i l sl hp=some r:=by
 intro l
 induction l with
 | nil=>intro i sl hp r hr;exact hr
 | cons o rest ih=>
  intro i sl hp r hr;simp only[Zbm] at hr ⊢;refine WU (fun _ h=>h) (fun b hr=>?_) hr;cases b
  ·simp only[Ka,Kg] at hr ⊢;exact ih _ _ _ _ hr
  ·simp only[Kh] at hr ⊢;refine WU (fun q hq=>?_) (fun q hq=>ih _ _ _ _ hq) hr;unfold Xq at hq ⊢;exact WU (fun e he=>ZkA h he) (fun _ h=>h) hq
theorem Zoa (h:C.le C') {nx i:Nat} {t:Bool} {o:COp} {sl:Sl} {hp:Hp} {e:Zb} (he:Yf C M nx i t o sl hp=some e) :
  Yf C' M nx i t o sl hp=some e:=by
 unfold Yf at he ⊢;cases t
 ·simp only[Ka,Kg,UO] at he ⊢;exact WU (fun _ hv=>ZkA h hv) (fun _ h=>h) he
 ·simp only[Kh] at he ⊢;exact ZkA h he
theorem ZdP (h:C.le C') (nx:Nat):∀ (l:List CO) (i:Nat) (t:Bool) (sl:Sl) (hp:Hp) (r:Sl×Hp),
  V3 C M nx i t l sl hp=some r→V3 C' M nx i t l sl hp=some r:=by
 intro l
 induction l with
 | nil=>intro i t sl hp r hr;exact hr
 | cons o rest ih=>
  intro i t sl hp r hr;simp only[V3] at hr ⊢;refine WU (fun _ h=>h) (fun b hr=>?_) hr;cases b
  ·simp only[Ka,Kg] at hr ⊢;exact ih _ _ _ _ _ hr
  ·simp only[Kh] at hr ⊢;refine WU (fun q hq=>?_) (fun q hq=>ih _ _ _ _ _ hq) hr;unfold Xq at hq ⊢;exact WU (fun e he=>Zoa h he) (fun _ h=>h) hq
theorem ZdQ {f g:St→Option (Ex×St)} (h:∀ st r,f st=some r→g st=some r) (K:List Nat) :
  ∀ (n m:Nat) (st:St) (r:Ex×St),n≤m→V4 f K n st=some r→V4 g K m st=some r:=by
 intro n
 induction n with
 | zero=>intro m st r _ hr;simp[V4] at hr
 | succ n ih=>
  intro m st r hm hr;cases m with
  | zero=>omega
  | succ m=>
   simp only[V4] at hr ⊢;cases hf:f (Vt K st) with
   | none=>simp[hf] at hr
   | some q=>
    rw[hf] at hr;rw[h _ _ hf];obtain⟨e,aa⟩:=q;cases e with
    | normal=>exact ih m aa r (by omega) hr
    | exit id=>exact hr
    | ret=>exact hr
theorem ZfK (h:C.le C') {N N' : Nat} (hN:N≤N'):∀ (c:ZC) (st:St) (r:Ex×St),
  Zu C M N c st=some r→Zu C' M N' c st=some r:=by
 intro c
 induction c with
 | skip=>intro st r hr;simpa [Zu] using hr
 | region n draw ops=>
  intro st r hr;cases draw
  ·simp only[Zu,Zfz] at hr ⊢;exact WU (fun q hq=>ZkB h _ _ _ _ _ _ hq) (fun _ h=>h) hr
  ·simp only[Zu,Zfz,Zi5] at hr ⊢;exact WU (fun q hq=>WU (fun q hq=>ZdP h _ _ _ _ _ _ _ hq) (fun _ h=>h) hq) (fun _ h=>h) hr
 | seq a b iha ihb=>
  intro st r hr;simp only[Zu] at hr ⊢;cases ha:Zu C M N a st with
  | none=>simp[ha,andThen] at hr
  | some q=>
   rw[ha] at hr;rw[iha _ _ ha];obtain⟨e,aa⟩:=q;cases e with
   | normal=>exact ihb _ _ hr
   | exit id=>exact hr
   | ret=>exact hr
 | cond c a b iha ihb=>
  intro st r hr;simp only[Zu,Zcr] at hr ⊢;split at hr
  ·rename_i t ht;cases t
   ·simp only[Ka,Kg] at hr ⊢;exact ihb _ _ hr
   ·simp only[Kh] at hr ⊢;exact iha _ _ hr
  ·cases hr
 | block id c ih=>
  intro st r hr;simp only[Zu] at hr ⊢;cases hc:Zu C M N c st with
  | none=>simp[hc,Zbp] at hr
  | some q=>rw[hc] at hr;rw[ih _ _ hc];exact hr
 | loop c ih=>
  intro st r hr;simp only[Zu] at hr ⊢;exact ZdQ ih _ _ _ _ _ hN hr
 | exit id=>intro st r hr;simpa [Zu] using hr
 | ret=>intro st r hr;simpa [Zu] using hr
 | keep K c ih=>
  intro st r hr;simp only[Zu] at hr ⊢;cases hc:Zu C M N c st with
  | none=>simp[hc,Zhr] at hr
  | some q=>rw[hc] at hr;rw[ih _ _ hc];exact hr
 | stuck=>intro st r hr;simp[Zu] at hr
 | link fl id i j c ih=>
  intro st r hr;simp only[Zu] at hr ⊢;obtain⟨aa,h1,h2⟩:=Za hr;rw[h1,Zc];cases hc:Zu C M N c aa with
  | none=>simp[hc,Zht] at h2
  | some q=>rw[hc] at h2;rw[ih _ _ hc];exact h2
 | melt c ih=>
  intro st r hr;simp only[Zu] at hr ⊢;exact ih _ r hr
theorem ZqA (h:C.le C') {N N' : Nat} (hN:N≤N') {f:ZT} {as:List AV} {hh:List Zh} {r:AV×List Zh}
  (hr:Zhv C M N f as hh=some r):Zhv C' M N' f as hh=some r:=by
 unfold Zhv at hr ⊢;by_cases hl:as.length≤f.nt
 ·rw[Ku hl] at hr ⊢;cases hv:Zu C M N f.body { sl:=Ye 0 as,hp:=Yz 0 hh,nx:=hh.length,m:=hh.length } with
  | none=>simp[hv,Jv] at hr
  | some q=>rw[hv] at hr;rw[ZfK h hN _ _ _ hv];exact hr
 ·rw[Kp hl] at hr;cases hr
end
section
variable (X:Fns) (M:Zg)
theorem ZeB:∀ n,(ZY X M n).le (ZY X M (n+1)):=by
 intro n
 induction n with
 | zero=>intro f as h r hr;simp[ZY] at hr
 | succ n ih=>
  intro f as h r hr;rw[ZY] at hr ⊢;cases hf:X f with
  | none=>rw[hf] at hr;cases hr
  | some g=>
   rw[hf] at hr;cases g with
   | text g=>exact ZqA ih (Nat.le_succ n) hr
   | prim p=>exact hr
noncomputable def Zj (f:Nat) (as:List AV) (h:List Zh):Option (AV×List Zh):=lim fun n=>ZY X M n f as h
noncomputable def Qj (c:ZC) (st:St):Option (Ex×St):=lim fun n=>Zu (ZY X M n) M n c st
theorem U8 (f:Nat) (as:List AV) (h:List Zh):Zpd fun n=>ZY X M n f as h:=fun n r hr=>ZeB X M n f as h r hr
theorem Zax (n:Nat):(ZY X M n).le (Zj X M):=fun f as h _ hr=>Zc2 (U8 X M f as h) hr
theorem Zc3 (c:ZC) (st:St):Zpd fun n=>Zu (ZY X M n) M n c st:=fun n r hr=>ZfK (ZeB X M n) (Nat.le_succ n) c st r hr
theorem UQ {n m:Nat} (h:n≤m):(ZY X M n).le (ZY X M m):=fun f as hh _ hr=>(U8 X M f as hh).le hr h
theorem Zl0 {m:Nat→Bool} {hp:Hp} {base f:Nat} {aa:List AV} {r:Zb}
  (hr:U5 (Zj X M) m hp base f aa=some r):∃ n,U5 (ZY X M n) m hp base f aa=some r:=by
 unfold U5 at hr ⊢;obtain⟨as,ab,hr⟩:=Za hr;simp only[ab,Zc];unfold Zaj at hr ⊢;by_cases hc:(as.flatMap Zm).all (Qw hp (Q3 hp) (as.flatMap Zm) []).contains∧¬(Xu aa as).any (Qw hp (Q3 hp) (as.flatMap Zm) []).contains∧W7 hp (as.flatMap V2) (Qw hp (Q3 hp) (as.flatMap Zm) [])=true
 ·rw[Ku hc] at hr;obtain⟨q,hq,hr⟩:=Za hr;obtain⟨n,hn⟩:=Zbq hq;refine⟨n,?_⟩;rw[Ku hc,hn];exact hr
 ·rw[Kp hc] at hr;cases hr
theorem ZeC {M' : Zg} {sl:Sl} {hp:Hp} {base:Nat} {o:COp} {r:Zb} (hr:vop (Zj X M) M' sl hp base o=some r) :
  ∃ n,vop (ZY X M n) M' sl hp base o=some r:=by
 cases o with
 | call f as=>
  simp only[vop] at hr ⊢;cases hg:evO sl f<;>simp only[hg,Jr] at hr ⊢ <;> first | exact Zl0 X M hr | exact⟨0,hr⟩
 | _=>exact⟨0,hr⟩
theorem Zne (nx:Nat):∀ (l:List CO) (i:Nat) (sl:Sl) (hp:Hp) (r:Sl×Hp),
  Zbm (Zj X M) M nx i l sl hp=some r→∃ n,Zbm (ZY X M n) M nx i l sl hp=some r:=by
 intro l
 induction l with
 | nil=>intro i sl hp r hr;exact⟨0,hr⟩
 | cons o rest ih=>
  intro i sl hp r hr;simp only[Zbm] at hr ⊢;obtain⟨b,hb,hr⟩:=Za hr;simp only[hb,Zc];cases b
  ·simp only[Ka,Kg] at hr ⊢;exact ih _ _ _ _ hr
  ·simp only[Kh] at hr ⊢;obtain⟨q,hq,hr⟩:=Za hr;unfold Xq at hq;obtain⟨e,he,hq⟩:=Za hq;obtain⟨n1,h1⟩:=ZeC X M he;obtain⟨n2,h2⟩:=ih _ _ _ _ hr;refine⟨max n1 n2,?_⟩;unfold Xq;rw[ZkA (UQ X M (LM n1 n2)) h1,Zc,hq,Zc];exact ZkB (UQ X M (LI n1 n2)) _ _ _ _ _ _ h2
theorem Znf {M' : Zg} {nx i:Nat} {t:Bool} {o:COp} {sl:Sl} {hp:Hp} {e:Zb} (he:Yf (Zj X M) M' nx i t o sl hp=some e) :
  ∃ n,Yf (ZY X M n) M' nx i t o sl hp=some e:=by
 unfold Yf at he ⊢;cases t
 ·simp only[Ka,Kg,UO] at he ⊢;obtain⟨e',aa,h2⟩:=Za he;obtain⟨n,hn⟩:=ZeC X M aa;exact⟨n,by rw[hn];exact h2⟩
 ·simp only[Kh] at he ⊢;exact ZeC X M he
theorem Zl1 {M' : Zg} (nx:Nat):∀ (l:List CO) (i:Nat) (t:Bool) (sl:Sl) (hp:Hp) (r:Sl×Hp),
  V3 (Zj X M) M' nx i t l sl hp=some r→∃ n,V3 (ZY X M n) M' nx i t l sl hp=some r:=by
 intro l
 induction l with
 | nil=>intro i t sl hp r hr;exact⟨0,hr⟩
 | cons o rest ih=>
  intro i t sl hp r hr;simp only[V3] at hr ⊢;obtain⟨b,hb,hr⟩:=Za hr;simp only[hb,Zc];cases b
  ·simp only[Ka,Kg] at hr ⊢;exact ih _ _ _ _ _ hr
  ·simp only[Kh] at hr ⊢;obtain⟨q,hq,hr⟩:=Za hr;unfold Xq at hq;obtain⟨e,he,hq⟩:=Za hq;obtain⟨n1,h1⟩:=Znf X M he;obtain⟨n2,h2⟩:=ih _ _ _ _ _ hr;refine⟨max n1 n2,?_⟩;unfold Xq;rw[Zoa (UQ X M (LM n1 n2)) h1,Zc,hq,Zc];exact ZdP (UQ X M (LI n1 n2)) _ _ _ _ _ _ _ h2
theorem QK {c:ZC} {st:St} {n:Nat} {r:Ex×St} (h:Zu (ZY X M n) M n c st=some r):Qj X M c st=some r:=
 Zc2 (Zc3 X M c st) h
theorem XE {α:Type} {x:Nat→Option α} (h:∀ n,x n=none):lim x=none:=by
 cases hx:lim x with
 | none=>rfl
 | some r=>obtain⟨n,hn⟩:=Zbq hx;rw[h n] at hn;cases hn
theorem Zng (st:St):Qj X M .skip st=some (.normal,st):=QK X M (n:=0) (by simp[Zu])
theorem Znh (id:Nat) (st:St):Qj X M (.exit id) st=some (.exit id,st):=QK X M (n:=0) (by simp[Zu])
theorem Zpe (st:St):Qj X M .ret st=some (.ret,st):=QK X M (n:=0) (by simp[Zu])
theorem ZkC (n:Nat) (ops:List CO) (st:St) :
  Qj X M (.region n none ops) st=Zfz st.m (st.nx+64*n) (Zbm (Zj X M) M st.nx 0 ops st.sl st.hp):=by
 cases h:Zbm (Zj X M) M st.nx 0 ops st.sl st.hp with
 | some r=>
  obtain⟨k,hk⟩:=Zne X M _ _ _ _ _ _ h;exact QK X M (n:=k) (by simp only[Zu,hk,Zfz,Zc])
 | none=>
  refine XE fun k=>?_;simp only[Zu];cases hn:Zbm (ZY X M k) M st.nx 0 ops st.sl st.hp with
  | none=>rfl
  | some r=>rw[ZkB (Zax X M k) _ _ _ _ _ _ hn] at h;cases h
theorem Zni (n:Nat) (ps:List (Nat×Nat)) (ops:List CO) (st:St) :
  Qj X M (.region n (some ps) ops) st=Zfz st.m (st.nx+64*n) (Zi5 ops ps (V3 (Zj X M) (Xv M) st.nx 0 false ops st.sl st.hp)):=by
 cases h:V3 (Zj X M) (Xv M) st.nx 0 false ops st.sl st.hp with
 | some r=>
  obtain⟨k,hk⟩:=Zl1 X M _ _ _ _ _ _ _ h;cases hs:Zi5 ops ps (some r) with
  | none=>
   refine XE fun k'=>?_;simp only[Zu];cases hn:V3 (ZY X M k') (Xv M) st.nx 0 false ops st.sl st.hp with
   | none=>rfl
   | some r' =>
    have:=ZdP (Zax X M k') _ _ _ _ _ _ _ hn;rw[h] at this;cases this;rw[hs];rfl
  | some r'=>exact QK X M (n:=k) (by simp only[Zu,hk,hs];rfl)
 | none=>
  refine XE fun k=>?_;simp only[Zu];cases hn:V3 (ZY X M k) (Xv M) st.nx 0 false ops st.sl st.hp with
  | none=>rfl
  | some r=>rw[ZdP (Zax X M k) _ _ _ _ _ _ _ hn] at h;cases h
theorem VX {c:ZC} {st:St} {r:Ex×St} (h:Qj X M c st=some r):∃ n,∀ m,n≤m→Zu (ZY X M m) M m c st=some r:=by
 obtain⟨n,hn⟩:=Zbq h;exact⟨n,fun m hm=>(Zc3 X M c st).le hn hm⟩
theorem Zpf (a b:ZC) (st:St):Qj X M (.seq a b) st=andThen (Qj X M a st) (Qj X M b):=by
 cases ha:Qj X M a st with
 | none=>
  refine XE fun n=>?_;cases h:Zu (ZY X M n) M n a st with
  | none=>simp[Zu,h,andThen]
  | some q=>rw[QK X M h] at ha;cases ha
 | some q=>
  obtain⟨e,aa⟩:=q;obtain⟨n,hn⟩:=VX X M ha;cases e with
  | normal=>
   simp only[andThen];cases hb:Qj X M b aa with
   | none=>
    refine XE fun k=>?_;cases h:Zu (ZY X M k) M k (.seq a b) st with
    | none=>rfl
    | some q=>
     have h1:=(Zc3 X M (.seq a b) st).le h (LM k n);simp only[Zu,hn _ (LI k n),andThen] at h1;rw[QK X M h1] at hb;cases hb
   | some q=>
    obtain⟨m,hm⟩:=VX X M hb;refine QK X M (n:=max n m) ?_;simp only[Zu,hn _ (LM n m),andThen,hm _ (LI n m)]
  | exit id=>exact QK X M (n:=n) (by simp only[Zu,hn _ (Kf n),andThen])
  | ret=>exact QK X M (n:=n) (by simp only[Zu,hn _ (Kf n),andThen])
theorem Znj (c:Opd) (a b:ZC) (st:St) :
  Qj X M (.cond c a b) st=Zcr (evO st.sl c) (Qj X M a st) (Qj X M b st):=by
 unfold Zcr;split
 ·rename_i t h;cases t
  ·simp only[Ka,Kg,Qj,Zu,h,Zcr]
  ·simp only[Kh,Qj,Zu,h,Zcr]
 ·rename_i h;refine XE fun n=>?_;simp only[Zu,Zcr]
theorem Zl2 (id:Nat) (c:ZC) (st:St):Qj X M (.block id c) st=Zbp id (Qj X M c st):=by
 cases hc:Qj X M c st with
 | none=>
  refine XE fun n=>?_;cases h:Zu (ZY X M n) M n c st with
  | none=>simp[Zu,h,Zbp]
  | some q=>rw[QK X M h] at hc;cases hc
 | some q=>
  obtain⟨n,hn⟩:=VX X M hc;cases hb:Zbp id (some q) with
  | none=>
   obtain⟨e,aa⟩:=q;cases e<;>simp[Zbp] at hb
   split at hb<;>cases hb
  | some r=>exact QK X M (n:=n) (by simp only[Zu,hn _ (Kf n),hb])
theorem Znk (K:List Nat) (c:ZC) (st:St):Qj X M (.keep K c) st=Zhr K (Qj X M c st):=by
 cases hc:Qj X M c st with
 | none=>
  refine XE fun n=>?_;cases h:Zu (ZY X M n) M n c st with
  | none=>simp[Zu,h,Zhr]
  | some q=>rw[QK X M h] at hc;cases hc
 | some q=>
  obtain⟨n,hn⟩:=VX X M hc;exact QK X M (n:=n) (by simp only[Zu,hn _ (Kf n),Zhr])
theorem Znl (fl:Bool) (id:Nat) (i:Opd) (j:Nat) (c:ZC) (st:St):Qj X M (.link fl id i j c) st=bnd (Zaw fl id i j st) fun aa=>Zht id st.nx (Qj X M c aa):=by
 cases hl:Zaw fl id i j st with
 | none=>
  refine XE fun n=>?_;simp only[Zu,hl];rfl
 | some st' =>
  rw[Zc];cases hc:Qj X M c st' with
  | none=>
   refine XE fun n=>?_;cases h:Zu (ZY X M n) M n c st' with
   | none=>simp only[Zu,hl,Zc,h];rfl
   | some q=>rw[QK X M h] at hc;cases hc
  | some q=>
   obtain⟨n,hn⟩:=VX X M hc;exact QK X M (n:=n) (by simp only[Zu,hl,Zc,hn _ (Kf n)];rfl)
theorem Znm (c:ZC) (st:St):Qj X M (.melt c) st=Qj X M c (Zkz st):=by
 cases hc:Qj X M c (Zkz st) with
 | none=>
  refine XE fun n=>?_;cases h:Zu (ZY X M n) M n c (Zkz st) with
  | none=>simp only[Zu,h]
  | some q=>rw[QK X M h] at hc;cases hc
 | some q=>
  obtain⟨n,hn⟩:=VX X M hc;exact QK X M (n:=n) (by simp only[Zu,hn _ (Kf n)])
noncomputable def Zbr (c:ZC) (K:List Nat) (st:St):Option (Ex×St):=lim fun n=>V4 (Zu (ZY X M n) M n c) K n st
theorem U9 (c:ZC) (K:List Nat) (st:St):Zpd fun n=>V4 (Zu (ZY X M n) M n c) K n st:=fun n r hr=>
 ZdQ (fun _ _ h=>ZfK (ZeB X M n) (Nat.le_succ n) c _ _ h) K n (n+1) st r (Nat.le_succ n) hr
theorem Znn (c:ZC) (st:St):Qj X M (.loop c) st=Zbr X M c (WT st.sl) st:=by
 simp only[Qj,Zbr,Zu]
theorem Zl3 {c:ZC} {K:List Nat} {st aa : St} (h:Qj X M c (Vt K st)=some (.normal,aa)) :
  Zbr X M c K st=Zbr X M c K aa:=by
 obtain⟨n,hn⟩:=VX X M h;cases hl:Zbr X M c K aa with
 | none=>
  refine XE fun k=>?_;cases hk:V4 (Zu (ZY X M k) M k c) K k st with
  | none=>rfl
  | some q=>
   have h1:=(U9 X M c K st).le hk (show k≤max k n+1 by omega);simp only[V4] at h1;rw[hn (max k n+1) (by omega)] at h1;simp only[] at h1;have h2:=ZdQ (fun _ _ h=>h) K (max k n) (max k n+1) aa q (Nat.le_succ _) h1;rw[show Zbr X M c K aa=some q from Zc2 (U9 X M c K aa) h2] at hl;cases hl
 | some q=>
  obtain⟨m,hm⟩:=Zbq hl;refine Zc2 (U9 X M c K st) (n:=max n m+1) ?_;simp only[V4,hn (max n m+1) (by omega)];exact ZdQ (fun _ _ h=>ZfK (UQ X M (show m≤max n m+1 by omega)) (show m≤max n m+1 by omega) c _ _ h) K m (max n m) aa q (by omega) hm
theorem Zhw {c:ZC} {K:List Nat} {st aa : St} {e:Ex} (he:e≠.normal) (h:Qj X M c (Vt K st)=some (e,aa)) :
  Zbr X M c K st=some (e,aa):=by
 obtain⟨n,hn⟩:=VX X M h;refine Zc2 (U9 X M c K st) (n:=n+1) ?_;simp only[V4,hn (n+1) (by omega)];cases e with
 | normal=>exact absurd rfl he
 | exit id=>rfl
 | ret=>rfl
theorem ZqB {f:Nat} {as:List AV} {h:List Zh} {fn:ZT} {r:AV×List Zh} (hx:X f=some (.text fn))
  (hl:as.length≤fn.nt) (hr:Jv h.length fn.res (Qj X M fn.body { sl:=Ye 0 as,hp:=Yz 0 h,nx:=h.length,m:=h.length })=some r) :
  Zj X M f as h=some r:=by
 cases hv:Qj X M fn.body { sl:=Ye 0 as,hp:=Yz 0 h,nx:=h.length,m:=h.length } with
 | none=>rw[hv] at hr;simp[Jv] at hr
 | some q=>
  rw[hv] at hr;obtain⟨n,hn⟩:=VX X M hv;refine Zc2 (U8 X M f as h) (n:=n+1) ?_;simp only[ZY,hx,ZeA,Zhv,hl,Kh,hn n (Kf n)];exact hr
theorem Zno {f:Nat} {as:List AV} {h:List Zh} {p:List AV→List Zh→Option (AV×List Zh)} {r:AV×List Zh} (hx:X f=some (.prim p)) (hp:p as h=some r) :
  Zj X M f as h=some r:=
 Zc2 (U8 X M f as h) (n:=1) (by simp only[ZY,hx,ZeA,hp])
end
section
variable (P:Program)
def YP (nt:Nat):Code→Option ZC
 | .skip=>some .skip
 | .region _ ops draw=>bnd (Z6 (Zfe P nt ops.toList) ops.toList) fun os=>if draw then (if Zhq ops os then some (.region ops.toList.length (some (UL ops os)) os) else some .stuck) else some (.region ops.toList.length none os)
 | .seq a b=>bnd (YP nt a) fun a=>bnd (YP nt b) fun b=>some (.seq a b)
 | .cond c a b=>bnd (ZE c) fun c=>bnd (YP nt a) fun a=>bnd (YP nt b) fun b=>some (.cond c a b)
 | .block id c=>bnd (YP nt c) fun c=>some (.block id c)
 | .loop c=>bnd (YP nt c) fun c=>some (.loop c)
 | .exit id=>some (.exit id)
 | .ret=>some .ret
 | _=>some .stuck
def Zay:COp→COp
 | .buildT s _ xs=>.buildSl s xs
 | .asgT s _ x=>.assign (some s) x
 | .appT s b flat x y=>.append s b false flat x y
 | .makeT s b _ z l c=>.make s b z l c
 | c=>c
def ZeD:List CO→List CO
 | []=>[]
 | o :: r => { o with op:=Zay o.op } :: ZeD r
def Znp:Option (List (Nat×Nat))→List CO→List CO
 | none,ops=>ZeD ops
 | some _,ops=>ops
def Xr:ZC→ZC
 | .keep _ c=>Xr c
 | .seq a b=>.seq (Xr a) (Xr b)
 | .cond c a b=>.cond c (Xr a) (Xr b)
 | .block id c=>.block id (Xr c)
 | .loop c=>.loop (Xr c)
 | .region n d ops=>.region n d (Znp d ops)
 | .link _ _ _ _ c=>Xr c
 | .melt c=>Xr c
 | .skip=>.skip
 | .exit id=>.exit id
 | .ret=>.ret
 | .stuck=>.stuck
def ZeE (cf:ZT):ZT := { nt:=cf.nt,res:=cf.res,body:=Xr cf.body }
def cRes:ResultVar→Option Zip
 | .tmp t=>some (.tmp t)
 | .cell a t=>bnd (JM P t) fun g=>some (.cell a g (P.cellsOf t))
def cFun (fn:Func):Option ZT:=bnd fn.body fun c=>bnd (YP P fn.ntmps c) fun b=>bnd (Z6 (cRes P) fn.results.toList) fun rs=>some { nt:=fn.ntmps,res:=rs,body:=b }
end
end Go.Abs
